/- Abstract values and states of the program, functions of the program and what their calls come to, and what follows from it: part 6 of the text that the law leans on; long names are written short. -/
import Derived.Test.YtobfemcdchmgeaaGreatP5
set_option linter.unusedVariables false
set_option linter.unusedSimpArgs false
set_option linter.unnecessarySimpa false
namespace Go.Proofs.YtobfemcdchmgeaaGreat
open Go
open Option renaming bind_some → f5i, map_some → f6x, getD_some → f6D, map_eq_some_iff → f6J
open List renaming getElem?_eq_getElem → f5j, replicate → f5k, getElem_mem → f5l, getElem?_eq_some_iff → f5o, mem_singleton → f5p, range → f5q, mem_cons → f5r, nodup_append → f5s, eq_nil_of_length_eq_zero → f5t, length_append → f5u, mem_of_getElem? → f5w, getD_eq_getElem?_getD → f5x, drop_eq_getElem_cons → f5z, getElem?_append_right → f5A, append_assoc → f5B, take_length → f5C, getElem?_set_ne → f5D, getElem?_append_left → f5E, drop_eq_nil_of_le → f5F, length_take → f5G, flatten_cons → f5L, take_succ_eq_append_getElem → f5N, getElem?_eq_none → f5O, map_cons → f5Q, append_nil → f5S, take_zero → f5T, any_eq_false → f5U, take_of_length_le → f5V, take_append_of_le_length → f5W, pairwise_iff_getElem → f5X, length_map → f5Y, mem_replicate → f5Z, findIdx?_eq_some_iff_getElem → f6a, nil_append → f6b, take_append_drop → f6e, getElem_of_mem → f6g, mem_flatten → f6h, getElem?_map → f6i, mem_of_mem_drop → f6j, mem_of_mem_take → f6k, getElem?_set_self → f6l, length_cons → f6n, length_singleton → f6o, getElem?_cons_zero → f6p, drop_zero → f6q, mem_take_iff_getElem → f6t, mem_range → f6u, map_append → f6v, getElem?_cons_succ → f6w, pairwise_cons → f6z, length_set → f6B, nodup_cons → f6C, any_eq_true → f6E, mem_append_left → f6G, getElem?_set → f6H, getElem?_drop → f6K, getElem?_take → f6L, find?_cons → f6N, length_nil → f6O, all_eq_false → f6Q, sublist_append_right → f6S, getElem?_of_mem → f6T, pairwise_append → f6U, Perm → f6W, drop_drop → f6X, cons_append → f6Z, getElem_map → f7a, take_succ_cons → f7b, replicate_succ → f7c, foldl_cons → f7d, drop_append_of_le_length → f7e, size_toArray → f7f, toArray → f7g, map_map → f7h, Sublist → f7i, set_getElem_self → f7j, length_replicate → f7l, getElem?_append → f7m, not_mem_nil → f7n, drop_length → f7p, mem_cons_of_mem → f7q, any_cons → f7r, flatten_append → f7s, findIdx?_eq_none_iff → f7t, mem_of_find?_eq_some → f7u, find?_eq_none → f7v, foldl_nil → f7x
open Bool renaming and_eq_true → f5m, not_true → f5n, true_and → f5v, not_false → f5J, false_or → f5R, not_eq_true' → f6c, or_eq_false_iff → f6s, false_eq_true → f6y, and_true → f6A, eq_iff_iff → f6P, and_assoc → f6Y, true_or → f7k, not_not → f7w
open Nat renaming le_refl → f5y, mul_le_mul_right → f5M, eq_of_beq_eq_true → f5P, zero_add → f6m, succ_mul → f6r, lt_of_lt_of_le → f6F, le_mul_of_pos_right → f6I, add_zero → f6M, le_succ_of_le → f6R, zero_le → f6V
open Int renaming le_refl → f5H, toNat_natCast → f5I, tmod → f5K, le_trans → f6d, tdiv → f7o
open Option.some renaming inj → f6f
noncomputable section
theorem e0u{w:m5}(h:WI w)(hp:PW w){e:s5}(he:L1 e):PW (D7 w e):=by
 obtain ⟨V,P,M,h1,hM⟩:=hp;have hp:PW w:=⟨V,P,M,h1,hM⟩
 unfold D7;cases hk:e.a8==2||(e.a8==3||e.a8==4)
 ·simp only [cond_false];cases hA:p9 e.A 0 2
  ·exact hp
  simp only [f5n,cond_false];rw [K4] at hA;obtain ⟨i,hi⟩:∃i:Nat,e.A=(i:Int):=⟨e.A.toNat,by omega⟩
  have hi3:i<3:=by omega
  have hD:D3 (i:Int):=by unfold D3;omega
  rw [hi];have hN:w9 w (i:Int)=I9 w (i:Int):=a3t hD;cases e.a8==1
  ·cases e.a8==5
   ·cases e.a8==6
    ·cases e.a8==7
     ·exact hp
     ·have hg:=h1.fall hD;rw [hN] at hg;exact PW.put (V:=V) (P:=P) h hi3 hM hg rfl fun m hm=>.inl hm
    ·have hg:=h1.retry hD;rw [hN] at hg;exact PW.put (V:=V) (P:=P) h hi3 hM hg rfl fun m hm=>a2l (w:=O6 w _ _) hm
   ·have hg:=h1.rise hD;rw [hN] at hg;exact PW.put (V:=V) (P:=P) h hi3 hM hg rfl fun m hm=>a2l (w:=O6 w _ _) hm
  ·simp only [cond_true];unfold a6f;cases decide (60<=w.d7.length)
   ·have hg:=h1.ask hD (A3.fits he (by decide));rw [hN] at hg;simp only [cond_false];cases decide ((N4 (I9 w (i:Int)) e.i6).1.Seq>(I9 w (i:Int)).Seq)
    ·exact PW.put (V:=V) (P:=P) h hi3 hM hg rfl fun m hm=>a2l (w:=O6 w _ _) hm
    ·exact PW.put (V:=V) (P:=P) h hi3 hM hg rfl fun m hm=>a2l (w:=O6 {w with d7:=w.d7++[_]} _ _) hm
   ·exact hp
 ·simp only [cond_true];unfold a2E;cases hA:decide (0<=e.A)
  ·exact hp
  simp only [cond_true];cases hm:w.c8[e.A.toNat]? with
  | none=>exact hp
  | some m =>
   have hmem:=f5w hm;simp only;cases e.a8==4
   ·cases e.a8==3
    ·simp only [cond_false];have hmi:=(h1.ms m (hM m hmem)).1;have hto:=hmi.to;obtain ⟨t,htt⟩:∃t:Nat,m.To=(t:Int):=⟨m.To.toNat,by omega⟩
     have hD:D3 (t:Int):=by unfold D3;omega
     have hN:w9 w (t:Int)=I9 w (t:Int):=a3t hD;have hg:=h1.take hD (hM m hmem) htt;rw [hN] at hg;rw [htt];exact PW.put (V:=V) (P:=P) h (show t<3 by omega) hM hg rfl fun x hx=>(a2l (w:=O6 (a28 w e.A) _ _) hx).imp (fun q=>b5v q) id
    ·exact hp.less rfl fun x hx=>b5v hx
   ·exact hp.less rfl fun x hx=>(a2l hx).elim id fun q=>by rw [f5p.1 q];exact hmem
theorem e70:PW P8:=by
 have hn:∀j,D3 j->w9 P8 j=C5 j:=fun j hj=>by
  rw [a3t hj];unfold D3 at hj;obtain rfl|rfl|rfl:j=0\/j=1\/j=2:=by omega
  all_goals rfl
 refine ⟨fun _ _ _ _=>False,fun _ _ _=>False,fun _=>False,⟨fun i hi => ?_,fun _ _ _ _ v=>v.elim,fun i s v hi hs _ => ?_,fun _ _ _ _ v=>v.elim,fun _ _ _ _ p=>p.elim,fun _ _ _ p=>p.elim,fun _ _ _ p=>p.elim,fun i hi => ?_,fun i s e hi hk => ?_,fun _ hm=>hm.elim⟩,fun m hm=>by cases hm⟩
 ·rw [hn i hi];exact ⟨NI.open hi,rfl⟩
 ·rw [hn i hi] at hs;simp [C5] at hs
 ·rw [hn i hi];exact .none rfl
 ·rw [hn i hi] at hk;simp [C5] at hk
theorem d3c:∀{l:List s5} {w:m5},WI w->PW w->(∀e∈l,L1 e)->PW (a1f w l)
 | [],_,_,h,_=>h
 | e::l,w,hw,h,he=>d3c (l:=l) (w:=D7 w e) (a6v hw (he e (by simp))).2 (e0u hw h (he e (by simp))) fun x hx=>he x (by simp [hx])
structure ND(L:m4->Prop)(n:j6):Prop where
 kn:∀e∈n.a5,L e
 av:∀v∈n.Acc.a6,v.a7>0->L v.i4
 bv:∀v∈n.i0,v.a7>0->L v.i4
 cu:n.d8=3->L n.d6
 wt:n.i9=true->L n.b8
 qu:∀e∈n.f0,L e
structure ML(L:m4->Prop)(m:l8):Prop where
 en:m.a8=3\/m.a8=5\/m.a8=7->L m.i4
 vs:∀v∈m.a6,v.a7>0->L v.i4
def TO(n x:j6)(ts:List n5):Prop:=ts=[]\/(n.i9=true/\x.i9=false/\∃k,x.a5.findIdx? (D2 n.b8.a0)=some k/\ts=[⟨n.Id,n.b8.a0,K1 x.a5 k,bif K1 x.a5 k==0 then Q3 x.a5 n.b8.a0 else 0⟩])
structure Act(L:m4->Prop)(n x:j6)(l:List l8)(ts:List n5):Prop where
 id:x.Id=n.Id
 sq:x.Seq=n.Seq
 kn:∃t,x.a5=n.a5++t
 bw:(x.i9=n.i9/\x.b8=n.b8)\/x.i9=false
 nd:ND L x
 ml:∀m∈l,ML L m
 to:TO n x ts
section
variable {L:m4->Prop} {n:j6} {m:l8}
theorem Act.same(h:ND L n):Act L n n [] []:=⟨rfl,rfl,⟨[],by simp⟩,.inl ⟨rfl,rfl⟩,h,by simp,.inl rfl⟩
theorem Act.of{x:j6}{l:List l8}(e1:x.Id=n.Id)(e2:x.Seq=n.Seq)(e3:x.a5=n.a5)(e4:x.i9=n.i9)(e5:x.b8=n.b8)(h:ND L x)(hm:∀m∈l,ML L m):Act L n x l [] :=
 ⟨e1,e2,⟨[],by rw [e3];simp⟩,.inl ⟨e4,e5⟩,h,hm,.inl rfl⟩
theorem ML.plain(h1:m.a8≠3)(h2:m.a8≠5)(h3:m.a8≠7)(hv:m.a6=[]):ML L m:=⟨fun h=>by omega,by rw [hv];simp⟩
theorem ML.has(hv:m.a6=[])(h:L m.i4):ML L m:=⟨fun _=>h,by rw [hv];simp⟩
theorem ML.all{id:Int}{x:l8}(h:ML L m)(hx:x∈I4 id m):ML L x:=by
 unfold I4 at hx;obtain ⟨t,_,rfl⟩:=List.mem_map.1 hx;exact ⟨h.en,h.vs⟩
theorem ND.down(h:ND L n):ND L (a3v n):=⟨h.kn,h.av,by simp [a3v],fun q=>absurd (show (0:Int)=3 from q) (by decide),h.wt,h.qu⟩
theorem ND.yield(h:ND L n)(b:Int):ND L (N0 n b):=by
 unfold N0;cases n.d8 != 0&&decide (b>n.a7)
 ·exact h
 ·exact h.down
theorem c3P(n:j6)(b:Int):(N0 n b).Seq=n.Seq/\(N0 n b).a5=n.a5/\(N0 n b).i9=n.i9/\(N0 n b).b8=n.b8:=by
 unfold N0;cases n.d8 != 0&&decide (b>n.a7)<;>exact ⟨rfl,rfl,rfl,rfl⟩
theorem ND.next(h:ND L n)(h0:L eN){e:m4}(hn:a2p n e):L e:=by
 cases hn with
 | best v hv hb=>exact h.bv v (f5w hv) hb
 | gap=>exact h0
 | want hb=>exact h.wt hb
 | queue e he=>exact h.qu e he
theorem d3g{a x:z0}{b s:Int}{e:m4}(hc:K5 a b s e=some x)(h:∀v∈a.a6,v.a7>0->L v.i4)(he:L e):∀v∈x.a6,v.a7>0->L v.i4:=by
 obtain ⟨k,rfl,_,_,_,_,_,rfl⟩:=b7Z hc;intro v hv hb;rcases d5y hv with q|q
 ·rcases c3y q with q|q
  ·exact h v q hb
  ·rw [q] at hb;exact absurd hb (by decide)
 ·rw [q];exact he
theorem Act.propose(h:ND L n)(h0:L eN):Act L n (M1 n).1 (M1 n).2 []:=by
 unfold M1;cases n.d8 != 2||decide (40<=n.a5.length)
 case true=>exact .same h
 simp only [cond_false];obtain ⟨q,hq,hql,hqm,hqe⟩:=b01 n;cases hx:a0D n with
 | mk x o =>
 rw [hx] at hq hqe;have hq:x={n with f0:=q}:=hq;subst hq;have hQ:ND L {n with f0:=q}:=⟨h.kn,h.av,h.bv,h.cu,h.wt,fun e he=>h.qu e (hqm e he)⟩
 cases o with
 | none=>exact .of rfl rfl rfl rfl rfl hQ (by simp)
 | some e =>
  have he:=h.next h0 (hqe e rfl);simp only [a6M];cases hc:K5 n.Acc n.a7 (n.a5.length:Int) e with
  | none=>exact .of rfl rfl rfl rfl rfl hQ.down (by simp)
  | some a=>exact .of rfl rfl rfl rfl rfl ⟨h.kn,d3g hc h.av he,h.bv,fun _=>he,h.wt,hQ.qu⟩ fun m hm=>(ML.has rfl he).all hm
theorem Act.thenP{a:j6}{l:List l8}{ts:List n5}(h:Act L n a l ts)(h0:L eN):Act L n (M1 a).1 (l++(M1 a).2) ts:=by
 have hp:=Act.propose h.nd h0;have hk:=b5R a;obtain ⟨t,ht⟩:=h.kn;refine ⟨hk.id.trans h.id,hk.seq.trans h.sq,⟨t,hk.known.trans ht⟩,h.bw.imp (fun q=>⟨hk.busy.trans q.1,hk.want.trans q.2⟩) fun q=>hk.busy.trans q,hp.nd,fun m hm=>(List.mem_append.1 hm).elim (h.ml m) (hp.ml m),?_⟩;unfold TO;rw [hk.known,hk.busy];exact h.to
theorem Act.know{e:m4}(h:ND L n)(he:L e):Act L n (U5 (E1 n e)).1 [] (U5 (E1 n e)).2:=by
 have k1:(E1 n e).Id=n.Id:=b6T n e;have k2:(E1 n e).Seq=n.Seq:=by unfold E1;cases n.d8==3<;>rfl
 have k3:(E1 n e).a5=n.a5++[e]:=c0B n e;have k4:(E1 n e).i9=n.i9/\(E1 n e).b8=n.b8:=by unfold E1;cases n.d8==3<;>exact ⟨rfl,rfl⟩
 have kk:∀x∈n.a5++[e],L x:=fun x hx=>(List.mem_append.1 hx).elim (h.kn x) fun q=>by rw [f5p.1 q];exact he
 have hnd:ND L (E1 n e):=by
  unfold E1;cases hp:n.d8==3
  ·exact ⟨kk,h.av,h.bv,h.cu,h.wt,h.qu⟩
  ·exact ⟨kk,h.av,h.bv,fun q=>absurd (show (2:Int)=3 from q) (by decide),h.wt,h.qu⟩
 rcases b0W (E1 n e) with q|⟨k,q1,q2,q⟩<;>rw [q]
 ·exact ⟨k1,k2,⟨[e],k3⟩,.inl k4,hnd,by simp,.inl rfl⟩
 ·refine ⟨k1,k2,⟨[e],k3⟩,.inr rfl,⟨hnd.kn,hnd.av,hnd.bv,hnd.cu,fun q=>(by cases q),hnd.qu⟩,by simp,.inr ⟨by rw [<-k4.1];exact q1,rfl,k,by rw [<-k4.2];exact q2,?_⟩⟩;rw [<-k4.2,<-k1];rfl
theorem Act.learn{e:m4}(h:ND L n)(h0:L eN)(he:L e):Act L n (Y2 n e).1 (Y2 n e).2.1 (Y2 n e).2.2:=by
 have:=(Act.know h he).thenP h0;rw [f6b] at this;exact this
theorem e8Z{α:Type}{l:List α}{k:Nat}{x:α}(h:x∈l.drop k):x∈l:=f6j h
theorem Act.take(h:ND L n)(h0:L eN)(hm:ML L m)(hmi:MI m):Act L n (W5 n m).1 (W5 n m).2.1 (W5 n m).2.2:=by
 unfold W5;by_cases k1:m.a8=1
 ·rw [show (m.a8==1)=true by simpa using k1];simp only [cond_true];unfold a1v;cases hp:I3 n.Acc m.a7 with
  | none=>exact .of rfl rfl rfl rfl rfl h fun x hx=>by rw [f5p.1 hx];exact .plain (by simp [L0]) (by simp [L0]) (by simp [L0]) rfl
  | some a =>
   obtain ⟨rfl,_⟩:=a4m hp;obtain ⟨y1,y2,y3,y4⟩:=c3P {n with Acc:=⟨m.a7,n.Acc.a6⟩} m.a7;have hg:ND L {n with Acc:=⟨m.a7,n.Acc.a6⟩}:=⟨h.kn,h.av,h.bv,h.cu,h.wt,h.qu⟩
   refine .of (a5Z _ _) y1 y2 y3 y4 (hg.yield _) fun x hx => ?_
   rw [f5p.1 hx];exact ⟨fun q=>by simp [L0] at q,fun v hv=>h.av v (e8Z hv)⟩
 rw [show (m.a8==1)=false by simpa using k1];by_cases k2:m.a8=2
 ·rw [show (m.a8==2)=true by simpa using k2];simp only [cond_true,cond_false];unfold a1z;have hb:∀v∈D5 n.i0 (f5k m.g8.toNat v0++m.a6),v.a7>0->L v.i4:=fun v hv hb=>by
   rcases a9C hv with q|q
   ·exact h.bv v q hb
   ·rcases List.mem_append.1 q with q|q
    ·rw [(f5Z.1 q).2] at hb;exact absurd hb (by decide)
    ·exact hm.vs v q hb
  cases n.d8 != 1||m.a7 != n.a7
  ·simp only [cond_false];cases M8 (n.c9.set m.c9.toNat true)
   ·exact .of rfl rfl rfl rfl rfl ⟨h.kn,h.av,hb,h.cu,h.wt,h.qu⟩ (by simp)
   ·simp only [cond_true];have h1:Act L n {n with c9:=[],i0:=D5 n.i0 (f5k m.g8.toNat v0++m.a6),d8:=2} [] []:=.of rfl rfl rfl rfl rfl ⟨h.kn,h.av,hb,fun q=>absurd (show (2:Int)=3 from q) (by decide),h.wt,h.qu⟩ (by simp);have h2:=h1.thenP h0;rw [f6b] at h2;exact h2
  ·exact .same h
 rw [show (m.a8==2)=false by simpa using k2];by_cases k3:m.a8=3
 ·rw [show (m.a8==3)=true by simpa using k3];simp only [cond_true,cond_false];unfold a1D;cases hp:K5 n.Acc m.a7 m.g8 m.i4 with
  | none=>exact .of rfl rfl rfl rfl rfl h fun x hx=>by rw [f5p.1 hx];exact .plain (by simp [L0]) (by simp [L0]) (by simp [L0]) rfl
  | some a =>
   obtain ⟨y1,y2,y3,y4⟩:=c3P {n with Acc:=a} m.a7;have hg:ND L {n with Acc:=a}:=⟨h.kn,d3g hp h.av (hm.en (.inl k3)),h.bv,h.cu,h.wt,h.qu⟩
   refine .of (a5Z _ _) y1 y2 y3 y4 (hg.yield _) fun x hx => ?_
   rw [f5p.1 hx];exact .plain (by simp [L0]) (by simp [L0]) (by simp [L0]) rfl
 rw [show (m.a8==3)=false by simpa using k3];by_cases k4:m.a8=4
 ·rw [show (m.a8==4)=true by simpa using k4];simp only [cond_true,cond_false];unfold a2y;cases hc:n.d8 != 3||(m.a7 != n.a7||m.g8 != (n.a5.length:Int))
  ·simp only [cond_false];simp only [f6s,bne_eq_false_iff_eq] at hc;have hcu:=h.cu hc.1;have h1:ND L {n with a6:=n.a6.set m.c9.toNat true}:=⟨h.kn,h.av,h.bv,h.cu,h.wt,h.qu⟩
   cases M8 (n.a6.set m.c9.toNat true)
   ·exact .of rfl rfl rfl rfl rfl h1 (by simp)
   ·simp only [cond_true];have h2:=Act.learn h1 h0 hcu;exact ⟨h2.id,h2.sq,h2.kn,h2.bw,h2.nd,fun x hx=>(List.mem_append.1 hx).elim (fun q=>(ML.has rfl hcu).all q) (h2.ml x),h2.to⟩
  ·exact .same h
 rw [show (m.a8==4)=false by simpa using k4];by_cases k5:m.a8=5
 ·rw [show (m.a8==5)=true by simpa using k5];simp only [cond_true,cond_false];unfold a2A;cases decide (m.g8<(n.a5.length:Int))
  ·cases decide (m.g8>(n.a5.length:Int))
   ·exact .learn h h0 (hm.en (.inr (.inl k5)))
   ·exact .of rfl rfl rfl rfl rfl h fun x hx=>by rw [f5p.1 hx];exact .plain (by simp [L0]) (by simp [L0]) (by simp [L0]) rfl
  ·exact .same h
 rw [show (m.a8==5)=false by simpa using k5];by_cases k6:m.a8=6
 ·rw [show (m.a8==6)=true by simpa using k6];simp only [cond_true,cond_false];have hg:ND L {n with Acc:=(I3 n.Acc m.a7).getD n.Acc}:=by
   cases hp:I3 n.Acc m.a7 with
   | none=>exact h
   | some a =>
    obtain ⟨rfl,_⟩:=a4m hp;exact ⟨h.kn,h.av,h.bv,h.cu,h.wt,h.qu⟩
  obtain ⟨y1,y2,y3,y4⟩:=c3P {n with Acc:=(I3 n.Acc m.a7).getD n.Acc} m.a7;exact .of (a5Z _ _) y1 y2 y3 y4 (hg.yield _) (by simp)
 rw [show (m.a8==6)=false by simpa using k6];by_cases k7:m.a8=7
 ·rw [show (m.a8==7)=true by simpa using k7];simp only [cond_true,cond_false];unfold a1w;cases n.d8==0||(decide (4<=n.f0.length)||M9 n.a5 m.i4.a0)
  ·simp only [cond_false];have h1:Act L n {n with f0:=n.f0++[m.i4]} [] []:=.of rfl rfl rfl rfl rfl ⟨h.kn,h.av,h.bv,h.cu,h.wt,fun e he=>(List.mem_append.1 he).elim (h.qu e) fun q=>by rw [f5p.1 q];exact hm.en (.inr (.inr k7))⟩ (by simp);have h2:=h1.thenP h0;rw [f6b] at h2;exact h2
  ·exact .same h
 rw [show (m.a8==7)=false by simpa using k7];cases m.a8==8
 ·exact .same h
 ·refine .of rfl rfl rfl rfl rfl h fun x hx => ?_
  obtain ⟨l,hl,hx⟩:=f6h.1 hx;obtain ⟨j,hj,rfl⟩:=List.mem_map.1 hl;unfold a1o at hx;cases hk:n.a5[m.g8.toNat+j]? with
  | none=>rw [hk] at hx;cases hx
  | some e =>
   rw [hk] at hx;rw [f5p.1 hx];exact .has rfl (h.kn e (f5w hk))
theorem Act.rise(h:ND L n):Act L n (Y3 n).1 (Y3 n).2 []:=by
 unfold Y3;cases decide (M0 n.Acc.g9 n.Id<0)
 ·refine .of rfl rfl rfl rfl rfl ⟨h.kn,h.av,h.av,fun q=>absurd (show (1:Int)=3 from q) (by decide),h.wt,h.qu⟩ fun x hx=>(ML.plain (by simp) (by simp) (by simp) rfl).all hx
 ·exact .same h
theorem Act.retry(h:ND L n)(h0:L eN):Act L n (V4 n).1 (V4 n).2 []:=by
 have hn:∀x∈I4 n.Id ⟨8,0,0,0,(n.a5.length:Int),zE,[]⟩,ML L x:=fun x hx=>(ML.plain (by simp) (by simp) (by simp) rfl).all hx
 have M8:∀{l:List l8},(∀x∈l,ML L x)->Act L n n (I4 n.Id ⟨8,0,0,0,(n.a5.length:Int),zE,[]⟩++l) []:=fun {l} hl=>.of rfl rfl rfl rfl rfl h fun x hx=>(List.mem_append.1 hx).elim (hn x) (hl x)
 unfold V4;by_cases h1:n.d8=1
 ·rw [show (n.d8==1)=true by simpa using h1];exact M8 fun x hx=>(ML.plain (by simp) (by simp) (by simp) rfl).all hx
 rw [show (n.d8==1)=false by simpa using h1];by_cases h2:n.d8=2
 ·rw [show (n.d8==2)=true by simpa using h2];have hp:Act L n n (I4 n.Id ⟨8,0,0,0,(n.a5.length:Int),zE,[]⟩) []:=.of rfl rfl rfl rfl rfl h hn;exact hp.thenP h0
 rw [show (n.d8==2)=false by simpa using h2];by_cases h3:n.d8=3
 ·rw [show (n.d8==3)=true by simpa using h3];exact M8 fun x hx=>(ML.has rfl (h.cu h3)).all hx
 rw [show (n.d8==3)=false by simpa using h3];cases hb:n.i9
 ·exact .of rfl rfl rfl rfl rfl h hn
 ·exact M8 fun x hx=>(ML.has rfl (h.wt hb)).all hx
theorem Act.fall(h:ND L n):Act L n (a1p n) [] []:=⟨rfl,rfl,⟨[],by simp [a1p,C5]⟩,.inr rfl,⟨h.kn,h.av,by simp [a1p,C5],fun q=>absurd (show (0:Int)=3 from q) (by decide),fun q=>(by cases q),by simp [a1p,C5]⟩,by simp,.inl rfl⟩
theorem ND.mono{L':m4->Prop}(h:ND L n)(hi:∀e,L e->L' e):ND L' n:=⟨fun e q=>hi e (h.kn e q),fun v q b=>hi _ (h.av v q b),fun v q b=>hi _ (h.bv v q b),fun q=>hi _ (h.cu q),fun q=>hi _ (h.wt q),fun e q=>hi e (h.qu e q)⟩
theorem ML.mono{L':m4->Prop}(h:ML L m)(hi:∀e,L e->L' e):ML L' m:=⟨fun q=>hi _ (h.en q),fun v q b=>hi _ (h.vs v q b)⟩
end
def a0B(w:m5)(e:m4):Prop:=e.i7=true\/∃a∈w.d7,a.a0=e.a0/\∃j,j<=(w9 w e.a0.b9).a5.length/\(∀x∈(w9 w e.a0.b9).a5.take j,D2 e.a0 x=false)/\e.b7=B8 (o8 ((w9 w e.a0.b9).a5.take j)).1.g7 a.i6
def a8W(l:List m4)(t:n5):Prop := ∃k,l.findIdx? (D2 t.a0)=some k/\t.Code=K1 l k/\t.d9=bif K1 l k==0 then Q3 l t.a0 else 0
structure TL(w:m5):Prop where
 nd:∀i,D3 i->ND (a0B w) (w9 w i)
 ml:∀m∈w.c8,ML (a0B w) m
 aq:∀a∈w.d7,D3 a.a0.b9/\1<=a.a0.Seq/\a.a0.Seq<=(w9 w a.a0.b9).Seq
 au:(w.d7.map (·.a0)).Nodup
 tn:∀t∈w.Told,t.Node=t.a0.b9/\D3 t.Node/\(∃a∈w.d7,a.a0=t.a0)/\((w9 w t.Node).i9=true->t.a0.Seq<(w9 w t.Node).Seq)/\a8W (w9 w t.Node).a5 t
 tu:(w.Told.map (·.a0)).Nodup
theorem d2A{l t:List m4}{q:n7}{k:Nat}(h:l.findIdx? (D2 q)=some k):(l++t).findIdx? (D2 q)=some k:=by
 rw [List.findIdx?_append,h];rfl
theorem d6x{l t:List m4}{k:Nat}(h:G0 (l++t)=true)(hk:k<l.length):K1 (l++t) k=K1 l k:=by
 have hl:G0 l=true:=by
  unfold G0 at h ⊢;simp only [f5u,List.all_append,f5m,decide_eq_true_eq] at h ⊢;exact ⟨by omega,h.2.1⟩
 rw [c24 h (by rw [f5u];omega),c24 hl hk,f5W (by omega),List.getElem_append_left hk]
theorem e9z{l t:List m4}{q:n7}{k:Nat}(h:l.findIdx? (D2 q)=some k):Q3 (l++t) q=Q3 l q:=by
 obtain ⟨hk,_⟩:=b36 h;unfold Q3;rw [d2A h,h];simp only [f5E hk]
theorem a8W.app{l t:List m4}{x:n5}(h:a8W l x)(hl:G0 (l++t)=true):a8W (l++t) x:=by
 obtain ⟨k,h1,h2,h3⟩:=h;obtain ⟨hk,_⟩:=b36 h1;exact ⟨k,d2A h1,by rw [d6x hl hk];exact h2,by rw [d6x hl hk,e9z h1];exact h3⟩
theorem b1B{w:m5}(h:WI w){i:Int}(hi:D3 i):NI (w9 w i)/\(w9 w i).Id=i:=by
 rw [a3t hi];unfold D3 at hi;obtain ⟨k,rfl⟩:∃k:Nat,i=(k:Int):=⟨i.toNat,by omega⟩
 obtain ⟨n,_,h2,h3,h4,_⟩:=a7t h (i:=k) (by omega);rw [h2];exact ⟨h4,h3⟩
theorem c4s{w w':m5}(hl:w.a9.length=3){i:Nat}(hi:i<3)(n:j6)(hw:w'.a9=w.a9.set i n)(j:Int):w9 w' j=if j=(i:Int) then n else w9 w j:=by
 unfold w9 I9;rw [hw];by_cases hj:0<=j/\j<=2
 ·rw [if_pos hj,if_pos hj];by_cases q:j=(i:Int)
  ·subst q;rw [if_pos rfl,f5I,f5x,f6l (by omega)];rfl
  ·rw [if_neg q,f5x,f5D (by omega),<-f5x]
 ·rw [if_neg hj,if_neg hj,if_neg (by omega)]
theorem a0B.mono{w w':m5}(hk:∀j,∃t,(w9 w' j).a5=(w9 w j).a5++t)(ha:∀a∈w.d7,a∈w'.d7){e:m4}(h:a0B w e):a0B w' e:=by
 rcases h with h|⟨a,h1,h2,j,h3,h4,h5⟩
 ·exact .inl h
 ·obtain ⟨t,ht⟩:=hk e.a0.b9;refine .inr ⟨a,ha a h1,h2,j,by rw [ht,f5u];omega,?_,?_⟩
  ·rw [ht,f5W h3];exact h4
  ·rw [ht,f5W h3];exact h5
theorem TL.step{w w':m5}(h:TL w)(hl:w.a9.length=3){i:Nat}(hi:i<3)(hni:NI (w9 w (i:Int)))(hid:(w9 w (i:Int)).Id=(i:Int)){n':j6}{l:List l8}{ts:List n5}(hn':NI n')(ha:Act (a0B w) (w9 w (i:Int)) n' l ts)(hn:w'.a9=w.a9.set i n')(hm:∀m∈w'.c8,m∈w.c8\/m∈l)(hk:w'.d7=w.d7)(ht:w'.Told=w.Told\/w'.Told=w.Told++ts):TL w':=by
 have hJ:=c4s hl hi n' hn;have hD:D3 (i:Int):=by unfold D3;omega
 have hJi:w9 w' (i:Int)=n':=by rw [hJ,if_pos rfl]
 have hkn:∀j,∃t,(w9 w' j).a5=(w9 w j).a5++t:=fun j=>by
  rw [hJ];split
  ·rename_i q;subst q;exact ha.kn
  ·exact ⟨[],by simp⟩
 have hmo:∀e,a0B w e->a0B w' e:=fun e=>a0B.mono hkn (by rw [hk];exact fun _ q=>q)
 have hsq:∀j,(w9 w' j).Seq=(w9 w j).Seq:=fun j=>by
  rw [hJ];split
  ·rename_i q;subst q;exact ha.sq
  ·rfl
 have hls:∀j,D3 j->NI (w9 w j)->∀t,(w9 w' j).a5=(w9 w j).a5++t->G0 ((w9 w j).a5++t)=true\/(w9 w' j).a5=(w9 w j).a5:=fun j hj hjn t ht=>by
  by_cases q:j=(i:Int)
  ·subst q;rw [hJi] at ht;left;rw [<-ht];exact hn'.list
  ·right;rw [hJ,if_neg q]
 have old:∀t∈w.Told,t.Node=t.a0.b9/\D3 t.Node/\(∃a∈w'.d7,a.a0=t.a0)/\((w9 w' t.Node).i9=true->t.a0.Seq<(w9 w' t.Node).Seq)/\a8W (w9 w' t.Node).a5 t:=by
  intro t q;obtain ⟨x1,x2,x3,x4,x5⟩:=h.tn t q;refine ⟨x1,x2,by rw [hk];exact x3,fun hb => ?_,?_⟩
  ·rw [hsq];refine x4 ?_;rw [hJ] at hb;split at hb
   ·rename_i q;rw [q];rcases ha.bw with ⟨b,_⟩|b
    ·rw [<-b];exact hb
    ·rw [b] at hb;cases hb
   ·exact hb
  ·obtain ⟨t',ht'⟩:=hkn t.Node;rw [ht'];by_cases q:t.Node=(i:Int)
   ·refine x5.app ?_;rw [<-ht',q,hJi];exact hn'.list
   ·have:t'=[]:=by
     rw [hJ,if_neg q] at ht';have:=congrArg List.length ht';rw [f5u] at this;exact f5t (by omega)
    rw [this,f5S];exact x5
 have new:∀t∈ts,(t.Node=t.a0.b9/\D3 t.Node/\(∃a∈w'.d7,a.a0=t.a0)/\((w9 w' t.Node).i9=true->t.a0.Seq<(w9 w' t.Node).Seq)/\a8W (w9 w' t.Node).a5 t)/\ts=[t]/\(w9 w (i:Int)).i9=true/\t.a0=⟨(i:Int),(w9 w (i:Int)).Seq⟩:=by
  intro t q;rcases ha.to with e|⟨b1,b2,k,b3,b4⟩
  ·rw [e] at q;cases q
  ·rw [b4] at q;have q:=f5p.1 q;have hw:(w9 w (i:Int)).b8.a0=⟨(i:Int),(w9 w (i:Int)).Seq⟩/\(w9 w (i:Int)).b8.i7=false:=by
    rcases hni.wt with y|y
    ·exact ⟨by rw [y.2.2.2.2,hid],y.2.2.2.1⟩
    ·rw [b1] at y;cases y.1
   have hlg:=(h.nd (i:Int) hD).wt b1;rcases hlg with y|⟨a,a1,a2,_⟩
   ·rw [hw.2] at y;cases y
   ·subst q;refine ⟨⟨?_,by show D3 _;rw [hid];exact hD,⟨a,by rw [hk];exact a1,a2⟩,?_,?_⟩,b4,b1,hw.1⟩
    ·show (w9 w (i:Int)).Id=(w9 w (i:Int)).b8.a0.b9
     rw [hw.1,hid]
    ·show (w9 w' (w9 w (i:Int)).Id).i9=true->_
     rw [hid,hJi,b2];intro y;cases y
    ·show a8W (w9 w' (w9 w (i:Int)).Id).a5 _
     rw [hid,hJi];exact ⟨k,b3,rfl,rfl⟩
 refine ⟨fun j hj => ?_,fun m q => ?_,fun a q => ?_,by rw [hk];exact h.au,fun t q => ?_,?_⟩
 ·rw [hJ];split
  ·exact ha.nd.mono hmo
  ·exact (h.nd j hj).mono hmo
 ·exact (hm m q).elim (fun q=>(h.ml m q).mono hmo) fun q=>(ha.ml m q).mono hmo
 ·rw [hk] at q;obtain ⟨x1,x2,x3⟩:=h.aq a q;exact ⟨x1,x2,by rw [hsq];exact x3⟩
 ·rcases ht with e|e
  ·rw [e] at q;exact old t q
  ·rw [e] at q;exact (List.mem_append.1 q).elim (old t) fun q=>(new t q).1
 ·rcases ht with e|e
  ·rw [e];exact h.tu
  ·rw [e,f6v];refine f5s.2 ⟨h.tu,?_,?_⟩
   ·cases hts:ts with
    | nil=>simp
    | cons t r =>
     have:=(new t (by rw [hts];simp)).2.1;rw [hts] at this;injection this with _ hr;rw [hr];simp
   ·intro a ha' b hb' hab;obtain ⟨x,hx,rfl⟩:=List.mem_map.1 ha';obtain ⟨y,hy,rfl⟩:=List.mem_map.1 hb';obtain ⟨_,_,n3,n4⟩:=new y hy;obtain ⟨o1,o2,o3,o4,o5⟩:=h.tn x hx;rw [n4] at hab;have:x.Node=(i:Int):=by rw [o1,hab]
    have:=o4 (by rw [this];exact n3);rw [‹x.Node=(i:Int)›,hab] at this;simp only at this;omega
theorem TL.asked{w w':m5}(h:TL w)(hw:WI w){i:Nat}(hi:i<3){p:List n8}(hc:M5 (w9 w (i:Int)) p=true)(hn:w'.a9=w.a9.set i (P5 (w9 w (i:Int)) p))(hm:w'.c8=w.c8)(hk:w'.d7=w.d7++[⟨⟨(i:Int),(w9 w (i:Int)).Seq+1⟩,p⟩])(ht:w'.Told=w.Told):TL w':=by
 have hJ:=c4s hw.nl hi _ hn;have hD:D3 (i:Int):=by unfold D3;omega
 obtain ⟨hni,hid⟩:=b1B hw hD;have hJi:w9 w' (i:Int)=P5 (w9 w (i:Int)) p:=by rw [hJ,if_pos rfl]
 have hkn:∀j,(w9 w' j).a5=(w9 w j).a5:=fun j=>by
  rw [hJ];split
  ·rename_i q;subst q;rfl
  ·rfl
 have hsq:∀j,(w9 w j).Seq<=(w9 w' j).Seq:=fun j=>by
  rw [hJ];split
  ·rename_i q;subst q;show _<=(w9 w (i:Int)).Seq+1;omega
  ·exact f5H _
 have hmo:∀e,a0B w e->a0B w' e:=fun e=>a0B.mono (fun j=>⟨[],by rw [hkn,f5S]⟩) (by rw [hk];exact fun a q=>f6G _ q)
 have hnew:∀e,a0B w e->D2 ⟨(i:Int),(w9 w (i:Int)).Seq+1⟩ e=false:=fun e he=>by
  cases hq:D2 ⟨(i:Int),(w9 w (i:Int)).Seq+1⟩ e
  ·rfl
  ·unfold D2 at hq;simp only [f5m,f6c] at hq;have hr:e.a0=⟨(i:Int),(w9 w (i:Int)).Seq+1⟩:=(a9u (b:=⟨(i:Int),(w9 w (i:Int)).Seq+1⟩)).1 hq.2;rcases he with he|⟨a,a1,a2,_⟩
   ·rw [hq.1] at he;cases he
   ·have:=(h.aq a a1).2.2;rw [a2,hr] at this;simp only at this;omega
 have hnd:=h.nd (i:Int) hD;refine ⟨fun j hj => ?_,fun m q=>(h.ml m (hm▸q)).mono hmo,fun a q => ?_,?_,fun t q => ?_,by rw [ht];exact h.tu⟩
 ·rw [hJ];split
  ·refine ⟨fun e q=>hmo e (hnd.kn e q),fun v q b=>hmo _ (hnd.av v q b),fun v q b=>hmo _ (hnd.bv v q b),fun q=>hmo _ (hnd.cu q),fun _ => ?_,fun e q=>hmo e (hnd.qu e q)⟩;refine .inr ⟨⟨⟨(i:Int),(w9 w (i:Int)).Seq+1⟩,p⟩,by rw [hk];simp,?_,(w9 w (i:Int)).a5.length,?_,?_,?_⟩
   ·show _=(⟨(w9 w (i:Int)).Id,(w9 w (i:Int)).Seq+1⟩:n7)
    rw [hid]
   ·show _<=(w9 w' (w9 w (i:Int)).Id).a5.length
    rw [hid,hkn];exact f5y _
   ·show ∀x∈(w9 w' (w9 w (i:Int)).Id).a5.take _,D2 (⟨(w9 w (i:Int)).Id,(w9 w (i:Int)).Seq+1⟩:n7) x=false
    rw [hid,hkn,f5C];exact fun x hx=>hnew x (hnd.kn x hx)
   ·show _=B8 (o8 ((w9 w' (w9 w (i:Int)).Id).a5.take _)).1.g7 p
    rw [hid,hkn,f5C];rfl
  ·exact (h.nd j hj).mono hmo
 ·rw [hk] at q;rcases List.mem_append.1 q with q|q
  ·obtain ⟨x1,x2,x3⟩:=h.aq a q;exact ⟨x1,x2,f6d x3 (hsq _)⟩
  ·rw [f5p.1 q];refine ⟨hD,by have:=hni.sq;show 1<=(w9 w (i:Int)).Seq+1;omega,?_⟩;show _<=(w9 w' (i:Int)).Seq
   rw [hJi];exact f5H _
 ·rw [hk,f6v];refine f5s.2 ⟨h.au,by simp,?_⟩;intro a ha b hb hab;obtain ⟨x,hx,rfl⟩:=List.mem_map.1 ha;rw [List.map_singleton,f5p] at hb;have:=(h.aq x hx).2.2;rw [hab,hb] at this;simp only at this;omega
 ·rw [ht] at q;obtain ⟨x1,x2,⟨a,a1,a2⟩,x4,x5⟩:=h.tn t q;refine ⟨x1,x2,⟨a,by rw [hk];exact f6G _ a1,a2⟩,fun hb => ?_,by rw [hkn];exact x5⟩;rw [hJ] at hb ⊢;split
  ·rename_i q;have:=(h.aq a a1).2.2;rw [a2,<-x1,q] at this;show _<(w9 w (i:Int)).Seq+1
   omega
  ·rename_i q;rw [if_neg q] at hb;exact x4 hb
theorem f2e{w:m5}(h:WI w)(ht:TL w){e:s5}(he:L1 e):TL (D7 w e):=by
 have h0:a0B w eN:=.inl rfl;unfold D7;cases hk:e.a8==2||(e.a8==3||e.a8==4)
 ·simp only [cond_false];cases hA:p9 e.A 0 2
  ·exact ht
  simp only [f5n,cond_false];rw [K4] at hA;obtain ⟨i,hi⟩:∃i:Nat,e.A=(i:Int):=⟨e.A.toNat,by omega⟩
  have hi3:i<3:=by omega
  have hD:D3 (i:Int):=by unfold D3;omega
  rw [hi];have hN:w9 w (i:Int)=I9 w (i:Int):=a3t hD;obtain ⟨hni,hid⟩:=b1B h hD;have hnd:=ht.nd (i:Int) hD;rw [<-hN];cases e.a8==1
  ·cases e.a8==5
   ·cases e.a8==6
    ·cases e.a8==7
     ·exact ht
     ·exact ht.step h.nl hi3 hni hid hni.fall (.fall hnd) rfl (fun m q=>.inl q) rfl (.inl rfl)
    ·exact ht.step h.nl hi3 hni hid (b26 hni).ni (.retry hnd h0) rfl (fun m q=>a2l (w:=O6 w _ _) q) rfl (.inl rfl)
   ·exact ht.step h.nl hi3 hni hid (b4e hni).ni (.rise hnd) rfl (fun m q=>a2l (w:=O6 w _ _) q) rfl (.inl rfl)
  ·simp only [cond_true];unfold a6f;cases hal:decide (60<=w.d7.length)
   ·rw [<-hN];simp only [cond_false];rw [d6o];cases hc:M5 (w9 w (i:Int)) e.i6
    ·simp only [cond_false];rw [a2o,hc];exact ht.step h.nl hi3 hni hid hni (.same hnd) rfl (fun m q=>a2l (w:=O6 w _ _) q) rfl (.inl rfl)
    ·simp only [cond_true];have hf:s9 e.i6:=A3.fits he (by decide);have hwq:(N4 (w9 w (i:Int)) e.i6).1.b8.a0=⟨(i:Int),(w9 w (i:Int)).Seq+1⟩:=by
      rw [c0E hc];show (⟨(w9 w (i:Int)).Id,_⟩:n7)=_;rw [hid]
     rw [hwq];have h1:TL ⟨w.a9.set i (P5 (w9 w (i:Int)) e.i6),w.c8,w.d7++[⟨⟨(i:Int),(w9 w (i:Int)).Seq+1⟩,e.i6⟩],w.Told⟩:=ht.asked h hi3 hc rfl rfl rfl rfl;have hJ:=c4s (w':=⟨w.a9.set i (P5 (w9 w (i:Int)) e.i6),w.c8,w.d7++[⟨⟨(i:Int),(w9 w (i:Int)).Seq+1⟩,e.i6⟩],w.Told⟩) h.nl hi3 _ rfl (i:Int);rw [if_pos rfl] at hJ;have hnd1:=h1.nd (i:Int) hD;rw [hJ] at hnd1;have hni1:=hni.asked hf hc;have hcan:=hc;refine h1.step (i:=i) (n':=(N4 (w9 w (i:Int)) e.i6).1) (l:=(N4 (w9 w (i:Int)) e.i6).2) (ts:=[]) (by show (w.a9.set i _).length=3;rw [f6B];exact h.nl) hi3 (by rw [hJ];exact hni1) (by rw [hJ];exact hid) (b2o hni hf).ni ?_ ?_ (fun m q=>a2l (w:=O6 ⟨w.a9,w.c8,w.d7++[_],w.Told⟩ _ _) q) rfl (.inl rfl)
     ·rw [hJ];rw [a2o,hc];have h0':a0B ⟨w.a9.set i (P5 (w9 w (i:Int)) e.i6),w.c8,w.d7++[⟨⟨(i:Int),(w9 w (i:Int)).Seq+1⟩,e.i6⟩],w.Told⟩ eN:=.inl rfl;simp only [cond_true];cases (w9 w (i:Int)).d8==2
      ·refine .of rfl rfl rfl rfl rfl hnd1 fun x hx => ?_
       simp only [cond_false] at hx;cases hp0:(w9 w (i:Int)).d8==0
       ·rw [hp0] at hx;cases hx
       ·rw [hp0] at hx;exact (ML.has rfl (hnd1.wt rfl)).all hx
      ·exact .propose hnd1 h0'
     ·show w.a9.set _ _=(w.a9.set i _).set i _
      rw [List.set_set];rfl
   ·exact ht
 ·simp only [cond_true];unfold a2E;cases hA:decide (0<=e.A)
  ·exact ht
  simp only [cond_true];cases hm:w.c8[e.A.toNat]? with
  | none=>exact ht
  | some m =>
   have hmem:=f5w hm;have hmi:=h.ms m hmem;have hself:∀{w':m5},w'.a9=w.a9->w'.d7=w.d7->w'.Told=w.Told->(∀x∈w'.c8,x∈w.c8)->TL w':=fun {w'} e1 e2 e3 e4=>by
    obtain ⟨hni,hid⟩:=b1B h (i:=0) (by unfold D3;omega);refine ht.step (i:=0) h.nl (by omega) hni hid hni (.same (ht.nd 0 (by unfold D3;omega))) ?_ (fun x q=>.inl (e4 x q)) e2 (.inl e3);rw [e1];have hl:=h.nl;have:w9 w ((0:Nat):Int)=w.a9[0]:=by
     rw [a3t (by unfold D3;omega)];show w.a9.getD 0 _=_
     rw [f5x,f5j (by omega)];rfl
    rw [show w9 w 0=w.a9[0] from this,f7j]
   simp only;cases e.a8==4
   ·cases e.a8==3
    ·simp only [cond_false];have hto:=hmi.to;obtain ⟨t,htt⟩:∃t:Nat,m.To=(t:Int):=⟨m.To.toNat,by omega⟩
     have hD:D3 (t:Int):=by unfold D3;omega
     have hN:w9 w (t:Int)=I9 w (t:Int):=a3t hD;obtain ⟨hni,hid⟩:=b1B h hD;rw [htt,<-hN];have hact:=Act.take (ht.nd (t:Int) hD) h0 (ht.ml m hmem) hmi;refine ht.step h.nl (i:=t) (by omega) hni hid (b6Z hni hmi).ni hact rfl (fun x q=>(a2l (w:=O6 (a28 w e.A) _ _) q).imp (fun q=>b5v q) id) rfl ?_;show (w.Told++List.take (60-w.Told.length) _=w.Told\/_)
     have hl1:=(b7r hni m).2;rcases Nat.eq_zero_or_pos (60-w.Told.length) with q|q
     ·left;rw [q,f5T,f5S]
     ·right
      show w.Told++List.take (60-w.Told.length) _=_
      rw [f5V (by omega)]
    ·exact hself rfl rfl rfl fun x q=>b5v q
   ·exact hself rfl rfl rfl fun x q=>(a2l q).elim id fun q=>by rw [f5p.1 q];exact hmem
theorem e5b:TL P8:=by
 have hn:∀j,D3 j->w9 P8 j=C5 j:=fun j hj=>by
  rw [a3t hj];unfold D3 at hj;obtain rfl|rfl|rfl:j=0\/j=1\/j=2:=by omega
  all_goals rfl
 refine ⟨fun i hi => ?_,fun m hm=>(by cases hm),fun a ha=>(by cases ha),by simp [P8],fun t ht=>(by cases ht),by simp [P8]⟩;rw [hn i hi];exact ⟨by simp [C5],by simp [C5],by simp [C5],fun q=>absurd (show (0:Int)=3 from q) (by decide),fun q=>(by cases q),by simp [C5]⟩
theorem c8J:∀{l:List s5} {w:m5},WI w->TL w->(∀e∈l,L1 e)->TL (a1f w l)
 | [],_,_,h,_=>h
 | e::l,w,hw,h,he=>c8J (l:=l) (w:=D7 w e) (a6v hw (he e (by simp))).2 (f2e hw h (he e (by simp))) fun x hx=>he x (by simp [hx])
section
variable {w:m5}
theorem f2x{α:Type}(z:α):∀{l:List α},l.length=3->l=[l.getD 0 z,l.getD 1 z,l.getD 2 z]
 | [a,b,c],_=>rfl
theorem d1p(h:WI w):w.a9=[w9 w 0,w9 w 1,w9 w 2]:=by
 have e0:w9 w 0=w.a9.getD 0 (C5 0):=a3t (j:=0) (by unfold D3;omega);have e1:w9 w 1=w.a9.getD 1 (C5 0):=a3t (j:=1) (by unfold D3;omega);have e2:w9 w 2=w.a9.getD 2 (C5 0):=a3t (j:=2) (by unfold D3;omega);rw [e0,e1,e2];exact f2x (C5 0) h.nl
theorem e4V(h:WI w){n:j6}(hn:n∈w.a9):∃i,D3 i/\n=w9 w i:=by
 rw [d1p h] at hn;simp only [f5r,f7n,or_false] at hn;rcases hn with q|q|q
 ·exact ⟨0,by unfold D3;omega,q⟩
 ·exact ⟨1,by unfold D3;omega,q⟩
 ·exact ⟨2,by unfold D3;omega,q⟩
theorem d7K(hp:PW w){i j:Int}(hi:D3 i)(hj:D3 j){s:Nat}{a b:m4}(ha:(w9 w i).a5[s]?=some a)(hb:(w9 w j).a5[s]?=some b):a=b:=by
 obtain ⟨V,P,M,h,_⟩:=hp;exact h.one (h.kn i s a hi ha) (h.kn j s b hj hb)
theorem e6H(a b c:j6)(x:List l8)(y:List x6)(z:List n5):∃n∈[a,b,c],u6 ⟨[a,b,c],x,y,z⟩=n.a5/\∀m∈[a,b,c],m.a5.length<=n.a5.length:=by
 have e:u6 ⟨[a,b,c],x,y,z⟩=(bif decide ((b.a5.length:Int)>(a.a5.length:Int)) then (bif decide ((c.a5.length:Int)>(b.a5.length:Int)) then c else b) else (bif decide ((c.a5.length:Int)>(a.a5.length:Int)) then c else a)).a5:=by
  unfold u6;simp only [best,f6n,f6O,f6p,f6w];have e0:decide ((a.a5.length:Int)>(a.a5.length:Int))=false:=by simp
  simp only [e0,cond_false,f6p];cases decide ((b.a5.length:Int)>(a.a5.length:Int))
  ·simp only [cond_false,f6p];cases decide ((c.a5.length:Int)>(a.a5.length:Int))<;>rfl
  ·simp only [cond_true,f6p,f6w];cases decide ((c.a5.length:Int)>(b.a5.length:Int))<;>rfl
 rw [e];cases h1:decide ((b.a5.length:Int)>(a.a5.length:Int))
 ·cases h2:decide ((c.a5.length:Int)>(a.a5.length:Int))
  ·exact ⟨a,by simp,rfl,by simp at h1 h2 ⊢;omega⟩
  ·exact ⟨c,by simp,rfl,by simp at h1 h2 ⊢;omega⟩
 ·cases h2:decide ((c.a5.length:Int)>(b.a5.length:Int))
  ·exact ⟨b,by simp,rfl,by simp at h1 h2 ⊢;omega⟩
  ·exact ⟨c,by simp,rfl,by simp at h1 h2 ⊢;omega⟩
theorem c1A(h:WI w):∃b,D3 b/\u6 w=(w9 w b).a5/\∀i,D3 i->(w9 w i).a5.length<=(u6 w).length:=by
 have hn:=d1p h;obtain ⟨n,n1,n2,n3⟩:=e6H (w9 w 0) (w9 w 1) (w9 w 2) w.c8 w.d7 w.Told;rw [<-hn] at n1 n2 n3;obtain ⟨b,hb,rfl⟩:=e4V h n1;refine ⟨b,hb,n2,fun i hi => ?_⟩;have n2':u6 w=(w9 w b).a5:=n2;rw [n2'];refine n3 _ ?_;rw [hn];unfold D3 at hi;obtain rfl|rfl|rfl:i=0\/i=1\/i=2:=by omega
 all_goals simp
theorem e5L(h:WI w)(hp:PW w){i:Int}(hi:D3 i):(w9 w i).a5=(u6 w).take (w9 w i).a5.length:=by
 obtain ⟨b,hb,h1,h2⟩:=c1A h;have hl:=h2 i hi;apply List.ext_getElem?;intro s;by_cases hs:s<(w9 w i).a5.length
 ·rw [f6L,if_pos hs];obtain ⟨y,hy⟩:∃y,(u6 w)[s]?=some y:=⟨_,f5j (show s<(u6 w).length by omega)⟩
  rw [hy,f5j hs];rw [h1] at hy;exact congrArg some (d7K hp hi hb (f5j hs) hy)
 ·rw [f5O (by omega),f5O (by rw [f5G];omega)]
theorem d00(h:WI w)(hp:PW w){i:Int}(hi:D3 i):∃t,u6 w=(w9 w i).a5++t:=by
 refine ⟨(u6 w).drop (w9 w i).a5.length,?_⟩;conv=>rhs;lhs;rw [e5L h hp hi]
 rw [f6e]
theorem b4P(h:WI w):G0 (u6 w)=true:=by
 obtain ⟨b,hb,h1,_⟩:=c1A h;rw [h1];exact (b1B h hb).1.list
theorem e08(ht:TL w):b8r w.Told=true:=by
 unfold b8r;rw [List.all_eq_true];intro i hi;have hi:i<w.Told.length:=by simpa using hi
 rw [c9N hi,f6c,f5U];intro s hs hq;obtain ⟨j,hj,rfl⟩:=f6t.1 hs;have hj:j<i:=by omega
 have he:w.Told[j].a0=w.Told[i].a0:=by
  have:H5 w.Told[j].a0=H5 w.Told[i].a0:=by simpa using hq
  rw [<-a9u];rw [e6V];simpa using this
 have:=f5X.1 ht.tu j i (by rw [f5Y];omega) (by rw [f5Y];omega) hj;apply this;rw [f7a,f7a];exact he
theorem e69(h:WI w)(hp:PW w)(ht:TL w):w.Told.all (a30 (u6 w))=true:=by
 rw [List.all_eq_true];intro t hm;obtain ⟨x1,x2,x3,x4,x5⟩:=ht.tn t hm;obtain ⟨tl,htl⟩:=d00 h hp x2;have hs:=x5.app (t:=tl) (by rw [<-htl];exact b4P h);rw [<-htl] at hs;obtain ⟨k,k1,k2,k3⟩:=hs;unfold a30;rw [k1];simp only [f5m,beq_iff_eq];refine ⟨k2.symm,?_⟩;rw [k3,k2];unfold Q3;rw [k1];try rfl
theorem f4M(h:WI w)(hp:PW w)(ht:TL w):b4Z w=some true/\b3Q w=some true:=by
 obtain ⟨x1,x2⟩:=d7w h.ok (a4u.2 h);rw [e69 h hp ht] at x1 x2;exact ⟨x1,x2⟩
theorem c6M(ht:TL w){a:x6}(ha:a∈w.d7):Q9 w a.a0=(a.i6,true):=by
 unfold Q9 b4r;have hex:∃b,w.d7.find? (fun x=>(([x.a0.b9,x.a0.Seq]:List Int)==[a.a0.b9,a.a0.Seq]))=some b:=by
  cases hf:w.d7.find? (fun x=>(([x.a0.b9,x.a0.Seq]:List Int)==[a.a0.b9,a.a0.Seq])) with
  | some b=>exact ⟨b,rfl⟩
  | none =>
   have:=f7v.1 hf a ha;simp at this
 obtain ⟨b,hb⟩:=hex;rw [hb];have hbm:=f7u hb;have hbr:=List.find?_some hb;have hbr:=a9u.1 hbr;obtain ⟨i,hi,rfl⟩:=f6g ha;obtain ⟨j,hj,rfl⟩:=f6g hbm;have hij:i=j:=by
  rcases Nat.lt_trichotomy i j with q|q|q
  ·exact absurd (by rw [f7a,f7a];exact hbr.symm) (f5X.1 ht.au i j (by rw [f5Y];omega) (by rw [f5Y];omega) q)
  ·exact q
  ·exact absurd (by rw [f7a,f7a];exact hbr) (f5X.1 ht.au j i (by rw [f5Y];omega) (by rw [f5Y];omega) q)
 subst hij;rfl
end
theorem d5m(l:List m9)(i:n8)(regs:List Int)(rs:List r9)(ps:List p6):∀r∈rs,r∈(E8 l i regs rs ps).2.1:=by
 intro r hr;unfold E8;cases i.a8==1
 ·cases i.a8==2
  ·cases i.a8==3
   ·cases i.a8==4
    ·cases i.a8==5<;>exact hr
    ·exact hr
   ·exact hr
  ·exact hr
 ·simp only [cond_true];cases X7 ps i.B with
  | some k =>
   simp only;cases ps[k]?<;>exact hr
  | none =>
   simp only;cases l[i.B.toNat]? with
   | none=>exact hr
   | some b =>
    simp only;cases J3 rs i.B
    ·exact f6G _ hr
    ·exact hr
theorem c08(l:List m9)(prog:List n8):∀(f k:Nat) (regs:List Int) (rs:List r9) (ps:List p6),∀r∈rs,r∈(V9 l prog f k regs rs ps).b5
 | 0,_,_,_,_,r,hr=>hr
 | f+1,k,regs,rs,ps,r,hr=>by
  unfold V9;cases prog[k]? with
  | none=>exact hr
  | some i =>
   simp only;cases i.a8==6
   ·cases i.a8==7
    ·cases (E8 l i regs rs ps).1.all I1
     ·exact d5m l i regs rs ps r hr
     ·exact c08 l prog f _ _ _ _ r (d5m l i regs rs ps r hr)
    ·exact hr
   ·exact c08 l prog f _ _ _ _ r hr
def AtB(l l':List m9)(rs:List r9):Prop := ∀r∈rs,l[r.i5.toNat]?=l'[r.i5.toNat]?
theorem d9G{rs:List r9}{b:Int}(h:J3 rs b=true):∃r∈rs,r.i5=b:=by
 unfold J3 at h;obtain ⟨r,h1,h2⟩:=f6E.1 h;exact ⟨r,h1,by simpa using h2⟩
theorem e7O{l l':List m9}(hl:l.length=l'.length)(i:n8)(regs:List Int)(rs:List r9)(ps:List p6)(h:AtB l l' (E8 l i regs rs ps).2.1):E8 l' i regs rs ps=E8 l i regs rs ps:=by
 unfold E8 at h ⊢;cases hk:i.a8==1
 ·rfl
 ·rw [hk] at h;simp only [cond_true] at h ⊢;cases hp:X7 ps i.B with
  | some k=>rfl
  | none =>
   rw [hp] at h;simp only at h ⊢;cases hb:l[i.B.toNat]? with
   | none =>
    have:l'.length<=i.B.toNat:=by rw [<-hl];exact List.getElem?_eq_none_iff.1 hb
    rw [f5O this]
   | some b =>
    rw [hb] at h;simp only at h;have hin:∃r∈(bif J3 rs i.B then rs else rs++[⟨i.B,b.j4⟩]),r.i5=i.B:=by
     cases hs:J3 rs i.B
     ·exact ⟨⟨i.B,b.j4⟩,by simp,rfl⟩
     ·exact d9G hs
    obtain ⟨r,r1,r2⟩:=hin;have:=h r r1;rw [r2,hb] at this;rw [<-this]
theorem c5z{l l':List m9}(hl:l.length=l'.length)(prog:List n8):∀(f k:Nat) (regs:List Int) (rs:List r9) (ps:List p6),AtB l l' (V9 l prog f k regs rs ps).b5->V9 l' prog f k regs rs ps=V9 l prog f k regs rs ps
 | 0,_,_,_,_,_=>rfl
 | f+1,k,regs,rs,ps,h=>by
  unfold V9 at h ⊢;cases hp:prog[k]? with
  | none=>rfl
  | some i =>
   rw [hp] at h;simp only at h ⊢;cases h6:i.a8==6
   ·rw [h6] at h;cases h7:i.a8==7
    ·rw [h7] at h;simp only [cond_false] at h ⊢;have hE:E8 l' i regs rs ps=E8 l i regs rs ps:=e7O hl i regs rs ps fun r hr=>h r (by
      cases (E8 l i regs rs ps).1.all I1
      ·exact hr
      ·exact c08 l prog f _ _ _ _ r hr)
     rw [hE];cases ha:(E8 l i regs rs ps).1.all I1
     ·rfl
     ·rw [ha] at h;exact c5z hl prog f _ _ _ _ h
    ·rfl
   ·rw [h6] at h;simp only [cond_true] at h ⊢;exact c5z hl prog f _ _ _ _ h
theorem e21{l l':List m9}(h1:C4 l=true)(h2:C4 l'=true){p:List n8}(h:AtB l l' (B8 l p).b5):B8 l' p=B8 l p:=by
 unfold B8 at h ⊢;rw [h1] at h;rw [h1,h2];cases hp:E2 p
 ·rfl
 ·rw [hp] at h;exact c5z ((a6b h1).trans (a6b h2).symm) p _ _ _ _ _ h
def b3H(l:List m9)(rs:List r9):Prop := ∀r∈rs,∃b,l[r.i5.toNat]?=some b/\b.j4=r.j4
theorem d3h{l:List m9}(i:n8)(regs:List Int)(rs:List r9)(ps:List p6)(h:b3H l rs):b3H l (E8 l i regs rs ps).2.1:=by
 unfold E8;cases i.a8==1
 ·cases i.a8==2
  ·cases i.a8==3
   ·cases i.a8==4
    ·cases i.a8==5<;>exact h
    ·exact h
   ·exact h
  ·exact h
 ·simp only [cond_true];cases X7 ps i.B with
  | some k =>
   simp only;cases ps[k]?<;>exact h
  | none =>
   simp only;cases hb:l[i.B.toNat]? with
   | none=>exact h
   | some b =>
    simp only;cases J3 rs i.B
    ·intro r hr;rcases List.mem_append.1 hr with q|q
     ·exact h r q
     ·rw [f5p.1 q];exact ⟨b,hb,rfl⟩
    ·exact h
theorem c4I(l:List m9)(prog:List n8):∀(f k:Nat) (regs:List Int) (rs:List r9) (ps:List p6),b3H l rs->b3H l (V9 l prog f k regs rs ps).b5
 | 0,_,_,_,_,h=>h
 | f+1,k,regs,rs,ps,h=>by
  unfold V9;cases prog[k]? with
  | none=>exact h
  | some i =>
   simp only;cases i.a8==6
   ·cases i.a8==7
    ·cases (E8 l i regs rs ps).1.all I1
     ·exact d3h i regs rs ps h
     ·exact c4I l prog f _ _ _ _ (d3h i regs rs ps h)
    ·exact h
   ·exact c4I l prog f _ _ _ _ h
theorem e5w(l:List m9)(p:List n8):b3H l (B8 l p).b5:=by
 unfold B8;cases C4 l&&E2 p
 ·intro r hr;cases hr
 ·exact c4I l p _ _ _ _ _ fun r hr=>by cases hr
theorem c5Q{l:List m4}(hl:l.length<=40)(he:l.all z5=true){k:Nat}(hk:k<=l.length):C4 (o8 (l.take k)).1.g7=true:=(P3 hl he k hk).1.boxes
theorem e3p{l:List m4}(hl:l.length<=40)(he:l.all z5=true){j k:Nat}(hjk:j<=k)(hk:k<=l.length){b:Int}(hb:0<=b/\b<=3){x y:m9}(hx:(o8 (l.take j)).1.g7[b.toNat]?=some x)(hy:(o8 (l.take k)).1.g7[b.toNat]?=some y)(hv:x.j4=y.j4):x=y:=by
 by_cases hall:∀i,j<=i->i<k->a6T l (o8 l).2 b i=false
 ·have:=d22 hl he hb.1 k hjk hk hall;rw [hx,hy] at this;injection this with this;exact this.symm
 ·exfalso
  apply hall;intro i h1 h2;cases hp:a6T l (o8 l).2 b i
  ·rfl
  ·obtain ⟨_,hq⟩:=d4g hl he (show i<l.length by omega) hp;obtain ⟨z,z1,z2,z3⟩:=c03 hl he hb i (by omega);obtain ⟨v,hv1⟩:=hq z z1;have m1:=(d3Y hl he h1 (show i<=l.length by omega)).2 b.toNat x z hx z1;have m2:=(d3Y hl he (show i+1<=k by omega) hk).2 b.toNat _ y hv1 hy;simp only at m2;split at m2<;>omega
theorem d2G{s:u0}{e:m4}(h:(apply s e).2=0):e.i7=false/\a0z s.g7 e.b7=true/\e.b7.Code=0/\(apply s e).1.g7=a0S s.g7 e.b7.b6:=by
 have hf:(N5 s e).2=0->a0z s.g7 e.b7=true/\e.b7.Code=0/\(N5 s e).1.g7=a0S s.g7 e.b7.b6:=by
  unfold N5;cases a0z s.g7 e.b7
  ·intro h;exact absurd h (by simp)
  ·cases hc:e.b7.Code==0
   ·intro h;exact absurd h (by simp)
   ·intro _;exact ⟨rfl,by simpa using hc,rfl⟩
 unfold apply at h ⊢;cases hn:e.i7
 ·rw [hn] at h;simp only [cond_false] at h ⊢;refine ⟨trivial,?_⟩;cases hd:s.i8.find? (fun d=>d.a0.b9==e.a0.b9) with
  | none=>rw [hd] at h;exact hf h
  | some d =>
   rw [hd] at h;simp only at h ⊢;cases h1:d.a0.Seq==e.a0.Seq
   ·rw [h1] at h;cases h2:decide (d.a0.Seq>e.a0.Seq)
    ·rw [h2] at h;exact hf h
    ·rw [h2] at h;exact absurd h (by simp)
   ·rw [h1] at h;exact absurd h (by simp)
 ·rw [hn] at h;exact absurd h (by simp)
theorem c7A:∀(ps:List (List n8)) (p:List n8) (b:List m9) (vs:List Int) {b':List m9} {vs':List Int},a1T ps b vs=(b',vs')->C4 b'=true->a1T (ps++[p]) b vs=bif (G7 b' p).2.2==3 then ([],[]) else ((G7 b' p).1,vs'++[(G7 b' p).2.1])
 | [],p,b,vs,b',vs',h,hb=>by
  have h:(b,vs)=(b',vs'):=h;injection h with h1 h2;subst h1;subst h2;rfl
 | q::ps,p,b,vs,b',vs',h,hb=>by
  unfold a1T at h;rw [f6Z];unfold a1T;cases hq:(G7 b q).2.2==3
  ·rw [hq] at h;exact c7A ps p _ _ h hb
  ·rw [hq] at h;have h:(([],[]):List m9×List Int)=(b',vs'):=h;injection h with h1 h2;rw [<-h1] at hb;exact absurd hb (by decide)
section
variable {w:m5}
theorem e7Y(h:WI w)(hp:PW w)(ht:TL w){k:Nat}(hk:k<(u6 w).length)(hn:((u6 w)[k]).i7=false):∃a∈w.d7,a.a0=((u6 w)[k]).a0/\∃j,j<=k/\((u6 w)[k]).b7=B8 (o8 ((u6 w).take j)).1.g7 a.i6:=by
 obtain ⟨b,hb,h1,_⟩:=c1A h;have hm:(u6 w)[k]∈(w9 w b).a5:=h1▸f5l hk;rcases (ht.nd b hb).kn _ hm with q|⟨a,a1,a2,j,j1,j2,j3⟩
 ·rw [hn] at q;cases q
 ·have hw:D3 ((u6 w)[k]).a0.b9:=by rw [<-a2];exact (ht.aq a a1).1
  have htk:(w9 w ((u6 w)[k]).a0.b9).a5.take j=(u6 w).take j:=by
   obtain ⟨t,ht'⟩:=d00 h hp hw;conv=>rhs;rw [ht']
   rw [f5W j1]
  rw [htk] at j2 j3;refine ⟨a,a1,a2,j,?_,j3⟩;rcases Nat.lt_or_ge k j with q|q
  ·exfalso
   have:=j2 (u6 w)[k] (f6t.2 ⟨k,by omega,rfl⟩);unfold D2 at this;rw [hn] at this;simp at this
  ·exact q
theorem e0V(h:WI w)(hp:PW w)(ht:TL w){k:Nat}(hk:k<(u6 w).length)(h0:(apply (o8 ((u6 w).take k)).1 (u6 w)[k]).2=0):∃a∈w.d7,a.a0=((u6 w)[k]).a0/\B8 (o8 ((u6 w).take k)).1.g7 a.i6=((u6 w)[k]).b7:=by
 obtain ⟨z1,z2,z3,_⟩:=d2G h0;obtain ⟨hl,he⟩:=X0 (b4P h);obtain ⟨a,a1,a2,j,j1,j2⟩:=e7Y h hp ht hk z1;refine ⟨a,a1,a2,?_⟩;rw [j2];refine e21 (c5Q hl he (by omega)) (c5Q hl he (by omega)) ?_;intro r hr;obtain ⟨x,x1,x2⟩:=e5w _ _ r hr;rw [<-j2] at hr;have hbx:=(a21 (a3B (List.all_eq_true.1 he _ (f5l hk)) z1).2.2.1).2.2.2.1 r hr;obtain ⟨y,y1,y2,_⟩:=c03 hl he (b:=r.i5) (by omega) k (by omega);have hfr:=List.all_eq_true.1 z2 r hr;rw [y1] at hfr;have hfr:y.j4=r.j4:=by simpa using hfr
 rw [x1,y1,e3p hl he j1 (by omega) (b:=r.i5) (by omega) x1 y1 (by omega)]
theorem d3u(ht:TL w):∀(qs:List n7) (o:List (List n8)),(∀q∈qs,∃a∈w.d7,a.a0=q)->a1Y w qs o=some (o++qs.map fun q=>(Q9 w q).1)
 | [],o,_=>by simp [a1Y]
 | q::qs,o,h=>by
  obtain ⟨a,a1,a2⟩:=h q (by simp);have hp:=c6M ht a1;rw [a2] at hp;unfold a1Y;rw [hp];simp only [cond_true];rw [d3u ht qs _ fun x hx=>h x (by simp [hx])];simp [hp]
theorem d4i(h:WI w)(hp:PW w)(ht:TL w):∀n,n<=(u6 w).length->(∀q∈told (u6 w) (o8 (u6 w)).2 n,∃a∈w.d7,a.a0=q)/\
  a1T ((told (u6 w) (o8 (u6 w)).2 n).map fun q=>(Q9 w q).1) V3 []=((o8 ((u6 w).take n)).1.g7,(told (u6 w) (o8 (u6 w)).2 n).map (Q3 (u6 w)))
 | 0,_=>⟨by simp [told],rfl⟩
 | n+1,hn=>by
  obtain ⟨hl,he⟩:=X0 (b4P h);have hlt:n<(u6 w).length:=by omega
  obtain ⟨ih1,ih2⟩:=d4i h hp ht n (by omega);have hc:=a9S hl he hlt;have hcl:(o8 (u6 w)).2.length=(u6 w).length:=by
   have:=(P3 hl he (u6 w).length (f5y _)).2.1;rwa [f5C] at this
  have hn':n<(o8 (u6 w)).2.length:=by omega
  rw [f5j hn'] at hc;injection hc with hc;have hbx:=c5Q hl he (k:=n) (by omega);have hst:(o8 ((u6 w).take (n+1))).1=(apply (o8 ((u6 w).take n)).1 (u6 w)[n]).1:=by rw [a0L hlt];rfl
  unfold told;rw [b1V hlt hn',hc,hst];rcases c34 (P3 hl he n (by omega)).1 (List.all_eq_true.1 he _ (f5l hlt)) with ⟨b1,b2,b3⟩|⟨b1,b2⟩
  ·obtain ⟨a,a1,a2,a3⟩:=e0V h hp ht hlt b1;obtain ⟨z1,z2,z3,_⟩:=d2G b1;have hpf:=c6M ht a1;rw [a2] at hpf;rw [b1,b3];simp only [beq_self_eq_true,cond_true];refine ⟨fun q hq => ?_,?_⟩
   ·rcases List.mem_append.1 hq with q'|q'
    ·exact ih1 q q'
    ·rw [f5p.1 q'];exact ⟨a,a1,a2⟩
   ·rw [f6v,f6v,List.map_singleton,List.map_singleton,c7A _ _ _ _ ih2 hbx,hpf];have hs:G7 (o8 ((u6 w).take n)).1.g7 a.i6=(a0S (o8 ((u6 w).take n)).1.g7 ((u6 w)[n]).b7.b6,((u6 w)[n]).b7.d9,0):=by
     unfold G7;rw [a3,z3];rfl
    simp only [hs];have hv:Q3 (u6 w) ((u6 w)[n]).a0=((u6 w)[n]).b7.d9:=by
     unfold Q3;have hf:(u6 w).findIdx? (D2 ((u6 w)[n]).a0)=some n:=by
      rw [f6a];refine ⟨hlt,?_,fun i hi => ?_⟩
      ·unfold D2;rw [b2];simp
      ·intro hq;unfold D2 at hq;simp only [f5m,f6c] at hq;have:=e1c hl he hi hlt hq.1 (a9u.1 hq.2).symm;rw [f5j hn',hc,b1] at this;exact this rfl
     rw [hf];simp only [f5j hlt]
    rw [hv];rfl
  ·rw [b2,show ((apply (o8 ((u6 w).take n)).1 (u6 w)[n]).2==0)=false by simpa using b1];simp only [cond_false,f5S];exact ⟨ih1,ih2⟩
theorem d8x(l:List m9):a40 l l=true:=by
 unfold a40;simp only [beq_self_eq_true,f5v];rw [List.all_eq_true];intro k hk;have hk:k<l.length:=by simpa using hk
 rw [f5j hk];simp
theorem e3s(h:WI w)(hp:PW w)(ht:TL w):a4Q w=true:=by
 obtain ⟨hl,he⟩:=X0 (b4P h);obtain ⟨g1,g2⟩:=d4i h hp ht (u6 w).length (f5y _);have hd:z8 (u6 w)=told (u6 w) (o8 (u6 w)).2 (u6 w).length:=by unfold z8;rw [b4P h];rfl
 rw [<-hd] at g1 g2;rw [f5C] at g2;unfold a4Q;rw [a4u.2 h,d3u ht _ _ g1,f6b];simp only [f5v];have hlen:((z8 (u6 w)).map fun q=>(Q9 w q).1).length<=100:=by
  have hcl:(o8 (u6 w)).2.length=(u6 w).length:=by
   have:=(P3 hl he (u6 w).length (f5y _)).2.1;rwa [f5C] at this
  have h1:=b75 (l:=u6 w) hcl (u6 w).length (f5y _);have h2:=c2g ((o8 (u6 w)).2.take (u6 w).length) 0;rw [f5Y,hd];rw [f5G] at h2;omega
 have hs:E7 V3 ((z8 (u6 w)).map fun q=>(Q9 w q).1)=((o8 (u6 w)).1.g7,(z8 (u6 w)).map (Q3 (u6 w))):=by
  unfold E7;rw [b6P,decide_eq_true hlen];exact g2
 unfold b6Y;rw [hs];simp only [f5Y,beq_self_eq_true,f5v,d8x];unfold b8Q;rw [List.all_eq_true];intro i hi;have hi:i<(z8 (u6 w)).length:=by simpa using hi
 rw [f6i,f5j hi];simp
end
theorem e6i{code:List Int}(h:A3 1 a6i code):c2a code=some true:=by
 unfold c2a;cases decide ((code.length:Int)>1048576);case true=>rfl
 obtain ⟨l,a1,a2,a3⟩:=e2u h.2;obtain ⟨p1,p2,hw⟩:=e4W a2 a3;have hp:=d3c WI.open e70 a2;have ht:=c8J WI.open e5b a2;have hal:=e3s hw hp ht;obtain ⟨t1,t2⟩:=f4M hw hp ht;have ho:b4m (a1f P8 l)=some true:=by rw [e9Z hw.ok,e08 ht,a4u.2 hw];rfl
 simp only [cond_false,a1,d77,d4b,p1,p2,f5i,e4J hw.ok,b1Y hw.ok,a4u.2 hw,e3m hw.ok,e4w hw.ok,hal,t1,t2,ho,cond_true]
end
end Go.Proofs.YtobfemcdchmgeaaGreat
