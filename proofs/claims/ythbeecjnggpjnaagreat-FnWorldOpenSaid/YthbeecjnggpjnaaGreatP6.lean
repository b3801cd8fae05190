/- Abstract values and states of the program, functions of the program and what their calls come to, and what follows from it: part 6 of the text that the law leans on; long names are written short. -/
import Derived.Test.YthbeecjnggpjnaaGreatP5
set_option linter.unusedVariables false
set_option linter.unusedSimpArgs false
set_option linter.unnecessarySimpa false
namespace Go.Proofs.YthbeecjnggpjnaaGreat
open Go
open Option renaming bind_some → f5s, getD_some → f6G, map_some → f6I, map_eq_some_iff → f6U
open List renaming getElem?_eq_getElem → f5t, replicate → f5u, getElem_mem → f5v, mem_singleton → f5y, getElem?_eq_some_iff → f5z, range → f5A, mem_cons → f5B, nodup_append → f5C, length_append → f5D, eq_nil_of_length_eq_zero → f5E, mem_of_getElem? → f5F, getD_eq_getElem?_getD → f5G, getElem?_append_right → f5I, append_assoc → f5J, length_take → f5L, take_length → f5M, getElem?_set_ne → f5N, getElem?_append_left → f5O, getElem?_eq_none → f5Q, drop_eq_nil_of_le → f5S, take_succ_eq_append_getElem → f5T, drop_eq_getElem_cons → f5U, flatten_cons → f5X, map_cons → f6b, append_nil → f6d, getElem_of_mem → f6e, any_eq_false → f6f, take_of_length_le → f6g, take_append_of_le_length → f6h, take_zero → f6i, pairwise_iff_getElem → f6j, mem_of_mem_take → f6k, length_map → f6l, mem_replicate → f6m, findIdx?_eq_some_iff_getElem → f6n, nil_append → f6o, mem_of_mem_drop → f6p, take_append_drop → f6r, mem_flatten → f6s, getElem?_map → f6t, mem_take_iff_getElem → f6u, getElem?_set_self → f6v, length_cons → f6y, length_singleton → f6z, getElem?_cons_zero → f6A, mem_range → f6B, map_append → f6E, getElem?_cons_succ → f6F, drop_zero → f6H, pairwise_cons → f6K, length_set → f6M, nodup_cons → f6N, any_eq_true → f6P, mem_append_left → f6R, getElem?_set → f6S, getElem?_drop → f6V, getElem?_take → f6W, find?_cons → f6Y, length_nil → f6Z, all_eq_false → f7a, sublist_append_right → f7c, getElem?_of_mem → f7d, pairwise_append → f7e, Perm → f7g, drop_drop → f7h, cons_append → f7j, not_mem_nil → f7k, getElem_map → f7l, take_succ_cons → f7m, replicate_succ → f7n, foldl_cons → f7o, drop_append_of_le_length → f7p, size_toArray → f7q, toArray → f7r, map_map → f7s, Sublist → f7t, set_getElem_self → f7u, length_replicate → f7w, getElem?_append → f7x, length_drop → f7A, mem_cons_of_mem → f7B, any_cons → f7C, flatten_append → f7D, findIdx?_eq_none_iff → f7F, mem_of_find?_eq_some → f7G, find?_eq_none → f7H, foldl_nil → f7J
open Bool renaming and_eq_true → f5w, not_true → f5x, true_and → f5H, not_false → f5V, not_eq_true' → f6a, false_or → f6c, or_eq_false_iff → f6D, false_eq_true → f6J, and_true → f6L, eq_iff_iff → f6O, and_assoc → f7i, true_or → f7v, not_eq_true → f7z, not_not → f7I
open Nat renaming le_refl → f5K, mul_le_mul_right → f5Y, eq_of_beq_eq_true → f5Z, zero_add → f6x, succ_mul → f6C, lt_of_lt_of_le → f6Q, le_mul_of_pos_right → f6T, add_zero → f6X, le_succ_of_le → f7b, zero_le → f7f
open Int renaming toNat_natCast → f5P, le_refl → f5R, tmod → f5W, le_trans → f6q, tdiv → f7y
open Option.some renaming inj → f6w
open Classical renaming byContradiction → f7E
noncomputable section
section
variable {L:m4->Prop} {n:j6} {m:l8}
theorem Act.same(h:ND L n):Act L n n [] []:=⟨rfl,rfl,⟨[],by simp⟩,.inl ⟨rfl,rfl⟩,h,by simp,.inl rfl⟩
theorem Act.of{x:j6}{l:List l8}(e1:x.Id=n.Id)(e2:x.Seq=n.Seq)(e3:x.a5=n.a5)(e4:x.i8=n.i8)(e5:x.b7=n.b7)(h:ND L x)(hm:∀m∈l,ML L m):Act L n x l [] :=
 ⟨e1,e2,⟨[],by rw [e3];simp⟩,.inl ⟨e4,e5⟩,h,hm,.inl rfl⟩
theorem ML.plain(h1:m.a9≠3)(h2:m.a9≠5)(h3:m.a9≠7)(hv:m.a7=[]):ML L m:=⟨fun h=>by omega,by rw [hv];simp⟩
theorem ML.has(hv:m.a7=[])(h:L m.g9):ML L m:=⟨fun _=>h,by rw [hv];simp⟩
theorem ML.all{id:Int}{x:l8}(h:ML L m)(hx:x∈H4 id m):ML L x:=by
 unfold H4 at hx;obtain ⟨t,_,rfl⟩:=List.mem_map.1 hx;exact ⟨h.en,h.vs⟩
theorem ND.down(h:ND L n):ND L (a4q n):=⟨h.kn,h.av,by simp [a4q],fun q=>absurd (show (0:Int)=3 from q) (by decide),h.wt,h.qu⟩
theorem ND.yield(h:ND L n)(b:Int):ND L (M8 n b):=by
 unfold M8;cases n.d7 != 0&&decide (b>n.a8)
 ·exact h
 ·exact h.down
theorem c4v(n:j6)(b:Int):(M8 n b).Seq=n.Seq/\(M8 n b).a5=n.a5/\(M8 n b).i8=n.i8/\(M8 n b).b7=n.b7:=by
 unfold M8;cases n.d7 != 0&&decide (b>n.a8)<;>exact ⟨rfl,rfl,rfl,rfl⟩
theorem ND.next(h:ND L n)(h0:L eN){e:m4}(hn:a2q n e):L e:=by
 cases hn with
 | best v hv hb=>exact h.bv v (f5F hv) hb
 | gap=>exact h0
 | want hb=>exact h.wt hb
 | queue e he=>exact h.qu e he
theorem d5g{a x:z0}{b s:Int}{e:m4}(hc:K5 a b s e=some x)(h:∀v∈a.a7,v.a8>0->L v.g9)(he:L e):∀v∈x.a7,v.a8>0->L v.g9:=by
 obtain ⟨k,rfl,_,_,_,_,_,rfl⟩:=b63 hc;intro v hv hb;rcases c7T hv with q|q
 ·rcases c0E q with q|q
  ·exact h v q hb
  ·rw [q] at hb;exact absurd hb (by decide)
 ·rw [q];exact he
theorem Act.propose(h:ND L n)(h0:L eN):Act L n (M5 n).1 (M5 n).2 []:=by
 unfold M5;cases n.d7 != 2||decide (40<=n.a5.length)
 case true=>exact .same h
 simp only [cond_false];obtain ⟨q,hq,hql,hqm,hqe⟩:=b0A n;cases hx:a0O n with
 | mk x o =>
 rw [hx] at hq hqe;have hq:x={n with d9:=q}:=hq;subst hq;have hQ:ND L {n with d9:=q}:=⟨h.kn,h.av,h.bv,h.cu,h.wt,fun e he=>h.qu e (hqm e he)⟩
 cases o with
 | none=>exact .of rfl rfl rfl rfl rfl hQ (by simp)
 | some e =>
  have he:=h.next h0 (hqe e rfl);simp only [a56];cases hc:K5 n.Acc n.a8 (n.a5.length:Int) e with
  | none=>exact .of rfl rfl rfl rfl rfl hQ.down (by simp)
  | some a=>exact .of rfl rfl rfl rfl rfl ⟨h.kn,d5g hc h.av he,h.bv,fun _=>he,h.wt,hQ.qu⟩ fun m hm=>(ML.has rfl he).all hm
theorem Act.thenP{a:j6}{l:List l8}{ts:List m9}(h:Act L n a l ts)(h0:L eN):Act L n (M5 a).1 (l++(M5 a).2) ts:=by
 have hp:=Act.propose h.nd h0;have hk:=b66 a;obtain ⟨t,ht⟩:=h.kn;refine ⟨hk.id.trans h.id,hk.seq.trans h.sq,⟨t,hk.known.trans ht⟩,h.bw.imp (fun q=>⟨hk.busy.trans q.1,hk.want.trans q.2⟩) fun q=>hk.busy.trans q,hp.nd,fun m hm=>(List.mem_append.1 hm).elim (h.ml m) (hp.ml m),?_⟩;unfold TO;rw [hk.known,hk.busy];exact h.to
theorem Act.know{e:m4}(h:ND L n)(he:L e):Act L n (U8 (D7 n e)).1 [] (U8 (D7 n e)).2:=by
 have k1:(D7 n e).Id=n.Id:=b8V n e;have k2:(D7 n e).Seq=n.Seq:=by unfold D7;cases n.d7==3<;>rfl
 have k3:(D7 n e).a5=n.a5++[e]:=c5C n e;have k4:(D7 n e).i8=n.i8/\(D7 n e).b7=n.b7:=by unfold D7;cases n.d7==3<;>exact ⟨rfl,rfl⟩
 have kk:∀x∈n.a5++[e],L x:=fun x hx=>(List.mem_append.1 hx).elim (h.kn x) fun q=>by rw [f5y.1 q];exact he
 have hnd:ND L (D7 n e):=by
  unfold D7;cases hp:n.d7==3
  ·exact ⟨kk,h.av,h.bv,h.cu,h.wt,h.qu⟩
  ·exact ⟨kk,h.av,h.bv,fun q=>absurd (show (2:Int)=3 from q) (by decide),h.wt,h.qu⟩
 rcases a9p (D7 n e) with q|⟨k,q1,q2,q⟩<;>rw [q]
 ·exact ⟨k1,k2,⟨[e],k3⟩,.inl k4,hnd,by simp,.inl rfl⟩
 ·refine ⟨k1,k2,⟨[e],k3⟩,.inr rfl,⟨hnd.kn,hnd.av,hnd.bv,hnd.cu,fun q=>(by cases q),hnd.qu⟩,by simp,.inr ⟨by rw [<-k4.1];exact q1,rfl,k,by rw [<-k4.2];exact q2,?_⟩⟩;rw [<-k4.2,<-k1];rfl
theorem Act.learn{e:m4}(h:ND L n)(h0:L eN)(he:L e):Act L n (X8 n e).1 (X8 n e).2.1 (X8 n e).2.2:=by
 have:=(Act.know h he).thenP h0;rw [f6o] at this;exact this
theorem f5a{α:Type}{l:List α}{k:Nat}{x:α}(h:x∈l.drop k):x∈l:=f6p h
theorem Act.take(h:ND L n)(h0:L eN)(hm:ML L m)(hmi:MI m):Act L n (U1 n m).1 (U1 n m).2.1 (U1 n m).2.2:=by
 unfold U1;by_cases k1:m.a9=1
 ·rw [show (m.a9==1)=true by simpa using k1];simp only [cond_true];unfold a1E;cases hp:H7 n.Acc m.a8 with
  | none=>exact .of rfl rfl rfl rfl rfl h fun x hx=>by rw [f5y.1 hx];exact .plain (by simp [M2]) (by simp [M2]) (by simp [M2]) rfl
  | some a =>
   obtain ⟨rfl,_⟩:=a4v hp;obtain ⟨y1,y2,y3,y4⟩:=c4v {n with Acc:=⟨m.a8,n.Acc.a7⟩} m.a8;have hg:ND L {n with Acc:=⟨m.a8,n.Acc.a7⟩}:=⟨h.kn,h.av,h.bv,h.cu,h.wt,h.qu⟩
   refine .of (a6c _ _) y1 y2 y3 y4 (hg.yield _) fun x hx => ?_
   rw [f5y.1 hx];exact ⟨fun q=>by simp [M2] at q,fun v hv=>h.av v (f5a hv)⟩
 rw [show (m.a9==1)=false by simpa using k1];by_cases k2:m.a9=2
 ·rw [show (m.a9==2)=true by simpa using k2];simp only [cond_true,cond_false];unfold a1V;have hb:∀v∈D6 n.i4 (f5u m.g7.toNat v0++m.a7),v.a8>0->L v.g9:=fun v hv hb=>by
   rcases b0y hv with q|q
   ·exact h.bv v q hb
   ·rcases List.mem_append.1 q with q|q
    ·rw [(f6m.1 q).2] at hb;exact absurd hb (by decide)
    ·exact hm.vs v q hb
  cases n.d7 != 1||m.a8 != n.a8
  ·simp only [cond_false];cases N5 (n.c8.set m.c8.toNat true)
   ·exact .of rfl rfl rfl rfl rfl ⟨h.kn,h.av,hb,h.cu,h.wt,h.qu⟩ (by simp)
   ·simp only [cond_true];have h1:Act L n {n with c8:=[],i4:=D6 n.i4 (f5u m.g7.toNat v0++m.a7),d7:=2} [] []:=.of rfl rfl rfl rfl rfl ⟨h.kn,h.av,hb,fun q=>absurd (show (2:Int)=3 from q) (by decide),h.wt,h.qu⟩ (by simp);have h2:=h1.thenP h0;rw [f6o] at h2;exact h2
  ·exact .same h
 rw [show (m.a9==2)=false by simpa using k2];by_cases k3:m.a9=3
 ·rw [show (m.a9==3)=true by simpa using k3];simp only [cond_true,cond_false];unfold a1S;cases hp:K5 n.Acc m.a8 m.g7 m.g9 with
  | none=>exact .of rfl rfl rfl rfl rfl h fun x hx=>by rw [f5y.1 hx];exact .plain (by simp [M2]) (by simp [M2]) (by simp [M2]) rfl
  | some a =>
   obtain ⟨y1,y2,y3,y4⟩:=c4v {n with Acc:=a} m.a8;have hg:ND L {n with Acc:=a}:=⟨h.kn,d5g hp h.av (hm.en (.inl k3)),h.bv,h.cu,h.wt,h.qu⟩
   refine .of (a6c _ _) y1 y2 y3 y4 (hg.yield _) fun x hx => ?_
   rw [f5y.1 hx];exact .plain (by simp [M2]) (by simp [M2]) (by simp [M2]) rfl
 rw [show (m.a9==3)=false by simpa using k3];by_cases k4:m.a9=4
 ·rw [show (m.a9==4)=true by simpa using k4];simp only [cond_true,cond_false];unfold a2M;cases hc:n.d7 != 3||(m.a8 != n.a8||m.g7 != (n.a5.length:Int))
  ·simp only [cond_false];simp only [f6D,bne_eq_false_iff_eq] at hc;have hcu:=h.cu hc.1;have h1:ND L {n with a7:=n.a7.set m.c8.toNat true}:=⟨h.kn,h.av,h.bv,h.cu,h.wt,h.qu⟩
   cases N5 (n.a7.set m.c8.toNat true)
   ·exact .of rfl rfl rfl rfl rfl h1 (by simp)
   ·simp only [cond_true];have h2:=Act.learn h1 h0 hcu;exact ⟨h2.id,h2.sq,h2.kn,h2.bw,h2.nd,fun x hx=>(List.mem_append.1 hx).elim (fun q=>(ML.has rfl hcu).all q) (h2.ml x),h2.to⟩
  ·exact .same h
 rw [show (m.a9==4)=false by simpa using k4];by_cases k5:m.a9=5
 ·rw [show (m.a9==5)=true by simpa using k5];simp only [cond_true,cond_false];unfold a2l;cases decide (m.g7<(n.a5.length:Int))
  ·cases decide (m.g7>(n.a5.length:Int))
   ·exact .learn h h0 (hm.en (.inr (.inl k5)))
   ·exact .of rfl rfl rfl rfl rfl h fun x hx=>by rw [f5y.1 hx];exact .plain (by simp [M2]) (by simp [M2]) (by simp [M2]) rfl
  ·exact .same h
 rw [show (m.a9==5)=false by simpa using k5];by_cases k6:m.a9=6
 ·rw [show (m.a9==6)=true by simpa using k6];simp only [cond_true,cond_false];have hg:ND L {n with Acc:=(H7 n.Acc m.a8).getD n.Acc}:=by
   cases hp:H7 n.Acc m.a8 with
   | none=>exact h
   | some a =>
    obtain ⟨rfl,_⟩:=a4v hp;exact ⟨h.kn,h.av,h.bv,h.cu,h.wt,h.qu⟩
  obtain ⟨y1,y2,y3,y4⟩:=c4v {n with Acc:=(H7 n.Acc m.a8).getD n.Acc} m.a8;exact .of (a6c _ _) y1 y2 y3 y4 (hg.yield _) (by simp)
 rw [show (m.a9==6)=false by simpa using k6];by_cases k7:m.a9=7
 ·rw [show (m.a9==7)=true by simpa using k7];simp only [cond_true,cond_false];unfold a0p;cases n.d7==0||(decide (4<=n.d9.length)||N4 n.a5 m.g9.a0)
  ·simp only [cond_false];have h1:Act L n {n with d9:=n.d9++[m.g9]} [] []:=.of rfl rfl rfl rfl rfl ⟨h.kn,h.av,h.bv,h.cu,h.wt,fun e he=>(List.mem_append.1 he).elim (h.qu e) fun q=>by rw [f5y.1 q];exact hm.en (.inr (.inr k7))⟩ (by simp);have h2:=h1.thenP h0;rw [f6o] at h2;exact h2
  ·exact .same h
 rw [show (m.a9==7)=false by simpa using k7];cases m.a9==8
 ·exact .same h
 ·refine .of rfl rfl rfl rfl rfl h fun x hx => ?_
  obtain ⟨l,hl,hx⟩:=f6s.1 hx;obtain ⟨j,hj,rfl⟩:=List.mem_map.1 hl;unfold a1e at hx;cases hk:n.a5[m.g7.toNat+j]? with
  | none=>rw [hk] at hx;cases hx
  | some e =>
   rw [hk] at hx;rw [f5y.1 hx];exact .has rfl (h.kn e (f5F hk))
theorem Act.rise(h:ND L n):Act L n (W9 n).1 (W9 n).2 []:=by
 unfold W9;cases decide (L4 n.Acc.i0 n.Id<0)
 ·refine .of rfl rfl rfl rfl rfl ⟨h.kn,h.av,h.av,fun q=>absurd (show (1:Int)=3 from q) (by decide),h.wt,h.qu⟩ fun x hx=>(ML.plain (by simp) (by simp) (by simp) rfl).all hx
 ·exact .same h
theorem Act.retry(h:ND L n)(h0:L eN):Act L n (Q8 n).1 (Q8 n).2 []:=by
 have hn:∀x∈H4 n.Id ⟨8,0,0,0,(n.a5.length:Int),zE,[]⟩,ML L x:=fun x hx=>(ML.plain (by simp) (by simp) (by simp) rfl).all hx
 have N5:∀{l:List l8},(∀x∈l,ML L x)->Act L n n (H4 n.Id ⟨8,0,0,0,(n.a5.length:Int),zE,[]⟩++l) []:=fun {l} hl=>.of rfl rfl rfl rfl rfl h fun x hx=>(List.mem_append.1 hx).elim (hn x) (hl x)
 unfold Q8;by_cases h1:n.d7=1
 ·rw [show (n.d7==1)=true by simpa using h1];exact N5 fun x hx=>(ML.plain (by simp) (by simp) (by simp) rfl).all hx
 rw [show (n.d7==1)=false by simpa using h1];by_cases h2:n.d7=2
 ·rw [show (n.d7==2)=true by simpa using h2];have hp:Act L n n (H4 n.Id ⟨8,0,0,0,(n.a5.length:Int),zE,[]⟩) []:=.of rfl rfl rfl rfl rfl h hn;exact hp.thenP h0
 rw [show (n.d7==2)=false by simpa using h2];by_cases h3:n.d7=3
 ·rw [show (n.d7==3)=true by simpa using h3];exact N5 fun x hx=>(ML.has rfl (h.cu h3)).all hx
 rw [show (n.d7==3)=false by simpa using h3];cases hb:n.i8
 ·exact .of rfl rfl rfl rfl rfl h hn
 ·exact N5 fun x hx=>(ML.has rfl (h.wt hb)).all hx
theorem Act.fall(h:ND L n):Act L n (a1s n) [] []:=⟨rfl,rfl,⟨[],by simp [a1s,C5]⟩,.inr rfl,⟨h.kn,h.av,by simp [a1s,C5],fun q=>absurd (show (0:Int)=3 from q) (by decide),fun q=>(by cases q),by simp [a1s,C5]⟩,by simp,.inl rfl⟩
theorem ND.mono{L':m4->Prop}(h:ND L n)(hi:∀e,L e->L' e):ND L' n:=⟨fun e q=>hi e (h.kn e q),fun v q b=>hi _ (h.av v q b),fun v q b=>hi _ (h.bv v q b),fun q=>hi _ (h.cu q),fun q=>hi _ (h.wt q),fun e q=>hi e (h.qu e q)⟩
theorem ML.mono{L':m4->Prop}(h:ML L m)(hi:∀e,L e->L' e):ML L' m:=⟨fun q=>hi _ (h.en q),fun v q b=>hi _ (h.vs v q b)⟩
end
def a0Q(w:m5)(e:m4):Prop:=e.i7=true\/∃a∈w.d8,a.a0=e.a0/\∃j,j<=(u5 w e.a0.b9).a5.length/\(∀x∈(u5 w e.a0.b9).a5.take j,F5 e.a0 x=false)/\e.b8=C1 (q9 ((u5 w e.a0.b9).a5.take j)).1.g8 a.i6
def a8j(l:List m4)(t:m9):Prop := ∃k,l.findIdx? (F5 t.a0)=some k/\t.Code=Q0 l k/\t.f0=bif Q0 l k==0 then T8 l t.a0 else 0
structure TL(w:m5):Prop where
 nd:∀i,D3 i->ND (a0Q w) (u5 w i)
 ml:∀m∈w.d6,ML (a0Q w) m
 aq:∀a∈w.d8,D3 a.a0.b9/\1<=a.a0.Seq/\a.a0.Seq<=(u5 w a.a0.b9).Seq
 au:(w.d8.map (·.a0)).Nodup
 tn:∀t∈w.Told,t.Node=t.a0.b9/\D3 t.Node/\(∃a∈w.d8,a.a0=t.a0)/\((u5 w t.Node).i8=true->t.a0.Seq<(u5 w t.Node).Seq)/\a8j (u5 w t.Node).a5 t
 tu:(w.Told.map (·.a0)).Nodup
theorem d56{l t:List m4}{q:n9}{k:Nat}(h:l.findIdx? (F5 q)=some k):(l++t).findIdx? (F5 q)=some k:=by
 rw [List.findIdx?_append,h];rfl
theorem c88{l t:List m4}{k:Nat}(h:G6 (l++t)=true)(hk:k<l.length):Q0 (l++t) k=Q0 l k:=by
 have hl:G6 l=true:=by
  unfold G6 at h ⊢;simp only [f5D,List.all_append,f5w,decide_eq_true_eq] at h ⊢;exact ⟨by omega,h.2.1⟩
 rw [c3E h (by rw [f5D];omega),c3E hl hk,f6h (by omega),List.getElem_append_left hk]
theorem e3y{l t:List m4}{q:n9}{k:Nat}(h:l.findIdx? (F5 q)=some k):T8 (l++t) q=T8 l q:=by
 obtain ⟨hk,_⟩:=b21 h;unfold T8;rw [d56 h,h];simp only [f5O hk]
theorem a8j.app{l t:List m4}{x:m9}(h:a8j l x)(hl:G6 (l++t)=true):a8j (l++t) x:=by
 obtain ⟨k,h1,h2,h3⟩:=h;obtain ⟨hk,_⟩:=b21 h1;exact ⟨k,d56 h1,by rw [c88 hl hk];exact h2,by rw [c88 hl hk,e3y h1];exact h3⟩
theorem a63{w:m5}(h:WI w){i:Int}(hi:D3 i):NI (u5 w i)/\(u5 w i).Id=i:=by
 rw [a13 hi];unfold D3 at hi;obtain ⟨k,rfl⟩:∃k:Nat,i=(k:Int):=⟨i.toNat,by omega⟩
 obtain ⟨n,_,h2,h3,h4,_⟩:=a36 h (i:=k) (by omega);rw [h2];exact ⟨h4,h3⟩
theorem c00{w w':m5}(hl:w.a6.length=3){i:Nat}(hi:i<3)(n:j6)(hw:w'.a6=w.a6.set i n)(j:Int):u5 w' j=if j=(i:Int) then n else u5 w j:=by
 unfold u5 G8;rw [hw];by_cases hj:0<=j/\j<=2
 ·rw [if_pos hj,if_pos hj];by_cases q:j=(i:Int)
  ·subst q;rw [if_pos rfl,f5P,f5G,f6v (by omega)];rfl
  ·rw [if_neg q,f5G,f5N (by omega),<-f5G]
 ·rw [if_neg hj,if_neg hj,if_neg (by omega)]
theorem a0Q.mono{w w':m5}(hk:∀j,∃t,(u5 w' j).a5=(u5 w j).a5++t)(ha:∀a∈w.d8,a∈w'.d8){e:m4}(h:a0Q w e):a0Q w' e:=by
 rcases h with h|⟨a,h1,h2,j,h3,h4,h5⟩
 ·exact .inl h
 ·obtain ⟨t,ht⟩:=hk e.a0.b9;refine .inr ⟨a,ha a h1,h2,j,by rw [ht,f5D];omega,?_,?_⟩
  ·rw [ht,f6h h3];exact h4
  ·rw [ht,f6h h3];exact h5
theorem TL.step{w w':m5}(h:TL w)(hl:w.a6.length=3){i:Nat}(hi:i<3)(hni:NI (u5 w (i:Int)))(hid:(u5 w (i:Int)).Id=(i:Int)){n':j6}{l:List l8}{ts:List m9}(hn':NI n')(ha:Act (a0Q w) (u5 w (i:Int)) n' l ts)(hn:w'.a6=w.a6.set i n')(hm:∀m∈w'.d6,m∈w.d6\/m∈l)(hk:w'.d8=w.d8)(ht:w'.Told=w.Told\/w'.Told=w.Told++ts):TL w':=by
 have hJ:=c00 hl hi n' hn;have hD:D3 (i:Int):=by unfold D3;omega
 have hJi:u5 w' (i:Int)=n':=by rw [hJ,if_pos rfl]
 have hkn:∀j,∃t,(u5 w' j).a5=(u5 w j).a5++t:=fun j=>by
  rw [hJ];split
  ·rename_i q;subst q;exact ha.kn
  ·exact ⟨[],by simp⟩
 have hmo:∀e,a0Q w e->a0Q w' e:=fun e=>a0Q.mono hkn (by rw [hk];exact fun _ q=>q)
 have hsq:∀j,(u5 w' j).Seq=(u5 w j).Seq:=fun j=>by
  rw [hJ];split
  ·rename_i q;subst q;exact ha.sq
  ·rfl
 have hls:∀j,D3 j->NI (u5 w j)->∀t,(u5 w' j).a5=(u5 w j).a5++t->G6 ((u5 w j).a5++t)=true\/(u5 w' j).a5=(u5 w j).a5:=fun j hj hjn t ht=>by
  by_cases q:j=(i:Int)
  ·subst q;rw [hJi] at ht;left;rw [<-ht];exact hn'.list
  ·right;rw [hJ,if_neg q]
 have old:∀t∈w.Told,t.Node=t.a0.b9/\D3 t.Node/\(∃a∈w'.d8,a.a0=t.a0)/\((u5 w' t.Node).i8=true->t.a0.Seq<(u5 w' t.Node).Seq)/\a8j (u5 w' t.Node).a5 t:=by
  intro t q;obtain ⟨x1,x2,x3,x4,x5⟩:=h.tn t q;refine ⟨x1,x2,by rw [hk];exact x3,fun hb => ?_,?_⟩
  ·rw [hsq];refine x4 ?_;rw [hJ] at hb;split at hb
   ·rename_i q;rw [q];rcases ha.bw with ⟨b,_⟩|b
    ·rw [<-b];exact hb
    ·rw [b] at hb;cases hb
   ·exact hb
  ·obtain ⟨t',ht'⟩:=hkn t.Node;rw [ht'];by_cases q:t.Node=(i:Int)
   ·refine x5.app ?_;rw [<-ht',q,hJi];exact hn'.list
   ·have:t'=[]:=by
     rw [hJ,if_neg q] at ht';have:=congrArg List.length ht';rw [f5D] at this;exact f5E (by omega)
    rw [this,f6d];exact x5
 have new:∀t∈ts,(t.Node=t.a0.b9/\D3 t.Node/\(∃a∈w'.d8,a.a0=t.a0)/\((u5 w' t.Node).i8=true->t.a0.Seq<(u5 w' t.Node).Seq)/\a8j (u5 w' t.Node).a5 t)/\ts=[t]/\(u5 w (i:Int)).i8=true/\t.a0=⟨(i:Int),(u5 w (i:Int)).Seq⟩:=by
  intro t q;rcases ha.to with e|⟨b1,b2,k,b3,b4⟩
  ·rw [e] at q;cases q
  ·rw [b4] at q;have q:=f5y.1 q;have hw:(u5 w (i:Int)).b7.a0=⟨(i:Int),(u5 w (i:Int)).Seq⟩/\(u5 w (i:Int)).b7.i7=false:=by
    rcases hni.wt with y|y
    ·exact ⟨by rw [y.2.2.2.2,hid],y.2.2.2.1⟩
    ·rw [b1] at y;cases y.1
   have hlg:=(h.nd (i:Int) hD).wt b1;rcases hlg with y|⟨a,a1,a2,_⟩
   ·rw [hw.2] at y;cases y
   ·subst q;refine ⟨⟨?_,by show D3 _;rw [hid];exact hD,⟨a,by rw [hk];exact a1,a2⟩,?_,?_⟩,b4,b1,hw.1⟩
    ·show (u5 w (i:Int)).Id=(u5 w (i:Int)).b7.a0.b9
     rw [hw.1,hid]
    ·show (u5 w' (u5 w (i:Int)).Id).i8=true->_
     rw [hid,hJi,b2];intro y;cases y
    ·show a8j (u5 w' (u5 w (i:Int)).Id).a5 _
     rw [hid,hJi];exact ⟨k,b3,rfl,rfl⟩
 refine ⟨fun j hj => ?_,fun m q => ?_,fun a q => ?_,by rw [hk];exact h.au,fun t q => ?_,?_⟩
 ·rw [hJ];split
  ·exact ha.nd.mono hmo
  ·exact (h.nd j hj).mono hmo
 ·exact (hm m q).elim (fun q=>(h.ml m q).mono hmo) fun q=>(ha.ml m q).mono hmo
 ·rw [hk] at q;obtain ⟨x1,x2,x3⟩:=h.aq a q;exact ⟨x1,x2,by rw [hsq];exact x3⟩
 ·rcases ht with e|e
  ·rw [e] at q;exact old t q
  ·rw [e] at q;exact (List.mem_append.1 q).elim (old t) fun q=>(new t q).1
 ·rcases ht with e|e
  ·rw [e];exact h.tu
  ·rw [e,f6E];refine f5C.2 ⟨h.tu,?_,?_⟩
   ·cases hts:ts with
    | nil=>simp
    | cons t r =>
     have:=(new t (by rw [hts];simp)).2.1;rw [hts] at this;injection this with _ hr;rw [hr];simp
   ·intro a ha' b hb' hab;obtain ⟨x,hx,rfl⟩:=List.mem_map.1 ha';obtain ⟨y,hy,rfl⟩:=List.mem_map.1 hb';obtain ⟨_,_,n3,n4⟩:=new y hy;obtain ⟨o1,o2,o3,o4,o5⟩:=h.tn x hx;rw [n4] at hab;have:x.Node=(i:Int):=by rw [o1,hab]
    have:=o4 (by rw [this];exact n3);rw [‹x.Node=(i:Int)›,hab] at this;simp only at this;omega
theorem TL.asked{w w':m5}(h:TL w)(hw:WI w){i:Nat}(hi:i<3){p:List n8}(hc:K3 (u5 w (i:Int)) p=true)(hn:w'.a6=w.a6.set i (P7 (u5 w (i:Int)) p))(hm:w'.d6=w.d6)(hk:w'.d8=w.d8++[⟨⟨(i:Int),(u5 w (i:Int)).Seq+1⟩,p⟩])(ht:w'.Told=w.Told):TL w':=by
 have hJ:=c00 hw.nl hi _ hn;have hD:D3 (i:Int):=by unfold D3;omega
 obtain ⟨hni,hid⟩:=a63 hw hD;have hJi:u5 w' (i:Int)=P7 (u5 w (i:Int)) p:=by rw [hJ,if_pos rfl]
 have hkn:∀j,(u5 w' j).a5=(u5 w j).a5:=fun j=>by
  rw [hJ];split
  ·rename_i q;subst q;rfl
  ·rfl
 have hsq:∀j,(u5 w j).Seq<=(u5 w' j).Seq:=fun j=>by
  rw [hJ];split
  ·rename_i q;subst q;show _<=(u5 w (i:Int)).Seq+1;omega
  ·exact f5R _
 have hmo:∀e,a0Q w e->a0Q w' e:=fun e=>a0Q.mono (fun j=>⟨[],by rw [hkn,f6d]⟩) (by rw [hk];exact fun a q=>f6R _ q)
 have hnew:∀e,a0Q w e->F5 ⟨(i:Int),(u5 w (i:Int)).Seq+1⟩ e=false:=fun e he=>by
  cases hq:F5 ⟨(i:Int),(u5 w (i:Int)).Seq+1⟩ e
  ·rfl
  ·unfold F5 at hq;simp only [f5w,f6a] at hq;have hr:e.a0=⟨(i:Int),(u5 w (i:Int)).Seq+1⟩:=(a9k (b:=⟨(i:Int),(u5 w (i:Int)).Seq+1⟩)).1 hq.2;rcases he with he|⟨a,a1,a2,_⟩
   ·rw [hq.1] at he;cases he
   ·have:=(h.aq a a1).2.2;rw [a2,hr] at this;simp only at this;omega
 have hnd:=h.nd (i:Int) hD;refine ⟨fun j hj => ?_,fun m q=>(h.ml m (hm▸q)).mono hmo,fun a q => ?_,?_,fun t q => ?_,by rw [ht];exact h.tu⟩
 ·rw [hJ];split
  ·refine ⟨fun e q=>hmo e (hnd.kn e q),fun v q b=>hmo _ (hnd.av v q b),fun v q b=>hmo _ (hnd.bv v q b),fun q=>hmo _ (hnd.cu q),fun _ => ?_,fun e q=>hmo e (hnd.qu e q)⟩;refine .inr ⟨⟨⟨(i:Int),(u5 w (i:Int)).Seq+1⟩,p⟩,by rw [hk];simp,?_,(u5 w (i:Int)).a5.length,?_,?_,?_⟩
   ·show _=(⟨(u5 w (i:Int)).Id,(u5 w (i:Int)).Seq+1⟩:n9)
    rw [hid]
   ·show _<=(u5 w' (u5 w (i:Int)).Id).a5.length
    rw [hid,hkn];exact f5K _
   ·show ∀x∈(u5 w' (u5 w (i:Int)).Id).a5.take _,F5 (⟨(u5 w (i:Int)).Id,(u5 w (i:Int)).Seq+1⟩:n9) x=false
    rw [hid,hkn,f5M];exact fun x hx=>hnew x (hnd.kn x hx)
   ·show _=C1 (q9 ((u5 w' (u5 w (i:Int)).Id).a5.take _)).1.g8 p
    rw [hid,hkn,f5M];rfl
  ·exact (h.nd j hj).mono hmo
 ·rw [hk] at q;rcases List.mem_append.1 q with q|q
  ·obtain ⟨x1,x2,x3⟩:=h.aq a q;exact ⟨x1,x2,f6q x3 (hsq _)⟩
  ·rw [f5y.1 q];refine ⟨hD,by have:=hni.sq;show 1<=(u5 w (i:Int)).Seq+1;omega,?_⟩;show _<=(u5 w' (i:Int)).Seq
   rw [hJi];exact f5R _
 ·rw [hk,f6E];refine f5C.2 ⟨h.au,by simp,?_⟩;intro a ha b hb hab;obtain ⟨x,hx,rfl⟩:=List.mem_map.1 ha;rw [List.map_singleton,f5y] at hb;have:=(h.aq x hx).2.2;rw [hab,hb] at this;simp only at this;omega
 ·rw [ht] at q;obtain ⟨x1,x2,⟨a,a1,a2⟩,x4,x5⟩:=h.tn t q;refine ⟨x1,x2,⟨a,by rw [hk];exact f6R _ a1,a2⟩,fun hb => ?_,by rw [hkn];exact x5⟩;rw [hJ] at hb ⊢;split
  ·rename_i q;have:=(h.aq a a1).2.2;rw [a2,<-x1,q] at this;show _<(u5 w (i:Int)).Seq+1
   omega
  ·rename_i q;rw [if_neg q] at hb;exact x4 hb
theorem e7Q{w:m5}(h:WI w)(ht:TL w){e:r9}(he:Q7 e):TL (D9 w e):=by
 have h0:a0Q w eN:=.inl rfl;unfold D9;cases hk:e.a9==2||(e.a9==3||e.a9==4)
 ·simp only [cond_false];cases hA:p9 e.A 0 2
  ·exact ht
  simp only [f5x,cond_false];rw [J0] at hA;obtain ⟨i,hi⟩:∃i:Nat,e.A=(i:Int):=⟨e.A.toNat,by omega⟩
  have hi3:i<3:=by omega
  have hD:D3 (i:Int):=by unfold D3;omega
  rw [hi];have hN:u5 w (i:Int)=G8 w (i:Int):=a13 hD;obtain ⟨hni,hid⟩:=a63 h hD;have hnd:=ht.nd (i:Int) hD;rw [<-hN];cases e.a9==1
  ·cases e.a9==5
   ·cases e.a9==6
    ·cases e.a9==7
     ·exact ht
     ·exact ht.step h.nl hi3 hni hid hni.fall (.fall hnd) rfl (fun m q=>.inl q) rfl (.inl rfl)
    ·exact ht.step h.nl hi3 hni hid (a9O hni).ni (.retry hnd h0) rfl (fun m q=>a2w (w:=M6 w _ _) q) rfl (.inl rfl)
   ·exact ht.step h.nl hi3 hni hid (a96 hni).ni (.rise hnd) rfl (fun m q=>a2w (w:=M6 w _ _) q) rfl (.inl rfl)
  ·simp only [cond_true];unfold a28;cases hal:decide (60<=w.d8.length)
   ·rw [<-hN];simp only [cond_false];rw [c3F];cases hc:K3 (u5 w (i:Int)) e.i6
    ·simp only [cond_false];rw [a1Z,hc];exact ht.step h.nl hi3 hni hid hni (.same hnd) rfl (fun m q=>a2w (w:=M6 w _ _) q) rfl (.inl rfl)
    ·simp only [cond_true];have hf:s9 e.i6:=A4.fits he (by decide);have hwq:(I8 (u5 w (i:Int)) e.i6).1.b7.a0=⟨(i:Int),(u5 w (i:Int)).Seq+1⟩:=by
      rw [b6h hc];show (⟨(u5 w (i:Int)).Id,_⟩:n9)=_;rw [hid]
     rw [hwq];have h1:TL ⟨w.a6.set i (P7 (u5 w (i:Int)) e.i6),w.d6,w.d8++[⟨⟨(i:Int),(u5 w (i:Int)).Seq+1⟩,e.i6⟩],w.Told⟩:=ht.asked h hi3 hc rfl rfl rfl rfl;have hJ:=c00 (w':=⟨w.a6.set i (P7 (u5 w (i:Int)) e.i6),w.d6,w.d8++[⟨⟨(i:Int),(u5 w (i:Int)).Seq+1⟩,e.i6⟩],w.Told⟩) h.nl hi3 _ rfl (i:Int);rw [if_pos rfl] at hJ;have hnd1:=h1.nd (i:Int) hD;rw [hJ] at hnd1;have hni1:=hni.asked hf hc;have hcan:=hc;refine h1.step (i:=i) (n':=(I8 (u5 w (i:Int)) e.i6).1) (l:=(I8 (u5 w (i:Int)) e.i6).2) (ts:=[]) (by show (w.a6.set i _).length=3;rw [f6M];exact h.nl) hi3 (by rw [hJ];exact hni1) (by rw [hJ];exact hid) (b1a hni hf).ni ?_ ?_ (fun m q=>a2w (w:=M6 ⟨w.a6,w.d6,w.d8++[_],w.Told⟩ _ _) q) rfl (.inl rfl)
     ·rw [hJ];rw [a1Z,hc];have h0':a0Q ⟨w.a6.set i (P7 (u5 w (i:Int)) e.i6),w.d6,w.d8++[⟨⟨(i:Int),(u5 w (i:Int)).Seq+1⟩,e.i6⟩],w.Told⟩ eN:=.inl rfl;simp only [cond_true];cases (u5 w (i:Int)).d7==2
      ·refine .of rfl rfl rfl rfl rfl hnd1 fun x hx => ?_
       simp only [cond_false] at hx;cases hp0:(u5 w (i:Int)).d7==0
       ·rw [hp0] at hx;cases hx
       ·rw [hp0] at hx;exact (ML.has rfl (hnd1.wt rfl)).all hx
      ·exact .propose hnd1 h0'
     ·show w.a6.set _ _=(w.a6.set i _).set i _
      rw [List.set_set];rfl
   ·exact ht
 ·simp only [cond_true];unfold a06;cases hA:decide (0<=e.A)
  ·exact ht
  simp only [cond_true];cases hm:w.d6[e.A.toNat]? with
  | none=>exact ht
  | some m =>
   have hmem:=f5F hm;have hmi:=h.ms m hmem;have hself:∀{w':m5},w'.a6=w.a6->w'.d8=w.d8->w'.Told=w.Told->(∀x∈w'.d6,x∈w.d6)->TL w':=fun {w'} e1 e2 e3 e4=>by
    obtain ⟨hni,hid⟩:=a63 h (i:=0) (by unfold D3;omega);refine ht.step (i:=0) h.nl (by omega) hni hid hni (.same (ht.nd 0 (by unfold D3;omega))) ?_ (fun x q=>.inl (e4 x q)) e2 (.inl e3);rw [e1];have hl:=h.nl;have:u5 w ((0:Nat):Int)=w.a6[0]:=by
     rw [a13 (by unfold D3;omega)];show w.a6.getD 0 _=_
     rw [f5G,f5t (by omega)];rfl
    rw [show u5 w 0=w.a6[0] from this,f7u]
   simp only;cases e.a9==4
   ·cases e.a9==3
    ·simp only [cond_false];have hto:=hmi.to;obtain ⟨t,htt⟩:∃t:Nat,m.To=(t:Int):=⟨m.To.toNat,by omega⟩
     have hD:D3 (t:Int):=by unfold D3;omega
     have hN:u5 w (t:Int)=G8 w (t:Int):=a13 hD;obtain ⟨hni,hid⟩:=a63 h hD;rw [htt,<-hN];have hact:=Act.take (ht.nd (t:Int) hD) h0 (ht.ml m hmem) hmi;refine ht.step h.nl (i:=t) (by omega) hni hid (b35 hni hmi).ni hact rfl (fun x q=>(a2w (w:=M6 (a2p w e.A) _ _) q).imp (fun q=>b9t q) id) rfl ?_;show (w.Told++List.take (60-w.Told.length) _=w.Told\/_)
     have hl1:=(b80 hni m).2;rcases Nat.eq_zero_or_pos (60-w.Told.length) with q|q
     ·left;rw [q,f6i,f6d]
     ·right
      show w.Told++List.take (60-w.Told.length) _=_
      rw [f6g (by omega)]
    ·exact hself rfl rfl rfl fun x q=>b9t q
   ·exact hself rfl rfl rfl fun x q=>(a2w q).elim id fun q=>by rw [f5y.1 q];exact hmem
theorem e1z:TL O1:=by
 have hn:∀j,D3 j->u5 O1 j=C5 j:=fun j hj=>by
  rw [a13 hj];unfold D3 at hj;obtain rfl|rfl|rfl:j=0\/j=1\/j=2:=by omega
  all_goals rfl
 refine ⟨fun i hi => ?_,fun m hm=>(by cases hm),fun a ha=>(by cases ha),by simp [O1],fun t ht=>(by cases ht),by simp [O1]⟩;rw [hn i hi];exact ⟨by simp [C5],by simp [C5],by simp [C5],fun q=>absurd (show (0:Int)=3 from q) (by decide),fun q=>(by cases q),by simp [C5]⟩
section
variable {w:m5}
theorem e6o{α:Type}(z:α):∀{l:List α},l.length=3->l=[l.getD 0 z,l.getD 1 z,l.getD 2 z]
 | [a,b,c],_=>rfl
theorem c1E(h:WI w):w.a6=[u5 w 0,u5 w 1,u5 w 2]:=by
 have e0:u5 w 0=w.a6.getD 0 (C5 0):=a13 (j:=0) (by unfold D3;omega);have e1:u5 w 1=w.a6.getD 1 (C5 0):=a13 (j:=1) (by unfold D3;omega);have e2:u5 w 2=w.a6.getD 2 (C5 0):=a13 (j:=2) (by unfold D3;omega);rw [e0,e1,e2];exact e6o (C5 0) h.nl
theorem b0d(h:WI w){n:j6}(hn:n∈w.a6):∃i,D3 i/\n=u5 w i:=by
 rw [c1E h] at hn;simp only [f5B,f7k,or_false] at hn;rcases hn with q|q|q
 ·exact ⟨0,by unfold D3;omega,q⟩
 ·exact ⟨1,by unfold D3;omega,q⟩
 ·exact ⟨2,by unfold D3;omega,q⟩
theorem d0a(h:WI w){i:Nat}(hi:i<w.a6.length):w.a6[i]=u5 w (i:Int)/\i<3:=by
 have hl:=h.nl;rw [a13 (by unfold D3;omega)];unfold G8;rw [f5P,f5G,f5t hi];exact ⟨rfl,by omega⟩
theorem d1a(hp:PW w){i j:Int}(hi:D3 i)(hj:D3 j){s:Nat}{a b:m4}(ha:(u5 w i).a5[s]?=some a)(hb:(u5 w j).a5[s]?=some b):a=b:=by
 obtain ⟨V,P,M,h,_⟩:=hp;exact h.one (h.kn i s a hi ha) (h.kn j s b hj hb)
theorem f05(a b c:j6)(x:List l8)(y:List x7)(z:List m9):∃n∈[a,b,c],x9 ⟨[a,b,c],x,y,z⟩=n.a5/\∀m∈[a,b,c],m.a5.length<=n.a5.length:=by
 have e:x9 ⟨[a,b,c],x,y,z⟩=(bif decide ((b.a5.length:Int)>(a.a5.length:Int)) then (bif decide ((c.a5.length:Int)>(b.a5.length:Int)) then c else b) else (bif decide ((c.a5.length:Int)>(a.a5.length:Int)) then c else a)).a5:=by
  unfold x9;simp only [best,f6y,f6Z,f6A,f6F];have e0:decide ((a.a5.length:Int)>(a.a5.length:Int))=false:=by simp
  simp only [e0,cond_false,f6A];cases decide ((b.a5.length:Int)>(a.a5.length:Int))
  ·simp only [cond_false,f6A];cases decide ((c.a5.length:Int)>(a.a5.length:Int))<;>rfl
  ·simp only [cond_true,f6A,f6F];cases decide ((c.a5.length:Int)>(b.a5.length:Int))<;>rfl
 rw [e];cases h1:decide ((b.a5.length:Int)>(a.a5.length:Int))
 ·cases h2:decide ((c.a5.length:Int)>(a.a5.length:Int))
  ·exact ⟨a,by simp,rfl,by simp at h1 h2 ⊢;omega⟩
  ·exact ⟨c,by simp,rfl,by simp at h1 h2 ⊢;omega⟩
 ·cases h2:decide ((c.a5.length:Int)>(b.a5.length:Int))
  ·exact ⟨b,by simp,rfl,by simp at h1 h2 ⊢;omega⟩
  ·exact ⟨c,by simp,rfl,by simp at h1 h2 ⊢;omega⟩
theorem b5b(h:WI w):∃b,D3 b/\x9 w=(u5 w b).a5/\∀i,D3 i->(u5 w i).a5.length<=(x9 w).length:=by
 have hn:=c1E h;obtain ⟨n,n1,n2,n3⟩:=f05 (u5 w 0) (u5 w 1) (u5 w 2) w.d6 w.d8 w.Told;rw [<-hn] at n1 n2 n3;obtain ⟨b,hb,rfl⟩:=b0d h n1;refine ⟨b,hb,n2,fun i hi => ?_⟩;have n2':x9 w=(u5 w b).a5:=n2;rw [n2'];refine n3 _ ?_;rw [hn];unfold D3 at hi;obtain rfl|rfl|rfl:i=0\/i=1\/i=2:=by omega
 all_goals simp
theorem f0c(h:WI w)(hp:PW w){i:Int}(hi:D3 i):(u5 w i).a5=(x9 w).take (u5 w i).a5.length:=by
 obtain ⟨b,hb,h1,h2⟩:=b5b h;have hl:=h2 i hi;apply List.ext_getElem?;intro s;by_cases hs:s<(u5 w i).a5.length
 ·rw [f6W,if_pos hs];obtain ⟨y,hy⟩:∃y,(x9 w)[s]?=some y:=⟨_,f5t (show s<(x9 w).length by omega)⟩
  rw [hy,f5t hs];rw [h1] at hy;exact congrArg some (d1a hp hi hb (f5t hs) hy)
 ·rw [f5Q (by omega),f5Q (by rw [f5L];omega)]
theorem d4s(h:WI w)(hp:PW w){i:Int}(hi:D3 i):∃t,x9 w=(u5 w i).a5++t:=by
 refine ⟨(x9 w).drop (u5 w i).a5.length,?_⟩;conv=>rhs;lhs;rw [f0c h hp hi]
 rw [f6r]
theorem b2j(h:WI w):G6 (x9 w)=true:=by
 obtain ⟨b,hb,h1,_⟩:=b5b h;rw [h1];exact (a63 h hb).1.list
theorem e4Y(ht:TL w):b6x w.Told=true:=by
 unfold b6x;rw [List.all_eq_true];intro i hi;have hi:i<w.Told.length:=by simpa using hi
 rw [c70 hi,f6a,f6f];intro s hs hq;obtain ⟨j,hj,rfl⟩:=f6u.1 hs;have hj:j<i:=by omega
 have he:w.Told[j].a0=w.Told[i].a0:=by
  have:H1 w.Told[j].a0=H1 w.Told[i].a0:=by simpa using hq
  rw [<-a9k];rw [f07];simpa using this
 have:=f6j.1 ht.tu j i (by rw [f6l];omega) (by rw [f6l];omega) hj;apply this;rw [f7l,f7l];exact he
theorem e3v(h:WI w)(hp:PW w)(ht:TL w):w.Told.all (b0q (x9 w))=true:=by
 rw [List.all_eq_true];intro t hm;obtain ⟨x1,x2,x3,x4,x5⟩:=ht.tn t hm;obtain ⟨tl,htl⟩:=d4s h hp x2;have hs:=x5.app (t:=tl) (by rw [<-htl];exact b2j h);rw [<-htl] at hs;obtain ⟨k,k1,k2,k3⟩:=hs;unfold b0q;rw [k1];simp only [f5w,beq_iff_eq];refine ⟨k2.symm,?_⟩;rw [k3,k2];unfold T8;rw [k1];try rfl
theorem e1J(h:WI w)(hp:PW w)(ht:TL w):b3H w=some true:=by rw [e57 h.ok (a2e.2 h),e3v h hp ht]
theorem f3s(h:WI w)(ht:TL w):b23 w=some true:=by
 rw [f4H h.ok,e4Y ht,a2e.2 h];rfl
theorem d5v(ht:TL w){a:x7}(ha:a∈w.d8):a0a w a.a0=(a.i6,true):=by
 unfold a0a b8s;have hex:∃b,w.d8.find? (fun x=>(([x.a0.b9,x.a0.Seq]:List Int)==[a.a0.b9,a.a0.Seq]))=some b:=by
  cases hf:w.d8.find? (fun x=>(([x.a0.b9,x.a0.Seq]:List Int)==[a.a0.b9,a.a0.Seq])) with
  | some b=>exact ⟨b,rfl⟩
  | none =>
   have:=f7H.1 hf a ha;simp at this
 obtain ⟨b,hb⟩:=hex;rw [hb];have hbm:=f7G hb;have hbr:=List.find?_some hb;have hbr:=a9k.1 hbr;obtain ⟨i,hi,rfl⟩:=f6e ha;obtain ⟨j,hj,rfl⟩:=f6e hbm;have hij:i=j:=by
  rcases Nat.lt_trichotomy i j with q|q|q
  ·exact absurd (by rw [f7l,f7l];exact hbr.symm) (f6j.1 ht.au i j (by rw [f6l];omega) (by rw [f6l];omega) q)
  ·exact q
  ·exact absurd (by rw [f7l,f7l];exact hbr) (f6j.1 ht.au j i (by rw [f6l];omega) (by rw [f6l];omega) q)
 subst hij;rfl
theorem d9B(h:WI w)(hp:PW w):(w.a6.all fun a=>w.a6.all fun b=>beg a.a5 b.a5)=true:=by
 rw [List.all_eq_true];intro a ha;rw [List.all_eq_true];intro b hb;obtain ⟨i,hi,rfl⟩:=b0d h ha;obtain ⟨j,hj,rfl⟩:=b0d h hb;exact e8m.2 fun s h1 h2=>d1a hp hi hj (f5t h1) (f5t h2)
theorem e9G(h:WI w)(hp:PW w):b1C w=some true:=by
 rw [e3n h.ok,a2e.2 h,d9B h hp];rfl
theorem e5D(h:WI w)(hp:PW w):(w.a6.all fun a=>w.a6.all fun b=>(a.Acc.a7.zip b.Acc.a7).all fun p=>a2d p.1 p.2)=true:=by
 rw [List.all_eq_true];intro a ha;rw [List.all_eq_true];intro b hb;rw [List.all_eq_true];intro p hpm;obtain ⟨i,hi,rfl⟩:=b0d h ha;obtain ⟨j,hj,rfl⟩:=b0d h hb;obtain ⟨s,hs,rfl⟩:=f6e hpm;obtain ⟨s1,s2,e⟩:=b6K hs;rw [e,d7X];intro h0 he;obtain ⟨V,P,M,hx,_⟩:=hp;have hb1:(u5 w i).Acc.a7[s].a8>0:=by
  have:=((a63 h hi).1.vs _ (f5v s1)).1.bal;simp only at h0;omega
 have x1:=hx.cur i s _ hi (f5t s1) hb1;have x2:=hx.cur j s _ hj (f5t s2) (by simp only at he;omega);have p1:=(hx.vp _ _ _ _ x1).2.1;have p2:=(hx.vp _ _ _ _ x2).2.1;simp only at he;rw [he] at p1;exact hx.pu _ _ _ _ p1 p2
theorem d8b(h:WI w)(hp:PW w):b2z w=some true:=by
 rw [e2l h.ok,a2e.2 h,e5D h hp];rfl
theorem e9t(h:WI w)(hp:PW w):w.a6.all (a8v w)=true:=by
 rw [List.all_eq_true];intro n hn;obtain ⟨i,hi,rfl⟩:=b0d h hn;unfold a8v;rw [List.all_eq_true];intro k hk;have hk:k<(u5 w i).a5.length:=by simpa using hk
 rw [d17 hk];obtain ⟨V,P,M,hx,_⟩:=hp;have hc:=hx.still (hx.kn i k _ hi (f5t hk));generalize (u5 w i).a5[k]=e at hc;have key:∀q,(∃v,(u5 w q).Acc.a7[k]?=some v/\v.a8>0/\v.g9=e)->a7J e (S5 (u5 w q) k)=true:=by
  rintro q ⟨v,v1,v2,v3⟩
  unfold a7J S5;rw [v1];simp only [f6G,f5w,decide_eq_true_eq];exact ⟨v2,a1c _ _ |>.2 v3⟩
 have hm:a02 w.a6 k e=(([u5 w 0,u5 w 1,u5 w 2].filter fun n=>a7J e (S5 n k)).length):=by
  unfold a02;rw [<-c1E h]
 obtain ⟨a,b,ha,hb,hab,va,vb⟩:=hc;have va:=key a va;have vb:=key b vb;rw [hm,f6a,decide_eq_false_iff_not];unfold D3 at ha hb;obtain rfl|rfl|rfl:a=0\/a=1\/a=2:=by omega
 all_goals obtain rfl|rfl|rfl:b=0\/b=1\/b=2:=by omega
 all_goals first|(exact absurd rfl hab)|skip
 all_goals simp only [List.filter_cons,va,vb,if_true,List.filter_nil]
 all_goals split
 all_goals simp
theorem e7F(h:WI w)(hp:PW w):b37 w=some true:=by
 rw [e62 h.ok,a2e.2 h,e9t h hp];rfl
theorem e0p(h:WI w)(hp:PW w):((f5A w.a6.length).all (b0r w))=true:=by
 rw [List.all_eq_true];intro i hi;have hi:i<w.a6.length:=by simpa using hi
 obtain ⟨e,hi3⟩:=d0a h hi;have hD:D3 (i:Int):=by unfold D3;omega
 obtain ⟨hni,hid⟩:=a63 h hD;unfold b0r;rw [f5t hi,e];simp only [f5w];constructor
 ·unfold b58;cases hph:(u5 w (i:Int)).d7 != 3;case true=>rfl
  simp only [bne_eq_false_iff_eq] at hph;obtain ⟨V,P,M,hx,_⟩:=hp;obtain ⟨l1,l2,l3,l4⟩:=(hx.ld (i:Int) hD).l3 hph;have hm:(u5 w (i:Int)).a7[(u5 w (i:Int)).Id.toNat]?=some true:=by
   rcases hni.ld with q|q|q|q
   ·omega
   ·omega
   ·omega
   ·exact q.2.2.2.2.2.1
  rw [hid] at hm;have v1:=l4 (i:Int) hD hm;obtain ⟨v,y1,y2⟩:=hx.max _ _ _ _ v1;have hb:=(hx.vp _ _ _ _ v1).2.2.1;have v2:=hx.cur (i:Int) _ v hD y1 (by omega);unfold S5;rw [y1];simp only [f6G,cond_false,f5w,Bool.or_eq_true,decide_eq_true_eq];refine ⟨y2,?_⟩;rcases Int.lt_or_le (u5 w (i:Int)).a8 v.a8 with q|q
  ·exact .inl q
  ·right
   refine (a1c _ _).2 (hx.pu _ _ _ _ ?_ l1);have:=(hx.vp _ _ _ _ v2).2.1;rwa [show v.a8=(u5 w (i:Int)).a8 by omega] at this
 ·rw [List.all_eq_true];intro m hm;obtain ⟨j,hj,rfl⟩:=f6u.1 hm;have hji:j<i:=by omega
  obtain ⟨e2,hj3⟩:=d0a h (show j<w.a6.length by omega);have hDj:D3 (j:Int):=by unfold D3;omega
  obtain ⟨hnj,hidj⟩:=a63 h hDj;rw [e2,c4V];rintro ⟨b1,b2⟩
  have own:∀{n:j6},NI n->0<n.a8->Own n:=fun hn hb=>by
   refine hn.ld.own fun q => ?_
   rcases hn.ld with y|y|y|y
   ·omega
   all_goals exact absurd (y.1.symm.trans q) (by decide)
  have o1:=(own hni b1).mod;have o2:=(own hnj (by omega)).mod;rw [b2,o2,hid,hidj] at o1;omega
theorem e6C(h:WI w)(hp:PW w):b3a w=some true:=by
 rw [e2H h.ok,a2e.2 h,e39 (a2e.2 h),e0p h hp];rfl
end
theorem d6F(l:List n7)(i:n8)(regs:List Int)(rs:List q8)(ps:List p6):∀r∈rs,r∈(E4 l i regs rs ps).2.1:=by
 intro r hr;unfold E4;cases i.a9==1
 ·cases i.a9==2
  ·cases i.a9==3
   ·cases i.a9==4
    ·cases i.a9==5<;>exact hr
    ·exact hr
   ·exact hr
  ·exact hr
 ·simp only [cond_true];cases X1 ps i.B with
  | some k =>
   simp only;cases ps[k]?<;>exact hr
  | none =>
   simp only;cases l[i.B.toNat]? with
   | none=>exact hr
   | some b =>
    simp only;cases J4 rs i.B
    ·exact f6R _ hr
    ·exact hr
theorem c2f(l:List n7)(prog:List n8):∀(f k:Nat) (regs:List Int) (rs:List q8) (ps:List p6),∀r∈rs,r∈(V7 l prog f k regs rs ps).b5
 | 0,_,_,_,_,r,hr=>hr
 | f+1,k,regs,rs,ps,r,hr=>by
  unfold V7;cases prog[k]? with
  | none=>exact hr
  | some i =>
   simp only;cases i.a9==6
   ·cases i.a9==7
    ·cases (E4 l i regs rs ps).1.all I0
     ·exact d6F l i regs rs ps r hr
     ·exact c2f l prog f _ _ _ _ r (d6F l i regs rs ps r hr)
    ·exact hr
   ·exact c2f l prog f _ _ _ _ r hr
def AtB(l l':List n7)(rs:List q8):Prop := ∀r∈rs,l[r.i5.toNat]?=l'[r.i5.toNat]?
theorem f2f{rs:List q8}{b:Int}(h:J4 rs b=true):∃r∈rs,r.i5=b:=by
 unfold J4 at h;obtain ⟨r,h1,h2⟩:=f6P.1 h;exact ⟨r,h1,by simpa using h2⟩
theorem d9m{l l':List n7}(hl:l.length=l'.length)(i:n8)(regs:List Int)(rs:List q8)(ps:List p6)(h:AtB l l' (E4 l i regs rs ps).2.1):E4 l' i regs rs ps=E4 l i regs rs ps:=by
 unfold E4 at h ⊢;cases hk:i.a9==1
 ·rfl
 ·rw [hk] at h;simp only [cond_true] at h ⊢;cases hp:X1 ps i.B with
  | some k=>rfl
  | none =>
   rw [hp] at h;simp only at h ⊢;cases hb:l[i.B.toNat]? with
   | none =>
    have:l'.length<=i.B.toNat:=by rw [<-hl];exact List.getElem?_eq_none_iff.1 hb
    rw [f5Q this]
   | some b =>
    rw [hb] at h;simp only at h;have hin:∃r∈(bif J4 rs i.B then rs else rs++[⟨i.B,b.j4⟩]),r.i5=i.B:=by
     cases hs:J4 rs i.B
     ·exact ⟨⟨i.B,b.j4⟩,by simp,rfl⟩
     ·exact f2f hs
    obtain ⟨r,r1,r2⟩:=hin;have:=h r r1;rw [r2,hb] at this;rw [<-this]
theorem c1t{l l':List n7}(hl:l.length=l'.length)(prog:List n8):∀(f k:Nat) (regs:List Int) (rs:List q8) (ps:List p6),AtB l l' (V7 l prog f k regs rs ps).b5->V7 l' prog f k regs rs ps=V7 l prog f k regs rs ps
 | 0,_,_,_,_,_=>rfl
 | f+1,k,regs,rs,ps,h=>by
  unfold V7 at h ⊢;cases hp:prog[k]? with
  | none=>rfl
  | some i =>
   rw [hp] at h;simp only at h ⊢;cases h6:i.a9==6
   ·rw [h6] at h;cases h7:i.a9==7
    ·rw [h7] at h;simp only [cond_false] at h ⊢;have hE:E4 l' i regs rs ps=E4 l i regs rs ps:=d9m hl i regs rs ps fun r hr=>h r (by
      cases (E4 l i regs rs ps).1.all I0
      ·exact hr
      ·exact c2f l prog f _ _ _ _ r hr)
     rw [hE];cases ha:(E4 l i regs rs ps).1.all I0
     ·rfl
     ·rw [ha] at h;exact c1t hl prog f _ _ _ _ h
    ·rfl
   ·rw [h6] at h;simp only [cond_true] at h ⊢;exact c1t hl prog f _ _ _ _ h
theorem e1W{l l':List n7}(h1:C8 l=true)(h2:C8 l'=true){p:List n8}(h:AtB l l' (C1 l p).b5):C1 l' p=C1 l p:=by
 unfold C1 at h ⊢;rw [h1] at h;rw [h1,h2];cases hp:E1 p
 ·rfl
 ·rw [hp] at h;exact c1t ((a7m h1).trans (a7m h2).symm) p _ _ _ _ _ h
def b4u(l:List n7)(rs:List q8):Prop := ∀r∈rs,∃b,l[r.i5.toNat]?=some b/\b.j4=r.j4
theorem c8t{l:List n7}(i:n8)(regs:List Int)(rs:List q8)(ps:List p6)(h:b4u l rs):b4u l (E4 l i regs rs ps).2.1:=by
 unfold E4;cases i.a9==1
 ·cases i.a9==2
  ·cases i.a9==3
   ·cases i.a9==4
    ·cases i.a9==5<;>exact h
    ·exact h
   ·exact h
  ·exact h
 ·simp only [cond_true];cases X1 ps i.B with
  | some k =>
   simp only;cases ps[k]?<;>exact h
  | none =>
   simp only;cases hb:l[i.B.toNat]? with
   | none=>exact h
   | some b =>
    simp only;cases J4 rs i.B
    ·intro r hr;rcases List.mem_append.1 hr with q|q
     ·exact h r q
     ·rw [f5y.1 q];exact ⟨b,hb,rfl⟩
    ·exact h
theorem c1V(l:List n7)(prog:List n8):∀(f k:Nat) (regs:List Int) (rs:List q8) (ps:List p6),b4u l rs->b4u l (V7 l prog f k regs rs ps).b5
 | 0,_,_,_,_,h=>h
 | f+1,k,regs,rs,ps,h=>by
  unfold V7;cases prog[k]? with
  | none=>exact h
  | some i =>
   simp only;cases i.a9==6
   ·cases i.a9==7
    ·cases (E4 l i regs rs ps).1.all I0
     ·exact c8t i regs rs ps h
     ·exact c1V l prog f _ _ _ _ (c8t i regs rs ps h)
    ·exact h
   ·exact c1V l prog f _ _ _ _ h
theorem f2j(l:List n7)(p:List n8):b4u l (C1 l p).b5:=by
 unfold C1;cases C8 l&&E1 p
 ·intro r hr;cases hr
 ·exact c1V l p _ _ _ _ _ fun r hr=>by cases hr
theorem c2s{l:List m4}(hl:l.length<=40)(he:l.all z5=true){k:Nat}(hk:k<=l.length):C8 (q9 (l.take k)).1.g8=true:=(T3 hl he k hk).1.boxes
theorem e2w{l:List m4}(hl:l.length<=40)(he:l.all z5=true){j k:Nat}(hjk:j<=k)(hk:k<=l.length){b:Int}(hb:0<=b/\b<=3){x y:n7}(hx:(q9 (l.take j)).1.g8[b.toNat]?=some x)(hy:(q9 (l.take k)).1.g8[b.toNat]?=some y)(hv:x.j4=y.j4):x=y:=by
 by_cases hall:∀i,j<=i->i<k->a6A l (q9 l).2 b i=false
 ·have:=c6y hl he hb.1 k hjk hk hall;rw [hx,hy] at this;injection this with this;exact this.symm
 ·exfalso
  apply hall;intro i h1 h2;cases hp:a6A l (q9 l).2 b i
  ·rfl
  ·obtain ⟨_,hq⟩:=c9W hl he (show i<l.length by omega) hp;obtain ⟨z,z1,z2,z3⟩:=c5j hl he hb i (by omega);obtain ⟨v,hv1⟩:=hq z z1;have m1:=(d6l hl he h1 (show i<=l.length by omega)).2 b.toNat x z hx z1;have m2:=(d6l hl he (show i+1<=k by omega) hk).2 b.toNat _ y hv1 hy;simp only at m2;split at m2<;>omega
theorem d0W{s:u6}{e:m4}(h:(apply s e).2=0):e.i7=false/\a0W s.g8 e.b8=true/\e.b8.Code=0/\(apply s e).1.g8=a0F s.g8 e.b8.b6:=by
 have hf:(N7 s e).2=0->a0W s.g8 e.b8=true/\e.b8.Code=0/\(N7 s e).1.g8=a0F s.g8 e.b8.b6:=by
  unfold N7;cases a0W s.g8 e.b8
  ·intro h;exact absurd h (by simp)
  ·cases hc:e.b8.Code==0
   ·intro h;exact absurd h (by simp)
   ·intro _;exact ⟨rfl,by simpa using hc,rfl⟩
 unfold apply at h ⊢;cases hn:e.i7
 ·rw [hn] at h;simp only [cond_false] at h ⊢;refine ⟨trivial,?_⟩;cases hd:s.i9.find? (fun d=>d.a0.b9==e.a0.b9) with
  | none=>rw [hd] at h;exact hf h
  | some d =>
   rw [hd] at h;simp only at h ⊢;cases h1:d.a0.Seq==e.a0.Seq
   ·rw [h1] at h;cases h2:decide (d.a0.Seq>e.a0.Seq)
    ·rw [h2] at h;exact hf h
    ·rw [h2] at h;exact absurd h (by simp)
   ·rw [h1] at h;exact absurd h (by simp)
 ·rw [hn] at h;exact absurd h (by simp)
theorem d5u:∀(ps:List (List n8)) (p:List n8) (b:List n7) (vs:List Int) {b':List n7} {vs':List Int},a3i ps b vs=(b',vs')->C8 b'=true->a3i (ps++[p]) b vs=bif (N8 b' p).2.2==3 then ([],[]) else ((N8 b' p).1,vs'++[(N8 b' p).2.1])
 | [],p,b,vs,b',vs',h,hb=>by
  have h:(b,vs)=(b',vs'):=h;injection h with h1 h2;subst h1;subst h2;rfl
 | q::ps,p,b,vs,b',vs',h,hb=>by
  unfold a3i at h;rw [f7j];unfold a3i;cases hq:(N8 b q).2.2==3
  ·rw [hq] at h;exact d5u ps p _ _ h hb
  ·rw [hq] at h;have h:(([],[]):List n7×List Int)=(b',vs'):=h;injection h with h1 h2;rw [<-h1] at hb;exact absurd hb (by decide)
section
variable {w:m5}
theorem f1G(h:WI w)(hp:PW w)(ht:TL w){k:Nat}(hk:k<(x9 w).length)(hn:((x9 w)[k]).i7=false):∃a∈w.d8,a.a0=((x9 w)[k]).a0/\∃j,j<=k/\((x9 w)[k]).b8=C1 (q9 ((x9 w).take j)).1.g8 a.i6:=by
 obtain ⟨b,hb,h1,_⟩:=b5b h;have hm:(x9 w)[k]∈(u5 w b).a5:=h1▸f5v hk;rcases (ht.nd b hb).kn _ hm with q|⟨a,a1,a2,j,j1,j2,j3⟩
 ·rw [hn] at q;cases q
 ·have hw:D3 ((x9 w)[k]).a0.b9:=by rw [<-a2];exact (ht.aq a a1).1
  have htk:(u5 w ((x9 w)[k]).a0.b9).a5.take j=(x9 w).take j:=by
   obtain ⟨t,ht'⟩:=d4s h hp hw;conv=>rhs;rw [ht']
   rw [f6h j1]
  rw [htk] at j2 j3;refine ⟨a,a1,a2,j,?_,j3⟩;rcases Nat.lt_or_ge k j with q|q
  ·exfalso
   have:=j2 (x9 w)[k] (f6u.2 ⟨k,by omega,rfl⟩);unfold F5 at this;rw [hn] at this;simp at this
  ·exact q
theorem e3z(h:WI w)(hp:PW w)(ht:TL w){k:Nat}(hk:k<(x9 w).length)(h0:(apply (q9 ((x9 w).take k)).1 (x9 w)[k]).2=0):∃a∈w.d8,a.a0=((x9 w)[k]).a0/\C1 (q9 ((x9 w).take k)).1.g8 a.i6=((x9 w)[k]).b8:=by
 obtain ⟨z1,z2,z3,_⟩:=d0W h0;obtain ⟨hl,he⟩:=a0J (b2j h);obtain ⟨a,a1,a2,j,j1,j2⟩:=f1G h hp ht hk z1;refine ⟨a,a1,a2,?_⟩;rw [j2];refine e1W (c2s hl he (by omega)) (c2s hl he (by omega)) ?_;intro r hr;obtain ⟨x,x1,x2⟩:=f2j _ _ r hr;rw [<-j2] at hr;have hbx:=(a3d (a3Q (List.all_eq_true.1 he _ (f5v hk)) z1).2.2.1).2.2.2.1 r hr;obtain ⟨y,y1,y2,_⟩:=c5j hl he (b:=r.i5) (by omega) k (by omega);have hfr:=List.all_eq_true.1 z2 r hr;rw [y1] at hfr;have hfr:y.j4=r.j4:=by simpa using hfr
 rw [x1,y1,e2w hl he j1 (by omega) (b:=r.i5) (by omega) x1 y1 (by omega)]
theorem c8C(ht:TL w):∀(qs:List n9) (o:List (List n8)),(∀q∈qs,∃a∈w.d8,a.a0=q)->a4i w qs o=some (o++qs.map fun q=>(a0a w q).1)
 | [],o,_=>by simp [a4i]
 | q::qs,o,h=>by
  obtain ⟨a,a1,a2⟩:=h q (by simp);have hp:=d5v ht a1;rw [a2] at hp;unfold a4i;rw [hp];simp only [cond_true];rw [c8C ht qs _ fun x hx=>h x (by simp [hx])];simp [hp]
theorem d2W(h:WI w)(hp:PW w)(ht:TL w):∀n,n<=(x9 w).length->(∀q∈told (x9 w) (q9 (x9 w)).2 n,∃a∈w.d8,a.a0=q)/\
  a3i ((told (x9 w) (q9 (x9 w)).2 n).map fun q=>(a0a w q).1) a1v []=((q9 ((x9 w).take n)).1.g8,(told (x9 w) (q9 (x9 w)).2 n).map (T8 (x9 w)))
 | 0,_=>⟨by simp [told],rfl⟩
 | n+1,hn=>by
  obtain ⟨hl,he⟩:=a0J (b2j h);have hlt:n<(x9 w).length:=by omega
  obtain ⟨ih1,ih2⟩:=d2W h hp ht n (by omega);have hc:=b2b hl he hlt;have hcl:(q9 (x9 w)).2.length=(x9 w).length:=by
   have:=(T3 hl he (x9 w).length (f5K _)).2.1;rwa [f5M] at this
  have hn':n<(q9 (x9 w)).2.length:=by omega
  rw [f5t hn'] at hc;injection hc with hc;have hbx:=c2s hl he (k:=n) (by omega);have hst:(q9 ((x9 w).take (n+1))).1=(apply (q9 ((x9 w).take n)).1 (x9 w)[n]).1:=by rw [a12 hlt];rfl
  unfold told;rw [b7F hlt hn',hc,hst];rcases c2G (T3 hl he n (by omega)).1 (List.all_eq_true.1 he _ (f5v hlt)) with ⟨b1,b2,b3⟩|⟨b1,b2⟩
  ·obtain ⟨a,a1,a2,a3⟩:=e3z h hp ht hlt b1;obtain ⟨z1,z2,z3,_⟩:=d0W b1;have hpf:=d5v ht a1;rw [a2] at hpf;rw [b1,b3];simp only [beq_self_eq_true,cond_true];refine ⟨fun q hq => ?_,?_⟩
   ·rcases List.mem_append.1 hq with q'|q'
    ·exact ih1 q q'
    ·rw [f5y.1 q'];exact ⟨a,a1,a2⟩
   ·rw [f6E,f6E,List.map_singleton,List.map_singleton,d5u _ _ _ _ ih2 hbx,hpf];have hs:N8 (q9 ((x9 w).take n)).1.g8 a.i6=(a0F (q9 ((x9 w).take n)).1.g8 ((x9 w)[n]).b8.b6,((x9 w)[n]).b8.f0,0):=by
     unfold N8;rw [a3,z3];rfl
    simp only [hs];have hv:T8 (x9 w) ((x9 w)[n]).a0=((x9 w)[n]).b8.f0:=by
     unfold T8;have hf:(x9 w).findIdx? (F5 ((x9 w)[n]).a0)=some n:=by
      rw [f6n];refine ⟨hlt,?_,fun i hi => ?_⟩
      ·unfold F5;rw [b2];simp
      ·intro hq;unfold F5 at hq;simp only [f5w,f6a] at hq;have:=e7H hl he hi hlt hq.1 (a9k.1 hq.2).symm;rw [f5t hn',hc,b1] at this;exact this rfl
     rw [hf];simp only [f5t hlt]
    rw [hv];rfl
  ·rw [b2,show ((apply (q9 ((x9 w).take n)).1 (x9 w)[n]).2==0)=false by simpa using b1];simp only [cond_false,f6d];exact ⟨ih1,ih2⟩
theorem d7k(l:List n7):b0V l l=true:=by
 unfold b0V;simp only [beq_self_eq_true,f5H];rw [List.all_eq_true];intro k hk;have hk:k<l.length:=by simpa using hk
 rw [f5t hk];simp
theorem f1T(h:WI w)(hp:PW w)(ht:TL w):a7t w=true:=by
 obtain ⟨hl,he⟩:=a0J (b2j h);obtain ⟨g1,g2⟩:=d2W h hp ht (x9 w).length (f5K _);have hd:C0 (x9 w)=told (x9 w) (q9 (x9 w)).2 (x9 w).length:=by unfold C0;rw [b2j h];rfl
 rw [<-hd] at g1 g2;rw [f5M] at g2;unfold a7t;rw [a2e.2 h,c8C ht _ _ g1,f6o];simp only [f5H];have hlen:((C0 (x9 w)).map fun q=>(a0a w q).1).length<=100:=by
  have hcl:(q9 (x9 w)).2.length=(x9 w).length:=by
   have:=(T3 hl he (x9 w).length (f5K _)).2.1;rwa [f5M] at this
  have h1:=b5v (l:=x9 w) hcl (x9 w).length (f5K _);have h2:=c5E ((q9 (x9 w)).2.take (x9 w).length) 0;rw [f6l,hd];rw [f5L] at h2;omega
 have hs:N9 a1v ((C0 (x9 w)).map fun q=>(a0a w q).1)=((q9 (x9 w)).1.g8,(C0 (x9 w)).map (T8 (x9 w))):=by
  unfold N9;rw [c3M,decide_eq_true hlen];exact g2
 unfold c5y;rw [hs];simp only [f6l,beq_self_eq_true,f5H,d7k];unfold c27;rw [List.all_eq_true];intro i hi;have hi:i<(C0 (x9 w)).length:=by simpa using hi
 rw [f6t,f5t hi];simp
end
structure AW(w:m5):Prop where
 wi:WI w
 pw:PW w
 tl:TL w
theorem f5d:AW O1:=⟨WI.open,e43,e1z⟩
theorem e73{w:m5}(h:AW w){e:r9}(he:Q7 e):AW (D9 w e):=⟨d4N h.wi he,e6B h.wi h.pw he,e7Q h.wi h.tl he⟩
theorem e2o{w:m5}(h:AW w):b8L w=some true:=by
 obtain ⟨h,hp,ht⟩:=h;unfold b8L;simp only [e9G h hp,d8b h hp,e7F h hp,e6C h hp,d70 h.ok,f1T h hp ht,e1J h hp ht,f3s h ht,f5s,cond_true]
def a5a(n:j6):Prop:=n.d7=0/\n.a5=[]
def K78(m:l8):Prop:=m.a9=7\/m.a9=8
structure Y5(w:m5):Prop where
 nd:∀n∈w.a6,a5a n
 ml:∀m∈w.d6,K78 m
 tl:w.Told=[]
theorem Y5.node{w:m5}(h:Y5 w)(i:Int):a5a (G8 w i):=by
 unfold G8;rw [f5G];cases hn:w.a6[i.toNat]? with
 | none=>exact ⟨rfl,rfl⟩
 | some n=>exact h.nd n (f5F hn)
theorem Y5.put{w:m5}(h:Y5 w)(i:Int){n:j6}(hn:a5a n):Y5 (M6 w i n) :=
 ⟨fun x hx=>(List.mem_or_eq_of_mem_set hx).elim (h.nd x) fun q=>q▸hn,h.ml,h.tl⟩
theorem Y5.send{w:m5}(h:Y5 w){l:List l8}(hl:∀m∈l,K78 m):Y5 (a0x w l) :=
 ⟨h.nd,fun m hm=>(List.mem_append.1 hm).elim (h.ml m) fun q=>hl m (f6k q),h.tl⟩
theorem Y5.off{w:m5}(h:Y5 w)(i:Int):Y5 (a2p w i) :=
 ⟨h.nd,fun m hm=>h.ml m ((List.mem_append.1 hm).elim f6k f6p),h.tl⟩
theorem K78.all{id:Int}{m:l8}(h:K78 m):∀x∈H4 id m,K78 x:=fun x hx=>by
 unfold H4 at hx;obtain ⟨t,_,rfl⟩:=List.mem_map.1 hx;exact h
theorem f3Q{n:j6}{m:l8}(h:a5a n)(hk:K78 m):U1 n m=(n,[],[]):=by
 unfold U1;rcases hk with q|q<;>rw [q]
 ·show ((a0p n m).1,(a0p n m).2,[])=_
  unfold a0p;rw [h.1];rfl
 ·show (n,a2N n m,[])=_
  unfold a2N;rw [h.2];simp
theorem e3a{n:j6}(h:a5a n)(p:List n8):a5a (I8 n p).1/\∀m∈(I8 n p).2,K78 m:=by
 rw [a1Z];cases K3 n p
 ·exact ⟨h,by simp⟩
 ·simp only [cond_true];rw [h.1];exact ⟨⟨h.1,h.2⟩,K78.all (.inl rfl)⟩
theorem d6W{n:j6}(h:a5a n):a5a (Q8 n).1/\∀m∈(Q8 n).2,K78 m:=by
 unfold Q8;rw [h.1];show a5a (bif n.i8 then _ else _:j6×List l8).1/\∀m∈(bif n.i8 then _ else _:j6×List l8).2,K78 m
 cases n.i8
 ·exact ⟨h,K78.all (.inr rfl)⟩
 ·exact ⟨h,fun m hm=>(List.mem_append.1 hm).elim (K78.all (.inr rfl) m) (K78.all (.inl rfl) m)⟩
theorem f1B{w:m5}(h:Y5 w){e:r9}(hk:(e.a9==5)=false):Y5 (D9 w e):=by
 unfold D9;cases e.a9==2||(e.a9==3||e.a9==4)
 ·simp only [cond_false];cases p9 e.A 0 2
  ·exact h
  simp only [f5x,cond_false,hk];cases e.a9==1
  ·simp only [cond_false];cases e.a9==6
   ·simp only [cond_false];cases e.a9==7
    ·exact h
    ·exact h.put _ ⟨rfl,(h.node e.A).2⟩
   ·obtain ⟨a,b⟩:=d6W (h.node e.A);exact (h.put _ a).send b
  ·simp only [cond_true];unfold a28;cases decide (60<=w.d8.length)
   ·obtain ⟨a,b⟩:=e3a (h.node e.A) e.i6;simp only [cond_false];cases decide ((I8 (G8 w e.A) e.i6).1.Seq>(G8 w e.A).Seq)
    ·exact (h.put _ a).send b
    ·exact (Y5.put (w:={w with d8:=w.d8++[_]}) ⟨h.nd,h.ml,h.tl⟩ _ a).send b
   ·exact h
 ·simp only [cond_true];unfold a06;cases decide (0<=e.A)
  ·exact h
  simp only [cond_true];cases hm:w.d6[e.A.toNat]? with
  | none=>exact h
  | some m =>
   simp only;have hkm:=h.ml m (f5F hm);cases e.a9==4
   ·cases e.a9==3
    ·simp only [cond_false];rw [f3Q (h.node m.To) hkm];have:=((h.off e.A).put m.To (h.node m.To)).send (l:=[]) (by simp);exact ⟨this.nd,this.ml,by show (_:List m9)++[].take _=[];rw [List.take_nil,f6d];exact this.tl⟩
    ·exact h.off _
   ·exact h.send fun x hx=>by rw [f5y.1 hx];exact hkm
theorem f4c:Y5 O1:=⟨fun n hn=>by
 simp only [O1,f5B,f7k,or_false] at hn;rcases hn with rfl|rfl|rfl<;>exact ⟨rfl,rfl⟩,by simp [O1],rfl⟩
theorem e6f{w:m5}(hw:WI w)(h:Y5 w):x9 w=[]:=by
 obtain ⟨b,hb,h1,_⟩:=b5b hw;rw [h1,a13 hb];exact (h.node b).2
theorem e6d{code:List Int}(h:A4 1 a6t code):c03 code=some true:=by
 unfold c03;cases decide ((code.length:Int)>1048576);case true=>rfl
 obtain ⟨l,a1,a2,a3⟩:=e1e h.2;have hf:s9 l:=by unfold s9;omega
 have ho:a1T O1=some true:=by rw [a5z WI.open.ok,a2e.2 WI.open]
 simp only [cond_false,a1,f4W,d2A,f5s,ho,f5x,e8Y WI.open.ok];have go:∀(d k:Nat) (w:m5),AW w->Y5 w->l.length-k=d->∃x,AW x/\Y5 x/\p7 (fun s:Int×m5=>a4p l s.1 s.2) ((k:Int),w)=some (.brk x):=by
  intro d;induction d with
  | zero =>
   intro k w hw hn hd;refine ⟨w,hw,hn,C9 (body:=fun s:Int×m5=>a4p l s.1 s.2) (b:=w) ?_⟩;unfold a4p;rw [show decide ((k:Int)<(l.length:Int))=false by simp;omega];rfl
  | succ d ih =>
   intro k w hw hn hd;have hlt:k<l.length:=by omega
   have hek:=a2 _ (f5v hlt);cases hk:l[k].a9==5
   ·obtain ⟨x,x1,x2,x3⟩:=ih (k+1) (D9 w l[k]) (e73 hw hek) (f1B hn hk) (by omega);refine ⟨x,x1,x2,?_⟩;rw [E3 (body:=fun s:Int×m5=>a4p l s.1 s.2) (t:=(((k+1:Nat):Int),D9 w l[k])) ?_]
    ·exact x3
    ·unfold a4p;have hb:(l[k].a9 != 5)=true:=by rw [bne,hk];rfl
     simp only [w9 _ k hlt,t8 hlt,cond_true,f5s,hb,f4h hw.wi hek,l9.go,b8m,F3 hf hlt]
   ·obtain ⟨x,x1,x2,x3⟩:=ih (k+1) w hw hn (by omega);refine ⟨x,x1,x2,?_⟩;rw [E3 (body:=fun s:Int×m5=>a4p l s.1 s.2) (t:=(((k+1:Nat):Int),w)) ?_]
    ·exact x3
    ·unfold a4p;have hb:(l[k].a9 != 5)=false:=by rw [bne,hk];rfl
     simp only [w9 _ k hlt,t8 hlt,cond_true,cond_false,f5s,hb,l9.go,b8m,F3 hf hlt]
 obtain ⟨x,x1,x2,x3⟩:=go l.length 0 O1 f5d f4c rfl;rw [show p7 (fun s:Int×m5=>a4p l s.1 s.2) (0,O1)=_ from x3];have h0:0<x.a6.length:=by rw [x1.wi.nl];omega
 simp only [f5s,l9.go,c4w,c5f x1.wi.ok h0,e6f x1.wi x2,x2.tl,e2o x1];rfl
end
end Go.Proofs.YthbeecjnggpjnaaGreat
