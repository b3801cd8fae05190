/- Abstract values and states of the program, functions of the program and what their calls come to, and what follows from it: part 5 of the text that the law leans on; long names are written short. -/
import Derived.Test.YtallgikdooekeaaGreatP4
set_option linter.unusedVariables false
set_option linter.unusedSimpArgs false
set_option linter.unnecessarySimpa false
namespace Go.Proofs.YtallgikdooekeaaGreat
open Go
open Option renaming bind_some → d9s, map_some → e0b, getD_some → e0A, map_eq_some_iff → e0J
open List renaming getElem?_eq_getElem → d9t, replicate → d9u, getElem_mem → d9w, getElem?_eq_some_iff → d9x, mem_singleton → d9y, mem_cons → d9z, nodup_append → d9A, range → d9C, eq_nil_of_length_eq_zero → d9D, length_append → d9E, getD_eq_getElem?_getD → d9F, mem_of_getElem? → d9G, getElem?_append_right → d9H, getElem?_set_ne → d9J, getElem?_append_left → d9L, map_append → d9M, append_assoc → d9N, take_length → d9P, map_cons → d9R, flatten_cons → d9S, getElem?_eq_none → d9U, take_succ_eq_append_getElem → d9V, append_nil → d9X, getElem_of_mem → d9Y, drop_eq_nil_of_le → d9Z, findIdx?_eq_some_iff_getElem → d90, take_append_of_le_length → d91, length_take → d93, length_set → d94, any_eq_false → d95, drop_eq_getElem_cons → d97, pairwise_iff_getElem → d98, take_of_length_le → d99, take_append_drop → e0d, mem_flatten → e0e, mem_of_mem_take → e0f, mem_take_iff_getElem → e0g, mem_replicate → e0i, take_zero → e0j, nil_append → e0k, getElem?_cons_zero → e0l, mem_range → e0m, mem_of_mem_drop → e0n, length_cons → e0o, length_singleton → e0q, getElem?_cons_succ → e0r, getElem?_set_self → e0t, pairwise_cons → e0w, nodup_cons → e0x, map_singleton → e0D, findIdx?_eq_none_iff → e0E, mem_append_left → e0F, getElem?_set → e0G, any_eq_true → e0I, getElem?_drop → e0K, getElem?_take → e0L, find?_cons → e0M, sublist_append_right → e0O, getElem?_of_mem → e0P, pairwise_append → e0Q, Perm → e0S, drop_zero → e0T, drop_drop → e0U, cons_append → e0V, getElem_map → e0W, replicate_succ → e0X, drop_append_of_le_length → e0Y, size_toArray → e0Z, all_eq_false → e00, toArray → e02, map_map → e03, Sublist → e04, set_getElem_self → e05, length_replicate → e07, getElem?_append → e08, not_mem_nil → e09, length_drop → e1b, flatten_append → e1c, foldl_cons → e1d, map_set → e1f
open Bool renaming and_eq_true → d9v, not_true → d9B, true_and → d9Q, not_eq_true' → d9T, not_false → d9W, or_eq_false_iff → e0h, false_or → e0s, false_eq_true → e0v, eq_iff_iff → e0z, true_or → e06, not_eq_true → e1a
open Int renaming tmod → d9I, le_refl → d9O, toNat_natCast → d96, le_trans → e0c, tdiv → e0B, tmod_eq_emod_of_nonneg → e0N
open Nat renaming le_refl → d9K, mul_le_mul_right → d92, eq_of_beq_eq_true → e0a, succ_mul → e0p, zero_add → e0u, lt_of_lt_of_le → e0C, le_mul_of_pos_right → e0H, zero_le → e0R, add_zero → e01
open Option.some renaming inj → e0y
open Classical renaming byContradiction → e1e
noncomputable section
section
variable {w:j9}
theorem d6s(h:WI w)(hp:PW w)(ht:TL w){k:Nat}(hk:k<(r8 w).length)(hn:((r8 w)[k]).i6=false):∃a∈w.f0,a.a0=((r8 w)[k]).a0/\∃j,j<=k/\((r8 w)[k]).c7=B2 (m9 ((r8 w).take j)).1.d8 a.i5:=by
 obtain ⟨b,hb,h1,_⟩:=b1H h;have hm:(r8 w)[k]∈(o9 w b).a5:=h1▸d9w hk;rcases (ht.nd b hb).kn _ hm with q|⟨a,a1,a2,j,j1,j2,j3⟩
 ·rw [hn] at q;cases q
 ·have hw:D3 ((r8 w)[k]).a0.b6:=by rw [<-a2];exact (ht.aq a a1).1
  have htk:(o9 w ((r8 w)[k]).a0.b6).a5.take j=(r8 w).take j:=by
   obtain ⟨t,ht'⟩:=c2X h hp hw;conv=>rhs;rw [ht']
   rw [d91 j1]
  rw [htk] at j2 j3;refine ⟨a,a1,a2,j,?_,j3⟩;rcases Nat.lt_or_ge k j with q|q
  ·exfalso
   have:=j2 (r8 w)[k] (e0g.2 ⟨k,by omega,rfl⟩);unfold C9 at this;rw [hn] at this;simp at this
  ·exact q
theorem c7c(h:WI w)(hp:PW w)(ht:TL w){k:Nat}(hk:k<(r8 w).length)(h0:(apply (m9 ((r8 w).take k)).1 (r8 w)[k]).2=0):∃a∈w.f0,a.a0=((r8 w)[k]).a0/\B2 (m9 ((r8 w).take k)).1.d8 a.i5=((r8 w)[k]).c7:=by
 obtain ⟨z1,z2,z3,_⟩:=c2c h0;obtain ⟨hl,he⟩:=a0S (a8g h);obtain ⟨a,a1,a2,j,j1,j2⟩:=d6s h hp ht hk z1;refine ⟨a,a1,a2,?_⟩;rw [j2];refine d7d (b4K hl he (by omega)) (b4K hl he (by omega)) ?_;intro r hr;obtain ⟨x,x1,x2⟩:=d2W _ _ r hr;rw [<-j2] at hr;have hbx:=(a2w (a2s (List.all_eq_true.1 he _ (d9w hk)) z1).2.2.1).2.2.2.1 r hr;obtain ⟨y,y1,y2,_⟩:=b5J hl he (b:=r.g8) (by omega) k (by omega);have hfr:=List.all_eq_true.1 z2 r hr;rw [y1] at hfr;have hfr:y.i7=r.i7:=by simpa using hfr
 rw [x1,y1,c64 hl he j1 (by omega) (b:=r.g8) (by omega) x1 y1 (by omega)]
theorem b93(ht:TL w):∀(qs:List m8) (o:List (List m7)),(∀q∈qs,∃a∈w.f0,a.a0=q)->a1G w qs o=some (o++qs.map fun q=>(R7 w q).1)
 | [],o,_=>by simp [a1G]
 | q::qs,o,h=>by
  obtain ⟨a,a1,a2⟩:=h q (by simp);have hp:=c2H ht a1;rw [a2] at hp;unfold a1G;rw [hp];simp only [cond_true];rw [b93 ht qs _ fun x hx=>h x (by simp [hx])];simp [hp]
theorem c1o(h:WI w)(hp:PW w)(ht:TL w):∀n,n<=(r8 w).length->(∀q∈told (r8 w) (m9 (r8 w)).2 n,∃a∈w.f0,a.a0=q)/\
  a1u ((told (r8 w) (m9 (r8 w)).2 n).map fun q=>(R7 w q).1) R8 []=((m9 ((r8 w).take n)).1.d8,(told (r8 w) (m9 (r8 w)).2 n).map (P4 (r8 w)))
 | 0,_=>⟨by simp [told],rfl⟩
 | n+1,hn=>by
  obtain ⟨hl,he⟩:=a0S (a8g h);have hlt:n<(r8 w).length:=by omega
  obtain ⟨ih1,ih2⟩:=c1o h hp ht n (by omega);have hc:=a7z hl he hlt;have hcl:(m9 (r8 w)).2.length=(r8 w).length:=by
   have:=(O9 hl he (r8 w).length (d9K _)).2.1;rwa [d9P] at this
  have hn':n<(m9 (r8 w)).2.length:=by omega
  rw [d9t hn'] at hc;injection hc with hc;have hbx:=b4K hl he (k:=n) (by omega);have hst:(m9 ((r8 w).take (n+1))).1=(apply (m9 ((r8 w).take n)).1 (r8 w)[n]).1:=by rw [a04 hlt];rfl
  unfold told;rw [a9M hlt hn',hc,hst];rcases b6l (O9 hl he n (by omega)).1 (List.all_eq_true.1 he _ (d9w hlt)) with ⟨b1,b2,b3⟩|⟨b1,b2⟩
  ·obtain ⟨a,a1,a2,a3⟩:=c7c h hp ht hlt b1;obtain ⟨z1,z2,z3,_⟩:=c2c b1;have hpf:=c2H ht a1;rw [a2] at hpf;rw [b1,b3];simp only [beq_self_eq_true,cond_true];refine ⟨fun q hq => ?_,?_⟩
   ·rcases List.mem_append.1 hq with q'|q'
    ·exact ih1 q q'
    ·rw [d9y.1 q'];exact ⟨a,a1,a2⟩
   ·rw [d9M,d9M,e0D,e0D,b9o _ _ _ _ ih2 hbx,hpf];have hs:I2 (m9 ((r8 w).take n)).1.d8 a.i5=(Y9 (m9 ((r8 w).take n)).1.d8 ((r8 w)[n]).c7.c6,((r8 w)[n]).c7.c8,0):=by
     unfold I2;rw [a3,z3];rfl
    simp only [hs];have hv:P4 (r8 w) ((r8 w)[n]).a0=((r8 w)[n]).c7.c8:=by
     unfold P4;have hf:(r8 w).findIdx? (C9 ((r8 w)[n]).a0)=some n:=by
      rw [d90];refine ⟨hlt,?_,fun i hi => ?_⟩
      ·unfold C9;rw [b2];simp
      ·intro hq;unfold C9 at hq;simp only [d9v,d9T] at hq;have:=d5S hl he hi hlt hq.1 (a5r.1 hq.2).symm;rw [d9t hn',hc,b1] at this;exact this rfl
     rw [hf];simp only [d9t hlt]
    rw [hv];rfl
  ·rw [b2,show ((apply (m9 ((r8 w).take n)).1 (r8 w)[n]).2==0)=false by simpa using b1];simp only [cond_false,d9X];exact ⟨ih1,ih2⟩
theorem d4d(l:List m5):a6s l l=true:=by
 unfold a6s;simp only [beq_self_eq_true,d9Q];rw [List.all_eq_true];intro k hk;have hk:k<l.length:=by simpa using hk
 rw [d9t hk];simp
theorem d0j(h:WI w)(hp:PW w)(ht:TL w):a5n w=true:=by
 obtain ⟨hl,he⟩:=a0S (a8g h);obtain ⟨g1,g2⟩:=c1o h hp ht (r8 w).length (d9K _);have hd:z9 (r8 w)=told (r8 w) (m9 (r8 w)).2 (r8 w).length:=by unfold z9;rw [a8g h];rfl
 rw [<-hd] at g1 g2;rw [d9P] at g2;unfold a5n;rw [a1T.2 h,b93 ht _ _ g1,e0k];simp only [d9Q];have hlen:((z9 (r8 w)).map fun q=>(R7 w q).1).length<=100:=by
  have hcl:(m9 (r8 w)).2.length=(r8 w).length:=by
   have:=(O9 hl he (r8 w).length (d9K _)).2.1;rwa [d9P] at this
  have h1:=b27 (l:=r8 w) hcl (r8 w).length (d9K _);have h2:=b7P ((m9 (r8 w)).2.take (r8 w).length) 0;rw [List.length_map,hd];rw [d93] at h2;omega
 have hs:I6 R8 ((z9 (r8 w)).map fun q=>(R7 w q).1)=((m9 (r8 w)).1.d8,(z9 (r8 w)).map (P4 (r8 w))):=by
  unfold I6;rw [b47,decide_eq_true hlen];exact g2
 unfold b7Q;rw [hs];simp only [List.length_map,beq_self_eq_true,d9Q,d4d];unfold b6H;rw [List.all_eq_true];intro i hi;have hi:i<(z9 (r8 w)).length:=by simpa using hi
 rw [List.getElem?_map,d9t hi];simp
end
structure AW(w:j9):Prop where
 wi:WI w
 pw:PW w
 tl:TL w
theorem b2d:AW I3:=⟨WI.open,d11,c9o⟩
theorem a0q{w:j9}(h:AW w){e:G5}(he:a1V e):AW (B4 w e):=⟨a6h h.wi he,d6N h.wi h.pw he,c7L h.wi h.tl he⟩
theorem d5p{w:j9}(h:AW w):b2D w=some true:=by
 obtain ⟨h,hp,ht⟩:=h;unfold b2D;simp only [c9k h hp,d8n h hp,d7S h hp,c6t h hp,c9L h.ok,d0j h hp ht,d8c h hp ht,d7b h ht,d9s,cond_true]
def aE(e:j8):j8:=⟨e.i6,e.a0,⟨[],[],0,0⟩⟩
def aV(v:n8):n8:=⟨v.a6,aE v.d7⟩
def aA(a:z4):z4:=⟨a.g9,a.a9.map aV⟩
def aN(n:j5):j5:=⟨n.Id,aA n.Acc,n.a5.map aE,n.Seq,n.b5,n.a6,n.b8,n.g7.map aV,aE n.d6,n.a9,n.i3,[],aE n.b7,n.d9.map aE⟩
def aM(m:l8):l8:=⟨m.a7,m.b8,m.To,m.a6,m.c9,aE m.d7,m.a9.map aV⟩
def aT(t:s9):s9:=⟨t.Node,t.a0,0,0⟩
def aQ(a:D5):D5:=⟨a.a0,[]⟩
def aW(w:j9):j9:=⟨w.a8.map aN,w.i0.map aM,w.f0.map aQ,w.Told.map aT⟩
def J6(e:j8):Prop:=t9 e=true
theorem d4b:J6 eN:=rfl
theorem d4y{e:j8}(h:J6 e):t9 (aE e)=true:=by
 obtain ⟨x,q,r⟩:=e;unfold J6 t9 at h;unfold t9 aE;cases x
 ·simp only [cond_false,d9v] at h ⊢;exact ⟨h.1,rfl,rfl⟩
 ·simp only [cond_true,d9v] at h ⊢;exact ⟨h.1,rfl⟩
theorem b4N(l:List j8)(q:m8):F9 (l.map aE) q=F9 l q:=by
 unfold F9;rw [List.any_map];rfl
theorem c2V(k:List j8):∀q,P5 (k.map aE) (q.map aE)=((P5 k q).1.map aE,(P5 k q).2.map aE)
 | []=>rfl
 | e::q=>by
  simp only [d9R,P5];rw [show (aE e).a0=e.a0 from rfl,b4N];cases F9 k e.a0
  ·rfl
  ·exact c2V k q
theorem c4Q(n:j5):a1p (aN n)=(aN (a1p n).1,(a1p n).2.map aE):=by
 unfold a1p;have h1:((aN n).g7.drop (aN n).a5.length).any (fun v=>decide (v.a6>0))=(n.g7.drop n.a5.length).any (fun v=>decide (v.a6>0)):=by
  show ((n.g7.map aV).drop (n.a5.map aE).length).any _=_
  rw [List.length_map,<-List.map_drop,List.any_map];rfl
 rw [h1];cases (n.g7.drop n.a5.length).any (fun v=>decide (v.a6>0))
 ·simp only [cond_false];rw [show (aN n).i3=n.i3 from rfl,show F9 (aN n).a5 (aN n).b7.a0=F9 n.a5 n.b7.a0 from b4N _ _];cases n.i3 && !F9 n.a5 n.b7.a0
  ·simp only [cond_false];have:=c2V n.a5 n.d9;rw [show P5 (aN n).a5 (aN n).d9=_ from this];rfl
  ·rfl
 ·rfl
theorem c6Z(n:j5):T3 (aN n)=(aN (T3 n).1,(T3 n).2.map aE):=by
 unfold T3;have h1:(aN n).g7[(aN n).a5.length]?=(n.g7[n.a5.length]?).map aV:=by
  show (n.g7.map aV)[(n.a5.map aE).length]?=_
  rw [List.length_map,List.getElem?_map]
 rw [h1];cases n.g7[n.a5.length]? with
 | none=>exact c4Q n
 | some v =>
  simp only [e0b];rw [show (aV v).a6=v.a6 from rfl];cases decide (v.a6>0)
  ·exact c4Q n
  ·rfl
theorem d4E(vs:List n8)(k:Nat):O4 (vs.map aV) k=(O4 vs k).map aV:=by
 unfold O4;rw [d9M,List.map_replicate,List.length_map];rfl
theorem b5B(a:z4)(b:Int):D7 (aA a) b=(D7 a b).map aA:=by
 unfold D7;rw [show (aA a).g9=a.g9 from rfl];cases a9r b&&decide (a.g9<=b)<;>rfl
theorem c2P{a:z4}{b s:Int}{e:j8}(he:J6 e):E5 (aA a) b s (aE e)=(E5 a b s e).map aA:=by
 unfold E5;rw [d4y he,show t9 e=true from he,b5B];cases n7 s 0 39
 ·rfl
 ·simp only [Bool.and_self,cond_true];cases D7 a b with
  | none=>rfl
  | some x =>
   simp only [e0b,aA,d4E,e1f];rfl
theorem b9U:∀a b:List n8,C0 (a.map aV) (b.map aV)=(C0 a b).map aV
 | [],b=>by cases b<;>rfl
 | x::a,[]=>rfl
 | x::a,y::b=>by
  simp only [d9R,C0,b9U a b,show (aV x).a6=x.a6 from rfl,show (aV y).a6=y.a6 from rfl];cases decide (y.a6>x.a6)<;>rfl
theorem a3Y(id:Int)(m:l8):D2 id (aM m)=(D2 id m).map aM:=by
 unfold D2;rw [e03];rfl
theorem d1E(x:j5){e:j8}(he:J6 e):a1i (aN x) (aE e)=(aN (a1i x e).1,(a1i x e).2.map aM):=by
 unfold a1i;have h1:E5 (aN x).Acc (aN x).a6 ((aN x).a5.length:Int) (aE e)=(E5 x.Acc x.a6 (x.a5.length:Int) e).map aA:=by
  show E5 (aA x.Acc) x.a6 ((x.a5.map aE).length:Int) (aE e)=_
  rw [List.length_map,c2P he]
 rw [h1];cases E5 x.Acc x.a6 (x.a5.length:Int) e with
 | none=>rfl
 | some a =>
  have:=a3Y x.Id ⟨3,0,0,x.a6,(x.a5.length:Int),e,[]⟩;simp only [e0b];rw [<-this];show (_,D2 x.Id ⟨3,0,0,x.a6,((x.a5.map aE).length:Int),aE e,[]⟩)=_
  rw [List.length_map];rfl
theorem a7q{n:j5}(h:ND J6 n):F4 (aN n)=(aN (F4 n).1,(F4 n).2.map aM):=by
 unfold F4;have h1:((aN n).b5 != 2||decide (40<=(aN n).a5.length))=(n.b5 != 2||decide (40<=n.a5.length)):=by
  show (n.b5 != 2||decide (40<=(n.a5.map aE).length))=_
  rw [List.length_map]
 rw [h1,c6Z];cases n.b5 != 2||decide (40<=n.a5.length)
 ·simp only [cond_false];obtain ⟨q,hq,hql,hqm,hqe⟩:=a7b n;cases hx:T3 n with
  | mk x o =>
  rw [hx] at hqe;cases o with
  | none=>rfl
  | some e=>exact d1E x (h.next d4b (hqe e rfl))
 ·rfl
theorem d5P(n:j5):(M5 (aN n)).1=aN (M5 n).1/\(M5 (aN n)).2.map aT=(M5 n).2.map aT:=by
 unfold M5;rw [show (aN n).i3=n.i3 from rfl];cases n.i3
 ·exact ⟨rfl,rfl⟩
 ·have h1:(aN n).a5.findIdx? (C9 (aN n).b7.a0)=n.a5.findIdx? (C9 n.b7.a0):=by
   show (n.a5.map aE).findIdx? (C9 n.b7.a0)=_
   rw [List.findIdx?_map];rfl
  simp only [cond_true];rw [h1];cases n.a5.findIdx? (C9 n.b7.a0) with
  | none=>exact ⟨rfl,rfl⟩
  | some k=>exact ⟨rfl,rfl⟩
theorem d5r(n:j5)(e:j8):B6 (aN n) (aE e)=aN (B6 n e):=by
 unfold B6;rw [show (aN n).b5=n.b5 from rfl];cases n.b5==3
 ·simp only [cond_false,aN,d9M,e0D]
 ·simp only [cond_true,aN,d9M,e0D];rfl
def a3(x:j5×List l8×List s9):j5×List l8×List s9:=(aN x.1,x.2.1.map aM,x.2.2.map aT)
def t3(x:j5×List l8×List s9):j5×List l8×List s9:=(x.1,x.2.1,x.2.2.map aT)
theorem b8a{n:j5}(h:ND J6 n){e:j8}(he:J6 e):t3 (R0 (aN n) (aE e))=a3 (R0 n e):=by
 unfold R0 t3 a3;rw [d5r];obtain ⟨a1,a2⟩:=d5P (B6 n e);simp only;rw [a1,a2,a7q (Act.know h he).nd]
theorem b7n(n:j5)(b:Int):I8 (aN n) b=aN (I8 n b):=by
 unfold I8;rw [show (aN n).b5=n.b5 from rfl,show (aN n).a6=n.a6 from rfl];cases n.b5 != 0&&decide (b>n.a6)<;>rfl
theorem d88(n:j5)(m:l8):V4 (aN n) (aM m)=(aN (V4 n m).1,(V4 n m).2.map aM):=by
 unfold V4;rw [show D7 (aN n).Acc (aM m).a6=(D7 n.Acc m.a6).map aA from b5B _ _];cases D7 n.Acc m.a6 with
 | none=>rfl
 | some a =>
  simp only [e0b];rw [show ({aN n with Acc:=aA a}:j5)=aN {n with Acc:=a} from rfl,show (aM m).a6=m.a6 from rfl,b7n];show (_,[H6 (aM m) ⟨2,0,0,m.a6,m.c9,zE,(a.a9.map aV).drop m.c9.toNat⟩])=_
  rw [<-List.map_drop];rfl
theorem d7L(n:j5){m:l8}(he:J6 m.d7):X4 (aN n) (aM m)=(aN (X4 n m).1,(X4 n m).2.map aM):=by
 unfold X4;rw [show E5 (aN n).Acc (aM m).a6 (aM m).c9 (aM m).d7=(E5 n.Acc m.a6 m.c9 m.d7).map aA from c2P he];cases E5 n.Acc m.a6 m.c9 m.d7 with
 | none=>rfl
 | some a =>
  simp only [e0b];rw [show ({aN n with Acc:=aA a}:j5)=aN {n with Acc:=a} from rfl,show (aM m).a6=m.a6 from rfl,b7n];rfl
theorem d6V{n:j5}(h:ND J6 n){m:l8}(hm:ML J6 m):∀v∈C0 n.g7 (d9u m.c9.toNat v0++m.a9),v.a6>0->J6 v.d7:=fun v hv hb=>by
 rcases a69 hv with q|q
 ·exact h.bv v q hb
 ·rcases List.mem_append.1 q with q|q
  ·rw [(e0i.1 q).2] at hb;exact absurd hb (by decide)
  ·exact hm.vs v q hb
theorem c8i{n:j5}(h:ND J6 n){m:l8}(hm:ML J6 m):V0 (aN n) (aM m)=(aN (V0 n m).1,(V0 n m).2.map aM):=by
 unfold V0;have hb:C0 (aN n).g7 (d9u (aM m).c9.toNat v0++(aM m).a9)=(C0 n.g7 (d9u m.c9.toNat v0++m.a9)).map aV:=by
  rw [<-b9U,d9M,List.map_replicate];rfl
 rw [hb,show ((aN n).b5 != 1||(aM m).a6 != (aN n).a6)=(n.b5 != 1||m.a6 != n.a6) from rfl,show G7 ((aN n).b8.set (aM m).b8.toNat true)=G7 (n.b8.set m.b8.toNat true) from rfl];cases n.b5 != 1||m.a6 != n.a6
 ·simp only [cond_false];cases G7 (n.b8.set m.b8.toNat true)
  ·rfl
  ·exact a7q (n:={n with b8:=[],g7:=C0 n.g7 (d9u m.c9.toNat v0++m.a9),b5:=2}) ⟨h.kn,h.av,d6V h hm,fun q=>absurd (show (2:Int)=3 from q) (by decide),h.wt,h.qu⟩
 ·rfl
theorem d4i{n:j5}(h:ND J6 n)(m:l8):t3 (a0r (aN n) (aM m))=a3 (a0r n m):=by
 unfold a0r;have h1:((aN n).b5 != 3||((aM m).a6 != (aN n).a6||(aM m).c9 != ((aN n).a5.length:Int)))=(n.b5 != 3||(m.a6 != n.a6||m.c9 != (n.a5.length:Int))):=by
  show (n.b5 != 3||(m.a6 != n.a6||m.c9 != ((n.a5.map aE).length:Int)))=_
  rw [List.length_map]
 rw [h1,show G7 ((aN n).a9.set (aM m).b8.toNat true)=G7 (n.a9.set m.b8.toNat true) from rfl];cases hc:n.b5 != 3||(m.a6 != n.a6||m.c9 != (n.a5.length:Int))
 ·simp only [cond_false];simp only [e0h,bne_eq_false_iff_eq] at hc;have hcu:=h.cu hc.1;cases G7 (n.a9.set m.b8.toNat true)
  ·rfl
  ·simp only [cond_true];have hl:=b8a (n:={n with a9:=n.a9.set m.b8.toNat true}) ⟨h.kn,h.av,h.bv,h.cu,h.wt,h.qu⟩ hcu;have e:({aN n with a9:=(aN n).a9.set (aM m).b8.toNat true}:j5)=aN {n with a9:=n.a9.set m.b8.toNat true}:=rfl;rw [e,show (aN n).d6=aE n.d6 from rfl];unfold t3 a3 at hl ⊢;injection hl with l1 l2;injection l2 with l2 l3;simp only;rw [l1,l2,l3,d9M,<-a3Y];show (_,D2 n.Id ⟨5,0,0,0,((n.a5.map aE).length:Int),aE n.d6,[]⟩++_,_)=_
   rw [List.length_map];rfl
 ·rfl
theorem d6A{n:j5}(h:ND J6 n){m:l8}(he:J6 m.d7):t3 (a0n (aN n) (aM m))=a3 (a0n n m):=by
 unfold a0n;rw [show (aM m).c9=m.c9 from rfl,show ((aN n).a5.length:Int)=(n.a5.length:Int) by show ((n.a5.map aE).length:Int)=_;rw [List.length_map]];cases decide (m.c9<(n.a5.length:Int))
 ·cases decide (m.c9>(n.a5.length:Int))
  ·exact b8a h he
  ·rfl
 ·rfl
theorem c9U{n:j5}(h:ND J6 n){m:l8}(he:J6 m.d7):X0 (aN n) (aM m)=(aN (X0 n m).1,(X0 n m).2.map aM):=by
 unfold X0;have h1:((aN n).b5==0||(decide (4<=(aN n).d9.length)||F9 (aN n).a5 (aM m).d7.a0))=(n.b5==0||(decide (4<=n.d9.length)||F9 n.a5 m.d7.a0)):=by
  show (n.b5==0||(decide (4<=(n.d9.map aE).length)||F9 (n.a5.map aE) m.d7.a0))=_
  rw [List.length_map,b4N]
 rw [h1];cases n.b5==0||(decide (4<=n.d9.length)||F9 n.a5 m.d7.a0)
 ·simp only [cond_false];have:=a7q (n:={n with d9:=n.d9++[m.d7]}) ⟨h.kn,h.av,h.bv,h.cu,h.wt,fun e q=>(List.mem_append.1 q).elim (h.qu e) fun q=>by rw [d9y.1 q];exact he⟩;rw [<-this];show F4 {aN n with d9:=n.d9.map aE++[aE m.d7]}=_
  congr 1
  simp only [aN,d9M,e0D]
 ·rfl
theorem c7u(n:j5)(m:l8):a1C (aN n) (aM m)=(a1C n m).map aM:=by
 unfold a1C;rw [show (aN n).a5.length=n.a5.length from List.length_map ..,show (aM m).c9=m.c9 from rfl,List.map_flatten,e03];congr 2
 funext j
 show X3 (aN n) (aM m) _=(X3 n m _).map aM
 unfold X3;rw [show (aN n).a5[m.c9.toNat+j]?=(n.a5[m.c9.toNat+j]?).map aE from List.getElem?_map ..];cases n.a5[m.c9.toNat+j]?<;>rfl
theorem d8e{n:j5}(h:ND J6 n){m:l8}(hm:ML J6 m):t3 (M3 (aN n) (aM m))=a3 (M3 n m):=by
 unfold M3;rw [show (aM m).a7=m.a7 from rfl];cases k1:m.a7==1;case true=>simp only [cond_true];rw [d88];rfl
 cases k2:m.a7==2;case true=>simp only [cond_true,cond_false];rw [c8i h hm];rfl
 cases k3:m.a7==3;case true=>simp only [cond_true,cond_false];rw [d7L n (hm.en (.inl (by simpa using k3)))];rfl
 cases k4:m.a7==4;case true=>exact d4i h m
 cases k5:m.a7==5;case true=>exact d6A h (hm.en (.inr (.inl (by simpa using k5))))
 cases k6:m.a7==6;case true =>
  simp only [cond_true,cond_false];unfold t3 a3;simp only;rw [show D7 (aN n).Acc (aM m).a6=(D7 n.Acc m.a6).map aA from b5B _ _,<-b7n];cases D7 n.Acc m.a6<;>first|done|rfl
 cases k7:m.a7==7;case true=>simp only [cond_true,cond_false];rw [c9U h (hm.en (.inr (.inr (by simpa using k7))))];rfl
 cases m.a7==8
 ·rfl
 ·simp only [cond_true,cond_false];unfold t3 a3;simp only;rw [c7u];try rfl
def a6t(n:j5):j5×List l8 :=
 bif n.i3||n.Seq==1000 then (n,[]) else
 bif n.b5==2 then F4 {n with Seq:=n.Seq+1,i3:=true,i5:=[],b7:=⟨false,⟨n.Id,n.Seq+1⟩,⟨[],[],0,0⟩⟩}
 else ({n with Seq:=n.Seq+1,i3:=true,i5:=[],b7:=⟨false,⟨n.Id,n.Seq+1⟩,⟨[],[],0,0⟩⟩},
  bif n.b5==0 then D2 n.Id ⟨7,0,0,0,0,⟨false,⟨n.Id,n.Seq+1⟩,⟨[],[],0,0⟩⟩,[]⟩ else [])
theorem d6G{n:j5}(h:ND J6 n){p:List m7}(hc:((B2 (a1N n) p).Code==3)=false)(hw:L0 n p=true->J6 (J5 n p).b7):a6t (aN n)=(aN (G3 n p).1,(G3 n p).2.map aM):=by
 rw [a0R];unfold a6t;have hca:L0 n p = !(n.i3||n.Seq==1000):=by
  unfold L0;rw [hc,Bool.or_false]
 rw [show (aN n).i3=n.i3 from rfl,show (aN n).Seq=n.Seq from rfl,show (aN n).b5=n.b5 from rfl];rw [hca] at hw ⊢;revert hw;cases n.i3||n.Seq==1000<;>intro hw
 ·simp only [cond_false,d9W,cond_true];cases n.b5==2
  ·simp only [cond_false];cases n.b5==0
   ·rfl
   ·simp only [cond_true];rw [<-a3Y];rfl
  ·exact a7q (n:=J5 n p) ⟨h.kn,h.av,h.bv,h.cu,fun _=>hw rfl,h.qu⟩
 ·rfl
theorem d8P(n:j5):N0 (aN n)=(aN (N0 n).1,(N0 n).2.map aM):=by
 unfold N0;rw [show I0 (aN n).Acc.g9 (aN n).Id=I0 n.Acc.g9 n.Id from rfl];cases decide (I0 n.Acc.g9 n.Id<0)
 ·simp only [cond_false];rw [<-a3Y,show ((aN n).a5.length:Int)=(n.a5.length:Int) by show ((n.a5.map aE).length:Int)=_;rw [List.length_map]];rfl
 ·rfl
theorem c6w{n:j5}(h:ND J6 n):L8 (aN n)=(aN (L8 n).1,(L8 n).2.map aM):=by
 unfold L8;rw [show ((aN n).a5.length:Int)=(n.a5.length:Int) by show ((n.a5.map aE).length:Int)=_;rw [List.length_map]];rw [show (aN n).b5=n.b5 from rfl,show (aN n).i3=n.i3 from rfl,a7q h];have e8:=a3Y n.Id ⟨8,0,0,0,(n.a5.length:Int),zE,[]⟩;cases n.b5==1
 ·cases n.b5==2
  ·cases n.b5==3
   ·cases n.i3
    ·simp only [cond_false];rw [<-e8];rfl
    ·simp only [cond_false,cond_true];rw [d9M,<-e8,<-a3Y];rfl
   ·simp only [cond_false,cond_true];rw [d9M,<-e8,<-a3Y];rfl
  ·simp only [cond_false,cond_true];rw [d9M,<-e8];rfl
 ·simp only [cond_true];rw [d9M,<-e8,<-a3Y];rfl
theorem NI.nd{n:j5}(h:NI n):ND J6 n:=by
 refine ⟨h.ks,fun v hv hb=>(h.vs v hv).1.pos hb,fun v hv hb=>(h.ld.best.2 v hv).pos hb,fun hp => ?_,fun hb => ?_,fun e he=>(h.qs e he).1⟩
 ·rcases h.ld with q|q|q|q
  ·omega
  ·omega
  ·omega
  ·exact q.2.2.2.1
 ·rcases h.wt with q|q
  ·exact q.2.2.1
  ·rw [hb] at q;cases q.1
theorem MI.mlE{m:l8}(h:MI m):ML J6 m:=by
 refine ⟨fun hk => ?_,fun v hv hb => ?_⟩
 ·rcases h.kd with q|q|q|q|q|q|q
  ·omega
  ·omega
  ·exact q.2.2.2.1
  ·exact q.2.2.2.1
  ·omega
  ·exact q.2.2.2.1
  ·omega
 ·rcases h.kd with q|q|q|q|q|q|q
  ·rw [q.2.2.2] at hv;cases hv
  ·exact (q.2.2.2.1.2 v hv).pos hb
  ·rw [q.2.2.2.2] at hv;cases hv
  ·rw [q.2.2.2.2] at hv;cases hv
  ·rw [q.2.2.2.2] at hv;cases hv
  ·rw [q.2.2.2.2.2] at hv;cases hv
  ·rw [q.2.2.2] at hv;cases hv
theorem b7d(w:j9)(i:Int):A2 (aW w) i=aN (A2 w i):=by
 unfold A2;show (w.a8.map aN).getD i.toNat (B5 0)=_
 rw [d9F,d9F,List.getElem?_map];cases w.a8[i.toNat]?<;>rfl
theorem a8x(w:j9)(l:List l8):aW (N8 w l)=N8 (aW w) (l.map aM):=by
 unfold N8 aW;simp only [d9M,List.map_take,List.length_map]
theorem d1r(w:j9)(l:List s9):aW (a2c w l)=a2c (aW w) (l.map aT):=by
 unfold a2c aW;simp only [d9M,List.map_take,List.length_map]
theorem a9e(w:j9)(i:Int)(n:j5):aW (F3 w i n)=F3 (aW w) i (aN n):=by
 unfold F3 aW;simp only [e1f]
theorem c2d(w:j9)(i:Int):aW (a0g w i)=a0g (aW w) i:=by
 unfold a0g aW;simp only [d9M,List.map_take,List.map_drop]
def b3D(w:j9)(i:Int):j9 :=
 bif decide (60<=w.f0.length) then w else
 N8 (F3 (bif decide ((a6t (A2 w i)).1.Seq>(A2 w i).Seq) then {w with f0:=w.f0++[⟨(a6t (A2 w i)).1.b7.a0,[]⟩]} else w) i (a6t (A2 w i)).1) (a6t (A2 w i)).2
def b8U(w:j9)(i:Int)(m:l8):j9 :=
 a2c (N8 (F3 w m.To (t3 (M3 (A2 w m.To) m)).1) (t3 (M3 (A2 w m.To) m)).2.1) (t3 (M3 (A2 w m.To) m)).2.2
def b5v(w:j9)(k a:Int):j9:=bif decide (0<=a) then (match w.i0[a.toNat]? with
 | some m=>bif k==4 then N8 w [m] else bif k==3 then a0g w a else b8U (a0g w a) a m
 | none=>w) else w
def doA(w:j9)(k a:Int):j9 :=
 bif k==2||(k==3||k==4) then b5v w k a else
 bif !n7 a 0 2 then w else
 bif k==1 then b3D w a else
 bif k==5 then N8 (F3 w a (N0 (A2 w a)).1) (N0 (A2 w a)).2 else
 bif k==6 then N8 (F3 w a (L8 (A2 w a)).1) (L8 (A2 w a)).2 else
 bif k==7 then F3 w a (Y2 (A2 w a)) else w
theorem b5j{w:j9}(h:WI w){i:Int}(hi:0<=i/\i<=2):NI (A2 w i):=by
 obtain ⟨k,rfl⟩:∃k:Nat,i=(k:Int):=⟨i.toNat,by omega⟩
 obtain ⟨n,_,h2,h3,h4,_⟩:=a3O h (i:=k) (by omega);rw [h2];exact h4
theorem c77{w:j9}(h:WI w)(e:G5):aW (a0U w e)=b5v (aW w) e.a7 e.A:=by
 unfold a0U b5v;cases decide (0<=e.A)
 ·rfl
 simp only [cond_true];rw [show (aW w).i0[e.A.toNat]?=(w.i0[e.A.toNat]?).map aM from List.getElem?_map ..];cases hm:w.i0[e.A.toNat]? with
 | none=>rfl
 | some m =>
  have hmi:=h.ms m (d9G hm);simp only [e0b];cases e.a7==4
  ·cases e.a7==3
   ·simp only [cond_false];unfold b8U;have ht:=d8e (b5j h hmi.to).nd hmi.mlE;rw [d1r,a8x,a9e,c2d];rw [show A2 (a0g (aW w) e.A) (aM m).To=aN (A2 w m.To) from b7d w m.To,ht];rfl
   ·exact c2d _ _
  ·exact a8x _ _
theorem c7H{w:j9}(h:WI w){i:Int}(hi:0<=i/\i<=2){p:List m7}(hf:q9 p)(hp:C3 p=true):aW (a2A w i p)=b3D (aW w) i:=by
 unfold a2A b3D;rw [show (aW w).f0.length=w.f0.length from List.length_map ..];cases decide (60<=w.f0.length)
 ·have hni:=b5j h hi;have hc:((B2 (a1N (A2 w i)) p).Code==3)=false:=by rw [c3R (b1l hni),hp];rfl
  have ha:=d6G hni.nd hc fun q=>(b09 hni hf q).1
  simp only [cond_false];rw [a8x,a9e,b7d,ha];simp only;rw [show (aN (G3 (A2 w i) p).1).Seq=(G3 (A2 w i) p).1.Seq from rfl,show (aN (A2 w i)).Seq=(A2 w i).Seq from rfl];cases decide ((G3 (A2 w i) p).1.Seq>(A2 w i).Seq)
  ·rfl
  ·simp only [cond_true];congr 2
   unfold aW;simp only [d9M,e0D];rfl
 ·rfl
theorem a33{w:j9}(h:WI w)(e:G5)(hp:e.a7=1->q9 e.i5/\C3 e.i5=true):aW (B4 w e)=doA (aW w) e.a7 e.A:=by
 unfold B4 doA;cases e.a7==2||(e.a7==3||e.a7==4)
 ·simp only [cond_false];cases hi:n7 e.A 0 2
  ·rfl
  rw [E0] at hi;have hnd:=(b5j h hi).nd;simp only [d9B,cond_false,b7d];cases h1:e.a7==1
  ·cases e.a7==5
   ·cases e.a7==6
    ·cases e.a7==7
     ·rfl
     ·exact a9e _ _ _
    ·simp only [cond_true,cond_false];rw [a8x,a9e,c6w hnd]
   ·simp only [cond_true,cond_false];rw [a8x,a9e,d8P]
  ·obtain ⟨a,b⟩:=hp (by simpa using h1);exact c7H h hi a b
 ·exact c77 h e
def O2:Nat->j9->j9
 | 0,w=>w
 | n+1,w=>bif decide (0<w.i0.length) then O2 n (B4 w ⟨2,0,[]⟩) else w
def weA:Nat->j9->j9
 | 0,w=>w
 | n+1,w=>bif decide (0<w.i0.length) then weA n (doA w 2 0) else w
theorem b2m:∀(n:Nat) {w:j9},WI w->aW (O2 n w)=weA n (aW w)
 | 0,_,_=>rfl
 | n+1,w,h=>by
  unfold O2 weA;rw [show (aW w).i0.length=w.i0.length from List.length_map ..];cases decide (0<w.i0.length)
  ·rfl
  ·simp only [cond_true];rw [b2m n (a6h h ⟨by decide,fun _ _=>trivial⟩),a33 h _ (fun q=>absurd (show (2:Int)=1 from q) (by decide))]
theorem c88{r:x6}{m:Nat}(h:Rd r m)(hm:m<=1000000):∃b r',b3u r=some (b,r')/\Rd r' (m+20):=by
 unfold b3u;rw [d8w,d9s];obtain ⟨x,hx,hq⟩:=b7g (body:=fun s:x6×(List m5)×Int=>a7s s.1 s.2.1 s.2.2)
  (fun j s=>j<=4/\s.2.2=((4-j:Nat):Int)/\s.2.1.length=4/\Rd s.1 (m+2*(4-j)))
  (fun x => ∃b:x6×List m5,x=.brk b/\b.2.length=4/\Rd b.1 (m+8))
  (by
   rintro j ⟨r,out,i⟩ ⟨q0,q1,q2,q3⟩
   simp only at q1 q2 q3 ⊢;subst q1;unfold a7s;rw [q2];cases j with
   | zero=>exact ⟨_,rfl,_,rfl,q2,q3.mono (by omega)⟩
   | succ j =>
    obtain ⟨v,r1,a1,a2,_⟩:=T6 q3 (by omega) 5;obtain ⟨n,r2,b1,b2,b3⟩:=a3U a2 (by omega) [0,1,2,5,(-3),7,100,1000000,(-1000000)] (by decide) (by decide);rw [show decide (((4-(j+1):Nat):Int)<((4:Nat):Int))=true by simp;omega,cond_true,a1,d9s,b1,d9s,s7 (show 4-(j+1)<out.length by omega),d9s];refine ⟨_,rfl,j,by omega,by omega,?_,by simp only [d94];exact q2,b2.mono (by omega)⟩;simp only;rw [C8 (by omega) (by omega)];omega) (k:=4) (s:=(r,R8,0)) ⟨by omega,by simp,by rfl,h.mono (by omega)⟩
 obtain ⟨⟨r1,out⟩,rfl,hl,hr⟩:=hq;simp only at hl hr;rw [show p8 (fun s:x6×(List m5)×Int=>a7s s.1 s.2.1 s.2.2) (r,R8,0)=_ from hx,d9s];simp only [l7.go];unfold b4b;obtain ⟨v,r2,a1,a2,_⟩:=T6 hr (by omega) 30;obtain ⟨c,r3,c1,c2,c3,c4⟩:=T6 a2 (by omega) 4;obtain ⟨d,r4,d1,d2,_⟩:=a3U c2 (by omega) [(-1),1000001] (by decide) (by decide);obtain ⟨e,r5,e1,e2,_⟩:=a3U c2 (by omega) [1000001,(-1000001)] (by decide) (by decide);obtain ⟨k,rfl⟩:∃k:Nat,c=(k:Int):=⟨c.toNat,by omega⟩
 have hk:k<out.length:=by omega
 simp only [a1,c1,d1,e1,d9s,s7 hk];cases v==0
 ·cases v==1
  ·cases v==2
   ·exact ⟨_,_,rfl,a2.mono (by omega)⟩
   ·exact ⟨_,_,rfl,e2.mono (by omega)⟩
  ·exact ⟨_,_,rfl,d2.mono (by omega)⟩
 ·rw [x9 (by rw [hl];decide)];exact ⟨_,_,rfl,a2.mono (by omega)⟩
theorem d9e{r:x6}{m:Nat}(h:Rd r m)(hm:m<=1000000):∃p r',b1Z r=some (p,r')/\Rd r' (m+300)/\p.length<=11:=by
 obtain ⟨p,r1,a1,a2,a3⟩:=d25 h (by omega);unfold b1Z;rw [a1,d9s];simp only;cases hz:(p.length:Int)==0;case true=>exact ⟨_,_,rfl,a2.mono (by omega),by omega⟩
 have hp:0<p.length:=by
  have:¬((p.length:Int)=0):=by simpa using hz
  omega
 obtain ⟨i,r2,b1,b2,b3,b4⟩:=T6 a2 (by omega) (p.length:Int);obtain ⟨k,r3,c1,c2,_⟩:=T6 b2 (by omega) 40;obtain ⟨j,rfl⟩:∃j:Nat,i=(j:Int):=⟨i.toNat,by omega⟩
 have hj:j<p.length:=by omega
 obtain ⟨n1,r4,d1,d2,_⟩:=a3U c2 (by omega) [0,8] (by decide) (by decide);obtain ⟨n2,r5,e1,e2,_⟩:=a3U c2 (by omega) [(-1),4] (by decide) (by decide);obtain ⟨n3,r6,f1,f2,_⟩:=a3U c2 (by omega) [(-1),11,2000000] (by decide) (by decide);simp only [cond_false,b1,c1,d1,e1,f1,d9s,s7 hj];cases k==0
 ·cases k==1
  ·cases k==2
   ·cases k==3
    ·exact ⟨_,_,rfl,c2.mono (by omega),by simp only;omega⟩
    ·obtain ⟨x,hx,hq⟩:=b7g (body:=fun s:List m7=>a8b ((j:Int),r2) s) (fun q s=>s.length+q=11/\j<s.length)
      (fun x => ∃b:List m7,x=.brk b/\b.length<=11)
      (by
       rintro q s ⟨q1,q2⟩
       unfold a8b;cases q with
       | zero =>
        rw [show decide ((s.length:Int)<11)=false by simp;omega];exact ⟨_,rfl,_,rfl,by omega⟩
       | succ q =>
        rw [show decide ((s.length:Int)<11)=true by simp;omega,cond_true];simp only [s7 q2,d9s];rw [x9 (by omega)];exact ⟨_,rfl,q,by omega,by simp;omega,by simp;omega⟩) (k:=11-p.length) (s:=p) ⟨by omega,hj⟩
     obtain ⟨b,rfl,hb⟩:=hq;simp only [cond_true,cond_false];rw [show p8 (fun s:List m7=>a8b ((j:Int),r2) s) p=_ from hx];exact ⟨_,_,rfl,c2.mono (by omega),hb⟩
   ·exact ⟨_,_,rfl,f2.mono (by omega),by simp only [d94];omega⟩
  ·exact ⟨_,_,rfl,e2.mono (by omega),by simp only [d94];omega⟩
 ·exact ⟨_,_,rfl,d2.mono (by omega),by simp only [d94];omega⟩
theorem d5J{code:List Int}(h:∀x∈code,a2t x):∃b p,b0v code=some (b,p)/\p.length<=11:=by
 obtain ⟨r,h1,h2⟩:=c9N h;obtain ⟨b,r1,a1,a2⟩:=c88 h2 (by omega);obtain ⟨p,r2,b1,b2,b3⟩:=d9e a2 (by omega);unfold b0v b7L;simp only [h1,a1,b1,d9s];exact ⟨_,_,rfl,b3⟩
theorem T5(k a:Int):a1V ⟨k,a,[]⟩:=⟨by show ([]:List m7).length*32<=_;simp,fun _ _=>trivial⟩
theorem a4z:∀(n:Nat) {w:j9},AW w->AW (O2 n w)
 | 0,_,h=>h
 | n+1,w,h=>by
  unfold O2;cases decide (0<w.i0.length)
  ·exact h
  ·exact a4z n (a0q h (T5 _ _))
theorem c6S{w:j9}(h:AW w):0<w.a8.length:=by rw [h.wi.nl];omega
theorem b3y{w:j9}(h:WI w):a6l w=some (O2 200 w):=by
 have go:∀(d k:Nat) (w:j9),WI w->k+d=200->p8 (fun s:Int×j9=>a19 s.1 s.2) ((k:Int),w)=some (.brk (O2 d w)):=by
  intro d;induction d with
  | zero =>
   intro k w hw hd;refine E8 (body:=fun s:Int×j9=>a19 s.1 s.2) (b:=w) ?_;unfold a19;rw [show decide ((k:Int)<200)=false by simp;omega];rfl
  | succ d ih =>
   intro k w hw hd;unfold O2;have hn:decide ((w.i0.length:Int)>0)=decide (0<w.i0.length):=by simp
   cases hz:decide (0<w.i0.length)
   ·refine E8 (body:=fun s:Int×j9=>a19 s.1 s.2) (b:=w) ?_;unfold a19;rw [show decide ((k:Int)<200)=true by simp;omega,hn,hz];rfl
   ·have he:=T5 2 0;rw [I7 (body:=fun s:Int×j9=>a19 s.1 s.2) (t:=(((k+1:Nat):Int),B4 w ⟨2,0,[]⟩)) ?_]
    ·exact ih (k+1) _ (a6h hw he) (by omega)
    ·unfold a19;rw [show decide ((k:Int)<200)=true by simp;omega,hn,hz,cond_true,cond_true,a4c hw he,d9s,C8 (by omega) (by omega)];congr 3
 unfold a6l;rw [show p8 (fun s:Int×j9=>a19 s.1 s.2) (0,w)=_ from go 200 0 w h rfl];rfl
theorem d1j{α R B:Type}{body:Int->Option (j6 R Int B)}(l:List α)(hl:q9 l)(is:α->Bool)(r:Nat->B)(b:B)(h1:∀(k:Nat) (h:k<l.length),body (k:Int)=some (bif is l[k] then .brk (r k) else .nxt (l9 ((k:Int)+1))))(h2:body (l.length:Int)=some (.brk b)) :
  p8 body 0=some (.brk (match l.findIdx? is with|some k=>r k|none=>b)):=by
 cases hf:l.findIdx? is with
 | some k =>
  obtain ⟨hk,hi,hb⟩:=d90.1 hf;have:=T8 (body:=body) (fun j=>(j:Int)) k fun j hj=>by
   have hjl:j<l.length:=by omega
   have hn:is l[j]=false:=by simpa using hb j hj
   rw [h1 j hjl,hn,E7 hl hjl];rfl
  refine (show p8 body ((0:Nat):Int)=_ from this).trans (E8 ?_);rw [h1 k hk,hi];rfl
 | none =>
  have hb:=e0E.1 hf;have:=T8 (body:=body) (fun j=>(j:Int)) l.length fun j hj=>by
   have hn:is l[j]=false:=by simpa using hb _ (d9w hj)
   rw [h1 j hj,hn,E7 hl hj];rfl
  exact (show p8 body ((0:Nat):Int)=_ from this).trans (E8 h2)
def a4X(w:j9)(b:Int):j9:=match w.i0.findIdx? (fun m=>m.To==b) with
 | some k=>B4 (B4 w ⟨4,(k:Int),[]⟩) ⟨2,(k:Int),[]⟩
 | none=>w
def b66(w:j9)(b:Int):j9:=match w.i0.findIdx? (fun m=>m.To==b) with
 | some k=>doA (doA w 4 (k:Int)) 2 (k:Int)
 | none=>w
theorem d5u{w:j9}(h:WI w)(b:Int):aW (a4X w b)=b66 (aW w) b:=by
 unfold a4X b66;have e:(aW w).i0.findIdx? (fun m=>m.To==b)=w.i0.findIdx? (fun m=>m.To==b):=by
  show (w.i0.map aM).findIdx? _=_
  rw [List.findIdx?_map];rfl
 rw [e];cases w.i0.findIdx? (fun m=>m.To==b) with
 | none=>rfl
 | some k =>
  simp only;rw [a33 (a6h h (T5 _ _)) _ (fun q=>absurd (show (2:Int)=1 from q) (by decide)),a33 h _ (fun q=>absurd (show (4:Int)=1 from q) (by decide))]
theorem b9x{w:j9}(h:AW w)(b:Int):AW (a4X w b):=by
 unfold a4X;cases w.i0.findIdx? (fun m=>m.To==b) with
 | none=>exact h
 | some k=>exact a0q (a0q h (T5 _ _)) (T5 _ _)
def a9o(a b:Int):j9:=weA 200 (doA (weA 200 (doA (doA (b66 (doA (weA 200 (doA I3 5 a)) 1 a) b) 7 a) 5 b)) 1 b)
def a3e(a b:Int):Bool:=(a9o a b).a8.all fun n=>match n.a5 with
 | [x,y] => !x.i6&&(!y.i6&&((x.a0.b6==a&&x.a0.Seq==1)&&(y.a0.b6==b&&y.a0.Seq==1)))
 | _=>false
set_option maxRecDepth 100000 in
theorem c7k:a3e 0 1=true:=by decide +kernel
set_option maxRecDepth 100000 in
theorem d1A:a3e 0 2=true:=by decide +kernel
set_option maxRecDepth 100000 in
theorem d2e:a3e 1 0=true:=by decide +kernel
set_option maxRecDepth 100000 in
theorem c98:a3e 1 2=true:=by decide +kernel
set_option maxRecDepth 100000 in
theorem d4R:a3e 2 0=true:=by decide +kernel
set_option maxRecDepth 100000 in
theorem c8I:a3e 2 1=true:=by decide +kernel
theorem d2j{a b:Int}(ha:a=0\/a=1\/a=2)(hb:b=0\/b=1\/b=2)(hab:a≠b):a3e a b=true:=by
 rcases ha with rfl|rfl|rfl<;>rcases hb with rfl|rfl|rfl
 ·exact absurd rfl hab
 ·exact c7k
 ·exact d1A
 ·exact d2e
 ·exact absurd rfl hab
 ·exact c98
 ·exact d4R
 ·exact c8I
 ·exact absurd rfl hab
def a17(a b:Int)(p:List m7):j9:=O2 200 (B4 (O2 200 (B4 (B4 (a4X (B4 (O2 200 (B4 I3 ⟨5,a,[]⟩)) ⟨1,a,p⟩) b) ⟨7,a,[]⟩) ⟨5,b,[]⟩)) ⟨1,b,p⟩)
theorem d3t(a b:Int){p:List m7}(hp:C3 p=true)(he:∀k a,a1V ⟨k,a,p⟩):AW (a17 a b p)/\aW (a17 a b p)=a9o a b:=by
 have hf:q9 p:=A0.fits (he 1 0) (by decide);have w1:=a0q b2d (T5 5 a);have w2:=a4z 200 w1;have w3:=a0q w2 (he 1 a);have w4:=b9x w3 b;have w5:=a0q w4 (T5 7 a);have w6:=a0q w5 (T5 5 b);have w7:=a4z 200 w6;have w8:=a0q w7 (he 1 b);refine ⟨a4z 200 w8,?_⟩;unfold a17 a9o;rw [b2m 200 w8.wi,a33 w7.wi _ (fun _=>⟨hf,hp⟩),b2m 200 w6.wi,a33 w5.wi _ (fun q=>absurd (show (5:Int)=1 from q) (by decide)),a33 w4.wi _ (fun q=>absurd (show (7:Int)=1 from q) (by decide)),d5u w3.wi,a33 w2.wi _ (fun _=>⟨hf,hp⟩),b2m 200 w1.wi,a33 b2d.wi _ (fun q=>absurd (show (5:Int)=1 from q) (by decide))];rfl
theorem d89{a b:Int}{p:List m7}(hm:a3e a b=true)(hw:AW (a17 a b p))(he:aW (a17 a b p)=a9o a b):∃x y,r8 (a17 a b p)=[x,y]/\x.i6=false/\y.i6=false/\x.a0=⟨a,1⟩/\y.a0=⟨b,1⟩:=by
 obtain ⟨j,hj,h1,_⟩:=b1H hw.wi;rw [h1];have hmem:o9 (a17 a b p) j∈(a17 a b p).a8:=by
  rw [b0O hw.wi];unfold D3 at hj;obtain rfl|rfl|rfl:j=0\/j=1\/j=2:=by omega
  all_goals simp
 have hn:aN (o9 (a17 a b p) j)∈(a9o a b).a8:=by
  rw [<-he];exact List.mem_map_of_mem hmem
 have:=List.all_eq_true.1 hm _ hn;generalize o9 (a17 a b p) j=n at this;simp only [aN] at this;match hk:n.a5 with
 | []=>rw [hk] at this;exact absurd this (by simp)
 | [x]=>rw [hk] at this;exact absurd this (by simp)
 | [x,y] =>
  rw [hk] at this;simp only [d9R,List.map_nil,aE,d9v,d9T,beq_iff_eq] at this;obtain ⟨t1,t2,⟨t3,t4⟩,t5,t6⟩:=this;refine ⟨x,y,rfl,t1,t2,?_,?_⟩
  ·rw [<-t3,<-t4]
  ·rw [<-t5,<-t6]
 | x::y::z::l=>rw [hk] at this;exact absurd this (by simp)
theorem c9P{code more:List Int}(h:A0 1 a2t code)(h':A0 1 a2t more):b5g code more=some true:=by
 unfold b5g;cases decide ((code.length:Int)>1048576);case true=>rfl
 cases decide ((more.length:Int)>1048576);case true=>rfl
 obtain ⟨bx,p,d1,d2⟩:=d5J h.2;have hf:q9 p:=by unfold q9;omega
 simp only [cond_false,d1,d9s,d6C hf];cases hp:C3 p
 ·simp only [d9W,cond_true,a85 hf,d9s,hp]
 have he:∀k a,a1V ⟨k,a,p⟩:=fun k a=>⟨by show p.length*32<=_;omega,fun _ _=>trivial⟩
 have hm:more.length<=140737488351232:=h'.fits (by decide);obtain ⟨a,ha,ha3⟩:∃a:Int,d9I (more.length:Int) 3=a/\(a=0\/a=1\/a=2):=⟨_,rfl,by rw [e0N (by omega)];omega⟩
 obtain ⟨c,hc,hc3⟩:∃c:Int,d9I (l9 (e0B (more.length:Int) 3)) 2=c/\(c=0\/c=1):=⟨_,rfl,by rw [Int.tdiv_eq_ediv_of_nonneg (by omega),C8 (by omega) (by omega),e0N (by omega)];omega⟩
 obtain ⟨b,hb,hb3,hab⟩:∃b:Int,d9I (l9 (l9 (a+1)+c)) 3=b/\(b=0\/b=1\/b=2)/\a≠b:=by
  rcases ha3 with rfl|rfl|rfl<;>rcases hc3 with rfl|rfl<;>exact ⟨_,rfl,by decide,by decide⟩
 have w1:=a0q b2d (T5 5 a);have w2:=a4z 200 w1;have w3:=a0q w2 (he 1 a);have w4:=b9x w3 b;have w5:=a0q w4 (T5 7 a);have w6:=a0q w5 (T5 5 b);have w7:=a4z 200 w6;have w8:=a0q w7 (he 1 b);have w9:=a4z 200 w8;obtain ⟨_,hA⟩:=d3t a b hp he;obtain ⟨x,y,hl,x1,y1,x2,y2⟩:=d89 (d2j ha3 hb3 hab) w9 hA;have hnet:q9 (B4 (O2 200 (B4 I3 ⟨5,a,[]⟩)) ⟨1,a,p⟩).i0:=by have:=w3.wi.ml;unfold q9;omega
 simp only [d9B,cond_false,d3f,d9s,ha,a4c b2d.wi (T5 5 a),b3y w1.wi,a4c w2.wi (he 1 a)];rw [d1j (body:=fun s:Int=>a8K more (B4 (O2 200 (B4 I3 ⟨5,a,[]⟩)) ⟨1,a,p⟩) s) (B4 (O2 200 (B4 I3 ⟨5,a,[]⟩)) ⟨1,a,p⟩).i0 hnet (fun m=>m.To==b) (fun k=>B4 (B4 (B4 (O2 200 (B4 I3 ⟨5,a,[]⟩)) ⟨1,a,p⟩) ⟨4,(k:Int),[]⟩) ⟨2,(k:Int),[]⟩) (B4 (O2 200 (B4 I3 ⟨5,a,[]⟩)) ⟨1,a,p⟩) (fun k hk => ?_) (by unfold a8K;rw [B0];rfl)]
 ·show (b1R more (bx,p) (a4X (B4 (O2 200 (B4 I3 ⟨5,a,[]⟩)) ⟨1,a,p⟩) b))=_
  unfold b1R;have h0:=c6S w9;simp only [ha,hc,hb,a4c w4.wi (T5 7 a),a4c w5.wi (T5 5 b),b3y w6.wi,a4c w7.wi (he 1 b),b3y w8.wi,d9s,b35 w9.wi.ok h0];rw [show r8 (O2 200 (B4 (O2 200 (B4 (B4 (a4X (B4 (O2 200 (B4 I3 ⟨5,a,[]⟩)) ⟨1,a,p⟩) b) ⟨7,a,[]⟩) ⟨5,b,[]⟩)) ⟨1,b,p⟩))=[x,y] from hl];have b0:a12 more [x,y] 0 0=some (.nxt (1,1)):=by
   unfold a12;show ((((idx [x,y] ((0:Nat):Int)).bind fun entry=>_):Option (l7 (j6 Bool (Int×Int) Int) Int)).bind fun x=>x.go some fun j=>b1f 0 j)=_
   rw [s7 (l:=[x,y]) (k:=0) (by simp),d9s];simp only [List.getElem_cons_zero,x1,x2,ha,d9W,cond_true,beq_self_eq_true];rfl
  have b1:a12 more [x,y] 1 1=some (.nxt (1,2)):=by
   unfold a12;show ((((idx [x,y] ((1:Nat):Int)).bind fun entry=>_):Option (l7 (j6 Bool (Int×Int) Int) Int)).bind fun x=>x.go some fun j=>b1f 1 j)=_
   rw [s7 (l:=[x,y]) (k:=1) (by simp),d9s];have hne:(([y.a0.b6,y.a0.Seq]:List Int)==[a,1])=false:=by
    rw [y2,Bool.eq_false_iff];intro q;have q:=a5r (a:=⟨b,1⟩) (b:=⟨a,1⟩) |>.1 q
    injection q with q;exact hab q.symm
   simp only [List.getElem_cons_succ,List.getElem_cons_zero,y1,ha,d9W,cond_true,hne,cond_false];rfl
  have b2:a12 more [x,y] 1 2=some (.brk 1):=rfl;rw [I7 (body:=fun s:Int×Int=>a12 more [x,y] s.1 s.2) b0,I7 (body:=fun s:Int×Int=>a12 more [x,y] s.1 s.2) b1,E8 (body:=fun s:Int×Int=>a12 more [x,y] s.1 s.2) b2,d9s];simp only [l7.go,b7A];have:=d5p w9;rw [this];rfl
 ·have e4:=a4c w3.wi (T5 4 (k:Int));have e2:=a4c (a6h w3.wi (T5 4 (k:Int))) (T5 2 (k:Int));unfold a8K;rw [z5 _ k hk,s7 hk,cond_true,d9s,ha,hc,hb,e4,d9s,e2,d9s];cases (B4 (O2 200 (B4 I3 ⟨5,a,[]⟩)) ⟨1,a,p⟩).i0[k].To==b<;>rfl
end
end Go.Proofs.YtallgikdooekeaaGreat
