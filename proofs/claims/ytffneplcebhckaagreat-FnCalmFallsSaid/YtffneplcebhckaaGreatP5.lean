/- What the law leans on, part 5. -/
import Derived.Test.YtffneplcebhckaaGreatP4
set_option linter.unusedVariables false
set_option linter.unusedSimpArgs false
set_option linter.unnecessarySimpa false
set_option linter.defProp false
namespace Go.Proofs.YtffneplcebhckaaGreat
open Go
open Option renaming bind_some->g0X,getD_some->g13,map_some->g2c
open List renaming getElem?_eq_getElem->g0Y,mem_append->g0Z,replicate->g00,getElem_mem->g01,mem_singleton->g03,all_eq_true->g05,getElem?_eq_some_iff->g06,length_append->g08,range->g09,mem_cons->g1a,nodup_append->g1b,eq_nil_of_length_eq_zero->g1c,append_assoc->g1d,mem_of_getElem?->g1e,getD_eq_getElem?_getD->g1f,append_nil->g1i,getElem?_append_right->g1j,getElem?_set_ne->g1k,length_take->g1l,mem_map->g1m,take_length->g1n,getElem?_append_left->g1o,drop_eq_getElem_cons->g1q,drop_eq_nil_of_le->g1r,getElem?_eq_none->g1s,flatten_cons->g1t,take_succ_eq_append_getElem->g1u,map_cons->g1v,nil_append->g1z,take_of_length_le->g1A,getElem_of_mem->g1E,mem_or_eq_of_mem_set->g1F,length_cons->g1G,mem_flatten->g1H,length_map->g1J,any_eq_false->g1K,take_append_of_le_length->g1L,mem_of_mem_take->g1M,mem_replicate->g1O,take_zero->g1P,length_singleton->g1Q,pairwise_iff_getElem->g1R,findIdx?_eq_some_iff_getElem->g1T,take_append_drop->g1V,map_append->g1W,mem_range->g1X,getElem?_map->g1Z,mem_of_mem_drop->g10,mem_take_iff_getElem->g11,mem_filter->g12,getElem?_cons_zero->g14,mem_cons_of_mem->g16,cons_append->g17,getElem?_set_self->g18,getElem?_cons_succ->g19,drop_zero->g2a,length_set->g2b,any_eq_true->g2e,length_nil->g2i,getElem?_drop->g2l,map_map->g2o,mem_append_left->g2p,getElem?_set->g2q,take_succ_cons->g2s,getElem?_take->g2u,length_replicate->g2x,length_drop->g2H,getElem_map->g2J,replicate_succ->g2K,take->g2M,range_succ_eq_map->g2N,set_getElem_self->g2S,getElem?_append->g2T,not_mem_nil->g2U,any_cons->g2X,mem_of_find?_eq_some->g20,find?_eq_none->g21
open Bool renaming and_eq_true->g02,not_true->g04,true_and->g1h,not_false->g1y,not_eq_true'->g1D,false_or->g1I,or_eq_false_iff->g1N,eq_iff_iff->g2j,and_eq_false_iff->g2v,true_or->g2I,false_and->g24
open Nat renaming le_refl->g07,mul_le_mul_right->g1x,le_trans->g1C,zero_add->g1U,add_zero->g2n
open Int renaming le_refl->g1g,toNat_natCast->g1p,tmod->g1w,le_trans->g1S,tmod_eq_emod_of_nonneg->g2k
open Option renaming some->U,none->Z
open Bool renaming false->W,true->Y
open List renaming length->O
noncomputable section
def f2F{n:m4}(h:NI n){m:m9}(hm:MI m)(hk:m.b7=2):c0R n m=U (Y8 n m):=by
 have hkd:((O m.b8)<=40/\∀v∈m.b8,VI v)/\m.i6+(O m.b8)<=40:=by
  rcases hm.kd with q|q|q|q|q|q|q
  ·omega
  ·exact⟨q.2.2.2.1,q.2.2.2.2⟩
  all_goals exact absurd q.1 (by omega)
 have hs:=hm.sl;have hf:=hm.fr;unfold c0R Y8;by_cases p1:n.d6=1
 ·rw[show(n.d6 != 1)=W by simp[p1],g1I];simp only[g26];cases hb:m.b5 != n.b5
  ·simp only[g26];have hl:(O n.d7)=3/\Own n:=by
    rcases h.ld with q|q|q|q
    ·omega
    ·exact⟨q.2.2.1,q.2.1⟩
    all_goals exact absurd q.1 (by omega)
   obtain⟨f,hff⟩:∃f:Nat,m.d7=(f:Int):=⟨m.d7.toNat,by omega⟩
   have hvo:C4 96 Z5 (g00 m.i6.toNat v0++m.b8):=a44 (by simp;omega) (by
    intro v hv;rcases g0Z.1 hv with q|q
    ·rw[(g1O.1 q).2];exact .inl rfl
    ·exact hkd.1.2 v q)
   have hz:∀v∈g00 m.i6.toNat v0++m.b8,v.b5<=0->v=v0:=by
    intro v hv hb;rcases g0Z.1 hv with q|q
    ·exact(g1O.1 q).2
    ·exact(hkd.1.2 v q).zero hb
   rw[hff,z8 (show f<(O n.d7) by omega),g0X,e97 (a44 (by omega) hkd.1.2) hkd.1.1 hs,g0X,e59 (a44 (by have:=hl.2.bl;omega) hl.2.bs) hvo (by have:=hl.2.bl;omega) (by simp;omega) hz,g0X,d8J (c1s (by simp;omega)),g0X];cases htw:L1 (n.d7.set (f:Int).toNat Y)
   ·simp only[g1y,g25,g26]
   ·simp only[g04,g26,g25];have hbl:=a7y n.j5 (g00 m.i6.toNat v0++m.b8);have hob:=hl.2.bl;have hlen:(g00 m.i6.toNat v0++m.b8).length<=40:=by simp;omega
    obtain⟨h1,h2,h3,h4,h5,h6,h7,h8,h9,h10,h11,h12,h13⟩:=h.ok;rw[b4D (n:=⟨n.Id,n.Acc,n.a9,n.Seq,2,n.b5,[],G2 n.j5 (g00 m.i6.toNat v0++m.b8),n.g9,n.b8,n.j6,n.j8,n.d9,n.i5⟩) ⟨h1,h2,h3,h4,C3 (n:=2) (by omega),h6,a0b,a44 (by show(G2 n.j5 (g00 m.i6.toNat v0++m.b8)).length<=1000;omega) (λv hv=>(a8P hv).elim (λq=>hl.2.bs v q) (λq=>(g0Z.1 q).elim (λq=>by rw[(g1O.1 q).2];exact .inl rfl) (hkd.1.2 v))),h9,h10,h11,h12,h13⟩ h.id,g0X]
  ·rfl
 ·rw[show(n.d6 != 1)=Y by simpa using p1];rfl
def a2b(id:Int)(m:m9):(G4 id m).length<=3:=by
 unfold G4;rw[g1J];exact List.length_filter_le _ _
def a8Q(n:m4):(F8 n).2.length<=3:=by
 unfold F8 a4k;cases n.d6 != 2||decide (40<=(O n.a9))
 ·simp only[g26];cases a0q n with
  |mk x o=>
   cases o with
   |none=>simp
   |some e=>
    simp only;cases N7 x.Acc x.b5 (O x.a9:Int) e with
    |none=>simp
    |some a=>exact a2b _ _
 ·simp
def e6d{n:m4}(h:NI n){m:m9}(hm:MI m):b8p n m=U (a0J n m):=by
 have hf:=hm.fr;unfold b8p a0J;by_cases p3:n.d6=3
 ·rw[show(n.d6 != 3)=W by simp[p3],g1I];simp only[g26];cases hb:m.b5 != n.b5
  ·simp only[g26,g1I];cases hs:m.i6 != (O n.a9:Int)
   ·simp only[g26];have hl:(O n.b8)=3/\B7 n.g9=Y/\(O n.a9)<40:=by
     rcases h.ld with q|q|q|q
     ·omega
     ·omega
     ·omega
     ·exact⟨q.2.2.2.2.1,q.2.2.2.1,q.2.2.2.2.2.2⟩
    obtain⟨f,hff⟩:∃f:Nat,m.d7=(f:Int):=⟨m.d7.toNat,by omega⟩
    have hcur:=a4G hl.2.1;rw[hff,z8 (show f<(O n.b8) by omega),g0X,d8J (c1s (by simp;omega)),g0X];cases htw:L1 (n.b8.set (f:Int).toNat Y)
    ·simp only[g1y,g25,g26]
    ·simp only[g04,g26,g25];obtain⟨h1,h2,h3,h4,h5,h6,h7,h8,h9,h10,h11,h12,h13⟩:=h.ok;rw[a2n hcur,g0X,a8b h.id (a9w (C3 (by omega)) a1N (C3 (by omega)) hcur a0b),g0X,
      d5p (n:={n with b8:=n.b8.set (f:Int).toNat Y}) ⟨h1,h2,h3,h4,h5,h6,h7,h8,h9,a1J (by simp;omega) (λ_ _=>trivial),h11,h12,h13⟩ h.id h.list hl.2.2 hcur hl.2.1,g0X,A6]
     have e1:=a2b n.Id ⟨5,0,0,0,(O n.a9:Int),n.g9,[]⟩;have e2:=a8Q (K7 (C6 {n with b8:=n.b8.set (f:Int).toNat Y} n.g9)).1;have e3:(V5 {n with b8:=n.b8.set (f:Int).toNat Y} n.g9).2.1.length<=3:=e2;omega
   ·rfl
  ·rfl
 ·rw[show(n.d6 != 3)=Y by simpa using p3];rfl
def e3K{n:m4}(h:NI n){m:m9}(hm:MI m)(hk:m.b7=5):b8C n m=U (a0K n m):=by
 have hkd:m.i6<40/\B7 m.i9=Y:=by
  rcases hm.kd with q|q|q|q|q|q|q
  ·omega
  ·omega
  ·omega
  ·exact⟨q.2.2.1,q.2.2.2.1⟩
  all_goals exact absurd q.1 (by omega)
 unfold b8C a0K;cases h1:decide (m.i6<(O n.a9:Int))
 ·cases h2:decide (m.i6>(O n.a9:Int))
  ·simp only[g26];have hl:(O n.a9)<40:=by simp at h1 h2;omega
   rw[d5p h.ok h.id h.list hl (a4G hkd.2) hkd.2,g0X]
  ·rfl
 ·rfl
def e2T{n:m4}(h:NI n){m:m9}(hm:MI m):c1Z n m=U (Y9 n m):=by
 have he:I5 m.i9:=hm.ok.2.2.2.2.2.1;have hql:=h.ql;unfold c1Z Y9;rw[show decide ((O n.i5:Int)>=4)=decide (4<=(O n.i5)) by simp;omega,b70 (h.ok.2.2.1.fits (by decide)),a2n he];cases n.d6==0
 ·simp only[g26,g1I];cases decide (4<=(O n.i5))
  ·simp only[g26,g1I,g0X];cases N3 n.a9 m.i9.b6
   ·obtain⟨h1,h2,h3,h4,h5,h6,h7,h8,h9,h10,h11,h12,h13⟩:=h.ok;simp only[g26];rw[A6 (by omega),b4D (n:={n with i5:=n.i5++[m.i9]}) ⟨h1,h2,h3,h4,h5,h6,h7,h8,h9,h10,h11,h12,a1J (by simp;omega) (by
     intro x hx;rcases g0Z.1 hx with q|q
     ·exact h13.2 x q
     ·rw[g03.1 q];exact he)⟩ h.id,g0X]
   ·rfl
  ·rfl
 ·rfl
def c0y{n:m4}(m:m9){k:Nat}(hk:k<(O n.a9)):T0 n m k=[H7 m ⟨5,0,0,0,(k:Int),n.a9[k],[]⟩]:=by
 unfold T0;rw[g0Y hk]
def c9y{n:m4}(h:NI n)(m:m9):∀(d k:Nat) (o:List m9),(O n.a9)-k=d->(O o)<=k->u5 (λs:(List m9)×Int=>a73 n m s.1 s.2) (o,(k:Int))=U (.brk (o++((g09 d).map λj=>T0 n m (k+j)).flatten))
 | 0,k,o,hd,ho=>by
  have hkl:=h.kl;refine(F3 (b:=o) ?_).trans (by simp);show a73 n m o (k:Int)=_
  unfold a73;rw[show decide ((k:Int)<(O n.a9:Int))=W by simp;omega];rfl
 |d+1,k,o,hd,ho=>by
  have hkl:=h.kl;have hlt:k<(O n.a9):=by omega
  have hb:a73 n m o (k:Int)=U (.nxt (o++T0 n m k,((k+1:Nat):Int))):=by
   unfold a73;rw[B0 _ k hlt,z8 hlt,g25,g0X,a2n (a4G (h.ks _ (g01 hlt))),g0X,b8L,g0X,A6 (by simp;omega),c0y m hlt,J0 (h.ok.2.2.1.fits (by decide)) hlt]
  rw[G7 (body:=λs:(List m9)×Int=>a73 n m s.1 s.2) (s:=(o,(k:Int))) hb,c9y h m d (k+1) _ (by omega) (by rw[c0y m hlt];simp;omega)];rw[g2N,g1v,g1t,g1d,g2o];simp only[g2n,Function.comp_def,Nat.succ_eq_add_one,Nat.add_assoc,Nat.add_comm 1]
def f1b{n:m4}(h:NI n){m:m9}(hs:0<=m.i6):b9s n m=U (W2 n m,n):=by
 unfold b9s W2;obtain⟨k,hk⟩:∃k:Nat,m.i6=(k:Int):=⟨m.i6.toNat,by omega⟩
 rw[hk];have:=c9y h m ((O n.a9)-k) k [] rfl (by simp);rw[this];rfl
def g0A{n:m4}(h:NI n){m:m9}(hm:MI m):c0t n m=U (D8 n m):=by
 unfold c0t D8;rw[e4u h.ok hm.sl.1,e6P hm.ok,e6d h hm,e2T h hm,f1b h hm.sl.1,b9H];by_cases k1:m.b7=1
 ·simp[k1];rfl
 rw[show(m.b7==1)=W by simpa using k1];by_cases k2:m.b7=2
 ·rw[f2F h hm k2];simp[k2];rfl
 rw[show(m.b7==2)=W by simpa using k2];by_cases k3:m.b7=3
 ·simp[k3];rfl
 rw[show(m.b7==3)=W by simpa using k3];by_cases k4:m.b7=4
 ·simp[k4];rfl
 rw[show(m.b7==4)=W by simpa using k4];by_cases k5:m.b7=5
 ·rw[e3K h hm k5];simp[k5];rfl
 rw[show(m.b7==5)=W by simpa using k5];by_cases k6:m.b7=6
 ·rw[show(m.b7==6)=Y by simpa using k6];simp only[g25,g26,g0X];cases J6 n.Acc m.b5<;>simp only[d6B,g0X,Option.getD_none,g13]<;>rfl
 rw[show(m.b7==6)=W by simpa using k6];by_cases k7:m.b7=7
 ·simp[k7];rfl
 rw[show(m.b7==7)=W by simpa using k7];cases m.b7==8
 ·rfl
 ·simp only[g25,g26,g0X];rw[A6 trivial,A6 trivial,A6 trivial,A6 trivial,A6 trivial];rfl
def b29{a x:B4}{b s:Int}{e:p9}(h:N7 a b s e=U x):∃k:Nat,s=(k:Int)/\k<40/\B7 e=Y/\1<=b/\b<=3000/\a.i7<=b/\x=⟨b,(W9 a.b8 (k+1)).set k ⟨b,e⟩⟩:=by
 unfold N7 at h;cases hq:v5 s 0 39&&B7 e
 ·rw[hq]at h;cases h
 ·rw[hq,g25]at h;simp only[g02,I1]at hq;cases hp:J6 a b with
  |none=>rw[hp]at h;cases h
  |some y=>
   rw[hp]at h;obtain⟨rfl,h1,h2,h3⟩:=a2K hp;injection h with h;refine⟨s.toNat,by omega,by omega,hq.2,h1,h2,h3,h.symm⟩
def b4f{a:B4}{b:Int}(h1:1<=b)(h2:b<=3000)(h3:a.i7<=b):J6 a b=U ⟨b,a.b8⟩:=by
 unfold J6 a95;rw[I1.2 ⟨h1,h2⟩,show decide (a.i7<=b)=Y by simpa using h3];rfl
def c8i{a:B4}{b:Int}{k:Nat}{e:p9}(hk:k<40)(he:B7 e=Y)(h1:1<=b)(h2:b<=3000)(h3:a.i7<=b):N7 a b (k:Int) e=U ⟨b,(W9 a.b8 (k+1)).set k ⟨b,e⟩⟩:=by
 unfold N7;rw[I1.2 (show 0<=(k:Int)/\(k:Int)<=39 by omega),he,b4f h1 h2 h3];rfl
def c3w{vs:List s7}{n:Nat}{v:s7}(h:v∈W9 vs n):v∈vs\/v=v0:=by
 rcases g0Z.1 h with q|q
 ·exact .inl q
 ·exact .inr (g1O.1 q).2
def d2L{C:Type}{l:List C}{k:Nat}{x v:C}(h:v∈l.set k x):v∈l\/v=x:=g1F h
def NI.queue{n:m4}(h:NI n){q:List p9}(hl:(O q)<=4)(hm:∀e∈q,B7 e=Y/\e.j9=W):NI {n with i5:=q}:=
 ⟨h.id,h.pr,h.vl,h.vs,h.kl,h.ks,h.sq,hl,hm,h.ld,h.wt⟩
def NI.down{n:m4}(h:NI n):NI (a0E n):=
 ⟨h.id,h.pr,h.vl,h.vs,h.kl,h.ks,h.sq,h.ql,h.qs,.inl ⟨rfl,rfl,rfl,rfl,rfl,rfl⟩,h.wt⟩
def NI.freeN{n:m4}(h:NI n):NI (a8N n):=
 ⟨h.id,h.pr,h.vl,h.vs,h.kl,h.ks,h.sq,h.ql,h.qs,h.ld,.inr ⟨rfl,rfl,rfl⟩⟩
def NI.acc{n:m4}(h:NI n){a:B4}(h1:0<=a.i7/\a.i7<=3000)(h2:(O a.b8)<=40)(h3:∀v∈a.b8,VI v/\v.b5<=a.i7)(h4:n.Acc.i7<=a.i7):NI {n with Acc:=a}:=by
 have ho:Own n->Own {n with Acc:=a}:=λo=>⟨o.b1,o.b2,o.mod,g1S o.pr h4,o.bl,o.bs⟩
 refine⟨h.id,h1,h2,h3,h.kl,h.ks,h.sq,h.ql,h.qs,?_,h.wt⟩;rcases h.ld with q|q|q|q
 ·exact .inl q
 ·exact .inr (.inl ⟨q.1,ho q.2.1,q.2.2⟩)
 ·exact .inr (.inr (.inl ⟨q.1,ho q.2.1,q.2.2⟩))
 ·exact .inr (.inr (.inr ⟨q.1,ho q.2.1,q.2.2⟩))
def NI.promise{n:m4}(h:NI n){b:Int}{x:B4}(hp:J6 n.Acc b=U x):NI {n with Acc:=x}:=by
 obtain⟨rfl,h1,h2,h3⟩:=a2K hp;exact h.acc ⟨by simp only;omega,h2⟩ h.vl (λv hv=>⟨(h.vs v hv).1,g1S (h.vs v hv).2 h3⟩) h3
def f6z{vs:List s7}{p b:Int}{k:Nat}{e:p9}(hk:k<40)(hl:(O vs)<=40)(hv:∀v∈vs,VI v/\v.b5<=p)(he:B7 e=Y)(h1:1<=b)(h2:b<=3000)(h3:p<=b) :
  ((W9 vs (k+1)).set k ⟨b,e⟩).length<=40/\∀v∈(W9 vs (k+1)).set k ⟨b,e⟩,VI v/\v.b5<=b:=by
 refine⟨by rw[g2b,b6l];omega,λv hm => ?_⟩;rcases d2L hm with q|q
 ·rcases c3w q with q|q
  ·exact⟨(hv v q).1,g1S (hv v q).2 h3⟩
  ·rw[q];exact⟨.inl rfl,by show(0:Int)<=b;omega⟩
 ·rw[q];exact⟨.inr ⟨h1,h2,he⟩,g1g _⟩
def NI.cast{n:m4}(h:NI n){b s:Int}{e:p9}{x:B4}(hc:N7 n.Acc b s e=U x):NI {n with Acc:=x}:=by
 obtain⟨k,rfl,hk,he,h1,h2,h3,rfl⟩:=b29 hc;obtain⟨a,b'⟩:=f6z hk h.vl h.vs he h1 h2 h3;exact h.acc ⟨by simp only;omega,h2⟩ a b' h3
def NI.yield{n:m4}(h:NI n)(b:Int):NI (L3 n b):=by
 unfold L3;cases n.d6 != 0&&decide (b>n.b5)
 ·exact h
 ·exact h.down
def b8k{id:Int}(h:0<=id/\id<=2):(a0u id).length=3/\(a0u id)[id.toNat]?=U Y:=by
 unfold a0u;refine⟨by simp,?_⟩;rw[g18 (by simp;omega)]
def a3F.right{n:m4}(h:NI n){e:p9}(hn:a3F n e):B7 e=Y:=by
 cases hn with
 |best v hv hb=>exact(h.ld.best.2 v (g1e hv)).pos hb
 |gap=>rfl
 |want hb=>
  rcases h.wt with q|q
  ·exact q.2.2.1
  ·rw[hb]at q;cases q.1
 |queue e hq=>exact(h.qs e hq).1
def a3A{id:Int}{m x:m9}(hid:0<=id/\id<=2)(h:x∈G4 id m):∃t:Int,0<=t/\t<=2/\t≠id/\x={m with d7:=id,To:=t}:=by
 unfold G4 at h;obtain⟨t,ht,rfl⟩:=g1m.1 h;obtain⟨h1,h2⟩:=g12.1 ht;refine⟨t,?_,?_,by simpa using h2,rfl⟩;all_goals simp at h1;omega
def a8B{id:Int}{m:m9}(hid:0<=id/\id<=2)(hk:a0m m)(hs:0<=m.i6/\m.i6<=40):∀x∈G4 id m,MI x:=by
 intro x hx;obtain⟨t,h1,h2,h3,rfl⟩:=a3A hid hx;exact⟨hid,⟨h1,h2⟩,λq=>h3 q.symm,hs,hk⟩
def b08{m o:m9}(hm:MI m)(hk:a0m o)(hs:0<=o.i6/\o.i6<=40):MI (H7 m o):=⟨hm.to,hm.fr,λq=>hm.ne q.symm,hs,hk⟩
def a0m.one{k b s:Int}(hk:k=1\/k=4)(hb:1<=b/\b<=3000):a0m ⟨k,0,0,b,s,zE,[]⟩:=.inl ⟨hk,hb,rfl,rfl⟩
def a0m.accept{b s:Int}{e:p9}(hb:1<=b/\b<=3000)(hs:s<40)(he:B7 e=Y):a0m ⟨3,0,0,b,s,e,[]⟩:=.inr (.inr (.inl ⟨rfl,hb,hs,he,rfl⟩))
def a0m.chosen{s:Int}{e:p9}(hs:s<40)(he:B7 e=Y):a0m ⟨5,0,0,0,s,e,[]⟩:=.inr (.inr (.inr (.inl ⟨rfl,rfl,hs,he,rfl⟩)))
def a0m.refuse{b:Int}(hb:1<=b/\b<=3000):a0m ⟨6,0,0,b,0,zE,[]⟩:=.inr (.inr (.inr (.inr (.inl ⟨rfl,hb,rfl,rfl,rfl⟩))))
def a0m.ask{e:p9}(he:B7 e=Y)(hn:e.j9=W):a0m ⟨7,0,0,0,0,e,[]⟩:=.inr (.inr (.inr (.inr (.inr (.inl ⟨rfl,rfl,rfl,he,hn,rfl⟩)))))
def a0m.need{s:Int}:a0m ⟨8,0,0,0,s,zE,[]⟩:=.inr (.inr (.inr (.inr (.inr (.inr ⟨rfl,rfl,rfl,rfl⟩)))))
structure Y6(n:m4)(x:m4×List m9):Prop where
 ni:NI x.1
 id:x.1.Id=n.Id
 ms:∀m∈x.2,MI m
def Y6.same{n:m4}(h:NI n):Y6 n (n,[]):=⟨h,rfl,by simp⟩
def Y6.to{n n':m4}(hi:n'.Id=n.Id){x:m4×List m9}(h:Y6 n' x):Y6 n x:=⟨h.ni,h.id.trans hi,h.ms⟩
def b2e{n:m4}(h:NI n):Y6 n (F8 n):=by
 unfold F8;cases hc:n.d6 != 2||decide (40<=(O n.a9))
 ·simp only[g26];simp only[g1N,bne_eq_false_iff_eq,decide_eq_false_iff_not]at hc;obtain⟨q,hq,hql,hqm,hqe⟩:=a78 n;cases hx:a0q n with
  |mk x o=>
  rw[hx]at hq hqe;have hq:x={n with i5:=q}:=hq;have hn:NI {n with i5:=q}:=h.queue (by have:=h.ql;omega) λe he=>h.qs e (hqm e he)
  subst hq;cases o with
  |none=>exact⟨hn,rfl,by simp⟩
  |some e=>
   have he:=(hqe e rfl).right h;simp only[a4k];have ho:Own n:=by
    rcases h.ld with q|q|q|q
    ·omega
    ·omega
    ·exact q.2.1
    ·omega
   cases hcs:N7 n.Acc n.b5 (O n.a9:Int) e with
   |none=>exact⟨hn.down,rfl,by simp⟩
   |some a=>
    have hac:=hn.cast (b:=n.b5) (s:=(O n.a9:Int)) (e:=e) hcs;obtain⟨k,hk,hk40,_,h1,h2,h3,rfl⟩:=b29 hcs;refine⟨⟨h.id,hac.pr,hac.vl,hac.vs,h.kl,h.ks,h.sq,hn.ql,hn.qs,?_,h.wt⟩,rfl,a8B h.id (.accept ⟨h1,h2⟩ (by omega) he) (by simp only;omega)⟩;refine .inr (.inr (.inr ⟨rfl,⟨ho.b1,ho.b2,ho.mod,g1g _,ho.bl,ho.bs⟩,?_,he,(b8k h.id).1,(b8k h.id).2,by simp only;omega⟩));rcases h.ld with q|q|q|q
    ·omega
    ·omega
    ·exact q.2.2.1
    ·omega
 ·exact .same h
def NI.know{n:m4}(h:NI n){e:p9}(he:B7 e=Y)(hl:(O n.a9)<40):NI (C6 n e):=by
 have hks:∀x∈n.a9++[e],B7 x=Y:=by
  intro x hx;rcases g0Z.1 hx with q|q
  ·exact h.ks x q
  ·rw[g03.1 q];exact he
 have hkl:(n.a9++[e]).length<=40:=by simp;omega
 unfold C6;by_cases p3:n.d6=3
 ·rw[show(n.d6==3)=Y by simpa using p3];refine⟨h.id,h.pr,h.vl,h.vs,hkl,hks,h.sq,h.ql,h.qs,?_,h.wt⟩;rcases h.ld with q|q|q|q
  ·omega
  ·omega
  ·omega
  ·exact .inr (.inr (.inl ⟨rfl,⟨q.2.1.b1,q.2.1.b2,q.2.1.mod,q.2.1.pr,q.2.1.bl,q.2.1.bs⟩,q.2.2.1,rfl,rfl⟩))
 ·rw[show(n.d6==3)=W by simpa using p3];refine⟨h.id,h.pr,h.vl,h.vs,hkl,hks,h.sq,h.ql,h.qs,?_,h.wt⟩;rcases h.ld with q|q|q|q
  ·exact .inl q
  ·exact .inr (.inl ⟨q.1,⟨q.2.1.b1,q.2.1.b2,q.2.1.mod,q.2.1.pr,q.2.1.bl,q.2.1.bs⟩,q.2.2⟩)
  ·exact .inr (.inr (.inl ⟨q.1,⟨q.2.1.b1,q.2.1.b2,q.2.1.mod,q.2.1.pr,q.2.1.bl,q.2.1.bs⟩,q.2.2⟩))
  ·exact absurd q.1 p3
def e8z{s:A4}{e:p9}(hn:e.j9=W):0<=(apply s e).2/\(apply s e).2<=4:=by
 have hf:0<=(T5 s e).2/\(T5 s e).2<=4:=by
  unfold T5;cases a18 s.j4 e.g8
  ·exact⟨by simp,by simp⟩
  ·cases e.g8.Code==0<;>exact⟨by simp,by simp⟩
 unfold apply;rw[hn];simp only[g26];cases s.l7.find? λd=>d.b6.i0==e.b6.i0 with
 |none=>exact hf
 |some d=>
  simp only;cases d.b6.Seq==e.b6.Seq
  ·cases decide (d.b6.Seq>e.b6.Seq)
   ·exact hf
   ·exact⟨by simp,by simp⟩
  ·exact⟨by simp,by simp⟩
def b3V{l:List p9}{q:u0}{k:Nat}(h:l.findIdx? (I9 q)=U k):∃hk:k<(O l),l[k].j9=W/\l[k].b6=q:=by
 rw[g1T]at h;obtain⟨hk,h1,_⟩:=h;unfold I9 at h1;simp only[g02,g1D]at h1;exact⟨hk,h1.1,b1n.1 h1.2⟩
def c8a{l:List p9}(h:K1 l=Y){k:Nat}(hk:k<(O l)):W0 l k=(apply (w9 (l.take k)).1 l[k]).2:=by
 obtain⟨a,b⟩:=a2f h;unfold W0;rw[d7X a b hk];rfl
def e7E{l:List p9}(h:∀e∈l,B7 e=Y)(q:u0):-1000000<=a0a l q/\a0a l q<=1000000:=by
 unfold a0a;cases hf:l.findIdx? (I9 q)with
 |none=>exact⟨by simp,by simp⟩
 |some k=>
  obtain⟨hk,h1,h2⟩:=b3V hf;simp only[g0Y hk];exact(a4r (a42 (h _ (g01 hk)) h1).2.2.1).2.1
def c9r{n:m4}(h:NI n):NI (K7 n).1/\∀t∈(K7 n).2,Z8 t=Y:=by
 rcases b02 n with q|⟨k,hb,hk,q⟩<;>rw[q]
 ·exact⟨h,by simp⟩
 ·refine⟨h.freeN,λt ht => ?_⟩;obtain⟨hkl,h1,h2⟩:=b3V hk;have ht:=g03.1 ht;subst ht;have hw:n.d9.b6=⟨n.Id,n.Seq⟩/\B7 n.d9=Y/\n.d9.j9=W:=by
   rcases h.wt with q|q
   ·exact⟨q.2.2.2.2,q.2.2.1,q.2.2.2.1⟩
   ·rw[hb]at q;cases q.1
  obtain⟨w1,w2,_⟩:=a42 hw.2.1 hw.2.2;have hc:=e8z (s:=(w9 (n.a9.take k)).1) h1;rw[<-c8a h.list hkl]at hc;have hv:=e7E h.ks n.d9.b6;unfold Z8;simp only[g02,I1,beq_iff_eq];refine⟨h.id,⟨w1,w2⟩,by rw[hw.1],hc,?_⟩;cases W0 n.a9 k==0
  ·exact⟨by simp,by simp⟩
  ·exact hv
structure a7s(n:m4)(x:m4×List m9×List s8):Prop where
 ni:NI x.1
 id:x.1.Id=n.Id
 ms:∀m∈x.2.1,MI m
 ts:∀t∈x.2.2,Z8 t=Y
def Y6.three{n:m4}{x:m4×List m9}(h:Y6 n x):a7s n (x.1,x.2,[]):=⟨h.ni,h.id,h.ms,by simp⟩
def a7s.same{n:m4}(h:NI n):a7s n (n,[],[]):=⟨h,rfl,by simp,by simp⟩
def d0A{n:m4}(h:NI n){e:p9}(he:B7 e=Y)(hl:(O n.a9)<40):a7s n (V5 n e):=by
 have h1:=h.know he hl;obtain⟨h2,h3⟩:=c9r h1;have h4:=b2e h2;exact⟨h4.ni,h4.id.trans ((d8j _).trans (c2G _ _)),h4.ms,h3⟩
def e2c{a:B4}{b:Int}(h:J6 a b=Z)(hb:1<=b/\b<=3000):b<a.i7:=by
 by_cases q:a.i7<=b
 ·rw[b4f hb.1 hb.2 q]at h;cases h
 ·omega
def d3I{n:m4}(h:NI n){m:m9}(hm:MI m)(hk:m.b7=1):Y6 n (a0N n m):=by
 have hb:1<=m.b5/\m.b5<=3000:=by
  rcases hm.kd with q|q|q|q|q|q|q
  ·exact q.2.1
  all_goals exact absurd q.1 (by omega)
 have hs:=hm.sl;unfold a0N;cases hp:J6 n.Acc m.b5 with
 |none=>
  have:=e2c hp hb;refine⟨h,rfl,λx hx => ?_⟩;rw[g03.1 hx];exact b08 hm (.refuse (by have:=h.pr;omega)) (by simp)
 |some a=>
  have hn:=(h.promise hp).yield m.b5;obtain⟨rfl,_⟩:=a2K hp;refine⟨hn,?_,λx hx => ?_⟩
  ·simp only[L3];cases n.d6 != 0&&decide (m.b5>n.b5)<;>rfl
  ·rw[g03.1 hx];have hvl:=h.vl;refine b08 hm (.inr (.inl ⟨rfl,hb,rfl,⟨by simp;omega,λv hv=>(h.vs v (g10 hv)).1⟩,by simp;omega⟩)) hs
def a8s(n:m4)(b:Int):(L3 n b).Id=n.Id:=by
 unfold L3;cases n.d6 != 0&&decide (b>n.b5)<;>rfl
def e3w{a:B4}{b:Int}{k:Nat}{e:p9}(h:N7 a b (k:Int) e=Z)(hk:k<40)(he:B7 e=Y)(hb:1<=b/\b<=3000):b<a.i7:=by
 by_cases q:a.i7<=b
 ·rw[c8i hk he hb.1 hb.2 q]at h;cases h
 ·omega
def c89{n:m4}(h:NI n){m:m9}(hm:MI m)(hk:m.b7=3):Y6 n (a0H n m):=by
 have hb:(1<=m.b5/\m.b5<=3000)/\m.i6<40/\B7 m.i9=Y:=by
  rcases hm.kd with q|q|q|q|q|q|q
  ·omega
  ·omega
  ·exact⟨q.2.1,q.2.2.1,q.2.2.2.1⟩
  all_goals exact absurd q.1 (by omega)
 have hs:=hm.sl;obtain⟨k,hsk⟩:∃k:Nat,m.i6=(k:Int):=⟨m.i6.toNat,by omega⟩
 unfold a0H;cases hp:N7 n.Acc m.b5 m.i6 m.i9 with
 |none=>
  rw[hsk]at hp;have:=e3w hp (by omega) hb.2.2 hb.1;refine⟨h,rfl,λx hx => ?_⟩;rw[g03.1 hx];exact b08 hm (.refuse (by have:=h.pr;omega)) (by simp)
 |some a=>
  refine⟨(h.cast hp).yield m.b5,a8s _ _,λx hx => ?_⟩;rw[g03.1 hx];exact b08 hm (.one (.inr rfl) hb.1) hs
def c4G{n:m4}(h:NI n){m:m9}(hm:MI m)(hk:m.b7=2):Y6 n (Y8 n m):=by
 have hkd:((O m.b8)<=40/\∀v∈m.b8,VI v)/\m.i6+(O m.b8)<=40:=by
  rcases hm.kd with q|q|q|q|q|q|q
  ·omega
  ·exact⟨q.2.2.2.1,q.2.2.2.2⟩
  all_goals exact absurd q.1 (by omega)
 have hs:=hm.sl;have hf:=hm.fr;unfold Y8;cases hc:n.d6 != 1||m.b5 != n.b5
 ·simp only[g1N,bne_eq_false_iff_eq]at hc;simp only[g26];have hl:Own n/\(O n.d7)=3/\n.d7[n.Id.toNat]?=U Y/\n.g9=zE/\n.b8=[]:=by
   rcases h.ld with q|q|q|q
   ·omega
   ·exact q.2
   all_goals exact absurd q.1 (by omega)
  have hbl:=a7y n.j5 (g00 m.i6.toNat v0++m.b8);have hob:=hl.1.bl;have hlen:(g00 m.i6.toNat v0++m.b8).length<=40:=by simp;omega
  have hbs:∀v∈G2 n.j5 (g00 m.i6.toNat v0++m.b8),VI v:=λv hv=>(a8P hv).elim (λq=>hl.1.bs v q) (λq=>(g0Z.1 q).elim (λq=>by rw[(g1O.1 q).2];exact .inl rfl) (hkd.1.2 v))
  cases L1 (n.d7.set m.d7.toNat Y)
  ·simp only[g26];refine⟨⟨h.id,h.pr,h.vl,h.vs,h.kl,h.ks,h.sq,h.ql,h.qs,.inr (.inl ⟨hc.1,⟨hl.1.b1,hl.1.b2,hl.1.mod,hl.1.pr,by show(G2 _ _).length<=40;omega,hbs⟩,by simp[hl.2.1],?_,hl.2.2.2.1,hl.2.2.2.2⟩),h.wt⟩,rfl,by simp⟩;show(n.d7.set m.d7.toNat Y)[n.Id.toNat]?=U Y
   by_cases q:m.d7.toNat=n.Id.toNat
   ·rw[q,g18 (by have:=h.id;omega)]
   ·rw[g1k q];exact hl.2.2.1
  ·simp only[g25];refine Y6.to (n:=n) (n':={n with d7:=[],j5:=G2 n.j5 (g00 m.i6.toNat v0++m.b8),d6:=2}) rfl (b2e ?_);exact⟨h.id,h.pr,h.vl,h.vs,h.kl,h.ks,h.sq,h.ql,h.qs,.inr (.inr (.inl ⟨rfl,⟨hl.1.b1,hl.1.b2,hl.1.mod,hl.1.pr,by show(G2 _ _).length<=40;omega,hbs⟩,rfl,hl.2.2.2.1,hl.2.2.2.2⟩)),h.wt⟩
 ·exact .same h
def c8P{n:m4}(h:NI n){m:m9}(hm:MI m):a7s n (a0J n m):=by
 have hf:=hm.fr;unfold a0J;cases hc:n.d6 != 3||(m.b5 != n.b5||m.i6 != (O n.a9:Int))
 ·simp only[g1N,bne_eq_false_iff_eq]at hc;simp only[g26];have hl:Own n/\n.d7=[]/\B7 n.g9=Y/\(O n.b8)=3/\n.b8[n.Id.toNat]?=U Y/\(O n.a9)<40:=by
   rcases h.ld with q|q|q|q
   ·omega
   ·omega
   ·omega
   ·exact q.2
  have hn:NI {n with b8:=n.b8.set m.d7.toNat Y}:=by
   refine⟨h.id,h.pr,h.vl,h.vs,h.kl,h.ks,h.sq,h.ql,h.qs,.inr (.inr (.inr ⟨hc.1,⟨hl.1.b1,hl.1.b2,hl.1.mod,hl.1.pr,hl.1.bl,hl.1.bs⟩,hl.2.1,hl.2.2.1,by simp[hl.2.2.2.1],?_,hl.2.2.2.2.2⟩)),h.wt⟩;show(n.b8.set m.d7.toNat Y)[n.Id.toNat]?=U Y
   by_cases q:m.d7.toNat=n.Id.toNat
   ·rw[q,g18 (by have:=h.id;omega)]
   ·rw[g1k q];exact hl.2.2.2.2.1
  cases L1 (n.b8.set m.d7.toNat Y)
  ·exact⟨hn,rfl,by simp,by simp⟩
  ·simp only[g25];have hr:=d0A hn hl.2.2.1 hl.2.2.2.2.2;refine⟨hr.ni,hr.id,λx hx => ?_,hr.ts⟩;rcases g0Z.1 hx with q|q
   ·exact a8B h.id (.chosen (by omega) hl.2.2.1) (by simp only;omega) x q
   ·exact hr.ms x q
 ·exact .same h
def c9s{n:m4}(h:NI n){m:m9}(hm:MI m)(hk:m.b7=5):a7s n (a0K n m):=by
 have hkd:m.i6<40/\B7 m.i9=Y:=by
  rcases hm.kd with q|q|q|q|q|q|q
  ·omega
  ·omega
  ·omega
  ·exact⟨q.2.2.1,q.2.2.2.1⟩
  all_goals exact absurd q.1 (by omega)
 have hkl:=h.kl;unfold a0K;cases h1:decide (m.i6<(O n.a9:Int))
 ·cases h2:decide (m.i6>(O n.a9:Int))
  ·simp only[decide_eq_false_iff_not]at h1 h2;exact d0A h hkd.2 (by omega)
  ·refine⟨h,rfl,λx hx => ?_,by simp⟩;rw[g03.1 hx];exact b08 hm .need (by simp only;omega)
 ·exact .same h
def e26{n:m4}(h:NI n){m:m9}(hm:MI m)(hk:m.b7=7):Y6 n (Y9 n m):=by
 have hkd:B7 m.i9=Y/\m.i9.j9=W:=by
  rcases hm.kd with q|q|q|q|q|q|q
  ·omega
  ·omega
  ·omega
  ·omega
  ·omega
  ·exact⟨q.2.2.2.1,q.2.2.2.2.1⟩
  ·omega
 unfold Y9;cases hc:n.d6==0||(decide (4<=(O n.i5))||N3 n.a9 m.i9.b6)
 ·simp only[g26];simp only[g1N,decide_eq_false_iff_not]at hc;refine Y6.to (n:=n) (n':={n with i5:=n.i5++[m.i9]}) rfl (b2e (h.queue (by simp;omega) ?_));intro e he;rcases g0Z.1 he with q|q
  ·exact h.qs e q
  ·rw[g03.1 q];exact hkd
 ·exact .same h
def d49{n:m4}(h:NI n){m:m9}(hm:MI m):∀x∈W2 n m,MI x:=by
 intro x hx;unfold W2 at hx;obtain⟨l,hl,hx⟩:=g1H.1 hx;obtain⟨j,hj,rfl⟩:=g1m.1 hl;have hkl:=h.kl;unfold T0 at hx;cases hg:n.a9[m.i6.toNat+j]? with
 |none=>rw[hg]at hx;cases hx
 |some e=>
  rw[hg]at hx;have hlt:=(g06.1 hg).1;rw[g03.1 hx];exact b08 hm (.chosen (by omega) (h.ks e (g1e hg))) (by simp only;omega)
def b5F{n:m4}(h:NI n){m:m9}(hm:MI m):a7s n (D8 n m):=by
 unfold D8;by_cases k1:m.b7=1
 ·rw[show(m.b7==1)=Y by simpa using k1];exact(d3I h hm k1).three
 rw[show(m.b7==1)=W by simpa using k1];by_cases k2:m.b7=2
 ·rw[show(m.b7==2)=Y by simpa using k2];exact(c4G h hm k2).three
 rw[show(m.b7==2)=W by simpa using k2];by_cases k3:m.b7=3
 ·rw[show(m.b7==3)=Y by simpa using k3];exact(c89 h hm k3).three
 rw[show(m.b7==3)=W by simpa using k3];by_cases k4:m.b7=4
 ·rw[show(m.b7==4)=Y by simpa using k4];exact c8P h hm
 rw[show(m.b7==4)=W by simpa using k4];by_cases k5:m.b7=5
 ·rw[show(m.b7==5)=Y by simpa using k5];exact c9s h hm k5
 rw[show(m.b7==5)=W by simpa using k5];by_cases k6:m.b7=6
 ·rw[show(m.b7==6)=Y by simpa using k6];simp only[g25,g26];cases hp:J6 n.Acc m.b5 with
  |none=>exact⟨h.yield _,a8s _ _,by simp,by simp⟩
  |some a=>exact⟨(h.promise hp).yield _,a8s _ _,by simp,by simp⟩
 rw[show(m.b7==6)=W by simpa using k6];by_cases k7:m.b7=7
 ·rw[show(m.b7==7)=Y by simpa using k7];exact(e26 h hm k7).three
 rw[show(m.b7==7)=W by simpa using k7];cases m.b7==8
 ·exact .same h
 ·exact⟨h,rfl,d49 h hm,by simp⟩
structure f9j(n x:m4):Prop where
 id:x.Id=n.Id
 known:x.a9=n.a9
 seq:x.Seq=n.Seq
 busy:x.j6=n.j6
 prog:x.j8=n.j8
 want:x.d9=n.d9
def a9j(n:m4):f9j n (F8 n).1:=by
 unfold F8;cases n.d6 != 2||decide (40<=(O n.a9))
 ·simp only[g26];obtain⟨q,hq,_⟩:=a78 n;cases hx:a0q n with
  |mk x o=>
  rw[hx]at hq;have hq:x={n with i5:=q}:=hq;subst hq;cases o with
  |none=>exact⟨rfl,rfl,rfl,rfl,rfl,rfl⟩
  |some e=>
   simp only[a4k];cases N7 n.Acc n.b5 (O n.a9:Int) e<;>exact⟨rfl,rfl,rfl,rfl,rfl,rfl⟩
 ·exact⟨rfl,rfl,rfl,rfl,rfl,rfl⟩
def a3y(n:m4):List t7:=(w9 n.a9).1.j4
def b7q{n:m4}(h:NI n):H1 (a3y n)=Y:=by
 obtain⟨a,b⟩:=a2f h.list;have:=(Z6 a b (O n.a9) (g07 _)).1.boxes;rwa[g1n]at this
def e7U{n:m4}(h:NI n):b9T n=U (w9 n.a9).1:=by
 unfold b9T;rw[b2X h.ok,g0X,a2y.2 h];simp only[g04,g26];rw[f0N (okEntries.f h.ok.2.2.1) h.list];rfl
def f2i{l:List t7}{p:List t8}(h:(E9 l p).Code≠3):H8 p=Y:=by
 unfold E9 at h;cases hp:H8 p
 ·rw[hp,Bool.and_false]at h;exact absurd rfl h
 ·rfl
def T7(n:m4)(prog:List t8):m4:={n with Seq:=n.Seq+1,j6:=Y,j8:=prog,d9:=⟨W,⟨n.Id,n.Seq+1⟩,E9 (a3y n) prog⟩}
def O2(n:m4)(prog:List t8):Bool := !(n.j6||(n.Seq==1000||(E9 (a3y n) prog).Code==3))
def b8Z{n:m4}{prog:List t8}:O2 n prog=Y↔n.j6=W/\n.Seq≠1000/\(E9 (a3y n) prog).Code≠3:=by
 unfold O2;simp
def b3h{n:m4}(h:NI n){prog:List t8}(hp:z4 prog)(hc:O2 n prog=Y):B7 (T7 n prog).d9=Y/\H8 prog=Y:=by
 obtain⟨h1,h2,h3⟩:=b8Z.1 hc;have hr:=(c4m (b7q h) hp).ok;have hs:=h.sq;have hid:=h.id;refine⟨?_,f2i h3⟩;unfold B7 T7;simp only[g26,g02,I1,hr,true_and,bne_iff_ne,ne_eq];exact⟨⟨hid,by omega⟩,h3⟩
def NI.asked{n:m4}(h:NI n){prog:List t8}(hp:z4 prog)(hc:O2 n prog=Y):NI (T7 n prog):=by
 obtain⟨h1,h2,h3⟩:=b8Z.1 hc;obtain⟨h4,h5⟩:=b3h h hp hc;have hs:=h.sq;exact⟨h.id,h.pr,h.vl,h.vs,h.kl,h.ks,by show 0<=n.Seq+1/\n.Seq+1<=1000;omega,h.ql,h.qs,h.ld,.inl ⟨rfl,h5,h4,rfl,rfl⟩⟩
def a12(n:m4)(prog:List t8):N4 n prog=bif O2 n prog then bif n.d6==2 then F8 (T7 n prog)else(T7 n prog,bif n.d6==0 then G4 n.Id ⟨7,0,0,0,0,(T7 n prog).d9,[]⟩else [])else(n,[]):=by
 unfold N4 O2 T7 a3y;cases n.j6||(n.Seq==1000||(E9 (w9 n.a9).1.j4 prog).Code==3)<;>rfl
def e8q{n:m4}(h:NI n){prog:List t8}(hp:C4 32 okT prog):b7s n prog=U ((N4 n prog).1,(N4 n prog).2,[]):=by
 have hf:z4 prog:=hp.fits (by decide);have hs:=h.sq;unfold b7s;rw[b2X h.ok,g0X,a2y.2 h,b3m h.ok,e7U h,a12];simp only[g04,g26,g0X];rw[show(w9 n.a9).1.j4=a3y n from rfl,e8B (a59 (b7q h)) hf,g0X];cases hb:n.j6
 ·cases hq:n.Seq==1000
  ·cases hc:(E9 (a3y n) prog).Code==3
   ·have hca:O2 n prog=Y:=by unfold O2;rw[hb,hq,hc];rfl
    have hn:=h.asked hf hca;rw[hca];simp only[g25,g26];rw[A6 (by have:=hp.1;simp;omega),F6 (by omega) (by omega)];cases h2:n.d6==2
    ·cases h0:n.d6==0
     ·rfl
     ·simp only[g26,g25];rw[a8b h.id (show a1L ⟨7,0,0,0,0,⟨W,⟨n.Id,n.Seq+1⟩,E9 (a3y n) prog⟩,[]⟩from a9w (C3 (by omega)) a1N a1N (a4G (b3h h hf hca).1) a0b)];rfl
    ·simp only[g25];rw[show(⟨n.Id,n.Acc,n.a9,n.Seq+1,n.d6,n.b5,n.d7,n.j5,n.g9,n.b8,Y,[]++prog,⟨W,⟨n.Id,n.Seq+1⟩,E9 (a3y n) prog⟩,n.i5⟩:m4)=T7 n prog from rfl,b4D hn.ok hn.id,g0X]
   ·have hca:O2 n prog=W:=by unfold O2;rw[hb,hq,hc];rfl
    rw[hca];rfl
  ·have hca:O2 n prog=W:=by unfold O2;rw[hb,hq];rfl
   rw[hca];rfl
 ·have hca:O2 n prog=W:=by unfold O2;rw[hb];rfl
  rw[hca];rfl
def b0N{n:m4}(h:NI n){prog:List t8}(hp:z4 prog):Y6 n (N4 n prog):=by
 rw[a12];cases hc:O2 n prog
 ·exact .same h
 ·have hn:=h.asked hp hc;simp only[g25];cases n.d6==2
  ·refine⟨hn,rfl,λx hx => ?_⟩;simp only[g26]at hx;cases h0:n.d6==0
   ·rw[h0]at hx;cases hx
   ·rw[h0]at hx;exact a8B h.id (.ask (b3h h hp hc).1 rfl) (by simp) x hx
  ·exact Y6.to (n:=n) (n':=T7 n prog) rfl (b2e hn)
def b3Z{b who:Int}(hb:0<=b/\b<=3000)(hw:0<=who/\who<=2):M5 b who=-1\/(b<M5 b who/\M5 b who<=b+3/\M5 b who<=3000/\g1w (M5 b who) 3=who):=by
 unfold M5;cases h1:decide (b+1<=3000)&&(g1w (b+1) 3==who)
 ·cases h2:decide (b+2<=3000)&&(g1w (b+2) 3==who)
  ·cases h3:decide (b+3<=3000)&&(g1w (b+3) 3==who)
   ·exact .inl rfl
   ·simp only[g02,decide_eq_true_eq,beq_iff_eq]at h3;exact .inr ⟨by simp only[g25,g26];omega,by simp only[g25,g26];omega,h3.1,h3.2⟩
  ·simp only[g02,decide_eq_true_eq,beq_iff_eq]at h2;exact .inr ⟨by simp only[g25,g26];omega,by simp only[g25,g26];omega,h2.1,h2.2⟩
 ·simp only[g02,decide_eq_true_eq,beq_iff_eq]at h1;exact .inr ⟨by simp only[g25,g26];omega,by simp only[g25,g26];omega,h1.1,h1.2⟩
def f6y{n:m4}(h:NI n):c06 n=U (P9 n):=by
 unfold c06 P9;rw[b2X h.ok,g0X,a2y.2 h,b3m h.ok];simp only[g04,g26,g0X];rw[e5v h.pr h.id,g0X];cases hd:decide (M5 n.Acc.i7 n.Id<0)
 ·simp only[decide_eq_false_iff_not]at hd;rcases b3Z h.pr h.id with q|⟨q1,q2,q3,q4⟩
  ·omega
  ·have hpr:=h.pr;have hkl:=h.kl;obtain⟨y,hy⟩:=c7P h.id;simp only[g26,b6r,g0X,b9H,b4f (a:=n.Acc) (show 1<=M5 n.Acc.i7 n.Id by omega) q3 (by omega),hy,e0I h.ok.2.1.2];rw[A6 (by omega),A6 trivial,a8b h.id (a9w (C3 (by omega)) (C3 (by omega)) (C3 (by omega)) a2J a0b)];rfl
 ·rfl
def b1Y{n:m4}(h:NI n):Y6 n (P9 n):=by
 unfold P9;cases hd:decide (M5 n.Acc.i7 n.Id<0)
 ·simp only[decide_eq_false_iff_not]at hd;have hpr:=h.pr;have hkl:=h.kl;rcases b3Z h.pr h.id with q|⟨q1,q2,q3,q4⟩
  ·omega
  ·obtain⟨m1,m2⟩:=b8k h.id;refine⟨⟨h.id,⟨by simp only[g26];omega,q3⟩,h.vl,λv hv=>⟨(h.vs v hv).1,g1S (h.vs v hv).2 (Int.le_of_lt q1)⟩,h.kl,h.ks,h.sq,h.ql,h.qs,.inr (.inl ⟨rfl,⟨by simp only[g26];omega,q3,q4,g1g _,h.vl,λv hv=>(h.vs v hv).1⟩,m1,m2,rfl,rfl⟩),h.wt⟩,rfl,?_⟩;exact a8B h.id (.one (.inl rfl) ⟨by omega,q3⟩) (by simp only;omega)
 ·exact .same h
def d0O{k b s:Int}(hk:0<=k/\k<=8)(hb:0<=b/\b<=3000)(hs:0<=s/\s<=40):a1L ⟨k,0,0,b,s,zE,[]⟩:=a9w (C3 (by omega)) (C3 (by omega)) (C3 (by omega)) a2J a0b
def f2Q{n:m4}(h:NI n):b7f n=U ((K5 n).1,(K5 n).2,[]):=by
 have hkl:=h.kl;have hb:=h.ld.bal;have l1:=a2b n.Id ⟨8,0,0,0,(O n.a9:Int),zE,[]⟩;unfold b7f K5;rw[b2X h.ok,g0X,a2y.2 h,b3m h.ok];simp only[g04,g26,g0X];rw[a8b h.id (d0O (by omega) (by omega) (by omega)),g0X];cases h1:n.d6==1
 ·cases h2:n.d6==2
  ·cases h3:n.d6==3
   ·cases hbz:n.j6
    ·rfl
    ·simp only[g25,g26];have l2:=a2b n.Id ⟨7,0,0,0,0,n.d9,[]⟩;have hw:I5 n.d9:=h.ok.2.2.2.2.2.2.2.2.2.2.2.1;rw[a8b h.id (a9w (C3 (by omega)) a1N a1N hw a0b),g0X,A6 (by omega)];rfl
   ·simp only[g25,g26];have l2:=a2b n.Id ⟨3,0,0,n.b5,(O n.a9:Int),n.g9,[]⟩;rw[a8b h.id (a9w (C3 (by omega)) (C3 (by omega)) (C3 (by omega)) h.ld.from3.2.2 a0b),g0X,A6 (by omega)];rfl
  ·simp only[g25,g26];have l2:=a8Q n;rw[b4D h.ok h.id,g0X,A6 (by omega)];rfl
 ·simp only[g25,g26];have l2:=a2b n.Id ⟨1,0,0,n.b5,(O n.a9:Int),zE,[]⟩;rw[a8b h.id (d0O (by omega) (by omega) (by omega)),g0X,A6 (by omega)];rfl
def b2E{n:m4}(h:NI n):Y6 n (K5 n):=by
 have hkl:=h.kl;have hb:=h.ld.bal;have a1:∀x∈G4 n.Id ⟨8,0,0,0,(O n.a9:Int),zE,[]⟩,MI x:=a8B h.id .need (by simp only;omega)
 have L1:∀{l:List m9},(∀x∈l,MI x)->∀x∈G4 n.Id ⟨8,0,0,0,(O n.a9:Int),zE,[]⟩++l,MI x:=by
  intro l hl x hx;rcases g0Z.1 hx with q|q
  ·exact a1 x q
  ·exact hl x q
 unfold K5;by_cases h1:n.d6=1
 ·rw[show(n.d6==1)=Y by simpa using h1];refine⟨h,rfl,L1 (a8B h.id (.one (.inl rfl) ?_) (by simp only;omega))⟩;rcases h.ld with q|q|q|q
  ·omega
  ·exact⟨q.2.1.b1,q.2.1.b2⟩
  all_goals exact absurd q.1 (by omega)
 rw[show(n.d6==1)=W by simpa using h1];by_cases h2:n.d6=2
 ·rw[show(n.d6==2)=Y by simpa using h2];have:=b2e h;exact⟨this.ni,this.id,L1 this.ms⟩
 rw[show(n.d6==2)=W by simpa using h2];by_cases h3:n.d6=3
 ·rw[show(n.d6==3)=Y by simpa using h3];rcases h.ld with q|q|q|q
  ·omega
  ·omega
  ·omega
  ·exact⟨h,rfl,L1 (a8B h.id (.accept ⟨q.2.1.b1,q.2.1.b2⟩ (by omega) q.2.2.2.1) (by simp only;omega))⟩
 rw[show(n.d6==3)=W by simpa using h3];cases hbz:n.j6
 ·exact⟨h,rfl,a1⟩
 ·rcases h.wt with q|q
  ·exact⟨h,rfl,L1 (a8B h.id (.ask q.2.2.1 q.2.2.2.1) (by simp))⟩
  ·rw[hbz]at q;cases q.1
def e64{n:m4}(h:NI n):c0n n=U (U5 n):=by
 unfold c0n;rw[b2X h.ok,g0X,a2y.2 h,b3m h.ok];rfl
def NI.open{id:Int}(h:0<=id/\id<=2):NI (E6 id):=
 ⟨h,⟨by simp[E6],by simp[E6]⟩,by simp[E6],by simp[E6],by simp[E6],by simp[E6],⟨by simp[E6],by simp[E6]⟩,by simp[E6],by simp[E6],.inl ⟨rfl,rfl,rfl,rfl,rfl,rfl⟩,.inr ⟨rfl,rfl,rfl⟩⟩
def NI.fall{n:m4}(h:NI n):NI (U5 n):=
 ⟨h.id,h.pr,h.vl,h.vs,h.kl,h.ks,h.sq,by simp[U5,E6],by simp[U5,E6],.inl ⟨rfl,rfl,rfl,rfl,rfl,rfl⟩,.inr ⟨rfl,rfl,rfl⟩⟩
def d5D{l:List m9}(hl:z4 l)(ho:∀m∈l,a1L m):∀(d k:Nat) (net:List m9),(O l)-k=d->u5 (λs:(List m9)×Int=>a38 l s.1 s.2) (net,(k:Int))=U (.brk (net++(l.drop k).take (40-(O net))))
 | 0,k,net,hd=>by
  rw[g1r (by omega)];refine(F3 (b:=net) ?_).trans (by simp);show a38 l net (k:Int)=_
  unfold a38;rw[show decide ((k:Int)<(O l:Int))=W by simp;omega];rfl
 |d+1,k,net,hd=>by
  have hlt:k<(O l):=by omega
  by_cases hn:(O net)<40
  ·have hb:a38 l net (k:Int)=U (.nxt (net++[l[k]],((k+1:Nat):Int))):=by
    unfold a38;rw[B0 _ k hlt,show decide ((O net:Int)<40)=Y by simp;omega,g25,g25,z8 hlt,g0X,c1h (ho _ (g01 hlt)),g0X,A6 (by omega),J0 hl hlt]
   rw[G7 (body:=λs:(List m9)×Int=>a38 l s.1 s.2) (s:=(net,(k:Int))) hb,d5D hl ho d (k+1) _ (by omega),g1q hlt];rw[show 40-(O net)=(40-(net++[l[k]]).length)+1 by simp;omega,g2s,g1d];rfl
  ·refine(F3 (b:=net) ?_).trans (by rw[show 40-(O net)=0 by omega];simp);show a38 l net (k:Int)=_
   unfold a38;rw[B0 _ k hlt,show decide ((O net:Int)<40)=W by simp;omega];rfl
def a7e(w:m6){l:List m9}(hl:z4 l)(ho:∀m∈l,a1L m):a4b w l=U (U3 w l):=by
 unfold a4b;rw[show u5 (λs:(List m9)×Int=>a38 l s.1 s.2) (w.c9,0)=_ from d5D hl ho (O l) 0 w.c9 rfl];rfl
def d9F{l:List s8}(hl:z4 l):∀(d k:Nat) (o:List s8),(O l)-k=d->u5 (λs:(List s8)×Int=>a4Y l s.1 s.2) (o,(k:Int))=U (.brk (o++(l.drop k).take (60-(O o))))
 | 0,k,o,hd=>by
  rw[g1r (by omega)];refine(F3 (b:=o) ?_).trans (by simp);show a4Y l o (k:Int)=_
  unfold a4Y;rw[show decide ((k:Int)<(O l:Int))=W by simp;omega];rfl
 |d+1,k,o,hd=>by
  have hlt:k<(O l):=by omega
  by_cases hn:(O o)<60
  ·have hb:a4Y l o (k:Int)=U (.nxt (o++[l[k]],((k+1:Nat):Int))):=by
    unfold a4Y;rw[B0 _ k hlt,show decide ((O o:Int)<60)=Y by simp;omega,g25,g25,z8 hlt,g0X,A6 (by omega),J0 hl hlt]
   rw[G7 (body:=λs:(List s8)×Int=>a4Y l s.1 s.2) (s:=(o,(k:Int))) hb,d9F hl d (k+1) _ (by omega),g1q hlt];rw[show 60-(O o)=(60-(o++[l[k]]).length)+1 by simp;omega,g2s,g1d];rfl
  ·refine(F3 (b:=o) ?_).trans (by rw[show 60-(O o)=0 by omega];simp);show a4Y l o (k:Int)=_
   unfold a4Y;rw[B0 _ k hlt,show decide ((O o:Int)<60)=W by simp;omega];rfl
def b0s(w:m6){l:List s8}(hl:z4 l):a5t w l=U (a6x w l):=by
 unfold a5t;rw[show u5 (λs:(List s8)×Int=>a4Y l s.1 s.2) (w.Told,0)=_ from d9F hl (O l) 0 w.Told rfl];rfl
def a4y(w:m6):a6x w []=w:=by
 unfold a6x;simp
def c2V(w:m6):U3 w []=w:=by
 unfold U3;simp
def e8s{w:m6}{k:Nat}(hk:k<(O w.c9))(hl:(O w.c9)<=40):b49 w (k:Int)=U (a2H w (k:Int)):=by
 unfold b49 a2H;rw[A6 (by omega),A6 (by simp;omega),F6 (by omega) (by omega),A6 (by omega),A6 (by simp;omega)];simp only[g1z,g2n,g2a,Nat.sub_zero,g1p,g1U,show((k:Int)+1).toNat=k+1 by omega];rw[g1A (l:=w.c9.drop (k+1)) (by simp)]
def a4P{w:m6}(h:WI w){i:Nat}(hi:i<3):∃n,w.b9[i]?=U n/\E8 w (i:Int)=n/\n.Id=(i:Int)/\NI n/\i<(O w.b9):=by
 have hl:=h.nl;have hg:=g0Y (l:=w.b9) (i:=i) (by omega);obtain⟨h1,h2⟩:=h.ns i _ hg;refine⟨_,hg,?_,h1,h2,by omega⟩;unfold E8;rw[g1p,g1f,hg];rfl
def WI.put{w:m6}(h:WI w){i:Nat}{n:m4}(hid:n.Id=(i:Int))(hn:NI n):WI (J9 w (i:Int) n):=by
 refine⟨by simp[J9,h.nl],?_,h.ml,h.ms,h.al,h.aq,h.tl,h.ts⟩;intro j m hm;simp only[J9,g1p]at hm;by_cases q:i=j
 ·subst q;have hlt:=(g06.1 hm).1;rw[g2b]at hlt;rw[g18 hlt]at hm;injection hm with hm;subst hm;exact⟨hid,hn⟩
 ·rw[g1k q]at hm;exact h.ns j m hm
def WI.send{w:m6}(h:WI w){l:List m9}(hl:∀m∈l,MI m):WI (U3 w l):=by
 have:=h.ml;refine⟨h.nl,h.ns,by simp only[U3,g08,g1l];omega,?_,h.al,h.aq,h.tl,h.ts⟩;intro m hm;rcases g0Z.1 hm with q|q
 ·exact h.ms m q
 ·exact hl m (g1M q)
def WI.tell{w:m6}(h:WI w){l:List s8}(hl:∀t∈l,Z8 t=Y):WI (a6x w l):=by
 have:=h.tl;refine⟨h.nl,h.ns,h.ml,h.ms,h.al,h.aq,by simp only[a6x,g08,g1l];omega,?_⟩;intro m hm;rcases g0Z.1 hm with q|q
 ·exact h.ts m q
 ·exact hl m (g1M q)
def WI.off{w:m6}(h:WI w)(i:Int):WI (a2H w i):=by
 have:=h.ml;refine⟨h.nl,h.ns,by simp only[a2H,g08,g1l,g2H];omega,?_,h.al,h.aq,h.tl,h.ts⟩;intro m hm;rcases g0Z.1 hm with q|q
 ·exact h.ms m (g1M q)
 ·exact h.ms m (g10 q)
def b19{l:List m9}(h:(O l)<=100):z4 l:=by unfold z4;omega
def c2Q(n:m4)(p:List t8):(N4 n p).2.length<=3:=by
 rw[a12];cases O2 n p
 ·simp
 ·cases n.d6==2
  ·cases n.d6==0
   ·simp
   ·exact a2b _ _
  ·exact a8Q _
def MI.okl{l:List m9}(h:∀m∈l,MI m):∀m∈l,a1L m:=λm hm=>(h m hm).ok
def c4g(n:m4)(p:List t8):decide ((N4 n p).1.Seq>n.Seq)=O2 n p:=by
 rw[a12];cases O2 n p
 ·simp
 ·simp only[g25];cases n.d6==2
  ·simp[T7];omega
  ·have:=(a9j (T7 n p)).seq;simp only[g25,this];simp[T7];omega
def b8x{n:m4}{p:List t8}(h:O2 n p=Y):(N4 n p).1.d9=(T7 n p).d9:=by
 rw[a12,h];simp only[g25];cases n.d6==2
 ·rfl
 ·exact(a9j (T7 n p)).want
def e0H(w:m6)(a:B2):m6:={w with i4:=w.i4++[a]}
def WI.addAsked{w:m6}(h:WI w){a:B2}(hl:(O w.i4)<60)(ha:a06 a=Y):WI (e0H w a):=by
 refine⟨h.nl,h.ns,h.ml,h.ms,by simp only[e0H,g08,g1Q];omega,?_,h.tl,h.ts⟩;intro x hx;rcases g0Z.1 hx with q|q
 ·exact h.aq x q
 ·rw[g03.1 q];exact ha
def f1j{w:m6}(h:WI w){i:Nat}(hi:i<3){p:List t8}(hp:C4 32 okT p):c1c w (i:Int) p=U (a4J w (i:Int) p)/\WI (a4J w (i:Int) p):=by
 obtain⟨n,hg,hn,hid,hni,hlt⟩:=a4P h hi;have hf:z4 p:=hp.fits (by decide);have hr:=b0N hni hf;have hln:=c2Q n p;have hms:=MI.okl hr.ms;have hal:=h.al;unfold c1c a4J;rw[hn,show decide ((O w.i4:Int)>=60)=decide (60<=(O w.i4)) by simp;omega,a66,hg,g0X,e8q hni hp,g0X];cases hd:decide (60<=(O w.i4))
 ·simp only[g26];simp only[decide_eq_false_iff_not]at hd;rw[c4g];cases hc:O2 n p
  ·simp only[g26];rw[a7e _ (b19 (by omega)) hms,g0X,b0s _ (by simp[z4]),a4y];exact⟨rfl,(h.put (hr.id.trans hid) hr.ni).send hr.ms⟩
  ·simp only[g25];rw[A6 (by have:=hp.1;simp;omega),A6 (by omega),a7e _ (b19 (by omega)) hms,g0X,b0s _ (by simp[z4]),a4y];refine⟨rfl,WI.send (w:=J9 (e0H w ⟨(N4 n p).1.d9.b6,p⟩) (i:Int) (N4 n p).1) (WI.put (w:=e0H w ⟨(N4 n p).1.d9.b6,p⟩) (h.addAsked (by omega) ?_) (hr.id.trans hid) hr.ni) hr.ms⟩;rw[b8x hc];obtain⟨w1,w2⟩:=b3h hni hf hc;obtain⟨c1,c2,c3⟩:=b8Z.1 hc;unfold a06;have:=hni.id;have:=hni.sq;simp only[g02,I1,w2,and_true];show(0<=n.Id/\n.Id<=2)/\1<=n.Seq+1/\n.Seq+1<=1000
   omega
 ·exact⟨rfl,h⟩
def c1X{n:m4}(h:NI n)(m:m9):(D8 n m).2.1.length<=60/\(D8 n m).2.2.length<=1:=by
 have hkl:=h.kl;have al:∀n:m4,(K7 n).2.length<=1:=λn=>by
  rcases b02 n with q|⟨k,_,_,q⟩<;>rw[q]<;>simp
 have ll:∀(n:m4) (e:p9),(V5 n e).2.1.length<=3/\(V5 n e).2.2.length<=1:=λn e=>⟨a8Q _,al _⟩
 have nl:(W2 n m).length<=40:=by
  unfold W2;have:∀d k:Nat,((g09 d).map λj=>T0 n m (k+j)).flatten.length<=d:=by
   intro d k;rw[List.length_flatten,g2o];have hs:∀(l:List Nat),((l.map (List.length ∘ λj=>T0 n m (k+j))).sum)<=(O l):=by
    intro l;induction l with
    |nil=>simp
    |cons x l ih=>
     simp only[g1v,List.sum_cons,g1G,Function.comp];have:(T0 n m (k+x)).length<=1:=by
      unfold T0;cases n.a9[k+x]?<;>simp
     omega
   have:=hs (g09 d);rwa[List.length_range]at this
  have:=this ((O n.a9)-m.i6.toNat) m.i6.toNat;omega
 unfold D8;cases m.b7==1
 ·cases m.b7==2
  ·cases m.b7==3
   ·cases m.b7==4
    ·cases m.b7==5
     ·cases m.b7==6
      ·cases m.b7==7
       ·cases m.b7==8
        ·exact⟨by simp,by simp⟩
        ·exact⟨by simp only[g25,g26];omega,by simp⟩
       ·refine⟨?_,by simp⟩;simp only[g25,g26,Y9];cases n.d6==0||(decide (4<=(O n.i5))||N3 n.a9 m.i9.b6)
        ·exact g1C (a8Q _) (by omega)
        ·simp
      ·exact⟨by simp,by simp⟩
     ·simp only[g25,g26,a0K];cases decide (m.i6<(O n.a9:Int))
      ·cases decide (m.i6>(O n.a9:Int))
       ·have:=ll n m.i9;exact⟨by simp only[g26];omega,by simp only[g26];omega⟩
       ·exact⟨by simp,by simp⟩
      ·exact⟨by simp,by simp⟩
    ·simp only[g25,g26,a0J];cases n.d6 != 3||(m.b5 != n.b5||m.i6 != (O n.a9:Int))
     ·cases L1 (n.b8.set m.d7.toNat Y)
      ·exact⟨by simp,by simp⟩
      ·have h1:=ll {n with b8:=n.b8.set m.d7.toNat Y} n.g9;have h2:=a2b n.Id ⟨5,0,0,0,(O n.a9:Int),n.g9,[]⟩;exact⟨by simp only[g25,g26,g08];omega,by simp only[g25,g26];omega⟩
     ·exact⟨by simp,by simp⟩
   ·refine⟨?_,by simp⟩;simp only[g25,g26,a0H];cases N7 n.Acc m.b5 m.i6 m.i9<;>simp
  ·refine⟨?_,by simp⟩;simp only[g25,g26,Y8];cases n.d6 != 1||m.b5 != n.b5
   ·cases L1 (n.d7.set m.d7.toNat Y)
    ·simp
    ·exact g1C (a8Q _) (by omega)
   ·simp
 ·refine⟨?_,by simp⟩;simp only[g25,a0N];cases J6 n.Acc m.b5<;>simp
def f0d{w:m6}(h:WI w)(e:v6):b0T w e=U (a0P w e)/\WI (a0P w e):=by
 have hml:=h.ml;unfold b0T a0P;by_cases h0:e.A<0
 ·rw[show decide (e.A<0)=Y by simpa using h0,show decide (0<=e.A)=W by simp;omega];exact⟨rfl,h⟩
 ·obtain⟨k,hk⟩:∃k:Nat,e.A=(k:Int):=⟨e.A.toNat,by omega⟩
  rw[hk,show decide ((k:Int)<0)=W by simp,show decide (0<=(k:Int))=Y by simp,g1p];simp only[g25,g26];by_cases hl:k<(O w.c9)
  ·rw[show decide ((k:Int)>=(O w.c9:Int))=W by simp;omega,z8 hl,g0Y hl];have hm:=h.ms _ (g01 hl);generalize w.c9[k]=m at hm;simp only[g26,g0X,c1h hm.ok];cases e.b7==4
   ·simp only[g26];rw[e8s hl hml];cases e.b7==3
    ·simp only[g26,g0X];have ho:=h.off (k:Int);have ht:=hm.to;obtain⟨t,htt⟩:∃t:Nat,m.To=(t:Int):=⟨m.To.toNat,by omega⟩
     obtain⟨n,hg,hn,hid,hni,hlt⟩:=a4P ho (i:=t) (by omega);have hn':E8 w (t:Int)=n:=hn;have hr:=b5F hni hm;obtain⟨l1,l2⟩:=c1X hni m;rw[htt,a66,hg,g0X,g0A hni hm,g0X,hn'];rw[a7e _ (b19 (by omega)) (MI.okl hr.ms),g0X,b0s _ (by unfold z4;omega)];exact⟨rfl,((ho.put (hr.id.trans hid) hr.ni).send hr.ms).tell hr.ts⟩
    ·exact⟨rfl,h.off _⟩
   ·simp only[g25];have hs:∀x∈[m],MI x:=λx hx=>by rw[g03.1 hx];exact hm
    rw[a7e _ (b19 (by simp)) (MI.okl hs)];exact⟨rfl,h.send hs⟩
  ·rw[show decide ((k:Int)>=(O w.c9:Int))=Y by simp;omega,g1s (by omega)];exact⟨rfl,h⟩
def O0(e:v6):Prop:=C4 32 okT e.j8
def c22(n:m4):(K5 n).2.length<=6:=by
 have l0:=a2b n.Id ⟨8,0,0,0,(O n.a9:Int),zE,[]⟩;unfold K5;cases n.d6==1
 ·cases n.d6==2
  ·cases n.d6==3
   ·cases n.j6
    ·simp only[g26];omega
    ·have:=a2b n.Id ⟨7,0,0,0,0,n.d9,[]⟩;simp only[g25,g26,g08];omega
   ·have:=a2b n.Id ⟨3,0,0,n.b5,(O n.a9:Int),n.g9,[]⟩;simp only[g25,g26,g08];omega
  ·have:=a8Q n;simp only[g25,g26,g08];omega
 ·have:=a2b n.Id ⟨1,0,0,n.b5,(O n.a9:Int),zE,[]⟩;simp only[g25,g08];omega
def c03(n:m4):(P9 n).2.length<=3:=by
 unfold P9;cases decide (M5 n.Acc.i7 n.Id<0)
 ·exact a2b _ _
 ·simp
def c3c{w:m6}{i:Nat}{n:m4}(h:w.b9[i]?=U n):J9 w (i:Int) n=w:=by
 unfold J9;rw[g1p];obtain⟨hi,rfl⟩:=g06.1 h;rw[g2S]
def e9K{w:m6}(h:WI w){i:Nat}(hi:i<3){p:List t8}(hp:C4 32 okT p):WI (a4J w (i:Int) p):=by
 obtain⟨n,hg,hn,hid,hni,hlt⟩:=a4P h hi;have hf:z4 p:=hp.fits (by decide);have hr:=b0N hni hf;unfold a4J;rw[hn];cases hd:decide (60<=(O w.i4))
 ·simp only[g26];simp only[decide_eq_false_iff_not]at hd;rw[c4g];cases hc:O2 n p
  ·simp only[g26];exact(h.put (hr.id.trans hid) hr.ni).send hr.ms
  ·simp only[g25];refine WI.send (w:=J9 (e0H w ⟨(N4 n p).1.d9.b6,p⟩) (i:Int) (N4 n p).1) (WI.put (w:=e0H w ⟨(N4 n p).1.d9.b6,p⟩) (h.addAsked (by omega) ?_) (hr.id.trans hid) hr.ni) hr.ms;rw[b8x hc];obtain⟨w1,w2⟩:=b3h hni hf hc;obtain⟨c1,c2,c3⟩:=b8Z.1 hc;unfold a06;have:=hni.id;have:=hni.sq;simp only[g02,I1,w2,and_true];show(0<=n.Id/\n.Id<=2)/\1<=n.Seq+1/\n.Seq+1<=1000
   omega
 ·exact h
def f0S{w:m6}(h:WI w)(e:v6):WI (a0P w e):=by
 unfold a0P;by_cases h0:e.A<0
 ·rw[show decide (0<=e.A)=W by simp;omega];exact h
 ·obtain⟨k,hk⟩:∃k:Nat,e.A=(k:Int):=⟨e.A.toNat,by omega⟩
  rw[hk,show decide (0<=(k:Int))=Y by simp,g1p];simp only[g25];by_cases hl:k<(O w.c9)
  ·rw[g0Y hl];have hm:=h.ms _ (g01 hl);generalize w.c9[k]=m at hm;simp only;cases e.b7==4
   ·simp only[g26];cases e.b7==3
    ·simp only[g26];have ho:=h.off (k:Int);have ht:=hm.to;obtain⟨t,htt⟩:∃t:Nat,m.To=(t:Int):=⟨m.To.toNat,by omega⟩
     obtain⟨n,hg,hn,hid,hni,hlt⟩:=a4P ho (i:=t) (by omega);have hn':E8 w (t:Int)=n:=hn;have hr:=b5F hni hm;rw[htt,hn'];exact((ho.put (hr.id.trans hid) hr.ni).send hr.ms).tell hr.ts
    ·exact h.off _
   ·simp only[g25];have hs:∀x∈[m],MI x:=λx hx=>by rw[g03.1 hx];exact hm
    exact h.send hs
  ·rw[g1s (by omega)];exact h
def Y7{w:m6}(h:WI w){e:v6}(he:C4 32 okT e.j8):WI (t6 w e):=by
 have n2:=f0S h e;unfold t6;cases e.b7==2||(e.b7==3||e.b7==4)
 ·simp only[g26];cases hA:v5 e.A 0 2
  ·exact h
  rw[I1]at hA;obtain⟨i,hi⟩:∃i:Nat,e.A=(i:Int):=⟨e.A.toNat,by omega⟩
  obtain⟨n,hg,hn,hid,hni,hlt⟩:=a4P h (i:=i) (by omega);rw[hi,hn];simp only[g04,g26];cases e.b7==1
  ·cases e.b7==5
   ·cases e.b7==6
    ·cases e.b7==7
     ·exact h
     ·exact h.put hid hni.fall
    ·have hr:=b2E hni;exact(h.put (hr.id.trans hid) hr.ni).send hr.ms
   ·have hr:=b1Y hni;exact(h.put (hr.id.trans hid) hr.ni).send hr.ms
  ·exact e9K h (by omega) he
 ·exact n2
def c3t{w:m6}(h:WI w){e:v6}(he:O0 e):b0O w e=U (t6 w e)/\WI (t6 w e):=by
 obtain⟨n1,n2⟩:=f0d h e;unfold b0O t6;rw[n1];cases e.b7==2
 ·cases e.b7==3
  ·cases e.b7==4
   ·simp only[g26,Bool.or_self];by_cases h0:e.A<0
    ·rw[show decide (e.A<0)=Y by simpa using h0,show v5 e.A 0 2=W by unfold v5;simp;omega];exact⟨rfl,h⟩
    ·by_cases h3:e.A>=3
     ·rw[show decide (e.A<0)=W by simpa using h0,show decide (e.A>=3)=Y by simpa using h3,show v5 e.A 0 2=W by unfold v5;simp;omega];exact⟨rfl,h⟩
     ·obtain⟨i,hi⟩:∃i:Nat,e.A=(i:Int):=⟨e.A.toNat,by omega⟩
      rw[show decide (e.A<0)=W by simpa using h0,show decide (e.A>=3)=W by simpa using h3,show v5 e.A 0 2=Y by unfold v5;simp;omega,hi];simp only[g26,g04];obtain⟨n,hg,hn,hid,hni,hlt⟩:=a4P h (i:=i) (by omega);rw[a66,hg,g0X,hn];cases e.b7==1
      ·simp only[g26];cases e.b7==5
       ·simp only[g26];cases e.b7==6
        ·simp only[g26];cases e.b7==7
         ·simp only[g26];rw[a7e _ (by simp[z4]) (by simp),g0X,b0s _ (by simp[z4]),a4y,c2V];exact⟨congrArg U (c3c hg),h⟩
         ·simp only[g25];rw[e64 hni,g0X,a7e _ (by simp[z4]) (by simp),g0X,b0s _ (by simp[z4]),a4y,c2V];exact⟨rfl,h.put hid hni.fall⟩
        ·simp only[g25];have hr:=b2E hni;have hl:=c22 n;rw[f2Q hni,g0X,a7e _ (b19 (by omega)) (MI.okl hr.ms),g0X,b0s _ (by simp[z4]),a4y];exact⟨rfl,(h.put (hr.id.trans hid) hr.ni).send hr.ms⟩
       ·simp only[g25];have hr:=b1Y hni;have hl:=c03 n;rw[f6y hni,g0X,a7e _ (b19 (by omega)) (MI.okl hr.ms),g0X,b0s _ (by simp[z4]),a4y];exact⟨rfl,(h.put (hr.id.trans hid) hr.ni).send hr.ms⟩
      ·simp only[g25];obtain⟨a1,a2⟩:=f1j h (i:=i) (by omega) he;unfold c4e;rw[hi,show(⟨w.b9.set (i:Int).toNat n,w.c9,w.i4,w.Told⟩:m6)=w from c3c hg,a1];exact⟨rfl,a2⟩
   ·exact⟨rfl,n2⟩
  ·exact⟨rfl,n2⟩
 ·exact⟨rfl,n2⟩
def WI.open:WI O7:=by
 refine⟨rfl,?_,by simp[O7],by simp[O7],by simp[O7],by simp[O7],by simp[O7],by simp[O7]⟩;intro i n hn;match i,hn with
 | 0,hn=>injection hn with hn;subst hn;exact⟨rfl,.open (by omega)⟩
 | 1,hn=>injection hn with hn;subst hn;exact⟨rfl,.open (by omega)⟩
 | 2,hn=>injection hn with hn;subst hn;exact⟨rfl,.open (by omega)⟩
 |i+3,hn=>simp[O7]at hn
def d7F:b3y=U O7:=by
 have e:∀(ns:List m4) (i:Nat),i<3->(O ns)<=3->a5x ns (i:Int)=U (.nxt (ns++[E6 (i:Int)],((i+1:Nat):Int))):=by
  intro ns i hi hn;unfold a5x c3S;rw[show decide ((i:Int)<3)=Y by simp;omega,show decide ((i:Int)<0)=W by simp,show decide ((i:Int)>=3)=W by simp;omega];simp only[g25,g26,g0X];rw[A6 (by omega),F6 (by omega) (by omega)];rfl
 have h0:=G7 (body:=λs:(List m4)×Int=>a5x s.1 s.2) (s:=([],((0:Nat):Int))) (e [] 0 (by omega) (by simp));have h1:=G7 (body:=λs:(List m4)×Int=>a5x s.1 s.2) (s:=([E6 0],((1:Nat):Int))) (e [E6 0] 1 (by omega) (by simp));have h2:=G7 (body:=λs:(List m4)×Int=>a5x s.1 s.2) (s:=([E6 0,E6 1],((2:Nat):Int))) (e [E6 0,E6 1] 2 (by omega) (by simp));have h3:=F3 (body:=λs:(List m4)×Int=>a5x s.1 s.2) (s:=([E6 0,E6 1,E6 2],((3:Nat):Int))) (show a5x [E6 0,E6 1,E6 2] 3=_ from rfl);unfold b3y;rw[show u5 (λs:(List m4)×Int=>a5x s.1 s.2) ([],0)=_ from h0.trans (h1.trans (h2.trans h3))];rfl
def d3c{w:m6}(h:WI w):∀{l:List v6},(∀e∈l,O0 e)->WI (a1x w l)
 | [],_=>h
 |e::l,he=>d3c (w:=t6 w e) (Y7 h (he e (by simp))) (l:=l) λx hx=>he x (by simp[hx])
def d2v{w:m6}(h:X6 w):b4z w=U w:=by
 obtain⟨h1,h2,h3,h4⟩:=h;have b1:=h1.1;have b2:=h2.1;have b3:=h3.1;unfold b4z;rw[A6 (b5q h4),a8r (body:=λs:(List m4)×Int=>b3i w s.1 s.2) w.b9 (h1.fits (by decide)) (λl=>l) (by
  intro k hk;have hn:((w.b9.take k).length+1)*392<=140737488355328:=g1C (g1x 392 (show(w.b9.take k).length+1<=(O w.b9) by rw[g1l];omega)) (g1C b1 (by decide));unfold b3i;rw[B0 _ k hk,z8 hk];simp only[g25,g0X,b3m (h1.2 _ (g01 hk)),A6 hn]) (by
  unfold b3i;rw[C1];rfl)]
 simp only[g0X,r9.go];unfold c5S;rw[a8r (body:=λs:(List m9)×Int=>b4Z w s.1 s.2) w.c9 (h2.fits (by decide)) (λl=>l) (by
  intro k hk;have hn:((w.c9.take k).length+1)*152<=140737488355328:=g1C (g1x 152 (show(w.c9.take k).length+1<=(O w.c9) by rw[g1l];omega)) (g1C b2 (by decide));unfold b4Z;rw[B0 _ k hk,z8 hk];simp only[g25,g0X,c1h (h2.2 _ (g01 hk)),A6 hn]) (by
  unfold b4Z;rw[C1];rfl)]
 simp only[g0X,r9.go];unfold c5c;rw[a8r (body:=λs:(List B2)×Int=>b4A w s.1 s.2) w.i4 (h3.fits (by decide)) (λl=>l) (by
  intro k hk;unfold b4A;have hp:=(h3.2 _ (g01 hk)).2;have hn:((w.i4.take k).length+1)*40<=140737488355328:=g1C (g1x 40 (show(w.i4.take k).length+1<=(O w.i4) by rw[g1l];omega)) (g1C b3 (by decide));rw[B0 _ k hk,z8 hk];simp only[g25,g0X,A6 (b5q hp),A6 hn,g1z]) (by
  unfold b4A;rw[C1];rfl)]
 rfl
def d5K{l:List v6}(hl:z4 l)(he:∀e∈l,O0 e):∀(d k:Nat) (w:m6),WI w->(O l)-k=d->u5 (λs:(List m4)×(List m9)×(List B2)×(List s8)×Int=>a6g l s.1 s.2.1 s.2.2.1 s.2.2.2.1 s.2.2.2.2) (w.b9,w.c9,w.i4,w.Told,(k:Int))=U (.brk ((a1x w (l.drop k)).b9,(a1x w (l.drop k)).c9,(a1x w (l.drop k)).i4,(a1x w (l.drop k)).Told))
 | 0,k,w,h,hd=>by
  rw[g1r (by omega)];refine F3 ?_;show a6g l w.b9 w.c9 w.i4 w.Told (k:Int)=_
  unfold a6g;rw[show decide ((k:Int)<(O l:Int))=W by simp;omega];rfl
 |d+1,k,w,h,hd=>by
  have hlt:k<(O l):=by omega
  obtain⟨h1,h2⟩:=c3t h (he _ (g01 hlt));have hb:a6g l w.b9 w.c9 w.i4 w.Told (k:Int)=U (.nxt ((t6 w l[k]).b9,(t6 w l[k]).c9,(t6 w l[k]).i4,(t6 w l[k]).Told,((k+1:Nat):Int))):=by
   unfold a6g;rw[B0 _ k hlt,z8 hlt,g25,g0X,show(⟨w.b9,w.c9,w.i4,w.Told⟩:m6)=w from rfl,h1,g0X,J0 hl hlt]
  rw[G7 (body:=λs:(List m4)×(List m9)×(List B2)×(List s8)×Int=>a6g l s.1 s.2.1 s.2.2.1 s.2.2.2.1 s.2.2.2.2) (s:=(w.b9,w.c9,w.i4,w.Told,(k:Int))) hb,d5K hl he d (k+1) _ h2 (by omega),g1q hlt];rfl
def noW:m6:=⟨[],[],[],[]⟩
def e4U{w:m6}(h:X6 w){l:List v6}(hl:z4 l)(he:∀e∈l,O0 e):b6T w l=U (bif C8 w&&decide ((O l)<=400)then a1x w l else noW):=by
 unfold b6T;rw[d44 h,g0X,d2v h,show decide ((O l:Int)>400) = !decide ((O l)<=400)from b2s l 400];cases hw:C8 w
 ·rfl
 ·cases decide ((O l)<=400)
  ·rfl
  ·simp only[g04,g26,g0X,Bool.and_self,g25];rw[show u5 (λs:(List m4)×(List m9)×(List B2)×(List s8)×Int=>a6g l s.1 s.2.1 s.2.2.1 s.2.2.2.1 s.2.2.2.2) (w.b9,w.c9,w.i4,w.Told,0)=_ from d5K hl he (O l) 0 w (a0t.1 hw) rfl];rfl
def a0W{k a:Int}{p:List t8}(h:(O p)<=10):O0 ⟨k,a,p⟩:=⟨by show(O p)*32<=_;omega,λ_ _=>trivial⟩
def f6n(n:Int):∃v,b8O 1 n=U v:=by
 unfold b8O;cases decide ((1:Int)>n)<;>exact⟨_,rfl⟩
def e7l{r:z7}{m:Nat}(h:Rd r m)(hm:m<=1000000)(w:m6):∃e r',c1A r w=U (e,r',w)/\Rd r' (m+210)/\O0 e:=by
 obtain⟨v,hv⟩:=f6n (O w.c9:Int);obtain⟨a,r1,e1,h1,_⟩:=N2 h (by omega) v;obtain⟨b,r2,e2,h2,_⟩:=N2 h1 (by omega) 24;have ask:∃e r',((I7 r2 3).bind λp=>(a6N p.2).bind λq=>U (v6.mk 1 p.1 q.1,q.2,w))=U (e,r',w)/\Rd r' (m+210)/\O0 e:=by
  obtain⟨c,r3,e3,h3,_⟩:=N2 h2 (by omega) 3;obtain⟨p,r4,e4,h4,hp⟩:=c4j h3 (by omega);rw[e3,g0X,e4,g0X];exact⟨_,_,rfl,h4.mono (by omega),a0W hp⟩
 obtain⟨c3,r3,e3,h3,_⟩:=N2 h2 (by omega) 3;obtain⟨c4,r4,e4,h4,_⟩:=N2 h2 (by omega) 2;obtain⟨c5,r5,e5,h5,_⟩:=N2 h4 (by omega) 3;obtain⟨c6,r6,e6,h6,_⟩:=N2 h3 (by omega) 10;obtain⟨c7,r7,e7,h7,_⟩:=N2 h6 (by omega) 5;obtain⟨p,r8,e8,h8,hp⟩:=c4j h3 (by omega);have z:∀(k x:Int) (r:z7) (j:Nat),Rd r j->j<=m+210->∃e r',(U (v6.mk k x [],r,w):Option (v6×z7×m6))=U (e,r',w)/\Rd r' (m+210)/\O0 e:=λk x r j hr hj=>⟨_,_,rfl,hr.mono hj,a0W (by simp)⟩
 unfold c1A;rw[hv,g0X,e1,g0X,e2,g0X];simp only[e3,e4,e5,e6,e7,e8,g0X];cases b==0
 ·cases b==1
  ·cases b==2
   ·cases b==3
    ·cases b==4
     ·cases b==5
      ·cases b==6
       ·cases b==7
        ·cases b==8
         ·cases b==9
          ·cases b==10
           ·exact z _ _ _ _ h2 (by omega)
           ·cases c3==0
            ·exact z _ _ _ _ h3 (by omega)
            ·exact z _ _ _ _ h7 (by omega)
          ·exact z _ _ _ _ h2 (by omega)
         ·exact z _ _ _ _ h2 (by omega)
        ·cases c4==0
         ·exact z _ _ _ _ h4 (by omega)
         ·exact z _ _ _ _ h5 (by omega)
       ·exact z _ _ _ _ h3 (by omega)
      ·exact z _ _ _ _ h3 (by omega)
     ·exact z _ _ _ _ h3 (by omega)
    ·exact⟨_,_,rfl,h8.mono (by omega),a0W hp⟩
   ·exact⟨_,_,rfl,h8.mono (by omega),a0W hp⟩
  ·exact⟨_,_,rfl,h8.mono (by omega),a0W hp⟩
 ·exact⟨_,_,rfl,h8.mono (by omega),a0W hp⟩
structure Far(w:m6)(out:List v6)(b:Nat):Prop where
 w:WI w
 e:∀x∈out,O0 x
 l:(O out)<=b
def c85{out:List v6}{e:v6}(h:∀x∈out,O0 x)(he:O0 e):∀x∈out++[e],O0 x:=by
 intro x hx;rcases g0Z.1 hx with q|q
 ·exact h x q
 ·rw[g03.1 q];exact he
def a3Q{w:m6}{out:List v6}{b:Nat}(h:Far w out b)(hb:b<=1000){e:v6}(he:O0 e):a2F w out e=U (t6 w e,out++[e])/\Far (t6 w e) (out++[e]) (b+1):=by
 obtain⟨h1,h2⟩:=c3t h.w he;have hl:=h.l;unfold a2F;rw[h1,g0X,A6 (by omega)];exact⟨rfl,h2,c85 h.e he,by simp;omega⟩
def f0R{r:z7}{m:Nat}(h:Rd r m)(hm:m<=1000){w:m6}(hw:WI w){n:Nat}(hn:n<=90):∃l r',b7p r w (n:Int)=U (l,r')/\(∀e∈l,O0 e)/\(O l)<=90/\Rd r' 1000000:=by
 have hloop:=c4C (body:=λs:z7×(List v6)×(List s8)×(List B2)×(List m9)×(List m4)×Int=>c2F (n:Int) s.1 s.2.1 s.2.2.1 s.2.2.2.1 s.2.2.2.2.1 s.2.2.2.2.2.1 s.2.2.2.2.2.2)
  (λk s=>k<=n/\s.2.2.2.2.2.2=((n-k:Nat):Int)/\WI ⟨s.2.2.2.2.2.1,s.2.2.2.2.1,s.2.2.2.1,s.2.2.1⟩/\(∀e∈s.2.1,O0 e)/\(O s.2.1)=n-k/\Rd s.1 (m+210*(n-k)))
  (λx => ∃ (r':z7) (l:List v6),x=.brk (r',l)/\(∀e∈l,O0 e)/\(O l)<=90/\Rd r' 1000000) (by
   rintro k ⟨r1,out,told,asked,net,nodes,i⟩ ⟨hk,hi,hw,he,hl,hr⟩
   simp only at hi hw he hl hr;unfold c2F;rw[hi];cases k with
   |zero=>
    rw[show decide (((n-0:Nat):Int)<(n:Int))=W by simp];exact⟨_,rfl,_,_,rfl,he,by simp only;omega,hr.mono (by omega)⟩
   |succ k=>
    rw[show decide (((n-(k+1):Nat):Int)<(n:Int))=Y by simp;omega];obtain⟨e,r2,ee,hr2,hee⟩:=e7l hr (by omega) ⟨nodes,net,asked,told⟩;obtain⟨d1,d2⟩:=c3t hw hee;simp only[g25,ee,g0X];rw[A6 trivial,A6 trivial,A6 trivial,A6 trivial,A6 (by omega),d44 hw.ok,a0t.2 hw,d2v hw.ok];simp only[g0X,g25,d1,r9.go,c7z];refine⟨_,rfl,k,by omega,by omega,?_,d2,c85 he hee,by simp;omega,hr2.mono (by omega)⟩;rw[F6 (by omega) (by omega)];simp only;omega) (k:=n) (s:=(r,[],w.Told,w.i4,w.c9,w.b9,0)) ⟨g07 _,by simp,hw,by simp,by simp,by simpa using h⟩
 obtain⟨x,hx,r',l,rfl,h1,h2⟩:=hloop;unfold b7p;rw[hx];exact⟨l,r',rfl,h1,h2⟩
def e7i{w:m6}(h:0<(O w.c9)):t6 w ⟨3,0,[]⟩=a2H w 0:=by
 unfold t6 a0P;simp only[show((3:Int)==2)=W from rfl,show((3:Int)==3)=Y from rfl,show((3:Int)==4)=W from rfl,Bool.or_false,g1I,g25,g26,show decide ((0:Int)<=0)=Y from rfl,Int.toNat_zero];rw[g0Y h]
def f3e(w:m6)(a:Int)(p:List t8):(t6 w ⟨5,a,p⟩).c9.length<=(O w.c9)+3:=by
 unfold t6;simp only[show((5:Int)==2)=W from rfl,show((5:Int)==3)=W from rfl,show((5:Int)==4)=W from rfl,show((5:Int)==1)=W from rfl,show((5:Int)==5)=Y from rfl,Bool.or_false,g25,g26];cases !v5 a 0 2
 ·have:=c03 (E8 w a);simp only[g26,U3,J9,g08,g1l];omega
 ·simp
def d2k{b:Nat}:∀(d:Nat) (w:m6) (out:List v6),(O w.c9)=d->Far w out b->b+d<=1000->∃w' out',u5 (λs:(List v6)×(List m4)×(List m9)×(List B2)×List s8=>a8u s.1 s.2.1 s.2.2.1 s.2.2.2.1 s.2.2.2.2) (out,w.b9,w.c9,w.i4,w.Told)=U (.brk (out',w'.b9,w'.c9,w'.i4,w'.Told))/\w'.c9=[]/\Far w' out' (b+d)
 | 0,w,out,hd,h,hb=>by
  refine⟨w,out,F3 ?_,g1c hd,h⟩;show a8u out w.b9 w.c9 w.i4 w.Told=_
  unfold a8u;rw[show decide ((O w.c9:Int)>0)=W from decide_eq_false (by omega)];rfl
 |d+1,w,out,hd,h,hb=>by
  obtain⟨t1,t2⟩:=a3Q h (by omega) (e:=⟨3,0,[]⟩) (a0W (by simp));have hs:a8u out w.b9 w.c9 w.i4 w.Told=U (.nxt (out++[⟨3,0,[]⟩],(t6 w ⟨3,0,[]⟩).b9,(t6 w ⟨3,0,[]⟩).c9,(t6 w ⟨3,0,[]⟩).i4,(t6 w ⟨3,0,[]⟩).Told)):=by
   unfold a8u;rw[show decide ((O w.c9:Int)>0)=Y from decide_eq_true (by omega),g25,show(⟨w.b9,w.c9,w.i4,w.Told⟩:m6)=w from rfl,t1];rfl
  rw[G7 (body:=λs:(List v6)×(List m4)×(List m9)×(List B2)×List s8=>a8u s.1 s.2.1 s.2.2.1 s.2.2.2.1 s.2.2.2.2) (s:=(out,w.b9,w.c9,w.i4,w.Told)) hs];obtain⟨w',out',e1,e2,e3⟩:=d2k (b:=b+1) d (t6 w ⟨3,0,[]⟩) _ (by rw[e7i (by omega)];simp[a2H];omega) t2 (by omega);exact⟨w',out',e1,e2,⟨e3.w,e3.e,by have:=e3.l;omega⟩⟩
def d40{p:Int×z7}{B:Nat}(hB:B<=900):∀(i:Nat) (w:m6) (out:List v6) (b:Nat),Far w out b->b+(O w.c9)+4*i<=B->i<=100->∃w' out',u5 (λs:(List s8)×(List B2)×(List m9)×(List m4)×(List v6)×Int=>b1g p s.1 s.2.1 s.2.2.1 s.2.2.2.1 s.2.2.2.2.1 s.2.2.2.2.2) (w.Told,w.i4,w.c9,w.b9,out,(i:Int))=U (.brk (out',w'.b9,w'.c9,w'.i4,w'.Told))/\Far w' out' B
 | 0,w,out,b,h,hb,hi=>by
  refine⟨w,out,F3 ?_,h.w,h.e,by have:=h.l;omega⟩;rfl
 |i+1,w,out,b,h,hb,hi=>by
  obtain⟨w1,out1,e1,e2,e3⟩:=d2k (b:=b) (O w.c9) w out rfl h (by omega);obtain⟨t1,t2⟩:=a3Q e3 (by omega) (e:=⟨5,p.1,[]⟩) (a0W (by simp));have hs:b1g p w.Told w.i4 w.c9 w.b9 out ((i+1:Nat):Int)=U (.nxt ((t6 w1 ⟨5,p.1,[]⟩).Told,(t6 w1 ⟨5,p.1,[]⟩).i4,(t6 w1 ⟨5,p.1,[]⟩).c9,(t6 w1 ⟨5,p.1,[]⟩).b9,out1++[⟨5,p.1,[]⟩],(i:Int))):=by
   unfold b1g;rw[show decide (((i+1:Nat):Int)>0)=Y from decide_eq_true (by omega),g25,e1];simp only[g0X,r9.go,c5H];rw[show(⟨w1.b9,w1.c9,w1.i4,w1.Told⟩:m6)=w1 from rfl,t1,g0X,F6 (by omega) (by omega),show((i+1:Nat):Int)-1=(i:Int) by omega]
  rw[G7 (body:=λs:(List s8)×(List B2)×(List m9)×(List m4)×(List v6)×Int=>b1g p s.1 s.2.1 s.2.2.1 s.2.2.2.1 s.2.2.2.2.1 s.2.2.2.2.2) (s:=(w.Told,w.i4,w.c9,w.b9,out,((i+1:Nat):Int))) hs];have hn:=f3e w1 p.1 [];rw[e2]at hn;simp only[g2i,g1U]at hn;exact d40 hB i _ _ _ t2 (by omega) (by omega)
def f4f{r:z7}{m:Nat}(h:Rd r m)(hm:m<=1000){w:m6}{out:List v6}(hw:Far w out 1):∃w' out' r',b9l r w out=U (w',out',r')/\Far w' out' 130/\Rd r' (m+3):=by
 obtain⟨a,r1,e1,h1,_⟩:=N2 h (by omega) 3;obtain⟨v,r2,e2,h2,hv⟩:=b4X h1 (by omega) [3,8,20] (by simp) (by simp);obtain⟨i,hi,hi20⟩:∃i:Nat,v=(i:Int)/\i<=20:=by
  simp at hv;rcases hv with rfl|rfl|rfl
  ·exact⟨3,rfl,by omega⟩
  ·exact⟨8,rfl,by omega⟩
  ·exact⟨20,rfl,by omega⟩
 have hml:=hw.w.ml;obtain⟨w',out',e3,e4⟩:=d40 (p:=(a,r1)) (B:=125) (by omega) i w out 1 hw (by omega) (by omega);have e4':Far w' out' 125:=e4;unfold b9l;rw[e1,g0X,e2,g0X,hi,e3];simp only[g0X,r9.go,c8d];cases decide ((O w'.c9:Int)>0)
 ·simp only[g26,g0X,r9.go,c0l];obtain⟨t1,t2⟩:=a3Q e4' (by omega) (e:=⟨7,a,[]⟩) (a0W (by simp));rw[show(⟨w'.b9,w'.c9,w'.i4,w'.Told⟩:m6)=w' from rfl,t1];exact⟨_,_,_,rfl,⟨t2.w,t2.e,by have:=t2.l;simp only;omega⟩,h2.mono (by omega)⟩
 ·obtain⟨c,r3,e5,h5,_⟩:=N2 h2 (by omega) (O w'.c9:Int);obtain⟨t1,t2⟩:=a3Q e4' (by omega) (e:=⟨2,c,[]⟩) (a0W (by simp));obtain⟨u1,u2⟩:=a3Q t2 (by omega) (e:=⟨7,a,[]⟩) (a0W (by simp));simp only[g25,e5,g0X];rw[show(⟨w'.b9,w'.c9,w'.i4,w'.Told⟩:m6)=w' from rfl,t1];simp only[g0X,r9.go,c0l];rw[show(⟨(t6 w' ⟨2,c,[]⟩).b9,(t6 w' ⟨2,c,[]⟩).c9,(t6 w' ⟨2,c,[]⟩).i4,(t6 w' ⟨2,c,[]⟩).Told⟩:m6)=t6 w' ⟨2,c,[]⟩from rfl,u1];exact⟨_,_,_,rfl,⟨u2.w,u2.e,by have:=u2.l;simp only;omega⟩,h5.mono (by omega)⟩
def e3W{M:Nat}(hM:M<=100000){r:z7}{w:m6}{out:List v6}(h:Far w out 290)(hr:Rd r (M+10*(O out))):∃w' out' r',u5 (λs:z7×(List m4)×(List m9)×(List B2)×(List s8)×List v6=>b5A s.1 s.2.1 s.2.2.1 s.2.2.2.1 s.2.2.2.2.1 s.2.2.2.2.2) (r,w.b9,w.c9,w.i4,w.Told,out)=U (.brk (r',w'.b9,w'.c9,w'.i4,w'.Told,out'))/\Far w' out' (max (O out) 201)/\Rd r' (M+10*(O out')+2):=by
 have hloop:=c4C (body:=λs:z7×(List m4)×(List m9)×(List B2)×(List s8)×List v6=>b5A s.1 s.2.1 s.2.2.1 s.2.2.2.1 s.2.2.2.2.1 s.2.2.2.2.2)
  (λk s => ∃w:m6,s.2=(w.b9,w.c9,w.i4,w.Told,s.2.2.2.2.2)/\Far w s.2.2.2.2.2 (max (O out) 201)/\k=300-(O s.2.2.2.2.2)/\Rd s.1 (M+10*(O s.2.2.2.2.2)))
  (λx => ∃ (w':m6) (out':List v6) (r':z7),x=.brk (r',w'.b9,w'.c9,w'.i4,w'.Told,out')/\Far w' out' (max (O out) 201)/\Rd r' (M+10*(O out')+2)) (by
   rintro k ⟨r1,s⟩ ⟨w1,hs,hf,hk,hr1⟩
   simp only at hs hf hk hr1;obtain⟨nodes,net,asked,told,o⟩:=s;simp only at hs hf hk hr1;injection hs with e1 e2;injection e2 with e2 e3;injection e3 with e3 e4;injection e4 with e4 e5;subst e1;subst e2;subst e3;subst e4;have hl:=hf.l;have hol:=h.l;unfold b5A;cases decide ((O w1.c9:Int)>0)
   ·exact⟨_,rfl,w1,o,r1,rfl,hf,hr1.mono (by omega)⟩
   ·obtain⟨a,r2,p1,p2,_⟩:=N2 hr1 (by omega) 9;simp only[g25,p1,g0X];cases decide (a>0)
    ·exact⟨_,rfl,w1,o,r2,rfl,hf,p2.mono (by omega)⟩
    ·simp only[g25];by_cases h200:(O o)<200
     ·rw[show decide ((O o:Int)<200)=Y from decide_eq_true (by omega)];obtain⟨b,r3,q1,q2,_⟩:=N2 p2 (by omega) 8;have go:∀(w2:m6) (o2:List v6) (r4:z7) (j:Nat),Far w2 o2 (max (O out) 201)->(O o2)<=200->Rd r4 j->j<=M+10*(O o2)+4->(O o)<=(O o2)->∃st,b8H r4 w2.b9 w2.c9 w2.i4 w2.Told o2=U st/\match st with
        | .ret _=>False
        | .brk _=>False
        | .nxt t => ∃k',k'<k/\∃w:m6,t.2=(w.b9,w.c9,w.i4,w.Told,t.2.2.2.2.2)/\Far w t.2.2.2.2.2 (max (O out) 201)/\k'=300-(O t.2.2.2.2.2)/\Rd t.1 (M+10*(O t.2.2.2.2.2)):=by
       intro w2 o2 r4 j hf2 ho2 hr4 hj hle;obtain⟨c,r5,x1,x2,_⟩:=N2 hr4 (by omega) (O w2.c9:Int);obtain⟨d,r6,y1,y2,_⟩:=b4X x2 (by omega) [0,0,c] (by simp) (by simp);obtain⟨t1,t2⟩:=a3Q (b:=200) ⟨hf2.w,hf2.e,ho2⟩ (by omega) (e:=⟨2,d,[]⟩) (a0W (by simp));unfold b8H;rw[x1,g0X,y1,g0X,show(⟨w2.b9,w2.c9,w2.i4,w2.Told⟩:m6)=w2 from rfl,t1];refine⟨_,rfl,300-(o2++[(⟨2,d,[]⟩:v6)]).length,by simp;omega,t6 w2 ⟨2,d,[]⟩,rfl,⟨t2.w,t2.e,by simp;omega⟩,rfl,y2.mono (by simp;omega)⟩
      simp only[g25,q1,g0X];cases b==0
      ·obtain⟨st,g1,g2⟩:=go w1 o r3 _ hf (by omega) q2 (by omega) (g07 _);refine⟨st,g1,?_⟩;cases st with
       |ret _=>exact g2.elim
       |brk _=>exact g2.elim
       |nxt t=>exact g2
      ·obtain⟨c,r4,x1,x2,_⟩:=N2 q2 (by omega) (O w1.c9:Int);obtain⟨t1,t2⟩:=a3Q (b:=199) ⟨hf.w,hf.e,by omega⟩ (by omega) (e:=⟨4,c,[]⟩) (a0W (by simp));simp only[g25,x1,g0X];rw[show(⟨w1.b9,w1.c9,w1.i4,w1.Told⟩:m6)=w1 from rfl,t1];simp only[g0X,r9.go];have hl2:(o++[(⟨4,c,[]⟩:v6)]).length=(O o)+1:=by simp
       obtain⟨st,g1,g2⟩:=go (t6 w1 ⟨4,c,[]⟩) (o++[⟨4,c,[]⟩]) r4 _ ⟨t2.w,t2.e,by omega⟩ (by omega) x2 (by omega) (by omega);refine⟨st,g1,?_⟩;cases st with
       |ret _=>exact g2.elim
       |brk _=>exact g2.elim
       |nxt t=>exact g2
     ·rw[show decide ((O o:Int)<200)=W from decide_eq_false (by omega)];exact⟨_,rfl,w1,o,r2,rfl,hf,p2.mono (by omega)⟩) (k:=300-(O out)) (s:=(r,w.b9,w.c9,w.i4,w.Told,out)) ⟨w,rfl,⟨h.w,h.e,by simp only;omega⟩,rfl,hr⟩
 obtain⟨x,hx,w',out',r',rfl,h1,h2⟩:=hloop;exact⟨w',out',r',hx,h1,h2⟩
def d2c:∀(i:Nat) (r:z7) (w:m6) (out:List v6),i<=6->Far w out (201+3*(6-i))->Rd r (10000-1000*i+10*(O out))->∃r' out',u5 (λs:z7×(List m4)×(List m9)×(List B2)×(List s8)×(List v6)×Int=>b1q s.1 s.2.1 s.2.2.1 s.2.2.2.1 s.2.2.2.2.1 s.2.2.2.2.2.1 s.2.2.2.2.2.2) (r,w.b9,w.c9,w.i4,w.Told,out,(i:Int))=U (.brk (r',out'))/\(∀e∈out',O0 e)/\(O out')<=300/\Rd r' 1000000
 | 0,r,w,out,hi,h,hr=>⟨r,out,F3 rfl,h.e,by have:=h.l;omega,hr.mono (by have:=h.l;omega)⟩
 |i+1,r,w,out,hi,h,hr=>by
  have hl:=h.l;obtain⟨a,r1,p1,p2,_⟩:=N2 hr (by omega) 3;obtain⟨pr,r2,q1,q2,q3⟩:=c4j p2 (by omega);obtain⟨t1,t2⟩:=a3Q h (by omega) (e:=⟨1,a,pr⟩) (a0W q3);have hlen:(out++[(⟨1,a,pr⟩:v6)]).length=(O out)+1:=by simp
  obtain⟨w3,o3,r3,x1,x2,x3⟩:=e3W (M:=10000-1000*(i+1)+201) (by omega) (w:=t6 w ⟨1,a,pr⟩) (out:=out++[⟨1,a,pr⟩]) (r:=r2) ⟨t2.w,t2.e,by omega⟩ (q2.mono (by omega));have x2l:=x2.l;obtain⟨b,r4,y1,y2,_⟩:=N2 x3 (by omega) 4;have fin:∀(w4:m6) (o4:List v6) (r5:z7) (j:Nat),Far w4 o4 (201+3*(6-(i+1))+2)->Rd r5 j->j<=10000-1000*(i+1)+300+10*(O o4)->∃w5 o5 r6,c2h ((i+1:Nat):Int) r5 w4.b9 w4.c9 w4.i4 w4.Told o4=U (.nxt (r6,w5.b9,w5.c9,w5.i4,w5.Told,o5,(i:Int)))/\Far w5 o5 (201+3*(6-i))/\Rd r6 (10000-1000*i+10*(O o5)):=by
   intro w4 o4 r5 j hf hr5 hj;have hfl:=hf.l;obtain⟨c,r6,z1,z2,_⟩:=N2 hr5 (by omega) 3;obtain⟨u1,u2⟩:=a3Q hf (by omega) (e:=⟨6,c,[]⟩) (a0W (by simp));refine⟨t6 w4 ⟨6,c,[]⟩,o4++[⟨6,c,[]⟩],r6,?_,⟨u2.w,u2.e,by have:=u2.l;omega⟩,z2.mono (by simp;omega)⟩;unfold c2h;rw[z1,g0X,show(⟨w4.b9,w4.c9,w4.i4,w4.Told⟩:m6)=w4 from rfl,u1,g0X,F6 (by omega) (by omega),show((i+1:Nat):Int)-1=(i:Int) by omega]
  have hstep:∃w5 o5 r6,b1q r w.b9 w.c9 w.i4 w.Told out ((i+1:Nat):Int)=U (.nxt (r6,w5.b9,w5.c9,w5.i4,w5.Told,o5,(i:Int)))/\Far w5 o5 (201+3*(6-i))/\Rd r6 (10000-1000*i+10*(O o5)):=by
   unfold b1q;rw[show decide (((i+1:Nat):Int)>0)=Y from decide_eq_true (by omega),g25,p1,g0X,q1,g0X,show(⟨w.b9,w.c9,w.i4,w.Told⟩:m6)=w from rfl,t1,g0X,x1];simp only[g0X,r9.go];unfold c2X;rw[y1,g0X];cases b==0
   ·cases b==1
    ·simp only[g26,g0X,r9.go];exact fin w3 o3 r4 _ ⟨x2.w,x2.e,by omega⟩ y2 (by omega)
    ·obtain⟨c,r5,z1,z2,_⟩:=N2 y2 (by omega) 3;obtain⟨u1,u2⟩:=a3Q x2 (by omega) (e:=⟨5,c,[]⟩) (a0W (by simp));simp only[g26,g25,z1,g0X];rw[show(⟨w3.b9,w3.c9,w3.i4,w3.Told⟩:m6)=w3 from rfl,u1];simp only[g0X,r9.go];exact fin (t6 w3 ⟨5,c,[]⟩) _ r5 _ ⟨u2.w,u2.e,by have:=u2.l;omega⟩ z2 (by simp;omega)
   ·obtain⟨c,r5,z1,z2,_⟩:=N2 y2 (by omega) 3;obtain⟨u1,u2⟩:=a3Q x2 (by omega) (e:=⟨7,c,[]⟩) (a0W (by simp));simp only[g25,z1,g0X];rw[show(⟨w3.b9,w3.c9,w3.i4,w3.Told⟩:m6)=w3 from rfl,u1];simp only[g0X,r9.go];exact fin (t6 w3 ⟨7,c,[]⟩) _ r5 _ ⟨u2.w,u2.e,by have:=u2.l;omega⟩ z2 (by simp;omega)
  obtain⟨w5,o5,r6,s1,s2,s3⟩:=hstep;rw[G7 (body:=λs:z7×(List m4)×(List m9)×(List B2)×(List s8)×(List v6)×Int=>b1q s.1 s.2.1 s.2.2.1 s.2.2.2.1 s.2.2.2.2.1 s.2.2.2.2.2.1 s.2.2.2.2.2.2) (s:=(r,w.b9,w.c9,w.i4,w.Told,out,((i+1:Nat):Int))) s1];exact d2c i r6 w5 o5 (by omega) s2 s3
def e4E{r:z7}{m:Nat}(h:Rd r m)(hm:m<=100):∃l r',c05 r=U (l,r')/\(∀e∈l,O0 e)/\(O l)<=300/\Rd r' 1000000:=by
 obtain⟨a,r1,p1,p2,_⟩:=N2 h (by omega) 3;obtain⟨t1,t2⟩:=a3Q (w:=O7) (out:=[]) (b:=0) ⟨WI.open,by simp,by simp⟩ (by omega) (e:=⟨5,a,[]⟩) (a0W (by simp));obtain⟨b,r2,q1,q2,_⟩:=N2 p2 (by omega) 3;unfold c05;rw[d7F,g0X,p1,g0X,t1,g0X,q1,g0X];have tail:∀(w:m6) (out:List v6) (r3:z7) (j:Nat),Far w out 130->Rd r3 j->j<=200->∃l r',c2j r3 w.b9 w.c9 w.i4 w.Told out=U (l,r')/\(∀e∈l,O0 e)/\(O l)<=300/\Rd r' 1000000:=by
  intro w out r3 j hf hr3 hj;obtain⟨c,r4,x1,x2,x3,x4⟩:=N2 hr3 (by omega) 3;obtain⟨i,hi,hi6⟩:∃i:Nat,s6 (3+c)=(i:Int)/\i<=6:=⟨(3+c).toNat,by rw[F6 (by omega) (by omega)];omega,by omega⟩
  obtain⟨r',out',e1,e2,e3⟩:=d2c i r4 w out hi6 ⟨hf.w,hf.e,by have:=hf.l;omega⟩ (x2.mono (by omega));unfold c2j;rw[x1,g0X,hi,e1];exact⟨out',r',rfl,e2,e3⟩
 have tf:Far (t6 O7 ⟨5,a,[]⟩) ([]++[(⟨5,a,[]⟩:v6)]) 1:=t2;cases decide (b>0)
 ·obtain⟨c,r3,x1,x2,_⟩:=N2 q2 (by omega) 5;simp only[g26,x1,g0X];cases c==0
  ·exact tail _ _ r3 _ ⟨tf.w,tf.e,by simp⟩ x2 (by omega)
  ·obtain⟨w',o',r',y1,y2,y3⟩:=f4f x2 (by omega) tf;simp only[g25];rw[y1];exact tail w' o' r' _ y2 y3 (by omega)
 ·obtain⟨v,r3,x1,x2,x3⟩:=b4X q2 (by omega) [10,30,60,90] (by simp) (by simp);obtain⟨n,hn,hn90⟩:∃n:Nat,v=(n:Int)/\n<=90:=by
   simp at x3;rcases x3 with rfl|rfl|rfl|rfl
   ·exact⟨10,rfl,by omega⟩
   ·exact⟨30,rfl,by omega⟩
   ·exact⟨60,rfl,by omega⟩
   ·exact⟨90,rfl,by omega⟩
  obtain⟨l,r4,y1,y2,y3,y4⟩:=f0R x2 (by omega) tf.w hn90;simp only[g25,x1,g0X];rw[hn,y1,g0X,A6 (by simp;omega)];refine⟨_,_,rfl,?_,by simp;omega,y4⟩;intro e he;rcases g0Z.1 he with q|q
  ·exact tf.e e q
  ·exact y2 e q
def e50{code:List Int}(h:∀x∈code,a7b x):∃l,b48 code=U l/\(∀e∈l,O0 e)/\(O l)<=300:=by
 obtain⟨r,h1,h2⟩:=e2j h;obtain⟨l,r',e1,e2,e3,_⟩:=e4E h2 (by omega);unfold b48;rw[h1,g0X,e1];exact⟨l,rfl,e2,e3⟩
def a9y(e:p9)(v:s7):Bool:=decide (v.b5>0)&&S9 v.i9 e
def a2d(l:List m4)(s:Nat)(e:p9):Nat:=(l.filter λn=>a9y e (Y1 n s)).length
def f2x{l:List m4}(s:Nat)(e:p9){k:Nat}(hk:k<(O l)):a2d (l.take (k+1)) s e=a2d (l.take k) s e+(bif a9y e (Y1 l[k] s)then 1 else 0):=by
 unfold a2d;rw[g1u hk,List.filter_append,g08,List.filter_cons,List.filter_nil];cases a9y e (Y1 l[k] s)<;>rfl
def e9X(l:List m4)(s:Nat)(e:p9)(k:Nat):a2d (l.take k) s e<=k:=by
 unfold a2d;refine g1C (List.length_filter_le _ _) ?_;rw[g1l];omega
def e9e{w:m6}(h:X6 w)(hw:WI w)(s:Nat)(e:p9):b75 w (s:Int) e=U ((a2d w.b9 s e:Nat):Int):=by
 have hf:z4 w.b9:=h.1.fits (by decide);have hloop:=a0Y (body:=λt:Int×Int=>b2K w (s:Int) e t.1 t.2) (λk=>((k:Int),((a2d (w.b9.take k) s e:Nat):Int))) (O w.b9) (by
  intro k hk;have hb:=e9X w.b9 s e k;have hle:=hf;unfold z4 at hle;have hn:s6 (((a2d (w.b9.take k) s e:Nat):Int)+1)=((a2d (w.b9.take k) s e+1:Nat):Int):=by rw[F6 (by omega) (by omega)];omega
  have hni:=(hw.ns k w.b9[k] (g0Y hk)).2;simp only;unfold b2K c5y;rw[B0 _ k hk,z8 hk,J0 hf hk];simp only[g25,g0X,f2x s e hk];by_cases hs:s<w.b9[k].Acc.b8.length
  ·have hva:Y1 w.b9[k] s=w.b9[k].Acc.b8[s]:=by unfold Y1;rw[g0Y hs];rfl
   have hvi:=(hni.vs _ (g01 hs)).1;have hpos:(w.b9[k].Acc.b8[s].b5 != 0)=decide (w.b9[k].Acc.b8[s].b5>0):=by
    have h0:0<=w.b9[k].Acc.b8[s].b5:=hvi.bal.1;by_cases hz:w.b9[k].Acc.b8[s].b5=0
    ·rw[hz];rfl
    ·rw[decide_eq_true (show w.b9[k].Acc.b8[s].b5>0 by omega)];simpa using hz
   rw[hva,B0 _ s hs,z8 hs];simp only[g25,g0X,hpos];unfold a9y;cases decide (w.b9[k].Acc.b8[s].b5>0)
   ·rfl
   ·simp only[g25,a72 ((h.1.2 _ (g01 hk)).2.1.2.2 _ (g01 hs)).2,g0X,hn];cases S9 w.b9[k].Acc.b8[s].i9 e<;>rfl
  ·have hva:Y1 w.b9[k] s=zV:=by unfold Y1;rw[g1s (by omega)];rfl
   rw[hva,decide_eq_false (show ¬((s:Int)<(w.b9[k].Acc.b8.length:Int)) by omega)];rfl)
 rw[g1n,show((0:Nat):Int)=0 from rfl]at hloop;unfold b75;rw[show u5 (λt:Int×Int=>b2K w (s:Int) e t.1 t.2) (0,0)=_ from hloop,F3 (b:=((a2d w.b9 s e:Nat):Int))]
 ·rfl
 ·unfold b2K;rw[C1];rfl
def c1d(w:m6)(n:m4)(k:Nat):Bool:=match n.a9[k]? with
 |some e => !decide (((a2d w.b9 k e:Nat):Int)<2)
 |none=>Y
def b0t(w:m6)(n:m4):Bool:=(g09 (O n.a9)).all (c1d w n)
def d8U{w:m6}{n:m4}{k:Nat}(hk:k<(O n.a9)):c1d w n k = !decide (((a2d w.b9 k n.a9[k]:Nat):Int)<2):=by
 unfold c1d;rw[g0Y hk]
def e5E{w:m6}(h:X6 w):b4v w=U (C8 w&&w.b9.all (b0t w)):=by
 have hf:z4 w.b9:=h.1.fits (by decide);unfold b4v;rw[a31 h,g0X];cases hwo:C8 w
 ·rfl
 have hw:WI w:=a0t.1 hwo;have hin:∀(i:Nat) (hi:i<(O w.b9)),u5 (λt:Int=>b3R w w.b9[i] t) 0=U (bif b0t w w.b9[i]then .brk ()else .ret W):=by
  intro i hi;have hk0:z4 w.b9[i].a9:=(h.1.2 _ (g01 hi)).2.2.1.fits (by decide);refine a3Y w.b9[i].a9 hk0 (c1d w w.b9[i]) W () ?_ ?_
  ·intro k hk _;unfold b3R;rw[B0 _ k hk,z8 hk,d8U hk];simp only[g25,g0X,e9e h hw];cases decide (((a2d w.b9 k w.b9[i].a9[k]:Nat):Int)<2)<;>rfl
  ·unfold b3R;rw[C1];rfl
 simp only[g04,g26,g1h];rw[O5 w.b9 hf (b0t w) W ()]
 ·cases w.b9.all (b0t w)<;>rfl
 ·intro k hk;unfold b9A c6p;rw[B0 _ k hk,z8 hk];simp only[g25,g0X,hin k hk];cases b0t w w.b9[k]<;>rfl
 ·unfold b9A;rw[C1];rfl
def b0g{C:Type}{l:List C}(z:C)(b:Nat)(h:(O l)*b<=140737488351232):(bif((O l:Int)==0)then U []else z5 (0<=(O l:Int)/\(O l:Int)*(b:Int)<=140737488355328) (z5 ((O l)=(g00 (O l:Int).toNat z).length) (U l)))=U l:=by
 cases hl:((O l:Int)==0)
 ·have:(O l:Int)*(b:Int)=(((O l)*b:Nat):Int):=by rw[Int.natCast_mul]
  rw[g26,A6 ⟨by omega,by omega⟩,A6 (by simp)]
 ·simp only[beq_iff_eq]at hl;rw[g1c (by omega:(O l)=0)];rfl
def b6X{C R:Type}{body:List C×Int->Option (n6 R (List C×Int) (List C))}(l:List C)(hl:z4 l)(h1:∀(k:Nat) (hk:k<(O l)),body (l,(k:Int))=U (.nxt (l.set k l[k],s6 ((k:Int)+1))))(h2:body (l,(O l:Int))=U (.brk l)):u5 body (l,0)=U (.brk l):=by
 have:=a0Y (body:=body) (λk=>(l,(k:Int))) (O l) λk hk=>by rw[h1 k hk,J0 hl hk,g2S]
 exact this.trans (F3 h2)
def a7N{C:Type}{body:Int->Option (n6 Bool Int Unit)}(l:List C)(hl:z4 l)(h1:∀(k:Nat) (hk:k<(O l)),body (k:Int)=U (.nxt (s6 ((k:Int)+1))))(h2:body (O l:Int)=U (.brk ())):u5 body 0=U (.brk ()):=by
 have:=a0Y (body:=body) (λk=>(k:Int)) (O l) λk hk=>by rw[h1 k hk,J0 hl hk]
 exact this.trans (F3 h2)
def b8v{l:List s7}(h:C4 96 Z5 l):b0f l=U l:=by
 unfold b0f;rw[show c4E l=U l from b0g _ 96 h.1,g0X,b6X l (h.fits (by decide))]
 ·rfl
 ·intro k hk;unfold c1J;rw[B0 _ k hk,g25,z8 hk,g0X,b3A (h.2 _ (g01 hk)).2];rfl
 ·unfold c1J;rw[C1];rfl
def b8i{x:B4}(h:a7q x):a6u x=U x:=by
 unfold a6u;rw[b8v h.2];rfl
def d1Z{l:List Bool}(h:C4 1 okT l):b7J l=U l:=b0g _ 1 h.1
def c8K{l:List t8}(h:(O l)*32<=140737488351232):a9a l=U l:=b0g _ 32 h
def d0f{l:List s8}(h:(O l)*40<=140737488351232):b9C l=U l:=b0g _ 40 h
def c0Q{n:m4}(h:V8 n):b0p n=U n:=by
 obtain⟨h1,h2,h3,h4,h5,h6,h7,h8,h9,h10,h11,h12,h13⟩:=h;unfold b0p;rw[b8i h2,g0X,c50 h3,g0X,d1Z h7,g0X,b8v h8,g0X,b3A h9,g0X,d1Z h10,g0X,c8K h11.1,g0X,b3A h12,g0X,c50 h13];rfl
def f4l{m:m9}(h:a1L m):b8S m=U m:=by
 unfold b8S;rw[b3A h.2.2.2.2.2.1,g0X,b8v h.2.2.2.2.2.2];rfl
def d3A{l:List m9}(h:C4 152 a1L l):b31 l=U l:=by
 unfold b31;rw[show c61 l=U l from b0g _ 152 h.1,g0X,b6X l (h.fits (by decide))]
 ·rfl
 ·intro k hk;unfold b94;rw[B0 _ k hk,g25,z8 hk,g0X,f4l (h.2 _ (g01 hk))];rfl
 ·unfold b94;rw[C1];rfl
def b4P{w:m6}(h:X6 w):a2A w=U w:=by
 obtain⟨h1,h2,h3,h4⟩:=h;unfold a2A c46;rw[show c3d w.b9=U w.b9 from b0g _ 392 h1.1,g0X,d3A h2,g0X,show c4y w.i4=U w.i4 from b0g _ 40 h3.1,g0X,d0f h4.1,g0X,b6X w.b9 (h1.fits (by decide))]
 ·simp only[g0X,r9.go];rw[b6X w.i4 (h3.fits (by decide))]
  ·rfl
  ·intro k hk;unfold b7x;rw[B0 _ k hk,g25,z8 hk,g0X,c8K (h3.2 _ (g01 hk)).2.1];rfl
  ·unfold b7x;rw[C1];rfl
 ·intro k hk;unfold c0b;rw[B0 _ k hk,g25,z8 hk,g0X,c0Q (h1.2 _ (g01 hk))];rfl
 ·unfold c0b;rw[C1];rfl
def f6N:c0K=U O7:=by
 unfold c0K;have e:∀i:Int,0<=i->i<=2->c09 i=U (E6 i):=λi h1 h2=>by
  unfold c09;rw[Q7,g0X,v5,decide_eq_true ⟨h1,h2⟩];rfl
 rw[G7 (t:=([E6 0],1)) (by unfold b1i;rw[e 0 (by omega) (by omega)];rfl),G7 (t:=([E6 0,E6 1],2)) (by unfold b1i;rw[e 1 (by omega) (by omega)];rfl),G7 (t:=([E6 0,E6 1,E6 2],3)) (by unfold b1i;rw[e 2 (by omega) (by omega)];rfl),F3 (b:=[E6 0,E6 1,E6 2]) (by unfold b1i;rfl)];show(a2A O7).bind _=_
 rw[b4P WI.open.ok];rfl
def b3d{e:p9}(h:I5 e):a0e e e=U Y:=by
 unfold a0e;have:a5v e.g8 e.g8=Y:=(c7F _ _).2 rfl;simp only[beq_self_eq_true,g25,c3T h.2.f,this,g0X]
def c58{l:List s7}(h:C4 96 Z5 l):b2b l l=U Y:=by
 unfold b2b;rw[bne_self_eq_false,g26,a7N l (h.fits (by decide))]
 ·rfl
 ·intro k hk;unfold b9i;simp only[B0 _ k hk,g25,z8 hk,g0X,bne_self_eq_false,g26,b3d (h.2 _ (g01 hk)).2,g04]
 ·unfold b9i;rw[C1];rfl
def c92{l:List p9}(h:C4 88 I5 l):b45 l l=U Y:=by
 unfold b45;rw[bne_self_eq_false,g26,a7N l (h.fits (by decide))]
 ·rfl
 ·intro k hk;unfold c1L;simp only[B0 _ k hk,g25,z8 hk,g0X,g26,b3d (h.2 _ (g01 hk)),g04]
 ·unfold c1L;rw[C1];rfl
def d6P{l:List Bool}(h:z4 l):b5l l l=U Y:=by
 unfold b5l;rw[bne_self_eq_false,g26,a7N l h]
 ·rfl
 ·intro k hk;unfold b8M;simp only[B0 _ k hk,g25,z8 hk,g0X,beq_self_eq_true,g26,g04]
 ·unfold b8M;rw[C1];rfl
def d1F{l:List t8}(h:z4 l):b4y l l=U Y:=by
 unfold b4y c3V;rw[bne_self_eq_false,g26,a7N l h]
 ·rfl
 ·intro k hk;unfold c1v;simp only[B0 _ k hk,g25,z8 hk,g0X,beq_self_eq_true,g26,g04]
 ·unfold c1v;rw[C1];rfl
def f0t{l:List s8}(h:z4 l):b9z l l=U Y:=by
 unfold b9z;rw[bne_self_eq_false,g26,a7N l h]
 ·rfl
 ·intro k hk;unfold b9r;simp only[B0 _ k hk,g25,z8 hk,g0X,beq_self_eq_true,g26,g04]
 ·unfold b9r;rw[C1];rfl
def e0Y{n:m4}(h:V8 n):b7z n n=U Y:=by
 obtain⟨h1,h2,h3,h4,h5,h6,h7,h8,h9,h10,h11,h12,h13⟩:=h;unfold b7z c6z;simp only[beq_self_eq_true,g25,c58 h2.2,c92 h3,d6P (h7.fits (by decide)),c58 h8,b3d h9,d6P (h10.fits (by decide)),d1F (h11.fits (by decide)),b3d h12,c92 h13,g0X]
def f7n{w:m6}(h:X6 w):c2H w w=U Y:=by
 obtain⟨h1,h2,h3,h4⟩:=h;unfold c2H c5a c5j;simp only[bne_self_eq_false,g26,f0t (h4.fits (by decide)),g0X,g04];rw[a7N w.b9 (h1.fits (by decide)) (λk hk=>by
  unfold c0D;simp only[B0 _ k hk,g25,z8 hk,g0X,e0Y (h1.2 _ (g01 hk)),g26,g04]) (by unfold c0D;rw[C1];rfl)]
 simp only[g0X,r9.go];rw[a7N w.c9 (h2.fits (by decide)) (λk hk=>by
  have:=h2.2 _ (g01 hk);unfold c2d c7d;simp only[B0 _ k hk,g25,z8 hk,g0X,beq_self_eq_true,b3d this.2.2.2.2.2.1,c58 this.2.2.2.2.2.2,g26,g04]) (by unfold c2d;rw[C1];rfl)]
 simp only[g0X,r9.go];rw[a7N w.i4 (h3.fits (by decide)) (λk hk=>by
  unfold c0m;simp only[B0 _ k hk,g25,z8 hk,g0X,beq_self_eq_true,d1F ((h3.2 _ (g01 hk)).2.fits (by decide)),g26,g04]) (by unfold c0m;rw[C1];rfl)]
 rfl
def d0K{a:u7}(h:z4 a.n.a9)(q:u0):b3r a q=U (N3 a.n.a9 q,a):=by
 unfold b3r;rw[b5x h,g0X,c7K];cases a.n.a9.findIdx? (I9 q)with
 |none=>rfl
 |some k=>simp
def e37{a:u7}(h:z4 a.n.a9)(q:u0):b7r a q=U (N3 a.n.a9 q,a):=by
 unfold b7r;rw[b5x h,g0X,c7K];cases a.n.a9.findIdx? (I9 q)with
 |none=>rfl
 |some k=>simp
def qA(a:u7)(q:List p9):u7:=⟨{a.n with i5:=q},a.out,a.told⟩
def f1G{a:u7}{q:List p9}(h:a.n.i5=q):qA a q=a:=by
 subst h;rfl
def d0r{known:List p9}(hk:z4 known):∀(q:List p9) (a:u7),a.n.a9=known->C4 88 I5 q->a.n.i5=q->u5 (λs:u7=>a58 s) a=U (match V6 known q with
  | (q',U e)=>.ret (e,Y,qA a q')
  | (q',Z)=>.brk (qA a q'))
 | [],a,h1,_,h2=>by
  rw[F3 (body:=λs:u7=>a58 s) (b:=a) (by unfold a58;rw[h2];rfl)];show _=U (r9.brk (qA a []))
  rw[f1G h2]
 |e::q,a,h1,hq,h2=>by
  have hl:(e::q).length*88<=140737488351232:=hq.1;rw[g1G]at hl;have hb:a58 a=U (bif N3 known e.b6 then .nxt (qA a q)else .ret (e,Y,qA a q)):=by
   unfold a58;rw[h2,show idx (e::q) 0=U e from rfl,show decide ((((e::q).length:Nat):Int)>0)=Y by simp,g25,g0X,A6 (by simp;omega),show((e::q).drop (1:Int).toNat).take ((e::q).length-(1:Int).toNat)=q by simp];rw[show(⟨⟨a.n.Id,a.n.Acc,a.n.a9,a.n.Seq,a.n.d6,a.n.b5,a.n.d7,a.n.j5,a.n.g9,a.n.b8,a.n.j6,a.n.j8,a.n.d9,q⟩,a.out,a.told⟩:u7)=qA a q from rfl,d0K (a:=qA a q) (by show z4 a.n.a9;rw[h1];exact hk),g0X,show(qA a q).n.a9=known from h1];cases N3 known e.b6<;>rfl
  unfold V6;cases hkn:N3 known e.b6
  ·rw[a0o (body:=λs:u7=>a58 s) (r:=(e,Y,qA a q)) (by rw[hb,hkn];rfl)];rfl
  ·rw[G7 (body:=λs:u7=>a58 s) (t:=qA a q) (by rw[hb,hkn];rfl),d0r hk q (qA a q) h1 ⟨by omega,λx hx=>hq.2 x (g16 _ hx)⟩ rfl];rfl
def b5z(a:u7)(x:m4×Option p9):p9×Bool×u7:=match x with
 | (n,U e)=>(e,Y,⟨n,a.out,a.told⟩)
 | (n,Z)=>(zE,W,⟨n,a.out,a.told⟩)
def e6D{a:u7}(hf:z4 a.n.j5)(hv:∀v∈a.n.j5,0<=v.b5):∀(m k:Nat),(O a.n.j5)-k=m->u5 (λs:Int=>a6T a s) (k:Int)=U (bif(a.n.j5.drop k).any (λv=>decide (v.b5>0))then .ret (eN,Y,a)else .brk ()):=by
 intro m;induction m with
 |zero=>
  intro k hk;rw[F3 (body:=λs:Int=>a6T a s) (b:=()) (by unfold a6T;rw[show decide ((k:Int)<(O a.n.j5:Int))=W by simp;omega];rfl),g1r (by omega)];rfl
 |succ m ih=>
  intro k hk;have hlt:k<(O a.n.j5):=by omega
  have hb:a6T a (k:Int)=U (bif decide (a.n.j5[k].b5>0)then .ret (eN,Y,a)else .nxt ((k+1:Nat):Int)):=by
   have h0:=hv _ (g01 hlt);unfold a6T;rw[B0 _ k hlt,g25,z8 hlt,g0X,J0 hf hlt,show(a.n.j5[k].b5 != 0)=decide (a.n.j5[k].b5>0) by
    rw[g2j];simp;omega]
   cases decide (a.n.j5[k].b5>0)<;>rfl
  rw[g1q hlt,g2X];cases hd:decide (a.n.j5[k].b5>0)
  ·rw[hd]at hb;rw[G7 (body:=λs:Int=>a6T a s) hb,ih (k+1) (by omega),g1I]
  ·rw[hd]at hb;rw[a0o (body:=λs:Int=>a6T a s) hb,g2I];rfl
def e48{a:u7}(h:V8 a.n)(hv:∀v∈a.n.j5,0<=v.b5):b8W a=U (b5z a (a0q a.n)):=by
 obtain⟨h1,h2,h3,h4,h5,h6,h7,h8,h9,h10,h11,h12,h13⟩:=h;have hk:z4 a.n.a9:=h3.fits (by decide);have hbf:z4 a.n.j5:=h8.fits (by decide);have j1:b8j a=U (b5z a ({a.n with i5:=(V6 a.n.a9 a.n.i5).1},(V6 a.n.a9 a.n.i5).2)):=by
  unfold b8j;rw[d0r hk _ a rfl h13 rfl];obtain⟨q,o⟩:=V6 a.n.a9 a.n.i5;cases o<;>rfl
 have j2:(∀v,a.n.j5[a.n.a9.length]?=U v->¬v.b5>0)->c10 a=U (b5z a (a4B a.n)):=by
  intro hn;have hd:(a.n.j5.drop ((O a.n.a9)+1)).any (λv=>decide (v.b5>0))=(a.n.j5.drop (O a.n.a9)).any (λv=>decide (v.b5>0)):=by
   by_cases hl:(O a.n.a9)<(O a.n.j5)
   ·rw[g1q hl,g2X,show decide (a.n.j5[a.n.a9.length].b5>0)=W by
     simpa using hn _ (g0Y hl),g1I]
   ·rw[g1r (by omega),g1r (by omega)]
  unfold c10 a4B;rw[F6 (by omega) (by have:=h3.1;omega),show((O a.n.a9:Int)+1)=(((O a.n.a9)+1:Nat):Int)from rfl,e6D hbf hv _ _ rfl,hd];generalize (({a.n with i5:=(V6 a.n.a9 a.n.i5).1},(V6 a.n.a9 a.n.i5).2):m4×Option p9)=X at j1⊢;cases(a.n.j5.drop (O a.n.a9)).any λv=>decide (v.b5>0)
  ·simp only[g26,g0X,r9.go];unfold c57;cases a.n.j6
   ·exact j1
   ·simp only[g25,d0K hk,g0X,g1h];cases N3 a.n.a9 a.n.d9.b6
    ·rfl
    ·exact j1
  ·rfl
 unfold b8W a0q;by_cases hl:(O a.n.a9)<(O a.n.j5)
 ·rw[B0 _ _ hl,z8 hl,g0Y hl];have h0:=hv _ (g01 hl);rw[g25,g0X,show(a.n.j5[a.n.a9.length].b5 != 0)=decide (a.n.j5[a.n.a9.length].b5>0) by rw[g2j];simp;omega];simp only;cases hd:decide (a.n.j5[a.n.a9.length].b5>0)
  ·exact j2 (by rw[g0Y hl];intro v hv;injection hv with hv;subst hv;simpa using hd)
  ·rfl
 ·rw[show decide ((O a.n.a9:Int)<(O a.n.j5:Int))=W by simp;omega,g1s (by omega)];exact j2 (by rw[g1s (by omega)];simp)
def NI.accOk{n:m4}(h:NI n):V0 n.Acc=Y/\a7q n.Acc:=by
 have:=a2y.2 h;unfold H4 at this;simp only[g02]at this;exact⟨by simp_all,h.ok.2.1⟩
def c1u{a:B4}(h:V0 a=Y)(ho:a7q a)(b:Int):b04 a b=U (match J6 a b with|some x=>(x,Y)|none=>(a,W)):=by
 unfold b04 J6 a95;rw[d4N ho,g0X,h,b8i ho,Q7];simp only[g04,g26,g0X];cases v5 b 1 3000
 ·rfl
 ·cases hd:decide (b<a.i7)
  ·rw[show decide (a.i7<=b)=Y by simp at hd⊢;omega];rfl
  ·rw[show decide (a.i7<=b)=W by simp at hd⊢;omega];rfl
def f1B{a:B4}(h:V0 a=Y)(ho:a7q a)(b:Int):c63 a b=U (match J6 a b with|some x=>(x,Y)|none=>(a,W)):=c1u h ho b
def d11(slot:Nat)(hs:slot<40):∀(m:Nat) (vs:List s7),slot+1-(O vs)=m->u5 (λs:List s7=>a9W (slot:Int) s) vs=U (.brk (W9 vs (slot+1)))
 | 0,vs,hm=>by
  rw[F3 (body:=λs:List s7=>a9W (slot:Int) s) (b:=vs) (by unfold a9W;rw[show decide ((O vs:Int)<=(slot:Int))=W by simp;omega];rfl)];unfold W9;rw[hm];simp
 |m+1,vs,hm=>by
  rw[G7 (body:=λs:List s7=>a9W (slot:Int) s) (t:=vs++[v0]) (by unfold a9W;rw[show decide ((O vs:Int)<=(slot:Int))=Y by simp;omega,g25,A6 (by omega)];rfl),d11 slot hs m _ (by simp;omega)];unfold W9;rw[g08,g1Q,show slot+1-(O vs)=(slot+1-((O vs)+1))+1 by omega,g2K,g1d];rfl
def d8o{a:B4}(h:V0 a=Y)(ho:a7q a)(hl:(O a.b8)<=40){b s:Int}(hb:N5 b){e:p9}(he:I5 e):b51 a b s e=U (match N7 a b s e with|some x=>(x,Y)|none=>(a,W)):=by
 unfold b51 N7;rw[f1B h ho,g0X,Q7,a60 he.f,b8i ho];cases hp:J6 a b with
 |none=>cases v5 s 0 39&&B7 e<;>rfl
 |some x=>
  obtain⟨rfl,hb1,hb2,hb3⟩:=a2K hp;simp only[g04,g26,g0X];cases hs:v5 s 0 39
  ·rfl
  cases B7 e
  ·rfl
  obtain⟨k,rfl⟩:∃k:Nat,s=(k:Int):=⟨s.toNat,by rw[I1]at hs;omega⟩
  rw[I1]at hs;have hlen:=b6l a.b8 (k+1);have hk:k<(W9 a.b8 (k+1)).length:=by rw[hlen];omega
  simp only[g04,Bool.and_self,g26,g25,g0X,g2c,g1p];rw[d11 k (by omega) _ _ rfl];simp only[g0X,r9.go,c5f];rw[z8 hk,g0X,g1p,b8i (x:=⟨b,(W9 a.b8 (k+1)).set k ⟨b,e⟩⟩) ⟨hb,a1J (by rw[g2b,hlen];omega) (by
   intro v hv;rcases g1F hv with q|q
   ·rcases c3w q with q|q
    ·exact ho.2.2 v q
    ·rw[q];exact d8y
   ·rw[q];exact⟨hb,he⟩)⟩]
  rfl
def a9M{a:u7}(h:(O a.out)<=1000)(to:Int)(m:m9):a5C a to m=U ⟨a.n,a.out++[{m with d7:=a.n.Id,To:=to}],a.told⟩:=by
 unfold a5C;rw[A6 (by omega)]
def a2c(m:m9)(a:u7)(t:Int):u7:=bif t != a.n.Id then⟨a.n,a.out++[{m with d7:=a.n.Id,To:=t}],a.told⟩else a
def d5F(m:m9)(a:u7)(t:Int):(a2c m a t).out.length<=(O a.out)+1:=by
 unfold a2c;cases t != a.n.Id<;>simp
def a8i{a:u7}(hid:0<=a.n.Id/\a.n.Id<=2)(h:(O a.out)<=900)(m:m9):a4c a m=U ⟨a.n,a.out++G4 a.n.Id m,a.told⟩:=by
 have e:∀(a:u7) (t:Int),(O a.out)<=1000->0<=t->t<3->a5Q m t a=U (.nxt (t+1,a2c m a t)):=by
  intro a t ho h0 h1;unfold a5Q c7u a2c;rw[show decide (t<3)=Y by simpa using h1,g25,a9M ho,F6 (by omega) (by omega)];cases t != a.n.Id<;>rfl
 have l1:=d5F m a 0;have l2:=d5F m (a2c m a 0) (0+1);have h0:=G7 (body:=λs:Int×u7=>a5Q m s.1 s.2) (s:=(0,a)) (e a 0 (by omega) (by omega) (by omega));have h1:=G7 (body:=λs:Int×u7=>a5Q m s.1 s.2) (s:=(0+1,a2c m a 0)) (e (a2c m a 0) (0+1) (by omega) (by omega) (by omega));have h2:=G7 (body:=λs:Int×u7=>a5Q m s.1 s.2) (s:=(0+1+1,a2c m (a2c m a 0) (0+1))) (e (a2c m (a2c m a 0) (0+1)) (0+1+1) (by omega) (by omega) (by omega));have h3:=a0o (body:=λs:Int×u7=>a5Q m s.1 s.2) (s:=(0+1+1+1,a2c m (a2c m (a2c m a 0) (0+1)) (0+1+1))) (show a5Q m (0+1+1+1) _=_ from rfl);unfold a4c;rw[h0,h1,h2,h3];obtain⟨n,o,t⟩:=a;simp only[g0X,r9.go];have hid':n.Id=0\/n.Id=1\/n.Id=2:=by have:=hid.1;have:=hid.2;simp only at *;omega
 rcases hid' with q|q|q<;>simp[a2c,G4,q]
def d4t{a:u7}(h:0<=a.n.Id/\a.n.Id<=2):b5O a=U (a0u a.n.Id,a):=by
 obtain⟨y,hy⟩:=c7P h;unfold b5O;rw[A6 (by decide),hy];rfl
def c71(a:u7):b6m a=U ⟨a0E a.n,a.out,a.told⟩:=rfl
def c1N(a:u7)(b:Int):b1h a b=U ⟨L3 a.n b,a.out,a.told⟩:=by
 unfold b1h L3;rw[c71];cases a.n.d6 != 0
 ·rfl
 ·cases decide (b>a.n.b5)<;>rfl
def a2a.bal0{n:m4}(h:a2a n):∀v∈n.j5,0<=v.b5:=λv hv=>(h.best.2 v hv).bal.1
def a1d(a:u7)(x:m4×List m9):u7:=⟨x.1,a.out++x.2,a.told⟩
def a9U(a:u7):a1d a (a.n,[])=a:=by
 unfold a1d;rw[g1i]
def b41{a:u7}(h:NI a.n)(ho:(O a.out)<=900):a7i a=U (a1d a (F8 a.n)):=by
 unfold a7i F8;rw[show decide ((O a.n.a9:Int)>=40)=decide (40<=(O a.n.a9)) by simp;omega];cases a.n.d6 != 2
 ·simp only[g26,g1I];cases hlt:decide (40<=(O a.n.a9))
  ·simp only[g26,e48 h.ok h.ld.bal0,g0X];obtain⟨q,hq,hql,hqm,hqe⟩:=a78 a.n;cases hx:a0q a.n with
   |mk x o=>
   rw[hx]at hq hqe;have hq:x={a.n with i5:=q}:=hq;subst hq;cases o with
   |none=>
    simp only[b5z,g1y,g25,a1d];rw[g1i]
   |some e=>
    have he:=(hqe e rfl).ok h.ok;obtain⟨c1,c2⟩:=h.accOk;simp only[b5z,g04,g26];rw[d8o (a:=a.n.Acc) c1 c2 h.vl h.ok.2.2.2.2.2.1 he,g0X];simp only[a4k];cases hc:N7 a.n.Acc a.n.b5 (O a.n.a9:Int) e with
    |none=>
     simp only[g1y,g25,c71,g0X,a1d];rw[g1i]
    |some x=>
     simp only[g04,g26];rw[d4t (by exact h.id),g0X];simp only;rw[a8i (by exact h.id) (by exact ho)];rfl
  ·simp only[g25];rw[a9U]
 ·simp only[g25,g2I];rw[a9U]
def a37(a:u7)(x:m4×List m9×List s8):u7:=⟨x.1,a.out++x.2.1,a.told++x.2.2⟩
def b9X(a:u7):a37 a (a.n,[],[])=a:=by
 unfold a37;rw[g1i,g1i]
def e7X{a:u7}(h:NI a.n)(ho:(O a.out)<=900)(ht:(O a.told)<=900):c1n a=U (a37 a ((F8 (K7 a.n).1).1,(F8 (K7 a.n).1).2,(K7 a.n).2)):=by
 have hk:z4 a.n.a9:=h.ok.2.2.1.fits (by decide);obtain⟨hl,he⟩:=a2f h.list;have j1:∀b:u7,NI b.n->(O b.out)<=900->b89 b=U (a1d b (F8 b.n)):=by
  intro b hb hbo;unfold b89;rw[b41 hb hbo];rfl
 unfold c1n K7;rw[b5x hk,g0X];cases hb:a.n.j6
 ·simp only[g26,g0X,r9.go];rw[j1 a h ho];simp only[a1d,a37,g1i]
 ·cases hf:a.n.a9.findIdx? (I9 a.n.d9.b6)with
  |none=>
   simp only[g25];rw[show decide ((-1:Int)>=0)=W from rfl];simp only[g26,g0X,r9.go];rw[j1 a h ho];simp only[a1d,a37,g1i]
  |some k=>
   obtain⟨hkl,h1,h2⟩:=b3V hf;have hlen:(w9 a.n.a9).2.length=(O a.n.a9):=by
    have:=(Z6 hl he (O a.n.a9) (g07 _)).2.1;rwa[g1n]at this
   have hc:idx (w9 a.n.a9).2 (k:Int)=U (W0 a.n.a9 k):=by
    rw[z8 (by omega)];unfold W0;rw[g0Y (by omega)];rfl
   have hj2:∀v:Int,b7n a (W0 a.n.a9 k) v=U (.brk ⟨a8N a.n,a.out,a.told++[⟨a.n.Id,a.n.d9.b6,W0 a.n.a9 k,v⟩]⟩):=by
    intro v;unfold b7n;rw[A6 (by omega)];rfl
   have hv:a0a a.n.a9 a.n.d9.b6=a.n.a9[k].g8.i8:=by
    unfold a0a;rw[hf];simp only[g0Y hkl]
   simp only[g25];rw[show decide ((k:Int)>=0)=Y by simp];simp only[g25];rw[b85 (okEntries.f h.ok.2.2.1) hl he,g0X,hc,g0X,z8 hkl,hv];cases W0 a.n.a9 k==0
   ·simp only[g26,g0X,r9.go,hj2];exact j1 ⟨a8N a.n,a.out,_⟩ h.freeN ho
   ·simp only[g25,g0X,r9.go,hj2];exact j1 ⟨a8N a.n,a.out,_⟩ h.freeN ho
def c8W{a:u7}(h:NI a.n)(hl:(O a.n.a9)<40){e:p9}(he:B7 e=Y)(ho:(O a.out)<=900)(ht:(O a.told)<=900):b5L a e=U (a37 a (V5 a.n e)):=by
 have hk:=e7X (a:=⟨C6 a.n e,a.out,a.told⟩) (h.know he hl) ho ht;unfold b5L;rw[A6 (by omega)];unfold C6 at hk;cases hp:a.n.d6==3
 ·rw[hp]at hk;simp only[g26,g0X,r9.go]at hk⊢;refine hk.trans ?_;unfold V5 C6;rw[hp];rfl
 ·rw[hp]at hk;simp only[g25,g0X,r9.go]at hk⊢;refine hk.trans ?_;unfold V5 C6;rw[hp];rfl
def a0m.two{m:m9}(h:a0m m)(hk:m.b7=2):((O m.b8)<=40/\∀v∈m.b8,VI v)/\m.i6+(O m.b8)<=40:=by
 rcases h with q|q|q|q|q|q|q
 ·omega
 ·exact⟨q.2.2.2.1,q.2.2.2.2⟩
 all_goals exact absurd q.1 (by omega)
def a0m.five{m:m9}(h:a0m m)(hk:m.b7=5):m.i6<40/\B7 m.i9=Y:=by
 rcases h with q|q|q|q|q|q|q
 ·omega
 ·omega
 ·omega
 ·exact⟨q.2.2.1,q.2.2.2.1⟩
 all_goals exact absurd q.1 (by omega)
def f8i{a:u7}(h:NI a.n){m:m9}(hm:MI m)(ho:(O a.out)<=900)(hto:m.To=a.n.Id):c1U a m=U (a1d a (a0N a.n m)):=by
 obtain⟨c1,c2⟩:=h.accOk;have hs:=hm.sl;unfold c1U a0N;rw[c1u c1 c2,g0X];cases hp:J6 a.n.Acc m.b5 with
 |none=>
  simp only[g1y,g25];rw[a9M (by omega)];simp only[g0X,a1d,H7,hto]
 |some x=>
  obtain⟨rfl,_⟩:=a2K hp;simp only[g04,g26,c1N,g0X];have hy:∀(n:m4) (vs:List s7),n.Id=a.n.Id->b7S m ⟨n,a.out,a.told⟩ vs=U ⟨n,a.out++[H7 m ⟨2,0,0,m.b5,m.i6,zE,vs⟩],a.told⟩:=by
   intro n vs hn;unfold b7S;rw[a9M (a:=⟨n,a.out,a.told⟩) (by exact g1C ho (by decide))];simp only[g0X,H7,hto,hn]
  have hid:(L3 (⟨a.n.Id,⟨m.b5,a.n.Acc.b8⟩,a.n.a9,a.n.Seq,a.n.d6,a.n.b5,a.n.d7,a.n.j5,a.n.g9,a.n.b8,a.n.j6,a.n.j8,a.n.d9,a.n.i5⟩) m.b5).Id=a.n.Id:=a8s _ _;obtain⟨k,hk⟩:∃k:Nat,m.i6=(k:Int):=⟨m.i6.toNat,by omega⟩
  cases hd:decide (m.i6<(O a.n.Acc.b8:Int))
  ·simp only[g26,g0X,r9.go];rw[hy _ _ hid,g1r (by simp at hd;omega)];rfl
  ·simp only[g25];rw[A6 (by simp at hd;omega)];simp only[g0X,r9.go];rw[hy _ _ hid,c6C];rfl
def f5U{a:u7}(h:NI a.n){m:m9}(hm:MI m)(ho:(O a.out)<=900)(hto:m.To=a.n.Id):c1t a m=U (a1d a (a0H a.n m)):=by
 obtain⟨c1,c2⟩:=h.accOk;unfold c1t a0H;rw[d8o c1 c2 h.vl hm.ok.2.2.2.1 hm.ok.2.2.2.2.2.1,g0X];cases N7 a.n.Acc m.b5 m.i6 m.i9 with
 |none=>
  simp only[g1y,g25];rw[a9M (by omega)];simp only[g0X,a1d,H7,hto]
 |some x=>
  simp only[g04,g26,c1N,g0X];rw[a9M (by simp only;omega)];simp only[g0X,a1d,H7,hto,a8s]
def d3f:∀(l:List Bool) (hl:z4 l) (m k:Nat) (c:Int),k+m=(O l)->0<=c->c<=k->u5 (λs:Int×Int=>a6o l s.1 s.2) (c,(k:Int))=U (.brk (c+(((l.drop k).filter (· == Y)).length:Int)))
 |l,hl,0,k,c,hk,h0,h1=>by
  have:k=(O l):=by omega
  subst this;rw[F3 (body:=λs:Int×Int=>a6o l s.1 s.2) (b:=c) (by unfold a6o;rw[C1];rfl)];simp
 |l,hl,m+1,k,c,hk,h0,h1=>by
  have hlt:k<(O l):=by omega
  have hf:=hl;unfold z4 at hf;have hb:a6o l c (k:Int)=U (.nxt (bif l[k]then c+1 else c,((k+1:Nat):Int))):=by
   unfold a6o c4p;rw[B0 _ k hlt,g25,z8 hlt,g0X,J0 hl hlt,F6 (by omega) (by omega)];cases l[k]<;>rfl
  rw[G7 (body:=λs:Int×Int=>a6o l s.1 s.2) hb,d3f l hl m (k+1) _ (by omega) (by cases l[k]<;>simp<;>omega) (by cases l[k]<;>simp<;>omega),g1q hlt];cases l[k]<;>simp<;>omega
def d0F{l:List Bool}(h:z4 l):∃c,b4K l=U c/\decide (c>=2)=L1 l:=by
 unfold b4K;rw[show u5 (λs:Int×Int=>a6o l s.1 s.2) (0,0)=_ from d3f l h (O l) 0 0 (by omega) (by omega) (by omega)];refine⟨_,rfl,?_⟩;unfold L1;rw[g2j];simp only[g2a,decide_eq_true_eq];omega
def e53{a b:List s7}(ha:(O a)<=40/\∀v∈a,VI v)(hb:(O b)<=40/\∀v∈b,VI v):b7A a b=U (G2 a b):=by
 have oa:=a44 (by omega) ha.2;have ob:=a44 (by omega) hb.2;have hlen:=a7y a b;have hok:C4 96 Z5 (G2 a b):=a44 (by omega) λv hv=>(a8P hv).elim (ha.2 v) (hb.2 v)
 unfold b7A;rw[b5M oa,g0X,a9o.2 ha,b5M ob,g0X,a9o.2 hb];simp only[g04,g26];rw[a8r (body:=λs:(List s7)×Int=>a7F a b s.1 s.2) (G2 a b) (by unfold z4;omega) (λl=>l) (by
  intro k hk;have hget:=b2w a b k;rw[g0Y hk]at hget;have hj1:∀l:List s7,c8e (k:Int) l=U (.nxt (l,s6 ((k:Int)+1))):=λ_=>rfl
  have htl:(((G2 a b).take k).length+1)*96<=140737488355328:=by rw[g1l];omega
  show a7F a b ((G2 a b).take k) (k:Int)=_
  have hstart:a7F a b ((G2 a b).take k) (k:Int)=c1p a b ((G2 a b).take k) (k:Int):=by
   unfold a7F;by_cases h1:k<(O a)
   ·rw[B0 _ k h1];rfl
   ·rw[show decide ((k:Int)<(O a:Int))=W by simp;omega,B0 _ k (by omega)];rfl
  rw[hstart];unfold c1p;by_cases h1:k<(O a)
  ·rw[show decide ((k:Int)>=(O a:Int))=W by simp;omega,z8 h1];rw[g0Y h1]at hget;by_cases h2:k<(O b)
   ·rw[show decide ((k:Int)>=(O b:Int))=W by simp;omega,z8 h2];rw[g0Y h2]at hget;injection hget with hget;simp only[g26,g0X,A6 htl];rw[hget,show decide (a[k].b5>=b[k].b5) = !decide (b[k].b5>a[k].b5) by rw[g2j];simp];cases decide (b[k].b5>a[k].b5)<;>rfl
   ·rw[show decide ((k:Int)>=(O b:Int))=Y by simp;omega];rw[g1s (by omega)]at hget;injection hget with hget;simp only[g26,g25,g0X,A6 htl];rw[hget];rfl
  ·have h2:k<(O b):=by omega
   rw[show decide ((k:Int)>=(O a:Int))=Y by simp;omega,z8 h2];rw[g1s (by omega),g0Y h2]at hget;injection hget with hget;simp only[g25,g0X,A6 htl];rw[hget];rfl) (by
  show a7F a b (G2 a b) ((G2 a b).length:Int)=_
  unfold a7F;rw[show decide (((G2 a b).length:Int)<(O a:Int))=W by simp;omega,show decide (((G2 a b).length:Int)<(O b:Int))=W by simp;omega];rfl)]
 simp only[g0X,r9.go,c5A,b8v hok]
def e3B{a:u7}(h:NI a.n){m:m9}(hm:MI m)(hk:m.b7=2)(ho:(O a.out)<=900):c1m a m=U (a1d a (Y8 a.n m)):=by
 have hkd:=hm.kd.two hk;have hs:=hm.sl;have hf:=hm.fr;have hright:=c4G h hm hk;unfold c1m;unfold Y8 at hright⊢;by_cases p1:a.n.d6=1
 ·rw[show(a.n.d6 != 1)=W by simp[p1],g1I]at hright;rw[show(a.n.d6 != 1)=W by simp[p1],g1I];cases hb:m.b5 != a.n.b5
  ·rw[hb]at hright;simp only[g26]at hright⊢;have hl:(O a.n.d7)=3/\Own a.n:=by
    rcases h.ld with q|q|q|q
    ·omega
    ·exact⟨q.2.2.1,q.2.1⟩
    all_goals exact absurd q.1 (by omega)
   obtain⟨f,hff⟩:∃f:Nat,m.d7=(f:Int):=⟨m.d7.toNat,by omega⟩
   have hvo:(g00 m.i6.toNat v0++m.b8).length<=40/\∀v∈g00 m.i6.toNat v0++m.b8,VI v:=⟨by simp;omega,λv hv=>(g0Z.1 hv).elim (λq=>by rw[(g1O.1 q).2];exact .inl rfl) (hkd.1.2 v)⟩
   obtain⟨c,c1,c2⟩:=d0F (l:=a.n.d7.set (f:Int).toNat Y) (c1s (by simp;omega));rw[hff]at hright;rw[hff,z8 (show f<(O a.n.d7) by omega),g0X,A6 (by omega),A6 (by simp;omega),show(⟨0,⟨W,⟨0,0⟩,⟨[],[],0,0⟩⟩⟩:s7)=v0 from rfl,e53 ⟨hl.2.bl,hl.2.bs⟩ hvo,g0X,c1,g0X,c2];cases htw:L1 (a.n.d7.set (f:Int).toNat Y)
   ·simp only[g26,a1d];rw[g1i]
   ·rw[htw]at hright;simp only[g25]at hright⊢;have hni:NI ⟨a.n.Id,a.n.Acc,a.n.a9,a.n.Seq,2,a.n.b5,[],G2 a.n.j5 (g00 m.i6.toNat v0++m.b8),a.n.g9,a.n.b8,a.n.j6,a.n.j8,a.n.d9,a.n.i5⟩:=by
     rcases h.ld with q|q|q|q
     ·omega
     ·exact⟨h.id,h.pr,h.vl,h.vs,h.kl,h.ks,h.sq,h.ql,h.qs,.inr (.inr (.inl ⟨rfl,⟨q.2.1.b1,q.2.1.b2,q.2.1.mod,q.2.1.pr,by have:=a7y a.n.j5 (g00 m.i6.toNat v0++m.b8);have:=hl.2.bl;have:=hvo.1;simp only at *;omega,λv hv=>(a8P hv).elim (hl.2.bs v) (hvo.2 v)⟩,rfl,q.2.2.2.2.1,q.2.2.2.2.2⟩)),h.wt⟩
     all_goals exact absurd q.1 (by omega)
    rw[b41 (a:=⟨⟨a.n.Id,a.n.Acc,a.n.a9,a.n.Seq,2,a.n.b5,[],G2 a.n.j5 (g00 m.i6.toNat v0++m.b8),a.n.g9,a.n.b8,a.n.j6,a.n.j8,a.n.d9,a.n.i5⟩,a.out,a.told⟩) hni ho];rfl
  ·simp only[g25,g26];rw[a9U]
 ·rw[show(a.n.d6 != 1)=Y by simpa using p1];simp only[g25,g2I];rw[a9U]
def f5I{a:u7}(h:NI a.n){m:m9}(hm:MI m)(ho:(O a.out)<=800)(ht:(O a.told)<=800):b9e a m=U (a37 a (a0J a.n m)):=by
 have hf:=hm.fr;unfold b9e a0J;by_cases p3:a.n.d6=3
 ·rw[show(a.n.d6 != 3)=W by simp[p3],g1I];cases hb:m.b5 != a.n.b5
  ·simp only[g26,g1I];cases hs:m.i6 != (O a.n.a9:Int)
   ·simp only[g26];have hsl:m.i6=(O a.n.a9:Int):=by simpa using hs
    obtain⟨q1,q2,q3,q4,q5,q6,q7⟩:a.n.d6=3/\Own a.n/\a.n.d7=[]/\B7 a.n.g9=Y/\(O a.n.b8)=3/\a.n.b8[a.n.Id.toNat]?=U Y/\(O a.n.a9)<40:=by
     rcases h.ld with q|q|q|q
     ·omega
     ·omega
     ·omega
     ·exact q
    obtain⟨f,hff⟩:∃f:Nat,m.d7=(f:Int):=⟨m.d7.toNat,by omega⟩
    obtain⟨c,c1,c2⟩:=d0F (l:=a.n.b8.set (f:Int).toNat Y) (c1s (by simp;omega));rw[hff,z8 (show f<(O a.n.b8) by omega),g0X,c1,g0X,c2];cases htw:L1 (a.n.b8.set (f:Int).toNat Y)
    ·simp only[g26,a37,g1i]
    ·simp only[g25];have hid:=h.id;have hni:NI ⟨a.n.Id,a.n.Acc,a.n.a9,a.n.Seq,a.n.d6,a.n.b5,a.n.d7,a.n.j5,a.n.g9,a.n.b8.set (f:Int).toNat Y,a.n.j6,a.n.j8,a.n.d9,a.n.i5⟩:=
      ⟨h.id,h.pr,h.vl,h.vs,h.kl,h.ks,h.sq,h.ql,h.qs,.inr (.inr (.inr ⟨q1,q2,q3,q4,by simpa using q5,by
       show(a.n.b8.set f Y)[a.n.Id.toNat]?=U Y
       rw[g2q];split
       ·rw[if_pos (by omega)]
       ·exact q6,q7⟩)),h.wt⟩
     have l1:=a2b a.n.Id ⟨5,0,0,0,m.i6,a.n.g9,[]⟩;rw[a8i (by exact hid) (by simp only;omega),g0X];simp only;rw[c8W (a:=⟨⟨a.n.Id,a.n.Acc,a.n.a9,a.n.Seq,a.n.d6,a.n.b5,a.n.d7,a.n.j5,a.n.g9,a.n.b8.set (f:Int).toNat Y,a.n.j6,a.n.j8,a.n.d9,a.n.i5⟩,a.out++G4 a.n.Id ⟨5,0,0,0,m.i6,a.n.g9,[]⟩,a.told⟩) hni q7 q4 (by simp only[g08];omega) (by simp only;omega),g0X,hsl];simp only[a37,g1d]
   ·simp only[g25];rw[b9X]
  ·simp only[g25,g26,g2I];rw[b9X]
 ·rw[show(a.n.d6 != 3)=Y by simpa using p3];simp only[g25,g2I];rw[b9X]
def e5d{a:u7}(h:NI a.n){m:m9}(hm:MI m)(hk:m.b7=5)(ho:(O a.out)<=800)(ht:(O a.told)<=800)(hto:m.To=a.n.Id):b7G a m=U (a37 a (a0K a.n m)):=by
 have hkd:=hm.kd.five hk;unfold b7G a0K;cases h1:decide (m.i6<(O a.n.a9:Int))
 ·cases h2:decide (m.i6>(O a.n.a9:Int))
  ·simp only[g26];have hl:(O a.n.a9)<40:=by simp at h1 h2;omega
   rw[c8W h hl hkd.2 (by omega) (by omega)];rfl
  ·simp only[g26,g25];rw[a9M (by omega)];simp only[g0X,a37,H7,hto,g1i]
 ·simp only[g25];rw[b9X]
def f2o{a:u7}(h:NI a.n){m:m9}(hm:MI m)(hk:m.b7=7)(ho:(O a.out)<=800):b9x a m=U (a1d a (Y9 a.n m)):=by
 have hql:=h.ql;obtain⟨e1,e2⟩:B7 m.i9=Y/\m.i9.j9=W:=by
  rcases hm.kd with q|q|q|q|q|q|q
  ·omega
  ·omega
  ·omega
  ·omega
  ·omega
  ·exact⟨q.2.2.2.1,q.2.2.2.2.1⟩
  ·omega
 unfold b9x Y9;rw[show decide ((O a.n.i5:Int)>=4)=decide (4<=(O a.n.i5)) by simp;omega,e37 (h.ok.2.2.1.fits (by decide))];cases a.n.d6==0
 ·simp only[g26,g1I];cases h4:decide (4<=(O a.n.i5))
  ·simp only[g26,g1I,g0X];cases N3 a.n.a9 m.i9.b6
   ·simp only[g26];have hni:NI {a.n with i5:=a.n.i5++[m.i9]}:=h.queue (by simp at h4⊢;omega) (by
     intro e he;rcases g0Z.1 he with q|q
     ·exact h.qs e q
     ·rw[g03.1 q];exact⟨e1,e2⟩)
    rw[A6 (by omega),b41 (a:=⟨{a.n with i5:=a.n.i5++[m.i9]},a.out,a.told⟩) hni (by simp only;omega)];rfl
   ·simp only[g25];rw[a9U]
  ·simp only[g25,g2I];rw[a9U]
 ·simp only[g25,g2I];rw[a9U]
def b9b{n:m4}(h:NI n):b0r n=U ⟨n,[],[]⟩:=by
 unfold b0r;rw[c0Q h.ok];rfl
def f2L{l:List m9}(hl:(O l)<=1000)(h:∀m∈l,MI m):C4 152 a1L l:=a1J (by omega) λm hm=>(h m hm).ok
def c3m{a:u7}(h:NI a.n)(ho:(O a.out)<=1000)(hm:∀m∈a.out,MI m)(ht:(O a.told)<=1000):a3t a=U (a.n,a.out,a.told,a):=by
 unfold a3t;rw[c0Q h.ok,g0X,d3A (f2L ho hm),g0X,d0f (by omega)];rfl
def c3M{n:m4}{x:m4×List m9}(h:Y6 n x)(hl:(O x.2)<=1000):a3t ⟨x.1,x.2,[]⟩=U (x.1,x.2,[],⟨x.1,x.2,[]⟩):=c3m h.ni hl h.ms (by simp)
def c7y(l:List t7)(prog:List t8):∀(f k:Nat) (regs:List Int) (rs:List w8) (ps:List u9),(Z9 l prog f k regs rs ps).Code≠3
 | 0,_,_,_,_=>by simp[Z9]
 |f+1,k,regs,rs,ps=>by
  unfold Z9;cases prog[k]? with
  |none=>simp
  |some i=>
   simp only;cases i.b7==6
   ·cases i.b7==7
    ·cases(H3 l i regs rs ps).1.all K9
     ·simp
     ·exact c7y l prog f _ _ _ _
    ·simp
   ·exact c7y l prog f _ _ _ _
def f1E{l:List t7}(hb:H1 l=Y)(p:List t8):((E9 l p).Code==3) = !H8 p:=by
 unfold E9;rw[hb,g1h];cases H8 p
 ·rfl
 ·simpa using c7y l p _ _ _ _ _
def e2I{n:m4}(h:NI n):b7h n=U (w9 n.a9).1:=by
 unfold b7h;rw[b0a h.ok,g0X,a2y.2 h];simp only[g04,g26];rw[e0l (okEntries.f h.ok.2.2.1),h.list];rfl
def d5E{prog:List t8}(h:C4 32 okT prog):z4 prog:=h.fits (by decide)
def e0E{n:m4}(h:NI n){prog:List t8}(hp:C4 32 okT prog):b7T n prog=U ((N4 n prog).1,(N4 n prog).2,[]):=by
 have hf:=d5E hp;have hs:=h.sq;have hr:=b0N h hf;have hlen:=c2Q n prog;have e0:=c3m (a:=⟨n,[],[]⟩) h (by simp) (by simp) (by simp);rw[a12]at hr hlen;unfold b7T;rw[b0a h.ok,g0X,a2y.2 h,b9b h,a12,b8I hf,e2I h];simp only[g04,g26,g0X];have hc:((E9 (a3y n) prog).Code==3) = !H8 prog:=f1E (b7q h) prog;rw[show(w9 n.a9).1.j4=a3y n from rfl,c9e (a59 (b7q h)) hf];unfold O2 at hr hlen⊢;rw[hc]at hr hlen⊢;cases hb:n.j6
 ·cases hq:n.Seq==1000
  ·cases hpo:H8 prog
   ·simp only[g1y,g25,g26,e0,g0X];rfl
   ·rw[hb,hq,hpo]at hr hlen;have hca:O2 n prog=Y:=by unfold O2;rw[hc,hb,hq,hpo];rfl
    have hn:=h.asked hf hca;simp only[g04,g1y,Bool.or_false,g25,g26,g0X]at hr hlen⊢;rw[F6 (by omega) (by omega)];have ha:(⟨⟨n.Id,n.Acc,n.a9,n.Seq+1,n.d6,n.b5,n.d7,n.j5,n.g9,n.b8,Y,prog,⟨W,⟨n.Id,n.Seq+1⟩,E9 (a3y n) prog⟩,n.i5⟩,[],[]⟩:u7)=⟨T7 n prog,[],[]⟩:=rfl;have hj:∀x:m4×List m9,Y6 n x->(O x.2)<=3->c1Y ⟨x.1,x.2,[]⟩=U (x.1,x.2,[]):=by
     intro x hx hl;unfold c1Y;rw[c3M hx (by omega)];rfl
    rw[ha];cases h2:n.d6==2
    ·rw[h2]at hr hlen;cases h0:n.d6==0
     ·rw[h0]at hr hlen;simp only[g26,g0X,r9.go]at hr hlen⊢;exact hj _ hr hlen
     ·rw[h0]at hr hlen;simp only[g26,g25]at hr hlen⊢;rw[a8i (a:=⟨T7 n prog,[],[]⟩) (by exact h.id) (by simp)];simp only[g0X,r9.go,g1z];exact hj (T7 n prog,_) hr hlen
    ·rw[h2]at hr hlen;simp only[g25]at hr hlen⊢;rw[b41 (a:=⟨T7 n prog,[],[]⟩) hn (by simp)];simp only[g0X,r9.go,a1d,g1z];exact hj _ hr hlen
  ·simp only[g25,g26,e0,g0X];rfl
 ·simp only[g25,e0,g0X];rfl
def g0l{b who:Int}(hb:0<=b/\b<=3000)(hw:0<=who/\who<=2):c2c b who=U (M5 b who):=by
 have e:∀i:Int,1<=i->i<=4->a3L who (b+i)=U (bif decide (b+i<=3000)then bif g1w (b+i) 3==who then .ret (b+i)else .nxt (b+(i+1))else .brk ()):=by
  intro i h1 h3;unfold a3L;rw[show decide (b+i>0)=Y by simp;omega,d60,F6 (by omega) (by omega),Int.add_assoc];cases hd:decide (b+i<=3000)
  ·rfl
  ·rw[show a1l (b+i)=g1w (b+i) 3 by
    unfold a1l;rw[I1.2 ⟨by omega,by simpa using hd⟩];rfl]
   simp only[g25,g0X];cases g1w (b+i) 3==who<;>rfl
 have hmod:∀i:Int,1<=i->g1w (b+i) 3=(b+i) % 3:=λi hi=>g2k (by omega)
 have e1:=e 1 (by omega) (by omega);have e2:=e 2 (by omega) (by omega);have e3:=e 3 (by omega) (by omega);have m1:=hmod 1 (by omega);have m2:=hmod 2 (by omega);have m3:=hmod 3 (by omega);unfold c2c M5;rw[show decide (b<0)=W by simp;omega,Q7,show v5 who 0 2=Y from I1.2 hw,F6 (by omega) (by omega)];simp only[g26,g0X,g04];cases q1:decide (b+1<=3000)
 ·rw[q1]at e1;rw[F3 (body:=λs:Int=>a3L who s) e1,show decide (b+2<=3000)=W by simp at q1⊢;omega,show decide (b+3<=3000)=W by simp at q1⊢;omega];rfl
 rw[q1]at e1;cases t1:g1w (b+1) 3==who;case true=>rw[t1]at e1;rw[a0o (body:=λs:Int=>a3L who s) e1];rfl
 rw[t1]at e1;rw[G7 (body:=λs:Int=>a3L who s) e1];cases q2:decide (b+2<=3000)
 ·rw[show(1:Int)+1=2 from rfl];rw[q2]at e2;rw[F3 (body:=λs:Int=>a3L who s) e2,show decide (b+3<=3000)=W by simp at q2⊢;omega];rfl
 rw[q2]at e2;rw[show(1:Int)+1=2 from rfl];cases t2:g1w (b+2) 3==who;case true=>rw[t2]at e2;rw[a0o (body:=λs:Int=>a3L who s) e2];rfl
 rw[t2]at e2;rw[G7 (body:=λs:Int=>a3L who s) e2,show(2:Int)+1=3 from rfl];cases q3:decide (b+3<=3000)
 ·rw[q3]at e3;rw[F3 (body:=λs:Int=>a3L who s) e3];rfl
 rw[q3]at e3;have t3:(g1w (b+3) 3==who)=Y:=by
  simp only[beq_eq_false_iff_ne,beq_iff_eq]at t1 t2⊢;omega
 rw[t3]at e3;rw[a0o (body:=λs:Int=>a3L who s) e3,t3];rfl
def e2o{n:m4}(h:NI n):b98 n=U (P9 n):=by
 have hr:=b1Y h;have hl:=c03 n;have hj:∀x:m4×List m9,Y6 n x->(O x.2)<=3->b3B ⟨x.1,x.2,[]⟩=U x:=by
  intro x hx hl;unfold b3B;rw[c3M hx (by omega)];rfl
 unfold b98;unfold P9 at hr hl⊢;rw[b0a h.ok,g0X,a2y.2 h,b9b h,g0l h.pr h.id];simp only[g04,g26,g0X];cases hd:decide (M5 n.Acc.i7 n.Id<0)
 ·rw[hd]at hr hl;simp only[decide_eq_false_iff_not]at hd;obtain⟨c1,c2⟩:=h.accOk;rcases b3Z h.pr h.id with q|⟨q1,q2,q3,q4⟩
  ·omega
  ·have hpr:=h.pr;rw[show decide (M5 n.Acc.i7 n.Id>=0)=Y by simp;omega];simp only[g25,g26,c71,g0X]at hr hl⊢;rw[c1u (a:=(a0E n).Acc) c1 c2,show J6 (a0E n).Acc (M5 n.Acc.i7 n.Id)=U ⟨M5 n.Acc.i7 n.Id,n.Acc.b8⟩from b4f (a:=n.Acc) (by omega) q3 (by omega),g0X,d4t (by exact h.id),g0X];simp only;have ha:=a8i (a:=⟨⟨n.Id,⟨M5 n.Acc.i7 n.Id,n.Acc.b8⟩,n.a9,n.Seq,1,M5 n.Acc.i7 n.Id,a0u n.Id,n.Acc.b8,zE,[],n.j6,n.j8,n.d9,n.i5⟩,[],[]⟩) h.id (by simp) ⟨1,0,0,M5 n.Acc.i7 n.Id,(O n.a9:Int),zE,[]⟩;refine(congrArg (λx:Option u7=>((x.bind λall=>U (r9.brk all)).bind λx:r9 (m4×List m9) u7=>x.go U λj=>b3B j)) ha).trans ?_;simp only[g0X,r9.go,g1z];have e:=hj _ hr hl;exact e
 ·rw[hd]at hr hl;rw[show decide (M5 n.Acc.i7 n.Id>=0)=W by simp at hd⊢;omega];simp only[g26,g25,g0X,r9.go]at hr hl⊢;exact hj (n,[]) hr hl
def e0L{n:m4}(h:NI n):b9u n=U ((K5 n).1,(K5 n).2,[]):=by
 have hr:=b2E h;have hl:=c22 n;have hj:∀x:m4×List m9,Y6 n x->(O x.2)<=6->b8b ⟨x.1,x.2,[]⟩=U (x.1,x.2,[]):=by
  intro x hx hl;unfold b8b;rw[c3M hx (by omega)];rfl
 have l0:=a2b n.Id ⟨8,0,0,0,(O n.a9:Int),zE,[]⟩;unfold b9u;unfold K5 at hr hl⊢;rw[b0a h.ok,g0X,a2y.2 h,b9b h];simp only[g04,g26,g0X];rw[a8i (a:=⟨n,[],[]⟩) (by exact h.id) (by simp)];simp only[g0X,g1z];have l1:(G4 n.Id ⟨8,0,0,0,(O n.a9:Int),⟨W,⟨0,0⟩,⟨[],[],0,0⟩⟩,[]⟩).length<=3:=l0;cases h1:n.d6==1
 ·cases h2:n.d6==2
  ·cases h3:n.d6==3
   ·cases hbz:n.j6
    ·rw[h1,h2,h3,hbz]at hr hl;simp only[g26,g0X,r9.go]at hr hl⊢;have e:=hj _ hr hl;exact e
    ·rw[h1,h2,h3,hbz]at hr hl;simp only[g26,g25]at hr hl⊢;rw[a8i (by exact h.id) (by simp only;omega)];simp only[g0X,r9.go];have e:=hj _ hr hl;exact e
   ·rw[h1,h2,h3]at hr hl;simp only[g26,g25]at hr hl⊢;rw[a8i (by exact h.id) (by simp only;omega)];simp only[g0X,r9.go];have e:=hj _ hr hl;exact e
  ·rw[h1,h2]at hr hl;simp only[g26,g25]at hr hl⊢;rw[b41 (by exact h) (by simp only;omega)];simp only[g0X,r9.go];have e:=hj _ hr hl;exact e
 ·rw[h1]at hr hl;simp only[g25]at hr hl⊢;rw[a8i (by exact h.id) (by simp only;omega)];simp only[g0X,r9.go];have e:=hj _ hr hl;exact e
def f4j{n:m4}(h:NI n):b6Y n=U (U5 n):=by
 unfold b6Y;rw[b0a h.ok,g0X,a2y.2 h];simp only[g04,g26];rw[show(⟨n.Id,n.Acc,n.a9,n.Seq,0,0,[],[],⟨W,⟨0,0⟩,⟨[],[],0,0⟩⟩,[],W,[],⟨W,⟨0,0⟩,⟨[],[],0,0⟩⟩,[]⟩:m4)=U5 n from rfl,c0Q h.fall.ok];rfl
def d8u{n:m4}(h:NI n){m:m9}(hto:m.To=n.Id):∀(d k:Nat) (o:List m9),(O n.a9)-k=d->(O o)<=k->u5 (λs:Int×u7=>a7g m s.1 s.2) ((k:Int),⟨n,o,[]⟩)=U (.brk ⟨n,o++((g09 d).map λj=>T0 n m (k+j)).flatten,[]⟩)
 | 0,k,o,hd,ho=>by
  have hkl:=h.kl;refine(F3 (body:=λs:Int×u7=>a7g m s.1 s.2) (b:=⟨n,o,[]⟩) ?_).trans (by simp);unfold a7g;rw[show decide ((k:Int)<(O n.a9:Int))=W by simp;omega];rfl
 |d+1,k,o,hd,ho=>by
  have hkl:=h.kl;have hlt:k<(O n.a9):=by omega
  have hb:a7g m (k:Int) ⟨n,o,[]⟩=U (.nxt (((k+1:Nat):Int),⟨n,o++T0 n m k,[]⟩)):=by
   unfold a7g;rw[B0 _ k hlt,g25];simp only;rw[z8 hlt,g0X,a9M (by simp only;omega),c0y m hlt,J0 (h.ok.2.2.1.fits (by decide)) hlt];simp only[g0X,H7,hto]
  rw[G7 (body:=λs:Int×u7=>a7g m s.1 s.2) (s:=((k:Int),⟨n,o,[]⟩)) hb,d8u h hto d (k+1) _ (by omega) (by rw[c0y m hlt];simp;omega)];rw[g2N,g1v,g1t,g1d,g2o];simp only[g2n,Function.comp_def,Nat.succ_eq_add_one,Nat.add_assoc,Nat.add_comm 1]
def e90{n:m4}(h:NI n){m:m9}(hm:MI m)(hto:m.To=n.Id):c1I n m=U (D8 n m):=by
 have hr:=b5F h hm;have hl:=c1X h m;have hj:∀x:m4×List m9×List s8,a7s n x->(O x.2.1)<=60->(O x.2.2)<=1->b7c ⟨x.1,x.2.1,x.2.2⟩=U x:=by
  intro x hx h1 h2;unfold b7c;rw[c3m hx.ni (by simp only;omega) hx.ms (by simp only;omega)];rfl
 have hz:NI (⟨n,[],[]⟩:u7).n:=h;unfold c1I;unfold D8 at hr hl⊢;rw[b0a h.ok,g0X,a2y.2 h,b9b h,d1v hm.ok,c9x.2 hm,show(m.To != n.Id)=W by simpa using hto];simp only[g04,g26,g0X];by_cases k1:m.b7=1
 ·rw[show(m.b7==1)=Y by simpa using k1]at hr hl⊢;simp only[g25]at hr hl⊢;rw[f8i (a:=⟨n,[],[]⟩) h hm (by simp) hto];have e:=hj _ hr hl.1 hl.2;exact e
 rw[show(m.b7==1)=W by simpa using k1]at hr hl⊢;by_cases k2:m.b7=2
 ·rw[show(m.b7==2)=Y by simpa using k2]at hr hl⊢;simp only[g25,g26]at hr hl⊢;rw[e3B (a:=⟨n,[],[]⟩) h hm k2 (by simp)];have e:=hj _ hr hl.1 hl.2;exact e
 rw[show(m.b7==2)=W by simpa using k2]at hr hl⊢;by_cases k3:m.b7=3
 ·rw[show(m.b7==3)=Y by simpa using k3]at hr hl⊢;simp only[g25,g26]at hr hl⊢;rw[f5U (a:=⟨n,[],[]⟩) h hm (by simp) hto];have e:=hj _ hr hl.1 hl.2;exact e
 rw[show(m.b7==3)=W by simpa using k3]at hr hl⊢;by_cases k4:m.b7=4
 ·rw[show(m.b7==4)=Y by simpa using k4]at hr hl⊢;simp only[g25,g26]at hr hl⊢;rw[f5I (a:=⟨n,[],[]⟩) h hm (by simp) (by simp)];have e:=hj _ hr hl.1 hl.2;exact e
 rw[show(m.b7==4)=W by simpa using k4]at hr hl⊢;by_cases k5:m.b7=5
 ·rw[show(m.b7==5)=Y by simpa using k5]at hr hl⊢;simp only[g25,g26]at hr hl⊢;rw[e5d (a:=⟨n,[],[]⟩) h hm k5 (by simp) (by simp) hto];have e:=hj _ hr hl.1 hl.2;exact e
 rw[show(m.b7==5)=W by simpa using k5]at hr hl⊢;by_cases k6:m.b7=6
 ·rw[show(m.b7==6)=Y by simpa using k6]at hr hl⊢;obtain⟨c1,c2⟩:=h.accOk;simp only[g25,g26]at hr hl⊢;rw[c1u c1 c2];cases hp:J6 n.Acc m.b5
  ·rw[hp]at hr;simp only[g0X,c1N,r9.go];have e:=hj _ hr hl.1 hl.2;exact e
  ·rw[hp]at hr;simp only[g0X,c1N,r9.go];have e:=hj _ hr hl.1 hl.2;exact e
 rw[show(m.b7==6)=W by simpa using k6]at hr hl⊢;by_cases k7:m.b7=7
 ·rw[show(m.b7==7)=Y by simpa using k7]at hr hl⊢;simp only[g25,g26]at hr hl⊢;rw[f2o (a:=⟨n,[],[]⟩) h hm k7 (by simp)];have e:=hj _ hr hl.1 hl.2;exact e
 rw[show(m.b7==7)=W by simpa using k7]at hr hl⊢;cases k8:m.b7==8
 ·rw[k8]at hr hl;simp only[g26,g0X,r9.go]at hr hl⊢;have e:=hj _ hr hl.1 hl.2;exact e
 ·rw[k8]at hr hl;have hs:=hm.sl;obtain⟨k,hk⟩:∃k:Nat,m.i6=(k:Int):=⟨m.i6.toNat,by omega⟩
  simp only[g26,g25]at hr hl⊢;unfold W2 at hr hl⊢;rw[hk]at hr hl⊢;rw[g1p]at hr hl⊢;rw[d8u h hto ((O n.a9)-k) k [] rfl (by simp)];have e:=hj _ hr hl.1 hl.2;exact e
def c5w{l:List m9}(hl:z4 l):∀(d k:Nat) (net:List m9),(O net)<=40->(O l)-k=d->u5 (λs:(List m9)×Int=>a5a l s.1 s.2) (net,(k:Int))=U (.brk (net++(l.drop k).take (40-(O net))))
 | 0,k,net,hn,hd=>by
  refine(F3 (body:=λs:(List m9)×Int=>a5a l s.1 s.2) (b:=net) ?_).trans (by rw[g1r (by omega)];simp);unfold a5a;rw[show decide ((k:Int)<(O l:Int))=W by simp;omega];rfl
 |d+1,k,net,hn,hd=>by
  have hlt:k<(O l):=by omega
  rw[g1q hlt];by_cases h40:(O net)<40
  ·rw[G7 (body:=λs:(List m9)×Int=>a5a l s.1 s.2) (t:=(net++[l[k]],((k+1:Nat):Int))) (by
    unfold a5a b8D;rw[B0 _ k hlt,g25,z8 hlt,g0X,show decide ((O net:Int)<40)=Y by simp;omega,g25,A6 (by simp only;omega),J0 hl hlt];rfl),c5w hl d (k+1) _ (by simp;omega) (by omega),g08,g1Q,show 40-(O net)=(40-((O net)+1))+1 by omega,g2s,g1d]
   rfl
  ·rw[G7 (body:=λs:(List m9)×Int=>a5a l s.1 s.2) (t:=(net,((k+1:Nat):Int))) (by
    unfold a5a b8D;rw[B0 _ k hlt,g25,z8 hlt,g0X,show decide ((O net:Int)<40)=W by simp;omega,g26,J0 hl hlt];rfl),c5w hl d (k+1) _ hn (by omega),show 40-(O net)=0 by omega,g1P,g1P]
def c7b{l:List s8}(hl:z4 l):∀(d k:Nat) (net:List s8),(O net)<=60->(O l)-k=d->u5 (λs:(List s8)×Int=>a5N l s.1 s.2) (net,(k:Int))=U (.brk (net++(l.drop k).take (60-(O net))))
 | 0,k,net,hn,hd=>by
  refine(F3 (body:=λs:(List s8)×Int=>a5N l s.1 s.2) (b:=net) ?_).trans (by rw[g1r (by omega)];simp);unfold a5N;rw[show decide ((k:Int)<(O l:Int))=W by simp;omega];rfl
 |d+1,k,net,hn,hd=>by
  have hlt:k<(O l):=by omega
  rw[g1q hlt];by_cases h40:(O net)<60
  ·rw[G7 (body:=λs:(List s8)×Int=>a5N l s.1 s.2) (t:=(net++[l[k]],((k+1:Nat):Int))) (by
    unfold a5N c0F;rw[B0 _ k hlt,g25,z8 hlt,g0X,show decide ((O net:Int)<60)=Y by simp;omega,g25,A6 (by simp only;omega),J0 hl hlt];rfl),c7b hl d (k+1) _ (by simp;omega) (by omega),g08,g1Q,show 60-(O net)=(60-((O net)+1))+1 by omega,g2s,g1d]
   rfl
  ·rw[G7 (body:=λs:(List s8)×Int=>a5N l s.1 s.2) (t:=(net,((k+1:Nat):Int))) (by
    unfold a5N c0F;rw[B0 _ k hlt,g25,z8 hlt,g0X,show decide ((O net:Int)<60)=W by simp;omega,g26,J0 hl hlt];rfl),c7b hl d (k+1) _ hn (by omega),show 60-(O net)=0 by omega,g1P,g1P]
def b0X{w:m6}(hn:(O w.b9)=3)(hnet:(O w.c9)<=40)(htl:(O w.Told)<=60){n:m4}(hid:0<=n.Id/\n.Id<=2){l:List m9}(hl:(O l)<=100){t:List s8}(ht:(O t)<=100):a6I w n l t=U (a6x (U3 (J9 w n.Id n) l) t):=by
 obtain⟨k,hk⟩:∃k:Nat,n.Id=(k:Int):=⟨n.Id.toNat,by omega⟩
 unfold a6I;rw[hk,z8 (show k<(O w.b9) by omega),g0X];rw[show u5 (λs:(List m9)×Int=>a5a l s.1 s.2) (w.c9,0)=_ from c5w (by unfold z4;omega) (O l) 0 w.c9 hnet (by omega)];simp only[g0X,r9.go,c7c];rw[show u5 (λs:(List s8)×Int=>a5N t s.1 s.2) (w.Told,0)=_ from c7b (by unfold z4;omega) (O t) 0 w.Told htl (by omega)];simp only[g0X,r9.go,c34,g2a,hk];rfl
def f3K{l:List m9}{k:Nat}(hk:k<(O l))(hl:(O l)<=100):b6y l (k:Int)=U (l.take k++l.drop (k+1)):=by
 unfold b6y;rw[F6 (by omega) (by omega)];have e1:((k:Int)+1).toNat=k+1:=by omega
 have l1:((l.drop 0).take ((k:Int).toNat-0)).length<=100:=by simp;omega
 have l2:((l.drop (k+1)).take ((O l)-(k+1))).length<=100:=by simp;omega
 rw[A6 (by omega),A6 (by simp only[g2i];omega),A6 (by omega),e1,A6 (by simp only[g08,g2i];omega)];rw[c6C];simp
def e8S(n:m4)(p:List t8):(O2 n p=Y/\(N4 n p).1.Seq=n.Seq+1/\(N4 n p).1.d9.b6=⟨n.Id,n.Seq+1⟩)\/(O2 n p=W/\N4 n p=(n,[])):=by
 cases hc:O2 n p
 ·right
  rw[a12,hc];exact⟨rfl,rfl⟩
 ·left
  refine⟨rfl,?_,?_⟩
  ·rw[a12,hc];simp only[g25];cases n.d6==2
   ·rfl
   ·exact(a9j (T7 n p)).seq
  ·rw[b8x hc];rfl
def onN(w:m6)(e:v6):m6:=
 bif e.b7==1 then a4J w e.A e.j8 else
 bif e.b7==5 then U3 (J9 w e.A (P9 (E8 w e.A)).1) (P9 (E8 w e.A)).2 else
 bif e.b7==6 then U3 (J9 w e.A (K5 (E8 w e.A)).1) (K5 (E8 w e.A)).2 else
 bif e.b7==7 then J9 w e.A (U5 (E8 w e.A))else w
def c5t(w:m6)(e:v6):t6 w e=bif e.b7==2||(e.b7==3||e.b7==4)then a0P w e else bif v5 e.A 0 2 then onN w e else w:=by
 unfold t6 onN;cases e.b7==2||(e.b7==3||e.b7==4)
 ·cases v5 e.A 0 2<;>rfl
 ·rfl
def f8g{w:m6}(h:WI w){e:v6}(he:O0 e)(hi:v5 e.A 0 2=Y):a7D w e=U (onN w e):=by
 rw[I1]at hi;obtain⟨i,hA⟩:∃i:Nat,e.A=(i:Int):=⟨e.A.toNat,by omega⟩
 obtain⟨n,hg,hn,hid,hni,hlt⟩:=a4P h (i:=i) (by omega);have hal:=h.al;unfold a7D onN;rw[hA,a66,hg,g0X,hn];cases e.b7==1
 ·cases e.b7==5
  ·cases e.b7==6
   ·cases e.b7==7
    ·rfl
    ·simp only[g25,g26];rw[f4j hni,g0X,b0X h.nl h.ml h.tl (by exact hni.id) (by simp) (by simp),g0X,a4y,c2V];simp only[g0X,r9.go,c2g];rw[show(U5 n).Id=(i:Int)from hid]
   ·simp only[g25,g26];have hr:=b2E hni;have hl:=c22 n;rw[e0L hni,g0X];simp only;rw[b0X h.nl h.ml h.tl (by rw[hr.id];exact hni.id) (by omega) (by simp),g0X,a4y,hr.id,hid];rfl
  ·simp only[g25,g26];have hr:=b1Y hni;have hl:=c03 n;rw[e2o hni,g0X,b0X h.nl h.ml h.tl (by rw[hr.id];exact hni.id) (by omega) (by simp),g0X,a4y,hr.id,hid];rfl
 ·simp only[g25];unfold a4J;rw[show decide ((O w.i4:Int)>=60)=decide (60<=(O w.i4)) by simp;omega];cases decide (60<=(O w.i4))
  ·simp only[g26];have hr:=b0N hni (d5E he);have hl:=c2Q n e.j8;rw[e0E hni he,g0X];simp only;rw[b0X h.nl h.ml h.tl (by rw[hr.id];exact hni.id) (by omega) (by simp),g0X,a4y,hr.id,hid,hn];rcases e8S n e.j8 with⟨c1,c2,c3⟩|⟨c1,c2⟩
   ·rw[show((N4 n e.j8).1.Seq != n.Seq)=Y by rw[c2];simp;omega,show decide ((N4 n e.j8).1.Seq>n.Seq)=Y by rw[c2];simp;omega];simp only[g25];rw[A6 (by show((O w.i4)+1)*40<=_;omega)];simp only[g0X,r9.go,c2g];rw[c3,c2,hid];rfl
   ·rw[c2,show(n.Seq != n.Seq)=W by simp,show decide (n.Seq>n.Seq)=W by simp];rfl
  ·rfl
def e5l{w:m6}(h:WI w){e:v6}{k:Nat}(hA:e.A=(k:Int))(hk:k<(O w.c9))(hkd:(e.b7==2||(e.b7==3||e.b7==4))=Y):a8O w e=U (a0P w e):=by
 have hml:=h.ml;unfold a8O a0P;rw[hA,z8 hk,g0X,show decide (0<=(k:Int))=Y by simp,g1p,g0Y hk];have hm:=h.ms _ (g01 hk);generalize w.c9[k]=m at hm;have hof:=f3K hk (by omega);have ht:=hm.to;obtain⟨t,htt⟩:∃t:Nat,m.To=(t:Int):=⟨m.To.toNat,by omega⟩
 simp only[g25];by_cases k2:e.b7=2
 ·rw[show(e.b7==2)=Y by simpa using k2,show(e.b7==4)=W by simp[k2],show(e.b7==3)=W by simp[k2]];simp only[g25,g26];have ho:=h.off (k:Int);obtain⟨n,hg,hn,hid,hni,hlt⟩:=a4P ho (i:=t) (by omega);have hn':E8 w (t:Int)=n:=hn;have hg':w.b9[t]?=U n:=hg;have hr:=b5F hni hm;obtain⟨l1,l2⟩:=c1X hni m;rw[hof,g0X,htt,a66,hg',g0X,e90 hni hm (htt.trans hid.symm),g0X,b0X (w:=⟨w.b9,w.c9.take k++w.c9.drop (k+1),w.i4,w.Told⟩) h.nl ho.ml h.tl (by rw[hr.id];exact hni.id) (by omega) (by omega),g0X,hn',hr.id,hid];rfl
 ·rw[show(e.b7==2)=W by simpa using k2];cases k3:e.b7==3
  ·rw[show(e.b7==4)=Y by rw[show(e.b7==2)=W by simpa using k2,k3]at hkd;simpa using hkd];simp only[g25,g26];obtain⟨n,hg,hn,hid,hni,hlt⟩:=a4P h (i:=t) (by omega);rw[htt,a66,hg,g0X,b0X h.nl h.ml h.tl hni.id (by simp) (by simp),g0X,a4y,hid,c3c hg];rfl
  ·rw[show(e.b7==4)=W by simp only[beq_iff_eq]at k3;simp[k3]];simp only[g25,g26];rw[hof];rfl
def b4o{w:m6}(h:WI w){e:v6}(he:O0 e):a7X w e=U (t6 w e):=by
 have hd:=Y7 h he;have hml:=h.ml;have hcp:a2A w=U w:=b4P h.ok;have hcd:a2A (t6 w e)=U (t6 w e):=b4P hd.ok;have hin:s6 ((O w.b9:Int)-1)=2:=by rw[h.nl];rfl
 have hnode:(e.b7==2||(e.b7==3||e.b7==4))=W->((H2 e.A 0 2).bind λin_=>bif in_ then(a7D w e).bind λo=>U (r9.brk o)else U (r9.brk w):Option (r9 m6 m6))=U (.brk (t6 w e)):=by
  intro hk;rw[Q7,g0X,c5t,hk];cases hi:v5 e.A 0 2
  ·rfl
  ·simp only[g25,g26];rw[f8g h he hi];rfl
 have hmsg:(e.b7==2||(e.b7==3||e.b7==4))=Y->((H2 e.A 0 (s6 ((O w.c9:Int)-1))).bind λin_=>bif in_ then(a8O w e).bind λo=>U (r9.brk o)else U (r9.brk w):Option (r9 m6 m6))=U (.brk (t6 w e)):=by
  intro hk;rw[F6 (by omega) (by omega),Q7,g0X,c5t,hk];cases hi:v5 e.A 0 ((O w.c9:Int)-1)
  ·simp only[g25,g26];rw[show a0P w e=w by
    unfold a0P;cases h0:decide (0<=e.A)
    ·rfl
    ·have:¬(0<=e.A/\e.A<=(O w.c9:Int)-1):=λq=>by rw[I1.2 q]at hi;cases hi
     have h0':0<=e.A:=of_decide_eq_true h0;rw[g1s (by omega)];rfl]
  ·rw[I1]at hi;simp only[g25];rw[e5l h (k:=e.A.toNat) (by omega) (by omega) hk];rfl
 unfold a7X;rw[hcp,g0X,hin];by_cases k1:e.b7=1
 ·have hf:(e.b7==2||(e.b7==3||e.b7==4))=W:=by simp[k1]
  rw[show(e.b7==1)=Y by simpa using k1];simp only[g25];rw[hnode hf];simp only[g0X,r9.go,c7n,hcd]
 rw[show(e.b7==1)=W by simpa using k1];by_cases k5:e.b7=5
 ·have hf:(e.b7==2||(e.b7==3||e.b7==4))=W:=by simp[k5]
  rw[show(e.b7==5)=Y by simpa using k5];simp only[g25,g26];rw[hnode hf];simp only[g0X,r9.go,c28,hcd]
 rw[show(e.b7==5)=W by simpa using k5];by_cases k6:e.b7=6
 ·have hf:(e.b7==2||(e.b7==3||e.b7==4))=W:=by simp[k6]
  rw[show(e.b7==6)=Y by simpa using k6];simp only[g25,g26];rw[hnode hf];simp only[g0X,r9.go,c52,hcd]
 rw[show(e.b7==6)=W by simpa using k6];simp only[g26];have fin:∀X:Option (r9 m6 m6),X=U (.brk (t6 w e))->(X.bind λx=>x.go U λj=>c2w j)=U (t6 w e):=by
  intro X hX;rw[hX];simp only[g0X,r9.go,c2w,hcd]
 refine fin _ ?_;by_cases k7:e.b7=7
 ·rw[show(e.b7==7)=Y by simpa using k7];exact hnode (by simp[k7])
 rw[show(e.b7==7)=W by simpa using k7];by_cases k2:e.b7=2
 ·rw[show(e.b7==2)=Y by simpa using k2];exact hmsg (by simp[k2])
 by_cases k3:e.b7=3
 ·rw[show(e.b7==2)=W by simpa using k2,show(e.b7==3)=Y by simpa using k3];exact hmsg (by simp[k3])
 by_cases k4:e.b7=4
 ·rw[show(e.b7==2)=W by simpa using k2,show(e.b7==3)=W by simpa using k3,show(e.b7==4)=Y by simpa using k4];exact hmsg (by simp[k4])
 have e2:(e.b7==2)=W:=by simpa using k2
 have e3:(e.b7==3)=W:=by simpa using k3
 have e4:(e.b7==4)=W:=by simpa using k4
 rw[e2,e3,e4,c5t,e2,e3,e4];have:onN w e=w:=by
  unfold onN;rw[show(e.b7==1)=W by simpa using k1,show(e.b7==5)=W by simpa using k5,show(e.b7==6)=W by simpa using k6,show(e.b7==7)=W by simpa using k7];rfl
 rw[this];cases v5 e.A 0 2<;>rfl
def f9B{w:m6}(h:WI w){e:v6}(he:O0 e):b99 w e=U (t6 w e):=by
 unfold b99;rw[a31 h.ok,g0X,a0t.2 h];simp only[g04,g26];rw[b4o h he];rfl
def d2V{l:List v6}(hl:z4 l)(he:∀e∈l,O0 e):∀(d k:Nat) (w:m6),WI w->(O l)-k=d->u5 (λs:Int×m6=>a8a l s.1 s.2) ((k:Int),w)=U (.brk (a1x w (l.drop k)))
 | 0,k,w,h,hd=>by
  rw[g1r (by omega)];refine F3 (body:=λs:Int×m6=>a8a l s.1 s.2) (b:=w) ?_;unfold a8a;rw[show decide ((k:Int)<(O l:Int))=W by simp;omega];rfl
 |d+1,k,w,h,hd=>by
  have hlt:k<(O l):=by omega
  have hek:=he _ (g01 hlt);rw[G7 (body:=λs:Int×m6=>a8a l s.1 s.2) (t:=(((k+1:Nat):Int),t6 w l[k])) (by
   unfold a8a;rw[B0 _ k hlt,z8 hlt,g25,g0X,b4o h hek,g0X,J0 hl hlt]),d2V hl he d (k+1) _ (Y7 h hek) (by omega),g1q hlt]
  rfl
def c8Q{w:m6}(h:X6 w){l:List v6}(hl:z4 l)(he:∀e∈l,O0 e):b0U w l=U (bif C8 w&&decide ((O l)<=400)then a1x w l else noW):=by
 unfold b0U;rw[a31 h,g0X,show decide ((O l:Int)>400) = !decide ((O l)<=400)from b2s l 400];cases hw:C8 w
 ·rfl
 ·cases decide ((O l)<=400)
  ·rfl
  ·simp only[g04,g26,Bool.and_self,g25];rw[b4P h,g0X,show u5 (λs:Int×m6=>a8a l s.1 s.2) (0,w)=_ from d2V hl he (O l) 0 w (a0t.1 hw) rfl];rfl
def g0U{l:List v6}(he:∀e∈l,O0 e)(hl:(O l)<=300):b0U O7 l=U (a1x O7 l):=by
 have hf:z4 l:=by unfold z4;omega
 have h:=WI.open;rw[c8Q h.ok hf he,a0t.2 h,decide_eq_true (by omega)];rfl
def f1K{l:List v6}(he:∀e∈l,O0 e)(hl:(O l)<=300):b0U O7 l=U (a1x O7 l)/\b6T O7 l=U (a1x O7 l)/\WI (a1x O7 l):=by
 have hf:z4 l:=by unfold z4;omega
 have h:=WI.open;refine⟨?_,?_,d3c h he⟩
 ·rw[c8Q h.ok hf he,a0t.2 h,decide_eq_true (by omega)];rfl
 ·rw[e4U h.ok hf he,a0t.2 h,decide_eq_true (by omega)];rfl
def D3(i:Int):Prop:=0<=i/\i<=2
abbrev VR:=Int->Nat->Int->p9->Prop
abbrev PR:=Int->Nat->p9->Prop
abbrev MS:=m9->Prop
def a2V(V:VR)(s:Nat)(e:p9):Prop := ∃b p q,D3 p/\D3 q/\p≠q/\V p s b e/\V q s b e
structure Cov(N:Int->m4)(V:VR)(n:m4)(q:Int):Prop where
 pr:n.b5<=(N q).Acc.i7
 cv:∀s b e,(O n.a9)<=s->b<n.b5->V q s b e->∃v,n.j5[s]?=U v/\b<=v.b5
def Quo(p:Int->Prop):Prop := ∃a b,D3 a/\D3 b/\a≠b/\p a/\p b
structure LD(N:Int->m4)(V:VR)(P:PR)(n:m4):Prop where
 bs:n.d6≠0->∀s v,n.j5[s]?=U v->v.b5>0->v.b5<n.b5/\∃q,V q s v.b5 v.i9
 l1:n.d6=1->(∀s e,¬P n.b5 s e)/\∀q,D3 q->n.d7[q.toNat]?=U Y->Cov N V n q
 l2:n.d6=2->(∀s e,P n.b5 s e->s<(O n.a9))/\Quo (Cov N V n)
 l3:n.d6=3->P n.b5 (O n.a9) n.g9/\(∀s e,P n.b5 s e->s<=(O n.a9))/\Quo (Cov N V n)/\∀q,D3 q->n.b8[q.toNat]?=U Y->V q (O n.a9) n.b5 n.g9
structure MV(N:Int->m4)(V:VR)(P:PR)(m:m9):Prop where
 k1:m.b7=1->g1w m.b5 3=m.d7/\m.i6<=(N m.d7).a9.length
 k2:m.b7=2->m.i6<=(N m.To).a9.length/\m.b5<=(N m.d7).Acc.i7/\(∀s b e,m.i6.toNat<=s->b<m.b5->V m.d7 s b e->∃v,m.b8[s-m.i6.toNat]?=U v/\b<=v.b5)/\∀k v,m.b8[k]?=U v->v.b5>0->v.b5<=m.b5/\V m.d7 (m.i6.toNat+k) v.b5 v.i9
 k3:m.b7=3->P m.b5 m.i6.toNat m.i9
 k4:m.b7=4->∃e,V m.d7 m.i6.toNat m.b5 e
 k5:m.b7=5->a2V V m.i6.toNat m.i9
def Sf(N:Int->m4)(V:VR)(b:Int)(s:Nat)(e:p9)(q:Int):Prop:=
 b<=(N q).Acc.i7/\∀b' e',b'<b->V q s b' e'->∃b1 q1,b'<=b1/\b1<b/\V q1 s b1 e
structure PX(N:Int->m4)(V:VR)(P:PR)(M:MS):Prop where
 ni:∀i,D3 i->NI (N i)/\(N i).Id=i
 vp:∀i s b e,V i s b e->D3 i/\P b s e/\1<=b/\b<=(N i).Acc.i7
 cur:∀i s v,D3 i->(N i).Acc.b8[s]?=U v->v.b5>0->V i s v.b5 v.i9
 max:∀i s b e,V i s b e->∃v,(N i).Acc.b8[s]?=U v/\b<=v.b5
 pu:∀b s e e',P b s e->P b s e'->e=e'
 po:∀b s e,P b s e->1<=b/\b<=(N (g1w b 3)).Acc.i7
 safe:∀b s e,P b s e->Quo (Sf N V b s e)
 ld:∀i,D3 i->LD N V P (N i)
 kn:∀i s e,D3 i->(N i).a9[s]?=U e->a2V V s e
 ms:∀m,M m->MI m/\MV N V P m
def f8x{p q:Int->Prop}(hp:Quo p)(hq:Quo q):∃a,D3 a/\p a/\q a:=by
 obtain⟨a,b,ha,hb,hab,pa,pb⟩:=hp;obtain⟨c,d,hc,hd,hcd,qc,qd⟩:=hq;unfold D3 at *;by_cases h1:a=c
 ·exact⟨a,ha,pa,h1▸qc⟩
 by_cases h2:a=d
 ·exact⟨a,ha,pa,h2▸qd⟩
 by_cases h3:b=c
 ·exact⟨b,hb,pb,h3▸qc⟩
 by_cases h4:b=d
 ·exact⟨b,hb,pb,h4▸qd⟩
 omega
section
variable {N:Int->m4} {V:VR} {P:PR} {M:MS}
def PX.later(h:PX N V P M){s:Nat}{b0:Int}{e0:p9}(hc:Quo λq=>V q s b0 e0):∀(k:Nat) (b:Int) (e:p9),b.toNat=k->b0<=b->P b s e->e=e0:=by
 have h0:P b0 s e0:=by obtain⟨p,q,_,_,_,v,_⟩:=hc;exact(h.vp _ _ _ _ v).2.1
 intro k;induction k using Nat.strongRecOn with
 |_ k ih=>
  intro b e hb hle hp;by_cases hq:b0=b
  ·subst hq;exact h.pu _ _ _ _ hp h0
  ·obtain⟨a,ha,v,s1,s2⟩:=f8x hc (h.safe b s e hp);obtain⟨b1,q1,h1,h2,h3⟩:=s2 b0 e0 (by omega) v;obtain⟨_,p1,p2,_⟩:=h.vp _ _ _ _ h3;exact ih b1.toNat (by omega) b1 e rfl h1 p1
def PX.one(h:PX N V P M){s:Nat}{e e':p9}(h1:a2V V s e)(h2:a2V V s e'):e=e':=by
 obtain⟨b,p,q,hp,hq,hpq,v1,v2⟩:=h1;obtain⟨b',p',q',hp',hq',hpq',w1,w2⟩:=h2;have c1:Quo λq=>V q s b e:=⟨p,q,hp,hq,hpq,v1,v2⟩
 have c2:Quo λq=>V q s b' e':=⟨p',q',hp',hq',hpq',w1,w2⟩
 rcases Int.le_total b b' with hl|hl
 ·exact(h.later c1 _ b' e' rfl hl (h.vp _ _ _ _ w1).2.1).symm
 ·exact h.later c2 _ b e rfl hl (h.vp _ _ _ _ v1).2.1
def PX.still(h:PX N V P M){s:Nat}{e:p9}(hc:a2V V s e):Quo λq => ∃v,(N q).Acc.b8[s]?=U v/\v.b5>0/\v.i9=e:=by
 obtain⟨b,p,q,hp,hq,hpq,v1,v2⟩:=hc;have c1:Quo λq=>V q s b e:=⟨p,q,hp,hq,hpq,v1,v2⟩
 have key:∀a,D3 a->V a s b e->∃v,(N a).Acc.b8[s]?=U v/\v.b5>0/\v.i9=e:=by
  intro a ha va;obtain⟨v,x1,x2⟩:=h.max _ _ _ _ va;have hb:=(h.vp _ _ _ _ va).2.2.1;have vv:=h.cur a s v ha x1 (by omega);exact⟨v,x1,by omega,h.later c1 _ v.b5 v.i9 rfl x2 (h.vp _ _ _ _ vv).2.1⟩
 exact⟨p,q,hp,hq,hpq,key p hp v1,key q hq v2⟩
end
def upd(N:Int->m4)(i:Int)(n:m4):Int->m4:=λj=>if j=i then n else N j
def X7(N:Int->m4)(i:Int)(n:m4):upd N i n i=n:=if_pos rfl
def b22{N:Int->m4}{i j:Int}(n:m4)(h:j≠i):upd N i n j=N j:=if_neg h
def a4l(N:Int->m4)(i:Int)(a b:m4):upd (upd N i a) i b=upd N i b:=by
 funext j;unfold upd;split<;>rfl
def a98(N:Int->m4)(i:Int):upd N i (N i)=N:=by
 funext j;unfold upd;split
 ·rename_i h;rw[h]
 ·rfl
def a2a.own{n:m4}(h:a2a n)(hp:n.d6≠0):Own n:=by
 rcases h with q|q|q|q
 ·exact absurd q.1 hp
 ·exact q.2.1
 ·exact q.2.1
 ·exact q.2.1
structure Chg(N:Int->m4)(V:VR)(P:PR)(M:MS)(i:Int)(n':m4)(V':VR)(P':PR)(M':MS):Prop where
 ni:NI n'
 id:n'.Id=i
 pr:(N i).Acc.i7<=n'.Acc.i7
 kl:(N i).a9.length<=(O n'.a9)
 v1:∀q s b e,V q s b e->V' q s b e
 v2:∀q s b e,V' q s b e->V q s b e\/(q=i/\(N i).Acc.i7<=b/\1<=b/\b<=n'.Acc.i7/\P' b s e)
 p1:∀b s e,P b s e->P' b s e
 p2:∀b s e,P' b s e->P b s e\/(b=n'.b5/\n'.d6=3/\(∀e',P' b s e'->e'=e)/\Quo (Sf (upd N i n') V' b s e))
 cur:∀s v,n'.Acc.b8[s]?=U v->v.b5>0->V' i s v.b5 v.i9
 max:∀s b e,V' i s b e->∃v,n'.Acc.b8[s]?=U v/\b<=v.b5
 ld:LD (upd N i n') V' P' n'
 kn:∀s e,n'.a9[s]?=U e->a2V V' s e
 ms:∀m,M' m->M m\/(MI m/\MV (upd N i n') V' P' m)
section
variable {N:Int->m4} {V:VR} {P:PR} {M:MS} {i:Int} {n':m4} {V':VR} {P':PR} {M':MS}
def Chg.prm(c:Chg N V P M i n' V' P' M')(q:Int):(N q).Acc.i7<=(upd N i n' q).Acc.i7:=by
 unfold upd;split
 ·rename_i h;rw[h];exact c.pr
 ·exact g1g _
def Chg.len(c:Chg N V P M i n' V' P' M')(q:Int):(N q).a9.length<=(upd N i n' q).a9.length:=by
 unfold upd;split
 ·rename_i h;rw[h];exact c.kl
 ·exact g07 _
def Chg.old(c:Chg N V P M i n' V' P' M'){q:Int}{s:Nat}{b x:Int}{e:p9}(hx:x<=(N q).Acc.i7)(hb:b<x)(v:V' q s b e):V q s b e:=by
 rcases c.v2 q s b e v with v|⟨rfl,v1,_⟩
 ·exact v
 ·omega
def Chg.cov(c:Chg N V P M i n' V' P' M'){n:m4}{q:Int}(h:Cov N V n q):Cov (upd N i n') V' n q:=
 ⟨g1S h.pr (c.prm q),λs b e hs hb v=>h.cv s b e hs hb (c.old h.pr hb v)⟩
def Quo.imp{p q:Int->Prop}(h:Quo p)(hi:∀a,D3 a->p a->q a):Quo q:=by
 obtain⟨a,b,ha,hb,hab,pa,pb⟩:=h;exact⟨a,b,ha,hb,hab,hi a ha pa,hi b hb pb⟩
def Chg.sf(c:Chg N V P M i n' V' P' M'){b:Int}{s:Nat}{e:p9}{q:Int}(h:Sf N V b s e q):Sf (upd N i n') V' b s e q:=
 ⟨g1S h.1 (c.prm q),λb' e' hb v=>by
  obtain⟨b1,q1,x1,x2,x3⟩:=h.2 b' e' hb (c.old h.1 hb v);exact⟨b1,q1,x1,x2,c.v1 _ _ _ _ x3⟩⟩
def a2V.mono(h:∀q s b e,V q s b e->V' q s b e){s:Nat}{e:p9}(hc:a2V V s e):a2V V' s e:=by
 obtain⟨b,p,q,hp,hq,hpq,v1,v2⟩:=hc;exact⟨b,p,q,hp,hq,hpq,h _ _ _ _ v1,h _ _ _ _ v2⟩
def Chg.ldo(c:Chg N V P M i n' V' P' M')(hi:D3 i){n:m4}(hn:NI n)(hne:n.Id≠i)(h:LD N V P n):LD (upd N i n') V' P' n:=by
 have hp:n.d6≠0->∀s e,P' n.b5 s e->P n.b5 s e:=by
  intro h0 s e hp;rcases c.p2 _ _ _ hp with q|⟨hb,h3,_⟩
  ·exact q
  ·exfalso
   have o1:=(hn.ld.own h0).mod;have o2:=(c.ni.ld.own (by omega)).mod;rw[<-hb,o1,c.id]at o2;exact hne o2
 refine⟨λh0 s v hs hv => ?_,λh1 => ?_,λh2 => ?_,λh3 => ?_⟩
 ·obtain⟨x1,q,x2⟩:=h.bs h0 s v hs hv;exact⟨x1,q,c.v1 _ _ _ _ x2⟩
 ·obtain⟨x1,x2⟩:=h.l1 h1;exact⟨λs e q=>x1 s e (hp (by omega) s e q),λq hq hf=>c.cov (x2 q hq hf)⟩
 ·obtain⟨x1,x2⟩:=h.l2 h2;exact⟨λs e q=>x1 s e (hp (by omega) s e q),x2.imp λa _=>c.cov⟩
 ·obtain⟨x1,x2,x3,x4⟩:=h.l3 h3;exact⟨c.p1 _ _ _ x1,λs e q=>x2 s e (hp (by omega) s e q),x3.imp λa _=>c.cov,λq hq hv=>c.v1 _ _ _ _ (x4 q hq hv)⟩
def Chg.msg(c:Chg N V P M i n' V' P' M'){m:m9}(h:MV N V P m):MV (upd N i n') V' P' m:=by
 refine⟨λk => ?_,λk => ?_,λk=>c.p1 _ _ _ (h.k3 k),λk => ?_,λk=>(h.k5 k).mono c.v1⟩
 ·obtain⟨x1,x2⟩:=h.k1 k;have:=c.len m.d7;exact⟨x1,by omega⟩
 ·obtain⟨x1,x2,x3,x4⟩:=h.k2 k;have:=c.len m.To;refine⟨by omega,g1S x2 (c.prm _),λs b e hs hb v=>x3 s b e hs hb (c.old x2 hb v),λk v hk hv => ?_⟩;obtain⟨y1,y2⟩:=x4 k v hk hv;exact⟨y1,c.v1 _ _ _ _ y2⟩
 ·obtain⟨e,x⟩:=h.k4 k;exact⟨e,c.v1 _ _ _ _ x⟩
def PX.step(h:PX N V P M)(hi:D3 i)(c:Chg N V P M i n' V' P' M'):PX (upd N i n') V' P' M':=by
 have hpo:∀b s e,P' b s e->1<=b/\b<=(upd N i n' (g1w b 3)).Acc.i7:=by
  intro b s e hp;rcases c.p2 _ _ _ hp with q|⟨rfl,h3,_⟩
  ·obtain⟨x1,x2⟩:=h.po _ _ _ q;exact⟨x1,g1S x2 (c.prm _)⟩
  ·have o:=c.ni.ld.own (by omega);have ho:=o.mod;rw[c.id]at ho;rw[ho,X7];exact⟨o.b1,o.pr⟩
 refine⟨λj hj => ?_,λj s b e v => ?_,λj s v hj hs hv => ?_,λj s b e v => ?_,λb s e e' p p' => ?_,hpo,λb s e p => ?_,λj hj => ?_,λj s e hj hk => ?_,λm hm => ?_⟩
 ·by_cases q:j=i
  ·subst q;rw[X7];exact⟨c.ni,c.id⟩
  ·rw[b22 _ q];exact h.ni j hj
 ·rcases c.v2 _ _ _ _ v with v|⟨rfl,x1,x2,x3,x4⟩
  ·obtain⟨x1,x2,x3,x4⟩:=h.vp _ _ _ _ v;exact⟨x1,c.p1 _ _ _ x2,x3,g1S x4 (c.prm _)⟩
  ·rw[X7];exact⟨hi,x4,x2,x3⟩
 ·by_cases q:j=i
  ·subst q;rw[X7]at hs;exact c.cur s v hs hv
  ·rw[b22 _ q]at hs;exact c.v1 _ _ _ _ (h.cur j s v hj hs hv)
 ·by_cases q:j=i
  ·subst q;rw[X7];exact c.max s b e v
  ·rw[b22 _ q];rcases c.v2 _ _ _ _ v with v|⟨x,_⟩
   ·exact h.max _ _ _ _ v
   ·exact absurd x q
 ·rcases c.p2 _ _ _ p with p|⟨_,_,x,_⟩
  ·rcases c.p2 _ _ _ p' with p'|⟨_,_,x,_⟩
   ·exact h.pu _ _ _ _ p p'
   ·exact x e (c.p1 _ _ _ p)
  ·exact(x e' p').symm
 ·rcases c.p2 _ _ _ p with p|⟨_,_,_,x⟩
  ·exact(h.safe _ _ _ p).imp λa _=>c.sf
  ·exact x
 ·by_cases q:j=i
  ·subst q;rw[X7];exact c.ld
  ·rw[b22 _ q];exact c.ldo hi (h.ni j hj).1 (by rw[(h.ni j hj).2];exact q) (h.ld j hj)
 ·by_cases q:j=i
  ·subst q;rw[X7]at hk;exact c.kn s e hk
  ·rw[b22 _ q]at hk;exact(h.kn j s e hj hk).mono c.v1
 ·rcases c.ms m hm with q|q
  ·exact⟨(h.ms m q).1,c.msg (h.ms m q).2⟩
  ·exact q
end
def snd(M:MS)(l:List m9):MS:=λm=>M m\/m∈l
def S5(N:Int->m4)(M:MS)(i:Int)(n':m4)(l:List m9):Prop := ∃V' P',PX (upd N i n') V' P' (snd M l)
section
variable {N N':Int->m4} {V V':VR} {P P':PR} {M:MS} {i:Int} {n n':m4}
def PX.send(h:PX N V P M){l:List m9}(hl:∀m∈l,MI m/\MV N V P m):PX N V P (snd M l):=
 {h with ms:=λm hm=>hm.elim (h.ms m) (hl m)}
def a9Q(M:MS):snd M []=M:=by
 funext m;unfold snd;simp
def d1G(M:MS)(a b:List m9):snd (snd M a) b=snd M (a++b):=by
 funext m;unfold snd;simp[or_assoc]
def S5.same(h:PX N V P M):S5 N M i (N i) []:=⟨V,P,by rw[a98,a9Q];exact h⟩
def LD.same(h:LD N V P n)(hpr:∀q,(N q).Acc.i7<=(N' q).Acc.i7)(hV:∀q s b e,V q s b e->V' q s b e)(hold:∀q s b x e,x<=(N q).Acc.i7->b<x->V' q s b e->V q s b e)(hP:∀b s e,P b s e->P' b s e)(hP':∀s e,P' n.b5 s e->P n.b5 s e)(e1:n'.d6=n.d6)(e2:n'.b5=n.b5)(e3:n'.j5=n.j5)(e4:n'.a9=n.a9)(e5:n'.d7=n.d7)(e6:n'.g9=n.g9)(e7:n'.b8=n.b8):LD N' V' P' n':=by
 have hc:∀q,Cov N V n q->Cov N' V' n' q:=λq c=>by
  refine⟨by rw[e2];exact g1S c.pr (hpr q),?_⟩;rw[e2,e3,e4];exact λs b e hs hb v=>c.cv s b e hs hb (hold _ _ _ _ _ c.pr hb v)
 refine⟨?_,?_,?_,?_⟩
 ·rw[e1,e2,e3];intro h0 s v hs hv;obtain⟨x1,q,x2⟩:=h.bs h0 s v hs hv;exact⟨x1,q,hV _ _ _ _ x2⟩
 ·rw[e1,e2,e5];intro h1;obtain⟨x1,x2⟩:=h.l1 h1;exact⟨λs e p=>x1 s e (hP' s e p),λq hq hf=>hc q (x2 q hq hf)⟩
 ·rw[e1,e2,e4];intro h2;obtain⟨x1,x2⟩:=h.l2 h2;exact⟨λs e p=>x1 s e (hP' s e p),x2.imp λq _=>hc q⟩
 ·rw[e1,e2,e4,e6,e7];intro h3;obtain⟨x1,x2,x3,x4⟩:=h.l3 h3;exact⟨hP _ _ _ x1,λs e p=>x2 s e (hP' s e p),x3.imp λq _=>hc q,λq hq hv=>hV _ _ _ _ (x4 q hq hv)⟩
def LD.none(h:n.d6=0):LD N V P n:=⟨λq=>absurd h q,λq=>by omega,λq=>by omega,λq=>by omega⟩
def b0k(hpr:(N i).Acc.i7<=n'.Acc.i7)(q:Int):(N q).Acc.i7<=(upd N i n' q).Acc.i7:=by
 unfold upd;split
 ·rename_i h;rw[h];exact hpr
 ·exact g1g _
def PX.quiet(h:PX N V P M)(hi:D3 i)(hni:NI n')(hid:n'.Id=i)(hpr:(N i).Acc.i7<=n'.Acc.i7)(hvt:n'.Acc.b8=(N i).Acc.b8)(hk:n'.a9=(N i).a9)(hld:LD (upd N i n') V P n'):PX (upd N i n') V P M:=
 h.step hi ⟨hni,hid,hpr,by rw[hk];exact g07 _,λ_ _ _ _ v=>v,λ_ _ _ _ v=>.inl v,λ_ _ _ p=>p,λ_ _ _ p=>.inl p,by rw[hvt];exact λs v=>h.cur i s v hi,by rw[hvt];exact λs b e=>h.max i s b e,hld,by rw[hk];exact λs e=>h.kn i s e hi,λm hm=>.inl hm⟩
def PX.keep(h:PX N V P M)(hi:D3 i)(hni:NI n')(hid:n'.Id=i)(hpr:(N i).Acc.i7<=n'.Acc.i7)(hvt:n'.Acc.b8=(N i).Acc.b8)(hk:n'.a9=(N i).a9)(e1:n'.d6=(N i).d6)(e2:n'.b5=(N i).b5)(e3:n'.j5=(N i).j5)(e5:n'.d7=(N i).d7)(e6:n'.g9=(N i).g9)(e7:n'.b8=(N i).b8):PX (upd N i n') V P M:=
 h.quiet hi hni hid hpr hvt hk ((h.ld i hi).same (b0k hpr) (λ_ _ _ _ v=>v) (λ_ _ _ _ _ _ _ v=>v) (λ_ _ _ p=>p) (λ_ _ p=>p) e1 e2 e3 hk e5 e6 e7)
def PX.down(h:PX N V P M)(hi:D3 i):PX (upd N i (a0E (N i))) V P M:=
 h.quiet hi (h.ni i hi).1.down (h.ni i hi).2 (g1g _) rfl rfl (.none rfl)
def PX.promise(h:PX N V P M)(hi:D3 i){b:Int}{x:B4}(hp:J6 (N i).Acc b=U x):PX (upd N i {N i with Acc:=x}) V P M:=by
 obtain⟨rfl,h1,h2,h3⟩:=a2K hp;exact h.keep hi ((h.ni i hi).1.promise hp) (h.ni i hi).2 h3 rfl rfl rfl rfl rfl rfl rfl rfl
def PX.yield(h:PX N V P M)(hi:D3 i)(b:Int):PX (upd N i (L3 (N i) b)) V P M:=by
 unfold L3;cases(N i).d6 != 0&&decide (b>(N i).b5)
 ·simp only[g26];rw[a98];exact h
 ·exact h.down hi
def PX.free(h:PX N V P M)(hi:D3 i):PX (upd N i (K7 (N i)).1) V P M:=by
 rcases b02 (N i)with q|⟨k,_,_,q⟩<;>rw[q]
 ·rw[a98];exact h
 ·exact h.keep hi (h.ni i hi).1.freeN (h.ni i hi).2 (g1g _) rfl rfl rfl rfl rfl rfl rfl rfl
def e2d{vs:List s7}{n s:Nat}{v:s7}(h:(W9 vs n)[s]?=U v):vs[s]?=U v\/v=v0:=by
 unfold W9 at h;rw[g2T]at h;split at h
 ·exact .inl h
 ·rw[List.getElem?_replicate]at h;split at h
  ·injection h with h;exact .inr h.symm
  ·cases h
def e4V{vs:List s7}{s:Nat}{v:s7}(n:Nat)(h:vs[s]?=U v):(W9 vs n)[s]?=U v:=by
 unfold W9;rw[g1o (g06.1 h).1];exact h
def a91(V:VR)(i:Int)(k:Nat)(b:Int)(e:p9):VR:=λq s c f=>V q s c f\/(q=i/\s=k/\c=b/\f=e)
def d1x(h:PX N V P M)(hi:D3 i){b s:Int}{e:p9}{x:B4}(hc:N7 (N i).Acc b s e=U x):∃k:Nat,s=(k:Int)/\k<40/\1<=b/\b<=3000/\(N i).Acc.i7<=b/\x.i7=b/\B7 e=Y/\
  (∀s v,x.b8[s]?=U v->v.b5>0->a91 V i k b e i s v.b5 v.i9)/\(∀s c f,a91 V i k b e i s c f->∃v,x.b8[s]?=U v/\c<=v.b5):=by
 obtain⟨k,rfl,hk,he,h1,h2,h3,rfl⟩:=b29 hc;have hlen:k<(W9 (N i).Acc.b8 (k+1)).length:=by rw[b6l];omega
 refine⟨k,rfl,hk,h1,h2,h3,rfl,he,λs v hs hv => ?_,λs c f v => ?_⟩
 ·simp only[g2q]at hs;split at hs
  ·rename_i hq;injection hs with hs;subst hs;exact .inr ⟨rfl,hq.symm,rfl,rfl⟩
  ·rcases e2d hs with q|q
   ·exact .inl (h.cur i s v hi q hv)
   ·rw[q]at hv;exact absurd hv (by decide)
 ·simp only[g2q];by_cases hq:k=s
  ·subst hq;rw[if_pos rfl,if_pos hlen];refine⟨_,rfl,?_⟩;rcases v with v|⟨_,_,rfl,_⟩
   ·have:=(h.vp _ _ _ _ v).2.2.2;simp only;omega
   ·exact g1g _
  ·rw[if_neg hq];rcases v with v|⟨_,x,_⟩
   ·obtain⟨v',y1,y2⟩:=h.max _ _ _ _ v;exact⟨v',e4V _ y1,y2⟩
   ·exact absurd x.symm hq
def c4c{k:Nat}{b:Int}{e:p9}(hb:(N i).Acc.i7<=b){q:Int}{s:Nat}{c x:Int}{f:p9}(hx:x<=(N q).Acc.i7)(hc:c<x)(v:a91 V i k b e q s c f):V q s c f:=by
 rcases v with v|⟨rfl,_,rfl,_⟩
 ·exact v
 ·omega
def PX.vote(h:PX N V P M)(hi:D3 i){b s:Int}{e:p9}{x:B4}(hc:N7 (N i).Acc b s e=U x)(hp:P b s.toNat e):PX (upd N i {N i with Acc:=x}) (a91 V i s.toNat b e) P M:=by
 obtain⟨k,rfl,hk,h1,h2,h3,h4,he,c1,c2⟩:=d1x h hi hc;rw[g1p]at hp⊢;have hpr:(N i).Acc.i7<=({N i with Acc:=x}:m4).Acc.i7:=by show _<=x.i7;rw[h4];exact h3
 refine h.step hi ⟨(h.ni i hi).1.cast hc,(h.ni i hi).2,hpr,g07 _,λ_ _ _ _ v=>.inl v,λq s c f v => ?_,λ_ _ _ p=>p,λ_ _ _ p=>.inl p,c1,c2,?_,λs e hk=>(h.kn i s e hi hk).mono λ_ _ _ _ v=>.inl v,λm hm=>.inl hm⟩
 ·rcases v with v|⟨rfl,rfl,rfl,rfl⟩
  ·exact .inl v
  ·exact .inr ⟨rfl,h3,h1,by show _<=x.i7;rw[h4];exact g1g _,hp⟩
 ·exact(h.ld i hi).same (b0k hpr) (λ_ _ _ _ v=>.inl v) (λq s c x f hx hc v=>c4c h3 hx hc v) (λ_ _ _ p=>p) (λ_ _ p=>p) rfl rfl rfl rfl rfl rfl rfl
def PX.know(h:PX N V P M)(hi:D3 i){e:p9}(he:B7 e=Y)(hl:(N i).a9.length<40)(hc:a2V V (N i).a9.length e):PX (upd N i (C6 (N i) e)) V P M:=by
 have hk:=b9B (N i) e;have hacc:(C6 (N i) e).Acc=(N i).Acc:=by unfold C6;cases(N i).d6==3<;>rfl
 have hb:(C6 (N i) e).b5=(N i).b5:=by unfold C6;cases(N i).d6==3<;>rfl
 have hbe:(C6 (N i) e).j5=(N i).j5:=by unfold C6;cases(N i).d6==3<;>rfl
 have hpr:(N i).Acc.i7<=(C6 (N i) e).Acc.i7:=by rw[hacc];exact g1g _
 have hcov:∀q,Cov N V (N i) q->Cov (upd N i (C6 (N i) e)) V (C6 (N i) e) q:=λq c=>by
  refine⟨by rw[hb];exact g1S c.pr (b0k hpr q),?_⟩;rw[hb,hbe,hk,g08];exact λs b e hs hb v=>c.cv s b e (by omega) hb v
 refine h.step hi ⟨(h.ni i hi).1.know he hl,(c2G _ _).trans (h.ni i hi).2,hpr,by rw[hk];simp,λ_ _ _ _ v=>v,λ_ _ _ _ v=>.inl v,λ_ _ _ p=>p,λ_ _ _ p=>.inl p,by rw[hacc];exact λs v=>h.cur i s v hi,by rw[hacc];exact λs b e=>h.max i s b e,?_,λs f hs => ?_,λm hm=>.inl hm⟩
 ·have hld:=h.ld i hi;refine⟨?_,?_,?_,?_⟩
  ·intro h0;rw[hb,hbe];refine hld.bs ?_;intro q;apply h0;unfold C6;rw[show((N i).d6==3)=W by simp[q]];exact q
  ·intro h1;have h1':(N i).d6=1:=by
    by_cases q:(N i).d6=3
    ·unfold C6 at h1;rw[show((N i).d6==3)=Y by simpa using q]at h1;cases h1
    ·unfold C6 at h1;rw[show((N i).d6==3)=W by simpa using q]at h1;exact h1
   have hf:(C6 (N i) e).d7=(N i).d7:=by unfold C6;cases(N i).d6==3<;>rfl
   rw[hb,hf];exact⟨(hld.l1 h1').1,λq hq hf=>hcov q ((hld.l1 h1').2 q hq hf)⟩
  ·intro h2;rw[hb,hk,g08,g1Q];by_cases q:(N i).d6=3
   ·obtain⟨x1,x2,x3,x4⟩:=hld.l3 q;exact⟨λs f p=>by have:=x2 s f p;omega,x3.imp λq _=>hcov q⟩
   ·have h2':(N i).d6=2:=by
     unfold C6 at h2;rw[show((N i).d6==3)=W by simpa using q]at h2;exact h2
    obtain⟨x1,x2⟩:=hld.l2 h2';exact⟨λs f p=>by have:=x1 s f p;omega,x2.imp λq _=>hcov q⟩
  ·intro h3;exfalso
   by_cases q:(N i).d6=3
   ·unfold C6 at h3;rw[show((N i).d6==3)=Y by simpa using q]at h3;cases h3
   ·unfold C6 at h3;rw[show((N i).d6==3)=W by simpa using q]at h3;exact q h3
 ·rw[hk,g2T]at hs;split at hs
  ·exact h.kn i s f hi hs
  ·rename_i hge;rw[List.getElem?_singleton]at hs;split at hs
   ·injection hs with hs;subst hs;rw[show s=(N i).a9.length by omega];exact hc
   ·cases hs
end
section
variable {N:Int->m4} {V:VR} {P:PR} {M:MS} {i:Int}
def MV.other{m:m9}(h:m.b7=6\/m.b7=7\/m.b7=8):MV N V P m:=⟨λk=>by omega,λk=>by omega,λk=>by omega,λk=>by omega,λk=>by omega⟩
def MV.c1{m:m9}(h:m.b7=1)(x:g1w m.b5 3=m.d7/\m.i6<=(N m.d7).a9.length):MV N V P m:=⟨λ_=>x,λk=>by omega,λk=>by omega,λk=>by omega,λk=>by omega⟩
def MV.c2{m:m9}(h:m.b7=2)(x:m.i6<=(N m.To).a9.length/\m.b5<=(N m.d7).Acc.i7/\(∀s b e,m.i6.toNat<=s->b<m.b5->V m.d7 s b e->∃v,m.b8[s-m.i6.toNat]?=U v/\b<=v.b5)/\∀k v,m.b8[k]?=U v->v.b5>0->v.b5<=m.b5/\V m.d7 (m.i6.toNat+k) v.b5 v.i9):MV N V P m:=⟨λk=>by omega,λ_=>x,λk=>by omega,λk=>by omega,λk=>by omega⟩
def MV.c3{m:m9}(h:m.b7=3)(x:P m.b5 m.i6.toNat m.i9):MV N V P m:=⟨λk=>by omega,λk=>by omega,λ_=>x,λk=>by omega,λk=>by omega⟩
def MV.c4{m:m9}(h:m.b7=4)(x:∃e,V m.d7 m.i6.toNat m.b5 e):MV N V P m:=⟨λk=>by omega,λk=>by omega,λk=>by omega,λ_=>x,λk=>by omega⟩
def MV.c5{m:m9}(h:m.b7=5)(x:a2V V m.i6.toNat m.i9):MV N V P m:=⟨λk=>by omega,λk=>by omega,λk=>by omega,λk=>by omega,λ_=>x⟩
def e39(P:PR)(b:Int)(k:Nat)(e:p9):PR:=λc s f=>P c s f\/(c=b/\s=k/\f=e)
def d5q{id q:Int}(hid:D3 id)(hq:D3 q)(h:(a0u id)[q.toNat]?=U Y):q=id:=by
 unfold D3 at hid hq;obtain rfl|rfl|rfl:id=0\/id=1\/id=2:=by omega
 all_goals obtain rfl|rfl|rfl:q=0\/q=1\/q=2:=by omega
 all_goals first|rfl|(exact absurd h (by decide))
def PX.put(h:PX N V P M)(hi:D3 i)(hph:(N i).d6=2){q:List p9}{e:p9}(hn:a3F (N i) e){a:B4}(hc:N7 (N i).Acc (N i).b5 ((N i).a9.length:Int) e=U a)(hni:NI {N i with i5:=q,Acc:=a,d6:=3,g9:=e,b8:=a0u (N i).Id}):PX (upd N i {N i with i5:=q,Acc:=a,d6:=3,g9:=e,b8:=a0u (N i).Id}) (a91 V i (N i).a9.length (N i).b5 e) (e39 P (N i).b5 (N i).a9.length e) M:=by
 obtain⟨k,hk0,hk,h1,h2,h3,h4,he,c1,c2⟩:=d1x h hi hc;obtain rfl:k=(N i).a9.length:=by omega
 obtain⟨l1,l2⟩:=(h.ld i hi).l2 hph;have hown:=(h.ni i hi).1.ld.own (by omega);have hid:=(h.ni i hi).2;have hbs:=(h.ld i hi).bs (by omega);generalize hn':({N i with i5:=q,Acc:=a,d6:=3,g9:=e,b8:=a0u (N i).Id}:m4)=n' at hni⊢;have f1:n'.Acc=a:=by rw[<-hn']
 have f2:n'.a9=(N i).a9:=by rw[<-hn']
 have f3:n'.b5=(N i).b5:=by rw[<-hn']
 have f4:n'.j5=(N i).j5:=by rw[<-hn']
 have f5:n'.d6=3:=by rw[<-hn']
 have f6:n'.g9=e:=by rw[<-hn']
 have f7:n'.b8=a0u i:=by rw[<-hn'];exact congrArg a0u hid
 have f8:n'.Id=i:=by rw[<-hn'];exact hid
 have hpr:(N i).Acc.i7<=n'.Acc.i7:=by rw[f1,h4];exact h3
 have hcov:∀a,Cov N V (N i) a->Cov (upd N i n') (a91 V i (N i).a9.length (N i).b5 e) n' a:=λa c=>by
  refine⟨by rw[f3];exact g1S c.pr (b0k hpr a),?_⟩;rw[f2,f3,f4];exact λs b f hs hb v=>c.cv s b f hs hb (c4c h3 c.pr hb v)
 have hsf:∀a,Cov N V (N i) a->Sf (upd N i n') (a91 V i (N i).a9.length (N i).b5 e) (N i).b5 (N i).a9.length e a:=λa c=>by
  refine⟨g1S c.pr (b0k hpr a),λb' e' hb v => ?_⟩;have v:=c4c h3 c.pr hb v;obtain⟨w,w1,w2⟩:=c.cv _ _ _ (g07 _) hb v;have hb1:=(h.vp _ _ _ _ v).2.2.1;have hw:w.b5>0:=by omega
  have hno:∀{p:Prop},(∀v∈(N i).j5.drop (N i).a9.length,¬v.b5>0)->p:=λhn=>by
   refine absurd hw (hn w ?_);exact g1e (i:=0) (by rw[g2l];exact w1)
  cases hn with
  |best u hu hub=>
   rw[w1]at hu;injection hu with hu;subst hu;obtain⟨y1,q1,y2⟩:=hbs _ _ w1 hw;exact⟨w.b5,q1,w2,y1,.inl y2⟩
  |gap u hu hub hn=>exact absurd hw (hn w w1)
  |want hb hk hn=>exact hno hn
  |queue e he hk hn=>exact hno hn
 refine h.step hi ⟨hni,f8,hpr,by rw[f2];exact g07 _,λ_ _ _ _ v=>.inl v,λq s c f v => ?_,λ_ _ _ p=>.inl p,λb s f p => ?_,by rw[f1];exact c1,by rw[f1];exact c2,?_,by rw[f2];exact λs e hk=>(h.kn i s e hi hk).mono λ_ _ _ _ v=>.inl v,λm hm=>.inl hm⟩
 ·rcases v with v|⟨rfl,rfl,rfl,rfl⟩
  ·exact .inl v
  ·exact .inr ⟨rfl,h3,h1,by rw[f1,h4];exact g1g _,.inr ⟨rfl,rfl,rfl⟩⟩
 ·rcases p with p|⟨rfl,rfl,rfl⟩
  ·exact .inl p
  ·refine .inr ⟨f3.symm,f5,λe' p' => ?_,l2.imp λa _=>hsf a⟩;rcases p' with p'|⟨_,_,x⟩
   ·exact absurd (l1 _ _ p') (by omega)
   ·exact x
 ·refine⟨λ_ => ?_,λq=>by omega,λq=>by omega,λ_ => ?_⟩
  ·rw[f3,f4];intro s v hs hv;obtain⟨x1,q1,x2⟩:=hbs s v hs hv;exact⟨x1,q1,.inl x2⟩
  ·rw[f2,f3,f6,f7];refine⟨.inr ⟨rfl,rfl,rfl⟩,λs f p => ?_,l2.imp λa _=>hcov a,λq hq hm => ?_⟩
   ·rcases p with p|⟨_,rfl,_⟩
    ·exact Nat.le_of_lt (l1 _ _ p)
    ·exact g07 _
   ·rw[d5q hi hq hm];exact .inr ⟨rfl,rfl,rfl,rfl⟩
def PX.queue(h:PX N V P M)(hi:D3 i){q:List p9}(hl:(O q)<=4)(hm:∀e∈q,B7 e=Y/\e.j9=W):PX (upd N i {N i with i5:=q}) V P M:=
 h.keep hi ((h.ni i hi).1.queue hl hm) (h.ni i hi).2 (g1g _) rfl rfl rfl rfl rfl rfl rfl rfl
def PX.propose(h:PX N V P M)(hi:D3 i):S5 N M i (F8 (N i)).1 (F8 (N i)).2:=by
 have hr:=b2e (h.ni i hi).1;unfold F8 at hr⊢;cases hc:(N i).d6 != 2||decide (40<=(N i).a9.length)
 case true=>exact .same h
 rw[hc]at hr;simp only[g26]at hr⊢;simp only[g1N,bne_eq_false_iff_eq,decide_eq_false_iff_not]at hc;obtain⟨q,hq,hql,hqm,hqe⟩:=a78 (N i);cases hx:a0q (N i)with
 |mk x o=>
 rw[hx]at hr hq hqe;have hq:x={N i with i5:=q}:=hq;subst hq;have hQ:PX (upd N i {N i with i5:=q}) V P M:=h.queue hi (by have:=(h.ni i hi).1.ql;omega) λe he=>(h.ni i hi).1.qs e (hqm e he)
 cases o with
 |none=>exact⟨V,P,by rw[a9Q];exact hQ⟩
 |some e=>
  simp only[a4k]at hr⊢;cases hcs:N7 (N i).Acc (N i).b5 ((N i).a9.length:Int) e with
  |none=>
   have:=hQ.down hi;rw[X7,a4l]at this;exact⟨V,P,by rw[a9Q];exact this⟩
  |some a=>
   rw[hcs]at hr;have hid:=(h.ni i hi).2;refine⟨_,_,PX.send (h.put hi hc.1 (hqe e rfl) hcs hr.ni) λm hm=>⟨hr.ms m hm,?_⟩⟩;obtain⟨t,_,_,_,rfl⟩:=a3A (h.ni i hi).1.id hm;exact .c3 rfl (.inr ⟨rfl,rfl,rfl⟩)
def S5.then{n1 n2:m4}{l1 l2:List m9}(h1:S5 N M i n1 l1)(h2:∀V P,PX (upd N i n1) V P (snd M l1)->S5 (upd N i n1) (snd M l1) i n2 l2):S5 N M i n2 (l1++l2):=by
 obtain⟨V1,P1,h1⟩:=h1;obtain⟨V2,P2,h2⟩:=h2 V1 P1 h1;rw[a4l,d1G]at h2;exact⟨V2,P2,h2⟩
def PX.learn(h:PX N V P M)(hi:D3 i){e:p9}(he:B7 e=Y)(hl:(N i).a9.length<40)(hc:a2V V (N i).a9.length e):S5 N M i (V5 (N i) e).1 (V5 (N i) e).2.1:=by
 have h1:=h.know hi he hl hc;have h2:=h1.free hi;rw[X7,a4l]at h2;have h3:=h2.propose hi;rw[X7]at h3;obtain⟨V',P',h3⟩:=h3;rw[a4l]at h3;exact⟨V',P',h3⟩
def PX.rise(h:PX N V P M)(hi:D3 i):S5 N M i (P9 (N i)).1 (P9 (N i)).2:=by
 have hni:=(h.ni i hi).1;have hid:=(h.ni i hi).2;have hr:=b1Y hni;unfold P9 at hr⊢;cases hd:decide (M5 (N i).Acc.i7 (N i).Id<0);case true=>exact .same h
 rw[hd]at hr;simp only[g26]at hr⊢;simp only[decide_eq_false_iff_not]at hd;rcases b3Z hni.pr hni.id with q|⟨q1,q2,q3,q4⟩
 ·omega
 generalize M5 (N i).Acc.i7 (N i).Id=b at *;have hld:∀(n':m4),n'.d6=1->n'.b5=b->n'.a9=(N i).a9->n'.j5=(N i).Acc.b8->n'.d7=a0u i->n'.Acc.i7=b->LD (upd N i n') V P n':=by
  intro n' e1 e2 e3 e4 e5 e6;refine⟨λ_ => ?_,λ_=>⟨?_,?_⟩,λq=>by omega,λq=>by omega⟩
  ·rw[e2,e4];intro s v hs hv;have hv':=h.cur i s v hi hs hv;exact⟨by have:=(h.vp _ _ _ _ hv').2.2.2;omega,i,hv'⟩
  ·rw[e2];intro s e p;have:=(h.po _ _ _ p).2;rw[q4,hid]at this;omega
  ·rw[e5];intro q hq hm;rw[d5q hi hq hm];refine⟨by rw[e2,X7,e6];exact g1g _,?_⟩;rw[e4];exact λs b e _ _ v=>h.max i s b e v
 refine⟨V,P,PX.send (h.quiet hi hr.ni (hr.id.trans hid) (Int.le_of_lt q1) rfl rfl (hld _ rfl rfl rfl rfl (by rw[hid]) rfl)) λm hm=>⟨hr.ms m hm,?_⟩⟩;obtain⟨t,_,_,_,rfl⟩:=a3A hni.id hm;refine .c1 rfl ⟨q4,?_⟩;simp only[hid,X7];exact g1g _
def d5V{l:List Bool}(hl:(O l)=3)(h:L1 l=Y):Quo λq=>l[q.toNat]?=U Y:=by
 match l,hl with
 | [a,b,c],_=>
  cases a<;>cases b<;>cases c<;>first|(exact absurd h (by decide))|exact⟨0,1,by unfold D3;omega,by unfold D3;omega,by decide,rfl,rfl⟩|exact⟨0,2,by unfold D3;omega,by unfold D3;omega,by decide,rfl,rfl⟩|exact⟨1,2,by unfold D3;omega,by unfold D3;omega,by decide,rfl,rfl⟩
def d31{l:List Bool}{f q:Int}(hf:D3 f)(hq:D3 q)(h:(l.set f.toNat Y)[q.toNat]?=U Y):q=f\/l[q.toNat]?=U Y:=by
 unfold D3 at hf hq;rw[g2q]at h;split at h
 ·left;omega
 ·exact .inr h
end
section
variable {N:Int->m4} {V:VR} {P:PR} {M:MS} {i:Int} {m:m9}
def S5.reply(h:PX N V P M){r:m9}(h1:MI r)(h2:r.b7=6\/r.b7=7\/r.b7=8):S5 N M i (N i) [r]:=
 ⟨V,P,by rw[a98];exact h.send λx hx=>by rw[g03.1 hx];exact⟨h1,.other h2⟩⟩
def PX.tPrepare(h:PX N V P M)(hi:D3 i)(hm:M m)(hto:m.To=i)(hk:m.b7=1):S5 N M i (a0N (N i) m).1 (a0N (N i) m).2:=by
 obtain⟨mi,mv⟩:=h.ms m hm;obtain⟨hni,hid⟩:=h.ni i hi;have hr:=d3I hni mi hk;unfold a0N at hr⊢;cases hp:J6 (N i).Acc m.b5 with
 |none=>
  rw[hp]at hr;exact .reply h (hr.ms _ (g03.2 rfl)) (.inl rfl)
 |some x=>
  rw[hp]at hr;have h1:=(h.promise hi hp).yield hi m.b5;rw[X7,a4l]at h1;obtain⟨rfl,b1,b2,b3⟩:=a2K hp;refine⟨V,P,h1.send λr hr'=>⟨hr.ms r hr',?_⟩⟩;rw[g03.1 hr'];obtain⟨s1,s2⟩:=mv.k1 hk;have hacc:(L3 {N i with Acc:=⟨m.b5,(N i).Acc.b8⟩} m.b5).Acc=⟨m.b5,(N i).Acc.b8⟩:=d4s _ _;have hne:m.d7≠i:=λq=>mi.ne (by rw[q,hto])
  have hsl:=mi.sl;refine .c2 rfl ⟨?_,?_,?_,?_⟩
  ·show m.i6<=((upd N i _ m.d7).a9.length:Int)
   rw[b22 _ hne];exact s2
  ·show m.b5<=(upd N i _ m.To).Acc.i7
   rw[hto,X7,hacc];exact g1g _
  ·show ∀s b e,m.i6.toNat<=s->b<m.b5->V m.To s b e->∃v,((N i).Acc.b8.drop m.i6.toNat)[s-m.i6.toNat]?=U v/\b<=v.b5
   rw[hto];intro s b e hs _ v;obtain⟨w,w1,w2⟩:=h.max _ _ _ _ v;exact⟨w,by rw[g2l,show m.i6.toNat+(s-m.i6.toNat)=s by omega];exact w1,w2⟩
  ·show ∀k v,((N i).Acc.b8.drop m.i6.toNat)[k]?=U v->v.b5>0->v.b5<=m.b5/\V m.To (m.i6.toNat+k) v.b5 v.i9
   rw[hto];intro k v hk hv;rw[g2l]at hk;have hv':=h.cur i _ v hi hk hv;exact⟨g1S (h.vp _ _ _ _ hv').2.2.2 b3,hv'⟩
def PX.tAccept(h:PX N V P M)(hi:D3 i)(hm:M m)(hto:m.To=i)(hk:m.b7=3):S5 N M i (a0H (N i) m).1 (a0H (N i) m).2:=by
 obtain⟨mi,mv⟩:=h.ms m hm;obtain⟨hni,hid⟩:=h.ni i hi;have hr:=c89 hni mi hk;unfold a0H at hr⊢;cases hp:N7 (N i).Acc m.b5 m.i6 m.i9 with
 |none=>
  rw[hp]at hr;exact .reply h (hr.ms _ (g03.2 rfl)) (.inl rfl)
 |some x=>
  rw[hp]at hr;have h1:=(h.vote hi hp (mv.k3 hk)).yield hi m.b5;rw[X7,a4l]at h1;refine⟨_,P,h1.send λr hr'=>⟨hr.ms r hr',?_⟩⟩;rw[g03.1 hr'];refine .c4 rfl ⟨m.i9,.inr ⟨hto,rfl,rfl,rfl⟩⟩
def d7v{a b:List s7}{s:Nat}{v:s7}(h:a[s]?=U v\/b[s]?=U v):∃w,(G2 a b)[s]?=U w/\v.b5<=w.b5:=by
 rw[b2w];cases ha:a[s]? with
 |none=>
  rw[ha]at h;rcases h with h|h
  ·cases h
  ·rw[h];exact⟨v,rfl,g1g _⟩
 |some x=>
  cases hb:b[s]? with
  |none=>
   rw[ha,hb]at h;rcases h with h|h
   ·injection h with h;subst h;exact⟨x,rfl,g1g _⟩
   ·cases h
  |some y=>
   rw[ha,hb]at h;simp only;cases hd:decide (y.b5>x.b5)
   ·refine⟨x,rfl,?_⟩;simp only[decide_eq_false_iff_not]at hd;rcases h with h|h
    ·injection h with h;subst h;exact g1g _
    ·injection h with h;subst h;omega
   ·refine⟨y,rfl,?_⟩;simp only[decide_eq_true_eq]at hd;rcases h with h|h
    ·injection h with h;subst h;omega
    ·injection h with h;subst h;exact g1g _
def f7f{a b:List s7}{s:Nat}{w:s7}(h:(G2 a b)[s]?=U w):a[s]?=U w\/b[s]?=U w:=by
 rw[b2w]at h;cases ha:a[s]? with
 |none=>
  rw[ha]at h;cases hb:b[s]? with
  |none=>rw[hb]at h;cases h
  |some y=>rw[hb]at h;exact .inr h
 |some x=>
  rw[ha]at h;cases hb:b[s]? with
  |none=>rw[hb]at h;exact .inl h
  |some y=>
   rw[hb]at h;simp only at h;cases hd:decide (y.b5>x.b5)
   ·rw[hd]at h;exact .inl h
   ·rw[hd]at h;exact .inr h
def f4C{vs:List s7}{k s:Nat}{v:s7}(h:(g00 k v0++vs)[s]?=U v)(hv:v.b5>0):k<=s/\vs[s-k]?=U v:=by
 rw[g2T]at h;split at h
 ·rw[List.getElem?_replicate]at h;split at h
  ·injection h with h;subst h;exact absurd hv (by decide)
  ·cases h
 ·rename_i hge;rw[g2x]at h hge;exact⟨by omega,h⟩
def PX.tPromise(h:PX N V P M)(hi:D3 i)(hm:M m)(hto:m.To=i)(hk:m.b7=2):S5 N M i (Y8 (N i) m).1 (Y8 (N i) m).2:=by
 obtain⟨mi,mv⟩:=h.ms m hm;obtain⟨hni,hid⟩:=h.ni i hi;have hr:=c4G hni mi hk;have hsl:=mi.sl;have hfr:D3 m.d7:=mi.fr;obtain⟨s1,s2,s3,s4⟩:=mv.k2 hk;rw[hto]at s1;unfold Y8 at hr⊢;cases hc:(N i).d6 != 1||m.b5 != (N i).b5
 case true=>exact .same h
 rw[hc]at hr;simp only[g26]at hr⊢;simp only[g1N,bne_eq_false_iff_eq]at hc;obtain⟨hp1,hbal⟩:=hc;have hld:=h.ld i hi;obtain⟨l1,l2⟩:=hld.l1 hp1;have hfl:(N i).d7.length=3:=by
  rcases hni.ld with q|q|q|q
  ·omega
  ·exact q.2.2.1
  all_goals exact absurd q.1 (by omega)
 have hkl:m.i6.toNat<=(N i).a9.length:=by omega
 have hbs:∀s v,(G2 (N i).j5 (g00 m.i6.toNat v0++m.b8))[s]?=U v->v.b5>0->v.b5<(N i).b5/\∃q,V q s v.b5 v.i9:=by
  intro s v hs hv;rcases f7f hs with q|q
  ·exact hld.bs (by omega) s v q hv
  ·obtain⟨g1,g2⟩:=f4C q hv;obtain⟨g3,g4⟩:=s4 _ v g2 hv;rw[show m.i6.toNat+(s-m.i6.toNat)=s by omega]at g4;refine⟨?_,_,g4⟩;have hpp:=(h.vp _ _ _ _ g4).2.1;rcases Int.lt_or_le v.b5 (N i).b5 with q|q
   ·exact q
   ·exact absurd (show P (N i).b5 s v.i9 by rw[show(N i).b5=v.b5 by omega];exact hpp) (l1 _ _)
 have hcov:∀(n':m4),n'.Acc=(N i).Acc->n'.b5=(N i).b5->n'.a9=(N i).a9->n'.j5=G2 (N i).j5 (g00 m.i6.toNat v0++m.b8)->∀q,D3 q->((N i).d7.set m.d7.toNat Y)[q.toNat]?=U Y->Cov (upd N i n') V n' q:=by
  intro n' e0 e1 e2 e3 q hq hf;have hpr:∀q,(N q).Acc.i7<=(upd N i n' q).Acc.i7:=b0k (by rw[e0];exact g1g _)
  rcases d31 hfr hq hf with rfl|hf
  ·refine⟨by rw[e1,<-hbal];exact g1S s2 (hpr _),?_⟩;rw[e1,e2,e3];intro s b e hs hb v;obtain⟨w,w1,w2⟩:=s3 s b e (by omega) (by rw[hbal];exact hb) v;have hw:(g00 m.i6.toNat v0++m.b8)[s]?=U w:=by
    rw[g1j (by rw[g2x];omega),g2x];exact w1
   obtain⟨u,u1,u2⟩:=d7v (a:=(N i).j5) (.inr hw);exact⟨u,u1,by omega⟩
  ·have c:=l2 q hq hf;refine⟨by rw[e1];exact g1S c.pr (hpr _),?_⟩;rw[e1,e2,e3];intro s b e hs hb v;obtain⟨w,w1,w2⟩:=c.cv s b e hs hb v;obtain⟨u,u1,u2⟩:=d7v (b:=g00 m.i6.toNat v0++m.b8) (.inl w1);exact⟨u,u1,by omega⟩
 cases htw:L1 ((N i).d7.set m.d7.toNat Y)
 ·rw[htw]at hr;simp only[g26]at hr⊢;refine⟨V,P,by rw[a9Q];exact h.quiet hi hr.ni hid (g1g _) rfl rfl ⟨λ_=>hbs,λ_=>⟨l1,λq hq hf=>hcov _ (by rfl) (by rfl) (by rfl) (by rfl) q hq hf⟩,λq=>absurd (hp1.symm.trans q) (by decide),λq=>absurd (hp1.symm.trans q) (by decide)⟩⟩
 ·simp only[g25];have hq:=d5V (by rw[g2b];exact hfl) htw;have hown:=hni.ld.own (by omega);have hmv:(O m.b8)<=40/\(∀v∈m.b8,VI v)/\m.i6+(O m.b8)<=40:=by
   rcases mi.kd with q|q|q|q|q|q|q
   ·omega
   ·exact⟨q.2.2.2.1.1,q.2.2.2.1.2,q.2.2.2.2⟩
   all_goals exact absurd q.1 (by omega)
  have hquiet:(N i).g9=zE/\(N i).b8=[]:=by
   rcases hni.ld with q|q|q|q
   ·omega
   ·exact⟨q.2.2.2.2.1,q.2.2.2.2.2⟩
   all_goals exact absurd q.1 (by omega)
  have hni2:NI {N i with d7:=[],j5:=G2 (N i).j5 (g00 m.i6.toNat v0++m.b8),d6:=2}:=by
   refine⟨hni.id,hni.pr,hni.vl,hni.vs,hni.kl,hni.ks,hni.sq,hni.ql,hni.qs,.inr (.inr (.inl ⟨rfl,⟨hown.b1,hown.b2,hown.mod,hown.pr,?_,?_⟩,rfl,hquiet.1,hquiet.2⟩)),hni.wt⟩
   ·have hbl:=hown.bl;show(G2 _ _).length<=40
    rw[a7y,g08,g2x];omega
   ·intro v hv;rcases a8P hv with q|q
    ·exact hown.bs v q
    ·rcases g0Z.1 q with q|q
     ·rw[(g1O.1 q).2];exact .inl rfl
     ·exact hmv.2.1 v q
  have h2:PX (upd N i {N i with d7:=[],j5:=G2 (N i).j5 (g00 m.i6.toNat v0++m.b8),d6:=2}) V P M:=
   h.quiet hi hni2 hid (g1g _) rfl rfl ⟨λ_=>hbs,λq=>absurd (show(2:Int)=1 from q) (by decide),λ_=>⟨λs e p=>absurd p (l1 s e),hq.imp λq hq hf=>hcov _ (by rfl) (by rfl) (by rfl) (by rfl) q hq hf⟩,λq=>absurd (show(2:Int)=3 from q) (by decide)⟩
  have h3:=h2.propose hi;rw[X7]at h3;obtain⟨V',P',h3⟩:=h3;rw[a4l]at h3;exact⟨V',P',h3⟩
def PX.tAccepted(h:PX N V P M)(hi:D3 i)(hm:M m)(hto:m.To=i)(hk:m.b7=4):S5 N M i (a0J (N i) m).1 (a0J (N i) m).2.1:=by
 obtain⟨mi,mv⟩:=h.ms m hm;obtain⟨hni,hid⟩:=h.ni i hi;have hr:=c8P hni mi;have hfr:D3 m.d7:=mi.fr;obtain⟨e',ve⟩:=mv.k4 hk;unfold a0J at hr⊢;cases hc:(N i).d6 != 3||(m.b5 != (N i).b5||m.i6 != ((N i).a9.length:Int))
 case true=>exact .same h
 rw[hc]at hr;simp only[g26]at hr⊢;simp only[g1N,bne_eq_false_iff_eq]at hc;obtain⟨hp3,hbal,hsl⟩:=hc;rw[hsl,hbal,g1p]at ve;have hld:=h.ld i hi;obtain⟨l1,l2,l3,l4⟩:=hld.l3 hp3;have he':e'=(N i).g9:=h.pu _ _ _ _ (h.vp _ _ _ _ ve).2.1 l1;subst he';have hlead:Own (N i)/\(N i).d7=[]/\B7 (N i).g9=Y/\(N i).b8.length=3/\(N i).b8[(N i).Id.toNat]?=U Y/\(N i).a9.length<40:=by
  rcases hni.ld with q|q|q|q
  ·omega
  ·omega
  ·omega
  ·exact q.2
 obtain⟨o1,o2,o3,o4,o5,o6⟩:=hlead;have hmk:∀q,D3 q->((N i).b8.set m.d7.toNat Y)[q.toNat]?=U Y->V q (N i).a9.length (N i).b5 (N i).g9:=by
  intro q hq hf;rcases d31 hfr hq hf with rfl|hf
  ·exact ve
  ·exact l4 q hq hf
 have hni2:NI {N i with b8:=(N i).b8.set m.d7.toNat Y}:=
  ⟨hni.id,hni.pr,hni.vl,hni.vs,hni.kl,hni.ks,hni.sq,hni.ql,hni.qs,.inr (.inr (.inr ⟨hp3,o1,o2,o3,by simpa using o4,by
   show((N i).b8.set m.d7.toNat Y)[(N i).Id.toNat]?=U Y
   rw[g2q];split
   ·rename_i hq;have:=hni.id;rw[if_pos (by omega)]
   ·exact o5,o6⟩)),hni.wt⟩
 have h2:PX (upd N i {N i with b8:=(N i).b8.set m.d7.toNat Y}) V P M:=by
  refine h.quiet hi hni2 hid (g1g _) rfl rfl ⟨λh0=>hld.bs h0,λq=>absurd (hp3.symm.trans q) (by decide),λq=>absurd (hp3.symm.trans q) (by decide),λ_=>⟨l1,l2,l3.imp λa _ c=>⟨g1S c.pr (b0k (n':={N i with b8:=(N i).b8.set m.d7.toNat Y}) (g1g _) a),c.cv⟩,hmk⟩⟩
 cases htw:L1 ((N i).b8.set m.d7.toNat Y)
 ·simp only[g26];exact⟨V,P,by rw[a9Q];exact h2⟩
 ·rw[htw]at hr;simp only[g25]at hr⊢;have hq:=d5V (by rw[g2b];exact o4) htw;have hch:a2V V (N i).a9.length (N i).g9:=by
   obtain⟨a,b,ha,hb,hab,x,y⟩:=hq;exact⟨(N i).b5,a,b,ha,hb,hab,hmk a ha x,hmk b hb y⟩
  refine S5.then (n1:={N i with b8:=(N i).b8.set m.d7.toNat Y}) ⟨V,P,h2.send λx hx=>⟨hr.ms x (g2p _ hx),?_⟩⟩ λV2 P2 hp => ?_
  ·obtain⟨t,_,_,_,rfl⟩:=a3A hni.id hx;exact .c5 rfl hch
  ·have h3:PX (upd N i {N i with b8:=(N i).b8.set m.d7.toNat Y}) V P (snd M (G4 (N i).Id ⟨5,0,0,0,((N i).a9.length:Int),(N i).g9,[]⟩)):=h2.send λx hx=>⟨hr.ms x (g2p _ hx),by
    obtain⟨t,_,_,_,rfl⟩:=a3A hni.id hx;exact .c5 rfl hch⟩
   have h4:=h3.learn hi (e:=(N i).g9) o3 (by rw[X7];exact o6) (by rw[X7];exact hch);rw[X7]at h4;exact h4
def PX.tChosen(h:PX N V P M)(hi:D3 i)(hm:M m)(hto:m.To=i)(hk:m.b7=5):S5 N M i (a0K (N i) m).1 (a0K (N i) m).2.1:=by
 obtain⟨mi,mv⟩:=h.ms m hm;obtain⟨hni,hid⟩:=h.ni i hi;have hr:=c9s hni mi hk;have hch:=mv.k5 hk;have hsl:=mi.sl;have hkd:m.i6<40/\B7 m.i9=Y:=by
  rcases mi.kd with q|q|q|q|q|q|q
  ·omega
  ·omega
  ·omega
  ·exact⟨q.2.2.1,q.2.2.2.1⟩
  all_goals exact absurd q.1 (by omega)
 unfold a0K at hr⊢;cases h1:decide (m.i6<((N i).a9.length:Int));case true=>exact .same h
 rw[h1]at hr;cases h2:decide (m.i6>((N i).a9.length:Int))
 ·simp only[g26];simp only[decide_eq_false_iff_not]at h1 h2;refine h.learn hi hkd.2 (by omega) ?_;rw[show(N i).a9.length=m.i6.toNat by omega];exact hch
 ·rw[h2]at hr;simp only[g26,g25]at hr⊢;exact .reply h (hr.ms _ (g03.2 rfl)) (.inr (.inr rfl))
def PX.tAsk(h:PX N V P M)(hi:D3 i)(hm:M m)(hto:m.To=i)(hk:m.b7=7):S5 N M i (Y9 (N i) m).1 (Y9 (N i) m).2:=by
 obtain⟨mi,mv⟩:=h.ms m hm;obtain⟨hni,hid⟩:=h.ni i hi;obtain⟨e1,e2⟩:B7 m.i9=Y/\m.i9.j9=W:=by
  rcases mi.kd with q|q|q|q|q|q|q
  ·omega
  ·omega
  ·omega
  ·omega
  ·omega
  ·exact⟨q.2.2.2.1,q.2.2.2.2.1⟩
  ·omega
 unfold Y9;cases hc:(N i).d6==0||(decide (4<=(N i).i5.length)||N3 (N i).a9 m.i9.b6)
 case true=>exact .same h
 simp only[g26];simp only[g1N,decide_eq_false_iff_not]at hc;have h1:=h.queue hi (q:=(N i).i5++[m.i9]) (by rw[g08,g1Q];omega) (by
  intro e he;rcases g0Z.1 he with q|q
  ·exact hni.qs e q
  ·rw[g03.1 q];exact⟨e1,e2⟩)
 have h2:=h1.propose hi;rw[X7]at h2;obtain⟨V',P',h2⟩:=h2;rw[a4l]at h2;exact⟨V',P',h2⟩
def PX.tNeed(h:PX N V P M)(hi:D3 i)(hm:M m):S5 N M i (N i) (W2 (N i) m):=by
 obtain⟨mi,mv⟩:=h.ms m hm;obtain⟨hni,hid⟩:=h.ni i hi;have hr:=d49 hni mi;refine⟨V,P,?_⟩;rw[a98];refine h.send λx hx=>⟨hr x hx,?_⟩
 unfold W2 at hx;obtain⟨l,hl,hx⟩:=g1H.1 hx;obtain⟨j,hj,rfl⟩:=g1m.1 hl;unfold T0 at hx;cases hk:(N i).a9[m.i6.toNat+j]? with
 |none=>rw[hk]at hx;cases hx
 |some e=>
  rw[hk]at hx;rw[g03.1 hx];refine .c5 rfl ?_;exact h.kn i _ e hi hk
def PX.tRefuse(h:PX N V P M)(hi:D3 i)(b:Int):S5 N M i (L3 {N i with Acc:=(J6 (N i).Acc b).getD (N i).Acc} b) []:=by
 refine⟨V,P,?_⟩;rw[a9Q];cases hp:J6 (N i).Acc b with
 |none=>exact h.yield hi b
 |some x=>
  have h1:=(h.promise hi hp).yield hi b;rw[X7,a4l]at h1;exact h1
def PX.take(h:PX N V P M)(hi:D3 i)(hm:M m)(hto:m.To=i):S5 N M i (D8 (N i) m).1 (D8 (N i) m).2.1:=by
 unfold D8;by_cases k1:m.b7=1
 ·rw[show(m.b7==1)=Y by simpa using k1];exact h.tPrepare hi hm hto k1
 rw[show(m.b7==1)=W by simpa using k1];by_cases k2:m.b7=2
 ·rw[show(m.b7==2)=Y by simpa using k2];exact h.tPromise hi hm hto k2
 rw[show(m.b7==2)=W by simpa using k2];by_cases k3:m.b7=3
 ·rw[show(m.b7==3)=Y by simpa using k3];exact h.tAccept hi hm hto k3
 rw[show(m.b7==3)=W by simpa using k3];by_cases k4:m.b7=4
 ·rw[show(m.b7==4)=Y by simpa using k4];exact h.tAccepted hi hm hto k4
 rw[show(m.b7==4)=W by simpa using k4];by_cases k5:m.b7=5
 ·rw[show(m.b7==5)=Y by simpa using k5];exact h.tChosen hi hm hto k5
 rw[show(m.b7==5)=W by simpa using k5];by_cases k6:m.b7=6
 ·rw[show(m.b7==6)=Y by simpa using k6];exact h.tRefuse hi m.b5
 rw[show(m.b7==6)=W by simpa using k6];by_cases k7:m.b7=7
 ·rw[show(m.b7==7)=Y by simpa using k7];exact h.tAsk hi hm hto k7
 rw[show(m.b7==7)=W by simpa using k7];cases m.b7==8
 ·exact .same h
 ·exact h.tNeed hi hm
end
section
variable {N:Int->m4} {V:VR} {P:PR} {M:MS} {i:Int}
def S5.to{n1 n2:m4}{l:List m9}(h1:PX (upd N i n1) V P M)(h2:S5 (upd N i n1) M i n2 l):S5 N M i n2 l:=by
 obtain⟨V',P',h2⟩:=h2;rw[a4l]at h2;exact⟨V',P',h2⟩
def PX.ask(h:PX N V P M)(hi:D3 i){p:List t8}(hp:z4 p):S5 N M i (N4 (N i) p).1 (N4 (N i) p).2:=by
 obtain⟨hni,hid⟩:=h.ni i hi;have hr:=b0N hni hp;rw[a12]at hr⊢;cases hc:O2 (N i) p;case false=>exact .same h
 rw[hc]at hr;have hn:=hni.asked hp hc;have h1:PX (upd N i (T7 (N i) p)) V P M:=h.keep hi hn hid (g1g _) rfl rfl rfl rfl rfl rfl rfl rfl;simp only[g25]at hr⊢;cases h2:(N i).d6==2
 ·rw[h2]at hr;simp only[g26]at hr⊢;refine .to h1 ⟨V,P,?_⟩;rw[a4l];refine h1.send λx hx=>⟨hr.ms x hx,?_⟩
  cases h0:(N i).d6==0
  ·rw[h0]at hx;cases hx
  ·rw[h0]at hx;obtain⟨t,_,_,_,rfl⟩:=a3A hni.id hx;exact .other (.inr (.inl rfl))
 ·simp only[g25];have h3:=h1.propose hi;rw[X7]at h3;exact .to h1 h3
def PX.retry(h:PX N V P M)(hi:D3 i):S5 N M i (K5 (N i)).1 (K5 (N i)).2:=by
 obtain⟨hni,hid⟩:=h.ni i hi;have hr:=b2E hni;have hneed:∀x∈G4 (N i).Id ⟨8,0,0,0,((N i).a9.length:Int),zE,[]⟩,MV N V P x:=λx hx=>by
  obtain⟨t,_,_,_,rfl⟩:=a3A hni.id hx;exact .other (.inr (.inr rfl))
 have go:∀{l:List m9},(∀x∈G4 (N i).Id ⟨8,0,0,0,((N i).a9.length:Int),zE,[]⟩++l,MI x)->(∀x∈l,MV N V P x)->S5 N M i (N i) (G4 (N i).Id ⟨8,0,0,0,((N i).a9.length:Int),zE,[]⟩++l):=λ{l} hm hv=>
  ⟨V,P,by rw[a98];exact h.send λx hx=>⟨hm x hx,(g0Z.1 hx).elim (hneed x) (hv x)⟩⟩
 unfold K5 at hr⊢;by_cases h1:(N i).d6=1
 ·rw[show((N i).d6==1)=Y by simpa using h1]at hr⊢;refine go hr.ms λx hx => ?_
  obtain⟨t,_,_,_,rfl⟩:=a3A hni.id hx;exact .c1 rfl ⟨(hni.ld.own (by omega)).mod,by show _<=((N (N i).Id).a9.length:Int);rw[hid];exact g1g _⟩
 rw[show((N i).d6==1)=W by simpa using h1]at hr⊢;by_cases h2:(N i).d6=2
 ·rw[show((N i).d6==2)=Y by simpa using h2]at hr⊢;simp only[g25,g26]at hr⊢;have hs:PX N V P (snd M (G4 (N i).Id ⟨8,0,0,0,((N i).a9.length:Int),zE,[]⟩)):=h.send λx hx=>⟨hr.ms x (g2p _ hx),hneed x hx⟩
  obtain⟨V',P',h3⟩:=hs.propose hi;rw[d1G]at h3;exact⟨V',P',h3⟩
 rw[show((N i).d6==2)=W by simpa using h2]at hr⊢;by_cases h3:(N i).d6=3
 ·rw[show((N i).d6==3)=Y by simpa using h3]at hr⊢;refine go hr.ms λx hx => ?_
  obtain⟨t,_,_,_,rfl⟩:=a3A hni.id hx;exact .c3 rfl ((h.ld i hi).l3 h3).1
 rw[show((N i).d6==3)=W by simpa using h3]at hr⊢;cases hb:(N i).j6
 ·rw[hb]at hr;refine⟨V,P,?_⟩;show PX (upd N i (N i)) V P _
  rw[a98];exact h.send λx hx=>⟨hr.ms x hx,hneed x hx⟩
 ·rw[hb]at hr;refine go hr.ms λx hx => ?_
  obtain⟨t,_,_,_,rfl⟩:=a3A hni.id hx;exact .other (.inr (.inl rfl))
def PX.fall(h:PX N V P M)(hi:D3 i):S5 N M i (U5 (N i)) []:=
 ⟨V,P,by rw[a9Q];exact h.quiet hi (h.ni i hi).1.fall (h.ni i hi).2 (g1g _) rfl rfl (.none rfl)⟩
end
def p8(w:m6)(j:Int):m4:=if 0<=j/\j<=2 then E8 w j else E6 0
def PW(w:m6):Prop := ∃V P M,PX (p8 w) V P M/\∀m∈w.c9,M m
def N6{w:m6}{j:Int}(h:D3 j):p8 w j=E8 w j:=if_pos h
def e1S{w w':m6}(h:w'.b9=w.b9):p8 w'=p8 w:=by
 funext j;unfold p8 E8;rw[h]
def a0L{w:m6}(h:WI w){i:Nat}(hi:i<3)(n:m4){w':m6}(hw:w'.b9=w.b9.set i n):p8 w'=upd (p8 w) (i:Int) n:=by
 have hl:=h.nl;funext j
 unfold p8 upd E8;rw[hw];show _=if j=(i:Int)then n else if 0<=j/\j<=2 then w.b9.getD j.toNat (E6 0)else E6 0
 by_cases hj:0<=j/\j<=2
 ·rw[if_pos hj,if_pos hj];by_cases q:j=(i:Int)
  ·subst q;rw[if_pos rfl,g1p,g1f,g18 (by omega)];rfl
  ·rw[if_neg q,g1f,g1k (by omega),<-g1f]
 ·rw[if_neg hj,if_neg hj,if_neg (by omega)]
def PW.put{w w':m6}(h:WI w){i:Nat}(hi:i<3){n':m4}{l:List m9}{V:VR}{P:PR}{M:MS}(hM:∀m∈w.c9,M m)(hg:S5 (p8 w) M (i:Int) n' l)(hn:w'.b9=w.b9.set i n')(hm:∀m∈w'.c9,m∈w.c9\/m∈l):PW w':=by
 obtain⟨V',P',h'⟩:=hg;refine⟨V',P',_,by rw[a0L h hi n' hn];exact h',λm hm' => ?_⟩;exact(hm m hm').imp (hM m) id
def PW.less{w w':m6}(h:PW w)(hn:w'.b9=w.b9)(hm:∀m∈w'.c9,m∈w.c9):PW w':=by
 obtain⟨V,P,M,h1,h2⟩:=h;exact⟨V,P,M,by rw[e1S hn];exact h1,λm q=>h2 m (hm m q)⟩
def a1E{w:m6}{l:List m9}{m:m9}(h:m∈(U3 w l).c9):m∈w.c9\/m∈l:=
 (g0Z.1 h).imp id g1M
def b1J{w:m6}{i:Int}{m:m9}(h:m∈(a2H w i).c9):m∈w.c9:=
 (g0Z.1 h).elim g1M g10
def f9n{w:m6}(h:WI w)(hp:PW w){e:v6}(he:O0 e):PW (t6 w e):=by
 obtain⟨V,P,M,h1,hM⟩:=hp;have hp:PW w:=⟨V,P,M,h1,hM⟩
 unfold t6;cases hk:e.b7==2||(e.b7==3||e.b7==4)
 ·simp only[g26];cases hA:v5 e.A 0 2
  ·exact hp
  simp only[g04,g26];rw[I1]at hA;obtain⟨i,hi⟩:∃i:Nat,e.A=(i:Int):=⟨e.A.toNat,by omega⟩
  have hi3:i<3:=by omega
  have hD:D3 (i:Int):=by unfold D3;omega
  rw[hi];have hN:p8 w (i:Int)=E8 w (i:Int):=N6 hD;cases e.b7==1
  ·cases e.b7==5
   ·cases e.b7==6
    ·cases e.b7==7
     ·exact hp
     ·have hg:=h1.fall hD;rw[hN]at hg;exact PW.put (V:=V) (P:=P) h hi3 hM hg rfl λm hm=>.inl hm
    ·have hg:=h1.retry hD;rw[hN]at hg;exact PW.put (V:=V) (P:=P) h hi3 hM hg rfl λm hm=>a1E (w:=J9 w _ _) hm
   ·have hg:=h1.rise hD;rw[hN]at hg;exact PW.put (V:=V) (P:=P) h hi3 hM hg rfl λm hm=>a1E (w:=J9 w _ _) hm
  ·simp only[g25];unfold a4J;cases decide (60<=(O w.i4))
   ·have hg:=h1.ask hD (C4.fits he (by decide));rw[hN]at hg;simp only[g26];cases decide ((N4 (E8 w (i:Int)) e.j8).1.Seq>(E8 w (i:Int)).Seq)
    ·exact PW.put (V:=V) (P:=P) h hi3 hM hg rfl λm hm=>a1E (w:=J9 w _ _) hm
    ·exact PW.put (V:=V) (P:=P) h hi3 hM hg rfl λm hm=>a1E (w:=J9 {w with i4:=w.i4++[_]} _ _) hm
   ·exact hp
 ·simp only[g25];unfold a0P;cases hA:decide (0<=e.A)
  ·exact hp
  simp only[g25];cases hm:w.c9[e.A.toNat]? with
  |none=>exact hp
  |some m=>
   have hmem:=g1e hm;simp only;cases e.b7==4
   ·cases e.b7==3
    ·simp only[g26];have hmi:=(h1.ms m (hM m hmem)).1;have hto:=hmi.to;obtain⟨t,htt⟩:∃t:Nat,m.To=(t:Int):=⟨m.To.toNat,by omega⟩
     have hD:D3 (t:Int):=by unfold D3;omega
     have hN:p8 w (t:Int)=E8 w (t:Int):=N6 hD;have hg:=h1.take hD (hM m hmem) htt;rw[hN]at hg;rw[htt];exact PW.put (V:=V) (P:=P) h (show t<3 by omega) hM hg rfl λx hx=>(a1E (w:=J9 (a2H w e.A) _ _) hx).imp (λq=>b1J q) id
    ·exact hp.less rfl λx hx=>b1J hx
   ·exact hp.less rfl λx hx=>(a1E hx).elim id λq=>by rw[g03.1 q];exact hmem
def e4K:PW O7:=by
 have hn:∀j,D3 j->p8 O7 j=E6 j:=λj hj=>by
  rw[N6 hj];unfold D3 at hj;obtain rfl|rfl|rfl:j=0\/j=1\/j=2:=by omega
  all_goals rfl
 refine⟨λ_ _ _ _=>False,λ_ _ _=>False,λ_=>False,⟨λi hi => ?_,λ_ _ _ _ v=>v.elim,λi s v hi hs _ => ?_,λ_ _ _ _ v=>v.elim,λ_ _ _ _ p=>p.elim,λ_ _ _ p=>p.elim,λ_ _ _ p=>p.elim,λi hi => ?_,λi s e hi hk => ?_,λ_ hm=>hm.elim⟩,λm hm=>by cases hm⟩
 ·rw[hn i hi];exact⟨NI.open hi,rfl⟩
 ·rw[hn i hi]at hs;simp[E6]at hs
 ·rw[hn i hi];exact .none rfl
 ·rw[hn i hi]at hk;simp[E6]at hk
structure ND(L:p9->Prop)(n:m4):Prop where
 kn:∀e∈n.a9,L e
 av:∀v∈n.Acc.b8,v.b5>0->L v.i9
 bv:∀v∈n.j5,v.b5>0->L v.i9
 cu:n.d6=3->L n.g9
 wt:n.j6=Y->L n.d9
 qu:∀e∈n.i5,L e
structure ML(L:p9->Prop)(m:m9):Prop where
 en:m.b7=3\/m.b7=5\/m.b7=7->L m.i9
 vs:∀v∈m.b8,v.b5>0->L v.i9
def TO(n x:m4)(ts:List s8):Prop:=ts=[]\/(n.j6=Y/\x.j6=W/\∃k,x.a9.findIdx? (I9 n.d9.b6)=U k/\ts=[⟨n.Id,n.d9.b6,W0 x.a9 k,bif W0 x.a9 k==0 then a0a x.a9 n.d9.b6 else 0⟩])
structure Act(L:p9->Prop)(n x:m4)(l:List m9)(ts:List s8):Prop where
 id:x.Id=n.Id
 sq:x.Seq=n.Seq
 kn:∃t,x.a9=n.a9++t
 bw:(x.j6=n.j6/\x.d9=n.d9)\/x.j6=W
 nd:ND L x
 ml:∀m∈l,ML L m
 to:TO n x ts
section
variable {L:p9->Prop} {n:m4} {m:m9}
def Act.same(h:ND L n):Act L n n [] []:=⟨rfl,rfl,⟨[],by simp⟩,.inl ⟨rfl,rfl⟩,h,by simp,.inl rfl⟩
def Act.of{x:m4}{l:List m9}(e1:x.Id=n.Id)(e2:x.Seq=n.Seq)(e3:x.a9=n.a9)(e4:x.j6=n.j6)(e5:x.d9=n.d9)(h:ND L x)(hm:∀m∈l,ML L m):Act L n x l []:=
 ⟨e1,e2,⟨[],by rw[e3];simp⟩,.inl ⟨e4,e5⟩,h,hm,.inl rfl⟩
def ML.plain(h1:m.b7≠3)(h2:m.b7≠5)(h3:m.b7≠7)(hv:m.b8=[]):ML L m:=⟨λh=>by omega,by rw[hv];simp⟩
def ML.has(hv:m.b8=[])(h:L m.i9):ML L m:=⟨λ_=>h,by rw[hv];simp⟩
def ML.all{id:Int}{x:m9}(h:ML L m)(hx:x∈G4 id m):ML L x:=by
 unfold G4 at hx;obtain⟨t,_,rfl⟩:=g1m.1 hx;exact⟨h.en,h.vs⟩
def ND.down(h:ND L n):ND L (a0E n):=⟨h.kn,h.av,by simp[a0E],λq=>absurd (show(0:Int)=3 from q) (by decide),h.wt,h.qu⟩
def ND.yield(h:ND L n)(b:Int):ND L (L3 n b):=by
 unfold L3;cases n.d6 != 0&&decide (b>n.b5)
 ·exact h
 ·exact h.down
def c3F(n:m4)(b:Int):(L3 n b).Seq=n.Seq/\(L3 n b).a9=n.a9/\(L3 n b).j6=n.j6/\(L3 n b).d9=n.d9:=by
 unfold L3;cases n.d6 != 0&&decide (b>n.b5)<;>exact⟨rfl,rfl,rfl,rfl⟩
def ND.next(h:ND L n)(h0:L eN){e:p9}(hn:a3F n e):L e:=by
 cases hn with
 |best v hv hb=>exact h.bv v (g1e hv) hb
 |gap=>exact h0
 |want hb=>exact h.wt hb
 |queue e he=>exact h.qu e he
def d8l{a x:B4}{b s:Int}{e:p9}(hc:N7 a b s e=U x)(h:∀v∈a.b8,v.b5>0->L v.i9)(he:L e):∀v∈x.b8,v.b5>0->L v.i9:=by
 obtain⟨k,rfl,_,_,_,_,_,rfl⟩:=b29 hc;intro v hv hb;rcases d2L hv with q|q
 ·rcases c3w q with q|q
  ·exact h v q hb
  ·rw[q]at hb;exact absurd hb (by decide)
 ·rw[q];exact he
def Act.propose(h:ND L n)(h0:L eN):Act L n (F8 n).1 (F8 n).2 []:=by
 unfold F8;cases n.d6 != 2||decide (40<=(O n.a9))
 case true=>exact .same h
 simp only[g26];obtain⟨q,hq,hql,hqm,hqe⟩:=a78 n;cases hx:a0q n with
 |mk x o=>
 rw[hx]at hq hqe;have hq:x={n with i5:=q}:=hq;subst hq;have hQ:ND L {n with i5:=q}:=⟨h.kn,h.av,h.bv,h.cu,h.wt,λe he=>h.qu e (hqm e he)⟩
 cases o with
 |none=>exact .of rfl rfl rfl rfl rfl hQ (by simp)
 |some e=>
  have he:=h.next h0 (hqe e rfl);simp only[a4k];cases hc:N7 n.Acc n.b5 (O n.a9:Int) e with
  |none=>exact .of rfl rfl rfl rfl rfl hQ.down (by simp)
  |some a=>exact .of rfl rfl rfl rfl rfl ⟨h.kn,d8l hc h.av he,h.bv,λ_=>he,h.wt,hQ.qu⟩ λm hm=>(ML.has rfl he).all hm
def Act.thenP{a:m4}{l:List m9}{ts:List s8}(h:Act L n a l ts)(h0:L eN):Act L n (F8 a).1 (l++(F8 a).2) ts:=by
 have hp:=Act.propose h.nd h0;have hk:=a9j a;obtain⟨t,ht⟩:=h.kn;refine⟨hk.id.trans h.id,hk.seq.trans h.sq,⟨t,hk.known.trans ht⟩,h.bw.imp (λq=>⟨hk.busy.trans q.1,hk.want.trans q.2⟩) λq=>hk.busy.trans q,hp.nd,λm hm=>(g0Z.1 hm).elim (h.ml m) (hp.ml m),?_⟩;unfold TO;rw[hk.known,hk.busy];exact h.to
def Act.know{e:p9}(h:ND L n)(he:L e):Act L n (K7 (C6 n e)).1 [] (K7 (C6 n e)).2:=by
 have k1:(C6 n e).Id=n.Id:=c2G n e;have k2:(C6 n e).Seq=n.Seq:=by unfold C6;cases n.d6==3<;>rfl
 have k3:(C6 n e).a9=n.a9++[e]:=b9B n e;have k4:(C6 n e).j6=n.j6/\(C6 n e).d9=n.d9:=by unfold C6;cases n.d6==3<;>exact⟨rfl,rfl⟩
 have kk:∀x∈n.a9++[e],L x:=λx hx=>(g0Z.1 hx).elim (h.kn x) λq=>by rw[g03.1 q];exact he
 have hnd:ND L (C6 n e):=by
  unfold C6;cases hp:n.d6==3
  ·exact⟨kk,h.av,h.bv,h.cu,h.wt,h.qu⟩
  ·exact⟨kk,h.av,h.bv,λq=>absurd (show(2:Int)=3 from q) (by decide),h.wt,h.qu⟩
 rcases b02 (C6 n e)with q|⟨k,q1,q2,q⟩<;>rw[q]
 ·exact⟨k1,k2,⟨[e],k3⟩,.inl k4,hnd,by simp,.inl rfl⟩
 ·refine⟨k1,k2,⟨[e],k3⟩,.inr rfl,⟨hnd.kn,hnd.av,hnd.bv,hnd.cu,λq=>(by cases q),hnd.qu⟩,by simp,.inr ⟨by rw[<-k4.1];exact q1,rfl,k,by rw[<-k4.2];exact q2,?_⟩⟩;rw[<-k4.2,<-k1];rfl
def Act.learn{e:p9}(h:ND L n)(h0:L eN)(he:L e):Act L n (V5 n e).1 (V5 n e).2.1 (V5 n e).2.2:=by
 have:=(Act.know h he).thenP h0;rw[g1z]at this;exact this
def e67{C:Type}{l:List C}{k:Nat}{x:C}(h:x∈l.drop k):x∈l:=g10 h
def Act.take(h:ND L n)(h0:L eN)(hm:ML L m)(hmi:MI m):Act L n (D8 n m).1 (D8 n m).2.1 (D8 n m).2.2:=by
 unfold D8;by_cases k1:m.b7=1
 ·rw[show(m.b7==1)=Y by simpa using k1];simp only[g25];unfold a0N;cases hp:J6 n.Acc m.b5 with
  |none=>exact .of rfl rfl rfl rfl rfl h λx hx=>by rw[g03.1 hx];exact .plain (by simp[H7]) (by simp[H7]) (by simp[H7]) rfl
  |some a=>
   obtain⟨rfl,_⟩:=a2K hp;obtain⟨y1,y2,y3,y4⟩:=c3F {n with Acc:=⟨m.b5,n.Acc.b8⟩} m.b5;have hg:ND L {n with Acc:=⟨m.b5,n.Acc.b8⟩}:=⟨h.kn,h.av,h.bv,h.cu,h.wt,h.qu⟩
   refine .of (a8s _ _) y1 y2 y3 y4 (hg.yield _) λx hx => ?_
   rw[g03.1 hx];exact⟨λq=>by simp[H7]at q,λv hv=>h.av v (e67 hv)⟩
 rw[show(m.b7==1)=W by simpa using k1];by_cases k2:m.b7=2
 ·rw[show(m.b7==2)=Y by simpa using k2];simp only[g25,g26];unfold Y8;have hb:∀v∈G2 n.j5 (g00 m.i6.toNat v0++m.b8),v.b5>0->L v.i9:=λv hv hb=>by
   rcases a8P hv with q|q
   ·exact h.bv v q hb
   ·rcases g0Z.1 q with q|q
    ·rw[(g1O.1 q).2]at hb;exact absurd hb (by decide)
    ·exact hm.vs v q hb
  cases n.d6 != 1||m.b5 != n.b5
  ·simp only[g26];cases L1 (n.d7.set m.d7.toNat Y)
   ·exact .of rfl rfl rfl rfl rfl ⟨h.kn,h.av,hb,h.cu,h.wt,h.qu⟩ (by simp)
   ·simp only[g25];have h1:Act L n {n with d7:=[],j5:=G2 n.j5 (g00 m.i6.toNat v0++m.b8),d6:=2} [] []:=.of rfl rfl rfl rfl rfl ⟨h.kn,h.av,hb,λq=>absurd (show(2:Int)=3 from q) (by decide),h.wt,h.qu⟩ (by simp);have h2:=h1.thenP h0;rw[g1z]at h2;exact h2
  ·exact .same h
 rw[show(m.b7==2)=W by simpa using k2];by_cases k3:m.b7=3
 ·rw[show(m.b7==3)=Y by simpa using k3];simp only[g25,g26];unfold a0H;cases hp:N7 n.Acc m.b5 m.i6 m.i9 with
  |none=>exact .of rfl rfl rfl rfl rfl h λx hx=>by rw[g03.1 hx];exact .plain (by simp[H7]) (by simp[H7]) (by simp[H7]) rfl
  |some a=>
   obtain⟨y1,y2,y3,y4⟩:=c3F {n with Acc:=a} m.b5;have hg:ND L {n with Acc:=a}:=⟨h.kn,d8l hp h.av (hm.en (.inl k3)),h.bv,h.cu,h.wt,h.qu⟩
   refine .of (a8s _ _) y1 y2 y3 y4 (hg.yield _) λx hx => ?_
   rw[g03.1 hx];exact .plain (by simp[H7]) (by simp[H7]) (by simp[H7]) rfl
 rw[show(m.b7==3)=W by simpa using k3];by_cases k4:m.b7=4
 ·rw[show(m.b7==4)=Y by simpa using k4];simp only[g25,g26];unfold a0J;cases hc:n.d6 != 3||(m.b5 != n.b5||m.i6 != (O n.a9:Int))
  ·simp only[g26];simp only[g1N,bne_eq_false_iff_eq]at hc;have hcu:=h.cu hc.1;have h1:ND L {n with b8:=n.b8.set m.d7.toNat Y}:=⟨h.kn,h.av,h.bv,h.cu,h.wt,h.qu⟩
   cases L1 (n.b8.set m.d7.toNat Y)
   ·exact .of rfl rfl rfl rfl rfl h1 (by simp)
   ·simp only[g25];have h2:=Act.learn h1 h0 hcu;exact⟨h2.id,h2.sq,h2.kn,h2.bw,h2.nd,λx hx=>(g0Z.1 hx).elim (λq=>(ML.has rfl hcu).all q) (h2.ml x),h2.to⟩
  ·exact .same h
 rw[show(m.b7==4)=W by simpa using k4];by_cases k5:m.b7=5
 ·rw[show(m.b7==5)=Y by simpa using k5];simp only[g25,g26];unfold a0K;cases decide (m.i6<(O n.a9:Int))
  ·cases decide (m.i6>(O n.a9:Int))
   ·exact .learn h h0 (hm.en (.inr (.inl k5)))
   ·exact .of rfl rfl rfl rfl rfl h λx hx=>by rw[g03.1 hx];exact .plain (by simp[H7]) (by simp[H7]) (by simp[H7]) rfl
  ·exact .same h
 rw[show(m.b7==5)=W by simpa using k5];by_cases k6:m.b7=6
 ·rw[show(m.b7==6)=Y by simpa using k6];simp only[g25,g26];have hg:ND L {n with Acc:=(J6 n.Acc m.b5).getD n.Acc}:=by
   cases hp:J6 n.Acc m.b5 with
   |none=>exact h
   |some a=>
    obtain⟨rfl,_⟩:=a2K hp;exact⟨h.kn,h.av,h.bv,h.cu,h.wt,h.qu⟩
  obtain⟨y1,y2,y3,y4⟩:=c3F {n with Acc:=(J6 n.Acc m.b5).getD n.Acc} m.b5;exact .of (a8s _ _) y1 y2 y3 y4 (hg.yield _) (by simp)
 rw[show(m.b7==6)=W by simpa using k6];by_cases k7:m.b7=7
 ·rw[show(m.b7==7)=Y by simpa using k7];simp only[g25,g26];unfold Y9;cases n.d6==0||(decide (4<=(O n.i5))||N3 n.a9 m.i9.b6)
  ·simp only[g26];have h1:Act L n {n with i5:=n.i5++[m.i9]} [] []:=.of rfl rfl rfl rfl rfl ⟨h.kn,h.av,h.bv,h.cu,h.wt,λe he=>(g0Z.1 he).elim (h.qu e) λq=>by rw[g03.1 q];exact hm.en (.inr (.inr k7))⟩ (by simp);have h2:=h1.thenP h0;rw[g1z]at h2;exact h2
  ·exact .same h
 rw[show(m.b7==7)=W by simpa using k7];cases m.b7==8
 ·exact .same h
 ·refine .of rfl rfl rfl rfl rfl h λx hx => ?_
  obtain⟨l,hl,hx⟩:=g1H.1 hx;obtain⟨j,hj,rfl⟩:=g1m.1 hl;unfold T0 at hx;cases hk:n.a9[m.i6.toNat+j]? with
  |none=>rw[hk]at hx;cases hx
  |some e=>
   rw[hk]at hx;rw[g03.1 hx];exact .has rfl (h.kn e (g1e hk))
def Act.rise(h:ND L n):Act L n (P9 n).1 (P9 n).2 []:=by
 unfold P9;cases decide (M5 n.Acc.i7 n.Id<0)
 ·refine .of rfl rfl rfl rfl rfl ⟨h.kn,h.av,h.av,λq=>absurd (show(1:Int)=3 from q) (by decide),h.wt,h.qu⟩ λx hx=>(ML.plain (by simp) (by simp) (by simp) rfl).all hx
 ·exact .same h
def Act.retry(h:ND L n)(h0:L eN):Act L n (K5 n).1 (K5 n).2 []:=by
 have hn:∀x∈G4 n.Id ⟨8,0,0,0,(O n.a9:Int),zE,[]⟩,ML L x:=λx hx=>(ML.plain (by simp) (by simp) (by simp) rfl).all hx
 have L1:∀{l:List m9},(∀x∈l,ML L x)->Act L n n (G4 n.Id ⟨8,0,0,0,(O n.a9:Int),zE,[]⟩++l) []:=λ{l} hl=>.of rfl rfl rfl rfl rfl h λx hx=>(g0Z.1 hx).elim (hn x) (hl x)
 unfold K5;by_cases h1:n.d6=1
 ·rw[show(n.d6==1)=Y by simpa using h1];exact L1 λx hx=>(ML.plain (by simp) (by simp) (by simp) rfl).all hx
 rw[show(n.d6==1)=W by simpa using h1];by_cases h2:n.d6=2
 ·rw[show(n.d6==2)=Y by simpa using h2];have hp:Act L n n (G4 n.Id ⟨8,0,0,0,(O n.a9:Int),zE,[]⟩) []:=.of rfl rfl rfl rfl rfl h hn;exact hp.thenP h0
 rw[show(n.d6==2)=W by simpa using h2];by_cases h3:n.d6=3
 ·rw[show(n.d6==3)=Y by simpa using h3];exact L1 λx hx=>(ML.has rfl (h.cu h3)).all hx
 rw[show(n.d6==3)=W by simpa using h3];cases hb:n.j6
 ·exact .of rfl rfl rfl rfl rfl h hn
 ·exact L1 λx hx=>(ML.has rfl (h.wt hb)).all hx
def Act.fall(h:ND L n):Act L n (U5 n) [] []:=⟨rfl,rfl,⟨[],by simp[U5,E6]⟩,.inr rfl,⟨h.kn,h.av,by simp[U5,E6],λq=>absurd (show(0:Int)=3 from q) (by decide),λq=>(by cases q),by simp[U5,E6]⟩,by simp,.inl rfl⟩
def ND.mono{L':p9->Prop}(h:ND L n)(hi:∀e,L e->L' e):ND L' n:=⟨λe q=>hi e (h.kn e q),λv q b=>hi _ (h.av v q b),λv q b=>hi _ (h.bv v q b),λq=>hi _ (h.cu q),λq=>hi _ (h.wt q),λe q=>hi e (h.qu e q)⟩
def ML.mono{L':p9->Prop}(h:ML L m)(hi:∀e,L e->L' e):ML L' m:=⟨λq=>hi _ (h.en q),λv q b=>hi _ (h.vs v q b)⟩
end
def a2i(w:m6)(e:p9):Prop:=e.j9=Y\/∃a∈w.i4,a.b6=e.b6/\∃j,j<=(p8 w e.b6.i0).a9.length/\(∀x∈(p8 w e.b6.i0).a9.take j,I9 e.b6 x=W)/\e.g8=E9 (w9 ((p8 w e.b6.i0).a9.take j)).1.j4 a.j8
def b0z(l:List p9)(t:s8):Prop := ∃k,l.findIdx? (I9 t.b6)=U k/\t.Code=W0 l k/\t.i8=bif W0 l k==0 then a0a l t.b6 else 0
structure TL(w:m6):Prop where
 nd:∀i,D3 i->ND (a2i w) (p8 w i)
 ml:∀m∈w.c9,ML (a2i w) m
 aq:∀a∈w.i4,D3 a.b6.i0/\1<=a.b6.Seq/\a.b6.Seq<=(p8 w a.b6.i0).Seq
 au:(w.i4.map (·.b6)).Nodup
 tn:∀t∈w.Told,t.Node=t.b6.i0/\D3 t.Node/\(∃a∈w.i4,a.b6=t.b6)/\((p8 w t.Node).j6=Y->t.b6.Seq<(p8 w t.Node).Seq)/\b0z (p8 w t.Node).a9 t
 tu:(w.Told.map (·.b6)).Nodup
def d4k{l t:List p9}{q:u0}{k:Nat}(h:l.findIdx? (I9 q)=U k):(l++t).findIdx? (I9 q)=U k:=by
 rw[List.findIdx?_append,h];rfl
def d9K{l t:List p9}{k:Nat}(h:K1 (l++t)=Y)(hk:k<(O l)):W0 (l++t) k=W0 l k:=by
 have hl:K1 l=Y:=by
  unfold K1 at h⊢;simp only[g08,List.all_append,g02,decide_eq_true_eq]at h⊢;exact⟨by omega,h.2.1⟩
 rw[c8a h (by rw[g08];omega),c8a hl hk,g1L (by omega),List.getElem_append_left hk]
def f7x{l t:List p9}{q:u0}{k:Nat}(h:l.findIdx? (I9 q)=U k):a0a (l++t) q=a0a l q:=by
 obtain⟨hk,_⟩:=b3V h;unfold a0a;rw[d4k h,h];simp only[g1o hk]
def b0z.app{l t:List p9}{x:s8}(h:b0z l x)(hl:K1 (l++t)=Y):b0z (l++t) x:=by
 obtain⟨k,h1,h2,h3⟩:=h;obtain⟨hk,_⟩:=b3V h1;exact⟨k,d4k h1,by rw[d9K hl hk];exact h2,by rw[d9K hl hk,f7x h1];exact h3⟩
def a2j{w:m6}(h:WI w){i:Int}(hi:D3 i):NI (p8 w i)/\(p8 w i).Id=i:=by
 rw[N6 hi];unfold D3 at hi;obtain⟨k,rfl⟩:∃k:Nat,i=(k:Int):=⟨i.toNat,by omega⟩
 obtain⟨n,_,h2,h3,h4,_⟩:=a4P h (i:=k) (by omega);rw[h2];exact⟨h4,h3⟩
def c78{w w':m6}(hl:(O w.b9)=3){i:Nat}(hi:i<3)(n:m4)(hw:w'.b9=w.b9.set i n)(j:Int):p8 w' j=if j=(i:Int)then n else p8 w j:=by
 unfold p8 E8;rw[hw];by_cases hj:0<=j/\j<=2
 ·rw[if_pos hj,if_pos hj];by_cases q:j=(i:Int)
  ·subst q;rw[if_pos rfl,g1p,g1f,g18 (by omega)];rfl
  ·rw[if_neg q,g1f,g1k (by omega),<-g1f]
 ·rw[if_neg hj,if_neg hj,if_neg (by omega)]
def a2i.mono{w w':m6}(hk:∀j,∃t,(p8 w' j).a9=(p8 w j).a9++t)(ha:∀a∈w.i4,a∈w'.i4){e:p9}(h:a2i w e):a2i w' e:=by
 rcases h with h|⟨a,h1,h2,j,h3,h4,h5⟩
 ·exact .inl h
 ·obtain⟨t,ht⟩:=hk e.b6.i0;refine .inr ⟨a,ha a h1,h2,j,by rw[ht,g08];omega,?_,?_⟩
  ·rw[ht,g1L h3];exact h4
  ·rw[ht,g1L h3];exact h5
def TL.step{w w':m6}(h:TL w)(hl:(O w.b9)=3){i:Nat}(hi:i<3)(hni:NI (p8 w (i:Int)))(hid:(p8 w (i:Int)).Id=(i:Int)){n':m4}{l:List m9}{ts:List s8}(hn':NI n')(ha:Act (a2i w) (p8 w (i:Int)) n' l ts)(hn:w'.b9=w.b9.set i n')(hm:∀m∈w'.c9,m∈w.c9\/m∈l)(hk:w'.i4=w.i4)(ht:w'.Told=w.Told\/w'.Told=w.Told++ts):TL w':=by
 have hJ:=c78 hl hi n' hn;have hD:D3 (i:Int):=by unfold D3;omega
 have hJi:p8 w' (i:Int)=n':=by rw[hJ,if_pos rfl]
 have hkn:∀j,∃t,(p8 w' j).a9=(p8 w j).a9++t:=λj=>by
  rw[hJ];split
  ·rename_i q;subst q;exact ha.kn
  ·exact⟨[],by simp⟩
 have hmo:∀e,a2i w e->a2i w' e:=λe=>a2i.mono hkn (by rw[hk];exact λ_ q=>q)
 have hsq:∀j,(p8 w' j).Seq=(p8 w j).Seq:=λj=>by
  rw[hJ];split
  ·rename_i q;subst q;exact ha.sq
  ·rfl
 have hls:∀j,D3 j->NI (p8 w j)->∀t,(p8 w' j).a9=(p8 w j).a9++t->K1 ((p8 w j).a9++t)=Y\/(p8 w' j).a9=(p8 w j).a9:=λj hj hjn t ht=>by
  by_cases q:j=(i:Int)
  ·subst q;rw[hJi]at ht;left;rw[<-ht];exact hn'.list
  ·right;rw[hJ,if_neg q]
 have old:∀t∈w.Told,t.Node=t.b6.i0/\D3 t.Node/\(∃a∈w'.i4,a.b6=t.b6)/\((p8 w' t.Node).j6=Y->t.b6.Seq<(p8 w' t.Node).Seq)/\b0z (p8 w' t.Node).a9 t:=by
  intro t q;obtain⟨x1,x2,x3,x4,x5⟩:=h.tn t q;refine⟨x1,x2,by rw[hk];exact x3,λhb => ?_,?_⟩
  ·rw[hsq];refine x4 ?_;rw[hJ]at hb;split at hb
   ·rename_i q;rw[q];rcases ha.bw with⟨b,_⟩|b
    ·rw[<-b];exact hb
    ·rw[b]at hb;cases hb
   ·exact hb
  ·obtain⟨t',ht'⟩:=hkn t.Node;rw[ht'];by_cases q:t.Node=(i:Int)
   ·refine x5.app ?_;rw[<-ht',q,hJi];exact hn'.list
   ·have:t'=[]:=by
     rw[hJ,if_neg q]at ht';have:=congrArg List.length ht';rw[g08]at this;exact g1c (by omega)
    rw[this,g1i];exact x5
 have new:∀t∈ts,(t.Node=t.b6.i0/\D3 t.Node/\(∃a∈w'.i4,a.b6=t.b6)/\((p8 w' t.Node).j6=Y->t.b6.Seq<(p8 w' t.Node).Seq)/\b0z (p8 w' t.Node).a9 t)/\ts=[t]/\(p8 w (i:Int)).j6=Y/\t.b6=⟨(i:Int),(p8 w (i:Int)).Seq⟩:=by
  intro t q;rcases ha.to with e|⟨b1,b2,k,b3,b4⟩
  ·rw[e]at q;cases q
  ·rw[b4]at q;have q:=g03.1 q;have hw:(p8 w (i:Int)).d9.b6=⟨(i:Int),(p8 w (i:Int)).Seq⟩/\(p8 w (i:Int)).d9.j9=W:=by
    rcases hni.wt with y|y
    ·exact⟨by rw[y.2.2.2.2,hid],y.2.2.2.1⟩
    ·rw[b1]at y;cases y.1
   have hlg:=(h.nd (i:Int) hD).wt b1;rcases hlg with y|⟨a,a1,a2,_⟩
   ·rw[hw.2]at y;cases y
   ·subst q;refine⟨⟨?_,by show D3 _;rw[hid];exact hD,⟨a,by rw[hk];exact a1,a2⟩,?_,?_⟩,b4,b1,hw.1⟩
    ·show(p8 w (i:Int)).Id=(p8 w (i:Int)).d9.b6.i0
     rw[hw.1,hid]
    ·show(p8 w' (p8 w (i:Int)).Id).j6=Y->_
     rw[hid,hJi,b2];intro y;cases y
    ·show b0z (p8 w' (p8 w (i:Int)).Id).a9 _
     rw[hid,hJi];exact⟨k,b3,rfl,rfl⟩
 refine⟨λj hj => ?_,λm q => ?_,λa q => ?_,by rw[hk];exact h.au,λt q => ?_,?_⟩
 ·rw[hJ];split
  ·exact ha.nd.mono hmo
  ·exact(h.nd j hj).mono hmo
 ·exact(hm m q).elim (λq=>(h.ml m q).mono hmo) λq=>(ha.ml m q).mono hmo
 ·rw[hk]at q;obtain⟨x1,x2,x3⟩:=h.aq a q;exact⟨x1,x2,by rw[hsq];exact x3⟩
 ·rcases ht with e|e
  ·rw[e]at q;exact old t q
  ·rw[e]at q;exact(g0Z.1 q).elim (old t) λq=>(new t q).1
 ·rcases ht with e|e
  ·rw[e];exact h.tu
  ·rw[e,g1W];refine g1b.2 ⟨h.tu,?_,?_⟩
   ·cases hts:ts with
    |nil=>simp
    |cons t r=>
     have:=(new t (by rw[hts];simp)).2.1;rw[hts]at this;injection this with _ hr;rw[hr];simp
   ·intro a ha' b hb' hab;obtain⟨x,hx,rfl⟩:=g1m.1 ha';obtain⟨y,hy,rfl⟩:=g1m.1 hb';obtain⟨_,_,n3,n4⟩:=new y hy;obtain⟨o1,o2,o3,o4,o5⟩:=h.tn x hx;rw[n4]at hab;have:x.Node=(i:Int):=by rw[o1,hab]
    have:=o4 (by rw[this];exact n3);rw[‹x.Node=(i:Int)›,hab]at this;simp only at this;omega
def TL.asked{w w':m6}(h:TL w)(hw:WI w){i:Nat}(hi:i<3){p:List t8}(hc:O2 (p8 w (i:Int)) p=Y)(hn:w'.b9=w.b9.set i (T7 (p8 w (i:Int)) p))(hm:w'.c9=w.c9)(hk:w'.i4=w.i4++[⟨⟨(i:Int),(p8 w (i:Int)).Seq+1⟩,p⟩])(ht:w'.Told=w.Told):TL w':=by
 have hJ:=c78 hw.nl hi _ hn;have hD:D3 (i:Int):=by unfold D3;omega
 obtain⟨hni,hid⟩:=a2j hw hD;have hJi:p8 w' (i:Int)=T7 (p8 w (i:Int)) p:=by rw[hJ,if_pos rfl]
 have hkn:∀j,(p8 w' j).a9=(p8 w j).a9:=λj=>by
  rw[hJ];split
  ·rename_i q;subst q;rfl
  ·rfl
 have hsq:∀j,(p8 w j).Seq<=(p8 w' j).Seq:=λj=>by
  rw[hJ];split
  ·rename_i q;subst q;show _<=(p8 w (i:Int)).Seq+1;omega
  ·exact g1g _
 have hmo:∀e,a2i w e->a2i w' e:=λe=>a2i.mono (λj=>⟨[],by rw[hkn,g1i]⟩) (by rw[hk];exact λa q=>g2p _ q)
 have hnew:∀e,a2i w e->I9 ⟨(i:Int),(p8 w (i:Int)).Seq+1⟩ e=W:=λe he=>by
  cases hq:I9 ⟨(i:Int),(p8 w (i:Int)).Seq+1⟩ e
  ·rfl
  ·unfold I9 at hq;simp only[g02,g1D]at hq;have hr:e.b6=⟨(i:Int),(p8 w (i:Int)).Seq+1⟩:=(b1n (b:=⟨(i:Int),(p8 w (i:Int)).Seq+1⟩)).1 hq.2;rcases he with he|⟨a,a1,a2,_⟩
   ·rw[hq.1]at he;cases he
   ·have:=(h.aq a a1).2.2;rw[a2,hr]at this;simp only at this;omega
 have hnd:=h.nd (i:Int) hD;refine⟨λj hj => ?_,λm q=>(h.ml m (hm▸q)).mono hmo,λa q => ?_,?_,λt q => ?_,by rw[ht];exact h.tu⟩
 ·rw[hJ];split
  ·refine⟨λe q=>hmo e (hnd.kn e q),λv q b=>hmo _ (hnd.av v q b),λv q b=>hmo _ (hnd.bv v q b),λq=>hmo _ (hnd.cu q),λ_ => ?_,λe q=>hmo e (hnd.qu e q)⟩;refine .inr ⟨⟨⟨(i:Int),(p8 w (i:Int)).Seq+1⟩,p⟩,by rw[hk];simp,?_,(p8 w (i:Int)).a9.length,?_,?_,?_⟩
   ·show _=(⟨(p8 w (i:Int)).Id,(p8 w (i:Int)).Seq+1⟩:u0)
    rw[hid]
   ·show _<=(p8 w' (p8 w (i:Int)).Id).a9.length
    rw[hid,hkn];exact g07 _
   ·show ∀x∈(p8 w' (p8 w (i:Int)).Id).a9.take _,I9 (⟨(p8 w (i:Int)).Id,(p8 w (i:Int)).Seq+1⟩:u0) x=W
    rw[hid,hkn,g1n];exact λx hx=>hnew x (hnd.kn x hx)
   ·show _=E9 (w9 ((p8 w' (p8 w (i:Int)).Id).a9.take _)).1.j4 p
    rw[hid,hkn,g1n];rfl
  ·exact(h.nd j hj).mono hmo
 ·rw[hk]at q;rcases g0Z.1 q with q|q
  ·obtain⟨x1,x2,x3⟩:=h.aq a q;exact⟨x1,x2,g1S x3 (hsq _)⟩
  ·rw[g03.1 q];refine⟨hD,by have:=hni.sq;show 1<=(p8 w (i:Int)).Seq+1;omega,?_⟩;show _<=(p8 w' (i:Int)).Seq
   rw[hJi];exact g1g _
 ·rw[hk,g1W];refine g1b.2 ⟨h.au,by simp,?_⟩;intro a ha b hb hab;obtain⟨x,hx,rfl⟩:=g1m.1 ha;rw[List.map_singleton,g03]at hb;have:=(h.aq x hx).2.2;rw[hab,hb]at this;simp only at this;omega
 ·rw[ht]at q;obtain⟨x1,x2,⟨a,a1,a2⟩,x4,x5⟩:=h.tn t q;refine⟨x1,x2,⟨a,by rw[hk];exact g2p _ a1,a2⟩,λhb => ?_,by rw[hkn];exact x5⟩;rw[hJ]at hb⊢;split
  ·rename_i q;have:=(h.aq a a1).2.2;rw[a2,<-x1,q]at this;show _<(p8 w (i:Int)).Seq+1
   omega
  ·rename_i q;rw[if_neg q]at hb;exact x4 hb
def e6f{w:m6}(h:WI w)(ht:TL w){e:v6}(he:O0 e):TL (t6 w e):=by
 have h0:a2i w eN:=.inl rfl;unfold t6;cases hk:e.b7==2||(e.b7==3||e.b7==4)
 ·simp only[g26];cases hA:v5 e.A 0 2
  ·exact ht
  simp only[g04,g26];rw[I1]at hA;obtain⟨i,hi⟩:∃i:Nat,e.A=(i:Int):=⟨e.A.toNat,by omega⟩
  have hi3:i<3:=by omega
  have hD:D3 (i:Int):=by unfold D3;omega
  rw[hi];have hN:p8 w (i:Int)=E8 w (i:Int):=N6 hD;obtain⟨hni,hid⟩:=a2j h hD;have hnd:=ht.nd (i:Int) hD;rw[<-hN];cases e.b7==1
  ·cases e.b7==5
   ·cases e.b7==6
    ·cases e.b7==7
     ·exact ht
     ·exact ht.step h.nl hi3 hni hid hni.fall (.fall hnd) rfl (λm q=>.inl q) rfl (.inl rfl)
    ·exact ht.step h.nl hi3 hni hid (b2E hni).ni (.retry hnd h0) rfl (λm q=>a1E (w:=J9 w _ _) q) rfl (.inl rfl)
   ·exact ht.step h.nl hi3 hni hid (b1Y hni).ni (.rise hnd) rfl (λm q=>a1E (w:=J9 w _ _) q) rfl (.inl rfl)
  ·simp only[g25];unfold a4J;cases hal:decide (60<=(O w.i4))
   ·rw[<-hN];simp only[g26];rw[c4g];cases hc:O2 (p8 w (i:Int)) e.j8
    ·simp only[g26];rw[a12,hc];exact ht.step h.nl hi3 hni hid hni (.same hnd) rfl (λm q=>a1E (w:=J9 w _ _) q) rfl (.inl rfl)
    ·simp only[g25];have hf:z4 e.j8:=C4.fits he (by decide);have hwq:(N4 (p8 w (i:Int)) e.j8).1.d9.b6=⟨(i:Int),(p8 w (i:Int)).Seq+1⟩:=by
      rw[b8x hc];show(⟨(p8 w (i:Int)).Id,_⟩:u0)=_;rw[hid]
     rw[hwq];have h1:TL ⟨w.b9.set i (T7 (p8 w (i:Int)) e.j8),w.c9,w.i4++[⟨⟨(i:Int),(p8 w (i:Int)).Seq+1⟩,e.j8⟩],w.Told⟩:=ht.asked h hi3 hc rfl rfl rfl rfl;have hJ:=c78 (w':=⟨w.b9.set i (T7 (p8 w (i:Int)) e.j8),w.c9,w.i4++[⟨⟨(i:Int),(p8 w (i:Int)).Seq+1⟩,e.j8⟩],w.Told⟩) h.nl hi3 _ rfl (i:Int);rw[if_pos rfl]at hJ;have hnd1:=h1.nd (i:Int) hD;rw[hJ]at hnd1;have hni1:=hni.asked hf hc;have hcan:=hc;refine h1.step (i:=i) (n':=(N4 (p8 w (i:Int)) e.j8).1) (l:=(N4 (p8 w (i:Int)) e.j8).2) (ts:=[]) (by show(w.b9.set i _).length=3;rw[g2b];exact h.nl) hi3 (by rw[hJ];exact hni1) (by rw[hJ];exact hid) (b0N hni hf).ni ?_ ?_ (λm q=>a1E (w:=J9 ⟨w.b9,w.c9,w.i4++[_],w.Told⟩ _ _) q) rfl (.inl rfl)
     ·rw[hJ];rw[a12,hc];have h0':a2i ⟨w.b9.set i (T7 (p8 w (i:Int)) e.j8),w.c9,w.i4++[⟨⟨(i:Int),(p8 w (i:Int)).Seq+1⟩,e.j8⟩],w.Told⟩ eN:=.inl rfl;simp only[g25];cases(p8 w (i:Int)).d6==2
      ·refine .of rfl rfl rfl rfl rfl hnd1 λx hx => ?_
       simp only[g26]at hx;cases hp0:(p8 w (i:Int)).d6==0
       ·rw[hp0]at hx;cases hx
       ·rw[hp0]at hx;exact(ML.has rfl (hnd1.wt rfl)).all hx
      ·exact .propose hnd1 h0'
     ·show w.b9.set _ _=(w.b9.set i _).set i _
      rw[List.set_set];rfl
   ·exact ht
 ·simp only[g25];unfold a0P;cases hA:decide (0<=e.A)
  ·exact ht
  simp only[g25];cases hm:w.c9[e.A.toNat]? with
  |none=>exact ht
  |some m=>
   have hmem:=g1e hm;have hmi:=h.ms m hmem;have hself:∀{w':m6},w'.b9=w.b9->w'.i4=w.i4->w'.Told=w.Told->(∀x∈w'.c9,x∈w.c9)->TL w':=λ{w'} e1 e2 e3 e4=>by
    obtain⟨hni,hid⟩:=a2j h (i:=0) (by unfold D3;omega);refine ht.step (i:=0) h.nl (by omega) hni hid hni (.same (ht.nd 0 (by unfold D3;omega))) ?_ (λx q=>.inl (e4 x q)) e2 (.inl e3);rw[e1];have hl:=h.nl;have:p8 w ((0:Nat):Int)=w.b9[0]:=by
     rw[N6 (by unfold D3;omega)];show w.b9.getD 0 _=_
     rw[g1f,g0Y (by omega)];rfl
    rw[show p8 w 0=w.b9[0]from this,g2S]
   simp only;cases e.b7==4
   ·cases e.b7==3
    ·simp only[g26];have hto:=hmi.to;obtain⟨t,htt⟩:∃t:Nat,m.To=(t:Int):=⟨m.To.toNat,by omega⟩
     have hD:D3 (t:Int):=by unfold D3;omega
     have hN:p8 w (t:Int)=E8 w (t:Int):=N6 hD;obtain⟨hni,hid⟩:=a2j h hD;rw[htt,<-hN];have hact:=Act.take (ht.nd (t:Int) hD) h0 (ht.ml m hmem) hmi;refine ht.step h.nl (i:=t) (by omega) hni hid (b5F hni hmi).ni hact rfl (λx q=>(a1E (w:=J9 (a2H w e.A) _ _) q).imp (λq=>b1J q) id) rfl ?_;show(w.Told++g2M (60-(O w.Told)) _=w.Told\/_)
     have hl1:=(c1X hni m).2;rcases Nat.eq_zero_or_pos (60-(O w.Told))with q|q
     ·left;rw[q,g1P,g1i]
     ·right
      show w.Told++g2M (60-(O w.Told)) _=_
      rw[g1A (by omega)]
    ·exact hself rfl rfl rfl λx q=>b1J q
   ·exact hself rfl rfl rfl λx q=>(a1E q).elim id λq=>by rw[g03.1 q];exact hmem
def f6a:TL O7:=by
 have hn:∀j,D3 j->p8 O7 j=E6 j:=λj hj=>by
  rw[N6 hj];unfold D3 at hj;obtain rfl|rfl|rfl:j=0\/j=1\/j=2:=by omega
  all_goals rfl
 refine⟨λi hi => ?_,λm hm=>(by cases hm),λa ha=>(by cases ha),by simp[O7],λt ht=>(by cases ht),by simp[O7]⟩;rw[hn i hi];exact⟨by simp[E6],by simp[E6],by simp[E6],λq=>absurd (show(0:Int)=3 from q) (by decide),λq=>(by cases q),by simp[E6]⟩
section
variable {w:m6}
def e4B{C:Type}(z:C):∀{l:List C},(O l)=3->l=[l.getD 0 z,l.getD 1 z,l.getD 2 z]
 | [a,b,c],_=>rfl
def c8k(h:WI w):w.b9=[p8 w 0,p8 w 1,p8 w 2]:=by
 have e0:p8 w 0=w.b9.getD 0 (E6 0):=N6 (j:=0) (by unfold D3;omega);have e1:p8 w 1=w.b9.getD 1 (E6 0):=N6 (j:=1) (by unfold D3;omega);have e2:p8 w 2=w.b9.getD 2 (E6 0):=N6 (j:=2) (by unfold D3;omega);rw[e0,e1,e2];exact e4B (E6 0) h.nl
def b07(h:WI w){n:m4}(hn:n∈w.b9):∃i,D3 i/\n=p8 w i:=by
 rw[c8k h]at hn;simp only[g1a,g2U,or_false]at hn;rcases hn with q|q|q
 ·exact⟨0,by unfold D3;omega,q⟩
 ·exact⟨1,by unfold D3;omega,q⟩
 ·exact⟨2,by unfold D3;omega,q⟩
def d0L(h:WI w){i:Nat}(hi:i<(O w.b9)):w.b9[i]=p8 w (i:Int)/\i<3:=by
 have hl:=h.nl;rw[N6 (by unfold D3;omega)];unfold E8;rw[g1p,g1f,g0Y hi];exact⟨rfl,by omega⟩
def d6J(hp:PW w){i j:Int}(hi:D3 i)(hj:D3 j){s:Nat}{a b:p9}(ha:(p8 w i).a9[s]?=U a)(hb:(p8 w j).a9[s]?=U b):a=b:=by
 obtain⟨V,P,M,h,_⟩:=hp;exact h.one (h.kn i s a hi ha) (h.kn j s b hj hb)
def e8k(a b c:m4)(x:List m9)(y:List B2)(z:List s8):∃n∈[a,b,c],A9 ⟨[a,b,c],x,y,z⟩=n.a9/\∀m∈[a,b,c],(O m.a9)<=(O n.a9):=by
 have e:A9 ⟨[a,b,c],x,y,z⟩=(bif decide ((O b.a9:Int)>(O a.a9:Int))then bif decide ((O c.a9:Int)>(O b.a9:Int))then c else b else bif decide ((O c.a9:Int)>(O a.a9:Int))then c else a).a9:=by
  unfold A9;simp only[best,g1G,g2i,g14,g19];have e0:decide ((O a.a9:Int)>(O a.a9:Int))=W:=by simp
  simp only[e0,g26,g14];cases decide ((O b.a9:Int)>(O a.a9:Int))
  ·simp only[g26,g14];cases decide ((O c.a9:Int)>(O a.a9:Int))<;>rfl
  ·simp only[g25,g14,g19];cases decide ((O c.a9:Int)>(O b.a9:Int))<;>rfl
 rw[e];cases h1:decide ((O b.a9:Int)>(O a.a9:Int))
 ·cases h2:decide ((O c.a9:Int)>(O a.a9:Int))
  ·exact⟨a,by simp,rfl,by simp at h1 h2⊢;omega⟩
  ·exact⟨c,by simp,rfl,by simp at h1 h2⊢;omega⟩
 ·cases h2:decide ((O c.a9:Int)>(O b.a9:Int))
  ·exact⟨b,by simp,rfl,by simp at h1 h2⊢;omega⟩
  ·exact⟨c,by simp,rfl,by simp at h1 h2⊢;omega⟩
def b44(h:WI w):∃b,D3 b/\A9 w=(p8 w b).a9/\∀i,D3 i->(p8 w i).a9.length<=(A9 w).length:=by
 have hn:=c8k h;obtain⟨n,n1,n2,n3⟩:=e8k (p8 w 0) (p8 w 1) (p8 w 2) w.c9 w.i4 w.Told;rw[<-hn]at n1 n2 n3;obtain⟨b,hb,rfl⟩:=b07 h n1;refine⟨b,hb,n2,λi hi => ?_⟩;have n2':A9 w=(p8 w b).a9:=n2;rw[n2'];refine n3 _ ?_;rw[hn];unfold D3 at hi;obtain rfl|rfl|rfl:i=0\/i=1\/i=2:=by omega
 all_goals simp
def e3O(h:WI w)(hp:PW w){i:Int}(hi:D3 i):(p8 w i).a9=(A9 w).take (p8 w i).a9.length:=by
 obtain⟨b,hb,h1,h2⟩:=b44 h;have hl:=h2 i hi;apply List.ext_getElem?;intro s;by_cases hs:s<(p8 w i).a9.length
 ·rw[g2u,if_pos hs];obtain⟨y,hy⟩:∃y,(A9 w)[s]?=U y:=⟨_,g0Y (show s<(A9 w).length by omega)⟩
  rw[hy,g0Y hs];rw[h1]at hy;exact congrArg U (d6J hp hi hb (g0Y hs) hy)
 ·rw[g1s (by omega),g1s (by rw[g1l];omega)]
def c2M(h:WI w)(hp:PW w){i:Int}(hi:D3 i):∃t,A9 w=(p8 w i).a9++t:=by
 refine⟨(A9 w).drop (p8 w i).a9.length,?_⟩;conv=>rhs;lhs;rw[e3O h hp hi]
 rw[g1V]
def b30(h:WI w):K1 (A9 w)=Y:=by
 obtain⟨b,hb,h1,_⟩:=b44 h;rw[h1];exact(a2j h hb).1.list
def f9z(ht:TL w):c0S w.Told=Y:=by
 unfold c0S;rw[g05];intro i hi;have hi:i<(O w.Told):=by simpa using hi
 rw[d9T hi,g1D,g1K];intro s hs hq;obtain⟨j,hj,rfl⟩:=g11.1 hs;have hj:j<i:=by omega
 have he:w.Told[j].b6=w.Told[i].b6:=by
  have:L7 w.Told[j].b6=L7 w.Told[i].b6:=by simpa using hq
  rw[<-b1n];rw[e3S];simpa using this
 have:=g1R.1 ht.tu j i (by rw[g1J];omega) (by rw[g1J];omega) hj;apply this;rw[g2J,g2J];exact he
def f7a(h:WI w)(hp:PW w)(ht:TL w):w.Told.all (b2H (A9 w))=Y:=by
 rw[g05];intro t hm;obtain⟨x1,x2,x3,x4,x5⟩:=ht.tn t hm;obtain⟨tl,htl⟩:=c2M h hp x2;have hs:=x5.app (t:=tl) (by rw[<-htl];exact b30 h);rw[<-htl]at hs;obtain⟨k,k1,k2,k3⟩:=hs;unfold b2H;rw[k1];simp only[g02,beq_iff_eq];refine⟨k2.symm,?_⟩;rw[k3,k2];unfold a0a;rw[k1];try rfl
def e7e(h:WI w)(hp:PW w)(ht:TL w):b6u w=U Y:=by rw[e4j h.ok (a0t.2 h),f7a h hp ht]
def e1T(h:WI w)(ht:TL w):b56 w=U Y:=by
 rw[f1V h.ok,f9z ht,a0t.2 h];rfl
def d86(ht:TL w){a:B2}(ha:a∈w.i4):a1b w a.b6=(a.j8,Y):=by
 unfold a1b b9w;have hex:∃b,w.i4.find? (λx=>([x.b6.i0,x.b6.Seq]:List Int)==[a.b6.i0,a.b6.Seq])=U b:=by
  cases hf:w.i4.find? (λx=>([x.b6.i0,x.b6.Seq]:List Int)==[a.b6.i0,a.b6.Seq])with
  |some b=>exact⟨b,rfl⟩
  |none=>
   have:=g21.1 hf a ha;simp at this
 obtain⟨b,hb⟩:=hex;rw[hb];have hbm:=g20 hb;have hbr:=List.find?_some hb;have hbr:=b1n.1 hbr;obtain⟨i,hi,rfl⟩:=g1E ha;obtain⟨j,hj,rfl⟩:=g1E hbm;have hij:i=j:=by
  rcases Nat.lt_trichotomy i j with q|q|q
  ·exact absurd (by rw[g2J,g2J];exact hbr.symm) (g1R.1 ht.au i j (by rw[g1J];omega) (by rw[g1J];omega) q)
  ·exact q
  ·exact absurd (by rw[g2J,g2J];exact hbr) (g1R.1 ht.au j i (by rw[g1J];omega) (by rw[g1J];omega) q)
 subst hij;rfl
def f5M(h:WI w)(hp:PW w):(w.b9.all λa=>w.b9.all λb=>beg a.a9 b.a9)=Y:=by
 rw[g05];intro a ha;rw[g05];intro b hb;obtain⟨i,hi,rfl⟩:=b07 h ha;obtain⟨j,hj,rfl⟩:=b07 h hb;exact f5b.2 λs h1 h2=>d6J hp hi hj (g0Y h1) (g0Y h2)
def f0A(h:WI w)(hp:PW w):b6o w=U Y:=by
 rw[e85 h.ok,a0t.2 h,f5M h hp];rfl
def f7i(h:WI w)(hp:PW w):(w.b9.all λa=>w.b9.all λb=>(a.Acc.b8.zip b.Acc.b8).all λp=>a3f p.1 p.2)=Y:=by
 rw[g05];intro a ha;rw[g05];intro b hb;rw[g05];intro p hpm;obtain⟨i,hi,rfl⟩:=b07 h ha;obtain⟨j,hj,rfl⟩:=b07 h hb;obtain⟨s,hs,rfl⟩:=g1E hpm;obtain⟨s1,s2,e⟩:=b92 hs;rw[e,e3H];intro h0 he;obtain⟨V,P,M,hx,_⟩:=hp;have hb1:(p8 w i).Acc.b8[s].b5>0:=by
  have:=((a2j h hi).1.vs _ (g01 s1)).1.bal;simp only at h0;omega
 have x1:=hx.cur i s _ hi (g0Y s1) hb1;have x2:=hx.cur j s _ hj (g0Y s2) (by simp only at he;omega);have p1:=(hx.vp _ _ _ _ x1).2.1;have p2:=(hx.vp _ _ _ _ x2).2.1;simp only at he;rw[he]at p1;exact hx.pu _ _ _ _ p1 p2
def e01(h:WI w)(hp:PW w):b4l w=U Y:=by
 rw[e1f h.ok,a0t.2 h,f7i h hp];rfl
def e9x(h:WI w)(hp:PW w):w.b9.all (b0t w)=Y:=by
 rw[g05];intro n hn;obtain⟨i,hi,rfl⟩:=b07 h hn;unfold b0t;rw[g05];intro k hk;have hk:k<(p8 w i).a9.length:=by simpa using hk
 rw[d8U hk];obtain⟨V,P,M,hx,_⟩:=hp;have hc:=hx.still (hx.kn i k _ hi (g0Y hk));generalize (p8 w i).a9[k]=e at hc;have key:∀q,(∃v,(p8 w q).Acc.b8[k]?=U v/\v.b5>0/\v.i9=e)->a9y e (Y1 (p8 w q) k)=Y:=by
  rintro q ⟨v,v1,v2,v3⟩
  unfold a9y Y1;rw[v1];simp only[g13,g02,decide_eq_true_eq];exact⟨v2,a2I _ _ |>.2 v3⟩
 have hm:a2d w.b9 k e=(([p8 w 0,p8 w 1,p8 w 2].filter λn=>a9y e (Y1 n k)).length):=by
  unfold a2d;rw[<-c8k h]
 obtain⟨a,b,ha,hb,hab,va,vb⟩:=hc;have va:=key a va;have vb:=key b vb;rw[hm,g1D,decide_eq_false_iff_not];unfold D3 at ha hb;obtain rfl|rfl|rfl:a=0\/a=1\/a=2:=by omega
 all_goals obtain rfl|rfl|rfl:b=0\/b=1\/b=2:=by omega
 all_goals first|(exact absurd rfl hab)|skip
 all_goals simp only[List.filter_cons,va,vb,if_true,List.filter_nil]
 all_goals split
 all_goals simp
def e8A(h:WI w)(hp:PW w):b4v w=U Y:=by
 rw[e5E h.ok,a0t.2 h,e9x h hp];rfl
def f8G(h:WI w)(hp:PW w):((g09 (O w.b9)).all (b2P w))=Y:=by
 rw[g05];intro i hi;have hi:i<(O w.b9):=by simpa using hi
 obtain⟨e,hi3⟩:=d0L h hi;have hD:D3 (i:Int):=by unfold D3;omega
 obtain⟨hni,hid⟩:=a2j h hD;unfold b2P;rw[g0Y hi,e];simp only[g02];constructor
 ·unfold L6;cases hph:(p8 w (i:Int)).d6 != 3;case true=>rfl
  simp only[bne_eq_false_iff_eq]at hph;obtain⟨V,P,M,hx,_⟩:=hp;obtain⟨l1,l2,l3,l4⟩:=(hx.ld (i:Int) hD).l3 hph;have hm:(p8 w (i:Int)).b8[(p8 w (i:Int)).Id.toNat]?=U Y:=by
   rcases hni.ld with q|q|q|q
   ·omega
   ·omega
   ·omega
   ·exact q.2.2.2.2.2.1
  rw[hid]at hm;have v1:=l4 (i:Int) hD hm;obtain⟨v,y1,y2⟩:=hx.max _ _ _ _ v1;have hb:=(hx.vp _ _ _ _ v1).2.2.1;have v2:=hx.cur (i:Int) _ v hD y1 (by omega);unfold Y1;rw[y1];simp only[g13,g26,g02,Bool.or_eq_true,decide_eq_true_eq];refine⟨y2,?_⟩;rcases Int.lt_or_le (p8 w (i:Int)).b5 v.b5 with q|q
  ·exact .inl q
  ·right
   refine(a2I _ _).2 (hx.pu _ _ _ _ ?_ l1);have:=(hx.vp _ _ _ _ v2).2.1;rwa[show v.b5=(p8 w (i:Int)).b5 by omega]at this
 ·rw[g05];intro m hm;obtain⟨j,hj,rfl⟩:=g11.1 hm;have hji:j<i:=by omega
  obtain⟨e2,hj3⟩:=d0L h (show j<(O w.b9) by omega);have hDj:D3 (j:Int):=by unfold D3;omega
  obtain⟨hnj,hidj⟩:=a2j h hDj;rw[e2,c7v];rintro⟨b1,b2⟩
  have own:∀{n:m4},NI n->0<n.b5->Own n:=λhn hb=>by
   refine hn.ld.own λq => ?_
   rcases hn.ld with y|y|y|y
   ·omega
   all_goals exact absurd (y.1.symm.trans q) (by decide)
  have o1:=(own hni b1).mod;have o2:=(own hnj (by omega)).mod;rw[b2,o2,hid,hidj]at o1;omega
def f5J(h:WI w)(hp:PW w):b5J w=U Y:=by
 rw[e6M h.ok,a0t.2 h,f7D (a0t.2 h),f8G h hp];rfl
end
def d3N(l:List t7)(i:t8)(regs:List Int)(rs:List w8)(ps:List u9):∀r∈rs,r∈(H3 l i regs rs ps).2.1:=by
 intro r hr;unfold H3;cases i.b7==1
 ·cases i.b7==2
  ·cases i.b7==3
   ·cases i.b7==4
    ·cases i.b7==5<;>exact hr
    ·exact hr
   ·exact hr
  ·exact hr
 ·simp only[g25];cases a0A ps i.B with
  |some k=>
   simp only;cases ps[k]?<;>exact hr
  |none=>
   simp only;cases l[i.B.toNat]? with
   |none=>exact hr
   |some b=>
    simp only;cases O3 rs i.B
    ·exact g2p _ hr
    ·exact hr
def c69(l:List t7)(prog:List t8):∀(f k:Nat) (regs:List Int) (rs:List w8) (ps:List u9),∀r∈rs,r∈(Z9 l prog f k regs rs ps).d8
 | 0,_,_,_,_,r,hr=>hr
 |f+1,k,regs,rs,ps,r,hr=>by
  unfold Z9;cases prog[k]? with
  |none=>exact hr
  |some i=>
   simp only;cases i.b7==6
   ·cases i.b7==7
    ·cases(H3 l i regs rs ps).1.all K9
     ·exact d3N l i regs rs ps r hr
     ·exact c69 l prog f _ _ _ _ r (d3N l i regs rs ps r hr)
    ·exact hr
   ·exact c69 l prog f _ _ _ _ r hr
def AtB(l l':List t7)(rs:List w8):Prop := ∀r∈rs,l[r.j7.toNat]?=l'[r.j7.toNat]?
def f9M{rs:List w8}{b:Int}(h:O3 rs b=Y):∃r∈rs,r.j7=b:=by
 unfold O3 at h;obtain⟨r,h1,h2⟩:=g2e.1 h;exact⟨r,h1,by simpa using h2⟩
def g0E{l l':List t7}(hl:(O l)=(O l'))(i:t8)(regs:List Int)(rs:List w8)(ps:List u9)(h:AtB l l' (H3 l i regs rs ps).2.1):H3 l' i regs rs ps=H3 l i regs rs ps:=by
 unfold H3 at h⊢;cases hk:i.b7==1
 ·rfl
 ·rw[hk]at h;simp only[g25]at h⊢;cases hp:a0A ps i.B with
  |some k=>rfl
  |none=>
   rw[hp]at h;simp only at h⊢;cases hb:l[i.B.toNat]? with
   |none=>
    have:(O l')<=i.B.toNat:=by rw[<-hl];exact List.getElem?_eq_none_iff.1 hb
    rw[g1s this]
   |some b=>
    rw[hb]at h;simp only at h;have hin:∃r∈(bif O3 rs i.B then rs else rs++[⟨i.B,b.l8⟩]),r.j7=i.B:=by
     cases hs:O3 rs i.B
     ·exact⟨⟨i.B,b.l8⟩,by simp,rfl⟩
     ·exact f9M hs
    obtain⟨r,r1,r2⟩:=hin;have:=h r r1;rw[r2,hb]at this;rw[<-this]
def c7Z{l l':List t7}(hl:(O l)=(O l'))(prog:List t8):∀(f k:Nat) (regs:List Int) (rs:List w8) (ps:List u9),AtB l l' (Z9 l prog f k regs rs ps).d8->Z9 l' prog f k regs rs ps=Z9 l prog f k regs rs ps
 | 0,_,_,_,_,_=>rfl
 |f+1,k,regs,rs,ps,h=>by
  unfold Z9 at h⊢;cases hp:prog[k]? with
  |none=>rfl
  |some i=>
   rw[hp]at h;simp only at h⊢;cases h6:i.b7==6
   ·rw[h6]at h;cases h7:i.b7==7
    ·rw[h7]at h;simp only[g26]at h⊢;have hE:H3 l' i regs rs ps=H3 l i regs rs ps:=g0E hl i regs rs ps λr hr=>h r (by
      cases(H3 l i regs rs ps).1.all K9
      ·exact hr
      ·exact c69 l prog f _ _ _ _ r hr)
     rw[hE];cases ha:(H3 l i regs rs ps).1.all K9
     ·rfl
     ·rw[ha]at h;exact c7Z hl prog f _ _ _ _ h
    ·rfl
   ·rw[h6]at h;simp only[g25]at h⊢;exact c7Z hl prog f _ _ _ _ h
def e6X{l l':List t7}(h1:H1 l=Y)(h2:H1 l'=Y){p:List t8}(h:AtB l l' (E9 l p).d8):E9 l' p=E9 l p:=by
 unfold E9 at h⊢;rw[h1]at h;rw[h1,h2];cases hp:H8 p
 ·rfl
 ·rw[hp]at h;exact c7Z ((a9K h1).trans (a9K h2).symm) p _ _ _ _ _ h
def b4t(l:List t7)(rs:List w8):Prop := ∀r∈rs,∃b,l[r.j7.toNat]?=U b/\b.l8=r.l8
def d8Q{l:List t7}(i:t8)(regs:List Int)(rs:List w8)(ps:List u9)(h:b4t l rs):b4t l (H3 l i regs rs ps).2.1:=by
 unfold H3;cases i.b7==1
 ·cases i.b7==2
  ·cases i.b7==3
   ·cases i.b7==4
    ·cases i.b7==5<;>exact h
    ·exact h
   ·exact h
  ·exact h
 ·simp only[g25];cases a0A ps i.B with
  |some k=>
   simp only;cases ps[k]?<;>exact h
  |none=>
   simp only;cases hb:l[i.B.toNat]? with
   |none=>exact h
   |some b=>
    simp only;cases O3 rs i.B
    ·intro r hr;rcases g0Z.1 hr with q|q
     ·exact h r q
     ·rw[g03.1 q];exact⟨b,hb,rfl⟩
    ·exact h
def c70(l:List t7)(prog:List t8):∀(f k:Nat) (regs:List Int) (rs:List w8) (ps:List u9),b4t l rs->b4t l (Z9 l prog f k regs rs ps).d8
 | 0,_,_,_,_,h=>h
 |f+1,k,regs,rs,ps,h=>by
  unfold Z9;cases prog[k]? with
  |none=>exact h
  |some i=>
   simp only;cases i.b7==6
   ·cases i.b7==7
    ·cases(H3 l i regs rs ps).1.all K9
     ·exact d8Q i regs rs ps h
     ·exact c70 l prog f _ _ _ _ (d8Q i regs rs ps h)
    ·exact h
   ·exact c70 l prog f _ _ _ _ h
def e6p(l:List t7)(p:List t8):b4t l (E9 l p).d8:=by
 unfold E9;cases H1 l&&H8 p
 ·intro r hr;cases hr
 ·exact c70 l p _ _ _ _ _ λr hr=>by cases hr
def c2K{l:List p9}(hl:(O l)<=40)(he:l.all B7=Y){k:Nat}(hk:k<=(O l)):H1 (w9 (l.take k)).1.j4=Y:=(Z6 hl he k hk).1.boxes
def f4a{l:List p9}(hl:(O l)<=40)(he:l.all B7=Y){j k:Nat}(hjk:j<=k)(hk:k<=(O l)){b:Int}(hb:0<=b/\b<=3){x y:t7}(hx:(w9 (l.take j)).1.j4[b.toNat]?=U x)(hy:(w9 (l.take k)).1.j4[b.toNat]?=U y)(hv:x.l8=y.l8):x=y:=by
 by_cases hall:∀i,j<=i->i<k->a67 l (w9 l).2 b i=W
 ·have:=d8h hl he hb.1 k hjk hk hall;rw[hx,hy]at this;injection this with this;exact this.symm
 ·exfalso
  apply hall;intro i h1 h2;cases hp:a67 l (w9 l).2 b i
  ·rfl
  ·obtain⟨_,hq⟩:=d0B hl he (show i<(O l) by omega) hp;obtain⟨z,z1,z2,z3⟩:=c5o hl he hb i (by omega);obtain⟨v,hv1⟩:=hq z z1;have m1:=(c8Z hl he h1 (show i<=(O l) by omega)).2 b.toNat x z hx z1;have m2:=(c8Z hl he (show i+1<=k by omega) hk).2 b.toNat _ y hv1 hy;simp only at m2;split at m2<;>omega
def d9X{s:A4}{e:p9}(h:(apply s e).2=0):e.j9=W/\a18 s.j4 e.g8=Y/\e.g8.Code=0/\(apply s e).1.j4=a15 s.j4 e.g8.f0:=by
 have hf:(T5 s e).2=0->a18 s.j4 e.g8=Y/\e.g8.Code=0/\(T5 s e).1.j4=a15 s.j4 e.g8.f0:=by
  unfold T5;cases a18 s.j4 e.g8
  ·intro h;exact absurd h (by simp)
  ·cases hc:e.g8.Code==0
   ·intro h;exact absurd h (by simp)
   ·intro _;exact⟨rfl,by simpa using hc,rfl⟩
 unfold apply at h⊢;cases hn:e.j9
 ·rw[hn]at h;simp only[g26]at h⊢;refine⟨trivial,?_⟩;cases hd:s.l7.find? (λd=>d.b6.i0==e.b6.i0)with
  |none=>rw[hd]at h;exact hf h
  |some d=>
   rw[hd]at h;simp only at h⊢;cases h1:d.b6.Seq==e.b6.Seq
   ·rw[h1]at h;cases h2:decide (d.b6.Seq>e.b6.Seq)
    ·rw[h2]at h;exact hf h
    ·rw[h2]at h;exact absurd h (by simp)
   ·rw[h1]at h;exact absurd h (by simp)
 ·rw[hn]at h;exact absurd h (by simp)
def d8c:∀(ps:List (List t8)) (p:List t8) (b:List t7) (vs:List Int) {b':List t7} {vs':List Int},a4o ps b vs=(b',vs')->H1 b'=Y->a4o (ps++[p]) b vs=bif(T4 b' p).2.2==3 then([],[])else((T4 b' p).1,vs'++[(T4 b' p).2.1])
 | [],p,b,vs,b',vs',h,hb=>by
  have h:(b,vs)=(b',vs'):=h;injection h with h1 h2;subst h1;subst h2;rfl
 |q::ps,p,b,vs,b',vs',h,hb=>by
  unfold a4o at h;rw[g17];unfold a4o;cases hq:(T4 b q).2.2==3
  ·rw[hq]at h;exact d8c ps p _ _ h hb
  ·rw[hq]at h;have h:(([],[]):List t7×List Int)=(b',vs'):=h;injection h with h1 h2;rw[<-h1]at hb;exact absurd hb (by decide)
section
variable {w:m6}
def e4q(h:WI w)(hp:PW w)(ht:TL w){k:Nat}(hk:k<(A9 w).length)(hn:((A9 w)[k]).j9=W):∃a∈w.i4,a.b6=((A9 w)[k]).b6/\∃j,j<=k/\((A9 w)[k]).g8=E9 (w9 ((A9 w).take j)).1.j4 a.j8:=by
 obtain⟨b,hb,h1,_⟩:=b44 h;have hm:(A9 w)[k]∈(p8 w b).a9:=h1▸g01 hk;rcases(ht.nd b hb).kn _ hm with q|⟨a,a1,a2,j,j1,j2,j3⟩
 ·rw[hn]at q;cases q
 ·have hw:D3 ((A9 w)[k]).b6.i0:=by rw[<-a2];exact(ht.aq a a1).1
  have htk:(p8 w ((A9 w)[k]).b6.i0).a9.take j=(A9 w).take j:=by
   obtain⟨t,ht'⟩:=c2M h hp hw;conv=>rhs;rw[ht']
   rw[g1L j1]
  rw[htk]at j2 j3;refine⟨a,a1,a2,j,?_,j3⟩;rcases Nat.lt_or_ge k j with q|q
  ·exfalso
   have:=j2 (A9 w)[k] (g11.2 ⟨k,by omega,rfl⟩);unfold I9 at this;rw[hn]at this;simp at this
  ·exact q
def f5Y(h:WI w)(hp:PW w)(ht:TL w){k:Nat}(hk:k<(A9 w).length)(h0:(apply (w9 ((A9 w).take k)).1 (A9 w)[k]).2=0):∃a∈w.i4,a.b6=((A9 w)[k]).b6/\E9 (w9 ((A9 w).take k)).1.j4 a.j8=((A9 w)[k]).g8:=by
 obtain⟨z1,z2,z3,_⟩:=d9X h0;obtain⟨hl,he⟩:=a2f (b30 h);obtain⟨a,a1,a2,j,j1,j2⟩:=e4q h hp ht hk z1;refine⟨a,a1,a2,?_⟩;rw[j2];refine e6X (c2K hl he (by omega)) (c2K hl he (by omega)) ?_;intro r hr;obtain⟨x,x1,x2⟩:=e6p _ _ r hr;rw[<-j2]at hr;have hbx:=(a4r (a42 (g05.1 he _ (g01 hk)) z1).2.2.1).2.2.2.1 r hr;obtain⟨y,y1,y2,_⟩:=c5o hl he (b:=r.j7) (by omega) k (by omega);have hfr:=g05.1 z2 r hr;rw[y1]at hfr;have hfr:y.l8=r.l8:=by simpa using hfr
 rw[x1,y1,f4a hl he j1 (by omega) (b:=r.j7) (by omega) x1 y1 (by omega)]
def c9Q(ht:TL w):∀(qs:List u0) (o:List (List t8)),(∀q∈qs,∃a∈w.i4,a.b6=q)->a5E w qs o=U (o++qs.map λq=>(a1b w q).1)
 | [],o,_=>by simp[a5E]
 |q::qs,o,h=>by
  obtain⟨a,a1,a2⟩:=h q (by simp);have hp:=d86 ht a1;rw[a2]at hp;unfold a5E;rw[hp];simp only[g25];rw[c9Q ht qs _ λx hx=>h x (by simp[hx])];simp[hp]
def d4h(h:WI w)(hp:PW w)(ht:TL w):∀n,n<=(A9 w).length->(∀q∈told (A9 w) (w9 (A9 w)).2 n,∃a∈w.i4,a.b6=q)/\
  a4o ((told (A9 w) (w9 (A9 w)).2 n).map λq=>(a1b w q).1) a2t []=((w9 ((A9 w).take n)).1.j4,(told (A9 w) (w9 (A9 w)).2 n).map (a0a (A9 w)))
 | 0,_=>⟨by simp[told],rfl⟩
 |n+1,hn=>by
  obtain⟨hl,he⟩:=a2f (b30 h);have hlt:n<(A9 w).length:=by omega
  obtain⟨ih1,ih2⟩:=d4h h hp ht n (by omega);have hc:=b6C hl he hlt;have hcl:(w9 (A9 w)).2.length=(A9 w).length:=by
   have:=(Z6 hl he (A9 w).length (g07 _)).2.1;rwa[g1n]at this
  have hn':n<(w9 (A9 w)).2.length:=by omega
  rw[g0Y hn']at hc;injection hc with hc;have hbx:=c2K hl he (k:=n) (by omega);have hst:(w9 ((A9 w).take (n+1))).1=(apply (w9 ((A9 w).take n)).1 (A9 w)[n]).1:=by rw[a3r hlt];rfl
  unfold told;rw[c0Z hlt hn',hc,hst];rcases c7L (Z6 hl he n (by omega)).1 (g05.1 he _ (g01 hlt))with⟨b1,b2,b3⟩|⟨b1,b2⟩
  ·obtain⟨a,a1,a2,a3⟩:=f5Y h hp ht hlt b1;obtain⟨z1,z2,z3,_⟩:=d9X b1;have hpf:=d86 ht a1;rw[a2]at hpf;rw[b1,b3];simp only[beq_self_eq_true,g25];refine⟨λq hq => ?_,?_⟩
   ·rcases g0Z.1 hq with q'|q'
    ·exact ih1 q q'
    ·rw[g03.1 q'];exact⟨a,a1,a2⟩
   ·rw[g1W,g1W,List.map_singleton,List.map_singleton,d8c _ _ _ _ ih2 hbx,hpf];have hs:T4 (w9 ((A9 w).take n)).1.j4 a.j8=(a15 (w9 ((A9 w).take n)).1.j4 ((A9 w)[n]).g8.f0,((A9 w)[n]).g8.i8,0):=by
     unfold T4;rw[a3,z3];rfl
    simp only[hs];have hv:a0a (A9 w) ((A9 w)[n]).b6=((A9 w)[n]).g8.i8:=by
     unfold a0a;have hf:(A9 w).findIdx? (I9 ((A9 w)[n]).b6)=U n:=by
      rw[g1T];refine⟨hlt,?_,λi hi => ?_⟩
      ·unfold I9;rw[b2];simp
      ·intro hq;unfold I9 at hq;simp only[g02,g1D]at hq;have:=f0s hl he hi hlt hq.1 (b1n.1 hq.2).symm;rw[g0Y hn',hc,b1]at this;exact this rfl
     rw[hf];simp only[g0Y hlt]
    rw[hv];rfl
  ·rw[b2,show((apply (w9 ((A9 w).take n)).1 (A9 w)[n]).2==0)=W by simpa using b1];simp only[g26,g1i];exact⟨ih1,ih2⟩
def e5b(l:List t7):b1C l l=Y:=by
 unfold b1C;simp only[beq_self_eq_true,g1h];rw[g05];intro k hk;have hk:k<(O l):=by simpa using hk
 rw[g0Y hk];simp
def f8W(h:WI w)(hp:PW w)(ht:TL w):b0c w=Y:=by
 obtain⟨hl,he⟩:=a2f (b30 h);obtain⟨g1,g2⟩:=d4h h hp ht (A9 w).length (g07 _);have hd:F5 (A9 w)=told (A9 w) (w9 (A9 w)).2 (A9 w).length:=by unfold F5;rw[b30 h];rfl
 rw[<-hd]at g1 g2;rw[g1n]at g2;unfold b0c;rw[a0t.2 h,c9Q ht _ _ g1,g1z];simp only[g1h];have hlen:((F5 (A9 w)).map λq=>(a1b w q).1).length<=100:=by
  have hcl:(w9 (A9 w)).2.length=(A9 w).length:=by
   have:=(Z6 hl he (A9 w).length (g07 _)).2.1;rwa[g1n]at this
  have h1:=c0f (l:=A9 w) hcl (A9 w).length (g07 _);have h2:=c7g ((w9 (A9 w)).2.take (A9 w).length) 0;rw[g1J,hd];rw[g1l]at h2;omega
 have hs:T6 a2t ((F5 (A9 w)).map λq=>(a1b w q).1)=((w9 (A9 w)).1.j4,(F5 (A9 w)).map (a0a (A9 w))):=by
  unfold T6;rw[c4V,decide_eq_true hlen];exact g2
 unfold c2R;rw[hs];simp only[g1J,beq_self_eq_true,g1h,e5b];unfold c8o;rw[g05];intro i hi;have hi:i<(F5 (A9 w)).length:=by simpa using hi
 rw[g1Z,g0Y hi];simp
end
structure AW(w:m6):Prop where
 wi:WI w
 pw:PW w
 tl:TL w
def f2B:AW O7:=⟨WI.open,e4K,f6a⟩
def a0V{w:m6}(h:AW w){e:v6}(he:O0 e):AW (t6 w e):=⟨Y7 h.wi he,f9n h.wi h.pw he,e6f h.wi h.tl he⟩
def c9a:∀{l:List v6} {w:m6},AW w->(∀e∈l,O0 e)->AW (a1x w l)
 | [],_,h,_=>h
 |e::l,w,h,he=>c9a (l:=l) (w:=t6 w e) (a0V h (he e (by simp))) λx hx=>he x (by simp[hx])
def e4H{w:m6}(h:AW w):b9K w=U Y:=by
 obtain⟨h,hp,ht⟩:=h;unfold b9K;simp only[f0A h hp,e01 h hp,e8A h hp,f5J h hp,f4w h.ok,f8W h hp ht,e7e h hp ht,e1T h ht,g0X,g25]
def aE(e:p9):p9:=⟨e.j9,e.b6,⟨[],[],0,0⟩⟩
def aV(v:s7):s7:=⟨v.b5,aE v.i9⟩
def aA(a:B4):B4:=⟨a.i7,a.b8.map aV⟩
def aN(n:m4):m4:=⟨n.Id,aA n.Acc,n.a9.map aE,n.Seq,n.d6,n.b5,n.d7,n.j5.map aV,aE n.g9,n.b8,n.j6,[],aE n.d9,n.i5.map aE⟩
def aM(m:m9):m9:=⟨m.b7,m.d7,m.To,m.b5,m.i6,aE m.i9,m.b8.map aV⟩
def aT(t:s8):s8:=⟨t.Node,t.b6,0,0⟩
def a3(x:m4×List m9×List s8):m4×List m9×List s8:=(aN x.1,x.2.1.map aM,x.2.2.map aT)
def t3(x:m4×List m9×List s8):m4×List m9×List s8:=(x.1,x.2.1,x.2.2.map aT)
def D7:Nat->m6->m6
 | 0,w=>w
 |n+1,w=>bif decide (0<(O w.c9))then D7 n (t6 w ⟨2,0,[]⟩)else w
def L4(k a:Int):O0 ⟨k,a,[]⟩:=⟨by show([]:List t8).length*32<=_;simp,λ_ _=>trivial⟩
def O1(w:m6):m6:=D7 800 w
def a29(w:m6)(i:Int):Bool:=((E8 w i).d6==2||(E8 w i).d6==3)&&w.b9.all λx=>decide (x.Acc.i7<=(E8 w i).b5)
def X2(i:Int):Nat->m6->m6
 | 0,w=>w
 |n+1,w=>bif a29 w i then w else X2 i n (O1 (t6 w ⟨5,i,[]⟩))
def b4F(w:m6):m6:=O1 (t6 (O1 (t6 (O1 (t6 w ⟨6,0,[]⟩)) ⟨6,1,[]⟩)) ⟨6,2,[]⟩)
def a0d(w:m6)(i:Int):m6:=b4F (X2 i 4 (O1 w))
def c79:∀(n:Nat) {w:m6},AW w->AW (D7 n w)
 | 0,_,h=>h
 |n+1,w,h=>by
  unfold D7;cases decide (0<(O w.c9))
  ·exact h
  ·exact c79 n (a0V h (L4 2 0))
def a07{w:m6}(h:AW w):AW (O1 w):=c79 800 h
def b34(i:Int):∀(n:Nat) {w:m6},AW w->AW (X2 i n w)
 | 0,_,h=>h
 |n+1,w,h=>by
  unfold X2;cases a29 w i
  ·exact b34 i n (a07 (a0V h (L4 5 i)))
  ·exact h
def f0l{w:m6}(h:AW w):AW (b4F w):=a07 (a0V (a07 (a0V (a07 (a0V h (L4 6 0))) (L4 6 1))) (L4 6 2))
def c44{w:m6}(h:AW w)(i:Int):AW (a0d w i):=f0l (b34 i 4 (a07 h))
structure LW(L:p9->Prop)(w:m6):Prop where
 nd:∀n∈w.b9,ND L n
 ml:∀m∈w.c9,ML L m
section
variable {L:p9->Prop} {w:m6}
end
def c6j{w:m6}(h:WI w):b1d w=U (O1 w):=by
 have go:∀(d k:Nat) (w:m6),WI w->k+d=800->u5 (λs:m6×Int=>a40 s.1 s.2) (w,(k:Int))=U (.brk (D7 d w)):=by
  intro d;induction d with
  |zero=>
   intro k w hw hd;refine F3 (body:=λs:m6×Int=>a40 s.1 s.2) (b:=w) ?_;unfold a40;rw[show decide ((k:Int)<800)=W by simp;omega];rfl
  |succ d ih=>
   intro k w hw hd;unfold D7;have hn:decide ((O w.c9:Int)>0)=decide (0<(O w.c9)):=by simp
   cases hz:decide (0<(O w.c9))
   ·refine F3 (body:=λs:m6×Int=>a40 s.1 s.2) (b:=w) ?_;unfold a40;rw[show decide ((k:Int)<800)=Y by simp;omega,hn,hz];rfl
   ·rw[G7 (body:=λs:m6×Int=>a40 s.1 s.2) (t:=(t6 w ⟨2,0,[]⟩,((k+1:Nat):Int))) ?_]
    ·exact ih (k+1) _ (Y7 hw (L4 2 0)) (by omega)
    ·unfold a40;rw[show decide ((k:Int)<800)=Y by simp;omega,hn,hz,g25,g25,b4o hw (L4 2 0),g0X,F6 (by omega) (by omega)];congr 3
 unfold b1d;rw[show u5 (λs:m6×Int=>a40 s.1 s.2) (w,0)=_ from go 800 0 w h rfl];rfl
def d2R{w:m6}(h:WI w){i:Int}(hi:0<=i/\i<=2):b72 w i=U (a29 w i):=by
 obtain⟨k,rfl⟩:∃k:Nat,i=(k:Int):=⟨i.toNat,by omega⟩
 obtain⟨n,g1,g2,_⟩:=a4P h (i:=k) (by omega);have hf:z4 w.b9:=by have:=h.nl;unfold z4;omega
 unfold b72 a29;rw[a66,g1,g0X,g2];have hj:b0Z w n=U (w.b9.all λx=>decide (x.Acc.i7<=n.b5)):=by
  unfold b0Z;rw[O5 w.b9 hf (λx=>decide (x.Acc.i7<=n.b5)) W () (λk hk => ?_) (by unfold b7Y;rw[C1];rfl)]
  ·cases w.b9.all λx=>decide (x.Acc.i7<=n.b5)<;>rfl
  ·unfold b7Y;rw[B0 _ k hk,z8 hk,g25,g0X];by_cases q:w.b9[k].Acc.i7<=n.b5
   ·rw[decide_eq_true q,decide_eq_false (by omega)];rfl
   ·rw[decide_eq_false q,decide_eq_true (by omega)];rfl
 by_cases p2:n.d6=2
 ·simp only[p2];show b0Z w n=U _
  rw[hj];rfl
 ·by_cases p3:n.d6=3
  ·simp only[p3];show b0Z w n=U _
   rw[hj];rfl
  ·rw[show(n.d6 != 2)=Y by simpa using p2,show(n.d6 != 3)=Y by simpa using p3,show(n.d6==2)=W by simpa using p2,show(n.d6==3)=W by simpa using p3];rfl
def d1g{w:m6}(h:AW w){i:Int}(hi:0<=i/\i<=2):b4S w i=U (a0d w i):=by
 have go:∀(d k:Nat) (w:m6),AW w->k+d=4->u5 (λs:m6×Int=>a5d i s.1 s.2) (w,(k:Int))=U (.brk (X2 i d w)):=by
  intro d;induction d with
  |zero=>
   intro k w hw hd;refine F3 (body:=λs:m6×Int=>a5d i s.1 s.2) (b:=w) ?_;unfold a5d;rw[show decide ((k:Int)<4)=W by simp;omega];rfl
  |succ d ih=>
   intro k w hw hd;unfold X2;cases ha:a29 w i
   ·have h1:=a0V hw (L4 5 i);rw[G7 (body:=λs:m6×Int=>a5d i s.1 s.2) (t:=(O1 (t6 w ⟨5,i,[]⟩),((k+1:Nat):Int))) ?_]
    ·exact ih (k+1) _ (a07 h1) (by omega)
    ·unfold a5d;rw[show decide ((k:Int)<4)=Y by simp;omega,g25,d2R hw.wi hi,g0X,ha,g1y,g25,b4o hw.wi (L4 5 i),g0X,c6j h1.wi,g0X,F6 (by omega) (by omega)];congr 3
   ·refine F3 (body:=λs:m6×Int=>a5d i s.1 s.2) (b:=w) ?_;unfold a5d;rw[show decide ((k:Int)<4)=Y by simp;omega,g25,d2R hw.wi hi,g0X,ha];rfl
 have hc:=a07 h;have hcl:=b34 i 4 hc;unfold b4S;rw[c6j h.wi,g0X,show u5 (λs:m6×Int=>a5d i s.1 s.2) (O1 w,0)=_ from go 4 0 _ hc rfl,g0X];show b7W (X2 i 4 (O1 w))=_
 unfold a0d;generalize X2 i 4 (O1 w)=x at hcl;unfold b7W b4F;have step:∀(k:Nat) (x:m6),k<3->AW x->a5f x (k:Int)=U (.nxt (O1 (t6 x ⟨6,(k:Int),[]⟩),((k+1:Nat):Int))):=by
  intro k x hk hx;have h1:=a0V hx (L4 6 (k:Int));unfold a5f;rw[show decide ((k:Int)<3)=Y by simp;omega,g25,b4o hx.wi (L4 6 _),g0X,c6j h1.wi,g0X,F6 (by omega) (by omega)];congr 3
 have h2:=a07 (a0V hcl (L4 6 0));have h4:=a07 (a0V h2 (L4 6 1));have b3:∀x,a5f x 3=U (.brk x):=λx=>by
  unfold a5f;rfl
 rw[G7 (body:=λs:m6×Int=>a5f s.1 s.2) (s:=(x,0)) (step 0 x (by omega) hcl),G7 (body:=λs:m6×Int=>a5f s.1 s.2) (step 1 _ (by omega) h2),G7 (body:=λs:m6×Int=>a5f s.1 s.2) (step 2 _ (by omega) h4),F3 (body:=λs:m6×Int=>a5f s.1 s.2) (b3 _)];rfl
def e68{w:m6}(h:AW w){i:Int}(hi:0<=i/\i<=2):b7k w i=U (a0d w i):=by
 unfold b7k;have hr:=c44 h i;rw[a31 h.wi.ok,g0X,a0t.2 h.wi,Q7,g0X,I1.2 hi,d1g h hi,g0X,b4P hr.wi.ok];rfl
structure Q8 where
 ikd:Nat
 ifr:Nat
 ito:Nat
 isl:Nat
structure G1 where
 skL:Nat
 skx:Nat
 sky:Nat
 sas:Bool
 snet:List Q8
def G1.kn(S:G1)(r:Nat):Nat:=if r=0 then S.skL else if r=1 then S.skx else S.sky
def G1.upk(S:G1)(r:Nat):G1:=if r=1 then {S with skx:=S.skx+1}else {S with sky:=S.sky+1}
def acS(t s:Nat):Q8:=⟨3,0,t,s⟩
def X3(f s:Nat):Q8:=⟨4,f,0,s⟩
def Q4(f t s:Nat):Q8:=⟨5,f,t,s⟩
def L5(f t s:Nat):Q8:=⟨8,f,t,s⟩
def O4(s:Nat):List Q8:=[acS 1 s,acS 2 s]
def K3(f t a b:Nat):List Q8:=(g09 (b-a)).map λj=>Q4 f t (a+j)
def M8(r o:List Q8):List Q8:=r++o.take (40-(O r))
def a0c(o:Bool)(S:G1):G1:=match S.snet with
 | []=>S
 |m::r=>
  if m.ikd=3 then {S with snet:=M8 r [X3 m.ito m.isl]}else
  if m.ikd=4 then(if S.sas=Y/\m.isl=S.skL then {S with skL:=S.skL+1,sas:=o&&decide (S.skL+1<40),snet:=M8 r ([Q4 0 1 S.skL,Q4 0 2 S.skL]++bif o&&decide (S.skL+1<40)then O4 (S.skL+1)else [])}else {S with snet:=r})else
  if m.ikd=5 then(if m.isl<S.kn m.ito then {S with snet:=r}else if S.kn m.ito<m.isl then {S with snet:=M8 r [L5 m.ito m.ifr (S.kn m.ito)]}else {S.upk m.ito with snet:=r})else
  if m.ikd=8 then {S with snet:=M8 r (K3 m.ito m.ifr m.isl (S.kn m.ito))}else
  if m.ikd=7 then if S.sas=Y then {S with snet:=r}else {S with sas:=o&&decide (S.skL<40),snet:=M8 r (bif o&&decide (S.skL<40)then O4 S.skL else [])}else {S with snet:=r}
def G9:Nat->G1->(G1->Prop)->Prop
 | 0,S,Q=>Q S
 |n+1,S,Q=>Q S\/(∃m r,S.snet=m::r/\(m.ikd=5->m.ito≠0)/\∀o,G9 n (a0c o S) Q)
def a56{S:G1}{Q:G1->Prop}(h:Q S):∀n,G9 n S Q
 | 0=>h
 |_+1=>.inl h
def a2o{Q:G1->Prop}:∀{n m:Nat} {S:G1},G9 n S Q->n<=m->G9 m S Q
 | 0,m,S,h,_=>a56 h m
 |n+1,0,S,h,hm=>by omega
 |n+1,m+1,S,h,hm=>h.imp id λ⟨x,r,h1,h2,h3⟩=>⟨x,r,h1,h2,λo=>a2o (h3 o) (by omega)⟩
def a5h{Q R:G1->Prop}{m:Nat}:∀{n:Nat} {S:G1},G9 n S Q->(∀S',Q S'->G9 m S' R)->G9 (n+m) S R
 | 0,S,h,k=>by rw[g1U];exact k S h
 |n+1,S,h,k=>by
  rcases h with h|⟨x,r,h1,h2,h3⟩
  ·exact a2o (k S h) (by omega)
  ·rw[show n+1+m=(n+m)+1 by omega];exact .inr ⟨x,r,h1,h2,λo=>a5h (h3 o) k⟩
def b4a{Q R:G1->Prop}{n:Nat}{S:G1}(h:G9 n S Q)(k:∀S',Q S'->R S'):G9 n S R:=a5h (m:=0) h λS' q=>k S' q
section
variable {l x y n:Nat} {a:Bool} {r:List Q8} {Q:G1->Prop}
def b0b{r o:List Q8}(h:(O r)+(O o)<=40):M8 r o=r++o:=by
 unfold M8;rw[g1A (by omega)]
def a5T{t s:Nat}(hr:(O r)<=39)(h:G9 n ⟨l,x,y,a,r++[X3 t s]⟩ Q):G9 (n+1) ⟨l,x,y,a,acS t s::r⟩ Q:=by
 refine .inr ⟨_,_,rfl,λq=>absurd (show(3:Nat)=5 from q) (by decide),λo => ?_⟩;show G9 n ⟨l,x,y,a,M8 r [X3 t s]⟩ Q
 rw[b0b (by simpa using hr)];exact h
def c4L{f s:Nat}(hs:a=W\/s≠l)(h:G9 n ⟨l,x,y,a,r⟩ Q):G9 (n+1) ⟨l,x,y,a,X3 f s::r⟩ Q:=by
 refine .inr ⟨_,_,rfl,λq=>absurd (show(4:Nat)=5 from q) (by decide),λo => ?_⟩;have:a0c o ⟨l,x,y,a,X3 f s::r⟩=⟨l,x,y,a,r⟩:=by
  unfold a0c X3;simp only;rw[if_neg (by decide),if_pos trivial,if_neg (by rcases hs with q|q<;>simp[q])]
 rw[this];exact h
def b8A{f:Nat}(h:∀o,(o=Y->l+1<40)->G9 n ⟨l+1,x,y,o,M8 r ([Q4 0 1 l,Q4 0 2 l]++bif o then O4 (l+1)else [])⟩ Q):G9 (n+1) ⟨l,x,y,Y,X3 f l::r⟩ Q:=by
 refine .inr ⟨_,_,rfl,λq=>absurd (show(4:Nat)=5 from q) (by decide),λo => ?_⟩;have:a0c o ⟨l,x,y,Y,X3 f l::r⟩=⟨l+1,x,y,o&&decide (l+1<40),M8 r ([Q4 0 1 l,Q4 0 2 l]++bif o&&decide (l+1<40)then O4 (l+1)else [])⟩:=by
  unfold a0c X3;simp only;rw[if_neg (by decide),if_pos trivial,if_pos ⟨trivial,trivial⟩]
 rw[this];exact h _ λq=>by simp at q;exact q.2
def b2d{f s:Nat}(h1:s<x->G9 n ⟨l,x,y,a,r⟩ Q)(h2:x<s->G9 n ⟨l,x,y,a,M8 r [L5 1 f x]⟩ Q)(h3:s=x->G9 n ⟨l,x+1,y,a,r⟩ Q):G9 (n+1) ⟨l,x,y,a,Q4 f 1 s::r⟩ Q:=by
 refine .inr ⟨_,_,rfl,λ_=>(by decide:(1:Nat)≠0),λo => ?_⟩;have e:a0c o ⟨l,x,y,a,Q4 f 1 s::r⟩=if s<x then⟨l,x,y,a,r⟩else if x<s then⟨l,x,y,a,M8 r [L5 1 f x]⟩else⟨l,x+1,y,a,r⟩:=rfl
 rw[e];split
 ·exact h1 ‹_›
 ·split
  ·exact h2 ‹_›
  ·exact h3 (by omega)
def b4p{f s:Nat}(h1:s<y->G9 n ⟨l,x,y,a,r⟩ Q)(h2:y<s->G9 n ⟨l,x,y,a,M8 r [L5 2 f y]⟩ Q)(h3:s=y->G9 n ⟨l,x,y+1,a,r⟩ Q):G9 (n+1) ⟨l,x,y,a,Q4 f 2 s::r⟩ Q:=by
 refine .inr ⟨_,_,rfl,λ_=>(by decide:(2:Nat)≠0),λo => ?_⟩;have e:a0c o ⟨l,x,y,a,Q4 f 2 s::r⟩=if s<y then⟨l,x,y,a,r⟩else if y<s then⟨l,x,y,a,M8 r [L5 2 f y]⟩else⟨l,x,y+1,a,r⟩:=rfl
 rw[e];split
 ·exact h1 ‹_›
 ·split
  ·exact h2 ‹_›
  ·exact h3 (by omega)
def a7K{f t s:Nat}(h:G9 n ⟨l,x,y,a,M8 r (K3 t f s (G1.kn ⟨l,x,y,a,[]⟩ t))⟩ Q):G9 (n+1) ⟨l,x,y,a,L5 f t s::r⟩ Q:=by
 refine .inr ⟨_,_,rfl,λq=>absurd (show(8:Nat)=5 from q) (by decide),λo => ?_⟩;exact h
def f7h{f t s:Nat}(h:G9 n ⟨l,x,y,a,r⟩ Q):G9 (n+1) ⟨l,x,y,a,⟨2,f,t,s⟩::r⟩ Q:=by
 refine .inr ⟨_,_,rfl,λq=>absurd (show(2:Nat)=5 from q) (by decide),λo => ?_⟩;exact h
end
def c6i(f t a b:Nat):(K3 f t a b).length=b-a:=by simp[K3]
def b2R{f t a b:Nat}(h:b<=a):K3 f t a b=[]:=by
 unfold K3;rw[show b-a=0 by omega];rfl
def d7D{f t a b:Nat}(h:a<b):K3 f t a b=Q4 f t a::K3 f t (a+1) b:=by
 unfold K3;rw[show b-a=(b-(a+1))+1 by omega,g2N,g1v,g2o];congr 1
 refine List.map_congr_left λj _ => ?_
 show Q4 f t (a+(j+1))=Q4 f t (a+1+j)
 rw[show a+(j+1)=a+1+j by omega]
def e2a(f t a b n:Nat):(K3 f t a b).take n=K3 f t a (min b (a+n)):=by
 unfold K3;rw[<-List.map_take,List.take_range,show min n (b-a)=min b (a+n)-a by omega]
def b26{f t a b:Nat}{r:List Q8}:M8 r (K3 f t a b)=r++K3 f t a (min b (a+(40-(O r)))):=by
 unfold M8;rw[e2a]
def b1v{f l y:Nat}{c:Bool}{r:List Q8}:∀(d a b x:Nat),b-a=d->a<=x->G9 d ⟨l,x,y,c,K3 f 1 a b++r⟩ (· = ⟨l,max x b,y,c,r⟩)
 | 0,a,b,x,hd,hx=>by
  rw[b2R (by omega),g1z,show max x b=x by omega];exact rfl
 |d+1,a,b,x,hd,hx=>by
  rw[d7D (by omega),g17];refine b2d (λq => ?_) (λq=>by omega) λq => ?_
  ·exact b1v d (a+1) b x (by omega) (by omega)
  ·have:=b1v (f:=f) (l:=l) (y:=y) (c:=c) (r:=r) d (a+1) b (x+1) (by omega) (by omega);rw[show max (x+1) b=max x b by omega]at this;exact this
def b13{f l x:Nat}{c:Bool}{r:List Q8}:∀(d a b y:Nat),b-a=d->a<=y->G9 d ⟨l,x,y,c,K3 f 2 a b++r⟩ (· = ⟨l,x,max y b,c,r⟩)
 | 0,a,b,y,hd,hx=>by
  rw[b2R (by omega),g1z,show max y b=y by omega];exact rfl
 |d+1,a,b,y,hd,hx=>by
  rw[d7D (by omega),g17];refine b4p (λq => ?_) (λq=>by omega) λq => ?_
  ·exact b13 d (a+1) b y (by omega) (by omega)
  ·have:=b13 (f:=f) (l:=l) (x:=x) (c:=c) (r:=r) d (a+1) b (y+1) (by omega) (by omega);rw[show max (y+1) b=max y b by omega]at this;exact this
def a1V(S:G1):Prop:=S.snet=[]/\S.sas=W/\S.skL<=S.skx/\S.skL<=S.sky
def a74(S:G1):Prop:=S.snet=[]/\S.skL<=S.skx/\S.skL<=S.sky+30/\(S.sas=Y->S.skx=S.skL/\S.sky<=S.skL)
def a1V.out{S:G1}(h:a1V S):a74 S:=⟨h.1,h.2.2.1,by have:=h.2.2.2;omega,λq=>by rw[h.2.1]at q;cases q⟩
def d3H:∀(d k x y:Nat),40-k=d->k<40->k<=x->k<=y->G9 (6*d) ⟨k,x,y,Y,[X3 1 k,X3 2 k]⟩ a1V
 | 0,k,x,y,hd,hk,hx,hy=>by omega
 |d+1,k,x,y,hd,hk,hx,hy=>by
  have fin:∀(x' y':Nat) (o:Bool),(o=Y->k+1<40)->k+1<=x'->k+1<=y'->G9 (6*d+2) ⟨k+1,x',y',o,bif o then O4 (k+1)else []⟩ a1V:=by
   intro x' y' o ho h1 h2;cases o
   ·exact a56 ⟨rfl,rfl,h1,h2⟩ _
   ·refine a5T (by simp) (a5T (by simp) ?_);exact d3H d (k+1) x' y' (by omega) (ho rfl) h1 h2
  refine a2o (n:=6*d+2+4) ?_ (by omega);refine b8A λo ho => ?_
  rw[b0b (by cases o<;>simp[O4])];refine c4L (.inr (by omega)) ?_;have h2:∀x',k+1<=x'->G9 (6*d+2+1) ⟨k+1,x',y,o,Q4 0 2 k::bif o then O4 (k+1)else []⟩ a1V:=λx' hx'=>
   b4p (λq=>fin x' y o ho hx' (by omega)) (λq=>by omega) λq=>fin x' (y+1) o ho hx' (by omega)
  exact b2d (λq=>h2 x (by omega)) (λq=>by omega) λq=>h2 (x+1) (by omega)
def c9G{k x y:Nat}(hk:k<40)(hx:k<=x)(hy:k<=y):G9 242 ⟨k,x,y,Y,O4 k⟩ a1V:=by
 refine a2o (n:=6*(40-k)+2) ?_ (by omega);exact a5T (by simp) (a5T (by simp) (d3H _ k x y rfl hk hx hy))
def f8A{K x y m:Nat}(hK:K<40)(hx:K<=x+31)(hy:K<=y+31)(hm:m=min K (y+(38-(K-x)))):G9 400 ⟨K,x,y,Y,X3 1 K::X3 2 K::(K3 0 1 x K++K3 0 2 y m)⟩ (λS=>a74 S/\((K-x)+(K-y)<=35->a1V S)):=by
 have l1:=c6i 0 1 x K;have l2:=c6i 0 2 y m;refine a2o (n:=(1+(K-x)+(m-y))+330) ?_ (by omega);rw[show(1+(K-x)+(m-y))+330=((K-x)+((m-y)+329))+1+1 by omega];refine b8A λo ho => ?_
 have go:∀(w:List Q8) (R:G1->Prop),G9 329 ⟨K+1,max x K,max y m,o,w⟩ R->G9 ((K-x)+((m-y)+329)+1) ⟨K+1,x,y,o,X3 2 K::(K3 0 1 x K++K3 0 2 y m)++w⟩ R:=by
  intro w R h;refine c4L (.inr (by omega)) ?_;show G9 _ ⟨K+1,x,y,o,(K3 0 1 x K++K3 0 2 y m)++w⟩ R
  rw[g1d];refine a5h (b1v (f:=0) (l:=K+1) (y:=y) (c:=o) (r:=K3 0 2 y m++w) (K-x) x K x rfl (g07 _)) λS' q => ?_
  subst q;refine a5h (b13 (f:=0) (l:=K+1) (x:=max x K) (c:=o) (r:=w) (m-y) y m y rfl (g07 _)) λS' q => ?_
  subst q;exact h
 have both:∀(w:List Q8) (R:G1->Prop) (n:Nat),K<=max y m->(∀x' y',K+1<=x'->K+1<=y'->(x<=K->x'=K+1)->(y<=K->y'=K+1)->G9 n ⟨K+1,x',y',o,w⟩ R)->G9 (n+1+1) ⟨K+1,max x K,max y m,o,Q4 0 1 K::Q4 0 2 K::w⟩ R:=by
  intro w R n hmy h;have h2:∀x',K+1<=x'->(x<=K->x'=K+1)->G9 (n+1) ⟨K+1,x',max y m,o,Q4 0 2 K::w⟩ R:=λx' hx' hxx=>
   b4p (λq=>h x' _ hx' (by omega) hxx (by omega)) (λq=>by omega) λq=>h x' _ hx' (by omega) hxx (by omega)
  exact b2d (λq=>h2 _ (by omega) (by omega)) (λq=>by omega) λq=>h2 _ (by omega) (by omega)
 by_cases hf:(K-x)+(m-y)<=35
 ·
  have hmy:K<=max y m:=by omega
  rw[b0b (by cases o<;>simp[O4]<;>omega)];refine go _ _ ?_;refine both _ _ 327 hmy λx' y' h1 h2 _ _ => ?_
  cases o
  ·exact a56 ⟨a1V.out ⟨rfl,rfl,h1,h2⟩,λ_=>⟨rfl,rfl,h1,h2⟩⟩ _
  ·exact a2o (b4a (c9G (ho rfl) h1 h2) λS q=>⟨q.out,λ_=>q⟩) (by omega)
 ·have hx0:x<=K:=by omega
  have hy0:y<=K:=by omega
  have no:¬(K-x)+(K-y)<=35:=by omega
  unfold M8;have hr:40-(X3 2 K::(K3 0 1 x K++K3 0 2 y m)).length=39-(K-x)-(m-y):=by
   simp only[g1G,g08,l1,l2];omega
  rw[hr];refine go _ _ ?_;by_cases h3:(K-x)+(m-y)=36
  ·rw[show 39-(K-x)-(m-y)=3 by omega];have hmy:K<=max y m:=by omega
   cases o
   ·exact both [] _ 327 hmy λx' y' h1 h2 _ _=>a56 ⟨a1V.out ⟨rfl,rfl,h1,h2⟩,λq=>absurd q no⟩ _
   ·refine both [acS 1 (K+1)] _ 327 hmy λx' y' h1 h2 _ _ => ?_
    refine a5T (n:=326) (by simp) ?_;refine b8A (n:=325) (r:=[]) λo' ho' => ?_
    rw[b0b (by cases o'<;>simp[O4])];have fin:∀(x'' y'':Nat),K+2<=x''->K+2<=y''->G9 323 ⟨K+1+1,x'',y'',o',bif o' then O4 (K+1+1)else []⟩ (λS=>a74 S/\((K-x)+(K-y)<=35->a1V S)):=by
     intro x'' y'' g1 g2;cases o'
     ·exact a56 ⟨a1V.out ⟨rfl,rfl,g1,g2⟩,λq=>absurd q no⟩ _
     ·exact a2o (b4a (c9G (ho' rfl) g1 g2) λS q=>⟨q.out,λ_=>q⟩) (by omega)
    have g2:∀x'',K+2<=x''->G9 324 ⟨K+1+1,x'',y',o',Q4 0 2 (K+1)::bif o' then O4 (K+1+1)else []⟩ (λS=>a74 S/\((K-x)+(K-y)<=35->a1V S)):=λx'' c9b=>
     b4p (λq=>fin x'' _ c9b (by omega)) (λq=>by omega) λq=>fin x'' _ c9b (by omega)
    exact b2d (λq=>g2 _ (by omega)) (λq=>by omega) λq=>g2 _ (by omega)
  ·by_cases h2:(K-x)+(m-y)=37
   ·rw[show 39-(K-x)-(m-y)=2 by omega];have hmy:K<=max y m:=by omega
    refine both [] _ 327 hmy λx' y' h1 h2 h3 h4=>a56 ⟨⟨rfl,h1,by show K+1<=y'+30;omega,λ_=>⟨h3 hx0,by show y'<=K+1;have:=h4 hy0;omega⟩⟩,λq=>absurd q no⟩ _
   ·rw[show 39-(K-x)-(m-y)=1 by omega];refine b2d (n:=328) (λq=>by omega) (λq=>by omega) λq=>a56 ⟨⟨rfl,by show K+1<=max x K+1;omega,by show K+1<=max y m+30;omega,λ_=>⟨by show max x K+1=K+1;omega,by show max y m<=K+1;omega⟩⟩,λq=>absurd q no⟩ _
def a0M(k x:Nat):Nat:=if x<k then k+1-x else 0
def d39{k x y:Nat}(hx:a0M k x<=31)(hy:a0M k y<=31):G9 600 ⟨k,x,y,Y,O4 k⟩ (λS=>a74 S/\(a0M k x+a0M k y<=35->a1V S)):=by
 refine a2o (n:=500+2) ?_ (by omega);refine a5T (n:=501) (by simp) (a5T (n:=500) (by simp) ?_);refine b8A (n:=499) λo ho => ?_
 rw[b0b (by cases o<;>simp[O4])];refine c4L (n:=498) (.inr (by omega)) ?_;have toks:∀(x1 y1:Nat) (t1 t2:List Q8),(t1=[L5 1 0 x1]\/(t1=[]/\k+1<=x1))->(t2=[L5 2 0 y1]\/(t2=[]/\k+1<=y1))->(k+1-x1<=a0M k x)->(k+1-y1<=a0M k y)->
   G9 496 ⟨k+1,x1,y1,o,(bif o then O4 (k+1)else [])++(t1++t2)⟩ (λS=>a74 S/\(a0M k x+a0M k y<=35->a1V S)):=by
  intro x1 y1 t1 t2 ht1 ht2 hl1 hl2;have len1:(O t1)<=1:=by rcases ht1 with q|q<;>simp[q]
  have len2:(O t2)<=1:=by rcases ht2 with q|q<;>simp[q]
  have ask:∀(w:List Q8) (R:G1->Prop) (n:Nat),(O w)<=2->G9 n ⟨k+1,x1,y1,o,w++(K3 0 1 x1 (k+1)++K3 0 2 y1 (min (k+1) (y1+(40-((O w)+(k+1-x1))))))⟩ R->G9 (n+1+1) ⟨k+1,x1,y1,o,t1++(t2++w)⟩ R:=by
   intro w R n hw h;have s2:G9 (n+1) ⟨k+1,x1,y1,o,t2++(w++K3 0 1 x1 (k+1))⟩ R:=by
    rcases ht2 with q|q
    ·rw[q];refine a7K (r:=w++K3 0 1 x1 (k+1)) ?_;rw[b26,g08,c6i,g1d];exact h
    ·rw[q.1,g1z];rw[b2R (show min (k+1) (y1+(40-((O w)+(k+1-x1))))<=y1 by omega),g1i]at h;exact a2o h (by omega)
   rcases ht1 with q|q
   ·rw[q];refine a7K (r:=t2++w) ?_;rw[b26,g08,show(G1.kn ⟨k+1,x1,y1,o,[]⟩ 0)=k+1 from rfl,show min (k+1) (x1+(40-((O t2)+(O w))))=k+1 by omega,g1d];exact s2
   ·rw[q.1,g1z];rw[b2R (show k+1<=x1 from q.2),g1i]at s2;exact a2o s2 (by omega)
  cases o
  ·rw[g26,g1z,<-g1i t2];refine ask [] _ 494 (by simp) ?_;rw[g1z];generalize hmm:min (k+1) (y1+(40-(([]:List Q8).length+(k+1-x1))))=m;simp only[g2i,g1U]at hmm;refine a2o (n:=(k+1-x1)+((m-y1)+0)) ?_ (by omega);refine a5h (b1v (f:=0) (l:=k+1) (y:=y1) (c:=W) (r:=K3 0 2 y1 m) (k+1-x1) x1 (k+1) x1 rfl (g07 _)) λS' q => ?_
   subst q;rw[<-g1i (K3 0 2 y1 m)];refine a5h (b13 (f:=0) (l:=k+1) (x:=max x1 (k+1)) (c:=W) (r:=[]) (m-y1) y1 m y1 rfl (g07 _)) λS' q => ?_
   subst q;exact⟨⟨rfl,by show k+1<=max x1 (k+1);omega,by show k+1<=max y1 m+30;omega,λq=>absurd q (by simp)⟩,λq=>⟨rfl,rfl,by show k+1<=max x1 (k+1);omega,by show k+1<=max y1 m;omega⟩⟩
  ·rw[g25];refine a5T (n:=495) (r:=acS 2 (k+1)::(t1++t2)) (by simp;omega) ?_;refine a5T (n:=494) (r:=(t1++t2)++[X3 1 (k+1)]) (by simp;omega) ?_;rw[g1d,g1d];refine ask [X3 1 (k+1),X3 2 (k+1)] _ 492 (by simp) ?_;refine a2o (b4a (f8A (K:=k+1) (x:=x1) (y:=y1) (ho rfl) (by omega) (by omega) (by simp only[g1G,g2i];omega)) λS q=>⟨q.1,λq2=>q.2 (by omega)⟩) (by omega)
 have h2:∀(x1:Nat) (t1:List Q8),(t1=[L5 1 0 x1]\/(t1=[]/\k+1<=x1))->(k+1-x1<=a0M k x)->G9 497 ⟨k+1,x1,y,o,Q4 0 2 k::((bif o then O4 (k+1)else [])++t1)⟩ (λS=>a74 S/\(a0M k x+a0M k y<=35->a1V S)):=by
  intro x1 t1 ht1 hl1;have len1:(O t1)<=1:=by rcases ht1 with q|q<;>simp[q]
  refine b4p (λq => ?_) (λq => ?_) λq => ?_
  ·have:=toks x1 y t1 [] ht1 (.inr ⟨rfl,q⟩) hl1 (by omega);rwa[g1i]at this
  ·rw[b0b (by cases o<;>simp[O4]<;>omega),g1d];exact toks x1 y t1 _ ht1 (.inl rfl) hl1 (by unfold a0M;rw[if_pos q];omega)
  ·have:=toks x1 (y+1) t1 [] ht1 (.inr ⟨rfl,by omega⟩) hl1 (by omega);rwa[g1i]at this
 refine b2d (λq => ?_) (λq => ?_) λq => ?_
 ·have:=h2 x [] (.inr ⟨rfl,q⟩) (by omega);rwa[g1i]at this
 ·rw[b0b (by cases o<;>simp[O4])];exact h2 x _ (.inl rfl) (by unfold a0M;rw[if_pos q];omega)
 ·have:=h2 (x+1) [] (.inr ⟨rfl,by omega⟩) (by omega);rwa[g1i]at this
def A0(L:Int)(r:Nat):Int:=if r=0 then L else if r=1 then if L=0 then 1 else 0 else(if L=2 then 1 else 2)
def G0(L i:Int):Nat:=if i=L then 0 else if i=A0 L 1 then 1 else 2
def a4h{L:Int}(h:D3 L):L=0\/L=1\/L=2:=by unfold D3 at h;omega
def b5W{L t:Int}(hL:D3 L)(ht:D3 t):A0 L (G0 L t)=t/\G0 L t<3/\(t≠L->G0 L t≠0):=by
 rcases a4h hL with rfl|rfl|rfl<;>rcases a4h ht with rfl|rfl|rfl<;>decide
def b1u{L:Int}(hL:D3 L){r:Nat}(hr:r<3):G0 L (A0 L r)=r/\D3 (A0 L r)/\(r≠0->A0 L r≠L):=by
 have h:r=0\/r=1\/r=2:=by omega
 unfold D3;rcases a4h hL with rfl|rfl|rfl<;>rcases h with rfl|rfl|rfl<;>decide
def I6(L:Int)(m:m9):Q8:=
 if m.b7=3 then acS (G0 L m.To) m.i6.toNat else if m.b7=4 then X3 (G0 L m.d7) m.i6.toNat else
 if m.b7=5 then Q4 (G0 L m.d7) (G0 L m.To) m.i6.toNat else if m.b7=8 then L5 (G0 L m.d7) (G0 L m.To) m.i6.toNat else
 if m.b7=7/\m.To=L then⟨7,0,0,0⟩else⟨2,0,0,0⟩
def gmS(L b:Int)(m:m9):Prop:=(m.b7=3/\m.b5=b/\m.d7=L)\/(m.b7=4/\m.b5=b/\m.To=L)\/m.b7=5\/m.b7=8\/(m.b7=2/\m.To=L)\/m.b7=7
def a65(n:m4):Prop:=40<=(O n.a9)\/((∀v∈n.j5.drop (O n.a9),¬v.b5>0)/\(n.j6=Y->N3 n.a9 n.d9.b6=Y)/\n.i5=[])
structure R4(L b:Int)(w:m6)(S:G1):Prop where
 wi:WI w
 dL:D3 L
 bl:(p8 w L).b5=b
 ph:((p8 w L).d6=3/\S.sas=Y)\/((p8 w L).d6=2/\S.sas=W)
 fo:∀i,D3 i->i≠L->(p8 w i).d6=0
 pr:∀i,D3 i->(p8 w i).Acc.i7<=b
 kn:∀r,r<3->(p8 w (A0 L r)).a9.length=S.kn r
 nt:w.c9.map (I6 L)=S.snet
 gm:∀m∈w.c9,gmS L b m
 il:S.sas=W->a65 (p8 w L)
def b1z{w:m6}{m:m9}{r:List m9}(hn:w.c9=m::r):t6 w ⟨2,0,[]⟩=a6x (U3 (J9 {w with c9:=r} m.To (D8 (E8 w m.To) m).1) (D8 (E8 w m.To) m).2.1) (D8 (E8 w m.To) m).2.2:=by
 have ho:a2H w 0={w with c9:=r}:=by
  unfold a2H;rw[hn];rfl
 unfold t6 a0P;simp only[show((2:Int)==2)=Y from rfl,g2I,g25,show decide ((0:Int)<=0)=Y from rfl,show((2:Int)==4)=W from rfl,show((2:Int)==3)=W from rfl,g26,ho];rw[hn];rfl
def b27{w:m6}(h:WI w){m:m9}{r:List m9}(hn:w.c9=m::r){n':m4}{l:List m9}{ts:List s8}(ht:D8 (p8 w m.To) m=(n',l,ts)) :
  (t6 w ⟨2,0,[]⟩).c9=r++l.take (40-(O r))/\p8 (t6 w ⟨2,0,[]⟩)=upd (p8 w) m.To n':=by
 have hm:=(h.ms m (by rw[hn];simp)).to;have hD:D3 m.To:=hm;rw[N6 hD]at ht;rw[b1z hn,ht];refine⟨rfl,?_⟩;obtain⟨t,hte⟩:∃t:Nat,m.To=(t:Int):=⟨m.To.toNat,by omega⟩
 have:=a0L h (i:=t) (by omega) n' (w':=a6x (U3 (J9 {w with c9:=r} m.To n') l) ts) (by rw[hte];rfl);rw[this,hte]
def e9Z(L:Int)(r l:List m9):(r++l.take (40-(O r))).map (I6 L)=M8 (r.map (I6 L)) (l.map (I6 L)):=by
 unfold M8;rw[g1W,List.map_take,g1J]
section
variable {L b:Int} {w:m6} {S:G1}
def R4.put(h:R4 L b w S){m:m9}{r:List m9}(hn:w.c9=m::r){n':m4}{l:List m9}{ts:List s8}(ht:D8 (p8 w m.To) m=(n',l,ts)){S':G1}(hnt:S'.snet=M8 (r.map (I6 L)) (l.map (I6 L)))(hg:∀x∈l,gmS L b x)(hp:n'.Acc.i7<=b)(hL:m.To=L->n'.b5=b/\((n'.d6=3/\S'.sas=Y)\/(n'.d6=2/\S'.sas=W))/\(S'.sas=W->a65 n'))(hF:m.To≠L->n'.d6=0/\S'.sas=S.sas)(hk:(O n'.a9)=S'.kn (G0 L m.To))(hk2:∀q,q<3->q≠G0 L m.To->S'.kn q=S.kn q):R4 L b (t6 w ⟨2,0,[]⟩) S':=by
 obtain⟨p1,p2⟩:=b27 h.wi hn ht;have hD:D3 m.To:=(h.wi.ms m (by rw[hn];simp)).to;have hr:=b5W h.dL hD;refine⟨Y7 h.wi (L4 2 0),h.dL,?_,?_,?_,?_,?_,by rw[p1,e9Z,hnt],?_,?_⟩
 ·rw[p2];unfold upd;split
  ·rename_i q;exact(hL q.symm).1
  ·exact h.bl
 ·rw[p2];unfold upd;split
  ·rename_i q;exact(hL q.symm).2.1
  ·rename_i q;rw[(hF λe=>q e.symm).2];exact h.ph
 ·intro i hi hiL;rw[p2];unfold upd;split
  ·rename_i q;exact(hF (q▸hiL)).1
  ·exact h.fo i hi hiL
 ·intro i hi;rw[p2];unfold upd;split
  ·exact hp
  ·exact h.pr i hi
 ·intro q hq;have hro:=b1u h.dL hq;rw[p2];unfold upd;split
  ·rename_i e;have:q=G0 L m.To:=by rw[<-e,hro.1]
   rw[this];exact hk
  ·rename_i e;rw[hk2 q hq λe2=>e (by rw[e2,hr.1])];exact h.kn q hq
 ·intro x hx;rw[p1]at hx;rcases g0Z.1 hx with q|q
  ·exact h.gm x (by rw[hn];exact g16 _ q)
  ·exact hg x (g1M q)
 ·rw[p2];unfold upd;split
  ·rename_i q;exact(hL q.symm).2.2
  ·rename_i q;rw[(hF λe=>q e.symm).2];exact h.il
def d0m{known:List p9}:∀{q:List p9},(V6 known q).2=Z->(V6 known q).1=[]
 | [],_=>rfl
 |e::q,h=>by
  unfold V6 at h⊢;cases hk:N3 known e.b6
  ·rw[hk]at h;cases h
  ·rw[hk]at h;exact d0m h
def e2v{n x:m4}(h:a0q n=(x,Z)):a65 x:=by
 have rest:a4B n=(x,Z)->a65 x:=by
  intro h;unfold a4B at h;cases h1:(n.j5.drop (O n.a9)).any (λv=>decide (v.b5>0))<;>rw[h1]at h
  ·cases h2:n.j6 && !N3 n.a9 n.d9.b6<;>rw[h2]at h
   ·simp only[g26,Prod.mk.injEq]at h;obtain⟨rfl,h4⟩:=h;refine .inr ⟨λv hv => ?_,λhb => ?_,d0m h4⟩
    ·intro hp;have:(n.j5.drop (O n.a9)).any (λv=>decide (v.b5>0))=Y:=g2e.2 ⟨v,hv,by simpa using hp⟩;rw[h1]at this;cases this
    ·have hb:n.j6=Y:=hb;rw[hb]at h2;simpa using h2
   ·cases h
  ·cases h
 unfold a0q at h;split at h
 ·rename_i v hv;cases hb:decide (v.b5>0)<;>rw[hb]at h
  ·exact rest h
  ·cases h
 ·exact rest h
def c2a{n:m4}(h:NI n)(hid:n.Id=L)(hb:n.b5=b)(hp:n.Acc.i7<=b)(h2:n.d6=2):∃o:Bool,(o=Y->(O n.a9)<40)/\
  (F8 n).1.b5=b/\(((F8 n).1.d6=3/\o=Y)\/((F8 n).1.d6=2/\o=W))/\(F8 n).1.Acc.i7<=b/\(F8 n).1.a9=n.a9/\
  (F8 n).2.map (I6 L)=(bif o then O4 (O n.a9)else [])/\(∀x∈(F8 n).2,gmS L b x)/\(o=W->a65 (F8 n).1):=by
 have hD:D3 L:=by rw[<-hid];exact h.id
 unfold F8;cases hc:n.d6 != 2||decide (40<=(O n.a9))
 ·simp only[g1N,decide_eq_false_iff_not]at hc;obtain⟨q,hq,hql,hqm,hqe⟩:=a78 n;cases hx:a0q n with
  |mk x o=>
  rw[hx]at hq hqe;have hq:x={n with i5:=q}:=hq;subst hq;cases o with
  |none=>exact⟨W,by simp,hb,.inr ⟨h2,rfl⟩,hp,rfl,rfl,by simp,λ_=>e2v hx⟩
  |some e=>
   have he:=(hqe e rfl).right h;have ho:Own n:=by
    rcases h.ld with q|q|q|q
    ·omega
    ·omega
    ·exact q.2.1
    ·omega
   have b1:=ho.b1;have b2:=ho.b2;simp only[a4k,g26];rw[c8i (by omega) he b1 b2 (by omega)];refine⟨Y,λ_=>by omega,hb,.inl ⟨rfl,rfl⟩,by show n.b5<=b;omega,rfl,?_,?_,by simp⟩
   ·simp only[g25];rw[hid];unfold G4 O4;rcases a4h hD with rfl|rfl|rfl<;>simp[I6,acS,G0,A0]
   ·intro y hy;obtain⟨t,_,_,_,rfl⟩:=a3A h.id hy;exact .inl ⟨rfl,hb,hid⟩
 ·have:40<=(O n.a9):=by simpa[h2]using hc
  exact⟨W,by simp,hb,.inr ⟨h2,rfl⟩,hp,rfl,rfl,by simp,λ_=>.inl this⟩
def nx3{S:G1}{o:Bool}{t k:Nat}{r:List Q8}(h:S.snet=acS t k::r):a0c o S={S with snet:=M8 r [X3 t k]}:=by
 unfold a0c;rw[h];rfl
def nx4{S:G1}{o:Bool}{f k:Nat}{r:List Q8}(h:S.snet=X3 f k::r):a0c o S=if S.sas=Y/\k=S.skL then {S with skL:=S.skL+1,sas:=o&&decide (S.skL+1<40),snet:=M8 r ([Q4 0 1 S.skL,Q4 0 2 S.skL]++bif o&&decide (S.skL+1<40)then O4 (S.skL+1)else [])}else {S with snet:=r}:=by
 unfold a0c;rw[h];rfl
def nx5{S:G1}{o:Bool}{f t k:Nat}{r:List Q8}(h:S.snet=Q4 f t k::r):a0c o S=if k<S.kn t then {S with snet:=r}else if S.kn t<k then {S with snet:=M8 r [L5 t f (S.kn t)]}else {S.upk t with snet:=r}:=by
 unfold a0c;rw[h];rfl
def nx8{S:G1}{o:Bool}{f t k:Nat}{r:List Q8}(h:S.snet=L5 f t k::r):a0c o S={S with snet:=M8 r (K3 t f k (S.kn t))}:=by
 unfold a0c;rw[h];rfl
def nx2{S:G1}{o:Bool}{r:List Q8}(h:S.snet=⟨2,0,0,0⟩::r):a0c o S={S with snet:=r}:=by
 unfold a0c;rw[h];rfl
def nx7{S:G1}{o:Bool}{r:List Q8}(h:S.snet=⟨7,0,0,0⟩::r):a0c o S=if S.sas=Y then {S with snet:=r}else {S with sas:=o&&decide (S.skL<40),snet:=M8 r (bif o&&decide (S.skL<40)then O4 S.skL else [])}:=by
 unfold a0c;rw[h];rfl
def b6i(r:List Q8):M8 r []=r:=by unfold M8;simp
def R4.skip(h:R4 L b w S){m:m9}{r:List m9}(hn:w.c9=m::r){n':m4}(ht:D8 (p8 w m.To) m=(n',[],[]))(h1:n'.Acc=(p8 w m.To).Acc)(h2:n'.b5=(p8 w m.To).b5)(h3:n'.d6=(p8 w m.To).d6)(h4:n'.a9=(p8 w m.To).a9)(h5:m.To=L->S.sas=W->a65 n') :
  R4 L b (t6 w ⟨2,0,[]⟩) {S with snet:=r.map (I6 L)}:=by
 have hD:D3 m.To:=(h.wi.ms m (by rw[hn];simp)).to;have hr:=b5W h.dL hD;refine h.put hn ht (by rw[List.map_nil,b6i]) (by simp) (by rw[h1];exact h.pr _ hD) (λe => ?_) (λe=>⟨by rw[h3];exact h.fo _ hD e,rfl⟩) ?_ (λq _ _=>rfl)
 ·refine⟨?_,?_,h5 e⟩
  ·rw[h2,e];exact h.bl
  ·rw[h3,e];exact h.ph
 ·rw[h4];have:=h.kn _ hr.2.1;rw[hr.1]at this;exact this
def c0w(n:m4):(K7 n).1.Acc=n.Acc/\(K7 n).1.b5=n.b5/\(K7 n).1.d6=n.d6/\(K7 n).1.a9=n.a9/\(K7 n).1.Id=n.Id:=by
 unfold K7;cases n.j6
 ·exact⟨rfl,rfl,rfl,rfl,rfl⟩
 ·simp only[g25];split<;>exact⟨rfl,rfl,rfl,rfl,rfl⟩
def d5i{l:List Bool}{i j:Nat}(hl:(O l)=3)(hi:l[i]?=U Y)(hj:j<3)(hij:i≠j):L1 (l.set j Y)=Y:=by
 match l,hl with
 | [a,c,d],_=>
  have hi3:i<3:=(g06.1 hi).1;have ci:i=0\/i=1\/i=2:=by omega
  have cj:j=0\/j=1\/j=2:=by omega
  rcases ci with rfl|rfl|rfl<;>rcases cj with rfl|rfl|rfl<;>first|exact absurd rfl hij|(cases a<;>cases c<;>cases d<;>first|rfl|(simp at hi))
def e7t{C:Type}(l:List Nat)(f:Nat->C):(l.map λj=>[f j]).flatten=l.map f:=by
 induction l with
 |nil=>rfl
 |cons a l ih=>simp[ih]
def e1B(n:m4)(m:m9){s:Nat}(hs:m.i6=(s:Int)):(W2 n m).map (I6 L)=K3 (G0 L m.To) (G0 L m.d7) s (O n.a9):=by
 unfold W2 K3;rw[hs,g1p,List.map_flatten,g2o,<-e7t (g09 ((O n.a9)-s)) λj=>Q4 (G0 L m.To) (G0 L m.d7) (s+j)];congr 1
 refine List.map_congr_left λj hj => ?_
 have hlt:s+j<(O n.a9):=by have:=g1X.1 hj;omega
 show(T0 n m (s+j)).map (I6 L)=_
 unfold T0;rw[g0Y hlt];show [I6 L _]=_
 congr 1
def e0s(n:m4)(m:m9):∀x∈W2 n m,gmS L b x:=by
 intro x hx;unfold W2 at hx;obtain⟨l,hl,hx⟩:=g1H.1 hx;obtain⟨j,_,rfl⟩:=g1m.1 hl;unfold T0 at hx;split at hx
 ·rw[g03.1 hx];exact .inr (.inr (.inl rfl))
 ·cases hx
def e5c(hL:D3 L)(k:Nat)(e:p9):(G4 L ⟨5,0,0,0,(k:Int),e,[]⟩).map (I6 L)=[Q4 0 1 k,Q4 0 2 k]:=by
 unfold G4;rcases a4h hL with rfl|rfl|rfl<;>simp[I6,Q4,G0,A0]
def e3t(h:R4 L b w S){m:m9}{r:List m9}(hn:w.c9=m::r)(hf:(I6 L m).ikd=5->(I6 L m).ito≠0):∃o,R4 L b (t6 w ⟨2,0,[]⟩) (a0c o S):=by
 have hmi:=h.wi.ms m (by rw[hn];simp);have hD:D3 m.To:=hmi.to;have hFr:D3 m.d7:=hmi.fr;obtain⟨hni,hid⟩:=a2j h.wi hD;have hr:=b5W h.dL hD;have hS:S.snet=I6 L m::r.map (I6 L):=by rw[<-h.nt,hn];rfl
 have hK:(p8 w m.To).a9.length=S.kn (G0 L m.To):=by
  have:=h.kn _ hr.2.1;rwa[hr.1]at this
 have hsl:=hmi.sl;obtain⟨s,hs⟩:∃s:Nat,m.i6=(s:Int):=⟨m.i6.toNat,by omega⟩
 have hst:m.i6.toNat=s:=by omega
 have hpr:=h.pr _ hD;rcases h.gm m (by rw[hn];simp)with⟨k,hb,hfr⟩|⟨k,hb,hto⟩|k|k|⟨k,hto⟩|k
 ·
  have hne:m.To≠L:=λq=>hmi.ne (by rw[hfr,q])
  have hp0:=h.fo _ hD hne;have hkd:(1<=m.b5/\m.b5<=3000)/\m.i6<40/\B7 m.i9=Y:=by
   rcases hmi.kd with q|q|q|q|q|q|q
   ·omega
   ·omega
   ·exact⟨q.2.1,q.2.2.1,q.2.2.2.1⟩
   all_goals exact absurd q.1 (by omega)
  have ht:D8 (p8 w m.To) m=({p8 w m.To with Acc:=⟨m.b5,(W9 (p8 w m.To).Acc.b8 (s+1)).set s ⟨m.b5,m.i9⟩⟩},[H7 m ⟨4,0,0,m.b5,m.i6,zE,[]⟩],[]):=by
   have e1:D8 (p8 w m.To) m=((a0H (p8 w m.To) m).1,(a0H (p8 w m.To) m).2,[]):=by unfold D8;rw[k];rfl
   rw[e1];unfold a0H;rw[hs,c8i (by omega) hkd.2.2 hkd.1.1 hkd.1.2 (by omega)];simp only;unfold L3;simp only[hp0];rfl
  have ha:I6 L m=acS (G0 L m.To) s:=by unfold I6;rw[if_pos k,hst]
  rw[ha]at hS;refine⟨W,?_⟩;rw[nx3 hS];refine h.put hn ht ?_ ?_ (by show m.b5<=b;omega) (λe=>absurd e hne) (λ_=>⟨hp0,rfl⟩) hK (λq _ _=>rfl)
  ·show M8 _ [X3 _ s]=M8 _ [I6 L (H7 m ⟨4,0,0,m.b5,m.i6,zE,[]⟩)]
   congr 2
   unfold I6 H7;rw[if_neg (show ¬(4:Int)=3 by decide),if_pos rfl,hst]
  ·intro x hx;rw[g03.1 hx];exact .inr (.inl ⟨rfl,hb,hfr⟩)
 ·
  have e1:D8 (p8 w m.To) m=a0J (p8 w m.To) m:=by unfold D8;rw[k];rfl
  have ha:I6 L m=X3 (G0 L m.d7) s:=by unfold I6;rw[if_neg (by omega),if_pos k,hst]
  rw[ha]at hS;have hKL:(p8 w L).a9.length=S.skL:=by rw[hto]at hK;rw[hK];unfold G0;rw[if_pos rfl];rfl
  by_cases hc:S.sas=Y/\s=S.skL
  ·have h3:(p8 w L).d6=3:=by
    rcases h.ph with q|q
    ·exact q.1
    ·rw[hc.1]at q;cases q.2
   have hv:(p8 w L).b8.length=3/\(p8 w L).b8[L.toNat]?=U Y/\B7 (p8 w L).g9=Y/\(p8 w L).a9.length<40:=by
    rw[hto]at hni hid;rcases hni.ld with q|q|q|q
    ·omega
    ·omega
    ·omega
    ·rw[hid]at q;exact⟨q.2.2.2.2.1,q.2.2.2.2.2.1,q.2.2.2.1,q.2.2.2.2.2.2⟩
   have hdL:=h.dL;unfold D3 at hdL hFr;have htw:L1 ((p8 w L).b8.set m.d7.toNat Y)=Y:=d5i hv.1 hv.2.1 (by omega) (by have:=hmi.ne;omega);have hcond:((p8 w L).d6 != 3||(m.b5 != (p8 w L).b5||m.i6 != ((p8 w L).a9.length:Int)))=W:=by
    rw[h3,h.bl,hb,hs,hKL,hc.2];simp
   have e2:a0J (p8 w L) m=((V5 {p8 w L with b8:=(p8 w L).b8.set m.d7.toNat Y} (p8 w L).g9).1,G4 (p8 w L).Id ⟨5,0,0,0,((p8 w L).a9.length:Int),(p8 w L).g9,[]⟩++(V5 {p8 w L with b8:=(p8 w L).b8.set m.d7.toNat Y} (p8 w L).g9).2.1,(V5 {p8 w L with b8:=(p8 w L).b8.set m.d7.toNat Y} (p8 w L).g9).2.2):=by
    unfold a0J;rw[hcond,htw];rfl
   have hniv:NI {p8 w L with b8:=(p8 w L).b8.set m.d7.toNat Y}:=by
    rw[hto]at hni hid;refine⟨hni.id,hni.pr,hni.vl,hni.vs,hni.kl,hni.ks,hni.sq,hni.ql,hni.qs,?_,hni.wt⟩;rcases hni.ld with q|q|q|q
    ·omega
    ·omega
    ·omega
    ·refine .inr (.inr (.inr ⟨q.1,q.2.1,q.2.2.1,q.2.2.2.1,by simpa using q.2.2.2.2.1,?_,q.2.2.2.2.2.2⟩));show((p8 w L).b8.set m.d7.toNat Y)[(p8 w L).Id.toNat]?=U Y
     rw[hid,g1k (by have:=hmi.ne;omega)];exact hv.2.1
   have hnk:=hniv.know hv.2.2.1 (by exact hv.2.2.2);have hna:=(c9r hnk).1;have hak:=c0w (C6 {p8 w L with b8:=(p8 w L).b8.set m.d7.toNat Y} (p8 w L).g9);have hkn:C6 {p8 w L with b8:=(p8 w L).b8.set m.d7.toNat Y} (p8 w L).g9={p8 w L with a9:=(p8 w L).a9++[(p8 w L).g9],d6:=2,g9:=zE,b8:=[]}:=by
    unfold C6;simp only[h3];rfl
   rw[hto]at hid;obtain⟨o,o1,o2,o3,o4,o5,o6,o7,o8⟩:=c2a (L:=L) (b:=b) hna (by rw[hak.2.2.2.2,hkn];exact hid) (by rw[hak.2.1,hkn];exact h.bl) (by rw[hak.1,hkn];rw[hto]at hpr;exact hpr) (by rw[hak.2.2.1,hkn]);have hlen:(K7 (C6 {p8 w L with b8:=(p8 w L).b8.set m.d7.toNat Y} (p8 w L).g9)).1.a9.length=S.skL+1:=by
    rw[hak.2.2.2.1,hkn];show((p8 w L).a9++[(p8 w L).g9]).length=_
    rw[g08,hKL];rfl
   rw[hlen]at o1 o6;refine⟨o,?_⟩;have hoo:(o&&decide (S.skL+1<40))=o:=by
    cases o
    ·rfl
    ·simpa using o1 rfl
   rw[nx4 hS,if_pos hc,hoo];refine h.put hn (n':=(F8 (K7 (C6 {p8 w L with b8:=(p8 w L).b8.set m.d7.toNat Y} (p8 w L).g9)).1).1) (by rw[e1,hto,e2];rfl) ?_ ?_ o4 (λ_=>⟨o2,o3,o8⟩) (λq=>absurd hto q) ?_ ?_
   ·show M8 _ _=M8 _ _
    congr 1
    rw[g1W,hid,hKL,e5c h.dL];congr 1
    exact o6.symm
   ·intro x hx;rcases g0Z.1 hx with q|q
    ·rw[hid]at q;obtain⟨t,_,_,_,rfl⟩:=a3A h.dL q;exact .inr (.inr (.inl rfl))
    ·exact o7 x q
   ·rw[o5,hlen,hto];unfold G0;rw[if_pos rfl];rfl
   ·intro q hq hne;rw[hto]at hne;have:q≠0:=λe=>hne (by rw[e];unfold G0;rw[if_pos rfl])
    unfold G1.kn;rw[if_neg this,if_neg this]
  ·have hcond:((p8 w L).d6 != 3||(m.b5 != (p8 w L).b5||m.i6 != ((p8 w L).a9.length:Int)))=Y:=by
    rcases h.ph with q|q
    ·have:s≠S.skL:=λe=>hc ⟨q.2,e⟩
     rw[q.1,h.bl,hb,hs,hKL];simp;omega
    ·rw[q.1];rfl
   refine⟨W,?_⟩;rw[nx4 hS,if_neg hc];refine h.skip hn (n':=p8 w m.To) ?_ rfl rfl rfl rfl λe=>by rw[e];exact h.il
   rw[e1,hto];unfold a0J;rw[hcond];rfl
 ·
  have ha:I6 L m=Q4 (G0 L m.d7) (G0 L m.To) s:=by unfold I6;rw[if_neg (by omega),if_neg (by omega),if_pos k,hst]
  have hne:m.To≠L:=λq=>by
   have:=hf (by rw[ha];rfl);rw[ha,q]at this;exact this (by unfold G0 Q4;rw[if_pos rfl])
  have hp0:=h.fo _ hD hne;rw[ha]at hS;have e1:D8 (p8 w m.To) m=a0K (p8 w m.To) m:=by unfold D8;rw[k];rfl
  refine⟨W,?_⟩;rw[nx5 hS];by_cases c1:s<S.kn (G0 L m.To)
  ·rw[if_pos c1];refine h.skip hn (n':=p8 w m.To) ?_ rfl rfl rfl rfl λe=>absurd e (by first|exact hne|exact hto)
   rw[e1];unfold a0K;rw[hs,show decide ((s:Int)<((p8 w m.To).a9.length:Int))=Y by simp;omega];rfl
  ·rw[if_neg c1];by_cases c2:S.kn (G0 L m.To)<s
   ·rw[if_pos c2];have ht:D8 (p8 w m.To) m=(p8 w m.To,[H7 m ⟨8,0,0,0,((p8 w m.To).a9.length:Int),zE,[]⟩],[]):=by
     rw[e1];unfold a0K;rw[hs,show decide ((s:Int)<((p8 w m.To).a9.length:Int))=W by simp;omega,show decide ((s:Int)>((p8 w m.To).a9.length:Int))=Y by simp;omega];rfl
    refine h.put hn ht ?_ ?_ hpr (λe=>absurd e hne) (λ_=>⟨hp0,rfl⟩) hK (λq _ _=>rfl)
    ·show M8 _ [L5 _ _ _]=M8 _ [I6 L (H7 m ⟨8,0,0,0,((p8 w m.To).a9.length:Int),zE,[]⟩)]
     congr 2
     unfold I6 H7;rw[if_neg (show ¬(8:Int)=3 by decide),if_neg (show ¬(8:Int)=4 by decide),if_neg (show ¬(8:Int)=5 by decide),if_pos rfl,hK];rfl
    ·intro x hx;rw[g03.1 hx];exact .inr (.inr (.inr (.inl rfl)))
   ·rw[if_neg c2];have ek:C6 (p8 w m.To) m.i9={p8 w m.To with a9:=(p8 w m.To).a9++[m.i9]}:=by
     unfold C6;rw[show((p8 w m.To).d6==3)=W by rw[hp0];rfl];rfl
    have hak:=c0w (C6 (p8 w m.To) m.i9);have ep:F8 (K7 (C6 (p8 w m.To) m.i9)).1=((K7 (C6 (p8 w m.To) m.i9)).1,[]):=by
     unfold F8;rw[hak.2.2.1,ek];simp only[hp0];rfl
    have ht:D8 (p8 w m.To) m=((K7 (C6 (p8 w m.To) m.i9)).1,[],(K7 (C6 (p8 w m.To) m.i9)).2):=by
     rw[e1];unfold a0K;rw[hs,show decide ((s:Int)<((p8 w m.To).a9.length:Int))=W by simp;omega,show decide ((s:Int)>((p8 w m.To).a9.length:Int))=W by simp;omega];simp only[g26];unfold V5;rw[ep]
    have hl1:(K7 (C6 (p8 w m.To) m.i9)).1.a9.length=S.kn (G0 L m.To)+1:=by
     rw[hak.2.2.2.1,ek];show((p8 w m.To).a9++[m.i9]).length=_
     rw[g08,hK];rfl
    have hne0:=hr.2.2 hne;have h12:G0 L m.To=1\/G0 L m.To=2:=by omega
    refine h.put hn ht (by rw[List.map_nil,b6i]) (by simp) (by rw[hak.1,ek];exact hpr) (λe=>absurd e hne) (λ_=>⟨by rw[hak.2.2.1,ek];exact hp0,?_⟩) ?_ ?_
    ·rcases h12 with e|e<;>rw[e]<;>rfl
    ·rw[hl1];rcases h12 with e|e<;>rw[e]<;>rfl
    ·intro q hq hqne;have hq3:q=0\/q=1\/q=2:=by omega
     rcases h12 with e|e<;>rw[e]at hqne⊢ <;>rcases hq3 with rfl|rfl|rfl<;>first|rfl|exact absurd rfl hqne
 ·
  have ha:I6 L m=L5 (G0 L m.d7) (G0 L m.To) s:=by unfold I6;rw[if_neg (by omega),if_neg (by omega),if_neg (by omega),if_pos k,hst]
  rw[ha]at hS;have ht:D8 (p8 w m.To) m=(p8 w m.To,W2 (p8 w m.To) m,[]):=by unfold D8;rw[k];rfl
  refine⟨W,?_⟩;rw[nx8 hS];refine h.put hn ht ?_ (e0s _ _) hpr (λe => ?_) (λe=>⟨h.fo _ hD e,rfl⟩) hK (λq _ _=>rfl)
  ·rw[e1B _ m hs,hK]
  ·rw[e];exact⟨h.bl,h.ph,h.il⟩
 ·
  have ha:I6 L m=⟨2,0,0,0⟩:=by unfold I6;rw[if_neg (by omega),if_neg (by omega),if_neg (by omega),if_neg (by omega),if_neg (by omega)]
  rw[ha]at hS;refine⟨W,?_⟩;rw[nx2 hS];refine h.skip hn (n':=p8 w m.To) ?_ rfl rfl rfl rfl λe=>by rw[e];exact h.il
  have e1:D8 (p8 w m.To) m=((Y8 (p8 w m.To) m).1,(Y8 (p8 w m.To) m).2,[]):=by unfold D8;rw[k];rfl
  rw[e1,hto];unfold Y8;have:((p8 w L).d6 != 1||m.b5 != (p8 w L).b5)=Y:=by rcases h.ph with q|q<;>rw[q.1]<;>rfl
  rw[this];rfl
 ·
  have e1:D8 (p8 w m.To) m=((Y9 (p8 w m.To) m).1,(Y9 (p8 w m.To) m).2,[]):=by unfold D8;rw[k];rfl
  by_cases hto:m.To=L
  ·have ha:I6 L m=⟨7,0,0,0⟩:=by unfold I6;rw[if_neg (by omega),if_neg (by omega),if_neg (by omega),if_neg (by omega),if_pos ⟨k,hto⟩]
   rw[ha]at hS;have hKL:(p8 w L).a9.length=S.skL:=by rw[hto]at hK;rw[hK];unfold G0;rw[if_pos rfl];rfl
   have hkd:B7 m.i9=Y/\m.i9.j9=W:=by
    rcases hmi.kd with q|q|q|q|q|q|q
    any_goals (exfalso;omega)
    exact⟨q.2.2.2.1,q.2.2.2.2.1⟩
   by_cases hd:(decide (4<=(p8 w L).i5.length)||N3 (p8 w L).a9 m.i9.b6)=Y
   ·have ht:D8 (p8 w m.To) m=(p8 w m.To,[],[]):=by
     rw[e1,hto];unfold Y9;rw[hd,Bool.or_true];rfl
    refine⟨W,?_⟩;have e:a0c W S={S with snet:=r.map (I6 L)}:=by
     rw[nx7 hS];split
     ·rfl
     ·rename_i q;have:S.sas=W:=by simpa using q
      simp only[g24,g26,b6i];rw[<-this]
    rw[e];exact h.skip hn ht rfl rfl rfl rfl λe=>by rw[e];exact h.il
   ·have hd:(decide (4<=(p8 w L).i5.length)||N3 (p8 w L).a9 m.i9.b6)=W:=by simpa using hd
    have hp:((p8 w L).d6==0)=W:=by rcases h.ph with q|q<;>rw[q.1]<;>rfl
    have et:Y9 (p8 w L) m=F8 {p8 w L with i5:=(p8 w L).i5++[m.i9]}:=by
     unfold Y9;rw[hd,hp];rfl
    simp only[g1N,decide_eq_false_iff_not]at hd;rw[hto]at hni hid hpr;have hniq:NI {p8 w L with i5:=(p8 w L).i5++[m.i9]}:=hni.queue (by simp;omega) λe he=>by
     rcases g0Z.1 he with q|q
     ·exact hni.qs e q
     ·rw[g03.1 q];exact hkd
    rcases h.ph with q|q
    ·have ht:D8 (p8 w m.To) m=({p8 w L with i5:=(p8 w L).i5++[m.i9]},[],[]):=by
      rw[e1,hto,et];unfold F8;simp only[q.1];rfl
     refine⟨W,?_⟩;rw[nx7 hS,if_pos q.2];exact h.skip hn ht (by rw[hto]) (by rw[hto]) (by rw[hto]) (by rw[hto]) λ_ z=>by rw[q.2]at z;cases z
    ·obtain⟨o,o1,o2,o3,o4,o5,o6,o7,o8⟩:=c2a (L:=L) (b:=b) hniq hid h.bl hpr q.1;refine⟨o,?_⟩;have o1':o=Y->S.skL<40:=λz=>by have:=o1 z;rw[<-hKL];exact this
     have hoo:(o&&decide (S.skL<40))=o:=by
      cases o
      ·rfl
      ·simpa using o1' rfl
     rw[nx7 hS,if_neg (by rw[q.2];decide),hoo];refine h.put hn (n':=(F8 {p8 w L with i5:=(p8 w L).i5++[m.i9]}).1) (l:=(F8 {p8 w L with i5:=(p8 w L).i5++[m.i9]}).2) (by rw[e1,hto,et]) ?_ o7 o4 (λ_=>⟨o2,o3,o8⟩) (λz=>absurd hto z) ?_ (λ_ _ _=>rfl)
     ·show M8 _ _=M8 _ _
      congr 1
      rw[o6];show _=(bif o then O4 (p8 w L).a9.length else [])
      rw[hKL]
     ·rw[o5];rw[hto]at hK⊢;exact hK
  ·have ha:I6 L m=⟨2,0,0,0⟩:=by unfold I6;rw[if_neg (by omega),if_neg (by omega),if_neg (by omega),if_neg (by omega),if_neg (λq=>hto q.2)]
   rw[ha]at hS;refine⟨W,?_⟩;rw[nx2 hS];refine h.skip hn (n':=p8 w m.To) ?_ rfl rfl rfl rfl λe=>absurd e (by first|exact hne|exact hto)
   rw[e1];unfold Y9;rw[h.fo _ hD hto];rfl
def d7L{Q:G1->Prop}:∀{n:Nat} {w:m6} {S:G1},R4 L b w S->G9 n S Q->∃k S',k<=n/\R4 L b (D7 k w) S'/\Q S'
 | 0,w,S,h,q=>⟨0,S,g07 _,h,q⟩
 |n+1,w,S,h,q=>by
  rcases q with q|⟨m,r,h1,h2,h3⟩
  ·exact⟨0,S,by omega,h,q⟩
  ·have hnt:=h.nt;rw[h1]at hnt;cases hw:w.c9 with
   |nil=>rw[hw]at hnt;cases hnt
   |cons m0 r0=>
    rw[hw,g1v,List.cons.injEq]at hnt;obtain⟨o,ho⟩:=e3t h hw (by rw[hnt.1];exact h2);obtain⟨k,S',k1,k2,k3⟩:=d7L ho (h3 o);refine⟨k+1,S',by omega,?_,k3⟩;have e:D7 (k+1) w=D7 k (t6 w ⟨2,0,[]⟩):=by
     show(bif decide (0<(O w.c9))then D7 k (t6 w ⟨2,0,[]⟩)else w)=_
     rw[hw];rfl
    rw[e];exact k2
end
structure V4(M:Nat)(B:Int)(n:m4):Prop where
 k:(O n.a9)<=M
 v:(O n.Acc.b8)<=M+1
 c:(O n.j5)<=M+1
 p:n.Acc.i7<=B
 e:n.d6≠0->n.Acc.i7=n.b5
structure SBm(M:Nat)(B:Int)(m:m9):Prop where
 b:m.b5<=B
 s:m.i6.toNat<=M
 v:m.i6.toNat+(O m.b8)<=M+1
 c:m.b7=5->m.i6.toNat<M
def Q3(M:Nat)(B:Int)(n':m4)(l:List m9):Prop := ∃M',M<=M'/\(M'=M\/(O n'.a9)=M')/\V4 M' B n'/\∀x∈l,SBm M' B x
section
variable {M:Nat} {B:Int} {n:m4} {m:m9}
def V4.mono(h:V4 M B n){M':Nat}{B':Int}(h1:M<=M')(h2:B<=B'):V4 M' B' n:=⟨by have:=h.k;omega,by have:=h.v;omega,by have:=h.c;omega,by have:=h.p;omega,h.e⟩
def SBm.mono(h:SBm M B m){M':Nat}{B':Int}(h1:M<=M')(h2:B<=B'):SBm M' B' m:=⟨by have:=h.b;omega,by have:=h.s;omega,by have:=h.v;omega,λq=>by have:=h.c q;omega⟩
def Q3.same(h:V4 M B n):Q3 M B n []:=⟨M,g07 _,.inl rfl,h,by simp⟩
def Q3.of(h:V4 M B n){l:List m9}(hl:∀x∈l,SBm M B x):Q3 M B n l:=⟨M,g07 _,.inl rfl,h,hl⟩
def SBm.plain(hb:m.b5<=B)(hs:m.i6.toNat<=M)(hv:m.b8=[])(hk:m.b7≠5):SBm M B m:=⟨hb,hs,by rw[hv];simp;omega,λq=>absurd q hk⟩
def SBm.all{id:Int}{x:m9}(h:SBm M B m)(hx:x∈G4 id m):SBm M B x:=by
 unfold G4 at hx;obtain⟨t,_,rfl⟩:=g1m.1 hx;exact⟨h.b,h.s,h.v,h.c⟩
def V4.down(h:V4 M B n):V4 M B (a0E n):=⟨h.k,h.v,by simp[a0E],h.p,λq=>absurd rfl q⟩
def V4.yield{b:Int}(hk:(O n.a9)<=M)(hv:(O n.Acc.b8)<=M+1)(hc:(O n.j5)<=M+1)(hp:n.Acc.i7<=B)(hs:n.d6≠0->n.Acc.i7=n.b5\/(n.Acc.i7=b/\n.b5<=b)):V4 M B (L3 n b):=by
 unfold L3;cases hq:n.d6 != 0&&decide (b>n.b5)
 ·refine⟨hk,hv,hc,hp,λq => ?_⟩;show n.Acc.i7=n.b5
  have q:n.d6≠0:=q;have:¬b>n.b5:=by
   intro hb;rw[g2v]at hq;rcases hq with z|z
   ·simp at z;exact q z
   ·simp at z;omega
  rcases hs q with z|z<;>omega
 ·exact⟨hk,hv,by simp[a0E],hp,λq=>absurd rfl q⟩
def d9P{a x:B4}{b:Int}{k:Nat}{e:p9}(hc:N7 a b (k:Int) e=U x)(ha:(O a.b8)<=M+1)(hk:k<=M):x.i7=b/\a.i7<=b/\(O x.b8)<=M+1:=by
 obtain⟨k',hk',_,_,_,_,h3,rfl⟩:=b29 hc;refine⟨rfl,h3,?_⟩;simp only[g2b,b6l];omega
def Q3.propose(h:V4 M B n):Q3 M B (F8 n).1 (F8 n).2:=by
 unfold F8;cases hc:n.d6 != 2||decide (40<=(O n.a9))
 case true=>exact .same h
 simp only[g26];simp only[g1N,bne_eq_false_iff_eq]at hc;obtain⟨q,hq,hql,hqm,hqe⟩:=a78 n;cases hx:a0q n with
 |mk x o=>
 rw[hx]at hq hqe;have hq:x={n with i5:=q}:=hq;subst hq;have hQ:V4 M B {n with i5:=q}:=⟨h.k,h.v,h.c,h.p,h.e⟩
 cases o with
 |none=>exact .same hQ
 |some e=>
  simp only[a4k];have hpb:=h.e (by omega);have hp:=h.p;cases hcs:N7 n.Acc n.b5 (O n.a9:Int) e with
  |none=>exact .same hQ.down
  |some a=>
   obtain⟨a1,a2,a3⟩:=d9P hcs h.v h.k;refine⟨M,g07 _,.inl rfl,⟨h.k,a3,h.c,by show a.i7<=B;omega,λ_=>a1⟩,λx hx => ?_⟩;exact(SBm.plain (m:=⟨3,0,0,n.b5,(O n.a9:Int),e,[]⟩) (by show n.b5<=B;omega) (by have:=h.k;simp;omega) rfl (by simp)).all hx
def Q3.thenP{a:m4}{l:List m9}(h:Q3 M B a l):Q3 M B (F8 a).1 (l++(F8 a).2):=by
 obtain⟨M',h1,h2,h3,h4⟩:=h;obtain⟨M'',g1,g2,g3,g4⟩:=Q3.propose h3;have hk:=(a9j a).known;refine⟨M'',by omega,?_,g3,λx hx => ?_⟩
 ·rcases g2 with q|q
  ·rw[q];rcases h2 with z|z
   ·exact .inl z
   ·right;rw[hk];exact z
  ·exact .inr q
 ·rcases g0Z.1 hx with q|q
  ·exact(h4 x q).mono g1 (g1g _)
  ·exact g4 x q
def Q3.learn{e:p9}(h:V4 M B n){l:List m9}(hl:∀x∈l,SBm (max M ((O n.a9)+1)) B x):Q3 M B (V5 n e).1 (l++(V5 n e).2.1):=by
 have ek:(C6 n e).a9=n.a9++[e]:=b9B n e;have hak:=c0w (C6 n e);have hb:(K7 (C6 n e)).1.j5=(C6 n e).j5:=by
  unfold K7;cases(C6 n e).j6
  ·rfl
  ·simp only[g25];split<;>rfl
 have hf:(C6 n e).Acc=n.Acc/\(C6 n e).b5=n.b5/\(C6 n e).j5=n.j5/\((C6 n e).d6≠0->n.d6≠0):=by
  unfold C6;cases hp:n.d6==3
  ·exact⟨rfl,rfl,rfl,λq=>q⟩
  ·exact⟨rfl,rfl,rfl,λ_=>by simp at hp;omega⟩
 have hx:Q3 M B (K7 (C6 n e)).1 l:=by
  refine⟨max M ((O n.a9)+1),by omega,?_,⟨?_,?_,?_,?_,?_⟩,hl⟩
  ·rw[hak.2.2.2.1,ek,g08,g1Q];omega
  ·rw[hak.2.2.2.1,ek,g08,g1Q];omega
  ·rw[hak.1,hf.1];have:=h.v;omega
  ·rw[hb,hf.2.2.1];have:=h.c;omega
  ·rw[hak.1,hf.1];exact h.p
  ·intro q;rw[hak.2.2.1]at q;rw[hak.1,hak.2.1,hf.1,hf.2.1];exact h.e (hf.2.2.2 q)
 exact hx.thenP
def Q3.take(h:V4 M B n)(hm:SBm M B m)(hni:NI n)(hmi:MI m):Q3 M B (D8 n m).1 (D8 n m).2.1:=by
 have hsl:=hmi.sl;have hk:=h.k;have hp:=h.p;have hms:=hm.s;have hmb:=hm.b;unfold D8;by_cases k1:m.b7=1
 ·rw[show(m.b7==1)=Y by simpa using k1];simp only[g25];unfold a0N;cases hpp:J6 n.Acc m.b5 with
  |none=>exact .of h λx hx=>by rw[g03.1 hx];exact .plain hp (by simp[H7]) rfl (by simp[H7])
  |some a=>
   obtain⟨rfl,_,_,hle⟩:=a2K hpp;refine .of (V4.yield (n:={n with Acc:=⟨m.b5,n.Acc.b8⟩}) hk h.v h.c hmb λq=>.inr ⟨rfl,by have:=h.e q;show n.b5<=m.b5;omega⟩) λx hx => ?_
   rw[g03.1 hx];refine⟨hmb,hms,?_,λq=>by simp[H7]at q⟩;show m.i6.toNat+(n.Acc.b8.drop m.i6.toNat).length<=M+1
   have:=h.v;rw[g2H];omega
 rw[show(m.b7==1)=W by simpa using k1];by_cases k2:m.b7=2
 ·rw[show(m.b7==2)=Y by simpa using k2];simp only[g25,g26];unfold Y8;have hbl:(G2 n.j5 (g00 m.i6.toNat v0++m.b8)).length<=M+1:=by
   have e:∀a b:List s7,(G2 a b).length=max (O a) (O b):=by
    intro a;induction a with
    |nil=>intro b;cases b<;>simp[G2]
    |cons x a ih=>
     intro b;cases b with
     |nil=>simp[G2]
     |cons y b=>simp[G2,ih]
   rw[e,g08,g2x];have:=h.c;have:=hm.v;omega
  cases hq1:n.d6 != 1||m.b5 != n.b5
  case true=>exact .same h
  simp only[g1N,bne_eq_false_iff_eq]at hq1;simp only[g26];cases L1 (n.d7.set m.d7.toNat Y)
  ·exact .same ⟨hk,h.v,hbl,hp,h.e⟩
  ·exact Q3.propose ⟨hk,h.v,hbl,hp,λ_=>h.e (by omega)⟩
 rw[show(m.b7==2)=W by simpa using k2];by_cases k3:m.b7=3
 ·rw[show(m.b7==3)=Y by simpa using k3];simp only[g25,g26];unfold a0H;obtain⟨s,hs⟩:∃s:Nat,m.i6=(s:Int):=⟨m.i6.toNat,by omega⟩
  cases hpp:N7 n.Acc m.b5 m.i6 m.i9 with
  |none=>exact .of h λx hx=>by rw[g03.1 hx];exact .plain hp (by simp[H7]) rfl (by simp[H7])
  |some a=>
   rw[hs]at hpp;obtain⟨a1,a2,a3⟩:=d9P hpp h.v (by omega);refine .of (V4.yield (n:={n with Acc:=a}) hk a3 h.c (by show a.i7<=B;omega) λq=>.inr ⟨a1,by have:=h.e q;show n.b5<=m.b5;omega⟩) λx hx => ?_
   rw[g03.1 hx];exact .plain hmb hms rfl (by simp[H7])
 rw[show(m.b7==3)=W by simpa using k3];by_cases k4:m.b7=4
 ·rw[show(m.b7==4)=Y by simpa using k4];simp only[g25,g26];unfold a0J;cases n.d6 != 3||(m.b5 != n.b5||m.i6 != (O n.a9:Int))
  case true=>exact .same h
  simp only[g26];have hv:V4 M B {n with b8:=n.b8.set m.d7.toNat Y}:=⟨hk,h.v,h.c,hp,h.e⟩
  cases L1 (n.b8.set m.d7.toNat Y)
  ·exact .same hv
  ·refine Q3.learn hv λx hx => ?_
   have:SBm (max M ((O n.a9)+1)) B ⟨5,0,0,0,(O n.a9:Int),n.g9,[]⟩:=⟨by have:=hni.pr;show(0:Int)<=B;omega,by simp;omega,by simp;omega,λ_=>by simp;omega⟩
   exact this.all hx
 rw[show(m.b7==4)=W by simpa using k4];by_cases k5:m.b7=5
 ·rw[show(m.b7==5)=Y by simpa using k5];simp only[g25,g26];unfold a0K;cases decide (m.i6<(O n.a9:Int));case true=>exact .same h
  cases decide (m.i6>(O n.a9:Int))
  ·exact Q3.learn (l:=[]) h (by simp)
  ·refine .of h λx hx => ?_
   rw[g03.1 hx];exact .plain (by have:=hni.pr;show(0:Int)<=B;omega) (by simp[H7];omega) rfl (by simp[H7])
 rw[show(m.b7==5)=W by simpa using k5];by_cases k6:m.b7=6
 ·rw[show(m.b7==6)=Y by simpa using k6];simp only[g25,g26];cases hpp:J6 n.Acc m.b5 with
  |none=>exact .same (V4.yield hk h.v h.c hp λq=>.inl (h.e q))
  |some a=>
   obtain⟨rfl,_,_,hle⟩:=a2K hpp;exact .same (V4.yield (n:={n with Acc:=⟨m.b5,n.Acc.b8⟩}) hk h.v h.c hmb λq=>.inr ⟨rfl,by have:=h.e q;show n.b5<=m.b5;omega⟩)
 rw[show(m.b7==6)=W by simpa using k6];by_cases k7:m.b7=7
 ·rw[show(m.b7==7)=Y by simpa using k7];simp only[g25,g26];unfold Y9;cases n.d6==0||(decide (4<=(O n.i5))||N3 n.a9 m.i9.b6)
  ·exact Q3.propose ⟨hk,h.v,h.c,hp,h.e⟩
  ·exact .same h
 rw[show(m.b7==7)=W by simpa using k7];cases m.b7==8
 ·exact .same h
 ·refine .of h λx hx => ?_
  have hx:x∈W2 n m:=hx;unfold W2 at hx;obtain⟨l,hl,hx⟩:=g1H.1 hx;obtain⟨j,hj,rfl⟩:=g1m.1 hl;have hj:=g1X.1 hj;unfold T0 at hx;split at hx
  ·rw[g03.1 hx];exact⟨by have:=hni.pr;show(0:Int)<=B;omega,by simp[H7];omega,by simp[H7];omega,λ_=>by simp[H7];omega⟩
  ·cases hx
def Q3.retry(h:V4 M B n)(hni:NI n):Q3 M B (K5 n).1 (K5 n).2:=by
 have hk:=h.k;have hB:(0:Int)<=B:=by have:=h.p;have:=hni.pr;omega
 have n8:∀x∈G4 n.Id ⟨8,0,0,0,(O n.a9:Int),zE,[]⟩,SBm M B x:=λx hx=>(SBm.plain (m:=⟨8,0,0,0,(O n.a9:Int),zE,[]⟩) hB (by simp;omega) rfl (by simp)).all hx
 have L1:∀m:m9,SBm M B m->∀x∈G4 n.Id ⟨8,0,0,0,(O n.a9:Int),zE,[]⟩++G4 n.Id m,SBm M B x:=λm hm x hx=>(g0Z.1 hx).elim (n8 x) λq=>hm.all q
 have hbal:n.d6≠0->n.b5<=B:=λq=>by have:=h.e q;have:=h.p;omega
 unfold K5;by_cases p1:n.d6=1
 ·rw[show(n.d6==1)=Y by simpa using p1];exact .of h (L1 _ (.plain (hbal (by omega)) (by simp;omega) rfl (by simp)))
 rw[show(n.d6==1)=W by simpa using p1];by_cases p2:n.d6=2
 ·rw[show(n.d6==2)=Y by simpa using p2];exact Q3.thenP (.of h n8)
 rw[show(n.d6==2)=W by simpa using p2];by_cases p3:n.d6=3
 ·rw[show(n.d6==3)=Y by simpa using p3];exact .of h (L1 _ (.plain (hbal (by omega)) (by simp;omega) rfl (by simp)))
 rw[show(n.d6==3)=W by simpa using p3];cases n.j6
 ·exact .of h n8
 ·exact .of h (L1 _ (.plain hB (by simp) rfl (by simp)))
def Q3.rise(h:V4 M B n)(hni:NI n):Q3 M (B+3) (P9 n).1 (P9 n).2:=by
 have hk:=h.k;have hp:=h.p;have hr:=b3Z hni.pr hni.id;unfold P9;cases hq:decide (M5 n.Acc.i7 n.Id<0)
 ·have:¬M5 n.Acc.i7 n.Id<0:=by simpa using hq
  have hb:M5 n.Acc.i7 n.Id<=B+3:=by omega
  refine⟨M,g07 _,.inl rfl,⟨hk,h.v,h.v,hb,λ_=>rfl⟩,λx hx => ?_⟩;exact(SBm.plain (m:=⟨1,0,0,M5 n.Acc.i7 n.Id,(O n.a9:Int),zE,[]⟩) hb (by simp;omega) rfl (by simp)).all hx
 ·exact .same (h.mono (g07 _) (by omega))
def Q3.ask(h:V4 M B n)(hni:NI n)(p:List t8):Q3 M B (N4 n p).1 (N4 n p).2:=by
 have hB:(0:Int)<=B:=by have:=h.p;have:=hni.pr;omega
 rw[a12];cases O2 n p
 ·exact .same h
 ·simp only[g25];have ha:V4 M B (T7 n p):=⟨h.k,h.v,h.c,h.p,h.e⟩
  cases n.d6==2
  ·refine .of ha λx hx => ?_
   simp only[g26]at hx;cases hz:n.d6==0<;>rw[hz]at hx
   ·cases hx
   ·exact(SBm.plain (m:=⟨7,0,0,0,0,(T7 n p).d9,[]⟩) hB (by simp) rfl (by simp)).all hx
  ·exact .propose ha
def b71:∀x∈(F8 n).2,x.b7=3:=by
 unfold F8;cases n.d6 != 2||decide (40<=(O n.a9))
 case true=>simp
 simp only[g26];cases a0q n with
 |mk x o=>
 cases o with
 |none=>simp
 |some e=>
  simp only[a4k];split
  ·intro y hy;unfold G4 at hy;obtain⟨t,_,rfl⟩:=g1m.1 hy;rfl
  ·simp
def a6H{id:Int}{x:m9}(hx:x∈G4 id m):x.b7=m.b7/\x.d7=id/\x.i6=m.i6:=by
 unfold G4 at hx;obtain⟨t,_,rfl⟩:=g1m.1 hx;exact⟨rfl,rfl,rfl⟩
def f2U:∀x∈(D8 n m).2.1,x.b7=8->x.d7=m.To/\x.i6=(O n.a9:Int):=by
 intro x hx h8;have np:∀(a:m4),x∈(F8 a).2->False:=λa q=>by have:=b71 x q;omega
 have one:∀(k b s:Int) (e:p9) (l:List s7),k≠8->x∈[H7 m ⟨k,0,0,b,s,e,l⟩]->False:=λk b s e l hk q=>by
  rw[g03.1 q]at h8;exact hk h8
 unfold D8 at hx;by_cases k1:m.b7=1
 ·rw[show(m.b7==1)=Y by simpa using k1]at hx;simp only[g25]at hx;unfold a0N at hx;split at hx
  ·exact(one _ _ _ _ _ (by decide) hx).elim
  ·exact(one _ _ _ _ _ (by decide) hx).elim
 rw[show(m.b7==1)=W by simpa using k1]at hx;by_cases k2:m.b7=2
 ·rw[show(m.b7==2)=Y by simpa using k2]at hx;simp only[g25,g26]at hx;unfold Y8 at hx;cases hq:n.d6 != 1||m.b5 != n.b5<;>rw[hq]at hx
  ·cases hq2:L1 (n.d7.set m.d7.toNat Y)<;>rw[hq2]at hx
   ·cases hx
   ·exact(np _ hx).elim
  ·cases hx
 rw[show(m.b7==2)=W by simpa using k2]at hx;by_cases k3:m.b7=3
 ·rw[show(m.b7==3)=Y by simpa using k3]at hx;simp only[g25,g26]at hx;unfold a0H at hx;split at hx
  ·exact(one _ _ _ _ _ (by decide) hx).elim
  ·exact(one _ _ _ _ _ (by decide) hx).elim
 rw[show(m.b7==3)=W by simpa using k3]at hx;by_cases k4:m.b7=4
 ·rw[show(m.b7==4)=Y by simpa using k4]at hx;simp only[g25,g26]at hx;unfold a0J at hx;cases hq:n.d6 != 3||(m.b5 != n.b5||m.i6 != (O n.a9:Int))<;>rw[hq]at hx
  ·cases hq2:L1 (n.b8.set m.d7.toNat Y)<;>rw[hq2]at hx
   ·cases hx
   ·rcases g0Z.1 hx with q|q
    ·have:=(a6H q).1;simp at this;omega
    ·exact(np _ q).elim
  ·cases hx
 rw[show(m.b7==4)=W by simpa using k4]at hx;by_cases k5:m.b7=5
 ·rw[show(m.b7==5)=Y by simpa using k5]at hx;simp only[g25,g26]at hx;unfold a0K at hx;cases hq:decide (m.i6<(O n.a9:Int))<;>rw[hq]at hx
  ·cases hq2:decide (m.i6>(O n.a9:Int))<;>rw[hq2]at hx
   ·exact(np _ hx).elim
   ·rw[g03.1 hx];exact⟨rfl,rfl⟩
  ·cases hx
 rw[show(m.b7==5)=W by simpa using k5]at hx;by_cases k6:m.b7=6
 ·rw[show(m.b7==6)=Y by simpa using k6]at hx;cases hx
 rw[show(m.b7==6)=W by simpa using k6]at hx;by_cases k7:m.b7=7
 ·rw[show(m.b7==7)=Y by simpa using k7]at hx;simp only[g25,g26]at hx;unfold Y9 at hx;cases hq:n.d6==0||(decide (4<=(O n.i5))||N3 n.a9 m.i9.b6)<;>rw[hq]at hx
  ·exact(np _ hx).elim
  ·cases hx
 rw[show(m.b7==7)=W by simpa using k7]at hx;cases hq:m.b7==8<;>rw[hq]at hx
 ·cases hx
 ·have hx:x∈W2 n m:=hx;unfold W2 at hx;obtain⟨l,hl,hx⟩:=g1H.1 hx;obtain⟨j,hj,rfl⟩:=g1m.1 hl;unfold T0 at hx;split at hx
  ·exact(one _ _ _ _ _ (by decide) hx).elim
  ·cases hx
def e92:∀x∈(K5 n).2,x.b7=8->x.d7=n.Id/\x.i6=(O n.a9:Int):=by
 intro x hx h8;have n8:x∈G4 n.Id ⟨8,0,0,0,(O n.a9:Int),zE,[]⟩->x.d7=n.Id/\x.i6=(O n.a9:Int):=λq=>(a6H q).2
 have no:∀(k b s:Int) (e:p9),k≠8->x∈G4 n.Id ⟨k,0,0,b,s,e,[]⟩->x.d7=n.Id/\x.i6=(O n.a9:Int):=λk b s e hk q=>by
  have:=(a6H q).1;exact absurd (this.symm.trans h8) hk
 unfold K5 at hx;cases h1:n.d6==1<;>rw[h1]at hx
 ·cases h2:n.d6==2<;>rw[h2]at hx
  ·cases h3:n.d6==3<;>rw[h3]at hx
   ·cases h4:n.j6<;>rw[h4]at hx
    ·exact n8 hx
    ·exact(g0Z.1 hx).elim n8 (no _ _ _ _ (by decide))
   ·exact(g0Z.1 hx).elim n8 (no _ _ _ _ (by decide))
  ·exact(g0Z.1 hx).elim n8 λq=>by have:=b71 x q;omega
 ·exact(g0Z.1 hx).elim n8 (no _ _ _ _ (by decide))
end
structure SBw(M:Nat)(B:Int)(w:m6):Prop where
 n:∀i,D3 i->V4 M B (p8 w i)
 m:∀m∈w.c9,SBm M B m
 t:∃i,D3 i/\(p8 w i).a9.length=M
 q:∀m∈w.c9,m.b7=8->m.i6.toNat<=(p8 w m.d7).a9.length
def SBw.put{M:Nat}{B B':Int}{w w':m6}(hb:SBw M B w){i:Int}(hi:D3 i){n':m4}{l:List m9}(hx:Q3 M B' n' l)(hB:B<=B')(hn:p8 w'=upd (p8 w) i n')(hm:∀m∈w'.c9,m∈w.c9\/m∈l)(hk:(p8 w i).a9.length<=(O n'.a9))(h8:∀x∈l,x.b7=8->x.d7=i/\x.i6=((p8 w i).a9.length:Int)):∃M',M<=M'/\SBw M' B' w':=by
 obtain⟨M',h1,h2,h3,h4⟩:=hx;have kn:∀j,(p8 w j).a9.length<=(p8 w' j).a9.length:=by
  intro j;rw[hn];unfold upd;split
  ·rename_i q;rw[q];exact hk
  ·exact g07 _
 refine⟨M',h1,⟨λj hj => ?_,λm q => ?_,?_,λm q q8 => ?_⟩⟩
 ·rw[hn];unfold upd;split
  ·exact h3
  ·exact(hb.n j hj).mono h1 hB
 ·rcases hm m q with z|z
  ·exact(hb.m m z).mono h1 hB
  ·exact h4 m z
 ·rcases h2 with z|z
  ·obtain⟨j,hj,e⟩:=hb.t;have h5:=kn j;have h6:(p8 w' j).a9.length<=M':=by
    rw[hn];unfold upd;split
    ·exact h3.k
    ·have:=(hb.n j hj).k;omega
   exact⟨j,hj,by omega⟩
  ·exact⟨i,hi,by rw[hn];unfold upd;rw[if_pos rfl];exact z⟩
 ·rcases hm m q with z|z
  ·have:=hb.q m z q8;have:=kn m.d7;omega
  ·obtain⟨e1,e2⟩:=h8 m z q8;have:=kn i;rw[e1,e2];omega
def SBw.less{M:Nat}{B:Int}{w w':m6}(hb:SBw M B w)(hn:p8 w'=p8 w)(hm:∀m∈w'.c9,m∈w.c9):SBw M B w':=
 ⟨λi hi=>by rw[hn];exact hb.n i hi,λm q=>hb.m m (hm m q),by rw[hn];exact hb.t,λm q=>by rw[hn];exact hb.q m (hm m q)⟩
def e5e:SBw 0 0 O7:=by
 have h:∀i,D3 i->p8 O7 i=E6 i:=by
  intro i hi;rw[N6 hi];rcases a4h hi with rfl|rfl|rfl<;>rfl
 refine⟨λi hi => ?_,by simp[O7],⟨0,by unfold D3;omega,by rw[h 0 (by unfold D3;omega)];rfl⟩,by simp[O7]⟩;rw[h i hi];exact⟨by simp[E6],by simp[E6],by simp[E6],by simp[E6],λq=>absurd rfl q⟩
def c0H{L:p9->Prop}{n x:m4}{l:List m9}{ts:List s8}(h:Act L n x l ts):(O n.a9)<=(O x.a9):=by
 obtain⟨t,e⟩:=h.kn;rw[e,g08];omega
def a5u(n:m4):ND (λ_=>True) n:=⟨λ_ _=>trivial,λ_ _ _=>trivial,λ_ _ _=>trivial,λ_=>trivial,λ_=>trivial,λ_ _=>trivial⟩
def b82(m:m9):ML (λ_=>True) m:=⟨λ_=>trivial,λ_ _ _=>trivial⟩
def a5O{M:Nat}{B:Int}{w:m6}(h:WI w)(hb:SBw M B w)(e:v6){B':Int}(hB:B+(if e.b7=5 then 3 else 0)<=B'):∃M',M<=M'/\SBw M' B' (t6 w e):=by
 have hBB:B<=B':=by split at hB<;>omega
 have keep:SBw M B' w:=⟨λi hi=>(hb.n i hi).mono (g07 _) hBB,λm q=>(hb.m m q).mono (g07 _) hBB,hb.t,hb.q⟩
 have mono:∀{n':m4} {l:List m9},Q3 M B n' l->Q3 M B' n' l:=λ⟨M',a,b,c,d⟩=>⟨M',a,b,c.mono (g07 _) hBB,λx q=>(d x q).mono (g07 _) hBB⟩
 unfold t6;cases hk:e.b7==2||(e.b7==3||e.b7==4)
 ·simp only[g26];cases hA:v5 e.A 0 2
  ·exact⟨M,g07 _,keep⟩
  simp only[g04,g26];rw[I1]at hA;obtain⟨i,hi⟩:∃i:Nat,e.A=(i:Int):=⟨e.A.toNat,by omega⟩
  have hi3:i<3:=by omega
  have hD:D3 (i:Int):=by unfold D3;omega
  rw[hi];have hN:E8 w (i:Int)=p8 w (i:Int):=(N6 hD).symm;obtain⟨hni,hid⟩:=a2j h hD;have hsb:=hb.n _ hD;have hnet:∀(w0:m6) (l:List m9),w0.c9=w.c9->∀m∈(U3 w0 l).c9,m∈w.c9\/m∈l:=λw0 l q m hm=>by rw[<-q];exact a1E hm
  cases e.b7==1
  ·cases h5:e.b7==5
   ·cases e.b7==6
    ·cases e.b7==7
     ·exact⟨M,g07 _,keep⟩
     ·simp only[g26,g25];rw[hN];have hx:Q3 M B' (U5 (p8 w (i:Int))) []:=.same (n:=U5 (p8 w (i:Int))) ⟨hsb.k,hsb.v,by simp[U5,E6],by show(p8 w (i:Int)).Acc.i7<=B';have:=hsb.p;omega,λq=>absurd rfl q⟩;exact hb.put hD hx hBB (a0L h hi3 _ rfl) (λm q=>.inl q) (g07 _) (by simp)
    ·simp only[g26,g25];rw[hN];refine hb.put hD (mono (.retry hsb hni)) hBB (a0L h hi3 _ rfl) (hnet _ _ rfl) (c0H (Act.retry (a5u _) trivial)) λx q q8 => ?_
     have:=e92 x q q8;rw[hid]at this;exact this
   ·simp only[g26,g25];rw[hN];have:B+3<=B':=by rw[if_pos (by simpa using h5)]at hB;exact hB
    obtain⟨M',a,b,c,d⟩:=Q3.rise hsb hni;refine hb.put hD ⟨M',a,b,c.mono (g07 _) this,λx q=>(d x q).mono (g07 _) this⟩ hBB (a0L h hi3 _ rfl) (hnet _ _ rfl) (c0H (Act.rise (a5u _))) λx q q8 => ?_
    unfold P9 at q;cases hz:decide (M5 (p8 w (i:Int)).Acc.i7 (p8 w (i:Int)).Id<0)<;>rw[hz]at q
    ·have:=(a6H q).1;simp at this;omega
    ·cases q
  ·simp only[g25];unfold a4J;cases decide (60<=(O w.i4));case true=>exact⟨M,g07 _,keep⟩
   simp only[g26];rw[hN];refine hb.put hD (mono (.ask hsb hni e.j8)) hBB (a0L h hi3 _ ?_) (hnet _ _ ?_) ?_ ?_
   ·cases decide ((N4 (p8 w (i:Int)) e.j8).1.Seq>(p8 w (i:Int)).Seq)<;>rfl
   ·cases decide ((N4 (p8 w (i:Int)) e.j8).1.Seq>(p8 w (i:Int)).Seq)<;>rfl
   ·rw[a12];cases O2 (p8 w (i:Int)) e.j8
    ·exact g07 _
    ·simp only[g25];cases(p8 w (i:Int)).d6==2
     ·exact g07 _
     ·simp only[g25];rw[(a9j _).known];exact g07 _
   ·intro x q q8;rw[a12]at q;cases hc:O2 (p8 w (i:Int)) e.j8<;>rw[hc]at q
    ·cases q
    ·simp only[g25]at q;cases hp:(p8 w (i:Int)).d6==2<;>rw[hp]at q
     ·simp only[g26]at q;cases hz:(p8 w (i:Int)).d6==0<;>rw[hz]at q
      ·cases q
      ·have:=(a6H q).1;simp at this;omega
     ·have:=b71 x q;omega
 ·simp only[g25];unfold a0P;cases decide (0<=e.A);case false=>exact⟨M,g07 _,keep⟩
  simp only[g25];cases hm:w.c9[e.A.toNat]? with
  |none=>exact⟨M,g07 _,keep⟩
  |some m=>
   have hmm:=g1e hm;have hmi:=h.ms m hmm;have hD:D3 m.To:=hmi.to;simp only;cases e.b7==4
   ·cases e.b7==3
    ·simp only[g26];obtain⟨t,hte⟩:∃t:Nat,m.To=(t:Int):=⟨m.To.toNat,by have:=hmi.to;omega⟩
     rw[show E8 w m.To=p8 w m.To from(N6 hD).symm];obtain⟨hni,hid⟩:=a2j h hD;refine hb.put hD (mono (.take (hb.n _ hD) (hb.m m hmm) hni hmi)) hBB ?_ (λx q => ?_) (c0H (Act.take (a5u _) trivial (b82 _) hmi)) (f2U)
     ·rw[hte];exact a0L h (by have:=hmi.to;omega) _ rfl
     ·rcases a1E (w:=J9 (a2H w e.A) m.To (D8 (p8 w m.To) m).1) q with z|z
      ·exact .inl (b1J z)
      ·exact .inr z
    ·exact⟨M,g07 _,keep.less rfl λx q=>b1J q⟩
   ·refine⟨M,g07 _,⟨keep.n,λx q => ?_,keep.t,λx q => ?_⟩⟩
    ·rcases a1E q with z|z
     ·exact keep.m x z
     ·rw[g03.1 z];exact keep.m m hmm
    ·rcases a1E q with z|z
     ·exact keep.q x z
     ·rw[g03.1 z];exact keep.q m hmm
def d8f:∀{l:List v6} {w:m6} {M:Nat} {B:Int},WI w->SBw M B w->(∀e∈l,O0 e)->∃M',M<=M'/\SBw M' (B+3*(O l:Int)) (a1x w l)
 | [],w,M,B,h,hb,_=>⟨M,g07 _,by show SBw M (B+3*0) w;rw[Int.mul_zero,Int.add_zero];exact hb⟩
 |e::l,w,M,B,h,hb,he=>by
  obtain⟨M1,a1,a2⟩:=a5O h hb e (B':=B+3) (by split<;>omega);obtain⟨M2,b1,b2⟩:=d8f (l:=l) (Y7 h (he e (by simp))) a2 λx q=>he x (g16 _ q)
  refine⟨M2,by omega,?_⟩;rw[g1G];rw[show B+3*(((O l)+1:Nat):Int)=B+3+3*(O l:Int) by omega];exact b2
def R9:(Int->Nat)->List m9->Prop
 |_,[]=>True
 |K,m::r=>if m.b7=5 then m.i6.toNat<=K m.To/\R9 (λj=>if j=m.To then max (K j) (m.i6.toNat+1)else K j) r else R9 K r
def b0e:∀{l:List m9} {K K':Int->Nat},R9 K l->(∀j,K j<=K' j)->R9 K' l
 | [],_,_,_,_=>trivial
 |m::l,K,K',h,hk=>by
  unfold R9 at h⊢;split at h
  ·rename_i q;rw[if_pos q];exact⟨g1C h.1 (hk _),b0e h.2 λj=>by
    have:=hk j;split<;>omega⟩
  ·rename_i q;rw[if_neg q];exact b0e h hk
def c6K:∀{l:List m9} {K:Int->Nat} (n:Nat),R9 K l->R9 K (l.take n)
 | [],_,n,_=>by rw[List.take_nil];trivial
 |m::l,K,0,_=>trivial
 |m::l,K,n+1,h=>by
  rw[g2s];unfold R9 at h⊢;split at h
  ·rename_i q;rw[if_pos q];exact⟨h.1,c6K n h.2⟩
  ·rename_i q;rw[if_neg q];exact c6K n h
def b8s:∀{l b:List m9} {K:Int->Nat},R9 K l->R9 K b->R9 K (l++b)
 | [],b,K,_,hb=>hb
 |m::l,b,K,h,hb=>by
  rw[g17];unfold R9 at h⊢;split at h
  ·rename_i q;rw[if_pos q];exact⟨h.1,b8s h.2 (b0e hb λj=>by split<;>omega)⟩
  ·rename_i q;rw[if_neg q];exact b8s h hb
def d75:∀{l:List m9} {K:Int->Nat},(∀x∈l,x.b7≠5)->R9 K l
 | [],_,_=>trivial
 |m::l,K,h=>by
  unfold R9;rw[if_neg (h m (by simp))];exact d75 λx q=>h x (g16 _ q)
def d0c(n:m4)(m:m9):∀(d s:Nat) (K:Int->Nat),s+d<=(O n.a9)->s<=K m.d7->R9 K (((g09 d).map λj=>T0 n m (s+j)).flatten)
 | 0,s,K,_,_=>trivial
 |d+1,s,K,h,hk=>by
  rw[g2N,g1v,g1t,g2o];have e:T0 n m (s+0)=[H7 m ⟨5,0,0,0,((s+0:Nat):Int),n.a9[s]'(by omega),[]⟩]:=by
   unfold T0;rw[g0Y (by omega:s+0<(O n.a9))];rfl
  rw[e,List.singleton_append];unfold R9;show if(5:Int)=5 then _ else _
  rw[if_pos rfl];refine⟨hk,?_⟩;have e2:((λj=>T0 n m (s+j)) ∘ Nat.succ)=λj=>T0 n m (s+1+j):=by
   funext j
   show T0 n m (s+(j+1))=T0 n m (s+1+j)
   rw[show s+(j+1)=s+1+j by omega]
  rw[e2];refine d0c n m d (s+1) _ (by omega) ?_;show s+1<=if m.d7=m.d7 then max (K m.d7) (s+0+1)else K m.d7
  rw[if_pos rfl];omega
structure c6f(n:m4)(m:m9)(x:m4×List m9×List s8):Prop where
 ph:x.1.d6=0
 ks:∀y∈x.2.1,y.b7=2\/y.b7=4\/y.b7=5\/y.b7=6\/y.b7=8
 no:m.b7≠1->m.b7≠3->m.b7≠5->m.b7≠8->x.2.1=[]
 n5:m.b7≠8->∀y∈x.2.1,y.b7≠5
 c5:m.b7=5->m.i6.toNat<=(O n.a9)->x.2.1=[]/\(O x.1.a9)=max (O n.a9) (m.i6.toNat+1)
 kn:(m.b7=5->(O n.a9)<m.i6.toNat)->x.1.a9=n.a9
 c8:m.b7=8->x.2.1=W2 n m
 bz:n.j6=W->x.1.j6=W/\x.2.2=[]
 pm:n.Acc.i7<=x.1.Acc.i7
def g0v{n:m4}{m:m9}(h0:n.d6=0)(hmi:MI m):c6f n m (D8 n m):=by
  have hsl:=hmi.sl;have hy:∀(a:m4) (b:Int),a.d6=0->L3 a b=a:=λa b q=>by
    unfold L3;rw[show(a.d6 != 0)=W by rw[q];rfl];rfl
  have hyy:∀(a:B4) (b:Int),L3 {n with Acc:=a} b={n with Acc:=a}:=λa b=>hy _ _ h0
  have hp:∀a:m4,a.d6=0->F8 a=(a,[]):=λa q=>by
    unfold F8;rw[show(a.d6 != 2)=Y by rw[q];rfl];rfl
  obtain⟨s,hs⟩:∃s:Nat,m.i6=(s:Int):=⟨m.i6.toNat,by omega⟩
  have rep:∀(x:m4) (k b t:Int) (e:p9) (v:List s7),(k=2\/k=4\/k=6)->x.d6=0->x.a9=n.a9->x.j6=n.j6->(m.b7=1\/m.b7=3)->n.Acc.i7<=x.Acc.i7->c6f n m (x,[H7 m ⟨k,0,0,b,t,e,v⟩],[]):=by
    intro x k b t e v hk q1 q2 q3 hmk hpm;refine⟨q1,λy q => ?_,λa b=>by omega,λ_ y q => ?_,λq=>by omega,λ_=>q2,λq=>by omega,λq=>⟨by rw[q3];exact q,rfl⟩,hpm⟩
    . rw[g03.1 q];show k=2\/k=4\/k=5\/k=6\/k=8
      omega
    . rw[g03.1 q];show k≠5
      omega
  have nil:∀(x:m4),x.d6=0->x.a9=n.a9->x.j6=n.j6->m.b7≠5->m.b7≠8->n.Acc.i7<=x.Acc.i7->c6f n m (x,[],[]):=λx q1 q2 q3 m5 m8 hpm=>
    ⟨q1,by simp,λ_ _ _ _=>rfl,by simp,λq=>absurd q m5,λ_=>q2,λq=>absurd q m8,λq=>⟨by rw[q3];exact q,rfl⟩,hpm⟩
  unfold D8;by_cases k1:m.b7=1
  . rw[show(m.b7==1)=Y by simpa using k1];simp only[g25];unfold a0N;split
    . rename_i hq;obtain⟨rfl,_,_,hle⟩:=a2K hq;rw[hyy];exact rep _ _ _ _ _ _ (.inl rfl) h0 rfl rfl (.inl k1) hle
    . exact rep _ _ _ _ _ _ (.inr (.inr rfl)) h0 rfl rfl (.inl k1) (g1g _)
  rw[show(m.b7==1)=W by simpa using k1];by_cases k2:m.b7=2
  . rw[show(m.b7==2)=Y by simpa using k2];simp only[g25,g26];unfold Y8;rw[show(n.d6 != 1)=Y by rw[h0];rfl];exact nil _ h0 rfl rfl (by omega) (by omega) (g1g _)
  rw[show(m.b7==2)=W by simpa using k2];by_cases k3:m.b7=3
  . rw[show(m.b7==3)=Y by simpa using k3];simp only[g25,g26];unfold a0H;split
    . rename_i hq;obtain⟨_,_,_,_,_,_,hle,rfl⟩:=b29 hq;rw[hyy];exact rep _ _ _ _ _ _ (.inr (.inl rfl)) h0 rfl rfl (.inr k3) hle
    . exact rep _ _ _ _ _ _ (.inr (.inr rfl)) h0 rfl rfl (.inr k3) (g1g _)
  rw[show(m.b7==3)=W by simpa using k3];by_cases k4:m.b7=4
  . rw[show(m.b7==4)=Y by simpa using k4];simp only[g25,g26];unfold a0J;rw[show(n.d6 != 3)=Y by rw[h0];rfl];exact nil _ h0 rfl rfl (by omega) (by omega) (g1g _)
  rw[show(m.b7==4)=W by simpa using k4];by_cases k5:m.b7=5
  . rw[show(m.b7==5)=Y by simpa using k5];simp only[g25,g26];unfold a0K;cases c1:decide (m.i6<(O n.a9:Int))
    . have c1:¬m.i6<(O n.a9:Int):=by simpa using c1
      cases c2:decide (m.i6>(O n.a9:Int))
      . have c2:¬m.i6>(O n.a9:Int):=by simpa using c2
        simp only[g26];have ek:C6 n m.i9={n with a9:=n.a9++[m.i9]}:=by
          unfold C6;rw[show(n.d6==3)=W by rw[h0];rfl];rfl
        have hak:=c0w (C6 n m.i9);unfold V5;rw[hp _ (by rw[hak.2.2.1,ek];exact h0)];have hl:(K7 (C6 n m.i9)).1.a9.length=(O n.a9)+1:=by rw[hak.2.2.2.1,ek];simp
        refine⟨by rw[hak.2.2.1,ek];exact h0,by simp,λ_ _ _ _=>rfl,by simp,λ_ _=>⟨rfl,by rw[hl];omega⟩,λq=>by have:=q k5;omega,λq=>by omega,λq => ?_,by rw[hak.1,ek];exact g1g _⟩;have:K7 (C6 n m.i9)=(C6 n m.i9,[]):=by
          unfold K7;rw[ek];show(bif n.j6 then _ else _)=_
          rw[q];rfl
        rw[this,ek];exact⟨q,rfl⟩
      . have c2:m.i6>(O n.a9:Int):=by simpa using c2
        simp only[g25,g26];refine⟨h0,λy q => ?_,λ_ _ q=>absurd k5 q,λ_ y q => ?_,λ_ q=>by omega,λ_=>rfl,λq=>by omega,λq=>⟨q,rfl⟩,g1g _⟩
        . rw[g03.1 q];exact .inr (.inr (.inr (.inr rfl)))
        . rw[g03.1 q];exact(by decide:(8:Int)≠5)
    . have c1:m.i6<(O n.a9:Int):=by simpa using c1
      exact⟨h0,by simp,λ_ _ _ _=>rfl,by simp,λ_ _=>⟨rfl,by show(O n.a9)=_;omega⟩,λ_=>rfl,λq=>by omega,λq=>⟨q,rfl⟩,g1g _⟩
  rw[show(m.b7==5)=W by simpa using k5];by_cases k6:m.b7=6
  . rw[show(m.b7==6)=Y by simpa using k6];simp only[g25,g26];rw[hyy];refine nil _ h0 rfl rfl (by omega) (by omega) ?_;show n.Acc.i7<=((J6 n.Acc m.b5).getD n.Acc).i7
    cases hq:J6 n.Acc m.b5 with
    |none=>exact g1g _
    | some a=>
      obtain⟨rfl,_,_,hle⟩:=a2K hq;exact hle
  rw[show(m.b7==6)=W by simpa using k6];by_cases k7:m.b7=7
  . rw[show(m.b7==7)=Y by simpa using k7];simp only[g25,g26];unfold Y9;rw[show(n.d6==0)=Y by rw[h0];rfl];exact nil _ h0 rfl rfl (by omega) (by omega) (g1g _)
  rw[show(m.b7==7)=W by simpa using k7];by_cases k8:m.b7=8
  . rw[show(m.b7==8)=Y by simpa using k8];simp only[g25,g26];refine⟨h0,λy q => ?_,λ_ _ _ q=>absurd k8 q,λq=>absurd k8 q,λq=>by omega,λ_=>rfl,λ_=>rfl,λq=>⟨q,rfl⟩,g1g _⟩;rcases e0s (L:=0) (b:=0) n m y q with z|z|z|z|z|z
    all_goals
      first
        |exact .inr (.inr (.inl z))
        | (have hq:y∈W2 n m:=q
           unfold W2 at hq;obtain⟨l,hl,hq⟩:=g1H.1 hq;obtain⟨j,_,rfl⟩:=g1m.1 hl;unfold T0 at hq;split at hq
           . rw[g03.1 hq];exact .inr (.inr (.inl rfl))
           . cases hq)
  . rw[show(m.b7==8)=W by simpa using k8];exact nil _ h0 rfl rfl k5 k8 (g1g _)
structure a0O(M:Nat)(B:Int)(w:m6):Prop where
 wi:WI w
 ph:∀i,D3 i->(p8 w i).d6=0
 sb:SBw M B w
abbrev G5(w:m6):Int->Nat:=λj=>(p8 w j).a9.length
abbrev G8(w:m6):Int->Int:=λj=>(p8 w j).Acc.i7
def c4Z{M:Nat}{B:Int}{w:m6}(h:a0O M B w){m:m9}{r:List m9}(hn:w.c9=m::r):∃o,(t6 w ⟨2,0,[]⟩).c9=r++o/\a0O M B (t6 w ⟨2,0,[]⟩)/\(∀j,G5 w j<=G5 (t6 w ⟨2,0,[]⟩) j/\G8 w j<=G8 (t6 w ⟨2,0,[]⟩) j)/\
  (∀y∈o,y.b7=2\/y.b7=4\/y.b7=5\/y.b7=6\/y.b7=8)/\(m.b7≠1->m.b7≠3->m.b7≠5->m.b7≠8->o=[])/\(m.b7=8->∀y∈o,y.b7=5)/\
  (m.b7=5->m.i6.toNat<=G5 w m.To->o=[]/\G5 (t6 w ⟨2,0,[]⟩) m.To=max (G5 w m.To) (m.i6.toNat+1))/\R9 (G5 w) o/\((∀i,D3 i->(p8 w i).j6=W)->(∀i,D3 i->(p8 (t6 w ⟨2,0,[]⟩) i).j6=W)/\(t6 w ⟨2,0,[]⟩).Told=w.Told):=by
 have hmm:m∈w.c9:=by rw[hn];simp
 have hmi:=h.wi.ms m hmm;have hD:D3 m.To:=hmi.to;have hdt:=g0v (h.ph _ hD) hmi;obtain⟨p1,p2⟩:=b27 h.wi hn (n':=(D8 (p8 w m.To) m).1) (l:=(D8 (p8 w m.To) m).2.1) (ts:=(D8 (p8 w m.To) m).2.2) rfl;have hnn:D8 (E8 w m.To) m=D8 (p8 w m.To) m:=by rw[N6 hD]
 have hkn:(p8 w m.To).a9.length<=(D8 (p8 w m.To) m).1.a9.length:=c0H (Act.take (a5u _) trivial (b82 _) hmi);have km:∀j,G5 w j<=G5 (t6 w ⟨2,0,[]⟩) j/\G8 w j<=G8 (t6 w ⟨2,0,[]⟩) j:=by
  intro j;show _<=(p8 (t6 w ⟨2,0,[]⟩) j).a9.length/\_<=(p8 (t6 w ⟨2,0,[]⟩) j).Acc.i7
  rw[p2];unfold upd;split
  ·rename_i q;rw[q];exact⟨hkn,hdt.pm⟩
  ·exact⟨g07 _,g1g _⟩
 have hq8:∀y∈(D8 (p8 w m.To) m).2.1,m.b7=8->y.b7=5:=by
  intro y hy k8;rw[hdt.c8 k8]at hy;unfold W2 at hy;obtain⟨l,hl,hq⟩:=g1H.1 hy;obtain⟨j,_,rfl⟩:=g1m.1 hl;unfold T0 at hq;split at hq
  ·rw[g03.1 hq];rfl
  ·cases hq
 obtain⟨M',m1,m2⟩:=a5O h.wi h.sb ⟨2,0,[]⟩ (B':=B) (by rw[if_neg (by decide)];omega);have hM:M'=M:=by
  obtain⟨i,hi,e⟩:=m2.t;have:(p8 (t6 w ⟨2,0,[]⟩) i).a9.length<=M:=by
   rw[p2];unfold upd;split
   ·have k0:=(h.sb.n _ hD).k;by_cases k5:m.b7=5
    ·by_cases hle:m.i6.toNat<=(p8 w m.To).a9.length
     ·rw[(hdt.c5 k5 hle).2];have:=(h.sb.m m hmm).c k5;omega
     ·rw[hdt.kn λ_=>by omega];exact k0
    ·rw[hdt.kn λq=>absurd q k5];exact k0
   ·exact(h.sb.n i hi).k
  omega
 rw[hM]at m2;have ng:R9 (G5 w) (D8 (p8 w m.To) m).2.1:=by
  by_cases k8:m.b7=8
  ·rw[hdt.c8 k8];unfold W2;by_cases hle:m.i6.toNat<=(p8 w m.To).a9.length
   ·exact d0c _ _ _ _ _ (by omega) (h.sb.q m hmm k8)
   ·rw[show(p8 w m.To).a9.length-m.i6.toNat=0 by omega];trivial
  ·exact d75 (hdt.n5 k8)
 refine⟨_,p1,⟨Y7 h.wi (L4 2 0),λi hi => ?_,m2⟩,km,λy q=>hdt.ks y (g1M q),λa b c d=>by rw[hdt.no a b c d];simp,λk8 y q=>hq8 y (g1M q) k8,λk5 hle => ?_,c6K _ ng,λhb=>⟨λi hi => ?_,?_⟩⟩
 ·rw[p2];unfold upd;split
  ·exact hdt.ph
  ·exact h.ph i hi
 ·obtain⟨c1,c2⟩:=hdt.c5 k5 hle;refine⟨by rw[c1];simp,?_⟩;show(p8 (t6 w ⟨2,0,[]⟩) m.To).a9.length=_
  rw[p2];unfold upd;rw[if_pos rfl];exact c2
 ·rw[p2];unfold upd;split
  ·exact(hdt.bz (hb _ hD)).1
  ·exact hb i hi
 ·rw[b1z hn,hnn];show w.Told++(D8 (p8 w m.To) m).2.2.take (60-(O w.Told))=w.Told
  rw[(hdt.bz (hb _ hD)).2];simp
def a19{w:m6}{m:m9}{r:List m9}(hn:w.c9=m::r)(k:Nat):D7 (k+1) w=D7 k (t6 w ⟨2,0,[]⟩):=by
 show(bif decide (0<(O w.c9))then D7 k (t6 w ⟨2,0,[]⟩)else w)=_
 rw[hn];rfl
def b24{w:m6}(hn:w.c9=[]):∀k,D7 k w=w
 | 0=>rfl
 |k+1=>by
  show(bif decide (0<(O w.c9))then D7 k (t6 w ⟨2,0,[]⟩)else w)=_
  rw[hn];rfl
def a69:∀(a b:Nat) (w:m6),D7 (a+b) w=D7 b (D7 a w)
 | 0,b,w=>by rw[g1U];rfl
 |a+1,b,w=>by
  cases hn:w.c9 with
  |nil=>rw[b24 hn,b24 hn,b24 hn]
  |cons m r=>rw[show a+1+b=(a+b)+1 by omega,a19 hn,a19 hn,a69 a b]
def c0T{a:Nat}{w:m6}(h:(D7 a w).c9=[]){n:Nat}(hn:a<=n):D7 n w=D7 a w:=by
 rw[show n=a+(n-a) by omega,a69,b24 h]
structure a2S(M:Nat)(B:Int)(w x:m6):Prop where
 d:a0O M B x
 km:∀j,G5 w j<=G5 x j/\G8 w j<=G8 x j
 bz:(∀i,D3 i->(p8 w i).j6=W)->(∀i,D3 i->(p8 x i).j6=W)/\x.Told=w.Told
def a2S.refl{M:Nat}{B:Int}{w:m6}(h:a0O M B w):a2S M B w w:=⟨h,λ_=>⟨g07 _,g1g _⟩,λq=>⟨q,rfl⟩⟩
def a2S.trans{M:Nat}{B:Int}{w x y:m6}(a:a2S M B w x)(b:a2S M B x y):a2S M B w y:=⟨b.d,λj=>⟨g1C (a.km j).1 (b.km j).1,g1S (a.km j).2 (b.km j).2⟩,λq=>⟨(b.bz (a.bz q).1).1,(b.bz (a.bz q).1).2.trans (a.bz q).2⟩⟩
def c2Z(m:m9):Prop:=m.b7=2\/m.b7=4\/m.b7=5\/m.b7=6\/m.b7=8
def d0C{M:Nat}{B:Int}:∀(A Ξ:List m9) (w:m6),a0O M B w->w.c9=A++Ξ->(∀m∈Ξ,c2Z m)->R9 (G5 w) Ξ->∃x,D7 (O A) w=x/\a2S M B w x/\(∀m∈x.c9,c2Z m)/\R9 (G5 x) x.c9
 | [],Ξ,w,h,hn,hc,hg=>⟨w,rfl,.refl h,by rw[hn];exact hc,by rw[hn];exact hg⟩
 |m::A,Ξ,w,h,hn,hc,hg=>by
  have hn:w.c9=m::(A++Ξ):=hn;obtain⟨o,o1,o2,o3,o4,o5,o6,o7,o8,o9⟩:=c4Z h hn;obtain⟨x,x1,x2,x3,x4⟩:=d0C A (Ξ++o) _ o2 (by rw[o1,g1d]) (λy q=>(g0Z.1 q).elim (hc y) (o4 y)) (b0e (b8s hg o8) λj=>(o3 j).1);exact⟨x,by rw[g1G,a19 hn];exact x1,a2S.trans ⟨o2,o3,o9⟩ x2,x3,x4⟩
def d17{w x:m6}{m:m9}{r:List m9}(h:R9 (G5 w) (m::r))(km:∀j,G5 w j<=G5 x j)(k5:m.b7=5->m.i6.toNat<=G5 w m.To->G5 x m.To=max (G5 w m.To) (m.i6.toNat+1)):R9 (G5 x) r:=by
 unfold R9 at h;split at h
 ·rename_i q;refine b0e h.2 λj => ?_
  have:=km j;split
  ·rename_i e;rw[e,k5 q h.1];omega
  ·exact this
 ·exact b0e h km
end
end Go.Proofs.YtffneplcebhckaaGreat
