/- Abstract values and states of the program, functions of the program and what their calls come to, and what follows from it: part 4 of the text that the law leans on; long names are written short. -/
import Derived.Test.YtallgikdooekeaaGreatP3
set_option linter.unusedVariables false
set_option linter.unusedSimpArgs false
set_option linter.unnecessarySimpa false
namespace Go.Proofs.YtallgikdooekeaaGreat
open Go
open Option renaming bind_some → d9s, map_some → e0b, getD_some → e0A, map_eq_some_iff → e0J
open List renaming getElem?_eq_getElem → d9t, replicate → d9u, getElem_mem → d9w, getElem?_eq_some_iff → d9x, mem_singleton → d9y, mem_cons → d9z, nodup_append → d9A, range → d9C, eq_nil_of_length_eq_zero → d9D, length_append → d9E, getD_eq_getElem?_getD → d9F, mem_of_getElem? → d9G, getElem?_append_right → d9H, getElem?_set_ne → d9J, getElem?_append_left → d9L, map_append → d9M, append_assoc → d9N, take_length → d9P, map_cons → d9R, flatten_cons → d9S, getElem?_eq_none → d9U, take_succ_eq_append_getElem → d9V, append_nil → d9X, getElem_of_mem → d9Y, drop_eq_nil_of_le → d9Z, findIdx?_eq_some_iff_getElem → d90, take_append_of_le_length → d91, length_take → d93, length_set → d94, any_eq_false → d95, drop_eq_getElem_cons → d97, pairwise_iff_getElem → d98, take_of_length_le → d99, take_append_drop → e0d, mem_flatten → e0e, mem_of_mem_take → e0f, mem_take_iff_getElem → e0g, mem_replicate → e0i, take_zero → e0j, nil_append → e0k, getElem?_cons_zero → e0l, mem_range → e0m, mem_of_mem_drop → e0n, length_cons → e0o, length_singleton → e0q, getElem?_cons_succ → e0r, getElem?_set_self → e0t, pairwise_cons → e0w, nodup_cons → e0x, map_singleton → e0D, findIdx?_eq_none_iff → e0E, mem_append_left → e0F, getElem?_set → e0G, any_eq_true → e0I, getElem?_drop → e0K, getElem?_take → e0L, find?_cons → e0M, sublist_append_right → e0O, getElem?_of_mem → e0P, pairwise_append → e0Q, Perm → e0S, drop_zero → e0T, drop_drop → e0U, cons_append → e0V, getElem_map → e0W, replicate_succ → e0X, drop_append_of_le_length → e0Y, size_toArray → e0Z, all_eq_false → e00, toArray → e02, map_map → e03, Sublist → e04, set_getElem_self → e05, length_replicate → e07, getElem?_append → e08, not_mem_nil → e09, length_drop → e1b, flatten_append → e1c, foldl_cons → e1d, map_set → e1f
open Bool renaming and_eq_true → d9v, not_true → d9B, true_and → d9Q, not_eq_true' → d9T, not_false → d9W, or_eq_false_iff → e0h, false_or → e0s, false_eq_true → e0v, eq_iff_iff → e0z, true_or → e06, not_eq_true → e1a
open Int renaming tmod → d9I, le_refl → d9O, toNat_natCast → d96, le_trans → e0c, tdiv → e0B, tmod_eq_emod_of_nonneg → e0N
open Nat renaming le_refl → d9K, mul_le_mul_right → d92, eq_of_beq_eq_true → e0a, succ_mul → e0p, zero_add → e0u, lt_of_lt_of_le → e0C, le_mul_of_pos_right → e0H, zero_le → e0R, add_zero → e01
open Option.some renaming inj → e0y
open Classical renaming byContradiction → e1e
noncomputable section
theorem d25{r:x6}{m:Nat}(h:Rd r m)(hm:m<=50000000):∃p r',b2w r=some (p,r')/\Rd r' (m+200)/\p.length<=10:=by
 obtain ⟨v,r1,a1,a2,a3,a4⟩:=T6 h (by omega) 3;unfold b2w;simp only [a1,d9s];cases v==0
 ·obtain ⟨k,r2,b1,b2,b3,b4⟩:=T6 a2 (by omega) 8;simp only [cond_false,b1,d9s];obtain ⟨x,hx,hq⟩:=b7g (body:=fun s:x6×(List m7)×Int=>b0b s.1 s.2.1 s.2.2)
   (fun j s=>s.2.2=(j:Int)/\j<=8/\Rd s.1 (m+2+10*(8-j))/\s.2.1.length+j<=8)
   (fun x=>match x with
    | .ret _=>False
    | .brk b=>Rd b.1 (m+200)/\b.2.length<=10)
   (by
    rintro j ⟨r,out,i⟩ ⟨q1,q2,q3,q4⟩
    simp only at q1 q3 q4 ⊢;subst q1;unfold b0b;cases j with
    | zero=>exact ⟨_,rfl,q3.mono (by omega),by simp only;omega⟩
    | succ j =>
     obtain ⟨i,r',d1,d2⟩:=c8x q3 (by omega);have hpos:decide (((j+1:Nat):Int)>0)=true:=by simp
     have n1:(out.length+1)*32<=140737488355328:=by omega
     rw [hpos,cond_true,d1,d9s,x9 n1,C8 (by omega) (by omega)];exact ⟨_,rfl,j,by omega,by simp only;omega,by omega,d2.mono (by omega),by simp;omega⟩) (k:=k.toNat) (s:=(r2,[],k)) ⟨by simp only;omega,by omega,b2.mono (by omega),by simp;omega⟩
  rw [hx,d9s];cases x with
  | ret r=>cases hq
  | brk b=>exact ⟨_,_,rfl,hq.1,hq.2⟩
 ·obtain ⟨p1,r2,b1,b2,b3,b4⟩:=T6 a2 (by omega) 3;obtain ⟨p2,r3,c1,c2,c3,c4⟩:=T6 b2 (by omega) 3;obtain ⟨p3,r4,d1,d2,d3,d4⟩:=T6 c2 (by omega) 3;simp only [cond_true,b1,c1,d1,d9s];exact ⟨_,_,rfl,d2.mono (by omega),by simp⟩
def d21(e:j8):Prop:=e.c7.b9.length<=40/\e.c7.c6.length<=40
def drawn(l:List j8):Prop:=l.length<=41/\∀e∈l,d21 e
theorem c2z{l:List j8}(h:A0 88 a2z l):a9F l=some (bif F5 l then (m9 l).1 else ⟨0,[],[]⟩):=by
 unfold a9F;rw [b7i h,d9s];cases hok:F5 l
 ·rfl
 ·obtain ⟨hl,he⟩:=a0S hok;rw [d9B,cond_false,b1D h hl he];rfl
def Q3(a b:List m5):Prop:=a.length=b.length/\∀(i:Nat) (x y:m5),a[i]?=some x->b[i]?=some y->x.i7<=y.i7
theorem Q3.refl(a:List m5):Q3 a a:=⟨rfl,fun i x y h1 h2=>by rw [h1] at h2;injection h2 with h2;rw [h2];exact d9O _⟩
theorem Q3.trans{a b c:List m5}(h:Q3 a b)(k:Q3 b c):Q3 a c:=by
 refine ⟨h.1.trans k.1,fun i x z hx hz => ?_⟩;have hi:i<b.length:=by
  have:=(d9x.1 hx).1;have:=h.1;omega
 have h1:=h.2 i x _ hx (d9t hi);have h2:=k.2 i _ z (d9t hi) hz;omega
theorem d0p{l:List m5}{p:n6}(h:B7 l=true)(hp:Z3 p):Q3 l (W3 l p):=by
 obtain ⟨b,_,h2,h3⟩:=a5S h (b:=p.g8) ⟨hp.1,hp.2.1⟩;rw [b00] at h3;rw [b5Y h2];refine ⟨by simp,fun i x y hx hy => ?_⟩;rw [e0G] at hy;split at hy
 ·rename_i he;split at hy
  ·injection hy with hy;subst hy;rw [<-he,h2] at hx;injection hx with hx;subst hx;simp only;split<;>omega
  ·cases hy
 ·rw [hx] at hy;injection hy with hy;rw [hy];exact d9O _
theorem c0N:∀{ps:List n6} {l:List m5},B7 l=true->(∀p∈ps,Z3 p)->Q3 l (Y9 l ps)
 | [],l,_,_=>Q3.refl _
 | p::ps,l,h,hp=>(d0p h (hp p (by simp))).trans (c0N (ps:=ps) (c0i h (hp p (by simp))) fun x hx=>hp x (by simp [hx]))
theorem d1p{s:t7}{k:Nat}{e:j8}(hs:S7 s k)(he:t9 e=true):Q3 s.d8 (apply s e).1.d8:=by
 have hfr:e.i6=false->Q3 s.d8 (J8 s e).1.d8:=by
  intro hn;obtain ⟨_,_,hr,_⟩:=a2s he hn;unfold J8;cases a0D s.d8 e.c7
  ·exact Q3.refl _
  ·cases e.c7.Code==0
   ·exact Q3.refl _
   ·exact c0N hs.boxes (a2w hr).2.2.2.2
 unfold apply;cases hn:e.i6
 ·simp only [cond_false];cases s.i4.find? fun d=>d.a0.b6==e.a0.b6 with
  | none=>exact hfr hn
  | some d =>
   simp only;cases d.a0.Seq==e.a0.Seq
   ·cases decide (d.a0.Seq>e.a0.Seq)
    ·exact hfr hn
    ·exact Q3.refl _
   ·exact Q3.refl _
 ·exact Q3.refl _
theorem c1E{l:List j8}(hl:l.length<=40)(he:l.all t9=true){j k:Nat}(hjk:j<=k)(hk:k<=l.length):Q3 (m9 (l.take j)).1.d8 (m9 (l.take k)).1.d8:=by
 induction k with
 | zero =>
  have:j=0:=by omega
  subst this;exact Q3.refl _
 | succ k ih =>
  by_cases hq:j=k+1
  ·subst hq;exact Q3.refl _
  ·refine (ih (by omega) (by omega)).trans ?_;rw [a04 (show k<l.length by omega)];exact d1p (O9 hl he k (by omega)).1 (List.all_eq_true.1 he _ (d9w _))
def a3c(l:List j8)(codes:List Int)(box:Int)(i:Nat):Bool:=match codes[i]?,l[i]? with
 | some c,some e=>c==0&&H3 e.c7.c6 box
 | _,_=>false
theorem c3x{l:List m5}{p:n6}{i:Nat}(h:p.g8.toNat≠i):(W3 l p)[i]?=l[i]?:=by
 unfold W3;cases l[p.g8.toNat]? with
 | none=>rfl
 | some b=>simp only;rw [d9J h]
theorem d4v{l:List m5}{p:n6}{x:m5}(hx:l[p.g8.toNat]?=some x):(W3 l p)[p.g8.toNat]?=some ⟨if x.i7+1<1000000 then x.i7+1 else 1000000,p.c8⟩:=by
 rw [b5Y hx,e0t (d9x.1 hx).1]
theorem c8F{ps:List n6}{b:Int}(h:H3 ps b=false):∀p∈ps,p.g8≠b:=by
 unfold H3 at h;rw [d95] at h;intro p hp;simpa using h p hp
theorem b4M:∀{ps:List n6} {l:List m5} {b:Int},0<=b->(∀p∈ps,Z3 p)->H3 ps b=false->(Y9 l ps)[b.toNat]?=l[b.toNat]?
 | [],l,b,_,_,_=>rfl
 | p::ps,l,b,hb,hp,hs=>by
  have h1:=c8F hs;have hf:=hp p (by simp);have hne:p.g8.toNat≠b.toNat:=by
   have:=h1 p (by simp);have:=hf.1;omega
  have hs2:H3 ps b=false:=by
   unfold H3;rw [d95];intro x hx;have:=h1 x (by simp [hx]);simpa using this
  show (Y9 (W3 l p) ps)[b.toNat]?=_
  rw [b4M (l:=W3 l p) hb (fun x hx=>hp x (by simp [hx])) hs2,c3x hne]
theorem c2p:∀{ps:List n6} {l:List m5} {b:Int} {x:m5},0<=b->(∀p∈ps,Z3 p)->ps.Pairwise (fun p q=>p.g8≠q.g8)->H3 ps b=true->l[b.toNat]?=some x->
  ∃v,(Y9 l ps)[b.toNat]?=some ⟨if x.i7+1<1000000 then x.i7+1 else 1000000,v⟩
 | [],l,b,x,_,_,_,hs,_=>by cases hs
 | p::ps,l,b,x,hb,hp,hd,hs,hx=>by
  have hf:=hp p (by simp);obtain ⟨hd1,hd2⟩:=e0w.1 hd;by_cases he:p.g8=b
  ·have hs2:H3 ps b=false:=by
    unfold H3;rw [d95];intro q hq;have:=hd1 q hq;simp only [beq_iff_eq];intro h;exact this (he.trans h.symm)
   refine ⟨p.c8,?_⟩;show (Y9 (W3 l p) ps)[b.toNat]?=_
   rw [b4M hb (fun q hq=>hp q (by simp [hq])) hs2,<-he,d4v (by rw [he];exact hx)]
  ·have hne:p.g8.toNat≠b.toNat:=by
    have:=hf.1;omega
   have hs2:H3 ps b=true:=by
    unfold H3 at hs ⊢;rw [List.any_cons] at hs;have:(p.g8==b)=false:=by simpa using he
    rwa [this,e0s] at hs
   exact c2p (l:=W3 l p) hb (fun q hq=>hp q (by simp [hq])) hd2 hs2 (by rw [c3x hne];exact hx)
theorem c4s{r:o7}(h:T7 r=true):a0m r.c6=true:=by
 rw [a6n] at h;simp only [d9v] at h;exact h.2.2.2.2.2
theorem b6l{s:t7}{k:Nat}{e:j8}(hs:S7 s k)(he:t9 e=true):((apply s e).2=0/\e.i6=false/\(apply s e).1.d8=Y9 s.d8 e.c7.c6)\/((apply s e).2≠0/\(apply s e).1.d8=s.d8):=by
 have hfr:e.i6=false->((J8 s e).2=0/\e.i6=false/\(J8 s e).1.d8=Y9 s.d8 e.c7.c6)\/((J8 s e).2≠0/\(J8 s e).1.d8=s.d8):=by
  intro hn;unfold J8;cases a0D s.d8 e.c7
  ·exact .inr ⟨show (1:Int)≠0 from by decide,rfl⟩
  ·cases e.c7.Code==0
   ·exact .inr ⟨show (2:Int)≠0 from by decide,rfl⟩
   ·exact .inl ⟨rfl,hn,rfl⟩
 unfold apply;cases hn:e.i6
 ·simp only [cond_false];cases s.i4.find? fun d=>d.a0.b6==e.a0.b6 with
  | none =>
   rcases hfr hn with ⟨a,_,c⟩|h
   ·exact .inl ⟨a,by simp,c⟩
   ·exact .inr h
  | some d =>
   simp only;cases d.a0.Seq==e.a0.Seq
   ·cases decide (d.a0.Seq>e.a0.Seq)
    ·rcases hfr hn with ⟨a,_,c⟩|h
     ·exact .inl ⟨a,by simp,c⟩
     ·exact .inr h
    ·exact .inr ⟨show (4:Int)≠0 from by decide,rfl⟩
   ·exact .inr ⟨show (3:Int)≠0 from by decide,rfl⟩
 ·exact .inr ⟨show (5:Int)≠0 from by decide,rfl⟩
theorem a7z{l:List j8}(hl:l.length<=40)(he:l.all t9=true){k:Nat}(hk:k<l.length):(m9 l).2[k]?=some (apply (m9 (l.take k)).1 l[k]).2:=by
 have key:∀n,k<n->n<=l.length->(m9 (l.take n)).2[k]?=some (apply (m9 (l.take k)).1 l[k]).2:=by
  intro n;induction n with
  | zero=>intro h;omega
  | succ n ih =>
   intro h1 h2;have hlen:=(O9 hl he n (by omega)).2.1;rw [a04 (show n<l.length by omega)];unfold a6y;by_cases hq:k=n
   ·subst hq;simp only;rw [d9H (by omega),hlen,Nat.sub_self];rfl
   ·simp only;rw [d9L (by omega)];exact ih (by omega) (by omega)
 have:=key l.length hk (d9K _);rwa [d9P] at this
theorem c5M{l:List j8}(hl:l.length<=40)(he:l.all t9=true){k:Nat}(hk:k<l.length){b:Int}(h0:0<=b)(h:a3c l (m9 l).2 b k=false):(m9 (l.take (k+1))).1.d8[b.toNat]?=(m9 (l.take k)).1.d8[b.toNat]?:=by
 have hek:=List.all_eq_true.1 he _ (d9w hk);have hin:=(O9 hl he k (by omega)).1;rw [a04 hk];show (apply (m9 (l.take k)).1 l[k]).1.d8[b.toNat]?=_
 rcases b6l hin hek with ⟨h1,h2,h3⟩|⟨h1,h2⟩
 ·rw [h3];obtain ⟨_,_,hr,_⟩:=a2s hek h2;refine b4M h0 (a2w hr).2.2.2.2 ?_;unfold a3c at h;rw [a7z hl he hk,d9t hk,h1] at h;simpa using h
 ·rw [h2]
theorem b98{l:List j8}(hl:l.length<=40)(he:l.all t9=true){k:Nat}(hk:k<l.length){b:Int}(h:a3c l (m9 l).2 b k=true):(0<=b/\b<=3)/\∀x,(m9 (l.take k)).1.d8[b.toNat]?=some x->
  ∃v,(m9 (l.take (k+1))).1.d8[b.toNat]?=some ⟨if x.i7+1<1000000 then x.i7+1 else 1000000,v⟩:=by
 have hek:=List.all_eq_true.1 he _ (d9w hk);have hin:=(O9 hl he k (by omega)).1;unfold a3c at h;rw [a7z hl he hk,d9t hk] at h;simp only [d9v,beq_iff_eq] at h;rcases b6l hin hek with ⟨h1,h2,h3⟩|⟨h1,h2⟩
 ·obtain ⟨_,_,hr,_⟩:=a2s hek h2;have hp:=(a2w hr).2.2.2.2;have hb:0<=b/\b<=3:=by
   have:=h.2;unfold H3 at this;rw [e0I] at this;obtain ⟨p,hp1,hp2⟩:=this;have hpb:p.g8=b:=by simpa using hp2
   have:=hp p hp1;omega
  refine ⟨hb,fun x hx => ?_⟩;rw [a04 hk];show ∃v,(apply (m9 (l.take k)).1 l[k]).1.d8[b.toNat]?=_
  rw [h3];exact c2p hb.1 hp (a8M.1 (c4s hr)).2 h.2 hx
 ·exact absurd h.1 h1
theorem b5J{l:List j8}(hl:l.length<=40)(he:l.all t9=true){b:Int}(hb:0<=b/\b<=3):∀k,k<=l.length->∃x,(m9 (l.take k)).1.d8[b.toNat]?=some x/\0<=x.i7/\x.i7<=(k:Int)
 | 0,_=>by
  rw [e0j];have:b=0\/b=1\/b=2\/b=3:=by omega
  rcases this with rfl|rfl|rfl|rfl<;>exact ⟨⟨0,0⟩,rfl,by decide,by decide⟩
 | k+1,hk=>by
  obtain ⟨x,h1,h2,h3⟩:=b5J hl he hb k (by omega);cases hp:a3c l (m9 l).2 b k
  ·rw [c5M hl he (by omega) hb.1 hp];exact ⟨x,h1,h2,by omega⟩
  ·obtain ⟨_,hq⟩:=b98 hl he (show k<l.length by omega) hp;obtain ⟨v,hv⟩:=hq x h1;refine ⟨_,hv,?_,?_⟩
   ·simp only;split<;>omega
   ·simp only;split<;>omega
theorem c01{l:List j8}(hl:l.length<=40)(he:l.all t9=true){b:Int}(h0:0<=b){j:Nat}:∀k,j<=k->k<=l.length->(∀i,j<=i->i<k->a3c l (m9 l).2 b i=false)->(m9 (l.take k)).1.d8[b.toNat]?=(m9 (l.take j)).1.d8[b.toNat]?
 | 0,hj,_,_=>by
  have:j=0:=by omega
  rw [this]
 | k+1,hj,hk,h=>by
  by_cases hq:j=k+1
  ·rw [hq]
  ·rw [c5M hl he (by omega) h0 (h k (by omega) (by omega))];exact c01 hl he h0 k (by omega) (by omega) fun i h1 h2=>h i h1 (by omega)
def cnt(cs:List Int)(c:Int):Int:=((cs.filter fun x=>x==c).length:Int)
theorem d0f(cs:List Int)(c d:Int):cnt (cs++[c]) d=cnt cs d+(if c=d then 1 else 0):=by
 unfold cnt;rw [List.filter_append];by_cases h:c=d<;>simp [h]
theorem b7P(cs:List Int)(c:Int):0<=cnt cs c/\cnt cs c<=cs.length:=by
 unfold cnt;have:=List.length_filter_le (fun x=>x==c) cs;omega
def b2f(l:List j8)(cs:List Int)(k:Nat):List m8:=match cs[k]?,l[k]? with
 | some c,some e=>bif c==0 then [e.a0] else []
 | _,_=>[]
def told(l:List j8)(cs:List Int):Nat->List m8
 | 0=>[]
 | k+1=>told l cs k++b2f l cs k
theorem a9M{l:List j8}{cs:List Int}{k:Nat}(h1:k<l.length)(h2:k<cs.length):b2f l cs k=bif cs[k]==0 then [l[k].a0] else []:=by
 unfold b2f;rw [d9t h1,d9t h2]
theorem b27{l:List j8}{cs:List Int}(hc:cs.length=l.length):∀k,k<=l.length->((told l cs k).length:Int)=cnt (cs.take k) 0
 | 0,_=>rfl
 | k+1,hk=>by
  have h1:k<cs.length:=by omega
  have ih:=b27 hc k (by omega);unfold told;rw [d9V h1,d0f,a9M (show k<l.length by omega) h1,<-ih];by_cases hq:cs[k]=0
  ·simp [hq]
  ·have hq':(cs[k]==0)=false:=by simpa using hq
   simp [hq,hq']
def z9(l:List j8):List m8:=bif F5 l then told l (m9 l).2 l.length else []
theorem c7O{l:List m8}(h:l.length*16<=140737488351232):b2s l=some l:=by
 unfold b2s s5;cases l with
 | nil=>rfl
 | cons x l =>
  have h1:(((x::l).length:Int)==0)=false:=by simp;omega
  rw [h1,cond_false,if_pos (by constructor<;>omega),if_pos (by simp)]
theorem d3H{l:List j8}(h:A0 88 a2z l):b2A l=some (z9 l):=by
 unfold b2A z9;rw [b7i h,d9s];cases hok:F5 l
 ·rfl
 have hf:q9 l:=h.fits (by decide);obtain ⟨hl,he⟩:=a0S hok;obtain ⟨_,hlen,hc⟩:=O9 hl he l.length (d9K _);rw [d9P] at hlen hc;rw [d9B,cond_false,cond_true,b1D h hl he,d9s];have hsm:∀k,k<=l.length->(told l (m9 l).2 k).length<=40:=by
  intro k hk;have h1:=b27 hlen k hk;have h2:=b7P ((m9 l).2.take k) 0;rw [d93] at h2;omega
 have hloop:=T8 (body:=fun s:(List m8)×Int=>a6S l (m9 l) s.1 s.2) (fun k=>(told l (m9 l).2 k,(k:Int))) l.length (by
  intro k hk;have hk2:k<(m9 l).2.length:=by omega
  have hs:=hsm k (by omega);have n1:((told l (m9 l).2 k).length+1)*16<=140737488355328:=by omega
  show a6S l (m9 l) (told l (m9 l).2 k) (k:Int)=some (.nxt (told l (m9 l).2 k++b2f l (m9 l).2 k,((k+1:Nat):Int)))
  rw [a9M hk hk2];unfold a6S b5x;rw [z5 _ k hk,s7 hk,s7 hk2,E7 hf hk];simp only [cond_true,d9s,x9 n1];cases (m9 l).2[k]==0
  ·simp only [cond_false,d9s,l7.go,d9X]
  ·rfl)
 rw [show told l (m9 l).2 0=[] from rfl,show ((0:Nat):Int)=0 from rfl] at hloop;rw [hloop,E8 (b:=told l (m9 l).2 l.length)]
 ·simp only [d9s,l7.go];unfold b5Q;rw [c7O (by have:=hsm l.length (d9K _);omega)];rfl
 ·unfold a6S;rw [B0];rfl
theorem a3S{ps:List n6}(h:ps.Pairwise fun p q=>p.g8≠q.g8)(b:Int):(ps.filter fun p=>p.g8==b).length<=1:=by
 have h2:=h.filter (fun p=>p.g8==b);cases hq:ps.filter fun p=>p.g8==b with
 | nil=>simp
 | cons x r =>
  cases r with
  | nil=>simp
  | cons y r =>
   rw [hq] at h2;have hne:=(e0w.1 h2).1 y (by simp);have hx:x∈ps.filter fun p=>p.g8==b:=by rw [hq];simp
   have hy:y∈ps.filter fun p=>p.g8==b:=by rw [hq];simp
   have hx:=(List.mem_filter.1 hx).2;have hy:=(List.mem_filter.1 hy).2;simp only [beq_iff_eq] at hx hy;omega
theorem b6e:∀{ps:List n6},(∀p∈ps,Z3 p)->ps.length=(ps.filter fun p=>p.g8==0).length+(ps.filter fun p=>p.g8==1).length+(ps.filter fun p=>p.g8==2).length+(ps.filter fun p=>p.g8==3).length
 | [],_=>rfl
 | p::ps,h=>by
  have ih:=b6e (ps:=ps) fun x hx=>h x (by simp [hx])
  have hp:=h p (by simp);have:p.g8=0\/p.g8=1\/p.g8=2\/p.g8=3:=by
   have:=hp.1;have:=hp.2.1;omega
  simp only [List.filter_cons,e0o];rcases this with q|q|q|q<;>simp [q]<;>omega
theorem d5m{r:o7}(h:T7 r=true):r.c6.length<=4:=by
 have h1:=(a8M.1 (c4s h))
 have h2:=b6e h1.1;have a:=a3S h1.2 0;have b:=a3S h1.2 1;have c:=a3S h1.2 2;have d:=a3S h1.2 3;omega
theorem okEntries.s{l:List j8}(h:A0 88 J0 l):A0 88 a2z l:=h.imp fun _ x=>x.f
theorem b3f(c x:Bool):(bif c then some x else some false)=some (c&&x):=by cases c<;>rfl
theorem d2f(c x:Bool):(bif c then some false else some x)=some (!c&&x):=by cases c<;>rfl
theorem d54(n lo hi:Int):n7 n lo hi=(!decide (n<lo) && !decide (n>hi)):=by
 unfold n7;by_cases h1:n<lo<;>by_cases h2:n>hi<;>simp [h1,h2]<;>omega
theorem rng{α:Type}(n lo hi:Int)(X Y:α):(bif decide (n<lo) then Y else bif decide (n>hi) then Y else X)=bif n7 n lo hi then X else Y:=by
 rw [d54];cases decide (n<lo)<;>cases decide (n>hi)<;>rfl
theorem b60(a b:Int):(!decide (a>b))=decide (a<=b):=by
 by_cases h:a<=b
 ·simp [h]
 ·simp [h];omega
theorem d7j{α:Type}(l:List α):decide ((l.length:Int)>0) = !((l.length:Int)==0):=by
 by_cases hp:l.length=0
 ·rw [decide_eq_false (by omega),show ((l.length:Int)==0)=true from by rw [hp];rfl];rfl
 ·rw [decide_eq_true (by omega),show ((l.length:Int)==0)=false from by rw [<-e1a,beq_iff_eq];omega];rfl
theorem d1L{α:Type}[BEq α](a b:α):(!(a != b))=(a==b):=by simp [bne]
abbrev zE:j8:=⟨false,⟨0,0⟩,⟨[],[],0,0⟩⟩
def M4(a b:j8):Bool:=(a.i6==b.i6)&&((([a.a0.b6,a.a0.Seq]:List Int)==[b.a0.b6,b.a0.Seq])&&a41 a.c7 b.c7)
theorem a3V{a b:j8}(h:J0 a):a0c a b=some (M4 a b):=by
 unfold a0c M4;simp only [c25 h.f.2,d9s,b3f]
def a1a(v:n8):Bool:=bif v.a6==0 then M4 v.d7 zE else n7 v.a6 1 3000&&t9 v.d7
theorem d15{v:n8}(h:a1y v):a93 v=some (a1a v):=by
 unfold a93 a1a;simp only [a3V h.2,I4,a3w h.2.f,d9s,b3f];cases v.a6==0<;>rfl
def L7(l:List n8):Bool:=decide (l.length<=40)&&l.all a1a
theorem a8n{l:List n8}(h:A0 96 a1y l):a4a l=some (L7 l):=by
 unfold a4a L7 b7F;rw [show (40:Int)=((40:Nat):Int) from rfl,b5P,P3 l (h.fits (by decide)) a1a false ()]
 ·cases l.all a1a<;>cases decide (l.length<=40)<;>rfl
 ·intro k hk;unfold b14;rw [z5 _ k hk,s7 hk];simp only [cond_true,d9s,d15 (h.2 _ (d9w hk))];cases a1a l[k]<;>rfl
 ·unfold b14;rw [B0];rfl
def Q1(a:z4):Bool:=n7 a.g9 0 3000&&(L7 a.a9&&a.a9.all fun v => !decide (v.a6>a.g9))
theorem b8P{a:z4}(h:a4m a):a6I a=some (Q1 a):=by
 unfold a6I Q1;rw [P3 a.a9 (h.2.fits (by decide)) (fun v => !decide (v.a6>a.g9)) false ()]
 ·unfold b5m;simp only [I4,a8n h.2,d9s];cases n7 a.g9 0 3000<;>cases L7 a.a9<;>cases a.a9.all (fun v => !decide (v.a6>a.g9))<;>rfl
 ·intro k hk;unfold b0C;rw [z5 _ k hk,s7 hk];simp only [cond_true,d9s];cases decide (a.a9[k].a6>a.g9)<;>rfl
 ·unfold b0C;rw [B0];rfl
theorem d5L(i:m7):b2S i=some (K6 i):=by
 unfold b2S K6 a1b b0A;simp only [I4,d9s];cases i.a7==1<;>cases i.a7==2<;>cases i.a7==3<;>cases i.a7==4<;>cases i.a7==5<;>cases i.a7==6<;>cases i.a7==7<;>cases n7 i.A 0 3<;>cases n7 i.B 0 3<;>cases i.A==0<;>cases i.B==0<;>rfl
theorem a85{l:List m7}(h:q9 l):a3A l=some (C3 l):=by
 unfold a3A C3 b5l;rw [show (10:Int)=((10:Nat):Int) from rfl,b5P,P3 l h K6 false ()]
 ·cases l.all K6<;>cases decide (l.length<=10)<;>rfl
 ·intro k hk;unfold b2a;rw [z5 _ k hk,s7 hk];simp only [cond_true,d9s,d5L];cases K6 l[k]<;>rfl
 ·unfold b2a;rw [B0];rfl
def a0N(b:Int):Int:=bif n7 b 1 3000 then d9I b 3 else -1
theorem c2q(b:Int):a9y b=some (a0N b):=by
 unfold a9y a0N;rw [I4,d9s];cases n7 b 1 3000<;>rfl
def b1m(l:List Bool)(id:Int):Bool:=(idx l id).getD false
def a5Z(l:List Bool)(id:Int):Bool:=((l.length:Int)==3)&&b1m l id
theorem c7a{l:List Bool}{id:Int}(h:n7 id 0 2=true)(hl:((l.length:Int)==3)=true):idx l id=some (b1m l id):=by
 unfold n7 at h;simp only [decide_eq_true_eq] at h;simp only [beq_iff_eq] at hl;unfold b1m idx;rw [if_pos h.1,d9t (by omega)];rfl
theorem d1d{l:List Bool}{id:Int}(h:n7 id 0 2=true):a8I l id=some (a5Z l id):=by
 unfold a8I a5Z;cases hl:((l.length:Int)==3)
 ·rfl
 ·rw [c7a h hl];rfl
def a5B(n:j5):Bool:=M4 n.d6 zE&&((n.a9.length:Int)==0)
def a0u(n:j5):Bool :=
  bif n.b5==0 then (n.a6==0)&&(((n.b8.length:Int)==0)&&(((n.g7.length:Int)==0)&&a5B n)) else
  (a0N n.a6==n.Id)&&(decide (n.a6<=n.Acc.g9)&&(L7 n.g7 &&
    (bif n.b5==1 then a5Z n.b8 n.Id&&a5B n else
     bif n.b5==2 then ((n.b8.length:Int)==0)&&a5B n else
     bif n.b5==3 then ((n.b8.length:Int)==0)&&(t9 n.d6&&(a5Z n.a9 n.Id&&decide ((n.a5.length:Int)<40))) else false)))
theorem c1g{n:j5}(h:n7 n.Id 0 2=true)(ho:(a0N n.a6==n.Id)=true):n7 n.a6 1 3000=true:=by
 cases hb:n7 n.a6 1 3000
 ·unfold a0N at ho;rw [hb] at ho;unfold n7 at h;simp only [decide_eq_true_eq,cond_false,beq_iff_eq] at h ho;omega
 ·rfl
theorem c9b{n:j5}(h:a2b n)(hId:n7 n.Id 0 2=true):a8T n=some (a0u n):=by
 have hj:a8T n=b2Z n (a5B n):=by
  unfold a8T a5B;simp only [a3V h.2.2.2.2.2.2.2.2.1,d9s];cases M4 n.d6 zE<;>rfl
 rw [hj];unfold b2Z a0u;simp only [c2q,a8n h.2.2.2.2.2.2.2.1,d1d hId,a3w h.2.2.2.2.2.2.2.2.1.f,d9s,b3f];cases n.b5==0
 ·simp only [cond_false];cases n.b5==1<;>cases n.b5==2<;>cases n.b5==3<;>simp only [cond_true,cond_false,d2f,d1L,b60,Bool.not_not]<;>(cases a0N n.a6==n.Id<;>cases decide (n.a6<=n.Acc.g9)<;>cases L7 n.g7<;>rfl)
 ·rfl
def a4D(n:j5):Bool :=
 bif n.i3 then C3 n.i5&&(t9 n.b7&&(!n.b7.i6&&(([n.b7.a0.b6,n.b7.a0.Seq]:List Int)==[n.Id,n.Seq]))) else ((n.i5.length:Int)==0)&&M4 n.b7 zE
def b4I(l:List j8):Bool:=l.all fun e=>t9 e && !e.i6
def G0(n:j5):Bool:=n7 n.Id 0 2&&(Q1 n.Acc&&(F5 n.a5&&(n7 n.Seq 0 1000&&(decide ((n.d9.length:Int)<=4)&&(a0u n&&(a4D n&&b4I n.d9))))))
theorem a4O{n:j5}(h:a2b n):a1Q n=some (G0 n):=by
 unfold a1Q G0;rw [I4,d9s];cases hId:n7 n.Id 0 2
 ·rfl
 ·have hw:=h.2.2.2.2.2.2.2.2.2.2.2.1;have hk3:b0k n=some (a4D n&&a0u n):=by
   unfold b0k b4X a4D;simp only [a85 (h.2.2.2.2.2.2.2.2.2.2.1.fits (by decide)),a3w hw.f,a3V hw,c9b h hId,d9s];cases n.i3
   ·rw [d7j];cases ((n.i5.length:Int)==0)<;>cases M4 n.b7 zE<;>rfl
   ·cases C3 n.i5<;>cases t9 n.b7<;>cases n.b7.i6<;>cases (([n.b7.a0.b6,n.b7.a0.Seq]:List Int)==[n.Id,n.Seq])<;>rfl
  rw [b8P h.2.1,b7i (okEntries.s h.2.2.1),I4,hk3,P3 n.d9 (h.2.2.2.2.2.2.2.2.2.2.2.2.fits (by decide)) (fun e=>t9 e && !e.i6) false ()]
  ·unfold b4I;rw [<-b60];simp only [d9s,d9B,cond_false];cases Q1 n.Acc<;>cases F5 n.a5<;>cases n7 n.Seq 0 1000<;>cases decide ((n.d9.length:Int)>4)<;>cases a0u n<;>cases a4D n<;>cases n.d9.all (fun e=>t9 e && !e.i6)<;>rfl
  ·intro k hk;unfold b0L;rw [z5 _ k hk,s7 hk];simp only [cond_true,d9s,a3w ((h.2.2.2.2.2.2.2.2.2.2.2.2).2 _ (d9w hk)).f];cases t9 n.d9[k]<;>cases n.d9[k].i6<;>rfl
  ·unfold b0L;rw [B0];rfl
def b2i(m:l8):Bool :=
 let bal:=n7 m.a6 1 3000;let non:=M4 m.d7 zE;let nv:=(m.a9.length:Int)==0;bif m.a7==1 then bal&&(non&&nv) else
 bif m.a7==4 then bal&&(non&&nv) else
 bif m.a7==2 then bal&&(non&&(L7 m.a9&&decide (l9 (m.c9+(m.a9.length:Int))<=40))) else
 bif m.a7==3 then bal&&(decide (m.c9<40)&&(t9 m.d7&&nv)) else
 bif m.a7==5 then (m.a6==0)&&(decide (m.c9<40)&&(t9 m.d7&&nv)) else
 bif m.a7==6 then bal&&((m.c9==0)&&(non&&nv)) else
 bif m.a7==7 then (m.a6==0)&&((m.c9==0)&&(t9 m.d7&&(!m.d7.i6&&nv))) else
 bif m.a7==8 then (m.a6==0)&&(non&&nv) else false
def V7(m:l8):Bool:=n7 m.b8 0 2&&(n7 m.To 0 2&&(!(m.b8==m.To)&&(n7 m.c9 0 40&&b2i m)))
theorem b9M{m:l8}(h:a6N m):a7p m=some (V7 m):=by
 unfold a7p V7 b2i;have he:=h.2.2.2.2.2.1;simp only [I4,a3V he,a3w he.f,a8n h.2.2.2.2.2.2,d9s,b3f];cases n7 m.b8 0 2
 ·rfl
 cases n7 m.To 0 2
 ·rfl
 cases m.b8==m.To;case true=>rfl
 cases n7 m.c9 0 40
 ·rfl
 cases m.a7==1<;>cases m.a7==4<;>cases m.a7==2<;>cases m.a7==3<;>cases m.a7==5<;>cases m.a7==6<;>cases m.a7==7<;>cases m.a7==8<;>rfl
def Y0(t:s9):Bool:=n7 t.Node 0 2&&((n7 t.a0.b6 0 2&&n7 t.a0.Seq 1 1000)&&((t.a0.b6==t.Node)&&(n7 t.Code 0 4&&n7 t.c8 (-1000000) 1000000)))
def a1f(x:D5):Bool:=(n7 x.a0.b6 0 2&&n7 x.a0.Seq 1 1000)&&C3 x.i5
def a4Y(w:j9)(k:Nat):Bool:=match w.a8[k]? with
 | some n=>(n.Id==(k:Int))&&G0 n
 | none=>true
def C4(w:j9):Bool:=((w.a8.length:Int)==3)&&(decide ((w.i0.length:Int)<=40)&&(decide ((w.f0.length:Int)<=60)&&(decide ((w.Told.length:Int)<=60)&&((d9C w.a8.length).all (a4Y w)&&(w.i0.all V7&&(w.f0.all a1f&&w.Told.all Y0))))))
theorem a3g{w:j9}(h:Q8 w):a05 w=some (C4 w):=by
 have k7:b1t w=some (w.Told.all Y0):=by
  unfold b1t;rw [P3 w.Told (h.2.2.2.fits (by decide)) Y0 false ()]
  ·cases w.Told.all Y0<;>rfl
  ·intro k hk;unfold b3p;rw [z5 _ k hk,s7 hk];simp only [cond_true,d9s,I4,b0V];unfold Y0;rw [show (w.Told[k].a0.b6==w.Told[k].Node) = !(w.Told[k].a0.b6 != w.Told[k].Node) from by simp [bne]];cases n7 w.Told[k].Node 0 2<;>cases n7 w.Told[k].a0.b6 0 2&&n7 w.Told[k].a0.Seq 1 1000<;>cases (w.Told[k].a0.b6 != w.Told[k].Node)<;>cases n7 w.Told[k].Code 0 4<;>cases n7 w.Told[k].c8 (-1000000) 1000000<;>rfl
  ·unfold b3p;rw [B0];rfl
 have k9:b0w w=some (w.f0.all a1f&&w.Told.all Y0):=by
  unfold b0w;rw [P3 w.f0 (h.2.2.1.fits (by decide)) a1f false ()]
  ·rw [k7];cases w.f0.all a1f<;>rfl
  ·intro k hk;unfold b0E;rw [z5 _ k hk,s7 hk];simp only [cond_true,d9s,b0V,a85 ((h.2.2.1.2 _ (d9w hk)).2.fits (by decide))];unfold a1f;cases n7 w.f0[k].a0.b6 0 2&&n7 w.f0[k].a0.Seq 1 1000<;>cases C3 w.f0[k].i5<;>rfl
  ·unfold b0E;rw [B0];rfl
 have k11:b1s w=some (w.i0.all V7&&(w.f0.all a1f&&w.Told.all Y0)):=by
  unfold b1s;rw [P3 w.i0 (h.2.1.fits (by decide)) V7 false ()]
  ·rw [k9];cases w.i0.all V7<;>rfl
  ·intro k hk;unfold b1w;rw [z5 _ k hk,s7 hk];simp only [cond_true,d9s,b9M (h.2.1.2 _ (d9w hk))];cases V7 w.i0[k]<;>rfl
  ·unfold b1w;rw [B0];rfl
 unfold a05 C4;rw [a45 w.a8 (h.1.fits (by decide)) (a4Y w) false ()]
 ·rw [k11];simp only [<-b60];rw [show ((w.a8.length:Int)==3) = !((w.a8.length:Int) != 3) from by simp [bne]];cases ((w.a8.length:Int) != 3)<;>cases decide ((w.i0.length:Int)>40)<;>cases decide ((w.f0.length:Int)>60)<;>cases decide ((w.Told.length:Int)>60)<;>cases (d9C w.a8.length).all (a4Y w)<;>rfl
 ·intro k hk _;unfold b1i;rw [z5 _ k hk,s7 hk];simp only [cond_true,d9s,a4O (h.1.2 _ (d9w hk)),a4Y,d9t hk,bne];cases w.a8[k].Id==(k:Int)<;>cases G0 w.a8[k]<;>rfl
 ·unfold b1i;rw [B0];rfl
theorem b9P{α:Type}{p:List α->List α->Nat->Bool}(hp:∀(a b:List α) (k:Nat) (x y:α),a[k]?=some x->b[k]?=some y->(p a b k=true↔x=y))(a b:List α):(a.length==b.length&&(d9C a.length).all (p a b))=true↔a=b:=by
 constructor
 ·intro h;simp only [d9v,beq_iff_eq,List.all_eq_true,e0m] at h;refine List.ext_getElem h.1 fun i h1 h2 => ?_
  exact (hp a b i _ _ (d9t h1) (d9t h2)).1 (h.2 i h1)
 ·rintro rfl
  simp only [d9v,beq_iff_eq,List.all_eq_true,e0m,true_and];intro k hk;exact (hp a a k _ _ (d9t hk) (d9t hk)).2 rfl
theorem b9C(a b:o7):a41 a b=true↔a=b:=by
 have h1:=b9P (p:=a3I) (fun a b k x y hx hy=>by
  unfold a3I;rw [hx,hy];cases x;cases y;simp) a.b9 b.b9
 have h2:=b9P (p:=a3f) (fun a b k x y hx hy=>by
  unfold a3f;rw [hx,hy];cases x;cases y;simp) a.c6 b.c6
 unfold a41;rw [d9v,h1,d9v,h2,d9v,beq_iff_eq,beq_iff_eq];cases a;cases b;simp
theorem Z2(a b:j8):M4 a b=true↔a=b:=by
 unfold M4;rw [d9v,d9v,b9C];obtain ⟨n,⟨q1,q2⟩,r⟩:=a;obtain ⟨n',⟨q1',q2'⟩,r'⟩:=b;simp [and_assoc]
theorem E0{n lo hi:Int}:n7 n lo hi=true↔lo<=n/\n<=hi:=by unfold n7;simp
theorem c0u{w:j9}(h:C4 w=true):w.a8.length=3/\∀n∈w.a8,G0 n=true:=by
 unfold C4 at h;simp only [d9v,beq_iff_eq,List.all_eq_true,e0m] at h;refine ⟨by omega,fun n hn => ?_⟩;obtain ⟨i,hi,rfl⟩:=d9Y hn;have:=h.2.2.2.2.1 i hi;unfold a4Y at this;rw [d9t hi] at this;simp only [d9v] at this;exact this.2
theorem a8e{n:j5}(h:G0 n=true):n7 n.Id 0 2=true/\Q1 n.Acc=true/\F5 n.a5=true/\a0u n=true/\a4D n=true:=by
 unfold G0 at h;simp only [d9v] at h;exact ⟨h.1,h.2.1,h.2.2.1,h.2.2.2.2.2.1,h.2.2.2.2.2.2.1⟩
theorem c3Y{n:j5}(hId:n7 n.Id 0 2=true)(h:a0u n=true):0<=n.a6/\(n.b5=3->1<=n.a6):=by
 unfold a0u at h;cases h0:n.b5==0
 ·rw [h0] at h;simp only [cond_false,d9v] at h;have:=E0.1 (c1g hId h.1);omega
 ·rw [h0] at h;simp only [cond_true,d9v,beq_iff_eq] at h h0;omega
theorem d3C{l:List p9}(h:A0 16 c1C l):a03 l=some l:=by
 have hb:=h.1;unfold a03;cases hl:((l.length:Int)==0)
 ·rw [cond_false,x9 (by constructor<;>omega),x9 (by simp)]
 ·simp only [beq_iff_eq] at hl;have:l=[]:=d9D (by omega);rw [this];rfl
theorem c9O{l:List n6}(h:A0 16 c1v l):a4P l=some l:=by
 have hb:=h.1;unfold a4P;cases hl:((l.length:Int)==0)
 ·rw [cond_false,x9 (by constructor<;>omega),x9 (by simp)]
 ·simp only [beq_iff_eq] at hl;have:l=[]:=d9D (by omega);rw [this];rfl
theorem a8d{e:j8}(h:J0 e):a3y e=some e:=by
 unfold a3y b69;rw [d3C h.2.1,d9s,c9O h.2.2.1];rfl
theorem d0N{l:List j8}(h:A0 88 J0 l):b2W l=some l:=by
 have hb:=h.1;unfold b2W;cases hl:((l.length:Int)==0)
 ·rw [cond_false,x9 (by constructor<;>omega),x9 (by simp)]
 ·simp only [beq_iff_eq] at hl;have:l=[]:=d9D (by omega);rw [this];rfl
theorem b6Z{l:List j8}(h:A0 88 J0 l):a6c l=some l:=by
 have hf:q9 l:=h.fits (by decide);unfold a6c;rw [d0N h,d9s];have hl:=T8 (body:=fun s:(List j8)×Int=>a8W l s.1 s.2) (fun k=>(l,(k:Int))) l.length (by
  intro k hk;unfold a8W;rw [z5 _ k hk,s7 hk];simp only [cond_true,d9s,a8d (h.2 _ (d9w hk)),E7 hf hk,d96,e05])
 rw [show ((0:Nat):Int)=0 from rfl] at hl;rw [hl,E8 (b:=l)]
 ·rfl
 ·unfold a8W;rw [B0];rfl
def best(w:j9):Nat->Nat
 | 0=>0
 | k+1=>match w.a8[k]?,w.a8[best w k]? with
  | some a,some b=>bif decide ((a.a5.length:Int)>(b.a5.length:Int)) then k else best w k
  | _,_=>best w k
theorem a6L(w:j9):∀k,0<w.a8.length->k<=w.a8.length->best w k<w.a8.length
 | 0,h,_=>h
 | k+1,h,hk=>by
  have hb:=a6L w k h (by omega);unfold best;rw [d9t (show k<w.a8.length by omega),d9t hb];simp only;cases decide ((w.a8[k].a5.length:Int)>(w.a8[best w k].a5.length:Int))
  ·exact hb
  ·exact hk
theorem b9d{w:j9}{k:Nat}(h:0<w.a8.length)(hk:k<w.a8.length):best w (k+1)=bif decide ((w.a8[k].a5.length:Int)>((w.a8[best w k]'(a6L w k h (by omega))).a5.length:Int)) then k else best w k:=by
 conv=>lhs;unfold best
 rw [d9t hk,d9t (a6L w k h (by omega))]
def ist(w:j9):Nat->Int×Int
 | 0=>(-1,0)
 | k+1=>((best w (k+1):Int),((k+1:Nat):Int))
def r8(w:j9):List j8:=match w.a8[best w w.a8.length]? with
 | some n=>n.a5
 | none=>[]
theorem b35{w:j9}(h:Q8 w)(hn:0<w.a8.length):a6e w=some (r8 w):=by
 have hf:q9 w.a8:=h.1.fits (by decide);unfold a6e;have hl:=T8 (body:=fun s:Int×Int=>a2q w s.1 s.2) (ist w) w.a8.length (by
  intro k hk;cases k with
  | zero =>
   show a2q w (-1) 0=some (.nxt ((best w (0+1):Int),((0+1:Nat):Int)))
   unfold a2q b1p;rw [show decide ((0:Int)<(w.a8.length:Int))=true from by simpa using hk,show idx w.a8 0=some w.a8[0] from s7 hk,show best w (0+1)=0 from by rw [b9d hn hk];cases decide ((w.a8[0].a5.length:Int)>(w.a8[best w 0].a5.length:Int))<;>rfl];simp only [cond_true,d9s];have:l9 ((0:Int)+1)=((0+1:Nat):Int):=E7 hf hk;rw [this];rfl
  | succ k =>
   have hb:=a6L w (k+1) hn (by omega);show a2q w (best w (k+1):Int) ((k+1:Nat):Int)=some (.nxt ((best w (k+1+1):Int),((k+1+1:Nat):Int)))
   unfold a2q b1p;rw [z5 _ (k+1) hk,s7 hk,s7 hb,b9d hn hk,show decide ((best w (k+1):Int)<0)=false from by simp];simp only [cond_true,cond_false,d9s,E7 hf hk];cases decide ((w.a8[k+1].a5.length:Int)>(w.a8[best w (k+1)].a5.length:Int))<;>rfl)
 have hbn:=a6L w w.a8.length hn (d9K _);obtain ⟨m,hm⟩:∃m,w.a8.length=m+1:=⟨w.a8.length-1,by omega⟩
 rw [show ist w w.a8.length=((best w w.a8.length:Int),(w.a8.length:Int)) from by rw [hm];rfl] at hl;rw [show p8 (fun s:Int×Int=>a2q w s.1 s.2) ((-1:Int),(0:Int))=_ from hl,E8 (b:=(best w w.a8.length:Int))]
 ·simp only [d9s,l7.go];unfold b4U r8;rw [show decide ((best w w.a8.length:Int)<0)=false from by simp,s7 hbn,d9t hbn];simp only [cond_false,d9s,b6Z (h.1.2 _ (d9w hbn)).2.2.1]
 ·unfold a2q;rw [B0];rfl
theorem c3h{w:j9}(h:Q8 w)(hw:C4 w=true):0<w.a8.length/\A0 88 J0 (r8 w)/\F5 (r8 w)=true:=by
 obtain ⟨h3,hn⟩:=c0u hw;have h0:0<w.a8.length:=by omega
 have hb:=a6L w w.a8.length h0 (d9K _);refine ⟨h0,?_,?_⟩
 ·unfold r8;rw [d9t hb];exact (h.1.2 _ (d9w hb)).2.2.1
 ·unfold r8;rw [d9t hb];exact (a8e (hn _ (d9w hb))).2.2.1
def C9(q:m8)(e:j8):Bool := !e.i6&&(([e.a0.b6,e.a0.Seq]:List Int)==[q.b6,q.Seq])
theorem c32{α R S B:Type}{body:S->Option (j6 R S B)}(st:Nat->S)(l:List α)(is:α->Bool)(r:Nat->R)(b:B)(h1:∀(k:Nat) (h:k<l.length),body (st k)=some (bif is l[k] then .ret (r k) else .nxt (st (k+1))))(h2:body (st l.length)=some (.brk b)) :
  p8 body (st 0)=some (match l.findIdx? is with|some k=>.ret (r k)|none=>.brk b):=by
 rcases a3h (body:=body) st l.length (fun k=>match l[k]? with|some x => !is x|none=>true) r b
  (fun k hk _=>by
   rw [h1 k hk,d9t hk];simp only;cases is l[k]<;>rfl) (fun _=>h2) with ⟨h,hall⟩|⟨k,hk,ho,hb,h⟩
 ·have:l.findIdx? is=none:=by
   rw [e0E];intro x hx;obtain ⟨i,hi,rfl⟩:=d9Y hx;have:=hall i hi;rw [d9t hi] at this;simpa using this
  rw [this];exact h
 ·have:l.findIdx? is=some k:=by
   rw [d90];refine ⟨hk,?_,fun j hj => ?_⟩
   ·rw [d9t hk] at ho;simpa using ho
   ·have:=hb j hj;rw [d9t (show j<l.length by omega)] at this;simpa using this
  rw [this];exact h
theorem a9J{l:List j8}(h:q9 l)(q:m8):a3d l q=some (match l.findIdx? (C9 q) with|some k=>(k:Int)|none => -1):=by
  unfold a3d;rw [show p8 (fun s:Int=>a5W l q s) 0=_ from c32 (body:=fun s:Int=>a5W l q s) (fun k=>(k:Int)) l (C9 q) (fun k=>(k:Int)) () (by
      intro k hk;unfold a5W b7D C9;rw [z5 _ k hk,s7 hk,<-E7 h hk];simp only [cond_true,d9s];cases l[k].i6<;>cases (([l[k].a0.b6,l[k].a0.Seq]:List Int)==[q.b6,q.Seq])<;>rfl) (by
      unfold a5W;rw [B0];rfl)]
  cases l.findIdx? (C9 q)<;>rfl
theorem d1f{l:List j8}(hl:l.length<=40)(he:l.all t9=true){k:Nat}(hk:k<l.length):(m9 l).2[k]?=some (apply (m9 (l.take k)).1 l[k]).2:=by
 have key:∀m,k<m->m<=l.length->(m9 (l.take m)).2[k]?=some (apply (m9 (l.take k)).1 l[k]).2:=by
  intro m;induction m with
  | zero=>omega
  | succ m ih =>
   intro h1 h2;have hlen:=(O9 hl he m (by omega)).2.1;rw [a04 (show m<l.length by omega)];unfold a6y;simp only;by_cases q:k<m
   ·rw [d9L (by omega)];exact ih q (by omega)
   ·have:k=m:=by omega
    subst this;rw [d9H (by omega),hlen];simp
 have:=key l.length hk (d9K _);rwa [d9P] at this
def O5(l:List j8)(k:Nat):Int:=(m9 l).2[k]?.getD 0
def a50(l:List j8)(t:s9):Bool:=match l.findIdx? (C9 t.a0) with
 | some k=>(O5 l k==t.Code)&&((bif t.Code==0 then (match l[k]? with|some e=>e.c7.c8|none=>0) else 0)==t.c8)
 | none=>false
theorem c8z{w:j9}(h:Q8 w)(hw:C4 w=true):a9s w=some (w.Told.all (a50 (r8 w))):=by
 unfold a9s;rw [a3g h,d9s,hw];obtain ⟨h0,hlo,hok⟩:=c3h h hw;obtain ⟨hl,he⟩:=a0S hok;have hf:q9 w.Told:=h.2.2.2.fits (by decide);have hfl:q9 (r8 w):=hlo.fits (by decide);have hcl:(m9 (r8 w)).2.length=(r8 w).length:=by
  have:=(O9 hl he (r8 w).length (d9K _)).2.1;rwa [d9P] at this
 simp only [d9B,cond_false];rw [b35 h h0,d9s,b1D (okEntries.s hlo) hl he,d9s];rw [P3 w.Told hf (a50 (r8 w)) false ()]
 ·cases w.Told.all (a50 (r8 w))<;>rfl
 ·intro k hk;unfold b2X b7O a50;rw [z5 _ k hk,s7 hk];simp only [cond_true,d9s,a9J hfl];cases hfi:(r8 w).findIdx? (C9 w.Told[k].a0) with
  | none=>rfl
  | some i =>
   obtain ⟨hi,_⟩:=d90.1 hfi;simp only;rw [show decide ((i:Int)<0)=false from by simp,s7 (show i<(m9 (r8 w)).2.length by omega),s7 hi,d9t hi];have hco:O5 (r8 w) i=(m9 (r8 w)).2[i]'(by omega):=by unfold O5;rw [d9t (by omega)];rfl
   rw [hco];simp only [cond_false,d9s];cases hc:(m9 (r8 w)).2[i]'(by omega)==w.Told[k].Code
   ·rw [show ((m9 (r8 w)).2[i]'(by omega) != w.Told[k].Code)=true from by rw [bne,hc];rfl];rfl
   ·rw [show ((m9 (r8 w)).2[i]'(by omega) != w.Told[k].Code)=false from by rw [bne,hc];rfl];have hcomm:∀x:Int,(w.Told[k].c8==x)=(x==w.Told[k].c8):=fun x=>by
     rw [e0z,beq_iff_eq,beq_iff_eq];exact eq_comm
    cases w.Told[k].Code==0<;>simp only [cond_true,cond_false,d9s,l7.go,bne,d9Q,d9B,hcomm]<;>(cases (_:Int)==w.Told[k].c8<;>rfl)
 ·unfold b2X;rw [B0];rfl
theorem b30{α B R:Type}{body:Int->Option (j6 R Int B)}(l:List α)(hl:q9 l)(ok:α->Bool)(v:R)(b:B)(h1:∀(k:Nat) (h:k<l.length),body (k:Int)=some (bif ok l[k] then .nxt (l9 ((k:Int)+1)) else .ret v))(h2:body (l.length:Int)=some (.brk b)):p8 body 0=some (bif l.all ok then .brk b else .ret v):=by
 have h:=a3h (body:=body) (fun k=>(k:Int)) l.length (fun k=>match l[k]? with|some x=>ok x|none=>true) (fun _=>v) b
  (fun k hk _=>by
   have:=h1 k hk;rw [E7 hl hk] at this;simpa [d9t hk] using this) (fun _=>h2)
 rcases h with ⟨h,hall⟩|⟨k,hk,ho,_,h⟩
 ·have:l.all ok=true:=by
   rw [List.all_eq_true];intro x hx;obtain ⟨i,hi,rfl⟩:=d9Y hx;have:=hall i hi;simpa [d9t hi] using this
  rw [this];exact h
 ·have:l.all ok=false:=by
   rw [e00];refine ⟨l[k],d9w hk,?_⟩;simpa [d9t hk] using ho
  rw [this];exact h
theorem a8h{l:List p9}(h:l.length<=1000):a03 l=some l:=by
 unfold a03;cases hl:((l.length:Int)==0)
 ·rw [cond_false,x9 (by constructor<;>omega),x9 (by simp)]
 ·simp only [beq_iff_eq] at hl;have:l=[]:=d9D (by omega);rw [this];rfl
theorem c9Y{l:List n6}(h:l.length<=1000):a4P l=some l:=by
 unfold a4P;cases hl:((l.length:Int)==0)
 ·rw [cond_false,x9 (by constructor<;>omega),x9 (by simp)]
 ·simp only [beq_iff_eq] at hl;have:l=[]:=d9D (by omega);rw [this];rfl
def U2(ps:List n6)(b:Int):Option Nat:=ps.findIdx? (·.g8==b)
def atI:Option Nat->Int
 | some k=>(k:Int)
 | none => -1
theorem c2f{x:o7}(h:q9 x.c6)(b:Int):a87 x b=some (atI (U2 x.c6 b)):=by
 unfold a87;rw [show (0:Int)=((0:Nat):Int) from rfl,c32 (body:=fun s:Int=>a7L x b s) (fun k=>(k:Int)) x.c6 (·.g8==b) (fun k=>(k:Int)) ()]
 ·unfold U2;cases x.c6.findIdx? (·.g8==b)<;>rfl
 ·intro k hk;unfold a7L;rw [z5 _ k hk,s7 hk,E7 h hk];simp only [cond_true,d9s];cases x.c6[k].g8==b<;>rfl
 ·unfold a7L;rw [B0];rfl
theorem b5F{ps:List n6}{b:Int}{k:Nat}(h:U2 ps b=some k):k<ps.length:=by
 obtain ⟨hk,_⟩:=d90.1 h;exact hk
theorem b76(k:Nat):decide (atI (some k)>=0)=true:=by simp [atI]
theorem c1F:decide (atI none>=0)=false:=by simp [atI]
theorem d3A{x:o7}(h:q9 x.b9)(b:Int):∃v,a8R x b=some v/\decide (v<0) = !(G9 x.b9 b):=by
 obtain ⟨v,h1,h2⟩:=d0m h b;refine ⟨v,h1,?_⟩;rw [<-h2];by_cases q:v>=0
 ·have:¬v<0:=by omega
  simp [q,this]
 ·have:v<0:=by omega
  simp [q,this]
def H7(v:Int):Bool:=n7 v (-1000000) 1000000
def L1(regs:List Int)(a:Int):Int:=regs.getD a.toNat 0
theorem Y5{regs:List Int}(h:regs.length=4){a:Int}(ha:0<=a/\a<=3):idx regs a=some (L1 regs a):=by
 obtain ⟨k,rfl⟩:=Int.eq_ofNat_of_zero_le ha.1;have hk:k<regs.length:=by omega
 rw [s7 hk];unfold L1;simp [hk]
theorem a4n{regs:List Int}(h:regs.length=4)(hr:regs.all H7=true){a:Int}(ha:0<=a/\a<=3):-1000000<=L1 regs a/\L1 regs a<=1000000:=by
 have hi:=Y5 h ha;have hm:L1 regs a∈regs:=d9G (b16 hi).2.2;have:=List.all_eq_true.1 hr _ hm;simpa [H7,n7] using this
structure EI(regs:List Int)(rs:List p9)(ps:List n6)(k:Nat):Prop where
 len:regs.length=4
 rng:regs.all H7=true
 rl:rs.length<=k
 pl:ps.length<=k
theorem EI.fr{regs:List Int}{rs:List p9}{ps:List n6}{k:Nat}(h:EI regs rs ps k)(hk:k<=100):q9 rs:=by
 have:=h.rl;unfold q9;omega
theorem EI.fp{regs:List Int}{rs:List p9}{ps:List n6}{k:Nat}(h:EI regs rs ps k)(hk:k<=100):q9 ps:=by
 have:=h.pl;unfold q9;omega
def C7(l:List m5)(i:m7)(regs:List Int)(rs:List p9)(ps:List n6):List Int×List p9×List n6 :=
 bif i.a7==1 then (match U2 ps i.B with
  | some k=>(match ps[k]? with
   | some p=>(regs.set i.A.toNat p.c8,rs,ps)
   | none=>(regs,rs,ps))
  | none=>match l[i.B.toNat]? with
   | some b=>(regs.set i.A.toNat b.c8,bif G9 rs i.B then rs else rs++[⟨i.B,b.i7⟩],ps)
   | none=>(regs,rs,ps))
 else bif i.a7==2 then (regs,rs,match U2 ps i.A with
  | some k=>(match ps[k]? with
   | some p=>ps.set k ⟨p.g8,L1 regs i.B⟩
   | none=>ps)
  | none=>ps++[⟨i.A,L1 regs i.B⟩])
 else bif i.a7==3 then (regs.set i.A.toNat i.N,rs,ps)
 else bif i.a7==4 then (regs.set i.A.toNat (L1 regs i.A+L1 regs i.B),rs,ps)
 else bif i.a7==5 then (regs.set i.A.toNat (L1 regs i.A-L1 regs i.B),rs,ps)
 else (regs,rs,ps)
def O6(l:List m5)(prog:List m7):Nat->Nat->List Int->List p9->List n6->o7
 | 0,_,regs,rs,ps=>⟨rs,ps,L1 regs 0,0⟩
 | f+1,k,regs,rs,ps=>match prog[k]? with
  | none=>⟨rs,ps,L1 regs 0,0⟩
  | some i=>bif i.a7==6 then O6 l prog f (bif decide (L1 regs i.A<L1 regs i.B) then k+i.N.toNat+1 else k+1) regs rs ps
   else bif i.a7==7 then ⟨rs,[],0,1⟩
   else bif (C7 l i regs rs ps).1.all H7 then O6 l prog f (k+1) (C7 l i regs rs ps).1 (C7 l i regs rs ps).2.1 (C7 l i regs rs ps).2.2
   else ⟨(C7 l i regs rs ps).2.1,[],0,2⟩
def B2(l:List m5)(prog:List m7):o7:=bif B7 l&&C3 prog then O6 l prog (prog.length+1) 0 [0,0,0,0] [] [] else ⟨[],[],0,3⟩
section
variable {l:List m5} {regs:List Int} {rs:List p9} {ps:List n6} {k:Nat} {i:m7}
theorem c0W(h:regs.length=4):(C7 l i regs rs ps).1.length=4:=by
 unfold C7;cases i.a7==1<;>cases i.a7==2<;>cases i.a7==3<;>cases i.a7==4<;>cases i.a7==5<;>simp only [cond_true,cond_false,d94,h]
 all_goals
  split
  ·split<;>simp [h]
  ·split<;>simp [h]
theorem b8Y(h:rs.length<=k):(C7 l i regs rs ps).2.1.length<=k+1:=by
 unfold C7;cases i.a7==1<;>cases i.a7==2<;>cases i.a7==3<;>cases i.a7==4<;>cases i.a7==5<;>simp only [cond_true,cond_false]<;>try omega
 all_goals
  split
  ·split<;>(simp only;omega)
  ·split
   ·cases G9 rs i.B<;>simp only [cond_true,cond_false,d9E,e0q]<;>omega
   ·simp only;omega
theorem b84(h:ps.length<=k):(C7 l i regs rs ps).2.2.length<=k+1:=by
 unfold C7;cases i.a7==1<;>cases i.a7==2<;>cases i.a7==3<;>cases i.a7==4<;>cases i.a7==5<;>simp only [cond_true,cond_false]<;>try omega
 all_goals (repeat' split)
 all_goals (try simp only [d94,d9E,e0q])
 all_goals omega
theorem EI.next(h:EI regs rs ps k)(ha:(C7 l i regs rs ps).1.all H7=true):EI (C7 l i regs rs ps).1 (C7 l i regs rs ps).2.1 (C7 l i regs rs ps).2.2 (k+1) :=
 ⟨c0W h.len,ha,b8Y h.rl,b84 h.pl⟩
theorem c0H{x:Int}(h:-1000000<=x/\x<=1000000){y:Int}(h':-1000000<=y/\y<=1000000):l9 (x+y)=x+y/\l9 (x-y)=x-y:=⟨C8 (by omega) (by omega),C8 (by omega) (by omega)⟩
theorem c8X(l:List m5){prog:List m7}{f k:Nat}{regs:List Int}{rs:List p9}{ps:List n6}(h:prog.length<=k):O6 l prog f k regs rs ps=⟨rs,ps,L1 regs 0,0⟩:=by
 cases f with
 | zero=>rfl
 | succ f =>
  unfold O6;rw [d9U h]
theorem c2x{prog:List m7}(hp:C3 prog=true):prog.length<=10/\∀i∈prog,K6 i=true:=by
 unfold C3 at hp;simpa using hp
theorem ei0:EI [0,0,0,0] [] [] 0:=⟨rfl,by decide,by simp,by simp⟩
theorem d1Y{regs:List Int}{Reads1:List p9}{ins:m7}{put1:n6}(h:regs.length=4)(hr:Reads1.length<=1000):p8 (fun s:Int=>a7W regs Reads1 ins put1 s) 0=some (bif (regs.set ins.A.toNat put1.c8).all H7 then .brk () else .ret ⟨Reads1,[],0,2⟩):=by
 have hl:(regs.set ins.A.toNat put1.c8).length=4:=by simpa using h
 refine b30 (regs.set ins.A.toNat put1.c8) (by unfold q9;omega) H7 _ () (fun k hk => ?_) ?_
 ·have hk4:(k:Int)<4:=by omega
  unfold a7W;rw [decide_eq_true hk4,s7 hk,cond_true,d9s,x9 hk4,I4,d9s,a8h hr];unfold H7;cases n7 (regs.set ins.A.toNat put1.c8)[k] (-1000000) 1000000<;>rfl
 ·unfold a7W;rw [hl];rfl
theorem c3U{regs:List Int}{Reads1:List p9}{ins:m7}{box:m5}(h:regs.length=4)(hr:Reads1.length<=1000):p8 (fun s:Int=>a9z regs ins Reads1 box s) 0=some (bif (regs.set ins.A.toNat box.c8).all H7 then .brk () else .ret ⟨Reads1,[],0,2⟩):=by
 have hl:(regs.set ins.A.toNat box.c8).length=4:=by simpa using h
 refine b30 (regs.set ins.A.toNat box.c8) (by unfold q9;omega) H7 _ () (fun k hk => ?_) ?_
 ·have hk4:(k:Int)<4:=by omega
  unfold a9z;rw [decide_eq_true hk4,s7 hk,cond_true,d9s,x9 hk4,I4,d9s,a8h hr];unfold H7;cases n7 (regs.set ins.A.toNat box.c8)[k] (-1000000) 1000000<;>rfl
 ·unfold a9z;rw [hl];rfl
theorem b7U{regs:List Int}{Reads1:List p9}(h:regs.length=4)(hr:Reads1.length<=1000):p8 (fun s:Int=>a7K Reads1 regs s) 0=some (bif regs.all H7 then .brk () else .ret ⟨Reads1,[],0,2⟩):=by
 refine b30 regs (by unfold q9;omega) H7 _ () (fun k hk => ?_) ?_
 ·have hk4:(k:Int)<4:=by omega
  unfold a7K;rw [decide_eq_true hk4,s7 hk,cond_true,d9s,x9 hk4,I4,d9s,a8h hr];unfold H7;cases n7 regs[k] (-1000000) 1000000<;>rfl
 ·unfold a7K;rw [h];rfl
theorem d4s(hl:B7 l=true)(he:EI regs rs ps k)(hk:k<=100){prog:List m7}(hkl:k<prog.length)(hpl:prog.length<=10)(R:List p9)(P:List n6)(hi:K6 prog[k]=true)(h6:prog[k].a7≠6)(h7:prog[k].a7≠7) :
  a07 l prog regs R P rs ps (k:Int)=some (bif (C7 l prog[k] regs rs ps).1.all H7 then .nxt ((C7 l prog[k] regs rs ps).1,R,P,(C7 l prog[k] regs rs ps).2.1,(C7 l prog[k] regs rs ps).2.2,((k+1:Nat):Int)) else .ret ⟨(C7 l prog[k] regs rs ps).2.1,[],0,2⟩):=by
 have hfr:=he.fr hk;have hfp:=he.fp hk;have hrl:=he.rl;have hpl:=he.pl;have n1:(rs.length+1)*16<=140737488355328:=by omega
 have n2:(ps.length+1)*16<=140737488355328:=by omega
 have hw:l9 ((k:Int)+1)=((k+1:Nat):Int):=by rw [C8 (by omega) (by omega)];rfl
 have fin:∀(regs':List Int) (ps':List n6),regs'.length=4->a6k R P rs regs' ps' (k:Int)=some (bif regs'.all H7 then .nxt (regs',R,P,rs,ps',((k+1:Nat):Int)) else .ret ⟨rs,[],0,2⟩):=by
  intro regs' ps' h;unfold a6k a8P;rw [b7U h (by omega),hw];cases regs'.all H7<;>rfl
 have hset:∀(a:Nat) (v:Int),(regs.set a v).length=4:=fun a v=>by simpa using he.len
 unfold a07 C7;generalize hin:prog[k]=i at hi h6 h7;rw [z5 _ k hkl,s7 hkl,hin,cond_true,d9s];rcases c1h hi with ⟨h,ha,hb⟩|⟨h,ha,hb⟩|⟨h,ha,hn⟩|⟨h,ha,hb⟩|⟨h,ha,hb⟩|⟨h,_⟩|⟨h,_⟩
 ·have na:i.A<4:=by omega
  simp only [h,show ((1:Int)==1)=true from rfl,cond_true];rw [c2f (x:=⟨rs,ps,0,0⟩) hfp,d9s];simp only;cases hp:U2 ps i.B with
  | some j =>
   have hj:=b5F hp;simp only [b76,cond_true,d9t hj];simp only [atI,s7 hj,d9s,Y5 he.len ha];rw [x9 na,d1Y he.len (by omega)];unfold b5O;rw [hw];cases (regs.set i.A.toNat ps[j].c8).all H7<;>rfl
  | none =>
   obtain ⟨b,hb1,hb2,_⟩:=a5S hl hb;obtain ⟨v,hv1,hv2⟩:=d3A (x:=⟨rs,ps,0,0⟩) hfr i.B;simp only [c1F,cond_false,hv1,hv2,d9s,hb1,hb2,x9 n1];cases hs:G9 rs i.B
   ·simp only [d9W,cond_true,cond_false,d9s,l7.go];unfold b1z b2T;rw [hb1,d9s,Y5 he.len ha,d9s,x9 na,c3U he.len (by simp;omega),hw];cases (regs.set i.A.toNat b.c8).all H7<;>rfl
   ·simp only [d9B,cond_true,cond_false,d9s,l7.go];unfold b1z b2T;rw [hb1,d9s,Y5 he.len ha,d9s,x9 na,c3U he.len (by omega),hw];cases (regs.set i.A.toNat b.c8).all H7<;>rfl
 ·have nb:i.B<4:=by omega
  simp only [h,show ((2:Int)==1)=false from rfl,show ((2:Int)==2)=true from rfl,cond_true,cond_false];rw [c2f (x:=⟨rs,ps,0,0⟩) hfp,d9s];simp only;cases hp:U2 ps i.A with
  | some j =>
   have hj:=b5F hp;simp only [b76,cond_true,d9t hj];simp only [atI,s7 hj,d9s,Y5 he.len hb,d96];rw [x9 nb];simp only [d9s,l7.go];exact fin _ _ he.len
  | none =>
   simp only [c1F,cond_false,d9s,Y5 he.len hb];rw [x9 nb,x9 n2];simp only [d9s,l7.go];exact fin _ _ he.len
 ·have na:i.A<4:=by omega
  simp only [h,show ((3:Int)==1)=false from rfl,show ((3:Int)==2)=false from rfl,show ((3:Int)==3)=true from rfl,cond_true,cond_false,Y5 he.len ha,d9s];rw [x9 na];simp only [d9s,l7.go];exact fin _ _ (hset _ _)
 ·have na:i.A<4:=by omega
  have nb:i.B<4:=by omega
  simp only [h,show ((4:Int)==1)=false from rfl,show ((4:Int)==2)=false from rfl,show ((4:Int)==3)=false from rfl,show ((4:Int)==4)=true from rfl,cond_true,cond_false,Y5 he.len ha,Y5 he.len hb,d9s,(c0H (a4n he.len he.rng ha) (a4n he.len he.rng hb)).1,x9 na,x9 nb,l7.go];exact fin _ _ (hset _ _)
 ·have na:i.A<4:=by omega
  have nb:i.B<4:=by omega
  simp only [h,show ((5:Int)==1)=false from rfl,show ((5:Int)==2)=false from rfl,show ((5:Int)==3)=false from rfl,show ((5:Int)==4)=false from rfl,show ((5:Int)==5)=true from rfl,cond_true,cond_false,Y5 he.len ha,Y5 he.len hb,d9s,(c0H (a4n he.len he.rng ha) (a4n he.len he.rng hb)).2,x9 na,x9 nb,l7.go];exact fin _ _ (hset _ _)
 ·exact absurd h h6
 ·exact absurd h h7
theorem d3S(hl:B7 l=true){prog:List m7}(hp:C3 prog=true)(R:List p9)(P:List n6):∀(f k:Nat) (regs:List Int) (rs:List p9) (ps:List n6),EI regs rs ps k->prog.length<k+f->k<=prog.length+10->
  ((p8 (fun s:(List Int)×(List p9)×(List n6)×(List p9)×(List n6)×Int=>a07 l prog s.1 s.2.1 s.2.2.1 s.2.2.2.1 s.2.2.2.2.1 s.2.2.2.2.2) (regs,R,P,rs,ps,(k:Int))).bind fun x=>x.go (fun r=>some r) fun s=>a8J s.1 s.2.1 s.2.2.1 s.2.2.2.1 s.2.2.2.2)=some (O6 l prog f k regs rs ps):=by
 obtain ⟨hlen,hins⟩:=c2x hp;have stop:∀(k:Nat) (regs:List Int) (rs:List p9) (ps:List n6),EI regs rs ps k->prog.length<=k->k<=prog.length+10->((p8 (fun s:(List Int)×(List p9)×(List n6)×(List p9)×(List n6)×Int=>a07 l prog s.1 s.2.1 s.2.2.1 s.2.2.2.1 s.2.2.2.2.1 s.2.2.2.2.2) (regs,R,P,rs,ps,(k:Int))).bind fun x=>x.go (fun r=>some r) fun s=>a8J s.1 s.2.1 s.2.2.1 s.2.2.2.1 s.2.2.2.2)=some ⟨rs,ps,L1 regs 0,0⟩:=by
  intro k regs rs ps he h1 h2;have h3:=he.rl;have h4:=he.pl;rw [E8 (b:=(R,P,regs,rs,ps))]
  ·simp only [d9s,l7.go];unfold a8J;rw [a8h (by omega),d9s,c9Y (by omega),d9s,Y5 he.len (a:=0) (by omega),d9s,x9 (by decide)]
  ·unfold a07;rw [show decide ((k:Int)<(prog.length:Int))=false from by simp;omega];rfl
 intro f;induction f with
 | zero =>
  intro k regs rs ps he hf hk;exact stop k regs rs ps he (by omega) hk
 | succ f ih =>
  intro k regs rs ps he hf hk;by_cases hlt:k<prog.length
  ·have hi:=hins _ (d9w hlt);unfold O6;rw [d9t hlt];simp only;by_cases h6:prog[k].a7=6
   ·obtain ⟨ha,hb,hn⟩:(0<=prog[k].A/\prog[k].A<=3)/\(0<=prog[k].B/\prog[k].B<=3)/\1<=prog[k].N/\prog[k].N<=10:=by
     rcases c1h hi with ⟨h,_⟩|⟨h,_⟩|⟨h,_⟩|⟨h,_⟩|⟨h,_⟩|⟨h,x⟩|⟨h,_⟩
     all_goals first|(exact x)|(exfalso;omega)
    have hrl:=he.rl;have hb1:a07 l prog regs R P rs ps (k:Int)=some (.nxt (regs,R,P,rs,ps,((bif decide (L1 regs prog[k].A<L1 regs prog[k].B) then k+prog[k].N.toNat+1 else k+1:Nat):Int))):=by
     have na:prog[k].A<4:=by omega
     have nb:prog[k].B<4:=by omega
     unfold a07;rw [z5 _ k hlt,s7 hlt];simp only [cond_true,d9s,h6,show ((6:Int)==1)=false from rfl,show ((6:Int)==2)=false from rfl,show ((6:Int)==3)=false from rfl,show ((6:Int)==4)=false from rfl,show ((6:Int)==5)=false from rfl,show ((6:Int)==6)=true from rfl,cond_false,Y5 he.len ha,Y5 he.len hb,x9 na,x9 nb];cases decide (L1 regs prog[k].A<L1 regs prog[k].B)
     ·simp only [cond_false,d9s,l7.go];unfold a6k a8P;rw [b7U he.len (by omega),he.rng,C8 (by omega) (by omega)];rfl
     ·simp only [cond_true,d9s,l7.go];unfold a6k a8P;rw [b7U he.len (by omega),he.rng,C8 (n:=(k:Int)+prog[k].N) (by omega) (by omega),C8 (by omega) (by omega),show ((k+prog[k].N.toNat+1:Nat):Int)=(k:Int)+prog[k].N+1 from by omega];rfl
    rw [I7 hb1,h6];simp only [show ((6:Int)==6)=true from rfl,cond_true];refine ih _ _ _ _ ⟨he.len,he.rng,?_,?_⟩ ?_ ?_;all_goals
     have h1:=he.rl;have h2:=he.pl;cases decide (L1 regs prog[k].A<L1 regs prog[k].B)<;>simp only [cond_true,cond_false]<;>omega
   by_cases h7:prog[k].a7=7
   ·have hrl:=he.rl;have hb1:a07 l prog regs R P rs ps (k:Int)=some (.ret ⟨rs,[],0,1⟩):=by
     unfold a07;rw [z5 _ k hlt,s7 hlt];simp only [cond_true,d9s,h7,show ((7:Int)==1)=false from rfl,show ((7:Int)==2)=false from rfl,show ((7:Int)==3)=false from rfl,show ((7:Int)==4)=false from rfl,show ((7:Int)==5)=false from rfl,show ((7:Int)==6)=false from rfl,show ((7:Int)==7)=true from rfl,cond_false];rw [a8h (by omega)];rfl
    rw [a0f hb1,h7];rfl
   ·have hb1:=d4s hl he (by omega) hlt hlen R P hi h6 h7;rw [show (prog[k].a7==6)=false from by simpa using h6,show (prog[k].a7==7)=false from by simpa using h7,cond_false,cond_false];cases hall:(C7 l prog[k] regs rs ps).1.all H7
    ·rw [hall,cond_false] at hb1;rw [a0f hb1];rfl
    ·rw [hall,cond_true] at hb1;rw [I7 hb1,cond_true];exact ih _ _ _ _ (he.next hall) (by omega) (by omega)
  ·rw [c8X l (by omega)];exact stop k regs rs ps he (by omega) hk
theorem c5I{l:List m5}{prog:List m7}(hl:q9 l)(hp:q9 prog):a7R l prog=some (B2 l prog):=by
 unfold a7R B2;rw [a9i hl,d9s,a85 hp,d9s];cases hb:B7 l
 ·rfl
 cases ho:C3 prog
 ·rfl
 rw [d9B,cond_false,cond_false];exact d3S hb ho [] [] (prog.length+1) 0 [0,0,0,0] [] [] ei0 (by omega) (by omega)
end
theorem c28{l:List j8}(hl:l.length<=40)(he:l.all t9=true){k:Nat}(hk:k<=l.length):(told l (m9 l).2 k).length<=40:=by
 obtain ⟨_,hlen,hc⟩:=O9 hl he l.length (d9K _);rw [d9P] at hlen hc;have h1:=b27 hlen k hk;have h2:=b7P ((m9 l).2.take k) 0;rw [d93] at h2;omega
theorem d3o(l:List j8):q9 (z9 l):=by
 unfold z9;cases hok:F5 l
 ·simp [q9]
 ·obtain ⟨hl,he⟩:=a0S hok;have:=c28 hl he (d9K _);show q9 (told l (m9 l).2 l.length)
  unfold q9;omega
def I2(l:List m5)(p:List m7):List m5×Int×Int:=bif (B2 l p).Code==3 then ([],0,3) else (Y9 l (B2 l p).c6,(B2 l p).c8,(B2 l p).Code)
theorem c8A{l:List m5}{i:m7}{regs:List Int}{rs:List p9}{ps:List n6}(hl:B7 l=true)(h4:regs.length=4)(hr:regs.all H7=true)(hi:K6 i=true)(h1:a2a rs=true)(h2:a0m ps=true):a2a (C7 l i regs rs ps).2.1=true/\a0m (C7 l i regs rs ps).2.2=true:=by
 unfold C7;cases k1:i.a7==1
 ·simp only [cond_false];cases k2:i.a7==2
  ·simp only [cond_false];cases i.a7==3
   ·cases i.a7==4
    ·cases i.a7==5<;>exact ⟨h1,h2⟩
    ·exact ⟨h1,h2⟩
   ·exact ⟨h1,h2⟩
  ·simp only [cond_true];unfold K6 at hi;rw [k1,k2] at hi;simp only [cond_true,cond_false,d9v,E0] at hi;have hv:=a4n h4 hr hi.2.1;refine ⟨h1,?_⟩;cases hp:U2 ps i.A with
   | some k =>
    have hk:=b5F hp;simp only [d9t hk];exact d6h h2 hk hv
   | none =>
    simp only;refine d3b h2 ⟨hi.1.1,hi.1.2,hv⟩ ?_;unfold H3;rw [d95];intro x hx;have:=e0E.1 hp x hx;simpa using this
 ·simp only [cond_true];unfold K6 at hi;rw [k1] at hi;simp only [cond_true,d9v,E0] at hi;cases U2 ps i.B with
  | some k =>
   simp only;cases ps[k]?<;>exact ⟨h1,h2⟩
  | none =>
   simp only;cases hb:l[i.B.toNat]? with
   | none=>exact ⟨h1,h2⟩
   | some b =>
    simp only;cases hs:G9 rs i.B
    ·obtain ⟨b',b1,_,b3⟩:=a5S hl hi.2.1;unfold idx at b1;rw [if_pos hi.2.1.1,hb] at b1;injection b1 with b1;subst b1;rw [b00] at b3;exact ⟨d2V h1 ⟨hi.2.1.1,hi.2.1.2,b3.1⟩ hs,h2⟩
    ·exact ⟨h1,h2⟩
theorem b6x{l:List m5}(hl:B7 l=true){prog:List m7}(hi:∀i∈prog,K6 i=true):∀(f k c:Nat) (regs:List Int) (rs:List p9) (ps:List n6),regs.length=4->regs.all H7=true->a2a rs=true->a0m ps=true->rs.length<=c->ps.length<=c->c+f<=40->Ran (O6 l prog f k regs rs ps)
 | 0,k,c,regs,rs,ps,h4,hr,h1,h2,h5,h6,h7=>by
  have w:Way ⟨rs,ps,0,0⟩ 40:=⟨rfl,h1,h2,by simp only;omega,by simp only;omega⟩
  exact a92 w (by omega) (.inl rfl) (fun _=>a4n h4 hr (a:=0) ⟨by omega,by omega⟩)
 | f+1,k,c,regs,rs,ps,h4,hr,h1,h2,h5,h6,h7=>by
  have w:∀c,Way ⟨rs,ps,0,c⟩ 40:=fun c=>⟨rfl,h1,h2,by simp only;omega,by simp only;omega⟩
  unfold O6;cases hk:prog[k]? with
  | none=>exact a92 (w 0) (by omega) (.inl rfl) (fun _=>a4n h4 hr (a:=0) ⟨by omega,by omega⟩)
  | some i =>
   have hin:=hi i (d9G hk);simp only;cases i.a7==6
   ·cases i.a7==7
    ·obtain ⟨a1,a2⟩:=c8A hl h4 hr hin h1 h2;have l4:=c0W (l:=l) (i:=i) (rs:=rs) (ps:=ps) h4;have lr:=b8Y (l:=l) (i:=i) (regs:=regs) (ps:=ps) h5;have lp:=b84 (l:=l) (i:=i) (regs:=regs) (rs:=rs) h6;simp only [cond_false];cases ha:(C7 l i regs rs ps).1.all H7
     ·have w2:Way ⟨(C7 l i regs rs ps).2.1,(C7 l i regs rs ps).2.2,0,2⟩ 40:=⟨rfl,a1,a2,by simp only;omega,by simp only;omega⟩
      exact a92 w2 (by omega) (.inr (.inr rfl)) (v:=0) (fun q=>absurd (show (2:Int)=0 from q) (by decide))
     ·exact b6x hl hi f (k+1) (c+1) _ _ _ l4 ha a1 a2 lr lp (by omega)
    ·exact a92 (w 1) (by omega) (.inr (.inl rfl)) (v:=0) (fun q=>absurd (show (1:Int)=0 from q) (by decide))
   ·exact b6x hl hi f _ c _ _ _ h4 hr h1 h2 h5 h6 (by omega)
theorem b59{l:List m5}{p:List m7}(hl:B7 l=true)(hp:q9 p):Ran (B2 l p):=by
 unfold B2;rw [hl,d9Q];cases hpo:C3 p
 ·exact (⟨by decide,by simp,by simp⟩:Ran ⟨[],[],0,3⟩)
 unfold C3 at hpo;simp only [d9v,decide_eq_true_eq] at hpo;exact b6x hl (List.all_eq_true.1 hpo.2) _ 0 0 _ [] [] rfl (by decide) rfl rfl (by simp) (by simp) (by omega)
theorem Ran.f{r:o7}(h:Ran r):a26 r:=by
 have h1:=h.rlen;have h2:=h.plen;exact ⟨⟨by omega,fun _ _=>trivial⟩,⟨by omega,fun _ _=>trivial⟩,trivial⟩
theorem Ran.puts{r:o7}(h:Ran r):∀p∈r.c6,Z3 p:=by
 have:=h.ok;rw [a6n] at this;simp only [d9v] at this;exact (a8M.1 this.2.2.2.2.2).1
theorem d8a{l:List m5}{p:List m7}(hl:B7 l=false):(B2 l p).Code=3:=by
 unfold B2;rw [hl];rfl
theorem c9I{l:List m5}{p:List m7}(hl:q9 l)(hp:q9 p):b18 l p=some (I2 l p):=by
 unfold b18 I2;rw [c5I hl hp,d9s];cases hc:(B2 l p).Code==3
 ·have hb:B7 l=true:=by
   cases hb:B7 l
   ·rw [d8a hb] at hc;cases hc
   ·rfl
  have hr:=b59 hb hp;simp only [cond_false,d9s,c5h hb hr.f hr.ok]
 ·rfl
theorem b9V{l:List m5}{p:List m7}(hl:B7 l=true)(hp:q9 p)(h:((I2 l p).2.2==3)=false):B7 (I2 l p).1=true:=by
 have hr:=b59 hl hp;unfold I2 at h ⊢;cases hc:(B2 l p).Code==3
 ·rw [cond_false];exact b13 hl hr.puts
 ·rw [hc,cond_true] at h;cases h
def a1u:List (List m7)->List m5->List Int->List m5×List Int
 | [],b,vs=>(b,vs)
 | p::ps,b,vs=>bif (I2 b p).2.2==3 then ([],[]) else a1u ps (I2 b p).1 (vs++[(I2 b p).2.1])
def I6(l:List m5)(progs:List (List m7)):List m5×List Int:=bif B7 l&&decide (progs.length<=100) then a1u progs l [] else ([],[])
theorem c9Z{l:List Int}(h:l.length<=1000):b12 l=some l:=by
 unfold b12;cases hl:((l.length:Int)==0)
 ·rw [cond_false,x9 (by constructor<;>omega),x9 (by simp)]
 ·simp only [beq_iff_eq] at hl;have:l=[]:=d9D (by omega);rw [this];rfl
theorem c6J{progs:List (List m7)}(hp:∀p∈progs,q9 p)(hn:progs.length<=100):∀(m k:Nat) (b:List m5) (vs:List Int),k+m=progs.length->B7 b=true->vs.length=k->
  ((p8 (fun s:(List Int)×Int×List m5=>a58 progs s.1 s.2.1 s.2.2) (vs,(k:Int),b)).bind fun x=>x.go (fun r=>some r) fun s=>b0f s.1 s.2)=some (a1u (progs.drop k) b vs):=by
 intro m;induction m with
 | zero =>
  intro k b vs hk hb hv;have:k=progs.length:=by omega
  subst this;rw [List.drop_length,E8 (b:=(vs,b))]
  ·simp only [d9s,l7.go];unfold b0f;rw [c9Z (by omega)];rfl
  ·unfold a58;simp only [B0];rfl
 | succ m ih =>
  intro k b vs hk hb hv;have hlt:k<progs.length:=by omega
  have hpk:=hp _ (d9w hlt);have n1:(vs.length+1)*8<=140737488355328:=by omega
  have hw:l9 ((k:Int)+1)=((k+1:Nat):Int):=by rw [C8 (by omega) (by omega)];rfl
  have hb1:a58 progs vs (k:Int) b=some (bif (I2 b progs[k]).2.2==3 then .ret ([],[]) else .nxt (vs++[(I2 b progs[k]).2.1],((k+1:Nat):Int),(I2 b progs[k]).1)):=by
   unfold a58;simp only [z5 _ k hlt,s7 hlt,cond_true,d9s,c9I (a5L hb) hpk,x9 n1,hw];cases (I2 b progs[k]).2.2==3<;>rfl
  rw [d97 hlt];unfold a1u;cases hc:(I2 b progs[k]).2.2==3
  ·rw [hc,cond_false] at hb1;rw [I7 hb1,cond_false];exact ih (k+1) _ _ (by omega) (b9V hb hpk hc) (by simp;omega)
  ·rw [hc,cond_true] at hb1;rw [a0f hb1];rfl
theorem d1O{l:List m5}{progs:List (List m7)}(hl:q9 l)(hp:∀p∈progs,q9 p):b0s l progs=some (I6 l progs):=by
 unfold b0s I6;rw [a9i hl,d9s];cases hb:B7 l
 ·rfl
 rw [d9B,cond_false,d9Q];by_cases hn:progs.length<=100
 ·have h1:¬((progs.length:Int)>100):=by omega
  rw [decide_eq_false h1,cond_false,decide_eq_true hn,cond_true,b6O (by rw [a43 hb];decide),d9s];have:=c6J hp hn progs.length 0 l [] (by omega) hb rfl;rwa [e0T] at this
 ·have h1:(progs.length:Int)>100:=by omega
  rw [decide_eq_true h1,decide_eq_false hn];rfl
def b1q(w:j9)(q:m8):Option D5:=w.f0.find? fun a=>(([a.a0.b6,a.a0.Seq]:List Int)==[q.b6,q.Seq])
def R7(w:j9)(q:m8):List m7×Bool:=match b1q w q with
 | some a=>(a.i5,true)
 | none=>([],false)
theorem d1N{l:List m7}(h:l.length*32<=140737488351232):a4U l=some l:=by
 unfold a4U;cases hl:((l.length:Int)==0)
 ·rw [cond_false,x9 (by constructor<;>omega),x9 (by simp)]
 ·simp only [beq_iff_eq] at hl;have:l=[]:=d9D (by omega);rw [this];rfl
theorem c3s{w:j9}(h:Q8 w){a:D5}(ha:a∈w.f0):a.i5.length*32<=140737488351232:=(h.2.2.1.2 a ha).2.1
theorem c8q{w:j9}(h:Q8 w)(q:m8):b1S w q=some (R7 w q):=by
 have hf:q9 w.f0:=h.2.2.1.fits (by decide);unfold b1S R7 b1q;rw [b71 w.f0 hf (fun a=>(([a.a0.b6,a.a0.Seq]:List Int)==[q.b6,q.Seq])) (fun a=>(a.i5,true)) ()]
 ·cases w.f0.find? (fun a=>(([a.a0.b6,a.a0.Seq]:List Int)==[q.b6,q.Seq]))<;>rfl
 ·intro k hk;have:=c3s h (d9w hk);unfold b02;rw [z5 _ k hk,s7 hk];simp only [cond_true,d9s,d1N this];cases (([w.f0[k].a0.b6,w.f0[k].a0.Seq]:List Int)==[q.b6,q.Seq])<;>rfl
 ·unfold b02;rw [B0];rfl
theorem d7T{w:j9}(h:Q8 w)(q:m8):q9 (R7 w q).1:=by
 unfold R7 b1q;cases hf:w.f0.find? (fun a=>(([a.a0.b6,a.a0.Seq]:List Int)==[q.b6,q.Seq])) with
 | none=>simp [q9]
 | some a =>
  have:=c3s h (List.mem_of_find?_eq_some hf);show a.i5.length<=_
  omega
def a1G(w:j9):List m8->List (List m7)->Option (List (List m7))
 | [],o=>some o
 | q::qs,o=>bif (R7 w q).2 then a1G w qs (o++[(R7 w q).1]) else none
theorem c1a{w:j9}(h:Q8 w):∀{qs:List m8} {o ps:List (List m7)},a1G w qs o=some ps->(∀p∈o,q9 p)->∀p∈ps,q9 p
 | [],o,ps,hs,ho=>by
  injection hs with hs;subst hs;exact ho
 | q::qs,o,ps,hs,ho=>by
  unfold a1G at hs;cases hq:(R7 w q).2
  ·rw [hq] at hs;cases hs
  ·rw [hq,cond_true] at hs;refine c1a h hs fun p hp => ?_
   rcases List.mem_append.1 hp with hp|hp
   ·exact ho p hp
   ·rw [d9y.1 hp];exact d7T h q
def a6s(a b:List m5):Bool:=(a.length==b.length)&&(d9C a.length).all fun k=>match a[k]?,b[k]? with
 | some x,some y=>(([x.i7,x.c8]:List Int)==[y.i7,y.c8])
 | _,_=>false
theorem c74{a b:List m5}(h:q9 a):b1Y a b=some (a6s a b):=by
 unfold b1Y b6M a6s;rw [b5h];cases hl:a.length==b.length
 ·rfl
 have hl:a.length=b.length:=by simpa using hl
 rw [d9B,cond_false,d9Q,a45 a h (fun k=>match a[k]?,b[k]? with|some x,some y=>(([x.i7,x.c8]:List Int)==[y.i7,y.c8])|_,_=>false) false ()]
 ·cases (d9C a.length).all _<;>rfl
 ·intro k hk _;unfold b1x;rw [z5 _ k hk,s7 hk,s7 (hl▸hk),d9t hk,d9t (hl▸hk)];simp only [cond_true,d9s];cases (([a[k].i7,a[k].c8]:List Int)==[(b[k]'(hl▸hk)).i7,(b[k]'(hl▸hk)).c8])<;>rfl
 ·unfold b1x;rw [B0];rfl
theorem d2a{s:t7}{e:j8}(h:e.i6=true):(apply s e).2=5:=by
 unfold apply;rw [h];rfl
theorem b8W{l:List j8}(hl:l.length<=40)(he:l.all t9=true):∀k,k<=l.length->∀q∈told l (m9 l).2 k,∃e∈l,C9 q e=true
 | 0,_,q,hq=>by cases hq
 | k+1,hk,q,hq=>by
  have h1:k<l.length:=by omega
  have hlen:=(O9 hl he l.length (d9K _)).2.1;rw [d9P] at hlen;have h2:k<(m9 l).2.length:=by omega
  unfold told at hq;rcases List.mem_append.1 hq with hq|hq
  ·exact b8W hl he k (by omega) q hq
  ·rw [a9M h1 h2] at hq;cases hc:(m9 l).2[k]==0
   ·rw [hc] at hq;cases hq
   ·rw [hc,cond_true,d9y] at hq;refine ⟨l[k],d9w h1,?_⟩;have hco:=a7z hl he h1;rw [d9t h2] at hco;have hco:=e0y hco;rw [hq];unfold C9;cases hn:l[k].i6
    ·simp
    ·rw [d2a hn] at hco;rw [hco] at hc;cases hc
theorem d45{l:List j8}{q:m8}(hq:q∈z9 l):∃i,∃h:i<l.length,l.findIdx? (C9 q)=some i:=by
 unfold z9 at hq;cases hok:F5 l
 ·rw [hok] at hq;cases hq
 ·rw [hok,cond_true] at hq;obtain ⟨hl,he⟩:=a0S hok;obtain ⟨e,h1,h2⟩:=b8W hl he _ (d9K _) q hq;cases hf:l.findIdx? (C9 q) with
  | none =>
   have:=(e0E.1 hf) e h1;rw [h2] at this;cases this
  | some i=>exact ⟨i,(d90.1 hf).1,rfl⟩
def P4(l:List j8)(q:m8):Int:=match l.findIdx? (C9 q) with
 | some k=>(match l[k]? with|some e=>e.c7.c8|none=>0)
 | none=>0
def b6H(l:List j8)(done:List m8)(vals:List Int):Bool:=(d9C done.length).all fun i=>match vals[i]?,done[i]? with
 | some v,some q=>v==P4 l q
 | _,_=>false
def R8:List m5:=d9u 4 ⟨0,0⟩
def b7Q(l:List j8)(ps:List (List m7)):Bool :=
 ((I6 R8 ps).2.length==(z9 l).length)&&(a6s (I6 R8 ps).1 (m9 l).1.d8&&b6H l (z9 l) (I6 R8 ps).2)
def a5n(w:j9):Bool:=C4 w&&match a1G w (z9 (r8 w)) [] with
 | some ps=>b7Q (r8 w) ps
 | none=>false
theorem b47:B7 R8=true:=by decide
theorem c0I:∀{ps:List (List m7)} {b:List m5} {vs:List Int},B7 b=true->(∀p∈ps,q9 p)->q9 (a1u ps b vs).1
 | [],b,vs,hb,_=>a5L hb
 | p::ps,b,vs,hb,hp=>by
  unfold a1u;cases hc:(I2 b p).2.2==3
  ·rw [cond_false];exact c0I (b9V hb (hp p (by simp)) hc) fun q hq=>hp q (by simp [hq])
  ·simp [q9]
theorem c61{ps:List (List m7)}(hp:∀p∈ps,q9 p):q9 (I6 R8 ps).1:=by
 unfold I6;cases (B7 R8&&decide (ps.length<=100))
 ·simp [q9]
 ·exact c0I b47 hp
theorem d3N{w:j9}(h:Q8 w){lg:List j8}{l:List m8}(hl:l.length<=1000):∀(m k:Nat) (o:List (List m7)),k+m=l.length->o.length=k->
  ((p8 (fun s:(List (List m7))×Int=>a3Z w l s.1 s.2) (o,(k:Int))).bind fun x=>x.go (fun r=>some r) fun s=>a8m lg l s)=(match a1G w (l.drop k) o with|some ps=>a8m lg l ps|none=>some false):=by
 intro m;induction m with
 | zero =>
  intro k o hk ho;have:k=l.length:=by omega
  subst this;rw [List.drop_length,E8 (b:=o)]
  ·rfl
  ·unfold a3Z;simp only [B0];rfl
 | succ m ih =>
  intro k o hk ho;have hlt:k<l.length:=by omega
  have n1:(o.length+1)*24<=140737488355328:=by omega
  have hw:l9 ((k:Int)+1)=((k+1:Nat):Int):=by rw [C8 (by omega) (by omega)];rfl
  have hb1:a3Z w l o (k:Int)=some (bif (R7 w l[k]).2 then .nxt (o++[(R7 w l[k]).1],((k+1:Nat):Int)) else .ret false):=by
   unfold a3Z;simp only [z5 _ k hlt,s7 hlt,cond_true,d9s,c8q h,x9 n1,hw];cases (R7 w l[k]).2<;>rfl
  rw [d97 hlt];unfold a1G;cases hc:(R7 w l[k]).2
  ·rw [hc,cond_false] at hb1;rw [a0f hb1];rfl
  ·rw [hc,cond_true] at hb1;rw [I7 hb1,cond_true];exact ih (k+1) _ (by omega) (by simp;omega)
theorem d8w:b7u=some R8:=rfl
theorem c83:a9a=some R8:=rfl
theorem c9L{w:j9}(h:Q8 w):b3t w=some (a5n w):=by
 unfold b3t a5n;rw [a3g h,d9s];cases hw:C4 w
 ·rfl
 obtain ⟨h0,hlo,hok⟩:=c3h h hw;have hi:=b35 h h0;obtain ⟨hl,he⟩:=a0S hok;have hf:=okEntries.f hlo;have hfl:q9 (r8 w):=hlo.fits (by decide);have hd:(z9 (r8 w)).length<=40:=by
  unfold z9;rw [hok];exact c28 hl he (d9K _)
 have hdf:q9 (z9 (r8 w)):=d3o _;simp only [d9B,cond_false,hi,d9s,d3H hf,d9Q];have hpg:=d3N h (lg:=r8 w) (l:=z9 (r8 w)) (by omega) (z9 (r8 w)).length 0 [] (by omega) rfl;rw [e0T] at hpg;rw [show p8 (fun s:(List (List m7))×Int=>a3Z w (z9 (r8 w)) s.1 s.2) ([],0)=p8 (fun s:(List (List m7))×Int=>a3Z w (z9 (r8 w)) s.1 s.2) ([],((0:Nat):Int)) from rfl,hpg];cases hps:a1G w (z9 (r8 w)) [] with
 | none=>rfl
 | some ps =>
  have hpf:=c1a h hps (by simp);simp only;unfold a8m;simp only [c83,d9s,d1O (a5L b47) hpf,c2z hf,hok,cond_true,c74 (c61 hpf),b5h];unfold b7Q;cases a6s (I6 R8 ps).1 (m9 (r8 w)).1.d8
  ·simp
  cases hle:(I6 R8 ps).2.length==(z9 (r8 w)).length
  ·rfl
  have hle:(I6 R8 ps).2.length=(z9 (r8 w)).length:=by simpa using hle
  simp only [d9B,cond_false,d9Q];unfold b6H;rw [a45 (z9 (r8 w)) hdf (fun i=>match (I6 R8 ps).2[i]?,(z9 (r8 w))[i]? with|some v,some q=>v==P4 (r8 w) q|_,_=>false) false ()]
  ·cases (d9C (z9 (r8 w)).length).all _<;>rfl
  ·intro k hk _;obtain ⟨i,hi,hfi⟩:=d45 (d9w hk);unfold b23 P4;rw [z5 _ k hk,s7 hk,s7 (hle▸hk),d9t hk,d9t (hle▸hk)];simp only [cond_true,d9s,a9J hfl,hfi,s7 hi,d9t hi];rw [bne];cases ((I6 R8 ps).2[k]'(hle▸hk))==(r8 w)[i].c7.c8<;>rfl
  ·unfold b23;rw [B0];rfl
theorem c3B{α β:Type}{a:List α}{b:List β}(h:q9 a):q9 (a.zip b):=by
 unfold q9 at h ⊢;rw [List.length_zip];omega
theorem b29{α β:Type}{a:List α}{b:List β}{k:Nat}(hk:k<(a.zip b).length):∃ (h1:k<a.length) (h2:k<b.length),(a.zip b)[k]=(a[k],b[k]):=by
 rw [List.length_zip] at hk;exact ⟨by omega,by omega,by simp⟩
theorem d2c{α β:Type}(a:List α)(b:List β):decide (((a.zip b).length:Int)<(a.length:Int))=true->decide (((a.zip b).length:Int)<(b.length:Int))=false:=by
 rw [List.length_zip];simp only [decide_eq_true_eq,decide_eq_false_iff_not];omega
theorem c1t{α β R S:Type}(a:List α)(b:List β)(X:Option (j6 R S Unit)):(bif decide (((a.zip b).length:Int)<(a.length:Int)) then (bif decide (((a.zip b).length:Int)<(b.length:Int)) then X else some (.brk ())) else some (.brk ()))=some (.brk ()):=by
 cases h:decide (((a.zip b).length:Int)<(a.length:Int))
 ·rfl
 ·rw [d2c a b h];rfl
def beg(a b:List j8):Bool:=(a.zip b).all fun p=>M4 p.1 p.2
theorem c6B{x y:j5}(ha:A0 88 J0 x.a5):p8 (fun s:Int=>a9f x y s) 0=some (bif beg x.a5 y.a5 then .brk () else .ret false):=by
 rw [P3 (x.a5.zip y.a5) (c3B (ha.fits (by decide))) (fun p=>M4 p.1 p.2) false ()]
 ·rfl
 ·intro k hk;obtain ⟨h1,h2,e⟩:=b29 hk;unfold a9f;rw [z5 _ k h1,z5 _ k h2,s7 h1,s7 h2,e];simp only [cond_true,d9s,a3V (ha.2 _ (d9w h1))];cases M4 x.a5[k] y.a5[k]<;>rfl
 ·unfold a9f;exact c1t _ _ _
theorem d8h{w:j9}(h:Q8 w):a8f w=some (C4 w&&w.a8.all fun a=>w.a8.all fun b=>beg a.a5 b.a5):=by
 have hf:q9 w.a8:=h.1.fits (by decide);have hin:∀a:j5,a2b a->p8 (fun s:Int=>a80 w a s) 0=some (bif w.a8.all (fun b=>beg a.a5 b.a5) then .brk () else .ret false):=by
  intro a ha;refine P3 w.a8 hf (fun b=>beg a.a5 b.a5) false () ?_ ?_
  ·intro k hk;unfold a80;rw [z5 _ k hk,s7 hk];simp only [cond_true,d9s];rw [c6B ha.2.2.1];cases beg a.a5 w.a8[k].a5<;>rfl
  ·unfold a80;rw [B0];rfl
 unfold a8f;rw [a3g h,d9s];cases C4 w
 ·rfl
 ·simp only [d9B,cond_false,d9Q];rw [P3 w.a8 hf (fun a=>w.a8.all fun b=>beg a.a5 b.a5) false ()]
  ·cases w.a8.all (fun a=>w.a8.all fun b=>beg a.a5 b.a5)<;>rfl
  ·intro k hk;unfold b3i;rw [z5 _ k hk,s7 hk];simp only [cond_true,d9s];rw [hin _ (h.1.2 _ (d9w hk))];cases w.a8.all (fun b=>beg w.a8[k].a5 b.a5)<;>rfl
  ·unfold b3i;rw [B0];rfl
theorem d3y{a b:List j8}:beg a b=true ↔ ∀(i:Nat) (h1:i<a.length) (h2:i<b.length),a[i]=b[i]:=by
 unfold beg;rw [List.all_eq_true];constructor
 ·intro h i h1 h2;have:=h (a[i],b[i]) (List.mem_iff_getElem.2 ⟨i,by rw [List.length_zip];omega,by simp⟩);exact (Z2 _ _).1 this
 ·intro h p hp;obtain ⟨i,hi,rfl⟩:=d9Y hp;obtain ⟨h1,h2,e⟩:=b29 hi;rw [e];exact (Z2 _ _).2 (h i h1 h2)
abbrev zV:n8:=⟨0,zE⟩
def M6(n:j5)(k:Nat):n8:=n.Acc.a9[k]?.getD zV
def d9i(a b:n8):Bool := !(decide (a.a6>0)&&((a.a6==b.a6) && !M4 a.d7 b.d7))
def a0w(a b:n8):Bool := !((a.a6 != 0)&&((a.a6==b.a6) && !M4 a.d7 b.d7))
theorem c8G{w:j9}(h:Q8 w):a77 w=some (C4 w&&w.a8.all fun a=>w.a8.all fun b=>(a.Acc.a9.zip b.Acc.a9).all fun p=>a0w p.1 p.2):=by
 have hf:q9 w.a8:=h.1.fits (by decide);have hv:∀x y:j5,a2b x->p8 (fun s:Int=>a7o x y s) 0=some (bif (x.Acc.a9.zip y.Acc.a9).all (fun p=>a0w p.1 p.2) then .brk () else .ret false):=by
  intro x y hx;refine P3 (x.Acc.a9.zip y.Acc.a9) (c3B (hx.2.1.2.fits (by decide))) (fun p=>a0w p.1 p.2) false () ?_ ?_
  ·intro k hk;obtain ⟨h1,h2,e⟩:=b29 hk;unfold a7o b5c;rw [z5 _ k h1,z5 _ k h2,s7 h1,s7 h2,e];simp only [cond_true,d9s,a3V (hx.2.1.2.2 _ (d9w h1)).2];unfold a0w;cases (x.Acc.a9[k].a6 != 0)<;>cases (x.Acc.a9[k].a6==y.Acc.a9[k].a6)<;>cases M4 x.Acc.a9[k].d7 y.Acc.a9[k].d7<;>rfl
  ·unfold a7o;exact c1t _ _ _
 have hin:∀a:j5,a2b a->p8 (fun s:Int=>a73 w a s) 0=some (bif w.a8.all (fun b=>(a.Acc.a9.zip b.Acc.a9).all fun p=>a0w p.1 p.2) then .brk () else .ret false):=by
  intro a ha;refine P3 w.a8 hf (fun b=>(a.Acc.a9.zip b.Acc.a9).all fun p=>a0w p.1 p.2) false () ?_ ?_
  ·intro k hk;unfold a73 b6u;rw [z5 _ k hk,s7 hk];simp only [cond_true,d9s];rw [hv a _ ha];cases (a.Acc.a9.zip w.a8[k].Acc.a9).all (fun p=>a0w p.1 p.2)<;>rfl
  ·unfold a73;rw [B0];rfl
 unfold a77;rw [a3g h,d9s];cases C4 w
 ·rfl
 ·simp only [d9B,cond_false,d9Q];rw [P3 w.a8 hf (fun a=>w.a8.all fun b=>(a.Acc.a9.zip b.Acc.a9).all fun p=>a0w p.1 p.2) false ()]
  ·cases w.a8.all (fun a=>w.a8.all fun b=>(a.Acc.a9.zip b.Acc.a9).all fun p=>a0w p.1 p.2)<;>rfl
  ·intro k hk;unfold b2P b4h;rw [z5 _ k hk,s7 hk];simp only [cond_true,d9s];rw [hin _ (h.1.2 _ (d9w hk))];cases w.a8.all (fun b=>(w.a8[k].Acc.a9.zip b.Acc.a9).all fun p=>a0w p.1 p.2)<;>rfl
  ·unfold b2P;rw [B0];rfl
theorem d4Q{a b:n8}:a0w a b=true↔(a.a6≠0->a.a6=b.a6->a.d7=b.d7):=by
 unfold a0w;rw [d9T,<-e1a,d9v,d9v,d9T,<-e1a,Z2,bne_iff_ne,beq_iff_eq];constructor
 ·intro h h1 h2;exact e1e fun q=>h ⟨h1,h2,q⟩
 ·rintro h ⟨h1,h2,h3⟩
  exact h3 (h h1 h2)
def b0e(n:j5):Bool:=bif n.b5 != 3 then true else decide ((M6 n n.a5.length).a6>=n.a6)&&(decide ((M6 n n.a5.length).a6>n.a6)||M4 (M6 n n.a5.length).d7 n.d6)
def other(a b:j5):Bool := !(decide (a.a6>0)&&(a.a6==b.a6))
def a5C(a b:j5):Bool := !((a.a6 != 0)&&(a.a6==b.a6))
def a6g(w:j9)(i:Nat):Bool:=match w.a8[i]? with
 | some n=>b0e n&&(w.a8.take i).all (other n)
 | none=>true
def a6u(n:j5):Bool:=bif n.b5 != 3 then true else bif decide ((n.a5.length:Int)>=(n.Acc.a9.length:Int)) then false else
 !decide ((M6 n n.a5.length).a6<n.a6) && !(((M6 n n.a5.length).a6==n.a6) && !M4 (M6 n n.a5.length).d7 n.d6)
def a3G(w:j9)(i:Nat):Bool:=match w.a8[i]? with
 | some n=>(w.a8.drop (i+1)).all (a5C n)&&a6u n
 | none=>true
theorem d1W{w:j9}(h:Q8 w):a7w w=some (C4 w&&(d9C w.a8.length).all (a3G w)):=by
 have hf:q9 w.a8:=h.1.fits (by decide);have hin:∀(i:Nat) (hi:i<w.a8.length) (a:j5),p8 (fun t:Int=>a7n w (i:Int) a t) 0=some (bif (w.a8.drop (i+1)).all (a5C a) then .brk () else .ret false):=by
  intro i hi a;have e:(l9 ((i:Int)+1)).toNat=i+1:=by rw [E7 hf hi];rfl
  have e2:((w.a8.drop (i+1)).take (w.a8.length-(i+1)))=w.a8.drop (i+1):=by rw [<-e1b,d9P]
  have hfd:q9 (w.a8.drop (i+1)):=by
   unfold q9 at hf ⊢;rw [e1b];omega
  refine P3 (w.a8.drop (i+1)) hfd (a5C a) false () ?_ ?_
  ·intro k hk;unfold a7n b7p;rw [e,e2,z5 _ k hk,s7 hk];simp only [cond_true,d9s];unfold a5C;cases (a.a6 != 0)<;>cases (a.a6==(w.a8.drop (i+1))[k].a6)<;>rfl
  ·unfold a7n;rw [e,e2,B0];rfl
 unfold a7w;rw [a3g h,d9s];cases C4 w
 ·rfl
 ·simp only [d9B,cond_false,d9Q];rw [a45 w.a8 hf (a3G w) false ()]
  ·cases (d9C w.a8.length).all (a3G w)<;>rfl
  ·intro k hk _;have hok:=h.1.2 _ (d9w hk);have hk6:b2n (k:Int) w.a8[k]=some (bif a6u w.a8[k] then .nxt (l9 ((k:Int)+1)) else .ret false):=by
    unfold b2n b7N a6u;cases (w.a8[k].b5 != 3)
    ·simp only [cond_false];by_cases hl:w.a8[k].a5.length<w.a8[k].Acc.a9.length
     ·rw [show decide ((w.a8[k].a5.length:Int)>=(w.a8[k].Acc.a9.length:Int))=false from by simpa using hl,s7 hl];have ev:M6 w.a8[k] w.a8[k].a5.length=w.a8[k].Acc.a9[w.a8[k].a5.length]:=by unfold M6;rw [d9t hl];rfl
      rw [ev];simp only [cond_false,d9s,a3V (hok.2.1.2.2 _ (d9w hl)).2];cases decide (w.a8[k].Acc.a9[w.a8[k].a5.length].a6<w.a8[k].a6)<;>cases (w.a8[k].Acc.a9[w.a8[k].a5.length].a6==w.a8[k].a6)<;>cases M4 w.a8[k].Acc.a9[w.a8[k].a5.length].d7 w.a8[k].d6<;>rfl
     ·rw [show decide ((w.a8[k].a5.length:Int)>=(w.a8[k].Acc.a9.length:Int))=true from by simp;omega];rfl
    ·rfl
   unfold b2u a3G;rw [z5 _ k hk,s7 hk,d9t hk];simp only [cond_true,d9s];rw [x9 (by rw [E7 hf hk];omega),hin k hk,hk6];cases (w.a8.drop (k+1)).all (a5C w.a8[k])<;>cases a6u w.a8[k]<;>rfl
  ·unfold b2u;rw [B0];rfl
theorem b7e{a b:j5}:other a b=true ↔ ¬(0<a.a6/\a.a6=b.a6):=by
 unfold other;rw [d9T,<-e1a,d9v,decide_eq_true_eq,beq_iff_eq]
theorem c57{a b:j5}:a5C a b=true ↔ ¬(a.a6≠0/\a.a6=b.a6):=by
 unfold a5C;rw [d9T,<-e1a,d9v,bne_iff_ne,beq_iff_eq]
theorem c0o{n:j5}(h:G0 n=true):a6u n=b0e n:=by
 unfold b0e a6u;cases hp:(n.b5 != 3)
 ·simp only [cond_false];have hb:=(c3Y (a8e h).1 (a8e h).2.2.2.1).2 (by simpa [bne] using hp);by_cases hl:n.a5.length<n.Acc.a9.length
  ·rw [show decide ((n.a5.length:Int)>=(n.Acc.a9.length:Int))=false from by simpa using hl,cond_false];rw [e0z];generalize M6 n n.a5.length=v;cases M4 v.d7 n.d6
   ·simp<;>omega
   ·simp<;>omega
  ·rw [show decide ((n.a5.length:Int)>=(n.Acc.a9.length:Int))=true from by simp;omega,cond_true];have:M6 n n.a5.length=zV:=by unfold M6;rw [d9U (by omega)];rfl
   rw [this,show decide ((zV.a6)>=n.a6)=false from by simp;omega];try rfl
 ·rfl
theorem d1l{w:j9}(hw:C4 w=true):((d9C w.a8.length).all (a3G w))=((d9C w.a8.length).all (a6g w)):=by
 rw [e0z];have hn:=(c0u hw).2;have hb:∀n∈w.a8,0<=n.a6:=fun n hm=>(c3Y (a8e (hn n hm)).1 (a8e (hn n hm)).2.2.2.1).1
 simp only [List.all_eq_true,e0m];constructor
 ·intro q i hi;have qi:=q i hi;unfold a3G at qi;unfold a6g;rw [d9t hi] at qi ⊢;simp only [d9v] at qi ⊢;refine ⟨by rw [<-c0o (hn _ (d9w hi))];exact qi.2,?_⟩;rw [List.all_eq_true];intro m hm;obtain ⟨k,hk,rfl⟩:=d9Y hm;rw [d93] at hk;rw [List.getElem_take,b7e];have hkl:k<w.a8.length:=by omega
  have qk:=q k hkl;unfold a3G at qk;rw [d9t hkl] at qk;simp only [d9v] at qk;have:=c57.1 (List.all_eq_true.1 qk.1 w.a8[i] (List.mem_iff_getElem.2 ⟨i-(k+1),by rw [e1b];omega,by simp only [List.getElem_drop];congr 1;omega⟩));rintro ⟨h1,h2⟩
  exact this ⟨by omega,h2.symm⟩
 ·intro q i hi;have qi:=q i hi;unfold a6g at qi;unfold a3G;rw [d9t hi] at qi ⊢;simp only [d9v] at qi ⊢;refine ⟨?_,by rw [c0o (hn _ (d9w hi))];exact qi.1⟩;rw [List.all_eq_true];intro m hm;obtain ⟨k,hk,rfl⟩:=d9Y hm;rw [e1b] at hk;rw [List.getElem_drop,c57];have hkl:i+1+k<w.a8.length:=by omega
  have qk:=q (i+1+k) hkl;unfold a6g at qk;rw [d9t hkl] at qk;simp only [d9v] at qk;have:=b7e.1 (List.all_eq_true.1 qk.2 w.a8[i] (List.mem_iff_getElem.2 ⟨i,by rw [d93];omega,by simp⟩));rintro ⟨h1,h2⟩
  have:=hb _ (d9w hi);omega
theorem d7V(a b:m8):(([a.b6,a.Seq]:List Int)==[b.b6,b.Seq])=(D8 a==D8 b):=rfl
def a3m(l:List s9)(i:Nat):Bool:=match l[i]? with
 | some t=>(d9C i).all fun k=>match l[k]? with
  | some s => !(D8 s.a0==D8 t.a0)
  | none=>true
 | none=>true
theorem c4E{l:List s9}{i:Nat}(h:i<l.length):a3m l i = !((l.take i).any fun s=>D8 s.a0==D8 l[i].a0):=by
 unfold a3m;rw [d9t h];simp only;rw [e0z,List.all_eq_true,d9T,d95];constructor
 ·intro hh s hs;obtain ⟨k,hk,rfl⟩:=d9Y hs;rw [d93] at hk;have:=hh k (by simp;omega);rw [d9t (by omega)] at this;simpa using this
 ·intro hh k hk;have hk:k<i:=by simpa using hk
  rw [d9t (show k<l.length by omega)];have:=hh l[k] (e0g.2 ⟨k,by omega,rfl⟩);simpa using this
def b3a(l:List s9):Bool:=(d9C l.length).all (a3m l)
theorem d2C{l:List m8}{y:m8}(h:(l.any fun x=>D8 y==D8 x)=false):a4B D8 l y=l++[y]:=by
 unfold a4B;rw [if_neg (by rw [h];simp)]
theorem d0K{w:j9}(h:Q8 w):a82 w=some (C4 w&&b3a w.Told):=by
 have hf:q9 w.Told:=h.2.2.2.fits (by decide);unfold a82;rw [a3g h,d9s];cases C4 w
 ·rfl
 rw [d9B,cond_false,d9Q];have hc:=a3h (body:=fun s:(List m8)×Int=>a75 w s.1 s.2) (fun k=>((w.Told.take k).map (·.a0),(k:Int))) w.Told.length (a3m w.Told) (fun _=>false) () (by
  intro k hk _;unfold a75;simp only [z5 _ k hk,cond_true,s7 hk,d9s,E7 hf hk];have he:(((w.Told.take k).map (·.a0)).any fun x=>D8 w.Told[k].a0==D8 x) = !a3m w.Told k:=by
   rw [c4E hk,Bool.not_not,List.any_map];congr 1
   funext s
   show (D8 w.Told[k].a0==D8 s.a0)=_
   rw [e0z,beq_iff_eq,beq_iff_eq];exact eq_comm
  rw [he];cases ho:a3m w.Told k
  ·rfl
  ·rw [ho] at he;rw [d2C he,d9V hk,d9M];rfl) (by
  intro _;unfold a75;simp only [B0];rfl)
 rw [e0j,List.map_nil,show ((0:Nat):Int)=0 from rfl] at hc;unfold b3a;rcases hc with ⟨hc,hall⟩|⟨k,hk,ho,_,hc⟩
 ·rw [hc,show (d9C w.Told.length).all (a3m w.Told)=true from List.all_eq_true.2 fun k hk=>hall k (by simpa using hk)];rfl
 ·rw [hc,show (d9C w.Told.length).all (a3m w.Told)=false from e00.2 ⟨k,by simpa using hk,by rw [ho];simp⟩];rfl
theorem b2N{α:Type}{p q:α->Bool}(h:∀x,p x=true->q x=true):∀l:List α,(l.filter q).find? p=l.find? p
 | []=>rfl
 | x::l=>by
  cases hq:q x with
  | true =>
   rw [List.filter_cons_of_pos hq,e0M,e0M,b2N h l]
  | false =>
   have hp:p x=false:=by
    cases hp:p x with
    | false=>rfl
    | true=>rw [h x hp] at hq;cases hq
   rw [List.filter_cons_of_neg (by simp [hq]),e0M,hp,b2N h l]
theorem b5V{α:Type}{p q:α->Bool}(h:∀x,p x=true->q x=false)(l:List α):(l.filter q).find? p=none:=by
 rw [List.find?_eq_none];intro x hx;have hq:=(List.mem_filter.1 hx).2;intro hp;rw [h x hp] at hq;cases hq
theorem b6K{l:List s8}(h:a1c l)(d:s8)(w:Int):(Z0 l d).find? (fun x=>x.a0.b6==w)=bif d.a0.b6==w then some d else l.find? (fun x=>x.a0.b6==w):=by
 rw [a9S d h,List.find?_append,e0M];by_cases hw:d.a0.b6=w
 ·subst hw;rw [b5V (by intro x hx;simp at hx;simp;omega)];simp
 ·have hne:(d.a0.b6==w)=false:=by simpa using hw
  rw [hne];simp only [cond_false];by_cases hlt:w<d.a0.b6
  ·rw [b2N (by intro x hx;simp at hx;simp;omega),b5V (by intro x hx;simp at hx;simp;omega),Option.or_none]
  ·rw [b5V (by intro x hx;simp at hx;simp;omega),b2N (by intro x hx;simp at hx;simp;omega),Option.none_or]
def U5(s:t7)(w:Int):Option s8:=s.i4.find? (fun x=>x.a0.b6==w)
theorem c4S{s:t7}{k:Nat}{e:j8}(hs:S7 s k)(w:Int):∃d,d.a0=e.a0/\U5 (J8 s e).1 w=bif e.a0.b6==w then some d else U5 s w:=by
 unfold J8 U5;cases a0D s.d8 e.c7
 ·exact ⟨⟨e.a0,1,0⟩,rfl,b6K hs.sorted _ w⟩
 ·cases e.c7.Code==0
  ·exact ⟨⟨e.a0,2,0⟩,rfl,b6K hs.sorted _ w⟩
  ·exact ⟨⟨e.a0,0,e.c7.c8⟩,rfl,b6K hs.sorted _ w⟩
theorem d6v{s:t7}{k:Nat}{e:j8}(hs:S7 s k)(hn:e.i6=false):∃d,U5 (apply s e).1 e.a0.b6=some d/\e.a0.Seq<=d.a0.Seq:=by
  obtain ⟨d,h1,h2⟩:=c4S (e:=e) hs e.a0.b6;rw [beq_self_eq_true,cond_true] at h2;have hfr:∃d,U5 (J8 s e).1 e.a0.b6=some d/\e.a0.Seq<=d.a0.Seq:=⟨d,h2,by rw [h1];exact d9O _⟩
  unfold apply;rw [hn,cond_false];cases hf:s.i4.find? fun d=>d.a0.b6==e.a0.b6 with
  | none=>exact hfr
  | some d =>
    simp only;cases h3:d.a0.Seq==e.a0.Seq
    · by_cases h4:d.a0.Seq>e.a0.Seq
      · simp only [h4,decide_true,cond_true,cond_false];exact ⟨d,hf,by omega⟩
      · simp only [h4,decide_false,cond_false];exact hfr
    · exact ⟨d, hf, by have:d.a0.Seq=e.a0.Seq:=by simpa using h3
                       omega⟩
theorem d8b{s:t7}{k:Nat}{e:j8}(hs:S7 s k){w:Int}{d:s8}(hd:U5 s w=some d):∃d',U5 (apply s e).1 w=some d'/\d.a0.Seq<=d'.a0.Seq:=by
 have same:∃d',U5 s w=some d'/\d.a0.Seq<=d'.a0.Seq:=⟨d,hd,d9O _⟩
 have hfr:(∀d',U5 s e.a0.b6=some d'->d'.a0.Seq<=e.a0.Seq)->∃d',U5 (J8 s e).1 w=some d'/\d.a0.Seq<=d'.a0.Seq:=by
  intro hle;obtain ⟨d2,h1,h2⟩:=c4S (e:=e) hs w;by_cases hw:e.a0.b6=w
  ·subst hw;rw [beq_self_eq_true,cond_true] at h2;exact ⟨d2,h2,by rw [h1];exact hle d hd⟩
  ·have:(e.a0.b6==w)=false:=by simpa using hw
   rw [this,cond_false] at h2;exact ⟨d,h2.trans hd,d9O _⟩
 unfold apply;cases hn:e.i6
 ·simp only [cond_false];cases hf:s.i4.find? fun d=>d.a0.b6==e.a0.b6 with
  | none=>exact hfr fun d' h=>by unfold U5 at h;rw [hf] at h;cases h
  | some d0 =>
   simp only;cases h3:d0.a0.Seq==e.a0.Seq
   ·by_cases h4:d0.a0.Seq>e.a0.Seq
    ·simp only [h4,decide_true,cond_true,cond_false];exact same
    ·simp only [h4,decide_false,cond_false];refine hfr fun d' h => ?_
     unfold U5 at h;rw [hf] at h;injection h with h;subst h;omega
   ·exact same
 ·exact same
theorem d1u{s:t7}{e:j8}{d:s8}(hd:U5 s e.a0.b6=some d)(h:e.a0.Seq<=d.a0.Seq):(apply s e).2≠0:=by
 unfold U5 at hd;unfold apply;cases hn:e.i6
 ·simp only [cond_false,hd];cases h3:d.a0.Seq==e.a0.Seq
  ·have hne:d.a0.Seq≠e.a0.Seq:=by simpa using h3
   have hgt:d.a0.Seq>e.a0.Seq:=by omega
   simp only [hgt,decide_true,cond_true,cond_false];decide
  ·exact show (3:Int)≠0 from by decide
 ·exact show (5:Int)≠0 from by decide
theorem d5S{l:List j8}(hl:l.length<=40)(he:l.all t9=true){i m:Nat}(him:i<m)(hm:m<l.length)(hn:(l[i]'(by omega)).i6=false)(hq:l[m].a0=(l[i]'(by omega)).a0):(m9 l).2[m]?≠some 0:=by
 have hi:i<l.length:=by omega
 have key:∀n,i<n->n<=l.length->∃d,U5 (m9 (l.take n)).1 l[i].a0.b6=some d/\l[i].a0.Seq<=d.a0.Seq:=by
  intro n;induction n with
  | zero=>intro h;omega
  | succ n ih =>
   intro h1 h2;have hin:=(O9 hl he n (by omega)).1;rw [a04 (show n<l.length by omega)];show ∃d,U5 (apply (m9 (l.take n)).1 l[n]).1 l[i].a0.b6=some d/\_
   by_cases hq:i=n
   ·subst hq;exact d6v hin hn
   ·obtain ⟨d,h3,h4⟩:=ih (by omega) (by omega);obtain ⟨d',h5,h6⟩:=d8b (e:=l[n]) hin h3;exact ⟨d',h5,by omega⟩
 obtain ⟨d,h1,h2⟩:=key m him (by omega);rw [a7z hl he hm];intro h;injection h with h;exact d1u (e:=l[m]) (by rw [hq];exact h1) (by rw [hq];exact h2) h
def eN:j8:=⟨true,⟨0,0⟩,⟨[],[],0,0⟩⟩
def v0:n8:=⟨0,zE⟩
def a9r(b:Int):Bool:=n7 b 1 3000
def D7(a:z4)(b:Int):Option z4:=bif a9r b&&decide (a.g9<=b) then some ⟨b,a.a9⟩ else none
def O4(vs:List n8)(n:Nat):List n8:=vs++d9u (n-vs.length) v0
def E5(a:z4)(b slot:Int)(e:j8):Option z4 :=
 bif n7 slot 0 39&&t9 e then (D7 a b).map fun x=>⟨x.g9,(O4 x.a9 (slot.toNat+1)).set slot.toNat ⟨b,e⟩⟩ else none
def C0:List n8->List n8->List n8
 | [],b=>b
 | a,[]=>a
 | x::a,y::b=>(bif decide (y.a6>x.a6) then y else x)::C0 a b
def I0(b who:Int):Int :=
 bif decide (b+1<=3000)&&(d9I (b+1) 3==who) then b+1 else
 bif decide (b+2<=3000)&&(d9I (b+2) 3==who) then b+2 else
 bif decide (b+3<=3000)&&(d9I (b+3) 3==who) then b+3 else -1
def a1X(n:j5):j5:={n with b5:=0,a6:=0,b8:=[],g7:=[],d6:=zE,a9:=[]}
def a7g(n:j5):j5:={n with i3:=false,i5:=[],b7:=zE}
def F9(l:List j8)(q:m8):Bool:=l.any (C9 q)
def Z4(id:Int):List Bool:=(d9u 3 false).set id.toNat true
def G7(l:List Bool):Bool:=decide (2<=(l.filter (· == true)).length)
def D2(id:Int)(m:l8):List l8:=(([0,1,2]:List Int).filter (· != id)).map fun t=>{m with b8:=id,To:=t}
def H6(m out:l8):l8:={out with b8:=m.To,To:=m.b8}
def I8(n:j5)(b:Int):j5:=bif n.b5 != 0&&decide (b>n.a6) then a1X n else n
def P5(known:List j8):List j8->List j8×Option j8
 | []=>([],none)
 | e::q=>bif F9 known e.a0 then P5 known q else (q,some e)
def a1p(n:j5):j5×Option j8 :=
 bif (n.g7.drop n.a5.length).any (fun v=>decide (v.a6>0)) then (n,some eN)
 else bif n.i3 && !F9 n.a5 n.b7.a0 then (n,some n.b7)
 else ({n with d9:=(P5 n.a5 n.d9).1},(P5 n.a5 n.d9).2)
def T3(n:j5):j5×Option j8:=match n.g7[n.a5.length]? with
 | some v=>bif decide (v.a6>0) then (n,some v.d7) else a1p n
 | none=>a1p n
def a1i(x:j5)(e:j8):j5×List l8:=match E5 x.Acc x.a6 (x.a5.length:Int) e with
 | some a=>({x with Acc:=a,b5:=3,d6:=e,a9:=Z4 x.Id},D2 x.Id ⟨3,0,0,x.a6,(x.a5.length:Int),e,[]⟩)
 | none=>(a1X x,[])
def F4(n:j5):j5×List l8 :=
 bif n.b5 != 2||decide (40<=n.a5.length) then (n,[]) else match T3 n with
  | (x,some e)=>a1i x e
  | (x,none)=>(x,[])
def M5(n:j5):j5×List s9 :=
 bif n.i3 then (match n.a5.findIdx? (C9 n.b7.a0) with
  | some k=>(a7g n,[⟨n.Id,n.b7.a0,O5 n.a5 k,bif O5 n.a5 k==0 then P4 n.a5 n.b7.a0 else 0⟩])
  | none=>(n,[]))
 else (n,[])
def B6(n:j5)(e:j8):j5 :=
 bif n.b5==3 then {n with a5:=n.a5++[e],b5:=2,d6:=zE,a9:=[]} else {n with a5:=n.a5++[e]}
def R0(n:j5)(e:j8):j5×List l8×List s9 :=
 ((F4 (M5 (B6 n e)).1).1,(F4 (M5 (B6 n e)).1).2,(M5 (B6 n e)).2)
def V4(n:j5)(m:l8):j5×List l8:=match D7 n.Acc m.a6 with
 | some a=>(I8 {n with Acc:=a} m.a6,[H6 m ⟨2,0,0,m.a6,m.c9,zE,a.a9.drop m.c9.toNat⟩])
 | none=>(n,[H6 m ⟨6,0,0,n.Acc.g9,0,zE,[]⟩])
def X4(n:j5)(m:l8):j5×List l8:=match E5 n.Acc m.a6 m.c9 m.d7 with
 | some a=>(I8 {n with Acc:=a} m.a6,[H6 m ⟨4,0,0,m.a6,m.c9,zE,[]⟩])
 | none=>(n,[H6 m ⟨6,0,0,n.Acc.g9,0,zE,[]⟩])
def V0(n:j5)(m:l8):j5×List l8 :=
 bif n.b5 != 1||m.a6 != n.a6 then (n,[]) else
 bif G7 (n.b8.set m.b8.toNat true) then
  F4 {n with b8:=[],g7:=C0 n.g7 (d9u m.c9.toNat v0++m.a9),b5:=2}
 else ({n with b8:=n.b8.set m.b8.toNat true,g7:=C0 n.g7 (d9u m.c9.toNat v0++m.a9)},[])
def a0r(n:j5)(m:l8):j5×List l8×List s9 :=
 bif n.b5 != 3||(m.a6 != n.a6||m.c9 != (n.a5.length:Int)) then (n,[],[]) else
 bif G7 (n.a9.set m.b8.toNat true) then
  ((R0 {n with a9:=n.a9.set m.b8.toNat true} n.d6).1,D2 n.Id ⟨5,0,0,0,(n.a5.length:Int),n.d6,[]⟩++(R0 {n with a9:=n.a9.set m.b8.toNat true} n.d6).2.1,(R0 {n with a9:=n.a9.set m.b8.toNat true} n.d6).2.2)
 else ({n with a9:=n.a9.set m.b8.toNat true},[],[])
def a0n(n:j5)(m:l8):j5×List l8×List s9 :=
 bif decide (m.c9<(n.a5.length:Int)) then (n,[],[]) else
 bif decide (m.c9>(n.a5.length:Int)) then (n,[H6 m ⟨8,0,0,0,(n.a5.length:Int),zE,[]⟩],[])
 else R0 n m.d7
def X0(n:j5)(m:l8):j5×List l8 :=
 bif n.b5==0||(decide (4<=n.d9.length)||F9 n.a5 m.d7.a0) then (n,[]) else F4 {n with d9:=n.d9++[m.d7]}
def X3(n:j5)(m:l8)(s:Nat):List l8:=match n.a5[s]? with
 | some e=>[H6 m ⟨5,0,0,0,(s:Int),e,[]⟩]
 | none=>[]
def a1C(n:j5)(m:l8):List l8:=((d9C (n.a5.length-m.c9.toNat)).map fun j=>X3 n m (m.c9.toNat+j)).flatten
def M3(n:j5)(m:l8):j5×List l8×List s9 :=
 bif m.a7==1 then ((V4 n m).1,(V4 n m).2,[]) else
 bif m.a7==2 then ((V0 n m).1,(V0 n m).2,[]) else
 bif m.a7==3 then ((X4 n m).1,(X4 n m).2,[]) else
 bif m.a7==4 then a0r n m else
 bif m.a7==5 then a0n n m else
 bif m.a7==6 then (I8 {n with Acc:=(D7 n.Acc m.a6).getD n.Acc} m.a6,[],[]) else
 bif m.a7==7 then ((X0 n m).1,(X0 n m).2,[]) else
 bif m.a7==8 then (n,a1C n m,[]) else (n,[],[])
def G3(n:j5)(prog:List m7):j5×List l8 :=
 bif n.i3||(n.Seq==1000||(B2 (m9 n.a5).1.d8 prog).Code==3) then (n,[]) else
 bif n.b5==2 then F4 {n with Seq:=n.Seq+1,i3:=true,i5:=prog,b7:=⟨false,⟨n.Id,n.Seq+1⟩,B2 (m9 n.a5).1.d8 prog⟩}
 else ({n with Seq:=n.Seq+1,i3:=true,i5:=prog,b7:=⟨false,⟨n.Id,n.Seq+1⟩,B2 (m9 n.a5).1.d8 prog⟩},
  bif n.b5==0 then D2 n.Id ⟨7,0,0,0,0,⟨false,⟨n.Id,n.Seq+1⟩,B2 (m9 n.a5).1.d8 prog⟩,[]⟩ else [])
def N0(n:j5):j5×List l8 :=
 bif decide (I0 n.Acc.g9 n.Id<0) then (n,[]) else
 ({a1X n with Acc:=⟨I0 n.Acc.g9 n.Id,n.Acc.a9⟩,b5:=1,a6:=I0 n.Acc.g9 n.Id,b8:=Z4 n.Id,g7:=n.Acc.a9},
  D2 n.Id ⟨1,0,0,I0 n.Acc.g9 n.Id,(n.a5.length:Int),zE,[]⟩)
def L8(n:j5):j5×List l8 :=
 bif n.b5==1 then (n,D2 n.Id ⟨8,0,0,0,(n.a5.length:Int),zE,[]⟩++D2 n.Id ⟨1,0,0,n.a6,(n.a5.length:Int),zE,[]⟩) else
 bif n.b5==2 then ((F4 n).1,D2 n.Id ⟨8,0,0,0,(n.a5.length:Int),zE,[]⟩++(F4 n).2) else
 bif n.b5==3 then (n,D2 n.Id ⟨8,0,0,0,(n.a5.length:Int),zE,[]⟩++D2 n.Id ⟨3,0,0,n.a6,(n.a5.length:Int),n.d6,[]⟩) else
 bif n.i3 then (n,D2 n.Id ⟨8,0,0,0,(n.a5.length:Int),zE,[]⟩++D2 n.Id ⟨7,0,0,0,0,n.b7,[]⟩) else
 (n,D2 n.Id ⟨8,0,0,0,(n.a5.length:Int),zE,[]⟩)
def B5(id:Int):j5:=⟨id,⟨0,[]⟩,[],0,0,0,[],[],zE,[],false,[],zE,[]⟩
def Y2(n:j5):j5:={B5 n.Id with Acc:=n.Acc,a5:=n.a5,Seq:=n.Seq}
def I3:j9:=⟨[B5 0,B5 1,B5 2],[],[],[]⟩
def N8(w:j9)(l:List l8):j9:={w with i0:=w.i0++l.take (40-w.i0.length)}
def a2c(w:j9)(l:List s9):j9:={w with Told:=w.Told++l.take (60-w.Told.length)}
def F3(w:j9)(i:Int)(n:j5):j9:={w with a8:=w.a8.set i.toNat n}
def a0g(w:j9)(i:Int):j9:={w with i0:=w.i0.take i.toNat++w.i0.drop (i.toNat+1)}
def A2(w:j9)(i:Int):j5:=w.a8.getD i.toNat (B5 0)
def a2A(w:j9)(i:Int)(prog:List m7):j9 :=
 bif decide (60<=w.f0.length) then w else
 N8 (F3 (bif decide ((G3 (A2 w i) prog).1.Seq>(A2 w i).Seq) then {w with f0:=w.f0++[⟨(G3 (A2 w i) prog).1.b7.a0,prog⟩]} else w) i (G3 (A2 w i) prog).1) (G3 (A2 w i) prog).2
def a0U(w:j9)(e:G5):j9:=bif decide (0<=e.A) then (match w.i0[e.A.toNat]? with
 | some m=>bif e.a7==4 then N8 w [m] else bif e.a7==3 then a0g w e.A else
  a2c (N8 (F3 (a0g w e.A) m.To (M3 (A2 w m.To) m).1) (M3 (A2 w m.To) m).2.1) (M3 (A2 w m.To) m).2.2
 | none=>w) else w
def B4(w:j9)(e:G5):j9 :=
 bif e.a7==2||(e.a7==3||e.a7==4) then a0U w e else
 bif !n7 e.A 0 2 then w else
 bif e.a7==1 then a2A w e.A e.i5 else
 bif e.a7==5 then N8 (F3 w e.A (N0 (A2 w e.A)).1) (N0 (A2 w e.A)).2 else
 bif e.a7==6 then N8 (F3 w e.A (L8 (A2 w e.A)).1) (L8 (A2 w e.A)).2 else
 bif e.a7==7 then F3 w e.A (Y2 (A2 w e.A)) else w
theorem a2B:G2 0:=⟨by decide,by decide⟩
theorem a1l{α:Type}{b:Nat}{ok:α->Prop}:A0 b ok ([]:List α):=⟨by simp,fun x hx=>by cases hx⟩
theorem a2y:J0 zE:=⟨⟨a2B,a2B⟩,a1l,a1l,a2B,a2B⟩
theorem c52:J0 eN:=⟨⟨a2B,a2B⟩,a1l,a1l,a2B,a2B⟩
theorem c06:a1y v0:=⟨a2B,a2y⟩
theorem d1I{α R B:Type}{body:List α×Int->Option (j6 R (List α×Int) B)}(l:List α)(hl:q9 l)(f:List α->B)(h1:∀(k:Nat) (h:k<l.length),body (l.take k,(k:Int))=some (.nxt (l.take k++[l[k]],l9 ((k:Int)+1))))(h2:body (l,(l.length:Int))=some (.brk (f l))):p8 body ([],0)=some (.brk (f l)):=by
 have h:=T8 (body:=body) (fun k=>(l.take k,(k:Int))) l.length (by
  intro k hk;rw [h1 k hk,E7 hl hk,d9V hk])
 rw [show ((0:Nat):Int)=0 from rfl,e0j] at h;rw [h,d9P];exact E8 h2
theorem b3J(vs:List n8)(n:Nat):(O4 vs n).length=max vs.length n:=by
 unfold O4;simp;omega
theorem a74:∀a b:List n8,(C0 a b).length=max a.length b.length
 | [],b=>by simp [C0]
 | x::a,[]=>by simp [C0]
 | x::a,y::b=>by simp only [C0,e0o,a74 a b];omega
theorem a8E:∀(a b:List n8) (k:Nat),(C0 a b)[k]?=match a[k]?,b[k]? with
  | some x,some y=>some (bif decide (y.a6>x.a6) then y else x)
  | some x,none=>some x
  | none,some y=>some y
  | none,none=>none
 | [],b,k=>by simp [C0];cases b[k]?<;>rfl
 | x::a,[],k=>by simp [C0];cases (x::a)[k]?<;>rfl
 | x::a,y::b,0=>by simp [C0]
 | x::a,y::b,k+1=>by simp only [C0,e0r];exact a8E a b k
theorem a69{a b:List n8}{v:n8}(h:v∈C0 a b):v∈a\/v∈b:=by
 obtain ⟨k,hk⟩:=e0P h;rw [a8E] at hk;cases ha:a[k]? with
 | none =>
  cases hb:b[k]? with
  | none=>rw [ha,hb] at hk;cases hk
  | some y=>rw [ha,hb] at hk;injection hk with hk;subst hk;exact .inr (d9G hb)
 | some x =>
  cases hb:b[k]? with
  | none=>rw [ha,hb] at hk;injection hk with hk;subst hk;exact .inl (d9G ha)
  | some y =>
   rw [ha,hb] at hk;simp only at hk;cases hd:decide (y.a6>x.a6)
   ·rw [hd] at hk;injection hk with hk;subst hk;exact .inl (d9G ha)
   ·rw [hd] at hk;injection hk with hk;subst hk;exact .inr (d9G hb)
theorem z7{n:Int}(h:-1000000000<=n/\n<=1000000000):G2 n:=⟨by omega,by omega⟩
theorem Z7{α:Type}{b:Nat}{ok:α->Prop}{l:List α}(hl:l.length*b<=1000000000)(h:∀x∈l,ok x):A0 b ok l:=⟨by omega,h⟩
theorem c3L{l:List j8}{q:m8}:F9 l q=(l.findIdx? (C9 q)).isSome:=by
 unfold F9;cases h:l.findIdx? (C9 q) with
 | none =>
  rw [e0E] at h;rw [Option.isSome_none,d95];intro x hx;rw [h x hx];simp
 | some k =>
  rw [d90] at h;obtain ⟨hk,h1,_⟩:=h;rw [Option.isSome_some];exact e0I.2 ⟨l[k],d9w hk,h1⟩
theorem c3I(known:List j8):∀(q:List j8),(P5 known q).1.length<=q.length/\(∀x∈(P5 known q).1,x∈q)/\∀e,(P5 known q).2=some e->e∈q/\F9 known e.a0=false/\(P5 known q).1.length<q.length
 | []=>⟨d9K _,fun x hx=>hx,fun e he=>by cases he⟩
 | e::q=>by
  unfold P5;cases hk:F9 known e.a0
  ·refine ⟨by simp,fun x hx=>by simpa using .inr hx,fun e' he => ?_⟩;injection he with he;subst he;exact ⟨by simp,hk,by simp⟩
  ·obtain ⟨a,b,c⟩:=c3I known q;refine ⟨by simp only [cond_true,e0o];omega,fun x hx=>List.mem_cons_of_mem _ (b x hx),fun e' he => ?_⟩;obtain ⟨x,y,z⟩:=c e' he;exact ⟨List.mem_cons_of_mem _ x,y,by simp only [cond_true,e0o];omega⟩
inductive a0C (n:j5):j8->Prop
 | best (v) (h:n.g7[n.a5.length]?=some v) (hb:v.a6>0):a0C n v.d7
 | gap (v) (h:v∈n.g7.drop n.a5.length) (hb:v.a6>0) (hn:∀v,n.g7[n.a5.length]?=some v->¬v.a6>0):a0C n eN
 | want (h:n.i3=true) (hk:F9 n.a5 n.b7.a0=false) (hn:∀v∈n.g7.drop n.a5.length,¬v.a6>0):a0C n n.b7
 | queue (e) (h:e∈n.d9) (hk:F9 n.a5 e.a0=false) (hn:∀v∈n.g7.drop n.a5.length,¬v.a6>0):a0C n e
theorem a7b(n:j5):∃q:List j8,(T3 n).1={n with d9:=q}/\q.length<=n.d9.length/\(∀x∈q,x∈n.d9)/\∀e,(T3 n).2=some e->a0C n e:=by
 have rest:(∀v,n.g7[n.a5.length]?=some v->¬v.a6>0)->∃q:List j8,(a1p n).1={n with d9:=q}/\q.length<=n.d9.length/\(∀x∈q,x∈n.d9)/\∀e,(a1p n).2=some e->a0C n e:=by
  intro hn;unfold a1p;cases ha:(n.g7.drop n.a5.length).any fun v=>decide (v.a6>0)
  ·have hnv:∀v∈n.g7.drop n.a5.length,¬v.a6>0:=fun v hv=>by simpa using d95.1 ha v hv
   cases hb:n.i3 && !F9 n.a5 n.b7.a0
   ·obtain ⟨a,b,c⟩:=c3I n.a5 n.d9;exact ⟨_,rfl,a,b,fun e he=>.queue e (c e he).1 (c e he).2.1 hnv⟩
   ·simp only [d9v,d9T] at hb;refine ⟨n.d9,rfl,d9K _,fun _ h=>h,fun e he => ?_⟩;injection he with he;subst he;exact .want hb.1 hb.2 hnv
  ·obtain ⟨v,hv,hb⟩:=e0I.1 ha;refine ⟨n.d9,rfl,d9K _,fun _ h=>h,fun e he => ?_⟩;injection he with he;subst he;exact .gap v hv (by simpa using hb) hn
 unfold T3;cases hg:n.g7[n.a5.length]? with
 | none=>exact rest (by rw [hg];simp)
 | some v =>
  simp only;cases hb:decide (v.a6>0)
  ·exact rest (by rw [hg];intro w hw;injection hw with hw;subst hw;simpa using hb)
  ·refine ⟨n.d9,rfl,d9K _,fun _ h=>h,fun e he => ?_⟩;injection he with he;subst he;exact .best v hg (by simpa using hb)
theorem a0C.ok{n:j5}(h:a2b n){e:j8}(hn:a0C n e):J0 e:=by
 cases hn with
 | best v hv hb=>exact (h.2.2.2.2.2.2.2.1.2 v (d9G hv)).2
 | gap=>exact c52
 | want=>exact h.2.2.2.2.2.2.2.2.2.2.2.1
 | queue e hq=>exact h.2.2.2.2.2.2.2.2.2.2.2.2.2 e hq
theorem d0o{id:Int}(h:0<=id/\id<=2):∃y,idx (d9u (3:Int).toNat false) id=some y:=by
 obtain rfl|rfl|rfl:id=0\/id=1\/id=2:=by omega
 all_goals exact ⟨false,rfl⟩
theorem a8L(n:j5):(M5 n=(n,[]))\/∃k,n.i3=true/\n.a5.findIdx? (C9 n.b7.a0)=some k/\M5 n=(a7g n,[⟨n.Id,n.b7.a0,O5 n.a5 k,bif O5 n.a5 k==0 then P4 n.a5 n.b7.a0 else 0⟩]):=by
 unfold M5;cases n.i3
 ·exact .inl rfl
 ·cases h:n.a5.findIdx? (C9 n.b7.a0) with
  | none=>exact .inl rfl
  | some k=>exact .inr ⟨k,rfl,rfl,rfl⟩
theorem d1x(n:j5):(M5 n).1.Id=n.Id:=by
 rcases a8L n with q|⟨k,_,_,q⟩<;>rw [q];rfl
theorem b6D(n:j5)(e:j8):(B6 n e).Id=n.Id:=by
 unfold B6;cases n.b5==3<;>rfl
theorem c4b(n:j5)(e:j8):(B6 n e).a5=n.a5++[e]:=by
 unfold B6;cases n.b5==3<;>rfl
theorem c8j{r:o7}(h:T7 r=true):r.b9.length<=4:=by
 have h0:a2a r.b9=true:=by
  rw [a6n] at h;simp only [d9v] at h;exact h.2.2.2.2.1
 obtain ⟨h1,h2⟩:=c2n.1 h0;let ps:List n6:=r.b9.map fun x=>⟨x.g8,0⟩
 have hp:∀p∈ps,Z3 p:=by
  intro p hp;obtain ⟨x,hx,rfl⟩:=List.mem_map.1 hp;exact ⟨(h1 x hx).1,(h1 x hx).2.1,by simp,by simp⟩
 have hpw:ps.Pairwise fun p q=>p.g8≠q.g8:=List.pairwise_map.2 h2
 have hl:=b6e hp;have a:=a3S hpw 0;have b:=a3S hpw 1;have c:=a3S hpw 2;have d:=a3S hpw 3;have:ps.length=r.b9.length:=List.length_map ..;omega
theorem d2z{r:o7}(h:a41 r ⟨[],[],0,0⟩=true):r=⟨[],[],0,0⟩:=(b9C _ _).1 h
theorem d2n{e:j8}(h:t9 e=true)(hn:e.i6=true):e=eN:=by
 unfold t9 at h;rw [hn] at h;simp only [cond_true,d9v,beq_iff_eq,List.cons.injEq,and_true] at h;obtain ⟨⟨h1,h2⟩,h3⟩:=h;have h4:=d2z h3;clear h3;obtain ⟨n,⟨a,b⟩,r⟩:=e;simp only at hn h1 h2 h4;subst hn h1 h2 h4;rfl
theorem c8v{r:o7}(h:T7 r=true):b2r r:=by
 obtain ⟨h1,h2,_,h4,h5⟩:=a2w h;have r4:=c8j h;have p4:=d5m h;exact ⟨Z7 (by omega) fun x hx=>by have:=h4 x hx;exact ⟨z7 (by omega),z7 (by omega)⟩,
  Z7 (by omega) fun x hx=>by have:=h5 x hx;exact ⟨z7 (by omega),z7 (by omega)⟩,z7 (by omega),z7 (by omega)⟩
theorem a5p{e:j8}(h:t9 e=true):J0 e:=by
 cases hn:e.i6 with
 | true=>rw [d2n h hn];exact c52
 | false =>
  obtain ⟨h1,h2,h3,_⟩:=a2s h hn;exact ⟨⟨z7 (by omega),z7 (by omega)⟩,c8v h3⟩
theorem c1V{l:List j8}(hl:l.length<=1000)(h:∀e∈l,t9 e=true):A0 88 J0 l:=Z7 (by omega) fun e he=>a5p (h e he)
def VI(v:n8):Prop:=v=v0\/(1<=v.a6/\v.a6<=3000/\t9 v.d7=true)
theorem c7C{v:n8}:a1a v=true↔VI v:=by
 unfold a1a VI;by_cases hb:v.a6=0
 ·simp only [hb,beq_self_eq_true,cond_true,Z2];constructor
  ·intro h;left;obtain ⟨b,e⟩:=v;simp only at hb h;subst hb h;rfl
  ·rintro (h|h)
   ·rw [h];rfl
   ·omega
 ·have:(v.a6==0)=false:=by simpa using hb
  simp only [this,cond_false,d9v,E0];constructor
  ·intro h;exact .inr ⟨h.1.1,h.1.2,h.2⟩
  ·rintro (h|h)
   ·rw [h] at hb;exact absurd rfl hb
   ·exact ⟨⟨h.1,h.2.1⟩,h.2.2⟩
theorem VI.ok{v:n8}(h:VI v):a1y v:=by
 rcases h with rfl|⟨h1,h2,h3⟩
 ·exact c06
 ·exact ⟨z7 (by omega),a5p h3⟩
theorem VI.bal{v:n8}(h:VI v):0<=v.a6/\v.a6<=3000:=by
 rcases h with rfl|⟨h1,h2,h3⟩
 ·exact ⟨by decide,by decide⟩
 ·exact ⟨by omega,h2⟩
theorem VI.pos{v:n8}(h:VI v)(hb:v.a6>0):t9 v.d7=true:=by
 rcases h with rfl|⟨_,_,h⟩
 ·exact absurd hb (by decide)
 ·exact h
theorem a6a{l:List n8}(hl:l.length<=1000)(h:∀v∈l,VI v):A0 96 a1y l:=Z7 (by omega) fun v hv=>(h v hv).ok
theorem a5G{l:List n8}:L7 l=true↔l.length<=40/\∀v∈l,VI v:=by
 unfold L7;simp only [d9v,decide_eq_true_eq,List.all_eq_true,c7C]
structure c7B(id bal pr:Int)(best:List n8):Prop where
 b1:1<=bal
 b2:bal<=3000
 mod:d9I bal 3=id
 pr:bal<=pr
 bl:best.length<=40
 bs:∀v∈best,VI v
abbrev Z1(n:j5):Prop:=c7B n.Id n.a6 n.Acc.g9 n.g7
def W4(n:j5):Prop :=
 (n.b5=0/\n.a6=0/\n.b8=[]/\n.g7=[]/\n.d6=zE/\n.a9=[])\/
 (n.b5=1/\Z1 n/\n.b8.length=3/\n.b8[n.Id.toNat]?=some true/\n.d6=zE/\n.a9=[])\/
 (n.b5=2/\Z1 n/\n.b8=[]/\n.d6=zE/\n.a9=[])\/
 (n.b5=3/\Z1 n/\n.b8=[]/\t9 n.d6=true/\n.a9.length=3/\n.a9[n.Id.toNat]?=some true/\n.a5.length<40)
def b4r(n:j5):Prop :=
 (n.i3=true/\C3 n.i5=true/\t9 n.b7=true/\n.b7.i6=false/\n.b7.a0=⟨n.Id,n.Seq⟩)\/(n.i3=false/\n.i5=[]/\n.b7=zE)
structure NI(n:j5):Prop where
 id:0<=n.Id/\n.Id<=2
 pr:0<=n.Acc.g9/\n.Acc.g9<=3000
 vl:n.Acc.a9.length<=40
 vs:∀v∈n.Acc.a9,VI v/\v.a6<=n.Acc.g9
 kl:n.a5.length<=40
 ks:∀e∈n.a5,t9 e=true
 sq:0<=n.Seq/\n.Seq<=1000
 ql:n.d9.length<=4
 qs:∀e∈n.d9,t9 e=true/\e.i6=false
 ld:W4 n
 wt:b4r n
theorem a7A{α:Type}{l:List α}:((l.length:Int)==0)=true↔l=[]:=by
 rw [beq_iff_eq];constructor
 ·intro h;exact d9D (by omega)
 ·rintro rfl;rfl
theorem c6E{α:Type}{l:List α}:((l.length:Int)=0)↔l=[]:=by rw [<-a7A,beq_iff_eq]
theorem c0r{l:List Bool}{id:Int}(h:0<=id/\id<=2):a5Z l id=true↔l.length=3/\l[id.toNat]?=some true:=by
 unfold a5Z b1m;have e:idx l id=l[id.toNat]?:=by unfold idx;rw [if_pos h.1]
 rw [e,d9v,beq_iff_eq];constructor
 ·rintro ⟨h1,h2⟩
  refine ⟨by omega,?_⟩;cases hq:l[id.toNat]? with
  | none=>rw [hq] at h2;cases h2
  | some b=>rw [hq] at h2;simp at h2;rw [h2]
 ·rintro ⟨h1,h2⟩
  exact ⟨by omega,by rw [h2];rfl⟩
theorem b36{n:j5}:a5B n=true↔n.d6=zE/\n.a9=[]:=by
 unfold a5B;rw [d9v,Z2,a7A]
theorem c3k{n:j5}(hid:0<=n.Id/\n.Id<=2):a0u n=true↔W4 n:=by
 have hown:(a0N n.a6==n.Id)=true/\n.a6<=n.Acc.g9/\L7 n.g7=true↔Z1 n:=by
  rw [a5G];constructor
  ·rintro ⟨h1,h2,h3⟩
   have hb:=E0.1 (c1g (E0.2 hid) h1);unfold a0N at h1;rw [E0.2 hb] at h1;exact ⟨hb.1,hb.2,by simpa using h1,h2,h3.1,h3.2⟩
  ·intro h;refine ⟨?_,h.pr,h.bl,h.bs⟩;unfold a0N;rw [E0.2 ⟨h.b1,h.b2⟩];simpa using h.mod
 unfold a0u W4;by_cases p0:n.b5=0
 ·simp only [p0,beq_self_eq_true,cond_true,d9v,b36,beq_iff_eq,c6E];constructor
  ·rintro ⟨a,b,c,d,e⟩;exact .inl ⟨trivial,a,b,c,d,e⟩
  ·rintro (h|h|h|h)
   ·exact ⟨h.2.1,h.2.2.1,h.2.2.2.1,h.2.2.2.2.1,h.2.2.2.2.2⟩
   all_goals exact absurd h.1 (by omega)
 ·have q0:(n.b5==0)=false:=by simpa using p0
  simp only [q0,cond_false,d9v,decide_eq_true_eq];rw [<-and_assoc,<-and_assoc,and_assoc (a:=(a0N n.a6==n.Id)=true),hown];by_cases p1:n.b5=1
  ·simp only [p1,beq_self_eq_true,cond_true,d9v,c0r hid,b36];constructor
   ·rintro ⟨a,⟨b,c⟩,d,e⟩;exact .inr (.inl ⟨trivial,a,b,c,d,e⟩)
   ·rintro (h|h|h|h)
    ·exact absurd h.1 (by omega)
    ·exact ⟨h.2.1,⟨h.2.2.1,h.2.2.2.1⟩,h.2.2.2.2.1,h.2.2.2.2.2⟩
    all_goals exact absurd h.1 (by omega)
  ·have q1:(n.b5==1)=false:=by simpa using p1
   by_cases p2:n.b5=2
   ·have q2:(n.b5==2)=true:=by simpa using p2
    simp only [q1,q2,cond_true,cond_false,d9v,a7A,b36];constructor
    ·rintro ⟨a,b,c,d⟩;exact .inr (.inr (.inl ⟨p2,a,b,c,d⟩))
    ·rintro (h|h|h|h)
     ·exact absurd h.1 (by omega)
     ·exact absurd h.1 (by omega)
     ·exact ⟨h.2.1,h.2.2.1,h.2.2.2.1,h.2.2.2.2⟩
     ·exact absurd h.1 (by omega)
   ·have q2:(n.b5==2)=false:=by simpa using p2
    by_cases p3:n.b5=3
    ·have q3:(n.b5==3)=true:=by simpa using p3
     simp only [q1,q2,q3,cond_true,cond_false,d9v,a7A,c0r hid,decide_eq_true_eq];constructor
     ·rintro ⟨a,b,c,⟨d,e⟩,f⟩;exact .inr (.inr (.inr ⟨p3,a,b,c,d,e,by omega⟩))
     ·rintro (h|h|h|h)
      ·exact absurd h.1 (by omega)
      ·exact absurd h.1 (by omega)
      ·exact absurd h.1 (by omega)
      ·exact ⟨h.2.1,h.2.2.1,h.2.2.2.1,⟨h.2.2.2.2.1,h.2.2.2.2.2.1⟩,by omega⟩
    ·have q3:(n.b5==3)=false:=by simpa using p3
     simp only [q1,q2,q3,cond_false,e0v,and_false,false_iff];rintro (h|h|h|h)<;>omega
theorem a5r{a b:m8}:(([a.b6,a.Seq]:List Int)==[b.b6,b.Seq])=true↔a=b:=by
 obtain ⟨a1,a2⟩:=a;obtain ⟨b1,b2⟩:=b;simp
theorem c1O{n:j5}:a4D n=true↔b4r n:=by
 unfold a4D b4r;cases n.i3
 ·simp only [cond_false,d9v,a7A,Z2,e0v,false_and,false_or,true_and]
 ·simp only [cond_true,d9v,d9T,Bool.true_eq_false,false_and,or_false,true_and];rw [show (([n.b7.a0.b6,n.b7.a0.Seq]:List Int)==[n.Id,n.Seq])=true↔n.b7.a0=⟨n.Id,n.Seq⟩ from a5r (b:=⟨n.Id,n.Seq⟩)]
theorem a2m{n:j5}:G0 n=true↔NI n:=by
 unfold G0 Q1 F5 b4I;simp only [d9v,E0,a5G,List.all_eq_true,decide_eq_true_eq,d9T,decide_eq_false_iff_not];constructor
 ·rintro ⟨h1,⟨h2,h3,h4⟩,⟨h5,h6⟩,h7,h8,h9,h10,h11⟩
  exact ⟨h1,h2,h3.1,fun v hv=>⟨h3.2 v hv,by have:=h4 v hv;omega⟩,h5,h6,h7,by omega,h11,(c3k h1).1 h9,c1O.1 h10⟩
 ·intro h;exact ⟨h.id,⟨h.pr,⟨h.vl,fun v hv=>(h.vs v hv).1⟩,fun v hv=>by have:=(h.vs v hv).2;omega⟩,⟨h.kl,h.ks⟩,h.sq,by have:=h.ql;omega,(c3k h.id).2 h.ld,c1O.2 h.wt,h.qs⟩
theorem d2u{i:m7}(h:K6 i=true):a9b i:=by
 unfold K6 at h;by_cases k1:i.a7=1
 ·simp [k1,n7] at h;exact ⟨z7 (by omega),z7 (by omega),z7 (by omega),z7 (by omega)⟩
 by_cases k2:i.a7=2
 ·simp [k2,n7] at h;exact ⟨z7 (by omega),z7 (by omega),z7 (by omega),z7 (by omega)⟩
 by_cases k3:i.a7=3
 ·simp [k3,n7] at h;exact ⟨z7 (by omega),z7 (by omega),z7 (by omega),z7 (by omega)⟩
 by_cases k4:i.a7=4
 ·simp [k4,n7] at h;exact ⟨z7 (by omega),z7 (by omega),z7 (by omega),z7 (by omega)⟩
 by_cases k5:i.a7=5
 ·simp [k5,n7] at h;exact ⟨z7 (by omega),z7 (by omega),z7 (by omega),z7 (by omega)⟩
 by_cases k6:i.a7=6
 ·simp [k6,n7] at h;exact ⟨z7 (by omega),z7 (by omega),z7 (by omega),z7 (by omega)⟩
 by_cases k7:i.a7=7
 ·simp [k7] at h;exact ⟨z7 (by omega),z7 (by omega),z7 (by omega),z7 (by omega)⟩
 ·simp [k1,k2,k3,k4,k5,k6,k7] at h
theorem c5j{l:List m7}(h:C3 l=true):A0 32 a9b l:=by
 obtain ⟨h1,h2⟩:=c2x h;exact Z7 (by omega) fun i hi=>d2u (h2 i hi)
theorem W4.phase{n:j5}(h:W4 n):0<=n.b5/\n.b5<=3:=by
 rcases h with h|h|h|h<;>omega
theorem W4.bal{n:j5}(h:W4 n):0<=n.a6/\n.a6<=3000:=by
 rcases h with h|h|h|h
 ·omega
 all_goals exact ⟨by have:=h.2.1.b1;omega,h.2.1.b2⟩
theorem W4.best{n:j5}(h:W4 n):n.g7.length<=40/\∀v∈n.g7,VI v:=by
 rcases h with h|h|h|h
 ·rw [h.2.2.2.1];exact ⟨by simp,by simp⟩
 all_goals exact ⟨h.2.1.bl,h.2.1.bs⟩
theorem W4.from3{n:j5}(h:W4 n):n.b8.length<=3/\n.a9.length<=3/\J0 n.d6:=by
 rcases h with h|h|h|h
 ·rw [h.2.2.1,h.2.2.2.2.2,h.2.2.2.2.1];exact ⟨by simp,by simp,a2y⟩
 ·rw [h.2.2.2.2.2,h.2.2.2.2.1];exact ⟨by omega,by simp,a2y⟩
 ·rw [h.2.2.1,h.2.2.2.1,h.2.2.2.2];exact ⟨by simp,by simp,a2y⟩
 ·rw [h.2.2.1];exact ⟨by simp,by omega,a5p h.2.2.2.1⟩
theorem NI.ok{n:j5}(h:NI n):a2b n:=by
 have hf:=h.ld.from3;have hb:=h.ld.best;have hw:J0 n.b7/\A0 32 a9b n.i5:=by
  rcases h.wt with q|q
  ·exact ⟨a5p q.2.2.1,c5j q.2.1⟩
  ·rw [q.2.1,q.2.2];exact ⟨a2y,a1l⟩
 have hph:=h.ld.phase;have hbl:=h.ld.bal;have h1:=h.id;have h2:=h.pr;have h3:=h.sq;have h4:=h.vl;have h5:=h.kl;have h6:=h.ql;exact ⟨z7 (by omega),⟨z7 (by omega),a6a (by omega) fun v hv=>(h.vs v hv).1⟩,c1V (by omega) h.ks,z7 (by omega),z7 (by omega),z7 (by omega),
  Z7 (by omega) (fun _ _=>trivial),a6a (by omega) hb.2,hf.2.2,Z7 (by omega) (fun _ _=>trivial),hw.2,hw.1,c1V (by omega) fun e he=>(h.qs e he).1⟩
theorem NI.list{n:j5}(h:NI n):F5 n.a5=true:=by
 unfold F5;simp only [d9v,decide_eq_true_eq,List.all_eq_true];exact ⟨h.kl,h.ks⟩
def O1(m:l8):Prop :=
 ((m.a7=1\/m.a7=4)/\(1<=m.a6/\m.a6<=3000)/\m.d7=zE/\m.a9=[])\/
 (m.a7=2/\(1<=m.a6/\m.a6<=3000)/\m.d7=zE/\(m.a9.length<=40/\∀v∈m.a9,VI v)/\m.c9+m.a9.length<=40)\/
 (m.a7=3/\(1<=m.a6/\m.a6<=3000)/\m.c9<40/\t9 m.d7=true/\m.a9=[])\/
 (m.a7=5/\m.a6=0/\m.c9<40/\t9 m.d7=true/\m.a9=[])\/
 (m.a7=6/\(1<=m.a6/\m.a6<=3000)/\m.c9=0/\m.d7=zE/\m.a9=[])\/
 (m.a7=7/\m.a6=0/\m.c9=0/\t9 m.d7=true/\m.d7.i6=false/\m.a9=[])\/
 (m.a7=8/\m.a6=0/\m.d7=zE/\m.a9=[])
structure MI(m:l8):Prop where
 fr:0<=m.b8/\m.b8<=2
 to:0<=m.To/\m.To<=2
 ne:m.b8≠m.To
 sl:0<=m.c9/\m.c9<=40
 kd:O1 m
theorem c2M{m:l8}:V7 m=true↔MI m:=by
 have hk:(0<=m.c9/\m.c9<=40)->(b2i m=true↔O1 m):=by
  intro hs;have hw:L7 m.a9=true->l9 (m.c9+(m.a9.length:Int))=m.c9+(m.a9.length:Int):=by
   intro hv;have:=(a5G.1 hv).1;exact C8 (by omega) (by omega)
  unfold b2i O1;simp only [Bool.cond_eq_ite];by_cases k1:m.a7=1
  ·simp [k1,E0,Z2]
  by_cases k4:m.a7=4
  ·simp [k4,E0,Z2]
  by_cases k2:m.a7=2
  ·simp only [k2,E0,Z2,beq_self_eq_true,if_true,d9v,decide_eq_true_eq];simp only [show ((2:Int)==1)=false from rfl,show ((2:Int)==4)=false from rfl,e0v,if_false,d9v,E0,Z2,decide_eq_true_eq];constructor
   ·rintro ⟨a,b,c,d⟩
    rw [hw c] at d;exact .inr (.inl ⟨trivial,a,b,a5G.1 c,d⟩)
   ·rintro (h|h|h|h|h|h|h)
    ·omega
    ·have c:=a5G.2 h.2.2.2.1;exact ⟨h.2.1,h.2.2.1,c,by rw [hw c];exact h.2.2.2.2⟩
    all_goals exact absurd h.1 (by omega)
  by_cases k3:m.a7=3
  ·simp [k3,E0]
  by_cases k5:m.a7=5
  ·simp [k5]
  by_cases k6:m.a7=6
  ·simp [k6,E0,Z2]
  by_cases k7:m.a7=7
  ·simp [k7]
  by_cases k8:m.a7=8
  ·simp [k8,Z2]
  ·simp [k1,k2,k3,k4,k5,k6,k7,k8]
 unfold V7;simp only [d9v,E0,d9T,beq_eq_false_iff_ne];constructor
 ·rintro ⟨a,b,c,d,e⟩;exact ⟨a,b,c,d,(hk d).1 e⟩
 ·intro h;exact ⟨h.fr,h.to,h.ne,h.sl,(hk h.sl).2 h.kd⟩
theorem MI.ok{m:l8}(h:MI m):a6N m:=by
 have hf:=h.fr;have ht:=h.to;have hs:=h.sl;have hk:G2 m.a7/\G2 m.a6/\J0 m.d7/\A0 96 a1y m.a9:=by
  rcases h.kd with q|q|q|q|q|q|q
  ·rw [q.2.2.1,q.2.2.2];exact ⟨z7 (by omega),z7 (by omega),a2y,a1l⟩
  ·rw [q.2.2.1];exact ⟨z7 (by omega),z7 (by omega),a2y,a6a (by omega) q.2.2.2.1.2⟩
  ·rw [q.2.2.2.2];exact ⟨z7 (by omega),z7 (by omega),a5p q.2.2.2.1,a1l⟩
  ·rw [q.2.2.2.2];exact ⟨z7 (by omega),z7 (by omega),a5p q.2.2.2.1,a1l⟩
  ·rw [q.2.2.2.2,q.2.2.2.1];exact ⟨z7 (by omega),z7 (by omega),a2y,a1l⟩
  ·rw [q.2.2.2.2.2];exact ⟨z7 (by omega),z7 (by omega),a5p q.2.2.2.1,a1l⟩
  ·rw [q.2.2.1,q.2.2.2];exact ⟨z7 (by omega),z7 (by omega),a2y,a1l⟩
 exact ⟨hk.1,z7 (by omega),z7 (by omega),hk.2.1,z7 (by omega),hk.2.2.1,hk.2.2.2⟩
structure WI(w:j9):Prop where
 nl:w.a8.length=3
 ns:∀(i:Nat) (n:j5),w.a8[i]?=some n->n.Id=(i:Int)/\NI n
 ml:w.i0.length<=40
 ms:∀m∈w.i0,MI m
 al:w.f0.length<=60
 aq:∀a∈w.f0,a1f a=true
 tl:w.Told.length<=60
 ts:∀t∈w.Told,Y0 t=true
theorem a1T{w:j9}:C4 w=true↔WI w:=by
 unfold C4;simp only [d9v,beq_iff_eq,decide_eq_true_eq,List.all_eq_true,e0m,c2M];constructor
 ·rintro ⟨h1,h2,h3,h4,h5,h6,h7,h8⟩
  refine ⟨by omega,?_,by omega,h6,by omega,h7,by omega,h8⟩;intro i n hn;have hi:=(d9x.1 hn).1;have:=h5 i hi;unfold a4Y at this;rw [hn] at this;simp only [d9v,beq_iff_eq,a2m] at this;exact this
 ·intro h;have h2:=h.ml;have h3:=h.al;have h4:=h.tl;refine ⟨by have:=h.nl;omega,by omega,by omega,by omega,?_,h.ms,h.aq,h.ts⟩;intro i hi;unfold a4Y;rw [d9t hi];simp only [d9v,beq_iff_eq,a2m];exact h.ns i _ (d9t hi)
theorem d5V{a:D5}(h:a1f a=true):b9H a:=by
 unfold a1f at h;simp only [d9v,E0] at h;exact ⟨⟨z7 (by omega),z7 (by omega)⟩,c5j h.2⟩
theorem c66{t:s9}(h:Y0 t=true):c09 t:=by
 unfold Y0 at h;simp only [d9v,E0] at h;exact ⟨z7 (by omega),⟨z7 (by omega),z7 (by omega)⟩,z7 (by omega),z7 (by omega)⟩
theorem WI.ok{w:j9}(h:WI w):Q8 w:=by
 have h1:=h.nl;have h2:=h.ml;have h3:=h.al;have h4:=h.tl;refine ⟨Z7 (by omega) ?_,Z7 (by omega) fun m hm=>(h.ms m hm).ok,Z7 (by omega) fun a ha=>d5V (h.aq a ha),Z7 (by omega) fun t ht=>c66 (h.ts t ht)⟩;intro n hn;obtain ⟨i,hi⟩:=e0P hn;exact (h.ns i n hi).2.ok
theorem d6z(n:j5)(b:Int):(I8 n b).Acc=n.Acc:=by
 unfold I8;cases n.b5 != 0&&decide (b>n.a6)<;>rfl
theorem a2r{a x:z4}{b:Int}(h:D7 a b=some x):x=⟨b,a.a9⟩/\1<=b/\b<=3000/\a.g9<=b:=by
 unfold D7 a9r at h;cases hq:n7 b 1 3000&&decide (a.g9<=b)
 ·rw [hq] at h;cases h
 ·rw [hq] at h;simp only [d9v,E0,decide_eq_true_eq] at hq;injection h with h;exact ⟨h.symm,hq.1.1,hq.1.2,hq.2⟩
theorem b8E{α:Type}(l:List α)(k:Nat):(l.drop k).take (l.length-k)=l.drop k:=by
 rw [d99];simp
theorem c4e{l:List Bool}(h:l.length<=3):q9 l:=by unfold q9;omega
theorem a1L(id:Int)(m:l8):(D2 id m).length<=3:=by
 unfold D2;rw [List.length_map];exact List.length_filter_le _ _
theorem a8B(n:j5):(F4 n).2.length<=3:=by
 unfold F4 a1i;cases n.b5 != 2||decide (40<=n.a5.length)
 ·simp only [cond_false];cases T3 n with
  | mk x o =>
   cases o with
   | none=>simp
   | some e =>
    simp only;cases E5 x.Acc x.a6 (x.a5.length:Int) e with
    | none=>simp
    | some a=>exact a1L _ _
 ·simp
theorem c3O{n:j5}(m:l8){k:Nat}(hk:k<n.a5.length):X3 n m k=[H6 m ⟨5,0,0,0,(k:Int),n.a5[k],[]⟩]:=by
 unfold X3;rw [d9t hk]
theorem b1o{a x:z4}{b s:Int}{e:j8}(h:E5 a b s e=some x):∃k:Nat,s=(k:Int)/\k<40/\t9 e=true/\1<=b/\b<=3000/\a.g9<=b/\x=⟨b,(O4 a.a9 (k+1)).set k ⟨b,e⟩⟩:=by
 unfold E5 at h;cases hq:n7 s 0 39&&t9 e
 ·rw [hq] at h;cases h
 ·rw [hq,cond_true] at h;simp only [d9v,E0] at hq;cases hp:D7 a b with
  | none=>rw [hp] at h;cases h
  | some y =>
   rw [hp] at h;obtain ⟨rfl,h1,h2,h3⟩:=a2r hp;injection h with h;refine ⟨s.toNat,by omega,by omega,hq.2,h1,h2,h3,h.symm⟩
theorem b6k{a:z4}{b:Int}(h1:1<=b)(h2:b<=3000)(h3:a.g9<=b):D7 a b=some ⟨b,a.a9⟩:=by
 unfold D7 a9r;rw [E0.2 ⟨h1,h2⟩,show decide (a.g9<=b)=true by simpa using h3];rfl
theorem d2J{a:z4}{b:Int}{k:Nat}{e:j8}(hk:k<40)(he:t9 e=true)(h1:1<=b)(h2:b<=3000)(h3:a.g9<=b):E5 a b (k:Int) e=some ⟨b,(O4 a.a9 (k+1)).set k ⟨b,e⟩⟩:=by
 unfold E5;rw [E0.2 (show 0<=(k:Int)/\(k:Int)<=39 by omega),he,b6k h1 h2 h3];rfl
theorem b5t{vs:List n8}{n:Nat}{v:n8}(h:v∈O4 vs n):v∈vs\/v=v0:=by
 rcases List.mem_append.1 h with q|q
 ·exact .inl q
 ·exact .inr (e0i.1 q).2
theorem c3q{α:Type}{l:List α}{k:Nat}{x v:α}(h:v∈l.set k x):v∈l\/v=x:=List.mem_or_eq_of_mem_set h
theorem NI.queue{n:j5}(h:NI n){q:List j8}(hl:q.length<=4)(hm:∀e∈q,t9 e=true/\e.i6=false):NI {n with d9:=q} :=
 ⟨h.id,h.pr,h.vl,h.vs,h.kl,h.ks,h.sq,hl,hm,h.ld,h.wt⟩
theorem NI.down{n:j5}(h:NI n):NI (a1X n) :=
 ⟨h.id,h.pr,h.vl,h.vs,h.kl,h.ks,h.sq,h.ql,h.qs,.inl ⟨rfl,rfl,rfl,rfl,rfl,rfl⟩,h.wt⟩
theorem NI.freeN{n:j5}(h:NI n):NI (a7g n) :=
 ⟨h.id,h.pr,h.vl,h.vs,h.kl,h.ks,h.sq,h.ql,h.qs,h.ld,.inr ⟨rfl,rfl,rfl⟩⟩
theorem NI.acc{n:j5}(h:NI n){a:z4}(h1:0<=a.g9/\a.g9<=3000)(h2:a.a9.length<=40)(h3:∀v∈a.a9,VI v/\v.a6<=a.g9)(h4:n.Acc.g9<=a.g9):NI {n with Acc:=a}:=by
 have ho:Z1 n->Z1 {n with Acc:=a}:=fun o=>⟨o.b1,o.b2,o.mod,e0c o.pr h4,o.bl,o.bs⟩
 refine ⟨h.id,h1,h2,h3,h.kl,h.ks,h.sq,h.ql,h.qs,?_,h.wt⟩;rcases h.ld with q|q|q|q
 ·exact .inl q
 ·exact .inr (.inl ⟨q.1,ho q.2.1,q.2.2⟩)
 ·exact .inr (.inr (.inl ⟨q.1,ho q.2.1,q.2.2⟩))
 ·exact .inr (.inr (.inr ⟨q.1,ho q.2.1,q.2.2⟩))
theorem NI.promise{n:j5}(h:NI n){b:Int}{x:z4}(hp:D7 n.Acc b=some x):NI {n with Acc:=x}:=by
 obtain ⟨rfl,h1,h2,h3⟩:=a2r hp;exact h.acc ⟨by simp only;omega,h2⟩ h.vl (fun v hv=>⟨(h.vs v hv).1,e0c (h.vs v hv).2 h3⟩) h3
theorem d4D{vs:List n8}{p b:Int}{k:Nat}{e:j8}(hk:k<40)(hl:vs.length<=40)(hv:∀v∈vs,VI v/\v.a6<=p)(he:t9 e=true)(h1:1<=b)(h2:b<=3000)(h3:p<=b) :
  ((O4 vs (k+1)).set k ⟨b,e⟩).length<=40/\∀v∈(O4 vs (k+1)).set k ⟨b,e⟩,VI v/\v.a6<=b:=by
 refine ⟨by rw [d94,b3J];omega,fun v hm => ?_⟩;rcases c3q hm with q|q
 ·rcases b5t q with q|q
  ·exact ⟨(hv v q).1,e0c (hv v q).2 h3⟩
  ·rw [q];exact ⟨.inl rfl,by show (0:Int)<=b;omega⟩
 ·rw [q];exact ⟨.inr ⟨h1,h2,he⟩,d9O _⟩
theorem NI.cast{n:j5}(h:NI n){b s:Int}{e:j8}{x:z4}(hc:E5 n.Acc b s e=some x):NI {n with Acc:=x}:=by
 obtain ⟨k,rfl,hk,he,h1,h2,h3,rfl⟩:=b1o hc;obtain ⟨a,b'⟩:=d4D hk h.vl h.vs he h1 h2 h3;exact h.acc ⟨by simp only;omega,h2⟩ a b' h3
theorem NI.yield{n:j5}(h:NI n)(b:Int):NI (I8 n b):=by
 unfold I8;cases n.b5 != 0&&decide (b>n.a6)
 ·exact h
 ·exact h.down
theorem b5Z{id:Int}(h:0<=id/\id<=2):(Z4 id).length=3/\(Z4 id)[id.toNat]?=some true:=by
 unfold Z4;refine ⟨by simp,?_⟩;rw [e0t (by simp;omega)]
theorem a0C.right{n:j5}(h:NI n){e:j8}(hn:a0C n e):t9 e=true:=by
 cases hn with
 | best v hv hb=>exact (h.ld.best.2 v (d9G hv)).pos hb
 | gap=>rfl
 | want hb =>
  rcases h.wt with q|q
  ·exact q.2.2.1
  ·rw [hb] at q;cases q.1
 | queue e hq=>exact (h.qs e hq).1
theorem a2f{id:Int}{m x:l8}(hid:0<=id/\id<=2)(h:x∈D2 id m):∃t:Int,0<=t/\t<=2/\t≠id/\x={m with b8:=id,To:=t}:=by
 unfold D2 at h;obtain ⟨t,ht,rfl⟩:=List.mem_map.1 h;obtain ⟨h1,h2⟩:=List.mem_filter.1 ht;refine ⟨t,?_,?_,by simpa using h2,rfl⟩;all_goals simp at h1;omega
theorem a3J{id:Int}{m:l8}(hid:0<=id/\id<=2)(hk:O1 m)(hs:0<=m.c9/\m.c9<=40):∀x∈D2 id m,MI x:=by
 intro x hx;obtain ⟨t,h1,h2,h3,rfl⟩:=a2f hid hx;exact ⟨hid,⟨h1,h2⟩,fun q=>h3 q.symm,hs,hk⟩
theorem a6J{m o:l8}(hm:MI m)(hk:O1 o)(hs:0<=o.c9/\o.c9<=40):MI (H6 m o):=⟨hm.to,hm.fr,fun q=>hm.ne q.symm,hs,hk⟩
theorem O1.one{k b s:Int}(hk:k=1\/k=4)(hb:1<=b/\b<=3000):O1 ⟨k,0,0,b,s,zE,[]⟩:=.inl ⟨hk,hb,rfl,rfl⟩
theorem O1.accept{b s:Int}{e:j8}(hb:1<=b/\b<=3000)(hs:s<40)(he:t9 e=true):O1 ⟨3,0,0,b,s,e,[]⟩:=.inr (.inr (.inl ⟨rfl,hb,hs,he,rfl⟩))
theorem O1.chosen{s:Int}{e:j8}(hs:s<40)(he:t9 e=true):O1 ⟨5,0,0,0,s,e,[]⟩:=.inr (.inr (.inr (.inl ⟨rfl,rfl,hs,he,rfl⟩)))
theorem O1.refuse{b:Int}(hb:1<=b/\b<=3000):O1 ⟨6,0,0,b,0,zE,[]⟩:=.inr (.inr (.inr (.inr (.inl ⟨rfl,hb,rfl,rfl,rfl⟩))))
theorem O1.ask{e:j8}(he:t9 e=true)(hn:e.i6=false):O1 ⟨7,0,0,0,0,e,[]⟩:=.inr (.inr (.inr (.inr (.inr (.inl ⟨rfl,rfl,rfl,he,hn,rfl⟩)))))
theorem O1.need{s:Int}:O1 ⟨8,0,0,0,s,zE,[]⟩:=.inr (.inr (.inr (.inr (.inr (.inr ⟨rfl,rfl,rfl,rfl⟩)))))
structure N4(n:j5)(x:j5×List l8):Prop where
 ni:NI x.1
 id:x.1.Id=n.Id
 ms:∀m∈x.2,MI m
theorem N4.same{n:j5}(h:NI n):N4 n (n,[]):=⟨h,rfl,by simp⟩
theorem N4.to{n n':j5}(hi:n'.Id=n.Id){x:j5×List l8}(h:N4 n' x):N4 n x:=⟨h.ni,h.id.trans hi,h.ms⟩
theorem a6V{n:j5}(h:NI n):N4 n (F4 n):=by
 unfold F4;cases hc:n.b5 != 2||decide (40<=n.a5.length)
 ·simp only [cond_false];simp only [e0h,bne_eq_false_iff_eq,decide_eq_false_iff_not] at hc;obtain ⟨q,hq,hql,hqm,hqe⟩:=a7b n;cases hx:T3 n with
  | mk x o =>
  rw [hx] at hq hqe;have hq:x={n with d9:=q}:=hq;have hn:NI {n with d9:=q}:=h.queue (by have:=h.ql;omega) fun e he=>h.qs e (hqm e he)
  subst hq;cases o with
  | none=>exact ⟨hn,rfl,by simp⟩
  | some e =>
   have he:=(hqe e rfl).right h;simp only [a1i];have ho:Z1 n:=by
    rcases h.ld with q|q|q|q
    ·omega
    ·omega
    ·exact q.2.1
    ·omega
   cases hcs:E5 n.Acc n.a6 (n.a5.length:Int) e with
   | none=>exact ⟨hn.down,rfl,by simp⟩
   | some a =>
    have hac:=hn.cast (b:=n.a6) (s:=(n.a5.length:Int)) (e:=e) hcs;obtain ⟨k,hk,hk40,_,h1,h2,h3,rfl⟩:=b1o hcs;refine ⟨⟨h.id,hac.pr,hac.vl,hac.vs,h.kl,h.ks,h.sq,hn.ql,hn.qs,?_,h.wt⟩,rfl,a3J h.id (.accept ⟨h1,h2⟩ (by omega) he) (by simp only;omega)⟩;refine .inr (.inr (.inr ⟨rfl,⟨ho.b1,ho.b2,ho.mod,d9O _,ho.bl,ho.bs⟩,?_,he,(b5Z h.id).1,(b5Z h.id).2,by simp only;omega⟩));rcases h.ld with q|q|q|q
    ·omega
    ·omega
    ·exact q.2.2.1
    ·omega
 ·exact .same h
theorem NI.know{n:j5}(h:NI n){e:j8}(he:t9 e=true)(hl:n.a5.length<40):NI (B6 n e):=by
 have hks:∀x∈n.a5++[e],t9 x=true:=by
  intro x hx;rcases List.mem_append.1 hx with q|q
  ·exact h.ks x q
  ·rw [d9y.1 q];exact he
 have hkl:(n.a5++[e]).length<=40:=by simp;omega
 unfold B6;by_cases p3:n.b5=3
 ·rw [show (n.b5==3)=true by simpa using p3];refine ⟨h.id,h.pr,h.vl,h.vs,hkl,hks,h.sq,h.ql,h.qs,?_,h.wt⟩;rcases h.ld with q|q|q|q
  ·omega
  ·omega
  ·omega
  ·exact .inr (.inr (.inl ⟨rfl,⟨q.2.1.b1,q.2.1.b2,q.2.1.mod,q.2.1.pr,q.2.1.bl,q.2.1.bs⟩,q.2.2.1,rfl,rfl⟩))
 ·rw [show (n.b5==3)=false by simpa using p3];refine ⟨h.id,h.pr,h.vl,h.vs,hkl,hks,h.sq,h.ql,h.qs,?_,h.wt⟩;rcases h.ld with q|q|q|q
  ·exact .inl q
  ·exact .inr (.inl ⟨q.1,⟨q.2.1.b1,q.2.1.b2,q.2.1.mod,q.2.1.pr,q.2.1.bl,q.2.1.bs⟩,q.2.2⟩)
  ·exact .inr (.inr (.inl ⟨q.1,⟨q.2.1.b1,q.2.1.b2,q.2.1.mod,q.2.1.pr,q.2.1.bl,q.2.1.bs⟩,q.2.2⟩))
  ·exact absurd q.1 p3
theorem c6o{s:t7}{e:j8}(hn:e.i6=false):0<=(apply s e).2/\(apply s e).2<=4:=by
 have hf:0<=(J8 s e).2/\(J8 s e).2<=4:=by
  unfold J8;cases a0D s.d8 e.c7
  ·exact ⟨by simp,by simp⟩
  ·cases e.c7.Code==0<;>exact ⟨by simp,by simp⟩
 unfold apply;rw [hn];simp only [cond_false];cases s.i4.find? fun d=>d.a0.b6==e.a0.b6 with
 | none=>exact hf
 | some d =>
  simp only;cases d.a0.Seq==e.a0.Seq
  ·cases decide (d.a0.Seq>e.a0.Seq)
   ·exact hf
   ·exact ⟨by simp,by simp⟩
  ·exact ⟨by simp,by simp⟩
theorem a9I{l:List j8}{q:m8}{k:Nat}(h:l.findIdx? (C9 q)=some k):∃hk:k<l.length,l[k].i6=false/\l[k].a0=q:=by
 rw [d90] at h;obtain ⟨hk,h1,_⟩:=h;unfold C9 at h1;simp only [d9v,d9T] at h1;exact ⟨hk,h1.1,a5r.1 h1.2⟩
theorem b61{l:List j8}(h:F5 l=true){k:Nat}(hk:k<l.length):O5 l k=(apply (m9 (l.take k)).1 l[k]).2:=by
 obtain ⟨a,b⟩:=a0S h;unfold O5;rw [d1f a b hk];rfl
theorem c7t{l:List j8}(h:∀e∈l,t9 e=true)(q:m8):-1000000<=P4 l q/\P4 l q<=1000000:=by
 unfold P4;cases hf:l.findIdx? (C9 q) with
 | none=>exact ⟨by simp,by simp⟩
 | some k =>
  obtain ⟨hk,h1,h2⟩:=a9I hf;simp only [d9t hk];exact (a2w (a2s (h _ (d9w hk)) h1).2.2.1).2.1
theorem d8t{n:j5}(h:NI n):NI (M5 n).1/\∀t∈(M5 n).2,Y0 t=true:=by
 rcases a8L n with q|⟨k,hb,hk,q⟩<;>rw [q]
 ·exact ⟨h,by simp⟩
 ·refine ⟨h.freeN,fun t ht => ?_⟩;obtain ⟨hkl,h1,h2⟩:=a9I hk;have ht:=d9y.1 ht;subst ht;have hw:n.b7.a0=⟨n.Id,n.Seq⟩/\t9 n.b7=true/\n.b7.i6=false:=by
   rcases h.wt with q|q
   ·exact ⟨q.2.2.2.2,q.2.2.1,q.2.2.2.1⟩
   ·rw [hb] at q;cases q.1
  obtain ⟨w1,w2,_⟩:=a2s hw.2.1 hw.2.2;have hc:=c6o (s:=(m9 (n.a5.take k)).1) h1;rw [<-b61 h.list hkl] at hc;have hv:=c7t h.ks n.b7.a0;unfold Y0;simp only [d9v,E0,beq_iff_eq];refine ⟨h.id,⟨w1,w2⟩,by rw [hw.1],hc,?_⟩;cases O5 n.a5 k==0
  ·exact ⟨by simp,by simp⟩
  ·exact hv
structure a3R(n:j5)(x:j5×List l8×List s9):Prop where
 ni:NI x.1
 id:x.1.Id=n.Id
 ms:∀m∈x.2.1,MI m
 ts:∀t∈x.2.2,Y0 t=true
theorem N4.three{n:j5}{x:j5×List l8}(h:N4 n x):a3R n (x.1,x.2,[]):=⟨h.ni,h.id,h.ms,by simp⟩
theorem a3R.same{n:j5}(h:NI n):a3R n (n,[],[]):=⟨h,rfl,by simp,by simp⟩
theorem c1s{n:j5}(h:NI n){e:j8}(he:t9 e=true)(hl:n.a5.length<40):a3R n (R0 n e):=by
 have h1:=h.know he hl;obtain ⟨h2,h3⟩:=d8t h1;have h4:=a6V h2;exact ⟨h4.ni,h4.id.trans ((d1x _).trans (b6D _ _)),h4.ms,h3⟩
theorem d7o{a:z4}{b:Int}(h:D7 a b=none)(hb:1<=b/\b<=3000):b<a.g9:=by
 by_cases q:a.g9<=b
 ·rw [b6k hb.1 hb.2 q] at h;cases h
 ·omega
theorem b8o{n:j5}(h:NI n){m:l8}(hm:MI m)(hk:m.a7=1):N4 n (V4 n m):=by
 have hb:1<=m.a6/\m.a6<=3000:=by
  rcases hm.kd with q|q|q|q|q|q|q
  ·exact q.2.1
  all_goals exact absurd q.1 (by omega)
 have hs:=hm.sl;unfold V4;cases hp:D7 n.Acc m.a6 with
 | none =>
  have:=d7o hp hb;refine ⟨h,rfl,fun x hx => ?_⟩;rw [d9y.1 hx];exact a6J hm (.refuse (by have:=h.pr;omega)) (by simp)
 | some a =>
  have hn:=(h.promise hp).yield m.a6;obtain ⟨rfl,_⟩:=a2r hp;refine ⟨hn,?_,fun x hx => ?_⟩
  ·simp only [I8];cases n.b5 != 0&&decide (m.a6>n.a6)<;>rfl
  ·rw [d9y.1 hx];have hvl:=h.vl;refine a6J hm (.inr (.inl ⟨rfl,hb,rfl,⟨by simp;omega,fun v hv=>(h.vs v (e0n hv)).1⟩,by simp;omega⟩)) hs
theorem a4g(n:j5)(b:Int):(I8 n b).Id=n.Id:=by
 unfold I8;cases n.b5 != 0&&decide (b>n.a6)<;>rfl
theorem d2d{a:z4}{b:Int}{k:Nat}{e:j8}(h:E5 a b (k:Int) e=none)(hk:k<40)(he:t9 e=true)(hb:1<=b/\b<=3000):b<a.g9:=by
 by_cases q:a.g9<=b
 ·rw [d2J hk he hb.1 hb.2 q] at h;cases h
 ·omega
theorem c4L{n:j5}(h:NI n){m:l8}(hm:MI m)(hk:m.a7=3):N4 n (X4 n m):=by
 have hb:(1<=m.a6/\m.a6<=3000)/\m.c9<40/\t9 m.d7=true:=by
  rcases hm.kd with q|q|q|q|q|q|q
  ·omega
  ·omega
  ·exact ⟨q.2.1,q.2.2.1,q.2.2.2.1⟩
  all_goals exact absurd q.1 (by omega)
 have hs:=hm.sl;obtain ⟨k,hsk⟩:∃k:Nat,m.c9=(k:Int):=⟨m.c9.toNat,by omega⟩
 unfold X4;cases hp:E5 n.Acc m.a6 m.c9 m.d7 with
 | none =>
  rw [hsk] at hp;have:=d2d hp (by omega) hb.2.2 hb.1;refine ⟨h,rfl,fun x hx => ?_⟩;rw [d9y.1 hx];exact a6J hm (.refuse (by have:=h.pr;omega)) (by simp)
 | some a =>
  refine ⟨(h.cast hp).yield m.a6,a4g _ _,fun x hx => ?_⟩;rw [d9y.1 hx];exact a6J hm (.one (.inr rfl) hb.1) hs
theorem b4f{n:j5}(h:NI n){m:l8}(hm:MI m)(hk:m.a7=2):N4 n (V0 n m):=by
 have hkd:(m.a9.length<=40/\∀v∈m.a9,VI v)/\m.c9+m.a9.length<=40:=by
  rcases hm.kd with q|q|q|q|q|q|q
  ·omega
  ·exact ⟨q.2.2.2.1,q.2.2.2.2⟩
  all_goals exact absurd q.1 (by omega)
 have hs:=hm.sl;have hf:=hm.fr;unfold V0;cases hc:n.b5 != 1||m.a6 != n.a6
 ·simp only [e0h,bne_eq_false_iff_eq] at hc;simp only [cond_false];have hl:Z1 n/\n.b8.length=3/\n.b8[n.Id.toNat]?=some true/\n.d6=zE/\n.a9=[]:=by
   rcases h.ld with q|q|q|q
   ·omega
   ·exact q.2
   all_goals exact absurd q.1 (by omega)
  have hbl:=a74 n.g7 (d9u m.c9.toNat v0++m.a9);have hob:=hl.1.bl;have hlen:(d9u m.c9.toNat v0++m.a9).length<=40:=by simp;omega
  have hbs:∀v∈C0 n.g7 (d9u m.c9.toNat v0++m.a9),VI v:=fun v hv=>(a69 hv).elim (fun q=>hl.1.bs v q) (fun q=>(List.mem_append.1 q).elim (fun q=>by rw [(e0i.1 q).2];exact .inl rfl) (hkd.1.2 v))
  cases G7 (n.b8.set m.b8.toNat true)
  ·simp only [cond_false];refine ⟨⟨h.id,h.pr,h.vl,h.vs,h.kl,h.ks,h.sq,h.ql,h.qs,.inr (.inl ⟨hc.1,⟨hl.1.b1,hl.1.b2,hl.1.mod,hl.1.pr,by show (C0 _ _).length<=40;omega,hbs⟩,by simp [hl.2.1],?_,hl.2.2.2.1,hl.2.2.2.2⟩),h.wt⟩,rfl,by simp⟩;show (n.b8.set m.b8.toNat true)[n.Id.toNat]?=some true
   by_cases q:m.b8.toNat=n.Id.toNat
   ·rw [q,e0t (by have:=h.id;omega)]
   ·rw [d9J q];exact hl.2.2.1
  ·simp only [cond_true];refine N4.to (n:=n) (n':={n with b8:=[],g7:=C0 n.g7 (d9u m.c9.toNat v0++m.a9),b5:=2}) rfl (a6V ?_);exact ⟨h.id,h.pr,h.vl,h.vs,h.kl,h.ks,h.sq,h.ql,h.qs,.inr (.inr (.inl ⟨rfl,⟨hl.1.b1,hl.1.b2,hl.1.mod,hl.1.pr,by show (C0 _ _).length<=40;omega,hbs⟩,rfl,hl.2.2.2.1,hl.2.2.2.2⟩)),h.wt⟩
 ·exact .same h
theorem b8L{n:j5}(h:NI n){m:l8}(hm:MI m):a3R n (a0r n m):=by
 have hf:=hm.fr;unfold a0r;cases hc:n.b5 != 3||(m.a6 != n.a6||m.c9 != (n.a5.length:Int))
 ·simp only [e0h,bne_eq_false_iff_eq] at hc;simp only [cond_false];have hl:Z1 n/\n.b8=[]/\t9 n.d6=true/\n.a9.length=3/\n.a9[n.Id.toNat]?=some true/\n.a5.length<40:=by
   rcases h.ld with q|q|q|q
   ·omega
   ·omega
   ·omega
   ·exact q.2
  have hn:NI {n with a9:=n.a9.set m.b8.toNat true}:=by
   refine ⟨h.id,h.pr,h.vl,h.vs,h.kl,h.ks,h.sq,h.ql,h.qs,.inr (.inr (.inr ⟨hc.1,⟨hl.1.b1,hl.1.b2,hl.1.mod,hl.1.pr,hl.1.bl,hl.1.bs⟩,hl.2.1,hl.2.2.1,by simp [hl.2.2.2.1],?_,hl.2.2.2.2.2⟩)),h.wt⟩;show (n.a9.set m.b8.toNat true)[n.Id.toNat]?=some true
   by_cases q:m.b8.toNat=n.Id.toNat
   ·rw [q,e0t (by have:=h.id;omega)]
   ·rw [d9J q];exact hl.2.2.2.2.1
  cases G7 (n.a9.set m.b8.toNat true)
  ·exact ⟨hn,rfl,by simp,by simp⟩
  ·simp only [cond_true];have hr:=c1s hn hl.2.2.1 hl.2.2.2.2.2;refine ⟨hr.ni,hr.id,fun x hx => ?_,hr.ts⟩;rcases List.mem_append.1 hx with q|q
   ·exact a3J h.id (.chosen (by omega) hl.2.2.1) (by simp only;omega) x q
   ·exact hr.ms x q
 ·exact .same h
theorem c4X{n:j5}(h:NI n){m:l8}(hm:MI m)(hk:m.a7=5):a3R n (a0n n m):=by
 have hkd:m.c9<40/\t9 m.d7=true:=by
  rcases hm.kd with q|q|q|q|q|q|q
  ·omega
  ·omega
  ·omega
  ·exact ⟨q.2.2.1,q.2.2.2.1⟩
  all_goals exact absurd q.1 (by omega)
 have hkl:=h.kl;unfold a0n;cases h1:decide (m.c9<(n.a5.length:Int))
 ·cases h2:decide (m.c9>(n.a5.length:Int))
  ·simp only [decide_eq_false_iff_not] at h1 h2;exact c1s h hkd.2 (by omega)
  ·refine ⟨h,rfl,fun x hx => ?_,by simp⟩;rw [d9y.1 hx];exact a6J hm .need (by simp only;omega)
 ·exact .same h
theorem d5d{n:j5}(h:NI n){m:l8}(hm:MI m)(hk:m.a7=7):N4 n (X0 n m):=by
 have hkd:t9 m.d7=true/\m.d7.i6=false:=by
  rcases hm.kd with q|q|q|q|q|q|q
  ·omega
  ·omega
  ·omega
  ·omega
  ·omega
  ·exact ⟨q.2.2.2.1,q.2.2.2.2.1⟩
  ·omega
 unfold X0;cases hc:n.b5==0||(decide (4<=n.d9.length)||F9 n.a5 m.d7.a0)
 ·simp only [cond_false];simp only [e0h,decide_eq_false_iff_not] at hc;refine N4.to (n:=n) (n':={n with d9:=n.d9++[m.d7]}) rfl (a6V (h.queue (by simp;omega) ?_));intro e he;rcases List.mem_append.1 he with q|q
  ·exact h.qs e q
  ·rw [d9y.1 q];exact hkd
 ·exact .same h
theorem c45{n:j5}(h:NI n){m:l8}(hm:MI m):∀x∈a1C n m,MI x:=by
 intro x hx;unfold a1C at hx;obtain ⟨l,hl,hx⟩:=e0e.1 hx;obtain ⟨j,hj,rfl⟩:=List.mem_map.1 hl;have hkl:=h.kl;unfold X3 at hx;cases hg:n.a5[m.c9.toNat+j]? with
 | none=>rw [hg] at hx;cases hx
 | some e =>
  rw [hg] at hx;have hlt:=(d9x.1 hg).1;rw [d9y.1 hx];exact a6J hm (.chosen (by omega) (h.ks e (d9G hg))) (by simp only;omega)
theorem b1T{n:j5}(h:NI n){m:l8}(hm:MI m):a3R n (M3 n m):=by
 unfold M3;by_cases k1:m.a7=1
 ·rw [show (m.a7==1)=true by simpa using k1];exact (b8o h hm k1).three
 rw [show (m.a7==1)=false by simpa using k1];by_cases k2:m.a7=2
 ·rw [show (m.a7==2)=true by simpa using k2];exact (b4f h hm k2).three
 rw [show (m.a7==2)=false by simpa using k2];by_cases k3:m.a7=3
 ·rw [show (m.a7==3)=true by simpa using k3];exact (c4L h hm k3).three
 rw [show (m.a7==3)=false by simpa using k3];by_cases k4:m.a7=4
 ·rw [show (m.a7==4)=true by simpa using k4];exact b8L h hm
 rw [show (m.a7==4)=false by simpa using k4];by_cases k5:m.a7=5
 ·rw [show (m.a7==5)=true by simpa using k5];exact c4X h hm k5
 rw [show (m.a7==5)=false by simpa using k5];by_cases k6:m.a7=6
 ·rw [show (m.a7==6)=true by simpa using k6];simp only [cond_true,cond_false];cases hp:D7 n.Acc m.a6 with
  | none=>exact ⟨h.yield _,a4g _ _,by simp,by simp⟩
  | some a=>exact ⟨(h.promise hp).yield _,a4g _ _,by simp,by simp⟩
 rw [show (m.a7==6)=false by simpa using k6];by_cases k7:m.a7=7
 ·rw [show (m.a7==7)=true by simpa using k7];exact (d5d h hm k7).three
 rw [show (m.a7==7)=false by simpa using k7];cases m.a7==8
 ·exact .same h
 ·exact ⟨h,rfl,c45 h hm,by simp⟩
structure d8i(n x:j5):Prop where
 id:x.Id=n.Id
 known:x.a5=n.a5
 seq:x.Seq=n.Seq
 busy:x.i3=n.i3
 prog:x.i5=n.i5
 want:x.b7=n.b7
theorem b2q(n:j5):d8i n (F4 n).1:=by
 unfold F4;cases n.b5 != 2||decide (40<=n.a5.length)
 ·simp only [cond_false];obtain ⟨q,hq,_⟩:=a7b n;cases hx:T3 n with
  | mk x o =>
  rw [hx] at hq;have hq:x={n with d9:=q}:=hq;subst hq;cases o with
  | none=>exact ⟨rfl,rfl,rfl,rfl,rfl,rfl⟩
  | some e =>
   simp only [a1i];cases E5 n.Acc n.a6 (n.a5.length:Int) e<;>exact ⟨rfl,rfl,rfl,rfl,rfl,rfl⟩
 ·exact ⟨rfl,rfl,rfl,rfl,rfl,rfl⟩
def a1N(n:j5):List m5:=(m9 n.a5).1.d8
theorem b1l{n:j5}(h:NI n):B7 (a1N n)=true:=by
 obtain ⟨a,b⟩:=a0S h.list;have:=(O9 a b n.a5.length (d9K _)).1.boxes;rwa [d9P] at this
theorem d0h{l:List m5}{p:List m7}(h:(B2 l p).Code≠3):C3 p=true:=by
 unfold B2 at h;cases hp:C3 p
 ·rw [hp,Bool.and_false] at h;exact absurd rfl h
 ·rfl
def J5(n:j5)(prog:List m7):j5:={n with Seq:=n.Seq+1,i3:=true,i5:=prog,b7:=⟨false,⟨n.Id,n.Seq+1⟩,B2 (a1N n) prog⟩}
def L0(n:j5)(prog:List m7):Bool := !(n.i3||(n.Seq==1000||(B2 (a1N n) prog).Code==3))
theorem b3C{n:j5}{prog:List m7}:L0 n prog=true↔n.i3=false/\n.Seq≠1000/\(B2 (a1N n) prog).Code≠3:=by
 unfold L0;simp
theorem b09{n:j5}(h:NI n){prog:List m7}(hp:q9 prog)(hc:L0 n prog=true):t9 (J5 n prog).b7=true/\C3 prog=true:=by
 obtain ⟨h1,h2,h3⟩:=b3C.1 hc;have hr:=(b59 (b1l h) hp).ok;have hs:=h.sq;have hid:=h.id;refine ⟨?_,d0h h3⟩;unfold t9 J5;simp only [cond_false,d9v,E0,hr,true_and,bne_iff_ne,ne_eq];exact ⟨⟨hid,by omega⟩,h3⟩
theorem NI.asked{n:j5}(h:NI n){prog:List m7}(hp:q9 prog)(hc:L0 n prog=true):NI (J5 n prog):=by
 obtain ⟨h1,h2,h3⟩:=b3C.1 hc;obtain ⟨h4,h5⟩:=b09 h hp hc;have hs:=h.sq;exact ⟨h.id,h.pr,h.vl,h.vs,h.kl,h.ks,by show 0<=n.Seq+1/\n.Seq+1<=1000;omega,h.ql,h.qs,h.ld,.inl ⟨rfl,h5,h4,rfl,rfl⟩⟩
theorem a0R(n:j5)(prog:List m7):G3 n prog=bif L0 n prog then (bif n.b5==2 then F4 (J5 n prog) else (J5 n prog,bif n.b5==0 then D2 n.Id ⟨7,0,0,0,0,(J5 n prog).b7,[]⟩ else [])) else (n,[]):=by
 unfold G3 L0 J5 a1N;cases n.i3||(n.Seq==1000||(B2 (m9 n.a5).1.d8 prog).Code==3)<;>rfl
theorem a7x{n:j5}(h:NI n){prog:List m7}(hp:q9 prog):N4 n (G3 n prog):=by
 rw [a0R];cases hc:L0 n prog
 ·exact .same h
 ·have hn:=h.asked hp hc;simp only [cond_true];cases n.b5==2
  ·refine ⟨hn,rfl,fun x hx => ?_⟩;simp only [cond_false] at hx;cases h0:n.b5==0
   ·rw [h0] at hx;cases hx
   ·rw [h0] at hx;exact a3J h.id (.ask (b09 h hp hc).1 rfl) (by simp) x hx
  ·exact N4.to (n:=n) (n':=J5 n prog) rfl (a6V hn)
theorem b6C{b who:Int}(hb:0<=b/\b<=3000)(hw:0<=who/\who<=2):I0 b who=-1\/(b<I0 b who/\I0 b who<=b+3/\I0 b who<=3000/\d9I (I0 b who) 3=who):=by
 unfold I0;cases h1:decide (b+1<=3000)&&(d9I (b+1) 3==who)
 ·cases h2:decide (b+2<=3000)&&(d9I (b+2) 3==who)
  ·cases h3:decide (b+3<=3000)&&(d9I (b+3) 3==who)
   ·exact .inl rfl
   ·simp only [d9v,decide_eq_true_eq,beq_iff_eq] at h3;exact .inr ⟨by simp only [cond_true,cond_false];omega,by simp only [cond_true,cond_false];omega,h3.1,h3.2⟩
  ·simp only [d9v,decide_eq_true_eq,beq_iff_eq] at h2;exact .inr ⟨by simp only [cond_true,cond_false];omega,by simp only [cond_true,cond_false];omega,h2.1,h2.2⟩
 ·simp only [d9v,decide_eq_true_eq,beq_iff_eq] at h1;exact .inr ⟨by simp only [cond_true,cond_false];omega,by simp only [cond_true,cond_false];omega,h1.1,h1.2⟩
theorem a9D{n:j5}(h:NI n):N4 n (N0 n):=by
 unfold N0;cases hd:decide (I0 n.Acc.g9 n.Id<0)
 ·simp only [decide_eq_false_iff_not] at hd;have hpr:=h.pr;have hkl:=h.kl;rcases b6C h.pr h.id with q|⟨q1,q2,q3,q4⟩
  ·omega
  ·obtain ⟨m1,m2⟩:=b5Z h.id;refine ⟨⟨h.id,⟨by simp only [cond_false];omega,q3⟩,h.vl,fun v hv=>⟨(h.vs v hv).1,e0c (h.vs v hv).2 (Int.le_of_lt q1)⟩,h.kl,h.ks,h.sq,h.ql,h.qs,.inr (.inl ⟨rfl,⟨by simp only [cond_false];omega,q3,q4,d9O _,h.vl,fun v hv=>(h.vs v hv).1⟩,m1,m2,rfl,rfl⟩),h.wt⟩,rfl,?_⟩;exact a3J h.id (.one (.inl rfl) ⟨by omega,q3⟩) (by simp only;omega)
 ·exact .same h
theorem a7M{n:j5}(h:NI n):N4 n (L8 n):=by
 have hkl:=h.kl;have hb:=h.ld.bal;have a1:∀x∈D2 n.Id ⟨8,0,0,0,(n.a5.length:Int),zE,[]⟩,MI x:=a3J h.id .need (by simp only;omega)
 have G7:∀{l:List l8},(∀x∈l,MI x)->∀x∈D2 n.Id ⟨8,0,0,0,(n.a5.length:Int),zE,[]⟩++l,MI x:=by
  intro l hl x hx;rcases List.mem_append.1 hx with q|q
  ·exact a1 x q
  ·exact hl x q
 unfold L8;by_cases h1:n.b5=1
 ·rw [show (n.b5==1)=true by simpa using h1];refine ⟨h,rfl,G7 (a3J h.id (.one (.inl rfl) ?_) (by simp only;omega))⟩;rcases h.ld with q|q|q|q
  ·omega
  ·exact ⟨q.2.1.b1,q.2.1.b2⟩
  all_goals exact absurd q.1 (by omega)
 rw [show (n.b5==1)=false by simpa using h1];by_cases h2:n.b5=2
 ·rw [show (n.b5==2)=true by simpa using h2];have:=a6V h;exact ⟨this.ni,this.id,G7 this.ms⟩
 rw [show (n.b5==2)=false by simpa using h2];by_cases h3:n.b5=3
 ·rw [show (n.b5==3)=true by simpa using h3];rcases h.ld with q|q|q|q
  ·omega
  ·omega
  ·omega
  ·exact ⟨h,rfl,G7 (a3J h.id (.accept ⟨q.2.1.b1,q.2.1.b2⟩ (by omega) q.2.2.2.1) (by simp only;omega))⟩
 rw [show (n.b5==3)=false by simpa using h3];cases hbz:n.i3
 ·exact ⟨h,rfl,a1⟩
 ·rcases h.wt with q|q
  ·exact ⟨h,rfl,G7 (a3J h.id (.ask q.2.2.1 q.2.2.2.1) (by simp))⟩
  ·rw [hbz] at q;cases q.1
theorem NI.open{id:Int}(h:0<=id/\id<=2):NI (B5 id) :=
 ⟨h,⟨by simp [B5],by simp [B5]⟩,by simp [B5],by simp [B5],by simp [B5],by simp [B5],⟨by simp [B5],by simp [B5]⟩,by simp [B5],by simp [B5],.inl ⟨rfl,rfl,rfl,rfl,rfl,rfl⟩,.inr ⟨rfl,rfl,rfl⟩⟩
theorem NI.fall{n:j5}(h:NI n):NI (Y2 n) :=
 ⟨h.id,h.pr,h.vl,h.vs,h.kl,h.ks,h.sq,by simp [Y2,B5],by simp [Y2,B5],.inl ⟨rfl,rfl,rfl,rfl,rfl,rfl⟩,.inr ⟨rfl,rfl,rfl⟩⟩
theorem a7G(w:j9):a2c w []=w:=by
 unfold a2c;simp
theorem d5l(w:j9):N8 w []=w:=by
 unfold N8;simp
theorem a3O{w:j9}(h:WI w){i:Nat}(hi:i<3):∃n,w.a8[i]?=some n/\A2 w (i:Int)=n/\n.Id=(i:Int)/\NI n/\i<w.a8.length:=by
 have hl:=h.nl;have hg:=d9t (l:=w.a8) (i:=i) (by omega);obtain ⟨h1,h2⟩:=h.ns i _ hg;refine ⟨_,hg,?_,h1,h2,by omega⟩;unfold A2;rw [d96,d9F,hg];rfl
theorem WI.put{w:j9}(h:WI w){i:Nat}{n:j5}(hid:n.Id=(i:Int))(hn:NI n):WI (F3 w (i:Int) n):=by
 refine ⟨by simp [F3,h.nl],?_,h.ml,h.ms,h.al,h.aq,h.tl,h.ts⟩;intro j m hm;simp only [F3,d96] at hm;by_cases q:i=j
 ·subst q;have hlt:=(d9x.1 hm).1;rw [d94] at hlt;rw [e0t hlt] at hm;injection hm with hm;subst hm;exact ⟨hid,hn⟩
 ·rw [d9J q] at hm;exact h.ns j m hm
theorem WI.send{w:j9}(h:WI w){l:List l8}(hl:∀m∈l,MI m):WI (N8 w l):=by
 have:=h.ml;refine ⟨h.nl,h.ns,by simp only [N8,d9E,d93];omega,?_,h.al,h.aq,h.tl,h.ts⟩;intro m hm;rcases List.mem_append.1 hm with q|q
 ·exact h.ms m q
 ·exact hl m (e0f q)
theorem WI.tell{w:j9}(h:WI w){l:List s9}(hl:∀t∈l,Y0 t=true):WI (a2c w l):=by
 have:=h.tl;refine ⟨h.nl,h.ns,h.ml,h.ms,h.al,h.aq,by simp only [a2c,d9E,d93];omega,?_⟩;intro m hm;rcases List.mem_append.1 hm with q|q
 ·exact h.ts m q
 ·exact hl m (e0f q)
theorem WI.off{w:j9}(h:WI w)(i:Int):WI (a0g w i):=by
 have:=h.ml;refine ⟨h.nl,h.ns,by simp only [a0g,d9E,d93,e1b];omega,?_,h.al,h.aq,h.tl,h.ts⟩;intro m hm;rcases List.mem_append.1 hm with q|q
 ·exact h.ms m (e0f q)
 ·exact h.ms m (e0n q)
theorem c2j(n:j5)(p:List m7):(G3 n p).2.length<=3:=by
 rw [a0R];cases L0 n p
 ·simp
 ·cases n.b5==2
  ·cases n.b5==0
   ·simp
   ·exact a1L _ _
  ·exact a8B _
theorem c48(n:j5)(p:List m7):decide ((G3 n p).1.Seq>n.Seq)=L0 n p:=by
 rw [a0R];cases L0 n p
 ·simp
 ·simp only [cond_true];cases n.b5==2
  ·simp [J5];omega
  ·have:=(b2q (J5 n p)).seq;simp only [cond_true,this];simp [J5];omega
theorem b4Q{n:j5}{p:List m7}(h:L0 n p=true):(G3 n p).1.b7=(J5 n p).b7:=by
 rw [a0R,h];simp only [cond_true];cases n.b5==2
 ·rfl
 ·exact (b2q (J5 n p)).want
def d44(w:j9)(a:D5):j9:={w with f0:=w.f0++[a]}
theorem WI.addAsked{w:j9}(h:WI w){a:D5}(hl:w.f0.length<60)(ha:a1f a=true):WI (d44 w a):=by
 refine ⟨h.nl,h.ns,h.ml,h.ms,by simp only [d44,d9E,e0q];omega,?_,h.tl,h.ts⟩;intro x hx;rcases List.mem_append.1 hx with q|q
 ·exact h.aq x q
 ·rw [d9y.1 q];exact ha
theorem b3L{n:j5}(h:NI n)(m:l8):(M3 n m).2.1.length<=60/\(M3 n m).2.2.length<=1:=by
 have hkl:=h.kl;have al:∀n:j5,(M5 n).2.length<=1:=fun n=>by
  rcases a8L n with q|⟨k,_,_,q⟩<;>rw [q]<;>simp
 have ll:∀(n:j5) (e:j8),(R0 n e).2.1.length<=3/\(R0 n e).2.2.length<=1:=fun n e=>⟨a8B _,al _⟩
 have nl:(a1C n m).length<=40:=by
  unfold a1C;have:∀d k:Nat,((d9C d).map fun j=>X3 n m (k+j)).flatten.length<=d:=by
   intro d k;rw [List.length_flatten,e03];have hs:∀(l:List Nat),((l.map (List.length ∘ fun j=>X3 n m (k+j))).sum)<=l.length:=by
    intro l;induction l with
    | nil=>simp
    | cons x l ih =>
     simp only [d9R,List.sum_cons,e0o,Function.comp];have:(X3 n m (k+x)).length<=1:=by
      unfold X3;cases n.a5[k+x]?<;>simp
     omega
   have:=hs (d9C d);rwa [List.length_range] at this
  have:=this (n.a5.length-m.c9.toNat) m.c9.toNat;omega
 unfold M3;cases m.a7==1
 ·cases m.a7==2
  ·cases m.a7==3
   ·cases m.a7==4
    ·cases m.a7==5
     ·cases m.a7==6
      ·cases m.a7==7
       ·cases m.a7==8
        ·exact ⟨by simp,by simp⟩
        ·exact ⟨by simp only [cond_true,cond_false];omega,by simp⟩
       ·refine ⟨?_,by simp⟩;simp only [cond_true,cond_false,X0];cases n.b5==0||(decide (4<=n.d9.length)||F9 n.a5 m.d7.a0)
        ·exact Nat.le_trans (a8B _) (by omega)
        ·simp
      ·exact ⟨by simp,by simp⟩
     ·simp only [cond_true,cond_false,a0n];cases decide (m.c9<(n.a5.length:Int))
      ·cases decide (m.c9>(n.a5.length:Int))
       ·have:=ll n m.d7;exact ⟨by simp only [cond_false];omega,by simp only [cond_false];omega⟩
       ·exact ⟨by simp,by simp⟩
      ·exact ⟨by simp,by simp⟩
    ·simp only [cond_true,cond_false,a0r];cases n.b5 != 3||(m.a6 != n.a6||m.c9 != (n.a5.length:Int))
     ·cases G7 (n.a9.set m.b8.toNat true)
      ·exact ⟨by simp,by simp⟩
      ·have h1:=ll {n with a9:=n.a9.set m.b8.toNat true} n.d6;have h2:=a1L n.Id ⟨5,0,0,0,(n.a5.length:Int),n.d6,[]⟩;exact ⟨by simp only [cond_true,cond_false,d9E];omega,by simp only [cond_true,cond_false];omega⟩
     ·exact ⟨by simp,by simp⟩
   ·refine ⟨?_,by simp⟩;simp only [cond_true,cond_false,X4];cases E5 n.Acc m.a6 m.c9 m.d7<;>simp
  ·refine ⟨?_,by simp⟩;simp only [cond_true,cond_false,V0];cases n.b5 != 1||m.a6 != n.a6
   ·cases G7 (n.b8.set m.b8.toNat true)
    ·simp
    ·exact Nat.le_trans (a8B _) (by omega)
   ·simp
 ·refine ⟨?_,by simp⟩;simp only [cond_true,V4];cases D7 n.Acc m.a6<;>simp
def a1V(e:G5):Prop:=A0 32 okT e.i5
theorem b9k(n:j5):(L8 n).2.length<=6:=by
 have l0:=a1L n.Id ⟨8,0,0,0,(n.a5.length:Int),zE,[]⟩;unfold L8;cases n.b5==1
 ·cases n.b5==2
  ·cases n.b5==3
   ·cases n.i3
    ·simp only [cond_false];omega
    ·have:=a1L n.Id ⟨7,0,0,0,0,n.b7,[]⟩;simp only [cond_true,cond_false,d9E];omega
   ·have:=a1L n.Id ⟨3,0,0,n.a6,(n.a5.length:Int),n.d6,[]⟩;simp only [cond_true,cond_false,d9E];omega
  ·have:=a8B n;simp only [cond_true,cond_false,d9E];omega
 ·have:=a1L n.Id ⟨1,0,0,n.a6,(n.a5.length:Int),zE,[]⟩;simp only [cond_true,d9E];omega
theorem b95(n:j5):(N0 n).2.length<=3:=by
 unfold N0;cases decide (I0 n.Acc.g9 n.Id<0)
 ·exact a1L _ _
 ·simp
theorem d5f{w:j9}{i:Nat}{n:j5}(h:w.a8[i]?=some n):F3 w (i:Int) n=w:=by
 unfold F3;rw [d96];obtain ⟨hi,rfl⟩:=d9x.1 h;rw [e05]
theorem d6L{w:j9}(h:WI w){i:Nat}(hi:i<3){p:List m7}(hp:A0 32 okT p):WI (a2A w (i:Int) p):=by
 obtain ⟨n,hg,hn,hid,hni,hlt⟩:=a3O h hi;have hf:q9 p:=hp.fits (by decide);have hr:=a7x hni hf;unfold a2A;rw [hn];cases hd:decide (60<=w.f0.length)
 ·simp only [cond_false];simp only [decide_eq_false_iff_not] at hd;rw [c48];cases hc:L0 n p
  ·simp only [cond_false];exact (h.put (hr.id.trans hid) hr.ni).send hr.ms
  ·simp only [cond_true];refine WI.send (w:=F3 (d44 w ⟨(G3 n p).1.b7.a0,p⟩) (i:Int) (G3 n p).1) (WI.put (w:=d44 w ⟨(G3 n p).1.b7.a0,p⟩) (h.addAsked (by omega) ?_) (hr.id.trans hid) hr.ni) hr.ms;rw [b4Q hc];obtain ⟨w1,w2⟩:=b09 hni hf hc;obtain ⟨c1,c2,c3⟩:=b3C.1 hc;unfold a1f;have:=hni.id;have:=hni.sq;simp only [d9v,E0,w2,and_true];show (0<=n.Id/\n.Id<=2)/\1<=n.Seq+1/\n.Seq+1<=1000
   omega
 ·exact h
theorem d2H{w:j9}(h:WI w)(e:G5):WI (a0U w e):=by
 unfold a0U;by_cases h0:e.A<0
 ·rw [show decide (0<=e.A)=false by simp;omega];exact h
 ·obtain ⟨k,hk⟩:∃k:Nat,e.A=(k:Int):=⟨e.A.toNat,by omega⟩
  rw [hk,show decide (0<=(k:Int))=true by simp,d96];simp only [cond_true];by_cases hl:k<w.i0.length
  ·rw [d9t hl];have hm:=h.ms _ (d9w hl);generalize w.i0[k]=m at hm;simp only;cases e.a7==4
   ·simp only [cond_false];cases e.a7==3
    ·simp only [cond_false];have ho:=h.off (k:Int);have ht:=hm.to;obtain ⟨t,htt⟩:∃t:Nat,m.To=(t:Int):=⟨m.To.toNat,by omega⟩
     obtain ⟨n,hg,hn,hid,hni,hlt⟩:=a3O ho (i:=t) (by omega);have hn':A2 w (t:Int)=n:=hn;have hr:=b1T hni hm;rw [htt,hn'];exact ((ho.put (hr.id.trans hid) hr.ni).send hr.ms).tell hr.ts
    ·exact h.off _
   ·simp only [cond_true];have hs:∀x∈[m],MI x:=fun x hx=>by rw [d9y.1 hx];exact hm
    exact h.send hs
  ·rw [d9U (by omega)];exact h
theorem a6h{w:j9}(h:WI w){e:G5}(he:A0 32 okT e.i5):WI (B4 w e):=by
 have n2:=d2H h e;unfold B4;cases e.a7==2||(e.a7==3||e.a7==4)
 ·simp only [cond_false];cases hA:n7 e.A 0 2
  ·exact h
  rw [E0] at hA;obtain ⟨i,hi⟩:∃i:Nat,e.A=(i:Int):=⟨e.A.toNat,by omega⟩
  obtain ⟨n,hg,hn,hid,hni,hlt⟩:=a3O h (i:=i) (by omega);rw [hi,hn];simp only [d9B,cond_false];cases e.a7==1
  ·cases e.a7==5
   ·cases e.a7==6
    ·cases e.a7==7
     ·exact h
     ·exact h.put hid hni.fall
    ·have hr:=a7M hni;exact (h.put (hr.id.trans hid) hr.ni).send hr.ms
   ·have hr:=a9D hni;exact (h.put (hr.id.trans hid) hr.ni).send hr.ms
  ·exact d6L h (by omega) he
 ·exact n2
theorem WI.open:WI I3:=by
 refine ⟨rfl,?_,by simp [I3],by simp [I3],by simp [I3],by simp [I3],by simp [I3],by simp [I3]⟩;intro i n hn;match i,hn with
 | 0,hn=>injection hn with hn;subst hn;exact ⟨rfl,.open (by omega)⟩
 | 1,hn=>injection hn with hn;subst hn;exact ⟨rfl,.open (by omega)⟩
 | 2,hn=>injection hn with hn;subst hn;exact ⟨rfl,.open (by omega)⟩
 | i+3,hn=>simp [I3] at hn
structure Far(w:j9)(out:List G5)(b:Nat):Prop where
 w:WI w
 e:∀x∈out,a1V x
 l:out.length<=b
def a4y(e:j8)(v:n8):Bool:=decide (v.a6>0)&&M4 v.d7 e
def V6(l:List j5)(s:Nat)(e:j8):Nat:=(l.filter fun n=>a4y e (M6 n s)).length
theorem d0Y{l:List j5}(s:Nat)(e:j8){k:Nat}(hk:k<l.length):V6 (l.take (k+1)) s e=V6 (l.take k) s e+(bif a4y e (M6 l[k] s) then 1 else 0):=by
 unfold V6;rw [d9V hk,List.filter_append,d9E,List.filter_cons,List.filter_nil];cases a4y e (M6 l[k] s)<;>rfl
theorem d5C(l:List j5)(s:Nat)(e:j8)(k:Nat):V6 (l.take k) s e<=k:=by
 unfold V6;refine Nat.le_trans (List.length_filter_le _ _) ?_;rw [d93];omega
theorem d2x{w:j9}(h:Q8 w)(hw:WI w)(s:Nat)(e:j8):b0M w (s:Int) e=some ((V6 w.a8 s e:Nat):Int):=by
 have hf:q9 w.a8:=h.1.fits (by decide);have hloop:=T8 (body:=fun t:Int×Int=>a6r w (s:Int) e t.1 t.2) (fun k=>((k:Int),((V6 (w.a8.take k) s e:Nat):Int))) w.a8.length (by
  intro k hk;have hb:=d5C w.a8 s e k;have hle:=hf;unfold q9 at hle;have hn:l9 (((V6 (w.a8.take k) s e:Nat):Int)+1)=((V6 (w.a8.take k) s e+1:Nat):Int):=by rw [C8 (by omega) (by omega)];omega
  have hni:=(hw.ns k w.a8[k] (d9t hk)).2;simp only;unfold a6r b3Z;rw [z5 _ k hk,s7 hk,E7 hf hk];simp only [cond_true,d9s,d0Y s e hk];by_cases hs:s<w.a8[k].Acc.a9.length
  ·have hva:M6 w.a8[k] s=w.a8[k].Acc.a9[s]:=by unfold M6;rw [d9t hs];rfl
   have hvi:=(hni.vs _ (d9w hs)).1;have hpos:(w.a8[k].Acc.a9[s].a6 != 0)=decide (w.a8[k].Acc.a9[s].a6>0):=by
    have h0:0<=w.a8[k].Acc.a9[s].a6:=hvi.bal.1;by_cases hz:w.a8[k].Acc.a9[s].a6=0
    ·rw [hz];rfl
    ·rw [decide_eq_true (show w.a8[k].Acc.a9[s].a6>0 by omega)];simpa using hz
   rw [hva,z5 _ s hs,s7 hs];simp only [cond_true,d9s,hpos];unfold a4y;cases decide (w.a8[k].Acc.a9[s].a6>0)
   ·rfl
   ·simp only [cond_true,a3V ((h.1.2 _ (d9w hk)).2.1.2.2 _ (d9w hs)).2,d9s,hn];cases M4 w.a8[k].Acc.a9[s].d7 e<;>rfl
  ·have hva:M6 w.a8[k] s=zV:=by unfold M6;rw [d9U (by omega)];rfl
   rw [hva,decide_eq_false (show ¬((s:Int)<(w.a8[k].Acc.a9.length:Int)) by omega)];rfl)
 rw [d9P,show ((0:Nat):Int)=0 from rfl] at hloop;unfold b0M;rw [show p8 (fun t:Int×Int=>a6r w (s:Int) e t.1 t.2) (0,0)=_ from hloop,E8 (b:=((V6 w.a8 s e:Nat):Int))]
 ·rfl
 ·unfold a6r;rw [B0];rfl
def b1U(w:j9)(n:j5)(k:Nat):Bool:=match n.a5[k]? with
 | some e => !decide (((V6 w.a8 k e:Nat):Int)<2)
 | none=>true
def a5I(w:j9)(n:j5):Bool:=(d9C n.a5.length).all (b1U w n)
theorem c4N{w:j9}{n:j5}{k:Nat}(hk:k<n.a5.length):b1U w n k = !decide (((V6 w.a8 k n.a5[k]:Nat):Int)<2):=by
 unfold b1U;rw [d9t hk]
theorem d6l{w:j9}(h:Q8 w):a8p w=some (C4 w&&w.a8.all (a5I w)):=by
 have hf:q9 w.a8:=h.1.fits (by decide);unfold a8p;rw [a3g h,d9s];cases hwo:C4 w
 ·rfl
 have hw:WI w:=a1T.1 hwo;have hin:∀(i:Nat) (hi:i<w.a8.length),p8 (fun t:Int=>a76 w w.a8[i] t) 0=some (bif a5I w w.a8[i] then .brk () else .ret false):=by
  intro i hi;have hk0:q9 w.a8[i].a5:=(h.1.2 _ (d9w hi)).2.2.1.fits (by decide);refine a45 w.a8[i].a5 hk0 (b1U w w.a8[i]) false () ?_ ?_
  ·intro k hk _;unfold a76;rw [z5 _ k hk,s7 hk,c4N hk];simp only [cond_true,d9s,d2x h hw];cases decide (((V6 w.a8 k w.a8[i].a5[k]:Nat):Int)<2)<;>rfl
  ·unfold a76;rw [B0];rfl
 simp only [d9B,cond_false,d9Q];rw [P3 w.a8 hf (a5I w) false ()]
 ·cases w.a8.all (a5I w)<;>rfl
 ·intro k hk;unfold a9X b7R;rw [z5 _ k hk,s7 hk];simp only [cond_true,d9s,hin k hk];cases a5I w w.a8[k]<;>rfl
 ·unfold a9X;rw [B0];rfl
theorem a4F{α:Type}{l:List α}(z:α)(b:Nat)(h:l.length*b<=140737488351232):(bif ((l.length:Int)==0) then some [] else s5 (0<=(l.length:Int)/\(l.length:Int)*(b:Int)<=140737488355328) (s5 (l.length=(d9u (l.length:Int).toNat z).length) (some l)))=some l:=by
 cases hl:((l.length:Int)==0)
 ·have:(l.length:Int)*(b:Int)=((l.length*b:Nat):Int):=by rw [Int.natCast_mul]
  rw [cond_false,x9 ⟨by omega,by omega⟩,x9 (by simp)]
 ·simp only [beq_iff_eq] at hl;rw [d9D (by omega:l.length=0)];rfl
theorem b2C{α R:Type}{body:List α×Int->Option (j6 R (List α×Int) (List α))}(l:List α)(hl:q9 l)(h1:∀(k:Nat) (hk:k<l.length),body (l,(k:Int))=some (.nxt (l.set k l[k],l9 ((k:Int)+1))))(h2:body (l,(l.length:Int))=some (.brk l)):p8 body (l,0)=some (.brk l):=by
 have:=T8 (body:=body) (fun k=>(l,(k:Int))) l.length fun k hk=>by rw [h1 k hk,E7 hl hk,e05]
 exact this.trans (E8 h2)
theorem b2p{l:List n8}(h:A0 96 a1y l):a4L l=some l:=by
 unfold a4L;rw [show b5d l=some l from a4F _ 96 h.1,d9s,b2C l (h.fits (by decide))]
 ·rfl
 ·intro k hk;unfold b3n;rw [z5 _ k hk,cond_true,s7 hk,d9s,a8d (h.2 _ (d9w hk)).2];rfl
 ·unfold b3n;rw [B0];rfl
theorem b0h{x:z4}(h:a4m x):a2D x=some x:=by
 unfold a2D;rw [b2p h.2];rfl
theorem c5J{l:List Bool}(h:A0 1 okT l):b0H l=some l:=a4F _ 1 h.1
theorem c5q{l:List m7}(h:l.length*32<=140737488351232):a4U l=some l:=a4F _ 32 h
theorem c2B{l:List s9}(h:l.length*40<=140737488351232):b2G l=some l:=a4F _ 40 h
theorem b2x{n:j5}(h:a2b n):a4N n=some n:=by
 obtain ⟨h1,h2,h3,h4,h5,h6,h7,h8,h9,h10,h11,h12,h13⟩:=h;unfold a4N;rw [b0h h2,d9s,b6Z h3,d9s,c5J h7,d9s,b2p h8,d9s,a8d h9,d9s,c5J h10,d9s,c5q h11.1,d9s,a8d h12,d9s,b6Z h13];rfl
theorem d3D{m:l8}(h:a6N m):a95 m=some m:=by
 unfold a95;rw [a8d h.2.2.2.2.2.1,d9s,b2p h.2.2.2.2.2.2];rfl
theorem c1A{l:List l8}(h:A0 152 a6N l):a7E l=some l:=by
 unfold a7E;rw [show b7I l=some l from a4F _ 152 h.1,d9s,b2C l (h.fits (by decide))]
 ·rfl
 ·intro k hk;unfold b2e;rw [z5 _ k hk,cond_true,s7 hk,d9s,d3D (h.2 _ (d9w hk))];rfl
 ·unfold b2e;rw [B0];rfl
theorem b6T{w:j9}(h:Q8 w):a0M w=some w:=by
 obtain ⟨h1,h2,h3,h4⟩:=h;unfold a0M b7E;rw [show b4S w.a8=some w.a8 from a4F _ 392 h1.1,d9s,c1A h2,d9s,show b6F w.f0=some w.f0 from a4F _ 40 h3.1,d9s,c2B h4.1,d9s,b2C w.a8 (h1.fits (by decide))]
 ·simp only [d9s,l7.go];rw [b2C w.f0 (h3.fits (by decide))]
  ·rfl
  ·intro k hk;unfold b1n;rw [z5 _ k hk,cond_true,s7 hk,d9s,c5q (h3.2 _ (d9w hk)).2.1];rfl
  ·unfold b1n;rw [B0];rfl
 ·intro k hk;unfold b22;rw [z5 _ k hk,cond_true,s7 hk,d9s,b2x (h1.2 _ (d9w hk))];rfl
 ·unfold b22;rw [B0];rfl
theorem d3f:b2b=some I3:=by
 unfold b2b;have e:∀i:Int,0<=i->i<=2->b2z i=some (B5 i):=fun i h1 h2=>by
  unfold b2z;rw [I4,d9s,n7,decide_eq_true ⟨h1,h2⟩];rfl
 rw [I7 (t:=([B5 0],1)) (by unfold a6Y;rw [e 0 (by omega) (by omega)];rfl),I7 (t:=([B5 0,B5 1],2)) (by unfold a6Y;rw [e 1 (by omega) (by omega)];rfl),I7 (t:=([B5 0,B5 1,B5 2],3)) (by unfold a6Y;rw [e 2 (by omega) (by omega)];rfl),E8 (b:=[B5 0,B5 1,B5 2]) (by unfold a6Y;rfl)];show (a0M I3).bind _=_
 rw [b6T WI.open.ok];rfl
theorem c4P{a:m6}(h:q9 a.n.a5)(q:m8):a71 a q=some (F9 a.n.a5 q,a):=by
 unfold a71;rw [a9J h,d9s,c3L];cases a.n.a5.findIdx? (C9 q) with
 | none=>rfl
 | some k=>simp
theorem d33{a:m6}(h:q9 a.n.a5)(q:m8):b0J a q=some (F9 a.n.a5 q,a):=by
 unfold b0J;rw [a9J h,d9s,c3L];cases a.n.a5.findIdx? (C9 q) with
 | none=>rfl
 | some k=>simp
def qA(a:m6)(q:List j8):m6:=⟨{a.n with d9:=q},a.out,a.told⟩
theorem c8B{a:m6}{q:List j8}(h:a.n.d9=q):qA a q=a:=by
 subst h;rfl
theorem c1e{known:List j8}(hk:q9 known):∀(q:List j8) (a:m6),a.n.a5=known->A0 88 J0 q->a.n.d9=q->p8 (fun s:m6=>a2Y s) a=some (match P5 known q with
  | (q',some e)=>.ret (e,true,qA a q')
  | (q',none)=>.brk (qA a q'))
 | [],a,h1,_,h2=>by
  rw [E8 (body:=fun s:m6=>a2Y s) (b:=a) (by unfold a2Y;rw [h2];rfl)];show _=some (l7.brk (qA a []))
  rw [c8B h2]
 | e::q,a,h1,hq,h2=>by
  have hl:(e::q).length*88<=140737488351232:=hq.1;rw [e0o] at hl;have hb:a2Y a=some (bif F9 known e.a0 then .nxt (qA a q) else .ret (e,true,qA a q)):=by
   unfold a2Y;rw [h2,show idx (e::q) 0=some e from rfl,show decide ((((e::q).length:Nat):Int)>0)=true by simp,cond_true,d9s,x9 (by simp;omega),show ((e::q).drop (1:Int).toNat).take ((e::q).length-(1:Int).toNat)=q by simp];rw [show (⟨⟨a.n.Id,a.n.Acc,a.n.a5,a.n.Seq,a.n.b5,a.n.a6,a.n.b8,a.n.g7,a.n.d6,a.n.a9,a.n.i3,a.n.i5,a.n.b7,q⟩,a.out,a.told⟩:m6)=qA a q from rfl,c4P (a:=qA a q) (by show q9 a.n.a5;rw [h1];exact hk),d9s,show (qA a q).n.a5=known from h1];cases F9 known e.a0<;>rfl
  unfold P5;cases hkn:F9 known e.a0
  ·rw [a0f (body:=fun s:m6=>a2Y s) (r:=(e,true,qA a q)) (by rw [hb,hkn];rfl)];rfl
  ·rw [I7 (body:=fun s:m6=>a2Y s) (t:=qA a q) (by rw [hb,hkn];rfl),c1e hk q (qA a q) h1 ⟨by omega,fun x hx=>hq.2 x (List.mem_cons_of_mem _ hx)⟩ rfl];rfl
def a8F(a:m6)(x:j5×Option j8):j8×Bool×m6:=match x with
 | (n,some e)=>(e,true,⟨n,a.out,a.told⟩)
 | (n,none)=>(zE,false,⟨n,a.out,a.told⟩)
theorem c8K{a:m6}(hf:q9 a.n.g7)(hv:∀v∈a.n.g7,0<=v.a6):∀(m k:Nat),a.n.g7.length-k=m->p8 (fun s:Int=>a2H a s) (k:Int)=some (bif (a.n.g7.drop k).any (fun v=>decide (v.a6>0)) then .ret (eN,true,a) else .brk ()):=by
 intro m;induction m with
 | zero =>
  intro k hk;rw [E8 (body:=fun s:Int=>a2H a s) (b:=()) (by unfold a2H;rw [show decide ((k:Int)<(a.n.g7.length:Int))=false by simp;omega];rfl),d9Z (by omega)];rfl
 | succ m ih =>
  intro k hk;have hlt:k<a.n.g7.length:=by omega
  have hb:a2H a (k:Int)=some (bif decide (a.n.g7[k].a6>0) then .ret (eN,true,a) else .nxt ((k+1:Nat):Int)):=by
   have h0:=hv _ (d9w hlt);unfold a2H;rw [z5 _ k hlt,cond_true,s7 hlt,d9s,E7 hf hlt,show (a.n.g7[k].a6 != 0)=decide (a.n.g7[k].a6>0) by
    rw [e0z];simp;omega]
   cases decide (a.n.g7[k].a6>0)<;>rfl
  rw [d97 hlt,List.any_cons];cases hd:decide (a.n.g7[k].a6>0)
  ·rw [hd] at hb;rw [I7 (body:=fun s:Int=>a2H a s) hb,ih (k+1) (by omega),e0s]
  ·rw [hd] at hb;rw [a0f (body:=fun s:Int=>a2H a s) hb,e06];rfl
theorem d4P{a:m6}(h:a2b a.n)(hv:∀v∈a.n.g7,0<=v.a6):b3e a=some (a8F a (T3 a.n)):=by
 obtain ⟨h1,h2,h3,h4,h5,h6,h7,h8,h9,h10,h11,h12,h13⟩:=h;have hk:q9 a.n.a5:=h3.fits (by decide);have hbf:q9 a.n.g7:=h8.fits (by decide);have j1:b2c a=some (a8F a ({a.n with d9:=(P5 a.n.a5 a.n.d9).1},(P5 a.n.a5 a.n.d9).2)):=by
  unfold b2c;rw [c1e hk _ a rfl h13 rfl];obtain ⟨q,o⟩:=P5 a.n.a5 a.n.d9;cases o<;>rfl
 have j2:(∀v,a.n.g7[a.n.a5.length]?=some v->¬v.a6>0)->b01 a=some (a8F a (a1p a.n)):=by
  intro hn;have hd:(a.n.g7.drop (a.n.a5.length+1)).any (fun v=>decide (v.a6>0))=(a.n.g7.drop a.n.a5.length).any (fun v=>decide (v.a6>0)):=by
   by_cases hl:a.n.a5.length<a.n.g7.length
   ·rw [d97 hl,List.any_cons,show decide (a.n.g7[a.n.a5.length].a6>0)=false by
     simpa using hn _ (d9t hl),e0s]
   ·rw [d9Z (by omega),d9Z (by omega)]
  unfold b01 a1p;rw [C8 (by omega) (by have:=h3.1;omega),show ((a.n.a5.length:Int)+1)=((a.n.a5.length+1:Nat):Int) from rfl,c8K hbf hv _ _ rfl,hd];generalize (({a.n with d9:=(P5 a.n.a5 a.n.d9).1},(P5 a.n.a5 a.n.d9).2):j5×Option j8)=X at j1 ⊢;cases (a.n.g7.drop a.n.a5.length).any fun v=>decide (v.a6>0)
  ·simp only [cond_false,d9s,l7.go];unfold b46;cases a.n.i3
   ·exact j1
   ·simp only [cond_true,c4P hk,d9s,d9Q];cases F9 a.n.a5 a.n.b7.a0
    ·rfl
    ·exact j1
  ·rfl
 unfold b3e T3;by_cases hl:a.n.a5.length<a.n.g7.length
 ·rw [z5 _ _ hl,s7 hl,d9t hl];have h0:=hv _ (d9w hl);rw [cond_true,d9s,show (a.n.g7[a.n.a5.length].a6 != 0)=decide (a.n.g7[a.n.a5.length].a6>0) by rw [e0z];simp;omega];simp only;cases hd:decide (a.n.g7[a.n.a5.length].a6>0)
  ·exact j2 (by rw [d9t hl];intro v hv;injection hv with hv;subst hv;simpa using hd)
  ·rfl
 ·rw [show decide ((a.n.a5.length:Int)<(a.n.g7.length:Int))=false by simp;omega,d9U (by omega)];exact j2 (by rw [d9U (by omega)];simp)
theorem NI.accOk{n:j5}(h:NI n):Q1 n.Acc=true/\a4m n.Acc:=by
 have:=a2m.2 h;unfold G0 at this;simp only [d9v] at this;exact ⟨by simp_all,h.ok.2.1⟩
theorem b0X{a:z4}(h:Q1 a=true)(ho:a4m a)(b:Int):a6G a b=some (match D7 a b with|some x=>(x,true)|none=>(a,false)):=by
 unfold a6G D7 a9r;rw [b8P ho,d9s,h,b0h ho,I4];simp only [d9B,cond_false,d9s];cases n7 b 1 3000
 ·rfl
 ·cases hd:decide (b<a.g9)
  ·rw [show decide (a.g9<=b)=true by simp at hd ⊢;omega];rfl
  ·rw [show decide (a.g9<=b)=false by simp at hd ⊢;omega];rfl
theorem c9i{a:z4}(h:Q1 a=true)(ho:a4m a)(b:Int):b6q a b=some (match D7 a b with|some x=>(x,true)|none=>(a,false)):=b0X h ho b
theorem c1z(slot:Nat)(hs:slot<40):∀(m:Nat) (vs:List n8),slot+1-vs.length=m->p8 (fun s:List n8=>a4J (slot:Int) s) vs=some (.brk (O4 vs (slot+1)))
 | 0,vs,hm=>by
  rw [E8 (body:=fun s:List n8=>a4J (slot:Int) s) (b:=vs) (by unfold a4J;rw [show decide ((vs.length:Int)<=(slot:Int))=false by simp;omega];rfl)];unfold O4;rw [hm];simp
 | m+1,vs,hm=>by
  rw [I7 (body:=fun s:List n8=>a4J (slot:Int) s) (t:=vs++[v0]) (by unfold a4J;rw [show decide ((vs.length:Int)<=(slot:Int))=true by simp;omega,cond_true,x9 (by omega)];rfl),c1z slot hs m _ (by simp;omega)];unfold O4;rw [d9E,e0q,show slot+1-vs.length=(slot+1-(vs.length+1))+1 by omega,e0X,d9N];rfl
theorem b77{a:z4}(h:Q1 a=true)(ho:a4m a)(hl:a.a9.length<=40){b s:Int}(hb:G2 b){e:j8}(he:J0 e):a8v a b s e=some (match E5 a b s e with|some x=>(x,true)|none=>(a,false)):=by
 unfold a8v E5;rw [c9i h ho,d9s,I4,a3w he.f,b0h ho];cases hp:D7 a b with
 | none=>cases n7 s 0 39&&t9 e<;>rfl
 | some x =>
  obtain ⟨rfl,hb1,hb2,hb3⟩:=a2r hp;simp only [d9B,cond_false,d9s];cases hs:n7 s 0 39
  ·rfl
  cases t9 e
  ·rfl
  obtain ⟨k,rfl⟩:∃k:Nat,s=(k:Int):=⟨s.toNat,by rw [E0] at hs;omega⟩
  rw [E0] at hs;have hlen:=b3J a.a9 (k+1);have hk:k<(O4 a.a9 (k+1)).length:=by rw [hlen];omega
  simp only [d9B,Bool.and_self,cond_false,cond_true,d9s,e0b,d96];rw [c1z k (by omega) _ _ rfl];simp only [d9s,l7.go,b3Q];rw [s7 hk,d9s,d96,b0h (x:=⟨b,(O4 a.a9 (k+1)).set k ⟨b,e⟩⟩) ⟨hb,Z7 (by rw [d94,hlen];omega) (by
   intro v hv;rcases List.mem_or_eq_of_mem_set hv with q|q
   ·rcases b5t q with q|q
    ·exact ho.2.2 v q
    ·rw [q];exact c06
   ·rw [q];exact ⟨hb,he⟩)⟩]
  rfl
theorem a5F{a:m6}(h:a.out.length<=1000)(to:Int)(m:l8):a1M a to m=some ⟨a.n,a.out++[{m with b8:=a.n.Id,To:=to}],a.told⟩:=by
 unfold a1M;rw [x9 (by omega)]
def X1(m:l8)(a:m6)(t:Int):m6:=bif t != a.n.Id then ⟨a.n,a.out++[{m with b8:=a.n.Id,To:=t}],a.told⟩ else a
theorem c0S(m:l8)(a:m6)(t:Int):(X1 m a t).out.length<=a.out.length+1:=by
 unfold X1;cases t != a.n.Id<;>simp
theorem a3E{a:m6}(hid:0<=a.n.Id/\a.n.Id<=2)(h:a.out.length<=900)(m:l8):a1B a m=some ⟨a.n,a.out++D2 a.n.Id m,a.told⟩:=by
 have e:∀(a:m6) (t:Int),a.out.length<=1000->0<=t->t<3->a2x m t a=some (.nxt (t+1,X1 m a t)):=by
  intro a t ho h0 h1;unfold a2x b6L X1;rw [show decide (t<3)=true by simpa using h1,cond_true,a5F ho,C8 (by omega) (by omega)];cases t != a.n.Id<;>rfl
 have l1:=c0S m a 0;have l2:=c0S m (X1 m a 0) (0+1);have h0:=I7 (body:=fun s:Int×m6=>a2x m s.1 s.2) (s:=(0,a)) (e a 0 (by omega) (by omega) (by omega));have h1:=I7 (body:=fun s:Int×m6=>a2x m s.1 s.2) (s:=(0+1,X1 m a 0)) (e (X1 m a 0) (0+1) (by omega) (by omega) (by omega));have h2:=I7 (body:=fun s:Int×m6=>a2x m s.1 s.2) (s:=(0+1+1,X1 m (X1 m a 0) (0+1))) (e (X1 m (X1 m a 0) (0+1)) (0+1+1) (by omega) (by omega) (by omega));have h3:=a0f (body:=fun s:Int×m6=>a2x m s.1 s.2) (s:=(0+1+1+1,X1 m (X1 m (X1 m a 0) (0+1)) (0+1+1))) (show a2x m (0+1+1+1) _=_ from rfl);unfold a1B;rw [h0,h1,h2,h3];obtain ⟨n,o,t⟩:=a;simp only [d9s,l7.go];have hid':n.Id=0\/n.Id=1\/n.Id=2:=by have:=hid.1;have:=hid.2;simp only at *;omega
 rcases hid' with q|q|q<;>simp [X1,D2,q]
theorem c4l{a:m6}(h:0<=a.n.Id/\a.n.Id<=2):a9K a=some (Z4 a.n.Id,a):=by
 obtain ⟨y,hy⟩:=d0o h;unfold a9K;rw [x9 (by decide),hy];rfl
theorem b7v(a:m6):a8a a=some ⟨a1X a.n,a.out,a.told⟩:=rfl
theorem b3r(a:m6)(b:Int):a53 a b=some ⟨I8 a.n b,a.out,a.told⟩:=by
 unfold a53 I8;rw [b7v];cases a.n.b5 != 0
 ·rfl
 ·cases decide (b>a.n.a6)<;>rfl
theorem W4.bal0{n:j5}(h:W4 n):∀v∈n.g7,0<=v.a6:=fun v hv=>(h.best.2 v hv).bal.1
def S8(a:m6)(x:j5×List l8):m6:=⟨x.1,a.out++x.2,a.told⟩
theorem a5J(a:m6):S8 a (a.n,[])=a:=by
 unfold S8;rw [d9X]
theorem a8V{a:m6}(h:NI a.n)(ho:a.out.length<=900):a32 a=some (S8 a (F4 a.n)):=by
 unfold a32 F4;rw [show decide ((a.n.a5.length:Int)>=40)=decide (40<=a.n.a5.length) by simp;omega];cases a.n.b5 != 2
 ·simp only [cond_false,e0s];cases hlt:decide (40<=a.n.a5.length)
  ·simp only [cond_false,d4P h.ok h.ld.bal0,d9s];obtain ⟨q,hq,hql,hqm,hqe⟩:=a7b a.n;cases hx:T3 a.n with
   | mk x o =>
   rw [hx] at hq hqe;have hq:x={a.n with d9:=q}:=hq;subst hq;cases o with
   | none =>
    simp only [a8F,d9W,cond_true,S8];rw [d9X]
   | some e =>
    have he:=(hqe e rfl).ok h.ok;obtain ⟨c1,c2⟩:=h.accOk;simp only [a8F,d9B,cond_false];rw [b77 (a:=a.n.Acc) c1 c2 h.vl h.ok.2.2.2.2.2.1 he,d9s];simp only [a1i];cases hc:E5 a.n.Acc a.n.a6 (a.n.a5.length:Int) e with
    | none =>
     simp only [d9W,cond_true,b7v,d9s,S8];rw [d9X]
    | some x =>
     simp only [d9B,cond_false];rw [c4l (by exact h.id),d9s];simp only;rw [a3E (by exact h.id) (by exact ho)];rfl
  ·simp only [cond_true];rw [a5J]
 ·simp only [cond_true,e06];rw [a5J]
def a1w(a:m6)(x:j5×List l8×List s9):m6:=⟨x.1,a.out++x.2.1,a.told++x.2.2⟩
theorem b1B(a:m6):a1w a (a.n,[],[])=a:=by
 unfold a1w;rw [d9X,d9X]
theorem c8r{a:m6}(h:NI a.n)(ho:a.out.length<=900)(ht:a.told.length<=900):b03 a=some (a1w a ((F4 (M5 a.n).1).1,(F4 (M5 a.n).1).2,(M5 a.n).2)):=by
 have hk:q9 a.n.a5:=h.ok.2.2.1.fits (by decide);obtain ⟨hl,he⟩:=a0S h.list;have j1:∀b:m6,NI b.n->b.out.length<=900->b0Y b=some (S8 b (F4 b.n)):=by
  intro b hb hbo;unfold b0Y;rw [a8V hb hbo];rfl
 unfold b03 M5;rw [a9J hk,d9s];cases hb:a.n.i3
 ·simp only [cond_false,d9s,l7.go];rw [j1 a h ho];simp only [S8,a1w,d9X]
 ·cases hf:a.n.a5.findIdx? (C9 a.n.b7.a0) with
  | none =>
   simp only [cond_true];rw [show decide ((-1:Int)>=0)=false from rfl];simp only [cond_false,d9s,l7.go];rw [j1 a h ho];simp only [S8,a1w,d9X]
  | some k =>
   obtain ⟨hkl,h1,h2⟩:=a9I hf;have hlen:(m9 a.n.a5).2.length=a.n.a5.length:=by
    have:=(O9 hl he a.n.a5.length (d9K _)).2.1;rwa [d9P] at this
   have hc:idx (m9 a.n.a5).2 (k:Int)=some (O5 a.n.a5 k):=by
    rw [s7 (by omega)];unfold O5;rw [d9t (by omega)];rfl
   have hj2:∀v:Int,b1G a (O5 a.n.a5 k) v=some (.brk ⟨a7g a.n,a.out,a.told++[⟨a.n.Id,a.n.b7.a0,O5 a.n.a5 k,v⟩]⟩):=by
    intro v;unfold b1G;rw [x9 (by omega)];rfl
   have hv:P4 a.n.a5 a.n.b7.a0=a.n.a5[k].c7.c8:=by
    unfold P4;rw [hf];simp only [d9t hkl]
   simp only [cond_true];rw [show decide ((k:Int)>=0)=true by simp];simp only [cond_true];rw [b1D (okEntries.f h.ok.2.2.1) hl he,d9s,hc,d9s,s7 hkl,hv];cases O5 a.n.a5 k==0
   ·simp only [cond_false,d9s,l7.go,hj2];exact j1 ⟨a7g a.n,a.out,_⟩ h.freeN ho
   ·simp only [cond_true,d9s,l7.go,hj2];exact j1 ⟨a7g a.n,a.out,_⟩ h.freeN ho
theorem b82{a:m6}(h:NI a.n)(hl:a.n.a5.length<40){e:j8}(he:t9 e=true)(ho:a.out.length<=900)(ht:a.told.length<=900):a9A a e=some (a1w a (R0 a.n e)):=by
 have hk:=c8r (a:=⟨B6 a.n e,a.out,a.told⟩) (h.know he hl) ho ht;unfold a9A;rw [x9 (by omega)];unfold B6 at hk;cases hp:a.n.b5==3
 ·rw [hp] at hk;simp only [cond_false,d9s,l7.go] at hk ⊢;refine hk.trans ?_;unfold R0 B6;rw [hp];rfl
 ·rw [hp] at hk;simp only [cond_true,d9s,l7.go] at hk ⊢;refine hk.trans ?_;unfold R0 B6;rw [hp];rfl
theorem O1.two{m:l8}(h:O1 m)(hk:m.a7=2):(m.a9.length<=40/\∀v∈m.a9,VI v)/\m.c9+m.a9.length<=40:=by
 rcases h with q|q|q|q|q|q|q
 ·omega
 ·exact ⟨q.2.2.2.1,q.2.2.2.2⟩
 all_goals exact absurd q.1 (by omega)
theorem O1.five{m:l8}(h:O1 m)(hk:m.a7=5):m.c9<40/\t9 m.d7=true:=by
 rcases h with q|q|q|q|q|q|q
 ·omega
 ·omega
 ·omega
 ·exact ⟨q.2.2.1,q.2.2.2.1⟩
 all_goals exact absurd q.1 (by omega)
theorem d6R{a:m6}(h:NI a.n){m:l8}(hm:MI m)(ho:a.out.length<=900)(hto:m.To=a.n.Id):b1C a m=some (S8 a (V4 a.n m)):=by
 obtain ⟨c1,c2⟩:=h.accOk;have hs:=hm.sl;unfold b1C V4;rw [b0X c1 c2,d9s];cases hp:D7 a.n.Acc m.a6 with
 | none =>
  simp only [d9W,cond_true];rw [a5F (by omega)];simp only [d9s,S8,H6,hto]
 | some x =>
  obtain ⟨rfl,_⟩:=a2r hp;simp only [d9B,cond_false,b3r,d9s];have hy:∀(n:j5) (vs:List n8),n.Id=a.n.Id->b2V m ⟨n,a.out,a.told⟩ vs=some ⟨n,a.out++[H6 m ⟨2,0,0,m.a6,m.c9,zE,vs⟩],a.told⟩:=by
   intro n vs hn;unfold b2V;rw [a5F (a:=⟨n,a.out,a.told⟩) (by exact Nat.le_trans ho (by decide))];simp only [d9s,H6,hto,hn]
  have hid:(I8 (⟨a.n.Id,⟨m.a6,a.n.Acc.a9⟩,a.n.a5,a.n.Seq,a.n.b5,a.n.a6,a.n.b8,a.n.g7,a.n.d6,a.n.a9,a.n.i3,a.n.i5,a.n.b7,a.n.d9⟩) m.a6).Id=a.n.Id:=a4g _ _;obtain ⟨k,hk⟩:∃k:Nat,m.c9=(k:Int):=⟨m.c9.toNat,by omega⟩
  cases hd:decide (m.c9<(a.n.Acc.a9.length:Int))
  ·simp only [cond_false,d9s,l7.go];rw [hy _ _ hid,d9Z (by simp at hd;omega)];rfl
  ·simp only [cond_true];rw [x9 (by simp at hd;omega)];simp only [d9s,l7.go];rw [hy _ _ hid,b8E];rfl
theorem c6A{a:m6}(h:NI a.n){m:l8}(hm:MI m)(ho:a.out.length<=900)(hto:m.To=a.n.Id):b1Q a m=some (S8 a (X4 a.n m)):=by
 obtain ⟨c1,c2⟩:=h.accOk;unfold b1Q X4;rw [b77 c1 c2 h.vl hm.ok.2.2.2.1 hm.ok.2.2.2.2.2.1,d9s];cases E5 a.n.Acc m.a6 m.c9 m.d7 with
 | none =>
  simp only [d9W,cond_true];rw [a5F (by omega)];simp only [d9s,S8,H6,hto]
 | some x =>
  simp only [d9B,cond_false,b3r,d9s];rw [a5F (by simp only;omega)];simp only [d9s,S8,H6,hto,a4g]
theorem c30:∀(l:List Bool) (hl:q9 l) (m k:Nat) (c:Int),k+m=l.length->0<=c->c<=k->p8 (fun s:Int×Int=>a2o l s.1 s.2) (c,(k:Int))=some (.brk (c+(((l.drop k).filter (· == true)).length:Int)))
 | l,hl,0,k,c,hk,h0,h1=>by
  have:k=l.length:=by omega
  subst this;rw [E8 (body:=fun s:Int×Int=>a2o l s.1 s.2) (b:=c) (by unfold a2o;rw [B0];rfl)];simp
 | l,hl,m+1,k,c,hk,h0,h1=>by
  have hlt:k<l.length:=by omega
  have hf:=hl;unfold q9 at hf;have hb:a2o l c (k:Int)=some (.nxt (bif l[k] then c+1 else c,((k+1:Nat):Int))):=by
   unfold a2o b7G;rw [z5 _ k hlt,cond_true,s7 hlt,d9s,E7 hl hlt,C8 (by omega) (by omega)];cases l[k]<;>rfl
  rw [I7 (body:=fun s:Int×Int=>a2o l s.1 s.2) hb,c30 l hl m (k+1) _ (by omega) (by cases l[k]<;>simp<;>omega) (by cases l[k]<;>simp<;>omega),d97 hlt];cases l[k]<;>simp<;>omega
theorem b81{l:List Bool}(h:q9 l):∃c,a7v l=some c/\decide (c>=2)=G7 l:=by
 unfold a7v;rw [show p8 (fun s:Int×Int=>a2o l s.1 s.2) (0,0)=_ from c30 l h l.length 0 0 (by omega) (by omega) (by omega)];refine ⟨_,rfl,?_⟩;unfold G7;rw [e0z];simp only [e0T,decide_eq_true_eq];omega
theorem d5a{a b:List n8}(ha:a.length<=40/\∀v∈a,VI v)(hb:b.length<=40/\∀v∈b,VI v):b2J a b=some (C0 a b):=by
 have oa:=a6a (by omega) ha.2;have ob:=a6a (by omega) hb.2;have hlen:=a74 a b;have hok:A0 96 a1y (C0 a b):=a6a (by omega) fun v hv=>(a69 hv).elim (ha.2 v) (hb.2 v)
 unfold b2J;rw [a8n oa,d9s,a5G.2 ha,a8n ob,d9s,a5G.2 hb];simp only [d9B,cond_false];rw [d1I (body:=fun s:(List n8)×Int=>a3t a b s.1 s.2) (C0 a b) (by unfold q9;omega) (fun l=>l) (by
  intro k hk;have hget:=a8E a b k;rw [d9t hk] at hget;have hj1:∀l:List n8,b6r (k:Int) l=some (.nxt (l,l9 ((k:Int)+1))):=fun _=>rfl
  have htl:(((C0 a b).take k).length+1)*96<=140737488355328:=by rw [d93];omega
  show a3t a b ((C0 a b).take k) (k:Int)=_
  have hstart:a3t a b ((C0 a b).take k) (k:Int)=b28 a b ((C0 a b).take k) (k:Int):=by
   unfold a3t;by_cases h1:k<a.length
   ·rw [z5 _ k h1];rfl
   ·rw [show decide ((k:Int)<(a.length:Int))=false by simp;omega,z5 _ k (by omega)];rfl
  rw [hstart];unfold b28;by_cases h1:k<a.length
  ·rw [show decide ((k:Int)>=(a.length:Int))=false by simp;omega,s7 h1];rw [d9t h1] at hget;by_cases h2:k<b.length
   ·rw [show decide ((k:Int)>=(b.length:Int))=false by simp;omega,s7 h2];rw [d9t h2] at hget;injection hget with hget;simp only [cond_false,d9s,x9 htl];rw [hget,show decide (a[k].a6>=b[k].a6) = !decide (b[k].a6>a[k].a6) by rw [e0z];simp];cases decide (b[k].a6>a[k].a6)<;>rfl
   ·rw [show decide ((k:Int)>=(b.length:Int))=true by simp;omega];rw [d9U (by omega)] at hget;injection hget with hget;simp only [cond_false,cond_true,d9s,x9 htl];rw [hget];rfl
  ·have h2:k<b.length:=by omega
   rw [show decide ((k:Int)>=(a.length:Int))=true by simp;omega,s7 h2];rw [d9U (by omega),d9t h2] at hget;injection hget with hget;simp only [cond_true,d9s,x9 htl];rw [hget];rfl) (by
  show a3t a b (C0 a b) ((C0 a b).length:Int)=_
  unfold a3t;rw [show decide (((C0 a b).length:Int)<(a.length:Int))=false by simp;omega,show decide (((C0 a b).length:Int)<(b.length:Int))=false by simp;omega];rfl)]
 simp only [d9s,l7.go,b5N,b2p hok]
theorem c75{a:m6}(h:NI a.n){m:l8}(hm:MI m)(hk:m.a7=2)(ho:a.out.length<=900):a91 a m=some (S8 a (V0 a.n m)):=by
 have hkd:=hm.kd.two hk;have hs:=hm.sl;have hf:=hm.fr;have hright:=b4f h hm hk;unfold a91;unfold V0 at hright ⊢;by_cases p1:a.n.b5=1
 ·rw [show (a.n.b5 != 1)=false by simp [p1],e0s] at hright;rw [show (a.n.b5 != 1)=false by simp [p1],e0s];cases hb:m.a6 != a.n.a6
  ·rw [hb] at hright;simp only [cond_false] at hright ⊢;have hl:a.n.b8.length=3/\Z1 a.n:=by
    rcases h.ld with q|q|q|q
    ·omega
    ·exact ⟨q.2.2.1,q.2.1⟩
    all_goals exact absurd q.1 (by omega)
   obtain ⟨f,hff⟩:∃f:Nat,m.b8=(f:Int):=⟨m.b8.toNat,by omega⟩
   have hvo:(d9u m.c9.toNat v0++m.a9).length<=40/\∀v∈d9u m.c9.toNat v0++m.a9,VI v:=⟨by simp;omega,fun v hv=>(List.mem_append.1 hv).elim (fun q=>by rw [(e0i.1 q).2];exact .inl rfl) (hkd.1.2 v)⟩
   obtain ⟨c,c1,c2⟩:=b81 (l:=a.n.b8.set (f:Int).toNat true) (c4e (by simp;omega));rw [hff] at hright;rw [hff,s7 (show f<a.n.b8.length by omega),d9s,x9 (by omega),x9 (by simp;omega),show (⟨0,⟨false,⟨0,0⟩,⟨[],[],0,0⟩⟩⟩:n8)=v0 from rfl,d5a ⟨hl.2.bl,hl.2.bs⟩ hvo,d9s,c1,d9s,c2];cases htw:G7 (a.n.b8.set (f:Int).toNat true)
   ·simp only [cond_false,S8];rw [d9X]
   ·rw [htw] at hright;simp only [cond_true] at hright ⊢;have hni:NI ⟨a.n.Id,a.n.Acc,a.n.a5,a.n.Seq,2,a.n.a6,[],C0 a.n.g7 (d9u m.c9.toNat v0++m.a9),a.n.d6,a.n.a9,a.n.i3,a.n.i5,a.n.b7,a.n.d9⟩:=by
     rcases h.ld with q|q|q|q
     ·omega
     ·exact ⟨h.id,h.pr,h.vl,h.vs,h.kl,h.ks,h.sq,h.ql,h.qs,.inr (.inr (.inl ⟨rfl,⟨q.2.1.b1,q.2.1.b2,q.2.1.mod,q.2.1.pr,by have:=a74 a.n.g7 (d9u m.c9.toNat v0++m.a9);have:=hl.2.bl;have:=hvo.1;simp only at *;omega,fun v hv=>(a69 hv).elim (hl.2.bs v) (hvo.2 v)⟩,rfl,q.2.2.2.2.1,q.2.2.2.2.2⟩)),h.wt⟩
     all_goals exact absurd q.1 (by omega)
    rw [a8V (a:=⟨⟨a.n.Id,a.n.Acc,a.n.a5,a.n.Seq,2,a.n.a6,[],C0 a.n.g7 (d9u m.c9.toNat v0++m.a9),a.n.d6,a.n.a9,a.n.i3,a.n.i5,a.n.b7,a.n.d9⟩,a.out,a.told⟩) hni ho];rfl
  ·simp only [cond_true,cond_false];rw [a5J]
 ·rw [show (a.n.b5 != 1)=true by simpa using p1];simp only [cond_true,e06];rw [a5J]
theorem d2i{a:m6}(h:NI a.n){m:l8}(hm:MI m)(ho:a.out.length<=800)(ht:a.told.length<=800):b0i a m=some (a1w a (a0r a.n m)):=by
 have hf:=hm.fr;unfold b0i a0r;by_cases p3:a.n.b5=3
 ·rw [show (a.n.b5 != 3)=false by simp [p3],e0s];cases hb:m.a6 != a.n.a6
  ·simp only [cond_false,e0s];cases hs:m.c9 != (a.n.a5.length:Int)
   ·simp only [cond_false];have hsl:m.c9=(a.n.a5.length:Int):=by simpa using hs
    obtain ⟨q1,q2,q3,q4,q5,q6,q7⟩:a.n.b5=3/\Z1 a.n/\a.n.b8=[]/\t9 a.n.d6=true/\a.n.a9.length=3/\a.n.a9[a.n.Id.toNat]?=some true/\a.n.a5.length<40:=by
     rcases h.ld with q|q|q|q
     ·omega
     ·omega
     ·omega
     ·exact q
    obtain ⟨f,hff⟩:∃f:Nat,m.b8=(f:Int):=⟨m.b8.toNat,by omega⟩
    obtain ⟨c,c1,c2⟩:=b81 (l:=a.n.a9.set (f:Int).toNat true) (c4e (by simp;omega));rw [hff,s7 (show f<a.n.a9.length by omega),d9s,c1,d9s,c2];cases htw:G7 (a.n.a9.set (f:Int).toNat true)
    ·simp only [cond_false,a1w,d9X]
    ·simp only [cond_true];have hid:=h.id;have hni:NI ⟨a.n.Id,a.n.Acc,a.n.a5,a.n.Seq,a.n.b5,a.n.a6,a.n.b8,a.n.g7,a.n.d6,a.n.a9.set (f:Int).toNat true,a.n.i3,a.n.i5,a.n.b7,a.n.d9⟩ :=
      ⟨h.id,h.pr,h.vl,h.vs,h.kl,h.ks,h.sq,h.ql,h.qs,.inr (.inr (.inr ⟨q1,q2,q3,q4,by simpa using q5,by
       show (a.n.a9.set f true)[a.n.Id.toNat]?=some true
       rw [e0G];split
       ·rw [if_pos (by omega)]
       ·exact q6,q7⟩)),h.wt⟩
     have l1:=a1L a.n.Id ⟨5,0,0,0,m.c9,a.n.d6,[]⟩;rw [a3E (by exact hid) (by simp only;omega),d9s];simp only;rw [b82 (a:=⟨⟨a.n.Id,a.n.Acc,a.n.a5,a.n.Seq,a.n.b5,a.n.a6,a.n.b8,a.n.g7,a.n.d6,a.n.a9.set (f:Int).toNat true,a.n.i3,a.n.i5,a.n.b7,a.n.d9⟩,a.out++D2 a.n.Id ⟨5,0,0,0,m.c9,a.n.d6,[]⟩,a.told⟩) hni q7 q4 (by simp only [d9E];omega) (by simp only;omega),d9s,hsl];simp only [a1w,d9N]
   ·simp only [cond_true];rw [b1B]
  ·simp only [cond_true,cond_false,e06];rw [b1B]
 ·rw [show (a.n.b5 != 3)=true by simpa using p3];simp only [cond_true,e06];rw [b1B]
theorem d5N{a:m6}(h:NI a.n){m:l8}(hm:MI m)(hk:m.a7=5)(ho:a.out.length<=800)(ht:a.told.length<=800)(hto:m.To=a.n.Id):b3s a m=some (a1w a (a0n a.n m)):=by
 have hkd:=hm.kd.five hk;unfold b3s a0n;cases h1:decide (m.c9<(a.n.a5.length:Int))
 ·cases h2:decide (m.c9>(a.n.a5.length:Int))
  ·simp only [cond_false];have hl:a.n.a5.length<40:=by simp at h1 h2;omega
   rw [b82 h hl hkd.2 (by omega) (by omega)];rfl
  ·simp only [cond_false,cond_true];rw [a5F (by omega)];simp only [d9s,a1w,H6,hto,d9X]
 ·simp only [cond_true];rw [b1B]
theorem c9n{a:m6}(h:NI a.n){m:l8}(hm:MI m)(hk:m.a7=7)(ho:a.out.length<=800):b3b a m=some (S8 a (X0 a.n m)):=by
 have hql:=h.ql;obtain ⟨e1,e2⟩:t9 m.d7=true/\m.d7.i6=false:=by
  rcases hm.kd with q|q|q|q|q|q|q
  ·omega
  ·omega
  ·omega
  ·omega
  ·omega
  ·exact ⟨q.2.2.2.1,q.2.2.2.2.1⟩
  ·omega
 unfold b3b X0;rw [show decide ((a.n.d9.length:Int)>=4)=decide (4<=a.n.d9.length) by simp;omega,d33 (h.ok.2.2.1.fits (by decide))];cases a.n.b5==0
 ·simp only [cond_false,e0s];cases h4:decide (4<=a.n.d9.length)
  ·simp only [cond_false,e0s,d9s];cases F9 a.n.a5 m.d7.a0
   ·simp only [cond_false];have hni:NI {a.n with d9:=a.n.d9++[m.d7]}:=h.queue (by simp at h4 ⊢;omega) (by
     intro e he;rcases List.mem_append.1 he with q|q
     ·exact h.qs e q
     ·rw [d9y.1 q];exact ⟨e1,e2⟩)
    rw [x9 (by omega),a8V (a:=⟨{a.n with d9:=a.n.d9++[m.d7]},a.out,a.told⟩) hni (by simp only;omega)];rfl
   ·simp only [cond_true];rw [a5J]
  ·simp only [cond_true,e06];rw [a5J]
 ·simp only [cond_true,e06];rw [a5J]
theorem b25{n:j5}(h:NI n):a5A n=some ⟨n,[],[]⟩:=by
 unfold a5A;rw [b2x h.ok];rfl
theorem d1X{l:List l8}(hl:l.length<=1000)(h:∀m∈l,MI m):A0 152 a6N l:=Z7 (by omega) fun m hm=>(h m hm).ok
theorem b4s{a:m6}(h:NI a.n)(ho:a.out.length<=1000)(hm:∀m∈a.out,MI m)(ht:a.told.length<=1000):a0l a=some (a.n,a.out,a.told,a):=by
 unfold a0l;rw [b2x h.ok,d9s,c1A (d1X ho hm),d9s,c2B (by omega)];rfl
theorem b7s{n:j5}{x:j5×List l8}(h:N4 n x)(hl:x.2.length<=1000):a0l ⟨x.1,x.2,[]⟩=some (x.1,x.2,[],⟨x.1,x.2,[]⟩):=b4s h.ni hl h.ms (by simp)
theorem b48(l:List m5)(prog:List m7):∀(f k:Nat) (regs:List Int) (rs:List p9) (ps:List n6),(O6 l prog f k regs rs ps).Code≠3
 | 0,_,_,_,_=>by simp [O6]
 | f+1,k,regs,rs,ps=>by
  unfold O6;cases prog[k]? with
  | none=>simp
  | some i =>
   simp only;cases i.a7==6
   ·cases i.a7==7
    ·cases (C7 l i regs rs ps).1.all H7
     ·simp
     ·exact b48 l prog f _ _ _ _
    ·simp
   ·exact b48 l prog f _ _ _ _
theorem c3R{l:List m5}(hb:B7 l=true)(p:List m7):((B2 l p).Code==3) = !C3 p:=by
 unfold B2;rw [hb,d9Q];cases C3 p
 ·rfl
 ·simpa using b48 l p _ _ _ _ _
theorem c6n{n:j5}(h:NI n):a97 n=some (m9 n.a5).1:=by
 unfold a97;rw [a4O h.ok,d9s,a2m.2 h];simp only [d9B,cond_false];rw [c2z (okEntries.f h.ok.2.2.1),h.list];rfl
theorem c4a{prog:List m7}(h:A0 32 okT prog):q9 prog:=h.fits (by decide)
theorem c6L{n:j5}(h:NI n){prog:List m7}(hp:A0 32 okT prog):b1P n prog=some ((G3 n prog).1,(G3 n prog).2,[]):=by
 have hf:=c4a hp;have hs:=h.sq;have hr:=a7x h hf;have hlen:=c2j n prog;have e0:=b4s (a:=⟨n,[],[]⟩) h (by simp) (by simp) (by simp);rw [a0R] at hr hlen;unfold b1P;rw [a4O h.ok,d9s,a2m.2 h,b25 h,a0R,a85 hf,c6n h];simp only [d9B,cond_false,d9s];have hc:((B2 (a1N n) prog).Code==3) = !C3 prog:=c3R (b1l h) prog;rw [show (m9 n.a5).1.d8=a1N n from rfl,c5I (a5L (b1l h)) hf];unfold L0 at hr hlen ⊢;rw [hc] at hr hlen ⊢;cases hb:n.i3
 ·cases hq:n.Seq==1000
  ·cases hpo:C3 prog
   ·simp only [d9W,cond_true,cond_false,e0,d9s];rfl
   ·rw [hb,hq,hpo] at hr hlen;have hca:L0 n prog=true:=by unfold L0;rw [hc,hb,hq,hpo];rfl
    have hn:=h.asked hf hca;simp only [d9B,d9W,Bool.or_false,cond_true,cond_false,d9s] at hr hlen ⊢;rw [C8 (by omega) (by omega)];have ha:(⟨⟨n.Id,n.Acc,n.a5,n.Seq+1,n.b5,n.a6,n.b8,n.g7,n.d6,n.a9,true,prog,⟨false,⟨n.Id,n.Seq+1⟩,B2 (a1N n) prog⟩,n.d9⟩,[],[]⟩:m6)=⟨J5 n prog,[],[]⟩:=rfl;have hj:∀x:j5×List l8,N4 n x->x.2.length<=3->b2H ⟨x.1,x.2,[]⟩=some (x.1,x.2,[]):=by
     intro x hx hl;unfold b2H;rw [b7s hx (by omega)];rfl
    rw [ha];cases h2:n.b5==2
    ·rw [h2] at hr hlen;cases h0:n.b5==0
     ·rw [h0] at hr hlen;simp only [cond_false,d9s,l7.go] at hr hlen ⊢;exact hj _ hr hlen
     ·rw [h0] at hr hlen;simp only [cond_false,cond_true] at hr hlen ⊢;rw [a3E (a:=⟨J5 n prog,[],[]⟩) (by exact h.id) (by simp)];simp only [d9s,l7.go,e0k];exact hj (J5 n prog,_) hr hlen
    ·rw [h2] at hr hlen;simp only [cond_true] at hr hlen ⊢;rw [a8V (a:=⟨J5 n prog,[],[]⟩) hn (by simp)];simp only [d9s,l7.go,S8,e0k];exact hj _ hr hlen
  ·simp only [cond_true,cond_false,e0,d9s];rfl
 ·simp only [cond_true,e0,d9s];rfl
theorem d3F{b who:Int}(hb:0<=b/\b<=3000)(hw:0<=who/\who<=2):a94 b who=some (I0 b who):=by
 have e:∀i:Int,1<=i->i<=4->a0L who (b+i)=some (bif decide (b+i<=3000) then (bif d9I (b+i) 3==who then .ret (b+i) else .nxt (b+(i+1))) else .brk ()):=by
  intro i h1 h3;unfold a0L;rw [show decide (b+i>0)=true by simp;omega,c2q,C8 (by omega) (by omega),Int.add_assoc];cases hd:decide (b+i<=3000)
  ·rfl
  ·rw [show a0N (b+i)=d9I (b+i) 3 by
    unfold a0N;rw [E0.2 ⟨by omega,by simpa using hd⟩];rfl]
   simp only [cond_true,d9s];cases d9I (b+i) 3==who<;>rfl
 have hmod:∀i:Int,1<=i->d9I (b+i) 3=(b+i) % 3:=fun i hi=>e0N (by omega)
 have e1:=e 1 (by omega) (by omega);have e2:=e 2 (by omega) (by omega);have e3:=e 3 (by omega) (by omega);have m1:=hmod 1 (by omega);have m2:=hmod 2 (by omega);have m3:=hmod 3 (by omega);unfold a94 I0;rw [show decide (b<0)=false by simp;omega,I4,show n7 who 0 2=true from E0.2 hw,C8 (by omega) (by omega)];simp only [cond_false,d9s,d9B];cases q1:decide (b+1<=3000)
 ·rw [q1] at e1;rw [E8 (body:=fun s:Int=>a0L who s) e1,show decide (b+2<=3000)=false by simp at q1 ⊢;omega,show decide (b+3<=3000)=false by simp at q1 ⊢;omega];rfl
 rw [q1] at e1;cases t1:d9I (b+1) 3==who;case true=>rw [t1] at e1;rw [a0f (body:=fun s:Int=>a0L who s) e1];rfl
 rw [t1] at e1;rw [I7 (body:=fun s:Int=>a0L who s) e1];cases q2:decide (b+2<=3000)
 ·rw [show (1:Int)+1=2 from rfl];rw [q2] at e2;rw [E8 (body:=fun s:Int=>a0L who s) e2,show decide (b+3<=3000)=false by simp at q2 ⊢;omega];rfl
 rw [q2] at e2;rw [show (1:Int)+1=2 from rfl];cases t2:d9I (b+2) 3==who;case true=>rw [t2] at e2;rw [a0f (body:=fun s:Int=>a0L who s) e2];rfl
 rw [t2] at e2;rw [I7 (body:=fun s:Int=>a0L who s) e2,show (2:Int)+1=3 from rfl];cases q3:decide (b+3<=3000)
 ·rw [q3] at e3;rw [E8 (body:=fun s:Int=>a0L who s) e3];rfl
 rw [q3] at e3;have t3:(d9I (b+3) 3==who)=true:=by
  simp only [beq_eq_false_iff_ne,beq_iff_eq] at t1 t2 ⊢;omega
 rw [t3] at e3;rw [a0f (body:=fun s:Int=>a0L who s) e3,t3];rfl
theorem d0S{n:j5}(h:NI n):b1F n=some (N0 n):=by
 have hr:=a9D h;have hl:=b95 n;have hj:∀x:j5×List l8,N4 n x->x.2.length<=3->a9w ⟨x.1,x.2,[]⟩=some x:=by
  intro x hx hl;unfold a9w;rw [b7s hx (by omega)];rfl
 unfold b1F;unfold N0 at hr hl ⊢;rw [a4O h.ok,d9s,a2m.2 h,b25 h,d3F h.pr h.id];simp only [d9B,cond_false,d9s];cases hd:decide (I0 n.Acc.g9 n.Id<0)
 ·rw [hd] at hr hl;simp only [decide_eq_false_iff_not] at hd;obtain ⟨c1,c2⟩:=h.accOk;rcases b6C h.pr h.id with q|⟨q1,q2,q3,q4⟩
  ·omega
  ·have hpr:=h.pr;rw [show decide (I0 n.Acc.g9 n.Id>=0)=true by simp;omega];simp only [cond_true,cond_false,b7v,d9s] at hr hl ⊢;rw [b0X (a:=(a1X n).Acc) c1 c2,show D7 (a1X n).Acc (I0 n.Acc.g9 n.Id)=some ⟨I0 n.Acc.g9 n.Id,n.Acc.a9⟩ from b6k (a:=n.Acc) (by omega) q3 (by omega),d9s,c4l (by exact h.id),d9s];simp only;have ha:=a3E (a:=⟨⟨n.Id,⟨I0 n.Acc.g9 n.Id,n.Acc.a9⟩,n.a5,n.Seq,1,I0 n.Acc.g9 n.Id,Z4 n.Id,n.Acc.a9,zE,[],n.i3,n.i5,n.b7,n.d9⟩,[],[]⟩) h.id (by simp) ⟨1,0,0,I0 n.Acc.g9 n.Id,(n.a5.length:Int),zE,[]⟩;refine (congrArg (fun x:Option m6=>((x.bind fun all=>some (l7.brk all)).bind fun x:l7 (j5×List l8) m6=>x.go some fun j=>a9w j)) ha).trans ?_;simp only [d9s,l7.go,e0k];have e:=hj _ hr hl;exact e
 ·rw [hd] at hr hl;rw [show decide (I0 n.Acc.g9 n.Id>=0)=false by simp at hd ⊢;omega];simp only [cond_false,cond_true,d9s,l7.go] at hr hl ⊢;exact hj (n,[]) hr hl
theorem d0g{n:j5}(h:NI n):b2K n=some ((L8 n).1,(L8 n).2,[]):=by
 have hr:=a7M h;have hl:=b9k n;have hj:∀x:j5×List l8,N4 n x->x.2.length<=6->a90 ⟨x.1,x.2,[]⟩=some (x.1,x.2,[]):=by
  intro x hx hl;unfold a90;rw [b7s hx (by omega)];rfl
 have l0:=a1L n.Id ⟨8,0,0,0,(n.a5.length:Int),zE,[]⟩;unfold b2K;unfold L8 at hr hl ⊢;rw [a4O h.ok,d9s,a2m.2 h,b25 h];simp only [d9B,cond_false,d9s];rw [a3E (a:=⟨n,[],[]⟩) (by exact h.id) (by simp)];simp only [d9s,e0k];have l1:(D2 n.Id ⟨8,0,0,0,(n.a5.length:Int),⟨false,⟨0,0⟩,⟨[],[],0,0⟩⟩,[]⟩).length<=3:=l0;cases h1:n.b5==1
 ·cases h2:n.b5==2
  ·cases h3:n.b5==3
   ·cases hbz:n.i3
    ·rw [h1,h2,h3,hbz] at hr hl;simp only [cond_false,d9s,l7.go] at hr hl ⊢;have e:=hj _ hr hl;exact e
    ·rw [h1,h2,h3,hbz] at hr hl;simp only [cond_false,cond_true] at hr hl ⊢;rw [a3E (by exact h.id) (by simp only;omega)];simp only [d9s,l7.go];have e:=hj _ hr hl;exact e
   ·rw [h1,h2,h3] at hr hl;simp only [cond_false,cond_true] at hr hl ⊢;rw [a3E (by exact h.id) (by simp only;omega)];simp only [d9s,l7.go];have e:=hj _ hr hl;exact e
  ·rw [h1,h2] at hr hl;simp only [cond_false,cond_true] at hr hl ⊢;rw [a8V (by exact h) (by simp only;omega)];simp only [d9s,l7.go];have e:=hj _ hr hl;exact e
 ·rw [h1] at hr hl;simp only [cond_true] at hr hl ⊢;rw [a3E (by exact h.id) (by simp only;omega)];simp only [d9s,l7.go];have e:=hj _ hr hl;exact e
theorem d1s{n:j5}(h:NI n):b0n n=some (Y2 n):=by
 unfold b0n;rw [a4O h.ok,d9s,a2m.2 h];simp only [d9B,cond_false];rw [show (⟨n.Id,n.Acc,n.a5,n.Seq,0,0,[],[],⟨false,⟨0,0⟩,⟨[],[],0,0⟩⟩,[],false,[],⟨false,⟨0,0⟩,⟨[],[],0,0⟩⟩,[]⟩:j5)=Y2 n from rfl,b2x h.fall.ok];rfl
theorem b7W{n:j5}(h:NI n){m:l8}(hto:m.To=n.Id):∀(d k:Nat) (o:List l8),n.a5.length-k=d->o.length<=k->p8 (fun s:Int×m6=>a3n m s.1 s.2) ((k:Int),⟨n,o,[]⟩)=some (.brk ⟨n,o++((d9C d).map fun j=>X3 n m (k+j)).flatten,[]⟩)
 | 0,k,o,hd,ho=>by
  have hkl:=h.kl;refine (E8 (body:=fun s:Int×m6=>a3n m s.1 s.2) (b:=⟨n,o,[]⟩) ?_).trans (by simp);unfold a3n;rw [show decide ((k:Int)<(n.a5.length:Int))=false by simp;omega];rfl
 | d+1,k,o,hd,ho=>by
  have hkl:=h.kl;have hlt:k<n.a5.length:=by omega
  have hb:a3n m (k:Int) ⟨n,o,[]⟩=some (.nxt (((k+1:Nat):Int),⟨n,o++X3 n m k,[]⟩)):=by
   unfold a3n;rw [z5 _ k hlt,cond_true];simp only;rw [s7 hlt,d9s,a5F (by simp only;omega),c3O m hlt,E7 (h.ok.2.2.1.fits (by decide)) hlt];simp only [d9s,H6,hto]
  rw [I7 (body:=fun s:Int×m6=>a3n m s.1 s.2) (s:=((k:Int),⟨n,o,[]⟩)) hb,b7W h hto d (k+1) _ (by omega) (by rw [c3O m hlt];simp;omega)];rw [List.range_succ_eq_map,d9R,d9S,d9N,e03];simp only [e01,Function.comp_def,Nat.succ_eq_add_one,Nat.add_assoc,Nat.add_comm 1]
theorem c69{n:j5}(h:NI n){m:l8}(hm:MI m)(hto:m.To=n.Id):a9Y n m=some (M3 n m):=by
 have hr:=b1T h hm;have hl:=b3L h m;have hj:∀x:j5×List l8×List s9,a3R n x->x.2.1.length<=60->x.2.2.length<=1->b0t ⟨x.1,x.2.1,x.2.2⟩=some x:=by
  intro x hx h1 h2;unfold b0t;rw [b4s hx.ni (by simp only;omega) hx.ms (by simp only;omega)];rfl
 have hz:NI (⟨n,[],[]⟩:m6).n:=h;unfold a9Y;unfold M3 at hr hl ⊢;rw [a4O h.ok,d9s,a2m.2 h,b25 h,b9M hm.ok,c2M.2 hm,show (m.To != n.Id)=false by simpa using hto];simp only [d9B,cond_false,d9s];by_cases k1:m.a7=1
 ·rw [show (m.a7==1)=true by simpa using k1] at hr hl ⊢;simp only [cond_true] at hr hl ⊢;rw [d6R (a:=⟨n,[],[]⟩) h hm (by simp) hto];have e:=hj _ hr hl.1 hl.2;exact e
 rw [show (m.a7==1)=false by simpa using k1] at hr hl ⊢;by_cases k2:m.a7=2
 ·rw [show (m.a7==2)=true by simpa using k2] at hr hl ⊢;simp only [cond_true,cond_false] at hr hl ⊢;rw [c75 (a:=⟨n,[],[]⟩) h hm k2 (by simp)];have e:=hj _ hr hl.1 hl.2;exact e
 rw [show (m.a7==2)=false by simpa using k2] at hr hl ⊢;by_cases k3:m.a7=3
 ·rw [show (m.a7==3)=true by simpa using k3] at hr hl ⊢;simp only [cond_true,cond_false] at hr hl ⊢;rw [c6A (a:=⟨n,[],[]⟩) h hm (by simp) hto];have e:=hj _ hr hl.1 hl.2;exact e
 rw [show (m.a7==3)=false by simpa using k3] at hr hl ⊢;by_cases k4:m.a7=4
 ·rw [show (m.a7==4)=true by simpa using k4] at hr hl ⊢;simp only [cond_true,cond_false] at hr hl ⊢;rw [d2i (a:=⟨n,[],[]⟩) h hm (by simp) (by simp)];have e:=hj _ hr hl.1 hl.2;exact e
 rw [show (m.a7==4)=false by simpa using k4] at hr hl ⊢;by_cases k5:m.a7=5
 ·rw [show (m.a7==5)=true by simpa using k5] at hr hl ⊢;simp only [cond_true,cond_false] at hr hl ⊢;rw [d5N (a:=⟨n,[],[]⟩) h hm k5 (by simp) (by simp) hto];have e:=hj _ hr hl.1 hl.2;exact e
 rw [show (m.a7==5)=false by simpa using k5] at hr hl ⊢;by_cases k6:m.a7=6
 ·rw [show (m.a7==6)=true by simpa using k6] at hr hl ⊢;obtain ⟨c1,c2⟩:=h.accOk;simp only [cond_true,cond_false] at hr hl ⊢;rw [b0X c1 c2];cases hp:D7 n.Acc m.a6
  ·rw [hp] at hr;simp only [d9s,b3r,l7.go];have e:=hj _ hr hl.1 hl.2;exact e
  ·rw [hp] at hr;simp only [d9s,b3r,l7.go];have e:=hj _ hr hl.1 hl.2;exact e
 rw [show (m.a7==6)=false by simpa using k6] at hr hl ⊢;by_cases k7:m.a7=7
 ·rw [show (m.a7==7)=true by simpa using k7] at hr hl ⊢;simp only [cond_true,cond_false] at hr hl ⊢;rw [c9n (a:=⟨n,[],[]⟩) h hm k7 (by simp)];have e:=hj _ hr hl.1 hl.2;exact e
 rw [show (m.a7==7)=false by simpa using k7] at hr hl ⊢;cases k8:m.a7==8
 ·rw [k8] at hr hl;simp only [cond_false,d9s,l7.go] at hr hl ⊢;have e:=hj _ hr hl.1 hl.2;exact e
 ·rw [k8] at hr hl;have hs:=hm.sl;obtain ⟨k,hk⟩:∃k:Nat,m.c9=(k:Int):=⟨m.c9.toNat,by omega⟩
  simp only [cond_false,cond_true] at hr hl ⊢;unfold a1C at hr hl ⊢;rw [hk] at hr hl ⊢;rw [d96] at hr hl ⊢;rw [b7W h hto (n.a5.length-k) k [] rfl (by simp)];have e:=hj _ hr hl.1 hl.2;exact e
theorem b5y{l:List l8}(hl:q9 l):∀(d k:Nat) (net:List l8),net.length<=40->l.length-k=d->p8 (fun s:(List l8)×Int=>a1J l s.1 s.2) (net,(k:Int))=some (.brk (net++(l.drop k).take (40-net.length)))
 | 0,k,net,hn,hd=>by
  refine (E8 (body:=fun s:(List l8)×Int=>a1J l s.1 s.2) (b:=net) ?_).trans (by rw [d9Z (by omega)];simp);unfold a1J;rw [show decide ((k:Int)<(l.length:Int))=false by simp;omega];rfl
 | d+1,k,net,hn,hd=>by
  have hlt:k<l.length:=by omega
  rw [d97 hlt];by_cases h40:net.length<40
  ·rw [I7 (body:=fun s:(List l8)×Int=>a1J l s.1 s.2) (t:=(net++[l[k]],((k+1:Nat):Int))) (by
    unfold a1J b3o;rw [z5 _ k hlt,cond_true,s7 hlt,d9s,show decide ((net.length:Int)<40)=true by simp;omega,cond_true,x9 (by simp only;omega),E7 hl hlt];rfl),b5y hl d (k+1) _ (by simp;omega) (by omega),d9E,e0q,show 40-net.length=(40-(net.length+1))+1 by omega,List.take_succ_cons,d9N]
   rfl
  ·rw [I7 (body:=fun s:(List l8)×Int=>a1J l s.1 s.2) (t:=(net,((k+1:Nat):Int))) (by
    unfold a1J b3o;rw [z5 _ k hlt,cond_true,s7 hlt,d9s,show decide ((net.length:Int)<40)=false by simp;omega,cond_false,E7 hl hlt];rfl),b5y hl d (k+1) _ hn (by omega),show 40-net.length=0 by omega,e0j,e0j]
theorem b6s{l:List s9}(hl:q9 l):∀(d k:Nat) (net:List s9),net.length<=60->l.length-k=d->p8 (fun s:(List s9)×Int=>a1S l s.1 s.2) (net,(k:Int))=some (.brk (net++(l.drop k).take (60-net.length)))
 | 0,k,net,hn,hd=>by
  refine (E8 (body:=fun s:(List s9)×Int=>a1S l s.1 s.2) (b:=net) ?_).trans (by rw [d9Z (by omega)];simp);unfold a1S;rw [show decide ((k:Int)<(l.length:Int))=false by simp;omega];rfl
 | d+1,k,net,hn,hd=>by
  have hlt:k<l.length:=by omega
  rw [d97 hlt];by_cases h40:net.length<60
  ·rw [I7 (body:=fun s:(List s9)×Int=>a1S l s.1 s.2) (t:=(net++[l[k]],((k+1:Nat):Int))) (by
    unfold a1S b3q;rw [z5 _ k hlt,cond_true,s7 hlt,d9s,show decide ((net.length:Int)<60)=true by simp;omega,cond_true,x9 (by simp only;omega),E7 hl hlt];rfl),b6s hl d (k+1) _ (by simp;omega) (by omega),d9E,e0q,show 60-net.length=(60-(net.length+1))+1 by omega,List.take_succ_cons,d9N]
   rfl
  ·rw [I7 (body:=fun s:(List s9)×Int=>a1S l s.1 s.2) (t:=(net,((k+1:Nat):Int))) (by
    unfold a1S b3q;rw [z5 _ k hlt,cond_true,s7 hlt,d9s,show decide ((net.length:Int)<60)=false by simp;omega,cond_false,E7 hl hlt];rfl),b6s hl d (k+1) _ hn (by omega),show 60-net.length=0 by omega,e0j,e0j]
theorem a6T{w:j9}(hn:w.a8.length=3)(hnet:w.i0.length<=40)(htl:w.Told.length<=60){n:j5}(hid:0<=n.Id/\n.Id<=2){l:List l8}(hl:l.length<=100){t:List s9}(ht:t.length<=100):a2k w n l t=some (a2c (N8 (F3 w n.Id n) l) t):=by
 obtain ⟨k,hk⟩:∃k:Nat,n.Id=(k:Int):=⟨n.Id.toNat,by omega⟩
 unfold a2k;rw [hk,s7 (show k<w.a8.length by omega),d9s];rw [show p8 (fun s:(List l8)×Int=>a1J l s.1 s.2) (w.i0,0)=_ from b5y (by unfold q9;omega) l.length 0 w.i0 hnet (by omega)];simp only [d9s,l7.go,b6E];rw [show p8 (fun s:(List s9)×Int=>a1S t s.1 s.2) (w.Told,0)=_ from b6s (by unfold q9;omega) t.length 0 w.Told htl (by omega)];simp only [d9s,l7.go,b4q,e0T,hk];rfl
theorem d6p{l:List l8}{k:Nat}(hk:k<l.length)(hl:l.length<=100):a9t l (k:Int)=some (l.take k++l.drop (k+1)):=by
 unfold a9t;rw [C8 (by omega) (by omega)];have e1:((k:Int)+1).toNat=k+1:=by omega
 have l1:((l.drop 0).take ((k:Int).toNat-0)).length<=100:=by simp;omega
 have l2:((l.drop (k+1)).take (l.length-(k+1))).length<=100:=by simp;omega
 rw [x9 (by omega),x9 (by simp only [List.length_nil];omega),x9 (by omega),e1,x9 (by simp only [d9E,List.length_nil];omega)];rw [b8E];simp
theorem d6e(n:j5)(p:List m7):(L0 n p=true/\(G3 n p).1.Seq=n.Seq+1/\(G3 n p).1.b7.a0=⟨n.Id,n.Seq+1⟩)\/(L0 n p=false/\G3 n p=(n,[])):=by
 cases hc:L0 n p
 ·right
  rw [a0R,hc];exact ⟨rfl,rfl⟩
 ·left
  refine ⟨rfl,?_,?_⟩
  ·rw [a0R,hc];simp only [cond_true];cases n.b5==2
   ·rfl
   ·exact (b2q (J5 n p)).seq
  ·rw [b4Q hc];rfl
def onN(w:j9)(e:G5):j9 :=
 bif e.a7==1 then a2A w e.A e.i5 else
 bif e.a7==5 then N8 (F3 w e.A (N0 (A2 w e.A)).1) (N0 (A2 w e.A)).2 else
 bif e.a7==6 then N8 (F3 w e.A (L8 (A2 w e.A)).1) (L8 (A2 w e.A)).2 else
 bif e.a7==7 then F3 w e.A (Y2 (A2 w e.A)) else w
theorem b32(w:j9)(e:G5):B4 w e=bif e.a7==2||(e.a7==3||e.a7==4) then a0U w e else bif n7 e.A 0 2 then onN w e else w:=by
 unfold B4 onN;cases e.a7==2||(e.a7==3||e.a7==4)
 ·cases n7 e.A 0 2<;>rfl
 ·rfl
theorem d2m{w:j9}(h:WI w){e:G5}(he:a1V e)(hi:n7 e.A 0 2=true):a4b w e=some (onN w e):=by
 rw [E0] at hi;obtain ⟨i,hA⟩:∃i:Nat,e.A=(i:Int):=⟨e.A.toNat,by omega⟩
 obtain ⟨n,hg,hn,hid,hni,hlt⟩:=a3O h (i:=i) (by omega);have hal:=h.al;unfold a4b onN;rw [hA,b10,hg,d9s,hn];cases e.a7==1
 ·cases e.a7==5
  ·cases e.a7==6
   ·cases e.a7==7
    ·rfl
    ·simp only [cond_true,cond_false];rw [d1s hni,d9s,a6T h.nl h.ml h.tl (by exact hni.id) (by simp) (by simp),d9s,a7G,d5l];simp only [d9s,l7.go,b3g];rw [show (Y2 n).Id=(i:Int) from hid]
   ·simp only [cond_true,cond_false];have hr:=a7M hni;have hl:=b9k n;rw [d0g hni,d9s];simp only;rw [a6T h.nl h.ml h.tl (by rw [hr.id];exact hni.id) (by omega) (by simp),d9s,a7G,hr.id,hid];rfl
  ·simp only [cond_true,cond_false];have hr:=a9D hni;have hl:=b95 n;rw [d0S hni,d9s,a6T h.nl h.ml h.tl (by rw [hr.id];exact hni.id) (by omega) (by simp),d9s,a7G,hr.id,hid];rfl
 ·simp only [cond_true];unfold a2A;rw [show decide ((w.f0.length:Int)>=60)=decide (60<=w.f0.length) by simp;omega];cases decide (60<=w.f0.length)
  ·simp only [cond_false];have hr:=a7x hni (c4a he);have hl:=c2j n e.i5;rw [c6L hni he,d9s];simp only;rw [a6T h.nl h.ml h.tl (by rw [hr.id];exact hni.id) (by omega) (by simp),d9s,a7G,hr.id,hid,hn];rcases d6e n e.i5 with ⟨c1,c2,c3⟩|⟨c1,c2⟩
   ·rw [show ((G3 n e.i5).1.Seq != n.Seq)=true by rw [c2];simp;omega,show decide ((G3 n e.i5).1.Seq>n.Seq)=true by rw [c2];simp;omega];simp only [cond_true];rw [x9 (by show (w.f0.length+1)*40<=_;omega)];simp only [d9s,l7.go,b3g];rw [c3,c2,hid];rfl
   ·rw [c2,show (n.Seq != n.Seq)=false by simp,show decide (n.Seq>n.Seq)=false by simp];rfl
  ·rfl
theorem c9u{w:j9}(h:WI w){e:G5}{k:Nat}(hA:e.A=(k:Int))(hk:k<w.i0.length)(hkd:(e.a7==2||(e.a7==3||e.a7==4))=true):a5c w e=some (a0U w e):=by
 have hml:=h.ml;unfold a5c a0U;rw [hA,s7 hk,d9s,show decide (0<=(k:Int))=true by simp,d96,d9t hk];have hm:=h.ms _ (d9w hk);generalize w.i0[k]=m at hm;have hof:=d6p hk (by omega);have ht:=hm.to;obtain ⟨t,htt⟩:∃t:Nat,m.To=(t:Int):=⟨m.To.toNat,by omega⟩
 simp only [cond_true];by_cases k2:e.a7=2
 ·rw [show (e.a7==2)=true by simpa using k2,show (e.a7==4)=false by simp [k2],show (e.a7==3)=false by simp [k2]];simp only [cond_true,cond_false];have ho:=h.off (k:Int);obtain ⟨n,hg,hn,hid,hni,hlt⟩:=a3O ho (i:=t) (by omega);have hn':A2 w (t:Int)=n:=hn;have hg':w.a8[t]?=some n:=hg;have hr:=b1T hni hm;obtain ⟨l1,l2⟩:=b3L hni m;rw [hof,d9s,htt,b10,hg',d9s,c69 hni hm (htt.trans hid.symm),d9s,a6T (w:=⟨w.a8,w.i0.take k++w.i0.drop (k+1),w.f0,w.Told⟩) h.nl ho.ml h.tl (by rw [hr.id];exact hni.id) (by omega) (by omega),d9s,hn',hr.id,hid];rfl
 ·rw [show (e.a7==2)=false by simpa using k2];cases k3:e.a7==3
  ·rw [show (e.a7==4)=true by rw [show (e.a7==2)=false by simpa using k2,k3] at hkd;simpa using hkd];simp only [cond_true,cond_false];obtain ⟨n,hg,hn,hid,hni,hlt⟩:=a3O h (i:=t) (by omega);rw [htt,b10,hg,d9s,a6T h.nl h.ml h.tl hni.id (by simp) (by simp),d9s,a7G,hid,d5f hg];rfl
  ·rw [show (e.a7==4)=false by simp only [beq_iff_eq] at k3;simp [k3]];simp only [cond_true,cond_false];rw [hof];rfl
theorem c8Q{w:j9}(h:WI w){e:G5}(he:a1V e):a9T w e=some (B4 w e):=by
 have hd:=a6h h he;have hml:=h.ml;have hcp:a0M w=some w:=b6T h.ok;have hcd:a0M (B4 w e)=some (B4 w e):=b6T hd.ok;have hin:l9 ((w.a8.length:Int)-1)=2:=by rw [h.nl];rfl
 have hnode:(e.a7==2||(e.a7==3||e.a7==4))=false->((A7 e.A 0 2).bind fun in_=>bif in_ then (a4b w e).bind fun o=>some (l7.brk o) else some (l7.brk w):Option (l7 j9 j9))=some (.brk (B4 w e)):=by
  intro hk;rw [I4,d9s,b32,hk];cases hi:n7 e.A 0 2
  ·rfl
  ·simp only [cond_true,cond_false];rw [d2m h he hi];rfl
 have hmsg:(e.a7==2||(e.a7==3||e.a7==4))=true->((A7 e.A 0 (l9 ((w.i0.length:Int)-1))).bind fun in_=>bif in_ then (a5c w e).bind fun o=>some (l7.brk o) else some (l7.brk w):Option (l7 j9 j9))=some (.brk (B4 w e)):=by
  intro hk;rw [C8 (by omega) (by omega),I4,d9s,b32,hk];cases hi:n7 e.A 0 ((w.i0.length:Int)-1)
  ·simp only [cond_true,cond_false];rw [show a0U w e=w by
    unfold a0U;cases h0:decide (0<=e.A)
    ·rfl
    ·have:¬(0<=e.A/\e.A<=(w.i0.length:Int)-1):=fun q=>by rw [E0.2 q] at hi;cases hi
     have h0':0<=e.A:=of_decide_eq_true h0;rw [d9U (by omega)];rfl]
  ·rw [E0] at hi;simp only [cond_true];rw [c9u h (k:=e.A.toNat) (by omega) (by omega) hk];rfl
 unfold a9T;rw [hcp,d9s,hin];by_cases k1:e.a7=1
 ·have hf:(e.a7==2||(e.a7==3||e.a7==4))=false:=by simp [k1]
  rw [show (e.a7==1)=true by simpa using k1];simp only [cond_true];rw [hnode hf];simp only [d9s,l7.go,b45,hcd]
 rw [show (e.a7==1)=false by simpa using k1];by_cases k5:e.a7=5
 ·have hf:(e.a7==2||(e.a7==3||e.a7==4))=false:=by simp [k5]
  rw [show (e.a7==5)=true by simpa using k5];simp only [cond_true,cond_false];rw [hnode hf];simp only [d9s,l7.go,b6V,hcd]
 rw [show (e.a7==5)=false by simpa using k5];by_cases k6:e.a7=6
 ·have hf:(e.a7==2||(e.a7==3||e.a7==4))=false:=by simp [k6]
  rw [show (e.a7==6)=true by simpa using k6];simp only [cond_true,cond_false];rw [hnode hf];simp only [d9s,l7.go,b4L,hcd]
 rw [show (e.a7==6)=false by simpa using k6];simp only [cond_false];have fin:∀X:Option (l7 j9 j9),X=some (.brk (B4 w e))->(X.bind fun x=>x.go some fun j=>b2o j)=some (B4 w e):=by
  intro X hX;rw [hX];simp only [d9s,l7.go,b2o,hcd]
 refine fin _ ?_;by_cases k7:e.a7=7
 ·rw [show (e.a7==7)=true by simpa using k7];exact hnode (by simp [k7])
 rw [show (e.a7==7)=false by simpa using k7];by_cases k2:e.a7=2
 ·rw [show (e.a7==2)=true by simpa using k2];exact hmsg (by simp [k2])
 by_cases k3:e.a7=3
 ·rw [show (e.a7==2)=false by simpa using k2,show (e.a7==3)=true by simpa using k3];exact hmsg (by simp [k3])
 by_cases k4:e.a7=4
 ·rw [show (e.a7==2)=false by simpa using k2,show (e.a7==3)=false by simpa using k3,show (e.a7==4)=true by simpa using k4];exact hmsg (by simp [k4])
 have e2:(e.a7==2)=false:=by simpa using k2
 have e3:(e.a7==3)=false:=by simpa using k3
 have e4:(e.a7==4)=false:=by simpa using k4
 rw [e2,e3,e4,b32,e2,e3,e4];have:onN w e=w:=by
  unfold onN;rw [show (e.a7==1)=false by simpa using k1,show (e.a7==5)=false by simpa using k5,show (e.a7==6)=false by simpa using k6,show (e.a7==7)=false by simpa using k7];rfl
 rw [this];cases n7 e.A 0 2<;>rfl
theorem a4c{w:j9}(h:WI w){e:G5}(he:a1V e):a1z w e=some (B4 w e):=by
 unfold a1z;rw [a3g h.ok,d9s,a1T.2 h];simp only [d9B,cond_false];rw [c8Q h he];rfl
def D3(i:Int):Prop:=0<=i/\i<=2
abbrev VR:=Int->Nat->Int->j8->Prop
abbrev PR:=Int->Nat->j8->Prop
abbrev MS:=l8->Prop
def Z6(V:VR)(s:Nat)(e:j8):Prop := ∃b p q,D3 p/\D3 q/\p≠q/\V p s b e/\V q s b e
structure Cov(N:Int->j5)(V:VR)(n:j5)(q:Int):Prop where
 pr:n.a6<=(N q).Acc.g9
 cv:∀s b e,n.a5.length<=s->b<n.a6->V q s b e->∃v,n.g7[s]?=some v/\b<=v.a6
def W5(p:Int->Prop):Prop := ∃a b,D3 a/\D3 b/\a≠b/\p a/\p b
structure LD(N:Int->j5)(V:VR)(P:PR)(n:j5):Prop where
 bs:n.b5≠0->∀s v,n.g7[s]?=some v->v.a6>0->v.a6<n.a6/\∃q,V q s v.a6 v.d7
 l1:n.b5=1->(∀s e,¬P n.a6 s e)/\∀q,D3 q->n.b8[q.toNat]?=some true->Cov N V n q
 l2:n.b5=2->(∀s e,P n.a6 s e->s<n.a5.length)/\W5 (Cov N V n)
 l3:n.b5=3->P n.a6 n.a5.length n.d6/\(∀s e,P n.a6 s e->s<=n.a5.length)/\W5 (Cov N V n)/\∀q,D3 q->n.a9[q.toNat]?=some true->V q n.a5.length n.a6 n.d6
structure MV(N:Int->j5)(V:VR)(P:PR)(m:l8):Prop where
 k1:m.a7=1->d9I m.a6 3=m.b8/\m.c9<=(N m.b8).a5.length
 k2:m.a7=2->m.c9<=(N m.To).a5.length/\m.a6<=(N m.b8).Acc.g9/\(∀s b e,m.c9.toNat<=s->b<m.a6->V m.b8 s b e->∃v,m.a9[s-m.c9.toNat]?=some v/\b<=v.a6)/\∀k v,m.a9[k]?=some v->v.a6>0->v.a6<=m.a6/\V m.b8 (m.c9.toNat+k) v.a6 v.d7
 k3:m.a7=3->P m.a6 m.c9.toNat m.d7
 k4:m.a7=4->∃e,V m.b8 m.c9.toNat m.a6 e
 k5:m.a7=5->Z6 V m.c9.toNat m.d7
def Sf(N:Int->j5)(V:VR)(b:Int)(s:Nat)(e:j8)(q:Int):Prop :=
 b<=(N q).Acc.g9/\∀b' e',b'<b->V q s b' e'->∃b1 q1,b'<=b1/\b1<b/\V q1 s b1 e
structure PX(N:Int->j5)(V:VR)(P:PR)(M:MS):Prop where
 ni:∀i,D3 i->NI (N i)/\(N i).Id=i
 vp:∀i s b e,V i s b e->D3 i/\P b s e/\1<=b/\b<=(N i).Acc.g9
 cur:∀i s v,D3 i->(N i).Acc.a9[s]?=some v->v.a6>0->V i s v.a6 v.d7
 max:∀i s b e,V i s b e->∃v,(N i).Acc.a9[s]?=some v/\b<=v.a6
 pu:∀b s e e',P b s e->P b s e'->e=e'
 po:∀b s e,P b s e->1<=b/\b<=(N (d9I b 3)).Acc.g9
 safe:∀b s e,P b s e->W5 (Sf N V b s e)
 ld:∀i,D3 i->LD N V P (N i)
 kn:∀i s e,D3 i->(N i).a5[s]?=some e->Z6 V s e
 ms:∀m,M m->MI m/\MV N V P m
theorem c7V{p q:Int->Prop}(hp:W5 p)(hq:W5 q):∃a,D3 a/\p a/\q a:=by
 obtain ⟨a,b,ha,hb,hab,pa,pb⟩:=hp;obtain ⟨c,d,hc,hd,hcd,qc,qd⟩:=hq;unfold D3 at *;by_cases h1:a=c
 ·exact ⟨a,ha,pa,h1▸qc⟩
 by_cases h2:a=d
 ·exact ⟨a,ha,pa,h2▸qd⟩
 by_cases h3:b=c
 ·exact ⟨b,hb,pb,h3▸qc⟩
 by_cases h4:b=d
 ·exact ⟨b,hb,pb,h4▸qd⟩
 omega
section
variable {N:Int->j5} {V:VR} {P:PR} {M:MS}
theorem PX.later(h:PX N V P M){s:Nat}{b0:Int}{e0:j8}(hc:W5 fun q=>V q s b0 e0):∀(k:Nat) (b:Int) (e:j8),b.toNat=k->b0<=b->P b s e->e=e0:=by
 have h0:P b0 s e0:=by obtain ⟨p,q,_,_,_,v,_⟩:=hc;exact (h.vp _ _ _ _ v).2.1
 intro k;induction k using Nat.strongRecOn with
 | _ k ih =>
  intro b e hb hle hp;by_cases hq:b0=b
  ·subst hq;exact h.pu _ _ _ _ hp h0
  ·obtain ⟨a,ha,v,s1,s2⟩:=c7V hc (h.safe b s e hp);obtain ⟨b1,q1,h1,h2,h3⟩:=s2 b0 e0 (by omega) v;obtain ⟨_,p1,p2,_⟩:=h.vp _ _ _ _ h3;exact ih b1.toNat (by omega) b1 e rfl h1 p1
theorem PX.one(h:PX N V P M){s:Nat}{e e':j8}(h1:Z6 V s e)(h2:Z6 V s e'):e=e':=by
 obtain ⟨b,p,q,hp,hq,hpq,v1,v2⟩:=h1;obtain ⟨b',p',q',hp',hq',hpq',w1,w2⟩:=h2;have c1:W5 fun q=>V q s b e:=⟨p,q,hp,hq,hpq,v1,v2⟩
 have c2:W5 fun q=>V q s b' e':=⟨p',q',hp',hq',hpq',w1,w2⟩
 rcases Int.le_total b b' with hl|hl
 ·exact (h.later c1 _ b' e' rfl hl (h.vp _ _ _ _ w1).2.1).symm
 ·exact h.later c2 _ b e rfl hl (h.vp _ _ _ _ v1).2.1
theorem PX.still(h:PX N V P M){s:Nat}{e:j8}(hc:Z6 V s e):W5 fun q => ∃v,(N q).Acc.a9[s]?=some v/\v.a6>0/\v.d7=e:=by
 obtain ⟨b,p,q,hp,hq,hpq,v1,v2⟩:=hc;have c1:W5 fun q=>V q s b e:=⟨p,q,hp,hq,hpq,v1,v2⟩
 have key:∀a,D3 a->V a s b e->∃v,(N a).Acc.a9[s]?=some v/\v.a6>0/\v.d7=e:=by
  intro a ha va;obtain ⟨v,x1,x2⟩:=h.max _ _ _ _ va;have hb:=(h.vp _ _ _ _ va).2.2.1;have vv:=h.cur a s v ha x1 (by omega);exact ⟨v,x1,by omega,h.later c1 _ v.a6 v.d7 rfl x2 (h.vp _ _ _ _ vv).2.1⟩
 exact ⟨p,q,hp,hq,hpq,key p hp v1,key q hq v2⟩
end
def upd(N:Int->j5)(i:Int)(n:j5):Int->j5:=fun j=>if j=i then n else N j
theorem M7(N:Int->j5)(i:Int)(n:j5):upd N i n i=n:=if_pos rfl
theorem a6A{N:Int->j5}{i j:Int}(n:j5)(h:j≠i):upd N i n j=N j:=if_neg h
theorem a08(N:Int->j5)(i:Int)(a b:j5):upd (upd N i a) i b=upd N i b:=by
 funext j;unfold upd;split<;>rfl
theorem a5N(N:Int->j5)(i:Int):upd N i (N i)=N:=by
 funext j;unfold upd;split
 ·rename_i h;rw [h]
 ·rfl
theorem W4.own{n:j5}(h:W4 n)(hp:n.b5≠0):Z1 n:=by
 rcases h with q|q|q|q
 ·exact absurd q.1 hp
 ·exact q.2.1
 ·exact q.2.1
 ·exact q.2.1
structure W2(N:Int->j5)(V:VR)(P:PR)(M:MS)(i:Int)(n':j5)(V':VR)(P':PR)(M':MS):Prop where
 ni:NI n'
 id:n'.Id=i
 pr:(N i).Acc.g9<=n'.Acc.g9
 kl:(N i).a5.length<=n'.a5.length
 v1:∀q s b e,V q s b e->V' q s b e
 v2:∀q s b e,V' q s b e->V q s b e\/(q=i/\(N i).Acc.g9<=b/\1<=b/\b<=n'.Acc.g9/\P' b s e)
 p1:∀b s e,P b s e->P' b s e
 p2:∀b s e,P' b s e->P b s e\/(b=n'.a6/\n'.b5=3/\(∀e',P' b s e'->e'=e)/\W5 (Sf (upd N i n') V' b s e))
 cur:∀s v,n'.Acc.a9[s]?=some v->v.a6>0->V' i s v.a6 v.d7
 max:∀s b e,V' i s b e->∃v,n'.Acc.a9[s]?=some v/\b<=v.a6
 ld:LD (upd N i n') V' P' n'
 kn:∀s e,n'.a5[s]?=some e->Z6 V' s e
 ms:∀m,M' m->M m\/(MI m/\MV (upd N i n') V' P' m)
section
variable {N:Int->j5} {V:VR} {P:PR} {M:MS} {i:Int} {n':j5} {V':VR} {P':PR} {M':MS}
theorem W2.prm(c:W2 N V P M i n' V' P' M')(q:Int):(N q).Acc.g9<=(upd N i n' q).Acc.g9:=by
 unfold upd;split
 ·rename_i h;rw [h];exact c.pr
 ·exact d9O _
theorem W2.len(c:W2 N V P M i n' V' P' M')(q:Int):(N q).a5.length<=(upd N i n' q).a5.length:=by
 unfold upd;split
 ·rename_i h;rw [h];exact c.kl
 ·exact d9K _
theorem W2.old(c:W2 N V P M i n' V' P' M'){q:Int}{s:Nat}{b x:Int}{e:j8}(hx:x<=(N q).Acc.g9)(hb:b<x)(v:V' q s b e):V q s b e:=by
 rcases c.v2 q s b e v with v|⟨rfl,v1,_⟩
 ·exact v
 ·omega
theorem W2.cov(c:W2 N V P M i n' V' P' M'){n:j5}{q:Int}(h:Cov N V n q):Cov (upd N i n') V' n q :=
 ⟨e0c h.pr (c.prm q),fun s b e hs hb v=>h.cv s b e hs hb (c.old h.pr hb v)⟩
theorem W5.imp{p q:Int->Prop}(h:W5 p)(hi:∀a,D3 a->p a->q a):W5 q:=by
 obtain ⟨a,b,ha,hb,hab,pa,pb⟩:=h;exact ⟨a,b,ha,hb,hab,hi a ha pa,hi b hb pb⟩
theorem W2.sf(c:W2 N V P M i n' V' P' M'){b:Int}{s:Nat}{e:j8}{q:Int}(h:Sf N V b s e q):Sf (upd N i n') V' b s e q :=
 ⟨e0c h.1 (c.prm q),fun b' e' hb v=>by
  obtain ⟨b1,q1,x1,x2,x3⟩:=h.2 b' e' hb (c.old h.1 hb v);exact ⟨b1,q1,x1,x2,c.v1 _ _ _ _ x3⟩⟩
theorem Z6.mono(h:∀q s b e,V q s b e->V' q s b e){s:Nat}{e:j8}(hc:Z6 V s e):Z6 V' s e:=by
 obtain ⟨b,p,q,hp,hq,hpq,v1,v2⟩:=hc;exact ⟨b,p,q,hp,hq,hpq,h _ _ _ _ v1,h _ _ _ _ v2⟩
theorem W2.ldo(c:W2 N V P M i n' V' P' M')(hi:D3 i){n:j5}(hn:NI n)(hne:n.Id≠i)(h:LD N V P n):LD (upd N i n') V' P' n:=by
 have hp:n.b5≠0->∀s e,P' n.a6 s e->P n.a6 s e:=by
  intro h0 s e hp;rcases c.p2 _ _ _ hp with q|⟨hb,h3,_⟩
  ·exact q
  ·exfalso
   have o1:=(hn.ld.own h0).mod;have o2:=(c.ni.ld.own (by omega)).mod;rw [<-hb,o1,c.id] at o2;exact hne o2
 refine ⟨fun h0 s v hs hv => ?_,fun h1 => ?_,fun h2 => ?_,fun h3 => ?_⟩
 ·obtain ⟨x1,q,x2⟩:=h.bs h0 s v hs hv;exact ⟨x1,q,c.v1 _ _ _ _ x2⟩
 ·obtain ⟨x1,x2⟩:=h.l1 h1;exact ⟨fun s e q=>x1 s e (hp (by omega) s e q),fun q hq hf=>c.cov (x2 q hq hf)⟩
 ·obtain ⟨x1,x2⟩:=h.l2 h2;exact ⟨fun s e q=>x1 s e (hp (by omega) s e q),x2.imp fun a _=>c.cov⟩
 ·obtain ⟨x1,x2,x3,x4⟩:=h.l3 h3;exact ⟨c.p1 _ _ _ x1,fun s e q=>x2 s e (hp (by omega) s e q),x3.imp fun a _=>c.cov,fun q hq hv=>c.v1 _ _ _ _ (x4 q hq hv)⟩
theorem W2.msg(c:W2 N V P M i n' V' P' M'){m:l8}(h:MV N V P m):MV (upd N i n') V' P' m:=by
 refine ⟨fun k => ?_,fun k => ?_,fun k=>c.p1 _ _ _ (h.k3 k),fun k => ?_,fun k=>(h.k5 k).mono c.v1⟩
 ·obtain ⟨x1,x2⟩:=h.k1 k;have:=c.len m.b8;exact ⟨x1,by omega⟩
 ·obtain ⟨x1,x2,x3,x4⟩:=h.k2 k;have:=c.len m.To;refine ⟨by omega,e0c x2 (c.prm _),fun s b e hs hb v=>x3 s b e hs hb (c.old x2 hb v),fun k v hk hv => ?_⟩;obtain ⟨y1,y2⟩:=x4 k v hk hv;exact ⟨y1,c.v1 _ _ _ _ y2⟩
 ·obtain ⟨e,x⟩:=h.k4 k;exact ⟨e,c.v1 _ _ _ _ x⟩
theorem PX.step(h:PX N V P M)(hi:D3 i)(c:W2 N V P M i n' V' P' M'):PX (upd N i n') V' P' M':=by
 have hpo:∀b s e,P' b s e->1<=b/\b<=(upd N i n' (d9I b 3)).Acc.g9:=by
  intro b s e hp;rcases c.p2 _ _ _ hp with q|⟨rfl,h3,_⟩
  ·obtain ⟨x1,x2⟩:=h.po _ _ _ q;exact ⟨x1,e0c x2 (c.prm _)⟩
  ·have o:=c.ni.ld.own (by omega);have ho:=o.mod;rw [c.id] at ho;rw [ho,M7];exact ⟨o.b1,o.pr⟩
 refine ⟨fun j hj => ?_,fun j s b e v => ?_,fun j s v hj hs hv => ?_,fun j s b e v => ?_,fun b s e e' p p' => ?_,hpo,fun b s e p => ?_,fun j hj => ?_,fun j s e hj hk => ?_,fun m hm => ?_⟩
 ·by_cases q:j=i
  ·subst q;rw [M7];exact ⟨c.ni,c.id⟩
  ·rw [a6A _ q];exact h.ni j hj
 ·rcases c.v2 _ _ _ _ v with v|⟨rfl,x1,x2,x3,x4⟩
  ·obtain ⟨x1,x2,x3,x4⟩:=h.vp _ _ _ _ v;exact ⟨x1,c.p1 _ _ _ x2,x3,e0c x4 (c.prm _)⟩
  ·rw [M7];exact ⟨hi,x4,x2,x3⟩
 ·by_cases q:j=i
  ·subst q;rw [M7] at hs;exact c.cur s v hs hv
  ·rw [a6A _ q] at hs;exact c.v1 _ _ _ _ (h.cur j s v hj hs hv)
 ·by_cases q:j=i
  ·subst q;rw [M7];exact c.max s b e v
  ·rw [a6A _ q];rcases c.v2 _ _ _ _ v with v|⟨x,_⟩
   ·exact h.max _ _ _ _ v
   ·exact absurd x q
 ·rcases c.p2 _ _ _ p with p|⟨_,_,x,_⟩
  ·rcases c.p2 _ _ _ p' with p'|⟨_,_,x,_⟩
   ·exact h.pu _ _ _ _ p p'
   ·exact x e (c.p1 _ _ _ p)
  ·exact (x e' p').symm
 ·rcases c.p2 _ _ _ p with p|⟨_,_,_,x⟩
  ·exact (h.safe _ _ _ p).imp fun a _=>c.sf
  ·exact x
 ·by_cases q:j=i
  ·subst q;rw [M7];exact c.ld
  ·rw [a6A _ q];exact c.ldo hi (h.ni j hj).1 (by rw [(h.ni j hj).2];exact q) (h.ld j hj)
 ·by_cases q:j=i
  ·subst q;rw [M7] at hk;exact c.kn s e hk
  ·rw [a6A _ q] at hk;exact (h.kn j s e hj hk).mono c.v1
 ·rcases c.ms m hm with q|q
  ·exact ⟨(h.ms m q).1,c.msg (h.ms m q).2⟩
  ·exact q
end
def snd(M:MS)(l:List l8):MS:=fun m=>M m\/m∈l
def H0(N:Int->j5)(M:MS)(i:Int)(n':j5)(l:List l8):Prop := ∃V' P',PX (upd N i n') V' P' (snd M l)
section
variable {N N':Int->j5} {V V':VR} {P P':PR} {M:MS} {i:Int} {n n':j5}
theorem PX.send(h:PX N V P M){l:List l8}(hl:∀m∈l,MI m/\MV N V P m):PX N V P (snd M l) :=
 {h with ms:=fun m hm=>hm.elim (h.ms m) (hl m)}
theorem a5w(M:MS):snd M []=M:=by
 funext m;unfold snd;simp
theorem c3l(M:MS)(a b:List l8):snd (snd M a) b=snd M (a++b):=by
 funext m;unfold snd;simp [or_assoc]
theorem H0.same(h:PX N V P M):H0 N M i (N i) []:=⟨V,P,by rw [a5N,a5w];exact h⟩
theorem LD.same(h:LD N V P n)(hpr:∀q,(N q).Acc.g9<=(N' q).Acc.g9)(hV:∀q s b e,V q s b e->V' q s b e)(hold:∀q s b x e,x<=(N q).Acc.g9->b<x->V' q s b e->V q s b e)(hP:∀b s e,P b s e->P' b s e)(hP':∀s e,P' n.a6 s e->P n.a6 s e)(e1:n'.b5=n.b5)(e2:n'.a6=n.a6)(e3:n'.g7=n.g7)(e4:n'.a5=n.a5)(e5:n'.b8=n.b8)(e6:n'.d6=n.d6)(e7:n'.a9=n.a9):LD N' V' P' n':=by
 have hc:∀q,Cov N V n q->Cov N' V' n' q:=fun q c=>by
  refine ⟨by rw [e2];exact e0c c.pr (hpr q),?_⟩;rw [e2,e3,e4];exact fun s b e hs hb v=>c.cv s b e hs hb (hold _ _ _ _ _ c.pr hb v)
 refine ⟨?_,?_,?_,?_⟩
 ·rw [e1,e2,e3];intro h0 s v hs hv;obtain ⟨x1,q,x2⟩:=h.bs h0 s v hs hv;exact ⟨x1,q,hV _ _ _ _ x2⟩
 ·rw [e1,e2,e5];intro h1;obtain ⟨x1,x2⟩:=h.l1 h1;exact ⟨fun s e p=>x1 s e (hP' s e p),fun q hq hf=>hc q (x2 q hq hf)⟩
 ·rw [e1,e2,e4];intro h2;obtain ⟨x1,x2⟩:=h.l2 h2;exact ⟨fun s e p=>x1 s e (hP' s e p),x2.imp fun q _=>hc q⟩
 ·rw [e1,e2,e4,e6,e7];intro h3;obtain ⟨x1,x2,x3,x4⟩:=h.l3 h3;exact ⟨hP _ _ _ x1,fun s e p=>x2 s e (hP' s e p),x3.imp fun q _=>hc q,fun q hq hv=>hV _ _ _ _ (x4 q hq hv)⟩
theorem LD.none(h:n.b5=0):LD N V P n:=⟨fun q=>absurd h q,fun q=>by omega,fun q=>by omega,fun q=>by omega⟩
theorem a4R(hpr:(N i).Acc.g9<=n'.Acc.g9)(q:Int):(N q).Acc.g9<=(upd N i n' q).Acc.g9:=by
 unfold upd;split
 ·rename_i h;rw [h];exact hpr
 ·exact d9O _
theorem PX.quiet(h:PX N V P M)(hi:D3 i)(hni:NI n')(hid:n'.Id=i)(hpr:(N i).Acc.g9<=n'.Acc.g9)(hvt:n'.Acc.a9=(N i).Acc.a9)(hk:n'.a5=(N i).a5)(hld:LD (upd N i n') V P n'):PX (upd N i n') V P M :=
 h.step hi ⟨hni,hid,hpr,by rw [hk];exact d9K _,fun _ _ _ _ v=>v,fun _ _ _ _ v=>.inl v,fun _ _ _ p=>p,fun _ _ _ p=>.inl p,by rw [hvt];exact fun s v=>h.cur i s v hi,by rw [hvt];exact fun s b e=>h.max i s b e,hld,by rw [hk];exact fun s e=>h.kn i s e hi,fun m hm=>.inl hm⟩
theorem PX.keep(h:PX N V P M)(hi:D3 i)(hni:NI n')(hid:n'.Id=i)(hpr:(N i).Acc.g9<=n'.Acc.g9)(hvt:n'.Acc.a9=(N i).Acc.a9)(hk:n'.a5=(N i).a5)(e1:n'.b5=(N i).b5)(e2:n'.a6=(N i).a6)(e3:n'.g7=(N i).g7)(e5:n'.b8=(N i).b8)(e6:n'.d6=(N i).d6)(e7:n'.a9=(N i).a9):PX (upd N i n') V P M :=
 h.quiet hi hni hid hpr hvt hk ((h.ld i hi).same (a4R hpr) (fun _ _ _ _ v=>v) (fun _ _ _ _ _ _ _ v=>v) (fun _ _ _ p=>p) (fun _ _ p=>p) e1 e2 e3 hk e5 e6 e7)
theorem PX.down(h:PX N V P M)(hi:D3 i):PX (upd N i (a1X (N i))) V P M :=
 h.quiet hi (h.ni i hi).1.down (h.ni i hi).2 (d9O _) rfl rfl (.none rfl)
theorem PX.promise(h:PX N V P M)(hi:D3 i){b:Int}{x:z4}(hp:D7 (N i).Acc b=some x):PX (upd N i {N i with Acc:=x}) V P M:=by
 obtain ⟨rfl,h1,h2,h3⟩:=a2r hp;exact h.keep hi ((h.ni i hi).1.promise hp) (h.ni i hi).2 h3 rfl rfl rfl rfl rfl rfl rfl rfl
theorem PX.yield(h:PX N V P M)(hi:D3 i)(b:Int):PX (upd N i (I8 (N i) b)) V P M:=by
 unfold I8;cases (N i).b5 != 0&&decide (b>(N i).a6)
 ·simp only [cond_false];rw [a5N];exact h
 ·exact h.down hi
theorem PX.free(h:PX N V P M)(hi:D3 i):PX (upd N i (M5 (N i)).1) V P M:=by
 rcases a8L (N i) with q|⟨k,_,_,q⟩<;>rw [q]
 ·rw [a5N];exact h
 ·exact h.keep hi (h.ni i hi).1.freeN (h.ni i hi).2 (d9O _) rfl rfl rfl rfl rfl rfl rfl rfl
theorem d2G{vs:List n8}{n s:Nat}{v:n8}(h:(O4 vs n)[s]?=some v):vs[s]?=some v\/v=v0:=by
 unfold O4 at h;rw [e08] at h;split at h
 ·exact .inl h
 ·rw [List.getElem?_replicate] at h;split at h
  ·injection h with h;exact .inr h.symm
  ·cases h
theorem d76{vs:List n8}{s:Nat}{v:n8}(n:Nat)(h:vs[s]?=some v):(O4 vs n)[s]?=some v:=by
 unfold O4;rw [d9L (d9x.1 h).1];exact h
def a5o(V:VR)(i:Int)(k:Nat)(b:Int)(e:j8):VR:=fun q s c f=>V q s c f\/(q=i/\s=k/\c=b/\f=e)
theorem c1I(h:PX N V P M)(hi:D3 i){b s:Int}{e:j8}{x:z4}(hc:E5 (N i).Acc b s e=some x):∃k:Nat,s=(k:Int)/\k<40/\1<=b/\b<=3000/\(N i).Acc.g9<=b/\x.g9=b/\t9 e=true/\
  (∀s v,x.a9[s]?=some v->v.a6>0->a5o V i k b e i s v.a6 v.d7)/\(∀s c f,a5o V i k b e i s c f->∃v,x.a9[s]?=some v/\c<=v.a6):=by
 obtain ⟨k,rfl,hk,he,h1,h2,h3,rfl⟩:=b1o hc;have hlen:k<(O4 (N i).Acc.a9 (k+1)).length:=by rw [b3J];omega
 refine ⟨k,rfl,hk,h1,h2,h3,rfl,he,fun s v hs hv => ?_,fun s c f v => ?_⟩
 ·simp only [e0G] at hs;split at hs
  ·rename_i hq;injection hs with hs;subst hs;exact .inr ⟨rfl,hq.symm,rfl,rfl⟩
  ·rcases d2G hs with q|q
   ·exact .inl (h.cur i s v hi q hv)
   ·rw [q] at hv;exact absurd hv (by decide)
 ·simp only [e0G];by_cases hq:k=s
  ·subst hq;rw [if_pos rfl,if_pos hlen];refine ⟨_,rfl,?_⟩;rcases v with v|⟨_,_,rfl,_⟩
   ·have:=(h.vp _ _ _ _ v).2.2.2;simp only;omega
   ·exact d9O _
  ·rw [if_neg hq];rcases v with v|⟨_,x,_⟩
   ·obtain ⟨v',y1,y2⟩:=h.max _ _ _ _ v;exact ⟨v',d76 _ y1,y2⟩
   ·exact absurd x.symm hq
theorem b4P{k:Nat}{b:Int}{e:j8}(hb:(N i).Acc.g9<=b){q:Int}{s:Nat}{c x:Int}{f:j8}(hx:x<=(N q).Acc.g9)(hc:c<x)(v:a5o V i k b e q s c f):V q s c f:=by
 rcases v with v|⟨rfl,_,rfl,_⟩
 ·exact v
 ·omega
theorem PX.vote(h:PX N V P M)(hi:D3 i){b s:Int}{e:j8}{x:z4}(hc:E5 (N i).Acc b s e=some x)(hp:P b s.toNat e):PX (upd N i {N i with Acc:=x}) (a5o V i s.toNat b e) P M:=by
 obtain ⟨k,rfl,hk,h1,h2,h3,h4,he,c1,c2⟩:=c1I h hi hc;rw [d96] at hp ⊢;have hpr:(N i).Acc.g9<=({N i with Acc:=x}:j5).Acc.g9:=by show _<=x.g9;rw [h4];exact h3
 refine h.step hi ⟨(h.ni i hi).1.cast hc,(h.ni i hi).2,hpr,d9K _,fun _ _ _ _ v=>.inl v,fun q s c f v => ?_,fun _ _ _ p=>p,fun _ _ _ p=>.inl p,c1,c2,?_,fun s e hk=>(h.kn i s e hi hk).mono fun _ _ _ _ v=>.inl v,fun m hm=>.inl hm⟩
 ·rcases v with v|⟨rfl,rfl,rfl,rfl⟩
  ·exact .inl v
  ·exact .inr ⟨rfl,h3,h1,by show _<=x.g9;rw [h4];exact d9O _,hp⟩
 ·exact (h.ld i hi).same (a4R hpr) (fun _ _ _ _ v=>.inl v) (fun q s c x f hx hc v=>b4P h3 hx hc v) (fun _ _ _ p=>p) (fun _ _ p=>p) rfl rfl rfl rfl rfl rfl rfl
theorem PX.know(h:PX N V P M)(hi:D3 i){e:j8}(he:t9 e=true)(hl:(N i).a5.length<40)(hc:Z6 V (N i).a5.length e):PX (upd N i (B6 (N i) e)) V P M:=by
 have hk:=c4b (N i) e;have hacc:(B6 (N i) e).Acc=(N i).Acc:=by unfold B6;cases (N i).b5==3<;>rfl
 have hb:(B6 (N i) e).a6=(N i).a6:=by unfold B6;cases (N i).b5==3<;>rfl
 have hbe:(B6 (N i) e).g7=(N i).g7:=by unfold B6;cases (N i).b5==3<;>rfl
 have hpr:(N i).Acc.g9<=(B6 (N i) e).Acc.g9:=by rw [hacc];exact d9O _
 have hcov:∀q,Cov N V (N i) q->Cov (upd N i (B6 (N i) e)) V (B6 (N i) e) q:=fun q c=>by
  refine ⟨by rw [hb];exact e0c c.pr (a4R hpr q),?_⟩;rw [hb,hbe,hk,d9E];exact fun s b e hs hb v=>c.cv s b e (by omega) hb v
 refine h.step hi ⟨(h.ni i hi).1.know he hl,(b6D _ _).trans (h.ni i hi).2,hpr,by rw [hk];simp,fun _ _ _ _ v=>v,fun _ _ _ _ v=>.inl v,fun _ _ _ p=>p,fun _ _ _ p=>.inl p,by rw [hacc];exact fun s v=>h.cur i s v hi,by rw [hacc];exact fun s b e=>h.max i s b e,?_,fun s f hs => ?_,fun m hm=>.inl hm⟩
 ·have hld:=h.ld i hi;refine ⟨?_,?_,?_,?_⟩
  ·intro h0;rw [hb,hbe];refine hld.bs ?_;intro q;apply h0;unfold B6;rw [show ((N i).b5==3)=false by simp [q]];exact q
  ·intro h1;have h1':(N i).b5=1:=by
    by_cases q:(N i).b5=3
    ·unfold B6 at h1;rw [show ((N i).b5==3)=true by simpa using q] at h1;cases h1
    ·unfold B6 at h1;rw [show ((N i).b5==3)=false by simpa using q] at h1;exact h1
   have hf:(B6 (N i) e).b8=(N i).b8:=by unfold B6;cases (N i).b5==3<;>rfl
   rw [hb,hf];exact ⟨(hld.l1 h1').1,fun q hq hf=>hcov q ((hld.l1 h1').2 q hq hf)⟩
  ·intro h2;rw [hb,hk,d9E,e0q];by_cases q:(N i).b5=3
   ·obtain ⟨x1,x2,x3,x4⟩:=hld.l3 q;exact ⟨fun s f p=>by have:=x2 s f p;omega,x3.imp fun q _=>hcov q⟩
   ·have h2':(N i).b5=2:=by
     unfold B6 at h2;rw [show ((N i).b5==3)=false by simpa using q] at h2;exact h2
    obtain ⟨x1,x2⟩:=hld.l2 h2';exact ⟨fun s f p=>by have:=x1 s f p;omega,x2.imp fun q _=>hcov q⟩
  ·intro h3;exfalso
   by_cases q:(N i).b5=3
   ·unfold B6 at h3;rw [show ((N i).b5==3)=true by simpa using q] at h3;cases h3
   ·unfold B6 at h3;rw [show ((N i).b5==3)=false by simpa using q] at h3;exact q h3
 ·rw [hk,e08] at hs;split at hs
  ·exact h.kn i s f hi hs
  ·rename_i hge;rw [List.getElem?_singleton] at hs;split at hs
   ·injection hs with hs;subst hs;rw [show s=(N i).a5.length by omega];exact hc
   ·cases hs
end
section
variable {N:Int->j5} {V:VR} {P:PR} {M:MS} {i:Int}
theorem MV.other{m:l8}(h:m.a7=6\/m.a7=7\/m.a7=8):MV N V P m:=⟨fun k=>by omega,fun k=>by omega,fun k=>by omega,fun k=>by omega,fun k=>by omega⟩
theorem MV.c1{m:l8}(h:m.a7=1)(x:d9I m.a6 3=m.b8/\m.c9<=(N m.b8).a5.length):MV N V P m:=⟨fun _=>x,fun k=>by omega,fun k=>by omega,fun k=>by omega,fun k=>by omega⟩
theorem MV.c2{m:l8}(h:m.a7=2)(x:m.c9<=(N m.To).a5.length/\m.a6<=(N m.b8).Acc.g9/\(∀s b e,m.c9.toNat<=s->b<m.a6->V m.b8 s b e->∃v,m.a9[s-m.c9.toNat]?=some v/\b<=v.a6)/\∀k v,m.a9[k]?=some v->v.a6>0->v.a6<=m.a6/\V m.b8 (m.c9.toNat+k) v.a6 v.d7):MV N V P m:=⟨fun k=>by omega,fun _=>x,fun k=>by omega,fun k=>by omega,fun k=>by omega⟩
theorem MV.c3{m:l8}(h:m.a7=3)(x:P m.a6 m.c9.toNat m.d7):MV N V P m:=⟨fun k=>by omega,fun k=>by omega,fun _=>x,fun k=>by omega,fun k=>by omega⟩
theorem MV.c4{m:l8}(h:m.a7=4)(x:∃e,V m.b8 m.c9.toNat m.a6 e):MV N V P m:=⟨fun k=>by omega,fun k=>by omega,fun k=>by omega,fun _=>x,fun k=>by omega⟩
theorem MV.c5{m:l8}(h:m.a7=5)(x:Z6 V m.c9.toNat m.d7):MV N V P m:=⟨fun k=>by omega,fun k=>by omega,fun k=>by omega,fun k=>by omega,fun _=>x⟩
def c6r(P:PR)(b:Int)(k:Nat)(e:j8):PR:=fun c s f=>P c s f\/(c=b/\s=k/\f=e)
theorem c1D{id q:Int}(hid:D3 id)(hq:D3 q)(h:(Z4 id)[q.toNat]?=some true):q=id:=by
 unfold D3 at hid hq;obtain rfl|rfl|rfl:id=0\/id=1\/id=2:=by omega
 all_goals obtain rfl|rfl|rfl:q=0\/q=1\/q=2:=by omega
 all_goals first|rfl|(exact absurd h (by decide))
theorem PX.put(h:PX N V P M)(hi:D3 i)(hph:(N i).b5=2){q:List j8}{e:j8}(hn:a0C (N i) e){a:z4}(hc:E5 (N i).Acc (N i).a6 ((N i).a5.length:Int) e=some a)(hni:NI {N i with d9:=q,Acc:=a,b5:=3,d6:=e,a9:=Z4 (N i).Id}):PX (upd N i {N i with d9:=q,Acc:=a,b5:=3,d6:=e,a9:=Z4 (N i).Id}) (a5o V i (N i).a5.length (N i).a6 e) (c6r P (N i).a6 (N i).a5.length e) M:=by
 obtain ⟨k,hk0,hk,h1,h2,h3,h4,he,c1,c2⟩:=c1I h hi hc;obtain rfl:k=(N i).a5.length:=by omega
 obtain ⟨l1,l2⟩:=(h.ld i hi).l2 hph;have hown:=(h.ni i hi).1.ld.own (by omega);have hid:=(h.ni i hi).2;have hbs:=(h.ld i hi).bs (by omega);generalize hn':({N i with d9:=q,Acc:=a,b5:=3,d6:=e,a9:=Z4 (N i).Id}:j5)=n' at hni ⊢;have f1:n'.Acc=a:=by rw [<-hn']
 have f2:n'.a5=(N i).a5:=by rw [<-hn']
 have f3:n'.a6=(N i).a6:=by rw [<-hn']
 have f4:n'.g7=(N i).g7:=by rw [<-hn']
 have f5:n'.b5=3:=by rw [<-hn']
 have f6:n'.d6=e:=by rw [<-hn']
 have f7:n'.a9=Z4 i:=by rw [<-hn'];exact congrArg Z4 hid
 have f8:n'.Id=i:=by rw [<-hn'];exact hid
 have hpr:(N i).Acc.g9<=n'.Acc.g9:=by rw [f1,h4];exact h3
 have hcov:∀a,Cov N V (N i) a->Cov (upd N i n') (a5o V i (N i).a5.length (N i).a6 e) n' a:=fun a c=>by
  refine ⟨by rw [f3];exact e0c c.pr (a4R hpr a),?_⟩;rw [f2,f3,f4];exact fun s b f hs hb v=>c.cv s b f hs hb (b4P h3 c.pr hb v)
 have hsf:∀a,Cov N V (N i) a->Sf (upd N i n') (a5o V i (N i).a5.length (N i).a6 e) (N i).a6 (N i).a5.length e a:=fun a c=>by
  refine ⟨e0c c.pr (a4R hpr a),fun b' e' hb v => ?_⟩;have v:=b4P h3 c.pr hb v;obtain ⟨w,w1,w2⟩:=c.cv _ _ _ (d9K _) hb v;have hb1:=(h.vp _ _ _ _ v).2.2.1;have hw:w.a6>0:=by omega
  have hno:∀{p:Prop},(∀v∈(N i).g7.drop (N i).a5.length,¬v.a6>0)->p:=fun hn=>by
   refine absurd hw (hn w ?_);exact d9G (i:=0) (by rw [e0K];exact w1)
  cases hn with
  | best u hu hub =>
   rw [w1] at hu;injection hu with hu;subst hu;obtain ⟨y1,q1,y2⟩:=hbs _ _ w1 hw;exact ⟨w.a6,q1,w2,y1,.inl y2⟩
  | gap u hu hub hn=>exact absurd hw (hn w w1)
  | want hb hk hn=>exact hno hn
  | queue e he hk hn=>exact hno hn
 refine h.step hi ⟨hni,f8,hpr,by rw [f2];exact d9K _,fun _ _ _ _ v=>.inl v,fun q s c f v => ?_,fun _ _ _ p=>.inl p,fun b s f p => ?_,by rw [f1];exact c1,by rw [f1];exact c2,?_,by rw [f2];exact fun s e hk=>(h.kn i s e hi hk).mono fun _ _ _ _ v=>.inl v,fun m hm=>.inl hm⟩
 ·rcases v with v|⟨rfl,rfl,rfl,rfl⟩
  ·exact .inl v
  ·exact .inr ⟨rfl,h3,h1,by rw [f1,h4];exact d9O _,.inr ⟨rfl,rfl,rfl⟩⟩
 ·rcases p with p|⟨rfl,rfl,rfl⟩
  ·exact .inl p
  ·refine .inr ⟨f3.symm,f5,fun e' p' => ?_,l2.imp fun a _=>hsf a⟩;rcases p' with p'|⟨_,_,x⟩
   ·exact absurd (l1 _ _ p') (by omega)
   ·exact x
 ·refine ⟨fun _ => ?_,fun q=>by omega,fun q=>by omega,fun _ => ?_⟩
  ·rw [f3,f4];intro s v hs hv;obtain ⟨x1,q1,x2⟩:=hbs s v hs hv;exact ⟨x1,q1,.inl x2⟩
  ·rw [f2,f3,f6,f7];refine ⟨.inr ⟨rfl,rfl,rfl⟩,fun s f p => ?_,l2.imp fun a _=>hcov a,fun q hq hm => ?_⟩
   ·rcases p with p|⟨_,rfl,_⟩
    ·exact Nat.le_of_lt (l1 _ _ p)
    ·exact d9K _
   ·rw [c1D hi hq hm];exact .inr ⟨rfl,rfl,rfl,rfl⟩
theorem PX.queue(h:PX N V P M)(hi:D3 i){q:List j8}(hl:q.length<=4)(hm:∀e∈q,t9 e=true/\e.i6=false):PX (upd N i {N i with d9:=q}) V P M :=
 h.keep hi ((h.ni i hi).1.queue hl hm) (h.ni i hi).2 (d9O _) rfl rfl rfl rfl rfl rfl rfl rfl
theorem PX.propose(h:PX N V P M)(hi:D3 i):H0 N M i (F4 (N i)).1 (F4 (N i)).2:=by
 have hr:=a6V (h.ni i hi).1;unfold F4 at hr ⊢;cases hc:(N i).b5 != 2||decide (40<=(N i).a5.length)
 case true=>exact .same h
 rw [hc] at hr;simp only [cond_false] at hr ⊢;simp only [e0h,bne_eq_false_iff_eq,decide_eq_false_iff_not] at hc;obtain ⟨q,hq,hql,hqm,hqe⟩:=a7b (N i);cases hx:T3 (N i) with
 | mk x o =>
 rw [hx] at hr hq hqe;have hq:x={N i with d9:=q}:=hq;subst hq;have hQ:PX (upd N i {N i with d9:=q}) V P M:=h.queue hi (by have:=(h.ni i hi).1.ql;omega) fun e he=>(h.ni i hi).1.qs e (hqm e he)
 cases o with
 | none=>exact ⟨V,P,by rw [a5w];exact hQ⟩
 | some e =>
  simp only [a1i] at hr ⊢;cases hcs:E5 (N i).Acc (N i).a6 ((N i).a5.length:Int) e with
  | none =>
   have:=hQ.down hi;rw [M7,a08] at this;exact ⟨V,P,by rw [a5w];exact this⟩
  | some a =>
   rw [hcs] at hr;have hid:=(h.ni i hi).2;refine ⟨_,_,PX.send (h.put hi hc.1 (hqe e rfl) hcs hr.ni) fun m hm=>⟨hr.ms m hm,?_⟩⟩;obtain ⟨t,_,_,_,rfl⟩:=a2f (h.ni i hi).1.id hm;exact .c3 rfl (.inr ⟨rfl,rfl,rfl⟩)
theorem H0.then{n1 n2:j5}{l1 l2:List l8}(h1:H0 N M i n1 l1)(h2:∀V P,PX (upd N i n1) V P (snd M l1)->H0 (upd N i n1) (snd M l1) i n2 l2):H0 N M i n2 (l1++l2):=by
 obtain ⟨V1,P1,h1⟩:=h1;obtain ⟨V2,P2,h2⟩:=h2 V1 P1 h1;rw [a08,c3l] at h2;exact ⟨V2,P2,h2⟩
theorem PX.learn(h:PX N V P M)(hi:D3 i){e:j8}(he:t9 e=true)(hl:(N i).a5.length<40)(hc:Z6 V (N i).a5.length e):H0 N M i (R0 (N i) e).1 (R0 (N i) e).2.1:=by
 have h1:=h.know hi he hl hc;have h2:=h1.free hi;rw [M7,a08] at h2;have h3:=h2.propose hi;rw [M7] at h3;obtain ⟨V',P',h3⟩:=h3;rw [a08] at h3;exact ⟨V',P',h3⟩
theorem PX.rise(h:PX N V P M)(hi:D3 i):H0 N M i (N0 (N i)).1 (N0 (N i)).2:=by
 have hni:=(h.ni i hi).1;have hid:=(h.ni i hi).2;have hr:=a9D hni;unfold N0 at hr ⊢;cases hd:decide (I0 (N i).Acc.g9 (N i).Id<0);case true=>exact .same h
 rw [hd] at hr;simp only [cond_false] at hr ⊢;simp only [decide_eq_false_iff_not] at hd;rcases b6C hni.pr hni.id with q|⟨q1,q2,q3,q4⟩
 ·omega
 generalize I0 (N i).Acc.g9 (N i).Id=b at *;have hld:∀(n':j5),n'.b5=1->n'.a6=b->n'.a5=(N i).a5->n'.g7=(N i).Acc.a9->n'.b8=Z4 i->n'.Acc.g9=b->LD (upd N i n') V P n':=by
  intro n' e1 e2 e3 e4 e5 e6;refine ⟨fun _ => ?_,fun _=>⟨?_,?_⟩,fun q=>by omega,fun q=>by omega⟩
  ·rw [e2,e4];intro s v hs hv;have hv':=h.cur i s v hi hs hv;exact ⟨by have:=(h.vp _ _ _ _ hv').2.2.2;omega,i,hv'⟩
  ·rw [e2];intro s e p;have:=(h.po _ _ _ p).2;rw [q4,hid] at this;omega
  ·rw [e5];intro q hq hm;rw [c1D hi hq hm];refine ⟨by rw [e2,M7,e6];exact d9O _,?_⟩;rw [e4];exact fun s b e _ _ v=>h.max i s b e v
 refine ⟨V,P,PX.send (h.quiet hi hr.ni (hr.id.trans hid) (Int.le_of_lt q1) rfl rfl (hld _ rfl rfl rfl rfl (by rw [hid]) rfl)) fun m hm=>⟨hr.ms m hm,?_⟩⟩;obtain ⟨t,_,_,_,rfl⟩:=a2f hni.id hm;refine .c1 rfl ⟨q4,?_⟩;simp only [hid,M7];exact d9O _
theorem c1H{l:List Bool}(hl:l.length=3)(h:G7 l=true):W5 fun q=>l[q.toNat]?=some true:=by
 match l,hl with
 | [a,b,c],_ =>
  cases a<;>cases b<;>cases c<;>first|(exact absurd h (by decide))|exact ⟨0,1,by unfold D3;omega,by unfold D3;omega,by decide,rfl,rfl⟩|exact ⟨0,2,by unfold D3;omega,by unfold D3;omega,by decide,rfl,rfl⟩|exact ⟨1,2,by unfold D3;omega,by unfold D3;omega,by decide,rfl,rfl⟩
theorem c4c{l:List Bool}{f q:Int}(hf:D3 f)(hq:D3 q)(h:(l.set f.toNat true)[q.toNat]?=some true):q=f\/l[q.toNat]?=some true:=by
 unfold D3 at hf hq;rw [e0G] at h;split at h
 ·left;omega
 ·exact .inr h
end
section
variable {N:Int->j5} {V:VR} {P:PR} {M:MS} {i:Int} {m:l8}
theorem H0.reply(h:PX N V P M){r:l8}(h1:MI r)(h2:r.a7=6\/r.a7=7\/r.a7=8):H0 N M i (N i) [r] :=
 ⟨V,P,by rw [a5N];exact h.send fun x hx=>by rw [d9y.1 hx];exact ⟨h1,.other h2⟩⟩
theorem PX.tPrepare(h:PX N V P M)(hi:D3 i)(hm:M m)(hto:m.To=i)(hk:m.a7=1):H0 N M i (V4 (N i) m).1 (V4 (N i) m).2:=by
 obtain ⟨mi,mv⟩:=h.ms m hm;obtain ⟨hni,hid⟩:=h.ni i hi;have hr:=b8o hni mi hk;unfold V4 at hr ⊢;cases hp:D7 (N i).Acc m.a6 with
 | none =>
  rw [hp] at hr;exact .reply h (hr.ms _ (d9y.2 rfl)) (.inl rfl)
 | some x =>
  rw [hp] at hr;have h1:=(h.promise hi hp).yield hi m.a6;rw [M7,a08] at h1;obtain ⟨rfl,b1,b2,b3⟩:=a2r hp;refine ⟨V,P,h1.send fun r hr'=>⟨hr.ms r hr',?_⟩⟩;rw [d9y.1 hr'];obtain ⟨s1,s2⟩:=mv.k1 hk;have hacc:(I8 {N i with Acc:=⟨m.a6,(N i).Acc.a9⟩} m.a6).Acc=⟨m.a6,(N i).Acc.a9⟩:=d6z _ _;have hne:m.b8≠i:=fun q=>mi.ne (by rw [q,hto])
  have hsl:=mi.sl;refine .c2 rfl ⟨?_,?_,?_,?_⟩
  ·show m.c9<=((upd N i _ m.b8).a5.length:Int)
   rw [a6A _ hne];exact s2
  ·show m.a6<=(upd N i _ m.To).Acc.g9
   rw [hto,M7,hacc];exact d9O _
  ·show ∀s b e,m.c9.toNat<=s->b<m.a6->V m.To s b e->∃v,((N i).Acc.a9.drop m.c9.toNat)[s-m.c9.toNat]?=some v/\b<=v.a6
   rw [hto];intro s b e hs _ v;obtain ⟨w,w1,w2⟩:=h.max _ _ _ _ v;exact ⟨w,by rw [e0K,show m.c9.toNat+(s-m.c9.toNat)=s by omega];exact w1,w2⟩
  ·show ∀k v,((N i).Acc.a9.drop m.c9.toNat)[k]?=some v->v.a6>0->v.a6<=m.a6/\V m.To (m.c9.toNat+k) v.a6 v.d7
   rw [hto];intro k v hk hv;rw [e0K] at hk;have hv':=h.cur i _ v hi hk hv;exact ⟨e0c (h.vp _ _ _ _ hv').2.2.2 b3,hv'⟩
theorem PX.tAccept(h:PX N V P M)(hi:D3 i)(hm:M m)(hto:m.To=i)(hk:m.a7=3):H0 N M i (X4 (N i) m).1 (X4 (N i) m).2:=by
 obtain ⟨mi,mv⟩:=h.ms m hm;obtain ⟨hni,hid⟩:=h.ni i hi;have hr:=c4L hni mi hk;unfold X4 at hr ⊢;cases hp:E5 (N i).Acc m.a6 m.c9 m.d7 with
 | none =>
  rw [hp] at hr;exact .reply h (hr.ms _ (d9y.2 rfl)) (.inl rfl)
 | some x =>
  rw [hp] at hr;have h1:=(h.vote hi hp (mv.k3 hk)).yield hi m.a6;rw [M7,a08] at h1;refine ⟨_,P,h1.send fun r hr'=>⟨hr.ms r hr',?_⟩⟩;rw [d9y.1 hr'];refine .c4 rfl ⟨m.d7,.inr ⟨hto,rfl,rfl,rfl⟩⟩
theorem c6l{a b:List n8}{s:Nat}{v:n8}(h:a[s]?=some v\/b[s]?=some v):∃w,(C0 a b)[s]?=some w/\v.a6<=w.a6:=by
 rw [a8E];cases ha:a[s]? with
 | none =>
  rw [ha] at h;rcases h with h|h
  ·cases h
  ·rw [h];exact ⟨v,rfl,d9O _⟩
 | some x =>
  cases hb:b[s]? with
  | none =>
   rw [ha,hb] at h;rcases h with h|h
   ·injection h with h;subst h;exact ⟨x,rfl,d9O _⟩
   ·cases h
  | some y =>
   rw [ha,hb] at h;simp only;cases hd:decide (y.a6>x.a6)
   ·refine ⟨x,rfl,?_⟩;simp only [decide_eq_false_iff_not] at hd;rcases h with h|h
    ·injection h with h;subst h;exact d9O _
    ·injection h with h;subst h;omega
   ·refine ⟨y,rfl,?_⟩;simp only [decide_eq_true_eq] at hd;rcases h with h|h
    ·injection h with h;subst h;omega
    ·injection h with h;subst h;exact d9O _
theorem d32{a b:List n8}{s:Nat}{w:n8}(h:(C0 a b)[s]?=some w):a[s]?=some w\/b[s]?=some w:=by
 rw [a8E] at h;cases ha:a[s]? with
 | none =>
  rw [ha] at h;cases hb:b[s]? with
  | none=>rw [hb] at h;cases h
  | some y=>rw [hb] at h;exact .inr h
 | some x =>
  rw [ha] at h;cases hb:b[s]? with
  | none=>rw [hb] at h;exact .inl h
  | some y =>
   rw [hb] at h;simp only at h;cases hd:decide (y.a6>x.a6)
   ·rw [hd] at h;exact .inl h
   ·rw [hd] at h;exact .inr h
theorem c6X{vs:List n8}{k s:Nat}{v:n8}(h:(d9u k v0++vs)[s]?=some v)(hv:v.a6>0):k<=s/\vs[s-k]?=some v:=by
 rw [e08] at h;split at h
 ·rw [List.getElem?_replicate] at h;split at h
  ·injection h with h;subst h;exact absurd hv (by decide)
  ·cases h
 ·rename_i hge;rw [e07] at h hge;exact ⟨by omega,h⟩
theorem PX.tPromise(h:PX N V P M)(hi:D3 i)(hm:M m)(hto:m.To=i)(hk:m.a7=2):H0 N M i (V0 (N i) m).1 (V0 (N i) m).2:=by
 obtain ⟨mi,mv⟩:=h.ms m hm;obtain ⟨hni,hid⟩:=h.ni i hi;have hr:=b4f hni mi hk;have hsl:=mi.sl;have hfr:D3 m.b8:=mi.fr;obtain ⟨s1,s2,s3,s4⟩:=mv.k2 hk;rw [hto] at s1;unfold V0 at hr ⊢;cases hc:(N i).b5 != 1||m.a6 != (N i).a6
 case true=>exact .same h
 rw [hc] at hr;simp only [cond_false] at hr ⊢;simp only [e0h,bne_eq_false_iff_eq] at hc;obtain ⟨hp1,hbal⟩:=hc;have hld:=h.ld i hi;obtain ⟨l1,l2⟩:=hld.l1 hp1;have hfl:(N i).b8.length=3:=by
  rcases hni.ld with q|q|q|q
  ·omega
  ·exact q.2.2.1
  all_goals exact absurd q.1 (by omega)
 have hkl:m.c9.toNat<=(N i).a5.length:=by omega
 have hbs:∀s v,(C0 (N i).g7 (d9u m.c9.toNat v0++m.a9))[s]?=some v->v.a6>0->v.a6<(N i).a6/\∃q,V q s v.a6 v.d7:=by
  intro s v hs hv;rcases d32 hs with q|q
  ·exact hld.bs (by omega) s v q hv
  ·obtain ⟨g1,g2⟩:=c6X q hv;obtain ⟨g3,g4⟩:=s4 _ v g2 hv;rw [show m.c9.toNat+(s-m.c9.toNat)=s by omega] at g4;refine ⟨?_,_,g4⟩;have hpp:=(h.vp _ _ _ _ g4).2.1;rcases Int.lt_or_le v.a6 (N i).a6 with q|q
   ·exact q
   ·exact absurd (show P (N i).a6 s v.d7 by rw [show (N i).a6=v.a6 by omega];exact hpp) (l1 _ _)
 have hcov:∀(n':j5),n'.Acc=(N i).Acc->n'.a6=(N i).a6->n'.a5=(N i).a5->n'.g7=C0 (N i).g7 (d9u m.c9.toNat v0++m.a9)->∀q,D3 q->((N i).b8.set m.b8.toNat true)[q.toNat]?=some true->Cov (upd N i n') V n' q:=by
  intro n' e0 e1 e2 e3 q hq hf;have hpr:∀q,(N q).Acc.g9<=(upd N i n' q).Acc.g9:=a4R (by rw [e0];exact d9O _)
  rcases c4c hfr hq hf with rfl|hf
  ·refine ⟨by rw [e1,<-hbal];exact e0c s2 (hpr _),?_⟩;rw [e1,e2,e3];intro s b e hs hb v;obtain ⟨w,w1,w2⟩:=s3 s b e (by omega) (by rw [hbal];exact hb) v;have hw:(d9u m.c9.toNat v0++m.a9)[s]?=some w:=by
    rw [d9H (by rw [e07];omega),e07];exact w1
   obtain ⟨u,u1,u2⟩:=c6l (a:=(N i).g7) (.inr hw);exact ⟨u,u1,by omega⟩
  ·have c:=l2 q hq hf;refine ⟨by rw [e1];exact e0c c.pr (hpr _),?_⟩;rw [e1,e2,e3];intro s b e hs hb v;obtain ⟨w,w1,w2⟩:=c.cv s b e hs hb v;obtain ⟨u,u1,u2⟩:=c6l (b:=d9u m.c9.toNat v0++m.a9) (.inl w1);exact ⟨u,u1,by omega⟩
 cases htw:G7 ((N i).b8.set m.b8.toNat true)
 ·rw [htw] at hr;simp only [cond_false] at hr ⊢;refine ⟨V,P,by rw [a5w];exact h.quiet hi hr.ni hid (d9O _) rfl rfl ⟨fun _=>hbs,fun _=>⟨l1,fun q hq hf=>hcov _ (by rfl) (by rfl) (by rfl) (by rfl) q hq hf⟩,fun q=>absurd (hp1.symm.trans q) (by decide),fun q=>absurd (hp1.symm.trans q) (by decide)⟩⟩
 ·simp only [cond_true];have hq:=c1H (by rw [d94];exact hfl) htw;have hown:=hni.ld.own (by omega);have hmv:m.a9.length<=40/\(∀v∈m.a9,VI v)/\m.c9+m.a9.length<=40:=by
   rcases mi.kd with q|q|q|q|q|q|q
   ·omega
   ·exact ⟨q.2.2.2.1.1,q.2.2.2.1.2,q.2.2.2.2⟩
   all_goals exact absurd q.1 (by omega)
  have hquiet:(N i).d6=zE/\(N i).a9=[]:=by
   rcases hni.ld with q|q|q|q
   ·omega
   ·exact ⟨q.2.2.2.2.1,q.2.2.2.2.2⟩
   all_goals exact absurd q.1 (by omega)
  have hni2:NI {N i with b8:=[],g7:=C0 (N i).g7 (d9u m.c9.toNat v0++m.a9),b5:=2}:=by
   refine ⟨hni.id,hni.pr,hni.vl,hni.vs,hni.kl,hni.ks,hni.sq,hni.ql,hni.qs,.inr (.inr (.inl ⟨rfl,⟨hown.b1,hown.b2,hown.mod,hown.pr,?_,?_⟩,rfl,hquiet.1,hquiet.2⟩)),hni.wt⟩
   ·have hbl:=hown.bl;show (C0 _ _).length<=40
    rw [a74,d9E,e07];omega
   ·intro v hv;rcases a69 hv with q|q
    ·exact hown.bs v q
    ·rcases List.mem_append.1 q with q|q
     ·rw [(e0i.1 q).2];exact .inl rfl
     ·exact hmv.2.1 v q
  have h2:PX (upd N i {N i with b8:=[],g7:=C0 (N i).g7 (d9u m.c9.toNat v0++m.a9),b5:=2}) V P M :=
   h.quiet hi hni2 hid (d9O _) rfl rfl ⟨fun _=>hbs,fun q=>absurd (show (2:Int)=1 from q) (by decide),fun _=>⟨fun s e p=>absurd p (l1 s e),hq.imp fun q hq hf=>hcov _ (by rfl) (by rfl) (by rfl) (by rfl) q hq hf⟩,fun q=>absurd (show (2:Int)=3 from q) (by decide)⟩
  have h3:=h2.propose hi;rw [M7] at h3;obtain ⟨V',P',h3⟩:=h3;rw [a08] at h3;exact ⟨V',P',h3⟩
theorem PX.tAccepted(h:PX N V P M)(hi:D3 i)(hm:M m)(hto:m.To=i)(hk:m.a7=4):H0 N M i (a0r (N i) m).1 (a0r (N i) m).2.1:=by
 obtain ⟨mi,mv⟩:=h.ms m hm;obtain ⟨hni,hid⟩:=h.ni i hi;have hr:=b8L hni mi;have hfr:D3 m.b8:=mi.fr;obtain ⟨e',ve⟩:=mv.k4 hk;unfold a0r at hr ⊢;cases hc:(N i).b5 != 3||(m.a6 != (N i).a6||m.c9 != ((N i).a5.length:Int))
 case true=>exact .same h
 rw [hc] at hr;simp only [cond_false] at hr ⊢;simp only [e0h,bne_eq_false_iff_eq] at hc;obtain ⟨hp3,hbal,hsl⟩:=hc;rw [hsl,hbal,d96] at ve;have hld:=h.ld i hi;obtain ⟨l1,l2,l3,l4⟩:=hld.l3 hp3;have he':e'=(N i).d6:=h.pu _ _ _ _ (h.vp _ _ _ _ ve).2.1 l1;subst he';have hlead:Z1 (N i)/\(N i).b8=[]/\t9 (N i).d6=true/\(N i).a9.length=3/\(N i).a9[(N i).Id.toNat]?=some true/\(N i).a5.length<40:=by
  rcases hni.ld with q|q|q|q
  ·omega
  ·omega
  ·omega
  ·exact q.2
 obtain ⟨o1,o2,o3,o4,o5,o6⟩:=hlead;have hmk:∀q,D3 q->((N i).a9.set m.b8.toNat true)[q.toNat]?=some true->V q (N i).a5.length (N i).a6 (N i).d6:=by
  intro q hq hf;rcases c4c hfr hq hf with rfl|hf
  ·exact ve
  ·exact l4 q hq hf
 have hni2:NI {N i with a9:=(N i).a9.set m.b8.toNat true} :=
  ⟨hni.id,hni.pr,hni.vl,hni.vs,hni.kl,hni.ks,hni.sq,hni.ql,hni.qs,.inr (.inr (.inr ⟨hp3,o1,o2,o3,by simpa using o4,by
   show ((N i).a9.set m.b8.toNat true)[(N i).Id.toNat]?=some true
   rw [e0G];split
   ·rename_i hq;have:=hni.id;rw [if_pos (by omega)]
   ·exact o5,o6⟩)),hni.wt⟩
 have h2:PX (upd N i {N i with a9:=(N i).a9.set m.b8.toNat true}) V P M:=by
  refine h.quiet hi hni2 hid (d9O _) rfl rfl ⟨fun h0=>hld.bs h0,fun q=>absurd (hp3.symm.trans q) (by decide),fun q=>absurd (hp3.symm.trans q) (by decide),fun _=>⟨l1,l2,l3.imp fun a _ c=>⟨e0c c.pr (a4R (n':={N i with a9:=(N i).a9.set m.b8.toNat true}) (d9O _) a),c.cv⟩,hmk⟩⟩
 cases htw:G7 ((N i).a9.set m.b8.toNat true)
 ·simp only [cond_false];exact ⟨V,P,by rw [a5w];exact h2⟩
 ·rw [htw] at hr;simp only [cond_true] at hr ⊢;have hq:=c1H (by rw [d94];exact o4) htw;have hch:Z6 V (N i).a5.length (N i).d6:=by
   obtain ⟨a,b,ha,hb,hab,x,y⟩:=hq;exact ⟨(N i).a6,a,b,ha,hb,hab,hmk a ha x,hmk b hb y⟩
  refine H0.then (n1:={N i with a9:=(N i).a9.set m.b8.toNat true}) ⟨V,P,h2.send fun x hx=>⟨hr.ms x (e0F _ hx),?_⟩⟩ fun V2 P2 hp => ?_
  ·obtain ⟨t,_,_,_,rfl⟩:=a2f hni.id hx;exact .c5 rfl hch
  ·have h3:PX (upd N i {N i with a9:=(N i).a9.set m.b8.toNat true}) V P (snd M (D2 (N i).Id ⟨5,0,0,0,((N i).a5.length:Int),(N i).d6,[]⟩)):=h2.send fun x hx=>⟨hr.ms x (e0F _ hx),by
    obtain ⟨t,_,_,_,rfl⟩:=a2f hni.id hx;exact .c5 rfl hch⟩
   have h4:=h3.learn hi (e:=(N i).d6) o3 (by rw [M7];exact o6) (by rw [M7];exact hch);rw [M7] at h4;exact h4
theorem PX.tChosen(h:PX N V P M)(hi:D3 i)(hm:M m)(hto:m.To=i)(hk:m.a7=5):H0 N M i (a0n (N i) m).1 (a0n (N i) m).2.1:=by
 obtain ⟨mi,mv⟩:=h.ms m hm;obtain ⟨hni,hid⟩:=h.ni i hi;have hr:=c4X hni mi hk;have hch:=mv.k5 hk;have hsl:=mi.sl;have hkd:m.c9<40/\t9 m.d7=true:=by
  rcases mi.kd with q|q|q|q|q|q|q
  ·omega
  ·omega
  ·omega
  ·exact ⟨q.2.2.1,q.2.2.2.1⟩
  all_goals exact absurd q.1 (by omega)
 unfold a0n at hr ⊢;cases h1:decide (m.c9<((N i).a5.length:Int));case true=>exact .same h
 rw [h1] at hr;cases h2:decide (m.c9>((N i).a5.length:Int))
 ·simp only [cond_false];simp only [decide_eq_false_iff_not] at h1 h2;refine h.learn hi hkd.2 (by omega) ?_;rw [show (N i).a5.length=m.c9.toNat by omega];exact hch
 ·rw [h2] at hr;simp only [cond_false,cond_true] at hr ⊢;exact .reply h (hr.ms _ (d9y.2 rfl)) (.inr (.inr rfl))
theorem PX.tAsk(h:PX N V P M)(hi:D3 i)(hm:M m)(hto:m.To=i)(hk:m.a7=7):H0 N M i (X0 (N i) m).1 (X0 (N i) m).2:=by
 obtain ⟨mi,mv⟩:=h.ms m hm;obtain ⟨hni,hid⟩:=h.ni i hi;obtain ⟨e1,e2⟩:t9 m.d7=true/\m.d7.i6=false:=by
  rcases mi.kd with q|q|q|q|q|q|q
  ·omega
  ·omega
  ·omega
  ·omega
  ·omega
  ·exact ⟨q.2.2.2.1,q.2.2.2.2.1⟩
  ·omega
 unfold X0;cases hc:(N i).b5==0||(decide (4<=(N i).d9.length)||F9 (N i).a5 m.d7.a0)
 case true=>exact .same h
 simp only [cond_false];simp only [e0h,decide_eq_false_iff_not] at hc;have h1:=h.queue hi (q:=(N i).d9++[m.d7]) (by rw [d9E,e0q];omega) (by
  intro e he;rcases List.mem_append.1 he with q|q
  ·exact hni.qs e q
  ·rw [d9y.1 q];exact ⟨e1,e2⟩)
 have h2:=h1.propose hi;rw [M7] at h2;obtain ⟨V',P',h2⟩:=h2;rw [a08] at h2;exact ⟨V',P',h2⟩
theorem PX.tNeed(h:PX N V P M)(hi:D3 i)(hm:M m):H0 N M i (N i) (a1C (N i) m):=by
 obtain ⟨mi,mv⟩:=h.ms m hm;obtain ⟨hni,hid⟩:=h.ni i hi;have hr:=c45 hni mi;refine ⟨V,P,?_⟩;rw [a5N];refine h.send fun x hx=>⟨hr x hx,?_⟩
 unfold a1C at hx;obtain ⟨l,hl,hx⟩:=e0e.1 hx;obtain ⟨j,hj,rfl⟩:=List.mem_map.1 hl;unfold X3 at hx;cases hk:(N i).a5[m.c9.toNat+j]? with
 | none=>rw [hk] at hx;cases hx
 | some e =>
  rw [hk] at hx;rw [d9y.1 hx];refine .c5 rfl ?_;exact h.kn i _ e hi hk
theorem PX.tRefuse(h:PX N V P M)(hi:D3 i)(b:Int):H0 N M i (I8 {N i with Acc:=(D7 (N i).Acc b).getD (N i).Acc} b) []:=by
 refine ⟨V,P,?_⟩;rw [a5w];cases hp:D7 (N i).Acc b with
 | none=>exact h.yield hi b
 | some x =>
  have h1:=(h.promise hi hp).yield hi b;rw [M7,a08] at h1;exact h1
theorem PX.take(h:PX N V P M)(hi:D3 i)(hm:M m)(hto:m.To=i):H0 N M i (M3 (N i) m).1 (M3 (N i) m).2.1:=by
 unfold M3;by_cases k1:m.a7=1
 ·rw [show (m.a7==1)=true by simpa using k1];exact h.tPrepare hi hm hto k1
 rw [show (m.a7==1)=false by simpa using k1];by_cases k2:m.a7=2
 ·rw [show (m.a7==2)=true by simpa using k2];exact h.tPromise hi hm hto k2
 rw [show (m.a7==2)=false by simpa using k2];by_cases k3:m.a7=3
 ·rw [show (m.a7==3)=true by simpa using k3];exact h.tAccept hi hm hto k3
 rw [show (m.a7==3)=false by simpa using k3];by_cases k4:m.a7=4
 ·rw [show (m.a7==4)=true by simpa using k4];exact h.tAccepted hi hm hto k4
 rw [show (m.a7==4)=false by simpa using k4];by_cases k5:m.a7=5
 ·rw [show (m.a7==5)=true by simpa using k5];exact h.tChosen hi hm hto k5
 rw [show (m.a7==5)=false by simpa using k5];by_cases k6:m.a7=6
 ·rw [show (m.a7==6)=true by simpa using k6];exact h.tRefuse hi m.a6
 rw [show (m.a7==6)=false by simpa using k6];by_cases k7:m.a7=7
 ·rw [show (m.a7==7)=true by simpa using k7];exact h.tAsk hi hm hto k7
 rw [show (m.a7==7)=false by simpa using k7];cases m.a7==8
 ·exact .same h
 ·exact h.tNeed hi hm
end
section
variable {N:Int->j5} {V:VR} {P:PR} {M:MS} {i:Int}
theorem H0.to{n1 n2:j5}{l:List l8}(h1:PX (upd N i n1) V P M)(h2:H0 (upd N i n1) M i n2 l):H0 N M i n2 l:=by
 obtain ⟨V',P',h2⟩:=h2;rw [a08] at h2;exact ⟨V',P',h2⟩
theorem PX.ask(h:PX N V P M)(hi:D3 i){p:List m7}(hp:q9 p):H0 N M i (G3 (N i) p).1 (G3 (N i) p).2:=by
 obtain ⟨hni,hid⟩:=h.ni i hi;have hr:=a7x hni hp;rw [a0R] at hr ⊢;cases hc:L0 (N i) p;case false=>exact .same h
 rw [hc] at hr;have hn:=hni.asked hp hc;have h1:PX (upd N i (J5 (N i) p)) V P M:=h.keep hi hn hid (d9O _) rfl rfl rfl rfl rfl rfl rfl rfl;simp only [cond_true] at hr ⊢;cases h2:(N i).b5==2
 ·rw [h2] at hr;simp only [cond_false] at hr ⊢;refine .to h1 ⟨V,P,?_⟩;rw [a08];refine h1.send fun x hx=>⟨hr.ms x hx,?_⟩
  cases h0:(N i).b5==0
  ·rw [h0] at hx;cases hx
  ·rw [h0] at hx;obtain ⟨t,_,_,_,rfl⟩:=a2f hni.id hx;exact .other (.inr (.inl rfl))
 ·simp only [cond_true];have h3:=h1.propose hi;rw [M7] at h3;exact .to h1 h3
theorem PX.retry(h:PX N V P M)(hi:D3 i):H0 N M i (L8 (N i)).1 (L8 (N i)).2:=by
 obtain ⟨hni,hid⟩:=h.ni i hi;have hr:=a7M hni;have hneed:∀x∈D2 (N i).Id ⟨8,0,0,0,((N i).a5.length:Int),zE,[]⟩,MV N V P x:=fun x hx=>by
  obtain ⟨t,_,_,_,rfl⟩:=a2f hni.id hx;exact .other (.inr (.inr rfl))
 have go:∀{l:List l8},(∀x∈D2 (N i).Id ⟨8,0,0,0,((N i).a5.length:Int),zE,[]⟩++l,MI x)->(∀x∈l,MV N V P x)->H0 N M i (N i) (D2 (N i).Id ⟨8,0,0,0,((N i).a5.length:Int),zE,[]⟩++l):=fun {l} hm hv =>
  ⟨V,P,by rw [a5N];exact h.send fun x hx=>⟨hm x hx,(List.mem_append.1 hx).elim (hneed x) (hv x)⟩⟩
 unfold L8 at hr ⊢;by_cases h1:(N i).b5=1
 ·rw [show ((N i).b5==1)=true by simpa using h1] at hr ⊢;refine go hr.ms fun x hx => ?_
  obtain ⟨t,_,_,_,rfl⟩:=a2f hni.id hx;exact .c1 rfl ⟨(hni.ld.own (by omega)).mod,by show _<=((N (N i).Id).a5.length:Int);rw [hid];exact d9O _⟩
 rw [show ((N i).b5==1)=false by simpa using h1] at hr ⊢;by_cases h2:(N i).b5=2
 ·rw [show ((N i).b5==2)=true by simpa using h2] at hr ⊢;simp only [cond_true,cond_false] at hr ⊢;have hs:PX N V P (snd M (D2 (N i).Id ⟨8,0,0,0,((N i).a5.length:Int),zE,[]⟩)):=h.send fun x hx=>⟨hr.ms x (e0F _ hx),hneed x hx⟩
  obtain ⟨V',P',h3⟩:=hs.propose hi;rw [c3l] at h3;exact ⟨V',P',h3⟩
 rw [show ((N i).b5==2)=false by simpa using h2] at hr ⊢;by_cases h3:(N i).b5=3
 ·rw [show ((N i).b5==3)=true by simpa using h3] at hr ⊢;refine go hr.ms fun x hx => ?_
  obtain ⟨t,_,_,_,rfl⟩:=a2f hni.id hx;exact .c3 rfl ((h.ld i hi).l3 h3).1
 rw [show ((N i).b5==3)=false by simpa using h3] at hr ⊢;cases hb:(N i).i3
 ·rw [hb] at hr;refine ⟨V,P,?_⟩;show PX (upd N i (N i)) V P _
  rw [a5N];exact h.send fun x hx=>⟨hr.ms x hx,hneed x hx⟩
 ·rw [hb] at hr;refine go hr.ms fun x hx => ?_
  obtain ⟨t,_,_,_,rfl⟩:=a2f hni.id hx;exact .other (.inr (.inl rfl))
theorem PX.fall(h:PX N V P M)(hi:D3 i):H0 N M i (Y2 (N i)) [] :=
 ⟨V,P,by rw [a5w];exact h.quiet hi (h.ni i hi).1.fall (h.ni i hi).2 (d9O _) rfl rfl (.none rfl)⟩
end
def o9(w:j9)(j:Int):j5:=if 0<=j/\j<=2 then A2 w j else B5 0
def PW(w:j9):Prop := ∃V P M,PX (o9 w) V P M/\∀m∈w.i0,M m
theorem a0Z{w:j9}{j:Int}(h:D3 j):o9 w j=A2 w j:=if_pos h
theorem c6u{w w':j9}(h:w'.a8=w.a8):o9 w'=o9 w:=by
 funext j;unfold o9 A2;rw [h]
theorem d7M{w:j9}(h:WI w){i:Nat}(hi:i<3)(n:j5){w':j9}(hw:w'.a8=w.a8.set i n):o9 w'=upd (o9 w) (i:Int) n:=by
 have hl:=h.nl;funext j
 unfold o9 upd A2;rw [hw];show _=if j=(i:Int) then n else if 0<=j/\j<=2 then w.a8.getD j.toNat (B5 0) else B5 0
 by_cases hj:0<=j/\j<=2
 ·rw [if_pos hj,if_pos hj];by_cases q:j=(i:Int)
  ·subst q;rw [if_pos rfl,d96,d9F,e0t (by omega)];rfl
  ·rw [if_neg q,d9F,d9J (by omega),<-d9F]
 ·rw [if_neg hj,if_neg hj,if_neg (by omega)]
theorem PW.put{w w':j9}(h:WI w){i:Nat}(hi:i<3){n':j5}{l:List l8}{V:VR}{P:PR}{M:MS}(hM:∀m∈w.i0,M m)(hg:H0 (o9 w) M (i:Int) n' l)(hn:w'.a8=w.a8.set i n')(hm:∀m∈w'.i0,m∈w.i0\/m∈l):PW w':=by
 obtain ⟨V',P',h'⟩:=hg;refine ⟨V',P',_,by rw [d7M h hi n' hn];exact h',fun m hm' => ?_⟩;exact (hm m hm').imp (hM m) id
theorem PW.less{w w':j9}(h:PW w)(hn:w'.a8=w.a8)(hm:∀m∈w'.i0,m∈w.i0):PW w':=by
 obtain ⟨V,P,M,h1,h2⟩:=h;exact ⟨V,P,M,by rw [c6u hn];exact h1,fun m q=>h2 m (hm m q)⟩
theorem a0O{w:j9}{l:List l8}{m:l8}(h:m∈(N8 w l).i0):m∈w.i0\/m∈l :=
 (List.mem_append.1 h).imp id e0f
theorem b3d{w:j9}{i:Int}{m:l8}(h:m∈(a0g w i).i0):m∈w.i0 :=
 (List.mem_append.1 h).elim e0f e0n
theorem d6N{w:j9}(h:WI w)(hp:PW w){e:G5}(he:a1V e):PW (B4 w e):=by
 obtain ⟨V,P,M,h1,hM⟩:=hp;have hp:PW w:=⟨V,P,M,h1,hM⟩
 unfold B4;cases hk:e.a7==2||(e.a7==3||e.a7==4)
 ·simp only [cond_false];cases hA:n7 e.A 0 2
  ·exact hp
  simp only [d9B,cond_false];rw [E0] at hA;obtain ⟨i,hi⟩:∃i:Nat,e.A=(i:Int):=⟨e.A.toNat,by omega⟩
  have hi3:i<3:=by omega
  have hD:D3 (i:Int):=by unfold D3;omega
  rw [hi];have hN:o9 w (i:Int)=A2 w (i:Int):=a0Z hD;cases e.a7==1
  ·cases e.a7==5
   ·cases e.a7==6
    ·cases e.a7==7
     ·exact hp
     ·have hg:=h1.fall hD;rw [hN] at hg;exact PW.put (V:=V) (P:=P) h hi3 hM hg rfl fun m hm=>.inl hm
    ·have hg:=h1.retry hD;rw [hN] at hg;exact PW.put (V:=V) (P:=P) h hi3 hM hg rfl fun m hm=>a0O (w:=F3 w _ _) hm
   ·have hg:=h1.rise hD;rw [hN] at hg;exact PW.put (V:=V) (P:=P) h hi3 hM hg rfl fun m hm=>a0O (w:=F3 w _ _) hm
  ·simp only [cond_true];unfold a2A;cases decide (60<=w.f0.length)
   ·have hg:=h1.ask hD (A0.fits he (by decide));rw [hN] at hg;simp only [cond_false];cases decide ((G3 (A2 w (i:Int)) e.i5).1.Seq>(A2 w (i:Int)).Seq)
    ·exact PW.put (V:=V) (P:=P) h hi3 hM hg rfl fun m hm=>a0O (w:=F3 w _ _) hm
    ·exact PW.put (V:=V) (P:=P) h hi3 hM hg rfl fun m hm=>a0O (w:=F3 {w with f0:=w.f0++[_]} _ _) hm
   ·exact hp
 ·simp only [cond_true];unfold a0U;cases hA:decide (0<=e.A)
  ·exact hp
  simp only [cond_true];cases hm:w.i0[e.A.toNat]? with
  | none=>exact hp
  | some m =>
   have hmem:=d9G hm;simp only;cases e.a7==4
   ·cases e.a7==3
    ·simp only [cond_false];have hmi:=(h1.ms m (hM m hmem)).1;have hto:=hmi.to;obtain ⟨t,htt⟩:∃t:Nat,m.To=(t:Int):=⟨m.To.toNat,by omega⟩
     have hD:D3 (t:Int):=by unfold D3;omega
     have hN:o9 w (t:Int)=A2 w (t:Int):=a0Z hD;have hg:=h1.take hD (hM m hmem) htt;rw [hN] at hg;rw [htt];exact PW.put (V:=V) (P:=P) h (show t<3 by omega) hM hg rfl fun x hx=>(a0O (w:=F3 (a0g w e.A) _ _) hx).imp (fun q=>b3d q) id
    ·exact hp.less rfl fun x hx=>b3d hx
   ·exact hp.less rfl fun x hx=>(a0O hx).elim id fun q=>by rw [d9y.1 q];exact hmem
theorem d11:PW I3:=by
 have hn:∀j,D3 j->o9 I3 j=B5 j:=fun j hj=>by
  rw [a0Z hj];unfold D3 at hj;obtain rfl|rfl|rfl:j=0\/j=1\/j=2:=by omega
  all_goals rfl
 refine ⟨fun _ _ _ _=>False,fun _ _ _=>False,fun _=>False,⟨fun i hi => ?_,fun _ _ _ _ v=>v.elim,fun i s v hi hs _ => ?_,fun _ _ _ _ v=>v.elim,fun _ _ _ _ p=>p.elim,fun _ _ _ p=>p.elim,fun _ _ _ p=>p.elim,fun i hi => ?_,fun i s e hi hk => ?_,fun _ hm=>hm.elim⟩,fun m hm=>by cases hm⟩
 ·rw [hn i hi];exact ⟨NI.open hi,rfl⟩
 ·rw [hn i hi] at hs;simp [B5] at hs
 ·rw [hn i hi];exact .none rfl
 ·rw [hn i hi] at hk;simp [B5] at hk
structure ND(L:j8->Prop)(n:j5):Prop where
 kn:∀e∈n.a5,L e
 av:∀v∈n.Acc.a9,v.a6>0->L v.d7
 bv:∀v∈n.g7,v.a6>0->L v.d7
 cu:n.b5=3->L n.d6
 wt:n.i3=true->L n.b7
 qu:∀e∈n.d9,L e
structure ML(L:j8->Prop)(m:l8):Prop where
 en:m.a7=3\/m.a7=5\/m.a7=7->L m.d7
 vs:∀v∈m.a9,v.a6>0->L v.d7
def TO(n x:j5)(ts:List s9):Prop:=ts=[]\/(n.i3=true/\x.i3=false/\∃k,x.a5.findIdx? (C9 n.b7.a0)=some k/\ts=[⟨n.Id,n.b7.a0,O5 x.a5 k,bif O5 x.a5 k==0 then P4 x.a5 n.b7.a0 else 0⟩])
structure Act(L:j8->Prop)(n x:j5)(l:List l8)(ts:List s9):Prop where
 id:x.Id=n.Id
 sq:x.Seq=n.Seq
 kn:∃t,x.a5=n.a5++t
 bw:(x.i3=n.i3/\x.b7=n.b7)\/x.i3=false
 nd:ND L x
 ml:∀m∈l,ML L m
 to:TO n x ts
section
variable {L:j8->Prop} {n:j5} {m:l8}
theorem Act.same(h:ND L n):Act L n n [] []:=⟨rfl,rfl,⟨[],by simp⟩,.inl ⟨rfl,rfl⟩,h,by simp,.inl rfl⟩
theorem Act.of{x:j5}{l:List l8}(e1:x.Id=n.Id)(e2:x.Seq=n.Seq)(e3:x.a5=n.a5)(e4:x.i3=n.i3)(e5:x.b7=n.b7)(h:ND L x)(hm:∀m∈l,ML L m):Act L n x l [] :=
 ⟨e1,e2,⟨[],by rw [e3];simp⟩,.inl ⟨e4,e5⟩,h,hm,.inl rfl⟩
theorem ML.plain(h1:m.a7≠3)(h2:m.a7≠5)(h3:m.a7≠7)(hv:m.a9=[]):ML L m:=⟨fun h=>by omega,by rw [hv];simp⟩
theorem ML.has(hv:m.a9=[])(h:L m.d7):ML L m:=⟨fun _=>h,by rw [hv];simp⟩
theorem ML.all{id:Int}{x:l8}(h:ML L m)(hx:x∈D2 id m):ML L x:=by
 unfold D2 at hx;obtain ⟨t,_,rfl⟩:=List.mem_map.1 hx;exact ⟨h.en,h.vs⟩
theorem ND.down(h:ND L n):ND L (a1X n):=⟨h.kn,h.av,by simp [a1X],fun q=>absurd (show (0:Int)=3 from q) (by decide),h.wt,h.qu⟩
theorem ND.yield(h:ND L n)(b:Int):ND L (I8 n b):=by
 unfold I8;cases n.b5 != 0&&decide (b>n.a6)
 ·exact h
 ·exact h.down
theorem b4y(n:j5)(b:Int):(I8 n b).Seq=n.Seq/\(I8 n b).a5=n.a5/\(I8 n b).i3=n.i3/\(I8 n b).b7=n.b7:=by
 unfold I8;cases n.b5 != 0&&decide (b>n.a6)<;>exact ⟨rfl,rfl,rfl,rfl⟩
theorem ND.next(h:ND L n)(h0:L eN){e:j8}(hn:a0C n e):L e:=by
 cases hn with
 | best v hv hb=>exact h.bv v (d9G hv) hb
 | gap=>exact h0
 | want hb=>exact h.wt hb
 | queue e he=>exact h.qu e he
theorem c3J{a x:z4}{b s:Int}{e:j8}(hc:E5 a b s e=some x)(h:∀v∈a.a9,v.a6>0->L v.d7)(he:L e):∀v∈x.a9,v.a6>0->L v.d7:=by
 obtain ⟨k,rfl,_,_,_,_,_,rfl⟩:=b1o hc;intro v hv hb;rcases c3q hv with q|q
 ·rcases b5t q with q|q
  ·exact h v q hb
  ·rw [q] at hb;exact absurd hb (by decide)
 ·rw [q];exact he
theorem Act.propose(h:ND L n)(h0:L eN):Act L n (F4 n).1 (F4 n).2 []:=by
 unfold F4;cases n.b5 != 2||decide (40<=n.a5.length)
 case true=>exact .same h
 simp only [cond_false];obtain ⟨q,hq,hql,hqm,hqe⟩:=a7b n;cases hx:T3 n with
 | mk x o =>
 rw [hx] at hq hqe;have hq:x={n with d9:=q}:=hq;subst hq;have hQ:ND L {n with d9:=q}:=⟨h.kn,h.av,h.bv,h.cu,h.wt,fun e he=>h.qu e (hqm e he)⟩
 cases o with
 | none=>exact .of rfl rfl rfl rfl rfl hQ (by simp)
 | some e =>
  have he:=h.next h0 (hqe e rfl);simp only [a1i];cases hc:E5 n.Acc n.a6 (n.a5.length:Int) e with
  | none=>exact .of rfl rfl rfl rfl rfl hQ.down (by simp)
  | some a=>exact .of rfl rfl rfl rfl rfl ⟨h.kn,c3J hc h.av he,h.bv,fun _=>he,h.wt,hQ.qu⟩ fun m hm=>(ML.has rfl he).all hm
theorem Act.thenP{a:j5}{l:List l8}{ts:List s9}(h:Act L n a l ts)(h0:L eN):Act L n (F4 a).1 (l++(F4 a).2) ts:=by
 have hp:=Act.propose h.nd h0;have hk:=b2q a;obtain ⟨t,ht⟩:=h.kn;refine ⟨hk.id.trans h.id,hk.seq.trans h.sq,⟨t,hk.known.trans ht⟩,h.bw.imp (fun q=>⟨hk.busy.trans q.1,hk.want.trans q.2⟩) fun q=>hk.busy.trans q,hp.nd,fun m hm=>(List.mem_append.1 hm).elim (h.ml m) (hp.ml m),?_⟩;unfold TO;rw [hk.known,hk.busy];exact h.to
theorem Act.know{e:j8}(h:ND L n)(he:L e):Act L n (M5 (B6 n e)).1 [] (M5 (B6 n e)).2:=by
 have k1:(B6 n e).Id=n.Id:=b6D n e;have k2:(B6 n e).Seq=n.Seq:=by unfold B6;cases n.b5==3<;>rfl
 have k3:(B6 n e).a5=n.a5++[e]:=c4b n e;have k4:(B6 n e).i3=n.i3/\(B6 n e).b7=n.b7:=by unfold B6;cases n.b5==3<;>exact ⟨rfl,rfl⟩
 have kk:∀x∈n.a5++[e],L x:=fun x hx=>(List.mem_append.1 hx).elim (h.kn x) fun q=>by rw [d9y.1 q];exact he
 have hnd:ND L (B6 n e):=by
  unfold B6;cases hp:n.b5==3
  ·exact ⟨kk,h.av,h.bv,h.cu,h.wt,h.qu⟩
  ·exact ⟨kk,h.av,h.bv,fun q=>absurd (show (2:Int)=3 from q) (by decide),h.wt,h.qu⟩
 rcases a8L (B6 n e) with q|⟨k,q1,q2,q⟩<;>rw [q]
 ·exact ⟨k1,k2,⟨[e],k3⟩,.inl k4,hnd,by simp,.inl rfl⟩
 ·refine ⟨k1,k2,⟨[e],k3⟩,.inr rfl,⟨hnd.kn,hnd.av,hnd.bv,hnd.cu,fun q=>(by cases q),hnd.qu⟩,by simp,.inr ⟨by rw [<-k4.1];exact q1,rfl,k,by rw [<-k4.2];exact q2,?_⟩⟩;rw [<-k4.2,<-k1];rfl
theorem Act.learn{e:j8}(h:ND L n)(h0:L eN)(he:L e):Act L n (R0 n e).1 (R0 n e).2.1 (R0 n e).2.2:=by
 have:=(Act.know h he).thenP h0;rw [e0k] at this;exact this
theorem d1M{α:Type}{l:List α}{k:Nat}{x:α}(h:x∈l.drop k):x∈l:=e0n h
theorem Act.take(h:ND L n)(h0:L eN)(hm:ML L m)(hmi:MI m):Act L n (M3 n m).1 (M3 n m).2.1 (M3 n m).2.2:=by
 unfold M3;by_cases k1:m.a7=1
 ·rw [show (m.a7==1)=true by simpa using k1];simp only [cond_true];unfold V4;cases hp:D7 n.Acc m.a6 with
  | none=>exact .of rfl rfl rfl rfl rfl h fun x hx=>by rw [d9y.1 hx];exact .plain (by simp [H6]) (by simp [H6]) (by simp [H6]) rfl
  | some a =>
   obtain ⟨rfl,_⟩:=a2r hp;obtain ⟨y1,y2,y3,y4⟩:=b4y {n with Acc:=⟨m.a6,n.Acc.a9⟩} m.a6;have hg:ND L {n with Acc:=⟨m.a6,n.Acc.a9⟩}:=⟨h.kn,h.av,h.bv,h.cu,h.wt,h.qu⟩
   refine .of (a4g _ _) y1 y2 y3 y4 (hg.yield _) fun x hx => ?_
   rw [d9y.1 hx];exact ⟨fun q=>by simp [H6] at q,fun v hv=>h.av v (d1M hv)⟩
 rw [show (m.a7==1)=false by simpa using k1];by_cases k2:m.a7=2
 ·rw [show (m.a7==2)=true by simpa using k2];simp only [cond_true,cond_false];unfold V0;have hb:∀v∈C0 n.g7 (d9u m.c9.toNat v0++m.a9),v.a6>0->L v.d7:=fun v hv hb=>by
   rcases a69 hv with q|q
   ·exact h.bv v q hb
   ·rcases List.mem_append.1 q with q|q
    ·rw [(e0i.1 q).2] at hb;exact absurd hb (by decide)
    ·exact hm.vs v q hb
  cases n.b5 != 1||m.a6 != n.a6
  ·simp only [cond_false];cases G7 (n.b8.set m.b8.toNat true)
   ·exact .of rfl rfl rfl rfl rfl ⟨h.kn,h.av,hb,h.cu,h.wt,h.qu⟩ (by simp)
   ·simp only [cond_true];have h1:Act L n {n with b8:=[],g7:=C0 n.g7 (d9u m.c9.toNat v0++m.a9),b5:=2} [] []:=.of rfl rfl rfl rfl rfl ⟨h.kn,h.av,hb,fun q=>absurd (show (2:Int)=3 from q) (by decide),h.wt,h.qu⟩ (by simp);have h2:=h1.thenP h0;rw [e0k] at h2;exact h2
  ·exact .same h
 rw [show (m.a7==2)=false by simpa using k2];by_cases k3:m.a7=3
 ·rw [show (m.a7==3)=true by simpa using k3];simp only [cond_true,cond_false];unfold X4;cases hp:E5 n.Acc m.a6 m.c9 m.d7 with
  | none=>exact .of rfl rfl rfl rfl rfl h fun x hx=>by rw [d9y.1 hx];exact .plain (by simp [H6]) (by simp [H6]) (by simp [H6]) rfl
  | some a =>
   obtain ⟨y1,y2,y3,y4⟩:=b4y {n with Acc:=a} m.a6;have hg:ND L {n with Acc:=a}:=⟨h.kn,c3J hp h.av (hm.en (.inl k3)),h.bv,h.cu,h.wt,h.qu⟩
   refine .of (a4g _ _) y1 y2 y3 y4 (hg.yield _) fun x hx => ?_
   rw [d9y.1 hx];exact .plain (by simp [H6]) (by simp [H6]) (by simp [H6]) rfl
 rw [show (m.a7==3)=false by simpa using k3];by_cases k4:m.a7=4
 ·rw [show (m.a7==4)=true by simpa using k4];simp only [cond_true,cond_false];unfold a0r;cases hc:n.b5 != 3||(m.a6 != n.a6||m.c9 != (n.a5.length:Int))
  ·simp only [cond_false];simp only [e0h,bne_eq_false_iff_eq] at hc;have hcu:=h.cu hc.1;have h1:ND L {n with a9:=n.a9.set m.b8.toNat true}:=⟨h.kn,h.av,h.bv,h.cu,h.wt,h.qu⟩
   cases G7 (n.a9.set m.b8.toNat true)
   ·exact .of rfl rfl rfl rfl rfl h1 (by simp)
   ·simp only [cond_true];have h2:=Act.learn h1 h0 hcu;exact ⟨h2.id,h2.sq,h2.kn,h2.bw,h2.nd,fun x hx=>(List.mem_append.1 hx).elim (fun q=>(ML.has rfl hcu).all q) (h2.ml x),h2.to⟩
  ·exact .same h
 rw [show (m.a7==4)=false by simpa using k4];by_cases k5:m.a7=5
 ·rw [show (m.a7==5)=true by simpa using k5];simp only [cond_true,cond_false];unfold a0n;cases decide (m.c9<(n.a5.length:Int))
  ·cases decide (m.c9>(n.a5.length:Int))
   ·exact .learn h h0 (hm.en (.inr (.inl k5)))
   ·exact .of rfl rfl rfl rfl rfl h fun x hx=>by rw [d9y.1 hx];exact .plain (by simp [H6]) (by simp [H6]) (by simp [H6]) rfl
  ·exact .same h
 rw [show (m.a7==5)=false by simpa using k5];by_cases k6:m.a7=6
 ·rw [show (m.a7==6)=true by simpa using k6];simp only [cond_true,cond_false];have hg:ND L {n with Acc:=(D7 n.Acc m.a6).getD n.Acc}:=by
   cases hp:D7 n.Acc m.a6 with
   | none=>exact h
   | some a =>
    obtain ⟨rfl,_⟩:=a2r hp;exact ⟨h.kn,h.av,h.bv,h.cu,h.wt,h.qu⟩
  obtain ⟨y1,y2,y3,y4⟩:=b4y {n with Acc:=(D7 n.Acc m.a6).getD n.Acc} m.a6;exact .of (a4g _ _) y1 y2 y3 y4 (hg.yield _) (by simp)
 rw [show (m.a7==6)=false by simpa using k6];by_cases k7:m.a7=7
 ·rw [show (m.a7==7)=true by simpa using k7];simp only [cond_true,cond_false];unfold X0;cases n.b5==0||(decide (4<=n.d9.length)||F9 n.a5 m.d7.a0)
  ·simp only [cond_false];have h1:Act L n {n with d9:=n.d9++[m.d7]} [] []:=.of rfl rfl rfl rfl rfl ⟨h.kn,h.av,h.bv,h.cu,h.wt,fun e he=>(List.mem_append.1 he).elim (h.qu e) fun q=>by rw [d9y.1 q];exact hm.en (.inr (.inr k7))⟩ (by simp);have h2:=h1.thenP h0;rw [e0k] at h2;exact h2
  ·exact .same h
 rw [show (m.a7==7)=false by simpa using k7];cases m.a7==8
 ·exact .same h
 ·refine .of rfl rfl rfl rfl rfl h fun x hx => ?_
  obtain ⟨l,hl,hx⟩:=e0e.1 hx;obtain ⟨j,hj,rfl⟩:=List.mem_map.1 hl;unfold X3 at hx;cases hk:n.a5[m.c9.toNat+j]? with
  | none=>rw [hk] at hx;cases hx
  | some e =>
   rw [hk] at hx;rw [d9y.1 hx];exact .has rfl (h.kn e (d9G hk))
theorem Act.rise(h:ND L n):Act L n (N0 n).1 (N0 n).2 []:=by
 unfold N0;cases decide (I0 n.Acc.g9 n.Id<0)
 ·refine .of rfl rfl rfl rfl rfl ⟨h.kn,h.av,h.av,fun q=>absurd (show (1:Int)=3 from q) (by decide),h.wt,h.qu⟩ fun x hx=>(ML.plain (by simp) (by simp) (by simp) rfl).all hx
 ·exact .same h
theorem Act.retry(h:ND L n)(h0:L eN):Act L n (L8 n).1 (L8 n).2 []:=by
 have hn:∀x∈D2 n.Id ⟨8,0,0,0,(n.a5.length:Int),zE,[]⟩,ML L x:=fun x hx=>(ML.plain (by simp) (by simp) (by simp) rfl).all hx
 have G7:∀{l:List l8},(∀x∈l,ML L x)->Act L n n (D2 n.Id ⟨8,0,0,0,(n.a5.length:Int),zE,[]⟩++l) []:=fun {l} hl=>.of rfl rfl rfl rfl rfl h fun x hx=>(List.mem_append.1 hx).elim (hn x) (hl x)
 unfold L8;by_cases h1:n.b5=1
 ·rw [show (n.b5==1)=true by simpa using h1];exact G7 fun x hx=>(ML.plain (by simp) (by simp) (by simp) rfl).all hx
 rw [show (n.b5==1)=false by simpa using h1];by_cases h2:n.b5=2
 ·rw [show (n.b5==2)=true by simpa using h2];have hp:Act L n n (D2 n.Id ⟨8,0,0,0,(n.a5.length:Int),zE,[]⟩) []:=.of rfl rfl rfl rfl rfl h hn;exact hp.thenP h0
 rw [show (n.b5==2)=false by simpa using h2];by_cases h3:n.b5=3
 ·rw [show (n.b5==3)=true by simpa using h3];exact G7 fun x hx=>(ML.has rfl (h.cu h3)).all hx
 rw [show (n.b5==3)=false by simpa using h3];cases hb:n.i3
 ·exact .of rfl rfl rfl rfl rfl h hn
 ·exact G7 fun x hx=>(ML.has rfl (h.wt hb)).all hx
theorem Act.fall(h:ND L n):Act L n (Y2 n) [] []:=⟨rfl,rfl,⟨[],by simp [Y2,B5]⟩,.inr rfl,⟨h.kn,h.av,by simp [Y2,B5],fun q=>absurd (show (0:Int)=3 from q) (by decide),fun q=>(by cases q),by simp [Y2,B5]⟩,by simp,.inl rfl⟩
theorem ND.mono{L':j8->Prop}(h:ND L n)(hi:∀e,L e->L' e):ND L' n:=⟨fun e q=>hi e (h.kn e q),fun v q b=>hi _ (h.av v q b),fun v q b=>hi _ (h.bv v q b),fun q=>hi _ (h.cu q),fun q=>hi _ (h.wt q),fun e q=>hi e (h.qu e q)⟩
theorem ML.mono{L':j8->Prop}(h:ML L m)(hi:∀e,L e->L' e):ML L' m:=⟨fun q=>hi _ (h.en q),fun v q b=>hi _ (h.vs v q b)⟩
end
def W7(w:j9)(e:j8):Prop:=e.i6=true\/∃a∈w.f0,a.a0=e.a0/\∃j,j<=(o9 w e.a0.b6).a5.length/\(∀x∈(o9 w e.a0.b6).a5.take j,C9 e.a0 x=false)/\e.c7=B2 (m9 ((o9 w e.a0.b6).a5.take j)).1.d8 a.i5
def a47(l:List j8)(t:s9):Prop := ∃k,l.findIdx? (C9 t.a0)=some k/\t.Code=O5 l k/\t.c8=bif O5 l k==0 then P4 l t.a0 else 0
structure TL(w:j9):Prop where
 nd:∀i,D3 i->ND (W7 w) (o9 w i)
 ml:∀m∈w.i0,ML (W7 w) m
 aq:∀a∈w.f0,D3 a.a0.b6/\1<=a.a0.Seq/\a.a0.Seq<=(o9 w a.a0.b6).Seq
 au:(w.f0.map (·.a0)).Nodup
 tn:∀t∈w.Told,t.Node=t.a0.b6/\D3 t.Node/\(∃a∈w.f0,a.a0=t.a0)/\((o9 w t.Node).i3=true->t.a0.Seq<(o9 w t.Node).Seq)/\a47 (o9 w t.Node).a5 t
 tu:(w.Told.map (·.a0)).Nodup
theorem c1l{l t:List j8}{q:m8}{k:Nat}(h:l.findIdx? (C9 q)=some k):(l++t).findIdx? (C9 q)=some k:=by
 rw [List.findIdx?_append,h];rfl
theorem b9h{l t:List j8}{k:Nat}(h:F5 (l++t)=true)(hk:k<l.length):O5 (l++t) k=O5 l k:=by
 have hl:F5 l=true:=by
  unfold F5 at h ⊢;simp only [d9E,List.all_append,d9v,decide_eq_true_eq] at h ⊢;exact ⟨by omega,h.2.1⟩
 rw [b61 h (by rw [d9E];omega),b61 hl hk,d91 (by omega),List.getElem_append_left hk]
theorem d3q{l t:List j8}{q:m8}{k:Nat}(h:l.findIdx? (C9 q)=some k):P4 (l++t) q=P4 l q:=by
 obtain ⟨hk,_⟩:=a9I h;unfold P4;rw [c1l h,h];simp only [d9L hk]
theorem a47.app{l t:List j8}{x:s9}(h:a47 l x)(hl:F5 (l++t)=true):a47 (l++t) x:=by
 obtain ⟨k,h1,h2,h3⟩:=h;obtain ⟨hk,_⟩:=a9I h1;exact ⟨k,c1l h1,by rw [b9h hl hk];exact h2,by rw [b9h hl hk,d3q h1];exact h3⟩
theorem a3N{w:j9}(h:WI w){i:Int}(hi:D3 i):NI (o9 w i)/\(o9 w i).Id=i:=by
 rw [a0Z hi];unfold D3 at hi;obtain ⟨k,rfl⟩:∃k:Nat,i=(k:Int):=⟨i.toNat,by omega⟩
 obtain ⟨n,_,h2,h3,h4,_⟩:=a3O h (i:=k) (by omega);rw [h2];exact ⟨h4,h3⟩
theorem b6P{w w':j9}(hl:w.a8.length=3){i:Nat}(hi:i<3)(n:j5)(hw:w'.a8=w.a8.set i n)(j:Int):o9 w' j=if j=(i:Int) then n else o9 w j:=by
 unfold o9 A2;rw [hw];by_cases hj:0<=j/\j<=2
 ·rw [if_pos hj,if_pos hj];by_cases q:j=(i:Int)
  ·subst q;rw [if_pos rfl,d96,d9F,e0t (by omega)];rfl
  ·rw [if_neg q,d9F,d9J (by omega),<-d9F]
 ·rw [if_neg hj,if_neg hj,if_neg (by omega)]
theorem W7.mono{w w':j9}(hk:∀j,∃t,(o9 w' j).a5=(o9 w j).a5++t)(ha:∀a∈w.f0,a∈w'.f0){e:j8}(h:W7 w e):W7 w' e:=by
 rcases h with h|⟨a,h1,h2,j,h3,h4,h5⟩
 ·exact .inl h
 ·obtain ⟨t,ht⟩:=hk e.a0.b6;refine .inr ⟨a,ha a h1,h2,j,by rw [ht,d9E];omega,?_,?_⟩
  ·rw [ht,d91 h3];exact h4
  ·rw [ht,d91 h3];exact h5
theorem TL.step{w w':j9}(h:TL w)(hl:w.a8.length=3){i:Nat}(hi:i<3)(hni:NI (o9 w (i:Int)))(hid:(o9 w (i:Int)).Id=(i:Int)){n':j5}{l:List l8}{ts:List s9}(hn':NI n')(ha:Act (W7 w) (o9 w (i:Int)) n' l ts)(hn:w'.a8=w.a8.set i n')(hm:∀m∈w'.i0,m∈w.i0\/m∈l)(hk:w'.f0=w.f0)(ht:w'.Told=w.Told\/w'.Told=w.Told++ts):TL w':=by
 have hJ:=b6P hl hi n' hn;have hD:D3 (i:Int):=by unfold D3;omega
 have hJi:o9 w' (i:Int)=n':=by rw [hJ,if_pos rfl]
 have hkn:∀j,∃t,(o9 w' j).a5=(o9 w j).a5++t:=fun j=>by
  rw [hJ];split
  ·rename_i q;subst q;exact ha.kn
  ·exact ⟨[],by simp⟩
 have hmo:∀e,W7 w e->W7 w' e:=fun e=>W7.mono hkn (by rw [hk];exact fun _ q=>q)
 have hsq:∀j,(o9 w' j).Seq=(o9 w j).Seq:=fun j=>by
  rw [hJ];split
  ·rename_i q;subst q;exact ha.sq
  ·rfl
 have hls:∀j,D3 j->NI (o9 w j)->∀t,(o9 w' j).a5=(o9 w j).a5++t->F5 ((o9 w j).a5++t)=true\/(o9 w' j).a5=(o9 w j).a5:=fun j hj hjn t ht=>by
  by_cases q:j=(i:Int)
  ·subst q;rw [hJi] at ht;left;rw [<-ht];exact hn'.list
  ·right;rw [hJ,if_neg q]
 have old:∀t∈w.Told,t.Node=t.a0.b6/\D3 t.Node/\(∃a∈w'.f0,a.a0=t.a0)/\((o9 w' t.Node).i3=true->t.a0.Seq<(o9 w' t.Node).Seq)/\a47 (o9 w' t.Node).a5 t:=by
  intro t q;obtain ⟨x1,x2,x3,x4,x5⟩:=h.tn t q;refine ⟨x1,x2,by rw [hk];exact x3,fun hb => ?_,?_⟩
  ·rw [hsq];refine x4 ?_;rw [hJ] at hb;split at hb
   ·rename_i q;rw [q];rcases ha.bw with ⟨b,_⟩|b
    ·rw [<-b];exact hb
    ·rw [b] at hb;cases hb
   ·exact hb
  ·obtain ⟨t',ht'⟩:=hkn t.Node;rw [ht'];by_cases q:t.Node=(i:Int)
   ·refine x5.app ?_;rw [<-ht',q,hJi];exact hn'.list
   ·have:t'=[]:=by
     rw [hJ,if_neg q] at ht';have:=congrArg List.length ht';rw [d9E] at this;exact d9D (by omega)
    rw [this,d9X];exact x5
 have new:∀t∈ts,(t.Node=t.a0.b6/\D3 t.Node/\(∃a∈w'.f0,a.a0=t.a0)/\((o9 w' t.Node).i3=true->t.a0.Seq<(o9 w' t.Node).Seq)/\a47 (o9 w' t.Node).a5 t)/\ts=[t]/\(o9 w (i:Int)).i3=true/\t.a0=⟨(i:Int),(o9 w (i:Int)).Seq⟩:=by
  intro t q;rcases ha.to with e|⟨b1,b2,k,b3,b4⟩
  ·rw [e] at q;cases q
  ·rw [b4] at q;have q:=d9y.1 q;have hw:(o9 w (i:Int)).b7.a0=⟨(i:Int),(o9 w (i:Int)).Seq⟩/\(o9 w (i:Int)).b7.i6=false:=by
    rcases hni.wt with y|y
    ·exact ⟨by rw [y.2.2.2.2,hid],y.2.2.2.1⟩
    ·rw [b1] at y;cases y.1
   have hlg:=(h.nd (i:Int) hD).wt b1;rcases hlg with y|⟨a,a1,a2,_⟩
   ·rw [hw.2] at y;cases y
   ·subst q;refine ⟨⟨?_,by show D3 _;rw [hid];exact hD,⟨a,by rw [hk];exact a1,a2⟩,?_,?_⟩,b4,b1,hw.1⟩
    ·show (o9 w (i:Int)).Id=(o9 w (i:Int)).b7.a0.b6
     rw [hw.1,hid]
    ·show (o9 w' (o9 w (i:Int)).Id).i3=true->_
     rw [hid,hJi,b2];intro y;cases y
    ·show a47 (o9 w' (o9 w (i:Int)).Id).a5 _
     rw [hid,hJi];exact ⟨k,b3,rfl,rfl⟩
 refine ⟨fun j hj => ?_,fun m q => ?_,fun a q => ?_,by rw [hk];exact h.au,fun t q => ?_,?_⟩
 ·rw [hJ];split
  ·exact ha.nd.mono hmo
  ·exact (h.nd j hj).mono hmo
 ·exact (hm m q).elim (fun q=>(h.ml m q).mono hmo) fun q=>(ha.ml m q).mono hmo
 ·rw [hk] at q;obtain ⟨x1,x2,x3⟩:=h.aq a q;exact ⟨x1,x2,by rw [hsq];exact x3⟩
 ·rcases ht with e|e
  ·rw [e] at q;exact old t q
  ·rw [e] at q;exact (List.mem_append.1 q).elim (old t) fun q=>(new t q).1
 ·rcases ht with e|e
  ·rw [e];exact h.tu
  ·rw [e,d9M];refine d9A.2 ⟨h.tu,?_,?_⟩
   ·cases hts:ts with
    | nil=>simp
    | cons t r =>
     have:=(new t (by rw [hts];simp)).2.1;rw [hts] at this;injection this with _ hr;rw [hr];simp
   ·intro a ha' b hb' hab;obtain ⟨x,hx,rfl⟩:=List.mem_map.1 ha';obtain ⟨y,hy,rfl⟩:=List.mem_map.1 hb';obtain ⟨_,_,n3,n4⟩:=new y hy;obtain ⟨o1,o2,o3,o4,o5⟩:=h.tn x hx;rw [n4] at hab;have:x.Node=(i:Int):=by rw [o1,hab]
    have:=o4 (by rw [this];exact n3);rw [‹x.Node=(i:Int)›,hab] at this;simp only at this;omega
theorem TL.asked{w w':j9}(h:TL w)(hw:WI w){i:Nat}(hi:i<3){p:List m7}(hc:L0 (o9 w (i:Int)) p=true)(hn:w'.a8=w.a8.set i (J5 (o9 w (i:Int)) p))(hm:w'.i0=w.i0)(hk:w'.f0=w.f0++[⟨⟨(i:Int),(o9 w (i:Int)).Seq+1⟩,p⟩])(ht:w'.Told=w.Told):TL w':=by
 have hJ:=b6P hw.nl hi _ hn;have hD:D3 (i:Int):=by unfold D3;omega
 obtain ⟨hni,hid⟩:=a3N hw hD;have hJi:o9 w' (i:Int)=J5 (o9 w (i:Int)) p:=by rw [hJ,if_pos rfl]
 have hkn:∀j,(o9 w' j).a5=(o9 w j).a5:=fun j=>by
  rw [hJ];split
  ·rename_i q;subst q;rfl
  ·rfl
 have hsq:∀j,(o9 w j).Seq<=(o9 w' j).Seq:=fun j=>by
  rw [hJ];split
  ·rename_i q;subst q;show _<=(o9 w (i:Int)).Seq+1;omega
  ·exact d9O _
 have hmo:∀e,W7 w e->W7 w' e:=fun e=>W7.mono (fun j=>⟨[],by rw [hkn,d9X]⟩) (by rw [hk];exact fun a q=>e0F _ q)
 have hnew:∀e,W7 w e->C9 ⟨(i:Int),(o9 w (i:Int)).Seq+1⟩ e=false:=fun e he=>by
  cases hq:C9 ⟨(i:Int),(o9 w (i:Int)).Seq+1⟩ e
  ·rfl
  ·unfold C9 at hq;simp only [d9v,d9T] at hq;have hr:e.a0=⟨(i:Int),(o9 w (i:Int)).Seq+1⟩:=(a5r (b:=⟨(i:Int),(o9 w (i:Int)).Seq+1⟩)).1 hq.2;rcases he with he|⟨a,a1,a2,_⟩
   ·rw [hq.1] at he;cases he
   ·have:=(h.aq a a1).2.2;rw [a2,hr] at this;simp only at this;omega
 have hnd:=h.nd (i:Int) hD;refine ⟨fun j hj => ?_,fun m q=>(h.ml m (hm▸q)).mono hmo,fun a q => ?_,?_,fun t q => ?_,by rw [ht];exact h.tu⟩
 ·rw [hJ];split
  ·refine ⟨fun e q=>hmo e (hnd.kn e q),fun v q b=>hmo _ (hnd.av v q b),fun v q b=>hmo _ (hnd.bv v q b),fun q=>hmo _ (hnd.cu q),fun _ => ?_,fun e q=>hmo e (hnd.qu e q)⟩;refine .inr ⟨⟨⟨(i:Int),(o9 w (i:Int)).Seq+1⟩,p⟩,by rw [hk];simp,?_,(o9 w (i:Int)).a5.length,?_,?_,?_⟩
   ·show _=(⟨(o9 w (i:Int)).Id,(o9 w (i:Int)).Seq+1⟩:m8)
    rw [hid]
   ·show _<=(o9 w' (o9 w (i:Int)).Id).a5.length
    rw [hid,hkn];exact d9K _
   ·show ∀x∈(o9 w' (o9 w (i:Int)).Id).a5.take _,C9 (⟨(o9 w (i:Int)).Id,(o9 w (i:Int)).Seq+1⟩:m8) x=false
    rw [hid,hkn,d9P];exact fun x hx=>hnew x (hnd.kn x hx)
   ·show _=B2 (m9 ((o9 w' (o9 w (i:Int)).Id).a5.take _)).1.d8 p
    rw [hid,hkn,d9P];rfl
  ·exact (h.nd j hj).mono hmo
 ·rw [hk] at q;rcases List.mem_append.1 q with q|q
  ·obtain ⟨x1,x2,x3⟩:=h.aq a q;exact ⟨x1,x2,e0c x3 (hsq _)⟩
  ·rw [d9y.1 q];refine ⟨hD,by have:=hni.sq;show 1<=(o9 w (i:Int)).Seq+1;omega,?_⟩;show _<=(o9 w' (i:Int)).Seq
   rw [hJi];exact d9O _
 ·rw [hk,d9M];refine d9A.2 ⟨h.au,by simp,?_⟩;intro a ha b hb hab;obtain ⟨x,hx,rfl⟩:=List.mem_map.1 ha;rw [e0D,d9y] at hb;have:=(h.aq x hx).2.2;rw [hab,hb] at this;simp only at this;omega
 ·rw [ht] at q;obtain ⟨x1,x2,⟨a,a1,a2⟩,x4,x5⟩:=h.tn t q;refine ⟨x1,x2,⟨a,by rw [hk];exact e0F _ a1,a2⟩,fun hb => ?_,by rw [hkn];exact x5⟩;rw [hJ] at hb ⊢;split
  ·rename_i q;have:=(h.aq a a1).2.2;rw [a2,<-x1,q] at this;show _<(o9 w (i:Int)).Seq+1
   omega
  ·rename_i q;rw [if_neg q] at hb;exact x4 hb
theorem c7L{w:j9}(h:WI w)(ht:TL w){e:G5}(he:a1V e):TL (B4 w e):=by
 have h0:W7 w eN:=.inl rfl;unfold B4;cases hk:e.a7==2||(e.a7==3||e.a7==4)
 ·simp only [cond_false];cases hA:n7 e.A 0 2
  ·exact ht
  simp only [d9B,cond_false];rw [E0] at hA;obtain ⟨i,hi⟩:∃i:Nat,e.A=(i:Int):=⟨e.A.toNat,by omega⟩
  have hi3:i<3:=by omega
  have hD:D3 (i:Int):=by unfold D3;omega
  rw [hi];have hN:o9 w (i:Int)=A2 w (i:Int):=a0Z hD;obtain ⟨hni,hid⟩:=a3N h hD;have hnd:=ht.nd (i:Int) hD;rw [<-hN];cases e.a7==1
  ·cases e.a7==5
   ·cases e.a7==6
    ·cases e.a7==7
     ·exact ht
     ·exact ht.step h.nl hi3 hni hid hni.fall (.fall hnd) rfl (fun m q=>.inl q) rfl (.inl rfl)
    ·exact ht.step h.nl hi3 hni hid (a7M hni).ni (.retry hnd h0) rfl (fun m q=>a0O (w:=F3 w _ _) q) rfl (.inl rfl)
   ·exact ht.step h.nl hi3 hni hid (a9D hni).ni (.rise hnd) rfl (fun m q=>a0O (w:=F3 w _ _) q) rfl (.inl rfl)
  ·simp only [cond_true];unfold a2A;cases hal:decide (60<=w.f0.length)
   ·rw [<-hN];simp only [cond_false];rw [c48];cases hc:L0 (o9 w (i:Int)) e.i5
    ·simp only [cond_false];rw [a0R,hc];exact ht.step h.nl hi3 hni hid hni (.same hnd) rfl (fun m q=>a0O (w:=F3 w _ _) q) rfl (.inl rfl)
    ·simp only [cond_true];have hf:q9 e.i5:=A0.fits he (by decide);have hwq:(G3 (o9 w (i:Int)) e.i5).1.b7.a0=⟨(i:Int),(o9 w (i:Int)).Seq+1⟩:=by
      rw [b4Q hc];show (⟨(o9 w (i:Int)).Id,_⟩:m8)=_;rw [hid]
     rw [hwq];have h1:TL ⟨w.a8.set i (J5 (o9 w (i:Int)) e.i5),w.i0,w.f0++[⟨⟨(i:Int),(o9 w (i:Int)).Seq+1⟩,e.i5⟩],w.Told⟩:=ht.asked h hi3 hc rfl rfl rfl rfl;have hJ:=b6P (w':=⟨w.a8.set i (J5 (o9 w (i:Int)) e.i5),w.i0,w.f0++[⟨⟨(i:Int),(o9 w (i:Int)).Seq+1⟩,e.i5⟩],w.Told⟩) h.nl hi3 _ rfl (i:Int);rw [if_pos rfl] at hJ;have hnd1:=h1.nd (i:Int) hD;rw [hJ] at hnd1;have hni1:=hni.asked hf hc;have hcan:=hc;refine h1.step (i:=i) (n':=(G3 (o9 w (i:Int)) e.i5).1) (l:=(G3 (o9 w (i:Int)) e.i5).2) (ts:=[]) (by show (w.a8.set i _).length=3;rw [d94];exact h.nl) hi3 (by rw [hJ];exact hni1) (by rw [hJ];exact hid) (a7x hni hf).ni ?_ ?_ (fun m q=>a0O (w:=F3 ⟨w.a8,w.i0,w.f0++[_],w.Told⟩ _ _) q) rfl (.inl rfl)
     ·rw [hJ];rw [a0R,hc];have h0':W7 ⟨w.a8.set i (J5 (o9 w (i:Int)) e.i5),w.i0,w.f0++[⟨⟨(i:Int),(o9 w (i:Int)).Seq+1⟩,e.i5⟩],w.Told⟩ eN:=.inl rfl;simp only [cond_true];cases (o9 w (i:Int)).b5==2
      ·refine .of rfl rfl rfl rfl rfl hnd1 fun x hx => ?_
       simp only [cond_false] at hx;cases hp0:(o9 w (i:Int)).b5==0
       ·rw [hp0] at hx;cases hx
       ·rw [hp0] at hx;exact (ML.has rfl (hnd1.wt rfl)).all hx
      ·exact .propose hnd1 h0'
     ·show w.a8.set _ _=(w.a8.set i _).set i _
      rw [List.set_set];rfl
   ·exact ht
 ·simp only [cond_true];unfold a0U;cases hA:decide (0<=e.A)
  ·exact ht
  simp only [cond_true];cases hm:w.i0[e.A.toNat]? with
  | none=>exact ht
  | some m =>
   have hmem:=d9G hm;have hmi:=h.ms m hmem;have hself:∀{w':j9},w'.a8=w.a8->w'.f0=w.f0->w'.Told=w.Told->(∀x∈w'.i0,x∈w.i0)->TL w':=fun {w'} e1 e2 e3 e4=>by
    obtain ⟨hni,hid⟩:=a3N h (i:=0) (by unfold D3;omega);refine ht.step (i:=0) h.nl (by omega) hni hid hni (.same (ht.nd 0 (by unfold D3;omega))) ?_ (fun x q=>.inl (e4 x q)) e2 (.inl e3);rw [e1];have hl:=h.nl;have:o9 w ((0:Nat):Int)=w.a8[0]:=by
     rw [a0Z (by unfold D3;omega)];show w.a8.getD 0 _=_
     rw [d9F,d9t (by omega)];rfl
    rw [show o9 w 0=w.a8[0] from this,e05]
   simp only;cases e.a7==4
   ·cases e.a7==3
    ·simp only [cond_false];have hto:=hmi.to;obtain ⟨t,htt⟩:∃t:Nat,m.To=(t:Int):=⟨m.To.toNat,by omega⟩
     have hD:D3 (t:Int):=by unfold D3;omega
     have hN:o9 w (t:Int)=A2 w (t:Int):=a0Z hD;obtain ⟨hni,hid⟩:=a3N h hD;rw [htt,<-hN];have hact:=Act.take (ht.nd (t:Int) hD) h0 (ht.ml m hmem) hmi;refine ht.step h.nl (i:=t) (by omega) hni hid (b1T hni hmi).ni hact rfl (fun x q=>(a0O (w:=F3 (a0g w e.A) _ _) q).imp (fun q=>b3d q) id) rfl ?_;show (w.Told++List.take (60-w.Told.length) _=w.Told\/_)
     have hl1:=(b3L hni m).2;rcases Nat.eq_zero_or_pos (60-w.Told.length) with q|q
     ·left;rw [q,e0j,d9X]
     ·right
      show w.Told++List.take (60-w.Told.length) _=_
      rw [d99 (by omega)]
    ·exact hself rfl rfl rfl fun x q=>b3d q
   ·exact hself rfl rfl rfl fun x q=>(a0O q).elim id fun q=>by rw [d9y.1 q];exact hmem
theorem c9o:TL I3:=by
 have hn:∀j,D3 j->o9 I3 j=B5 j:=fun j hj=>by
  rw [a0Z hj];unfold D3 at hj;obtain rfl|rfl|rfl:j=0\/j=1\/j=2:=by omega
  all_goals rfl
 refine ⟨fun i hi => ?_,fun m hm=>(by cases hm),fun a ha=>(by cases ha),by simp [I3],fun t ht=>(by cases ht),by simp [I3]⟩;rw [hn i hi];exact ⟨by simp [B5],by simp [B5],by simp [B5],fun q=>absurd (show (0:Int)=3 from q) (by decide),fun q=>(by cases q),by simp [B5]⟩
section
variable {w:j9}
theorem d6m{α:Type}(z:α):∀{l:List α},l.length=3->l=[l.getD 0 z,l.getD 1 z,l.getD 2 z]
 | [a,b,c],_=>rfl
theorem b0O(h:WI w):w.a8=[o9 w 0,o9 w 1,o9 w 2]:=by
 have e0:o9 w 0=w.a8.getD 0 (B5 0):=a0Z (j:=0) (by unfold D3;omega);have e1:o9 w 1=w.a8.getD 1 (B5 0):=a0Z (j:=1) (by unfold D3;omega);have e2:o9 w 2=w.a8.getD 2 (B5 0):=a0Z (j:=2) (by unfold D3;omega);rw [e0,e1,e2];exact d6m (B5 0) h.nl
theorem a6E(h:WI w){n:j5}(hn:n∈w.a8):∃i,D3 i/\n=o9 w i:=by
 rw [b0O h] at hn;simp only [d9z,e09,or_false] at hn;rcases hn with q|q|q
 ·exact ⟨0,by unfold D3;omega,q⟩
 ·exact ⟨1,by unfold D3;omega,q⟩
 ·exact ⟨2,by unfold D3;omega,q⟩
theorem c4O(h:WI w){i:Nat}(hi:i<w.a8.length):w.a8[i]=o9 w (i:Int)/\i<3:=by
 have hl:=h.nl;rw [a0Z (by unfold D3;omega)];unfold A2;rw [d96,d9F,d9t hi];exact ⟨rfl,by omega⟩
theorem c40(hp:PW w){i j:Int}(hi:D3 i)(hj:D3 j){s:Nat}{a b:j8}(ha:(o9 w i).a5[s]?=some a)(hb:(o9 w j).a5[s]?=some b):a=b:=by
 obtain ⟨V,P,M,h,_⟩:=hp;exact h.one (h.kn i s a hi ha) (h.kn j s b hj hb)
theorem d4Y(a b c:j5)(x:List l8)(y:List D5)(z:List s9):∃n∈[a,b,c],r8 ⟨[a,b,c],x,y,z⟩=n.a5/\∀m∈[a,b,c],m.a5.length<=n.a5.length:=by
 have e:r8 ⟨[a,b,c],x,y,z⟩=(bif decide ((b.a5.length:Int)>(a.a5.length:Int)) then (bif decide ((c.a5.length:Int)>(b.a5.length:Int)) then c else b) else (bif decide ((c.a5.length:Int)>(a.a5.length:Int)) then c else a)).a5:=by
  unfold r8;simp only [best,e0o,List.length_nil,e0l,e0r];have e0:decide ((a.a5.length:Int)>(a.a5.length:Int))=false:=by simp
  simp only [e0,cond_false,e0l];cases decide ((b.a5.length:Int)>(a.a5.length:Int))
  ·simp only [cond_false,e0l];cases decide ((c.a5.length:Int)>(a.a5.length:Int))<;>rfl
  ·simp only [cond_true,e0l,e0r];cases decide ((c.a5.length:Int)>(b.a5.length:Int))<;>rfl
 rw [e];cases h1:decide ((b.a5.length:Int)>(a.a5.length:Int))
 ·cases h2:decide ((c.a5.length:Int)>(a.a5.length:Int))
  ·exact ⟨a,by simp,rfl,by simp at h1 h2 ⊢;omega⟩
  ·exact ⟨c,by simp,rfl,by simp at h1 h2 ⊢;omega⟩
 ·cases h2:decide ((c.a5.length:Int)>(b.a5.length:Int))
  ·exact ⟨b,by simp,rfl,by simp at h1 h2 ⊢;omega⟩
  ·exact ⟨c,by simp,rfl,by simp at h1 h2 ⊢;omega⟩
theorem b1H(h:WI w):∃b,D3 b/\r8 w=(o9 w b).a5/\∀i,D3 i->(o9 w i).a5.length<=(r8 w).length:=by
 have hn:=b0O h;obtain ⟨n,n1,n2,n3⟩:=d4Y (o9 w 0) (o9 w 1) (o9 w 2) w.i0 w.f0 w.Told;rw [<-hn] at n1 n2 n3;obtain ⟨b,hb,rfl⟩:=a6E h n1;refine ⟨b,hb,n2,fun i hi => ?_⟩;have n2':r8 w=(o9 w b).a5:=n2;rw [n2'];refine n3 _ ?_;rw [hn];unfold D3 at hi;obtain rfl|rfl|rfl:i=0\/i=1\/i=2:=by omega
 all_goals simp
theorem d8s(h:WI w)(hp:PW w){i:Int}(hi:D3 i):(o9 w i).a5=(r8 w).take (o9 w i).a5.length:=by
 obtain ⟨b,hb,h1,h2⟩:=b1H h;have hl:=h2 i hi;apply List.ext_getElem?;intro s;by_cases hs:s<(o9 w i).a5.length
 ·rw [e0L,if_pos hs];obtain ⟨y,hy⟩:∃y,(r8 w)[s]?=some y:=⟨_,d9t (show s<(r8 w).length by omega)⟩
  rw [hy,d9t hs];rw [h1] at hy;exact congrArg some (c40 hp hi hb (d9t hs) hy)
 ·rw [d9U (by omega),d9U (by rw [d93];omega)]
theorem c2X(h:WI w)(hp:PW w){i:Int}(hi:D3 i):∃t,r8 w=(o9 w i).a5++t:=by
 refine ⟨(r8 w).drop (o9 w i).a5.length,?_⟩;conv=>rhs;lhs;rw [d8s h hp hi]
 rw [e0d]
theorem a8g(h:WI w):F5 (r8 w)=true:=by
 obtain ⟨b,hb,h1,_⟩:=b1H h;rw [h1];exact (a3N h hb).1.list
theorem d53(ht:TL w):b3a w.Told=true:=by
 unfold b3a;rw [List.all_eq_true];intro i hi;have hi:i<w.Told.length:=by simpa using hi
 rw [c4E hi,d9T,d95];intro s hs hq;obtain ⟨j,hj,rfl⟩:=e0g.1 hs;have hj:j<i:=by omega
 have he:w.Told[j].a0=w.Told[i].a0:=by
  have:D8 w.Told[j].a0=D8 w.Told[i].a0:=by simpa using hq
  rw [<-a5r];rw [d7V];simpa using this
 have:=d98.1 ht.tu j i (by rw [List.length_map];omega) (by rw [List.length_map];omega) hj;apply this;rw [e0W,e0W];exact he
theorem d3M(h:WI w)(hp:PW w)(ht:TL w):w.Told.all (a50 (r8 w))=true:=by
 rw [List.all_eq_true];intro t hm;obtain ⟨x1,x2,x3,x4,x5⟩:=ht.tn t hm;obtain ⟨tl,htl⟩:=c2X h hp x2;have hs:=x5.app (t:=tl) (by rw [<-htl];exact a8g h);rw [<-htl] at hs;obtain ⟨k,k1,k2,k3⟩:=hs;unfold a50;rw [k1];simp only [d9v,beq_iff_eq];refine ⟨k2.symm,?_⟩;rw [k3,k2];unfold P4;rw [k1];try rfl
theorem d8c(h:WI w)(hp:PW w)(ht:TL w):a9s w=some true:=by rw [c8z h.ok (a1T.2 h),d3M h hp ht]
theorem d7b(h:WI w)(ht:TL w):a82 w=some true:=by
 rw [d0K h.ok,d53 ht,a1T.2 h];rfl
theorem c2H(ht:TL w){a:D5}(ha:a∈w.f0):R7 w a.a0=(a.i5,true):=by
 unfold R7 b1q;have hex:∃b,w.f0.find? (fun x=>(([x.a0.b6,x.a0.Seq]:List Int)==[a.a0.b6,a.a0.Seq]))=some b:=by
  cases hf:w.f0.find? (fun x=>(([x.a0.b6,x.a0.Seq]:List Int)==[a.a0.b6,a.a0.Seq])) with
  | some b=>exact ⟨b,rfl⟩
  | none =>
   have:=List.find?_eq_none.1 hf a ha;simp at this
 obtain ⟨b,hb⟩:=hex;rw [hb];have hbm:=List.mem_of_find?_eq_some hb;have hbr:=List.find?_some hb;have hbr:=a5r.1 hbr;obtain ⟨i,hi,rfl⟩:=d9Y ha;obtain ⟨j,hj,rfl⟩:=d9Y hbm;have hij:i=j:=by
  rcases Nat.lt_trichotomy i j with q|q|q
  ·exact absurd (by rw [e0W,e0W];exact hbr.symm) (d98.1 ht.au i j (by rw [List.length_map];omega) (by rw [List.length_map];omega) q)
  ·exact q
  ·exact absurd (by rw [e0W,e0W];exact hbr) (d98.1 ht.au j i (by rw [List.length_map];omega) (by rw [List.length_map];omega) q)
 subst hij;rfl
theorem d5c(h:WI w)(hp:PW w):(w.a8.all fun a=>w.a8.all fun b=>beg a.a5 b.a5)=true:=by
 rw [List.all_eq_true];intro a ha;rw [List.all_eq_true];intro b hb;obtain ⟨i,hi,rfl⟩:=a6E h ha;obtain ⟨j,hj,rfl⟩:=a6E h hb;exact d3y.2 fun s h1 h2=>c40 hp hi hj (d9t h1) (d9t h2)
theorem c9k(h:WI w)(hp:PW w):a8f w=some true:=by
 rw [d8h h.ok,a1T.2 h,d5c h hp];rfl
theorem c7q(h:WI w)(hp:PW w):(w.a8.all fun a=>w.a8.all fun b=>(a.Acc.a9.zip b.Acc.a9).all fun p=>a0w p.1 p.2)=true:=by
 rw [List.all_eq_true];intro a ha;rw [List.all_eq_true];intro b hb;rw [List.all_eq_true];intro p hpm;obtain ⟨i,hi,rfl⟩:=a6E h ha;obtain ⟨j,hj,rfl⟩:=a6E h hb;obtain ⟨s,hs,rfl⟩:=d9Y hpm;obtain ⟨s1,s2,e⟩:=b29 hs;rw [e,d4Q];intro h0 he;obtain ⟨V,P,M,hx,_⟩:=hp;have hb1:(o9 w i).Acc.a9[s].a6>0:=by
  have:=((a3N h hi).1.vs _ (d9w s1)).1.bal;simp only at h0;omega
 have x1:=hx.cur i s _ hi (d9t s1) hb1;have x2:=hx.cur j s _ hj (d9t s2) (by simp only at he;omega);have p1:=(hx.vp _ _ _ _ x1).2.1;have p2:=(hx.vp _ _ _ _ x2).2.1;simp only at he;rw [he] at p1;exact hx.pu _ _ _ _ p1 p2
theorem d8n(h:WI w)(hp:PW w):a77 w=some true:=by
 rw [c8G h.ok,a1T.2 h,c7q h hp];rfl
theorem c8S(h:WI w)(hp:PW w):w.a8.all (a5I w)=true:=by
 rw [List.all_eq_true];intro n hn;obtain ⟨i,hi,rfl⟩:=a6E h hn;unfold a5I;rw [List.all_eq_true];intro k hk;have hk:k<(o9 w i).a5.length:=by simpa using hk
 rw [c4N hk];obtain ⟨V,P,M,hx,_⟩:=hp;have hc:=hx.still (hx.kn i k _ hi (d9t hk));generalize (o9 w i).a5[k]=e at hc;have key:∀q,(∃v,(o9 w q).Acc.a9[k]?=some v/\v.a6>0/\v.d7=e)->a4y e (M6 (o9 w q) k)=true:=by
  rintro q ⟨v,v1,v2,v3⟩
  unfold a4y M6;rw [v1];simp only [e0A,d9v,decide_eq_true_eq];exact ⟨v2,Z2 _ _ |>.2 v3⟩
 have hm:V6 w.a8 k e=(([o9 w 0,o9 w 1,o9 w 2].filter fun n=>a4y e (M6 n k)).length):=by
  unfold V6;rw [<-b0O h]
 obtain ⟨a,b,ha,hb,hab,va,vb⟩:=hc;have va:=key a va;have vb:=key b vb;rw [hm,d9T,decide_eq_false_iff_not];unfold D3 at ha hb;obtain rfl|rfl|rfl:a=0\/a=1\/a=2:=by omega
 all_goals obtain rfl|rfl|rfl:b=0\/b=1\/b=2:=by omega
 all_goals first|(exact absurd rfl hab)|skip
 all_goals simp only [List.filter_cons,va,vb,if_true,List.filter_nil]
 all_goals split
 all_goals simp
theorem d7S(h:WI w)(hp:PW w):a8p w=some true:=by
 rw [d6l h.ok,a1T.2 h,c8S h hp];rfl
theorem c7R(h:WI w)(hp:PW w):((d9C w.a8.length).all (a6g w))=true:=by
 rw [List.all_eq_true];intro i hi;have hi:i<w.a8.length:=by simpa using hi
 obtain ⟨e,hi3⟩:=c4O h hi;have hD:D3 (i:Int):=by unfold D3;omega
 obtain ⟨hni,hid⟩:=a3N h hD;unfold a6g;rw [d9t hi,e];simp only [d9v];constructor
 ·unfold b0e;cases hph:(o9 w (i:Int)).b5 != 3;case true=>rfl
  simp only [bne_eq_false_iff_eq] at hph;obtain ⟨V,P,M,hx,_⟩:=hp;obtain ⟨l1,l2,l3,l4⟩:=(hx.ld (i:Int) hD).l3 hph;have hm:(o9 w (i:Int)).a9[(o9 w (i:Int)).Id.toNat]?=some true:=by
   rcases hni.ld with q|q|q|q
   ·omega
   ·omega
   ·omega
   ·exact q.2.2.2.2.2.1
  rw [hid] at hm;have v1:=l4 (i:Int) hD hm;obtain ⟨v,y1,y2⟩:=hx.max _ _ _ _ v1;have hb:=(hx.vp _ _ _ _ v1).2.2.1;have v2:=hx.cur (i:Int) _ v hD y1 (by omega);unfold M6;rw [y1];simp only [e0A,cond_false,d9v,Bool.or_eq_true,decide_eq_true_eq];refine ⟨y2,?_⟩;rcases Int.lt_or_le (o9 w (i:Int)).a6 v.a6 with q|q
  ·exact .inl q
  ·right
   refine (Z2 _ _).2 (hx.pu _ _ _ _ ?_ l1);have:=(hx.vp _ _ _ _ v2).2.1;rwa [show v.a6=(o9 w (i:Int)).a6 by omega] at this
 ·rw [List.all_eq_true];intro m hm;obtain ⟨j,hj,rfl⟩:=e0g.1 hm;have hji:j<i:=by omega
  obtain ⟨e2,hj3⟩:=c4O h (show j<w.a8.length by omega);have hDj:D3 (j:Int):=by unfold D3;omega
  obtain ⟨hnj,hidj⟩:=a3N h hDj;rw [e2,b7e];rintro ⟨b1,b2⟩
  have own:∀{n:j5},NI n->0<n.a6->Z1 n:=fun hn hb=>by
   refine hn.ld.own fun q => ?_
   rcases hn.ld with y|y|y|y
   ·omega
   all_goals exact absurd (y.1.symm.trans q) (by decide)
  have o1:=(own hni b1).mod;have o2:=(own hnj (by omega)).mod;rw [b2,o2,hid,hidj] at o1;omega
theorem c6t(h:WI w)(hp:PW w):a7w w=some true:=by
 rw [d1W h.ok,a1T.2 h,d1l (a1T.2 h),c7R h hp];rfl
end
theorem c3P(l:List m5)(i:m7)(regs:List Int)(rs:List p9)(ps:List n6):∀r∈rs,r∈(C7 l i regs rs ps).2.1:=by
 intro r hr;unfold C7;cases i.a7==1
 ·cases i.a7==2
  ·cases i.a7==3
   ·cases i.a7==4
    ·cases i.a7==5<;>exact hr
    ·exact hr
   ·exact hr
  ·exact hr
 ·simp only [cond_true];cases U2 ps i.B with
  | some k =>
   simp only;cases ps[k]?<;>exact hr
  | none =>
   simp only;cases l[i.B.toNat]? with
   | none=>exact hr
   | some b =>
    simp only;cases G9 rs i.B
    ·exact e0F _ hr
    ·exact hr
theorem b5W(l:List m5)(prog:List m7):∀(f k:Nat) (regs:List Int) (rs:List p9) (ps:List n6),∀r∈rs,r∈(O6 l prog f k regs rs ps).b9
 | 0,_,_,_,_,r,hr=>hr
 | f+1,k,regs,rs,ps,r,hr=>by
  unfold O6;cases prog[k]? with
  | none=>exact hr
  | some i =>
   simp only;cases i.a7==6
   ·cases i.a7==7
    ·cases (C7 l i regs rs ps).1.all H7
     ·exact c3P l i regs rs ps r hr
     ·exact b5W l prog f _ _ _ _ r (c3P l i regs rs ps r hr)
    ·exact hr
   ·exact b5W l prog f _ _ _ _ r hr
def AtB(l l':List m5)(rs:List p9):Prop := ∀r∈rs,l[r.g8.toNat]?=l'[r.g8.toNat]?
theorem d6J{rs:List p9}{b:Int}(h:G9 rs b=true):∃r∈rs,r.g8=b:=by
 unfold G9 at h;obtain ⟨r,h1,h2⟩:=e0I.1 h;exact ⟨r,h1,by simpa using h2⟩
theorem d3W{l l':List m5}(hl:l.length=l'.length)(i:m7)(regs:List Int)(rs:List p9)(ps:List n6)(h:AtB l l' (C7 l i regs rs ps).2.1):C7 l' i regs rs ps=C7 l i regs rs ps:=by
 unfold C7 at h ⊢;cases hk:i.a7==1
 ·rfl
 ·rw [hk] at h;simp only [cond_true] at h ⊢;cases hp:U2 ps i.B with
  | some k=>rfl
  | none =>
   rw [hp] at h;simp only at h ⊢;cases hb:l[i.B.toNat]? with
   | none =>
    have:l'.length<=i.B.toNat:=by rw [<-hl];exact List.getElem?_eq_none_iff.1 hb
    rw [d9U this]
   | some b =>
    rw [hb] at h;simp only at h;have hin:∃r∈(bif G9 rs i.B then rs else rs++[⟨i.B,b.i7⟩]),r.g8=i.B:=by
     cases hs:G9 rs i.B
     ·exact ⟨⟨i.B,b.i7⟩,by simp,rfl⟩
     ·exact d6J hs
    obtain ⟨r,r1,r2⟩:=hin;have:=h r r1;rw [r2,hb] at this;rw [<-this]
theorem b4v{l l':List m5}(hl:l.length=l'.length)(prog:List m7):∀(f k:Nat) (regs:List Int) (rs:List p9) (ps:List n6),AtB l l' (O6 l prog f k regs rs ps).b9->O6 l' prog f k regs rs ps=O6 l prog f k regs rs ps
 | 0,_,_,_,_,_=>rfl
 | f+1,k,regs,rs,ps,h=>by
  unfold O6 at h ⊢;cases hp:prog[k]? with
  | none=>rfl
  | some i =>
   rw [hp] at h;simp only at h ⊢;cases h6:i.a7==6
   ·rw [h6] at h;cases h7:i.a7==7
    ·rw [h7] at h;simp only [cond_false] at h ⊢;have hE:C7 l' i regs rs ps=C7 l i regs rs ps:=d3W hl i regs rs ps fun r hr=>h r (by
      cases (C7 l i regs rs ps).1.all H7
      ·exact hr
      ·exact b5W l prog f _ _ _ _ r hr)
     rw [hE];cases ha:(C7 l i regs rs ps).1.all H7
     ·rfl
     ·rw [ha] at h;exact b4v hl prog f _ _ _ _ h
    ·rfl
   ·rw [h6] at h;simp only [cond_true] at h ⊢;exact b4v hl prog f _ _ _ _ h
theorem d7d{l l':List m5}(h1:B7 l=true)(h2:B7 l'=true){p:List m7}(h:AtB l l' (B2 l p).b9):B2 l' p=B2 l p:=by
 unfold B2 at h ⊢;rw [h1] at h;rw [h1,h2];cases hp:C3 p
 ·rfl
 ·rw [hp] at h;exact b4v ((a43 h1).trans (a43 h2).symm) p _ _ _ _ _ h
def a7u(l:List m5)(rs:List p9):Prop := ∀r∈rs,∃b,l[r.g8.toNat]?=some b/\b.i7=r.i7
theorem b8z{l:List m5}(i:m7)(regs:List Int)(rs:List p9)(ps:List n6)(h:a7u l rs):a7u l (C7 l i regs rs ps).2.1:=by
 unfold C7;cases i.a7==1
 ·cases i.a7==2
  ·cases i.a7==3
   ·cases i.a7==4
    ·cases i.a7==5<;>exact h
    ·exact h
   ·exact h
  ·exact h
 ·simp only [cond_true];cases U2 ps i.B with
  | some k =>
   simp only;cases ps[k]?<;>exact h
  | none =>
   simp only;cases hb:l[i.B.toNat]? with
   | none=>exact h
   | some b =>
    simp only;cases G9 rs i.B
    ·intro r hr;rcases List.mem_append.1 hr with q|q
     ·exact h r q
     ·rw [d9y.1 q];exact ⟨b,hb,rfl⟩
    ·exact h
theorem b3M(l:List m5)(prog:List m7):∀(f k:Nat) (regs:List Int) (rs:List p9) (ps:List n6),a7u l rs->a7u l (O6 l prog f k regs rs ps).b9
 | 0,_,_,_,_,h=>h
 | f+1,k,regs,rs,ps,h=>by
  unfold O6;cases prog[k]? with
  | none=>exact h
  | some i =>
   simp only;cases i.a7==6
   ·cases i.a7==7
    ·cases (C7 l i regs rs ps).1.all H7
     ·exact b8z i regs rs ps h
     ·exact b3M l prog f _ _ _ _ (b8z i regs rs ps h)
    ·exact h
   ·exact b3M l prog f _ _ _ _ h
theorem d2W(l:List m5)(p:List m7):a7u l (B2 l p).b9:=by
 unfold B2;cases B7 l&&C3 p
 ·intro r hr;cases hr
 ·exact b3M l p _ _ _ _ _ fun r hr=>by cases hr
theorem b4K{l:List j8}(hl:l.length<=40)(he:l.all t9=true){k:Nat}(hk:k<=l.length):B7 (m9 (l.take k)).1.d8=true:=(O9 hl he k hk).1.boxes
theorem c64{l:List j8}(hl:l.length<=40)(he:l.all t9=true){j k:Nat}(hjk:j<=k)(hk:k<=l.length){b:Int}(hb:0<=b/\b<=3){x y:m5}(hx:(m9 (l.take j)).1.d8[b.toNat]?=some x)(hy:(m9 (l.take k)).1.d8[b.toNat]?=some y)(hv:x.i7=y.i7):x=y:=by
 by_cases hall:∀i,j<=i->i<k->a3c l (m9 l).2 b i=false
 ·have:=c01 hl he hb.1 k hjk hk hall;rw [hx,hy] at this;injection this with this;exact this.symm
 ·exfalso
  apply hall;intro i h1 h2;cases hp:a3c l (m9 l).2 b i
  ·rfl
  ·obtain ⟨_,hq⟩:=b98 hl he (show i<l.length by omega) hp;obtain ⟨z,z1,z2,z3⟩:=b5J hl he hb i (by omega);obtain ⟨v,hv1⟩:=hq z z1;have m1:=(c1E hl he h1 (show i<=l.length by omega)).2 b.toNat x z hx z1;have m2:=(c1E hl he (show i+1<=k by omega) hk).2 b.toNat _ y hv1 hy;simp only at m2;split at m2<;>omega
theorem c2c{s:t7}{e:j8}(h:(apply s e).2=0):e.i6=false/\a0D s.d8 e.c7=true/\e.c7.Code=0/\(apply s e).1.d8=Y9 s.d8 e.c7.c6:=by
 have hf:(J8 s e).2=0->a0D s.d8 e.c7=true/\e.c7.Code=0/\(J8 s e).1.d8=Y9 s.d8 e.c7.c6:=by
  unfold J8;cases a0D s.d8 e.c7
  ·intro h;exact absurd h (by simp)
  ·cases hc:e.c7.Code==0
   ·intro h;exact absurd h (by simp)
   ·intro _;exact ⟨rfl,by simpa using hc,rfl⟩
 unfold apply at h ⊢;cases hn:e.i6
 ·rw [hn] at h;simp only [cond_false] at h ⊢;refine ⟨trivial,?_⟩;cases hd:s.i4.find? (fun d=>d.a0.b6==e.a0.b6) with
  | none=>rw [hd] at h;exact hf h
  | some d =>
   rw [hd] at h;simp only at h ⊢;cases h1:d.a0.Seq==e.a0.Seq
   ·rw [h1] at h;cases h2:decide (d.a0.Seq>e.a0.Seq)
    ·rw [h2] at h;exact hf h
    ·rw [h2] at h;exact absurd h (by simp)
   ·rw [h1] at h;exact absurd h (by simp)
 ·rw [hn] at h;exact absurd h (by simp)
theorem b9o:∀(ps:List (List m7)) (p:List m7) (b:List m5) (vs:List Int) {b':List m5} {vs':List Int},a1u ps b vs=(b',vs')->B7 b'=true->a1u (ps++[p]) b vs=bif (I2 b' p).2.2==3 then ([],[]) else ((I2 b' p).1,vs'++[(I2 b' p).2.1])
 | [],p,b,vs,b',vs',h,hb=>by
  have h:(b,vs)=(b',vs'):=h;injection h with h1 h2;subst h1;subst h2;rfl
 | q::ps,p,b,vs,b',vs',h,hb=>by
  unfold a1u at h;rw [e0V];unfold a1u;cases hq:(I2 b q).2.2==3
  ·rw [hq] at h;exact b9o ps p _ _ h hb
  ·rw [hq] at h;have h:(([],[]):List m5×List Int)=(b',vs'):=h;injection h with h1 h2;rw [<-h1] at hb;exact absurd hb (by decide)
end
end Go.Proofs.YtallgikdooekeaaGreat
