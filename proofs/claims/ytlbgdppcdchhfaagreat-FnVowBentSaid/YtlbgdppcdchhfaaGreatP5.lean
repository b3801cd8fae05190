/- Abstract values and states of the program, functions of the program and what their calls come to, and what follows from it: part 5 of the text that the law leans on; long names are written short. -/
import Derived.Test.YtlbgdppcdchhfaaGreatP4
import Derived.IntWalk
set_option linter.unusedVariables false
set_option linter.unusedSimpArgs false
set_option linter.unnecessarySimpa false
namespace Go.Proofs.YtlbgdppcdchhfaaGreat
open Go
theorem f2m {w:l7} (r:Bool) (h:b6w w=some r):o7 cx.P 14 [.agg (T8 w)] (a5c.R r) (a5c.O r) :=
 q8 a5c.X a5c.c a5c.h (fun z=>p7<|m3 K1 d1A 1 h fun a2p h=>i9 2 h (fun h=>m3 E4 d83 4 h fun a19 h=>i9 6 h (fun h=>m3 K2 d7V 8 h fun a2k h=>i9 10 h (fun h=>m3 G8 d6E 12 h fun a2f h=>i9 14 h (fun h=>m3 Y1 e8C 16 h fun a4D h=>i9 18 h (fun h=>m3 N7 f2H 20 h fun b2E h=>i9 22 h (fun h=>m3 L7 e0X 24 h fun b3C h=>fe z h) (fun h=>fe z h)) (fun h=>fe z h)) (fun h=>fe z h)) (fun h=>fe z h)) (fun h=>fe z h)) (fun h=>fe z h))
noncomputable def b3p:FS (Bool):=⟨3,Tryz.f3,[.val [] []],[none],[.val [some 1] []],fun r=>.b r,fun _=>[none],Tryz.func3⟩
noncomputable def c7j (N8:List Int):Option Bool :=
 (bif decide ((N8.length:Int)>1048576) then some true else ((c02 N8).bind fun z6=>((a8J z6).bind fun a2p=>((a9n z6).bind fun a19=>((b1g z6).bind fun a2k=>((a9v z6).bind fun a2f=>((a8Z z6).bind fun a66=>(bif (!(a2p==a66)) then some false else ((a9d z6).bind fun a7O=>(bif (!(a19==a7O)) then some false else ((b1B z6).bind fun a7i=>(bif (!(a2k==a7i)) then some false else ((a8F z6).bind fun a6S=>(bif (!(a2f==a6S)) then some false else ((b4I z6).bind fun a6F=>((b6w z6).bind fun a6B=>(bif (!(a6F==a6B)) then some false else ((b4I z6).bind fun a6R=>(bif (!a6R) then some true else (bif a2p then (bif a19 then (bif a2k then some a2f else some false) else some false) else some false))))))))))))))))))))
set_option maxRecDepth 20000 in
theorem e5x {N8:List Int} (r:Bool) (h:c7j N8=some r):o7 cx.P 3 [j9 1 N4 N8] (b3p.R r) (b3p.O r) :=
 q8 b3p.X b3p.c b3p.h (fun z=>p7<|i9 2 h (fun h=>rg<|fe z h) (fun h=>rg<|m3 b0E f0B 1 h fun z6 h=>rg<|C6 h fun a2p e39 h=>om (o7 cx.P 5 [.agg [.sl 27 z6.Nodes.length (U8 (z6.Nodes.map t5)),j9 13 z5 z6.Net,j9 3 E5 z6.Asked,j9 5 B9 z6.Told]] (F9.R a2p) (F9.O a2p)) (by simp only [a12 a2c]; exact (d91 a2p e39))<|om (C7 (F9.R a2p)∧F7 (F9.O a2p)) ⟨rfl,G4 1⟩<|q9 z6.Nodes z6.Net z6.Asked z6.Told<|tl (F9.t 1 true a2p)<|rg<|C6 h fun a19 e88 h=>om (o7 cx.P 6 [.agg [.sl 27 z6.Nodes.length (U8 (z6.Nodes.map t5)),j9 13 z5 z6.Net,j9 3 E5 z6.Asked,j9 5 B9 z6.Told]] (E3.R a19) (E3.O a19)) (by simp only [a12 a2c]; exact (d1R a19 e88))<|om (C7 (E3.R a19)∧F7 (E3.O a19)) ⟨rfl,G4 1⟩<|q9 z6.Nodes z6.Net z6.Asked z6.Told<|tl (E3.t 1 true a19)<|rg<|C6 h fun a2k f3u h=>om (o7 cx.P 7 [.agg [.sl 27 z6.Nodes.length (U8 (z6.Nodes.map t5)),j9 13 z5 z6.Net,j9 3 E5 z6.Asked,j9 5 B9 z6.Told]] (J9.R a2k) (J9.O a2k)) (by simp only [a12 a2c]; exact (d2o a2k f3u))<|om (C7 (J9.R a2k)∧F7 (J9.O a2k)) ⟨rfl,G4 1⟩<|q9 z6.Nodes z6.Net z6.Asked z6.Told<|tl (J9.t 1 true a2k)<|rg<|C6 h fun a2f f4Q h=>om (o7 cx.P 8 [.agg [.sl 27 z6.Nodes.length (U8 (z6.Nodes.map t5)),j9 13 z5 z6.Net,j9 3 E5 z6.Asked,j9 5 B9 z6.Told]] (E6.R a2f) (E6.O a2f)) (by simp only [a12 a2c]; exact (d1V a2f f4Q))<|om (C7 (E6.R a2f)∧F7 (E6.O a2f)) ⟨rfl,G4 1⟩<|q9 z6.Nodes z6.Net z6.Asked z6.Told<|tl (E6.t 1 true a2f)<|rg<|C6 h fun a66 e7C h=>om (o7 cx.P 9 [.agg [.sl 27 z6.Nodes.length (U8 (z6.Nodes.map t5)),j9 13 z5 z6.Net,j9 3 E5 z6.Asked,j9 5 B9 z6.Told]] (K1.R a66) (K1.O a66)) (by simp only [a12 a2c]; exact (d1A a66 e7C))<|om (C7 (K1.R a66)∧F7 (K1.O a66)) ⟨rfl,G4 1⟩<|q9 z6.Nodes z6.Net z6.Asked z6.Told<|tl (K1.t 2 true a66)<|i9 4 h (fun h=>rg<|fe z h) (fun h=>C6 h fun a7O e6V h=>om (o7 cx.P 10 [.agg [.sl 27 z6.Nodes.length (U8 (z6.Nodes.map t5)),j9 13 z5 z6.Net,j9 3 E5 z6.Asked,j9 5 B9 z6.Told]] (E4.R a7O) (E4.O a7O)) (by simp only [a12 a2c]; exact (d83 a7O e6V))<|om (C7 (E4.R a7O)∧F7 (E4.O a7O)) ⟨rfl,G4 1⟩<|q9 z6.Nodes z6.Net z6.Asked z6.Told<|tl (E4.t 7 true a7O)<|i9 10 h (fun h=>rg<|fe z h) (fun h=>C6 h fun a7i f0d h=>om (o7 cx.P 11 [.agg [.sl 27 z6.Nodes.length (U8 (z6.Nodes.map t5)),j9 13 z5 z6.Net,j9 3 E5 z6.Asked,j9 5 B9 z6.Told]] (K2.R a7i) (K2.O a7i)) (by simp only [a12 a2c]; exact (d7V a7i f0d))<|om (C7 (K2.R a7i)∧F7 (K2.O a7i)) ⟨rfl,G4 1⟩<|q9 z6.Nodes z6.Net z6.Asked z6.Told<|tl (K2.t 13 true a7i)<|i9 16 h (fun h=>rg<|fe z h) (fun h=>C6 h fun a6S f3c h=>om (o7 cx.P 12 [.agg [.sl 27 z6.Nodes.length (U8 (z6.Nodes.map t5)),j9 13 z5 z6.Net,j9 3 E5 z6.Asked,j9 5 B9 z6.Told]] (G8.R a6S) (G8.O a6S)) (by simp only [a12 a2c]; exact (d6E a6S f3c))<|om (C7 (G8.R a6S)∧F7 (G8.O a6S)) ⟨rfl,G4 1⟩<|q9 z6.Nodes z6.Net z6.Asked z6.Told<|tl (G8.t 19 true a6S)<|i9 22 h (fun h=>rg<|fe z h) (fun h=>C6 h fun a6F e1m h=>om (o7 cx.P 13 [.agg [.sl 27 z6.Nodes.length (U8 (z6.Nodes.map t5)),j9 13 z5 z6.Net,j9 3 E5 z6.Asked,j9 5 B9 z6.Told]] (a2r.R a6F) (a2r.O a6F)) (by simp only [a12 a2c]; exact (d6B a6F e1m))<|om (C7 (a2r.R a6F)∧F7 (a2r.O a6F)) ⟨rfl,G4 1⟩<|q9 z6.Nodes z6.Net z6.Asked z6.Told<|tl (a2r.t 24 true a6F)<|C6 h fun a6B f1f h=>om (o7 cx.P 14 [.agg [.sl 27 z6.Nodes.length (U8 (z6.Nodes.map t5)),j9 13 z5 z6.Net,j9 3 E5 z6.Asked,j9 5 B9 z6.Told]] (a5c.R a6B) (a5c.O a6B)) (by simp only [a12 a2c]; exact (f2m a6B f1f))<|om (C7 (a5c.R a6B)∧F7 (a5c.O a6B)) ⟨rfl,G4 1⟩<|q9 z6.Nodes z6.Net z6.Asked z6.Told<|tl (a5c.t 26 true a6B)<|i9 28 h (fun h=>rg<|fe z h) (fun h=>rg<|C6 h fun a6R e6Q h=>om (o7 cx.P 13 [.agg [.sl 27 z6.Nodes.length (U8 (z6.Nodes.map t5)),j9 13 z5 z6.Net,j9 3 E5 z6.Asked,j9 5 B9 z6.Told]] (a2r.R a6R) (a2r.O a6R)) (by simp only [a12 a2c]; exact (d6B a6R e6Q))<|om (C7 (a2r.R a6R)∧F7 (a2r.O a6R)) ⟨rfl,G4 1⟩<|q9 z6.Nodes z6.Net z6.Asked z6.Told<|tl (a2r.t 1 true a6R)<|i9 3 h (fun h=>fe z h) (fun h=>i9 5 h (fun h=>i9 8 h (fun h=>i9 11 h (fun h=>fe z h) (fun h=>fe z h)) (fun h=>fe z h)) (fun h=>fe z h)))))))))
theorem f3F:b0T Tryz.prog 5 N4 a6v:=e3r Tryz.underlying5
theorem e2j:b0T Tryz.prog 22 (fun l:List Int=>[j9 1 N4 l]) (C3 1 a6v):=e3Q Tryz.underlying22 f3F (by kernel_rfl) (by decide) (by kernel_rfl) (fun _=>rfl)
theorem E7 {n:Int} (h1 : -9223372036854775808≤n) (h2:n≤9223372036854775807):m9 n=n:=IntWalk.i64_in n ⟨h1,h2⟩
def s9 {α:Type} (l:List α):Prop:=l.length≤140737488351232
theorem J0 {α:Type} {l:List α} (hl:s9 l) {k:Nat} (h:k<l.length):m9 ((k:Int)+1)=((k+1:Nat):Int):=by
 unfold s9 at hl
 rw [E7 (by omega) (by omega)]
 omega
section
variable {R S B:Type} {body:S→Option (j3 R S B)}
theorem O5 {s t:S} (h:body s=some (.nxt t)):o9 body s=o9 body t:=by rw [c7h,h]
theorem H3 {s:S} {b:B} (h:body s=some (.brk b)):o9 body s=some (.brk b):=by rw [c7h,h]
theorem a2J {s:S} {r:R} (h:body s=some (.ret r)):o9 body s=some (.ret r):=by rw [c7h,h]
theorem a05 (st:Nat→S) (n:Nat) (h : ∀ k,k<n→body (st k)=some (.nxt (st (k+1)))):o9 body (st 0)=o9 body (st n):=by
 induction n with
 | zero=>rfl
 | succ n ih =>
  rw [ih fun k hk=>h k (by omega)]
  exact O5 (h n (by omega))
theorem a4R (st:Nat→S) (n:Nat) (ok:Nat→Bool) (r:Nat→R) (b:B)
  (h1 : ∀ k,k<n→(∀ j,j<k→ok j=true)→body (st k)=some (bif ok k then .nxt (st (k+1)) else .ret (r k)))
  (h2:(∀ j,j<n→ok j=true)→body (st n)=some (.brk b)) :
  (o9 body (st 0)=some (.brk b) ∧ ∀ j,j<n→ok j=true) ∨ ∃ k,k<n∧ok k=false∧(∀ j,j<k→ok j=true)∧o9 body (st 0)=some (.ret (r k)):=by
 by_cases hall : ∀ j,j<n→ok j=true
 ·left
  refine ⟨?_,hall⟩
  rw [a05 st n fun k hk => ?_]
  ·exact H3 (h2 hall)
  ·rw [h1 k hk fun j hj=>hall j (by omega),hall k hk]; rfl
 ·right
  have hex : ∃ k,k<n∧ok k=false:=by
   apply Classical.byContradiction
   intro hn
   apply hall
   intro j hj
   cases hj':ok j with
   | true=>rfl
   | false=>exact absurd ⟨j,hj,hj'⟩ hn
  obtain ⟨k,hk,ho,hb⟩ : ∃ k,k<n∧ok k=false ∧ ∀ j,j<k→ok j=true:=by
   obtain ⟨k,hk,ho⟩:=hex
   induction k using Nat.strongRecOn with
   | _ k ih =>
    by_cases hb : ∀ j,j<k→ok j=true
    ·exact ⟨k,hk,ho,hb⟩
    ·have : ∃ j,j<k∧ok j=false:=by
      apply Classical.byContradiction
      intro hn
      apply hb
      intro j hj
      cases hj':ok j with
      | true=>rfl
      | false=>exact absurd ⟨j,hj,hj'⟩ hn
     obtain ⟨j,hj,hjo⟩:=this
     exact ih j hj (by omega) hjo
  refine ⟨k,hk,ho,hb,?_⟩
  rw [a05 st k fun j hj => ?_]
  ·refine a2J ?_
   rw [h1 k hk hb,ho]
   rfl
  ·rw [h1 j (by omega) fun i hi=>hb i (by omega),hb j hj]; rfl
end
theorem b6Y {R S B:Type} {body:S→Option (j3 R S B)} (I:Nat→S→Prop) (Q:j8 R B→Prop)
  (h : ∀ k s,I k s → ∃ st,body s=some st∧match st with | .ret r=>Q (.ret r) | .brk b=>Q (.brk b) | .nxt t => ∃ k',k'<k∧I k' t) : ∀ {k s},I k s → ∃ x,o9 body s=some x∧Q x:=by
 intro k
 induction k using Nat.strongRecOn with
 | _ k ih =>
  intro s hs
  obtain ⟨st,hb,hq⟩:=h k s hs
  cases st with
  | ret r=>exact ⟨_,a2J hb,hq⟩
  | brk b=>exact ⟨_,H3 hb,hq⟩
  | nxt t =>
   obtain ⟨k',hk,ht⟩:=hq
   obtain ⟨x,hx,hq⟩:=ih k' hk ht
   exact ⟨x,by rw [O5 hb]; exact hx,hq⟩
theorem x5 {β:Type} {p:Prop} [Decidable p] (h:p) (k:Option β):u5 p k=k:=if_pos h
theorem b8I {α:Type} (l:List α) (k:Nat):idx l (k:Int)=l[k]?:=by
 unfold idx
 rw [if_pos (by omega)]
 rfl
theorem t8 {α:Type} {l:List α} {k:Nat} (h:k<l.length):idx l (k:Int)=some l[k]:=by
 rw [b8I,List.getElem?_eq_getElem h]
theorem x6 {α:Type} (l:List α) (k:Nat) (h:k<l.length):decide ((k:Int)<(l.length:Int))=true:=by simpa using h
theorem A4 {α:Type} (l:List α):decide ((l.length:Int)<(l.length:Int))=false:=by simp
theorem M0 {α B:Type} {body:Int→Option (j3 Bool Int B)} (l:List α) (hl:s9 l) (ok:α→Bool) (v:Bool) (b:B)
  (h1 : ∀ (k:Nat) (h:k<l.length),body (k:Int)=some (bif ok l[k] then .nxt (m9 ((k:Int)+1)) else .ret v))
  (h2:body (l.length:Int)=some (.brk b)):o9 body 0=some (bif l.all ok then .brk b else .ret v):=by
 have h:=a4R (body:=body) (fun k=>(k:Int)) l.length (fun k=>match l[k]? with | some x=>ok x | none=>true) (fun _=>v) b
  (fun k hk _=>by
   have:=h1 k hk
   rw [J0 hl hk] at this
   simpa [List.getElem?_eq_getElem hk] using this) (fun _=>h2)
 rcases h with ⟨h,hall⟩ | ⟨k,hk,ho,_,h⟩
 ·have:l.all ok=true:=by
   rw [List.all_eq_true]
   intro x hx
   obtain ⟨i,hi,rfl⟩:=List.getElem_of_mem hx
   have:=hall i hi
   simpa [List.getElem?_eq_getElem hi] using this
  rw [this]; exact h
 ·have:l.all ok=false:=by
   rw [List.all_eq_false]
   refine ⟨l[k],List.getElem_mem hk,?_⟩
   simpa [List.getElem?_eq_getElem hk] using ho
  rw [this]; exact h
theorem a0R {α B:Type} {body:Int→Option (j3 Bool Int B)} (l:List α) (hl:s9 l) (ok:Nat→Bool) (v:Bool) (b:B)
  (h1 : ∀ (k:Nat) (h:k<l.length),(∀ j,j<k→ok j=true)→body (k:Int)=some (bif ok k then .nxt (m9 ((k:Int)+1)) else .ret v))
  (h2:body (l.length:Int)=some (.brk b)):o9 body 0=some (bif (List.range l.length).all ok then .brk b else .ret v):=by
 have h:=a4R (body:=body) (fun k=>(k:Int)) l.length ok (fun _=>v) b
  (fun k hk hb=>by
   have:=h1 k hk hb
   rw [J0 hl hk] at this
   exact this) (fun _=>h2)
 rcases h with ⟨h,hall⟩ | ⟨k,hk,ho,_,h⟩
 ·have:(List.range l.length).all ok=true:=by
   rw [List.all_eq_true]
   intro x hx
   exact hall x (by simpa using hx)
  rw [this]; exact h
 ·have:(List.range l.length).all ok=false:=by
   rw [List.all_eq_false]
   exact ⟨k,by simpa using hk,by simp [ho]⟩
  rw [this]; exact h
theorem b5m {α R B:Type} {body:Int→Option (j3 R Int B)} (l:List α) (hl:s9 l) (is:α→Bool) (f:α→R) (b:B)
  (h1 : ∀ (k:Nat) (h:k<l.length),body (k:Int)=some (bif is l[k] then .ret (f l[k]) else .nxt (m9 ((k:Int)+1))))
  (h2:body (l.length:Int)=some (.brk b)):o9 body 0=some (match l.find? is with | some x=>.ret (f x) | none=>.brk b):=by
 have key : ∀ (m k:Nat),k+m=l.length→o9 body (k:Int)=some (match (l.drop k).find? is with | some x=>.ret (f x) | none=>.brk b):=by
  intro m
  induction m with
  | zero =>
   intro k hk
   have:k=l.length:=by omega
   subst this
   rw [List.drop_length]
   exact H3 h2
  | succ m ih =>
   intro k hk
   have hlt:k<l.length:=by omega
   have hb:=h1 k hlt
   rw [List.drop_eq_getElem_cons hlt,List.find?_cons]
   cases hq:is l[k] with
   | true =>
    rw [hq] at hb
    exact a2J hb
   | false =>
    rw [hq] at hb
    rw [O5 hb,J0 hl hlt]
    exact ih (k+1) (by omega)
 have:=key l.length 0 (by omega)
 simpa using this
theorem d48 {α S R B:Type} {body:S×Int→Option (j3 R (S×Int) B)} (l:List α) (hl:s9 l) (g:S→α→S) (s0:S) (b:S→B)
  (h1 : ∀ (k:Nat) (h:k<l.length),body ((l.take k).foldl g s0,(k:Int))=some (.nxt (g ((l.take k).foldl g s0) l[k],m9 ((k:Int)+1))))
  (h2:body (l.foldl g s0,(l.length:Int))=some (.brk (b (l.foldl g s0)))):o9 body (s0,0)=some (.brk (b (l.foldl g s0))):=by
 have h:=a05 (body:=body) (fun k=>((l.take k).foldl g s0,(k:Int))) l.length (fun k hk=>by
  rw [h1 k hk,J0 hl hk,List.take_succ_eq_append_getElem hk,List.foldl_append]
  rfl)
 simp only [List.take_zero,List.foldl_nil,List.take_length] at h
 rw [show ((0:Nat):Int)=0 from rfl] at h
 rw [h]
 exact H3 h2
def c1k (x:n5):Prop:=K6 x.c8∧K6 x.Seq
def d38 (x:n7):Prop:=K6 x.f0∧K6 x.i7
def d6m (x:n3):Prop:=K6 x.f0∧K6 x.d6
def b6R (x:m8):Prop:=(C3 16 d38) x.a8∧(C3 16 d6m) x.a9∧K6 x.d6∧K6 x.Code
def G6 (x:l8):Prop:=c1k x.a5∧b6R x.b6
def a0l (x:m6):Prop:=K6 x.a7∧G6 x.g9
def c3C (x:A0):Prop:=K6 x.d9∧(C3 96 a0l) x.a0
def b5k (x:m7):Prop:=K6 x.c9∧K6 x.A∧K6 x.B∧K6 x.N
def P1 (x:j4):Prop:=K6 x.Id∧c3C x.Acc∧(C3 88 G6) x.a6∧K6 x.Seq∧K6 x.d7∧K6 x.a7∧(C3 1 okT) x.b5∧(C3 96 a0l) x.i4∧G6 x.b9∧(C3 1 okT) x.a0∧(C3 32 b5k) x.g7∧G6 x.b8∧(C3 88 G6) x.b7
def a3K (x:l9):Prop:=K6 x.c9∧K6 x.b5∧K6 x.To∧K6 x.a7∧K6 x.i5∧G6 x.g9∧(C3 96 a0l) x.a0
def d0n (x:t7):Prop:=c1k x.a5∧(C3 32 b5k) x.g7
def c9X (x:n4):Prop:=K6 x.Node∧c1k x.a5∧K6 x.Code∧K6 x.d6
def K0 (x:l7):Prop:=(C3 392 P1) x.Nodes∧(C3 152 a3K) x.Net∧(C3 40 d0n) x.Asked∧(C3 40 c9X) x.Told
theorem C3.fits {α:Type} {bytes:Nat} {ok:α→Prop} {l:List α} (h:C3 bytes ok l) (hb:0<bytes):s9 l:=by
 obtain ⟨h,_⟩:=h
 unfold s9
 have:l.length * 1≤l.length * bytes:=Nat.mul_le_mul_left _ hb
 omega
def a3k (x:m8):Prop:=C3 16 okT x.a8∧C3 16 okT x.a9∧True
def a2R (x:l8):Prop:=True∧a3k x.b6
theorem C3.imp {α:Type} {bytes:Nat} {ok ok':α→Prop} {l:List α} (h:C3 bytes ok l) (hi : ∀ x,ok x→ok' x):C3 bytes ok' l:=⟨h.1,fun x hx=>hi x (h.2 x hx)⟩
theorem b6R.f {x:m8} (h:b6R x):a3k x:=⟨h.1.imp fun _ _=>trivial,h.2.1.imp fun _ _=>trivial,trivial⟩
theorem G6.f {x:l8} (h:G6 x):a2R x:=⟨trivial,h.2.f⟩
theorem okEntries.f {l:List l8} (h:C3 88 G6 l):C3 88 a2R l:=h.imp fun _ x=>x.f
def T7 (l:List n7) (box:Int):Bool:=l.any (·.f0==box)
def a0F (l:List n3) (box:Int):Bool:=l.any (·.f0==box)
theorem c6C {l:List n7} (h:s9 l) (box:Int):b3O l box=some (T7 l box):=by
 unfold b3O
 rw [M0 l h (fun x => !(x.f0==box)) true ()]
 ·unfold T7
  rw [List.any_eq_not_all_not]
  cases l.all fun x => !(x.f0==box)<;>rfl
 ·intro k hk
  unfold b8P
  rw [x6 l k hk,t8 hk]
  cases hq:l[k].f0==box<;>simp [hq]
 ·unfold b8P
  rw [A4]; rfl
theorem d9x {α B:Type} {body:Int→Option (j3 Int Int B)} (l:List α) (hl:s9 l) (is:α→Bool) (b:B)
  (h1 : ∀ (k:Nat) (h:k<l.length),body (k:Int)=some (bif is l[k] then .ret (k:Int) else .nxt (m9 ((k:Int)+1))))
  (h2:body (l.length:Int)=some (.brk b)):(o9 body 0=some (.brk b)∧l.any is=false) ∨ ∃ k:Nat,o9 body 0=some (.ret (k:Int))∧l.any is=true:=by
 have h:=a4R (body:=body) (fun k=>(k:Int)) l.length (fun k=>match l[k]? with | some x => !is x | none=>true) (fun k=>(k:Int)) b
  (fun k hk _=>by
   have:=h1 k hk
   rw [J0 hl hk] at this
   rw [this]
   simp only [List.getElem?_eq_getElem hk]
   cases is l[k]<;>rfl) (fun _=>h2)
 rcases h with ⟨h,hall⟩ | ⟨k,hk,ho,_,h⟩
 ·left
  refine ⟨h,?_⟩
  rw [List.any_eq_false]
  intro x hx
  obtain ⟨i,hi,rfl⟩:=List.getElem_of_mem hx
  have:=hall i hi
  simpa [List.getElem?_eq_getElem hi] using this
 ·right
  refine ⟨k,h,?_⟩
  rw [List.any_eq_true]
  refine ⟨l[k],List.getElem_mem hk,?_⟩
  simpa [List.getElem?_eq_getElem hk] using ho
theorem e9V {l:List n3} (h:s9 l) (box:Int) : ∃ v,a4s l box=some v∧decide (v≥0)=a0F l box:=by
 unfold a4s
 rcases d9x (body:=fun s:Int=>a3c l box s) l h (fun x=>x.f0==box) () (by
  intro k hk
  unfold a3c
  rw [x6 l k hk,t8 hk]
  cases hq:l[k].f0==box<;>simp [hq]) (by unfold a3c; rw [A4]; rfl) with ⟨h1,h2⟩ | ⟨k,h1,h2⟩
 ·rw [h1]
  exact ⟨-1,rfl,h2.symm⟩
 ·rw [h1]
  refine ⟨k,rfl,?_⟩
  rw [show a0F l box=true from h2]
  simp
theorem e2x {x:m8} (h:s9 x.a8) (box:Int) : ∃ v,b2R x box=some v∧decide (v≥0)=T7 x.a8 box:=by
 unfold b2R
 rcases d9x (body:=fun s:Int=>b3y x box s) x.a8 h (fun x=>x.f0==box) () (by
  intro k hk
  unfold b3y
  rw [x6 x.a8 k hk,t8 hk]
  cases hq:x.a8[k].f0==box<;>simp [hq]) (by unfold b3y; rw [A4]; rfl) with ⟨h1,h2⟩ | ⟨k,h1,h2⟩
 ·rw [h1]
  exact ⟨-1,rfl,h2.symm⟩
 ·rw [h1]
  refine ⟨k,rfl,?_⟩
  rw [show T7 x.a8 box=true from h2]
  simp
def p9 (n lo hi:Int):Bool:=decide (lo≤n∧n≤hi)
theorem a0r (n lo hi:Int):K8 n lo hi=some (p9 n lo hi):=by
 unfold K8 p9
 by_cases h:n≥lo
 ·have h':lo≤n:=h
  simp [h']
 ·have h' : ¬ lo≤n:=h
  simp [h']
theorem a7F (n:Int):a7K n=some (p9 n (-1000000) 1000000):=a0r n (-1000000) 1000000
theorem c7B (n:Int):a8U n=some (p9 n 0 3):=by
 rw [← a0r]
 unfold a8U K8
 have:(n<4)=(n≤3):=by apply propext; omega
 simp only [this]
theorem c1b (q:n5):a7q q=some (p9 q.c8 0 2&&p9 q.Seq 1 1000):=by
 unfold a7q
 simp only [a0r,Option.bind_some]
 cases p9 q.c8 0 2<;>rfl
theorem c5k (q:n5):b0l q=some (p9 q.c8 0 2&&p9 q.Seq 1 1000):=by
 have h3:(q.c8<3)=(q.c8≤2):=by apply propext; omega
 unfold b0l p9
 simp only [h3]
 by_cases h1:q.c8≥0<;>by_cases h2:q.c8≤2<;>by_cases h4:q.Seq≥1<;>by_cases h5:q.Seq≤1000<;>simp [h1,h2,h4,h5]<;>omega
def a07 (l:List n7) (k:Nat):Bool:=match l[k]? with
 | some x=>p9 x.f0 0 3&&(p9 x.i7 0 1000000 && !T7 (l.take k) x.f0)
 | none=>true
def a1g (l:List n3) (k:Nat):Bool:=match l[k]? with
 | some x=>p9 x.f0 0 3&&(p9 x.d6 (-1000000) 1000000 && !a0F (l.take k) x.f0)
 | none=>true
theorem b37 {α:Type} {l:List α} (h:s9 l) (k:Nat):s9 (l.take k):=by
 unfold s9 at h ⊢
 rw [List.length_take]
 omega
theorem e5s {r:m8} (h:s9 r.a8):o9 (fun s:Int=>b4p r s) 0=some (bif (List.range r.a8.length).all (a07 r.a8) then .brk () else .ret false):=by
 refine a0R r.a8 h (a07 r.a8) false () ?_ ?_
 ·intro k hk _
  unfold b4p a07 u5
  rw [x6 _ k hk,t8 hk,List.getElem?_eq_getElem hk]
  have hp:(0:Int)≤(k:Int)∧(k:Int)≤(r.a8.length:Int):=by constructor<;>omega
  simp only [cond_true,Option.bind_some,if_pos hp,c7B,Int.toNat_natCast,Nat.sub_zero,List.drop_zero,c6C (b37 h k)]
  cases p9 r.a8[k].f0 0 3
  ·rfl
  ·unfold p9
   by_cases h1:r.a8[k].i7<0
   ·have h1' : ¬ 0≤r.a8[k].i7:=by omega
    simp [h1,h1']
   ·have h1':0≤r.a8[k].i7:=by omega
    by_cases h2:r.a8[k].i7>1000000
    ·have h2' : ¬ r.a8[k].i7≤1000000:=by omega
     simp [h1,h1',h2,h2']
    ·have h2':r.a8[k].i7≤1000000:=by omega
     simp only [h1,h1',h2,h2',decide_false,decide_true,Bool.not_true,cond_false,Bool.true_and,and_self]
     cases T7 (r.a8.take k) r.a8[k].f0<;>rfl
 ·unfold b4p
  rw [A4]; rfl
theorem e0O {r:m8} (h:s9 r.a9):o9 (fun s:Int=>b2I r s) 0=some (bif (List.range r.a9.length).all (a1g r.a9) then .brk () else .ret false):=by
 refine a0R r.a9 h (a1g r.a9) false () ?_ ?_
 ·intro k hk _
  obtain ⟨v,hv,hg⟩:=e9V (b37 h k) r.a9[k].f0
  unfold b2I a1g u5
  rw [x6 _ k hk,t8 hk,List.getElem?_eq_getElem hk]
  have hp:(0:Int)≤(k:Int)∧(k:Int)≤(r.a9.length:Int):=by constructor<;>omega
  simp only [cond_true,Option.bind_some,if_pos hp,c7B,a7F,Int.toNat_natCast,Nat.sub_zero,List.drop_zero,hv,hg]
  cases p9 r.a9[k].f0 0 3
  ·rfl
  ·cases p9 r.a9[k].d6 (-1000000) 1000000
   ·rfl
   ·cases a0F (r.a9.take k) r.a9[k].f0<;>rfl
 ·unfold b2I
  rw [A4]; rfl
def b0S (f:Int→Bool):List Bool:=[f 0,f 1,f 2,f 3]
theorem d62 {f:Int→Bool} {b:Int} (h:p9 b 0 3=true):idx (b0S f) b=some (f b)∧b<4:=by
 have h:0≤b∧b≤3:=by simpa [p9] using h
 have:b=0∨b=1∨b=2∨b=3:=by omega
 rcases this with rfl | rfl | rfl | rfl<;>exact ⟨rfl,by decide⟩
theorem d12 {f g:Int→Bool} {b:Int} (h:p9 b 0 3=true) (hb:g b=true) (hne : ∀ c,c≠b→g c=f c):(b0S f).set b.toNat true=b0S g:=by
 have h:0≤b∧b≤3:=by simpa [p9] using h
 have:b=0∨b=1∨b=2∨b=3:=by omega
 unfold b0S
 rcases this with rfl | rfl | rfl | rfl
 all_goals
  rw [show [g 0,g 1,g 2,g 3]=_ from rfl]
  first
   | rw [hb,hne 1 (by decide),hne 2 (by decide),hne 3 (by decide)]; rfl
   | rw [hb,hne 0 (by decide),hne 2 (by decide),hne 3 (by decide)]; rfl
   | rw [hb,hne 0 (by decide),hne 1 (by decide),hne 3 (by decide)]; rfl
   | rw [hb,hne 0 (by decide),hne 1 (by decide),hne 2 (by decide)]; rfl
theorem d0e {l:List n7} {k:Nat} (hk:k<l.length) (b:Int):T7 (l.take (k+1)) b=(T7 (l.take k) b||(l[k].f0==b)):=by
 unfold T7
 rw [List.take_succ_eq_append_getElem hk,List.any_append]
 simp
theorem d9c {l:List n3} {k:Nat} (hk:k<l.length) (b:Int):a0F (l.take (k+1)) b=(a0F (l.take k) b||(l[k].f0==b)):=by
 unfold a0F
 rw [List.take_succ_eq_append_getElem hk,List.any_append]
 simp
theorem e9N {l:List n7} {k:Nat} (hk:k<l.length) (c:Int) (hc:c≠l[k].f0):T7 (l.take (k+1)) c=T7 (l.take k) c:=by
 have:(l[k].f0==c)=false:=by simpa using fun h=>hc h.symm
 rw [d0e hk,this,Bool.or_false]
theorem e1V {l:List n3} {k:Nat} (hk:k<l.length) (c:Int) (hc:c≠l[k].f0):a0F (l.take (k+1)) c=a0F (l.take k) c:=by
 have:(l[k].f0==c)=false:=by simpa using fun h=>hc h.symm
 rw [d9c hk,this,Bool.or_false]
theorem d2U {R S B:Type} {x:Option (j8 R B)} {n:Nat} {ok:Nat→Bool} {r:R} {b:B} (h:(x=some (.brk b) ∧ ∀ j,j<n→ok j=true) ∨ ∃ k,k<n∧ok k=false∧(∀ j,j<k→ok j=true)∧x=some (.ret r)):x=some (bif (List.range n).all ok then .brk b else .ret r):=by
 rcases h with ⟨h,hall⟩ | ⟨k,hk,ho,_,h⟩
 ·have:(List.range n).all ok=true:=by
   rw [List.all_eq_true]
   intro x hx
   exact hall x (by simpa using hx)
  rw [this]; exact h
 ·have:(List.range n).all ok=false:=by
   rw [List.all_eq_false]
   exact ⟨k,by simpa using hk,by simp [ho]⟩
  rw [this]; exact h
theorem e3T {r:m8} (h:s9 r.a8):o9 (fun s:List Bool×Int=>b2i r s.1 s.2) (List.replicate 4 false,0)=some (bif (List.range r.a8.length).all (a07 r.a8) then .brk () else .ret false):=by
 refine d2U (S:=List Bool×Int) (a4R (body:=fun s:List Bool×Int=>b2i r s.1 s.2) (fun k=>(b0S (T7 (r.a8.take k)),(k:Int))) r.a8.length (a07 r.a8) (fun _=>false) () ?_ ?_)
 ·intro k hk _
  simp only
  unfold b2i a07 u5
  rw [x6 _ k hk,t8 hk,List.getElem?_eq_getElem hk]
  simp only [cond_true,Option.bind_some,a0r]
  cases hb:p9 r.a8[k].f0 0 3
  ·rfl
  ·obtain ⟨h1,h2⟩:=d62 (f:=T7 (r.a8.take k)) hb
   rw [h1]
   simp only [if_pos h2,Bool.not_true,cond_false,Option.bind_some,Bool.true_and]
   cases hs:T7 (r.a8.take k) r.a8[k].f0
   ·cases p9 r.a8[k].i7 0 1000000
    ·rfl
    ·simp only [Bool.not_true,cond_false,Bool.not_false,Bool.true_and,cond_true]
     rw [d12 (f:=T7 (r.a8.take k)) (g:=T7 (r.a8.take (k+1))) hb (by rw [d0e hk]; simp) (e9N hk),J0 h hk]
   ·cases p9 r.a8[k].i7 0 1000000<;>rfl
 ·intro _
  simp only
  unfold b2i
  rw [A4]; rfl
theorem f2r {r:m8} (h:s9 r.a9):o9 (fun s:List Bool×Int=>b1c r s.1 s.2) (List.replicate 4 false,0)=some (bif (List.range r.a9.length).all (a1g r.a9) then .brk () else .ret false):=by
 refine d2U (S:=List Bool×Int) (a4R (body:=fun s:List Bool×Int=>b1c r s.1 s.2) (fun k=>(b0S (a0F (r.a9.take k)),(k:Int))) r.a9.length (a1g r.a9) (fun _=>false) () ?_ ?_)
 ·intro k hk _
  simp only
  unfold b1c a1g u5
  rw [x6 _ k hk,t8 hk,List.getElem?_eq_getElem hk]
  simp only [cond_true,Option.bind_some,a0r]
  cases hb:p9 r.a9[k].f0 0 3
  ·rfl
  ·obtain ⟨h1,h2⟩:=d62 (f:=a0F (r.a9.take k)) hb
   rw [h1]
   simp only [if_pos h2,Bool.not_true,cond_false,Option.bind_some,Bool.true_and]
   cases hs:a0F (r.a9.take k) r.a9[k].f0
   ·cases p9 r.a9[k].d6 (-1000000) 1000000
    ·rfl
    ·simp only [Bool.not_true,cond_false,Bool.not_false,Bool.true_and,cond_true]
     rw [d12 (f:=a0F (r.a9.take k)) (g:=a0F (r.a9.take (k+1))) hb (by rw [d9c hk]; simp) (e1V hk),J0 h hk]
   ·cases p9 r.a9[k].d6 (-1000000) 1000000<;>rfl
 ·intro _
  simp only
  unfold b1c
  rw [A4]; rfl
def a0y (r:m8):Bool:=p9 r.Code 0 3&&(p9 r.d6 (-1000000) 1000000&&((r.Code==0||(r.d6==0&&r.a9.length==0))&&((r.Code != 3||r.a8.length==0)&&((List.range r.a8.length).all (a07 r.a8)&&(List.range r.a9.length).all (a1g r.a9)))))
theorem f3h {r:m8} (h:a3k r):c0I r=some ((List.range r.a8.length).all (a07 r.a8)&&(List.range r.a9.length).all (a1g r.a9)):=by
 unfold c0I c37
 rw [e5s (h.1.fits (by decide)),e0O (h.2.1.fits (by decide))]
 cases (List.range r.a8.length).all (a07 r.a8)<;>cases (List.range r.a9.length).all (a1g r.a9)<;>rfl
theorem e3S {r:m8} (h:a3k r):b8J r=some ((List.range r.a8.length).all (a07 r.a8)&&(List.range r.a9.length).all (a1g r.a9)):=by
 unfold b8J c5v
 rw [e3T (h.1.fits (by decide)),f2r (h.2.1.fits (by decide))]
 cases (List.range r.a8.length).all (a07 r.a8)<;>cases (List.range r.a9.length).all (a1g r.a9)<;>rfl
theorem d0l {α:Type} (l:List α):decide ((l.length:Int)>0) = !(l.length==0):=by
 cases l<;>simp
theorem c9g {r:m8} (h:a3k r):b2s r=some (a0y r):=by
 unfold b2s a0y
 rw [f3h h]
 simp only [a7F,d0l,Option.bind_some,j8.go]
 generalize ((List.range r.a8.length).all (a07 r.a8)&&(List.range r.a9.length).all (a1g r.a9))=z
 generalize (r.a9.length==0)=a
 generalize (r.a8.length==0)=b
 generalize p9 r.d6 (-1000000) 1000000=c
 have h3:p9 r.Code 0 3=(!decide (r.Code<0) && !decide (r.Code>3)):=by
  unfold p9
  by_cases h1:r.Code<0<;>by_cases h2:r.Code>3<;>simp [h1,h2]<;>omega
 rw [h3]
 unfold bne
 cases decide (r.Code<0)<;>cases decide (r.Code>3)<;>cases c<;>cases (r.Code==0)<;>cases (r.d6==0)<;>cases a<;>cases (r.Code==3)<;>cases b<;>rfl
theorem c7S {r:m8} (h:a3k r):b0i r=some (a0y r):=by
 unfold b0i a0y
 rw [e3S h]
 simp only [a0r,d0l,Option.bind_some,j8.go]
 generalize ((List.range r.a8.length).all (a07 r.a8)&&(List.range r.a9.length).all (a1g r.a9))=z
 generalize (r.a9.length==0)=a
 generalize (r.a8.length==0)=b
 generalize p9 r.d6 (-1000000) 1000000=c
 generalize p9 r.Code 0 3=d
 unfold bne
 cases d<;>cases c<;>cases (r.Code==0)<;>cases (r.d6==0)<;>cases a<;>cases (r.Code==3)<;>cases b<;>rfl
def a38 (a b:List n7) (k:Nat):Bool:=match a[k]?,b[k]? with
 | some x,some y=>([x.f0,x.i7]:List Int)==[y.f0,y.i7]
 | _,_=>true
def a3R (a b:List n3) (k:Nat):Bool:=match a[k]?,b[k]? with
 | some x,some y=>([x.f0,x.d6]:List Int)==[y.f0,y.d6]
 | _,_=>true
theorem e9R {a b:m8} (h:s9 a.a8) (hl:a.a8.length=b.a8.length):o9 (fun s:Int=>b32 a b s) 0=some (bif (List.range a.a8.length).all (a38 a.a8 b.a8) then .brk () else .ret false):=by
 refine a0R a.a8 h (a38 a.a8 b.a8) false () ?_ ?_
 ·intro k hk _
  unfold b32 a38
  rw [x6 _ k hk,t8 hk,t8 (hl▸hk),List.getElem?_eq_getElem hk,List.getElem?_eq_getElem (hl▸hk)]
  simp only [cond_true,Option.bind_some]
  cases ([a.a8[k].f0,a.a8[k].i7]:List Int)==[(b.a8[k]'(hl▸hk)).f0,(b.a8[k]'(hl▸hk)).i7]<;>rfl
 ·unfold b32
  rw [A4]; rfl
theorem f4a {a b:m8} (h:s9 a.a9) (hl:a.a9.length=b.a9.length):o9 (fun s:Int=>b2M a b s) 0=some (bif (List.range a.a9.length).all (a3R a.a9 b.a9) then .brk () else .ret false):=by
 refine a0R a.a9 h (a3R a.a9 b.a9) false () ?_ ?_
 ·intro k hk _
  unfold b2M a3R
  rw [x6 _ k hk,t8 hk,t8 (hl▸hk),List.getElem?_eq_getElem hk,List.getElem?_eq_getElem (hl▸hk)]
  simp only [cond_true,Option.bind_some]
  cases ([a.a9[k].f0,a.a9[k].d6]:List Int)==[(b.a9[k]'(hl▸hk)).f0,(b.a9[k]'(hl▸hk)).d6]<;>rfl
 ·unfold b2M
  rw [A4]; rfl
theorem e0F {a b:List n7} (h:s9 a):b8f a b=some (a.length==b.length&&(List.range a.length).all (a38 a b)):=by
 unfold b8f
 by_cases hl:a.length=b.length
 ·rw [a0R a h (a38 a b) false ()]
  ·rw [hl]
   simp only [bne_self_eq_false,cond_false,beq_self_eq_true,Bool.true_and]
   cases (List.range b.length).all (a38 a b)<;>rfl
  ·intro k hk _
   unfold b5M a38
   rw [x6 _ k hk,t8 hk,t8 (hl▸hk),List.getElem?_eq_getElem hk,List.getElem?_eq_getElem (hl▸hk)]
   simp only [cond_true,Option.bind_some]
   cases ([a[k].f0,a[k].i7]:List Int)==[(b[k]'(hl▸hk)).f0,(b[k]'(hl▸hk)).i7]<;>rfl
  ·unfold b5M
   rw [A4]; rfl
 ·have h1:((a.length:Int) != (b.length:Int))=true:=by simp; omega
  have h2:(a.length==b.length)=false:=by simpa using hl
  rw [h1,h2]; rfl
theorem e81 {a b:List n3} (h:s9 a):b9Z a b=some (a.length==b.length&&(List.range a.length).all (a3R a b)):=by
 unfold b9Z
 by_cases hl:a.length=b.length
 ·rw [a0R a h (a3R a b) false ()]
  ·rw [hl]
   simp only [bne_self_eq_false,cond_false,beq_self_eq_true,Bool.true_and]
   cases (List.range b.length).all (a3R a b)<;>rfl
  ·intro k hk _
   unfold b8F a3R
   rw [x6 _ k hk,t8 hk,t8 (hl▸hk),List.getElem?_eq_getElem hk,List.getElem?_eq_getElem (hl▸hk)]
   simp only [cond_true,Option.bind_some]
   cases ([a[k].f0,a[k].d6]:List Int)==[(b[k]'(hl▸hk)).f0,(b[k]'(hl▸hk)).d6]<;>rfl
  ·unfold b8F
   rw [A4]; rfl
 ·have h1:((a.length:Int) != (b.length:Int))=true:=by simp; omega
  have h2:(a.length==b.length)=false:=by simpa using hl
  rw [h1,h2]; rfl
def a5K (a b:m8):Bool:=(a.a8.length==b.a8.length&&(List.range a.a8.length).all (a38 a.a8 b.a8))&&((a.a9.length==b.a9.length&&(List.range a.a9.length).all (a3R a.a9 b.a9))&&(a.d6==b.d6&&a.Code==b.Code))
theorem c9F {α β:Type} (a:List α) (b:List β):((a.length:Int) != (b.length:Int)) = !(a.length==b.length):=by
 unfold bne
 congr 1
 by_cases h:a.length=b.length
 ·simp [h]
 ·have h1:((a.length:Int)==(b.length:Int))=false:=by simp; omega
  have h2:(a.length==b.length)=false:=by simpa using h
  rw [h1,h2]
theorem c0M {a b:m8} (h:a3k a):a9c a b=some (a5K a b):=by
 unfold a9c a5K
 rw [c9F,c9F]
 cases h1:a.a8.length==b.a8.length
 ·unfold bne
  cases a.d6==b.d6<;>cases a.Code==b.Code<;>rfl
 cases h2:a.a9.length==b.a9.length
 ·unfold bne
  cases a.d6==b.d6<;>cases a.Code==b.Code<;>simp
 unfold c5O
 rw [e9R (h.1.fits (by decide)) (by simpa using h1),f4a (h.2.1.fits (by decide)) (by simpa using h2)]
 unfold bne
 cases (List.range a.a8.length).all (a38 a.a8 b.a8)<;>cases (List.range a.a9.length).all (a3R a.a9 b.a9)<;>cases a.d6==b.d6<;>cases a.Code==b.Code<;>rfl
theorem d9g {a b:m8} (h:a3k a):c0g a b=some (a5K a b):=by
 unfold c0g a5K
 rw [e0F (h.1.fits (by decide)),e81 (h.2.1.fits (by decide))]
 simp only [Option.bind_some]
 generalize (a.a8.length==b.a8.length&&(List.range a.a8.length).all (a38 a.a8 b.a8))=x
 generalize (a.a9.length==b.a9.length&&(List.range a.a9.length).all (a3R a.a9 b.a9))=y
 cases x<;>cases y<;>cases a.d6==b.d6<;>rfl
def B8 (e:l8):Bool:=bif e.i0 then (([e.a5.c8,e.a5.Seq]:List Int)==[0,0])&&a5K e.b6 (m8.mk [] [] 0 0) else (p9 e.a5.c8 0 2&&p9 e.a5.Seq 1 1000)&&(a0y e.b6&&e.b6.Code != 3)
theorem a5r {e:l8} (h:a2R e):a28 e=some (B8 e):=by
 unfold a28 B8
 simp only [c0M h.2,c5k,c9g h.2,Option.bind_some]
 cases e.i0
 ·simp only [cond_false]
  cases p9 e.a5.c8 0 2&&p9 e.a5.Seq 1 1000<;>cases a0y e.b6<;>rfl
 ·simp only [cond_true]
  cases ([e.a5.c8,e.a5.Seq]:List Int)==[0,0]<;>rfl
theorem a8i {e:l8} (h:a2R e):a4c e=some (B8 e):=by
 unfold a4c a3J B8
 simp only [d9g h.2,c1b,c7S h.2,Option.bind_some]
 cases e.i0
 ·simp only [cond_false]
  cases p9 e.a5.c8 0 2&&p9 e.a5.Seq 1 1000<;>cases a0y e.b6<;>rfl
 ·simp only [cond_true,beq_self_eq_true]
  cases ([e.a5.c8,e.a5.Seq]:List Int)==[0,0]<;>rfl
def L0 (l:List l8):Bool:=decide (l.length≤40)&&l.all B8
theorem c6p {α:Type} (l:List α) (n:Nat):decide ((l.length:Int)≤(n:Int))=decide (l.length≤n):=by
 by_cases h:l.length≤n
 ·have:(l.length:Int)≤(n:Int):=by omega
  simp [h,this]
 ·have : ¬ (l.length:Int)≤(n:Int):=by omega
  simp [h,this]
theorem b21 {α:Type} (l:List α) (n:Nat):decide ((l.length:Int)>(n:Int)) = !decide (l.length≤n):=by
 by_cases h:l.length≤n
 ·have : ¬ (l.length:Int)>(n:Int):=by omega
  simp [h,this]
 ·have:(l.length:Int)>(n:Int):=by omega
  simp [h,this]
theorem d4o {l:List l8} (h:C3 88 a2R l):b28 l=some (L0 l):=by
 unfold b28 L0
 rw [show (40:Int)=((40:Nat):Int) from rfl,b21,M0 l (h.fits (by decide)) B8 false ()]
 ·cases decide (l.length≤40)
  ·rfl
  ·cases l.all B8<;>rfl
 ·intro k hk
  unfold b70
  rw [x6 _ k hk,t8 hk]
  simp only [cond_true,Option.bind_some,a5r (h.2 _ (List.getElem_mem hk))]
  cases B8 l[k]<;>rfl
 ·unfold b70
  rw [A4]; rfl
theorem c6L {l:List l8} (h:C3 88 a2R l):b0d l=some (L0 l):=by
 unfold b0d L0 c5h
 rw [show (40:Int)=((40:Nat):Int) from rfl,c6p,M0 l (h.fits (by decide)) B8 false ()]
 ·cases l.all B8<;>cases decide (l.length≤40)<;>rfl
 ·intro k hk
  unfold b7C
  rw [x6 _ k hk,t8 hk]
  simp only [cond_true,Option.bind_some,a8i (h.2 _ (List.getElem_mem hk))]
  cases B8 l[k]<;>rfl
 ·unfold b7C
  rw [A4]; rfl
def a4I (b:m4):Bool:=p9 b.i7 0 1000000&&p9 b.d6 (-1000000) 1000000
def F8 (l:List m4):Bool:=l.length==4&&l.all a4I
theorem b0c {α:Type} (l:List α) (n:Nat):((l.length:Int) != (n:Int)) = !(l.length==n):=by
 unfold bne
 congr 1
 by_cases h:l.length=n
 ·simp [h]
 ·have h1:((l.length:Int)==(n:Int))=false:=by simp; omega
  have h2:(l.length==n)=false:=by simpa using h
  rw [h1,h2]
theorem e7O {α:Type} (l:List α) (n:Nat):((l.length:Int)==(n:Int))=(l.length==n):=by
 have:=b0c l n
 unfold bne at this
 simpa using this
theorem b9K {l:List m4} (h:s9 l):a94 l=some (F8 l):=by
 unfold a94 F8
 rw [show (4:Int)=((4:Nat):Int) from rfl,b0c,M0 l h a4I false ()]
 ·cases l.length==4
  ·rfl
  ·cases l.all a4I<;>rfl
 ·intro k hk
  unfold c0f a4I
  rw [x6 _ k hk,t8 hk]
  simp only [cond_true,Option.bind_some,a7F]
  cases hq:p9 l[k].i7 0 1000000 with
  | false =>
   by_cases h1:l[k].i7<0
   ·simp [h1]
   ·have:l[k].i7>1000000:=by
     unfold p9 at hq
     simp at hq
     omega
    simp [h1,this]
  | true =>
   unfold p9 at hq
   simp at hq
   have h1 : ¬ l[k].i7<0:=by omega
   have h2 : ¬ l[k].i7>1000000:=by omega
   simp only [h1,h2,decide_false,cond_false,Bool.true_and]
   cases p9 l[k].d6 (-1000000) 1000000<;>rfl
 ·unfold c0f
  rw [A4]; rfl
theorem b5t {l:List m4} (h:s9 l):a70 l=some (F8 l):=by
 unfold a70 F8 c2X
 rw [show (4:Int)=((4:Nat):Int) from rfl,e7O,M0 l h a4I false ()]
 ·cases l.length==4<;>cases l.all a4I<;>rfl
 ·intro k hk
  unfold c0Y a4I
  rw [x6 _ k hk,t8 hk]
  simp only [cond_true,Option.bind_some,a0r]
  cases p9 l[k].i7 0 1000000<;>cases p9 l[k].d6 (-1000000) 1000000<;>rfl
 ·unfold c0Y
  rw [A4]; rfl
theorem c9l {l:List n7} (h:(List.range l.length).all (a07 l)=true) : ∀ x∈l,0≤x.f0∧x.f0≤3∧0≤x.i7∧x.i7≤1000000:=by
 intro x hx
 obtain ⟨i,hi,rfl⟩:=List.getElem_of_mem hx
 have:=List.all_eq_true.1 h i (by simpa using hi)
 unfold a07 at this
 rw [List.getElem?_eq_getElem hi] at this
 simp [p9] at this
 omega
theorem d4r {l:List n3} (h:(List.range l.length).all (a1g l)=true) : ∀ x∈l,0≤x.f0∧x.f0≤3 ∧ -1000000≤x.d6∧x.d6≤1000000:=by
 intro x hx
 obtain ⟨i,hi,rfl⟩:=List.getElem_of_mem hx
 have:=List.all_eq_true.1 h i (by simpa using hi)
 unfold a1g at this
 rw [List.getElem?_eq_getElem hi] at this
 simp [p9] at this
 omega
theorem a8A {r:m8} (h:a0y r=true):(0≤r.Code∧r.Code≤3)∧(-1000000≤r.d6∧r.d6≤1000000)∧(r.Code=0∨(r.d6=0∧r.a9=[]))∧(∀ x∈r.a8,0≤x.f0∧x.f0≤3∧0≤x.i7∧x.i7≤1000000) ∧ ∀ x∈r.a9,0≤x.f0∧x.f0≤3 ∧ -1000000≤x.d6∧x.d6≤1000000:=by
 unfold a0y at h
 simp only [Bool.and_eq_true,Bool.or_eq_true] at h
 obtain ⟨h1,h2,h3,_,h4,h5⟩:=h
 refine ⟨by simpa [p9] using h1,by simpa [p9] using h2,by simpa using h3,c9l h4,d4r h5⟩
def a5Q (l:List m4) (r:m8):Bool:=r.a8.all fun x=>match l[x.f0.toNat]? with
 | some b=>b.i7==x.i7
 | none=>true
theorem b1s {l:List m4} (h:F8 l=true):l.length=4:=by
 unfold F8 at h
 simp only [Bool.and_eq_true,beq_iff_eq] at h
 exact h.1
theorem a3T {l:List m4} (h:F8 l=true):s9 l:=by
 unfold s9
 rw [b1s h]
 decide
theorem a6z {l:List m4} (h:F8 l=true) {b:Int} (hb:0≤b∧b≤3) : ∃ x,idx l b=some x∧l[b.toNat]?=some x∧a4I x=true:=by
 have hl:=b1s h
 have hlt:b.toNat<l.length:=by omega
 refine ⟨l[b.toNat],?_,List.getElem?_eq_getElem hlt,?_⟩
 ·unfold idx
  rw [if_pos hb.1,List.getElem?_eq_getElem hlt]
 ·unfold F8 at h
  simp only [Bool.and_eq_true] at h
  exact List.all_eq_true.1 h.2 _ (List.getElem_mem hlt)
theorem e8u {l:List m4} {r:m8} (hl:s9 l) (hr:a3k r):b8d l r=some (F8 l&&(a0y r&&a5Q l r)):=by
 unfold b8d
 rw [b9K hl,c9g hr]
 simp only [Option.bind_some]
 cases h1:F8 l
 ·rfl
 cases h2:a0y r
 ·rfl
 have hp:=a8A h2
 simp only [Bool.not_true,cond_false,Bool.true_and]
 rw [M0 r.a8 (hr.1.fits (by decide)) (fun x=>match l[x.f0.toNat]? with | some b=>b.i7==x.i7 | none=>true) false ()]
 ·unfold a5Q
  cases r.a8.all _<;>rfl
 ·intro k hk
  have hm:=hp.2.2.2.1 _ (List.getElem_mem hk)
  obtain ⟨b,hb1,hb2,_⟩:=a6z h1 (b:=r.a8[k].f0) ⟨hm.1,hm.2.1⟩
  unfold b9I
  rw [x6 _ k hk,t8 hk]
  simp only [cond_true,Option.bind_some,hb1,hb2]
  unfold bne
  cases b.i7==r.a8[k].i7<;>rfl
 ·unfold b9I
  rw [A4]; rfl
theorem f2h {l:List m4} {r:m8} (hl:s9 l) (hr:a3k r):b6l l r=some (F8 l&&(a0y r&&a5Q l r)):=by
 unfold b6l
 rw [b5t hl,c7S hr]
 simp only [Option.bind_some]
 cases h1:F8 l
 ·rfl
 cases h2:a0y r
 ·rfl
 have hp:=a8A h2
 simp only [Bool.not_true,cond_false,Bool.true_and]
 rw [M0 r.a8 (hr.1.fits (by decide)) (fun x=>match l[x.f0.toNat]? with | some b=>b.i7==x.i7 | none=>true) false ()]
 ·unfold a5Q
  cases r.a8.all _<;>rfl
 ·intro k hk
  have hm:=hp.2.2.2.1 _ (List.getElem_mem hk)
  obtain ⟨b,hb1,hb2,_⟩:=a6z h1 (b:=r.a8[k].f0) ⟨hm.1,hm.2.1⟩
  unfold b8l
  rw [x6 _ k hk,t8 hk]
  simp only [cond_true,Option.bind_some,hb1,hb2]
  unfold bne
  cases b.i7==r.a8[k].i7<;>rfl
 ·unfold b8l
  rw [A4]; rfl
def a7T (l:List m4) (p:n3):List m4:=match l[p.f0.toNat]? with
 | some b=>l.set p.f0.toNat ⟨if b.i7+1<1000000 then b.i7+1 else 1000000,p.d6⟩
 | none=>l
def b3m (l:List m4) (ps:List n3):List m4:=ps.foldl a7T l
def a3X (x:n3):Prop:=0≤x.f0∧x.f0≤3 ∧ -1000000≤x.d6∧x.d6≤1000000
theorem d8b {l:List m4} {p:n3} {b:m4} (h:l[p.f0.toNat]?=some b):a7T l p=l.set p.f0.toNat ⟨if b.i7+1<1000000 then b.i7+1 else 1000000,p.d6⟩:=by
 unfold a7T
 rw [h]
theorem b7P {b:m4}:a4I b=true↔(0≤b.i7∧b.i7≤1000000)∧(-1000000≤b.d6∧b.d6≤1000000):=by
 unfold a4I p9
 simp
theorem e95 {l:List m4}:F8 l=true↔l.length=4 ∧ ∀ b∈l,a4I b=true:=by
 unfold F8
 simp
theorem f2N {l:List m4} {p:n3} (h:F8 l=true) (hp:a3X p):F8 (a7T l p)=true:=by
 obtain ⟨b,_,h2,h3⟩:=a6z h (b:=p.f0) ⟨hp.1,hp.2.1⟩
 rw [e95] at h ⊢
 unfold a7T
 rw [h2]
 refine ⟨by simpa using h.1,fun x hx => ?_⟩
 rcases List.mem_or_eq_of_mem_set hx with hx | rfl
 ·exact h.2 x hx
 ·rw [b7P] at h3 ⊢
  refine ⟨?_,hp.2.2⟩
  simp only
  split<;>omega
theorem c0r : ∀ {ps:List n3} {l:List m4},F8 l=true→(∀ p∈ps,a3X p)→F8 (b3m l ps)=true
 | [],l,h,_=>h
 | p::ps,l,h,hp=>c0r (ps:=ps) (f2N h (hp p (by simp))) fun x hx=>hp x (by simp [hx])
theorem d1i {l:List m4} {ps:List n3} (h:F8 l=true) (hp : ∀ p∈ps,a3X p) (k:Nat):F8 ((ps.take k).foldl a7T l)=true :=
 c0r h fun p hq=>hp p (List.mem_of_mem_take hq)
theorem d5N {l:List m4} {r:m8} (hl:F8 l=true) (hr:a3k r) (hp : ∀ p∈r.a9,a3X p):b4L l r=some (b3m l r.a9):=by
 unfold b4L
 rw [d48 r.a9 (hr.2.1.fits (by decide)) a7T l id]
 ·rfl
 ·intro k hk
  have hq:=hp _ (List.getElem_mem hk)
  obtain ⟨b,h1,h2,h3⟩:=a6z (d1i hl hp k) (b:=r.a9[k].f0) ⟨hq.1,hq.2.1⟩
  rw [b7P] at h3
  unfold b8g
  rw [x6 _ k hk,t8 hk]
  simp only [cond_true,Option.bind_some,h1]
  unfold c5H
  rw [d8b h2,E7 (n:=b.i7+1) (by omega) (by omega)]
  by_cases hv:b.i7+1<1000000
  ·have : ¬ (1000000:Int)<b.i7+1:=by omega
   simp [hv,this]
  ·by_cases hv2:(1000000:Int)<b.i7+1
   ·simp [hv,hv2]
   ·have:b.i7+1=1000000:=by omega
    simp [hv,hv2,this]
 ·unfold b8g
  rw [A4]; rfl
theorem c48 {l:List m4} (h:l.length * 16≤140737488351232):a9z l=some l:=by
 unfold a9z u5
 cases l with
 | nil=>rfl
 | cons x l =>
  have h1:(((x::l).length:Int)==0)=false:=by simp; omega
  rw [h1,cond_false,if_pos (by constructor<;>omega),if_pos (by simp)]
theorem c94 {l:List n6} (h:l.length * 32≤140737488351232):a6Z l=some l:=by
 unfold a6Z u5
 cases l with
 | nil=>rfl
 | cons x l =>
  have h1:(((x::l).length:Int)==0)=false:=by simp; omega
  rw [h1,cond_false,if_pos (by constructor<;>omega),if_pos (by simp)]
theorem d5F {l:List m4} {r:m8} (hl:F8 l=true) (hr:a3k r) (hok:a0y r=true):b4h l r=some (b3m l r.a9):=by
 have hp : ∀ p∈r.a9,a3X p:=(a8A hok).2.2.2.2
 unfold b4h
 rw [b5t (a3T hl),c7S hr,hl,hok]
 simp only [Option.bind_some,Bool.not_true,cond_false]
 rw [c48 (by rw [b1s hl]; decide),Option.bind_some,d48 r.a9 (hr.2.1.fits (by decide)) a7T l id]
 ·rfl
 ·intro k hk
  have hq:=hp _ (List.getElem_mem hk)
  obtain ⟨b,h1,h2,h3⟩:=a6z (d1i hl hp k) (b:=r.a9[k].f0) ⟨hq.1,hq.2.1⟩
  rw [b7P] at h3
  unfold b6r
  rw [x6 _ k hk,t8 hk]
  simp only [cond_true,Option.bind_some,h1]
  rw [d8b h2,E7 (n:=b.i7+1) (by omega) (by omega)]
 ·unfold b6r
  rw [A4]; rfl
def a9k (d:n6):Bool:=(p9 d.a5.c8 0 2&&p9 d.a5.Seq 1 1000)&&(p9 d.Code 0 2&&(p9 d.d6 (-1000000) 1000000&&(d.Code==0||d.d6==0)))
def a5y (l:List n6):Prop:=l.Pairwise fun a b=>a.a5.c8<b.a5.c8
def R3 (d:n6) (st:List n6×Bool) (x:n6):List n6×Bool :=
 bif !st.2&&decide (x.a5.c8≥d.a5.c8) then (bif x.a5.c8 != d.a5.c8 then (st.1++[d])++[x] else st.1++[d],true) else (bif x.a5.c8 != d.a5.c8 then st.1++[x] else st.1,st.2)
def a2a (l:List n6) (d:n6):List n6 :=
 let r:=l.foldl (R3 d) ([],false)
 bif !r.2 then r.1++[d] else r.1
theorem e5F (d:n6) (st:List n6×Bool) (x:n6):(R3 d st x).1.length≤st.1.length+2:=by
 unfold R3
 cases !st.2&&decide (x.a5.c8≥d.a5.c8)<;>cases x.a5.c8 != d.a5.c8<;>simp
theorem c1S (d:n6) : ∀ (l:List n6) (st:List n6×Bool),(l.foldl (R3 d) st).1.length≤st.1.length+2 * l.length
 | [],st=>by simp
 | x::l,st=>by
  have h1:=c1S d l (R3 d st x)
  have h2:=e5F d st x
  simp only [List.foldl_cons,List.length_cons]
  omega
theorem c1j (d:n6) : ∀ {l:List n6} {o:List n6},(∀ x∈l,d.a5.c8<x.a5.c8)→l.foldl (R3 d) (o,true)=(o++l,true)
 | [],o,_=>by simp
 | x::l,o,h=>by
  have hx:=h x (by simp)
  have hne:(x.a5.c8 != d.a5.c8)=true:=by simp; omega
  rw [List.foldl_cons,show R3 d (o,true) x=(o++[x],true) from by unfold R3; simp [hne],c1j d fun y hy=>h y (by simp [hy])]
  simp
theorem d7s (d:n6) : ∀ {l o:List n6},a5y l →
  (let r:=l.foldl (R3 d) (o,false); bif !r.2 then r.1++[d] else r.1)=o++(l.filter (fun x=>decide (x.a5.c8<d.a5.c8))++d::l.filter (fun x=>decide (d.a5.c8<x.a5.c8)))
 | [],o,_=>by simp
 | x::l,o,h=>by
  obtain ⟨h1,h2⟩:=List.pairwise_cons.1 h
  rw [List.foldl_cons]
  by_cases hlt:x.a5.c8<d.a5.c8
  ·have hge : ¬ x.a5.c8≥d.a5.c8:=by omega
   have hne:(x.a5.c8 != d.a5.c8)=true:=by simp; omega
   have hngt : ¬ d.a5.c8<x.a5.c8:=by omega
   rw [show R3 d (o,false) x=(o++[x],false) from by unfold R3; simp [hge,hne],d7s d h2]
   simp [hlt,hngt]
  ·have hge:x.a5.c8≥d.a5.c8:=by omega
   have hall : ∀ y∈l,d.a5.c8<y.a5.c8:=fun y hy=>by have:=h1 y hy; omega
   have hf1:l.filter (fun x=>decide (x.a5.c8<d.a5.c8))=[]:=by
    rw [List.filter_eq_nil_iff]
    intro y hy
    have:=hall y hy
    simp
    omega
   have hf2:l.filter (fun x=>decide (d.a5.c8<x.a5.c8))=l:=by
    rw [List.filter_eq_self]
    intro y hy
    simpa using hall y hy
   by_cases heq:x.a5.c8=d.a5.c8
   ·have hngt : ¬ d.a5.c8<x.a5.c8:=by omega
    rw [show R3 d (o,false) x=(o++[d],true) from by unfold R3; simp [hge,heq],c1j d hall]
    simp [hlt,hngt,hf1,hf2]
   ·have hgt:d.a5.c8<x.a5.c8:=by omega
    have hne:(x.a5.c8 != d.a5.c8)=true:=by simpa using heq
    rw [show R3 d (o,false) x=((o++[d])++[x],true) from by unfold R3; simp [hge,hne],c1j d hall]
    simp [hlt,hgt,hf1,hf2]
theorem c4P {l:List n6} (d:n6) (h:a5y l):a2a l d=l.filter (fun x=>decide (x.a5.c8<d.a5.c8))++d::l.filter (fun x=>decide (d.a5.c8<x.a5.c8)):=by
 have:=d7s d (o:=[]) h
 simpa [a2a] using this
theorem e9p {l:List n6} (d:n6) (h:a5y l):a5y (a2a l d):=by
 rw [c4P d h]
 unfold a5y
 rw [List.pairwise_append,List.pairwise_cons]
 refine ⟨h.filter _,⟨fun y hy=>by simpa using (List.mem_filter.1 hy).2,h.filter _⟩,fun a ha b hb => ?_⟩
 have h1:a.a5.c8<d.a5.c8:=by simpa using (List.mem_filter.1 ha).2
 rcases List.mem_cons.1 hb with rfl | hb
 ·exact h1
 ·have h2:d.a5.c8<b.a5.c8:=by simpa using (List.mem_filter.1 hb).2
  omega
theorem e7U {l:List n6} {d x:n6} (h:a5y l) (hx:x∈a2a l d):x∈l∨x=d:=by
 rw [c4P d h] at hx
 rcases List.mem_append.1 hx with hx | hx
 ·exact .inl (List.mem_filter.1 hx).1
 ·rcases List.mem_cons.1 hx with rfl | hx
  ·exact .inr rfl
  ·exact .inl (List.mem_filter.1 hx).1
theorem d6V {l:List n6} (d:n6) (h:a5y l):(a2a l d).length≤l.length+1:=by
 rw [c4P d h]
 have:(l.filter fun x=>decide (x.a5.c8<d.a5.c8)).length+(l.filter fun x=>decide (d.a5.c8<x.a5.c8)).length≤l.length:=by
  clear h
  induction l with
  | nil=>simp
  | cons x l ih =>
   by_cases h1:x.a5.c8<d.a5.c8
   ·have h2 : ¬ d.a5.c8<x.a5.c8:=by omega
    simp [h1,h2]; omega
   ·by_cases h2:d.a5.c8<x.a5.c8
    ·simp [h1,h2]; omega
    ·simp [h1,h2]; omega
 simp only [List.length_append,List.length_cons]
 omega
structure Inv (s:q7) (k:Nat):Prop where
 at_:s.At=(k:Int)
 le:k≤40
 boxes:F8 s.d8=true
 sorted:a5y s.g8
 dones : ∀ d∈s.g8,a9k d=true
 len:s.g8.length≤k
theorem Inv.fits {s:q7} {k:Nat} (h:Inv s k):s9 s.g8:=by
 have:=h.len
 have:=h.le
 unfold s9
 omega
theorem d2v {α:Type} {o:List α} {d:α} (h:o.length≤80):((o++[d]).length+1) * 32≤140737488355328:=by
 rw [show (o++[d]).length=o.length+1 from by simp]
 omega
theorem f2T {l:List n6} {d:n6} (hl:l.length≤40):b9B l d=some (a2a l d):=by
 have hf:s9 l:=by unfold s9; omega
 have hlen : ∀ k,k≤l.length→((l.take k).foldl (R3 d) ([],false)).1.length≤80:=by
  intro k hk
  have:=c1S d (l.take k) ([],false)
  simp only [List.length_nil,List.length_take] at this
  omega
 unfold b9B
 have hloop:=a05 (body:=fun s:(List n6)×Bool×Int=>b4A l d s.1 s.2.1 s.2.2) (fun k=>(((l.take k).foldl (R3 d) ([],false)).1,((l.take k).foldl (R3 d) ([],false)).2,(k:Int))) l.length (by
  intro k hk
  have hb:=hlen k (by omega)
  rw [List.take_succ_eq_append_getElem hk,List.foldl_append]
  generalize (l.take k).foldl (R3 d) ([],false)=st at hb
  obtain ⟨o,i⟩:=st
  simp only at hb
  simp only [List.foldl_cons,List.foldl_nil]
  unfold b4A c8D c7I R3
  rw [x6 _ k hk,t8 hk,J0 hf hk]
  have n1:(o.length+1) * 32≤140737488355328:=by omega
  have n2:((o++[d]).length+1) * 32≤140737488355328:=d2v (by omega)
  cases i<;>cases h1:decide (l[k].a5.c8≥d.a5.c8)<;>cases h2:l[k].a5.c8 != d.a5.c8<;>simp only [h1,h2,x5 n1,x5 n2,cond_true,cond_false,Option.bind_some,j8.go,Bool.not_true,Bool.not_false,Bool.true_and,Bool.false_and])
 simp only [List.take_zero,List.foldl_nil,List.take_length] at hloop
 rw [show ((0:Nat):Int)=0 from rfl] at hloop
 rw [hloop,H3 (b:=l.foldl (R3 d) ([],false))]
 ·have hb:=hlen l.length (Nat.le_refl _)
  rw [List.take_length] at hb
  unfold c1H c2O a2a
  generalize l.foldl (R3 d) ([],false)=st at hb
  obtain ⟨o,i⟩:=st
  have n1:(o.length+1) * 32≤140737488355328:=by simp only at hb; omega
  cases i<;>simp only [x5 n1,cond_true,cond_false,Option.bind_some,j8.go,Bool.not_true,Bool.not_false]
 ·unfold b4A
  rw [A4]; rfl
def a3g (s:q7) (e:l8):q7×Int :=
 bif a5Q s.d8 e.b6 then
  (bif e.b6.Code==0 then (⟨s.At+1,b3m s.d8 e.b6.a9,a2a s.g8 ⟨e.a5,0,e.b6.d6⟩⟩,0)
  else (⟨s.At+1,s.d8,a2a s.g8 ⟨e.a5,2,0⟩⟩,2))
 else (⟨s.At+1,s.d8,a2a s.g8 ⟨e.a5,1,0⟩⟩,1)
def apply (s:q7) (e:l8):q7×Int :=
 bif e.i0 then (⟨s.At+1,s.d8,s.g8⟩,5) else
 match s.g8.find? (fun d=>d.a5.c8==e.a5.c8) with
 | some d=>bif d.a5.Seq==e.a5.Seq then (⟨s.At+1,s.d8,s.g8⟩,3) else bif decide (d.a5.Seq>e.a5.Seq) then (⟨s.At+1,s.d8,s.g8⟩,4) else a3g s e
 | none=>a3g s e
theorem b1i {e:l8} (h:B8 e=true) (hn:e.i0=false):(0≤e.a5.c8∧e.a5.c8≤2)∧(1≤e.a5.Seq∧e.a5.Seq≤1000)∧a0y e.b6=true∧e.b6.Code≠3:=by
 unfold B8 at h
 rw [hn] at h
 simp [p9] at h
 exact ⟨h.1.1,h.1.2,h.2.1,h.2.2⟩
theorem f2F {s:q7} (h:s9 s.g8) (who:Int):b9t s who=some (match s.g8.find? (fun d=>d.a5.c8==who) with | some d=>(d,true) | none=>(⟨⟨0,0⟩,0,0⟩,false)):=by
 unfold b9t
 rw [b5m s.g8 h (fun d=>d.a5.c8==who) (fun d=>(d,true)) ()]
 ·cases s.g8.find? fun d=>d.a5.c8==who<;>rfl
 ·intro k hk
  unfold c00
  rw [x6 _ k hk,t8 hk]
  simp only [cond_true,Option.bind_some]
  cases s.g8[k].a5.c8==who<;>rfl
 ·unfold c00
  rw [A4]; rfl
theorem b7g {s:q7} {k:Nat} {e:l8} (hs:Inv s k) (hk:k<40) (he:B8 e=true) (hf:a2R e):a78 s e=some (apply s e):=by
 have hw:m9 (s.At+1)=s.At+1:=by rw [hs.at_]; exact E7 (by omega) (by omega)
 unfold a78 apply
 rw [hw,f2F (s:=⟨s.At+1,s.d8,s.g8⟩) hs.fits]
 cases hn:e.i0
 case true=>rfl
 obtain ⟨_,_,hr,hc3⟩:=b1i he hn
 have hp : ∀ p∈e.b6.a9,a3X p:=(a8A hr).2.2.2.2
 have hfr:c0x s e=some (a3g s e):=by
  unfold c0x c2c c2S a3g
  simp only [e8u (a3T hs.boxes) hf.2,hs.boxes,hr,Bool.true_and,Option.bind_some,hw,f2T (Nat.le_trans hs.len (by omega)),d5N hs.boxes hf.2 hp]
  cases a5Q s.d8 e.b6
  ·rfl
  ·cases e.b6.Code==0<;>rfl
 simp only [cond_false,Option.bind_some,hfr]
 cases hfd:s.g8.find? fun d=>d.a5.c8==e.a5.c8 with
 | none=>rfl
 | some d =>
  have hwho:d.a5.c8=e.a5.c8:=by simpa using List.find?_some hfd
  have hq:(([d.a5.c8,d.a5.Seq]:List Int)==[e.a5.c8,e.a5.Seq])=(d.a5.Seq==e.a5.Seq):=by
   rw [hwho]; simp
  simp only [hq,cond_true]
  cases d.a5.Seq==e.a5.Seq
  ·cases decide (d.a5.Seq>e.a5.Seq)<;>rfl
  ·rfl
theorem e2O {l:List n6} (h:a5y l) (who seq:Int):l.find? (fun d=>d.a5.c8==who&&decide (d.a5.Seq≥seq))=match l.find? (fun d=>d.a5.c8==who) with
  | some d=>bif decide (d.a5.Seq≥seq) then some d else none
  | none=>none:=by
 induction l with
 | nil=>rfl
 | cons x l ih =>
  obtain ⟨h1,h2⟩:=List.pairwise_cons.1 h
  rw [List.find?_cons,List.find?_cons]
  cases hx:x.a5.c8==who with
  | false=>simpa using ih h2
  | true =>
   cases hs:decide (x.a5.Seq≥seq) with
   | true=>simp [hs]
   | false =>
    simp only [Bool.and_false,hs,cond_false]
    rw [List.find?_eq_none]
    intro y hy
    have:=h1 y hy
    have hx':x.a5.c8=who:=by simpa using hx
    simp
    intro hyw
    omega
theorem e8N {s:q7} {k:Nat} (hs:Inv s k):b7E s=some true:=by
 unfold b7E
 have hloop:=a05 (body:=fun v:Int=>b3g s v) (fun j=>(j:Int)) s.g8.length (by
  intro j hj
  have hd:=hs.dones _ (List.getElem_mem hj)
  unfold a9k at hd
  simp only [Bool.and_eq_true,Bool.or_eq_true] at hd
  obtain ⟨⟨d1,d2⟩,d3,d4,d5⟩:=hd
  unfold b3g c2j
  rw [x6 _ j hj,t8 hj,J0 hs.fits hj]
  simp only [cond_true,Option.bind_some,c1b,a0r,d1,d2,d3,d4,Bool.and_true,Bool.not_true,cond_false]
  cases j with
  | zero =>
   rw [show decide (((0:Nat):Int)>0)=false from by decide]
   simp only [cond_false]
   unfold bne
   rcases d5 with d5 | d5<;>simp [d5,j8.go,Option.bind]
  | succ j =>
   have hlt:(s.g8[j]'(by omega)).a5.c8<s.g8[j+1].a5.c8:=List.pairwise_iff_getElem.1 hs.sorted j (j+1) (by omega) hj (by omega)
   have hge : ¬ (s.g8[j]'(by omega)).a5.c8≥s.g8[j+1].a5.c8:=by omega
   have hle:=hs.fits
   unfold s9 at hle
   rw [show m9 (((j+1:Nat):Int) - 1)=(j:Int) from by rw [E7 (by omega) (by omega)]; omega,t8 (show j<s.g8.length by omega)]
   have hpos:decide (((j+1:Nat):Int)>0)=true:=by simp
   simp only [hpos,cond_true,Option.bind_some,hge,decide_false,cond_false]
   unfold bne
   rcases d5 with d5 | d5<;>simp [d5,j8.go,Option.bind])
 rw [show ((0:Nat):Int)=0 from rfl] at hloop
 rw [hloop,H3 (b:=())]
 ·unfold c3a
  have:=hs.le
  have ha:p9 s.At 0 40=true:=by rw [hs.at_]; simp [p9]; omega
  simp [j8.go,a0r,ha,b5t (a3T hs.boxes),hs.boxes]
 ·unfold b3g
  rw [A4]; rfl
theorem c1g {s:q7} {own:n6} {bx:List m4} (hl:s.g8.length≤40) (hw:m9 (s.At+1)=s.At+1) (hd:a5y s.g8):c0p s own bx=some (⟨s.At+1,bx,a2a s.g8 own⟩,own.Code):=by
 have hf:s9 s.g8:=by unfold s9; omega
 have hlen : ∀ k,k≤s.g8.length→((s.g8.take k).foldl (R3 own) ([],false)).1.length≤80:=by
  intro k hk
  have:=c1S own (s.g8.take k) ([],false)
  simp only [List.length_nil,List.length_take] at this
  omega
 unfold c0p
 have hloop:=a05 (body:=fun x:(List n6)×Int×Bool=>b2D s own x.1 x.2.1 x.2.2) (fun k=>(((s.g8.take k).foldl (R3 own) ([],false)).1,(k:Int),((s.g8.take k).foldl (R3 own) ([],false)).2)) s.g8.length (by
  intro k hk
  have hb:=hlen k (by omega)
  rw [List.take_succ_eq_append_getElem hk,List.foldl_append]
  generalize (s.g8.take k).foldl (R3 own) ([],false)=st at hb
  obtain ⟨o,i⟩:=st
  simp only at hb
  simp only [List.foldl_cons,List.foldl_nil]
  unfold b2D c3n c5E R3
  rw [x6 _ k hk,t8 hk,J0 hf hk]
  have n1:(o.length+1) * 32≤140737488355328:=by omega
  have n2:((o++[own]).length+1) * 32≤140737488355328:=d2v (by omega)
  cases i<;>cases h1:decide (s.g8[k].a5.c8≥own.a5.c8)<;>cases h2:s.g8[k].a5.c8 != own.a5.c8<;>simp only [h1,h2,x5 n1,x5 n2,cond_true,cond_false,Option.bind_some,j8.go,Bool.not_true,Bool.not_false,Bool.true_and,Bool.false_and])
 simp only [List.take_zero,List.foldl_nil,List.take_length] at hloop
 rw [show ((0:Nat):Int)=0 from rfl] at hloop
 rw [hloop,H3 (b:=s.g8.foldl (R3 own) ([],false))]
 ·have hb:=hlen s.g8.length (Nat.le_refl _)
  rw [List.take_length] at hb
  have hpl:=d6V own hd
  have hcp:a6Z (a2a s.g8 own)=some (a2a s.g8 own):=c94 (by omega)
  unfold c1Z c2w
  unfold a2a at hcp ⊢
  generalize s.g8.foldl (R3 own) ([],false)=st at hb hcp
  obtain ⟨o,i⟩:=st
  have n1:(o.length+1) * 32≤140737488355328:=by simp only at hb; omega
  cases i<;>simp only [x5 n1,cond_true,cond_false,Option.bind_some,j8.go,Bool.not_true,Bool.not_false,hw] at hcp ⊢ <;> rw [hcp]<;>rfl
 ·unfold b2D
  rw [A4]; rfl
theorem c8M {s:q7} {k:Nat} {e:l8} (hs:Inv s k) (hk:k<40) (he:B8 e=true) (hf:a2R e):c0y s e=some (apply s e):=by
 have hw:m9 (s.At+1)=s.At+1:=by rw [hs.at_]; exact E7 (by omega) (by omega)
 have hl:=hs.len
 have hcd:a6Z s.g8=some s.g8:=c94 (by omega)
 have hcb:a9z s.d8=some s.d8:=c48 (by rw [b1s hs.boxes]; decide)
 have hat:(s.At==40)=false:=by rw [hs.at_]; simp; omega
 unfold c0y apply
 rw [e8N hs,a8i hf,he]
 simp only [Option.bind_some,Bool.not_true,cond_false,hat,hcb,hcd,hw]
 cases hn:e.i0
 case true=>rfl
 obtain ⟨_,_,hr,hc3⟩:=b1i he hn
 have hfr:b8k s e s.d8=some (a3g s e):=by
  unfold b8k a3g
  simp only [f2h (a3T hs.boxes) hf.2,hs.boxes,hr,Bool.true_and,Option.bind_some,d5F hs.boxes hf.2 hr]
  cases a5Q s.d8 e.b6
  ·simp only [Bool.not_false,cond_true,cond_false,Option.bind_some,j8.go]
   exact c1g (by omega) hw hs.sorted
  ·unfold bne
   cases e.b6.Code==0
   ·simp only [Bool.not_false,Bool.not_true,cond_true,cond_false,Option.bind_some,j8.go]
    exact c1g (by omega) hw hs.sorted
   ·simp only [Bool.not_true,cond_true,cond_false,Option.bind_some,j8.go]
    exact c1g (by omega) hw hs.sorted
 simp only [cond_false]
 rw [b5m s.g8 hs.fits (fun d=>d.a5.c8==e.a5.c8&&decide (d.a5.Seq≥e.a5.Seq)) (fun d=>(⟨s.At+1,s.d8,s.g8⟩,bif d.a5.Seq==e.a5.Seq then 3 else 4)) ()]
 ·rw [e2O hs.sorted]
  cases s.g8.find? fun d=>d.a5.c8==e.a5.c8 with
  | none=>simp only [Option.bind_some,j8.go,hfr]
  | some d =>
   cases hq:d.a5.Seq==e.a5.Seq with
   | true =>
    have:d.a5.Seq≥e.a5.Seq:=by
     have:d.a5.Seq=e.a5.Seq:=by simpa using hq
     omega
    simp [this,j8.go,hq]
   | false =>
    have hne:d.a5.Seq≠e.a5.Seq:=by simpa using hq
    by_cases hg:d.a5.Seq>e.a5.Seq
    ·have:d.a5.Seq≥e.a5.Seq:=by omega
     simp [this,j8.go,hg,hq]
    ·have : ¬ d.a5.Seq≥e.a5.Seq:=by omega
     simp [this,j8.go,hg,hfr,hq]
 ·intro j hj
  unfold c0T c7E
  rw [x6 _ j hj,t8 hj]
  simp only [cond_true,Option.bind_some,hcd,hw]
  cases h1:s.g8[j].a5.c8==e.a5.c8<;>cases h2:decide (s.g8[j].a5.Seq≥e.a5.Seq)<;>cases h3:s.g8[j].a5.Seq==e.a5.Seq<;>simp only [cond_true,cond_false,Option.bind_some,j8.go,Bool.true_and,Bool.false_and,Bool.and_true,Bool.and_false]
 ·unfold c0T
  rw [A4]; rfl
theorem f1x {s:q7} {k:Nat} {e:l8} (hs:Inv s k) (hk:k<40) (he:B8 e=true) (hn:e.i0=false):Inv (a3g s e).1 (k+1)∧0≤(a3g s e).2∧(a3g s e).2≤5:=by
  obtain ⟨h1,h2,hr,hc3⟩:=b1i he hn
  have hp:=a8A hr
  have hat:s.At+1=((k+1:Nat):Int):=by rw [hs.at_]; rfl
  have key : ∀ (bx:List m4) (d:n6),F8 bx=true→a9k d=true→Inv ⟨s.At+1,bx,a2a s.g8 d⟩ (k+1):=fun bx d hb hd =>
    { at_:=hat,le:=by omega,boxes:=hb,sorted:=e9p d hs.sorted
      dones:=fun x hx=>by
        rcases e7U hs.sorted hx with hx | rfl
        · exact hs.dones x hx
        · exact hd
      len:=by
        have:=d6V d hs.sorted
        have:=hs.len
        simp only
        omega }
  have hd0 : ∀ c:Int,0≤c→c≤2→a9k ⟨e.a5,c,0⟩=true:=by
    intro c c1 c2
    unfold a9k p9
    simp
    omega
  have hd1:a9k ⟨e.a5,0,e.b6.d6⟩=true:=by
    unfold a9k p9
    simp
    omega
  unfold a3g
  cases a5Q s.d8 e.b6
  · exact ⟨key _ _ hs.boxes (hd0 1 (by decide) (by decide)),show (0:Int)≤1 from by decide,show (1:Int)≤5 from by decide⟩
  · cases e.b6.Code==0
    · exact ⟨key _ _ hs.boxes (hd0 2 (by decide) (by decide)),show (0:Int)≤2 from by decide,show (2:Int)≤5 from by decide⟩
    · exact ⟨key _ _ (c0r hs.boxes hp.2.2.2.2) hd1,show (0:Int)≤0 from by decide,show (0:Int)≤5 from by decide⟩
theorem f4N {s:q7} {k:Nat} {e:l8} (hs:Inv s k) (hk:k<40) (he:B8 e=true):Inv (apply s e).1 (k+1)∧0≤(apply s e).2∧(apply s e).2≤5:=by
 have hat:s.At+1=((k+1:Nat):Int):=by rw [hs.at_]; rfl
 have key:Inv ⟨s.At+1,s.d8,s.g8⟩ (k+1):={ at_:=hat,le:=by omega,boxes:=hs.boxes,sorted:=hs.sorted,dones:=hs.dones,len:=Nat.le_succ_of_le hs.len }
 unfold apply
 cases hn:e.i0
 ·have hfr:=f1x hs hk he hn
  simp only [cond_false]
  cases s.g8.find? fun d=>d.a5.c8==e.a5.c8 with
  | none=>exact hfr
  | some d =>
   simp only
   cases d.a5.Seq==e.a5.Seq
   ·cases decide (d.a5.Seq>e.a5.Seq)
    ·exact hfr
    ·exact ⟨key,show (0:Int)≤4 from by decide,show (4:Int)≤5 from by decide⟩
   ·exact ⟨key,show (0:Int)≤3 from by decide,show (3:Int)≤5 from by decide⟩
 ·exact ⟨key,show (0:Int)≤5 from by decide,show (5:Int)≤5 from by decide⟩
def W1:q7:=⟨0,List.replicate 4 ⟨0,0⟩,[]⟩
theorem f2z:Inv W1 0:={ at_:=rfl,le:=by omega,boxes:=by decide,sorted:=.nil,dones:=by simp [W1],len:=by simp [W1] }
theorem b6B:a8d=some W1:=by
 unfold a8d b4o
 rw [x5 (by decide)]
 rfl
theorem f0L:b9v=some W1:=by
 unfold b9v b5p
 rw [x5 (by decide)]
 rfl
def b1K (st:q7×List Int) (e:l8):q7×List Int:=((apply st.1 e).1,st.2++[(apply st.1 e).2])
def r9 (l:List l8):q7×List Int:=l.foldl b1K (W1,[])
theorem a4S {l:List l8} {k:Nat} (hk:k<l.length):r9 (l.take (k+1))=b1K (r9 (l.take k)) l[k]:=by
 unfold r9
 rw [List.take_succ_eq_append_getElem hk,List.foldl_append]
 rfl
theorem a1X {l:List l8} (hl:l.length≤40) (he:l.all B8=true) : ∀ k,k≤l.length→Inv (r9 (l.take k)).1 k∧(r9 (l.take k)).2.length=k ∧ ∀ c∈(r9 (l.take k)).2,0≤c∧c≤5
 | 0,_=>by
  rw [List.take_zero]
  exact ⟨f2z,rfl,by simp [r9]⟩
 | k+1,hk=>by
  obtain ⟨h1,h2,h3⟩:=a1X hl he k (by omega)
  have ha:=f4N h1 (by omega) (List.all_eq_true.1 he _ (List.getElem_mem (show k<l.length by omega)))
  rw [a4S (show k<l.length by omega)]
  refine ⟨ha.1,by simp [b1K,h2],fun c hc => ?_⟩
  unfold b1K at hc
  rcases List.mem_append.1 hc with hc | hc
  ·exact h3 c hc
  ·rw [List.mem_singleton] at hc
   rw [hc]
   exact ha.2
theorem a2V {l:List l8} (h:L0 l=true):l.length≤40∧l.all B8=true:=by
 unfold L0 at h
 simpa using h
theorem c6l {l:List l8} (h:C3 88 a2R l) (hl:l.length≤40) (he:l.all B8=true):b1U l=some (r9 l):=by
  have hf:s9 l:=h.fits (by decide)
  unfold b1U
  rw [f0L,Option.bind_some]
  first
  | (have hloop:=a05 (body:=fun s:(List m4)×(List n6)×(List Int)×Int×Int=>a2E l s.1 s.2.1 s.2.2.1 s.2.2.2.1 s.2.2.2.2) (fun k=>((r9 (l.take k)).1.d8,(r9 (l.take k)).1.g8,(r9 (l.take k)).2,(k:Int),(r9 (l.take k)).1.At)) l.length (by
       intro k hk
       obtain ⟨h1,h2,h3⟩:=a1X hl he k (by omega)
       have n1:((r9 (l.take k)).2.length+1) * 8≤140737488355328:=by rw [h2]; omega
       rw [a4S hk]
       unfold a2E
       rw [x6 _ k hk,t8 hk,J0 hf hk]
       simp only [cond_true,Option.bind_some]
       rw [c8M h1 (by omega) (List.all_eq_true.1 he _ (List.getElem_mem hk)) (h.2 _ (List.getElem_mem hk)),Option.bind_some,x5 n1]
       rfl)
     rw [List.take_zero,List.take_length] at hloop
     rw [show ((0:Nat):Int)=0 from rfl] at hloop
     rw [show o9 (fun s:(List m4)×(List n6)×(List Int)×Int×Int=>a2E l s.1 s.2.1 s.2.2.1 s.2.2.2.1 s.2.2.2.2) (W1.d8,W1.g8,([]:List Int),0,W1.At)=_ from hloop,H3 (b:=((r9 l).1.d8,(r9 l).1.g8,(r9 l).2,(r9 l).1.At))]
     · rfl
     · unfold a2E
       rw [A4]; rfl
     done)
  | (have hloop:=a05 (body:=fun s:q7×(List Int)×Int=>a2E l s.1 s.2.1 s.2.2) (fun k=>((r9 (l.take k)).1,(r9 (l.take k)).2,(k:Int))) l.length (by
       intro k hk
       obtain ⟨h1,h2,h3⟩:=a1X hl he k (by omega)
       have n1:((r9 (l.take k)).2.length+1) * 8≤140737488355328:=by rw [h2]; omega
       rw [a4S hk]
       unfold a2E
       rw [x6 _ k hk,t8 hk,J0 hf hk]
       simp only [cond_true,Option.bind_some]
       rw [c8M h1 (by omega) (List.all_eq_true.1 he _ (List.getElem_mem hk)) (h.2 _ (List.getElem_mem hk)),Option.bind_some,x5 n1]
       rfl)
     rw [List.take_zero,List.take_length] at hloop
     rw [show ((0:Nat):Int)=0 from rfl] at hloop
     rw [show o9 (fun s:q7×(List Int)×Int=>a2E l s.1 s.2.1 s.2.2) (W1,[],0)=_ from hloop,H3 (b:=r9 l)]
     · rfl
     · unfold a2E
       rw [A4]; rfl
     done)
  | (have hloop:=a05 (body:=fun s:(List m4)×(List Int)×Int×Int×List n6=>a2E l s.1 s.2.1 s.2.2.1 s.2.2.2.1 s.2.2.2.2) (fun k=>((r9 (l.take k)).1.d8,(r9 (l.take k)).2,(k:Int),(r9 (l.take k)).1.At,(r9 (l.take k)).1.g8)) l.length (by
       intro k hk
       obtain ⟨h1,h2,h3⟩:=a1X hl he k (by omega)
       have n1:((r9 (l.take k)).2.length+1) * 8≤140737488355328:=by rw [h2]; omega
       rw [a4S hk]
       unfold a2E
       rw [x6 _ k hk,t8 hk,J0 hf hk]
       simp only [cond_true,Option.bind_some]
       rw [show (⟨(r9 (l.take k)).1.At,(r9 (l.take k)).1.d8,(r9 (l.take k)).1.g8⟩:q7)=(r9 (l.take k)).1 from rfl,c8M h1 (by omega) (List.all_eq_true.1 he _ (List.getElem_mem hk)) (h.2 _ (List.getElem_mem hk)),Option.bind_some,x5 n1]
       rfl)
     rw [List.take_zero,List.take_length] at hloop
     rw [show ((0:Nat):Int)=0 from rfl] at hloop
     rw [show o9 (fun s:(List m4)×(List Int)×Int×Int×List n6=>a2E l s.1 s.2.1 s.2.2.1 s.2.2.2.1 s.2.2.2.2) (W1.d8,[],0,W1.At,W1.g8)=_ from hloop,H3 (b:=((r9 l).1.d8,(r9 l).2,(r9 l).1.At,(r9 l).1.g8))]
     · rfl
     · unfold a2E
       rw [A4]; rfl
     done)
def Rd (r:n8) (m:Nat):Prop:=(∀ x∈r.b,a6v x)∧r.b.length≤2000∧0≤r.p∧r.p≤(m:Int)
theorem Rd.mono {r:n8} {m n:Nat} (h:Rd r m) (hn:m≤n):Rd r n:=⟨h.1,h.2.1,h.2.2.1,by have:=h.2.2.2; omega⟩
theorem e5I {x y:Int} (hx:0≤x) (hx2:x<4611686018427387904) (hy:0≤y) (hy2:y<4611686018427387904):0≤a63 .i64 x y∧a63 .i64 x y<4611686018427387904:=by
 obtain ⟨a,rfl⟩ : ∃ a:Nat,x=(a:Int):=⟨x.toNat,by omega⟩
 obtain ⟨b,rfl⟩ : ∃ b:Nat,y=(b:Int):=⟨y.toNat,by omega⟩
 have hxor:a ^^^ b<2 ^ 62:=Nat.xor_lt_two_pow (by omega) (by omega)
 have h:a63 .i64 (a:Int) (b:Int)=((a ^^^ b:Nat):Int):=by
  unfold a63
  rw [BitVec.toNat_xor]
  have e1:(BitVec.ofInt IntKind.i64.bits (a:Int)).toNat=a:=by
   show (BitVec.ofInt 64 (a:Int)).toNat=a
   rw [BitVec.toNat_ofInt]
   omega
  have e2:(BitVec.ofInt IntKind.i64.bits (b:Int)).toNat=b:=by
   show (BitVec.ofInt 64 (b:Int)).toNat=b
   rw [BitVec.toNat_ofInt]
   omega
  rw [e1,e2]
  exact IntWalk.i64_in _ ⟨by omega,by omega⟩
 rw [h]
 omega
theorem c2E {l:List Int} (h : ∀ x∈l,a6v x) {i:Int} (h0:0≤i) (h1:i<l.length) : ∃ y,idx l i=some y∧0≤y∧y≤255:=by
 have hlt:i.toNat<l.length:=by omega
 refine ⟨l[i.toNat],?_,h _ (List.getElem_mem hlt)⟩
 unfold idx
 rw [if_pos h0,List.getElem?_eq_getElem hlt]
theorem b7Z {x n:Int} (hx:0≤x) (hn:1≤n):0≤Int.tmod x n∧Int.tmod x n<n:=by
 rw [Int.tmod_eq_emod_of_nonneg hx]
 exact ⟨Int.emod_nonneg _ (by omega),Int.emod_lt_of_pos _ (by omega)⟩
theorem d5z {x n:Int} (hx:0≤x) (hn:1≤n):0≤Int.tdiv x n∧Int.tdiv x n≤x:=by
 rw [Int.tdiv_eq_ediv_of_nonneg hx]
 exact ⟨Int.ediv_nonneg hx (by omega),Int.ediv_le_self _ hx⟩
theorem L3 {r:n8} {m:Nat} (h:Rd r m) (hm:m≤1000000000) (n:Int) : ∃ v r',H5 r n=some (v,r')∧Rd r' (m+1)∧0≤v∧(v<n∨v=0):=by
 obtain ⟨hb,hbl,hp0,hp1⟩:=h
 have hw:m9 (r.p+1)=r.p+1:=E7 (by omega) (by omega)
 have hw2:m9 (r.p+1 - 1)=r.p:=by rw [E7 (by omega) (by omega)]; omega
 have hr:Rd ⟨r.b,r.p+1⟩ (m+1):=⟨hb,hbl,by simp only; omega,by simp only; omega⟩
 unfold H5
 simp only [hw,hw2]
 by_cases hn:n<1
 ·simp only [hn,decide_true,cond_true]
  exact ⟨0,_,rfl,hr,by omega,.inr rfl⟩
 simp only [hn,decide_false,cond_false]
 cases he:((r.b.length:Int)==0)
 case true=>exact ⟨0,_,rfl,hr,by omega,.inr rfl⟩
 have hpos:0<r.b.length:=by
  have : ¬ (r.b.length:Int)=0:=by simpa using he
  omega
 have hne:(r.b.length:Int)≠0:=by omega
 have hnn:n≠0:=by omega
 simp only [cond_false]
 by_cases hlt:r.p<(r.b.length:Int)
 ·obtain ⟨y,h1,h2,h3⟩:=c2E hb hp0 hlt
  simp only [hlt,decide_true,cond_true,h1,Option.bind_some,x5 hnn]
  rw [E7 (n:=y) (by omega) (by omega)]
  have:=b7Z h2 (show 1≤n by omega)
  exact ⟨_,_,rfl,hr,this.1,.inl this.2⟩
 ·simp only [hlt,decide_false,cond_false,x5 hne,x5 hnn]
  have t1:=b7Z hp0 (show (1:Int)≤(r.b.length:Int) by omega)
  obtain ⟨y1,a1,a2,a3⟩:=c2E hb t1.1 t1.2
  have w7:m9 (r.p * 7)=r.p * 7:=E7 (by omega) (by omega)
  have w73:m9 (r.p * 7+3)=r.p * 7+3:=E7 (by omega) (by omega)
  have t2:=b7Z (show 0≤r.p * 7+3 by omega) (show (1:Int)≤(r.b.length:Int) by omega)
  obtain ⟨y2,b1,b2,b3⟩:=c2E hb t2.1 t2.2
  simp only [a1,w7,w73,b1,Option.bind_some]
  have td:=d5z hp0 (show (1:Int)≤(r.b.length:Int) by omega)
  have c1:m9 (m9 y1 * 131)=y1 * 131:=by rw [E7 (n:=y1) (by omega) (by omega),E7 (by omega) (by omega)]
  have c2:m9 (m9 y2 * 1117)=y2 * 1117:=by rw [E7 (n:=y2) (by omega) (by omega),E7 (by omega) (by omega)]
  have c3:m9 (r.p * 29)=r.p * 29:=E7 (by omega) (by omega)
  have c4:m9 (m9 (Int.tdiv r.p (r.b.length:Int)) * 53)=Int.tdiv r.p (r.b.length:Int) * 53:=by rw [E7 (n:=Int.tdiv r.p (r.b.length:Int)) (by omega) (by omega),E7 (by omega) (by omega)]
  simp only [c1,c2,c3,c4]
  generalize Int.tdiv r.p (r.b.length:Int)=q at td
  rw [E7 (n:=y1 * 131+y2 * 1117) (by omega) (by omega),E7 (n:=y1 * 131+y2 * 1117+r.p * 29) (by omega) (by omega),E7 (n:=y1 * 131+y2 * 1117+r.p * 29+q * 53) (by omega) (by omega)]
  have hA0:0≤y1 * 131+y2 * 1117+r.p * 29+q * 53:=by omega
  have hA1:y1 * 131+y2 * 1117+r.p * 29+q * 53<1000000000000:=by omega
  generalize y1 * 131+y2 * 1117+r.p * 29+q * 53=A at hA0 hA1
  have t3:=d5z hA0 (show (1:Int)≤64 by omega)
  rw [E7 (n:=Int.tdiv A 64) (by omega) (by omega)]
  have hx:=e5I hA0 (by omega) t3.1 (by omega)
  have t4:=b7Z hx.1 (show 1≤n by omega)
  exact ⟨_,_,rfl,hr,t4.1,.inl t4.2⟩
theorem b4y {r:n8} {m:Nat} (h:Rd r m) (hm:m≤1000000000) (l:List Int) (hl:0<l.length) (hl2:l.length≤1000) : ∃ v r',a7o r l=some (v,r')∧Rd r' (m+1)∧v∈l:=by
 obtain ⟨v,r',h1,h2,h3,h4⟩:=L3 h hm (l.length:Int)
 unfold a7o
 rw [h1,Option.bind_some]
 have hlt:v.toNat<l.length:=by omega
 refine ⟨l[v.toNat],r',?_,h2,List.getElem_mem hlt⟩
 unfold idx
 simp only [if_pos h3,List.getElem?_eq_getElem hlt,Option.bind_some]
theorem e8K {N8:List Int} (h : ∀ x∈N8,a6v x) : ∃ r,c0l N8=some r∧Rd r 0:=by
 unfold c0l c2P
 by_cases hl:(N8.length:Int)>2000
 ·simp only [hl,decide_true,cond_true]
  rw [x5 ⟨by omega,by omega⟩]
  refine ⟨_,rfl,?_,?_,by simp,by simp⟩
  ·intro x hx
   simp only [List.drop_zero] at hx
   exact h x (List.mem_of_mem_take hx)
  ·simp only [List.length_take]
   have:(2000:Int).toNat - 0=2000:=by decide
   omega
 ·simp only [hl,decide_false,cond_false]
  exact ⟨_,rfl,h,by simp only; omega,by simp,by simp⟩
def Z3 (i:m7):Bool :=
 bif i.c9==1 then p9 i.A 0 3&&(p9 i.B 0 3&&i.N==0) else
 bif i.c9==2 then p9 i.A 0 3&&(p9 i.B 0 3&&i.N==0) else
 bif i.c9==3 then p9 i.A 0 3&&(i.B==0&&p9 i.N (-1000000) 1000000) else
 bif i.c9==4 then p9 i.A 0 3&&(p9 i.B 0 3&&i.N==0) else
 bif i.c9==5 then p9 i.A 0 3&&(p9 i.B 0 3&&i.N==0) else
 bif i.c9==6 then p9 i.A 0 3&&(p9 i.B 0 3&&p9 i.N 1 10) else
 bif i.c9==7 then i.A==0&&(i.B==0&&i.N==0) else false
theorem e0o (n:Int):a4d n=some (p9 n 0 3):=by
 rw [← a0r]
 unfold a4d K8
 have:(n<4)=(n≤3):=by apply propext; omega
 simp only [this]
theorem f1p (i:m7):b93 i=some (Z3 i):=by
 unfold b93 Z3
 have h6:(bif decide (i.N≥1) then some (decide (i.N≤10)) else some false)=some (p9 i.N 1 10):=by
  unfold p9
  by_cases h1:i.N≥1<;>by_cases h2:i.N≤10<;>simp [h1,h2]<;>omega
 simp only [e0o,c7B,a7F,Option.bind_some,h6]
 cases i.c9==1<;>cases i.c9==2<;>cases i.c9==3<;>cases i.c9==4<;>cases i.c9==5<;>cases i.c9==6<;>cases i.c9==7<;>cases p9 i.A 0 3<;>cases p9 i.B 0 3<;>cases i.A==0<;>cases i.B==0<;>rfl
def I8 (l:List m7):Bool:=decide (l.length≤10)&&l.all Z3
theorem b83 {l:List m7} (h:s9 l):b2f l=some (I8 l):=by
 unfold b2f I8
 rw [show (10:Int)=((10:Nat):Int) from rfl,b21,M0 l h Z3 false ()]
 ·cases decide (l.length≤10)
  ·rfl
  ·cases l.all Z3<;>rfl
 ·intro k hk
  unfold b7Y
  rw [x6 _ k hk,t8 hk]
  simp only [cond_true,Option.bind_some,f1p]
  cases Z3 l[k]<;>rfl
 ·unfold b7Y
  rw [A4]; rfl
theorem a8t {i:m7} (h:Z3 i=true):(i.c9=1∧(0≤i.A∧i.A≤3)∧(0≤i.B∧i.B≤3))∨(i.c9=2∧(0≤i.A∧i.A≤3)∧(0≤i.B∧i.B≤3))∨(i.c9=3∧(0≤i.A∧i.A≤3)∧(-1000000≤i.N∧i.N≤1000000)) ∨
  (i.c9=4∧(0≤i.A∧i.A≤3)∧(0≤i.B∧i.B≤3))∨(i.c9=5∧(0≤i.A∧i.A≤3)∧(0≤i.B∧i.B≤3))∨(i.c9=6∧(0≤i.A∧i.A≤3)∧(0≤i.B∧i.B≤3)∧(1≤i.N∧i.N≤10))∨(i.c9=7∧i.A=0):=by
 unfold Z3 p9 at h
 by_cases h1:i.c9=1
 ·simp [h1] at h; exact .inl ⟨h1,h.1,h.2.1⟩
 by_cases h2:i.c9=2
 ·simp [h2] at h; exact .inr (.inl ⟨h2,h.1,h.2.1⟩)
 by_cases h3:i.c9=3
 ·simp [h3] at h; exact .inr (.inr (.inl ⟨h3,h.1,h.2.2⟩))
 by_cases h4:i.c9=4
 ·simp [h4] at h; exact .inr (.inr (.inr (.inl ⟨h4,h.1,h.2.1⟩)))
 by_cases h5:i.c9=5
 ·simp [h5] at h; exact .inr (.inr (.inr (.inr (.inl ⟨h5,h.1,h.2.1⟩))))
 by_cases h6:i.c9=6
 ·simp [h6] at h; exact .inr (.inr (.inr (.inr (.inr (.inl ⟨h6,h.1,h.2.1,h.2.2⟩)))))
 by_cases h7:i.c9=7
 ·simp [h7] at h; exact .inr (.inr (.inr (.inr (.inr (.inr ⟨h7,h.1⟩)))))
 ·have e1:(i.c9==1)=false:=by simpa using h1
  have e2:(i.c9==2)=false:=by simpa using h2
  have e3:(i.c9==3)=false:=by simpa using h3
  have e4:(i.c9==4)=false:=by simpa using h4
  have e5:(i.c9==5)=false:=by simpa using h5
  have e6:(i.c9==6)=false:=by simpa using h6
  have e7:(i.c9==7)=false:=by simpa using h7
  rw [e1,e2,e3,e4,e5,e6,e7] at h
  cases h
def a9A (l:List n7):Bool:=(List.range l.length).all (a07 l)
def a4T (l:List n3):Bool:=(List.range l.length).all (a1g l)
def c2r (x:n7):Prop:=0≤x.f0∧x.f0≤3∧0≤x.i7∧x.i7≤1000000
theorem d5w {l:List n7}:a9A l=true↔(∀ x∈l,c2r x)∧l.Pairwise fun a b=>a.f0≠b.f0:=by
 unfold a9A
 constructor
 ·intro h
  refine ⟨c9l h,?_⟩
  rw [List.pairwise_iff_getElem]
  intro i j hi hj hij heq
  have:=List.all_eq_true.1 h j (by simpa using hj)
  unfold a07 at this
  rw [List.getElem?_eq_getElem hj] at this
  simp only [Bool.and_eq_true,Bool.not_eq_true'] at this
  have hs:=this.2.2
  unfold T7 at hs
  rw [List.any_eq_false] at hs
  refine hs l[i] ?_ (by simpa using heq)
  rw [List.mem_take_iff_getElem]
  exact ⟨i,by omega,rfl⟩
 ·rintro ⟨h1,h2⟩
  rw [List.all_eq_true]
  intro k hk
  have hk:k<l.length:=by simpa using hk
  unfold a07
  rw [List.getElem?_eq_getElem hk]
  have hf:=h1 _ (List.getElem_mem hk)
  have hs:T7 (l.take k) l[k].f0=false:=by
   unfold T7
   rw [List.any_eq_false]
   intro x hx
   obtain ⟨i,hi,rfl⟩:=List.mem_take_iff_getElem.1 hx
   have:=List.pairwise_iff_getElem.1 h2 i k (by omega) hk (by omega)
   simpa using this
  simp only [hs,Bool.not_false,Bool.and_true,Bool.and_eq_true]
  unfold c2r at hf
  exact ⟨by simp [p9]; omega,by simp [p9]; omega⟩
theorem b4Y {l:List n3}:a4T l=true↔(∀ x∈l,a3X x)∧l.Pairwise fun a b=>a.f0≠b.f0:=by
 unfold a4T
 constructor
 ·intro h
  refine ⟨d4r h,?_⟩
  rw [List.pairwise_iff_getElem]
  intro i j hi hj hij heq
  have:=List.all_eq_true.1 h j (by simpa using hj)
  unfold a1g at this
  rw [List.getElem?_eq_getElem hj] at this
  simp only [Bool.and_eq_true,Bool.not_eq_true'] at this
  have hs:=this.2.2
  unfold a0F at hs
  rw [List.any_eq_false] at hs
  refine hs l[i] ?_ (by simpa using heq)
  rw [List.mem_take_iff_getElem]
  exact ⟨i,by omega,rfl⟩
 ·rintro ⟨h1,h2⟩
  rw [List.all_eq_true]
  intro k hk
  have hk:k<l.length:=by simpa using hk
  unfold a1g
  rw [List.getElem?_eq_getElem hk]
  have hf:=h1 _ (List.getElem_mem hk)
  have hs:a0F (l.take k) l[k].f0=false:=by
   unfold a0F
   rw [List.any_eq_false]
   intro x hx
   obtain ⟨i,hi,rfl⟩:=List.mem_take_iff_getElem.1 hx
   have:=List.pairwise_iff_getElem.1 h2 i k (by omega) hk (by omega)
   simpa using this
  simp only [hs,Bool.not_false,Bool.and_true,Bool.and_eq_true]
  unfold a3X at hf
  exact ⟨by simp [p9]; omega,by simp [p9]; omega⟩
theorem e0E {l:List n7} {x:n7} (h:a9A l=true) (hx:c2r x) (hs:T7 l x.f0=false):a9A (l++[x])=true:=by
 rw [d5w] at h ⊢
 refine ⟨fun y hy => ?_,?_⟩
 ·rcases List.mem_append.1 hy with hy | hy
  ·exact h.1 y hy
  ·rw [List.mem_singleton.1 hy]; exact hx
 ·rw [List.pairwise_append]
  refine ⟨h.2,by simp,fun a ha b hb => ?_⟩
  rw [List.mem_singleton.1 hb]
  unfold T7 at hs
  rw [List.any_eq_false] at hs
  simpa using hs a ha
theorem e1X {l:List n3} {x:n3} (h:a4T l=true) (hx:a3X x) (hs:a0F l x.f0=false):a4T (l++[x])=true:=by
 rw [b4Y] at h ⊢
 refine ⟨fun y hy => ?_,?_⟩
 ·rcases List.mem_append.1 hy with hy | hy
  ·exact h.1 y hy
  ·rw [List.mem_singleton.1 hy]; exact hx
 ·rw [List.pairwise_append]
  refine ⟨h.2,by simp,fun a ha b hb => ?_⟩
  rw [List.mem_singleton.1 hb]
  unfold a0F at hs
  rw [List.any_eq_false] at hs
  simpa using hs a ha
theorem e9g {l:List n3} {k:Nat} {v:Int} (h:a4T l=true) (hk:k<l.length) (hv : -1000000≤v∧v≤1000000):a4T (l.set k ⟨l[k].f0,v⟩)=true:=by
 rw [b4Y] at h ⊢
 refine ⟨fun y hy => ?_,?_⟩
 ·rcases List.mem_or_eq_of_mem_set hy with hy | rfl
  ·exact h.1 y hy
  ·have:=h.1 _ (List.getElem_mem hk)
   exact ⟨this.1,this.2.1,hv⟩
 ·rw [List.pairwise_iff_getElem]
  intro i j hi hj hij
  have hi':i<l.length:=by simpa using hi
  have hj':j<l.length:=by simpa using hj
  have hne:=List.pairwise_iff_getElem.1 h.2 i j hi' hj' hij
  rw [List.getElem_set,List.getElem_set]
  split<;>split<;>simp_all
theorem b04 (r:m8):a0y r=(p9 r.Code 0 3&&(p9 r.d6 (-1000000) 1000000&&((r.Code==0||(r.d6==0&&r.a9.length==0))&&((r.Code != 3||r.a8.length==0)&&(a9A r.a8&&a4T r.a9))))):=rfl
theorem d52 {l:List n3} (h:s9 l) (box:Int):(a4s l box=some (-1)∧a0F l box=false) ∨ ∃ k:Nat,a4s l box=some (k:Int) ∧ ∃ hk:k<l.length,l[k].f0=box:=by
 have hc:=a4R (body:=fun s:Int=>a3c l box s) (fun k=>(k:Int)) l.length (fun k=>match l[k]? with | some x => !(x.f0==box) | none=>true) (fun k=>(k:Int)) ()
  (fun k hk _=>by
   unfold a3c
   rw [x6 l k hk,t8 hk,J0 h hk]
   simp only [cond_true,Option.bind_some,List.getElem?_eq_getElem hk]
   cases l[k].f0==box<;>rfl) (fun _=>by unfold a3c; rw [A4]; rfl)
 unfold a4s
 rcases hc with ⟨h1,hall⟩ | ⟨k,hk,ho,_,h1⟩
 ·left
  rw [show o9 (fun s:Int=>a3c l box s) 0=_ from h1]
  refine ⟨rfl,?_⟩
  unfold a0F
  rw [List.any_eq_false]
  intro x hx
  obtain ⟨i,hi,rfl⟩:=List.getElem_of_mem hx
  have:=hall i hi
  simpa [List.getElem?_eq_getElem hi] using this
 ·right
  rw [show o9 (fun s:Int=>a3c l box s) 0=_ from h1]
  refine ⟨k,rfl,hk,?_⟩
  simpa [List.getElem?_eq_getElem hk] using ho
def inV (v:Int):Prop := -1000000≤v∧v≤1000000
def a8q (regs:List Int):Prop:=regs.length=4 ∧ ∀ v∈regs,inV v
theorem a4q {regs:List Int} (h:regs.length=4) {a:Int} (ha:0≤a∧a≤3) : ∃ v,idx regs a=some v∧v∈regs:=by
 have hlt:a.toNat<regs.length:=by omega
 refine ⟨regs[a.toNat],?_,List.getElem_mem hlt⟩
 unfold idx
 rw [if_pos ha.1,List.getElem?_eq_getElem hlt]
theorem e5Q {regs:List Int} {a:Nat} {v w:Int} (h:w∈regs.set a v):w∈regs∨w=v:=List.mem_or_eq_of_mem_set h
structure Way (r:m8) (n:Nat):Prop where
 val:r.d6=0
 reads:a9A r.a8=true
 puts:a4T r.a9=true
 rlen:r.a8.length≤n
 plen:r.a9.length≤n
theorem Way.fitsR {r:m8} {n:Nat} (h:Way r n) (hn:n≤100):s9 r.a8:=by
 have:=h.rlen
 unfold s9; omega
theorem Way.fitsP {r:m8} {n:Nat} (h:Way r n) (hn:n≤100):s9 r.a9:=by
 have:=h.plen
 unfold s9; omega
theorem e8g {l:List m4} {r:m8} {n:Nat} {box:Int} (hl:F8 l=true) (hr:Way r n) (hn:n≤100) (hb:0≤box∧box≤3) : ∃ v r',b3k l r box=some (v,r')∧Way r' (n+1)∧r'.Code=r.Code∧inV v:=by
 have hp:=(b4Y.1 hr.puts).1
 unfold b3k
 rcases d52 (hr.fitsP hn) box with ⟨h1,h2⟩ | ⟨k,h1,hk,h2⟩
 ·rw [h1,Option.bind_some,show decide ((-1:Int)≥0)=false from by decide,cond_false,c6C (hr.fitsR hn),Option.bind_some]
  obtain ⟨b,b1,b2,b3⟩:=a6z hl hb
  rw [b7P] at b3
  cases hs:T7 r.a8 box
  ·simp only [Bool.not_false,cond_true,b1,Option.bind_some]
   have n1:(r.a8.length+1) * 16≤140737488355328:=by have:=hr.rlen; omega
   simp only [x5 n1,Option.bind_some,j8.go]
   unfold b4l
   rw [b1,Option.bind_some]
   refine ⟨_,_,rfl,⟨hr.val,e0E hr.reads ⟨hb.1,hb.2,b3.1⟩ hs,hr.puts,?_,?_⟩,rfl,b3.2⟩
   ·have:=hr.rlen
    simp
    omega
   ·have:=hr.plen
    simp only
    omega
  ·simp only [Bool.not_true,cond_false,Option.bind_some,j8.go]
   unfold b4l
   rw [b1,Option.bind_some]
   refine ⟨_,_,rfl,⟨hr.val,hr.reads,hr.puts,?_,?_⟩,rfl,b3.2⟩
   ·have:=hr.rlen
    simp only
    omega
   ·have:=hr.plen
    simp only
    omega
 ·rw [h1,Option.bind_some,show decide (((k:Nat):Int)≥0)=true from by simp,cond_true,t8 hk,Option.bind_some]
  have hf:=hp _ (List.getElem_mem hk)
  exact ⟨_,_,rfl,⟨hr.val,hr.reads,hr.puts,Nat.le_succ_of_le hr.rlen,Nat.le_succ_of_le hr.plen⟩,rfl,hf.2.2⟩
theorem e6T {r:m8} {n:Nat} {box v:Int} (hr:Way r n) (hn:n≤100) (hb:0≤box∧box≤3) (hv:inV v) : ∃ r',b2u r box v=some r'∧Way r' (n+1)∧r'.Code=r.Code:=by
 unfold b2u
 rcases d52 (hr.fitsP hn) box with ⟨h1,h2⟩ | ⟨k,h1,hk,h2⟩
 ·rw [h1,Option.bind_some,show decide ((-1:Int)≥0)=false from by decide,cond_false]
  have n1:(r.a9.length+1) * 16≤140737488355328:=by have:=hr.plen; omega
  rw [x5 n1]
  refine ⟨_,rfl,⟨hr.val,hr.reads,e1X hr.puts ⟨hb.1,hb.2,hv⟩ h2,?_,?_⟩,rfl⟩
  ·have:=hr.rlen
   simp only
   omega
  ·have:=hr.plen
   simp
   omega
 ·rw [h1,Option.bind_some,show decide (((k:Nat):Int)≥0)=true from by simp,cond_true,t8 hk,Option.bind_some]
  refine ⟨_,rfl,⟨hr.val,hr.reads,?_,Nat.le_succ_of_le hr.rlen,?_⟩,rfl⟩
  ·simp only [Int.toNat_natCast]
   exact e9g hr.puts hk hv
  ·have:=hr.plen
   simp
   omega
theorem e6W {l:List m4} {r:m8} {n:Nat} {regs:List Int} {i:m7} (hl:F8 l=true) (hr:Way r n) (hn:n≤100) (hc:r.Code=0) (hg:a8q regs) (hi:Z3 i=true) (h6:i.c9≠6) :
  ∃ r' regs',a7J l r regs i=some (r',regs')∧Way r' (n+1)∧regs'.length=4∧(r'.Code=0∨r'.Code=1∨r'.Code=2)∧(r'.Code=0→a8q regs'):=by
 have hend : ∀ (regs':List Int) (r':m8),Way r' (n+1)→(r'.Code=0∨r'.Code=1)→regs'.length=4→i.c9≠2→(0≤i.A∧i.A≤3)→(∀ v,idx regs' i.A=some v→inV v→a8q regs') →
   ∃ r2 regs2,a47 i regs' r'.a8 r'.a9 r'.d6 r'.Code=some (r2,regs2)∧Way r2 (n+1)∧regs2.length=4∧(r2.Code=0∨r2.Code=1∨r2.Code=2)∧(r2.Code=0→a8q regs2):=by
  intro regs' r' w1 w2 w3 w4 w5 w6
  obtain ⟨v,v1,v2⟩:=a4q w3 w5
  have hk:(i.c9 != 2)=true:=by simpa using w4
  unfold a47 a88
  rw [hk,cond_true,v1,Option.bind_some,a7F,Option.bind_some]
  cases hv:p9 v (-1000000) 1000000
  ·simp only [Bool.not_false,cond_true,Option.bind_some,j8.go]
   exact ⟨_,_,rfl,⟨w1.val,w1.reads,w1.puts,w1.rlen,w1.plen⟩,w3,.inr (.inr rfl),fun h=>absurd h (show ¬ (2:Int)=0 from by decide)⟩
  ·simp only [Bool.not_true,cond_false,Option.bind_some,j8.go]
   have hv':inV v:=by simpa [p9,inV] using hv
   refine ⟨_,_,rfl,⟨w1.val,w1.reads,w1.puts,w1.rlen,w1.plen⟩,w3,?_,fun _=>w6 v v1 hv'⟩
   rcases w2 with w2 | w2
   ·exact .inl w2
   ·exact .inr (.inl w2)
 have hset : ∀ (a:Int) (x:Int),(0≤a∧a≤3)→(regs.set a.toNat x).length=4 ∧ ∀ v,idx (regs.set a.toNat x) a=some v→inV v→a8q (regs.set a.toNat x):=by
  intro a x ha
  have hlt:a.toNat<regs.length:=by have:=hg.1; omega
  refine ⟨by simpa using hg.1,fun v hv hin=>⟨by simpa using hg.1,fun w hw => ?_⟩⟩
  rcases e5Q hw with hw | rfl
  ·exact hg.2 w hw
  ·unfold idx at hv
   rw [if_pos ha.1,List.getElem?_set_self hlt] at hv
   injection hv with hv
   subst hv
   exact hin
 have hw1:Way r (n+1):=⟨hr.val,hr.reads,hr.puts,Nat.le_succ_of_le hr.rlen,Nat.le_succ_of_le hr.plen⟩
 unfold a7J
 rcases a8t hi with ⟨k,ha,hb⟩ | ⟨k,ha,hb⟩ | ⟨k,ha,hN⟩ | ⟨k,ha,hb⟩ | ⟨k,ha,hb⟩ | ⟨k,_⟩ | ⟨k,ha⟩
 ·obtain ⟨v,r',q1,q2,q3,q4⟩:=e8g hl hr hn hb
  obtain ⟨y,y1,_⟩:=a4q hg.1 ha
  simp only [k,q1,y1,beq_self_eq_true,cond_true,Option.bind_some,j8.go]
  exact hend _ r' q2 (.inl (q3.trans hc)) (hset i.A v ha).1 (by omega) ha (hset i.A v ha).2
 ·obtain ⟨y,y1,y2⟩:=a4q hg.1 hb
  obtain ⟨r',q1,q2,q3⟩:=e6T hr hn ha (hg.2 y y2)
  have e1:((2:Int)==1)=false:=by decide
  simp only [k,e1,y1,q1,beq_self_eq_true,cond_true,cond_false,Option.bind_some,j8.go]
  unfold a47 a88
  simp only [k,bne_self_eq_false,cond_false,Option.bind_some,j8.go]
  exact ⟨_,_,rfl,⟨q2.val,q2.reads,q2.puts,q2.rlen,q2.plen⟩,hg.1,.inl (q3.trans hc),fun _=>hg⟩
 ·obtain ⟨y,y1,_⟩:=a4q hg.1 ha
  have e1:((3:Int)==1)=false:=by decide
  have e2:((3:Int)==2)=false:=by decide
  simp only [k,e1,e2,y1,beq_self_eq_true,cond_true,cond_false,Option.bind_some,j8.go]
  exact hend _ r hw1 (.inl hc) (hset i.A i.N ha).1 (by omega) ha (hset i.A i.N ha).2
 ·obtain ⟨y,y1,_⟩:=a4q hg.1 ha
  obtain ⟨z,z1,_⟩:=a4q hg.1 hb
  have e1:((4:Int)==1)=false:=by decide
  have e2:((4:Int)==2)=false:=by decide
  have e3:((4:Int)==3)=false:=by decide
  simp only [k,e1,e2,e3,y1,z1,beq_self_eq_true,cond_true,cond_false,Option.bind_some,j8.go]
  exact hend _ r hw1 (.inl hc) (hset i.A _ ha).1 (by omega) ha (hset i.A _ ha).2
 ·obtain ⟨y,y1,_⟩:=a4q hg.1 ha
  obtain ⟨z,z1,_⟩:=a4q hg.1 hb
  have e1:((5:Int)==1)=false:=by decide
  have e2:((5:Int)==2)=false:=by decide
  have e3:((5:Int)==3)=false:=by decide
  have e4:((5:Int)==4)=false:=by decide
  simp only [k,e1,e2,e3,e4,y1,z1,beq_self_eq_true,cond_true,cond_false,Option.bind_some,j8.go]
  exact hend _ r hw1 (.inl hc) (hset i.A _ ha).1 (by omega) ha (hset i.A _ ha).2
 ·exact absurd k h6
 ·have e1:((7:Int)==1)=false:=by decide
  have e2:((7:Int)==2)=false:=by decide
  have e3:((7:Int)==3)=false:=by decide
  have e4:((7:Int)==4)=false:=by decide
  have e5:((7:Int)==5)=false:=by decide
  simp only [k,e1,e2,e3,e4,e5,beq_self_eq_true,cond_true,cond_false,Option.bind_some,j8.go]
  have:=hend regs ⟨r.a8,r.a9,r.d6,1⟩ ⟨hw1.val,hw1.reads,hw1.puts,hw1.rlen,hw1.plen⟩ (.inr rfl) hg.1 (by omega) ⟨by omega,by omega⟩ (fun _ _ _=>hg)
  exact this
structure Ran (r:m8):Prop where
 ok:a0y r=true
 rlen:r.a8.length≤40
 plen:r.a9.length≤40
theorem e9l {r:m8} {n:Nat} (h:Way r n) (hn:n≤40) (hc:r.Code=0∨r.Code=1∨r.Code=2) {v:Int} (hv:r.Code=0→inV v):Ran ⟨r.a8,bif r.Code != 0 then [] else r.a9,bif r.Code != 0 then r.d6 else v,r.Code⟩:=by
 have h1:=h.rlen
 have h2:=h.plen
 have hR:=h.reads
 have hP:=h.puts
 have hP0:a4T []=true:=rfl
 rcases hc with hc | hc | hc
 ·have hv:=hv hc
  unfold inV at hv
  refine ⟨?_,by simp only; omega,by simp only [hc]; simp; omega⟩
  rw [b04]
  simp [hc,hR,hP,p9,hv]
 ·refine ⟨?_,by simp only; omega,by simp [hc]⟩
  rw [b04]
  simp [hc,hR,hP0,p9,h.val]
 ·refine ⟨?_,by simp only; omega,by simp [hc]⟩
  rw [b04]
  simp [hc,hR,hP0,p9,h.val]
theorem e5d {l:List m4} {prog:List m7} (hl:s9 l) (hp:s9 prog) : ∃ r,a9o l prog=some r∧(F8 l=true→Ran r)∧r.a8.length≤40∧r.a9.length≤40:=by
 unfold a9o
 rw [b9K hl,b83 hp]
 have h0:Ran ⟨[],[],0,3⟩:=⟨by decide,by simp,by simp⟩
 cases hb:F8 l
 ·exact ⟨_,rfl,(fun h=>by cases h),by simp,by simp⟩
 cases hpo:I8 prog
 ·exact ⟨_,rfl,fun _=>h0,by simp,by simp⟩
 simp only [Option.bind_some,Bool.not_true,cond_false]
 rw [x5 (by decide)]
 have hlen:prog.length≤10:=by
  unfold I8 at hpo
  simp only [Bool.and_eq_true,decide_eq_true_eq] at hpo
  exact hpo.1
 have hins : ∀ i∈prog,Z3 i=true:=by
  unfold I8 at hpo
  simp only [Bool.and_eq_true] at hpo
  exact List.all_eq_true.1 hpo.2
 obtain ⟨x,hx,hq⟩:=b6Y (body:=fun s:(List Int)×(List n7)×(List n3)×Int×Int×Int=>a2n l prog s.1 s.2.1 s.2.2.1 s.2.2.2.1 s.2.2.2.2.1 s.2.2.2.2.2)
  (fun m s => ∃ k:Nat,s.2.2.2.1=(k:Int)∧k≤30∧k+m=31∧Way ⟨s.2.1,s.2.2.1,s.2.2.2.2.1,s.2.2.2.2.2⟩ k∧s.1.length=4∧(s.2.2.2.2.2=0∨s.2.2.2.2.2=1∨s.2.2.2.2.2=2)∧(s.2.2.2.2.2=0→a8q s.1))
  (fun x=>match x with
   | .ret _=>False
   | .brk b=>Way ⟨b.1,b.2.1,b.2.2.2.1,b.2.2.2.2⟩ 30∧b.2.2.1.length=4∧(b.2.2.2.2=0∨b.2.2.2.2=1∨b.2.2.2.2=2)∧(b.2.2.2.2=0→a8q b.2.2.1))
  (by
   rintro m ⟨regs,a8,a9,kk,rVal,rCode⟩ ⟨k,hk,hk30,hm,hway,hreg,hcode,hrok⟩
   simp only at hk hway hreg hcode hrok ⊢
   subst hk
   have hend:Way ⟨a8,a9,rVal,rCode⟩ 30:=⟨hway.val,hway.reads,hway.puts,Nat.le_trans hway.rlen hk30,Nat.le_trans hway.plen hk30⟩
   unfold a2n
   by_cases hlt:k<prog.length
   ·rw [x6 _ k hlt,t8 hlt]
    cases hc:rCode==0
    ·exact ⟨_,rfl,hend,hreg,hcode,hrok⟩
    have hc0:rCode=0:=by simpa using hc
    have hi:=hins _ (List.getElem_mem hlt)
    simp only [cond_true,Option.bind_some]
    cases h6:prog[k].c9==6
    ·obtain ⟨r',regs',q1,q2,q3,q4,q5⟩:=e6W hb hway (by omega) hc0 (hrok hc0) hi (by simpa using h6)
     simp only [cond_false,q1,Option.bind_some]
     rw [x5 (by rw [q3]; exact hreg),E7 (by omega) (by omega)]
     exact ⟨_,rfl,m - 1,by omega,k+1,by simp,by omega,by omega,q2,q3,q4,q5⟩
    ·have h6':prog[k].c9=6:=by simpa using h6
     obtain ⟨_,ha,hbb,hN⟩:prog[k].c9=6∧(0≤prog[k].A∧prog[k].A≤3)∧(0≤prog[k].B∧prog[k].B≤3)∧(1≤prog[k].N∧prog[k].N≤10):=by
      rcases a8t hi with ⟨q,_⟩ | ⟨q,_⟩ | ⟨q,_⟩ | ⟨q,_⟩ | ⟨q,_⟩ | q | ⟨q,_⟩
      ·omega
      ·omega
      ·omega
      ·omega
      ·omega
      ·exact q
      ·omega
     obtain ⟨y,y1,_⟩:=a4q hreg ha
     obtain ⟨z,z1,_⟩:=a4q hreg hbb
     simp only [cond_true,y1,z1,Option.bind_some]
     have hw2 : ∀ j:Nat,k≤j→Way ⟨a8,a9,rVal,rCode⟩ (j+1):=fun j h=>⟨hway.val,hway.reads,hway.puts,Nat.le_trans hway.rlen (by omega),Nat.le_trans hway.plen (by omega)⟩
     unfold b9D
     by_cases hyz:y<z
     ·simp only [hyz,decide_true,cond_true,Option.bind_some,j8.go]
      have e1:m9 ((k:Int)+prog[k].N)=((k+prog[k].N.toNat:Nat):Int):=by
       rw [E7 (n:=(k:Int)+prog[k].N) (by omega) (by omega)]
       omega
      rw [e1,E7 (n:=((k+prog[k].N.toNat:Nat):Int)+1) (by omega) (by omega)]
      exact ⟨_,rfl,31 - (k+prog[k].N.toNat+1),by omega,k+prog[k].N.toNat+1,rfl,by omega,by omega,hw2 _ (by omega),hreg,hcode,hrok⟩
     ·simp only [hyz,decide_false,cond_false,Option.bind_some,j8.go]
      rw [E7 (n:=(k:Int)+1) (by omega) (by omega)]
      exact ⟨_,rfl,31 - (k+1),by omega,k+1,rfl,by omega,by omega,hw2 k (by omega),hreg,hcode,hrok⟩
   ·have:decide ((k:Int)<(prog.length:Int))=false:=by simp; omega
    rw [this,cond_false]
    exact ⟨_,rfl,hend,hreg,hcode,hrok⟩) (k:=31) (s:=(List.replicate (4:Int).toNat 0,[],[],0,0,0)) ⟨0,rfl,by omega,by omega,⟨rfl,rfl,rfl,by simp,by simp⟩,rfl,.inl rfl,fun _=>⟨rfl,by simp [inV]⟩⟩
 rw [hx,Option.bind_some]
 cases x with
 | ret r=>cases hq
 | brk b =>
  obtain ⟨a8,a9,regs,rVal,rCode⟩:=b
  obtain ⟨q1,q2,q3,q4⟩:=hq
  simp only at q1 q2 q3 q4
  simp only [j8.go]
  unfold a6U
  obtain ⟨v,v1,v2⟩:=a4q q2 (a:=0) ⟨by omega,by omega⟩
  have hran:=e9l q1 (by omega) q3 (v:=v) (fun h=>(q4 h).2 v v2)
  have q1r:=q1.rlen
  have q1p:=q1.plen
  simp only at hran q1r q1p
  cases hc:rCode != 0
  ·rw [hc] at hran
   simp only [cond_false,v1,Option.bind_some] at hran ⊢
   exact ⟨_,rfl,fun _=>hran,by simp only; omega,by simp only; omega⟩
  ·rw [hc] at hran
   simp only [cond_true] at hran ⊢
   exact ⟨_,rfl,fun _=>hran,by simp only; omega,by simp⟩
theorem e5r {r:n8} {m:Nat} (h:Rd r m) (hm:m≤100000000) : ∃ i r',c1a r=some (i,r')∧Rd r' (m+10):=by
 obtain ⟨k,r1,a1,a2,a3⟩:=b4y h (by omega) [1,1,2,2,3,4,4,5,6,7] (by decide) (by decide)
 obtain ⟨p1,r2,b1,b2,b3,b4⟩:=L3 a2 (by omega) 3
 obtain ⟨p2,r3,c1,c2,c3,c4⟩:=L3 b2 (by omega) 3
 unfold c1a
 simp only [a1,b1,c1,Option.bind_some]
 cases h3:k==3
 ·cases h6:k==6
  ·cases h7:k==7
   ·exact ⟨_,_,rfl,c2.mono (by omega)⟩
   ·obtain ⟨p3,r4,d1,d2,d3,d4⟩:=L3 c2 (by omega) 3
    simp only [cond_true,cond_false,d1,Option.bind_some]
    cases decide (p3>0)
    ·exact ⟨_,_,rfl,d2.mono (by omega)⟩
    ·obtain ⟨p4,r5,e1,e2,e3,e4⟩:=L3 d2 (by omega) 4
     obtain ⟨p5,r6,f1,f2,f3,f4⟩:=L3 e2 (by omega) 4
     simp only [cond_true,e1,f1,Option.bind_some]
     exact ⟨_,_,rfl,f2.mono (by omega)⟩
  ·obtain ⟨p3,r4,d1,d2,d3,d4⟩:=L3 c2 (by omega) 3
   simp only [cond_true,cond_false,d1,Option.bind_some]
   exact ⟨_,_,rfl,d2.mono (by omega)⟩
 ·obtain ⟨n1,r4,d1,d2,d3⟩:=b4y c2 (by omega) [0,1,5,(-2),100,1000000] (by decide) (by decide)
  simp only [cond_true,d1,Option.bind_some]
  exact ⟨_,_,rfl,d2.mono (by omega)⟩
theorem c6e {r:n8} {m:Nat} (h:Rd r m) (hm:m≤50000000) : ∃ p r',a5X r=some (p,r')∧Rd r' (m+200)∧p.length≤10:=by
 obtain ⟨v,r1,a1,a2,a3,a4⟩:=L3 h (by omega) 3
 unfold a5X
 simp only [a1,Option.bind_some]
 cases v==0
 ·obtain ⟨k,r2,b1,b2,b3,b4⟩:=L3 a2 (by omega) 8
  simp only [cond_false,b1,Option.bind_some]
  obtain ⟨x,hx,hq⟩:=b6Y (body:=fun s:n8×(List m7)×Int=>c0U s.1 s.2.1 s.2.2)
   (fun j s=>s.2.2=(j:Int)∧j≤8∧Rd s.1 (m+2+10 * (8 - j))∧s.2.1.length+j≤8)
   (fun x=>match x with
    | .ret _=>False
    | .brk b=>Rd b.1 (m+200)∧b.2.length≤10)
   (by
    rintro j ⟨r,out,i⟩ ⟨q1,q2,q3,q4⟩
    simp only at q1 q3 q4 ⊢
    subst q1
    unfold c0U
    cases j with
    | zero=>exact ⟨_,rfl,q3.mono (by omega),by simp only; omega⟩
    | succ j =>
     obtain ⟨i,r',d1,d2⟩:=e5r q3 (by omega)
     have hpos:decide (((j+1:Nat):Int)>0)=true:=by simp
     have n1:(out.length+1) * 32≤140737488355328:=by omega
     rw [hpos,cond_true,d1,Option.bind_some,x5 n1,E7 (by omega) (by omega)]
     exact ⟨_,rfl,j,by omega,by simp only; omega,by omega,d2.mono (by omega),by simp; omega⟩) (k:=k.toNat) (s:=(r2,[],k)) ⟨by simp only; omega,by omega,b2.mono (by omega),by simp; omega⟩
  rw [hx,Option.bind_some]
  cases x with
  | ret r=>cases hq
  | brk b=>exact ⟨_,_,rfl,hq.1,hq.2⟩
 ·obtain ⟨p1,r2,b1,b2,b3,b4⟩:=L3 a2 (by omega) 3
  obtain ⟨p2,r3,c1,c2,c3,c4⟩:=L3 b2 (by omega) 3
  obtain ⟨p3,r4,d1,d2,d3,d4⟩:=L3 c2 (by omega) 3
  simp only [cond_true,b1,c1,d1,Option.bind_some]
  exact ⟨_,_,rfl,d2.mono (by omega),by simp⟩
def f3G (e:l8):Prop:=e.b6.a8.length≤40∧e.b6.a9.length≤40
def drawn (l:List l8):Prop:=l.length≤41 ∧ ∀ e∈l,f3G e
theorem e5a {l:List l8} (h:C3 88 a2R l):c0j l=some (bif L0 l then (r9 l).1 else ⟨0,[],[]⟩):=by
 unfold c0j
 rw [c6L h,Option.bind_some]
 cases hok:L0 l
 ·rfl
 ·obtain ⟨hl,he⟩:=a2V hok
  rw [Bool.not_true,cond_false,c6l h hl he]
  rfl
theorem d8U {l:List l8} (h:C3 88 a2R l) (hok:L0 l=true):b29 l=some (r9 l).1:=by
 obtain ⟨hl,he⟩:=a2V hok
 have hf:s9 l:=h.fits (by decide)
 unfold b29
 rw [b6B,Option.bind_some,show (40:Int)=((40:Nat):Int) from rfl,b21,decide_eq_true hl,Bool.not_true,cond_false]
 have hloop:=a05 (body:=fun s:(List m4)×Int×Int×List n6=>b1e l s.1 s.2.1 s.2.2.1 s.2.2.2) (fun k=>((r9 (l.take k)).1.d8,(k:Int),(r9 (l.take k)).1.At,(r9 (l.take k)).1.g8)) l.length (by
  intro k hk
  obtain ⟨h1,h2,h3⟩:=a1X hl he k (by omega)
  have hek:=List.all_eq_true.1 he _ (List.getElem_mem hk)
  have hfk:=h.2 _ (List.getElem_mem hk)
  rw [a4S hk]
  unfold b1e
  rw [x6 _ k hk,t8 hk,J0 hf hk]
  simp only [cond_true,Option.bind_some,a5r hfk,hek,Bool.not_true,cond_false]
  rw [show (⟨(r9 (l.take k)).1.At,(r9 (l.take k)).1.d8,(r9 (l.take k)).1.g8⟩:q7)=(r9 (l.take k)).1 from rfl,b7g h1 (by omega) hek hfk,Option.bind_some]
  rfl)
 rw [List.take_zero,List.take_length] at hloop
 rw [show ((0:Nat):Int)=0 from rfl] at hloop
 rw [show o9 (fun s:(List m4)×Int×Int×List n6=>b1e l s.1 s.2.1 s.2.2.1 s.2.2.2) (W1.d8,0,W1.At,W1.g8)=_ from hloop,H3 (b:=((r9 l).1.d8,(r9 l).1.At,(r9 l).1.g8))]
 ·rfl
 ·unfold b1e
  rw [A4]; rfl
theorem e9h {r:m8} (h:a0y r=true):a4T r.a9=true:=by
 rw [b04] at h
 simp only [Bool.and_eq_true] at h
 exact h.2.2.2.2.2
theorem d5g {l:List l8} (hl:l.length≤40) (he:l.all B8=true) {k:Nat} (hk:k<l.length):(r9 l).2[k]?=some (apply (r9 (l.take k)).1 l[k]).2:=by
 have key : ∀ n,k<n→n≤l.length→(r9 (l.take n)).2[k]?=some (apply (r9 (l.take k)).1 l[k]).2:=by
  intro n
  induction n with
  | zero=>intro h; omega
  | succ n ih =>
   intro h1 h2
   have hlen:=(a1X hl he n (by omega)).2.1
   rw [a4S (show n<l.length by omega)]
   unfold b1K
   by_cases hq:k=n
   ·subst hq
    simp only
    rw [List.getElem?_append_right (by omega),hlen,Nat.sub_self]
    rfl
   ·simp only
    rw [List.getElem?_append_left (by omega)]
    exact ih (by omega) (by omega)
 have:=key l.length hk (Nat.le_refl _)
 rwa [List.take_length] at this
def cnt (cs:List Int) (c:Int):Int:=((cs.filter fun x=>x==c).length:Int)
theorem e8W (cs:List Int) (c d:Int):cnt (cs++[c]) d=cnt cs d+(if c=d then 1 else 0):=by
 unfold cnt
 rw [List.filter_append]
 by_cases h:c=d<;>simp [h]
theorem d5l (cs:List Int) (c:Int):0≤cnt cs c∧cnt cs c≤cs.length:=by
 unfold cnt
 have:=List.length_filter_le (fun x=>x==c) cs
 omega
def b2w (l:List l8) (cs:List Int) (k:Nat):List n5:=match cs[k]?,l[k]? with
 | some c,some e=>bif c==0 then [e.a5] else []
 | _,_=>[]
def z7 (l:List l8) (cs:List Int):Nat→List n5
 | 0=>[]
 | k+1=>z7 l cs k++b2w l cs k
theorem b8N {l:List l8} {cs:List Int} {k:Nat} (h1:k<l.length) (h2:k<cs.length):b2w l cs k=bif cs[k]==0 then [l[k].a5] else []:=by
 unfold b2w
 rw [List.getElem?_eq_getElem h1,List.getElem?_eq_getElem h2]
theorem c8r {l:List l8} {cs:List Int} (hc:cs.length=l.length) : ∀ k,k≤l.length→((z7 l cs k).length:Int)=cnt (cs.take k) 0
 | 0,_=>rfl
 | k+1,hk=>by
  have h1:k<cs.length:=by omega
  have ih:=c8r hc k (by omega)
  unfold z7
  rw [List.take_succ_eq_append_getElem h1,e8W,b8N (show k<l.length by omega) h1,← ih]
  by_cases hq:cs[k]=0
  ·simp [hq]
  ·have hq':(cs[k]==0)=false:=by simpa using hq
   simp [hq,hq']
def A6 (l:List l8):List n5:=bif L0 l then z7 l (r9 l).2 l.length else []
theorem e4A {l:List n5} (h:l.length * 16≤140737488351232):b6y l=some l:=by
 unfold b6y u5
 cases l with
 | nil=>rfl
 | cons x l =>
  have h1:(((x::l).length:Int)==0)=false:=by simp; omega
  rw [h1,cond_false,if_pos (by constructor<;>omega),if_pos (by simp)]
theorem e4Q {l:List l8} (h:C3 88 a2R l):b9f l=some (A6 l):=by
 unfold b9f A6
 rw [c6L h,Option.bind_some]
 cases hok:L0 l
 ·rfl
 have hf:s9 l:=h.fits (by decide)
 obtain ⟨hl,he⟩:=a2V hok
 obtain ⟨_,hlen,hc⟩:=a1X hl he l.length (Nat.le_refl _)
 rw [List.take_length] at hlen hc
 rw [Bool.not_true,cond_false,cond_true,c6l h hl he,Option.bind_some]
 have hsm : ∀ k,k≤l.length→(z7 l (r9 l).2 k).length≤40:=by
  intro k hk
  have h1:=c8r hlen k hk
  have h2:=d5l ((r9 l).2.take k) 0
  rw [List.length_take] at h2
  omega
 have hloop:=a05 (body:=fun s:(List n5)×Int=>b0V l (r9 l) s.1 s.2) (fun k=>(z7 l (r9 l).2 k,(k:Int))) l.length (by
  intro k hk
  have hk2:k<(r9 l).2.length:=by omega
  have hs:=hsm k (by omega)
  have n1:((z7 l (r9 l).2 k).length+1) * 16≤140737488355328:=by omega
  show b0V l (r9 l) (z7 l (r9 l).2 k) (k:Int)=some (.nxt (z7 l (r9 l).2 k++b2w l (r9 l).2 k,((k+1:Nat):Int)))
  rw [b8N hk hk2]
  unfold b0V c5m
  rw [x6 _ k hk,t8 hk,t8 hk2,J0 hf hk]
  simp only [cond_true,Option.bind_some,x5 n1]
  cases (r9 l).2[k]==0
  ·simp only [cond_false,Option.bind_some,j8.go,List.append_nil]
  ·rfl)
 rw [show z7 l (r9 l).2 0=[] from rfl,show ((0:Nat):Int)=0 from rfl] at hloop
 rw [hloop,H3 (b:=z7 l (r9 l).2 l.length)]
 ·simp only [Option.bind_some,j8.go]
  unfold c3u
  rw [e4A (by have:=hsm l.length (Nat.le_refl _); omega)]
  rfl
 ·unfold b0V
  rw [A4]; rfl
theorem a72 {ps:List n3} (h:ps.Pairwise fun p q=>p.f0≠q.f0) (b:Int):(ps.filter fun p=>p.f0==b).length≤1:=by
 have h2:=h.filter (fun p=>p.f0==b)
 cases hq:ps.filter fun p=>p.f0==b with
 | nil=>simp
 | cons x r =>
  cases r with
  | nil=>simp
  | cons y r =>
   rw [hq] at h2
   have hne:=(List.pairwise_cons.1 h2).1 y (by simp)
   have hx:x∈ps.filter fun p=>p.f0==b:=by rw [hq]; simp
   have hy:y∈ps.filter fun p=>p.f0==b:=by rw [hq]; simp
   have hx:=(List.mem_filter.1 hx).2
   have hy:=(List.mem_filter.1 hy).2
   simp only [beq_iff_eq] at hx hy
   omega
theorem c10 : ∀ {ps:List n3},(∀ p∈ps,a3X p)→ps.length=(ps.filter fun p=>p.f0==0).length+(ps.filter fun p=>p.f0==1).length+(ps.filter fun p=>p.f0==2).length+(ps.filter fun p=>p.f0==3).length
 | [],_=>rfl
 | p::ps,h=>by
  have ih:=c10 (ps:=ps) fun x hx=>h x (by simp [hx])
  have hp:=h p (by simp)
  have:p.f0=0∨p.f0=1∨p.f0=2∨p.f0=3:=by
   have:=hp.1
   have:=hp.2.1
   omega
  simp only [List.filter_cons,List.length_cons]
  rcases this with q | q | q | q<;>simp [q]<;>omega
theorem e55 {r:m8} (h:a0y r=true):r.a9.length≤4:=by
 have h1:=(b4Y.1 (e9h h))
 have h2:=c10 h1.1
 have a:=a72 h1.2 0
 have b:=a72 h1.2 1
 have c:=a72 h1.2 2
 have d:=a72 h1.2 3
 omega
theorem okEntries.s {l:List l8} (h:C3 88 G6 l):C3 88 a2R l:=h.imp fun _ x=>x.f
theorem a4g (c x:Bool):(bif c then some x else some false)=some (c&&x):=by cases c<;>rfl
theorem b5j (c x:Bool):(bif c then some false else some x)=some (!c&&x):=by cases c<;>rfl
theorem f2V (n lo hi:Int):p9 n lo hi=(!decide (n<lo) && !decide (n>hi)):=by
 unfold p9
 by_cases h1:n<lo<;>by_cases h2:n>hi<;>simp [h1,h2]<;>omega
theorem rng {α:Type} (n lo hi:Int) (X Y:α):(bif decide (n<lo) then Y else bif decide (n>hi) then Y else X)=bif p9 n lo hi then X else Y:=by
 rw [f2V]
 cases decide (n<lo)<;>cases decide (n>hi)<;>rfl
theorem c31 {α:Type} (n lo:Int) (X Y:α):(bif decide (n<lo) then Y else bif decide (n≥3) then Y else X)=bif p9 n lo 2 then X else Y:=by
 have e:decide (n≥3)=decide (n>2):=by
  by_cases h:n>2
  ·rw [decide_eq_true h,decide_eq_true (by omega)]
  ·rw [decide_eq_false h,decide_eq_false (by omega)]
 rw [← rng,e]
theorem a6j (a b:Int):(!decide (a>b))=decide (a≤b):=by
 by_cases h:a≤b
 ·simp [h]
 ·simp [h]; omega
theorem d82 {α:Type} (l:List α):decide ((l.length:Int)>0) = !((l.length:Int)==0):=by
 by_cases hp:l.length=0
 ·rw [decide_eq_false (by omega),show ((l.length:Int)==0)=true from by rw [hp]; rfl]; rfl
 ·rw [decide_eq_true (by omega),show ((l.length:Int)==0)=false from by rw [← Bool.not_eq_true,beq_iff_eq]; omega]; rfl
theorem b4N {α:Type} [BEq α] (a b:α):(!(a != b))=(a==b):=by simp [bne]
abbrev zE:l8:=⟨false,⟨0,0⟩,⟨[],[],0,0⟩⟩
def M6 (a b:l8):Bool:=(a.i0==b.i0)&&((([a.a5.c8,a.a5.Seq]:List Int)==[b.a5.c8,b.a5.Seq])&&a5K a.b6 b.b6)
theorem a7k {a b:l8} (h:G6 a):a3J a b=some (M6 a b):=by
 unfold a3J M6
 simp only [d9g h.f.2,Option.bind_some,a4g]
theorem c7v {e:l8} (h:G6 e):a6f e=some (M6 e zE):=by
 unfold a6f M6
 simp only [c0M h.f.2,Option.bind_some,a4g]
 cases e.i0<;>rfl
theorem b0Z (n:Int):a3a n=some (p9 n 1 3000):=a0r n 1 3000
def a1w (v:m6):Bool:=bif v.a7==0 then M6 v.g9 zE else p9 v.a7 1 3000&&B8 v.g9
theorem e7E {v:m6} (h:a0l v):b6J v=some (a1w v):=by
 unfold b6J a1w
 simp only [a7k h.2,a0r,a8i h.2.f,Option.bind_some,a4g]
 cases v.a7==0<;>rfl
theorem f2M {v:m6} (h:a0l v):c0F v=some (a1w v):=by
 unfold c0F a1w M6
 simp only [c0M h.2.f.2,b0Z,a5r h.2.f,Option.bind_some,a4g]
 cases v.a7==0<;>cases v.g9.i0<;>rfl
def S8 (l:List m6):Bool:=decide (l.length≤40)&&l.all a1w
theorem c8W {l:List m6} (h:C3 96 a0l l):a7L l=some (S8 l):=by
 unfold a7L S8
 rw [show (40:Int)=((40:Nat):Int) from rfl,b21,M0 l (h.fits (by decide)) a1w false ()]
 ·cases decide (l.length≤40)
  ·rfl
  ·cases l.all a1w<;>rfl
 ·intro k hk
  unfold b9J
  rw [x6 _ k hk,t8 hk]
  simp only [cond_true,Option.bind_some,f2M (h.2 _ (List.getElem_mem hk))]
  cases a1w l[k]<;>rfl
 ·unfold b9J
  rw [A4]; rfl
theorem c7e {l:List m6} (h:C3 96 a0l l):b1q l=some (S8 l):=by
 unfold b1q S8 c2G
 rw [show (40:Int)=((40:Nat):Int) from rfl,c6p,M0 l (h.fits (by decide)) a1w false ()]
 ·cases l.all a1w<;>cases decide (l.length≤40)<;>rfl
 ·intro k hk
  unfold b5E
  rw [x6 _ k hk,t8 hk]
  simp only [cond_true,Option.bind_some,e7E (h.2 _ (List.getElem_mem hk))]
  cases a1w l[k]<;>rfl
 ·unfold b5E
  rw [A4]; rfl
def a1B (a:A0):Bool:=p9 a.d9 0 3000&&(S8 a.a0&&a.a0.all fun v => !decide (v.a7>a.d9))
theorem e8n {a:A0} (h:c3C a):c09 a=some (a1B a):=by
 unfold c09 a1B
 rw [rng,c8W h.2,M0 a.a0 (h.2.fits (by decide)) (fun v => !decide (v.a7>a.d9)) false ()]
 ·simp only [Option.bind_some]
  cases p9 a.d9 0 3000<;>cases S8 a.a0<;>cases a.a0.all (fun v => !decide (v.a7>a.d9))<;>rfl
 ·intro k hk
  unfold b62
  rw [x6 _ k hk,t8 hk]
  simp only [cond_true,Option.bind_some]
  cases decide (a.a0[k].a7>a.d9)<;>rfl
 ·unfold b62
  rw [A4]; rfl
theorem f3U {a:A0} (h:c3C a):b6x a=some (a1B a):=by
 unfold b6x a1B
 rw [M0 a.a0 (h.2.fits (by decide)) (fun v => !decide (v.a7>a.d9)) false ()]
 ·unfold c4Z
  simp only [a0r,c7e h.2,Option.bind_some]
  cases p9 a.d9 0 3000<;>cases S8 a.a0<;>cases a.a0.all (fun v => !decide (v.a7>a.d9))<;>rfl
 ·intro k hk
  unfold b8a
  rw [x6 _ k hk,t8 hk]
  simp only [cond_true,Option.bind_some]
  cases decide (a.a0[k].a7>a.d9)<;>rfl
 ·unfold b8a
  rw [A4]; rfl
theorem f4F (i:m7):b9b i=some (Z3 i):=by
 unfold b9b Z3 a4H b7B
 simp only [a0r,Option.bind_some]
 cases i.c9==1<;>cases i.c9==2<;>cases i.c9==3<;>cases i.c9==4<;>cases i.c9==5<;>cases i.c9==6<;>cases i.c9==7<;>cases p9 i.A 0 3<;>cases p9 i.B 0 3<;>cases i.A==0<;>cases i.B==0<;>rfl
theorem c3L {l:List m7} (h:s9 l):a9T l=some (I8 l):=by
 unfold a9T I8 c6Z
 rw [show (10:Int)=((10:Nat):Int) from rfl,c6p,M0 l h Z3 false ()]
 ·cases l.all Z3<;>cases decide (l.length≤10)<;>rfl
 ·intro k hk
  unfold b5D
  rw [x6 _ k hk,t8 hk]
  simp only [cond_true,Option.bind_some,f4F]
  cases Z3 l[k]<;>rfl
 ·unfold b5D
  rw [A4]; rfl
def a2h (b:Int):Int:=bif p9 b 1 3000 then Int.tmod b 3 else -1
theorem e9y (b:Int):b2g b=some (a2h b):=by
 unfold b2g a2h
 rw [b0Z,Option.bind_some]
 cases p9 b 1 3000<;>rfl
theorem e8s (b:Int):b5X b=some (a2h b):=by
 unfold b5X a2h
 rw [a0r,Option.bind_some]
 cases p9 b 1 3000<;>rfl
def b7f (l:List Bool) (id:Int):Bool:=(idx l id).getD false
def a5G (l:List Bool) (id:Int):Bool:=((l.length:Int)==3)&&b7f l id
theorem d9b {l:List Bool} {id:Int} (h:p9 id 0 2=true) (hl:((l.length:Int)==3)=true):idx l id=some (b7f l id):=by
 unfold p9 at h
 simp only [decide_eq_true_eq] at h
 simp only [beq_iff_eq] at hl
 unfold b7f idx
 rw [if_pos h.1,List.getElem?_eq_getElem (by omega)]
 rfl
theorem e2Q {l:List Bool} {id:Int} (h:p9 id 0 2=true) (x:Bool):(bif ((l.length:Int)==3) then (idx l id).bind fun y=>some (y&&x) else some false)=some (a5G l id&&x):=by
 unfold a5G
 cases hl:((l.length:Int)==3)
 ·rfl
 ·rw [d9b h hl]
  rfl
theorem e4D {l:List Bool} {id:Int} (h:p9 id 0 2=true):b4i l id=some (a5G l id):=by
 unfold b4i a5G
 cases hl:((l.length:Int)==3)
 ·rfl
 ·rw [d9b h hl]
  rfl
def a45 (n:j4):Bool:=M6 n.b9 zE&&((n.a0.length:Int)==0)
def a1O (n:j4):Bool :=
  bif n.d7==0 then (n.a7==0)&&(((n.b5.length:Int)==0)&&(((n.i4.length:Int)==0)&&a45 n)) else
  (a2h n.a7==n.Id)&&(decide (n.a7≤n.Acc.d9)&&(S8 n.i4 &&
    (bif n.d7==1 then a5G n.b5 n.Id&&a45 n else
     bif n.d7==2 then ((n.b5.length:Int)==0)&&a45 n else
     bif n.d7==3 then ((n.b5.length:Int)==0)&&(B8 n.b9&&(a5G n.a0 n.Id&&decide ((n.a6.length:Int)<40))) else false)))
theorem c4c {n:j4} (h:p9 n.Id 0 2=true) (ho:(a2h n.a7==n.Id)=true):p9 n.a7 1 3000=true:=by
 cases hb:p9 n.a7 1 3000
 ·unfold a2h at ho
  rw [hb] at ho
  unfold p9 at h
  simp only [decide_eq_true_eq,cond_false,beq_iff_eq] at h ho
  omega
 ·rfl
theorem e3C {n:j4} (h:P1 n) (hId:p9 n.Id 0 2=true):b3L n=some (a1O n):=by
 have hj:b3L n=b7a n (a45 n):=by
  unfold b3L a45
  simp only [a7k h.2.2.2.2.2.2.2.2.1,Option.bind_some]
  cases M6 n.b9 zE<;>rfl
 rw [hj]
 unfold b7a a1O
 simp only [e8s,c7e h.2.2.2.2.2.2.2.1,e4D hId,a8i h.2.2.2.2.2.2.2.2.1.f,Option.bind_some,a4g]
 cases n.d7==0
 ·simp only [cond_false]
  cases n.d7==1<;>cases n.d7==2<;>cases n.d7==3<;>simp only [cond_true,cond_false,b5j,b4N,a6j,Bool.not_not]<;>(cases a2h n.a7==n.Id<;>cases decide (n.a7≤n.Acc.d9)<;>cases S8 n.i4<;>rfl)
 ·rfl
theorem f3T {n:j4} (h:P1 n) (hId:p9 n.Id 0 2=true):c0o n=some (a1O n):=by
 unfold c0o a1O
 simp only [e9y,b0Z,c7v h.2.2.2.2.2.2.2.2.1,c8W h.2.2.2.2.2.2.2.1,a5r h.2.2.2.2.2.2.2.2.1.f,Option.bind_some,a4g,b5j,e2Q hId,b4N,a6j,Bool.not_not]
 have hb:=c4c (n:=n) hId
 cases h0:n.d7==0
 ·cases h1:n.d7==1
  ·cases h2:n.d7==2
   ·cases h3:n.d7==3
    ·simp only [cond_false,Bool.and_false]
    ·simp only [cond_false,cond_true,b5j,b4N,a6j,Bool.not_not]
     cases ho:a2h n.a7==n.Id
     ·simp
     ·rw [hb ho]
      cases decide (n.a7≤n.Acc.d9)<;>cases S8 n.i4<;>cases ((n.b5.length:Int)==0)<;>rfl
   ·simp only [cond_false,cond_true,b5j,b4N,a6j,Bool.not_not]
    cases ho:a2h n.a7==n.Id
    ·simp
    ·rw [hb ho]
     unfold a45
     cases decide (n.a7≤n.Acc.d9)<;>cases S8 n.i4<;>cases ((n.b5.length:Int)==0)<;>rfl
  ·simp only [cond_false,cond_true,b5j,b4N,a6j,Bool.not_not]
   cases ho:a2h n.a7==n.Id
   ·simp
   ·rw [hb ho]
    unfold a45
    cases decide (n.a7≤n.Acc.d9)<;>cases S8 n.i4<;>cases a5G n.b5 n.Id<;>rfl
 ·unfold a45
  simp only [cond_true]
def a46 (n:j4):Bool :=
 bif n.i6 then I8 n.g7&&(B8 n.b8&&(!n.b8.i0&&(([n.b8.a5.c8,n.b8.a5.Seq]:List Int)==[n.Id,n.Seq]))) else ((n.g7.length:Int)==0)&&M6 n.b8 zE
theorem e2h {n:j4} (h:P1 n):b9j n=some (a46 n):=by
 unfold b9j a46
 have hw:=h.2.2.2.2.2.2.2.2.2.2.2.1
 simp only [c7v hw,b83 (h.2.2.2.2.2.2.2.2.2.2.1.fits (by decide)),a5r hw.f,Option.bind_some,a4g]
 cases n.i6<;>rfl
def b5B (l:List l8):Bool:=l.all fun e=>B8 e && !e.i0
def J4 (n:j4):Bool:=p9 n.Id 0 2&&(a1B n.Acc&&(L0 n.a6&&(p9 n.Seq 0 1000&&(decide ((n.b7.length:Int)≤4)&&(a1O n&&(a46 n&&b5B n.b7))))))
theorem b0k {n:j4} (h:P1 n):a5J n=some (J4 n):=by
 unfold a5J J4
 rw [c31]
 cases hId:p9 n.Id 0 2
 ·rfl
 ·rw [rng,e8n h.2.1,d4o (okEntries.s h.2.2.1),f3T h hId,e2h h,M0 n.b7 (h.2.2.2.2.2.2.2.2.2.2.2.2.fits (by decide)) (fun e=>B8 e && !e.i0) false ()]
  ·unfold b5B c3H
   rw [← a6j]
   simp only [Option.bind_some,cond_true]
   cases a1B n.Acc<;>cases L0 n.a6<;>cases p9 n.Seq 0 1000<;>cases decide ((n.b7.length:Int)>4)<;>cases a1O n<;>cases a46 n<;>cases n.b7.all (fun e=>B8 e && !e.i0)<;>rfl
  ·intro k hk
   unfold b7L
   rw [x6 _ k hk,t8 hk]
   simp only [cond_true,Option.bind_some,a5r ((h.2.2.2.2.2.2.2.2.2.2.2.2).2 _ (List.getElem_mem hk)).f]
   cases B8 n.b7[k]<;>cases n.b7[k].i0<;>rfl
  ·unfold b7L
   rw [A4]; rfl
theorem e9W {n:j4} (h:P1 n):b7k n=some (J4 n):=by
 unfold b7k J4
 rw [a0r,Option.bind_some]
 cases hId:p9 n.Id 0 2
 ·rfl
 ·have hw:=h.2.2.2.2.2.2.2.2.2.2.2.1
  have hk3:b54 n=some (a46 n&&a1O n):=by
   unfold b54 c19 a46
   simp only [c3L (h.2.2.2.2.2.2.2.2.2.2.1.fits (by decide)),a8i hw.f,a7k hw,e3C h hId,Option.bind_some]
   cases n.i6
   ·rw [d82]
    cases ((n.g7.length:Int)==0)<;>cases M6 n.b8 zE<;>rfl
   ·cases I8 n.g7<;>cases B8 n.b8<;>cases n.b8.i0<;>cases (([n.b8.a5.c8,n.b8.a5.Seq]:List Int)==[n.Id,n.Seq])<;>rfl
  rw [f3U h.2.1,c6L (okEntries.s h.2.2.1),a0r,hk3,M0 n.b7 (h.2.2.2.2.2.2.2.2.2.2.2.2.fits (by decide)) (fun e=>B8 e && !e.i0) false ()]
  ·unfold b5B
   rw [← a6j]
   simp only [Option.bind_some,Bool.not_true,cond_false]
   cases a1B n.Acc<;>cases L0 n.a6<;>cases p9 n.Seq 0 1000<;>cases decide ((n.b7.length:Int)>4)<;>cases a1O n<;>cases a46 n<;>cases n.b7.all (fun e=>B8 e && !e.i0)<;>rfl
  ·intro k hk
   unfold b7H
   rw [x6 _ k hk,t8 hk]
   simp only [cond_true,Option.bind_some,a8i ((h.2.2.2.2.2.2.2.2.2.2.2.2).2 _ (List.getElem_mem hk)).f]
   cases B8 n.b7[k]<;>cases n.b7[k].i0<;>rfl
  ·unfold b7H
   rw [A4]; rfl
def a7e (m:l9):Bool :=
 let bal:=p9 m.a7 1 3000
 let non:=M6 m.g9 zE
 let nv:=(m.a0.length:Int)==0
 bif m.c9==1 then bal&&(non&&nv) else
 bif m.c9==4 then bal&&(non&&nv) else
 bif m.c9==2 then bal&&(non&&(S8 m.a0&&decide (m9 (m.i5+(m.a0.length:Int))≤40))) else
 bif m.c9==3 then bal&&(decide (m.i5<40)&&(B8 m.g9&&nv)) else
 bif m.c9==5 then (m.a7==0)&&(decide (m.i5<40)&&(B8 m.g9&&nv)) else
 bif m.c9==6 then bal&&((m.i5==0)&&(non&&nv)) else
 bif m.c9==7 then (m.a7==0)&&((m.i5==0)&&(B8 m.g9&&(!m.g9.i0&&nv))) else
 bif m.c9==8 then (m.a7==0)&&(non&&nv) else false
def a0C (m:l9):Bool:=p9 m.b5 0 2&&(p9 m.To 0 2&&(!(m.b5==m.To)&&(p9 m.i5 0 40&&a7e m)))
theorem e1E {m:l9} (h:a3K m):b6g m=some (a0C m):=by
 unfold b6g a0C a7e
 have he:=h.2.2.2.2.2.1
 simp only [a0r,a7k he,a8i he.f,c7e h.2.2.2.2.2.2,Option.bind_some,a4g]
 cases p9 m.b5 0 2
 ·rfl
 cases p9 m.To 0 2
 ·rfl
 cases m.b5==m.To
 case true=>rfl
 cases p9 m.i5 0 40
 ·rfl
 cases m.c9==1<;>cases m.c9==4<;>cases m.c9==2<;>cases m.c9==3<;>cases m.c9==5<;>cases m.c9==6<;>cases m.c9==7<;>cases m.c9==8<;>rfl
theorem f08 {m:l9} (h:a3K m):b5Y m=some (a0C m):=by
 unfold b5Y a0C
 have he:=h.2.2.2.2.2.1
 have hj2:b8o m=b4w m (M6 m.g9 zE) (B8 m.g9&&decide (m.i5<40)):=by
  unfold b8o
  simp only [c7v he,a5r he.f,Option.bind_some]
  cases B8 m.g9<;>rfl
 have hj : ∀ nv:Bool,nv=((m.a0.length:Int)==0)→(m.c9==2||nv)=true→b4w m (M6 m.g9 zE) (B8 m.g9&&decide (m.i5<40))=some (a7e m):=by
  intro nv hnv hk
  unfold b4w a7e
  simp only [b0Z,c8W h.2.2.2.2.2.2,a5r he.f,Option.bind_some,a4g]
  rw [← hnv]
  cases h1:m.c9==1
  case true =>
   have:(m.c9==2)=false:=by
    simp only [beq_iff_eq] at h1
    rw [h1]; rfl
   rw [this,Bool.false_or] at hk
   simp only [cond_true,hk,Bool.and_true]
  cases h2:m.c9==2
  case true =>
   cases h4:m.c9==4
   ·rfl
   ·simp only [beq_iff_eq] at h2 h4
    omega
  rw [h2,Bool.false_or] at hk
  subst hk
  cases h3:m.c9==3
  case true =>
   cases h4:m.c9==4
   ·simp only [cond_true,cond_false,Bool.and_true]
    cases p9 m.a7 1 3000<;>cases B8 m.g9<;>cases decide (m.i5<40)<;>rfl
   ·simp only [beq_iff_eq] at h3 h4
    omega
  cases h4:m.c9==4
  case true=>simp only [cond_true,cond_false,Bool.and_true]
  simp only [cond_false]
  cases m.c9==5
  case true =>
   simp only [cond_true,Bool.and_true]
   cases m.a7==0<;>cases B8 m.g9<;>cases decide (m.i5<40)<;>rfl
  simp only [cond_false]
  cases m.c9==6
  case true =>
   simp only [cond_true,Bool.and_true]
   cases p9 m.a7 1 3000<;>cases M6 m.g9 zE<;>cases m.i5==0<;>rfl
  cases m.c9==7<;>cases m.c9==8<;>simp only [cond_true,cond_false,Bool.and_true,Bool.true_and,Bool.false_and]
 rw [hj2,c31]
 cases p9 m.b5 0 2
 ·rfl
 simp only [cond_true,Bool.true_and]
 rw [c31]
 cases p9 m.To 0 2
 ·rfl
 simp only [cond_true,Bool.true_and]
 cases m.b5==m.To
 case true=>rfl
 simp only [cond_false,Bool.not_false,Bool.true_and]
 rw [rng]
 cases p9 m.i5 0 40
 ·rfl
 simp only [cond_true,Bool.true_and]
 rw [d82]
 cases h2:m.c9==2
 ·rw [show (m.c9 != 2)=true from by rw [bne,h2]; rfl]
  cases hv:((m.a0.length:Int)==0)
  ·show some false=_
   have:a7e m=false:=by
    unfold a7e
    rw [h2,hv]
    simp
   rw [this]
  ·exact hj true hv.symm (by simp)
 ·rw [show (m.c9 != 2)=false from by rw [bne,h2]; rfl]
  exact hj _ rfl (by rw [h2]; rfl)
def a0t (t:n4):Bool:=p9 t.Node 0 2&&((p9 t.a5.c8 0 2&&p9 t.a5.Seq 1 1000)&&((t.a5.c8==t.Node)&&(p9 t.Code 0 4&&p9 t.d6 (-1000000) 1000000)))
theorem e2q (t:n4):c0m t=some (a0t t):=by
 unfold c0m a0t
 simp only [c5k,a7F,Option.bind_some,a4g]
 have e1:p9 t.Node 0 2=(decide (t.Node≥0)&&decide (t.Node<3)):=by
  unfold p9
  by_cases h1:t.Node≥0<;>by_cases h2:t.Node<3<;>simp [h1,h2]<;>omega
 have e2:p9 t.Code 0 4=(decide (t.Code≥0)&&decide (t.Code≤4)):=by
  unfold p9
  by_cases h1:t.Code≥0<;>by_cases h2:t.Code≤4<;>simp [h1,h2]<;>omega
 rw [e1,e2]
 simp only [Bool.and_assoc]
def a10 (x:t7):Bool:=(p9 x.a5.c8 0 2&&p9 x.a5.Seq 1 1000)&&I8 x.g7
def a5n (w:l7) (k:Nat):Bool:=match w.Nodes[k]? with
 | some n=>(n.Id==(k:Int))&&J4 n
 | none=>true
def A3 (w:l7):Bool:=((w.Nodes.length:Int)==3)&&(decide ((w.Net.length:Int)≤40)&&(decide ((w.Asked.length:Int)≤60)&&(decide ((w.Told.length:Int)≤60)&&((List.range w.Nodes.length).all (a5n w)&&(w.Net.all a0C&&(w.Asked.all a10&&w.Told.all a0t))))))
theorem a6g {w:l7} (h:K0 w):a33 w=some (A3 w):=by
 have k7:b7O w=some (w.Told.all a0t):=by
  unfold b7O
  rw [M0 w.Told (h.2.2.2.fits (by decide)) a0t false ()]
  ·cases w.Told.all a0t<;>rfl
  ·intro k hk
   unfold b9C
   rw [x6 _ k hk,t8 hk]
   simp only [cond_true,Option.bind_some,e2q]
   cases a0t w.Told[k]<;>rfl
  ·unfold b9C
   rw [A4]; rfl
 have k9:b7t w=some (w.Asked.all a10&&w.Told.all a0t):=by
  unfold b7t
  rw [M0 w.Asked (h.2.2.1.fits (by decide)) a10 false ()]
  ·rw [k7]
   cases w.Asked.all a10<;>rfl
  ·intro k hk
   unfold b8p
   rw [x6 _ k hk,t8 hk]
   simp only [cond_true,Option.bind_some,c5k,b83 ((h.2.2.1.2 _ (List.getElem_mem hk)).2.fits (by decide))]
   unfold a10
   cases p9 w.Asked[k].a5.c8 0 2&&p9 w.Asked[k].a5.Seq 1 1000<;>cases I8 w.Asked[k].g7<;>rfl
  ·unfold b8p
   rw [A4]; rfl
 have k11:b8Y w=some (w.Net.all a0C&&(w.Asked.all a10&&w.Told.all a0t)):=by
  unfold b8Y
  rw [M0 w.Net (h.2.1.fits (by decide)) a0C false ()]
  ·rw [k9]
   cases w.Net.all a0C<;>rfl
  ·intro k hk
   unfold c0c
   rw [x6 _ k hk,t8 hk]
   simp only [cond_true,Option.bind_some,f08 (h.2.1.2 _ (List.getElem_mem hk))]
   cases a0C w.Net[k]<;>rfl
  ·unfold c0c
   rw [A4]; rfl
 unfold a33 A3
 rw [a0R w.Nodes (h.1.fits (by decide)) (a5n w) false ()]
 ·rw [k11]
  simp only [← a6j]
  rw [show ((w.Nodes.length:Int)==3) = !((w.Nodes.length:Int) != 3) from by simp [bne]]
  cases ((w.Nodes.length:Int) != 3)<;>cases decide ((w.Net.length:Int)>40)<;>cases decide ((w.Asked.length:Int)>60)<;>cases decide ((w.Told.length:Int)>60)<;>cases (List.range w.Nodes.length).all (a5n w)<;>rfl
 ·intro k hk _
  unfold b8R
  rw [x6 _ k hk,t8 hk]
  simp only [cond_true,Option.bind_some,b0k (h.1.2 _ (List.getElem_mem hk)),a5n,List.getElem?_eq_getElem hk,bne]
  cases w.Nodes[k].Id==(k:Int)<;>cases J4 w.Nodes[k]<;>rfl
 ·unfold b8R
  rw [A4]; rfl
theorem a8P {w:l7} (h:K0 w):a4Y w=some (A3 w):=by
 have k7:b7I w=some (w.Told.all a0t):=by
  unfold b7I
  rw [M0 w.Told (h.2.2.2.fits (by decide)) a0t false ()]
  ·cases w.Told.all a0t<;>rfl
  ·intro k hk
   unfold b85
   rw [x6 _ k hk,t8 hk]
   simp only [cond_true,Option.bind_some,a0r,c1b]
   unfold a0t
   rw [show (w.Told[k].a5.c8==w.Told[k].Node) = !(w.Told[k].a5.c8 != w.Told[k].Node) from by simp [bne]]
   cases p9 w.Told[k].Node 0 2<;>cases p9 w.Told[k].a5.c8 0 2&&p9 w.Told[k].a5.Seq 1 1000<;>cases (w.Told[k].a5.c8 != w.Told[k].Node)<;>cases p9 w.Told[k].Code 0 4<;>cases p9 w.Told[k].d6 (-1000000) 1000000<;>rfl
  ·unfold b85
   rw [A4]; rfl
 have k9:b9G w=some (w.Asked.all a10&&w.Told.all a0t):=by
  unfold b9G
  rw [M0 w.Asked (h.2.2.1.fits (by decide)) a10 false ()]
  ·rw [k7]
   cases w.Asked.all a10<;>rfl
  ·intro k hk
   unfold b7j
   rw [x6 _ k hk,t8 hk]
   simp only [cond_true,Option.bind_some,c1b,c3L ((h.2.2.1.2 _ (List.getElem_mem hk)).2.fits (by decide))]
   unfold a10
   cases p9 w.Asked[k].a5.c8 0 2&&p9 w.Asked[k].a5.Seq 1 1000<;>cases I8 w.Asked[k].g7<;>rfl
  ·unfold b7j
   rw [A4]; rfl
 have k11:b8e w=some (w.Net.all a0C&&(w.Asked.all a10&&w.Told.all a0t)):=by
  unfold b8e
  rw [M0 w.Net (h.2.1.fits (by decide)) a0C false ()]
  ·rw [k9]
   cases w.Net.all a0C<;>rfl
  ·intro k hk
   unfold c08
   rw [x6 _ k hk,t8 hk]
   simp only [cond_true,Option.bind_some,e1E (h.2.1.2 _ (List.getElem_mem hk))]
   cases a0C w.Net[k]<;>rfl
  ·unfold c08
   rw [A4]; rfl
 unfold a4Y A3
 rw [a0R w.Nodes (h.1.fits (by decide)) (a5n w) false ()]
 ·rw [k11]
  simp only [← a6j]
  rw [show ((w.Nodes.length:Int)==3) = !((w.Nodes.length:Int) != 3) from by simp [bne]]
  cases ((w.Nodes.length:Int) != 3)<;>cases decide ((w.Net.length:Int)>40)<;>cases decide ((w.Asked.length:Int)>60)<;>cases decide ((w.Told.length:Int)>60)<;>cases (List.range w.Nodes.length).all (a5n w)<;>rfl
 ·intro k hk _
  unfold b7R
  rw [x6 _ k hk,t8 hk]
  simp only [cond_true,Option.bind_some,e9W (h.1.2 _ (List.getElem_mem hk)),a5n,List.getElem?_eq_getElem hk,bne]
  cases w.Nodes[k].Id==(k:Int)<;>cases J4 w.Nodes[k]<;>rfl
 ·unfold b7R
  rw [A4]; rfl
theorem d9X {α:Type} {p:List α→List α→Nat→Bool} (hp : ∀ (a b:List α) (k:Nat) (x y:α),a[k]?=some x→b[k]?=some y→(p a b k=true↔x=y)) (a b:List α):(a.length==b.length&&(List.range a.length).all (p a b))=true↔a=b:=by
 constructor
 ·intro h
  simp only [Bool.and_eq_true,beq_iff_eq,List.all_eq_true,List.mem_range] at h
  refine List.ext_getElem h.1 fun i h1 h2 => ?_
  exact (hp a b i _ _ (List.getElem?_eq_getElem h1) (List.getElem?_eq_getElem h2)).1 (h.2 i h1)
 ·rintro rfl
  simp only [Bool.and_eq_true,beq_iff_eq,List.all_eq_true,List.mem_range,true_and]
  intro k hk
  exact (hp a a k _ _ (List.getElem?_eq_getElem hk) (List.getElem?_eq_getElem hk)).2 rfl
theorem d5r (a b:m8):a5K a b=true↔a=b:=by
 have h1:=d9X (p:=a38) (fun a b k x y hx hy=>by
  unfold a38
  rw [hx,hy]
  cases x; cases y
  simp) a.a8 b.a8
 have h2:=d9X (p:=a3R) (fun a b k x y hx hy=>by
  unfold a3R
  rw [hx,hy]
  cases x; cases y
  simp) a.a9 b.a9
 unfold a5K
 rw [Bool.and_eq_true,h1,Bool.and_eq_true,h2,Bool.and_eq_true,beq_iff_eq,beq_iff_eq]
 cases a; cases b
 simp
theorem a3G (a b:l8):M6 a b=true↔a=b:=by
 unfold M6
 rw [Bool.and_eq_true,Bool.and_eq_true,d5r]
 obtain ⟨n,⟨q1,q2⟩,r⟩:=a
 obtain ⟨n',⟨q1',q2'⟩,r'⟩:=b
 simp [and_assoc]
theorem W5 {n lo hi:Int}:p9 n lo hi=true↔lo≤n∧n≤hi:=by unfold p9; simp
theorem c1x {w:l7} (h:A3 w=true):w.Nodes.length=3 ∧ ∀ n∈w.Nodes,J4 n=true:=by
 unfold A3 at h
 simp only [Bool.and_eq_true,beq_iff_eq,List.all_eq_true,List.mem_range] at h
 refine ⟨by omega,fun n hn => ?_⟩
 obtain ⟨i,hi,rfl⟩:=List.getElem_of_mem hn
 have:=h.2.2.2.2.1 i hi
 unfold a5n at this
 rw [List.getElem?_eq_getElem hi] at this
 simp only [Bool.and_eq_true] at this
 exact this.2
theorem b1Y {n:j4} (h:J4 n=true):p9 n.Id 0 2=true∧a1B n.Acc=true∧L0 n.a6=true∧a1O n=true∧a46 n=true:=by
 unfold J4 at h
 simp only [Bool.and_eq_true] at h
 exact ⟨h.1,h.2.1,h.2.2.1,h.2.2.2.2.2.1,h.2.2.2.2.2.2.1⟩
theorem e3K {l:List m6} (h:S8 l=true):l.length≤40 ∧ ∀ v∈l,0≤v.a7:=by
 unfold S8 at h
 simp only [Bool.and_eq_true,decide_eq_true_eq,List.all_eq_true] at h
 refine ⟨h.1,fun v hv => ?_⟩
 have:=h.2 v hv
 unfold a1w at this
 cases hb:v.a7==0
 ·rw [hb] at this
  simp only [cond_false,Bool.and_eq_true,W5] at this
  omega
 ·simp only [beq_iff_eq] at hb
  omega
theorem e3I {a:A0} (h:a1B a=true):a.a0.length≤40 ∧ ∀ v∈a.a0,0≤v.a7:=by
 unfold a1B at h
 simp only [Bool.and_eq_true] at h
 exact e3K h.2.1
theorem d2f {n:j4} (hId:p9 n.Id 0 2=true) (h:a1O n=true):0≤n.a7∧(n.d7=3→1≤n.a7):=by
 unfold a1O at h
 cases h0:n.d7==0
 ·rw [h0] at h
  simp only [cond_false,Bool.and_eq_true] at h
  have:=W5.1 (c4c hId h.1)
  omega
 ·rw [h0] at h
  simp only [cond_true,Bool.and_eq_true,beq_iff_eq] at h h0
  omega
theorem f4j {l:List n7} (h:C3 16 d38 l):a4C l=some l:=by
 have hb:=h.1
 unfold a4C
 cases hl:((l.length:Int)==0)
 ·rw [cond_false,x5 (by constructor<;>omega),x5 (by simp)]
 ·simp only [beq_iff_eq] at hl
  have:l=[]:=List.eq_nil_of_length_eq_zero (by omega)
  rw [this]; rfl
theorem f1F {l:List n3} (h:C3 16 d6m l):a9x l=some l:=by
 have hb:=h.1
 unfold a9x
 cases hl:((l.length:Int)==0)
 ·rw [cond_false,x5 (by constructor<;>omega),x5 (by simp)]
 ·simp only [beq_iff_eq] at hl
  have:l=[]:=List.eq_nil_of_length_eq_zero (by omega)
  rw [this]; rfl
theorem f1P {e:l8} (h:G6 e):b81 e=some e:=by
 unfold b81 c8U
 rw [f4j h.2.1,Option.bind_some,f1F h.2.2.1]
 rfl
theorem a2q {e:l8} (h:G6 e):a1b e=some e:=by
 have h1:=h.2.1.1
 have h2:=h.2.2.1.1
 unfold a1b c8e
 rw [x5 (by simp; omega),x5 (by simp; omega)]
 rfl
theorem f06 {l:List l8} (h:C3 88 G6 l):b8t l=some l:=by
 have hb:=h.1
 unfold b8t
 cases hl:((l.length:Int)==0)
 ·rw [cond_false,x5 (by constructor<;>omega),x5 (by simp)]
 ·simp only [beq_iff_eq] at hl
  have:l=[]:=List.eq_nil_of_length_eq_zero (by omega)
  rw [this]; rfl
theorem e9i {l:List l8} (h:C3 88 G6 l):c0v l=some l:=by
 have hf:s9 l:=h.fits (by decide)
 unfold c0v
 rw [f06 h,Option.bind_some]
 have hl:=a05 (body:=fun s:(List l8)×Int=>b3T l s.1 s.2) (fun k=>(l,(k:Int))) l.length (by
  intro k hk
  unfold b3T
  rw [x6 _ k hk,t8 hk]
  simp only [cond_true,Option.bind_some,f1P (h.2 _ (List.getElem_mem hk)),J0 hf hk,Int.toNat_natCast,List.set_getElem_self])
 rw [show ((0:Nat):Int)=0 from rfl] at hl
 rw [hl,H3 (b:=l)]
 ·rfl
 ·unfold b3T
  rw [A4]; rfl
theorem c4g {l:List l8} (h:C3 88 G6 l):b0u l=some l:=by
 have hf:s9 l:=h.fits (by decide)
 have hb:=h.1
 unfold b0u
 have hl:=a05 (body:=fun s:(List l8)×Int=>b45 l s.1 s.2) (fun k=>(l.take k,(k:Int))) l.length (by
  intro k hk
  unfold b45
  rw [x6 _ k hk,t8 hk]
  simp only [cond_true,Option.bind_some,a2q (h.2 _ (List.getElem_mem hk)),J0 hf hk]
  rw [x5 (by rw [List.length_take]; omega),List.take_succ_eq_append_getElem hk])
 rw [show ((0:Nat):Int)=0 from rfl,List.take_zero] at hl
 rw [hl,List.take_length,H3 (b:=l)]
 ·rfl
 ·unfold b45
  rw [A4]; rfl
def best (w:l7):Nat→Nat
 | 0=>0
 | k+1=>match w.Nodes[k]?,w.Nodes[best w k]? with
  | some a,some b=>bif decide ((a.a6.length:Int)>(b.a6.length:Int)) then k else best w k
  | _,_=>best w k
theorem a7p (w:l7) : ∀ k,0<w.Nodes.length→k≤w.Nodes.length→best w k<w.Nodes.length
 | 0,h,_=>h
 | k+1,h,hk=>by
  have hb:=a7p w k h (by omega)
  unfold best
  rw [List.getElem?_eq_getElem (show k<w.Nodes.length by omega),List.getElem?_eq_getElem hb]
  simp only
  cases decide ((w.Nodes[k].a6.length:Int)>(w.Nodes[best w k].a6.length:Int))
  ·exact hb
  ·exact hk
theorem c2d {w:l7} {k:Nat} (h:0<w.Nodes.length) (hk:k<w.Nodes.length):best w (k+1)=bif decide ((w.Nodes[k].a6.length:Int)>((w.Nodes[best w k]'(a7p w k h (by omega))).a6.length:Int)) then k else best w k:=by
 conv=>lhs; unfold best
 rw [List.getElem?_eq_getElem hk,List.getElem?_eq_getElem (a7p w k h (by omega))]
def ist (w:l7):Nat→Int×Int
 | 0=>(-1,0)
 | k+1=>((best w (k+1):Int),((k+1:Nat):Int))
def D4 (w:l7):List l8:=match w.Nodes[best w w.Nodes.length]? with
 | some n=>n.a6
 | none=>[]
theorem d2k {w:l7} (h:K0 w) (hn:0<w.Nodes.length):b0P w=some (D4 w):=by
 have hf:s9 w.Nodes:=h.1.fits (by decide)
 unfold b0P
 have hl:=a05 (body:=fun s:Int×Int=>b2X w s.1 s.2) (fun k=>((best w k:Int),(k:Int))) w.Nodes.length (by
  intro k hk
  have hb:=a7p w k hn (by omega)
  unfold b2X c2o
  rw [x6 _ k hk,t8 hk,t8 hb,c2d hn hk]
  simp only [cond_true,Option.bind_some,J0 hf hk]
  cases decide ((w.Nodes[k].a6.length:Int)>(w.Nodes[best w k].a6.length:Int))<;>rfl)
 rw [show ((0:Nat):Int)=0 from rfl,show best w 0=0 from rfl] at hl
 have hbn:=a7p w w.Nodes.length hn (Nat.le_refl _)
 rw [show ((0:Nat):Int)=0 from rfl] at hl
 rw [hl,H3 (b:=(best w w.Nodes.length:Int))]
 ·simp only [Option.bind_some,j8.go]
  unfold c6I D4
  rw [show ((w.Nodes.length:Int)==0)=false from by rw [← Bool.not_eq_true,beq_iff_eq]; omega,t8 hbn,List.getElem?_eq_getElem hbn]
  simp only [cond_false,Option.bind_some,c4g (h.1.2 _ (List.getElem_mem hbn)).2.2.1]
 ·unfold b2X
  rw [A4]; rfl
theorem d7J {w:l7} (h:K0 w) (hn:0<w.Nodes.length):b0v w=some (D4 w):=by
 have hf:s9 w.Nodes:=h.1.fits (by decide)
 unfold b0v
 have hl:=a05 (body:=fun s:Int×Int=>a5F w s.1 s.2) (ist w) w.Nodes.length (by
  intro k hk
  cases k with
  | zero =>
   show a5F w (-1) 0=some (.nxt ((best w (0+1):Int),((0+1:Nat):Int)))
   unfold a5F b6e
   rw [show decide ((0:Int)<(w.Nodes.length:Int))=true from by simpa using hk,show idx w.Nodes 0=some w.Nodes[0] from t8 hk,show best w (0+1)=0 from by rw [c2d hn hk]; cases decide ((w.Nodes[0].a6.length:Int)>(w.Nodes[best w 0].a6.length:Int))<;>rfl]
   simp only [cond_true,Option.bind_some]
   have:m9 ((0:Int)+1)=((0+1:Nat):Int):=J0 hf hk
   rw [this]
   rfl
  | succ k =>
   have hb:=a7p w (k+1) hn (by omega)
   show a5F w (best w (k+1):Int) ((k+1:Nat):Int)=some (.nxt ((best w (k+1+1):Int),((k+1+1:Nat):Int)))
   unfold a5F b6e
   rw [x6 _ (k+1) hk,t8 hk,t8 hb,c2d hn hk,show decide ((best w (k+1):Int)<0)=false from by simp]
   simp only [cond_true,cond_false,Option.bind_some,J0 hf hk]
   cases decide ((w.Nodes[k+1].a6.length:Int)>(w.Nodes[best w (k+1)].a6.length:Int))<;>rfl)
 have hbn:=a7p w w.Nodes.length hn (Nat.le_refl _)
 obtain ⟨m,hm⟩ : ∃ m,w.Nodes.length=m+1:=⟨w.Nodes.length - 1,by omega⟩
 rw [show ist w w.Nodes.length=((best w w.Nodes.length:Int),(w.Nodes.length:Int)) from by rw [hm]; rfl] at hl
 rw [show o9 (fun s:Int×Int=>a5F w s.1 s.2) ((-1:Int),(0:Int))=_ from hl,H3 (b:=(best w w.Nodes.length:Int))]
 ·simp only [Option.bind_some,j8.go]
  unfold c6Q D4
  rw [show decide ((best w w.Nodes.length:Int)<0)=false from by simp,t8 hbn,List.getElem?_eq_getElem hbn]
  simp only [cond_false,Option.bind_some,e9i (h.1.2 _ (List.getElem_mem hbn)).2.2.1]
 ·unfold a5F
  rw [A4]; rfl
theorem d0I {w:l7} (h:K0 w) (hw:A3 w=true):0<w.Nodes.length∧C3 88 G6 (D4 w)∧L0 (D4 w)=true:=by
 obtain ⟨h3,hn⟩:=c1x hw
 have h0:0<w.Nodes.length:=by omega
 have hb:=a7p w w.Nodes.length h0 (Nat.le_refl _)
 refine ⟨h0,?_,?_⟩
 ·unfold D4
  rw [List.getElem?_eq_getElem hb]
  exact (h.1.2 _ (List.getElem_mem hb)).2.2.1
 ·unfold D4
  rw [List.getElem?_eq_getElem hb]
  exact (b1Y (hn _ (List.getElem_mem hb))).2.2.1
def L5 (q:n5) (e:l8):Bool := !e.i0&&(([e.a5.c8,e.a5.Seq]:List Int)==[q.c8,q.Seq])
theorem b0L {α R S B:Type} {body:S→Option (j3 R S B)} (st:Nat→S) (l:List α) (is:α→Bool) (r:Nat→R) (b:B)
  (h1 : ∀ (k:Nat) (h:k<l.length),body (st k)=some (bif is l[k] then .ret (r k) else .nxt (st (k+1)))) (h2:body (st l.length)=some (.brk b)) :
  o9 body (st 0)=some (match l.findIdx? is with | some k=>.ret (r k) | none=>.brk b):=by
 rcases a4R (body:=body) st l.length (fun k=>match l[k]? with | some x => !is x | none=>true) r b
  (fun k hk _=>by
   rw [h1 k hk,List.getElem?_eq_getElem hk]
   simp only
   cases is l[k]<;>rfl) (fun _=>h2) with ⟨h,hall⟩ | ⟨k,hk,ho,hb,h⟩
 ·have:l.findIdx? is=none:=by
   rw [List.findIdx?_eq_none_iff]
   intro x hx
   obtain ⟨i,hi,rfl⟩:=List.getElem_of_mem hx
   have:=hall i hi
   rw [List.getElem?_eq_getElem hi] at this
   simpa using this
  rw [this]; exact h
 ·have:l.findIdx? is=some k:=by
   rw [List.findIdx?_eq_some_iff_getElem]
   refine ⟨hk,?_,fun j hj => ?_⟩
   ·rw [List.getElem?_eq_getElem hk] at ho
    simpa using ho
   ·have:=hb j hj
    rw [List.getElem?_eq_getElem (show j<l.length by omega)] at this
    simpa using this
  rw [this]; exact h
theorem d0G {l:List l8} (h:s9 l) (q:n5):b4u l q=some (match l.findIdx? (L5 q) with | some k=>(k:Int) | none => -1):=by
  unfold b4u
  rw [show o9 (fun s:Int=>b12 l q s) 0=_ from b0L (body:=fun s:Int=>b12 l q s) (fun k=>(k:Int)) l (L5 q) (fun k=>(k:Int)) () (by
      intro k hk
      unfold b12 c2h L5
      rw [x6 _ k hk,t8 hk,← J0 h hk]
      simp only [cond_true,Option.bind_some]
      cases l[k].i0<;>cases (([l[k].a5.c8,l[k].a5.Seq]:List Int)==[q.c8,q.Seq])<;>rfl) (by
      unfold b12
      rw [A4]; rfl)]
  cases l.findIdx? (L5 q)<;>rfl
theorem d2R {l:List l8} (h:s9 l) (q:n5):b2q l q=some (match l.findIdx? (L5 q) with | some k=>(match l[k]? with | some e=>e.b6.d6 | none=>0) | none=>0):=by
  unfold b2q
  rw [show o9 (fun s:Int=>b0f l q s) 0=_ from b0L (body:=fun s:Int=>b0f l q s) (fun k=>(k:Int)) l (L5 q) (fun k=>match l[k]? with | some e=>e.b6.d6 | none=>0) () (by
      intro k hk
      unfold b0f c5u L5
      rw [x6 _ k hk,t8 hk,← J0 h hk,List.getElem?_eq_getElem hk]
      simp only [cond_true,Option.bind_some]
      cases l[k].i0<;>cases (([l[k].a5.c8,l[k].a5.Seq]:List Int)==[q.c8,q.Seq])<;>rfl) (by
      unfold b0f
      rw [A4]; rfl)]
  cases l.findIdx? (L5 q)<;>rfl
theorem c2q {l:List l8} (hl:l.length≤40) (he:l.all B8=true) {k:Nat} (hk:k<l.length):(r9 l).2[k]?=some (apply (r9 (l.take k)).1 l[k]).2:=by
 have key : ∀ m,k<m→m≤l.length→(r9 (l.take m)).2[k]?=some (apply (r9 (l.take k)).1 l[k]).2:=by
  intro m
  induction m with
  | zero=>omega
  | succ m ih =>
   intro h1 h2
   have hlen:=(a1X hl he m (by omega)).2.1
   rw [a4S (show m<l.length by omega)]
   unfold b1K
   simp only
   by_cases q:k<m
   ·rw [List.getElem?_append_left (by omega)]
    exact ih q (by omega)
   ·have:k=m:=by omega
    subst this
    rw [List.getElem?_append_right (by omega),hlen]
    simp
 have:=key l.length hk (Nat.le_refl _)
 rwa [List.take_length] at this
def a0Q (l:List l8) (k:Nat):Int:=(r9 l).2[k]?.getD 0
theorem f1d {l:List l8} (h:C3 88 G6 l) (hok:L0 l=true) (q:n5):b6k l q=some (match l.findIdx? (L5 q) with | some k=>(a0Q l k,true) | none=>(0,false)):=by
 obtain ⟨hl,he⟩:=a2V hok
 have hf:s9 l:=h.fits (by decide)
 unfold b6k
 rw [b6B,Option.bind_some]
 have:=b0L (body:=fun s:(List m4)×Int×Int×List n6=>a96 l q s.1 s.2.1 s.2.2.1 s.2.2.2) (fun k=>((r9 (l.take k)).1.d8,(k:Int),(r9 (l.take k)).1.At,(r9 (l.take k)).1.g8)) l (L5 q) (fun k=>(a0Q l k,true)) () (by
   intro k hk
   obtain ⟨h1,h2,h3⟩:=a1X hl he k (by omega)
   unfold a96 c5r L5 a0Q
   rw [x6 _ k hk,t8 hk,c2q hl he hk,a4S hk,← J0 hf hk]
   simp only [cond_true,Option.bind_some]
   rw [show (⟨(r9 (l.take k)).1.At,(r9 (l.take k)).1.d8,(r9 (l.take k)).1.g8⟩:q7)=(r9 (l.take k)).1 from rfl,b7g h1 (by omega) (List.all_eq_true.1 he _ (List.getElem_mem hk)) (h.2 _ (List.getElem_mem hk)).f,Option.bind_some]
   cases l[k].i0<;>cases (([l[k].a5.c8,l[k].a5.Seq]:List Int)==[q.c8,q.Seq])<;>rfl) (by
   unfold a96
   rw [A4]; rfl)
 rw [List.take_zero] at this
 rw [show o9 (fun s:(List m4)×Int×Int×List n6=>a96 l q s.1 s.2.1 s.2.2.1 s.2.2.2) (W1.d8,0,W1.At,W1.g8)=_ from this]
 cases l.findIdx? (L5 q)<;>rfl
def a79 (l:List l8) (t:n4):Bool:=match l.findIdx? (L5 t.a5) with
 | some k=>(a0Q l k==t.Code)&&((bif t.Code==0 then (match l[k]? with | some e=>e.b6.d6 | none=>0) else 0)==t.d6)
 | none=>false
theorem e3o {w:l7} (h:K0 w) : ∃ v,c0O w=some v∧b5P w=some v:=by
 unfold c0O b5P
 rw [a6g h,a8P h,Option.bind_some,Option.bind_some]
 cases hw:A3 w
 ·exact ⟨_,rfl,rfl⟩
 ·obtain ⟨h0,hlo,hok⟩:=d0I h hw
  obtain ⟨hl,he⟩:=a2V hok
  have hf:s9 w.Told:=h.2.2.2.fits (by decide)
  have hfl:s9 (D4 w):=hlo.fits (by decide)
  have hcl:(r9 (D4 w)).2.length=(D4 w).length:=by
   have:=(a1X hl he (D4 w).length (Nat.le_refl _)).2.1
   rwa [List.take_length] at this
  simp only [Bool.not_true,cond_false]
  rw [d2k h h0,d7J h h0,Option.bind_some,Option.bind_some,c6l (okEntries.s hlo) hl he,Option.bind_some]
  refine ⟨w.Told.all (a79 (D4 w)),?_,?_⟩
  ·rw [M0 w.Told hf (a79 (D4 w)) false ()]
   ·cases w.Told.all (a79 (D4 w))<;>rfl
   ·intro k hk
    unfold b92 c3E a79
    rw [x6 _ k hk,t8 hk]
    simp only [cond_true,Option.bind_some,f1d hlo hok,d2R hfl]
    cases (D4 w).findIdx? (L5 w.Told[k].a5) with
    | none=>rfl
    | some i =>
     simp only
     cases hc:a0Q (D4 w) i==w.Told[k].Code
     ·rw [show (a0Q (D4 w) i != w.Told[k].Code)=true from by rw [bne,hc]; rfl]
      cases a0Q (D4 w) i==0<;>rfl
     ·rw [show (a0Q (D4 w) i != w.Told[k].Code)=false from by rw [bne,hc]; rfl]
      simp only [beq_iff_eq] at hc
      rw [hc]
      cases w.Told[k].Code==0<;>simp only [cond_true,cond_false,Option.bind_some,j8.go,bne,Bool.true_and,Bool.not_true]<;>(cases (_:Int)==w.Told[k].d6<;>rfl)
   ·unfold b92
    rw [A4]; rfl
  ·rw [M0 w.Told hf (a79 (D4 w)) false ()]
   ·cases w.Told.all (a79 (D4 w))<;>rfl
   ·intro k hk
    unfold b7r c1y a79
    rw [x6 _ k hk,t8 hk]
    simp only [cond_true,Option.bind_some,d0G hfl]
    cases hfi:(D4 w).findIdx? (L5 w.Told[k].a5) with
    | none=>rfl
    | some i =>
     obtain ⟨hi,_⟩:=List.findIdx?_eq_some_iff_getElem.1 hfi
     simp only
     rw [show decide ((i:Int)<0)=false from by simp,t8 (show i<(r9 (D4 w)).2.length by omega),t8 hi,List.getElem?_eq_getElem hi]
     have hco:a0Q (D4 w) i=(r9 (D4 w)).2[i]'(by omega):=by unfold a0Q; rw [List.getElem?_eq_getElem (by omega)]; rfl
     rw [hco]
     simp only [cond_false,Option.bind_some]
     cases hc:(r9 (D4 w)).2[i]'(by omega)==w.Told[k].Code
     ·rw [show ((r9 (D4 w)).2[i]'(by omega) != w.Told[k].Code)=true from by rw [bne,hc]; rfl]
      rfl
     ·rw [show ((r9 (D4 w)).2[i]'(by omega) != w.Told[k].Code)=false from by rw [bne,hc]; rfl]
      have hcomm : ∀ x:Int,(w.Told[k].d6==x)=(x==w.Told[k].d6):=fun x=>by
       rw [Bool.eq_iff_iff,beq_iff_eq,beq_iff_eq]
       exact eq_comm
      cases w.Told[k].Code==0<;>simp only [cond_true,cond_false,Option.bind_some,j8.go,bne,Bool.true_and,Bool.not_true,hcomm]<;>(cases (_:Int)==w.Told[k].d6<;>rfl)
   ·unfold b7r
    rw [A4]; rfl
theorem c6t {α B R:Type} {body:Int→Option (j3 R Int B)} (l:List α) (hl:s9 l) (ok:α→Bool) (v:R) (b:B)
  (h1 : ∀ (k:Nat) (h:k<l.length),body (k:Int)=some (bif ok l[k] then .nxt (m9 ((k:Int)+1)) else .ret v))
  (h2:body (l.length:Int)=some (.brk b)):o9 body 0=some (bif l.all ok then .brk b else .ret v):=by
 have h:=a4R (body:=body) (fun k=>(k:Int)) l.length (fun k=>match l[k]? with | some x=>ok x | none=>true) (fun _=>v) b
  (fun k hk _=>by
   have:=h1 k hk
   rw [J0 hl hk] at this
   simpa [List.getElem?_eq_getElem hk] using this) (fun _=>h2)
 rcases h with ⟨h,hall⟩ | ⟨k,hk,ho,_,h⟩
 ·have:l.all ok=true:=by
   rw [List.all_eq_true]
   intro x hx
   obtain ⟨i,hi,rfl⟩:=List.getElem_of_mem hx
   have:=hall i hi
   simpa [List.getElem?_eq_getElem hi] using this
  rw [this]; exact h
 ·have:l.all ok=false:=by
   rw [List.all_eq_false]
   refine ⟨l[k],List.getElem_mem hk,?_⟩
   simpa [List.getElem?_eq_getElem hk] using ho
  rw [this]; exact h
theorem b2x {l:List n7} (h:l.length≤1000):a4C l=some l:=by
 unfold a4C
 cases hl:((l.length:Int)==0)
 ·rw [cond_false,x5 (by constructor<;>omega),x5 (by simp)]
 ·simp only [beq_iff_eq] at hl
  have:l=[]:=List.eq_nil_of_length_eq_zero (by omega)
  rw [this]; rfl
theorem f0W {l:List n3} (h:l.length≤1000):a9x l=some l:=by
 unfold a9x
 cases hl:((l.length:Int)==0)
 ·rw [cond_false,x5 (by constructor<;>omega),x5 (by simp)]
 ·simp only [beq_iff_eq] at hl
  have:l=[]:=List.eq_nil_of_length_eq_zero (by omega)
  rw [this]; rfl
def a1y (ps:List n3) (b:Int):Option Nat:=ps.findIdx? (·.f0==b)
def atI:Option Nat→Int
 | some k=>(k:Int)
 | none => -1
theorem c95 {l:List n3} (h:s9 l) (b:Int):a4s l b=some (atI (a1y l b)):=by
 unfold a4s
 rw [show (0:Int)=((0:Nat):Int) from rfl,b0L (body:=fun s:Int=>a3c l b s) (fun k=>(k:Int)) l (·.f0==b) (fun k=>(k:Int)) ()]
 ·unfold a1y
  cases l.findIdx? (·.f0==b)<;>rfl
 ·intro k hk
  unfold a3c
  rw [x6 _ k hk,t8 hk,J0 h hk]
  simp only [cond_true,Option.bind_some]
  cases l[k].f0==b<;>rfl
 ·unfold a3c
  rw [A4]; rfl
theorem d3s {x:m8} (h:s9 x.a9) (b:Int):b42 x b=some (atI (a1y x.a9 b)):=by
 unfold b42
 rw [show (0:Int)=((0:Nat):Int) from rfl,b0L (body:=fun s:Int=>b4C x b s) (fun k=>(k:Int)) x.a9 (·.f0==b) (fun k=>(k:Int)) ()]
 ·unfold a1y
  cases x.a9.findIdx? (·.f0==b)<;>rfl
 ·intro k hk
  unfold b4C
  rw [x6 _ k hk,t8 hk,J0 h hk]
  simp only [cond_true,Option.bind_some]
  cases x.a9[k].f0==b<;>rfl
 ·unfold b4C
  rw [A4]; rfl
theorem b8j {ps:List n3} {b:Int} {k:Nat} (h:a1y ps b=some k):k<ps.length:=by
 obtain ⟨hk,_⟩:=List.findIdx?_eq_some_iff_getElem.1 h
 exact hk
theorem b76 (k:Nat):decide (atI (some k)≥0)=true:=by simp [atI]
theorem c0n:decide (atI none≥0)=false:=by simp [atI]
theorem e7D {x:m8} (h:s9 x.a8) (b:Int) : ∃ v,b2R x b=some v∧decide (v<0) = !(T7 x.a8 b):=by
 obtain ⟨v,h1,h2⟩:=e2x h b
 refine ⟨v,h1,?_⟩
 rw [← h2]
 by_cases q:v≥0
 ·have : ¬ v<0:=by omega
  simp [q,this]
 ·have:v<0:=by omega
  simp [q,this]
def P7 (v:Int):Bool:=p9 v (-1000000) 1000000
def O1 (regs:List Int) (a:Int):Int:=regs.getD a.toNat 0
theorem S0 {regs:List Int} (h:regs.length=4) {a:Int} (ha:0≤a∧a≤3):idx regs a=some (O1 regs a):=by
 obtain ⟨k,rfl⟩:=Int.eq_ofNat_of_zero_le ha.1
 have hk:k<regs.length:=by omega
 rw [t8 hk]
 unfold O1
 simp [hk]
theorem e6p {regs:List Int} (h:regs.length=4) {a v:Int} (ha:0≤a∧a≤3):O1 (regs.set a.toNat v) a=v:=by
 unfold O1
 have:a.toNat<regs.length:=by omega
 simp [this]
theorem f2W {regs:List Int} (h:regs.length=4) (hr:regs.all P7=true) {a v:Int} (ha:0≤a∧a≤3):(regs.set a.toNat v).all P7=P7 v:=by
 cases hv:P7 v
 ·rw [List.all_eq_false]
  exact ⟨v,List.mem_of_getElem? (i:=a.toNat) (by rw [List.getElem?_set_self (by omega)]),by simp [hv]⟩
 ·rw [List.all_eq_true] at hr ⊢
  intro x hx
  rcases List.mem_or_eq_of_mem_set hx with hx | rfl
  ·exact hr x hx
  ·exact hv
theorem a5R {regs:List Int} (h:regs.length=4) (hr:regs.all P7=true) {a:Int} (ha:0≤a∧a≤3) : -1000000≤O1 regs a∧O1 regs a≤1000000:=by
 have hi:=S0 h ha
 have hm:O1 regs a∈regs:=List.mem_of_getElem? (b57 hi).2.2
 have:=List.all_eq_true.1 hr _ hm
 simpa [P7,p9] using this
structure EI (regs:List Int) (rs:List n7) (ps:List n3) (k:Nat):Prop where
 len:regs.length=4
 rng:regs.all P7=true
 rl:rs.length≤k
 pl:ps.length≤k
theorem EI.fr {regs:List Int} {rs:List n7} {ps:List n3} {k:Nat} (h:EI regs rs ps k) (hk:k≤100):s9 rs:=by
 have:=h.rl
 unfold s9
 omega
theorem EI.fp {regs:List Int} {rs:List n7} {ps:List n3} {k:Nat} (h:EI regs rs ps k) (hk:k≤100):s9 ps:=by
 have:=h.pl
 unfold s9
 omega
def N9 (l:List m4) (i:m7) (regs:List Int) (rs:List n7) (ps:List n3):List Int×List n7×List n3 :=
 bif i.c9==1 then (match a1y ps i.B with
  | some k=>(match ps[k]? with
   | some p=>(regs.set i.A.toNat p.d6,rs,ps)
   | none=>(regs,rs,ps))
  | none=>match l[i.B.toNat]? with
   | some b=>(regs.set i.A.toNat b.d6,bif T7 rs i.B then rs else rs++[⟨i.B,b.i7⟩],ps)
   | none=>(regs,rs,ps))
 else bif i.c9==2 then (regs,rs,match a1y ps i.A with
  | some k=>(match ps[k]? with
   | some p=>ps.set k ⟨p.f0,O1 regs i.B⟩
   | none=>ps)
  | none=>ps++[⟨i.A,O1 regs i.B⟩])
 else bif i.c9==3 then (regs.set i.A.toNat i.N,rs,ps)
 else bif i.c9==4 then (regs.set i.A.toNat (O1 regs i.A+O1 regs i.B),rs,ps)
 else bif i.c9==5 then (regs.set i.A.toNat (O1 regs i.A - O1 regs i.B),rs,ps)
 else (regs,rs,ps)
def a5T (l:List m4) (prog:List m7):Nat→Nat→List Int→List n7→List n3→m8
 | 0,_,regs,rs,ps=>⟨rs,ps,O1 regs 0,0⟩
 | f+1,k,regs,rs,ps=>match prog[k]? with
  | none=>⟨rs,ps,O1 regs 0,0⟩
  | some i=>bif i.c9==6 then a5T l prog f (bif decide (O1 regs i.A<O1 regs i.B) then k+i.N.toNat+1 else k+1) regs rs ps
   else bif i.c9==7 then ⟨rs,[],0,1⟩
   else bif (N9 l i regs rs ps).1.all P7 then a5T l prog f (k+1) (N9 l i regs rs ps).1 (N9 l i regs rs ps).2.1 (N9 l i regs rs ps).2.2
   else ⟨(N9 l i regs rs ps).2.1,[],0,2⟩
def E9 (l:List m4) (prog:List m7):m8:=bif F8 l&&I8 prog then a5T l prog (prog.length+1) 0 [0,0,0,0] [] [] else ⟨[],[],0,3⟩
section
variable {l:List m4} {regs:List Int} {rs:List n7} {ps:List n3} {k:Nat} {i:m7}
theorem d1B (h:regs.length=4):(N9 l i regs rs ps).1.length=4:=by
 unfold N9
 cases i.c9==1<;>cases i.c9==2<;>cases i.c9==3<;>cases i.c9==4<;>cases i.c9==5<;>simp only [cond_true,cond_false,List.length_set,h]
 all_goals
  split
  ·split<;>simp [h]
  ·split<;>simp [h]
theorem e5D (h:rs.length≤k):(N9 l i regs rs ps).2.1.length≤k+1:=by
 unfold N9
 cases i.c9==1<;>cases i.c9==2<;>cases i.c9==3<;>cases i.c9==4<;>cases i.c9==5<;>simp only [cond_true,cond_false]<;>try omega
 all_goals
  split
  ·split<;>(simp only; omega)
  ·split
   ·cases T7 rs i.B<;>simp only [cond_true,cond_false,List.length_append,List.length_singleton]<;>omega
   ·simp only; omega
theorem f0f (h:ps.length≤k):(N9 l i regs rs ps).2.2.length≤k+1:=by
 unfold N9
 cases i.c9==1<;>cases i.c9==2<;>cases i.c9==3<;>cases i.c9==4<;>cases i.c9==5<;>simp only [cond_true,cond_false]<;>try omega
 all_goals (repeat' split)
 all_goals (try simp only [List.length_set,List.length_append,List.length_singleton])
 all_goals omega
theorem EI.next (h:EI regs rs ps k) (ha:(N9 l i regs rs ps).1.all P7=true):EI (N9 l i regs rs ps).1 (N9 l i regs rs ps).2.1 (N9 l i regs rs ps).2.2 (k+1) :=
 ⟨d1B h.len,ha,e5D h.rl,f0f h.pl⟩
theorem b8s {x:Int} (h : -1000000≤x∧x≤1000000) {y:Int} (h' : -1000000≤y∧y≤1000000):m9 (x+y)=x+y∧m9 (x - y)=x - y:=⟨E7 (by omega) (by omega),E7 (by omega) (by omega)⟩
theorem e6j (hl:F8 l=true) (he:EI regs rs ps k) (hk:k≤100) (hi:Z3 i=true) (h6:i.c9≠6) (h7:i.c9≠7) :
  a7J l ⟨rs,ps,0,0⟩ regs i=some (⟨(N9 l i regs rs ps).2.1,(N9 l i regs rs ps).2.2,0,bif (N9 l i regs rs ps).1.all P7 then 0 else 2⟩,(N9 l i regs rs ps).1):=by
 have hfr:=he.fr hk
 have hfp:=he.fp hk
 have hrl:=he.rl
 have hpl:=he.pl
 have n1:(rs.length+1) * 16≤140737488355328:=by omega
 have n2:(ps.length+1) * 16≤140737488355328:=by omega
 have fin : ∀ (a v:Int) (rs':List n7) (ps':List n3),0≤a∧a≤3→i.c9≠2→i.A=a→a47 i (regs.set a.toNat v) rs' ps' 0 0=some (⟨rs',ps',0,bif (regs.set a.toNat v).all P7 then 0 else 2⟩,regs.set a.toNat v):=by
  intro a v rs' ps' ha h2 hia
  unfold a47 a88
  rw [show (i.c9 != 2)=true from by simpa using h2,cond_true,hia,S0 (by simpa using he.len) ha,Option.bind_some,a7F,Option.bind_some,e6p he.len ha,f2W he.len he.rng ha]
  unfold P7
  cases p9 v (-1000000) 1000000<;>rfl
 unfold a7J N9
 rcases a8t hi with ⟨h,ha,hb⟩ | ⟨h,ha,hb⟩ | ⟨h,ha,hn⟩ | ⟨h,ha,hb⟩ | ⟨h,ha,hb⟩ | ⟨h,_⟩ | ⟨h,_⟩
 ·simp only [h,show ((1:Int)==1)=true from rfl,cond_true]
  unfold b3k b4l
  rw [c95 hfp,Option.bind_some]
  cases hp:a1y ps i.B with
  | some j =>
   have hj:=b8j hp
   simp only [b76,cond_true,List.getElem?_eq_getElem hj]
   simp only [atI,t8 hj,Option.bind_some,S0 he.len ha,j8.go]
   exact fin i.A _ rs ps ha (by omega) rfl
  | none =>
   obtain ⟨b,hb1,hb2,_⟩:=a6z hl hb
   simp only [c0n,cond_false,c6C hfr,Option.bind_some,hb1,hb2,x5 n1]
   cases hs:T7 rs i.B
   ·simp only [Bool.not_false,cond_true,cond_false,Option.bind_some,j8.go,hb1,S0 he.len ha]
    exact fin i.A _ _ _ ha (by omega) rfl
   ·simp only [Bool.not_true,cond_true,cond_false,Option.bind_some,j8.go,hb1,S0 he.len ha]
    exact fin i.A _ _ _ ha (by omega) rfl
 ·simp only [h,show ((2:Int)==1)=false from rfl,show ((2:Int)==2)=true from rfl,cond_true,cond_false,S0 he.len hb,Option.bind_some]
  unfold b2u
  rw [c95 hfp,Option.bind_some]
  have fin2 : ∀ ps':List n3,a47 i regs rs ps' 0 0=some (⟨rs,ps',0,bif regs.all P7 then 0 else 2⟩,regs):=by
   intro ps'
   unfold a47 a88
   rw [he.rng,h]
   rfl
  cases hp:a1y ps i.A with
  | some j =>
   have hj:=b8j hp
   simp only [b76,cond_true,List.getElem?_eq_getElem hj]
   simp only [atI,t8 hj,Option.bind_some,j8.go,Int.toNat_natCast]
   exact fin2 _
  | none =>
   simp only [c0n,cond_false,x5 n2,Option.bind_some,j8.go]
   exact fin2 _
 ·simp only [h,show ((3:Int)==1)=false from rfl,show ((3:Int)==2)=false from rfl,show ((3:Int)==3)=true from rfl,cond_true,cond_false,S0 he.len ha,Option.bind_some,j8.go]
  exact fin i.A _ _ _ ha (by omega) rfl
 ·simp only [h,show ((4:Int)==1)=false from rfl,show ((4:Int)==2)=false from rfl,show ((4:Int)==3)=false from rfl,show ((4:Int)==4)=true from rfl,cond_true,cond_false,S0 he.len ha,S0 he.len hb,Option.bind_some,j8.go,(b8s (a5R he.len he.rng ha) (a5R he.len he.rng hb)).1]
  exact fin i.A _ _ _ ha (by omega) rfl
 ·simp only [h,show ((5:Int)==1)=false from rfl,show ((5:Int)==2)=false from rfl,show ((5:Int)==3)=false from rfl,show ((5:Int)==4)=false from rfl,show ((5:Int)==5)=true from rfl,cond_true,cond_false,S0 he.len ha,S0 he.len hb,Option.bind_some,j8.go,(b8s (a5R he.len he.rng ha) (a5R he.len he.rng hb)).2]
  exact fin i.A _ _ _ ha (by omega) rfl
 ·exact absurd h h6
 ·exact absurd h h7
theorem f4f (hi:i.c9=7) (ha:i.A=0) (he:EI regs rs ps k):a7J l ⟨rs,ps,0,0⟩ regs i=some (⟨rs,ps,0,1⟩,regs):=by
 have hin:=a5R he.len he.rng (a:=0) (by omega)
 unfold a7J a47 a88
 simp only [hi,ha,show ((7:Int)==1)=false from rfl,show ((7:Int)==2)=false from rfl,show ((7:Int)==3)=false from rfl,show ((7:Int)==4)=false from rfl,show ((7:Int)==5)=false from rfl,show ((7:Int)==7)=true from rfl,show ((7:Int) != 2)=true from rfl,cond_true,cond_false,Option.bind_some,j8.go,S0 he.len (a:=0) (by omega),a7F]
 rw [show p9 (O1 regs 0) (-1000000) 1000000=true from by simp [p9]; exact hin]
 rfl
theorem d98 (l:List m4) {prog:List m7} {f k:Nat} {regs:List Int} {rs:List n7} {ps:List n3} (h:prog.length≤k):a5T l prog f k regs rs ps=⟨rs,ps,O1 regs 0,0⟩:=by
 cases f with
 | zero=>rfl
 | succ f =>
  unfold a5T
  rw [List.getElem?_eq_none h]
theorem c1J {prog:List m7} (hp:I8 prog=true):prog.length≤10 ∧ ∀ i∈prog,Z3 i=true:=by
 unfold I8 at hp
 simpa using hp
theorem d1s (l:List m4) (prog:List m7) (regs:List Int) (rs:List n7) (ps:List n3) (k c:Int) (hc:(c==0)=false) :
  ((o9 (fun s:(List Int)×(List n7)×(List n3)×Int×Int×Int=>a2n l prog s.1 s.2.1 s.2.2.1 s.2.2.2.1 s.2.2.2.2.1 s.2.2.2.2.2) (regs,rs,ps,k,0,c)).bind fun x=>x.go (fun r=>some r) fun s=>a6U s.1 s.2.1 s.2.2.1 s.2.2.2.1 s.2.2.2.2)=some ⟨rs,[],0,c⟩:=by
 rw [H3 (b:=(rs,ps,regs,0,c))]
 ·simp only [Option.bind_some,j8.go]
  unfold a6U
  rw [bne,hc]
  rfl
 ·unfold a2n
  simp only [hc,cond_false]
  cases decide (k<(prog.length:Int))<;>rfl
theorem e9X (hl:F8 l=true) {prog:List m7} (hp:I8 prog=true) : ∀ (f k:Nat) (regs:List Int) (rs:List n7) (ps:List n3),EI regs rs ps k→prog.length<k+f→k≤prog.length+10 →
  ((o9 (fun s:(List Int)×(List n7)×(List n3)×Int×Int×Int=>a2n l prog s.1 s.2.1 s.2.2.1 s.2.2.2.1 s.2.2.2.2.1 s.2.2.2.2.2) (regs,rs,ps,(k:Int),0,0)).bind fun x=>x.go (fun r=>some r) fun s=>a6U s.1 s.2.1 s.2.2.1 s.2.2.2.1 s.2.2.2.2)=some (a5T l prog f k regs rs ps):=by
 obtain ⟨hlen,hins⟩:=c1J hp
 intro f
 induction f with
 | zero =>
  intro k regs rs ps he hf hk
  rw [H3 (b:=(rs,ps,regs,0,0))]
  ·simp only [Option.bind_some,j8.go]
   unfold a6U
   rw [show ((0:Int) != 0)=false from rfl,cond_false,S0 he.len (a:=0) (by omega)]
   rfl
  ·unfold a2n
   rw [show decide ((k:Int)<(prog.length:Int))=false from by simp; omega]
   rfl
 | succ f ih =>
  intro k regs rs ps he hf hk
  by_cases hlt:k<prog.length
  ·have hi:=hins _ (List.getElem_mem hlt)
   unfold a5T
   rw [List.getElem?_eq_getElem hlt]
   simp only
   by_cases h6:prog[k].c9=6
   ·obtain ⟨ha,hb,hn⟩:(0≤prog[k].A∧prog[k].A≤3)∧(0≤prog[k].B∧prog[k].B≤3)∧1≤prog[k].N∧prog[k].N≤10:=by
     rcases a8t hi with ⟨h,_⟩ | ⟨h,_⟩ | ⟨h,_⟩ | ⟨h,_⟩ | ⟨h,_⟩ | ⟨h,x⟩ | ⟨h,_⟩
     all_goals first | (exact x) | (exfalso; omega)
    have hb1:a2n l prog regs rs ps (k:Int) 0 0=some (.nxt (regs,rs,ps,((bif decide (O1 regs prog[k].A<O1 regs prog[k].B) then k+prog[k].N.toNat+1 else k+1:Nat):Int),0,0)):=by
     unfold a2n b9D
     rw [x6 _ k hlt,t8 hlt]
     simp only [cond_true,Option.bind_some,h6,show ((6:Int)==6)=true from rfl,show ((0:Int)==0)=true from rfl,S0 he.len ha,S0 he.len hb]
     cases decide (O1 regs prog[k].A<O1 regs prog[k].B)
     ·simp only [cond_false,Option.bind_some,j8.go]
      rw [E7 (by omega) (by omega)]
      rfl
     ·simp only [cond_true,Option.bind_some,j8.go]
      rw [E7 (n:=(k:Int)+prog[k].N) (by omega) (by omega),E7 (by omega) (by omega),show ((k+prog[k].N.toNat+1:Nat):Int)=(k:Int)+prog[k].N+1 from by omega]
    rw [O5 hb1,h6]
    simp only [show ((6:Int)==6)=true from rfl,cond_true]
    refine ih _ _ _ _ ⟨he.len,he.rng,?_,?_⟩ ?_ ?_
    all_goals
     have h1:=he.rl
     have h2:=he.pl
     cases decide (O1 regs prog[k].A<O1 regs prog[k].B)<;>simp only [cond_true,cond_false]<;>omega
   by_cases h7:prog[k].c9=7
   ·have ha:prog[k].A=0:=by
     rcases a8t hi with ⟨h,_⟩ | ⟨h,_⟩ | ⟨h,_⟩ | ⟨h,_⟩ | ⟨h,_⟩ | ⟨h,_⟩ | ⟨h,x⟩
     all_goals first | (exact x) | (exfalso; omega)
    have hb1:a2n l prog regs rs ps (k:Int) 0 0=some (.nxt (regs,rs,ps,m9 ((k:Int)+1),0,1)):=by
     unfold a2n
     rw [x6 _ k hlt,t8 hlt]
     simp only [cond_true,Option.bind_some,show ((0:Int)==0)=true from rfl,f4f h7 ha he,h7,show ((7:Int)==6)=false from rfl,cond_false]
     rw [x5 trivial]
    rw [O5 hb1,d1s _ _ _ _ _ _ _ rfl,h7]
    rfl
   ·have hs:=e6j hl he (by omega) hi h6 h7
    have hb1:a2n l prog regs rs ps (k:Int) 0 0=some (.nxt ((N9 l prog[k] regs rs ps).1,(N9 l prog[k] regs rs ps).2.1,(N9 l prog[k] regs rs ps).2.2,((k+1:Nat):Int),0,bif (N9 l prog[k] regs rs ps).1.all P7 then 0 else 2)):=by
     unfold a2n
     rw [x6 _ k hlt,t8 hlt]
     simp only [cond_true,Option.bind_some,show ((0:Int)==0)=true from rfl,hs,show (prog[k].c9==6)=false from by simpa using h6,cond_false]
     rw [x5 (by rw [d1B he.len]; exact he.len),E7 (by omega) (by omega)]
     rfl
    rw [O5 hb1,show (prog[k].c9==6)=false from by simpa using h6,show (prog[k].c9==7)=false from by simpa using h7,cond_false,cond_false]
    cases hall:(N9 l prog[k] regs rs ps).1.all P7
    ·rw [cond_false,cond_false,d1s _ _ _ _ _ _ _ rfl]
    ·rw [cond_true,cond_true]
     exact ih _ _ _ _ (he.next hall) (by omega) (by omega)
  ·rw [d98 l (by omega),H3 (b:=(rs,ps,regs,0,0))]
   ·simp only [Option.bind_some,j8.go]
    unfold a6U
    rw [show ((0:Int) != 0)=false from rfl,cond_false,S0 he.len (a:=0) (by omega)]
    rfl
   ·unfold a2n
    rw [show decide ((k:Int)<(prog.length:Int))=false from by simp; omega]
    rfl
theorem ei0:EI [0,0,0,0] [] [] 0:=⟨rfl,by decide,by simp,by simp⟩
theorem c6j {l:List m4} {prog:List m7} (hl:s9 l) (hp:s9 prog):a9o l prog=some (E9 l prog):=by
 unfold a9o E9
 rw [b9K hl,Option.bind_some,b83 hp,Option.bind_some]
 cases hb:F8 l
 ·rfl
 cases ho:I8 prog
 ·rfl
 rw [Bool.not_true,cond_false,cond_false,x5 (by decide)]
 have:=e9X hb ho (prog.length+1) 0 [0,0,0,0] [] [] ei0 (by omega) (by omega)
 exact this
theorem f1w {regs:List Int} {z9:List n7} {ins:m7} {D9:n3} (h:regs.length=4) (hr:z9.length≤1000):o9 (fun s:Int=>b4c regs z9 ins D9 s) 0=some (bif (regs.set ins.A.toNat D9.d6).all P7 then .brk () else .ret ⟨z9,[],0,2⟩):=by
 have hl:(regs.set ins.A.toNat D9.d6).length=4:=by simpa using h
 refine c6t (regs.set ins.A.toNat D9.d6) (by unfold s9; omega) P7 _ () (fun k hk => ?_) ?_
 ·have hk4:(k:Int)<4:=by omega
  unfold b4c
  rw [decide_eq_true hk4,t8 hk,cond_true,Option.bind_some,x5 hk4,a0r,Option.bind_some,b2x hr]
  unfold P7
  cases p9 (regs.set ins.A.toNat D9.d6)[k] (-1000000) 1000000<;>rfl
 ·unfold b4c
  rw [hl]
  rfl
theorem d9M {regs:List Int} {z9:List n7} {ins:m7} {box:m4} (h:regs.length=4) (hr:z9.length≤1000):o9 (fun s:Int=>b3D regs ins z9 box s) 0=some (bif (regs.set ins.A.toNat box.d6).all P7 then .brk () else .ret ⟨z9,[],0,2⟩):=by
 have hl:(regs.set ins.A.toNat box.d6).length=4:=by simpa using h
 refine c6t (regs.set ins.A.toNat box.d6) (by unfold s9; omega) P7 _ () (fun k hk => ?_) ?_
 ·have hk4:(k:Int)<4:=by omega
  unfold b3D
  rw [decide_eq_true hk4,t8 hk,cond_true,Option.bind_some,x5 hk4,a0r,Option.bind_some,b2x hr]
  unfold P7
  cases p9 (regs.set ins.A.toNat box.d6)[k] (-1000000) 1000000<;>rfl
 ·unfold b3D
  rw [hl]
  rfl
theorem c8H {regs:List Int} {z9:List n7} (h:regs.length=4) (hr:z9.length≤1000):o9 (fun s:Int=>b2Z z9 regs s) 0=some (bif regs.all P7 then .brk () else .ret ⟨z9,[],0,2⟩):=by
 refine c6t regs (by unfold s9; omega) P7 _ () (fun k hk => ?_) ?_
 ·have hk4:(k:Int)<4:=by omega
  unfold b2Z
  rw [decide_eq_true hk4,t8 hk,cond_true,Option.bind_some,x5 hk4,a0r,Option.bind_some,b2x hr]
  unfold P7
  cases p9 regs[k] (-1000000) 1000000<;>rfl
 ·unfold b2Z
  rw [h]
  rfl
theorem e8p (hl:F8 l=true) (he:EI regs rs ps k) (hk:k≤100) {prog:List m7} (hkl:k<prog.length) (hpl:prog.length≤10) (R:List n7) (P:List n3) (hi:Z3 prog[k]=true) (h6:prog[k].c9≠6) (h7:prog[k].c9≠7) :
  a4p l prog regs R P rs ps (k:Int)=some (bif (N9 l prog[k] regs rs ps).1.all P7 then .nxt ((N9 l prog[k] regs rs ps).1,R,P,(N9 l prog[k] regs rs ps).2.1,(N9 l prog[k] regs rs ps).2.2,((k+1:Nat):Int)) else .ret ⟨(N9 l prog[k] regs rs ps).2.1,[],0,2⟩):=by
 have hfr:=he.fr hk
 have hfp:=he.fp hk
 have hrl:=he.rl
 have hpl:=he.pl
 have n1:(rs.length+1) * 16≤140737488355328:=by omega
 have n2:(ps.length+1) * 16≤140737488355328:=by omega
 have hw:m9 ((k:Int)+1)=((k+1:Nat):Int):=by rw [E7 (by omega) (by omega)]; rfl
 have fin : ∀ (regs':List Int) (ps':List n3),regs'.length=4→b1m R P rs regs' ps' (k:Int)=some (bif regs'.all P7 then .nxt (regs',R,P,rs,ps',((k+1:Nat):Int)) else .ret ⟨rs,[],0,2⟩):=by
  intro regs' ps' h
  unfold b1m b4B
  rw [c8H h (by omega),hw]
  cases regs'.all P7<;>rfl
 have hset : ∀ (a:Nat) (v:Int),(regs.set a v).length=4:=fun a v=>by simpa using he.len
 unfold a4p N9
 generalize hin:prog[k]=i at hi h6 h7
 rw [x6 _ k hkl,t8 hkl,hin,cond_true,Option.bind_some]
 rcases a8t hi with ⟨h,ha,hb⟩ | ⟨h,ha,hb⟩ | ⟨h,ha,hn⟩ | ⟨h,ha,hb⟩ | ⟨h,ha,hb⟩ | ⟨h,_⟩ | ⟨h,_⟩
 ·have na:i.A<4:=by omega
  simp only [h,show ((1:Int)==1)=true from rfl,cond_true]
  rw [d3s (x:=⟨rs,ps,0,0⟩) hfp,Option.bind_some]
  simp only
  cases hp:a1y ps i.B with
  | some j =>
   have hj:=b8j hp
   simp only [b76,cond_true,List.getElem?_eq_getElem hj]
   simp only [atI,t8 hj,Option.bind_some,S0 he.len ha]
   rw [x5 na,f1w he.len (by omega)]
   unfold c1q
   rw [hw]
   cases (regs.set i.A.toNat ps[j].d6).all P7<;>rfl
  | none =>
   obtain ⟨b,hb1,hb2,_⟩:=a6z hl hb
   obtain ⟨v,hv1,hv2⟩:=e7D (x:=⟨rs,ps,0,0⟩) hfr i.B
   simp only [c0n,cond_false,hv1,hv2,Option.bind_some,hb1,hb2,x5 n1]
   cases hs:T7 rs i.B
   ·simp only [Bool.not_false,cond_true,cond_false,Option.bind_some,j8.go]
    unfold b7q b8n
    rw [hb1,Option.bind_some,S0 he.len ha,Option.bind_some,x5 na,d9M he.len (by simp; omega),hw]
    cases (regs.set i.A.toNat b.d6).all P7<;>rfl
   ·simp only [Bool.not_true,cond_true,cond_false,Option.bind_some,j8.go]
    unfold b7q b8n
    rw [hb1,Option.bind_some,S0 he.len ha,Option.bind_some,x5 na,d9M he.len (by omega),hw]
    cases (regs.set i.A.toNat b.d6).all P7<;>rfl
 ·have nb:i.B<4:=by omega
  simp only [h,show ((2:Int)==1)=false from rfl,show ((2:Int)==2)=true from rfl,cond_true,cond_false]
  rw [d3s (x:=⟨rs,ps,0,0⟩) hfp,Option.bind_some]
  simp only
  cases hp:a1y ps i.A with
  | some j =>
   have hj:=b8j hp
   simp only [b76,cond_true,List.getElem?_eq_getElem hj]
   simp only [atI,t8 hj,Option.bind_some,S0 he.len hb,Int.toNat_natCast]
   rw [x5 nb]
   simp only [Option.bind_some,j8.go]
   exact fin _ _ he.len
  | none =>
   simp only [c0n,cond_false,Option.bind_some,S0 he.len hb]
   rw [x5 nb,x5 n2]
   simp only [Option.bind_some,j8.go]
   exact fin _ _ he.len
 ·have na:i.A<4:=by omega
  simp only [h,show ((3:Int)==1)=false from rfl,show ((3:Int)==2)=false from rfl,show ((3:Int)==3)=true from rfl,cond_true,cond_false,S0 he.len ha,Option.bind_some]
  rw [x5 na]
  simp only [Option.bind_some,j8.go]
  exact fin _ _ (hset _ _)
 ·have na:i.A<4:=by omega
  have nb:i.B<4:=by omega
  simp only [h,show ((4:Int)==1)=false from rfl,show ((4:Int)==2)=false from rfl,show ((4:Int)==3)=false from rfl,show ((4:Int)==4)=true from rfl,cond_true,cond_false,S0 he.len ha,S0 he.len hb,Option.bind_some,(b8s (a5R he.len he.rng ha) (a5R he.len he.rng hb)).1,x5 na,x5 nb,j8.go]
  exact fin _ _ (hset _ _)
 ·have na:i.A<4:=by omega
  have nb:i.B<4:=by omega
  simp only [h,show ((5:Int)==1)=false from rfl,show ((5:Int)==2)=false from rfl,show ((5:Int)==3)=false from rfl,show ((5:Int)==4)=false from rfl,show ((5:Int)==5)=true from rfl,cond_true,cond_false,S0 he.len ha,S0 he.len hb,Option.bind_some,(b8s (a5R he.len he.rng ha) (a5R he.len he.rng hb)).2,x5 na,x5 nb,j8.go]
  exact fin _ _ (hset _ _)
 ·exact absurd h h6
 ·exact absurd h h7
theorem f2Y (hl:F8 l=true) {prog:List m7} (hp:I8 prog=true) (R:List n7) (P:List n3) : ∀ (f k:Nat) (regs:List Int) (rs:List n7) (ps:List n3),EI regs rs ps k→prog.length<k+f→k≤prog.length+10 →
  ((o9 (fun s:(List Int)×(List n7)×(List n3)×(List n7)×(List n3)×Int=>a4p l prog s.1 s.2.1 s.2.2.1 s.2.2.2.1 s.2.2.2.2.1 s.2.2.2.2.2) (regs,R,P,rs,ps,(k:Int))).bind fun x=>x.go (fun r=>some r) fun s=>b2J s.1 s.2.1 s.2.2.1 s.2.2.2.1 s.2.2.2.2)=some (a5T l prog f k regs rs ps):=by
 obtain ⟨hlen,hins⟩:=c1J hp
 have stop : ∀ (k:Nat) (regs:List Int) (rs:List n7) (ps:List n3),EI regs rs ps k→prog.length≤k→k≤prog.length+10→((o9 (fun s:(List Int)×(List n7)×(List n3)×(List n7)×(List n3)×Int=>a4p l prog s.1 s.2.1 s.2.2.1 s.2.2.2.1 s.2.2.2.2.1 s.2.2.2.2.2) (regs,R,P,rs,ps,(k:Int))).bind fun x=>x.go (fun r=>some r) fun s=>b2J s.1 s.2.1 s.2.2.1 s.2.2.2.1 s.2.2.2.2)=some ⟨rs,ps,O1 regs 0,0⟩:=by
  intro k regs rs ps he h1 h2
  have h3:=he.rl
  have h4:=he.pl
  rw [H3 (b:=(R,P,regs,rs,ps))]
  ·simp only [Option.bind_some,j8.go]
   unfold b2J
   rw [b2x (by omega),Option.bind_some,f0W (by omega),Option.bind_some,S0 he.len (a:=0) (by omega),Option.bind_some,x5 (by decide)]
  ·unfold a4p
   rw [show decide ((k:Int)<(prog.length:Int))=false from by simp; omega]
   rfl
 intro f
 induction f with
 | zero =>
  intro k regs rs ps he hf hk
  exact stop k regs rs ps he (by omega) hk
 | succ f ih =>
  intro k regs rs ps he hf hk
  by_cases hlt:k<prog.length
  ·have hi:=hins _ (List.getElem_mem hlt)
   unfold a5T
   rw [List.getElem?_eq_getElem hlt]
   simp only
   by_cases h6:prog[k].c9=6
   ·obtain ⟨ha,hb,hn⟩:(0≤prog[k].A∧prog[k].A≤3)∧(0≤prog[k].B∧prog[k].B≤3)∧1≤prog[k].N∧prog[k].N≤10:=by
     rcases a8t hi with ⟨h,_⟩ | ⟨h,_⟩ | ⟨h,_⟩ | ⟨h,_⟩ | ⟨h,_⟩ | ⟨h,x⟩ | ⟨h,_⟩
     all_goals first | (exact x) | (exfalso; omega)
    have hrl:=he.rl
    have hb1:a4p l prog regs R P rs ps (k:Int)=some (.nxt (regs,R,P,rs,ps,((bif decide (O1 regs prog[k].A<O1 regs prog[k].B) then k+prog[k].N.toNat+1 else k+1:Nat):Int))):=by
     have na:prog[k].A<4:=by omega
     have nb:prog[k].B<4:=by omega
     unfold a4p
     rw [x6 _ k hlt,t8 hlt]
     simp only [cond_true,Option.bind_some,h6,show ((6:Int)==1)=false from rfl,show ((6:Int)==2)=false from rfl,show ((6:Int)==3)=false from rfl,show ((6:Int)==4)=false from rfl,show ((6:Int)==5)=false from rfl,show ((6:Int)==6)=true from rfl,cond_false,S0 he.len ha,S0 he.len hb,x5 na,x5 nb]
     cases decide (O1 regs prog[k].A<O1 regs prog[k].B)
     ·simp only [cond_false,Option.bind_some,j8.go]
      unfold b1m b4B
      rw [c8H he.len (by omega),he.rng,E7 (by omega) (by omega)]
      rfl
     ·simp only [cond_true,Option.bind_some,j8.go]
      unfold b1m b4B
      rw [c8H he.len (by omega),he.rng,E7 (n:=(k:Int)+prog[k].N) (by omega) (by omega),E7 (by omega) (by omega),show ((k+prog[k].N.toNat+1:Nat):Int)=(k:Int)+prog[k].N+1 from by omega]
      rfl
    rw [O5 hb1,h6]
    simp only [show ((6:Int)==6)=true from rfl,cond_true]
    refine ih _ _ _ _ ⟨he.len,he.rng,?_,?_⟩ ?_ ?_
    all_goals
     have h1:=he.rl
     have h2:=he.pl
     cases decide (O1 regs prog[k].A<O1 regs prog[k].B)<;>simp only [cond_true,cond_false]<;>omega
   by_cases h7:prog[k].c9=7
   ·have hrl:=he.rl
    have hb1:a4p l prog regs R P rs ps (k:Int)=some (.ret ⟨rs,[],0,1⟩):=by
     unfold a4p
     rw [x6 _ k hlt,t8 hlt]
     simp only [cond_true,Option.bind_some,h7,show ((7:Int)==1)=false from rfl,show ((7:Int)==2)=false from rfl,show ((7:Int)==3)=false from rfl,show ((7:Int)==4)=false from rfl,show ((7:Int)==5)=false from rfl,show ((7:Int)==6)=false from rfl,show ((7:Int)==7)=true from rfl,cond_false]
     rw [b2x (by omega)]
     rfl
    rw [a2J hb1,h7]
    rfl
   ·have hb1:=e8p hl he (by omega) hlt hlen R P hi h6 h7
    rw [show (prog[k].c9==6)=false from by simpa using h6,show (prog[k].c9==7)=false from by simpa using h7,cond_false,cond_false]
    cases hall:(N9 l prog[k] regs rs ps).1.all P7
    ·rw [hall,cond_false] at hb1
     rw [a2J hb1]
     rfl
    ·rw [hall,cond_true] at hb1
     rw [O5 hb1,cond_true]
     exact ih _ _ _ _ (he.next hall) (by omega) (by omega)
  ·rw [d98 l (by omega)]
   exact stop k regs rs ps he (by omega) hk
theorem f1Q {l:List m4} {prog:List m7} (hl:s9 l) (hp:s9 prog):b69 l prog=some (E9 l prog):=by
 unfold b69 E9
 rw [b5t hl,Option.bind_some,c3L hp,Option.bind_some]
 cases hb:F8 l
 ·rfl
 cases ho:I8 prog
 ·rfl
 rw [Bool.not_true,cond_false,cond_false]
 exact f2Y hb ho [] [] (prog.length+1) 0 [0,0,0,0] [] [] ei0 (by omega) (by omega)
end
theorem b7S {l:List l8} (hl:l.length≤40) (he:l.all B8=true) {k:Nat} (hk:k≤l.length):(z7 l (r9 l).2 k).length≤40:=by
 obtain ⟨_,hlen,hc⟩:=a1X hl he l.length (Nat.le_refl _)
 rw [List.take_length] at hlen hc
 have h1:=c8r hlen k hk
 have h2:=d5l ((r9 l).2.take k) 0
 rw [List.length_take] at h2
 omega
theorem e6m {l:List l8} (h:C3 88 a2R l):c0N l=some (A6 l):=by
 unfold c0N A6
 rw [d4o h,Option.bind_some]
 cases hok:L0 l
 ·rfl
 have hf:s9 l:=h.fits (by decide)
 obtain ⟨hl,he⟩:=a2V hok
 obtain ⟨_,hlen,hc⟩:=a1X hl he l.length (Nat.le_refl _)
 rw [List.take_length] at hlen hc
 rw [Bool.not_true,cond_false,cond_true,b6B,Option.bind_some]
 have hloop:=a05 (body:=fun s:(List n5)×(List m4)×Int×Int×List n6=>a83 l s.1 s.2.1 s.2.2.1 s.2.2.2.1 s.2.2.2.2) (fun k=>(z7 l (r9 l).2 k,(r9 (l.take k)).1.d8,(k:Int),(r9 (l.take k)).1.At,(r9 (l.take k)).1.g8)) l.length (by
  intro k hk
  have hk2:k<(r9 l).2.length:=by omega
  have hs:=b7S hl he (k:=k) (by omega)
  obtain ⟨h1,h2,h3⟩:=a1X hl he k (by omega)
  have n1:((z7 l (r9 l).2 k).length+1) * 16≤140737488355328:=by omega
  have hcode:=d5g hl he hk
  rw [List.getElem?_eq_getElem hk2] at hcode
  have hcode:=Option.some.inj hcode
  show a83 l (z7 l (r9 l).2 k) (r9 (l.take k)).1.d8 (k:Int) (r9 (l.take k)).1.At (r9 (l.take k)).1.g8=some (.nxt (z7 l (r9 l).2 k++b2w l (r9 l).2 k,(r9 (l.take (k+1))).1.d8,((k+1:Nat):Int),(r9 (l.take (k+1))).1.At,(r9 (l.take (k+1))).1.g8))
  rw [b8N hk hk2,a4S hk,hcode]
  unfold a83 c1t
  rw [x6 _ k hk,t8 hk,J0 hf hk]
  simp only [cond_true,Option.bind_some]
  rw [show (⟨(r9 (l.take k)).1.At,(r9 (l.take k)).1.d8,(r9 (l.take k)).1.g8⟩:q7)=(r9 (l.take k)).1 from rfl,b7g h1 (by omega) (List.all_eq_true.1 he _ (List.getElem_mem hk)) (h.2 _ (List.getElem_mem hk)),Option.bind_some,x5 n1]
  cases (apply (r9 (l.take k)).1 l[k]).2==0
  ·simp only [cond_false,Option.bind_some,j8.go,List.append_nil]
   rfl
  ·rfl)
 rw [List.take_zero,List.take_length,show z7 l (r9 l).2 0=[] from rfl,show ((0:Nat):Int)=0 from rfl] at hloop
 rw [show o9 (fun s:(List n5)×(List m4)×Int×Int×List n6=>a83 l s.1 s.2.1 s.2.2.1 s.2.2.2.1 s.2.2.2.2) (([]:List n5),W1.d8,0,W1.At,W1.g8)=_ from hloop,H3 (b:=z7 l (r9 l).2 l.length)]
 ·rfl
 ·unfold a83
  rw [A4]; rfl
theorem d5s (l:List l8):s9 (A6 l):=by
 unfold A6
 cases hok:L0 l
 ·simp [s9]
 ·obtain ⟨hl,he⟩:=a2V hok
  have:=b7S hl he (Nat.le_refl _)
  show s9 (z7 l (r9 l).2 l.length)
  unfold s9
  omega
def M5 (l:List m4) (p:List m7):List m4×Int×Int:=bif (E9 l p).Code==3 then ([],0,3) else (b3m l (E9 l p).a9,(E9 l p).d6,(E9 l p).Code)
theorem b9N {l:List m4} {p:List m7} (hl:F8 l=true) (hp:s9 p):Ran (E9 l p):=by
 obtain ⟨r,h1,h2,_⟩:=e5d (a3T hl) hp
 rw [c6j (a3T hl) hp] at h1
 injection h1 with h1
 rw [h1]
 exact h2 hl
theorem Ran.f {r:m8} (h:Ran r):a3k r:=by
 have h1:=h.rlen
 have h2:=h.plen
 exact ⟨⟨by omega,fun _ _=>trivial⟩,⟨by omega,fun _ _=>trivial⟩,trivial⟩
theorem Ran.puts {r:m8} (h:Ran r) : ∀ p∈r.a9,a3X p:=by
 have:=h.ok
 rw [b04] at this
 simp only [Bool.and_eq_true] at this
 exact (b4Y.1 this.2.2.2.2.2).1
theorem d0Y {l:List m4} {p:List m7} (hl:F8 l=false):(E9 l p).Code=3:=by
 unfold E9
 rw [hl]
 rfl
theorem d97 {l:List m4} (h:F8 l=true):b3Q l=some l:=by
 have:=b1s h
 unfold b3Q
 rw [x5 (by simp; omega)]
 rfl
theorem f2e {l:List m4} {p:List m7} (hl:s9 l) (hp:s9 p):b6s l p=some (M5 l p):=by
 unfold b6s M5
 rw [c6j hl hp,Option.bind_some]
 cases hc:(E9 l p).Code==3
 ·have hb:F8 l=true:=by
   cases hb:F8 l
   ·rw [d0Y hb] at hc; cases hc
   ·rfl
  have hr:=b9N hb hp
  simp only [cond_false,d97 hb,Option.bind_some,d5N hb hr.f hr.puts]
 ·rfl
theorem f0D {l:List m4} {p:List m7} (hl:s9 l) (hp:s9 p):b6P l p=some (M5 l p):=by
 unfold b6P M5
 rw [f1Q hl hp,Option.bind_some]
 cases hc:(E9 l p).Code==3
 ·have hb:F8 l=true:=by
   cases hb:F8 l
   ·rw [d0Y hb] at hc; cases hc
   ·rfl
  have hr:=b9N hb hp
  simp only [cond_false,Option.bind_some,d5F hb hr.f hr.ok]
 ·rfl
theorem c4n {l:List m4} {p:List m7} (hl:F8 l=true) (hp:s9 p) (h:((M5 l p).2.2==3)=false):F8 (M5 l p).1=true:=by
 have hr:=b9N hl hp
 unfold M5 at h ⊢
 cases hc:(E9 l p).Code==3
 ·rw [cond_false]
  exact c0r hl hr.puts
 ·rw [hc,cond_true] at h
  cases h
def a7X:List (List m7)→List m4→List Int→List m4×List Int
 | [],b,vs=>(b,vs)
 | p::ps,b,vs=>bif (M5 b p).2.2==3 then ([],[]) else a7X ps (M5 b p).1 (vs++[(M5 b p).2.1])
def G7 (l:List m4) (A7:List (List m7)):List m4×List Int:=bif F8 l&&decide (A7.length≤100) then a7X A7 l [] else ([],[])
theorem f4D {A7:List (List m7)} (hp : ∀ p∈A7,s9 p) (hn:A7.length≤100) : ∀ (m k:Nat) (b:List m4) (vs:List Int),k+m=A7.length→F8 b=true→vs.length=k →
  ((o9 (fun s:(List Int)×(List m4)×Int=>b1Z A7 s.1 s.2.1 s.2.2) (vs,b,(k:Int))).bind fun x=>x.go (fun r=>some r) fun s=>c8Q s.1 s.2)=some (a7X (A7.drop k) b vs):=by
 intro m
 induction m with
 | zero =>
  intro k b vs hk hb hv
  have:k=A7.length:=by omega
  subst this
  rw [List.drop_length,H3 (b:=(vs,b))]
  ·rfl
  ·unfold b1Z
   simp only [A4]
   rfl
 | succ m ih =>
  intro k b vs hk hb hv
  have hlt:k<A7.length:=by omega
  have hpk:=hp _ (List.getElem_mem hlt)
  have n1:(vs.length+1) * 8≤140737488355328:=by omega
  have hw:m9 ((k:Int)+1)=((k+1:Nat):Int):=by rw [E7 (by omega) (by omega)]; rfl
  have hb1:b1Z A7 vs b (k:Int)=some (bif (M5 b A7[k]).2.2==3 then .ret ([],[]) else .nxt (vs++[(M5 b A7[k]).2.1],(M5 b A7[k]).1,((k+1:Nat):Int))):=by
   unfold b1Z
   simp only [x6 _ k hlt,t8 hlt,cond_true,Option.bind_some,f2e (a3T hb) hpk,x5 n1,hw]
   cases (M5 b A7[k]).2.2==3<;>rfl
  rw [List.drop_eq_getElem_cons hlt]
  unfold a7X
  cases hc:(M5 b A7[k]).2.2==3
  ·rw [hc,cond_false] at hb1
   rw [O5 hb1,cond_false]
   exact ih (k+1) _ _ (by omega) (c4n hb hpk hc) (by simp; omega)
  ·rw [hc,cond_true] at hb1
   rw [a2J hb1]
   rfl
theorem e2Y {l:List m4} {A7:List (List m7)} (hl:s9 l) (hp : ∀ p∈A7,s9 p):b7T l A7=some (G7 l A7):=by
 unfold b7T G7
 rw [b9K hl,Option.bind_some]
 cases hb:F8 l
 ·rfl
 rw [Bool.not_true,cond_false,Bool.true_and]
 by_cases hn:A7.length≤100
 ·have h1 : ¬ ((A7.length:Int)>100):=by omega
  rw [decide_eq_false h1,cond_false,decide_eq_true hn,cond_true,d97 hb,Option.bind_some]
  have:=f4D hp hn A7.length 0 l [] (by omega) hb rfl
  rwa [List.drop_zero] at this
 ·have h1:(A7.length:Int)>100:=by omega
  rw [decide_eq_true h1,decide_eq_false hn]
  rfl
theorem e29 {l:List Int} (h:l.length≤1000):b7F l=some l:=by
 unfold b7F
 cases hl:((l.length:Int)==0)
 ·rw [cond_false,x5 (by constructor<;>omega),x5 (by simp)]
 ·simp only [beq_iff_eq] at hl
  have:l=[]:=List.eq_nil_of_length_eq_zero (by omega)
  rw [this]; rfl
theorem e1F {A7:List (List m7)} (hp : ∀ p∈A7,s9 p) (hn:A7.length≤100) : ∀ (m k:Nat) (b:List m4) (vs:List Int),k+m=A7.length→F8 b=true→vs.length=k →
  ((o9 (fun s:(List Int)×Int×List m4=>a99 A7 s.1 s.2.1 s.2.2) (vs,(k:Int),b)).bind fun x=>x.go (fun r=>some r) fun s=>b9S s.1 s.2)=some (a7X (A7.drop k) b vs):=by
 intro m
 induction m with
 | zero =>
  intro k b vs hk hb hv
  have:k=A7.length:=by omega
  subst this
  rw [List.drop_length,H3 (b:=(vs,b))]
  ·simp only [Option.bind_some,j8.go]
   unfold b9S
   rw [e29 (by omega)]
   rfl
  ·unfold a99
   simp only [A4]
   rfl
 | succ m ih =>
  intro k b vs hk hb hv
  have hlt:k<A7.length:=by omega
  have hpk:=hp _ (List.getElem_mem hlt)
  have n1:(vs.length+1) * 8≤140737488355328:=by omega
  have hw:m9 ((k:Int)+1)=((k+1:Nat):Int):=by rw [E7 (by omega) (by omega)]; rfl
  have hb1:a99 A7 vs (k:Int) b=some (bif (M5 b A7[k]).2.2==3 then .ret ([],[]) else .nxt (vs++[(M5 b A7[k]).2.1],((k+1:Nat):Int),(M5 b A7[k]).1)):=by
   unfold a99
   simp only [x6 _ k hlt,t8 hlt,cond_true,Option.bind_some,f0D (a3T hb) hpk,x5 n1,hw]
   cases (M5 b A7[k]).2.2==3<;>rfl
  rw [List.drop_eq_getElem_cons hlt]
  unfold a7X
  cases hc:(M5 b A7[k]).2.2==3
  ·rw [hc,cond_false] at hb1
   rw [O5 hb1,cond_false]
   exact ih (k+1) _ _ (by omega) (c4n hb hpk hc) (by simp; omega)
  ·rw [hc,cond_true] at hb1
   rw [a2J hb1]
   rfl
theorem e5j {l:List m4} {A7:List (List m7)} (hl:s9 l) (hp : ∀ p∈A7,s9 p):b9H l A7=some (G7 l A7):=by
 unfold b9H G7
 rw [b5t hl,Option.bind_some]
 cases hb:F8 l
 ·rfl
 rw [Bool.not_true,cond_false,Bool.true_and]
 by_cases hn:A7.length≤100
 ·have h1 : ¬ ((A7.length:Int)>100):=by omega
  rw [decide_eq_false h1,cond_false,decide_eq_true hn,cond_true,c48 (by rw [b1s hb]; decide),Option.bind_some]
  have:=e1F hp hn A7.length 0 l [] (by omega) hb rfl
  rwa [List.drop_zero] at this
 ·have h1:(A7.length:Int)>100:=by omega
  rw [decide_eq_true h1,decide_eq_false hn]
  rfl
def c05 (w:l7) (q:n5):Option t7:=w.Asked.find? fun a=>(([a.a5.c8,a.a5.Seq]:List Int)==[q.c8,q.Seq])
def a1x (w:l7) (q:n5):List m7×Bool:=match c05 w q with
 | some a=>(a.g7,true)
 | none=>([],false)
theorem e5R {l:List m7} (h:l.length * 32≤140737488351232):b6T l=some l:=by
 unfold b6T
 cases hl:((l.length:Int)==0)
 ·rw [cond_false,x5 (by constructor<;>omega),x5 (by simp)]
 ·simp only [beq_iff_eq] at hl
  have:l=[]:=List.eq_nil_of_length_eq_zero (by omega)
  rw [this]; rfl
theorem c35 {w:l7} (h:K0 w) {a:t7} (ha:a∈w.Asked):a.g7.length * 32≤140737488351232:=(h.2.2.1.2 a ha).2.1
theorem e7y {w:l7} (h:K0 w) (q:n5):b8W w q=some (a1x w q):=by
 have hf:s9 w.Asked:=h.2.2.1.fits (by decide)
 unfold b8W a1x c05
 rw [b5m w.Asked hf (fun a=>(([a.a5.c8,a.a5.Seq]:List Int)==[q.c8,q.Seq])) (fun a=>(a.g7,true)) ()]
 ·cases w.Asked.find? (fun a=>(([a.a5.c8,a.a5.Seq]:List Int)==[q.c8,q.Seq]))<;>rfl
 ·intro k hk
  have:=c35 h (List.getElem_mem hk)
  unfold b87
  rw [x6 _ k hk,t8 hk]
  simp only [cond_true,Option.bind_some]
  rw [x5 (by simp; omega)]
  cases (([w.Asked[k].a5.c8,w.Asked[k].a5.Seq]:List Int)==[q.c8,q.Seq])<;>rfl
 ·unfold b87
  rw [A4]; rfl
theorem f3y {w:l7} (h:K0 w) (q:n5):b6A w q=some (a1x w q):=by
 have hf:s9 w.Asked:=h.2.2.1.fits (by decide)
 unfold b6A a1x c05
 rw [b5m w.Asked hf (fun a=>(([a.a5.c8,a.a5.Seq]:List Int)==[q.c8,q.Seq])) (fun a=>(a.g7,true)) ()]
 ·cases w.Asked.find? (fun a=>(([a.a5.c8,a.a5.Seq]:List Int)==[q.c8,q.Seq]))<;>rfl
 ·intro k hk
  have:=c35 h (List.getElem_mem hk)
  unfold c0V
  rw [x6 _ k hk,t8 hk]
  simp only [cond_true,Option.bind_some,e5R this]
  cases (([w.Asked[k].a5.c8,w.Asked[k].a5.Seq]:List Int)==[q.c8,q.Seq])<;>rfl
 ·unfold c0V
  rw [A4]; rfl
theorem e2R {w:l7} (h:K0 w) (q:n5):s9 (a1x w q).1:=by
 unfold a1x c05
 cases hf:w.Asked.find? (fun a=>(([a.a5.c8,a.a5.Seq]:List Int)==[q.c8,q.Seq])) with
 | none=>simp [s9]
 | some a =>
  have:=c35 h (List.mem_of_find?_eq_some hf)
  show a.g7.length≤_
  omega
def a5e (w:l7):List n5→List (List m7)→Option (List (List m7))
 | [],o=>some o
 | q::qs,o=>bif (a1x w q).2 then a5e w qs (o++[(a1x w q).1]) else none
theorem c2H {w:l7} (h:K0 w) : ∀ {qs:List n5} {o ps:List (List m7)},a5e w qs o=some ps→(∀ p∈o,s9 p) → ∀ p∈ps,s9 p
 | [],o,ps,hs,ho=>by
  injection hs with hs
  subst hs
  exact ho
 | q::qs,o,ps,hs,ho=>by
  unfold a5e at hs
  cases hq:(a1x w q).2
  ·rw [hq] at hs; cases hs
  ·rw [hq,cond_true] at hs
   refine c2H h hs fun p hp => ?_
   rcases List.mem_append.1 hp with hp | hp
   ·exact ho p hp
   ·rw [List.mem_singleton.1 hp]
    exact e2R h q
theorem f3Y {w:l7} (h:K0 w) {l:List n5} (hl:l.length≤1000) : ∀ (m k:Nat) (o:List (List m7)),k+m=l.length→o.length=k →
  ((o9 (fun s:(List (List m7))×Int=>a60 w l s.1 s.2) (o,(k:Int))).bind fun x=>x.go (fun r=>some r) fun s=>c5R s)=some (match a5e w (l.drop k) o with | some ps=>(ps,true) | none=>([],false)):=by
 intro m
 induction m with
 | zero =>
  intro k o hk ho
  have:k=l.length:=by omega
  subst this
  rw [List.drop_length,H3 (b:=o)]
  ·rfl
  ·unfold a60
   simp only [A4]
   rfl
 | succ m ih =>
  intro k o hk ho
  have hlt:k<l.length:=by omega
  have n1:(o.length+1) * 24≤140737488355328:=by omega
  have hw:m9 ((k:Int)+1)=((k+1:Nat):Int):=by rw [E7 (by omega) (by omega)]; rfl
  have hb1:a60 w l o (k:Int)=some (bif (a1x w l[k]).2 then .nxt (o++[(a1x w l[k]).1],((k+1:Nat):Int)) else .ret ([],false)):=by
   unfold a60
   simp only [x6 _ k hlt,t8 hlt,cond_true,Option.bind_some,e7y h,x5 n1,hw]
   cases (a1x w l[k]).2<;>rfl
  rw [List.drop_eq_getElem_cons hlt]
  unfold a5e
  cases hc:(a1x w l[k]).2
  ·rw [hc,cond_false] at hb1
   rw [a2J hb1]
   rfl
  ·rw [hc,cond_true] at hb1
   rw [O5 hb1,cond_true]
   exact ih (k+1) _ (by omega) (by simp; omega)
def a9B (a b:List m4):Bool:=(a.length==b.length)&&(List.range a.length).all fun k=>match a[k]?,b[k]? with
 | some x,some y=>(([x.i7,x.d6]:List Int)==[y.i7,y.d6])
 | _,_=>false
theorem e9Z {a b:List m4} (h:s9 a):b8H a b=some (a9B a b):=by
 unfold b8H a9B
 rw [b0c]
 cases hl:a.length==b.length
 ·rfl
 have hl:a.length=b.length:=by simpa using hl
 rw [Bool.not_true,cond_false,Bool.true_and,a0R a h (fun k=>match a[k]?,b[k]? with | some x,some y=>(([x.i7,x.d6]:List Int)==[y.i7,y.d6]) | _,_=>false) false ()]
 ·cases (List.range a.length).all _<;>rfl
 ·intro k hk _
  unfold b64
  rw [x6 _ k hk,t8 hk,t8 (hl▸hk),List.getElem?_eq_getElem hk,List.getElem?_eq_getElem (hl▸hk)]
  simp only [cond_true,Option.bind_some]
  cases (([a[k].i7,a[k].d6]:List Int)==[(b[k]'(hl▸hk)).i7,(b[k]'(hl▸hk)).d6])<;>rfl
 ·unfold b64
  rw [A4]; rfl
theorem e5t {a b:List m4} (h:s9 a):b7z a b=some (a9B a b):=by
 unfold b7z c8P a9B
 rw [b0c]
 cases hl:a.length==b.length
 ·rfl
 have hl:a.length=b.length:=by simpa using hl
 rw [Bool.not_true,cond_false,Bool.true_and,a0R a h (fun k=>match a[k]?,b[k]? with | some x,some y=>(([x.i7,x.d6]:List Int)==[y.i7,y.d6]) | _,_=>false) false ()]
 ·cases (List.range a.length).all _<;>rfl
 ·intro k hk _
  unfold b9w
  rw [x6 _ k hk,t8 hk,t8 (hl▸hk),List.getElem?_eq_getElem hk,List.getElem?_eq_getElem (hl▸hk)]
  simp only [cond_true,Option.bind_some]
  cases (([a[k].i7,a[k].d6]:List Int)==[(b[k]'(hl▸hk)).i7,(b[k]'(hl▸hk)).d6])<;>rfl
 ·unfold b9w
  rw [A4]; rfl
theorem f4G {s:q7} {e:l8} (h:e.i0=true):(apply s e).2=5:=by
 unfold apply
 rw [h]
 rfl
theorem e0a {l:List l8} (hl:l.length≤40) (he:l.all B8=true) : ∀ k,k≤l.length → ∀ q∈z7 l (r9 l).2 k,∃ e∈l,L5 q e=true
 | 0,_,q,hq=>by cases hq
 | k+1,hk,q,hq=>by
  have h1:k<l.length:=by omega
  have hlen:=(a1X hl he l.length (Nat.le_refl _)).2.1
  rw [List.take_length] at hlen
  have h2:k<(r9 l).2.length:=by omega
  unfold z7 at hq
  rcases List.mem_append.1 hq with hq | hq
  ·exact e0a hl he k (by omega) q hq
  ·rw [b8N h1 h2] at hq
   cases hc:(r9 l).2[k]==0
   ·rw [hc] at hq; cases hq
   ·rw [hc,cond_true,List.mem_singleton] at hq
    refine ⟨l[k],List.getElem_mem h1,?_⟩
    have hco:=d5g hl he h1
    rw [List.getElem?_eq_getElem h2] at hco
    have hco:=Option.some.inj hco
    rw [hq]
    unfold L5
    cases hn:l[k].i0
    ·simp
    ·rw [f4G hn] at hco
     rw [hco] at hc
     cases hc
theorem e9L {l:List l8} {q:n5} (hq:q∈A6 l) : ∃ i,∃ h:i<l.length,l.findIdx? (L5 q)=some i:=by
 unfold A6 at hq
 cases hok:L0 l
 ·rw [hok] at hq; cases hq
 ·rw [hok,cond_true] at hq
  obtain ⟨hl,he⟩:=a2V hok
  obtain ⟨e,h1,h2⟩:=e0a hl he _ (Nat.le_refl _) q hq
  cases hf:l.findIdx? (L5 q) with
  | none =>
   have:=(List.findIdx?_eq_none_iff.1 hf) e h1
   rw [h2] at this
   cases this
  | some i=>exact ⟨i,(List.findIdx?_eq_some_iff_getElem.1 hf).1,rfl⟩
def a37 (l:List l8) (q:n5):Int:=match l.findIdx? (L5 q) with
 | some k=>(match l[k]? with | some e=>e.b6.d6 | none=>0)
 | none=>0
theorem f3Q {l:List l8} (h:s9 l) (q:n5):b2q l q=some (a37 l q):=d2R h q
def c1T (l:List l8) (done:List n5) (a35:List Int):Bool:=(List.range done.length).all fun i=>match a35[i]?,done[i]? with
 | some v,some q=>v==a37 l q
 | _,_=>false
def a1e:List m4:=List.replicate 4 ⟨0,0⟩
def c3Y (l:List l8) (ps:List (List m7)):Bool :=
 ((G7 a1e ps).2.length==(A6 l).length)&&(a9B (G7 a1e ps).1 (r9 l).1.d8&&c1T l (A6 l) (G7 a1e ps).2)
def a4D (w:l7):Bool:=A3 w&&match a5e w (A6 (D4 w)) [] with
 | some ps=>c3Y (D4 w) ps
 | none=>false
theorem c4j:F8 a1e=true:=by decide
theorem d2i : ∀ {ps:List (List m7)} {b:List m4} {vs:List Int},F8 b=true→(∀ p∈ps,s9 p)→s9 (a7X ps b vs).1
 | [],b,vs,hb,_=>a3T hb
 | p::ps,b,vs,hb,hp=>by
  unfold a7X
  cases hc:(M5 b p).2.2==3
  ·rw [cond_false]
   exact d2i (c4n hb (hp p (by simp)) hc) fun q hq=>hp q (by simp [hq])
  ·simp [s9]
theorem d4B {ps:List (List m7)} (hp : ∀ p∈ps,s9 p):s9 (G7 a1e ps).1:=by
 unfold G7
 cases (F8 a1e&&decide (ps.length≤100))
 ·simp [s9]
 ·exact d2i c4j hp
theorem e3B {w:l7} (h:K0 w) {lg:List l8} {l:List n5} (hl:l.length≤1000) : ∀ (m k:Nat) (o:List (List m7)),k+m=l.length→o.length=k →
  ((o9 (fun s:(List (List m7))×Int=>a7g w l s.1 s.2) (o,(k:Int))).bind fun x=>x.go (fun r=>some r) fun s=>b36 lg l s)=(match a5e w (l.drop k) o with | some ps=>b36 lg l ps | none=>some false):=by
 intro m
 induction m with
 | zero =>
  intro k o hk ho
  have:k=l.length:=by omega
  subst this
  rw [List.drop_length,H3 (b:=o)]
  ·rfl
  ·unfold a7g
   simp only [A4]
   rfl
 | succ m ih =>
  intro k o hk ho
  have hlt:k<l.length:=by omega
  have n1:(o.length+1) * 24≤140737488355328:=by omega
  have hw:m9 ((k:Int)+1)=((k+1:Nat):Int):=by rw [E7 (by omega) (by omega)]; rfl
  have hb1:a7g w l o (k:Int)=some (bif (a1x w l[k]).2 then .nxt (o++[(a1x w l[k]).1],((k+1:Nat):Int)) else .ret false):=by
   unfold a7g
   simp only [x6 _ k hlt,t8 hlt,cond_true,Option.bind_some,f3y h,x5 n1,hw]
   cases (a1x w l[k]).2<;>rfl
  rw [List.drop_eq_getElem_cons hlt]
  unfold a5e
  cases hc:(a1x w l[k]).2
  ·rw [hc,cond_false] at hb1
   rw [a2J hb1]
   rfl
  ·rw [hc,cond_true] at hb1
   rw [O5 hb1,cond_true]
   exact ih (k+1) _ (by omega) (by simp; omega)
theorem f2I:b4o=some a1e:=rfl
theorem e66:b5p=some a1e:=rfl
theorem d2N {w:l7} (h:K0 w) (hw:A3 w=true):C3 88 G6 (D4 w)∧L0 (D4 w)=true∧b0P w=some (D4 w)∧b0v w=some (D4 w):=by
 obtain ⟨h0,hlo,hok⟩:=d0I h hw
 exact ⟨hlo,hok,d2k h h0,d7J h h0⟩
theorem e5b {w:l7} (h:K0 w):b8r w=some (a4D w):=by
 unfold b8r a4D
 rw [a6g h,Option.bind_some]
 cases hw:A3 w
 ·rfl
 obtain ⟨hlo,hok,hs,hi⟩:=d2N h hw
 obtain ⟨hl,he⟩:=a2V hok
 have hf:=okEntries.f hlo
 have hfl:s9 (D4 w):=hlo.fits (by decide)
 have hd:(A6 (D4 w)).length≤40:=by
  unfold A6
  rw [hok]
  exact b7S hl he (Nat.le_refl _)
 have hdf:s9 (A6 (D4 w)):=d5s _
 simp only [Bool.not_true,cond_false,hs,Option.bind_some,e6m hf,Bool.true_and]
 have hpg:=f3Y h (l:=A6 (D4 w)) (by omega) (A6 (D4 w)).length 0 [] (by omega) rfl
 rw [List.drop_zero] at hpg
 unfold c6T
 rw [show o9 (fun s:(List (List m7))×Int=>a60 w (A6 (D4 w)) s.1 s.2) (([]:List (List m7)),0)=o9 (fun s:(List (List m7))×Int=>a60 w (A6 (D4 w)) s.1 s.2) (([]:List (List m7)),((0:Nat):Int)) from rfl,hpg,Option.bind_some]
 cases hps:a5e w (A6 (D4 w)) [] with
 | none=>rfl
 | some ps =>
  have hpf:=c2H h hps (by simp)
  simp only [Bool.not_true,cond_false,f2I,Option.bind_some,e2Y (a3T c4j) hpf,b0c]
  unfold c3Y
  cases hle:(G7 a1e ps).2.length==(A6 (D4 w)).length
  ·rfl
  have hle:(G7 a1e ps).2.length=(A6 (D4 w)).length:=by simpa using hle
  simp only [Bool.not_true,cond_false,d8U hf hok,Option.bind_some,e9Z (d4B hpf),Bool.true_and]
  cases a9B (G7 a1e ps).1 (r9 (D4 w)).1.d8
  ·rfl
  simp only [Bool.not_true,cond_false,Bool.true_and]
  unfold c1T
  rw [a0R (A6 (D4 w)) hdf (fun i=>match (G7 a1e ps).2[i]?,(A6 (D4 w))[i]? with | some v,some q=>v==a37 (D4 w) q | _,_=>false) false ()]
  ·cases (List.range (A6 (D4 w)).length).all _<;>rfl
  ·intro k hk _
   unfold b8m
   rw [x6 _ k hk,t8 hk,t8 (hle▸hk),List.getElem?_eq_getElem hk,List.getElem?_eq_getElem (hle▸hk)]
   simp only [cond_true,Option.bind_some,f3Q hfl]
   rw [bne]
   cases ((G7 a1e ps).2[k]'(hle▸hk))==a37 (D4 w) (A6 (D4 w))[k]<;>rfl
  ·unfold b8m
   rw [A4]; rfl
theorem f2u {w:l7} (h:K0 w):b6m w=some (a4D w):=by
 unfold b6m a4D
 rw [a8P h,Option.bind_some]
 cases hw:A3 w
 ·rfl
 obtain ⟨hlo,hok,hs,hi⟩:=d2N h hw
 obtain ⟨hl,he⟩:=a2V hok
 have hf:=okEntries.f hlo
 have hfl:s9 (D4 w):=hlo.fits (by decide)
 have hd:(A6 (D4 w)).length≤40:=by
  unfold A6
  rw [hok]
  exact b7S hl he (Nat.le_refl _)
 have hdf:s9 (A6 (D4 w)):=d5s _
 simp only [Bool.not_true,cond_false,hi,Option.bind_some,e4Q hf,Bool.true_and]
 have hpg:=e3B h (lg:=D4 w) (l:=A6 (D4 w)) (by omega) (A6 (D4 w)).length 0 [] (by omega) rfl
 rw [List.drop_zero] at hpg
 rw [show o9 (fun s:(List (List m7))×Int=>a7g w (A6 (D4 w)) s.1 s.2) ([],0)=o9 (fun s:(List (List m7))×Int=>a7g w (A6 (D4 w)) s.1 s.2) ([],((0:Nat):Int)) from rfl,hpg]
 cases hps:a5e w (A6 (D4 w)) [] with
 | none=>rfl
 | some ps =>
  have hpf:=c2H h hps (by simp)
  simp only
  unfold b36
  simp only [e66,Option.bind_some,e5j (a3T c4j) hpf,e5a hf,hok,cond_true,e5t (d4B hpf),b0c]
  unfold c3Y
  cases a9B (G7 a1e ps).1 (r9 (D4 w)).1.d8
  ·simp
  cases hle:(G7 a1e ps).2.length==(A6 (D4 w)).length
  ·rfl
  have hle:(G7 a1e ps).2.length=(A6 (D4 w)).length:=by simpa using hle
  simp only [Bool.not_true,cond_false,Bool.true_and]
  unfold c1T
  rw [a0R (A6 (D4 w)) hdf (fun i=>match (G7 a1e ps).2[i]?,(A6 (D4 w))[i]? with | some v,some q=>v==a37 (D4 w) q | _,_=>false) false ()]
  ·cases (List.range (A6 (D4 w)).length).all _<;>rfl
  ·intro k hk _
   obtain ⟨i,hi,hfi⟩:=e9L (List.getElem_mem hk)
   unfold b8c a37
   rw [x6 _ k hk,t8 hk,t8 (hle▸hk),List.getElem?_eq_getElem hk,List.getElem?_eq_getElem (hle▸hk)]
   simp only [cond_true,Option.bind_some,d0G hfl,hfi,t8 hi,List.getElem?_eq_getElem hi]
   rw [bne]
   cases ((G7 a1e ps).2[k]'(hle▸hk))==(D4 w)[i].b6.d6<;>rfl
  ·unfold b8c
   rw [A4]; rfl
theorem b52 {a b:l8} (h:G6 a):a9u a b=some (M6 a b):=by
 unfold a9u M6
 simp only [c0M h.f.2,Option.bind_some,a4g]
theorem c2a {α β:Type} {a:List α} {b:List β} (h:s9 a):s9 (a.zip b):=by
 unfold s9 at h ⊢
 rw [List.length_zip]
 omega
theorem b2P {α β:Type} {a:List α} {b:List β} {k:Nat} (hk:k<(a.zip b).length) : ∃ (h1:k<a.length) (h2:k<b.length),(a.zip b)[k]=(a[k],b[k]):=by
 rw [List.length_zip] at hk
 exact ⟨by omega,by omega,by simp⟩
theorem e4d {α β:Type} (a:List α) (b:List β):decide (((a.zip b).length:Int)<(a.length:Int))=true→decide (((a.zip b).length:Int)<(b.length:Int))=false:=by
 rw [List.length_zip]
 simp only [decide_eq_true_eq,decide_eq_false_iff_not]
 omega
theorem c3J {α β R S:Type} (a:List α) (b:List β) (X:Option (j3 R S Unit)):(bif decide (((a.zip b).length:Int)<(a.length:Int)) then (bif decide (((a.zip b).length:Int)<(b.length:Int)) then X else some (.brk ())) else some (.brk ()))=some (.brk ()):=by
 cases h:decide (((a.zip b).length:Int)<(a.length:Int))
 ·rfl
 ·rw [e4d a b h]; rfl
def beg (a b:List l8):Bool:=(a.zip b).all fun p=>M6 p.1 p.2
theorem e9S {a b:List l8} (ha:C3 88 G6 a):b6o a b=some (beg a b):=by
 unfold b6o beg
 rw [M0 (a.zip b) (c2a (ha.fits (by decide))) (fun p=>M6 p.1 p.2) false ()]
 ·cases (a.zip b).all (fun p=>M6 p.1 p.2)<;>rfl
 ·intro k hk
  obtain ⟨h1,h2,e⟩:=b2P hk
  unfold b7p
  rw [x6 _ k h1,x6 _ k h2,t8 h1,t8 h2,e]
  simp only [cond_true,Option.bind_some,b52 (ha.2 _ (List.getElem_mem h1))]
  cases M6 a[k] b[k]<;>rfl
 ·unfold b7p
  exact c3J _ _ _
theorem e58 {x y:j4} (ha:C3 88 G6 x.a6):o9 (fun s:Int=>b5n x y s) 0=some (bif beg x.a6 y.a6 then .brk () else .ret false):=by
 rw [M0 (x.a6.zip y.a6) (c2a (ha.fits (by decide))) (fun p=>M6 p.1 p.2) false ()]
 ·rfl
 ·intro k hk
  obtain ⟨h1,h2,e⟩:=b2P hk
  unfold b5n
  rw [x6 _ k h1,x6 _ k h2,t8 h1,t8 h2,e]
  simp only [cond_true,Option.bind_some,a7k (ha.2 _ (List.getElem_mem h1))]
  cases M6 x.a6[k] y.a6[k]<;>rfl
 ·unfold b5n
  exact c3J _ _ _
def b0M {α:Type} (l:List α) (p:α→α→Bool) (i:Nat):Bool:=match l[i]? with
 | some x=>(l.take i).all (p x)
 | none=>true
theorem b8E {α:Type} {l:List α} {p:α→α→Bool} {k:Nat} (hk:k<l.length):b0M l p k=(l.take k).all (p l[k]):=by
 unfold b0M
 rw [List.getElem?_eq_getElem hk]
def a4r {α:Type} (l:List α) (p:α→α→Bool):Bool:=(List.range l.length).all (b0M l p)
theorem c8O {α:Type} {l:List α} {p:α→α→Bool}:a4r l p=true ↔ ∀ (i k:Nat) (hi:i<l.length) (hk:k<i),p l[i] (l[k]'(by omega))=true:=by
 unfold a4r
 simp only [List.all_eq_true,List.mem_range]
 constructor
 ·intro h i k hi hk
  have:=h i hi
  rw [b8E hi] at this
  simp only [List.all_eq_true] at this
  refine this _ (List.mem_iff_getElem.2 ⟨k,by simp; omega,by simp⟩)
 ·intro h i hi
  rw [b8E hi]
  simp only [List.all_eq_true]
  intro y hy
  obtain ⟨k,hk,rfl⟩:=List.getElem_of_mem hy
  simp only [List.length_take] at hk
  simp only [List.getElem_take]
  exact h i k hi (by omega)
theorem e56 {w:l7} (h:K0 w):a8Z w=some (a4r w.Nodes (fun a b=>beg a.a6 b.a6)&&A3 w):=by
 have hf:s9 w.Nodes:=h.1.fits (by decide)
 have hin : ∀ (i:Nat) (hi:i<w.Nodes.length),o9 (fun s:Int=>b41 w (i:Int) s) 0=some (bif (w.Nodes.take i).all (fun b=>beg w.Nodes[i].a6 b.a6) then .brk () else .ret false):=by
  intro i hi
  have hl:(w.Nodes.take i).length=i:=by simp; omega
  refine M0 (w.Nodes.take i) (b37 hf i) (fun b=>beg w.Nodes[i].a6 b.a6) false () ?_ ?_
  ·intro k hk
   have hki:k<i:=by omega
   unfold b41
   rw [show decide ((k:Int)<(i:Int))=true from by simpa using hki,t8 hi,t8 (show k<w.Nodes.length by omega)]
   simp only [cond_true,Option.bind_some,e9S (h.1.2 _ (List.getElem_mem hi)).2.2.1,List.getElem_take]
   cases beg w.Nodes[i].a6 w.Nodes[k].a6<;>rfl
  ·unfold b41
   rw [hl,show decide ((i:Int)<(i:Int))=false from by simp]
   rfl
 unfold a8Z
 rw [a0R w.Nodes hf (b0M w.Nodes fun a b=>beg a.a6 b.a6) false ()]
 ·unfold c2t a4r
  rw [a6g h]
  simp only [Option.bind_some]
  cases (List.range w.Nodes.length).all (b0M w.Nodes fun a b=>beg a.a6 b.a6)<;>rfl
 ·intro k hk _
  unfold b6U
  rw [x6 _ k hk,hin k hk,b8E hk]
  simp only [cond_true,Option.bind_some]
  cases (w.Nodes.take k).all (fun b=>beg w.Nodes[k].a6 b.a6)<;>rfl
 ·unfold b6U
  rw [A4]; rfl
theorem e0N {w:l7} (h:K0 w):a8J w=some (A3 w&&w.Nodes.all fun a=>w.Nodes.all fun b=>beg a.a6 b.a6):=by
 have hf:s9 w.Nodes:=h.1.fits (by decide)
 have hin : ∀ a:j4,P1 a→o9 (fun s:Int=>b3j w a s) 0=some (bif w.Nodes.all (fun b=>beg a.a6 b.a6) then .brk () else .ret false):=by
  intro a ha
  refine M0 w.Nodes hf (fun b=>beg a.a6 b.a6) false () ?_ ?_
  ·intro k hk
   unfold b3j
   rw [x6 _ k hk,t8 hk]
   simp only [cond_true,Option.bind_some]
   rw [e58 ha.2.2.1]
   cases beg a.a6 w.Nodes[k].a6<;>rfl
  ·unfold b3j
   rw [A4]; rfl
 unfold a8J
 rw [a8P h,Option.bind_some]
 cases A3 w
 ·rfl
 ·simp only [Bool.not_true,cond_false,Bool.true_and]
  rw [M0 w.Nodes hf (fun a=>w.Nodes.all fun b=>beg a.a6 b.a6) false ()]
  ·cases w.Nodes.all (fun a=>w.Nodes.all fun b=>beg a.a6 b.a6)<;>rfl
  ·intro k hk
   unfold b9R
   rw [x6 _ k hk,t8 hk]
   simp only [cond_true,Option.bind_some]
   rw [hin _ (h.1.2 _ (List.getElem_mem hk))]
   cases w.Nodes.all (fun b=>beg w.Nodes[k].a6 b.a6)<;>rfl
  ·unfold b9R
   rw [A4]; rfl
theorem c59 {a b:List l8}:beg a b=true ↔ ∀ (i:Nat) (h1:i<a.length) (h2:i<b.length),a[i]=b[i]:=by
 unfold beg
 rw [List.all_eq_true]
 constructor
 ·intro h i h1 h2
  have:=h (a[i],b[i]) (List.mem_iff_getElem.2 ⟨i,by rw [List.length_zip]; omega,by simp⟩)
  exact (a3G _ _).1 this
 ·intro h p hp
  obtain ⟨i,hi,rfl⟩:=List.getElem_of_mem hp
  obtain ⟨h1,h2,e⟩:=b2P hi
  rw [e]
  exact (a3G _ _).2 (h i h1 h2)
theorem e7P {α:Type} {l:List α} {p:α→α→Bool} (hr : ∀ x∈l,p x x=true) (hs : ∀ x∈l,∀ y∈l,p x y=true→p y x=true):a4r l p=l.all fun a=>l.all (p a):=by
 rw [Bool.eq_iff_iff,c8O]
 simp only [List.all_eq_true]
 constructor
 ·intro h a ha b hb
  obtain ⟨i,hi,rfl⟩:=List.getElem_of_mem ha
  obtain ⟨k,hk,rfl⟩:=List.getElem_of_mem hb
  rcases Nat.lt_trichotomy i k with q | q | q
  ·exact hs _ hb _ ha (h k i hk q)
  ·subst q
   exact hr _ ha
  ·exact h i k hi q
 ·intro h i k hi hk
  exact h _ (List.getElem_mem hi) _ (List.getElem_mem _)
theorem f1e {w:l7} (h:K0 w) : ∃ v,a8Z w=some v∧a8J w=some v:=by
 refine ⟨_,e56 h,?_⟩
 rw [e0N h,e7P (p:=fun a b:j4=>beg a.a6 b.a6) (fun x _=>c59.2 fun i _ _=>rfl) (fun x _ y _ hxy=>c59.2 fun i h1 h2=>(c59.1 hxy i h2 h1).symm),Bool.and_comm]
abbrev zV:m6:=⟨0,zE⟩
def F4 (n:j4) (k:Nat):m6:=n.Acc.a0[k]?.getD zV
theorem d4k:G6 zE:=by
 refine ⟨⟨by simp [K6],by simp [K6]⟩,⟨by simp,by simp⟩,⟨by simp,by simp⟩,by simp [K6],by simp [K6]⟩
theorem c1e {n:j4} (h:P1 n) (k:Nat):a0l (F4 n k):=by
 unfold F4
 cases hv:n.Acc.a0[k]? with
 | none=>exact ⟨by simp [K6],d4k⟩
 | some v=>exact h.2.1.2.2 v (List.mem_of_getElem? hv)
theorem c1P {n:j4} (k:Nat):a75 n (k:Int)=some (F4 n k):=by
 unfold a75 F4
 by_cases hk:k<n.Acc.a0.length
 ·rw [x6 _ k hk,t8 hk,List.getElem?_eq_getElem hk]
  rfl
 ·rw [show decide ((k:Int)<(n.Acc.a0.length:Int))=false from by simpa using hk,List.getElem?_eq_none (by omega)]
  rfl
def a3Y (a b:m6):Bool := !(decide (a.a7>0)&&((a.a7==b.a7) && !M6 a.g9 b.g9))
def a39 (a b:m6):Bool := !((a.a7 != 0)&&((a.a7==b.a7) && !M6 a.g9 b.g9))
theorem e3M {w:l7} (h:K0 w):a9d w=some (A3 w&&(List.range 40).all fun s=>a4r w.Nodes fun a b=>a3Y (F4 a s) (F4 b s)):=by
 have hf:s9 w.Nodes:=h.1.fits (by decide)
 have hin : ∀ (s i:Nat) (hi:i<w.Nodes.length),o9 (fun t:Int=>b4d w (s:Int) (i:Int) t) 0=some (bif (w.Nodes.take i).all (fun b=>a3Y (F4 w.Nodes[i] s) (F4 b s)) then .brk () else .ret false):=by
  intro s i hi
  have hl:(w.Nodes.take i).length=i:=by simp; omega
  refine M0 (w.Nodes.take i) (b37 hf i) (fun b=>a3Y (F4 w.Nodes[i] s) (F4 b s)) false () ?_ ?_
  ·intro k hk
   have hki:k<i:=by omega
   unfold b4d c3S
   rw [show decide ((k:Int)<(i:Int))=true from by simpa using hki,t8 hi,t8 (show k<w.Nodes.length by omega)]
   simp only [cond_true,Option.bind_some,c1P,b52 (c1e (h.1.2 _ (List.getElem_mem hi)) s).2,List.getElem_take]
   unfold a3Y
   cases decide ((F4 w.Nodes[i] s).a7>0)<;>cases ((F4 w.Nodes[i] s).a7==(F4 w.Nodes[k] s).a7)<;>cases M6 (F4 w.Nodes[i] s).g9 (F4 w.Nodes[k] s).g9<;>rfl
  ·unfold b4d
   rw [hl,show decide ((i:Int)<(i:Int))=false from by simp]
   rfl
 have hmid : ∀ s:Nat,o9 (fun t:Int=>b5e w (s:Int) t) 0=some (bif a4r w.Nodes (fun a b=>a3Y (F4 a s) (F4 b s)) then .brk () else .ret false):=by
  intro s
  unfold a4r
  refine a0R w.Nodes hf (b0M w.Nodes fun a b=>a3Y (F4 a s) (F4 b s)) false () ?_ ?_
  ·intro k hk _
   unfold b5e c57
   rw [x6 _ k hk,hin s k hk,b8E hk]
   simp only [cond_true,Option.bind_some]
   cases (w.Nodes.take k).all (fun b=>a3Y (F4 w.Nodes[k] s) (F4 b s))<;>rfl
  ·unfold b5e
   rw [A4]; rfl
 unfold a9d
 rw [a6g h,Option.bind_some]
 cases A3 w
 ·rfl
 ·simp only [Bool.not_true,cond_false,Bool.true_and]
  have:=a0R (body:=fun s:Int=>b4F w s) (List.replicate 40 ()) (by unfold s9; simp) (fun s=>a4r w.Nodes (fun a b=>a3Y (F4 a s) (F4 b s))) false ()
   (fun k hk _=>by
    have hk':k<40:=by simpa using hk
    unfold b4F c5A
    rw [show decide ((k:Int)<40)=true from by simp; omega,hmid k]
    simp only [cond_true,Option.bind_some]
    cases a4r w.Nodes (fun a b=>a3Y (F4 a k) (F4 b k))<;>rfl)
   (by unfold b4F; simp)
  rw [this]
  simp only [List.length_replicate]
  cases (List.range 40).all (fun s=>a4r w.Nodes (fun a b=>a3Y (F4 a s) (F4 b s)))<;>rfl
theorem e1e {w:l7} (h:K0 w):a9n w=some (A3 w&&w.Nodes.all fun a=>w.Nodes.all fun b=>(a.Acc.a0.zip b.Acc.a0).all fun p=>a39 p.1 p.2):=by
 have hf:s9 w.Nodes:=h.1.fits (by decide)
 have hv : ∀ x y:j4,P1 x→o9 (fun s:Int=>b3a x y s) 0=some (bif (x.Acc.a0.zip y.Acc.a0).all (fun p=>a39 p.1 p.2) then .brk () else .ret false):=by
  intro x y hx
  refine M0 (x.Acc.a0.zip y.Acc.a0) (c2a (hx.2.1.2.fits (by decide))) (fun p=>a39 p.1 p.2) false () ?_ ?_
  ·intro k hk
   obtain ⟨h1,h2,e⟩:=b2P hk
   unfold b3a c4L
   rw [x6 _ k h1,x6 _ k h2,t8 h1,t8 h2,e]
   simp only [cond_true,Option.bind_some,a7k (hx.2.1.2.2 _ (List.getElem_mem h1)).2]
   unfold a39
   cases (x.Acc.a0[k].a7 != 0)<;>cases (x.Acc.a0[k].a7==y.Acc.a0[k].a7)<;>cases M6 x.Acc.a0[k].g9 y.Acc.a0[k].g9<;>rfl
  ·unfold b3a
   exact c3J _ _ _
 have hin : ∀ a:j4,P1 a→o9 (fun s:Int=>b3t w a s) 0=some (bif w.Nodes.all (fun b=>(a.Acc.a0.zip b.Acc.a0).all fun p=>a39 p.1 p.2) then .brk () else .ret false):=by
  intro a ha
  refine M0 w.Nodes hf (fun b=>(a.Acc.a0.zip b.Acc.a0).all fun p=>a39 p.1 p.2) false () ?_ ?_
  ·intro k hk
   unfold b3t c4B
   rw [x6 _ k hk,t8 hk]
   simp only [cond_true,Option.bind_some]
   rw [hv a _ ha]
   cases (a.Acc.a0.zip w.Nodes[k].Acc.a0).all (fun p=>a39 p.1 p.2)<;>rfl
  ·unfold b3t
   rw [A4]; rfl
 unfold a9n
 rw [a8P h,Option.bind_some]
 cases A3 w
 ·rfl
 ·simp only [Bool.not_true,cond_false,Bool.true_and]
  rw [M0 w.Nodes hf (fun a=>w.Nodes.all fun b=>(a.Acc.a0.zip b.Acc.a0).all fun p=>a39 p.1 p.2) false ()]
  ·cases w.Nodes.all (fun a=>w.Nodes.all fun b=>(a.Acc.a0.zip b.Acc.a0).all fun p=>a39 p.1 p.2)<;>rfl
  ·intro k hk
   unfold c01 c6a
   rw [x6 _ k hk,t8 hk]
   simp only [cond_true,Option.bind_some]
   rw [hin _ (h.1.2 _ (List.getElem_mem hk))]
   cases w.Nodes.all (fun b=>(w.Nodes[k].Acc.a0.zip b.Acc.a0).all fun p=>a39 p.1 p.2)<;>rfl
  ·unfold c01
   rw [A4]; rfl
theorem c1B {a b:m6}:a3Y a b=true↔(0<a.a7→a.a7=b.a7→a.g9=b.g9):=by
 unfold a3Y
 rw [Bool.not_eq_true',← Bool.not_eq_true,Bool.and_eq_true,Bool.and_eq_true,Bool.not_eq_true',← Bool.not_eq_true,a3G,decide_eq_true_eq,beq_iff_eq]
 constructor
 ·intro h h1 h2
  exact Classical.byContradiction fun q=>h ⟨h1,h2,q⟩
 ·rintro h ⟨h1,h2,h3⟩
  exact h3 (h h1 h2)
theorem d1m {a b:m6}:a39 a b=true↔(a.a7≠0→a.a7=b.a7→a.g9=b.g9):=by
 unfold a39
 rw [Bool.not_eq_true',← Bool.not_eq_true,Bool.and_eq_true,Bool.and_eq_true,Bool.not_eq_true',← Bool.not_eq_true,a3G,bne_iff_ne,beq_iff_eq]
 constructor
 ·intro h h1 h2
  exact Classical.byContradiction fun q=>h ⟨h1,h2,q⟩
 ·rintro h ⟨h1,h2,h3⟩
  exact h3 (h h1 h2)
theorem e5O {w:l7} (h:K0 w) : ∃ v,a9d w=some v∧a9n w=some v:=by
 refine ⟨_,e3M h,?_⟩
 rw [e1e h]
 cases hw:A3 w
 ·rfl
 ·congr 1
  simp only [Bool.true_and]
  rw [Bool.eq_iff_iff]
  have hn:=(c1x hw).2
  have hacc : ∀ n∈w.Nodes,n.Acc.a0.length≤40 ∧ ∀ v∈n.Acc.a0,0≤v.a7:=fun n hm=>e3I (b1Y (hn n hm)).2.1
  have hnn : ∀ n∈w.Nodes,∀ k,0≤(F4 n k).a7:=by
   intro n hm k
   unfold F4
   cases hv:n.Acc.a0[k]? with
   | none=>exact Int.le_refl 0
   | some v=>exact (hacc n hm).2 v (List.mem_of_getElem? hv)
  simp only [List.all_eq_true,List.mem_range]
  constructor
  ·intro q s hs
   rw [c8O]
   intro i k hi hk
   rw [c1B]
   intro h1 h2
   have hia:=List.getElem_mem (l:=w.Nodes) hi
   have hka:=List.getElem_mem (l:=w.Nodes) (show k<w.Nodes.length by omega)
   unfold F4 at h1 h2 ⊢
   cases hv:w.Nodes[i].Acc.a0[s]? with
   | none=>rw [hv] at h1; simp at h1
   | some v =>
    cases hu:(w.Nodes[k]'(by omega)).Acc.a0[s]? with
    | none =>
     rw [hv,hu] at h2
     rw [hv] at h1
     simp at h1 h2
     omega
    | some u =>
     rw [hv,hu] at h2
     rw [hv] at h1
     obtain ⟨l1,e1⟩:=List.getElem?_eq_some_iff.1 hv
     obtain ⟨l2,e2⟩:=List.getElem?_eq_some_iff.1 hu
     have:=q _ hia _ hka (v,u) (List.mem_iff_getElem.2 ⟨s,by rw [List.length_zip]; omega,by simp [e1,e2]⟩)
     simp only [Option.getD_some] at h1 h2 ⊢
     exact (d1m.1 this) (fun z=>by have z':v.a7=0:=z; omega) h2
  ·intro q a ha b hb p hp
   obtain ⟨s,hs,rfl⟩:=List.getElem_of_mem hp
   obtain ⟨l1,l2,e⟩:=b2P hs
   rw [e,d1m]
   intro h1 h2
   simp only at h1 h2
   have hs40:s<40:=by have:=(hacc a ha).1; omega
   have hpq:=c8O.1 (q s hs40)
   obtain ⟨i,hi,rfl⟩:=List.getElem_of_mem ha
   obtain ⟨k,hk,rfl⟩:=List.getElem_of_mem hb
   have ei:F4 w.Nodes[i] s=w.Nodes[i].Acc.a0[s]:=by unfold F4; rw [List.getElem?_eq_getElem l1]; rfl
   have ek:F4 w.Nodes[k] s=w.Nodes[k].Acc.a0[s]:=by unfold F4; rw [List.getElem?_eq_getElem l2]; rfl
   have p1:=(hacc _ ha).2 _ (List.getElem_mem l1)
   rcases Nat.lt_trichotomy i k with z | z | z
   ·have:=c1B.1 (hpq k i hk z)
    rw [ei,ek] at this
    exact (this (by omega) h2.symm).symm
   ·subst z
    rfl
   ·have:=c1B.1 (hpq i k hi z)
    rw [ei,ek] at this
    exact this (by omega) h2
def b1C (n:j4):Bool:=bif n.d7 != 3 then true else decide ((F4 n n.a6.length).a7≥n.a7)&&(decide ((F4 n n.a6.length).a7>n.a7)||M6 (F4 n n.a6.length).g9 n.b9)
theorem f2y {n:j4} (h:P1 n):c0u n=some (b1C n):=by
 unfold c0u b1C
 rw [c1P,Option.bind_some,b52 (c1e h _).2]
 cases n.d7 != 3<;>cases decide ((F4 n n.a6.length).a7≥n.a7)<;>cases decide ((F4 n n.a6.length).a7>n.a7)<;>rfl
def other (a b:j4):Bool := !(decide (a.a7>0)&&(a.a7==b.a7))
def a80 (a b:j4):Bool := !((a.a7 != 0)&&(a.a7==b.a7))
def a9m (w:l7) (i:Nat):Bool:=match w.Nodes[i]? with
 | some n=>b1C n&&(w.Nodes.take i).all (other n)
 | none=>true
theorem e5L {w:l7} (h:K0 w):a8F w=some (A3 w&&(List.range w.Nodes.length).all (a9m w)):=by
 have hf:s9 w.Nodes:=h.1.fits (by decide)
 have hin : ∀ (i:Nat) (hi:i<w.Nodes.length),o9 (fun t:Int=>b4P w (i:Int) t) 0=some (bif (w.Nodes.take i).all (other w.Nodes[i]) then .brk () else .ret false):=by
  intro i hi
  have hl:(w.Nodes.take i).length=i:=by simp; omega
  refine M0 (w.Nodes.take i) (b37 hf i) (other w.Nodes[i]) false () ?_ ?_
  ·intro k hk
   have hki:k<i:=by omega
   unfold b4P c6N
   rw [show decide ((k:Int)<(i:Int))=true from by simpa using hki,t8 hi,t8 (show k<w.Nodes.length by omega)]
   simp only [cond_true,Option.bind_some,List.getElem_take]
   unfold other
   cases decide (w.Nodes[i].a7>0)<;>cases (w.Nodes[i].a7==w.Nodes[k].a7)<;>rfl
  ·unfold b4P
   rw [hl,show decide ((i:Int)<(i:Int))=false from by simp]
   rfl
 unfold a8F
 rw [a6g h,Option.bind_some]
 cases A3 w
 ·rfl
 ·simp only [Bool.not_true,cond_false,Bool.true_and]
  rw [a0R w.Nodes hf (a9m w) false ()]
  ·cases (List.range w.Nodes.length).all (a9m w)<;>rfl
  ·intro k hk _
   unfold b5Q c4N a9m
   rw [x6 _ k hk,t8 hk,List.getElem?_eq_getElem hk]
   simp only [cond_true,Option.bind_some,f2y (h.1.2 _ (List.getElem_mem hk))]
   rw [hin k hk]
   cases b1C w.Nodes[k]<;>cases (w.Nodes.take k).all (other w.Nodes[k])<;>rfl
  ·unfold b5Q
   rw [A4]; rfl
def b2a (n:j4):Bool:=bif n.d7 != 3 then true else bif decide ((n.a6.length:Int)≥(n.Acc.a0.length:Int)) then false else
 !decide ((F4 n n.a6.length).a7<n.a7) && !(((F4 n n.a6.length).a7==n.a7) && !M6 (F4 n n.a6.length).g9 n.b9)
def a9q (w:l7) (i:Nat):Bool:=match w.Nodes[i]? with
 | some n=>(w.Nodes.drop (i+1)).all (a80 n)&&b2a n
 | none=>true
theorem e5H {w:l7} (h:K0 w):a9v w=some (A3 w&&(List.range w.Nodes.length).all (a9q w)):=by
 have hf:s9 w.Nodes:=h.1.fits (by decide)
 have hin : ∀ (i:Nat) (hi:i<w.Nodes.length) (a:j4),o9 (fun t:Int=>b43 w (i:Int) a t) 0=some (bif (w.Nodes.drop (i+1)).all (a80 a) then .brk () else .ret false):=by
  intro i hi a
  have e:(m9 ((i:Int)+1)).toNat=i+1:=by rw [J0 hf hi]; rfl
  have e2:((w.Nodes.drop (i+1)).take (w.Nodes.length - (i+1)))=w.Nodes.drop (i+1):=by rw [← List.length_drop,List.take_length]
  have hfd:s9 (w.Nodes.drop (i+1)):=by
   unfold s9 at hf ⊢
   rw [List.length_drop]
   omega
  refine M0 (w.Nodes.drop (i+1)) hfd (a80 a) false () ?_ ?_
  ·intro k hk
   unfold b43 c68
   rw [e,e2,x6 _ k hk,t8 hk]
   simp only [cond_true,Option.bind_some]
   unfold a80
   cases (a.a7 != 0)<;>cases (a.a7==(w.Nodes.drop (i+1))[k].a7)<;>rfl
  ·unfold b43
   rw [e,e2,A4]; rfl
 unfold a9v
 rw [a8P h,Option.bind_some]
 cases A3 w
 ·rfl
 ·simp only [Bool.not_true,cond_false,Bool.true_and]
  rw [a0R w.Nodes hf (a9q w) false ()]
  ·cases (List.range w.Nodes.length).all (a9q w)<;>rfl
  ·intro k hk _
   have hok:=h.1.2 _ (List.getElem_mem hk)
   have hk6:b68 (k:Int) w.Nodes[k]=some (bif b2a w.Nodes[k] then .nxt (m9 ((k:Int)+1)) else .ret false):=by
    unfold b68 c1o b2a
    cases (w.Nodes[k].d7 != 3)
    ·simp only [cond_false]
     by_cases hl:w.Nodes[k].a6.length<w.Nodes[k].Acc.a0.length
     ·rw [show decide ((w.Nodes[k].a6.length:Int)≥(w.Nodes[k].Acc.a0.length:Int))=false from by simpa using hl,t8 hl]
      have ev:F4 w.Nodes[k] w.Nodes[k].a6.length=w.Nodes[k].Acc.a0[w.Nodes[k].a6.length]:=by unfold F4; rw [List.getElem?_eq_getElem hl]; rfl
      rw [ev]
      simp only [cond_false,Option.bind_some,a7k (hok.2.1.2.2 _ (List.getElem_mem hl)).2]
      cases decide (w.Nodes[k].Acc.a0[w.Nodes[k].a6.length].a7<w.Nodes[k].a7)<;>cases (w.Nodes[k].Acc.a0[w.Nodes[k].a6.length].a7==w.Nodes[k].a7)<;>cases M6 w.Nodes[k].Acc.a0[w.Nodes[k].a6.length].g9 w.Nodes[k].b9<;>rfl
     ·rw [show decide ((w.Nodes[k].a6.length:Int)≥(w.Nodes[k].Acc.a0.length:Int))=true from by simp; omega]
      rfl
    ·rfl
   unfold b56 a9q
   rw [x6 _ k hk,t8 hk,List.getElem?_eq_getElem hk]
   simp only [cond_true,Option.bind_some]
   rw [x5 (by rw [J0 hf hk]; omega),hin k hk,hk6]
   cases (w.Nodes.drop (k+1)).all (a80 w.Nodes[k])<;>cases b2a w.Nodes[k]<;>rfl
  ·unfold b56
   rw [A4]; rfl
theorem d24 {a b:j4}:other a b=true ↔ ¬ (0<a.a7∧a.a7=b.a7):=by
 unfold other
 rw [Bool.not_eq_true',← Bool.not_eq_true,Bool.and_eq_true,decide_eq_true_eq,beq_iff_eq]
theorem d0i {a b:j4}:a80 a b=true ↔ ¬ (a.a7≠0∧a.a7=b.a7):=by
 unfold a80
 rw [Bool.not_eq_true',← Bool.not_eq_true,Bool.and_eq_true,bne_iff_ne,beq_iff_eq]
theorem d6j {n:j4} (h:J4 n=true):b2a n=b1C n:=by
 unfold b1C b2a
 cases hp:(n.d7 != 3)
 ·simp only [cond_false]
  have hb:=(d2f (b1Y h).1 (b1Y h).2.2.2.1).2 (by simpa [bne] using hp)
  by_cases hl:n.a6.length<n.Acc.a0.length
  ·rw [show decide ((n.a6.length:Int)≥(n.Acc.a0.length:Int))=false from by simpa using hl,cond_false]
   rw [Bool.eq_iff_iff]
   generalize F4 n n.a6.length=v
   cases M6 v.g9 n.b9
   ·simp<;>omega
   ·simp<;>omega
  ·rw [show decide ((n.a6.length:Int)≥(n.Acc.a0.length:Int))=true from by simp; omega,cond_true]
   have:F4 n n.a6.length=zV:=by unfold F4; rw [List.getElem?_eq_none (by omega)]; rfl
   rw [this,show decide ((zV.a7)≥n.a7)=false from by simp; omega]
   try rfl
 ·rfl
theorem e9t {w:l7} (h:K0 w) : ∃ v,a8F w=some v∧a9v w=some v:=by
 refine ⟨_,e5L h,?_⟩
 rw [e5H h]
 cases hw:A3 w
 ·rfl
 ·congr 1
  simp only [Bool.true_and]
  rw [Bool.eq_iff_iff]
  have hn:=(c1x hw).2
  have hb : ∀ n∈w.Nodes,0≤n.a7:=fun n hm=>(d2f (b1Y (hn n hm)).1 (b1Y (hn n hm)).2.2.2.1).1
  simp only [List.all_eq_true,List.mem_range]
  constructor
  ·intro q i hi
   have qi:=q i hi
   unfold a9q at qi
   unfold a9m
   rw [List.getElem?_eq_getElem hi] at qi ⊢
   simp only [Bool.and_eq_true] at qi ⊢
   refine ⟨by rw [← d6j (hn _ (List.getElem_mem hi))]; exact qi.2,?_⟩
   rw [List.all_eq_true]
   intro m hm
   obtain ⟨k,hk,rfl⟩:=List.getElem_of_mem hm
   rw [List.length_take] at hk
   rw [List.getElem_take,d24]
   have hkl:k<w.Nodes.length:=by omega
   have qk:=q k hkl
   unfold a9q at qk
   rw [List.getElem?_eq_getElem hkl] at qk
   simp only [Bool.and_eq_true] at qk
   have:=d0i.1 (List.all_eq_true.1 qk.1 w.Nodes[i] (List.mem_iff_getElem.2 ⟨i - (k+1),by rw [List.length_drop]; omega,by simp only [List.getElem_drop]; congr 1; omega⟩))
   rintro ⟨h1,h2⟩
   exact this ⟨by omega,h2.symm⟩
  ·intro q i hi
   have qi:=q i hi
   unfold a9m at qi
   unfold a9q
   rw [List.getElem?_eq_getElem hi] at qi ⊢
   simp only [Bool.and_eq_true] at qi ⊢
   refine ⟨?_,by rw [d6j (hn _ (List.getElem_mem hi))]; exact qi.1⟩
   rw [List.all_eq_true]
   intro m hm
   obtain ⟨k,hk,rfl⟩:=List.getElem_of_mem hm
   rw [List.length_drop] at hk
   rw [List.getElem_drop,d0i]
   have hkl:i+1+k<w.Nodes.length:=by omega
   have qk:=q (i+1+k) hkl
   unfold a9m at qk
   rw [List.getElem?_eq_getElem hkl] at qk
   simp only [Bool.and_eq_true] at qk
   have:=d24.1 (List.all_eq_true.1 qk.2 w.Nodes[i] (List.mem_iff_getElem.2 ⟨i,by rw [List.length_take]; omega,by simp⟩))
   rintro ⟨h1,h2⟩
   have:=hb _ (List.getElem_mem hi)
   omega
theorem f0N (a b:n5):(([a.c8,a.Seq]:List Int)==[b.c8,b.Seq])=(H8 a==H8 b):=rfl
def a4K (l:List n4) (i:Nat):Bool:=match l[i]? with
 | some t=>(List.range i).all fun k=>match l[k]? with
  | some s => !(H8 s.a5==H8 t.a5)
  | none=>true
 | none=>true
theorem f0n {l:List n4} {i:Nat} (h:i<l.length):a4K l i = !((l.take i).any fun s=>H8 s.a5==H8 l[i].a5):=by
 unfold a4K
 rw [List.getElem?_eq_getElem h]
 simp only
 rw [Bool.eq_iff_iff,List.all_eq_true,Bool.not_eq_true',List.any_eq_false]
 constructor
 ·intro hh s hs
  obtain ⟨k,hk,rfl⟩:=List.getElem_of_mem hs
  rw [List.length_take] at hk
  have:=hh k (by simp; omega)
  rw [List.getElem?_eq_getElem (by omega)] at this
  simpa using this
 ·intro hh k hk
  have hk:k<i:=by simpa using hk
  rw [List.getElem?_eq_getElem (show k<l.length by omega)]
  have:=hh l[k] (List.mem_take_iff_getElem.2 ⟨k,by omega,rfl⟩)
  simpa using this
def b7x (l:List n4):Bool:=(List.range l.length).all (a4K l)
theorem f3m {w:l7} (h:K0 w):b35 w=some (b7x w.Told&&A3 w):=by
 have hf:s9 w.Told:=h.2.2.2.fits (by decide)
 have hl:=hf
 unfold s9 at hl
 unfold b35
 rw [a0R w.Told hf (a4K w.Told) false ()]
 ·unfold b7x
  cases (List.range w.Told.length).all (a4K w.Told)
  ·rfl
  ·simp only [cond_true,Option.bind_some,j8.go]
   unfold c4D
   rw [a6g h]
   rfl
 ·intro i hi _
  unfold b6t
  rw [x6 _ i hi,cond_true]
  have hc:=a4R (body:=fun s:Int=>b49 w (i:Int) s) (fun k=>(k:Int)) i (fun k=>match w.Told[k]? with | some s => !(H8 s.a5==H8 w.Told[i].a5) | none=>true) (fun _=>false) () (by
   intro k hk _
   have hkl:k<w.Told.length:=by omega
   unfold b49
   rw [show decide ((k:Int)<(i:Int))=true from by simpa using hk,cond_true,t8 hkl,Option.bind_some,t8 hi,Option.bind_some,f0N,List.getElem?_eq_getElem hkl,J0 hf hkl]
   simp only
   cases H8 w.Told[k].a5==H8 w.Told[i].a5<;>rfl) (by
   intro _
   unfold b49
   rw [show decide ((i:Int)<(i:Int))=false from by simp]
   rfl)
  rw [show ((0:Nat):Int)=0 from rfl] at hc
  unfold a4K
  rw [List.getElem?_eq_getElem hi]
  simp only
  rcases hc with ⟨hc,hall⟩ | ⟨k,hk,ho,_,hc⟩
  ·rw [hc,show (List.range i).all (fun k=>match w.Told[k]? with | some s => !(H8 s.a5==H8 w.Told[i].a5) | none=>true)=true from List.all_eq_true.2 fun k hk=>hall k (by simpa using hk)]
   rfl
  ·rw [hc,show (List.range i).all (fun k=>match w.Told[k]? with | some s => !(H8 s.a5==H8 w.Told[i].a5) | none=>true)=false from List.all_eq_false.2 ⟨k,by simpa using hk,by rw [ho]; simp⟩]
   rfl
 ·unfold b6t
  rw [A4]; rfl
theorem e7w {l:List n5} {y:n5} (h:(l.any fun x=>H8 y==H8 x)=false):a9g H8 l y=l++[y]:=by
 unfold a9g
 rw [if_neg (by rw [h]; simp)]
theorem f3o {w:l7} (h:K0 w):b5i w=some (A3 w&&b7x w.Told):=by
 have hf:s9 w.Told:=h.2.2.2.fits (by decide)
 unfold b5i
 rw [a8P h,Option.bind_some]
 cases A3 w
 ·rfl
 rw [Bool.not_true,cond_false,Bool.true_and]
 have hc:=a4R (body:=fun s:(List n5)×Int=>b3u w s.1 s.2) (fun k=>((w.Told.take k).map (·.a5),(k:Int))) w.Told.length (a4K w.Told) (fun _=>false) () (by
  intro k hk _
  unfold b3u
  simp only [x6 _ k hk,cond_true,t8 hk,Option.bind_some,J0 hf hk]
  have he:(((w.Told.take k).map (·.a5)).any fun x=>H8 w.Told[k].a5==H8 x) = !a4K w.Told k:=by
   rw [f0n hk,Bool.not_not,List.any_map]
   congr 1
   funext s
   show (H8 w.Told[k].a5==H8 s.a5)=_
   rw [Bool.eq_iff_iff,beq_iff_eq,beq_iff_eq]
   exact eq_comm
  rw [he]
  cases ho:a4K w.Told k
  ·rfl
  ·rw [ho] at he
   rw [e7w he,List.take_succ_eq_append_getElem hk,List.map_append]
   rfl) (by
  intro _
  unfold b3u
  simp only [A4]
  rfl)
 rw [List.take_zero,List.map_nil,show ((0:Nat):Int)=0 from rfl] at hc
 unfold b7x
 rcases hc with ⟨hc,hall⟩ | ⟨k,hk,ho,_,hc⟩
 ·rw [hc,show (List.range w.Told.length).all (a4K w.Told)=true from List.all_eq_true.2 fun k hk=>hall k (by simpa using hk)]
  rfl
 ·rw [hc,show (List.range w.Told.length).all (a4K w.Told)=false from List.all_eq_false.2 ⟨k,by simpa using hk,by rw [ho]; simp⟩]
  rfl
def eN:l8:=⟨true,⟨0,0⟩,⟨[],[],0,0⟩⟩
def v0:m6:=⟨0,zE⟩
def b5r (b:Int):Bool:=p9 b 1 3000
def a0A (a:A0) (b:Int):Option A0:=bif b5r b&&decide (a.d9≤b) then some ⟨b,a.a0⟩ else none
def a32 (vs:List m6) (n:Nat):List m6:=vs++List.replicate (n - vs.length) v0
def a0Z (a:A0) (b B3:Int) (e:l8):Option A0 :=
 bif p9 B3 0 39&&B8 e then (a0A a b).map fun x=>⟨x.d9,(a32 x.a0 (B3.toNat+1)).set B3.toNat ⟨b,e⟩⟩ else none
def P9:List m6→List m6→List m6
 | [],b=>b
 | a,[]=>a
 | x::a,y::b=>(bif decide (y.a7>x.a7) then y else x)::P9 a b
def a1Q (b who:Int):Int :=
 bif decide (b+1≤3000)&&(Int.tmod (b+1) 3==who) then b+1 else
 bif decide (b+2≤3000)&&(Int.tmod (b+2) 3==who) then b+2 else
 bif decide (b+3≤3000)&&(Int.tmod (b+3) 3==who) then b+3 else -1
def b7G (n:j4):j4:={ n with d7:=0,a7:=0,b5:=[],i4:=[],b9:=zE,a0:=[] }
def b3f (n:j4):j4:={ n with i6:=false,g7:=[],b8:=zE }
def a02 (l:List l8) (q:n5):Bool:=l.any (L5 q)
def b5u (id:Int):List Bool:=(List.replicate 3 false).set id.toNat true
def two (l:List Bool):Bool:=decide (2≤(l.filter (· == true)).length)
def a0G (id:Int) (m:l9):List l9:=(([0,1,2]:List Int).filter (· != id)).map fun t=>{ m with b5:=id,To:=t }
def a5L (m out:l9):l9:={ out with b5:=m.To,To:=m.b5 }
def a2B (n:j4) (b:Int):j4:=bif n.d7 != 0&&decide (b>n.a7) then b7G n else n
def a2u (known:List l8):List l8→List l8×Option l8
 | []=>([],none)
 | e::q=>bif a02 known e.a5 then a2u known q else (q,some e)
def a8L (n:j4):j4×Option l8 :=
 bif (n.i4.drop n.a6.length).any (fun v=>decide (v.a7>0)) then (n,some eN)
 else bif n.i6 && !a02 n.a6 n.b8.a5 then (n,some n.b8)
 else ({ n with b7:=(a2u n.a6 n.b7).1 },(a2u n.a6 n.b7).2)
def a4U (n:j4):j4×Option l8:=match n.i4[n.a6.length]? with
 | some v=>bif decide (v.a7>0) then (n,some v.g9) else a8L n
 | none=>a8L n
def b24 (x:j4) (e:l8):j4×List l9:=match a0Z x.Acc x.a7 (x.a6.length:Int) e with
 | some a=>({ x with Acc:=a,d7:=3,b9:=e,a0:=b5u x.Id },a0G x.Id ⟨3,0,0,x.a7,(x.a6.length:Int),e,[]⟩)
 | none=>(b7G x,[])
def a1T (n:j4):j4×List l9 :=
 bif n.d7 != 2||decide (40≤n.a6.length) then (n,[]) else match a4U n with
  | (x,some e)=>b24 x e
  | (x,none)=>(x,[])
def a2C (n:j4):j4×List n4 :=
 bif n.i6 then (match n.a6.findIdx? (L5 n.b8.a5) with
  | some k=>(b3f n,[⟨n.Id,n.b8.a5,a0Q n.a6 k,bif a0Q n.a6 k==0 then a37 n.a6 n.b8.a5 else 0⟩])
  | none=>(n,[]))
 else (n,[])
def a1E (n:j4) (e:l8):j4 :=
 bif n.d7==3 then { n with a6:=n.a6++[e],d7:=2,b9:=zE,a0:=[] } else { n with a6:=n.a6++[e] }
def a5z (n:j4) (e:l8):j4×List l9×List n4 :=
 ((a1T (a2C (a1E n e)).1).1,(a1T (a2C (a1E n e)).1).2,(a2C (a1E n e)).2)
def a8B (n:j4) (m:l9):j4×List l9:=match a0A n.Acc m.a7 with
 | some a=>(a2B { n with Acc:=a } m.a7,[a5L m ⟨2,0,0,m.a7,m.i5,zE,a.a0.drop m.i5.toNat⟩])
 | none=>(n,[a5L m ⟨6,0,0,n.Acc.d9,0,zE,[]⟩])
def a8z (n:j4) (m:l9):j4×List l9:=match a0Z n.Acc m.a7 m.i5 m.g9 with
 | some a=>(a2B { n with Acc:=a } m.a7,[a5L m ⟨4,0,0,m.a7,m.i5,zE,[]⟩])
 | none=>(n,[a5L m ⟨6,0,0,n.Acc.d9,0,zE,[]⟩])
def a9e (n:j4) (m:l9):j4×List l9 :=
 bif n.d7 != 1||m.a7 != n.a7 then (n,[]) else
 bif two (n.b5.set m.b5.toNat true) then
  a1T { n with b5:=[],i4:=P9 n.i4 (List.replicate m.i5.toNat v0++m.a0),d7:=2 }
 else ({ n with b5:=n.b5.set m.b5.toNat true,i4:=P9 n.i4 (List.replicate m.i5.toNat v0++m.a0) },[])
def b1y (n:j4) (m:l9):j4×List l9×List n4 :=
 bif n.d7 != 3||(m.a7 != n.a7||m.i5 != (n.a6.length:Int)) then (n,[],[]) else
 bif two (n.a0.set m.b5.toNat true) then
  ((a5z { n with a0:=n.a0.set m.b5.toNat true } n.b9).1,a0G n.Id ⟨5,0,0,0,(n.a6.length:Int),n.b9,[]⟩++(a5z { n with a0:=n.a0.set m.b5.toNat true } n.b9).2.1,(a5z { n with a0:=n.a0.set m.b5.toNat true } n.b9).2.2)
 else ({ n with a0:=n.a0.set m.b5.toNat true },[],[])
def b1I (n:j4) (m:l9):j4×List l9×List n4 :=
 bif decide (m.i5<(n.a6.length:Int)) then (n,[],[]) else
 bif decide (m.i5>(n.a6.length:Int)) then (n,[a5L m ⟨8,0,0,0,(n.a6.length:Int),zE,[]⟩],[])
 else a5z n m.g9
def a8N (n:j4) (m:l9):j4×List l9 :=
 bif n.d7==0||(decide (4≤n.b7.length)||a02 n.a6 m.g9.a5) then (n,[]) else a1T { n with b7:=n.b7++[m.g9] }
def a5f (n:j4) (m:l9) (s:Nat):List l9:=match n.a6[s]? with
 | some e=>[a5L m ⟨5,0,0,0,(s:Int),e,[]⟩]
 | none=>[]
def a8G (n:j4) (m:l9):List l9:=((List.range (n.a6.length - m.i5.toNat)).map fun j=>a5f n m (m.i5.toNat+j)).flatten
def a5g (n:j4) (m:l9):j4×List l9×List n4 :=
 bif m.c9==1 then ((a8B n m).1,(a8B n m).2,[]) else
 bif m.c9==2 then ((a9e n m).1,(a9e n m).2,[]) else
 bif m.c9==3 then ((a8z n m).1,(a8z n m).2,[]) else
 bif m.c9==4 then b1y n m else
 bif m.c9==5 then b1I n m else
 bif m.c9==6 then (a2B { n with Acc:=(a0A n.Acc m.a7).getD n.Acc } m.a7,[],[]) else
 bif m.c9==7 then ((a8N n m).1,(a8N n m).2,[]) else
 bif m.c9==8 then (n,a8G n m,[]) else (n,[],[])
def a16 (n:j4) (prog:List m7):j4×List l9 :=
 bif n.i6||(n.Seq==1000||(E9 (r9 n.a6).1.d8 prog).Code==3) then (n,[]) else
 bif n.d7==2 then a1T { n with Seq:=n.Seq+1,i6:=true,g7:=prog,b8:=⟨false,⟨n.Id,n.Seq+1⟩,E9 (r9 n.a6).1.d8 prog⟩ }
 else ({ n with Seq:=n.Seq+1,i6:=true,g7:=prog,b8:=⟨false,⟨n.Id,n.Seq+1⟩,E9 (r9 n.a6).1.d8 prog⟩ },
  bif n.d7==0 then a0G n.Id ⟨7,0,0,0,0,⟨false,⟨n.Id,n.Seq+1⟩,E9 (r9 n.a6).1.d8 prog⟩,[]⟩ else [])
def a6T (n:j4):j4×List l9 :=
 bif decide (a1Q n.Acc.d9 n.Id<0) then (n,[]) else
 ({ b7G n with Acc:=⟨a1Q n.Acc.d9 n.Id,n.Acc.a0⟩,d7:=1,a7:=a1Q n.Acc.d9 n.Id,b5:=b5u n.Id,i4:=n.Acc.a0 },
  a0G n.Id ⟨1,0,0,a1Q n.Acc.d9 n.Id,(n.a6.length:Int),zE,[]⟩)
def a6d (n:j4):j4×List l9 :=
 bif n.d7==1 then (n,a0G n.Id ⟨8,0,0,0,(n.a6.length:Int),zE,[]⟩++a0G n.Id ⟨1,0,0,n.a7,(n.a6.length:Int),zE,[]⟩) else
 bif n.d7==2 then ((a1T n).1,a0G n.Id ⟨8,0,0,0,(n.a6.length:Int),zE,[]⟩++(a1T n).2) else
 bif n.d7==3 then (n,a0G n.Id ⟨8,0,0,0,(n.a6.length:Int),zE,[]⟩++a0G n.Id ⟨3,0,0,n.a7,(n.a6.length:Int),n.b9,[]⟩) else
 bif n.i6 then (n,a0G n.Id ⟨8,0,0,0,(n.a6.length:Int),zE,[]⟩++a0G n.Id ⟨7,0,0,0,0,n.b8,[]⟩) else
 (n,a0G n.Id ⟨8,0,0,0,(n.a6.length:Int),zE,[]⟩)
def P4 (id:Int):j4:=⟨id,⟨0,[]⟩,[],0,0,0,[],[],zE,[],false,[],zE,[]⟩
def b3v (n:j4):j4:={ P4 n.Id with Acc:=n.Acc,a6:=n.a6,Seq:=n.Seq }
def a4a:l7:=⟨[P4 0,P4 1,P4 2],[],[],[]⟩
def a4y (w:l7) (l:List l9):l7:={ w with Net:=w.Net++l.take (40 - w.Net.length) }
def a9Z (w:l7) (l:List n4):l7:={ w with Told:=w.Told++l.take (60 - w.Told.length) }
def a30 (w:l7) (i:Int) (n:j4):l7:={ w with Nodes:=w.Nodes.set i.toNat n }
def a7b (w:l7) (i:Int):l7:={ w with Net:=w.Net.take i.toNat++w.Net.drop (i.toNat+1) }
def a1K (w:l7) (i:Int):j4:=w.Nodes.getD i.toNat (P4 0)
def b9s (w:l7) (i:Int) (prog:List m7):l7 :=
 bif decide (60≤w.Asked.length) then w else
 a4y (a30 (bif decide ((a16 (a1K w i) prog).1.Seq>(a1K w i).Seq) then { w with Asked:=w.Asked++[⟨(a16 (a1K w i) prog).1.b8.a5,prog⟩] } else w) i (a16 (a1K w i) prog).1) (a16 (a1K w i) prog).2
def b3q (w:l7) (e:n9):l7:=bif decide (0≤e.A) then (match w.Net[e.A.toNat]? with
 | some m=>bif e.c9==4 then a4y w [m] else bif e.c9==3 then a7b w e.A else
  a9Z (a4y (a30 (a7b w e.A) m.To (a5g (a1K w m.To) m).1) (a5g (a1K w m.To) m).2.1) (a5g (a1K w m.To) m).2.2
 | none=>w) else w
def M1 (w:l7) (e:n9):l7 :=
 bif e.c9==2||(e.c9==3||e.c9==4) then b3q w e else
 bif !p9 e.A 0 2 then w else
 bif e.c9==1 then b9s w e.A e.g7 else
 bif e.c9==5 then a4y (a30 w e.A (a6T (a1K w e.A)).1) (a6T (a1K w e.A)).2 else
 bif e.c9==6 then a4y (a30 w e.A (a6d (a1K w e.A)).1) (a6d (a1K w e.A)).2 else
 bif e.c9==7 then a30 w e.A (b3v (a1K w e.A)) else w
def a8I (w:l7) (l:List n9):l7:=l.foldl M1 w
theorem a1P:K6 0:=⟨by decide,by decide⟩
theorem a0M {α:Type} {b:Nat} {ok:α→Prop}:C3 b ok ([]:List α):=⟨by simp,fun x hx=>by cases hx⟩
theorem a2Y:G6 zE:=⟨⟨a1P,a1P⟩,a0M,a0M,a1P,a1P⟩
theorem d41:G6 eN:=⟨⟨a1P,a1P⟩,a0M,a0M,a1P,a1P⟩
theorem f3e:a0l v0:=⟨a1P,a2Y⟩
theorem a8X {α R B:Type} {body:List α×Int→Option (j3 R (List α×Int) B)} (l:List α) (hl:s9 l) (f:List α→B)
  (h1 : ∀ (k:Nat) (h:k<l.length),body (l.take k,(k:Int))=some (.nxt (l.take k++[l[k]],m9 ((k:Int)+1))))
  (h2:body (l,(l.length:Int))=some (.brk (f l))):o9 body ([],0)=some (.brk (f l)):=by
 have h:=a05 (body:=body) (fun k=>(l.take k,(k:Int))) l.length (by
  intro k hk
  rw [h1 k hk,J0 hl hk,List.take_succ_eq_append_getElem hk])
 rw [show ((0:Nat):Int)=0 from rfl,List.take_zero] at h
 rw [h,List.take_length]
 exact H3 h2
theorem b9Y {l:List m6} (h:C3 96 a0l l):a8H l=some l:=by
 have hf:s9 l:=h.fits (by decide)
 have hb:=h.1
 unfold a8H
 rw [a8X (body:=fun s:(List m6)×Int=>b2U l s.1 s.2) l hf (fun l=>l) (by
  intro k hk
  unfold b2U
  rw [x6 _ k hk,t8 hk]
  simp only [cond_true,Option.bind_some,a2q (h.2 _ (List.getElem_mem hk)).2]
  rw [x5 (by rw [List.length_take]; omega)]) (by
  unfold b2U
  rw [A4]; rfl)]
 rfl
theorem e99 {l:List m6} (h:C3 96 a0l l):b59 l=some (l,l):=by
 have hf:s9 l:=h.fits (by decide)
 have hb:=h.1
 unfold b59
 rw [a8X (body:=fun s:(List m6)×Int=>b40 l s.1 s.2) l hf (fun l=>l) (by
  intro k hk
  unfold b40
  rw [x6 _ k hk,t8 hk]
  simp only [cond_true,Option.bind_some,a2q (h.2 _ (List.getElem_mem hk)).2]
  rw [x5 (by rw [List.length_take]; omega)]) (by
  unfold b40
  rw [A4]; rfl)]
 rfl
theorem f0l {e:l8} (h:G6 e):c0e e=some e:=by
 have h1:=h.2.1.1
 have h2:=h.2.2.1.1
 unfold c0e c8b
 rw [x5 (by simp; omega),x5 (by simp; omega)]
 rfl
theorem e8r {l:List m6} (h:C3 96 a0l l):b78 l=some l:=by
 have hf:s9 l:=h.fits (by decide)
 have hb:=h.1
 unfold b78
 rw [a8X (body:=fun s:(List m6)×Int=>b4M l s.1 s.2) l hf (fun l=>l) (by
  intro k hk
  unfold b4M
  rw [x6 _ k hk,t8 hk]
  simp only [cond_true,Option.bind_some,f0l (h.2 _ (List.getElem_mem hk)).2]
  rw [x5 (by rw [List.length_take]; omega)]) (by
  unfold b4M
  rw [A4]; rfl)]
 rfl
theorem b8D {m:l9} (h:a3K m):a8c m=some m:=by
 unfold a8c
 rw [a2q h.2.2.2.2.2.1,Option.bind_some,b9Y h.2.2.2.2.2.2]
 rfl
theorem b20 {α:Type} {b:Nat} {ok:α→Prop} {l:List α} (h:C3 b ok l):(([]:List α).length+l.length) * b≤140737488355328:=by
 have:=h.1
 simp only [List.length_nil,Nat.zero_add]; omega
theorem b3N {n:j4} (h:P1 n):a68 n=some n:=by
 obtain ⟨h1,h2,h3,h4,h5,h6,h7,h8,h9,h10,h11,h12,h13⟩:=h
 unfold a68 c4O
 rw [b9Y h2.2,Option.bind_some,Option.bind_some,c4g h3,Option.bind_some,x5 (b20 h7),b9Y h8,Option.bind_some,a2q h9,Option.bind_some,x5 (b20 h10),x5 (b20 h11),a2q h12,Option.bind_some,c4g h13]
 rfl
theorem c7w {a:A0} {b:Int}:b0j a b=match a0A a b with | some _=>none | none=>some (a,false):=by
 unfold b0j a0A b5r
 rw [b0Z,Option.bind_some]
 cases p9 b 1 3000
 ·rfl
 ·by_cases h:b<a.d9
  ·simp [h,show ¬ a.d9≤b by omega]
  ·simp [h,show a.d9≤b by omega]
theorem c0P {a:A0} {b:Int}:a9F a b=some (match a0A a b with | some x=>(x,true) | none=>(a,false)):=by
 unfold a9F a0A b5r
 rw [b0Z,Option.bind_some]
 cases p9 b 1 3000
 ·rfl
 ·by_cases h:b<a.d9
  ·simp [h,show ¬ a.d9≤b by omega]
  ·simp [h,show a.d9≤b by omega]
theorem d5I {a:A0} {b s:Int} {e:l8} (he:G6 e):b2N a b s e=match a0Z a b s e with | some _=>none | none=>some (a,false):=by
 unfold b2N a0Z
 rw [a5r he.f,Option.bind_some,c7w]
 by_cases h1:s<0
 ·simp [h1,p9,show ¬ (0≤s∧s≤39) by omega]
 ·by_cases h2:s≥40
  ·simp [h1,h2,p9,show ¬ (0≤s∧s≤39) by omega]
  ·simp only [h1,h2,decide_false,cond_false,p9,show (0≤s∧s≤39) by omega,and_self,decide_true,Bool.true_and]
   cases B8 e
   ·rfl
   ·simp only [Bool.not_true,cond_false,cond_true]
    cases a0A a b<;>rfl
theorem d4c (B3:Nat) (hs:B3<40) : ∀ (m:Nat) (vs:List m6),B3+1 - vs.length=m→o9 (fun s:List m6=>a8w (B3:Int) s) vs=some (.brk (a32 vs (B3+1)))
 | 0,vs,h=>by
  refine H3 ?_
  unfold a8w a32
  rw [h,show decide ((vs.length:Int)≤(B3:Int))=false by simp; omega]
  simp
 | m+1,vs,h=>by
  have hb:a8w (B3:Int) vs=some (.nxt (vs++[v0])):=by
   unfold a8w
   rw [show decide ((vs.length:Int)≤(B3:Int))=true by simp; omega,cond_true,x5 (by omega)]
   rfl
  rw [O5 (body:=fun s:List m6=>a8w (B3:Int) s) hb,d4c B3 hs m (vs++[v0]) (by simp; omega)]
  congr 2
  unfold a32
  rw [h,List.length_append,show B3+1 - (vs.length+[v0].length)=m by simp; omega,List.append_assoc]
  rfl
theorem d19 (vs:List m6) (n:Nat):(a32 vs n).length=max vs.length n:=by
 unfold a32
 simp; omega
theorem d7b {a:A0} {b s:Int} {e:l8} (he:G6 e):b3K a b s e=some (match a0Z a b s e with | some x=>(x,true) | none=>(a,false)):=by
 unfold b3K a0Z
 rw [a5r he.f,Option.bind_some,c7w,c0P,Option.bind_some]
 by_cases h1:s<0
 ·simp [h1,p9,show ¬ (0≤s∧s≤39) by omega]
 ·by_cases h2:s≥40
  ·simp [h1,h2,p9,show ¬ (0≤s∧s≤39) by omega]
  ·simp only [h1,h2,decide_false,cond_false,p9,show (0≤s∧s≤39) by omega,and_self,decide_true,Bool.true_and]
   cases B8 e
   ·rfl
   ·simp only [Bool.not_true,cond_false,cond_true]
    cases a0A a b with
    | none=>rfl
    | some x =>
     obtain ⟨k,rfl⟩ : ∃ k:Nat,s=(k:Int):=⟨s.toNat,by omega⟩
     have hk:k<(a32 x.a0 (k+1)).length:=by rw [d19]; omega
     simp only [a5V,Bool.not_true,cond_false,d4c k (by omega) _ _ rfl,Option.bind_some,j8.go,c3O,a2q he,t8 hk,Option.map_some,Int.toNat_natCast]
theorem c0q {n:j4} {q:n5} (h:s9 n.a6):a8R n q=some (a02 n.a6 q):=by
  unfold a8R
  rw [show o9 (fun s:Int=>b01 n q s) 0=_ from b5m (body:=fun s:Int=>b01 n q s) n.a6 h (L5 q) (fun _=>true) () (by
      intro k hk
      unfold b01 c5p L5
      rw [x6 _ k hk,t8 hk]
      simp only [cond_true,Option.bind_some]
      cases n.a6[k].i0<;>cases (([n.a6[k].a5.c8,n.a6[k].a5.Seq]:List Int)==[q.c8,q.Seq])<;>rfl) (by
      unfold b01
      rw [A4]; rfl)]
  unfold a02
  cases hf:n.a6.find? (L5 q) with
  | none =>
    have:n.a6.any (L5 q)=false:=by
      rw [List.any_eq_false]; intro x hx; exact List.find?_eq_none.1 hf x hx
    rw [this]; rfl
  | some x =>
    have:n.a6.any (L5 q)=true:=List.any_eq_true.2 ⟨x,List.mem_of_find?_eq_some hf,List.find?_some hf⟩
    rw [this]; rfl
def a2A (id:Int) (m:l9) (o:List l9) (t:Int):List l9:=bif t != id then o++[{ m with b5:=id,To:=t }] else o
theorem d0F (id:Int) (m:l9) (o:List l9) (t:Int):(a2A id m o t).length≤o.length+1:=by
 unfold a2A; cases t != id<;>simp
theorem a6K {id:Int} (hid:0≤id∧id≤2) {m:l9} (h:a3K m):a4h id m=some (a0G id m):=by
 have e : ∀ (o:List l9) (t:Int),o.length≤3→0≤t→t<3→a6k id m o t=some (.nxt (a2A id m o t,t+1)):=by
  intro o t ho ht0 ht
  unfold a6k c4U a2A
  rw [show decide (t<3)=true by simpa using ht,cond_true,b8D h,Option.bind_some,x5 (by omega),E7 (by omega) (by omega)]
  cases t != id<;>rfl
 have l1:=d0F id m [] 0
 have l2:=d0F id m (a2A id m [] 0) (0+1)
 have h0:=O5 (body:=fun s:(List l9)×Int=>a6k id m s.1 s.2) (s:=([],0)) (e [] 0 (by simp) (by omega) (by omega))
 have h1:=O5 (body:=fun s:(List l9)×Int=>a6k id m s.1 s.2) (s:=(a2A id m [] 0,0+1)) (e (a2A id m [] 0) (0+1) (by simp at l1; omega) (by omega) (by omega))
 have h2:=O5 (body:=fun s:(List l9)×Int=>a6k id m s.1 s.2) (s:=(a2A id m (a2A id m [] 0) (0+1),0+1+1)) (e (a2A id m (a2A id m [] 0) (0+1)) (0+1+1) (by simp at l1; omega) (by omega) (by omega))
 have h3:=H3 (body:=fun s:(List l9)×Int=>a6k id m s.1 s.2) (s:=(a2A id m (a2A id m (a2A id m [] 0) (0+1)) (0+1+1),0+1+1+1)) (show a6k id m _ (0+1+1+1)=_ from rfl)
 unfold a4h
 rw [h0,h1,h2,h3]
 obtain rfl | rfl | rfl:id=0∨id=1∨id=2:=by omega
 all_goals rfl
theorem d50 : ∀ (l:List Bool) (hl:s9 l) (m k:Nat) (c:Int),k+m=l.length→0≤c→c≤k→o9 (fun s:Int×Int=>a6h l s.1 s.2) (c,(k:Int))=some (.brk (c+(((l.drop k).filter (· == true)).length:Int)))
 | l,hl,0,k,c,hk,h0,h1=>by
  have:k=l.length:=by omega
  subst this
  refine H3 ?_
  show a6h l c (l.length:Int)=_
  unfold a6h
  rw [A4]; simp
 | l,hl,m+1,k,c,hk,h0,h1=>by
  have hlt:k<l.length:=by omega
  have hfl:(l.length:Int)≤140737488351232:=by have:=hl; unfold s9 at this; omega
  have hb:a6h l c (k:Int)=some (.nxt (c+(bif l[k] then 1 else 0),((k+1:Nat):Int))):=by
   unfold a6h c1s
   rw [x6 _ k hlt,t8 hlt,cond_true,Option.bind_some,J0 hl hlt]
   cases l[k]<;>simp only [cond_true,cond_false,Option.bind_some]<;>rw [E7 (by omega) (by omega)]
  rw [O5 (body:=fun s:Int×Int=>a6h l s.1 s.2) hb,d50 l hl m (k+1) _ (by omega) (by cases l[k]<;>simp<;>omega) (by cases l[k]<;>simp<;>omega),List.drop_eq_getElem_cons hlt]
  cases l[k]<;>simp
  omega
theorem d3C {l:List Bool} (h:s9 l):b3F l=some (two l):=by
 unfold b3F
 rw [show o9 (fun s:Int×Int=>a6h l s.1 s.2) (0,0)=_ from d50 l h l.length 0 0 (by omega) (by omega) (by omega)]
 simp only [Option.bind_some,j8.go,c6E,two,List.drop_zero]
 congr 1
 simp
 omega
theorem e8O {l:List m6} {s:Int} (h:C3 96 a0l l) (hl:l.length≤40) (hs:0≤s∧s≤40):b65 l s=some (List.replicate s.toNat v0++l):=by
 unfold b65
 rw [x5 (by omega),b9Y h,Option.bind_some,x5 (by simp; omega)]
 rfl
theorem b9X : ∀ a b:List m6,(P9 a b).length=max a.length b.length
 | [],b=>by simp [P9]
 | x::a,[]=>by simp [P9]
 | x::a,y::b=>by simp only [P9,List.length_cons,b9X a b]; omega
theorem c7H : ∀ (a b:List m6) (k:Nat),(P9 a b)[k]?=match a[k]?,b[k]? with
  | some x,some y=>some (bif decide (y.a7>x.a7) then y else x)
  | some x,none=>some x
  | none,some y=>some y
  | none,none=>none
 | [],b,k=>by simp [P9]; cases b[k]?<;>rfl
 | x::a,[],k=>by simp [P9]; cases (x::a)[k]?<;>rfl
 | x::a,y::b,0=>by simp [P9]
 | x::a,y::b,k+1=>by simp only [P9,List.getElem?_cons_succ]; exact c7H a b k
theorem c9w {a b:List m6} {v:m6} (h:v∈P9 a b):v∈a∨v∈b:=by
 obtain ⟨k,hk⟩:=List.getElem?_of_mem h
 rw [c7H] at hk
 cases ha:a[k]? with
 | none =>
  cases hb:b[k]? with
  | none=>rw [ha,hb] at hk; cases hk
  | some y=>rw [ha,hb] at hk; injection hk with hk; subst hk; exact .inr (List.mem_of_getElem? hb)
 | some x =>
  cases hb:b[k]? with
  | none=>rw [ha,hb] at hk; injection hk with hk; subst hk; exact .inl (List.mem_of_getElem? ha)
  | some y =>
   rw [ha,hb] at hk
   simp only at hk
   cases hd:decide (y.a7>x.a7)
   ·rw [hd] at hk; injection hk with hk; subst hk; exact .inl (List.mem_of_getElem? ha)
   ·rw [hd] at hk; injection hk with hk; subst hk; exact .inr (List.mem_of_getElem? hb)
theorem f4S {a b:List m6} (ha:C3 96 a0l a) (hb:C3 96 a0l b) (hla:a.length≤80) (hlb:b.length≤80) (hz : ∀ v∈b,v.a7≤0→v=v0):b75 a b=some (P9 a b):=by
 have hlen:=b9X a b
 unfold b75
 rw [a8X (body:=fun s:(List m6)×Int=>a7d a b s.1 s.2) (P9 a b) (by unfold s9; omega) (fun l=>l) (by
  intro k hk
  have hget:=c7H a b k
  rw [List.getElem?_eq_getElem hk] at hget
  have hent : ∀ v,v∈a∨v∈b→G6 v.g9:=fun v hv=>hv.elim (fun q=>(ha.2 v q).2) (fun q=>(hb.2 v q).2)
  have hj1 : ∀ v:m6,G6 v.g9→b6j ((P9 a b).take k) (k:Int) v=some (.nxt ((P9 a b).take k++[v],m9 ((k:Int)+1))):=by
   intro v hv
   unfold b6j
   rw [a2q hv,Option.bind_some,x5 (by rw [List.length_take]; omega)]
  show a7d a b ((P9 a b).take k) (k:Int)=_
  have hkk:k<a.length∨k<b.length:=by omega
  have hstart:a7d a b ((P9 a b).take k) (k:Int)=b7m a b ((P9 a b).take k) (k:Int):=by
   unfold a7d
   by_cases h1:k<a.length
   ·rw [x6 _ k h1]; rfl
   ·rw [show decide ((k:Int)<(a.length:Int))=false by simp; omega,x6 _ k (by omega)]; rfl
  rw [hstart]
  unfold b7m
  by_cases h1:k<a.length
  ·rw [x6 _ k h1,t8 h1]
   simp only [cond_true,Option.bind_some,j8.go]
   unfold b7d
   rw [List.getElem?_eq_getElem h1] at hget
   by_cases h2:k<b.length
   ·rw [x6 _ k h2,t8 h2]
    rw [List.getElem?_eq_getElem h2] at hget
    simp only [cond_true,Option.bind_some]
    injection hget with hget
    rw [hget]
    cases decide (b[k].a7>a[k].a7)
    ·simp only [cond_false,Option.bind_some,j8.go]
     exact hj1 _ (hent _ (.inl (List.getElem_mem h1)))
    ·simp only [cond_true,Option.bind_some,j8.go]
     exact hj1 _ (hent _ (.inr (List.getElem_mem h2)))
   ·rw [show decide ((k:Int)<(b.length:Int))=false by simp; omega]
    rw [List.getElem?_eq_none (by omega)] at hget
    injection hget with hget
    rw [hget]
    simp only [cond_false,Option.bind_some,j8.go]
    exact hj1 _ (hent _ (.inl (List.getElem_mem h1)))
  ·have h2:k<b.length:=by omega
   rw [show decide ((k:Int)<(a.length:Int))=false by simp; omega]
   simp only [cond_false,Option.bind_some,j8.go]
   unfold b7d
   rw [x6 _ k h2,t8 h2]
   rw [List.getElem?_eq_none (by omega),List.getElem?_eq_getElem h2] at hget
   injection hget with hget
   rw [hget]
   simp only [cond_true,Option.bind_some]
   by_cases h3:b[k].a7>0
   ·rw [show decide (b[k].a7>0)=true by simpa using h3]
    simp only [cond_true,Option.bind_some,j8.go]
    exact hj1 _ (hent _ (.inr (List.getElem_mem h2)))
   ·have hv:=hz _ (List.getElem_mem h2) (by omega)
    rw [show decide (b[k].a7>0)=false by simpa using h3]
    simp only [cond_false,Option.bind_some,j8.go]
    rw [hv]
    exact hj1 v0 a2Y) (by
  show a7d a b (P9 a b) ((P9 a b).length:Int)=_
  unfold a7d
  rw [show decide (((P9 a b).length:Int)<(a.length:Int))=false by simp; omega,show decide (((P9 a b).length:Int)<(b.length:Int))=false by simp; omega]
  rfl)]
 rfl
theorem e9D {b who:Int} (hb:0≤b∧b≤3000) (hw:0≤who∧who≤2):c0k b who=some (a1Q b who):=by
 have e : ∀ i:Int,1≤i→i≤3→a48 b who (b+i)=some (bif decide (b+i≤3000) then (bif Int.tmod (b+i) 3==who then .ret (b+i) else .nxt (b+(i+1))) else .brk ()):=by
  intro i h1 h3
  unfold a48
  rw [E7 (by omega) (by omega),show decide (b+i≤b+3)=true by simp; omega,cond_true,E7 (by omega) (by omega),Int.add_assoc]
  cases decide (b+i≤3000)
  ·rfl
  ·cases Int.tmod (b+i) 3==who<;>rfl
 have e4:a48 b who (b+4)=some (.brk ()):=by
  unfold a48
  rw [E7 (by omega) (by omega),show decide (b+4≤b+3)=false by simp]
  rfl
 have e1:=e 1 (by omega) (by omega)
 have e2:=e 2 (by omega) (by omega)
 have e3:=e 3 (by omega) (by omega)
 unfold c0k a1Q
 rw [show decide (b<0)=false by simp; omega,show decide (b>3000)=false by simp; omega,show decide (who<0)=false by simp; omega,show decide (who≥3)=false by simp; omega,E7 (by omega) (by omega)]
 simp only [cond_false]
 have hb4:o9 (fun s:Int=>a48 b who s) (b+4)=some (.brk ()):=H3 e4
 have h3:o9 (fun s:Int=>a48 b who s) (b+3)=some (bif decide (b+3≤3000)&&(Int.tmod (b+3) 3==who) then .ret (b+3) else .brk ()):=by
  cases q:decide (b+3≤3000)
  ·rw [q] at e3; exact H3 e3
  ·rw [q] at e3
   cases t:Int.tmod (b+3) 3==who
   ·rw [t] at e3; rw [O5 e3]; exact hb4
   ·rw [t] at e3; exact a2J e3
 have h2:o9 (fun s:Int=>a48 b who s) (b+2)=some (bif decide (b+2≤3000)&&(Int.tmod (b+2) 3==who) then .ret (b+2) else bif decide (b+3≤3000)&&(Int.tmod (b+3) 3==who) then .ret (b+3) else .brk ()):=by
  cases q:decide (b+2≤3000)
  ·rw [q] at e2
   rw [show decide (b+3≤3000)=false by simp at q ⊢; omega]
   exact H3 e2
  ·rw [q] at e2
   cases t:Int.tmod (b+2) 3==who
   ·rw [t] at e2; rw [O5 e2]; exact h3
   ·rw [t] at e2; exact a2J e2
 have h1:o9 (fun s:Int=>a48 b who s) (b+1)=some (bif decide (b+1≤3000)&&(Int.tmod (b+1) 3==who) then .ret (b+1) else bif decide (b+2≤3000)&&(Int.tmod (b+2) 3==who) then .ret (b+2) else bif decide (b+3≤3000)&&(Int.tmod (b+3) 3==who) then .ret (b+3) else .brk ()):=by
  cases q:decide (b+1≤3000)
  ·rw [q] at e1
   rw [show decide (b+2≤3000)=false by simp at q ⊢; omega,show decide (b+3≤3000)=false by simp at q ⊢; omega]
   exact H3 e1
  ·rw [q] at e1
   cases t:Int.tmod (b+1) 3==who
   ·rw [t] at e1; rw [O5 e1]; exact h2
   ·rw [t] at e1; exact a2J e1
 rw [h1]
 cases decide (b+1≤3000)&&(Int.tmod (b+1) 3==who)<;>cases decide (b+2≤3000)&&(Int.tmod (b+2) 3==who)<;>cases decide (b+3≤3000)&&(Int.tmod (b+3) 3==who)<;>rfl
theorem B6 {n:Int} (h : -1000000000≤n∧n≤1000000000):K6 n:=⟨by omega,by omega⟩
theorem a2Z {α:Type} {b:Nat} {ok:α→Prop} {l:List α} (hl:l.length * b≤1000000000) (h : ∀ x∈l,ok x):C3 b ok l:=⟨by omega,h⟩
theorem e61 {α:Type} {b:Nat} {ok:α→Prop} {l l':List α} (h:C3 b ok l) (hl:l'.length≤l.length) (hs : ∀ x∈l',x∈l):C3 b ok l' :=
 ⟨Nat.le_trans (Nat.mul_le_mul_right _ hl) h.1,fun x hx=>h.2 x (hs x hx)⟩
theorem e7Q {l:List l8} {q:n5}:a02 l q=(l.findIdx? (L5 q)).isSome:=by
 unfold a02
 cases h:l.findIdx? (L5 q) with
 | none =>
  rw [List.findIdx?_eq_none_iff] at h
  rw [Option.isSome_none,List.any_eq_false]
  intro x hx; rw [h x hx]; simp
 | some k =>
  rw [List.findIdx?_eq_some_iff_getElem] at h
  obtain ⟨hk,h1,_⟩:=h
  rw [Option.isSome_some]
  exact List.any_eq_true.2 ⟨l[k],List.getElem_mem hk,h1⟩
theorem e2X {n:j4} (h:C3 88 G6 n.a6) (hok:L0 n.a6=true):b8Z n=some (a2C n):=by
 obtain ⟨hl,he⟩:=a2V hok
 have hf:s9 n.a6:=h.fits (by decide)
 unfold b8Z a2C
 rw [c0q hf,Option.bind_some,e7Q]
 cases n.i6
 ·rfl
 simp only [Bool.not_true,cond_false,cond_true]
 cases hfi:n.a6.findIdx? (L5 n.b8.a5) with
 | none=>rfl
 | some kk =>
 simp only [Option.isSome_some,Bool.not_true,cond_false,b6B,Option.bind_some]
 have:=b0L (body:=fun s:(List m4)×Int×Int×List n6=>b07 n s.1 s.2.1 s.2.2.1 s.2.2.2) (fun k=>((r9 (n.a6.take k)).1.d8,(k:Int),(r9 (n.a6.take k)).1.At,(r9 (n.a6.take k)).1.g8)) n.a6 (L5 n.b8.a5) (fun k=>(b3f n,[⟨n.Id,n.b8.a5,a0Q n.a6 k,bif a0Q n.a6 k==0 then (match n.a6[k]? with | some e=>e.b6.d6 | none=>0) else 0⟩])) () (by
   intro k hk
   obtain ⟨h1,h2,h3⟩:=a1X hl he k (by omega)
   unfold b07 c5b L5 a0Q
   rw [x6 _ k hk,t8 hk,c2q hl he hk,a4S hk,← J0 hf hk,List.getElem?_eq_getElem hk]
   simp only [cond_true,Option.bind_some]
   rw [show (⟨(r9 (n.a6.take k)).1.At,(r9 (n.a6.take k)).1.d8,(r9 (n.a6.take k)).1.g8⟩:q7)=(r9 (n.a6.take k)).1 from rfl,b7g h1 (by omega) (List.all_eq_true.1 he _ (List.getElem_mem hk)) (h.2 _ (List.getElem_mem hk)).f,Option.bind_some]
   cases n.a6[k].i0<;>cases (([n.a6[k].a5.c8,n.a6[k].a5.Seq]:List Int)==[n.b8.a5.c8,n.b8.a5.Seq])<;>first | rfl | skip
   simp only [cond_false,Bool.not_true,Bool.not_false,Bool.true_and,cond_true,Option.getD_some]
   cases ((apply (r9 (n.a6.take k)).1 n.a6[k]).2==0)<;>rfl) (by
   unfold b07
   rw [A4]; rfl)
 rw [List.take_zero,hfi] at this
 rw [show o9 (fun s:(List m4)×Int×Int×List n6=>b07 n s.1 s.2.1 s.2.2.1 s.2.2.2) (W1.d8,0,W1.At,W1.g8)=_ from this]
 simp only [Option.bind_some,j8.go,a37,hfi]
 all_goals rfl
theorem f05 {l:List m6} (hf:s9 l) (k:Nat):b61 l (k:Int)=some ((l.drop k).any fun v=>decide (v.a7>0)):=by
 have key : ∀ (m k:Nat),l.length - k=m→o9 (fun s:Int=>a8j l s) (k:Int)=some (bif (l.drop k).any (fun v=>decide (v.a7>0)) then .ret true else .brk ()):=by
  intro m
  induction m with
  | zero =>
   intro k hk
   rw [List.drop_eq_nil_of_le (by omega)]
   refine H3 ?_
   unfold a8j
   rw [show decide ((k:Int)<(l.length:Int))=false by simp; omega]
   rfl
  | succ m ih =>
   intro k hk
   have hlt:k<l.length:=by omega
   rw [List.drop_eq_getElem_cons hlt,List.any_cons]
   cases hd:decide (l[k].a7>0)
   ·rw [O5 (body:=fun s:Int=>a8j l s) (t:=((k+1:Nat):Int)) (by
     unfold a8j
     rw [x6 _ k hlt,t8 hlt,cond_true,Option.bind_some,hd,J0 hf hlt]; rfl),ih (k+1) (by omega),Bool.false_or]
   ·refine a2J ?_
    unfold a8j
    rw [x6 _ k hlt,t8 hlt,cond_true,Option.bind_some,hd]; rfl
 unfold b61
 rw [key _ k rfl]
 cases (l.drop k).any fun v=>decide (v.a7>0)<;>rfl
theorem d14 (n:j4) (hk:s9 n.a6) : ∀ (q:List l8),C3 88 G6 q→o9 (fun s:List l8=>b0I n s) q=some (match a2u n.a6 q with
  | (q',some e)=>.ret ({ n with b7:=q' },e,true)
  | (q',none)=>.brk q')
 | [],h=>H3 rfl
 | e::q,h=>by
  have hb:=h.1
  rw [List.length_cons,Nat.succ_mul] at hb
  have h':C3 88 G6 q:=⟨by omega,fun x hx=>h.2 x (List.mem_cons_of_mem _ hx)⟩
  have ht:(([]:List l8)++((e::q).drop (0+(1:Int).toNat)).take ((e::q).length - (1:Int).toNat))=q:=by
   simp
  have hs:b0I n (e::q)=some (bif a02 n.a6 e.a5 then .nxt q else .ret ({ n with b7:=q },e,true)):=by
   unfold b0I
   rw [show decide (((e::q).length:Int)>0)=true by simp,cond_true,show idx (e::q) 0=some e from rfl,Option.bind_some,x5 (by simp; omega),x5 (by simp; omega),ht,c0q (n:={ n with b7:=q }) hk,Option.bind_some]
   cases a02 n.a6 e.a5<;>rfl
  unfold a2u
  cases hd:a02 n.a6 e.a5
  ·rw [hd] at hs; exact a2J hs
  ·rw [hd] at hs
   rw [O5 (body:=fun s:List l8=>b0I n s) hs]
   exact d14 n hk q h'
def b72 (x:j4×Option l8):j4×l8×Bool:=match x with
 | (n,some e)=>(n,e,true)
 | (n,none)=>(n,zE,false)
theorem e9x {n:j4} (h:P1 n):b7s n=some (b72 (a4U n)):=by
 obtain ⟨h1,h2,h3,h4,h5,h6,h7,h8,h9,h10,h11,h12,h13⟩:=h
 have hk:s9 n.a6:=h3.fits (by decide)
 have j1:b8X n=some (b72 ({ n with b7:=(a2u n.a6 n.b7).1 },(a2u n.a6 n.b7).2)):=by
  unfold b8X
  rw [d14 n hk _ h13]
  obtain ⟨q,o⟩:=a2u n.a6 n.b7
  cases o<;>rfl
 have j2:c0W n=some (b72 (a8L n)):=by
  unfold c0W a8L
  rw [f05 (h8.fits (by decide)),Option.bind_some,c0q hk,a2q h12]
  generalize (({ n with b7:=(a2u n.a6 n.b7).1 },(a2u n.a6 n.b7).2):j4×Option l8)=X at j1 ⊢
  cases (n.i4.drop n.a6.length).any fun v=>decide (v.a7>0)
  ·simp only [cond_false]
   cases n.i6
   ·exact j1
   ·cases a02 n.a6 n.b8.a5
    ·rfl
    ·exact j1
  ·rfl
 unfold b7s a4U
 by_cases hl:n.a6.length<n.i4.length
 ·rw [x6 _ _ hl,t8 hl,List.getElem?_eq_getElem hl]
  simp only [cond_true,Option.bind_some]
  cases decide (n.i4[n.a6.length].a7>0)
  ·exact j2
  ·simp only [cond_true,a2q (h8.2 _ (List.getElem_mem hl)).2,Option.bind_some,j8.go]
   rfl
 ·rw [show decide ((n.a6.length:Int)<(n.i4.length:Int))=false by simp; omega,List.getElem?_eq_none (by omega)]
  exact j2
theorem d4K (known:List l8) : ∀ (q:List l8),(a2u known q).1.length≤q.length∧(∀ x∈(a2u known q).1,x∈q) ∧ ∀ e,(a2u known q).2=some e→e∈q∧a02 known e.a5=false∧(a2u known q).1.length<q.length
 | []=>⟨Nat.le_refl _,fun x hx=>hx,fun e he=>by cases he⟩
 | e::q=>by
  unfold a2u
  cases hk:a02 known e.a5
  ·refine ⟨by simp,fun x hx=>by simpa using .inr hx,fun e' he => ?_⟩
   injection he with he
   subst he
   exact ⟨by simp,hk,by simp⟩
  ·obtain ⟨a,b,c⟩:=d4K known q
   refine ⟨by simp only [cond_true,List.length_cons]; omega,fun x hx=>List.mem_cons_of_mem _ (b x hx),fun e' he => ?_⟩
   obtain ⟨x,y,z⟩:=c e' he
   exact ⟨List.mem_cons_of_mem _ x,y,by simp only [cond_true,List.length_cons]; omega⟩
inductive a4P (n:j4):l8→Prop
 | best (v) (h:n.i4[n.a6.length]?=some v) (hb:v.a7>0):a4P n v.g9
 | gap (v) (h:v∈n.i4.drop n.a6.length) (hb:v.a7>0) (hn : ∀ v,n.i4[n.a6.length]?=some v → ¬ v.a7>0):a4P n eN
 | want (h:n.i6=true) (hk:a02 n.a6 n.b8.a5=false) (hn : ∀ v∈n.i4.drop n.a6.length,¬ v.a7>0):a4P n n.b8
 | queue (e) (h:e∈n.b7) (hk:a02 n.a6 e.a5=false) (hn : ∀ v∈n.i4.drop n.a6.length,¬ v.a7>0):a4P n e
theorem c7p (n:j4) : ∃ q:List l8,(a4U n).1={ n with b7:=q }∧q.length≤n.b7.length∧(∀ x∈q,x∈n.b7) ∧ ∀ e,(a4U n).2=some e→a4P n e:=by
 have rest:(∀ v,n.i4[n.a6.length]?=some v → ¬ v.a7>0) → ∃ q:List l8,(a8L n).1={ n with b7:=q }∧q.length≤n.b7.length∧(∀ x∈q,x∈n.b7) ∧ ∀ e,(a8L n).2=some e→a4P n e:=by
  intro hn
  unfold a8L
  cases ha:(n.i4.drop n.a6.length).any fun v=>decide (v.a7>0)
  ·have hnv : ∀ v∈n.i4.drop n.a6.length,¬ v.a7>0:=fun v hv=>by simpa using List.any_eq_false.1 ha v hv
   cases hb:n.i6 && !a02 n.a6 n.b8.a5
   ·obtain ⟨a,b,c⟩:=d4K n.a6 n.b7
    exact ⟨_,rfl,a,b,fun e he=>.queue e (c e he).1 (c e he).2.1 hnv⟩
   ·simp only [Bool.and_eq_true,Bool.not_eq_true'] at hb
    refine ⟨n.b7,rfl,Nat.le_refl _,fun _ h=>h,fun e he => ?_⟩
    injection he with he; subst he
    exact .want hb.1 hb.2 hnv
  ·obtain ⟨v,hv,hb⟩:=List.any_eq_true.1 ha
   refine ⟨n.b7,rfl,Nat.le_refl _,fun _ h=>h,fun e he => ?_⟩
   injection he with he; subst he
   exact .gap v hv (by simpa using hb) hn
 unfold a4U
 cases hg:n.i4[n.a6.length]? with
 | none=>exact rest (by rw [hg]; simp)
 | some v =>
  simp only
  cases hb:decide (v.a7>0)
  ·exact rest (by rw [hg]; intro w hw; injection hw with hw; subst hw; simpa using hb)
  ·refine ⟨n.b7,rfl,Nat.le_refl _,fun _ h=>h,fun e he => ?_⟩
   injection he with he; subst he
   exact .best v hg (by simpa using hb)
theorem a4P.ok {n:j4} (h:P1 n) {e:l8} (hn:a4P n e):G6 e:=by
 cases hn with
 | best v hv hb=>exact (h.2.2.2.2.2.2.2.1.2 v (List.mem_of_getElem? hv)).2
 | gap=>exact d41
 | want=>exact h.2.2.2.2.2.2.2.2.2.2.2.1
 | queue e hq=>exact h.2.2.2.2.2.2.2.2.2.2.2.2.2 e hq
theorem a9r {k b s:Int} {e:l8} {vs:List m6} (hk:K6 k) (hb:K6 b) (hs:K6 s) (he:G6 e) (hv:C3 96 a0l vs):a3K ⟨k,0,0,b,s,e,vs⟩:=⟨hk,a1P,a1P,hb,hs,he,hv⟩
theorem d4O {id:Int} (h:0≤id∧id≤2) : ∃ y,idx (List.replicate (3:Int).toNat false) id=some y:=by
 obtain rfl | rfl | rfl:id=0∨id=1∨id=2:=by omega
 all_goals exact ⟨false,rfl⟩
theorem b3d {n:j4} (h:P1 n) (hid:0≤n.Id∧n.Id≤2):a67 n=some (a1T n):=by
 unfold a67 a1T
 rw [show decide ((n.a6.length:Int)≥40)=decide (40≤n.a6.length) by simp; omega]
 cases n.d7 != 2
 ·simp only [cond_false,Bool.false_or]
  cases hlt:decide (40≤n.a6.length)
  ·simp only [cond_false,e9x h,Option.bind_some]
   obtain ⟨q,hq,hql,hqm,hqe⟩:=c7p n
   cases hx:a4U n with
   | mk x o =>
   rw [hx] at hq hqe
   have hq:x={ n with b7:=q }:=hq
   cases o with
   | none=>rfl
   | some e =>
    have he:=(hqe e rfl).ok h
    have hlen:n.a6.length<40:=by simpa using hlt
    subst hq
    simp only [b72,Bool.not_true,cond_false,d5I he,d7b he,b24]
    cases a0Z n.Acc n.a7 (n.a6.length:Int) e with
    | none=>rfl
    | some a =>
     obtain ⟨y,hy⟩:=d4O hid
     simp only [a5V,Option.bind_some,Bool.not_true,cond_false,a2q he,hy]
     rw [x5 (by omega),a6K hid (a9r (B6 (by omega)) h.2.2.2.2.2.1 (B6 (by omega)) he a0M)]
     rfl
  ·rfl
 ·rfl
theorem f1X {n:j4} (h:P1 n):P1 (b3f n):=by
 obtain ⟨h1,h2,h3,h4,h5,h6,h7,h8,h9,h10,h11,h12,h13⟩:=h
 exact ⟨h1,h2,h3,h4,h5,h6,h7,h8,h9,h10,a0M,a2Y,h13⟩
theorem e7u {n:j4} (h:P1 n) {e:l8} (he:G6 e) (hl:n.a6.length≤40):P1 (a1E n e):=by
 obtain ⟨h1,h2,h3,h4,h5,h6,h7,h8,h9,h10,h11,h12,h13⟩:=h
 have hk:C3 88 G6 (n.a6++[e]):=a2Z (by simp; omega) (by
  intro x hx
  rcases List.mem_append.1 hx with q | q
  ·exact h3.2 x q
  ·rw [List.mem_singleton.1 q]; exact he)
 unfold a1E
 cases n.d7==3
 ·exact ⟨h1,h2,hk,h4,h5,h6,h7,h8,h9,h10,h11,h12,h13⟩
 ·exact ⟨h1,h2,hk,h4,B6 (n:=2) (by omega),h6,h7,h8,a2Y,a0M,h11,h12,h13⟩
theorem b98 (n:j4):(a2C n=(n,[])) ∨ ∃ k,n.i6=true∧n.a6.findIdx? (L5 n.b8.a5)=some k∧a2C n=(b3f n,[⟨n.Id,n.b8.a5,a0Q n.a6 k,bif a0Q n.a6 k==0 then a37 n.a6 n.b8.a5 else 0⟩]):=by
 unfold a2C
 cases n.i6
 ·exact .inl rfl
 ·cases h:n.a6.findIdx? (L5 n.b8.a5) with
  | none=>exact .inl rfl
  | some k=>exact .inr ⟨k,rfl,rfl,rfl⟩
theorem f3p {n:j4} (h:P1 n):P1 (a2C n).1:=by
 rcases b98 n with q | ⟨k,_,_,q⟩<;>rw [q]
 ·exact h
 ·exact f1X h
theorem c9N (n:j4):(a2C n).1.Id=n.Id:=by
 rcases b98 n with q | ⟨k,_,_,q⟩<;>rw [q]; rfl
theorem d7z (n:j4) (e:l8):(a1E n e).Id=n.Id:=by
 unfold a1E; cases n.d7==3<;>rfl
theorem e7F (n:j4) (e:l8):(a1E n e).a6=n.a6++[e]:=by
 unfold a1E; cases n.d7==3<;>rfl
theorem d28 {n:j4} (h:P1 n) (hid:0≤n.Id∧n.Id≤2) (hk:L0 n.a6=true) (hl:n.a6.length<40) {e:l8} (he:G6 e) (hok:B8 e=true):b3i n e=some (a5z n e):=by
 have hkn:=e7u h he (by omega)
 have hko:L0 (a1E n e).a6=true:=by
  rw [e7F]
  obtain ⟨a,b⟩:=a2V hk
  unfold L0
  simp only [List.length_append,List.length_singleton,List.all_append,List.all_cons,List.all_nil,b,hok,Bool.and_true,Bool.and_self,decide_eq_true_eq]
  omega
 have hj : ∀ (p:Int) (c:l8) (vs:List Bool),(⟨n.Id,n.Acc,n.a6++[e],n.Seq,p,n.a7,n.b5,n.i4,c,vs,n.i6,n.g7,n.b8,n.b7⟩:j4)=a1E n e→b9M n e vs c.a5.c8 c.a5.Seq c.b6.a8 c.b6.a9 c.b6.d6 c.b6.Code p c.i0=some (a5z n e):=by
  intro p c vs hq
  unfold b9M
  rw [show (j4.mk n.Id n.Acc (n.a6++[e]) n.Seq p n.a7 n.b5 n.i4 (l8.mk c.i0 (n5.mk c.a5.c8 c.a5.Seq) (m8.mk c.b6.a8 c.b6.a9 c.b6.d6 c.b6.Code)) vs n.i6 n.g7 n.b8 n.b7)=a1E n e from hq,e2X hkn.2.2.1 hko,Option.bind_some,b3d (f3p hkn) (by rw [c9N,d7z]; exact hid),Option.bind_some]
  rfl
 unfold b3i
 rw [a2q he,Option.bind_some,x5 (by omega)]
 cases hp:n.d7==3
 ·exact hj n.d7 n.b9 n.a0 (by unfold a1E; rw [hp]; rfl)
 ·exact hj 2 zE [] (by unfold a1E; rw [hp]; rfl)
theorem e96 {r:m8} (h:a0y r=true):r.a8.length≤4:=by
 have h0:a9A r.a8=true:=by
  rw [b04] at h
  simp only [Bool.and_eq_true] at h
  exact h.2.2.2.2.1
 obtain ⟨h1,h2⟩:=d5w.1 h0
 let ps:List n3:=r.a8.map fun x=>⟨x.f0,0⟩
 have hp : ∀ p∈ps,a3X p:=by
  intro p hp
  obtain ⟨x,hx,rfl⟩:=List.mem_map.1 hp
  exact ⟨(h1 x hx).1,(h1 x hx).2.1,by simp,by simp⟩
 have hpw:ps.Pairwise fun p q=>p.f0≠q.f0:=List.pairwise_map.2 h2
 have hl:=c10 hp
 have a:=a72 hpw 0
 have b:=a72 hpw 1
 have c:=a72 hpw 2
 have d:=a72 hpw 3
 have:ps.length=r.a8.length:=List.length_map ..
 omega
theorem e46 {r:m8} (h:a5K r ⟨[],[],0,0⟩=true):r=⟨[],[],0,0⟩:=(d5r _ _).1 h
theorem f3I {e:l8} (h:B8 e=true) (hn:e.i0=true):e=eN:=by
 unfold B8 at h
 rw [hn] at h
 simp only [cond_true,Bool.and_eq_true,beq_iff_eq,List.cons.injEq,and_true] at h
 obtain ⟨⟨h1,h2⟩,h3⟩:=h
 have h4:=e46 h3
 clear h3
 obtain ⟨n,⟨a,b⟩,r⟩:=e
 simp only at hn h1 h2 h4
 subst hn h1 h2 h4
 rfl
theorem e5h {r:m8} (h:a0y r=true):b6R r:=by
 obtain ⟨h1,h2,_,h4,h5⟩:=a8A h
 have r4:=e96 h
 have p4:=e55 h
 exact ⟨a2Z (by omega) fun x hx=>by have:=h4 x hx; exact ⟨B6 (by omega),B6 (by omega)⟩,
  a2Z (by omega) fun x hx=>by have:=h5 x hx; exact ⟨B6 (by omega),B6 (by omega)⟩,B6 (by omega),B6 (by omega)⟩
theorem a4t {e:l8} (h:B8 e=true):G6 e:=by
 cases hn:e.i0 with
 | true=>rw [f3I h hn]; exact d41
 | false =>
  obtain ⟨h1,h2,h3,_⟩:=b1i h hn
  exact ⟨⟨B6 (by omega),B6 (by omega)⟩,e5h h3⟩
theorem d4G {l:List l8} (hl:l.length≤1000) (h : ∀ e∈l,B8 e=true):C3 88 G6 l:=a2Z (by omega) fun e he=>a4t (h e he)
def VI (v:m6):Prop:=v=v0∨(1≤v.a7∧v.a7≤3000∧B8 v.g9=true)
theorem e7h {v:m6}:a1w v=true↔VI v:=by
 unfold a1w VI
 by_cases hb:v.a7=0
 ·simp only [hb,beq_self_eq_true,cond_true,a3G]
  constructor
  ·intro h; left; obtain ⟨b,e⟩:=v; simp only at hb h; subst hb h; rfl
  ·rintro (h | h)
   ·rw [h]; rfl
   ·omega
 ·have:(v.a7==0)=false:=by simpa using hb
  simp only [this,cond_false,Bool.and_eq_true,W5]
  constructor
  ·intro h; exact .inr ⟨h.1.1,h.1.2,h.2⟩
  ·rintro (h | h)
   ·rw [h] at hb; exact absurd rfl hb
   ·exact ⟨⟨h.1,h.2.1⟩,h.2.2⟩
theorem VI.ok {v:m6} (h:VI v):a0l v:=by
 rcases h with rfl | ⟨h1,h2,h3⟩
 ·exact f3e
 ·exact ⟨B6 (by omega),a4t h3⟩
theorem VI.bal {v:m6} (h:VI v):0≤v.a7∧v.a7≤3000:=by
 rcases h with rfl | ⟨h1,h2,h3⟩
 ·exact ⟨by decide,by decide⟩
 ·exact ⟨by omega,h2⟩
theorem VI.zero {v:m6} (h:VI v) (hb:v.a7≤0):v=v0:=by
 rcases h with rfl | ⟨h1,_⟩
 ·rfl
 ·omega
theorem VI.pos {v:m6} (h:VI v) (hb:v.a7>0):B8 v.g9=true:=by
 rcases h with rfl | ⟨_,_,h⟩
 ·exact absurd hb (by decide)
 ·exact h
theorem a74 {l:List m6} (hl:l.length≤1000) (h : ∀ v∈l,VI v):C3 96 a0l l:=a2Z (by omega) fun v hv=>(h v hv).ok
theorem b27 {l:List m6}:S8 l=true↔l.length≤40 ∧ ∀ v∈l,VI v:=by
 unfold S8
 simp only [Bool.and_eq_true,decide_eq_true_eq,List.all_eq_true,e7h]
structure e0Y (id bal pr:Int) (best:List m6):Prop where
 b1:1≤bal
 b2:bal≤3000
 mod:Int.tmod bal 3=id
 pr:bal≤pr
 bl:best.length≤40
 bs : ∀ v∈best,VI v
abbrev Own (n:j4):Prop:=e0Y n.Id n.a7 n.Acc.d9 n.i4
def a4B (n:j4):Prop :=
 (n.d7=0∧n.a7=0∧n.b5=[]∧n.i4=[]∧n.b9=zE∧n.a0=[]) ∨
 (n.d7=1∧Own n∧n.b5.length=3∧n.b5[n.Id.toNat]?=some true∧n.b9=zE∧n.a0=[]) ∨
 (n.d7=2∧Own n∧n.b5=[]∧n.b9=zE∧n.a0=[]) ∨
 (n.d7=3∧Own n∧n.b5=[]∧B8 n.b9=true∧n.a0.length=3∧n.a0[n.Id.toNat]?=some true∧n.a6.length<40)
def c2x (n:j4):Prop :=
 (n.i6=true∧I8 n.g7=true∧B8 n.b8=true∧n.b8.i0=false∧n.b8.a5=⟨n.Id,n.Seq⟩)∨(n.i6=false∧n.g7=[]∧n.b8=zE)
structure NI (n:j4):Prop where
 id:0≤n.Id∧n.Id≤2
 pr:0≤n.Acc.d9∧n.Acc.d9≤3000
 vl:n.Acc.a0.length≤40
 vs : ∀ v∈n.Acc.a0,VI v∧v.a7≤n.Acc.d9
 kl:n.a6.length≤40
 ks : ∀ e∈n.a6,B8 e=true
 sq:0≤n.Seq∧n.Seq≤1000
 ql:n.b7.length≤4
 qs : ∀ e∈n.b7,B8 e=true∧e.i0=false
 ld:a4B n
 wt:c2x n
theorem b2T {α:Type} {l:List α}:((l.length:Int)==0)=true↔l=[]:=by
 rw [beq_iff_eq]
 constructor
 ·intro h; exact List.eq_nil_of_length_eq_zero (by omega)
 ·rintro rfl; rfl
theorem e69 {α:Type} {l:List α}:((l.length:Int)=0)↔l=[]:=by rw [← b2T,beq_iff_eq]
theorem d3e {l:List Bool} {id:Int} (h:0≤id∧id≤2):a5G l id=true↔l.length=3∧l[id.toNat]?=some true:=by
 unfold a5G b7f
 have e:idx l id=l[id.toNat]?:=by unfold idx; rw [if_pos h.1]
 rw [e,Bool.and_eq_true,beq_iff_eq]
 constructor
 ·rintro ⟨h1,h2⟩
  refine ⟨by omega,?_⟩
  cases hq:l[id.toNat]? with
  | none=>rw [hq] at h2; cases h2
  | some b=>rw [hq] at h2; simp at h2; rw [h2]
 ·rintro ⟨h1,h2⟩
  exact ⟨by omega,by rw [h2]; rfl⟩
theorem c52 {n:j4}:a45 n=true↔n.b9=zE∧n.a0=[]:=by
 unfold a45
 rw [Bool.and_eq_true,a3G,b2T]
theorem d8g {n:j4} (hid:0≤n.Id∧n.Id≤2):a1O n=true↔a4B n:=by
 have hown:(a2h n.a7==n.Id)=true∧n.a7≤n.Acc.d9∧S8 n.i4=true↔Own n:=by
  rw [b27]
  constructor
  ·rintro ⟨h1,h2,h3⟩
   have hb:=W5.1 (c4c (W5.2 hid) h1)
   unfold a2h at h1
   rw [W5.2 hb] at h1
   exact ⟨hb.1,hb.2,by simpa using h1,h2,h3.1,h3.2⟩
  ·intro h
   refine ⟨?_,h.pr,h.bl,h.bs⟩
   unfold a2h
   rw [W5.2 ⟨h.b1,h.b2⟩]
   simpa using h.mod
 unfold a1O a4B
 by_cases p0:n.d7=0
 ·simp only [p0,beq_self_eq_true,cond_true,Bool.and_eq_true,c52,beq_iff_eq,e69]
  constructor
  ·rintro ⟨a,b,c,d,e⟩; exact .inl ⟨trivial,a,b,c,d,e⟩
  ·rintro (h | h | h | h)
   ·exact ⟨h.2.1,h.2.2.1,h.2.2.2.1,h.2.2.2.2.1,h.2.2.2.2.2⟩
   all_goals exact absurd h.1 (by omega)
 ·have q0:(n.d7==0)=false:=by simpa using p0
  simp only [q0,cond_false,Bool.and_eq_true,decide_eq_true_eq]
  rw [← and_assoc,← and_assoc,and_assoc (a:=(a2h n.a7==n.Id)=true),hown]
  by_cases p1:n.d7=1
  ·simp only [p1,beq_self_eq_true,cond_true,Bool.and_eq_true,d3e hid,c52]
   constructor
   ·rintro ⟨a,⟨b,c⟩,d,e⟩; exact .inr (.inl ⟨trivial,a,b,c,d,e⟩)
   ·rintro (h | h | h | h)
    ·exact absurd h.1 (by omega)
    ·exact ⟨h.2.1,⟨h.2.2.1,h.2.2.2.1⟩,h.2.2.2.2.1,h.2.2.2.2.2⟩
    all_goals exact absurd h.1 (by omega)
  ·have q1:(n.d7==1)=false:=by simpa using p1
   by_cases p2:n.d7=2
   ·have q2:(n.d7==2)=true:=by simpa using p2
    simp only [q1,q2,cond_true,cond_false,Bool.and_eq_true,b2T,c52]
    constructor
    ·rintro ⟨a,b,c,d⟩; exact .inr (.inr (.inl ⟨p2,a,b,c,d⟩))
    ·rintro (h | h | h | h)
     ·exact absurd h.1 (by omega)
     ·exact absurd h.1 (by omega)
     ·exact ⟨h.2.1,h.2.2.1,h.2.2.2.1,h.2.2.2.2⟩
     ·exact absurd h.1 (by omega)
   ·have q2:(n.d7==2)=false:=by simpa using p2
    by_cases p3:n.d7=3
    ·have q3:(n.d7==3)=true:=by simpa using p3
     simp only [q1,q2,q3,cond_true,cond_false,Bool.and_eq_true,b2T,d3e hid,decide_eq_true_eq]
     constructor
     ·rintro ⟨a,b,c,⟨d,e⟩,f⟩; exact .inr (.inr (.inr ⟨p3,a,b,c,d,e,by omega⟩))
     ·rintro (h | h | h | h)
      ·exact absurd h.1 (by omega)
      ·exact absurd h.1 (by omega)
      ·exact absurd h.1 (by omega)
      ·exact ⟨h.2.1,h.2.2.1,h.2.2.2.1,⟨h.2.2.2.2.1,h.2.2.2.2.2.1⟩,by omega⟩
    ·have q3:(n.d7==3)=false:=by simpa using p3
     simp only [q1,q2,q3,cond_false,Bool.false_eq_true,and_false,false_iff]
     rintro (h | h | h | h)<;>omega
theorem d5G {a b:n5}:(([a.c8,a.Seq]:List Int)==[b.c8,b.Seq])=true↔a=b:=by
 obtain ⟨a1,a2⟩:=a
 obtain ⟨b1,b2⟩:=b
 simp
theorem d05 {n:j4}:a46 n=true↔c2x n:=by
 unfold a46 c2x
 cases n.i6
 ·simp only [cond_false,Bool.and_eq_true,b2T,a3G,Bool.false_eq_true,false_and,false_or,true_and]
 ·simp only [cond_true,Bool.and_eq_true,Bool.not_eq_true',Bool.true_eq_false,false_and,or_false,true_and]
  rw [show (([n.b8.a5.c8,n.b8.a5.Seq]:List Int)==[n.Id,n.Seq])=true↔n.b8.a5=⟨n.Id,n.Seq⟩ from d5G (b:=⟨n.Id,n.Seq⟩)]
theorem a9E {n:j4}:J4 n=true↔NI n:=by
 unfold J4 a1B L0 b5B
 simp only [Bool.and_eq_true,W5,b27,List.all_eq_true,decide_eq_true_eq,Bool.not_eq_true',decide_eq_false_iff_not]
 constructor
 ·rintro ⟨h1,⟨h2,h3,h4⟩,⟨h5,h6⟩,h7,h8,h9,h10,h11⟩
  exact ⟨h1,h2,h3.1,fun v hv=>⟨h3.2 v hv,by have:=h4 v hv; omega⟩,h5,h6,h7,by omega,h11,(d8g h1).1 h9,d05.1 h10⟩
 ·intro h
  exact ⟨h.id,⟨h.pr,⟨h.vl,fun v hv=>(h.vs v hv).1⟩,fun v hv=>by have:=(h.vs v hv).2; omega⟩,⟨h.kl,h.ks⟩,h.sq,by have:=h.ql; omega,(d8g h.id).2 h.ld,d05.2 h.wt,h.qs⟩
theorem e8G {i:m7} (h:Z3 i=true):b5k i:=by
 unfold Z3 at h
 by_cases k1:i.c9=1
 ·simp [k1,p9] at h; exact ⟨B6 (by omega),B6 (by omega),B6 (by omega),B6 (by omega)⟩
 by_cases k2:i.c9=2
 ·simp [k2,p9] at h; exact ⟨B6 (by omega),B6 (by omega),B6 (by omega),B6 (by omega)⟩
 by_cases k3:i.c9=3
 ·simp [k3,p9] at h; exact ⟨B6 (by omega),B6 (by omega),B6 (by omega),B6 (by omega)⟩
 by_cases k4:i.c9=4
 ·simp [k4,p9] at h; exact ⟨B6 (by omega),B6 (by omega),B6 (by omega),B6 (by omega)⟩
 by_cases k5:i.c9=5
 ·simp [k5,p9] at h; exact ⟨B6 (by omega),B6 (by omega),B6 (by omega),B6 (by omega)⟩
 by_cases k6:i.c9=6
 ·simp [k6,p9] at h; exact ⟨B6 (by omega),B6 (by omega),B6 (by omega),B6 (by omega)⟩
 by_cases k7:i.c9=7
 ·simp [k7] at h; exact ⟨B6 (by omega),B6 (by omega),B6 (by omega),B6 (by omega)⟩
 ·simp [k1,k2,k3,k4,k5,k6,k7] at h
theorem d5k {l:List m7} (h:I8 l=true):C3 32 b5k l:=by
 obtain ⟨h1,h2⟩:=c1J h
 exact a2Z (by omega) fun i hi=>e8G (h2 i hi)
theorem a4B.phase {n:j4} (h:a4B n):0≤n.d7∧n.d7≤3:=by
 rcases h with h | h | h | h<;>omega
theorem a4B.bal {n:j4} (h:a4B n):0≤n.a7∧n.a7≤3000:=by
 rcases h with h | h | h | h
 ·omega
 all_goals exact ⟨by have:=h.2.1.b1; omega,h.2.1.b2⟩
theorem a4B.best {n:j4} (h:a4B n):n.i4.length≤40 ∧ ∀ v∈n.i4,VI v:=by
 rcases h with h | h | h | h
 ·rw [h.2.2.2.1]; exact ⟨by simp,by simp⟩
 all_goals exact ⟨h.2.1.bl,h.2.1.bs⟩
theorem a4B.from3 {n:j4} (h:a4B n):n.b5.length≤3∧n.a0.length≤3∧G6 n.b9:=by
 rcases h with h | h | h | h
 ·rw [h.2.2.1,h.2.2.2.2.2,h.2.2.2.2.1]; exact ⟨by simp,by simp,a2Y⟩
 ·rw [h.2.2.2.2.2,h.2.2.2.2.1]; exact ⟨by omega,by simp,a2Y⟩
 ·rw [h.2.2.1,h.2.2.2.1,h.2.2.2.2]; exact ⟨by simp,by simp,a2Y⟩
 ·rw [h.2.2.1]; exact ⟨by simp,by omega,a4t h.2.2.2.1⟩
theorem NI.ok {n:j4} (h:NI n):P1 n:=by
 have hf:=h.ld.from3
 have hb:=h.ld.best
 have hw:G6 n.b8∧C3 32 b5k n.g7:=by
  rcases h.wt with q | q
  ·exact ⟨a4t q.2.2.1,d5k q.2.1⟩
  ·rw [q.2.1,q.2.2]; exact ⟨a2Y,a0M⟩
 have hph:=h.ld.phase
 have hbl:=h.ld.bal
 have h1:=h.id
 have h2:=h.pr
 have h3:=h.sq
 have h4:=h.vl
 have h5:=h.kl
 have h6:=h.ql
 exact ⟨B6 (by omega),⟨B6 (by omega),a74 (by omega) fun v hv=>(h.vs v hv).1⟩,d4G (by omega) h.ks,B6 (by omega),B6 (by omega),B6 (by omega),
  a2Z (by omega) (fun _ _=>trivial),a74 (by omega) hb.2,hf.2.2,a2Z (by omega) (fun _ _=>trivial),hw.2,hw.1,d4G (by omega) fun e he=>(h.qs e he).1⟩
theorem NI.list {n:j4} (h:NI n):L0 n.a6=true:=by
 unfold L0
 simp only [Bool.and_eq_true,decide_eq_true_eq,List.all_eq_true]
 exact ⟨h.kl,h.ks⟩
def a1H (m:l9):Prop :=
 ((m.c9=1∨m.c9=4)∧(1≤m.a7∧m.a7≤3000)∧m.g9=zE∧m.a0=[]) ∨
 (m.c9=2∧(1≤m.a7∧m.a7≤3000)∧m.g9=zE∧(m.a0.length≤40 ∧ ∀ v∈m.a0,VI v)∧m.i5+m.a0.length≤40) ∨
 (m.c9=3∧(1≤m.a7∧m.a7≤3000)∧m.i5<40∧B8 m.g9=true∧m.a0=[]) ∨
 (m.c9=5∧m.a7=0∧m.i5<40∧B8 m.g9=true∧m.a0=[]) ∨
 (m.c9=6∧(1≤m.a7∧m.a7≤3000)∧m.i5=0∧m.g9=zE∧m.a0=[]) ∨
 (m.c9=7∧m.a7=0∧m.i5=0∧B8 m.g9=true∧m.g9.i0=false∧m.a0=[]) ∨
 (m.c9=8∧m.a7=0∧m.g9=zE∧m.a0=[])
structure MI (m:l9):Prop where
 fr:0≤m.b5∧m.b5≤2
 to:0≤m.To∧m.To≤2
 ne:m.b5≠m.To
 sl:0≤m.i5∧m.i5≤40
 kd:a1H m
theorem e1K {m:l9}:a0C m=true↔MI m:=by
 have hk:(0≤m.i5∧m.i5≤40)→(a7e m=true↔a1H m):=by
  intro hs
  have hw:S8 m.a0=true→m9 (m.i5+(m.a0.length:Int))=m.i5+(m.a0.length:Int):=by
   intro hv
   have:=(b27.1 hv).1
   exact E7 (by omega) (by omega)
  unfold a7e a1H
  simp only [Bool.cond_eq_ite]
  by_cases k1:m.c9=1
  ·simp [k1,W5,a3G]
  by_cases k4:m.c9=4
  ·simp [k4,W5,a3G]
  by_cases k2:m.c9=2
  ·simp only [k2,W5,a3G,beq_self_eq_true,if_true,Bool.and_eq_true,decide_eq_true_eq]
   simp only [show ((2:Int)==1)=false from rfl,show ((2:Int)==4)=false from rfl,Bool.false_eq_true,if_false,Bool.and_eq_true,W5,a3G,decide_eq_true_eq]
   constructor
   ·rintro ⟨a,b,c,d⟩
    rw [hw c] at d
    exact .inr (.inl ⟨trivial,a,b,b27.1 c,d⟩)
   ·rintro (h | h | h | h | h | h | h)
    ·omega
    ·have c:=b27.2 h.2.2.2.1
     exact ⟨h.2.1,h.2.2.1,c,by rw [hw c]; exact h.2.2.2.2⟩
    all_goals exact absurd h.1 (by omega)
  by_cases k3:m.c9=3
  ·simp [k3,W5]
  by_cases k5:m.c9=5
  ·simp [k5]
  by_cases k6:m.c9=6
  ·simp [k6,W5,a3G]
  by_cases k7:m.c9=7
  ·simp [k7]
  by_cases k8:m.c9=8
  ·simp [k8,a3G]
  ·simp [k1,k2,k3,k4,k5,k6,k7,k8]
 unfold a0C
 simp only [Bool.and_eq_true,W5,Bool.not_eq_true',beq_eq_false_iff_ne]
 constructor
 ·rintro ⟨a,b,c,d,e⟩; exact ⟨a,b,c,d,(hk d).1 e⟩
 ·intro h; exact ⟨h.fr,h.to,h.ne,h.sl,(hk h.sl).2 h.kd⟩
theorem MI.ok {m:l9} (h:MI m):a3K m:=by
 have hf:=h.fr
 have ht:=h.to
 have hs:=h.sl
 have hk:K6 m.c9∧K6 m.a7∧G6 m.g9∧C3 96 a0l m.a0:=by
  rcases h.kd with q | q | q | q | q | q | q
  ·rw [q.2.2.1,q.2.2.2]; exact ⟨B6 (by omega),B6 (by omega),a2Y,a0M⟩
  ·rw [q.2.2.1]; exact ⟨B6 (by omega),B6 (by omega),a2Y,a74 (by omega) q.2.2.2.1.2⟩
  ·rw [q.2.2.2.2]; exact ⟨B6 (by omega),B6 (by omega),a4t q.2.2.2.1,a0M⟩
  ·rw [q.2.2.2.2]; exact ⟨B6 (by omega),B6 (by omega),a4t q.2.2.2.1,a0M⟩
  ·rw [q.2.2.2.2,q.2.2.2.1]; exact ⟨B6 (by omega),B6 (by omega),a2Y,a0M⟩
  ·rw [q.2.2.2.2.2]; exact ⟨B6 (by omega),B6 (by omega),a4t q.2.2.2.1,a0M⟩
  ·rw [q.2.2.1,q.2.2.2]; exact ⟨B6 (by omega),B6 (by omega),a2Y,a0M⟩
 exact ⟨hk.1,B6 (by omega),B6 (by omega),hk.2.1,B6 (by omega),hk.2.2.1,hk.2.2.2⟩
structure WI (w:l7):Prop where
 nl:w.Nodes.length=3
 ns : ∀ (i:Nat) (n:j4),w.Nodes[i]?=some n→n.Id=(i:Int)∧NI n
 ml:w.Net.length≤40
 ms : ∀ m∈w.Net,MI m
 al:w.Asked.length≤60
 aq : ∀ a∈w.Asked,a10 a=true
 tl:w.Told.length≤60
 ts : ∀ t∈w.Told,a0t t=true
theorem b9u {w:l7}:A3 w=true↔WI w:=by
 unfold A3
 simp only [Bool.and_eq_true,beq_iff_eq,decide_eq_true_eq,List.all_eq_true,List.mem_range,e1K]
 constructor
 ·rintro ⟨h1,h2,h3,h4,h5,h6,h7,h8⟩
  refine ⟨by omega,?_,by omega,h6,by omega,h7,by omega,h8⟩
  intro i n hn
  have hi:=(List.getElem?_eq_some_iff.1 hn).1
  have:=h5 i hi
  unfold a5n at this
  rw [hn] at this
  simp only [Bool.and_eq_true,beq_iff_eq,a9E] at this
  exact this
 ·intro h
  have h2:=h.ml
  have h3:=h.al
  have h4:=h.tl
  refine ⟨by have:=h.nl; omega,by omega,by omega,by omega,?_,h.ms,h.aq,h.ts⟩
  intro i hi
  unfold a5n
  rw [List.getElem?_eq_getElem hi]
  simp only [Bool.and_eq_true,beq_iff_eq,a9E]
  exact h.ns i _ (List.getElem?_eq_getElem hi)
theorem e8e {a:t7} (h:a10 a=true):d0n a:=by
 unfold a10 at h
 simp only [Bool.and_eq_true,W5] at h
 exact ⟨⟨B6 (by omega),B6 (by omega)⟩,d5k h.2⟩
theorem f4i {t:n4} (h:a0t t=true):c9X t:=by
 unfold a0t at h
 simp only [Bool.and_eq_true,W5] at h
 exact ⟨B6 (by omega),⟨B6 (by omega),B6 (by omega)⟩,B6 (by omega),B6 (by omega)⟩
theorem WI.ok {w:l7} (h:WI w):K0 w:=by
 have h1:=h.nl
 have h2:=h.ml
 have h3:=h.al
 have h4:=h.tl
 refine ⟨a2Z (by omega) ?_,a2Z (by omega) fun m hm=>(h.ms m hm).ok,a2Z (by omega) fun a ha=>e8e (h.aq a ha),a2Z (by omega) fun t ht=>f4i (h.ts t ht)⟩
 intro n hn
 obtain ⟨i,hi⟩:=List.getElem?_of_mem hn
 exact (h.ns i n hi).2.ok
theorem c07 (m o:l9):a5D m o=some [a5L m o]:=rfl
theorem d0W (n:j4) (b:Int):b2A n b=some (a2B n b):=by
 unfold b2A a2B
 cases n.d7 != 0
 ·rfl
 ·simp only [cond_true,Bool.true_and]
  cases decide (b>n.a7)<;>rfl
theorem e8w (n:j4) (b:Int):b4D n b=some (a2B n b):=by
 unfold b4D a2B
 cases n.d7 != 0
 ·rfl
 ·simp only [cond_true,Bool.true_and]
  cases decide (b>n.a7)<;>rfl
theorem e0Q (n:j4) (b:Int):(a2B n b).Acc=n.Acc:=by
 unfold a2B
 cases n.d7 != 0&&decide (b>n.a7)<;>rfl
theorem c0w {a x:A0} {b:Int} (h:a0A a b=some x):x=⟨b,a.a0⟩∧1≤b∧b≤3000∧a.d9≤b:=by
 unfold a0A b5r at h
 cases hq:p9 b 1 3000&&decide (a.d9≤b)
 ·rw [hq] at h; cases h
 ·rw [hq] at h
  simp only [Bool.and_eq_true,W5,decide_eq_true_eq] at hq
  injection h with h
  exact ⟨h.symm,hq.1.1,hq.1.2,hq.2⟩
theorem e2D {α:Type} (l:List α) (k:Nat):(l.drop k).take (l.length - k)=l.drop k:=by
 rw [List.take_of_length_le]
 simp
theorem f0F {n:j4} (h:P1 n) {m:l9} (hs:0≤m.i5):b6i n m=some (a8B n m):=by
 unfold b6i a8B
 rw [c7w,c0P]
 cases hp:a0A n.Acc m.a7 with
 | none=>rfl
 | some a =>
  obtain ⟨rfl,_⟩:=c0w hp
  simp only [a5V,Option.bind_some,Bool.not_true,cond_false,e8w]
  have ha:=e0Q { n with Acc:=⟨m.a7,n.Acc.a0⟩ } m.a7
  have hy : ∀ y:j4,y.Acc=⟨m.a7,n.Acc.a0⟩→(j4.mk y.Id (A0.mk y.Acc.d9 n.Acc.a0) y.a6 y.Seq y.d7 y.a7 y.b5 y.i4 y.b9 y.a0 y.i6 y.g7 y.b8 y.b7)=y:=by
   intro y hy
   obtain ⟨y1,y2,y3,y4,y5,y6,y7,y8,y9,y10,y11,y12,y13,y14⟩:=y
   simp only at hy
   subst hy
   rfl
  rw [hy _ ha]
  obtain ⟨k,hk⟩ : ∃ k:Nat,m.i5=(k:Int):=⟨m.i5.toNat,by omega⟩
  rw [hk,Int.toNat_natCast,e2D]
  cases hd:decide ((k:Int)<(n.Acc.a0.length:Int))
  ·simp only [cond_false,c07,Option.bind_some]
   rw [List.drop_eq_nil_of_le (by simp at hd; omega)]
  ·simp only [cond_true]
   rw [x5 (by simp at hd; omega),e8r (e61 h.2.1.2 (by simp) fun x hx=>List.mem_of_mem_drop hx),Option.bind_some,c07,Option.bind_some]
theorem f0x {n:j4} {m:l9} (hm:a3K m):b7u n m=some (a8z n m):=by
 have he:G6 m.g9:=hm.2.2.2.2.2.1
 unfold b7u a8z
 rw [d5I he,d7b he]
 cases a0Z n.Acc m.a7 m.i5 m.g9 with
 | none=>rfl
 | some a=>simp only [a5V,Option.bind_some,Bool.not_true,cond_false,d0W,c07]
theorem d4F {l:List Bool} (h:l.length≤3):s9 l:=by unfold s9; omega
theorem e5c {n:j4} (h:NI n) {m:l9} (hm:MI m) (hk:m.c9=2):b63 n m=some (a9e n m):=by
 have hkd:(m.a0.length≤40 ∧ ∀ v∈m.a0,VI v)∧m.i5+m.a0.length≤40:=by
  rcases hm.kd with q | q | q | q | q | q | q
  ·omega
  ·exact ⟨q.2.2.2.1,q.2.2.2.2⟩
  all_goals exact absurd q.1 (by omega)
 have hs:=hm.sl
 have hf:=hm.fr
 unfold b63 a9e
 by_cases p1:n.d7=1
 ·rw [show (n.d7 != 1)=false by simp [p1],Bool.false_or]
  simp only [cond_false]
  cases hb:m.a7 != n.a7
  ·simp only [cond_false]
   have hl:n.b5.length=3∧Own n:=by
    rcases h.ld with q | q | q | q
    ·omega
    ·exact ⟨q.2.2.1,q.2.1⟩
    all_goals exact absurd q.1 (by omega)
   obtain ⟨f,hff⟩ : ∃ f:Nat,m.b5=(f:Int):=⟨m.b5.toNat,by omega⟩
   have hvo:C3 96 a0l (List.replicate m.i5.toNat v0++m.a0):=a74 (by simp; omega) (by
    intro v hv
    rcases List.mem_append.1 hv with q | q
    ·rw [(List.mem_replicate.1 q).2]; exact .inl rfl
    ·exact hkd.1.2 v q)
   have hz : ∀ v∈List.replicate m.i5.toNat v0++m.a0,v.a7≤0→v=v0:=by
    intro v hv hb
    rcases List.mem_append.1 hv with q | q
    ·exact (List.mem_replicate.1 q).2
    ·exact (hkd.1.2 v q).zero hb
   rw [hff,t8 (show f<n.b5.length by omega),Option.bind_some,e8O (a74 (by omega) hkd.1.2) hkd.1.1 hs,Option.bind_some,f4S (a74 (by have:=hl.2.bl; omega) hl.2.bs) hvo (by have:=hl.2.bl; omega) (by simp; omega) hz,Option.bind_some,d3C (d4F (by simp; omega)),Option.bind_some]
   cases htw:two (n.b5.set (f:Int).toNat true)
   ·simp only [Bool.not_false,cond_true,cond_false]
   ·simp only [Bool.not_true,cond_false,cond_true]
    have hbl:=b9X n.i4 (List.replicate m.i5.toNat v0++m.a0)
    have hob:=hl.2.bl
    have hlen:(List.replicate m.i5.toNat v0++m.a0).length≤40:=by simp; omega
    obtain ⟨h1,h2,h3,h4,h5,h6,h7,h8,h9,h10,h11,h12,h13⟩:=h.ok
    rw [b3d (n:=⟨n.Id,n.Acc,n.a6,n.Seq,2,n.a7,[],P9 n.i4 (List.replicate m.i5.toNat v0++m.a0),n.b9,n.a0,n.i6,n.g7,n.b8,n.b7⟩) ⟨h1,h2,h3,h4,B6 (n:=2) (by omega),h6,a0M,a74 (by show (P9 n.i4 (List.replicate m.i5.toNat v0++m.a0)).length≤1000; omega) (fun v hv=>(c9w hv).elim (fun q=>hl.2.bs v q) (fun q=>(List.mem_append.1 q).elim (fun q=>by rw [(List.mem_replicate.1 q).2]; exact .inl rfl) (hkd.1.2 v))),h9,h10,h11,h12,h13⟩ h.id,Option.bind_some]
  ·rfl
 ·rw [show (n.d7 != 1)=true by simpa using p1]; rfl
theorem a3I (id:Int) (m:l9):(a0G id m).length≤3:=by
 unfold a0G
 rw [List.length_map]
 exact List.length_filter_le _ _
theorem a9a (n:j4):(a1T n).2.length≤3:=by
 unfold a1T b24
 cases n.d7 != 2||decide (40≤n.a6.length)
 ·simp only [cond_false]
  cases a4U n with
  | mk x o =>
   cases o with
   | none=>simp
   | some e =>
    simp only
    cases a0Z x.Acc x.a7 (x.a6.length:Int) e with
    | none=>simp
    | some a=>exact a3I _ _
 ·simp
theorem e6k {n:j4} (h:NI n) {m:l9} (hm:MI m):b50 n m=some (b1y n m):=by
 have hf:=hm.fr
 unfold b50 b1y
 by_cases p3:n.d7=3
 ·rw [show (n.d7 != 3)=false by simp [p3],Bool.false_or]
  simp only [cond_false]
  cases hb:m.a7 != n.a7
  ·simp only [cond_false,Bool.false_or]
   cases hs:m.i5 != (n.a6.length:Int)
   ·simp only [cond_false]
    have hl:n.a0.length=3∧B8 n.b9=true∧n.a6.length<40:=by
     rcases h.ld with q | q | q | q
     ·omega
     ·omega
     ·omega
     ·exact ⟨q.2.2.2.2.1,q.2.2.2.1,q.2.2.2.2.2.2⟩
    obtain ⟨f,hff⟩ : ∃ f:Nat,m.b5=(f:Int):=⟨m.b5.toNat,by omega⟩
    have hcur:=a4t hl.2.1
    rw [hff,t8 (show f<n.a0.length by omega),Option.bind_some,d3C (d4F (by simp; omega)),Option.bind_some]
    cases htw:two (n.a0.set (f:Int).toNat true)
    ·simp only [Bool.not_false,cond_true,cond_false]
    ·simp only [Bool.not_true,cond_false,cond_true]
     obtain ⟨h1,h2,h3,h4,h5,h6,h7,h8,h9,h10,h11,h12,h13⟩:=h.ok
     rw [a2q hcur,Option.bind_some,a6K h.id (a9r (B6 (by omega)) a1P (B6 (by omega)) hcur a0M),Option.bind_some,
      d28 (n:={ n with a0:=n.a0.set (f:Int).toNat true }) ⟨h1,h2,h3,h4,h5,h6,h7,h8,h9,a2Z (by simp; omega) (fun _ _=>trivial),h11,h12,h13⟩ h.id h.list hl.2.2 hcur hl.2.1,Option.bind_some,x5]
     have e1:=a3I n.Id ⟨5,0,0,0,(n.a6.length:Int),n.b9,[]⟩
     have e2:=a9a (a2C (a1E { n with a0:=n.a0.set (f:Int).toNat true } n.b9)).1
     have e3:(a5z { n with a0:=n.a0.set (f:Int).toNat true } n.b9).2.1.length≤3:=e2
     omega
   ·rfl
  ·rfl
 ·rw [show (n.d7 != 3)=true by simpa using p3]; rfl
theorem f4c {n:j4} (h:NI n) {m:l9} (hm:MI m) (hk:m.c9=5):b7J n m=some (b1I n m):=by
 have hkd:m.i5<40∧B8 m.g9=true:=by
  rcases hm.kd with q | q | q | q | q | q | q
  ·omega
  ·omega
  ·omega
  ·exact ⟨q.2.2.1,q.2.2.2.1⟩
  all_goals exact absurd q.1 (by omega)
 unfold b7J b1I
 cases h1:decide (m.i5<(n.a6.length:Int))
 ·cases h2:decide (m.i5>(n.a6.length:Int))
  ·simp only [cond_false]
   have hl:n.a6.length<40:=by simp at h1 h2; omega
   rw [d28 h.ok h.id h.list hl (a4t hkd.2) hkd.2,Option.bind_some]
  ·rfl
 ·rfl
theorem e50 {n:j4} (h:NI n) {m:l9} (hm:MI m):b6H n m=some (a8N n m):=by
 have he:G6 m.g9:=hm.ok.2.2.2.2.2.1
 have hql:=h.ql
 unfold b6H a8N
 rw [show decide ((n.b7.length:Int)≥4)=decide (4≤n.b7.length) by simp; omega,c0q (h.ok.2.2.1.fits (by decide)),a2q he]
 cases n.d7==0
 ·simp only [cond_false,Bool.false_or]
  cases decide (4≤n.b7.length)
  ·simp only [cond_false,Bool.false_or,Option.bind_some]
   cases a02 n.a6 m.g9.a5
   ·obtain ⟨h1,h2,h3,h4,h5,h6,h7,h8,h9,h10,h11,h12,h13⟩:=h.ok
    simp only [cond_false]
    rw [x5 (by omega),b3d (n:={ n with b7:=n.b7++[m.g9] }) ⟨h1,h2,h3,h4,h5,h6,h7,h8,h9,h10,h11,h12,a2Z (by simp; omega) (by
     intro x hx
     rcases List.mem_append.1 hx with q | q
     ·exact h13.2 x q
     ·rw [List.mem_singleton.1 q]; exact he)⟩ h.id,Option.bind_some]
   ·rfl
  ·rfl
 ·rfl
theorem d6Q {n:j4} (m:l9) {k:Nat} (hk:k<n.a6.length):a5f n m k=[a5L m ⟨5,0,0,0,(k:Int),n.a6[k],[]⟩]:=by
 unfold a5f
 rw [List.getElem?_eq_getElem hk]
theorem d87 {n:j4} (h:NI n) (m:l9) : ∀ (d k:Nat) (o:List l9),n.a6.length - k=d→o.length≤k→o9 (fun s:(List l9)×Int=>a7N n m s.1 s.2) (o,(k:Int))=some (.brk (o++((List.range d).map fun j=>a5f n m (k+j)).flatten))
 | 0,k,o,hd,ho=>by
  have hkl:=h.kl
  refine (H3 (b:=o) ?_).trans (by simp)
  show a7N n m o (k:Int)=_
  unfold a7N
  rw [show decide ((k:Int)<(n.a6.length:Int))=false by simp; omega]
  rfl
 | d+1,k,o,hd,ho=>by
  have hkl:=h.kl
  have hlt:k<n.a6.length:=by omega
  have hb:a7N n m o (k:Int)=some (.nxt (o++a5f n m k,((k+1:Nat):Int))):=by
   unfold a7N
   rw [x6 _ k hlt,t8 hlt,cond_true,Option.bind_some,a2q (a4t (h.ks _ (List.getElem_mem hlt))),Option.bind_some,c07,Option.bind_some,x5 (by simp; omega),d6Q m hlt,J0 (h.ok.2.2.1.fits (by decide)) hlt]
  rw [O5 (body:=fun s:(List l9)×Int=>a7N n m s.1 s.2) (s:=(o,(k:Int))) hb,d87 h m d (k+1) _ (by omega) (by rw [d6Q m hlt]; simp; omega)]
  rw [List.range_succ_eq_map,List.map_cons,List.flatten_cons,List.append_assoc,List.map_map]
  simp only [Nat.add_zero,Function.comp_def,Nat.succ_eq_add_one,Nat.add_assoc,Nat.add_comm 1]
theorem e2G {n:j4} (h:NI n) {m:l9} (hs:0≤m.i5):b9F n m=some (a8G n m,n):=by
 unfold b9F a8G
 obtain ⟨k,hk⟩ : ∃ k:Nat,m.i5=(k:Int):=⟨m.i5.toNat,by omega⟩
 rw [hk]
 have:=d87 h m (n.a6.length - k) k [] rfl (by simp)
 rw [this]
 rfl
theorem f1N {n:j4} (h:NI n) {m:l9} (hm:MI m):b5O n m=some (a5g n m):=by
 unfold b5O a5g
 rw [f0F h.ok hm.sl.1,f0x hm.ok,e6k h hm,e50 h hm,e2G h hm.sl.1,c0P]
 by_cases k1:m.c9=1
 ·simp [k1]; rfl
 rw [show (m.c9==1)=false by simpa using k1]
 by_cases k2:m.c9=2
 ·rw [e5c h hm k2]; simp [k2]; rfl
 rw [show (m.c9==2)=false by simpa using k2]
 by_cases k3:m.c9=3
 ·simp [k3]; rfl
 rw [show (m.c9==3)=false by simpa using k3]
 by_cases k4:m.c9=4
 ·simp [k4]; rfl
 rw [show (m.c9==4)=false by simpa using k4]
 by_cases k5:m.c9=5
 ·rw [f4c h hm k5]; simp [k5]; rfl
 rw [show (m.c9==5)=false by simpa using k5]
 by_cases k6:m.c9=6
 ·rw [show (m.c9==6)=true by simpa using k6]
  simp only [cond_true,cond_false,Option.bind_some]
  cases a0A n.Acc m.a7<;>simp only [d0W,Option.bind_some,Option.getD_none,Option.getD_some]<;>rfl
 rw [show (m.c9==6)=false by simpa using k6]
 by_cases k7:m.c9=7
 ·simp [k7]; rfl
 rw [show (m.c9==7)=false by simpa using k7]
 cases m.c9==8
 ·rfl
 ·simp only [cond_true,cond_false,Option.bind_some]
  rw [x5 trivial,x5 trivial,x5 trivial,x5 trivial,x5 trivial]
  rfl
theorem d3c {a x:A0} {b s:Int} {e:l8} (h:a0Z a b s e=some x) : ∃ k:Nat,s=(k:Int)∧k<40∧B8 e=true∧1≤b∧b≤3000∧a.d9≤b∧x=⟨b,(a32 a.a0 (k+1)).set k ⟨b,e⟩⟩:=by
 unfold a0Z at h
 cases hq:p9 s 0 39&&B8 e
 ·rw [hq] at h; cases h
 ·rw [hq,cond_true] at h
  simp only [Bool.and_eq_true,W5] at hq
  cases hp:a0A a b with
  | none=>rw [hp] at h; cases h
  | some y =>
   rw [hp] at h
   obtain ⟨rfl,h1,h2,h3⟩:=c0w hp
   injection h with h
   refine ⟨s.toNat,by omega,by omega,hq.2,h1,h2,h3,h.symm⟩
theorem c5x {a:A0} {b:Int} (h1:1≤b) (h2:b≤3000) (h3:a.d9≤b):a0A a b=some ⟨b,a.a0⟩:=by
 unfold a0A b5r
 rw [W5.2 ⟨h1,h2⟩,show decide (a.d9≤b)=true by simpa using h3]
 rfl
theorem f4v {a:A0} {b:Int} {k:Nat} {e:l8} (hk:k<40) (he:B8 e=true) (h1:1≤b) (h2:b≤3000) (h3:a.d9≤b):a0Z a b (k:Int) e=some ⟨b,(a32 a.a0 (k+1)).set k ⟨b,e⟩⟩:=by
 unfold a0Z
 rw [W5.2 (show 0≤(k:Int)∧(k:Int)≤39 by omega),he,c5x h1 h2 h3]
 rfl
theorem f3A {vs:List m6} {n:Nat} {v:m6} (h:v∈a32 vs n):v∈vs∨v=v0:=by
 rcases List.mem_append.1 h with q | q
 ·exact .inl q
 ·exact .inr (List.mem_replicate.1 q).2
theorem f3S {α:Type} {l:List α} {k:Nat} {x v:α} (h:v∈l.set k x):v∈l∨v=x:=List.mem_or_eq_of_mem_set h
theorem NI.queue {n:j4} (h:NI n) {q:List l8} (hl:q.length≤4) (hm : ∀ e∈q,B8 e=true∧e.i0=false):NI { n with b7:=q } :=
 ⟨h.id,h.pr,h.vl,h.vs,h.kl,h.ks,h.sq,hl,hm,h.ld,h.wt⟩
theorem NI.down {n:j4} (h:NI n):NI (b7G n) :=
 ⟨h.id,h.pr,h.vl,h.vs,h.kl,h.ks,h.sq,h.ql,h.qs,.inl ⟨rfl,rfl,rfl,rfl,rfl,rfl⟩,h.wt⟩
theorem NI.freeN {n:j4} (h:NI n):NI (b3f n) :=
 ⟨h.id,h.pr,h.vl,h.vs,h.kl,h.ks,h.sq,h.ql,h.qs,h.ld,.inr ⟨rfl,rfl,rfl⟩⟩
theorem NI.acc {n:j4} (h:NI n) {a:A0} (h1:0≤a.d9∧a.d9≤3000) (h2:a.a0.length≤40) (h3 : ∀ v∈a.a0,VI v∧v.a7≤a.d9) (h4:n.Acc.d9≤a.d9):NI { n with Acc:=a }:=by
 have ho:Own n→Own { n with Acc:=a }:=fun o=>⟨o.b1,o.b2,o.mod,Int.le_trans o.pr h4,o.bl,o.bs⟩
 refine ⟨h.id,h1,h2,h3,h.kl,h.ks,h.sq,h.ql,h.qs,?_,h.wt⟩
 rcases h.ld with q | q | q | q
 ·exact .inl q
 ·exact .inr (.inl ⟨q.1,ho q.2.1,q.2.2⟩)
 ·exact .inr (.inr (.inl ⟨q.1,ho q.2.1,q.2.2⟩))
 ·exact .inr (.inr (.inr ⟨q.1,ho q.2.1,q.2.2⟩))
theorem NI.promise {n:j4} (h:NI n) {b:Int} {x:A0} (hp:a0A n.Acc b=some x):NI { n with Acc:=x }:=by
 obtain ⟨rfl,h1,h2,h3⟩:=c0w hp
 exact h.acc ⟨by simp only; omega,h2⟩ h.vl (fun v hv=>⟨(h.vs v hv).1,Int.le_trans (h.vs v hv).2 h3⟩) h3
theorem e8q {vs:List m6} {p b:Int} {k:Nat} {e:l8} (hk:k<40) (hl:vs.length≤40) (hv : ∀ v∈vs,VI v∧v.a7≤p) (he:B8 e=true) (h1:1≤b) (h2:b≤3000) (h3:p≤b) :
  ((a32 vs (k+1)).set k ⟨b,e⟩).length≤40 ∧ ∀ v∈(a32 vs (k+1)).set k ⟨b,e⟩,VI v∧v.a7≤b:=by
 refine ⟨by rw [List.length_set,d19]; omega,fun v hm => ?_⟩
 rcases f3S hm with q | q
 ·rcases f3A q with q | q
  ·exact ⟨(hv v q).1,Int.le_trans (hv v q).2 h3⟩
  ·rw [q]; exact ⟨.inl rfl,by show (0:Int)≤b; omega⟩
 ·rw [q]; exact ⟨.inr ⟨h1,h2,he⟩,Int.le_refl _⟩
theorem NI.cast {n:j4} (h:NI n) {b s:Int} {e:l8} {x:A0} (hc:a0Z n.Acc b s e=some x):NI { n with Acc:=x }:=by
 obtain ⟨k,rfl,hk,he,h1,h2,h3,rfl⟩:=d3c hc
 obtain ⟨a,b'⟩:=e8q hk h.vl h.vs he h1 h2 h3
 exact h.acc ⟨by simp only; omega,h2⟩ a b' h3
theorem NI.yield {n:j4} (h:NI n) (b:Int):NI (a2B n b):=by
 unfold a2B
 cases n.d7 != 0&&decide (b>n.a7)
 ·exact h
 ·exact h.down
theorem c4f {id:Int} (h:0≤id∧id≤2):(b5u id).length=3∧(b5u id)[id.toNat]?=some true:=by
 unfold b5u
 refine ⟨by simp,?_⟩
 rw [List.getElem?_set_self (by simp; omega)]
theorem a4P.right {n:j4} (h:NI n) {e:l8} (hn:a4P n e):B8 e=true:=by
 cases hn with
 | best v hv hb=>exact (h.ld.best.2 v (List.mem_of_getElem? hv)).pos hb
 | gap=>rfl
 | want hb =>
  rcases h.wt with q | q
  ·exact q.2.2.1
  ·rw [hb] at q; cases q.1
 | queue e hq=>exact (h.qs e hq).1
theorem e6F {id:Int} {m x:l9} (hid:0≤id∧id≤2) (h:x∈a0G id m) : ∃ t:Int,0≤t∧t≤2∧t≠id∧x={ m with b5:=id,To:=t }:=by
 unfold a0G at h
 obtain ⟨t,ht,rfl⟩:=List.mem_map.1 h
 obtain ⟨h1,h2⟩:=List.mem_filter.1 ht
 refine ⟨t,?_,?_,by simpa using h2,rfl⟩
 all_goals simp at h1; omega
theorem a6Y {id:Int} {m:l9} (hid:0≤id∧id≤2) (hk:a1H m) (hs:0≤m.i5∧m.i5≤40) : ∀ x∈a0G id m,MI x:=by
 intro x hx
 obtain ⟨t,h1,h2,h3,rfl⟩:=e6F hid hx
 exact ⟨hid,⟨h1,h2⟩,fun q=>h3 q.symm,hs,hk⟩
theorem b16 {m o:l9} (hm:MI m) (hk:a1H o) (hs:0≤o.i5∧o.i5≤40):MI (a5L m o):=⟨hm.to,hm.fr,fun q=>hm.ne q.symm,hs,hk⟩
theorem a1H.one {k b s:Int} (hk:k=1∨k=4) (hb:1≤b∧b≤3000):a1H ⟨k,0,0,b,s,zE,[]⟩:=.inl ⟨hk,hb,rfl,rfl⟩
theorem a1H.accept {b s:Int} {e:l8} (hb:1≤b∧b≤3000) (hs:s<40) (he:B8 e=true):a1H ⟨3,0,0,b,s,e,[]⟩:=.inr (.inr (.inl ⟨rfl,hb,hs,he,rfl⟩))
theorem a1H.chosen {s:Int} {e:l8} (hs:s<40) (he:B8 e=true):a1H ⟨5,0,0,0,s,e,[]⟩:=.inr (.inr (.inr (.inl ⟨rfl,rfl,hs,he,rfl⟩)))
theorem a1H.refuse {b:Int} (hb:1≤b∧b≤3000):a1H ⟨6,0,0,b,0,zE,[]⟩:=.inr (.inr (.inr (.inr (.inl ⟨rfl,hb,rfl,rfl,rfl⟩))))
theorem a1H.ask {e:l8} (he:B8 e=true) (hn:e.i0=false):a1H ⟨7,0,0,0,0,e,[]⟩:=.inr (.inr (.inr (.inr (.inr (.inl ⟨rfl,rfl,rfl,he,hn,rfl⟩)))))
theorem a1H.need {s:Int}:a1H ⟨8,0,0,0,s,zE,[]⟩:=.inr (.inr (.inr (.inr (.inr (.inr ⟨rfl,rfl,rfl,rfl⟩)))))
structure a1a (n:j4) (x:j4×List l9):Prop where
 ni:NI x.1
 id:x.1.Id=n.Id
 ms : ∀ m∈x.2,MI m
theorem a1a.same {n:j4} (h:NI n):a1a n (n,[]):=⟨h,rfl,by simp⟩
theorem a1a.to {n n':j4} (hi:n'.Id=n.Id) {x:j4×List l9} (h:a1a n' x):a1a n x:=⟨h.ni,h.id.trans hi,h.ms⟩
theorem b4Z {n:j4} (h:NI n):a1a n (a1T n):=by
 unfold a1T
 cases hc:n.d7 != 2||decide (40≤n.a6.length)
 ·simp only [cond_false]
  simp only [Bool.or_eq_false_iff,bne_eq_false_iff_eq,decide_eq_false_iff_not] at hc
  obtain ⟨q,hq,hql,hqm,hqe⟩:=c7p n
  cases hx:a4U n with
  | mk x o =>
  rw [hx] at hq hqe
  have hq:x={ n with b7:=q }:=hq
  have hn:NI { n with b7:=q }:=h.queue (by have:=h.ql; omega) fun e he=>h.qs e (hqm e he)
  subst hq
  cases o with
  | none=>exact ⟨hn,rfl,by simp⟩
  | some e =>
   have he:=(hqe e rfl).right h
   simp only [b24]
   have ho:Own n:=by
    rcases h.ld with q | q | q | q
    ·omega
    ·omega
    ·exact q.2.1
    ·omega
   cases hcs:a0Z n.Acc n.a7 (n.a6.length:Int) e with
   | none=>exact ⟨hn.down,rfl,by simp⟩
   | some a =>
    have hac:=hn.cast (b:=n.a7) (s:=(n.a6.length:Int)) (e:=e) hcs
    obtain ⟨k,hk,hk40,_,h1,h2,h3,rfl⟩:=d3c hcs
    refine ⟨⟨h.id,hac.pr,hac.vl,hac.vs,h.kl,h.ks,h.sq,hn.ql,hn.qs,?_,h.wt⟩,rfl,a6Y h.id (.accept ⟨h1,h2⟩ (by omega) he) (by simp only; omega)⟩
    refine .inr (.inr (.inr ⟨rfl,⟨ho.b1,ho.b2,ho.mod,Int.le_refl _,ho.bl,ho.bs⟩,?_,he,(c4f h.id).1,(c4f h.id).2,by simp only; omega⟩))
    rcases h.ld with q | q | q | q
    ·omega
    ·omega
    ·exact q.2.2.1
    ·omega
 ·exact .same h
theorem NI.know {n:j4} (h:NI n) {e:l8} (he:B8 e=true) (hl:n.a6.length<40):NI (a1E n e):=by
 have hks : ∀ x∈n.a6++[e],B8 x=true:=by
  intro x hx
  rcases List.mem_append.1 hx with q | q
  ·exact h.ks x q
  ·rw [List.mem_singleton.1 q]; exact he
 have hkl:(n.a6++[e]).length≤40:=by simp; omega
 unfold a1E
 by_cases p3:n.d7=3
 ·rw [show (n.d7==3)=true by simpa using p3]
  refine ⟨h.id,h.pr,h.vl,h.vs,hkl,hks,h.sq,h.ql,h.qs,?_,h.wt⟩
  rcases h.ld with q | q | q | q
  ·omega
  ·omega
  ·omega
  ·exact .inr (.inr (.inl ⟨rfl,⟨q.2.1.b1,q.2.1.b2,q.2.1.mod,q.2.1.pr,q.2.1.bl,q.2.1.bs⟩,q.2.2.1,rfl,rfl⟩))
 ·rw [show (n.d7==3)=false by simpa using p3]
  refine ⟨h.id,h.pr,h.vl,h.vs,hkl,hks,h.sq,h.ql,h.qs,?_,h.wt⟩
  rcases h.ld with q | q | q | q
  ·exact .inl q
  ·exact .inr (.inl ⟨q.1,⟨q.2.1.b1,q.2.1.b2,q.2.1.mod,q.2.1.pr,q.2.1.bl,q.2.1.bs⟩,q.2.2⟩)
  ·exact .inr (.inr (.inl ⟨q.1,⟨q.2.1.b1,q.2.1.b2,q.2.1.mod,q.2.1.pr,q.2.1.bl,q.2.1.bs⟩,q.2.2⟩))
  ·exact absurd q.1 p3
theorem e9C {s:q7} {e:l8} (hn:e.i0=false):0≤(apply s e).2∧(apply s e).2≤4:=by
 have hf:0≤(a3g s e).2∧(a3g s e).2≤4:=by
  unfold a3g
  cases a5Q s.d8 e.b6
  ·exact ⟨by simp,by simp⟩
  ·cases e.b6.Code==0<;>exact ⟨by simp,by simp⟩
 unfold apply
 rw [hn]
 simp only [cond_false]
 cases s.g8.find? fun d=>d.a5.c8==e.a5.c8 with
 | none=>exact hf
 | some d =>
  simp only
  cases d.a5.Seq==e.a5.Seq
  ·cases decide (d.a5.Seq>e.a5.Seq)
   ·exact hf
   ·exact ⟨by simp,by simp⟩
  ·exact ⟨by simp,by simp⟩
theorem d72 {l:List l8} {q:n5} {k:Nat} (h:l.findIdx? (L5 q)=some k) : ∃ hk:k<l.length,l[k].i0=false∧l[k].a5=q:=by
 rw [List.findIdx?_eq_some_iff_getElem] at h
 obtain ⟨hk,h1,_⟩:=h
 unfold L5 at h1
 simp only [Bool.and_eq_true,Bool.not_eq_true'] at h1
 exact ⟨hk,h1.1,d5G.1 h1.2⟩
theorem e6L {l:List l8} (h:L0 l=true) {k:Nat} (hk:k<l.length):a0Q l k=(apply (r9 (l.take k)).1 l[k]).2:=by
 obtain ⟨a,b⟩:=a2V h
 unfold a0Q
 rw [c2q a b hk]; rfl
theorem f0t {l:List l8} (h : ∀ e∈l,B8 e=true) (q:n5) : -1000000≤a37 l q∧a37 l q≤1000000:=by
 unfold a37
 cases hf:l.findIdx? (L5 q) with
 | none=>exact ⟨by simp,by simp⟩
 | some k =>
  obtain ⟨hk,h1,h2⟩:=d72 hf
  simp only [List.getElem?_eq_getElem hk]
  exact (a8A (b1i (h _ (List.getElem_mem hk)) h1).2.2.1).2.1
theorem e0K {n:j4} (h:NI n):NI (a2C n).1 ∧ ∀ t∈(a2C n).2,a0t t=true:=by
 rcases b98 n with q | ⟨k,hb,hk,q⟩<;>rw [q]
 ·exact ⟨h,by simp⟩
 ·refine ⟨h.freeN,fun t ht => ?_⟩
  obtain ⟨hkl,h1,h2⟩:=d72 hk
  have ht:=List.mem_singleton.1 ht
  subst ht
  have hw:n.b8.a5=⟨n.Id,n.Seq⟩∧B8 n.b8=true∧n.b8.i0=false:=by
   rcases h.wt with q | q
   ·exact ⟨q.2.2.2.2,q.2.2.1,q.2.2.2.1⟩
   ·rw [hb] at q; cases q.1
  obtain ⟨w1,w2,_⟩:=b1i hw.2.1 hw.2.2
  have hc:=e9C (s:=(r9 (n.a6.take k)).1) h1
  rw [← e6L h.list hkl] at hc
  have hv:=f0t h.ks n.b8.a5
  unfold a0t
  simp only [Bool.and_eq_true,W5,beq_iff_eq]
  refine ⟨h.id,⟨w1,w2⟩,by rw [hw.1],hc,?_⟩
  cases a0Q n.a6 k==0
  ·exact ⟨by simp,by simp⟩
  ·exact hv
structure a8Y (n:j4) (x:j4×List l9×List n4):Prop where
 ni:NI x.1
 id:x.1.Id=n.Id
 ms : ∀ m∈x.2.1,MI m
 ts : ∀ t∈x.2.2,a0t t=true
theorem a1a.three {n:j4} {x:j4×List l9} (h:a1a n x):a8Y n (x.1,x.2,[]):=⟨h.ni,h.id,h.ms,by simp⟩
theorem a8Y.same {n:j4} (h:NI n):a8Y n (n,[],[]):=⟨h,rfl,by simp,by simp⟩
theorem d2h {n:j4} (h:NI n) {e:l8} (he:B8 e=true) (hl:n.a6.length<40):a8Y n (a5z n e):=by
 have h1:=h.know he hl
 obtain ⟨h2,h3⟩:=e0K h1
 have h4:=b4Z h2
 exact ⟨h4.ni,h4.id.trans ((c9N _).trans (d7z _ _)),h4.ms,h3⟩
theorem f00 {a:A0} {b:Int} (h:a0A a b=none) (hb:1≤b∧b≤3000):b<a.d9:=by
 by_cases q:a.d9≤b
 ·rw [c5x hb.1 hb.2 q] at h; cases h
 ·omega
theorem e62 {n:j4} (h:NI n) {m:l9} (hm:MI m) (hk:m.c9=1):a1a n (a8B n m):=by
 have hb:1≤m.a7∧m.a7≤3000:=by
  rcases hm.kd with q | q | q | q | q | q | q
  ·exact q.2.1
  all_goals exact absurd q.1 (by omega)
 have hs:=hm.sl
 unfold a8B
 cases hp:a0A n.Acc m.a7 with
 | none =>
  have:=f00 hp hb
  refine ⟨h,rfl,fun x hx => ?_⟩
  rw [List.mem_singleton.1 hx]
  exact b16 hm (.refuse (by have:=h.pr; omega)) (by simp)
 | some a =>
  have hn:=(h.promise hp).yield m.a7
  obtain ⟨rfl,_⟩:=c0w hp
  refine ⟨hn,?_,fun x hx => ?_⟩
  ·simp only [a2B]
   cases n.d7 != 0&&decide (m.a7>n.a7)<;>rfl
  ·rw [List.mem_singleton.1 hx]
   have hvl:=h.vl
   refine b16 hm (.inr (.inl ⟨rfl,hb,rfl,⟨by simp; omega,fun v hv=>(h.vs v (List.mem_of_mem_drop hv)).1⟩,by simp; omega⟩)) hs
theorem c6c (n:j4) (b:Int):(a2B n b).Id=n.Id:=by
 unfold a2B
 cases n.d7 != 0&&decide (b>n.a7)<;>rfl
theorem e6s {a:A0} {b:Int} {k:Nat} {e:l8} (h:a0Z a b (k:Int) e=none) (hk:k<40) (he:B8 e=true) (hb:1≤b∧b≤3000):b<a.d9:=by
 by_cases q:a.d9≤b
 ·rw [f4v hk he hb.1 hb.2 q] at h; cases h
 ·omega
theorem e2v {n:j4} (h:NI n) {m:l9} (hm:MI m) (hk:m.c9=3):a1a n (a8z n m):=by
 have hb:(1≤m.a7∧m.a7≤3000)∧m.i5<40∧B8 m.g9=true:=by
  rcases hm.kd with q | q | q | q | q | q | q
  ·omega
  ·omega
  ·exact ⟨q.2.1,q.2.2.1,q.2.2.2.1⟩
  all_goals exact absurd q.1 (by omega)
 have hs:=hm.sl
 obtain ⟨k,hsk⟩ : ∃ k:Nat,m.i5=(k:Int):=⟨m.i5.toNat,by omega⟩
 unfold a8z
 cases hp:a0Z n.Acc m.a7 m.i5 m.g9 with
 | none =>
  rw [hsk] at hp
  have:=e6s hp (by omega) hb.2.2 hb.1
  refine ⟨h,rfl,fun x hx => ?_⟩
  rw [List.mem_singleton.1 hx]
  exact b16 hm (.refuse (by have:=h.pr; omega)) (by simp)
 | some a =>
  refine ⟨(h.cast hp).yield m.a7,c6c _ _,fun x hx => ?_⟩
  rw [List.mem_singleton.1 hx]
  exact b16 hm (.one (.inr rfl) hb.1) hs
theorem e6b {n:j4} (h:NI n) {m:l9} (hm:MI m) (hk:m.c9=2):a1a n (a9e n m):=by
 have hkd:(m.a0.length≤40 ∧ ∀ v∈m.a0,VI v)∧m.i5+m.a0.length≤40:=by
  rcases hm.kd with q | q | q | q | q | q | q
  ·omega
  ·exact ⟨q.2.2.2.1,q.2.2.2.2⟩
  all_goals exact absurd q.1 (by omega)
 have hs:=hm.sl
 have hf:=hm.fr
 unfold a9e
 cases hc:n.d7 != 1||m.a7 != n.a7
 ·simp only [Bool.or_eq_false_iff,bne_eq_false_iff_eq] at hc
  simp only [cond_false]
  have hl:Own n∧n.b5.length=3∧n.b5[n.Id.toNat]?=some true∧n.b9=zE∧n.a0=[]:=by
   rcases h.ld with q | q | q | q
   ·omega
   ·exact q.2
   all_goals exact absurd q.1 (by omega)
  have hbl:=b9X n.i4 (List.replicate m.i5.toNat v0++m.a0)
  have hob:=hl.1.bl
  have hlen:(List.replicate m.i5.toNat v0++m.a0).length≤40:=by simp; omega
  have hbs : ∀ v∈P9 n.i4 (List.replicate m.i5.toNat v0++m.a0),VI v:=fun v hv=>(c9w hv).elim (fun q=>hl.1.bs v q) (fun q=>(List.mem_append.1 q).elim (fun q=>by rw [(List.mem_replicate.1 q).2]; exact .inl rfl) (hkd.1.2 v))
  cases two (n.b5.set m.b5.toNat true)
  ·simp only [cond_false]
   refine ⟨⟨h.id,h.pr,h.vl,h.vs,h.kl,h.ks,h.sq,h.ql,h.qs,.inr (.inl ⟨hc.1,⟨hl.1.b1,hl.1.b2,hl.1.mod,hl.1.pr,by show (P9 _ _).length≤40; omega,hbs⟩,by simp [hl.2.1],?_,hl.2.2.2.1,hl.2.2.2.2⟩),h.wt⟩,rfl,by simp⟩
   show (n.b5.set m.b5.toNat true)[n.Id.toNat]?=some true
   by_cases q:m.b5.toNat=n.Id.toNat
   ·rw [q,List.getElem?_set_self (by have:=h.id; omega)]
   ·rw [List.getElem?_set_ne q]; exact hl.2.2.1
  ·simp only [cond_true]
   refine a1a.to (n:=n) (n':={ n with b5:=[],i4:=P9 n.i4 (List.replicate m.i5.toNat v0++m.a0),d7:=2 }) rfl (b4Z ?_)
   exact ⟨h.id,h.pr,h.vl,h.vs,h.kl,h.ks,h.sq,h.ql,h.qs,.inr (.inr (.inl ⟨rfl,⟨hl.1.b1,hl.1.b2,hl.1.mod,hl.1.pr,by show (P9 _ _).length≤40; omega,hbs⟩,rfl,hl.2.2.2.1,hl.2.2.2.2⟩)),h.wt⟩
 ·exact .same h
end Go.Proofs.YtlbgdppcdchhfaaGreat
