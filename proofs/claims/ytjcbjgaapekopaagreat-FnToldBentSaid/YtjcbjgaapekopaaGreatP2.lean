/- Abstract values and states of the program, functions of the program and what their calls come to, and what follows from it: part 2 of the text that the law leans on; long names are written short. -/
import Derived.Test.YtjcbjgaapekopaaGreatP1
import Derived.WideKeyRuns
import Derived.Below
import Derived.Carry
import Derived.ChangeArms
import Derived.Deep.Slices
import Derived.WideShapes
import Derived.Test.YtjcbjgaapekopaaGreatProg
set_option linter.unusedVariables false
set_option linter.unusedSimpArgs false
set_option linter.unnecessarySimpa false
namespace Go.Proofs.YtjcbjgaapekopaaGreat
open Go
section
variable {cx:Cx} {Γ:S8} {F:Nat→Prop} {ι:Nat→Nat→Value} {S:St} {a:Act} {w:World}
theorem t0.writeX (h:t0 Γ F ι S a w) {g j:Nat} {e e':s6} (he:S.ent g j=some e) (hl:e.live=true) {w':World}
    (hk:w'.os=w.os∧w'.tape=w.tape∧w'.output=w.output) (hsz:w'.heap.size=w.heap.size) (hb : ∀ k,¬ EB w e (ι g j) k→w'.heap[k]?=w.heap[k]?)
    (hn:K3 w w' F→RE w' F (S.setE g j e').D ι e' (ι g j)) {X:List Nat}
    (hX : ∀ k∈X,¬ F k∧(Γ.own k∨Γ.w0.heap.size≤k) ∧ ∀ g' j' e'',S.ent g' j'=some e''→e''.live=true → ¬ EB w e'' (ι g' j') k)
    (hin : ∀ k,EB w' e' (ι g j) k→EB w e (ι g j) k∨k∈X):t0 Γ F ι (S.setE g j e') a w':=by
  have hs:K3 w w' F:=a2h fun k hF=>hb k fun q=>(h.sep g j e k he hl q).1 hF
  have hD : ∀ k,S.D k→(S.setE g j e').D k:=fun k x=>W1.2 x
  have hoth : ∀ g' j' e'',S.ent g' j'=some e''→e''.live=true → ¬ (g'=g∧j'=j) → ∀ k,EB w e'' (ι g' j') k→w'.heap[k]?=w.heap[k]?:=fun g' j' e'' he'' hl'' q k a3a=>hb k fun q'=>q (h.inj g' j' e'' g j e k he'' he hl'' hl a3a q')
  have hone : ∀ g2 j2 e2 k,S.ent g2 j2=some e2→e2.live=true → ¬ (g2=g∧j2=j)→EB w' e' (ι g j) k→EB w' e2 (ι g2 j2) k→False:=by
    intro g2 j2 e2 k h2 l2 q2 k1 k2
    have k2':=(h.ents g2 j2 e2 h2).back (hoth g2 j2 e2 h2 l2 q2) k2
    rcases hin k k1 with x | x
    · exact q2 (h.inj g2 j2 e2 g j e k h2 he l2 hl k2' x)
    · exact (hX k x).2.2 g2 j2 e2 h2 l2 k2'
  exact
    { F0:=h.F0
      F1:=fun k hF=>hsz▸h.F1 k hF
      F2:=h.F2
      kept:=⟨hk.1.trans h.kept.os,hk.2.1.trans h.kept.tape,hk.2.2.trans h.kept.output,hsz▸h.kept.size,fun k hk' hno=>by
        rw [hb k fun q => ?_]
        · exact h.kept.block k hk' hno
        · rcases (h.sep g j e k he hl q).2 with x | x
          · exact hno x
          · omega⟩
      tmps:=by rw [a8Q]; exact h.tmps.imp fun _ _ x=>x.mono hs (fun _ y=>y) hD (fun _ _ _=>rfl)
      ents:=fun g' j' e'' he''=>by
        rw [V4 he] at he''
        split at he''
        · rename_i q
          obtain ⟨rfl,rfl⟩:=q
          injection he'' with he''
          subst he''
          exact hn hs
        · rename_i q
          exact (h.ents g' j' e'' he'').mono hs (fun _ y=>y) hD (fun _ _ _=>rfl) fun k hl'' a3a=>hoth g' j' e'' he'' hl'' q k a3a
      sep:=fun g' j' e'' k he'' hl'' a3a=>by
        rw [V4 he] at he''
        split at he''
        · rename_i q
          obtain ⟨rfl,rfl⟩:=q
          injection he'' with he''
          subst he''
          rcases hin k a3a with x | x
          · exact h.sep g' j' e k he hl x
          · exact ⟨(hX k x).1,(hX k x).2.1⟩
        · rename_i q
          exact h.sep g' j' e'' k he'' hl'' ((h.ents g' j' e'' he'').back (hoth g' j' e'' he'' hl'' q) a3a)
      inj:=fun g1 j1 e1 g2 j2 e2 k h1 h2 l1 l2 k1 k2=>by
        rw [V4 he] at h1 h2
        split at h1<;>split at h2
        · rename_i q1 q2
          exact ⟨q1.1.trans q2.1.symm,q1.2.trans q2.2.symm⟩
        · rename_i q1 q2
          obtain ⟨rfl,rfl⟩:=q1
          injection h1 with h1
          subst h1
          exact (hone g2 j2 e2 k h2 l2 q2 k1 k2).elim
        · rename_i q1 q2
          obtain ⟨rfl,rfl⟩:=q2
          injection h2 with h2
          subst h2
          exact (hone g1 j1 e1 k h1 l1 q1 k2 k1).elim
        · rename_i q1 q2
          exact h.inj g1 j1 e1 g2 j2 e2 k h1 h2 l1 l2 ((h.ents g1 j1 e1 h1).back (hoth g1 j1 e1 h1 l1 q1) k1) ((h.ents g2 j2 e2 h2).back (hoth g2 j2 e2 h2 l2 q2) k2)
      defers:=h.defers
      pins:=fun j c hc=>⟨hD _ (h.pins j c hc).1,(h.pins j c hc).2⟩ }
theorem K0.splice {rows:List (List V)} (h:K0 rows) {idx off:Nat} {r vs:List V} (hr:rows[idx]?=some r) (hv : ∀ v∈vs,v.isRef=false):K0 (rows.set idx (B2 r off vs)):=by
 intro q hq v hm
 rcases List.mem_or_eq_of_mem_set hq with hq | rfl
 ·exact h q hq v hm
 ·unfold B2 at hm
  have hrr:=h r (List.mem_of_getElem? hr)
  rcases List.mem_append.1 hm with hm | hm
  ·rcases List.mem_append.1 hm with hm | hm
   ·exact hrr v (List.mem_of_mem_take hm)
   ·exact hv v hm
  ·exact hrr v (List.mem_of_mem_drop hm)
theorem t0.dput (h:t0 Γ F ι S a w) {g j t sz n:Nat} {o:Bool} {rows:List (List V)} (he:S.ent g j=some (.deep o t sz n rows)) {idx off:Nat} {r vs:List V} {ds:List Value} {fp:List Nat} {ks:List (Nat×Nat)}
  (hr:rows[idx]?=some r) (hoff:off+vs.length≤sz) (hbl:BL w F vs ds fp) (hfps:P6 S w ι ks fp) (hks:ks.Nodup) (hgj:(g,j) ∉ ks) {w':World}
  (hw:w'.os=w.os∧w'.tape=w.tape∧w'.output=w.output) (hsz:w'.heap.size=w.heap.size) (hb : ∀ k,C3 (ι g j)≠some k→w'.heap[k]?=w.heap[k]?)
  (hnew : ∀ flat,w.ownsRow 0 t sz (ι g j) n flat→w'.ownsRow 0 t sz (ι g j) n (B2 flat (idx * sz+off) ds)) :
  t0 Γ F ι (S.upds (H1 ks++[((g,j),.deep o t sz n (rows.set idx (B2 r off vs)))])) a w':=by
 obtain ⟨flat,fs,hor,hkl,hn,hl,hnd,hnr⟩:=h.ents g j _ he
 have h1:=h.killAll ks fun id hid=>by
  obtain ⟨e,he,_⟩:=hfps.live id hid
  exact ⟨e,he⟩
 have he1:(S.upds (H1 ks)).ent g j=some (.deep o t sz n rows):=by rw [c8F hgj]; exact he
 have hidx:=(List.getElem?_eq_some_iff.1 hr).1
 have hpos:idx * sz+sz≤n * sz:=by rw [← Nat.succ_mul]; exact Nat.mul_le_mul_right _ (by omega)
 obtain ⟨fa,fm,fb,rfl,hrow,_⟩:=hkl.splice (k:=idx * sz+off) hbl.kl (by rw [a4N hl,hn]; omega)
 rw [← a8b hl hr hoff] at hrow
 have hfpx : ∀ k∈fp,¬ F k∧(Γ.own k∨Γ.w0.heap.size≤k)∧k ∉ F4 (ι g j)++(fa++(fm++fb)) ∧ ∀ g' j' e'',(S.upds (H1 ks)).ent g' j'=some e''→e''.live=true → ¬ EB w e'' (ι g' j') k:=by
  intro k hk
  obtain ⟨id,hid,e',he',hl',hb'⟩:=hfps.mem hk
  obtain ⟨z1,z2⟩:=h.sep _ _ e' k he' hl' hb'
  refine ⟨z1,z2,?_,?_⟩
  ·intro q
   obtain ⟨y1,y2⟩:=h.inj _ _ _ _ _ _ k he he' rfl hl' ((EB.deep_iff hor hkl).2 q) hb'
   exact hgj (by rw [show (g,j)=id from Prod.ext y1 y2]; exact hid)
  ·intro g' j' e'' he'' hl'' hb''
   rcases b0b _ he'' with ⟨_,rfl⟩ | ⟨q1,q2⟩
   ·cases hl''
   ·obtain ⟨y1,y2⟩:=h.inj _ _ _ _ _ _ k q2 he' hl'' hl' hb'' hb'
    exact q1 (by rw [show (g',j')=id from Prod.ext y1 y2]; exact hid)
 have hnd2:(F4 (ι g j)++(fa++fb)).Nodup:=by
  refine List.Nodup.sublist ?_ hnd
  exact List.Sublist.append_left (List.Sublist.append_left (List.sublist_append_right _ _) _) _
 have hnd':(F4 (ι g j)++(fa++(fp++fb))).Nodup:=by
  refine (a8y (a8y (List.Perm.refl (fp++fb)))).nodup_iff.2 ?_
  refine List.nodup_append.2 ⟨P6.nodup h hfps hks,hnd2,?_⟩
  intro k hk k' hk' hkk
  subst hkk
  refine (hfpx k hk).2.2.1 ?_
  simp only [List.mem_append] at hk' ⊢
  rcases hk' with q | q | q<;>simp [q]
 have hre:K3 w w' F→RE w' F ((S.upds (H1 ks)).setE g j (.deep o t sz n (rows.set idx (B2 r off vs)))).D ι (.deep o t sz n (rows.set idx (B2 r off vs))) (ι g j):=by
  intro hs
  refine ⟨_,_,hnew flat hor,hrow.mono hs (fun _ x=>x) (fun k x=>W1.2 ((a1z S k _).2 x)) (fun _ _ _=>rfl) ?_,by simpa using hn,?_,hnd',fun q=>(hnr q).splice hr hbl.noRef⟩
  ·intro k hk
   refine hb k fun q => ?_
   exact (List.nodup_append.1 hnd').2.2 k (X1.2 q) k hk rfl
  ·intro q hq
   rcases List.mem_or_eq_of_mem_set hq with hq | rfl
   ·exact hl q hq
   ·have:=hl r (List.mem_of_getElem? hr)
    rw [a35 _ _ _ (by omega)]
    exact this
 rw [St.upds_append]
 refine h1.writeX he1 rfl hw hsz (fun k hk=>hb k fun q=>hk (EB.top q)) hre (X:=fp) (fun k hk=>⟨(hfpx k hk).1,(hfpx k hk).2.1,(hfpx k hk).2.2.2⟩) ?_
 intro k hk
 have hs:K3 w w' F:=a2h fun k hF=>hb k fun q=>(h.sep g j _ k he rfl (EB.top q)).1 hF
 obtain ⟨flat2,fs2,ho2,hkl2,_⟩:=hre hs
 have hk2:=(EB.deep_iff ho2 hkl2).1 hk
 have hkl3:=hrow.mono (w':=w') hs (fun _ x=>x) (fun k x=>x) (fun _ _ _=>rfl) (fun k hk=>hb k fun q=>(List.nodup_append.1 hnd').2.2 k (X1.2 q) k hk rfl)
 have hfl:=b0o ho2 (hnew flat hor) (fun _ _=>rfl)
 subst hfl
 rw [hkl2.det hkl3 (fun _ _=>rfl)] at hk2
 simp only [List.mem_append] at hk2
 rw [EB.deep_iff hor hkl]
 simp only [List.mem_append]
 rcases hk2 with q | q | q | q<;>simp [q]
def b0E (cx:Cx) (ty:Nat) (x y:V) (r:List V) (ck om:List (Option Nat)):j4 C1 :=
 match cx.T ty,y.cells with
 | some ti,some vs=>match x with
  | .eptr g j sz idx off=>j4.bind (j4.rd g j) fun e=>j4.bind (a23 ck om vs) fun f=>match e with
   | .deep o t sz' n rows=>if sz'=sz∧vs.length=ti.size∧off+vs.length≤sz∧f.ls.isEmpty∧a3M f.ks∧a22 f.ks (g,j)=false then
     j4.pure { v:=.bot,upd:=H1 f.ks++[((g,j),.deep o t sz n (rows.set idx (B2 r off f.v)))],obl:=(rows[idx]?=some r)::f.obl }
    else j4.no
   | _=>j4.no
  | _=>j4.no
 | _,_=>j4.no
theorem BL.len {F:Nat→Prop} : ∀ {vs:List V} {cs:List Value} {f:List Nat},BL w F vs cs f→vs.length=cs.length
 | _,_,_,.nil=>rfl
 | _,_,_,.cons _ _ _ _ _ _ _ t=>by simp [BL.len t]
theorem d41 (h:t0 Γ F ι S a w) {grp:Nat} {ob:Oper} {ty:Nat} {x y:Operand} {r:List V} {ck om:List (Option Nat)} (ho:ob.op = .store ty x y) (hd:ob.dst=none) {out:C1} {lg:List (Nat×Nat)} (hp:b0E cx ty (s5 S.t x) (s5 S.t y) r ck om S.ent=some (out,lg)) (hob : ∀ p∈out.obl,p):a0u cx.P Γ ι S grp ob out a w:=by
 have hx:=E3 h.tmps x
 have hy:=E3 h.tmps y
 unfold b0E at hp
 cases hti:cx.T ty with
 | none=>rw [hti] at hp; cases hp
 | some ti =>
 cases hvs:(s5 S.t y).cells with
 | none=>rw [hti,hvs] at hp; cases hp
 | some vs =>
 rw [hti,hvs] at hp
 simp only at hp
 obtain ⟨i,d,z,htf⟩:=cx.tf hti
 have hcells:=hy.cells hvs
 have hone:=hcells.all_one
 have hclen:vs.length=(a.eval y).cells.size:=by simpa using hcells.length
 generalize s5 S.t x=xv at hp hx
 cases xv<;>try (cases hp; done)
 case eptr g j sz idx off =>
  obtain ⟨hD,b,hι,hc⟩:=hx.inv_eptr
  obtain ⟨e,l1,l2,hrd,hp',hl12⟩:=j4.bind_some hp
  clear hp
  have he:=(j4.rd_some hrd).1
  simp only at he
  obtain ⟨f,l3,l4,hf,hp'',hl34⟩:=j4.bind_some hp'
  clear hp'
  cases e<;>try (cases hp''; done)
  rename_i o t sz' n rows
  simp only at hp''
  split at hp''<;>try (cases hp''; done)
  rename_i hcond
  obtain ⟨rfl,hc1,hc2,hc3,hc4,hc5⟩:=hcond
  have:=j4.pure_some hp''
  injection this with h2 h3
  subst h2
  have hr:rows[idx]?=some r:=hob _ (List.mem_cons.2 (.inl rfl))
  have hls:f.ls=[]:=List.isEmpty_iff.1 hc3
  obtain ⟨fp,hbl,hfps,hh⟩:=b2f (F1:=F) h (fun _ x=>x) hcells hf (fun p hp=>hob p (List.mem_cons.2 (.inr hp))) (by rw [hls]; intro id hid; cases hid)
  obtain ⟨flat0,fs0,hor0,hkl0,hn0,hl0,_⟩:=h.ents g j _ he
  have hidx:=(List.getElem?_eq_some_iff.1 hr).1
  have hvl:f.v.length=vs.length:=by rw [hbl.len,hclen]; simp
  rcases hor0.2 with ⟨hv,h0⟩ | ⟨g0,cap,cur,hv,hbg,hg,hnc,hcm,hcs,ht⟩
  ·omega
  ·have hb:b=g0:=by rw [hv] at hι; simp [C3] at hι; omega
   subst hb
   have hcl:n * sz'≤cur.size:=by rw [hcs]; exact Nat.mul_le_mul_right _ hnc
   have hpos:idx * sz'+sz'≤n * sz':=by rw [← Nat.succ_mul]; exact Nat.mul_le_mul_right _ (by omega)
   have hrun:=b8H (P:=cx.P) ho htf hc hg (by omega) (by omega) hone
   refine ⟨_,undef,_,F,ι,hrun,.inr ⟨rfl,rfl⟩,?_⟩
   rw [hd,b2o,b11]
   refine h.dput he hr (by omega) hbl hfps (a5n hc4) (fun q=>by rw [a50.2 q] at hc5; cases hc5) ⟨rfl,rfl,rfl⟩ (b2l _ _ _) (fun k hk=>setRow_other w b k _ fun q=>hk (by rw [hι,q])) ?_
   intro flat hor
   have hfl:=b0o hor hor0 (fun _ _=>rfl)
   subst hfl
   have hflat:flat.length=n * sz':=hor.1
   refine ⟨?_,.inr ⟨b,cap,_,hv,hbg,setRow_heap w b cur _ t (0,0) hg,hnc,hcm,?_,?_⟩⟩
   ·rw [a35 _ _ _ (by simp; omega)]; exact hor.1
   ·rw [List.size_toArray,a35 _ _ _ (by simp; omega)]; simpa using hcs
   ·rw [← ht]
    exact c4O _ _ _ _ (by simp; omega) (by simpa using hcl)
theorem c1I {t sz n:Nat} {rows:List (List V)} {c:Value} {flat:List Value} {b idx off m:Nat} {r:List V} (ho:w.ownsRow 0 t sz c n flat) (hn:rows.length=n) (hl : ∀ r∈rows,r.length=sz) (hb:C3 c=some b) (hr:rows[idx]?=some r) (hoff:off+m≤sz) :
  R9 w b (idx * sz+off) ((flat.drop (idx * sz+off)).take m)∧((rows.flatten.drop (idx * sz+off)).take m=(r.drop off).take m)∧idx * sz+off+m≤rows.flatten.length:=by
 have hidx:=(List.getElem?_eq_some_iff.1 hr).1
 have hpos:idx * sz+sz≤n * sz:=by rw [← Nat.succ_mul]; exact Nat.mul_le_mul_right _ (by omega)
 refine ⟨?_,?_,by rw [a4N hl,hn]; omega⟩
 ·rcases ho.2 with ⟨hv,h0⟩ | ⟨g0,cap,cur,hv,_,hg,hnc,hcm,hcs,ht⟩
  ·rw [hv] at hb; cases hb
  ·rw [hv] at hb
   simp [C3] at hb
   subst hb
   have hseg:R9 w g0 0 flat:=by
    rw [← ht]
    have:=(a6p hg 0).take (n * sz)
    simpa using this
   have:=(hseg.drop (idx * sz+off)).take m
   simpa using this
 ·rw [← b3j hl hr,List.drop_take,List.take_take,List.drop_drop]
  congr 1
  omega
def b2A (cx:Cx) (grp ty:Nat) (x:V) (r:List V):j4 C1 :=
 match cx.T ty with
 | none=>j4.no
 | some ti=>match x with
  | .eptr g j sz idx off=>j4.bind (j4.rd g j) fun e=>match e with
   | .deep _ t sz' n rows =>
    let m:=if ti.agg then ti.size else 1
    let y:=N4 grp 0 ((r.drop off).take m)
    if sz'=sz∧off+m≤sz∧((r.drop off).take m).all (fun v => !v.isRef) then
     match Z4 ti y.1 with
     | some v=>j4.pure { v:=v,new:=some y.2,upd:=[((g,j),.deep true t sz n (rows.set idx (B2 r off y.1)))],obl:=[rows[idx]?=some r] }
     | none=>j4.no
    else j4.no
   | _=>j4.no
  | _=>j4.no
theorem KL.toBL {w:World} {F D:Nat→Prop} {ι:Nat→Nat→Value} {vs:List V} {cs:List Value} {f:List Nat} (h:KL w F D ι vs cs f) (hv:vs.all (fun v => !v.isRef)=true):BL w F vs cs f:=by
 refine h.blOf fun v hm => ?_
 have:=List.all_eq_true.1 hv v hm
 simpa using this
theorem d00 (grp:Nat) : ∀ (vs:List V) (j:Nat),(N4 grp j vs).1.length=vs.length
 | [],_=>rfl
 | v::vs,j=>by simp [N4,d00 grp vs]
theorem e3H {S:St} {g j:Nat} {e e':s6}:(S.setE g j e).setE g j e'=S.setE g j e':=by
 cases hx:S.h[g]? with
 | none=>unfold St.setE; simp [hx]
 | some o=>cases o with
  | none=>unfold St.setE; simp [hx]
  | some l =>
   have hlt:=(List.getElem?_eq_some_iff.1 hx).1
   rw [a4a hx,a4a hx,a4a (l:=l.set j e) (by simp [hlt])]
   simp only [List.set_set]
set_option maxHeartbeats 800000 in
theorem e7Q (h:t0 Γ F ι S a w) {grp:Nat} (hg:grp<S.h.length) (hn : ¬ S.D grp) {ob:Oper} {ty:Nat} {x:Operand} {r:List V} (ho:ob.op = .load ty x) {out:C1} {lg:List (Nat×Nat)} (hp:b2A cx grp ty (s5 S.t x) r S.ent=some (out,lg)) (hob : ∀ p∈out.obl,p):a0u cx.P Γ ι S grp ob out a w:=by
 have hx:=E3 h.tmps x
 unfold b2A at hp
 cases hti:cx.T ty with
 | none=>rw [hti] at hp; cases hp
 | some ti =>
 rw [hti] at hp
 obtain ⟨i,d,z,htf⟩:=cx.tf hti
 generalize s5 S.t x=xv at hp hx
 cases xv<;>try (cases hp; done)
 case eptr g j sz idx off =>
  obtain ⟨hD,b,hι,hc⟩:=hx.inv_eptr
  obtain ⟨e,l1,l2,hrd,hp',hl12⟩:=j4.bind_some hp
  clear hp
  have he:=(j4.rd_some hrd).1
  simp only at he
  cases e<;>try (cases hp'; done)
  rename_i o t sz' n rows
  simp only at hp'
  obtain ⟨m,hm⟩ : ∃ m,(if ti.agg=true then ti.size else 1)=m:=⟨_,rfl⟩
  rw [hm] at hp'
  split at hp'<;>try (cases hp'; done)
  rename_i hcond
  obtain ⟨rfl,hc1,hc2⟩:=hcond
  obtain ⟨y,hy⟩ : ∃ y,N4 grp 0 ((r.drop off).take m)=y:=⟨_,rfl⟩
  rw [hy] at hp'
  cases hrv:Z4 ti y.1 with
  | none=>rw [hrv] at hp'; cases hp'
  | some v =>
  rw [hrv] at hp'
  have:=j4.pure_some hp'
  injection this with h2 h3
  subst h2
  have hr:rows[idx]?=some r:=hob _ (by simp)
  obtain ⟨flat,fs,hor,hkl,hrn,hl,hnd,hnr⟩:=h.ents g j _ he
  obtain ⟨hseg,hmid,hle⟩:=c1I hor hrn hl hι hr hc1
  have hrl:=hl r (List.mem_of_getElem? hr)
  have hml:((r.drop off).take m).length=m:=by simp; omega
  have hgg:g≠grp:=fun q=>hn (q▸hD)
  obtain ⟨k,hk⟩ : ∃ k,idx * sz'+off=k:=⟨_,rfl⟩
  rw [hk] at hseg hmid hle
  obtain ⟨fa,fm,fb,rfl,ka,km,kb⟩:=hkl.cut (k:=k) (m:=m) hle
  rw [hmid] at km
  have hbl:=km.toBL hc2
  have hds:(flat.drop k).take m=((flat.drop k).take m):=rfl
  have hflen:flat.length=rows.flatten.length:=hkl.len.symm
  have hspl : ∀ us:List V,us.length=m→(rows.set idx (B2 r off us)).flatten=rows.flatten.take k++(us++rows.flatten.drop (k+m)):=by
   intro us hus
   rw [a8b hl hr (by omega),hk]
   unfold B2
   rw [hus,List.append_assoc]
  have hfs:flat=flat.take k++((flat.drop k).take m++flat.drop (k+m)):=by
   rw [← List.drop_drop,List.take_append_drop,List.take_append_drop]
  have hrl' : ∀ us:List V,us.length=m → ∀ q∈rows.set idx (B2 r off us),q.length=sz':=by
   intro us hus q hq
   rcases List.mem_or_eq_of_mem_set hq with hq | rfl
   ·exact hl q hq
   ·rw [a35 _ _ _ (by omega)]; exact hrl
  have hnd2:(F4 (ι g j)++(fa++fb)).Nodup:=List.Nodup.sublist (List.Sublist.append_left (List.Sublist.append_left (List.sublist_append_right _ _) _) _) hnd
  have hndm:fm.Nodup:=(List.nodup_append.1 (List.nodup_append.1 (List.nodup_append.1 hnd).2.1).2.1).1
  have hdm : ∀ k∈fm,k ∉ F4 (ι g j)++(fa++fb):=by
   intro q hq hq'
   have hp:=(a8y (C:=F4 (ι g j)) (a8y (C:=fa) (List.Perm.refl (fm++fb)))).nodup_iff.1 hnd
   exact (List.nodup_append.1 hp).2.2 q hq q hq' rfl
  obtain ⟨us0,hus0⟩ : ∃ us:List V,us=((r.drop off).take m).map fun _=>V.bot:=⟨_,rfl⟩
  have hus0l:us0.length=m:=by rw [hus0,List.length_map,hml]
  have kl0 : ∀ {D':Nat→Prop} {ι':Nat→Nat→Value},(∀ k,S.D k→D' k)→(∀ g j,S.D g→ι' g j=ι g j) → ∀ {us:List V},us.length=m→KL w F D' ι' us ((flat.drop k).take m) []→KL w F D' ι' (rows.set idx (B2 r off us)).flatten flat (fa++([]++fb)):=by
   intro D' ι' h1 h2 us hus hku
   rw [hspl us hus,hfs]
   have l1:(flat.take k).length=k:=by simp; omega
   have e1:(flat.take k++((flat.drop k).take m++flat.drop (k+m)))=flat:=hfs.symm
   exact (ka.mono (fun _ _ _=>rfl) (fun _ x=>x) h1 h2 (fun _ _=>rfl)).app (hku.app (kb.mono (fun _ _ _=>rfl) (fun _ x=>x) h1 h2 (fun _ _=>rfl)))
  have hmem0 : ∀ q,q∈F4 (ι g j)++(fa++([]++fb))→q∈F4 (ι g j)++(fa++(fm++fb)):=by
   intro q hq
   simp only [List.mem_append,List.not_mem_nil,false_or] at hq ⊢
   rcases hq with x | x | x<;>simp [x]
  have rel1:t0 Γ F ι (S.setE g j (.deep true t sz' n (rows.set idx (B2 r off us0)))) a w:=by
   have k1:=kl0 (D':=S.D) (ι':=ι) (fun _ x=>x) (fun _ _ _=>rfl) hus0l (hus0▸km.bots)
   refine h.write he rfl ⟨rfl,rfl,rfl⟩ rfl (fun _ _=>rfl) (fun _ => ?_) ?_
   ·exact ⟨flat,_,hor,k1.mono (fun _ _ _=>rfl) (fun _ x=>x) (fun k x=>W1.2 x) (fun _ _ _=>rfl) (fun _ _=>rfl),by simpa using hrn,hrl' _ hus0l,by simpa using hnd2,fun q=>by cases q⟩
   ·intro q hq
    exact (EB.deep_iff hor hkl).2 (hmem0 q ((EB.deep_iff hor k1).1 hq))
  have he1:(S.setE g j (.deep true t sz' n (rows.set idx (B2 r off us0)))).ent g j=some (.deep true t sz' n (rows.set idx (B2 r off us0))):=by rw [V4 he]; simp
  obtain ⟨bs,hbsl,hhas,hth⟩:=a7L (grp:=grp) hbl 0
  rw [hy] at hbsl hhas hth
  obtain ⟨ι',hι'⟩ : ∃ ι',ι'=a48 ι grp bs:=⟨_,rfl⟩
  have hne : ∀ g j,g≠grp→ι' g j=ι g j:=fun g j q=>by rw [hι']; exact c3J q
  have hlenS:grp<(S.setE g j (.deep true t sz' n (rows.set idx (B2 r off us0)))).h.length:=by rw [b0X]; exact hg
  have hnD : ¬ (S.setE g j (.deep true t sz' n (rows.set idx (B2 r off us0)))).D grp:=fun q=>hn (W1.1 q)
  have hDg:=a1I (S:=S.setE g j (.deep true t sz' n (rows.set idx (B2 r off us0)))) (new:=y.2) hlenS
  obtain ⟨hrc,hlie⟩:=hth ((S.setE g j (.deep true t sz' n (rows.set idx (B2 r off us0)))).lay grp y.2).D ι' hDg (fun q c hq=>by rw [hι',Nat.zero_add]; exact a5S hq) hndm
  have hvb : ∀ (q:Nat) (e:s6),y.2[q]?=some e→bs[q]?=some (ι' grp q):=by
   intro q e hq
   have hlt:q<bs.length:=by rw [hbsl]; exact (List.getElem?_eq_some_iff.1 hq).1
   have hv:ι' grp q=bs[q]:=by rw [hι']; exact a5S (List.getElem?_eq_getElem hlt)
   rw [hv]
   exact List.getElem?_eq_getElem hlt
  have hmB : ∀ k∈fm,EB w (.deep o t sz' n rows) (ι g j) k:=fun k hk=>(EB.deep_iff hor hkl).2 (by simp [hk])
  have k1:=kl0 (D':=S.D) (ι':=ι) (fun _ x=>x) (fun _ _ _=>rfl) hus0l (hus0▸km.bots)
  have rel2:=rel1.lay hlenS hnD (new:=y.2) (ι':=ι') hne (fun q e he=>hlie q e _ he (hvb q e he))
   (fun q e k he hl hk=>h.sep _ _ _ k ‹S.ent g j=some (.deep o t sz' n rows)› rfl (hmB k (hhas.mem he (hvb q e he) hk)))
   (fun q e q' e' k he he' hl hl' hk hk'=>hhas.inj hndm he (hvb q e he) hk he' (hvb q' e' he') hk')
   (fun q e g' j' e' k he0 he' hl hl' hk hk'=>by
    have hkm:=hhas.mem he0 (hvb q e he0) hk
    rw [V4 he] at he'
    split at he'
    ·rename_i qq
     obtain ⟨rfl,rfl⟩:=qq
     injection he' with he'
     subst he'
     exact hdm k hkm (by simpa using (EB.deep_iff hor k1).1 hk')
    ·rename_i qq
     exact qq (h.inj _ _ _ _ _ _ k he' he hl' rfl hk' (hmB k hkm)))
  have he2:((S.setE g j (.deep true t sz' n (rows.set idx (B2 r off us0)))).lay grp y.2).ent g j=some (.deep true t sz' n (rows.set idx (B2 r off us0))):=by rw [a8s hgg]; exact he1
  have hyl:y.1.length=m:=by rw [← hy,d00,hml]
  have hor':w.ownsRow 0 t sz' (ι' g j) n flat:=by rw [hne g j hgg]; exact hor
  have hDD : ∀ k,S.D k→((S.setE g j (.deep true t sz' n (rows.set idx (B2 r off us0)))).lay grp y.2).D k:=fun k x=>b7f (W1.2 x)
  have hιD : ∀ g' j',S.D g'→ι' g' j'=ι g' j':=fun g' j' x=>hne g' j' fun q=>hn (q▸x)
  have k2:=kl0 (D':=((S.setE g j (.deep true t sz' n (rows.set idx (B2 r off us0)))).lay grp y.2).D) (ι':=ι') hDD hιD hyl (KL.ofRC hrc)
  have k1':=kl0 (D':=((S.setE g j (.deep true t sz' n (rows.set idx (B2 r off us0)))).lay grp y.2).D) (ι':=ι') hDD hιD hus0l (hus0▸km.bots.mono (fun _ _ _=>rfl) (fun _ x=>x) hDD hιD (fun _ _=>rfl))
  have rel3:=rel2.write he2 rfl (e':=.deep true t sz' n (rows.set idx (B2 r off y.1))) ⟨rfl,rfl,rfl⟩ rfl (fun _ _=>rfl)
   (fun _=>⟨flat,_,hor',k2.mono (fun _ _ _=>rfl) (fun _ x=>x) (fun k x=>W1.2 x) (fun _ _ _=>rfl) (fun _ _=>rfl),by simpa using hrn,hrl' _ hyl,by rw [hne g j hgg]; simpa using hnd2,fun q=>by cases q⟩)
   (fun q hq=>(EB.deep_iff hor' k1').2 ((EB.deep_iff hor' k2).1 hq))
  obtain ⟨c,hrd',hvc⟩:=a6n hrc hrv
  refine ⟨_,c,w,F,ι',a6S ho htf (by rw [hc,hk]) hseg hrd',.inl rfl,?_⟩
  have hput:=rel3.put ob.dst (hvc.mono (fun _ _ _=>rfl) (fun _ x=>x) (fun k x=>W1.2 x) (fun _ _ _=>rfl))
  rw [← d3s hgg,e3H] at hput
  exact hput
def V.plainO:V→Bool
 | .own .. => true
 | v=>v.plain
theorem KL.plainO {w:World} {F D:Nat→Prop} {ι:Nat→Nat→Value} : ∀ {vs:List V} {cs:List Value} {f:List Nat},KL w F D ι vs cs f→vs.all V.plainO=true→v6 (RC w F D ι) vs cs
 | _,_,_,.nil,_=>.nil
 | _,_,_,.cons v c f vs cs fs h t,hp=>by
  simp only [List.all_cons,Bool.and_eq_true] at hp
  refine .cons ?_ (KL.plainO t hp.2)
  have hv:=hp.1
  cases h with
  | rc h=>exact h
  | bc _ h=>cases h with
   | fv v c h=>exact .fv _ _ h
   | _=>cases hv
def b2r (cx:Cx) (ty:Nat) (x:V) (r:List V):j4 C1 :=
 match cx.T ty with
 | none=>j4.no
 | some ti=>match x with
  | .eptr g j sz idx off=>j4.bind (j4.rd g j) fun e=>match e with
   | .deep _ t sz' n rows =>
    let m:=if ti.agg then ti.size else 1
    if sz'=sz∧off+m≤sz∧((r.drop off).take m).all V.plainO then
     match Z4 ti ((r.drop off).take m) with
     | some v=>j4.pure { v:=v,obl:=[rows[idx]?=some r] }
     | none=>j4.no
    else j4.no
   | _=>j4.no
  | _=>j4.no
theorem d60 (h:t0 Γ F ι S a w) {grp:Nat} {ob:Oper} {ty:Nat} {x:Operand} {r:List V} (ho:ob.op = .load ty x) {out:C1} {lg:List (Nat×Nat)} (hp:b2r cx ty (s5 S.t x) r S.ent=some (out,lg)) (hob : ∀ p∈out.obl,p):a0u cx.P Γ ι S grp ob out a w:=by
 have hx:=E3 h.tmps x
 unfold b2r at hp
 cases hti:cx.T ty with
 | none=>rw [hti] at hp; cases hp
 | some ti =>
 rw [hti] at hp
 obtain ⟨i,d,z,htf⟩:=cx.tf hti
 generalize s5 S.t x=xv at hp hx
 cases xv<;>try (cases hp; done)
 case eptr g j sz idx off =>
  obtain ⟨hD,b,hι,hc⟩:=hx.inv_eptr
  obtain ⟨e,l1,l2,hrd,hp',hl12⟩:=j4.bind_some hp
  clear hp
  have he:=(j4.rd_some hrd).1
  simp only at he
  cases e<;>try (cases hp'; done)
  rename_i o t sz' n rows
  simp only at hp'
  obtain ⟨m,hm⟩ : ∃ m,(if ti.agg=true then ti.size else 1)=m:=⟨_,rfl⟩
  rw [hm] at hp'
  split at hp'<;>try (cases hp'; done)
  rename_i hcond
  obtain ⟨rfl,hc1,hc2⟩:=hcond
  cases hrv:Z4 ti ((r.drop off).take m) with
  | none=>rw [hrv] at hp'; cases hp'
  | some v =>
  rw [hrv] at hp'
  have:=j4.pure_some hp'
  injection this with h2 h3
  subst h2
  have hr:rows[idx]?=some r:=hob _ (by simp)
  obtain ⟨flat,fs,hor,hkl,hrn,hl,hnd,hnr⟩:=h.ents g j _ he
  obtain ⟨hseg,hmid,hle⟩:=c1I hor hrn hl hι hr hc1
  obtain ⟨fa,fm,fb,rfl,ka,km,kb⟩:=hkl.cut hle
  rw [hmid] at km
  obtain ⟨c,hrd',hvc⟩:=a6n (D:=S.D) (ι:=ι) (km.plainO hc2) hrv
  exact ⟨_,c,w,F,ι,a6S ho htf hc hseg hrd',.inl rfl,by rw [a6M]; exact h.put ob.dst hvc⟩
def b4r (cx:Cx) (grp ty:Nat) (l c:V) (ck om:List (Option Nat)):j4 C1 :=
 match cx.T ty with
 | some ti=>match ti.sl with
  | some e=>match cx.T e with
   | some ei=>match l,c with
    | .i _ n,.i _ n'=>j4.bind (a23 ck om ei.zero) fun f =>
     if f.ks.isEmpty∧f.ls.isEmpty then
      j4.pure { v:=.own grp 0 ei.size 0 n.toNat,new:=some [.deep false e ei.size n.toNat (List.replicate n.toNat f.v)],obl:=[0≤n,n'=n,n * ei.bytes≤140737488355328∧0<ei.bytes,ei.zero.length=ei.size]++f.obl }
     else j4.no
    | _,_=>j4.no
   | none=>j4.no
  | none=>j4.no
 | none=>j4.no
theorem BL.replicate {w:World} {F D:Nat→Prop} {ι:Nat→Nat→Value} {vs:List V} {cs:List Value} (h:KL w F D ι vs cs []) : ∀ n,KL w F D ι (List.replicate n vs).flatten (List.replicate n cs).flatten []
 | 0=>.nil
 | n+1=>by
  rw [List.replicate_succ,List.replicate_succ,List.flatten_cons,List.flatten_cons]
  exact h.app (BL.replicate h n)
theorem e5x (h:t0 Γ F ι S a w) {grp:Nat} (hg:grp<S.h.length) (hn : ¬ S.D grp) {ob:Oper} {ty:Nat} {l c:Operand} (ho:ob.op = .makeSlice ty l c) {ck om:List (Option Nat)} {out:C1} {lg:List (Nat×Nat)} (hp:b4r cx grp ty (s5 S.t l) (s5 S.t c) ck om S.ent=some (out,lg)) (hob : ∀ p∈out.obl,p):a0u cx.P Γ ι S grp ob out a w:=by
 have hl:=E3 h.tmps l
 have hc:=E3 h.tmps c
 unfold b4r at hp
 cases hti:cx.T ty with
 | none=>rw [hti] at hp; cases hp
 | some ti =>
 rw [hti] at hp
 simp only at hp
 cases hs:ti.sl with
 | none=>rw [hs] at hp; cases hp
 | some e =>
 rw [hs] at hp
 simp only at hp
 cases hei:cx.T e with
 | none=>rw [hei] at hp; cases hp
 | some ei =>
 rw [hei] at hp
 simp only at hp
 generalize s5 S.t l=lv at hp hl
 generalize s5 S.t c=cv at hp hc
 cases lv<;>try (cases hp; done)
 cases cv<;>try (cases hp; done)
 rename_i k n k' n'
 simp only at hp
 obtain ⟨f,l1,l2,hf,hp',_⟩:=j4.bind_some hp
 clear hp
 split at hp'<;>try (cases hp'; done)
 rename_i hcond
 have:=j4.pure_some hp'
 injection this with h3 h4
 subst h3
 have p1:0≤n:=hob _ (by simp)
 have p2:n'=n:=hob _ (by simp)
 have p3:n * ei.bytes≤140737488355328∧0<ei.bytes:=hob _ (by simp)
 have p4:ei.zero.length=ei.size:=hob _ (by simp)
 have p5 : ∀ p∈f.obl,p:=fun p hp=>hob p (List.mem_append.2 (.inr hp))
 subst p2
 obtain ⟨m,rfl⟩:=Int.eq_ofNat_of_zero_le p1
 obtain ⟨i,d,z,htf⟩:=cx.tf hti
 obtain ⟨i',d',z',hef⟩:=cx.tf hei
 obtain rfl:=htf.isSl hs
 have hzs:z'.cells.size=ei.size:=by rw [← p4,← hef.zeros]; simp
 have hb1:m * ei.bytes≤140737488355328:=by
  have:=p3.1
  rw [← Int.natCast_mul] at this
  omega
 have hb2:m≤140737488355328:=Nat.le_trans (Nat.le_mul_of_pos_right _ p3.2) hb1
 obtain ⟨w',hr,hown,hgr⟩:=run_make_full (P:=cx.P) w 0 ty e i' z' ei.size htf.und hef.info hef.zero hef.size k k' m (by rw [hef.bytes,Nat.mul_comm]; omega) (by unfold maxLen; omega) (Nat.zero_le _)
 have hrun:(execOp a.eval ob).run cx.P w = .ok (.value (.slice (some ⟨w.heap.size,0,none⟩) m m)) w':=by
  simp [execOp,ho,hl.inv_i,hc.inv_i,hr]
 have hz:v6 (RC w F S.D ι) ei.zero z'.cells.toList:=by
  rw [← hef.zeros]
  exact (FL.ofCells (w:=w) (F:=F) _ hef.one).all2.imp fun _ _ x=>.fv _ _ x
 obtain ⟨fp,hbl,hfps,hh⟩:=b2f (F1:=F) h (fun _ x=>x) hz hf p5 (by rw [List.isEmpty_iff.1 hcond.2]; intro id hid; cases hid)
 have hfp:fp=[]:=by
  rw [List.isEmpty_iff.1 hcond.1] at hfps
  cases hfps
  rfl
 subst hfp
 have hs':K3 w w' F:=a2h fun g hg=>hgr.block g (h.F1 g hg) (by simp)
 have hbl':BL w' F f.v z'.cells.toList []:=hbl.mono hs' (fun _ x=>x) (fun k hk=>by cases hk)
 have hrowl : ∀ r∈List.replicate m f.v,r.length=ei.size:=fun r hr=>by
  rw [(List.mem_replicate.1 hr).2,hbl.len]
  simpa using hzs
 have hkl : ∀ {D:Nat→Prop} {ι:Nat→Nat→Value},KL w' F D ι (List.replicate m f.v).flatten (List.replicate m z'.cells.toList).flatten []:=BL.replicate hbl'.kl m
 have hown':=hown
 rw [← hzs,b7B,hzs] at hown'
 have hor:RE w' F (S.lay grp [.deep false e ei.size m (List.replicate m f.v)]).D (P3 ι grp (.slice (some ⟨w.heap.size,0,none⟩) m m)) (.deep false e ei.size m (List.replicate m f.v)) (.slice (some ⟨w.heap.size,0,none⟩) m m) :=
  ⟨_,[],hown',hkl,by simp,hrowl,by simp [F4,C3],fun _=>K0.of_flat fun v hv=>by
   obtain ⟨q,hq,hv⟩:=List.mem_flatten.1 hv
   rw [(List.mem_replicate.1 hq).2] at hv
   exact hbl.noRef v hv⟩
 have hrel:=h.new1 hg hn hgr (ent:=.deep false e ei.size m (List.replicate m f.v)) (c0:=.slice (some ⟨w.heap.size,0,none⟩) m m) (by
  intro q hq
  have:=(EB.deep_iff (D:=fun _=>True) (ι:=fun _ _=>.nilFunc) hown' hkl).1 hq
  simp [F4,C3] at this
  omega) hor
 refine ⟨_,_,_,F,P3 ι grp (.slice (some ⟨w.heap.size,0,none⟩) m m),hrun,.inl rfl,?_⟩
 exact hrel.put ob.dst (.cell (RC.wholeO (a1I hg) T6 hown'))
end
def a32:List (List Int×V)→List Int→V→V
 | [],_,z=>z
 | p::es,k,z=>if k==p.1 then p.2 else a32 es k z
def a2O:List (List Int×V)→List Int→V→List (List Int×V)
 | [],k,v=>[(k,v)]
 | p::es,k,v=>if k==p.1 then (p.1,v)::es else p::a2O es k v
def a1B:List (List Int×V)→List Int→Nat→Option (Nat×Value)
 | [],_,_=>none
 | p::es,k,i=>if k==p.1 then some (i,p.2.conc) else a1B es k (i+1)
theorem d5C {P:Program} {w:World} {r:Nat} {es:Array MapEntry} {clock:Nat} (o:Obj) (hb:w.heap[r]?=some (.map es clock)):(setObj r o).run P w = .ok () { w with heap:=w.heap.setIfInBounds r o }:=by
 simp [setObj,Sem.run,hb]
theorem c6e {w:World} {r:Nat} {o o':Obj} (hb:w.heap[r]?=some o):(w.heap.setIfInBounds r o')[r]?=some o' ∧ ∀ r',r'≠r→(w.heap.setIfInBounds r o')[r']?=w.heap[r']?:=by
 have hlt:=(Array.getElem?_eq_some_iff.1 hb).1
 exact ⟨by simp [hlt],fun r' q=>by rw [Array.getElem?_setIfInBounds_ne (Ne.symm q)]⟩
theorem d5g (z:V) (k:List Int) : ∀ (es:List (List Int×V)) (i:Nat),(a32 es k z).conc=match a1B es k i with
  | some (_,v)=>v
  | none=>z.conc
 | [],_=>rfl
 | p::es,i=>by
  unfold a32 a1B
  split
  ·rfl
  ·exact d5g z k es (i+1)
theorem RV.simple {w:World} {F D:Nat→Prop} {ι:Nat→Nat→Value} {v:V} {c:Value} (h:RV w F D ι v c) (hv:v.simple=true):c=v.conc:=by
 cases h with
 | one v c h =>
  cases h with
  | cell v c h =>
   cases h with
   | fv v c h=>cases h<;>first | rfl | (cases hv; done)
   | _=>cases hv
  | agg cs ds h=>cases hv
 | tup cs ds h=>cases hv
 | any c=>cases hv
section
variable {P:Program} {kt m:Nat} {w:World}
theorem c5p (hE : ∀ (xs ys:List Int) (w:World),xs.length=m→ys.length=m→(Op.equal kt (kv xs) (kv ys)).run P w = .ok (xs==ys) w) {k:List Int} (hk:k.length=m) : ∀ (es:List (List Int×V)) (l:List MapEntry) (i:Nat),l.map (fun e=>(e.key,e.val))=es.map (fun p=>(kv p.1,p.2.conc))→(∀ p∈es,p.1.length=m)→(Instr.findAsking kt (kv k) l i).run P w = .ok (a1B es k i) w
 | [],[],i,_,_=>by simp [Instr.findAsking,a1B]
 | [],_::_,_,h,_=>by cases h
 | _::_,[],_,h,_=>by cases h
 | p::es,e::l,i,h,hl=>by
  simp only [List.map_cons,List.cons.injEq,Prod.mk.injEq] at h
  obtain ⟨⟨h1,h2⟩,h3⟩:=h
  unfold Instr.findAsking
  rw [h1]
  simp only [Sem.run_bind,hE k p.1 w hk (hl p (by simp)),Result.andThen_ok]
  unfold a1B
  by_cases q:(k==p.1)=true
  ·rw [if_pos q,if_pos q,h2]
   rfl
  ·rw [if_neg q,if_neg q]
   exact c5p hE hk es l (i+1) h3 fun p hp=>hl p (by simp [hp])
theorem e5O : ∀ (n:Nat) (xs:List Int),Instr.sameBits (n+2) (kv xs) (kv xs)=true:=by
 intro n xs
 unfold kv Instr.sameBits
 simp only [List.size_toArray,beq_self_eq_true,Bool.true_and]
 induction xs with
 | nil=>rfl
 | cons x xs ih =>
  simp only [List.map_cons,List.zip_cons_cons,List.all_cons,Bool.and_eq_true]
  exact ⟨by simp [Instr.sameBits],by simpa using ih⟩
theorem c6x {k:List Int} {j:Nat} {v:Value} : ∀ {es:List (List Int×V)} {i:Nat},a1B es k i=some (j,v)→i≤j
 | [],_,h=>by cases h
 | p::es,i,h=>by
  unfold a1B at h
  split at h
  ·injection h with h; injection h with h; omega
  ·have:=c6x h; omega
theorem d5D {k:List Int} {x:V} {v:Value} : ∀ {es:List (List Int×V)} {l:List MapEntry} {i j:Nat},l.map (fun e=>(e.key,e.val))=es.map (fun p=>(kv p.1,p.2.conc))→a1B es k i=some (j,v) →
  (∃ e,l[j - i]?=some e∧e.key=kv k)∧((l.modify (j - i) fun e=>{ e with key:=kv k,val:=x.conc }).map (fun e=>(e.key,e.val))=(a2O es k x).map (fun p=>(kv p.1,p.2.conc)))
 | [],_,_,_,_,h=>by cases h
 | _::_,[],_,_,h,_=>by cases h
 | p::es,e::l,i,j,h,hf=>by
  simp only [List.map_cons,List.cons.injEq,Prod.mk.injEq] at h
  obtain ⟨⟨h1,h2⟩,h3⟩:=h
  unfold a1B at hf
  unfold a2O
  split at hf
  ·rename_i q
   injection hf with hf
   injection hf with hf1 hf2
   subst hf1
   have:k=p.1:=by simpa using q
   rw [Nat.sub_self,if_pos q]
   exact ⟨⟨e,rfl,by rw [h1,this]⟩,by simp [List.modify_cons,h3,this]⟩
  ·rename_i q
   rw [if_neg q]
   have hge:=c6x hf
   obtain ⟨⟨e',h4,h5⟩,h6⟩:=d5D (x:=x) h3 hf
   obtain ⟨d,hd⟩ : ∃ d,j - i=d+1:=⟨j - i - 1,by omega⟩
   have hd':j - (i+1)=d:=by omega
   rw [hd'] at h4 h6
   rw [hd]
   refine ⟨⟨e',by simpa using h4,h5⟩,?_⟩
   rw [List.modify_succ_cons]
   simp only [List.map_cons,h1,h2,h6]
theorem d5d {k:List Int} {x:V} : ∀ {es:List (List Int×V)} {i:Nat},a1B es k i=none→a2O es k x=es++[(k,x)]
 | [],_,_=>rfl
 | p::es,i,h=>by
  unfold a1B at h
  unfold a2O
  split at h
  ·cases h
  ·rename_i q
   rw [if_neg q,d5d h]
   rfl
theorem d34 {k:List Int} {x:V} {p:List Int×V→Prop} : ∀ {es:List (List Int×V)},(∀ q∈es,p q)→(∀ q∈es,p (q.1,x))→p (k,x) → ∀ q∈a2O es k x,p q
 | [],_,_,h3,q,hq=>by
  simp only [a2O,List.mem_singleton] at hq
  subst hq
  exact h3
 | e::es,h1,h2,h3,q,hq=>by
  unfold a2O at hq
  split at hq
  ·rcases List.mem_cons.1 hq with rfl | hq
   ·exact h2 e (by simp)
   ·exact h1 q (by simp [hq])
  ·rcases List.mem_cons.1 hq with rfl | hq
   ·exact h1 _ (by simp)
   ·exact d34 (fun q hq=>h1 q (by simp [hq])) (fun q hq=>h2 q (by simp [hq])) h3 q hq
end
theorem e4R {P:Program} {w:World} {em:Bool} {n kt:Nat} {fs:Array Field} {xs:Array Value} (hu:P.underlying kt=some (.struct fs)) (h : ∀ f∈fs.toList,∃ a,(part f.type xs f.offset).run P w = .ok a w∧(Instr.checkKey em n f.type a).run P w = .ok () w):(Instr.checkKey em (n+1) kt (.agg xs)).run P w = .ok () w:=by
 rw [Instr.checkKey]
 simp only [Sem.run_bind,run_underlying hu,Result.andThen_ok]
 rw [← Array.forIn_toList]
 generalize fs.toList=l at h
 induction l with
 | nil=>rfl
 | cons f l ih =>
  obtain ⟨a,h1,h2⟩:=h f (by simp)
  have ih':=ih fun f hf=>h f (by simp [hf])
  simp only [List.forIn_cons,Sem.run_bind]
  by_cases q:f.name = "_"
  ·simp [q]
   simpa using ih'
  ·simp [q,Sem.run_bind,h1,h2]
   simpa using ih'
theorem d4c {P:Program} {w:World} {em:Bool} {n t:Nat} {k j:IntKind} {x:Int} (hu:P.underlying t=some (.int k)):(Instr.checkKey em (n+1) t (.int j x)).run P w = .ok () w:=by
 rw [Instr.checkKey]
 simp [Sem.run_bind,run_underlying hu]
section
variable {cx:Cx} {Γ:S8} {F:Nat→Prop} {ι:Nat→Nat→Value} {S S':St} {a:Act} {w:World}
theorem RV.inv_mp {D:Nat→Prop} {g j:Nat} {c:Value} (h:RV w F D ι (.mp g j) c):D g ∧ ∃ b,ι g j = .map (some b)∧c = .map (some b):=by
 cases h with
 | one v c h=>cases h with
  | cell v c h=>cases h with
   | fv v c h=>cases h
   | mp g j b h1 h2=>exact ⟨h1,b,h2,rfl⟩
def c2t (cx:Cx) (grp ty:Nat):Option C1 :=
 match cx.M ty with
 | some (_,m,_)=>some { v:=.mp grp 0,new:=some [.map ty m []] }
 | none=>none
theorem e0u (h:t0 Γ F ι S a w) {grp:Nat} (hg:grp<S.h.length) (hn : ¬ S.D grp) {ob:Oper} {ty:Nat} (ho:ob.op = .makeMap ty none) {out:C1} (hp:c2t cx grp ty=some out):a0u cx.P Γ ι S grp ob out a w:=by
 unfold c2t at hp
 split at hp<;>try (cases hp; done)
 injection hp with hp
 subst hp
 rename_i kt m z hM
 have hrun:(execOp a.eval ob).run cx.P w = .ok (.value (.map (some w.heap.size))) (w.alloc (.map #[] 0)):=by
  simp only [execOp,ho,Option.map_none]
  rfl
 have hrel:=h.new1 hg hn (a5r w (.map #[] 0)) (ent:=.map ty m []) (c0:=.map (some w.heap.size))
  (by intro k hk; simp [EB,C3] at hk; omega) ⟨w.heap.size,#[],0,rfl,a8z w _,rfl,fun p hp=>by cases hp⟩
 refine ⟨_,_,_,F,P3 ι grp (.map (some w.heap.size)),hrun,.inl rfl,?_⟩
 exact hrel.put ob.dst (.cell (.mp grp 0 w.heap.size (a1I hg) T6))
def b3c (cx:Cx) (ty:Nat) (x ix:V):j4 C1 :=
 match cx.M ty with
 | none=>j4.no
 | some (kt,m,z)=>match x,ix with
  | .mp g j,.agg ks=>match a3t ks with
   | some xs=>j4.bind (j4.rd g j) fun e=>match e with
    | .map t' m' es=>if m'=m∧xs.length=m then j4.pure { v:=a32 es xs z } else j4.no
    | _=>j4.no
   | none=>j4.no
  | _,_=>j4.no
theorem d0s {xs:List Int} {z:V} (hz:z.simple=true) : ∀ {es:List (List Int×V)},(∀ p∈es,p.2.simple=true)→(a32 es xs z).simple=true
 | [],_=>hz
 | p::es,h=>by
  unfold a32
  split
  ·exact h p (by simp)
  ·exact d0s hz fun p hp=>h p (by simp [hp])
theorem e7m (h:t0 Γ F ι S a w) {grp:Nat} {ob:Oper} {ty:Nat} {x ix:Operand} (ho:ob.op = .lookup ty x ix false) {out:C1} {lg:List (Nat×Nat)} (hp:b3c cx ty (s5 S.t x) (s5 S.t ix) S.ent=some (out,lg)):a0u cx.P Γ ι S grp ob out a w:=by
 have hx:=E3 h.tmps x
 have hi:=E3 h.tmps ix
 unfold b3c at hp
 cases hM:cx.M ty with
 | none=>rw [hM] at hp; cases hp
 | some q =>
 obtain ⟨kt,m,z⟩:=q
 rw [hM] at hp
 simp only at hp
 generalize s5 S.t x=xv at hp hx
 generalize s5 S.t ix=iv at hp hi
 cases xv<;>try (cases hp; done)
 cases iv<;>try (cases hp; done)
 rename_i g j ks
 simp only at hp
 cases hks:a3t ks with
 | none=>rw [hks] at hp; cases hp
 | some xs =>
 rw [hks] at hp
 obtain ⟨e,l1,l2,hrd,hp',hl12⟩:=j4.bind_some hp
 clear hp
 have he:=(j4.rd_some hrd).1
 simp only at he hp'
 cases e<;>try (cases hp'; done)
 rename_i t' m' es
 simp only at hp'
 split at hp'<;>try (cases hp'; done)
 rename_i hcond
 obtain ⟨rfl,hlen⟩:=hcond
 have:=j4.pure_some hp'
 injection this with h2 h3
 subst h2
 obtain ⟨hD,b,hι,hc⟩:=hx.inv_mp
 obtain ⟨ds,hds,hall⟩:=hi.inv_agg
 have hints:=b6y hall hks
 subst hints
 obtain ⟨b',arr,clock,hb,hheap,hes,hok⟩:=h.ents g j _ he
 rw [hι] at hb
 injection hb with hb
 injection hb with hb
 subst hb
 obtain ⟨vt,hu,hE,hwide,hz,hzs,hck⟩:=cx.hM ty kt m' z hM
 have hck' : ∀ em,(Instr.checkKey em 10000 kt (kv xs)).run cx.P w = .ok () w:=fun em=>hck em xs w hlen
 have hfind:(Instr.findKey kt (kv xs) arr.toList).run cx.P w = .ok (a1B es xs 0) w:=by
  rw [run_findKey_eq w (by unfold b5C at hwide; exact hwide)]
  exact c5p (fun xs ys w h1 h2=>cx.hE kt m' hE xs ys w h1 h2) hlen es arr.toList 0 hes fun p hp=>(hok p hp).1
 have hrun:(execOp a.eval ob).run cx.P w = .ok (.value (a32 es xs z).conc) w:=by
  rw [d5g z xs es 0]
  simp only [execOp,ho,hc,hds,Instr.lookup,Sem.run_bind,run_underlying hu,Result.andThen_ok,run_getObj_map w b arr clock hheap]
  rw [show (Value.agg (xs.map (Value.int .i64)).toArray)=kv xs from rfl]
  simp only [Sem.run_pure,Sem.run_bind,hck',Result.andThen_ok,hfind]
  cases a1B es xs 0 with
  | none=>simp [hz,Sem.run_bind]
  | some q=>simp
 have hs:=d0s (xs:=xs) hzs fun p hp=>(hok p hp).2
 refine ⟨_,_,w,F,ι,hrun,.inl rfl,?_⟩
 rw [a6M]
 exact h.put ob.dst (.fv (FV.conc hs))
def b18 (cx:Cx) (ty:Nat) (x ix y:V):j4 C1 :=
 match cx.M ty with
 | none=>j4.no
 | some (kt,m,z)=>match x,ix with
  | .mp g j,.agg ks=>match a3t ks with
   | some xs=>j4.bind (j4.rd g j) fun e=>match e with
    | .map t' m' es=>if m'=m∧xs.length=m∧y.simple=true then j4.pure { v:=.bot,upd:=[((g,j),.map t' m (a2O es xs y))] } else j4.no
    | _=>j4.no
   | none=>j4.no
  | _,_=>j4.no
theorem e53 (h:t0 Γ F ι S a w) {grp:Nat} {ob:Oper} {ty:Nat} {x ix y:Operand} (ho:ob.op = .mapUpdate ty x ix y) (hd:ob.dst=none) {out:C1} {lg:List (Nat×Nat)} (hp:b18 cx ty (s5 S.t x) (s5 S.t ix) (s5 S.t y) S.ent=some (out,lg)):a0u cx.P Γ ι S grp ob out a w:=by
 have hx:=E3 h.tmps x
 have hi:=E3 h.tmps ix
 have hy:=E3 h.tmps y
 unfold b18 at hp
 cases hM:cx.M ty with
 | none=>rw [hM] at hp; cases hp
 | some q =>
 obtain ⟨kt,m,z⟩:=q
 rw [hM] at hp
 simp only at hp
 generalize s5 S.t x=xv at hp hx
 generalize s5 S.t ix=iv at hp hi
 generalize s5 S.t y=yv at hp hy
 cases xv<;>try (cases hp; done)
 cases iv<;>try (cases hp; done)
 rename_i g j ks
 simp only at hp
 cases hks:a3t ks with
 | none=>rw [hks] at hp; cases hp
 | some xs =>
 rw [hks] at hp
 obtain ⟨e,l1,l2,hrd,hp',hl12⟩:=j4.bind_some hp
 clear hp
 have he:=(j4.rd_some hrd).1
 simp only at he hp'
 cases e<;>try (cases hp'; done)
 rename_i t' m' es
 simp only at hp'
 split at hp'<;>try (cases hp'; done)
 rename_i hcond
 obtain ⟨rfl,hlen,hys⟩:=hcond
 have:=j4.pure_some hp'
 injection this with h2 h3
 subst h2
 obtain ⟨hD,b,hι,hc⟩:=hx.inv_mp
 obtain ⟨ds,hds,hall⟩:=hi.inv_agg
 have hints:=b6y hall hks
 subst hints
 have hyc:=hy.simple hys
 obtain ⟨b',arr,clock,hb,hheap,hes,hok⟩:=h.ents g j _ he
 rw [hι] at hb
 injection hb with hb
 injection hb with hb
 subst hb
 obtain ⟨vt,hu,hE,hwide,hz,hzs,hck⟩:=cx.hM ty kt m' z hM
 have hck' : ∀ em,(Instr.checkKey em 10000 kt (kv xs)).run cx.P w = .ok () w:=fun em=>hck em xs w hlen
 have hfind:(Instr.findKey kt (kv xs) arr.toList).run cx.P w = .ok (a1B es xs 0) w:=by
  rw [run_findKey_eq w (by unfold b5C at hwide; exact hwide)]
  exact c5p (fun xs ys w h1 h2=>cx.hE kt m' hE xs ys w h1 h2) hlen es arr.toList 0 hes fun p hp=>(hok p hp).1
 have hlt:b<w.heap.size:=(Array.getElem?_eq_some_iff.1 hheap).1
 obtain ⟨arr',clock',hrun,hes'⟩ : ∃ arr' clock',(execOp a.eval ob).run cx.P w = .ok .skip { w with heap:=w.heap.setIfInBounds b (.map arr' clock') }∧arr'.toList.map (fun e=>(e.key,e.val))=(a2O es xs yv).map (fun p=>(kv p.1,p.2.conc)):=by
  have e0:(Value.agg (xs.map (Value.int .i64)).toArray)=kv xs:=rfl
  cases hf:a1B es xs 0 with
  | none =>
   refine ⟨arr.push { key:=kv xs,val:=yv.conc,born:=clock },clock+1,?_,?_⟩
   ·simp only [execOp,ho,hc,hds,hyc,Instr.mapUpdate,Sem.run_bind,run_underlying hu,Result.andThen_ok,run_getObj_map w b arr clock hheap]
    rw [e0]
    simp only [Sem.run_pure,Sem.run_bind,hck',Result.andThen_ok,hfind,hf,d5C _ hheap]
   ·rw [d5d hf]
    simp [hes]
  | some q =>
   obtain ⟨i,v⟩:=q
   obtain ⟨⟨e,he1,he2⟩,he3⟩:=d5D (x:=yv) hes hf
   rw [Nat.sub_zero] at he1 he3
   have hkey:((arr[i]?).map (·.key)).getD (kv xs)=kv xs:=by
    have:arr[i]?=some e:=by simpa using he1
    rw [this]
    exact he2
   refine ⟨arr.modify i fun e=>{ e with key:=kv xs,val:=yv.conc },clock,?_,?_⟩
   ·simp only [execOp,ho,hc,hds,hyc,Instr.mapUpdate,Sem.run_bind,run_underlying hu,Result.andThen_ok,run_getObj_map w b arr clock hheap]
    rw [e0]
    simp only [Sem.run_pure,Sem.run_bind,hck',Result.andThen_ok,hfind,hf,hkey,Instr.keyThatStays,e5O 9998,if_true,d5C _ hheap]
   ·rw [Array.toList_modify]
    exact he3
 refine ⟨_,undef,_,F,ι,hrun,.inr ⟨rfl,rfl⟩,?_⟩
 rw [hd,b2o,b11]
 have hsz:(w.heap.setIfInBounds b (.map arr' clock')).size=w.heap.size:=by simp
 refine h.write he rfl ⟨rfl,rfl,rfl⟩ hsz (fun k hk => ?_) (fun _ => ?_) (fun k hk=>hk)
 ·refine (c6e hheap).2 k fun q=>hk ?_
  rw [q,hι]
  rfl
 ·exact ⟨b,arr',clock',hι,(c6e hheap).1,hes',d34 hok (fun q hq=>⟨(hok q hq).1,hys⟩) ⟨hlen,hys⟩⟩
end
theorem c5M {α:Type} (key:α→List Int) (k:List Int) : ∀ l:List α,a32 (l.map fun x=>(key x,.b true)) k (.b false) = .b (l.any fun x=>k==key x)
 | []=>rfl
 | x::l=>by
  simp only [List.map_cons,a32,List.any_cons]
  by_cases q:(k==key x)=true
  ·simp [q]
  ·simp only [q,if_false,Bool.false_or,c5M key k l]
   rfl
def a8O {α:Type} (key:α→List Int) (l:List α) (y:α):List α:=if l.any (fun x=>key y==key x) then l else l++[y]
theorem d14 {α:Type} (key:α→List Int) (y:α) : ∀ l:List α,a2O (l.map fun x=>(key x,.b true)) (key y) (.b true)=(a8O key l y).map fun x=>(key x,.b true)
 | []=>rfl
 | x::l=>by
  have ih:=d14 key y l
  unfold a8O at ih ⊢
  simp only [List.map_cons,a2O,List.any_cons]
  by_cases q:(key y==key x)=true
  ·simp [q]
  ·have q':(key y==key x)=false:=by simpa using q
   simp only [q',Bool.false_or]
   rw [if_neg (by simp),ih]
   by_cases c:(l.any fun x=>key y==key x)=true
   ·rw [if_pos c,if_pos c]; rfl
   ·rw [if_neg c,if_neg c]; rfl
section
variable {cx:Cx} {Γ:S8} {F:Nat→Prop} {ι:Nat→Nat→Value} {S S':St} {a:Act} {w:World}
theorem t0.killsR : ∀ {ks:List (Nat×Nat)} {S:St},t0 Γ F ι S a w→(∀ id∈ks,∃ e,S.ent id.1 id.2=some e)→t0 Γ F ι (S.upds (H1 ks)) a w
 | [],S,h,_=>h
 | id::ks,S,h,hk=>by
  obtain ⟨e,he⟩:=hk id (by simp)
  refine t0.killsR (S:=S.setE id.1 id.2 .dead) (h.kill he) fun id' hid => ?_
  obtain ⟨e',he'⟩:=hk id' (by simp [hid])
  rw [V4 he]
  split
  ·exact ⟨_,rfl⟩
  ·exact ⟨e',he'⟩
theorem K0.flatB {rows:List (List V)} (h:K0 rows):rows.flatten.all (fun v => !v.isRef)=true:=by
 rw [List.all_eq_true]
 intro v hv
 obtain ⟨r,hr,hv⟩:=List.mem_flatten.1 hv
 rw [h r hr v hv]
 rfl
theorem t0.layDeep (h:t0 Γ F ι S a w) {grp:Nat} (hgl:grp<S.h.length) (hn : ¬ S.D grp) {X:Option Nat} {w':World} (hgr:w.grownBy w' X)
  (hX : ∀ k,X=some k → ¬ F k∧(Γ.own k∨Γ.w0.heap.size≤k) ∧ ∀ g j e,S.ent g j=some e→e.live=true → ¬ EB w e (ι g j) k)
  {e sz n:Nat} {rows:List (List V)} {sv:Value} {flat:List Value} {fs:List Nat} (hown:w'.ownsRow 0 e sz sv n flat) (hbl:BL w F rows.flatten flat fs) (hlen:rows.length=n) (hl : ∀ r∈rows,r.length=sz)
  (hsv : ∀ k,C3 sv=some k→X=some k∨w.heap.size≤k)
  (hfs : ∀ k∈fs,¬ F k∧(Γ.own k∨Γ.w0.heap.size≤k)∧(∀ g j e,S.ent g j=some e→e.live=true → ¬ EB w e (ι g j) k)∧X≠some k) (hnd:fs.Nodup) :
  t0 Γ F (P3 ι grp sv) (S.lay grp [.deep false e sz n rows]) a w'∧RC w' F (S.lay grp [.deep false e sz n rows]).D (P3 ι grp sv) (.own grp 0 sz 0 n) sv:=by
 have hs:K3 w w' F:=a2h fun g hF=>hgr.block g (h.F1 g hF) fun q=>(hX g q.symm).1 hF
 have hlt:=hbl.lt
 have hbl':BL w' F rows.flatten flat fs:=hbl.mono hs (fun _ x=>x) fun k hk=>hgr.block k (hlt k hk) fun q=>(hfs k hk).2.2.2 q.symm
 have hkl : ∀ {D:Nat→Prop} {ι:Nat→Nat→Value},KL w' F D ι rows.flatten flat fs:=hbl'.kl
 have hEB : ∀ k,EB w' (.deep false e sz n rows) sv k→(X=some k∨w.heap.size≤k)∨k∈fs:=by
  intro k hk
  rcases List.mem_append.1 ((EB.deep_iff (D:=fun _=>True) (ι:=fun _ _=>.nilFunc) hown hkl).1 hk) with q | q
  ·exact .inl (hsv k (X1.1 q))
  ·exact .inr q
 have h':=h.world2 hgr hX
 have hback : ∀ {g' j' e' k},S.ent g' j'=some e'→e'.live=true→EB w' e' (ι g' j') k→EB w e' (ι g' j') k:=fun he' hl' hk' =>
  (h.ents _ _ _ he').back (fun k q=>hgr.block k (h.lt he' hl' q) fun z=>(hX k z.symm).2.2 _ _ _ he' hl' q) hk'
 refine ⟨h'.lay hgl hn (fun g j q=>b1h q) ?_ ?_ ?_ ?_,RC.wholeO (a1I hgl) T6 hown⟩
 ·intro j e1 he
  cases j with
  | succ j=>simp at he
  | zero =>
   simp at he
   subst he
   rw [T6]
   refine ⟨flat,fs,hown,hkl,hlen,hl,List.nodup_append.2 ⟨c2A sv,hnd,?_⟩,fun _=>K0.of_flat hbl.noRef⟩
   intro k hk k' hk' hkk
   subst hkk
   rcases hsv k (X1.1 hk) with q | q
   ·exact (hfs k hk').2.2.2 q
   ·have:=hlt k hk'
    omega
 ·intro j e1 k he hl1 hk
  rw [T6] at hk
  cases j with
  | succ j=>simp at he
  | zero =>
   simp at he
   subst he
   rcases hEB k hk with (q | q) | q
   ·exact ⟨(hX k q).1,(hX k q).2.1⟩
   ·refine ⟨fun hF => ?_,.inr (Nat.le_trans h.kept.size q)⟩
    have:=h.F1 k hF
    omega
   ·exact ⟨(hfs k q).1,(hfs k q).2.1⟩
 ·intro j e1 j' e1' k he he' _ _ _ _
  cases j<;>cases j'<;>simp_all
 ·intro j e1 g' j' e' k he he' _ hl' hk hk'
  rw [T6] at hk
  cases j with
  | succ j=>simp at he
  | zero =>
   simp at he
   subst he
   have hk2:=hback he' hl' hk'
   rcases hEB k hk with (q | q) | q
   ·exact (hX k q).2.2 g' j' e' he' hl' hk2
   ·have:=h.lt he' hl' hk2
    omega
   ·exact (hfs k q).2.2.1 g' j' e' he' hl' hk2
def b0A:V→V
 | .osl .. | .dsl .. => .bot
 | v=>v
theorem KL.holes : ∀ {vs:List V} {cs:List Value} {f:List Nat} {D:Nat→Prop} {ι:Nat→Nat→Value},KL w F D ι vs cs f→vs.all (fun v => !v.isRef)=true→KL w F D ι (vs.map b0A) cs []
 | _,_,_,_,_,.nil,_=>.nil
 | _,_,_,D,ι,.cons v c f vs cs fs h t,hv=>by
  simp only [List.all_cons,Bool.and_eq_true] at hv
  have h1:KC w F D ι (b0A v) c []:=by
   have hone:=h.one
   cases h with
   | rc h =>
    have:b0A v=v:=by
     cases h with
     | fv v c h=>cases h<;>rfl
     | _=>rfl
    rw [this]
    exact .rc _ _ h
   | bc _ h=>cases h with
    | fv _ _ h =>
     have:b0A v=v:=by cases h<;>rfl
     rw [this]
     exact .rc _ _ (.fv _ _ h)
    | _=>exact .rc _ _ (.fv _ _ (.bot _ hone))
  exact .cons _ _ [] _ _ [] h1 (KL.holes t hv.2)
def b2X (cx:Cx) (grp ty:Nat) (x:V) (r:List V):j4 C1 :=
 match cx.T ty with
 | none=>j4.no
 | some ti=>match x with
  | .eptr g j sz idx off=>j4.bind (j4.rd g j) fun e=>match e with
   | .deep _ t sz' n rows =>
    let m:=if ti.agg then ti.size else 1
    let y:=N4 grp 0 ((r.drop off).take m)
    if sz'=sz∧off+m≤sz∧((r.drop off).take m).all (fun v => !v.isRef) then
     match Z4 ti y.1 with
     | some v=>j4.pure { v:=v,new:=some y.2,upd:=[((g,j),.deep true t sz n (rows.set idx (B2 r off (((r.drop off).take m).map b0A))))],obl:=[rows[idx]?=some r] }
     | none=>j4.no
    else j4.no
   | _=>j4.no
  | _=>j4.no
set_option maxHeartbeats 800000 in
theorem e81 (h:t0 Γ F ι S a w) {grp:Nat} (hg:grp<S.h.length) (hn : ¬ S.D grp) {ob:Oper} {ty:Nat} {x:Operand} {r:List V} (ho:ob.op = .load ty x) {out:C1} {lg:List (Nat×Nat)} (hp:b2X cx grp ty (s5 S.t x) r S.ent=some (out,lg)) (hob : ∀ p∈out.obl,p):a0u cx.P Γ ι S grp ob out a w:=by
 have hx:=E3 h.tmps x
 unfold b2X at hp
 cases hti:cx.T ty with
 | none=>rw [hti] at hp; cases hp
 | some ti =>
 rw [hti] at hp
 obtain ⟨i,d,z,htf⟩:=cx.tf hti
 generalize s5 S.t x=xv at hp hx
 cases xv<;>try (cases hp; done)
 case eptr g j sz idx off =>
  obtain ⟨hD,b,hι,hc⟩:=hx.inv_eptr
  obtain ⟨e,l1,l2,hrd,hp',hl12⟩:=j4.bind_some hp
  clear hp
  have he:=(j4.rd_some hrd).1
  simp only at he
  cases e<;>try (cases hp'; done)
  rename_i o t sz' n rows
  simp only at hp'
  obtain ⟨m,hm⟩ : ∃ m,(if ti.agg=true then ti.size else 1)=m:=⟨_,rfl⟩
  rw [hm] at hp'
  split at hp'<;>try (cases hp'; done)
  rename_i hcond
  obtain ⟨rfl,hc1,hc2⟩:=hcond
  obtain ⟨y,hy⟩ : ∃ y,N4 grp 0 ((r.drop off).take m)=y:=⟨_,rfl⟩
  rw [hy] at hp'
  cases hrv:Z4 ti y.1 with
  | none=>rw [hrv] at hp'; cases hp'
  | some v =>
  rw [hrv] at hp'
  have:=j4.pure_some hp'
  injection this with h2 h3
  subst h2
  have hr:rows[idx]?=some r:=hob _ (by simp)
  obtain ⟨flat,fs,hor,hkl,hrn,hl,hnd,hnr⟩:=h.ents g j _ he
  obtain ⟨hseg,hmid,hle⟩:=c1I hor hrn hl hι hr hc1
  have hrl:=hl r (List.mem_of_getElem? hr)
  have hml:((r.drop off).take m).length=m:=by simp; omega
  have hgg:g≠grp:=fun q=>hn (q▸hD)
  obtain ⟨k,hk⟩ : ∃ k,idx * sz'+off=k:=⟨_,rfl⟩
  rw [hk] at hseg hmid hle
  obtain ⟨fa,fm,fb,rfl,ka,km,kb⟩:=hkl.cut (k:=k) (m:=m) hle
  rw [hmid] at km
  have hbl:=km.toBL hc2
  have hds:(flat.drop k).take m=((flat.drop k).take m):=rfl
  have hflen:flat.length=rows.flatten.length:=hkl.len.symm
  have hspl : ∀ us:List V,us.length=m→(rows.set idx (B2 r off us)).flatten=rows.flatten.take k++(us++rows.flatten.drop (k+m)):=by
   intro us hus
   rw [a8b hl hr (by omega),hk]
   unfold B2
   rw [hus,List.append_assoc]
  have hfs:flat=flat.take k++((flat.drop k).take m++flat.drop (k+m)):=by
   rw [← List.drop_drop,List.take_append_drop,List.take_append_drop]
  have hrl' : ∀ us:List V,us.length=m → ∀ q∈rows.set idx (B2 r off us),q.length=sz':=by
   intro us hus q hq
   rcases List.mem_or_eq_of_mem_set hq with hq | rfl
   ·exact hl q hq
   ·rw [a35 _ _ _ (by omega)]; exact hrl
  have hnd2:(F4 (ι g j)++(fa++fb)).Nodup:=List.Nodup.sublist (List.Sublist.append_left (List.Sublist.append_left (List.sublist_append_right _ _) _) _) hnd
  have hndm:fm.Nodup:=(List.nodup_append.1 (List.nodup_append.1 (List.nodup_append.1 hnd).2.1).2.1).1
  have hdm : ∀ k∈fm,k ∉ F4 (ι g j)++(fa++fb):=by
   intro q hq hq'
   have hp:=(a8y (C:=F4 (ι g j)) (a8y (C:=fa) (List.Perm.refl (fm++fb)))).nodup_iff.1 hnd
   exact (List.nodup_append.1 hp).2.2 q hq q hq' rfl
  obtain ⟨us0,hus0⟩ : ∃ us:List V,us=((r.drop off).take m).map b0A:=⟨_,rfl⟩
  have hus0l:us0.length=m:=by rw [hus0,List.length_map,hml]
  have kl0 : ∀ {D':Nat→Prop} {ι':Nat→Nat→Value},(∀ k,S.D k→D' k)→(∀ g j,S.D g→ι' g j=ι g j) → ∀ {us:List V},us.length=m→KL w F D' ι' us ((flat.drop k).take m) []→KL w F D' ι' (rows.set idx (B2 r off us)).flatten flat (fa++([]++fb)):=by
   intro D' ι' h1 h2 us hus hku
   rw [hspl us hus,hfs]
   have l1:(flat.take k).length=k:=by simp; omega
   have e1:(flat.take k++((flat.drop k).take m++flat.drop (k+m)))=flat:=hfs.symm
   exact (ka.mono (fun _ _ _=>rfl) (fun _ x=>x) h1 h2 (fun _ _=>rfl)).app (hku.app (kb.mono (fun _ _ _=>rfl) (fun _ x=>x) h1 h2 (fun _ _=>rfl)))
  have hmem0 : ∀ q,q∈F4 (ι g j)++(fa++([]++fb))→q∈F4 (ι g j)++(fa++(fm++fb)):=by
   intro q hq
   simp only [List.mem_append,List.not_mem_nil,false_or] at hq ⊢
   rcases hq with x | x | x<;>simp [x]
  have rel1:t0 Γ F ι (S.setE g j (.deep true t sz' n (rows.set idx (B2 r off us0)))) a w:=by
   have k1:=kl0 (D':=S.D) (ι':=ι) (fun _ x=>x) (fun _ _ _=>rfl) hus0l (hus0▸km.holes hc2)
   refine h.write he rfl ⟨rfl,rfl,rfl⟩ rfl (fun _ _=>rfl) (fun _ => ?_) ?_
   ·exact ⟨flat,_,hor,k1.mono (fun _ _ _=>rfl) (fun _ x=>x) (fun k x=>W1.2 x) (fun _ _ _=>rfl) (fun _ _=>rfl),by simpa using hrn,hrl' _ hus0l,by simpa using hnd2,fun q=>by cases q⟩
   ·intro q hq
    exact (EB.deep_iff hor hkl).2 (hmem0 q ((EB.deep_iff hor k1).1 hq))
  have he1:(S.setE g j (.deep true t sz' n (rows.set idx (B2 r off us0)))).ent g j=some (.deep true t sz' n (rows.set idx (B2 r off us0))):=by rw [V4 he]; simp
  obtain ⟨bs,hbsl,hhas,hth⟩:=a7L (grp:=grp) hbl 0
  rw [hy] at hbsl hhas hth
  obtain ⟨ι',hι'⟩ : ∃ ι',ι'=a48 ι grp bs:=⟨_,rfl⟩
  have hne : ∀ g j,g≠grp→ι' g j=ι g j:=fun g j q=>by rw [hι']; exact c3J q
  have hlenS:grp<(S.setE g j (.deep true t sz' n (rows.set idx (B2 r off us0)))).h.length:=by rw [b0X]; exact hg
  have hnD : ¬ (S.setE g j (.deep true t sz' n (rows.set idx (B2 r off us0)))).D grp:=fun q=>hn (W1.1 q)
  have hDg:=a1I (S:=S.setE g j (.deep true t sz' n (rows.set idx (B2 r off us0)))) (new:=y.2) hlenS
  obtain ⟨hrc,hlie⟩:=hth ((S.setE g j (.deep true t sz' n (rows.set idx (B2 r off us0)))).lay grp y.2).D ι' hDg (fun q c hq=>by rw [hι',Nat.zero_add]; exact a5S hq) hndm
  have hvb : ∀ (q:Nat) (e:s6),y.2[q]?=some e→bs[q]?=some (ι' grp q):=by
   intro q e hq
   have hlt:q<bs.length:=by rw [hbsl]; exact (List.getElem?_eq_some_iff.1 hq).1
   have hv:ι' grp q=bs[q]:=by rw [hι']; exact a5S (List.getElem?_eq_getElem hlt)
   rw [hv]
   exact List.getElem?_eq_getElem hlt
  have hmB : ∀ k∈fm,EB w (.deep o t sz' n rows) (ι g j) k:=fun k hk=>(EB.deep_iff hor hkl).2 (by simp [hk])
  have k1:=kl0 (D':=S.D) (ι':=ι) (fun _ x=>x) (fun _ _ _=>rfl) hus0l (hus0▸km.holes hc2)
  have rel2:=rel1.lay hlenS hnD (new:=y.2) (ι':=ι') hne (fun q e he=>hlie q e _ he (hvb q e he))
   (fun q e k he hl hk=>h.sep _ _ _ k ‹S.ent g j=some (.deep o t sz' n rows)› rfl (hmB k (hhas.mem he (hvb q e he) hk)))
   (fun q e q' e' k he he' hl hl' hk hk'=>hhas.inj hndm he (hvb q e he) hk he' (hvb q' e' he') hk')
   (fun q e g' j' e' k he0 he' hl hl' hk hk'=>by
    have hkm:=hhas.mem he0 (hvb q e he0) hk
    rw [V4 he] at he'
    split at he'
    ·rename_i qq
     obtain ⟨rfl,rfl⟩:=qq
     injection he' with he'
     subst he'
     exact hdm k hkm (by simpa using (EB.deep_iff hor k1).1 hk')
    ·rename_i qq
     exact qq (h.inj _ _ _ _ _ _ k he' he hl' rfl hk' (hmB k hkm)))
  have he2:((S.setE g j (.deep true t sz' n (rows.set idx (B2 r off us0)))).lay grp y.2).ent g j=some (.deep true t sz' n (rows.set idx (B2 r off us0))):=by rw [a8s hgg]; exact he1
  obtain ⟨c,hrd',hvc⟩:=a6n hrc hrv
  refine ⟨_,c,w,F,ι',a6S ho htf (by rw [hc,hk]) hseg hrd',.inl rfl,?_⟩
  have hput:=rel2.put ob.dst hvc
  rw [hus0] at hput
  exact hput
theorem t0.shut (h:t0 Γ F ι S a w) {g j t sz n:Nat} {o:Bool} {rows:List (List V)} (he:S.ent g j=some (.deep o t sz n rows)) (hn:K0 rows):t0 Γ F ι (S.setE g j (.deep false t sz n rows)) a w:=by
 refine h.write he rfl ⟨rfl,rfl,rfl⟩ rfl (fun _ _=>rfl) (fun _ => ?_) (fun k hk=>hk)
 obtain ⟨flat,fs,q1,q2,q3,q4,q5,q6⟩:=h.ents g j _ he
 exact ⟨flat,fs,q1,q2.mono (fun _ _ _=>rfl) (fun _ x=>x) (fun k x=>W1.2 x) (fun _ _ _=>rfl) (fun _ _=>rfl),q3,q4,q5,fun _=>hn⟩
theorem c41 {g j:Nat} : ∀ {us:List S0} {S:St} {e:s6},S.ent g j=some e → ∃ e',(S.upds us).ent g j=some e'
 | [],_,e,h=>⟨e,h⟩
 | ((g',j'),e')::us,S,e,h=>by
  cases hx:S.ent g' j' with
  | none =>
   have:(S.setE g' j' e').ent g j=some e:=by
    by_cases q:g=g'∧j=j'
    ·rw [q.1,q.2,hx] at h; cases h
    ·rw [a7i q]; exact h
   exact c41 (us:=us) (S:=S.setE g' j' e') this
  | some e0 =>
   have : ∃ e1,(S.setE g' j' e').ent g j=some e1:=by
    rw [V4 hx]
    split
    ·exact ⟨_,rfl⟩
    ·exact ⟨e,h⟩
   obtain ⟨e1,h1⟩:=this
   exact c41 (us:=us) (S:=S.setE g' j' e') h1
def b3o (cx:Cx) (ty:Nat) (x y:V) (r:List V) (ck om:List (Option Nat)):j4 C1 :=
 j4.bind (b0E cx ty x y r ck om) fun o=>match o.new,o.upd.reverse with
  | none,((g,j),.deep b t sz n rows)::us=>j4.bind (j4.rd g j) fun _=>j4.pure { v:=o.v,upd:=o.upd++[((g,j),.deep false t sz n rows)],obl:=K0 rows::o.obl }
  | _,_=>j4.no
theorem e0v {S:St} {g j:Nat} {e:s6} {t:List V}:({ S with t:=t }:St).setE g j e={ S.setE g j e with t:=t }:=by
 unfold St.setE
 cases S.h[g]? with
 | none=>rfl
 | some o=>cases o<;>rfl
theorem e7U (h:t0 Γ F ι S a w) {grp:Nat} {ob:Oper} {ty:Nat} {x y:Operand} {r:List V} {ck om:List (Option Nat)} (ho:ob.op = .store ty x y) (hd:ob.dst=none) {out:C1} {lg:List (Nat×Nat)} (hp:b3o cx ty (s5 S.t x) (s5 S.t y) r ck om S.ent=some (out,lg)) (hob : ∀ p∈out.obl,p):a0u cx.P Γ ι S grp ob out a w:=by
 unfold b3o at hp
 obtain ⟨o,l1,l2,hd1,hp',_⟩:=j4.bind_some hp
 clear hp
 simp only at hp'
 cases hnew:o.new with
 | some _=>rw [hnew] at hp'; cases hp'
 | none =>
 rw [hnew] at hp'
 cases hrev:o.upd.reverse with
 | nil=>rw [hrev] at hp'; cases hp'
 | cons u us =>
 rw [hrev] at hp'
 obtain ⟨⟨g,j⟩,e⟩:=u
 cases e<;>try (cases hp'; done)
 rename_i b t sz n rows
 simp only at hp'
 obtain ⟨e0,l3,l4,hrd,hp'',_⟩:=j4.bind_some hp'
 have he0:=(j4.rd_some hrd).1
 simp only at he0
 have:=j4.pure_some hp''
 injection this with h2 h3
 subst h2
 have hnr:K0 rows:=hob _ (by simp)
 obtain ⟨nx,c,w',F',ι',hrun,hnx,hrel⟩:=d41 h (grp:=grp) ho hd hd1 (fun p hp=>hob p (by simp [hp]))
 refine ⟨nx,c,w',F',ι',hrun,hnx,?_⟩
 have hu:o.upd=us.reverse++[((g,j),.deep b t sz n rows)]:=by
  have:=congrArg List.reverse hrev
  simpa using this
 have happ:S.apply grp ob.dst o={ S.upds o.upd with t:=Y6 S.t ob.dst o.v }:=by
  unfold St.apply
  rw [hnew]
  simp only [St.upds_t]
 rw [happ] at hrel
 have hent:({ S.upds o.upd with t:=Y6 S.t ob.dst o.v }:St).ent g j=some (.deep b t sz n rows):=by
  show (S.upds o.upd).ent g j=_
  rw [hu,St.upds_append]
  obtain ⟨e1,he1⟩:=c41 (us:=us.reverse) he0
  show ((S.upds us.reverse).setE g j _).ent g j=_
  rw [V4 he1]
  simp
 have hs:=hrel.shut hent hnr
 rw [e0v] at hs
 unfold St.apply
 simp only [St.upds_append,St.upds_t]
 exact hs
def b2m (cx:Cx) (grp ty len:Nat) (parts:List (Nat×V)) (ck om:List (Option Nat)):j4 C1 :=
 match cx.T ty with
 | some ti=>match ti.sl with
  | some e=>match cx.T e with
   | some ei=>match parts with
    | [(0,x)]=>match x.cells with
     | some cs=>j4.bind (a23 ck om cs) fun f =>
      if len=1∧cs.length=ei.size∧ei.zero.length=ei.size∧0<ei.size∧ei.size≤16777216∧a3M f.ks=true∧f.ls.isEmpty=true then
       j4.pure { v:=.own grp 0 ei.size 0 1,new:=some [.deep false e ei.size 1 [f.v]],upd:=H1 f.ks,obl:=f.obl }
      else j4.no
     | none=>j4.no
    | [] =>
     if len=0∧ei.zero.length=ei.size∧0<ei.size∧ei.size≤16777216 then
      j4.pure { v:=.own grp 0 ei.size 0 0,new:=some [.deep false e ei.size 0 []] }
     else j4.no
    | _=>j4.no
   | none=>j4.no
  | none=>j4.no
 | none=>j4.no
theorem d7j {u:Value} {ds:Array Value} {sz:Nat} (hu:u.cells.size=sz) (hd:ds.size=sz) : ∃ es:Array Value,Instr.fill (fun i=>some (i * sz,sz)) ds [(0,u)]=some es∧es.toList=u.cells.toList:=by
 have hout:=c3u u.cells.toList 0 (0 * sz) ds (by simp only [Array.length_toList]; omega)
 refine ⟨u.cells.toList.zipIdx.foldl (fun (cs:Array Value) (x:Value×Nat)=>cs.setIfInBounds (0 * sz+x.2) x.1) ds,?_,?_⟩
 ·have hcond':(u.cells.size≠sz||0 * sz+u.cells.size>ds.size)=false:=by
   simp [hu]; omega
  simp only [Instr.fill,hcond']
  simp only [Bool.false_eq_true,if_false]
  congr 1
  rw [← Array.foldl_toList,Array.toList_zipIdx]
 ·rw [hout,Nat.zero_mul,Nat.add_zero,d2y]
  simp only [Array.length_toList]
  omega
theorem d8y (h:t0 Γ F ι S a w) {grp:Nat} (hg:grp<S.h.length) (hn : ¬ S.D grp) {ob:Oper} {ty len:Nat} {parts:Array (Nat×Operand)} {ck om:List (Option Nat)} (ho:ob.op = .buildSlice ty len parts) {out:C1} {lg:List (Nat×Nat)}
  (hp:b2m cx grp ty len (parts.toList.map fun (i,x)=>(i,s5 S.t x)) ck om S.ent=some (out,lg)) (hob : ∀ p∈out.obl,p):a0u cx.P Γ ι S grp ob out a w:=by
 unfold b2m at hp
 cases hti:cx.T ty with
 | none=>rw [hti] at hp; cases hp
 | some ti =>
 rw [hti] at hp
 simp only at hp
 cases hsl:ti.sl with
 | none=>rw [hsl] at hp; cases hp
 | some e =>
 rw [hsl] at hp
 simp only at hp
 cases hei:cx.T e with
 | none=>rw [hei] at hp; cases hp
 | some ei =>
 rw [hei] at hp
 simp only at hp
 have hrel:=c46 h.tmps parts.toList
 generalize hpl:(parts.toList.map fun (i,x)=>(i,s5 S.t x))=pl at hp hrel
 generalize hql:(parts.toList.map fun (i,x)=>(i,a.eval x))=ql at hrel
 cases hrel with
 | nil =>
  simp only at hp
  split at hp<;>try (cases hp; done)
  rename_i hcond
  obtain ⟨rfl,hc2,hc3,hc4⟩:=hcond
  have:=j4.pure_some hp
  injection this with h3 h4
  subst h3
  obtain ⟨ti',d,z,htf⟩:=cx.tf hti
  obtain ⟨ti2,d',z',hef⟩:=cx.tf hei
  obtain rfl:=htf.isSl hsl
  have hmd:(madeCells z'.cells (0 * ei.size)) = #[]:=by simp [madeCells]
  have hrun:(execOp a.eval ob).run cx.P w = .ok (.value (.slice (some ⟨w.heap.size,0,none⟩) 0 0)) (w.alloc (.cells #[] e)):=by
   have:=c2d (w:=w) (len:=0) htf rfl hef (by omega) (qs:=parts.map fun (i,x)=>(i,a.eval x)) (es := #[]) (by rw [Array.toList_map,hql,hmd]; rfl)
   simp [execOp,ho,this]
  have hgr:=a5r w (.cells #[] e)
  have hown:(w.alloc (.cells #[] e)).ownsRow 0 e ei.size (.slice (some ⟨w.heap.size,0,none⟩) 0 0) 0 [] :=
   ⟨by simp,.inr ⟨w.heap.size,0,#[],rfl,Nat.zero_le _,a8z w _,Nat.le_refl _,by simp,by simp,by simp⟩⟩
  obtain ⟨r1,r2⟩:=h.layDeep hg hn hgr (fun k q=>by cases q) (rows:=[]) (sv:=.slice (some ⟨w.heap.size,0,none⟩) 0 0) hown (show BL w F [].flatten [] [] from .nil) rfl (by simp) (by intro k hk; simp [C3] at hk; exact .inr (by omega)) (by simp) .nil
  exact ⟨_,_,_,F,P3 ι grp (.slice (some ⟨w.heap.size,0,none⟩) 0 0),hrun,.inl rfl,r1.put ob.dst (.cell r2)⟩
 | @cons p q pl ql hpq ht =>
 obtain ⟨i,x⟩:=p
 obtain ⟨i',u⟩:=q
 obtain ⟨hii,hxu⟩:=hpq
 simp only at hii hxu
 subst hii
 cases ht with
 | cons _ _=>cases i<;>cases hp
 | nil =>
 cases i with
 | succ i=>cases hp
 | zero =>
 simp only at hp
 cases hcs:x.cells with
 | none=>rw [hcs] at hp; cases hp
 | some cs =>
 rw [hcs] at hp
 obtain ⟨f,l1,l2,hf,hp',_⟩:=j4.bind_some hp
 clear hp
 split at hp'<;>try (cases hp'; done)
 rename_i hcond
 obtain ⟨rfl,hc1,hc2,hc3,hc4,hc5,hc6⟩:=hcond
 have:=j4.pure_some hp'
 injection this with h3 h4
 subst h3
 obtain ⟨ti',d,z,htf⟩:=cx.tf hti
 obtain ⟨ti2,d',z',hef⟩:=cx.tf hei
 obtain rfl:=htf.isSl hsl
 have hrc:=hxu.cells hcs
 obtain ⟨fp,hbl,hfps,hh⟩:=b2f (F1:=F) h (fun _ x=>x) hrc hf hob (by rw [List.isEmpty_iff.1 hc6]; intro id hid; cases hid)
 have hul:u.cells.size=ei.size:=by rw [← hc1,hrc.length]; simp
 have hzs:z'.cells.size=ei.size:=by rw [← hc2,← hef.zeros]; simp
 have hmd:(madeCells z'.cells (1 * ei.size)).size=ei.size:=by simp [madeCells]
 obtain ⟨es,hfill,hes⟩:=d7j (u:=u) (ds:=madeCells z'.cells (1 * ei.size)) hul hmd
 have hel:es.size=1 * ei.size:=by
  have:=congrArg List.length hes
  simp only [Array.length_toList] at this
  omega
 have hrun:(execOp a.eval ob).run cx.P w = .ok (.value (.slice (some ⟨w.heap.size,0,none⟩) 1 1)) (w.alloc (.cells es e)):=by
  have:=c2d (w:=w) (len:=1) htf rfl hef (by omega) (qs:=parts.map fun (i,x)=>(i,a.eval x)) (es:=es) (by rw [Array.toList_map,hql]; exact hfill)
  simp [execOp,ho,this]
 have hgr:=a5r w (.cells es e)
 have hown:(w.alloc (.cells es e)).ownsRow 0 e ei.size (.slice (some ⟨w.heap.size,0,none⟩) 1 1) 1 u.cells.toList:=by
  refine ⟨by simp only [Array.length_toList]; omega,.inr ⟨w.heap.size,1,es,rfl,Nat.zero_le _,a8z w _,Nat.le_refl _,by unfold maxLen; omega,hel,?_⟩⟩
  rw [hes,List.take_of_length_le (by simp only [Array.length_toList]; omega)]
 have hkl:=h.killsR (fun id hid=>(hfps.live id hid).imp fun _ x=>x.1)
 have hnd:=P6.nodup h hfps (a5n hc5)
 have hgk:grp<(S.upds (H1 f.ks)).h.length:=by rw [St.upds_len]; exact hg
 have hnk : ¬ (S.upds (H1 f.ks)).D grp:=fun q=>hn ((a1z S grp _).1 q)
 obtain ⟨r1,r2⟩:=hkl.layDeep hgk hnk hgr (fun k q=>by cases q) (rows:=[f.v]) (sv:=.slice (some ⟨w.heap.size,0,none⟩) 1 1) hown (by simpa using hbl) rfl (by
   intro r hr
   rw [List.mem_singleton.1 hr,hbl.len]
   simp only [Array.length_toList]
   exact hul) (by intro k hk; simp [C3] at hk; exact .inr (by omega)) (by
   intro k hk
   obtain ⟨id,hid,e1,he1,hl1,hk1⟩:=hfps.mem hk
   obtain ⟨x1,x2⟩:=h.sep _ _ _ k he1 hl1 hk1
   refine ⟨x1,x2,?_,by simp⟩
   intro g' j' e' he' hl' hk'
   rcases b0b _ he' with ⟨_,rfl⟩ | ⟨hni,he2⟩
   ·cases hl'
   ·obtain ⟨y1,y2⟩:=h.inj _ _ _ _ _ _ k he2 he1 hl' hl1 hk' hk1
    exact hni (by rw [y1,y2]; exact hid)) hnd
 exact ⟨_,_,_,F,P3 ι grp (.slice (some ⟨w.heap.size,0,none⟩) 1 1),hrun,.inl rfl,r1.put ob.dst (.cell r2)⟩
def b1V (cx:Cx) (grp ty:Nat) (s x:V):j4 C1 :=
 match cx.T ty with
 | some ti=>match ti.sl with
  | some e=>match cx.T e with
   | some ei=>match x with
    | .own g2 j2 sz2 0 m=>j4.bind (j4.rd g2 j2) fun e2=>match e2 with
     | .deep false t2 sz2' m' rows2 =>
      if t2=e∧sz2=ei.size∧sz2'=ei.size∧0<ei.size∧0<ei.bytes∧ei.zero.length=ei.size∧0<m' then
       match s with
       | .nil=>j4.pure { v:=.own grp 0 ei.size 0 m',new:=some [.deep false e ei.size m' rows2],upd:=H1 [(g2,j2)],obl:=[m=m',m' * ei.bytes≤140737488355328] }
       | .own g j sz 0 n=>j4.bind (j4.rd g j) fun e1=>match e1 with
        | .deep false t sz' n' rows =>
         if t=e∧sz=ei.size∧sz'=ei.size∧a3M [(g,j),(g2,j2)]=true then
          j4.pure { v:=.own grp 0 ei.size 0 (n'+m'),new:=some [.deep false e ei.size (n'+m') (rows++rows2)],upd:=H1 [(g,j),(g2,j2)],obl:=[n=n',(n'+m') * ei.bytes≤140737488355328,m=m'] }
         else j4.no
        | _=>j4.no
       | _=>j4.no
      else j4.no
     | _=>j4.no
    | _=>j4.no
   | none=>j4.no
  | none=>j4.no
 | none=>j4.no
theorem b9K {g j sz n e sz':Nat} {c:Value} {flat:List Value} (hs:RV w F S.D ι (.own g j sz 0 n) c) (hown:w.ownsRow 0 e sz' (ι g j) n flat):c=ι g j:=by
 obtain ⟨hD,⟨b,nn,cap,hι,hlo,hb0,hb1,hc⟩ | ⟨hl0',_⟩⟩:=hs.inv_own
 case inr=>omega
 rcases hown.2 with ⟨hv,hz⟩ | ⟨g0,cap0,cur,hv,_⟩
 ·rw [hι] at hv
  injection hv with e1 e2 e3
  subst e1; subst e2; subst e3; subst hz
  rw [hc,hι]; simp
 ·rw [hι] at hv
  injection hv with e1 e2 e3
  subst e1; subst e2; subst e3
  rw [hc,hι]
  by_cases q:cap=0
  ·simp [q]
  ·simp [q,Addr.add]
theorem c6K {P:Program} {ty e:Nat} {ti ei:TI} {i i':TypeInfo} {d d':TypeDesc} {z z':Value} (htf:TF P ty ti i d z) (hd:d = .slice e) (hef:TF P e ei i' d' z') (h0:0<ei.size) (hb0:0<ei.bytes) (hzl:ei.zero.length=ei.size)
  {sv sv2:Value} {n m:Nat} {flat flat2:List Value} (hown:w.ownsRow 0 e ei.size sv n flat) (hown2:w.ownsRow 0 e ei.size sv2 m flat2) (hm:0<m) (hone : ∀ u∈flat2,u.oneCell'=true) (hb:(n+m) * ei.bytes≤140737488355328) (rt:Nat) :
  ∃ v' w',(Builtin.append_ #[ty,ty] rt #[sv,sv2]).run P w = .ok v' w'∧w'.ownsRow 0 e ei.size v' (n+m) (flat++flat2)∧w.grownBy w' sv.ownBlock∧(v'.ownBlock=sv.ownBlock∨v'.ownBlock=some w.heap.size):=by
 subst hd
 have hzs:z'.cells.size=ei.size:=by rw [← hzl,← hef.zeros]; simp
 have hm63:n+m≤maxLen:=by
  have:n+m≤140737488355328:=Nat.le_trans (Nat.le_mul_of_pos_right _ hb0) hb
  unfold maxLen; omega
 rcases hown2.2 with ⟨_,q⟩ | ⟨g2,cap2,cur2,rfl,_,hg2,hnc2,_,hcs2,ht2⟩
 ·omega
 ·have hseg:R9 w g2 0 flat2:=by
   rw [← ht2]
   have:=(a6p hg2 0).take (m * ei.size)
   simpa using this
  obtain ⟨v',w',h1,h2,h3,_,h5⟩:=run_append_own_at (P:=P) w 0 ty rt e i' z' ei.size ei.bytes htf.und hef.info hef.zero hef.size hef.bytes hzs h0 sv n flat hown ⟨g2,0,none⟩ m cap2 flat2 hown2.1 (by
   intro j u hu
   rw [a34]
   exact hseg j u hu) hone hm63 hb (Nat.zero_le _)
  exact ⟨v',w',h1,h2,h3,h5⟩
theorem BL.ones : ∀ {vs:List V} {cs:List Value} {f:List Nat},BL w F vs cs f → ∀ u∈cs,u.oneCell'=true
 | _,_,_,.cons v c f vs cs fs h t,u,hu=>by
  rcases List.mem_cons.1 hu with rfl | hu
  ·exact h.one
  ·exact BL.ones t u hu
theorem BL.app : ∀ {vs vs':List V} {cs cs':List Value} {f f':List Nat},BL w F vs cs f→BL w F vs' cs' f'→BL w F (vs++vs') (cs++cs') (f++f')
 | _,_,_,_,_,_,.nil,k=>k
 | _,_,_,_,_,_,.cons v c f vs cs fs h t,k=>by
  rw [List.append_assoc]
  exact .cons v c f _ _ _ h (BL.app t k)
theorem e3m (h:t0 Γ F ι S a w) {grp:Nat} (hg:grp<S.h.length) (hn : ¬ S.D grp) {ob:Oper} {ty:Nat} {s x:Operand} (ho:ob.op = .call { callee:=.builtin .append,args := #[s,x],argTypes := #[ty,ty] }) {out:C1} {lg:List (Nat×Nat)}
  (hp:b1V cx grp ty (s5 S.t s) (s5 S.t x) S.ent=some (out,lg)) (hob : ∀ p∈out.obl,p):a0u cx.P Γ ι S grp ob out a w:=by
 have hs:=E3 h.tmps s
 have hx:=E3 h.tmps x
 unfold b1V at hp
 cases hti:cx.T ty with
 | none=>rw [hti] at hp; cases hp
 | some ti =>
 rw [hti] at hp
 simp only at hp
 cases hsl:ti.sl with
 | none=>rw [hsl] at hp; cases hp
 | some e =>
 rw [hsl] at hp
 simp only at hp
 cases hei:cx.T e with
 | none=>rw [hei] at hp; cases hp
 | some ei =>
 rw [hei] at hp
 simp only at hp
 obtain ⟨i,d,z,htf⟩:=cx.tf hti
 obtain ⟨i',d',z',hef⟩:=cx.tf hei
 have hd:=htf.isSl hsl
 generalize s5 S.t s=sv at hp hs
 generalize s5 S.t x=xv at hp hx
 cases xv<;>try (cases hp; done)
 rename_i g2 j2 sz2 lo2 m
 cases lo2 with
 | succ q=>cases hp
 | zero =>
 simp only at hp
 obtain ⟨e2,l1,l2,hrd2,hp',_⟩:=j4.bind_some hp
 clear hp
 have he2:=(j4.rd_some hrd2).1
 simp only at he2
 cases e2<;>try (cases hp'; done)
 rename_i o2 t2 sz2' m' rows2
 cases o2 with
 | true=>cases hp'
 | false =>
 simp only at hp'
 split at hp'<;>try (cases hp'; done)
 rename_i hcond
 obtain ⟨rfl,rfl,rfl,hc3,hc4,hc5,hc6⟩:=hcond
 obtain ⟨flat2,fs2,hown2,hkl2,hlen2,hl2,hnd2,hnr2⟩:=h.ents g2 j2 _ he2
 have hbl2:=hkl2.toBL (hnr2 rfl).flatB
 have hin2 : ∀ k∈F4 (ι g2 j2)++fs2,EB w (.deep false t2 ei.size m' rows2) (ι g2 j2) k:=fun k hk=>(EB.deep_iff hown2 hkl2).2 hk
 cases sv<;>try (cases hp'; done)
 case nil =>
  have:=j4.pure_some hp'
  injection this with h3 h4
  subst h3
  obtain hcs:=hs.inv_nil
  have hmm:m=m':=hob _ (by simp)
  subst hmm
  have hb:m * ei.bytes≤140737488355328:=hob _ (by simp)
  obtain ⟨v',w',hr,hown,hgr,hat⟩:=c6K htf hd hef hc3 hc4 hc5 (World.ownsRow_nil w 0 t2 ei.size) hown2 hc6 hbl2.ones (by simpa using hb) ob.type
  have hxc:=b9K hx hown2
  have hrun:(execOp a.eval ob).run cx.P w = .ok (.value v') w':=by
   simp [execOp,ho,resolve,invoke,builtin,hcs,hxc,hr]
  have hkl:=h.killsR (ks:=[(g2,j2)]) (fun id hid=>by rw [List.mem_singleton.1 hid]; exact ⟨_,he2⟩)
  have hgk:grp<(S.upds (H1 [(g2,j2)])).h.length:=by rw [St.upds_len]; exact hg
  have hnk : ¬ (S.upds (H1 [(g2,j2)])).D grp:=fun q=>hn ((a1z S grp _).1 q)
  simp only [Nat.zero_add,List.nil_append] at hown
  obtain ⟨r1,r2⟩:=hkl.layDeep hgk hnk hgr (fun k q=>by cases q) hown hbl2 hlen2 hl2 (by
   intro k hk
   rw [← a9A hown] at hk
   rcases hat with q | q
   ·rw [q] at hk; cases hk
   ·rw [q] at hk; injection hk with hk; exact .inr (by omega)) (by
   intro k hk
   have hk1:=hin2 k (List.mem_append.2 (.inr hk))
   obtain ⟨x1,x2⟩:=h.sep _ _ _ k he2 rfl hk1
   refine ⟨x1,x2,?_,by intro q; cases q⟩
   intro g' j' e' he' hl' hk'
   rcases b0b _ he' with ⟨_,rfl⟩ | ⟨hni,he3⟩
   ·cases hl'
   ·obtain ⟨y1,y2⟩:=h.inj _ _ _ _ _ _ k he3 he2 hl' rfl hk' hk1
    exact hni (by rw [y1,y2]; simp)) (List.nodup_append.1 hnd2).2.1
  exact ⟨_,_,_,F,P3 ι grp v',hrun,.inl rfl,r1.put ob.dst (.cell r2)⟩
 case own g j sz lo n =>
  cases lo with
  | succ q=>cases hp'
  | zero =>
  simp only at hp'
  obtain ⟨e1,l3,l4,hrd1,hp'',_⟩:=j4.bind_some hp'
  clear hp'
  have he1:=(j4.rd_some hrd1).1
  simp only at he1
  cases e1<;>try (cases hp''; done)
  rename_i o1 t1 sz1 n' rows
  cases o1 with
  | true=>cases hp''
  | false =>
  simp only at hp''
  split at hp''<;>try (cases hp''; done)
  rename_i hcond
  obtain ⟨rfl,rfl,rfl,hnod⟩:=hcond
  have:=j4.pure_some hp''
  injection this with h3 h4
  subst h3
  have hnn:n=n':=hob _ (by simp)
  subst hnn
  have hb:(n+m') * ei.bytes≤140737488355328:=hob _ (by simp)
  have hmm:m=m':=hob _ (by simp)
  subst hmm
  obtain ⟨flat1,fs1,hown1,hkl1,hlen1,hl1,hnd1,hnr1⟩:=h.ents g j _ he1
  have hbl1:=hkl1.toBL (hnr1 rfl).flatB
  have hin1 : ∀ k∈F4 (ι g j)++fs1,EB w (.deep false t1 ei.size n rows) (ι g j) k:=fun k hk=>(EB.deep_iff hown1 hkl1).2 hk
  have hne : ¬ (g=g2∧j=j2):=by
   have:=a5n hnod
   rw [List.nodup_cons] at this
   intro q
   exact this.1 (by rw [q.1,q.2]; simp)
  obtain ⟨v',w',hr,hown,hgr,hat⟩:=c6K htf hd hef hc3 hc4 hc5 hown1 hown2 hc6 hbl2.ones hb ob.type
  have hxc:=b9K hx hown2
  have hsc:=b9K hs hown1
  have hrun:(execOp a.eval ob).run cx.P w = .ok (.value v') w':=by
   simp [execOp,ho,resolve,invoke,builtin,hsc,hxc,hr]
  have hkl:=h.killsR (ks:=[(g,j),(g2,j2)]) (fun id hid=>by
   rcases List.mem_cons.1 hid with rfl | hid
   ·exact ⟨_,he1⟩
   ·rw [List.mem_singleton.1 hid]; exact ⟨_,he2⟩)
  have hgk:grp<(S.upds (H1 [(g,j),(g2,j2)])).h.length:=by rw [St.upds_len]; exact hg
  have hnk : ¬ (S.upds (H1 [(g,j),(g2,j2)])).D grp:=fun q=>hn ((a1z S grp _).1 q)
  have hob1 : ∀ k,(ι g j).ownBlock=some k→k∈F4 (ι g j):=fun k hk=>X1.2 (by rw [← a9A hown1]; exact hk)
  have free1 : ∀ k∈F4 (ι g j)++fs1,∀ g' j' e',(S.upds (H1 [(g,j),(g2,j2)])).ent g' j'=some e'→e'.live=true → ¬ EB w e' (ι g' j') k:=by
   intro k hk g' j' e' he' hl' hk'
   rcases b0b _ he' with ⟨_,rfl⟩ | ⟨hni,he3⟩
   ·cases hl'
   ·obtain ⟨y1,y2⟩:=h.inj _ _ _ _ _ _ k he3 he1 hl' rfl hk' (hin1 k hk)
    exact hni (by rw [y1,y2]; simp)
  have free2 : ∀ k∈F4 (ι g2 j2)++fs2,∀ g' j' e',(S.upds (H1 [(g,j),(g2,j2)])).ent g' j'=some e'→e'.live=true → ¬ EB w e' (ι g' j') k:=by
   intro k hk g' j' e' he' hl' hk'
   rcases b0b _ he' with ⟨_,rfl⟩ | ⟨hni,he3⟩
   ·cases hl'
   ·obtain ⟨y1,y2⟩:=h.inj _ _ _ _ _ _ k he3 he2 hl' rfl hk' (hin2 k hk)
    exact hni (by rw [y1,y2]; simp)
  have hdis : ∀ k,k∈F4 (ι g j)++fs1→k∈F4 (ι g2 j2)++fs2→False:=by
   intro k q1 q2
   obtain ⟨y1,y2⟩:=h.inj _ _ _ _ _ _ k he1 he2 rfl rfl (hin1 k q1) (hin2 k q2)
   exact hne ⟨y1,y2⟩
  obtain ⟨r1,r2⟩:=hkl.layDeep hgk hnk hgr (fun k q=>by
   have hk:k∈F4 (ι g j)++fs1:=List.mem_append.2 (.inl (hob1 k q))
   obtain ⟨x1,x2⟩:=h.sep _ _ _ k he1 rfl (hin1 k hk)
   exact ⟨x1,x2,free1 k hk⟩) (rows:=rows++rows2) hown (by rw [List.flatten_append]; exact hbl1.app hbl2) (by rw [List.length_append,hlen1,hlen2]) (by
   intro r hr'
   rcases List.mem_append.1 hr' with q | q
   ·exact hl1 r q
   ·exact hl2 r q) (by
   intro k hk
   rw [← a9A hown] at hk
   rcases hat with q | q
   ·rw [q] at hk; exact .inl hk
   ·rw [q] at hk; injection hk with hk; exact .inr (by omega)) (by
   intro k hk
   rcases List.mem_append.1 hk with q | q
   ·have hk1:k∈F4 (ι g j)++fs1:=List.mem_append.2 (.inr q)
    obtain ⟨x1,x2⟩:=h.sep _ _ _ k he1 rfl (hin1 k hk1)
    exact ⟨x1,x2,free1 k hk1,fun z=>(List.nodup_append.1 hnd1).2.2 k (hob1 k z) k q rfl⟩
   ·have hk2:k∈F4 (ι g2 j2)++fs2:=List.mem_append.2 (.inr q)
    obtain ⟨x1,x2⟩:=h.sep _ _ _ k he2 rfl (hin2 k hk2)
    exact ⟨x1,x2,free2 k hk2,fun z=>hdis k (List.mem_append.2 (.inl (hob1 k z))) hk2⟩) (by
   rw [List.nodup_append]
   exact ⟨(List.nodup_append.1 hnd1).2.1,(List.nodup_append.1 hnd2).2.1,fun k q k' q' z=>by
    subst z
    exact hdis k (List.mem_append.2 (.inr q)) (List.mem_append.2 (.inr q'))⟩)
  exact ⟨_,_,_,F,P3 ι grp v',hrun,.inl rfl,r1.put ob.dst (.cell r2)⟩
end
structure N2 where
 a:S6:=.none
 d:Option Bool:=none
 v:Option V:=none
 e:Option s6:=none
def c0N (d:Option Bool) (o:C1):Option C1 :=
 match d with
 | some d=>match o.v with
  | .b x=>some { o with v:=.b d,obl:=(x=d)::o.obl }
  | _=>none
 | none=>some o
def b8r (v:Option V) (o:C1):Option C1 :=
 match v with
 | some v=>some { o with v:=v,obl:=(o.v=v)::o.obl }
 | none=>some o
def b1A (e:s6):List ((Nat×Nat)×s6)→Option (List ((Nat×Nat)×s6)×Prop)
 | []=>none
 | [u]=>some ([(u.1,e)],u.2=e)
 | u::us=>match b1A e us with
  | some (us',p)=>some (u::us',p)
  | none=>none
def b4T (e:Option s6) (o:C1):Option C1 :=
 match e with
 | some e=>match o.new with
  | some [e0]=>some { o with new:=some [e],obl:=(e0=e)::o.obl }
  | some _=>none
  | none=>match b1A e o.upd with
   | some (us,p)=>some { o with upd:=us,obl:=p::o.obl }
   | none=>none
 | none=>some o
def c3G (T:N2) (o:C1):Option C1 :=
 match b4T T.e o with
 | some o1=>match b8r T.v o1 with
  | some o2=>c0N T.d o2
  | none=>none
 | none=>none
def opM (cx:Cx) (grp:Nat) (ob:Oper) (t:List V) (A:S6):j4 C1 :=
 match ob.op with
 | .alloc e=>j4.lift (c1P cx grp e)
 | .box e x=>j4.lift (c2D cx grp e (s5 t x))
 | .buildSlice ty len parts=>match A with
  | .dck ck om=>b2m cx grp ty len (parts.toList.map fun (i,x)=>(i,s5 t x)) ck om
  | A=>b2t cx grp ty len (parts.toList.map fun (i,x)=>(i,s5 t x)) A
 | .makeSlice ty l c=>match A with
  | .dck ck om=>b4r cx grp ty (s5 t l) (s5 t c) ck om
  | A=>j4.lift (c1E cx grp ty (s5 t l) (s5 t c) (e3E A))
 | .load ty x=>match A with
  | .drow r=>b2A cx grp ty (s5 t x) r
  | .prow r=>b2r cx ty (s5 t x) r
  | .dtak r=>b2X cx grp ty (s5 t x) r
  | A=>b4i cx ty (s5 t x) A
 | .store ty x y=>match ob.dst with
  | none=>match A with
   | .dst r ck om=>b0E cx ty (s5 t x) (s5 t y) r ck om
   | .dsc r ck om=>b3o cx ty (s5 t x) (s5 t y) r ck om
   | A=>b30 cx ty (s5 t x) (s5 t y) A
  | some _=>j4.no
 | .makeMap ty none=>j4.lift (c2t cx grp ty)
 | .lookup ty x ix false=>b3c cx ty (s5 t x) (s5 t ix)
 | .mapUpdate ty x ix y=>match ob.dst with
  | none=>b18 cx ty (s5 t x) (s5 t ix) (s5 t y)
  | some _=>j4.no
 | .call c=>match c.callee,c.args.toList,c.argTypes.toList with
  | .builtin .append,[s,x],[ty,ty']=>if ty=ty' then (match A with
   | .dck _ _=>b1V cx grp ty (s5 t s) (s5 t x)
   | .part=>a9O true cx grp ty (s5 t s) (s5 t x)
   | _=>a9O false cx grp ty (s5 t s) (s5 t x)) else j4.no
  | .builtin .copy,[s,x],[ty,_]=>b1F cx ty (s5 t s) (s5 t x)
  | .value fop,args,_=>match s5 t fop with
   | .fn f=>b1X cx.P grp f (args.map (s5 t)) A
   | _=>j4.no
  | _,_,_=>j4.lift ((Z5 cx ob.op t A).map fun q=>{ v:=q.1,obl:=q.2 })
 | _=>j4.lift ((Z5 cx ob.op t A).map fun q=>{ v:=q.1,obl:=q.2 })
section
variable {cx:Cx} {Γ:S8} {F:Nat→Prop} {ι:Nat→Nat→Value} {S:St} {a:Act} {w:World}
def c3c (P:Program) (Γ:S8) (S':St) (ob:Oper) (a:Act) (w:World):Prop :=
 (∃ nx c w' F' ι',(execOp a.eval ob).run P w = .ok nx w'∧(nx = .value c∨(nx = .skip∧c=undef))∧t0 Γ F' ι' S' (a.put ob.dst c) w') ∨
 (∃ f args,(execOp a.eval ob).run P w = .ok (.enter f args) w∧Calls P f args w fun e w' => ∃ c F' ι',e = .returned c∧t0 Γ F' ι' S' (a.put ob.dst c) w')
theorem e7s (h:t0 Γ F ι S a w) {grp:Nat} (hg:grp<S.h.length) (hn : ¬ S.D grp) {ob:Oper} {A:S6} {out:C1} {lg:List (Nat×Nat)} (hp:opM cx grp ob S.t A S.ent=some (out,lg)) (hob : ∀ p∈out.obl,p):c3c cx.P Γ (S.apply grp ob.dst out) ob a w:=by
 have pure : ∀ {op:Op} {out:C1} {lg},ob.op=op→j4.lift ((Z5 cx op S.t A).map fun q=>({ v:=q.1,obl:=q.2 }:C1)) S.ent=some (out,lg)→(∀ p∈out.obl,p)→c3c cx.P Γ (S.apply grp ob.dst out) ob a w:=by
  intro op out lg hop hp hob
  subst hop
  obtain ⟨h1,_⟩:=j4.lift_some hp
  obtain ⟨q,hq,he⟩:=Option.map_eq_some_iff.1 h1
  simp only at he
  subst he
  obtain ⟨c,hr,hv⟩:=e1Z h.tmps hq hob
  exact .inl ⟨_,c,w,F,ι,hr,.inl rfl,by rw [a6M]; exact h.put ob.dst hv⟩
 unfold opM at hp
 cases ho:ob.op
 case alloc e =>
  rw [ho] at hp
  exact .inl (e3D h hg hn ho (j4.lift_some hp).1 hob)
 case box e x =>
  rw [ho] at hp
  exact .inl (d68 h hg hn ho (j4.lift_some hp).1)
 case buildSlice ty len parts =>
  rw [ho] at hp
  cases A
  case dck ck om=>exact .inl (d8y h hg hn ho hp hob)
  all_goals exact .inl (e9f h hg hn ho hp hob)
 case makeSlice ty l c =>
  rw [ho] at hp
  cases A
  case dck ck om=>exact .inl (e5x h hg hn ho hp hob)
  all_goals exact .inl (e0s h hg hn ho (j4.lift_some hp).1 hob)
 case load ty x =>
  rw [ho] at hp
  cases A
  case drow r=>exact .inl (e7Q h hg hn ho hp hob)
  case prow r=>exact .inl (d60 h ho hp hob)
  case dtak r=>exact .inl (e81 h hg hn ho hp hob)
  all_goals exact .inl (d9b h ho hp hob)
 case store ty x y =>
  rw [ho] at hp
  cases hd:ob.dst with
  | some d=>rw [hd] at hp; cases hp
  | none =>
   rw [hd] at hp
   have:a0u cx.P Γ ι S grp ob out a w:=by
    cases A
    case dst r ck om=>exact d41 h (grp:=grp) ho hd hp hob
    case dsc r ck om=>exact e7U h (grp:=grp) ho hd hp hob
    all_goals exact e8d h (grp:=grp) ho hd hp hob
   rw [← hd]
   exact .inl this
 case makeMap ty r =>
  rw [ho] at hp
  cases r with
  | none=>exact .inl (e0u h hg hn ho (j4.lift_some hp).1)
  | some r=>exact pure ho hp hob
 case lookup ty x ix ok =>
  rw [ho] at hp
  cases ok with
  | false=>exact .inl (e7m h ho hp)
  | true=>exact pure ho hp hob
 case mapUpdate ty x ix y =>
  rw [ho] at hp
  cases hd:ob.dst with
  | some d=>rw [hd] at hp; cases hp
  | none =>
   rw [hd] at hp
   have:a0u cx.P Γ ι S grp ob out a w:=e53 h (grp:=grp) ho hd hp
   rw [← hd]
   exact .inl this
 case call c =>
  rw [ho] at hp
  obtain ⟨callee,args,tys⟩:=c
  simp only at hp
  cases callee with
  | invoke x m=>exact pure ho hp hob
  | value fop =>
   simp only at hp
   generalize hfe:s5 S.t fop=fv at hp
   cases fv<;>try (cases hp; done)
   rename_i f
   obtain ⟨h1,h2⟩:=e1e h hg hn ho hfe hp hob
   exact .inr ⟨f,_,h1,h2⟩
  | builtin b =>
   cases b
   case append =>
    generalize hargs:args.toList=al at hp
    generalize htys:tys.toList=tl at hp
    rcases al with _ | ⟨s,_ | ⟨x,_ | ⟨y,al⟩⟩⟩<;>rcases tl with _ | ⟨ty,_ | ⟨ty',_ | ⟨ty3,tl⟩⟩⟩<;>try exact pure ho hp hob
    have ha:args = #[s,x]:=by simpa using congrArg List.toArray hargs
    have hy:tys = #[ty,ty']:=by simpa using congrArg List.toArray htys
    subst ha; subst hy
    simp only at hp
    by_cases q:ty=ty'
    ·subst q
     rw [if_pos rfl] at hp
     cases A
     case dck ck om=>exact .inl (e3m h hg hn ho hp hob)
     all_goals exact .inl (e0k (rt:=0) h hg hn ho hp hob)
    ·rw [if_neg q] at hp
     cases hp
   case copy =>
    generalize hargs:args.toList=al at hp
    generalize htys:tys.toList=tl at hp
    rcases al with _ | ⟨s,_ | ⟨x,_ | ⟨y,al⟩⟩⟩<;>rcases tl with _ | ⟨ty,_ | ⟨ty',_ | ⟨ty3,tl⟩⟩⟩<;>try exact pure ho hp hob
    have ha:args = #[s,x]:=by simpa using congrArg List.toArray hargs
    have hy:tys = #[ty,ty']:=by simpa using congrArg List.toArray htys
    subst ha; subst hy
    exact .inl (e4v h ho hp hob)
   all_goals exact pure ho hp hob
 all_goals
  rw [ho] at hp
  exact pure ho hp hob
theorem c6r {e:s6} : ∀ {us us':List ((Nat×Nat)×s6)} {p:Prop},b1A e us=some (us',p)→p→us'=us
 | [],_,_,h,_=>by cases h
 | [u],us',p,h,hp=>by
  unfold b1A at h
  injection h with h
  injection h with h1 h2
  subst h1; subst h2
  have:u.2=e:=hp
  subst this
  rfl
 | u::u2::us,us',p,h,hp=>by
  unfold b1A at h
  split at h<;>try (cases h; done)
  rename_i us1 p1 h1
  injection h with h
  injection h with h2 h3
  subst h2; subst h3
  rw [c6r h1 hp]
theorem e8T {d:Option Bool} {o o':C1} (hd:c0N d o=some o') (hob : ∀ p∈o'.obl,p):(∀ p∈o.obl,p)∧o'.new=o.new∧o'.upd=o.upd∧o'.v=o.v:=by
 unfold c0N at hd
 split at hd
 ·split at hd<;>try (cases hd; done)
  rename_i d _ x hv
  injection hd with hd
  subst hd
  have hx:x=d:=hob _ (by simp)
  exact ⟨fun p hp=>hob p (by simp [hp]),rfl,rfl,by simp [hv,hx]⟩
 ·injection hd with hd
  subst hd
  exact ⟨hob,rfl,rfl,rfl⟩
theorem e5R {v:Option V} {o o':C1} (hd:b8r v o=some o') (hob : ∀ p∈o'.obl,p):(∀ p∈o.obl,p)∧o'.new=o.new∧o'.upd=o.upd∧o'.v=o.v:=by
 unfold b8r at hd
 split at hd
 ·rename_i v
  injection hd with hd
  subst hd
  have hx:o.v=v:=hob _ (by simp)
  exact ⟨fun p hp=>hob p (by simp [hp]),rfl,rfl,hx.symm⟩
 ·injection hd with hd
  subst hd
  exact ⟨hob,rfl,rfl,rfl⟩
theorem e4k {e:Option s6} {o o':C1} (hd:b4T e o=some o') (hob : ∀ p∈o'.obl,p):(∀ p∈o.obl,p)∧o'.new=o.new∧o'.upd=o.upd∧o'.v=o.v:=by
 unfold b4T at hd
 split at hd
 ·rename_i e
  split at hd
  ·rename_i e0 hn
   injection hd with hd
   subst hd
   have hx:e0=e:=hob _ (by simp)
   exact ⟨fun p hp=>hob p (by simp [hp]),by rw [hn,hx],rfl,rfl⟩
  ·cases hd
  ·split at hd<;>try (cases hd; done)
   rename_i us p h1
   injection hd with hd
   subst hd
   have hx:p:=hob _ (by simp)
   exact ⟨fun p hp=>hob p (by simp [hp]),rfl,c6r h1 hx,rfl⟩
 ·injection hd with hd
  subst hd
  exact ⟨hob,rfl,rfl,rfl⟩
theorem d96 {T:N2} {o o':C1} (hd:c3G T o=some o') (hob : ∀ p∈o'.obl,p):(∀ p∈o.obl,p)∧o'.new=o.new∧o'.upd=o.upd∧o'.v=o.v:=by
 unfold c3G at hd
 cases h1:b4T T.e o with
 | none=>rw [h1] at hd; cases hd
 | some o1 =>
 rw [h1] at hd
 simp only at hd
 cases h2:b8r T.v o1 with
 | none=>rw [h2] at hd; cases hd
 | some o2 =>
 rw [h2] at hd
 obtain ⟨a1,a2,a3,a4⟩:=e8T hd hob
 obtain ⟨b1,b2,b3,b4⟩:=e5R h2 a1
 obtain ⟨c1,c2,c3,c4⟩:=e4k h1 b1
 exact ⟨c1,a2.trans (b2.trans c2),a3.trans (b3.trans c3),a4.trans (b4.trans c4)⟩
def a9u (cx:Cx) (grp:Nat) (ob:Oper) (t:List V) (A:N2):j4 C1:=j4.bind (opM cx grp ob t A.a) fun o=>j4.lift (c3G A o)
theorem e7q {S:St} {grp:Nat} {dst:Option Nat} {o o':C1} (h1:o'.new=o.new) (h2:o'.upd=o.upd) (h3:o'.v=o.v):S.apply grp dst o'=S.apply grp dst o:=by
 unfold St.apply
 rw [h1,h2,h3]
theorem d87 (h:t0 Γ F ι S a w) {grp:Nat} (hg:grp<S.h.length) (hn : ¬ S.D grp) {ob:Oper} {A:N2} {out:C1} {lg:List (Nat×Nat)} (hp:a9u cx grp ob S.t A S.ent=some (out,lg)) (hob : ∀ p∈out.obl,p):c3c cx.P Γ (S.apply grp ob.dst out) ob a w:=by
 obtain ⟨o,l1,l2,h1,h2,_⟩:=j4.bind_some hp
 obtain ⟨h3,_⟩:=j4.lift_some h2
 simp only at h3
 obtain ⟨h4,h5,h6,h7⟩:=d96 h3 hob
 rw [e7q h5 h6 h7]
 exact e7s h hg hn h1 h4
def a6q (ops:Array Oper) (o:Oper) (t:List V):Option Bool :=
 match o.guard with
 | none=>some true
 | some (j,want)=>match (ops[j]?).bind (·.dst) with
  | some d=>match t[d]? with
   | some (.b x)=>some (x==want)
   | some (.tup [])=>some false
   | _=>none
  | none=>none
theorem c87 {ops:Array Oper} {o:Oper} {b:Bool} {D:Nat→Prop} {t:List V} (ht:v6 (RV w F D ι) t a.tmps.toList) (h:a6q ops o t=some b):Region.wanted o (yielded ops a.tmps)=b:=by
 unfold a6q at h
 unfold Region.wanted
 split at h
 ·rename_i hg
  rw [hg]
  injection h
 ·rename_i j want hg
  rw [hg]
  simp only
  cases hd:(ops[j]?).bind (·.dst) with
  | none=>rw [hd] at h; cases h
  | some d =>
   rw [hd] at h
   simp only at h
   split at h<;>try (cases h; done)
   rename_i x hx
   injection h with h
   obtain ⟨c,hc,hv⟩:=ht.get hx
   obtain rfl:=hv.inv_b
   have:yielded ops a.tmps j=some x:=by
    unfold yielded
    simp only [hd]
    rw [Array.getElem?_toList] at hc
    simp [hc]
   rw [this,← h]
   cases x<;>cases want<;>rfl
   ·rename_i hx
    injection h with h
    obtain ⟨c,hc,hv⟩:=ht.get hx
    have hcc:c=undef:=by
     cases hv with
     | one v c hv=>cases hv with | cell v c hv=>cases hv with | fv v c hv=>cases hv
     | tup cs ds hv=>cases hv; rfl
    subst hcc
    have:yielded ops a.tmps j=none:=by
     unfold yielded
     simp only [hd]
     rw [Array.getElem?_toList] at hc
     simp [hc,undef]
    rw [this,← h]
    rfl
end
structure a1f where
 rd:List (Nat×Nat)
 wr:List (Nat×Nat)
def a1l (cx:Cx) (ops:Array Oper) (base:Nat) (A:Nat→N2) (i:Nat) (S:St):Option (St×List Prop×a1f) :=
 match ops[i]? with
 | none=>none
 | some o=>match a6q ops o S.t with
  | some true=>match a9u cx (base+i) o S.t (A i) S.ent with
   | some (out,lg)=>some (S.apply (base+i) o.dst out,out.obl,⟨lg,out.upd.map (·.1)⟩)
   | none=>none
  | some false=>some ({ S with t:=Y6 S.t o.dst (.tup []) },[],⟨[],[]⟩)
  | none=>none
section
variable {cx:Cx} {Γ:S8} {F:Nat→Prop} {ι:Nat→Nat→Value} {S S':St} {a:Act} {w:World} {ops:Array Oper} {base:Nat} {A:Nat→N2}
theorem e2z {grp:Nat} {dst:Option Nat} {out:C1} {g:Nat} (h:(S.apply grp dst out).D g):S.D g∨g=grp:=by
 unfold St.apply at h
 simp only at h
 split at h
 ·exact .inl ((a1z S g _).1 h)
 ·rename_i new hnew
  by_cases q:g=grp
  ·exact .inr q
  ·left
   obtain ⟨l,hl⟩:=h
   simp only [St.lay,List.getElem?_set_ne (Ne.symm q)] at hl
   exact (a1z S g _).1 ⟨l,hl⟩
theorem d9I {grp:Nat} {dst:Option Nat} {out:C1}:(S.apply grp dst out).h.length=S.h.length:=by
 unfold St.apply
 simp only
 split
 ·exact St.upds_len S _
 ·simp [St.lay,St.upds_len]
theorem c5Z {i:Nat} {ps:List Prop} {ft:a1f} (h:a1l cx ops base A i S=some (S',ps,ft)):(∀ g,S'.D g→S.D g∨g=base+i)∧S'.h.length=S.h.length:=by
 unfold a1l at h
 split at h<;>try (cases h; done)
 split at h<;>try (cases h; done)
 ·split at h<;>try (cases h; done)
  injection h with h
  injection h with h1 h2
  subst h1
  exact ⟨fun g x=>e2z x,d9I⟩
 ·injection h with h
  injection h with h1 h2
  subst h1
  exact ⟨fun g x=>.inl x,rfl⟩
theorem d2L {Q:Exit→Act→World→Prop} {K:Act→World→Prop} {i:Nat} {ps:List Prop} {ft:a1f} (h:t0 Γ F ι S a w) (hg:base+i<S.h.length) (hn : ¬ S.D (base+i)) (hs:a1l cx ops base A i S=some (S',ps,ft)) (hob : ∀ p∈ps,p)
  (hK : ∀ a' w' F' ι',t0 Γ F' ι' S' a' w'→K a' w'):wpOp cx.P ops Q i K a w:=by
 unfold a1l at hs
 unfold wpOp
 split at hs<;>try (cases hs; done)
 rename_i o ho
 rw [ho]
 simp only
 split at hs<;>try (cases hs; done)
 ·rename_i hw
  have hwant:=c87 h.tmps hw
  rw [hwant]
  simp only [if_true]
  split at hs<;>try (cases hs; done)
  rename_i out lg hop
  injection hs with hs
  injection hs with h1 h2
  injection h2 with h2 h3
  subst h1; subst h2
  left
  unfold Oper.wp
  rcases d87 h hg hn hop hob with ⟨nx,c,w',F',ι',hr,hnx,hrel⟩ | ⟨f,args,hr,hcalls⟩
  ·rw [hr]
   rcases hnx with rfl | ⟨rfl,rfl⟩
   ·exact hK _ _ _ _ hrel
   ·exact hK _ _ _ _ hrel
  ·rw [hr]
   refine hcalls.mono ?_
   rintro e w' ⟨c,F',ι',rfl,hrel⟩
   exact hK _ _ _ _ hrel
 ·rename_i hw
  have hwant:=c87 h.tmps hw
  rw [hwant]
  simp only [Bool.false_eq_true,if_false]
  injection hs with hs
  injection hs with h1 h2
  subst h1
  exact hK _ _ _ _ (h.put o.dst (.tup [] [] .nil))
def a17 (cx:Cx) (ops:Array Oper) (base:Nat) (A:Nat→N2):List Nat→St→Option (St×List (List Prop×a1f))
 | [],S=>some (S,[])
 | i::l,S=>match a1l cx ops base A i S with
  | some (S1,r)=>match a17 cx ops base A l S1 with
   | some (S2,rs)=>some (S2,r::rs)
   | none=>none
  | none=>none
theorem b2j {i:Nat} {l:List Nat} {rs:List (List Prop×a1f)} (h:a17 cx ops base A (i::l) S=some (S',rs)) : ∃ S1 r rs',a1l cx ops base A i S=some (S1,r)∧a17 cx ops base A l S1=some (S',rs')∧rs=r::rs':=by
 unfold a17 at h
 split at h<;>try (cases h; done)
 rename_i S1 r h1
 split at h<;>try (cases h; done)
 rename_i S2 rs' h2
 injection h with h
 injection h with h3 h4
 subst h3; subst h4
 exact ⟨S1,r,rs',h1,h2,rfl⟩
theorem c61 {Q:Exit→Act→World→Prop} : ∀ {l:List Nat} {S:St} {F:Nat→Prop} {ι:Nat→Nat→Value} {a:Act} {w:World} {rs:List (List Prop×a1f)},t0 Γ F ι S a w→l.Nodup→(∀ i∈l,base+i<S.h.length ∧ ¬ S.D (base+i))→a17 cx ops base A l S=some (S',rs)→(∀ r∈rs,∀ p∈r.1,p) →
  (∀ a' w' F' ι',t0 Γ F' ι' S' a' w'→Q .normal a' w')→wpOps cx.P ops Q l a w
 | [],S,F,ι,a,w,rs,h,_,_,hr,_,hQ=>by
  unfold a17 at hr
  injection hr with hr
  injection hr with h1 h2
  subst h1
  exact hQ _ _ _ _ h
 | i::l,S,F,ι,a,w,rs,h,hn,hfree,hr,hob,hQ=>by
  obtain ⟨S1,r,rs',h1,h2,rfl⟩:=b2j hr
  rw [wpOps_cons]
  have hn':=List.nodup_cons.1 hn
  obtain ⟨hD,hl⟩:=c5Z (ps:=r.1) (ft:=r.2) h1
  refine d2L h (hfree i (by simp)).1 (hfree i (by simp)).2 (ps:=r.1) (ft:=r.2) h1 (hob r (by simp)) fun a' w' F' ι' hrel => ?_
  refine c61 hrel hn'.2 (fun j hj => ?_) h2 (fun r' hr'=>hob r' (by simp [hr'])) hQ
  refine ⟨by rw [hl]; exact (hfree j (by simp [hj])).1,fun x => ?_⟩
  rcases hD _ x with y | y
  ·exact (hfree j (by simp [hj])).2 y
  ·have:i=j:=by omega
   exact hn'.1 (this▸hj)
end
def z5 {α:Type} (m:j4 α):Prop := ∀ (H H':Hp) r lg,m H=some (r,lg)→(∀ id∈lg,H' id.1 id.2=H id.1 id.2)→m H'=some (r,lg)
namespace z5
variable {α β:Type}
theorem pure (a:α):z5 (j4.pure a):=fun _ _ _ _ h _=>h
theorem no:z5 (j4.no:j4 α):=fun _ _ _ _ h _=>h
theorem lift (o:Option α):z5 (j4.lift o):=by
 intro H H' r lg h _
 unfold j4.lift at h ⊢
 exact h
theorem rd (g j:Nat):z5 (j4.rd g j):=by
 intro H H' r lg h hH
 obtain ⟨h1,h2⟩:=j4.rd_some h
 simp only at h1 h2
 subst h2
 have:=hH (g,j) (by simp)
 unfold j4.rd
 simp only at this
 rw [this,h1]
theorem bind {m:j4 α} {f:α→j4 β} (hm:z5 m) (hf : ∀ a,z5 (f a)):z5 (j4.bind m f):=by
 intro H H' r lg h hH
 obtain ⟨a,l,l',h1,h2,h3⟩:=j4.bind_some h
 simp only at h2 h3
 subst h3
 unfold j4.bind
 rw [hm H H' a l h1 (fun id hid=>hH id (List.mem_append.2 (.inl hid)))]
 simp only
 rw [hf a H H' r l' h2 (fun id hid=>hH id (List.mem_append.2 (.inr hid)))]
theorem ite {c:Prop} [Decidable c] {m n:j4 α} (hm:z5 m) (hn:z5 n):z5 (if c then m else n):=by
 split<;>assumption
end z5
theorem d89 (ck:Option Nat) (v:V):z5 (fzP ck v):=by
 unfold fzP
 cases v<;>try exact z5.no
 case own g j sz lo n =>
  refine .bind (.rd g j) fun e => ?_
  cases e<;>first | exact z5.no | exact .ite (.pure _) .no
 case nil=>cases ck<;>exact .pure _
 all_goals exact .pure _
theorem b9z : ∀ (vs:List V) (ck:List (Option Nat)),z5 (b3L ck vs)
 | [],ck=>by cases ck<;>exact .pure _
 | v::vs,ck=>.bind (d89 _ _) fun x=>.bind (b9z vs _) fun y=>.pure _
theorem e88 (cx:Cx) (ty:Nat) (x:V) (A:S6):z5 (b4i cx ty x A):=by
 unfold b4i
 cases cx.T ty with
 | none=>exact .no
 | some ti =>
  cases x<;>try exact z5.no
  case ptr g j off =>
   refine .bind (.rd g j) fun e => ?_
   cases e<;>try exact z5.no
   case var e cs=>simp only; cases Z4 ti (cs.drop off)<;>first | exact .no | exact .pure _
   case arr e sz n rows=>exact .ite (.pure _) .no
  case eptr g j sz idx off =>
   refine .bind (.rd g j) fun e => ?_
   cases A<;>try exact z5.no
   case row r =>
    simp only
    cases Z4 ti (r.drop off) with
    | none=>exact .no
    | some v=>cases e<;>first | exact z5.no | exact .ite (.pure _) .no
  case fptr cs=>simp only; cases Z4 ti cs<;>first | exact .no | exact .pure _
theorem e3N (cx:Cx) (ty:Nat) (x y:V) (A:S6):z5 (b30 cx ty x y A):=by
 unfold b30
 cases cx.T ty with
 | none=>exact .no
 | some ti =>
  cases y.cells with
  | none=>exact .no
  | some vs =>
   cases x<;>try exact z5.no
   case ptr g j off =>
    refine .bind (.rd g j) fun e => ?_
    cases e<;>first | exact z5.no | exact .ite (.pure _) .no
   case eptr g j sz idx off =>
    refine .bind (.rd g j) fun e => ?_
    cases A<;>try exact z5.no
    case rowck r ck =>
     refine .bind (b9z _ _) fun f => ?_
     cases e<;>first | exact z5.no | exact .ite (.pure _) .no
theorem d5J (pt:Bool) (x:V):z5 (a9w pt x):=by
 unfold a9w
 cases x<;>try first | exact z5.no | exact z5.pure _
 case own g j sz lo n =>
  refine .bind (.rd g j) fun e => ?_
  cases e<;>first | exact z5.no | exact .ite (.pure _) .no
theorem e7C (pt:Bool) (cx:Cx) (grp ty:Nat) (s x:V):z5 (a9O pt cx grp ty s x):=by
 unfold a9O
 cases cx.T ty with
 | none=>exact .no
 | some ti =>
  simp only
  cases ti.sl with
  | none=>exact .no
  | some e =>
   simp only
   cases cx.T e with
   | none=>exact .no
   | some ei =>
    refine .bind (d5J _ x) fun q=>.ite ?_ .no
    cases s<;>try first | exact z5.no | exact z5.pure _
    case own g j sz lo n =>
     cases lo with
     | succ k=>exact .no
     | zero =>
      refine .bind (.rd g j) fun e => ?_
      cases e<;>first | exact z5.no | exact .ite (.pure _) .no
theorem e5M (cx:Cx) (ty:Nat) (s x:V):z5 (b1F cx ty s x):=by
 unfold b1F
 cases cx.T ty with
 | none=>exact .no
 | some ti =>
  simp only
  cases ti.sl with
  | none=>exact .no
  | some e =>
   simp only
   cases cx.T e with
   | none=>exact .no
   | some ei =>
    refine .bind (d5J _ x) fun q => ?_
    cases s<;>try exact z5.no
    case own g j sz lo n =>
     cases lo with
     | succ k=>exact .no
     | zero =>
      refine .bind (.rd g j) fun e => ?_
      cases e<;>first | exact z5.no | exact .ite (.pure _) .no
theorem c7G (ck:List (Option Nat)) : ∀ ps:List (Nat×V),z5 (b0l ck ps)
 | []=>.pure _
 | (i,v)::ps=>by
  unfold b0l
  cases v.cells with
  | none=>exact .no
  | some cs=>exact .bind (b9z _ _) fun x=>.bind (c7G ck ps) fun y=>.pure _
theorem d8G (cx:Cx) (grp ty len:Nat) (parts:List (Nat×V)) (A:S6):z5 (b2t cx grp ty len parts A):=by
 unfold b2t
 cases cx.T ty with
 | none=>exact .no
 | some ti =>
  simp only
  cases ti.sl with
  | none=>exact .no
  | some e =>
   simp only
   cases cx.T e with
   | none=>exact .no
   | some ei =>
    cases A<;>try exact z5.no
    case ck ck =>
     refine .bind (c7G _ _) fun q => ?_
     cases a60 ei.size (List.replicate len ei.zero) q.1 with
     | none=>exact .no
     | some rows=>exact .ite (.pure _) .no
theorem d1d (ck om:Option Nat) (v:V):z5 (Z7 ck om v):=by
 unfold Z7
 cases om with
 | some e =>
  refine .ite (.pure _) ?_
  cases v<;>try first | exact z5.no | exact z5.pure _
  case own g j sz lo n =>
   cases lo with
   | succ k=>exact .no
   | zero =>
    refine .bind (.rd g j) fun e => ?_
    cases e<;>first | exact z5.no | exact .ite (.pure _) .no | (rename_i o _ _ _ _; cases o<;>first | exact z5.no | exact .ite (.pure _) .no)
 | none =>
  cases v<;>try first | exact z5.no | exact z5.pure _
  case own g j sz lo n =>
   refine .bind (.rd g j) fun e => ?_
   cases e<;>first | exact z5.no | exact .ite (.pure _) .no | (rename_i o _ _ _ _; cases o<;>first | exact z5.no | exact .ite (.pure _) .no)
  case nil=>cases ck<;>exact .pure _
theorem a93 : ∀ (vs:List V) (ck om:List (Option Nat)),z5 (a23 ck om vs)
 | [],ck,om=>by cases ck<;>cases om<;>exact .pure _
 | v::vs,ck,om=>.bind (d1d _ _ _) fun x=>.bind (a93 vs _ _) fun y=>.pure _
theorem e3K (m:PM) (v:V):z5 (a2p m v):=by
 unfold a2p
 cases m with
 | val ck om =>
  cases v<;>try first | exact z5.no | exact d1d _ _ _
  case agg cs=>exact .bind (a93 _ _ _) fun x=>.pure _
 | ptr ck om =>
  cases v<;>try exact z5.no
  case ptr g j off =>
   cases off with
   | succ k=>exact .no
   | zero =>
    refine .bind (.rd g j) fun e => ?_
    cases e<;>try exact z5.no
    case var e cs=>exact .bind (a93 _ _ _) fun x=>.pure _
 | row =>
  cases v<;>try exact z5.no
  case own g j sz lo n =>
   cases lo with
   | succ k=>exact .no
   | zero =>
    refine .bind (.rd g j) fun e => ?_
    cases e<;>first | exact z5.no | exact .ite (.pure _) .no | (rename_i o _ _ _ _; cases o<;>first | exact z5.no | exact .ite (.pure _) .no)
 | part =>
  cases v<;>try exact z5.no
  case own g j sz lo n =>
   refine .bind (.rd g j) fun e => ?_
   cases e<;>first | exact z5.no | exact .ite (.pure _) .no | (rename_i o _ _ _ _; cases o<;>first | exact z5.no | exact .ite (.pure _) .no)
theorem d3D : ∀ (vs:List V) (ms:List PM),z5 (a2X ms vs)
 | [],ms=>by cases ms<;>exact .pure _
 | v::vs,[]=>.no
 | v::vs,m::ms=>.bind (e3K m v) fun x=>.bind (d3D vs ms) fun y=>.pure _
theorem c5h : ∀ ids:List (Nat×Nat),z5 (a5u ids)
 | []=>.pure _
 | (g,j)::ids=>by
  unfold a5u
  refine .bind (.rd g j) fun e => ?_
  cases e<;>try exact z5.no
  case row t sz n rows=>exact .bind (c5h ids) fun us=>.pure _
  case deep o t sz n rows =>
   cases o
   ·exact .bind (c5h ids) fun us=>.pure _
   ·exact .no
theorem c7q (grp:Nat) (args:List V) (ms:List PM) (fr:Bool) (res:V) (outs:List (Option V)) (p:List V→Prop):z5 (a77 grp args ms fr res outs p):=by
 unfold a77
 refine .bind (d3D _ _) fun r=>.bind (c5h _) fun fz => ?_
 simp only
 cases W2 grp (J7 grp 0 res).2.length ms args outs with
 | none=>exact .no
 | some ue=>exact .ite (.pure _) .no
theorem d81 (P:Program) (grp f:Nat) (args:List V) (A:S6):z5 (b1X P grp f args A):=by
 unfold b1X
 cases A<;>try exact z5.no
 case call ms fr res outs=>exact c7q _ _ _ _ _ _ _
 case callr k q ms fr res outs =>
  simp only
  split
  ·split
   ·exact .bind (c7q _ _ _ _ _ _ _) fun o=>.pure _
   ·exact .no
  ·exact .no
theorem c8T (cx:Cx) (ty:Nat) (x y:V) (r:List V) (ck om:List (Option Nat)):z5 (b0E cx ty x y r ck om):=by
 unfold b0E
 cases cx.T ty with
 | none=>exact .no
 | some ti =>
  cases y.cells with
  | none=>exact .no
  | some vs =>
   cases x<;>try exact z5.no
   case eptr g j sz idx off =>
    refine .bind (.rd g j) fun e=>.bind (a93 _ _ _) fun f => ?_
    cases e<;>try exact z5.no
    exact .ite (.pure _) .no
theorem e2q (cx:Cx) (grp ty:Nat) (x:V) (r:List V):z5 (b2A cx grp ty x r):=by
 unfold b2A
 cases cx.T ty with
 | none=>exact .no
 | some ti =>
  cases x<;>try exact z5.no
  case eptr g j sz idx off =>
   refine .bind (.rd g j) fun e => ?_
   cases e<;>try exact z5.no
   simp only
   refine .ite ?_ .no
   cases Z4 ti (N4 grp 0 ((r.drop off).take (if ti.agg=true then ti.size else 1))).1 with
   | none=>exact .no
   | some v=>exact .pure _
theorem e7K (cx:Cx) (grp ty:Nat) (x:V) (r:List V):z5 (b2X cx grp ty x r):=by
 unfold b2X
 cases cx.T ty with
 | none=>exact .no
 | some ti =>
  cases x<;>try exact z5.no
  case eptr g j sz idx off =>
   refine .bind (.rd g j) fun e => ?_
   cases e<;>try exact z5.no
   simp only
   refine .ite ?_ .no
   cases Z4 ti (N4 grp 0 ((r.drop off).take (if ti.agg=true then ti.size else 1))).1 with
   | none=>exact .no
   | some v=>exact .pure _
theorem e6Z (cx:Cx) (ty:Nat) (x y:V) (r:List V) (ck om:List (Option Nat)):z5 (b3o cx ty x y r ck om):=by
 unfold b3o
 refine .bind (c8T _ _ _ _ _ _ _) fun o => ?_
 split
 ·exact .bind (.rd _ _) fun _=>.pure _
 ·exact .no
theorem e3j (cx:Cx) (ty:Nat) (x:V) (r:List V):z5 (b2r cx ty x r):=by
 unfold b2r
 cases cx.T ty with
 | none=>exact .no
 | some ti =>
  cases x<;>try exact z5.no
  case eptr g j sz idx off =>
   refine .bind (.rd g j) fun e => ?_
   cases e<;>try exact z5.no
   simp only
   refine .ite ?_ .no
   cases Z4 ti ((r.drop off).take (if ti.agg=true then ti.size else 1)) with
   | none=>exact .no
   | some v=>exact .pure _
theorem e3B (cx:Cx) (grp ty:Nat) (l c:V) (ck om:List (Option Nat)):z5 (b4r cx grp ty l c ck om):=by
 unfold b4r
 cases cx.T ty with
 | none=>exact .no
 | some ti =>
  simp only
  cases ti.sl with
  | none=>exact .no
  | some e =>
   simp only
   cases cx.T e with
   | none=>exact .no
   | some ei =>
    cases l<;>try exact z5.no
    cases c<;>try exact z5.no
    exact .bind (a93 _ _ _) fun f=>.ite (.pure _) .no
theorem e7O (cx:Cx) (grp ty len:Nat) (parts:List (Nat×V)) (ck om:List (Option Nat)):z5 (b2m cx grp ty len parts ck om):=by
 unfold b2m
 cases cx.T ty with
 | none=>exact .no
 | some ti =>
  simp only
  cases ti.sl with
  | none=>exact .no
  | some e =>
   simp only
   cases cx.T e with
   | none=>exact .no
   | some ei =>
    simp only
    split
    ·split
     ·exact .bind (a93 _ _ _) fun f=>.ite (.pure _) .no
     ·exact .no
    ·exact .ite (.pure _) .no
    ·exact .no
theorem d92 (cx:Cx) (grp ty:Nat) (s x:V):z5 (b1V cx grp ty s x):=by
 unfold b1V
 cases cx.T ty with
 | none=>exact .no
 | some ti =>
  simp only
  cases ti.sl with
  | none=>exact .no
  | some e =>
   simp only
   cases cx.T e with
   | none=>exact .no
   | some ei =>
    simp only
    split
    ·refine .bind (.rd _ _) fun e2 => ?_
     split
     ·refine .ite ?_ .no
      split
      ·exact .pure _
      ·refine .bind (.rd _ _) fun e1 => ?_
       split
       ·exact .ite (.pure _) .no
       ·exact .no
      ·exact .no
     ·exact .no
    ·exact .no
theorem d90 (cx:Cx) (ty:Nat) (x ix:V):z5 (b3c cx ty x ix):=by
 unfold b3c
 cases cx.M ty with
 | none=>exact .no
 | some q =>
  obtain ⟨kt,m,z⟩:=q
  cases x<;>try exact z5.no
  cases ix<;>try exact z5.no
  rename_i g j ks
  simp only
  cases a3t ks with
  | none=>exact .no
  | some xs =>
   refine .bind (.rd g j) fun e => ?_
   cases e<;>try exact z5.no
   exact .ite (.pure _) .no
theorem d8m (cx:Cx) (ty:Nat) (x ix y:V):z5 (b18 cx ty x ix y):=by
 unfold b18
 cases cx.M ty with
 | none=>exact .no
 | some q =>
  obtain ⟨kt,m,z⟩:=q
  cases x<;>try exact z5.no
  cases ix<;>try exact z5.no
  rename_i g j ks
  simp only
  cases a3t ks with
  | none=>exact .no
  | some xs =>
   refine .bind (.rd g j) fun e => ?_
   cases e<;>try exact z5.no
   exact .ite (.pure _) .no
theorem d8n (cx:Cx) (grp:Nat) (ob:Oper) (t:List V) (A:S6):z5 (opM cx grp ob t A):=by
 unfold opM
 cases ob.op<;>try exact z5.lift _
 case buildSlice ty len parts=>cases A<;>first | exact e7O _ _ _ _ _ _ _ | exact d8G _ _ _ _ _ _
 case makeSlice ty l c=>cases A<;>first | exact e3B _ _ _ _ _ _ _ | exact z5.lift _
 case load ty x=>cases A<;>first | exact e2q _ _ _ _ _ | exact e7K _ _ _ _ _ | exact e3j _ _ _ _ | exact e88 _ _ _ _
 case store ty x y =>
  cases ob.dst
  ·cases A<;>first | exact c8T _ _ _ _ _ _ _ | exact e6Z _ _ _ _ _ _ _ | exact e3N _ _ _ _ _
  ·exact .no
 case makeMap ty r=>cases r<;>exact z5.lift _
 case lookup ty x ix ok=>cases ok<;>first | exact d90 _ _ _ _ | exact z5.lift _
 case mapUpdate ty x ix y =>
  cases ob.dst
  ·exact d8m _ _ _ _ _
  ·exact .no
 case call c =>
  obtain ⟨callee,args,tys⟩:=c
  simp only
  split
  ·refine .ite ?_ .no
   cases A<;>first | exact d92 _ _ _ _ _ | exact e7C _ _ _ _ _ _
  ·exact e5M _ _ _ _
  ·cases s5 t _<;>first | exact d81 _ _ _ _ _ | exact z5.no
  ·exact .lift _
theorem d82 (cx:Cx) (grp:Nat) (ob:Oper) (t:List V) (A:N2):z5 (a9u cx grp ob t A):=.bind (d8n _ _ _ _ _) fun o=>.lift _
theorem c8n {t t':List V} : ∀ {xs:List Operand},(∀ x∈xs,s5 t' x=s5 t x)→xs.map (s5 t')=xs.map (s5 t)
 | [],_=>rfl
 | x::xs,h=>by simp only [List.map_cons]; rw [h x (by simp),c8n fun y hy=>h y (by simp [hy])]
theorem c0Z {t t':List V} : ∀ {ps:List (Nat×Operand)},(∀ x∈ps.map (·.2),s5 t' x=s5 t x)→(ps.map fun (i,x)=>(i,s5 t' x))=(ps.map fun (i,x)=>(i,s5 t x))
 | [],_=>rfl
 | p::ps,h=>by
  simp only [List.map_cons]
  rw [h p.2 (by simp),c0Z fun y hy=>h y (by simp [hy])]
theorem c99 {t t':List V} {o:Option Operand} (h : ∀ x∈o.toList,s5 t' x=s5 t x):o.map (s5 t')=o.map (s5 t):=by
 cases o with
 | none=>rfl
 | some x=>simp only [Option.map_some]; rw [h x (by simp)]
theorem d9B {cx:Cx} {op:Op} {t t':List V} {A:S6} (h : ∀ x∈op.operands.toList,s5 t' x=s5 t x):Z5 cx op t' A=Z5 cx op t A:=by
 cases op<;>try rfl
 case makeFunc fn first captured=>cases fn<;>rfl
 case move x=>simp only [Z5]; rw [h x (by simp [Op.operands])]
 case assign x=>simp only [Z5]; rw [h x (by simp [Op.operands])]
 case pick c x y=>simp only [Z5]; rw [h c (by simp [Op.operands]),h x (by simp [Op.operands]),h y (by simp [Op.operands])]
 case nilCheck x=>simp only [Z5]; rw [h x (by simp [Op.operands])]
 case binOp o ty x y ty'=>simp only [Z5]; rw [h x (by simp [Op.operands]),h y (by simp [Op.operands])]
 case unOp o ty x=>simp only [Z5]; rw [h x (by simp [Op.operands])]
 case convert s d x=>simp only [Z5]; rw [h x (by simp [Op.operands])]
 case extract x k=>simp only [Z5]; rw [h x (by simp [Op.operands])]
 case field ty x f=>simp only [Z5]; rw [h x (by simp [Op.operands])]
 case fieldAddr ty x f=>simp only [Z5]; rw [h x (by simp [Op.operands])]
 case build ty parts=>simp only [Z5]; rw [c0Z (by simpa [Op.operands] using h)]
 case indexAddr ty x y=>simp only [Z5]; rw [h x (by simp [Op.operands]),h y (by simp [Op.operands])]
 case index ty x y=>simp only [Z5]; rw [h x (by simp [Op.operands]),h y (by simp [Op.operands])]
 case slice ty x lo hi mx =>
  cases mx with
  | some m=>rfl
  | none =>
   simp only [Z5]
   rw [h x (by simp [Op.operands]),c99 (o:=lo) (fun y hy=>h y (by simp [Op.operands] at hy ⊢; simp [hy])),c99 (o:=hi) (fun y hy=>h y (by simp [Op.operands] at hy ⊢; simp [hy]))]
 case call c =>
  obtain ⟨callee,args,tys⟩:=c
  simp only [Z5]
  cases callee with
  | value x=>rfl
  | invoke x m=>rfl
  | builtin b =>
   have ha : ∀ x∈args.toList,s5 t' x=s5 t x:=fun x hx=>h x (by simpa [Op.operands,Call.operands] using hx)
   cases b<;>try rfl
   all_goals
    generalize args.toList=al at ha
    generalize tys.toList=tl
    rcases al with _ | ⟨s,_ | ⟨x,_ | ⟨y,al⟩⟩⟩<;>rcases tl with _ | ⟨ty,_ | ⟨ty',tl⟩⟩<;>try rfl
    all_goals simp only [ha s (by simp)]
    all_goals try simp only [ha x (by simp)]
theorem d7q {cx:Cx} {grp:Nat} {ob:Oper} {t t':List V} {A:S6} (h : ∀ x∈ob.op.operands.toList,s5 t' x=s5 t x):opM cx grp ob t' A=opM cx grp ob t A:=by
 have hp:=d9B (cx:=cx) (A:=A) h
 unfold opM
 cases ho:ob.op<;>rw [ho] at h hp<;>simp only [hp]
 case box e x=>rw [h x (by simp [Op.operands])]
 case buildSlice ty len parts=>rw [c0Z (by simpa [Op.operands] using h)]
 case makeSlice ty l c=>rw [h l (by simp [Op.operands]),h c (by simp [Op.operands])]
 case load ty x=>rw [h x (by simp [Op.operands])]
 case store ty x y=>rw [h x (by simp [Op.operands]),h y (by simp [Op.operands])]
 case makeMap ty r=>cases r<;>simp only [hp]
 case lookup ty x ix ok =>
  have h1:=h x (by simp [Op.operands])
  have h2:=h ix (by simp [Op.operands])
  cases ok<;>simp only [hp,h1,h2]
 case mapUpdate ty x ix y=>rw [h x (by simp [Op.operands]),h ix (by simp [Op.operands]),h y (by simp [Op.operands])]
 case call c =>
  obtain ⟨callee,args,tys⟩:=c
  cases callee with
  | invoke x m=>rfl
  | value fop =>
   have h1:s5 t' fop=s5 t fop:=h fop (by simp [Op.operands,Call.operands])
   have h2:args.toList.map (s5 t')=args.toList.map (s5 t):=c8n fun x hx=>h x (by simp [Op.operands,Call.operands] at hx ⊢; simp [hx])
   simp only [h1,h2]
  | builtin b =>
   have ha : ∀ x∈args.toList,s5 t' x=s5 t x:=fun x hx=>h x (by simpa [Op.operands,Call.operands] using hx)
   cases b<;>try rfl
   all_goals
    generalize args.toList=al at ha
    generalize tys.toList=tl
    rcases al with _ | ⟨s,_ | ⟨x,_ | ⟨y,al⟩⟩⟩<;>rcases tl with _ | ⟨ty,_ | ⟨ty',_ | ⟨ty3,tl⟩⟩⟩<;>try rfl
    all_goals simp only [ha s (by simp),ha x (by simp)]
theorem c55 {t:List V} {dst:Option Nat} {v:V} {x:Operand} (h : ∀ d,dst=some d→x ≠ .tmp d):s5 (Y6 t dst v) x=s5 t x:=by
 cases dst with
 | none=>rfl
 | some d =>
  cases x with
  | tmp k =>
   have:d≠k:=fun q=>h d rfl (by rw [q])
   simp [s5,Y6,List.getElem?_set_ne this]
  | _=>rfl
theorem e4J {S:St} {g j g' j':Nat} {e e':s6} (h : ¬ (g=g'∧j=j')):(S.setE g j e).setE g' j' e'=(S.setE g' j' e').setE g j e:=by
 by_cases q:g=g'
 ·subst q
  have hj:j≠j':=fun z=>h ⟨rfl,z⟩
  cases hx:S.h[g]? with
  | none=>unfold St.setE; simp [hx]
  | some o=>cases o with
   | none=>unfold St.setE; simp [hx]
   | some l =>
    have hlt:=(List.getElem?_eq_some_iff.1 hx).1
    rw [a4a hx,a4a hx,a4a (l:=l.set j e) (by simp [hlt]),a4a (l:=l.set j' e') (by simp [hlt])]
    simp only [List.set_set]
    rw [List.set_comm _ _ hj]
 ·unfold St.setE
  cases hx:S.h[g]? with
  | none =>
   cases hy:S.h[g']? with
   | none=>simp [hx,hy]
   | some o=>cases o with
    | none=>simp [hx,hy]
    | some l=>simp [hx,hy,List.getElem?_set_ne (Ne.symm q)]
  | some o=>cases o with
   | none =>
    cases hy:S.h[g']? with
    | none=>simp [hx,hy]
    | some o=>cases o with
     | none=>simp [hx,hy]
     | some l=>simp [hx,hy,List.getElem?_set_ne (Ne.symm q)]
   | some l =>
    cases hy:S.h[g']? with
    | none=>simp [hx,hy,List.getElem?_set_ne q]
    | some o=>cases o with
     | none=>simp [hx,hy,List.getElem?_set_ne q]
     | some l'=>simp [hx,hy,List.getElem?_set_ne q,List.getElem?_set_ne (Ne.symm q),List.set_comm _ _ q]
theorem d1j {g j:Nat} {e:s6} : ∀ {us:List S0} {S:St},(∀ u∈us,¬ (g=u.1.1∧j=u.1.2))→(S.setE g j e).upds us=(S.upds us).setE g j e
 | [],_,_=>rfl
 | ((g',j'),e')::us,S,h=>by
  simp only [St.upds]
  rw [e4J (h ((g',j'),e') (by simp)),d1j fun u hu=>h u (by simp [hu])]
theorem b3u : ∀ {us vs:List S0} {S:St},(∀ u∈us,∀ v∈vs,u.1≠v.1)→(S.upds us).upds vs=(S.upds vs).upds us
 | [],_,_,_=>rfl
 | ((g,j),e)::us,vs,S,h=>by
  simp only [St.upds]
  rw [b3u fun u hu=>h u (by simp [hu]),d1j fun v hv q=>h ((g,j),e) (by simp) v hv (Prod.ext q.1 q.2)]
theorem e20 {S:St} {g g':Nat} {n n':List s6} (h:g≠g'):(S.lay g n).lay g' n'=(S.lay g' n').lay g n:=by
 simp [St.lay,List.set_comm _ _ h]
theorem e6i {t:List V} {d d':Option Nat} {v v':V} (h : ∀ k,d=some k→d'≠some k):Y6 (Y6 t d v) d' v'=Y6 (Y6 t d' v') d v:=by
 cases d with
 | none=>rfl
 | some k=>cases d' with
  | none=>rfl
  | some k' =>
   have:k≠k':=fun q=>h k rfl (by rw [q])
   simp [Y6,List.set_comm _ _ this]
def a4o (S:St) (t:List V):St:={ S with t:=t }
def hp (S:St) (grp:Nat) (o:C1):St:=match o.new with
 | none=>S.upds o.upd
 | some new=>(S.upds o.upd).lay grp new
theorem b9m (S:St) (grp:Nat) (dst:Option Nat) (o:C1):S.apply grp dst o=a4o (hp S grp o) (Y6 S.t dst o.v):=by
 unfold St.apply hp a4o
 cases o.new with
 | none=>simp only [St.upds_t]
 | some new=>simp only [St.lay,St.upds_t]
theorem e5Z (S:St) (t:List V) (g j:Nat) (e:s6):(a4o S t).setE g j e=a4o (S.setE g j e) t:=by
 unfold a4o St.setE
 simp only
 split<;>rfl
theorem c42 (t:List V) : ∀ (us:List S0) (S:St),(a4o S t).upds us=a4o (S.upds us) t
 | [],_=>rfl
 | ((g,j),e)::us,S=>by simp only [St.upds]; rw [e5Z,c42]
theorem d9D (S:St) (t:List V) (grp:Nat) (o:C1):hp (a4o S t) grp o=a4o (hp S grp o) t:=by
 unfold hp
 cases o.new with
 | none=>simp only [c42]
 | some new=>simp only [c42]; rfl
theorem d94 {S:St} {g g':Nat} {o o':C1} (hg:g≠g') (h1 : ∀ u∈o.upd,∀ v∈o'.upd,u.1≠v.1) (h2 : ∀ u∈o.upd,u.1.1≠g') (h3 : ∀ u∈o'.upd,u.1.1≠g):hp (hp S g o) g' o'=hp (hp S g' o') g o:=by
 unfold hp
 cases o.new with
 | none=>cases o'.new with
  | none=>simp only; exact b3u h1
  | some n'=>simp only; rw [← b0g o.upd _ h2,b3u h1]
 | some n=>cases o'.new with
  | none=>simp only; rw [← b0g o'.upd _ h3,b3u h1]
  | some n' =>
   simp only
   rw [← b0g o'.upd _ h3,← b0g o.upd _ h2,b3u h1,e20 hg]
theorem e3y {S:St} {grp:Nat} {o:C1} {g j:Nat} (h1:g≠grp) (h2 : ∀ u∈o.upd,u.1≠(g,j)):(hp S grp o).ent g j=S.ent g j:=by
 have:(S.upds o.upd).ent g j=S.ent g j:=by
  refine b8E ?_
  unfold a9P
  rw [List.all_eq_true]
  intro u hu
  have:=h2 u hu
  simp only [Bool.not_eq_true',Bool.and_eq_false_iff,beq_eq_false_iff_ne]
  by_cases q:g=u.1.1
  ·right
   intro z
   exact this (Prod.ext q.symm z.symm)
  ·exact .inl q
 unfold hp
 cases o.new with
 | none=>exact this
 | some new=>simp only; rw [a8s h1]; exact this
section
variable {cx:Cx} {ops:Array Oper} {base:Nat} {A:Nat→N2}
theorem d3g {i:Nat} {S S':St} {ps:List Prop} {ft:a1f} (h:a1l cx ops base A i S=some (S',ps,ft)) : ∃ o out,ops[i]?=some o∧S'=S.apply (base+i) o.dst out∧ft.wr=out.upd.map (·.1) ∧
  ∀ T:St,(∀ x∈o.op.operands.toList,s5 T.t x=s5 S.t x)→a6q ops o T.t=a6q ops o S.t→(∀ id∈ft.rd,T.ent id.1 id.2=S.ent id.1 id.2)→a1l cx ops base A i T=some (T.apply (base+i) o.dst out,ps,ft):=by
 unfold a1l at h
 split at h<;>try (cases h; done)
 rename_i o ho
 split at h<;>try (cases h; done)
 ·rename_i hw
  split at h<;>try (cases h; done)
  rename_i out lg hop
  injection h with h
  injection h with h1 h2
  injection h2 with h2 h3
  subst h1; subst h2; subst h3
  refine ⟨o,out,ho,rfl,rfl,?_⟩
  intro T hx hwT hent
  have hst:a9u cx (base+i) o T.t (A i)=a9u cx (base+i) o S.t (A i):=by
   unfold a9u
   rw [d7q hx]
  have:=d82 cx (base+i) o S.t (A i) S.ent T.ent out lg hop hent
  unfold a1l
  rw [ho]
  simp only [hwT,hw,hst,this]
 ·rename_i hw
  injection h with h
  injection h with h1 h2
  injection h2 with h2 h3
  subst h1; subst h2; subst h3
  refine ⟨o,{ v:=.tup [] },ho,rfl,rfl,?_⟩
  intro T hx hwT hent
  unfold a1l
  rw [ho]
  simp only [hwT,hw]
  rfl
structure Ind (ops:Array Oper) (base:Nat) (x i:Nat) (f1 f2:a1f):Prop where
 ne:x≠i
 apart : ∀ o1 o2,ops[x]?=some o1→ops[i]?=some o2→o1.apart ops o2=true
 w1 : ∀ id∈f1.wr,id ∉ f2.rd∧id ∉ f2.wr
 w2 : ∀ id∈f2.wr,id ∉ f1.rd
 g1 : ∀ id∈f2.rd++f2.wr,id.1≠base+x
 g2 : ∀ id∈f1.rd++f1.wr,id.1≠base+i
theorem d2I {o:Oper} {x:Operand} (hx:x∈o.op.operands.toList) {d:Nat} (hd:d ∉ o.looksAt ops):x ≠ .tmp d:=by
 intro q
 subst q
 apply hd
 unfold Oper.looksAt
 exact List.mem_append.2 (.inl (List.mem_filterMap.2 ⟨_,hx,rfl⟩))
theorem d57 {o:Oper} {t:List V} {dst:Option Nat} {v:V} (hd : ∀ d,dst=some d→d ∉ o.looksAt ops):a6q ops o (Y6 t dst v)=a6q ops o t:=by
 unfold a6q
 split
 ·rfl
 ·rename_i j want hg
  cases hj:(ops[j]?).bind (·.dst) with
  | none=>rfl
  | some d =>
   simp only
   cases dst with
   | none=>rfl
   | some k =>
    have hk:k≠d:=by
     intro q
     subst q
     apply hd k rfl
     unfold Oper.looksAt
     rw [hg]
     exact List.mem_append.2 (.inr (by simp [hj]))
    simp only [Y6,List.getElem?_set_ne hk]
theorem b52 {S:St} {grp:Nat} {dst:Option Nat} {o:C1}:(S.apply grp dst o).t=Y6 S.t dst o.v:=by rw [b9m]; rfl
theorem d0c {S:St} {grp:Nat} {dst:Option Nat} {o:C1} {g j:Nat} (h1:g≠grp) (h2:(g,j) ∉ o.upd.map (·.1)):(S.apply grp dst o).ent g j=S.ent g j:=by
 rw [b9m]
 show (hp S grp o).ent g j=_
 exact e3y h1 fun u hu q=>h2 (List.mem_map.2 ⟨u,hu,q⟩)
theorem e5b {x i:Nat} {S S1 S2:St} {p1 p2:List Prop} {f1 f2:a1f} (hx:a1l cx ops base A x S=some (S1,p1,f1)) (hi:a1l cx ops base A i S1=some (S2,p2,f2)) (h:Ind ops base x i f1 f2) :
  ∃ S1',a1l cx ops base A i S=some (S1',p2,f2)∧a1l cx ops base A x S1'=some (S2,p1,f1):=by
 obtain ⟨o1,out1,ho1,rfl,hw1,hr1⟩:=d3g hx
 obtain ⟨o2,out2,ho2,rfl,hw2,hr2⟩:=d3g hi
 obtain ⟨a1,a2,a3⟩:=Oper.apart_spec (h.apart o1 o2 ho1 ho2)
 have e1:=hr2 S (fun z hz=>by rw [b52,c55 fun d hd=>d2I (ops:=ops) hz (a1 d hd)]) (by rw [b52,d57 a1]) (fun id hid=>by
  refine (d0c (h.g1 id (List.mem_append.2 (.inl hid))) ?_).symm
  rw [← hw1]
  exact fun q=>(h.w1 id q).1 hid)
 refine ⟨_,e1,?_⟩
 have e2:=hr1 (S.apply (base+i) o2.dst out2) (fun z hz=>by rw [b52,c55 fun d hd=>d2I (ops:=ops) hz (a3 d hd)]) (by rw [b52,d57 a3]) (fun id hid=>by
  refine d0c (h.g2 id (List.mem_append.2 (.inl hid))) ?_
  rw [← hw2]
  exact fun q=>h.w2 id q hid)
 rw [e2]
 congr 2
 simp only [b9m,d9D]
 have hh:hp (hp S (base+x) out1) (base+i) out2=hp (hp S (base+i) out2) (base+x) out1:=by
  refine d94 (fun q=>h.ne (by omega)) ?_ ?_ ?_
  ·intro u hu v hv q
   have m1:u.1∈f1.wr:=by rw [hw1]; exact List.mem_map.2 ⟨u,hu,rfl⟩
   have m2:v.1∈f2.wr:=by rw [hw2]; exact List.mem_map.2 ⟨v,hv,rfl⟩
   exact (h.w1 _ m1).2 (q▸m2)
  ·intro u hu
   exact h.g2 _ (List.mem_append.2 (.inr (by rw [hw1]; exact List.mem_map.2 ⟨u,hu,rfl⟩)))
  ·intro u hu
   exact h.g1 _ (List.mem_append.2 (.inr (by rw [hw2]; exact List.mem_map.2 ⟨u,hu,rfl⟩)))
 rw [hh]
 unfold a4o
 simp only
 rw [e6i (fun k hk q=>a2 k hk q)]
abbrev Rc:=Nat→List Prop×a1f
theorem c9r {rc:Rc} {i:Nat} : ∀ {l m:List Nat} {S S':St},(∀ x∈l,Ind ops base x i (rc x).2 (rc i).2)→a17 cx ops base A (l++i::m) S=some (S',(l++i::m).map rc)→a17 cx ops base A (i::(l++m)) S=some (S',(i::(l++m)).map rc)
 | [],m,S,S',_,h=>h
 | x::l,m,S,S',hind,h=>by
  obtain ⟨S1,r,rs,h1,h2,h3⟩:=b2j h
  simp only [List.cons_append,List.map_cons] at h3
  injection h3 with h3 h4
  subst h3; subst h4
  have h5:=c9r (fun y hy=>hind y (by simp [hy])) h2
  obtain ⟨S2,r2,rs2,h6,h7,h8⟩:=b2j h5
  simp only [List.map_cons] at h8
  injection h8 with h8 h9
  subst h8; subst h9
  obtain ⟨S1',e1,e2⟩:=e5b (p1:=(rc x).1) (f1:=(rc x).2) (p2:=(rc i).1) (f2:=(rc i).2) h1 h6 (hind x (by simp))
  have e2':a1l cx ops base A x S1'=some (S2,rc x):=e2
  have e1':a1l cx ops base A i S=some (S1',rc i):=e1
  simp only [List.cons_append,a17,e1',e2',h7,List.map_cons]
end
def a30 (ops:Array Oper) (i:Nat):List Nat :=
 match ops[i]? with
 | some o=>(o.after.toList.filter (Region.binds .any)).map (·.on)
 | none=>[]
def a4p (ops:Array Oper):Nat→List (List Nat)
 | 0=>[]
 | k+1=>let L:=a4p ops k; L++[(a30 ops k).flatMap fun e=>e::L.getD e []]
def a74 (ops:Array Oper) (i:Nat):List Nat:=(a4p ops (i+1)).getD i []
theorem a8J (ops:Array Oper) : ∀ k,(a4p ops k).length=k
 | 0=>rfl
 | k+1=>by simp [a4p,a8J ops k]
theorem c4Z (ops:Array Oper) (i:Nat) : ∀ k,i<k→(a4p ops k).getD i []=a74 ops i
 | k+1,h=>by
  by_cases q:i=k
  ·subst q; rfl
  ·have:i<k:=by omega
   rw [← c4Z ops i k this]
   simp only [a4p,List.getD_eq_getElem?_getD]
   rw [List.getElem?_append_left (by rw [a8J]; exact this)]
theorem d83 (ops:Array Oper) (i:Nat):a74 ops i=(a30 ops i).flatMap fun e=>e::(a4p ops i).getD e []:=by
 unfold a74
 simp only [a4p,List.getD_eq_getElem?_getD]
 rw [List.getElem?_append_right (by rw [a8J]; omega),a8J]
 simp
theorem d5Y {ops:Array Oper} {a1e:Array Bool} {i:Nat} (h:i∈Region.ready .any ops a1e):i<ops.size∧a1e.getD i true=false ∧ ∀ e∈a30 ops i,a1e.getD e false=true:=by
 unfold Region.ready at h
 obtain ⟨h1,h2⟩:=List.mem_filter.1 h
 have hlt:=List.mem_range.1 h1
 simp only [Bool.and_eq_true,Bool.not_eq_true'] at h2
 refine ⟨hlt,h2.1,?_⟩
 intro e he
 unfold a30 at he
 rw [Array.getElem?_eq_getElem hlt] at he h2
 simp only [List.mem_map,List.mem_filter] at he
 obtain ⟨ed,⟨hm,hb⟩,rfl⟩:=he
 have:=h2.2
 simp only [Option.map_some,Option.getD_some,Array.all_eq_true_iff_forall_mem] at this
 have:=this ed (by simpa using hm)
 simpa [hb] using this
theorem d9j {ops:Array Oper} {a1e:Array Bool} {i:Nat} (hlt:i<ops.size) (hl:a1e.getD i true=false) (he : ∀ e∈a30 ops i,a1e.getD e false=true):i∈Region.ready .any ops a1e:=by
 unfold Region.ready
 refine List.mem_filter.2 ⟨List.mem_range.2 hlt,?_⟩
 rw [Array.getElem?_eq_getElem hlt]
 simp only [hl,Bool.not_false,Option.map_some,Option.getD_some,Bool.true_and,Array.all_eq_true_iff_forall_mem]
 intro ed hm
 by_cases hb:Region.binds .any ed=true
 ·have:ed.on∈a30 ops i:=by
   unfold a30
   rw [Array.getElem?_eq_getElem hlt]
   exact List.mem_map.2 ⟨ed,List.mem_filter.2 ⟨by simpa using hm,hb⟩,rfl⟩
  simp [he _ this]
 ·simp [hb]
section
variable {cx:Cx} {Γ:S8} {ops:Array Oper} {base:Nat} {A:Nat→N2} {Q:Exit→Act→World→Prop} {S':St} {rc:Rc}
theorem e4f (c6Q : ∀ i,i<ops.size → ∀ e∈a30 ops i,e<i) (hind : ∀ x i,x<i→i<ops.size→x ∉ a74 ops i→Ind ops base x i (rc x).2 (rc i).2) (hob : ∀ i,i<ops.size → ∀ p∈(rc i).1,p)
  (hQ : ∀ a' w' F' ι',t0 Γ F' ι' S' a' w'→Q .normal a' w') : ∀ (fuel:Nat) (R:List Nat) (a1e:Array Bool) (S:St) (F:Nat→Prop) (ι:Nat→Nat→Value) (a:Act) (w:World),
  R.length=fuel→a1e.size=ops.size→R.Pairwise (· < ·)→(∀ i,i<ops.size→(a1e.getD i true=false↔i∈R))→(∀ i∈R,i<ops.size)→(∀ i,i<ops.size→i ∉ R → ∀ x∈a74 ops i,x ∉ R) →
  t0 Γ F ι S a w→(∀ i∈R,base+i<S.h.length ∧ ¬ S.D (base+i))→a17 cx ops base A R S=some (S',R.map rc)→wpAny cx.P .any ops Q fuel a1e a w:=by
 intro fuel
 induction fuel with
 | zero =>
  intro R a1e S F ι a w hR hsz hpw hlist hlt hdown hrel hfree hrun
  have:R=[]:=List.eq_nil_of_length_eq_zero hR
  subst this
  unfold a17 at hrun
  injection hrun with hrun
  injection hrun with h1 h2
  subst h1
  refine ⟨?_,hQ _ _ _ _ hrel⟩
  rw [List.eq_nil_iff_forall_not_mem]
  intro i hi
  obtain ⟨h1,h2,_⟩:=d5Y hi
  have:=(hlist i h1).1 h2
  simp at this
 | succ fuel ih =>
  intro R a1e S F ι a w hR hsz hpw hlist hlt hdown hrel hfree hrun
  refine ⟨fun d8l => ?_,fun i hi => ?_⟩
  ·exfalso
   cases R with
   | nil=>simp at hR
   | cons r R =>
    have hr:=hlt r (by simp)
    have hrd:r∈Region.ready .any ops a1e:=by
     refine d9j hr ((hlist r hr).2 (by simp)) ?_
     intro e he
     have hlt':=c6Q r hr e he
     have hen:e ∉ r::R:=by
      intro q
      rcases List.mem_cons.1 q with q | q
      ·omega
      ·have:=(List.pairwise_cons.1 hpw).1 e q
       omega
     have:=mt (hlist e (by omega)).1 hen
     have hes:e<a1e.size:=by omega
     simp only [Array.getD_eq_getD_getElem?,Array.getElem?_eq_getElem hes,Option.getD_some] at this ⊢
     simpa using this
    rw [d8l] at hrd
    simp at hrd
  ·obtain ⟨hi1,hi2,hi3⟩:=d5Y hi
   have hiR:=(hlist i hi1).1 hi2
   obtain ⟨A1,B1,hAB⟩:=List.append_of_mem hiR
   have hpw':=hpw
   rw [hAB] at hpw'
   obtain ⟨hpA,hpB,hpAB⟩:=List.pairwise_append.1 hpw'
   have hcl : ∀ x∈a74 ops i,x ∉ R:=by
    intro x hx
    rw [d83] at hx
    obtain ⟨e,he,hx⟩:=List.mem_flatMap.1 hx
    have hel:=c6Q i hi1 e he
    have heR:e ∉ R:=by
     intro q
     have h1:=(hlist e (by omega)).2 q
     have h2:=hi3 e he
     have hes:e<a1e.size:=by omega
     simp only [Array.getD_eq_getD_getElem?,Array.getElem?_eq_getElem hes,Option.getD_some] at h1 h2
     rw [h1] at h2
     cases h2
    rcases List.mem_cons.1 hx with rfl | hx
    ·exact heR
    ·rw [c4Z ops e i hel] at hx
     exact hdown e (by omega) heR x hx
   have hfront:=c9r (cx:=cx) (A:=A) (rc:=rc) (i:=i) (l:=A1) (m:=B1) (S:=S) (S':=S') (fun x hx=>by
    have hxR:x∈R:=by rw [hAB]; simp [hx]
    exact hind x i (hpAB x hx i (by simp)) hi1 (fun q=>hcl x q hxR)) (by rw [← hAB]; exact hrun)
   obtain ⟨S1,r,rs,h1,h2,h3⟩:=b2j hfront
   simp only [List.map_cons] at h3
   injection h3 with h3 h4
   subst h3; subst h4
   obtain ⟨hD,hl⟩:=c5Z (ps:=(rc i).1) (ft:=(rc i).2) h1
   refine d2L hrel (hfree i hiR).1 (hfree i hiR).2 (ps:=(rc i).1) (ft:=(rc i).2) h1 (hob i hi1) fun a' w' F' ι' hrel' => ?_
   have hsub : ∀ j,j∈A1++B1↔(j∈R∧j≠i):=by
    intro j
    rw [hAB]
    simp only [List.mem_append,List.mem_cons]
    constructor
    ·intro hj
     refine ⟨by rcases hj with q | q<;>simp [q],?_⟩
     rintro rfl
     rcases hj with q | q
     ·have:=hpAB j q j (by simp); omega
     ·have:=(List.pairwise_cons.1 hpB).1 j q; omega
    ·rintro ⟨q | rfl | q,hne⟩
     ·exact .inl q
     ·exact absurd rfl hne
     ·exact .inr q
   refine ih (A1++B1) _ S1 F' ι' a' w' ?_ (by simp [hsz]) ?_ ?_ ?_ ?_ hrel' ?_ h2
   ·rw [hAB] at hR
    simp at hR ⊢
    omega
   ·refine List.pairwise_append.2 ⟨hpA,(List.pairwise_cons.1 hpB).2,fun x hx y hy=>hpAB x hx y (by simp [hy])⟩
   ·intro j hj
    rw [hsub]
    have hjs:j<a1e.size:=by omega
    simp only [Array.getD_eq_getD_getElem?]
    by_cases q:j=i
    ·subst q
     simp [hjs]
    ·rw [Array.getElem?_setIfInBounds_ne (Ne.symm q),← hlist j hj,Array.getD_eq_getD_getElem?]
     simp [q]
   ·intro j hj
    exact hlt j ((hsub j).1 hj).1
   ·intro j hj hjn x hx hxm
    have hxR:=((hsub x).1 hxm).1
    by_cases q:j=i
    ·subst q
     exact hcl x hx hxR
    ·exact hdown j hj (fun z=>hjn ((hsub j).2 ⟨z,q⟩)) x hx hxR
   ·intro j hj
    have hjR:=((hsub j).1 hj)
    refine ⟨by rw [hl]; exact (hfree j hjR.1).1,fun x => ?_⟩
    rcases hD _ x with y | y
    ·exact (hfree j hjR.1).2 y
    ·exact hjR.2 (by omega)
end
def b8G (l:List Nat) (x:Nat):Bool:=l.any fun y=>y==x
theorem e8c {l:List Nat} {x:Nat}:b8G l x=true↔x∈l:=by
 unfold b8G
 rw [List.any_eq_true]
 constructor
 ·rintro ⟨y,hy,h⟩
  simp at h
  exact h▸hy
 ·intro h
  exact ⟨x,h,by simp⟩
def dnN:List Nat→List Nat
 | []=>[]
 | x::xs=>if b8G (dnN xs) x then dnN xs else x::dnN xs
theorem b9r {x:Nat} : ∀ {l:List Nat},x∈dnN l→x∈l
 | y::l,h=>by
  unfold dnN at h
  split at h
  ·exact List.mem_cons.2 (.inr (b9r h))
  ·rcases List.mem_cons.1 h with rfl | h
   ·simp
   ·exact List.mem_cons.2 (.inr (b9r h))
def a8h (ops:Array Oper):Nat→List (List Nat)
 | 0=>[]
 | k+1=>let L:=a8h ops k; L++[dnN ((a30 ops k).flatMap fun e=>e::L.getD e [])]
theorem b57 (ops:Array Oper) : ∀ k,(a8h ops k).length=k
 | 0=>rfl
 | k+1=>by simp [a8h,b57 ops k]
theorem c1U (ops:Array Oper) : ∀ k i,∀ x∈(a8h ops k).getD i [],x∈(a4p ops k).getD i []
 | 0,i,x,h=>by simp [a8h] at h
 | k+1,i,x,h=>by
  simp only [a8h,a4p,List.getD_eq_getElem?_getD] at h ⊢
  by_cases q:i<k
  ·rw [List.getElem?_append_left (by rw [b57]; exact q)] at h
   rw [List.getElem?_append_left (by rw [a8J]; exact q)]
   have:=c1U ops k i x (by rw [List.getD_eq_getElem?_getD]; exact h)
   rwa [List.getD_eq_getElem?_getD] at this
  ·rw [List.getElem?_append_right (by rw [b57]; omega),b57] at h
   rw [List.getElem?_append_right (by rw [a8J]; omega),a8J]
   by_cases q':i=k
   ·subst q'
    simp only [Nat.sub_self,List.getElem?_cons_zero,Option.getD_some] at h ⊢
    obtain ⟨e,he,hx⟩:=List.mem_flatMap.1 (b9r h)
    refine List.mem_flatMap.2 ⟨e,he,?_⟩
    rcases List.mem_cons.1 hx with rfl | hx
    ·simp
    ·have:=c1U ops i e x (by rw [List.getD_eq_getElem?_getD]; exact hx)
     rw [List.getD_eq_getElem?_getD] at this
     exact List.mem_cons.2 (.inr this)
   ·have:i - k=(i - k - 1)+1:=by omega
    rw [this] at h
    simp at h
def c3D (ops:Array Oper) (base x i:Nat) (f1 f2:a1f):Bool :=
  (match ops[x]?,ops[i]? with
   | some o1,some o2=>o1.apart ops o2
   | _,_=>false) &&
  f1.wr.all (fun id => !a22 f2.rd id && !a22 f2.wr id)&&f2.wr.all (fun id => !a22 f1.rd id) &&
  f2.rd.all (fun id => !(id.1==base+x))&&f2.wr.all (fun id => !(id.1==base+x)) &&
  f1.rd.all (fun id => !(id.1==base+i))&&f1.wr.all (fun id => !(id.1==base+i))
theorem b5Z {l:List (Nat×Nat)} {x:Nat×Nat} (h:(!a22 l x)=true):x ∉ l:=by
 intro q
 rw [a50.2 q] at h
 cases h
theorem e4P {ops:Array Oper} {base x i:Nat} {f1 f2:a1f} (hne:x<i) (h:c3D ops base x i f1 f2=true):Ind ops base x i f1 f2:=by
 unfold c3D at h
 simp only [Bool.and_eq_true] at h
 obtain ⟨⟨⟨⟨⟨⟨h1,h2⟩,h3⟩,h4⟩,h5⟩,h6⟩,h7⟩:=h
 refine ⟨by omega,?_,?_,?_,?_,?_⟩
 ·intro o1 o2 e1 e2
  rw [e1,e2] at h1
  exact h1
 ·intro id hid
  have:=List.all_eq_true.1 h2 id hid
  simp only [Bool.and_eq_true] at this
  exact ⟨b5Z this.1,b5Z this.2⟩
 ·intro id hid
  exact b5Z (List.all_eq_true.1 h3 id hid)
 ·intro id hid
  rcases List.mem_append.1 hid with q | q
  ·have:=List.all_eq_true.1 h4 id q
   simpa using this
  ·have:=List.all_eq_true.1 h5 id q
   simpa using this
 ·intro id hid
  rcases List.mem_append.1 hid with q | q
  ·have:=List.all_eq_true.1 h6 id q
   simpa using this
  ·have:=List.all_eq_true.1 h7 id q
   simpa using this
def d1G (ops:Array Oper) (base:Nat) (L:List (List Nat)) (fs:List a1f):Bool :=
 (List.range ops.size).all fun i =>
  (a30 ops i).all (fun e=>Nat.blt e i) &&
  (List.range i).all fun x=>b8G (L.getD i []) x||c3D ops base x i (fs.getD x ⟨[],[]⟩) (fs.getD i ⟨[],[]⟩)
def c05 (A:List (Nat×N2)) (i:Nat):N2 :=
 match A with
 | []=>{}
 | (j,x)::A=>if j==i then x else c05 A i
def b6h:List (List Prop×a1f)→List Prop
 | []=>[]
 | r::rs=>r.1++b6h rs
theorem c8p {rs:List (List Prop×a1f)} (h : ∀ p∈b6h rs,p) : ∀ r∈rs,∀ p∈r.1,p:=by
 induction rs with
 | nil=>intro r hr; cases hr
 | cons r rs ih =>
  intro r' hr p hp
  rcases List.mem_cons.1 hr with rfl | hr
  ·exact h p (List.mem_append.2 (.inl hp))
  ·exact ih (fun p hp=>h p (List.mem_append.2 (.inr hp))) r' hr p hp
def a4P:Nat→List (Option (List s6))
 | 0=>[]
 | n+1=>none::a4P n
theorem d2e : ∀ (n i:Nat) (l:List s6),(a4P n)[i]?≠some (some l)
 | 0,i,l=>by simp [a4P]
 | n+1,0,l=>by simp [a4P]
 | n+1,i+1,l=>by simpa [a4P] using d2e n i l
theorem d4H : ∀ n,(a4P n).length=n
 | 0=>rfl
 | n+1=>by simp [a4P,d4H n]
def St.more (S:St) (n:Nat):St:={ S with h:=S.h++a4P n }
theorem b6T {S:St} {n g:Nat} {l:List s6}:(S.more n).h[g]?=some (some l)↔S.h[g]?=some (some l):=by
 unfold St.more
 simp only
 by_cases q:g<S.h.length
 ·rw [List.getElem?_append_left q]
 ·rw [List.getElem?_append_right (by omega)]
  constructor
  ·intro h
   exact absurd h (d2e _ _ _)
  ·intro h
   have:=(List.getElem?_eq_some_iff.1 h).1
   omega
theorem b0L {S:St} {n g:Nat}:(S.more n).D g↔S.D g:=by
 unfold St.D
 constructor
 ·rintro ⟨l,h⟩
  exact ⟨l,b6T.1 h⟩
 ·rintro ⟨l,h⟩
  exact ⟨l,b6T.2 h⟩
theorem b29 {S:St} {n g j:Nat}:(S.more n).ent g j=S.ent g j:=by
 have key : ∀ e,(S.more n).ent g j=some e↔S.ent g j=some e:=by
  intro e
  constructor
  ·intro h
   obtain ⟨l,hl⟩:=St.D_of_ent h
   rw [a28 hl] at h
   rw [a28 (b6T.1 hl)]
   exact h
  ·intro h
   obtain ⟨l,hl⟩:=St.D_of_ent h
   rw [a28 hl] at h
   rw [a28 (b6T.2 hl)]
   exact h
 cases h:S.ent g j with
 | some e=>exact (key e).2 h
 | none =>
  cases h':(S.more n).ent g j with
  | none=>rfl
  | some e=>rw [(key e).1 h'] at h; cases h
theorem t0.more {Γ:S8} {F:Nat→Prop} {ι:Nat→Nat→Value} {S:St} {a:Act} {w:World} (h:t0 Γ F ι S a w) (n:Nat):t0 Γ F ι (S.more n) a w :=
  { F0:=h.F0,F1:=h.F1,F2:=h.F2,kept:=h.kept
    tmps:=h.tmps.imp fun _ _ x=>x.mono (fun _ _ _=>rfl) (fun _ y=>y) (fun g y=>b0L.2 y) (fun _ _ _=>rfl)
    ents:=fun g j e he=>(h.ents g j e (b29▸he)).mono (fun _ _ _=>rfl) (fun _ y=>y) (fun g y=>b0L.2 y) (fun _ _ _=>rfl) (fun _ _ _=>rfl)
    sep:=fun g j e k he=>h.sep g j e k (b29▸he)
    inj:=fun g j e g' j' e' k he he'=>h.inj g j e g' j' e' k (b29▸he) (b29▸he')
    defers:=h.defers
    pins:=fun j c hc=>⟨b0L.2 (h.pins j c hc).1,(h.pins j c hc).2⟩ }
def c4n (cx:Cx) (ops:Array Oper) (draw:Bool) (A:List (Nat×N2)) (S:St):Option (St×List Prop) :=
 match a17 cx ops S.h.length (c05 A) (List.range ops.size) (S.more ops.size) with
 | none=>none
 | some (S',rs)=>if draw then (if d1G ops S.h.length (a8h ops ops.size) (rs.map (·.2)) then some (S',b6h rs) else none) else some (S',b6h rs)
section
variable {cx:Cx} {Γ:S8} {F:Nat→Prop} {ι:Nat→Nat→Value} {S S':St} {a:Act} {w:World} {ops:Array Oper} {A:List (Nat×N2)}
theorem d08 {base:Nat} {B:Nat→N2} : ∀ {l:List Nat} {S S':St} {rs:List (List Prop×a1f)},a17 cx ops base B l S=some (S',rs)→rs.length=l.length
 | [],S,S',rs,h=>by
  unfold a17 at h
  injection h with h
  injection h with h1 h2
  subst h2
  rfl
 | i::l,S,S',rs,h=>by
  obtain ⟨S1,r,rs',h1,h2,rfl⟩:=b2j h
  simp [d08 h2]
theorem e7B {α:Type} (d:α) : ∀ {rs:List α} {n:Nat},rs.length=n→rs=(List.range n).map fun i=>rs.getD i d:=by
 intro rs n h
 apply List.ext_getElem
 ·simp [h]
 ·intro i h1 h2
  simp [List.getD_eq_getElem?_getD,h1]
theorem e7M {draw:Bool} {id:Nat} {ps:List Prop} {Q:Exit→Act→World→Prop} (h:t0 Γ F ι S a w) (hr:c4n cx ops draw A S=some (S',ps)) (hob : ∀ p∈ps,p)
  (hQ : ∀ a' w' F' ι',t0 Γ F' ι' S' a' w'→Q .normal a' w'):(Code.region id ops draw).wp cx.P Q a w:=by
 unfold c4n at hr
 split at hr<;>try (cases hr; done)
 rename_i S1 rs hrun
 have hfree : ∀ i∈List.range ops.size,S.h.length+i<(S.more ops.size).h.length ∧ ¬ (S.more ops.size).D (S.h.length+i):=by
  intro i hi
  refine ⟨by simp [St.more,d4H,List.mem_range.1 hi],fun q => ?_⟩
  obtain ⟨l,hl⟩:=b0L.1 q
  have:=(List.getElem?_eq_some_iff.1 hl).1
  omega
 cases draw with
 | false =>
  simp only [Bool.false_eq_true,if_false] at hr
  injection hr with hr
  injection hr with h1 h2
  subst h1; subst h2
  exact wp_region (c61 (h.more ops.size) List.nodup_range hfree hrun (c8p hob) hQ)
 | true =>
  simp only [if_true] at hr
  split at hr<;>try (cases hr; done)
  rename_i hap
  injection hr with hr
  injection hr with h1 h2
  subst h1; subst h2
  have hw:t0 Γ F ι (S.more ops.size) a { w with drawn:=w.drawn+1 }:=(h.more ops.size).world ⟨rfl,rfl,rfl⟩ (Nat.le_refl _) (fun _ _=>rfl)
  have hlen:=d08 hrun
  rw [List.length_range] at hlen
  have hrs:=e7B (([],⟨[],[]⟩):List Prop×a1f) hlen
  unfold d1G at hap
  rw [List.all_eq_true] at hap
  have hap' : ∀ i,i<ops.size→(∀ e∈a30 ops i,e<i) ∧ ∀ x,x<i→x ∉ a74 ops i→Ind ops S.h.length x i ((rs.getD x ([],⟨[],[]⟩)).2) ((rs.getD i ([],⟨[],[]⟩)).2):=by
   intro i hi
   have:=hap i (List.mem_range.2 hi)
   simp only [Bool.and_eq_true] at this
   refine ⟨fun e he => ?_,fun x hx hc => ?_⟩
   ·have:=List.all_eq_true.1 this.1 e he
    rwa [Nat.blt_eq] at this
   ·have h2:=List.all_eq_true.1 this.2 x (List.mem_range.2 hx)
    rcases Bool.or_eq_true_iff.1 h2 with q | q
    ·exfalso
     apply hc
     have:=c1U ops ops.size i x (e8c.1 q)
     rwa [c4Z ops i ops.size hi] at this
    ·have:=e4P hx q
     have hm : ∀ j,j<rs.length→(rs.map (·.2)).getD j ⟨[],[]⟩=(rs.getD j ([],⟨[],[]⟩)).2:=by
      intro j hj
      simp [List.getD_eq_getElem?_getD,hj]
     rw [hm x (by omega),hm i (by omega)] at this
     exact this
  refine wp_region_any cx.mixed ?_
  have hrange : ∀ i,i<ops.size→rs.getD i ([],⟨[],[]⟩)∈rs:=by
   intro i hi
   have:i<rs.length:=by omega
   simp [List.getD_eq_getElem?_getD,this]
  refine e4f (rc:=fun i=>rs.getD i ([],⟨[],[]⟩)) (base:=S.h.length) (A:=c05 A) (fun i hi=>(hap' i hi).1) (fun x i hx hi hc=>(hap' i hi).2 x hx hc) (fun i hi p hp=>c8p hob _ (hrange i hi) p hp) hQ
   ops.size (List.range ops.size) _ _ F ι a _ (by simp) (by simp) ?_ ?_ ?_ ?_ hw hfree ?_
  ·exact List.pairwise_lt_range
  ·intro i hi
   simp [List.mem_range,hi,Array.getD_eq_getD_getElem?]
  ·intro i hi
   exact List.mem_range.1 hi
  ·intro i hi hn
   exact absurd (List.mem_range.2 hi) hn
  ·rw [← hrs]
   exact hrun
end
def mvM (t:List V):List Item→Option (List Item)
 | .code .skip::k=>some k
 | .inBlock _::k=>some k
 | .code (.seq x y)::k=>some (.code x :: .code y::k)
 | .code (.cond c x y)::k=>match s5 t c with
  | .b true=>some (.code x::k)
  | .b false=>some (.code y::k)
  | _=>none
 | .code (.block id c)::k=>some (.code c :: .inBlock id::k)
 | .code (.loop c)::k=>some (.code c :: .inLoop c::k)
 | .inLoop c::k=>some (.code c :: .inLoop c::k)
 | .code (.exit id)::k=>exitTo id k
 | _=>none
abbrev a1s:=List (List (Nat×N2))
def goM (cx:Cx):Nat→List Item→St→a1s→Option (List Item×St×List Prop)
 | 0,_,_,_=>none
 | n+1,k,S,sc =>
  match k with
  | .code (.region id ops draw)::k'=>match sc with
   | []=>some (k,S,[])
   | A::sc'=>match c4n cx ops draw A S with
    | some (S1,ps)=>match goM cx n k' S1 sc' with
     | some (k2,S2,qs)=>some (k2,S2,ps++qs)
     | none=>none
    | none=>none
  | k=>match mvM S.t k with
   | some k1=>goM cx n k1 S sc
   | none=>match sc with
    | []=>some (k,S,[])
    | _::_=>none
section
variable {cx:Cx} {Γ:S8} {F:Nat→Prop} {ι:Nat→Nat→Value} {S S':St} {a:Act} {w:World} {b:Frame} {cs:List Frame} {k k':List Item}
theorem e8D (h:t0 Γ F ι S a w) (hm:mvM S.t k=some k'):step cx.P (lone (b.at a k) cs w) = .next (lone (b.at a k') cs w):=by
 unfold mvM at hm
 split at hm
 ·injection hm with hm; subst hm; exact step_skip
 ·injection hm with hm; subst hm; exact step_inBlock
 ·injection hm with hm; subst hm; exact step_seq
 ·rename_i c x y k0
  have hc:=E3 h.tmps c
  split at hm<;>try (cases hm; done)
  ·rename_i hx
   injection hm with hm; subst hm
   rw [hx] at hc
   have:=step_cond (P:=cx.P) (b:=b) (k:=k0) (cs:=cs) (w:=w) (x:=x) (y:=y) hc.inv_b
   simpa using this
  ·rename_i hx
   injection hm with hm; subst hm
   rw [hx] at hc
   have:=step_cond (P:=cx.P) (b:=b) (k:=k0) (cs:=cs) (w:=w) (x:=x) (y:=y) hc.inv_b
   simpa using this
 ·injection hm with hm; subst hm; exact step_block
 ·injection hm with hm; subst hm; exact step_loop
 ·injection hm with hm; subst hm; exact step_inLoop
 ·exact step_exit hm
 ·cases hm
theorem d8u : ∀ {n:Nat} {k:List Item} {S:St} {F:Nat→Prop} {ι:Nat→Nat→Value} {a:Act} {w:World} {sc:a1s} {ps:List Prop},t0 Γ F ι S a w→goM cx n k S sc=some (k',S',ps)→(∀ p∈ps,p) →
  ∃ a' w' F' ι',Steps cx.P (lone (b.at a k) cs w) (lone (b.at a' k') cs w')∧t0 Γ F' ι' S' a' w':=by
 intro n
 induction n with
 | zero=>intro k S F ι a w sc ps h hg hob; cases hg
 | succ n ih =>
  intro k S F ι a w sc ps h hg hob
  unfold goM at hg
  split at hg
  ·rename_i id ops draw k0
   split at hg
   ·injection hg with hg
    injection hg with h1 h2
    injection h2 with h2 h3
    subst h1; subst h2
    exact ⟨a,w,F,ι,.refl _ _,h⟩
   ·rename_i A sc'
    split at hg<;>try (cases hg; done)
    rename_i S1 qs hr
    split at hg<;>try (cases hg; done)
    rename_i k2 S2 rs hg2
    injection hg with hg
    injection hg with h1 h2
    injection h2 with h2 h3
    subst h1; subst h2; subst h3
    have hwp:=e7M (cx:=cx) (draw:=draw) (id:=id) (Q:=fun e a' w'=>e = .normal ∧ ∃ F' ι',t0 Γ F' ι' S1 a' w') h hr (fun p hp=>hob p (List.mem_append.2 (.inl hp)))
     (fun a' w' F' ι' hrel=>⟨rfl,F',ι',hrel⟩)
    obtain ⟨e,a1,w1,⟨he,F1,ι1,h1⟩,harr⟩:=hwp b k0 cs
    subst he
    obtain ⟨a2,w2,F2,ι2,hs,h2⟩:=ih h1 hg2 (fun p hp=>hob p (List.mem_append.2 (.inr hp)))
    exact ⟨a2,w2,F2,ι2,Steps.trans harr hs,h2⟩
  ·split at hg
   ·rename_i k1 hm
    obtain ⟨a2,w2,F2,ι2,hs,h2⟩:=ih h hg hob
    exact ⟨a2,w2,F2,ι2,.head (e8D h hm) hs,h2⟩
   ·split at hg<;>try (cases hg; done)
    injection hg with hg
    injection hg with h1 h2
    injection h2 with h2 h3
    subst h1; subst h2
    exact ⟨a,w,F,ι,.refl _ _,h⟩
end
structure Sig where
 f:Nat
 fn:Func
 rms:List PM
 oms:List (Option (Nat×PM))
def d3v (w:World) (F:Nat→Prop) (fp:List Nat) (cargs:List Value) (res:V) (outs:List (Option V)) (e:Ending) (w':World):Prop :=
 ∃ c F' fr fo,e = .returned c∧a4M (· ∈ fp) w w'∧(∀ k,F k→F' k)∧(∀ k,F' k→(F k∨k∈fp∨w.heap.size≤k)∧k<w'.heap.size) ∧
   BR w' F' res c fr∧BO w' F' outs cargs fo∧(fr++fo).Nodup ∧ ∀ k∈fr++fo,¬ F' k∧(k∈fp∨w.heap.size≤k)∧k<w'.heap.size
def PM.isVal:PM→Bool
 | .val .. => true
 | _=>false
def a55 (bs:List Value):List (Option Nat)→Nat→List Value→Prop
 | [],_,[]=>True
 | none::om,j,d::ds=>d.oneCell'=true∧a55 bs om j ds
 | some _::om,j,d::ds=>bs[j]?=some d∧a55 bs om (j+1) ds
 | _,_,_=>False
inductive a25:List (Option (Nat×PM))→List Value→List Value→Prop
 | nil (bs):a25 [] [] bs
 | skip (oms c cs bs) (t:a25 oms cs bs):a25 (none::oms) (c::cs) bs
 | pin (j m oms c cs bs) (hm:m.isVal=false) (h:bs[j]?=some c) (t:a25 oms cs bs):a25 (some (j,m)::oms) (c::cs) bs
 | agg (j ck om oms ds cs bs) (h:a55 bs om j ds) (t:a25 oms cs bs):a25 (some (j,.val ck om)::oms) (.agg ds.toArray::cs) bs
def j6 (cx:Cx) (X:Sig) (res:V) (outs:List (Option V)) (k:List Item) (S:St):Prop :=
 ∀ (w0:World) (F0:Nat→Prop) (fp:List Nat) (cargs bs:List Value),a25 X.oms cargs bs→(∀ k,F0 k→k<w0.heap.size) →
 ∀ (F:Nat→Prop) (ι:Nat→Nat→Value) (a:Act) (w:World) (b:Frame) (cs:List Frame),t0 ⟨w0,F0,(· ∈ fp),bs⟩ F ι S a w→b.fn=X.f→b.kind = .normal →
  ∃ e w' fr,d3v w0 F0 fp cargs res outs e w'∧Comes cx.P (lone (b.at a k) cs w) (lone fr cs w') e∧fr.fn=X.f∧fr.leaving cx.P w' e
theorem j6.go {cx:Cx} {X:Sig} {res:V} {outs:List (Option V)} {k k':List Item} {S S':St} {n:Nat} {sc:a1s} {ps:List Prop} (hg:goM cx n k S sc=some (k',S',ps)) (hob : ∀ p∈ps,p) (h:j6 cx X res outs k' S'):j6 cx X res outs k S:=by
 intro w0 F0 fp cargs bs hp hF0 F ι a w b cs hrel hb1 hb2
 obtain ⟨a',w',F',ι',hs,hrel'⟩:=d8u (b:=b) (cs:=cs) hrel hg hob
 obtain ⟨e,w2,fr,h1,h2,h3,h4⟩:=h w0 F0 fp cargs bs hp hF0 F' ι' a' w' b cs hrel' hb1 hb2
 exact ⟨e,w2,fr,h1,.of_steps hs h2,h3,h4⟩
def c32 (cx:Cx) (t:List V) (r:ResultVar):j4 V :=
 match r with
 | .tmp k=>j4.pure (t.getD k .bot)
 | .cell a ty=>match cx.T ty with
  | some ti=>match t.getD a .bot with
   | .ptr g j off=>j4.bind (j4.rd g j) fun e=>match e with
    | .var _ cs=>match Z4 ti (cs.drop off) with
     | some v=>j4.pure v
     | none=>j4.no
    | _=>j4.no
   | _=>j4.no
  | none=>j4.no
def c5k (cx:Cx) (t:List V):List ResultVar→j4 (List V)
 | []=>j4.pure []
 | r::rs=>j4.bind (c32 cx t r) fun v=>j4.bind (c5k cx t rs) fun vs=>j4.pure (v::vs)
def b6E:List (Option Nat)→Nat→j4 (List V)
 | [],_=>j4.pure []
 | none::om,j=>j4.bind (b6E om j) fun vs=>j4.pure (.bot::vs)
 | some _::om,j=>j4.bind (j4.rd 0 j) fun e=>j4.bind (b6E om (j+1)) fun vs=>match e with
  | .row _ sz n _=>j4.pure (.own 0 j sz 0 n::vs)
  | .deep false _ sz n _=>j4.pure (.own 0 j sz 0 n::vs)
  | _=>j4.no
def a7H:List (Option (Nat×PM))→j4 (List V×List PM)
 | []=>j4.pure ([],[])
 | none::os=>a7H os
 | some (j,.val ck om)::os=>j4.bind (b6E om j) fun cs=>j4.bind (a7H os) fun x=>j4.pure (.agg cs::x.1,.val ck om::x.2)
 | some (j,m)::os=>j4.bind (j4.rd 0 j) fun e=>match m,e with
  | .ptr _ _,.var _ _=>j4.bind (a7H os) fun x=>j4.pure (.ptr 0 j 0::x.1,m::x.2)
  | .row,.row _ sz n _=>j4.bind (a7H os) fun x=>j4.pure (.own 0 j sz 0 n::x.1,m::x.2)
  | .row,.deep false _ sz n _=>j4.bind (a7H os) fun x=>j4.pure (.own 0 j sz 0 n::x.1,m::x.2)
  | _,_=>j4.no
def b51:List V→V
 | [v]=>v
 | vs=>.tup vs
def a8a:List (Option (Nat×PM))→List V→List (Option V)
 | [],_=>[]
 | none::os,vs=>none::a8a os vs
 | some _::os,v::vs=>some v::a8a os vs
 | some _::os,[]=>none::a8a os []
def c0O (cx:Cx) (X:Sig) (t:List V):j4 (AR (List V)×Nat) :=
 j4.bind (c5k cx t X.fn.results.toList) fun rv=>j4.bind (a7H X.oms) fun ov=>j4.bind (a2X (X.rms++ov.2) (rv++ov.1)) fun r =>
  if a3M r.ks&&r.ls.all (fun id => !a22 r.ks id)&&Nat.beq rv.length X.rms.length then j4.pure (r,rv.length) else j4.no
def c31 (cx:Cx) (X:Sig) (k:List Item) (S:St):Option (V×List (Option V)×List Prop) :=
 match k with
 | .code .ret::_ | []=>match c0O cx X S.t S.ent with
  | some ((r,n),_)=>some (b51 (r.v.take n),a8a X.oms (r.v.drop n),r.obl)
  | none=>none
 | _=>none
section
variable {cx:Cx} {Γ:S8} {F:Nat→Prop} {ι:Nat→Nat→Value} {S S':St} {a:Act} {w:World} {b:Frame} {cs:List Frame} {k k':List Item}
theorem d03 (h:t0 Γ F ι S a w) (k:Nat):RV w F S.D ι (S.t.getD k .bot) (a.tmps.getD k undef):=E3 h.tmps (.tmp k)
def b7y (P:Program) (tmps:Array Value) (w:World) (r:ResultVar) (c:Value):Prop :=
  ((match r with
    | .tmp t=>pure (tmps.getD t undef)
    | .cell a t=>do loadVar t (← asAddr (tmps.getD a undef))):Sem Value).run P w = .ok c w
theorem e0H (h:t0 Γ F ι S a w) {r:ResultVar} {v:V} {lg:List (Nat×Nat)} (hr:c32 cx S.t r S.ent=some (v,lg)) : ∃ c,b7y cx.P a.tmps w r c∧RV w F S.D ι v c:=by
 unfold c32 at hr
 cases r with
 | tmp k =>
  have:=j4.pure_some hr
  injection this with this h9
  subst this
  exact ⟨_,rfl,d03 h k⟩
 | cell ad ty =>
  simp only at hr
  cases hti:cx.T ty with
  | none=>rw [hti] at hr; cases hr
  | some ti =>
  rw [hti] at hr
  obtain ⟨i,d,z,htf⟩:=cx.tf hti
  have hx:=d03 h ad
  generalize S.t.getD ad .bot=xv at hr hx
  cases xv<;>try (cases hr; done)
  case ptr g j off =>
   obtain ⟨hD,b,hι,hc⟩:=hx.inv_ptr
   obtain ⟨e,l1,l2,hrd,hp',hl12⟩:=j4.bind_some hr
   clear hr
   have he:=(j4.rd_some hrd).1
   simp only at he
   have hre:=h.ents g j e he
   split at hp'<;>try (cases hp'; done)
   ·rename_i e0 cs
    obtain ⟨g0,cur,h1,hg,hcs⟩:=hre
    rw [hι] at h1
    injection h1 with h1
    injection h1 with h1
    injection h1 with h1
    subst h1
    cases hrv:Z4 ti (cs.drop off) with
    | none=>rw [hrv] at hp'; cases hp'
    | some v' =>
    rw [hrv] at hp'
    have:=j4.pure_some hp'
    injection this with this h9
    subst this
    obtain ⟨c,hrd',hvc⟩:=a6n (hcs.drop off) hrv
    refine ⟨c,?_,hvc⟩
    unfold b7y
    simp only [hc,asAddr]
    have:=d3L htf (a6p hg off) hrd'
    simpa [Sem.run_bind] using this
theorem c6V (h:t0 Γ F ι S a w) : ∀ {rs:List ResultVar} {vs:List V} {lg:List (Nat×Nat)},c5k cx S.t rs S.ent=some (vs,lg) → ∃ cs,v6 (b7y cx.P a.tmps w) rs cs∧v6 (RV w F S.D ι) vs cs
 | [],vs,lg,hr=>by
  have:=j4.pure_some hr
  injection this with this h9
  subst this
  exact ⟨[],.nil,.nil⟩
 | r::rs,vs,lg,hr=>by
  obtain ⟨v,l1,l2,h1,h2,_⟩:=j4.bind_some hr
  obtain ⟨vs',l3,l4,h3,h4,_⟩:=j4.bind_some h2
  have:=j4.pure_some h4
  injection this with this h9
  subst this
  obtain ⟨c,e1,e2⟩:=e0H h h1
  obtain ⟨cs,e3,e4⟩:=c6V h h3
  exact ⟨c::cs,.cons e1 e3,.cons e2 e4⟩
def b3b:List Value→Value
 | [c]=>c
 | cs=>.tuple cs.toArray
theorem c6G {P:Program} {w:World} {α:Type} {f:α→Sem Value} : ∀ {l:List α} {cs:List Value},v6 (fun r c=>(f r).run P w = .ok c w) l cs→(l.mapM f).run P w = .ok cs w
 | _,_,.nil=>by simp [Sem.run]
 | _,_,.cons h t=>by
  rw [List.mapM_cons]
  have:=c6G t
  simp [Sem.run_bind,h,this]
theorem e6B {P:Program} {fn:Func} {tmps:Array Value} {w:World} {cs:List Value} (h:v6 (b7y P tmps w) fn.results.toList cs):(results fn tmps).run P w = .ok (b3b cs) w:=by
 unfold results
 have hm:=c6G (f:=fun r:ResultVar=>match r with
  | .tmp t=>pure (tmps.getD t undef)
  | .cell a t=>do loadVar t (← asAddr (tmps.getD a undef))) (h.imp fun r c x=>x)
 have he:fn.results=fn.results.toList.toArray:=by simp
 rw [he,List.mapM_toArray]
 have hp:(if hh:cs.toArray.size=1 then cs.toArray[0] else Value.tuple cs.toArray)=b3b cs:=by
  rcases cs with _ | ⟨c,_ | ⟨c',cs⟩⟩
  ·rfl
  ·rfl
  ·have : ¬ (c::c'::cs).toArray.size=1:=by simp
   rw [dif_neg this]
   rfl
 simp only [map_eq_pure_bind,Sem.run_bind,bind_assoc,pure_bind]
 refine (congrArg (fun r=>Result.andThen r _) hm).trans ?_
 simp only [Result.andThen]
 rw [← hp]
 rfl
theorem b9G (h:t0 Γ F ι S a w) : ∀ {om:List (Option Nat)} {j:Nat} {ds:List Value} {vs:List V} {lg:List (Nat×Nat)},a55 Γ.pins om j ds→b6E om j S.ent=some (vs,lg)→v6 (RC w F S.D ι) vs ds
 | [],j,[],vs,lg,_,hr=>by
  have:=j4.pure_some hr
  injection this with h1 h2
  subst h1
  exact .nil
 | none::om,j,d::ds,vs,lg,hc,hr=>by
  obtain ⟨xs,l1,l2,h1,h2,_⟩:=j4.bind_some hr
  have:=j4.pure_some h2
  injection this with h3 h4
  subst h3
  exact .cons (.fv _ _ (.bot _ hc.1)) (b9G h hc.2 h1)
 | some _::om,j,d::ds,vs,lg,hc,hr=>by
  obtain ⟨e,l1,l2,hrd,hp,_⟩:=j4.bind_some hr
  have he:=(j4.rd_some hrd).1
  simp only at he
  have hD:=St.D_of_ent he
  have hι:=(h.pins j d hc.1).2
  have hre:=h.ents 0 j e he
  obtain ⟨xs,l3,l4,h1,h2,_⟩:=j4.bind_some hp
  have ht:=b9G h hc.2 h1
  split at h2<;>try (cases h2; done)
  ·have:=j4.pure_some h2
   injection this with h3 h4
   subst h3
   refine .cons ?_ ht
   have:=RC.whole hD rfl hre
   rwa [hι] at this
  ·have:=j4.pure_some h2
   injection this with h3 h4
   subst h3
   refine .cons ?_ ht
   obtain ⟨flat,fs,ho,_⟩:=hre
   have:=RC.wholeO (F:=F) (D:=S.D) hD rfl ho
   rwa [hι] at this
 | [],_,_::_,_,_,hc,_=>hc.elim
 | none::_,_,[],_,_,hc,_=>hc.elim
 | some _::_,_,[],_,_,hc,_=>hc.elim
theorem b06 (h:t0 Γ F ι S a w) : ∀ {oms:List (Option (Nat×PM))} {cargs:List Value} {vs:List V} {ms:List PM} {lg:List (Nat×Nat)},a25 oms cargs Γ.pins→a7H oms S.ent=some ((vs,ms),lg) → ∃ cs,v6 (RV w F S.D ι) vs cs ∧
  ∀ {F1:Nat→Prop} {us:List V} {f:List Nat},BS w F1 us cs f→BO w F1 (a8a oms us) cargs f
 | [],_,vs,ms,lg,.nil _,hr=>by
  have:=j4.pure_some hr
  injection this with h1 h2
  injection h1 with h1 h3
  subst h1
  exact ⟨[],.nil,fun hb=>by cases hb; exact .nil⟩
 | none::oms,_,vs,ms,lg,.skip _ c cs _ t,hr=>by
  obtain ⟨cs',e1,e2⟩:=b06 h t hr
  exact ⟨cs',e1,fun {F1 us f} hb=>.skip _ _ _ _ (e2 hb)⟩
 | some (j,.val ck om)::oms,_,vs,ms,lg,.agg _ _ _ _ ds cs _ hc t,hr=>by
  obtain ⟨xs,l1,l2,hxs,hp,_⟩:=j4.bind_some hr
  obtain ⟨x,l3,l4,h1,h2,_⟩:=j4.bind_some hp
  have:=j4.pure_some h2
  injection this with h3 h4
  injection h3 with h3 h5
  subst h3
  obtain ⟨cs',e1,e2⟩:=b06 h t h1
  refine ⟨.agg ds.toArray::cs',.cons (.one _ _ (.agg _ _ (b9G h hc hxs))) e1,?_⟩
  intro F1 us f hb
  cases hb with
  | cons v c f vs cs fs h t=>exact .cons _ _ _ _ _ _ h (e2 t)
 | some (j,.val ck om)::oms,_,vs,ms,lg,.pin _ _ _ c cs _ hm hc t,hr=>by cases hm
 | some (j,.part)::oms,_,vs,ms,lg,.pin _ _ _ c cs _ hm hc t,hr=>by
  obtain ⟨e,l1,l2,hrd,hp,_⟩:=j4.bind_some hr
  cases e<;>cases hp
 | some (j,.ptr ck om)::oms,_,vs,ms,lg,.pin _ _ _ c cs _ hm hc t,hr=>by
  obtain ⟨e,l1,l2,hrd,hp,_⟩:=j4.bind_some hr
  have he:=(j4.rd_some hrd).1
  simp only at he
  have hD:=St.D_of_ent he
  have hι:=(h.pins j c hc).2
  have hre:=h.ents 0 j e he
  cases e<;>try (cases hp; done)
  obtain ⟨x,l3,l4,h1,h2,_⟩:=j4.bind_some hp
  have:=j4.pure_some h2
  injection this with h3 h4
  injection h3 with h3 h5
  subst h3
  obtain ⟨cs',e1,e2⟩:=b06 h t h1
  obtain ⟨g,cur,q1,q2,q3⟩:=hre
  refine ⟨c::cs',.cons (.one _ _ (.cell _ _ ?_)) e1,?_⟩
  ·rw [← hι,q1]
   exact .ptr 0 j 0 g hD q1
  ·intro F1 us f hb
   cases hb with
   | cons v c f vs cs fs h t=>exact .cons _ _ _ _ _ _ h (e2 t)
 | some (j,.row)::oms,_,vs,ms,lg,.pin _ _ _ c cs _ hm hc t,hr=>by
  obtain ⟨e,l1,l2,hrd,hp,_⟩:=j4.bind_some hr
  have he:=(j4.rd_some hrd).1
  simp only at he
  have hD:=St.D_of_ent he
  have hι:=(h.pins j c hc).2
  have hre:=h.ents 0 j e he
  cases e<;>try (cases hp; done)
  case row =>
   obtain ⟨x,l3,l4,h1,h2,_⟩:=j4.bind_some hp
   have:=j4.pure_some h2
   injection this with h3 h4
   injection h3 with h3 h5
   subst h3
   obtain ⟨cs',e1,e2⟩:=b06 h t h1
   refine ⟨c::cs',.cons (.one _ _ (.cell _ _ ?_)) e1,?_⟩
   ·have:=RC.whole hD rfl hre
    rwa [hι] at this
   ·intro F1 us f hb
    cases hb with
    | cons v c f vs cs fs h t=>exact .cons _ _ _ _ _ _ h (e2 t)
  case deep o _ _ _ _ =>
   cases o<;>try (cases hp; done)
   obtain ⟨x,l3,l4,h1,h2,_⟩:=j4.bind_some hp
   have:=j4.pure_some h2
   injection this with h3 h4
   injection h3 with h3 h5
   subst h3
   obtain ⟨cs',e1,e2⟩:=b06 h t h1
   obtain ⟨flat,fs,ho,_⟩:=hre
   refine ⟨c::cs',.cons (.one _ _ (.cell _ _ ?_)) e1,?_⟩
   ·have:=RC.wholeO (F:=F) (D:=S.D) hD rfl ho
    rwa [hι] at this
   ·intro F1 us f hb
    cases hb with
    | cons v c f vs cs fs h t=>exact .cons _ _ _ _ _ _ h (e2 t)
theorem v6.app {α β:Type} {R:α→β→Prop} : ∀ {C2 bs cs ds},v6 R C2 bs→v6 R cs ds→v6 R (C2++cs) (bs++ds)
 | _,_,_,_,.nil,k=>k
 | _,_,_,_,.cons hx t,k=>.cons hx (t.app k)
theorem BS.split : ∀ {c1 c2:List Value} {vs:List V} {f:List Nat},BS w F vs (c1++c2) f → ∃ f1 f2,f=f1++f2∧BS w F (vs.take c1.length) c1 f1∧BS w F (vs.drop c1.length) c2 f2
 | [],c2,vs,f,h=>⟨[],f,rfl,by simpa using .nil,by simpa using h⟩
 | c::c1,c2,_,_,.cons v _ f vs _ fs h t=>by
  obtain ⟨f1,f2,rfl,h1,h2⟩:=BS.split t
  exact ⟨f++f1,f2,by simp,.cons _ _ _ _ _ _ h h1,h2⟩
theorem BS.pack {vs:List V} {cs:List Value} {f:List Nat} (h:BS w F vs cs f):BR w F (b51 vs) (b3b cs) f:=by
 cases h with
 | nil=>exact .tup _ _ _ .nil
 | cons v c f vs cs fs h t =>
  cases t with
  | nil=>rw [List.append_nil]; exact .one _ _ _ h
  | cons v' c' f' vs' cs' fs' h' t'=>exact .tup _ _ _ (.cons _ _ _ _ _ _ h (.cons _ _ _ _ _ _ h' t'))
theorem j6.ret {X:Sig} {res:V} {outs:List (Option V)} {ps:List Prop} (hf:cx.P.funcs[X.f]?=some X.fn) (hr:c31 cx X k S=some (res,outs,ps)) (hob : ∀ p∈ps,p):j6 cx X res outs k S:=by
 obtain ⟨r,n,lg,hR,rfl,rfl,rfl,hk⟩ : ∃ r n lg,c0O cx X S.t S.ent=some ((r,n),lg)∧b51 (r.v.take n)=res∧a8a X.oms (r.v.drop n)=outs∧r.obl=ps∧(k=[] ∨ ∃ k',k = .code .ret::k'):=by
  unfold c31 at hr
  split at hr<;>try (cases hr; done)
  all_goals
   split at hr<;>try (cases hr; done)
   rename_i r n lg hR
   injection hr with hr
   injection hr with h1 h2
   injection h2 with h2 h3
   first | exact ⟨r,n,lg,hR,h1,h2,h3,.inr ⟨_,rfl⟩⟩ | exact ⟨r,n,lg,hR,h1,h2,h3,.inl rfl⟩
 intro w0 F0 fp cargs bs hp hF0 F ι a w b cs h hb1 hb2
 unfold c0O at hR
 obtain ⟨rv,l1,l2,g1,g2,_⟩:=j4.bind_some hR
 obtain ⟨⟨ov,om⟩,l3,l4,g3,g4,_⟩:=j4.bind_some g2
 obtain ⟨r',l5,l6,g5,g6,_⟩:=j4.bind_some g4
 simp only at g6
 split at g6<;>try (cases g6; done)
 rename_i hchk
 have:=j4.pure_some g6
 injection this with e1 e2
 injection e1 with e1 e3
 subst e1; subst e3
 simp only [Bool.and_eq_true] at hchk
 obtain ⟨⟨hnk,hls⟩,hlen⟩:=hchk
 have hnk':=a5n hnk
 have hdis : ∀ id∈r.ls,id ∉ r.ks:=fun id hid=>b5Z (List.all_eq_true.1 hls id hid)
 obtain ⟨rcs,q1,q2⟩:=c6V h g1
 obtain ⟨ocs,q3,q4⟩:=b06 h hp g3
 let F1:Nat→Prop:=fun k=>F k ∨ ∃ id∈r.ls,∃ e,S.ent id.1 id.2=some e∧EB w e (ι id.1 id.2) k
 obtain ⟨fpx,hbs,hfps,hhk,hhl⟩:=d4X (F1:=F1) h (fun k x=>.inl x) (q2.app q3) g5 hob (fun id hid e k he hk=>.inr ⟨id,hid,e,he,hk⟩)
 obtain ⟨f1,f2,hf12,b1,b2⟩:=hbs.split
 have hl2:rcs.length=rv.length:=q2.length.symm
 rw [hl2] at b1 b2
 have hfpn:=P6.nodup h hfps hnk'
 have hF1lt : ∀ k,F1 k→k<w.heap.size:=by
  rintro k (x | ⟨id,hid,e,he,hb⟩)
  ·exact h.F1 k x
  ·obtain ⟨e',he',hl'⟩:=hhl id hid
   have:e=e':=by rw [he] at he'; injection he'
   subst this
   exact h.lt he hl' hb
 have hfin:d3v w0 F0 fp cargs (b51 (r.v.take rv.length)) (a8a X.oms (r.v.drop rv.length)) (.returned (b3b rcs)) w:=by
  refine ⟨b3b rcs,F1,f1,f2,rfl,h.kept,fun k x=>.inl (h.F0 k x),?_,b1.pack,q4 b2,?_,?_⟩
  ·rintro k x
   refine ⟨?_,hF1lt k x⟩
   rcases x with x | ⟨id,hid,e,he,hb⟩
   ·exact h.F2 k x
   ·obtain ⟨e',he',hl'⟩:=hhl id hid
    have:e=e':=by rw [he] at he'; injection he'
    subst this
    exact .inr (h.sep _ _ _ k he hl' hb).2
  ·rw [← hf12]; exact hfpn
  ·intro k hk
   rw [← hf12] at hk
   obtain ⟨id,hid,e,he,hl,hb⟩:=hfps.mem hk
   obtain ⟨z1,z2⟩:=h.sep _ _ e k he hl hb
   refine ⟨?_,z2,h.lt he hl hb⟩
   rintro (x | ⟨id',hid',e0,he0,hb'⟩)
   ·exact z1 x
   ·obtain ⟨e',he',hl'⟩:=hhl id' hid'
    have:e0=e':=by rw [he0] at he'; injection he'
    subst this
    obtain ⟨y1,y2⟩:=h.inj _ _ e _ _ _ k he he' hl hl' hb hb'
    have:id=id':=Prod.ext y1 y2
    exact hdis id' hid' (this▸hid)
 have hres:=e6B (P:=cx.P) q1
 rcases hk with rfl | ⟨k',rfl⟩
 ·exact ⟨_,w,_,hfin,.one step_end,hb1,rfl,h.defers,hb2,X.fn,by show cx.P.funcs[b.fn]?=_; rw [hb1]; exact hf,hres⟩
 ·exact ⟨_,w,_,hfin,.one step_ret,hb1,rfl,h.defers,hb2,X.fn,by show cx.P.funcs[b.fn]?=_; rw [hb1]; exact hf,hres⟩
end
inductive Loc where
 | tmp (t:Nat)
 | sub (t i:Nat)
 | cell (g j i:Nat)
def St.get (S:St):Loc→Option V
 | .tmp t=>S.t[t]?
 | .sub t i=>match S.t[t]? with
  | some (.agg cs)=>cs[i]?
  | _=>none
 | .cell g j i=>match S.ent g j with
  | some (.var _ cs)=>cs[i]?
  | _=>none
def St.put (S:St) (l:Loc) (v:V):St :=
 match l with
 | .tmp t=>{ S with t:=S.t.set t v }
 | .sub t i=>match S.t[t]? with
  | some (.agg cs)=>{ S with t:=S.t.set t (.agg (cs.set i v)) }
  | _=>S
 | .cell g j i=>match S.ent g j with
  | some (.var e cs)=>S.setE g j (.var e (cs.set i v))
  | _=>S
inductive Fix where
 | own (l:Loc) (e sz:Nat)
 | frz (l:Loc) (ck:Option Nat)
 | is (l:Loc) (v:V)
 | ent (g j:Nat) (e:s6)
 | plug (g j idx off:Nat) (r:List V) (e:Nat)
 | shut (g j n:Nat) (rows:List (List V))
 | ownD (l:Loc) (e sz:Nat)
 | kill (g j:Nat)
def V.isCell:V→Bool
 | .agg _ | .tup _ | .bot=>false
 | _=>true
def a7e (f:Fix) (S:St):Option (St×List Prop) :=
 match f with
 | .own l e sz=>match S.get l with
  | some .nil=>some (((S.more 1).lay S.h.length [.row e sz 0 []]).put l (.own S.h.length 0 sz 0 0),[])
  | _=>none
 | .frz l ck=>match S.get l with
  | some v=>if v.isCell then match fzP ck v S.ent with
   | some ((v',us,ps),_)=>some ((S.upds us).put l v',ps)
   | none=>none else none
  | none=>none
 | .is l v'=>match S.get l with
  | some v=>if v.isCell then some (S.put l v',[v=v']) else none
  | none=>none
 | .ent g j e'=>match S.ent g j with
  | some e=>some (S.setE g j e',[e=e'])
  | none=>none
 | .plug g j idx off r e=>match S.ent g j,r[off]? with
  | some (.deep o t sz n rows),some (.own g' j' sz' lo n')=>match Z7 none (some e) (.own g' j' sz' lo n') S.ent with
   | some (f,_)=>if off+1≤sz∧a3M f.ks∧a22 f.ks (g,j)=false then some (S.upds (H1 f.ks++[((g,j),.deep o t sz n (rows.set idx (B2 r off [f.v])))]),(rows[idx]?=some r)::f.obl) else none
   | none=>none
  | _,_=>none
 | .kill g j=>match S.ent g j with
  | some _=>some (S.setE g j .dead,[])
  | none=>none
 | .shut g j n' rows'=>match S.ent g j with
  | some (.deep o t sz n rows)=>some (S.setE g j (.deep false t sz n' rows'),[rows=rows',K0 rows',n=n'])
  | _=>none
 | .ownD l e sz=>match S.get l with
  | some .nil=>some (((S.more 1).lay S.h.length [.deep false e sz 0 []]).put l (.own S.h.length 0 sz 0 0),[])
  | _=>none
def b4j:List Fix→St→Option (St×List Prop)
 | [],S=>some (S,[])
 | f::fs,S=>match a7e f S with
  | some (S1,ps)=>match b4j fs S1 with
   | some (S2,qs)=>some (S2,ps++qs)
   | none=>none
  | none=>none
section
variable {cx:Cx} {Γ:S8} {F:Nat→Prop} {ι:Nat→Nat→Value} {S S':St} {a:Act} {w:World}
theorem RV.isCell {D:Nat→Prop} {v:V} {c:Value} (h:RV w F D ι v c) (hv:v.isCell=true):RC w F D ι v c:=by
 cases h with
 | one v c h =>
  cases h with
  | cell v c h=>exact h
  | agg cs ds h=>cases hv
 | tup cs ds h=>cases hv
 | any c=>cases hv
theorem t0.withT (h:t0 Γ F ι S a w) {t:List V} (ht:v6 (RV w F S.D ι) t a.tmps.toList):t0 Γ F ι { S with t:=t } a w :=
 { F0:=h.F0,F1:=h.F1,F2:=h.F2,kept:=h.kept,tmps:=ht,ents:=h.ents,sep:=h.sep,inj:=h.inj,defers:=h.defers,pins:=h.pins }
theorem v6.set_left {α β:Type} {R:α→β→Prop} {C2:List α} {bs:List β} (h:v6 R C2 bs) {i:Nat} {x y:α} (hx:C2[i]?=some x) (hy : ∀ b,R x b→R y b):v6 R (C2.set i y) bs:=by
 obtain ⟨b,hb,hr⟩:=h.get hx
 have:=h.set i (hy b hr)
 rwa [a1p hb] at this
theorem t0.putL (h:t0 Γ F ι S a w) {l:Loc} {v v':V} (hg:S.get l=some v) (hc:v.isCell=true) (hr : ∀ c,RC w F S.D ι v c→RC w F S.D ι v' c):t0 Γ F ι (S.put l v') a w:=by
 cases l with
 | tmp t =>
  exact h.withT (h.tmps.set_left hg fun c hv=>.one _ _ (.cell _ _ (hr c (hv.isCell hc))))
 | sub t i =>
  unfold St.get at hg
  unfold St.put
  simp only at hg ⊢
  split at hg<;>try (cases hg; done)
  rename_i cs hcs
  try rw [hcs]
  refine h.withT (h.tmps.set_left hcs fun c hv => ?_)
  cases hv with
  | one v c hv =>
   cases hv with
   | cell v c hv=>cases hv with | fv v c hv=>cases hv
   | agg cs ds hv=>exact .one _ _ (.agg _ _ (hv.set_left hg hr))
 | cell g j i =>
  unfold St.get at hg
  unfold St.put
  simp only at hg ⊢
  split at hg<;>try (cases hg; done)
  rename_i e cs hcs
  try rw [hcs]
  try simp only
  refine h.write hcs rfl ⟨rfl,rfl,rfl⟩ rfl (fun _ _=>rfl) (fun _ => ?_) (fun _ hk=>hk)
  obtain ⟨g0,cur,h1,h2,h3⟩:=h.ents g j _ hcs
  exact ⟨g0,cur,h1,h2,(h3.set_left hg hr).imp fun _ _ x=>x.mono (fun _ _ _=>rfl) (fun _ y=>y) (fun k y=>W1.2 y) (fun _ _ _=>rfl)⟩
theorem c7t {grp:Nat} {new:List s6} {l:Loc} {v:V} (h:S.get l=some v) (hn : ¬ S.D grp):(S.lay grp new).get l=some v:=by
 cases l with
 | tmp t=>exact h
 | sub t i=>exact h
 | cell g j i =>
  unfold St.get at h ⊢
  simp only at h ⊢
  split at h<;>try (cases h; done)
  rename_i e cs hcs
  have:g≠grp:=fun q=>hn (q▸St.D_of_ent hcs)
  rw [a8s this,hcs]
  exact h
theorem d6o {n:Nat} {l:Loc} {v:V} (h:S.get l=some v):(S.more n).get l=some v:=by
 cases l with
 | tmp t=>exact h
 | sub t i=>exact h
 | cell g j i =>
  unfold St.get at h ⊢
  simp only at h ⊢
  rw [b29]
  exact h
theorem e8i {e:Nat} {v:V} {H:Hp} {f:AR V} {lg:List (Nat×Nat)} (h:Z7 none (some e) v H=some (f,lg)):f.ls=[]:=by
 unfold Z7 at h
 simp only at h
 split at h
 ·have:=j4.pure_some h
  injection this with h1 h2
  rw [h1]
 cases v<;>try (cases h; done)
 case nil =>
  have:=j4.pure_some h
  injection this with h1 h2
  rw [h1]
 case own g j sz lo n =>
  cases lo with
  | succ q=>cases h
  | zero =>
   simp only at h
   obtain ⟨en,l1,l2,hrd,hp,_⟩:=j4.bind_some h
   cases en<;>try (cases hp; done)
   case row =>
    simp only at hp
    split at hp<;>try (cases hp; done)
    have:=j4.pure_some hp
    injection this with h1 h2
    rw [h1]
   case deep o _ _ _ _ =>
    cases o<;>try (cases hp; done)
    simp only at hp
    split at hp<;>try (cases hp; done)
    have:=j4.pure_some hp
    injection this with h1 h2
    rw [h1]
theorem e3l {g j idx off e:Nat} {r:List V} {ps:List Prop} (h:t0 Γ F ι S a w) (hf:a7e (.plug g j idx off r e) S=some (S',ps)) (hob : ∀ p∈ps,p):t0 Γ F ι S' a w:=by
 unfold a7e at hf
 simp only at hf
 split at hf<;>try (cases hf; done)
 rename_i o t sz n rows g' j' sz' lo n' he hv
 split at hf<;>try (cases hf; done)
 rename_i f lg hm
 split at hf<;>try (cases hf; done)
 rename_i hcond
 injection hf with hf
 injection hf with h1 h2
 subst h1; subst h2
 obtain ⟨hoff,hks,hgj⟩:=hcond
 have hr:rows[idx]?=some r:=hob _ (by simp)
 obtain ⟨flat,fs,hor,hkl,hrn,hl,hnd,hnr⟩:=h.ents g j _ he
 have hidx:=(List.getElem?_eq_some_iff.1 hr).1
 have hpos:idx * sz+sz≤n * sz:=by rw [← Nat.succ_mul]; exact Nat.mul_le_mul_right _ (by omega)
 have hle:idx * sz+off+1≤rows.flatten.length:=by rw [a4N hl,hrn]; omega
 have hmid:(rows.flatten.drop (idx * sz+off)).take 1=[.own g' j' sz' lo n']:=by
  have:(rows.flatten.drop (idx * sz+off)).take 1=(r.drop off).take 1:=by
   rw [← b3j hl hr,List.drop_take,List.take_take,List.drop_drop]
   congr 1
   omega
  rw [this]
  obtain ⟨hlt,hv'⟩:=List.getElem?_eq_some_iff.1 hv
  rw [List.drop_eq_getElem_cons hlt,hv']
  rfl
 obtain ⟨fa,fm,fb,rfl,ka,km,kb⟩:=hkl.cut hle
 rw [hmid] at km
 obtain ⟨c,hc,hkc⟩ : ∃ c,(flat.drop (idx * sz+off)).take 1=[c]∧RC w F S.D ι (.own g' j' sz' lo n') c:=by
  generalize (flat.drop (idx * sz+off)).take 1=cs at km
  cases km with
  | cons v c f vs cs fs h t =>
   cases t
   refine ⟨c,rfl,?_⟩
   cases h with
   | rc h=>exact h
   | bc _ h=>cases h with
    | fv _ _ h=>exact .fv _ _ h
 obtain ⟨fp,hb,hfps,_⟩:=c2W (F1:=F) h (fun _ x=>x) hkc hm (fun p hp=>hob p (List.mem_cons.2 (.inr hp))) (by rw [e8i hm]; intro id hid; cases hid)
 have hbl:BL w F [f.v] [c] fp:=by
  have:=BL.cons _ _ _ _ _ _ hb .nil
  simpa using this
 refine h.dput he hr (by simpa using hoff) hbl hfps (a5n hks) (fun q=>by rw [a50.2 q] at hgj; cases hgj) ⟨rfl,rfl,rfl⟩ rfl (fun _ _=>rfl) ?_
 intro flat2 ho2
 have:=b0o ho2 hor (fun _ _=>rfl)
 subst this
 have e1:B2 flat2 (idx * sz+off) [c]=flat2:=by
  unfold B2
  rw [← hc,List.append_assoc]
  have hl1:((flat2.drop (idx * sz+off)).take 1).length=1:=by rw [hc]; rfl
  rw [hl1]
  have e2 : ∀ k:Nat,flat2.take k++((flat2.drop k).take 1++flat2.drop (k+1))=flat2:=fun k=>by
   rw [← List.drop_drop,List.take_append_drop,List.take_append_drop]
  exact e2 _
 rw [e1]
 exact ho2
theorem e0p {g j n':Nat} {rows':List (List V)} {ps:List Prop} (h:t0 Γ F ι S a w) (hf:a7e (.shut g j n' rows') S=some (S',ps)) (hob : ∀ p∈ps,p):t0 Γ F ι S' a w:=by
 unfold a7e at hf
 simp only at hf
 split at hf<;>try (cases hf; done)
 rename_i o t sz n rows he
 injection hf with hf
 injection hf with h1 h2
 subst h1; subst h2
 have hrr:rows=rows':=hob _ (by simp)
 have hnr:K0 rows':=hob _ (by simp)
 have hnn:n=n':=hob _ (by simp)
 subst hrr; subst hnn
 refine h.write he rfl ⟨rfl,rfl,rfl⟩ rfl (fun _ _=>rfl) (fun _ => ?_) (fun k hk=>hk)
 obtain ⟨flat,fs,q1,q2,q3,q4,q5,q6⟩:=h.ents g j _ he
 exact ⟨flat,fs,q1,q2.mono (fun _ _ _=>rfl) (fun _ x=>x) (fun k x=>W1.2 x) (fun _ _ _=>rfl) (fun _ _=>rfl),q3,q4,q5,fun _=>hnr⟩
theorem e6d {f:Fix} {ps:List Prop} (h:t0 Γ F ι S a w) (hf:a7e f S=some (S',ps)) (hob : ∀ p∈ps,p) : ∃ F' ι',t0 Γ F' ι' S' a w:=by
 unfold a7e at hf
 split at hf
 ·rename_i l e sz
  split at hf<;>try (cases hf; done)
  rename_i hg
  injection hf with hf
  injection hf with hf hf2
  subst hf
  have hn : ¬ (S.more 1).D S.h.length:=fun q=>by
   obtain ⟨x,hx⟩:=b0L.1 q
   have:=(List.getElem?_eq_some_iff.1 hx).1
   omega
  have hlen:S.h.length<(S.more 1).h.length:=by simp [St.more,a4P]
  have hor:OR w F e sz (.slice none 0 0) 0 []:=⟨[],⟨by simp,.inl ⟨rfl,rfl⟩⟩,.nil,rfl,by simp⟩
  have hno : ∀ (j:Nat) (e':s6) (k:Nat),([.row e sz 0 []]:List s6)[j]?=some e'→EB w e' (P3 ι S.h.length (.slice none 0 0) S.h.length j) k→False:=by
   intro j e' k he hk
   rw [T6] at hk
   cases j with
   | zero =>
    simp at he
    subst he
    cases hk
   | succ j=>simp at he
  have h1:=(h.more 1).lay hlen hn (new:=[.row e sz 0 []]) (ι':=P3 ι S.h.length (.slice none 0 0)) (fun g j q=>b1h q)
   (fun j e' he=>by
    cases j with
    | zero =>
     simp at he
     subst he
     rw [T6]
     exact hor
    | succ j=>simp at he)
   (fun j e' k he hl hk=>(hno j e' k he hk).elim)
   (fun j e' j' e'' k he he' hl hl' hk hk'=>(hno j e' k he hk).elim)
   (fun j e' g' j' e'' k he he' hl hl' hk=>(hno j e' k he hk).elim)
  refine ⟨F,_,h1.putL (c7t (d6o hg) hn) rfl fun c hc => ?_⟩
  have hcn:c = .slice none 0 0:=by
   cases hc with
   | fv v c hc=>cases hc; rfl
  subst hcn
  exact RC.whole (a1I hlen) T6 hor
 ·rename_i l ck
  split at hf<;>try (cases hf; done)
  rename_i v hg
  split at hf<;>try (cases hf; done)
  rename_i hcell
  split at hf<;>try (cases hf; done)
  rename_i v' us fps lg hz
  injection hf with hf
  injection hf with hf hf2
  subst hf; subst hf2
  have hfr : ∀ c,RC w F S.D ι v c → ∃ F',(∀ k,F k→F' k)∧t0 Γ F' ι (S.upds us) a w∧Frz S (S.upds us)∧FV w F' v' c:=fun c hc=>b2i h (Frz.refl S) hc hz hob
  have hat : ∃ c,RC w F S.D ι v c:=by
   cases l with
   | tmp t =>
    obtain ⟨c,_,hv⟩:=h.tmps.get hg
    exact ⟨c,hv.isCell hcell⟩
   | sub t i =>
    unfold St.get at hg
    simp only at hg
    split at hg<;>try (cases hg; done)
    rename_i cs hcs
    obtain ⟨c,_,hv⟩:=h.tmps.get hcs
    cases hv with
    | one v c hv =>
     cases hv with
     | cell v c hv=>cases hv with | fv v c hv=>cases hv
     | agg cs ds hv =>
      obtain ⟨c,_,hv⟩:=hv.get hg
      exact ⟨c,hv⟩
   | cell g j i =>
    unfold St.get at hg
    simp only at hg
    split at hg<;>try (cases hg; done)
    rename_i e cs hcs
    obtain ⟨g0,cur,h1,h2,h3⟩:=h.ents g j _ hcs
    obtain ⟨c,_,hv⟩:=h3.get hg
    exact ⟨c,hv⟩
  obtain ⟨c0,hc0⟩:=hat
  obtain ⟨F',hF,hrel,hfz,hfv⟩:=hfr c0 hc0
  clear hfr hfv
  cases l with
  | tmp t =>
   obtain ⟨c,hct,hv⟩:=h.tmps.get hg
   obtain ⟨F',hF,hrel,hfz,hfv⟩:=b2i h (Frz.refl S) (hv.isCell hcell) hz hob
   refine ⟨F',ι,?_⟩
   have ht:(S.upds us).t=S.t:=hfz.2.2.1
   show t0 Γ F' ι { S.upds us with t:=(S.upds us).t.set t v' } a w
   refine hrel.withT ?_
   have:=hrel.tmps.set t (b:=c) (.one _ _ (.cell _ _ (.fv _ _ hfv)))
   rwa [a1p hct] at this
  | sub t i =>
   unfold St.get at hg
   simp only at hg
   split at hg<;>try (cases hg; done)
   rename_i cs hcs
   obtain ⟨c,hct,hv⟩:=h.tmps.get hcs
   cases hv with
   | one v c hv =>
    cases hv with
    | cell v c hv=>cases hv with | fv v c hv=>cases hv
    | agg cs ds hv =>
     obtain ⟨c,hci,hvi⟩:=hv.get hg
     obtain ⟨F',hF,hrel,hfz,hfv⟩:=b2i h (Frz.refl S) hvi hz hob
     refine ⟨F',ι,?_⟩
     have ht:(S.upds us).t=S.t:=hfz.2.2.1
     unfold St.put
     simp only [ht,hcs]
     have h2:=hrel.tmps
     rw [ht] at h2
     have:=hrel.withT (t:=S.t.set t (.agg (cs.set i v'))) ?_
     ·exact this
     ·have hagg:=h2.get hcs
      obtain ⟨c',hct',hv'⟩:=hagg
      rw [hct] at hct'
      injection hct' with hct'
      have hv2:v6 (RC w F' (S.upds us).D ι) cs ds:=by
       refine hv.imp fun _ _ x=>x.mono (fun _ _ _=>rfl) hF (fun k y=>(a1z S k us).2 y) (fun _ _ _=>rfl)
      have hset:=hv2.set i (b:=c) (.fv _ _ hfv)
      rw [a1p hci] at hset
      have:=h2.set t (b:=.agg ds.toArray) (.one _ _ (.agg _ _ hset))
      rwa [a1p hct] at this
  | cell g j i =>
   unfold St.get at hg
   simp only at hg
   split at hg<;>try (cases hg; done)
   rename_i e cs hcs
   obtain ⟨g0,cur,q1,q2,q3⟩:=h.ents g j _ hcs
   obtain ⟨c,hci,hvi⟩:=q3.get hg
   obtain ⟨F',hF,hrel,hfz,hfv⟩:=b2i h (Frz.refl S) hvi hz hob
   refine ⟨F',ι,?_⟩
   have hcs':(S.upds us).ent g j=some (.var e cs):=by
    rcases hfz.2.2.2 _ _ _ hcs with q | ⟨e',sz,n,rows,q,_⟩
    ·exact q
    ·cases q
   unfold St.put
   simp only [hcs']
   refine hrel.write hcs' rfl ⟨rfl,rfl,rfl⟩ rfl (fun _ _=>rfl) (fun _ => ?_) (fun _ hk=>hk)
   have hset:=(q3.imp fun _ _ x=>RC.mono (D':=((S.upds us).setE g j (.var e (cs.set i v'))).D) (F':=F') (w':=w) (ι':=ι) (fun _ _ _=>rfl) hF (fun k y=>W1.2 ((a1z S k us).2 y)) (fun _ _ _=>rfl) x).set i (b:=c) (.fv _ _ hfv)
   rw [a1p hci] at hset
   exact ⟨g0,cur,q1,q2,hset⟩
 ·rename_i l v'
  split at hf<;>try (cases hf; done)
  rename_i v hg
  split at hf<;>try (cases hf; done)
  rename_i hcell
  injection hf with hf
  injection hf with hf hf2
  subst hf; subst hf2
  have:v=v':=hob _ (by simp)
  subst this
  exact ⟨F,ι,h.putL hg hcell fun _ x=>x⟩
 ·rename_i g j e'
  split at hf<;>try (cases hf; done)
  rename_i e he
  injection hf with hf
  injection hf with hf hf2
  subst hf; subst hf2
  have:e=e':=hob _ (by simp)
  subst this
  have hset:S.setE g j e=S:=by
   obtain ⟨l,hl⟩:=St.D_of_ent he
   rw [a4a hl]
   rw [a28 hl] at he
   rw [a1p he,a1p hl]
  rw [hset]
  exact ⟨F,ι,h⟩
 ·rename_i g j idx off r e
  exact ⟨F,ι,e3l (g:=g) (j:=j) (idx:=idx) (off:=off) (r:=r) (e:=e) h hf hob⟩
 ·rename_i g j
  split at hf<;>try (cases hf; done)
  rename_i e he
  injection hf with hf
  injection hf with hf hf2
  subst hf
  exact ⟨F,ι,h.kill he⟩
 ·rename_i g j n' rows'
  exact ⟨F,ι,e0p (g:=g) (j:=j) (n':=n') (rows':=rows') h hf hob⟩
 ·rename_i l e sz
  split at hf<;>try (cases hf; done)
  rename_i hg
  injection hf with hf
  injection hf with hf hf2
  subst hf
  have hn : ¬ (S.more 1).D S.h.length:=fun q=>by
   obtain ⟨x,hx⟩:=b0L.1 q
   have:=(List.getElem?_eq_some_iff.1 hx).1
   omega
  have hlen:S.h.length<(S.more 1).h.length:=by simp [St.more,a4P]
  have hor:OR w F e sz (.slice none 0 0) 0 []:=⟨[],⟨by simp,.inl ⟨rfl,rfl⟩⟩,.nil,rfl,by simp⟩
  have hno : ∀ (j:Nat) (e':s6) (k:Nat),([.deep false e sz 0 []]:List s6)[j]?=some e'→EB w e' (P3 ι S.h.length (.slice none 0 0) S.h.length j) k→False:=by
   intro j e' k he hk
   rw [T6] at hk
   cases j with
   | zero =>
    simp at he
    subst he
    have:=(EB.deep_iff (F:=F) (D:=S.D) (ι:=ι) (flat:=[]) (fs:=[]) ⟨by simp,.inl ⟨rfl,rfl⟩⟩ .nil).1 hk
    simp [F4,C3] at this
   | succ j=>simp at he
  have h1:=(h.more 1).lay hlen hn (new:=[.deep false e sz 0 []]) (ι':=P3 ι S.h.length (.slice none 0 0)) (fun g j q=>b1h q)
   (fun j e' he=>by
    cases j with
    | zero =>
     simp at he
     subst he
     rw [T6]
     exact ⟨[],[],⟨by simp,.inl ⟨rfl,rfl⟩⟩,.nil,rfl,by simp,by simp [F4,C3],fun _=>by simp [K0]⟩
    | succ j=>simp at he)
   (fun j e' k he hl hk=>(hno j e' k he hk).elim)
   (fun j e' j' e'' k he he' hl hl' hk hk'=>(hno j e' k he hk).elim)
   (fun j e' g' j' e'' k he he' hl hl' hk=>(hno j e' k he hk).elim)
  refine ⟨F,_,h1.putL (c7t (d6o hg) hn) rfl fun c hc => ?_⟩
  have hcn:c = .slice none 0 0:=by
   cases hc with
   | fv v c hc=>cases hc; rfl
  subst hcn
  exact RC.whole (a1I hlen) T6 hor
theorem e56 (fs:List Fix) : ∀ {S:St} {F:Nat→Prop} {ι:Nat→Nat→Value} {ps:List Prop},t0 Γ F ι S a w→b4j fs S=some (S',ps)→(∀ p∈ps,p) → ∃ F' ι',t0 Γ F' ι' S' a w:=by
 induction fs with
 | nil =>
  intro S F ι ps h hf hob
  injection hf with hf
  injection hf with hf hf2
  subst hf
  exact ⟨F,ι,h⟩
 | cons f fs ih =>
  intro S F ι ps h hf hob
  unfold b4j at hf
  cases h1:a7e f S with
  | none=>rw [h1] at hf; cases hf
  | some x1 =>
  obtain ⟨S1,ps1⟩:=x1
  rw [h1] at hf
  simp only at hf
  cases h2:b4j fs S1 with
  | none=>rw [h2] at hf; cases hf
  | some x2 =>
  obtain ⟨S2,ps2⟩:=x2
  rw [h2] at hf
  simp only at hf
  injection hf with hf
  injection hf with hf hf2
  subst hf; subst hf2
  obtain ⟨F1,ι1,h3⟩:=e6d h h1 (fun p hp=>hob p (List.mem_append.2 (.inl hp)))
  exact ih h3 h2 (fun p hp=>hob p (List.mem_append.2 (.inr hp)))
end
def a8A:List (Nat×Nat)→Nat×Nat→Nat→Option Nat
 | [],_,_=>none
 | y::l,x,i=>if y.1==x.1&&y.2==x.2 then some i else a8A l x (i+1)
def a8S (gs:List (Nat×Nat)) (g j:Nat):Option (Nat×Nat) :=
 match a8A gs (g,j) 1 with
 | some i=>some (i,0)
 | none=>match g with
  | 0=>some (0,j)
  | _+1=>none
def a0L (gs:List (Nat×Nat)) (v:V):V :=
 match v with
 | .own g j sz lo n=>match a8S gs g j with
  | some (g',j')=>.own g' j' sz lo n
  | none=>.bot
 | .ptr g j off=>match a8S gs g j with
  | some (g',j')=>.ptr g' j' off
  | none=>.bot
 | .eptr g j sz idx off=>match a8S gs g j with
  | some (g',j')=>.eptr g' j' sz idx off
  | none=>.bot
 | .fptr _=>.bot
 | .mp g j=>match a8S gs g j with
  | some (g',j')=>.mp g' j'
  | none=>.bot
 | v=>v
def b3A (gs:List (Nat×Nat)) (v:V):V :=
 match v with
 | .agg cs=>.agg (cs.map (a0L gs))
 | v=>a0L gs v
def c5i (gs:List (Nat×Nat)) (v:V):V :=
 match v with
 | .tup cs=>.tup (cs.map (b3A gs))
 | v=>b3A gs v
def a8C (gs:List (Nat×Nat)) (e:s6):s6 :=
 match e with
 | .var e cs=>.var e (cs.map (a0L gs))
 | .deep true _ _ _ _=>.dead
 | e=>e
def a8P (gs:List (Nat×Nat)):Nat→List Nat→List V→List V
 | _,_,[]=>[]
 | i,[],_::vs=>.bot::a8P gs (i+1) [] vs
 | i,k::ks,v::vs=>if Nat.beq k i then c5i gs v::a8P gs (i+1) ks vs else .bot::a8P gs (i+1) (k::ks) vs
def a8v (S:St) (gs0:List (Nat×Nat)):List (Nat×Nat)→List (Option (List s6))
 | []=>[]
 | id::gs=>some [match S.ent id.1 id.2 with
  | some e=>a8C gs0 e
  | none=>.dead]::a8v S gs0 gs
def b0Q (gs:List (Nat×Nat)):Nat→List s6→List s6
 | _,[]=>[]
 | j,e::es=>(match a8A gs (0,j) 1 with
  | some _=>.dead
  | none=>a8C gs e)::b0Q gs (j+1) es
def a2C (keep:List Nat) (gs:List (Nat×Nat)) (S:St):Option St :=
 if a3M gs then
  some { t:=a8P gs 0 keep S.t,h:=(match S.h with
   | some l::_=>some (b0Q gs 0 l)
   | _=>none)::a8v S gs gs }
 else none
section
variable {cx:Cx} {Γ:S8} {F:Nat→Prop} {ι:Nat→Nat→Value} {S S':St} {a:Act} {w:World} {keep:List Nat}
theorem c86 : ∀ {l:List (Nat×Nat)} {x:Nat×Nat} {i k:Nat},a8A l x i=some k→i≤k∧l[k - i]?=some x
 | [],x,i,k,h=>by cases h
 | y::l,x,i,k,h=>by
  unfold a8A at h
  split at h
  ·rename_i q
   injection h with h
   subst h
   simp at q
   have:y=x:=Prod.ext q.1 q.2
   exact ⟨Nat.le_refl _,by simp [this]⟩
  ·obtain ⟨h1,h2⟩:=c86 h
   refine ⟨by omega,?_⟩
   have:k - i=(k - (i+1))+1:=by omega
   rw [this]
   simpa using h2
def a5M (ι:Nat→Nat→Value) (gs:List (Nat×Nat)) (g j:Nat):Value :=
 match g with
 | 0=>ι 0 j
 | g+1=>match gs[g]? with
  | some id=>ι id.1 id.2
  | none=>.nilFunc
theorem c5w {gs0:List (Nat×Nat)} : ∀ {gs:List (Nat×Nat)} {i:Nat} {id:Nat×Nat},gs[i]?=some id→(a8v S gs0 gs)[i]?=some (some [match S.ent id.1 id.2 with
  | some e=>a8C gs0 e
  | none=>.dead])
 | id'::gs,0,id,h=>by simp at h; subst h; simp [a8v]
 | id'::gs,i+1,id,h=>by simp at h; simp [a8v,c5w h]
theorem c71 {gs0:List (Nat×Nat)} : ∀ {gs:List (Nat×Nat)},(a8v S gs0 gs).length=gs.length
 | []=>rfl
 | _::gs=>by simp [a8v,c71]
theorem d07 {gs:List (Nat×Nat)} (hp:a2C keep gs S=some S') (hD:S.D 0):S'.D 0:=by
 unfold a2C at hp
 split at hp<;>try (cases hp; done)
 injection hp with hp
 subst hp
 obtain ⟨l,hl⟩:=hD
 have : ∃ t,S.h=some l::t:=by
  cases hh:S.h with
  | nil=>rw [hh] at hl; simp at hl
  | cons x t=>rw [hh] at hl; simp at hl; exact ⟨t,by rw [hl]⟩
 obtain ⟨t,ht⟩:=this
 rw [ht]
 exact ⟨_,rfl⟩
theorem b2P {gs:List (Nat×Nat)} (hp:a2C keep gs S=some S') {g j g' j':Nat} (hn:a8S gs g j=some (g',j')) (hD:S.D g):S'.D g'∧a5M ι gs g' j'=ι g j:=by
 unfold a8S at hn
 split at hn
 ·rename_i i hi
  injection hn with hn
  injection hn with h1 h2
  subst h1; subst h2
  unfold a2C at hp
  split at hp<;>try (cases hp; done)
  injection hp with hp
  subst hp
  obtain ⟨h3,h4⟩:=c86 hi
  obtain ⟨m,rfl⟩ : ∃ m,i=m+1:=⟨i - 1,by omega⟩
  simp only [Nat.add_sub_cancel] at h4
  refine ⟨⟨_,(List.getElem?_cons_succ).trans (c5w h4)⟩,?_⟩
  simp [a5M,h4]
 ·split at hn<;>try (cases hn; done)
  injection hn with hn
  injection hn with h1 h2
  subst h1; subst h2
  exact ⟨d07 hp hD,rfl⟩
theorem c8t : ∀ {l:List (Nat×Nat)} {x:Nat×Nat} {i:Nat},a8A l x i=none→x ∉ l
 | [],x,i,_=>by simp
 | y::l,x,i,h=>by
  unfold a8A at h
  split at h
  ·cases h
  ·rename_i q
   intro hx
   rcases List.mem_cons.1 hx with rfl | hx
   ·simp at q
   ·exact c8t h hx
theorem c9d {gs:List (Nat×Nat)} : ∀ {l:List s6} {i j:Nat} {e:s6},(b0Q gs i l)[j]?=some e→e = .dead ∨ ∃ e0,l[j]?=some e0∧e=a8C gs e0∧(0,i+j) ∉ gs
 | [],i,j,e,h=>by simp [b0Q] at h
 | e1::l,i,0,e,h=>by
  simp only [b0Q,List.getElem?_cons_zero] at h
  injection h with h
  split at h
  ·exact .inl h.symm
  ·rename_i hq
   exact .inr ⟨e1,rfl,h.symm,by simpa using c8t hq⟩
 | e1::l,i,j+1,e,h=>by
  simp only [b0Q,List.getElem?_cons_succ] at h
  rcases c9d h with h1 | ⟨e0,h1,h2,h3⟩
  ·exact .inl h1
  ·exact .inr ⟨e0,by simpa using h1,h2,by rw [show i+(j+1)=i+1+j by omega]; exact h3⟩
theorem RC.ren {gs:List (Nat×Nat)} (hp:a2C keep gs S=some S') {v:V} {c:Value} (h:RC w F S.D ι v c):RC w F S'.D (a5M ι gs) (a0L gs v) c:=by
 cases h with
 | fv v c h =>
  have:a0L gs v=v:=by cases h<;>rfl
  rw [this]
  exact .fv _ _ h
 | own g j sz lo n b nn cap hD hι hlo hb0 hb1 =>
  unfold a0L
  simp only
  split
  ·rename_i g' j' hn
   obtain ⟨h1,h2⟩:=b2P (ι:=ι) hp hn hD
   exact .own g' j' sz lo n b nn cap h1 (h2.trans hι) hlo hb0 hb1
  ·exact .fv _ _ (.bot _ rfl)
 | own0 g j sz lo b cap hD hlo =>
  unfold a0L
  simp only
  split
  ·rename_i g' j' hn
   obtain ⟨h1,h2⟩:=b2P (ι:=ι) hp hn hD
   exact .own0 g' j' sz lo b cap h1 hlo
  ·exact .fv _ _ (.bot _ rfl)
 | ptr g j off C3 hD hι =>
  unfold a0L
  simp only
  split
  ·rename_i g' j' hn
   obtain ⟨h1,h2⟩:=b2P (ι:=ι) hp hn hD
   exact .ptr g' j' off C3 h1 (h2.trans hι)
  ·exact .fv _ _ (.bot _ rfl)
 | eptr g j sz idx off b hD hι =>
  unfold a0L
  simp only
  split
  ·rename_i g' j' hn
   obtain ⟨h1,h2⟩:=b2P (ι:=ι) hp hn hD
   exact .eptr g' j' sz idx off b h1 (by rw [h2]; exact hι)
  ·exact .fv _ _ (.bot _ rfl)
 | fptr cs g o ds hF h hs=>exact .fv _ _ (.bot _ rfl)
 | mp g j C3 hD hι =>
  unfold a0L
  simp only
  split
  ·rename_i g' j' hn
   obtain ⟨h1,h2⟩:=b2P (ι:=ι) hp hn hD
   exact .mp g' j' C3 h1 (h2.trans hι)
  ·exact .fv _ _ (.bot _ rfl)
theorem v6.maps {α α' β:Type} {R:α→β→Prop} {R':α'→β→Prop} (f:α→α') (hf : ∀ x y,R x y→R' (f x) y) : ∀ {C2 bs},v6 R C2 bs→v6 R' (C2.map f) bs
 | _,_,.nil=>.nil
 | _,_,.cons h t=>.cons (hf _ _ h) (t.maps f hf)
theorem RA.ren {gs:List (Nat×Nat)} (hp:a2C keep gs S=some S') {v:V} {c:Value} (h:RA w F S.D ι v c):RA w F S'.D (a5M ι gs) (b3A gs v) c:=by
 cases h with
 | cell v c h =>
  have:b3A gs v=a0L gs v:=by
   cases h with
   | fv v c h=>cases h<;>rfl
   | _=>rfl
  rw [this]
  exact .cell _ _ (h.ren hp)
 | agg cs ds h=>exact .agg _ _ (h.maps _ fun _ _ x=>x.ren hp)
theorem RV.ren {gs:List (Nat×Nat)} (hp:a2C keep gs S=some S') {v:V} {c:Value} (h:RV w F S.D ι v c):RV w F S'.D (a5M ι gs) (c5i gs v) c:=by
 cases h with
 | one v c h =>
  have:c5i gs v=b3A gs v:=by
   cases h with
   | cell v c h =>
    cases h with
    | fv v c h=>cases h<;>rfl
    | _=>rfl
   | agg cs ds h=>rfl
  rw [this]
  exact .one _ _ (h.ren hp)
 | tup cs ds h=>exact .tup _ _ (h.maps _ fun _ _ x=>x.ren hp)
 | any c=>exact .any c
theorem b8c {gs:List (Nat×Nat)} (hp:a2C keep gs S=some S') : ∀ {vs:List V} {cs:List Value},v6 (RV w F S.D ι) vs cs → ∀ (i:Nat) (ks:List Nat),v6 (RV w F S'.D (a5M ι gs)) (a8P gs i ks vs) cs
 | _,_,.nil,i,ks=>by cases ks<;>exact .nil
 | _,_,.cons h t,i,[]=>.cons (.any _) (b8c hp t _ _)
 | _,_,.cons h t,i,k::ks=>by
  unfold a8P
  split
  ·exact .cons (h.ren hp) (b8c hp t _ _)
  ·exact .cons (.any _) (b8c hp t _ _)
theorem b5z {gs:List (Nat×Nat)} (hp:a2C keep gs S=some S') {g j:Nat} {e:s6} (he:S'.ent g j=some e):e = .dead ∨ ∃ g0 j0 e0,S.ent g0 j0=some e0∧e=a8C gs e0∧a5M ι gs g j=ι g0 j0∧((g=0∧g0=0∧j=j0∧(0,j) ∉ gs)∨(∃ i,g=i+1∧j=0∧gs[i]?=some (g0,j0))):=by
 unfold a2C at hp
 split at hp<;>try (cases hp; done)
 injection hp with hp
 subst hp
 cases g with
 | zero =>
  unfold St.ent at he
  simp only [List.getElem?_cons_zero] at he
  split at he<;>try (cases he; done)
  rename_i l hl
  injection hl with hl
  split at hl<;>try (cases hl; done)
  rename_i l0 t hh
  injection hl with hl
  subst hl
  rcases c9d he with h1 | ⟨e0,h1,h2,h3⟩
  ·exact .inl h1
  ·exact .inr ⟨0,j,e0,by unfold St.ent; rw [hh]; exact h1,h2,rfl,.inl ⟨rfl,rfl,rfl,by simpa using h3⟩⟩
 | succ i =>
  unfold St.ent at he
  simp only [List.getElem?_cons_succ] at he
  split at he<;>try (cases he; done)
  rename_i l hl
  have hlt:i<gs.length:=by
   have:=(List.getElem?_eq_some_iff.1 hl).1
   rwa [c71] at this
  have hgi:gs[i]?=some gs[i]:=List.getElem?_eq_getElem hlt
  generalize gs[i]=id at hgi
  rw [c5w hgi] at hl
  injection hl with hl
  injection hl with hl
  subst hl
  cases j with
  | succ j=>simp at he
  | zero =>
   simp only [List.getElem?_cons_zero] at he
   injection he with he
   cases hx:S.ent id.1 id.2 with
   | none=>rw [hx] at he; exact .inl he.symm
   | some e0 =>
    rw [hx] at he
    exact .inr ⟨id.1,id.2,e0,hx,he.symm,by simp [a5M,hgi],.inr ⟨i,rfl,rfl,hgi⟩⟩
theorem d7T {α:Type} {l:List α} (h:l.Nodup) {i j:Nat} {x:α} (hi:l[i]?=some x) (hj:l[j]?=some x):i=j:=by
 obtain ⟨h1,h2⟩:=List.getElem?_eq_some_iff.1 hi
 obtain ⟨h3,h4⟩:=List.getElem?_eq_some_iff.1 hj
 exact (List.getElem_inj h).1 (h2.trans h4.symm)
theorem e2O {gs:List (Nat×Nat)} (h:t0 Γ F ι S a w) (hp:a2C keep gs S=some S') : ∃ ι',t0 Γ F ι' S' a w:=by
  have hnd:gs.Nodup:=by
    unfold a2C at hp
    split at hp<;>try (cases hp; done)
    rename_i hchk
    exact a5n hchk
  have hlive : ∀ e:s6,(a8C gs e).live=true→e.live=true ∧ ∀ c k,EB w (a8C gs e) c k→EB w e c k:=by
    intro e he
    cases e with
    | deep o e sz n rows =>
      cases o with
      | true=>cases he
      | false=>exact ⟨rfl,fun _ _ hk=>hk⟩
    | _=>exact ⟨he,fun _ _ hk=>hk⟩
  have ht:S'.t=a8P gs 0 keep S.t:=by
    unfold a2C at hp
    split at hp<;>try (cases hp; done)
    injection hp with hp
    subst hp
    rfl
  refine ⟨a5M ι gs,?_⟩
  exact
    { F0:=h.F0,F1:=h.F1,F2:=h.F2,kept:=h.kept
      tmps:=by rw [ht]; exact b8c hp h.tmps 0 keep
      ents:=fun g j e he=>by
        rcases b5z (ι:=ι) hp he with rfl | ⟨g0,j0,e0,h0,rfl,h2,_⟩
        · trivial
        · rw [h2]
          have hr:=h.ents _ _ _ h0
          cases e0 with
          | var e cs =>
            obtain ⟨g1,cur,q1,q2,q3⟩:=hr
            exact ⟨g1,cur,q1,q2,q3.maps _ fun _ _ x=>x.ren hp⟩
          | dead=>exact hr
          | arr e sz n rows=>exact hr
          | row e sz n rows=>exact hr
          | frz sz n rows=>exact hr
          | map t m es=>exact hr
          | deep o e sz n rows =>
            cases o with
            | true=>trivial
            | false =>
              obtain ⟨flat,fs,q1,q2,q3,q4,q5,q6⟩:=hr
              exact ⟨flat,fs,q1,(q2.blOf (q6 rfl).flat).kl,q3,q4,q5,q6⟩
      sep:=fun g j e k he hl hk=>by
        rcases b5z (ι:=ι) hp he with rfl | ⟨g0,j0,e0,h0,rfl,h2,_⟩
        · cases hl
        · rw [h2] at hk
          exact h.sep _ _ _ k h0 (hlive _ hl).1 ((hlive _ hl).2 _ _ hk)
      inj:=fun g1 j1 e1 g2 j2 e2 k he1 he2 hl1 hl2 hk1 hk2=>by
        rcases b5z (ι:=ι) hp he1 with rfl | ⟨x1,y1,z1,a1,rfl,b1,c1⟩
        · cases hl1
        rcases b5z (ι:=ι) hp he2 with rfl | ⟨x2,y2,z2,a2,rfl,b2,c2⟩
        · cases hl2
        rw [b1] at hk1
        rw [b2] at hk2
        obtain ⟨q1,q2⟩:=h.inj _ _ _ _ _ _ k a1 a2 (hlive _ hl1).1 (hlive _ hl2).1 ((hlive _ hl1).2 _ _ hk1) ((hlive _ hl2).2 _ _ hk2)
        rcases c1 with ⟨u1,u2,u3,u4⟩ | ⟨i1,u1,u2,u3⟩<;>rcases c2 with ⟨v1,v2,v3,v4⟩ | ⟨i2,v1,v2,v3⟩
        · exact ⟨by omega,by omega⟩
        · refine absurd (List.mem_of_getElem? v3) ?_
          rw [← q1,← q2,u2,← u3]
          exact u4
        · refine absurd (List.mem_of_getElem? u3) ?_
          rw [q1,q2,v2,← v3]
          exact v4
        · rw [q1,q2] at u3
          have:=d7T hnd u3 v3
          exact ⟨by omega,by omega⟩
      defers:=h.defers
      pins:=fun j c hc=>by
        obtain ⟨h1,h2⟩:=h.pins j c hc
        exact ⟨d07 hp h1,h2⟩ }
end
def b3N (cx:Cx) (k:List Item) (S:St) (sc:a1s) (fs:List Fix) (keep:List Nat) (gs:List (Nat×Nat)):Option (List Item×St×List Prop) :=
 match goM cx 4000 k S sc with
 | some (k1,S1,ps)=>match b4j fs S1 with
  | some (S2,qs)=>match a2C keep gs S2 with
   | some S3=>some (k1,S3,ps++qs)
   | none=>none
  | none=>none
 | none=>none
theorem j6.seg0 {cx:Cx} {X:Sig} {res:V} {outs:List (Option V)} {k k':List Item} {S S':St} {sc:a1s} {fs:List Fix} {keep:List Nat} {gs:List (Nat×Nat)} {ps:List Prop} (hg:b3N cx k S sc fs keep gs=some (k',S',ps)) (hob : ∀ p∈ps,p) (h:j6 cx X res outs k' S'):j6 cx X res outs k S:=by
 unfold b3N at hg
 split at hg<;>try (cases hg; done)
 rename_i k1 S1 ps' h1
 split at hg<;>try (cases hg; done)
 rename_i S2 qs h2
 split at hg<;>try (cases hg; done)
 rename_i S3 h3
 injection hg with hg
 injection hg with e1 e2
 injection e2 with e2 e3
 subst e1; subst e2; subst e3
 refine j6.go h1 (fun p hp=>hob p (List.mem_append.2 (.inl hp))) ?_
 intro w0 F0 fp cargs bs hp hF0 F ι a w b cs hrel hb1 hb2
 obtain ⟨F',ι',hrel'⟩:=e56 fs hrel h2 (fun p hp=>hob p (List.mem_append.2 (.inr hp)))
 obtain ⟨ι2,hrel2⟩:=e2O hrel' h3
 exact h w0 F0 fp cargs bs hp hF0 F' ι2 a w b cs hrel2 hb1 hb2
def b3T (cx:Cx) (X:Sig) (k:List Item) (S:St) (sc:a1s):Option (V×List (Option V)×List Prop) :=
 match goM cx 4000 k S sc with
 | some (k1,S1,ps)=>match c31 cx X k1 S1 with
  | some (res,outs,qs)=>some (res,outs,ps++qs)
  | none=>none
 | none=>none
theorem j6.fin0 {cx:Cx} {X:Sig} {res:V} {outs:List (Option V)} {k:List Item} {S:St} {sc:a1s} {ps:List Prop} (hf:cx.P.funcs[X.f]?=some X.fn) (hg:b3T cx X k S sc=some (res,outs,ps)) (hob : ∀ p∈ps,p):j6 cx X res outs k S:=by
 unfold b3T at hg
 split at hg<;>try (cases hg; done)
 rename_i k1 S1 ps' h1
 split at hg<;>try (cases hg; done)
 rename_i r o qs h2
 injection hg with hg
 injection hg with e1 e2
 injection e2 with e2 e3
 subst e1; subst e2; subst e3
 exact j6.go h1 (fun p hp=>hob p (List.mem_append.2 (.inl hp))) (j6.ret hf h2 fun p hp=>hob p (List.mem_append.2 (.inr hp)))
def V1:List Prop→Prop
 | []=>True
 | p::ps=>p∧V1 ps
theorem V1.mem : ∀ {ps:List Prop},V1 ps → ∀ p∈ps,p
 | _::_,h,p,hp=>by
  rcases List.mem_cons.1 hp with rfl | hp
  ·exact h.1
  ·exact V1.mem h.2 p hp
theorem V1.nil:V1 []:=trivial
theorem j6.seg {cx:Cx} {X:Sig} {res:V} {outs:List (Option V)} {k k':List Item} {S S':St} (sc:a1s) (fs:List Fix) (keep:List Nat) (gs:List (Nat×Nat)) (ps:List Prop) (hob:V1 ps) (h:j6 cx X res outs k' S') (hg:b3N cx k S sc fs keep gs=some (k',S',ps)):j6 cx X res outs k S :=
 j6.seg0 hg hob.mem h
theorem j6.fin {cx:Cx} {X:Sig} {res:V} {outs:List (Option V)} {k:List Item} {S:St} (hf:cx.P.funcs[X.f]?=some X.fn) (sc:a1s) (ps:List Prop) (hob:V1 ps) (hg:b3T cx X k S sc=some (res,outs,ps)):j6 cx X res outs k S :=
 j6.fin0 hf hg hob.mem
def a7o:V→Bool
 | .osl .. | .dsl .. | .optr .. => true
 | _=>false
def a2J:List (Option Nat)→List V→Bool
 | [],[]=>true
 | none::om,.osl .. :: _=>false
 | none::om,.dsl .. :: _=>false
 | none::om,_::vs=>a2J om vs
 | some _::om,.osl .. :: vs=>a2J om vs
 | some _::om,.dsl .. :: vs=>a2J om vs
 | _,_=>false
def d0g:PM→V→Bool
 | .val _ om,.agg vs=>a2J om vs
 | .val ..,_=>false
 | .part,_=>false
 | _,v=>a7o v
def a4L:Nat→List (Option (Nat×PM))→List V→Bool
 | _,[],[]=>true
 | j,none::os,v::vs=>a4L (j+(M3 0 j v).2.length) os vs
 | j,some (j',m)::os,v::vs=>Nat.beq j' j&&d0g m v&&a4L (j+(M3 0 j v).2.length) os vs
 | _,_,_=>false
def b7A:Nat→List V
 | 0=>[]
 | n+1=>.bot::b7A n
def a9m (X:Sig) (args:List V):St :=
 let x:=a0Z 0 0 args
 { t:=x.1++b7A (X.fn.ntmps - args.length),h:=[some x.2] }
section
variable {w:World} {F:Nat→Prop}
theorem d9O {v:V} {c:Value} {f:List Nat} (h:BA w F v c f) (j:Nat) : ∃ bs:List Value,bs.length=(M3 0 j v).2.length∧J3 w (M3 0 j v).2 bs f∧(a7o v=true→bs.head?=some c) ∧
  ∀ (D:Nat→Prop) (ι:Nat→Nat→Value),D 0→At ι 0 j bs→f.Nodup→RA w F D ι (M3 0 j v).1 c∧Lie w F D ι (M3 0 j v).2 bs:=by
 by_cases ho:a7o v=true
 ·cases h with
  | cell v c f h =>
   cases h with
   | fv v c h=>cases h<;>cases ho
   | osl e sz n rows c h =>
    refine ⟨[c],rfl,.one fun k hk=>X1.2 hk,fun _=>rfl,fun D ι hD hat _=>⟨.cell _ _ (RC.whole hD (hat 0 c rfl) h),?_⟩⟩
    intro k e' b he hb
    cases k with
    | zero =>
     simp [M3,L8] at he hb
     subst he; subst hb
     exact h
    | succ k=>simp [M3,L8] at he
   | dsl e sz n rows c flat fs h1 h2 h3 h4 =>
    obtain ⟨bs,q1,q2,q3⟩:=b66 (grp:=0) (BC.dsl e sz n rows c flat fs h1 h2 h3 h4) j
    refine ⟨[c],rfl,.one fun k hk=>(EB.deep_iff (D:=fun _=>True) (ι:=fun _ _=>.nilFunc) h1 h2.kl).1 hk,fun _=>rfl,fun D ι hD hat hnd=>⟨.cell _ _ (RC.wholeO hD (hat 0 c rfl) h1),?_⟩⟩
    intro k e' b he hb
    cases k with
    | zero =>
     simp [M3,L8] at he hb
     subst he; subst hb
     exact ⟨flat,fs,h1,h2.kl,h3,h4,hnd,fun _=>K0.of_flat h2.noRef⟩
    | succ k=>simp [M3,L8] at he
  | agg cs ds f h=>cases ho
  | optr e cs g cur f hg h =>
   obtain ⟨bs,h1,h2,h3⟩:=a7L (grp:=0) h (j+1)
   refine ⟨.pointer (some ⟨g,0,none⟩)::bs,by simp [M3,h1],?_,fun _=>rfl,fun D ι hD hat hnd => ?_⟩
   ·exact J3.cons (w:=w) (e:=.var e (N4 0 (j+1) cs).1) (b:=.pointer (some ⟨g,0,none⟩)) (f1:=[g]) (fun k hk=>by
     have hk:C3 (.pointer (some ⟨g,0,none⟩))=some k:=hk
     simp [C3] at hk
     simp [hk]) h2
   have hat':At ι 0 (j+1) bs:=fun k b hb=>by
    have:=hat (k+1) b (by simpa using hb)
    rw [← this]; congr 1; omega
   obtain ⟨x,y⟩:=h3 D ι hD hat' (List.nodup_cons.1 hnd).2
   refine ⟨.cell _ _ (.ptr 0 j 0 g hD (hat 0 _ rfl)),?_⟩
   intro k e' b he hb
   cases k with
   | zero =>
    simp [M3] at he hb
    subst he; subst hb
    exact ⟨g,cur,rfl,hg,x⟩
   | succ k=>exact y k e' b (by simpa [M3] using he) (by simpa using hb)
 ·obtain ⟨bs,h1,h2,h3⟩:=c2z (grp:=0) h j
  exact ⟨bs,h1,h2,fun q=>absurd q ho,h3⟩
theorem b94 {pre b1 b2:List Value} : ∀ {om:List (Option Nat)} {j:Nat} {ds:List Value},a55 (pre++b1) om j ds→a55 (pre++(b1++b2)) om j ds
 | [],_,[],_=>trivial
 | none::om,j,d::ds,h=>⟨h.1,b94 h.2⟩
 | some _::om,j,d::ds,h=>by
  refine ⟨?_,b94 h.2⟩
  have h1:=h.1
  rw [← List.append_assoc,List.getElem?_append_left (List.getElem?_eq_some_iff.1 h1).1]
  exact h1
 | [],_,_::_,h=>h.elim
 | none::_,_,[],h=>h.elim
 | some _::_,_,[],h=>h.elim
theorem d0W : ∀ {vs:List V} {cs:List Value} {f:List Nat},BL w F vs cs f → ∀ j,∃ bs:List Value,bs.length=(N4 0 j vs).2.length∧J3 w (N4 0 j vs).2 bs f ∧
    (∀ (om:List (Option Nat)) (pre:List Value),pre.length=j→a2J om vs=true→a55 (pre++bs) om j cs) ∧
    ∀ (D:Nat→Prop) (ι:Nat→Nat→Value),D 0→At ι 0 j bs→f.Nodup→v6 (RC w F D ι) (N4 0 j vs).1 cs∧Lie w F D ι (N4 0 j vs).2 bs
  | _,_,_,.nil,j=>⟨[],rfl,.nil,fun om pre _ h=>by cases om with | nil=>trivial | cons o om=>cases o<;>simp [a2J] at h,fun D ι hD hat _=>⟨.nil,fun k e b he=>by simp [N4] at he⟩⟩
  | _,_,_,.cons v c f vs cs fs h t,j=>by
    have hone:=h.one
    have hb : ∃ b1:List Value,b1.length=(L8 0 j v).2.length∧J3 w (L8 0 j v).2 b1 f∧(a7o v=true→b1=[c])∧(a7o v=false→b1=[]) ∧ ∀ (D:Nat→Prop) (ι:Nat→Nat→Value),D 0→At ι 0 j b1→f.Nodup→RC w F D ι (L8 0 j v).1 c∧Lie w F D ι (L8 0 j v).2 b1:=by
      cases h with
      | fv v c h =>
        obtain ⟨b1,q1,q2,q3⟩:=b66 (grp:=0) (BC.fv (w:=w) v c h) j
        have hv:(L8 0 j v).2=[]∧a7o v=false:=by cases h<;>exact ⟨rfl,rfl⟩
        have:b1=[]:=List.eq_nil_of_length_eq_zero (by rw [q1,hv.1]; rfl)
        exact ⟨b1,q1,q2,fun q=>by (rw [hv.2] at q; cases q),fun _=>this,q3⟩
      | osl e sz n rows c h =>
        refine ⟨[c],rfl,.one fun k hk=>X1.2 hk,fun _=>rfl,(fun q=>by cases q),fun D ι hD hat _=>⟨RC.whole hD (hat 0 c rfl) h,?_⟩⟩
        intro k e' b he hb
        cases k with
        | zero =>
          simp [L8] at he hb
          subst he; subst hb
          exact h
        | succ k=>simp [L8] at he
      | dsl e sz n rows c flat fs h1 h2 h3 h4 =>
        refine ⟨[c],rfl,.one fun k hk=>(EB.deep_iff (D:=fun _=>True) (ι:=fun _ _=>.nilFunc) h1 h2.kl).1 hk,fun _=>rfl,(fun q=>by cases q),fun D ι hD hat hnd=>⟨RC.wholeO hD (hat 0 c rfl) h1,?_⟩⟩
        intro k e' b he hb
        cases k with
        | zero =>
          simp [L8] at he hb
          subst he; subst hb
          exact ⟨flat,fs,h1,h2.kl,h3,h4,hnd,fun _=>K0.of_flat h2.noRef⟩
        | succ k=>simp [L8] at he
    obtain ⟨b1,hl1,hf1,hi1,hi0,h1⟩:=hb
    obtain ⟨b2,hl2,hf2,hp2,h2⟩:=d0W t (j+(L8 0 j v).2.length)
    refine ⟨b1++b2,by simp [N4,hl1,hl2],hf1.append hf2 hl1,?_,fun D ι hD hat hnd => ?_⟩
    · intro om pre hpre hok
      have hnext : ∀ om,a2J om vs=true→a55 (pre++(b1++b2)) om (j+(L8 0 j v).2.length) cs:=by
        intro om hok
        have:=hp2 om (pre++b1) (by simp [hpre,hl1]) hok
        rwa [List.append_assoc] at this
      cases om with
      | nil=>simp [a2J] at hok
      | cons o om =>
        by_cases hv:a7o v=true
        · obtain rfl:=hi1 hv
          have hlen:(L8 0 j v).2.length=1:=by rw [← hl1]; rfl
          rw [hlen] at hnext
          cases o with
          | none => cases v<;>first | (cases hv; done) | (simp [a2J] at hok; done) | skip
                    cases h; rename_i h; cases h
          | some e =>
            refine ⟨?_,hnext om ?_⟩
            · rw [List.getElem?_append_right (by omega)]; simp [hpre]
            · cases v<;>first | (cases hv; done) | (simpa [a2J] using hok) | (simp [a2J] at hok; done)
        · have hv:a7o v=false:=by simpa using hv
          obtain rfl:=hi0 hv
          have hlen:(L8 0 j v).2.length=0:=by rw [← hl1]; rfl
          rw [hlen] at hnext
          cases o with
          | none =>
            refine ⟨hone,hnext om ?_⟩
            cases v<;>first | (cases hv; done) | (simpa [a2J] using hok)
          | some e=>cases v<;>first | (cases hv; done) | (simp [a2J] at hok; done)
    · rw [List.nodup_append] at hnd
      obtain ⟨x1,y1⟩:=h1 D ι hD hat.left hnd.1
      obtain ⟨x2,y2⟩:=h2 D ι hD (by rw [← hl1]; exact hat.right) hnd.2.1
      exact ⟨.cons x1 x2,y1.append y2 hl1.symm⟩
theorem e7Y {v:V} {c:Value} {f:List Nat} (h:BA w F v c f) (j:Nat) : ∃ bs:List Value,bs.length=(M3 0 j v).2.length∧J3 w (M3 0 j v).2 bs f ∧
  (∀ (m:PM) (oms:List (Option (Nat×PM))) (cs pre b2:List Value),pre.length=j→d0g m v=true→a25 oms cs (pre++(bs++b2))→a25 (some (j,m)::oms) (c::cs) (pre++(bs++b2))) ∧
  ∀ (D:Nat→Prop) (ι:Nat→Nat→Value),D 0→At ι 0 j bs→f.Nodup→RA w F D ι (M3 0 j v).1 c∧Lie w F D ι (M3 0 j v).2 bs:=by
 by_cases hv : ∃ cs,v = .agg cs
 ·obtain ⟨cs,rfl⟩:=hv
  cases h with
  | cell v c f h=>cases h with | fv v c h=>cases h
  | agg cs ds f h =>
   obtain ⟨bs,h1,h2,hp,h3⟩:=d0W h j
   refine ⟨bs,h1,h2,?_,fun D ι hD hat hnd=>⟨.agg _ _ (h3 D ι hD hat hnd).1,(h3 D ι hD hat hnd).2⟩⟩
   intro m oms cs' pre b2 hpre hm t
   cases m with
   | val ck om=>exact .agg _ _ _ _ _ _ _ (b94 (hp om pre hpre hm)) t
   | ptr ck om=>cases hm
   | row=>cases hm
   | part=>cases hm
 ·obtain ⟨bs,h1,h2,hh,h3⟩:=d9O h j
  refine ⟨bs,h1,h2,?_,h3⟩
  intro m oms cs' pre b2 hpre hm t
  cases m with
  | val ck om=>cases v<;>first | exact absurd ⟨_,rfl⟩ hv | cases hm
  | part=>cases hm
  | ptr ck om =>
   refine .pin _ _ _ _ _ _ rfl ?_ t
   have:=hh hm
   cases bs with
   | nil=>cases this
   | cons b b1 =>
    injection this with this
    subst this
    rw [List.getElem?_append_right (by omega)]
    simp [hpre]
  | row =>
   refine .pin _ _ _ _ _ _ rfl ?_ t
   have:=hh hm
   cases bs with
   | nil=>cases this
   | cons b b1 =>
    injection this with this
    subst this
    rw [List.getElem?_append_right (by omega)]
    simp [hpre]
theorem d6C {vs:List V} {cs:List Value} {f:List Nat} (h:BS w F vs cs f) : ∀ j,∃ bs:List Value,bs.length=(a0Z 0 j vs).2.length∧J3 w (a0Z 0 j vs).2 bs f ∧
  (∀ (oms:List (Option (Nat×PM))) (pre:List Value),pre.length=j→a4L j oms vs=true→a25 oms cs (pre++bs)) ∧
  ∀ (D:Nat→Prop) (ι:Nat→Nat→Value),D 0→At ι 0 j bs→f.Nodup→v6 (RA w F D ι) (a0Z 0 j vs).1 cs∧Lie w F D ι (a0Z 0 j vs).2 bs:=by
 induction h with
 | nil =>
  refine fun j=>⟨[],rfl,.nil,fun oms pre _ hp => ?_,fun D ι hD hat _=>⟨.nil,fun k e b he=>by simp [a0Z] at he⟩⟩
  cases oms with
  | nil=>exact .nil _
  | cons o oms=>cases o<;>simp [a4L] at hp
 | cons v c f vs cs fs h t ih =>
  intro j
  obtain ⟨b1,hl1,hf1,hh1,h1⟩:=e7Y h j
  obtain ⟨b2,hl2,hf2,hp2,h2⟩:=ih (j+(M3 0 j v).2.length)
  refine ⟨b1++b2,by simp [a0Z,hl1,hl2],hf1.append hf2 hl1,?_,fun D ι hD hat hnd => ?_⟩
  ·intro oms pre hpre hp
   cases oms with
   | nil=>simp [a4L] at hp
   | cons o oms =>
    have hnext : ∀ oms,a4L (j+(M3 0 j v).2.length) oms vs=true→a25 oms cs (pre++(b1++b2)):=by
     intro oms hp
     have:=hp2 oms (pre++b1) (by simp [hpre,hl1]) hp
     rwa [List.append_assoc] at this
    cases o with
    | none=>exact .skip _ _ _ _ (hnext oms (by simpa [a4L] using hp))
    | some q =>
     obtain ⟨j',m⟩:=q
     simp only [a4L,Bool.and_eq_true] at hp
     obtain ⟨⟨e1,e2⟩,e3⟩:=hp
     have hj:j'=j:=Nat.eq_of_beq_eq_true e1
     subst hj
     exact hh1 m oms cs pre b2 hpre e2 (hnext oms e3)
  ·rw [List.nodup_append] at hnd
   obtain ⟨x1,y1⟩:=h1 D ι hD hat.left hnd.1
   obtain ⟨x2,y2⟩:=h2 D ι hD (by rw [← hl1]; exact hat.right) hnd.2.1
   exact ⟨.cons x1 x2,y1.append y2 hl1.symm⟩
theorem c9B {D:Nat→Prop} {ι:Nat→Nat→Value} : ∀ n,v6 (RV w F D ι) (b7A n) (List.replicate n undef)
 | 0=>.nil
 | n+1=>.cons (.any _) (c9B n)
theorem BS.len {vs:List V} {cs:List Value} {f:List Nat} (h:BS w F vs cs f):vs.length=cs.length:=by
 induction h with
 | nil=>rfl
 | cons _ _ _ _ _ _ _ _ ih=>simp [ih]
end
theorem o7.of {cx:Cx} {X:Sig} {args:List V} {res:V} {outs:List (Option V)} {c:Code} (hf:cx.P.funcs[X.f]?=some X.fn) (hb:X.fn.body=some c) (hn:(X.fn.name == "runtime.NumGoroutine")=false) (ho:a4L 0 X.oms args=true)
    (h:j6 cx X res outs [.code c] (a9m X args)):o7 cx.P X.f args res outs:=by
  refine ⟨⟨X.fn,hf,hn,by rw [hb]; rfl⟩,?_⟩
  intro w F cargs fp hbs hfpn hfp hF
  obtain ⟨bs,hl,hbf,hpin,hlie⟩:=d6C hbs 0
  have hpin':=hpin X.oms [] rfl ho
  rw [List.nil_append] at hpin'
  obtain ⟨hargs,hents⟩:=hlie (a9m X args).D (a48 (fun _ _=>.nilFunc) 0 bs) ⟨_,rfl⟩ (fun k b hb=>by rw [Nat.zero_add]; exact a5S hb) hfpn
  have hent : ∀ g j e,(a9m X args).ent g j=some e→g=0∧(a0Z 0 0 args).2[j]?=some e:=by
    intro g j e he
    unfold St.ent a9m at he
    cases g with
    | zero=>exact ⟨rfl,he⟩
    | succ g=>simp at he
  have hget : ∀ j e,(a0Z 0 0 args).2[j]?=some e → ∃ b,bs[j]?=some b∧a48 (fun _ _=>.nilFunc) 0 bs 0 j=b:=by
    intro j e he
    have hj:j<bs.length:=by rw [hl]; exact (List.getElem?_eq_some_iff.1 he).1
    exact ⟨bs[j],List.getElem?_eq_getElem hj,a5S (List.getElem?_eq_getElem hj)⟩
  have hrel:t0 ⟨w,F,(· ∈ fp),bs⟩ F (a48 (fun _ _=>.nilFunc) 0 bs) (a9m X args) { tmps:=cargs.toArray++Array.replicate (X.fn.ntmps - cargs.toArray.size) undef,defers:=[] } w :=
    { F0:=fun _ x=>x,F1:=hF,F2:=fun _ x=>.inl x,kept:=.refl _ _
      tmps:=by
        show v6 _ ((a0Z 0 0 args).1++b7A (X.fn.ntmps - args.length)) _
        simp only [Array.toList_append,Array.toList_replicate,List.size_toArray]
        rw [hbs.len]
        exact (hargs.imp fun _ _ x=>RV.one _ _ x).app (c9B _)
      ents:=fun g j e he=>by
        obtain ⟨rfl,he⟩:=hent g j e he
        obtain ⟨b,hb,hv⟩:=hget j e he
        rw [hv]
        exact hents j e b he hb
      sep:=fun g j e k he hl' hk=>by
        obtain ⟨rfl,he⟩:=hent g j e he
        obtain ⟨b,hb,hv⟩:=hget j e he
        rw [hv] at hk
        have:=hbf.mem he hb hk
        exact ⟨(hfp k this).1,.inl this⟩
      inj:=fun g j e g' j' e' k he he' hl1 hl2 hk hk'=>by
        obtain ⟨rfl,he⟩:=hent g j e he
        obtain ⟨rfl,he'⟩:=hent g' j' e' he'
        obtain ⟨b,hb,hv⟩:=hget j e he
        obtain ⟨b',hb',hv'⟩:=hget j' e' he'
        rw [hv] at hk
        rw [hv'] at hk'
        exact ⟨rfl,hbf.inj hfpn he hb hk he' hb' hk'⟩
      defers:=rfl
      pins:=fun j c hc=>⟨⟨_,rfl⟩,a5S hc⟩ }
  intro cs
  let b:Frame:={ (default:Frame) with fn:=X.f,kind:=.normal }
  have henter:Frame.enter cx.P X.f cargs.toArray .normal =
      b.at { tmps:=cargs.toArray++Array.replicate (X.fn.ntmps - cargs.toArray.size) undef,defers:=[] } [.code c]:=by
    simp [Frame.enter,Frame.at,hf,hb,b]
  obtain ⟨e,w',fr,h1,h2,h3,h4⟩:=h w F fp cargs bs hpin' hF F _ _ w b cs hrel rfl rfl
  rw [← henter] at h2
  exact ⟨e,w',fr,h1,h2,h3,h4⟩
inductive j5 (R S B:Type) where
 | ret (r:R)
 | brk (b:B)
 | nxt (s:S)
inductive j9 (R B:Type) where
 | ret (r:R)
 | brk (b:B)
def a1P {R S B:Type} (body:S→Option (j5 R S B)):Nat→S→Option (j9 R B)
 | 0,_=>none
 | n+1,s=>match body s with
  | some (.ret r)=>some (.ret r)
  | some (.brk s)=>some (.brk s)
  | some (.nxt s)=>a1P body n s
  | none=>none
open Classical in
noncomputable def q7 {R S B:Type} (body:S→Option (j5 R S B)) (s:S):Option (j9 R B) :=
 if h : ∃ n r,a1P body n s=some r then some h.choose_spec.choose else none
theorem b9F {R S B:Type} {body:S→Option (j5 R S B)} : ∀ {n:Nat} {s:S} {r:j9 R B},a1P body n s=some r → ∀ m,n≤m→a1P body m s=some r
 | 0,s,r,h,_,_=>by cases h
 | n+1,s,r,h,0,hm=>by omega
 | n+1,s,r,h,m+1,hm=>by
  unfold a1P at h ⊢
  cases hb:body s with
  | none=>rw [hb] at h; cases h
  | some st =>
   rw [hb] at h
   cases st with
   | ret x=>exact h
   | brk x=>exact h
   | nxt x=>exact b9F h m (by omega)
theorem c4T {R S B:Type} {body:S→Option (j5 R S B)} {s:S} {r:j9 R B}:q7 body s=some r ↔ ∃ n,a1P body n s=some r:=by
 unfold q7
 constructor
 ·intro h
  split at h
  ·rename_i hx
   injection h with h
   exact ⟨_,h▸hx.choose_spec.choose_spec⟩
  ·cases h
 ·rintro ⟨n,h⟩
  have hx : ∃ n r,a1P body n s=some r:=⟨n,r,h⟩
  rw [dif_pos hx]
  have h1:=hx.choose_spec.choose_spec
  have h2:=b9F h1 _ (Nat.le_max_left _ n)
  have h3:=b9F h _ (Nat.le_max_right hx.choose n)
  rw [h2] at h3
  exact h3
theorem c0v {R S B:Type} (body:S→Option (j5 R S B)) (s:S):q7 body s=match body s with
  | some (.ret r)=>some (.ret r)
  | some (.brk s)=>some (.brk s)
  | some (.nxt s)=>q7 body s
  | none=>none:=by
 apply Option.ext
 intro r
 rw [c4T]
 cases hb:body s with
 | none =>
  constructor
  ·rintro ⟨n,h⟩
   cases n with
   | zero=>cases h
   | succ n=>unfold a1P at h; rw [hb] at h; cases h
  ·intro h; cases h
 | some st =>
  cases st with
  | ret x =>
   constructor
   ·rintro ⟨n,h⟩
    cases n with
    | zero=>cases h
    | succ n=>unfold a1P at h; rw [hb] at h; exact h
   ·intro h; exact ⟨1,by unfold a1P; rw [hb]; exact h⟩
  | brk x =>
   constructor
   ·rintro ⟨n,h⟩
    cases n with
    | zero=>cases h
    | succ n=>unfold a1P at h; rw [hb] at h; exact h
   ·intro h; exact ⟨1,by unfold a1P; rw [hb]; exact h⟩
  | nxt x =>
   simp only
   rw [c4T]
   constructor
   ·rintro ⟨n,h⟩
    cases n with
    | zero=>cases h
    | succ n=>unfold a1P at h; rw [hb] at h; exact ⟨n,h⟩
   ·rintro ⟨n,h⟩
    exact ⟨n+1,by unfold a1P; rw [hb]; exact h⟩
def t6 {R S B:Type} (r:j9 R B) (I:S→Prop):j5 R S B→Prop
 | .ret x=>r = .ret x
 | .brk s=>r = .brk s
 | .nxt s=>I s
theorem z4 {R S B:Type} {body:S→Option (j5 R S B)} {I:S→Prop} {s:S} {r:j9 R B} (h:q7 body s=some r) (step : ∀ s st,body s=some st→t6 r I st→I s):I s:=by
 obtain ⟨n,h1⟩:=c4T.1 h
 clear h
 have h:=h1
 clear h1
 induction n generalizing s with
 | zero=>cases h
 | succ n ih =>
  unfold a1P at h
  cases hb:body s with
  | none=>rw [hb] at h; cases h
  | some st =>
   rw [hb] at h
   refine step s st hb ?_
   cases st with
   | ret x=>injection h with h; exact h.symm
   | brk x=>injection h with h; exact h.symm
   | nxt x=>exact ih h
def j9.go {R B β:Type} (x:j9 R B) (kr:R→Option β) (ks:B→Option β):Option β :=
 match x with
 | .ret r=>kr r
 | .brk s=>ks s
def JC {B J:Type} (I:J→Prop) (r:B):j9 B J→Prop
 | .ret v=>some v=some r
 | .brk j=>I j
def idx {α:Type} (l:List α) (i:Int):Option α:=if 0≤i then l[i.toNat]? else none
def t5 {β:Type} (p:Prop) [Decidable p] (k:Option β):Option β:=if p then k else none
theorem b7D {α:Type} {l:List α} {i:Int} {x:α} (h:idx l i=some x):0≤i∧i<l.length∧l[i.toNat]?=some x:=by
 unfold idx at h
 split at h
 ·rename_i hi
  refine ⟨hi,?_,h⟩
  have:=(List.getElem?_eq_some_iff.1 h).1
  omega
 ·cases h
section
variable {G:Prop} {α β R S:Type}
theorem C4 {m:Option α} {f:α→Option β} {r:β} (h:m.bind f=some r) (k : ∀ x,m=some x→f x=some r→G):G:=by
 cases m with
 | none=>cases h
 | some x=>exact k x rfl h
theorem u6 {p:Prop} [Decidable p] {a:Option β} {r:β} (h:t5 p a=some r) (k:p→a=some r→G):G:=by
 unfold t5 at h
 split at h
 ·rename_i hp; exact k hp h
 ·cases h
theorem x8 {B:Type} {I:S→Prop} {r:j9 R B} {x:R} {st:j5 R S B} (h:some (j5.ret x)=some st) (hc:t6 r I st) (k:r = .ret x→G):G:=by
 injection h with h
 subst h
 exact k hc
theorem x5 {B:Type} {I:S→Prop} {r:j9 R B} {x:B} {st:j5 R S B} (h:some (j5.brk x)=some st) (hc:t6 r I st) (k:r = .brk x→G):G:=by
 injection h with h
 subst h
 exact k hc
theorem x6 {B:Type} {I:S→Prop} {r:j9 R B} {x:S} {st:j5 R S B} (h:some (j5.nxt x)=some st) (hc:t6 r I st) (k:I x→G):G:=by
 injection h with h
 subst h
 exact k hc
theorem a9t {B:Type} {I:S→Prop} {r:j9 R B} {x:R} {st:j5 R S B} (h:some (j5.ret x)=some st) (hc:t6 r I st):r = .ret x:=x8 h hc id
theorem D8 {B J:Type} {T:Option (j9 B J)} {K:J→Option B} {r:B} {I:J→Prop} (h:(T.bind fun x=>x.go some K)=some r) (rest : ∀ j,K j=some r→I j) (e2j : ∀ x,T=some x→JC I r x→G):G:=by
 cases T with
 | none=>cases h
 | some x =>
  refine e2j x rfl ?_
  cases x with
  | ret v=>exact h
  | brk j=>exact rest j h
theorem D1 {B J:Type} {I:J→Prop} {r v:B} {x:j9 B J} (h:some (j9.ret v)=some x) (hc:JC I r x) (k:some v=some r→G):G:=by
 injection h with h
 subst h
 exact k hc
theorem s7 {B J:Type} {I:J→Prop} {r:B} {x:j9 B J} {j:J} (h:some (j9.brk j)=some x) (hc:JC I r x) (k:I j→G):G:=by
 injection h with h
 subst h
 exact k hc
theorem z3 {B:Type} {body:S→Option (j5 R S B)} {s:S} {kr:R→Option β} {ks:B→Option β} {r:β} (h:((q7 body s).bind fun x=>x.go kr ks)=some r) (k : ∀ x,q7 body s=some x→(∀ v,x = .ret v→kr v=some r)→(∀ b,x = .brk b→ks b=some r)→G):G:=by
 cases hl:q7 body s with
 | none=>rw [hl] at h; cases h
 | some x =>
  rw [hl] at h
  refine k x hl ?_ ?_
  ·intro v hv
   subst hv
   exact h
  ·intro b hb
   subst hb
   exact h
end
theorem j6.is {cx:Cx} {X:Sig} {res b3s:V} {outs b4u:List (Option V)} {k:List Item} {S:St} (h:j6 cx X b3s b4u k S) (h1:res=b3s) (h2:outs=b4u):j6 cx X res outs k S:=by
 subst h1; subst h2
 exact h
def vi (n:Int):V:=.i .i64 n
def bs:Nat→List V→List V
 | 0,l=>l
 | n+1,l=>.bot::bs n l
def j8 {α:Type} (sz:Nat) (enc:α→List V) (l:List α):V:=.sl sz l.length (l.map enc)
def o8 {α:Type} (e sz:Nat) (enc:α→List V) (l:List α):V:=.osl e sz l.length (l.map enc)
def m4 {α:Type} (e sz:Nat) (enc:α→List V) (l:List α):s6:=.row e sz l.length (l.map enc)
def b3p {α:Type} (sz:Nat) (enc:α→List V) (l:List α):s6:=.frz sz l.length (l.map enc)
section
variable {α:Type} {enc:α→List V} {l:List α} {i:Int} {x:α}
theorem a0a (h:idx l i=some x):(l.map enc)[i.toNat]?=some (enc x):=by
 rw [List.getElem?_map,(b7D h).2.2]; rfl
theorem b3y (h:idx l i=some x):(l.map enc)[0+i.toNat]?=some (enc x):=by
 rw [Nat.zero_add]; exact a0a h
theorem R6 (h:idx l i=some x):0≤i:=(b7D h).1
theorem b2p (h:idx l i=some x):i<(l.length:Nat):=(b7D h).2.1
theorem e54 {e sz:Nat} {y:α} {cs:List V} (h:cs=enc y):s6.row e sz (l.length+1) (l.map enc++[cs])=m4 e sz enc (l++[y]):=by
 subst h
 simp [m4]
theorem d6g {e sz:Nat} {l':List α} {n:Nat} {rows:List (List V)} (h1:n=l'.length) (h2:rows=l'.map enc):s6.row e sz (l.length+n) (l.map enc++rows)=m4 e sz enc (l++l'):=by
 subst h1; subst h2
 simp [m4]
theorem e6g {e sz:Nat} {k:Nat} {y:α} {cs:List V} (h:cs=enc y):s6.row e sz l.length ((l.map enc).set (0+k) cs)=m4 e sz enc (l.set k y):=by
 subst h
 simp [m4,List.map_set]
theorem d2w {sz:Nat} {a b:Nat} (ha:a≤b) (hb:b≤l.length):V.sl sz (b - a) (((l.map enc).drop a).take (b - a))=j8 sz enc ((l.drop a).take (b - a)):=by
 have:min (b - a) (l.length - a)=b - a:=by omega
 simp [j8,List.map_take,List.map_drop,this]
end
def c0z (f:Func):Code:=match f.body with
 | some c=>c
 | none=>.skip
def a31:Nat→Nat→List Bool→List Item→List Item
 | 0,_,_,k=>k
 | f+1,n,cs,k=>match k with
  | .code (.region id ops dr)::k'=>match n with
   | 0=>.code (.region id ops dr)::k'
   | n+1=>a31 f n cs k'
  | .code .skip::k'=>a31 f n cs k'
  | .inBlock _::k'=>a31 f n cs k'
  | .code (.seq x y)::k'=>a31 f n cs (.code x :: .code y::k')
  | .code (.cond o x y)::k'=>match cs with
   | c::cs=>a31 f n cs (.code (bif c then x else y)::k')
   | []=>.code (.cond o x y)::k'
  | .code (.block id c)::k'=>a31 f n cs (.code c :: .inBlock id::k')
  | .code (.loop c)::k'=>a31 f n cs (.code c :: .inLoop c::k')
  | .inLoop c::k'=>a31 f n cs (.code c :: .inLoop c::k')
  | .code (.exit id)::k'=>match exitTo id k' with
   | some k2=>a31 f n cs k2
   | none=>.code (.exit id)::k'
  | k=>k
def td (i:Nat) (d:Bool):Nat×N2:=(i,{ d:=some d })
def tr (i:Nat) (cs:List V):Nat×N2:=(i,{ a:=.row cs })
def n8 (n:Int):Int:=IntKind.wrap .i64 n
section
variable {α:Type} {enc:α→List V} {l l':List α} {n:Nat} {x y:α} {cs:List V} {e sz:Nat}
theorem e6L (h:cs=enc x):s6.row e sz n (List.replicate n cs)=m4 e sz enc (List.replicate n x):=by
 subst h
 simp [m4]
theorem a7d (h:l.length=n):s6.row e sz n (l.map enc)=m4 e sz enc l:=by
 subst h
 rfl
theorem a8M {k:Nat} (h:cs=enc y):s6.arr e sz n ((l.map enc).set k cs) = .arr e sz n ((l.set k y).map enc):=by
 subst h
 simp [List.map_set]
def C9 (e sz:Nat) (enc:α→List V) (l:List α):s6:=.deep false e sz l.length (l.map enc)
def a3x (e sz:Nat) (enc:α→List V) (l:List α):V:=.dsl e sz l.length (l.map enc)
theorem a1X {k:Nat} (h:cs=enc y):(l.map enc).set (0+k) cs=(l.set k y).map enc:=by
 subst h
 simp [List.map_set]
theorem a8B {rows:List (List V)} (h:rows=l.map enc) (hn : ∀ x,∀ v∈enc x,v.isRef=false):K0 rows:=h▸K0.map hn l
theorem a7I {rows:List (List V)} {n:Nat} (h:rows=l.map enc) (hl:n=l.length):s6.deep false e sz n rows=C9 e sz enc l:=by
 subst h; subst hl; rfl
theorem c1n (h:cs=enc y):s6.deep false e sz (l.length+1) (l.map enc++[cs])=C9 e sz enc (l++[y]):=by
 subst h
 simp [C9]
theorem c06 {L l1:List α} {lo n:Nat} (h:lo+n≤L.length):s6.row e sz (l1.length+n) (l1.map enc++((L.map enc).drop lo).take n)=m4 e sz enc (l1++(L.drop lo).take n):=by
 have:((L.drop lo).take n).length=n:=by simp; omega
 simp [m4,List.map_take,List.map_drop]
 omega
theorem b9N {L l1:List α} {lo n g:Nat} (h:lo+n≤L.length):V.own g 0 sz 0 (l1.length+n)=V.own g 0 sz 0 (l1++(L.drop lo).take n).length:=by
 congr 1
 simp
 omega
theorem a0M {rows X:List (List V)} {k:Nat} {c c':List V} (h:rows.set k c'=X):(rows.set k c).set k c'=X:=by rw [List.set_set]; exact h
theorem a3b {rows:List (List V)} {k:Nat} (h:k<rows.length):(rows.set k cs)[k]?=some cs:=by simp [h]
theorem a4w {rows:List (List V)} {k j:Nat} (h:k<rows.length):k<(rows.set j cs).length:=by simpa using h
theorem a2L {i:Int} (h:idx l i=some y):0+i.toNat<(l.map enc).length:=by
 have:=(b2p h)
 have:=(R6 h)
 rw [List.length_map]
 omega
theorem b9V {i:Int} {f:α→V} (hf : ∀ x,enc x=[f x]) (h:idx l i=some y):(l.map enc).flatten[i.toNat]?=some (f y):=by
 have e:(l.map enc).flatten=l.map f:=by
  induction l with
  | nil=>rfl
  | cons x l ih =>
   have ih':(l.map enc).flatten=l.map f:=by
    clear ih h
    induction l with
    | nil=>rfl
    | cons x l ih=>simp [hf,ih]
   simp [hf,ih']
 rw [e,List.getElem?_map]
 unfold idx at h
 split at h
 ·rw [h]; rfl
 ·cases h
theorem c20 {hi:Int} (h:0≤hi∧hi≤(l.length:Nat)):V.sl sz (hi.toNat - 0) (((l.map enc).drop 0).take (hi.toNat - 0))=j8 sz enc ((l.drop 0).take (hi.toNat - 0)) :=
 d2w (by omega) (by omega)
theorem d73 {lo:Int} (h:0≤lo∧lo≤(l.length:Nat)):V.sl sz (l.length - lo.toNat) (((l.map enc).drop lo.toNat).take (l.length - lo.toNat))=j8 sz enc ((l.drop lo.toNat).take (l.length - lo.toNat)) :=
 d2w (by omega) (by omega)
end
def c8N:Nat→List (Option V)
 | 0=>[]
 | n+1=>none::c8N n
theorem F9 : ∀ n,E2 (c8N n)
 | 0=>fun v h=>by cases h
 | n+1=>fun v h=>by
  rcases List.mem_cons.1 h with q | q
  ·cases q
  ·exact F9 n v q
section
variable {P:Program} {d:Nat} {xs ys:Array Value} {f:Field} {fs:List Field} {a b:Value} {r s:Bool} {w:World}
theorem b3g:(Op.eqFields d xs ys []).run P w = .ok true w:=by simp [Op.eqFields]
theorem a3z (hn:(f.name == "_")=false) (ha:(part f.type xs f.offset).run P w = .ok a w) (hb:(part f.type ys f.offset).run P w = .ok b w) (he:(Op.equalIn d f.type a b).run P w = .ok r w) (hr:(Op.eqFields d xs ys fs).run P w = .ok s w):(Op.eqFields d xs ys (f::fs)).run P w = .ok (r&&s) w:=by
 have hn':f.name ≠ "_" := by simpa using hn
 rw [Op.eqFields]
 simp only [if_pos hn',Sem.run_bind,ha,hb,he,Result.andThen_ok]
 cases r
 ·simp
 ·simpa using hr
theorem b38 {t:TypeId} {fs:Array Field} (hu:P.underlying t=some (.struct fs)) (hp:P.stoodInHeld t=false) (h:(Op.eqFields d xs ys fs.toList).run P w = .ok r w):(Op.equalIn (d+1) t (.agg xs) (.agg ys)).run P w = .ok r w:=by
 have hf:P.fieldsOf t=fs:=by simp [Program.fieldsOf,hu]
 rw [run_equalIn_struct (P:=P) w d t xs ys (by rw [hf]; exact hu) hp,hf]
 exact h
theorem a3G {t:TypeId} {k:IntKind} {m n:Int} (h:P.underlying t=some (.int k)):(Op.equalIn (d+1) t (.int .i64 m) (.int .i64 n)).run P w = .ok (m==n) w:=run_equalIn_int w d t .i64 k m n h
end
structure Pt (cx:Cx) (X:Sig) (res:V) (outs:List (Option V)) (k:List Item) (S:St) (sc:a1s) (ps:List Prop):Prop where
 f:V1 ps→j6 cx X res outs k S
def d0e {α:Type}:List α→List α→List α
 | [],b=>b
 | a::l,b=>d0e l (a::b)
def scO:a1s→a1s→a1s
 | [],b=>b
 | r::l,b=>scO l (d0e r []::b)
def psO:List Prop→List Prop→List Prop
 | [],b=>b
 | p::l,b=>psO l (p::b)
theorem c3K {ps:List Prop} : ∀ {qs:List Prop},V1 ps→V1 qs→V1 (psO ps qs):=by
 induction ps with
 | nil=>exact fun _ h=>h
 | cons p ps ih=>exact fun h h'=>ih h.2 ⟨h.1,h'⟩
def a5F {α β:Type} (m:Option α) (f:α→Option β) (g:Option β):Option β :=
 match m with
 | some x=>f x
 | none=>g
def dt (t:Nat×N2) (d:Bool):Nat×N2:=(t.1,{ t.2 with d:=some d })
section
variable {cx:Cx} {X:Sig} {res:V} {outs:List (Option V)} {k:List Item} {S:St} {sc:a1s} {ps:List Prop} {r:List (Nat×N2)} {α β:Type} {v:β}
theorem P0 (h:Pt cx X res outs k S [] []):j6 cx X res outs k S:=h.f V1.nil
theorem rg (h:Pt cx X res outs k S ([]::sc) ps):Pt cx X res outs k S sc ps:=⟨h.f⟩
theorem p6 (h:Pt cx X res outs k S ([]::[]::sc) ps):Pt cx X res outs k S sc ps:=⟨h.f⟩
theorem rg3 (h:Pt cx X res outs k S ([]::[]::[]::sc) ps):Pt cx X res outs k S sc ps:=⟨h.f⟩
theorem rg4 (h:Pt cx X res outs k S ([]::[]::[]::[]::sc) ps):Pt cx X res outs k S sc ps:=⟨h.f⟩
theorem tl (t:Nat×N2) (h:Pt cx X res outs k S ((t::r)::sc) ps):Pt cx X res outs k S (r::sc) ps:=⟨h.f⟩
theorem ob {p:Prop} (q:p) (h:Pt cx X res outs k S sc (p::ps)):Pt cx X res outs k S sc ps:=⟨fun a=>h.f ⟨q,a⟩⟩
theorem om (p:Prop) (q:p) (h:Pt cx X res outs k S sc (p::ps)):Pt cx X res outs k S sc ps:=ob q h
theorem cdT (t:Nat×N2) {e:Bool} {a b:Option β} (h:cond e a b=some v) (k1:e=true→a=some v→Pt cx X res outs k S ((dt t true::r)::sc) ((e=true)::ps)) (k2:e=false→b=some v→Pt cx X res outs k S ((dt t false::r)::sc) ((e=false)::ps)):Pt cx X res outs k S (r::sc) ps:=by
 cases e with
 | true=>exact ob rfl (tl _ (k1 rfl h))
 | false=>exact ob rfl (tl _ (k2 rfl h))
theorem i9 (i:Nat) {e:Bool} {a b:Option β} (h:cond e a b=some v) (k1:a=some v→Pt cx X res outs k S ((td i true::r)::sc) ((e=true)::ps)) (k2:b=some v→Pt cx X res outs k S ((td i false::r)::sc) ((e=false)::ps)):Pt cx X res outs k S (r::sc) ps:=by
 cases e with
 | true=>exact ob rfl (tl _ (k1 h))
 | false=>exact ob rfl (tl _ (k2 h))
theorem cb (t:Nat→Bool→α→Nat×N2) {m:Option α} {p:α→Prop} (ok : ∀ x,m=some x→p x) (i:Nat) (fr:Bool) {f:α→Option β} (h:m.bind f=some v) (g : ∀ x,f x=some v→Pt cx X res outs k S ((t i fr x::r)::sc) (p x::ps)):Pt cx X res outs k S (r::sc) ps :=
 C4 h fun x hx h=>ob (ok x hx) (tl _ (g x h))
theorem cbA (t:Nat→Bool→α→Nat×N2) {m:Option α} {p:α→Prop} (ok : ∀ x,m=some x→p x) (i:Nat) (fr:Bool) {f:α→Option β} {e:Option β} (h:a5F m f e=some v) (g : ∀ x,f x=some v→Pt cx X res outs k S ((t i fr x::r)::sc) (p x::ps)) (g2:e=some v→Pt cx X res outs k S (r::sc) ps):Pt cx X res outs k S (r::sc) ps:=by
 cases m with
 | none=>exact g2 h
 | some x=>exact ob (ok x rfl) (tl _ (g x h))
theorem cbE (t:Nat→Bool→α→Nat×N2) {m:Option α} {p:α→Prop} (ok : ∀ x,m=some x→p x) {f:α→Option β} (h:m.bind f=some v) (g : ∀ x,p x→f x=some v→Pt cx X res outs k S sc ps):Pt cx X res outs k S sc ps :=
 C4 h fun x hx h=>g x (ok x hx) h
section
variable {enc:α→List V} {l l':List α} {I:Int} {x y z:α}
theorem w8 (enc:α→List V) (i:Nat) {f:α→Option β} (h:(idx l I).bind f=some v) (g : ∀ y,idx l I=some y→f y=some v→Pt cx X res outs k S ((tr i (enc y)::r)::sc) (((l.map enc)[I.toNat]?=some (enc y))::(I<((l.length:Nat):Int))::((0:Int)≤I)::ps)):Pt cx X res outs k S (r::sc) ps :=
 C4 h fun y hy h=>ob (R6 hy) (ob (b2p hy) (ob (a0a hy) (tl _ (g y hy h))))
theorem Q9 (enc:α→List V) (i:Nat) (hy:idx l I=some y) (g:Pt cx X res outs k S ((tr i (enc y)::r)::sc) (((l.map enc)[I.toNat]?=some (enc y))::(I<((l.length:Nat):Int))::((0:Int)≤I)::ps)):Pt cx X res outs k S (r::sc) ps :=
 ob (R6 hy) (ob (b2p hy) (ob (a0a hy) (tl _ g)))
theorem E6 (hy:idx l I=some y) (g:Pt cx X res outs k S sc ((I<((l.length:Nat):Int))::((0:Int)≤I)::ps)):Pt cx X res outs k S sc ps:=ob (R6 hy) (ob (b2p hy) g)
theorem T3 (enc:α→List V) (i:Nat) (hy:idx l I=some y) (g:Pt cx X res outs k S ((tr i (enc y)::r)::sc) (((l.map enc)[0+I.toNat]?=some (enc y))::ps)):Pt cx X res outs k S (r::sc) ps :=
 ob (b3y hy) (tl _ g)
theorem stR (e sz:Nat) (enc:α→List V) (i:Nat) (ck:List (Option Nat)) (y:α) (hz:idx l I=some z) (g:Pt cx X res outs k S (((i,{ a:=.rowck (enc z) ck,e:=some (m4 e sz enc (l.set I.toNat y)) })::r)::sc) (((l.map enc)[0+I.toNat]?=some (enc z))::(s6.row e sz l.length ((l.map enc).set (0+I.toNat) (enc y))=m4 e sz enc (l.set I.toNat y))::ps)):Pt cx X res outs k S (r::sc) ps :=
 ob (e6g rfl) (ob (b3y hz) (tl _ g))
theorem mkS (i w t sz b:Nat) (enc:α→List V) (z:α) (T:TI) (a:S6) {N:Int} (e1:0≤N∧N * ((b:Nat):Int)≤140737488355328) (hb:0<b) (hl:T.zero.length=sz)
  (g:Pt cx X res outs k S (((i,{ a:=a,e:=some (m4 t sz enc (List.replicate N.toNat z)),v:=some (.own w 0 sz 0 (List.replicate N.toNat z).length) })::r)::sc)
   ((T.zero.length=sz)::(N * ((b:Nat):Int)≤140737488355328∧0<b)::(N=N)::((0:Int)≤N)::(s6.row t sz N.toNat (List.replicate N.toNat (enc z))=m4 t sz enc (List.replicate N.toNat z))::(V.own w 0 sz 0 N.toNat = .own w 0 sz 0 (List.replicate N.toNat z).length)::ps)):Pt cx X res outs k S (r::sc) ps :=
 ob (by simp) (ob (e6L rfl) (ob e1.1 (ob rfl (ob ⟨e1.2,hb⟩ (ob hl (tl _ g))))))
theorem M1 (i w t sz b:Nat) (enc:α→List V) (l:List α) (x:α) (h:(l.length+1) * b≤140737488355328)
  (g:Pt cx X res outs k S (((i,{ v:=some (.own w 0 sz 0 (l++[x]).length),e:=some (m4 t sz enc (l++[x])) })::r)::sc)
   (((l.length+1) * b≤140737488355328)::(l.length=l.length)::(s6.row t sz (l.length+1) (l.map enc++[enc x])=m4 t sz enc (l++[x]))::(V.own w 0 sz 0 (l.length+1) = .own w 0 sz 0 (l++[x]).length)::ps)):Pt cx X res outs k S (r::sc) ps :=
 ob (by simp) (ob (e54 rfl) (ob rfl (ob h (tl _ g))))
theorem apL (i w t sz b:Nat) (enc:α→List V) (l l':List α) (h:(l.length+l'.length) * b≤140737488355328)
  (g:Pt cx X res outs k S (((i,{ v:=some (.own w 0 sz 0 (l++l').length),e:=some (m4 t sz enc (l++l')) })::r)::sc)
   (((l.length+l'.length) * b≤140737488355328)::(l.length=l.length)::(s6.row t sz (l.length+l'.length) (l.map enc++l'.map enc)=m4 t sz enc (l++l'))::(V.own w 0 sz 0 (l.length+l'.length) = .own w 0 sz 0 (l++l').length)::ps)):Pt cx X res outs k S (r::sc) ps :=
 ob (by simp) (ob (d6g rfl rfl) (ob rfl (ob h (tl _ g))))
end
theorem sg (fs:List Fix) (keep:List Nat) (gs:List (Nat×Nat)) {k':List Item} {S':St} (h:j6 cx X res outs k' S') (hg:b3N cx k S (scO sc []) fs keep gs=some (k',S',psO ps []):=by kernel_rfl):Pt cx X res outs k S sc ps :=
 ⟨fun a=>j6.seg _ fs keep gs _ (c3K a V1.nil) h hg⟩
def reT:List (Nat×V)→St→St×List Prop
 | [],S=>(S,[])
 | (i,v)::l,S=>match S.t[i]? with
  | some u=>match reT l { S with t:=S.t.set i v } with
   | (S',ps)=>(S',(u=v)::ps)
  | none=>reT l S
theorem b9M : ∀ {l:List (Nat×V)} {S:St},V1 (reT l S).2→(reT l S).1=S
 | [],_,_=>rfl
 | (i,v)::l,S,h=>by
  unfold reT at h ⊢
  split at h
  ·rename_i u hu
   have h1:u=v:=h.1
   have h2:=b9M (l:=l) h.2
   simp only
   rw [h2,← h1,a1p hu]
  ·exact b9M h
theorem V1.split : ∀ {ps qs:List Prop},V1 (ps++qs)→V1 ps∧V1 qs
 | [],_,h=>⟨trivial,h⟩
 | _::_,_,h=>⟨⟨h.1,(V1.split h.2).1⟩,(V1.split h.2).2⟩
def c8S (cx:Cx) (k:List Item) (S:St) (sc:a1s) (fs:List Fix) (keep:List Nat) (gs:List (Nat×Nat)) (ts:List (Nat×V)):Option (List Item×St×List Prop) :=
 match b3N cx k S sc fs keep gs with
 | some (k',S',ps)=>some (k',(reT ts S').1,ps++(reT ts S').2)
 | none=>none
theorem sgT (fs:List Fix) (keep:List Nat) (gs:List (Nat×Nat)) (ts:List (Nat×V)) {k':List Item} {S':St} (h:j6 cx X res outs k' S') (hg:c8S cx k S (scO sc []) fs keep gs ts=some (k',S',psO ps []):=by kernel_rfl):Pt cx X res outs k S sc ps:=by
 refine ⟨fun a => ?_⟩
 unfold c8S at hg
 split at hg<;>try (cases hg; done)
 rename_i k1 S1 ps1 h1
 injection hg with hg
 injection hg with e1 e2
 injection e2 with e2 e3
 have ha:=c3K a V1.nil
 rw [← e3] at ha
 obtain ⟨a1,a2⟩:=V1.split ha
 rw [← e2,← e1,b9M a2] at h
 exact j6.seg _ fs keep gs _ a1 h h1
theorem a7J {α:Type} {enc:α→List V} {gs:List (Nat×Nat)} (h : ∀ x,(enc x).map (a0L gs)=enc x) : ∀ l:List α,((l.map enc).flatten.map (a0L gs))=(l.map enc).flatten
 | []=>rfl
 | x::l=>by
  simp only [List.map_cons,List.flatten_cons,List.map_append,h,a7J h l]
theorem x7 {b3s:V} {b4u:List (Option V)} (hf:cx.P.funcs[X.f]?=some X.fn) (h:res=b3s∧outs=b4u) (hg:b3T cx X k S (scO sc [])=some (b3s,b4u,psO ps []):=by kernel_rfl):Pt cx X res outs k S sc ps :=
 ⟨fun a=>(j6.fin hf _ _ (c3K a V1.nil) hg).is h.1 h.2⟩
theorem fe {T:Type} {R:T→V} {O:T→List (Option V)} {r v:T} (hf:cx.P.funcs[X.f]?=some X.fn) (h:some v=some r) (hg:b3T cx X k S (scO sc [])=some (R v,O v,psO ps []):=by kernel_rfl):Pt cx X (R r) (O r) k S sc ps:=by
 injection h with h
 subst h
 exact x7 hf ⟨rfl,rfl⟩ hg
def HB (cx:Cx) (X:Sig) (res:V) (outs:List (Option V)) {R B:Type} (x:j9 R B) (k:List Item) (S:B→St):Prop := ∀ s:B,x = .brk s→j6 cx X res outs k (S s)
def HR (res:V) (outs:List (Option V)) {R B:Type} (x:j9 R B) (fR:R→V) (fO:R→List (Option V)):Prop := ∀ v:R,x = .ret v→(res=fR v∧outs=fO v)
end
def L1 (n:Int):Prop := -9223372036854775808≤n∧n≤9223372036854775807
def B9 {α:Type} (bytes:Nat) (ok:α→Prop) (l:List α):Prop:=l.length * bytes≤140737488351232 ∧ ∀ x∈l,ok x
def okT {α:Type} (x:α):Prop:=True
def Old (w:World) (k:Nat):Prop:=k<w.heap.size
def a8W (P:Program) {α:Type} (t:TypeId) (enc:α→List V) (ok:α→Prop):Prop :=
 ∀ {H:Type} (ec:TypeId×Value→H) (w:World) (fuel:Nat) (cs:List Value) (x:DataW H×List MemPlace),DataW.trod ec P w 0 (fun _=>true) true fuel t cs=some x→(x.1.weights P t).all (· ≤ reachBytes)=true →
  ∃ y,FL w (Old w) (enc y) cs∧ok y
section
variable {P:Program} {α:Type} {t e:TypeId} {enc:α→List V} {ok:α→Prop}
def a8N (n:Int):Prop:=0≤n∧n≤255
theorem e7p (ht:P.underlying t=some (.int .u8)):a8W P t (fun n:Int=>[.i .u8 n]) a8N:=by
 intro H ec w fuel cs x h _
 obtain ⟨n,rfl,rfl,hw⟩:=DataW.trod_int ht h
 refine ⟨n,.cons _ _ _ _ (.i _ _) .nil,?_⟩
 simp only [Lit.wf,Bool.and_eq_true,decide_eq_true_eq] at hw
 exact hw
theorem c7P {H:Type} {P:Program} {e:TypeId} {p:Nat→Bool} : ∀ {ds:List (DataW H)},(DataW.weightsAll P e ds).all p=true → ∀ d∈ds,(d.weights P e).all p=true
 | [],_,d,hd=>by cases hd
 | d0::ds,h,d,hd=>by
  rw [DataW.weightsAll,List.all_append,Bool.and_eq_true] at h
  rcases List.mem_cons.1 hd with rfl | hd
  ·exact h.1
  ·exact c7P h.2 d hd
theorem FL.flat {w:World} {F:Nat→Prop} (vs:Nat→List V) (cs:Nat→List Value) : ∀ n,(∀ i,i<n→FL w F (vs i) (cs i))→FL w F ((List.range n).flatMap vs) ((List.range n).flatMap cs)
 | 0,_=>.nil
 | n+1,h=>by
  rw [List.range_succ,List.flatMap_append,List.flatMap_append]
  refine FL.append (FL.flat vs cs n fun i hi=>h i (by omega)) ?_
  simpa using h n (by omega)
theorem b5T {sz:Nat} (cs:Nat→List Value) : ∀ n,(∀ i,i<n→(cs i).length=sz) → ∀ i,i<n → ∀ j,j<sz→((List.range n).flatMap cs)[i * sz+j]?=(cs i)[j]?∧((List.range n).flatMap cs).length=n * sz
 | 0,_,i,hi,_,_=>by omega
 | n+1,h,i,hi,j,hj=>by
  have hl:((List.range n).flatMap cs).length=n * sz:=by
   cases n with
   | zero=>simp
   | succ m=>exact (b5T cs (m+1) (fun i hi=>h i (by omega)) 0 (by omega) j hj).2
  rw [List.range_succ,List.flatMap_append]
  simp only [List.flatMap_cons,List.flatMap_nil,List.append_nil]
  constructor
  ·by_cases hin:i<n
   ·have:i * sz+j<n * sz:=by
     have:(i+1) * sz≤n * sz:=Nat.mul_le_mul_right _ hin
     rw [Nat.add_mul] at this
     omega
    rw [List.getElem?_append_left (by omega)]
    exact (b5T cs n (fun i hi=>h i (by omega)) i hin j hj).1
   ·have:i=n:=by omega
    subst this
    rw [List.getElem?_append_right (by omega),hl]
    congr 1
    omega
  ·rw [List.length_append,hl,h n (by omega),Nat.add_mul,Nat.one_mul]
theorem e65 {β:Type} {n:Nat} {p:Nat→β→Prop} (d:β) (h : ∀ i,i<n → ∃ x,p i x) : ∃ f:Nat→β,∀ i,i<n→p i (f i):=by
 classical
 refine ⟨fun i=>if hi:i<n then (h i hi).choose else d,fun i hi => ?_⟩
 simp only [dif_pos hi]
 exact (h i hi).choose_spec
theorem e1a {sz bytes:Nat} (ht:P.underlying t=some (.slice e)) (he:a8W P e enc ok) (hsz:P.cellsOf e=sz) (h0:0<sz) (hb:P.bytesOf e=bytes) (hl : ∀ y,(enc y).length=sz):a8W P t (fun l:List α=>[j8 sz enc l]) (B9 bytes ok):=by
 intro H ec w fuel cs x h hw
 rcases DataW.trod_slice ht h with ⟨rfl,rfl⟩ | ⟨a,len,cap,elems,rest,n,_,rfl,rfl,hbs,hlc,hcm,hlen,hel,hsp,hns⟩
 ·exact ⟨[],.cons _ _ _ _ (.sl0 sz none 0) .nil,by simp,by simp⟩
 simp only [DataW.weights,ht,List.all_cons,List.all_append,Bool.and_eq_true,decide_eq_true_eq,List.length_map] at hw
 obtain ⟨hw0,hw1,hw2⟩:=hw
 have hrest:rest.length=cap - len:=by
  cases hs:(fun _:Nat=>true) a.block with
  | true=>exact (hsp rfl).1
  | false=>cases hs
 have hlen2:len * bytes≤140737488351232:=by
  rw [hb] at hw0
  have:len * bytes≤(elems.length+rest.length) * bytes:=Nat.mul_le_mul_right _ (by omega)
  have h2:reachBytes=140737488351232:=rfl
  omega
 cases Nat.eq_zero_or_pos len with
 | inl hz =>
  subst hz
  exact ⟨[],.cons _ _ _ _ (.sl0 sz _ cap) .nil,by simp,by simp⟩
 | inr hpos =>
  have key : ∀ i,i<len → ∃ cy:List Value×α,w.cells? 0 (a.add (i * sz)) sz=some cy.1∧FL w (Old w) (enc cy.2) cy.1∧ok cy.2:=by
   intro i hi
   have h1:=hel i hi
   have hi':i<elems.length:=by omega
   rw [List.getElem?_eq_getElem hi',hsz] at h1
   obtain ⟨ci,h2,h3⟩:=Option.bind_eq_some_iff.1 h1
   obtain ⟨y,h4,h5⟩:=he ec w n ci _ h3 (c7P hw1 _ (List.mem_map.2 ⟨_,List.getElem_mem hi',rfl⟩))
   exact ⟨(ci,y),h2,h4,h5⟩
  obtain ⟨cy0,_⟩:=key 0 hpos
  obtain ⟨f,hf⟩:=e65 cy0 key
  have hcl : ∀ i,i<len→(f i).1.length=sz:=fun i hi=>(World.cells?_some (hf i hi).1).2.1
  have hspot:a.spot=none:=by
   have:=(World.cells?_some (hf 0 hpos).1).2.2 0 h0
   rw [List.getElem?_eq_getElem (by rw [hcl 0 hpos]; exact h0)] at this
   have:=World.cell?_spot this
   simpa [Addr.add] using this
  have hold:Old w a.block:=by
   have:=(World.cells?_some (hf 0 hpos).1).2.2 0 h0
   rw [List.getElem?_eq_getElem (by rw [hcl 0 hpos]; exact h0)] at this
   unfold World.cell? at this
   unfold Old
   split at this
   ·rename_i c _ _ hh
    simpa [Addr.add] using (Array.getElem?_eq_some_iff.1 hh).1
   ·cases this
  refine ⟨(List.range len).map fun i=>(f i).2,?_,?_,?_⟩
  ·have haddr:a=⟨a.block,a.off,none⟩:=by cases a; simp_all
   rw [show (Value.slice (some a) len cap) = .slice (some ⟨a.block,a.off,none⟩) len cap from by rw [← haddr]]
   refine .cons _ _ _ _ ?_ .nil
   unfold j8
   rw [List.length_map,List.length_range]
   refine .sl sz len _ _ _ cap ((List.range len).flatMap fun i=>(f i).1) hold ?_ ?_ ?_ hlc ?_
   ·have:=FL.flat (w:=w) (F:=Old w) (fun i=>enc (f i).2) (fun i=>(f i).1) len fun i hi=>(hf i hi).2.1
    rw [List.map_map,← List.flatMap_def]
    exact this
   ·simp
   ·intro r hr
    rw [List.map_map] at hr
    obtain ⟨i,_,rfl⟩:=List.mem_map.1 hr
    exact hl _
   ·intro j u hu
    have hlf:=(b5T (fun i=>(f i).1) len hcl 0 hpos 0 h0).2
    have hj:j<len * sz:=by
     have:=(List.getElem?_eq_some_iff.1 hu).1
     omega
    have hq:j / sz<len:=Nat.div_lt_of_lt_mul (by rw [Nat.mul_comm]; exact hj)
    have hr:j % sz<sz:=Nat.mod_lt _ h0
    have hjs:j=j / sz * sz+j % sz:=by rw [Nat.mul_comm]; exact (Nat.div_add_mod j sz).symm
    have hget:=(b5T (fun i=>(f i).1) len hcl _ hq _ hr).1
    rw [← hjs,hu] at hget
    have hcell:=(World.cells?_some (hf _ hq).1).2.2 _ hr
    rw [← hget] at hcell
    rw [← hcell]
    have hadd:(a.add (j / sz * sz)).add (j % sz)=a.add j:=by
     rw [show (a.add (j / sz * sz)).add (j % sz)=a.add (j / sz * sz+j % sz) from Go.Deep.add_add a _ _,← hjs]
    rw [hadd]
    congr 1
    unfold Addr.add
    split
    ·rename_i h; subst h; exact haddr.symm
    ·rfl
  ·simpa using hlen2
  ·intro y hy
   obtain ⟨i,hi,rfl⟩:=List.mem_map.1 hy
   exact (hf i (by simpa using hi)).2.2
section
variable {α':Type} {H:Type} {ec:TypeId×Value→H} {w:World} {base:Nat} {r:Reach} {v:Value} {d:DataW H} {p:List MemPlace}
theorem BA.of1 {F:Nat→Prop} {x:V} {c:Value} (h:FL w F [x] [c]):BA w F x c []:=by
 cases h with
 | cons _ _ _ _ h _=>exact .cell _ _ _ (.fv _ _ h)
theorem e8f {f:α→V} (ht:P.underlying t=some (.slice e)) (ho:a8W P t (fun y=>[f y]) ok) (hv:Value.okWide P w r base t v) (h:DataW.Trod ec P w 0 (fun _=>true) true t v d p) (hw:(d.weights P t).all (· ≤ reachBytes)=true) : ∃ y,BA w (Old w) (f y) v []∧ok y:=by
 obtain ⟨a,l,c,rfl⟩:=WideShapes.okWide_slice ht hv
 obtain ⟨fuel,hf⟩:=h
 obtain ⟨y,h1,h2⟩:=ho ec w fuel _ _ hf hw
 exact ⟨y,BA.of1 h1,h2⟩
end
theorem e4G {f:FuncId} {args:List V} {outs:List (Option V)} {vs:List Value} {W:World} (h:o7 P f args (.b true) outs) (hb:BS W (Old W) args vs []) :
  Calls P f vs.toArray W fun e W'=>e = .returned (.bool true)∧RowKit.Below W.heap.size W W':=by
 refine (h.2 W (Old W) vs [] hb List.nodup_nil (by simp) (fun k hk=>hk)).mono ?_
 rintro e W' ⟨c,F',fr,fo,rfl,hk,_,_,hr,_,_,_⟩
 refine ⟨?_,hk.os,hk.tape,hk.output,hk.size,fun k hk'=>hk.block k hk' (by simp)⟩
 cases hr with
 | one _ _ _ h =>
  cases h with
  | cell _ _ _ h =>
   cases h with
   | fv _ _ h=>cases h; rfl
end
def eI (x:Int):List V:=[vi x]
def L2 (x:Int):List V:=[.i .u8 x]
def eB (x:Bool):List V:=[.b x]
structure n9 where
 b9:Int
 Seq:Int
def G2 (x:n9):List V:=[vi x.b9,vi x.Seq]
structure n5 where
 d9:Int
 i6:Int
def t8 (x:n5):List V:=[vi x.d9,vi x.i6]
structure m8 where
 d9:Int
 c9:Int
def u0 (x:m8):List V:=[vi x.d9,vi x.c9]
structure m9 where
 a7:List n5
 a8:List m8
 c9:Int
 Code:Int
def W0 (x:m9):List V:=[j8 2 t8 x.a7,j8 2 u0 x.a8,vi x.c9,vi x.Code]
structure l7 where
 g8:Bool
 a5:n9
 a9:m9
def p9 (x:l7):List V:=[.b x.g8,vi x.a5.b9,vi x.a5.Seq,j8 2 t8 x.a9.a7,j8 2 u0 x.a9.a8,vi x.a9.c9,vi x.a9.Code]
structure m6 where
 b5:Int
 i0:l7
def s9 (x:m6):List V:=[vi x.b5,.b x.i0.g8,vi x.i0.a5.b9,vi x.i0.a5.Seq,j8 2 t8 x.i0.a9.a7,j8 2 u0 x.i0.a9.a8,vi x.i0.a9.c9,vi x.i0.a9.Code]
structure A4 where
 g7:Int
 a0:List m6
def a47 (x:A4):List V:=[vi x.g7,j8 8 s9 x.a0]
structure m5 where
 b7:Int
 A:Int
 B:Int
 N:Int
def A3 (x:m5):List V:=[vi x.b7,vi x.A,vi x.B,vi x.N]
structure j3 where
 Id:Int
 Acc:A4
 a6:List l7
 Seq:Int
 d8:Int
 b5:Int
 b6:List Bool
 i5:List m6
 d6:l7
 a0:List Bool
 i7:Bool
 i4:List m5
 c8:l7
 b8:List l7
def T9 (x:j3):List V:=[vi x.Id,vi x.Acc.g7,j8 8 s9 x.Acc.a0,j8 7 p9 x.a6,vi x.Seq,vi x.d8,vi x.b5,j8 1 eB x.b6,j8 8 s9 x.i5,.b x.d6.g8,vi x.d6.a5.b9,vi x.d6.a5.Seq,j8 2 t8 x.d6.a9.a7,j8 2 u0 x.d6.a9.a8,vi x.d6.a9.c9,vi x.d6.a9.Code,j8 1 eB x.a0,.b x.i7,j8 4 A3 x.i4,.b x.c8.g8,vi x.c8.a5.b9,vi x.c8.a5.Seq,j8 2 t8 x.c8.a9.a7,j8 2 u0 x.c8.a9.a8,vi x.c8.a9.c9,vi x.c8.a9.Code,j8 7 p9 x.b8]
structure j7 where
 b7:Int
 b6:Int
 To:Int
 b5:Int
 g9:Int
 i0:l7
 a0:List m6
def w9 (x:j7):List V:=[vi x.b7,vi x.b6,vi x.To,vi x.b5,vi x.g9,.b x.i0.g8,vi x.i0.a5.b9,vi x.i0.a5.Seq,j8 2 t8 x.i0.a9.a7,j8 2 u0 x.i0.a9.a8,vi x.i0.a9.c9,vi x.i0.a9.Code,j8 8 s9 x.a0]
structure r9 where
 a5:n9
 i4:List m5
def D3 (x:r9):List V:=[vi x.a5.b9,vi x.a5.Seq,j8 4 A3 x.i4]
structure m7 where
 Node:Int
 a5:n9
 Code:Int
 c9:Int
def B3 (x:m7):List V:=[vi x.Node,vi x.a5.b9,vi x.a5.Seq,vi x.Code,vi x.c9]
structure m3 where
 Nodes:List j3
 Net:List j7
 Asked:List r9
 Told:List m7
def a1J (x:m3):List V:=[j8 27 T9 x.Nodes,j8 13 w9 x.Net,j8 3 D3 x.Asked,j8 5 B3 x.Told]
structure n4 where
 b:List Int
 p:Int
def a0J (x:n4):List V:=[j8 1 L2 x.b,vi x.p]
structure n6 where
 b7:Int
 A:Int
 i4:List m5
def M6 (x:n6):List V:=[vi x.b7,vi x.A,j8 4 A3 x.i4]
structure l9 where
 i6:Int
 c9:Int
def u5 (x:l9):List V:=[vi x.i6,vi x.c9]
structure n3 where
 a5:n9
 Code:Int
 c9:Int
def B5 (x:n3):List V:=[vi x.a5.b9,vi x.a5.Seq,vi x.Code,vi x.c9]
structure o9 where
 At:Int
 d7:List l9
 f0:List n3
def b1N (x:o9):List V:=[vi x.At,j8 2 u5 x.d7,j8 4 B5 x.f0]
def v5 (x:j3):List V:=[vi x.Id,vi x.Acc.g7,o8 155 8 s9 x.Acc.a0,o8 69 7 p9 x.a6,vi x.Seq,vi x.d8,vi x.b5,o8 4 1 eB x.b6,j8 8 s9 x.i5,.b x.d6.g8,vi x.d6.a5.b9,vi x.d6.a5.Seq,j8 2 t8 x.d6.a9.a7,j8 2 u0 x.d6.a9.a8,vi x.d6.a9.c9,vi x.d6.a9.Code,o8 4 1 eB x.a0,.b x.i7,j8 4 A3 x.i4,.b x.c8.g8,vi x.c8.a5.b9,vi x.c8.a5.Seq,j8 2 t8 x.c8.a9.a7,j8 2 u0 x.c8.a9.a8,vi x.c8.a9.c9,vi x.c8.a9.Code,o8 69 7 p9 x.b8]
theorem a57 (x:j3) : ∀ v∈v5 x,v.isRef=false:=by simp [v5,V.isRef,vi,j8,o8,a3x]
theorem a3L (x:j3):a2P (v5 x)=T9 x:=by simp [v5,T9,a2P,a8E,vi,j8,o8,a3x]
def a14 (x:m6):List V:=[vi x.b5,.b x.i0.g8,vi x.i0.a5.b9,vi x.i0.a5.Seq,o8 164 2 t8 x.i0.a9.a7,o8 162 2 u0 x.i0.a9.a8,vi x.i0.a9.c9,vi x.i0.a9.Code]
theorem e5o (x:m6):a2P (a14 x)=s9 x:=by simp [a14,s9,a2P,a8E,vi,j8,o8,a3x]
def a2S (l:List m5):List V:=[j8 4 A3 l]
def H0 (x:n9):List Int:=[x.b9,x.Seq]
def P2:List (Option Nat):=[some 27,some 13,some 3,some 5]
def W4:List (Option Nat):=[some 2,some 2,none,none]
def T4:List (Option Nat):=[none,none,none,some 2,some 2,none,none]
def N3:List (Option Nat):=[none,none,some 8,some 7,none,none,none,some 1,some 8,none,none,none,some 2,some 2,none,none,some 1,none,some 4,none,none,none,some 2,some 2,none,none,some 7]
def G0:List (Option Nat):=[none,none,none,none,none,none,none,none,some 2,some 2,none,none,some 8]
def a3I:List (Option Nat):=[none,none,none,none,some 2,some 2,none,none]
theorem e3o (d:Nat) (w:World) (x0 x1 y0 y1:Int):(Op.equalIn (d+2) 31 (.agg #[.int .i64 x0,.int .i64 x1]) (.agg #[.int .i64 y0,.int .i64 y1])).run Tryz.prog w = .ok ((x0==y0)&&((x1==y1)&&true)) w:=by
 refine b38 Tryz.underlying31 Tryz.stoodInHeld31 ?_
 refine a3z (by rfl) (by first | (go_simp; done) | (go_simp; rfl)) (by first | (go_simp; done) | (go_simp; rfl)) (a3G Tryz.underlying3) ?_
 refine a3z (by rfl) (by first | (go_simp; done) | (go_simp; rfl)) (by first | (go_simp; done) | (go_simp; rfl)) (a3G Tryz.underlying3) ?_
 exact b3g
theorem e6Y (xs ys:List Int) (w:World) (hx:xs.length=2) (hy:ys.length=2):(Op.equal 31 (.agg (xs.map (Value.int .i64)).toArray) (.agg (ys.map (Value.int .i64)).toArray)).run Tryz.prog w = .ok (xs==ys) w:=by
 match xs,ys,hx,hy with
 | [x0,x1],[y0,y1],_,_ =>
  have h:=e3o 9998 w x0 x1 y0 y1
  have e:((x0==y0)&&((x1==y1)&&true))=([x0,x1]==([y0,y1]:List Int)):=by simp [Bool.and_assoc]
  rw [e] at h
  exact h
theorem e8l (d:Nat) (w:World) (x0 x1 x2 x3 y0 y1 y2 y3:Int):(Op.equalIn (d+2) 48 (.agg #[.int .i64 x0,.int .i64 x1,.int .i64 x2,.int .i64 x3]) (.agg #[.int .i64 y0,.int .i64 y1,.int .i64 y2,.int .i64 y3])).run Tryz.prog w = .ok ((x0==y0)&&((x1==y1)&&((x2==y2)&&((x3==y3)&&true)))) w:=by
 refine b38 Tryz.underlying48 Tryz.stoodInHeld48 ?_
 refine a3z (by rfl) (by first | (go_simp; done) | (go_simp; rfl)) (by first | (go_simp; done) | (go_simp; rfl)) (a3G Tryz.underlying3) ?_
 refine a3z (by rfl) (by first | (go_simp; done) | (go_simp; rfl)) (by first | (go_simp; done) | (go_simp; rfl)) (a3G Tryz.underlying3) ?_
 refine a3z (by rfl) (by first | (go_simp; done) | (go_simp; rfl)) (by first | (go_simp; done) | (go_simp; rfl)) (a3G Tryz.underlying3) ?_
 refine a3z (by rfl) (by first | (go_simp; done) | (go_simp; rfl)) (by first | (go_simp; done) | (go_simp; rfl)) (a3G Tryz.underlying3) ?_
 exact b3g
theorem e8w (xs ys:List Int) (w:World) (hx:xs.length=4) (hy:ys.length=4):(Op.equal 48 (.agg (xs.map (Value.int .i64)).toArray) (.agg (ys.map (Value.int .i64)).toArray)).run Tryz.prog w = .ok (xs==ys) w:=by
 match xs,ys,hx,hy with
 | [x0,x1,x2,x3],[y0,y1,y2,y3],_,_ =>
  have h:=e8l 9998 w x0 x1 x2 x3 y0 y1 y2 y3
  have e:((x0==y0)&&((x1==y1)&&((x2==y2)&&((x3==y3)&&true))))=([x0,x1,x2,x3]==([y0,y1,y2,y3]:List Int)):=by simp [Bool.and_assoc]
  rw [e] at h
  exact h
theorem d8P (d:Nat) (w:World) (x0 x1 y0 y1:Int):(Op.equalIn (d+2) 106 (.agg #[.int .i64 x0,.int .i64 x1]) (.agg #[.int .i64 y0,.int .i64 y1])).run Tryz.prog w = .ok ((x0==y0)&&((x1==y1)&&true)) w:=by
 refine b38 Tryz.underlying106 Tryz.stoodInHeld106 ?_
 refine a3z (by rfl) (by first | (go_simp; done) | (go_simp; rfl)) (by first | (go_simp; done) | (go_simp; rfl)) (a3G Tryz.underlying3) ?_
 refine a3z (by rfl) (by first | (go_simp; done) | (go_simp; rfl)) (by first | (go_simp; done) | (go_simp; rfl)) (a3G Tryz.underlying3) ?_
 exact b3g
theorem e0e (xs ys:List Int) (w:World) (hx:xs.length=2) (hy:ys.length=2):(Op.equal 106 (.agg (xs.map (Value.int .i64)).toArray) (.agg (ys.map (Value.int .i64)).toArray)).run Tryz.prog w = .ok (xs==ys) w:=by
 match xs,ys,hx,hy with
 | [x0,x1],[y0,y1],_,_ =>
  have h:=d8P 9998 w x0 x1 y0 y1
  have e:((x0==y0)&&((x1==y1)&&true))=([x0,x1]==([y0,y1]:List Int)):=by simp [Bool.and_assoc]
  rw [e] at h
  exact h
theorem e86 (d:Nat) (w:World) (x0 x1 y0 y1:Int):(Op.equalIn (d+2) 162 (.agg #[.int .i64 x0,.int .i64 x1]) (.agg #[.int .i64 y0,.int .i64 y1])).run Tryz.prog w = .ok ((x0==y0)&&((x1==y1)&&true)) w:=by
 refine b38 Tryz.underlying162 Tryz.stoodInHeld162 ?_
 refine a3z (by rfl) (by first | (go_simp; done) | (go_simp; rfl)) (by first | (go_simp; done) | (go_simp; rfl)) (a3G Tryz.underlying3) ?_
 refine a3z (by rfl) (by first | (go_simp; done) | (go_simp; rfl)) (by first | (go_simp; done) | (go_simp; rfl)) (a3G Tryz.underlying3) ?_
 exact b3g
theorem e7d (xs ys:List Int) (w:World) (hx:xs.length=2) (hy:ys.length=2):(Op.equal 162 (.agg (xs.map (Value.int .i64)).toArray) (.agg (ys.map (Value.int .i64)).toArray)).run Tryz.prog w = .ok (xs==ys) w:=by
 match xs,ys,hx,hy with
 | [x0,x1],[y0,y1],_,_ =>
  have h:=e86 9998 w x0 x1 y0 y1
  have e:((x0==y0)&&((x1==y1)&&true))=([x0,x1]==([y0,y1]:List Int)):=by simp [Bool.and_assoc]
  rw [e] at h
  exact h
theorem e4N (d:Nat) (w:World) (x0 x1 y0 y1:Int):(Op.equalIn (d+2) 164 (.agg #[.int .i64 x0,.int .i64 x1]) (.agg #[.int .i64 y0,.int .i64 y1])).run Tryz.prog w = .ok ((x0==y0)&&((x1==y1)&&true)) w:=by
 refine b38 Tryz.underlying164 Tryz.stoodInHeld164 ?_
 refine a3z (by rfl) (by first | (go_simp; done) | (go_simp; rfl)) (by first | (go_simp; done) | (go_simp; rfl)) (a3G Tryz.underlying3) ?_
 refine a3z (by rfl) (by first | (go_simp; done) | (go_simp; rfl)) (by first | (go_simp; done) | (go_simp; rfl)) (a3G Tryz.underlying3) ?_
 exact b3g
theorem d93 (xs ys:List Int) (w:World) (hx:xs.length=2) (hy:ys.length=2):(Op.equal 164 (.agg (xs.map (Value.int .i64)).toArray) (.agg (ys.map (Value.int .i64)).toArray)).run Tryz.prog w = .ok (xs==ys) w:=by
 match xs,ys,hx,hy with
 | [x0,x1],[y0,y1],_,_ =>
  have h:=e4N 9998 w x0 x1 y0 y1
  have e:((x0==y0)&&((x1==y1)&&true))=([x0,x1]==([y0,y1]:List Int)):=by simp [Bool.and_assoc]
  rw [e] at h
  exact h
def ti3:TI:={ size:=1,bytes:=8,agg:=false,zero:=[vi 0],sl:=none,arr:=none,ik:=some .i64,fs:=none,str:=false,ptr:=none,bl:=false }
def ti4:TI:={ size:=1,bytes:=1,agg:=false,zero:=[.b false],sl:=none,arr:=none,ik:=none,fs:=none,str:=false,ptr:=none,bl:=true }
def ti5:TI:={ size:=1,bytes:=1,agg:=false,zero:=[.i .u8 0],sl:=none,arr:=none,ik:=some .u8,fs:=none,str:=false,ptr:=none,bl:=false }
def d4x:TI:={ size:=1,bytes:=24,agg:=false,zero:=[.nil],sl:=some 5,arr:=none,ik:=none,fs:=none,str:=false,ptr:=none,bl:=false }
def c7X:TI:={ size:=1,bytes:=24,agg:=false,zero:=[.nil],sl:=some 92,arr:=none,ik:=none,fs:=none,str:=false,ptr:=none,bl:=false }
def d2V:TI:={ size:=1,bytes:=24,agg:=false,zero:=[.nil],sl:=some 95,arr:=none,ik:=none,fs:=none,str:=false,ptr:=none,bl:=false }
def d3K:TI:={ size:=1,bytes:=24,agg:=false,zero:=[.nil],sl:=some 45,arr:=none,ik:=none,fs:=none,str:=false,ptr:=none,bl:=false }
def d0A:TI:={ size:=1,bytes:=24,agg:=false,zero:=[.nil],sl:=some 76,arr:=none,ik:=none,fs:=none,str:=false,ptr:=none,bl:=false }
def c7u:TI:={ size:=4,bytes:=96,agg:=true,zero:=[.nil,.nil,.nil,.nil],sl:=none,arr:=none,ik:=none,fs:=some [(0,23),(1,24),(2,25),(3,26)],str:=false,ptr:=none,bl:=false }
def b9t:TI:={ size:=2,bytes:=16,agg:=true,zero:=[vi 0,vi 0],sl:=none,arr:=none,ik:=none,fs:=some [(0,3),(1,3)],str:=false,ptr:=none,bl:=false }
def d1n:TI:={ size:=1,bytes:=24,agg:=false,zero:=[.nil],sl:=some 48,arr:=none,ik:=none,fs:=none,str:=false,ptr:=none,bl:=false }
def d4m:TI:={ size:=3,bytes:=40,agg:=true,zero:=[vi 0,vi 0,.nil],sl:=none,arr:=none,ik:=none,fs:=some [(0,31),(2,34)],str:=false,ptr:=none,bl:=false }
def c4v:TI:={ size:=4,bytes:=32,agg:=true,zero:=[vi 0,vi 0,vi 0,vi 0],sl:=none,arr:=none,ik:=none,fs:=some [(0,3),(1,3),(2,3),(3,3)],str:=false,ptr:=none,bl:=false }
def d06:TI:={ size:=1,bytes:=24,agg:=false,zero:=[.nil],sl:=some 69,arr:=none,ik:=none,fs:=none,str:=false,ptr:=none,bl:=false }
def d3I:TI:={ size:=1,bytes:=24,agg:=false,zero:=[.nil],sl:=some 31,arr:=none,ik:=none,fs:=none,str:=false,ptr:=none,bl:=false }
def d31:TI:={ size:=1,bytes:=24,agg:=false,zero:=[.nil],sl:=some 34,arr:=none,ik:=none,fs:=none,str:=false,ptr:=none,bl:=false }
def c9z:TI:={ size:=1,bytes:=24,agg:=false,zero:=[.nil],sl:=some 106,arr:=none,ik:=none,fs:=none,str:=false,ptr:=none,bl:=false }
def c9h:TI:={ size:=1,bytes:=24,agg:=false,zero:=[.nil],sl:=some 3,arr:=none,ik:=none,fs:=none,str:=false,ptr:=none,bl:=false }
def c6t:TI:={ size:=1,bytes:=24,agg:=false,zero:=[.nil],sl:=some 135,arr:=none,ik:=none,fs:=none,str:=false,ptr:=none,bl:=false }
def c54:TI:={ size:=3,bytes:=56,agg:=true,zero:=[vi 0,.nil,.nil],sl:=none,arr:=none,ik:=none,fs:=some [(0,3),(1,54),(2,60)],str:=false,ptr:=none,bl:=false }
def c8j:TI:={ size:=1,bytes:=24,agg:=false,zero:=[.nil],sl:=some 164,arr:=none,ik:=none,fs:=none,str:=false,ptr:=none,bl:=false }
def c7D:TI:={ size:=1,bytes:=24,agg:=false,zero:=[.nil],sl:=some 162,arr:=none,ik:=none,fs:=none,str:=false,ptr:=none,bl:=false }
def d0P:TI:={ size:=4,bytes:=64,agg:=true,zero:=[.nil,.nil,vi 0,vi 0],sl:=none,arr:=none,ik:=none,fs:=some [(0,64),(1,65),(2,3),(3,3)],str:=false,ptr:=none,bl:=false }
def c2R:TI:={ size:=7,bytes:=88,agg:=true,zero:=[.b false,vi 0,vi 0,.nil,.nil,vi 0,vi 0],sl:=none,arr:=none,ik:=none,fs:=some [(0,4),(1,31),(3,67)],str:=false,ptr:=none,bl:=false }
def d4g:TI:={ size:=5,bytes:=40,agg:=true,zero:=[vi 0,vi 0,vi 0,vi 0,vi 0],sl:=none,arr:=none,ik:=none,fs:=some [(0,3),(1,31),(3,3),(4,3)],str:=false,ptr:=none,bl:=false }
def c8s:TI:={ size:=1,bytes:=24,agg:=false,zero:=[.nil],sl:=some 118,arr:=none,ik:=none,fs:=none,str:=false,ptr:=none,bl:=false }
def c8x:TI:={ size:=2,bytes:=32,agg:=true,zero:=[.nil,vi 0],sl:=none,arr:=none,ik:=none,fs:=some [(0,22),(1,3)],str:=false,ptr:=none,bl:=false }
def d5f:TI:={ size:=1,bytes:=24,agg:=false,zero:=[.nil],sl:=some 155,arr:=none,ik:=none,fs:=none,str:=false,ptr:=none,bl:=false }
def d0O:TI:={ size:=2,bytes:=32,agg:=true,zero:=[vi 0,.nil],sl:=none,arr:=none,ik:=none,fs:=some [(0,3),(1,87)],str:=false,ptr:=none,bl:=false }
def c7e:TI:={ size:=1,bytes:=24,agg:=false,zero:=[.nil],sl:=some 4,arr:=none,ik:=none,fs:=none,str:=false,ptr:=none,bl:=false }
def d0i:TI:={ size:=27,bytes:=392,agg:=true,zero:=[vi 0,vi 0,.nil,.nil,vi 0,vi 0,vi 0,.nil,.nil,.b false,vi 0,vi 0,.nil,.nil,vi 0,vi 0,.nil,.b false,.nil,.b false,vi 0,vi 0,.nil,.nil,vi 0,vi 0,.nil],sl:=none,arr:=none,ik:=none,fs:=some [(0,3),(1,89),(3,49),(4,3),(5,3),(6,3),(7,90),(8,87),(9,69),(16,90),(17,4),(18,34),(19,69),(26,49)],str:=false,ptr:=none,bl:=false }
def d1Z:TI:={ size:=13,bytes:=152,agg:=true,zero:=[vi 0,vi 0,vi 0,vi 0,vi 0,.b false,vi 0,vi 0,.nil,.nil,vi 0,vi 0,.nil],sl:=none,arr:=none,ik:=none,fs:=some [(0,3),(1,3),(2,3),(3,3),(4,3),(5,69),(12,87)],str:=false,ptr:=none,bl:=false }
def b3I:TI:={ size:=2,bytes:=16,agg:=true,zero:=[vi 0,vi 0],sl:=none,arr:=none,ik:=none,fs:=some [(0,3),(1,3)],str:=false,ptr:=none,bl:=false }
def c6I:TI:={ size:=3,bytes:=40,agg:=true,zero:=[vi 0,vi 0,.nil],sl:=none,arr:=none,ik:=none,fs:=some [(0,3),(1,3),(2,34)],str:=false,ptr:=none,bl:=false }
def b9n:TI:={ size:=4,bytes:=32,agg:=true,zero:=[vi 0,vi 0,vi 0,vi 0],sl:=none,arr:=none,ik:=none,fs:=some [(0,31),(2,3),(3,3)],str:=false,ptr:=none,bl:=false }
def c0P:TI:={ size:=8,bytes:=96,agg:=true,zero:=[vi 0,.b false,vi 0,vi 0,.nil,.nil,vi 0,vi 0],sl:=none,arr:=none,ik:=none,fs:=some [(0,3),(1,69)],str:=false,ptr:=none,bl:=false }
def c62:TI:={ size:=4,bytes:=32,agg:=true,zero:=[vi 0,vi 0,vi 0,vi 0],sl:=none,arr:=some (4,3),ik:=none,fs:=none,str:=false,ptr:=none,bl:=false }
def c3O:TI:={ size:=2,bytes:=16,agg:=true,zero:=[vi 0,vi 0],sl:=none,arr:=none,ik:=none,fs:=some [(0,3),(1,3)],str:=false,ptr:=none,bl:=false }
def c1b:TI:={ size:=2,bytes:=16,agg:=true,zero:=[vi 0,vi 0],sl:=none,arr:=none,ik:=none,fs:=some [(0,3),(1,3)],str:=false,ptr:=none,bl:=false }
def c66:TI:={ size:=4,bytes:=4,agg:=true,zero:=[.b false,.b false,.b false,.b false],sl:=none,arr:=some (4,4),ik:=none,fs:=none,str:=false,ptr:=none,bl:=false }
def c2r:List (Nat×TI):=[(3,ti3),(4,ti4),(5,ti5),(22,d4x),(23,c7X),(24,d2V),(25,d3K),(26,d0A),(28,c7u),(31,b9t),(34,d1n),(45,d4m),(48,c4v),(49,d06),(51,d3I),(53,d31),(54,c9z),(55,c9h),(60,c6t),(62,c54),(64,c8j),(65,c7D),(67,d0P),(69,c2R),(76,d4g),(82,c8s),(86,c8x),(87,d5f),(89,d0O),(90,c7e),(92,d0i),(95,d1Z),(106,b3I),(118,c6I),(135,b9n),(155,c0P),(159,c62),(162,c3O),(164,c1b),(179,c66)]
def b7O:List (Nat×TI)→Nat→Option TI
 | [],_=>none
 | (k,x)::l,t=>if Nat.beq k t then some x else b7O l t
theorem e24 {l:List (Nat×TI)} {t:Nat} {x:TI} (h:b7O l t=some x):(t,x)∈l:=by
 induction l with
 | nil=>cases h
 | cons p l ih =>
  obtain ⟨k,y⟩:=p
  unfold b7O at h
  split at h
  ·rename_i hk
   have:k=t:=Nat.eq_of_beq_eq_true hk
   injection h with h
   subst this; subst h
   simp
  ·exact List.mem_cons.2 (.inr (ih h))
theorem e1E:H4 Tryz.prog 3=some ti3:=by kernel_rfl
theorem e9c:H4 Tryz.prog 4=some ti4:=by kernel_rfl
theorem e1S:H4 Tryz.prog 5=some ti5:=by kernel_rfl
theorem e1V:H4 Tryz.prog 22=some d4x:=by kernel_rfl
theorem e4j:H4 Tryz.prog 23=some c7X:=by kernel_rfl
theorem e7X:H4 Tryz.prog 24=some d2V:=by kernel_rfl
theorem e8A:H4 Tryz.prog 25=some d3K:=by kernel_rfl
theorem e8R:H4 Tryz.prog 26=some d0A:=by kernel_rfl
theorem e3W:H4 Tryz.prog 28=some c7u:=by kernel_rfl
theorem e2X:H4 Tryz.prog 31=some b9t:=by kernel_rfl
theorem e6I:H4 Tryz.prog 34=some d1n:=by kernel_rfl
theorem e0Q:H4 Tryz.prog 45=some d4m:=by kernel_rfl
theorem e78:H4 Tryz.prog 48=some c4v:=by kernel_rfl
theorem e5t:H4 Tryz.prog 49=some d06:=by kernel_rfl
theorem e2n:H4 Tryz.prog 51=some d3I:=by kernel_rfl
theorem e9d:H4 Tryz.prog 53=some d31:=by kernel_rfl
theorem e9k:H4 Tryz.prog 54=some c9z:=by kernel_rfl
theorem e1m:H4 Tryz.prog 55=some c9h:=by kernel_rfl
theorem e4t:H4 Tryz.prog 60=some c6t:=by kernel_rfl
theorem d6M:H4 Tryz.prog 62=some c54:=by kernel_rfl
theorem e08:H4 Tryz.prog 64=some c8j:=by kernel_rfl
theorem e0o:H4 Tryz.prog 65=some c7D:=by kernel_rfl
theorem e7D:H4 Tryz.prog 67=some d0P:=by kernel_rfl
theorem e22:H4 Tryz.prog 69=some c2R:=by kernel_rfl
theorem e48:H4 Tryz.prog 76=some d4g:=by kernel_rfl
theorem e3u:H4 Tryz.prog 82=some c8s:=by kernel_rfl
theorem e1Y:H4 Tryz.prog 86=some c8x:=by kernel_rfl
theorem e2k:H4 Tryz.prog 87=some d5f:=by kernel_rfl
theorem e6v:H4 Tryz.prog 89=some d0O:=by kernel_rfl
theorem e4X:H4 Tryz.prog 90=some c7e:=by kernel_rfl
theorem e0K:H4 Tryz.prog 92=some d0i:=by kernel_rfl
theorem e1I:H4 Tryz.prog 95=some d1Z:=by kernel_rfl
theorem e2x:H4 Tryz.prog 106=some b3I:=by kernel_rfl
theorem e5l:H4 Tryz.prog 118=some c6I:=by kernel_rfl
theorem d7i:H4 Tryz.prog 135=some b9n:=by kernel_rfl
theorem e8I:H4 Tryz.prog 155=some c0P:=by kernel_rfl
theorem e4W:H4 Tryz.prog 159=some c62:=by kernel_rfl
theorem d8O:H4 Tryz.prog 162=some c3O:=by kernel_rfl
theorem e4B:H4 Tryz.prog 164=some c1b:=by kernel_rfl
theorem d9f:H4 Tryz.prog 179=some c66:=by kernel_rfl
theorem e5z : ∀ p∈c2r,H4 Tryz.prog p.1=some p.2:=by
 intro p hp
 simp only [c2r,List.mem_cons,List.not_mem_nil,or_false] at hp
 rcases hp with rfl | rfl | rfl | rfl | rfl | rfl | rfl | rfl | rfl | rfl | rfl | rfl | rfl | rfl | rfl | rfl | rfl | rfl | rfl | rfl | rfl | rfl | rfl | rfl | rfl | rfl | rfl | rfl | rfl | rfl | rfl | rfl | rfl | rfl | rfl | rfl | rfl | rfl | rfl | rfl
 ·exact e1E
 ·exact e9c
 ·exact e1S
 ·exact e1V
 ·exact e4j
 ·exact e7X
 ·exact e8A
 ·exact e8R
 ·exact e3W
 ·exact e2X
 ·exact e6I
 ·exact e0Q
 ·exact e78
 ·exact e5t
 ·exact e2n
 ·exact e9d
 ·exact e9k
 ·exact e1m
 ·exact e4t
 ·exact d6M
 ·exact e08
 ·exact e0o
 ·exact e7D
 ·exact e22
 ·exact e48
 ·exact e3u
 ·exact e1Y
 ·exact e2k
 ·exact e6v
 ·exact e4X
 ·exact e0K
 ·exact e1I
 ·exact e2x
 ·exact e5l
 ·exact d7i
 ·exact e8I
 ·exact e4W
 ·exact d8O
 ·exact e4B
 ·exact d9f
def b0s (t:Nat):Option Nat:=if Nat.beq t 31 then some 2 else if Nat.beq t 48 then some 4 else if Nat.beq t 106 then some 2 else if Nat.beq t 162 then some 2 else if Nat.beq t 164 then some 2 else  none
theorem e4u (t m:Nat) (h:b0s t=some m) (xs ys:List Int) (w:World) (hx:xs.length=m) (hy:ys.length=m):(Op.equal t (.agg (xs.map (Value.int .i64)).toArray) (.agg (ys.map (Value.int .i64)).toArray)).run Tryz.prog w = .ok (xs==ys) w:=by
 unfold b0s at h
 split at h
 ·rename_i hk
  have hm:2=m:=Option.some.inj h
  rw [Nat.eq_of_beq_eq_true hk]
  exact e6Y xs ys w (hx.trans hm.symm) (hy.trans hm.symm)
 split at h
 ·rename_i hk
  have hm:4=m:=Option.some.inj h
  rw [Nat.eq_of_beq_eq_true hk]
  exact e8w xs ys w (hx.trans hm.symm) (hy.trans hm.symm)
 split at h
 ·rename_i hk
  have hm:2=m:=Option.some.inj h
  rw [Nat.eq_of_beq_eq_true hk]
  exact e0e xs ys w (hx.trans hm.symm) (hy.trans hm.symm)
 split at h
 ·rename_i hk
  have hm:2=m:=Option.some.inj h
  rw [Nat.eq_of_beq_eq_true hk]
  exact e7d xs ys w (hx.trans hm.symm) (hy.trans hm.symm)
 split at h
 ·rename_i hk
  have hm:2=m:=Option.some.inj h
  rw [Nat.eq_of_beq_eq_true hk]
  exact d93 xs ys w (hx.trans hm.symm) (hy.trans hm.symm)
 cases h
theorem d9p (t m:Nat) (h:b0s t=some m):Tryz.prog.eqGuardType Tryz.prog.depth t=false:=by
 unfold b0s at h
 split at h
 ·rename_i hk
  have hm:2=m:=Option.some.inj h
  rw [Nat.eq_of_beq_eq_true hk]
  exact Tryz.eqGuardType31
 split at h
 ·rename_i hk
  have hm:4=m:=Option.some.inj h
  rw [Nat.eq_of_beq_eq_true hk]
  exact Tryz.eqGuardType48
 split at h
 ·rename_i hk
  have hm:2=m:=Option.some.inj h
  rw [Nat.eq_of_beq_eq_true hk]
  exact Tryz.eqGuardType106
 split at h
 ·rename_i hk
  have hm:2=m:=Option.some.inj h
  rw [Nat.eq_of_beq_eq_true hk]
  exact Tryz.eqGuardType162
 split at h
 ·rename_i hk
  have hm:2=m:=Option.some.inj h
  rw [Nat.eq_of_beq_eq_true hk]
  exact Tryz.eqGuardType164
 cases h
theorem e3h:Tryz.prog.underlying 79=some (.map 31 4):=by kernel_rfl
theorem e6w (w:World):(zeroValue 4).run Tryz.prog w = .ok (.bool false) w:=by kernel_rfl
theorem d7a (em:Bool) (xs:List Int) (w:World) (h:xs.length=2):(Instr.checkKey em 10000 31 (kv xs)).run Tryz.prog w = .ok () w:=by
 match xs,h with
 | [x0,x1],_ =>
  refine e4R (n:=9999) Tryz.underlying31 fun f hf => ?_
  simp only [List.mem_cons,List.not_mem_nil,or_false] at hf
  rcases hf with rfl | rfl
  ·exact ⟨.int .i64 x0,by first | (go_simp; done) | (go_simp; rfl),d4c (n:=9998) Tryz.underlying3⟩
  ·exact ⟨.int .i64 x1,by first | (go_simp; done) | (go_simp; rfl),d4c (n:=9998) Tryz.underlying3⟩
def c39 (t:Nat):Option (Nat×Nat×V):=if Nat.beq t 79 then some (31,2,.b false) else  none
theorem e6C (t kt m:Nat) (z:V) (h:c39 t=some (kt,m,z)) : ∃ vt,Tryz.prog.underlying t=some (.map kt vt)∧b0s kt=some m∧b5C (Tryz.prog.underlying kt)=true∧(∀ w,(zeroValue vt).run Tryz.prog w = .ok z.conc w)∧z.simple=true ∧ ∀ (em:Bool) (xs:List Int) (w:World),xs.length=m→(Instr.checkKey em 10000 kt (kv xs)).run Tryz.prog w = .ok () w:=by
 unfold c39 at h
 split at h
 ·rename_i hk
  injection h with h
  injection h with h1 h
  injection h with h2 h3
  subst h1; subst h2; subst h3
  obtain rfl:=Nat.eq_of_beq_eq_true hk
  exact ⟨4,e3h,rfl,by rw [Tryz.underlying31]; rfl,e6w,rfl,d7a⟩
 cases h
theorem e3i:Tryz.prog.follows .mixedOrders=true:=by kernel_rfl
noncomputable def cx:Cx where
 P:=Tryz.prog
 mixed:=e3i
 T:=b7O c2r
 hT:=fun t ti h=>e5z (t,ti) (e24 h)
 E:=b0s
 hE:=e4u
 hG:=d9p
 M:=c39
 hM:=e6C
abbrev t7:=List (Option V)
section
structure FS (α:Type) where
 f:Nat
 fn:Func
 m:List PM
 o:List (Option (Nat×PM))
 ms:List PM
 R:α→V
 O:α→List (Option V)
 h:cx.P.funcs[f]?=some fn
def FS.X {α:Type} (q:FS α):Sig:=⟨q.f,q.fn,q.m,q.o⟩
def FS.c {α:Type} (q:FS α):Code:=c0z q.fn
def FS.t {α:Type} (q:FS α) (i:Nat) (fr:Bool) (r:α):Nat×N2:=(i,{ a:=.call q.ms fr (q.R r) (q.O r) })
def FS.k {α:Type} (q:FS α) (i:Nat) (l:List Bool):List Item:=a31 2000 i l [.code q.c]
variable {cx:Cx} {X:Sig} {res:V} {outs:List (Option V)} {k:List Item} {S:St} {sc:a1s} {ps:List Prop} {r:List (Nat×N2)} {α β:Type} {v:β}
theorem q9 (X:Sig) (c:Code) {args:List V} {res:V} {outs:List (Option V)} (hf:cx.P.funcs[X.f]?=some X.fn) (h:cx.P.funcs[X.f]?=some X.fn→Pt cx X res outs [.code c] (a9m X args) [] []) (hb:X.fn.body=some c:=by kernel_rfl) (hn:(X.fn.name == "runtime.NumGoroutine")=false:=by kernel_rfl) (ho:a4L 0 X.oms args=true:=by kernel_rfl):o7 cx.P X.f args res outs:=o7.of hf hb hn ho (P0 (h hf))
theorem o6 {α:Type} (a:List α) (h:Pt cx X res outs k S sc ((a.length=a.length)::ps)):Pt cx X res outs k S sc ps:=ob rfl h
theorem H5 {α β:Type} (a:List α) (b:List β) (h:Pt cx X res outs k S sc ((b.length=b.length)::(a.length=a.length)::ps)):Pt cx X res outs k S sc ps:=ob rfl (ob rfl h)
theorem ol3 {α β γ:Type} (a:List α) (b:List β) (c:List γ) (h:Pt cx X res outs k S sc ((c.length=c.length)::(b.length=b.length)::(a.length=a.length)::ps)):Pt cx X res outs k S sc ps:=ob rfl (ob rfl (ob rfl h))
theorem p8 {α β γ δ:Type} (a:List α) (b:List β) (c:List γ) (d:List δ) (h:Pt cx X res outs k S sc ((d.length=d.length)::(c.length=c.length)::(b.length=b.length)::(a.length=a.length)::ps)):Pt cx X res outs k S sc ps:=ob rfl (ob rfl (ob rfl (ob rfl h)))
theorem z6 (q:FS α) {x y:α} (h:some x=some y):q.R y=q.R x∧q.O y=q.O x:=⟨congrArg q.R (Option.some.inj h).symm,congrArg q.O (Option.some.inj h).symm⟩
theorem tk (i:Nat) (c:List (Option Nat)) (h:Pt cx X res outs k S (((i,{ a:=.ck c })::r)::sc) ps):Pt cx X res outs k S (r::sc) ps:=tl _ h
theorem oa (g j sz:Nat) {α:Type} (a b:List α) (h:Pt cx X res outs k S sc ((V.own g j sz 0 (a.length+b.length) = .own g j sz 0 (a++b).length)::ps)):Pt cx X res outs k S sc ps:=ob (congrArg (V.own g j sz 0) List.length_append.symm) h
theorem oz (e sz:Nat) {α:Type} (f:α→List V) (a b:List α) (h:Pt cx X res outs k S sc ((s6.row e sz (a.length+b.length) (a.map f++b.map f)=m4 e sz f (a++b))::ps)):Pt cx X res outs k S sc ps:=ob (d6g rfl rfl) h
theorem l8 (q:FS α) {m:Option α} {p:α→Prop} (ok : ∀ x,m=some x→p x) (i:Nat) {f:α→Option β} (h:m.bind f=some v) (g : ∀ x,f x=some v→Pt cx X res outs k S ((q.t i false x::r)::sc) (p x::ps)):Pt cx X res outs k S (r::sc) ps:=cb q.t ok i false h g
theorem N1 (q:FS α) {m:Option α} {p:α→Prop} (ok : ∀ x,m=some x→p x) (i:Nat) {f:α→Option β} (h:m.bind f=some v) (g : ∀ x,f x=some v→Pt cx X res outs k S ((q.t i true x::r)::sc) (p x::ps)):Pt cx X res outs k S (r::sc) ps:=cb q.t ok i true h g
end
noncomputable def L4 (x_:j3):List V:=[vi x_.Id,vi x_.Acc.g7,o8 155 8 s9 x_.Acc.a0,o8 69 7 p9 x_.a6,vi x_.Seq,vi x_.d8,vi x_.b5,o8 4 1 eB x_.b6,j8 8 s9 x_.i5,.b x_.d6.g8,vi x_.d6.a5.b9,vi x_.d6.a5.Seq,j8 2 t8 x_.d6.a9.a7,j8 2 u0 x_.d6.a9.a8,vi x_.d6.a9.c9,vi x_.d6.a9.Code,o8 4 1 eB x_.a0,.b x_.i7,j8 4 A3 x_.i4,.b x_.c8.g8,vi x_.c8.a5.b9,vi x_.c8.a5.Seq,j8 2 t8 x_.c8.a9.a7,j8 2 u0 x_.c8.a9.a8,vi x_.c8.a9.c9,vi x_.c8.a9.Code,o8 69 7 p9 x_.b8]
noncomputable def a0I (x_:m3):List V:=[a3x 92 27 v5 x_.Nodes,o8 95 13 w9 x_.Net,o8 45 3 D3 x_.Asked,o8 76 5 B3 x_.Told]
noncomputable def b09 (x_:j3):List V:=[o8 69 7 p9 x_.a6,vi x_.Seq,vi x_.d8,vi x_.b5,o8 4 1 eB x_.b6,j8 8 s9 x_.i5,.b x_.d6.g8,vi x_.d6.a5.b9,vi x_.d6.a5.Seq,j8 2 t8 x_.d6.a9.a7,j8 2 u0 x_.d6.a9.a8,vi x_.d6.a9.c9,vi x_.d6.a9.Code,o8 4 1 eB x_.a0,.b x_.i7,j8 4 A3 x_.i4,.b x_.c8.g8,vi x_.c8.a5.b9,vi x_.c8.a5.Seq,j8 2 t8 x_.c8.a9.a7,j8 2 u0 x_.c8.a9.a8,vi x_.c8.a9.c9,vi x_.c8.a9.Code,o8 69 7 p9 x_.b8]
noncomputable def a1r (x_:j3):List V:=[j8 8 s9 x_.i5,.b x_.d6.g8,vi x_.d6.a5.b9,vi x_.d6.a5.Seq,j8 2 t8 x_.d6.a9.a7,j8 2 u0 x_.d6.a9.a8,vi x_.d6.a9.c9,vi x_.d6.a9.Code]
noncomputable def a0Y (x_:j3):List V:=[.b x_.i7,j8 4 A3 x_.i4,.b x_.c8.g8,vi x_.c8.a5.b9,vi x_.c8.a5.Seq,j8 2 t8 x_.c8.a9.a7,j8 2 u0 x_.c8.a9.a8,vi x_.c8.a9.c9,vi x_.c8.a9.Code]
noncomputable def a9o (x_:m9):List V:=[o8 164 2 t8 x_.a7,o8 162 2 u0 x_.a8,vi x_.c9,vi x_.Code]
noncomputable def a5W (x_:l7):List V:=[.b x_.g8,vi x_.a5.b9,vi x_.a5.Seq,j8 2 t8 x_.a9.a7,j8 2 u0 x_.a9.a8,vi x_.a9.c9,vi x_.a9.Code]
noncomputable def a78 (x_:j3):List V:=[vi x_.Id,vi x_.Acc.g7,j8 8 s9 x_.Acc.a0,j8 7 p9 x_.a6,vi x_.Seq,vi x_.d8,vi x_.b5,j8 1 eB x_.b6,j8 8 s9 x_.i5,.b x_.d6.g8,vi x_.d6.a5.b9,vi x_.d6.a5.Seq,j8 2 t8 x_.d6.a9.a7,j8 2 u0 x_.d6.a9.a8,vi x_.d6.a9.c9,vi x_.d6.a9.Code,j8 1 eB x_.a0,.b x_.i7,j8 4 A3 x_.i4,.b x_.c8.g8,vi x_.c8.a5.b9,vi x_.c8.a5.Seq,j8 2 t8 x_.c8.a9.a7,j8 2 u0 x_.c8.a9.a8,vi x_.c8.a9.c9,vi x_.c8.a9.Code,j8 7 p9 x_.b8]
noncomputable def a1U (x_:m9):List V:=[j8 2 t8 x_.a7,j8 2 u0 x_.a8,vi x_.c9,vi x_.Code]
noncomputable def b4k (x_:j7):List V:=[vi x_.b7,vi x_.b6,vi x_.To,vi x_.b5,vi x_.g9,.b x_.i0.g8,vi x_.i0.a5.b9,vi x_.i0.a5.Seq,j8 2 t8 x_.i0.a9.a7,j8 2 u0 x_.i0.a9.a8,vi x_.i0.a9.c9,vi x_.i0.a9.Code,j8 8 s9 x_.a0]
noncomputable def M0 (x_:m3):List V:=[j8 27 T9 x_.Nodes,j8 13 w9 x_.Net,j8 3 D3 x_.Asked,j8 5 B3 x_.Told]
noncomputable def a1H:FS (n4):=⟨16,Tryz.f16,[.ptr [some 1,none] []],[none],[.val [some 1] []],fun r=>.optr 86 (a0J r),fun _=>[none],Tryz.func16⟩
noncomputable def c6F:List Item:=a1H.k 3 [true]
noncomputable def d1N (b1j:List Int):St:=⟨(j8 1 L2 b1j::(bs 10 [])),[some []]⟩
noncomputable def c0q (b1j:List Int):Option n4 :=
 some (n4.mk b1j 0)
theorem e4D (r:n4) (b1j:List Int) (h:c0q b1j=some r):j6 cx a1H.X (a1H.R r) (a1H.O r) c6F (d1N b1j) :=
 P0<|rg<|fe a1H.h h
noncomputable def b4c (J4:List Int):Option n4 :=
 (((bif decide ((J4.length:Int)>2000) then (t5 ((0:Int)≤2000∧2000≤(J4.length:Int)) (some (j9.brk ((J4.drop 0).take ((2000:Int).toNat - 0))))) else some (j9.brk J4)):Option (j9 n4 (List Int))).bind fun x=>x.go some fun j=>c0q j)
theorem d4f {J4:List Int} (r:n4) (h:b4c J4=some r):o7 cx.P 16 [j8 1 L2 J4] (a1H.R r) (a1H.O r) :=
 q9 a1H.X a1H.c a1H.h (fun z=>rg<|D8 (I:=fun j:List Int=>j6 cx a1H.X (a1H.R r) (a1H.O r) c6F (d1N j)) h (fun j h=>e4D r j h) (fun x1 h hc1=>rg<|i9 2 h (fun h=>rg<|u6 h fun e1 h=>om (V.sl 1 ((2000:Int).toNat - 0) (((J4.map L2).drop 0).take ((2000:Int).toNat - 0))=j8 1 L2 ((J4.drop 0).take ((2000:Int).toNat - 0))) (c20 e1)<|ob e1.1<|ob e1.2<|tl (1,{ v:=some (j8 1 L2 ((J4.drop 0).take ((2000:Int).toNat - 0))) })<|(s7 h hc1 fun hI=>sg [] [0] [] hI)) (fun h=>(s7 h hc1 fun hI=>sg [] [0] [] hI))))
noncomputable def a9e:FS (j3):=⟨73,Tryz.f73,[.val N3 [none,none,some 155,some 69,none,none,none,some 4,none,none,none,none,none,none,none,none,some 4,none,none,none,none,none,none,none,none,none,some 69]],[none],[.val [] []],fun r=>.agg (L4 r),fun _=>[none],Tryz.func73⟩
noncomputable def c1H (id:Int):Option j3 :=
 (bif decide (id<0) then some (j3.mk 0 (A4.mk 0 []) [] 0 0 0 [] [] (l7.mk false (n9.mk 0 0) (m9.mk [] [] 0 0)) [] false [] (l7.mk false (n9.mk 0 0) (m9.mk [] [] 0 0)) []) else (bif decide (id≥3) then some (j3.mk 0 (A4.mk 0 []) [] 0 0 0 [] [] (l7.mk false (n9.mk 0 0) (m9.mk [] [] 0 0)) [] false [] (l7.mk false (n9.mk 0 0) (m9.mk [] [] 0 0)) []) else some (j3.mk id (A4.mk 0 []) [] 0 0 0 [] [] (l7.mk false (n9.mk 0 0) (m9.mk [] [] 0 0)) [] false [] (l7.mk false (n9.mk 0 0) (m9.mk [] [] 0 0)) [])))
theorem d9A {id:Int} (r:j3) (h:c1H id=some r):o7 cx.P 73 [vi id] (a9e.R r) (a9e.O r) :=
 q9 a9e.X a9e.c a9e.h (fun z=>p6<|i9 2 h (fun h=>rg<|fe z h) (fun h=>i9 5 h (fun h=>rg<|fe z h) (fun h=>rg<|fe z h)))
noncomputable def X8:FS (m3):=⟨40,Tryz.f40,[.val P2 [some 1000092,some 95,some 45,some 76]],[],[],fun r=>.agg (a0I r),fun _=>[],Tryz.func40⟩
noncomputable def c9J:List Item:=X8.k 4 [false]
noncomputable def c9U (A0:List j3):St:=⟨(.ptr 1 0 0::(.ptr 2 0 0::(bs 14 []))),[some [],some [.var 28 [.nil,.nil,.nil,.nil]],some [.var 28 [.own 3 0 27 0 A0.length,.nil,.nil,.nil]],some [C9 92 27 v5 A0]]⟩
noncomputable def d43 (A0:List j3):Option m3 :=
 some (m3.mk A0 [] [] [])
theorem e82 (r:m3) (A0:List j3) (h:d43 A0=some r):j6 cx X8.X (X8.R r) (X8.O r) c9J (c9U A0) :=
 P0<|rg<|o6 A0<|fe X8.h h
noncomputable def c2j:List Item:=X8.k 3 []
noncomputable def b9p (Nodes:List j3) (i:Int):St:=⟨(.ptr 1 0 0::(.ptr 2 0 0::(vi i::(bs 13 [])))),[some [],some [.var 28 [.nil,.nil,.nil,.nil]],some [.var 28 [.own 3 0 27 0 Nodes.length,.nil,.nil,.nil]],some [C9 92 27 v5 Nodes]]⟩
noncomputable def d6F (a03:j3):List V:=(L4 a03)
noncomputable def a4v (Nodes:List j3) (i:Int):Option (j5 m3 ((List j3)×Int) (List j3)) :=
 (bif decide (i<3) then ((c1H i).bind fun a03=>(t5 ((Nodes.length+1) * 392≤140737488355328) (some (j5.nxt (Nodes++[a03],n8 (i+1)))))) else some (j5.brk Nodes))
set_option maxRecDepth 20000 in
theorem d8b (res:V) (outs:t7) (x1:j9 m3 (List j3)) (hb1:HB cx X8.X res outs x1 c9J c9U) (hr1:HR res outs x1 X8.R X8.O) (st1:j5 m3 ((List j3)×Int) (List j3)) (hc1:t6 x1 (fun s:(List j3)×Int=>j6 cx X8.X res outs c2j (b9p s.1 s.2)) st1) (Nodes:List j3) (i:Int) (h:a4v Nodes i=some st1):j6 cx X8.X res outs c2j (b9p Nodes i) :=
 P0<|rg<|i9 1 h (fun h=>rg<|l8 a9e d9A 3 h fun a03 h=>om (s6.deep false 92 27 1 [(d6F a03)]=C9 92 27 v5 [a03]) rfl<|p8 a03.Acc.a0 a03.a6 a03.b6 a03.a0<|o6 a03.b8<|tl (4,{ a:=.dck [none,none,some 8,some 7,none,none,none,some 1,some 8,none,none,none,some 2,some 2,none,none,some 1,none,some 4,none,none,none,some 2,some 2,none,none,some 7] [none,none,some 155,some 69,none,none,none,some 4,none,none,none,none,none,none,none,none,some 4,none,none,none,none,none,none,none,none,none,some 69],e:=some (C9 92 27 v5 [a03]) })<|u6 h fun e1 h=>om (V.own 11 0 27 0 (Nodes.length+1) = .own 11 0 27 0 (Nodes++[a03]).length) (by simp)<|om (s6.deep false 92 27 (Nodes.length+1) (Nodes.map v5++[v5 a03])=C9 92 27 v5 (Nodes++[a03])) (c1n rfl)<|o6 Nodes<|ob e1<|om (1=1) rfl<|tl (5,{ a:=.dck [] [],v:=some (.own 11 0 27 0 (Nodes++[a03]).length),e:=some (C9 92 27 v5 (Nodes++[a03])) })<|rg<|(x6 h hc1 fun hI=>sg [] [0,1,2] [(1,0),(2,0),(11,0)] hI)) (fun h=>(x5 h hc1 fun e=>sg [] [0,1] [(1,0),(2,0),(3,0)] (hb1 _ e)))
noncomputable def b4a:Option m3 :=
 ((q7 (fun s:(List j3)×Int=>a4v s.1 s.2) ([],0)).bind fun x=>x.go (fun r=>some r) fun s=>d43 s)
theorem d0n (r:m3) (h:b4a=some r):o7 cx.P 40 [] (X8.R r) (X8.O r) :=
 q9 X8.X X8.c X8.h (fun z=>rg3<|z3 h fun x hl hr hb=>sg [.ownD (.cell 3 0 0) 92 27] [0,1,2] [(1,0),(3,0),(6,0)] (z4 (I:=fun s:(List j3)×Int=>j6 cx X8.X (X8.R r) (X8.O r) c2j (b9p s.1 s.2)) hl fun s st h hc=>d8b _ _ x (fun s e=>e82 r s (hb s e)) (fun v e=>z6 X8 (hr v e)) st hc s.1 s.2 h))
noncomputable def E5:FS (Int×n4):=⟨17,Tryz.f17,[.val [] []],[some (0,.ptr [some 1,none] []),none],[.ptr [some 1,none] [],.val [] []],fun r=>vi r.1,fun r=>[some (.optr 86 (a0J r.2)),none],Tryz.func17⟩
noncomputable def F3 (r_:n4) (n:Int):Option (Int×n4) :=
 (bif decide (n<1) then some (0,(n4.mk r_.b (n8 (r_.p+1)))) else (bif ((r_.b.length:Int)==0) then some (0,(n4.mk r_.b (n8 (r_.p+1)))) else (bif decide ((n8 ((n8 (r_.p+1)) - 1))<(r_.b.length:Int)) then ((idx r_.b (n8 ((n8 (r_.p+1)) - 1))).bind fun y=>(t5 (n≠0) (some (Int.tmod (n8 y) n,(n4.mk r_.b (n8 (r_.p+1))))))) else (t5 ((r_.b.length:Int)≠0) (((idx r_.b (Int.tmod (n8 ((n8 (r_.p+1)) - 1)) (r_.b.length:Int))).bind fun y1=>(t5 ((r_.b.length:Int)≠0) (((idx r_.b (Int.tmod (n8 ((n8 ((n8 ((n8 (r_.p+1)) - 1)) * 7))+3)) (r_.b.length:Int))).bind fun y2=>(t5 ((r_.b.length:Int)≠0) ((t5 (n≠0) (some (Int.tmod (a6L .i64 (n8 ((n8 ((n8 ((n8 ((n8 y1) * 131))+(n8 ((n8 y2) * 1117))))+(n8 ((n8 ((n8 (r_.p+1)) - 1)) * 29))))+(n8 ((n8 (Int.tdiv (n8 ((n8 (r_.p+1)) - 1)) (r_.b.length:Int))) * 53)))) (n8 (Int.tdiv (n8 ((n8 ((n8 ((n8 ((n8 y1) * 131))+(n8 ((n8 y2) * 1117))))+(n8 ((n8 ((n8 (r_.p+1)) - 1)) * 29))))+(n8 ((n8 (Int.tdiv (n8 ((n8 (r_.p+1)) - 1)) (r_.b.length:Int))) * 53)))) 64))) n,(n4.mk r_.b (n8 (r_.p+1)))))))))))))))))
theorem G3 {r_:n4} {n:Int} (r:Int×n4) (h:F3 r_ n=some r):o7 cx.P 17 [.optr 86 (a0J r_),vi n] (E5.R r) (E5.O r) :=
 q9 E5.X E5.c E5.h (fun z=>rg3<|i9 2 h (fun h=>rg<|fe z h) (fun h=>i9 9 h (fun h=>rg<|fe z h) (fun h=>p6<|i9 6 h (fun h=>rg<|w8 L2 5 h fun y hy h=>u6 h fun e1 h=>ob e1<|fe z h) (fun h=>rg<|u6 h fun e2 h=>ob e2<|w8 L2 11 h fun y1 hy1 h=>u6 h fun e3 h=>ob e3<|w8 L2 28 h fun y2 hy2 h=>u6 h fun e4 h=>ob e4<|rg<|om (64≠(0:Int)) (by decide)<|rg<|u6 h fun e5 h=>ob e5<|fe z h))))
noncomputable def a9E:FS (m9):=⟨134,Tryz.f134,[.val W4 []],[none],[.val W4 []],fun r=>.agg (W0 r),fun _=>[none],Tryz.func134⟩
noncomputable def b9x (r_:m9):Option m9 :=
 (t5 ((([]:List n5).length+r_.a7.length) * 16≤140737488355328) ((t5 ((([]:List m8).length+r_.a8.length) * 16≤140737488355328) (some (m9.mk (([]:List n5)++r_.a7) (([]:List m8)++r_.a8) r_.c9 r_.Code)))))
theorem e8U {r_:m9} (r:m9) (h:b9x r_=some r):o7 cx.P 134 [.agg (W0 r_)] (a9E.R r) (a9E.O r) :=
 q9 a9E.X a9E.c a9E.h (fun z=>p6<|tk 0 []<|u6 h fun e1 h=>oa 6 0 2 ([]:List n5) r_.a7<|oz 164 2 t8 ([]:List n5) r_.a7<|om (0=([]:List n5).length) (by rfl)<|ob e1<|tl (3,{ v:=some (.own 6 0 2 0 (([]:List n5)++r_.a7).length),e:=some (m4 164 2 t8 (([]:List n5)++r_.a7)) })<|tk 4 []<|u6 h fun e2 h=>oa 10 0 2 ([]:List m8) r_.a8<|oz 162 2 u0 ([]:List m8) r_.a8<|om (0=([]:List m8).length) (by rfl)<|ob e2<|tl (7,{ v:=some (.own 10 0 2 0 (([]:List m8)++r_.a8).length),e:=some (m4 162 2 u0 (([]:List m8)++r_.a8)) })<|H5 (([]:List n5)++r_.a7) (([]:List m8)++r_.a8)<|fe z h)
noncomputable def a0w:FS (l7):=⟨97,Tryz.f97,[.val T4 []],[none],[.val T4 []],fun r=>.agg (p9 r),fun _=>[none],Tryz.func97⟩
noncomputable def a0R (e_:l7):Option l7 :=
 ((b9x e_.a9).bind fun d2J=>some (l7.mk e_.g8 e_.a5 d2J))
theorem a1L {e_:l7} (r:l7) (h:a0R e_=some r):o7 cx.P 97 [.agg (p9 e_)] (a0w.R r) (a0w.O r) :=
 q9 a0w.X a0w.c a0w.h (fun z=>p6<|l8 a9E e8U 6 h fun d2J h=>fe z h)
noncomputable def V0:FS (List m6):=⟨140,Tryz.f140,[.val [some 8] [some 155]],[none],[.val [some 8] []],fun r=>o8 155 8 s9 r,fun _=>[none],Tryz.func140⟩
noncomputable def c8L:List Item:=V0.k 4 [false]
noncomputable def c7o (out1:List m6):St:=⟨(bs 3 (.own 1 0 8 0 out1.length::(bs 24 []))),[some [],some [m4 155 8 s9 out1]]⟩
noncomputable def c6C (out1:List m6):Option (List m6) :=
 some out1
theorem e8F (r:List m6) (out1:List m6) (h:c6C out1=some r):j6 cx V0.X (V0.R r) (V0.O r) c8L (c7o out1) :=
 P0<|rg<|o6 out1<|fe V0.h h
noncomputable def c4R:List Item:=V0.k 3 []
noncomputable def c1f (i8:List m6) (out:List m6) (i:Int):St:=⟨(j8 8 s9 i8::(bs 2 (.own 1 0 8 0 out.length::(vi i::(bs 23 []))))),[some [],some [m4 155 8 s9 out]]⟩
noncomputable def b1Z (i8:List m6) (out:List m6) (i:Int):Option (j5 (List m6) ((List m6)×Int) (List m6)) :=
 (bif decide (i<(i8.length:Int)) then ((idx i8 i).bind fun F7=>((a0R F7.i0).bind fun C8=>(t5 ((out.length+1) * 96≤140737488355328) (some (j5.nxt (out++[(m6.mk F7.b5 C8)],n8 (i+1))))))) else some (j5.brk out))
theorem e2U (i8:List m6) (res:V) (outs:t7) (x1:j9 (List m6) (List m6)) (hb1:HB cx V0.X res outs x1 c8L c7o) (hr1:HR res outs x1 V0.R V0.O) (st1:j5 (List m6) ((List m6)×Int) (List m6)) (hc1:t6 x1 (fun s:(List m6)×Int=>j6 cx V0.X res outs c4R (c1f i8 s.1 s.2)) st1) (out:List m6) (i:Int) (h:b1Z i8 out i=some st1):j6 cx V0.X res outs c4R (c1f i8 out i) :=
 P0<|rg<|i9 3 h (fun h=>rg<|w8 s9 3 h fun F7 a0C h=>Q9 s9 8 a0C<|l8 a0w a1L 11 h fun C8 h=>tk 13 a3I<|u6 h fun e1 h=>M1 14 20 155 8 96 s9 out (m6.mk F7.b5 C8) e1<|om (1=[(m6.mk F7.b5 C8)].length) (by rfl)<|rg<|(x6 h hc1 fun hI=>sg [] [0,3,4] [(20,0)] hI)) (fun h=>(x5 h hc1 fun e=>sg [] [3] [(1,0)] (hb1 _ e)))
noncomputable def a8f (i8:List m6):Option (List m6) :=
 ((q7 (fun s:(List m6)×Int=>b1Z i8 s.1 s.2) (([]:List m6),0)).bind fun x=>x.go (fun r=>some r) fun s=>c6C s)
theorem b6n {i8:List m6} (r:List m6) (h:a8f i8=some r):o7 cx.P 140 [j8 8 s9 i8] (V0.R r) (V0.O r) :=
 q9 V0.X V0.c V0.h (fun z=>p6<|tk 0 a3I<|rg<|z3 h fun x hl hr hb=>om ((.own 2 0 8 0 0:V) = .own 2 0 8 0 ([]:List m6).length) (by simp)<|sg [.is (.tmp 3) (.own 2 0 8 0 ([]:List m6).length)] [0,3,4] [(2,0)] (z4 (I:=fun s:(List m6)×Int=>j6 cx V0.X (V0.R r) (V0.O r) c4R (c1f i8 s.1 s.2)) hl fun s st h hc=>e2U i8 _ _ x (fun s e=>e8F r s (hb s e)) (fun v e=>z6 V0 (hr v e)) st hc s.1 s.2 h))
noncomputable def a5e:FS (j7):=⟨109,Tryz.f109,[.val G0 []],[none],[.val G0 []],fun r=>.agg (w9 r),fun _=>[none],Tryz.func109⟩
noncomputable def a79 (m:j7):Option j7 :=
 ((a0R m.i0).bind fun C8=>((a8f m.a0).bind fun a0Q=>some (j7.mk m.b7 m.b6 m.To m.b5 m.g9 C8 a0Q)))
theorem b53 {m:j7} (r:j7) (h:a79 m=some r):o7 cx.P 109 [.agg (w9 m)] (a5e.R r) (a5e.O r) :=
 q9 a5e.X a5e.c a5e.h (fun z=>rg3<|l8 a0w a1L 2 h fun C8 h=>rg<|l8 V0 b6n 2 h fun a0Q h=>rg<|o6 a0Q<|fe z h)
noncomputable def Q2:FS (m3):=⟨116,Tryz.f116,[.val P2 [some 1000092,some 95,some 45,some 76]],[none,none],[.val [some 27,some 13,some 3,some 5] [some 1000092,some 95,some 45,some 76],.val [some 13] []],fun r=>.agg (a0I r),fun _=>[none,none],Tryz.func116⟩
noncomputable def d1W:List Item:=Q2.k 3 [false]
noncomputable def d1K (w:m3) (C0:List j7):St:=⟨(bs 2 (.ptr 1 0 0::(bs 1 (.ptr 3 0 0::(bs 24 []))))),[some [C9 92 27 v5 w.Nodes,.dead,m4 45 3 D3 w.Asked,m4 76 5 B3 w.Told],some [.var 28 [.own 0 0 27 0 w.Nodes.length,.own 2 0 13 0 C0.length,.own 0 2 3 0 w.Asked.length,.own 0 3 5 0 w.Told.length]],some [m4 95 13 w9 C0],some [.var 28 [.nil,.nil,.nil,.nil]]]⟩
noncomputable def c7b (w:m3) (C0:List j7):Option m3 :=
 some (m3.mk w.Nodes C0 w.Asked w.Told)
theorem d6N (w:m3) (r:m3) (C0:List j7) (h:c7b w C0=some r):j6 cx Q2.X (Q2.R r) (Q2.O r) d1W (d1K w C0) :=
 P0<|rg<|p8 w.Nodes C0 w.Asked w.Told<|fe Q2.h h
noncomputable def c2K:List Item:=Q2.k 2 []
noncomputable def c0f (w:m3) (i8:List j7) (Net:List j7) (i:Int):St:=⟨(bs 1 (j8 13 w9 i8::(.ptr 1 0 0::(bs 1 (.ptr 2 0 0::(vi i::(bs 23 []))))))),[some [C9 92 27 v5 w.Nodes,.dead,m4 45 3 D3 w.Asked,m4 76 5 B3 w.Told],some [.var 28 [.own 0 0 27 0 w.Nodes.length,.own 3 0 13 0 Net.length,.own 0 2 3 0 w.Asked.length,.own 0 3 5 0 w.Told.length]],some [.var 28 [.nil,.nil,.nil,.nil]],some [m4 95 13 w9 Net]]⟩
noncomputable def a3V (i8:List j7) (Net:List j7) (i:Int):Option (j5 m3 ((List j7)×Int) (List j7)) :=
 (bif decide (i<(i8.length:Int)) then (bif decide ((Net.length:Int)<40) then ((idx i8 i).bind fun msg=>((a79 msg).bind fun I0=>(t5 ((Net.length+1) * 152≤140737488355328) (some (j5.nxt (Net++[I0],n8 (i+1))))))) else some (j5.brk Net)) else some (j5.brk Net))
theorem e72 (w:m3) (i8:List j7) (res:V) (outs:t7) (x1:j9 m3 (List j7)) (hb1:HB cx Q2.X res outs x1 d1W (d1K w)) (hr1:HR res outs x1 Q2.R Q2.O) (st1:j5 m3 ((List j7)×Int) (List j7)) (hc1:t6 x1 (fun s:(List j7)×Int=>j6 cx Q2.X res outs c2K (c0f w i8 s.1 s.2)) st1) (Net:List j7) (i:Int) (h:a3V i8 Net i=some st1):j6 cx Q2.X res outs c2K (c0f w i8 Net i) :=
 P0<|rg<|i9 4 h (fun h=>i9 9 h (fun h=>rg<|w8 w9 4 h fun msg b0v h=>l8 a5e b53 6 h fun I0 h=>tk 7 G0<|u6 h fun e1 h=>M1 8 22 95 13 152 w9 Net I0 e1<|om (1=[I0].length) (by rfl)<|rg<|(x6 h hc1 fun hI=>sg [] [1,2,4,5] [(1,0),(2,0),(22,0)] hI)) (fun h=>(x5 h hc1 fun e=>sg [] [2,4] [(1,0),(3,0),(2,0)] (hb1 _ e)))) (fun h=>(x5 h hc1 fun e=>sg [] [2,4] [(1,0),(3,0),(2,0)] (hb1 _ e)))
noncomputable def a38 (w:m3) (i8:List j7):Option m3 :=
 ((q7 (fun s:(List j7)×Int=>a3V i8 s.1 s.2) (w.Net,0)).bind fun x=>x.go (fun r=>some r) fun s=>c7b w s)
theorem a6T {w:m3} {i8:List j7} (r:m3) (h:a38 w i8=some r):o7 cx.P 116 [.agg (a0I w),j8 13 w9 i8] (Q2.R r) (Q2.O r) :=
 q9 Q2.X Q2.c Q2.h (fun z=>p6<|z3 h fun x hl hr hb=>sg [] [1,2,4,5] [(1,0),(2,0),(0,1)] (z4 (I:=fun s:(List j7)×Int=>j6 cx Q2.X (Q2.R r) (Q2.O r) c2K (c0f w i8 s.1 s.2)) hl fun s st h hc=>e72 w i8 _ _ x (fun s e=>d6N w r s (hb s e)) (fun v e=>z6 Q2 (hr v e)) st hc s.1 s.2 h))
noncomputable def a8H:FS (m3):=⟨141,Tryz.f141,[.val P2 [some 1000092,some 95,some 45,some 76]],[none,none],[.val [some 27,some 13,some 3,some 5] [some 1000092,some 95,some 45,some 76],.val [] []],fun r=>.agg (a0I r),fun _=>[none,none],Tryz.func141⟩
noncomputable def b34 (w:m3) (i:Int):Option m3 :=
 (t5 ((0:Int)≤i∧i≤(w.Net.length:Int)) ((t5 ((([]:List j7).length+(i.toNat - 0)) * 152≤140737488355328) ((t5 ((0:Int)≤n8 (i+1)∧n8 (i+1)≤(w.Net.length:Int)) ((t5 (((([]:List j7)++(w.Net.drop (0+0)).take (i.toNat - 0)).length+(w.Net.length - (n8 (i+1)).toNat)) * 152≤140737488355328) (some (m3.mk w.Nodes ((([]:List j7)++(w.Net.drop (0+0)).take (i.toNat - 0))++(w.Net.drop (0+(n8 (i+1)).toNat)).take (w.Net.length - (n8 (i+1)).toNat)) w.Asked w.Told)))))))))
set_option maxRecDepth 20000 in
theorem d6e {w:m3} {i:Int} (r:m3) (h:b34 w i=some r):o7 cx.P 141 [.agg [a3x 92 27 v5 w.Nodes,o8 95 13 w9 w.Net,o8 45 3 D3 w.Asked,o8 76 5 B3 w.Told],vi i] (a8H.R r) (a8H.O r) :=
 q9 a8H.X a8H.c a8H.h (fun z=>p6<|tk 0 G0<|u6 h fun e1 h=>ob e1.1<|ob e1.2<|u6 h fun e2 h=>om (V.own 8 0 13 0 (([]:List j7).length+(i.toNat - 0)) = .own 8 0 13 0 (([]:List j7)++(w.Net.drop (0+0)).take (i.toNat - 0)).length) (b9N (by omega))<|om (s6.row 95 13 (([]:List j7).length+(i.toNat - 0)) (([]:List j7).map w9++((w.Net.map w9).drop (0+0)).take (i.toNat - 0))=m4 95 13 w9 (([]:List j7)++(w.Net.drop (0+0)).take (i.toNat - 0))) (c06 (by omega))<|om (0=([]:List j7).length) (by simp)<|ob e2<|om ((0+0)+(i.toNat - 0)≤w.Net.length) (by omega)<|tl (5,{ a:=.part,v:=some (.own 8 0 13 0 (([]:List j7)++(w.Net.drop (0+0)).take (i.toNat - 0)).length),e:=some (m4 95 13 w9 (([]:List j7)++(w.Net.drop (0+0)).take (i.toNat - 0))) })<|u6 h fun e3 h=>ob e3.1<|ob e3.2<|u6 h fun e4 h=>om (V.own 14 0 13 0 ((([]:List j7)++(w.Net.drop (0+0)).take (i.toNat - 0)).length+(w.Net.length - (n8 (i+1)).toNat)) = .own 14 0 13 0 ((([]:List j7)++(w.Net.drop (0+0)).take (i.toNat - 0))++(w.Net.drop (0+(n8 (i+1)).toNat)).take (w.Net.length - (n8 (i+1)).toNat)).length) (b9N (by omega))<|om (s6.row 95 13 ((([]:List j7)++(w.Net.drop (0+0)).take (i.toNat - 0)).length+(w.Net.length - (n8 (i+1)).toNat)) ((([]:List j7)++(w.Net.drop (0+0)).take (i.toNat - 0)).map w9++((w.Net.map w9).drop (0+(n8 (i+1)).toNat)).take (w.Net.length - (n8 (i+1)).toNat))=m4 95 13 w9 ((([]:List j7)++(w.Net.drop (0+0)).take (i.toNat - 0))++(w.Net.drop (0+(n8 (i+1)).toNat)).take (w.Net.length - (n8 (i+1)).toNat))) (c06 (by omega))<|o6 (([]:List j7)++(w.Net.drop (0+0)).take (i.toNat - 0))<|ob e4<|om ((0+(n8 (i+1)).toNat)+(w.Net.length - (n8 (i+1)).toNat)≤w.Net.length) (by omega)<|tl (11,{ a:=.part,v:=some (.own 14 0 13 0 ((([]:List j7)++(w.Net.drop (0+0)).take (i.toNat - 0))++(w.Net.drop (0+(n8 (i+1)).toNat)).take (w.Net.length - (n8 (i+1)).toNat)).length),e:=some (m4 95 13 w9 ((([]:List j7)++(w.Net.drop (0+0)).take (i.toNat - 0))++(w.Net.drop (0+(n8 (i+1)).toNat)).take (w.Net.length - (n8 (i+1)).toNat))) })<|rg<|o6 w.Nodes<|o6 ((([]:List j7)++(w.Net.drop (0+0)).take (i.toNat - 0))++(w.Net.drop (0+(n8 (i+1)).toNat)).take (w.Net.length - (n8 (i+1)).toNat))<|H5 w.Asked w.Told<|fe z h)
noncomputable def a08:FS (Bool):=⟨93,Tryz.f93,[.val [] []],[none],[.val [] []],fun r=>.b r,fun _=>[none],Tryz.func93⟩
noncomputable def a2a (n:Int):Option Bool :=
 (bif decide (n≥1) then some (decide (n≤3000)) else some false)
theorem a3F {n:Int} (r:Bool) (h:a2a n=some r):o7 cx.P 93 [vi n] (a08.R r) (a08.O r) :=
 q9 a08.X a08.c a08.h (fun z=>p6<|i9 2 h (fun h=>fe z h) (fun h=>fe z h))
noncomputable def a2D:FS (A4×Bool):=⟨146,Tryz.f146,[.val [none,some 8] [none,some 9000000],.val [] []],[none,none],[.val [none,some 8] [],.val [] []],fun r=>.tup [.agg [vi r.1.g7,.bot],.b r.2],fun _=>[none,none],Tryz.func146⟩
noncomputable def a9Q (a:A4) (bal:Int):Option (A4×Bool) :=
 ((a2a bal).bind fun a1d=>(bif (!a1d) then some (a,false) else (bif decide (bal<a.g7) then some (a,false) else none)))
theorem b9e {a:A4} {bal:Int} (r:A4×Bool) (h:a9Q a bal=some r):o7 cx.P 146 [.agg (a47 a),vi bal] (a2D.R r) (a2D.O r) :=
 q9 a2D.X a2D.c a2D.h (fun z=>p6<|l8 a08 a3F 1 h fun a1d h=>i9 3 h (fun h=>rg<|fe z h) (fun h=>i9 8 h (fun h=>rg<|fe z h) (fun h=>(nomatch h))))
noncomputable def a2b:FS (List j7):=⟨165,Tryz.f165,[.val [some 13] []],[none,none],[.val G0 [],.val G0 []],fun r=>j8 13 w9 r,fun _=>[none,none],Tryz.func165⟩
noncomputable def a5t (m:j7) (out:j7):Option (List j7) :=
 some [(j7.mk out.b7 m.To m.b6 out.b5 out.g9 out.i0 out.a0)]
theorem a8u {m:j7} {out:j7} (r:List j7) (h:a5t m out=some r):o7 cx.P 165 [.agg (w9 m),.agg (w9 out)] (a2b.R r) (a2b.O r) :=
 q9 a2b.X a2b.c a2b.h (fun z=>rg4<|tk 1 G0<|om (1=[(j7.mk out.b7 m.To m.b6 out.b5 out.g9 out.i0 out.a0)].length) (by simp)<|fe z h)
noncomputable def e7i:Code:=c0z Tryz.f145
noncomputable def e8h:Sig:={ f:=145,fn:=Tryz.f145,rms:=[.val N3 [none,none,none,some 69,none,none,none,some 4,none,none,none,none,none,none,none,none,some 4,none,none,none,none,none,none,none,none,none,some 69]],oms:=[none] }
noncomputable def c9T (rv:Value) (r:j3):V:=.agg ([vi r.Id,vi r.Acc.g7,.raw rv]++b09 r)
noncomputable def c8i (r:j3):t7:=[none]
noncomputable def e1F (rv:Value) (i:Nat) (fr:Bool) (r:j3):Nat×N2:=(i,{ a:=.call [.val [none,none,some 8,some 7,none,none,none,some 1,some 8,none,none,none,some 2,some 2,none,none,some 1,none,some 4,none,none,none,some 2,some 2,none,none,some 7] [none,none,none,some 69,none,none,none,some 4,none,none,none,none,none,none,none,none,some 4,none,none,none,none,none,none,none,none,none,some 69]] fr (c9T rv r) (c8i r) })
noncomputable def c70 (n:j3):Option j3 :=
 some (j3.mk n.Id n.Acc n.a6 n.Seq 0 0 [] [] (l7.mk false (n9.mk 0 0) (m9.mk [] [] 0 0)) [] n.i7 n.i4 n.c8 n.b8)
theorem e5f {n:j3} (rv:Value) (r:j3) (h:c70 n=some r):o7 cx.P 145 [.agg ([vi n.Id,vi n.Acc.g7,.raw rv]++b09 n)] (c9T rv r) (c8i r) :=
 o7.of (cx:=cx) (X:=e8h) (c:=e7i) Tryz.func145 (by kernel_rfl) (by kernel_rfl) (by kernel_rfl) (P0<|rg4<|rg4<|H5 n.a6 n.b8<|fe Tryz.func145 h)
noncomputable def d44:Code:=c0z Tryz.f159
noncomputable def b9X:Sig:={ f:=159,fn:=Tryz.f159,rms:=[.val N3 [none,none,none,some 69,none,none,none,some 4,none,none,none,none,none,none,none,none,some 4,none,none,none,none,none,none,none,none,none,some 69]],oms:=[none,none] }
noncomputable def b7W (rv:Value) (r:j3):V:=.agg ([vi r.Id,vi r.Acc.g7,.raw rv]++b09 r)
noncomputable def d7C (r:j3):V:=.agg ([vi r.Id,vi r.Acc.g7,.hole]++b09 r)
noncomputable def b3q (r:j3):t7:=[none,none]
noncomputable def e2I (i:Nat) (fr:Bool) (r:j3):Nat×N2:=(i,{ a:=.callr 0 2 [.val [none,none,some 8,some 7,none,none,none,some 1,some 8,none,none,none,some 2,some 2,none,none,some 1,none,some 4,none,none,none,some 2,some 2,none,none,some 7] [none,none,none,some 69,none,none,none,some 4,none,none,none,none,none,none,none,none,some 4,none,none,none,none,none,none,none,none,none,some 69],.val [] []] fr (d7C r) (b3q r) })
noncomputable def d2u:List Item:=a31 2000 2 [false] [.code d44]
end Go.Proofs.YtjcbjgaapekopaaGreat
