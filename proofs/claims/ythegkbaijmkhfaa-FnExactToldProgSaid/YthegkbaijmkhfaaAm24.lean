/- Two operations that don't touch what the other one touches can come in either order: the states. -/
import Derived.Test.YthegkbaijmkhfaaAm23
set_option linter.unusedVariables false
set_option linter.unusedSimpArgs false
namespace Go.Proofs.Ythegkbaijmkhfaa
open Go

theorem map_evalV {t t' : List V} : ∀ {xs : List Operand}, (∀ x ∈ xs, evalV t' x = evalV t x) → xs.map (evalV t') = xs.map (evalV t)
  | [], _ => rfl
  | x :: xs, h => by simp only [List.map_cons]; rw [h x (by simp), map_evalV fun y hy => h y (by simp [hy])]
theorem map_parts {t t' : List V} : ∀ {ps : List (Nat × Operand)}, (∀ x ∈ ps.map (·.2), evalV t' x = evalV t x) → (ps.map fun (i, x) => (i, evalV t' x)) = (ps.map fun (i, x) => (i, evalV t x))
  | [], _ => rfl
  | p :: ps, h => by
    simp only [List.map_cons]
    rw [h p.2 (by simp), map_parts fun y hy => h y (by simp [hy])]
theorem opt_evalV {t t' : List V} {o : Option Operand} (h : ∀ x ∈ o.toList, evalV t' x = evalV t x) : o.map (evalV t') = o.map (evalV t) := by
  cases o with
  | none => rfl
  | some x => simp only [Option.map_some]; rw [h x (by simp)]

theorem pureOp_congr {cx : Cx} {op : Op} {t t' : List V} {A : Ans} (h : ∀ x ∈ op.operands.toList, evalV t' x = evalV t x) : pureOp cx op t' A = pureOp cx op t A := by
  cases op <;> try rfl
  case makeFunc fn first captured => cases fn <;> rfl
  case move x => simp only [pureOp]; rw [h x (by simp [Op.operands])]
  case assign x => simp only [pureOp]; rw [h x (by simp [Op.operands])]
  case pick c x y => simp only [pureOp]; rw [h c (by simp [Op.operands]), h x (by simp [Op.operands]), h y (by simp [Op.operands])]
  case nilCheck x => simp only [pureOp]; rw [h x (by simp [Op.operands])]
  case binOp o ty x y ty' => simp only [pureOp]; rw [h x (by simp [Op.operands]), h y (by simp [Op.operands])]
  case unOp o ty x => simp only [pureOp]; rw [h x (by simp [Op.operands])]
  case convert s d x => simp only [pureOp]; rw [h x (by simp [Op.operands])]
  case extract x k => simp only [pureOp]; rw [h x (by simp [Op.operands])]
  case field ty x f => simp only [pureOp]; rw [h x (by simp [Op.operands])]
  case fieldAddr ty x f => simp only [pureOp]; rw [h x (by simp [Op.operands])]
  case build ty parts => simp only [pureOp]; rw [map_parts (by simpa [Op.operands] using h)]
  case indexAddr ty x y => simp only [pureOp]; rw [h x (by simp [Op.operands]), h y (by simp [Op.operands])]
  case index ty x y => simp only [pureOp]; rw [h x (by simp [Op.operands]), h y (by simp [Op.operands])]
  case slice ty x lo hi mx =>
    cases mx with
    | some m => rfl
    | none =>
      simp only [pureOp]
      rw [h x (by simp [Op.operands]), opt_evalV (o := lo) (fun y hy => h y (by simp [Op.operands] at hy ⊢; simp [hy])), opt_evalV (o := hi) (fun y hy => h y (by simp [Op.operands] at hy ⊢; simp [hy]))]
  case call c =>
    obtain ⟨callee, args, tys⟩ := c
    simp only [pureOp]
    cases callee with
    | value x => rfl
    | invoke x m => rfl
    | builtin b =>
      have ha : ∀ x ∈ args.toList, evalV t' x = evalV t x := fun x hx => h x (by simpa [Op.operands, Call.operands] using hx)
      cases b <;> try rfl
      all_goals
        generalize args.toList = al at ha
        generalize tys.toList = tl
        rcases al with _ | ⟨s, _ | ⟨x, _ | ⟨y, al⟩⟩⟩ <;> rcases tl with _ | ⟨ty, _ | ⟨ty', tl⟩⟩ <;> try rfl
        all_goals simp only [ha s (by simp)]
        all_goals try simp only [ha x (by simp)]

theorem opM_congr {cx : Cx} {grp : Nat} {ob : Oper} {t t' : List V} {A : Ans} (h : ∀ x ∈ ob.op.operands.toList, evalV t' x = evalV t x) : opM cx grp ob t' A = opM cx grp ob t A := by
  have hp := pureOp_congr (cx := cx) (A := A) h
  unfold opM
  cases ho : ob.op <;> rw [ho] at h hp <;> simp only [hp]
  case box e x => rw [h x (by simp [Op.operands])]
  case buildSlice ty len parts => rw [map_parts (by simpa [Op.operands] using h)]
  case makeSlice ty l c => rw [h l (by simp [Op.operands]), h c (by simp [Op.operands])]
  case load ty x => rw [h x (by simp [Op.operands])]
  case store ty x y => rw [h x (by simp [Op.operands]), h y (by simp [Op.operands])]
  case makeMap ty r => cases r <;> simp only [hp]
  case lookup ty x ix ok =>
    have h1 := h x (by simp [Op.operands])
    have h2 := h ix (by simp [Op.operands])
    cases ok <;> simp only [hp, h1, h2]
  case mapUpdate ty x ix y => rw [h x (by simp [Op.operands]), h ix (by simp [Op.operands]), h y (by simp [Op.operands])]
  case call c =>
    obtain ⟨callee, args, tys⟩ := c
    cases callee with
    | invoke x m => rfl
    | value fop =>
      have h1 : evalV t' fop = evalV t fop := h fop (by simp [Op.operands, Call.operands])
      have h2 : args.toList.map (evalV t') = args.toList.map (evalV t) := map_evalV fun x hx => h x (by simp [Op.operands, Call.operands] at hx ⊢; simp [hx])
      simp only [h1, h2]
    | builtin b =>
      have ha : ∀ x ∈ args.toList, evalV t' x = evalV t x := fun x hx => h x (by simpa [Op.operands, Call.operands] using hx)
      cases b <;> try rfl
      all_goals
        generalize args.toList = al at ha
        generalize tys.toList = tl
        rcases al with _ | ⟨s, _ | ⟨x, _ | ⟨y, al⟩⟩⟩ <;> rcases tl with _ | ⟨ty, _ | ⟨ty', _ | ⟨ty3, tl⟩⟩⟩ <;> try rfl
        all_goals simp only [ha s (by simp), ha x (by simp)]

theorem evalV_setT {t : List V} {dst : Option Nat} {v : V} {x : Operand} (h : ∀ d, dst = some d → x ≠ .tmp d) : evalV (setT t dst v) x = evalV t x := by
  cases dst with
  | none => rfl
  | some d =>
    cases x with
    | tmp k =>
      have : d ≠ k := fun q => h d rfl (by rw [q])
      simp [evalV, setT, List.getElem?_set_ne this]
    | _ => rfl

/-! ### The states -/
theorem setE_comm {S : St} {g j g' j' : Nat} {e e' : Ent} (h : ¬ (g = g' ∧ j = j')) : (S.setE g j e).setE g' j' e' = (S.setE g' j' e').setE g j e := by
  by_cases q : g = g'
  · subst q
    have hj : j ≠ j' := fun z => h ⟨rfl, z⟩
    cases hx : S.h[g]? with
    | none => unfold St.setE; simp [hx]
    | some o => cases o with
      | none => unfold St.setE; simp [hx]
      | some l =>
        have hlt := (List.getElem?_eq_some_iff.1 hx).1
        rw [setE_eq hx, setE_eq hx, setE_eq (l := l.set j e) (by simp [hlt]), setE_eq (l := l.set j' e') (by simp [hlt])]
        simp only [List.set_set]
        rw [List.set_comm _ _ hj]
  · unfold St.setE
    cases hx : S.h[g]? with
    | none =>
      cases hy : S.h[g']? with
      | none => simp [hx, hy]
      | some o => cases o with
        | none => simp [hx, hy]
        | some l => simp [hx, hy, List.getElem?_set_ne (Ne.symm q)]
    | some o => cases o with
      | none =>
        cases hy : S.h[g']? with
        | none => simp [hx, hy]
        | some o => cases o with
          | none => simp [hx, hy]
          | some l => simp [hx, hy, List.getElem?_set_ne (Ne.symm q)]
      | some l =>
        cases hy : S.h[g']? with
        | none => simp [hx, hy, List.getElem?_set_ne q]
        | some o => cases o with
          | none => simp [hx, hy, List.getElem?_set_ne q]
          | some l' => simp [hx, hy, List.getElem?_set_ne q, List.getElem?_set_ne (Ne.symm q), List.set_comm _ _ q]

theorem setE_upds {g j : Nat} {e : Ent} : ∀ {us : List Upd} {S : St}, (∀ u ∈ us, ¬ (g = u.1.1 ∧ j = u.1.2)) → (S.setE g j e).upds us = (S.upds us).setE g j e
  | [], _, _ => rfl
  | ((g', j'), e') :: us, S, h => by
    simp only [St.upds]
    rw [setE_comm (h ((g', j'), e') (by simp)), setE_upds fun u hu => h u (by simp [hu])]
theorem upds_comm : ∀ {us vs : List Upd} {S : St}, (∀ u ∈ us, ∀ v ∈ vs, u.1 ≠ v.1) → (S.upds us).upds vs = (S.upds vs).upds us
  | [], _, _, _ => rfl
  | ((g, j), e) :: us, vs, S, h => by
    simp only [St.upds]
    rw [upds_comm fun u hu => h u (by simp [hu]), setE_upds fun v hv q => h ((g, j), e) (by simp) v hv (Prod.ext q.1 q.2)]
theorem lay_comm {S : St} {g g' : Nat} {n n' : List Ent} (h : g ≠ g') : (S.lay g n).lay g' n' = (S.lay g' n').lay g n := by
  simp [St.lay, List.set_comm _ _ h]
theorem setT_comm {t : List V} {d d' : Option Nat} {v v' : V} (h : ∀ k, d = some k → d' ≠ some k) : setT (setT t d v) d' v' = setT (setT t d' v') d v := by
  cases d with
  | none => rfl
  | some k => cases d' with
    | none => rfl
    | some k' =>
      have : k ≠ k' := fun q => h k rfl (by rw [q])
      simp [setT, List.set_comm _ _ this]

def withT (S : St) (t : List V) : St := { S with t := t }
def hp (S : St) (grp : Nat) (o : Out) : St := match o.new with
  | none => S.upds o.upd
  | some new => (S.upds o.upd).lay grp new
theorem apply_hp (S : St) (grp : Nat) (dst : Option Nat) (o : Out) : S.apply grp dst o = withT (hp S grp o) (setT S.t dst o.v) := by
  unfold St.apply hp withT
  cases o.new with
  | none => simp only [St.upds_t]
  | some new => simp only [St.lay, St.upds_t]
theorem setE_withT (S : St) (t : List V) (g j : Nat) (e : Ent) : (withT S t).setE g j e = withT (S.setE g j e) t := by
  unfold withT St.setE
  simp only
  split <;> rfl
theorem upds_withT (t : List V) : ∀ (us : List Upd) (S : St), (withT S t).upds us = withT (S.upds us) t
  | [], _ => rfl
  | ((g, j), e) :: us, S => by simp only [St.upds]; rw [setE_withT, upds_withT]
theorem hp_withT (S : St) (t : List V) (grp : Nat) (o : Out) : hp (withT S t) grp o = withT (hp S grp o) t := by
  unfold hp
  cases o.new with
  | none => simp only [upds_withT]
  | some new => simp only [upds_withT]; rfl
theorem hp_t (S : St) (grp : Nat) (o : Out) : (hp S grp o).t = S.t := by
  unfold hp
  cases o.new with
  | none => exact St.upds_t _ _
  | some new => exact St.upds_t _ _

theorem hp_comm {S : St} {g g' : Nat} {o o' : Out} (hg : g ≠ g') (h1 : ∀ u ∈ o.upd, ∀ v ∈ o'.upd, u.1 ≠ v.1) (h2 : ∀ u ∈ o.upd, u.1.1 ≠ g') (h3 : ∀ u ∈ o'.upd, u.1.1 ≠ g) : hp (hp S g o) g' o' = hp (hp S g' o') g o := by
  unfold hp
  cases o.new with
  | none => cases o'.new with
    | none => simp only; exact upds_comm h1
    | some n' => simp only; rw [← upds_lay o.upd _ h2, upds_comm h1]
  | some n => cases o'.new with
    | none => simp only; rw [← upds_lay o'.upd _ h3, upds_comm h1]
    | some n' =>
      simp only
      rw [← upds_lay o'.upd _ h3, ← upds_lay o.upd _ h2, upds_comm h1, lay_comm hg]

theorem hp_ent {S : St} {grp : Nat} {o : Out} {g j : Nat} (h1 : g ≠ grp) (h2 : ∀ u ∈ o.upd, u.1 ≠ (g, j)) : (hp S grp o).ent g j = S.ent g j := by
  have : (S.upds o.upd).ent g j = S.ent g j := by
    refine upds_ent_ne ?_
    unfold apartFrom
    rw [List.all_eq_true]
    intro u hu
    have := h2 u hu
    simp only [Bool.not_eq_true', Bool.and_eq_false_iff, beq_eq_false_iff_ne]
    by_cases q : g = u.1.1
    · right
      intro z
      exact this (Prod.ext q.symm z.symm)
    · exact .inl q
  unfold hp
  cases o.new with
  | none => exact this
  | some new => simp only; rw [lay_ent_ne h1]; exact this

end Go.Proofs.Ythegkbaijmkhfaa
