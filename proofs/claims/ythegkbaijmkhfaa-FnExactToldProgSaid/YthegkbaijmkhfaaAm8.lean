/- The operations of Am6 answer in the model what is told of them: all of them. -/
import Derived.Test.YthegkbaijmkhfaaAm7
set_option linter.unusedVariables false
set_option linter.unusedSimpArgs false
namespace Go.Proofs.Ythegkbaijmkhfaa
open Go

section
variable {cx : Cx} {w : World} {F D : Nat → Prop} {ι : Nat → Nat → Value} {t : List V} {a : Act} {o : Oper}

theorem binInt_run {op : BinOp} {k : IntKind} {x y : Int} {v : V} {ps : List Prop} (h : binInt op k x y = some (v, ps)) (hp : ∀ p ∈ ps, p) (ty : TypeId) (p q : Operand) :
    ∃ c, (do eqGuard op ty p q (.int k x) (.int k y); binOp op ty (.int k x) (.int k y) : Sem Value).run cx.P w = .ok c w ∧ FV w F v c := by
  cases op <;> simp only [binInt] at h <;> first | (cases h; done) | skip
  all_goals
    injection h with h
    injection h with h1 h2
    subst h1; subst h2
  case add => exact ⟨_, by simp [eqGuard, binOp, Op.intArith], .i _ _⟩
  case sub => exact ⟨_, by simp [eqGuard, binOp, Op.intArith], .i _ _⟩
  case mul => exact ⟨_, by simp [eqGuard, binOp, Op.intArith], .i _ _⟩
  case quo =>
    have hy : y ≠ 0 := hp _ (by simp)
    exact ⟨_, by simp [eqGuard, binOp, Op.intDiv, hy], .i _ _⟩
  case rem =>
    have hy : y ≠ 0 := hp _ (by simp)
    exact ⟨_, by simp [eqGuard, binOp, Op.intDiv, hy], .i _ _⟩
  case eql => exact ⟨_, by simp [eqGuard, binOp, Op.intCmp], .b _⟩
  case neq => exact ⟨_, by simp [eqGuard, binOp, Op.intCmp], .b _⟩
  case lss => exact ⟨_, by simp [eqGuard, binOp, Op.intCmp], .b _⟩
  case leq => exact ⟨_, by simp [eqGuard, binOp, Op.intCmp], .b _⟩
  case gtr => exact ⟨_, by simp [eqGuard, binOp, Op.intCmp], .b _⟩
  case geq => exact ⟨_, by simp [eqGuard, binOp, Op.intCmp], .b _⟩
  case xor => exact ⟨.int k (xorI k x y), by simp [eqGuard, binOp, Op.intBits, xorI], .i _ _⟩

theorem intsOf_conc {vs : List V} {ds : List Value} (hall : All2 (RC w F D ι) vs ds) : ∀ {xs : List Int}, intsOf vs = some xs → ds = xs.map (Value.int .i64) := by
  induction hall with
  | nil => intro xs h; simp [intsOf] at h; subst h; rfl
  | cons hc ht ih =>
    intro xs h
    unfold intsOf at h
    split at h
    · rename_i heq
      cases heq
    · rename_i n vs' heq
      injection heq with h1 h2
      subst h1; subst h2
      obtain ⟨ys, hy, rfl⟩ := Option.map_eq_some_iff.1 h
      rw [ih hy]
      cases hc with
      | fv v c h => cases h; rfl
    · cases h

theorem eqlV_run {ty : Nat} {u v r : V} (h : eqlV cx ty u v = some r) {c d : Value} (hc : RV w F D ι u c) (hd : RV w F D ι v d) :
    ∃ x : Bool, r = .b x ∧ (∀ p q op, (eqGuard op ty p q c d).run cx.P w = .ok () w) ∧ (binOp .eql ty c d).run cx.P w = .ok (.bool x) w ∧ (binOp .neq ty c d).run cx.P w = .ok (.bool (!x)) w := by
  unfold eqlV at h
  split at h
  · rename_i x y
    split at h
    · rename_i ti hti
      split at h
      · rename_i hbl
        injection h with h
        subst h
        obtain rfl := hc.inv_b
        obtain rfl := hd.inv_b
        obtain ⟨i, dd, z, htf⟩ := cx.tf hti
        have hu : cx.P.underlying ty = some .bool := by rw [htf.und, htf.isBl hbl]
        refine ⟨_, rfl, fun p q op => ?_, ?_, ?_⟩
        · cases op <;> simp [eqGuard]
        · simp [binOp, run_equal_bool w ty x y hu]
        · simp [binOp, run_equal_bool w ty x y hu]
      · cases h
    · cases h
  · rename_i cs ds
    split at h
    · rename_i m xs ys hm hx hy
      split at h
      · rename_i hl
        injection h with h
        subst h
        obtain ⟨cs', rfl, hcs⟩ := hc.inv_agg
        obtain ⟨ds', rfl, hds⟩ := hd.inv_agg
        rw [intsOf_conc hcs hx, intsOf_conc hds hy]
        have he := cx.hE ty m hm xs ys w hl.1 hl.2
        refine ⟨_, rfl, fun p q op => ?_, ?_, ?_⟩
        · cases op <;> simp [eqGuard, cx.hG ty m hm]
        · simp [binOp, he]
        · simp [binOp, he]
      · cases h
    · cases h
  · cases h

theorem binV_run {op : BinOp} {ty : Nat} {u v r : V} {ps : List Prop} (h : binV cx op ty u v = some (r, ps)) (hp : ∀ p ∈ ps, p) {c d : Value} (hc : RV w F D ι u c) (hd : RV w F D ι v d) (p q : Operand) :
    ∃ e, (do eqGuard op ty p q c d; binOp op ty c d : Sem Value).run cx.P w = .ok e w ∧ FV w F r e := by
  unfold binV at h
  split at h
  · rename_i k x k' y
    split at h
    · rename_i hk
      subst hk
      obtain rfl := hc.inv_i
      obtain rfl := hd.inv_i
      exact binInt_run h hp ty p q
    · cases h
  · split at h
    · obtain ⟨r', hr, he⟩ := Option.map_eq_some_iff.1 h
      injection he with h1 h2
      subst h1
      obtain ⟨x, rfl, hg, he, _⟩ := eqlV_run hr hc hd
      exact ⟨.bool x, by simp [Sem.run_bind, hg, he], .b _⟩
    · split at h
      · rename_i x hx
        injection h with h
        injection h with h1 h2
        subst h1
        obtain ⟨x', hxx, hg, _, he⟩ := eqlV_run hx hc hd
        injection hxx with hxx
        subst hxx
        exact ⟨.bool (!x), by simp [Sem.run_bind, hg, he], .b _⟩
      · cases h
    · cases h
end

end Go.Proofs.Ythegkbaijmkhfaa
