/- The operations of a region, one behind the other. -/
import Derived.Test.YthegkbaijmkhfaaAm21
set_option linter.unusedVariables false
set_option linter.unusedSimpArgs false
namespace Go.Proofs.Ythegkbaijmkhfaa
open Go

structure Foot where
  rd : List (Nat × Nat)
  wr : List (Nat × Nat)

def stepM (cx : Cx) (ops : Array Oper) (base : Nat) (A : Nat → Tell) (i : Nat) (S : St) : Option (St × List Prop × Foot) :=
  match ops[i]? with
  | none => none
  | some o => match wantV ops o S.t with
    | some true => match stepOp cx (base + i) o S.t (A i) S.ent with
      | some (out, lg) => some (S.apply (base + i) o.dst out, out.obl, ⟨lg, out.upd.map (·.1)⟩)
      | none => none
    | some false => some ({ S with t := setT S.t o.dst (.tup []) }, [], ⟨[], []⟩)
    | none => none

section
variable {cx : Cx} {Γ : Ctx} {F : Nat → Prop} {ι : Nat → Nat → Value} {S S' : St} {a : Act} {w : World} {ops : Array Oper} {base : Nat} {A : Nat → Tell}

theorem apply_D {grp : Nat} {dst : Option Nat} {out : Out} {g : Nat} (h : (S.apply grp dst out).D g) : S.D g ∨ g = grp := by
  unfold St.apply at h
  simp only at h
  split at h
  · exact .inl ((upds_D S g _).1 h)
  · rename_i new hnew
    by_cases q : g = grp
    · exact .inr q
    · left
      obtain ⟨l, hl⟩ := h
      simp only [St.lay, List.getElem?_set_ne (Ne.symm q)] at hl
      exact (upds_D S g _).1 ⟨l, hl⟩
theorem apply_len {grp : Nat} {dst : Option Nat} {out : Out} : (S.apply grp dst out).h.length = S.h.length := by
  unfold St.apply
  simp only
  split
  · exact St.upds_len S _
  · simp [St.lay, St.upds_len]

theorem stepM_D {i : Nat} {ps : List Prop} {ft : Foot} (h : stepM cx ops base A i S = some (S', ps, ft)) : (∀ g, S'.D g → S.D g ∨ g = base + i) ∧ S'.h.length = S.h.length := by
  unfold stepM at h
  split at h <;> try (cases h; done)
  split at h <;> try (cases h; done)
  · split at h <;> try (cases h; done)
    injection h with h
    injection h with h1 h2
    subst h1
    exact ⟨fun g x => apply_D x, apply_len⟩
  · injection h with h
    injection h with h1 h2
    subst h1
    exact ⟨fun g x => .inl x, rfl⟩

theorem stepM_wp {Q : Exit → Act → World → Prop} {K : Act → World → Prop} {i : Nat} {ps : List Prop} {ft : Foot} (h : Rel Γ F ι S a w) (hg : base + i < S.h.length) (hn : ¬ S.D (base + i)) (hs : stepM cx ops base A i S = some (S', ps, ft)) (hob : ∀ p ∈ ps, p)
    (hK : ∀ a' w' F' ι', Rel Γ F' ι' S' a' w' → K a' w') : wpOp cx.P ops Q i K a w := by
  unfold stepM at hs
  unfold wpOp
  split at hs <;> try (cases hs; done)
  rename_i o ho
  rw [ho]
  simp only
  split at hs <;> try (cases hs; done)
  · rename_i hw
    have hwant := wantV_run h.tmps hw
    rw [hwant]
    simp only [if_true]
    split at hs <;> try (cases hs; done)
    rename_i out lg hop
    injection hs with hs
    injection hs with h1 h2
    injection h2 with h2 h3
    subst h1; subst h2
    left
    unfold Oper.wp
    rcases stepOp_run h hg hn hop hob with ⟨nx, c, w', F', ι', hr, hnx, hrel⟩ | ⟨f, args, hr, hcalls⟩
    · rw [hr]
      rcases hnx with rfl | ⟨rfl, rfl⟩
      · exact hK _ _ _ _ hrel
      · exact hK _ _ _ _ hrel
    · rw [hr]
      refine hcalls.mono ?_
      rintro e w' ⟨c, F', ι', rfl, hrel⟩
      exact hK _ _ _ _ hrel
  · rename_i hw
    have hwant := wantV_run h.tmps hw
    rw [hwant]
    simp only [Bool.false_eq_true, if_false]
    injection hs with hs
    injection hs with h1 h2
    subst h1
    exact hK _ _ _ _ (h.put o.dst (.tup [] [] .nil))

/-- Several, in this order. -/
def runM (cx : Cx) (ops : Array Oper) (base : Nat) (A : Nat → Tell) : List Nat → St → Option (St × List (List Prop × Foot))
  | [], S => some (S, [])
  | i :: l, S => match stepM cx ops base A i S with
    | some (S1, r) => match runM cx ops base A l S1 with
      | some (S2, rs) => some (S2, r :: rs)
      | none => none
    | none => none

theorem runM_cons {i : Nat} {l : List Nat} {rs : List (List Prop × Foot)} (h : runM cx ops base A (i :: l) S = some (S', rs)) : ∃ S1 r rs', stepM cx ops base A i S = some (S1, r) ∧ runM cx ops base A l S1 = some (S', rs') ∧ rs = r :: rs' := by
  unfold runM at h
  split at h <;> try (cases h; done)
  rename_i S1 r h1
  split at h <;> try (cases h; done)
  rename_i S2 rs' h2
  injection h with h
  injection h with h3 h4
  subst h3; subst h4
  exact ⟨S1, r, rs', h1, h2, rfl⟩

theorem runM_wp {Q : Exit → Act → World → Prop} : ∀ {l : List Nat} {S : St} {F : Nat → Prop} {ι : Nat → Nat → Value} {a : Act} {w : World} {rs : List (List Prop × Foot)}, Rel Γ F ι S a w → l.Nodup → (∀ i ∈ l, base + i < S.h.length ∧ ¬ S.D (base + i)) → runM cx ops base A l S = some (S', rs) → (∀ r ∈ rs, ∀ p ∈ r.1, p) →
    (∀ a' w' F' ι', Rel Γ F' ι' S' a' w' → Q .normal a' w') → wpOps cx.P ops Q l a w
  | [], S, F, ι, a, w, rs, h, _, _, hr, _, hQ => by
    unfold runM at hr
    injection hr with hr
    injection hr with h1 h2
    subst h1
    exact hQ _ _ _ _ h
  | i :: l, S, F, ι, a, w, rs, h, hn, hfree, hr, hob, hQ => by
    obtain ⟨S1, r, rs', h1, h2, rfl⟩ := runM_cons hr
    rw [wpOps_cons]
    have hn' := List.nodup_cons.1 hn
    obtain ⟨hD, hl⟩ := stepM_D (ps := r.1) (ft := r.2) h1
    refine stepM_wp h (hfree i (by simp)).1 (hfree i (by simp)).2 (ps := r.1) (ft := r.2) h1 (hob r (by simp)) fun a' w' F' ι' hrel => ?_
    refine runM_wp hrel hn'.2 (fun j hj => ?_) h2 (fun r' hr' => hob r' (by simp [hr'])) hQ
    refine ⟨by rw [hl]; exact (hfree j (by simp [hj])).1, fun x => ?_⟩
    rcases hD _ x with y | y
    · exact (hfree j (by simp [hj])).2 y
    · have : i = j := by omega
      exact hn'.1 (this ▸ hj)
end

end Go.Proofs.Ythegkbaijmkhfaa
