/- Boxes behind entries: the two sides are one, and Vers only grow. -/
import Derived.Test.YthefcgmhjonopaaH6
set_option linter.unusedVariables false
set_option linter.unusedSimpArgs false
namespace Go.Proofs.Ythefcgmhjonopaa
open Go

theorem listOk_of {l : List TEntry} (hl : l.length ≤ 40) (he : l.all entryOk = true) : listOk l = true := by
  unfold listOk
  simp [hl, he]
theorem listOk_take {l : List TEntry} (h : listOk l = true) (k : Nat) : listOk (l.take k) = true := by
  obtain ⟨h1, h2⟩ := listOk_parts h
  refine listOk_of ?_ ?_
  · rw [List.length_take]; omega
  · rw [List.all_eq_true] at h2 ⊢
    exact fun x hx => h2 x (List.mem_of_mem_take hx)
theorem fEntries_take {l : List TEntry} (h : okL 88 fEntry l) (k : Nat) : okL 88 fEntry (l.take k) := by
  refine ⟨?_, fun x hx => h.2 x (List.mem_of_mem_take hx)⟩
  have := h.1
  rw [List.length_take]
  have : min k l.length * 88 ≤ l.length * 88 := Nat.mul_le_mul_right _ (Nat.min_le_right _ _)
  omega
def histAt (l : List TEntry) (n : Int) : List TBox := bif listOk l && inR n 0 (l.length : Int) then (folded (l.take n.toNat)).1.Boxes else []
theorem histAt_fits (l : List TEntry) (n : Int) : Fits (histAt l n) := by
  unfold histAt
  cases hok : listOk l
  · simp [Fits]
  cases inR n 0 (l.length : Int)
  · simp [Fits]
  obtain ⟨hl, he⟩ := listOk_parts (listOk_take hok n.toNat)
  have := (folded_inv hl he _ (Nat.le_refl _)).1
  rw [List.take_length] at this
  exact boxesOk_fits this.boxes

/-! ### Vers only grow -/
def VerLe (a b : List TBox) : Prop := a.length = b.length ∧ ∀ (i : Nat) (x y : TBox), a[i]? = some x → b[i]? = some y → x.Ver ≤ y.Ver
theorem VerLe.refl (a : List TBox) : VerLe a a := ⟨rfl, fun i x y h1 h2 => by rw [h1] at h2; injection h2 with h2; rw [h2]; exact Int.le_refl _⟩
theorem VerLe.trans {a b c : List TBox} (h : VerLe a b) (k : VerLe b c) : VerLe a c := by
  refine ⟨h.1.trans k.1, fun i x z hx hz => ?_⟩
  have hi : i < b.length := by
    have := (List.getElem?_eq_some_iff.1 hx).1
    have := h.1
    omega
  have h1 := h.2 i x _ hx (List.getElem?_eq_getElem hi)
  have h2 := k.2 i _ z (List.getElem?_eq_getElem hi) hz
  omega
theorem bump_le {l : List TBox} {p : TPut} (h : boxesOk l = true) (hp : putFine p) : VerLe l (bump l p) := by
  obtain ⟨b, _, h2, h3⟩ := box_at h (b := p.Box) ⟨hp.1, hp.2.1⟩
  rw [boxFine_iff] at h3
  rw [bump_at h2]
  refine ⟨by simp, fun i x y hx hy => ?_⟩
  rw [List.getElem?_set] at hy
  split at hy
  · rename_i he
    split at hy
    · injection hy with hy
      subst hy
      rw [← he, h2] at hx
      injection hx with hx
      subst hx
      simp only
      split <;> omega
    · cases hy
  · rw [hx] at hy
    injection hy with hy
    rw [hy]
    exact Int.le_refl _
theorem doPuts_le : ∀ {ps : List TPut} {l : List TBox}, boxesOk l = true → (∀ p ∈ ps, putFine p) → VerLe l (doPuts l ps)
  | [], l, _, _ => VerLe.refl _
  | p :: ps, l, h, hp => (bump_le h (hp p (by simp))).trans (doPuts_le (ps := ps) (bump_ok h (hp p (by simp))) fun x hx => hp x (by simp [hx]))
theorem apply_le {s : TState} {k : Nat} {e : TEntry} (hs : Inv s k) (he : entryOk e = true) : VerLe s.Boxes (apply s e).1.Boxes := by
  have hfr : e.None = false → VerLe s.Boxes (applyFresh s e).1.Boxes := by
    intro hn
    obtain ⟨_, _, hr, _⟩ := entryOk_some he hn
    unfold applyFresh
    cases fresh s.Boxes e.Run
    · exact VerLe.refl _
    · cases e.Run.Code == 0
      · exact VerLe.refl _
      · exact doPuts_le hs.boxes (runOk_parts hr).2.2.2.2
  unfold apply
  cases hn : e.None
  · simp only [cond_false]
    cases s.Dones.find? fun d => d.Req.Who == e.Req.Who with
    | none => exact hfr hn
    | some d =>
      simp only
      cases d.Req.Seq == e.Req.Seq
      · cases decide (d.Req.Seq > e.Req.Seq)
        · exact hfr hn
        · exact VerLe.refl _
      · exact VerLe.refl _
  · exact VerLe.refl _
theorem folded_le {l : List TEntry} (hl : l.length ≤ 40) (he : l.all entryOk = true) {j k : Nat} (hjk : j ≤ k) (hk : k ≤ l.length) : VerLe (folded (l.take j)).1.Boxes (folded (l.take k)).1.Boxes := by
  induction k with
  | zero =>
    have : j = 0 := by omega
    subst this
    exact VerLe.refl _
  | succ k ih =>
    by_cases hq : j = k + 1
    · subst hq
      exact VerLe.refl _
    · refine (ih (by omega) (by omega)).trans ?_
      rw [folded_take (show k < l.length by omega)]
      exact apply_le (folded_inv hl he k (by omega)).1 (List.all_eq_true.1 he _ (List.getElem_mem _))
end Go.Proofs.Ythefcgmhjonopaa
