/- What a done entry does to a box, and what others leave. -/
import Derived.Test.YthefcgmhjonopaaA0
import Derived.Test.YthefcgmhjonopaaW1
set_option linter.unusedVariables false
set_option linter.unusedSimpArgs false
namespace Go.Proofs.Ythefcgmhjonopaa
open Go

theorem bump_other {l : List TBox} {p : TPut} {i : Nat} (h : p.Box.toNat ≠ i) : (bump l p)[i]? = l[i]? := by
  unfold bump
  cases l[p.Box.toNat]? with
  | none => rfl
  | some b => simp only; rw [List.getElem?_set_ne h]
theorem bump_same {l : List TBox} {p : TPut} {x : TBox} (hx : l[p.Box.toNat]? = some x) : (bump l p)[p.Box.toNat]? = some ⟨if x.Ver + 1 < 1000000 then x.Ver + 1 else 1000000, p.Val⟩ := by
  rw [bump_at hx, List.getElem?_set_self (List.getElem?_eq_some_iff.1 hx).1]
theorem sawP_false {ps : List TPut} {b : Int} (h : sawP ps b = false) : ∀ p ∈ ps, p.Box ≠ b := by
  unfold sawP at h
  rw [List.any_eq_false] at h
  intro p hp
  simpa using h p hp
theorem doPuts_other : ∀ {ps : List TPut} {l : List TBox} {b : Int}, 0 ≤ b → (∀ p ∈ ps, putFine p) → sawP ps b = false → (doPuts l ps)[b.toNat]? = l[b.toNat]?
  | [], l, b, _, _, _ => rfl
  | p :: ps, l, b, hb, hp, hs => by
    have h1 := sawP_false hs
    have hf := hp p (by simp)
    have hne : p.Box.toNat ≠ b.toNat := by
      have := h1 p (by simp)
      have := hf.1
      omega
    have hs2 : sawP ps b = false := by
      unfold sawP
      rw [List.any_eq_false]
      intro x hx
      have := h1 x (by simp [hx])
      simpa using this
    show (doPuts (bump l p) ps)[b.toNat]? = _
    rw [doPuts_other (l := bump l p) hb (fun x hx => hp x (by simp [hx])) hs2, bump_other hne]
theorem doPuts_one : ∀ {ps : List TPut} {l : List TBox} {b : Int} {x : TBox}, 0 ≤ b → (∀ p ∈ ps, putFine p) → ps.Pairwise (fun p q => p.Box ≠ q.Box) → sawP ps b = true → l[b.toNat]? = some x →
    ∃ v, (doPuts l ps)[b.toNat]? = some ⟨if x.Ver + 1 < 1000000 then x.Ver + 1 else 1000000, v⟩
  | [], l, b, x, _, _, _, hs, _ => by cases hs
  | p :: ps, l, b, x, hb, hp, hd, hs, hx => by
    have hf := hp p (by simp)
    obtain ⟨hd1, hd2⟩ := List.pairwise_cons.1 hd
    by_cases he : p.Box = b
    · have hs2 : sawP ps b = false := by
        unfold sawP
        rw [List.any_eq_false]
        intro q hq
        have := hd1 q hq
        simp only [beq_iff_eq]
        intro h
        exact this (he.trans h.symm)
      refine ⟨p.Val, ?_⟩
      show (doPuts (bump l p) ps)[b.toNat]? = _
      rw [doPuts_other hb (fun q hq => hp q (by simp [hq])) hs2, ← he, bump_same (by rw [he]; exact hx)]
    · have hne : p.Box.toNat ≠ b.toNat := by
        have := hf.1
        omega
      have hs2 : sawP ps b = true := by
        unfold sawP at hs ⊢
        rw [List.any_cons] at hs
        have : (p.Box == b) = false := by simpa using he
        rwa [this, Bool.false_or] at hs
      exact doPuts_one (l := bump l p) hb (fun q hq => hp q (by simp [hq])) hd2 hs2 (by rw [bump_other hne]; exact hx)
theorem runOk_allP {r : TRun} (h : runOk r = true) : allP r.Puts = true := by
  rw [runOk_iff] at h
  simp only [Bool.and_eq_true] at h
  exact h.2.2.2.2.2
theorem runOk_allR {r : TRun} (h : runOk r = true) : allR r.Reads = true := by
  rw [runOk_iff] at h
  simp only [Bool.and_eq_true] at h
  exact h.2.2.2.2.1
/-- An entry that was not done leaves all boxes; one that was done puts what its run puts. -/
theorem apply_boxes {s : TState} {k : Nat} {e : TEntry} (hs : Inv s k) (he : entryOk e = true) : ((apply s e).2 = 0 ∧ e.None = false ∧ (apply s e).1.Boxes = doPuts s.Boxes e.Run.Puts) ∨ ((apply s e).2 ≠ 0 ∧ (apply s e).1.Boxes = s.Boxes) := by
  have hfr : e.None = false → ((applyFresh s e).2 = 0 ∧ e.None = false ∧ (applyFresh s e).1.Boxes = doPuts s.Boxes e.Run.Puts) ∨ ((applyFresh s e).2 ≠ 0 ∧ (applyFresh s e).1.Boxes = s.Boxes) := by
    intro hn
    unfold applyFresh
    cases fresh s.Boxes e.Run
    · exact .inr ⟨show (1 : Int) ≠ 0 from by decide, rfl⟩
    · cases e.Run.Code == 0
      · exact .inr ⟨show (2 : Int) ≠ 0 from by decide, rfl⟩
      · exact .inl ⟨rfl, hn, rfl⟩
  unfold apply
  cases hn : e.None
  · simp only [cond_false]
    cases s.Dones.find? fun d => d.Req.Who == e.Req.Who with
    | none =>
      rcases hfr hn with ⟨a, _, c⟩ | h
      · exact .inl ⟨a, by simp, c⟩
      · exact .inr h
    | some d =>
      simp only
      cases d.Req.Seq == e.Req.Seq
      · cases decide (d.Req.Seq > e.Req.Seq)
        · rcases hfr hn with ⟨a, _, c⟩ | h
          · exact .inl ⟨a, by simp, c⟩
          · exact .inr h
        · exact .inr ⟨show (4 : Int) ≠ 0 from by decide, rfl⟩
      · exact .inr ⟨show (3 : Int) ≠ 0 from by decide, rfl⟩
  · exact .inr ⟨show (5 : Int) ≠ 0 from by decide, rfl⟩
/-- The code of an entry is what it was told behind the ones ahead. -/
theorem folded_code {l : List TEntry} (hl : l.length ≤ 40) (he : l.all entryOk = true) {k : Nat} (hk : k < l.length) : (folded l).2[k]? = some (apply (folded (l.take k)).1 l[k]).2 := by
  have key : ∀ n, k < n → n ≤ l.length → (folded (l.take n)).2[k]? = some (apply (folded (l.take k)).1 l[k]).2 := by
    intro n
    induction n with
    | zero => intro h; omega
    | succ n ih =>
      intro h1 h2
      have hlen := (folded_inv hl he n (by omega)).2.1
      rw [folded_take (show n < l.length by omega)]
      unfold foldStep
      by_cases hq : k = n
      · subst hq
        simp only
        rw [List.getElem?_append_right (by omega), hlen, Nat.sub_self]
        rfl
      · simp only
        rw [List.getElem?_append_left (by omega)]
        exact ih (by omega) (by omega)
  have := key l.length hk (Nat.le_refl _)
  rwa [List.take_length] at this
theorem putBy_false {l : List TEntry} (hl : l.length ≤ 40) (he : l.all entryOk = true) {k : Nat} (hk : k < l.length) {b : Int} (h0 : 0 ≤ b) (h : putBy l (folded l).2 b k = false) : (folded (l.take (k + 1))).1.Boxes[b.toNat]? = (folded (l.take k)).1.Boxes[b.toNat]? := by
  have hek := List.all_eq_true.1 he _ (List.getElem_mem hk)
  have hin := (folded_inv hl he k (by omega)).1
  rw [folded_take hk]
  show (apply (folded (l.take k)).1 l[k]).1.Boxes[b.toNat]? = _
  rcases apply_boxes hin hek with ⟨h1, h2, h3⟩ | ⟨h1, h2⟩
  · rw [h3]
    obtain ⟨_, _, hr, _⟩ := entryOk_some hek h2
    refine doPuts_other h0 (runOk_parts hr).2.2.2.2 ?_
    unfold putBy at h
    rw [folded_code hl he hk, List.getElem?_eq_getElem hk, h1] at h
    simpa using h
  · rw [h2]
theorem putBy_true {l : List TEntry} (hl : l.length ≤ 40) (he : l.all entryOk = true) {k : Nat} (hk : k < l.length) {b : Int} (h : putBy l (folded l).2 b k = true) : (0 ≤ b ∧ b ≤ 3) ∧ ∀ x, (folded (l.take k)).1.Boxes[b.toNat]? = some x →
    ∃ v, (folded (l.take (k + 1))).1.Boxes[b.toNat]? = some ⟨if x.Ver + 1 < 1000000 then x.Ver + 1 else 1000000, v⟩ := by
  have hek := List.all_eq_true.1 he _ (List.getElem_mem hk)
  have hin := (folded_inv hl he k (by omega)).1
  unfold putBy at h
  rw [folded_code hl he hk, List.getElem?_eq_getElem hk] at h
  simp only [Bool.and_eq_true, beq_iff_eq] at h
  rcases apply_boxes hin hek with ⟨h1, h2, h3⟩ | ⟨h1, h2⟩
  · obtain ⟨_, _, hr, _⟩ := entryOk_some hek h2
    have hp := (runOk_parts hr).2.2.2.2
    have hb : 0 ≤ b ∧ b ≤ 3 := by
      have := h.2
      unfold sawP at this
      rw [List.any_eq_true] at this
      obtain ⟨p, hp1, hp2⟩ := this
      have hpb : p.Box = b := by simpa using hp2
      have := hp p hp1
      omega
    refine ⟨hb, fun x hx => ?_⟩
    rw [folded_take hk]
    show ∃ v, (apply (folded (l.take k)).1 l[k]).1.Boxes[b.toNat]? = _
    rw [h3]
    exact doPuts_one hb.1 hp (allP_iff.1 (runOk_allP hr)).2 h.2 hx
  · exact absurd h.1 h1
theorem ver_small {l : List TEntry} (hl : l.length ≤ 40) (he : l.all entryOk = true) {b : Int} (hb : 0 ≤ b ∧ b ≤ 3) : ∀ k, k ≤ l.length → ∃ x, (folded (l.take k)).1.Boxes[b.toNat]? = some x ∧ 0 ≤ x.Ver ∧ x.Ver ≤ (k : Int)
  | 0, _ => by
    rw [List.take_zero]
    have : b = 0 ∨ b = 1 ∨ b = 2 ∨ b = 3 := by omega
    rcases this with rfl | rfl | rfl | rfl <;> exact ⟨⟨0, 0⟩, rfl, by decide, by decide⟩
  | k + 1, hk => by
    obtain ⟨x, h1, h2, h3⟩ := ver_small hl he hb k (by omega)
    cases hp : putBy l (folded l).2 b k
    · rw [putBy_false hl he (by omega) hb.1 hp]
      exact ⟨x, h1, h2, by omega⟩
    · obtain ⟨_, hq⟩ := putBy_true hl he (show k < l.length by omega) hp
      obtain ⟨v, hv⟩ := hq x h1
      refine ⟨_, hv, ?_, ?_⟩
      · simp only; split <;> omega
      · simp only; split <;> omega
theorem lastIdx_pos {p : Nat → Bool} : ∀ {n : Nat}, lastIdx p n ≥ 0 → ∃ k : Nat, lastIdx p n = (k : Int) ∧ k < n ∧ p k = true ∧ ∀ j, k < j → j < n → p j = false
  | 0, h => by simp [lastIdx] at h
  | n + 1, h => by
    rw [lastIdx_succ] at h ⊢
    cases hp : p n with
    | true => exact ⟨n, rfl, by omega, hp, fun j h1 h2 => by omega⟩
    | false =>
      rw [hp] at h
      obtain ⟨k, h1, h2, h3, h4⟩ := lastIdx_pos (n := n) h
      refine ⟨k, h1, by omega, h3, fun j h5 h6 => ?_⟩
      by_cases hj : j = n
      · rw [hj]; exact hp
      · exact h4 j h5 (by omega)
theorem lastIdx_none {p : Nat → Bool} : ∀ {n : Nat}, ¬ lastIdx p n ≥ 0 → ∀ j, j < n → p j = false
  | 0, _, j, hj => by omega
  | n + 1, h, j, hj => by
    rw [lastIdx_succ] at h
    cases hp : p n with
    | true => rw [hp] at h; simp at h
    | false =>
      rw [hp] at h
      by_cases hq : j = n
      · rw [hq]; exact hp
      · exact lastIdx_none (n := n) h j (by omega)
theorem box_stays {l : List TEntry} (hl : l.length ≤ 40) (he : l.all entryOk = true) {b : Int} (h0 : 0 ≤ b) {j : Nat} : ∀ k, j ≤ k → k ≤ l.length → (∀ i, j ≤ i → i < k → putBy l (folded l).2 b i = false) → (folded (l.take k)).1.Boxes[b.toNat]? = (folded (l.take j)).1.Boxes[b.toNat]?
  | 0, hj, _, _ => by
    have : j = 0 := by omega
    rw [this]
  | k + 1, hj, hk, h => by
    by_cases hq : j = k + 1
    · rw [hq]
    · rw [putBy_false hl he (by omega) h0 (h k (by omega) (by omega))]
      exact box_stays hl he h0 k (by omega) (by omega) fun i h1 h2 => h i h1 (by omega)
end Go.Proofs.Ythefcgmhjonopaa
