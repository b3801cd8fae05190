/- What there is behind entries: one step on either side, told plainly. -/
import Derived.Test.YthefcgmhjonopaaH1
set_option linter.unusedVariables false
set_option linter.unusedSimpArgs false
namespace Go.Proofs.Ythefcgmhjonopaa
open Go

/-! ### Boxes -/
def boxFine (b : TBox) : Bool := inR b.Ver 0 1000000 && inR b.Val (-1000000) 1000000
def boxesOk (l : List TBox) : Bool := l.length == 4 && l.all boxFine
theorem len_ne {α : Type} (l : List α) (n : Nat) : ((l.length : Int) != (n : Int)) = !(l.length == n) := by
  unfold bne
  congr 1
  by_cases h : l.length = n
  · simp [h]
  · have h1 : ((l.length : Int) == (n : Int)) = false := by simp; omega
    have h2 : (l.length == n) = false := by simpa using h
    rw [h1, h2]
theorem len_eq {α : Type} (l : List α) (n : Nat) : ((l.length : Int) == (n : Int)) = (l.length == n) := by
  have := len_ne l n
  unfold bne at this
  simpa using this
theorem specBoxOk_eq {l : List TBox} (h : Fits l) : spec_BoxOk l = some (boxesOk l) := by
  unfold spec_BoxOk boxesOk
  rw [show (4 : Int) = ((4 : Nat) : Int) from rfl, len_ne, all_loop l h boxFine false ()]
  · cases l.length == 4
    · rfl
    · cases l.all boxFine <;> rfl
  · intro k hk
    unfold spec_BoxOk_b1 boxFine
    rw [lt_len _ k hk, idx_lt hk]
    simp only [cond_true, Option.bind_some, l1Num_eq]
    cases hq : inR l[k].Ver 0 1000000 with
    | false =>
      by_cases h1 : l[k].Ver < 0
      · simp [h1]
      · have : l[k].Ver > 1000000 := by
          unfold inR at hq
          simp at hq
          omega
        simp [h1, this]
    | true =>
      unfold inR at hq
      simp at hq
      have h1 : ¬ l[k].Ver < 0 := by omega
      have h2 : ¬ l[k].Ver > 1000000 := by omega
      simp only [h1, h2, decide_false, cond_false, Bool.true_and]
      cases inR l[k].Val (-1000000) 1000000 <;> rfl
  · unfold spec_BoxOk_b1
    rw [nlt_len]; rfl
theorem implBoxOk_eq {l : List TBox} (h : Fits l) : impl_BoxOk l = some (boxesOk l) := by
  unfold impl_BoxOk boxesOk impl_BoxOk_k2
  rw [show (4 : Int) = ((4 : Nat) : Int) from rfl, len_eq, all_loop l h boxFine false ()]
  · cases l.length == 4 <;> cases l.all boxFine <;> rfl
  · intro k hk
    unfold impl_BoxOk_b1 boxFine
    rw [lt_len _ k hk, idx_lt hk]
    simp only [cond_true, Option.bind_some, in_eq]
    cases inR l[k].Ver 0 1000000 <;> cases inR l[k].Val (-1000000) 1000000 <;> rfl
  · unfold impl_BoxOk_b1
    rw [nlt_len]; rfl

/-! ### What a run that is right holds -/
theorem okReads_mem {l : List TRead} (h : (List.range l.length).all (okReads l) = true) : ∀ x ∈ l, 0 ≤ x.Box ∧ x.Box ≤ 3 ∧ 0 ≤ x.Ver ∧ x.Ver ≤ 1000000 := by
  intro x hx
  obtain ⟨i, hi, rfl⟩ := List.getElem_of_mem hx
  have := List.all_eq_true.1 h i (by simpa using hi)
  unfold okReads at this
  rw [List.getElem?_eq_getElem hi] at this
  simp [inR] at this
  omega
theorem okPuts_mem {l : List TPut} (h : (List.range l.length).all (okPuts l) = true) : ∀ x ∈ l, 0 ≤ x.Box ∧ x.Box ≤ 3 ∧ -1000000 ≤ x.Val ∧ x.Val ≤ 1000000 := by
  intro x hx
  obtain ⟨i, hi, rfl⟩ := List.getElem_of_mem hx
  have := List.all_eq_true.1 h i (by simpa using hi)
  unfold okPuts at this
  rw [List.getElem?_eq_getElem hi] at this
  simp [inR] at this
  omega
theorem runOk_parts {r : TRun} (h : runOk r = true) : (0 ≤ r.Code ∧ r.Code ≤ 3) ∧ (-1000000 ≤ r.Val ∧ r.Val ≤ 1000000) ∧ (r.Code = 0 ∨ (r.Val = 0 ∧ r.Puts = [])) ∧ (∀ x ∈ r.Reads, 0 ≤ x.Box ∧ x.Box ≤ 3 ∧ 0 ≤ x.Ver ∧ x.Ver ≤ 1000000) ∧ ∀ x ∈ r.Puts, 0 ≤ x.Box ∧ x.Box ≤ 3 ∧ -1000000 ≤ x.Val ∧ x.Val ≤ 1000000 := by
  unfold runOk at h
  simp only [Bool.and_eq_true, Bool.or_eq_true] at h
  obtain ⟨h1, h2, h3, _, h4, h5⟩ := h
  refine ⟨by simpa [inR] using h1, by simpa [inR] using h2, by simpa using h3, okReads_mem h4, okPuts_mem h5⟩

/-! ### Is it as it was -/
def fresh (l : List TBox) (r : TRun) : Bool := r.Reads.all fun x => match l[x.Box.toNat]? with
  | some b => b.Ver == x.Ver
  | none => true
theorem boxesOk_len {l : List TBox} (h : boxesOk l = true) : l.length = 4 := by
  unfold boxesOk at h
  simp only [Bool.and_eq_true, beq_iff_eq] at h
  exact h.1
theorem boxesOk_fits {l : List TBox} (h : boxesOk l = true) : Fits l := by
  unfold Fits
  rw [boxesOk_len h]
  decide
theorem box_at {l : List TBox} (h : boxesOk l = true) {b : Int} (hb : 0 ≤ b ∧ b ≤ 3) : ∃ x, idx l b = some x ∧ l[b.toNat]? = some x ∧ boxFine x = true := by
  have hl := boxesOk_len h
  have hlt : b.toNat < l.length := by omega
  refine ⟨l[b.toNat], ?_, List.getElem?_eq_getElem hlt, ?_⟩
  · unfold idx
    rw [if_pos hb.1, List.getElem?_eq_getElem hlt]
  · unfold boxesOk at h
    simp only [Bool.and_eq_true] at h
    exact List.all_eq_true.1 h.2 _ (List.getElem_mem hlt)
theorem specFresh_eq {l : List TBox} {r : TRun} (hl : Fits l) (hr : fRun r) : spec_ExecFresh l r = some (boxesOk l && (runOk r && fresh l r)) := by
  unfold spec_ExecFresh
  rw [specBoxOk_eq hl, specOk_eq hr]
  simp only [Option.bind_some]
  cases h1 : boxesOk l
  · rfl
  cases h2 : runOk r
  · rfl
  have hp := runOk_parts h2
  simp only [Bool.not_true, cond_false, Bool.true_and]
  rw [all_loop r.Reads (hr.1.fits (by decide)) (fun x => match l[x.Box.toNat]? with | some b => b.Ver == x.Ver | none => true) false ()]
  · unfold fresh
    cases r.Reads.all _ <;> rfl
  · intro k hk
    have hm := hp.2.2.2.1 _ (List.getElem_mem hk)
    obtain ⟨b, hb1, hb2, _⟩ := box_at h1 (b := r.Reads[k].Box) ⟨hm.1, hm.2.1⟩
    unfold spec_ExecFresh_b1
    rw [lt_len _ k hk, idx_lt hk]
    simp only [cond_true, Option.bind_some, hb1, hb2]
    unfold bne
    cases b.Ver == r.Reads[k].Ver <;> rfl
  · unfold spec_ExecFresh_b1
    rw [nlt_len]; rfl
theorem implFresh_eq {l : List TBox} {r : TRun} (hl : Fits l) (hr : fRun r) : impl_ExecFresh l r = some (boxesOk l && (runOk r && fresh l r)) := by
  unfold impl_ExecFresh
  rw [implBoxOk_eq hl, implOk_eq hr]
  simp only [Option.bind_some]
  cases h1 : boxesOk l
  · rfl
  cases h2 : runOk r
  · rfl
  have hp := runOk_parts h2
  simp only [Bool.not_true, cond_false, Bool.true_and]
  rw [all_loop r.Reads (hr.1.fits (by decide)) (fun x => match l[x.Box.toNat]? with | some b => b.Ver == x.Ver | none => true) false ()]
  · unfold fresh
    cases r.Reads.all _ <;> rfl
  · intro k hk
    have hm := hp.2.2.2.1 _ (List.getElem_mem hk)
    obtain ⟨b, hb1, hb2, _⟩ := box_at h1 (b := r.Reads[k].Box) ⟨hm.1, hm.2.1⟩
    unfold impl_ExecFresh_b1
    rw [lt_len _ k hk, idx_lt hk]
    simp only [cond_true, Option.bind_some, hb1, hb2]
    unfold bne
    cases b.Ver == r.Reads[k].Ver <;> rfl
  · unfold impl_ExecFresh_b1
    rw [nlt_len]; rfl

/-! ### Puts done -/
def bump (l : List TBox) (p : TPut) : List TBox := match l[p.Box.toNat]? with
  | some b => l.set p.Box.toNat ⟨if b.Ver + 1 < 1000000 then b.Ver + 1 else 1000000, p.Val⟩
  | none => l
def doPuts (l : List TBox) (ps : List TPut) : List TBox := ps.foldl bump l
def putFine (x : TPut) : Prop := 0 ≤ x.Box ∧ x.Box ≤ 3 ∧ -1000000 ≤ x.Val ∧ x.Val ≤ 1000000
theorem bump_at {l : List TBox} {p : TPut} {b : TBox} (h : l[p.Box.toNat]? = some b) : bump l p = l.set p.Box.toNat ⟨if b.Ver + 1 < 1000000 then b.Ver + 1 else 1000000, p.Val⟩ := by
  unfold bump
  rw [h]
theorem boxFine_iff {b : TBox} : boxFine b = true ↔ (0 ≤ b.Ver ∧ b.Ver ≤ 1000000) ∧ (-1000000 ≤ b.Val ∧ b.Val ≤ 1000000) := by
  unfold boxFine inR
  simp
theorem boxesOk_iff {l : List TBox} : boxesOk l = true ↔ l.length = 4 ∧ ∀ b ∈ l, boxFine b = true := by
  unfold boxesOk
  simp
theorem bump_ok {l : List TBox} {p : TPut} (h : boxesOk l = true) (hp : putFine p) : boxesOk (bump l p) = true := by
  obtain ⟨b, _, h2, h3⟩ := box_at h (b := p.Box) ⟨hp.1, hp.2.1⟩
  rw [boxesOk_iff] at h ⊢
  unfold bump
  rw [h2]
  refine ⟨by simpa using h.1, fun x hx => ?_⟩
  rcases List.mem_or_eq_of_mem_set hx with hx | rfl
  · exact h.2 x hx
  · rw [boxFine_iff] at h3 ⊢
    refine ⟨?_, hp.2.2⟩
    simp only
    split <;> omega
theorem doPuts_ok : ∀ {ps : List TPut} {l : List TBox}, boxesOk l = true → (∀ p ∈ ps, putFine p) → boxesOk (doPuts l ps) = true
  | [], l, h, _ => h
  | p :: ps, l, h, hp => doPuts_ok (ps := ps) (bump_ok h (hp p (by simp))) fun x hx => hp x (by simp [hx])
theorem doPuts_take {l : List TBox} {ps : List TPut} (h : boxesOk l = true) (hp : ∀ p ∈ ps, putFine p) (k : Nat) : boxesOk ((ps.take k).foldl bump l) = true :=
  doPuts_ok h fun p hq => hp p (List.mem_of_mem_take hq)
theorem specDo_eq {l : List TBox} {r : TRun} (hl : boxesOk l = true) (hr : fRun r) (hp : ∀ p ∈ r.Puts, putFine p) : spec_l3Do l r = some (doPuts l r.Puts) := by
  unfold spec_l3Do
  rw [fold_loop r.Puts (hr.2.1.fits (by decide)) bump l id]
  · rfl
  · intro k hk
    have hq := hp _ (List.getElem_mem hk)
    obtain ⟨b, h1, h2, h3⟩ := box_at (doPuts_take hl hp k) (b := r.Puts[k].Box) ⟨hq.1, hq.2.1⟩
    rw [boxFine_iff] at h3
    unfold spec_l3Do_b1
    rw [lt_len _ k hk, idx_lt hk]
    simp only [cond_true, Option.bind_some, h1]
    unfold spec_l1Min
    rw [bump_at h2, w64_in (n := b.Ver + 1) (by omega) (by omega)]
    by_cases hv : b.Ver + 1 < 1000000
    · have : ¬ (1000000 : Int) < b.Ver + 1 := by omega
      simp [hv, this]
    · by_cases hv2 : (1000000 : Int) < b.Ver + 1
      · simp [hv, hv2]
      · have : b.Ver + 1 = 1000000 := by omega
        simp [hv, hv2, this]
  · unfold spec_l3Do_b1
    rw [nlt_len]; rfl
theorem copiedBox_eq {l : List TBox} (h : l.length * 16 ≤ 140737488351232) : impl_copied_Box l = some l := by
  unfold impl_copied_Box need
  cases l with
  | nil => rfl
  | cons x l =>
    have h1 : (((x :: l).length : Int) == 0) = false := by simp; omega
    rw [h1, cond_false, if_pos (by constructor <;> omega), if_pos (by simp)]
theorem copiedDone_eq {l : List TDone} (h : l.length * 32 ≤ 140737488351232) : impl_copied_Done l = some l := by
  unfold impl_copied_Done need
  cases l with
  | nil => rfl
  | cons x l =>
    have h1 : (((x :: l).length : Int) == 0) = false := by simp; omega
    rw [h1, cond_false, if_pos (by constructor <;> omega), if_pos (by simp)]
theorem implDo_eq {l : List TBox} {r : TRun} (hl : boxesOk l = true) (hr : fRun r) (hok : runOk r = true) : impl_ExecDo l r = some (doPuts l r.Puts) := by
  have hp : ∀ p ∈ r.Puts, putFine p := (runOk_parts hok).2.2.2.2
  unfold impl_ExecDo
  rw [implBoxOk_eq (boxesOk_fits hl), implOk_eq hr, hl, hok]
  simp only [Option.bind_some, Bool.not_true, cond_false]
  rw [copiedBox_eq (by rw [boxesOk_len hl]; decide), Option.bind_some, fold_loop r.Puts (hr.2.1.fits (by decide)) bump l id]
  · rfl
  · intro k hk
    have hq := hp _ (List.getElem_mem hk)
    obtain ⟨b, h1, h2, h3⟩ := box_at (doPuts_take hl hp k) (b := r.Puts[k].Box) ⟨hq.1, hq.2.1⟩
    rw [boxFine_iff] at h3
    unfold impl_ExecDo_b1
    rw [lt_len _ k hk, idx_lt hk]
    simp only [cond_true, Option.bind_some, h1]
    rw [bump_at h2, w64_in (n := b.Ver + 1) (by omega) (by omega)]
  · unfold impl_ExecDo_b1
    rw [nlt_len]; rfl
end Go.Proofs.Ythefcgmhjonopaa
