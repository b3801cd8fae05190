/- The last request of somebody: it only rises. -/
import Derived.Test.YtdmkfpjpgklafaaK1
set_option linter.unusedVariables false
set_option linter.unusedSimpArgs false
namespace Go.Proofs.Ytdmkfpjpgklafaa
open Go

theorem find_filter {α : Type} {p q : α → Bool} (h : ∀ x, p x = true → q x = true) : ∀ l : List α, (l.filter q).find? p = l.find? p
  | [] => rfl
  | x :: l => by
    cases hq : q x with
    | true =>
      rw [List.filter_cons_of_pos hq, List.find?_cons, List.find?_cons, find_filter h l]
    | false =>
      have hp : p x = false := by
        cases hp : p x with
        | false => rfl
        | true => rw [h x hp] at hq; cases hq
      rw [List.filter_cons_of_neg (by simp [hq]), List.find?_cons, hp, find_filter h l]
theorem find_filter_none {α : Type} {p q : α → Bool} (h : ∀ x, p x = true → q x = false) (l : List α) : (l.filter q).find? p = none := by
  rw [List.find?_eq_none]
  intro x hx
  have hq := (List.mem_filter.1 hx).2
  intro hp
  rw [h x hp] at hq
  cases hq
theorem putDone_find {l : List TDone} (h : Sorted l) (d : TDone) (w : Int) : (putDone l d).find? (fun x => x.Req.Who == w) = bif d.Req.Who == w then some d else l.find? (fun x => x.Req.Who == w) := by
  rw [putDone_eq d h, List.find?_append, List.find?_cons]
  by_cases hw : d.Req.Who = w
  · subst hw
    rw [find_filter_none (by intro x hx; simp at hx; simp; omega)]
    simp
  · have hne : (d.Req.Who == w) = false := by simpa using hw
    rw [hne]
    simp only [cond_false]
    by_cases hlt : w < d.Req.Who
    · rw [find_filter (by intro x hx; simp at hx; simp; omega), find_filter_none (by intro x hx; simp at hx; simp; omega), Option.or_none]
    · rw [find_filter_none (by intro x hx; simp at hx; simp; omega), find_filter (by intro x hx; simp at hx; simp; omega), Option.none_or]
def lastOf (s : TState) (w : Int) : Option TDone := s.Dones.find? (fun x => x.Req.Who == w)
theorem applyFresh_last {s : TState} {k : Nat} {e : TEntry} (hs : Inv s k) (w : Int) : ∃ d, d.Req = e.Req ∧ lastOf (applyFresh s e).1 w = bif e.Req.Who == w then some d else lastOf s w := by
  unfold applyFresh lastOf
  cases fresh s.Boxes e.Run
  · exact ⟨⟨e.Req, 1, 0⟩, rfl, putDone_find hs.sorted _ w⟩
  · cases e.Run.Code == 0
    · exact ⟨⟨e.Req, 2, 0⟩, rfl, putDone_find hs.sorted _ w⟩
    · exact ⟨⟨e.Req, 0, e.Run.Val⟩, rfl, putDone_find hs.sorted _ w⟩
/-- Behind an entry its own node's last request is no elder one. -/
theorem apply_last {s : TState} {k : Nat} {e : TEntry} (hs : Inv s k) (hn : e.None = false) : ∃ d, lastOf (apply s e).1 e.Req.Who = some d ∧ e.Req.Seq ≤ d.Req.Seq := by
  obtain ⟨d, h1, h2⟩ := applyFresh_last (e := e) hs e.Req.Who
  rw [beq_self_eq_true, cond_true] at h2
  have hfr : ∃ d, lastOf (applyFresh s e).1 e.Req.Who = some d ∧ e.Req.Seq ≤ d.Req.Seq := ⟨d, h2, by rw [h1]; exact Int.le_refl _⟩
  unfold apply
  rw [hn, cond_false]
  cases hf : s.Dones.find? fun d => d.Req.Who == e.Req.Who with
  | none => exact hfr
  | some d =>
    simp only
    cases h3 : d.Req.Seq == e.Req.Seq
    · by_cases h4 : d.Req.Seq > e.Req.Seq
      · simp only [h4, decide_true, cond_true, cond_false]
        exact ⟨d, hf, by omega⟩
      · simp only [h4, decide_false, cond_false]
        exact hfr
    · exact ⟨d, hf, by have : d.Req.Seq = e.Req.Seq := by simpa using h3
                       omega⟩
theorem apply_last_mono {s : TState} {k : Nat} {e : TEntry} (hs : Inv s k) {w : Int} {d : TDone} (hd : lastOf s w = some d) : ∃ d', lastOf (apply s e).1 w = some d' ∧ d.Req.Seq ≤ d'.Req.Seq := by
  have same : ∃ d', lastOf s w = some d' ∧ d.Req.Seq ≤ d'.Req.Seq := ⟨d, hd, Int.le_refl _⟩
  have hfr : (∀ d', lastOf s e.Req.Who = some d' → d'.Req.Seq ≤ e.Req.Seq) → ∃ d', lastOf (applyFresh s e).1 w = some d' ∧ d.Req.Seq ≤ d'.Req.Seq := by
    intro hle
    obtain ⟨d2, h1, h2⟩ := applyFresh_last (e := e) hs w
    by_cases hw : e.Req.Who = w
    · subst hw
      rw [beq_self_eq_true, cond_true] at h2
      exact ⟨d2, h2, by rw [h1]; exact hle d hd⟩
    · have : (e.Req.Who == w) = false := by simpa using hw
      rw [this, cond_false] at h2
      exact ⟨d, h2.trans hd, Int.le_refl _⟩
  unfold apply
  cases hn : e.None
  · simp only [cond_false]
    cases hf : s.Dones.find? fun d => d.Req.Who == e.Req.Who with
    | none => exact hfr fun d' h => by unfold lastOf at h; rw [hf] at h; cases h
    | some d0 =>
      simp only
      cases h3 : d0.Req.Seq == e.Req.Seq
      · by_cases h4 : d0.Req.Seq > e.Req.Seq
        · simp only [h4, decide_true, cond_true, cond_false]
          exact same
        · simp only [h4, decide_false, cond_false]
          refine hfr fun d' h => ?_
          unfold lastOf at h
          rw [hf] at h
          injection h with h
          subst h
          omega
      · exact same
  · exact same
theorem apply_elder {s : TState} {e : TEntry} {d : TDone} (hd : lastOf s e.Req.Who = some d) (h : e.Req.Seq ≤ d.Req.Seq) : (apply s e).2 ≠ 0 := by
  unfold lastOf at hd
  unfold apply
  cases hn : e.None
  · simp only [cond_false, hd]
    cases h3 : d.Req.Seq == e.Req.Seq
    · have hne : d.Req.Seq ≠ e.Req.Seq := by simpa using h3
      have hgt : d.Req.Seq > e.Req.Seq := by omega
      simp only [hgt, decide_true, cond_true, cond_false]
      decide
    · exact show (3 : Int) ≠ 0 from by decide
  · exact show (5 : Int) ≠ 0 from by decide
/-- Once a request has stood in the list, it isn't done further behind. -/
theorem done_once {l : List TEntry} (hl : l.length ≤ 40) (he : l.all entryOk = true) {i m : Nat} (him : i < m) (hm : m < l.length) (hn : (l[i]'(by omega)).None = false) (hq : l[m].Req = (l[i]'(by omega)).Req) : (folded l).2[m]? ≠ some 0 := by
  have hi : i < l.length := by omega
  have key : ∀ n, i < n → n ≤ l.length → ∃ d, lastOf (folded (l.take n)).1 l[i].Req.Who = some d ∧ l[i].Req.Seq ≤ d.Req.Seq := by
    intro n
    induction n with
    | zero => intro h; omega
    | succ n ih =>
      intro h1 h2
      have hin := (folded_inv hl he n (by omega)).1
      rw [folded_take (show n < l.length by omega)]
      show ∃ d, lastOf (apply (folded (l.take n)).1 l[n]).1 l[i].Req.Who = some d ∧ _
      by_cases hq : i = n
      · subst hq
        exact apply_last hin hn
      · obtain ⟨d, h3, h4⟩ := ih (by omega) (by omega)
        obtain ⟨d', h5, h6⟩ := apply_last_mono (e := l[n]) hin h3
        exact ⟨d', h5, by omega⟩
  obtain ⟨d, h1, h2⟩ := key m him (by omega)
  rw [folded_code hl he hm]
  intro h
  injection h with h
  exact apply_elder (e := l[m]) (by rw [hq]; exact h1) (by rw [hq]; exact h2) h
end Go.Proofs.Ytdmkfpjpgklafaa
