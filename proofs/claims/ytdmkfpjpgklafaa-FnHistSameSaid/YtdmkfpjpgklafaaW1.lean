/- Plain law of HistWho: who put into a box last, forward or backward. -/
import Derived.Test.YtdmkfpjpgklafaaH3
set_option linter.unusedVariables false
set_option linter.unusedSimpArgs false
namespace Go.Proofs.Ytdmkfpjpgklafaa
open Go

def lastIdx (p : Nat → Bool) : Nat → Int
  | 0 => -1
  | n + 1 => bif p n then (n : Int) else lastIdx p n
theorem lastIdx_ge (p : Nat → Bool) : ∀ n, -1 ≤ lastIdx p n ∧ lastIdx p n < n
  | 0 => by simp [lastIdx]
  | n + 1 => by
    have := lastIdx_ge p n
    unfold lastIdx
    cases p n <;> simp only [cond_true, cond_false] <;> omega
theorem lastIdx_neg (p : Nat → Bool) : ∀ n, ¬ lastIdx p n ≥ 0 → lastIdx p n = -1 := fun n h => by
  have := lastIdx_ge p n
  omega
theorem lastIdx_succ (p : Nat → Bool) (n : Nat) : lastIdx p (n + 1) = bif p n then (n : Int) else lastIdx p n := rfl
def putBy (l : List TEntry) (codes : List Int) (box : Int) (i : Nat) : Bool := match codes[i]?, l[i]? with
  | some c, some e => c == 0 && sawP e.Run.Puts box
  | _, _ => false
def histWho (l : List TEntry) (box : Int) : Int := bif listOk l then lastIdx (putBy l (folded l).2 box) l.length else -1
theorem putBy_at {l : List TEntry} {codes : List Int} {box : Int} {i : Nat} (h1 : i < l.length) (h2 : i < codes.length) : putBy l codes box i = (codes[i] == 0 && sawP l[i].Run.Puts box) := by
  unfold putBy
  rw [List.getElem?_eq_getElem h1, List.getElem?_eq_getElem h2]
theorem specWho_eq {l : List TEntry} (h : okL 88 fEntry l) (box : Int) : spec_HistWho l box = some (histWho l box) := by
  have hf : Fits l := h.fits (by decide)
  unfold spec_HistWho histWho
  rw [specList_eq h, Option.bind_some]
  cases hok : listOk l
  · rfl
  obtain ⟨hl, he⟩ := listOk_parts hok
  obtain ⟨_, hlen, _⟩ := folded_inv hl he l.length (Nat.le_refl _)
  rw [List.take_length] at hlen
  rw [Bool.not_true, cond_false, cond_true, specCodes_eq h hl he, Option.bind_some]
  have hloop := loop_to (body := fun s : Int × Int => spec_HistWho_b1 l box (folded l).2 s.1 s.2) (fun k => (lastIdx (putBy l (folded l).2 box) k, (k : Int))) l.length (by
    intro k hk
    have hk2 : k < (folded l).2.length := by omega
    obtain ⟨v, h1, h2⟩ := l3At_eq ((h.2 _ (List.getElem_mem hk)).2.2.1.fits (by decide)) box
    rw [lastIdx_succ, putBy_at hk hk2]
    unfold spec_HistWho_b1 spec_HistWho_j1
    rw [lt_len _ k hk, idx_lt hk, idx_lt hk2, w64_next hf hk]
    simp only [cond_true, Option.bind_some, h1, h2]
    cases (folded l).2[k] == 0 <;> cases sawP l[k].Run.Puts box <;> rfl)
  rw [show (((lastIdx (putBy l (folded l).2 box) 0), ((0 : Nat) : Int)) : Int × Int) = (-1, 0) from rfl] at hloop
  rw [hloop, loop_brk (b := lastIdx (putBy l (folded l).2 box) l.length)]
  · rfl
  · unfold spec_HistWho_b1
    rw [nlt_len]; rfl
theorem implWho_eq {l : List TEntry} (h : okL 88 fEntry l) (box : Int) : impl_HistWho l box = some (histWho l box) := by
  have hf : Fits l := h.fits (by decide)
  unfold impl_HistWho histWho
  rw [implList_eq h, Option.bind_some]
  cases hok : listOk l
  · rfl
  obtain ⟨hl, he⟩ := listOk_parts hok
  obtain ⟨_, hlen, _⟩ := folded_inv hl he l.length (Nat.le_refl _)
  rw [List.take_length] at hlen
  rw [Bool.not_true, cond_false, cond_true, implFolded_eq h hl he, Option.bind_some]
  have key : ∀ k, k ≤ l.length → loop (fun s : Int => impl_HistWho_b1 l box (folded l) s) ((k : Int) - 1) = some (bif decide (lastIdx (putBy l (folded l).2 box) k ≥ 0) then .ret (lastIdx (putBy l (folded l).2 box) k) else .brk ()) := by
    intro k
    induction k with
    | zero =>
      intro _
      refine loop_brk ?_
      rfl
    | succ k ih =>
      intro hk
      have hk1 : k < l.length := by omega
      have hk2 : k < (folded l).2.length := by omega
      obtain ⟨v, h1, h2⟩ := putAt_eq ((h.2 _ (List.getElem_mem hk1)).2.2.1.fits (by decide)) box
      have hb : impl_HistWho_b1 l box (folded l) (k : Int) = some (bif putBy l (folded l).2 box k then .ret (k : Int) else .nxt ((k : Int) - 1)) := by
        rw [putBy_at hk1 hk2]
        unfold impl_HistWho_b1 impl_HistWho_j1
        rw [idx_lt hk1, idx_lt hk2, w64_in (by omega) (by omega), show decide ((k : Int) ≥ 0) = true from by simp]
        simp only [cond_true, Option.bind_some, h1, h2]
        cases (folded l).2[k] == 0 <;> cases sawP l[k].Run.Puts box <;> rfl
      rw [show ((k + 1 : Nat) : Int) - 1 = (k : Int) from by omega]
      rw [lastIdx_succ]
      cases hp : putBy l (folded l).2 box k with
      | true =>
        rw [hp] at hb
        rw [loop_ret hb]
        simp
      | false =>
        rw [hp] at hb
        rw [loop_nxt hb, ih (by omega)]
        rfl
  rw [w64_in (by omega) (by omega), key l.length (Nat.le_refl _)]
  by_cases hq : lastIdx (putBy l (folded l).2 box) l.length ≥ 0
  · simp [hq, Exc.go]
  · simp [hq, Exc.go, impl_HistWho_k2, lastIdx_neg _ _ hq]
end Go.Proofs.Ytdmkfpjpgklafaa
