/- Plain law of HistWho: who put into a box last, forward or backward. -/
import Derived.Test.YthefcgmhjonopaaH3
set_option linter.unusedVariables false
set_option linter.unusedSimpArgs false
namespace Go.Proofs.Ythefcgmhjonopaa
open Go

def lastIdx (p : Nat → Bool) : Nat → Int
  | 0 => -1
  | n + 1 => bif p n then (n : Int) else lastIdx p n
theorem lastIdx_ge (p : Nat → Bool) : ∀ n, -1 ≤ lastIdx p n ∧ lastIdx p n < n
  | 0 => by simp [lastIdx]
  | n + 1 => by
    have := lastIdx_ge p n
    unfold lastIdx
    cases p n <;> simp only [cond_true, cond_false] <;> omega
theorem lastIdx_neg (p : Nat → Bool) : ∀ n, ¬ lastIdx p n ≥ 0 → lastIdx p n = -1 := fun n h => by
  have := lastIdx_ge p n
  omega
theorem lastIdx_succ (p : Nat → Bool) (n : Nat) : lastIdx p (n + 1) = bif p n then (n : Int) else lastIdx p n := rfl
def putBy (l : List TEntry) (codes : List Int) (box : Int) (i : Nat) : Bool := match codes[i]?, l[i]? with
  | some c, some e => c == 0 && sawP e.Run.Puts box
  | _, _ => false
def histWho (l : List TEntry) (box : Int) : Int := bif listOk l then lastIdx (putBy l (folded l).2 box) l.length else -1
theorem putBy_at {l : List TEntry} {codes : List Int} {box : Int} {i : Nat} (h1 : i < l.length) (h2 : i < codes.length) : putBy l codes box i = (codes[i] == 0 && sawP l[i].Run.Puts box) := by
  unfold putBy
  rw [List.getElem?_eq_getElem h1, List.getElem?_eq_getElem h2]
end Go.Proofs.Ythefcgmhjonopaa
