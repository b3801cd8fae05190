/- Plain law of FnHistClash: conflicts are found exactly. -/
import Derived.Test.YtdmkfpjpgklafaaK0
set_option linter.unusedVariables false
set_option linter.unusedSimpArgs false
namespace Go.Proofs.Ytdmkfpjpgklafaa
open Go

theorem any_next {α : Type} (p : α → Bool) {l : List α} {k : Nat} (hk : k < l.length) : (l.take (k + 1)).any p = ((l.take k).any p || p l[k]) := by
  rw [List.take_succ_eq_append_getElem hk, List.any_append]
  simp
def eqR (x y : TReq) : Bool := ([x.Who, x.Seq] : List Int) == [y.Who, y.Seq]
theorem eqR_self (x : TReq) : eqR x x = true := by simp [eqR]
theorem eqR_eq {x y : TReq} (h : eqR x y = true) : x = y := by
  cases x; cases y
  simp [eqR] at h
  simp [h]
theorem clash_list {x y : TClash} (h : (([x.First, x.Last, x.Box] : List Int) == [y.First, y.Last, y.Box]) = true) : x = y := by
  cases x; cases y
  simp at h
  simp [h]
theorem cnt_take_succ {cs : List Int} {k : Nat} (hk : k < cs.length) (c : Int) : cnt (cs.take (k + 1)) c = cnt (cs.take k) c + (if cs[k] = c then 1 else 0) := by
  rw [List.take_succ_eq_append_getElem hk, cnt_snoc]
theorem cnt_take_mono {cs : List Int} (c : Int) (k : Nat) : ∀ d, k + d ≤ cs.length → cnt (cs.take k) c ≤ cnt (cs.take (k + d)) c
  | 0, _ => Int.le_refl _
  | d + 1, h => by
    have ih := cnt_take_mono (cs := cs) c k d (by omega)
    have := cnt_take_succ (cs := cs) (show k + d < cs.length by omega) c
    rw [show k + (d + 1) = k + d + 1 from rfl, this]
    split <;> omega
theorem cnt_two {cs : List Int} {i k : Nat} (hik : i < k) (hk : k < cs.length) (h1 : cs[i]'(by omega) = 0) (h2 : cs[k] = 0) : 2 ≤ cnt cs 0 := by
  have a := cnt_take_succ (cs := cs) (show i < cs.length by omega) 0
  have b := cnt_take_succ (cs := cs) hk 0
  rw [if_pos h1] at a
  rw [if_pos h2] at b
  have c := cnt_take_mono (cs := cs) 0 (i + 1) (k - (i + 1)) (by omega)
  rw [show i + 1 + (k - (i + 1)) = k from by omega] at c
  have d := cnt_take_mono (cs := cs) 0 (k + 1) (cs.length - (k + 1)) (by omega)
  rw [show k + 1 + (cs.length - (k + 1)) = cs.length from by omega, List.take_length] at d
  have e := (cnt_range (cs.take i) 0).1
  omega

theorem both_parts {l : List TEntry} {cs : List Int} {i k b : Nat} (h : both l cs i k b = true) (hc : cs.length = l.length) (hi : i < l.length) (hk : k < l.length) : cs[i]'(by omega) = 0 ∧ cs[k]'(by omega) = 0 ∧ clashes l[i].Run l[k].Run (b : Int) = true := by
  rw [both_at hi hk (by omega) (by omega)] at h
  simpa using h
theorem clashes_puts {a b : TRun} {box : Int} (h : clashes a b box = true) : (sawP a.Puts box || sawP b.Puts box) = true := by
  unfold clashes at h
  cases h1 : sawP a.Puts box <;> cases h2 : sawP b.Puts box <;> simp_all

end Go.Proofs.Ytdmkfpjpgklafaa
