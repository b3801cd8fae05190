/- Plain law of FnHistAt: versions only grow along the log. -/
import Derived.Test.YtiljkgffdehagaaA0
set_option linter.unusedVariables false
set_option linter.unusedSimpArgs false
namespace Go.Proofs.Ytiljkgffdehagaa
open Go

theorem histAt_in {l : List TEntry} (hok : listOk l = true) {k : Nat} (hk : k ≤ l.length) : histAt l (k : Int) = (folded (l.take k)).1.Boxes := by
  unfold histAt
  have : inR (k : Int) 0 (l.length : Int) = true := by unfold inR; simp; omega
  rw [hok, this]
  rfl
theorem four_in {k : Int} (h0 : 0 ≤ k) (h4 : k < 4) {l : List TBox} (hl : l.length = 4) : ∃ x, idx l k = some x ∧ l[k.toNat]? = some x := by
  have hlt : k.toNat < l.length := by omega
  refine ⟨l[k.toNat], ?_, List.getElem?_eq_getElem hlt⟩
  unfold idx
  rw [if_pos h0, List.getElem?_eq_getElem hlt]
theorem fnHistAt_true {code : List Int} (h : okL 1 okU8 code) : laws_FnHistAt code = some true := by
  unfold laws_FnHistAt
  cases decide ((code.length : Int) > 1048576)
  case true => rfl
  obtain ⟨l, n, d1, d2, d3, d4⟩ := drawAt_ok h.2
  have hf := d2.f
  rw [cond_false, d1, Option.bind_some]
  simp only
  rw [implAt_eq hf, Option.bind_some, specAt_eq hf, Option.bind_some, boxSame_self (histAt_fits _ _), Option.bind_some, Bool.not_true, cond_false]
  cases hok : listOk l
  case false =>
    have : histAt l n = [] := by unfold histAt; rw [hok]; rfl
    rw [this]; rfl
  cases hn : inR n 0 (l.length : Int)
  case false =>
    have : histAt l n = [] := by unfold histAt; rw [hok, hn]; rfl
    rw [this]; rfl
  have hn' : 0 ≤ n ∧ n ≤ (l.length : Int) := by simpa [inR] using hn
  obtain ⟨m, rfl⟩ : ∃ m : Nat, n = (m : Int) := ⟨n.toNat, by omega⟩
  have hm : m ≤ l.length := by omega
  obtain ⟨hl, he⟩ := listOk_parts hok
  have hlen : ∀ k, k ≤ l.length → (folded (l.take k)).1.Boxes.length = 4 := fun k hk => boxesOk_len (folded_inv hl he k hk).1.boxes
  rw [histAt_in hok hm]
  have h0 : (((folded (l.take m)).1.Boxes.length : Int) == 0) = false := by rw [hlen m hm]; rfl
  rw [h0, cond_false]
  have hloop := loop_to (body := fun s : Int => laws_FnHistAt_b2 (l, (m : Int)) (folded (l.take m)).1.Boxes s) (fun k => (k : Int)) (l.length + 1) (by
    intro k hk
    have hk' : k ≤ l.length := by omega
    unfold laws_FnHistAt_b2
    have hle : decide ((k : Int) ≤ (l.length : Int)) = true := by simp; omega
    rw [hle, cond_true, implAt_eq hf, Option.bind_some, histAt_in hok hk']
    have hin := loop_to (body := fun s : Int => laws_FnHistAt_b1 (l, (m : Int)) (folded (l.take m)).1.Boxes (k : Int) (folded (l.take k)).1.Boxes s) (fun i => (i : Int)) 4 (by
      intro i hi
      obtain ⟨x, x1, x2⟩ := four_in (k := (i : Int)) (by omega) (by omega) (hlen k hk')
      obtain ⟨y, y1, y2⟩ := four_in (k := (i : Int)) (by omega) (by omega) (hlen m hm)
      rw [Int.toNat_natCast] at x2 y2
      unfold laws_FnHistAt_b1 laws_FnHistAt_j1
      have hi4 : decide ((i : Int) < 4) = true := by simp; omega
      simp only
      rw [hi4, cond_true, x1, y1, w64_in (by omega) (by omega)]
      by_cases c1 : k ≤ m
      · have hv := (folded_le hl he c1 hm).2 i x y x2 y2
        have e1 : ¬ x.Ver > y.Ver := by omega
        by_cases c2 : m ≤ k
        · have hv2 := (folded_le hl he c2 hk').2 i y x y2 x2
          have e2 : ¬ x.Ver < y.Ver := by omega
          simp [c1, c2, e1, e2, Exc.go]
        · simp [c1, c2, e1, Exc.go]
      · have c2 : m ≤ k := by omega
        have hv2 := (folded_le hl he c2 hk').2 i y x y2 x2
        have e2 : ¬ x.Ver < y.Ver := by omega
        simp [c1, c2, e2, Exc.go])
    rw [show ((0 : Nat) : Int) = 0 from rfl] at hin
    rw [hin, loop_brk (b := ())]
    · simp only [Option.bind_some, Exc.go]
      unfold laws_FnHistAt_k5
      rw [w64_in (by omega) (by omega)]
      simp
    · rfl)
  rw [show ((0 : Nat) : Int) = 0 from rfl] at hloop
  rw [hloop, loop_brk (b := ())]
  · simp only [Option.bind_some, Exc.go]
    unfold laws_FnHistAt_k2
    have hat0 : histAt l 0 = List.replicate 4 ⟨0, 0⟩ := by
      rw [show (0 : Int) = ((0 : Nat) : Int) from rfl, histAt_in hok (by omega), List.take_zero]
      rfl
    have hopen : impl_BoxOpen = some (List.replicate 4 ⟨0, 0⟩) := by
      unfold impl_BoxOpen
      rw [need_pos (by decide)]
      rfl
    simp only [implAt_eq hf, hat0, hopen, Option.bind_some, implCertFold_eq hf, hok, cond_true]
    rw [boxSame_self (by simp [Fits]), Option.bind_some, cond_true, histAt_in hok (Nat.le_refl _), List.take_length, boxSame_self (boxesOk_fits (by have := (folded_inv hl he _ (Nat.le_refl _)).1.boxes; rwa [List.take_length] at this))]
    rfl
  · unfold laws_FnHistAt_b2
    have : decide (((l.length + 1 : Nat) : Int) ≤ (l.length : Int)) = false := by simp; omega
    simp only
    rw [this]; rfl
end Go.Proofs.Ytiljkgffdehagaa
