/- Plain law of FnHistWho: the last writer of every box is known. -/
import Derived.Test.YtaeaclkhncagnaaD0
set_option linter.unusedVariables false
set_option linter.unusedSimpArgs false
namespace Go.Proofs.Ytaeaclkhncagnaa
open Go

theorem histAt_in {l : List TEntry} (hok : listOk l = true) {k : Nat} (hk : k ≤ l.length) : histAt l (k : Int) = (folded (l.take k)).1.Boxes := by
  unfold histAt
  have : inR (k : Int) 0 (l.length : Int) = true := by unfold inR; simp; omega
  rw [hok, this]
  rfl
theorem idx_of {α : Type} {l : List α} {i : Int} {x : α} (h0 : 0 ≤ i) (h : l[i.toNat]? = some x) : idx l i = some x := by
  unfold idx
  rw [if_pos h0, h]
theorem fnHistWho_true {code : List Int} (h : okL 1 okU8 code) : laws_FnHistWho code = some true := by
  unfold laws_FnHistWho
  cases decide ((code.length : Int) > 1048576)
  case true => rfl
  obtain ⟨l, n, d1, d2, d3, d4⟩ := drawWho_ok h.2
  have hf := d2.f
  rw [cond_false, d1, Option.bind_some]
  simp only
  rw [implWho_eq hf, Option.bind_some, specWho_eq hf, Option.bind_some, bne_self_eq_false, cond_false, implAt_eq hf, Option.bind_some]
  cases hok : listOk l
  case false =>
    have h1 : histAt l (l.length : Int) = [] := by unfold histAt; rw [hok]; rfl
    have h2 : histWho l n = -1 := by unfold histWho; rw [hok]; rfl
    rw [h1, h2]; rfl
  obtain ⟨hl, he⟩ := listOk_parts hok
  rw [histAt_in hok (Nat.le_refl _)]
  have hlen : (folded (l.take l.length)).1.Boxes.length = 4 := boxesOk_len (folded_inv hl he _ (Nat.le_refl _)).1.boxes
  have h0 : (((folded (l.take l.length)).1.Boxes.length : Int) == 0) = false := by rw [hlen]; rfl
  have hw : histWho l n = lastIdx (putBy l (folded l).2 n) l.length := by unfold histWho; rw [hok]; rfl
  rw [h0, cond_false, hw]
  by_cases hneg : lastIdx (putBy l (folded l).2 n) l.length < 0
  · rw [decide_eq_true hneg, cond_true]
    by_cases hn0 : n < 0
    · rw [decide_eq_true hn0]; rfl
    rw [decide_eq_false hn0, cond_false]
    by_cases hn4 : n ≥ 4
    · rw [decide_eq_true hn4]; rfl
    rw [decide_eq_false hn4, cond_false]
    have hst := box_stays hl he (b := n) (by omega) (j := 0) l.length (by omega) (Nat.le_refl _) (fun i _ hi => lastIdx_none (by omega) i hi)
    rw [List.take_zero] at hst
    have h00 : (folded []).1.Boxes[n.toNat]? = some ⟨0, 0⟩ := by
      have : n = 0 ∨ n = 1 ∨ n = 2 ∨ n = 3 := by omega
      rcases this with rfl | rfl | rfl | rfl <;> rfl
    rw [h00] at hst
    rw [idx_of (by omega) hst]
    rfl
  · obtain ⟨k, k1, k2, k3, k4⟩ := lastIdx_pos (show lastIdx (putBy l (folded l).2 n) l.length ≥ 0 by omega)
    rw [decide_eq_false hneg, cond_false, k1, implAt_eq hf, Option.bind_some, w64_in (by omega) (by omega), show (k : Int) + 1 = ((k + 1 : Nat) : Int) from rfl, implAt_eq hf, Option.bind_some, histAt_in hok (by omega), histAt_in hok (by omega)]
    obtain ⟨hb, hput⟩ := putBy_true hl he k2 k3
    obtain ⟨x, x1, x2, x3⟩ := ver_small hl he hb k (by omega)
    obtain ⟨v, hv⟩ := hput x x1
    have hst := box_stays hl he (b := n) hb.1 (j := k + 1) l.length (by omega) (Nat.le_refl _) (fun i h1 h2 => k4 i (by omega) h2)
    rw [hv] at hst
    have hcap : x.Ver + 1 < 1000000 := by omega
    rw [if_pos hcap] at hst hv
    rw [idx_of hb.1 hv, Option.bind_some, idx_of hb.1 hst, Option.bind_some, idx_of hb.1 x1]
    simp only [beq_self_eq_true, cond_true, Option.bind_some]
    rw [w64_in (by omega) (by omega)]
    simp
end Go.Proofs.Ytaeaclkhncagnaa
