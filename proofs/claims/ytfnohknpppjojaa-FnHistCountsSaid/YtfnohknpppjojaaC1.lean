/- Plain law of FnHistCounts: every entry of the log is accounted for. -/
import Derived.Test.YtfnohknpppjojaaC0
set_option linter.unusedVariables false
set_option linter.unusedSimpArgs false
namespace Go.Proofs.Ytfnohknpppjojaa
open Go

theorem histAt_in {l : List TEntry} (hok : listOk l = true) {k : Nat} (hk : k ≤ l.length) : histAt l (k : Int) = (folded (l.take k)).1.Boxes := by
  unfold histAt
  have : inR (k : Int) 0 (l.length : Int) = true := by unfold inR; simp; omega
  rw [hok, this]
  rfl
/-- Six numbers summed up. -/
theorem sum_loop (a b c d e f : Int) (ha : 0 ≤ a ∧ a ≤ 40) (hb : 0 ≤ b ∧ b ≤ 40) (hc : 0 ≤ c ∧ c ≤ 40) (hd : 0 ≤ d ∧ d ≤ 40) (he : 0 ≤ e ∧ e ≤ 40) (hf : 0 ≤ f ∧ f ≤ 40) :
    loop (fun s : Int × Int => laws_FnHistCounts_b2 [a, b, c, d, e, f] [a, b, c, d, e, f] s.1 s.2) (0, 0) = some (.brk (a + b + c + d + e + f)) := by
  have st : ∀ (i : Nat) (x acc : Int) (hi : i < 6), [a, b, c, d, e, f][i]? = some x → 0 ≤ x → x ≤ 40 → 0 ≤ acc → acc ≤ 1000 →
      laws_FnHistCounts_b2 [a, b, c, d, e, f] [a, b, c, d, e, f] acc (i : Int) = some (.nxt (acc + x, ((i + 1 : Nat) : Int))) := by
    intro i x acc hi hx h0 h1 h2 h3
    unfold laws_FnHistCounts_b2
    have e1 : decide ((i : Int) < (([a, b, c, d, e, f] : List Int).length : Int)) = true := by simp; omega
    have e2 : decide ((i : Int) ≥ (([a, b, c, d, e, f] : List Int).length : Int)) = false := by simp; omega
    have e3 : ¬ x < 0 := by omega
    rw [e1, e2, cond_true, cond_false, idx_nat, hx]
    simp only [Option.bind_some, bne_self_eq_false, cond_false, e3, decide_false]
    rw [w64_in (by omega) (by omega), w64_in (by omega) (by omega)]
    rfl
  rw [loop_nxt (t := (0 + a, ((0 + 1 : Nat) : Int))) (st 0 a 0 (by omega) rfl ha.1 ha.2 (by omega) (by omega)),
    loop_nxt (t := (0 + a + b, ((1 + 1 : Nat) : Int))) (st 1 b (0 + a) (by omega) rfl hb.1 hb.2 (by omega) (by omega)),
    loop_nxt (t := (0 + a + b + c, ((2 + 1 : Nat) : Int))) (st 2 c (0 + a + b) (by omega) rfl hc.1 hc.2 (by omega) (by omega)),
    loop_nxt (t := (0 + a + b + c + d, ((3 + 1 : Nat) : Int))) (st 3 d (0 + a + b + c) (by omega) rfl hd.1 hd.2 (by omega) (by omega)),
    loop_nxt (t := (0 + a + b + c + d + e, ((4 + 1 : Nat) : Int))) (st 4 e (0 + a + b + c + d) (by omega) rfl he.1 he.2 (by omega) (by omega)),
    loop_nxt (t := (0 + a + b + c + d + e + f, ((5 + 1 : Nat) : Int))) (st 5 f (0 + a + b + c + d + e) (by omega) rfl hf.1 hf.2 (by omega) (by omega))]
  rw [Int.zero_add]
  refine loop_brk ?_
  rfl
theorem ver_loop {l : List TBox} (h : boxesOk l = true) : loop (fun s : Int × Int => laws_FnHistCounts_b1 l s.1 s.2) (0, 0) = some (.brk (verSum l)) := by
  have hlen := boxesOk_len h
  match l, hlen with
  | [a, b, c, d], _ =>
    have hb := (boxesOk_iff.1 h).2
    have ha1 := (boxFine_iff.1 (hb a (by simp))).1
    have hb1 := (boxFine_iff.1 (hb b (by simp))).1
    have hc1 := (boxFine_iff.1 (hb c (by simp))).1
    have hd1 := (boxFine_iff.1 (hb d (by simp))).1
    have st : ∀ (i : Nat) (x : TBox) (acc : Int) (hi : i < 4), [a, b, c, d][i]? = some x → 0 ≤ x.Ver → x.Ver ≤ 1000000 → 0 ≤ acc → acc ≤ 10000000 →
        laws_FnHistCounts_b1 [a, b, c, d] (i : Int) acc = some (.nxt (((i + 1 : Nat) : Int), acc + x.Ver)) := by
      intro i x acc hi hx h0 h1 h2 h3
      unfold laws_FnHistCounts_b1
      have e1 : decide ((i : Int) < (([a, b, c, d] : List TBox).length : Int)) = true := by simp; omega
      rw [e1, cond_true, idx_nat, hx]
      simp only [Option.bind_some]
      rw [w64_in (by omega) (by omega), w64_in (by omega) (by omega)]
      rfl
    rw [loop_nxt (t := (((0 + 1 : Nat) : Int), 0 + a.Ver)) (st 0 a 0 (by omega) rfl ha1.1 ha1.2 (by omega) (by omega)),
      loop_nxt (t := (((1 + 1 : Nat) : Int), 0 + a.Ver + b.Ver)) (st 1 b _ (by omega) rfl hb1.1 hb1.2 (by omega) (by omega)),
      loop_nxt (t := (((2 + 1 : Nat) : Int), 0 + a.Ver + b.Ver + c.Ver)) (st 2 c _ (by omega) rfl hc1.1 hc1.2 (by omega) (by omega)),
      loop_nxt (t := (((3 + 1 : Nat) : Int), 0 + a.Ver + b.Ver + c.Ver + d.Ver)) (st 3 d _ (by omega) rfl hd1.1 hd1.2 (by omega) (by omega))]
    have : verSum [a, b, c, d] = 0 + a.Ver + b.Ver + c.Ver + d.Ver := by simp only [verSum]; omega
    rw [this]
    refine loop_brk ?_
    rfl
theorem fnHistCounts_true {code : List Int} (h : okL 1 okU8 code) : laws_FnHistCounts code = some true := by
  unfold laws_FnHistCounts
  cases decide ((code.length : Int) > 1048576)
  case true => rfl
  obtain ⟨l, d1, d2⟩ := drawCounts_ok h.2
  have hf := d2.f
  rw [cond_false, d1, Option.bind_some, implCounts_eq hf, Option.bind_some, specCounts_eq hf, Option.bind_some, bne_self_eq_false, cond_false]
  cases hok : listOk l
  case false =>
    have h1 : histAt l (l.length : Int) = [] := by unfold histAt; rw [hok]; rfl
    have h2 : histCounts l = [0, 0, 0, 0, 0, 0] := by unfold histCounts; rw [hok]; rfl
    rw [h2, sum_loop 0 0 0 0 0 0 (by omega) (by omega) (by omega) (by omega) (by omega) (by omega)]
    simp only [Option.bind_some, Exc.go]
    unfold laws_FnHistCounts_k5
    rw [implAt_eq hf, h1]
    rfl
  obtain ⟨hl, he⟩ := listOk_parts hok
  obtain ⟨hin, hlen, hc⟩ := folded_inv hl he l.length (Nat.le_refl _)
  have hv := vers_done hl he l.length (Nat.le_refl _)
  rw [List.take_length] at hlen hc hin
  have htk : (folded l).2.take l.length = (folded l).2 := by rw [← hlen, List.take_length]
  rw [List.take_length, htk] at hv
  have hcs : histCounts l = counts (folded l).2 := by unfold histCounts; rw [hok]; rfl
  have hr := fun c => cnt_range (folded l).2 c
  have hsum := cnt_sum hc
  have htl := told_len hlen l.length (Nat.le_refl _)
  rw [htk] at htl
  rw [hcs]
  have hcount : ∀ c, 0 ≤ cnt (folded l).2 c ∧ cnt (folded l).2 c ≤ 40 := fun c => by have := hr c; omega
  rw [show loop (fun s : Int × Int => laws_FnHistCounts_b2 (counts (folded l).2) (counts (folded l).2) s.1 s.2) (0, 0) = _ from sum_loop _ _ _ _ _ _ (hcount 0) (hcount 1) (hcount 2) (hcount 3) (hcount 4) (hcount 5), hsum]
  simp only [Option.bind_some, Exc.go]
  unfold laws_FnHistCounts_k5
  rw [implAt_eq hf, Option.bind_some, histAt_in hok (Nat.le_refl _), List.take_length]
  have h4 := boxesOk_len hin.boxes
  have h0 : (((folded l).1.Boxes.length : Int) == 0) = false := by rw [h4]; rfl
  rw [h0, cond_false, ver_loop hin.boxes]
  simp only [Option.bind_some, Exc.go]
  unfold laws_FnHistCounts_k3
  have hll : ((((folded l).2.length : Nat) : Int) == (l.length : Int)) = true := by rw [hlen]; simp
  have htd : toldDone l = told l (folded l).2 l.length := by unfold toldDone; rw [hok]; rfl
  rw [hll, cond_true, counts_at ⟨by omega, by omega⟩, Option.bind_some, implTold_eq hf, Option.bind_some, htd, htl]
  have h00 := hcount 0
  rw [beq_self_eq_true, cond_true, w64_in (by omega) (by omega)]
  have : verSum (folded l).1.Boxes ≤ cnt (folded l).2 0 * 4 := by omega
  rw [decide_eq_true this]
end Go.Proofs.Ytfnohknpppjojaa
