/- What is drawn: the reader, and a program run on boxes. -/
import Derived.Test.YthefcgmhjonopaaH3
set_option linter.unusedVariables false
set_option linter.unusedSimpArgs false
namespace Go.Proofs.Ythefcgmhjonopaa
open Go

/-! ### The reader -/
/-- A reader of bytes that has read at most m of them. -/
def Rd (r : Tl15Rd) (m : Nat) : Prop := (∀ x ∈ r.b, okU8 x) ∧ r.b.length ≤ 2000 ∧ 0 ≤ r.p ∧ r.p ≤ (m : Int)
theorem Rd.mono {r : Tl15Rd} {m n : Nat} (h : Rd r m) (hn : m ≤ n) : Rd r n := ⟨h.1, h.2.1, h.2.2.1, by have := h.2.2.2; omega⟩
theorem xor_range {x y : Int} (hx : 0 ≤ x) (hx2 : x < 4611686018427387904) (hy : 0 ≤ y) (hy2 : y < 4611686018427387904) : 0 ≤ xorI .i64 x y ∧ xorI .i64 x y < 4611686018427387904 := by
  obtain ⟨a, rfl⟩ : ∃ a : Nat, x = (a : Int) := ⟨x.toNat, by omega⟩
  obtain ⟨b, rfl⟩ : ∃ b : Nat, y = (b : Int) := ⟨y.toNat, by omega⟩
  have hxor : a ^^^ b < 2 ^ 62 := Nat.xor_lt_two_pow (by omega) (by omega)
  have h : xorI .i64 (a : Int) (b : Int) = ((a ^^^ b : Nat) : Int) := by
    unfold xorI
    rw [BitVec.toNat_xor]
    have e1 : (BitVec.ofInt IntKind.i64.bits (a : Int)).toNat = a := by
      show (BitVec.ofInt 64 (a : Int)).toNat = a
      rw [BitVec.toNat_ofInt]
      omega
    have e2 : (BitVec.ofInt IntKind.i64.bits (b : Int)).toNat = b := by
      show (BitVec.ofInt 64 (b : Int)).toNat = b
      rw [BitVec.toNat_ofInt]
      omega
    rw [e1, e2]
    exact IntWalk.i64_in _ ⟨by omega, by omega⟩
  rw [h]
  omega
theorem u8_at {l : List Int} (h : ∀ x ∈ l, okU8 x) {i : Int} (h0 : 0 ≤ i) (h1 : i < l.length) : ∃ y, idx l i = some y ∧ 0 ≤ y ∧ y ≤ 255 := by
  have hlt : i.toNat < l.length := by omega
  refine ⟨l[i.toNat], ?_, h _ (List.getElem_mem hlt)⟩
  unfold idx
  rw [if_pos h0, List.getElem?_eq_getElem hlt]
theorem tmod_range {x n : Int} (hx : 0 ≤ x) (hn : 1 ≤ n) : 0 ≤ Int.tmod x n ∧ Int.tmod x n < n := by
  rw [Int.tmod_eq_emod_of_nonneg hx]
  exact ⟨Int.emod_nonneg _ (by omega), Int.emod_lt_of_pos _ (by omega)⟩
theorem tdiv_range {x n : Int} (hx : 0 ≤ x) (hn : 1 ≤ n) : 0 ≤ Int.tdiv x n ∧ Int.tdiv x n ≤ x := by
  rw [Int.tdiv_eq_ediv_of_nonneg hx]
  exact ⟨Int.ediv_nonneg hx (by omega), Int.ediv_le_self _ hx⟩
theorem pick_ok {r : Tl15Rd} {m : Nat} (h : Rd r m) (hm : m ≤ 1000000000) (n : Int) : ∃ v r', spec_l15Rd_pick r n = some (v, r') ∧ Rd r' (m + 1) ∧ 0 ≤ v ∧ (v < n ∨ v = 0) := by
  obtain ⟨hb, hbl, hp0, hp1⟩ := h
  have hw : w64 (r.p + 1) = r.p + 1 := w64_in (by omega) (by omega)
  have hw2 : w64 (r.p + 1 - 1) = r.p := by rw [w64_in (by omega) (by omega)]; omega
  have hr : Rd ⟨r.b, r.p + 1⟩ (m + 1) := ⟨hb, hbl, by simp only; omega, by simp only; omega⟩
  unfold spec_l15Rd_pick
  simp only [hw, hw2]
  by_cases hn : n < 1
  · simp only [hn, decide_true, cond_true]
    exact ⟨0, _, rfl, hr, by omega, .inr rfl⟩
  simp only [hn, decide_false, cond_false]
  cases he : ((r.b.length : Int) == 0)
  case true => exact ⟨0, _, rfl, hr, by omega, .inr rfl⟩
  have hpos : 0 < r.b.length := by
    have : ¬ (r.b.length : Int) = 0 := by simpa using he
    omega
  have hne : (r.b.length : Int) ≠ 0 := by omega
  have hnn : n ≠ 0 := by omega
  simp only [cond_false]
  by_cases hlt : r.p < (r.b.length : Int)
  · obtain ⟨y, h1, h2, h3⟩ := u8_at hb hp0 hlt
    simp only [hlt, decide_true, cond_true, h1, Option.bind_some, need_pos hnn]
    rw [w64_in (n := y) (by omega) (by omega)]
    have := tmod_range h2 (show 1 ≤ n by omega)
    exact ⟨_, _, rfl, hr, this.1, .inl this.2⟩
  · simp only [hlt, decide_false, cond_false, need_pos hne, need_pos hnn]
    have t1 := tmod_range hp0 (show (1 : Int) ≤ (r.b.length : Int) by omega)
    obtain ⟨y1, a1, a2, a3⟩ := u8_at hb t1.1 t1.2
    have w7 : w64 (r.p * 7) = r.p * 7 := w64_in (by omega) (by omega)
    have w73 : w64 (r.p * 7 + 3) = r.p * 7 + 3 := w64_in (by omega) (by omega)
    have t2 := tmod_range (show 0 ≤ r.p * 7 + 3 by omega) (show (1 : Int) ≤ (r.b.length : Int) by omega)
    obtain ⟨y2, b1, b2, b3⟩ := u8_at hb t2.1 t2.2
    simp only [a1, w7, w73, b1, Option.bind_some]
    have td := tdiv_range hp0 (show (1 : Int) ≤ (r.b.length : Int) by omega)
    have c1 : w64 (w64 y1 * 131) = y1 * 131 := by rw [w64_in (n := y1) (by omega) (by omega), w64_in (by omega) (by omega)]
    have c2 : w64 (w64 y2 * 1117) = y2 * 1117 := by rw [w64_in (n := y2) (by omega) (by omega), w64_in (by omega) (by omega)]
    have c3 : w64 (r.p * 29) = r.p * 29 := w64_in (by omega) (by omega)
    have c4 : w64 (w64 (Int.tdiv r.p (r.b.length : Int)) * 53) = Int.tdiv r.p (r.b.length : Int) * 53 := by rw [w64_in (n := Int.tdiv r.p (r.b.length : Int)) (by omega) (by omega), w64_in (by omega) (by omega)]
    simp only [c1, c2, c3, c4]
    generalize Int.tdiv r.p (r.b.length : Int) = q at td
    rw [w64_in (n := y1 * 131 + y2 * 1117) (by omega) (by omega), w64_in (n := y1 * 131 + y2 * 1117 + r.p * 29) (by omega) (by omega), w64_in (n := y1 * 131 + y2 * 1117 + r.p * 29 + q * 53) (by omega) (by omega)]
    have hA0 : 0 ≤ y1 * 131 + y2 * 1117 + r.p * 29 + q * 53 := by omega
    have hA1 : y1 * 131 + y2 * 1117 + r.p * 29 + q * 53 < 1000000000000 := by omega
    generalize y1 * 131 + y2 * 1117 + r.p * 29 + q * 53 = A at hA0 hA1
    have t3 := tdiv_range hA0 (show (1 : Int) ≤ 64 by omega)
    rw [w64_in (n := Int.tdiv A 64) (by omega) (by omega)]
    have hx := xor_range hA0 (by omega) t3.1 (by omega)
    have t4 := tmod_range hx.1 (show 1 ≤ n by omega)
    exact ⟨_, _, rfl, hr, t4.1, .inl t4.2⟩
theorem num_ok {r : Tl15Rd} {m : Nat} (h : Rd r m) (hm : m ≤ 1000000000) (l : List Int) (hl : 0 < l.length) (hl2 : l.length ≤ 1000) : ∃ v r', spec_l15Rd_num r l = some (v, r') ∧ Rd r' (m + 1) ∧ v ∈ l := by
  obtain ⟨v, r', h1, h2, h3, h4⟩ := pick_ok h hm (l.length : Int)
  unfold spec_l15Rd_num
  rw [h1, Option.bind_some]
  have hlt : v.toNat < l.length := by omega
  refine ⟨l[v.toNat], r', ?_, h2, List.getElem_mem hlt⟩
  unfold idx
  simp only [if_pos h3, List.getElem?_eq_getElem hlt, Option.bind_some]
theorem open_ok {code : List Int} (h : ∀ x ∈ code, okU8 x) : ∃ r, spec_l15Open code = some r ∧ Rd r 0 := by
  unfold spec_l15Open spec_l15Open_j1
  by_cases hl : (code.length : Int) > 2000
  · simp only [hl, decide_true, cond_true]
    rw [need_pos ⟨by omega, by omega⟩]
    refine ⟨_, rfl, ?_, ?_, by simp, by simp⟩
    · intro x hx
      simp only [List.drop_zero] at hx
      exact h x (List.mem_of_mem_take hx)
    · simp only [List.length_take]
      have : (2000 : Int).toNat - 0 = 2000 := by decide
      omega
  · simp only [hl, decide_false, cond_false]
    exact ⟨_, rfl, h, by simp only; omega, by simp, by simp⟩

/-! ### Programs -/
def insOk (i : TIns) : Bool :=
  bif i.Kind == 1 then inR i.A 0 3 && (inR i.B 0 3 && i.N == 0) else
  bif i.Kind == 2 then inR i.A 0 3 && (inR i.B 0 3 && i.N == 0) else
  bif i.Kind == 3 then inR i.A 0 3 && (i.B == 0 && inR i.N (-1000000) 1000000) else
  bif i.Kind == 4 then inR i.A 0 3 && (inR i.B 0 3 && i.N == 0) else
  bif i.Kind == 5 then inR i.A 0 3 && (inR i.B 0 3 && i.N == 0) else
  bif i.Kind == 6 then inR i.A 0 3 && (inR i.B 0 3 && inR i.N 1 10) else
  bif i.Kind == 7 then i.A == 0 && (i.B == 0 && i.N == 0) else false
theorem l2Reg_eq (n : Int) : spec_l2Reg n = some (inR n 0 3) := by
  rw [← in_eq]
  unfold spec_l2Reg impl_in
  have : (n < 4) = (n ≤ 3) := by apply propext; omega
  simp only [this]
theorem l2Ins_eq (i : TIns) : spec_l2Ins i = some (insOk i) := by
  unfold spec_l2Ins insOk
  have h6 : (bif decide (i.N ≥ 1) then some (decide (i.N ≤ 10)) else some false) = some (inR i.N 1 10) := by
    unfold inR
    by_cases h1 : i.N ≥ 1 <;> by_cases h2 : i.N ≤ 10 <;> simp [h1, h2] <;> omega
  simp only [l2Reg_eq, l2Box_eq, l1Num_eq, Option.bind_some, h6]
  cases i.Kind == 1 <;> cases i.Kind == 2 <;> cases i.Kind == 3 <;> cases i.Kind == 4 <;> cases i.Kind == 5 <;> cases i.Kind == 6 <;> cases i.Kind == 7 <;> cases inR i.A 0 3 <;> cases inR i.B 0 3 <;> cases i.A == 0 <;> cases i.B == 0 <;> rfl
def progOk (l : List TIns) : Bool := decide (l.length ≤ 10) && l.all insOk
theorem specProgOk_eq {l : List TIns} (h : Fits l) : spec_ProgOk l = some (progOk l) := by
  unfold spec_ProgOk progOk
  rw [show (10 : Int) = ((10 : Nat) : Int) from rfl, len_gt_n, all_loop l h insOk false ()]
  · cases decide (l.length ≤ 10)
    · rfl
    · cases l.all insOk <;> rfl
  · intro k hk
    unfold spec_ProgOk_b1
    rw [lt_len _ k hk, idx_lt hk]
    simp only [cond_true, Option.bind_some, l2Ins_eq]
    cases insOk l[k] <;> rfl
  · unfold spec_ProgOk_b1
    rw [nlt_len]; rfl
theorem insOk_parts {i : TIns} (h : insOk i = true) : (i.Kind = 1 ∧ (0 ≤ i.A ∧ i.A ≤ 3) ∧ (0 ≤ i.B ∧ i.B ≤ 3)) ∨ (i.Kind = 2 ∧ (0 ≤ i.A ∧ i.A ≤ 3) ∧ (0 ≤ i.B ∧ i.B ≤ 3)) ∨ (i.Kind = 3 ∧ (0 ≤ i.A ∧ i.A ≤ 3) ∧ (-1000000 ≤ i.N ∧ i.N ≤ 1000000)) ∨
    (i.Kind = 4 ∧ (0 ≤ i.A ∧ i.A ≤ 3) ∧ (0 ≤ i.B ∧ i.B ≤ 3)) ∨ (i.Kind = 5 ∧ (0 ≤ i.A ∧ i.A ≤ 3) ∧ (0 ≤ i.B ∧ i.B ≤ 3)) ∨ (i.Kind = 6 ∧ (0 ≤ i.A ∧ i.A ≤ 3) ∧ (0 ≤ i.B ∧ i.B ≤ 3) ∧ (1 ≤ i.N ∧ i.N ≤ 10)) ∨ (i.Kind = 7 ∧ i.A = 0) := by
  unfold insOk inR at h
  by_cases h1 : i.Kind = 1
  · simp [h1] at h; exact .inl ⟨h1, h.1, h.2.1⟩
  by_cases h2 : i.Kind = 2
  · simp [h2] at h; exact .inr (.inl ⟨h2, h.1, h.2.1⟩)
  by_cases h3 : i.Kind = 3
  · simp [h3] at h; exact .inr (.inr (.inl ⟨h3, h.1, h.2.2⟩))
  by_cases h4 : i.Kind = 4
  · simp [h4] at h; exact .inr (.inr (.inr (.inl ⟨h4, h.1, h.2.1⟩)))
  by_cases h5 : i.Kind = 5
  · simp [h5] at h; exact .inr (.inr (.inr (.inr (.inl ⟨h5, h.1, h.2.1⟩))))
  by_cases h6 : i.Kind = 6
  · simp [h6] at h; exact .inr (.inr (.inr (.inr (.inr (.inl ⟨h6, h.1, h.2.1, h.2.2⟩)))))
  by_cases h7 : i.Kind = 7
  · simp [h7] at h; exact .inr (.inr (.inr (.inr (.inr (.inr ⟨h7, h.1⟩)))))
  · have e1 : (i.Kind == 1) = false := by simpa using h1
    have e2 : (i.Kind == 2) = false := by simpa using h2
    have e3 : (i.Kind == 3) = false := by simpa using h3
    have e4 : (i.Kind == 4) = false := by simpa using h4
    have e5 : (i.Kind == 5) = false := by simpa using h5
    have e6 : (i.Kind == 6) = false := by simpa using h6
    have e7 : (i.Kind == 7) = false := by simpa using h7
    rw [e1, e2, e3, e4, e5, e6, e7] at h
    cases h
end Go.Proofs.Ythefcgmhjonopaa
