/- What is drawn: programs, entries, lists of entries. -/
import Derived.Test.YthefcgmhjonopaaH5
set_option linter.unusedVariables false
set_option linter.unusedSimpArgs false
namespace Go.Proofs.Ythefcgmhjonopaa
open Go

theorem l2Any_ok {r : Tl15Rd} {m : Nat} (h : Rd r m) (hm : m ≤ 100000000) : ∃ i r', spec_l2Any r = some (i, r') ∧ Rd r' (m + 10) := by
  obtain ⟨k, r1, a1, a2, a3⟩ := num_ok h (by omega) [1, 1, 2, 2, 3, 4, 4, 5, 6, 7] (by decide) (by decide)
  obtain ⟨p1, r2, b1, b2, b3, b4⟩ := pick_ok a2 (by omega) 3
  obtain ⟨p2, r3, c1, c2, c3, c4⟩ := pick_ok b2 (by omega) 3
  unfold spec_l2Any
  simp only [a1, b1, c1, Option.bind_some]
  cases h3 : k == 3
  · cases h6 : k == 6
    · cases h7 : k == 7
      · exact ⟨_, _, rfl, c2.mono (by omega)⟩
      · obtain ⟨p3, r4, d1, d2, d3, d4⟩ := pick_ok c2 (by omega) 3
        simp only [cond_true, cond_false, d1, Option.bind_some]
        cases decide (p3 > 0)
        · exact ⟨_, _, rfl, d2.mono (by omega)⟩
        · obtain ⟨p4, r5, e1, e2, e3, e4⟩ := pick_ok d2 (by omega) 4
          obtain ⟨p5, r6, f1, f2, f3, f4⟩ := pick_ok e2 (by omega) 4
          simp only [cond_true, e1, f1, Option.bind_some]
          exact ⟨_, _, rfl, f2.mono (by omega)⟩
    · obtain ⟨p3, r4, d1, d2, d3, d4⟩ := pick_ok c2 (by omega) 3
      simp only [cond_true, cond_false, d1, Option.bind_some]
      exact ⟨_, _, rfl, d2.mono (by omega)⟩
  · obtain ⟨n1, r4, d1, d2, d3⟩ := num_ok c2 (by omega) [0, 1, 5, (-2), 100, 1000000] (by decide) (by decide)
    simp only [cond_true, d1, Option.bind_some]
    exact ⟨_, _, rfl, d2.mono (by omega)⟩
theorem l2Prog_ok {r : Tl15Rd} {m : Nat} (h : Rd r m) (hm : m ≤ 50000000) : ∃ p r', spec_l2Prog r = some (p, r') ∧ Rd r' (m + 200) ∧ p.length ≤ 10 := by
  obtain ⟨v, r1, a1, a2, a3, a4⟩ := pick_ok h (by omega) 3
  unfold spec_l2Prog
  simp only [a1, Option.bind_some]
  cases v == 0
  · obtain ⟨k, r2, b1, b2, b3, b4⟩ := pick_ok a2 (by omega) 8
    simp only [cond_false, b1, Option.bind_some]
    obtain ⟨x, hx, hq⟩ := loop_inv (body := fun s : Tl15Rd × (List TIns) × Int => spec_l2Prog_b1 s.1 s.2.1 s.2.2)
      (fun j s => s.2.2 = (j : Int) ∧ j ≤ 8 ∧ Rd s.1 (m + 2 + 10 * (8 - j)) ∧ s.2.1.length + j ≤ 8)
      (fun x => match x with
        | .ret _ => False
        | .brk b => Rd b.1 (m + 200) ∧ b.2.length ≤ 10)
      (by
        rintro j ⟨r, out, i⟩ ⟨q1, q2, q3, q4⟩
        simp only at q1 q3 q4 ⊢
        subst q1
        unfold spec_l2Prog_b1
        cases j with
        | zero => exact ⟨_, rfl, q3.mono (by omega), by simp only; omega⟩
        | succ j =>
          obtain ⟨i, r', d1, d2⟩ := l2Any_ok q3 (by omega)
          have hpos : decide (((j + 1 : Nat) : Int) > 0) = true := by simp
          have n1 : (out.length + 1) * 32 ≤ 140737488355328 := by omega
          rw [hpos, cond_true, d1, Option.bind_some, need_pos n1, w64_in (by omega) (by omega)]
          exact ⟨_, rfl, j, by omega, by simp only; omega, by omega, d2.mono (by omega), by simp; omega⟩) (k := k.toNat) (s := (r2, [], k)) ⟨by simp only; omega, by omega, b2.mono (by omega), by simp; omega⟩
    rw [hx, Option.bind_some]
    cases x with
    | ret r => cases hq
    | brk b => exact ⟨_, _, rfl, hq.1, hq.2⟩
  · obtain ⟨p1, r2, b1, b2, b3, b4⟩ := pick_ok a2 (by omega) 3
    obtain ⟨p2, r3, c1, c2, c3, c4⟩ := pick_ok b2 (by omega) 3
    obtain ⟨p3, r4, d1, d2, d3, d4⟩ := pick_ok c2 (by omega) 3
    simp only [cond_true, b1, c1, d1, Option.bind_some]
    exact ⟨_, _, rfl, d2.mono (by omega), by simp⟩

/-! ### Entries -/
def smallE (e : TEntry) : Prop := e.Run.Reads.length ≤ 40 ∧ e.Run.Puts.length ≤ 40
theorem smallE.f {e : TEntry} (h : smallE e) : fEntry e := ⟨trivial, ⟨by have := h.1; omega, fun _ _ => trivial⟩, ⟨by have := h.2; omega, fun _ _ => trivial⟩, trivial⟩
def drawn (l : List TEntry) : Prop := l.length ≤ 41 ∧ ∀ e ∈ l, smallE e
theorem drawn.f {l : List TEntry} (h : drawn l) : okL 88 fEntry l := ⟨by have := h.1; omega, fun e he => (h.2 e he).f⟩
theorem none_small : smallE ⟨true, ⟨0, 0⟩, ⟨[], [], 0, 0⟩⟩ := ⟨by simp, by simp⟩
theorem l5Any_ok {r : Tl15Rd} {m : Nat} {bx : List TBox} (h : Rd r m) (hm : m ≤ 20000000) (hb : Fits bx) : ∃ e r', spec_l5Any r bx = some (e, r', bx) ∧ Rd r' (m + 300) ∧ smallE e := by
  obtain ⟨v, r1, a1, a2, a3, a4⟩ := pick_ok h (by omega) 8
  unfold spec_l5Any
  simp only [a1, Option.bind_some]
  cases v == 0
  · obtain ⟨p1, r2, b1, b2, b3, b4⟩ := pick_ok a2 (by omega) 3
    obtain ⟨p2, r3, c1, c2, c3, c4⟩ := pick_ok b2 (by omega) 6
    obtain ⟨pr, r4, d1, d2, d3⟩ := l2Prog_ok c2 (by omega)
    obtain ⟨run, e1, e2, e3, e4⟩ := execRun_ok (prog := pr) hb (by unfold Fits; omega)
    obtain ⟨p3, r5, f1, f2, f3, f4⟩ := pick_ok d2 (by omega) 40
    simp only [cond_false, b1, c1, d1, e1, f1, Option.bind_some]
    unfold spec_l5Any_j1
    cases p3 == 0
    · cases p3 == 1
      · cases p3 == 2
        · exact ⟨_, _, rfl, f2.mono (by omega), e3, e4⟩
        · exact ⟨_, _, rfl, f2.mono (by omega), e3, e4⟩
      · exact ⟨_, _, rfl, f2.mono (by omega), e3, e4⟩
    · obtain ⟨n1, r6, g1, g2, g3⟩ := num_ok f2 (by omega) [0, 1001] (by decide) (by decide)
      simp only [cond_true, g1, Option.bind_some, Exc.go]
      exact ⟨_, _, rfl, g2.mono (by omega), e3, e4⟩
  · exact ⟨_, _, rfl, a2.mono (by omega), none_small⟩
theorem w64_pred {j : Nat} (hj : j < 1000) : w64 (((j + 1 : Nat) : Int) - 1) = (j : Int) := by
  rw [w64_in (by omega) (by omega)]
  omega
theorem app_small {l : List TEntry} {e : TEntry} (h : ∀ x ∈ l, smallE x) (he : smallE e) : ∀ x ∈ l ++ [e], smallE x := by
  intro x hx
  rcases List.mem_append.1 hx with hx | hx
  · exact h x hx
  · rw [List.mem_singleton.1 hx]; exact he
theorem fill_ok {out : List TEntry} (h : out.length ≤ 41) (hs : ∀ e ∈ out, smallE e) : ∃ l, loop (fun s : List TEntry => spec_l5List_b1 s) out = some (.brk l) ∧ drawn l := by
  obtain ⟨x, hx, hq⟩ := loop_inv (body := fun s : List TEntry => spec_l5List_b1 s) (fun j s => s.length + j = 41 ∧ ∀ e ∈ s, smallE e)
    (fun x => match x with
      | .ret _ => False
      | .brk b => drawn b)
    (by
      rintro j s ⟨q1, q2⟩
      simp only
      unfold spec_l5List_b1
      by_cases hlt : (s.length : Int) < 41
      · have n1 : (s.length + 1) * 88 ≤ 140737488355328 := by omega
        rw [decide_eq_true hlt, cond_true, need_pos n1]
        exact ⟨_, rfl, j - 1, by omega, by simp; omega, app_small q2 none_small⟩
      · rw [decide_eq_false hlt, cond_false]
        exact ⟨_, rfl, by omega, q2⟩) (k := 41 - out.length) (s := out) ⟨by omega, hs⟩
  cases x with
  | ret r => cases hq
  | brk b => exact ⟨b, hx, hq⟩
theorem l5List_ok {r : Tl15Rd} {m : Nat} (h : Rd r m) (hm : m ≤ 10000000) : ∃ l r', spec_l5List r = some (l, r') ∧ Rd r' (m + 10000) ∧ drawn l := by
  obtain ⟨n, r1, a1, a2, a3⟩ := num_ok h (by omega) [0, 3, 8, 12] (by decide) (by decide)
  have hn : 0 ≤ n ∧ n ≤ 12 := by
    simp at a3
    omega
  unfold spec_l5List
  simp only [specOpen_eq, a1, Option.bind_some]
  obtain ⟨x, hx, hq⟩ := loop_inv (body := fun s : Tl15Rd × (List TEntry) × (List TBox) × Int × Int × List TDone => spec_l5List_b2 s.1 s.2.1 s.2.2.1 s.2.2.2.1 s.2.2.2.2.1 s.2.2.2.2.2)
    (fun j s => s.2.2.2.1 = (j : Int) ∧ j ≤ 12 ∧ Rd s.1 (m + 1 + 400 * (12 - j)) ∧ s.2.1.length + j ≤ 12 ∧ (∀ e ∈ s.2.1, smallE e) ∧ ∃ k, k + j ≤ 12 ∧ Inv ⟨s.2.2.2.2.1, s.2.2.1, s.2.2.2.2.2⟩ k)
    (fun x => match x with
      | .ret _ => False
      | .brk b => Rd b.1 (m + 9000) ∧ b.2.length ≤ 12 ∧ ∀ e ∈ b.2, smallE e)
    (by
      rintro j ⟨r, out, bx, i, at_, dn⟩ ⟨q1, q2, q3, q4, q5, k, q6, q7⟩
      simp only at q1 q3 q4 q5 q7 ⊢
      subst q1
      unfold spec_l5List_b2
      cases j with
      | zero => exact ⟨_, rfl, q3.mono (by omega), by omega, q5⟩
      | succ j =>
        have hbx : Fits bx := boxesOk_fits q7.boxes
        obtain ⟨e, r', d1, d2, d3⟩ := l5Any_ok (bx := bx) q3 (by omega) hbx
        have hpos : decide (((j + 1 : Nat) : Int) > 0) = true := by simp
        have n1 : (out.length + 1) * 88 ≤ 140737488355328 := by omega
        rw [hpos, cond_true, d1, Option.bind_some, need_pos rfl, need_pos n1, specEntry_eq d3.f, Option.bind_some]
        unfold spec_l5List_j2
        rw [w64_pred (by omega)]
        cases hok : entryOk e
        · exact ⟨_, rfl, j, by omega, rfl, by omega, d2.mono (by omega), by simp; omega, app_small q5 d3, k, by omega, q7⟩
        · obtain ⟨p, r2, f1, f2, f3, f4⟩ := pick_ok d2 (by omega) 3
          simp only [cond_true, f1, Option.bind_some]
          cases decide (p > 0)
          · exact ⟨_, rfl, j, by omega, rfl, by omega, f2.mono (by omega), by simp; omega, app_small q5 d3, k, by omega, q7⟩
          · simp only [cond_true, specApply_eq q7 (by omega) hok d3.f, Option.bind_some]
            exact ⟨_, rfl, j, by omega, rfl, by omega, f2.mono (by omega), by simp; omega, app_small q5 d3, k + 1, by omega, (apply_inv q7 (by omega) hok).1⟩) (k := n.toNat) (s := (r1, [], start.Boxes, n, start.At, start.Dones)) ⟨by simp only; omega, by omega, a2.mono (by omega), by simp; omega, by simp, 0, by omega, start_inv⟩
  rw [hx, Option.bind_some]
  cases x with
  | ret r => cases hq
  | brk b =>
    obtain ⟨r2, out⟩ := b
    obtain ⟨q1, q2, q3⟩ := hq
    simp only at q1 q2 q3
    simp only [Exc.go]
    unfold spec_l5List_k6 spec_l5List_j1
    obtain ⟨p, r3, f1, f2, f3, f4⟩ := pick_ok q1 (by omega) 30
    rw [f1, Option.bind_some]
    cases p == 0
    · exact ⟨_, _, rfl, f2.mono (by omega), by simp only; omega, q3⟩
    · obtain ⟨l, g1, g2⟩ := fill_ok (out := out) (by omega) q3
      rw [cond_true, g1]
      exact ⟨_, _, rfl, f2.mono (by omega), g2⟩
theorem ran_entry {run : TRun} {who seq : Int} (h : Ran run) (hc : run.Code ≠ 3) (hw : 0 ≤ who ∧ who ≤ 2) (hs : 1 ≤ seq ∧ seq ≤ 1000) : entryOk ⟨false, ⟨who, seq⟩, run⟩ = true := by
  unfold entryOk
  simp [inR, h.ok, hc, hw, hs]
theorem l13List_ok {r : Tl15Rd} {m : Nat} (h : Rd r m) (hm : m ≤ 1000000) : ∃ l r', spec_l13List r = some (l, r') ∧ Rd r' (m + 20000) ∧ drawn l := by
  obtain ⟨v, r1, a1, a2, a3, a4⟩ := pick_ok h (by omega) 4
  unfold spec_l13List
  simp only [a1, Option.bind_some]
  cases v == 0
  · obtain ⟨n, r2, b1, b2, b3, b4⟩ := pick_ok a2 (by omega) 9
    simp only [cond_false, specOpen_eq, b1, Option.bind_some]
    obtain ⟨x, hx, hq⟩ := loop_inv (body := fun s : Tl15Rd × (List TEntry) × (List TBox) × Int × Int × List TDone => spec_l13List_b1 s.1 s.2.1 s.2.2.1 s.2.2.2.1 s.2.2.2.2.1 s.2.2.2.2.2)
      (fun j s => s.2.2.2.1 = (j : Int) ∧ j ≤ 12 ∧ Rd s.1 (m + 2 + 400 * (12 - j)) ∧ s.2.1.length + j ≤ 12 ∧ (∀ e ∈ s.2.1, smallE e) ∧ ∃ k, k + j ≤ 12 ∧ Inv ⟨s.2.2.2.2.1, s.2.2.1, s.2.2.2.2.2⟩ k)
      (fun x => match x with
        | .ret _ => False
        | .brk b => Rd b.1 (m + 9000) ∧ b.2.length ≤ 12 ∧ ∀ e ∈ b.2, smallE e)
      (by
        rintro j ⟨r, out, bx, i, at_, dn⟩ ⟨q1, q2, q3, q4, q5, k, q6, q7⟩
        simp only at q1 q3 q4 q5 q7 ⊢
        subst q1
        unfold spec_l13List_b1
        cases j with
        | zero => exact ⟨_, rfl, q3.mono (by omega), by omega, q5⟩
        | succ j =>
          have hbx : Fits bx := boxesOk_fits q7.boxes
          obtain ⟨who, r3, c1, c2, c3, c4⟩ := pick_ok q3 (by omega) 3
          obtain ⟨pr, r4, d1, d2, d3⟩ := l2Prog_ok c2 (by omega)
          obtain ⟨run, e1, e2, e3, e4⟩ := execRun_ok (prog := pr) hbx (by unfold Fits; omega)
          have hran := e2 q7.boxes
          have hpos : decide (((j + 1 : Nat) : Int) > 0) = true := by simp
          have n1 : (out.length + 1) * 88 ≤ 140737488355328 := by omega
          rw [hpos, cond_true, c1, Option.bind_some, d1, Option.bind_some, e1, Option.bind_some, w64_pred (by omega)]
          cases hc : run.Code == 3
          · have hc3 : run.Code ≠ 3 := by simpa using hc
            rw [cond_false, need_pos n1]
            unfold spec_l13List_j1
            have hs : w64 (1 + (out.length : Int)) = 1 + (out.length : Int) := w64_in (by omega) (by omega)
            have hsm : smallE ⟨false, ⟨who, 1 + (out.length : Int)⟩, run⟩ := ⟨e3, e4⟩
            have hok := ran_entry (who := who) (seq := 1 + (out.length : Int)) hran hc3 ⟨c3, by omega⟩ ⟨by omega, by omega⟩
            obtain ⟨p, r5, f1, f2, f3, f4⟩ := pick_ok d2 (by omega) 4
            simp only [hs, f1, Option.bind_some, w64_pred (show j < 1000 by omega)]
            cases decide (p > 0)
            · exact ⟨_, rfl, j, by omega, rfl, by omega, f2.mono (by omega), by simp; omega, app_small q5 hsm, k, by omega, q7⟩
            · simp only [cond_true, specApply_eq q7 (by omega) hok hsm.f, Option.bind_some]
              exact ⟨_, rfl, j, by omega, rfl, by omega, f2.mono (by omega), by simp; omega, app_small q5 hsm, k + 1, by omega, (apply_inv q7 (by omega) hok).1⟩
          · exact ⟨_, rfl, j, by omega, rfl, by omega, d2.mono (by omega), by simp only; omega, q5, k, by omega, q7⟩) (k := n.toNat) (s := (r2, [], start.Boxes, n, start.At, start.Dones)) ⟨by simp only; omega, by omega, b2.mono (by omega), by simp; omega, by simp, 0, by omega, start_inv⟩
    rw [hx, Option.bind_some]
    cases x with
    | ret r => cases hq
    | brk b =>
      obtain ⟨r2, out⟩ := b
      exact ⟨_, _, rfl, hq.1.mono (by omega), by have := hq.2.1; simp only at this ⊢; omega, hq.2.2⟩
  · obtain ⟨l, r2, b1, b2, b3⟩ := l5List_ok a2 (by omega)
    simp only [cond_true, b1, Option.bind_some]
    exact ⟨_, _, rfl, b2.mono (by omega), b3⟩
theorem drawClashes_ok {code : List Int} (h : ∀ x ∈ code, okU8 x) : ∃ l, spec_DrawHistClashes code = some l ∧ drawn l := by
  obtain ⟨r, a1, a2⟩ := open_ok h
  obtain ⟨l, r1, b1, b2, b3⟩ := l13List_ok a2 (by omega)
  unfold spec_DrawHistClashes
  simp only [a1, b1, Option.bind_some]
  exact ⟨_, rfl, b3⟩
end Go.Proofs.Ythefcgmhjonopaa
