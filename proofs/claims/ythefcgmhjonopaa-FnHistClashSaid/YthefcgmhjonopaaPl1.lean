/- Loops of the plain functions, told without a loop. -/
import Derived.Test.YthefcgmhjonopaaAm32
import Derived.IntWalk
set_option linter.unusedVariables false
set_option linter.unusedSimpArgs false
namespace Go.Proofs.Ythefcgmhjonopaa
open Go

theorem w64_in {n : Int} (h1 : -9223372036854775808 ≤ n) (h2 : n ≤ 9223372036854775807) : w64 n = n := IntWalk.i64_in n ⟨h1, h2⟩

/-- How great a list can be. -/
def Fits {α : Type} (l : List α) : Prop := l.length ≤ 140737488351232

theorem w64_next {α : Type} {l : List α} (hl : Fits l) {k : Nat} (h : k < l.length) : w64 ((k : Int) + 1) = ((k + 1 : Nat) : Int) := by
  unfold Fits at hl
  rw [w64_in (by omega) (by omega)]
  omega

section
variable {R S B : Type} {body : S → Option (Stp R S B)}
theorem loop_nxt {s t : S} (h : body s = some (.nxt t)) : loop body s = loop body t := by rw [loop_eq, h]
theorem loop_brk {s : S} {b : B} (h : body s = some (.brk b)) : loop body s = some (.brk b) := by rw [loop_eq, h]
theorem loop_ret {s : S} {r : R} (h : body s = some (.ret r)) : loop body s = some (.ret r) := by rw [loop_eq, h]
/-- A loop that comes through all its rounds. -/
theorem loop_to (st : Nat → S) (n : Nat) (h : ∀ k, k < n → body (st k) = some (.nxt (st (k + 1)))) : loop body (st 0) = loop body (st n) := by
  induction n with
  | zero => rfl
  | succ n ih =>
    rw [ih fun k hk => h k (by omega)]
    exact loop_nxt (h n (by omega))
/-- A loop that looks at each round whether something stands, and ends where it doesn't. -/
theorem loop_chk (st : Nat → S) (n : Nat) (ok : Nat → Bool) (r : Nat → R) (b : B)
    (h1 : ∀ k, k < n → (∀ j, j < k → ok j = true) → body (st k) = some (bif ok k then .nxt (st (k + 1)) else .ret (r k)))
    (h2 : (∀ j, j < n → ok j = true) → body (st n) = some (.brk b)) :
    (loop body (st 0) = some (.brk b) ∧ ∀ j, j < n → ok j = true) ∨ ∃ k, k < n ∧ ok k = false ∧ (∀ j, j < k → ok j = true) ∧ loop body (st 0) = some (.ret (r k)) := by
  by_cases hall : ∀ j, j < n → ok j = true
  · left
    refine ⟨?_, hall⟩
    rw [loop_to st n fun k hk => ?_]
    · exact loop_brk (h2 hall)
    · rw [h1 k hk fun j hj => hall j (by omega), hall k hk]; rfl
  · right
    have hex : ∃ k, k < n ∧ ok k = false := by
      apply Classical.byContradiction
      intro hn
      apply hall
      intro j hj
      cases hj' : ok j with
      | true => rfl
      | false => exact absurd ⟨j, hj, hj'⟩ hn
    obtain ⟨k, hk, ho, hb⟩ : ∃ k, k < n ∧ ok k = false ∧ ∀ j, j < k → ok j = true := by
      obtain ⟨k, hk, ho⟩ := hex
      induction k using Nat.strongRecOn with
      | _ k ih =>
        by_cases hb : ∀ j, j < k → ok j = true
        · exact ⟨k, hk, ho, hb⟩
        · have : ∃ j, j < k ∧ ok j = false := by
            apply Classical.byContradiction
            intro hn
            apply hb
            intro j hj
            cases hj' : ok j with
            | true => rfl
            | false => exact absurd ⟨j, hj, hj'⟩ hn
          obtain ⟨j, hj, hjo⟩ := this
          exact ih j hj (by omega) hjo
    refine ⟨k, hk, ho, hb, ?_⟩
    rw [loop_to st k fun j hj => ?_]
    · refine loop_ret ?_
      rw [h1 k hk hb, ho]
      rfl
    · rw [h1 j (by omega) fun i hi => hb i (by omega), hb j hj]; rfl
end

/-- A loop by an invariant and a number that falls. -/
theorem loop_inv {R S B : Type} {body : S → Option (Stp R S B)} (I : Nat → S → Prop) (Q : Exc R B → Prop)
    (h : ∀ k s, I k s → ∃ st, body s = some st ∧ match st with | .ret r => Q (.ret r) | .brk b => Q (.brk b) | .nxt t => ∃ k', k' < k ∧ I k' t) : ∀ {k s}, I k s → ∃ x, loop body s = some x ∧ Q x := by
  intro k
  induction k using Nat.strongRecOn with
  | _ k ih =>
    intro s hs
    obtain ⟨st, hb, hq⟩ := h k s hs
    cases st with
    | ret r => exact ⟨_, loop_ret hb, hq⟩
    | brk b => exact ⟨_, loop_brk hb, hq⟩
    | nxt t =>
      obtain ⟨k', hk, ht⟩ := hq
      obtain ⟨x, hx, hq⟩ := ih k' hk ht
      exact ⟨x, by rw [loop_nxt hb]; exact hx, hq⟩

theorem need_pos {β : Type} {p : Prop} [Decidable p] (h : p) (k : Option β) : need p k = k := if_pos h

theorem idx_nat {α : Type} (l : List α) (k : Nat) : idx l (k : Int) = l[k]? := by
  unfold idx
  rw [if_pos (by omega)]
  rfl
theorem idx_lt {α : Type} {l : List α} {k : Nat} (h : k < l.length) : idx l (k : Int) = some l[k] := by
  rw [idx_nat, List.getElem?_eq_getElem h]

theorem lt_len {α : Type} (l : List α) (k : Nat) (h : k < l.length) : decide ((k : Int) < (l.length : Int)) = true := by simpa using h
theorem nlt_len {α : Type} (l : List α) : decide ((l.length : Int) < (l.length : Int)) = false := by simp

/-- A loop over a list that ends at the first element for which a test says no. -/
theorem all_loop {α B : Type} {body : Int → Option (Stp Bool Int B)} (l : List α) (hl : Fits l) (ok : α → Bool) (v : Bool) (b : B)
    (h1 : ∀ (k : Nat) (h : k < l.length), body (k : Int) = some (bif ok l[k] then .nxt (w64 ((k : Int) + 1)) else .ret v))
    (h2 : body (l.length : Int) = some (.brk b)) : loop body 0 = some (bif l.all ok then .brk b else .ret v) := by
  have h := loop_chk (body := body) (fun k => (k : Int)) l.length (fun k => match l[k]? with | some x => ok x | none => true) (fun _ => v) b
    (fun k hk _ => by
      have := h1 k hk
      rw [w64_next hl hk] at this
      simpa [List.getElem?_eq_getElem hk] using this) (fun _ => h2)
  rcases h with ⟨h, hall⟩ | ⟨k, hk, ho, _, h⟩
  · have : l.all ok = true := by
      rw [List.all_eq_true]
      intro x hx
      obtain ⟨i, hi, rfl⟩ := List.getElem_of_mem hx
      have := hall i hi
      simpa [List.getElem?_eq_getElem hi] using this
    rw [this]; exact h
  · have : l.all ok = false := by
      rw [List.all_eq_false]
      refine ⟨l[k], List.getElem_mem hk, ?_⟩
      simpa [List.getElem?_eq_getElem hk] using ho
    rw [this]; exact h

/-- As `all_loop`, where the test may look at the place. -/
theorem alli_loop {α B : Type} {body : Int → Option (Stp Bool Int B)} (l : List α) (hl : Fits l) (ok : Nat → Bool) (v : Bool) (b : B)
    (h1 : ∀ (k : Nat) (h : k < l.length), (∀ j, j < k → ok j = true) → body (k : Int) = some (bif ok k then .nxt (w64 ((k : Int) + 1)) else .ret v))
    (h2 : body (l.length : Int) = some (.brk b)) : loop body 0 = some (bif (List.range l.length).all ok then .brk b else .ret v) := by
  have h := loop_chk (body := body) (fun k => (k : Int)) l.length ok (fun _ => v) b
    (fun k hk hb => by
      have := h1 k hk hb
      rw [w64_next hl hk] at this
      exact this) (fun _ => h2)
  rcases h with ⟨h, hall⟩ | ⟨k, hk, ho, _, h⟩
  · have : (List.range l.length).all ok = true := by
      rw [List.all_eq_true]
      intro x hx
      exact hall x (by simpa using hx)
    rw [this]; exact h
  · have : (List.range l.length).all ok = false := by
      rw [List.all_eq_false]
      exact ⟨k, by simpa using hk, by simp [ho]⟩
    rw [this]; exact h

/-- A loop that makes a copy. -/
theorem copy_loop {α R B : Type} {body : List α × Int → Option (Stp R (List α × Int) B)} (l : List α) (hl : Fits l) (z : α) (f : List α → B)
    (h1 : ∀ (k : Nat) (h : k < l.length) (out : List α), out.length = l.length → body (out, (k : Int)) = some (.nxt (out.set k l[k], w64 ((k : Int) + 1))))
    (h2 : body (l, (l.length : Int)) = some (.brk (f l))) : loop body (List.replicate l.length z, 0) = some (.brk (f l)) := by
  have h := loop_to (body := body) (fun k => (l.take k ++ List.replicate (l.length - k) z, (k : Int))) l.length (fun k hk => by
    have := h1 k hk (l.take k ++ List.replicate (l.length - k) z) (by simp; omega)
    rw [w64_next hl hk] at this
    rw [this]
    congr 3
    rw [List.set_append_right k l[k] (by simp; omega)]
    rw [show l.length - k = (l.length - (k + 1)) + 1 from by omega, List.replicate_succ]
    rw [show k - (List.take k l).length = 0 from by simp; omega, List.set_cons_zero, List.take_succ_eq_append_getElem hk, List.append_assoc]
    rfl)
  simp only [List.take_zero, List.nil_append, Nat.sub_zero, List.take_length, Nat.sub_self, List.replicate_zero, List.append_nil] at h
  rw [show ((0 : Nat) : Int) = 0 from rfl] at h
  rw [h]
  exact loop_brk h2

/-- A loop that looks for the first of a kind. -/
theorem find_loop {α R B : Type} {body : Int → Option (Stp R Int B)} (l : List α) (hl : Fits l) (is : α → Bool) (f : α → R) (b : B)
    (h1 : ∀ (k : Nat) (h : k < l.length), body (k : Int) = some (bif is l[k] then .ret (f l[k]) else .nxt (w64 ((k : Int) + 1))))
    (h2 : body (l.length : Int) = some (.brk b)) : loop body 0 = some (match l.find? is with | some x => .ret (f x) | none => .brk b) := by
  have key : ∀ (m k : Nat), k + m = l.length → loop body (k : Int) = some (match (l.drop k).find? is with | some x => .ret (f x) | none => .brk b) := by
    intro m
    induction m with
    | zero =>
      intro k hk
      have : k = l.length := by omega
      subst this
      rw [List.drop_length]
      exact loop_brk h2
    | succ m ih =>
      intro k hk
      have hlt : k < l.length := by omega
      have hb := h1 k hlt
      rw [List.drop_eq_getElem_cons hlt, List.find?_cons]
      cases hq : is l[k] with
      | true =>
        rw [hq] at hb
        exact loop_ret hb
      | false =>
        rw [hq] at hb
        rw [loop_nxt hb, w64_next hl hlt]
        exact ih (k + 1) (by omega)
  have := key l.length 0 (by omega)
  simpa using this
/-- A loop that goes through a list with something of its own. -/
theorem fold_loop {α S R B : Type} {body : S × Int → Option (Stp R (S × Int) B)} (l : List α) (hl : Fits l) (g : S → α → S) (s0 : S) (b : S → B)
    (h1 : ∀ (k : Nat) (h : k < l.length), body ((l.take k).foldl g s0, (k : Int)) = some (.nxt (g ((l.take k).foldl g s0) l[k], w64 ((k : Int) + 1))))
    (h2 : body (l.foldl g s0, (l.length : Int)) = some (.brk (b (l.foldl g s0)))) : loop body (s0, 0) = some (.brk (b (l.foldl g s0))) := by
  have h := loop_to (body := body) (fun k => ((l.take k).foldl g s0, (k : Int))) l.length (fun k hk => by
    rw [h1 k hk, w64_next hl hk, List.take_succ_eq_append_getElem hk, List.foldl_append]
    rfl)
  simp only [List.take_zero, List.foldl_nil, List.take_length] at h
  rw [show ((0 : Nat) : Int) = 0 from rfl] at h
  rw [h]
  exact loop_brk h2
end Go.Proofs.Ythefcgmhjonopaa
