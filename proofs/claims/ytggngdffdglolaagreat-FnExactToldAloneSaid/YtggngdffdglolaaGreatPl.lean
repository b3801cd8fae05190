/- The plain laws, in one text. -/
import Derived.Test.YtggngdffdglolaaGreatAm32
import Derived.IntWalk
import Derived.Test.YtggngdffdglolaaGreatOp
import Derived.Test.YtggngdffdglolaaGreatF4
set_option linter.unusedVariables false
set_option linter.unusedSimpArgs false

/- Loops of the plain functions, told without a loop. -/
namespace Go.Proofs.YtggngdffdglolaaGreat
open Go

theorem w64_in {n : Int} (h1 : -9223372036854775808 ≤ n) (h2 : n ≤ 9223372036854775807) : w64 n = n := IntWalk.i64_in n ⟨h1, h2⟩

/-- How great a list can be. -/
def Fits {α : Type} (l : List α) : Prop := l.length ≤ 140737488351232

theorem w64_next {α : Type} {l : List α} (hl : Fits l) {k : Nat} (h : k < l.length) : w64 ((k : Int) + 1) = ((k + 1 : Nat) : Int) := by
  unfold Fits at hl
  rw [w64_in (by omega) (by omega)]
  omega

section
variable {R S B : Type} {body : S → Option (Stp R S B)}
theorem loop_nxt {s t : S} (h : body s = some (.nxt t)) : loop body s = loop body t := by rw [loop_eq, h]
theorem loop_brk {s : S} {b : B} (h : body s = some (.brk b)) : loop body s = some (.brk b) := by rw [loop_eq, h]
theorem loop_ret {s : S} {r : R} (h : body s = some (.ret r)) : loop body s = some (.ret r) := by rw [loop_eq, h]
/-- A loop that comes through all its rounds. -/
theorem loop_to (st : Nat → S) (n : Nat) (h : ∀ k, k < n → body (st k) = some (.nxt (st (k + 1)))) : loop body (st 0) = loop body (st n) := by
  induction n with
  | zero => rfl
  | succ n ih =>
    rw [ih fun k hk => h k (by omega)]
    exact loop_nxt (h n (by omega))
/-- A loop that looks at each round whether something stands, and ends where it doesn't. -/
theorem loop_chk (st : Nat → S) (n : Nat) (ok : Nat → Bool) (r : Nat → R) (b : B)
    (h1 : ∀ k, k < n → (∀ j, j < k → ok j = true) → body (st k) = some (bif ok k then .nxt (st (k + 1)) else .ret (r k)))
    (h2 : (∀ j, j < n → ok j = true) → body (st n) = some (.brk b)) :
    (loop body (st 0) = some (.brk b) ∧ ∀ j, j < n → ok j = true) ∨ ∃ k, k < n ∧ ok k = false ∧ (∀ j, j < k → ok j = true) ∧ loop body (st 0) = some (.ret (r k)) := by
  by_cases hall : ∀ j, j < n → ok j = true
  · left
    refine ⟨?_, hall⟩
    rw [loop_to st n fun k hk => ?_]
    · exact loop_brk (h2 hall)
    · rw [h1 k hk fun j hj => hall j (by omega), hall k hk]; rfl
  · right
    have hex : ∃ k, k < n ∧ ok k = false := by
      apply Classical.byContradiction
      intro hn
      apply hall
      intro j hj
      cases hj' : ok j with
      | true => rfl
      | false => exact absurd ⟨j, hj, hj'⟩ hn
    obtain ⟨k, hk, ho, hb⟩ : ∃ k, k < n ∧ ok k = false ∧ ∀ j, j < k → ok j = true := by
      obtain ⟨k, hk, ho⟩ := hex
      induction k using Nat.strongRecOn with
      | _ k ih =>
        by_cases hb : ∀ j, j < k → ok j = true
        · exact ⟨k, hk, ho, hb⟩
        · have : ∃ j, j < k ∧ ok j = false := by
            apply Classical.byContradiction
            intro hn
            apply hb
            intro j hj
            cases hj' : ok j with
            | true => rfl
            | false => exact absurd ⟨j, hj, hj'⟩ hn
          obtain ⟨j, hj, hjo⟩ := this
          exact ih j hj (by omega) hjo
    refine ⟨k, hk, ho, hb, ?_⟩
    rw [loop_to st k fun j hj => ?_]
    · refine loop_ret ?_
      rw [h1 k hk hb, ho]
      rfl
    · rw [h1 j (by omega) fun i hi => hb i (by omega), hb j hj]; rfl
end

/-- A loop by an invariant and a number that falls. -/
theorem loop_inv {R S B : Type} {body : S → Option (Stp R S B)} (I : Nat → S → Prop) (Q : Exc R B → Prop)
    (h : ∀ k s, I k s → ∃ st, body s = some st ∧ match st with | .ret r => Q (.ret r) | .brk b => Q (.brk b) | .nxt t => ∃ k', k' < k ∧ I k' t) : ∀ {k s}, I k s → ∃ x, loop body s = some x ∧ Q x := by
  intro k
  induction k using Nat.strongRecOn with
  | _ k ih =>
    intro s hs
    obtain ⟨st, hb, hq⟩ := h k s hs
    cases st with
    | ret r => exact ⟨_, loop_ret hb, hq⟩
    | brk b => exact ⟨_, loop_brk hb, hq⟩
    | nxt t =>
      obtain ⟨k', hk, ht⟩ := hq
      obtain ⟨x, hx, hq⟩ := ih k' hk ht
      exact ⟨x, by rw [loop_nxt hb]; exact hx, hq⟩

theorem need_pos {β : Type} {p : Prop} [Decidable p] (h : p) (k : Option β) : need p k = k := if_pos h

theorem idx_nat {α : Type} (l : List α) (k : Nat) : idx l (k : Int) = l[k]? := by
  unfold idx
  rw [if_pos (by omega)]
  rfl
theorem idx_lt {α : Type} {l : List α} {k : Nat} (h : k < l.length) : idx l (k : Int) = some l[k] := by
  rw [idx_nat, List.getElem?_eq_getElem h]

theorem lt_len {α : Type} (l : List α) (k : Nat) (h : k < l.length) : decide ((k : Int) < (l.length : Int)) = true := by simpa using h
theorem nlt_len {α : Type} (l : List α) : decide ((l.length : Int) < (l.length : Int)) = false := by simp

/-- A loop over a list that ends at the first element for which a test says no. -/
theorem all_loop {α B : Type} {body : Int → Option (Stp Bool Int B)} (l : List α) (hl : Fits l) (ok : α → Bool) (v : Bool) (b : B)
    (h1 : ∀ (k : Nat) (h : k < l.length), body (k : Int) = some (bif ok l[k] then .nxt (w64 ((k : Int) + 1)) else .ret v))
    (h2 : body (l.length : Int) = some (.brk b)) : loop body 0 = some (bif l.all ok then .brk b else .ret v) := by
  have h := loop_chk (body := body) (fun k => (k : Int)) l.length (fun k => match l[k]? with | some x => ok x | none => true) (fun _ => v) b
    (fun k hk _ => by
      have := h1 k hk
      rw [w64_next hl hk] at this
      simpa [List.getElem?_eq_getElem hk] using this) (fun _ => h2)
  rcases h with ⟨h, hall⟩ | ⟨k, hk, ho, _, h⟩
  · have : l.all ok = true := by
      rw [List.all_eq_true]
      intro x hx
      obtain ⟨i, hi, rfl⟩ := List.getElem_of_mem hx
      have := hall i hi
      simpa [List.getElem?_eq_getElem hi] using this
    rw [this]; exact h
  · have : l.all ok = false := by
      rw [List.all_eq_false]
      refine ⟨l[k], List.getElem_mem hk, ?_⟩
      simpa [List.getElem?_eq_getElem hk] using ho
    rw [this]; exact h

/-- As `all_loop`, where the test may look at the place. -/
theorem alli_loop {α B : Type} {body : Int → Option (Stp Bool Int B)} (l : List α) (hl : Fits l) (ok : Nat → Bool) (v : Bool) (b : B)
    (h1 : ∀ (k : Nat) (h : k < l.length), (∀ j, j < k → ok j = true) → body (k : Int) = some (bif ok k then .nxt (w64 ((k : Int) + 1)) else .ret v))
    (h2 : body (l.length : Int) = some (.brk b)) : loop body 0 = some (bif (List.range l.length).all ok then .brk b else .ret v) := by
  have h := loop_chk (body := body) (fun k => (k : Int)) l.length ok (fun _ => v) b
    (fun k hk hb => by
      have := h1 k hk hb
      rw [w64_next hl hk] at this
      exact this) (fun _ => h2)
  rcases h with ⟨h, hall⟩ | ⟨k, hk, ho, _, h⟩
  · have : (List.range l.length).all ok = true := by
      rw [List.all_eq_true]
      intro x hx
      exact hall x (by simpa using hx)
    rw [this]; exact h
  · have : (List.range l.length).all ok = false := by
      rw [List.all_eq_false]
      exact ⟨k, by simpa using hk, by simp [ho]⟩
    rw [this]; exact h

/-- A loop that makes a copy. -/
theorem copy_loop {α R B : Type} {body : List α × Int → Option (Stp R (List α × Int) B)} (l : List α) (hl : Fits l) (z : α) (f : List α → B)
    (h1 : ∀ (k : Nat) (h : k < l.length) (out : List α), out.length = l.length → body (out, (k : Int)) = some (.nxt (out.set k l[k], w64 ((k : Int) + 1))))
    (h2 : body (l, (l.length : Int)) = some (.brk (f l))) : loop body (List.replicate l.length z, 0) = some (.brk (f l)) := by
  have h := loop_to (body := body) (fun k => (l.take k ++ List.replicate (l.length - k) z, (k : Int))) l.length (fun k hk => by
    have := h1 k hk (l.take k ++ List.replicate (l.length - k) z) (by simp; omega)
    rw [w64_next hl hk] at this
    rw [this]
    congr 3
    rw [List.set_append_right k l[k] (by simp; omega)]
    rw [show l.length - k = (l.length - (k + 1)) + 1 from by omega, List.replicate_succ]
    rw [show k - (List.take k l).length = 0 from by simp; omega, List.set_cons_zero, List.take_succ_eq_append_getElem hk, List.append_assoc]
    rfl)
  simp only [List.take_zero, List.nil_append, Nat.sub_zero, List.take_length, Nat.sub_self, List.replicate_zero, List.append_nil] at h
  rw [show ((0 : Nat) : Int) = 0 from rfl] at h
  rw [h]
  exact loop_brk h2

/-- A loop that looks for the first of a kind. -/
theorem find_loop {α R B : Type} {body : Int → Option (Stp R Int B)} (l : List α) (hl : Fits l) (is : α → Bool) (f : α → R) (b : B)
    (h1 : ∀ (k : Nat) (h : k < l.length), body (k : Int) = some (bif is l[k] then .ret (f l[k]) else .nxt (w64 ((k : Int) + 1))))
    (h2 : body (l.length : Int) = some (.brk b)) : loop body 0 = some (match l.find? is with | some x => .ret (f x) | none => .brk b) := by
  have key : ∀ (m k : Nat), k + m = l.length → loop body (k : Int) = some (match (l.drop k).find? is with | some x => .ret (f x) | none => .brk b) := by
    intro m
    induction m with
    | zero =>
      intro k hk
      have : k = l.length := by omega
      subst this
      rw [List.drop_length]
      exact loop_brk h2
    | succ m ih =>
      intro k hk
      have hlt : k < l.length := by omega
      have hb := h1 k hlt
      rw [List.drop_eq_getElem_cons hlt, List.find?_cons]
      cases hq : is l[k] with
      | true =>
        rw [hq] at hb
        exact loop_ret hb
      | false =>
        rw [hq] at hb
        rw [loop_nxt hb, w64_next hl hlt]
        exact ih (k + 1) (by omega)
  have := key l.length 0 (by omega)
  simpa using this
/-- A loop that goes through a list with something of its own. -/
theorem fold_loop {α S R B : Type} {body : S × Int → Option (Stp R (S × Int) B)} (l : List α) (hl : Fits l) (g : S → α → S) (s0 : S) (b : S → B)
    (h1 : ∀ (k : Nat) (h : k < l.length), body ((l.take k).foldl g s0, (k : Int)) = some (.nxt (g ((l.take k).foldl g s0) l[k], w64 ((k : Int) + 1))))
    (h2 : body (l.foldl g s0, (l.length : Int)) = some (.brk (b (l.foldl g s0)))) : loop body (s0, 0) = some (.brk (b (l.foldl g s0))) := by
  have h := loop_to (body := body) (fun k => ((l.take k).foldl g s0, (k : Int))) l.length (fun k hk => by
    rw [h1 k hk, w64_next hl hk, List.take_succ_eq_append_getElem hk, List.foldl_append]
    rfl)
  simp only [List.take_zero, List.foldl_nil, List.take_length] at h
  rw [show ((0 : Nat) : Int) = 0 from rfl] at h
  rw [h]
  exact loop_brk h2
end Go.Proofs.YtggngdffdglolaaGreat

/- Plain laws: copies, sizes, entries by themselves, neighbours that can be swapped. -/
namespace Go.Proofs.YtggngdffdglolaaGreat
open Go

theorem okL.fits {α : Type} {bytes : Nat} {ok : α → Prop} {l : List α} (h : okL bytes ok l) (hb : 0 < bytes) : Fits l := by
  obtain ⟨h, _⟩ := h
  unfold Fits
  have : l.length * 1 ≤ l.length * bytes := Nat.mul_le_mul_left _ hb
  omega
/-- What is asked of sizes alone. -/
def fRun (x : TRun) : Prop := okL 16 okT x.Reads ∧ okL 16 okT x.Puts ∧ True
def fEntry (x : TEntry) : Prop := True ∧ fRun x.Run
theorem okL.imp {α : Type} {bytes : Nat} {ok ok' : α → Prop} {l : List α} (h : okL bytes ok l) (hi : ∀ x, ok x → ok' x) : okL bytes ok' l := ⟨h.1, fun x hx => hi x (h.2 x hx)⟩
theorem okRun.f {x : TRun} (h : okRun x) : fRun x := ⟨h.1.imp fun _ _ => trivial, h.2.1.imp fun _ _ => trivial, trivial⟩
theorem okEntry.f {x : TEntry} (h : okEntry x) : fEntry x := ⟨trivial, h.2.f⟩
theorem okEntries.f {l : List TEntry} (h : okL 88 okEntry l) : okL 88 fEntry l := h.imp fun _ x => x.f

/-! ### Copies -/
theorem toReadS_eq {l : List TRead} (h : okL 16 okT l) : laws_toReadS l = some l := by
  have hf : Fits l := h.fits (by decide)
  have hb := h.1
  unfold laws_toReadS need
  rw [if_pos (by constructor <;> omega), Int.toNat_natCast, copy_loop l hf _ id]
  · rfl
  · intro k hk out ho
    unfold laws_toReadS_b1 laws_toRead
    rw [lt_len l k hk]
    simp [idx_lt hk, idx_lt (ho ▸ hk), Option.bind]
  · unfold laws_toReadS_b1
    rw [nlt_len]
    rfl
theorem toPutS_eq {l : List TPut} (h : okL 16 okT l) : laws_toPutS l = some l := by
  have hf : Fits l := h.fits (by decide)
  have hb := h.1
  unfold laws_toPutS need
  rw [if_pos (by constructor <;> omega), Int.toNat_natCast, copy_loop l hf _ id]
  · rfl
  · intro k hk out ho
    unfold laws_toPutS_b1 laws_toPut
    rw [lt_len l k hk]
    simp [idx_lt hk, idx_lt (ho ▸ hk), Option.bind]
  · unfold laws_toPutS_b1
    rw [nlt_len]
    rfl
theorem toRun_eq {x : TRun} (h : fRun x) : laws_toRun x = some x := by
  unfold laws_toRun
  rw [toReadS_eq h.1, Option.bind_some, toPutS_eq h.2.1]
  rfl
theorem toEntry_eq {x : TEntry} (h : fEntry x) : laws_toEntry x = some x := by
  unfold laws_toEntry laws_toReq
  rw [Option.bind_some, toRun_eq h.2]
  rfl
theorem toEntryS_eq {l : List TEntry} (h : okL 88 fEntry l) : laws_toEntryS l = some l := by
  have hf : Fits l := h.fits (by decide)
  have hb := h.1
  unfold laws_toEntryS need
  rw [if_pos (by constructor <;> omega), Int.toNat_natCast, copy_loop l hf _ id]
  · rfl
  · intro k hk out ho
    unfold laws_toEntryS_b1
    rw [lt_len l k hk]
    simp [idx_lt hk, idx_lt (ho ▸ hk), Option.bind, toEntry_eq (h.2 _ (List.getElem_mem hk))]
  · unfold laws_toEntryS_b1
    rw [nlt_len]
    rfl

/-! ### Sizes -/
theorem szRun_tot (x : TRun) (n : Int) : ∃ v, laws_szRun x n = some v := by
  unfold laws_szRun laws_szReadS laws_szPutS
  simp only [cond_eq_ite]
  repeat' (first | (split; skip) | (simp only [Option.bind_some]; skip))
  all_goals simp
  all_goals grind
theorem szEntry_tot (x : TEntry) (n : Int) : ∃ v, laws_szEntry x n = some v := by
  obtain ⟨v, h⟩ := szRun_tot x.Run n
  unfold laws_szEntry
  rw [h, Option.bind_some]
  cases decide (v < 0) <;> exact ⟨_, rfl⟩
theorem szEntryS_tot {l : List TEntry} (h : Fits l) (n : Int) : ∃ v, laws_szEntryS l n = some v := by
  unfold laws_szEntryS
  cases decide (w64 (n - ↑l.length) < 0)
  · simp only [cond_false]
    obtain ⟨x, hx, _⟩ := loop_inv (body := fun s : Int × Int => laws_szEntryS_b1 l s.1 s.2) (fun k s => ∃ j : Nat, s.2 = (j : Int) ∧ j + k = l.length) (fun _ => True) (fun k s ⟨j, hj, hk⟩ => by
      unfold laws_szEntryS_b1
      rw [hj]
      by_cases hlt : j < l.length
      · rw [lt_len l j hlt, idx_lt hlt]
        obtain ⟨v, hv⟩ := szEntry_tot l[j] s.1
        simp only [cond_true, Option.bind_some, hv]
        cases decide (v < 0)
        · exact ⟨_, rfl, k - 1, by omega, j + 1, w64_next h hlt, by omega⟩
        · exact ⟨_, rfl, trivial⟩
      · have : j = l.length := by omega
        subst this
        rw [nlt_len]
        exact ⟨_, rfl, trivial⟩) (k := l.length) (s := (w64 (n - ↑l.length), 0)) ⟨0, rfl, by omega⟩
    rw [hx, Option.bind_some]
    cases x with
    | ret r => exact ⟨_, rfl⟩
    | brk b => exact ⟨_, rfl⟩
  · exact ⟨_, rfl⟩

/-! ### A list is itself -/
theorem eqReadS_self {l : List TRead} (h : Fits l) : laws_eqReadS l l = some true := by
  unfold laws_eqReadS
  rw [bne_self_eq_false, cond_false, all_loop l h (fun _ => true) false ()]
  · rw [show l.all (fun _ => true) = true from by simp]; rfl
  · intro k hk
    unfold laws_eqReadS_b1 laws_eqRead
    rw [lt_len l k hk, idx_lt hk]
    simp [bne_self_eq_false]
  · unfold laws_eqReadS_b1
    rw [nlt_len]; rfl
theorem eqPutS_self {l : List TPut} (h : Fits l) : laws_eqPutS l l = some true := by
  unfold laws_eqPutS
  rw [bne_self_eq_false, cond_false, all_loop l h (fun _ => true) false ()]
  · rw [show l.all (fun _ => true) = true from by simp]; rfl
  · intro k hk
    unfold laws_eqPutS_b1 laws_eqPut
    rw [lt_len l k hk, idx_lt hk]
    simp [bne_self_eq_false]
  · unfold laws_eqPutS_b1
    rw [nlt_len]; rfl
theorem eqRun_self {x : TRun} (h : fRun x) : laws_eqRun x x = some true := by
  unfold laws_eqRun
  rw [eqReadS_self (h.1.fits (by decide)), Option.bind_some, Bool.not_true, cond_false, eqPutS_self (h.2.1.fits (by decide)), Option.bind_some, Bool.not_true, cond_false]
  simp
theorem eqEntry_self {x : TEntry} (h : fEntry x) : laws_eqEntry x x = some true := by
  unfold laws_eqEntry
  rw [eqRun_self h.2]
  unfold laws_eqReq
  simp
theorem eqEntryS_self {l : List TEntry} (h : okL 88 fEntry l) : laws_eqEntryS l l = some true := by
  have hf : Fits l := h.fits (by decide)
  unfold laws_eqEntryS
  rw [bne_self_eq_false, cond_false, all_loop l hf (fun _ => true) false ()]
  · rw [show l.all (fun _ => true) = true from by simp]; rfl
  · intro k hk
    unfold laws_eqEntryS_b1
    rw [lt_len l k hk, idx_lt hk]
    simp [eqEntry_self (h.2 _ (List.getElem_mem hk))]
  · unfold laws_eqEntryS_b1
    rw [nlt_len]; rfl

/-! ### Runs: the small looks -/
def saw (l : List TRead) (box : Int) : Bool := l.any (·.Box == box)
def sawP (l : List TPut) (box : Int) : Bool := l.any (·.Box == box)
theorem l3Saw_eq {l : List TRead} (h : Fits l) (box : Int) : spec_l3Saw l box = some (saw l box) := by
  unfold spec_l3Saw
  rw [all_loop l h (fun x => !(x.Box == box)) true ()]
  · unfold saw
    rw [List.any_eq_not_all_not]
    cases l.all fun x => !(x.Box == box) <;> rfl
  · intro k hk
    unfold spec_l3Saw_b1
    rw [lt_len l k hk, idx_lt hk]
    cases hq : l[k].Box == box <;> simp [hq]
  · unfold spec_l3Saw_b1
    rw [nlt_len]; rfl
/-- A loop that finds a place, or none. -/
theorem at_loop {α B : Type} {body : Int → Option (Stp Int Int B)} (l : List α) (hl : Fits l) (is : α → Bool) (b : B)
    (h1 : ∀ (k : Nat) (h : k < l.length), body (k : Int) = some (bif is l[k] then .ret (k : Int) else .nxt (w64 ((k : Int) + 1))))
    (h2 : body (l.length : Int) = some (.brk b)) : (loop body 0 = some (.brk b) ∧ l.any is = false) ∨ ∃ k : Nat, loop body 0 = some (.ret (k : Int)) ∧ l.any is = true := by
  have h := loop_chk (body := body) (fun k => (k : Int)) l.length (fun k => match l[k]? with | some x => !is x | none => true) (fun k => (k : Int)) b
    (fun k hk _ => by
      have := h1 k hk
      rw [w64_next hl hk] at this
      rw [this]
      simp only [List.getElem?_eq_getElem hk]
      cases is l[k] <;> rfl) (fun _ => h2)
  rcases h with ⟨h, hall⟩ | ⟨k, hk, ho, _, h⟩
  · left
    refine ⟨h, ?_⟩
    rw [List.any_eq_false]
    intro x hx
    obtain ⟨i, hi, rfl⟩ := List.getElem_of_mem hx
    have := hall i hi
    simpa [List.getElem?_eq_getElem hi] using this
  · right
    refine ⟨k, h, ?_⟩
    rw [List.any_eq_true]
    refine ⟨l[k], List.getElem_mem hk, ?_⟩
    simpa [List.getElem?_eq_getElem hk] using ho
theorem l3At_eq {l : List TPut} (h : Fits l) (box : Int) : ∃ v, spec_l3At l box = some v ∧ decide (v ≥ 0) = sawP l box := by
  unfold spec_l3At
  rcases at_loop (body := fun s : Int => spec_l3At_b1 l box s) l h (fun x => x.Box == box) () (by
    intro k hk
    unfold spec_l3At_b1
    rw [lt_len l k hk, idx_lt hk]
    cases hq : l[k].Box == box <;> simp [hq]) (by unfold spec_l3At_b1; rw [nlt_len]; rfl) with ⟨h1, h2⟩ | ⟨k, h1, h2⟩
  · rw [h1]
    exact ⟨-1, rfl, h2.symm⟩
  · rw [h1]
    refine ⟨k, rfl, ?_⟩
    rw [show sawP l box = true from h2]
    simp
theorem putAt_eq {x : TRun} (h : Fits x.Puts) (box : Int) : ∃ v, impl_putAt x box = some v ∧ decide (v ≥ 0) = sawP x.Puts box := by
  unfold impl_putAt
  rcases at_loop (body := fun s : Int => impl_putAt_b1 x box s) x.Puts h (fun x => x.Box == box) () (by
    intro k hk
    unfold impl_putAt_b1
    rw [lt_len x.Puts k hk, idx_lt hk]
    cases hq : x.Puts[k].Box == box <;> simp [hq]) (by unfold impl_putAt_b1; rw [nlt_len]; rfl) with ⟨h1, h2⟩ | ⟨k, h1, h2⟩
  · rw [h1]
    exact ⟨-1, rfl, h2.symm⟩
  · rw [h1]
    refine ⟨k, rfl, ?_⟩
    rw [show sawP x.Puts box = true from h2]
    simp
theorem readAt_eq {x : TRun} (h : Fits x.Reads) (box : Int) : ∃ v, impl_readAt x box = some v ∧ decide (v ≥ 0) = saw x.Reads box := by
  unfold impl_readAt
  rcases at_loop (body := fun s : Int => impl_readAt_b1 x box s) x.Reads h (fun x => x.Box == box) () (by
    intro k hk
    unfold impl_readAt_b1
    rw [lt_len x.Reads k hk, idx_lt hk]
    cases hq : x.Reads[k].Box == box <;> simp [hq]) (by unfold impl_readAt_b1; rw [nlt_len]; rfl) with ⟨h1, h2⟩ | ⟨k, h1, h2⟩
  · rw [h1]
    exact ⟨-1, rfl, h2.symm⟩
  · rw [h1]
    refine ⟨k, rfl, ?_⟩
    rw [show saw x.Reads box = true from h2]
    simp
def clashes (a b : TRun) (box : Int) : Bool := (sawP a.Puts box && (sawP b.Puts box || saw b.Reads box)) || (sawP b.Puts box && saw a.Reads box)
/-! ### Ranges -/
def inR (n lo hi : Int) : Bool := decide (lo ≤ n ∧ n ≤ hi)
theorem in_eq (n lo hi : Int) : impl_in n lo hi = some (inR n lo hi) := by
  unfold impl_in inR
  by_cases h : n ≥ lo
  · have h' : lo ≤ n := h
    simp [h']
  · have h' : ¬ lo ≤ n := h
    simp [h']
theorem l1Num_eq (n : Int) : spec_l1Num n = some (inR n (-1000000) 1000000) := in_eq n (-1000000) 1000000
theorem l2Box_eq (n : Int) : spec_l2Box n = some (inR n 0 3) := by
  rw [← in_eq]
  unfold spec_l2Box impl_in
  have : (n < 4) = (n ≤ 3) := by apply propext; omega
  simp only [this]
theorem reqOk_eq (q : TReq) : impl_reqOk q = some (inR q.Who 0 2 && inR q.Seq 1 1000) := by
  unfold impl_reqOk
  simp only [in_eq, Option.bind_some]
  cases inR q.Who 0 2 <;> rfl
theorem l5Req_eq (q : TReq) : spec_l5Req q = some (inR q.Who 0 2 && inR q.Seq 1 1000) := by
  have h3 : (q.Who < 3) = (q.Who ≤ 2) := by apply propext; omega
  unfold spec_l5Req inR
  simp only [h3]
  by_cases h1 : q.Who ≥ 0 <;> by_cases h2 : q.Who ≤ 2 <;> by_cases h4 : q.Seq ≥ 1 <;> by_cases h5 : q.Seq ≤ 1000 <;> simp [h1, h2, h4, h5] <;> omega

/-! ### A run by itself -/
def okReads (l : List TRead) (k : Nat) : Bool := match l[k]? with
  | some x => inR x.Box 0 3 && (inR x.Ver 0 1000000 && !saw (l.take k) x.Box)
  | none => true
def okPuts (l : List TPut) (k : Nat) : Bool := match l[k]? with
  | some x => inR x.Box 0 3 && (inR x.Val (-1000000) 1000000 && !sawP (l.take k) x.Box)
  | none => true
theorem take_fits {α : Type} {l : List α} (h : Fits l) (k : Nat) : Fits (l.take k) := by
  unfold Fits at h ⊢
  rw [List.length_take]
  omega
theorem readsS {r : TRun} (h : Fits r.Reads) : loop (fun s : Int => spec_ExecOk_b2 r s) 0 = some (bif (List.range r.Reads.length).all (okReads r.Reads) then .brk () else .ret false) := by
  refine alli_loop r.Reads h (okReads r.Reads) false () ?_ ?_
  · intro k hk _
    unfold spec_ExecOk_b2 okReads need
    rw [lt_len _ k hk, idx_lt hk, List.getElem?_eq_getElem hk]
    have hp : (0 : Int) ≤ (k : Int) ∧ (k : Int) ≤ (r.Reads.length : Int) := by constructor <;> omega
    simp only [cond_true, Option.bind_some, if_pos hp, l2Box_eq, Int.toNat_natCast, Nat.sub_zero, List.drop_zero, l3Saw_eq (take_fits h k)]
    cases inR r.Reads[k].Box 0 3
    · rfl
    · unfold inR
      by_cases h1 : r.Reads[k].Ver < 0
      · have h1' : ¬ 0 ≤ r.Reads[k].Ver := by omega
        simp [h1, h1']
      · have h1' : 0 ≤ r.Reads[k].Ver := by omega
        by_cases h2 : r.Reads[k].Ver > 1000000
        · have h2' : ¬ r.Reads[k].Ver ≤ 1000000 := by omega
          simp [h1, h1', h2, h2']
        · have h2' : r.Reads[k].Ver ≤ 1000000 := by omega
          simp only [h1, h1', h2, h2', decide_false, decide_true, Bool.not_true, cond_false, Bool.true_and, and_self]
          cases saw (r.Reads.take k) r.Reads[k].Box <;> rfl
  · unfold spec_ExecOk_b2
    rw [nlt_len]; rfl
theorem putsS {r : TRun} (h : Fits r.Puts) : loop (fun s : Int => spec_ExecOk_b1 r s) 0 = some (bif (List.range r.Puts.length).all (okPuts r.Puts) then .brk () else .ret false) := by
  refine alli_loop r.Puts h (okPuts r.Puts) false () ?_ ?_
  · intro k hk _
    obtain ⟨v, hv, hg⟩ := l3At_eq (take_fits h k) r.Puts[k].Box
    unfold spec_ExecOk_b1 okPuts need
    rw [lt_len _ k hk, idx_lt hk, List.getElem?_eq_getElem hk]
    have hp : (0 : Int) ≤ (k : Int) ∧ (k : Int) ≤ (r.Puts.length : Int) := by constructor <;> omega
    simp only [cond_true, Option.bind_some, if_pos hp, l2Box_eq, l1Num_eq, Int.toNat_natCast, Nat.sub_zero, List.drop_zero, hv, hg]
    cases inR r.Puts[k].Box 0 3
    · rfl
    · cases inR r.Puts[k].Val (-1000000) 1000000
      · rfl
      · cases sawP (r.Puts.take k) r.Puts[k].Box <;> rfl
  · unfold spec_ExecOk_b1
    rw [nlt_len]; rfl

/-! ### The same with a bit for each box -/
def bits (f : Int → Bool) : List Bool := [f 0, f 1, f 2, f 3]
theorem bits_at {f : Int → Bool} {b : Int} (h : inR b 0 3 = true) : idx (bits f) b = some (f b) ∧ b < 4 := by
  have h : 0 ≤ b ∧ b ≤ 3 := by simpa [inR] using h
  have : b = 0 ∨ b = 1 ∨ b = 2 ∨ b = 3 := by omega
  rcases this with rfl | rfl | rfl | rfl <;> exact ⟨rfl, by decide⟩
theorem bits_set {f g : Int → Bool} {b : Int} (h : inR b 0 3 = true) (hb : g b = true) (hne : ∀ c, c ≠ b → g c = f c) : (bits f).set b.toNat true = bits g := by
  have h : 0 ≤ b ∧ b ≤ 3 := by simpa [inR] using h
  have : b = 0 ∨ b = 1 ∨ b = 2 ∨ b = 3 := by omega
  unfold bits
  rcases this with rfl | rfl | rfl | rfl
  all_goals
    rw [show [g 0, g 1, g 2, g 3] = _ from rfl]
    first
      | rw [hb, hne 1 (by decide), hne 2 (by decide), hne 3 (by decide)]; rfl
      | rw [hb, hne 0 (by decide), hne 2 (by decide), hne 3 (by decide)]; rfl
      | rw [hb, hne 0 (by decide), hne 1 (by decide), hne 3 (by decide)]; rfl
      | rw [hb, hne 0 (by decide), hne 1 (by decide), hne 2 (by decide)]; rfl
theorem saw_next {l : List TRead} {k : Nat} (hk : k < l.length) (b : Int) : saw (l.take (k + 1)) b = (saw (l.take k) b || (l[k].Box == b)) := by
  unfold saw
  rw [List.take_succ_eq_append_getElem hk, List.any_append]
  simp
theorem sawP_next {l : List TPut} {k : Nat} (hk : k < l.length) (b : Int) : sawP (l.take (k + 1)) b = (sawP (l.take k) b || (l[k].Box == b)) := by
  unfold sawP
  rw [List.take_succ_eq_append_getElem hk, List.any_append]
  simp
theorem saw_other {l : List TRead} {k : Nat} (hk : k < l.length) (c : Int) (hc : c ≠ l[k].Box) : saw (l.take (k + 1)) c = saw (l.take k) c := by
  have : (l[k].Box == c) = false := by simpa using fun h => hc h.symm
  rw [saw_next hk, this, Bool.or_false]
theorem sawP_other {l : List TPut} {k : Nat} (hk : k < l.length) (c : Int) (hc : c ≠ l[k].Box) : sawP (l.take (k + 1)) c = sawP (l.take k) c := by
  have : (l[k].Box == c) = false := by simpa using fun h => hc h.symm
  rw [sawP_next hk, this, Bool.or_false]
theorem chk_all {R S B : Type} {x : Option (Exc R B)} {n : Nat} {ok : Nat → Bool} {r : R} {b : B} (h : (x = some (.brk b) ∧ ∀ j, j < n → ok j = true) ∨ ∃ k, k < n ∧ ok k = false ∧ (∀ j, j < k → ok j = true) ∧ x = some (.ret r)) : x = some (bif (List.range n).all ok then .brk b else .ret r) := by
  rcases h with ⟨h, hall⟩ | ⟨k, hk, ho, _, h⟩
  · have : (List.range n).all ok = true := by
      rw [List.all_eq_true]
      intro x hx
      exact hall x (by simpa using hx)
    rw [this]; exact h
  · have : (List.range n).all ok = false := by
      rw [List.all_eq_false]
      exact ⟨k, by simpa using hk, by simp [ho]⟩
    rw [this]; exact h
theorem readsI {r : TRun} (h : Fits r.Reads) : loop (fun s : List Bool × Int => impl_ExecOk_b2 r s.1 s.2) (List.replicate 4 false, 0) = some (bif (List.range r.Reads.length).all (okReads r.Reads) then .brk () else .ret false) := by
  refine chk_all (S := List Bool × Int) (loop_chk (body := fun s : List Bool × Int => impl_ExecOk_b2 r s.1 s.2) (fun k => (bits (saw (r.Reads.take k)), (k : Int))) r.Reads.length (okReads r.Reads) (fun _ => false) () ?_ ?_)
  · intro k hk _
    simp only
    unfold impl_ExecOk_b2 okReads need
    rw [lt_len _ k hk, idx_lt hk, List.getElem?_eq_getElem hk]
    simp only [cond_true, Option.bind_some, in_eq]
    cases hb : inR r.Reads[k].Box 0 3
    · rfl
    · obtain ⟨h1, h2⟩ := bits_at (f := saw (r.Reads.take k)) hb
      rw [h1]
      simp only [if_pos h2, Bool.not_true, cond_false, Option.bind_some, Bool.true_and]
      cases hs : saw (r.Reads.take k) r.Reads[k].Box
      · cases inR r.Reads[k].Ver 0 1000000
        · rfl
        · simp only [Bool.not_true, cond_false, Bool.not_false, Bool.true_and, cond_true]
          rw [bits_set (f := saw (r.Reads.take k)) (g := saw (r.Reads.take (k + 1))) hb (by rw [saw_next hk]; simp) (saw_other hk), w64_next h hk]
      · cases inR r.Reads[k].Ver 0 1000000 <;> rfl
  · intro _
    simp only
    unfold impl_ExecOk_b2
    rw [nlt_len]; rfl
theorem putsI {r : TRun} (h : Fits r.Puts) : loop (fun s : List Bool × Int => impl_ExecOk_b1 r s.1 s.2) (List.replicate 4 false, 0) = some (bif (List.range r.Puts.length).all (okPuts r.Puts) then .brk () else .ret false) := by
  refine chk_all (S := List Bool × Int) (loop_chk (body := fun s : List Bool × Int => impl_ExecOk_b1 r s.1 s.2) (fun k => (bits (sawP (r.Puts.take k)), (k : Int))) r.Puts.length (okPuts r.Puts) (fun _ => false) () ?_ ?_)
  · intro k hk _
    simp only
    unfold impl_ExecOk_b1 okPuts need
    rw [lt_len _ k hk, idx_lt hk, List.getElem?_eq_getElem hk]
    simp only [cond_true, Option.bind_some, in_eq]
    cases hb : inR r.Puts[k].Box 0 3
    · rfl
    · obtain ⟨h1, h2⟩ := bits_at (f := sawP (r.Puts.take k)) hb
      rw [h1]
      simp only [if_pos h2, Bool.not_true, cond_false, Option.bind_some, Bool.true_and]
      cases hs : sawP (r.Puts.take k) r.Puts[k].Box
      · cases inR r.Puts[k].Val (-1000000) 1000000
        · rfl
        · simp only [Bool.not_true, cond_false, Bool.not_false, Bool.true_and, cond_true]
          rw [bits_set (f := sawP (r.Puts.take k)) (g := sawP (r.Puts.take (k + 1))) hb (by rw [sawP_next hk]; simp) (sawP_other hk), w64_next h hk]
      · cases inR r.Puts[k].Val (-1000000) 1000000 <;> rfl
  · intro _
    simp only
    unfold impl_ExecOk_b1
    rw [nlt_len]; rfl
def runOk (r : TRun) : Bool := inR r.Code 0 3 && (inR r.Val (-1000000) 1000000 && ((r.Code == 0 || (r.Val == 0 && r.Puts.length == 0)) && ((r.Code != 3 || r.Reads.length == 0) && ((List.range r.Reads.length).all (okReads r.Reads) && (List.range r.Puts.length).all (okPuts r.Puts)))))
theorem specOk_j {r : TRun} (h : fRun r) : spec_ExecOk_j1 r = some ((List.range r.Reads.length).all (okReads r.Reads) && (List.range r.Puts.length).all (okPuts r.Puts)) := by
  unfold spec_ExecOk_j1 spec_ExecOk_k6
  rw [readsS (h.1.fits (by decide)), putsS (h.2.1.fits (by decide))]
  cases (List.range r.Reads.length).all (okReads r.Reads) <;> cases (List.range r.Puts.length).all (okPuts r.Puts) <;> rfl
theorem implOk_j {r : TRun} (h : fRun r) : impl_ExecOk_j1 r = some ((List.range r.Reads.length).all (okReads r.Reads) && (List.range r.Puts.length).all (okPuts r.Puts)) := by
  unfold impl_ExecOk_j1 impl_ExecOk_k6
  rw [readsI (h.1.fits (by decide)), putsI (h.2.1.fits (by decide))]
  cases (List.range r.Reads.length).all (okReads r.Reads) <;> cases (List.range r.Puts.length).all (okPuts r.Puts) <;> rfl
theorem len_gt {α : Type} (l : List α) : decide ((l.length : Int) > 0) = !(l.length == 0) := by
  cases l <;> simp
theorem specOk_eq {r : TRun} (h : fRun r) : spec_ExecOk r = some (runOk r) := by
  unfold spec_ExecOk runOk
  rw [specOk_j h]
  simp only [l1Num_eq, len_gt, Option.bind_some, Exc.go]
  generalize ((List.range r.Reads.length).all (okReads r.Reads) && (List.range r.Puts.length).all (okPuts r.Puts)) = z
  generalize (r.Puts.length == 0) = a
  generalize (r.Reads.length == 0) = b
  generalize inR r.Val (-1000000) 1000000 = c
  have h3 : inR r.Code 0 3 = (!decide (r.Code < 0) && !decide (r.Code > 3)) := by
    unfold inR
    by_cases h1 : r.Code < 0 <;> by_cases h2 : r.Code > 3 <;> simp [h1, h2] <;> omega
  rw [h3]
  unfold bne
  cases decide (r.Code < 0) <;> cases decide (r.Code > 3) <;> cases c <;> cases (r.Code == 0) <;> cases (r.Val == 0) <;> cases a <;> cases (r.Code == 3) <;> cases b <;> rfl
theorem implOk_eq {r : TRun} (h : fRun r) : impl_ExecOk r = some (runOk r) := by
  unfold impl_ExecOk runOk
  rw [implOk_j h]
  simp only [in_eq, len_gt, Option.bind_some, Exc.go]
  generalize ((List.range r.Reads.length).all (okReads r.Reads) && (List.range r.Puts.length).all (okPuts r.Puts)) = z
  generalize (r.Puts.length == 0) = a
  generalize (r.Reads.length == 0) = b
  generalize inR r.Val (-1000000) 1000000 = c
  generalize inR r.Code 0 3 = d
  unfold bne
  cases d <;> cases c <;> cases (r.Code == 0) <;> cases (r.Val == 0) <;> cases a <;> cases (r.Code == 3) <;> cases b <;> rfl

/-! ### Two runs alike -/
def sameReads (a b : List TRead) (k : Nat) : Bool := match a[k]?, b[k]? with
  | some x, some y => ([x.Box, x.Ver] : List Int) == [y.Box, y.Ver]
  | _, _ => true
def samePuts (a b : List TPut) (k : Nat) : Bool := match a[k]?, b[k]? with
  | some x, some y => ([x.Box, x.Val] : List Int) == [y.Box, y.Val]
  | _, _ => true
theorem sameReadsS {a b : TRun} (h : Fits a.Reads) (hl : a.Reads.length = b.Reads.length) : loop (fun s : Int => spec_ExecSame_b2 a b s) 0 = some (bif (List.range a.Reads.length).all (sameReads a.Reads b.Reads) then .brk () else .ret false) := by
  refine alli_loop a.Reads h (sameReads a.Reads b.Reads) false () ?_ ?_
  · intro k hk _
    unfold spec_ExecSame_b2 sameReads
    rw [lt_len _ k hk, idx_lt hk, idx_lt (hl ▸ hk), List.getElem?_eq_getElem hk, List.getElem?_eq_getElem (hl ▸ hk)]
    simp only [cond_true, Option.bind_some]
    cases ([a.Reads[k].Box, a.Reads[k].Ver] : List Int) == [(b.Reads[k]'(hl ▸ hk)).Box, (b.Reads[k]'(hl ▸ hk)).Ver] <;> rfl
  · unfold spec_ExecSame_b2
    rw [nlt_len]; rfl
theorem samePutsS {a b : TRun} (h : Fits a.Puts) (hl : a.Puts.length = b.Puts.length) : loop (fun s : Int => spec_ExecSame_b1 a b s) 0 = some (bif (List.range a.Puts.length).all (samePuts a.Puts b.Puts) then .brk () else .ret false) := by
  refine alli_loop a.Puts h (samePuts a.Puts b.Puts) false () ?_ ?_
  · intro k hk _
    unfold spec_ExecSame_b1 samePuts
    rw [lt_len _ k hk, idx_lt hk, idx_lt (hl ▸ hk), List.getElem?_eq_getElem hk, List.getElem?_eq_getElem (hl ▸ hk)]
    simp only [cond_true, Option.bind_some]
    cases ([a.Puts[k].Box, a.Puts[k].Val] : List Int) == [(b.Puts[k]'(hl ▸ hk)).Box, (b.Puts[k]'(hl ▸ hk)).Val] <;> rfl
  · unfold spec_ExecSame_b1
    rw [nlt_len]; rfl
theorem sameReadI {a b : List TRead} (h : Fits a) : impl_same_Read a b = some (a.length == b.length && (List.range a.length).all (sameReads a b)) := by
  unfold impl_same_Read
  by_cases hl : a.length = b.length
  · rw [alli_loop a h (sameReads a b) false ()]
    · rw [hl]
      simp only [bne_self_eq_false, cond_false, beq_self_eq_true, Bool.true_and]
      cases (List.range b.length).all (sameReads a b) <;> rfl
    · intro k hk _
      unfold impl_same_Read_b1 sameReads
      rw [lt_len _ k hk, idx_lt hk, idx_lt (hl ▸ hk), List.getElem?_eq_getElem hk, List.getElem?_eq_getElem (hl ▸ hk)]
      simp only [cond_true, Option.bind_some]
      cases ([a[k].Box, a[k].Ver] : List Int) == [(b[k]'(hl ▸ hk)).Box, (b[k]'(hl ▸ hk)).Ver] <;> rfl
    · unfold impl_same_Read_b1
      rw [nlt_len]; rfl
  · have h1 : ((a.length : Int) != (b.length : Int)) = true := by simp; omega
    have h2 : (a.length == b.length) = false := by simpa using hl
    rw [h1, h2]; rfl
theorem samePutI {a b : List TPut} (h : Fits a) : impl_same_Put a b = some (a.length == b.length && (List.range a.length).all (samePuts a b)) := by
  unfold impl_same_Put
  by_cases hl : a.length = b.length
  · rw [alli_loop a h (samePuts a b) false ()]
    · rw [hl]
      simp only [bne_self_eq_false, cond_false, beq_self_eq_true, Bool.true_and]
      cases (List.range b.length).all (samePuts a b) <;> rfl
    · intro k hk _
      unfold impl_same_Put_b1 samePuts
      rw [lt_len _ k hk, idx_lt hk, idx_lt (hl ▸ hk), List.getElem?_eq_getElem hk, List.getElem?_eq_getElem (hl ▸ hk)]
      simp only [cond_true, Option.bind_some]
      cases ([a[k].Box, a[k].Val] : List Int) == [(b[k]'(hl ▸ hk)).Box, (b[k]'(hl ▸ hk)).Val] <;> rfl
    · unfold impl_same_Put_b1
      rw [nlt_len]; rfl
  · have h1 : ((a.length : Int) != (b.length : Int)) = true := by simp; omega
    have h2 : (a.length == b.length) = false := by simpa using hl
    rw [h1, h2]; rfl
def sameRun (a b : TRun) : Bool := (a.Reads.length == b.Reads.length && (List.range a.Reads.length).all (sameReads a.Reads b.Reads)) && ((a.Puts.length == b.Puts.length && (List.range a.Puts.length).all (samePuts a.Puts b.Puts)) && (a.Val == b.Val && a.Code == b.Code))
theorem len_bne {α β : Type} (a : List α) (b : List β) : ((a.length : Int) != (b.length : Int)) = !(a.length == b.length) := by
  unfold bne
  congr 1
  by_cases h : a.length = b.length
  · simp [h]
  · have h1 : ((a.length : Int) == (b.length : Int)) = false := by simp; omega
    have h2 : (a.length == b.length) = false := by simpa using h
    rw [h1, h2]
theorem specSame_eq {a b : TRun} (h : fRun a) : spec_ExecSame a b = some (sameRun a b) := by
  unfold spec_ExecSame sameRun
  rw [len_bne, len_bne]
  cases h1 : a.Reads.length == b.Reads.length
  · unfold bne
    cases a.Val == b.Val <;> cases a.Code == b.Code <;> rfl
  cases h2 : a.Puts.length == b.Puts.length
  · unfold bne
    cases a.Val == b.Val <;> cases a.Code == b.Code <;> simp
  unfold spec_ExecSame_k5
  rw [sameReadsS (h.1.fits (by decide)) (by simpa using h1), samePutsS (h.2.1.fits (by decide)) (by simpa using h2)]
  unfold bne
  cases (List.range a.Reads.length).all (sameReads a.Reads b.Reads) <;> cases (List.range a.Puts.length).all (samePuts a.Puts b.Puts) <;> cases a.Val == b.Val <;> cases a.Code == b.Code <;> rfl
theorem implSame_eq {a b : TRun} (h : fRun a) : impl_ExecSame a b = some (sameRun a b) := by
  unfold impl_ExecSame sameRun
  rw [sameReadI (h.1.fits (by decide)), samePutI (h.2.1.fits (by decide))]
  simp only [Option.bind_some]
  generalize (a.Reads.length == b.Reads.length && (List.range a.Reads.length).all (sameReads a.Reads b.Reads)) = x
  generalize (a.Puts.length == b.Puts.length && (List.range a.Puts.length).all (samePuts a.Puts b.Puts)) = y
  cases x <;> cases y <;> cases a.Val == b.Val <;> rfl

/-! ### Entries -/
def entryOk (e : TEntry) : Bool := bif e.None then (([e.Req.Who, e.Req.Seq] : List Int) == [0, 0]) && sameRun e.Run (TRun.mk [] [] 0 0) else (inR e.Req.Who 0 2 && inR e.Req.Seq 1 1000) && (runOk e.Run && e.Run.Code != 3)
theorem specEntry_eq {e : TEntry} (h : fEntry e) : spec_CertEntry e = some (entryOk e) := by
  unfold spec_CertEntry entryOk
  simp only [specSame_eq h.2, l5Req_eq, specOk_eq h.2, Option.bind_some]
  cases e.None
  · simp only [cond_false]
    cases inR e.Req.Who 0 2 && inR e.Req.Seq 1 1000 <;> cases runOk e.Run <;> rfl
  · simp only [cond_true]
    cases ([e.Req.Who, e.Req.Seq] : List Int) == [0, 0] <;> rfl
theorem implEntry_eq {e : TEntry} (h : fEntry e) : impl_CertEntry e = some (entryOk e) := by
  unfold impl_CertEntry impl_CertLike entryOk
  simp only [implSame_eq h.2, reqOk_eq, implOk_eq h.2, Option.bind_some]
  cases e.None
  · simp only [cond_false]
    cases inR e.Req.Who 0 2 && inR e.Req.Seq 1 1000 <;> cases runOk e.Run <;> rfl
  · simp only [cond_true, beq_self_eq_true]
    cases ([e.Req.Who, e.Req.Seq] : List Int) == [0, 0] <;> rfl
def listOk (l : List TEntry) : Bool := decide (l.length ≤ 40) && l.all entryOk
theorem len_le {α : Type} (l : List α) (n : Nat) : decide ((l.length : Int) ≤ (n : Int)) = decide (l.length ≤ n) := by
  by_cases h : l.length ≤ n
  · have : (l.length : Int) ≤ (n : Int) := by omega
    simp [h, this]
  · have : ¬ (l.length : Int) ≤ (n : Int) := by omega
    simp [h, this]
theorem len_gt_n {α : Type} (l : List α) (n : Nat) : decide ((l.length : Int) > (n : Int)) = !decide (l.length ≤ n) := by
  by_cases h : l.length ≤ n
  · have : ¬ (l.length : Int) > (n : Int) := by omega
    simp [h, this]
  · have : (l.length : Int) > (n : Int) := by omega
    simp [h, this]
theorem specList_eq {l : List TEntry} (h : okL 88 fEntry l) : spec_l8Known l = some (listOk l) := by
  unfold spec_l8Known listOk
  rw [show (40 : Int) = ((40 : Nat) : Int) from rfl, len_gt_n, all_loop l (h.fits (by decide)) entryOk false ()]
  · cases decide (l.length ≤ 40)
    · rfl
    · cases l.all entryOk <;> rfl
  · intro k hk
    unfold spec_l8Known_b1
    rw [lt_len _ k hk, idx_lt hk]
    simp only [cond_true, Option.bind_some, specEntry_eq (h.2 _ (List.getElem_mem hk))]
    cases entryOk l[k] <;> rfl
  · unfold spec_l8Known_b1
    rw [nlt_len]; rfl
theorem implList_eq {l : List TEntry} (h : okL 88 fEntry l) : impl_listOk l = some (listOk l) := by
  unfold impl_listOk listOk impl_listOk_k2
  rw [show (40 : Int) = ((40 : Nat) : Int) from rfl, len_le, all_loop l (h.fits (by decide)) entryOk false ()]
  · cases l.all entryOk <;> cases decide (l.length ≤ 40) <;> rfl
  · intro k hk
    unfold impl_listOk_b1
    rw [lt_len _ k hk, idx_lt hk]
    simp only [cond_true, Option.bind_some, implEntry_eq (h.2 _ (List.getElem_mem hk))]
    cases entryOk l[k] <;> rfl
  · unfold impl_listOk_b1
    rw [nlt_len]; rfl
end Go.Proofs.YtggngdffdglolaaGreat

/- What there is behind entries: one step on either side, told plainly. -/
namespace Go.Proofs.YtggngdffdglolaaGreat
open Go

/-! ### Boxes -/
def boxFine (b : TBox) : Bool := inR b.Ver 0 1000000 && inR b.Val (-1000000) 1000000
def boxesOk (l : List TBox) : Bool := l.length == 4 && l.all boxFine
theorem len_ne {α : Type} (l : List α) (n : Nat) : ((l.length : Int) != (n : Int)) = !(l.length == n) := by
  unfold bne
  congr 1
  by_cases h : l.length = n
  · simp [h]
  · have h1 : ((l.length : Int) == (n : Int)) = false := by simp; omega
    have h2 : (l.length == n) = false := by simpa using h
    rw [h1, h2]
theorem len_eq {α : Type} (l : List α) (n : Nat) : ((l.length : Int) == (n : Int)) = (l.length == n) := by
  have := len_ne l n
  unfold bne at this
  simpa using this
theorem specBoxOk_eq {l : List TBox} (h : Fits l) : spec_BoxOk l = some (boxesOk l) := by
  unfold spec_BoxOk boxesOk
  rw [show (4 : Int) = ((4 : Nat) : Int) from rfl, len_ne, all_loop l h boxFine false ()]
  · cases l.length == 4
    · rfl
    · cases l.all boxFine <;> rfl
  · intro k hk
    unfold spec_BoxOk_b1 boxFine
    rw [lt_len _ k hk, idx_lt hk]
    simp only [cond_true, Option.bind_some, l1Num_eq]
    cases hq : inR l[k].Ver 0 1000000 with
    | false =>
      by_cases h1 : l[k].Ver < 0
      · simp [h1]
      · have : l[k].Ver > 1000000 := by
          unfold inR at hq
          simp at hq
          omega
        simp [h1, this]
    | true =>
      unfold inR at hq
      simp at hq
      have h1 : ¬ l[k].Ver < 0 := by omega
      have h2 : ¬ l[k].Ver > 1000000 := by omega
      simp only [h1, h2, decide_false, cond_false, Bool.true_and]
      cases inR l[k].Val (-1000000) 1000000 <;> rfl
  · unfold spec_BoxOk_b1
    rw [nlt_len]; rfl
theorem implBoxOk_eq {l : List TBox} (h : Fits l) : impl_BoxOk l = some (boxesOk l) := by
  unfold impl_BoxOk boxesOk impl_BoxOk_k2
  rw [show (4 : Int) = ((4 : Nat) : Int) from rfl, len_eq, all_loop l h boxFine false ()]
  · cases l.length == 4 <;> cases l.all boxFine <;> rfl
  · intro k hk
    unfold impl_BoxOk_b1 boxFine
    rw [lt_len _ k hk, idx_lt hk]
    simp only [cond_true, Option.bind_some, in_eq]
    cases inR l[k].Ver 0 1000000 <;> cases inR l[k].Val (-1000000) 1000000 <;> rfl
  · unfold impl_BoxOk_b1
    rw [nlt_len]; rfl

/-! ### What a run that is right holds -/
theorem okReads_mem {l : List TRead} (h : (List.range l.length).all (okReads l) = true) : ∀ x ∈ l, 0 ≤ x.Box ∧ x.Box ≤ 3 ∧ 0 ≤ x.Ver ∧ x.Ver ≤ 1000000 := by
  intro x hx
  obtain ⟨i, hi, rfl⟩ := List.getElem_of_mem hx
  have := List.all_eq_true.1 h i (by simpa using hi)
  unfold okReads at this
  rw [List.getElem?_eq_getElem hi] at this
  simp [inR] at this
  omega
theorem okPuts_mem {l : List TPut} (h : (List.range l.length).all (okPuts l) = true) : ∀ x ∈ l, 0 ≤ x.Box ∧ x.Box ≤ 3 ∧ -1000000 ≤ x.Val ∧ x.Val ≤ 1000000 := by
  intro x hx
  obtain ⟨i, hi, rfl⟩ := List.getElem_of_mem hx
  have := List.all_eq_true.1 h i (by simpa using hi)
  unfold okPuts at this
  rw [List.getElem?_eq_getElem hi] at this
  simp [inR] at this
  omega
theorem runOk_parts {r : TRun} (h : runOk r = true) : (0 ≤ r.Code ∧ r.Code ≤ 3) ∧ (-1000000 ≤ r.Val ∧ r.Val ≤ 1000000) ∧ (r.Code = 0 ∨ (r.Val = 0 ∧ r.Puts = [])) ∧ (∀ x ∈ r.Reads, 0 ≤ x.Box ∧ x.Box ≤ 3 ∧ 0 ≤ x.Ver ∧ x.Ver ≤ 1000000) ∧ ∀ x ∈ r.Puts, 0 ≤ x.Box ∧ x.Box ≤ 3 ∧ -1000000 ≤ x.Val ∧ x.Val ≤ 1000000 := by
  unfold runOk at h
  simp only [Bool.and_eq_true, Bool.or_eq_true] at h
  obtain ⟨h1, h2, h3, _, h4, h5⟩ := h
  refine ⟨by simpa [inR] using h1, by simpa [inR] using h2, by simpa using h3, okReads_mem h4, okPuts_mem h5⟩

/-! ### Is it as it was -/
def fresh (l : List TBox) (r : TRun) : Bool := r.Reads.all fun x => match l[x.Box.toNat]? with
  | some b => b.Ver == x.Ver
  | none => true
theorem boxesOk_len {l : List TBox} (h : boxesOk l = true) : l.length = 4 := by
  unfold boxesOk at h
  simp only [Bool.and_eq_true, beq_iff_eq] at h
  exact h.1
theorem boxesOk_fits {l : List TBox} (h : boxesOk l = true) : Fits l := by
  unfold Fits
  rw [boxesOk_len h]
  decide
theorem box_at {l : List TBox} (h : boxesOk l = true) {b : Int} (hb : 0 ≤ b ∧ b ≤ 3) : ∃ x, idx l b = some x ∧ l[b.toNat]? = some x ∧ boxFine x = true := by
  have hl := boxesOk_len h
  have hlt : b.toNat < l.length := by omega
  refine ⟨l[b.toNat], ?_, List.getElem?_eq_getElem hlt, ?_⟩
  · unfold idx
    rw [if_pos hb.1, List.getElem?_eq_getElem hlt]
  · unfold boxesOk at h
    simp only [Bool.and_eq_true] at h
    exact List.all_eq_true.1 h.2 _ (List.getElem_mem hlt)
theorem specFresh_eq {l : List TBox} {r : TRun} (hl : Fits l) (hr : fRun r) : spec_ExecFresh l r = some (boxesOk l && (runOk r && fresh l r)) := by
  unfold spec_ExecFresh
  rw [specBoxOk_eq hl, specOk_eq hr]
  simp only [Option.bind_some]
  cases h1 : boxesOk l
  · rfl
  cases h2 : runOk r
  · rfl
  have hp := runOk_parts h2
  simp only [Bool.not_true, cond_false, Bool.true_and]
  rw [all_loop r.Reads (hr.1.fits (by decide)) (fun x => match l[x.Box.toNat]? with | some b => b.Ver == x.Ver | none => true) false ()]
  · unfold fresh
    cases r.Reads.all _ <;> rfl
  · intro k hk
    have hm := hp.2.2.2.1 _ (List.getElem_mem hk)
    obtain ⟨b, hb1, hb2, _⟩ := box_at h1 (b := r.Reads[k].Box) ⟨hm.1, hm.2.1⟩
    unfold spec_ExecFresh_b1
    rw [lt_len _ k hk, idx_lt hk]
    simp only [cond_true, Option.bind_some, hb1, hb2]
    unfold bne
    cases b.Ver == r.Reads[k].Ver <;> rfl
  · unfold spec_ExecFresh_b1
    rw [nlt_len]; rfl
theorem implFresh_eq {l : List TBox} {r : TRun} (hl : Fits l) (hr : fRun r) : impl_ExecFresh l r = some (boxesOk l && (runOk r && fresh l r)) := by
  unfold impl_ExecFresh
  rw [implBoxOk_eq hl, implOk_eq hr]
  simp only [Option.bind_some]
  cases h1 : boxesOk l
  · rfl
  cases h2 : runOk r
  · rfl
  have hp := runOk_parts h2
  simp only [Bool.not_true, cond_false, Bool.true_and]
  rw [all_loop r.Reads (hr.1.fits (by decide)) (fun x => match l[x.Box.toNat]? with | some b => b.Ver == x.Ver | none => true) false ()]
  · unfold fresh
    cases r.Reads.all _ <;> rfl
  · intro k hk
    have hm := hp.2.2.2.1 _ (List.getElem_mem hk)
    obtain ⟨b, hb1, hb2, _⟩ := box_at h1 (b := r.Reads[k].Box) ⟨hm.1, hm.2.1⟩
    unfold impl_ExecFresh_b1
    rw [lt_len _ k hk, idx_lt hk]
    simp only [cond_true, Option.bind_some, hb1, hb2]
    unfold bne
    cases b.Ver == r.Reads[k].Ver <;> rfl
  · unfold impl_ExecFresh_b1
    rw [nlt_len]; rfl

/-! ### Puts done -/
def bump (l : List TBox) (p : TPut) : List TBox := match l[p.Box.toNat]? with
  | some b => l.set p.Box.toNat ⟨if b.Ver + 1 < 1000000 then b.Ver + 1 else 1000000, p.Val⟩
  | none => l
def doPuts (l : List TBox) (ps : List TPut) : List TBox := ps.foldl bump l
def putFine (x : TPut) : Prop := 0 ≤ x.Box ∧ x.Box ≤ 3 ∧ -1000000 ≤ x.Val ∧ x.Val ≤ 1000000
theorem bump_at {l : List TBox} {p : TPut} {b : TBox} (h : l[p.Box.toNat]? = some b) : bump l p = l.set p.Box.toNat ⟨if b.Ver + 1 < 1000000 then b.Ver + 1 else 1000000, p.Val⟩ := by
  unfold bump
  rw [h]
theorem boxFine_iff {b : TBox} : boxFine b = true ↔ (0 ≤ b.Ver ∧ b.Ver ≤ 1000000) ∧ (-1000000 ≤ b.Val ∧ b.Val ≤ 1000000) := by
  unfold boxFine inR
  simp
theorem boxesOk_iff {l : List TBox} : boxesOk l = true ↔ l.length = 4 ∧ ∀ b ∈ l, boxFine b = true := by
  unfold boxesOk
  simp
theorem bump_ok {l : List TBox} {p : TPut} (h : boxesOk l = true) (hp : putFine p) : boxesOk (bump l p) = true := by
  obtain ⟨b, _, h2, h3⟩ := box_at h (b := p.Box) ⟨hp.1, hp.2.1⟩
  rw [boxesOk_iff] at h ⊢
  unfold bump
  rw [h2]
  refine ⟨by simpa using h.1, fun x hx => ?_⟩
  rcases List.mem_or_eq_of_mem_set hx with hx | rfl
  · exact h.2 x hx
  · rw [boxFine_iff] at h3 ⊢
    refine ⟨?_, hp.2.2⟩
    simp only
    split <;> omega
theorem doPuts_ok : ∀ {ps : List TPut} {l : List TBox}, boxesOk l = true → (∀ p ∈ ps, putFine p) → boxesOk (doPuts l ps) = true
  | [], l, h, _ => h
  | p :: ps, l, h, hp => doPuts_ok (ps := ps) (bump_ok h (hp p (by simp))) fun x hx => hp x (by simp [hx])
theorem doPuts_take {l : List TBox} {ps : List TPut} (h : boxesOk l = true) (hp : ∀ p ∈ ps, putFine p) (k : Nat) : boxesOk ((ps.take k).foldl bump l) = true :=
  doPuts_ok h fun p hq => hp p (List.mem_of_mem_take hq)
theorem specDo_eq {l : List TBox} {r : TRun} (hl : boxesOk l = true) (hr : fRun r) (hp : ∀ p ∈ r.Puts, putFine p) : spec_l3Do l r = some (doPuts l r.Puts) := by
  unfold spec_l3Do
  rw [fold_loop r.Puts (hr.2.1.fits (by decide)) bump l id]
  · rfl
  · intro k hk
    have hq := hp _ (List.getElem_mem hk)
    obtain ⟨b, h1, h2, h3⟩ := box_at (doPuts_take hl hp k) (b := r.Puts[k].Box) ⟨hq.1, hq.2.1⟩
    rw [boxFine_iff] at h3
    unfold spec_l3Do_b1
    rw [lt_len _ k hk, idx_lt hk]
    simp only [cond_true, Option.bind_some, h1]
    unfold spec_l1Min
    rw [bump_at h2, w64_in (n := b.Ver + 1) (by omega) (by omega)]
    by_cases hv : b.Ver + 1 < 1000000
    · have : ¬ (1000000 : Int) < b.Ver + 1 := by omega
      simp [hv, this]
    · by_cases hv2 : (1000000 : Int) < b.Ver + 1
      · simp [hv, hv2]
      · have : b.Ver + 1 = 1000000 := by omega
        simp [hv, hv2, this]
  · unfold spec_l3Do_b1
    rw [nlt_len]; rfl
theorem copiedBox_eq {l : List TBox} (h : l.length * 16 ≤ 140737488351232) : impl_copied_Box l = some l := by
  unfold impl_copied_Box need
  cases l with
  | nil => rfl
  | cons x l =>
    have h1 : (((x :: l).length : Int) == 0) = false := by simp; omega
    rw [h1, cond_false, if_pos (by constructor <;> omega), if_pos (by simp)]
theorem copiedDone_eq {l : List TDone} (h : l.length * 32 ≤ 140737488351232) : impl_copied_Done l = some l := by
  unfold impl_copied_Done need
  cases l with
  | nil => rfl
  | cons x l =>
    have h1 : (((x :: l).length : Int) == 0) = false := by simp; omega
    rw [h1, cond_false, if_pos (by constructor <;> omega), if_pos (by simp)]
theorem implDo_eq {l : List TBox} {r : TRun} (hl : boxesOk l = true) (hr : fRun r) (hok : runOk r = true) : impl_ExecDo l r = some (doPuts l r.Puts) := by
  have hp : ∀ p ∈ r.Puts, putFine p := (runOk_parts hok).2.2.2.2
  unfold impl_ExecDo
  rw [implBoxOk_eq (boxesOk_fits hl), implOk_eq hr, hl, hok]
  simp only [Option.bind_some, Bool.not_true, cond_false]
  rw [copiedBox_eq (by rw [boxesOk_len hl]; decide), Option.bind_some, fold_loop r.Puts (hr.2.1.fits (by decide)) bump l id]
  · rfl
  · intro k hk
    have hq := hp _ (List.getElem_mem hk)
    obtain ⟨b, h1, h2, h3⟩ := box_at (doPuts_take hl hp k) (b := r.Puts[k].Box) ⟨hq.1, hq.2.1⟩
    rw [boxFine_iff] at h3
    unfold impl_ExecDo_b1
    rw [lt_len _ k hk, idx_lt hk]
    simp only [cond_true, Option.bind_some, h1]
    rw [bump_at h2, w64_in (n := b.Ver + 1) (by omega) (by omega)]
  · unfold impl_ExecDo_b1
    rw [nlt_len]; rfl
end Go.Proofs.YtggngdffdglolaaGreat

/- What there is behind entries: the last requests, and an entry done on either side. -/
namespace Go.Proofs.YtggngdffdglolaaGreat
open Go

/-! ### The last requests -/
def doneOk (d : TDone) : Bool := (inR d.Req.Who 0 2 && inR d.Req.Seq 1 1000) && (inR d.Code 0 2 && (inR d.Val (-1000000) 1000000 && (d.Code == 0 || d.Val == 0)))
def Sorted (l : List TDone) : Prop := l.Pairwise fun a b => a.Req.Who < b.Req.Who
def putStep (d : TDone) (st : List TDone × Bool) (x : TDone) : List TDone × Bool :=
  bif !st.2 && decide (x.Req.Who ≥ d.Req.Who) then (bif x.Req.Who != d.Req.Who then (st.1 ++ [d]) ++ [x] else st.1 ++ [d], true) else (bif x.Req.Who != d.Req.Who then st.1 ++ [x] else st.1, st.2)
def putDone (l : List TDone) (d : TDone) : List TDone :=
  let r := l.foldl (putStep d) ([], false)
  bif !r.2 then r.1 ++ [d] else r.1
theorem putStep_len (d : TDone) (st : List TDone × Bool) (x : TDone) : (putStep d st x).1.length ≤ st.1.length + 2 := by
  unfold putStep
  cases !st.2 && decide (x.Req.Who ≥ d.Req.Who) <;> cases x.Req.Who != d.Req.Who <;> simp
theorem putFold_len (d : TDone) : ∀ (l : List TDone) (st : List TDone × Bool), (l.foldl (putStep d) st).1.length ≤ st.1.length + 2 * l.length
  | [], st => by simp
  | x :: l, st => by
    have h1 := putFold_len d l (putStep d st x)
    have h2 := putStep_len d st x
    simp only [List.foldl_cons, List.length_cons]
    omega
theorem putAfter (d : TDone) : ∀ {l : List TDone} {o : List TDone}, (∀ x ∈ l, d.Req.Who < x.Req.Who) → l.foldl (putStep d) (o, true) = (o ++ l, true)
  | [], o, _ => by simp
  | x :: l, o, h => by
    have hx := h x (by simp)
    have hne : (x.Req.Who != d.Req.Who) = true := by simp; omega
    rw [List.foldl_cons, show putStep d (o, true) x = (o ++ [x], true) from by unfold putStep; simp [hne], putAfter d fun y hy => h y (by simp [hy])]
    simp
theorem putDone_cons (d : TDone) : ∀ {l o : List TDone}, Sorted l →
    (let r := l.foldl (putStep d) (o, false); bif !r.2 then r.1 ++ [d] else r.1) = o ++ (l.filter (fun x => decide (x.Req.Who < d.Req.Who)) ++ d :: l.filter (fun x => decide (d.Req.Who < x.Req.Who)))
  | [], o, _ => by simp
  | x :: l, o, h => by
    obtain ⟨h1, h2⟩ := List.pairwise_cons.1 h
    rw [List.foldl_cons]
    by_cases hlt : x.Req.Who < d.Req.Who
    · have hge : ¬ x.Req.Who ≥ d.Req.Who := by omega
      have hne : (x.Req.Who != d.Req.Who) = true := by simp; omega
      have hngt : ¬ d.Req.Who < x.Req.Who := by omega
      rw [show putStep d (o, false) x = (o ++ [x], false) from by unfold putStep; simp [hge, hne], putDone_cons d h2]
      simp [hlt, hngt]
    · have hge : x.Req.Who ≥ d.Req.Who := by omega
      have hall : ∀ y ∈ l, d.Req.Who < y.Req.Who := fun y hy => by have := h1 y hy; omega
      have hf1 : l.filter (fun x => decide (x.Req.Who < d.Req.Who)) = [] := by
        rw [List.filter_eq_nil_iff]
        intro y hy
        have := hall y hy
        simp
        omega
      have hf2 : l.filter (fun x => decide (d.Req.Who < x.Req.Who)) = l := by
        rw [List.filter_eq_self]
        intro y hy
        simpa using hall y hy
      by_cases heq : x.Req.Who = d.Req.Who
      · have hngt : ¬ d.Req.Who < x.Req.Who := by omega
        rw [show putStep d (o, false) x = (o ++ [d], true) from by unfold putStep; simp [hge, heq], putAfter d hall]
        simp [hlt, hngt, hf1, hf2]
      · have hgt : d.Req.Who < x.Req.Who := by omega
        have hne : (x.Req.Who != d.Req.Who) = true := by simpa using heq
        rw [show putStep d (o, false) x = ((o ++ [d]) ++ [x], true) from by unfold putStep; simp [hge, hne], putAfter d hall]
        simp [hlt, hgt, hf1, hf2]
theorem putDone_eq {l : List TDone} (d : TDone) (h : Sorted l) : putDone l d = l.filter (fun x => decide (x.Req.Who < d.Req.Who)) ++ d :: l.filter (fun x => decide (d.Req.Who < x.Req.Who)) := by
  have := putDone_cons d (o := []) h
  simpa [putDone] using this
theorem putDone_sorted {l : List TDone} (d : TDone) (h : Sorted l) : Sorted (putDone l d) := by
  rw [putDone_eq d h]
  unfold Sorted
  rw [List.pairwise_append, List.pairwise_cons]
  refine ⟨h.filter _, ⟨fun y hy => by simpa using (List.mem_filter.1 hy).2, h.filter _⟩, fun a ha b hb => ?_⟩
  have h1 : a.Req.Who < d.Req.Who := by simpa using (List.mem_filter.1 ha).2
  rcases List.mem_cons.1 hb with rfl | hb
  · exact h1
  · have h2 : d.Req.Who < b.Req.Who := by simpa using (List.mem_filter.1 hb).2
    omega
theorem putDone_mem {l : List TDone} {d x : TDone} (h : Sorted l) (hx : x ∈ putDone l d) : x ∈ l ∨ x = d := by
  rw [putDone_eq d h] at hx
  rcases List.mem_append.1 hx with hx | hx
  · exact .inl (List.mem_filter.1 hx).1
  · rcases List.mem_cons.1 hx with rfl | hx
    · exact .inr rfl
    · exact .inl (List.mem_filter.1 hx).1
theorem putDone_len {l : List TDone} (d : TDone) (h : Sorted l) : (putDone l d).length ≤ l.length + 1 := by
  rw [putDone_eq d h]
  have : (l.filter fun x => decide (x.Req.Who < d.Req.Who)).length + (l.filter fun x => decide (d.Req.Who < x.Req.Who)).length ≤ l.length := by
    clear h
    induction l with
    | nil => simp
    | cons x l ih =>
      by_cases h1 : x.Req.Who < d.Req.Who
      · have h2 : ¬ d.Req.Who < x.Req.Who := by omega
        simp [h1, h2]; omega
      · by_cases h2 : d.Req.Who < x.Req.Who
        · simp [h1, h2]; omega
        · simp [h1, h2]; omega
  simp only [List.length_append, List.length_cons]
  omega

/-- What there is behind k entries. -/
structure Inv (s : TState) (k : Nat) : Prop where
  at_ : s.At = (k : Int)
  le : k ≤ 40
  boxes : boxesOk s.Boxes = true
  sorted : Sorted s.Dones
  dones : ∀ d ∈ s.Dones, doneOk d = true
  len : s.Dones.length ≤ k
theorem Inv.fits {s : TState} {k : Nat} (h : Inv s k) : Fits s.Dones := by
  have := h.len
  have := h.le
  unfold Fits
  omega

theorem app1_fits {α : Type} {o : List α} {d : α} (h : o.length ≤ 80) : ((o ++ [d]).length + 1) * 32 ≤ 140737488355328 := by
  rw [show (o ++ [d]).length = o.length + 1 from by simp]
  omega
theorem specPut_eq {l : List TDone} {d : TDone} (hl : l.length ≤ 40) : spec_l5Put l d = some (putDone l d) := by
  have hf : Fits l := by unfold Fits; omega
  have hlen : ∀ k, k ≤ l.length → ((l.take k).foldl (putStep d) ([], false)).1.length ≤ 80 := by
    intro k hk
    have := putFold_len d (l.take k) ([], false)
    simp only [List.length_nil, List.length_take] at this
    omega
  unfold spec_l5Put
  have hloop := loop_to (body := fun s : (List TDone) × Bool × Int => spec_l5Put_b1 l d s.1 s.2.1 s.2.2) (fun k => (((l.take k).foldl (putStep d) ([], false)).1, ((l.take k).foldl (putStep d) ([], false)).2, (k : Int))) l.length (by
    intro k hk
    have hb := hlen k (by omega)
    rw [List.take_succ_eq_append_getElem hk, List.foldl_append]
    generalize (l.take k).foldl (putStep d) ([], false) = st at hb
    obtain ⟨o, i⟩ := st
    simp only at hb
    simp only [List.foldl_cons, List.foldl_nil]
    unfold spec_l5Put_b1 spec_l5Put_j3 spec_l5Put_j2 putStep
    rw [lt_len _ k hk, idx_lt hk, w64_next hf hk]
    have n1 : (o.length + 1) * 32 ≤ 140737488355328 := by omega
    have n2 : ((o ++ [d]).length + 1) * 32 ≤ 140737488355328 := app1_fits (by omega)
    cases i <;> cases h1 : decide (l[k].Req.Who ≥ d.Req.Who) <;> cases h2 : l[k].Req.Who != d.Req.Who <;> simp only [h1, h2, need_pos n1, need_pos n2, cond_true, cond_false, Option.bind_some, Exc.go, Bool.not_true, Bool.not_false, Bool.true_and, Bool.false_and])
  simp only [List.take_zero, List.foldl_nil, List.take_length] at hloop
  rw [show ((0 : Nat) : Int) = 0 from rfl] at hloop
  rw [hloop, loop_brk (b := l.foldl (putStep d) ([], false))]
  · have hb := hlen l.length (Nat.le_refl _)
    rw [List.take_length] at hb
    unfold spec_l5Put_k3 spec_l5Put_j1 putDone
    generalize l.foldl (putStep d) ([], false) = st at hb
    obtain ⟨o, i⟩ := st
    have n1 : (o.length + 1) * 32 ≤ 140737488355328 := by simp only at hb; omega
    cases i <;> simp only [need_pos n1, cond_true, cond_false, Option.bind_some, Exc.go, Bool.not_true, Bool.not_false]
  · unfold spec_l5Put_b1
    rw [nlt_len]; rfl

/-! ### An entry done -/
def applyFresh (s : TState) (e : TEntry) : TState × Int :=
  bif fresh s.Boxes e.Run then
    (bif e.Run.Code == 0 then (⟨s.At + 1, doPuts s.Boxes e.Run.Puts, putDone s.Dones ⟨e.Req, 0, e.Run.Val⟩⟩, 0)
    else (⟨s.At + 1, s.Boxes, putDone s.Dones ⟨e.Req, 2, 0⟩⟩, 2))
  else (⟨s.At + 1, s.Boxes, putDone s.Dones ⟨e.Req, 1, 0⟩⟩, 1)
def apply (s : TState) (e : TEntry) : TState × Int :=
  bif e.None then (⟨s.At + 1, s.Boxes, s.Dones⟩, 5) else
  match s.Dones.find? (fun d => d.Req.Who == e.Req.Who) with
  | some d => bif d.Req.Seq == e.Req.Seq then (⟨s.At + 1, s.Boxes, s.Dones⟩, 3) else bif decide (d.Req.Seq > e.Req.Seq) then (⟨s.At + 1, s.Boxes, s.Dones⟩, 4) else applyFresh s e
  | none => applyFresh s e
theorem entryOk_some {e : TEntry} (h : entryOk e = true) (hn : e.None = false) : (0 ≤ e.Req.Who ∧ e.Req.Who ≤ 2) ∧ (1 ≤ e.Req.Seq ∧ e.Req.Seq ≤ 1000) ∧ runOk e.Run = true ∧ e.Run.Code ≠ 3 := by
  unfold entryOk at h
  rw [hn] at h
  simp [inR] at h
  exact ⟨h.1.1, h.1.2, h.2.1, h.2.2⟩
theorem specLast_eq {s : TState} (h : Fits s.Dones) (who : Int) : spec_l5Last s who = some (match s.Dones.find? (fun d => d.Req.Who == who) with | some d => (d, true) | none => (⟨⟨0, 0⟩, 0, 0⟩, false)) := by
  unfold spec_l5Last
  rw [find_loop s.Dones h (fun d => d.Req.Who == who) (fun d => (d, true)) ()]
  · cases s.Dones.find? fun d => d.Req.Who == who <;> rfl
  · intro k hk
    unfold spec_l5Last_b1
    rw [lt_len _ k hk, idx_lt hk]
    simp only [cond_true, Option.bind_some]
    cases s.Dones[k].Req.Who == who <;> rfl
  · unfold spec_l5Last_b1
    rw [nlt_len]; rfl
theorem specApply_eq {s : TState} {k : Nat} {e : TEntry} (hs : Inv s k) (hk : k < 40) (he : entryOk e = true) (hf : fEntry e) : spec_l5Apply s e = some (apply s e) := by
  have hw : w64 (s.At + 1) = s.At + 1 := by rw [hs.at_]; exact w64_in (by omega) (by omega)
  unfold spec_l5Apply apply
  rw [hw, specLast_eq (s := ⟨s.At + 1, s.Boxes, s.Dones⟩) hs.fits]
  cases hn : e.None
  case true => rfl
  obtain ⟨_, _, hr, hc3⟩ := entryOk_some he hn
  have hp : ∀ p ∈ e.Run.Puts, putFine p := (runOk_parts hr).2.2.2.2
  have hfr : spec_l5Apply_j3 s e = some (applyFresh s e) := by
    unfold spec_l5Apply_j3 spec_l5Apply_j2 spec_l5Apply_j1 applyFresh
    simp only [specFresh_eq (boxesOk_fits hs.boxes) hf.2, hs.boxes, hr, Bool.true_and, Option.bind_some, hw, specPut_eq (Nat.le_trans hs.len (by omega)), specDo_eq hs.boxes hf.2 hp]
    cases fresh s.Boxes e.Run
    · rfl
    · cases e.Run.Code == 0 <;> rfl
  simp only [cond_false, Option.bind_some, hfr]
  cases hfd : s.Dones.find? fun d => d.Req.Who == e.Req.Who with
  | none => rfl
  | some d =>
    have hwho : d.Req.Who = e.Req.Who := by simpa using List.find?_some hfd
    have hq : (([d.Req.Who, d.Req.Seq] : List Int) == [e.Req.Who, e.Req.Seq]) = (d.Req.Seq == e.Req.Seq) := by
      rw [hwho]; simp
    simp only [hq, cond_true]
    cases d.Req.Seq == e.Req.Seq
    · cases decide (d.Req.Seq > e.Req.Seq) <;> rfl
    · rfl
theorem find_seq {l : List TDone} (h : Sorted l) (who seq : Int) : l.find? (fun d => d.Req.Who == who && decide (d.Req.Seq ≥ seq)) = match l.find? (fun d => d.Req.Who == who) with
    | some d => bif decide (d.Req.Seq ≥ seq) then some d else none
    | none => none := by
  induction l with
  | nil => rfl
  | cons x l ih =>
    obtain ⟨h1, h2⟩ := List.pairwise_cons.1 h
    rw [List.find?_cons, List.find?_cons]
    cases hx : x.Req.Who == who with
    | false => simpa using ih h2
    | true =>
      cases hs : decide (x.Req.Seq ≥ seq) with
      | true => simp [hs]
      | false =>
        simp only [Bool.and_false, hs, cond_false]
        rw [List.find?_eq_none]
        intro y hy
        have := h1 y hy
        have hx' : x.Req.Who = who := by simpa using hx
        simp
        intro hyw
        omega
theorem implCertOk_eq {s : TState} {k : Nat} (hs : Inv s k) : impl_CertOk s = some true := by
  unfold impl_CertOk
  have hloop := loop_to (body := fun v : Int => impl_CertOk_b1 s v) (fun j => (j : Int)) s.Dones.length (by
    intro j hj
    have hd := hs.dones _ (List.getElem_mem hj)
    unfold doneOk at hd
    simp only [Bool.and_eq_true, Bool.or_eq_true] at hd
    obtain ⟨⟨d1, d2⟩, d3, d4, d5⟩ := hd
    unfold impl_CertOk_b1 impl_CertOk_j1
    rw [lt_len _ j hj, idx_lt hj, w64_next hs.fits hj]
    simp only [cond_true, Option.bind_some, reqOk_eq, in_eq, d1, d2, d3, d4, Bool.and_true, Bool.not_true, cond_false]
    cases j with
    | zero =>
      rw [show decide (((0 : Nat) : Int) > 0) = false from by decide]
      simp only [cond_false]
      unfold bne
      rcases d5 with d5 | d5 <;> simp [d5, Exc.go, Option.bind]
    | succ j =>
      have hlt : (s.Dones[j]'(by omega)).Req.Who < s.Dones[j + 1].Req.Who := List.pairwise_iff_getElem.1 hs.sorted j (j + 1) (by omega) hj (by omega)
      have hge : ¬ (s.Dones[j]'(by omega)).Req.Who ≥ s.Dones[j + 1].Req.Who := by omega
      have hle := hs.fits
      unfold Fits at hle
      rw [show w64 (((j + 1 : Nat) : Int) - 1) = (j : Int) from by rw [w64_in (by omega) (by omega)]; omega, idx_lt (show j < s.Dones.length by omega)]
      have hpos : decide (((j + 1 : Nat) : Int) > 0) = true := by simp
      simp only [hpos, cond_true, Option.bind_some, hge, decide_false, cond_false]
      unfold bne
      rcases d5 with d5 | d5 <;> simp [d5, Exc.go, Option.bind])
  rw [show ((0 : Nat) : Int) = 0 from rfl] at hloop
  rw [hloop, loop_brk (b := ())]
  · unfold impl_CertOk_k2
    have := hs.le
    have ha : inR s.At 0 40 = true := by rw [hs.at_]; simp [inR]; omega
    simp [Exc.go, in_eq, ha, implBoxOk_eq (boxesOk_fits hs.boxes), hs.boxes]
  · unfold impl_CertOk_b1
    rw [nlt_len]; rfl
theorem implPut_eq {s : TState} {own : TDone} {bx : List TBox} (hl : s.Dones.length ≤ 40) (hw : w64 (s.At + 1) = s.At + 1) (hd : Sorted s.Dones) : impl_CertApply_j4 s own bx = some (⟨s.At + 1, bx, putDone s.Dones own⟩, own.Code) := by
  have hf : Fits s.Dones := by unfold Fits; omega
  have hlen : ∀ k, k ≤ s.Dones.length → ((s.Dones.take k).foldl (putStep own) ([], false)).1.length ≤ 80 := by
    intro k hk
    have := putFold_len own (s.Dones.take k) ([], false)
    simp only [List.length_nil, List.length_take] at this
    omega
  unfold impl_CertApply_j4
  have hloop := loop_to (body := fun x : (List TDone) × Int × Bool => impl_CertApply_b1 s own x.1 x.2.1 x.2.2) (fun k => (((s.Dones.take k).foldl (putStep own) ([], false)).1, (k : Int), ((s.Dones.take k).foldl (putStep own) ([], false)).2)) s.Dones.length (by
    intro k hk
    have hb := hlen k (by omega)
    rw [List.take_succ_eq_append_getElem hk, List.foldl_append]
    generalize (s.Dones.take k).foldl (putStep own) ([], false) = st at hb
    obtain ⟨o, i⟩ := st
    simp only at hb
    simp only [List.foldl_cons, List.foldl_nil]
    unfold impl_CertApply_b1 impl_CertApply_j3 impl_CertApply_j2 putStep
    rw [lt_len _ k hk, idx_lt hk, w64_next hf hk]
    have n1 : (o.length + 1) * 32 ≤ 140737488355328 := by omega
    have n2 : ((o ++ [own]).length + 1) * 32 ≤ 140737488355328 := app1_fits (by omega)
    cases i <;> cases h1 : decide (s.Dones[k].Req.Who ≥ own.Req.Who) <;> cases h2 : s.Dones[k].Req.Who != own.Req.Who <;> simp only [h1, h2, need_pos n1, need_pos n2, cond_true, cond_false, Option.bind_some, Exc.go, Bool.not_true, Bool.not_false, Bool.true_and, Bool.false_and])
  simp only [List.take_zero, List.foldl_nil, List.take_length] at hloop
  rw [show ((0 : Nat) : Int) = 0 from rfl] at hloop
  rw [hloop, loop_brk (b := s.Dones.foldl (putStep own) ([], false))]
  · have hb := hlen s.Dones.length (Nat.le_refl _)
    rw [List.take_length] at hb
    have hpl := putDone_len own hd
    have hcp : impl_copied_Done (putDone s.Dones own) = some (putDone s.Dones own) := copiedDone_eq (by omega)
    unfold impl_CertApply_k5 impl_CertApply_j1
    unfold putDone at hcp ⊢
    generalize s.Dones.foldl (putStep own) ([], false) = st at hb hcp
    obtain ⟨o, i⟩ := st
    have n1 : (o.length + 1) * 32 ≤ 140737488355328 := by simp only at hb; omega
    cases i <;> simp only [need_pos n1, cond_true, cond_false, Option.bind_some, Exc.go, Bool.not_true, Bool.not_false, hw] at hcp ⊢ <;> rw [hcp] <;> rfl
  · unfold impl_CertApply_b1
    rw [nlt_len]; rfl
theorem implApply_eq {s : TState} {k : Nat} {e : TEntry} (hs : Inv s k) (hk : k < 40) (he : entryOk e = true) (hf : fEntry e) : impl_CertApply s e = some (apply s e) := by
  have hw : w64 (s.At + 1) = s.At + 1 := by rw [hs.at_]; exact w64_in (by omega) (by omega)
  have hl := hs.len
  have hcd : impl_copied_Done s.Dones = some s.Dones := copiedDone_eq (by omega)
  have hcb : impl_copied_Box s.Boxes = some s.Boxes := copiedBox_eq (by rw [boxesOk_len hs.boxes]; decide)
  have hat : (s.At == 40) = false := by rw [hs.at_]; simp; omega
  unfold impl_CertApply apply
  rw [implCertOk_eq hs, implEntry_eq hf, he]
  simp only [Option.bind_some, Bool.not_true, cond_false, hat, hcb, hcd, hw]
  cases hn : e.None
  case true => rfl
  obtain ⟨_, _, hr, hc3⟩ := entryOk_some he hn
  have hfr : impl_CertApply_k9 s e s.Boxes = some (applyFresh s e) := by
    unfold impl_CertApply_k9 applyFresh
    simp only [implFresh_eq (boxesOk_fits hs.boxes) hf.2, hs.boxes, hr, Bool.true_and, Option.bind_some, implDo_eq hs.boxes hf.2 hr]
    cases fresh s.Boxes e.Run
    · simp only [Bool.not_false, cond_true, cond_false, Option.bind_some, Exc.go]
      exact implPut_eq (by omega) hw hs.sorted
    · unfold bne
      cases e.Run.Code == 0
      · simp only [Bool.not_false, Bool.not_true, cond_true, cond_false, Option.bind_some, Exc.go]
        exact implPut_eq (by omega) hw hs.sorted
      · simp only [Bool.not_true, cond_true, cond_false, Option.bind_some, Exc.go]
        exact implPut_eq (by omega) hw hs.sorted
  simp only [cond_false]
  rw [find_loop s.Dones hs.fits (fun d => d.Req.Who == e.Req.Who && decide (d.Req.Seq ≥ e.Req.Seq)) (fun d => (⟨s.At + 1, s.Boxes, s.Dones⟩, bif d.Req.Seq == e.Req.Seq then 3 else 4)) ()]
  · rw [find_seq hs.sorted]
    cases s.Dones.find? fun d => d.Req.Who == e.Req.Who with
    | none => simp only [Option.bind_some, Exc.go, hfr]
    | some d =>
      cases hq : d.Req.Seq == e.Req.Seq with
      | true =>
        have : d.Req.Seq ≥ e.Req.Seq := by
          have : d.Req.Seq = e.Req.Seq := by simpa using hq
          omega
        simp [this, Exc.go, hq]
      | false =>
        have hne : d.Req.Seq ≠ e.Req.Seq := by simpa using hq
        by_cases hg : d.Req.Seq > e.Req.Seq
        · have : d.Req.Seq ≥ e.Req.Seq := by omega
          simp [this, Exc.go, hg, hq]
        · have : ¬ d.Req.Seq ≥ e.Req.Seq := by omega
          simp [this, Exc.go, hg, hfr, hq]
  · intro j hj
    unfold impl_CertApply_b2 impl_CertApply_j5
    rw [lt_len _ j hj, idx_lt hj]
    simp only [cond_true, Option.bind_some, hcd, hw]
    cases h1 : s.Dones[j].Req.Who == e.Req.Who <;> cases h2 : decide (s.Dones[j].Req.Seq ≥ e.Req.Seq) <;> cases h3 : s.Dones[j].Req.Seq == e.Req.Seq <;> simp only [cond_true, cond_false, Option.bind_some, Exc.go, Bool.true_and, Bool.false_and, Bool.and_true, Bool.and_false]
  · unfold impl_CertApply_b2
    rw [nlt_len]; rfl

theorem applyFresh_inv {s : TState} {k : Nat} {e : TEntry} (hs : Inv s k) (hk : k < 40) (he : entryOk e = true) (hn : e.None = false) : Inv (applyFresh s e).1 (k + 1) ∧ 0 ≤ (applyFresh s e).2 ∧ (applyFresh s e).2 ≤ 5 := by
  obtain ⟨h1, h2, hr, hc3⟩ := entryOk_some he hn
  have hp := runOk_parts hr
  have hat : s.At + 1 = ((k + 1 : Nat) : Int) := by rw [hs.at_]; rfl
  have key : ∀ (bx : List TBox) (d : TDone), boxesOk bx = true → doneOk d = true → Inv ⟨s.At + 1, bx, putDone s.Dones d⟩ (k + 1) := fun bx d hb hd =>
    { at_ := hat, le := by omega, boxes := hb, sorted := putDone_sorted d hs.sorted
      dones := fun x hx => by
        rcases putDone_mem hs.sorted hx with hx | rfl
        · exact hs.dones x hx
        · exact hd
      len := by
        have := putDone_len d hs.sorted
        have := hs.len
        simp only
        omega }
  have hd0 : ∀ c : Int, 0 ≤ c → c ≤ 2 → doneOk ⟨e.Req, c, 0⟩ = true := by
    intro c c1 c2
    unfold doneOk inR
    simp
    omega
  have hd1 : doneOk ⟨e.Req, 0, e.Run.Val⟩ = true := by
    unfold doneOk inR
    simp
    omega
  unfold applyFresh
  cases fresh s.Boxes e.Run
  · exact ⟨key _ _ hs.boxes (hd0 1 (by decide) (by decide)), show (0 : Int) ≤ 1 from by decide, show (1 : Int) ≤ 5 from by decide⟩
  · cases e.Run.Code == 0
    · exact ⟨key _ _ hs.boxes (hd0 2 (by decide) (by decide)), show (0 : Int) ≤ 2 from by decide, show (2 : Int) ≤ 5 from by decide⟩
    · exact ⟨key _ _ (doPuts_ok hs.boxes hp.2.2.2.2) hd1, show (0 : Int) ≤ 0 from by decide, show (0 : Int) ≤ 5 from by decide⟩
theorem apply_inv {s : TState} {k : Nat} {e : TEntry} (hs : Inv s k) (hk : k < 40) (he : entryOk e = true) : Inv (apply s e).1 (k + 1) ∧ 0 ≤ (apply s e).2 ∧ (apply s e).2 ≤ 5 := by
  have hat : s.At + 1 = ((k + 1 : Nat) : Int) := by rw [hs.at_]; rfl
  have key : Inv ⟨s.At + 1, s.Boxes, s.Dones⟩ (k + 1) := { at_ := hat, le := by omega, boxes := hs.boxes, sorted := hs.sorted, dones := hs.dones, len := Nat.le_succ_of_le hs.len }
  unfold apply
  cases hn : e.None
  · have hfr := applyFresh_inv hs hk he hn
    simp only [cond_false]
    cases s.Dones.find? fun d => d.Req.Who == e.Req.Who with
    | none => exact hfr
    | some d =>
      simp only
      cases d.Req.Seq == e.Req.Seq
      · cases decide (d.Req.Seq > e.Req.Seq)
        · exact hfr
        · exact ⟨key, show (0 : Int) ≤ 4 from by decide, show (4 : Int) ≤ 5 from by decide⟩
      · exact ⟨key, show (0 : Int) ≤ 3 from by decide, show (3 : Int) ≤ 5 from by decide⟩
  · exact ⟨key, show (0 : Int) ≤ 5 from by decide, show (5 : Int) ≤ 5 from by decide⟩

/-! ### All entries, one behind the other -/
def start : TState := ⟨0, List.replicate 4 ⟨0, 0⟩, []⟩
theorem start_inv : Inv start 0 := { at_ := rfl, le := by omega, boxes := by decide, sorted := .nil, dones := by simp [start], len := by simp [start] }
theorem specOpen_eq : spec_CertOpen = some start := by
  unfold spec_CertOpen spec_BoxOpen
  rw [need_pos (by decide)]
  rfl
theorem implOpen_eq : impl_CertOpen = some start := by
  unfold impl_CertOpen impl_BoxOpen
  rw [need_pos (by decide)]
  rfl
def foldStep (st : TState × List Int) (e : TEntry) : TState × List Int := ((apply st.1 e).1, st.2 ++ [(apply st.1 e).2])
def folded (l : List TEntry) : TState × List Int := l.foldl foldStep (start, [])
theorem folded_take {l : List TEntry} {k : Nat} (hk : k < l.length) : folded (l.take (k + 1)) = foldStep (folded (l.take k)) l[k] := by
  unfold folded
  rw [List.take_succ_eq_append_getElem hk, List.foldl_append]
  rfl
theorem folded_inv {l : List TEntry} (hl : l.length ≤ 40) (he : l.all entryOk = true) : ∀ k, k ≤ l.length → Inv (folded (l.take k)).1 k ∧ (folded (l.take k)).2.length = k ∧ ∀ c ∈ (folded (l.take k)).2, 0 ≤ c ∧ c ≤ 5
  | 0, _ => by
    rw [List.take_zero]
    exact ⟨start_inv, rfl, by simp [folded]⟩
  | k + 1, hk => by
    obtain ⟨h1, h2, h3⟩ := folded_inv hl he k (by omega)
    have ha := apply_inv h1 (by omega) (List.all_eq_true.1 he _ (List.getElem_mem (show k < l.length by omega)))
    rw [folded_take (show k < l.length by omega)]
    refine ⟨ha.1, by simp [foldStep, h2], fun c hc => ?_⟩
    unfold foldStep at hc
    rcases List.mem_append.1 hc with hc | hc
    · exact h3 c hc
    · rw [List.mem_singleton] at hc
      rw [hc]
      exact ha.2
theorem listOk_parts {l : List TEntry} (h : listOk l = true) : l.length ≤ 40 ∧ l.all entryOk = true := by
  unfold listOk at h
  simpa using h
theorem implFolded_eq {l : List TEntry} (h : okL 88 fEntry l) (hl : l.length ≤ 40) (he : l.all entryOk = true) : impl_folded l = some (folded l) := by
  have hf : Fits l := h.fits (by decide)
  unfold impl_folded
  rw [implOpen_eq, Option.bind_some]
  first
  | (have hloop := loop_to (body := fun s : TState × (List Int) × Int => impl_folded_b1 l s.1 s.2.1 s.2.2) (fun k => ((folded (l.take k)).1, (folded (l.take k)).2, (k : Int))) l.length (by
       intro k hk
       obtain ⟨h1, h2, h3⟩ := folded_inv hl he k (by omega)
       have n1 : ((folded (l.take k)).2.length + 1) * 8 ≤ 140737488355328 := by rw [h2]; omega
       rw [folded_take hk]
       unfold impl_folded_b1
       rw [lt_len _ k hk, idx_lt hk, w64_next hf hk]
       simp only [cond_true, Option.bind_some]
       rw [implApply_eq h1 (by omega) (List.all_eq_true.1 he _ (List.getElem_mem hk)) (h.2 _ (List.getElem_mem hk)), Option.bind_some, need_pos n1]
       rfl)
     rw [List.take_zero, List.take_length] at hloop
     rw [show ((0 : Nat) : Int) = 0 from rfl] at hloop
     rw [show loop (fun s : TState × (List Int) × Int => impl_folded_b1 l s.1 s.2.1 s.2.2) (start, [], 0) = _ from hloop, loop_brk (b := folded l)]
     · rfl
     · unfold impl_folded_b1
       rw [nlt_len]; rfl
     done)
  | (have hloop := loop_to (body := fun s : (List TBox) × (List Int) × Int × Int × List TDone => impl_folded_b1 l s.1 s.2.1 s.2.2.1 s.2.2.2.1 s.2.2.2.2) (fun k => ((folded (l.take k)).1.Boxes, (folded (l.take k)).2, (k : Int), (folded (l.take k)).1.At, (folded (l.take k)).1.Dones)) l.length (by
       intro k hk
       obtain ⟨h1, h2, h3⟩ := folded_inv hl he k (by omega)
       have n1 : ((folded (l.take k)).2.length + 1) * 8 ≤ 140737488355328 := by rw [h2]; omega
       rw [folded_take hk]
       unfold impl_folded_b1
       rw [lt_len _ k hk, idx_lt hk, w64_next hf hk]
       simp only [cond_true, Option.bind_some]
       rw [show (⟨(folded (l.take k)).1.At, (folded (l.take k)).1.Boxes, (folded (l.take k)).1.Dones⟩ : TState) = (folded (l.take k)).1 from rfl, implApply_eq h1 (by omega) (List.all_eq_true.1 he _ (List.getElem_mem hk)) (h.2 _ (List.getElem_mem hk)), Option.bind_some, need_pos n1]
       rfl)
     rw [List.take_zero, List.take_length] at hloop
     rw [show ((0 : Nat) : Int) = 0 from rfl] at hloop
     rw [show loop (fun s : (List TBox) × (List Int) × Int × Int × List TDone => impl_folded_b1 l s.1 s.2.1 s.2.2.1 s.2.2.2.1 s.2.2.2.2) (start.Boxes, [], 0, start.At, start.Dones) = _ from hloop, loop_brk (b := ((folded l).1.Boxes, (folded l).2, (folded l).1.At, (folded l).1.Dones))]
     · rfl
     · unfold impl_folded_b1
       rw [nlt_len]; rfl
     done)
end Go.Proofs.YtggngdffdglolaaGreat

/- What is drawn: the reader, and a program run on boxes. -/
namespace Go.Proofs.YtggngdffdglolaaGreat
open Go

/-! ### The reader -/
theorem xor_range {x y : Int} (hx : 0 ≤ x) (hx2 : x < 4611686018427387904) (hy : 0 ≤ y) (hy2 : y < 4611686018427387904) : 0 ≤ xorI .i64 x y ∧ xorI .i64 x y < 4611686018427387904 := by
  obtain ⟨a, rfl⟩ : ∃ a : Nat, x = (a : Int) := ⟨x.toNat, by omega⟩
  obtain ⟨b, rfl⟩ : ∃ b : Nat, y = (b : Int) := ⟨y.toNat, by omega⟩
  have hxor : a ^^^ b < 2 ^ 62 := Nat.xor_lt_two_pow (by omega) (by omega)
  have h : xorI .i64 (a : Int) (b : Int) = ((a ^^^ b : Nat) : Int) := by
    unfold xorI
    rw [BitVec.toNat_xor]
    have e1 : (BitVec.ofInt IntKind.i64.bits (a : Int)).toNat = a := by
      show (BitVec.ofInt 64 (a : Int)).toNat = a
      rw [BitVec.toNat_ofInt]
      omega
    have e2 : (BitVec.ofInt IntKind.i64.bits (b : Int)).toNat = b := by
      show (BitVec.ofInt 64 (b : Int)).toNat = b
      rw [BitVec.toNat_ofInt]
      omega
    rw [e1, e2]
    exact IntWalk.i64_in _ ⟨by omega, by omega⟩
  rw [h]
  omega
theorem u8_at {l : List Int} (h : ∀ x ∈ l, okU8 x) {i : Int} (h0 : 0 ≤ i) (h1 : i < l.length) : ∃ y, idx l i = some y ∧ 0 ≤ y ∧ y ≤ 255 := by
  have hlt : i.toNat < l.length := by omega
  refine ⟨l[i.toNat], ?_, h _ (List.getElem_mem hlt)⟩
  unfold idx
  rw [if_pos h0, List.getElem?_eq_getElem hlt]
theorem tmod_range {x n : Int} (hx : 0 ≤ x) (hn : 1 ≤ n) : 0 ≤ Int.tmod x n ∧ Int.tmod x n < n := by
  rw [Int.tmod_eq_emod_of_nonneg hx]
  exact ⟨Int.emod_nonneg _ (by omega), Int.emod_lt_of_pos _ (by omega)⟩
theorem tdiv_range {x n : Int} (hx : 0 ≤ x) (hn : 1 ≤ n) : 0 ≤ Int.tdiv x n ∧ Int.tdiv x n ≤ x := by
  rw [Int.tdiv_eq_ediv_of_nonneg hx]
  exact ⟨Int.ediv_nonneg hx (by omega), Int.ediv_le_self _ hx⟩
/-! ### Programs -/
def insOk (i : TIns) : Bool :=
  bif i.Kind == 1 then inR i.A 0 3 && (inR i.B 0 3 && i.N == 0) else
  bif i.Kind == 2 then inR i.A 0 3 && (inR i.B 0 3 && i.N == 0) else
  bif i.Kind == 3 then inR i.A 0 3 && (i.B == 0 && inR i.N (-1000000) 1000000) else
  bif i.Kind == 4 then inR i.A 0 3 && (inR i.B 0 3 && i.N == 0) else
  bif i.Kind == 5 then inR i.A 0 3 && (inR i.B 0 3 && i.N == 0) else
  bif i.Kind == 6 then inR i.A 0 3 && (inR i.B 0 3 && inR i.N 1 10) else
  bif i.Kind == 7 then i.A == 0 && (i.B == 0 && i.N == 0) else false
theorem l2Reg_eq (n : Int) : spec_l2Reg n = some (inR n 0 3) := by
  rw [← in_eq]
  unfold spec_l2Reg impl_in
  have : (n < 4) = (n ≤ 3) := by apply propext; omega
  simp only [this]
theorem l2Ins_eq (i : TIns) : spec_l2Ins i = some (insOk i) := by
  unfold spec_l2Ins insOk
  have h6 : (bif decide (i.N ≥ 1) then some (decide (i.N ≤ 10)) else some false) = some (inR i.N 1 10) := by
    unfold inR
    by_cases h1 : i.N ≥ 1 <;> by_cases h2 : i.N ≤ 10 <;> simp [h1, h2] <;> omega
  simp only [l2Reg_eq, l2Box_eq, l1Num_eq, Option.bind_some, h6]
  cases i.Kind == 1 <;> cases i.Kind == 2 <;> cases i.Kind == 3 <;> cases i.Kind == 4 <;> cases i.Kind == 5 <;> cases i.Kind == 6 <;> cases i.Kind == 7 <;> cases inR i.A 0 3 <;> cases inR i.B 0 3 <;> cases i.A == 0 <;> cases i.B == 0 <;> rfl
def progOk (l : List TIns) : Bool := decide (l.length ≤ 10) && l.all insOk
theorem specProgOk_eq {l : List TIns} (h : Fits l) : spec_ProgOk l = some (progOk l) := by
  unfold spec_ProgOk progOk
  rw [show (10 : Int) = ((10 : Nat) : Int) from rfl, len_gt_n, all_loop l h insOk false ()]
  · cases decide (l.length ≤ 10)
    · rfl
    · cases l.all insOk <;> rfl
  · intro k hk
    unfold spec_ProgOk_b1
    rw [lt_len _ k hk, idx_lt hk]
    simp only [cond_true, Option.bind_some, l2Ins_eq]
    cases insOk l[k] <;> rfl
  · unfold spec_ProgOk_b1
    rw [nlt_len]; rfl
theorem insOk_parts {i : TIns} (h : insOk i = true) : (i.Kind = 1 ∧ (0 ≤ i.A ∧ i.A ≤ 3) ∧ (0 ≤ i.B ∧ i.B ≤ 3)) ∨ (i.Kind = 2 ∧ (0 ≤ i.A ∧ i.A ≤ 3) ∧ (0 ≤ i.B ∧ i.B ≤ 3)) ∨ (i.Kind = 3 ∧ (0 ≤ i.A ∧ i.A ≤ 3) ∧ (-1000000 ≤ i.N ∧ i.N ≤ 1000000)) ∨
    (i.Kind = 4 ∧ (0 ≤ i.A ∧ i.A ≤ 3) ∧ (0 ≤ i.B ∧ i.B ≤ 3)) ∨ (i.Kind = 5 ∧ (0 ≤ i.A ∧ i.A ≤ 3) ∧ (0 ≤ i.B ∧ i.B ≤ 3)) ∨ (i.Kind = 6 ∧ (0 ≤ i.A ∧ i.A ≤ 3) ∧ (0 ≤ i.B ∧ i.B ≤ 3) ∧ (1 ≤ i.N ∧ i.N ≤ 10)) ∨ (i.Kind = 7 ∧ i.A = 0) := by
  unfold insOk inR at h
  by_cases h1 : i.Kind = 1
  · simp [h1] at h; exact .inl ⟨h1, h.1, h.2.1⟩
  by_cases h2 : i.Kind = 2
  · simp [h2] at h; exact .inr (.inl ⟨h2, h.1, h.2.1⟩)
  by_cases h3 : i.Kind = 3
  · simp [h3] at h; exact .inr (.inr (.inl ⟨h3, h.1, h.2.2⟩))
  by_cases h4 : i.Kind = 4
  · simp [h4] at h; exact .inr (.inr (.inr (.inl ⟨h4, h.1, h.2.1⟩)))
  by_cases h5 : i.Kind = 5
  · simp [h5] at h; exact .inr (.inr (.inr (.inr (.inl ⟨h5, h.1, h.2.1⟩))))
  by_cases h6 : i.Kind = 6
  · simp [h6] at h; exact .inr (.inr (.inr (.inr (.inr (.inl ⟨h6, h.1, h.2.1, h.2.2⟩)))))
  by_cases h7 : i.Kind = 7
  · simp [h7] at h; exact .inr (.inr (.inr (.inr (.inr (.inr ⟨h7, h.1⟩)))))
  · have e1 : (i.Kind == 1) = false := by simpa using h1
    have e2 : (i.Kind == 2) = false := by simpa using h2
    have e3 : (i.Kind == 3) = false := by simpa using h3
    have e4 : (i.Kind == 4) = false := by simpa using h4
    have e5 : (i.Kind == 5) = false := by simpa using h5
    have e6 : (i.Kind == 6) = false := by simpa using h6
    have e7 : (i.Kind == 7) = false := by simpa using h7
    rw [e1, e2, e3, e4, e5, e6, e7] at h
    cases h
end Go.Proofs.YtggngdffdglolaaGreat

/- A program run on boxes (the document's side): what comes out is right. -/
namespace Go.Proofs.YtggngdffdglolaaGreat
open Go

/-! ### What is looked into, what is put -/
def allR (l : List TRead) : Bool := (List.range l.length).all (okReads l)
def allP (l : List TPut) : Bool := (List.range l.length).all (okPuts l)
def readFine (x : TRead) : Prop := 0 ≤ x.Box ∧ x.Box ≤ 3 ∧ 0 ≤ x.Ver ∧ x.Ver ≤ 1000000
theorem allR_iff {l : List TRead} : allR l = true ↔ (∀ x ∈ l, readFine x) ∧ l.Pairwise fun a b => a.Box ≠ b.Box := by
  unfold allR
  constructor
  · intro h
    refine ⟨okReads_mem h, ?_⟩
    rw [List.pairwise_iff_getElem]
    intro i j hi hj hij heq
    have := List.all_eq_true.1 h j (by simpa using hj)
    unfold okReads at this
    rw [List.getElem?_eq_getElem hj] at this
    simp only [Bool.and_eq_true, Bool.not_eq_true'] at this
    have hs := this.2.2
    unfold saw at hs
    rw [List.any_eq_false] at hs
    refine hs l[i] ?_ (by simpa using heq)
    rw [List.mem_take_iff_getElem]
    exact ⟨i, by omega, rfl⟩
  · rintro ⟨h1, h2⟩
    rw [List.all_eq_true]
    intro k hk
    have hk : k < l.length := by simpa using hk
    unfold okReads
    rw [List.getElem?_eq_getElem hk]
    have hf := h1 _ (List.getElem_mem hk)
    have hs : saw (l.take k) l[k].Box = false := by
      unfold saw
      rw [List.any_eq_false]
      intro x hx
      obtain ⟨i, hi, rfl⟩ := List.mem_take_iff_getElem.1 hx
      have := List.pairwise_iff_getElem.1 h2 i k (by omega) hk (by omega)
      simpa using this
    simp only [hs, Bool.not_false, Bool.and_true, Bool.and_eq_true]
    unfold readFine at hf
    exact ⟨by simp [inR]; omega, by simp [inR]; omega⟩
theorem allP_iff {l : List TPut} : allP l = true ↔ (∀ x ∈ l, putFine x) ∧ l.Pairwise fun a b => a.Box ≠ b.Box := by
  unfold allP
  constructor
  · intro h
    refine ⟨okPuts_mem h, ?_⟩
    rw [List.pairwise_iff_getElem]
    intro i j hi hj hij heq
    have := List.all_eq_true.1 h j (by simpa using hj)
    unfold okPuts at this
    rw [List.getElem?_eq_getElem hj] at this
    simp only [Bool.and_eq_true, Bool.not_eq_true'] at this
    have hs := this.2.2
    unfold sawP at hs
    rw [List.any_eq_false] at hs
    refine hs l[i] ?_ (by simpa using heq)
    rw [List.mem_take_iff_getElem]
    exact ⟨i, by omega, rfl⟩
  · rintro ⟨h1, h2⟩
    rw [List.all_eq_true]
    intro k hk
    have hk : k < l.length := by simpa using hk
    unfold okPuts
    rw [List.getElem?_eq_getElem hk]
    have hf := h1 _ (List.getElem_mem hk)
    have hs : sawP (l.take k) l[k].Box = false := by
      unfold sawP
      rw [List.any_eq_false]
      intro x hx
      obtain ⟨i, hi, rfl⟩ := List.mem_take_iff_getElem.1 hx
      have := List.pairwise_iff_getElem.1 h2 i k (by omega) hk (by omega)
      simpa using this
    simp only [hs, Bool.not_false, Bool.and_true, Bool.and_eq_true]
    unfold putFine at hf
    exact ⟨by simp [inR]; omega, by simp [inR]; omega⟩
theorem allR_app {l : List TRead} {x : TRead} (h : allR l = true) (hx : readFine x) (hs : saw l x.Box = false) : allR (l ++ [x]) = true := by
  rw [allR_iff] at h ⊢
  refine ⟨fun y hy => ?_, ?_⟩
  · rcases List.mem_append.1 hy with hy | hy
    · exact h.1 y hy
    · rw [List.mem_singleton.1 hy]; exact hx
  · rw [List.pairwise_append]
    refine ⟨h.2, by simp, fun a ha b hb => ?_⟩
    rw [List.mem_singleton.1 hb]
    unfold saw at hs
    rw [List.any_eq_false] at hs
    simpa using hs a ha
theorem allP_app {l : List TPut} {x : TPut} (h : allP l = true) (hx : putFine x) (hs : sawP l x.Box = false) : allP (l ++ [x]) = true := by
  rw [allP_iff] at h ⊢
  refine ⟨fun y hy => ?_, ?_⟩
  · rcases List.mem_append.1 hy with hy | hy
    · exact h.1 y hy
    · rw [List.mem_singleton.1 hy]; exact hx
  · rw [List.pairwise_append]
    refine ⟨h.2, by simp, fun a ha b hb => ?_⟩
    rw [List.mem_singleton.1 hb]
    unfold sawP at hs
    rw [List.any_eq_false] at hs
    simpa using hs a ha
theorem allP_set {l : List TPut} {k : Nat} {v : Int} (h : allP l = true) (hk : k < l.length) (hv : -1000000 ≤ v ∧ v ≤ 1000000) : allP (l.set k ⟨l[k].Box, v⟩) = true := by
  rw [allP_iff] at h ⊢
  refine ⟨fun y hy => ?_, ?_⟩
  · rcases List.mem_or_eq_of_mem_set hy with hy | rfl
    · exact h.1 y hy
    · have := h.1 _ (List.getElem_mem hk)
      exact ⟨this.1, this.2.1, hv⟩
  · rw [List.pairwise_iff_getElem]
    intro i j hi hj hij
    have hi' : i < l.length := by simpa using hi
    have hj' : j < l.length := by simpa using hj
    have hne := List.pairwise_iff_getElem.1 h.2 i j hi' hj' hij
    rw [List.getElem_set, List.getElem_set]
    split <;> split <;> simp_all
theorem runOk_iff (r : TRun) : runOk r = (inR r.Code 0 3 && (inR r.Val (-1000000) 1000000 && ((r.Code == 0 || (r.Val == 0 && r.Puts.length == 0)) && ((r.Code != 3 || r.Reads.length == 0) && (allR r.Reads && allP r.Puts))))) := rfl
/-- Where a box is put. -/
theorem l3At_pos {l : List TPut} (h : Fits l) (box : Int) : (spec_l3At l box = some (-1) ∧ sawP l box = false) ∨ ∃ k : Nat, spec_l3At l box = some (k : Int) ∧ ∃ hk : k < l.length, l[k].Box = box := by
  have hc := loop_chk (body := fun s : Int => spec_l3At_b1 l box s) (fun k => (k : Int)) l.length (fun k => match l[k]? with | some x => !(x.Box == box) | none => true) (fun k => (k : Int)) ()
    (fun k hk _ => by
      unfold spec_l3At_b1
      rw [lt_len l k hk, idx_lt hk, w64_next h hk]
      simp only [cond_true, Option.bind_some, List.getElem?_eq_getElem hk]
      cases l[k].Box == box <;> rfl) (fun _ => by unfold spec_l3At_b1; rw [nlt_len]; rfl)
  unfold spec_l3At
  rcases hc with ⟨h1, hall⟩ | ⟨k, hk, ho, _, h1⟩
  · left
    rw [show loop (fun s : Int => spec_l3At_b1 l box s) 0 = _ from h1]
    refine ⟨rfl, ?_⟩
    unfold sawP
    rw [List.any_eq_false]
    intro x hx
    obtain ⟨i, hi, rfl⟩ := List.getElem_of_mem hx
    have := hall i hi
    simpa [List.getElem?_eq_getElem hi] using this
  · right
    rw [show loop (fun s : Int => spec_l3At_b1 l box s) 0 = _ from h1]
    refine ⟨k, rfl, hk, ?_⟩
    simpa [List.getElem?_eq_getElem hk] using ho

/-! ### One step -/
def inV (v : Int) : Prop := -1000000 ≤ v ∧ v ≤ 1000000
def regsOk (regs : List Int) : Prop := regs.length = 4 ∧ ∀ v ∈ regs, inV v
theorem reg_at {regs : List Int} (h : regs.length = 4) {a : Int} (ha : 0 ≤ a ∧ a ≤ 3) : ∃ v, idx regs a = some v ∧ v ∈ regs := by
  have hlt : a.toNat < regs.length := by omega
  refine ⟨regs[a.toNat], ?_, List.getElem_mem hlt⟩
  unfold idx
  rw [if_pos ha.1, List.getElem?_eq_getElem hlt]
theorem reg_set {regs : List Int} {a : Nat} {v w : Int} (h : w ∈ regs.set a v) : w ∈ regs ∨ w = v := List.mem_or_eq_of_mem_set h
/-- A run under way. -/
structure Way (r : TRun) (n : Nat) : Prop where
  val : r.Val = 0
  reads : allR r.Reads = true
  puts : allP r.Puts = true
  rlen : r.Reads.length ≤ n
  plen : r.Puts.length ≤ n
theorem Way.fitsR {r : TRun} {n : Nat} (h : Way r n) (hn : n ≤ 100) : Fits r.Reads := by
  have := h.rlen
  unfold Fits; omega
theorem Way.fitsP {r : TRun} {n : Nat} (h : Way r n) (hn : n ≤ 100) : Fits r.Puts := by
  have := h.plen
  unfold Fits; omega
theorem look_ok {l : List TBox} {r : TRun} {n : Nat} {box : Int} (hl : boxesOk l = true) (hr : Way r n) (hn : n ≤ 100) (hb : 0 ≤ box ∧ box ≤ 3) : ∃ v r', spec_l3Look l r box = some (v, r') ∧ Way r' (n + 1) ∧ r'.Code = r.Code ∧ inV v := by
  have hp := (allP_iff.1 hr.puts).1
  unfold spec_l3Look
  rcases l3At_pos (hr.fitsP hn) box with ⟨h1, h2⟩ | ⟨k, h1, hk, h2⟩
  · rw [h1, Option.bind_some, show decide ((-1 : Int) ≥ 0) = false from by decide, cond_false, l3Saw_eq (hr.fitsR hn), Option.bind_some]
    obtain ⟨b, b1, b2, b3⟩ := box_at hl hb
    rw [boxFine_iff] at b3
    cases hs : saw r.Reads box
    · simp only [Bool.not_false, cond_true, b1, Option.bind_some]
      have n1 : (r.Reads.length + 1) * 16 ≤ 140737488355328 := by have := hr.rlen; omega
      simp only [need_pos n1, Option.bind_some, Exc.go]
      unfold spec_l3Look_j1
      rw [b1, Option.bind_some]
      refine ⟨_, _, rfl, ⟨hr.val, allR_app hr.reads ⟨hb.1, hb.2, b3.1⟩ hs, hr.puts, ?_, ?_⟩, rfl, b3.2⟩
      · have := hr.rlen
        simp
        omega
      · have := hr.plen
        simp only
        omega
    · simp only [Bool.not_true, cond_false, Option.bind_some, Exc.go]
      unfold spec_l3Look_j1
      rw [b1, Option.bind_some]
      refine ⟨_, _, rfl, ⟨hr.val, hr.reads, hr.puts, ?_, ?_⟩, rfl, b3.2⟩
      · have := hr.rlen
        simp only
        omega
      · have := hr.plen
        simp only
        omega
  · rw [h1, Option.bind_some, show decide (((k : Nat) : Int) ≥ 0) = true from by simp, cond_true, idx_lt hk, Option.bind_some]
    have hf := hp _ (List.getElem_mem hk)
    exact ⟨_, _, rfl, ⟨hr.val, hr.reads, hr.puts, Nat.le_succ_of_le hr.rlen, Nat.le_succ_of_le hr.plen⟩, rfl, hf.2.2⟩
theorem put_ok {r : TRun} {n : Nat} {box v : Int} (hr : Way r n) (hn : n ≤ 100) (hb : 0 ≤ box ∧ box ≤ 3) (hv : inV v) : ∃ r', spec_l3Put r box v = some r' ∧ Way r' (n + 1) ∧ r'.Code = r.Code := by
  unfold spec_l3Put
  rcases l3At_pos (hr.fitsP hn) box with ⟨h1, h2⟩ | ⟨k, h1, hk, h2⟩
  · rw [h1, Option.bind_some, show decide ((-1 : Int) ≥ 0) = false from by decide, cond_false]
    have n1 : (r.Puts.length + 1) * 16 ≤ 140737488355328 := by have := hr.plen; omega
    rw [need_pos n1]
    refine ⟨_, rfl, ⟨hr.val, hr.reads, allP_app hr.puts ⟨hb.1, hb.2, hv⟩ h2, ?_, ?_⟩, rfl⟩
    · have := hr.rlen
      simp only
      omega
    · have := hr.plen
      simp
      omega
  · rw [h1, Option.bind_some, show decide (((k : Nat) : Int) ≥ 0) = true from by simp, cond_true, idx_lt hk, Option.bind_some]
    refine ⟨_, rfl, ⟨hr.val, hr.reads, ?_, Nat.le_succ_of_le hr.rlen, ?_⟩, rfl⟩
    · simp only [Int.toNat_natCast]
      exact allP_set hr.puts hk hv
    · have := hr.plen
      simp
      omega
theorem step_ok {l : List TBox} {r : TRun} {n : Nat} {regs : List Int} {i : TIns} (hl : boxesOk l = true) (hr : Way r n) (hn : n ≤ 100) (hc : r.Code = 0) (hg : regsOk regs) (hi : insOk i = true) (h6 : i.Kind ≠ 6) :
    ∃ r' regs', spec_l3Step l r regs i = some (r', regs') ∧ Way r' (n + 1) ∧ regs'.length = 4 ∧ (r'.Code = 0 ∨ r'.Code = 1 ∨ r'.Code = 2) ∧ (r'.Code = 0 → regsOk regs') := by
  have hend : ∀ (regs' : List Int) (r' : TRun), Way r' (n + 1) → (r'.Code = 0 ∨ r'.Code = 1) → regs'.length = 4 → i.Kind ≠ 2 → (0 ≤ i.A ∧ i.A ≤ 3) → (∀ v, idx regs' i.A = some v → inV v → regsOk regs') →
      ∃ r2 regs2, spec_l3Step_j2 i regs' r'.Reads r'.Puts r'.Val r'.Code = some (r2, regs2) ∧ Way r2 (n + 1) ∧ regs2.length = 4 ∧ (r2.Code = 0 ∨ r2.Code = 1 ∨ r2.Code = 2) ∧ (r2.Code = 0 → regsOk regs2) := by
    intro regs' r' w1 w2 w3 w4 w5 w6
    obtain ⟨v, v1, v2⟩ := reg_at w3 w5
    have hk : (i.Kind != 2) = true := by simpa using w4
    unfold spec_l3Step_j2 spec_l3Step_j1
    rw [hk, cond_true, v1, Option.bind_some, l1Num_eq, Option.bind_some]
    cases hv : inR v (-1000000) 1000000
    · simp only [Bool.not_false, cond_true, Option.bind_some, Exc.go]
      exact ⟨_, _, rfl, ⟨w1.val, w1.reads, w1.puts, w1.rlen, w1.plen⟩, w3, .inr (.inr rfl), fun h => absurd h (show ¬ (2 : Int) = 0 from by decide)⟩
    · simp only [Bool.not_true, cond_false, Option.bind_some, Exc.go]
      have hv' : inV v := by simpa [inR, inV] using hv
      refine ⟨_, _, rfl, ⟨w1.val, w1.reads, w1.puts, w1.rlen, w1.plen⟩, w3, ?_, fun _ => w6 v v1 hv'⟩
      rcases w2 with w2 | w2
      · exact .inl w2
      · exact .inr (.inl w2)
  have hset : ∀ (a : Int) (x : Int), (0 ≤ a ∧ a ≤ 3) → (regs.set a.toNat x).length = 4 ∧ ∀ v, idx (regs.set a.toNat x) a = some v → inV v → regsOk (regs.set a.toNat x) := by
    intro a x ha
    have hlt : a.toNat < regs.length := by have := hg.1; omega
    refine ⟨by simpa using hg.1, fun v hv hin => ⟨by simpa using hg.1, fun w hw => ?_⟩⟩
    rcases reg_set hw with hw | rfl
    · exact hg.2 w hw
    · unfold idx at hv
      rw [if_pos ha.1, List.getElem?_set_self hlt] at hv
      injection hv with hv
      subst hv
      exact hin
  have hw1 : Way r (n + 1) := ⟨hr.val, hr.reads, hr.puts, Nat.le_succ_of_le hr.rlen, Nat.le_succ_of_le hr.plen⟩
  unfold spec_l3Step
  rcases insOk_parts hi with ⟨k, ha, hb⟩ | ⟨k, ha, hb⟩ | ⟨k, ha, hN⟩ | ⟨k, ha, hb⟩ | ⟨k, ha, hb⟩ | ⟨k, _⟩ | ⟨k, ha⟩
  · obtain ⟨v, r', q1, q2, q3, q4⟩ := look_ok hl hr hn hb
    obtain ⟨y, y1, _⟩ := reg_at hg.1 ha
    simp only [k, q1, y1, beq_self_eq_true, cond_true, Option.bind_some, Exc.go]
    exact hend _ r' q2 (.inl (q3.trans hc)) (hset i.A v ha).1 (by omega) ha (hset i.A v ha).2
  · obtain ⟨y, y1, y2⟩ := reg_at hg.1 hb
    obtain ⟨r', q1, q2, q3⟩ := put_ok hr hn ha (hg.2 y y2)
    have e1 : ((2 : Int) == 1) = false := by decide
    simp only [k, e1, y1, q1, beq_self_eq_true, cond_true, cond_false, Option.bind_some, Exc.go]
    unfold spec_l3Step_j2 spec_l3Step_j1
    simp only [k, bne_self_eq_false, cond_false, Option.bind_some, Exc.go]
    exact ⟨_, _, rfl, ⟨q2.val, q2.reads, q2.puts, q2.rlen, q2.plen⟩, hg.1, .inl (q3.trans hc), fun _ => hg⟩
  · obtain ⟨y, y1, _⟩ := reg_at hg.1 ha
    have e1 : ((3 : Int) == 1) = false := by decide
    have e2 : ((3 : Int) == 2) = false := by decide
    simp only [k, e1, e2, y1, beq_self_eq_true, cond_true, cond_false, Option.bind_some, Exc.go]
    exact hend _ r hw1 (.inl hc) (hset i.A i.N ha).1 (by omega) ha (hset i.A i.N ha).2
  · obtain ⟨y, y1, _⟩ := reg_at hg.1 ha
    obtain ⟨z, z1, _⟩ := reg_at hg.1 hb
    have e1 : ((4 : Int) == 1) = false := by decide
    have e2 : ((4 : Int) == 2) = false := by decide
    have e3 : ((4 : Int) == 3) = false := by decide
    simp only [k, e1, e2, e3, y1, z1, beq_self_eq_true, cond_true, cond_false, Option.bind_some, Exc.go]
    exact hend _ r hw1 (.inl hc) (hset i.A _ ha).1 (by omega) ha (hset i.A _ ha).2
  · obtain ⟨y, y1, _⟩ := reg_at hg.1 ha
    obtain ⟨z, z1, _⟩ := reg_at hg.1 hb
    have e1 : ((5 : Int) == 1) = false := by decide
    have e2 : ((5 : Int) == 2) = false := by decide
    have e3 : ((5 : Int) == 3) = false := by decide
    have e4 : ((5 : Int) == 4) = false := by decide
    simp only [k, e1, e2, e3, e4, y1, z1, beq_self_eq_true, cond_true, cond_false, Option.bind_some, Exc.go]
    exact hend _ r hw1 (.inl hc) (hset i.A _ ha).1 (by omega) ha (hset i.A _ ha).2
  · exact absurd k h6
  · have e1 : ((7 : Int) == 1) = false := by decide
    have e2 : ((7 : Int) == 2) = false := by decide
    have e3 : ((7 : Int) == 3) = false := by decide
    have e4 : ((7 : Int) == 4) = false := by decide
    have e5 : ((7 : Int) == 5) = false := by decide
    simp only [k, e1, e2, e3, e4, e5, beq_self_eq_true, cond_true, cond_false, Option.bind_some, Exc.go]
    have := hend regs ⟨r.Reads, r.Puts, r.Val, 1⟩ ⟨hw1.val, hw1.reads, hw1.puts, hw1.rlen, hw1.plen⟩ (.inr rfl) hg.1 (by omega) ⟨by omega, by omega⟩ (fun _ _ _ => hg)
    exact this

/-! ### All steps -/
/-- A run that came out of a program. -/
structure Ran (r : TRun) : Prop where
  ok : runOk r = true
  rlen : r.Reads.length ≤ 40
  plen : r.Puts.length ≤ 40
theorem way_ran {r : TRun} {n : Nat} (h : Way r n) (hn : n ≤ 40) (hc : r.Code = 0 ∨ r.Code = 1 ∨ r.Code = 2) {v : Int} (hv : r.Code = 0 → inV v) : Ran ⟨r.Reads, bif r.Code != 0 then [] else r.Puts, bif r.Code != 0 then r.Val else v, r.Code⟩ := by
  have h1 := h.rlen
  have h2 := h.plen
  have hR := h.reads
  have hP := h.puts
  have hP0 : allP [] = true := rfl
  rcases hc with hc | hc | hc
  · have hv := hv hc
    unfold inV at hv
    refine ⟨?_, by simp only; omega, by simp only [hc]; simp; omega⟩
    rw [runOk_iff]
    simp [hc, hR, hP, inR, hv]
  · refine ⟨?_, by simp only; omega, by simp [hc]⟩
    rw [runOk_iff]
    simp [hc, hR, hP0, inR, h.val]
  · refine ⟨?_, by simp only; omega, by simp [hc]⟩
    rw [runOk_iff]
    simp [hc, hR, hP0, inR, h.val]
theorem execRun_ok {l : List TBox} {prog : List TIns} (hl : Fits l) (hp : Fits prog) : ∃ r, spec_ExecRun l prog = some r ∧ (boxesOk l = true → Ran r) ∧ r.Reads.length ≤ 40 ∧ r.Puts.length ≤ 40 := by
  unfold spec_ExecRun
  rw [specBoxOk_eq hl, specProgOk_eq hp]
  have h0 : Ran ⟨[], [], 0, 3⟩ := ⟨by decide, by simp, by simp⟩
  cases hb : boxesOk l
  · exact ⟨_, rfl, (fun h => by cases h), by simp, by simp⟩
  cases hpo : progOk prog
  · exact ⟨_, rfl, fun _ => h0, by simp, by simp⟩
  simp only [Option.bind_some, Bool.not_true, cond_false]
  rw [need_pos (by decide)]
  have hlen : prog.length ≤ 10 := by
    unfold progOk at hpo
    simp only [Bool.and_eq_true, decide_eq_true_eq] at hpo
    exact hpo.1
  have hins : ∀ i ∈ prog, insOk i = true := by
    unfold progOk at hpo
    simp only [Bool.and_eq_true] at hpo
    exact List.all_eq_true.1 hpo.2
  obtain ⟨x, hx, hq⟩ := loop_inv (body := fun s : (List Int) × (List TRead) × (List TPut) × Int × Int × Int => spec_ExecRun_b1 l prog s.1 s.2.1 s.2.2.1 s.2.2.2.1 s.2.2.2.2.1 s.2.2.2.2.2)
    (fun m s => ∃ k : Nat, s.2.2.2.1 = (k : Int) ∧ k ≤ 30 ∧ k + m = 31 ∧ Way ⟨s.2.1, s.2.2.1, s.2.2.2.2.1, s.2.2.2.2.2⟩ k ∧ s.1.length = 4 ∧ (s.2.2.2.2.2 = 0 ∨ s.2.2.2.2.2 = 1 ∨ s.2.2.2.2.2 = 2) ∧ (s.2.2.2.2.2 = 0 → regsOk s.1))
    (fun x => match x with
      | .ret _ => False
      | .brk b => Way ⟨b.1, b.2.1, b.2.2.2.1, b.2.2.2.2⟩ 30 ∧ b.2.2.1.length = 4 ∧ (b.2.2.2.2 = 0 ∨ b.2.2.2.2 = 1 ∨ b.2.2.2.2 = 2) ∧ (b.2.2.2.2 = 0 → regsOk b.2.2.1))
    (by
      rintro m ⟨regs, Reads, Puts, kk, rVal, rCode⟩ ⟨k, hk, hk30, hm, hway, hreg, hcode, hrok⟩
      simp only at hk hway hreg hcode hrok ⊢
      subst hk
      have hend : Way ⟨Reads, Puts, rVal, rCode⟩ 30 := ⟨hway.val, hway.reads, hway.puts, Nat.le_trans hway.rlen hk30, Nat.le_trans hway.plen hk30⟩
      unfold spec_ExecRun_b1
      by_cases hlt : k < prog.length
      · rw [lt_len _ k hlt, idx_lt hlt]
        cases hc : rCode == 0
        · exact ⟨_, rfl, hend, hreg, hcode, hrok⟩
        have hc0 : rCode = 0 := by simpa using hc
        have hi := hins _ (List.getElem_mem hlt)
        simp only [cond_true, Option.bind_some]
        cases h6 : prog[k].Kind == 6
        · obtain ⟨r', regs', q1, q2, q3, q4, q5⟩ := step_ok hb hway (by omega) hc0 (hrok hc0) hi (by simpa using h6)
          simp only [cond_false, q1, Option.bind_some]
          rw [need_pos (by rw [q3]; exact hreg), w64_in (by omega) (by omega)]
          exact ⟨_, rfl, m - 1, by omega, k + 1, by simp, by omega, by omega, q2, q3, q4, q5⟩
        · have h6' : prog[k].Kind = 6 := by simpa using h6
          obtain ⟨_, ha, hbb, hN⟩ : prog[k].Kind = 6 ∧ (0 ≤ prog[k].A ∧ prog[k].A ≤ 3) ∧ (0 ≤ prog[k].B ∧ prog[k].B ≤ 3) ∧ (1 ≤ prog[k].N ∧ prog[k].N ≤ 10) := by
            rcases insOk_parts hi with ⟨q, _⟩ | ⟨q, _⟩ | ⟨q, _⟩ | ⟨q, _⟩ | ⟨q, _⟩ | q | ⟨q, _⟩
            · omega
            · omega
            · omega
            · omega
            · omega
            · exact q
            · omega
          obtain ⟨y, y1, _⟩ := reg_at hreg ha
          obtain ⟨z, z1, _⟩ := reg_at hreg hbb
          simp only [cond_true, y1, z1, Option.bind_some]
          have hw2 : ∀ j : Nat, k ≤ j → Way ⟨Reads, Puts, rVal, rCode⟩ (j + 1) := fun j h => ⟨hway.val, hway.reads, hway.puts, Nat.le_trans hway.rlen (by omega), Nat.le_trans hway.plen (by omega)⟩
          unfold spec_ExecRun_j1
          by_cases hyz : y < z
          · simp only [hyz, decide_true, cond_true, Option.bind_some, Exc.go]
            have e1 : w64 ((k : Int) + prog[k].N) = ((k + prog[k].N.toNat : Nat) : Int) := by
              rw [w64_in (n := (k : Int) + prog[k].N) (by omega) (by omega)]
              omega
            rw [e1, w64_in (n := ((k + prog[k].N.toNat : Nat) : Int) + 1) (by omega) (by omega)]
            exact ⟨_, rfl, 31 - (k + prog[k].N.toNat + 1), by omega, k + prog[k].N.toNat + 1, rfl, by omega, by omega, hw2 _ (by omega), hreg, hcode, hrok⟩
          · simp only [hyz, decide_false, cond_false, Option.bind_some, Exc.go]
            rw [w64_in (n := (k : Int) + 1) (by omega) (by omega)]
            exact ⟨_, rfl, 31 - (k + 1), by omega, k + 1, rfl, by omega, by omega, hw2 k (by omega), hreg, hcode, hrok⟩
      · have : decide ((k : Int) < (prog.length : Int)) = false := by simp; omega
        rw [this, cond_false]
        exact ⟨_, rfl, hend, hreg, hcode, hrok⟩) (k := 31) (s := (List.replicate (4 : Int).toNat 0, [], [], 0, 0, 0)) ⟨0, rfl, by omega, by omega, ⟨rfl, rfl, rfl, by simp, by simp⟩, rfl, .inl rfl, fun _ => ⟨rfl, by simp [inV]⟩⟩
  rw [hx, Option.bind_some]
  cases x with
  | ret r => cases hq
  | brk b =>
    obtain ⟨Reads, Puts, regs, rVal, rCode⟩ := b
    obtain ⟨q1, q2, q3, q4⟩ := hq
    simp only at q1 q2 q3 q4
    simp only [Exc.go]
    unfold spec_ExecRun_k2
    obtain ⟨v, v1, v2⟩ := reg_at q2 (a := 0) ⟨by omega, by omega⟩
    have hran := way_ran q1 (by omega) q3 (v := v) (fun h => (q4 h).2 v v2)
    have q1r := q1.rlen
    have q1p := q1.plen
    simp only at hran q1r q1p
    cases hc : rCode != 0
    · rw [hc] at hran
      simp only [cond_false, v1, Option.bind_some] at hran ⊢
      exact ⟨_, rfl, fun _ => hran, by simp only; omega, by simp only; omega⟩
    · rw [hc] at hran
      simp only [cond_true] at hran ⊢
      exact ⟨_, rfl, fun _ => hran, by simp only; omega, by simp⟩
end Go.Proofs.YtggngdffdglolaaGreat

/- Boxes behind entries: the two sides are one, and Vers only grow. -/
namespace Go.Proofs.YtggngdffdglolaaGreat
open Go

theorem listOk_of {l : List TEntry} (hl : l.length ≤ 40) (he : l.all entryOk = true) : listOk l = true := by
  unfold listOk
  simp [hl, he]
theorem listOk_take {l : List TEntry} (h : listOk l = true) (k : Nat) : listOk (l.take k) = true := by
  obtain ⟨h1, h2⟩ := listOk_parts h
  refine listOk_of ?_ ?_
  · rw [List.length_take]; omega
  · rw [List.all_eq_true] at h2 ⊢
    exact fun x hx => h2 x (List.mem_of_mem_take hx)
theorem fEntries_take {l : List TEntry} (h : okL 88 fEntry l) (k : Nat) : okL 88 fEntry (l.take k) := by
  refine ⟨?_, fun x hx => h.2 x (List.mem_of_mem_take hx)⟩
  have := h.1
  rw [List.length_take]
  have : min k l.length * 88 ≤ l.length * 88 := Nat.mul_le_mul_right _ (Nat.min_le_right _ _)
  omega
theorem implCertFold_eq {l : List TEntry} (h : okL 88 fEntry l) : impl_CertFold l = some (bif listOk l then (folded l).1 else ⟨0, [], []⟩) := by
  unfold impl_CertFold
  rw [implList_eq h, Option.bind_some]
  cases hok : listOk l
  · rfl
  · obtain ⟨hl, he⟩ := listOk_parts hok
    rw [Bool.not_true, cond_false, implFolded_eq h hl he]
    rfl
theorem specCertFold_eq {l : List TEntry} (h : okL 88 fEntry l) (hok : listOk l = true) : spec_CertFold l = some (folded l).1 := by
  obtain ⟨hl, he⟩ := listOk_parts hok
  have hf : Fits l := h.fits (by decide)
  unfold spec_CertFold
  rw [specOpen_eq, Option.bind_some, show (40 : Int) = ((40 : Nat) : Int) from rfl, len_gt_n, decide_eq_true hl, Bool.not_true, cond_false]
  have hloop := loop_to (body := fun s : (List TBox) × Int × Int × List TDone => spec_CertFold_b1 l s.1 s.2.1 s.2.2.1 s.2.2.2) (fun k => ((folded (l.take k)).1.Boxes, (k : Int), (folded (l.take k)).1.At, (folded (l.take k)).1.Dones)) l.length (by
    intro k hk
    obtain ⟨h1, h2, h3⟩ := folded_inv hl he k (by omega)
    have hek := List.all_eq_true.1 he _ (List.getElem_mem hk)
    have hfk := h.2 _ (List.getElem_mem hk)
    rw [folded_take hk]
    unfold spec_CertFold_b1
    rw [lt_len _ k hk, idx_lt hk, w64_next hf hk]
    simp only [cond_true, Option.bind_some, specEntry_eq hfk, hek, Bool.not_true, cond_false]
    rw [show (⟨(folded (l.take k)).1.At, (folded (l.take k)).1.Boxes, (folded (l.take k)).1.Dones⟩ : TState) = (folded (l.take k)).1 from rfl, specApply_eq h1 (by omega) hek hfk, Option.bind_some]
    rfl)
  rw [List.take_zero, List.take_length] at hloop
  rw [show ((0 : Nat) : Int) = 0 from rfl] at hloop
  rw [show loop (fun s : (List TBox) × Int × Int × List TDone => spec_CertFold_b1 l s.1 s.2.1 s.2.2.1 s.2.2.2) (start.Boxes, 0, start.At, start.Dones) = _ from hloop, loop_brk (b := ((folded l).1.Boxes, (folded l).1.At, (folded l).1.Dones))]
  · rfl
  · unfold spec_CertFold_b1
    rw [nlt_len]; rfl
def histAt (l : List TEntry) (n : Int) : List TBox := bif listOk l && inR n 0 (l.length : Int) then (folded (l.take n.toNat)).1.Boxes else []
theorem boxSame_self {l : List TBox} (h : Fits l) : impl_BoxSame l l = some true := by
  unfold impl_BoxSame impl_same_Box
  rw [bne_self_eq_false, cond_false, all_loop l h (fun _ => true) false ()]
  · rw [show l.all (fun _ => true) = true from by simp]; rfl
  · intro k hk
    unfold impl_same_Box_b1
    rw [lt_len l k hk, idx_lt hk]
    simp
  · unfold impl_same_Box_b1
    rw [nlt_len]; rfl
theorem histAt_fits (l : List TEntry) (n : Int) : Fits (histAt l n) := by
  unfold histAt
  cases hok : listOk l
  · simp [Fits]
  cases inR n 0 (l.length : Int)
  · simp [Fits]
  obtain ⟨hl, he⟩ := listOk_parts (listOk_take hok n.toNat)
  have := (folded_inv hl he _ (Nat.le_refl _)).1
  rw [List.take_length] at this
  exact boxesOk_fits this.boxes

/-! ### Vers only grow -/
def VerLe (a b : List TBox) : Prop := a.length = b.length ∧ ∀ (i : Nat) (x y : TBox), a[i]? = some x → b[i]? = some y → x.Ver ≤ y.Ver
theorem VerLe.refl (a : List TBox) : VerLe a a := ⟨rfl, fun i x y h1 h2 => by rw [h1] at h2; injection h2 with h2; rw [h2]; exact Int.le_refl _⟩
theorem VerLe.trans {a b c : List TBox} (h : VerLe a b) (k : VerLe b c) : VerLe a c := by
  refine ⟨h.1.trans k.1, fun i x z hx hz => ?_⟩
  have hi : i < b.length := by
    have := (List.getElem?_eq_some_iff.1 hx).1
    have := h.1
    omega
  have h1 := h.2 i x _ hx (List.getElem?_eq_getElem hi)
  have h2 := k.2 i _ z (List.getElem?_eq_getElem hi) hz
  omega
theorem bump_le {l : List TBox} {p : TPut} (h : boxesOk l = true) (hp : putFine p) : VerLe l (bump l p) := by
  obtain ⟨b, _, h2, h3⟩ := box_at h (b := p.Box) ⟨hp.1, hp.2.1⟩
  rw [boxFine_iff] at h3
  rw [bump_at h2]
  refine ⟨by simp, fun i x y hx hy => ?_⟩
  rw [List.getElem?_set] at hy
  split at hy
  · rename_i he
    split at hy
    · injection hy with hy
      subst hy
      rw [← he, h2] at hx
      injection hx with hx
      subst hx
      simp only
      split <;> omega
    · cases hy
  · rw [hx] at hy
    injection hy with hy
    rw [hy]
    exact Int.le_refl _
theorem doPuts_le : ∀ {ps : List TPut} {l : List TBox}, boxesOk l = true → (∀ p ∈ ps, putFine p) → VerLe l (doPuts l ps)
  | [], l, _, _ => VerLe.refl _
  | p :: ps, l, h, hp => (bump_le h (hp p (by simp))).trans (doPuts_le (ps := ps) (bump_ok h (hp p (by simp))) fun x hx => hp x (by simp [hx]))
theorem apply_le {s : TState} {k : Nat} {e : TEntry} (hs : Inv s k) (he : entryOk e = true) : VerLe s.Boxes (apply s e).1.Boxes := by
  have hfr : e.None = false → VerLe s.Boxes (applyFresh s e).1.Boxes := by
    intro hn
    obtain ⟨_, _, hr, _⟩ := entryOk_some he hn
    unfold applyFresh
    cases fresh s.Boxes e.Run
    · exact VerLe.refl _
    · cases e.Run.Code == 0
      · exact VerLe.refl _
      · exact doPuts_le hs.boxes (runOk_parts hr).2.2.2.2
  unfold apply
  cases hn : e.None
  · simp only [cond_false]
    cases s.Dones.find? fun d => d.Req.Who == e.Req.Who with
    | none => exact hfr hn
    | some d =>
      simp only
      cases d.Req.Seq == e.Req.Seq
      · cases decide (d.Req.Seq > e.Req.Seq)
        · exact hfr hn
        · exact VerLe.refl _
      · exact VerLe.refl _
  · exact VerLe.refl _
theorem folded_le {l : List TEntry} (hl : l.length ≤ 40) (he : l.all entryOk = true) {j k : Nat} (hjk : j ≤ k) (hk : k ≤ l.length) : VerLe (folded (l.take j)).1.Boxes (folded (l.take k)).1.Boxes := by
  induction k with
  | zero =>
    have : j = 0 := by omega
    subst this
    exact VerLe.refl _
  | succ k ih =>
    by_cases hq : j = k + 1
    · subst hq
      exact VerLe.refl _
    · refine (ih (by omega) (by omega)).trans ?_
      rw [folded_take (show k < l.length by omega)]
      exact apply_le (folded_inv hl he k (by omega)).1 (List.all_eq_true.1 he _ (List.getElem_mem _))
end Go.Proofs.YtggngdffdglolaaGreat

/- Plain law of HistWho: who put into a box last, forward or backward. -/
namespace Go.Proofs.YtggngdffdglolaaGreat
open Go

def lastIdx (p : Nat → Bool) : Nat → Int
  | 0 => -1
  | n + 1 => bif p n then (n : Int) else lastIdx p n
theorem lastIdx_ge (p : Nat → Bool) : ∀ n, -1 ≤ lastIdx p n ∧ lastIdx p n < n
  | 0 => by simp [lastIdx]
  | n + 1 => by
    have := lastIdx_ge p n
    unfold lastIdx
    cases p n <;> simp only [cond_true, cond_false] <;> omega
theorem lastIdx_neg (p : Nat → Bool) : ∀ n, ¬ lastIdx p n ≥ 0 → lastIdx p n = -1 := fun n h => by
  have := lastIdx_ge p n
  omega
theorem lastIdx_succ (p : Nat → Bool) (n : Nat) : lastIdx p (n + 1) = bif p n then (n : Int) else lastIdx p n := rfl
def putBy (l : List TEntry) (codes : List Int) (box : Int) (i : Nat) : Bool := match codes[i]?, l[i]? with
  | some c, some e => c == 0 && sawP e.Run.Puts box
  | _, _ => false
def histWho (l : List TEntry) (box : Int) : Int := bif listOk l then lastIdx (putBy l (folded l).2 box) l.length else -1
theorem putBy_at {l : List TEntry} {codes : List Int} {box : Int} {i : Nat} (h1 : i < l.length) (h2 : i < codes.length) : putBy l codes box i = (codes[i] == 0 && sawP l[i].Run.Puts box) := by
  unfold putBy
  rw [List.getElem?_eq_getElem h1, List.getElem?_eq_getElem h2]
end Go.Proofs.YtggngdffdglolaaGreat

/- What a done entry does to a box, and what others leave. -/
namespace Go.Proofs.YtggngdffdglolaaGreat
open Go

theorem bump_other {l : List TBox} {p : TPut} {i : Nat} (h : p.Box.toNat ≠ i) : (bump l p)[i]? = l[i]? := by
  unfold bump
  cases l[p.Box.toNat]? with
  | none => rfl
  | some b => simp only; rw [List.getElem?_set_ne h]
theorem bump_same {l : List TBox} {p : TPut} {x : TBox} (hx : l[p.Box.toNat]? = some x) : (bump l p)[p.Box.toNat]? = some ⟨if x.Ver + 1 < 1000000 then x.Ver + 1 else 1000000, p.Val⟩ := by
  rw [bump_at hx, List.getElem?_set_self (List.getElem?_eq_some_iff.1 hx).1]
theorem sawP_false {ps : List TPut} {b : Int} (h : sawP ps b = false) : ∀ p ∈ ps, p.Box ≠ b := by
  unfold sawP at h
  rw [List.any_eq_false] at h
  intro p hp
  simpa using h p hp
theorem doPuts_other : ∀ {ps : List TPut} {l : List TBox} {b : Int}, 0 ≤ b → (∀ p ∈ ps, putFine p) → sawP ps b = false → (doPuts l ps)[b.toNat]? = l[b.toNat]?
  | [], l, b, _, _, _ => rfl
  | p :: ps, l, b, hb, hp, hs => by
    have h1 := sawP_false hs
    have hf := hp p (by simp)
    have hne : p.Box.toNat ≠ b.toNat := by
      have := h1 p (by simp)
      have := hf.1
      omega
    have hs2 : sawP ps b = false := by
      unfold sawP
      rw [List.any_eq_false]
      intro x hx
      have := h1 x (by simp [hx])
      simpa using this
    show (doPuts (bump l p) ps)[b.toNat]? = _
    rw [doPuts_other (l := bump l p) hb (fun x hx => hp x (by simp [hx])) hs2, bump_other hne]
theorem doPuts_one : ∀ {ps : List TPut} {l : List TBox} {b : Int} {x : TBox}, 0 ≤ b → (∀ p ∈ ps, putFine p) → ps.Pairwise (fun p q => p.Box ≠ q.Box) → sawP ps b = true → l[b.toNat]? = some x →
    ∃ v, (doPuts l ps)[b.toNat]? = some ⟨if x.Ver + 1 < 1000000 then x.Ver + 1 else 1000000, v⟩
  | [], l, b, x, _, _, _, hs, _ => by cases hs
  | p :: ps, l, b, x, hb, hp, hd, hs, hx => by
    have hf := hp p (by simp)
    obtain ⟨hd1, hd2⟩ := List.pairwise_cons.1 hd
    by_cases he : p.Box = b
    · have hs2 : sawP ps b = false := by
        unfold sawP
        rw [List.any_eq_false]
        intro q hq
        have := hd1 q hq
        simp only [beq_iff_eq]
        intro h
        exact this (he.trans h.symm)
      refine ⟨p.Val, ?_⟩
      show (doPuts (bump l p) ps)[b.toNat]? = _
      rw [doPuts_other hb (fun q hq => hp q (by simp [hq])) hs2, ← he, bump_same (by rw [he]; exact hx)]
    · have hne : p.Box.toNat ≠ b.toNat := by
        have := hf.1
        omega
      have hs2 : sawP ps b = true := by
        unfold sawP at hs ⊢
        rw [List.any_cons] at hs
        have : (p.Box == b) = false := by simpa using he
        rwa [this, Bool.false_or] at hs
      exact doPuts_one (l := bump l p) hb (fun q hq => hp q (by simp [hq])) hd2 hs2 (by rw [bump_other hne]; exact hx)
theorem runOk_allP {r : TRun} (h : runOk r = true) : allP r.Puts = true := by
  rw [runOk_iff] at h
  simp only [Bool.and_eq_true] at h
  exact h.2.2.2.2.2
theorem runOk_allR {r : TRun} (h : runOk r = true) : allR r.Reads = true := by
  rw [runOk_iff] at h
  simp only [Bool.and_eq_true] at h
  exact h.2.2.2.2.1
/-- An entry that was not done leaves all boxes; one that was done puts what its run puts. -/
theorem apply_boxes {s : TState} {k : Nat} {e : TEntry} (hs : Inv s k) (he : entryOk e = true) : ((apply s e).2 = 0 ∧ e.None = false ∧ (apply s e).1.Boxes = doPuts s.Boxes e.Run.Puts) ∨ ((apply s e).2 ≠ 0 ∧ (apply s e).1.Boxes = s.Boxes) := by
  have hfr : e.None = false → ((applyFresh s e).2 = 0 ∧ e.None = false ∧ (applyFresh s e).1.Boxes = doPuts s.Boxes e.Run.Puts) ∨ ((applyFresh s e).2 ≠ 0 ∧ (applyFresh s e).1.Boxes = s.Boxes) := by
    intro hn
    unfold applyFresh
    cases fresh s.Boxes e.Run
    · exact .inr ⟨show (1 : Int) ≠ 0 from by decide, rfl⟩
    · cases e.Run.Code == 0
      · exact .inr ⟨show (2 : Int) ≠ 0 from by decide, rfl⟩
      · exact .inl ⟨rfl, hn, rfl⟩
  unfold apply
  cases hn : e.None
  · simp only [cond_false]
    cases s.Dones.find? fun d => d.Req.Who == e.Req.Who with
    | none =>
      rcases hfr hn with ⟨a, _, c⟩ | h
      · exact .inl ⟨a, by simp, c⟩
      · exact .inr h
    | some d =>
      simp only
      cases d.Req.Seq == e.Req.Seq
      · cases decide (d.Req.Seq > e.Req.Seq)
        · rcases hfr hn with ⟨a, _, c⟩ | h
          · exact .inl ⟨a, by simp, c⟩
          · exact .inr h
        · exact .inr ⟨show (4 : Int) ≠ 0 from by decide, rfl⟩
      · exact .inr ⟨show (3 : Int) ≠ 0 from by decide, rfl⟩
  · exact .inr ⟨show (5 : Int) ≠ 0 from by decide, rfl⟩
/-- The code of an entry is what it was told behind the ones ahead. -/
theorem folded_code {l : List TEntry} (hl : l.length ≤ 40) (he : l.all entryOk = true) {k : Nat} (hk : k < l.length) : (folded l).2[k]? = some (apply (folded (l.take k)).1 l[k]).2 := by
  have key : ∀ n, k < n → n ≤ l.length → (folded (l.take n)).2[k]? = some (apply (folded (l.take k)).1 l[k]).2 := by
    intro n
    induction n with
    | zero => intro h; omega
    | succ n ih =>
      intro h1 h2
      have hlen := (folded_inv hl he n (by omega)).2.1
      rw [folded_take (show n < l.length by omega)]
      unfold foldStep
      by_cases hq : k = n
      · subst hq
        simp only
        rw [List.getElem?_append_right (by omega), hlen, Nat.sub_self]
        rfl
      · simp only
        rw [List.getElem?_append_left (by omega)]
        exact ih (by omega) (by omega)
  have := key l.length hk (Nat.le_refl _)
  rwa [List.take_length] at this
theorem putBy_false {l : List TEntry} (hl : l.length ≤ 40) (he : l.all entryOk = true) {k : Nat} (hk : k < l.length) {b : Int} (h0 : 0 ≤ b) (h : putBy l (folded l).2 b k = false) : (folded (l.take (k + 1))).1.Boxes[b.toNat]? = (folded (l.take k)).1.Boxes[b.toNat]? := by
  have hek := List.all_eq_true.1 he _ (List.getElem_mem hk)
  have hin := (folded_inv hl he k (by omega)).1
  rw [folded_take hk]
  show (apply (folded (l.take k)).1 l[k]).1.Boxes[b.toNat]? = _
  rcases apply_boxes hin hek with ⟨h1, h2, h3⟩ | ⟨h1, h2⟩
  · rw [h3]
    obtain ⟨_, _, hr, _⟩ := entryOk_some hek h2
    refine doPuts_other h0 (runOk_parts hr).2.2.2.2 ?_
    unfold putBy at h
    rw [folded_code hl he hk, List.getElem?_eq_getElem hk, h1] at h
    simpa using h
  · rw [h2]
theorem putBy_true {l : List TEntry} (hl : l.length ≤ 40) (he : l.all entryOk = true) {k : Nat} (hk : k < l.length) {b : Int} (h : putBy l (folded l).2 b k = true) : (0 ≤ b ∧ b ≤ 3) ∧ ∀ x, (folded (l.take k)).1.Boxes[b.toNat]? = some x →
    ∃ v, (folded (l.take (k + 1))).1.Boxes[b.toNat]? = some ⟨if x.Ver + 1 < 1000000 then x.Ver + 1 else 1000000, v⟩ := by
  have hek := List.all_eq_true.1 he _ (List.getElem_mem hk)
  have hin := (folded_inv hl he k (by omega)).1
  unfold putBy at h
  rw [folded_code hl he hk, List.getElem?_eq_getElem hk] at h
  simp only [Bool.and_eq_true, beq_iff_eq] at h
  rcases apply_boxes hin hek with ⟨h1, h2, h3⟩ | ⟨h1, h2⟩
  · obtain ⟨_, _, hr, _⟩ := entryOk_some hek h2
    have hp := (runOk_parts hr).2.2.2.2
    have hb : 0 ≤ b ∧ b ≤ 3 := by
      have := h.2
      unfold sawP at this
      rw [List.any_eq_true] at this
      obtain ⟨p, hp1, hp2⟩ := this
      have hpb : p.Box = b := by simpa using hp2
      have := hp p hp1
      omega
    refine ⟨hb, fun x hx => ?_⟩
    rw [folded_take hk]
    show ∃ v, (apply (folded (l.take k)).1 l[k]).1.Boxes[b.toNat]? = _
    rw [h3]
    exact doPuts_one hb.1 hp (allP_iff.1 (runOk_allP hr)).2 h.2 hx
  · exact absurd h.1 h1
theorem ver_small {l : List TEntry} (hl : l.length ≤ 40) (he : l.all entryOk = true) {b : Int} (hb : 0 ≤ b ∧ b ≤ 3) : ∀ k, k ≤ l.length → ∃ x, (folded (l.take k)).1.Boxes[b.toNat]? = some x ∧ 0 ≤ x.Ver ∧ x.Ver ≤ (k : Int)
  | 0, _ => by
    rw [List.take_zero]
    have : b = 0 ∨ b = 1 ∨ b = 2 ∨ b = 3 := by omega
    rcases this with rfl | rfl | rfl | rfl <;> exact ⟨⟨0, 0⟩, rfl, by decide, by decide⟩
  | k + 1, hk => by
    obtain ⟨x, h1, h2, h3⟩ := ver_small hl he hb k (by omega)
    cases hp : putBy l (folded l).2 b k
    · rw [putBy_false hl he (by omega) hb.1 hp]
      exact ⟨x, h1, h2, by omega⟩
    · obtain ⟨_, hq⟩ := putBy_true hl he (show k < l.length by omega) hp
      obtain ⟨v, hv⟩ := hq x h1
      refine ⟨_, hv, ?_, ?_⟩
      · simp only; split <;> omega
      · simp only; split <;> omega
theorem lastIdx_pos {p : Nat → Bool} : ∀ {n : Nat}, lastIdx p n ≥ 0 → ∃ k : Nat, lastIdx p n = (k : Int) ∧ k < n ∧ p k = true ∧ ∀ j, k < j → j < n → p j = false
  | 0, h => by simp [lastIdx] at h
  | n + 1, h => by
    rw [lastIdx_succ] at h ⊢
    cases hp : p n with
    | true => exact ⟨n, rfl, by omega, hp, fun j h1 h2 => by omega⟩
    | false =>
      rw [hp] at h
      obtain ⟨k, h1, h2, h3, h4⟩ := lastIdx_pos (n := n) h
      refine ⟨k, h1, by omega, h3, fun j h5 h6 => ?_⟩
      by_cases hj : j = n
      · rw [hj]; exact hp
      · exact h4 j h5 (by omega)
theorem lastIdx_none {p : Nat → Bool} : ∀ {n : Nat}, ¬ lastIdx p n ≥ 0 → ∀ j, j < n → p j = false
  | 0, _, j, hj => by omega
  | n + 1, h, j, hj => by
    rw [lastIdx_succ] at h
    cases hp : p n with
    | true => rw [hp] at h; simp at h
    | false =>
      rw [hp] at h
      by_cases hq : j = n
      · rw [hq]; exact hp
      · exact lastIdx_none (n := n) h j (by omega)
theorem box_stays {l : List TEntry} (hl : l.length ≤ 40) (he : l.all entryOk = true) {b : Int} (h0 : 0 ≤ b) {j : Nat} : ∀ k, j ≤ k → k ≤ l.length → (∀ i, j ≤ i → i < k → putBy l (folded l).2 b i = false) → (folded (l.take k)).1.Boxes[b.toNat]? = (folded (l.take j)).1.Boxes[b.toNat]?
  | 0, hj, _, _ => by
    have : j = 0 := by omega
    rw [this]
  | k + 1, hj, hk, h => by
    by_cases hq : j = k + 1
    · rw [hq]
    · rw [putBy_false hl he (by omega) h0 (h k (by omega) (by omega))]
      exact box_stays hl he h0 k (by omega) (by omega) fun i h1 h2 => h i h1 (by omega)
end Go.Proofs.YtggngdffdglolaaGreat

/- How entries end, counted; the requests that were done. -/
namespace Go.Proofs.YtggngdffdglolaaGreat
open Go

def cnt (cs : List Int) (c : Int) : Int := ((cs.filter fun x => x == c).length : Int)
def counts (cs : List Int) : List Int := [cnt cs 0, cnt cs 1, cnt cs 2, cnt cs 3, cnt cs 4, cnt cs 5]
theorem cnt_snoc (cs : List Int) (c d : Int) : cnt (cs ++ [c]) d = cnt cs d + (if c = d then 1 else 0) := by
  unfold cnt
  rw [List.filter_append]
  by_cases h : c = d <;> simp [h]
theorem cnt_range (cs : List Int) (c : Int) : 0 ≤ cnt cs c ∧ cnt cs c ≤ cs.length := by
  unfold cnt
  have := List.length_filter_le (fun x => x == c) cs
  omega
theorem counts_at {cs : List Int} {c : Int} (h : 0 ≤ c ∧ c ≤ 5) : idx (counts cs) c = some (cnt cs c) := by
  have : c = 0 ∨ c = 1 ∨ c = 2 ∨ c = 3 ∨ c = 4 ∨ c = 5 := by omega
  rcases this with rfl | rfl | rfl | rfl | rfl | rfl <;> rfl
theorem counts_set {cs : List Int} {c : Int} (h : 0 ≤ c ∧ c ≤ 5) : (counts cs).set c.toNat (cnt cs c + 1) = counts (cs ++ [c]) := by
  unfold counts
  simp only [cnt_snoc]
  have : c = 0 ∨ c = 1 ∨ c = 2 ∨ c = 3 ∨ c = 4 ∨ c = 5 := by omega
  rcases this with rfl | rfl | rfl | rfl | rfl | rfl <;> simp
theorem counts_nil : counts [] = List.replicate (6 : Int).toNat 0 := rfl
def histCounts (l : List TEntry) : List Int := bif listOk l then counts (folded l).2 else List.replicate (6 : Int).toNat 0
/-! ### The requests that were done -/
def toldStep (l : List TEntry) (cs : List Int) (k : Nat) : List TReq := match cs[k]?, l[k]? with
  | some c, some e => bif c == 0 then [e.Req] else []
  | _, _ => []
def told (l : List TEntry) (cs : List Int) : Nat → List TReq
  | 0 => []
  | k + 1 => told l cs k ++ toldStep l cs k
theorem toldStep_at {l : List TEntry} {cs : List Int} {k : Nat} (h1 : k < l.length) (h2 : k < cs.length) : toldStep l cs k = bif cs[k] == 0 then [l[k].Req] else [] := by
  unfold toldStep
  rw [List.getElem?_eq_getElem h1, List.getElem?_eq_getElem h2]
theorem told_len {l : List TEntry} {cs : List Int} (hc : cs.length = l.length) : ∀ k, k ≤ l.length → ((told l cs k).length : Int) = cnt (cs.take k) 0
  | 0, _ => rfl
  | k + 1, hk => by
    have h1 : k < cs.length := by omega
    have ih := told_len hc k (by omega)
    unfold told
    rw [List.take_succ_eq_append_getElem h1, cnt_snoc, toldStep_at (show k < l.length by omega) h1, ← ih]
    by_cases hq : cs[k] = 0
    · simp [hq]
    · have hq' : (cs[k] == 0) = false := by simpa using hq
      simp [hq, hq']
def toldDone (l : List TEntry) : List TReq := bif listOk l then told l (folded l).2 l.length else []
theorem copiedReq_eq {l : List TReq} (h : l.length * 16 ≤ 140737488351232) : impl_copied_Req l = some l := by
  unfold impl_copied_Req need
  cases l with
  | nil => rfl
  | cons x l =>
    have h1 : (((x :: l).length : Int) == 0) = false := by simp; omega
    rw [h1, cond_false, if_pos (by constructor <;> omega), if_pos (by simp)]
theorem implTold_eq {l : List TEntry} (h : okL 88 fEntry l) : impl_ToldDone l = some (toldDone l) := by
  unfold impl_ToldDone toldDone
  rw [implList_eq h, Option.bind_some]
  cases hok : listOk l
  · rfl
  have hf : Fits l := h.fits (by decide)
  obtain ⟨hl, he⟩ := listOk_parts hok
  obtain ⟨_, hlen, hc⟩ := folded_inv hl he l.length (Nat.le_refl _)
  rw [List.take_length] at hlen hc
  rw [Bool.not_true, cond_false, cond_true, implFolded_eq h hl he, Option.bind_some]
  have hsm : ∀ k, k ≤ l.length → (told l (folded l).2 k).length ≤ 40 := by
    intro k hk
    have h1 := told_len hlen k hk
    have h2 := cnt_range ((folded l).2.take k) 0
    rw [List.length_take] at h2
    omega
  have hloop := loop_to (body := fun s : (List TReq) × Int => impl_ToldDone_b1 l (folded l) s.1 s.2) (fun k => (told l (folded l).2 k, (k : Int))) l.length (by
    intro k hk
    have hk2 : k < (folded l).2.length := by omega
    have hs := hsm k (by omega)
    have n1 : ((told l (folded l).2 k).length + 1) * 16 ≤ 140737488355328 := by omega
    show impl_ToldDone_b1 l (folded l) (told l (folded l).2 k) (k : Int) = some (.nxt (told l (folded l).2 k ++ toldStep l (folded l).2 k, ((k + 1 : Nat) : Int)))
    rw [toldStep_at hk hk2]
    unfold impl_ToldDone_b1 impl_ToldDone_j1
    rw [lt_len _ k hk, idx_lt hk, idx_lt hk2, w64_next hf hk]
    simp only [cond_true, Option.bind_some, need_pos n1]
    cases (folded l).2[k] == 0
    · simp only [cond_false, Option.bind_some, Exc.go, List.append_nil]
    · rfl)
  rw [show told l (folded l).2 0 = [] from rfl, show ((0 : Nat) : Int) = 0 from rfl] at hloop
  rw [hloop, loop_brk (b := told l (folded l).2 l.length)]
  · simp only [Option.bind_some, Exc.go]
    unfold impl_ToldDone_k2
    rw [copiedReq_eq (by have := hsm l.length (Nat.le_refl _); omega)]
    rfl
  · unfold impl_ToldDone_b1
    rw [nlt_len]; rfl

/-! ### How often all boxes were put into -/
def verSum : List TBox → Int
  | [] => 0
  | b :: l => b.Ver + verSum l
theorem verSum_set : ∀ {l : List TBox} {i : Nat} {x y : TBox}, l[i]? = some x → verSum (l.set i y) = verSum l - x.Ver + y.Ver
  | [], i, x, y, h => by simp at h
  | b :: l, 0, x, y, h => by
    simp at h
    subst h
    simp only [List.set_cons_zero, verSum]
    omega
  | b :: l, i + 1, x, y, h => by
    have := verSum_set (l := l) (i := i) (x := x) (y := y) (by simpa using h)
    simp only [List.set_cons_succ, verSum]
    omega
theorem verSum_bump {l : List TBox} {p : TPut} (h : boxesOk l = true) (hp : putFine p) : verSum (bump l p) ≤ verSum l + 1 := by
  obtain ⟨b, _, h2, h3⟩ := box_at h (b := p.Box) ⟨hp.1, hp.2.1⟩
  rw [bump_at h2, verSum_set h2]
  simp only
  split <;> omega
theorem verSum_puts : ∀ {ps : List TPut} {l : List TBox}, boxesOk l = true → (∀ p ∈ ps, putFine p) → verSum (doPuts l ps) ≤ verSum l + ps.length
  | [], l, _, _ => by simp [doPuts]
  | p :: ps, l, h, hp => by
    have h1 := verSum_bump h (hp p (by simp))
    have h2 := verSum_puts (ps := ps) (bump_ok h (hp p (by simp))) fun x hx => hp x (by simp [hx])
    show verSum (doPuts (bump l p) ps) ≤ _
    simp only [List.length_cons]
    omega
theorem filter_one {ps : List TPut} (h : ps.Pairwise fun p q => p.Box ≠ q.Box) (b : Int) : (ps.filter fun p => p.Box == b).length ≤ 1 := by
  have h2 := h.filter (fun p => p.Box == b)
  cases hq : ps.filter fun p => p.Box == b with
  | nil => simp
  | cons x r =>
    cases r with
    | nil => simp
    | cons y r =>
      rw [hq] at h2
      have hne := (List.pairwise_cons.1 h2).1 y (by simp)
      have hx : x ∈ ps.filter fun p => p.Box == b := by rw [hq]; simp
      have hy : y ∈ ps.filter fun p => p.Box == b := by rw [hq]; simp
      have hx := (List.mem_filter.1 hx).2
      have hy := (List.mem_filter.1 hy).2
      simp only [beq_iff_eq] at hx hy
      omega
theorem puts_len : ∀ {ps : List TPut}, (∀ p ∈ ps, putFine p) → ps.length = (ps.filter fun p => p.Box == 0).length + (ps.filter fun p => p.Box == 1).length + (ps.filter fun p => p.Box == 2).length + (ps.filter fun p => p.Box == 3).length
  | [], _ => rfl
  | p :: ps, h => by
    have ih := puts_len (ps := ps) fun x hx => h x (by simp [hx])
    have hp := h p (by simp)
    have : p.Box = 0 ∨ p.Box = 1 ∨ p.Box = 2 ∨ p.Box = 3 := by
      have := hp.1
      have := hp.2.1
      omega
    simp only [List.filter_cons, List.length_cons]
    rcases this with q | q | q | q <;> simp [q] <;> omega
theorem puts_four {r : TRun} (h : runOk r = true) : r.Puts.length ≤ 4 := by
  have h1 := (allP_iff.1 (runOk_allP h))
  have h2 := puts_len h1.1
  have a := filter_one h1.2 0
  have b := filter_one h1.2 1
  have c := filter_one h1.2 2
  have d := filter_one h1.2 3
  omega
theorem vers_done {l : List TEntry} (hl : l.length ≤ 40) (he : l.all entryOk = true) : ∀ k, k ≤ l.length → verSum (folded (l.take k)).1.Boxes ≤ 4 * cnt ((folded l).2.take k) 0
  | 0, _ => by
    rw [List.take_zero, List.take_zero]
    decide
  | k + 1, hk => by
    have hkl : k < l.length := by omega
    have ih := vers_done hl he k (by omega)
    have hlen := (folded_inv hl he l.length (Nat.le_refl _)).2.1
    rw [List.take_length] at hlen
    have hk2 : k < (folded l).2.length := by omega
    have hek := List.all_eq_true.1 he _ (List.getElem_mem hkl)
    have hin := (folded_inv hl he k (by omega)).1
    have hcode := folded_code hl he hkl
    rw [List.getElem?_eq_getElem hk2] at hcode
    injection hcode with hcode
    rw [List.take_succ_eq_append_getElem hk2, cnt_snoc, hcode, folded_take hkl]
    show verSum (apply (folded (l.take k)).1 l[k]).1.Boxes ≤ _
    rcases apply_boxes hin hek with ⟨h1, h2, h3⟩ | ⟨h1, h2⟩
    · obtain ⟨_, _, hr, _⟩ := entryOk_some hek h2
      have hv := verSum_puts hin.boxes (runOk_parts hr).2.2.2.2
      have h4 := puts_four hr
      rw [h3, if_pos h1]
      omega
    · rw [h2, if_neg h1]
      omega
theorem cnt_sum : ∀ {cs : List Int}, (∀ c ∈ cs, 0 ≤ c ∧ c ≤ 5) → cnt cs 0 + cnt cs 1 + cnt cs 2 + cnt cs 3 + cnt cs 4 + cnt cs 5 = (cs.length : Int)
  | [], _ => rfl
  | c :: cs, h => by
    have ih := cnt_sum (cs := cs) fun x hx => h x (by simp [hx])
    have hc := h c (by simp)
    have : c = 0 ∨ c = 1 ∨ c = 2 ∨ c = 3 ∨ c = 4 ∨ c = 5 := by omega
    unfold cnt at ih ⊢
    simp only [List.filter_cons, List.length_cons]
    rcases this with q | q | q | q | q | q <;> simp [q] <;> omega
end Go.Proofs.YtggngdffdglolaaGreat

/- Plain laws: copies, sizes and sameness of votes, nodes, messages and worlds. -/
namespace Go.Proofs.YtggngdffdglolaaGreat
open Go
theorem okEntries.s {l : List TEntry} (h : okL 88 okEntry l) : okL 88 fEntry l := h.imp fun _ x => x.f

theorem toVote_eq {x : TVote} (h : okVote x) : laws_toVote x = some x := by
  unfold laws_toVote
  simp only [toEntry_eq (okEntry.f h.2), Option.bind_some]
theorem szVote_tot {x : TVote} (h : okVote x) (n : Int) : ∃ v, laws_szVote x n = some v := by
  unfold laws_szVote
  obtain ⟨v0, e0⟩ := szEntry_tot _ n
  rw [e0, Option.bind_some]
  cases decide (v0 < 0)
  case true => exact ⟨_, rfl⟩
  rw [cond_false]
  exact ⟨_, rfl⟩
theorem eqVote_self {x : TVote} (h : okVote x) : laws_eqVote x x = some true := by
  unfold laws_eqVote
  simp [eqEntry_self (okEntry.f h.2)]
theorem toVoteS_eq {l : List TVote} (h : okL 96 okVote l) : laws_toVoteS l = some l := by
  have hf : Fits l := h.fits (by decide)
  have hb := h.1
  unfold laws_toVoteS need
  rw [if_pos (by constructor <;> omega), Int.toNat_natCast, copy_loop l hf _ id]
  · rfl
  · intro k hk out ho
    unfold laws_toVoteS_b1
    rw [lt_len l k hk]
    simp [idx_lt hk, idx_lt (ho ▸ hk), Option.bind, toVote_eq (h.2 _ (List.getElem_mem hk))]
  · unfold laws_toVoteS_b1
    rw [nlt_len]
    rfl
theorem szVoteS_tot {l : List TVote} (h : okL 96 okVote l) (n : Int) : ∃ v, laws_szVoteS l n = some v := by
  have hf : Fits l := h.fits (by decide)
  unfold laws_szVoteS
  cases decide (w64 (n - ↑l.length) < 0)
  · simp only [cond_false]
    obtain ⟨x, hx, _⟩ := loop_inv (body := fun s : Int × Int => laws_szVoteS_b1 l s.1 s.2) (fun k s => ∃ j : Nat, s.2 = (j : Int) ∧ j + k = l.length) (fun _ => True) (fun k s ⟨j, hj, hk⟩ => by
      unfold laws_szVoteS_b1
      rw [hj]
      by_cases hlt : j < l.length
      · rw [lt_len l j hlt, idx_lt hlt]
        obtain ⟨v, hv⟩ := szVote_tot (h.2 _ (List.getElem_mem hlt)) s.1
        simp only [cond_true, Option.bind_some, hv]
        cases decide (v < 0)
        · exact ⟨_, rfl, k - 1, by omega, j + 1, w64_next hf hlt, by omega⟩
        · exact ⟨_, rfl, trivial⟩
      · have : j = l.length := by omega
        subst this
        rw [nlt_len]
        exact ⟨_, rfl, trivial⟩) (k := l.length) (s := (w64 (n - ↑l.length), 0)) ⟨0, rfl, by omega⟩
    rw [hx, Option.bind_some]
    cases x with
    | ret r => exact ⟨_, rfl⟩
    | brk b => exact ⟨_, rfl⟩
  · exact ⟨_, rfl⟩
theorem eqVoteS_self {l : List TVote} (h : okL 96 okVote l) : laws_eqVoteS l l = some true := by
  unfold laws_eqVoteS
  rw [bne_self_eq_false, cond_false, all_loop l (h.fits (by decide)) (fun _ => true) false ()]
  · rw [show l.all (fun _ => true) = true from by simp]; rfl
  · intro k hk
    unfold laws_eqVoteS_b1
    rw [lt_len l k hk, idx_lt hk]
    simp [bne_self_eq_false, eqVote_self (h.2 _ (List.getElem_mem hk))]
  · unfold laws_eqVoteS_b1
    rw [nlt_len]; rfl
theorem toAcc_eq {x : TAcc} (h : okAcc x) : laws_toAcc x = some x := by
  unfold laws_toAcc
  simp only [toVoteS_eq h.2, Option.bind_some]
theorem szAcc_tot {x : TAcc} (h : okAcc x) (n : Int) : ∃ v, laws_szAcc x n = some v := by
  unfold laws_szAcc
  obtain ⟨v0, e0⟩ := szVoteS_tot h.2 n
  rw [e0, Option.bind_some]
  cases decide (v0 < 0)
  case true => exact ⟨_, rfl⟩
  rw [cond_false]
  exact ⟨_, rfl⟩
theorem eqAcc_self {x : TAcc} (h : okAcc x) : laws_eqAcc x x = some true := by
  unfold laws_eqAcc
  simp [eqVoteS_self h.2]
theorem toBoolS_eq {l : List Bool} (h : okL 1 okT l) : laws_toBoolS l = some l := by
  have hf : Fits l := h.fits (by decide)
  have hb := h.1
  unfold laws_toBoolS need
  rw [if_pos (by constructor <;> omega), Int.toNat_natCast, copy_loop l hf _ id]
  · rfl
  · intro k hk out ho
    unfold laws_toBoolS_b1
    rw [lt_len l k hk]
    simp [idx_lt hk, idx_lt (ho ▸ hk), Option.bind]
  · unfold laws_toBoolS_b1
    rw [nlt_len]
    rfl
theorem szBoolS_tot {l : List Bool} (h : okL 1 okT l) (n : Int) : ∃ v, laws_szBoolS l n = some v := by
  unfold laws_szBoolS
  first
    | exact ⟨_, rfl⟩
    | (cases decide (w64 (n - (l.length : Int)) < 0) <;> exact ⟨_, rfl⟩)
theorem eqBoolS_self {l : List Bool} (h : okL 1 okT l) : laws_eqBoolS l l = some true := by
  unfold laws_eqBoolS
  rw [bne_self_eq_false, cond_false, all_loop l (h.fits (by decide)) (fun _ => true) false ()]
  · rw [show l.all (fun _ => true) = true from by simp]; rfl
  · intro k hk
    unfold laws_eqBoolS_b1
    rw [lt_len l k hk, idx_lt hk]
    simp [bne_self_eq_false]
  · unfold laws_eqBoolS_b1
    rw [nlt_len]; rfl
theorem toInsS_eq {l : List TIns} (h : okL 32 okIns l) : laws_toInsS l = some l := by
  have hf : Fits l := h.fits (by decide)
  have hb := h.1
  unfold laws_toInsS need
  rw [if_pos (by constructor <;> omega), Int.toNat_natCast, copy_loop l hf _ id]
  · rfl
  · intro k hk out ho
    unfold laws_toInsS_b1 laws_toIns
    rw [lt_len l k hk]
    simp [idx_lt hk, idx_lt (ho ▸ hk), Option.bind]
  · unfold laws_toInsS_b1
    rw [nlt_len]
    rfl
theorem szInsS_tot {l : List TIns} (h : okL 32 okIns l) (n : Int) : ∃ v, laws_szInsS l n = some v := by
  unfold laws_szInsS
  first
    | exact ⟨_, rfl⟩
    | (cases decide (w64 (n - (l.length : Int)) < 0) <;> exact ⟨_, rfl⟩)
theorem eqInsS_self {l : List TIns} (h : okL 32 okIns l) : laws_eqInsS l l = some true := by
  unfold laws_eqInsS
  rw [bne_self_eq_false, cond_false, all_loop l (h.fits (by decide)) (fun _ => true) false ()]
  · rw [show l.all (fun _ => true) = true from by simp]; rfl
  · intro k hk
    unfold laws_eqInsS_b1 laws_eqIns
    rw [lt_len l k hk, idx_lt hk]
    simp [bne_self_eq_false]
  · unfold laws_eqInsS_b1
    rw [nlt_len]; rfl
theorem toNode_eq {x : TNode} (h : okNode x) : laws_toNode x = some x := by
  unfold laws_toNode
  simp only [toAcc_eq h.2.1, toEntryS_eq (okEntries.s h.2.2.1), toBoolS_eq h.2.2.2.2.2.2.1, toVoteS_eq h.2.2.2.2.2.2.2.1, toEntry_eq (okEntry.f h.2.2.2.2.2.2.2.2.1), toBoolS_eq h.2.2.2.2.2.2.2.2.2.1, toInsS_eq h.2.2.2.2.2.2.2.2.2.2.1, toEntry_eq (okEntry.f h.2.2.2.2.2.2.2.2.2.2.2.1), toEntryS_eq (okEntries.s h.2.2.2.2.2.2.2.2.2.2.2.2), Option.bind_some]
theorem szNode_tot {x : TNode} (h : okNode x) (n : Int) : ∃ v, laws_szNode x n = some v := by
  unfold laws_szNode
  obtain ⟨v0, e0⟩ := szAcc_tot h.2.1 n
  rw [e0, Option.bind_some]
  cases decide (v0 < 0)
  case true => exact ⟨_, rfl⟩
  rw [cond_false]
  obtain ⟨v1, e1⟩ := szEntryS_tot (okL.fits h.2.2.1 (by decide)) v0
  rw [e1, Option.bind_some]
  cases decide (v1 < 0)
  case true => exact ⟨_, rfl⟩
  rw [cond_false]
  obtain ⟨v2, e2⟩ := szBoolS_tot h.2.2.2.2.2.2.1 v1
  rw [e2, Option.bind_some]
  cases decide (v2 < 0)
  case true => exact ⟨_, rfl⟩
  rw [cond_false]
  obtain ⟨v3, e3⟩ := szVoteS_tot h.2.2.2.2.2.2.2.1 v2
  rw [e3, Option.bind_some]
  cases decide (v3 < 0)
  case true => exact ⟨_, rfl⟩
  rw [cond_false]
  obtain ⟨v4, e4⟩ := szEntry_tot _ v3
  rw [e4, Option.bind_some]
  cases decide (v4 < 0)
  case true => exact ⟨_, rfl⟩
  rw [cond_false]
  obtain ⟨v5, e5⟩ := szBoolS_tot h.2.2.2.2.2.2.2.2.2.1 v4
  rw [e5, Option.bind_some]
  cases decide (v5 < 0)
  case true => exact ⟨_, rfl⟩
  rw [cond_false]
  obtain ⟨v6, e6⟩ := szInsS_tot h.2.2.2.2.2.2.2.2.2.2.1 v5
  rw [e6, Option.bind_some]
  cases decide (v6 < 0)
  case true => exact ⟨_, rfl⟩
  rw [cond_false]
  obtain ⟨v7, e7⟩ := szEntry_tot _ v6
  rw [e7, Option.bind_some]
  cases decide (v7 < 0)
  case true => exact ⟨_, rfl⟩
  rw [cond_false]
  obtain ⟨v8, e8⟩ := szEntryS_tot (okL.fits h.2.2.2.2.2.2.2.2.2.2.2.2 (by decide)) v7
  rw [e8, Option.bind_some]
  cases decide (v8 < 0)
  case true => exact ⟨_, rfl⟩
  rw [cond_false]
  exact ⟨_, rfl⟩
theorem eqNode_self {x : TNode} (h : okNode x) : laws_eqNode x x = some true := by
  unfold laws_eqNode
  simp [eqAcc_self h.2.1, eqEntryS_self (okEntries.s h.2.2.1), eqBoolS_self h.2.2.2.2.2.2.1, eqVoteS_self h.2.2.2.2.2.2.2.1, eqEntry_self (okEntry.f h.2.2.2.2.2.2.2.2.1), eqBoolS_self h.2.2.2.2.2.2.2.2.2.1, eqInsS_self h.2.2.2.2.2.2.2.2.2.2.1, eqEntry_self (okEntry.f h.2.2.2.2.2.2.2.2.2.2.2.1), eqEntryS_self (okEntries.s h.2.2.2.2.2.2.2.2.2.2.2.2)]
theorem toNodeS_eq {l : List TNode} (h : okL 392 okNode l) : laws_toNodeS l = some l := by
  have hf : Fits l := h.fits (by decide)
  have hb := h.1
  unfold laws_toNodeS need
  rw [if_pos (by constructor <;> omega), Int.toNat_natCast, copy_loop l hf _ id]
  · rfl
  · intro k hk out ho
    unfold laws_toNodeS_b1
    rw [lt_len l k hk]
    simp [idx_lt hk, idx_lt (ho ▸ hk), Option.bind, toNode_eq (h.2 _ (List.getElem_mem hk))]
  · unfold laws_toNodeS_b1
    rw [nlt_len]
    rfl
theorem szNodeS_tot {l : List TNode} (h : okL 392 okNode l) (n : Int) : ∃ v, laws_szNodeS l n = some v := by
  have hf : Fits l := h.fits (by decide)
  unfold laws_szNodeS
  cases decide (w64 (n - ↑l.length) < 0)
  · simp only [cond_false]
    obtain ⟨x, hx, _⟩ := loop_inv (body := fun s : Int × Int => laws_szNodeS_b1 l s.1 s.2) (fun k s => ∃ j : Nat, s.2 = (j : Int) ∧ j + k = l.length) (fun _ => True) (fun k s ⟨j, hj, hk⟩ => by
      unfold laws_szNodeS_b1
      rw [hj]
      by_cases hlt : j < l.length
      · rw [lt_len l j hlt, idx_lt hlt]
        obtain ⟨v, hv⟩ := szNode_tot (h.2 _ (List.getElem_mem hlt)) s.1
        simp only [cond_true, Option.bind_some, hv]
        cases decide (v < 0)
        · exact ⟨_, rfl, k - 1, by omega, j + 1, w64_next hf hlt, by omega⟩
        · exact ⟨_, rfl, trivial⟩
      · have : j = l.length := by omega
        subst this
        rw [nlt_len]
        exact ⟨_, rfl, trivial⟩) (k := l.length) (s := (w64 (n - ↑l.length), 0)) ⟨0, rfl, by omega⟩
    rw [hx, Option.bind_some]
    cases x with
    | ret r => exact ⟨_, rfl⟩
    | brk b => exact ⟨_, rfl⟩
  · exact ⟨_, rfl⟩
theorem eqNodeS_self {l : List TNode} (h : okL 392 okNode l) : laws_eqNodeS l l = some true := by
  unfold laws_eqNodeS
  rw [bne_self_eq_false, cond_false, all_loop l (h.fits (by decide)) (fun _ => true) false ()]
  · rw [show l.all (fun _ => true) = true from by simp]; rfl
  · intro k hk
    unfold laws_eqNodeS_b1
    rw [lt_len l k hk, idx_lt hk]
    simp [bne_self_eq_false, eqNode_self (h.2 _ (List.getElem_mem hk))]
  · unfold laws_eqNodeS_b1
    rw [nlt_len]; rfl
theorem toMsg_eq {x : TMsg} (h : okMsg x) : laws_toMsg x = some x := by
  unfold laws_toMsg
  simp only [toEntry_eq (okEntry.f h.2.2.2.2.2.1), toVoteS_eq h.2.2.2.2.2.2, Option.bind_some]
theorem szMsg_tot {x : TMsg} (h : okMsg x) (n : Int) : ∃ v, laws_szMsg x n = some v := by
  unfold laws_szMsg
  obtain ⟨v0, e0⟩ := szEntry_tot _ n
  rw [e0, Option.bind_some]
  cases decide (v0 < 0)
  case true => exact ⟨_, rfl⟩
  rw [cond_false]
  obtain ⟨v1, e1⟩ := szVoteS_tot h.2.2.2.2.2.2 v0
  rw [e1, Option.bind_some]
  cases decide (v1 < 0)
  case true => exact ⟨_, rfl⟩
  rw [cond_false]
  exact ⟨_, rfl⟩
theorem eqMsg_self {x : TMsg} (h : okMsg x) : laws_eqMsg x x = some true := by
  unfold laws_eqMsg
  simp [eqEntry_self (okEntry.f h.2.2.2.2.2.1), eqVoteS_self h.2.2.2.2.2.2]
theorem toMsgS_eq {l : List TMsg} (h : okL 152 okMsg l) : laws_toMsgS l = some l := by
  have hf : Fits l := h.fits (by decide)
  have hb := h.1
  unfold laws_toMsgS need
  rw [if_pos (by constructor <;> omega), Int.toNat_natCast, copy_loop l hf _ id]
  · rfl
  · intro k hk out ho
    unfold laws_toMsgS_b1
    rw [lt_len l k hk]
    simp [idx_lt hk, idx_lt (ho ▸ hk), Option.bind, toMsg_eq (h.2 _ (List.getElem_mem hk))]
  · unfold laws_toMsgS_b1
    rw [nlt_len]
    rfl
theorem szMsgS_tot {l : List TMsg} (h : okL 152 okMsg l) (n : Int) : ∃ v, laws_szMsgS l n = some v := by
  have hf : Fits l := h.fits (by decide)
  unfold laws_szMsgS
  cases decide (w64 (n - ↑l.length) < 0)
  · simp only [cond_false]
    obtain ⟨x, hx, _⟩ := loop_inv (body := fun s : Int × Int => laws_szMsgS_b1 l s.1 s.2) (fun k s => ∃ j : Nat, s.2 = (j : Int) ∧ j + k = l.length) (fun _ => True) (fun k s ⟨j, hj, hk⟩ => by
      unfold laws_szMsgS_b1
      rw [hj]
      by_cases hlt : j < l.length
      · rw [lt_len l j hlt, idx_lt hlt]
        obtain ⟨v, hv⟩ := szMsg_tot (h.2 _ (List.getElem_mem hlt)) s.1
        simp only [cond_true, Option.bind_some, hv]
        cases decide (v < 0)
        · exact ⟨_, rfl, k - 1, by omega, j + 1, w64_next hf hlt, by omega⟩
        · exact ⟨_, rfl, trivial⟩
      · have : j = l.length := by omega
        subst this
        rw [nlt_len]
        exact ⟨_, rfl, trivial⟩) (k := l.length) (s := (w64 (n - ↑l.length), 0)) ⟨0, rfl, by omega⟩
    rw [hx, Option.bind_some]
    cases x with
    | ret r => exact ⟨_, rfl⟩
    | brk b => exact ⟨_, rfl⟩
  · exact ⟨_, rfl⟩
theorem eqMsgS_self {l : List TMsg} (h : okL 152 okMsg l) : laws_eqMsgS l l = some true := by
  unfold laws_eqMsgS
  rw [bne_self_eq_false, cond_false, all_loop l (h.fits (by decide)) (fun _ => true) false ()]
  · rw [show l.all (fun _ => true) = true from by simp]; rfl
  · intro k hk
    unfold laws_eqMsgS_b1
    rw [lt_len l k hk, idx_lt hk]
    simp [bne_self_eq_false, eqMsg_self (h.2 _ (List.getElem_mem hk))]
  · unfold laws_eqMsgS_b1
    rw [nlt_len]; rfl
theorem toAsked_eq {x : TAsked} (h : okAsked x) : laws_toAsked x = some x := by
  unfold laws_toAsked laws_toReq
  simp only [toInsS_eq h.2, Option.bind_some]
theorem szAsked_tot {x : TAsked} (h : okAsked x) (n : Int) : ∃ v, laws_szAsked x n = some v := by
  unfold laws_szAsked
  obtain ⟨v0, e0⟩ := szInsS_tot h.2 n
  rw [e0, Option.bind_some]
  cases decide (v0 < 0)
  case true => exact ⟨_, rfl⟩
  rw [cond_false]
  exact ⟨_, rfl⟩
theorem eqAsked_self {x : TAsked} (h : okAsked x) : laws_eqAsked x x = some true := by
  unfold laws_eqAsked laws_eqReq
  simp [eqInsS_self h.2]
theorem toAskedS_eq {l : List TAsked} (h : okL 40 okAsked l) : laws_toAskedS l = some l := by
  have hf : Fits l := h.fits (by decide)
  have hb := h.1
  unfold laws_toAskedS need
  rw [if_pos (by constructor <;> omega), Int.toNat_natCast, copy_loop l hf _ id]
  · rfl
  · intro k hk out ho
    unfold laws_toAskedS_b1
    rw [lt_len l k hk]
    simp [idx_lt hk, idx_lt (ho ▸ hk), Option.bind, toAsked_eq (h.2 _ (List.getElem_mem hk))]
  · unfold laws_toAskedS_b1
    rw [nlt_len]
    rfl
theorem szAskedS_tot {l : List TAsked} (h : okL 40 okAsked l) (n : Int) : ∃ v, laws_szAskedS l n = some v := by
  have hf : Fits l := h.fits (by decide)
  unfold laws_szAskedS
  cases decide (w64 (n - ↑l.length) < 0)
  · simp only [cond_false]
    obtain ⟨x, hx, _⟩ := loop_inv (body := fun s : Int × Int => laws_szAskedS_b1 l s.1 s.2) (fun k s => ∃ j : Nat, s.2 = (j : Int) ∧ j + k = l.length) (fun _ => True) (fun k s ⟨j, hj, hk⟩ => by
      unfold laws_szAskedS_b1
      rw [hj]
      by_cases hlt : j < l.length
      · rw [lt_len l j hlt, idx_lt hlt]
        obtain ⟨v, hv⟩ := szAsked_tot (h.2 _ (List.getElem_mem hlt)) s.1
        simp only [cond_true, Option.bind_some, hv]
        cases decide (v < 0)
        · exact ⟨_, rfl, k - 1, by omega, j + 1, w64_next hf hlt, by omega⟩
        · exact ⟨_, rfl, trivial⟩
      · have : j = l.length := by omega
        subst this
        rw [nlt_len]
        exact ⟨_, rfl, trivial⟩) (k := l.length) (s := (w64 (n - ↑l.length), 0)) ⟨0, rfl, by omega⟩
    rw [hx, Option.bind_some]
    cases x with
    | ret r => exact ⟨_, rfl⟩
    | brk b => exact ⟨_, rfl⟩
  · exact ⟨_, rfl⟩
theorem eqAskedS_self {l : List TAsked} (h : okL 40 okAsked l) : laws_eqAskedS l l = some true := by
  unfold laws_eqAskedS
  rw [bne_self_eq_false, cond_false, all_loop l (h.fits (by decide)) (fun _ => true) false ()]
  · rw [show l.all (fun _ => true) = true from by simp]; rfl
  · intro k hk
    unfold laws_eqAskedS_b1
    rw [lt_len l k hk, idx_lt hk]
    simp [bne_self_eq_false, eqAsked_self (h.2 _ (List.getElem_mem hk))]
  · unfold laws_eqAskedS_b1
    rw [nlt_len]; rfl
theorem toToldS_eq {l : List TTold} (h : okL 40 okTold l) : laws_toToldS l = some l := by
  have hf : Fits l := h.fits (by decide)
  have hb := h.1
  unfold laws_toToldS need
  rw [if_pos (by constructor <;> omega), Int.toNat_natCast, copy_loop l hf _ id]
  · rfl
  · intro k hk out ho
    unfold laws_toToldS_b1 laws_toTold laws_toReq
    rw [lt_len l k hk]
    simp [idx_lt hk, idx_lt (ho ▸ hk), Option.bind]
  · unfold laws_toToldS_b1
    rw [nlt_len]
    rfl
theorem szToldS_tot {l : List TTold} (h : okL 40 okTold l) (n : Int) : ∃ v, laws_szToldS l n = some v := by
  unfold laws_szToldS
  first
    | exact ⟨_, rfl⟩
    | (cases decide (w64 (n - (l.length : Int)) < 0) <;> exact ⟨_, rfl⟩)
theorem eqToldS_self {l : List TTold} (h : okL 40 okTold l) : laws_eqToldS l l = some true := by
  unfold laws_eqToldS
  rw [bne_self_eq_false, cond_false, all_loop l (h.fits (by decide)) (fun _ => true) false ()]
  · rw [show l.all (fun _ => true) = true from by simp]; rfl
  · intro k hk
    unfold laws_eqToldS_b1 laws_eqTold laws_eqReq
    rw [lt_len l k hk, idx_lt hk]
    simp [bne_self_eq_false]
  · unfold laws_eqToldS_b1
    rw [nlt_len]; rfl
theorem toWorld_eq {x : TWorld} (h : okWorld x) : laws_toWorld x = some x := by
  unfold laws_toWorld
  simp only [toNodeS_eq h.1, toMsgS_eq h.2.1, toAskedS_eq h.2.2.1, toToldS_eq h.2.2.2, Option.bind_some]
theorem szWorld_tot {x : TWorld} (h : okWorld x) (n : Int) : ∃ v, laws_szWorld x n = some v := by
  unfold laws_szWorld
  obtain ⟨v0, e0⟩ := szNodeS_tot h.1 n
  rw [e0, Option.bind_some]
  cases decide (v0 < 0)
  case true => exact ⟨_, rfl⟩
  rw [cond_false]
  obtain ⟨v1, e1⟩ := szMsgS_tot h.2.1 v0
  rw [e1, Option.bind_some]
  cases decide (v1 < 0)
  case true => exact ⟨_, rfl⟩
  rw [cond_false]
  obtain ⟨v2, e2⟩ := szAskedS_tot h.2.2.1 v1
  rw [e2, Option.bind_some]
  cases decide (v2 < 0)
  case true => exact ⟨_, rfl⟩
  rw [cond_false]
  obtain ⟨v3, e3⟩ := szToldS_tot h.2.2.2 v2
  rw [e3, Option.bind_some]
  cases decide (v3 < 0)
  case true => exact ⟨_, rfl⟩
  rw [cond_false]
  exact ⟨_, rfl⟩
theorem eqWorld_self {x : TWorld} (h : okWorld x) : laws_eqWorld x x = some true := by
  unfold laws_eqWorld
  simp [eqNodeS_self h.1, eqMsgS_self h.2.1, eqAskedS_self h.2.2.1, eqToldS_self h.2.2.2]
end Go.Proofs.YtggngdffdglolaaGreat

/- Plain laws: what is right of votes, nodes, messages and worlds, told alike by both. -/
namespace Go.Proofs.YtggngdffdglolaaGreat
open Go
theorem and_some (c x : Bool) : (bif c then some x else some false) = some (c && x) := by cases c <;> rfl
theorem nand_some (c x : Bool) : (bif c then some false else some x) = some (!c && x) := by cases c <;> rfl
theorem inR_dec (n lo hi : Int) : inR n lo hi = (!decide (n < lo) && !decide (n > hi)) := by
  unfold inR
  by_cases h1 : n < lo <;> by_cases h2 : n > hi <;> simp [h1, h2] <;> omega
theorem rng {α : Type} (n lo hi : Int) (X Y : α) : (bif decide (n < lo) then Y else bif decide (n > hi) then Y else X) = bif inR n lo hi then X else Y := by
  rw [inR_dec]
  cases decide (n < lo) <;> cases decide (n > hi) <;> rfl
theorem rng3 {α : Type} (n lo : Int) (X Y : α) : (bif decide (n < lo) then Y else bif decide (n ≥ 3) then Y else X) = bif inR n lo 2 then X else Y := by
  have e : decide (n ≥ 3) = decide (n > 2) := by
    by_cases h : n > 2
    · rw [decide_eq_true h, decide_eq_true (by omega)]
    · rw [decide_eq_false h, decide_eq_false (by omega)]
  rw [← rng, e]
theorem not_gt (a b : Int) : (!decide (a > b)) = decide (a ≤ b) := by
  by_cases h : a ≤ b
  · simp [h]
  · simp [h]; omega
theorem len_gt0 {α : Type} (l : List α) : decide ((l.length : Int) > 0) = !((l.length : Int) == 0) := by
  by_cases hp : l.length = 0
  · rw [decide_eq_false (by omega), show ((l.length : Int) == 0) = true from by rw [hp]; rfl]; rfl
  · rw [decide_eq_true (by omega), show ((l.length : Int) == 0) = false from by rw [← Bool.not_eq_true, beq_iff_eq]; omega]; rfl
theorem not_bne {α : Type} [BEq α] (a b : α) : (!(a != b)) = (a == b) := by simp [bne]

abbrev zE : TEntry := ⟨false, ⟨0, 0⟩, ⟨[], [], 0, 0⟩⟩
def like (a b : TEntry) : Bool := (a.None == b.None) && ((([a.Req.Who, a.Req.Seq] : List Int) == [b.Req.Who, b.Req.Seq]) && sameRun a.Run b.Run)
theorem implLike_eq {a b : TEntry} (h : okEntry a) : impl_CertLike a b = some (like a b) := by
  unfold impl_CertLike like
  simp only [implSame_eq h.f.2, Option.bind_some, and_some]
theorem none_eq {e : TEntry} (h : okEntry e) : spec_l7None e = some (like e zE) := by
  unfold spec_l7None like
  simp only [specSame_eq h.f.2, Option.bind_some, and_some]
  cases e.None <;> rfl
theorem l6Bal_eq (n : Int) : spec_l6Bal n = some (inR n 1 3000) := in_eq n 1 3000

def voteOk (v : TVote) : Bool := bif v.Bal == 0 then like v.Entry zE else inR v.Bal 1 3000 && entryOk v.Entry
theorem implVote_eq {v : TVote} (h : okVote v) : impl_voteOk v = some (voteOk v) := by
  unfold impl_voteOk voteOk
  simp only [implLike_eq h.2, in_eq, implEntry_eq h.2.f, Option.bind_some, and_some]
  cases v.Bal == 0 <;> rfl
theorem specVote_eq {v : TVote} (h : okVote v) : spec_l6Vote v = some (voteOk v) := by
  unfold spec_l6Vote voteOk like
  simp only [specSame_eq h.2.f.2, l6Bal_eq, specEntry_eq h.2.f, Option.bind_some, and_some]
  cases v.Bal == 0 <;> cases v.Entry.None <;> rfl
def votesOk (l : List TVote) : Bool := decide (l.length ≤ 40) && l.all voteOk
theorem specVotes_eq {l : List TVote} (h : okL 96 okVote l) : spec_l6Votes l = some (votesOk l) := by
  unfold spec_l6Votes votesOk
  rw [show (40 : Int) = ((40 : Nat) : Int) from rfl, len_gt_n, all_loop l (h.fits (by decide)) voteOk false ()]
  · cases decide (l.length ≤ 40)
    · rfl
    · cases l.all voteOk <;> rfl
  · intro k hk
    unfold spec_l6Votes_b1
    rw [lt_len _ k hk, idx_lt hk]
    simp only [cond_true, Option.bind_some, specVote_eq (h.2 _ (List.getElem_mem hk))]
    cases voteOk l[k] <;> rfl
  · unfold spec_l6Votes_b1
    rw [nlt_len]; rfl
theorem implVotes_eq {l : List TVote} (h : okL 96 okVote l) : impl_votesOk l = some (votesOk l) := by
  unfold impl_votesOk votesOk impl_votesOk_k2
  rw [show (40 : Int) = ((40 : Nat) : Int) from rfl, len_le, all_loop l (h.fits (by decide)) voteOk false ()]
  · cases l.all voteOk <;> cases decide (l.length ≤ 40) <;> rfl
  · intro k hk
    unfold impl_votesOk_b1
    rw [lt_len _ k hk, idx_lt hk]
    simp only [cond_true, Option.bind_some, implVote_eq (h.2 _ (List.getElem_mem hk))]
    cases voteOk l[k] <;> rfl
  · unfold impl_votesOk_b1
    rw [nlt_len]; rfl
def accOk (a : TAcc) : Bool := inR a.Promised 0 3000 && (votesOk a.Votes && a.Votes.all fun v => !decide (v.Bal > a.Promised))
theorem specAcc_eq {a : TAcc} (h : okAcc a) : spec_AccOk a = some (accOk a) := by
  unfold spec_AccOk accOk
  rw [rng, specVotes_eq h.2, all_loop a.Votes (h.2.fits (by decide)) (fun v => !decide (v.Bal > a.Promised)) false ()]
  · simp only [Option.bind_some]
    cases inR a.Promised 0 3000 <;> cases votesOk a.Votes <;> cases a.Votes.all (fun v => !decide (v.Bal > a.Promised)) <;> rfl
  · intro k hk
    unfold spec_AccOk_b1
    rw [lt_len _ k hk, idx_lt hk]
    simp only [cond_true, Option.bind_some]
    cases decide (a.Votes[k].Bal > a.Promised) <;> rfl
  · unfold spec_AccOk_b1
    rw [nlt_len]; rfl
theorem implAcc_eq {a : TAcc} (h : okAcc a) : impl_AccOk a = some (accOk a) := by
  unfold impl_AccOk accOk
  rw [all_loop a.Votes (h.2.fits (by decide)) (fun v => !decide (v.Bal > a.Promised)) false ()]
  · unfold impl_AccOk_k2
    simp only [in_eq, implVotes_eq h.2, Option.bind_some]
    cases inR a.Promised 0 3000 <;> cases votesOk a.Votes <;> cases a.Votes.all (fun v => !decide (v.Bal > a.Promised)) <;> rfl
  · intro k hk
    unfold impl_AccOk_b1
    rw [lt_len _ k hk, idx_lt hk]
    simp only [cond_true, Option.bind_some]
    cases decide (a.Votes[k].Bal > a.Promised) <;> rfl
  · unfold impl_AccOk_b1
    rw [nlt_len]; rfl
theorem implIns_eq (i : TIns) : impl_insOk i = some (insOk i) := by
  unfold impl_insOk insOk impl_insOk_c1 impl_insOk_c2
  simp only [in_eq, Option.bind_some]
  cases i.Kind == 1 <;> cases i.Kind == 2 <;> cases i.Kind == 3 <;> cases i.Kind == 4 <;> cases i.Kind == 5 <;> cases i.Kind == 6 <;> cases i.Kind == 7 <;> cases inR i.A 0 3 <;> cases inR i.B 0 3 <;> cases i.A == 0 <;> cases i.B == 0 <;> rfl
theorem implProgOk_eq {l : List TIns} (h : Fits l) : impl_ProgOk l = some (progOk l) := by
  unfold impl_ProgOk progOk impl_ProgOk_k2
  rw [show (10 : Int) = ((10 : Nat) : Int) from rfl, len_le, all_loop l h insOk false ()]
  · cases l.all insOk <;> cases decide (l.length ≤ 10) <;> rfl
  · intro k hk
    unfold impl_ProgOk_b1
    rw [lt_len _ k hk, idx_lt hk]
    simp only [cond_true, Option.bind_some, implIns_eq]
    cases insOk l[k] <;> rfl
  · unfold impl_ProgOk_b1
    rw [nlt_len]; rfl

def owner (b : Int) : Int := bif inR b 1 3000 then Int.tmod b 3 else -1
theorem specOwner_eq (b : Int) : spec_AccOwner b = some (owner b) := by
  unfold spec_AccOwner owner
  rw [l6Bal_eq, Option.bind_some]
  cases inR b 1 3000 <;> rfl
theorem implOwner_eq (b : Int) : impl_AccOwner b = some (owner b) := by
  unfold impl_AccOwner owner
  rw [in_eq, Option.bind_some]
  cases inR b 1 3000 <;> rfl
def markAt (l : List Bool) (id : Int) : Bool := (idx l id).getD false
def marks (l : List Bool) (id : Int) : Bool := ((l.length : Int) == 3) && markAt l id
theorem idx_mark {l : List Bool} {id : Int} (h : inR id 0 2 = true) (hl : ((l.length : Int) == 3) = true) : idx l id = some (markAt l id) := by
  unfold inR at h
  simp only [decide_eq_true_eq] at h
  simp only [beq_iff_eq] at hl
  unfold markAt idx
  rw [if_pos h.1, List.getElem?_eq_getElem (by omega)]
  rfl
theorem marks_bind {l : List Bool} {id : Int} (h : inR id 0 2 = true) (x : Bool) : (bif ((l.length : Int) == 3) then (idx l id).bind fun y => some (y && x) else some false) = some (marks l id && x) := by
  unfold marks
  cases hl : ((l.length : Int) == 3)
  · rfl
  · rw [idx_mark h hl]
    rfl
theorem implMarks_eq {l : List Bool} {id : Int} (h : inR id 0 2 = true) : impl_marksOk l id = some (marks l id) := by
  unfold impl_marksOk marks
  cases hl : ((l.length : Int) == 3)
  · rfl
  · rw [idx_mark h hl]
    rfl
def quiet (n : TNode) : Bool := like n.Cur zE && ((n.Votes.length : Int) == 0)
def leadOk (n : TNode) : Bool :=
  bif n.Phase == 0 then (n.Bal == 0) && (((n.From.length : Int) == 0) && (((n.Best.length : Int) == 0) && quiet n)) else
  (owner n.Bal == n.Id) && (decide (n.Bal ≤ n.Acc.Promised) && (votesOk n.Best &&
    (bif n.Phase == 1 then marks n.From n.Id && quiet n else
     bif n.Phase == 2 then ((n.From.length : Int) == 0) && quiet n else
     bif n.Phase == 3 then ((n.From.length : Int) == 0) && (entryOk n.Cur && (marks n.Votes n.Id && decide ((n.Known.length : Int) < 40))) else false)))
theorem owner_bal {n : TNode} (h : inR n.Id 0 2 = true) (ho : (owner n.Bal == n.Id) = true) : inR n.Bal 1 3000 = true := by
  cases hb : inR n.Bal 1 3000
  · unfold owner at ho
    rw [hb] at ho
    unfold inR at h
    simp only [decide_eq_true_eq, cond_false, beq_iff_eq] at h ho
    omega
  · rfl
theorem implLead_eq {n : TNode} (h : okNode n) (hId : inR n.Id 0 2 = true) : impl_leadOk n = some (leadOk n) := by
  have hj : impl_leadOk n = impl_leadOk_j1 n (quiet n) := by
    unfold impl_leadOk quiet
    simp only [implLike_eq h.2.2.2.2.2.2.2.2.1, Option.bind_some]
    cases like n.Cur zE <;> rfl
  rw [hj]
  unfold impl_leadOk_j1 leadOk
  simp only [implOwner_eq, implVotes_eq h.2.2.2.2.2.2.2.1, implMarks_eq hId, implEntry_eq h.2.2.2.2.2.2.2.2.1.f, Option.bind_some, and_some]
  cases n.Phase == 0
  · simp only [cond_false]
    cases n.Phase == 1 <;> cases n.Phase == 2 <;> cases n.Phase == 3 <;> simp only [cond_true, cond_false, nand_some, not_bne, not_gt, Bool.not_not] <;> (cases owner n.Bal == n.Id <;> cases decide (n.Bal ≤ n.Acc.Promised) <;> cases votesOk n.Best <;> rfl)
  · rfl
theorem specLead_eq {n : TNode} (h : okNode n) (hId : inR n.Id 0 2 = true) : spec_l8Lead n = some (leadOk n) := by
  unfold spec_l8Lead leadOk
  simp only [specOwner_eq, l6Bal_eq, none_eq h.2.2.2.2.2.2.2.2.1, specVotes_eq h.2.2.2.2.2.2.2.1, specEntry_eq h.2.2.2.2.2.2.2.2.1.f, Option.bind_some, and_some, nand_some, marks_bind hId, not_bne, not_gt, Bool.not_not]
  have hb := owner_bal (n := n) hId
  cases h0 : n.Phase == 0
  · cases h1 : n.Phase == 1
    · cases h2 : n.Phase == 2
      · cases h3 : n.Phase == 3
        · simp only [cond_false, Bool.and_false]
        · simp only [cond_false, cond_true, nand_some, not_bne, not_gt, Bool.not_not]
          cases ho : owner n.Bal == n.Id
          · simp
          · rw [hb ho]
            cases decide (n.Bal ≤ n.Acc.Promised) <;> cases votesOk n.Best <;> cases ((n.From.length : Int) == 0) <;> rfl
      · simp only [cond_false, cond_true, nand_some, not_bne, not_gt, Bool.not_not]
        cases ho : owner n.Bal == n.Id
        · simp
        · rw [hb ho]
          unfold quiet
          cases decide (n.Bal ≤ n.Acc.Promised) <;> cases votesOk n.Best <;> cases ((n.From.length : Int) == 0) <;> rfl
    · simp only [cond_false, cond_true, nand_some, not_bne, not_gt, Bool.not_not]
      cases ho : owner n.Bal == n.Id
      · simp
      · rw [hb ho]
        unfold quiet
        cases decide (n.Bal ≤ n.Acc.Promised) <;> cases votesOk n.Best <;> cases marks n.From n.Id <;> rfl
  · unfold quiet
    simp only [cond_true]
def wantsOk (n : TNode) : Bool :=
  bif n.Busy then progOk n.Prog && (entryOk n.Want && (!n.Want.None && (([n.Want.Req.Who, n.Want.Req.Seq] : List Int) == [n.Id, n.Seq]))) else ((n.Prog.length : Int) == 0) && like n.Want zE
theorem specWants_eq {n : TNode} (h : okNode n) : spec_l8Wants n = some (wantsOk n) := by
  unfold spec_l8Wants wantsOk
  have hw := h.2.2.2.2.2.2.2.2.2.2.2.1
  simp only [none_eq hw, specProgOk_eq (h.2.2.2.2.2.2.2.2.2.2.1.fits (by decide)), specEntry_eq hw.f, Option.bind_some, and_some]
  cases n.Busy <;> rfl
def queueOk (l : List TEntry) : Bool := l.all fun e => entryOk e && !e.None
def nodeOk (n : TNode) : Bool := inR n.Id 0 2 && (accOk n.Acc && (listOk n.Known && (inR n.Seq 0 1000 && (decide ((n.Queue.length : Int) ≤ 4) && (leadOk n && (wantsOk n && queueOk n.Queue))))))
theorem specNode_eq {n : TNode} (h : okNode n) : spec_NodeOk n = some (nodeOk n) := by
  unfold spec_NodeOk nodeOk
  rw [rng3]
  cases hId : inR n.Id 0 2
  · rfl
  · rw [rng, specAcc_eq h.2.1, specList_eq (okEntries.s h.2.2.1), specLead_eq h hId, specWants_eq h, all_loop n.Queue (h.2.2.2.2.2.2.2.2.2.2.2.2.fits (by decide)) (fun e => entryOk e && !e.None) false ()]
    · unfold queueOk spec_NodeOk_k2
      rw [← not_gt]
      simp only [Option.bind_some, cond_true]
      cases accOk n.Acc <;> cases listOk n.Known <;> cases inR n.Seq 0 1000 <;> cases decide ((n.Queue.length : Int) > 4) <;> cases leadOk n <;> cases wantsOk n <;> cases n.Queue.all (fun e => entryOk e && !e.None) <;> rfl
    · intro k hk
      unfold spec_NodeOk_b1
      rw [lt_len _ k hk, idx_lt hk]
      simp only [cond_true, Option.bind_some, specEntry_eq ((h.2.2.2.2.2.2.2.2.2.2.2.2).2 _ (List.getElem_mem hk)).f]
      cases entryOk n.Queue[k] <;> cases n.Queue[k].None <;> rfl
    · unfold spec_NodeOk_b1
      rw [nlt_len]; rfl
theorem implNode_eq {n : TNode} (h : okNode n) : impl_NodeOk n = some (nodeOk n) := by
  unfold impl_NodeOk nodeOk
  rw [in_eq, Option.bind_some]
  cases hId : inR n.Id 0 2
  · rfl
  · have hw := h.2.2.2.2.2.2.2.2.2.2.2.1
    have hk3 : impl_NodeOk_k3 n = some (wantsOk n && leadOk n) := by
      unfold impl_NodeOk_k3 impl_NodeOk_j1 wantsOk
      simp only [implProgOk_eq (h.2.2.2.2.2.2.2.2.2.2.1.fits (by decide)), implEntry_eq hw.f, implLike_eq hw, implLead_eq h hId, Option.bind_some]
      cases n.Busy
      · rw [len_gt0]
        cases ((n.Prog.length : Int) == 0) <;> cases like n.Want zE <;> rfl
      · cases progOk n.Prog <;> cases entryOk n.Want <;> cases n.Want.None <;> cases (([n.Want.Req.Who, n.Want.Req.Seq] : List Int) == [n.Id, n.Seq]) <;> rfl
    rw [implAcc_eq h.2.1, implList_eq (okEntries.s h.2.2.1), in_eq, hk3, all_loop n.Queue (h.2.2.2.2.2.2.2.2.2.2.2.2.fits (by decide)) (fun e => entryOk e && !e.None) false ()]
    · unfold queueOk
      rw [← not_gt]
      simp only [Option.bind_some, Bool.not_true, cond_false]
      cases accOk n.Acc <;> cases listOk n.Known <;> cases inR n.Seq 0 1000 <;> cases decide ((n.Queue.length : Int) > 4) <;> cases leadOk n <;> cases wantsOk n <;> cases n.Queue.all (fun e => entryOk e && !e.None) <;> rfl
    · intro k hk
      unfold impl_NodeOk_b1
      rw [lt_len _ k hk, idx_lt hk]
      simp only [cond_true, Option.bind_some, implEntry_eq ((h.2.2.2.2.2.2.2.2.2.2.2.2).2 _ (List.getElem_mem hk)).f]
      cases entryOk n.Queue[k] <;> cases n.Queue[k].None <;> rfl
    · unfold impl_NodeOk_b1
      rw [nlt_len]; rfl

def kindOk (m : TMsg) : Bool :=
  let bal := inR m.Bal 1 3000
  let non := like m.Entry zE
  let nv := (m.Votes.length : Int) == 0
  bif m.Kind == 1 then bal && (non && nv) else
  bif m.Kind == 4 then bal && (non && nv) else
  bif m.Kind == 2 then bal && (non && (votesOk m.Votes && decide (w64 (m.Slot + (m.Votes.length : Int)) ≤ 40))) else
  bif m.Kind == 3 then bal && (decide (m.Slot < 40) && (entryOk m.Entry && nv)) else
  bif m.Kind == 5 then (m.Bal == 0) && (decide (m.Slot < 40) && (entryOk m.Entry && nv)) else
  bif m.Kind == 6 then bal && ((m.Slot == 0) && (non && nv)) else
  bif m.Kind == 7 then (m.Bal == 0) && ((m.Slot == 0) && (entryOk m.Entry && (!m.Entry.None && nv))) else
  bif m.Kind == 8 then (m.Bal == 0) && (non && nv) else false
def msgOk (m : TMsg) : Bool := inR m.From 0 2 && (inR m.To 0 2 && (!(m.From == m.To) && (inR m.Slot 0 40 && kindOk m)))
theorem implMsg_eq {m : TMsg} (h : okMsg m) : impl_MsgOk m = some (msgOk m) := by
  unfold impl_MsgOk msgOk kindOk
  have he := h.2.2.2.2.2.1
  simp only [in_eq, implLike_eq he, implEntry_eq he.f, implVotes_eq h.2.2.2.2.2.2, Option.bind_some, and_some]
  cases inR m.From 0 2
  · rfl
  cases inR m.To 0 2
  · rfl
  cases m.From == m.To
  case true => rfl
  cases inR m.Slot 0 40
  · rfl
  cases m.Kind == 1 <;> cases m.Kind == 4 <;> cases m.Kind == 2 <;> cases m.Kind == 3 <;> cases m.Kind == 5 <;> cases m.Kind == 6 <;> cases m.Kind == 7 <;> cases m.Kind == 8 <;> rfl
theorem specMsg_eq {m : TMsg} (h : okMsg m) : spec_MsgOk m = some (msgOk m) := by
  unfold spec_MsgOk msgOk
  have he := h.2.2.2.2.2.1
  have hj2 : spec_MsgOk_j2 m = spec_MsgOk_j1 m (like m.Entry zE) (entryOk m.Entry && decide (m.Slot < 40)) := by
    unfold spec_MsgOk_j2
    simp only [none_eq he, specEntry_eq he.f, Option.bind_some]
    cases entryOk m.Entry <;> rfl
  have hj : ∀ nv : Bool, nv = ((m.Votes.length : Int) == 0) → (m.Kind == 2 || nv) = true → spec_MsgOk_j1 m (like m.Entry zE) (entryOk m.Entry && decide (m.Slot < 40)) = some (kindOk m) := by
    intro nv hnv hk
    unfold spec_MsgOk_j1 kindOk
    simp only [l6Bal_eq, specVotes_eq h.2.2.2.2.2.2, specEntry_eq he.f, Option.bind_some, and_some]
    rw [← hnv]
    cases h1 : m.Kind == 1
    case true =>
      have : (m.Kind == 2) = false := by
        simp only [beq_iff_eq] at h1
        rw [h1]; rfl
      rw [this, Bool.false_or] at hk
      simp only [cond_true, hk, Bool.and_true]
    cases h2 : m.Kind == 2
    case true =>
      cases h4 : m.Kind == 4
      · rfl
      · simp only [beq_iff_eq] at h2 h4
        omega
    rw [h2, Bool.false_or] at hk
    subst hk
    cases h3 : m.Kind == 3
    case true =>
      cases h4 : m.Kind == 4
      · simp only [cond_true, cond_false, Bool.and_true]
        cases inR m.Bal 1 3000 <;> cases entryOk m.Entry <;> cases decide (m.Slot < 40) <;> rfl
      · simp only [beq_iff_eq] at h3 h4
        omega
    cases h4 : m.Kind == 4
    case true => simp only [cond_true, cond_false, Bool.and_true]
    simp only [cond_false]
    cases m.Kind == 5
    case true =>
      simp only [cond_true, Bool.and_true]
      cases m.Bal == 0 <;> cases entryOk m.Entry <;> cases decide (m.Slot < 40) <;> rfl
    simp only [cond_false]
    cases m.Kind == 6
    case true =>
      simp only [cond_true, Bool.and_true]
      cases inR m.Bal 1 3000 <;> cases like m.Entry zE <;> cases m.Slot == 0 <;> rfl
    cases m.Kind == 7 <;> cases m.Kind == 8 <;> simp only [cond_true, cond_false, Bool.and_true, Bool.true_and, Bool.false_and]
  rw [hj2, rng3]
  cases inR m.From 0 2
  · rfl
  simp only [cond_true, Bool.true_and]
  rw [rng3]
  cases inR m.To 0 2
  · rfl
  simp only [cond_true, Bool.true_and]
  cases m.From == m.To
  case true => rfl
  simp only [cond_false, Bool.not_false, Bool.true_and]
  rw [rng]
  cases inR m.Slot 0 40
  · rfl
  simp only [cond_true, Bool.true_and]
  rw [len_gt0]
  cases h2 : m.Kind == 2
  · rw [show (m.Kind != 2) = true from by rw [bne, h2]; rfl]
    cases hv : ((m.Votes.length : Int) == 0)
    · show some false = _
      have : kindOk m = false := by
        unfold kindOk
        rw [h2, hv]
        simp
      rw [this]
    · exact hj true hv.symm (by simp)
  · rw [show (m.Kind != 2) = false from by rw [bne, h2]; rfl]
    exact hj _ rfl (by rw [h2]; rfl)
def toldOk (t : TTold) : Bool := inR t.Node 0 2 && ((inR t.Req.Who 0 2 && inR t.Req.Seq 1 1000) && ((t.Req.Who == t.Node) && (inR t.Code 0 4 && inR t.Val (-1000000) 1000000)))
theorem specTold_eq (t : TTold) : spec_l9Told t = some (toldOk t) := by
  unfold spec_l9Told toldOk
  simp only [l5Req_eq, l1Num_eq, Option.bind_some, and_some]
  have e1 : inR t.Node 0 2 = (decide (t.Node ≥ 0) && decide (t.Node < 3)) := by
    unfold inR
    by_cases h1 : t.Node ≥ 0 <;> by_cases h2 : t.Node < 3 <;> simp [h1, h2] <;> omega
  have e2 : inR t.Code 0 4 = (decide (t.Code ≥ 0) && decide (t.Code ≤ 4)) := by
    unfold inR
    by_cases h1 : t.Code ≥ 0 <;> by_cases h2 : t.Code ≤ 4 <;> simp [h1, h2] <;> omega
  rw [e1, e2]
  simp only [Bool.and_assoc]
def askedOk (x : TAsked) : Bool := (inR x.Req.Who 0 2 && inR x.Req.Seq 1 1000) && progOk x.Prog
def nodeAt (w : TWorld) (k : Nat) : Bool := match w.Nodes[k]? with
  | some n => (n.Id == (k : Int)) && nodeOk n
  | none => true
def worldOk (w : TWorld) : Bool := ((w.Nodes.length : Int) == 3) && (decide ((w.Net.length : Int) ≤ 40) && (decide ((w.Asked.length : Int) ≤ 60) && (decide ((w.Told.length : Int) ≤ 60) && ((List.range w.Nodes.length).all (nodeAt w) && (w.Net.all msgOk && (w.Asked.all askedOk && w.Told.all toldOk))))))
theorem specWorld_eq {w : TWorld} (h : okWorld w) : spec_WorldOk w = some (worldOk w) := by
  have k7 : spec_WorldOk_k7 w = some (w.Told.all toldOk) := by
    unfold spec_WorldOk_k7
    rw [all_loop w.Told (h.2.2.2.fits (by decide)) toldOk false ()]
    · cases w.Told.all toldOk <;> rfl
    · intro k hk
      unfold spec_WorldOk_b1
      rw [lt_len _ k hk, idx_lt hk]
      simp only [cond_true, Option.bind_some, specTold_eq]
      cases toldOk w.Told[k] <;> rfl
    · unfold spec_WorldOk_b1
      rw [nlt_len]; rfl
  have k9 : spec_WorldOk_k9 w = some (w.Asked.all askedOk && w.Told.all toldOk) := by
    unfold spec_WorldOk_k9
    rw [all_loop w.Asked (h.2.2.1.fits (by decide)) askedOk false ()]
    · rw [k7]
      cases w.Asked.all askedOk <;> rfl
    · intro k hk
      unfold spec_WorldOk_b2
      rw [lt_len _ k hk, idx_lt hk]
      simp only [cond_true, Option.bind_some, l5Req_eq, specProgOk_eq ((h.2.2.1.2 _ (List.getElem_mem hk)).2.fits (by decide))]
      unfold askedOk
      cases inR w.Asked[k].Req.Who 0 2 && inR w.Asked[k].Req.Seq 1 1000 <;> cases progOk w.Asked[k].Prog <;> rfl
    · unfold spec_WorldOk_b2
      rw [nlt_len]; rfl
  have k11 : spec_WorldOk_k11 w = some (w.Net.all msgOk && (w.Asked.all askedOk && w.Told.all toldOk)) := by
    unfold spec_WorldOk_k11
    rw [all_loop w.Net (h.2.1.fits (by decide)) msgOk false ()]
    · rw [k9]
      cases w.Net.all msgOk <;> rfl
    · intro k hk
      unfold spec_WorldOk_b3
      rw [lt_len _ k hk, idx_lt hk]
      simp only [cond_true, Option.bind_some, specMsg_eq (h.2.1.2 _ (List.getElem_mem hk))]
      cases msgOk w.Net[k] <;> rfl
    · unfold spec_WorldOk_b3
      rw [nlt_len]; rfl
  unfold spec_WorldOk worldOk
  rw [alli_loop w.Nodes (h.1.fits (by decide)) (nodeAt w) false ()]
  · rw [k11]
    simp only [← not_gt]
    rw [show ((w.Nodes.length : Int) == 3) = !((w.Nodes.length : Int) != 3) from by simp [bne]]
    cases ((w.Nodes.length : Int) != 3) <;> cases decide ((w.Net.length : Int) > 40) <;> cases decide ((w.Asked.length : Int) > 60) <;> cases decide ((w.Told.length : Int) > 60) <;> cases (List.range w.Nodes.length).all (nodeAt w) <;> rfl
  · intro k hk _
    unfold spec_WorldOk_b4
    rw [lt_len _ k hk, idx_lt hk]
    simp only [cond_true, Option.bind_some, specNode_eq (h.1.2 _ (List.getElem_mem hk)), nodeAt, List.getElem?_eq_getElem hk, bne]
    cases w.Nodes[k].Id == (k : Int) <;> cases nodeOk w.Nodes[k] <;> rfl
  · unfold spec_WorldOk_b4
    rw [nlt_len]; rfl
theorem implWorld_eq {w : TWorld} (h : okWorld w) : impl_WorldOk w = some (worldOk w) := by
  have k7 : impl_WorldOk_k7 w = some (w.Told.all toldOk) := by
    unfold impl_WorldOk_k7
    rw [all_loop w.Told (h.2.2.2.fits (by decide)) toldOk false ()]
    · cases w.Told.all toldOk <;> rfl
    · intro k hk
      unfold impl_WorldOk_b1
      rw [lt_len _ k hk, idx_lt hk]
      simp only [cond_true, Option.bind_some, in_eq, reqOk_eq]
      unfold toldOk
      rw [show (w.Told[k].Req.Who == w.Told[k].Node) = !(w.Told[k].Req.Who != w.Told[k].Node) from by simp [bne]]
      cases inR w.Told[k].Node 0 2 <;> cases inR w.Told[k].Req.Who 0 2 && inR w.Told[k].Req.Seq 1 1000 <;> cases (w.Told[k].Req.Who != w.Told[k].Node) <;> cases inR w.Told[k].Code 0 4 <;> cases inR w.Told[k].Val (-1000000) 1000000 <;> rfl
    · unfold impl_WorldOk_b1
      rw [nlt_len]; rfl
  have k9 : impl_WorldOk_k9 w = some (w.Asked.all askedOk && w.Told.all toldOk) := by
    unfold impl_WorldOk_k9
    rw [all_loop w.Asked (h.2.2.1.fits (by decide)) askedOk false ()]
    · rw [k7]
      cases w.Asked.all askedOk <;> rfl
    · intro k hk
      unfold impl_WorldOk_b2
      rw [lt_len _ k hk, idx_lt hk]
      simp only [cond_true, Option.bind_some, reqOk_eq, implProgOk_eq ((h.2.2.1.2 _ (List.getElem_mem hk)).2.fits (by decide))]
      unfold askedOk
      cases inR w.Asked[k].Req.Who 0 2 && inR w.Asked[k].Req.Seq 1 1000 <;> cases progOk w.Asked[k].Prog <;> rfl
    · unfold impl_WorldOk_b2
      rw [nlt_len]; rfl
  have k11 : impl_WorldOk_k11 w = some (w.Net.all msgOk && (w.Asked.all askedOk && w.Told.all toldOk)) := by
    unfold impl_WorldOk_k11
    rw [all_loop w.Net (h.2.1.fits (by decide)) msgOk false ()]
    · rw [k9]
      cases w.Net.all msgOk <;> rfl
    · intro k hk
      unfold impl_WorldOk_b3
      rw [lt_len _ k hk, idx_lt hk]
      simp only [cond_true, Option.bind_some, implMsg_eq (h.2.1.2 _ (List.getElem_mem hk))]
      cases msgOk w.Net[k] <;> rfl
    · unfold impl_WorldOk_b3
      rw [nlt_len]; rfl
  unfold impl_WorldOk worldOk
  rw [alli_loop w.Nodes (h.1.fits (by decide)) (nodeAt w) false ()]
  · rw [k11]
    simp only [← not_gt]
    rw [show ((w.Nodes.length : Int) == 3) = !((w.Nodes.length : Int) != 3) from by simp [bne]]
    cases ((w.Nodes.length : Int) != 3) <;> cases decide ((w.Net.length : Int) > 40) <;> cases decide ((w.Asked.length : Int) > 60) <;> cases decide ((w.Told.length : Int) > 60) <;> cases (List.range w.Nodes.length).all (nodeAt w) <;> rfl
  · intro k hk _
    unfold impl_WorldOk_b4
    rw [lt_len _ k hk, idx_lt hk]
    simp only [cond_true, Option.bind_some, implNode_eq (h.1.2 _ (List.getElem_mem hk)), nodeAt, List.getElem?_eq_getElem hk, bne]
    cases w.Nodes[k].Id == (k : Int) <;> cases nodeOk w.Nodes[k] <;> rfl
  · unfold impl_WorldOk_b4
    rw [nlt_len]; rfl
end Go.Proofs.YtggngdffdglolaaGreat

/- Plain laws: what is right of a world, laid open; whether all is quiet. -/
namespace Go.Proofs.YtggngdffdglolaaGreat
open Go
theorem same_list {α : Type} {p : List α → List α → Nat → Bool} (hp : ∀ (a b : List α) (k : Nat) (x y : α), a[k]? = some x → b[k]? = some y → (p a b k = true ↔ x = y)) (a b : List α) : (a.length == b.length && (List.range a.length).all (p a b)) = true ↔ a = b := by
  constructor
  · intro h
    simp only [Bool.and_eq_true, beq_iff_eq, List.all_eq_true, List.mem_range] at h
    refine List.ext_getElem h.1 fun i h1 h2 => ?_
    exact (hp a b i _ _ (List.getElem?_eq_getElem h1) (List.getElem?_eq_getElem h2)).1 (h.2 i h1)
  · rintro rfl
    simp only [Bool.and_eq_true, beq_iff_eq, List.all_eq_true, List.mem_range, true_and]
    intro k hk
    exact (hp a a k _ _ (List.getElem?_eq_getElem hk) (List.getElem?_eq_getElem hk)).2 rfl
theorem sameRun_iff (a b : TRun) : sameRun a b = true ↔ a = b := by
  have h1 := same_list (p := sameReads) (fun a b k x y hx hy => by
    unfold sameReads
    rw [hx, hy]
    cases x; cases y
    simp) a.Reads b.Reads
  have h2 := same_list (p := samePuts) (fun a b k x y hx hy => by
    unfold samePuts
    rw [hx, hy]
    cases x; cases y
    simp) a.Puts b.Puts
  unfold sameRun
  rw [Bool.and_eq_true, h1, Bool.and_eq_true, h2, Bool.and_eq_true, beq_iff_eq, beq_iff_eq]
  cases a; cases b
  simp
theorem like_iff (a b : TEntry) : like a b = true ↔ a = b := by
  unfold like
  rw [Bool.and_eq_true, Bool.and_eq_true, sameRun_iff]
  obtain ⟨n, ⟨q1, q2⟩, r⟩ := a
  obtain ⟨n', ⟨q1', q2'⟩, r'⟩ := b
  simp [and_assoc]
theorem inR_iff {n lo hi : Int} : inR n lo hi = true ↔ lo ≤ n ∧ n ≤ hi := by unfold inR; simp
theorem worldOk_nodes {w : TWorld} (h : worldOk w = true) : w.Nodes.length = 3 ∧ ∀ n ∈ w.Nodes, nodeOk n = true := by
  unfold worldOk at h
  simp only [Bool.and_eq_true, beq_iff_eq, List.all_eq_true, List.mem_range] at h
  refine ⟨by omega, fun n hn => ?_⟩
  obtain ⟨i, hi, rfl⟩ := List.getElem_of_mem hn
  have := h.2.2.2.2.1 i hi
  unfold nodeAt at this
  rw [List.getElem?_eq_getElem hi] at this
  simp only [Bool.and_eq_true] at this
  exact this.2
theorem nodeOk_acc {n : TNode} (h : nodeOk n = true) : inR n.Id 0 2 = true ∧ accOk n.Acc = true ∧ listOk n.Known = true ∧ leadOk n = true ∧ wantsOk n = true := by
  unfold nodeOk at h
  simp only [Bool.and_eq_true] at h
  exact ⟨h.1, h.2.1, h.2.2.1, h.2.2.2.2.2.1, h.2.2.2.2.2.2.1⟩
theorem votesOk_bal {l : List TVote} (h : votesOk l = true) : l.length ≤ 40 ∧ ∀ v ∈ l, 0 ≤ v.Bal := by
  unfold votesOk at h
  simp only [Bool.and_eq_true, decide_eq_true_eq, List.all_eq_true] at h
  refine ⟨h.1, fun v hv => ?_⟩
  have := h.2 v hv
  unfold voteOk at this
  cases hb : v.Bal == 0
  · rw [hb] at this
    simp only [cond_false, Bool.and_eq_true, inR_iff] at this
    omega
  · simp only [beq_iff_eq] at hb
    omega
theorem accOk_votes {a : TAcc} (h : accOk a = true) : a.Votes.length ≤ 40 ∧ ∀ v ∈ a.Votes, 0 ≤ v.Bal := by
  unfold accOk at h
  simp only [Bool.and_eq_true] at h
  exact votesOk_bal h.2.1
theorem leadOk_bal {n : TNode} (hId : inR n.Id 0 2 = true) (h : leadOk n = true) : 0 ≤ n.Bal ∧ (n.Phase = 3 → 1 ≤ n.Bal) := by
  unfold leadOk at h
  cases h0 : n.Phase == 0
  · rw [h0] at h
    simp only [cond_false, Bool.and_eq_true] at h
    have := inR_iff.1 (owner_bal hId h.1)
    omega
  · rw [h0] at h
    simp only [cond_true, Bool.and_eq_true, beq_iff_eq] at h h0
    omega

/-! ### Quiet -/
end Go.Proofs.YtggngdffdglolaaGreat

/- Plain laws: the list that most is known of, and whether what was told is what it says. -/
namespace Go.Proofs.YtggngdffdglolaaGreat
open Go
/-! ### Copies -/
theorem copiedRead_eq {l : List TRead} (h : okL 16 okRead l) : impl_copied_Read l = some l := by
  have hb := h.1
  unfold impl_copied_Read
  cases hl : ((l.length : Int) == 0)
  · rw [cond_false, need_pos (by constructor <;> omega), need_pos (by simp)]
  · simp only [beq_iff_eq] at hl
    have : l = [] := List.eq_nil_of_length_eq_zero (by omega)
    rw [this]; rfl
theorem copiedPut_eq {l : List TPut} (h : okL 16 okPut l) : impl_copied_Put l = some l := by
  have hb := h.1
  unfold impl_copied_Put
  cases hl : ((l.length : Int) == 0)
  · rw [cond_false, need_pos (by constructor <;> omega), need_pos (by simp)]
  · simp only [beq_iff_eq] at hl
    have : l = [] := List.eq_nil_of_length_eq_zero (by omega)
    rw [this]; rfl
theorem entryCopy_eq {e : TEntry} (h : okEntry e) : impl_entryCopy e = some e := by
  unfold impl_entryCopy impl_runCopy
  rw [copiedRead_eq h.2.1, Option.bind_some, copiedPut_eq h.2.2.1]
  rfl
theorem l5Entry_eq {e : TEntry} (h : okEntry e) : spec_l5Entry e = some e := by
  have h1 := h.2.1.1
  have h2 := h.2.2.1.1
  unfold spec_l5Entry spec_l3Copy
  rw [need_pos (by simp; omega), need_pos (by simp; omega)]
  rfl
theorem copiedEntry_eq {l : List TEntry} (h : okL 88 okEntry l) : impl_copied_Entry l = some l := by
  have hb := h.1
  unfold impl_copied_Entry
  cases hl : ((l.length : Int) == 0)
  · rw [cond_false, need_pos (by constructor <;> omega), need_pos (by simp)]
  · simp only [beq_iff_eq] at hl
    have : l = [] := List.eq_nil_of_length_eq_zero (by omega)
    rw [this]; rfl
theorem entriesCopy_eq {l : List TEntry} (h : okL 88 okEntry l) : impl_entriesCopy l = some l := by
  have hf : Fits l := h.fits (by decide)
  unfold impl_entriesCopy
  rw [copiedEntry_eq h, Option.bind_some]
  have hl := loop_to (body := fun s : (List TEntry) × Int => impl_entriesCopy_b1 l s.1 s.2) (fun k => (l, (k : Int))) l.length (by
    intro k hk
    unfold impl_entriesCopy_b1
    rw [lt_len _ k hk, idx_lt hk]
    simp only [cond_true, Option.bind_some, entryCopy_eq (h.2 _ (List.getElem_mem hk)), w64_next hf hk, Int.toNat_natCast, List.set_getElem_self])
  rw [show ((0 : Nat) : Int) = 0 from rfl] at hl
  rw [hl, loop_brk (b := l)]
  · rfl
  · unfold impl_entriesCopy_b1
    rw [nlt_len]; rfl
theorem l8Entries_eq {l : List TEntry} (h : okL 88 okEntry l) : spec_l8Entries l = some l := by
  have hf : Fits l := h.fits (by decide)
  have hb := h.1
  unfold spec_l8Entries
  have hl := loop_to (body := fun s : (List TEntry) × Int => spec_l8Entries_b1 l s.1 s.2) (fun k => (l.take k, (k : Int))) l.length (by
    intro k hk
    unfold spec_l8Entries_b1
    rw [lt_len _ k hk, idx_lt hk]
    simp only [cond_true, Option.bind_some, l5Entry_eq (h.2 _ (List.getElem_mem hk)), w64_next hf hk]
    rw [need_pos (by rw [List.length_take]; omega), List.take_succ_eq_append_getElem hk])
  rw [show ((0 : Nat) : Int) = 0 from rfl, List.take_zero] at hl
  rw [hl, List.take_length, loop_brk (b := l)]
  · rfl
  · unfold spec_l8Entries_b1
    rw [nlt_len]; rfl

/-! ### The list -/
/-- The first of the first k places where most is known. -/
def best (w : TWorld) : Nat → Nat
  | 0 => 0
  | k + 1 => match w.Nodes[k]?, w.Nodes[best w k]? with
    | some a, some b => bif decide ((a.Known.length : Int) > (b.Known.length : Int)) then k else best w k
    | _, _ => best w k
theorem best_lt (w : TWorld) : ∀ k, 0 < w.Nodes.length → k ≤ w.Nodes.length → best w k < w.Nodes.length
  | 0, h, _ => h
  | k + 1, h, hk => by
    have hb := best_lt w k h (by omega)
    unfold best
    rw [List.getElem?_eq_getElem (show k < w.Nodes.length by omega), List.getElem?_eq_getElem hb]
    simp only
    cases decide ((w.Nodes[k].Known.length : Int) > (w.Nodes[best w k].Known.length : Int))
    · exact hb
    · exact hk
theorem best_step {w : TWorld} {k : Nat} (h : 0 < w.Nodes.length) (hk : k < w.Nodes.length) : best w (k + 1) = bif decide ((w.Nodes[k].Known.length : Int) > ((w.Nodes[best w k]'(best_lt w k h (by omega))).Known.length : Int)) then k else best w k := by
  conv => lhs; unfold best
  rw [List.getElem?_eq_getElem hk, List.getElem?_eq_getElem (best_lt w k h (by omega))]
def ist (w : TWorld) : Nat → Int × Int
  | 0 => (-1, 0)
  | k + 1 => ((best w (k + 1) : Int), ((k + 1 : Nat) : Int))
def wlog (w : TWorld) : List TEntry := match w.Nodes[best w w.Nodes.length]? with
  | some n => n.Known
  | none => []
theorem specLog_eq {w : TWorld} (h : okWorld w) (hn : 0 < w.Nodes.length) : spec_WorldLog w = some (wlog w) := by
  have hf : Fits w.Nodes := h.1.fits (by decide)
  unfold spec_WorldLog
  have hl := loop_to (body := fun s : Int × Int => spec_WorldLog_b1 w s.1 s.2) (fun k => ((best w k : Int), (k : Int))) w.Nodes.length (by
    intro k hk
    have hb := best_lt w k hn (by omega)
    unfold spec_WorldLog_b1 spec_WorldLog_j1
    rw [lt_len _ k hk, idx_lt hk, idx_lt hb, best_step hn hk]
    simp only [cond_true, Option.bind_some, w64_next hf hk]
    cases decide ((w.Nodes[k].Known.length : Int) > (w.Nodes[best w k].Known.length : Int)) <;> rfl)
  rw [show ((0 : Nat) : Int) = 0 from rfl, show best w 0 = 0 from rfl] at hl
  have hbn := best_lt w w.Nodes.length hn (Nat.le_refl _)
  rw [show ((0 : Nat) : Int) = 0 from rfl] at hl
  rw [hl, loop_brk (b := (best w w.Nodes.length : Int))]
  · simp only [Option.bind_some, Exc.go]
    unfold spec_WorldLog_k2 wlog
    rw [show ((w.Nodes.length : Int) == 0) = false from by rw [← Bool.not_eq_true, beq_iff_eq]; omega, idx_lt hbn, List.getElem?_eq_getElem hbn]
    simp only [cond_false, Option.bind_some, l8Entries_eq (h.1.2 _ (List.getElem_mem hbn)).2.2.1]
  · unfold spec_WorldLog_b1
    rw [nlt_len]; rfl
theorem implLog_eq {w : TWorld} (h : okWorld w) (hn : 0 < w.Nodes.length) : impl_WorldLog w = some (wlog w) := by
  have hf : Fits w.Nodes := h.1.fits (by decide)
  unfold impl_WorldLog
  have hl := loop_to (body := fun s : Int × Int => impl_WorldLog_b1 w s.1 s.2) (ist w) w.Nodes.length (by
    intro k hk
    cases k with
    | zero =>
      show impl_WorldLog_b1 w (-1) 0 = some (.nxt ((best w (0 + 1) : Int), ((0 + 1 : Nat) : Int)))
      unfold impl_WorldLog_b1 impl_WorldLog_j1
      rw [show decide ((0 : Int) < (w.Nodes.length : Int)) = true from by simpa using hk, show idx w.Nodes 0 = some w.Nodes[0] from idx_lt hk, show best w (0 + 1) = 0 from by rw [best_step hn hk]; cases decide ((w.Nodes[0].Known.length : Int) > (w.Nodes[best w 0].Known.length : Int)) <;> rfl]
      simp only [cond_true, Option.bind_some]
      have : w64 ((0 : Int) + 1) = ((0 + 1 : Nat) : Int) := w64_next hf hk
      rw [this]
      rfl
    | succ k =>
      have hb := best_lt w (k + 1) hn (by omega)
      show impl_WorldLog_b1 w (best w (k + 1) : Int) ((k + 1 : Nat) : Int) = some (.nxt ((best w (k + 1 + 1) : Int), ((k + 1 + 1 : Nat) : Int)))
      unfold impl_WorldLog_b1 impl_WorldLog_j1
      rw [lt_len _ (k + 1) hk, idx_lt hk, idx_lt hb, best_step hn hk, show decide ((best w (k + 1) : Int) < 0) = false from by simp]
      simp only [cond_true, cond_false, Option.bind_some, w64_next hf hk]
      cases decide ((w.Nodes[k + 1].Known.length : Int) > (w.Nodes[best w (k + 1)].Known.length : Int)) <;> rfl)
  have hbn := best_lt w w.Nodes.length hn (Nat.le_refl _)
  obtain ⟨m, hm⟩ : ∃ m, w.Nodes.length = m + 1 := ⟨w.Nodes.length - 1, by omega⟩
  rw [show ist w w.Nodes.length = ((best w w.Nodes.length : Int), (w.Nodes.length : Int)) from by rw [hm]; rfl] at hl
  rw [show loop (fun s : Int × Int => impl_WorldLog_b1 w s.1 s.2) ((-1 : Int), (0 : Int)) = _ from hl, loop_brk (b := (best w w.Nodes.length : Int))]
  · simp only [Option.bind_some, Exc.go]
    unfold impl_WorldLog_k2 wlog
    rw [show decide ((best w w.Nodes.length : Int) < 0) = false from by simp, idx_lt hbn, List.getElem?_eq_getElem hbn]
    simp only [cond_false, Option.bind_some, entriesCopy_eq (h.1.2 _ (List.getElem_mem hbn)).2.2.1]
  · unfold impl_WorldLog_b1
    rw [nlt_len]; rfl
theorem wlog_ok {w : TWorld} (h : okWorld w) (hw : worldOk w = true) : 0 < w.Nodes.length ∧ okL 88 okEntry (wlog w) ∧ listOk (wlog w) = true := by
  obtain ⟨h3, hn⟩ := worldOk_nodes hw
  have h0 : 0 < w.Nodes.length := by omega
  have hb := best_lt w w.Nodes.length h0 (Nat.le_refl _)
  refine ⟨h0, ?_, ?_⟩
  · unfold wlog
    rw [List.getElem?_eq_getElem hb]
    exact (h.1.2 _ (List.getElem_mem hb)).2.2.1
  · unfold wlog
    rw [List.getElem?_eq_getElem hb]
    exact (nodeOk_acc (hn _ (List.getElem_mem hb))).2.2.1

/-! ### The first of a request -/
def isReq (q : TReq) (e : TEntry) : Bool := !e.None && (([e.Req.Who, e.Req.Seq] : List Int) == [q.Who, q.Seq])
theorem first_loop {α R S B : Type} {body : S → Option (Stp R S B)} (st : Nat → S) (l : List α) (is : α → Bool) (r : Nat → R) (b : B)
    (h1 : ∀ (k : Nat) (h : k < l.length), body (st k) = some (bif is l[k] then .ret (r k) else .nxt (st (k + 1)))) (h2 : body (st l.length) = some (.brk b)) :
    loop body (st 0) = some (match l.findIdx? is with | some k => .ret (r k) | none => .brk b) := by
  rcases loop_chk (body := body) st l.length (fun k => match l[k]? with | some x => !is x | none => true) r b
    (fun k hk _ => by
      rw [h1 k hk, List.getElem?_eq_getElem hk]
      simp only
      cases is l[k] <;> rfl) (fun _ => h2) with ⟨h, hall⟩ | ⟨k, hk, ho, hb, h⟩
  · have : l.findIdx? is = none := by
      rw [List.findIdx?_eq_none_iff]
      intro x hx
      obtain ⟨i, hi, rfl⟩ := List.getElem_of_mem hx
      have := hall i hi
      rw [List.getElem?_eq_getElem hi] at this
      simpa using this
    rw [this]; exact h
  · have : l.findIdx? is = some k := by
      rw [List.findIdx?_eq_some_iff_getElem]
      refine ⟨hk, ?_, fun j hj => ?_⟩
      · rw [List.getElem?_eq_getElem hk] at ho
        simpa using ho
      · have := hb j hj
        rw [List.getElem?_eq_getElem (show j < l.length by omega)] at this
        simpa using this
    rw [this]; exact h
theorem implFirst_eq {l : List TEntry} (h : Fits l) (q : TReq) : impl_first l q = some (match l.findIdx? (isReq q) with | some k => (k : Int) | none => -1) := by
  unfold impl_first
  rw [show loop (fun s : Int => impl_first_b1 l q s) 0 = _ from first_loop (body := fun s : Int => impl_first_b1 l q s) (fun k => (k : Int)) l (isReq q) (fun k => (k : Int)) () (by
      intro k hk
      unfold impl_first_b1 impl_first_j1 isReq
      rw [lt_len _ k hk, idx_lt hk, ← w64_next h hk]
      simp only [cond_true, Option.bind_some]
      cases l[k].None <;> cases (([l[k].Req.Who, l[k].Req.Seq] : List Int) == [q.Who, q.Seq]) <;> rfl) (by
      unfold impl_first_b1
      rw [nlt_len]; rfl)]
  cases l.findIdx? (isReq q) <;> rfl
theorem specVal_eq {l : List TEntry} (h : Fits l) (q : TReq) : spec_l10Val l q = some (match l.findIdx? (isReq q) with | some k => (match l[k]? with | some e => e.Run.Val | none => 0) | none => 0) := by
  unfold spec_l10Val
  rw [show loop (fun s : Int => spec_l10Val_b1 l q s) 0 = _ from first_loop (body := fun s : Int => spec_l10Val_b1 l q s) (fun k => (k : Int)) l (isReq q) (fun k => match l[k]? with | some e => e.Run.Val | none => 0) () (by
      intro k hk
      unfold spec_l10Val_b1 spec_l10Val_j1 isReq
      rw [lt_len _ k hk, idx_lt hk, ← w64_next h hk, List.getElem?_eq_getElem hk]
      simp only [cond_true, Option.bind_some]
      cases l[k].None <;> cases (([l[k].Req.Who, l[k].Req.Seq] : List Int) == [q.Who, q.Seq]) <;> rfl) (by
      unfold spec_l10Val_b1
      rw [nlt_len]; rfl)]
  cases l.findIdx? (isReq q) <;> rfl
theorem code_at {l : List TEntry} (hl : l.length ≤ 40) (he : l.all entryOk = true) {k : Nat} (hk : k < l.length) : (folded l).2[k]? = some (apply (folded (l.take k)).1 l[k]).2 := by
  have key : ∀ m, k < m → m ≤ l.length → (folded (l.take m)).2[k]? = some (apply (folded (l.take k)).1 l[k]).2 := by
    intro m
    induction m with
    | zero => omega
    | succ m ih =>
      intro h1 h2
      have hlen := (folded_inv hl he m (by omega)).2.1
      rw [folded_take (show m < l.length by omega)]
      unfold foldStep
      simp only
      by_cases q : k < m
      · rw [List.getElem?_append_left (by omega)]
        exact ih q (by omega)
      · have : k = m := by omega
        subst this
        rw [List.getElem?_append_right (by omega), hlen]
        simp
  have := key l.length hk (Nat.le_refl _)
  rwa [List.take_length] at this
def codeOf (l : List TEntry) (k : Nat) : Int := (folded l).2[k]?.getD 0
def toldFine (l : List TEntry) (t : TTold) : Bool := match l.findIdx? (isReq t.Req) with
  | some k => (codeOf l k == t.Code) && ((bif t.Code == 0 then (match l[k]? with | some e => e.Run.Val | none => 0) else 0) == t.Val)
  | none => false
end Go.Proofs.YtggngdffdglolaaGreat

/- Programs that run: both sides come to one. -/
namespace Go.Proofs.YtggngdffdglolaaGreat
open Go

theorem all_loopR {α B R : Type} {body : Int → Option (Stp R Int B)} (l : List α) (hl : Fits l) (ok : α → Bool) (v : R) (b : B)
    (h1 : ∀ (k : Nat) (h : k < l.length), body (k : Int) = some (bif ok l[k] then .nxt (w64 ((k : Int) + 1)) else .ret v))
    (h2 : body (l.length : Int) = some (.brk b)) : loop body 0 = some (bif l.all ok then .brk b else .ret v) := by
  have h := loop_chk (body := body) (fun k => (k : Int)) l.length (fun k => match l[k]? with | some x => ok x | none => true) (fun _ => v) b
    (fun k hk _ => by
      have := h1 k hk
      rw [w64_next hl hk] at this
      simpa [List.getElem?_eq_getElem hk] using this) (fun _ => h2)
  rcases h with ⟨h, hall⟩ | ⟨k, hk, ho, _, h⟩
  · have : l.all ok = true := by
      rw [List.all_eq_true]
      intro x hx
      obtain ⟨i, hi, rfl⟩ := List.getElem_of_mem hx
      have := hall i hi
      simpa [List.getElem?_eq_getElem hi] using this
    rw [this]; exact h
  · have : l.all ok = false := by
      rw [List.all_eq_false]
      refine ⟨l[k], List.getElem_mem hk, ?_⟩
      simpa [List.getElem?_eq_getElem hk] using ho
    rw [this]; exact h
theorem copyRead_eq {l : List TRead} (h : l.length ≤ 1000) : impl_copied_Read l = some l := by
  unfold impl_copied_Read
  cases hl : ((l.length : Int) == 0)
  · rw [cond_false, need_pos (by constructor <;> omega), need_pos (by simp)]
  · simp only [beq_iff_eq] at hl
    have : l = [] := List.eq_nil_of_length_eq_zero (by omega)
    rw [this]; rfl
theorem copyPut_eq {l : List TPut} (h : l.length ≤ 1000) : impl_copied_Put l = some l := by
  unfold impl_copied_Put
  cases hl : ((l.length : Int) == 0)
  · rw [cond_false, need_pos (by constructor <;> omega), need_pos (by simp)]
  · simp only [beq_iff_eq] at hl
    have : l = [] := List.eq_nil_of_length_eq_zero (by omega)
    rw [this]; rfl

/-! ### The place of a box among the puts -/
def putAt (ps : List TPut) (b : Int) : Option Nat := ps.findIdx? (·.Box == b)
def atI : Option Nat → Int
  | some k => (k : Int)
  | none => -1
theorem specAt_put {l : List TPut} (h : Fits l) (b : Int) : spec_l3At l b = some (atI (putAt l b)) := by
  unfold spec_l3At
  rw [show (0 : Int) = ((0 : Nat) : Int) from rfl, first_loop (body := fun s : Int => spec_l3At_b1 l b s) (fun k => (k : Int)) l (·.Box == b) (fun k => (k : Int)) ()]
  · unfold putAt
    cases l.findIdx? (·.Box == b) <;> rfl
  · intro k hk
    unfold spec_l3At_b1
    rw [lt_len _ k hk, idx_lt hk, w64_next h hk]
    simp only [cond_true, Option.bind_some]
    cases l[k].Box == b <;> rfl
  · unfold spec_l3At_b1
    rw [nlt_len]; rfl
theorem implAt_put {x : TRun} (h : Fits x.Puts) (b : Int) : impl_putAt x b = some (atI (putAt x.Puts b)) := by
  unfold impl_putAt
  rw [show (0 : Int) = ((0 : Nat) : Int) from rfl, first_loop (body := fun s : Int => impl_putAt_b1 x b s) (fun k => (k : Int)) x.Puts (·.Box == b) (fun k => (k : Int)) ()]
  · unfold putAt
    cases x.Puts.findIdx? (·.Box == b) <;> rfl
  · intro k hk
    unfold impl_putAt_b1
    rw [lt_len _ k hk, idx_lt hk, w64_next h hk]
    simp only [cond_true, Option.bind_some]
    cases x.Puts[k].Box == b <;> rfl
  · unfold impl_putAt_b1
    rw [nlt_len]; rfl
theorem putAt_lt {ps : List TPut} {b : Int} {k : Nat} (h : putAt ps b = some k) : k < ps.length := by
  obtain ⟨hk, _⟩ := List.findIdx?_eq_some_iff_getElem.1 h
  exact hk
theorem atI_some (k : Nat) : decide (atI (some k) ≥ 0) = true := by simp [atI]
theorem atI_none : decide (atI none ≥ 0) = false := by simp [atI]
theorem read_lt {x : TRun} (h : Fits x.Reads) (b : Int) : ∃ v, impl_readAt x b = some v ∧ decide (v < 0) = !(saw x.Reads b) := by
  obtain ⟨v, h1, h2⟩ := readAt_eq h b
  refine ⟨v, h1, ?_⟩
  rw [← h2]
  by_cases q : v ≥ 0
  · have : ¬ v < 0 := by omega
    simp [q, this]
  · have : v < 0 := by omega
    simp [q, this]

/-! ### Registers -/
def inVb (v : Int) : Bool := inR v (-1000000) 1000000
def rgv (regs : List Int) (a : Int) : Int := regs.getD a.toNat 0
theorem rg_idx {regs : List Int} (h : regs.length = 4) {a : Int} (ha : 0 ≤ a ∧ a ≤ 3) : idx regs a = some (rgv regs a) := by
  obtain ⟨k, rfl⟩ := Int.eq_ofNat_of_zero_le ha.1
  have hk : k < regs.length := by omega
  rw [idx_lt hk]
  unfold rgv
  simp [hk]
theorem rg_set {regs : List Int} (h : regs.length = 4) {a v : Int} (ha : 0 ≤ a ∧ a ≤ 3) : rgv (regs.set a.toNat v) a = v := by
  unfold rgv
  have : a.toNat < regs.length := by omega
  simp [this]
theorem set_all {regs : List Int} (h : regs.length = 4) (hr : regs.all inVb = true) {a v : Int} (ha : 0 ≤ a ∧ a ≤ 3) : (regs.set a.toNat v).all inVb = inVb v := by
  cases hv : inVb v
  · rw [List.all_eq_false]
    exact ⟨v, List.mem_of_getElem? (i := a.toNat) (by rw [List.getElem?_set_self (by omega)]), by simp [hv]⟩
  · rw [List.all_eq_true] at hr ⊢
    intro x hx
    rcases List.mem_or_eq_of_mem_set hx with hx | rfl
    · exact hr x hx
    · exact hv
theorem rg_in {regs : List Int} (h : regs.length = 4) (hr : regs.all inVb = true) {a : Int} (ha : 0 ≤ a ∧ a ≤ 3) : -1000000 ≤ rgv regs a ∧ rgv regs a ≤ 1000000 := by
  have hi := rg_idx h ha
  have hm : rgv regs a ∈ regs := List.mem_of_getElem? (idx_some hi).2.2
  have := List.all_eq_true.1 hr _ hm
  simpa [inVb, inR] using this
structure EI (regs : List Int) (rs : List TRead) (ps : List TPut) (k : Nat) : Prop where
  len : regs.length = 4
  rng : regs.all inVb = true
  rl : rs.length ≤ k
  pl : ps.length ≤ k
theorem EI.fr {regs : List Int} {rs : List TRead} {ps : List TPut} {k : Nat} (h : EI regs rs ps k) (hk : k ≤ 100) : Fits rs := by
  have := h.rl
  unfold Fits
  omega
theorem EI.fp {regs : List Int} {rs : List TRead} {ps : List TPut} {k : Nat} (h : EI regs rs ps k) (hk : k ≤ 100) : Fits ps := by
  have := h.pl
  unfold Fits
  omega

/-- What an instruction does that is no jump and no end. -/
def exI (l : List TBox) (i : TIns) (regs : List Int) (rs : List TRead) (ps : List TPut) : List Int × List TRead × List TPut :=
  bif i.Kind == 1 then (match putAt ps i.B with
    | some k => (match ps[k]? with
      | some p => (regs.set i.A.toNat p.Val, rs, ps)
      | none => (regs, rs, ps))
    | none => match l[i.B.toNat]? with
      | some b => (regs.set i.A.toNat b.Val, bif saw rs i.B then rs else rs ++ [⟨i.B, b.Ver⟩], ps)
      | none => (regs, rs, ps))
  else bif i.Kind == 2 then (regs, rs, match putAt ps i.A with
    | some k => (match ps[k]? with
      | some p => ps.set k ⟨p.Box, rgv regs i.B⟩
      | none => ps)
    | none => ps ++ [⟨i.A, rgv regs i.B⟩])
  else bif i.Kind == 3 then (regs.set i.A.toNat i.N, rs, ps)
  else bif i.Kind == 4 then (regs.set i.A.toNat (rgv regs i.A + rgv regs i.B), rs, ps)
  else bif i.Kind == 5 then (regs.set i.A.toNat (rgv regs i.A - rgv regs i.B), rs, ps)
  else (regs, rs, ps)
def exGo (l : List TBox) (prog : List TIns) : Nat → Nat → List Int → List TRead → List TPut → TRun
  | 0, _, regs, rs, ps => ⟨rs, ps, rgv regs 0, 0⟩
  | f + 1, k, regs, rs, ps => match prog[k]? with
    | none => ⟨rs, ps, rgv regs 0, 0⟩
    | some i => bif i.Kind == 6 then exGo l prog f (bif decide (rgv regs i.A < rgv regs i.B) then k + i.N.toNat + 1 else k + 1) regs rs ps
      else bif i.Kind == 7 then ⟨rs, [], 0, 1⟩
      else bif (exI l i regs rs ps).1.all inVb then exGo l prog f (k + 1) (exI l i regs rs ps).1 (exI l i regs rs ps).2.1 (exI l i regs rs ps).2.2
      else ⟨(exI l i regs rs ps).2.1, [], 0, 2⟩
def execRun (l : List TBox) (prog : List TIns) : TRun := bif boxesOk l && progOk prog then exGo l prog (prog.length + 1) 0 [0, 0, 0, 0] [] [] else ⟨[], [], 0, 3⟩

section
variable {l : List TBox} {regs : List Int} {rs : List TRead} {ps : List TPut} {k : Nat} {i : TIns}

theorem exI_len (h : regs.length = 4) : (exI l i regs rs ps).1.length = 4 := by
  unfold exI
  cases i.Kind == 1 <;> cases i.Kind == 2 <;> cases i.Kind == 3 <;> cases i.Kind == 4 <;> cases i.Kind == 5 <;> simp only [cond_true, cond_false, List.length_set, h]
  all_goals
    split
    · split <;> simp [h]
    · split <;> simp [h]
theorem exI_rl (h : rs.length ≤ k) : (exI l i regs rs ps).2.1.length ≤ k + 1 := by
  unfold exI
  cases i.Kind == 1 <;> cases i.Kind == 2 <;> cases i.Kind == 3 <;> cases i.Kind == 4 <;> cases i.Kind == 5 <;> simp only [cond_true, cond_false] <;> try omega
  all_goals
    split
    · split <;> (simp only; omega)
    · split
      · cases saw rs i.B <;> simp only [cond_true, cond_false, List.length_append, List.length_singleton] <;> omega
      · simp only; omega
theorem exI_pl (h : ps.length ≤ k) : (exI l i regs rs ps).2.2.length ≤ k + 1 := by
  unfold exI
  cases i.Kind == 1 <;> cases i.Kind == 2 <;> cases i.Kind == 3 <;> cases i.Kind == 4 <;> cases i.Kind == 5 <;> simp only [cond_true, cond_false] <;> try omega
  all_goals (repeat' split)
  all_goals (try simp only [List.length_set, List.length_append, List.length_singleton])
  all_goals omega
theorem EI.next (h : EI regs rs ps k) (ha : (exI l i regs rs ps).1.all inVb = true) : EI (exI l i regs rs ps).1 (exI l i regs rs ps).2.1 (exI l i regs rs ps).2.2 (k + 1) :=
  ⟨exI_len h.len, ha, exI_rl h.rl, exI_pl h.pl⟩

theorem numb {x : Int} (h : -1000000 ≤ x ∧ x ≤ 1000000) {y : Int} (h' : -1000000 ≤ y ∧ y ≤ 1000000) : w64 (x + y) = x + y ∧ w64 (x - y) = x - y := ⟨w64_in (by omega) (by omega), w64_in (by omega) (by omega)⟩

theorem specStep_eq (hl : boxesOk l = true) (he : EI regs rs ps k) (hk : k ≤ 100) (hi : insOk i = true) (h6 : i.Kind ≠ 6) (h7 : i.Kind ≠ 7) :
    spec_l3Step l ⟨rs, ps, 0, 0⟩ regs i = some (⟨(exI l i regs rs ps).2.1, (exI l i regs rs ps).2.2, 0, bif (exI l i regs rs ps).1.all inVb then 0 else 2⟩, (exI l i regs rs ps).1) := by
  have hfr := he.fr hk
  have hfp := he.fp hk
  have hrl := he.rl
  have hpl := he.pl
  have n1 : (rs.length + 1) * 16 ≤ 140737488355328 := by omega
  have n2 : (ps.length + 1) * 16 ≤ 140737488355328 := by omega
  have fin : ∀ (a v : Int) (rs' : List TRead) (ps' : List TPut), 0 ≤ a ∧ a ≤ 3 → i.Kind ≠ 2 → i.A = a → spec_l3Step_j2 i (regs.set a.toNat v) rs' ps' 0 0 = some (⟨rs', ps', 0, bif (regs.set a.toNat v).all inVb then 0 else 2⟩, regs.set a.toNat v) := by
    intro a v rs' ps' ha h2 hia
    unfold spec_l3Step_j2 spec_l3Step_j1
    rw [show (i.Kind != 2) = true from by simpa using h2, cond_true, hia, rg_idx (by simpa using he.len) ha, Option.bind_some, l1Num_eq, Option.bind_some, rg_set he.len ha, set_all he.len he.rng ha]
    unfold inVb
    cases inR v (-1000000) 1000000 <;> rfl
  unfold spec_l3Step exI
  rcases insOk_parts hi with ⟨h, ha, hb⟩ | ⟨h, ha, hb⟩ | ⟨h, ha, hn⟩ | ⟨h, ha, hb⟩ | ⟨h, ha, hb⟩ | ⟨h, _⟩ | ⟨h, _⟩
  · simp only [h, show ((1 : Int) == 1) = true from rfl, cond_true]
    unfold spec_l3Look spec_l3Look_j1
    rw [specAt_put hfp, Option.bind_some]
    cases hp : putAt ps i.B with
    | some j =>
      have hj := putAt_lt hp
      simp only [atI_some, cond_true, List.getElem?_eq_getElem hj]
      simp only [atI, idx_lt hj, Option.bind_some, rg_idx he.len ha, Exc.go]
      exact fin i.A _ rs ps ha (by omega) rfl
    | none =>
      obtain ⟨b, hb1, hb2, _⟩ := box_at hl hb
      simp only [atI_none, cond_false, l3Saw_eq hfr, Option.bind_some, hb1, hb2, need_pos n1]
      cases hs : saw rs i.B
      · simp only [Bool.not_false, cond_true, cond_false, Option.bind_some, Exc.go, hb1, rg_idx he.len ha]
        exact fin i.A _ _ _ ha (by omega) rfl
      · simp only [Bool.not_true, cond_true, cond_false, Option.bind_some, Exc.go, hb1, rg_idx he.len ha]
        exact fin i.A _ _ _ ha (by omega) rfl
  · simp only [h, show ((2 : Int) == 1) = false from rfl, show ((2 : Int) == 2) = true from rfl, cond_true, cond_false, rg_idx he.len hb, Option.bind_some]
    unfold spec_l3Put
    rw [specAt_put hfp, Option.bind_some]
    have fin2 : ∀ ps' : List TPut, spec_l3Step_j2 i regs rs ps' 0 0 = some (⟨rs, ps', 0, bif regs.all inVb then 0 else 2⟩, regs) := by
      intro ps'
      unfold spec_l3Step_j2 spec_l3Step_j1
      rw [he.rng, h]
      rfl
    cases hp : putAt ps i.A with
    | some j =>
      have hj := putAt_lt hp
      simp only [atI_some, cond_true, List.getElem?_eq_getElem hj]
      simp only [atI, idx_lt hj, Option.bind_some, Exc.go, Int.toNat_natCast]
      exact fin2 _
    | none =>
      simp only [atI_none, cond_false, need_pos n2, Option.bind_some, Exc.go]
      exact fin2 _
  · simp only [h, show ((3 : Int) == 1) = false from rfl, show ((3 : Int) == 2) = false from rfl, show ((3 : Int) == 3) = true from rfl, cond_true, cond_false, rg_idx he.len ha, Option.bind_some, Exc.go]
    exact fin i.A _ _ _ ha (by omega) rfl
  · simp only [h, show ((4 : Int) == 1) = false from rfl, show ((4 : Int) == 2) = false from rfl, show ((4 : Int) == 3) = false from rfl, show ((4 : Int) == 4) = true from rfl, cond_true, cond_false, rg_idx he.len ha, rg_idx he.len hb, Option.bind_some, Exc.go, (numb (rg_in he.len he.rng ha) (rg_in he.len he.rng hb)).1]
    exact fin i.A _ _ _ ha (by omega) rfl
  · simp only [h, show ((5 : Int) == 1) = false from rfl, show ((5 : Int) == 2) = false from rfl, show ((5 : Int) == 3) = false from rfl, show ((5 : Int) == 4) = false from rfl, show ((5 : Int) == 5) = true from rfl, cond_true, cond_false, rg_idx he.len ha, rg_idx he.len hb, Option.bind_some, Exc.go, (numb (rg_in he.len he.rng ha) (rg_in he.len he.rng hb)).2]
    exact fin i.A _ _ _ ha (by omega) rfl
  · exact absurd h h6
  · exact absurd h h7
theorem specStep7 (hi : i.Kind = 7) (ha : i.A = 0) (he : EI regs rs ps k) : spec_l3Step l ⟨rs, ps, 0, 0⟩ regs i = some (⟨rs, ps, 0, 1⟩, regs) := by
  have hin := rg_in he.len he.rng (a := 0) (by omega)
  unfold spec_l3Step spec_l3Step_j2 spec_l3Step_j1
  simp only [hi, ha, show ((7 : Int) == 1) = false from rfl, show ((7 : Int) == 2) = false from rfl, show ((7 : Int) == 3) = false from rfl, show ((7 : Int) == 4) = false from rfl, show ((7 : Int) == 5) = false from rfl, show ((7 : Int) == 7) = true from rfl, show ((7 : Int) != 2) = true from rfl, cond_true, cond_false, Option.bind_some, Exc.go, rg_idx he.len (a := 0) (by omega), l1Num_eq]
  rw [show inR (rgv regs 0) (-1000000) 1000000 = true from by simp [inR]; exact hin]
  rfl

theorem exGo_end (l : List TBox) {prog : List TIns} {f k : Nat} {regs : List Int} {rs : List TRead} {ps : List TPut} (h : prog.length ≤ k) : exGo l prog f k regs rs ps = ⟨rs, ps, rgv regs 0, 0⟩ := by
  cases f with
  | zero => rfl
  | succ f =>
    unfold exGo
    rw [List.getElem?_eq_none h]
theorem progOk_parts {prog : List TIns} (hp : progOk prog = true) : prog.length ≤ 10 ∧ ∀ i ∈ prog, insOk i = true := by
  unfold progOk at hp
  simpa using hp
theorem specStop (l : List TBox) (prog : List TIns) (regs : List Int) (rs : List TRead) (ps : List TPut) (k c : Int) (hc : (c == 0) = false) :
    ((loop (fun s : (List Int) × (List TRead) × (List TPut) × Int × Int × Int => spec_ExecRun_b1 l prog s.1 s.2.1 s.2.2.1 s.2.2.2.1 s.2.2.2.2.1 s.2.2.2.2.2) (regs, rs, ps, k, 0, c)).bind fun x => x.go (fun r => some r) fun s => spec_ExecRun_k2 s.1 s.2.1 s.2.2.1 s.2.2.2.1 s.2.2.2.2) = some ⟨rs, [], 0, c⟩ := by
  rw [loop_brk (b := (rs, ps, regs, 0, c))]
  · simp only [Option.bind_some, Exc.go]
    unfold spec_ExecRun_k2
    rw [bne, hc]
    rfl
  · unfold spec_ExecRun_b1
    simp only [hc, cond_false]
    cases decide (k < (prog.length : Int)) <;> rfl
/-- The loop of the reference, and its end. -/
theorem specGo (hl : boxesOk l = true) {prog : List TIns} (hp : progOk prog = true) : ∀ (f k : Nat) (regs : List Int) (rs : List TRead) (ps : List TPut), EI regs rs ps k → prog.length < k + f → k ≤ prog.length + 10 →
    ((loop (fun s : (List Int) × (List TRead) × (List TPut) × Int × Int × Int => spec_ExecRun_b1 l prog s.1 s.2.1 s.2.2.1 s.2.2.2.1 s.2.2.2.2.1 s.2.2.2.2.2) (regs, rs, ps, (k : Int), 0, 0)).bind fun x => x.go (fun r => some r) fun s => spec_ExecRun_k2 s.1 s.2.1 s.2.2.1 s.2.2.2.1 s.2.2.2.2) = some (exGo l prog f k regs rs ps) := by
  obtain ⟨hlen, hins⟩ := progOk_parts hp
  intro f
  induction f with
  | zero =>
    intro k regs rs ps he hf hk
    rw [loop_brk (b := (rs, ps, regs, 0, 0))]
    · simp only [Option.bind_some, Exc.go]
      unfold spec_ExecRun_k2
      rw [show ((0 : Int) != 0) = false from rfl, cond_false, rg_idx he.len (a := 0) (by omega)]
      rfl
    · unfold spec_ExecRun_b1
      rw [show decide ((k : Int) < (prog.length : Int)) = false from by simp; omega]
      rfl
  | succ f ih =>
    intro k regs rs ps he hf hk
    by_cases hlt : k < prog.length
    · have hi := hins _ (List.getElem_mem hlt)
      unfold exGo
      rw [List.getElem?_eq_getElem hlt]
      simp only
      by_cases h6 : prog[k].Kind = 6
      · obtain ⟨ha, hb, hn⟩ : (0 ≤ prog[k].A ∧ prog[k].A ≤ 3) ∧ (0 ≤ prog[k].B ∧ prog[k].B ≤ 3) ∧ 1 ≤ prog[k].N ∧ prog[k].N ≤ 10 := by
          rcases insOk_parts hi with ⟨h, _⟩ | ⟨h, _⟩ | ⟨h, _⟩ | ⟨h, _⟩ | ⟨h, _⟩ | ⟨h, x⟩ | ⟨h, _⟩
          all_goals first | (exact x) | (exfalso; omega)
        have hb1 : spec_ExecRun_b1 l prog regs rs ps (k : Int) 0 0 = some (.nxt (regs, rs, ps, ((bif decide (rgv regs prog[k].A < rgv regs prog[k].B) then k + prog[k].N.toNat + 1 else k + 1 : Nat) : Int), 0, 0)) := by
          unfold spec_ExecRun_b1 spec_ExecRun_j1
          rw [lt_len _ k hlt, idx_lt hlt]
          simp only [cond_true, Option.bind_some, h6, show ((6 : Int) == 6) = true from rfl, show ((0 : Int) == 0) = true from rfl, rg_idx he.len ha, rg_idx he.len hb]
          cases decide (rgv regs prog[k].A < rgv regs prog[k].B)
          · simp only [cond_false, Option.bind_some, Exc.go]
            rw [w64_in (by omega) (by omega)]
            rfl
          · simp only [cond_true, Option.bind_some, Exc.go]
            rw [w64_in (n := (k : Int) + prog[k].N) (by omega) (by omega), w64_in (by omega) (by omega), show ((k + prog[k].N.toNat + 1 : Nat) : Int) = (k : Int) + prog[k].N + 1 from by omega]
        rw [loop_nxt hb1, h6]
        simp only [show ((6 : Int) == 6) = true from rfl, cond_true]
        refine ih _ _ _ _ ⟨he.len, he.rng, ?_, ?_⟩ ?_ ?_
        all_goals
          have h1 := he.rl
          have h2 := he.pl
          cases decide (rgv regs prog[k].A < rgv regs prog[k].B) <;> simp only [cond_true, cond_false] <;> omega
      by_cases h7 : prog[k].Kind = 7
      · have ha : prog[k].A = 0 := by
          rcases insOk_parts hi with ⟨h, _⟩ | ⟨h, _⟩ | ⟨h, _⟩ | ⟨h, _⟩ | ⟨h, _⟩ | ⟨h, _⟩ | ⟨h, x⟩
          all_goals first | (exact x) | (exfalso; omega)
        have hb1 : spec_ExecRun_b1 l prog regs rs ps (k : Int) 0 0 = some (.nxt (regs, rs, ps, w64 ((k : Int) + 1), 0, 1)) := by
          unfold spec_ExecRun_b1
          rw [lt_len _ k hlt, idx_lt hlt]
          simp only [cond_true, Option.bind_some, show ((0 : Int) == 0) = true from rfl, specStep7 h7 ha he, h7, show ((7 : Int) == 6) = false from rfl, cond_false]
          rw [need_pos trivial]
        rw [loop_nxt hb1, specStop _ _ _ _ _ _ _ rfl, h7]
        rfl
      · have hs := specStep_eq hl he (by omega) hi h6 h7
        have hb1 : spec_ExecRun_b1 l prog regs rs ps (k : Int) 0 0 = some (.nxt ((exI l prog[k] regs rs ps).1, (exI l prog[k] regs rs ps).2.1, (exI l prog[k] regs rs ps).2.2, ((k + 1 : Nat) : Int), 0, bif (exI l prog[k] regs rs ps).1.all inVb then 0 else 2)) := by
          unfold spec_ExecRun_b1
          rw [lt_len _ k hlt, idx_lt hlt]
          simp only [cond_true, Option.bind_some, show ((0 : Int) == 0) = true from rfl, hs, show (prog[k].Kind == 6) = false from by simpa using h6, cond_false]
          rw [need_pos (by rw [exI_len he.len]; exact he.len), w64_in (by omega) (by omega)]
          rfl
        rw [loop_nxt hb1, show (prog[k].Kind == 6) = false from by simpa using h6, show (prog[k].Kind == 7) = false from by simpa using h7, cond_false, cond_false]
        cases hall : (exI l prog[k] regs rs ps).1.all inVb
        · rw [cond_false, cond_false, specStop _ _ _ _ _ _ _ rfl]
        · rw [cond_true, cond_true]
          exact ih _ _ _ _ (he.next hall) (by omega) (by omega)
    · rw [exGo_end l (by omega), loop_brk (b := (rs, ps, regs, 0, 0))]
      · simp only [Option.bind_some, Exc.go]
        unfold spec_ExecRun_k2
        rw [show ((0 : Int) != 0) = false from rfl, cond_false, rg_idx he.len (a := 0) (by omega)]
        rfl
      · unfold spec_ExecRun_b1
        rw [show decide ((k : Int) < (prog.length : Int)) = false from by simp; omega]
        rfl
theorem ei0 : EI [0, 0, 0, 0] [] [] 0 := ⟨rfl, by decide, by simp, by simp⟩
theorem specRun_eq {l : List TBox} {prog : List TIns} (hl : Fits l) (hp : Fits prog) : spec_ExecRun l prog = some (execRun l prog) := by
  unfold spec_ExecRun execRun
  rw [specBoxOk_eq hl, Option.bind_some, specProgOk_eq hp, Option.bind_some]
  cases hb : boxesOk l
  · rfl
  cases ho : progOk prog
  · rfl
  rw [Bool.not_true, cond_false, cond_false, need_pos (by decide)]
  have := specGo hb ho (prog.length + 1) 0 [0, 0, 0, 0] [] [] ei0 (by omega) (by omega)
  exact this

/-! ### The program's side -/
theorem chk1 {regs : List Int} {Reads1 : List TRead} {ins : TIns} {put1 : TPut} (h : regs.length = 4) (hr : Reads1.length ≤ 1000) : loop (fun s : Int => impl_ExecRun_b1 regs Reads1 ins put1 s) 0 = some (bif (regs.set ins.A.toNat put1.Val).all inVb then .brk () else .ret ⟨Reads1, [], 0, 2⟩) := by
  have hl : (regs.set ins.A.toNat put1.Val).length = 4 := by simpa using h
  refine all_loopR (regs.set ins.A.toNat put1.Val) (by unfold Fits; omega) inVb _ () (fun k hk => ?_) ?_
  · have hk4 : (k : Int) < 4 := by omega
    unfold impl_ExecRun_b1
    rw [decide_eq_true hk4, idx_lt hk, cond_true, Option.bind_some, need_pos hk4, in_eq, Option.bind_some, copyRead_eq hr]
    unfold inVb
    cases inR (regs.set ins.A.toNat put1.Val)[k] (-1000000) 1000000 <;> rfl
  · unfold impl_ExecRun_b1
    rw [hl]
    rfl
theorem chk2 {regs : List Int} {Reads1 : List TRead} {ins : TIns} {box : TBox} (h : regs.length = 4) (hr : Reads1.length ≤ 1000) : loop (fun s : Int => impl_ExecRun_b2 regs ins Reads1 box s) 0 = some (bif (regs.set ins.A.toNat box.Val).all inVb then .brk () else .ret ⟨Reads1, [], 0, 2⟩) := by
  have hl : (regs.set ins.A.toNat box.Val).length = 4 := by simpa using h
  refine all_loopR (regs.set ins.A.toNat box.Val) (by unfold Fits; omega) inVb _ () (fun k hk => ?_) ?_
  · have hk4 : (k : Int) < 4 := by omega
    unfold impl_ExecRun_b2
    rw [decide_eq_true hk4, idx_lt hk, cond_true, Option.bind_some, need_pos hk4, in_eq, Option.bind_some, copyRead_eq hr]
    unfold inVb
    cases inR (regs.set ins.A.toNat box.Val)[k] (-1000000) 1000000 <;> rfl
  · unfold impl_ExecRun_b2
    rw [hl]
    rfl
theorem chk3 {regs : List Int} {Reads1 : List TRead} (h : regs.length = 4) (hr : Reads1.length ≤ 1000) : loop (fun s : Int => impl_ExecRun_b3 Reads1 regs s) 0 = some (bif regs.all inVb then .brk () else .ret ⟨Reads1, [], 0, 2⟩) := by
  refine all_loopR regs (by unfold Fits; omega) inVb _ () (fun k hk => ?_) ?_
  · have hk4 : (k : Int) < 4 := by omega
    unfold impl_ExecRun_b3
    rw [decide_eq_true hk4, idx_lt hk, cond_true, Option.bind_some, need_pos hk4, in_eq, Option.bind_some, copyRead_eq hr]
    unfold inVb
    cases inR regs[k] (-1000000) 1000000 <;> rfl
  · unfold impl_ExecRun_b3
    rw [h]
    rfl
theorem implStep_eq (hl : boxesOk l = true) (he : EI regs rs ps k) (hk : k ≤ 100) {prog : List TIns} (hkl : k < prog.length) (hpl : prog.length ≤ 10) (R : List TRead) (P : List TPut) (hi : insOk prog[k] = true) (h6 : prog[k].Kind ≠ 6) (h7 : prog[k].Kind ≠ 7) :
    impl_ExecRun_b4 l prog regs R P rs ps (k : Int) = some (bif (exI l prog[k] regs rs ps).1.all inVb then .nxt ((exI l prog[k] regs rs ps).1, R, P, (exI l prog[k] regs rs ps).2.1, (exI l prog[k] regs rs ps).2.2, ((k + 1 : Nat) : Int)) else .ret ⟨(exI l prog[k] regs rs ps).2.1, [], 0, 2⟩) := by
  have hfr := he.fr hk
  have hfp := he.fp hk
  have hrl := he.rl
  have hpl := he.pl
  have n1 : (rs.length + 1) * 16 ≤ 140737488355328 := by omega
  have n2 : (ps.length + 1) * 16 ≤ 140737488355328 := by omega
  have hw : w64 ((k : Int) + 1) = ((k + 1 : Nat) : Int) := by rw [w64_in (by omega) (by omega)]; rfl
  have fin : ∀ (regs' : List Int) (ps' : List TPut), regs'.length = 4 → impl_ExecRun_j2 R P rs regs' ps' (k : Int) = some (bif regs'.all inVb then .nxt (regs', R, P, rs, ps', ((k + 1 : Nat) : Int)) else .ret ⟨rs, [], 0, 2⟩) := by
    intro regs' ps' h
    unfold impl_ExecRun_j2 impl_ExecRun_k13
    rw [chk3 h (by omega), hw]
    cases regs'.all inVb <;> rfl
  have hset : ∀ (a : Nat) (v : Int), (regs.set a v).length = 4 := fun a v => by simpa using he.len
  unfold impl_ExecRun_b4 exI
  generalize hin : prog[k] = i at hi h6 h7
  rw [lt_len _ k hkl, idx_lt hkl, hin, cond_true, Option.bind_some]
  rcases insOk_parts hi with ⟨h, ha, hb⟩ | ⟨h, ha, hb⟩ | ⟨h, ha, hn⟩ | ⟨h, ha, hb⟩ | ⟨h, ha, hb⟩ | ⟨h, _⟩ | ⟨h, _⟩
  · have na : i.A < 4 := by omega
    simp only [h, show ((1 : Int) == 1) = true from rfl, cond_true]
    rw [implAt_put (x := ⟨rs, ps, 0, 0⟩) hfp, Option.bind_some]
    simp only
    cases hp : putAt ps i.B with
    | some j =>
      have hj := putAt_lt hp
      simp only [atI_some, cond_true, List.getElem?_eq_getElem hj]
      simp only [atI, idx_lt hj, Option.bind_some, rg_idx he.len ha]
      rw [need_pos na, chk1 he.len (by omega)]
      unfold impl_ExecRun_k5
      rw [hw]
      cases (regs.set i.A.toNat ps[j].Val).all inVb <;> rfl
    | none =>
      obtain ⟨b, hb1, hb2, _⟩ := box_at hl hb
      obtain ⟨v, hv1, hv2⟩ := read_lt (x := ⟨rs, ps, 0, 0⟩) hfr i.B
      simp only [atI_none, cond_false, hv1, hv2, Option.bind_some, hb1, hb2, need_pos n1]
      cases hs : saw rs i.B
      · simp only [Bool.not_false, cond_true, cond_false, Option.bind_some, Exc.go]
        unfold impl_ExecRun_j1 impl_ExecRun_k9
        rw [hb1, Option.bind_some, rg_idx he.len ha, Option.bind_some, need_pos na, chk2 he.len (by simp; omega), hw]
        cases (regs.set i.A.toNat b.Val).all inVb <;> rfl
      · simp only [Bool.not_true, cond_true, cond_false, Option.bind_some, Exc.go]
        unfold impl_ExecRun_j1 impl_ExecRun_k9
        rw [hb1, Option.bind_some, rg_idx he.len ha, Option.bind_some, need_pos na, chk2 he.len (by omega), hw]
        cases (regs.set i.A.toNat b.Val).all inVb <;> rfl
  · have nb : i.B < 4 := by omega
    simp only [h, show ((2 : Int) == 1) = false from rfl, show ((2 : Int) == 2) = true from rfl, cond_true, cond_false]
    rw [implAt_put (x := ⟨rs, ps, 0, 0⟩) hfp, Option.bind_some]
    simp only
    cases hp : putAt ps i.A with
    | some j =>
      have hj := putAt_lt hp
      simp only [atI_some, cond_true, List.getElem?_eq_getElem hj]
      simp only [atI, idx_lt hj, Option.bind_some, rg_idx he.len hb, Int.toNat_natCast]
      rw [need_pos nb]
      simp only [Option.bind_some, Exc.go]
      exact fin _ _ he.len
    | none =>
      simp only [atI_none, cond_false, Option.bind_some, rg_idx he.len hb]
      rw [need_pos nb, need_pos n2]
      simp only [Option.bind_some, Exc.go]
      exact fin _ _ he.len
  · have na : i.A < 4 := by omega
    simp only [h, show ((3 : Int) == 1) = false from rfl, show ((3 : Int) == 2) = false from rfl, show ((3 : Int) == 3) = true from rfl, cond_true, cond_false, rg_idx he.len ha, Option.bind_some]
    rw [need_pos na]
    simp only [Option.bind_some, Exc.go]
    exact fin _ _ (hset _ _)
  · have na : i.A < 4 := by omega
    have nb : i.B < 4 := by omega
    simp only [h, show ((4 : Int) == 1) = false from rfl, show ((4 : Int) == 2) = false from rfl, show ((4 : Int) == 3) = false from rfl, show ((4 : Int) == 4) = true from rfl, cond_true, cond_false, rg_idx he.len ha, rg_idx he.len hb, Option.bind_some, (numb (rg_in he.len he.rng ha) (rg_in he.len he.rng hb)).1, need_pos na, need_pos nb, Exc.go]
    exact fin _ _ (hset _ _)
  · have na : i.A < 4 := by omega
    have nb : i.B < 4 := by omega
    simp only [h, show ((5 : Int) == 1) = false from rfl, show ((5 : Int) == 2) = false from rfl, show ((5 : Int) == 3) = false from rfl, show ((5 : Int) == 4) = false from rfl, show ((5 : Int) == 5) = true from rfl, cond_true, cond_false, rg_idx he.len ha, rg_idx he.len hb, Option.bind_some, (numb (rg_in he.len he.rng ha) (rg_in he.len he.rng hb)).2, need_pos na, need_pos nb, Exc.go]
    exact fin _ _ (hset _ _)
  · exact absurd h h6
  · exact absurd h h7

/-- The loop of the program, and its end. -/
theorem implGo (hl : boxesOk l = true) {prog : List TIns} (hp : progOk prog = true) (R : List TRead) (P : List TPut) : ∀ (f k : Nat) (regs : List Int) (rs : List TRead) (ps : List TPut), EI regs rs ps k → prog.length < k + f → k ≤ prog.length + 10 →
    ((loop (fun s : (List Int) × (List TRead) × (List TPut) × (List TRead) × (List TPut) × Int => impl_ExecRun_b4 l prog s.1 s.2.1 s.2.2.1 s.2.2.2.1 s.2.2.2.2.1 s.2.2.2.2.2) (regs, R, P, rs, ps, (k : Int))).bind fun x => x.go (fun r => some r) fun s => impl_ExecRun_k2 s.1 s.2.1 s.2.2.1 s.2.2.2.1 s.2.2.2.2) = some (exGo l prog f k regs rs ps) := by
  obtain ⟨hlen, hins⟩ := progOk_parts hp
  have stop : ∀ (k : Nat) (regs : List Int) (rs : List TRead) (ps : List TPut), EI regs rs ps k → prog.length ≤ k → k ≤ prog.length + 10 → ((loop (fun s : (List Int) × (List TRead) × (List TPut) × (List TRead) × (List TPut) × Int => impl_ExecRun_b4 l prog s.1 s.2.1 s.2.2.1 s.2.2.2.1 s.2.2.2.2.1 s.2.2.2.2.2) (regs, R, P, rs, ps, (k : Int))).bind fun x => x.go (fun r => some r) fun s => impl_ExecRun_k2 s.1 s.2.1 s.2.2.1 s.2.2.2.1 s.2.2.2.2) = some ⟨rs, ps, rgv regs 0, 0⟩ := by
    intro k regs rs ps he h1 h2
    have h3 := he.rl
    have h4 := he.pl
    rw [loop_brk (b := (R, P, regs, rs, ps))]
    · simp only [Option.bind_some, Exc.go]
      unfold impl_ExecRun_k2
      rw [copyRead_eq (by omega), Option.bind_some, copyPut_eq (by omega), Option.bind_some, rg_idx he.len (a := 0) (by omega), Option.bind_some, need_pos (by decide)]
    · unfold impl_ExecRun_b4
      rw [show decide ((k : Int) < (prog.length : Int)) = false from by simp; omega]
      rfl
  intro f
  induction f with
  | zero =>
    intro k regs rs ps he hf hk
    exact stop k regs rs ps he (by omega) hk
  | succ f ih =>
    intro k regs rs ps he hf hk
    by_cases hlt : k < prog.length
    · have hi := hins _ (List.getElem_mem hlt)
      unfold exGo
      rw [List.getElem?_eq_getElem hlt]
      simp only
      by_cases h6 : prog[k].Kind = 6
      · obtain ⟨ha, hb, hn⟩ : (0 ≤ prog[k].A ∧ prog[k].A ≤ 3) ∧ (0 ≤ prog[k].B ∧ prog[k].B ≤ 3) ∧ 1 ≤ prog[k].N ∧ prog[k].N ≤ 10 := by
          rcases insOk_parts hi with ⟨h, _⟩ | ⟨h, _⟩ | ⟨h, _⟩ | ⟨h, _⟩ | ⟨h, _⟩ | ⟨h, x⟩ | ⟨h, _⟩
          all_goals first | (exact x) | (exfalso; omega)
        have hrl := he.rl
        have hb1 : impl_ExecRun_b4 l prog regs R P rs ps (k : Int) = some (.nxt (regs, R, P, rs, ps, ((bif decide (rgv regs prog[k].A < rgv regs prog[k].B) then k + prog[k].N.toNat + 1 else k + 1 : Nat) : Int))) := by
          have na : prog[k].A < 4 := by omega
          have nb : prog[k].B < 4 := by omega
          unfold impl_ExecRun_b4
          rw [lt_len _ k hlt, idx_lt hlt]
          simp only [cond_true, Option.bind_some, h6, show ((6 : Int) == 1) = false from rfl, show ((6 : Int) == 2) = false from rfl, show ((6 : Int) == 3) = false from rfl, show ((6 : Int) == 4) = false from rfl, show ((6 : Int) == 5) = false from rfl, show ((6 : Int) == 6) = true from rfl, cond_false, rg_idx he.len ha, rg_idx he.len hb, need_pos na, need_pos nb]
          cases decide (rgv regs prog[k].A < rgv regs prog[k].B)
          · simp only [cond_false, Option.bind_some, Exc.go]
            unfold impl_ExecRun_j2 impl_ExecRun_k13
            rw [chk3 he.len (by omega), he.rng, w64_in (by omega) (by omega)]
            rfl
          · simp only [cond_true, Option.bind_some, Exc.go]
            unfold impl_ExecRun_j2 impl_ExecRun_k13
            rw [chk3 he.len (by omega), he.rng, w64_in (n := (k : Int) + prog[k].N) (by omega) (by omega), w64_in (by omega) (by omega), show ((k + prog[k].N.toNat + 1 : Nat) : Int) = (k : Int) + prog[k].N + 1 from by omega]
            rfl
        rw [loop_nxt hb1, h6]
        simp only [show ((6 : Int) == 6) = true from rfl, cond_true]
        refine ih _ _ _ _ ⟨he.len, he.rng, ?_, ?_⟩ ?_ ?_
        all_goals
          have h1 := he.rl
          have h2 := he.pl
          cases decide (rgv regs prog[k].A < rgv regs prog[k].B) <;> simp only [cond_true, cond_false] <;> omega
      by_cases h7 : prog[k].Kind = 7
      · have hrl := he.rl
        have hb1 : impl_ExecRun_b4 l prog regs R P rs ps (k : Int) = some (.ret ⟨rs, [], 0, 1⟩) := by
          unfold impl_ExecRun_b4
          rw [lt_len _ k hlt, idx_lt hlt]
          simp only [cond_true, Option.bind_some, h7, show ((7 : Int) == 1) = false from rfl, show ((7 : Int) == 2) = false from rfl, show ((7 : Int) == 3) = false from rfl, show ((7 : Int) == 4) = false from rfl, show ((7 : Int) == 5) = false from rfl, show ((7 : Int) == 6) = false from rfl, show ((7 : Int) == 7) = true from rfl, cond_false]
          rw [copyRead_eq (by omega)]
          rfl
        rw [loop_ret hb1, h7]
        rfl
      · have hb1 := implStep_eq hl he (by omega) hlt hlen R P hi h6 h7
        rw [show (prog[k].Kind == 6) = false from by simpa using h6, show (prog[k].Kind == 7) = false from by simpa using h7, cond_false, cond_false]
        cases hall : (exI l prog[k] regs rs ps).1.all inVb
        · rw [hall, cond_false] at hb1
          rw [loop_ret hb1]
          rfl
        · rw [hall, cond_true] at hb1
          rw [loop_nxt hb1, cond_true]
          exact ih _ _ _ _ (he.next hall) (by omega) (by omega)
    · rw [exGo_end l (by omega)]
      exact stop k regs rs ps he (by omega) hk
theorem implRun_eq {l : List TBox} {prog : List TIns} (hl : Fits l) (hp : Fits prog) : impl_ExecRun l prog = some (execRun l prog) := by
  unfold impl_ExecRun execRun
  rw [implBoxOk_eq hl, Option.bind_some, implProgOk_eq hp, Option.bind_some]
  cases hb : boxesOk l
  · rfl
  cases ho : progOk prog
  · rfl
  rw [Bool.not_true, cond_false, cond_false]
  exact implGo hb ho [] [] (prog.length + 1) 0 [0, 0, 0, 0] [] [] ei0 (by omega) (by omega)
end
end Go.Proofs.YtggngdffdglolaaGreat

/- The law FnExactToldDone. -/
namespace Go.Proofs.YtggngdffdglolaaGreat
open Go

theorem told_small {l : List TEntry} (hl : l.length ≤ 40) (he : l.all entryOk = true) {k : Nat} (hk : k ≤ l.length) : (told l (folded l).2 k).length ≤ 40 := by
  obtain ⟨_, hlen, hc⟩ := folded_inv hl he l.length (Nat.le_refl _)
  rw [List.take_length] at hlen hc
  have h1 := told_len hlen k hk
  have h2 := cnt_range ((folded l).2.take k) 0
  rw [List.length_take] at h2
  omega
theorem specToldDone_eq {l : List TEntry} (h : okL 88 fEntry l) : spec_ToldDone l = some (toldDone l) := by
  unfold spec_ToldDone toldDone
  rw [specList_eq h, Option.bind_some]
  cases hok : listOk l
  · rfl
  have hf : Fits l := h.fits (by decide)
  obtain ⟨hl, he⟩ := listOk_parts hok
  obtain ⟨_, hlen, hc⟩ := folded_inv hl he l.length (Nat.le_refl _)
  rw [List.take_length] at hlen hc
  rw [Bool.not_true, cond_false, cond_true, specOpen_eq, Option.bind_some]
  have hloop := loop_to (body := fun s : (List TReq) × (List TBox) × Int × Int × List TDone => spec_ToldDone_b1 l s.1 s.2.1 s.2.2.1 s.2.2.2.1 s.2.2.2.2) (fun k => (told l (folded l).2 k, (folded (l.take k)).1.Boxes, (k : Int), (folded (l.take k)).1.At, (folded (l.take k)).1.Dones)) l.length (by
    intro k hk
    have hk2 : k < (folded l).2.length := by omega
    have hs := told_small hl he (k := k) (by omega)
    obtain ⟨h1, h2, h3⟩ := folded_inv hl he k (by omega)
    have n1 : ((told l (folded l).2 k).length + 1) * 16 ≤ 140737488355328 := by omega
    have hcode := folded_code hl he hk
    rw [List.getElem?_eq_getElem hk2] at hcode
    have hcode := Option.some.inj hcode
    show spec_ToldDone_b1 l (told l (folded l).2 k) (folded (l.take k)).1.Boxes (k : Int) (folded (l.take k)).1.At (folded (l.take k)).1.Dones = some (.nxt (told l (folded l).2 k ++ toldStep l (folded l).2 k, (folded (l.take (k + 1))).1.Boxes, ((k + 1 : Nat) : Int), (folded (l.take (k + 1))).1.At, (folded (l.take (k + 1))).1.Dones))
    rw [toldStep_at hk hk2, folded_take hk, hcode]
    unfold spec_ToldDone_b1 spec_ToldDone_j1
    rw [lt_len _ k hk, idx_lt hk, w64_next hf hk]
    simp only [cond_true, Option.bind_some]
    rw [show (⟨(folded (l.take k)).1.At, (folded (l.take k)).1.Boxes, (folded (l.take k)).1.Dones⟩ : TState) = (folded (l.take k)).1 from rfl, specApply_eq h1 (by omega) (List.all_eq_true.1 he _ (List.getElem_mem hk)) (h.2 _ (List.getElem_mem hk)), Option.bind_some, need_pos n1]
    cases (apply (folded (l.take k)).1 l[k]).2 == 0
    · simp only [cond_false, Option.bind_some, Exc.go, List.append_nil]
      rfl
    · rfl)
  rw [List.take_zero, List.take_length, show told l (folded l).2 0 = [] from rfl, show ((0 : Nat) : Int) = 0 from rfl] at hloop
  rw [show loop (fun s : (List TReq) × (List TBox) × Int × Int × List TDone => spec_ToldDone_b1 l s.1 s.2.1 s.2.2.1 s.2.2.2.1 s.2.2.2.2) (([] : List TReq), start.Boxes, 0, start.At, start.Dones) = _ from hloop, loop_brk (b := told l (folded l).2 l.length)]
  · rfl
  · unfold spec_ToldDone_b1
    rw [nlt_len]; rfl
theorem toldDone_fits (l : List TEntry) : Fits (toldDone l) := by
  unfold toldDone
  cases hok : listOk l
  · simp [Fits]
  · obtain ⟨hl, he⟩ := listOk_parts hok
    have := told_small hl he (Nat.le_refl _)
    show Fits (told l (folded l).2 l.length)
    unfold Fits
    omega
end Go.Proofs.YtggngdffdglolaaGreat

/- Programs one behind the other; the law FnExactToldAlone. -/
namespace Go.Proofs.YtggngdffdglolaaGreat
open Go

def serialOne (l : List TBox) (p : List TIns) : List TBox × Int × Int := bif (execRun l p).Code == 3 then ([], 0, 3) else (doPuts l (execRun l p).Puts, (execRun l p).Val, (execRun l p).Code)
theorem execRun_ran {l : List TBox} {p : List TIns} (hl : boxesOk l = true) (hp : Fits p) : Ran (execRun l p) := by
  obtain ⟨r, h1, h2, _⟩ := execRun_ok (boxesOk_fits hl) hp
  rw [specRun_eq (boxesOk_fits hl) hp] at h1
  injection h1 with h1
  rw [h1]
  exact h2 hl
theorem Ran.f {r : TRun} (h : Ran r) : fRun r := by
  have h1 := h.rlen
  have h2 := h.plen
  exact ⟨⟨by omega, fun _ _ => trivial⟩, ⟨by omega, fun _ _ => trivial⟩, trivial⟩
theorem Ran.puts {r : TRun} (h : Ran r) : ∀ p ∈ r.Puts, putFine p := by
  have := h.ok
  rw [runOk_iff] at this
  simp only [Bool.and_eq_true] at this
  exact (allP_iff.1 this.2.2.2.2.2).1
theorem run_form {l : List TBox} {p : List TIns} (hl : boxesOk l = false) : (execRun l p).Code = 3 := by
  unfold execRun
  rw [hl]
  rfl
theorem l1Copy_eq {l : List TBox} (h : boxesOk l = true) : spec_l1Copy l = some l := by
  have := boxesOk_len h
  unfold spec_l1Copy
  rw [need_pos (by simp; omega)]
  rfl
theorem specOne_eq {l : List TBox} {p : List TIns} (hl : Fits l) (hp : Fits p) : spec_SerialOne l p = some (serialOne l p) := by
  unfold spec_SerialOne serialOne
  rw [specRun_eq hl hp, Option.bind_some]
  cases hc : (execRun l p).Code == 3
  · have hb : boxesOk l = true := by
      cases hb : boxesOk l
      · rw [run_form hb] at hc; cases hc
      · rfl
    have hr := execRun_ran hb hp
    simp only [cond_false, l1Copy_eq hb, Option.bind_some, specDo_eq hb hr.f hr.puts]
  · rfl
theorem implOne_eq {l : List TBox} {p : List TIns} (hl : Fits l) (hp : Fits p) : impl_SerialOne l p = some (serialOne l p) := by
  unfold impl_SerialOne serialOne
  rw [implRun_eq hl hp, Option.bind_some]
  cases hc : (execRun l p).Code == 3
  · have hb : boxesOk l = true := by
      cases hb : boxesOk l
      · rw [run_form hb] at hc; cases hc
      · rfl
    have hr := execRun_ran hb hp
    simp only [cond_false, Option.bind_some, implDo_eq hb hr.f hr.ok]
  · rfl
theorem serialOne_ok {l : List TBox} {p : List TIns} (hl : boxesOk l = true) (hp : Fits p) (h : ((serialOne l p).2.2 == 3) = false) : boxesOk (serialOne l p).1 = true := by
  have hr := execRun_ran hl hp
  unfold serialOne at h ⊢
  cases hc : (execRun l p).Code == 3
  · rw [cond_false]
    exact doPuts_ok hl hr.puts
  · rw [hc, cond_true] at h
    cases h
def serGo : List (List TIns) → List TBox → List Int → List TBox × List Int
  | [], b, vs => (b, vs)
  | p :: ps, b, vs => bif (serialOne b p).2.2 == 3 then ([], []) else serGo ps (serialOne b p).1 (vs ++ [(serialOne b p).2.1])
def serialAll (l : List TBox) (progs : List (List TIns)) : List TBox × List Int := bif boxesOk l && decide (progs.length ≤ 100) then serGo progs l [] else ([], [])
theorem specAll_go {progs : List (List TIns)} (hp : ∀ p ∈ progs, Fits p) (hn : progs.length ≤ 100) : ∀ (m k : Nat) (b : List TBox) (vs : List Int), k + m = progs.length → boxesOk b = true → vs.length = k →
    ((loop (fun s : (List Int) × (List TBox) × Int => spec_SerialAll_b1 progs s.1 s.2.1 s.2.2) (vs, b, (k : Int))).bind fun x => x.go (fun r => some r) fun s => spec_SerialAll_k2 s.1 s.2) = some (serGo (progs.drop k) b vs) := by
  intro m
  induction m with
  | zero =>
    intro k b vs hk hb hv
    have : k = progs.length := by omega
    subst this
    rw [List.drop_length, loop_brk (b := (vs, b))]
    · rfl
    · unfold spec_SerialAll_b1
      simp only [nlt_len]
      rfl
  | succ m ih =>
    intro k b vs hk hb hv
    have hlt : k < progs.length := by omega
    have hpk := hp _ (List.getElem_mem hlt)
    have n1 : (vs.length + 1) * 8 ≤ 140737488355328 := by omega
    have hw : w64 ((k : Int) + 1) = ((k + 1 : Nat) : Int) := by rw [w64_in (by omega) (by omega)]; rfl
    have hb1 : spec_SerialAll_b1 progs vs b (k : Int) = some (bif (serialOne b progs[k]).2.2 == 3 then .ret ([], []) else .nxt (vs ++ [(serialOne b progs[k]).2.1], (serialOne b progs[k]).1, ((k + 1 : Nat) : Int))) := by
      unfold spec_SerialAll_b1
      simp only [lt_len _ k hlt, idx_lt hlt, cond_true, Option.bind_some, specOne_eq (boxesOk_fits hb) hpk, need_pos n1, hw]
      cases (serialOne b progs[k]).2.2 == 3 <;> rfl
    rw [List.drop_eq_getElem_cons hlt]
    unfold serGo
    cases hc : (serialOne b progs[k]).2.2 == 3
    · rw [hc, cond_false] at hb1
      rw [loop_nxt hb1, cond_false]
      exact ih (k + 1) _ _ (by omega) (serialOne_ok hb hpk hc) (by simp; omega)
    · rw [hc, cond_true] at hb1
      rw [loop_ret hb1]
      rfl
theorem specAll_eq {l : List TBox} {progs : List (List TIns)} (hl : Fits l) (hp : ∀ p ∈ progs, Fits p) : spec_SerialAll l progs = some (serialAll l progs) := by
  unfold spec_SerialAll serialAll
  rw [specBoxOk_eq hl, Option.bind_some]
  cases hb : boxesOk l
  · rfl
  rw [Bool.not_true, cond_false, Bool.true_and]
  by_cases hn : progs.length ≤ 100
  · have h1 : ¬ ((progs.length : Int) > 100) := by omega
    rw [decide_eq_false h1, cond_false, decide_eq_true hn, cond_true, l1Copy_eq hb, Option.bind_some]
    have := specAll_go hp hn progs.length 0 l [] (by omega) hb rfl
    rwa [List.drop_zero] at this
  · have h1 : (progs.length : Int) > 100 := by omega
    rw [decide_eq_true h1, decide_eq_false hn]
    rfl
theorem copiedInt_eq {l : List Int} (h : l.length ≤ 1000) : impl_copied_int l = some l := by
  unfold impl_copied_int
  cases hl : ((l.length : Int) == 0)
  · rw [cond_false, need_pos (by constructor <;> omega), need_pos (by simp)]
  · simp only [beq_iff_eq] at hl
    have : l = [] := List.eq_nil_of_length_eq_zero (by omega)
    rw [this]; rfl
theorem implAll_go {progs : List (List TIns)} (hp : ∀ p ∈ progs, Fits p) (hn : progs.length ≤ 100) : ∀ (m k : Nat) (b : List TBox) (vs : List Int), k + m = progs.length → boxesOk b = true → vs.length = k →
    ((loop (fun s : (List Int) × Int × List TBox => impl_SerialAll_b1 progs s.1 s.2.1 s.2.2) (vs, (k : Int), b)).bind fun x => x.go (fun r => some r) fun s => impl_SerialAll_k2 s.1 s.2) = some (serGo (progs.drop k) b vs) := by
  intro m
  induction m with
  | zero =>
    intro k b vs hk hb hv
    have : k = progs.length := by omega
    subst this
    rw [List.drop_length, loop_brk (b := (vs, b))]
    · simp only [Option.bind_some, Exc.go]
      unfold impl_SerialAll_k2
      rw [copiedInt_eq (by omega)]
      rfl
    · unfold impl_SerialAll_b1
      simp only [nlt_len]
      rfl
  | succ m ih =>
    intro k b vs hk hb hv
    have hlt : k < progs.length := by omega
    have hpk := hp _ (List.getElem_mem hlt)
    have n1 : (vs.length + 1) * 8 ≤ 140737488355328 := by omega
    have hw : w64 ((k : Int) + 1) = ((k + 1 : Nat) : Int) := by rw [w64_in (by omega) (by omega)]; rfl
    have hb1 : impl_SerialAll_b1 progs vs (k : Int) b = some (bif (serialOne b progs[k]).2.2 == 3 then .ret ([], []) else .nxt (vs ++ [(serialOne b progs[k]).2.1], ((k + 1 : Nat) : Int), (serialOne b progs[k]).1)) := by
      unfold impl_SerialAll_b1
      simp only [lt_len _ k hlt, idx_lt hlt, cond_true, Option.bind_some, implOne_eq (boxesOk_fits hb) hpk, need_pos n1, hw]
      cases (serialOne b progs[k]).2.2 == 3 <;> rfl
    rw [List.drop_eq_getElem_cons hlt]
    unfold serGo
    cases hc : (serialOne b progs[k]).2.2 == 3
    · rw [hc, cond_false] at hb1
      rw [loop_nxt hb1, cond_false]
      exact ih (k + 1) _ _ (by omega) (serialOne_ok hb hpk hc) (by simp; omega)
    · rw [hc, cond_true] at hb1
      rw [loop_ret hb1]
      rfl
theorem implAll_eq {l : List TBox} {progs : List (List TIns)} (hl : Fits l) (hp : ∀ p ∈ progs, Fits p) : impl_SerialAll l progs = some (serialAll l progs) := by
  unfold impl_SerialAll serialAll
  rw [implBoxOk_eq hl, Option.bind_some]
  cases hb : boxesOk l
  · rfl
  rw [Bool.not_true, cond_false, Bool.true_and]
  by_cases hn : progs.length ≤ 100
  · have h1 : ¬ ((progs.length : Int) > 100) := by omega
    rw [decide_eq_false h1, cond_false, decide_eq_true hn, cond_true, copiedBox_eq (by rw [boxesOk_len hb]; decide), Option.bind_some]
    have := implAll_go hp hn progs.length 0 l [] (by omega) hb rfl
    rwa [List.drop_zero] at this
  · have h1 : (progs.length : Int) > 100 := by omega
    rw [decide_eq_true h1, decide_eq_false hn]
    rfl

/-! ### What was asked -/
def askedFor (w : TWorld) (q : TReq) : Option TAsked := w.Asked.find? fun a => (([a.Req.Who, a.Req.Seq] : List Int) == [q.Who, q.Seq])
def progFor (w : TWorld) (q : TReq) : List TIns × Bool := match askedFor w q with
  | some a => (a.Prog, true)
  | none => ([], false)
theorem copiedIns_eq {l : List TIns} (h : l.length * 32 ≤ 140737488351232) : impl_copied_Ins l = some l := by
  unfold impl_copied_Ins
  cases hl : ((l.length : Int) == 0)
  · rw [cond_false, need_pos (by constructor <;> omega), need_pos (by simp)]
  · simp only [beq_iff_eq] at hl
    have : l = [] := List.eq_nil_of_length_eq_zero (by omega)
    rw [this]; rfl
theorem asked_prog {w : TWorld} (h : okWorld w) {a : TAsked} (ha : a ∈ w.Asked) : a.Prog.length * 32 ≤ 140737488351232 := (h.2.2.1.2 a ha).2.1
theorem specProg_eq {w : TWorld} (h : okWorld w) (q : TReq) : spec_ToldProg w q = some (progFor w q) := by
  have hf : Fits w.Asked := h.2.2.1.fits (by decide)
  unfold spec_ToldProg progFor askedFor
  rw [find_loop w.Asked hf (fun a => (([a.Req.Who, a.Req.Seq] : List Int) == [q.Who, q.Seq])) (fun a => (a.Prog, true)) ()]
  · cases w.Asked.find? (fun a => (([a.Req.Who, a.Req.Seq] : List Int) == [q.Who, q.Seq])) <;> rfl
  · intro k hk
    have := asked_prog h (List.getElem_mem hk)
    unfold spec_ToldProg_b1
    rw [lt_len _ k hk, idx_lt hk]
    simp only [cond_true, Option.bind_some]
    rw [need_pos (by simp; omega)]
    cases (([w.Asked[k].Req.Who, w.Asked[k].Req.Seq] : List Int) == [q.Who, q.Seq]) <;> rfl
  · unfold spec_ToldProg_b1
    rw [nlt_len]; rfl
theorem implProg_eq {w : TWorld} (h : okWorld w) (q : TReq) : impl_ToldProg w q = some (progFor w q) := by
  have hf : Fits w.Asked := h.2.2.1.fits (by decide)
  unfold impl_ToldProg progFor askedFor
  rw [find_loop w.Asked hf (fun a => (([a.Req.Who, a.Req.Seq] : List Int) == [q.Who, q.Seq])) (fun a => (a.Prog, true)) ()]
  · cases w.Asked.find? (fun a => (([a.Req.Who, a.Req.Seq] : List Int) == [q.Who, q.Seq])) <;> rfl
  · intro k hk
    have := asked_prog h (List.getElem_mem hk)
    unfold impl_ToldProg_b1
    rw [lt_len _ k hk, idx_lt hk]
    simp only [cond_true, Option.bind_some, copiedIns_eq this]
    cases (([w.Asked[k].Req.Who, w.Asked[k].Req.Seq] : List Int) == [q.Who, q.Seq]) <;> rfl
  · unfold impl_ToldProg_b1
    rw [nlt_len]; rfl
theorem progFor_fits {w : TWorld} (h : okWorld w) (q : TReq) : Fits (progFor w q).1 := by
  unfold progFor askedFor
  cases hf : w.Asked.find? (fun a => (([a.Req.Who, a.Req.Seq] : List Int) == [q.Who, q.Seq])) with
  | none => simp [Fits]
  | some a =>
    have := asked_prog h (List.mem_of_find?_eq_some hf)
    show a.Prog.length ≤ _
    omega
/-- All programs of these, or none. -/
def progsGo (w : TWorld) : List TReq → List (List TIns) → Option (List (List TIns))
  | [], o => some o
  | q :: qs, o => bif (progFor w q).2 then progsGo w qs (o ++ [(progFor w q).1]) else none
theorem progsGo_fits {w : TWorld} (h : okWorld w) : ∀ {qs : List TReq} {o ps : List (List TIns)}, progsGo w qs o = some ps → (∀ p ∈ o, Fits p) → ∀ p ∈ ps, Fits p
  | [], o, ps, hs, ho => by
    injection hs with hs
    subst hs
    exact ho
  | q :: qs, o, ps, hs, ho => by
    unfold progsGo at hs
    cases hq : (progFor w q).2
    · rw [hq] at hs; cases hs
    · rw [hq, cond_true] at hs
      refine progsGo_fits h hs fun p hp => ?_
      rcases List.mem_append.1 hp with hp | hp
      · exact ho p hp
      · rw [List.mem_singleton.1 hp]
        exact progFor_fits h q
theorem specProgs_go {w : TWorld} (h : okWorld w) {l : List TReq} (hl : l.length ≤ 1000) : ∀ (m k : Nat) (o : List (List TIns)), k + m = l.length → o.length = k →
    ((loop (fun s : (List (List TIns)) × Int => spec_l10Progs_b1 w l s.1 s.2) (o, (k : Int))).bind fun x => x.go (fun r => some r) fun s => spec_l10Progs_k2 s) = some (match progsGo w (l.drop k) o with | some ps => (ps, true) | none => ([], false)) := by
  intro m
  induction m with
  | zero =>
    intro k o hk ho
    have : k = l.length := by omega
    subst this
    rw [List.drop_length, loop_brk (b := o)]
    · rfl
    · unfold spec_l10Progs_b1
      simp only [nlt_len]
      rfl
  | succ m ih =>
    intro k o hk ho
    have hlt : k < l.length := by omega
    have n1 : (o.length + 1) * 24 ≤ 140737488355328 := by omega
    have hw : w64 ((k : Int) + 1) = ((k + 1 : Nat) : Int) := by rw [w64_in (by omega) (by omega)]; rfl
    have hb1 : spec_l10Progs_b1 w l o (k : Int) = some (bif (progFor w l[k]).2 then .nxt (o ++ [(progFor w l[k]).1], ((k + 1 : Nat) : Int)) else .ret ([], false)) := by
      unfold spec_l10Progs_b1
      simp only [lt_len _ k hlt, idx_lt hlt, cond_true, Option.bind_some, specProg_eq h, need_pos n1, hw]
      cases (progFor w l[k]).2 <;> rfl
    rw [List.drop_eq_getElem_cons hlt]
    unfold progsGo
    cases hc : (progFor w l[k]).2
    · rw [hc, cond_false] at hb1
      rw [loop_ret hb1]
      rfl
    · rw [hc, cond_true] at hb1
      rw [loop_nxt hb1, cond_true]
      exact ih (k + 1) _ (by omega) (by simp; omega)

/-! ### Boxes that are the same -/
def sameB (a b : List TBox) : Bool := (a.length == b.length) && (List.range a.length).all fun k => match a[k]?, b[k]? with
  | some x, some y => (([x.Ver, x.Val] : List Int) == [y.Ver, y.Val])
  | _, _ => false
theorem specSameB {a b : List TBox} (h : Fits a) : spec_BoxSame a b = some (sameB a b) := by
  unfold spec_BoxSame sameB
  rw [len_ne]
  cases hl : a.length == b.length
  · rfl
  have hl : a.length = b.length := by simpa using hl
  rw [Bool.not_true, cond_false, Bool.true_and, alli_loop a h (fun k => match a[k]?, b[k]? with | some x, some y => (([x.Ver, x.Val] : List Int) == [y.Ver, y.Val]) | _, _ => false) false ()]
  · cases (List.range a.length).all _ <;> rfl
  · intro k hk _
    unfold spec_BoxSame_b1
    rw [lt_len _ k hk, idx_lt hk, idx_lt (hl ▸ hk), List.getElem?_eq_getElem hk, List.getElem?_eq_getElem (hl ▸ hk)]
    simp only [cond_true, Option.bind_some]
    cases (([a[k].Ver, a[k].Val] : List Int) == [(b[k]'(hl ▸ hk)).Ver, (b[k]'(hl ▸ hk)).Val]) <;> rfl
  · unfold spec_BoxSame_b1
    rw [nlt_len]; rfl
theorem implSameB {a b : List TBox} (h : Fits a) : impl_BoxSame a b = some (sameB a b) := by
  unfold impl_BoxSame impl_same_Box sameB
  rw [len_ne]
  cases hl : a.length == b.length
  · rfl
  have hl : a.length = b.length := by simpa using hl
  rw [Bool.not_true, cond_false, Bool.true_and, alli_loop a h (fun k => match a[k]?, b[k]? with | some x, some y => (([x.Ver, x.Val] : List Int) == [y.Ver, y.Val]) | _, _ => false) false ()]
  · cases (List.range a.length).all _ <;> rfl
  · intro k hk _
    unfold impl_same_Box_b1
    rw [lt_len _ k hk, idx_lt hk, idx_lt (hl ▸ hk), List.getElem?_eq_getElem hk, List.getElem?_eq_getElem (hl ▸ hk)]
    simp only [cond_true, Option.bind_some]
    cases (([a[k].Ver, a[k].Val] : List Int) == [(b[k]'(hl ▸ hk)).Ver, (b[k]'(hl ▸ hk)).Val]) <;> rfl
  · unfold impl_same_Box_b1
    rw [nlt_len]; rfl

/-! ### What is done is in the list -/
theorem apply_none {s : TState} {e : TEntry} (h : e.None = true) : (apply s e).2 = 5 := by
  unfold apply
  rw [h]
  rfl
theorem told_mem {l : List TEntry} (hl : l.length ≤ 40) (he : l.all entryOk = true) : ∀ k, k ≤ l.length → ∀ q ∈ told l (folded l).2 k, ∃ e ∈ l, isReq q e = true
  | 0, _, q, hq => by cases hq
  | k + 1, hk, q, hq => by
    have h1 : k < l.length := by omega
    have hlen := (folded_inv hl he l.length (Nat.le_refl _)).2.1
    rw [List.take_length] at hlen
    have h2 : k < (folded l).2.length := by omega
    unfold told at hq
    rcases List.mem_append.1 hq with hq | hq
    · exact told_mem hl he k (by omega) q hq
    · rw [toldStep_at h1 h2] at hq
      cases hc : (folded l).2[k] == 0
      · rw [hc] at hq; cases hq
      · rw [hc, cond_true, List.mem_singleton] at hq
        refine ⟨l[k], List.getElem_mem h1, ?_⟩
        have hco := folded_code hl he h1
        rw [List.getElem?_eq_getElem h2] at hco
        have hco := Option.some.inj hco
        rw [hq]
        unfold isReq
        cases hn : l[k].None
        · simp
        · rw [apply_none hn] at hco
          rw [hco] at hc
          cases hc
theorem toldDone_mem {l : List TEntry} {q : TReq} (hq : q ∈ toldDone l) : ∃ i, ∃ h : i < l.length, l.findIdx? (isReq q) = some i := by
  unfold toldDone at hq
  cases hok : listOk l
  · rw [hok] at hq; cases hq
  · rw [hok, cond_true] at hq
    obtain ⟨hl, he⟩ := listOk_parts hok
    obtain ⟨e, h1, h2⟩ := told_mem hl he _ (Nat.le_refl _) q hq
    cases hf : l.findIdx? (isReq q) with
    | none =>
      have := (List.findIdx?_eq_none_iff.1 hf) e h1
      rw [h2] at this
      cases this
    | some i => exact ⟨i, (List.findIdx?_eq_some_iff_getElem.1 hf).1, rfl⟩

/-! ### All as if alone -/
def valAt (l : List TEntry) (q : TReq) : Int := match l.findIdx? (isReq q) with
  | some k => (match l[k]? with | some e => e.Run.Val | none => 0)
  | none => 0
theorem specValAt {l : List TEntry} (h : Fits l) (q : TReq) : spec_l10Val l q = some (valAt l q) := specVal_eq h q
def valsAs (l : List TEntry) (done : List TReq) (vals : List Int) : Bool := (List.range done.length).all fun i => match vals[i]?, done[i]? with
  | some v, some q => v == valAt l q
  | _, _ => false
def boxes0 : List TBox := List.replicate 4 ⟨0, 0⟩
def aloneOf (l : List TEntry) (ps : List (List TIns)) : Bool :=
  ((serialAll boxes0 ps).2.length == (toldDone l).length) && (sameB (serialAll boxes0 ps).1 (folded l).1.Boxes && valsAs l (toldDone l) (serialAll boxes0 ps).2)
def toldAlone (w : TWorld) : Bool := worldOk w && match progsGo w (toldDone (wlog w)) [] with
  | some ps => aloneOf (wlog w) ps
  | none => false
theorem boxes0_ok : boxesOk boxes0 = true := by decide
theorem serGo_small : ∀ {ps : List (List TIns)} {b : List TBox} {vs : List Int}, boxesOk b = true → (∀ p ∈ ps, Fits p) → Fits (serGo ps b vs).1
  | [], b, vs, hb, _ => boxesOk_fits hb
  | p :: ps, b, vs, hb, hp => by
    unfold serGo
    cases hc : (serialOne b p).2.2 == 3
    · rw [cond_false]
      exact serGo_small (serialOne_ok hb (hp p (by simp)) hc) fun q hq => hp q (by simp [hq])
    · simp [Fits]
theorem serialAll_fits {ps : List (List TIns)} (hp : ∀ p ∈ ps, Fits p) : Fits (serialAll boxes0 ps).1 := by
  unfold serialAll
  cases (boxesOk boxes0 && decide (ps.length ≤ 100))
  · simp [Fits]
  · exact serGo_small boxes0_ok hp
theorem implProgs_go {w : TWorld} (h : okWorld w) {lg : List TEntry} {l : List TReq} (hl : l.length ≤ 1000) : ∀ (m k : Nat) (o : List (List TIns)), k + m = l.length → o.length = k →
    ((loop (fun s : (List (List TIns)) × Int => impl_ToldAlone_b2 w l s.1 s.2) (o, (k : Int))).bind fun x => x.go (fun r => some r) fun s => impl_ToldAlone_k5 lg l s) = (match progsGo w (l.drop k) o with | some ps => impl_ToldAlone_k5 lg l ps | none => some false) := by
  intro m
  induction m with
  | zero =>
    intro k o hk ho
    have : k = l.length := by omega
    subst this
    rw [List.drop_length, loop_brk (b := o)]
    · rfl
    · unfold impl_ToldAlone_b2
      simp only [nlt_len]
      rfl
  | succ m ih =>
    intro k o hk ho
    have hlt : k < l.length := by omega
    have n1 : (o.length + 1) * 24 ≤ 140737488355328 := by omega
    have hw : w64 ((k : Int) + 1) = ((k + 1 : Nat) : Int) := by rw [w64_in (by omega) (by omega)]; rfl
    have hb1 : impl_ToldAlone_b2 w l o (k : Int) = some (bif (progFor w l[k]).2 then .nxt (o ++ [(progFor w l[k]).1], ((k + 1 : Nat) : Int)) else .ret false) := by
      unfold impl_ToldAlone_b2
      simp only [lt_len _ k hlt, idx_lt hlt, cond_true, Option.bind_some, implProg_eq h, need_pos n1, hw]
      cases (progFor w l[k]).2 <;> rfl
    rw [List.drop_eq_getElem_cons hlt]
    unfold progsGo
    cases hc : (progFor w l[k]).2
    · rw [hc, cond_false] at hb1
      rw [loop_ret hb1]
      rfl
    · rw [hc, cond_true] at hb1
      rw [loop_nxt hb1, cond_true]
      exact ih (k + 1) _ (by omega) (by simp; omega)
theorem specOpenB : spec_BoxOpen = some boxes0 := rfl
theorem implOpenB : impl_BoxOpen = some boxes0 := rfl
theorem wlog_parts {w : TWorld} (h : okWorld w) (hw : worldOk w = true) : okL 88 okEntry (wlog w) ∧ listOk (wlog w) = true ∧ spec_WorldLog w = some (wlog w) ∧ impl_WorldLog w = some (wlog w) := by
  obtain ⟨h0, hlo, hok⟩ := wlog_ok h hw
  exact ⟨hlo, hok, specLog_eq h h0, implLog_eq h h0⟩
theorem specAlone_eq {w : TWorld} (h : okWorld w) : spec_ToldAlone w = some (toldAlone w) := by
  unfold spec_ToldAlone toldAlone
  rw [specWorld_eq h, Option.bind_some]
  cases hw : worldOk w
  · rfl
  obtain ⟨hlo, hok, hs, hi⟩ := wlog_parts h hw
  obtain ⟨hl, he⟩ := listOk_parts hok
  have hf := okEntries.f hlo
  have hfl : Fits (wlog w) := hlo.fits (by decide)
  have hd : (toldDone (wlog w)).length ≤ 40 := by
    unfold toldDone
    rw [hok]
    exact told_small hl he (Nat.le_refl _)
  have hdf : Fits (toldDone (wlog w)) := toldDone_fits _
  simp only [Bool.not_true, cond_false, hs, Option.bind_some, specToldDone_eq hf, Bool.true_and]
  have hpg := specProgs_go h (l := toldDone (wlog w)) (by omega) (toldDone (wlog w)).length 0 [] (by omega) rfl
  rw [List.drop_zero] at hpg
  unfold spec_l10Progs
  rw [show loop (fun s : (List (List TIns)) × Int => spec_l10Progs_b1 w (toldDone (wlog w)) s.1 s.2) (([] : List (List TIns)), 0) = loop (fun s : (List (List TIns)) × Int => spec_l10Progs_b1 w (toldDone (wlog w)) s.1 s.2) (([] : List (List TIns)), ((0 : Nat) : Int)) from rfl, hpg, Option.bind_some]
  cases hps : progsGo w (toldDone (wlog w)) [] with
  | none => rfl
  | some ps =>
    have hpf := progsGo_fits h hps (by simp)
    simp only [Bool.not_true, cond_false, specOpenB, Option.bind_some, specAll_eq (boxesOk_fits boxes0_ok) hpf, len_ne]
    unfold aloneOf
    cases hle : (serialAll boxes0 ps).2.length == (toldDone (wlog w)).length
    · rfl
    have hle : (serialAll boxes0 ps).2.length = (toldDone (wlog w)).length := by simpa using hle
    simp only [Bool.not_true, cond_false, specCertFold_eq hf hok, Option.bind_some, specSameB (serialAll_fits hpf), Bool.true_and]
    cases sameB (serialAll boxes0 ps).1 (folded (wlog w)).1.Boxes
    · rfl
    simp only [Bool.not_true, cond_false, Bool.true_and]
    unfold valsAs
    rw [alli_loop (toldDone (wlog w)) hdf (fun i => match (serialAll boxes0 ps).2[i]?, (toldDone (wlog w))[i]? with | some v, some q => v == valAt (wlog w) q | _, _ => false) false ()]
    · cases (List.range (toldDone (wlog w)).length).all _ <;> rfl
    · intro k hk _
      unfold spec_ToldAlone_b1
      rw [lt_len _ k hk, idx_lt hk, idx_lt (hle ▸ hk), List.getElem?_eq_getElem hk, List.getElem?_eq_getElem (hle ▸ hk)]
      simp only [cond_true, Option.bind_some, specValAt hfl]
      rw [bne]
      cases ((serialAll boxes0 ps).2[k]'(hle ▸ hk)) == valAt (wlog w) (toldDone (wlog w))[k] <;> rfl
    · unfold spec_ToldAlone_b1
      rw [nlt_len]; rfl
theorem implAlone_eq {w : TWorld} (h : okWorld w) : impl_ToldAlone w = some (toldAlone w) := by
  unfold impl_ToldAlone toldAlone
  rw [implWorld_eq h, Option.bind_some]
  cases hw : worldOk w
  · rfl
  obtain ⟨hlo, hok, hs, hi⟩ := wlog_parts h hw
  obtain ⟨hl, he⟩ := listOk_parts hok
  have hf := okEntries.f hlo
  have hfl : Fits (wlog w) := hlo.fits (by decide)
  have hd : (toldDone (wlog w)).length ≤ 40 := by
    unfold toldDone
    rw [hok]
    exact told_small hl he (Nat.le_refl _)
  have hdf : Fits (toldDone (wlog w)) := toldDone_fits _
  simp only [Bool.not_true, cond_false, hi, Option.bind_some, implTold_eq hf, Bool.true_and]
  have hpg := implProgs_go h (lg := wlog w) (l := toldDone (wlog w)) (by omega) (toldDone (wlog w)).length 0 [] (by omega) rfl
  rw [List.drop_zero] at hpg
  rw [show loop (fun s : (List (List TIns)) × Int => impl_ToldAlone_b2 w (toldDone (wlog w)) s.1 s.2) ([], 0) = loop (fun s : (List (List TIns)) × Int => impl_ToldAlone_b2 w (toldDone (wlog w)) s.1 s.2) ([], ((0 : Nat) : Int)) from rfl, hpg]
  cases hps : progsGo w (toldDone (wlog w)) [] with
  | none => rfl
  | some ps =>
    have hpf := progsGo_fits h hps (by simp)
    simp only
    unfold impl_ToldAlone_k5
    simp only [implOpenB, Option.bind_some, implAll_eq (boxesOk_fits boxes0_ok) hpf, implCertFold_eq hf, hok, cond_true, implSameB (serialAll_fits hpf), len_ne]
    unfold aloneOf
    cases sameB (serialAll boxes0 ps).1 (folded (wlog w)).1.Boxes
    · simp
    cases hle : (serialAll boxes0 ps).2.length == (toldDone (wlog w)).length
    · rfl
    have hle : (serialAll boxes0 ps).2.length = (toldDone (wlog w)).length := by simpa using hle
    simp only [Bool.not_true, cond_false, Bool.true_and]
    unfold valsAs
    rw [alli_loop (toldDone (wlog w)) hdf (fun i => match (serialAll boxes0 ps).2[i]?, (toldDone (wlog w))[i]? with | some v, some q => v == valAt (wlog w) q | _, _ => false) false ()]
    · cases (List.range (toldDone (wlog w)).length).all _ <;> rfl
    · intro k hk _
      obtain ⟨i, hi, hfi⟩ := toldDone_mem (List.getElem_mem hk)
      unfold impl_ToldAlone_b1 valAt
      rw [lt_len _ k hk, idx_lt hk, idx_lt (hle ▸ hk), List.getElem?_eq_getElem hk, List.getElem?_eq_getElem (hle ▸ hk)]
      simp only [cond_true, Option.bind_some, implFirst_eq hfl, hfi, idx_lt hi, List.getElem?_eq_getElem hi]
      rw [bne]
      cases ((serialAll boxes0 ps).2[k]'(hle ▸ hk)) == (wlog w)[i].Run.Val <;> rfl
    · unfold impl_ToldAlone_b1
      rw [nlt_len]; rfl
theorem fnExactToldAlone_true {w : TWorld} (h : okWorld w) : laws_FnExactToldAlone w = some true := by
  obtain ⟨v, h1⟩ := szWorld_tot h 1048576
  unfold laws_FnExactToldAlone
  rw [h1, Option.bind_some]
  cases decide (v < 0)
  · simp only [cond_false, toWorld_eq h, Option.bind_some, specAlone_eq h, implAlone_eq h, beq_self_eq_true, Bool.not_true, eqWorld_self h]
  · rfl
end Go.Proofs.YtggngdffdglolaaGreat
