/- The plain laws, in one text. -/
import Derived.Test.YtpiaaeggofnphaaAm32
import Derived.IntWalk
import Derived.Test.YtpiaaeggofnphaaOp
import Derived.Test.YtpiaaeggofnphaaF2
set_option linter.unusedVariables false
set_option linter.unusedSimpArgs false

/- Loops of the plain functions, told without a loop. -/
namespace Go.Proofs.Ytpiaaeggofnphaa
open Go

theorem w64_in {n : Int} (h1 : -9223372036854775808 ≤ n) (h2 : n ≤ 9223372036854775807) : w64 n = n := IntWalk.i64_in n ⟨h1, h2⟩

/-- How great a list can be. -/
def Fits {α : Type} (l : List α) : Prop := l.length ≤ 140737488351232

theorem w64_next {α : Type} {l : List α} (hl : Fits l) {k : Nat} (h : k < l.length) : w64 ((k : Int) + 1) = ((k + 1 : Nat) : Int) := by
  unfold Fits at hl
  rw [w64_in (by omega) (by omega)]
  omega

section
variable {R S B : Type} {body : S → Option (Stp R S B)}
theorem loop_nxt {s t : S} (h : body s = some (.nxt t)) : loop body s = loop body t := by rw [loop_eq, h]
theorem loop_brk {s : S} {b : B} (h : body s = some (.brk b)) : loop body s = some (.brk b) := by rw [loop_eq, h]
theorem loop_ret {s : S} {r : R} (h : body s = some (.ret r)) : loop body s = some (.ret r) := by rw [loop_eq, h]
/-- A loop that comes through all its rounds. -/
theorem loop_to (st : Nat → S) (n : Nat) (h : ∀ k, k < n → body (st k) = some (.nxt (st (k + 1)))) : loop body (st 0) = loop body (st n) := by
  induction n with
  | zero => rfl
  | succ n ih =>
    rw [ih fun k hk => h k (by omega)]
    exact loop_nxt (h n (by omega))
/-- A loop that looks at each round whether something stands, and ends where it doesn't. -/
theorem loop_chk (st : Nat → S) (n : Nat) (ok : Nat → Bool) (r : Nat → R) (b : B)
    (h1 : ∀ k, k < n → (∀ j, j < k → ok j = true) → body (st k) = some (bif ok k then .nxt (st (k + 1)) else .ret (r k)))
    (h2 : (∀ j, j < n → ok j = true) → body (st n) = some (.brk b)) :
    (loop body (st 0) = some (.brk b) ∧ ∀ j, j < n → ok j = true) ∨ ∃ k, k < n ∧ ok k = false ∧ (∀ j, j < k → ok j = true) ∧ loop body (st 0) = some (.ret (r k)) := by
  by_cases hall : ∀ j, j < n → ok j = true
  · left
    refine ⟨?_, hall⟩
    rw [loop_to st n fun k hk => ?_]
    · exact loop_brk (h2 hall)
    · rw [h1 k hk fun j hj => hall j (by omega), hall k hk]; rfl
  · right
    have hex : ∃ k, k < n ∧ ok k = false := by
      apply Classical.byContradiction
      intro hn
      apply hall
      intro j hj
      cases hj' : ok j with
      | true => rfl
      | false => exact absurd ⟨j, hj, hj'⟩ hn
    obtain ⟨k, hk, ho, hb⟩ : ∃ k, k < n ∧ ok k = false ∧ ∀ j, j < k → ok j = true := by
      obtain ⟨k, hk, ho⟩ := hex
      induction k using Nat.strongRecOn with
      | _ k ih =>
        by_cases hb : ∀ j, j < k → ok j = true
        · exact ⟨k, hk, ho, hb⟩
        · have : ∃ j, j < k ∧ ok j = false := by
            apply Classical.byContradiction
            intro hn
            apply hb
            intro j hj
            cases hj' : ok j with
            | true => rfl
            | false => exact absurd ⟨j, hj, hj'⟩ hn
          obtain ⟨j, hj, hjo⟩ := this
          exact ih j hj (by omega) hjo
    refine ⟨k, hk, ho, hb, ?_⟩
    rw [loop_to st k fun j hj => ?_]
    · refine loop_ret ?_
      rw [h1 k hk hb, ho]
      rfl
    · rw [h1 j (by omega) fun i hi => hb i (by omega), hb j hj]; rfl
end

/-- A loop by an invariant and a number that falls. -/
theorem loop_inv {R S B : Type} {body : S → Option (Stp R S B)} (I : Nat → S → Prop) (Q : Exc R B → Prop)
    (h : ∀ k s, I k s → ∃ st, body s = some st ∧ match st with | .ret r => Q (.ret r) | .brk b => Q (.brk b) | .nxt t => ∃ k', k' < k ∧ I k' t) : ∀ {k s}, I k s → ∃ x, loop body s = some x ∧ Q x := by
  intro k
  induction k using Nat.strongRecOn with
  | _ k ih =>
    intro s hs
    obtain ⟨st, hb, hq⟩ := h k s hs
    cases st with
    | ret r => exact ⟨_, loop_ret hb, hq⟩
    | brk b => exact ⟨_, loop_brk hb, hq⟩
    | nxt t =>
      obtain ⟨k', hk, ht⟩ := hq
      obtain ⟨x, hx, hq⟩ := ih k' hk ht
      exact ⟨x, by rw [loop_nxt hb]; exact hx, hq⟩

theorem need_pos {β : Type} {p : Prop} [Decidable p] (h : p) (k : Option β) : need p k = k := if_pos h

theorem idx_nat {α : Type} (l : List α) (k : Nat) : idx l (k : Int) = l[k]? := by
  unfold idx
  rw [if_pos (by omega)]
  rfl
theorem idx_lt {α : Type} {l : List α} {k : Nat} (h : k < l.length) : idx l (k : Int) = some l[k] := by
  rw [idx_nat, List.getElem?_eq_getElem h]

theorem lt_len {α : Type} (l : List α) (k : Nat) (h : k < l.length) : decide ((k : Int) < (l.length : Int)) = true := by simpa using h
theorem nlt_len {α : Type} (l : List α) : decide ((l.length : Int) < (l.length : Int)) = false := by simp

/-- A loop over a list that ends at the first element for which a test says no. -/
theorem all_loop {α B : Type} {body : Int → Option (Stp Bool Int B)} (l : List α) (hl : Fits l) (ok : α → Bool) (v : Bool) (b : B)
    (h1 : ∀ (k : Nat) (h : k < l.length), body (k : Int) = some (bif ok l[k] then .nxt (w64 ((k : Int) + 1)) else .ret v))
    (h2 : body (l.length : Int) = some (.brk b)) : loop body 0 = some (bif l.all ok then .brk b else .ret v) := by
  have h := loop_chk (body := body) (fun k => (k : Int)) l.length (fun k => match l[k]? with | some x => ok x | none => true) (fun _ => v) b
    (fun k hk _ => by
      have := h1 k hk
      rw [w64_next hl hk] at this
      simpa [List.getElem?_eq_getElem hk] using this) (fun _ => h2)
  rcases h with ⟨h, hall⟩ | ⟨k, hk, ho, _, h⟩
  · have : l.all ok = true := by
      rw [List.all_eq_true]
      intro x hx
      obtain ⟨i, hi, rfl⟩ := List.getElem_of_mem hx
      have := hall i hi
      simpa [List.getElem?_eq_getElem hi] using this
    rw [this]; exact h
  · have : l.all ok = false := by
      rw [List.all_eq_false]
      refine ⟨l[k], List.getElem_mem hk, ?_⟩
      simpa [List.getElem?_eq_getElem hk] using ho
    rw [this]; exact h

/-- As `all_loop`, where the test may look at the place. -/
theorem alli_loop {α B : Type} {body : Int → Option (Stp Bool Int B)} (l : List α) (hl : Fits l) (ok : Nat → Bool) (v : Bool) (b : B)
    (h1 : ∀ (k : Nat) (h : k < l.length), (∀ j, j < k → ok j = true) → body (k : Int) = some (bif ok k then .nxt (w64 ((k : Int) + 1)) else .ret v))
    (h2 : body (l.length : Int) = some (.brk b)) : loop body 0 = some (bif (List.range l.length).all ok then .brk b else .ret v) := by
  have h := loop_chk (body := body) (fun k => (k : Int)) l.length ok (fun _ => v) b
    (fun k hk hb => by
      have := h1 k hk hb
      rw [w64_next hl hk] at this
      exact this) (fun _ => h2)
  rcases h with ⟨h, hall⟩ | ⟨k, hk, ho, _, h⟩
  · have : (List.range l.length).all ok = true := by
      rw [List.all_eq_true]
      intro x hx
      exact hall x (by simpa using hx)
    rw [this]; exact h
  · have : (List.range l.length).all ok = false := by
      rw [List.all_eq_false]
      exact ⟨k, by simpa using hk, by simp [ho]⟩
    rw [this]; exact h

/-- A loop that makes a copy. -/
theorem copy_loop {α R B : Type} {body : List α × Int → Option (Stp R (List α × Int) B)} (l : List α) (hl : Fits l) (z : α) (f : List α → B)
    (h1 : ∀ (k : Nat) (h : k < l.length) (out : List α), out.length = l.length → body (out, (k : Int)) = some (.nxt (out.set k l[k], w64 ((k : Int) + 1))))
    (h2 : body (l, (l.length : Int)) = some (.brk (f l))) : loop body (List.replicate l.length z, 0) = some (.brk (f l)) := by
  have h := loop_to (body := body) (fun k => (l.take k ++ List.replicate (l.length - k) z, (k : Int))) l.length (fun k hk => by
    have := h1 k hk (l.take k ++ List.replicate (l.length - k) z) (by simp; omega)
    rw [w64_next hl hk] at this
    rw [this]
    congr 3
    rw [List.set_append_right k l[k] (by simp; omega)]
    rw [show l.length - k = (l.length - (k + 1)) + 1 from by omega, List.replicate_succ]
    rw [show k - (List.take k l).length = 0 from by simp; omega, List.set_cons_zero, List.take_succ_eq_append_getElem hk, List.append_assoc]
    rfl)
  simp only [List.take_zero, List.nil_append, Nat.sub_zero, List.take_length, Nat.sub_self, List.replicate_zero, List.append_nil] at h
  rw [show ((0 : Nat) : Int) = 0 from rfl] at h
  rw [h]
  exact loop_brk h2

/-- A loop that looks for the first of a kind. -/
theorem find_loop {α R B : Type} {body : Int → Option (Stp R Int B)} (l : List α) (hl : Fits l) (is : α → Bool) (f : α → R) (b : B)
    (h1 : ∀ (k : Nat) (h : k < l.length), body (k : Int) = some (bif is l[k] then .ret (f l[k]) else .nxt (w64 ((k : Int) + 1))))
    (h2 : body (l.length : Int) = some (.brk b)) : loop body 0 = some (match l.find? is with | some x => .ret (f x) | none => .brk b) := by
  have key : ∀ (m k : Nat), k + m = l.length → loop body (k : Int) = some (match (l.drop k).find? is with | some x => .ret (f x) | none => .brk b) := by
    intro m
    induction m with
    | zero =>
      intro k hk
      have : k = l.length := by omega
      subst this
      rw [List.drop_length]
      exact loop_brk h2
    | succ m ih =>
      intro k hk
      have hlt : k < l.length := by omega
      have hb := h1 k hlt
      rw [List.drop_eq_getElem_cons hlt, List.find?_cons]
      cases hq : is l[k] with
      | true =>
        rw [hq] at hb
        exact loop_ret hb
      | false =>
        rw [hq] at hb
        rw [loop_nxt hb, w64_next hl hlt]
        exact ih (k + 1) (by omega)
  have := key l.length 0 (by omega)
  simpa using this
/-- A loop that goes through a list with something of its own. -/
theorem fold_loop {α S R B : Type} {body : S × Int → Option (Stp R (S × Int) B)} (l : List α) (hl : Fits l) (g : S → α → S) (s0 : S) (b : S → B)
    (h1 : ∀ (k : Nat) (h : k < l.length), body ((l.take k).foldl g s0, (k : Int)) = some (.nxt (g ((l.take k).foldl g s0) l[k], w64 ((k : Int) + 1))))
    (h2 : body (l.foldl g s0, (l.length : Int)) = some (.brk (b (l.foldl g s0)))) : loop body (s0, 0) = some (.brk (b (l.foldl g s0))) := by
  have h := loop_to (body := body) (fun k => ((l.take k).foldl g s0, (k : Int))) l.length (fun k hk => by
    rw [h1 k hk, w64_next hl hk, List.take_succ_eq_append_getElem hk, List.foldl_append]
    rfl)
  simp only [List.take_zero, List.foldl_nil, List.take_length] at h
  rw [show ((0 : Nat) : Int) = 0 from rfl] at h
  rw [h]
  exact loop_brk h2
end Go.Proofs.Ytpiaaeggofnphaa

/- Plain laws: copies, sizes, entries by themselves, neighbours that can be swapped. -/
namespace Go.Proofs.Ytpiaaeggofnphaa
open Go

theorem okL.fits {α : Type} {bytes : Nat} {ok : α → Prop} {l : List α} (h : okL bytes ok l) (hb : 0 < bytes) : Fits l := by
  obtain ⟨h, _⟩ := h
  unfold Fits
  have : l.length * 1 ≤ l.length * bytes := Nat.mul_le_mul_left _ hb
  omega
/-- What is asked of sizes alone. -/
def fRun (x : TRun) : Prop := okL 16 okT x.Reads ∧ okL 16 okT x.Puts ∧ True
def fEntry (x : TEntry) : Prop := True ∧ fRun x.Run
theorem okL.imp {α : Type} {bytes : Nat} {ok ok' : α → Prop} {l : List α} (h : okL bytes ok l) (hi : ∀ x, ok x → ok' x) : okL bytes ok' l := ⟨h.1, fun x hx => hi x (h.2 x hx)⟩
theorem okRun.f {x : TRun} (h : okRun x) : fRun x := ⟨h.1.imp fun _ _ => trivial, h.2.1.imp fun _ _ => trivial, trivial⟩
theorem okEntry.f {x : TEntry} (h : okEntry x) : fEntry x := ⟨trivial, h.2.f⟩
theorem okEntries.f {l : List TEntry} (h : okL 88 okEntry l) : okL 88 fEntry l := h.imp fun _ x => x.f

/-! ### Copies -/
theorem toReadS_eq {l : List TRead} (h : okL 16 okT l) : laws_toReadS l = some l := by
  have hf : Fits l := h.fits (by decide)
  have hb := h.1
  unfold laws_toReadS need
  rw [if_pos (by constructor <;> omega), Int.toNat_natCast, copy_loop l hf _ id]
  · rfl
  · intro k hk out ho
    unfold laws_toReadS_b1 laws_toRead
    rw [lt_len l k hk]
    simp [idx_lt hk, idx_lt (ho ▸ hk), Option.bind]
  · unfold laws_toReadS_b1
    rw [nlt_len]
    rfl
theorem toPutS_eq {l : List TPut} (h : okL 16 okT l) : laws_toPutS l = some l := by
  have hf : Fits l := h.fits (by decide)
  have hb := h.1
  unfold laws_toPutS need
  rw [if_pos (by constructor <;> omega), Int.toNat_natCast, copy_loop l hf _ id]
  · rfl
  · intro k hk out ho
    unfold laws_toPutS_b1 laws_toPut
    rw [lt_len l k hk]
    simp [idx_lt hk, idx_lt (ho ▸ hk), Option.bind]
  · unfold laws_toPutS_b1
    rw [nlt_len]
    rfl
theorem toRun_eq {x : TRun} (h : fRun x) : laws_toRun x = some x := by
  unfold laws_toRun
  rw [toReadS_eq h.1, Option.bind_some, toPutS_eq h.2.1]
  rfl
theorem toEntry_eq {x : TEntry} (h : fEntry x) : laws_toEntry x = some x := by
  unfold laws_toEntry laws_toReq
  rw [Option.bind_some, toRun_eq h.2]
  rfl
theorem toEntryS_eq {l : List TEntry} (h : okL 88 fEntry l) : laws_toEntryS l = some l := by
  have hf : Fits l := h.fits (by decide)
  have hb := h.1
  unfold laws_toEntryS need
  rw [if_pos (by constructor <;> omega), Int.toNat_natCast, copy_loop l hf _ id]
  · rfl
  · intro k hk out ho
    unfold laws_toEntryS_b1
    rw [lt_len l k hk]
    simp [idx_lt hk, idx_lt (ho ▸ hk), Option.bind, toEntry_eq (h.2 _ (List.getElem_mem hk))]
  · unfold laws_toEntryS_b1
    rw [nlt_len]
    rfl

/-! ### Sizes -/
theorem szRun_tot (x : TRun) (n : Int) : ∃ v, laws_szRun x n = some v := by
  unfold laws_szRun laws_szReadS laws_szPutS
  simp only [cond_eq_ite]
  repeat' (first | (split; skip) | (simp only [Option.bind_some]; skip))
  all_goals simp
  all_goals grind
theorem szEntry_tot (x : TEntry) (n : Int) : ∃ v, laws_szEntry x n = some v := by
  obtain ⟨v, h⟩ := szRun_tot x.Run n
  unfold laws_szEntry
  rw [h, Option.bind_some]
  cases decide (v < 0) <;> exact ⟨_, rfl⟩
theorem szEntryS_tot {l : List TEntry} (h : Fits l) (n : Int) : ∃ v, laws_szEntryS l n = some v := by
  unfold laws_szEntryS
  cases decide (w64 (n - ↑l.length) < 0)
  · simp only [cond_false]
    obtain ⟨x, hx, _⟩ := loop_inv (body := fun s : Int × Int => laws_szEntryS_b1 l s.1 s.2) (fun k s => ∃ j : Nat, s.2 = (j : Int) ∧ j + k = l.length) (fun _ => True) (fun k s ⟨j, hj, hk⟩ => by
      unfold laws_szEntryS_b1
      rw [hj]
      by_cases hlt : j < l.length
      · rw [lt_len l j hlt, idx_lt hlt]
        obtain ⟨v, hv⟩ := szEntry_tot l[j] s.1
        simp only [cond_true, Option.bind_some, hv]
        cases decide (v < 0)
        · exact ⟨_, rfl, k - 1, by omega, j + 1, w64_next h hlt, by omega⟩
        · exact ⟨_, rfl, trivial⟩
      · have : j = l.length := by omega
        subst this
        rw [nlt_len]
        exact ⟨_, rfl, trivial⟩) (k := l.length) (s := (w64 (n - ↑l.length), 0)) ⟨0, rfl, by omega⟩
    rw [hx, Option.bind_some]
    cases x with
    | ret r => exact ⟨_, rfl⟩
    | brk b => exact ⟨_, rfl⟩
  · exact ⟨_, rfl⟩

/-! ### A list is itself -/
theorem eqReadS_self {l : List TRead} (h : Fits l) : laws_eqReadS l l = some true := by
  unfold laws_eqReadS
  rw [bne_self_eq_false, cond_false, all_loop l h (fun _ => true) false ()]
  · rw [show l.all (fun _ => true) = true from by simp]; rfl
  · intro k hk
    unfold laws_eqReadS_b1 laws_eqRead
    rw [lt_len l k hk, idx_lt hk]
    simp [bne_self_eq_false]
  · unfold laws_eqReadS_b1
    rw [nlt_len]; rfl
theorem eqPutS_self {l : List TPut} (h : Fits l) : laws_eqPutS l l = some true := by
  unfold laws_eqPutS
  rw [bne_self_eq_false, cond_false, all_loop l h (fun _ => true) false ()]
  · rw [show l.all (fun _ => true) = true from by simp]; rfl
  · intro k hk
    unfold laws_eqPutS_b1 laws_eqPut
    rw [lt_len l k hk, idx_lt hk]
    simp [bne_self_eq_false]
  · unfold laws_eqPutS_b1
    rw [nlt_len]; rfl
theorem eqRun_self {x : TRun} (h : fRun x) : laws_eqRun x x = some true := by
  unfold laws_eqRun
  rw [eqReadS_self (h.1.fits (by decide)), Option.bind_some, Bool.not_true, cond_false, eqPutS_self (h.2.1.fits (by decide)), Option.bind_some, Bool.not_true, cond_false]
  simp
theorem eqEntry_self {x : TEntry} (h : fEntry x) : laws_eqEntry x x = some true := by
  unfold laws_eqEntry
  rw [eqRun_self h.2]
  unfold laws_eqReq
  simp
theorem eqEntryS_self {l : List TEntry} (h : okL 88 fEntry l) : laws_eqEntryS l l = some true := by
  have hf : Fits l := h.fits (by decide)
  unfold laws_eqEntryS
  rw [bne_self_eq_false, cond_false, all_loop l hf (fun _ => true) false ()]
  · rw [show l.all (fun _ => true) = true from by simp]; rfl
  · intro k hk
    unfold laws_eqEntryS_b1
    rw [lt_len l k hk, idx_lt hk]
    simp [eqEntry_self (h.2 _ (List.getElem_mem hk))]
  · unfold laws_eqEntryS_b1
    rw [nlt_len]; rfl

/-! ### Runs: the small looks -/
def saw (l : List TRead) (box : Int) : Bool := l.any (·.Box == box)
def sawP (l : List TPut) (box : Int) : Bool := l.any (·.Box == box)
theorem l3Saw_eq {l : List TRead} (h : Fits l) (box : Int) : spec_l3Saw l box = some (saw l box) := by
  unfold spec_l3Saw
  rw [all_loop l h (fun x => !(x.Box == box)) true ()]
  · unfold saw
    rw [List.any_eq_not_all_not]
    cases l.all fun x => !(x.Box == box) <;> rfl
  · intro k hk
    unfold spec_l3Saw_b1
    rw [lt_len l k hk, idx_lt hk]
    cases hq : l[k].Box == box <;> simp [hq]
  · unfold spec_l3Saw_b1
    rw [nlt_len]; rfl
/-- A loop that finds a place, or none. -/
theorem at_loop {α B : Type} {body : Int → Option (Stp Int Int B)} (l : List α) (hl : Fits l) (is : α → Bool) (b : B)
    (h1 : ∀ (k : Nat) (h : k < l.length), body (k : Int) = some (bif is l[k] then .ret (k : Int) else .nxt (w64 ((k : Int) + 1))))
    (h2 : body (l.length : Int) = some (.brk b)) : (loop body 0 = some (.brk b) ∧ l.any is = false) ∨ ∃ k : Nat, loop body 0 = some (.ret (k : Int)) ∧ l.any is = true := by
  have h := loop_chk (body := body) (fun k => (k : Int)) l.length (fun k => match l[k]? with | some x => !is x | none => true) (fun k => (k : Int)) b
    (fun k hk _ => by
      have := h1 k hk
      rw [w64_next hl hk] at this
      rw [this]
      simp only [List.getElem?_eq_getElem hk]
      cases is l[k] <;> rfl) (fun _ => h2)
  rcases h with ⟨h, hall⟩ | ⟨k, hk, ho, _, h⟩
  · left
    refine ⟨h, ?_⟩
    rw [List.any_eq_false]
    intro x hx
    obtain ⟨i, hi, rfl⟩ := List.getElem_of_mem hx
    have := hall i hi
    simpa [List.getElem?_eq_getElem hi] using this
  · right
    refine ⟨k, h, ?_⟩
    rw [List.any_eq_true]
    refine ⟨l[k], List.getElem_mem hk, ?_⟩
    simpa [List.getElem?_eq_getElem hk] using ho
theorem l3At_eq {l : List TPut} (h : Fits l) (box : Int) : ∃ v, spec_l3At l box = some v ∧ decide (v ≥ 0) = sawP l box := by
  unfold spec_l3At
  rcases at_loop (body := fun s : Int => spec_l3At_b1 l box s) l h (fun x => x.Box == box) () (by
    intro k hk
    unfold spec_l3At_b1
    rw [lt_len l k hk, idx_lt hk]
    cases hq : l[k].Box == box <;> simp [hq]) (by unfold spec_l3At_b1; rw [nlt_len]; rfl) with ⟨h1, h2⟩ | ⟨k, h1, h2⟩
  · rw [h1]
    exact ⟨-1, rfl, h2.symm⟩
  · rw [h1]
    refine ⟨k, rfl, ?_⟩
    rw [show sawP l box = true from h2]
    simp
def clashes (a b : TRun) (box : Int) : Bool := (sawP a.Puts box && (sawP b.Puts box || saw b.Reads box)) || (sawP b.Puts box && saw a.Reads box)
/-! ### Ranges -/
def inR (n lo hi : Int) : Bool := decide (lo ≤ n ∧ n ≤ hi)
theorem in_eq (n lo hi : Int) : impl_in n lo hi = some (inR n lo hi) := by
  unfold impl_in inR
  by_cases h : n ≥ lo
  · have h' : lo ≤ n := h
    simp [h']
  · have h' : ¬ lo ≤ n := h
    simp [h']
theorem l1Num_eq (n : Int) : spec_l1Num n = some (inR n (-1000000) 1000000) := in_eq n (-1000000) 1000000
theorem l2Box_eq (n : Int) : spec_l2Box n = some (inR n 0 3) := by
  rw [← in_eq]
  unfold spec_l2Box impl_in
  have : (n < 4) = (n ≤ 3) := by apply propext; omega
  simp only [this]
theorem reqOk_eq (q : TReq) : impl_reqOk q = some (inR q.Who 0 2 && inR q.Seq 1 1000) := by
  unfold impl_reqOk
  simp only [in_eq, Option.bind_some]
  cases inR q.Who 0 2 <;> rfl
theorem l5Req_eq (q : TReq) : spec_l5Req q = some (inR q.Who 0 2 && inR q.Seq 1 1000) := by
  have h3 : (q.Who < 3) = (q.Who ≤ 2) := by apply propext; omega
  unfold spec_l5Req inR
  simp only [h3]
  by_cases h1 : q.Who ≥ 0 <;> by_cases h2 : q.Who ≤ 2 <;> by_cases h4 : q.Seq ≥ 1 <;> by_cases h5 : q.Seq ≤ 1000 <;> simp [h1, h2, h4, h5] <;> omega

/-! ### A run by itself -/
def okReads (l : List TRead) (k : Nat) : Bool := match l[k]? with
  | some x => inR x.Box 0 3 && (inR x.Ver 0 1000000 && !saw (l.take k) x.Box)
  | none => true
def okPuts (l : List TPut) (k : Nat) : Bool := match l[k]? with
  | some x => inR x.Box 0 3 && (inR x.Val (-1000000) 1000000 && !sawP (l.take k) x.Box)
  | none => true
theorem take_fits {α : Type} {l : List α} (h : Fits l) (k : Nat) : Fits (l.take k) := by
  unfold Fits at h ⊢
  rw [List.length_take]
  omega
theorem readsS {r : TRun} (h : Fits r.Reads) : loop (fun s : Int => spec_ExecOk_b2 r s) 0 = some (bif (List.range r.Reads.length).all (okReads r.Reads) then .brk () else .ret false) := by
  refine alli_loop r.Reads h (okReads r.Reads) false () ?_ ?_
  · intro k hk _
    unfold spec_ExecOk_b2 okReads need
    rw [lt_len _ k hk, idx_lt hk, List.getElem?_eq_getElem hk]
    have hp : (0 : Int) ≤ (k : Int) ∧ (k : Int) ≤ (r.Reads.length : Int) := by constructor <;> omega
    simp only [cond_true, Option.bind_some, if_pos hp, l2Box_eq, Int.toNat_natCast, Nat.sub_zero, List.drop_zero, l3Saw_eq (take_fits h k)]
    cases inR r.Reads[k].Box 0 3
    · rfl
    · unfold inR
      by_cases h1 : r.Reads[k].Ver < 0
      · have h1' : ¬ 0 ≤ r.Reads[k].Ver := by omega
        simp [h1, h1']
      · have h1' : 0 ≤ r.Reads[k].Ver := by omega
        by_cases h2 : r.Reads[k].Ver > 1000000
        · have h2' : ¬ r.Reads[k].Ver ≤ 1000000 := by omega
          simp [h1, h1', h2, h2']
        · have h2' : r.Reads[k].Ver ≤ 1000000 := by omega
          simp only [h1, h1', h2, h2', decide_false, decide_true, Bool.not_true, cond_false, Bool.true_and, and_self]
          cases saw (r.Reads.take k) r.Reads[k].Box <;> rfl
  · unfold spec_ExecOk_b2
    rw [nlt_len]; rfl
theorem putsS {r : TRun} (h : Fits r.Puts) : loop (fun s : Int => spec_ExecOk_b1 r s) 0 = some (bif (List.range r.Puts.length).all (okPuts r.Puts) then .brk () else .ret false) := by
  refine alli_loop r.Puts h (okPuts r.Puts) false () ?_ ?_
  · intro k hk _
    obtain ⟨v, hv, hg⟩ := l3At_eq (take_fits h k) r.Puts[k].Box
    unfold spec_ExecOk_b1 okPuts need
    rw [lt_len _ k hk, idx_lt hk, List.getElem?_eq_getElem hk]
    have hp : (0 : Int) ≤ (k : Int) ∧ (k : Int) ≤ (r.Puts.length : Int) := by constructor <;> omega
    simp only [cond_true, Option.bind_some, if_pos hp, l2Box_eq, l1Num_eq, Int.toNat_natCast, Nat.sub_zero, List.drop_zero, hv, hg]
    cases inR r.Puts[k].Box 0 3
    · rfl
    · cases inR r.Puts[k].Val (-1000000) 1000000
      · rfl
      · cases sawP (r.Puts.take k) r.Puts[k].Box <;> rfl
  · unfold spec_ExecOk_b1
    rw [nlt_len]; rfl

/-! ### The same with a bit for each box -/
def bits (f : Int → Bool) : List Bool := [f 0, f 1, f 2, f 3]
theorem bits_at {f : Int → Bool} {b : Int} (h : inR b 0 3 = true) : idx (bits f) b = some (f b) ∧ b < 4 := by
  have h : 0 ≤ b ∧ b ≤ 3 := by simpa [inR] using h
  have : b = 0 ∨ b = 1 ∨ b = 2 ∨ b = 3 := by omega
  rcases this with rfl | rfl | rfl | rfl <;> exact ⟨rfl, by decide⟩
theorem bits_set {f g : Int → Bool} {b : Int} (h : inR b 0 3 = true) (hb : g b = true) (hne : ∀ c, c ≠ b → g c = f c) : (bits f).set b.toNat true = bits g := by
  have h : 0 ≤ b ∧ b ≤ 3 := by simpa [inR] using h
  have : b = 0 ∨ b = 1 ∨ b = 2 ∨ b = 3 := by omega
  unfold bits
  rcases this with rfl | rfl | rfl | rfl
  all_goals
    rw [show [g 0, g 1, g 2, g 3] = _ from rfl]
    first
      | rw [hb, hne 1 (by decide), hne 2 (by decide), hne 3 (by decide)]; rfl
      | rw [hb, hne 0 (by decide), hne 2 (by decide), hne 3 (by decide)]; rfl
      | rw [hb, hne 0 (by decide), hne 1 (by decide), hne 3 (by decide)]; rfl
      | rw [hb, hne 0 (by decide), hne 1 (by decide), hne 2 (by decide)]; rfl
theorem saw_next {l : List TRead} {k : Nat} (hk : k < l.length) (b : Int) : saw (l.take (k + 1)) b = (saw (l.take k) b || (l[k].Box == b)) := by
  unfold saw
  rw [List.take_succ_eq_append_getElem hk, List.any_append]
  simp
theorem sawP_next {l : List TPut} {k : Nat} (hk : k < l.length) (b : Int) : sawP (l.take (k + 1)) b = (sawP (l.take k) b || (l[k].Box == b)) := by
  unfold sawP
  rw [List.take_succ_eq_append_getElem hk, List.any_append]
  simp
theorem saw_other {l : List TRead} {k : Nat} (hk : k < l.length) (c : Int) (hc : c ≠ l[k].Box) : saw (l.take (k + 1)) c = saw (l.take k) c := by
  have : (l[k].Box == c) = false := by simpa using fun h => hc h.symm
  rw [saw_next hk, this, Bool.or_false]
theorem sawP_other {l : List TPut} {k : Nat} (hk : k < l.length) (c : Int) (hc : c ≠ l[k].Box) : sawP (l.take (k + 1)) c = sawP (l.take k) c := by
  have : (l[k].Box == c) = false := by simpa using fun h => hc h.symm
  rw [sawP_next hk, this, Bool.or_false]
theorem chk_all {R S B : Type} {x : Option (Exc R B)} {n : Nat} {ok : Nat → Bool} {r : R} {b : B} (h : (x = some (.brk b) ∧ ∀ j, j < n → ok j = true) ∨ ∃ k, k < n ∧ ok k = false ∧ (∀ j, j < k → ok j = true) ∧ x = some (.ret r)) : x = some (bif (List.range n).all ok then .brk b else .ret r) := by
  rcases h with ⟨h, hall⟩ | ⟨k, hk, ho, _, h⟩
  · have : (List.range n).all ok = true := by
      rw [List.all_eq_true]
      intro x hx
      exact hall x (by simpa using hx)
    rw [this]; exact h
  · have : (List.range n).all ok = false := by
      rw [List.all_eq_false]
      exact ⟨k, by simpa using hk, by simp [ho]⟩
    rw [this]; exact h
theorem readsI {r : TRun} (h : Fits r.Reads) : loop (fun s : List Bool × Int => impl_ExecOk_b2 r s.1 s.2) (List.replicate 4 false, 0) = some (bif (List.range r.Reads.length).all (okReads r.Reads) then .brk () else .ret false) := by
  refine chk_all (S := List Bool × Int) (loop_chk (body := fun s : List Bool × Int => impl_ExecOk_b2 r s.1 s.2) (fun k => (bits (saw (r.Reads.take k)), (k : Int))) r.Reads.length (okReads r.Reads) (fun _ => false) () ?_ ?_)
  · intro k hk _
    simp only
    unfold impl_ExecOk_b2 okReads need
    rw [lt_len _ k hk, idx_lt hk, List.getElem?_eq_getElem hk]
    simp only [cond_true, Option.bind_some, in_eq]
    cases hb : inR r.Reads[k].Box 0 3
    · rfl
    · obtain ⟨h1, h2⟩ := bits_at (f := saw (r.Reads.take k)) hb
      rw [h1]
      simp only [if_pos h2, Bool.not_true, cond_false, Option.bind_some, Bool.true_and]
      cases hs : saw (r.Reads.take k) r.Reads[k].Box
      · cases inR r.Reads[k].Ver 0 1000000
        · rfl
        · simp only [Bool.not_true, cond_false, Bool.not_false, Bool.true_and, cond_true]
          rw [bits_set (f := saw (r.Reads.take k)) (g := saw (r.Reads.take (k + 1))) hb (by rw [saw_next hk]; simp) (saw_other hk), w64_next h hk]
      · cases inR r.Reads[k].Ver 0 1000000 <;> rfl
  · intro _
    simp only
    unfold impl_ExecOk_b2
    rw [nlt_len]; rfl
theorem putsI {r : TRun} (h : Fits r.Puts) : loop (fun s : List Bool × Int => impl_ExecOk_b1 r s.1 s.2) (List.replicate 4 false, 0) = some (bif (List.range r.Puts.length).all (okPuts r.Puts) then .brk () else .ret false) := by
  refine chk_all (S := List Bool × Int) (loop_chk (body := fun s : List Bool × Int => impl_ExecOk_b1 r s.1 s.2) (fun k => (bits (sawP (r.Puts.take k)), (k : Int))) r.Puts.length (okPuts r.Puts) (fun _ => false) () ?_ ?_)
  · intro k hk _
    simp only
    unfold impl_ExecOk_b1 okPuts need
    rw [lt_len _ k hk, idx_lt hk, List.getElem?_eq_getElem hk]
    simp only [cond_true, Option.bind_some, in_eq]
    cases hb : inR r.Puts[k].Box 0 3
    · rfl
    · obtain ⟨h1, h2⟩ := bits_at (f := sawP (r.Puts.take k)) hb
      rw [h1]
      simp only [if_pos h2, Bool.not_true, cond_false, Option.bind_some, Bool.true_and]
      cases hs : sawP (r.Puts.take k) r.Puts[k].Box
      · cases inR r.Puts[k].Val (-1000000) 1000000
        · rfl
        · simp only [Bool.not_true, cond_false, Bool.not_false, Bool.true_and, cond_true]
          rw [bits_set (f := sawP (r.Puts.take k)) (g := sawP (r.Puts.take (k + 1))) hb (by rw [sawP_next hk]; simp) (sawP_other hk), w64_next h hk]
      · cases inR r.Puts[k].Val (-1000000) 1000000 <;> rfl
  · intro _
    simp only
    unfold impl_ExecOk_b1
    rw [nlt_len]; rfl
def runOk (r : TRun) : Bool := inR r.Code 0 3 && (inR r.Val (-1000000) 1000000 && ((r.Code == 0 || (r.Val == 0 && r.Puts.length == 0)) && ((r.Code != 3 || r.Reads.length == 0) && ((List.range r.Reads.length).all (okReads r.Reads) && (List.range r.Puts.length).all (okPuts r.Puts)))))
theorem specOk_j {r : TRun} (h : fRun r) : spec_ExecOk_j1 r = some ((List.range r.Reads.length).all (okReads r.Reads) && (List.range r.Puts.length).all (okPuts r.Puts)) := by
  unfold spec_ExecOk_j1 spec_ExecOk_k6
  rw [readsS (h.1.fits (by decide)), putsS (h.2.1.fits (by decide))]
  cases (List.range r.Reads.length).all (okReads r.Reads) <;> cases (List.range r.Puts.length).all (okPuts r.Puts) <;> rfl
theorem implOk_j {r : TRun} (h : fRun r) : impl_ExecOk_j1 r = some ((List.range r.Reads.length).all (okReads r.Reads) && (List.range r.Puts.length).all (okPuts r.Puts)) := by
  unfold impl_ExecOk_j1 impl_ExecOk_k6
  rw [readsI (h.1.fits (by decide)), putsI (h.2.1.fits (by decide))]
  cases (List.range r.Reads.length).all (okReads r.Reads) <;> cases (List.range r.Puts.length).all (okPuts r.Puts) <;> rfl
theorem len_gt {α : Type} (l : List α) : decide ((l.length : Int) > 0) = !(l.length == 0) := by
  cases l <;> simp
theorem specOk_eq {r : TRun} (h : fRun r) : spec_ExecOk r = some (runOk r) := by
  unfold spec_ExecOk runOk
  rw [specOk_j h]
  simp only [l1Num_eq, len_gt, Option.bind_some, Exc.go]
  generalize ((List.range r.Reads.length).all (okReads r.Reads) && (List.range r.Puts.length).all (okPuts r.Puts)) = z
  generalize (r.Puts.length == 0) = a
  generalize (r.Reads.length == 0) = b
  generalize inR r.Val (-1000000) 1000000 = c
  have h3 : inR r.Code 0 3 = (!decide (r.Code < 0) && !decide (r.Code > 3)) := by
    unfold inR
    by_cases h1 : r.Code < 0 <;> by_cases h2 : r.Code > 3 <;> simp [h1, h2] <;> omega
  rw [h3]
  unfold bne
  cases decide (r.Code < 0) <;> cases decide (r.Code > 3) <;> cases c <;> cases (r.Code == 0) <;> cases (r.Val == 0) <;> cases a <;> cases (r.Code == 3) <;> cases b <;> rfl
theorem implOk_eq {r : TRun} (h : fRun r) : impl_ExecOk r = some (runOk r) := by
  unfold impl_ExecOk runOk
  rw [implOk_j h]
  simp only [in_eq, len_gt, Option.bind_some, Exc.go]
  generalize ((List.range r.Reads.length).all (okReads r.Reads) && (List.range r.Puts.length).all (okPuts r.Puts)) = z
  generalize (r.Puts.length == 0) = a
  generalize (r.Reads.length == 0) = b
  generalize inR r.Val (-1000000) 1000000 = c
  generalize inR r.Code 0 3 = d
  unfold bne
  cases d <;> cases c <;> cases (r.Code == 0) <;> cases (r.Val == 0) <;> cases a <;> cases (r.Code == 3) <;> cases b <;> rfl

/-! ### Two runs alike -/
def sameReads (a b : List TRead) (k : Nat) : Bool := match a[k]?, b[k]? with
  | some x, some y => ([x.Box, x.Ver] : List Int) == [y.Box, y.Ver]
  | _, _ => true
def samePuts (a b : List TPut) (k : Nat) : Bool := match a[k]?, b[k]? with
  | some x, some y => ([x.Box, x.Val] : List Int) == [y.Box, y.Val]
  | _, _ => true
theorem sameReadsS {a b : TRun} (h : Fits a.Reads) (hl : a.Reads.length = b.Reads.length) : loop (fun s : Int => spec_ExecSame_b2 a b s) 0 = some (bif (List.range a.Reads.length).all (sameReads a.Reads b.Reads) then .brk () else .ret false) := by
  refine alli_loop a.Reads h (sameReads a.Reads b.Reads) false () ?_ ?_
  · intro k hk _
    unfold spec_ExecSame_b2 sameReads
    rw [lt_len _ k hk, idx_lt hk, idx_lt (hl ▸ hk), List.getElem?_eq_getElem hk, List.getElem?_eq_getElem (hl ▸ hk)]
    simp only [cond_true, Option.bind_some]
    cases ([a.Reads[k].Box, a.Reads[k].Ver] : List Int) == [(b.Reads[k]'(hl ▸ hk)).Box, (b.Reads[k]'(hl ▸ hk)).Ver] <;> rfl
  · unfold spec_ExecSame_b2
    rw [nlt_len]; rfl
theorem samePutsS {a b : TRun} (h : Fits a.Puts) (hl : a.Puts.length = b.Puts.length) : loop (fun s : Int => spec_ExecSame_b1 a b s) 0 = some (bif (List.range a.Puts.length).all (samePuts a.Puts b.Puts) then .brk () else .ret false) := by
  refine alli_loop a.Puts h (samePuts a.Puts b.Puts) false () ?_ ?_
  · intro k hk _
    unfold spec_ExecSame_b1 samePuts
    rw [lt_len _ k hk, idx_lt hk, idx_lt (hl ▸ hk), List.getElem?_eq_getElem hk, List.getElem?_eq_getElem (hl ▸ hk)]
    simp only [cond_true, Option.bind_some]
    cases ([a.Puts[k].Box, a.Puts[k].Val] : List Int) == [(b.Puts[k]'(hl ▸ hk)).Box, (b.Puts[k]'(hl ▸ hk)).Val] <;> rfl
  · unfold spec_ExecSame_b1
    rw [nlt_len]; rfl
theorem sameReadI {a b : List TRead} (h : Fits a) : impl_same_Read a b = some (a.length == b.length && (List.range a.length).all (sameReads a b)) := by
  unfold impl_same_Read
  by_cases hl : a.length = b.length
  · rw [alli_loop a h (sameReads a b) false ()]
    · rw [hl]
      simp only [bne_self_eq_false, cond_false, beq_self_eq_true, Bool.true_and]
      cases (List.range b.length).all (sameReads a b) <;> rfl
    · intro k hk _
      unfold impl_same_Read_b1 sameReads
      rw [lt_len _ k hk, idx_lt hk, idx_lt (hl ▸ hk), List.getElem?_eq_getElem hk, List.getElem?_eq_getElem (hl ▸ hk)]
      simp only [cond_true, Option.bind_some]
      cases ([a[k].Box, a[k].Ver] : List Int) == [(b[k]'(hl ▸ hk)).Box, (b[k]'(hl ▸ hk)).Ver] <;> rfl
    · unfold impl_same_Read_b1
      rw [nlt_len]; rfl
  · have h1 : ((a.length : Int) != (b.length : Int)) = true := by simp; omega
    have h2 : (a.length == b.length) = false := by simpa using hl
    rw [h1, h2]; rfl
theorem samePutI {a b : List TPut} (h : Fits a) : impl_same_Put a b = some (a.length == b.length && (List.range a.length).all (samePuts a b)) := by
  unfold impl_same_Put
  by_cases hl : a.length = b.length
  · rw [alli_loop a h (samePuts a b) false ()]
    · rw [hl]
      simp only [bne_self_eq_false, cond_false, beq_self_eq_true, Bool.true_and]
      cases (List.range b.length).all (samePuts a b) <;> rfl
    · intro k hk _
      unfold impl_same_Put_b1 samePuts
      rw [lt_len _ k hk, idx_lt hk, idx_lt (hl ▸ hk), List.getElem?_eq_getElem hk, List.getElem?_eq_getElem (hl ▸ hk)]
      simp only [cond_true, Option.bind_some]
      cases ([a[k].Box, a[k].Val] : List Int) == [(b[k]'(hl ▸ hk)).Box, (b[k]'(hl ▸ hk)).Val] <;> rfl
    · unfold impl_same_Put_b1
      rw [nlt_len]; rfl
  · have h1 : ((a.length : Int) != (b.length : Int)) = true := by simp; omega
    have h2 : (a.length == b.length) = false := by simpa using hl
    rw [h1, h2]; rfl
def sameRun (a b : TRun) : Bool := (a.Reads.length == b.Reads.length && (List.range a.Reads.length).all (sameReads a.Reads b.Reads)) && ((a.Puts.length == b.Puts.length && (List.range a.Puts.length).all (samePuts a.Puts b.Puts)) && (a.Val == b.Val && a.Code == b.Code))
theorem len_bne {α β : Type} (a : List α) (b : List β) : ((a.length : Int) != (b.length : Int)) = !(a.length == b.length) := by
  unfold bne
  congr 1
  by_cases h : a.length = b.length
  · simp [h]
  · have h1 : ((a.length : Int) == (b.length : Int)) = false := by simp; omega
    have h2 : (a.length == b.length) = false := by simpa using h
    rw [h1, h2]
theorem specSame_eq {a b : TRun} (h : fRun a) : spec_ExecSame a b = some (sameRun a b) := by
  unfold spec_ExecSame sameRun
  rw [len_bne, len_bne]
  cases h1 : a.Reads.length == b.Reads.length
  · unfold bne
    cases a.Val == b.Val <;> cases a.Code == b.Code <;> rfl
  cases h2 : a.Puts.length == b.Puts.length
  · unfold bne
    cases a.Val == b.Val <;> cases a.Code == b.Code <;> simp
  unfold spec_ExecSame_k5
  rw [sameReadsS (h.1.fits (by decide)) (by simpa using h1), samePutsS (h.2.1.fits (by decide)) (by simpa using h2)]
  unfold bne
  cases (List.range a.Reads.length).all (sameReads a.Reads b.Reads) <;> cases (List.range a.Puts.length).all (samePuts a.Puts b.Puts) <;> cases a.Val == b.Val <;> cases a.Code == b.Code <;> rfl
theorem implSame_eq {a b : TRun} (h : fRun a) : impl_ExecSame a b = some (sameRun a b) := by
  unfold impl_ExecSame sameRun
  rw [sameReadI (h.1.fits (by decide)), samePutI (h.2.1.fits (by decide))]
  simp only [Option.bind_some]
  generalize (a.Reads.length == b.Reads.length && (List.range a.Reads.length).all (sameReads a.Reads b.Reads)) = x
  generalize (a.Puts.length == b.Puts.length && (List.range a.Puts.length).all (samePuts a.Puts b.Puts)) = y
  cases x <;> cases y <;> cases a.Val == b.Val <;> rfl

/-! ### Entries -/
def entryOk (e : TEntry) : Bool := bif e.None then (([e.Req.Who, e.Req.Seq] : List Int) == [0, 0]) && sameRun e.Run (TRun.mk [] [] 0 0) else (inR e.Req.Who 0 2 && inR e.Req.Seq 1 1000) && (runOk e.Run && e.Run.Code != 3)
theorem specEntry_eq {e : TEntry} (h : fEntry e) : spec_CertEntry e = some (entryOk e) := by
  unfold spec_CertEntry entryOk
  simp only [specSame_eq h.2, l5Req_eq, specOk_eq h.2, Option.bind_some]
  cases e.None
  · simp only [cond_false]
    cases inR e.Req.Who 0 2 && inR e.Req.Seq 1 1000 <;> cases runOk e.Run <;> rfl
  · simp only [cond_true]
    cases ([e.Req.Who, e.Req.Seq] : List Int) == [0, 0] <;> rfl
theorem implEntry_eq {e : TEntry} (h : fEntry e) : impl_CertEntry e = some (entryOk e) := by
  unfold impl_CertEntry impl_CertLike entryOk
  simp only [implSame_eq h.2, reqOk_eq, implOk_eq h.2, Option.bind_some]
  cases e.None
  · simp only [cond_false]
    cases inR e.Req.Who 0 2 && inR e.Req.Seq 1 1000 <;> cases runOk e.Run <;> rfl
  · simp only [cond_true, beq_self_eq_true]
    cases ([e.Req.Who, e.Req.Seq] : List Int) == [0, 0] <;> rfl
def listOk (l : List TEntry) : Bool := decide (l.length ≤ 40) && l.all entryOk
theorem len_le {α : Type} (l : List α) (n : Nat) : decide ((l.length : Int) ≤ (n : Int)) = decide (l.length ≤ n) := by
  by_cases h : l.length ≤ n
  · have : (l.length : Int) ≤ (n : Int) := by omega
    simp [h, this]
  · have : ¬ (l.length : Int) ≤ (n : Int) := by omega
    simp [h, this]
theorem len_gt_n {α : Type} (l : List α) (n : Nat) : decide ((l.length : Int) > (n : Int)) = !decide (l.length ≤ n) := by
  by_cases h : l.length ≤ n
  · have : ¬ (l.length : Int) > (n : Int) := by omega
    simp [h, this]
  · have : (l.length : Int) > (n : Int) := by omega
    simp [h, this]
theorem specList_eq {l : List TEntry} (h : okL 88 fEntry l) : spec_l8Known l = some (listOk l) := by
  unfold spec_l8Known listOk
  rw [show (40 : Int) = ((40 : Nat) : Int) from rfl, len_gt_n, all_loop l (h.fits (by decide)) entryOk false ()]
  · cases decide (l.length ≤ 40)
    · rfl
    · cases l.all entryOk <;> rfl
  · intro k hk
    unfold spec_l8Known_b1
    rw [lt_len _ k hk, idx_lt hk]
    simp only [cond_true, Option.bind_some, specEntry_eq (h.2 _ (List.getElem_mem hk))]
    cases entryOk l[k] <;> rfl
  · unfold spec_l8Known_b1
    rw [nlt_len]; rfl
theorem implList_eq {l : List TEntry} (h : okL 88 fEntry l) : impl_listOk l = some (listOk l) := by
  unfold impl_listOk listOk impl_listOk_k2
  rw [show (40 : Int) = ((40 : Nat) : Int) from rfl, len_le, all_loop l (h.fits (by decide)) entryOk false ()]
  · cases l.all entryOk <;> cases decide (l.length ≤ 40) <;> rfl
  · intro k hk
    unfold impl_listOk_b1
    rw [lt_len _ k hk, idx_lt hk]
    simp only [cond_true, Option.bind_some, implEntry_eq (h.2 _ (List.getElem_mem hk))]
    cases entryOk l[k] <;> rfl
  · unfold impl_listOk_b1
    rw [nlt_len]; rfl
end Go.Proofs.Ytpiaaeggofnphaa

/- What there is behind entries: one step on either side, told plainly. -/
namespace Go.Proofs.Ytpiaaeggofnphaa
open Go

/-! ### Boxes -/
def boxFine (b : TBox) : Bool := inR b.Ver 0 1000000 && inR b.Val (-1000000) 1000000
def boxesOk (l : List TBox) : Bool := l.length == 4 && l.all boxFine
theorem len_ne {α : Type} (l : List α) (n : Nat) : ((l.length : Int) != (n : Int)) = !(l.length == n) := by
  unfold bne
  congr 1
  by_cases h : l.length = n
  · simp [h]
  · have h1 : ((l.length : Int) == (n : Int)) = false := by simp; omega
    have h2 : (l.length == n) = false := by simpa using h
    rw [h1, h2]
theorem len_eq {α : Type} (l : List α) (n : Nat) : ((l.length : Int) == (n : Int)) = (l.length == n) := by
  have := len_ne l n
  unfold bne at this
  simpa using this
theorem specBoxOk_eq {l : List TBox} (h : Fits l) : spec_BoxOk l = some (boxesOk l) := by
  unfold spec_BoxOk boxesOk
  rw [show (4 : Int) = ((4 : Nat) : Int) from rfl, len_ne, all_loop l h boxFine false ()]
  · cases l.length == 4
    · rfl
    · cases l.all boxFine <;> rfl
  · intro k hk
    unfold spec_BoxOk_b1 boxFine
    rw [lt_len _ k hk, idx_lt hk]
    simp only [cond_true, Option.bind_some, l1Num_eq]
    cases hq : inR l[k].Ver 0 1000000 with
    | false =>
      by_cases h1 : l[k].Ver < 0
      · simp [h1]
      · have : l[k].Ver > 1000000 := by
          unfold inR at hq
          simp at hq
          omega
        simp [h1, this]
    | true =>
      unfold inR at hq
      simp at hq
      have h1 : ¬ l[k].Ver < 0 := by omega
      have h2 : ¬ l[k].Ver > 1000000 := by omega
      simp only [h1, h2, decide_false, cond_false, Bool.true_and]
      cases inR l[k].Val (-1000000) 1000000 <;> rfl
  · unfold spec_BoxOk_b1
    rw [nlt_len]; rfl
theorem implBoxOk_eq {l : List TBox} (h : Fits l) : impl_BoxOk l = some (boxesOk l) := by
  unfold impl_BoxOk boxesOk impl_BoxOk_k2
  rw [show (4 : Int) = ((4 : Nat) : Int) from rfl, len_eq, all_loop l h boxFine false ()]
  · cases l.length == 4 <;> cases l.all boxFine <;> rfl
  · intro k hk
    unfold impl_BoxOk_b1 boxFine
    rw [lt_len _ k hk, idx_lt hk]
    simp only [cond_true, Option.bind_some, in_eq]
    cases inR l[k].Ver 0 1000000 <;> cases inR l[k].Val (-1000000) 1000000 <;> rfl
  · unfold impl_BoxOk_b1
    rw [nlt_len]; rfl

/-! ### What a run that is right holds -/
theorem okReads_mem {l : List TRead} (h : (List.range l.length).all (okReads l) = true) : ∀ x ∈ l, 0 ≤ x.Box ∧ x.Box ≤ 3 ∧ 0 ≤ x.Ver ∧ x.Ver ≤ 1000000 := by
  intro x hx
  obtain ⟨i, hi, rfl⟩ := List.getElem_of_mem hx
  have := List.all_eq_true.1 h i (by simpa using hi)
  unfold okReads at this
  rw [List.getElem?_eq_getElem hi] at this
  simp [inR] at this
  omega
theorem okPuts_mem {l : List TPut} (h : (List.range l.length).all (okPuts l) = true) : ∀ x ∈ l, 0 ≤ x.Box ∧ x.Box ≤ 3 ∧ -1000000 ≤ x.Val ∧ x.Val ≤ 1000000 := by
  intro x hx
  obtain ⟨i, hi, rfl⟩ := List.getElem_of_mem hx
  have := List.all_eq_true.1 h i (by simpa using hi)
  unfold okPuts at this
  rw [List.getElem?_eq_getElem hi] at this
  simp [inR] at this
  omega
theorem runOk_parts {r : TRun} (h : runOk r = true) : (0 ≤ r.Code ∧ r.Code ≤ 3) ∧ (-1000000 ≤ r.Val ∧ r.Val ≤ 1000000) ∧ (r.Code = 0 ∨ (r.Val = 0 ∧ r.Puts = [])) ∧ (∀ x ∈ r.Reads, 0 ≤ x.Box ∧ x.Box ≤ 3 ∧ 0 ≤ x.Ver ∧ x.Ver ≤ 1000000) ∧ ∀ x ∈ r.Puts, 0 ≤ x.Box ∧ x.Box ≤ 3 ∧ -1000000 ≤ x.Val ∧ x.Val ≤ 1000000 := by
  unfold runOk at h
  simp only [Bool.and_eq_true, Bool.or_eq_true] at h
  obtain ⟨h1, h2, h3, _, h4, h5⟩ := h
  refine ⟨by simpa [inR] using h1, by simpa [inR] using h2, by simpa using h3, okReads_mem h4, okPuts_mem h5⟩

/-! ### Is it as it was -/
def fresh (l : List TBox) (r : TRun) : Bool := r.Reads.all fun x => match l[x.Box.toNat]? with
  | some b => b.Ver == x.Ver
  | none => true
theorem boxesOk_len {l : List TBox} (h : boxesOk l = true) : l.length = 4 := by
  unfold boxesOk at h
  simp only [Bool.and_eq_true, beq_iff_eq] at h
  exact h.1
theorem boxesOk_fits {l : List TBox} (h : boxesOk l = true) : Fits l := by
  unfold Fits
  rw [boxesOk_len h]
  decide
theorem box_at {l : List TBox} (h : boxesOk l = true) {b : Int} (hb : 0 ≤ b ∧ b ≤ 3) : ∃ x, idx l b = some x ∧ l[b.toNat]? = some x ∧ boxFine x = true := by
  have hl := boxesOk_len h
  have hlt : b.toNat < l.length := by omega
  refine ⟨l[b.toNat], ?_, List.getElem?_eq_getElem hlt, ?_⟩
  · unfold idx
    rw [if_pos hb.1, List.getElem?_eq_getElem hlt]
  · unfold boxesOk at h
    simp only [Bool.and_eq_true] at h
    exact List.all_eq_true.1 h.2 _ (List.getElem_mem hlt)
theorem specFresh_eq {l : List TBox} {r : TRun} (hl : Fits l) (hr : fRun r) : spec_ExecFresh l r = some (boxesOk l && (runOk r && fresh l r)) := by
  unfold spec_ExecFresh
  rw [specBoxOk_eq hl, specOk_eq hr]
  simp only [Option.bind_some]
  cases h1 : boxesOk l
  · rfl
  cases h2 : runOk r
  · rfl
  have hp := runOk_parts h2
  simp only [Bool.not_true, cond_false, Bool.true_and]
  rw [all_loop r.Reads (hr.1.fits (by decide)) (fun x => match l[x.Box.toNat]? with | some b => b.Ver == x.Ver | none => true) false ()]
  · unfold fresh
    cases r.Reads.all _ <;> rfl
  · intro k hk
    have hm := hp.2.2.2.1 _ (List.getElem_mem hk)
    obtain ⟨b, hb1, hb2, _⟩ := box_at h1 (b := r.Reads[k].Box) ⟨hm.1, hm.2.1⟩
    unfold spec_ExecFresh_b1
    rw [lt_len _ k hk, idx_lt hk]
    simp only [cond_true, Option.bind_some, hb1, hb2]
    unfold bne
    cases b.Ver == r.Reads[k].Ver <;> rfl
  · unfold spec_ExecFresh_b1
    rw [nlt_len]; rfl
theorem implFresh_eq {l : List TBox} {r : TRun} (hl : Fits l) (hr : fRun r) : impl_ExecFresh l r = some (boxesOk l && (runOk r && fresh l r)) := by
  unfold impl_ExecFresh
  rw [implBoxOk_eq hl, implOk_eq hr]
  simp only [Option.bind_some]
  cases h1 : boxesOk l
  · rfl
  cases h2 : runOk r
  · rfl
  have hp := runOk_parts h2
  simp only [Bool.not_true, cond_false, Bool.true_and]
  rw [all_loop r.Reads (hr.1.fits (by decide)) (fun x => match l[x.Box.toNat]? with | some b => b.Ver == x.Ver | none => true) false ()]
  · unfold fresh
    cases r.Reads.all _ <;> rfl
  · intro k hk
    have hm := hp.2.2.2.1 _ (List.getElem_mem hk)
    obtain ⟨b, hb1, hb2, _⟩ := box_at h1 (b := r.Reads[k].Box) ⟨hm.1, hm.2.1⟩
    unfold impl_ExecFresh_b1
    rw [lt_len _ k hk, idx_lt hk]
    simp only [cond_true, Option.bind_some, hb1, hb2]
    unfold bne
    cases b.Ver == r.Reads[k].Ver <;> rfl
  · unfold impl_ExecFresh_b1
    rw [nlt_len]; rfl

/-! ### Puts done -/
def bump (l : List TBox) (p : TPut) : List TBox := match l[p.Box.toNat]? with
  | some b => l.set p.Box.toNat ⟨if b.Ver + 1 < 1000000 then b.Ver + 1 else 1000000, p.Val⟩
  | none => l
def doPuts (l : List TBox) (ps : List TPut) : List TBox := ps.foldl bump l
def putFine (x : TPut) : Prop := 0 ≤ x.Box ∧ x.Box ≤ 3 ∧ -1000000 ≤ x.Val ∧ x.Val ≤ 1000000
theorem bump_at {l : List TBox} {p : TPut} {b : TBox} (h : l[p.Box.toNat]? = some b) : bump l p = l.set p.Box.toNat ⟨if b.Ver + 1 < 1000000 then b.Ver + 1 else 1000000, p.Val⟩ := by
  unfold bump
  rw [h]
theorem boxFine_iff {b : TBox} : boxFine b = true ↔ (0 ≤ b.Ver ∧ b.Ver ≤ 1000000) ∧ (-1000000 ≤ b.Val ∧ b.Val ≤ 1000000) := by
  unfold boxFine inR
  simp
theorem boxesOk_iff {l : List TBox} : boxesOk l = true ↔ l.length = 4 ∧ ∀ b ∈ l, boxFine b = true := by
  unfold boxesOk
  simp
theorem bump_ok {l : List TBox} {p : TPut} (h : boxesOk l = true) (hp : putFine p) : boxesOk (bump l p) = true := by
  obtain ⟨b, _, h2, h3⟩ := box_at h (b := p.Box) ⟨hp.1, hp.2.1⟩
  rw [boxesOk_iff] at h ⊢
  unfold bump
  rw [h2]
  refine ⟨by simpa using h.1, fun x hx => ?_⟩
  rcases List.mem_or_eq_of_mem_set hx with hx | rfl
  · exact h.2 x hx
  · rw [boxFine_iff] at h3 ⊢
    refine ⟨?_, hp.2.2⟩
    simp only
    split <;> omega
theorem doPuts_ok : ∀ {ps : List TPut} {l : List TBox}, boxesOk l = true → (∀ p ∈ ps, putFine p) → boxesOk (doPuts l ps) = true
  | [], l, h, _ => h
  | p :: ps, l, h, hp => doPuts_ok (ps := ps) (bump_ok h (hp p (by simp))) fun x hx => hp x (by simp [hx])
theorem doPuts_take {l : List TBox} {ps : List TPut} (h : boxesOk l = true) (hp : ∀ p ∈ ps, putFine p) (k : Nat) : boxesOk ((ps.take k).foldl bump l) = true :=
  doPuts_ok h fun p hq => hp p (List.mem_of_mem_take hq)
theorem specDo_eq {l : List TBox} {r : TRun} (hl : boxesOk l = true) (hr : fRun r) (hp : ∀ p ∈ r.Puts, putFine p) : spec_l3Do l r = some (doPuts l r.Puts) := by
  unfold spec_l3Do
  rw [fold_loop r.Puts (hr.2.1.fits (by decide)) bump l id]
  · rfl
  · intro k hk
    have hq := hp _ (List.getElem_mem hk)
    obtain ⟨b, h1, h2, h3⟩ := box_at (doPuts_take hl hp k) (b := r.Puts[k].Box) ⟨hq.1, hq.2.1⟩
    rw [boxFine_iff] at h3
    unfold spec_l3Do_b1
    rw [lt_len _ k hk, idx_lt hk]
    simp only [cond_true, Option.bind_some, h1]
    unfold spec_l1Min
    rw [bump_at h2, w64_in (n := b.Ver + 1) (by omega) (by omega)]
    by_cases hv : b.Ver + 1 < 1000000
    · have : ¬ (1000000 : Int) < b.Ver + 1 := by omega
      simp [hv, this]
    · by_cases hv2 : (1000000 : Int) < b.Ver + 1
      · simp [hv, hv2]
      · have : b.Ver + 1 = 1000000 := by omega
        simp [hv, hv2, this]
  · unfold spec_l3Do_b1
    rw [nlt_len]; rfl
theorem copiedBox_eq {l : List TBox} (h : l.length * 16 ≤ 140737488351232) : impl_copied_Box l = some l := by
  unfold impl_copied_Box need
  cases l with
  | nil => rfl
  | cons x l =>
    have h1 : (((x :: l).length : Int) == 0) = false := by simp; omega
    rw [h1, cond_false, if_pos (by constructor <;> omega), if_pos (by simp)]
theorem copiedDone_eq {l : List TDone} (h : l.length * 32 ≤ 140737488351232) : impl_copied_Done l = some l := by
  unfold impl_copied_Done need
  cases l with
  | nil => rfl
  | cons x l =>
    have h1 : (((x :: l).length : Int) == 0) = false := by simp; omega
    rw [h1, cond_false, if_pos (by constructor <;> omega), if_pos (by simp)]
theorem implDo_eq {l : List TBox} {r : TRun} (hl : boxesOk l = true) (hr : fRun r) (hok : runOk r = true) : impl_ExecDo l r = some (doPuts l r.Puts) := by
  have hp : ∀ p ∈ r.Puts, putFine p := (runOk_parts hok).2.2.2.2
  unfold impl_ExecDo
  rw [implBoxOk_eq (boxesOk_fits hl), implOk_eq hr, hl, hok]
  simp only [Option.bind_some, Bool.not_true, cond_false]
  rw [copiedBox_eq (by rw [boxesOk_len hl]; decide), Option.bind_some, fold_loop r.Puts (hr.2.1.fits (by decide)) bump l id]
  · rfl
  · intro k hk
    have hq := hp _ (List.getElem_mem hk)
    obtain ⟨b, h1, h2, h3⟩ := box_at (doPuts_take hl hp k) (b := r.Puts[k].Box) ⟨hq.1, hq.2.1⟩
    rw [boxFine_iff] at h3
    unfold impl_ExecDo_b1
    rw [lt_len _ k hk, idx_lt hk]
    simp only [cond_true, Option.bind_some, h1]
    rw [bump_at h2, w64_in (n := b.Ver + 1) (by omega) (by omega)]
  · unfold impl_ExecDo_b1
    rw [nlt_len]; rfl
end Go.Proofs.Ytpiaaeggofnphaa

/- What there is behind entries: the last requests, and an entry done on either side. -/
namespace Go.Proofs.Ytpiaaeggofnphaa
open Go

/-! ### The last requests -/
def doneOk (d : TDone) : Bool := (inR d.Req.Who 0 2 && inR d.Req.Seq 1 1000) && (inR d.Code 0 2 && (inR d.Val (-1000000) 1000000 && (d.Code == 0 || d.Val == 0)))
def Sorted (l : List TDone) : Prop := l.Pairwise fun a b => a.Req.Who < b.Req.Who
def putStep (d : TDone) (st : List TDone × Bool) (x : TDone) : List TDone × Bool :=
  bif !st.2 && decide (x.Req.Who ≥ d.Req.Who) then (bif x.Req.Who != d.Req.Who then (st.1 ++ [d]) ++ [x] else st.1 ++ [d], true) else (bif x.Req.Who != d.Req.Who then st.1 ++ [x] else st.1, st.2)
def putDone (l : List TDone) (d : TDone) : List TDone :=
  let r := l.foldl (putStep d) ([], false)
  bif !r.2 then r.1 ++ [d] else r.1
theorem putStep_len (d : TDone) (st : List TDone × Bool) (x : TDone) : (putStep d st x).1.length ≤ st.1.length + 2 := by
  unfold putStep
  cases !st.2 && decide (x.Req.Who ≥ d.Req.Who) <;> cases x.Req.Who != d.Req.Who <;> simp
theorem putFold_len (d : TDone) : ∀ (l : List TDone) (st : List TDone × Bool), (l.foldl (putStep d) st).1.length ≤ st.1.length + 2 * l.length
  | [], st => by simp
  | x :: l, st => by
    have h1 := putFold_len d l (putStep d st x)
    have h2 := putStep_len d st x
    simp only [List.foldl_cons, List.length_cons]
    omega
theorem putAfter (d : TDone) : ∀ {l : List TDone} {o : List TDone}, (∀ x ∈ l, d.Req.Who < x.Req.Who) → l.foldl (putStep d) (o, true) = (o ++ l, true)
  | [], o, _ => by simp
  | x :: l, o, h => by
    have hx := h x (by simp)
    have hne : (x.Req.Who != d.Req.Who) = true := by simp; omega
    rw [List.foldl_cons, show putStep d (o, true) x = (o ++ [x], true) from by unfold putStep; simp [hne], putAfter d fun y hy => h y (by simp [hy])]
    simp
theorem putDone_cons (d : TDone) : ∀ {l o : List TDone}, Sorted l →
    (let r := l.foldl (putStep d) (o, false); bif !r.2 then r.1 ++ [d] else r.1) = o ++ (l.filter (fun x => decide (x.Req.Who < d.Req.Who)) ++ d :: l.filter (fun x => decide (d.Req.Who < x.Req.Who)))
  | [], o, _ => by simp
  | x :: l, o, h => by
    obtain ⟨h1, h2⟩ := List.pairwise_cons.1 h
    rw [List.foldl_cons]
    by_cases hlt : x.Req.Who < d.Req.Who
    · have hge : ¬ x.Req.Who ≥ d.Req.Who := by omega
      have hne : (x.Req.Who != d.Req.Who) = true := by simp; omega
      have hngt : ¬ d.Req.Who < x.Req.Who := by omega
      rw [show putStep d (o, false) x = (o ++ [x], false) from by unfold putStep; simp [hge, hne], putDone_cons d h2]
      simp [hlt, hngt]
    · have hge : x.Req.Who ≥ d.Req.Who := by omega
      have hall : ∀ y ∈ l, d.Req.Who < y.Req.Who := fun y hy => by have := h1 y hy; omega
      have hf1 : l.filter (fun x => decide (x.Req.Who < d.Req.Who)) = [] := by
        rw [List.filter_eq_nil_iff]
        intro y hy
        have := hall y hy
        simp
        omega
      have hf2 : l.filter (fun x => decide (d.Req.Who < x.Req.Who)) = l := by
        rw [List.filter_eq_self]
        intro y hy
        simpa using hall y hy
      by_cases heq : x.Req.Who = d.Req.Who
      · have hngt : ¬ d.Req.Who < x.Req.Who := by omega
        rw [show putStep d (o, false) x = (o ++ [d], true) from by unfold putStep; simp [hge, heq], putAfter d hall]
        simp [hlt, hngt, hf1, hf2]
      · have hgt : d.Req.Who < x.Req.Who := by omega
        have hne : (x.Req.Who != d.Req.Who) = true := by simpa using heq
        rw [show putStep d (o, false) x = ((o ++ [d]) ++ [x], true) from by unfold putStep; simp [hge, hne], putAfter d hall]
        simp [hlt, hgt, hf1, hf2]
theorem putDone_eq {l : List TDone} (d : TDone) (h : Sorted l) : putDone l d = l.filter (fun x => decide (x.Req.Who < d.Req.Who)) ++ d :: l.filter (fun x => decide (d.Req.Who < x.Req.Who)) := by
  have := putDone_cons d (o := []) h
  simpa [putDone] using this
theorem putDone_sorted {l : List TDone} (d : TDone) (h : Sorted l) : Sorted (putDone l d) := by
  rw [putDone_eq d h]
  unfold Sorted
  rw [List.pairwise_append, List.pairwise_cons]
  refine ⟨h.filter _, ⟨fun y hy => by simpa using (List.mem_filter.1 hy).2, h.filter _⟩, fun a ha b hb => ?_⟩
  have h1 : a.Req.Who < d.Req.Who := by simpa using (List.mem_filter.1 ha).2
  rcases List.mem_cons.1 hb with rfl | hb
  · exact h1
  · have h2 : d.Req.Who < b.Req.Who := by simpa using (List.mem_filter.1 hb).2
    omega
theorem putDone_mem {l : List TDone} {d x : TDone} (h : Sorted l) (hx : x ∈ putDone l d) : x ∈ l ∨ x = d := by
  rw [putDone_eq d h] at hx
  rcases List.mem_append.1 hx with hx | hx
  · exact .inl (List.mem_filter.1 hx).1
  · rcases List.mem_cons.1 hx with rfl | hx
    · exact .inr rfl
    · exact .inl (List.mem_filter.1 hx).1
theorem putDone_len {l : List TDone} (d : TDone) (h : Sorted l) : (putDone l d).length ≤ l.length + 1 := by
  rw [putDone_eq d h]
  have : (l.filter fun x => decide (x.Req.Who < d.Req.Who)).length + (l.filter fun x => decide (d.Req.Who < x.Req.Who)).length ≤ l.length := by
    clear h
    induction l with
    | nil => simp
    | cons x l ih =>
      by_cases h1 : x.Req.Who < d.Req.Who
      · have h2 : ¬ d.Req.Who < x.Req.Who := by omega
        simp [h1, h2]; omega
      · by_cases h2 : d.Req.Who < x.Req.Who
        · simp [h1, h2]; omega
        · simp [h1, h2]; omega
  simp only [List.length_append, List.length_cons]
  omega

/-- What there is behind k entries. -/
structure Inv (s : TState) (k : Nat) : Prop where
  at_ : s.At = (k : Int)
  le : k ≤ 40
  boxes : boxesOk s.Boxes = true
  sorted : Sorted s.Dones
  dones : ∀ d ∈ s.Dones, doneOk d = true
  len : s.Dones.length ≤ k
theorem Inv.fits {s : TState} {k : Nat} (h : Inv s k) : Fits s.Dones := by
  have := h.len
  have := h.le
  unfold Fits
  omega

theorem app1_fits {α : Type} {o : List α} {d : α} (h : o.length ≤ 80) : ((o ++ [d]).length + 1) * 32 ≤ 140737488355328 := by
  rw [show (o ++ [d]).length = o.length + 1 from by simp]
  omega
theorem specPut_eq {l : List TDone} {d : TDone} (hl : l.length ≤ 40) : spec_l5Put l d = some (putDone l d) := by
  have hf : Fits l := by unfold Fits; omega
  have hlen : ∀ k, k ≤ l.length → ((l.take k).foldl (putStep d) ([], false)).1.length ≤ 80 := by
    intro k hk
    have := putFold_len d (l.take k) ([], false)
    simp only [List.length_nil, List.length_take] at this
    omega
  unfold spec_l5Put
  have hloop := loop_to (body := fun s : (List TDone) × Bool × Int => spec_l5Put_b1 l d s.1 s.2.1 s.2.2) (fun k => (((l.take k).foldl (putStep d) ([], false)).1, ((l.take k).foldl (putStep d) ([], false)).2, (k : Int))) l.length (by
    intro k hk
    have hb := hlen k (by omega)
    rw [List.take_succ_eq_append_getElem hk, List.foldl_append]
    generalize (l.take k).foldl (putStep d) ([], false) = st at hb
    obtain ⟨o, i⟩ := st
    simp only at hb
    simp only [List.foldl_cons, List.foldl_nil]
    unfold spec_l5Put_b1 spec_l5Put_j3 spec_l5Put_j2 putStep
    rw [lt_len _ k hk, idx_lt hk, w64_next hf hk]
    have n1 : (o.length + 1) * 32 ≤ 140737488355328 := by omega
    have n2 : ((o ++ [d]).length + 1) * 32 ≤ 140737488355328 := app1_fits (by omega)
    cases i <;> cases h1 : decide (l[k].Req.Who ≥ d.Req.Who) <;> cases h2 : l[k].Req.Who != d.Req.Who <;> simp only [h1, h2, need_pos n1, need_pos n2, cond_true, cond_false, Option.bind_some, Exc.go, Bool.not_true, Bool.not_false, Bool.true_and, Bool.false_and])
  simp only [List.take_zero, List.foldl_nil, List.take_length] at hloop
  rw [show ((0 : Nat) : Int) = 0 from rfl] at hloop
  rw [hloop, loop_brk (b := l.foldl (putStep d) ([], false))]
  · have hb := hlen l.length (Nat.le_refl _)
    rw [List.take_length] at hb
    unfold spec_l5Put_k3 spec_l5Put_j1 putDone
    generalize l.foldl (putStep d) ([], false) = st at hb
    obtain ⟨o, i⟩ := st
    have n1 : (o.length + 1) * 32 ≤ 140737488355328 := by simp only at hb; omega
    cases i <;> simp only [need_pos n1, cond_true, cond_false, Option.bind_some, Exc.go, Bool.not_true, Bool.not_false]
  · unfold spec_l5Put_b1
    rw [nlt_len]; rfl

/-! ### An entry done -/
def applyFresh (s : TState) (e : TEntry) : TState × Int :=
  bif fresh s.Boxes e.Run then
    (bif e.Run.Code == 0 then (⟨s.At + 1, doPuts s.Boxes e.Run.Puts, putDone s.Dones ⟨e.Req, 0, e.Run.Val⟩⟩, 0)
    else (⟨s.At + 1, s.Boxes, putDone s.Dones ⟨e.Req, 2, 0⟩⟩, 2))
  else (⟨s.At + 1, s.Boxes, putDone s.Dones ⟨e.Req, 1, 0⟩⟩, 1)
def apply (s : TState) (e : TEntry) : TState × Int :=
  bif e.None then (⟨s.At + 1, s.Boxes, s.Dones⟩, 5) else
  match s.Dones.find? (fun d => d.Req.Who == e.Req.Who) with
  | some d => bif d.Req.Seq == e.Req.Seq then (⟨s.At + 1, s.Boxes, s.Dones⟩, 3) else bif decide (d.Req.Seq > e.Req.Seq) then (⟨s.At + 1, s.Boxes, s.Dones⟩, 4) else applyFresh s e
  | none => applyFresh s e
theorem entryOk_some {e : TEntry} (h : entryOk e = true) (hn : e.None = false) : (0 ≤ e.Req.Who ∧ e.Req.Who ≤ 2) ∧ (1 ≤ e.Req.Seq ∧ e.Req.Seq ≤ 1000) ∧ runOk e.Run = true ∧ e.Run.Code ≠ 3 := by
  unfold entryOk at h
  rw [hn] at h
  simp [inR] at h
  exact ⟨h.1.1, h.1.2, h.2.1, h.2.2⟩
theorem specLast_eq {s : TState} (h : Fits s.Dones) (who : Int) : spec_l5Last s who = some (match s.Dones.find? (fun d => d.Req.Who == who) with | some d => (d, true) | none => (⟨⟨0, 0⟩, 0, 0⟩, false)) := by
  unfold spec_l5Last
  rw [find_loop s.Dones h (fun d => d.Req.Who == who) (fun d => (d, true)) ()]
  · cases s.Dones.find? fun d => d.Req.Who == who <;> rfl
  · intro k hk
    unfold spec_l5Last_b1
    rw [lt_len _ k hk, idx_lt hk]
    simp only [cond_true, Option.bind_some]
    cases s.Dones[k].Req.Who == who <;> rfl
  · unfold spec_l5Last_b1
    rw [nlt_len]; rfl
theorem specApply_eq {s : TState} {k : Nat} {e : TEntry} (hs : Inv s k) (hk : k < 40) (he : entryOk e = true) (hf : fEntry e) : spec_l5Apply s e = some (apply s e) := by
  have hw : w64 (s.At + 1) = s.At + 1 := by rw [hs.at_]; exact w64_in (by omega) (by omega)
  unfold spec_l5Apply apply
  rw [hw, specLast_eq (s := ⟨s.At + 1, s.Boxes, s.Dones⟩) hs.fits]
  cases hn : e.None
  case true => rfl
  obtain ⟨_, _, hr, hc3⟩ := entryOk_some he hn
  have hp : ∀ p ∈ e.Run.Puts, putFine p := (runOk_parts hr).2.2.2.2
  have hfr : spec_l5Apply_j3 s e = some (applyFresh s e) := by
    unfold spec_l5Apply_j3 spec_l5Apply_j2 spec_l5Apply_j1 applyFresh
    simp only [specFresh_eq (boxesOk_fits hs.boxes) hf.2, hs.boxes, hr, Bool.true_and, Option.bind_some, hw, specPut_eq (Nat.le_trans hs.len (by omega)), specDo_eq hs.boxes hf.2 hp]
    cases fresh s.Boxes e.Run
    · rfl
    · cases e.Run.Code == 0 <;> rfl
  simp only [cond_false, Option.bind_some, hfr]
  cases hfd : s.Dones.find? fun d => d.Req.Who == e.Req.Who with
  | none => rfl
  | some d =>
    have hwho : d.Req.Who = e.Req.Who := by simpa using List.find?_some hfd
    have hq : (([d.Req.Who, d.Req.Seq] : List Int) == [e.Req.Who, e.Req.Seq]) = (d.Req.Seq == e.Req.Seq) := by
      rw [hwho]; simp
    simp only [hq, cond_true]
    cases d.Req.Seq == e.Req.Seq
    · cases decide (d.Req.Seq > e.Req.Seq) <;> rfl
    · rfl
theorem find_seq {l : List TDone} (h : Sorted l) (who seq : Int) : l.find? (fun d => d.Req.Who == who && decide (d.Req.Seq ≥ seq)) = match l.find? (fun d => d.Req.Who == who) with
    | some d => bif decide (d.Req.Seq ≥ seq) then some d else none
    | none => none := by
  induction l with
  | nil => rfl
  | cons x l ih =>
    obtain ⟨h1, h2⟩ := List.pairwise_cons.1 h
    rw [List.find?_cons, List.find?_cons]
    cases hx : x.Req.Who == who with
    | false => simpa using ih h2
    | true =>
      cases hs : decide (x.Req.Seq ≥ seq) with
      | true => simp [hs]
      | false =>
        simp only [Bool.and_false, hs, cond_false]
        rw [List.find?_eq_none]
        intro y hy
        have := h1 y hy
        have hx' : x.Req.Who = who := by simpa using hx
        simp
        intro hyw
        omega
theorem implCertOk_eq {s : TState} {k : Nat} (hs : Inv s k) : impl_CertOk s = some true := by
  unfold impl_CertOk
  have hloop := loop_to (body := fun v : Int => impl_CertOk_b1 s v) (fun j => (j : Int)) s.Dones.length (by
    intro j hj
    have hd := hs.dones _ (List.getElem_mem hj)
    unfold doneOk at hd
    simp only [Bool.and_eq_true, Bool.or_eq_true] at hd
    obtain ⟨⟨d1, d2⟩, d3, d4, d5⟩ := hd
    unfold impl_CertOk_b1 impl_CertOk_j1
    rw [lt_len _ j hj, idx_lt hj, w64_next hs.fits hj]
    simp only [cond_true, Option.bind_some, reqOk_eq, in_eq, d1, d2, d3, d4, Bool.and_true, Bool.not_true, cond_false]
    cases j with
    | zero =>
      rw [show decide (((0 : Nat) : Int) > 0) = false from by decide]
      simp only [cond_false]
      unfold bne
      rcases d5 with d5 | d5 <;> simp [d5, Exc.go, Option.bind]
    | succ j =>
      have hlt : (s.Dones[j]'(by omega)).Req.Who < s.Dones[j + 1].Req.Who := List.pairwise_iff_getElem.1 hs.sorted j (j + 1) (by omega) hj (by omega)
      have hge : ¬ (s.Dones[j]'(by omega)).Req.Who ≥ s.Dones[j + 1].Req.Who := by omega
      have hle := hs.fits
      unfold Fits at hle
      rw [show w64 (((j + 1 : Nat) : Int) - 1) = (j : Int) from by rw [w64_in (by omega) (by omega)]; omega, idx_lt (show j < s.Dones.length by omega)]
      have hpos : decide (((j + 1 : Nat) : Int) > 0) = true := by simp
      simp only [hpos, cond_true, Option.bind_some, hge, decide_false, cond_false]
      unfold bne
      rcases d5 with d5 | d5 <;> simp [d5, Exc.go, Option.bind])
  rw [show ((0 : Nat) : Int) = 0 from rfl] at hloop
  rw [hloop, loop_brk (b := ())]
  · unfold impl_CertOk_k2
    have := hs.le
    have ha : inR s.At 0 40 = true := by rw [hs.at_]; simp [inR]; omega
    simp [Exc.go, in_eq, ha, implBoxOk_eq (boxesOk_fits hs.boxes), hs.boxes]
  · unfold impl_CertOk_b1
    rw [nlt_len]; rfl
theorem implPut_eq {s : TState} {own : TDone} {bx : List TBox} (hl : s.Dones.length ≤ 40) (hw : w64 (s.At + 1) = s.At + 1) (hd : Sorted s.Dones) : impl_CertApply_j4 s own bx = some (⟨s.At + 1, bx, putDone s.Dones own⟩, own.Code) := by
  have hf : Fits s.Dones := by unfold Fits; omega
  have hlen : ∀ k, k ≤ s.Dones.length → ((s.Dones.take k).foldl (putStep own) ([], false)).1.length ≤ 80 := by
    intro k hk
    have := putFold_len own (s.Dones.take k) ([], false)
    simp only [List.length_nil, List.length_take] at this
    omega
  unfold impl_CertApply_j4
  have hloop := loop_to (body := fun x : (List TDone) × Int × Bool => impl_CertApply_b1 s own x.1 x.2.1 x.2.2) (fun k => (((s.Dones.take k).foldl (putStep own) ([], false)).1, (k : Int), ((s.Dones.take k).foldl (putStep own) ([], false)).2)) s.Dones.length (by
    intro k hk
    have hb := hlen k (by omega)
    rw [List.take_succ_eq_append_getElem hk, List.foldl_append]
    generalize (s.Dones.take k).foldl (putStep own) ([], false) = st at hb
    obtain ⟨o, i⟩ := st
    simp only at hb
    simp only [List.foldl_cons, List.foldl_nil]
    unfold impl_CertApply_b1 impl_CertApply_j3 impl_CertApply_j2 putStep
    rw [lt_len _ k hk, idx_lt hk, w64_next hf hk]
    have n1 : (o.length + 1) * 32 ≤ 140737488355328 := by omega
    have n2 : ((o ++ [own]).length + 1) * 32 ≤ 140737488355328 := app1_fits (by omega)
    cases i <;> cases h1 : decide (s.Dones[k].Req.Who ≥ own.Req.Who) <;> cases h2 : s.Dones[k].Req.Who != own.Req.Who <;> simp only [h1, h2, need_pos n1, need_pos n2, cond_true, cond_false, Option.bind_some, Exc.go, Bool.not_true, Bool.not_false, Bool.true_and, Bool.false_and])
  simp only [List.take_zero, List.foldl_nil, List.take_length] at hloop
  rw [show ((0 : Nat) : Int) = 0 from rfl] at hloop
  rw [hloop, loop_brk (b := s.Dones.foldl (putStep own) ([], false))]
  · have hb := hlen s.Dones.length (Nat.le_refl _)
    rw [List.take_length] at hb
    have hpl := putDone_len own hd
    have hcp : impl_copied_Done (putDone s.Dones own) = some (putDone s.Dones own) := copiedDone_eq (by omega)
    unfold impl_CertApply_k5 impl_CertApply_j1
    unfold putDone at hcp ⊢
    generalize s.Dones.foldl (putStep own) ([], false) = st at hb hcp
    obtain ⟨o, i⟩ := st
    have n1 : (o.length + 1) * 32 ≤ 140737488355328 := by simp only at hb; omega
    cases i <;> simp only [need_pos n1, cond_true, cond_false, Option.bind_some, Exc.go, Bool.not_true, Bool.not_false, hw] at hcp ⊢ <;> rw [hcp] <;> rfl
  · unfold impl_CertApply_b1
    rw [nlt_len]; rfl
theorem implApply_eq {s : TState} {k : Nat} {e : TEntry} (hs : Inv s k) (hk : k < 40) (he : entryOk e = true) (hf : fEntry e) : impl_CertApply s e = some (apply s e) := by
  have hw : w64 (s.At + 1) = s.At + 1 := by rw [hs.at_]; exact w64_in (by omega) (by omega)
  have hl := hs.len
  have hcd : impl_copied_Done s.Dones = some s.Dones := copiedDone_eq (by omega)
  have hcb : impl_copied_Box s.Boxes = some s.Boxes := copiedBox_eq (by rw [boxesOk_len hs.boxes]; decide)
  have hat : (s.At == 40) = false := by rw [hs.at_]; simp; omega
  unfold impl_CertApply apply
  rw [implCertOk_eq hs, implEntry_eq hf, he]
  simp only [Option.bind_some, Bool.not_true, cond_false, hat, hcb, hcd, hw]
  cases hn : e.None
  case true => rfl
  obtain ⟨_, _, hr, hc3⟩ := entryOk_some he hn
  have hfr : impl_CertApply_k9 s e s.Boxes = some (applyFresh s e) := by
    unfold impl_CertApply_k9 applyFresh
    simp only [implFresh_eq (boxesOk_fits hs.boxes) hf.2, hs.boxes, hr, Bool.true_and, Option.bind_some, implDo_eq hs.boxes hf.2 hr]
    cases fresh s.Boxes e.Run
    · simp only [Bool.not_false, cond_true, cond_false, Option.bind_some, Exc.go]
      exact implPut_eq (by omega) hw hs.sorted
    · unfold bne
      cases e.Run.Code == 0
      · simp only [Bool.not_false, Bool.not_true, cond_true, cond_false, Option.bind_some, Exc.go]
        exact implPut_eq (by omega) hw hs.sorted
      · simp only [Bool.not_true, cond_true, cond_false, Option.bind_some, Exc.go]
        exact implPut_eq (by omega) hw hs.sorted
  simp only [cond_false]
  rw [find_loop s.Dones hs.fits (fun d => d.Req.Who == e.Req.Who && decide (d.Req.Seq ≥ e.Req.Seq)) (fun d => (⟨s.At + 1, s.Boxes, s.Dones⟩, bif d.Req.Seq == e.Req.Seq then 3 else 4)) ()]
  · rw [find_seq hs.sorted]
    cases s.Dones.find? fun d => d.Req.Who == e.Req.Who with
    | none => simp only [Option.bind_some, Exc.go, hfr]
    | some d =>
      cases hq : d.Req.Seq == e.Req.Seq with
      | true =>
        have : d.Req.Seq ≥ e.Req.Seq := by
          have : d.Req.Seq = e.Req.Seq := by simpa using hq
          omega
        simp [this, Exc.go, hq]
      | false =>
        have hne : d.Req.Seq ≠ e.Req.Seq := by simpa using hq
        by_cases hg : d.Req.Seq > e.Req.Seq
        · have : d.Req.Seq ≥ e.Req.Seq := by omega
          simp [this, Exc.go, hg, hq]
        · have : ¬ d.Req.Seq ≥ e.Req.Seq := by omega
          simp [this, Exc.go, hg, hfr, hq]
  · intro j hj
    unfold impl_CertApply_b2 impl_CertApply_j5
    rw [lt_len _ j hj, idx_lt hj]
    simp only [cond_true, Option.bind_some, hcd, hw]
    cases h1 : s.Dones[j].Req.Who == e.Req.Who <;> cases h2 : decide (s.Dones[j].Req.Seq ≥ e.Req.Seq) <;> cases h3 : s.Dones[j].Req.Seq == e.Req.Seq <;> simp only [cond_true, cond_false, Option.bind_some, Exc.go, Bool.true_and, Bool.false_and, Bool.and_true, Bool.and_false]
  · unfold impl_CertApply_b2
    rw [nlt_len]; rfl

theorem applyFresh_inv {s : TState} {k : Nat} {e : TEntry} (hs : Inv s k) (hk : k < 40) (he : entryOk e = true) (hn : e.None = false) : Inv (applyFresh s e).1 (k + 1) ∧ 0 ≤ (applyFresh s e).2 ∧ (applyFresh s e).2 ≤ 5 := by
  obtain ⟨h1, h2, hr, hc3⟩ := entryOk_some he hn
  have hp := runOk_parts hr
  have hat : s.At + 1 = ((k + 1 : Nat) : Int) := by rw [hs.at_]; rfl
  have key : ∀ (bx : List TBox) (d : TDone), boxesOk bx = true → doneOk d = true → Inv ⟨s.At + 1, bx, putDone s.Dones d⟩ (k + 1) := fun bx d hb hd =>
    { at_ := hat, le := by omega, boxes := hb, sorted := putDone_sorted d hs.sorted
      dones := fun x hx => by
        rcases putDone_mem hs.sorted hx with hx | rfl
        · exact hs.dones x hx
        · exact hd
      len := by
        have := putDone_len d hs.sorted
        have := hs.len
        simp only
        omega }
  have hd0 : ∀ c : Int, 0 ≤ c → c ≤ 2 → doneOk ⟨e.Req, c, 0⟩ = true := by
    intro c c1 c2
    unfold doneOk inR
    simp
    omega
  have hd1 : doneOk ⟨e.Req, 0, e.Run.Val⟩ = true := by
    unfold doneOk inR
    simp
    omega
  unfold applyFresh
  cases fresh s.Boxes e.Run
  · exact ⟨key _ _ hs.boxes (hd0 1 (by decide) (by decide)), show (0 : Int) ≤ 1 from by decide, show (1 : Int) ≤ 5 from by decide⟩
  · cases e.Run.Code == 0
    · exact ⟨key _ _ hs.boxes (hd0 2 (by decide) (by decide)), show (0 : Int) ≤ 2 from by decide, show (2 : Int) ≤ 5 from by decide⟩
    · exact ⟨key _ _ (doPuts_ok hs.boxes hp.2.2.2.2) hd1, show (0 : Int) ≤ 0 from by decide, show (0 : Int) ≤ 5 from by decide⟩
theorem apply_inv {s : TState} {k : Nat} {e : TEntry} (hs : Inv s k) (hk : k < 40) (he : entryOk e = true) : Inv (apply s e).1 (k + 1) ∧ 0 ≤ (apply s e).2 ∧ (apply s e).2 ≤ 5 := by
  have hat : s.At + 1 = ((k + 1 : Nat) : Int) := by rw [hs.at_]; rfl
  have key : Inv ⟨s.At + 1, s.Boxes, s.Dones⟩ (k + 1) := { at_ := hat, le := by omega, boxes := hs.boxes, sorted := hs.sorted, dones := hs.dones, len := Nat.le_succ_of_le hs.len }
  unfold apply
  cases hn : e.None
  · have hfr := applyFresh_inv hs hk he hn
    simp only [cond_false]
    cases s.Dones.find? fun d => d.Req.Who == e.Req.Who with
    | none => exact hfr
    | some d =>
      simp only
      cases d.Req.Seq == e.Req.Seq
      · cases decide (d.Req.Seq > e.Req.Seq)
        · exact hfr
        · exact ⟨key, show (0 : Int) ≤ 4 from by decide, show (4 : Int) ≤ 5 from by decide⟩
      · exact ⟨key, show (0 : Int) ≤ 3 from by decide, show (3 : Int) ≤ 5 from by decide⟩
  · exact ⟨key, show (0 : Int) ≤ 5 from by decide, show (5 : Int) ≤ 5 from by decide⟩

/-! ### All entries, one behind the other -/
def start : TState := ⟨0, List.replicate 4 ⟨0, 0⟩, []⟩
theorem start_inv : Inv start 0 := { at_ := rfl, le := by omega, boxes := by decide, sorted := .nil, dones := by simp [start], len := by simp [start] }
theorem specOpen_eq : spec_CertOpen = some start := by
  unfold spec_CertOpen spec_BoxOpen
  rw [need_pos (by decide)]
  rfl
theorem implOpen_eq : impl_CertOpen = some start := by
  unfold impl_CertOpen impl_BoxOpen
  rw [need_pos (by decide)]
  rfl
def foldStep (st : TState × List Int) (e : TEntry) : TState × List Int := ((apply st.1 e).1, st.2 ++ [(apply st.1 e).2])
def folded (l : List TEntry) : TState × List Int := l.foldl foldStep (start, [])
theorem folded_take {l : List TEntry} {k : Nat} (hk : k < l.length) : folded (l.take (k + 1)) = foldStep (folded (l.take k)) l[k] := by
  unfold folded
  rw [List.take_succ_eq_append_getElem hk, List.foldl_append]
  rfl
theorem folded_inv {l : List TEntry} (hl : l.length ≤ 40) (he : l.all entryOk = true) : ∀ k, k ≤ l.length → Inv (folded (l.take k)).1 k ∧ (folded (l.take k)).2.length = k ∧ ∀ c ∈ (folded (l.take k)).2, 0 ≤ c ∧ c ≤ 5
  | 0, _ => by
    rw [List.take_zero]
    exact ⟨start_inv, rfl, by simp [folded]⟩
  | k + 1, hk => by
    obtain ⟨h1, h2, h3⟩ := folded_inv hl he k (by omega)
    have ha := apply_inv h1 (by omega) (List.all_eq_true.1 he _ (List.getElem_mem (show k < l.length by omega)))
    rw [folded_take (show k < l.length by omega)]
    refine ⟨ha.1, by simp [foldStep, h2], fun c hc => ?_⟩
    unfold foldStep at hc
    rcases List.mem_append.1 hc with hc | hc
    · exact h3 c hc
    · rw [List.mem_singleton] at hc
      rw [hc]
      exact ha.2
theorem listOk_parts {l : List TEntry} (h : listOk l = true) : l.length ≤ 40 ∧ l.all entryOk = true := by
  unfold listOk at h
  simpa using h
theorem implFolded_eq {l : List TEntry} (h : okL 88 fEntry l) (hl : l.length ≤ 40) (he : l.all entryOk = true) : impl_folded l = some (folded l) := by
  have hf : Fits l := h.fits (by decide)
  unfold impl_folded
  rw [implOpen_eq, Option.bind_some]
  first
  | (have hloop := loop_to (body := fun s : TState × (List Int) × Int => impl_folded_b1 l s.1 s.2.1 s.2.2) (fun k => ((folded (l.take k)).1, (folded (l.take k)).2, (k : Int))) l.length (by
       intro k hk
       obtain ⟨h1, h2, h3⟩ := folded_inv hl he k (by omega)
       have n1 : ((folded (l.take k)).2.length + 1) * 8 ≤ 140737488355328 := by rw [h2]; omega
       rw [folded_take hk]
       unfold impl_folded_b1
       rw [lt_len _ k hk, idx_lt hk, w64_next hf hk]
       simp only [cond_true, Option.bind_some]
       rw [implApply_eq h1 (by omega) (List.all_eq_true.1 he _ (List.getElem_mem hk)) (h.2 _ (List.getElem_mem hk)), Option.bind_some, need_pos n1]
       rfl)
     rw [List.take_zero, List.take_length] at hloop
     rw [show ((0 : Nat) : Int) = 0 from rfl] at hloop
     rw [show loop (fun s : TState × (List Int) × Int => impl_folded_b1 l s.1 s.2.1 s.2.2) (start, [], 0) = _ from hloop, loop_brk (b := folded l)]
     · rfl
     · unfold impl_folded_b1
       rw [nlt_len]; rfl
     done)
  | (have hloop := loop_to (body := fun s : (List TBox) × (List Int) × Int × Int × List TDone => impl_folded_b1 l s.1 s.2.1 s.2.2.1 s.2.2.2.1 s.2.2.2.2) (fun k => ((folded (l.take k)).1.Boxes, (folded (l.take k)).2, (k : Int), (folded (l.take k)).1.At, (folded (l.take k)).1.Dones)) l.length (by
       intro k hk
       obtain ⟨h1, h2, h3⟩ := folded_inv hl he k (by omega)
       have n1 : ((folded (l.take k)).2.length + 1) * 8 ≤ 140737488355328 := by rw [h2]; omega
       rw [folded_take hk]
       unfold impl_folded_b1
       rw [lt_len _ k hk, idx_lt hk, w64_next hf hk]
       simp only [cond_true, Option.bind_some]
       rw [show (⟨(folded (l.take k)).1.At, (folded (l.take k)).1.Boxes, (folded (l.take k)).1.Dones⟩ : TState) = (folded (l.take k)).1 from rfl, implApply_eq h1 (by omega) (List.all_eq_true.1 he _ (List.getElem_mem hk)) (h.2 _ (List.getElem_mem hk)), Option.bind_some, need_pos n1]
       rfl)
     rw [List.take_zero, List.take_length] at hloop
     rw [show ((0 : Nat) : Int) = 0 from rfl] at hloop
     rw [show loop (fun s : (List TBox) × (List Int) × Int × Int × List TDone => impl_folded_b1 l s.1 s.2.1 s.2.2.1 s.2.2.2.1 s.2.2.2.2) (start.Boxes, [], 0, start.At, start.Dones) = _ from hloop, loop_brk (b := ((folded l).1.Boxes, (folded l).2, (folded l).1.At, (folded l).1.Dones))]
     · rfl
     · unfold impl_folded_b1
       rw [nlt_len]; rfl
     done)
end Go.Proofs.Ytpiaaeggofnphaa

/- What is drawn: the reader, and a program run on boxes. -/
namespace Go.Proofs.Ytpiaaeggofnphaa
open Go

/-! ### The reader -/
theorem xor_range {x y : Int} (hx : 0 ≤ x) (hx2 : x < 4611686018427387904) (hy : 0 ≤ y) (hy2 : y < 4611686018427387904) : 0 ≤ xorI .i64 x y ∧ xorI .i64 x y < 4611686018427387904 := by
  obtain ⟨a, rfl⟩ : ∃ a : Nat, x = (a : Int) := ⟨x.toNat, by omega⟩
  obtain ⟨b, rfl⟩ : ∃ b : Nat, y = (b : Int) := ⟨y.toNat, by omega⟩
  have hxor : a ^^^ b < 2 ^ 62 := Nat.xor_lt_two_pow (by omega) (by omega)
  have h : xorI .i64 (a : Int) (b : Int) = ((a ^^^ b : Nat) : Int) := by
    unfold xorI
    rw [BitVec.toNat_xor]
    have e1 : (BitVec.ofInt IntKind.i64.bits (a : Int)).toNat = a := by
      show (BitVec.ofInt 64 (a : Int)).toNat = a
      rw [BitVec.toNat_ofInt]
      omega
    have e2 : (BitVec.ofInt IntKind.i64.bits (b : Int)).toNat = b := by
      show (BitVec.ofInt 64 (b : Int)).toNat = b
      rw [BitVec.toNat_ofInt]
      omega
    rw [e1, e2]
    exact IntWalk.i64_in _ ⟨by omega, by omega⟩
  rw [h]
  omega
theorem u8_at {l : List Int} (h : ∀ x ∈ l, okU8 x) {i : Int} (h0 : 0 ≤ i) (h1 : i < l.length) : ∃ y, idx l i = some y ∧ 0 ≤ y ∧ y ≤ 255 := by
  have hlt : i.toNat < l.length := by omega
  refine ⟨l[i.toNat], ?_, h _ (List.getElem_mem hlt)⟩
  unfold idx
  rw [if_pos h0, List.getElem?_eq_getElem hlt]
theorem tmod_range {x n : Int} (hx : 0 ≤ x) (hn : 1 ≤ n) : 0 ≤ Int.tmod x n ∧ Int.tmod x n < n := by
  rw [Int.tmod_eq_emod_of_nonneg hx]
  exact ⟨Int.emod_nonneg _ (by omega), Int.emod_lt_of_pos _ (by omega)⟩
theorem tdiv_range {x n : Int} (hx : 0 ≤ x) (hn : 1 ≤ n) : 0 ≤ Int.tdiv x n ∧ Int.tdiv x n ≤ x := by
  rw [Int.tdiv_eq_ediv_of_nonneg hx]
  exact ⟨Int.ediv_nonneg hx (by omega), Int.ediv_le_self _ hx⟩
/-! ### Programs -/
end Go.Proofs.Ytpiaaeggofnphaa

/- A program run on boxes (the document's side): what comes out is right. -/
namespace Go.Proofs.Ytpiaaeggofnphaa
open Go

/-! ### What is looked into, what is put -/
def allR (l : List TRead) : Bool := (List.range l.length).all (okReads l)
def allP (l : List TPut) : Bool := (List.range l.length).all (okPuts l)
def readFine (x : TRead) : Prop := 0 ≤ x.Box ∧ x.Box ≤ 3 ∧ 0 ≤ x.Ver ∧ x.Ver ≤ 1000000
theorem allR_iff {l : List TRead} : allR l = true ↔ (∀ x ∈ l, readFine x) ∧ l.Pairwise fun a b => a.Box ≠ b.Box := by
  unfold allR
  constructor
  · intro h
    refine ⟨okReads_mem h, ?_⟩
    rw [List.pairwise_iff_getElem]
    intro i j hi hj hij heq
    have := List.all_eq_true.1 h j (by simpa using hj)
    unfold okReads at this
    rw [List.getElem?_eq_getElem hj] at this
    simp only [Bool.and_eq_true, Bool.not_eq_true'] at this
    have hs := this.2.2
    unfold saw at hs
    rw [List.any_eq_false] at hs
    refine hs l[i] ?_ (by simpa using heq)
    rw [List.mem_take_iff_getElem]
    exact ⟨i, by omega, rfl⟩
  · rintro ⟨h1, h2⟩
    rw [List.all_eq_true]
    intro k hk
    have hk : k < l.length := by simpa using hk
    unfold okReads
    rw [List.getElem?_eq_getElem hk]
    have hf := h1 _ (List.getElem_mem hk)
    have hs : saw (l.take k) l[k].Box = false := by
      unfold saw
      rw [List.any_eq_false]
      intro x hx
      obtain ⟨i, hi, rfl⟩ := List.mem_take_iff_getElem.1 hx
      have := List.pairwise_iff_getElem.1 h2 i k (by omega) hk (by omega)
      simpa using this
    simp only [hs, Bool.not_false, Bool.and_true, Bool.and_eq_true]
    unfold readFine at hf
    exact ⟨by simp [inR]; omega, by simp [inR]; omega⟩
theorem allP_iff {l : List TPut} : allP l = true ↔ (∀ x ∈ l, putFine x) ∧ l.Pairwise fun a b => a.Box ≠ b.Box := by
  unfold allP
  constructor
  · intro h
    refine ⟨okPuts_mem h, ?_⟩
    rw [List.pairwise_iff_getElem]
    intro i j hi hj hij heq
    have := List.all_eq_true.1 h j (by simpa using hj)
    unfold okPuts at this
    rw [List.getElem?_eq_getElem hj] at this
    simp only [Bool.and_eq_true, Bool.not_eq_true'] at this
    have hs := this.2.2
    unfold sawP at hs
    rw [List.any_eq_false] at hs
    refine hs l[i] ?_ (by simpa using heq)
    rw [List.mem_take_iff_getElem]
    exact ⟨i, by omega, rfl⟩
  · rintro ⟨h1, h2⟩
    rw [List.all_eq_true]
    intro k hk
    have hk : k < l.length := by simpa using hk
    unfold okPuts
    rw [List.getElem?_eq_getElem hk]
    have hf := h1 _ (List.getElem_mem hk)
    have hs : sawP (l.take k) l[k].Box = false := by
      unfold sawP
      rw [List.any_eq_false]
      intro x hx
      obtain ⟨i, hi, rfl⟩ := List.mem_take_iff_getElem.1 hx
      have := List.pairwise_iff_getElem.1 h2 i k (by omega) hk (by omega)
      simpa using this
    simp only [hs, Bool.not_false, Bool.and_true, Bool.and_eq_true]
    unfold putFine at hf
    exact ⟨by simp [inR]; omega, by simp [inR]; omega⟩
theorem allR_app {l : List TRead} {x : TRead} (h : allR l = true) (hx : readFine x) (hs : saw l x.Box = false) : allR (l ++ [x]) = true := by
  rw [allR_iff] at h ⊢
  refine ⟨fun y hy => ?_, ?_⟩
  · rcases List.mem_append.1 hy with hy | hy
    · exact h.1 y hy
    · rw [List.mem_singleton.1 hy]; exact hx
  · rw [List.pairwise_append]
    refine ⟨h.2, by simp, fun a ha b hb => ?_⟩
    rw [List.mem_singleton.1 hb]
    unfold saw at hs
    rw [List.any_eq_false] at hs
    simpa using hs a ha
theorem allP_app {l : List TPut} {x : TPut} (h : allP l = true) (hx : putFine x) (hs : sawP l x.Box = false) : allP (l ++ [x]) = true := by
  rw [allP_iff] at h ⊢
  refine ⟨fun y hy => ?_, ?_⟩
  · rcases List.mem_append.1 hy with hy | hy
    · exact h.1 y hy
    · rw [List.mem_singleton.1 hy]; exact hx
  · rw [List.pairwise_append]
    refine ⟨h.2, by simp, fun a ha b hb => ?_⟩
    rw [List.mem_singleton.1 hb]
    unfold sawP at hs
    rw [List.any_eq_false] at hs
    simpa using hs a ha
theorem allP_set {l : List TPut} {k : Nat} {v : Int} (h : allP l = true) (hk : k < l.length) (hv : -1000000 ≤ v ∧ v ≤ 1000000) : allP (l.set k ⟨l[k].Box, v⟩) = true := by
  rw [allP_iff] at h ⊢
  refine ⟨fun y hy => ?_, ?_⟩
  · rcases List.mem_or_eq_of_mem_set hy with hy | rfl
    · exact h.1 y hy
    · have := h.1 _ (List.getElem_mem hk)
      exact ⟨this.1, this.2.1, hv⟩
  · rw [List.pairwise_iff_getElem]
    intro i j hi hj hij
    have hi' : i < l.length := by simpa using hi
    have hj' : j < l.length := by simpa using hj
    have hne := List.pairwise_iff_getElem.1 h.2 i j hi' hj' hij
    rw [List.getElem_set, List.getElem_set]
    split <;> split <;> simp_all
theorem runOk_iff (r : TRun) : runOk r = (inR r.Code 0 3 && (inR r.Val (-1000000) 1000000 && ((r.Code == 0 || (r.Val == 0 && r.Puts.length == 0)) && ((r.Code != 3 || r.Reads.length == 0) && (allR r.Reads && allP r.Puts))))) := rfl
/-- Where a box is put. -/
theorem l3At_pos {l : List TPut} (h : Fits l) (box : Int) : (spec_l3At l box = some (-1) ∧ sawP l box = false) ∨ ∃ k : Nat, spec_l3At l box = some (k : Int) ∧ ∃ hk : k < l.length, l[k].Box = box := by
  have hc := loop_chk (body := fun s : Int => spec_l3At_b1 l box s) (fun k => (k : Int)) l.length (fun k => match l[k]? with | some x => !(x.Box == box) | none => true) (fun k => (k : Int)) ()
    (fun k hk _ => by
      unfold spec_l3At_b1
      rw [lt_len l k hk, idx_lt hk, w64_next h hk]
      simp only [cond_true, Option.bind_some, List.getElem?_eq_getElem hk]
      cases l[k].Box == box <;> rfl) (fun _ => by unfold spec_l3At_b1; rw [nlt_len]; rfl)
  unfold spec_l3At
  rcases hc with ⟨h1, hall⟩ | ⟨k, hk, ho, _, h1⟩
  · left
    rw [show loop (fun s : Int => spec_l3At_b1 l box s) 0 = _ from h1]
    refine ⟨rfl, ?_⟩
    unfold sawP
    rw [List.any_eq_false]
    intro x hx
    obtain ⟨i, hi, rfl⟩ := List.getElem_of_mem hx
    have := hall i hi
    simpa [List.getElem?_eq_getElem hi] using this
  · right
    rw [show loop (fun s : Int => spec_l3At_b1 l box s) 0 = _ from h1]
    refine ⟨k, rfl, hk, ?_⟩
    simpa [List.getElem?_eq_getElem hk] using ho

/-! ### One step -/
def inV (v : Int) : Prop := -1000000 ≤ v ∧ v ≤ 1000000
def regsOk (regs : List Int) : Prop := regs.length = 4 ∧ ∀ v ∈ regs, inV v
theorem reg_at {regs : List Int} (h : regs.length = 4) {a : Int} (ha : 0 ≤ a ∧ a ≤ 3) : ∃ v, idx regs a = some v ∧ v ∈ regs := by
  have hlt : a.toNat < regs.length := by omega
  refine ⟨regs[a.toNat], ?_, List.getElem_mem hlt⟩
  unfold idx
  rw [if_pos ha.1, List.getElem?_eq_getElem hlt]
theorem reg_set {regs : List Int} {a : Nat} {v w : Int} (h : w ∈ regs.set a v) : w ∈ regs ∨ w = v := List.mem_or_eq_of_mem_set h
/-- A run under way. -/
structure Way (r : TRun) (n : Nat) : Prop where
  val : r.Val = 0
  reads : allR r.Reads = true
  puts : allP r.Puts = true
  rlen : r.Reads.length ≤ n
  plen : r.Puts.length ≤ n
theorem Way.fitsR {r : TRun} {n : Nat} (h : Way r n) (hn : n ≤ 100) : Fits r.Reads := by
  have := h.rlen
  unfold Fits; omega
theorem Way.fitsP {r : TRun} {n : Nat} (h : Way r n) (hn : n ≤ 100) : Fits r.Puts := by
  have := h.plen
  unfold Fits; omega
/-! ### All steps -/
/-- A run that came out of a program. -/
structure Ran (r : TRun) : Prop where
  ok : runOk r = true
  rlen : r.Reads.length ≤ 40
  plen : r.Puts.length ≤ 40
theorem way_ran {r : TRun} {n : Nat} (h : Way r n) (hn : n ≤ 40) (hc : r.Code = 0 ∨ r.Code = 1 ∨ r.Code = 2) {v : Int} (hv : r.Code = 0 → inV v) : Ran ⟨r.Reads, bif r.Code != 0 then [] else r.Puts, bif r.Code != 0 then r.Val else v, r.Code⟩ := by
  have h1 := h.rlen
  have h2 := h.plen
  have hR := h.reads
  have hP := h.puts
  have hP0 : allP [] = true := rfl
  rcases hc with hc | hc | hc
  · have hv := hv hc
    unfold inV at hv
    refine ⟨?_, by simp only; omega, by simp only [hc]; simp; omega⟩
    rw [runOk_iff]
    simp [hc, hR, hP, inR, hv]
  · refine ⟨?_, by simp only; omega, by simp [hc]⟩
    rw [runOk_iff]
    simp [hc, hR, hP0, inR, h.val]
  · refine ⟨?_, by simp only; omega, by simp [hc]⟩
    rw [runOk_iff]
    simp [hc, hR, hP0, inR, h.val]
end Go.Proofs.Ytpiaaeggofnphaa

/- What is drawn: programs, entries, lists of entries. -/
namespace Go.Proofs.Ytpiaaeggofnphaa
open Go

/-! ### Entries -/
def smallE (e : TEntry) : Prop := e.Run.Reads.length ≤ 40 ∧ e.Run.Puts.length ≤ 40
theorem smallE.f {e : TEntry} (h : smallE e) : fEntry e := ⟨trivial, ⟨by have := h.1; omega, fun _ _ => trivial⟩, ⟨by have := h.2; omega, fun _ _ => trivial⟩, trivial⟩
def drawn (l : List TEntry) : Prop := l.length ≤ 41 ∧ ∀ e ∈ l, smallE e
theorem drawn.f {l : List TEntry} (h : drawn l) : okL 88 fEntry l := ⟨by have := h.1; omega, fun e he => (h.2 e he).f⟩
theorem none_small : smallE ⟨true, ⟨0, 0⟩, ⟨[], [], 0, 0⟩⟩ := ⟨by simp, by simp⟩
theorem w64_pred {j : Nat} (hj : j < 1000) : w64 (((j + 1 : Nat) : Int) - 1) = (j : Int) := by
  rw [w64_in (by omega) (by omega)]
  omega
theorem app_small {l : List TEntry} {e : TEntry} (h : ∀ x ∈ l, smallE x) (he : smallE e) : ∀ x ∈ l ++ [e], smallE x := by
  intro x hx
  rcases List.mem_append.1 hx with hx | hx
  · exact h x hx
  · rw [List.mem_singleton.1 hx]; exact he
theorem ran_entry {run : TRun} {who seq : Int} (h : Ran run) (hc : run.Code ≠ 3) (hw : 0 ≤ who ∧ who ≤ 2) (hs : 1 ≤ seq ∧ seq ≤ 1000) : entryOk ⟨false, ⟨who, seq⟩, run⟩ = true := by
  unfold entryOk
  simp [inR, h.ok, hc, hw, hs]
end Go.Proofs.Ytpiaaeggofnphaa

/- Boxes behind entries: the two sides are one, and Vers only grow. -/
namespace Go.Proofs.Ytpiaaeggofnphaa
open Go

theorem listOk_of {l : List TEntry} (hl : l.length ≤ 40) (he : l.all entryOk = true) : listOk l = true := by
  unfold listOk
  simp [hl, he]
theorem listOk_take {l : List TEntry} (h : listOk l = true) (k : Nat) : listOk (l.take k) = true := by
  obtain ⟨h1, h2⟩ := listOk_parts h
  refine listOk_of ?_ ?_
  · rw [List.length_take]; omega
  · rw [List.all_eq_true] at h2 ⊢
    exact fun x hx => h2 x (List.mem_of_mem_take hx)
theorem fEntries_take {l : List TEntry} (h : okL 88 fEntry l) (k : Nat) : okL 88 fEntry (l.take k) := by
  refine ⟨?_, fun x hx => h.2 x (List.mem_of_mem_take hx)⟩
  have := h.1
  rw [List.length_take]
  have : min k l.length * 88 ≤ l.length * 88 := Nat.mul_le_mul_right _ (Nat.min_le_right _ _)
  omega
theorem implCertFold_eq {l : List TEntry} (h : okL 88 fEntry l) : impl_CertFold l = some (bif listOk l then (folded l).1 else ⟨0, [], []⟩) := by
  unfold impl_CertFold
  rw [implList_eq h, Option.bind_some]
  cases hok : listOk l
  · rfl
  · obtain ⟨hl, he⟩ := listOk_parts hok
    rw [Bool.not_true, cond_false, implFolded_eq h hl he]
    rfl
theorem specCertFold_eq {l : List TEntry} (h : okL 88 fEntry l) (hok : listOk l = true) : spec_CertFold l = some (folded l).1 := by
  obtain ⟨hl, he⟩ := listOk_parts hok
  have hf : Fits l := h.fits (by decide)
  unfold spec_CertFold
  rw [specOpen_eq, Option.bind_some, show (40 : Int) = ((40 : Nat) : Int) from rfl, len_gt_n, decide_eq_true hl, Bool.not_true, cond_false]
  have hloop := loop_to (body := fun s : (List TBox) × Int × Int × List TDone => spec_CertFold_b1 l s.1 s.2.1 s.2.2.1 s.2.2.2) (fun k => ((folded (l.take k)).1.Boxes, (k : Int), (folded (l.take k)).1.At, (folded (l.take k)).1.Dones)) l.length (by
    intro k hk
    obtain ⟨h1, h2, h3⟩ := folded_inv hl he k (by omega)
    have hek := List.all_eq_true.1 he _ (List.getElem_mem hk)
    have hfk := h.2 _ (List.getElem_mem hk)
    rw [folded_take hk]
    unfold spec_CertFold_b1
    rw [lt_len _ k hk, idx_lt hk, w64_next hf hk]
    simp only [cond_true, Option.bind_some, specEntry_eq hfk, hek, Bool.not_true, cond_false]
    rw [show (⟨(folded (l.take k)).1.At, (folded (l.take k)).1.Boxes, (folded (l.take k)).1.Dones⟩ : TState) = (folded (l.take k)).1 from rfl, specApply_eq h1 (by omega) hek hfk, Option.bind_some]
    rfl)
  rw [List.take_zero, List.take_length] at hloop
  rw [show ((0 : Nat) : Int) = 0 from rfl] at hloop
  rw [show loop (fun s : (List TBox) × Int × Int × List TDone => spec_CertFold_b1 l s.1 s.2.1 s.2.2.1 s.2.2.2) (start.Boxes, 0, start.At, start.Dones) = _ from hloop, loop_brk (b := ((folded l).1.Boxes, (folded l).1.At, (folded l).1.Dones))]
  · rfl
  · unfold spec_CertFold_b1
    rw [nlt_len]; rfl
def histAt (l : List TEntry) (n : Int) : List TBox := bif listOk l && inR n 0 (l.length : Int) then (folded (l.take n.toNat)).1.Boxes else []
theorem implAt_eq {l : List TEntry} (h : okL 88 fEntry l) (n : Int) : impl_HistAt l n = some (histAt l n) := by
  unfold impl_HistAt histAt
  rw [implList_eq h, Option.bind_some, in_eq, Option.bind_some]
  cases hok : listOk l
  · rfl
  cases hn : inR n 0 (l.length : Int)
  · rfl
  have hn' : 0 ≤ n ∧ n ≤ (l.length : Int) := by simpa [inR] using hn
  rw [Bool.not_true, cond_false, cond_false, need_pos hn', List.drop_zero, Nat.sub_zero, implCertFold_eq (fEntries_take h _), listOk_take hok]
  rfl
theorem specAt_eq {l : List TEntry} (h : okL 88 fEntry l) (n : Int) : spec_HistAt l n = some (histAt l n) := by
  unfold spec_HistAt histAt
  by_cases h1 : n < 0
  · have : inR n 0 (l.length : Int) = false := by unfold inR; simp; omega
    simp [h1, this]
  by_cases h2 : n > (l.length : Int)
  · have : inR n 0 (l.length : Int) = false := by unfold inR; simp; omega
    simp [h1, h2, this]
  have hn : inR n 0 (l.length : Int) = true := by unfold inR; simp; omega
  simp only [h1, h2, decide_false, cond_false, specList_eq h, Option.bind_some, hn, Bool.and_true]
  cases hok : listOk l
  · rfl
  rw [Bool.not_true, cond_false, need_pos ⟨by omega, by omega⟩, List.drop_zero, Nat.sub_zero, specCertFold_eq (fEntries_take h _) (listOk_take hok _)]
  rfl
theorem histAt_fits (l : List TEntry) (n : Int) : Fits (histAt l n) := by
  unfold histAt
  cases hok : listOk l
  · simp [Fits]
  cases inR n 0 (l.length : Int)
  · simp [Fits]
  obtain ⟨hl, he⟩ := listOk_parts (listOk_take hok n.toNat)
  have := (folded_inv hl he _ (Nat.le_refl _)).1
  rw [List.take_length] at this
  exact boxesOk_fits this.boxes

/-! ### Vers only grow -/
def VerLe (a b : List TBox) : Prop := a.length = b.length ∧ ∀ (i : Nat) (x y : TBox), a[i]? = some x → b[i]? = some y → x.Ver ≤ y.Ver
theorem VerLe.refl (a : List TBox) : VerLe a a := ⟨rfl, fun i x y h1 h2 => by rw [h1] at h2; injection h2 with h2; rw [h2]; exact Int.le_refl _⟩
theorem VerLe.trans {a b c : List TBox} (h : VerLe a b) (k : VerLe b c) : VerLe a c := by
  refine ⟨h.1.trans k.1, fun i x z hx hz => ?_⟩
  have hi : i < b.length := by
    have := (List.getElem?_eq_some_iff.1 hx).1
    have := h.1
    omega
  have h1 := h.2 i x _ hx (List.getElem?_eq_getElem hi)
  have h2 := k.2 i _ z (List.getElem?_eq_getElem hi) hz
  omega
theorem bump_le {l : List TBox} {p : TPut} (h : boxesOk l = true) (hp : putFine p) : VerLe l (bump l p) := by
  obtain ⟨b, _, h2, h3⟩ := box_at h (b := p.Box) ⟨hp.1, hp.2.1⟩
  rw [boxFine_iff] at h3
  rw [bump_at h2]
  refine ⟨by simp, fun i x y hx hy => ?_⟩
  rw [List.getElem?_set] at hy
  split at hy
  · rename_i he
    split at hy
    · injection hy with hy
      subst hy
      rw [← he, h2] at hx
      injection hx with hx
      subst hx
      simp only
      split <;> omega
    · cases hy
  · rw [hx] at hy
    injection hy with hy
    rw [hy]
    exact Int.le_refl _
theorem doPuts_le : ∀ {ps : List TPut} {l : List TBox}, boxesOk l = true → (∀ p ∈ ps, putFine p) → VerLe l (doPuts l ps)
  | [], l, _, _ => VerLe.refl _
  | p :: ps, l, h, hp => (bump_le h (hp p (by simp))).trans (doPuts_le (ps := ps) (bump_ok h (hp p (by simp))) fun x hx => hp x (by simp [hx]))
theorem apply_le {s : TState} {k : Nat} {e : TEntry} (hs : Inv s k) (he : entryOk e = true) : VerLe s.Boxes (apply s e).1.Boxes := by
  have hfr : e.None = false → VerLe s.Boxes (applyFresh s e).1.Boxes := by
    intro hn
    obtain ⟨_, _, hr, _⟩ := entryOk_some he hn
    unfold applyFresh
    cases fresh s.Boxes e.Run
    · exact VerLe.refl _
    · cases e.Run.Code == 0
      · exact VerLe.refl _
      · exact doPuts_le hs.boxes (runOk_parts hr).2.2.2.2
  unfold apply
  cases hn : e.None
  · simp only [cond_false]
    cases s.Dones.find? fun d => d.Req.Who == e.Req.Who with
    | none => exact hfr hn
    | some d =>
      simp only
      cases d.Req.Seq == e.Req.Seq
      · cases decide (d.Req.Seq > e.Req.Seq)
        · exact hfr hn
        · exact VerLe.refl _
      · exact VerLe.refl _
  · exact VerLe.refl _
theorem folded_le {l : List TEntry} (hl : l.length ≤ 40) (he : l.all entryOk = true) {j k : Nat} (hjk : j ≤ k) (hk : k ≤ l.length) : VerLe (folded (l.take j)).1.Boxes (folded (l.take k)).1.Boxes := by
  induction k with
  | zero =>
    have : j = 0 := by omega
    subst this
    exact VerLe.refl _
  | succ k ih =>
    by_cases hq : j = k + 1
    · subst hq
      exact VerLe.refl _
    · refine (ih (by omega) (by omega)).trans ?_
      rw [folded_take (show k < l.length by omega)]
      exact apply_le (folded_inv hl he k (by omega)).1 (List.all_eq_true.1 he _ (List.getElem_mem _))
end Go.Proofs.Ytpiaaeggofnphaa

/- Marks: lists of plain structs are written full of numbers, and looked at again. -/
namespace Go.Proofs.Ytpiaaeggofnphaa
open Go

section
variable {α : Type} {g : Nat → α → α} {l : List α} {i : Nat}
/-- The first so many are marked. -/
def mk1 (g : Nat → α → α) (i : Nat) (l : List α) : List α := l.mapIdx fun j x => if j < i then g j x else x
theorem mk1_len : (mk1 g i l).length = l.length := by simp [mk1]
theorem mk1_zero : mk1 g 0 l = l := by
  apply List.ext_getElem
  · simp [mk1]
  · intro n h1 h2; simp [mk1]
theorem mk1_idx (h : i < l.length) : idx (mk1 g i l) (i : Int) = some l[i] := by
  rw [idx_lt (by rw [mk1_len]; exact h)]
  simp [mk1]
theorem mk1_set (h : i < l.length) : (mk1 g i l).set i (g i l[i]) = mk1 g (i + 1) l := by
  apply List.ext_getElem
  · simp [mk1]
  · intro n h1 h2
    rw [List.getElem_set]
    simp only [mk1, List.getElem_mapIdx]
    by_cases q : i = n
    · subst q; simp
    · simp only [q, if_false]
      by_cases c : n < i
      · rw [if_pos c, if_pos (by omega)]
      · rw [if_neg c, if_neg (by omega)]
theorem mk1_get (h : i < l.length) {n : Nat} (hn : i < n) : idx (mk1 g n l) (i : Int) = some (g i l[i]) := by
  rw [idx_lt (by rw [mk1_len]; exact h)]
  simp [mk1, hn]
theorem idx_set {x : α} (h : i < l.length) : idx (l.set i x) (i : Int) = some x := by
  rw [idx_lt (by simpa using h)]
  simp
end
theorem toNat_nat (k : Nat) : ((k : Nat) : Int).toNat = k := by simp

def markInt (k : Int) (j : Nat) (_ : Int) : Int := (k + (j : Int))
def markRead (k : Int) (j : Nat) (_ : TRead) : TRead := ⟨(k + 2 * (j : Int)), (k + 2 * (j : Int)) + 1⟩
theorem markReadS_eq {l : List TRead} {k : Int} (h : Fits l) (h1 : 0 ≤ k) (h2 : k ≤ 1000000000000000000) : laws_markReadS l k = some (k + 2 * (l.length : Int), mk1 (markRead k) l.length l) := by
  have hl := h
  unfold Fits at hl
  unfold laws_markReadS
  have hloop := loop_to (body := fun s : (List TRead) × Int × Int => laws_markReadS_b1 s.1 s.2.1 s.2.2) (fun j => (mk1 (markRead k) j l, k + 2 * (j : Int), (j : Int))) l.length (by
    intro j hj
    unfold laws_markReadS_b1
    have hjl : j < (mk1 (markRead k) j l).length := by rw [mk1_len]; exact hj
    simp only [lt_len _ j hjl, cond_true, mk1_idx hj, Option.bind_some, toNat_nat]
    rw [idx_set hjl, Option.bind_some]
    rw [w64_next h hj]
    rw [w64_in (n := k + 2 * (j : Int) + 1) (by omega) (by omega)]
    rw [w64_in (n := k + 2 * (j : Int) + 1 + 1) (by omega) (by omega)]
    simp only [List.set_set]
    have e := mk1_set (g := markRead k) hj
    rw [← e]
    have e2 : k + 2 * (j : Int) + 1 + 1 = k + 2 * ((j + 1 : Nat) : Int) := by omega
    have e3 : markRead k j l[j] = ⟨k + 2 * (j : Int), k + 2 * (j : Int) + 1⟩ := by unfold markRead; congr 1 <;> omega
    rw [e2, e3])
  rw [mk1_zero] at hloop
  simp only [Int.ofNat_zero, Int.mul_zero, Int.add_zero, Int.natCast_zero] at hloop
  rw [hloop, loop_brk (b := (mk1 (markRead k) l.length l, k + 2 * (l.length : Int)))]
  · rfl
  · unfold laws_markReadS_b1
    simp only [mk1_len, nlt_len]
    rfl
theorem eqReadS_same {l : List TRead} (h : Fits l) : laws_eqReadS l l = some true := by
  unfold laws_eqReadS
  rw [bne_self_eq_false, cond_false, all_loop l h (fun _ => true) false ()]
  · rw [show l.all (fun _ => true) = true from by simp]; rfl
  · intro k hk
    unfold laws_eqReadS_b1 laws_eqRead
    rw [lt_len l k hk, idx_lt hk]
    simp [bne_self_eq_false]
  · unfold laws_eqReadS_b1
    rw [nlt_len]; rfl
def markPut (k : Int) (j : Nat) (_ : TPut) : TPut := ⟨(k + 2 * (j : Int)), (k + 2 * (j : Int)) + 1⟩
theorem markPutS_eq {l : List TPut} {k : Int} (h : Fits l) (h1 : 0 ≤ k) (h2 : k ≤ 1000000000000000000) : laws_markPutS l k = some (k + 2 * (l.length : Int), mk1 (markPut k) l.length l) := by
  have hl := h
  unfold Fits at hl
  unfold laws_markPutS
  have hloop := loop_to (body := fun s : (List TPut) × Int × Int => laws_markPutS_b1 s.1 s.2.1 s.2.2) (fun j => (mk1 (markPut k) j l, k + 2 * (j : Int), (j : Int))) l.length (by
    intro j hj
    unfold laws_markPutS_b1
    have hjl : j < (mk1 (markPut k) j l).length := by rw [mk1_len]; exact hj
    simp only [lt_len _ j hjl, cond_true, mk1_idx hj, Option.bind_some, toNat_nat]
    rw [idx_set hjl, Option.bind_some]
    rw [w64_next h hj]
    rw [w64_in (n := k + 2 * (j : Int) + 1) (by omega) (by omega)]
    rw [w64_in (n := k + 2 * (j : Int) + 1 + 1) (by omega) (by omega)]
    simp only [List.set_set]
    have e := mk1_set (g := markPut k) hj
    rw [← e]
    have e2 : k + 2 * (j : Int) + 1 + 1 = k + 2 * ((j + 1 : Nat) : Int) := by omega
    have e3 : markPut k j l[j] = ⟨k + 2 * (j : Int), k + 2 * (j : Int) + 1⟩ := by unfold markPut; congr 1 <;> omega
    rw [e2, e3])
  rw [mk1_zero] at hloop
  simp only [Int.ofNat_zero, Int.mul_zero, Int.add_zero, Int.natCast_zero] at hloop
  rw [hloop, loop_brk (b := (mk1 (markPut k) l.length l, k + 2 * (l.length : Int)))]
  · rfl
  · unfold laws_markPutS_b1
    simp only [mk1_len, nlt_len]
    rfl
theorem eqPutS_same {l : List TPut} (h : Fits l) : laws_eqPutS l l = some true := by
  unfold laws_eqPutS
  rw [bne_self_eq_false, cond_false, all_loop l h (fun _ => true) false ()]
  · rw [show l.all (fun _ => true) = true from by simp]; rfl
  · intro k hk
    unfold laws_eqPutS_b1 laws_eqPut
    rw [lt_len l k hk, idx_lt hk]
    simp [bne_self_eq_false]
  · unfold laws_eqPutS_b1
    rw [nlt_len]; rfl
def markReq (k : Int) (j : Nat) (_ : TReq) : TReq := ⟨(k + 2 * (j : Int)), (k + 2 * (j : Int)) + 1⟩
def markBox (k : Int) (j : Nat) (_ : TBox) : TBox := ⟨(k + 2 * (j : Int)), (k + 2 * (j : Int)) + 1⟩
theorem markBoxS_eq {l : List TBox} {k : Int} (h : Fits l) (h1 : 0 ≤ k) (h2 : k ≤ 1000000000000000000) : laws_markBoxS l k = some (k + 2 * (l.length : Int), mk1 (markBox k) l.length l) := by
  have hl := h
  unfold Fits at hl
  unfold laws_markBoxS
  have hloop := loop_to (body := fun s : (List TBox) × Int × Int => laws_markBoxS_b1 s.1 s.2.1 s.2.2) (fun j => (mk1 (markBox k) j l, k + 2 * (j : Int), (j : Int))) l.length (by
    intro j hj
    unfold laws_markBoxS_b1
    have hjl : j < (mk1 (markBox k) j l).length := by rw [mk1_len]; exact hj
    simp only [lt_len _ j hjl, cond_true, mk1_idx hj, Option.bind_some, toNat_nat]
    rw [idx_set hjl, Option.bind_some]
    rw [w64_next h hj]
    rw [w64_in (n := k + 2 * (j : Int) + 1) (by omega) (by omega)]
    rw [w64_in (n := k + 2 * (j : Int) + 1 + 1) (by omega) (by omega)]
    simp only [List.set_set]
    have e := mk1_set (g := markBox k) hj
    rw [← e]
    have e2 : k + 2 * (j : Int) + 1 + 1 = k + 2 * ((j + 1 : Nat) : Int) := by omega
    have e3 : markBox k j l[j] = ⟨k + 2 * (j : Int), k + 2 * (j : Int) + 1⟩ := by unfold markBox; congr 1 <;> omega
    rw [e2, e3])
  rw [mk1_zero] at hloop
  simp only [Int.ofNat_zero, Int.mul_zero, Int.add_zero, Int.natCast_zero] at hloop
  rw [hloop, loop_brk (b := (mk1 (markBox k) l.length l, k + 2 * (l.length : Int)))]
  · rfl
  · unfold laws_markBoxS_b1
    simp only [mk1_len, nlt_len]
    rfl
theorem heldBoxS_eq {l : List TBox} {k : Int} (h : Fits l) (h1 : 0 ≤ k) (h2 : k ≤ 1000000000000000000) : laws_heldBoxS (mk1 (markBox k) l.length l) k = some (k + 2 * (l.length : Int)) := by
  have hl := h
  unfold Fits at hl
  unfold laws_heldBoxS
  have hloop := loop_to (body := fun s : Int × Int => laws_heldBoxS_b1 (mk1 (markBox k) l.length l) s.1 s.2) (fun j => (k + 2 * (j : Int), (j : Int))) l.length (by
    intro j hj
    unfold laws_heldBoxS_b1
    have hjl : j < (mk1 (markBox k) l.length l).length := by rw [mk1_len]; exact hj
    have e3 : markBox k j l[j] = ⟨k + 2 * (j : Int), k + 2 * (j : Int) + 1⟩ := by unfold markBox; congr 1 <;> omega
    simp only [lt_len _ j hjl, cond_true, mk1_get hj hj, Option.bind_some, e3]
    rw [w64_next h hj]
    rw [w64_in (n := k + 2 * (j : Int) + 1) (by omega) (by omega)]
    rw [w64_in (n := k + 2 * (j : Int) + 1 + 1) (by omega) (by omega)]
    simp only [bne_self_eq_false, cond_false]
    have e2 : k + 2 * (j : Int) + 1 + 1 = k + 2 * ((j + 1 : Nat) : Int) := by omega
    rw [e2])
  simp only [Int.ofNat_zero, Int.mul_zero, Int.add_zero, Int.natCast_zero] at hloop
  rw [hloop, loop_brk (b := k + 2 * (l.length : Int))]
  · rfl
  · unfold laws_heldBoxS_b1
    simp only [mk1_len, nlt_len]
    rfl
theorem eqBoxS_same {l : List TBox} (h : Fits l) : laws_eqBoxS l l = some true := by
  unfold laws_eqBoxS
  rw [bne_self_eq_false, cond_false, all_loop l h (fun _ => true) false ()]
  · rw [show l.all (fun _ => true) = true from by simp]; rfl
  · intro k hk
    unfold laws_eqBoxS_b1 laws_eqBox
    rw [lt_len l k hk, idx_lt hk]
    simp [bne_self_eq_false]
  · unfold laws_eqBoxS_b1
    rw [nlt_len]; rfl
/-! ### Entries: how many there are in all -/
def wE (e : TEntry) : Nat := e.Run.Reads.length + e.Run.Puts.length
def wEs (l : List TEntry) : Nat := (l.map wE).sum
theorem szRun_le {x : TRun} {n v : Int} (hf : fRun x) (h0 : 0 ≤ n) (hn : n ≤ 1048576) (h : laws_szRun x n = some v) (hv : 0 ≤ v) : ((x.Reads.length + x.Puts.length : Nat) : Int) + v ≤ n := by
  have f1 : Fits x.Reads := hf.1.fits (by decide)
  have f2 : Fits x.Puts := hf.2.1.fits (by decide)
  unfold Fits at f1 f2
  unfold laws_szRun laws_szReadS at h
  rw [w64_in (by omega) (by omega)] at h
  by_cases q1 : n - (x.Reads.length : Int) < 0
  · simp only [q1, decide_true, cond_true, Option.bind_some] at h
    injection h with h
    omega
  · simp only [q1, decide_false, cond_false, Option.bind_some] at h
    unfold laws_szPutS at h
    rw [w64_in (by omega) (by omega)] at h
    by_cases q2 : n - (x.Reads.length : Int) - (x.Puts.length : Int) < 0
    · simp only [q2, decide_true, cond_true, Option.bind_some] at h
      injection h with h
      omega
    · simp only [q2, decide_false, cond_false, Option.bind_some] at h
      injection h with h
      omega
theorem szEntry_le {x : TEntry} {n v : Int} (hf : fEntry x) (h0 : 0 ≤ n) (hn : n ≤ 1048576) (h : laws_szEntry x n = some v) (hv : 0 ≤ v) : (wE x : Int) + v ≤ n := by
  unfold laws_szEntry at h
  obtain ⟨u, hu⟩ := szRun_tot x.Run n
  rw [hu, Option.bind_some] at h
  by_cases q : u < 0
  · simp only [q, decide_true, cond_true] at h
    injection h with h
    omega
  · simp only [q, decide_false, cond_false] at h
    injection h with h
    subst h
    exact szRun_le hf.2 h0 hn hu hv
theorem wEs_cons (x : TEntry) (l : List TEntry) : wEs (x :: l) = wE x + wEs l := by simp [wEs]
theorem wEs_take {l : List TEntry} {i : Nat} (h : i < l.length) : wEs (l.take (i + 1)) = wEs (l.take i) + wE l[i] := by
  unfold wEs
  rw [List.take_succ_eq_append_getElem h, List.map_append, List.sum_append]
  simp
theorem szEntryS_le {l : List TEntry} {n v : Int} (hf : okL 88 fEntry l) (h0 : 0 ≤ n) (hn : n ≤ 1048576) (h : laws_szEntryS l n = some v) (hv : 0 ≤ v) : (l.length : Int) + (wEs l : Int) + v ≤ n := by
  have hl : Fits l := hf.fits (by decide)
  have hl' := hl
  unfold Fits at hl'
  unfold laws_szEntryS at h
  rw [w64_in (by omega) (by omega)] at h
  by_cases q : n - (l.length : Int) < 0
  · simp only [q, decide_true, cond_true] at h
    injection h with h
    omega
  · simp only [q, decide_false, cond_false] at h
    cases hx : loop (fun s : Int × Int => laws_szEntryS_b1 l s.1 s.2) (n - (l.length : Int), 0) with
    | none => rw [hx] at h; cases h
    | some x =>
      rw [hx, Option.bind_some] at h
      have key := loopD (I := fun s : Int × Int => ∀ j : Nat, s.2 = (j : Int) → j ≤ l.length → 0 ≤ s.1 → s.1 ≤ 1048576 → (∀ b, x = .brk b → (wEs (l.drop j) : Int) + b ≤ s.1) ∧ (∀ b, x = .ret b → b < 0)) hx (by
        intro s st hst hc j hj hjl hs0 hs1
        unfold laws_szEntryS_b1 at hst
        rw [hj] at hst
        by_cases hlt : j < l.length
        · rw [lt_len l j hlt, idx_lt hlt] at hst
          simp only [cond_true, Option.bind_some] at hst
          obtain ⟨u, hu⟩ := szEntry_tot l[j] s.1
          rw [hu, Option.bind_some] at hst
          by_cases q2 : u < 0
          · simp only [q2, decide_true, cond_true] at hst
            injection hst with hst
            subst hst
            have : x = .ret (-1) := hc
            subst this
            exact ⟨fun b hb => (by cases hb), fun b hb => (by injection hb with hb; omega)⟩
          · simp only [q2, decide_false, cond_false] at hst
            injection hst with hst
            subst hst
            have hle := szEntry_le (hf.2 _ (List.getElem_mem hlt)) hs0 hs1 hu (by omega)
            have := hc (j + 1) (w64_next hl hlt) (by omega) (by show 0 ≤ u; omega) (by show u ≤ 1048576; omega)
            refine ⟨fun b hb => ?_, this.2⟩
            have h1 := this.1 b hb
            rw [List.drop_eq_getElem_cons hlt, wEs_cons]
            have h1' : (wEs (l.drop (j + 1)) : Int) + b ≤ u := h1
            omega
        · have : j = l.length := by omega
          subst this
          rw [nlt_len] at hst
          injection hst with hst
          subst hst
          have : x = .brk s.1 := hc
          subst this
          refine ⟨fun b hb => ?_, fun b hb => (by cases hb)⟩
          injection hb with hb
          subst hb
          rw [List.drop_length]
          simp [wEs]) 0 rfl (by omega) (by show 0 ≤ n - (l.length : Int); omega) (by show n - (l.length : Int) ≤ 1048576; omega)
      cases x with
      | ret r =>
        injection h with h
        subst h
        have := key.2 r rfl
        omega
      | brk b =>
        injection h with h
        subst h
        have := key.1 b rfl
        rw [List.drop_zero] at this
        have h2 : (wEs l : Int) + b ≤ n - (l.length : Int) := this
        omega
/-- All entries are marked. -/
theorem markEntryS_tot {l : List TEntry} {k : Int} (hf : okL 88 fEntry l) (h0 : 0 ≤ k) (h1 : k ≤ 1048576) (hw : l.length + wEs l ≤ 1048576) : ∃ m l', laws_markEntryS l k = some (m, l') ∧ l'.length = l.length ∧ 0 ≤ m ∧ m ≤ 10000000 := by
  have hl : Fits l := hf.fits (by decide)
  have hle : ∀ i, i ≤ l.length → wEs (l.take i) ≤ wEs l := by
    intro i hi
    have : wEs l = wEs (l.take i) + wEs (l.drop i) := by
      unfold wEs
      rw [← List.sum_append, ← List.map_append, List.take_append_drop]
    omega
  unfold laws_markEntryS
  obtain ⟨x, hx, hq⟩ := loop_inv (body := fun s : (List TEntry) × Int × Int => laws_markEntryS_b1 s.1 s.2.1 s.2.2)
    (fun m s => ∃ i : Nat, s.2.2 = (i : Int) ∧ i + m = l.length ∧ s.2.1 = k + 5 * (i : Int) + 2 * (wEs (l.take i) : Int) ∧ s.1.length = l.length ∧ ∀ j, i ≤ j → s.1[j]? = l[j]?)
    (fun x => ∃ b, x = .brk b ∧ b.1.length = l.length ∧ 0 ≤ b.2 ∧ b.2 ≤ 10000000) (fun m s ⟨i, hi, hm, hk, hsl, hs⟩ => by
    obtain ⟨a, kk, ii⟩ := s
    simp only at hi hk hsl hs
    subst hi
    unfold laws_markEntryS_b1
    have hwi := hle i (by omega)
    by_cases hlt : i < l.length
    · have hla : i < a.length := by omega
      have hai : a[i] = l[i] := by
        have := hs i (Nat.le_refl _)
        rw [List.getElem?_eq_getElem hla, List.getElem?_eq_getElem hlt] at this
        exact Option.some.inj this
      have hwi2 := hle (i + 1) (by omega)
      rw [wEs_take hlt] at hwi2
      have hfe := hf.2 _ (List.getElem_mem hlt)
      have f1 : Fits l[i].Run.Reads := hfe.2.1.fits (by decide)
      have f2 : Fits l[i].Run.Puts := hfe.2.2.1.fits (by decide)
      have e1 : w64 (kk + 1) = kk + 1 := w64_in (by omega) (by omega)
      have e2 : w64 (kk + 1 + 1) = kk + 1 + 1 := w64_in (by omega) (by omega)
      have e3 : w64 (kk + 1 + 1 + 1) = kk + 1 + 1 + 1 := w64_in (by omega) (by omega)
      unfold wE at hwi2
      simp only [lt_len _ i hla, cond_true, idx_lt hla, hai, Option.bind_some, toNat_nat, idx_set hla, List.set_set, e1, e2, e3]
      rw [markReadS_eq f1 (by omega) (by omega), Option.bind_some]
      simp only [mk1_len]
      rw [need_pos trivial, markPutS_eq f2 (by omega) (by omega), Option.bind_some]
      simp only [mk1_len]
      rw [need_pos trivial]
      refine ⟨_, rfl, m - 1, by omega, i + 1, w64_next hl hlt, by omega, ?_, by simpa using hsl, ?_⟩
      · show w64 (w64 (kk + 1 + 1 + 1 + 2 * (l[i].Run.Reads.length : Int) + 2 * (l[i].Run.Puts.length : Int) + 1) + 1) = _
        rw [w64_in (n := kk + 1 + 1 + 1 + 2 * (l[i].Run.Reads.length : Int) + 2 * (l[i].Run.Puts.length : Int) + 1) (by omega) (by omega), w64_in (by omega) (by omega), wEs_take hlt]
        unfold wE
        omega
      · intro j hj
        show (a.set i _)[j]? = _
        rw [List.getElem?_set_ne (by omega)]
        exact hs j (by omega)
    · have hil : i = l.length := by omega
      have : decide ((i : Int) < (a.length : Int)) = false := by simp; omega
      rw [this]
      refine ⟨_, rfl, _, rfl, hsl, ?_, ?_⟩ <;> (show _ ≤ _; simp only; omega)) (k := l.length) (s := (l, k, 0)) ⟨0, rfl, by omega, by simp [wEs], rfl, fun _ _ => rfl⟩
  obtain ⟨b, rfl, h3, h4, h5⟩ := hq
  rw [hx, Option.bind_some]
  exact ⟨b.2, b.1, rfl, h3, h4, h5⟩
end Go.Proofs.Ytpiaaeggofnphaa

/- The law FnExactHistAt. -/
namespace Go.Proofs.Ytpiaaeggofnphaa
open Go

theorem fnExactHistAt_true {l : List TEntry} {n : Int} (h : okL 88 okEntry l) (hn : okI n) : laws_FnExactHistAt l n = some true := by
  have hf := okEntries.f h
  obtain ⟨v, h1⟩ := szEntryS_tot (hf.fits (by decide)) 1048576
  unfold laws_FnExactHistAt
  rw [h1, Option.bind_some]
  by_cases hv : v < 0
  · simp only [hv, decide_true, cond_true]
  have hle := szEntryS_le hf (by omega) (by omega) h1 (by omega)
  have hc := histAt_fits l n
  have hcl : (histAt l n).length ≤ 140737488351232 := hc
  simp only [hv, decide_false, cond_false, toEntryS_eq hf, Option.bind_some, specAt_eq hf, implAt_eq hf, eqBoxS_same hc, Bool.not_true, eqEntryS_self hf]
  obtain ⟨m, l', hm, hl', hm0, hm1⟩ := markEntryS_tot hf (k := 1) (by omega) (by omega) (by omega)
  rw [hm, Option.bind_some, need_pos hl'.symm]
  have : ¬ m < 0 := by omega
  simp only [this, decide_false, cond_false]
  rw [markBoxS_eq hc (by omega) (by omega), Option.bind_some]
  simp only [mk1_len]
  rw [need_pos trivial, heldBoxS_eq hc (by omega) (by omega), Option.bind_some]
  have : ¬ (1 + 2 * ((histAt l n).length : Int) < 0) := by omega
  simp only [this, decide_false, cond_false, bne_self_eq_false]
  rw [Option.bind_some]
  simp only [this, decide_false, cond_false, bne_self_eq_false]
end Go.Proofs.Ytpiaaeggofnphaa
