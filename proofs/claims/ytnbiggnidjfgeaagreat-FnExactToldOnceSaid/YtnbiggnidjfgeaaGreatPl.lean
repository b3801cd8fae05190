/- The plain laws, in one text. -/
import Derived.Test.YtnbiggnidjfgeaaGreatAm32
import Derived.IntWalk
import Derived.Test.YtnbiggnidjfgeaaGreatOp
import Derived.Test.YtnbiggnidjfgeaaGreatF3
set_option linter.unusedVariables false
set_option linter.unusedSimpArgs false

/- Loops of the plain functions, told without a loop. -/
namespace Go.Proofs.YtnbiggnidjfgeaaGreat
open Go

theorem w64_in {n : Int} (h1 : -9223372036854775808 ≤ n) (h2 : n ≤ 9223372036854775807) : w64 n = n := IntWalk.i64_in n ⟨h1, h2⟩

/-- How great a list can be. -/
def Fits {α : Type} (l : List α) : Prop := l.length ≤ 140737488351232

theorem w64_next {α : Type} {l : List α} (hl : Fits l) {k : Nat} (h : k < l.length) : w64 ((k : Int) + 1) = ((k + 1 : Nat) : Int) := by
  unfold Fits at hl
  rw [w64_in (by omega) (by omega)]
  omega

section
variable {R S B : Type} {body : S → Option (Stp R S B)}
theorem loop_nxt {s t : S} (h : body s = some (.nxt t)) : loop body s = loop body t := by rw [loop_eq, h]
theorem loop_brk {s : S} {b : B} (h : body s = some (.brk b)) : loop body s = some (.brk b) := by rw [loop_eq, h]
theorem loop_ret {s : S} {r : R} (h : body s = some (.ret r)) : loop body s = some (.ret r) := by rw [loop_eq, h]
/-- A loop that comes through all its rounds. -/
theorem loop_to (st : Nat → S) (n : Nat) (h : ∀ k, k < n → body (st k) = some (.nxt (st (k + 1)))) : loop body (st 0) = loop body (st n) := by
  induction n with
  | zero => rfl
  | succ n ih =>
    rw [ih fun k hk => h k (by omega)]
    exact loop_nxt (h n (by omega))
/-- A loop that looks at each round whether something stands, and ends where it doesn't. -/
theorem loop_chk (st : Nat → S) (n : Nat) (ok : Nat → Bool) (r : Nat → R) (b : B)
    (h1 : ∀ k, k < n → (∀ j, j < k → ok j = true) → body (st k) = some (bif ok k then .nxt (st (k + 1)) else .ret (r k)))
    (h2 : (∀ j, j < n → ok j = true) → body (st n) = some (.brk b)) :
    (loop body (st 0) = some (.brk b) ∧ ∀ j, j < n → ok j = true) ∨ ∃ k, k < n ∧ ok k = false ∧ (∀ j, j < k → ok j = true) ∧ loop body (st 0) = some (.ret (r k)) := by
  by_cases hall : ∀ j, j < n → ok j = true
  · left
    refine ⟨?_, hall⟩
    rw [loop_to st n fun k hk => ?_]
    · exact loop_brk (h2 hall)
    · rw [h1 k hk fun j hj => hall j (by omega), hall k hk]; rfl
  · right
    have hex : ∃ k, k < n ∧ ok k = false := by
      apply Classical.byContradiction
      intro hn
      apply hall
      intro j hj
      cases hj' : ok j with
      | true => rfl
      | false => exact absurd ⟨j, hj, hj'⟩ hn
    obtain ⟨k, hk, ho, hb⟩ : ∃ k, k < n ∧ ok k = false ∧ ∀ j, j < k → ok j = true := by
      obtain ⟨k, hk, ho⟩ := hex
      induction k using Nat.strongRecOn with
      | _ k ih =>
        by_cases hb : ∀ j, j < k → ok j = true
        · exact ⟨k, hk, ho, hb⟩
        · have : ∃ j, j < k ∧ ok j = false := by
            apply Classical.byContradiction
            intro hn
            apply hb
            intro j hj
            cases hj' : ok j with
            | true => rfl
            | false => exact absurd ⟨j, hj, hj'⟩ hn
          obtain ⟨j, hj, hjo⟩ := this
          exact ih j hj (by omega) hjo
    refine ⟨k, hk, ho, hb, ?_⟩
    rw [loop_to st k fun j hj => ?_]
    · refine loop_ret ?_
      rw [h1 k hk hb, ho]
      rfl
    · rw [h1 j (by omega) fun i hi => hb i (by omega), hb j hj]; rfl
end

/-- A loop by an invariant and a number that falls. -/
theorem loop_inv {R S B : Type} {body : S → Option (Stp R S B)} (I : Nat → S → Prop) (Q : Exc R B → Prop)
    (h : ∀ k s, I k s → ∃ st, body s = some st ∧ match st with | .ret r => Q (.ret r) | .brk b => Q (.brk b) | .nxt t => ∃ k', k' < k ∧ I k' t) : ∀ {k s}, I k s → ∃ x, loop body s = some x ∧ Q x := by
  intro k
  induction k using Nat.strongRecOn with
  | _ k ih =>
    intro s hs
    obtain ⟨st, hb, hq⟩ := h k s hs
    cases st with
    | ret r => exact ⟨_, loop_ret hb, hq⟩
    | brk b => exact ⟨_, loop_brk hb, hq⟩
    | nxt t =>
      obtain ⟨k', hk, ht⟩ := hq
      obtain ⟨x, hx, hq⟩ := ih k' hk ht
      exact ⟨x, by rw [loop_nxt hb]; exact hx, hq⟩

theorem need_pos {β : Type} {p : Prop} [Decidable p] (h : p) (k : Option β) : need p k = k := if_pos h

theorem idx_nat {α : Type} (l : List α) (k : Nat) : idx l (k : Int) = l[k]? := by
  unfold idx
  rw [if_pos (by omega)]
  rfl
theorem idx_lt {α : Type} {l : List α} {k : Nat} (h : k < l.length) : idx l (k : Int) = some l[k] := by
  rw [idx_nat, List.getElem?_eq_getElem h]

theorem lt_len {α : Type} (l : List α) (k : Nat) (h : k < l.length) : decide ((k : Int) < (l.length : Int)) = true := by simpa using h
theorem nlt_len {α : Type} (l : List α) : decide ((l.length : Int) < (l.length : Int)) = false := by simp

/-- A loop over a list that ends at the first element for which a test says no. -/
theorem all_loop {α B : Type} {body : Int → Option (Stp Bool Int B)} (l : List α) (hl : Fits l) (ok : α → Bool) (v : Bool) (b : B)
    (h1 : ∀ (k : Nat) (h : k < l.length), body (k : Int) = some (bif ok l[k] then .nxt (w64 ((k : Int) + 1)) else .ret v))
    (h2 : body (l.length : Int) = some (.brk b)) : loop body 0 = some (bif l.all ok then .brk b else .ret v) := by
  have h := loop_chk (body := body) (fun k => (k : Int)) l.length (fun k => match l[k]? with | some x => ok x | none => true) (fun _ => v) b
    (fun k hk _ => by
      have := h1 k hk
      rw [w64_next hl hk] at this
      simpa [List.getElem?_eq_getElem hk] using this) (fun _ => h2)
  rcases h with ⟨h, hall⟩ | ⟨k, hk, ho, _, h⟩
  · have : l.all ok = true := by
      rw [List.all_eq_true]
      intro x hx
      obtain ⟨i, hi, rfl⟩ := List.getElem_of_mem hx
      have := hall i hi
      simpa [List.getElem?_eq_getElem hi] using this
    rw [this]; exact h
  · have : l.all ok = false := by
      rw [List.all_eq_false]
      refine ⟨l[k], List.getElem_mem hk, ?_⟩
      simpa [List.getElem?_eq_getElem hk] using ho
    rw [this]; exact h

/-- As `all_loop`, where the test may look at the place. -/
theorem alli_loop {α B : Type} {body : Int → Option (Stp Bool Int B)} (l : List α) (hl : Fits l) (ok : Nat → Bool) (v : Bool) (b : B)
    (h1 : ∀ (k : Nat) (h : k < l.length), (∀ j, j < k → ok j = true) → body (k : Int) = some (bif ok k then .nxt (w64 ((k : Int) + 1)) else .ret v))
    (h2 : body (l.length : Int) = some (.brk b)) : loop body 0 = some (bif (List.range l.length).all ok then .brk b else .ret v) := by
  have h := loop_chk (body := body) (fun k => (k : Int)) l.length ok (fun _ => v) b
    (fun k hk hb => by
      have := h1 k hk hb
      rw [w64_next hl hk] at this
      exact this) (fun _ => h2)
  rcases h with ⟨h, hall⟩ | ⟨k, hk, ho, _, h⟩
  · have : (List.range l.length).all ok = true := by
      rw [List.all_eq_true]
      intro x hx
      exact hall x (by simpa using hx)
    rw [this]; exact h
  · have : (List.range l.length).all ok = false := by
      rw [List.all_eq_false]
      exact ⟨k, by simpa using hk, by simp [ho]⟩
    rw [this]; exact h

/-- A loop that makes a copy. -/
theorem copy_loop {α R B : Type} {body : List α × Int → Option (Stp R (List α × Int) B)} (l : List α) (hl : Fits l) (z : α) (f : List α → B)
    (h1 : ∀ (k : Nat) (h : k < l.length) (out : List α), out.length = l.length → body (out, (k : Int)) = some (.nxt (out.set k l[k], w64 ((k : Int) + 1))))
    (h2 : body (l, (l.length : Int)) = some (.brk (f l))) : loop body (List.replicate l.length z, 0) = some (.brk (f l)) := by
  have h := loop_to (body := body) (fun k => (l.take k ++ List.replicate (l.length - k) z, (k : Int))) l.length (fun k hk => by
    have := h1 k hk (l.take k ++ List.replicate (l.length - k) z) (by simp; omega)
    rw [w64_next hl hk] at this
    rw [this]
    congr 3
    rw [List.set_append_right k l[k] (by simp; omega)]
    rw [show l.length - k = (l.length - (k + 1)) + 1 from by omega, List.replicate_succ]
    rw [show k - (List.take k l).length = 0 from by simp; omega, List.set_cons_zero, List.take_succ_eq_append_getElem hk, List.append_assoc]
    rfl)
  simp only [List.take_zero, List.nil_append, Nat.sub_zero, List.take_length, Nat.sub_self, List.replicate_zero, List.append_nil] at h
  rw [show ((0 : Nat) : Int) = 0 from rfl] at h
  rw [h]
  exact loop_brk h2

/-- A loop that looks for the first of a kind. -/
theorem find_loop {α R B : Type} {body : Int → Option (Stp R Int B)} (l : List α) (hl : Fits l) (is : α → Bool) (f : α → R) (b : B)
    (h1 : ∀ (k : Nat) (h : k < l.length), body (k : Int) = some (bif is l[k] then .ret (f l[k]) else .nxt (w64 ((k : Int) + 1))))
    (h2 : body (l.length : Int) = some (.brk b)) : loop body 0 = some (match l.find? is with | some x => .ret (f x) | none => .brk b) := by
  have key : ∀ (m k : Nat), k + m = l.length → loop body (k : Int) = some (match (l.drop k).find? is with | some x => .ret (f x) | none => .brk b) := by
    intro m
    induction m with
    | zero =>
      intro k hk
      have : k = l.length := by omega
      subst this
      rw [List.drop_length]
      exact loop_brk h2
    | succ m ih =>
      intro k hk
      have hlt : k < l.length := by omega
      have hb := h1 k hlt
      rw [List.drop_eq_getElem_cons hlt, List.find?_cons]
      cases hq : is l[k] with
      | true =>
        rw [hq] at hb
        exact loop_ret hb
      | false =>
        rw [hq] at hb
        rw [loop_nxt hb, w64_next hl hlt]
        exact ih (k + 1) (by omega)
  have := key l.length 0 (by omega)
  simpa using this
/-- A loop that goes through a list with something of its own. -/
theorem fold_loop {α S R B : Type} {body : S × Int → Option (Stp R (S × Int) B)} (l : List α) (hl : Fits l) (g : S → α → S) (s0 : S) (b : S → B)
    (h1 : ∀ (k : Nat) (h : k < l.length), body ((l.take k).foldl g s0, (k : Int)) = some (.nxt (g ((l.take k).foldl g s0) l[k], w64 ((k : Int) + 1))))
    (h2 : body (l.foldl g s0, (l.length : Int)) = some (.brk (b (l.foldl g s0)))) : loop body (s0, 0) = some (.brk (b (l.foldl g s0))) := by
  have h := loop_to (body := body) (fun k => ((l.take k).foldl g s0, (k : Int))) l.length (fun k hk => by
    rw [h1 k hk, w64_next hl hk, List.take_succ_eq_append_getElem hk, List.foldl_append]
    rfl)
  simp only [List.take_zero, List.foldl_nil, List.take_length] at h
  rw [show ((0 : Nat) : Int) = 0 from rfl] at h
  rw [h]
  exact loop_brk h2
end Go.Proofs.YtnbiggnidjfgeaaGreat

/- Plain laws: copies, sizes, entries by themselves, neighbours that can be swapped. -/
namespace Go.Proofs.YtnbiggnidjfgeaaGreat
open Go

theorem okL.fits {α : Type} {bytes : Nat} {ok : α → Prop} {l : List α} (h : okL bytes ok l) (hb : 0 < bytes) : Fits l := by
  obtain ⟨h, _⟩ := h
  unfold Fits
  have : l.length * 1 ≤ l.length * bytes := Nat.mul_le_mul_left _ hb
  omega
/-- What is asked of sizes alone. -/
def fRun (x : TRun) : Prop := okL 16 okT x.Reads ∧ okL 16 okT x.Puts ∧ True
def fEntry (x : TEntry) : Prop := True ∧ fRun x.Run
theorem okL.imp {α : Type} {bytes : Nat} {ok ok' : α → Prop} {l : List α} (h : okL bytes ok l) (hi : ∀ x, ok x → ok' x) : okL bytes ok' l := ⟨h.1, fun x hx => hi x (h.2 x hx)⟩
theorem okRun.f {x : TRun} (h : okRun x) : fRun x := ⟨h.1.imp fun _ _ => trivial, h.2.1.imp fun _ _ => trivial, trivial⟩
theorem okEntry.f {x : TEntry} (h : okEntry x) : fEntry x := ⟨trivial, h.2.f⟩
theorem okEntries.f {l : List TEntry} (h : okL 88 okEntry l) : okL 88 fEntry l := h.imp fun _ x => x.f

/-! ### Copies -/
theorem toReadS_eq {l : List TRead} (h : okL 16 okT l) : laws_toReadS l = some l := by
  have hf : Fits l := h.fits (by decide)
  have hb := h.1
  unfold laws_toReadS need
  rw [if_pos (by constructor <;> omega), Int.toNat_natCast, copy_loop l hf _ id]
  · rfl
  · intro k hk out ho
    unfold laws_toReadS_b1 laws_toRead
    rw [lt_len l k hk]
    simp [idx_lt hk, idx_lt (ho ▸ hk), Option.bind]
  · unfold laws_toReadS_b1
    rw [nlt_len]
    rfl
theorem toPutS_eq {l : List TPut} (h : okL 16 okT l) : laws_toPutS l = some l := by
  have hf : Fits l := h.fits (by decide)
  have hb := h.1
  unfold laws_toPutS need
  rw [if_pos (by constructor <;> omega), Int.toNat_natCast, copy_loop l hf _ id]
  · rfl
  · intro k hk out ho
    unfold laws_toPutS_b1 laws_toPut
    rw [lt_len l k hk]
    simp [idx_lt hk, idx_lt (ho ▸ hk), Option.bind]
  · unfold laws_toPutS_b1
    rw [nlt_len]
    rfl
theorem toRun_eq {x : TRun} (h : fRun x) : laws_toRun x = some x := by
  unfold laws_toRun
  rw [toReadS_eq h.1, Option.bind_some, toPutS_eq h.2.1]
  rfl
theorem toEntry_eq {x : TEntry} (h : fEntry x) : laws_toEntry x = some x := by
  unfold laws_toEntry laws_toReq
  rw [Option.bind_some, toRun_eq h.2]
  rfl
theorem toEntryS_eq {l : List TEntry} (h : okL 88 fEntry l) : laws_toEntryS l = some l := by
  have hf : Fits l := h.fits (by decide)
  have hb := h.1
  unfold laws_toEntryS need
  rw [if_pos (by constructor <;> omega), Int.toNat_natCast, copy_loop l hf _ id]
  · rfl
  · intro k hk out ho
    unfold laws_toEntryS_b1
    rw [lt_len l k hk]
    simp [idx_lt hk, idx_lt (ho ▸ hk), Option.bind, toEntry_eq (h.2 _ (List.getElem_mem hk))]
  · unfold laws_toEntryS_b1
    rw [nlt_len]
    rfl

/-! ### Sizes -/
theorem szRun_tot (x : TRun) (n : Int) : ∃ v, laws_szRun x n = some v := by
  unfold laws_szRun laws_szReadS laws_szPutS
  simp only [cond_eq_ite]
  repeat' (first | (split; skip) | (simp only [Option.bind_some]; skip))
  all_goals simp
  all_goals grind
theorem szEntry_tot (x : TEntry) (n : Int) : ∃ v, laws_szEntry x n = some v := by
  obtain ⟨v, h⟩ := szRun_tot x.Run n
  unfold laws_szEntry
  rw [h, Option.bind_some]
  cases decide (v < 0) <;> exact ⟨_, rfl⟩
theorem szEntryS_tot {l : List TEntry} (h : Fits l) (n : Int) : ∃ v, laws_szEntryS l n = some v := by
  unfold laws_szEntryS
  cases decide (w64 (n - ↑l.length) < 0)
  · simp only [cond_false]
    obtain ⟨x, hx, _⟩ := loop_inv (body := fun s : Int × Int => laws_szEntryS_b1 l s.1 s.2) (fun k s => ∃ j : Nat, s.2 = (j : Int) ∧ j + k = l.length) (fun _ => True) (fun k s ⟨j, hj, hk⟩ => by
      unfold laws_szEntryS_b1
      rw [hj]
      by_cases hlt : j < l.length
      · rw [lt_len l j hlt, idx_lt hlt]
        obtain ⟨v, hv⟩ := szEntry_tot l[j] s.1
        simp only [cond_true, Option.bind_some, hv]
        cases decide (v < 0)
        · exact ⟨_, rfl, k - 1, by omega, j + 1, w64_next h hlt, by omega⟩
        · exact ⟨_, rfl, trivial⟩
      · have : j = l.length := by omega
        subst this
        rw [nlt_len]
        exact ⟨_, rfl, trivial⟩) (k := l.length) (s := (w64 (n - ↑l.length), 0)) ⟨0, rfl, by omega⟩
    rw [hx, Option.bind_some]
    cases x with
    | ret r => exact ⟨_, rfl⟩
    | brk b => exact ⟨_, rfl⟩
  · exact ⟨_, rfl⟩

/-! ### A list is itself -/
theorem eqReadS_self {l : List TRead} (h : Fits l) : laws_eqReadS l l = some true := by
  unfold laws_eqReadS
  rw [bne_self_eq_false, cond_false, all_loop l h (fun _ => true) false ()]
  · rw [show l.all (fun _ => true) = true from by simp]; rfl
  · intro k hk
    unfold laws_eqReadS_b1 laws_eqRead
    rw [lt_len l k hk, idx_lt hk]
    simp [bne_self_eq_false]
  · unfold laws_eqReadS_b1
    rw [nlt_len]; rfl
theorem eqPutS_self {l : List TPut} (h : Fits l) : laws_eqPutS l l = some true := by
  unfold laws_eqPutS
  rw [bne_self_eq_false, cond_false, all_loop l h (fun _ => true) false ()]
  · rw [show l.all (fun _ => true) = true from by simp]; rfl
  · intro k hk
    unfold laws_eqPutS_b1 laws_eqPut
    rw [lt_len l k hk, idx_lt hk]
    simp [bne_self_eq_false]
  · unfold laws_eqPutS_b1
    rw [nlt_len]; rfl
theorem eqRun_self {x : TRun} (h : fRun x) : laws_eqRun x x = some true := by
  unfold laws_eqRun
  rw [eqReadS_self (h.1.fits (by decide)), Option.bind_some, Bool.not_true, cond_false, eqPutS_self (h.2.1.fits (by decide)), Option.bind_some, Bool.not_true, cond_false]
  simp
theorem eqEntry_self {x : TEntry} (h : fEntry x) : laws_eqEntry x x = some true := by
  unfold laws_eqEntry
  rw [eqRun_self h.2]
  unfold laws_eqReq
  simp
theorem eqEntryS_self {l : List TEntry} (h : okL 88 fEntry l) : laws_eqEntryS l l = some true := by
  have hf : Fits l := h.fits (by decide)
  unfold laws_eqEntryS
  rw [bne_self_eq_false, cond_false, all_loop l hf (fun _ => true) false ()]
  · rw [show l.all (fun _ => true) = true from by simp]; rfl
  · intro k hk
    unfold laws_eqEntryS_b1
    rw [lt_len l k hk, idx_lt hk]
    simp [eqEntry_self (h.2 _ (List.getElem_mem hk))]
  · unfold laws_eqEntryS_b1
    rw [nlt_len]; rfl

/-! ### Runs: the small looks -/
def saw (l : List TRead) (box : Int) : Bool := l.any (·.Box == box)
def sawP (l : List TPut) (box : Int) : Bool := l.any (·.Box == box)
theorem l3Saw_eq {l : List TRead} (h : Fits l) (box : Int) : spec_l3Saw l box = some (saw l box) := by
  unfold spec_l3Saw
  rw [all_loop l h (fun x => !(x.Box == box)) true ()]
  · unfold saw
    rw [List.any_eq_not_all_not]
    cases l.all fun x => !(x.Box == box) <;> rfl
  · intro k hk
    unfold spec_l3Saw_b1
    rw [lt_len l k hk, idx_lt hk]
    cases hq : l[k].Box == box <;> simp [hq]
  · unfold spec_l3Saw_b1
    rw [nlt_len]; rfl
/-- A loop that finds a place, or none. -/
theorem at_loop {α B : Type} {body : Int → Option (Stp Int Int B)} (l : List α) (hl : Fits l) (is : α → Bool) (b : B)
    (h1 : ∀ (k : Nat) (h : k < l.length), body (k : Int) = some (bif is l[k] then .ret (k : Int) else .nxt (w64 ((k : Int) + 1))))
    (h2 : body (l.length : Int) = some (.brk b)) : (loop body 0 = some (.brk b) ∧ l.any is = false) ∨ ∃ k : Nat, loop body 0 = some (.ret (k : Int)) ∧ l.any is = true := by
  have h := loop_chk (body := body) (fun k => (k : Int)) l.length (fun k => match l[k]? with | some x => !is x | none => true) (fun k => (k : Int)) b
    (fun k hk _ => by
      have := h1 k hk
      rw [w64_next hl hk] at this
      rw [this]
      simp only [List.getElem?_eq_getElem hk]
      cases is l[k] <;> rfl) (fun _ => h2)
  rcases h with ⟨h, hall⟩ | ⟨k, hk, ho, _, h⟩
  · left
    refine ⟨h, ?_⟩
    rw [List.any_eq_false]
    intro x hx
    obtain ⟨i, hi, rfl⟩ := List.getElem_of_mem hx
    have := hall i hi
    simpa [List.getElem?_eq_getElem hi] using this
  · right
    refine ⟨k, h, ?_⟩
    rw [List.any_eq_true]
    refine ⟨l[k], List.getElem_mem hk, ?_⟩
    simpa [List.getElem?_eq_getElem hk] using ho
theorem l3At_eq {l : List TPut} (h : Fits l) (box : Int) : ∃ v, spec_l3At l box = some v ∧ decide (v ≥ 0) = sawP l box := by
  unfold spec_l3At
  rcases at_loop (body := fun s : Int => spec_l3At_b1 l box s) l h (fun x => x.Box == box) () (by
    intro k hk
    unfold spec_l3At_b1
    rw [lt_len l k hk, idx_lt hk]
    cases hq : l[k].Box == box <;> simp [hq]) (by unfold spec_l3At_b1; rw [nlt_len]; rfl) with ⟨h1, h2⟩ | ⟨k, h1, h2⟩
  · rw [h1]
    exact ⟨-1, rfl, h2.symm⟩
  · rw [h1]
    refine ⟨k, rfl, ?_⟩
    rw [show sawP l box = true from h2]
    simp
def clashes (a b : TRun) (box : Int) : Bool := (sawP a.Puts box && (sawP b.Puts box || saw b.Reads box)) || (sawP b.Puts box && saw a.Reads box)
/-! ### Ranges -/
def inR (n lo hi : Int) : Bool := decide (lo ≤ n ∧ n ≤ hi)
theorem in_eq (n lo hi : Int) : impl_in n lo hi = some (inR n lo hi) := by
  unfold impl_in inR
  by_cases h : n ≥ lo
  · have h' : lo ≤ n := h
    simp [h']
  · have h' : ¬ lo ≤ n := h
    simp [h']
theorem l1Num_eq (n : Int) : spec_l1Num n = some (inR n (-1000000) 1000000) := in_eq n (-1000000) 1000000
theorem l2Box_eq (n : Int) : spec_l2Box n = some (inR n 0 3) := by
  rw [← in_eq]
  unfold spec_l2Box impl_in
  have : (n < 4) = (n ≤ 3) := by apply propext; omega
  simp only [this]
theorem reqOk_eq (q : TReq) : impl_reqOk q = some (inR q.Who 0 2 && inR q.Seq 1 1000) := by
  unfold impl_reqOk
  simp only [in_eq, Option.bind_some]
  cases inR q.Who 0 2 <;> rfl
theorem l5Req_eq (q : TReq) : spec_l5Req q = some (inR q.Who 0 2 && inR q.Seq 1 1000) := by
  have h3 : (q.Who < 3) = (q.Who ≤ 2) := by apply propext; omega
  unfold spec_l5Req inR
  simp only [h3]
  by_cases h1 : q.Who ≥ 0 <;> by_cases h2 : q.Who ≤ 2 <;> by_cases h4 : q.Seq ≥ 1 <;> by_cases h5 : q.Seq ≤ 1000 <;> simp [h1, h2, h4, h5] <;> omega

/-! ### A run by itself -/
def okReads (l : List TRead) (k : Nat) : Bool := match l[k]? with
  | some x => inR x.Box 0 3 && (inR x.Ver 0 1000000 && !saw (l.take k) x.Box)
  | none => true
def okPuts (l : List TPut) (k : Nat) : Bool := match l[k]? with
  | some x => inR x.Box 0 3 && (inR x.Val (-1000000) 1000000 && !sawP (l.take k) x.Box)
  | none => true
theorem take_fits {α : Type} {l : List α} (h : Fits l) (k : Nat) : Fits (l.take k) := by
  unfold Fits at h ⊢
  rw [List.length_take]
  omega
theorem readsS {r : TRun} (h : Fits r.Reads) : loop (fun s : Int => spec_ExecOk_b2 r s) 0 = some (bif (List.range r.Reads.length).all (okReads r.Reads) then .brk () else .ret false) := by
  refine alli_loop r.Reads h (okReads r.Reads) false () ?_ ?_
  · intro k hk _
    unfold spec_ExecOk_b2 okReads need
    rw [lt_len _ k hk, idx_lt hk, List.getElem?_eq_getElem hk]
    have hp : (0 : Int) ≤ (k : Int) ∧ (k : Int) ≤ (r.Reads.length : Int) := by constructor <;> omega
    simp only [cond_true, Option.bind_some, if_pos hp, l2Box_eq, Int.toNat_natCast, Nat.sub_zero, List.drop_zero, l3Saw_eq (take_fits h k)]
    cases inR r.Reads[k].Box 0 3
    · rfl
    · unfold inR
      by_cases h1 : r.Reads[k].Ver < 0
      · have h1' : ¬ 0 ≤ r.Reads[k].Ver := by omega
        simp [h1, h1']
      · have h1' : 0 ≤ r.Reads[k].Ver := by omega
        by_cases h2 : r.Reads[k].Ver > 1000000
        · have h2' : ¬ r.Reads[k].Ver ≤ 1000000 := by omega
          simp [h1, h1', h2, h2']
        · have h2' : r.Reads[k].Ver ≤ 1000000 := by omega
          simp only [h1, h1', h2, h2', decide_false, decide_true, Bool.not_true, cond_false, Bool.true_and, and_self]
          cases saw (r.Reads.take k) r.Reads[k].Box <;> rfl
  · unfold spec_ExecOk_b2
    rw [nlt_len]; rfl
theorem putsS {r : TRun} (h : Fits r.Puts) : loop (fun s : Int => spec_ExecOk_b1 r s) 0 = some (bif (List.range r.Puts.length).all (okPuts r.Puts) then .brk () else .ret false) := by
  refine alli_loop r.Puts h (okPuts r.Puts) false () ?_ ?_
  · intro k hk _
    obtain ⟨v, hv, hg⟩ := l3At_eq (take_fits h k) r.Puts[k].Box
    unfold spec_ExecOk_b1 okPuts need
    rw [lt_len _ k hk, idx_lt hk, List.getElem?_eq_getElem hk]
    have hp : (0 : Int) ≤ (k : Int) ∧ (k : Int) ≤ (r.Puts.length : Int) := by constructor <;> omega
    simp only [cond_true, Option.bind_some, if_pos hp, l2Box_eq, l1Num_eq, Int.toNat_natCast, Nat.sub_zero, List.drop_zero, hv, hg]
    cases inR r.Puts[k].Box 0 3
    · rfl
    · cases inR r.Puts[k].Val (-1000000) 1000000
      · rfl
      · cases sawP (r.Puts.take k) r.Puts[k].Box <;> rfl
  · unfold spec_ExecOk_b1
    rw [nlt_len]; rfl

/-! ### The same with a bit for each box -/
def bits (f : Int → Bool) : List Bool := [f 0, f 1, f 2, f 3]
theorem bits_at {f : Int → Bool} {b : Int} (h : inR b 0 3 = true) : idx (bits f) b = some (f b) ∧ b < 4 := by
  have h : 0 ≤ b ∧ b ≤ 3 := by simpa [inR] using h
  have : b = 0 ∨ b = 1 ∨ b = 2 ∨ b = 3 := by omega
  rcases this with rfl | rfl | rfl | rfl <;> exact ⟨rfl, by decide⟩
theorem bits_set {f g : Int → Bool} {b : Int} (h : inR b 0 3 = true) (hb : g b = true) (hne : ∀ c, c ≠ b → g c = f c) : (bits f).set b.toNat true = bits g := by
  have h : 0 ≤ b ∧ b ≤ 3 := by simpa [inR] using h
  have : b = 0 ∨ b = 1 ∨ b = 2 ∨ b = 3 := by omega
  unfold bits
  rcases this with rfl | rfl | rfl | rfl
  all_goals
    rw [show [g 0, g 1, g 2, g 3] = _ from rfl]
    first
      | rw [hb, hne 1 (by decide), hne 2 (by decide), hne 3 (by decide)]; rfl
      | rw [hb, hne 0 (by decide), hne 2 (by decide), hne 3 (by decide)]; rfl
      | rw [hb, hne 0 (by decide), hne 1 (by decide), hne 3 (by decide)]; rfl
      | rw [hb, hne 0 (by decide), hne 1 (by decide), hne 2 (by decide)]; rfl
theorem saw_next {l : List TRead} {k : Nat} (hk : k < l.length) (b : Int) : saw (l.take (k + 1)) b = (saw (l.take k) b || (l[k].Box == b)) := by
  unfold saw
  rw [List.take_succ_eq_append_getElem hk, List.any_append]
  simp
theorem sawP_next {l : List TPut} {k : Nat} (hk : k < l.length) (b : Int) : sawP (l.take (k + 1)) b = (sawP (l.take k) b || (l[k].Box == b)) := by
  unfold sawP
  rw [List.take_succ_eq_append_getElem hk, List.any_append]
  simp
theorem saw_other {l : List TRead} {k : Nat} (hk : k < l.length) (c : Int) (hc : c ≠ l[k].Box) : saw (l.take (k + 1)) c = saw (l.take k) c := by
  have : (l[k].Box == c) = false := by simpa using fun h => hc h.symm
  rw [saw_next hk, this, Bool.or_false]
theorem sawP_other {l : List TPut} {k : Nat} (hk : k < l.length) (c : Int) (hc : c ≠ l[k].Box) : sawP (l.take (k + 1)) c = sawP (l.take k) c := by
  have : (l[k].Box == c) = false := by simpa using fun h => hc h.symm
  rw [sawP_next hk, this, Bool.or_false]
theorem chk_all {R S B : Type} {x : Option (Exc R B)} {n : Nat} {ok : Nat → Bool} {r : R} {b : B} (h : (x = some (.brk b) ∧ ∀ j, j < n → ok j = true) ∨ ∃ k, k < n ∧ ok k = false ∧ (∀ j, j < k → ok j = true) ∧ x = some (.ret r)) : x = some (bif (List.range n).all ok then .brk b else .ret r) := by
  rcases h with ⟨h, hall⟩ | ⟨k, hk, ho, _, h⟩
  · have : (List.range n).all ok = true := by
      rw [List.all_eq_true]
      intro x hx
      exact hall x (by simpa using hx)
    rw [this]; exact h
  · have : (List.range n).all ok = false := by
      rw [List.all_eq_false]
      exact ⟨k, by simpa using hk, by simp [ho]⟩
    rw [this]; exact h
theorem readsI {r : TRun} (h : Fits r.Reads) : loop (fun s : List Bool × Int => impl_ExecOk_b2 r s.1 s.2) (List.replicate 4 false, 0) = some (bif (List.range r.Reads.length).all (okReads r.Reads) then .brk () else .ret false) := by
  refine chk_all (S := List Bool × Int) (loop_chk (body := fun s : List Bool × Int => impl_ExecOk_b2 r s.1 s.2) (fun k => (bits (saw (r.Reads.take k)), (k : Int))) r.Reads.length (okReads r.Reads) (fun _ => false) () ?_ ?_)
  · intro k hk _
    simp only
    unfold impl_ExecOk_b2 okReads need
    rw [lt_len _ k hk, idx_lt hk, List.getElem?_eq_getElem hk]
    simp only [cond_true, Option.bind_some, in_eq]
    cases hb : inR r.Reads[k].Box 0 3
    · rfl
    · obtain ⟨h1, h2⟩ := bits_at (f := saw (r.Reads.take k)) hb
      rw [h1]
      simp only [if_pos h2, Bool.not_true, cond_false, Option.bind_some, Bool.true_and]
      cases hs : saw (r.Reads.take k) r.Reads[k].Box
      · cases inR r.Reads[k].Ver 0 1000000
        · rfl
        · simp only [Bool.not_true, cond_false, Bool.not_false, Bool.true_and, cond_true]
          rw [bits_set (f := saw (r.Reads.take k)) (g := saw (r.Reads.take (k + 1))) hb (by rw [saw_next hk]; simp) (saw_other hk), w64_next h hk]
      · cases inR r.Reads[k].Ver 0 1000000 <;> rfl
  · intro _
    simp only
    unfold impl_ExecOk_b2
    rw [nlt_len]; rfl
theorem putsI {r : TRun} (h : Fits r.Puts) : loop (fun s : List Bool × Int => impl_ExecOk_b1 r s.1 s.2) (List.replicate 4 false, 0) = some (bif (List.range r.Puts.length).all (okPuts r.Puts) then .brk () else .ret false) := by
  refine chk_all (S := List Bool × Int) (loop_chk (body := fun s : List Bool × Int => impl_ExecOk_b1 r s.1 s.2) (fun k => (bits (sawP (r.Puts.take k)), (k : Int))) r.Puts.length (okPuts r.Puts) (fun _ => false) () ?_ ?_)
  · intro k hk _
    simp only
    unfold impl_ExecOk_b1 okPuts need
    rw [lt_len _ k hk, idx_lt hk, List.getElem?_eq_getElem hk]
    simp only [cond_true, Option.bind_some, in_eq]
    cases hb : inR r.Puts[k].Box 0 3
    · rfl
    · obtain ⟨h1, h2⟩ := bits_at (f := sawP (r.Puts.take k)) hb
      rw [h1]
      simp only [if_pos h2, Bool.not_true, cond_false, Option.bind_some, Bool.true_and]
      cases hs : sawP (r.Puts.take k) r.Puts[k].Box
      · cases inR r.Puts[k].Val (-1000000) 1000000
        · rfl
        · simp only [Bool.not_true, cond_false, Bool.not_false, Bool.true_and, cond_true]
          rw [bits_set (f := sawP (r.Puts.take k)) (g := sawP (r.Puts.take (k + 1))) hb (by rw [sawP_next hk]; simp) (sawP_other hk), w64_next h hk]
      · cases inR r.Puts[k].Val (-1000000) 1000000 <;> rfl
  · intro _
    simp only
    unfold impl_ExecOk_b1
    rw [nlt_len]; rfl
def runOk (r : TRun) : Bool := inR r.Code 0 3 && (inR r.Val (-1000000) 1000000 && ((r.Code == 0 || (r.Val == 0 && r.Puts.length == 0)) && ((r.Code != 3 || r.Reads.length == 0) && ((List.range r.Reads.length).all (okReads r.Reads) && (List.range r.Puts.length).all (okPuts r.Puts)))))
theorem specOk_j {r : TRun} (h : fRun r) : spec_ExecOk_j1 r = some ((List.range r.Reads.length).all (okReads r.Reads) && (List.range r.Puts.length).all (okPuts r.Puts)) := by
  unfold spec_ExecOk_j1 spec_ExecOk_k6
  rw [readsS (h.1.fits (by decide)), putsS (h.2.1.fits (by decide))]
  cases (List.range r.Reads.length).all (okReads r.Reads) <;> cases (List.range r.Puts.length).all (okPuts r.Puts) <;> rfl
theorem implOk_j {r : TRun} (h : fRun r) : impl_ExecOk_j1 r = some ((List.range r.Reads.length).all (okReads r.Reads) && (List.range r.Puts.length).all (okPuts r.Puts)) := by
  unfold impl_ExecOk_j1 impl_ExecOk_k6
  rw [readsI (h.1.fits (by decide)), putsI (h.2.1.fits (by decide))]
  cases (List.range r.Reads.length).all (okReads r.Reads) <;> cases (List.range r.Puts.length).all (okPuts r.Puts) <;> rfl
theorem len_gt {α : Type} (l : List α) : decide ((l.length : Int) > 0) = !(l.length == 0) := by
  cases l <;> simp
theorem specOk_eq {r : TRun} (h : fRun r) : spec_ExecOk r = some (runOk r) := by
  unfold spec_ExecOk runOk
  rw [specOk_j h]
  simp only [l1Num_eq, len_gt, Option.bind_some, Exc.go]
  generalize ((List.range r.Reads.length).all (okReads r.Reads) && (List.range r.Puts.length).all (okPuts r.Puts)) = z
  generalize (r.Puts.length == 0) = a
  generalize (r.Reads.length == 0) = b
  generalize inR r.Val (-1000000) 1000000 = c
  have h3 : inR r.Code 0 3 = (!decide (r.Code < 0) && !decide (r.Code > 3)) := by
    unfold inR
    by_cases h1 : r.Code < 0 <;> by_cases h2 : r.Code > 3 <;> simp [h1, h2] <;> omega
  rw [h3]
  unfold bne
  cases decide (r.Code < 0) <;> cases decide (r.Code > 3) <;> cases c <;> cases (r.Code == 0) <;> cases (r.Val == 0) <;> cases a <;> cases (r.Code == 3) <;> cases b <;> rfl
theorem implOk_eq {r : TRun} (h : fRun r) : impl_ExecOk r = some (runOk r) := by
  unfold impl_ExecOk runOk
  rw [implOk_j h]
  simp only [in_eq, len_gt, Option.bind_some, Exc.go]
  generalize ((List.range r.Reads.length).all (okReads r.Reads) && (List.range r.Puts.length).all (okPuts r.Puts)) = z
  generalize (r.Puts.length == 0) = a
  generalize (r.Reads.length == 0) = b
  generalize inR r.Val (-1000000) 1000000 = c
  generalize inR r.Code 0 3 = d
  unfold bne
  cases d <;> cases c <;> cases (r.Code == 0) <;> cases (r.Val == 0) <;> cases a <;> cases (r.Code == 3) <;> cases b <;> rfl

/-! ### Two runs alike -/
def sameReads (a b : List TRead) (k : Nat) : Bool := match a[k]?, b[k]? with
  | some x, some y => ([x.Box, x.Ver] : List Int) == [y.Box, y.Ver]
  | _, _ => true
def samePuts (a b : List TPut) (k : Nat) : Bool := match a[k]?, b[k]? with
  | some x, some y => ([x.Box, x.Val] : List Int) == [y.Box, y.Val]
  | _, _ => true
theorem sameReadsS {a b : TRun} (h : Fits a.Reads) (hl : a.Reads.length = b.Reads.length) : loop (fun s : Int => spec_ExecSame_b2 a b s) 0 = some (bif (List.range a.Reads.length).all (sameReads a.Reads b.Reads) then .brk () else .ret false) := by
  refine alli_loop a.Reads h (sameReads a.Reads b.Reads) false () ?_ ?_
  · intro k hk _
    unfold spec_ExecSame_b2 sameReads
    rw [lt_len _ k hk, idx_lt hk, idx_lt (hl ▸ hk), List.getElem?_eq_getElem hk, List.getElem?_eq_getElem (hl ▸ hk)]
    simp only [cond_true, Option.bind_some]
    cases ([a.Reads[k].Box, a.Reads[k].Ver] : List Int) == [(b.Reads[k]'(hl ▸ hk)).Box, (b.Reads[k]'(hl ▸ hk)).Ver] <;> rfl
  · unfold spec_ExecSame_b2
    rw [nlt_len]; rfl
theorem samePutsS {a b : TRun} (h : Fits a.Puts) (hl : a.Puts.length = b.Puts.length) : loop (fun s : Int => spec_ExecSame_b1 a b s) 0 = some (bif (List.range a.Puts.length).all (samePuts a.Puts b.Puts) then .brk () else .ret false) := by
  refine alli_loop a.Puts h (samePuts a.Puts b.Puts) false () ?_ ?_
  · intro k hk _
    unfold spec_ExecSame_b1 samePuts
    rw [lt_len _ k hk, idx_lt hk, idx_lt (hl ▸ hk), List.getElem?_eq_getElem hk, List.getElem?_eq_getElem (hl ▸ hk)]
    simp only [cond_true, Option.bind_some]
    cases ([a.Puts[k].Box, a.Puts[k].Val] : List Int) == [(b.Puts[k]'(hl ▸ hk)).Box, (b.Puts[k]'(hl ▸ hk)).Val] <;> rfl
  · unfold spec_ExecSame_b1
    rw [nlt_len]; rfl
theorem sameReadI {a b : List TRead} (h : Fits a) : impl_same_Read a b = some (a.length == b.length && (List.range a.length).all (sameReads a b)) := by
  unfold impl_same_Read
  by_cases hl : a.length = b.length
  · rw [alli_loop a h (sameReads a b) false ()]
    · rw [hl]
      simp only [bne_self_eq_false, cond_false, beq_self_eq_true, Bool.true_and]
      cases (List.range b.length).all (sameReads a b) <;> rfl
    · intro k hk _
      unfold impl_same_Read_b1 sameReads
      rw [lt_len _ k hk, idx_lt hk, idx_lt (hl ▸ hk), List.getElem?_eq_getElem hk, List.getElem?_eq_getElem (hl ▸ hk)]
      simp only [cond_true, Option.bind_some]
      cases ([a[k].Box, a[k].Ver] : List Int) == [(b[k]'(hl ▸ hk)).Box, (b[k]'(hl ▸ hk)).Ver] <;> rfl
    · unfold impl_same_Read_b1
      rw [nlt_len]; rfl
  · have h1 : ((a.length : Int) != (b.length : Int)) = true := by simp; omega
    have h2 : (a.length == b.length) = false := by simpa using hl
    rw [h1, h2]; rfl
theorem samePutI {a b : List TPut} (h : Fits a) : impl_same_Put a b = some (a.length == b.length && (List.range a.length).all (samePuts a b)) := by
  unfold impl_same_Put
  by_cases hl : a.length = b.length
  · rw [alli_loop a h (samePuts a b) false ()]
    · rw [hl]
      simp only [bne_self_eq_false, cond_false, beq_self_eq_true, Bool.true_and]
      cases (List.range b.length).all (samePuts a b) <;> rfl
    · intro k hk _
      unfold impl_same_Put_b1 samePuts
      rw [lt_len _ k hk, idx_lt hk, idx_lt (hl ▸ hk), List.getElem?_eq_getElem hk, List.getElem?_eq_getElem (hl ▸ hk)]
      simp only [cond_true, Option.bind_some]
      cases ([a[k].Box, a[k].Val] : List Int) == [(b[k]'(hl ▸ hk)).Box, (b[k]'(hl ▸ hk)).Val] <;> rfl
    · unfold impl_same_Put_b1
      rw [nlt_len]; rfl
  · have h1 : ((a.length : Int) != (b.length : Int)) = true := by simp; omega
    have h2 : (a.length == b.length) = false := by simpa using hl
    rw [h1, h2]; rfl
def sameRun (a b : TRun) : Bool := (a.Reads.length == b.Reads.length && (List.range a.Reads.length).all (sameReads a.Reads b.Reads)) && ((a.Puts.length == b.Puts.length && (List.range a.Puts.length).all (samePuts a.Puts b.Puts)) && (a.Val == b.Val && a.Code == b.Code))
theorem len_bne {α β : Type} (a : List α) (b : List β) : ((a.length : Int) != (b.length : Int)) = !(a.length == b.length) := by
  unfold bne
  congr 1
  by_cases h : a.length = b.length
  · simp [h]
  · have h1 : ((a.length : Int) == (b.length : Int)) = false := by simp; omega
    have h2 : (a.length == b.length) = false := by simpa using h
    rw [h1, h2]
theorem specSame_eq {a b : TRun} (h : fRun a) : spec_ExecSame a b = some (sameRun a b) := by
  unfold spec_ExecSame sameRun
  rw [len_bne, len_bne]
  cases h1 : a.Reads.length == b.Reads.length
  · unfold bne
    cases a.Val == b.Val <;> cases a.Code == b.Code <;> rfl
  cases h2 : a.Puts.length == b.Puts.length
  · unfold bne
    cases a.Val == b.Val <;> cases a.Code == b.Code <;> simp
  unfold spec_ExecSame_k5
  rw [sameReadsS (h.1.fits (by decide)) (by simpa using h1), samePutsS (h.2.1.fits (by decide)) (by simpa using h2)]
  unfold bne
  cases (List.range a.Reads.length).all (sameReads a.Reads b.Reads) <;> cases (List.range a.Puts.length).all (samePuts a.Puts b.Puts) <;> cases a.Val == b.Val <;> cases a.Code == b.Code <;> rfl
theorem implSame_eq {a b : TRun} (h : fRun a) : impl_ExecSame a b = some (sameRun a b) := by
  unfold impl_ExecSame sameRun
  rw [sameReadI (h.1.fits (by decide)), samePutI (h.2.1.fits (by decide))]
  simp only [Option.bind_some]
  generalize (a.Reads.length == b.Reads.length && (List.range a.Reads.length).all (sameReads a.Reads b.Reads)) = x
  generalize (a.Puts.length == b.Puts.length && (List.range a.Puts.length).all (samePuts a.Puts b.Puts)) = y
  cases x <;> cases y <;> cases a.Val == b.Val <;> rfl

/-! ### Entries -/
def entryOk (e : TEntry) : Bool := bif e.None then (([e.Req.Who, e.Req.Seq] : List Int) == [0, 0]) && sameRun e.Run (TRun.mk [] [] 0 0) else (inR e.Req.Who 0 2 && inR e.Req.Seq 1 1000) && (runOk e.Run && e.Run.Code != 3)
theorem specEntry_eq {e : TEntry} (h : fEntry e) : spec_CertEntry e = some (entryOk e) := by
  unfold spec_CertEntry entryOk
  simp only [specSame_eq h.2, l5Req_eq, specOk_eq h.2, Option.bind_some]
  cases e.None
  · simp only [cond_false]
    cases inR e.Req.Who 0 2 && inR e.Req.Seq 1 1000 <;> cases runOk e.Run <;> rfl
  · simp only [cond_true]
    cases ([e.Req.Who, e.Req.Seq] : List Int) == [0, 0] <;> rfl
theorem implEntry_eq {e : TEntry} (h : fEntry e) : impl_CertEntry e = some (entryOk e) := by
  unfold impl_CertEntry impl_CertLike entryOk
  simp only [implSame_eq h.2, reqOk_eq, implOk_eq h.2, Option.bind_some]
  cases e.None
  · simp only [cond_false]
    cases inR e.Req.Who 0 2 && inR e.Req.Seq 1 1000 <;> cases runOk e.Run <;> rfl
  · simp only [cond_true, beq_self_eq_true]
    cases ([e.Req.Who, e.Req.Seq] : List Int) == [0, 0] <;> rfl
def listOk (l : List TEntry) : Bool := decide (l.length ≤ 40) && l.all entryOk
theorem len_le {α : Type} (l : List α) (n : Nat) : decide ((l.length : Int) ≤ (n : Int)) = decide (l.length ≤ n) := by
  by_cases h : l.length ≤ n
  · have : (l.length : Int) ≤ (n : Int) := by omega
    simp [h, this]
  · have : ¬ (l.length : Int) ≤ (n : Int) := by omega
    simp [h, this]
theorem len_gt_n {α : Type} (l : List α) (n : Nat) : decide ((l.length : Int) > (n : Int)) = !decide (l.length ≤ n) := by
  by_cases h : l.length ≤ n
  · have : ¬ (l.length : Int) > (n : Int) := by omega
    simp [h, this]
  · have : (l.length : Int) > (n : Int) := by omega
    simp [h, this]
theorem specList_eq {l : List TEntry} (h : okL 88 fEntry l) : spec_l8Known l = some (listOk l) := by
  unfold spec_l8Known listOk
  rw [show (40 : Int) = ((40 : Nat) : Int) from rfl, len_gt_n, all_loop l (h.fits (by decide)) entryOk false ()]
  · cases decide (l.length ≤ 40)
    · rfl
    · cases l.all entryOk <;> rfl
  · intro k hk
    unfold spec_l8Known_b1
    rw [lt_len _ k hk, idx_lt hk]
    simp only [cond_true, Option.bind_some, specEntry_eq (h.2 _ (List.getElem_mem hk))]
    cases entryOk l[k] <;> rfl
  · unfold spec_l8Known_b1
    rw [nlt_len]; rfl
theorem implList_eq {l : List TEntry} (h : okL 88 fEntry l) : impl_listOk l = some (listOk l) := by
  unfold impl_listOk listOk impl_listOk_k2
  rw [show (40 : Int) = ((40 : Nat) : Int) from rfl, len_le, all_loop l (h.fits (by decide)) entryOk false ()]
  · cases l.all entryOk <;> cases decide (l.length ≤ 40) <;> rfl
  · intro k hk
    unfold impl_listOk_b1
    rw [lt_len _ k hk, idx_lt hk]
    simp only [cond_true, Option.bind_some, implEntry_eq (h.2 _ (List.getElem_mem hk))]
    cases entryOk l[k] <;> rfl
  · unfold impl_listOk_b1
    rw [nlt_len]; rfl
end Go.Proofs.YtnbiggnidjfgeaaGreat

/- What is drawn: the reader, and a program run on boxes. -/
namespace Go.Proofs.YtnbiggnidjfgeaaGreat
open Go

/-! ### The reader -/
theorem xor_range {x y : Int} (hx : 0 ≤ x) (hx2 : x < 4611686018427387904) (hy : 0 ≤ y) (hy2 : y < 4611686018427387904) : 0 ≤ xorI .i64 x y ∧ xorI .i64 x y < 4611686018427387904 := by
  obtain ⟨a, rfl⟩ : ∃ a : Nat, x = (a : Int) := ⟨x.toNat, by omega⟩
  obtain ⟨b, rfl⟩ : ∃ b : Nat, y = (b : Int) := ⟨y.toNat, by omega⟩
  have hxor : a ^^^ b < 2 ^ 62 := Nat.xor_lt_two_pow (by omega) (by omega)
  have h : xorI .i64 (a : Int) (b : Int) = ((a ^^^ b : Nat) : Int) := by
    unfold xorI
    rw [BitVec.toNat_xor]
    have e1 : (BitVec.ofInt IntKind.i64.bits (a : Int)).toNat = a := by
      show (BitVec.ofInt 64 (a : Int)).toNat = a
      rw [BitVec.toNat_ofInt]
      omega
    have e2 : (BitVec.ofInt IntKind.i64.bits (b : Int)).toNat = b := by
      show (BitVec.ofInt 64 (b : Int)).toNat = b
      rw [BitVec.toNat_ofInt]
      omega
    rw [e1, e2]
    exact IntWalk.i64_in _ ⟨by omega, by omega⟩
  rw [h]
  omega
theorem u8_at {l : List Int} (h : ∀ x ∈ l, okU8 x) {i : Int} (h0 : 0 ≤ i) (h1 : i < l.length) : ∃ y, idx l i = some y ∧ 0 ≤ y ∧ y ≤ 255 := by
  have hlt : i.toNat < l.length := by omega
  refine ⟨l[i.toNat], ?_, h _ (List.getElem_mem hlt)⟩
  unfold idx
  rw [if_pos h0, List.getElem?_eq_getElem hlt]
theorem tmod_range {x n : Int} (hx : 0 ≤ x) (hn : 1 ≤ n) : 0 ≤ Int.tmod x n ∧ Int.tmod x n < n := by
  rw [Int.tmod_eq_emod_of_nonneg hx]
  exact ⟨Int.emod_nonneg _ (by omega), Int.emod_lt_of_pos _ (by omega)⟩
theorem tdiv_range {x n : Int} (hx : 0 ≤ x) (hn : 1 ≤ n) : 0 ≤ Int.tdiv x n ∧ Int.tdiv x n ≤ x := by
  rw [Int.tdiv_eq_ediv_of_nonneg hx]
  exact ⟨Int.ediv_nonneg hx (by omega), Int.ediv_le_self _ hx⟩
/-! ### Programs -/
def insOk (i : TIns) : Bool :=
  bif i.Kind == 1 then inR i.A 0 3 && (inR i.B 0 3 && i.N == 0) else
  bif i.Kind == 2 then inR i.A 0 3 && (inR i.B 0 3 && i.N == 0) else
  bif i.Kind == 3 then inR i.A 0 3 && (i.B == 0 && inR i.N (-1000000) 1000000) else
  bif i.Kind == 4 then inR i.A 0 3 && (inR i.B 0 3 && i.N == 0) else
  bif i.Kind == 5 then inR i.A 0 3 && (inR i.B 0 3 && i.N == 0) else
  bif i.Kind == 6 then inR i.A 0 3 && (inR i.B 0 3 && inR i.N 1 10) else
  bif i.Kind == 7 then i.A == 0 && (i.B == 0 && i.N == 0) else false
theorem l2Reg_eq (n : Int) : spec_l2Reg n = some (inR n 0 3) := by
  rw [← in_eq]
  unfold spec_l2Reg impl_in
  have : (n < 4) = (n ≤ 3) := by apply propext; omega
  simp only [this]
theorem l2Ins_eq (i : TIns) : spec_l2Ins i = some (insOk i) := by
  unfold spec_l2Ins insOk
  have h6 : (bif decide (i.N ≥ 1) then some (decide (i.N ≤ 10)) else some false) = some (inR i.N 1 10) := by
    unfold inR
    by_cases h1 : i.N ≥ 1 <;> by_cases h2 : i.N ≤ 10 <;> simp [h1, h2] <;> omega
  simp only [l2Reg_eq, l2Box_eq, l1Num_eq, Option.bind_some, h6]
  cases i.Kind == 1 <;> cases i.Kind == 2 <;> cases i.Kind == 3 <;> cases i.Kind == 4 <;> cases i.Kind == 5 <;> cases i.Kind == 6 <;> cases i.Kind == 7 <;> cases inR i.A 0 3 <;> cases inR i.B 0 3 <;> cases i.A == 0 <;> cases i.B == 0 <;> rfl
def progOk (l : List TIns) : Bool := decide (l.length ≤ 10) && l.all insOk
theorem specProgOk_eq {l : List TIns} (h : Fits l) : spec_ProgOk l = some (progOk l) := by
  unfold spec_ProgOk progOk
  rw [show (10 : Int) = ((10 : Nat) : Int) from rfl, len_gt_n, all_loop l h insOk false ()]
  · cases decide (l.length ≤ 10)
    · rfl
    · cases l.all insOk <;> rfl
  · intro k hk
    unfold spec_ProgOk_b1
    rw [lt_len _ k hk, idx_lt hk]
    simp only [cond_true, Option.bind_some, l2Ins_eq]
    cases insOk l[k] <;> rfl
  · unfold spec_ProgOk_b1
    rw [nlt_len]; rfl
theorem insOk_parts {i : TIns} (h : insOk i = true) : (i.Kind = 1 ∧ (0 ≤ i.A ∧ i.A ≤ 3) ∧ (0 ≤ i.B ∧ i.B ≤ 3)) ∨ (i.Kind = 2 ∧ (0 ≤ i.A ∧ i.A ≤ 3) ∧ (0 ≤ i.B ∧ i.B ≤ 3)) ∨ (i.Kind = 3 ∧ (0 ≤ i.A ∧ i.A ≤ 3) ∧ (-1000000 ≤ i.N ∧ i.N ≤ 1000000)) ∨
    (i.Kind = 4 ∧ (0 ≤ i.A ∧ i.A ≤ 3) ∧ (0 ≤ i.B ∧ i.B ≤ 3)) ∨ (i.Kind = 5 ∧ (0 ≤ i.A ∧ i.A ≤ 3) ∧ (0 ≤ i.B ∧ i.B ≤ 3)) ∨ (i.Kind = 6 ∧ (0 ≤ i.A ∧ i.A ≤ 3) ∧ (0 ≤ i.B ∧ i.B ≤ 3) ∧ (1 ≤ i.N ∧ i.N ≤ 10)) ∨ (i.Kind = 7 ∧ i.A = 0) := by
  unfold insOk inR at h
  by_cases h1 : i.Kind = 1
  · simp [h1] at h; exact .inl ⟨h1, h.1, h.2.1⟩
  by_cases h2 : i.Kind = 2
  · simp [h2] at h; exact .inr (.inl ⟨h2, h.1, h.2.1⟩)
  by_cases h3 : i.Kind = 3
  · simp [h3] at h; exact .inr (.inr (.inl ⟨h3, h.1, h.2.2⟩))
  by_cases h4 : i.Kind = 4
  · simp [h4] at h; exact .inr (.inr (.inr (.inl ⟨h4, h.1, h.2.1⟩)))
  by_cases h5 : i.Kind = 5
  · simp [h5] at h; exact .inr (.inr (.inr (.inr (.inl ⟨h5, h.1, h.2.1⟩))))
  by_cases h6 : i.Kind = 6
  · simp [h6] at h; exact .inr (.inr (.inr (.inr (.inr (.inl ⟨h6, h.1, h.2.1, h.2.2⟩)))))
  by_cases h7 : i.Kind = 7
  · simp [h7] at h; exact .inr (.inr (.inr (.inr (.inr (.inr ⟨h7, h.1⟩)))))
  · have e1 : (i.Kind == 1) = false := by simpa using h1
    have e2 : (i.Kind == 2) = false := by simpa using h2
    have e3 : (i.Kind == 3) = false := by simpa using h3
    have e4 : (i.Kind == 4) = false := by simpa using h4
    have e5 : (i.Kind == 5) = false := by simpa using h5
    have e6 : (i.Kind == 6) = false := by simpa using h6
    have e7 : (i.Kind == 7) = false := by simpa using h7
    rw [e1, e2, e3, e4, e5, e6, e7] at h
    cases h
end Go.Proofs.YtnbiggnidjfgeaaGreat

/- Plain laws: copies, sizes and sameness of votes, nodes, messages and worlds. -/
namespace Go.Proofs.YtnbiggnidjfgeaaGreat
open Go
theorem okEntries.s {l : List TEntry} (h : okL 88 okEntry l) : okL 88 fEntry l := h.imp fun _ x => x.f

theorem toVote_eq {x : TVote} (h : okVote x) : laws_toVote x = some x := by
  unfold laws_toVote
  simp only [toEntry_eq (okEntry.f h.2), Option.bind_some]
theorem szVote_tot {x : TVote} (h : okVote x) (n : Int) : ∃ v, laws_szVote x n = some v := by
  unfold laws_szVote
  obtain ⟨v0, e0⟩ := szEntry_tot _ n
  rw [e0, Option.bind_some]
  cases decide (v0 < 0)
  case true => exact ⟨_, rfl⟩
  rw [cond_false]
  exact ⟨_, rfl⟩
theorem eqVote_self {x : TVote} (h : okVote x) : laws_eqVote x x = some true := by
  unfold laws_eqVote
  simp [eqEntry_self (okEntry.f h.2)]
theorem toVoteS_eq {l : List TVote} (h : okL 96 okVote l) : laws_toVoteS l = some l := by
  have hf : Fits l := h.fits (by decide)
  have hb := h.1
  unfold laws_toVoteS need
  rw [if_pos (by constructor <;> omega), Int.toNat_natCast, copy_loop l hf _ id]
  · rfl
  · intro k hk out ho
    unfold laws_toVoteS_b1
    rw [lt_len l k hk]
    simp [idx_lt hk, idx_lt (ho ▸ hk), Option.bind, toVote_eq (h.2 _ (List.getElem_mem hk))]
  · unfold laws_toVoteS_b1
    rw [nlt_len]
    rfl
theorem szVoteS_tot {l : List TVote} (h : okL 96 okVote l) (n : Int) : ∃ v, laws_szVoteS l n = some v := by
  have hf : Fits l := h.fits (by decide)
  unfold laws_szVoteS
  cases decide (w64 (n - ↑l.length) < 0)
  · simp only [cond_false]
    obtain ⟨x, hx, _⟩ := loop_inv (body := fun s : Int × Int => laws_szVoteS_b1 l s.1 s.2) (fun k s => ∃ j : Nat, s.2 = (j : Int) ∧ j + k = l.length) (fun _ => True) (fun k s ⟨j, hj, hk⟩ => by
      unfold laws_szVoteS_b1
      rw [hj]
      by_cases hlt : j < l.length
      · rw [lt_len l j hlt, idx_lt hlt]
        obtain ⟨v, hv⟩ := szVote_tot (h.2 _ (List.getElem_mem hlt)) s.1
        simp only [cond_true, Option.bind_some, hv]
        cases decide (v < 0)
        · exact ⟨_, rfl, k - 1, by omega, j + 1, w64_next hf hlt, by omega⟩
        · exact ⟨_, rfl, trivial⟩
      · have : j = l.length := by omega
        subst this
        rw [nlt_len]
        exact ⟨_, rfl, trivial⟩) (k := l.length) (s := (w64 (n - ↑l.length), 0)) ⟨0, rfl, by omega⟩
    rw [hx, Option.bind_some]
    cases x with
    | ret r => exact ⟨_, rfl⟩
    | brk b => exact ⟨_, rfl⟩
  · exact ⟨_, rfl⟩
theorem eqVoteS_self {l : List TVote} (h : okL 96 okVote l) : laws_eqVoteS l l = some true := by
  unfold laws_eqVoteS
  rw [bne_self_eq_false, cond_false, all_loop l (h.fits (by decide)) (fun _ => true) false ()]
  · rw [show l.all (fun _ => true) = true from by simp]; rfl
  · intro k hk
    unfold laws_eqVoteS_b1
    rw [lt_len l k hk, idx_lt hk]
    simp [bne_self_eq_false, eqVote_self (h.2 _ (List.getElem_mem hk))]
  · unfold laws_eqVoteS_b1
    rw [nlt_len]; rfl
theorem toAcc_eq {x : TAcc} (h : okAcc x) : laws_toAcc x = some x := by
  unfold laws_toAcc
  simp only [toVoteS_eq h.2, Option.bind_some]
theorem szAcc_tot {x : TAcc} (h : okAcc x) (n : Int) : ∃ v, laws_szAcc x n = some v := by
  unfold laws_szAcc
  obtain ⟨v0, e0⟩ := szVoteS_tot h.2 n
  rw [e0, Option.bind_some]
  cases decide (v0 < 0)
  case true => exact ⟨_, rfl⟩
  rw [cond_false]
  exact ⟨_, rfl⟩
theorem eqAcc_self {x : TAcc} (h : okAcc x) : laws_eqAcc x x = some true := by
  unfold laws_eqAcc
  simp [eqVoteS_self h.2]
theorem toBoolS_eq {l : List Bool} (h : okL 1 okT l) : laws_toBoolS l = some l := by
  have hf : Fits l := h.fits (by decide)
  have hb := h.1
  unfold laws_toBoolS need
  rw [if_pos (by constructor <;> omega), Int.toNat_natCast, copy_loop l hf _ id]
  · rfl
  · intro k hk out ho
    unfold laws_toBoolS_b1
    rw [lt_len l k hk]
    simp [idx_lt hk, idx_lt (ho ▸ hk), Option.bind]
  · unfold laws_toBoolS_b1
    rw [nlt_len]
    rfl
theorem szBoolS_tot {l : List Bool} (h : okL 1 okT l) (n : Int) : ∃ v, laws_szBoolS l n = some v := by
  unfold laws_szBoolS
  first
    | exact ⟨_, rfl⟩
    | (cases decide (w64 (n - (l.length : Int)) < 0) <;> exact ⟨_, rfl⟩)
theorem eqBoolS_self {l : List Bool} (h : okL 1 okT l) : laws_eqBoolS l l = some true := by
  unfold laws_eqBoolS
  rw [bne_self_eq_false, cond_false, all_loop l (h.fits (by decide)) (fun _ => true) false ()]
  · rw [show l.all (fun _ => true) = true from by simp]; rfl
  · intro k hk
    unfold laws_eqBoolS_b1
    rw [lt_len l k hk, idx_lt hk]
    simp [bne_self_eq_false]
  · unfold laws_eqBoolS_b1
    rw [nlt_len]; rfl
theorem toInsS_eq {l : List TIns} (h : okL 32 okIns l) : laws_toInsS l = some l := by
  have hf : Fits l := h.fits (by decide)
  have hb := h.1
  unfold laws_toInsS need
  rw [if_pos (by constructor <;> omega), Int.toNat_natCast, copy_loop l hf _ id]
  · rfl
  · intro k hk out ho
    unfold laws_toInsS_b1 laws_toIns
    rw [lt_len l k hk]
    simp [idx_lt hk, idx_lt (ho ▸ hk), Option.bind]
  · unfold laws_toInsS_b1
    rw [nlt_len]
    rfl
theorem szInsS_tot {l : List TIns} (h : okL 32 okIns l) (n : Int) : ∃ v, laws_szInsS l n = some v := by
  unfold laws_szInsS
  first
    | exact ⟨_, rfl⟩
    | (cases decide (w64 (n - (l.length : Int)) < 0) <;> exact ⟨_, rfl⟩)
theorem eqInsS_self {l : List TIns} (h : okL 32 okIns l) : laws_eqInsS l l = some true := by
  unfold laws_eqInsS
  rw [bne_self_eq_false, cond_false, all_loop l (h.fits (by decide)) (fun _ => true) false ()]
  · rw [show l.all (fun _ => true) = true from by simp]; rfl
  · intro k hk
    unfold laws_eqInsS_b1 laws_eqIns
    rw [lt_len l k hk, idx_lt hk]
    simp [bne_self_eq_false]
  · unfold laws_eqInsS_b1
    rw [nlt_len]; rfl
theorem toNode_eq {x : TNode} (h : okNode x) : laws_toNode x = some x := by
  unfold laws_toNode
  simp only [toAcc_eq h.2.1, toEntryS_eq (okEntries.s h.2.2.1), toBoolS_eq h.2.2.2.2.2.2.1, toVoteS_eq h.2.2.2.2.2.2.2.1, toEntry_eq (okEntry.f h.2.2.2.2.2.2.2.2.1), toBoolS_eq h.2.2.2.2.2.2.2.2.2.1, toInsS_eq h.2.2.2.2.2.2.2.2.2.2.1, toEntry_eq (okEntry.f h.2.2.2.2.2.2.2.2.2.2.2.1), toEntryS_eq (okEntries.s h.2.2.2.2.2.2.2.2.2.2.2.2), Option.bind_some]
theorem szNode_tot {x : TNode} (h : okNode x) (n : Int) : ∃ v, laws_szNode x n = some v := by
  unfold laws_szNode
  obtain ⟨v0, e0⟩ := szAcc_tot h.2.1 n
  rw [e0, Option.bind_some]
  cases decide (v0 < 0)
  case true => exact ⟨_, rfl⟩
  rw [cond_false]
  obtain ⟨v1, e1⟩ := szEntryS_tot (okL.fits h.2.2.1 (by decide)) v0
  rw [e1, Option.bind_some]
  cases decide (v1 < 0)
  case true => exact ⟨_, rfl⟩
  rw [cond_false]
  obtain ⟨v2, e2⟩ := szBoolS_tot h.2.2.2.2.2.2.1 v1
  rw [e2, Option.bind_some]
  cases decide (v2 < 0)
  case true => exact ⟨_, rfl⟩
  rw [cond_false]
  obtain ⟨v3, e3⟩ := szVoteS_tot h.2.2.2.2.2.2.2.1 v2
  rw [e3, Option.bind_some]
  cases decide (v3 < 0)
  case true => exact ⟨_, rfl⟩
  rw [cond_false]
  obtain ⟨v4, e4⟩ := szEntry_tot _ v3
  rw [e4, Option.bind_some]
  cases decide (v4 < 0)
  case true => exact ⟨_, rfl⟩
  rw [cond_false]
  obtain ⟨v5, e5⟩ := szBoolS_tot h.2.2.2.2.2.2.2.2.2.1 v4
  rw [e5, Option.bind_some]
  cases decide (v5 < 0)
  case true => exact ⟨_, rfl⟩
  rw [cond_false]
  obtain ⟨v6, e6⟩ := szInsS_tot h.2.2.2.2.2.2.2.2.2.2.1 v5
  rw [e6, Option.bind_some]
  cases decide (v6 < 0)
  case true => exact ⟨_, rfl⟩
  rw [cond_false]
  obtain ⟨v7, e7⟩ := szEntry_tot _ v6
  rw [e7, Option.bind_some]
  cases decide (v7 < 0)
  case true => exact ⟨_, rfl⟩
  rw [cond_false]
  obtain ⟨v8, e8⟩ := szEntryS_tot (okL.fits h.2.2.2.2.2.2.2.2.2.2.2.2 (by decide)) v7
  rw [e8, Option.bind_some]
  cases decide (v8 < 0)
  case true => exact ⟨_, rfl⟩
  rw [cond_false]
  exact ⟨_, rfl⟩
theorem eqNode_self {x : TNode} (h : okNode x) : laws_eqNode x x = some true := by
  unfold laws_eqNode
  simp [eqAcc_self h.2.1, eqEntryS_self (okEntries.s h.2.2.1), eqBoolS_self h.2.2.2.2.2.2.1, eqVoteS_self h.2.2.2.2.2.2.2.1, eqEntry_self (okEntry.f h.2.2.2.2.2.2.2.2.1), eqBoolS_self h.2.2.2.2.2.2.2.2.2.1, eqInsS_self h.2.2.2.2.2.2.2.2.2.2.1, eqEntry_self (okEntry.f h.2.2.2.2.2.2.2.2.2.2.2.1), eqEntryS_self (okEntries.s h.2.2.2.2.2.2.2.2.2.2.2.2)]
theorem toNodeS_eq {l : List TNode} (h : okL 392 okNode l) : laws_toNodeS l = some l := by
  have hf : Fits l := h.fits (by decide)
  have hb := h.1
  unfold laws_toNodeS need
  rw [if_pos (by constructor <;> omega), Int.toNat_natCast, copy_loop l hf _ id]
  · rfl
  · intro k hk out ho
    unfold laws_toNodeS_b1
    rw [lt_len l k hk]
    simp [idx_lt hk, idx_lt (ho ▸ hk), Option.bind, toNode_eq (h.2 _ (List.getElem_mem hk))]
  · unfold laws_toNodeS_b1
    rw [nlt_len]
    rfl
theorem szNodeS_tot {l : List TNode} (h : okL 392 okNode l) (n : Int) : ∃ v, laws_szNodeS l n = some v := by
  have hf : Fits l := h.fits (by decide)
  unfold laws_szNodeS
  cases decide (w64 (n - ↑l.length) < 0)
  · simp only [cond_false]
    obtain ⟨x, hx, _⟩ := loop_inv (body := fun s : Int × Int => laws_szNodeS_b1 l s.1 s.2) (fun k s => ∃ j : Nat, s.2 = (j : Int) ∧ j + k = l.length) (fun _ => True) (fun k s ⟨j, hj, hk⟩ => by
      unfold laws_szNodeS_b1
      rw [hj]
      by_cases hlt : j < l.length
      · rw [lt_len l j hlt, idx_lt hlt]
        obtain ⟨v, hv⟩ := szNode_tot (h.2 _ (List.getElem_mem hlt)) s.1
        simp only [cond_true, Option.bind_some, hv]
        cases decide (v < 0)
        · exact ⟨_, rfl, k - 1, by omega, j + 1, w64_next hf hlt, by omega⟩
        · exact ⟨_, rfl, trivial⟩
      · have : j = l.length := by omega
        subst this
        rw [nlt_len]
        exact ⟨_, rfl, trivial⟩) (k := l.length) (s := (w64 (n - ↑l.length), 0)) ⟨0, rfl, by omega⟩
    rw [hx, Option.bind_some]
    cases x with
    | ret r => exact ⟨_, rfl⟩
    | brk b => exact ⟨_, rfl⟩
  · exact ⟨_, rfl⟩
theorem eqNodeS_self {l : List TNode} (h : okL 392 okNode l) : laws_eqNodeS l l = some true := by
  unfold laws_eqNodeS
  rw [bne_self_eq_false, cond_false, all_loop l (h.fits (by decide)) (fun _ => true) false ()]
  · rw [show l.all (fun _ => true) = true from by simp]; rfl
  · intro k hk
    unfold laws_eqNodeS_b1
    rw [lt_len l k hk, idx_lt hk]
    simp [bne_self_eq_false, eqNode_self (h.2 _ (List.getElem_mem hk))]
  · unfold laws_eqNodeS_b1
    rw [nlt_len]; rfl
theorem toMsg_eq {x : TMsg} (h : okMsg x) : laws_toMsg x = some x := by
  unfold laws_toMsg
  simp only [toEntry_eq (okEntry.f h.2.2.2.2.2.1), toVoteS_eq h.2.2.2.2.2.2, Option.bind_some]
theorem szMsg_tot {x : TMsg} (h : okMsg x) (n : Int) : ∃ v, laws_szMsg x n = some v := by
  unfold laws_szMsg
  obtain ⟨v0, e0⟩ := szEntry_tot _ n
  rw [e0, Option.bind_some]
  cases decide (v0 < 0)
  case true => exact ⟨_, rfl⟩
  rw [cond_false]
  obtain ⟨v1, e1⟩ := szVoteS_tot h.2.2.2.2.2.2 v0
  rw [e1, Option.bind_some]
  cases decide (v1 < 0)
  case true => exact ⟨_, rfl⟩
  rw [cond_false]
  exact ⟨_, rfl⟩
theorem eqMsg_self {x : TMsg} (h : okMsg x) : laws_eqMsg x x = some true := by
  unfold laws_eqMsg
  simp [eqEntry_self (okEntry.f h.2.2.2.2.2.1), eqVoteS_self h.2.2.2.2.2.2]
theorem toMsgS_eq {l : List TMsg} (h : okL 152 okMsg l) : laws_toMsgS l = some l := by
  have hf : Fits l := h.fits (by decide)
  have hb := h.1
  unfold laws_toMsgS need
  rw [if_pos (by constructor <;> omega), Int.toNat_natCast, copy_loop l hf _ id]
  · rfl
  · intro k hk out ho
    unfold laws_toMsgS_b1
    rw [lt_len l k hk]
    simp [idx_lt hk, idx_lt (ho ▸ hk), Option.bind, toMsg_eq (h.2 _ (List.getElem_mem hk))]
  · unfold laws_toMsgS_b1
    rw [nlt_len]
    rfl
theorem szMsgS_tot {l : List TMsg} (h : okL 152 okMsg l) (n : Int) : ∃ v, laws_szMsgS l n = some v := by
  have hf : Fits l := h.fits (by decide)
  unfold laws_szMsgS
  cases decide (w64 (n - ↑l.length) < 0)
  · simp only [cond_false]
    obtain ⟨x, hx, _⟩ := loop_inv (body := fun s : Int × Int => laws_szMsgS_b1 l s.1 s.2) (fun k s => ∃ j : Nat, s.2 = (j : Int) ∧ j + k = l.length) (fun _ => True) (fun k s ⟨j, hj, hk⟩ => by
      unfold laws_szMsgS_b1
      rw [hj]
      by_cases hlt : j < l.length
      · rw [lt_len l j hlt, idx_lt hlt]
        obtain ⟨v, hv⟩ := szMsg_tot (h.2 _ (List.getElem_mem hlt)) s.1
        simp only [cond_true, Option.bind_some, hv]
        cases decide (v < 0)
        · exact ⟨_, rfl, k - 1, by omega, j + 1, w64_next hf hlt, by omega⟩
        · exact ⟨_, rfl, trivial⟩
      · have : j = l.length := by omega
        subst this
        rw [nlt_len]
        exact ⟨_, rfl, trivial⟩) (k := l.length) (s := (w64 (n - ↑l.length), 0)) ⟨0, rfl, by omega⟩
    rw [hx, Option.bind_some]
    cases x with
    | ret r => exact ⟨_, rfl⟩
    | brk b => exact ⟨_, rfl⟩
  · exact ⟨_, rfl⟩
theorem eqMsgS_self {l : List TMsg} (h : okL 152 okMsg l) : laws_eqMsgS l l = some true := by
  unfold laws_eqMsgS
  rw [bne_self_eq_false, cond_false, all_loop l (h.fits (by decide)) (fun _ => true) false ()]
  · rw [show l.all (fun _ => true) = true from by simp]; rfl
  · intro k hk
    unfold laws_eqMsgS_b1
    rw [lt_len l k hk, idx_lt hk]
    simp [bne_self_eq_false, eqMsg_self (h.2 _ (List.getElem_mem hk))]
  · unfold laws_eqMsgS_b1
    rw [nlt_len]; rfl
theorem toAsked_eq {x : TAsked} (h : okAsked x) : laws_toAsked x = some x := by
  unfold laws_toAsked laws_toReq
  simp only [toInsS_eq h.2, Option.bind_some]
theorem szAsked_tot {x : TAsked} (h : okAsked x) (n : Int) : ∃ v, laws_szAsked x n = some v := by
  unfold laws_szAsked
  obtain ⟨v0, e0⟩ := szInsS_tot h.2 n
  rw [e0, Option.bind_some]
  cases decide (v0 < 0)
  case true => exact ⟨_, rfl⟩
  rw [cond_false]
  exact ⟨_, rfl⟩
theorem eqAsked_self {x : TAsked} (h : okAsked x) : laws_eqAsked x x = some true := by
  unfold laws_eqAsked laws_eqReq
  simp [eqInsS_self h.2]
theorem toAskedS_eq {l : List TAsked} (h : okL 40 okAsked l) : laws_toAskedS l = some l := by
  have hf : Fits l := h.fits (by decide)
  have hb := h.1
  unfold laws_toAskedS need
  rw [if_pos (by constructor <;> omega), Int.toNat_natCast, copy_loop l hf _ id]
  · rfl
  · intro k hk out ho
    unfold laws_toAskedS_b1
    rw [lt_len l k hk]
    simp [idx_lt hk, idx_lt (ho ▸ hk), Option.bind, toAsked_eq (h.2 _ (List.getElem_mem hk))]
  · unfold laws_toAskedS_b1
    rw [nlt_len]
    rfl
theorem szAskedS_tot {l : List TAsked} (h : okL 40 okAsked l) (n : Int) : ∃ v, laws_szAskedS l n = some v := by
  have hf : Fits l := h.fits (by decide)
  unfold laws_szAskedS
  cases decide (w64 (n - ↑l.length) < 0)
  · simp only [cond_false]
    obtain ⟨x, hx, _⟩ := loop_inv (body := fun s : Int × Int => laws_szAskedS_b1 l s.1 s.2) (fun k s => ∃ j : Nat, s.2 = (j : Int) ∧ j + k = l.length) (fun _ => True) (fun k s ⟨j, hj, hk⟩ => by
      unfold laws_szAskedS_b1
      rw [hj]
      by_cases hlt : j < l.length
      · rw [lt_len l j hlt, idx_lt hlt]
        obtain ⟨v, hv⟩ := szAsked_tot (h.2 _ (List.getElem_mem hlt)) s.1
        simp only [cond_true, Option.bind_some, hv]
        cases decide (v < 0)
        · exact ⟨_, rfl, k - 1, by omega, j + 1, w64_next hf hlt, by omega⟩
        · exact ⟨_, rfl, trivial⟩
      · have : j = l.length := by omega
        subst this
        rw [nlt_len]
        exact ⟨_, rfl, trivial⟩) (k := l.length) (s := (w64 (n - ↑l.length), 0)) ⟨0, rfl, by omega⟩
    rw [hx, Option.bind_some]
    cases x with
    | ret r => exact ⟨_, rfl⟩
    | brk b => exact ⟨_, rfl⟩
  · exact ⟨_, rfl⟩
theorem eqAskedS_self {l : List TAsked} (h : okL 40 okAsked l) : laws_eqAskedS l l = some true := by
  unfold laws_eqAskedS
  rw [bne_self_eq_false, cond_false, all_loop l (h.fits (by decide)) (fun _ => true) false ()]
  · rw [show l.all (fun _ => true) = true from by simp]; rfl
  · intro k hk
    unfold laws_eqAskedS_b1
    rw [lt_len l k hk, idx_lt hk]
    simp [bne_self_eq_false, eqAsked_self (h.2 _ (List.getElem_mem hk))]
  · unfold laws_eqAskedS_b1
    rw [nlt_len]; rfl
theorem toToldS_eq {l : List TTold} (h : okL 40 okTold l) : laws_toToldS l = some l := by
  have hf : Fits l := h.fits (by decide)
  have hb := h.1
  unfold laws_toToldS need
  rw [if_pos (by constructor <;> omega), Int.toNat_natCast, copy_loop l hf _ id]
  · rfl
  · intro k hk out ho
    unfold laws_toToldS_b1 laws_toTold laws_toReq
    rw [lt_len l k hk]
    simp [idx_lt hk, idx_lt (ho ▸ hk), Option.bind]
  · unfold laws_toToldS_b1
    rw [nlt_len]
    rfl
theorem szToldS_tot {l : List TTold} (h : okL 40 okTold l) (n : Int) : ∃ v, laws_szToldS l n = some v := by
  unfold laws_szToldS
  first
    | exact ⟨_, rfl⟩
    | (cases decide (w64 (n - (l.length : Int)) < 0) <;> exact ⟨_, rfl⟩)
theorem eqToldS_self {l : List TTold} (h : okL 40 okTold l) : laws_eqToldS l l = some true := by
  unfold laws_eqToldS
  rw [bne_self_eq_false, cond_false, all_loop l (h.fits (by decide)) (fun _ => true) false ()]
  · rw [show l.all (fun _ => true) = true from by simp]; rfl
  · intro k hk
    unfold laws_eqToldS_b1 laws_eqTold laws_eqReq
    rw [lt_len l k hk, idx_lt hk]
    simp [bne_self_eq_false]
  · unfold laws_eqToldS_b1
    rw [nlt_len]; rfl
theorem toWorld_eq {x : TWorld} (h : okWorld x) : laws_toWorld x = some x := by
  unfold laws_toWorld
  simp only [toNodeS_eq h.1, toMsgS_eq h.2.1, toAskedS_eq h.2.2.1, toToldS_eq h.2.2.2, Option.bind_some]
theorem szWorld_tot {x : TWorld} (h : okWorld x) (n : Int) : ∃ v, laws_szWorld x n = some v := by
  unfold laws_szWorld
  obtain ⟨v0, e0⟩ := szNodeS_tot h.1 n
  rw [e0, Option.bind_some]
  cases decide (v0 < 0)
  case true => exact ⟨_, rfl⟩
  rw [cond_false]
  obtain ⟨v1, e1⟩ := szMsgS_tot h.2.1 v0
  rw [e1, Option.bind_some]
  cases decide (v1 < 0)
  case true => exact ⟨_, rfl⟩
  rw [cond_false]
  obtain ⟨v2, e2⟩ := szAskedS_tot h.2.2.1 v1
  rw [e2, Option.bind_some]
  cases decide (v2 < 0)
  case true => exact ⟨_, rfl⟩
  rw [cond_false]
  obtain ⟨v3, e3⟩ := szToldS_tot h.2.2.2 v2
  rw [e3, Option.bind_some]
  cases decide (v3 < 0)
  case true => exact ⟨_, rfl⟩
  rw [cond_false]
  exact ⟨_, rfl⟩
theorem eqWorld_self {x : TWorld} (h : okWorld x) : laws_eqWorld x x = some true := by
  unfold laws_eqWorld
  simp [eqNodeS_self h.1, eqMsgS_self h.2.1, eqAskedS_self h.2.2.1, eqToldS_self h.2.2.2]
end Go.Proofs.YtnbiggnidjfgeaaGreat

/- Plain laws: what is right of votes, nodes, messages and worlds, told alike by both. -/
namespace Go.Proofs.YtnbiggnidjfgeaaGreat
open Go
theorem and_some (c x : Bool) : (bif c then some x else some false) = some (c && x) := by cases c <;> rfl
theorem nand_some (c x : Bool) : (bif c then some false else some x) = some (!c && x) := by cases c <;> rfl
theorem inR_dec (n lo hi : Int) : inR n lo hi = (!decide (n < lo) && !decide (n > hi)) := by
  unfold inR
  by_cases h1 : n < lo <;> by_cases h2 : n > hi <;> simp [h1, h2] <;> omega
theorem rng {α : Type} (n lo hi : Int) (X Y : α) : (bif decide (n < lo) then Y else bif decide (n > hi) then Y else X) = bif inR n lo hi then X else Y := by
  rw [inR_dec]
  cases decide (n < lo) <;> cases decide (n > hi) <;> rfl
theorem rng3 {α : Type} (n lo : Int) (X Y : α) : (bif decide (n < lo) then Y else bif decide (n ≥ 3) then Y else X) = bif inR n lo 2 then X else Y := by
  have e : decide (n ≥ 3) = decide (n > 2) := by
    by_cases h : n > 2
    · rw [decide_eq_true h, decide_eq_true (by omega)]
    · rw [decide_eq_false h, decide_eq_false (by omega)]
  rw [← rng, e]
theorem not_gt (a b : Int) : (!decide (a > b)) = decide (a ≤ b) := by
  by_cases h : a ≤ b
  · simp [h]
  · simp [h]; omega
theorem len_gt0 {α : Type} (l : List α) : decide ((l.length : Int) > 0) = !((l.length : Int) == 0) := by
  by_cases hp : l.length = 0
  · rw [decide_eq_false (by omega), show ((l.length : Int) == 0) = true from by rw [hp]; rfl]; rfl
  · rw [decide_eq_true (by omega), show ((l.length : Int) == 0) = false from by rw [← Bool.not_eq_true, beq_iff_eq]; omega]; rfl
theorem not_bne {α : Type} [BEq α] (a b : α) : (!(a != b)) = (a == b) := by simp [bne]

abbrev zE : TEntry := ⟨false, ⟨0, 0⟩, ⟨[], [], 0, 0⟩⟩
def like (a b : TEntry) : Bool := (a.None == b.None) && ((([a.Req.Who, a.Req.Seq] : List Int) == [b.Req.Who, b.Req.Seq]) && sameRun a.Run b.Run)
theorem implLike_eq {a b : TEntry} (h : okEntry a) : impl_CertLike a b = some (like a b) := by
  unfold impl_CertLike like
  simp only [implSame_eq h.f.2, Option.bind_some, and_some]
theorem none_eq {e : TEntry} (h : okEntry e) : spec_l7None e = some (like e zE) := by
  unfold spec_l7None like
  simp only [specSame_eq h.f.2, Option.bind_some, and_some]
  cases e.None <;> rfl
theorem l6Bal_eq (n : Int) : spec_l6Bal n = some (inR n 1 3000) := in_eq n 1 3000

def voteOk (v : TVote) : Bool := bif v.Bal == 0 then like v.Entry zE else inR v.Bal 1 3000 && entryOk v.Entry
theorem implVote_eq {v : TVote} (h : okVote v) : impl_voteOk v = some (voteOk v) := by
  unfold impl_voteOk voteOk
  simp only [implLike_eq h.2, in_eq, implEntry_eq h.2.f, Option.bind_some, and_some]
  cases v.Bal == 0 <;> rfl
theorem specVote_eq {v : TVote} (h : okVote v) : spec_l6Vote v = some (voteOk v) := by
  unfold spec_l6Vote voteOk like
  simp only [specSame_eq h.2.f.2, l6Bal_eq, specEntry_eq h.2.f, Option.bind_some, and_some]
  cases v.Bal == 0 <;> cases v.Entry.None <;> rfl
def votesOk (l : List TVote) : Bool := decide (l.length ≤ 40) && l.all voteOk
theorem specVotes_eq {l : List TVote} (h : okL 96 okVote l) : spec_l6Votes l = some (votesOk l) := by
  unfold spec_l6Votes votesOk
  rw [show (40 : Int) = ((40 : Nat) : Int) from rfl, len_gt_n, all_loop l (h.fits (by decide)) voteOk false ()]
  · cases decide (l.length ≤ 40)
    · rfl
    · cases l.all voteOk <;> rfl
  · intro k hk
    unfold spec_l6Votes_b1
    rw [lt_len _ k hk, idx_lt hk]
    simp only [cond_true, Option.bind_some, specVote_eq (h.2 _ (List.getElem_mem hk))]
    cases voteOk l[k] <;> rfl
  · unfold spec_l6Votes_b1
    rw [nlt_len]; rfl
theorem implVotes_eq {l : List TVote} (h : okL 96 okVote l) : impl_votesOk l = some (votesOk l) := by
  unfold impl_votesOk votesOk impl_votesOk_k2
  rw [show (40 : Int) = ((40 : Nat) : Int) from rfl, len_le, all_loop l (h.fits (by decide)) voteOk false ()]
  · cases l.all voteOk <;> cases decide (l.length ≤ 40) <;> rfl
  · intro k hk
    unfold impl_votesOk_b1
    rw [lt_len _ k hk, idx_lt hk]
    simp only [cond_true, Option.bind_some, implVote_eq (h.2 _ (List.getElem_mem hk))]
    cases voteOk l[k] <;> rfl
  · unfold impl_votesOk_b1
    rw [nlt_len]; rfl
def accOk (a : TAcc) : Bool := inR a.Promised 0 3000 && (votesOk a.Votes && a.Votes.all fun v => !decide (v.Bal > a.Promised))
theorem specAcc_eq {a : TAcc} (h : okAcc a) : spec_AccOk a = some (accOk a) := by
  unfold spec_AccOk accOk
  rw [rng, specVotes_eq h.2, all_loop a.Votes (h.2.fits (by decide)) (fun v => !decide (v.Bal > a.Promised)) false ()]
  · simp only [Option.bind_some]
    cases inR a.Promised 0 3000 <;> cases votesOk a.Votes <;> cases a.Votes.all (fun v => !decide (v.Bal > a.Promised)) <;> rfl
  · intro k hk
    unfold spec_AccOk_b1
    rw [lt_len _ k hk, idx_lt hk]
    simp only [cond_true, Option.bind_some]
    cases decide (a.Votes[k].Bal > a.Promised) <;> rfl
  · unfold spec_AccOk_b1
    rw [nlt_len]; rfl
theorem implAcc_eq {a : TAcc} (h : okAcc a) : impl_AccOk a = some (accOk a) := by
  unfold impl_AccOk accOk
  rw [all_loop a.Votes (h.2.fits (by decide)) (fun v => !decide (v.Bal > a.Promised)) false ()]
  · unfold impl_AccOk_k2
    simp only [in_eq, implVotes_eq h.2, Option.bind_some]
    cases inR a.Promised 0 3000 <;> cases votesOk a.Votes <;> cases a.Votes.all (fun v => !decide (v.Bal > a.Promised)) <;> rfl
  · intro k hk
    unfold impl_AccOk_b1
    rw [lt_len _ k hk, idx_lt hk]
    simp only [cond_true, Option.bind_some]
    cases decide (a.Votes[k].Bal > a.Promised) <;> rfl
  · unfold impl_AccOk_b1
    rw [nlt_len]; rfl
theorem implIns_eq (i : TIns) : impl_insOk i = some (insOk i) := by
  unfold impl_insOk insOk impl_insOk_c1 impl_insOk_c2
  simp only [in_eq, Option.bind_some]
  cases i.Kind == 1 <;> cases i.Kind == 2 <;> cases i.Kind == 3 <;> cases i.Kind == 4 <;> cases i.Kind == 5 <;> cases i.Kind == 6 <;> cases i.Kind == 7 <;> cases inR i.A 0 3 <;> cases inR i.B 0 3 <;> cases i.A == 0 <;> cases i.B == 0 <;> rfl
theorem implProgOk_eq {l : List TIns} (h : Fits l) : impl_ProgOk l = some (progOk l) := by
  unfold impl_ProgOk progOk impl_ProgOk_k2
  rw [show (10 : Int) = ((10 : Nat) : Int) from rfl, len_le, all_loop l h insOk false ()]
  · cases l.all insOk <;> cases decide (l.length ≤ 10) <;> rfl
  · intro k hk
    unfold impl_ProgOk_b1
    rw [lt_len _ k hk, idx_lt hk]
    simp only [cond_true, Option.bind_some, implIns_eq]
    cases insOk l[k] <;> rfl
  · unfold impl_ProgOk_b1
    rw [nlt_len]; rfl

def owner (b : Int) : Int := bif inR b 1 3000 then Int.tmod b 3 else -1
theorem specOwner_eq (b : Int) : spec_AccOwner b = some (owner b) := by
  unfold spec_AccOwner owner
  rw [l6Bal_eq, Option.bind_some]
  cases inR b 1 3000 <;> rfl
theorem implOwner_eq (b : Int) : impl_AccOwner b = some (owner b) := by
  unfold impl_AccOwner owner
  rw [in_eq, Option.bind_some]
  cases inR b 1 3000 <;> rfl
def markAt (l : List Bool) (id : Int) : Bool := (idx l id).getD false
def marks (l : List Bool) (id : Int) : Bool := ((l.length : Int) == 3) && markAt l id
theorem idx_mark {l : List Bool} {id : Int} (h : inR id 0 2 = true) (hl : ((l.length : Int) == 3) = true) : idx l id = some (markAt l id) := by
  unfold inR at h
  simp only [decide_eq_true_eq] at h
  simp only [beq_iff_eq] at hl
  unfold markAt idx
  rw [if_pos h.1, List.getElem?_eq_getElem (by omega)]
  rfl
theorem marks_bind {l : List Bool} {id : Int} (h : inR id 0 2 = true) (x : Bool) : (bif ((l.length : Int) == 3) then (idx l id).bind fun y => some (y && x) else some false) = some (marks l id && x) := by
  unfold marks
  cases hl : ((l.length : Int) == 3)
  · rfl
  · rw [idx_mark h hl]
    rfl
theorem implMarks_eq {l : List Bool} {id : Int} (h : inR id 0 2 = true) : impl_marksOk l id = some (marks l id) := by
  unfold impl_marksOk marks
  cases hl : ((l.length : Int) == 3)
  · rfl
  · rw [idx_mark h hl]
    rfl
def quiet (n : TNode) : Bool := like n.Cur zE && ((n.Votes.length : Int) == 0)
def leadOk (n : TNode) : Bool :=
  bif n.Phase == 0 then (n.Bal == 0) && (((n.From.length : Int) == 0) && (((n.Best.length : Int) == 0) && quiet n)) else
  (owner n.Bal == n.Id) && (decide (n.Bal ≤ n.Acc.Promised) && (votesOk n.Best &&
    (bif n.Phase == 1 then marks n.From n.Id && quiet n else
     bif n.Phase == 2 then ((n.From.length : Int) == 0) && quiet n else
     bif n.Phase == 3 then ((n.From.length : Int) == 0) && (entryOk n.Cur && (marks n.Votes n.Id && decide ((n.Known.length : Int) < 40))) else false)))
theorem owner_bal {n : TNode} (h : inR n.Id 0 2 = true) (ho : (owner n.Bal == n.Id) = true) : inR n.Bal 1 3000 = true := by
  cases hb : inR n.Bal 1 3000
  · unfold owner at ho
    rw [hb] at ho
    unfold inR at h
    simp only [decide_eq_true_eq, cond_false, beq_iff_eq] at h ho
    omega
  · rfl
theorem implLead_eq {n : TNode} (h : okNode n) (hId : inR n.Id 0 2 = true) : impl_leadOk n = some (leadOk n) := by
  have hj : impl_leadOk n = impl_leadOk_j1 n (quiet n) := by
    unfold impl_leadOk quiet
    simp only [implLike_eq h.2.2.2.2.2.2.2.2.1, Option.bind_some]
    cases like n.Cur zE <;> rfl
  rw [hj]
  unfold impl_leadOk_j1 leadOk
  simp only [implOwner_eq, implVotes_eq h.2.2.2.2.2.2.2.1, implMarks_eq hId, implEntry_eq h.2.2.2.2.2.2.2.2.1.f, Option.bind_some, and_some]
  cases n.Phase == 0
  · simp only [cond_false]
    cases n.Phase == 1 <;> cases n.Phase == 2 <;> cases n.Phase == 3 <;> simp only [cond_true, cond_false, nand_some, not_bne, not_gt, Bool.not_not] <;> (cases owner n.Bal == n.Id <;> cases decide (n.Bal ≤ n.Acc.Promised) <;> cases votesOk n.Best <;> rfl)
  · rfl
theorem specLead_eq {n : TNode} (h : okNode n) (hId : inR n.Id 0 2 = true) : spec_l8Lead n = some (leadOk n) := by
  unfold spec_l8Lead leadOk
  simp only [specOwner_eq, l6Bal_eq, none_eq h.2.2.2.2.2.2.2.2.1, specVotes_eq h.2.2.2.2.2.2.2.1, specEntry_eq h.2.2.2.2.2.2.2.2.1.f, Option.bind_some, and_some, nand_some, marks_bind hId, not_bne, not_gt, Bool.not_not]
  have hb := owner_bal (n := n) hId
  cases h0 : n.Phase == 0
  · cases h1 : n.Phase == 1
    · cases h2 : n.Phase == 2
      · cases h3 : n.Phase == 3
        · simp only [cond_false, Bool.and_false]
        · simp only [cond_false, cond_true, nand_some, not_bne, not_gt, Bool.not_not]
          cases ho : owner n.Bal == n.Id
          · simp
          · rw [hb ho]
            cases decide (n.Bal ≤ n.Acc.Promised) <;> cases votesOk n.Best <;> cases ((n.From.length : Int) == 0) <;> rfl
      · simp only [cond_false, cond_true, nand_some, not_bne, not_gt, Bool.not_not]
        cases ho : owner n.Bal == n.Id
        · simp
        · rw [hb ho]
          unfold quiet
          cases decide (n.Bal ≤ n.Acc.Promised) <;> cases votesOk n.Best <;> cases ((n.From.length : Int) == 0) <;> rfl
    · simp only [cond_false, cond_true, nand_some, not_bne, not_gt, Bool.not_not]
      cases ho : owner n.Bal == n.Id
      · simp
      · rw [hb ho]
        unfold quiet
        cases decide (n.Bal ≤ n.Acc.Promised) <;> cases votesOk n.Best <;> cases marks n.From n.Id <;> rfl
  · unfold quiet
    simp only [cond_true]
def wantsOk (n : TNode) : Bool :=
  bif n.Busy then progOk n.Prog && (entryOk n.Want && (!n.Want.None && (([n.Want.Req.Who, n.Want.Req.Seq] : List Int) == [n.Id, n.Seq]))) else ((n.Prog.length : Int) == 0) && like n.Want zE
theorem specWants_eq {n : TNode} (h : okNode n) : spec_l8Wants n = some (wantsOk n) := by
  unfold spec_l8Wants wantsOk
  have hw := h.2.2.2.2.2.2.2.2.2.2.2.1
  simp only [none_eq hw, specProgOk_eq (h.2.2.2.2.2.2.2.2.2.2.1.fits (by decide)), specEntry_eq hw.f, Option.bind_some, and_some]
  cases n.Busy <;> rfl
def queueOk (l : List TEntry) : Bool := l.all fun e => entryOk e && !e.None
def nodeOk (n : TNode) : Bool := inR n.Id 0 2 && (accOk n.Acc && (listOk n.Known && (inR n.Seq 0 1000 && (decide ((n.Queue.length : Int) ≤ 4) && (leadOk n && (wantsOk n && queueOk n.Queue))))))
theorem specNode_eq {n : TNode} (h : okNode n) : spec_NodeOk n = some (nodeOk n) := by
  unfold spec_NodeOk nodeOk
  rw [rng3]
  cases hId : inR n.Id 0 2
  · rfl
  · rw [rng, specAcc_eq h.2.1, specList_eq (okEntries.s h.2.2.1), specLead_eq h hId, specWants_eq h, all_loop n.Queue (h.2.2.2.2.2.2.2.2.2.2.2.2.fits (by decide)) (fun e => entryOk e && !e.None) false ()]
    · unfold queueOk spec_NodeOk_k2
      rw [← not_gt]
      simp only [Option.bind_some, cond_true]
      cases accOk n.Acc <;> cases listOk n.Known <;> cases inR n.Seq 0 1000 <;> cases decide ((n.Queue.length : Int) > 4) <;> cases leadOk n <;> cases wantsOk n <;> cases n.Queue.all (fun e => entryOk e && !e.None) <;> rfl
    · intro k hk
      unfold spec_NodeOk_b1
      rw [lt_len _ k hk, idx_lt hk]
      simp only [cond_true, Option.bind_some, specEntry_eq ((h.2.2.2.2.2.2.2.2.2.2.2.2).2 _ (List.getElem_mem hk)).f]
      cases entryOk n.Queue[k] <;> cases n.Queue[k].None <;> rfl
    · unfold spec_NodeOk_b1
      rw [nlt_len]; rfl
theorem implNode_eq {n : TNode} (h : okNode n) : impl_NodeOk n = some (nodeOk n) := by
  unfold impl_NodeOk nodeOk
  rw [in_eq, Option.bind_some]
  cases hId : inR n.Id 0 2
  · rfl
  · have hw := h.2.2.2.2.2.2.2.2.2.2.2.1
    have hk3 : impl_NodeOk_k3 n = some (wantsOk n && leadOk n) := by
      unfold impl_NodeOk_k3 impl_NodeOk_j1 wantsOk
      simp only [implProgOk_eq (h.2.2.2.2.2.2.2.2.2.2.1.fits (by decide)), implEntry_eq hw.f, implLike_eq hw, implLead_eq h hId, Option.bind_some]
      cases n.Busy
      · rw [len_gt0]
        cases ((n.Prog.length : Int) == 0) <;> cases like n.Want zE <;> rfl
      · cases progOk n.Prog <;> cases entryOk n.Want <;> cases n.Want.None <;> cases (([n.Want.Req.Who, n.Want.Req.Seq] : List Int) == [n.Id, n.Seq]) <;> rfl
    rw [implAcc_eq h.2.1, implList_eq (okEntries.s h.2.2.1), in_eq, hk3, all_loop n.Queue (h.2.2.2.2.2.2.2.2.2.2.2.2.fits (by decide)) (fun e => entryOk e && !e.None) false ()]
    · unfold queueOk
      rw [← not_gt]
      simp only [Option.bind_some, Bool.not_true, cond_false]
      cases accOk n.Acc <;> cases listOk n.Known <;> cases inR n.Seq 0 1000 <;> cases decide ((n.Queue.length : Int) > 4) <;> cases leadOk n <;> cases wantsOk n <;> cases n.Queue.all (fun e => entryOk e && !e.None) <;> rfl
    · intro k hk
      unfold impl_NodeOk_b1
      rw [lt_len _ k hk, idx_lt hk]
      simp only [cond_true, Option.bind_some, implEntry_eq ((h.2.2.2.2.2.2.2.2.2.2.2.2).2 _ (List.getElem_mem hk)).f]
      cases entryOk n.Queue[k] <;> cases n.Queue[k].None <;> rfl
    · unfold impl_NodeOk_b1
      rw [nlt_len]; rfl

def kindOk (m : TMsg) : Bool :=
  let bal := inR m.Bal 1 3000
  let non := like m.Entry zE
  let nv := (m.Votes.length : Int) == 0
  bif m.Kind == 1 then bal && (non && nv) else
  bif m.Kind == 4 then bal && (non && nv) else
  bif m.Kind == 2 then bal && (non && (votesOk m.Votes && decide (w64 (m.Slot + (m.Votes.length : Int)) ≤ 40))) else
  bif m.Kind == 3 then bal && (decide (m.Slot < 40) && (entryOk m.Entry && nv)) else
  bif m.Kind == 5 then (m.Bal == 0) && (decide (m.Slot < 40) && (entryOk m.Entry && nv)) else
  bif m.Kind == 6 then bal && ((m.Slot == 0) && (non && nv)) else
  bif m.Kind == 7 then (m.Bal == 0) && ((m.Slot == 0) && (entryOk m.Entry && (!m.Entry.None && nv))) else
  bif m.Kind == 8 then (m.Bal == 0) && (non && nv) else false
def msgOk (m : TMsg) : Bool := inR m.From 0 2 && (inR m.To 0 2 && (!(m.From == m.To) && (inR m.Slot 0 40 && kindOk m)))
theorem implMsg_eq {m : TMsg} (h : okMsg m) : impl_MsgOk m = some (msgOk m) := by
  unfold impl_MsgOk msgOk kindOk
  have he := h.2.2.2.2.2.1
  simp only [in_eq, implLike_eq he, implEntry_eq he.f, implVotes_eq h.2.2.2.2.2.2, Option.bind_some, and_some]
  cases inR m.From 0 2
  · rfl
  cases inR m.To 0 2
  · rfl
  cases m.From == m.To
  case true => rfl
  cases inR m.Slot 0 40
  · rfl
  cases m.Kind == 1 <;> cases m.Kind == 4 <;> cases m.Kind == 2 <;> cases m.Kind == 3 <;> cases m.Kind == 5 <;> cases m.Kind == 6 <;> cases m.Kind == 7 <;> cases m.Kind == 8 <;> rfl
theorem specMsg_eq {m : TMsg} (h : okMsg m) : spec_MsgOk m = some (msgOk m) := by
  unfold spec_MsgOk msgOk
  have he := h.2.2.2.2.2.1
  have hj2 : spec_MsgOk_j2 m = spec_MsgOk_j1 m (like m.Entry zE) (entryOk m.Entry && decide (m.Slot < 40)) := by
    unfold spec_MsgOk_j2
    simp only [none_eq he, specEntry_eq he.f, Option.bind_some]
    cases entryOk m.Entry <;> rfl
  have hj : ∀ nv : Bool, nv = ((m.Votes.length : Int) == 0) → (m.Kind == 2 || nv) = true → spec_MsgOk_j1 m (like m.Entry zE) (entryOk m.Entry && decide (m.Slot < 40)) = some (kindOk m) := by
    intro nv hnv hk
    unfold spec_MsgOk_j1 kindOk
    simp only [l6Bal_eq, specVotes_eq h.2.2.2.2.2.2, specEntry_eq he.f, Option.bind_some, and_some]
    rw [← hnv]
    cases h1 : m.Kind == 1
    case true =>
      have : (m.Kind == 2) = false := by
        simp only [beq_iff_eq] at h1
        rw [h1]; rfl
      rw [this, Bool.false_or] at hk
      simp only [cond_true, hk, Bool.and_true]
    cases h2 : m.Kind == 2
    case true =>
      cases h4 : m.Kind == 4
      · rfl
      · simp only [beq_iff_eq] at h2 h4
        omega
    rw [h2, Bool.false_or] at hk
    subst hk
    cases h3 : m.Kind == 3
    case true =>
      cases h4 : m.Kind == 4
      · simp only [cond_true, cond_false, Bool.and_true]
        cases inR m.Bal 1 3000 <;> cases entryOk m.Entry <;> cases decide (m.Slot < 40) <;> rfl
      · simp only [beq_iff_eq] at h3 h4
        omega
    cases h4 : m.Kind == 4
    case true => simp only [cond_true, cond_false, Bool.and_true]
    simp only [cond_false]
    cases m.Kind == 5
    case true =>
      simp only [cond_true, Bool.and_true]
      cases m.Bal == 0 <;> cases entryOk m.Entry <;> cases decide (m.Slot < 40) <;> rfl
    simp only [cond_false]
    cases m.Kind == 6
    case true =>
      simp only [cond_true, Bool.and_true]
      cases inR m.Bal 1 3000 <;> cases like m.Entry zE <;> cases m.Slot == 0 <;> rfl
    cases m.Kind == 7 <;> cases m.Kind == 8 <;> simp only [cond_true, cond_false, Bool.and_true, Bool.true_and, Bool.false_and]
  rw [hj2, rng3]
  cases inR m.From 0 2
  · rfl
  simp only [cond_true, Bool.true_and]
  rw [rng3]
  cases inR m.To 0 2
  · rfl
  simp only [cond_true, Bool.true_and]
  cases m.From == m.To
  case true => rfl
  simp only [cond_false, Bool.not_false, Bool.true_and]
  rw [rng]
  cases inR m.Slot 0 40
  · rfl
  simp only [cond_true, Bool.true_and]
  rw [len_gt0]
  cases h2 : m.Kind == 2
  · rw [show (m.Kind != 2) = true from by rw [bne, h2]; rfl]
    cases hv : ((m.Votes.length : Int) == 0)
    · show some false = _
      have : kindOk m = false := by
        unfold kindOk
        rw [h2, hv]
        simp
      rw [this]
    · exact hj true hv.symm (by simp)
  · rw [show (m.Kind != 2) = false from by rw [bne, h2]; rfl]
    exact hj _ rfl (by rw [h2]; rfl)
def toldOk (t : TTold) : Bool := inR t.Node 0 2 && ((inR t.Req.Who 0 2 && inR t.Req.Seq 1 1000) && ((t.Req.Who == t.Node) && (inR t.Code 0 4 && inR t.Val (-1000000) 1000000)))
theorem specTold_eq (t : TTold) : spec_l9Told t = some (toldOk t) := by
  unfold spec_l9Told toldOk
  simp only [l5Req_eq, l1Num_eq, Option.bind_some, and_some]
  have e1 : inR t.Node 0 2 = (decide (t.Node ≥ 0) && decide (t.Node < 3)) := by
    unfold inR
    by_cases h1 : t.Node ≥ 0 <;> by_cases h2 : t.Node < 3 <;> simp [h1, h2] <;> omega
  have e2 : inR t.Code 0 4 = (decide (t.Code ≥ 0) && decide (t.Code ≤ 4)) := by
    unfold inR
    by_cases h1 : t.Code ≥ 0 <;> by_cases h2 : t.Code ≤ 4 <;> simp [h1, h2] <;> omega
  rw [e1, e2]
  simp only [Bool.and_assoc]
def askedOk (x : TAsked) : Bool := (inR x.Req.Who 0 2 && inR x.Req.Seq 1 1000) && progOk x.Prog
def nodeAt (w : TWorld) (k : Nat) : Bool := match w.Nodes[k]? with
  | some n => (n.Id == (k : Int)) && nodeOk n
  | none => true
def worldOk (w : TWorld) : Bool := ((w.Nodes.length : Int) == 3) && (decide ((w.Net.length : Int) ≤ 40) && (decide ((w.Asked.length : Int) ≤ 60) && (decide ((w.Told.length : Int) ≤ 60) && ((List.range w.Nodes.length).all (nodeAt w) && (w.Net.all msgOk && (w.Asked.all askedOk && w.Told.all toldOk))))))
theorem specWorld_eq {w : TWorld} (h : okWorld w) : spec_WorldOk w = some (worldOk w) := by
  have k7 : spec_WorldOk_k7 w = some (w.Told.all toldOk) := by
    unfold spec_WorldOk_k7
    rw [all_loop w.Told (h.2.2.2.fits (by decide)) toldOk false ()]
    · cases w.Told.all toldOk <;> rfl
    · intro k hk
      unfold spec_WorldOk_b1
      rw [lt_len _ k hk, idx_lt hk]
      simp only [cond_true, Option.bind_some, specTold_eq]
      cases toldOk w.Told[k] <;> rfl
    · unfold spec_WorldOk_b1
      rw [nlt_len]; rfl
  have k9 : spec_WorldOk_k9 w = some (w.Asked.all askedOk && w.Told.all toldOk) := by
    unfold spec_WorldOk_k9
    rw [all_loop w.Asked (h.2.2.1.fits (by decide)) askedOk false ()]
    · rw [k7]
      cases w.Asked.all askedOk <;> rfl
    · intro k hk
      unfold spec_WorldOk_b2
      rw [lt_len _ k hk, idx_lt hk]
      simp only [cond_true, Option.bind_some, l5Req_eq, specProgOk_eq ((h.2.2.1.2 _ (List.getElem_mem hk)).2.fits (by decide))]
      unfold askedOk
      cases inR w.Asked[k].Req.Who 0 2 && inR w.Asked[k].Req.Seq 1 1000 <;> cases progOk w.Asked[k].Prog <;> rfl
    · unfold spec_WorldOk_b2
      rw [nlt_len]; rfl
  have k11 : spec_WorldOk_k11 w = some (w.Net.all msgOk && (w.Asked.all askedOk && w.Told.all toldOk)) := by
    unfold spec_WorldOk_k11
    rw [all_loop w.Net (h.2.1.fits (by decide)) msgOk false ()]
    · rw [k9]
      cases w.Net.all msgOk <;> rfl
    · intro k hk
      unfold spec_WorldOk_b3
      rw [lt_len _ k hk, idx_lt hk]
      simp only [cond_true, Option.bind_some, specMsg_eq (h.2.1.2 _ (List.getElem_mem hk))]
      cases msgOk w.Net[k] <;> rfl
    · unfold spec_WorldOk_b3
      rw [nlt_len]; rfl
  unfold spec_WorldOk worldOk
  rw [alli_loop w.Nodes (h.1.fits (by decide)) (nodeAt w) false ()]
  · rw [k11]
    simp only [← not_gt]
    rw [show ((w.Nodes.length : Int) == 3) = !((w.Nodes.length : Int) != 3) from by simp [bne]]
    cases ((w.Nodes.length : Int) != 3) <;> cases decide ((w.Net.length : Int) > 40) <;> cases decide ((w.Asked.length : Int) > 60) <;> cases decide ((w.Told.length : Int) > 60) <;> cases (List.range w.Nodes.length).all (nodeAt w) <;> rfl
  · intro k hk _
    unfold spec_WorldOk_b4
    rw [lt_len _ k hk, idx_lt hk]
    simp only [cond_true, Option.bind_some, specNode_eq (h.1.2 _ (List.getElem_mem hk)), nodeAt, List.getElem?_eq_getElem hk, bne]
    cases w.Nodes[k].Id == (k : Int) <;> cases nodeOk w.Nodes[k] <;> rfl
  · unfold spec_WorldOk_b4
    rw [nlt_len]; rfl
theorem implWorld_eq {w : TWorld} (h : okWorld w) : impl_WorldOk w = some (worldOk w) := by
  have k7 : impl_WorldOk_k7 w = some (w.Told.all toldOk) := by
    unfold impl_WorldOk_k7
    rw [all_loop w.Told (h.2.2.2.fits (by decide)) toldOk false ()]
    · cases w.Told.all toldOk <;> rfl
    · intro k hk
      unfold impl_WorldOk_b1
      rw [lt_len _ k hk, idx_lt hk]
      simp only [cond_true, Option.bind_some, in_eq, reqOk_eq]
      unfold toldOk
      rw [show (w.Told[k].Req.Who == w.Told[k].Node) = !(w.Told[k].Req.Who != w.Told[k].Node) from by simp [bne]]
      cases inR w.Told[k].Node 0 2 <;> cases inR w.Told[k].Req.Who 0 2 && inR w.Told[k].Req.Seq 1 1000 <;> cases (w.Told[k].Req.Who != w.Told[k].Node) <;> cases inR w.Told[k].Code 0 4 <;> cases inR w.Told[k].Val (-1000000) 1000000 <;> rfl
    · unfold impl_WorldOk_b1
      rw [nlt_len]; rfl
  have k9 : impl_WorldOk_k9 w = some (w.Asked.all askedOk && w.Told.all toldOk) := by
    unfold impl_WorldOk_k9
    rw [all_loop w.Asked (h.2.2.1.fits (by decide)) askedOk false ()]
    · rw [k7]
      cases w.Asked.all askedOk <;> rfl
    · intro k hk
      unfold impl_WorldOk_b2
      rw [lt_len _ k hk, idx_lt hk]
      simp only [cond_true, Option.bind_some, reqOk_eq, implProgOk_eq ((h.2.2.1.2 _ (List.getElem_mem hk)).2.fits (by decide))]
      unfold askedOk
      cases inR w.Asked[k].Req.Who 0 2 && inR w.Asked[k].Req.Seq 1 1000 <;> cases progOk w.Asked[k].Prog <;> rfl
    · unfold impl_WorldOk_b2
      rw [nlt_len]; rfl
  have k11 : impl_WorldOk_k11 w = some (w.Net.all msgOk && (w.Asked.all askedOk && w.Told.all toldOk)) := by
    unfold impl_WorldOk_k11
    rw [all_loop w.Net (h.2.1.fits (by decide)) msgOk false ()]
    · rw [k9]
      cases w.Net.all msgOk <;> rfl
    · intro k hk
      unfold impl_WorldOk_b3
      rw [lt_len _ k hk, idx_lt hk]
      simp only [cond_true, Option.bind_some, implMsg_eq (h.2.1.2 _ (List.getElem_mem hk))]
      cases msgOk w.Net[k] <;> rfl
    · unfold impl_WorldOk_b3
      rw [nlt_len]; rfl
  unfold impl_WorldOk worldOk
  rw [alli_loop w.Nodes (h.1.fits (by decide)) (nodeAt w) false ()]
  · rw [k11]
    simp only [← not_gt]
    rw [show ((w.Nodes.length : Int) == 3) = !((w.Nodes.length : Int) != 3) from by simp [bne]]
    cases ((w.Nodes.length : Int) != 3) <;> cases decide ((w.Net.length : Int) > 40) <;> cases decide ((w.Asked.length : Int) > 60) <;> cases decide ((w.Told.length : Int) > 60) <;> cases (List.range w.Nodes.length).all (nodeAt w) <;> rfl
  · intro k hk _
    unfold impl_WorldOk_b4
    rw [lt_len _ k hk, idx_lt hk]
    simp only [cond_true, Option.bind_some, implNode_eq (h.1.2 _ (List.getElem_mem hk)), nodeAt, List.getElem?_eq_getElem hk, bne]
    cases w.Nodes[k].Id == (k : Int) <;> cases nodeOk w.Nodes[k] <;> rfl
  · unfold impl_WorldOk_b4
    rw [nlt_len]; rfl
end Go.Proofs.YtnbiggnidjfgeaaGreat

/- Plain laws: what is right of a world, laid open; whether all is quiet. -/
namespace Go.Proofs.YtnbiggnidjfgeaaGreat
open Go
theorem same_list {α : Type} {p : List α → List α → Nat → Bool} (hp : ∀ (a b : List α) (k : Nat) (x y : α), a[k]? = some x → b[k]? = some y → (p a b k = true ↔ x = y)) (a b : List α) : (a.length == b.length && (List.range a.length).all (p a b)) = true ↔ a = b := by
  constructor
  · intro h
    simp only [Bool.and_eq_true, beq_iff_eq, List.all_eq_true, List.mem_range] at h
    refine List.ext_getElem h.1 fun i h1 h2 => ?_
    exact (hp a b i _ _ (List.getElem?_eq_getElem h1) (List.getElem?_eq_getElem h2)).1 (h.2 i h1)
  · rintro rfl
    simp only [Bool.and_eq_true, beq_iff_eq, List.all_eq_true, List.mem_range, true_and]
    intro k hk
    exact (hp a a k _ _ (List.getElem?_eq_getElem hk) (List.getElem?_eq_getElem hk)).2 rfl
theorem sameRun_iff (a b : TRun) : sameRun a b = true ↔ a = b := by
  have h1 := same_list (p := sameReads) (fun a b k x y hx hy => by
    unfold sameReads
    rw [hx, hy]
    cases x; cases y
    simp) a.Reads b.Reads
  have h2 := same_list (p := samePuts) (fun a b k x y hx hy => by
    unfold samePuts
    rw [hx, hy]
    cases x; cases y
    simp) a.Puts b.Puts
  unfold sameRun
  rw [Bool.and_eq_true, h1, Bool.and_eq_true, h2, Bool.and_eq_true, beq_iff_eq, beq_iff_eq]
  cases a; cases b
  simp
theorem like_iff (a b : TEntry) : like a b = true ↔ a = b := by
  unfold like
  rw [Bool.and_eq_true, Bool.and_eq_true, sameRun_iff]
  obtain ⟨n, ⟨q1, q2⟩, r⟩ := a
  obtain ⟨n', ⟨q1', q2'⟩, r'⟩ := b
  simp [and_assoc]
theorem inR_iff {n lo hi : Int} : inR n lo hi = true ↔ lo ≤ n ∧ n ≤ hi := by unfold inR; simp
theorem worldOk_nodes {w : TWorld} (h : worldOk w = true) : w.Nodes.length = 3 ∧ ∀ n ∈ w.Nodes, nodeOk n = true := by
  unfold worldOk at h
  simp only [Bool.and_eq_true, beq_iff_eq, List.all_eq_true, List.mem_range] at h
  refine ⟨by omega, fun n hn => ?_⟩
  obtain ⟨i, hi, rfl⟩ := List.getElem_of_mem hn
  have := h.2.2.2.2.1 i hi
  unfold nodeAt at this
  rw [List.getElem?_eq_getElem hi] at this
  simp only [Bool.and_eq_true] at this
  exact this.2
theorem nodeOk_acc {n : TNode} (h : nodeOk n = true) : inR n.Id 0 2 = true ∧ accOk n.Acc = true ∧ listOk n.Known = true ∧ leadOk n = true ∧ wantsOk n = true := by
  unfold nodeOk at h
  simp only [Bool.and_eq_true] at h
  exact ⟨h.1, h.2.1, h.2.2.1, h.2.2.2.2.2.1, h.2.2.2.2.2.2.1⟩
theorem votesOk_bal {l : List TVote} (h : votesOk l = true) : l.length ≤ 40 ∧ ∀ v ∈ l, 0 ≤ v.Bal := by
  unfold votesOk at h
  simp only [Bool.and_eq_true, decide_eq_true_eq, List.all_eq_true] at h
  refine ⟨h.1, fun v hv => ?_⟩
  have := h.2 v hv
  unfold voteOk at this
  cases hb : v.Bal == 0
  · rw [hb] at this
    simp only [cond_false, Bool.and_eq_true, inR_iff] at this
    omega
  · simp only [beq_iff_eq] at hb
    omega
theorem accOk_votes {a : TAcc} (h : accOk a = true) : a.Votes.length ≤ 40 ∧ ∀ v ∈ a.Votes, 0 ≤ v.Bal := by
  unfold accOk at h
  simp only [Bool.and_eq_true] at h
  exact votesOk_bal h.2.1
theorem leadOk_bal {n : TNode} (hId : inR n.Id 0 2 = true) (h : leadOk n = true) : 0 ≤ n.Bal ∧ (n.Phase = 3 → 1 ≤ n.Bal) := by
  unfold leadOk at h
  cases h0 : n.Phase == 0
  · rw [h0] at h
    simp only [cond_false, Bool.and_eq_true] at h
    have := inR_iff.1 (owner_bal hId h.1)
    omega
  · rw [h0] at h
    simp only [cond_true, Bool.and_eq_true, beq_iff_eq] at h h0
    omega

/-! ### Quiet -/
end Go.Proofs.YtnbiggnidjfgeaaGreat

/- The law FnExactToldOnce. -/
namespace Go.Proofs.YtnbiggnidjfgeaaGreat
open Go

theorem kReq_eq (a b : TReq) : (([a.Who, a.Seq] : List Int) == [b.Who, b.Seq]) = (kReq a == kReq b) := rfl
/-- No request is told twice, so far. -/
def onceAt (l : List TTold) (i : Nat) : Bool := match l[i]? with
  | some t => (List.range i).all fun k => match l[k]? with
    | some s => !(kReq s.Req == kReq t.Req)
    | none => true
  | none => true
theorem onceAt_iff {l : List TTold} {i : Nat} (h : i < l.length) : onceAt l i = !((l.take i).any fun s => kReq s.Req == kReq l[i].Req) := by
  unfold onceAt
  rw [List.getElem?_eq_getElem h]
  simp only
  rw [Bool.eq_iff_iff, List.all_eq_true, Bool.not_eq_true', List.any_eq_false]
  constructor
  · intro hh s hs
    obtain ⟨k, hk, rfl⟩ := List.getElem_of_mem hs
    rw [List.length_take] at hk
    have := hh k (by simp; omega)
    rw [List.getElem?_eq_getElem (by omega)] at this
    simpa using this
  · intro hh k hk
    have hk : k < i := by simpa using hk
    rw [List.getElem?_eq_getElem (show k < l.length by omega)]
    have := hh l[k] (List.mem_take_iff_getElem.2 ⟨k, by omega, rfl⟩)
    simpa using this
def once (l : List TTold) : Bool := (List.range l.length).all (onceAt l)
theorem specOnce_eq {w : TWorld} (h : okWorld w) : spec_ToldOnce w = some (once w.Told && worldOk w) := by
  have hf : Fits w.Told := h.2.2.2.fits (by decide)
  have hl := hf
  unfold Fits at hl
  unfold spec_ToldOnce
  rw [alli_loop w.Told hf (onceAt w.Told) false ()]
  · unfold once
    cases (List.range w.Told.length).all (onceAt w.Told)
    · rfl
    · simp only [cond_true, Option.bind_some, Exc.go]
      unfold spec_ToldOnce_k2
      rw [specWorld_eq h]
      rfl
  · intro i hi _
    unfold spec_ToldOnce_b2
    rw [lt_len _ i hi, cond_true]
    have hc := loop_chk (body := fun s : Int => spec_ToldOnce_b1 w (i : Int) s) (fun k => (k : Int)) i (fun k => match w.Told[k]? with | some s => !(kReq s.Req == kReq w.Told[i].Req) | none => true) (fun _ => false) () (by
      intro k hk _
      have hkl : k < w.Told.length := by omega
      unfold spec_ToldOnce_b1
      rw [show decide ((k : Int) < (i : Int)) = true from by simpa using hk, cond_true, idx_lt hkl, Option.bind_some, idx_lt hi, Option.bind_some, kReq_eq, List.getElem?_eq_getElem hkl, w64_next hf hkl]
      simp only
      cases kReq w.Told[k].Req == kReq w.Told[i].Req <;> rfl) (by
      intro _
      unfold spec_ToldOnce_b1
      rw [show decide ((i : Int) < (i : Int)) = false from by simp]
      rfl)
    rw [show ((0 : Nat) : Int) = 0 from rfl] at hc
    unfold onceAt
    rw [List.getElem?_eq_getElem hi]
    simp only
    rcases hc with ⟨hc, hall⟩ | ⟨k, hk, ho, _, hc⟩
    · rw [hc, show (List.range i).all (fun k => match w.Told[k]? with | some s => !(kReq s.Req == kReq w.Told[i].Req) | none => true) = true from List.all_eq_true.2 fun k hk => hall k (by simpa using hk)]
      rfl
    · rw [hc, show (List.range i).all (fun k => match w.Told[k]? with | some s => !(kReq s.Req == kReq w.Told[i].Req) | none => true) = false from List.all_eq_false.2 ⟨k, by simpa using hk, by rw [ho]; simp⟩]
      rfl
  · unfold spec_ToldOnce_b2
    rw [nlt_len]; rfl
theorem madd_new {l : List TReq} {y : TReq} (h : (l.any fun x => kReq y == kReq x) = false) : madd kReq l y = l ++ [y] := by
  unfold madd
  rw [if_neg (by rw [h]; simp)]
theorem implOnce_eq {w : TWorld} (h : okWorld w) : impl_ToldOnce w = some (worldOk w && once w.Told) := by
  have hf : Fits w.Told := h.2.2.2.fits (by decide)
  unfold impl_ToldOnce
  rw [implWorld_eq h, Option.bind_some]
  cases worldOk w
  · rfl
  rw [Bool.not_true, cond_false, Bool.true_and]
  have hc := loop_chk (body := fun s : (List TReq) × Int => impl_ToldOnce_b1 w s.1 s.2) (fun k => ((w.Told.take k).map (·.Req), (k : Int))) w.Told.length (onceAt w.Told) (fun _ => false) () (by
    intro k hk _
    unfold impl_ToldOnce_b1
    simp only [lt_len _ k hk, cond_true, idx_lt hk, Option.bind_some, w64_next hf hk]
    have he : (((w.Told.take k).map (·.Req)).any fun x => kReq w.Told[k].Req == kReq x) = !onceAt w.Told k := by
      rw [onceAt_iff hk, Bool.not_not, List.any_map]
      congr 1
      funext s
      show (kReq w.Told[k].Req == kReq s.Req) = _
      rw [Bool.eq_iff_iff, beq_iff_eq, beq_iff_eq]
      exact eq_comm
    rw [he]
    cases ho : onceAt w.Told k
    · rfl
    · rw [ho] at he
      rw [madd_new he, List.take_succ_eq_append_getElem hk, List.map_append]
      rfl) (by
    intro _
    unfold impl_ToldOnce_b1
    simp only [nlt_len]
    rfl)
  rw [List.take_zero, List.map_nil, show ((0 : Nat) : Int) = 0 from rfl] at hc
  unfold once
  rcases hc with ⟨hc, hall⟩ | ⟨k, hk, ho, _, hc⟩
  · rw [hc, show (List.range w.Told.length).all (onceAt w.Told) = true from List.all_eq_true.2 fun k hk => hall k (by simpa using hk)]
    rfl
  · rw [hc, show (List.range w.Told.length).all (onceAt w.Told) = false from List.all_eq_false.2 ⟨k, by simpa using hk, by rw [ho]; simp⟩]
    rfl
theorem fnExactToldOnce_true {w : TWorld} (h : okWorld w) : laws_FnExactToldOnce w = some true := by
  obtain ⟨v, h1⟩ := szWorld_tot h 1048576
  unfold laws_FnExactToldOnce
  rw [h1, Option.bind_some]
  cases decide (v < 0)
  · simp only [cond_false, toWorld_eq h, Option.bind_some, specOnce_eq h, implOnce_eq h, Bool.and_comm (once w.Told), bne_self_eq_false, beq_self_eq_true, Bool.not_true, eqWorld_self h]
  · rfl
end Go.Proofs.YtnbiggnidjfgeaaGreat
