/- The plain laws, in one text. -/
import Derived.Test.YthegkbaijmkhfaaAm32
import Derived.IntWalk
import Derived.Test.YthegkbaijmkhfaaOp
import Derived.Test.YthegkbaijmkhfaaF4
set_option linter.unusedVariables false
set_option linter.unusedSimpArgs false

/- Loops of the plain functions, told without a loop. -/
namespace Go.Proofs.Ythegkbaijmkhfaa
open Go

theorem w64_in {n : Int} (h1 : -9223372036854775808 ≤ n) (h2 : n ≤ 9223372036854775807) : w64 n = n := IntWalk.i64_in n ⟨h1, h2⟩

/-- How great a list can be. -/
def Fits {α : Type} (l : List α) : Prop := l.length ≤ 140737488351232

theorem w64_next {α : Type} {l : List α} (hl : Fits l) {k : Nat} (h : k < l.length) : w64 ((k : Int) + 1) = ((k + 1 : Nat) : Int) := by
  unfold Fits at hl
  rw [w64_in (by omega) (by omega)]
  omega

section
variable {R S B : Type} {body : S → Option (Stp R S B)}
theorem loop_nxt {s t : S} (h : body s = some (.nxt t)) : loop body s = loop body t := by rw [loop_eq, h]
theorem loop_brk {s : S} {b : B} (h : body s = some (.brk b)) : loop body s = some (.brk b) := by rw [loop_eq, h]
theorem loop_ret {s : S} {r : R} (h : body s = some (.ret r)) : loop body s = some (.ret r) := by rw [loop_eq, h]
/-- A loop that comes through all its rounds. -/
theorem loop_to (st : Nat → S) (n : Nat) (h : ∀ k, k < n → body (st k) = some (.nxt (st (k + 1)))) : loop body (st 0) = loop body (st n) := by
  induction n with
  | zero => rfl
  | succ n ih =>
    rw [ih fun k hk => h k (by omega)]
    exact loop_nxt (h n (by omega))
/-- A loop that looks at each round whether something stands, and ends where it doesn't. -/
theorem loop_chk (st : Nat → S) (n : Nat) (ok : Nat → Bool) (r : Nat → R) (b : B)
    (h1 : ∀ k, k < n → (∀ j, j < k → ok j = true) → body (st k) = some (bif ok k then .nxt (st (k + 1)) else .ret (r k)))
    (h2 : (∀ j, j < n → ok j = true) → body (st n) = some (.brk b)) :
    (loop body (st 0) = some (.brk b) ∧ ∀ j, j < n → ok j = true) ∨ ∃ k, k < n ∧ ok k = false ∧ (∀ j, j < k → ok j = true) ∧ loop body (st 0) = some (.ret (r k)) := by
  by_cases hall : ∀ j, j < n → ok j = true
  · left
    refine ⟨?_, hall⟩
    rw [loop_to st n fun k hk => ?_]
    · exact loop_brk (h2 hall)
    · rw [h1 k hk fun j hj => hall j (by omega), hall k hk]; rfl
  · right
    have hex : ∃ k, k < n ∧ ok k = false := by
      apply Classical.byContradiction
      intro hn
      apply hall
      intro j hj
      cases hj' : ok j with
      | true => rfl
      | false => exact absurd ⟨j, hj, hj'⟩ hn
    obtain ⟨k, hk, ho, hb⟩ : ∃ k, k < n ∧ ok k = false ∧ ∀ j, j < k → ok j = true := by
      obtain ⟨k, hk, ho⟩ := hex
      induction k using Nat.strongRecOn with
      | _ k ih =>
        by_cases hb : ∀ j, j < k → ok j = true
        · exact ⟨k, hk, ho, hb⟩
        · have : ∃ j, j < k ∧ ok j = false := by
            apply Classical.byContradiction
            intro hn
            apply hb
            intro j hj
            cases hj' : ok j with
            | true => rfl
            | false => exact absurd ⟨j, hj, hj'⟩ hn
          obtain ⟨j, hj, hjo⟩ := this
          exact ih j hj (by omega) hjo
    refine ⟨k, hk, ho, hb, ?_⟩
    rw [loop_to st k fun j hj => ?_]
    · refine loop_ret ?_
      rw [h1 k hk hb, ho]
      rfl
    · rw [h1 j (by omega) fun i hi => hb i (by omega), hb j hj]; rfl
end

/-- A loop by an invariant and a number that falls. -/
theorem loop_inv {R S B : Type} {body : S → Option (Stp R S B)} (I : Nat → S → Prop) (Q : Exc R B → Prop)
    (h : ∀ k s, I k s → ∃ st, body s = some st ∧ match st with | .ret r => Q (.ret r) | .brk b => Q (.brk b) | .nxt t => ∃ k', k' < k ∧ I k' t) : ∀ {k s}, I k s → ∃ x, loop body s = some x ∧ Q x := by
  intro k
  induction k using Nat.strongRecOn with
  | _ k ih =>
    intro s hs
    obtain ⟨st, hb, hq⟩ := h k s hs
    cases st with
    | ret r => exact ⟨_, loop_ret hb, hq⟩
    | brk b => exact ⟨_, loop_brk hb, hq⟩
    | nxt t =>
      obtain ⟨k', hk, ht⟩ := hq
      obtain ⟨x, hx, hq⟩ := ih k' hk ht
      exact ⟨x, by rw [loop_nxt hb]; exact hx, hq⟩

theorem need_pos {β : Type} {p : Prop} [Decidable p] (h : p) (k : Option β) : need p k = k := if_pos h

theorem idx_nat {α : Type} (l : List α) (k : Nat) : idx l (k : Int) = l[k]? := by
  unfold idx
  rw [if_pos (by omega)]
  rfl
theorem idx_lt {α : Type} {l : List α} {k : Nat} (h : k < l.length) : idx l (k : Int) = some l[k] := by
  rw [idx_nat, List.getElem?_eq_getElem h]

theorem lt_len {α : Type} (l : List α) (k : Nat) (h : k < l.length) : decide ((k : Int) < (l.length : Int)) = true := by simpa using h
theorem nlt_len {α : Type} (l : List α) : decide ((l.length : Int) < (l.length : Int)) = false := by simp

/-- A loop over a list that ends at the first element for which a test says no. -/
theorem all_loop {α B : Type} {body : Int → Option (Stp Bool Int B)} (l : List α) (hl : Fits l) (ok : α → Bool) (v : Bool) (b : B)
    (h1 : ∀ (k : Nat) (h : k < l.length), body (k : Int) = some (bif ok l[k] then .nxt (w64 ((k : Int) + 1)) else .ret v))
    (h2 : body (l.length : Int) = some (.brk b)) : loop body 0 = some (bif l.all ok then .brk b else .ret v) := by
  have h := loop_chk (body := body) (fun k => (k : Int)) l.length (fun k => match l[k]? with | some x => ok x | none => true) (fun _ => v) b
    (fun k hk _ => by
      have := h1 k hk
      rw [w64_next hl hk] at this
      simpa [List.getElem?_eq_getElem hk] using this) (fun _ => h2)
  rcases h with ⟨h, hall⟩ | ⟨k, hk, ho, _, h⟩
  · have : l.all ok = true := by
      rw [List.all_eq_true]
      intro x hx
      obtain ⟨i, hi, rfl⟩ := List.getElem_of_mem hx
      have := hall i hi
      simpa [List.getElem?_eq_getElem hi] using this
    rw [this]; exact h
  · have : l.all ok = false := by
      rw [List.all_eq_false]
      refine ⟨l[k], List.getElem_mem hk, ?_⟩
      simpa [List.getElem?_eq_getElem hk] using ho
    rw [this]; exact h

/-- As `all_loop`, where the test may look at the place. -/
theorem alli_loop {α B : Type} {body : Int → Option (Stp Bool Int B)} (l : List α) (hl : Fits l) (ok : Nat → Bool) (v : Bool) (b : B)
    (h1 : ∀ (k : Nat) (h : k < l.length), (∀ j, j < k → ok j = true) → body (k : Int) = some (bif ok k then .nxt (w64 ((k : Int) + 1)) else .ret v))
    (h2 : body (l.length : Int) = some (.brk b)) : loop body 0 = some (bif (List.range l.length).all ok then .brk b else .ret v) := by
  have h := loop_chk (body := body) (fun k => (k : Int)) l.length ok (fun _ => v) b
    (fun k hk hb => by
      have := h1 k hk hb
      rw [w64_next hl hk] at this
      exact this) (fun _ => h2)
  rcases h with ⟨h, hall⟩ | ⟨k, hk, ho, _, h⟩
  · have : (List.range l.length).all ok = true := by
      rw [List.all_eq_true]
      intro x hx
      exact hall x (by simpa using hx)
    rw [this]; exact h
  · have : (List.range l.length).all ok = false := by
      rw [List.all_eq_false]
      exact ⟨k, by simpa using hk, by simp [ho]⟩
    rw [this]; exact h

/-- A loop that makes a copy. -/
theorem copy_loop {α R B : Type} {body : List α × Int → Option (Stp R (List α × Int) B)} (l : List α) (hl : Fits l) (z : α) (f : List α → B)
    (h1 : ∀ (k : Nat) (h : k < l.length) (out : List α), out.length = l.length → body (out, (k : Int)) = some (.nxt (out.set k l[k], w64 ((k : Int) + 1))))
    (h2 : body (l, (l.length : Int)) = some (.brk (f l))) : loop body (List.replicate l.length z, 0) = some (.brk (f l)) := by
  have h := loop_to (body := body) (fun k => (l.take k ++ List.replicate (l.length - k) z, (k : Int))) l.length (fun k hk => by
    have := h1 k hk (l.take k ++ List.replicate (l.length - k) z) (by simp; omega)
    rw [w64_next hl hk] at this
    rw [this]
    congr 3
    rw [List.set_append_right k l[k] (by simp; omega)]
    rw [show l.length - k = (l.length - (k + 1)) + 1 from by omega, List.replicate_succ]
    rw [show k - (List.take k l).length = 0 from by simp; omega, List.set_cons_zero, List.take_succ_eq_append_getElem hk, List.append_assoc]
    rfl)
  simp only [List.take_zero, List.nil_append, Nat.sub_zero, List.take_length, Nat.sub_self, List.replicate_zero, List.append_nil] at h
  rw [show ((0 : Nat) : Int) = 0 from rfl] at h
  rw [h]
  exact loop_brk h2

/-- A loop that looks for the first of a kind. -/
theorem find_loop {α R B : Type} {body : Int → Option (Stp R Int B)} (l : List α) (hl : Fits l) (is : α → Bool) (f : α → R) (b : B)
    (h1 : ∀ (k : Nat) (h : k < l.length), body (k : Int) = some (bif is l[k] then .ret (f l[k]) else .nxt (w64 ((k : Int) + 1))))
    (h2 : body (l.length : Int) = some (.brk b)) : loop body 0 = some (match l.find? is with | some x => .ret (f x) | none => .brk b) := by
  have key : ∀ (m k : Nat), k + m = l.length → loop body (k : Int) = some (match (l.drop k).find? is with | some x => .ret (f x) | none => .brk b) := by
    intro m
    induction m with
    | zero =>
      intro k hk
      have : k = l.length := by omega
      subst this
      rw [List.drop_length]
      exact loop_brk h2
    | succ m ih =>
      intro k hk
      have hlt : k < l.length := by omega
      have hb := h1 k hlt
      rw [List.drop_eq_getElem_cons hlt, List.find?_cons]
      cases hq : is l[k] with
      | true =>
        rw [hq] at hb
        exact loop_ret hb
      | false =>
        rw [hq] at hb
        rw [loop_nxt hb, w64_next hl hlt]
        exact ih (k + 1) (by omega)
  have := key l.length 0 (by omega)
  simpa using this
/-- A loop that goes through a list with something of its own. -/
theorem fold_loop {α S R B : Type} {body : S × Int → Option (Stp R (S × Int) B)} (l : List α) (hl : Fits l) (g : S → α → S) (s0 : S) (b : S → B)
    (h1 : ∀ (k : Nat) (h : k < l.length), body ((l.take k).foldl g s0, (k : Int)) = some (.nxt (g ((l.take k).foldl g s0) l[k], w64 ((k : Int) + 1))))
    (h2 : body (l.foldl g s0, (l.length : Int)) = some (.brk (b (l.foldl g s0)))) : loop body (s0, 0) = some (.brk (b (l.foldl g s0))) := by
  have h := loop_to (body := body) (fun k => ((l.take k).foldl g s0, (k : Int))) l.length (fun k hk => by
    rw [h1 k hk, w64_next hl hk, List.take_succ_eq_append_getElem hk, List.foldl_append]
    rfl)
  simp only [List.take_zero, List.foldl_nil, List.take_length] at h
  rw [show ((0 : Nat) : Int) = 0 from rfl] at h
  rw [h]
  exact loop_brk h2
end Go.Proofs.Ythegkbaijmkhfaa

/- Plain laws: copies, sizes, entries by themselves, neighbours that can be swapped. -/
namespace Go.Proofs.Ythegkbaijmkhfaa
open Go

theorem okL.fits {α : Type} {bytes : Nat} {ok : α → Prop} {l : List α} (h : okL bytes ok l) (hb : 0 < bytes) : Fits l := by
  obtain ⟨h, _⟩ := h
  unfold Fits
  have : l.length * 1 ≤ l.length * bytes := Nat.mul_le_mul_left _ hb
  omega
/-- What is asked of sizes alone. -/
def fRun (x : TRun) : Prop := okL 16 okT x.Reads ∧ okL 16 okT x.Puts ∧ True
def fEntry (x : TEntry) : Prop := True ∧ fRun x.Run
theorem okL.imp {α : Type} {bytes : Nat} {ok ok' : α → Prop} {l : List α} (h : okL bytes ok l) (hi : ∀ x, ok x → ok' x) : okL bytes ok' l := ⟨h.1, fun x hx => hi x (h.2 x hx)⟩
theorem okRun.f {x : TRun} (h : okRun x) : fRun x := ⟨h.1.imp fun _ _ => trivial, h.2.1.imp fun _ _ => trivial, trivial⟩
theorem okEntry.f {x : TEntry} (h : okEntry x) : fEntry x := ⟨trivial, h.2.f⟩
theorem okEntries.f {l : List TEntry} (h : okL 88 okEntry l) : okL 88 fEntry l := h.imp fun _ x => x.f

/-! ### Copies -/
theorem toReadS_eq {l : List TRead} (h : okL 16 okT l) : laws_toReadS l = some l := by
  have hf : Fits l := h.fits (by decide)
  have hb := h.1
  unfold laws_toReadS need
  rw [if_pos (by constructor <;> omega), Int.toNat_natCast, copy_loop l hf _ id]
  · rfl
  · intro k hk out ho
    unfold laws_toReadS_b1 laws_toRead
    rw [lt_len l k hk]
    simp [idx_lt hk, idx_lt (ho ▸ hk), Option.bind]
  · unfold laws_toReadS_b1
    rw [nlt_len]
    rfl
theorem toPutS_eq {l : List TPut} (h : okL 16 okT l) : laws_toPutS l = some l := by
  have hf : Fits l := h.fits (by decide)
  have hb := h.1
  unfold laws_toPutS need
  rw [if_pos (by constructor <;> omega), Int.toNat_natCast, copy_loop l hf _ id]
  · rfl
  · intro k hk out ho
    unfold laws_toPutS_b1 laws_toPut
    rw [lt_len l k hk]
    simp [idx_lt hk, idx_lt (ho ▸ hk), Option.bind]
  · unfold laws_toPutS_b1
    rw [nlt_len]
    rfl
theorem toRun_eq {x : TRun} (h : fRun x) : laws_toRun x = some x := by
  unfold laws_toRun
  rw [toReadS_eq h.1, Option.bind_some, toPutS_eq h.2.1]
  rfl
theorem toEntry_eq {x : TEntry} (h : fEntry x) : laws_toEntry x = some x := by
  unfold laws_toEntry laws_toReq
  rw [Option.bind_some, toRun_eq h.2]
  rfl
theorem toEntryS_eq {l : List TEntry} (h : okL 88 fEntry l) : laws_toEntryS l = some l := by
  have hf : Fits l := h.fits (by decide)
  have hb := h.1
  unfold laws_toEntryS need
  rw [if_pos (by constructor <;> omega), Int.toNat_natCast, copy_loop l hf _ id]
  · rfl
  · intro k hk out ho
    unfold laws_toEntryS_b1
    rw [lt_len l k hk]
    simp [idx_lt hk, idx_lt (ho ▸ hk), Option.bind, toEntry_eq (h.2 _ (List.getElem_mem hk))]
  · unfold laws_toEntryS_b1
    rw [nlt_len]
    rfl

/-! ### Sizes -/
theorem szRun_tot (x : TRun) (n : Int) : ∃ v, laws_szRun x n = some v := by
  unfold laws_szRun laws_szReadS laws_szPutS
  simp only [cond_eq_ite]
  repeat' (first | (split; skip) | (simp only [Option.bind_some]; skip))
  all_goals simp
  all_goals grind
theorem szEntry_tot (x : TEntry) (n : Int) : ∃ v, laws_szEntry x n = some v := by
  obtain ⟨v, h⟩ := szRun_tot x.Run n
  unfold laws_szEntry
  rw [h, Option.bind_some]
  cases decide (v < 0) <;> exact ⟨_, rfl⟩
theorem szEntryS_tot {l : List TEntry} (h : Fits l) (n : Int) : ∃ v, laws_szEntryS l n = some v := by
  unfold laws_szEntryS
  cases decide (w64 (n - ↑l.length) < 0)
  · simp only [cond_false]
    obtain ⟨x, hx, _⟩ := loop_inv (body := fun s : Int × Int => laws_szEntryS_b1 l s.1 s.2) (fun k s => ∃ j : Nat, s.2 = (j : Int) ∧ j + k = l.length) (fun _ => True) (fun k s ⟨j, hj, hk⟩ => by
      unfold laws_szEntryS_b1
      rw [hj]
      by_cases hlt : j < l.length
      · rw [lt_len l j hlt, idx_lt hlt]
        obtain ⟨v, hv⟩ := szEntry_tot l[j] s.1
        simp only [cond_true, Option.bind_some, hv]
        cases decide (v < 0)
        · exact ⟨_, rfl, k - 1, by omega, j + 1, w64_next h hlt, by omega⟩
        · exact ⟨_, rfl, trivial⟩
      · have : j = l.length := by omega
        subst this
        rw [nlt_len]
        exact ⟨_, rfl, trivial⟩) (k := l.length) (s := (w64 (n - ↑l.length), 0)) ⟨0, rfl, by omega⟩
    rw [hx, Option.bind_some]
    cases x with
    | ret r => exact ⟨_, rfl⟩
    | brk b => exact ⟨_, rfl⟩
  · exact ⟨_, rfl⟩

/-! ### A list is itself -/
theorem eqReadS_self {l : List TRead} (h : Fits l) : laws_eqReadS l l = some true := by
  unfold laws_eqReadS
  rw [bne_self_eq_false, cond_false, all_loop l h (fun _ => true) false ()]
  · rw [show l.all (fun _ => true) = true from by simp]; rfl
  · intro k hk
    unfold laws_eqReadS_b1 laws_eqRead
    rw [lt_len l k hk, idx_lt hk]
    simp [bne_self_eq_false]
  · unfold laws_eqReadS_b1
    rw [nlt_len]; rfl
theorem eqPutS_self {l : List TPut} (h : Fits l) : laws_eqPutS l l = some true := by
  unfold laws_eqPutS
  rw [bne_self_eq_false, cond_false, all_loop l h (fun _ => true) false ()]
  · rw [show l.all (fun _ => true) = true from by simp]; rfl
  · intro k hk
    unfold laws_eqPutS_b1 laws_eqPut
    rw [lt_len l k hk, idx_lt hk]
    simp [bne_self_eq_false]
  · unfold laws_eqPutS_b1
    rw [nlt_len]; rfl
theorem eqRun_self {x : TRun} (h : fRun x) : laws_eqRun x x = some true := by
  unfold laws_eqRun
  rw [eqReadS_self (h.1.fits (by decide)), Option.bind_some, Bool.not_true, cond_false, eqPutS_self (h.2.1.fits (by decide)), Option.bind_some, Bool.not_true, cond_false]
  simp
theorem eqEntry_self {x : TEntry} (h : fEntry x) : laws_eqEntry x x = some true := by
  unfold laws_eqEntry
  rw [eqRun_self h.2]
  unfold laws_eqReq
  simp
theorem eqEntryS_self {l : List TEntry} (h : okL 88 fEntry l) : laws_eqEntryS l l = some true := by
  have hf : Fits l := h.fits (by decide)
  unfold laws_eqEntryS
  rw [bne_self_eq_false, cond_false, all_loop l hf (fun _ => true) false ()]
  · rw [show l.all (fun _ => true) = true from by simp]; rfl
  · intro k hk
    unfold laws_eqEntryS_b1
    rw [lt_len l k hk, idx_lt hk]
    simp [eqEntry_self (h.2 _ (List.getElem_mem hk))]
  · unfold laws_eqEntryS_b1
    rw [nlt_len]; rfl

/-! ### Runs: the small looks -/
def saw (l : List TRead) (box : Int) : Bool := l.any (·.Box == box)
def sawP (l : List TPut) (box : Int) : Bool := l.any (·.Box == box)
/-- A loop that finds a place, or none. -/
theorem at_loop {α B : Type} {body : Int → Option (Stp Int Int B)} (l : List α) (hl : Fits l) (is : α → Bool) (b : B)
    (h1 : ∀ (k : Nat) (h : k < l.length), body (k : Int) = some (bif is l[k] then .ret (k : Int) else .nxt (w64 ((k : Int) + 1))))
    (h2 : body (l.length : Int) = some (.brk b)) : (loop body 0 = some (.brk b) ∧ l.any is = false) ∨ ∃ k : Nat, loop body 0 = some (.ret (k : Int)) ∧ l.any is = true := by
  have h := loop_chk (body := body) (fun k => (k : Int)) l.length (fun k => match l[k]? with | some x => !is x | none => true) (fun k => (k : Int)) b
    (fun k hk _ => by
      have := h1 k hk
      rw [w64_next hl hk] at this
      rw [this]
      simp only [List.getElem?_eq_getElem hk]
      cases is l[k] <;> rfl) (fun _ => h2)
  rcases h with ⟨h, hall⟩ | ⟨k, hk, ho, _, h⟩
  · left
    refine ⟨h, ?_⟩
    rw [List.any_eq_false]
    intro x hx
    obtain ⟨i, hi, rfl⟩ := List.getElem_of_mem hx
    have := hall i hi
    simpa [List.getElem?_eq_getElem hi] using this
  · right
    refine ⟨k, h, ?_⟩
    rw [List.any_eq_true]
    refine ⟨l[k], List.getElem_mem hk, ?_⟩
    simpa [List.getElem?_eq_getElem hk] using ho
def clashes (a b : TRun) (box : Int) : Bool := (sawP a.Puts box && (sawP b.Puts box || saw b.Reads box)) || (sawP b.Puts box && saw a.Reads box)
/-! ### Ranges -/
def inR (n lo hi : Int) : Bool := decide (lo ≤ n ∧ n ≤ hi)
/-! ### A run by itself -/
def okReads (l : List TRead) (k : Nat) : Bool := match l[k]? with
  | some x => inR x.Box 0 3 && (inR x.Ver 0 1000000 && !saw (l.take k) x.Box)
  | none => true
def okPuts (l : List TPut) (k : Nat) : Bool := match l[k]? with
  | some x => inR x.Box 0 3 && (inR x.Val (-1000000) 1000000 && !sawP (l.take k) x.Box)
  | none => true
theorem take_fits {α : Type} {l : List α} (h : Fits l) (k : Nat) : Fits (l.take k) := by
  unfold Fits at h ⊢
  rw [List.length_take]
  omega
/-! ### The same with a bit for each box -/
def bits (f : Int → Bool) : List Bool := [f 0, f 1, f 2, f 3]
theorem bits_at {f : Int → Bool} {b : Int} (h : inR b 0 3 = true) : idx (bits f) b = some (f b) ∧ b < 4 := by
  have h : 0 ≤ b ∧ b ≤ 3 := by simpa [inR] using h
  have : b = 0 ∨ b = 1 ∨ b = 2 ∨ b = 3 := by omega
  rcases this with rfl | rfl | rfl | rfl <;> exact ⟨rfl, by decide⟩
theorem bits_set {f g : Int → Bool} {b : Int} (h : inR b 0 3 = true) (hb : g b = true) (hne : ∀ c, c ≠ b → g c = f c) : (bits f).set b.toNat true = bits g := by
  have h : 0 ≤ b ∧ b ≤ 3 := by simpa [inR] using h
  have : b = 0 ∨ b = 1 ∨ b = 2 ∨ b = 3 := by omega
  unfold bits
  rcases this with rfl | rfl | rfl | rfl
  all_goals
    rw [show [g 0, g 1, g 2, g 3] = _ from rfl]
    first
      | rw [hb, hne 1 (by decide), hne 2 (by decide), hne 3 (by decide)]; rfl
      | rw [hb, hne 0 (by decide), hne 2 (by decide), hne 3 (by decide)]; rfl
      | rw [hb, hne 0 (by decide), hne 1 (by decide), hne 3 (by decide)]; rfl
      | rw [hb, hne 0 (by decide), hne 1 (by decide), hne 2 (by decide)]; rfl
theorem saw_next {l : List TRead} {k : Nat} (hk : k < l.length) (b : Int) : saw (l.take (k + 1)) b = (saw (l.take k) b || (l[k].Box == b)) := by
  unfold saw
  rw [List.take_succ_eq_append_getElem hk, List.any_append]
  simp
theorem sawP_next {l : List TPut} {k : Nat} (hk : k < l.length) (b : Int) : sawP (l.take (k + 1)) b = (sawP (l.take k) b || (l[k].Box == b)) := by
  unfold sawP
  rw [List.take_succ_eq_append_getElem hk, List.any_append]
  simp
theorem saw_other {l : List TRead} {k : Nat} (hk : k < l.length) (c : Int) (hc : c ≠ l[k].Box) : saw (l.take (k + 1)) c = saw (l.take k) c := by
  have : (l[k].Box == c) = false := by simpa using fun h => hc h.symm
  rw [saw_next hk, this, Bool.or_false]
theorem sawP_other {l : List TPut} {k : Nat} (hk : k < l.length) (c : Int) (hc : c ≠ l[k].Box) : sawP (l.take (k + 1)) c = sawP (l.take k) c := by
  have : (l[k].Box == c) = false := by simpa using fun h => hc h.symm
  rw [sawP_next hk, this, Bool.or_false]
theorem chk_all {R S B : Type} {x : Option (Exc R B)} {n : Nat} {ok : Nat → Bool} {r : R} {b : B} (h : (x = some (.brk b) ∧ ∀ j, j < n → ok j = true) ∨ ∃ k, k < n ∧ ok k = false ∧ (∀ j, j < k → ok j = true) ∧ x = some (.ret r)) : x = some (bif (List.range n).all ok then .brk b else .ret r) := by
  rcases h with ⟨h, hall⟩ | ⟨k, hk, ho, _, h⟩
  · have : (List.range n).all ok = true := by
      rw [List.all_eq_true]
      intro x hx
      exact hall x (by simpa using hx)
    rw [this]; exact h
  · have : (List.range n).all ok = false := by
      rw [List.all_eq_false]
      exact ⟨k, by simpa using hk, by simp [ho]⟩
    rw [this]; exact h
def runOk (r : TRun) : Bool := inR r.Code 0 3 && (inR r.Val (-1000000) 1000000 && ((r.Code == 0 || (r.Val == 0 && r.Puts.length == 0)) && ((r.Code != 3 || r.Reads.length == 0) && ((List.range r.Reads.length).all (okReads r.Reads) && (List.range r.Puts.length).all (okPuts r.Puts)))))
theorem len_gt {α : Type} (l : List α) : decide ((l.length : Int) > 0) = !(l.length == 0) := by
  cases l <;> simp
/-! ### Two runs alike -/
def sameReads (a b : List TRead) (k : Nat) : Bool := match a[k]?, b[k]? with
  | some x, some y => ([x.Box, x.Ver] : List Int) == [y.Box, y.Ver]
  | _, _ => true
def samePuts (a b : List TPut) (k : Nat) : Bool := match a[k]?, b[k]? with
  | some x, some y => ([x.Box, x.Val] : List Int) == [y.Box, y.Val]
  | _, _ => true
def sameRun (a b : TRun) : Bool := (a.Reads.length == b.Reads.length && (List.range a.Reads.length).all (sameReads a.Reads b.Reads)) && ((a.Puts.length == b.Puts.length && (List.range a.Puts.length).all (samePuts a.Puts b.Puts)) && (a.Val == b.Val && a.Code == b.Code))
theorem len_bne {α β : Type} (a : List α) (b : List β) : ((a.length : Int) != (b.length : Int)) = !(a.length == b.length) := by
  unfold bne
  congr 1
  by_cases h : a.length = b.length
  · simp [h]
  · have h1 : ((a.length : Int) == (b.length : Int)) = false := by simp; omega
    have h2 : (a.length == b.length) = false := by simpa using h
    rw [h1, h2]
/-! ### Entries -/
def entryOk (e : TEntry) : Bool := bif e.None then (([e.Req.Who, e.Req.Seq] : List Int) == [0, 0]) && sameRun e.Run (TRun.mk [] [] 0 0) else (inR e.Req.Who 0 2 && inR e.Req.Seq 1 1000) && (runOk e.Run && e.Run.Code != 3)
def listOk (l : List TEntry) : Bool := decide (l.length ≤ 40) && l.all entryOk
theorem len_le {α : Type} (l : List α) (n : Nat) : decide ((l.length : Int) ≤ (n : Int)) = decide (l.length ≤ n) := by
  by_cases h : l.length ≤ n
  · have : (l.length : Int) ≤ (n : Int) := by omega
    simp [h, this]
  · have : ¬ (l.length : Int) ≤ (n : Int) := by omega
    simp [h, this]
theorem len_gt_n {α : Type} (l : List α) (n : Nat) : decide ((l.length : Int) > (n : Int)) = !decide (l.length ≤ n) := by
  by_cases h : l.length ≤ n
  · have : ¬ (l.length : Int) > (n : Int) := by omega
    simp [h, this]
  · have : (l.length : Int) > (n : Int) := by omega
    simp [h, this]
end Go.Proofs.Ythegkbaijmkhfaa

/- What there is behind entries: one step on either side, told plainly. -/
namespace Go.Proofs.Ythegkbaijmkhfaa
open Go

/-! ### Boxes -/
theorem len_ne {α : Type} (l : List α) (n : Nat) : ((l.length : Int) != (n : Int)) = !(l.length == n) := by
  unfold bne
  congr 1
  by_cases h : l.length = n
  · simp [h]
  · have h1 : ((l.length : Int) == (n : Int)) = false := by simp; omega
    have h2 : (l.length == n) = false := by simpa using h
    rw [h1, h2]
theorem len_eq {α : Type} (l : List α) (n : Nat) : ((l.length : Int) == (n : Int)) = (l.length == n) := by
  have := len_ne l n
  unfold bne at this
  simpa using this
/-! ### What a run that is right holds -/
theorem okReads_mem {l : List TRead} (h : (List.range l.length).all (okReads l) = true) : ∀ x ∈ l, 0 ≤ x.Box ∧ x.Box ≤ 3 ∧ 0 ≤ x.Ver ∧ x.Ver ≤ 1000000 := by
  intro x hx
  obtain ⟨i, hi, rfl⟩ := List.getElem_of_mem hx
  have := List.all_eq_true.1 h i (by simpa using hi)
  unfold okReads at this
  rw [List.getElem?_eq_getElem hi] at this
  simp [inR] at this
  omega
theorem okPuts_mem {l : List TPut} (h : (List.range l.length).all (okPuts l) = true) : ∀ x ∈ l, 0 ≤ x.Box ∧ x.Box ≤ 3 ∧ -1000000 ≤ x.Val ∧ x.Val ≤ 1000000 := by
  intro x hx
  obtain ⟨i, hi, rfl⟩ := List.getElem_of_mem hx
  have := List.all_eq_true.1 h i (by simpa using hi)
  unfold okPuts at this
  rw [List.getElem?_eq_getElem hi] at this
  simp [inR] at this
  omega
theorem runOk_parts {r : TRun} (h : runOk r = true) : (0 ≤ r.Code ∧ r.Code ≤ 3) ∧ (-1000000 ≤ r.Val ∧ r.Val ≤ 1000000) ∧ (r.Code = 0 ∨ (r.Val = 0 ∧ r.Puts = [])) ∧ (∀ x ∈ r.Reads, 0 ≤ x.Box ∧ x.Box ≤ 3 ∧ 0 ≤ x.Ver ∧ x.Ver ≤ 1000000) ∧ ∀ x ∈ r.Puts, 0 ≤ x.Box ∧ x.Box ≤ 3 ∧ -1000000 ≤ x.Val ∧ x.Val ≤ 1000000 := by
  unfold runOk at h
  simp only [Bool.and_eq_true, Bool.or_eq_true] at h
  obtain ⟨h1, h2, h3, _, h4, h5⟩ := h
  refine ⟨by simpa [inR] using h1, by simpa [inR] using h2, by simpa using h3, okReads_mem h4, okPuts_mem h5⟩

/-! ### Is it as it was -/
/-! ### Puts done -/
def putFine (x : TPut) : Prop := 0 ≤ x.Box ∧ x.Box ≤ 3 ∧ -1000000 ≤ x.Val ∧ x.Val ≤ 1000000
end Go.Proofs.Ythegkbaijmkhfaa

/- What there is behind entries: the last requests, and an entry done on either side. -/
namespace Go.Proofs.Ythegkbaijmkhfaa
open Go

/-! ### The last requests -/
theorem app1_fits {α : Type} {o : List α} {d : α} (h : o.length ≤ 80) : ((o ++ [d]).length + 1) * 32 ≤ 140737488355328 := by
  rw [show (o ++ [d]).length = o.length + 1 from by simp]
  omega
/-! ### An entry done -/
theorem entryOk_some {e : TEntry} (h : entryOk e = true) (hn : e.None = false) : (0 ≤ e.Req.Who ∧ e.Req.Who ≤ 2) ∧ (1 ≤ e.Req.Seq ∧ e.Req.Seq ≤ 1000) ∧ runOk e.Run = true ∧ e.Run.Code ≠ 3 := by
  unfold entryOk at h
  rw [hn] at h
  simp [inR] at h
  exact ⟨h.1.1, h.1.2, h.2.1, h.2.2⟩
/-! ### All entries, one behind the other -/
theorem listOk_parts {l : List TEntry} (h : listOk l = true) : l.length ≤ 40 ∧ l.all entryOk = true := by
  unfold listOk at h
  simpa using h
end Go.Proofs.Ythegkbaijmkhfaa

/- What is drawn: the reader, and a program run on boxes. -/
namespace Go.Proofs.Ythegkbaijmkhfaa
open Go

/-! ### The reader -/
theorem xor_range {x y : Int} (hx : 0 ≤ x) (hx2 : x < 4611686018427387904) (hy : 0 ≤ y) (hy2 : y < 4611686018427387904) : 0 ≤ xorI .i64 x y ∧ xorI .i64 x y < 4611686018427387904 := by
  obtain ⟨a, rfl⟩ : ∃ a : Nat, x = (a : Int) := ⟨x.toNat, by omega⟩
  obtain ⟨b, rfl⟩ : ∃ b : Nat, y = (b : Int) := ⟨y.toNat, by omega⟩
  have hxor : a ^^^ b < 2 ^ 62 := Nat.xor_lt_two_pow (by omega) (by omega)
  have h : xorI .i64 (a : Int) (b : Int) = ((a ^^^ b : Nat) : Int) := by
    unfold xorI
    rw [BitVec.toNat_xor]
    have e1 : (BitVec.ofInt IntKind.i64.bits (a : Int)).toNat = a := by
      show (BitVec.ofInt 64 (a : Int)).toNat = a
      rw [BitVec.toNat_ofInt]
      omega
    have e2 : (BitVec.ofInt IntKind.i64.bits (b : Int)).toNat = b := by
      show (BitVec.ofInt 64 (b : Int)).toNat = b
      rw [BitVec.toNat_ofInt]
      omega
    rw [e1, e2]
    exact IntWalk.i64_in _ ⟨by omega, by omega⟩
  rw [h]
  omega
theorem u8_at {l : List Int} (h : ∀ x ∈ l, okU8 x) {i : Int} (h0 : 0 ≤ i) (h1 : i < l.length) : ∃ y, idx l i = some y ∧ 0 ≤ y ∧ y ≤ 255 := by
  have hlt : i.toNat < l.length := by omega
  refine ⟨l[i.toNat], ?_, h _ (List.getElem_mem hlt)⟩
  unfold idx
  rw [if_pos h0, List.getElem?_eq_getElem hlt]
theorem tmod_range {x n : Int} (hx : 0 ≤ x) (hn : 1 ≤ n) : 0 ≤ Int.tmod x n ∧ Int.tmod x n < n := by
  rw [Int.tmod_eq_emod_of_nonneg hx]
  exact ⟨Int.emod_nonneg _ (by omega), Int.emod_lt_of_pos _ (by omega)⟩
theorem tdiv_range {x n : Int} (hx : 0 ≤ x) (hn : 1 ≤ n) : 0 ≤ Int.tdiv x n ∧ Int.tdiv x n ≤ x := by
  rw [Int.tdiv_eq_ediv_of_nonneg hx]
  exact ⟨Int.ediv_nonneg hx (by omega), Int.ediv_le_self _ hx⟩
/-! ### Programs -/
def insOk (i : TIns) : Bool :=
  bif i.Kind == 1 then inR i.A 0 3 && (inR i.B 0 3 && i.N == 0) else
  bif i.Kind == 2 then inR i.A 0 3 && (inR i.B 0 3 && i.N == 0) else
  bif i.Kind == 3 then inR i.A 0 3 && (i.B == 0 && inR i.N (-1000000) 1000000) else
  bif i.Kind == 4 then inR i.A 0 3 && (inR i.B 0 3 && i.N == 0) else
  bif i.Kind == 5 then inR i.A 0 3 && (inR i.B 0 3 && i.N == 0) else
  bif i.Kind == 6 then inR i.A 0 3 && (inR i.B 0 3 && inR i.N 1 10) else
  bif i.Kind == 7 then i.A == 0 && (i.B == 0 && i.N == 0) else false
def progOk (l : List TIns) : Bool := decide (l.length ≤ 10) && l.all insOk
theorem insOk_parts {i : TIns} (h : insOk i = true) : (i.Kind = 1 ∧ (0 ≤ i.A ∧ i.A ≤ 3) ∧ (0 ≤ i.B ∧ i.B ≤ 3)) ∨ (i.Kind = 2 ∧ (0 ≤ i.A ∧ i.A ≤ 3) ∧ (0 ≤ i.B ∧ i.B ≤ 3)) ∨ (i.Kind = 3 ∧ (0 ≤ i.A ∧ i.A ≤ 3) ∧ (-1000000 ≤ i.N ∧ i.N ≤ 1000000)) ∨
    (i.Kind = 4 ∧ (0 ≤ i.A ∧ i.A ≤ 3) ∧ (0 ≤ i.B ∧ i.B ≤ 3)) ∨ (i.Kind = 5 ∧ (0 ≤ i.A ∧ i.A ≤ 3) ∧ (0 ≤ i.B ∧ i.B ≤ 3)) ∨ (i.Kind = 6 ∧ (0 ≤ i.A ∧ i.A ≤ 3) ∧ (0 ≤ i.B ∧ i.B ≤ 3) ∧ (1 ≤ i.N ∧ i.N ≤ 10)) ∨ (i.Kind = 7 ∧ i.A = 0) := by
  unfold insOk inR at h
  by_cases h1 : i.Kind = 1
  · simp [h1] at h; exact .inl ⟨h1, h.1, h.2.1⟩
  by_cases h2 : i.Kind = 2
  · simp [h2] at h; exact .inr (.inl ⟨h2, h.1, h.2.1⟩)
  by_cases h3 : i.Kind = 3
  · simp [h3] at h; exact .inr (.inr (.inl ⟨h3, h.1, h.2.2⟩))
  by_cases h4 : i.Kind = 4
  · simp [h4] at h; exact .inr (.inr (.inr (.inl ⟨h4, h.1, h.2.1⟩)))
  by_cases h5 : i.Kind = 5
  · simp [h5] at h; exact .inr (.inr (.inr (.inr (.inl ⟨h5, h.1, h.2.1⟩))))
  by_cases h6 : i.Kind = 6
  · simp [h6] at h; exact .inr (.inr (.inr (.inr (.inr (.inl ⟨h6, h.1, h.2.1, h.2.2⟩)))))
  by_cases h7 : i.Kind = 7
  · simp [h7] at h; exact .inr (.inr (.inr (.inr (.inr (.inr ⟨h7, h.1⟩)))))
  · have e1 : (i.Kind == 1) = false := by simpa using h1
    have e2 : (i.Kind == 2) = false := by simpa using h2
    have e3 : (i.Kind == 3) = false := by simpa using h3
    have e4 : (i.Kind == 4) = false := by simpa using h4
    have e5 : (i.Kind == 5) = false := by simpa using h5
    have e6 : (i.Kind == 6) = false := by simpa using h6
    have e7 : (i.Kind == 7) = false := by simpa using h7
    rw [e1, e2, e3, e4, e5, e6, e7] at h
    cases h
end Go.Proofs.Ythegkbaijmkhfaa

/- Marks: lists of plain structs are written full of numbers, and looked at again. -/
namespace Go.Proofs.Ythegkbaijmkhfaa
open Go

section
variable {α : Type} {g : Nat → α → α} {l : List α} {i : Nat}
/-- The first so many are marked. -/
def mk1 (g : Nat → α → α) (i : Nat) (l : List α) : List α := l.mapIdx fun j x => if j < i then g j x else x
theorem mk1_len : (mk1 g i l).length = l.length := by simp [mk1]
theorem mk1_zero : mk1 g 0 l = l := by
  apply List.ext_getElem
  · simp [mk1]
  · intro n h1 h2; simp [mk1]
theorem mk1_idx (h : i < l.length) : idx (mk1 g i l) (i : Int) = some l[i] := by
  rw [idx_lt (by rw [mk1_len]; exact h)]
  simp [mk1]
theorem mk1_set (h : i < l.length) : (mk1 g i l).set i (g i l[i]) = mk1 g (i + 1) l := by
  apply List.ext_getElem
  · simp [mk1]
  · intro n h1 h2
    rw [List.getElem_set]
    simp only [mk1, List.getElem_mapIdx]
    by_cases q : i = n
    · subst q; simp
    · simp only [q, if_false]
      by_cases c : n < i
      · rw [if_pos c, if_pos (by omega)]
      · rw [if_neg c, if_neg (by omega)]
theorem mk1_get (h : i < l.length) {n : Nat} (hn : i < n) : idx (mk1 g n l) (i : Int) = some (g i l[i]) := by
  rw [idx_lt (by rw [mk1_len]; exact h)]
  simp [mk1, hn]
theorem idx_set {x : α} (h : i < l.length) : idx (l.set i x) (i : Int) = some x := by
  rw [idx_lt (by simpa using h)]
  simp
end
theorem toNat_nat (k : Nat) : ((k : Nat) : Int).toNat = k := by simp

def markInt (k : Int) (j : Nat) (_ : Int) : Int := (k + (j : Int))
def markRead (k : Int) (j : Nat) (_ : TRead) : TRead := ⟨(k + 2 * (j : Int)), (k + 2 * (j : Int)) + 1⟩
theorem markReadS_eq {l : List TRead} {k : Int} (h : Fits l) (h1 : 0 ≤ k) (h2 : k ≤ 1000000000000000000) : laws_markReadS l k = some (k + 2 * (l.length : Int), mk1 (markRead k) l.length l) := by
  have hl := h
  unfold Fits at hl
  unfold laws_markReadS
  have hloop := loop_to (body := fun s : (List TRead) × Int × Int => laws_markReadS_b1 s.1 s.2.1 s.2.2) (fun j => (mk1 (markRead k) j l, k + 2 * (j : Int), (j : Int))) l.length (by
    intro j hj
    unfold laws_markReadS_b1
    have hjl : j < (mk1 (markRead k) j l).length := by rw [mk1_len]; exact hj
    simp only [lt_len _ j hjl, cond_true, mk1_idx hj, Option.bind_some, toNat_nat]
    rw [idx_set hjl, Option.bind_some]
    rw [w64_next h hj]
    rw [w64_in (n := k + 2 * (j : Int) + 1) (by omega) (by omega)]
    rw [w64_in (n := k + 2 * (j : Int) + 1 + 1) (by omega) (by omega)]
    simp only [List.set_set]
    have e := mk1_set (g := markRead k) hj
    rw [← e]
    have e2 : k + 2 * (j : Int) + 1 + 1 = k + 2 * ((j + 1 : Nat) : Int) := by omega
    have e3 : markRead k j l[j] = ⟨k + 2 * (j : Int), k + 2 * (j : Int) + 1⟩ := by unfold markRead; congr 1 <;> omega
    rw [e2, e3])
  rw [mk1_zero] at hloop
  simp only [Int.ofNat_zero, Int.mul_zero, Int.add_zero, Int.natCast_zero] at hloop
  rw [hloop, loop_brk (b := (mk1 (markRead k) l.length l, k + 2 * (l.length : Int)))]
  · rfl
  · unfold laws_markReadS_b1
    simp only [mk1_len, nlt_len]
    rfl
theorem eqReadS_same {l : List TRead} (h : Fits l) : laws_eqReadS l l = some true := by
  unfold laws_eqReadS
  rw [bne_self_eq_false, cond_false, all_loop l h (fun _ => true) false ()]
  · rw [show l.all (fun _ => true) = true from by simp]; rfl
  · intro k hk
    unfold laws_eqReadS_b1 laws_eqRead
    rw [lt_len l k hk, idx_lt hk]
    simp [bne_self_eq_false]
  · unfold laws_eqReadS_b1
    rw [nlt_len]; rfl
def markPut (k : Int) (j : Nat) (_ : TPut) : TPut := ⟨(k + 2 * (j : Int)), (k + 2 * (j : Int)) + 1⟩
theorem markPutS_eq {l : List TPut} {k : Int} (h : Fits l) (h1 : 0 ≤ k) (h2 : k ≤ 1000000000000000000) : laws_markPutS l k = some (k + 2 * (l.length : Int), mk1 (markPut k) l.length l) := by
  have hl := h
  unfold Fits at hl
  unfold laws_markPutS
  have hloop := loop_to (body := fun s : (List TPut) × Int × Int => laws_markPutS_b1 s.1 s.2.1 s.2.2) (fun j => (mk1 (markPut k) j l, k + 2 * (j : Int), (j : Int))) l.length (by
    intro j hj
    unfold laws_markPutS_b1
    have hjl : j < (mk1 (markPut k) j l).length := by rw [mk1_len]; exact hj
    simp only [lt_len _ j hjl, cond_true, mk1_idx hj, Option.bind_some, toNat_nat]
    rw [idx_set hjl, Option.bind_some]
    rw [w64_next h hj]
    rw [w64_in (n := k + 2 * (j : Int) + 1) (by omega) (by omega)]
    rw [w64_in (n := k + 2 * (j : Int) + 1 + 1) (by omega) (by omega)]
    simp only [List.set_set]
    have e := mk1_set (g := markPut k) hj
    rw [← e]
    have e2 : k + 2 * (j : Int) + 1 + 1 = k + 2 * ((j + 1 : Nat) : Int) := by omega
    have e3 : markPut k j l[j] = ⟨k + 2 * (j : Int), k + 2 * (j : Int) + 1⟩ := by unfold markPut; congr 1 <;> omega
    rw [e2, e3])
  rw [mk1_zero] at hloop
  simp only [Int.ofNat_zero, Int.mul_zero, Int.add_zero, Int.natCast_zero] at hloop
  rw [hloop, loop_brk (b := (mk1 (markPut k) l.length l, k + 2 * (l.length : Int)))]
  · rfl
  · unfold laws_markPutS_b1
    simp only [mk1_len, nlt_len]
    rfl
theorem eqPutS_same {l : List TPut} (h : Fits l) : laws_eqPutS l l = some true := by
  unfold laws_eqPutS
  rw [bne_self_eq_false, cond_false, all_loop l h (fun _ => true) false ()]
  · rw [show l.all (fun _ => true) = true from by simp]; rfl
  · intro k hk
    unfold laws_eqPutS_b1 laws_eqPut
    rw [lt_len l k hk, idx_lt hk]
    simp [bne_self_eq_false]
  · unfold laws_eqPutS_b1
    rw [nlt_len]; rfl
def markReq (k : Int) (j : Nat) (_ : TReq) : TReq := ⟨(k + 2 * (j : Int)), (k + 2 * (j : Int)) + 1⟩
def markIns (k : Int) (j : Nat) (_ : TIns) : TIns := ⟨(k + 4 * (j : Int)), (k + 4 * (j : Int)) + 1, (k + 4 * (j : Int)) + 2, (k + 4 * (j : Int)) + 3⟩
theorem markInsS_eq {l : List TIns} {k : Int} (h : Fits l) (h1 : 0 ≤ k) (h2 : k ≤ 1000000000000000000) : laws_markInsS l k = some (k + 4 * (l.length : Int), mk1 (markIns k) l.length l) := by
  have hl := h
  unfold Fits at hl
  unfold laws_markInsS
  have hloop := loop_to (body := fun s : (List TIns) × Int × Int => laws_markInsS_b1 s.1 s.2.1 s.2.2) (fun j => (mk1 (markIns k) j l, k + 4 * (j : Int), (j : Int))) l.length (by
    intro j hj
    unfold laws_markInsS_b1
    have hjl : j < (mk1 (markIns k) j l).length := by rw [mk1_len]; exact hj
    simp only [lt_len _ j hjl, cond_true, mk1_idx hj, Option.bind_some, toNat_nat]
    rw [idx_set hjl, Option.bind_some]
    rw [List.set_set, idx_set hjl, Option.bind_some]
    rw [List.set_set, idx_set hjl, Option.bind_some]
    rw [w64_next h hj]
    rw [w64_in (n := k + 4 * (j : Int) + 1) (by omega) (by omega)]
    rw [w64_in (n := k + 4 * (j : Int) + 1 + 1) (by omega) (by omega)]
    rw [w64_in (n := k + 4 * (j : Int) + 1 + 1 + 1) (by omega) (by omega)]
    rw [w64_in (n := k + 4 * (j : Int) + 1 + 1 + 1 + 1) (by omega) (by omega)]
    simp only [List.set_set]
    have e := mk1_set (g := markIns k) hj
    rw [← e]
    have e2 : k + 4 * (j : Int) + 1 + 1 + 1 + 1 = k + 4 * ((j + 1 : Nat) : Int) := by omega
    have e3 : markIns k j l[j] = ⟨k + 4 * (j : Int), k + 4 * (j : Int) + 1, k + 4 * (j : Int) + 1 + 1, k + 4 * (j : Int) + 1 + 1 + 1⟩ := by unfold markIns; congr 1 <;> omega
    rw [e2, e3])
  rw [mk1_zero] at hloop
  simp only [Int.ofNat_zero, Int.mul_zero, Int.add_zero, Int.natCast_zero] at hloop
  rw [hloop, loop_brk (b := (mk1 (markIns k) l.length l, k + 4 * (l.length : Int)))]
  · rfl
  · unfold laws_markInsS_b1
    simp only [mk1_len, nlt_len]
    rfl
theorem heldInsS_eq {l : List TIns} {k : Int} (h : Fits l) (h1 : 0 ≤ k) (h2 : k ≤ 1000000000000000000) : laws_heldInsS (mk1 (markIns k) l.length l) k = some (k + 4 * (l.length : Int)) := by
  have hl := h
  unfold Fits at hl
  unfold laws_heldInsS
  have hloop := loop_to (body := fun s : Int × Int => laws_heldInsS_b1 (mk1 (markIns k) l.length l) s.1 s.2) (fun j => (k + 4 * (j : Int), (j : Int))) l.length (by
    intro j hj
    unfold laws_heldInsS_b1
    have hjl : j < (mk1 (markIns k) l.length l).length := by rw [mk1_len]; exact hj
    have e3 : markIns k j l[j] = ⟨k + 4 * (j : Int), k + 4 * (j : Int) + 1, k + 4 * (j : Int) + 1 + 1, k + 4 * (j : Int) + 1 + 1 + 1⟩ := by unfold markIns; congr 1 <;> omega
    simp only [lt_len _ j hjl, cond_true, mk1_get hj hj, Option.bind_some, e3]
    rw [w64_next h hj]
    rw [w64_in (n := k + 4 * (j : Int) + 1) (by omega) (by omega)]
    rw [w64_in (n := k + 4 * (j : Int) + 1 + 1) (by omega) (by omega)]
    rw [w64_in (n := k + 4 * (j : Int) + 1 + 1 + 1) (by omega) (by omega)]
    rw [w64_in (n := k + 4 * (j : Int) + 1 + 1 + 1 + 1) (by omega) (by omega)]
    simp only [bne_self_eq_false, cond_false]
    have e2 : k + 4 * (j : Int) + 1 + 1 + 1 + 1 = k + 4 * ((j + 1 : Nat) : Int) := by omega
    rw [e2])
  simp only [Int.ofNat_zero, Int.mul_zero, Int.add_zero, Int.natCast_zero] at hloop
  rw [hloop, loop_brk (b := k + 4 * (l.length : Int))]
  · rfl
  · unfold laws_heldInsS_b1
    simp only [mk1_len, nlt_len]
    rfl
theorem eqInsS_same {l : List TIns} (h : Fits l) : laws_eqInsS l l = some true := by
  unfold laws_eqInsS
  rw [bne_self_eq_false, cond_false, all_loop l h (fun _ => true) false ()]
  · rw [show l.all (fun _ => true) = true from by simp]; rfl
  · intro k hk
    unfold laws_eqInsS_b1 laws_eqIns
    rw [lt_len l k hk, idx_lt hk]
    simp [bne_self_eq_false]
  · unfold laws_eqInsS_b1
    rw [nlt_len]; rfl

/-! ### Entries: how many there are in all -/
def wE (e : TEntry) : Nat := e.Run.Reads.length + e.Run.Puts.length
def wEs (l : List TEntry) : Nat := (l.map wE).sum
theorem szRun_le {x : TRun} {n v : Int} (hf : fRun x) (h0 : 0 ≤ n) (hn : n ≤ 1048576) (h : laws_szRun x n = some v) (hv : 0 ≤ v) : ((x.Reads.length + x.Puts.length : Nat) : Int) + v ≤ n := by
  have f1 : Fits x.Reads := hf.1.fits (by decide)
  have f2 : Fits x.Puts := hf.2.1.fits (by decide)
  unfold Fits at f1 f2
  unfold laws_szRun laws_szReadS at h
  rw [w64_in (by omega) (by omega)] at h
  by_cases q1 : n - (x.Reads.length : Int) < 0
  · simp only [q1, decide_true, cond_true, Option.bind_some] at h
    injection h with h
    omega
  · simp only [q1, decide_false, cond_false, Option.bind_some] at h
    unfold laws_szPutS at h
    rw [w64_in (by omega) (by omega)] at h
    by_cases q2 : n - (x.Reads.length : Int) - (x.Puts.length : Int) < 0
    · simp only [q2, decide_true, cond_true, Option.bind_some] at h
      injection h with h
      omega
    · simp only [q2, decide_false, cond_false, Option.bind_some] at h
      injection h with h
      omega
theorem szEntry_le {x : TEntry} {n v : Int} (hf : fEntry x) (h0 : 0 ≤ n) (hn : n ≤ 1048576) (h : laws_szEntry x n = some v) (hv : 0 ≤ v) : (wE x : Int) + v ≤ n := by
  unfold laws_szEntry at h
  obtain ⟨u, hu⟩ := szRun_tot x.Run n
  rw [hu, Option.bind_some] at h
  by_cases q : u < 0
  · simp only [q, decide_true, cond_true] at h
    injection h with h
    omega
  · simp only [q, decide_false, cond_false] at h
    injection h with h
    subst h
    exact szRun_le hf.2 h0 hn hu hv
theorem wEs_cons (x : TEntry) (l : List TEntry) : wEs (x :: l) = wE x + wEs l := by simp [wEs]
theorem wEs_take {l : List TEntry} {i : Nat} (h : i < l.length) : wEs (l.take (i + 1)) = wEs (l.take i) + wE l[i] := by
  unfold wEs
  rw [List.take_succ_eq_append_getElem h, List.map_append, List.sum_append]
  simp
theorem szEntryS_le {l : List TEntry} {n v : Int} (hf : okL 88 fEntry l) (h0 : 0 ≤ n) (hn : n ≤ 1048576) (h : laws_szEntryS l n = some v) (hv : 0 ≤ v) : (l.length : Int) + (wEs l : Int) + v ≤ n := by
  have hl : Fits l := hf.fits (by decide)
  have hl' := hl
  unfold Fits at hl'
  unfold laws_szEntryS at h
  rw [w64_in (by omega) (by omega)] at h
  by_cases q : n - (l.length : Int) < 0
  · simp only [q, decide_true, cond_true] at h
    injection h with h
    omega
  · simp only [q, decide_false, cond_false] at h
    cases hx : loop (fun s : Int × Int => laws_szEntryS_b1 l s.1 s.2) (n - (l.length : Int), 0) with
    | none => rw [hx] at h; cases h
    | some x =>
      rw [hx, Option.bind_some] at h
      have key := loopD (I := fun s : Int × Int => ∀ j : Nat, s.2 = (j : Int) → j ≤ l.length → 0 ≤ s.1 → s.1 ≤ 1048576 → (∀ b, x = .brk b → (wEs (l.drop j) : Int) + b ≤ s.1) ∧ (∀ b, x = .ret b → b < 0)) hx (by
        intro s st hst hc j hj hjl hs0 hs1
        unfold laws_szEntryS_b1 at hst
        rw [hj] at hst
        by_cases hlt : j < l.length
        · rw [lt_len l j hlt, idx_lt hlt] at hst
          simp only [cond_true, Option.bind_some] at hst
          obtain ⟨u, hu⟩ := szEntry_tot l[j] s.1
          rw [hu, Option.bind_some] at hst
          by_cases q2 : u < 0
          · simp only [q2, decide_true, cond_true] at hst
            injection hst with hst
            subst hst
            have : x = .ret (-1) := hc
            subst this
            exact ⟨fun b hb => (by cases hb), fun b hb => (by injection hb with hb; omega)⟩
          · simp only [q2, decide_false, cond_false] at hst
            injection hst with hst
            subst hst
            have hle := szEntry_le (hf.2 _ (List.getElem_mem hlt)) hs0 hs1 hu (by omega)
            have := hc (j + 1) (w64_next hl hlt) (by omega) (by show 0 ≤ u; omega) (by show u ≤ 1048576; omega)
            refine ⟨fun b hb => ?_, this.2⟩
            have h1 := this.1 b hb
            rw [List.drop_eq_getElem_cons hlt, wEs_cons]
            have h1' : (wEs (l.drop (j + 1)) : Int) + b ≤ u := h1
            omega
        · have : j = l.length := by omega
          subst this
          rw [nlt_len] at hst
          injection hst with hst
          subst hst
          have : x = .brk s.1 := hc
          subst this
          refine ⟨fun b hb => ?_, fun b hb => (by cases hb)⟩
          injection hb with hb
          subst hb
          rw [List.drop_length]
          simp [wEs]) 0 rfl (by omega) (by show 0 ≤ n - (l.length : Int); omega) (by show n - (l.length : Int) ≤ 1048576; omega)
      cases x with
      | ret r =>
        injection h with h
        subst h
        have := key.2 r rfl
        omega
      | brk b =>
        injection h with h
        subst h
        have := key.1 b rfl
        rw [List.drop_zero] at this
        have h2 : (wEs l : Int) + b ≤ n - (l.length : Int) := this
        omega
/-- All entries are marked. -/
theorem markEntryS_tot {l : List TEntry} {k : Int} (hf : okL 88 fEntry l) (h0 : 0 ≤ k) (h1 : k ≤ 1048576) (hw : l.length + wEs l ≤ 1048576) : ∃ m l', laws_markEntryS l k = some (m, l') ∧ l'.length = l.length ∧ 0 ≤ m ∧ m ≤ 10000000 := by
  have hl : Fits l := hf.fits (by decide)
  have hle : ∀ i, i ≤ l.length → wEs (l.take i) ≤ wEs l := by
    intro i hi
    have : wEs l = wEs (l.take i) + wEs (l.drop i) := by
      unfold wEs
      rw [← List.sum_append, ← List.map_append, List.take_append_drop]
    omega
  unfold laws_markEntryS
  obtain ⟨x, hx, hq⟩ := loop_inv (body := fun s : (List TEntry) × Int × Int => laws_markEntryS_b1 s.1 s.2.1 s.2.2)
    (fun m s => ∃ i : Nat, s.2.2 = (i : Int) ∧ i + m = l.length ∧ s.2.1 = k + 5 * (i : Int) + 2 * (wEs (l.take i) : Int) ∧ s.1.length = l.length ∧ ∀ j, i ≤ j → s.1[j]? = l[j]?)
    (fun x => ∃ b, x = .brk b ∧ b.1.length = l.length ∧ 0 ≤ b.2 ∧ b.2 ≤ 10000000) (fun m s ⟨i, hi, hm, hk, hsl, hs⟩ => by
    obtain ⟨a, kk, ii⟩ := s
    simp only at hi hk hsl hs
    subst hi
    unfold laws_markEntryS_b1
    have hwi := hle i (by omega)
    by_cases hlt : i < l.length
    · have hla : i < a.length := by omega
      have hai : a[i] = l[i] := by
        have := hs i (Nat.le_refl _)
        rw [List.getElem?_eq_getElem hla, List.getElem?_eq_getElem hlt] at this
        exact Option.some.inj this
      have hwi2 := hle (i + 1) (by omega)
      rw [wEs_take hlt] at hwi2
      have hfe := hf.2 _ (List.getElem_mem hlt)
      have f1 : Fits l[i].Run.Reads := hfe.2.1.fits (by decide)
      have f2 : Fits l[i].Run.Puts := hfe.2.2.1.fits (by decide)
      have e1 : w64 (kk + 1) = kk + 1 := w64_in (by omega) (by omega)
      have e2 : w64 (kk + 1 + 1) = kk + 1 + 1 := w64_in (by omega) (by omega)
      have e3 : w64 (kk + 1 + 1 + 1) = kk + 1 + 1 + 1 := w64_in (by omega) (by omega)
      unfold wE at hwi2
      simp only [lt_len _ i hla, cond_true, idx_lt hla, hai, Option.bind_some, toNat_nat, idx_set hla, List.set_set, e1, e2, e3]
      rw [markReadS_eq f1 (by omega) (by omega), Option.bind_some]
      simp only [mk1_len]
      rw [need_pos trivial, markPutS_eq f2 (by omega) (by omega), Option.bind_some]
      simp only [mk1_len]
      rw [need_pos trivial]
      refine ⟨_, rfl, m - 1, by omega, i + 1, w64_next hl hlt, by omega, ?_, by simpa using hsl, ?_⟩
      · show w64 (w64 (kk + 1 + 1 + 1 + 2 * (l[i].Run.Reads.length : Int) + 2 * (l[i].Run.Puts.length : Int) + 1) + 1) = _
        rw [w64_in (n := kk + 1 + 1 + 1 + 2 * (l[i].Run.Reads.length : Int) + 2 * (l[i].Run.Puts.length : Int) + 1) (by omega) (by omega), w64_in (by omega) (by omega), wEs_take hlt]
        unfold wE
        omega
      · intro j hj
        show (a.set i _)[j]? = _
        rw [List.getElem?_set_ne (by omega)]
        exact hs j (by omega)
    · have hil : i = l.length := by omega
      have : decide ((i : Int) < (a.length : Int)) = false := by simp; omega
      rw [this]
      refine ⟨_, rfl, _, rfl, hsl, ?_, ?_⟩ <;> (show _ ≤ _; simp only; omega)) (k := l.length) (s := (l, k, 0)) ⟨0, rfl, by omega, by simp [wEs], rfl, fun _ _ => rfl⟩
  obtain ⟨b, rfl, h3, h4, h5⟩ := hq
  rw [hx, Option.bind_some]
  exact ⟨b.2, b.1, rfl, h3, h4, h5⟩
end Go.Proofs.Ythegkbaijmkhfaa

/- Plain laws: copies, sizes and sameness of votes, nodes, messages and worlds. -/
namespace Go.Proofs.Ythegkbaijmkhfaa
open Go
theorem okEntries.s {l : List TEntry} (h : okL 88 okEntry l) : okL 88 fEntry l := h.imp fun _ x => x.f

theorem toVote_eq {x : TVote} (h : okVote x) : laws_toVote x = some x := by
  unfold laws_toVote
  simp only [toEntry_eq (okEntry.f h.2), Option.bind_some]
theorem szVote_tot {x : TVote} (h : okVote x) (n : Int) : ∃ v, laws_szVote x n = some v := by
  unfold laws_szVote
  obtain ⟨v0, e0⟩ := szEntry_tot _ n
  rw [e0, Option.bind_some]
  cases decide (v0 < 0)
  case true => exact ⟨_, rfl⟩
  rw [cond_false]
  exact ⟨_, rfl⟩
theorem eqVote_self {x : TVote} (h : okVote x) : laws_eqVote x x = some true := by
  unfold laws_eqVote
  simp [eqEntry_self (okEntry.f h.2)]
theorem toVoteS_eq {l : List TVote} (h : okL 96 okVote l) : laws_toVoteS l = some l := by
  have hf : Fits l := h.fits (by decide)
  have hb := h.1
  unfold laws_toVoteS need
  rw [if_pos (by constructor <;> omega), Int.toNat_natCast, copy_loop l hf _ id]
  · rfl
  · intro k hk out ho
    unfold laws_toVoteS_b1
    rw [lt_len l k hk]
    simp [idx_lt hk, idx_lt (ho ▸ hk), Option.bind, toVote_eq (h.2 _ (List.getElem_mem hk))]
  · unfold laws_toVoteS_b1
    rw [nlt_len]
    rfl
theorem szVoteS_tot {l : List TVote} (h : okL 96 okVote l) (n : Int) : ∃ v, laws_szVoteS l n = some v := by
  have hf : Fits l := h.fits (by decide)
  unfold laws_szVoteS
  cases decide (w64 (n - ↑l.length) < 0)
  · simp only [cond_false]
    obtain ⟨x, hx, _⟩ := loop_inv (body := fun s : Int × Int => laws_szVoteS_b1 l s.1 s.2) (fun k s => ∃ j : Nat, s.2 = (j : Int) ∧ j + k = l.length) (fun _ => True) (fun k s ⟨j, hj, hk⟩ => by
      unfold laws_szVoteS_b1
      rw [hj]
      by_cases hlt : j < l.length
      · rw [lt_len l j hlt, idx_lt hlt]
        obtain ⟨v, hv⟩ := szVote_tot (h.2 _ (List.getElem_mem hlt)) s.1
        simp only [cond_true, Option.bind_some, hv]
        cases decide (v < 0)
        · exact ⟨_, rfl, k - 1, by omega, j + 1, w64_next hf hlt, by omega⟩
        · exact ⟨_, rfl, trivial⟩
      · have : j = l.length := by omega
        subst this
        rw [nlt_len]
        exact ⟨_, rfl, trivial⟩) (k := l.length) (s := (w64 (n - ↑l.length), 0)) ⟨0, rfl, by omega⟩
    rw [hx, Option.bind_some]
    cases x with
    | ret r => exact ⟨_, rfl⟩
    | brk b => exact ⟨_, rfl⟩
  · exact ⟨_, rfl⟩
theorem eqVoteS_self {l : List TVote} (h : okL 96 okVote l) : laws_eqVoteS l l = some true := by
  unfold laws_eqVoteS
  rw [bne_self_eq_false, cond_false, all_loop l (h.fits (by decide)) (fun _ => true) false ()]
  · rw [show l.all (fun _ => true) = true from by simp]; rfl
  · intro k hk
    unfold laws_eqVoteS_b1
    rw [lt_len l k hk, idx_lt hk]
    simp [bne_self_eq_false, eqVote_self (h.2 _ (List.getElem_mem hk))]
  · unfold laws_eqVoteS_b1
    rw [nlt_len]; rfl
theorem toAcc_eq {x : TAcc} (h : okAcc x) : laws_toAcc x = some x := by
  unfold laws_toAcc
  simp only [toVoteS_eq h.2, Option.bind_some]
theorem szAcc_tot {x : TAcc} (h : okAcc x) (n : Int) : ∃ v, laws_szAcc x n = some v := by
  unfold laws_szAcc
  obtain ⟨v0, e0⟩ := szVoteS_tot h.2 n
  rw [e0, Option.bind_some]
  cases decide (v0 < 0)
  case true => exact ⟨_, rfl⟩
  rw [cond_false]
  exact ⟨_, rfl⟩
theorem eqAcc_self {x : TAcc} (h : okAcc x) : laws_eqAcc x x = some true := by
  unfold laws_eqAcc
  simp [eqVoteS_self h.2]
theorem toBoolS_eq {l : List Bool} (h : okL 1 okT l) : laws_toBoolS l = some l := by
  have hf : Fits l := h.fits (by decide)
  have hb := h.1
  unfold laws_toBoolS need
  rw [if_pos (by constructor <;> omega), Int.toNat_natCast, copy_loop l hf _ id]
  · rfl
  · intro k hk out ho
    unfold laws_toBoolS_b1
    rw [lt_len l k hk]
    simp [idx_lt hk, idx_lt (ho ▸ hk), Option.bind]
  · unfold laws_toBoolS_b1
    rw [nlt_len]
    rfl
theorem szBoolS_tot {l : List Bool} (h : okL 1 okT l) (n : Int) : ∃ v, laws_szBoolS l n = some v := by
  unfold laws_szBoolS
  first
    | exact ⟨_, rfl⟩
    | (cases decide (w64 (n - (l.length : Int)) < 0) <;> exact ⟨_, rfl⟩)
theorem eqBoolS_self {l : List Bool} (h : okL 1 okT l) : laws_eqBoolS l l = some true := by
  unfold laws_eqBoolS
  rw [bne_self_eq_false, cond_false, all_loop l (h.fits (by decide)) (fun _ => true) false ()]
  · rw [show l.all (fun _ => true) = true from by simp]; rfl
  · intro k hk
    unfold laws_eqBoolS_b1
    rw [lt_len l k hk, idx_lt hk]
    simp [bne_self_eq_false]
  · unfold laws_eqBoolS_b1
    rw [nlt_len]; rfl
theorem toInsS_eq {l : List TIns} (h : okL 32 okIns l) : laws_toInsS l = some l := by
  have hf : Fits l := h.fits (by decide)
  have hb := h.1
  unfold laws_toInsS need
  rw [if_pos (by constructor <;> omega), Int.toNat_natCast, copy_loop l hf _ id]
  · rfl
  · intro k hk out ho
    unfold laws_toInsS_b1 laws_toIns
    rw [lt_len l k hk]
    simp [idx_lt hk, idx_lt (ho ▸ hk), Option.bind]
  · unfold laws_toInsS_b1
    rw [nlt_len]
    rfl
theorem szInsS_tot {l : List TIns} (h : okL 32 okIns l) (n : Int) : ∃ v, laws_szInsS l n = some v := by
  unfold laws_szInsS
  first
    | exact ⟨_, rfl⟩
    | (cases decide (w64 (n - (l.length : Int)) < 0) <;> exact ⟨_, rfl⟩)
theorem eqInsS_self {l : List TIns} (h : okL 32 okIns l) : laws_eqInsS l l = some true := by
  unfold laws_eqInsS
  rw [bne_self_eq_false, cond_false, all_loop l (h.fits (by decide)) (fun _ => true) false ()]
  · rw [show l.all (fun _ => true) = true from by simp]; rfl
  · intro k hk
    unfold laws_eqInsS_b1 laws_eqIns
    rw [lt_len l k hk, idx_lt hk]
    simp [bne_self_eq_false]
  · unfold laws_eqInsS_b1
    rw [nlt_len]; rfl
theorem toNode_eq {x : TNode} (h : okNode x) : laws_toNode x = some x := by
  unfold laws_toNode
  simp only [toAcc_eq h.2.1, toEntryS_eq (okEntries.s h.2.2.1), toBoolS_eq h.2.2.2.2.2.2.1, toVoteS_eq h.2.2.2.2.2.2.2.1, toEntry_eq (okEntry.f h.2.2.2.2.2.2.2.2.1), toBoolS_eq h.2.2.2.2.2.2.2.2.2.1, toInsS_eq h.2.2.2.2.2.2.2.2.2.2.1, toEntry_eq (okEntry.f h.2.2.2.2.2.2.2.2.2.2.2.1), toEntryS_eq (okEntries.s h.2.2.2.2.2.2.2.2.2.2.2.2), Option.bind_some]
theorem szNode_tot {x : TNode} (h : okNode x) (n : Int) : ∃ v, laws_szNode x n = some v := by
  unfold laws_szNode
  obtain ⟨v0, e0⟩ := szAcc_tot h.2.1 n
  rw [e0, Option.bind_some]
  cases decide (v0 < 0)
  case true => exact ⟨_, rfl⟩
  rw [cond_false]
  obtain ⟨v1, e1⟩ := szEntryS_tot (okL.fits h.2.2.1 (by decide)) v0
  rw [e1, Option.bind_some]
  cases decide (v1 < 0)
  case true => exact ⟨_, rfl⟩
  rw [cond_false]
  obtain ⟨v2, e2⟩ := szBoolS_tot h.2.2.2.2.2.2.1 v1
  rw [e2, Option.bind_some]
  cases decide (v2 < 0)
  case true => exact ⟨_, rfl⟩
  rw [cond_false]
  obtain ⟨v3, e3⟩ := szVoteS_tot h.2.2.2.2.2.2.2.1 v2
  rw [e3, Option.bind_some]
  cases decide (v3 < 0)
  case true => exact ⟨_, rfl⟩
  rw [cond_false]
  obtain ⟨v4, e4⟩ := szEntry_tot _ v3
  rw [e4, Option.bind_some]
  cases decide (v4 < 0)
  case true => exact ⟨_, rfl⟩
  rw [cond_false]
  obtain ⟨v5, e5⟩ := szBoolS_tot h.2.2.2.2.2.2.2.2.2.1 v4
  rw [e5, Option.bind_some]
  cases decide (v5 < 0)
  case true => exact ⟨_, rfl⟩
  rw [cond_false]
  obtain ⟨v6, e6⟩ := szInsS_tot h.2.2.2.2.2.2.2.2.2.2.1 v5
  rw [e6, Option.bind_some]
  cases decide (v6 < 0)
  case true => exact ⟨_, rfl⟩
  rw [cond_false]
  obtain ⟨v7, e7⟩ := szEntry_tot _ v6
  rw [e7, Option.bind_some]
  cases decide (v7 < 0)
  case true => exact ⟨_, rfl⟩
  rw [cond_false]
  obtain ⟨v8, e8⟩ := szEntryS_tot (okL.fits h.2.2.2.2.2.2.2.2.2.2.2.2 (by decide)) v7
  rw [e8, Option.bind_some]
  cases decide (v8 < 0)
  case true => exact ⟨_, rfl⟩
  rw [cond_false]
  exact ⟨_, rfl⟩
theorem eqNode_self {x : TNode} (h : okNode x) : laws_eqNode x x = some true := by
  unfold laws_eqNode
  simp [eqAcc_self h.2.1, eqEntryS_self (okEntries.s h.2.2.1), eqBoolS_self h.2.2.2.2.2.2.1, eqVoteS_self h.2.2.2.2.2.2.2.1, eqEntry_self (okEntry.f h.2.2.2.2.2.2.2.2.1), eqBoolS_self h.2.2.2.2.2.2.2.2.2.1, eqInsS_self h.2.2.2.2.2.2.2.2.2.2.1, eqEntry_self (okEntry.f h.2.2.2.2.2.2.2.2.2.2.2.1), eqEntryS_self (okEntries.s h.2.2.2.2.2.2.2.2.2.2.2.2)]
theorem toNodeS_eq {l : List TNode} (h : okL 392 okNode l) : laws_toNodeS l = some l := by
  have hf : Fits l := h.fits (by decide)
  have hb := h.1
  unfold laws_toNodeS need
  rw [if_pos (by constructor <;> omega), Int.toNat_natCast, copy_loop l hf _ id]
  · rfl
  · intro k hk out ho
    unfold laws_toNodeS_b1
    rw [lt_len l k hk]
    simp [idx_lt hk, idx_lt (ho ▸ hk), Option.bind, toNode_eq (h.2 _ (List.getElem_mem hk))]
  · unfold laws_toNodeS_b1
    rw [nlt_len]
    rfl
theorem szNodeS_tot {l : List TNode} (h : okL 392 okNode l) (n : Int) : ∃ v, laws_szNodeS l n = some v := by
  have hf : Fits l := h.fits (by decide)
  unfold laws_szNodeS
  cases decide (w64 (n - ↑l.length) < 0)
  · simp only [cond_false]
    obtain ⟨x, hx, _⟩ := loop_inv (body := fun s : Int × Int => laws_szNodeS_b1 l s.1 s.2) (fun k s => ∃ j : Nat, s.2 = (j : Int) ∧ j + k = l.length) (fun _ => True) (fun k s ⟨j, hj, hk⟩ => by
      unfold laws_szNodeS_b1
      rw [hj]
      by_cases hlt : j < l.length
      · rw [lt_len l j hlt, idx_lt hlt]
        obtain ⟨v, hv⟩ := szNode_tot (h.2 _ (List.getElem_mem hlt)) s.1
        simp only [cond_true, Option.bind_some, hv]
        cases decide (v < 0)
        · exact ⟨_, rfl, k - 1, by omega, j + 1, w64_next hf hlt, by omega⟩
        · exact ⟨_, rfl, trivial⟩
      · have : j = l.length := by omega
        subst this
        rw [nlt_len]
        exact ⟨_, rfl, trivial⟩) (k := l.length) (s := (w64 (n - ↑l.length), 0)) ⟨0, rfl, by omega⟩
    rw [hx, Option.bind_some]
    cases x with
    | ret r => exact ⟨_, rfl⟩
    | brk b => exact ⟨_, rfl⟩
  · exact ⟨_, rfl⟩
theorem eqNodeS_self {l : List TNode} (h : okL 392 okNode l) : laws_eqNodeS l l = some true := by
  unfold laws_eqNodeS
  rw [bne_self_eq_false, cond_false, all_loop l (h.fits (by decide)) (fun _ => true) false ()]
  · rw [show l.all (fun _ => true) = true from by simp]; rfl
  · intro k hk
    unfold laws_eqNodeS_b1
    rw [lt_len l k hk, idx_lt hk]
    simp [bne_self_eq_false, eqNode_self (h.2 _ (List.getElem_mem hk))]
  · unfold laws_eqNodeS_b1
    rw [nlt_len]; rfl
theorem toMsg_eq {x : TMsg} (h : okMsg x) : laws_toMsg x = some x := by
  unfold laws_toMsg
  simp only [toEntry_eq (okEntry.f h.2.2.2.2.2.1), toVoteS_eq h.2.2.2.2.2.2, Option.bind_some]
theorem szMsg_tot {x : TMsg} (h : okMsg x) (n : Int) : ∃ v, laws_szMsg x n = some v := by
  unfold laws_szMsg
  obtain ⟨v0, e0⟩ := szEntry_tot _ n
  rw [e0, Option.bind_some]
  cases decide (v0 < 0)
  case true => exact ⟨_, rfl⟩
  rw [cond_false]
  obtain ⟨v1, e1⟩ := szVoteS_tot h.2.2.2.2.2.2 v0
  rw [e1, Option.bind_some]
  cases decide (v1 < 0)
  case true => exact ⟨_, rfl⟩
  rw [cond_false]
  exact ⟨_, rfl⟩
theorem eqMsg_self {x : TMsg} (h : okMsg x) : laws_eqMsg x x = some true := by
  unfold laws_eqMsg
  simp [eqEntry_self (okEntry.f h.2.2.2.2.2.1), eqVoteS_self h.2.2.2.2.2.2]
theorem toMsgS_eq {l : List TMsg} (h : okL 152 okMsg l) : laws_toMsgS l = some l := by
  have hf : Fits l := h.fits (by decide)
  have hb := h.1
  unfold laws_toMsgS need
  rw [if_pos (by constructor <;> omega), Int.toNat_natCast, copy_loop l hf _ id]
  · rfl
  · intro k hk out ho
    unfold laws_toMsgS_b1
    rw [lt_len l k hk]
    simp [idx_lt hk, idx_lt (ho ▸ hk), Option.bind, toMsg_eq (h.2 _ (List.getElem_mem hk))]
  · unfold laws_toMsgS_b1
    rw [nlt_len]
    rfl
theorem szMsgS_tot {l : List TMsg} (h : okL 152 okMsg l) (n : Int) : ∃ v, laws_szMsgS l n = some v := by
  have hf : Fits l := h.fits (by decide)
  unfold laws_szMsgS
  cases decide (w64 (n - ↑l.length) < 0)
  · simp only [cond_false]
    obtain ⟨x, hx, _⟩ := loop_inv (body := fun s : Int × Int => laws_szMsgS_b1 l s.1 s.2) (fun k s => ∃ j : Nat, s.2 = (j : Int) ∧ j + k = l.length) (fun _ => True) (fun k s ⟨j, hj, hk⟩ => by
      unfold laws_szMsgS_b1
      rw [hj]
      by_cases hlt : j < l.length
      · rw [lt_len l j hlt, idx_lt hlt]
        obtain ⟨v, hv⟩ := szMsg_tot (h.2 _ (List.getElem_mem hlt)) s.1
        simp only [cond_true, Option.bind_some, hv]
        cases decide (v < 0)
        · exact ⟨_, rfl, k - 1, by omega, j + 1, w64_next hf hlt, by omega⟩
        · exact ⟨_, rfl, trivial⟩
      · have : j = l.length := by omega
        subst this
        rw [nlt_len]
        exact ⟨_, rfl, trivial⟩) (k := l.length) (s := (w64 (n - ↑l.length), 0)) ⟨0, rfl, by omega⟩
    rw [hx, Option.bind_some]
    cases x with
    | ret r => exact ⟨_, rfl⟩
    | brk b => exact ⟨_, rfl⟩
  · exact ⟨_, rfl⟩
theorem eqMsgS_self {l : List TMsg} (h : okL 152 okMsg l) : laws_eqMsgS l l = some true := by
  unfold laws_eqMsgS
  rw [bne_self_eq_false, cond_false, all_loop l (h.fits (by decide)) (fun _ => true) false ()]
  · rw [show l.all (fun _ => true) = true from by simp]; rfl
  · intro k hk
    unfold laws_eqMsgS_b1
    rw [lt_len l k hk, idx_lt hk]
    simp [bne_self_eq_false, eqMsg_self (h.2 _ (List.getElem_mem hk))]
  · unfold laws_eqMsgS_b1
    rw [nlt_len]; rfl
theorem toAsked_eq {x : TAsked} (h : okAsked x) : laws_toAsked x = some x := by
  unfold laws_toAsked laws_toReq
  simp only [toInsS_eq h.2, Option.bind_some]
theorem szAsked_tot {x : TAsked} (h : okAsked x) (n : Int) : ∃ v, laws_szAsked x n = some v := by
  unfold laws_szAsked
  obtain ⟨v0, e0⟩ := szInsS_tot h.2 n
  rw [e0, Option.bind_some]
  cases decide (v0 < 0)
  case true => exact ⟨_, rfl⟩
  rw [cond_false]
  exact ⟨_, rfl⟩
theorem eqAsked_self {x : TAsked} (h : okAsked x) : laws_eqAsked x x = some true := by
  unfold laws_eqAsked laws_eqReq
  simp [eqInsS_self h.2]
theorem toAskedS_eq {l : List TAsked} (h : okL 40 okAsked l) : laws_toAskedS l = some l := by
  have hf : Fits l := h.fits (by decide)
  have hb := h.1
  unfold laws_toAskedS need
  rw [if_pos (by constructor <;> omega), Int.toNat_natCast, copy_loop l hf _ id]
  · rfl
  · intro k hk out ho
    unfold laws_toAskedS_b1
    rw [lt_len l k hk]
    simp [idx_lt hk, idx_lt (ho ▸ hk), Option.bind, toAsked_eq (h.2 _ (List.getElem_mem hk))]
  · unfold laws_toAskedS_b1
    rw [nlt_len]
    rfl
theorem szAskedS_tot {l : List TAsked} (h : okL 40 okAsked l) (n : Int) : ∃ v, laws_szAskedS l n = some v := by
  have hf : Fits l := h.fits (by decide)
  unfold laws_szAskedS
  cases decide (w64 (n - ↑l.length) < 0)
  · simp only [cond_false]
    obtain ⟨x, hx, _⟩ := loop_inv (body := fun s : Int × Int => laws_szAskedS_b1 l s.1 s.2) (fun k s => ∃ j : Nat, s.2 = (j : Int) ∧ j + k = l.length) (fun _ => True) (fun k s ⟨j, hj, hk⟩ => by
      unfold laws_szAskedS_b1
      rw [hj]
      by_cases hlt : j < l.length
      · rw [lt_len l j hlt, idx_lt hlt]
        obtain ⟨v, hv⟩ := szAsked_tot (h.2 _ (List.getElem_mem hlt)) s.1
        simp only [cond_true, Option.bind_some, hv]
        cases decide (v < 0)
        · exact ⟨_, rfl, k - 1, by omega, j + 1, w64_next hf hlt, by omega⟩
        · exact ⟨_, rfl, trivial⟩
      · have : j = l.length := by omega
        subst this
        rw [nlt_len]
        exact ⟨_, rfl, trivial⟩) (k := l.length) (s := (w64 (n - ↑l.length), 0)) ⟨0, rfl, by omega⟩
    rw [hx, Option.bind_some]
    cases x with
    | ret r => exact ⟨_, rfl⟩
    | brk b => exact ⟨_, rfl⟩
  · exact ⟨_, rfl⟩
theorem eqAskedS_self {l : List TAsked} (h : okL 40 okAsked l) : laws_eqAskedS l l = some true := by
  unfold laws_eqAskedS
  rw [bne_self_eq_false, cond_false, all_loop l (h.fits (by decide)) (fun _ => true) false ()]
  · rw [show l.all (fun _ => true) = true from by simp]; rfl
  · intro k hk
    unfold laws_eqAskedS_b1
    rw [lt_len l k hk, idx_lt hk]
    simp [bne_self_eq_false, eqAsked_self (h.2 _ (List.getElem_mem hk))]
  · unfold laws_eqAskedS_b1
    rw [nlt_len]; rfl
theorem toToldS_eq {l : List TTold} (h : okL 40 okTold l) : laws_toToldS l = some l := by
  have hf : Fits l := h.fits (by decide)
  have hb := h.1
  unfold laws_toToldS need
  rw [if_pos (by constructor <;> omega), Int.toNat_natCast, copy_loop l hf _ id]
  · rfl
  · intro k hk out ho
    unfold laws_toToldS_b1 laws_toTold laws_toReq
    rw [lt_len l k hk]
    simp [idx_lt hk, idx_lt (ho ▸ hk), Option.bind]
  · unfold laws_toToldS_b1
    rw [nlt_len]
    rfl
theorem szToldS_tot {l : List TTold} (h : okL 40 okTold l) (n : Int) : ∃ v, laws_szToldS l n = some v := by
  unfold laws_szToldS
  first
    | exact ⟨_, rfl⟩
    | (cases decide (w64 (n - (l.length : Int)) < 0) <;> exact ⟨_, rfl⟩)
theorem eqToldS_self {l : List TTold} (h : okL 40 okTold l) : laws_eqToldS l l = some true := by
  unfold laws_eqToldS
  rw [bne_self_eq_false, cond_false, all_loop l (h.fits (by decide)) (fun _ => true) false ()]
  · rw [show l.all (fun _ => true) = true from by simp]; rfl
  · intro k hk
    unfold laws_eqToldS_b1 laws_eqTold laws_eqReq
    rw [lt_len l k hk, idx_lt hk]
    simp [bne_self_eq_false]
  · unfold laws_eqToldS_b1
    rw [nlt_len]; rfl
theorem toWorld_eq {x : TWorld} (h : okWorld x) : laws_toWorld x = some x := by
  unfold laws_toWorld
  simp only [toNodeS_eq h.1, toMsgS_eq h.2.1, toAskedS_eq h.2.2.1, toToldS_eq h.2.2.2, Option.bind_some]
theorem szWorld_tot {x : TWorld} (h : okWorld x) (n : Int) : ∃ v, laws_szWorld x n = some v := by
  unfold laws_szWorld
  obtain ⟨v0, e0⟩ := szNodeS_tot h.1 n
  rw [e0, Option.bind_some]
  cases decide (v0 < 0)
  case true => exact ⟨_, rfl⟩
  rw [cond_false]
  obtain ⟨v1, e1⟩ := szMsgS_tot h.2.1 v0
  rw [e1, Option.bind_some]
  cases decide (v1 < 0)
  case true => exact ⟨_, rfl⟩
  rw [cond_false]
  obtain ⟨v2, e2⟩ := szAskedS_tot h.2.2.1 v1
  rw [e2, Option.bind_some]
  cases decide (v2 < 0)
  case true => exact ⟨_, rfl⟩
  rw [cond_false]
  obtain ⟨v3, e3⟩ := szToldS_tot h.2.2.2 v2
  rw [e3, Option.bind_some]
  cases decide (v3 < 0)
  case true => exact ⟨_, rfl⟩
  rw [cond_false]
  exact ⟨_, rfl⟩
theorem eqWorld_self {x : TWorld} (h : okWorld x) : laws_eqWorld x x = some true := by
  unfold laws_eqWorld
  simp [eqNodeS_self h.1, eqMsgS_self h.2.1, eqAskedS_self h.2.2.1, eqToldS_self h.2.2.2]
end Go.Proofs.Ythegkbaijmkhfaa

/- Worlds are marked: how many marks there are, by what the size says; the law FnExactToldProg. -/
namespace Go.Proofs.Ythegkbaijmkhfaa
open Go

theorem need_true {β : Type} [inst : Decidable True] {y : Option β} : need True y = y := if_pos trivial
theorem w64_up {k : Int} (h0 : 0 ≤ k) (h1 : k ≤ 1000000000000000000) : w64 (k + 1) = k + 1 := w64_in (by omega) (by omega)
def wS {α : Type} (W : α → Nat) (l : List α) : Nat := (l.map W).sum
theorem wS_take {α : Type} {W : α → Nat} {l : List α} {i : Nat} (h : i < l.length) : wS W (l.take (i + 1)) = wS W (l.take i) + W l[i] := by
  unfold wS
  rw [List.take_succ_eq_append_getElem h, List.map_append, List.sum_append]
  simp
theorem wS_cons {α : Type} {W : α → Nat} (x : α) (l : List α) : wS W (x :: l) = W x + wS W l := by simp [wS]
theorem wS_le {α : Type} {W : α → Nat} (l : List α) (i : Nat) : wS W (l.take i) ≤ wS W l := by
  have : wS W l = wS W (l.take i) + wS W (l.drop i) := by
    unfold wS
    rw [← List.sum_append, ← List.map_append, List.take_append_drop]
  omega
/-- A list is marked, one behind the other. -/
theorem mark_all {α : Type} {body : List α × Int × Int → Option (Stp (Int × List α) (List α × Int × Int) (List α × Int))} {W : α → Nat} {l : List α} (hl : Fits l)
    (hb : ∀ (i : Nat) (a : List α) (kk : Int) (x : α), i < a.length → idx a (i : Int) = some x → x ∈ l → 0 ≤ kk → kk + (W x : Int) ≤ 100000000000000000 → ∃ x' k', body (a, kk, (i : Int)) = some (.nxt (a.set i x', k', w64 ((i : Int) + 1))) ∧ k' = kk + (W x : Int))
    (he : ∀ (a : List α) (kk : Int), body (a, kk, (a.length : Int)) = some (.brk (a, kk))) :
    ∃ f : Int → List α, (∀ k, 0 ≤ k → k + (wS W l : Int) ≤ 100000000000000000 → (loop body (l, k, 0)).bind (fun x => x.go (fun r => some r) fun s => some (s.2, s.1)) = some (k + (wS W l : Int), f k)) ∧ ∀ k, (f k).length = l.length := by
  classical
  have key : ∀ k, 0 ≤ k → k + (wS W l : Int) ≤ 100000000000000000 → ∃ l' : List α, (loop body (l, k, 0)).bind (fun x => x.go (fun r => some r) fun s => some (s.2, s.1)) = some (k + (wS W l : Int), l') ∧ l'.length = l.length := by
    intro k h0 h1
    obtain ⟨x, hx, hq⟩ := loop_inv (body := body)
      (fun m s => ∃ i : Nat, s.2.2 = (i : Int) ∧ i + m = l.length ∧ s.2.1 = k + (wS W (l.take i) : Int) ∧ s.1.length = l.length ∧ ∀ j, i ≤ j → s.1[j]? = l[j]?)
      (fun x => ∃ b, x = .brk b ∧ b.1.length = l.length ∧ b.2 = k + (wS W l : Int)) (fun m s ⟨i, hi, hm, hk, hsl, hs⟩ => by
      obtain ⟨a, kk, ii⟩ := s
      simp only at hi hk hsl hs
      subst hi
      by_cases hlt : i < l.length
      · have hla : i < a.length := by omega
        have hai : idx a (i : Int) = some l[i] := by
          rw [idx_nat, hs i (Nat.le_refl _), List.getElem?_eq_getElem hlt]
        have hw := wS_take (W := W) hlt
        have hwl := wS_le (W := W) l (i + 1)
        obtain ⟨x', k', h2, h3⟩ := hb i a kk l[i] hla hai (List.getElem_mem hlt) (by omega) (by omega)
        refine ⟨_, h2, m - 1, by omega, i + 1, w64_next hl hlt, by omega, by show k' = _; omega, by simpa using hsl, ?_⟩
        intro j hj
        show (a.set i _)[j]? = _
        rw [List.getElem?_set_ne (by omega)]
        exact hs j (by omega)
      · have hil : i = a.length := by omega
        subst hil
        refine ⟨.brk (a, kk), he a kk, ?_⟩
        refine ⟨(a, kk), rfl, hsl, ?_⟩
        show kk = _
        rw [hk, List.take_of_length_le (by omega)]) (k := l.length) (s := (l, k, 0)) ⟨0, rfl, by omega, by simp [wS], rfl, fun _ _ => rfl⟩
    obtain ⟨b, rfl, h3, h4⟩ := hq
    refine ⟨b.1, ?_, h3⟩
    rw [hx, Option.bind_some]
    show some (b.2, b.1) = _
    rw [h4]
  refine ⟨fun k => if h : 0 ≤ k ∧ k + (wS W l : Int) ≤ 100000000000000000 then (key k h.1 h.2).choose else l, fun k h0 h1 => ?_, fun k => ?_⟩
  · simp only
    rw [dif_pos ⟨h0, h1⟩]
    exact (key k h0 h1).choose_spec.1
  · by_cases h : 0 ≤ k ∧ k + (wS W l : Int) ≤ 100000000000000000
    · simp only
      rw [dif_pos h]; exact (key k h.1 h.2).choose_spec.2
    · simp only
      rw [dif_neg h]

/-! ### Sizes -/
theorem szStep {o : Option Int} {k : Int → Option Int} {r : Int} (h : (o.bind fun v => bif decide (v < 0) then some (-1) else k v) = some r) (hr : 0 ≤ r) : ∃ v, o = some v ∧ 0 ≤ v ∧ k v = some r := by
  cases o with
  | none => cases h
  | some v =>
    rw [Option.bind_some] at h
    by_cases q : v < 0
    · rw [decide_eq_true q, cond_true] at h
      injection h with h
      omega
    · rw [decide_eq_false q, cond_false] at h
      exact ⟨v, rfl, by omega, h⟩
theorem szFlat {α : Type} {l : List α} {n v : Int} (hl : Fits l) (h0 : 0 ≤ n) (hn : n ≤ 1048576) (h : (bif decide (w64 (n - (l.length : Int)) < 0) then some (-1) else some (w64 (n - (l.length : Int)))) = some v) (hv : 0 ≤ v) : (l.length : Int) + v = n := by
  unfold Fits at hl
  rw [w64_in (by omega) (by omega)] at h
  by_cases q : n - (l.length : Int) < 0
  · rw [decide_eq_true q, cond_true] at h
    injection h with h
    omega
  · rw [decide_eq_false q, cond_false] at h
    injection h with h
    omega
theorem szL {α : Type} {f : α → Int → Option Int} {W : α → Nat} {l : List α} (hl : Fits l) {body : Int × Int → Option (Stp Int (Int × Int) Int)}
    (hbd : ∀ n i, body (n, i) = bif decide (i < (l.length : Int)) then (idx l i).bind fun x => (f x n).bind fun v => bif decide (v < 0) then some (Stp.ret (-1)) else some (Stp.nxt (v, w64 (i + 1))) else some (Stp.brk n))
    (hw : ∀ x ∈ l, ∀ n v, 0 ≤ n → n ≤ 1048576 → f x n = some v → 0 ≤ v → v ≤ n ∧ (W x : Int) + 30 * v ≤ 30 * n + 30)
    {n v : Int} (h0 : 0 ≤ n) (hn : n ≤ 1048576)
    (h : (bif decide (w64 (n - (l.length : Int)) < 0) then some (-1) else (loop body (w64 (n - (l.length : Int)), 0)).bind fun x => x.go (fun r => some r) fun s => some s) = some v) (hv : 0 ≤ v) : v ≤ n ∧ (wS W l : Int) + 30 * v ≤ 30 * n := by
  have hl' := hl
  unfold Fits at hl'
  rw [w64_in (by omega) (by omega)] at h
  by_cases q : n - (l.length : Int) < 0
  · rw [decide_eq_true q, cond_true] at h
    injection h with h
    omega
  · rw [decide_eq_false q, cond_false] at h
    cases hx : loop body (n - (l.length : Int), 0) with
    | none => rw [hx] at h; cases h
    | some x =>
      rw [hx, Option.bind_some] at h
      have key := loopD (I := fun s : Int × Int => ∀ j : Nat, s.2 = (j : Int) → j ≤ l.length → 0 ≤ s.1 → s.1 ≤ 1048576 → (∀ b, x = .brk b → 0 ≤ b → b ≤ s.1 ∧ (wS W (l.drop j) : Int) + 30 * b ≤ 30 * (s.1 + ((l.length - j : Nat) : Int))) ∧ (∀ b, x = .ret b → b < 0)) hx (by
        intro s st hst hc j hj hjl hs0 hs1
        obtain ⟨s1, s2⟩ := s
        simp only at hj hs0 hs1
        rw [hbd, hj] at hst
        by_cases hlt : j < l.length
        · rw [lt_len l j hlt, idx_lt hlt] at hst
          simp only [cond_true, Option.bind_some] at hst
          cases hu : f l[j] s1 with
          | none => rw [hu] at hst; cases hst
          | some u =>
          rw [hu, Option.bind_some] at hst
          by_cases q2 : u < 0
          · rw [decide_eq_true q2, cond_true] at hst
            injection hst with hst
            subst hst
            have : x = .ret (-1) := hc
            subst this
            exact ⟨fun b hb => (by cases hb), fun b hb => (by injection hb with hb; omega)⟩
          · rw [decide_eq_false q2, cond_false] at hst
            injection hst with hst
            subst hst
            have hle := hw _ (List.getElem_mem hlt) _ _ hs0 hs1 hu (by omega)
            have := hc (j + 1) (w64_next hl hlt) (by omega) (by show 0 ≤ u; omega) (by show u ≤ 1048576; omega)
            refine ⟨fun b hb hb0 => ?_, this.2⟩
            have h1 := this.1 b hb hb0
            rw [List.drop_eq_getElem_cons hlt, wS_cons]
            simp only at h1 ⊢
            have h1' : b ≤ u ∧ (wS W (l.drop (j + 1)) : Int) + 30 * b ≤ 30 * (u + ((l.length - (j + 1) : Nat) : Int)) := h1
            omega
        · have : j = l.length := by omega
          subst this
          rw [nlt_len] at hst
          injection hst with hst
          subst hst
          have : x = .brk s1 := hc
          subst this
          refine ⟨fun b hb hb0 => ?_, fun b hb => (by cases hb)⟩
          injection hb with hb
          subst hb
          rw [List.drop_length]
          simp [wS]) 0 rfl (by omega) (by show 0 ≤ n - (l.length : Int); omega) (by show n - (l.length : Int) ≤ 1048576; omega)
      cases x with
      | ret r =>
        injection h with h
        subst h
        have := key.2 r rfl
        omega
      | brk b =>
        injection h with h
        subst h
        have := key.1 b rfl hv
        rw [List.drop_zero] at this
        have h2 : b ≤ n - (l.length : Int) ∧ (wS W l : Int) + 30 * b ≤ 30 * (n - (l.length : Int) + ((l.length - 0 : Nat) : Int)) := this
        omega

/-! ### How many marks -/
def nE (e : TEntry) : Nat := 5 + 2 * e.Run.Reads.length + 2 * e.Run.Puts.length
theorem nE_eq (e : TEntry) : nE e = 5 + 2 * e.Run.Reads.length + 2 * e.Run.Puts.length := rfl
def nV (x : TVote) : Nat := 1 + nE x.Entry
def nB (x : Bool) : Nat := 1
def nI (x : TIns) : Nat := 4
def nT (x : TTold) : Nat := 5
def nA (x : TAsked) : Nat := 2 + 4 * x.Prog.length
def nM (x : TMsg) : Nat := 5 + nE x.Entry + wS nV x.Votes
def nN (x : TNode) : Nat := 6 + wS nV x.Acc.Votes + wS nE x.Known + wS nB x.From + wS nV x.Best + nE x.Cur + wS nB x.Votes + 4 * x.Prog.length + nE x.Want + wS nE x.Queue
def nW (x : TWorld) : Nat := wS nN x.Nodes + wS nM x.Net + wS nA x.Asked + wS nT x.Told
theorem wS_nB (l : List Bool) : wS nB l = l.length := by
  induction l with
  | nil => rfl
  | cons x l ih => rw [wS_cons, ih]; simp [nB]; omega
theorem wS_nT (l : List TTold) : wS nT l = 5 * l.length := by
  induction l with
  | nil => rfl
  | cons x l ih => rw [wS_cons, ih]; simp [nT]; omega

theorem szE {x : TEntry} (hf : fEntry x) {n v : Int} (h0 : 0 ≤ n) (hn : n ≤ 1048576) (h : laws_szEntry x n = some v) (hv : 0 ≤ v) : v ≤ n ∧ (nE x : Int) + 30 * v ≤ 30 * n + 5 := by
  have := szEntry_le hf h0 hn h hv
  unfold wE at this
  unfold nE
  omega
theorem szES {l : List TEntry} (hf : okL 88 fEntry l) {n v : Int} (h0 : 0 ≤ n) (hn : n ≤ 1048576) (h : laws_szEntryS l n = some v) (hv : 0 ≤ v) : v ≤ n ∧ (wS nE l : Int) + 30 * v ≤ 30 * n :=
  szL (f := laws_szEntry) (W := nE) (hf.fits (by decide)) (body := fun s => laws_szEntryS_b1 l s.1 s.2) (fun _ _ => rfl) (fun x hx n v h0 hn h hv => by have := szE (hf.2 x hx) h0 hn h hv; omega) h0 hn h hv
theorem szV {x : TVote} (hf : okVote x) {n v : Int} (h0 : 0 ≤ n) (hn : n ≤ 1048576) (h : laws_szVote x n = some v) (hv : 0 ≤ v) : v ≤ n ∧ (nV x : Int) + 30 * v ≤ 30 * n + 30 := by
  unfold laws_szVote at h
  obtain ⟨v1, h1, g1, h⟩ := szStep h hv
  injection h with h
  subst h
  have := szE (okEntry.f hf.2) h0 hn h1 g1
  unfold nV
  omega
theorem szVS {l : List TVote} (hf : okL 96 okVote l) {n v : Int} (h0 : 0 ≤ n) (hn : n ≤ 1048576) (h : laws_szVoteS l n = some v) (hv : 0 ≤ v) : v ≤ n ∧ (wS nV l : Int) + 30 * v ≤ 30 * n :=
  szL (f := laws_szVote) (W := nV) (hf.fits (by decide)) (body := fun s => laws_szVoteS_b1 l s.1 s.2) (fun _ _ => rfl) (fun x hx n v h0 hn h hv => szV (hf.2 x hx) h0 hn h hv) h0 hn h hv
theorem szBS {l : List Bool} (hf : okL 1 okT l) {n v : Int} (h0 : 0 ≤ n) (hn : n ≤ 1048576) (h : laws_szBoolS l n = some v) (hv : 0 ≤ v) : v ≤ n ∧ (wS nB l : Int) + 30 * v ≤ 30 * n := by
  have := szFlat (hf.fits (by decide)) h0 hn h hv
  rw [wS_nB]
  omega
theorem szIS {l : List TIns} (hf : okL 32 okIns l) {n v : Int} (h0 : 0 ≤ n) (hn : n ≤ 1048576) (h : laws_szInsS l n = some v) (hv : 0 ≤ v) : v ≤ n ∧ 4 * (l.length : Int) + 30 * v ≤ 30 * n := by
  have := szFlat (hf.fits (by decide)) h0 hn h hv
  omega
theorem szTS {l : List TTold} (hf : okL 40 okTold l) {n v : Int} (h0 : 0 ≤ n) (hn : n ≤ 1048576) (h : laws_szToldS l n = some v) (hv : 0 ≤ v) : v ≤ n ∧ (wS nT l : Int) + 30 * v ≤ 30 * n := by
  have := szFlat (hf.fits (by decide)) h0 hn h hv
  rw [wS_nT]
  omega
theorem szN {x : TNode} (hf : okNode x) {n v : Int} (h0 : 0 ≤ n) (hn : n ≤ 1048576) (h : laws_szNode x n = some v) (hv : 0 ≤ v) : v ≤ n ∧ (nN x : Int) + 30 * v ≤ 30 * n + 30 := by
  unfold laws_szNode at h
  obtain ⟨v1, h1, g1, h⟩ := szStep h hv
  obtain ⟨v2, h2, g2, h⟩ := szStep h hv
  obtain ⟨v3, h3, g3, h⟩ := szStep h hv
  obtain ⟨v4, h4, g4, h⟩ := szStep h hv
  obtain ⟨v5, h5, g5, h⟩ := szStep h hv
  obtain ⟨v6, h6, g6, h⟩ := szStep h hv
  obtain ⟨v7, h7, g7, h⟩ := szStep h hv
  obtain ⟨v8, h8, g8, h⟩ := szStep h hv
  obtain ⟨v9, h9, g9, h⟩ := szStep h hv
  injection h with h
  subst h
  unfold laws_szAcc at h1
  obtain ⟨u1, k1, gg, hh⟩ := szStep h1 g1
  clear h1
  injection hh with hh
  subst hh
  have r1 := szVS hf.2.1.2 h0 hn k1 g1
  have r2 := szES (okEntries.s hf.2.2.1) g1 (by omega) h2 g2
  have r3 := szBS hf.2.2.2.2.2.2.1 g2 (by omega) h3 g3
  have r4 := szVS hf.2.2.2.2.2.2.2.1 g3 (by omega) h4 g4
  have r5 := szE (okEntry.f hf.2.2.2.2.2.2.2.2.1) g4 (by omega) h5 g5
  have r6 := szBS hf.2.2.2.2.2.2.2.2.2.1 g5 (by omega) h6 g6
  have r7 := szIS hf.2.2.2.2.2.2.2.2.2.2.1 g6 (by omega) h7 g7
  have r8 := szE (okEntry.f hf.2.2.2.2.2.2.2.2.2.2.2.1) g7 (by omega) h8 g8
  have r9 := szES (okEntries.s hf.2.2.2.2.2.2.2.2.2.2.2.2) g8 (by omega) h9 g9
  unfold nN
  omega
theorem szM {x : TMsg} (hf : okMsg x) {n v : Int} (h0 : 0 ≤ n) (hn : n ≤ 1048576) (h : laws_szMsg x n = some v) (hv : 0 ≤ v) : v ≤ n ∧ (nM x : Int) + 30 * v ≤ 30 * n + 30 := by
  unfold laws_szMsg at h
  obtain ⟨v1, h1, g1, h⟩ := szStep h hv
  obtain ⟨v2, h2, g2, h⟩ := szStep h hv
  injection h with h
  subst h
  have r1 := szE (okEntry.f hf.2.2.2.2.2.1) h0 hn h1 g1
  have r2 := szVS hf.2.2.2.2.2.2 g1 (by omega) h2 g2
  unfold nM
  omega
theorem szA {x : TAsked} (hf : okAsked x) {n v : Int} (h0 : 0 ≤ n) (hn : n ≤ 1048576) (h : laws_szAsked x n = some v) (hv : 0 ≤ v) : v ≤ n ∧ (nA x : Int) + 30 * v ≤ 30 * n + 30 := by
  unfold laws_szAsked at h
  obtain ⟨v1, h1, g1, h⟩ := szStep h hv
  injection h with h
  subst h
  have r1 := szIS hf.2 h0 hn h1 g1
  unfold nA
  omega
theorem szW {x : TWorld} (hf : okWorld x) {n v : Int} (h0 : 0 ≤ n) (hn : n ≤ 1048576) (h : laws_szWorld x n = some v) (hv : 0 ≤ v) : (nW x : Int) + 30 * v ≤ 30 * n := by
  unfold laws_szWorld at h
  obtain ⟨v1, h1, g1, h⟩ := szStep h hv
  obtain ⟨v2, h2, g2, h⟩ := szStep h hv
  obtain ⟨v3, h3, g3, h⟩ := szStep h hv
  obtain ⟨v4, h4, g4, h⟩ := szStep h hv
  injection h with h
  subst h
  have r1 := szL (f := laws_szNode) (W := nN) (hf.1.fits (by decide)) (body := fun s => laws_szNodeS_b1 x.Nodes s.1 s.2) (fun _ _ => rfl) (fun x hx n v h0 hn h hv => szN (hf.1.2 x hx) h0 hn h hv) h0 hn h1 g1
  have r2 := szL (f := laws_szMsg) (W := nM) (hf.2.1.fits (by decide)) (body := fun s => laws_szMsgS_b1 x.Net s.1 s.2) (fun _ _ => rfl) (fun x hx n v h0 hn h hv => szM (hf.2.1.2 x hx) h0 hn h hv) g1 (by omega) h2 g2
  have r3 := szL (f := laws_szAsked) (W := nA) (hf.2.2.1.fits (by decide)) (body := fun s => laws_szAskedS_b1 x.Asked s.1 s.2) (fun _ _ => rfl) (fun x hx n v h0 hn h hv => szA (hf.2.2.1.2 x hx) h0 hn h hv) g2 (by omega) h3 g3
  have r4 := szTS hf.2.2.2 g3 (by omega) h4 g4
  unfold nW
  omega

/-! ### Marks -/
theorem ends {α β : Type} {a : List α} {x y : Option β} : (bif decide ((a.length : Int) < (a.length : Int)) then x else y) = y := by rw [nlt_len]; rfl
theorem markB_all (l : List Bool) (hf : okL 1 okT l) : ∃ f : Int → List Bool, (∀ k, 0 ≤ k → k + (wS nB l : Int) ≤ 100000000000000000 → laws_markBoolS l k = some (k + (wS nB l : Int), f k)) ∧ ∀ k, (f k).length = l.length :=
  mark_all (W := nB) (body := fun s => laws_markBoolS_b1 s.1 s.2.1 s.2.2) (hf.fits (by decide)) (fun i a kk x hi hx _ h0 h1 => by
    unfold nB at h1 ⊢
    unfold laws_markBoolS_b1
    simp (disch := omega) only [lt_len _ i hi, cond_true, hx, Option.bind_some, toNat_nat, w64_up]
    exact ⟨_, _, rfl, by omega⟩) fun a kk => ends
theorem markT_all (l : List TTold) (hf : okL 40 okTold l) : ∃ f : Int → List TTold, (∀ k, 0 ≤ k → k + (wS nT l : Int) ≤ 100000000000000000 → laws_markToldS l k = some (k + (wS nT l : Int), f k)) ∧ ∀ k, (f k).length = l.length :=
  mark_all (W := nT) (body := fun s => laws_markToldS_b1 s.1 s.2.1 s.2.2) (hf.fits (by decide)) (fun i a kk x hi hx _ h0 h1 => by
    unfold nT at h1 ⊢
    unfold laws_markToldS_b1
    simp (disch := omega) only [lt_len _ i hi, cond_true, hx, Option.bind_some, toNat_nat, w64_up, idx_set hi, List.set_set]
    exact ⟨_, _, rfl, by omega⟩) fun a kk => ends
theorem markA_all (l : List TAsked) (hf : okL 40 okAsked l) : ∃ f : Int → List TAsked, (∀ k, 0 ≤ k → k + (wS nA l : Int) ≤ 100000000000000000 → laws_markAskedS l k = some (k + (wS nA l : Int), f k)) ∧ ∀ k, (f k).length = l.length :=
  mark_all (W := nA) (body := fun s => laws_markAskedS_b1 s.1 s.2.1 s.2.2) (hf.fits (by decide)) (fun i a kk x hi hx hm h0 h1 => by
    have f1 : Fits x.Prog := (hf.2 x hm).2.fits (by decide)
    unfold nA at h1 ⊢
    unfold laws_markAskedS_b1
    simp (disch := omega) only [lt_len _ i hi, cond_true, hx, Option.bind_some, toNat_nat, w64_up, idx_set hi, List.set_set, markInsS_eq f1, mk1_len, need_true]
    exact ⟨_, _, rfl, by omega⟩) fun a kk => ends
theorem markE_all (l : List TEntry) (hf : okL 88 fEntry l) : ∃ f : Int → List TEntry, (∀ k, 0 ≤ k → k + (wS nE l : Int) ≤ 100000000000000000 → laws_markEntryS l k = some (k + (wS nE l : Int), f k)) ∧ ∀ k, (f k).length = l.length :=
  mark_all (W := nE) (body := fun s => laws_markEntryS_b1 s.1 s.2.1 s.2.2) (hf.fits (by decide)) (fun i a kk x hi hx hm h0 h1 => by
    have f1 : Fits x.Run.Reads := (hf.2 x hm).2.1.fits (by decide)
    have f2 : Fits x.Run.Puts := (hf.2 x hm).2.2.1.fits (by decide)
    unfold nE at h1 ⊢
    unfold laws_markEntryS_b1
    simp (disch := omega) only [lt_len _ i hi, cond_true, hx, Option.bind_some, toNat_nat, w64_up, idx_set hi, List.set_set, markReadS_eq f1, markPutS_eq f2, mk1_len, need_true]
    exact ⟨_, _, rfl, by omega⟩) fun a kk => ends
theorem markV_all (l : List TVote) (hf : okL 96 okVote l) : ∃ f : Int → List TVote, (∀ k, 0 ≤ k → k + (wS nV l : Int) ≤ 100000000000000000 → laws_markVoteS l k = some (k + (wS nV l : Int), f k)) ∧ ∀ k, (f k).length = l.length :=
  mark_all (W := nV) (body := fun s => laws_markVoteS_b1 s.1 s.2.1 s.2.2) (hf.fits (by decide)) (fun i a kk x hi hx hm h0 h1 => by
    have f1 : Fits x.Entry.Run.Reads := (okEntry.f (hf.2 x hm).2).2.1.fits (by decide)
    have f2 : Fits x.Entry.Run.Puts := (okEntry.f (hf.2 x hm).2).2.2.1.fits (by decide)
    unfold nV nE at h1 ⊢
    unfold laws_markVoteS_b1
    simp (disch := omega) only [lt_len _ i hi, cond_true, hx, Option.bind_some, toNat_nat, w64_up, idx_set hi, List.set_set, markReadS_eq f1, markPutS_eq f2, mk1_len, need_true]
    exact ⟨_, _, rfl, by omega⟩) fun a kk => ends
theorem markM_all (l : List TMsg) (hf : okL 152 okMsg l) : ∃ f : Int → List TMsg, (∀ k, 0 ≤ k → k + (wS nM l : Int) ≤ 100000000000000000 → laws_markMsgS l k = some (k + (wS nM l : Int), f k)) ∧ ∀ k, (f k).length = l.length :=
  mark_all (W := nM) (body := fun s => laws_markMsgS_b1 s.1 s.2.1 s.2.2) (hf.fits (by decide)) (fun i a kk x hi hx hm h0 h1 => by
    have hx2 := hf.2 x hm
    have f1 : Fits x.Entry.Run.Reads := (okEntry.f hx2.2.2.2.2.2.1).2.1.fits (by decide)
    have f2 : Fits x.Entry.Run.Puts := (okEntry.f hx2.2.2.2.2.2.1).2.2.1.fits (by decide)
    obtain ⟨f, e, q⟩ := markV_all x.Votes hx2.2.2.2.2.2.2
    unfold nM at h1 ⊢
    rw [nE_eq x.Entry] at h1 ⊢
    unfold laws_markMsgS_b1
    simp (disch := omega) only [lt_len _ i hi, cond_true, hx, Option.bind_some, toNat_nat, w64_up, idx_set hi, List.set_set, markReadS_eq f1, markPutS_eq f2, mk1_len, need_true, e, q]
    exact ⟨_, _, rfl, by omega⟩) fun a kk => ends
theorem markN_all (l : List TNode) (hf : okL 392 okNode l) : ∃ f : Int → List TNode, (∀ k, 0 ≤ k → k + (wS nN l : Int) ≤ 100000000000000000 → laws_markNodeS l k = some (k + (wS nN l : Int), f k)) ∧ ∀ k, (f k).length = l.length :=
  mark_all (W := nN) (body := fun s => laws_markNodeS_b1 s.1 s.2.1 s.2.2) (hf.fits (by decide)) (fun i a kk x hi hx hm h0 h1 => by
    have hx2 := hf.2 x hm
    have g1 := okEntry.f hx2.2.2.2.2.2.2.2.2.1
    have g2 := okEntry.f hx2.2.2.2.2.2.2.2.2.2.2.2.1
    have f1 : Fits x.Cur.Run.Reads := g1.2.1.fits (by decide)
    have f2 : Fits x.Cur.Run.Puts := g1.2.2.1.fits (by decide)
    have f3 : Fits x.Want.Run.Reads := g2.2.1.fits (by decide)
    have f4 : Fits x.Want.Run.Puts := g2.2.2.1.fits (by decide)
    have f5 : Fits x.Prog := hx2.2.2.2.2.2.2.2.2.2.2.1.fits (by decide)
    obtain ⟨_, e1, q1⟩ := markV_all x.Acc.Votes hx2.2.1.2
    obtain ⟨_, e2, q2⟩ := markE_all x.Known (okEntries.s hx2.2.2.1)
    obtain ⟨_, e3, q3⟩ := markB_all x.From hx2.2.2.2.2.2.2.1
    obtain ⟨_, e4, q4⟩ := markV_all x.Best hx2.2.2.2.2.2.2.2.1
    obtain ⟨_, e5, q5⟩ := markB_all x.Votes hx2.2.2.2.2.2.2.2.2.2.1
    obtain ⟨_, e6, q6⟩ := markE_all x.Queue (okEntries.s hx2.2.2.2.2.2.2.2.2.2.2.2.2)
    unfold nN at h1 ⊢
    rw [nE_eq x.Cur, nE_eq x.Want] at h1 ⊢
    unfold laws_markNodeS_b1
    simp (disch := omega) only [lt_len _ i hi, cond_true, hx, Option.bind_some, toNat_nat, w64_up, idx_set hi, List.set_set, e1, q1, e2, q2, e3, q3, e4, q4, e5, q5, e6, q6, markReadS_eq f1, markPutS_eq f2, markReadS_eq f3, markPutS_eq f4, markInsS_eq f5, mk1_len, need_true]
    exact ⟨_, _, rfl, by omega⟩) fun a kk => ends
theorem markW_all {x : TWorld} (hf : okWorld x) (h : nW x ≤ 10000000000000000) : laws_markWorld x 1 = some (1 + (nW x : Int)) := by
  obtain ⟨_, e1, q1⟩ := markN_all x.Nodes hf.1
  obtain ⟨_, e2, q2⟩ := markM_all x.Net hf.2.1
  obtain ⟨_, e3, q3⟩ := markA_all x.Asked hf.2.2.1
  obtain ⟨_, e4, q4⟩ := markT_all x.Told hf.2.2.2
  unfold nW at h ⊢
  unfold laws_markWorld
  simp (disch := omega) only [e1, e2, e3, e4, q1, q2, q3, q4, Option.bind_some, need_true]
  congr 1
  omega
end Go.Proofs.Ythegkbaijmkhfaa

/- The law FnExactToldProg. -/
namespace Go.Proofs.Ythegkbaijmkhfaa
open Go

/-! ### What was asked -/
def askedFor (w : TWorld) (q : TReq) : Option TAsked := w.Asked.find? fun a => (([a.Req.Who, a.Req.Seq] : List Int) == [q.Who, q.Seq])
def progFor (w : TWorld) (q : TReq) : List TIns × Bool := match askedFor w q with
  | some a => (a.Prog, true)
  | none => ([], false)
theorem copiedIns_eq {l : List TIns} (h : l.length * 32 ≤ 140737488351232) : impl_copied_Ins l = some l := by
  unfold impl_copied_Ins
  cases hl : ((l.length : Int) == 0)
  · rw [cond_false, need_pos (by constructor <;> omega), need_pos (by simp)]
  · simp only [beq_iff_eq] at hl
    have : l = [] := List.eq_nil_of_length_eq_zero (by omega)
    rw [this]; rfl
theorem asked_prog {w : TWorld} (h : okWorld w) {a : TAsked} (ha : a ∈ w.Asked) : a.Prog.length * 32 ≤ 140737488351232 := (h.2.2.1.2 a ha).2.1
theorem specProg_eq {w : TWorld} (h : okWorld w) (q : TReq) : spec_ToldProg w q = some (progFor w q) := by
  have hf : Fits w.Asked := h.2.2.1.fits (by decide)
  unfold spec_ToldProg progFor askedFor
  rw [find_loop w.Asked hf (fun a => (([a.Req.Who, a.Req.Seq] : List Int) == [q.Who, q.Seq])) (fun a => (a.Prog, true)) ()]
  · cases w.Asked.find? (fun a => (([a.Req.Who, a.Req.Seq] : List Int) == [q.Who, q.Seq])) <;> rfl
  · intro k hk
    have := asked_prog h (List.getElem_mem hk)
    unfold spec_ToldProg_b1
    rw [lt_len _ k hk, idx_lt hk]
    simp only [cond_true, Option.bind_some]
    rw [need_pos (by simp; omega)]
    cases (([w.Asked[k].Req.Who, w.Asked[k].Req.Seq] : List Int) == [q.Who, q.Seq]) <;> rfl
  · unfold spec_ToldProg_b1
    rw [nlt_len]; rfl
theorem implProg_eq {w : TWorld} (h : okWorld w) (q : TReq) : impl_ToldProg w q = some (progFor w q) := by
  have hf : Fits w.Asked := h.2.2.1.fits (by decide)
  unfold impl_ToldProg progFor askedFor
  rw [find_loop w.Asked hf (fun a => (([a.Req.Who, a.Req.Seq] : List Int) == [q.Who, q.Seq])) (fun a => (a.Prog, true)) ()]
  · cases w.Asked.find? (fun a => (([a.Req.Who, a.Req.Seq] : List Int) == [q.Who, q.Seq])) <;> rfl
  · intro k hk
    have := asked_prog h (List.getElem_mem hk)
    unfold impl_ToldProg_b1
    rw [lt_len _ k hk, idx_lt hk]
    simp only [cond_true, Option.bind_some, copiedIns_eq this]
    cases (([w.Asked[k].Req.Who, w.Asked[k].Req.Seq] : List Int) == [q.Who, q.Seq]) <;> rfl
  · unfold impl_ToldProg_b1
    rw [nlt_len]; rfl
theorem progFor_fits {w : TWorld} (h : okWorld w) (q : TReq) : Fits (progFor w q).1 := by
  unfold progFor askedFor
  cases hf : w.Asked.find? (fun a => (([a.Req.Who, a.Req.Seq] : List Int) == [q.Who, q.Seq])) with
  | none => simp [Fits]
  | some a =>
    have := asked_prog h (List.mem_of_find?_eq_some hf)
    show a.Prog.length ≤ _
    omega
theorem progFor_okL {w : TWorld} (h : okWorld w) (q : TReq) : okL 32 okIns (progFor w q).1 := by
  unfold progFor askedFor
  cases hf : w.Asked.find? (fun a => (([a.Req.Who, a.Req.Seq] : List Int) == [q.Who, q.Seq])) with
  | none => exact ⟨by simp, by simp⟩
  | some a => exact (h.2.2.1.2 a (List.mem_of_find?_eq_some hf)).2
theorem fnExactToldProg_true {w : TWorld} {q : TReq} (h : okWorld w) (_ : okReq q) : laws_FnExactToldProg w q = some true := by
  obtain ⟨v, h1⟩ := szWorld_tot h 1048576
  unfold laws_FnExactToldProg
  rw [h1, Option.bind_some]
  by_cases hv : v < 0
  · rw [decide_eq_true hv, cond_true]
  rw [decide_eq_false hv, cond_false]
  have hw := szW h (by omega) (by omega) h1 (by omega)
  have hp := progFor_okL h q
  have hf : Fits (progFor w q).1 := progFor_fits h q
  have hf' := hf
  unfold Fits at hf'
  have hm := markW_all h (by omega)
  have n1 : ¬ 1 + (nW w : Int) < 0 := by omega
  have n2 : ¬ 1 + 4 * ((progFor w q).1.length : Int) < 0 := by omega
  have hq : laws_toReq q = some q := rfl
  simp only [toWorld_eq h, hq, Option.bind_some, specProg_eq h, implProg_eq h, eqInsS_self hp, Bool.not_true, cond_false, beq_self_eq_true, eqWorld_self h, hm, decide_eq_false n1, markInsS_eq hf (k := 1) (by omega) (by omega), mk1_len, need_true, heldInsS_eq hf (k := 1) (by omega) (by omega), decide_eq_false n2, bne_self_eq_false]
end Go.Proofs.Ythegkbaijmkhfaa
