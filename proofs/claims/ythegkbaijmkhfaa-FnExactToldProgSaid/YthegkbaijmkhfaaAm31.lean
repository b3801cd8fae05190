/- The plain functions' words: loops, looks into lists, and how a proof goes through them. -/
import Derived.Test.YthegkbaijmkhfaaAm30
set_option linter.unusedVariables false
set_option linter.unusedSimpArgs false
namespace Go.Proofs.Ythegkbaijmkhfaa
open Go

/-- How a round of a loop ends: the function's end, the loop's end, another round. -/
inductive Stp (R S B : Type) where
  | ret (r : R)
  | brk (b : B)
  | nxt (s : S)
/-- How a part of a function ends: the function's end, or further on. -/
inductive Exc (R B : Type) where
  | ret (r : R)
  | brk (b : B)

def iter {R S B : Type} (body : S → Option (Stp R S B)) : Nat → S → Option (Exc R B)
  | 0, _ => none
  | n + 1, s => match body s with
    | some (.ret r) => some (.ret r)
    | some (.brk s) => some (.brk s)
    | some (.nxt s) => iter body n s
    | none => none

open Classical in
noncomputable def loop {R S B : Type} (body : S → Option (Stp R S B)) (s : S) : Option (Exc R B) :=
  if h : ∃ n r, iter body n s = some r then some h.choose_spec.choose else none

theorem iter_more {R S B : Type} {body : S → Option (Stp R S B)} : ∀ {n : Nat} {s : S} {r : Exc R B}, iter body n s = some r → ∀ m, n ≤ m → iter body m s = some r
  | 0, s, r, h, _, _ => by cases h
  | n + 1, s, r, h, 0, hm => by omega
  | n + 1, s, r, h, m + 1, hm => by
    unfold iter at h ⊢
    cases hb : body s with
    | none => rw [hb] at h; cases h
    | some st =>
      rw [hb] at h
      cases st with
      | ret x => exact h
      | brk x => exact h
      | nxt x => exact iter_more h m (by omega)

theorem loop_iff {R S B : Type} {body : S → Option (Stp R S B)} {s : S} {r : Exc R B} : loop body s = some r ↔ ∃ n, iter body n s = some r := by
  unfold loop
  constructor
  · intro h
    split at h
    · rename_i hx
      injection h with h
      exact ⟨_, h ▸ hx.choose_spec.choose_spec⟩
    · cases h
  · rintro ⟨n, h⟩
    have hx : ∃ n r, iter body n s = some r := ⟨n, r, h⟩
    rw [dif_pos hx]
    have h1 := hx.choose_spec.choose_spec
    have h2 := iter_more h1 _ (Nat.le_max_left _ n)
    have h3 := iter_more h _ (Nat.le_max_right hx.choose n)
    rw [h2] at h3
    exact h3

theorem loop_eq {R S B : Type} (body : S → Option (Stp R S B)) (s : S) : loop body s = match body s with
    | some (.ret r) => some (.ret r)
    | some (.brk s) => some (.brk s)
    | some (.nxt s) => loop body s
    | none => none := by
  apply Option.ext
  intro r
  rw [loop_iff]
  cases hb : body s with
  | none =>
    constructor
    · rintro ⟨n, h⟩
      cases n with
      | zero => cases h
      | succ n => unfold iter at h; rw [hb] at h; cases h
    · intro h; cases h
  | some st =>
    cases st with
    | ret x =>
      constructor
      · rintro ⟨n, h⟩
        cases n with
        | zero => cases h
        | succ n => unfold iter at h; rw [hb] at h; exact h
      · intro h; exact ⟨1, by unfold iter; rw [hb]; exact h⟩
    | brk x =>
      constructor
      · rintro ⟨n, h⟩
        cases n with
        | zero => cases h
        | succ n => unfold iter at h; rw [hb] at h; exact h
      · intro h; exact ⟨1, by unfold iter; rw [hb]; exact h⟩
    | nxt x =>
      simp only
      rw [loop_iff]
      constructor
      · rintro ⟨n, h⟩
        cases n with
        | zero => cases h
        | succ n => unfold iter at h; rw [hb] at h; exact ⟨n, h⟩
      · rintro ⟨n, h⟩
        exact ⟨n + 1, by unfold iter; rw [hb]; exact h⟩

/-- What is left to show behind a round. -/
def Cont {R S B : Type} (r : Exc R B) (I : S → Prop) : Stp R S B → Prop
  | .ret x => r = .ret x
  | .brk s => r = .brk s
  | .nxt s => I s

theorem loopD {R S B : Type} {body : S → Option (Stp R S B)} {I : S → Prop} {s : S} {r : Exc R B} (h : loop body s = some r) (step : ∀ s st, body s = some st → Cont r I st → I s) : I s := by
  obtain ⟨n, h1⟩ := loop_iff.1 h
  clear h
  have h := h1
  clear h1
  induction n generalizing s with
  | zero => cases h
  | succ n ih =>
    unfold iter at h
    cases hb : body s with
    | none => rw [hb] at h; cases h
    | some st =>
      rw [hb] at h
      refine step s st hb ?_
      cases st with
      | ret x => injection h with h; exact h.symm
      | brk x => injection h with h; exact h.symm
      | nxt x => exact ih h

def Exc.go {R B β : Type} (x : Exc R B) (kr : R → Option β) (ks : B → Option β) : Option β :=
  match x with
  | .ret r => kr r
  | .brk s => ks s
/-- What is left to show where several ways meet. -/
def JC {B J : Type} (I : J → Prop) (r : B) : Exc B J → Prop
  | .ret v => some v = some r
  | .brk j => I j

def idx {α : Type} (l : List α) (i : Int) : Option α := if 0 ≤ i then l[i.toNat]? else none
def need {β : Type} (p : Prop) [Decidable p] (k : Option β) : Option β := if p then k else none

theorem idx_some {α : Type} {l : List α} {i : Int} {x : α} (h : idx l i = some x) : 0 ≤ i ∧ i < l.length ∧ l[i.toNat]? = some x := by
  unfold idx at h
  split at h
  · rename_i hi
    refine ⟨hi, ?_, h⟩
    have := (List.getElem?_eq_some_iff.1 h).1
    omega
  · cases h

section
variable {G : Prop} {α β R S : Type}
theorem bindD {m : Option α} {f : α → Option β} {r : β} (h : m.bind f = some r) (k : ∀ x, m = some x → f x = some r → G) : G := by
  cases m with
  | none => cases h
  | some x => exact k x rfl h
theorem condD {e : Bool} {a b : Option β} {r : β} (h : cond e a b = some r) (k1 : e = true → a = some r → G) (k2 : e = false → b = some r → G) : G := by
  cases e with
  | true => exact k1 rfl h
  | false => exact k2 rfl h
theorem needD {p : Prop} [Decidable p] {a : Option β} {r : β} (h : need p a = some r) (k : p → a = some r → G) : G := by
  unfold need at h
  split at h
  · rename_i hp; exact k hp h
  · cases h
theorem someD {x r : β} (h : some x = some r) (k : r = x → G) : G := by
  injection h with h
  exact k h.symm
theorem retD {B : Type} {I : S → Prop} {r : Exc R B} {x : R} {st : Stp R S B} (h : some (Stp.ret x) = some st) (hc : Cont r I st) (k : r = .ret x → G) : G := by
  injection h with h
  subst h
  exact k hc
theorem brkD {B : Type} {I : S → Prop} {r : Exc R B} {x : B} {st : Stp R S B} (h : some (Stp.brk x) = some st) (hc : Cont r I st) (k : r = .brk x → G) : G := by
  injection h with h
  subst h
  exact k hc
theorem nxtD {B : Type} {I : S → Prop} {r : Exc R B} {x : S} {st : Stp R S B} (h : some (Stp.nxt x) = some st) (hc : Cont r I st) (k : I x → G) : G := by
  injection h with h
  subst h
  exact k hc
theorem retC {B : Type} {I : S → Prop} {r : Exc R B} {x : R} {st : Stp R S B} (h : some (Stp.ret x) = some st) (hc : Cont r I st) : r = .ret x := retD h hc id
theorem joinD {B J : Type} {T : Option (Exc B J)} {K : J → Option B} {r : B} {I : J → Prop} (h : (T.bind fun x => x.go some K) = some r) (rest : ∀ j, K j = some r → I j) (walk : ∀ x, T = some x → JC I r x → G) : G := by
  cases T with
  | none => cases h
  | some x =>
    refine walk x rfl ?_
    cases x with
    | ret v => exact h
    | brk j => exact rest j h
theorem jretD {B J : Type} {I : J → Prop} {r v : B} {x : Exc B J} (h : some (Exc.ret v) = some x) (hc : JC I r x) (k : some v = some r → G) : G := by
  injection h with h
  subst h
  exact k hc
theorem jretC {B J : Type} {I : J → Prop} {r v : B} {x : Exc B J} (h : some (Exc.ret v) = some x) (hc : JC I r x) : some v = some r := jretD h hc id
theorem jbrkD {B J : Type} {I : J → Prop} {r : B} {x : Exc B J} {j : J} (h : some (Exc.brk j) = some x) (hc : JC I r x) (k : I j → G) : G := by
  injection h with h
  subst h
  exact k hc
theorem loopJ {B : Type} {body : S → Option (Stp R S B)} {s : S} {kr : R → Option β} {ks : B → Option β} {r : β} (h : ((loop body s).bind fun x => x.go kr ks) = some r) (k : ∀ x, loop body s = some x → (∀ v, x = .ret v → kr v = some r) → (∀ b, x = .brk b → ks b = some r) → G) : G := by
  cases hl : loop body s with
  | none => rw [hl] at h; cases h
  | some x =>
    rw [hl] at h
    refine k x hl ?_ ?_
    · intro v hv
      subst hv
      exact h
    · intro b hb
      subst hb
      exact h
end

theorem Fin.is {cx : Cx} {X : Sig} {res res' : V} {outs outs' : List (Option V)} {k : List Item} {S : St} (h : Fin cx X res' outs' k S) (h1 : res = res') (h2 : outs = outs') : Fin cx X res outs k S := by
  subst h1; subst h2
  exact h
theorem ACalls.is {P : Program} {f : FuncId} {args args' : List V} {res : V} {outs : List (Option V)} (h : ACalls P f args' res outs) (h1 : args = args') : ACalls P f args res outs := by
  subst h1
  exact h

/-! ### Values out of data -/
def vi (n : Int) : V := .i .i64 n
/-- Temporaries that nothing is told of. -/
def bs : Nat → List V → List V
  | 0, l => l
  | n + 1, l => .bot :: bs n l
def vsl {α : Type} (sz : Nat) (enc : α → List V) (l : List α) : V := .sl sz l.length (l.map enc)
def vosl {α : Type} (e sz : Nat) (enc : α → List V) (l : List α) : V := .osl e sz l.length (l.map enc)
def erow {α : Type} (e sz : Nat) (enc : α → List V) (l : List α) : Ent := .row e sz l.length (l.map enc)
def efrz {α : Type} (sz : Nat) (enc : α → List V) (l : List α) : Ent := .frz sz l.length (l.map enc)

section
variable {α : Type} {enc : α → List V} {l : List α} {i : Int} {x : α}
theorem map_idx (h : idx l i = some x) : (l.map enc)[i.toNat]? = some (enc x) := by
  rw [List.getElem?_map, (idx_some h).2.2]; rfl
theorem map_idx0 (h : idx l i = some x) : (l.map enc)[0 + i.toNat]? = some (enc x) := by
  rw [Nat.zero_add]; exact map_idx h
theorem idx0 (h : idx l i = some x) : 0 ≤ i := (idx_some h).1
theorem idx1 (h : idx l i = some x) : i < (l.length : Nat) := (idx_some h).2.1
theorem row_app {e sz : Nat} {y : α} {cs : List V} (h : cs = enc y) : Ent.row e sz (l.length + 1) (l.map enc ++ [cs]) = erow e sz enc (l ++ [y]) := by
  subst h
  simp [erow]
theorem row_apps {e sz : Nat} {l' : List α} {n : Nat} {rows : List (List V)} (h1 : n = l'.length) (h2 : rows = l'.map enc) : Ent.row e sz (l.length + n) (l.map enc ++ rows) = erow e sz enc (l ++ l') := by
  subst h1; subst h2
  simp [erow]
theorem row_set {e sz : Nat} {k : Nat} {y : α} {cs : List V} (h : cs = enc y) : Ent.row e sz l.length ((l.map enc).set (0 + k) cs) = erow e sz enc (l.set k y) := by
  subst h
  simp [erow, List.map_set]
theorem own_set {g j sz lo : Nat} {k : Nat} {y : α} : V.own g j sz lo l.length = V.own g j sz lo (l.set k y).length := by simp
theorem sl_take {sz : Nat} {a b : Nat} (ha : a ≤ b) (hb : b ≤ l.length) : V.sl sz (b - a) (((l.map enc).drop a).take (b - a)) = vsl sz enc ((l.drop a).take (b - a)) := by
  have : min (b - a) (l.length - a) = b - a := by omega
  simp [vsl, List.map_take, List.map_drop, this]
end

end Go.Proofs.Ythegkbaijmkhfaa
