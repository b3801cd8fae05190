/- The evaluator of one operation, over abstract states. No program in sight. -/
import Derived.Test.YthegkbaijmkhfaaAm1
set_option linter.unusedVariables false
set_option linter.unusedSimpArgs false
namespace Go.Proofs.Ythegkbaijmkhfaa
open Go

/-- What is told of a type: cells, bytes, struct or array, zero cells, a slice's element, an array's length and element, an integer's kind, fields (offset, type). -/
structure TI where
  size : Nat
  bytes : Nat
  agg : Bool
  zero : List V
  sl : Option Nat
  arr : Option (Nat × Nat)
  ik : Option IntKind
  fs : Option (List (Nat × Nat))
  str : Bool
  ptr : Option Nat
  bl : Bool

theorem FV.conc {w : World} {F : Nat → Prop} {v : V} (h : v.simple = true) : FV w F v v.conc := by
  cases v <;> first | (simp [V.simple] at h; done) | constructor

def V.ofCell : Value → V
  | .bool x => .b x
  | .int k n => .i k n
  | .string x => .s x
  | .slice a n cap => match a, n, cap with
    | .none, 0, 0 => .nil
    | _, _, _ => .bot
  | .func g x y => match g, x.toList, y.toList with
    | .func f, [], [] => .fn f
    | _, _, _ => .bot
  | _ => .bot

theorem FV.ofCell {w : World} {F : Nat → Prop} (c : Value) (h1 : c.oneCell' = true) : FV w F (V.ofCell c) c := by
  cases c with
  | bool x => exact .b x
  | int k n => exact .i k n
  | string x => exact .s x
  | slice a n cap => cases a <;> cases n <;> cases cap <;> simp only [V.ofCell] <;> first | exact .nil | exact .bot _ h1
  | func g x y =>
    simp only [V.ofCell]
    split
    · rename_i f q1 q2
      have hx : x = #[] := by simpa using q1
      have hy : y = #[] := by simpa using q2
      subst hx; subst hy
      exact .fn f
    · exact .bot _ h1
  | _ => exact .bot _ h1

theorem FL.ofCells {w : World} {F : Nat → Prop} : ∀ cs : List Value, (∀ c ∈ cs, c.oneCell' = true) → FL w F (cs.map V.ofCell) cs
  | [], _ => .nil
  | c :: cs, h => .cons _ _ _ _ (.ofCell c (h c (by simp))) (FL.ofCells cs fun d hd => h d (by simp [hd]))

def dAgg : TypeDesc → Bool
  | .struct _ | .array _ _ => true
  | _ => false
def dSl : TypeDesc → Option Nat
  | .slice e => some e
  | _ => none
def dArr : TypeDesc → Option (Nat × Nat)
  | .array n e => some (n, e)
  | _ => none
def dInt : TypeDesc → Option IntKind
  | .int k => some k
  | _ => none
def dFs : TypeDesc → Option (List (Nat × Nat))
  | .struct fs => some (fs.toList.map fun f => (f.offset, f.type))
  | _ => none
def dStr : TypeDesc → Bool
  | .string => true
  | _ => false
def dBl : TypeDesc → Bool
  | .bool => true
  | _ => false
def dPtr : TypeDesc → Option Nat
  | .pointer e => some e
  | _ => none

def tiOf (P : Program) (t : Nat) : Option TI :=
  match P.info? t, P.underlying t with
  | some i, some d =>
    match i.zero with
    | some z =>
      if z.cells.all (·.oneCell') then some { size := i.size, bytes := i.bytes, zero := z.cells.toList.map V.ofCell, agg := dAgg d, sl := dSl d, arr := dArr d, ik := dInt d, fs := dFs d, str := dStr d, ptr := dPtr d, bl := dBl d } else none
    | none => none
  | _, _ => none

def wideKey : Option TypeDesc → Bool
  | some (.array _ _) | some (.struct _) => true
  | _ => false
/-- A program, and what is known of its types. -/
structure Cx where
  P : Program
  mixed : P.follows .mixedOrders = true
  T : Nat → Option TI
  hT : ∀ t ti, T t = some ti → tiOf P t = some ti
  E : Nat → Option Nat
  hE : ∀ t m, E t = some m → ∀ (xs ys : List Int) (w : World), xs.length = m → ys.length = m →
    (Op.equal t (.agg (xs.map (Value.int .i64)).toArray) (.agg (ys.map (Value.int .i64)).toArray)).run P w = .ok (xs == ys) w
  hG : ∀ t m, E t = some m → P.eqGuardType P.depth t = false
  M : Nat → Option (Nat × Nat × V)
  hM : ∀ t kt m z, M t = some (kt, m, z) → ∃ vt, P.underlying t = some (.map kt vt) ∧ E kt = some m ∧ wideKey (P.underlying kt) = true ∧
    (∀ w, (zeroValue vt).run P w = .ok z.conc w) ∧ z.simple = true ∧ ∀ (em : Bool) (xs : List Int) (w : World), xs.length = m → (Instr.checkKey em 10000 kt (kv xs)).run P w = .ok () w

abbrev Hp := Nat → Nat → Option Ent
/-- A look into the entries, with a record of what was looked at. -/
def RdM (α : Type) := Hp → Option (α × List (Nat × Nat))
namespace RdM
def pure {α : Type} (a : α) : RdM α := fun _ => some (a, [])
def bind {α β : Type} (m : RdM α) (f : α → RdM β) : RdM β := fun H =>
  match m H with
  | some (a, l) => match f a H with
    | some (b, l') => some (b, l ++ l')
    | none => none
  | none => none
instance : Monad RdM where
  pure := RdM.pure
  bind := RdM.bind
def rd (g j : Nat) : RdM Ent := fun H => match H g j with
  | some e => some (e, [(g, j)])
  | none => none
def lift {α : Type} (o : Option α) : RdM α := fun _ => match o with
  | some a => some (a, [])
  | none => none
def no {α : Type} : RdM α := fun _ => none
end RdM

/-- How a parameter is handed over: to be read (or given up where om says so); a pointer to be written through; a row to be written. -/
inductive PM where
  | val (ck om : List (Option Nat))
  | ptr (ck om : List (Option Nat))
  | row

/-- What must be told of an operation beside the state: an element's cells, a cell, a call's result, a way taken, the slices' sizes in what is stored. -/
inductive Ans where
  | none
  | row (cs : List V)
  | val (v : V)
  | call (ms : List PM) (fr : Bool) (res : V) (outs : List (Option V))
  | dec (d : Bool)
  | ck (ck : List (Option Nat))
  | rowck (cs : List V) (ck : List (Option Nat))
  | drow (cs : List V)
  | dst (cs : List V) (ck om : List (Option Nat))
  | dck (ck om : List (Option Nat))
  | prow (cs : List V)
  | dtak (cs : List V)
  | dsc (cs : List V) (ck om : List (Option Nat))

structure Out where
  v : V
  new : Option (List Ent) := none
  upd : List ((Nat × Nat) × Ent) := []
  obl : List Prop := []

def constV : Value → V
  | .agg cs => if cs.all (·.oneCell') then .agg (cs.toList.map V.ofCell) else .bot
  | v => if v.oneCell' then V.ofCell v else .bot

def evalV (t : List V) : Operand → V
  | .tmp k => t.getD k .bot
  | .const v => constV v
  | .func f => .fn f
  | .global _ => .bot

def spliceV {α : Type} (cs : List α) (off : Nat) (vs : List α) : List α := cs.take off ++ vs ++ cs.drop (off + vs.length)

def fillV (place : Nat → Option (Nat × Nat)) (cells : List V) : List (Nat × V) → Option (List V)
  | [] => some cells
  | (i, v) :: rest =>
    match place i with
    | none => none
    | some (off, size) =>
      match v.cells with
      | some cs => if cs.length = size ∧ off + size ≤ cells.length then fillV place (spliceV cells off cs) rest else none
      | none => none

def xorI (k : IntKind) (x y : Int) : Int := k.wrap (BitVec.ofInt k.bits x ^^^ BitVec.ofInt k.bits y).toNat

def binInt (op : BinOp) (k : IntKind) (x y : Int) : Option (V × List Prop) :=
  match op with
  | .add => some (.i k (k.wrap (x + y)), [])
  | .sub => some (.i k (k.wrap (x - y)), [])
  | .mul => some (.i k (k.wrap (x * y)), [])
  | .quo => some (.i k (k.wrap (x.tdiv y)), [y ≠ 0])
  | .rem => some (.i k (x.tmod y), [y ≠ 0])
  | .eql => some (.b (x == y), [])
  | .neq => some (.b (x != y), [])
  | .lss => some (.b (decide (x < y)), [])
  | .leq => some (.b (decide (x ≤ y)), [])
  | .gtr => some (.b (decide (x > y)), [])
  | .geq => some (.b (decide (x ≥ y)), [])
  | .xor => some (.i k (xorI k x y), [])
  | _ => none

def intsOf : List V → Option (List Int)
  | [] => some []
  | .i .i64 n :: vs => (intsOf vs).map (n :: ·)
  | _ => none

end Go.Proofs.Ythegkbaijmkhfaa
