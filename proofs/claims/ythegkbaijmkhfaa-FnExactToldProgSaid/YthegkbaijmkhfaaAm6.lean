/- Operations that neither look into entries nor change anything: what they answer. -/
import Derived.Test.YthegkbaijmkhfaaAm5
set_option linter.unusedVariables false
set_option linter.unusedSimpArgs false
namespace Go.Proofs.Ythegkbaijmkhfaa
open Go

def partV (ti : TI) (cs : List V) (off : Nat) : Option V :=
  if ti.agg then (if off + ti.size ≤ cs.length then some (.agg ((cs.drop off).take ti.size)) else none) else cs[off]?

/-- A field's place and type. -/
def fieldV (cx : Cx) (s f : Nat) : Option (Nat × TI) :=
  match cx.T s with
  | some ti => match ti.fs with
    | some fs => match fs[f]? with
      | some (off, ft) => match cx.T ft with
        | some fi => if fi.size = 0 then none else some (off, fi)
        | none => none
      | none => none
    | none => none
  | none => none

def placeV (cx : Cx) (t : Nat) (i : Nat) : Option (Nat × Nat) :=
  match cx.T t with
  | some ti => match ti.fs with
    | some fs => match fs[i]? with
      | some (off, ft) => match cx.T ft with
        | some fi => some (off, fi.size)
        | none => none
      | none => none
    | none => none
  | none => none

def eqlV (cx : Cx) (ty : Nat) (a b : V) : Option V :=
  match a, b with
  | .b x, .b y => match cx.T ty with
    | some ti => if ti.bl then some (.b (x == y)) else none
    | none => none
  | .agg cs, .agg ds => match cx.E ty, intsOf cs, intsOf ds with
    | some m, some xs, some ys => if xs.length = m ∧ ys.length = m then some (.b (xs == ys)) else none
    | _, _, _ => none
  | _, _ => none

def binV (cx : Cx) (op : BinOp) (ty : Nat) (a b : V) : Option (V × List Prop) :=
  match a, b with
  | .i k x, .i k' y => if k = k' then binInt op k x y else none
  | a, b => match op with
    | .eql => (eqlV cx ty a b).map (·, [])
    | .neq => match eqlV cx ty a b with
      | some (.b x) => some (.b (!x), [])
      | _ => none
    | _ => none

def lenV : V → Option Int
  | .nil => some 0
  | .sl _ n _ => some n
  | .own _ _ _ _ n => some n
  | _ => none

def pickV (c x y : V) : Option V :=
  match c with
  | .b true => some x
  | .b false => some y
  | _ => none

def nilV (x : V) : Option V :=
  match x with
  | .ptr g j o => some (.ptr g j o)
  | .eptr g j s i o => some (.eptr g j s i o)
  | .fptr cs => some (.fptr cs)
  | .fn f => some (.fn f)
  | _ => none

def unV (op : UnOp) (x : V) : Option V :=
  match op, x with
  | .not, .b v => some (.b (!v))
  | .neg, .i k n => some (.i k (k.wrap (0 - n)))
  | _, _ => none

def convV (cx : Cx) (s d : Nat) (x : V) : Option V :=
  match cx.T s, cx.T d, x with
  | some si, some di, .i _ n => match si.ik, di.ik with
    | some _, some k' => some (.i k' (k'.wrap n))
    | _, _ => none
  | _, _, _ => none

def extractV (x : V) (k : Nat) : Option V :=
  match x with
  | .tup cs => cs[k]?
  | _ => none

def fieldOpV (cx : Cx) (ty f : Nat) (x : V) : Option V :=
  match fieldV cx ty f, x with
  | some (off, fi), .agg cs => partV fi cs off
  | _, _ => none

def fieldAddrV (cx : Cx) (ty f : Nat) (x : V) : Option V :=
  match fieldV cx ty f, x with
  | some (off, _), .ptr g j o => some (.ptr g j (o + off))
  | some (off, _), .eptr g j s i o => some (.eptr g j s i (o + off))
  | some (off, _), .fptr cs => some (.fptr (cs.drop off))
  | _, _ => none

/-- All fields' types are told. -/
def fieldsTold (cx : Cx) (l : List (Nat × Nat)) : Bool := l.all fun f => (cx.T f.2).isSome

def buildV (cx : Cx) (ty : Nat) (parts : List (Nat × V)) : Option V :=
  match cx.T ty with
  | some ti => match ti.fs with
    | some l => if fieldsTold cx l then match fillV (placeV cx ty) ti.zero parts with
      | some cs => some (.agg cs)
      | none => none else none
    | none => none
  | none => none

def lenOpV (cx : Cx) (ty : Nat) (x : V) : Option V :=
  match cx.T ty with
  | some ti => match x with
    | .s b => if ti.str then some (.i .i64 b.size) else none
    | v => match ti.sl with
      | some _ => match lenV v with
        | some n => some (.i .i64 n)
        | none => none
      | none => none
  | none => none

def minV (x y : V) : Option V :=
  match x, y with
  | .i k a, .i k' b => if k = k' then some (.i k (if b < a then b else a)) else none
  | _, _ => none

def indexAddrV (cx : Cx) (ty : Nat) (x ix : V) (A : Ans) : Option (V × List Prop) :=
  match cx.T ty, ix with
  | some ti, .i _ n => match ti.sl with
    | some e => match cx.T e with
      | some ei => match x with
        | .sl sz m rows => match A with
          | .row cs => if ei.size = sz then some (.fptr cs, [0 ≤ n, n < m, rows[n.toNat]? = some cs]) else none
          | _ => none
        | .own g j sz lo m => if ei.size = sz then some (.eptr g j sz (lo + n.toNat) 0, [0 ≤ n, n < m]) else none
        | _ => none
      | none => none
    | none => match ti.arr with
      | some (len, e) => match cx.T e with
        | some ei => match x with
          | .ptr g j 0 => some (.eptr g j ei.size n.toNat 0, [0 ≤ n, n < len])
          | _ => none
        | none => none
      | none => none
  | _, _ => none

def indexV (cx : Cx) (ty : Nat) (x ix : V) (A : Ans) : Option (V × List Prop) :=
  match cx.T ty, x, ix, A with
  | some ti, .agg cs, .i _ n, .val v => match ti.arr with
    | some (len, e) => match cx.T e with
      | some ei => if ei.agg = false ∧ ei.size = 1 then some (v, [0 ≤ n, n < len, cs[n.toNat]? = some v]) else none
      | none => none
    | none => none
  | _, _, _, _ => none

/-- The bounds of a slice expression: what is told of them, and what they must be. -/
def boundsV (lo hi : Option V) (m : Nat) : Option (Nat × Nat × List Prop) :=
  match lo, hi with
  | some (.i _ l), some (.i _ h) => some (l.toNat, h.toNat, [0 ≤ l, l ≤ h, h ≤ m])
  | none, some (.i _ h) => some (0, h.toNat, [0 ≤ h, h ≤ m])
  | some (.i _ l), none => some (l.toNat, m, [0 ≤ l, l ≤ m])
  | none, none => some (0, m, [])
  | _, _ => none

def sliceV (cx : Cx) (ty : Nat) (x : V) (lo hi : Option V) : Option (V × List Prop) :=
  match cx.T ty with
  | some ti => match ti.sl with
    | some e => match cx.T e with
      | some ei => match x with
        | .sl sz m rows => match boundsV lo hi m with
          | some (l, h, ps) => if ei.size = sz then some (.sl sz (h - l) ((rows.drop l).take (h - l)), ps) else none
          | none => none
        | .own g j sz lo0 m => match boundsV lo hi m with
          | some (l, h, ps) => if ei.size = sz then some (.own g j sz (lo0 + l) (h - l), ps) else none
          | none => none
        | _ => none
      | none => none
    | none => none
  | none => none

def plain (o : Option V) : Option (V × List Prop) :=
  match o with
  | some v => some (v, [])
  | none => none

def pureOp (cx : Cx) (op : Op) (t : List V) (A : Ans) : Option (V × List Prop) :=
  match op with
  | .move x => some (evalV t x, [])
  | .assign x => some (evalV t x, [])
  | .pick c x y => plain (pickV (evalV t c) (evalV t x) (evalV t y))
  | .nilCheck x => plain (nilV (evalV t x))
  | .binOp o ty x y _ => binV cx o ty (evalV t x) (evalV t y)
  | .unOp o _ x => plain (unV o (evalV t x))
  | .convert s d x => plain (convV cx s d (evalV t x))
  | .makeFunc (.func f) first captured => if first.toList.isEmpty && captured.toList.isEmpty then some (.fn f, []) else none
  | .extract x k => plain (extractV (evalV t x) k)
  | .field ty x f => plain (fieldOpV cx ty f (evalV t x))
  | .fieldAddr ty x f => plain (fieldAddrV cx ty f (evalV t x))
  | .build ty parts => plain (buildV cx ty (parts.toList.map fun (i, x) => (i, evalV t x)))
  | .call c => match c.callee, c.args.toList, c.argTypes.toList with
    | .builtin .len, [x], [ty] => plain (lenOpV cx ty (evalV t x))
    | .builtin .min, [x, y], _ => plain (minV (evalV t x) (evalV t y))
    | _, _, _ => none
  | .indexAddr ty x ix => indexAddrV cx ty (evalV t x) (evalV t ix) A
  | .index ty x ix => indexV cx ty (evalV t x) (evalV t ix) A
  | .slice ty x lo hi none => sliceV cx ty (evalV t x) (lo.map (evalV t)) (hi.map (evalV t))
  | _ => none

end Go.Proofs.Ythegkbaijmkhfaa
