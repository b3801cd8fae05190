/- Words that the printed texts use: positions in code, rows told otherwise, structs of ints compared. -/
import Derived.Test.YthegkbaijmkhfaaAm31
set_option linter.unusedVariables false
set_option linter.unusedSimpArgs false
namespace Go.Proofs.Ythegkbaijmkhfaa
open Go

def bodyOf (f : Func) : Code := match f.body with
  | some c => c
  | none => .skip
/-- The place behind so many regions, where the tests come out so. -/
def posI : Nat → Nat → List Bool → List Item → List Item
  | 0, _, _, k => k
  | f + 1, n, cs, k => match k with
    | .code (.region id ops dr) :: k' => match n with
      | 0 => .code (.region id ops dr) :: k'
      | n + 1 => posI f n cs k'
    | .code .skip :: k' => posI f n cs k'
    | .inBlock _ :: k' => posI f n cs k'
    | .code (.seq x y) :: k' => posI f n cs (.code x :: .code y :: k')
    | .code (.cond o x y) :: k' => match cs with
      | c :: cs => posI f n cs (.code (bif c then x else y) :: k')
      | [] => .code (.cond o x y) :: k'
    | .code (.block id c) :: k' => posI f n cs (.code c :: .inBlock id :: k')
    | .code (.loop c) :: k' => posI f n cs (.code c :: .inLoop c :: k')
    | .inLoop c :: k' => posI f n cs (.code c :: .inLoop c :: k')
    | .code (.exit id) :: k' => match exitTo id k' with
      | some k2 => posI f n cs k2
      | none => .code (.exit id) :: k'
    | k => k

def td (i : Nat) (d : Bool) : Nat × Tell := (i, { d := some d })
def tr (i : Nat) (cs : List V) : Nat × Tell := (i, { a := .row cs })
def w64 (n : Int) : Int := IntKind.wrap .i64 n

section
variable {α : Type} {enc : α → List V} {l l' : List α} {n : Nat} {x y : α} {cs : List V} {e sz : Nat}
theorem row_rep (h : cs = enc x) : Ent.row e sz n (List.replicate n cs) = erow e sz enc (List.replicate n x) := by
  subst h
  simp [erow]
theorem row_copy (h : l.length = n) : Ent.row e sz n (l.map enc) = erow e sz enc l := by
  subst h
  rfl
theorem arr_set {k : Nat} (h : cs = enc y) : Ent.arr e sz n ((l.map enc).set k cs) = .arr e sz n ((l.set k y).map enc) := by
  subst h
  simp [List.map_set]
/-! ### Rows that own what lies in them -/
def edeep (e sz : Nat) (enc : α → List V) (l : List α) : Ent := .deep false e sz l.length (l.map enc)
def vdsl (e sz : Nat) (enc : α → List V) (l : List α) : V := .dsl e sz l.length (l.map enc)
theorem deep_rep (h : cs = enc x) : Ent.deep false e sz n (List.replicate n cs) = edeep e sz enc (List.replicate n x) := by
  subst h
  simp [edeep]
theorem deep_set0 {k : Nat} (h : cs = enc y) : Ent.deep false e sz l.length ((l.map enc).set (0 + k) cs) = edeep e sz enc (l.set k y) := by
  subst h
  simp [edeep, List.map_set]
theorem shut_set0 {k : Nat} (h : cs = enc y) : (l.map enc).set (0 + k) cs = (l.set k y).map enc := by
  subst h
  simp [List.map_set]
theorem shut_more {rows X : List (List V)} {k : Nat} {c c' : List V} (h : rows.set k c' = X) : (rows.set k c).set k c' = X := by rw [List.set_set]; exact h
theorem set_get {rows : List (List V)} {k : Nat} (h : k < rows.length) : (rows.set k cs)[k]? = some cs := by simp [h]
theorem lt_set {rows : List (List V)} {k j : Nat} (h : k < rows.length) : k < (rows.set j cs).length := by simpa using h
theorem map_lt0 {i : Int} (h : idx l i = some y) : 0 + i.toNat < (l.map enc).length := by
  have := (idx1 h)
  have := (idx0 h)
  rw [List.length_map]
  omega
theorem flat_idx {i : Int} {f : α → V} (hf : ∀ x, enc x = [f x]) (h : idx l i = some y) : (l.map enc).flatten[i.toNat]? = some (f y) := by
  have e : (l.map enc).flatten = l.map f := by
    induction l with
    | nil => rfl
    | cons x l ih => 
      have ih' : (l.map enc).flatten = l.map f := by
        clear ih h
        induction l with
        | nil => rfl
        | cons x l ih => simp [hf, ih]
      simp [hf, ih']
  rw [e, List.getElem?_map]
  unfold idx at h
  split at h
  · rw [h]; rfl
  · cases h
theorem sl_lh {lo hi : Int} (h : 0 ≤ lo ∧ lo ≤ hi ∧ hi ≤ (l.length : Nat)) : V.sl sz (hi.toNat - lo.toNat) (((l.map enc).drop lo.toNat).take (hi.toNat - lo.toNat)) = vsl sz enc ((l.drop lo.toNat).take (hi.toNat - lo.toNat)) :=
  sl_take (by omega) (by omega)
theorem sl_h {hi : Int} (h : 0 ≤ hi ∧ hi ≤ (l.length : Nat)) : V.sl sz (hi.toNat - 0) (((l.map enc).drop 0).take (hi.toNat - 0)) = vsl sz enc ((l.drop 0).take (hi.toNat - 0)) :=
  sl_take (by omega) (by omega)
theorem sl_l {lo : Int} (h : 0 ≤ lo ∧ lo ≤ (l.length : Nat)) : V.sl sz (l.length - lo.toNat) (((l.map enc).drop lo.toNat).take (l.length - lo.toNat)) = vsl sz enc ((l.drop lo.toNat).take (l.length - lo.toNat)) :=
  sl_take (by omega) (by omega)
end

def nonesN : Nat → List (Option V)
  | 0 => []
  | n + 1 => none :: nonesN n
theorem scalO_none : ∀ n, ScalO (nonesN n)
  | 0 => fun v h => by cases h
  | n + 1 => fun v h => by
    rcases List.mem_cons.1 h with q | q
    · cases q
    · exact scalO_none n v q

/-! ### Structs of ints -/
section
variable {P : Program} {d : Nat} {xs ys : Array Value} {f : Field} {fs : List Field} {a b : Value} {r s : Bool} {w : World}
theorem eqf_nil : (Op.eqFields d xs ys []).run P w = .ok true w := by simp [Op.eqFields]
theorem eqf_cons (hn : (f.name == "_") = false) (ha : (part f.type xs f.offset).run P w = .ok a w) (hb : (part f.type ys f.offset).run P w = .ok b w) (he : (Op.equalIn d f.type a b).run P w = .ok r w) (hr : (Op.eqFields d xs ys fs).run P w = .ok s w) : (Op.eqFields d xs ys (f :: fs)).run P w = .ok (r && s) w := by
  have hn' : f.name ≠ "_" := by simpa using hn
  rw [Op.eqFields]
  simp only [if_pos hn', Sem.run_bind, ha, hb, he, Result.andThen_ok]
  cases r
  · simp
  · simpa using hr
theorem eq_of_fields {t : TypeId} {fs : Array Field} (hu : P.underlying t = some (.struct fs)) (hp : P.stoodInHeld t = false) (h : (Op.eqFields d xs ys fs.toList).run P w = .ok r w) : (Op.equalIn (d + 1) t (.agg xs) (.agg ys)).run P w = .ok r w := by
  have hf : P.fieldsOf t = fs := by simp [Program.fieldsOf, hu]
  rw [run_equalIn_struct (P := P) w d t xs ys (by rw [hf]; exact hu) hp, hf]
  exact h
theorem eq_of_int {t : TypeId} {k : IntKind} {m n : Int} (h : P.underlying t = some (.int k)) : (Op.equalIn (d + 1) t (.int .i64 m) (.int .i64 n)).run P w = .ok (m == n) w := run_equalIn_int w d t .i64 k m n h
end

end Go.Proofs.Ythegkbaijmkhfaa
