/- What the model's operations do, in the words of Am1. -/
import Derived.Test.YthegkbaijmkhfaaAm3
set_option linter.unusedVariables false
set_option linter.unusedSimpArgs false
namespace Go.Proofs.Ythegkbaijmkhfaa
open Go

/-- What a row of the table says of the program. -/
structure TF (P : Program) (t : Nat) (ti : TI) (i : TypeInfo) (d : TypeDesc) (z : Value) : Prop where
  info : P.info? t = some i
  und : P.underlying t = some d
  zero : i.zero = some z
  size : i.size = ti.size
  bytes : i.bytes = ti.bytes
  zeros : z.cells.toList.map V.ofCell = ti.zero
  one : ∀ c ∈ z.cells.toList, c.oneCell' = true
  agg : dAgg d = ti.agg
  sl : dSl d = ti.sl
  arr : dArr d = ti.arr
  ik : dInt d = ti.ik
  fs : dFs d = ti.fs
  str : dStr d = ti.str
  ptr : dPtr d = ti.ptr
  bl : dBl d = ti.bl

theorem Cx.tf (cx : Cx) {t : Nat} {ti : TI} (h : cx.T t = some ti) : ∃ i d z, TF cx.P t ti i d z := by
  have := cx.hT t ti h
  unfold tiOf at this
  split at this
  · rename_i i d hi hd
    split at this
    · rename_i z hz
      split at this
      · rename_i h1
        injection this with this
        subst this
        exact ⟨i, d, z, hi, hd, hz, rfl, rfl, rfl, fun c hc => Array.all_eq_true_iff_forall_mem.1 h1 c (by simpa using hc), rfl, rfl, rfl, rfl, rfl, rfl, rfl, rfl⟩
      · cases this
    · cases this
  · cases this

section
variable {P : Program} {t : Nat} {ti : TI} {i : TypeInfo} {d : TypeDesc} {z : Value} {w : World}
theorem TF.sizeOf (h : TF P t ti i d z) : (sizeOf t).run P w = .ok ti.size w := by
  simp [Go.sizeOf, typeInfo, h.info, h.size]
theorem TF.zeroValue (h : TF P t ti i d z) : (zeroValue t).run P w = .ok z w := by
  simp [Go.zeroValue, typeInfo, h.info, h.zero]
theorem TF.isAgg (h : TF P t ti i d z) : (isAgg t).run P w = .ok ti.agg w := by
  have ha := h.agg
  unfold Go.isAgg
  rw [Sem.run_bind, run_underlying h.und w]
  cases d <;> simp_all [dAgg, dSl, dArr, dInt, dFs, dStr]
theorem TF.underlying (h : TF P t ti i d z) : (underlying t).run P w = .ok d w := run_underlying h.und w
theorem TF.isSl (h : TF P t ti i d z) {e : Nat} (hs : ti.sl = some e) : d = .slice e := by
  have := h.sl
  rw [hs] at this
  cases d <;> simp_all [dAgg, dSl, dArr, dInt, dFs, dStr]
theorem TF.isArr (h : TF P t ti i d z) {n e : Nat} (hs : ti.arr = some (n, e)) : d = .array n e := by
  have := h.arr
  rw [hs] at this
  cases d <;> simp_all [dAgg, dSl, dArr, dInt, dFs, dStr]
theorem TF.isInt (h : TF P t ti i d z) {k : IntKind} (hs : ti.ik = some k) : d = .int k := by
  have := h.ik
  rw [hs] at this
  cases d <;> simp_all [dAgg, dSl, dArr, dInt, dFs, dStr]
theorem TF.isStruct (h : TF P t ti i d z) {l : List (Nat × Nat)} (hs : ti.fs = some l) : ∃ fs : Array Field, d = .struct fs ∧ fs.toList.map (fun f => (f.offset, f.type)) = l := by
  have := h.fs
  rw [hs] at this
  cases d <;> simp_all [dAgg, dSl, dArr, dInt, dFs, dStr]
theorem TF.isBl (h : TF P t ti i d z) (hs : ti.bl = true) : d = .bool := by
  have := h.bl
  rw [hs] at this
  cases d <;> simp_all [dBl]
theorem TF.isStr (h : TF P t ti i d z) (hs : ti.str = true) : d = .string := by
  have := h.str
  rw [hs] at this
  cases d <;> simp_all [dAgg, dSl, dArr, dInt, dFs, dStr]
end

theorem add_at (g o n : Nat) : (⟨g, o, none⟩ : Addr).add n = ⟨g, o + n, none⟩ := by
  unfold Addr.add
  split <;> simp_all

theorem run_loadCells_seg {P : Program} {w : World} {g o : Nat} {ds : List Value} (h : Seg w g o ds) : (loadCells ⟨g, o, none⟩ ds.length).run P w = .ok ds.toArray w :=
  run_loadCells_list (P := P) w ⟨g, o, none⟩ ds (fun j v hv => by rw [add_at]; exact h j v hv)

theorem run_load_seg {P : Program} {w : World} {g o : Nat} {c : Value} (h : w.cell? ⟨g, o, none⟩ = some c) : (load ⟨g, o, none⟩).run P w = .ok c w := by
  simp [load, Sem.run, h]

/-- A variable is read: of a struct the cells, else the one cell. -/
def readAs (ti : TI) (ds : List Value) : Option Value :=
  if ti.agg then (if ti.size ≤ ds.length then some (.agg (ds.take ti.size).toArray) else none) else ds[0]?

theorem run_loadVar {P : Program} {t : Nat} {ti : TI} {i : TypeInfo} {d : TypeDesc} {z : Value} {w : World} (h : TF P t ti i d z) {g o : Nat} {ds : List Value} (hs : Seg w g o ds) {c : Value} (hc : readAs ti ds = some c) :
    (loadVar t ⟨g, o, none⟩).run P w = .ok c w := by
  unfold readAs at hc
  unfold loadVar
  simp only [Sem.run_bind, h.isAgg, Result.andThen_ok]
  by_cases ha : ti.agg = true
  · rw [if_pos ha] at hc
    rw [if_pos ha]
    split at hc
    · rename_i hle
      injection hc with hc
      have := run_loadCells_seg (P := P) (hs.take ti.size)
      rw [List.length_take, Nat.min_eq_left hle] at this
      simp [Sem.run_bind, h.sizeOf, this, hc]
    · cases hc
  · rw [if_neg ha] at hc
    rw [if_neg ha]
    exact run_load_seg (by simpa using hs 0 c hc)

theorem RC.one {w : World} {F D : Nat → Prop} {ι : Nat → Nat → Value} {v : V} {c : Value} (h : RC w F D ι v c) : c.oneCell' = true := by
  cases h with
  | fv v c h => cases h <;> first | rfl | assumption
  | _ => rfl

end Go.Proofs.Ythegkbaijmkhfaa
