/- Operations that neither look into entries nor change anything. -/
import Derived.Test.YthegkbaijmkhfaaAm4
set_option linter.unusedVariables false
set_option linter.unusedSimpArgs false
namespace Go.Proofs.Ythegkbaijmkhfaa
open Go

section
variable {w : World} {F D : Nat → Prop} {ι : Nat → Nat → Value} {t : List V} {a : Act}

theorem RV.ofFL {cs : List V} {ds : List Value} (h : FL w F cs ds) : RV w F D ι (.agg cs) (.agg ds.toArray) :=
  .one _ _ (.agg _ _ (h.all2.imp fun _ _ x => .fv _ _ x))
theorem RV.cell {v : V} {c : Value} (h : RC w F D ι v c) : RV w F D ι v c := .one _ _ (.cell _ _ h)
theorem RV.fv {v : V} {c : Value} (h : FV w F v c) : RV w F D ι v c := .one _ _ (.cell _ _ (.fv _ _ h))

theorem constV_rv (c : Value) : RV w F D ι (constV c) c := by
  unfold constV
  split
  · rename_i cs
    split
    · rename_i h
      have := RV.ofFL (D := D) (ι := ι) (FL.ofCells (w := w) (F := F) cs.toList fun c hc => Array.all_eq_true_iff_forall_mem.1 h c (by simpa using hc))
      simpa using this
    · exact .any _
  · rename_i v hv
    split
    · rename_i h
      exact .fv (.ofCell _ h)
    · exact .any _

theorem eval_rv (h : All2 (RV w F D ι) t a.tmps.toList) (x : Operand) : RV w F D ι (evalV t x) (a.eval x) := by
  cases x with
  | tmp k =>
    simp only [evalV, Act.eval]
    rw [List.getD_eq_getElem?_getD]
    cases hk : t[k]? with
    | none => exact .any _
    | some v =>
      obtain ⟨c, hc, hv⟩ := h.get hk
      have : a.tmps.getD k undef = c := by
        rw [Array.getD_eq_getD_getElem?]
        rw [Array.getElem?_toList] at hc
        rw [hc]; rfl
      rw [this]
      exact hv
  | const v => exact constV_rv v
  | global g => exact .any _
  | func f => exact .fv (.fn f)

theorem RV.inv_b {x : Bool} {c : Value} (h : RV w F D ι (.b x) c) : c = .bool x := by
  cases h with
  | one v c h => cases h with
    | cell v c h => cases h with
      | fv v c h => cases h; rfl
theorem RV.inv_i {k : IntKind} {n : Int} {c : Value} (h : RV w F D ι (.i k n) c) : c = .int k n := by
  cases h with
  | one v c h => cases h with
    | cell v c h => cases h with
      | fv v c h => cases h; rfl
theorem RV.inv_s {x : ByteArray} {c : Value} (h : RV w F D ι (.s x) c) : c = .string x := by
  cases h with
  | one v c h => cases h with
    | cell v c h => cases h with
      | fv v c h => cases h; rfl
theorem RV.inv_fn {f : FuncId} {c : Value} (h : RV w F D ι (.fn f) c) : c = .func (.func f) #[] #[] := by
  cases h with
  | one v c h => cases h with
    | cell v c h => cases h with
      | fv v c h => cases h; rfl
theorem RV.inv_nil {c : Value} (h : RV w F D ι .nil c) : c = .slice none 0 0 := by
  cases h with
  | one v c h => cases h with
    | cell v c h => cases h with
      | fv v c h => cases h; rfl
theorem RV.inv_sl {sz n : Nat} {rows : List (List V)} {c : Value} (h : RV w F D ι (.sl sz n rows) c) : FV w F (.sl sz n rows) c := by
  cases h with
  | one v c h => cases h with
    | cell v c h => cases h with
      | fv v c h => exact h
theorem RV.inv_agg {cs : List V} {c : Value} (h : RV w F D ι (.agg cs) c) : ∃ ds : List Value, c = .agg ds.toArray ∧ All2 (RC w F D ι) cs ds := by
  cases h with
  | one v c h => cases h with
    | cell v c h => cases h with
      | fv v c h => cases h
    | agg cs ds h => exact ⟨ds, rfl, h⟩
theorem RV.inv_tup {cs : List V} {c : Value} (h : RV w F D ι (.tup cs) c) : ∃ ds : List Value, c = .tuple ds.toArray ∧ All2 (RA w F D ι) cs ds := by
  cases h with
  | one v c h => cases h with
    | cell v c h => cases h with
      | fv v c h => cases h
  | tup cs ds h => exact ⟨ds, rfl, h⟩
theorem RV.inv_own {g j sz lo n : Nat} {c : Value} (h : RV w F D ι (.own g j sz lo n) c) : D g ∧ ((∃ b nn cap, ι g j = .slice b nn cap ∧ lo + n ≤ cap ∧ (b = none → cap = 0) ∧ (∀ ad, b = some ad → ad = ⟨ad.block, 0, none⟩) ∧ c = .slice (if cap = lo then b else b.map (·.add (lo * sz))) n (cap - lo)) ∨ (0 < lo ∧ n = 0 ∧ ∃ b cap, c = .slice b 0 cap)) := by
  cases h with
  | one v c h => cases h with
    | cell v c h => cases h with
      | fv v c h => cases h
      | own g j sz lo n b nn cap h1 h2 h3 h4 h5 => exact ⟨h1, .inl ⟨b, nn, cap, h2, h3, h4, h5, rfl⟩⟩
      | own0 g j sz lo b cap h1 h2 => exact ⟨h1, .inr ⟨h2, rfl, b, cap, rfl⟩⟩
theorem RV.inv_ptr {g j off : Nat} {c : Value} (h : RV w F D ι (.ptr g j off) c) : D g ∧ ∃ b, ι g j = .pointer (some ⟨b, 0, none⟩) ∧ c = .pointer (some ⟨b, off, none⟩) := by
  cases h with
  | one v c h => cases h with
    | cell v c h => cases h with
      | fv v c h => cases h
      | ptr g j off b h1 h2 => exact ⟨h1, b, h2, rfl⟩
theorem RV.inv_eptr {g j sz idx off : Nat} {c : Value} (h : RV w F D ι (.eptr g j sz idx off) c) : D g ∧ ∃ b, blk (ι g j) = some b ∧ c = .pointer (some ⟨b, idx * sz + off, none⟩) := by
  cases h with
  | one v c h => cases h with
    | cell v c h => cases h with
      | fv v c h => cases h
      | eptr g j sz idx off b h1 h2 => exact ⟨h1, b, h2, rfl⟩
theorem RV.inv_fptr {cs : List V} {c : Value} (h : RV w F D ι (.fptr cs) c) : ∃ g o ds, F g ∧ FL w F cs ds ∧ Seg w g o ds ∧ c = .pointer (some ⟨g, o, none⟩) := by
  cases h with
  | one v c h => cases h with
    | cell v c h => cases h with
      | fv v c h => cases h
      | fptr cs g o ds h1 h2 h3 => exact ⟨g, o, ds, h1, h2, h3, rfl⟩

/-- The cells of what a value is. -/
theorem RV.cells {v : V} {c : Value} (h : RV w F D ι v c) {cs : List V} (hc : v.cells = some cs) : All2 (RC w F D ι) cs c.cells.toList := by
  cases h with
  | one v c h => cases h with
    | cell v c h =>
      have h1 : c.cells.toList = [c] := by
        have := h.one
        cases c <;> first | rfl | (simp [Value.oneCell'] at this)
      rw [h1]
      have : cs = [v] := by
        cases h with
        | fv v c h => cases h <;> simp_all [V.cells]
        | _ => simp_all [V.cells]
      rw [this]
      exact .cons h .nil
    | agg cs' ds h =>
      simp [V.cells] at hc
      subst hc
      exact h
  | tup cs ds h => simp [V.cells] at hc
  | any c => simp [V.cells] at hc

theorem RA.toRV {v : V} {c : Value} (h : RA w F D ι v c) : RV w F D ι v c := .one _ _ h
end

/-! ### Cells put in their places -/
theorem foldl_splice (vs : List Value) : ∀ (j off : Nat) (cs : Array Value), off + j + vs.length ≤ cs.size →
    ((vs.zipIdx j).foldl (fun (cs : Array Value) (x : Value × Nat) => cs.setIfInBounds (off + x.2) x.1) cs).toList = spliceV cs.toList (off + j) vs := by
  induction vs with
  | nil => intro j off cs h; simp [spliceV]
  | cons v vs ih =>
    intro j off cs h
    simp only [List.zipIdx_cons, List.foldl_cons]
    rw [ih (j + 1) off _ (by simp at h ⊢; omega)]
    simp only [spliceV, Array.toList_setIfInBounds]
    simp at h
    apply List.ext_getElem?
    intro k
    simp only [List.getElem?_append, List.length_append, List.length_take, List.length_set, List.getElem?_take, List.getElem?_drop, List.getElem?_set, List.length_cons, Array.length_toList]
    by_cases h1 : k < off + j
    · simp [show k < min (off + j) cs.size by omega, show k < min (off + j) cs.size + (vs.length + 1) by omega, show k < min (off + (j + 1)) cs.size + vs.length by omega, show k < min (off + (j + 1)) cs.size by omega, h1, show k < off + (j + 1) by omega, show ¬ off + j = k by omega]
    · by_cases h2 : k = off + j
      · subst h2
        simp [show off + j < cs.size by omega, show off + j < min (off + (j + 1)) cs.size by omega, show min (off + j) cs.size = off + j by omega, show off + j < min (off + (j + 1)) cs.size + vs.length by omega]
      · by_cases h3 : k < off + j + (vs.length + 1)
        · have e1 : min (off + j) cs.size = off + j := by omega
          have e2 : min (off + (j + 1)) cs.size = off + (j + 1) := by omega
          simp [e1, e2, h1, show k < off + j + (vs.length + 1) by omega, show k < off + (j + 1) + vs.length by omega, show ¬ k < off + (j + 1) by omega]
          rw [show k - (off + j) = (k - (off + (j + 1))) + 1 by omega, List.getElem?_cons_succ]
        · have e1 : min (off + j) cs.size = off + j := by omega
          have e2 : min (off + (j + 1)) cs.size = off + (j + 1) := by omega
          simp [e1, e2, h1, h3, show ¬ k < off + j + (vs.length + 1) by omega, show ¬ k < off + (j + 1) + vs.length by omega, show ¬ k < off + (j + 1) by omega]
          rw [if_neg (by omega)]
          congr 1
          omega

theorem All2.splice {R : V → Value → Prop} {cs vs : List V} {ds us : List Value} (h : All2 R cs ds) (k : All2 R vs us) (off : Nat) : All2 R (spliceV cs off vs) (spliceV ds off us) := by
  unfold spliceV
  rw [k.length]
  exact ((h.take off).append k).append (h.drop _)

theorem fill_rel {w : World} {F D : Nat → Prop} {ι : Nat → Nat → Value} {place : Nat → Option (Nat × Nat)} : ∀ {ps : List (Nat × V)} {qs : List (Nat × Value)} {cells : List V} {ds : Array Value} {out : List V},
    All2 (fun (x : Nat × V) (y : Nat × Value) => x.1 = y.1 ∧ RV w F D ι x.2 y.2) ps qs → All2 (RC w F D ι) cells ds.toList → fillV place cells ps = some out →
    ∃ es : Array Value, Instr.fill place ds qs = some es ∧ All2 (RC w F D ι) out es.toList
  | [], _, cells, ds, out, .nil, hc, h => by
    simp [fillV] at h
    subst h
    exact ⟨ds, rfl, hc⟩
  | (i, v) :: ps, (j, u) :: qs, cells, ds, out, .cons ⟨hij, hv⟩ t, hc, h => by
    simp only at hij
    subst hij
    simp only [fillV] at h
    split at h
    · cases h
    · rename_i off size hp
      split at h
      · rename_i cs hcs
        split at h
        · rename_i hle
          have hcell := hv.cells hcs
          have hlen : u.cells.size = size := by
            have := hcell.length
            rw [← hle.1, this]; simp
          have hsz : cells.length = ds.size := by simpa using hc.length
          have hout := foldl_splice u.cells.toList 0 off ds (by simp only [Array.length_toList]; omega)
          obtain ⟨es, he, hr⟩ := fill_rel (ds := (u.cells.toList.zipIdx.foldl (fun (cs : Array Value) (x : Value × Nat) => cs.setIfInBounds (off + x.2) x.1) ds)) t (by
            rw [hout]
            exact hc.splice hcell off) h
          refine ⟨es, ?_, hr⟩
          have hcond : (u.cells.size ≠ size || off + u.cells.size > ds.size) = false := by
            simp [hlen]; omega
          simp only [Instr.fill, hp, hcond]
          rw [← he]
          simp only [Bool.false_eq_true, if_false]
          congr 1
          rw [← Array.foldl_toList, Array.toList_zipIdx]
        · cases h
      · cases h

end Go.Proofs.Ythegkbaijmkhfaa
