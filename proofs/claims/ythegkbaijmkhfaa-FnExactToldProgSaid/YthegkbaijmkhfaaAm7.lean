/- The operations of Am6 answer in the model what is told of them. -/
import Derived.Test.YthegkbaijmkhfaaAm6
set_option linter.unusedVariables false
set_option linter.unusedSimpArgs false
namespace Go.Proofs.Ythegkbaijmkhfaa
open Go

/-- The model's operation answers a value, and leaves the world. -/
def Gives (P : Program) (a : Act) (o : Oper) (w : World) (c : Value) : Prop := (execOp a.eval o).run P w = .ok (.value c) w

theorem flatten_drop {α : Type} {sz : Nat} : ∀ {rows : List (List α)} (l : Nat), (∀ r ∈ rows, r.length = sz) → (rows.drop l).flatten = rows.flatten.drop (l * sz)
  | [], l, _ => by simp
  | r :: rows, 0, _ => by simp
  | r :: rows, l + 1, h => by
    have hr : r.length = sz := h r (by simp)
    have e : (l + 1) * sz - r.length = l * sz := by rw [hr, Nat.succ_mul]; omega
    have e' : r.drop ((l + 1) * sz) = [] := List.drop_eq_nil_of_le (by rw [hr, Nat.succ_mul]; omega)
    rw [List.drop_succ_cons, flatten_drop l (fun x hx => h x (by simp [hx])), List.flatten_cons, List.drop_append, e, e', List.nil_append]
theorem flatten_take {α : Type} {sz : Nat} : ∀ {rows : List (List α)} (l : Nat), (∀ r ∈ rows, r.length = sz) → (rows.take l).flatten = rows.flatten.take (l * sz)
  | [], l, _ => by simp
  | r :: rows, 0, _ => by simp
  | r :: rows, l + 1, h => by
    have hr : r.length = sz := h r (by simp)
    have e : (l + 1) * sz - r.length = l * sz := by rw [hr, Nat.succ_mul]; omega
    have e' : r.take ((l + 1) * sz) = r := List.take_of_length_le (by rw [hr, Nat.succ_mul]; omega)
    rw [List.take_succ_cons, List.flatten_cons, flatten_take l (fun x hx => h x (by simp [hx])), List.flatten_cons, List.take_append, e, e']
theorem flatten_len {α : Type} {sz : Nat} : ∀ {rows : List (List α)}, (∀ r ∈ rows, r.length = sz) → rows.flatten.length = rows.length * sz
  | [], _ => by simp
  | r :: rows, h => by
    rw [List.flatten_cons, List.length_append, flatten_len (fun x hx => h x (by simp [hx])), h r (by simp), List.length_cons, Nat.succ_mul]
    omega
theorem flatten_get {α : Type} {sz : Nat} {rows : List (List α)} {i : Nat} {r : List α} (h : ∀ r ∈ rows, r.length = sz) (hr : rows[i]? = some r) : (rows.flatten.drop (i * sz)).take sz = r := by
  rw [← flatten_drop i h]
  have hlt := (List.getElem?_eq_some_iff.1 hr).1
  have he := (List.getElem?_eq_some_iff.1 hr).2
  rw [List.drop_eq_getElem_cons hlt, List.flatten_cons, he]
  have : r.length = sz := h r (he ▸ List.getElem_mem hlt)
  rw [List.take_append_of_le_length (by omega), List.take_of_length_le (by omega)]

theorem FL.drop {w : World} {F : Nat → Prop} {vs : List V} {cs : List Value} (h : FL w F vs cs) (n : Nat) : FL w F (vs.drop n) (cs.drop n) := FL.of (h.all2.drop n)
theorem FL.take {w : World} {F : Nat → Prop} {vs : List V} {cs : List Value} (h : FL w F vs cs) (n : Nat) : FL w F (vs.take n) (cs.take n) := FL.of (h.all2.take n)
theorem FL.length {w : World} {F : Nat → Prop} {vs : List V} {cs : List Value} (h : FL w F vs cs) : vs.length = cs.length := h.all2.length

/-- A piece of a frozen slice. -/
theorem FV.sub {w : World} {F : Nat → Prop} {sz n : Nat} {rows : List (List V)} {b : Option Addr} {cap : Nat} (h : FV w F (.sl sz n rows) (.slice b n cap)) (l m : Nat) (hm : l + m ≤ n) :
    FV w F (.sl sz m ((rows.drop l).take m)) (.slice (if cap = l then b else b.map (·.add (l * sz))) m (cap - l)) := by
  cases h with
  | sl0 sz a cap =>
    have : l = 0 := by omega
    have : m = 0 := by omega
    subst l; subst m
    simpa using FV.sl0 sz _ _
  | sl sz n rows g o cap ds hF hr hn hs hc hseg =>
    have hrow : ((rows.drop l).take m).length = m := by simp [hn]; omega
    by_cases he : cap = l
    · have : m = 0 := by omega
      subst this
      rw [if_pos he]
      simpa using FV.sl0 sz _ _
    · rw [if_neg he]
      simp only [Option.map_some, add_at]
      refine .sl sz m _ g (o + l * sz) (cap - l) ((ds.drop (l * sz)).take (m * sz)) hF ?_ hrow (fun r hr' => hs r (List.mem_of_mem_drop (List.mem_of_mem_take hr'))) (by omega) ((hseg.drop _).take _)
      rw [flatten_take m (fun r hr' => hs r (List.mem_of_mem_drop hr')), flatten_drop l hs]
      exact (hr.drop _).take _

/-- An element of a frozen slice. -/
theorem FV.elem {w : World} {F : Nat → Prop} {sz n : Nat} {rows : List (List V)} {b : Option Addr} {cap : Nat} (h : FV w F (.sl sz n rows) (.slice b n cap)) {i : Nat} {cs : List V} (hi : i < n) (hr : rows[i]? = some cs) :
    ∃ g o ds, b = some ⟨g, o, none⟩ ∧ F g ∧ FL w F cs ds ∧ Seg w g (o + i * sz) ds ∧ cs.length = sz := by
  cases h with
  | sl0 sz a cap => omega
  | sl sz n rows g o cap ds hF hrr hn hs hc hseg =>
    refine ⟨g, o, (ds.drop (i * sz)).take sz, rfl, hF, ?_, (hseg.drop _).take _, ?_⟩
    · rw [← flatten_get hs hr]
      exact (hrr.drop _).take _
    · exact hs cs (List.mem_of_getElem? hr)

section
variable {cx : Cx} {w : World} {F D : Nat → Prop} {ι : Nat → Nat → Value} {t : List V} {a : Act} {o : Oper}

theorem partV_run {ti : TI} {ty : Nat} {i : TypeInfo} {d : TypeDesc} {z : Value} (h : TF cx.P ty ti i d z) {cs : List V} {ds : List Value} (hc : All2 (RC w F D ι) cs ds) {off : Nat} {v : V} (hp : partV ti cs off = some v) :
    ∃ c, (part ty ds.toArray off).run cx.P w = .ok c w ∧ RV w F D ι v c := by
  unfold partV at hp
  unfold part
  simp only [Sem.run_bind, h.isAgg, Result.andThen_ok]
  by_cases ha : ti.agg = true
  · rw [if_pos ha] at hp ⊢
    split at hp
    · rename_i hle
      injection hp with hp
      subst hp
      refine ⟨.agg (ds.toArray.extract off (off + ti.size)), by simp [Sem.run_bind, h.sizeOf], ?_⟩
      have : (ds.toArray.extract off (off + ti.size)) = ((ds.drop off).take ti.size).toArray := by
        simp [List.extract_toArray, List.extract_eq_take_drop]
      rw [this]
      exact .one _ _ (.agg _ _ ((hc.drop off).take _))
    · cases hp
  · rw [if_neg ha] at hp ⊢
    obtain ⟨c, hc', hv⟩ := hc.get hp
    exact ⟨c, by simp [hc'], .cell hv⟩

theorem fieldV_tf {s f : Nat} {off : Nat} {fi : TI} (h : fieldV cx s f = some (off, fi)) : ∃ ti i d z fs fld fii fd fz, TF cx.P s ti i d z ∧ d = .struct fs ∧ fs[f]? = some fld ∧ fld.offset = off ∧ TF cx.P fld.type fi fii fd fz ∧ fi.size ≠ 0 := by
  unfold fieldV at h
  split at h
  · rename_i ti hti
    split at h
    · rename_i l hl
      split at h
      · rename_i off' ft hf
        split at h
        · rename_i fi' hfi
          split at h
          · cases h
          · rename_i hsz
            injection h with h
            injection h with h1 h2
            subst h1; subst h2
            obtain ⟨i, d, z, htf⟩ := cx.tf hti
            obtain ⟨fs, hd, hfs⟩ := htf.isStruct hl
            rw [← hfs, List.getElem?_map] at hf
            obtain ⟨fld, hfld, he⟩ := Option.map_eq_some_iff.1 hf
            injection he with he1 he2
            subst he1; subst he2
            obtain ⟨fii, fd, fz, hft⟩ := cx.tf hfi
            exact ⟨ti, i, d, z, fs, fld, fii, fd, fz, htf, hd, by simpa using hfld, rfl, hft, hsz⟩
        · cases h
      · cases h
    · cases h
  · cases h

theorem fieldAt_run {s f off : Nat} {fi : TI} (h : fieldV cx s f = some (off, fi)) (g o : Nat) : (Instr.fieldAt s (.pointer (some ⟨g, o, none⟩)) f).run cx.P w = .ok (.pointer (some ⟨g, o + off, none⟩)) w := by
  obtain ⟨ti, i, d, z, fs, fld, fii, fd, fz, h1, rfl, h3, rfl, h5, h6⟩ := fieldV_tf h
  simp [Instr.fieldAt, Sem.run_bind, h1.underlying, h3, Instr.sureAddr, fieldPlace, h5.sizeOf, h6, add_at]

theorem field_run {s f off : Nat} {fi : TI} (h : fieldV cx s f = some (off, fi)) {cs : List V} {ds : List Value} (hc : All2 (RC w F D ι) cs ds) {v : V} (hp : partV fi cs off = some v) :
    ∃ c, (Instr.field s (.agg ds.toArray) f).run cx.P w = .ok c w ∧ RV w F D ι v c := by
  obtain ⟨ti, i, d, z, fs, fld, fii, fd, fz, h1, rfl, h3, rfl, h5, h6⟩ := fieldV_tf h
  obtain ⟨c, hr, hv⟩ := partV_run h5 hc hp
  exact ⟨c, by simp [Instr.field, Sem.run_bind, h1.underlying, h3, asAgg, hr], hv⟩

end

end Go.Proofs.Ythegkbaijmkhfaa
