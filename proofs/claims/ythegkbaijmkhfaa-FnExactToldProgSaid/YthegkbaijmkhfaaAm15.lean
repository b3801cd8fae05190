/- Rows of the call's own: copied into; literals. -/
import Derived.Test.YthegkbaijmkhfaaAm14
set_option linter.unusedVariables false
set_option linter.unusedSimpArgs false
namespace Go.Proofs.Ythegkbaijmkhfaa
open Go

section
variable {cx : Cx} {Γ : Ctx} {F : Nat → Prop} {ι : Nat → Nat → Value} {S : St} {a : Act} {w : World}

def copyM (cx : Cx) (ty : Nat) (s x : V) : RdM Out :=
  match cx.T ty with
  | some ti => match ti.sl with
    | some e => match cx.T e with
      | some ei => RdM.bind (srcM x) fun q =>
        match s with
        | .own g j sz 0 n => RdM.bind (RdM.rd g j) fun en => match en with
          | .row e' sz' n' rows => if (q.1 = ei.size ∨ q.2.1 = 0) ∧ sz = ei.size ∧ sz' = ei.size then RdM.pure { v := .i .i64 n', upd := [((g, j), .row e' sz' n' q.2.2.1)], obl := (n = n') :: (q.2.1 = n') :: q.2.2.2 } else RdM.no
          | _ => RdM.no
        | _ => RdM.no
      | none => RdM.no
    | none => RdM.no
  | none => RdM.no

theorem firstCells_run {P : Program} {size m : Nat} {b : Option Addr} {cap : Nat} {ds : List Value} (hl : ds.length = m * size) (h : (m = 0 ∧ ds = []) ∨ ∃ g o, b = some ⟨g, o, none⟩ ∧ Seg w g o ds) : (Builtin.firstCells size m (.slice b m cap)).run P w = .ok ds.toArray w := by
  rcases h with ⟨rfl, rfl⟩ | ⟨g, o, rfl, hs⟩
  · cases b <;> simp [Builtin.firstCells, loadCells, loadCellsFrom]
  · exact run_firstCells_some w size m _ _ _ ds hl (fun j v hv => by rw [add_at]; exact hs j v hv)

theorem copyM_run (h : Rel Γ F ι S a w) {grp : Nat} {ob : Oper} {ty ty2 : Nat} {s x : Operand} (ho : ob.op = .call { callee := .builtin .copy, args := #[s, x], argTypes := #[ty, ty2] }) {out : Out} {lg : List (Nat × Nat)}
    (hp : copyM cx ty (evalV S.t s) (evalV S.t x) S.ent = some (out, lg)) (hob : ∀ p ∈ out.obl, p) : Done cx.P Γ ι S grp ob out a w := by
  have hs := eval_rv h.tmps s
  have hx := eval_rv h.tmps x
  unfold copyM at hp
  cases hti : cx.T ty with
  | none => rw [hti] at hp; cases hp
  | some ti =>
  rw [hti] at hp
  simp only at hp
  cases hsl : ti.sl with
  | none => rw [hsl] at hp; cases hp
  | some e =>
  rw [hsl] at hp
  simp only at hp
  cases hei : cx.T e with
  | none => rw [hei] at hp; cases hp
  | some ei =>
  rw [hei] at hp
  simp only at hp
  obtain ⟨i, d, z, htf⟩ := cx.tf hti
  obtain ⟨i', d', z', hef⟩ := cx.tf hei
  obtain rfl := htf.isSl hsl
  obtain ⟨⟨sz, m, rows2, sps⟩, l1, l2, hsrc, hp', hl12⟩ := RdM.bind_some hp
  clear hp
  have hsob : ∀ p ∈ sps, p := by
    generalize evalV S.t s = sv at hp'
    cases sv <;> try (cases hp'; done)
    case own g j sz0 lo0 n0 =>
      cases lo0 with
      | succ q => cases hp'
      | zero =>
      simp only at hp'
      obtain ⟨en, l3, l4, hrd, hp'', hl34⟩ := RdM.bind_some hp'
      clear hp'
      cases en <;> try (cases hp''; done)
      simp only at hp''
      split at hp'' <;> try (cases hp''; done)
      have := RdM.pure_some hp''
      injection this with h2 h3
      subst h2
      exact fun p hp => hob p (List.mem_cons.2 (.inr (List.mem_cons.2 (.inr hp))))
  obtain ⟨hm, hl2, b2, cap2, hc2, ds, hf2, hor2⟩ := srcM_run h hx hsrc hsob
  generalize evalV S.t s = sv at hp' hs
  cases sv <;> try (cases hp'; done)
  case own g j sz0 lo0 n0 =>
    cases lo0 with
    | succ q => cases hp'
    | zero =>
    simp only at hp'
    obtain ⟨en, l3, l4, hrd, hp'', hl34⟩ := RdM.bind_some hp'
    clear hp'
    have he := (RdM.rd_some hrd).1
    simp only at he
    have hre := h.ents g j en he
    cases en <;> try (cases hp''; done)
    case row e' sz' n' rows =>
      simp only at hp''
      split at hp'' <;> try (cases hp''; done)
      rename_i hcond
      obtain ⟨hc1, rfl, rfl⟩ := hcond
      have := RdM.pure_some hp''
      injection this with h2 h3
      subst h2
      have hnn : n0 = n' := hob _ (by simp)
      have hmm : m = n' := hob _ (by simp)
      subst hnn
      have hmm' := hmm
      obtain ⟨flat, hown0, hf0, hn0, hl0⟩ := hre
      have hrows : ∀ r ∈ rows2, r.length = ei.size := by
        intro r hr
        rcases hc1 with q | q
        · rw [← q]; exact hl2 r hr
        · have : rows2 = [] := List.eq_nil_of_length_eq_zero (hm.trans q)
          rw [this] at hr; cases hr
      have hdl : ds.length = n0 * ei.size := by rw [← hf2.length, flatten_len hrows, hm, hmm]
      obtain ⟨hD, ⟨b, nn, cap, hι, hlo, hb0, hb1, hc⟩ | ⟨hl0', _⟩⟩ := hs.inv_own
      case inr => omega
      have hsv : a.eval s = .slice b n0 cap := by
        rw [hc]
        cases b with
        | none => have := hb0 rfl; subst this; simp
        | some ad => by_cases q : cap = 0 <;> simp [q, Addr.add]
      have hfc := firstCells_run (P := cx.P) (size := ei.size) (m := m) (cap := cap2) (by rw [hmm]; exact hdl) hor2
      rw [hmm] at hfc
      rcases hown0.2 with ⟨hv, hz⟩ | ⟨g0, cap0, cur, hv, hbg, hg, hnc, hcm, hcs, ht⟩
      · rw [hι] at hv
        injection hv with e1 e2 e3
        subst e1; subst hz; subst e3
        have hrows0 : rows2 = [] := List.eq_nil_of_length_eq_zero (hm.trans hmm)
        have hrows1 : rows = [] := List.eq_nil_of_length_eq_zero hn0
        subst hrows0; subst hrows1
        have hset : S.setE g j (.row e' ei.size 0 []) = S := by
          obtain ⟨l, hl⟩ := St.D_of_ent he
          rw [setE_eq hl]
          rw [ent_eq hl] at he
          rw [set_same he, set_same hl]
        refine ⟨_, .int .i64 0, w, F, ι, ?_, .inl rfl, ?_⟩
        · simp [execOp, ho, resolve, invoke, builtin, hsv, hc2, Builtin.copy_, Sem.run_bind, htf.underlying, hef.sizeOf, Builtin.lenOf, hmm, hfc, goInt]
        · simp only [St.apply, St.upds, hset]
          exact h.put ob.dst (.fv (.i _ _))
      · rw [hι] at hv
        injection hv with e1 e2 e3
        subst e1; subst e3
        have hst := run_storeCells_at cx.P g0 0 e' ds 0 cur w hg (by rw [hdl, hcs]; simpa using Nat.mul_le_mul_right _ hnc) hf2.all_one
        simp only [Nat.add_zero] at hst
        have hsp : cur.toList.take 0 ++ ds ++ cur.toList.drop (0 + ds.length) = spliceV cur.toList 0 ds := rfl
        rw [hsp] at hst
        have hrun : (execOp a.eval ob).run cx.P w = .ok (.value (.int .i64 n0)) (w.setRow g0 (spliceV cur.toList 0 ds).toArray) := by
          simp [execOp, ho, resolve, invoke, builtin, hsv, hc2, Builtin.copy_, Sem.run_bind, htf.underlying, hef.sizeOf, Builtin.lenOf, hmm, hfc, goInt, hst]
        refine ⟨_, _, _, F, ι, hrun, .inl rfl, ?_⟩
        have hcl : n0 * ei.size ≤ cur.size := by rw [hcs]; exact Nat.mul_le_mul_right _ hnc
        have hw := h.write (e' := .row e' ei.size n0 rows2) (w' := w.setRow g0 (spliceV cur.toList 0 ds).toArray) he rfl ⟨rfl, rfl, rfl⟩ (setRow_size _ _ _) (fun k hk => setRow_other w g0 k _ fun q => hk (by rw [hι, q]; rfl)) fun hs' => by
          refine ⟨ds, ⟨hdl, .inr ⟨g0, cap, _, hι.trans (by rw [e2]), hbg, setRow_heap w g0 cur _ e' (0, 0) hg, hnc, hcm, ?_, ?_⟩⟩, hf2.mono hs' (fun _ y => y), hm.trans hmm, hrows⟩
          · rw [List.size_toArray, splice_len _ _ _ (by simp; omega)]; simpa using hcs
          · simp only
            rw [take_splice _ _ _ _ (by omega) (by simpa using hcl)]
            unfold spliceV
            have : (cur.toList.take (n0 * ei.size)).length = n0 * ei.size := by simp; omega
            rw [List.drop_eq_nil_of_le (by omega)]
            simp
        exact (hw (fun k hk => hk)).put ob.dst (.fv (.i _ _))

/-! ### Literals of slices -/
def fzParts (ck : List (Option Nat)) : List (Nat × V) → RdM (List (Nat × List V) × List Upd × List Prop)
  | [] => RdM.pure ([], [], [])
  | (i, v) :: ps => match v.cells with
    | some cs => RdM.bind (fzPs ck cs) fun x => RdM.bind (fzParts ck ps) fun y => RdM.pure ((i, x.1) :: y.1, x.2.1 ++ y.2.1, x.2.2 ++ y.2.2)
    | none => RdM.no

theorem fzParts_run {ck : List (Option Nat)} {ps : List (Nat × V)} {qs : List (Nat × Value)} : ∀ {rs : List (Nat × List V)} {us : List Upd} {fps : List Prop} {lg : List (Nat × Nat)} {F : Nat → Prop} {S' : St}, Rel Γ F ι S' a w → Frz S S' → All2 (fun (x : Nat × V) (y : Nat × Value) => x.1 = y.1 ∧ RV w F S'.D ι x.2 y.2) ps qs → fzParts ck ps S.ent = some ((rs, us, fps), lg) → (∀ p ∈ fps, p) →
    ∃ F', (∀ k, F k → F' k) ∧ Rel Γ F' ι (S'.upds us) a w ∧ Frz S (S'.upds us) ∧ All2 (fun (x : Nat × List V) (y : Nat × Value) => x.1 = y.1 ∧ FL w F' x.2 y.2.cells.toList) rs qs := by
  induction ps generalizing qs with
  | nil =>
    intro rs us fps lg F S' h hS hc hf hob
    have := RdM.pure_some hf
    injection this with h1 h2
    injection h1 with h1 h3
    injection h3 with h3 h4
    subst h1; subst h3; subst h4
    cases hc
    exact ⟨F, fun _ x => x, h, hS, .nil⟩
  | cons p ps ih =>
    intro rs us fps lg F S' h hS hc hf hob
    obtain ⟨i, v⟩ := p
    cases hc with
    | @cons _ q _ qs' hv ht =>
      unfold fzParts at hf
      cases hcs : v.cells with
      | none => rw [hcs] at hf; cases hf
      | some cs =>
      rw [hcs] at hf
      simp only at hf
      obtain ⟨⟨v1, us1, ps1⟩, l1, l2, hf1, hf2, _⟩ := RdM.bind_some hf
      obtain ⟨⟨vs1, us2, ps2⟩, l3, l4, hf3, hf4, _⟩ := RdM.bind_some hf2
      have := RdM.pure_some hf4
      injection this with h1 h2
      injection h1 with h1 h3
      injection h3 with h3 h4
      subst h1; subst h3; subst h4
      obtain ⟨F1, hF1, hr1, hS1, hv1⟩ := fzPs_run h hS (hv.2.cells hcs) hf1 (fun p hp => hob p (List.mem_append.2 (.inl hp)))
      have hD : ∀ k, S'.D k → (S'.upds us1).D k := fun k x => (upds_D S' k us1).2 x
      obtain ⟨F2, hF2, hr2, hS2, hv2⟩ := ih hr1 hS1 (ht.imp fun _ _ x => ⟨x.1, x.2.mono (fun _ _ _ => rfl) hF1 hD (fun _ _ _ => rfl)⟩) hf3 (fun p hp => hob p (List.mem_append.2 (.inr hp)))
      rw [← St.upds_append] at hr2 hS2
      exact ⟨F2, fun k x => hF2 k (hF1 k x), hr2, hS2, .cons ⟨hv.1, hv1.mono (fun _ _ _ => rfl) hF2⟩ hv2⟩

def setRows (sz : Nat) : List (List V) → List (Nat × List V) → Option (List (List V))
  | rows, [] => some rows
  | rows, (i, cs) :: ps => if i < rows.length ∧ cs.length = sz then setRows sz (rows.set i cs) ps else none

theorem splice_whole {α : Type} (r vs : List α) (h : vs.length = r.length) : spliceV r 0 vs = vs := by
  unfold spliceV
  rw [List.drop_eq_nil_of_le (by omega)]
  simp

theorem setRows_run {sz len : Nat} {ps : List (Nat × List V)} {qs : List (Nat × Value)} (hps : All2 (fun (x : Nat × List V) (y : Nat × Value) => x.1 = y.1 ∧ FL w F x.2 y.2.cells.toList) ps qs) : ∀ {rows out : List (List V)} {ds : Array Value}, (∀ r ∈ rows, r.length = sz) → rows.length = len → FL w F rows.flatten ds.toList → setRows sz rows ps = some out →
    ∃ es : Array Value, Instr.fill (fun i => some (i * sz, sz)) ds qs = some es ∧ FL w F out.flatten es.toList ∧ out.length = len ∧ ∀ r ∈ out, r.length = sz := by
  induction hps with
  | nil =>
    intro rows out ds hl hlen hf h
    simp [setRows] at h
    subst h
    exact ⟨ds, rfl, hf, hlen, hl⟩
  | @cons p q ps qs hpq ht ih =>
    intro rows out ds hl hlen hf h
    obtain ⟨i, cs⟩ := p
    obtain ⟨j, u⟩ := q
    obtain ⟨hij, hfl⟩ := hpq
    simp only at hij hfl
    subst hij
    simp only [setRows] at h
    split at h <;> try (cases h; done)
    rename_i hcond
    obtain ⟨hi, hcl⟩ := hcond
    have hul : u.cells.size = sz := by rw [← hcl, hfl.length]; simp
    have hdl : ds.size = len * sz := by
      have := hf.length
      rw [flatten_len hl, hlen] at this
      simpa using this.symm
    have hpos : i * sz + sz ≤ len * sz := by rw [← Nat.succ_mul]; exact Nat.mul_le_mul_right _ (by omega)
    have hri : rows[i]? = some rows[i] := List.getElem?_eq_getElem hi
    have hrl : (rows[i]).length = sz := hl _ (List.getElem_mem hi)
    have hfs := flatten_splice (vs := cs) (off := 0) hl hri (by omega)
    rw [splice_whole _ _ (by omega), Nat.add_zero] at hfs
    have hout := foldl_splice u.cells.toList 0 (i * sz) ds (by simp only [Array.length_toList]; omega)
    rw [Nat.add_zero] at hout
    obtain ⟨es, he, hr⟩ := ih (rows := rows.set i cs) (out := out) (ds := u.cells.toList.zipIdx.foldl (fun (cs : Array Value) (x : Value × Nat) => cs.setIfInBounds (i * sz + x.2) x.1) ds) (by
        intro r hr
        rcases List.mem_or_eq_of_mem_set hr with hr | rfl
        · exact hl r hr
        · exact hcl) (by simpa using hlen) (by
        rw [hfs, hout]
        exact FL.of (hf.all2.splice hfl.all2 _)) h
    refine ⟨es, ?_, hr⟩
    have hcond' : (u.cells.size ≠ sz || i * sz + u.cells.size > ds.size) = false := by
      simp [hul]; omega
    simp only [Instr.fill, hcond']
    rw [← he]
    simp only [Bool.false_eq_true, if_false]
    congr 1
    rw [← Array.foldl_toList, Array.toList_zipIdx]

def buildSliceM (cx : Cx) (grp ty len : Nat) (parts : List (Nat × V)) (A : Ans) : RdM Out :=
  match cx.T ty with
  | some ti => match ti.sl with
    | some e => match cx.T e with
      | some ei => match A with
        | .ck ck => RdM.bind (fzParts ck parts) fun q =>
          match setRows ei.size (List.replicate len ei.zero) q.1 with
          | some rows => if len * ei.size ≤ 16777216 ∧ ei.zero.length = ei.size ∧ 0 < ei.size then RdM.pure { v := .own grp 0 ei.size 0 len, new := some [.row e ei.size len rows], upd := q.2.1, obl := q.2.2 } else RdM.no
          | none => RdM.no
        | _ => RdM.no
      | none => RdM.no
    | none => RdM.no
  | none => RdM.no

theorem parts_rel {t : List V} (ht : All2 (RV w F S.D ι) t a.tmps.toList) : ∀ qs : List (Nat × Operand), All2 (fun (x : Nat × V) (y : Nat × Value) => x.1 = y.1 ∧ RV w F S.D ι x.2 y.2) (qs.map fun (i, x) => (i, evalV t x)) (qs.map fun (i, x) => (i, a.eval x))
  | [] => .nil
  | q :: qs => .cons ⟨rfl, eval_rv ht q.2⟩ (parts_rel ht qs)

theorem run_buildSlice {P : Program} {ty e len : Nat} {ti ei : TI} {i i' : TypeInfo} {d d' : TypeDesc} {z z' : Value} (htf : TF P ty ti i d z) (hd : d = .slice e) (hef : TF P e ei i' d' z') (h1 : len * ei.size ≤ 16777216) {qs : Array (Nat × Value)} {es : Array Value}
    (hfill : Instr.fill (fun i => some (i * ei.size, ei.size)) (madeCells z'.cells (len * ei.size)) qs.toList = some es) : (Instr.buildSlice ty len qs).run P w = .ok (.slice (some ⟨w.heap.size, 0, none⟩) len len) (w.alloc (.cells es e)) := by
  subst hd
  have hnot : ¬ (len * ei.size > 2 ^ 24) := by omega
  unfold Instr.buildSlice
  by_cases h0 : len * ei.size = 0
  · have hmk : madeCells z'.cells (len * ei.size) = #[] := by rw [h0]; simp [madeCells]
    rw [hmk] at hfill
    simp only [Sem.run_bind, htf.underlying, Result.andThen_ok, hef.sizeOf, if_neg hnot, if_pos h0, Sem.run_pure]
    have hr0 : ∀ f : Nat → Value, (Array.range 0).map f = #[] := fun f => by simp
    simp only [h0, hr0, hfill]
    simp [newRow, newObj, Sem.run]
  · have hmk : (Array.range (len * ei.size)).map (z'.cells[· % z'.cells.size]!) = madeCells z'.cells (len * ei.size) := rfl
    simp only [Sem.run_bind, htf.underlying, Result.andThen_ok, hef.sizeOf, if_neg hnot, if_neg h0, hef.zeroValue, Sem.run_pure]
    simp only [hmk, hfill]
    simp [newRow, newObj, Sem.run]

theorem buildSliceM_run (h : Rel Γ F ι S a w) {grp : Nat} (hg : grp < S.h.length) (hn : ¬ S.D grp) {ob : Oper} {ty len : Nat} {parts : Array (Nat × Operand)} {A : Ans} (ho : ob.op = .buildSlice ty len parts) {out : Out} {lg : List (Nat × Nat)}
    (hp : buildSliceM cx grp ty len (parts.toList.map fun (i, x) => (i, evalV S.t x)) A S.ent = some (out, lg)) (hob : ∀ p ∈ out.obl, p) : Done cx.P Γ ι S grp ob out a w := by
  unfold buildSliceM at hp
  cases hti : cx.T ty with
  | none => rw [hti] at hp; cases hp
  | some ti =>
  rw [hti] at hp
  simp only at hp
  cases hsl : ti.sl with
  | none => rw [hsl] at hp; cases hp
  | some e =>
  rw [hsl] at hp
  simp only at hp
  cases hei : cx.T e with
  | none => rw [hei] at hp; cases hp
  | some ei =>
  rw [hei] at hp
  cases A <;> try (cases hp; done)
  rename_i ck
  simp only at hp
  obtain ⟨i, d, z, htf⟩ := cx.tf hti
  obtain ⟨i', d', z', hef⟩ := cx.tf hei
  obtain rfl := htf.isSl hsl
  obtain ⟨⟨rs, us, fps⟩, l1, l2, hfz, hp', hl12⟩ := RdM.bind_some hp
  clear hp
  have hfob : ∀ p ∈ fps, p := by
    simp only at hp'
    cases hrows : setRows ei.size (List.replicate len ei.zero) rs with
    | none => rw [hrows] at hp'; cases hp'
    | some rows =>
    rw [hrows] at hp'
    simp only at hp'
    split at hp' <;> try (cases hp'; done)
    have := RdM.pure_some hp'
    injection this with h2 h3
    subst h2
    exact hob
  obtain ⟨F', hF', hrel, hfr, hall⟩ := fzParts_run h (Frz.refl S) (parts_rel h.tmps parts.toList) hfz hfob
  simp only at hp'
  cases hrows : setRows ei.size (List.replicate len ei.zero) rs with
  | none => rw [hrows] at hp'; cases hp'
  | some rows =>
  rw [hrows] at hp'
  simp only at hp'
  split at hp' <;> try (cases hp'; done)
  rename_i hcond
  obtain ⟨hc1, hc2, hc3⟩ := hcond
  have := RdM.pure_some hp'
  injection this with h2 h3
  subst h2
  have hzs : z'.cells.size = ei.size := by rw [← hc2, ← hef.zeros]; simp
  have hz : FL w F' ei.zero z'.cells.toList := by rw [← hef.zeros]; exact FL.ofCells _ hef.one
  have hmade : FL w F' (List.replicate len ei.zero).flatten (madeCells z'.cells (len * ei.size)).toList := by
    rw [← hzs, made_flatten]
    exact hz.replicate len
  obtain ⟨es, hfill, hfl, hlen, hl⟩ := setRows_run hall (sz := ei.size) (len := len) (rows := List.replicate len ei.zero) (by intro r hr; rw [(List.mem_replicate.1 hr).2]; exact hc2) (by simp) hmade hrows
  have hrun : (execOp a.eval ob).run cx.P w = .ok (.value (.slice (some ⟨w.heap.size, 0, none⟩) len len)) (w.alloc (.cells es e)) := by
    have := run_buildSlice (w := w) htf rfl hef hc1 (qs := parts.map fun (i, x) => (i, a.eval x)) (by rw [Array.toList_map]; exact hfill)
    simp [execOp, ho, this]
  have hD : ∀ k, S.D k ↔ (S.upds us).D k := fun k => (upds_D S k us).symm
  have hg' : grp < (S.upds us).h.length := by rw [St.upds_len]; exact hg
  have hs : Same w (w.alloc (.cells es e)) F' := same_of_heap fun g hF => (grownBy_alloc_cells w _).block g (hrel.F1 g hF) (by simp)
  have hel : es.size = len * ei.size := by
    have := hfl.length
    rw [flatten_len hl, hlen] at this
    simpa using this.symm
  have hor : OR (w.alloc (.cells es e)) F' e ei.size (.slice (some ⟨w.heap.size, 0, none⟩) len len) len rows := by
    refine ⟨es.toList, ⟨by simpa using hel, .inr ⟨w.heap.size, len, es, rfl, Nat.zero_le _, heap_new w _, Nat.le_refl _, ?_, hel, ?_⟩⟩, hfl.mono hs (fun _ y => y), hlen, hl⟩
    · have : len ≤ len * ei.size := Nat.le_mul_of_pos_right _ hc3
      unfold maxLen; omega
    · rw [List.take_of_length_le (by simp [hel])]
  have hnew := hrel.new1 hg' (fun q => hn ((hD grp).2 q)) (grownBy_alloc_cells w (.cells es e)) (ent := .row e ei.size len rows) (c0 := .slice (some ⟨w.heap.size, 0, none⟩) len len) (by intro k hk; simp [EB, blk] at hk; omega) hor
  refine ⟨_, _, _, F', newAt ι grp (.slice (some ⟨w.heap.size, 0, none⟩) len len), hrun, .inl rfl, ?_⟩
  exact hnew.put ob.dst (.cell (RC.whole (j := 0) (lay_D_self hg') newAt_eq hor))

end

end Go.Proofs.Ythegkbaijmkhfaa
