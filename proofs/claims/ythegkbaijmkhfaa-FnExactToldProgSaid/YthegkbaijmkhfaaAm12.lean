/- Operations that make, read or write memory. -/
import Derived.Test.YthegkbaijmkhfaaAm11
set_option linter.unusedVariables false
set_option linter.unusedSimpArgs false
namespace Go.Proofs.Ythegkbaijmkhfaa
open Go

def St.apply (S : St) (grp : Nat) (dst : Option Nat) (o : Out) : St :=
  let S1 := S.upds o.upd
  let S2 := match o.new with
    | none => S1
    | some new => S1.lay grp new
  { S2 with t := setT S2.t dst o.v }

/-- The model's operation goes on to what is told. -/
def Done (P : Program) (Γ : Ctx) (ι : Nat → Nat → Value) (S : St) (grp : Nat) (ob : Oper) (out : Out) (a : Act) (w : World) : Prop :=
  ∃ nx c w' F' ι', (execOp a.eval ob).run P w = .ok nx w' ∧ (nx = .value c ∨ (nx = .skip ∧ c = undef)) ∧ Rel Γ F' ι' (S.apply grp ob.dst out) (a.put ob.dst c) w'

def newAt (ι : Nat → Nat → Value) (grp : Nat) (c : Value) : Nat → Nat → Value := fun g j => if g = grp then c else ι g j

theorem newAt_ne {ι : Nat → Nat → Value} {grp g j : Nat} {c : Value} (h : g ≠ grp) : newAt ι grp c g j = ι g j := by simp [newAt, h]
theorem newAt_eq {ι : Nat → Nat → Value} {grp j : Nat} {c : Value} : newAt ι grp c grp j = c := by simp [newAt]

section
variable {cx : Cx} {Γ : Ctx} {F : Nat → Prop} {ι : Nat → Nat → Value} {S : St} {a : Act} {w : World}

/-- One entry more, in a block that was just made. -/
theorem Rel.new1 (h : Rel Γ F ι S a w) {grp : Nat} (hg : grp < S.h.length) (hn : ¬ S.D grp) {w' : World} (hgr : w.grownBy w' none) {ent : Ent} {c0 : Value}
    (hb : ∀ k, EB w' ent c0 k → w.heap.size ≤ k) (hre : RE w' F (S.lay grp [ent]).D (newAt ι grp c0) ent c0) : Rel Γ F (newAt ι grp c0) (S.lay grp [ent]) a w' := by
  have h' := h.world (w' := w') ⟨hgr.os, hgr.tape, hgr.output⟩ hgr.size (fun k hk => hgr.block k hk (by simp))
  refine h'.lay hg hn (fun g j q => newAt_ne q) ?_ ?_ ?_ ?_
  · intro j e he
    cases j with
    | zero => simp at he; subst he; rw [newAt_eq]; exact hre
    | succ j => simp at he
  · intro j e k he hl hk
    rw [newAt_eq] at hk
    cases j with
    | succ j => simp at he
    | zero =>
    simp at he
    subst he
    have := hb k hk
    refine ⟨fun hF => ?_, .inr (Nat.le_trans h.kept.size this)⟩
    have := h.F1 k hF
    omega
  · intro j e j' e' k he he' _ _ _ _
    cases j <;> cases j' <;> simp_all
  · intro j e g' j' e' k he he' _ hl' hk hk'
    rw [newAt_eq] at hk
    cases j with
    | succ j => simp at he
    | zero =>
    simp at he
    subst he
    have h1 := hb k hk
    have h2 := h.lt he' hl' ((h.ents g' j' e' he').back (fun k q => hgr.block k (h.lt he' hl' q) (by simp)) hk')
    omega

theorem grownBy_alloc_cells (w : World) (o : Obj) : w.grownBy (w.alloc o) none := World.grownBy_alloc w o none

theorem lay_mono {grp : Nat} {new : List Ent} (hn : ¬ S.D grp) {c0 : Value} : (∀ g, S.D g → (S.lay grp new).D g) ∧ (∀ g j, S.D g → newAt ι grp c0 g j = ι g j) :=
  ⟨fun g x => lay_D x, fun g j x => newAt_ne fun q => hn (q ▸ x)⟩

/-! ### A variable -/
def allocM (cx : Cx) (grp : Nat) (e : Nat) : Option Out :=
  match cx.T e with
  | some ti => match ti.arr with
    | some (n, ee) => match cx.T ee with
      | some ei => some { v := .ptr grp 0 0, new := some [.arr e ei.size n (List.replicate n ei.zero)], obl := [(List.replicate n ei.zero).flatten = ti.zero ∧ ei.zero.length = ei.size] }
      | none => none
    | none => some { v := .ptr grp 0 0, new := some [.var e ti.zero] }
  | none => none

theorem run_alloc' {P : Program} {t : Nat} {ti : TI} {i : TypeInfo} {d : TypeDesc} {z : Value} {w : World} (h : TF P t ti i d z) : (Instr.alloc t true (.tuple #[])).run P w = .ok (.pointer (some ⟨w.heap.size, 0, none⟩)) (w.alloc (.cells z.cells t)) := by
  simp [Instr.alloc, Sem.run_bind, h.zeroValue, newVar, newRow, newObj, Sem.run]

theorem run_box' {P : Program} {t : Nat} {v : Value} {w : World} : (Instr.box t v).run P w = .ok (.pointer (some ⟨w.heap.size, 0, none⟩)) (w.alloc (.cells v.cells t)) := by
  simp [Instr.box, newVar, newRow, newObj, Sem.run]

theorem heap_new (w : World) (o : Obj) : (w.alloc o).heap[w.heap.size]? = some o := heap_alloc_new w o

theorem allocM_run (h : Rel Γ F ι S a w) {grp : Nat} (hg : grp < S.h.length) (hn : ¬ S.D grp) {ob : Oper} {e : Nat} (ho : ob.op = .alloc e) {out : Out} (hp : allocM cx grp e = some out) (hob : ∀ p ∈ out.obl, p) : Done cx.P Γ ι S grp ob out a w := by
  unfold allocM at hp
  split at hp <;> try (cases hp; done)
  rename_i ti hti
  obtain ⟨i, d, z, htf⟩ := cx.tf hti
  have hrun : (execOp a.eval ob).run cx.P w = .ok (.value (.pointer (some ⟨w.heap.size, 0, none⟩))) (w.alloc (.cells z.cells e)) := by
    simp [execOp, ho, run_alloc' htf]
  have hz : FL (w.alloc (.cells z.cells e)) F ti.zero z.cells.toList := by rw [← htf.zeros]; exact FL.ofCells _ htf.one
  split at hp
  · rename_i n ee harr
    split at hp <;> try (cases hp; done)
    rename_i ei hei
    injection hp with hp
    subst hp
    have hq := hob _ (List.mem_singleton.2 rfl)
    have hrel := h.new1 hg hn (grownBy_alloc_cells w (.cells z.cells e)) (ent := .arr e ei.size n (List.replicate n ei.zero)) (c0 := .pointer (some ⟨w.heap.size, 0, none⟩))
      (by intro k hk; simp [EB, blk] at hk; omega) ⟨w.heap.size, z.cells, rfl, heap_new w _, by rw [hq.1]; exact hz, by simp, by intro r hr; rw [(List.mem_replicate.1 hr).2]; exact hq.2⟩
    refine ⟨_, _, _, F, newAt ι grp (.pointer (some ⟨w.heap.size, 0, none⟩)), hrun, .inl rfl, ?_⟩
    exact hrel.put ob.dst (.cell (.ptr grp 0 0 w.heap.size (lay_D_self hg) newAt_eq))
  · injection hp with hp
    subst hp
    have hrel := h.new1 hg hn (grownBy_alloc_cells w (.cells z.cells e)) (ent := .var e ti.zero) (c0 := .pointer (some ⟨w.heap.size, 0, none⟩))
      (by intro k hk; simp [EB, blk] at hk; omega) ⟨w.heap.size, z.cells, rfl, heap_new w _, hz.all2.imp fun _ _ x => .fv _ _ x⟩
    refine ⟨_, _, _, F, newAt ι grp (.pointer (some ⟨w.heap.size, 0, none⟩)), hrun, .inl rfl, ?_⟩
    exact hrel.put ob.dst (.cell (.ptr grp 0 0 w.heap.size (lay_D_self hg) newAt_eq))

def boxM (cx : Cx) (grp : Nat) (e : Nat) (v : V) : Option Out :=
  match v.cells with
  | some cs => some { v := .ptr grp 0 0, new := some [.var e cs] }
  | none => none

theorem boxM_run (h : Rel Γ F ι S a w) {grp : Nat} (hg : grp < S.h.length) (hn : ¬ S.D grp) {ob : Oper} {e : Nat} {x : Operand} (ho : ob.op = .box e x) {out : Out} (hp : boxM cx grp e (evalV S.t x) = some out) : Done cx.P Γ ι S grp ob out a w := by
  unfold boxM at hp
  split at hp <;> try (cases hp; done)
  rename_i cs hcs
  injection hp with hp
  subst hp
  have hrun : (execOp a.eval ob).run cx.P w = .ok (.value (.pointer (some ⟨w.heap.size, 0, none⟩))) (w.alloc (.cells (a.eval x).cells e)) := by
    simp [execOp, ho, run_box']
  have hc := (eval_rv h.tmps x).cells hcs
  have hs : Same w (w.alloc (.cells (a.eval x).cells e)) F := same_of_heap fun g hg => (grownBy_alloc_cells w _).block g (h.F1 g hg) (by simp)
  obtain ⟨m1, m2⟩ := lay_mono (S := S) (ι := ι) (new := [.var e cs]) hn (c0 := .pointer (some ⟨w.heap.size, 0, none⟩))
  have hrel := h.new1 hg hn (grownBy_alloc_cells w (.cells (a.eval x).cells e)) (ent := .var e cs) (c0 := .pointer (some ⟨w.heap.size, 0, none⟩))
    (by intro k hk; simp [EB, blk] at hk; omega) ⟨w.heap.size, _, rfl, heap_new w _, hc.imp fun _ _ x => x.mono hs (fun _ y => y) m1 m2⟩
  refine ⟨_, _, _, F, newAt ι grp (.pointer (some ⟨w.heap.size, 0, none⟩)), hrun, .inl rfl, ?_⟩
  exact hrel.put ob.dst (.cell (.ptr grp 0 0 w.heap.size (lay_D_self hg) newAt_eq))

/-! ### Reading a variable -/
def readV (ti : TI) (cs : List V) : Option V :=
  if ti.agg then (if ti.size ≤ cs.length then some (.agg (cs.take ti.size)) else none) else cs[0]?

def loadM (cx : Cx) (ty : Nat) (x : V) (A : Ans) : RdM Out :=
  match cx.T ty with
  | none => RdM.no
  | some ti => match x with
    | .ptr g j off => RdM.bind (RdM.rd g j) fun e => match e with
      | .var _ cs => match readV ti (cs.drop off) with
        | some v => RdM.pure { v := v }
        | none => RdM.no
      | .arr _ sz n rows => if off = 0 ∧ ti.agg = true ∧ ti.arr.isSome then RdM.pure { v := .agg rows.flatten, obl := [n * sz = ti.size] } else RdM.no
      | _ => RdM.no
    | .eptr g j sz idx off => RdM.bind (RdM.rd g j) fun e => match A with
      | .row r => match readV ti (r.drop off) with
        | some v => match e with
          | .row _ sz' n rows => if sz' = sz then RdM.pure { v := v, obl := [rows[idx]? = some r] } else RdM.no
          | .arr _ sz' n rows => if sz' = sz then RdM.pure { v := v, obl := [rows[idx]? = some r] } else RdM.no
          | _ => RdM.no
        | none => RdM.no
      | _ => RdM.no
    | .fptr cs => match readV ti cs with
      | some v => RdM.pure { v := v }
      | none => RdM.no
    | _ => RdM.no

theorem readV_rel {D : Nat → Prop} {ti : TI} {cs : List V} {ds : List Value} {v : V} (h : All2 (RC w F D ι) cs ds) (hr : readV ti cs = some v) : ∃ c, readAs ti ds = some c ∧ RV w F D ι v c := by
  unfold readV at hr
  unfold readAs
  by_cases ha : ti.agg = true
  · rw [if_pos ha] at hr ⊢
    split at hr <;> try (cases hr; done)
    rename_i hle
    injection hr with hr
    subst hr
    rw [← h.length, if_pos hle]
    exact ⟨_, rfl, .one _ _ (.agg _ _ (h.take _))⟩
  · rw [if_neg ha] at hr ⊢
    obtain ⟨c, hc, hv⟩ := h.get hr
    exact ⟨c, hc, .cell hv⟩

theorem seg_of_cells {g : Nat} {cur : Array Value} {e : Nat} {fr : Nat × Nat} (hg : w.heap[g]? = some (.cells cur e fr)) (o : Nat) : Seg w g o (cur.toList.drop o) := by
  intro j u hu
  rw [cell_of_row w g (o + j) cur e fr hg]
  rw [List.getElem?_drop] at hu
  simpa using hu

theorem load_run {ob : Oper} {ty : Nat} {ti : TI} {i : TypeInfo} {d : TypeDesc} {z : Value} {x : Operand} (ho : ob.op = .load ty x) (htf : TF cx.P ty ti i d z) {g o : Nat} (hx : a.eval x = .pointer (some ⟨g, o, none⟩)) {ds : List Value} (hs : Seg w g o ds) {c : Value} (hc : readAs ti ds = some c) :
    (execOp a.eval ob).run cx.P w = .ok (.value c) w := by
  simp [execOp, ho, hx, Instr.loadAt, Instr.sureAddr, Sem.run_bind, run_loadVar htf hs hc]

/-- An element of a row of the call's own lies where it should. -/
theorem own_elem {e sz n : Nat} {rows : List (List V)} {c : Value} {b idx : Nat} {r : List V} (h : OR w F e sz c n rows) (hb : blk c = some b) (hr : rows[idx]? = some r) : ∃ ds, FL w F r ds ∧ Seg w b (idx * sz) ds := by
  obtain ⟨flat, ho, hf, hn, hl⟩ := h
  rcases ho.2 with ⟨hv, h0⟩ | ⟨g0, cap, cur, hv, _, hg, hnc, hcm, hcs, ht⟩
  · rw [hv] at hb; cases hb
  · rw [hv] at hb
    simp [blk] at hb
    subst hb
    refine ⟨(flat.drop (idx * sz)).take sz, ?_, ?_⟩
    · rw [← flatten_get hl hr]
      exact (hf.drop _).take _
    · have hseg : Seg w g0 0 flat := by
        rw [← ht]
        have := (seg_of_cells hg 0).take (n * sz)
        simpa using this
      have := (hseg.drop (idx * sz)).take sz
      simpa using this

theorem arr_elem {g : Nat} {cur : Array Value} {e sz : Nat} {rows : List (List V)} {idx : Nat} {r : List V} (hg : w.heap[g]? = some (.cells cur e (0, 0))) (hf : FL w F rows.flatten cur.toList) (hl : ∀ r ∈ rows, r.length = sz) (hr : rows[idx]? = some r) : ∃ ds, FL w F r ds ∧ Seg w g (idx * sz) ds := by
  refine ⟨(cur.toList.drop (idx * sz)).take sz, ?_, (seg_of_cells hg _).take _⟩
  rw [← flatten_get hl hr]
  exact (hf.drop _).take _

theorem apply_plain (S : St) (grp : Nat) (dst : Option Nat) (v : V) (ps : List Prop) : S.apply grp dst { v := v, obl := ps } = { S with t := setT S.t dst v } := rfl

theorem loadM_run (h : Rel Γ F ι S a w) {grp : Nat} {ob : Oper} {ty : Nat} {x : Operand} {A : Ans} (ho : ob.op = .load ty x) {out : Out} {lg : List (Nat × Nat)} (hp : loadM cx ty (evalV S.t x) A S.ent = some (out, lg)) (hob : ∀ p ∈ out.obl, p) : Done cx.P Γ ι S grp ob out a w := by
  have hx := eval_rv h.tmps x
  unfold loadM at hp
  cases hti : cx.T ty with
  | none => rw [hti] at hp; cases hp
  | some ti =>
  rw [hti] at hp
  obtain ⟨i, d, z, htf⟩ := cx.tf hti
  generalize evalV S.t x = xv at hp hx
  cases xv <;> try (cases hp; done)
  case ptr g j off =>
    obtain ⟨hD, b, hι, hc⟩ := hx.inv_ptr
    obtain ⟨e, l1, l2, hrd, hp', hl12⟩ := RdM.bind_some hp
    clear hp
    have he := (RdM.rd_some hrd).1
    simp only at he
    have hre := h.ents g j e he
    split at hp' <;> try (cases hp'; done)
    · rename_i e0 cs
      obtain ⟨g0, cur, h1, hg, hcs⟩ := hre
      rw [hι] at h1
      injection h1 with h1
      injection h1 with h1
      injection h1 with h1
      subst h1
      cases hrv : readV ti (cs.drop off) with
      | none => rw [hrv] at hp'; cases hp'
      | some v =>
      rw [hrv] at hp'
      have := RdM.pure_some hp'
      injection this with h2 h3
      subst h2
      obtain ⟨c, hrd', hvc⟩ := readV_rel (hcs.drop off) hrv
      exact ⟨_, c, w, F, ι, load_run ho htf hc (seg_of_cells hg off) hrd', .inl rfl, by rw [apply_plain]; exact h.put ob.dst hvc⟩
    · rename_i e0 sz n rows
      obtain ⟨g0, cur, h1, hg, hf, hn, hl⟩ := hre
      rw [hι] at h1
      injection h1 with h1
      injection h1 with h1
      injection h1 with h1
      subst h1
      split at hp' <;> try (cases hp'; done)
      rename_i hcond
      have := RdM.pure_some hp'
      injection this with h2 h3
      subst h2
      have hsz : n * sz = ti.size := hob _ (List.mem_singleton.2 rfl)
      have hlen : cur.toList.length = ti.size := by rw [← hf.length, flatten_len hl, hn, hsz]
      refine ⟨_, .agg cur, w, F, ι, load_run ho htf (by rw [hc, hcond.1]) (seg_of_cells hg 0) (c := .agg cur) ?_, .inl rfl, ?_⟩
      · unfold readAs
        rw [if_pos hcond.2.1, if_pos (by simp [← hlen]), List.drop_zero, ← hlen, List.take_length]
      · rw [apply_plain]
        refine h.put ob.dst ?_
        have := RV.ofFL (D := S.D) (ι := ι) hf
        simpa using this
  case eptr g j sz idx off =>
    obtain ⟨hD, b, hι, hc⟩ := hx.inv_eptr
    obtain ⟨e, l1, l2, hrd, hp', hl12⟩ := RdM.bind_some hp
    clear hp
    have he := (RdM.rd_some hrd).1
    simp only at he
    have hre := h.ents g j e he
    cases A <;> try (cases hp'; done)
    rename_i r
    simp only at hp'
    cases hrv : readV ti (r.drop off) with
    | none => rw [hrv] at hp'; cases hp'
    | some v =>
    rw [hrv] at hp'
    simp only at hp'
    split at hp' <;> try (cases hp'; done)
    all_goals
      split at hp' <;> try (cases hp'; done)
      rename_i hsz
      subst hsz
      have := RdM.pure_some hp'
      injection this with h2 h3
      subst h2
      have hr := hob _ (List.mem_singleton.2 rfl)
    · obtain ⟨ds, hf, hseg⟩ := own_elem hre hι hr
      obtain ⟨c, hrd', hvc⟩ := readV_rel (D := S.D) (ι := ι) ((hf.drop off).all2.imp fun _ _ x => .fv _ _ x) hrv
      exact ⟨_, c, w, F, ι, load_run ho htf hc (hseg.drop off) hrd', .inl rfl, by rw [apply_plain]; exact h.put ob.dst hvc⟩
    · obtain ⟨g0, cur, h1, hg, hf, hn, hl⟩ := hre
      rw [h1] at hι
      simp [blk] at hι
      subst hι
      obtain ⟨ds, hf', hseg⟩ := arr_elem hg hf hl hr
      obtain ⟨c, hrd', hvc⟩ := readV_rel (D := S.D) (ι := ι) ((hf'.drop off).all2.imp fun _ _ x => .fv _ _ x) hrv
      exact ⟨_, c, w, F, ι, load_run ho htf hc (hseg.drop off) hrd', .inl rfl, by rw [apply_plain]; exact h.put ob.dst hvc⟩
  case fptr cs =>
    obtain ⟨g, o, ds, hF, hfl, hseg, hc⟩ := hx.inv_fptr
    simp only at hp
    cases hrv : readV ti cs with
    | none => rw [hrv] at hp; cases hp
    | some v =>
    rw [hrv] at hp
    have := RdM.pure_some hp
    injection this with h2 h3
    subst h2
    obtain ⟨c, hrd', hvc⟩ := readV_rel (D := S.D) (ι := ι) (hfl.all2.imp fun _ _ x => .fv _ _ x) hrv
    exact ⟨_, c, w, F, ι, load_run ho htf hc hseg hrd', .inl rfl, by rw [apply_plain]; exact h.put ob.dst hvc⟩

end

end Go.Proofs.Ythegkbaijmkhfaa
