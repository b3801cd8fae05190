/- Rows of the call's own: made, appended to, copied into. -/
import Derived.Test.YthegkbaijmkhfaaAm13
set_option linter.unusedVariables false
set_option linter.unusedSimpArgs false
namespace Go.Proofs.Ythegkbaijmkhfaa
open Go

theorem made_flatten (z : Array Value) : ∀ n : Nat, (madeCells z (n * z.size)).toList = (List.replicate n z.toList).flatten
  | 0 => by simp [madeCells]
  | n + 1 => by
    rw [List.replicate_succ', List.flatten_append, ← made_flatten z n]
    simp only [madeCells, Array.toList_map, Array.toList_range, List.flatten_cons, List.flatten_nil, List.append_nil]
    rw [Nat.succ_mul, List.range_add, List.map_append]
    congr 1
    apply List.ext_getElem?
    intro k
    simp only [List.getElem?_map, List.map_map]
    by_cases h : k < z.size
    · simp [List.getElem?_range h, Nat.mod_eq_of_lt h, h]
    · rw [List.getElem?_eq_none (by simp; omega), List.getElem?_eq_none (by simp; omega)]
      rfl

theorem FL.append {w : World} {F : Nat → Prop} {as bs : List V} {cs ds : List Value} (h : FL w F as cs) (k : FL w F bs ds) : FL w F (as ++ bs) (cs ++ ds) := FL.of (h.all2.append k.all2)
theorem FL.replicate {w : World} {F : Nat → Prop} {as : List V} {cs : List Value} (h : FL w F as cs) : ∀ n, FL w F (List.replicate n as).flatten (List.replicate n cs).flatten
  | 0 => .nil
  | n + 1 => by
    rw [List.replicate_succ, List.replicate_succ, List.flatten_cons, List.flatten_cons]
    exact h.append (FL.replicate h n)

section
variable {cx : Cx} {Γ : Ctx} {F : Nat → Prop} {ι : Nat → Nat → Value} {S : St} {a : Act} {w : World}

/-- The world goes on; one block, that nothing told lies in, may change. -/
theorem Rel.world2 (h : Rel Γ F ι S a w) {X : Option Nat} {w' : World} (hg : w.grownBy w' X)
    (hX : ∀ k, X = some k → ¬ F k ∧ (Γ.own k ∨ Γ.w0.heap.size ≤ k) ∧ ∀ g j e, S.ent g j = some e → e.live = true → ¬ EB w e (ι g j) k) : Rel Γ F ι S a w' := by
  have hs : Same w w' F := same_of_heap fun g hF => hg.block g (h.F1 g hF) fun q => (hX g q.symm).1 hF
  have hbk : ∀ g j e, S.ent g j = some e → e.live = true → ∀ k, EB w e (ι g j) k → w'.heap[k]? = w.heap[k]? := fun g j e he hl k hk' => hg.block k (h.lt he hl hk') fun q => (hX k q.symm).2.2 g j e he hl hk'
  exact
    { F0 := h.F0
      F1 := fun g hF => Nat.lt_of_lt_of_le (h.F1 g hF) hg.size
      F2 := h.F2
      kept := ⟨hg.os.trans h.kept.os, hg.tape.trans h.kept.tape, hg.output.trans h.kept.output, Nat.le_trans h.kept.size hg.size, fun k hk hn => by
        rw [hg.block k (Nat.lt_of_lt_of_le hk h.kept.size) fun q => ?_]
        · exact h.kept.block k hk hn
        · rcases (hX k q.symm).2.1 with x | x
          · exact hn x
          · omega⟩
      tmps := h.tmps.imp fun _ _ x => x.mono hs (fun _ y => y) (fun _ y => y) (fun _ _ _ => rfl)
      ents := fun g j e he => (h.ents g j e he).mono hs (fun _ y => y) (fun _ y => y) (fun _ _ _ => rfl) (fun k hl hk' => hbk g j e he hl k hk')
      sep := fun g j e k he hl hk' => h.sep g j e k he hl ((h.ents g j e he).back (hbk g j e he hl) hk')
      inj := fun g j e g' j' e' k he he' hl hl' hk1 hk2 => h.inj g j e g' j' e' k he he' hl hl' ((h.ents g j e he).back (hbk g j e he hl) hk1) ((h.ents g' j' e' he').back (hbk g' j' e' he' hl') hk2)
      defers := h.defers
      pins := h.pins }

theorem Rel.new2 (h : Rel Γ F ι S a w) {grp : Nat} (hgl : grp < S.h.length) (hn : ¬ S.D grp) {X : Option Nat} {w' : World} (hg : w.grownBy w' X)
    (hX : ∀ k, X = some k → ¬ F k ∧ (Γ.own k ∨ Γ.w0.heap.size ≤ k) ∧ ∀ g j e, S.ent g j = some e → e.live = true → ¬ EB w e (ι g j) k) {ent : Ent} {c0 : Value}
    (hb : ∀ k, EB w' ent c0 k → X = some k ∨ w.heap.size ≤ k) (hre : Same w w' F → RE w' F (S.lay grp [ent]).D (newAt ι grp c0) ent c0) : Rel Γ F (newAt ι grp c0) (S.lay grp [ent]) a w' := by
  have hs : Same w w' F := same_of_heap fun g hF => hg.block g (h.F1 g hF) fun q => (hX g q.symm).1 hF
  have h' := h.world2 hg hX
  refine h'.lay hgl hn (fun g j q => newAt_ne q) ?_ ?_ ?_ ?_
  · intro j e he
    cases j with
    | zero => simp at he; subst he; rw [newAt_eq]; exact hre hs
    | succ j => simp at he
  · intro j e k he hl hk
    rw [newAt_eq] at hk
    cases j with
    | succ j => simp at he
    | zero =>
    simp at he
    subst he
    rcases hb k hk with q | q
    · exact ⟨(hX k q).1, (hX k q).2.1⟩
    · refine ⟨fun hF => ?_, .inr (Nat.le_trans h.kept.size q)⟩
      have := h.F1 k hF
      omega
  · intro j e j' e' k he he' _ _ _ _
    cases j <;> cases j' <;> simp_all
  · intro j e g' j' e' k he he' _ hl' hk hk'
    rw [newAt_eq] at hk
    cases j with
    | succ j => simp at he
    | zero =>
    simp at he
    subst he
    have hk2 := (h.ents g' j' e' he').back (fun k q => hg.block k (h.lt he' hl' q) fun z => (hX k z.symm).2.2 g' j' e' he' hl' q) hk'
    rcases hb k hk with q | q
    · exact (hX k q).2.2 g' j' e' he' hl' hk2
    · have h2 := h.lt he' hl' hk2
      omega

/-- A reference to a whole row. -/
theorem RC.whole {D : Nat → Prop} {g j e sz n : Nat} {rows : List (List V)} {sv : Value} (hD : D g) (hι : ι g j = sv) (h : OR w F e sz sv n rows) : RC w F D ι (.own g j sz 0 n) sv := by
  obtain ⟨flat, ho, _⟩ := h
  rcases ho.2 with ⟨rfl, h0⟩ | ⟨g0, cap, cur, rfl, _, hg, hnc, _⟩
  · subst h0
    have := RC.own (w := w) (F := F) g j sz 0 0 none 0 0 hD hι (by omega) (fun _ => rfl) (fun _ q => by cases q)
    simpa using this
  · have := RC.own (w := w) (F := F) g j sz 0 n (some ⟨g0, 0, none⟩) n cap hD hι (by omega) (fun q => by cases q) (fun ad q => by injection q with q; subst q; rfl)
    by_cases hc : cap = 0
    · simpa [hc] using this
    · simpa [hc, Addr.add] using this

/-- Nils told as slices of nothing. -/
def nilsTo : List (Option Nat) → List V → List V
  | some sz :: ck, .nil :: vs => .sl sz 0 [] :: nilsTo ck vs
  | _ :: ck, v :: vs => v :: nilsTo ck vs
  | [], vs => vs
  | _, [] => []
theorem nilsTo_fl {w : World} {F : Nat → Prop} : ∀ {ck : List (Option Nat)} {vs : List V} {cs : List Value}, FL w F vs cs → FL w F (nilsTo ck vs) cs
  | [], vs, cs, h => by simpa [nilsTo] using h
  | o :: ck, [], _, .nil => by cases o <;> exact .nil
  | none :: ck, v :: vs, _, .cons _ c _ cs h t => .cons _ _ _ _ h (nilsTo_fl t)
  | some sz :: ck, v :: vs, _, .cons _ c _ cs h t => by
    cases v
    case nil =>
      cases h
      exact .cons _ _ _ _ (.sl0 sz none 0) (nilsTo_fl t)
    all_goals exact .cons _ _ _ _ h (nilsTo_fl t)
theorem nilsTo_len : ∀ (ck : List (Option Nat)) (vs : List V), (nilsTo ck vs).length = vs.length
  | [], vs => by simp [nilsTo]
  | none :: ck, [] => rfl
  | some _ :: ck, [] => rfl
  | none :: ck, v :: vs => by simp [nilsTo, nilsTo_len ck vs]
  | some sz :: ck, v :: vs => by cases v <;> simp [nilsTo, nilsTo_len ck vs]
def ckOf : Ans → List (Option Nat)
  | .ck ck => ck
  | _ => []

def makeSliceM (cx : Cx) (grp ty : Nat) (l c : V) (ck : List (Option Nat)) : Option Out :=
  match cx.T ty with
  | some ti => match ti.sl with
    | some e => match cx.T e with
      | some ei => match l, c with
        | .i _ n, .i _ n' => some { v := .own grp 0 ei.size 0 n.toNat, new := some [.row e ei.size n.toNat (List.replicate n.toNat (nilsTo ck ei.zero))], obl := [0 ≤ n, n' = n, n * ei.bytes ≤ 140737488355328 ∧ 0 < ei.bytes, ei.zero.length = ei.size] }
        | _, _ => none
      | none => none
    | none => none
  | none => none

theorem makeSliceM_run (h : Rel Γ F ι S a w) {grp : Nat} (hg : grp < S.h.length) (hn : ¬ S.D grp) {ob : Oper} {ty : Nat} {l c : Operand} (ho : ob.op = .makeSlice ty l c) {ck : List (Option Nat)} {out : Out} (hp : makeSliceM cx grp ty (evalV S.t l) (evalV S.t c) ck = some out) (hob : ∀ p ∈ out.obl, p) : Done cx.P Γ ι S grp ob out a w := by
  have hl := eval_rv h.tmps l
  have hc := eval_rv h.tmps c
  unfold makeSliceM at hp
  split at hp <;> try (cases hp; done)
  rename_i ti hti
  split at hp <;> try (cases hp; done)
  rename_i e hs
  split at hp <;> try (cases hp; done)
  rename_i ei hei
  split at hp <;> try (cases hp; done)
  rename_i k n k' n' h1 h2
  injection hp with hp
  subst hp
  rw [h1] at hl
  rw [h2] at hc
  have p1 : 0 ≤ n := hob _ (by simp)
  have p2 : n' = n := hob _ (by simp)
  have p3 : n * ei.bytes ≤ 140737488355328 ∧ 0 < ei.bytes := hob _ (by simp)
  have p4 : ei.zero.length = ei.size := hob _ (by simp)
  subst p2
  obtain ⟨m, rfl⟩ := Int.eq_ofNat_of_zero_le p1
  obtain ⟨i, d, z, htf⟩ := cx.tf hti
  obtain ⟨i', d', z', hef⟩ := cx.tf hei
  obtain rfl := htf.isSl hs
  have hzs : z'.cells.size = ei.size := by rw [← p4, ← hef.zeros]; simp
  have hb1 : m * ei.bytes ≤ 140737488355328 := by
    have := p3.1
    rw [← Int.natCast_mul] at this
    omega
  have hb2 : m ≤ 140737488355328 := Nat.le_trans (Nat.le_mul_of_pos_right _ p3.2) hb1
  obtain ⟨w', hr, hown, hgr⟩ := run_make_full (P := cx.P) w 0 ty e i' z' ei.size htf.und hef.info hef.zero hef.size k k' m (by rw [hef.bytes, Nat.mul_comm]; omega) (by unfold maxLen; omega) (Nat.zero_le _)
  have hrun : (execOp a.eval ob).run cx.P w = .ok (.value (.slice (some ⟨w.heap.size, 0, none⟩) m m)) w' := by
    simp [execOp, ho, hl.inv_i, hc.inv_i, hr]
  have hz : FL w' F ei.zero z'.cells.toList := by rw [← hef.zeros]; exact FL.ofCells _ hef.one
  have hor : OR w' F e ei.size (.slice (some ⟨w.heap.size, 0, none⟩) m m) m (List.replicate m (nilsTo ck ei.zero)) := by
    refine ⟨_, hown, ?_, by simp, fun r hr => by rw [(List.mem_replicate.1 hr).2, nilsTo_len]; exact p4⟩
    rw [← hzs, made_flatten]
    exact (nilsTo_fl hz).replicate m
  have hrel := h.new1 hg hn hgr (ent := .row e ei.size m (List.replicate m (nilsTo ck ei.zero))) (c0 := .slice (some ⟨w.heap.size, 0, none⟩) m m) (by intro q hq; simp [EB, blk] at hq; omega) hor
  refine ⟨_, _, _, F, newAt ι grp (.slice (some ⟨w.heap.size, 0, none⟩) m m), hrun, .inl rfl, ?_⟩
  exact hrel.put ob.dst (.cell (RC.whole (lay_D_self hg) newAt_eq hor))

/-! ### append -/
/-- What is appended: how many, and their cells. -/
def srcM (x : V) : RdM (Nat × Nat × List (List V) × List Prop) :=
  match x with
  | .nil => RdM.pure (0, 0, [], [])
  | .sl sz m rows => RdM.pure (sz, m, rows, [])
  | .own g j sz lo m => RdM.bind (RdM.rd g j) fun e => match e with
    | .row _ sz' n' rows => if sz' = sz then RdM.pure (sz, partR lo m n' rows) else RdM.no
    | .frz sz' n' rows => if sz' = sz then RdM.pure (sz, partR lo m n' rows) else RdM.no
    | _ => RdM.no
  | _ => RdM.no

/-- What lies there reads as a list of rows. -/
def Src (w : World) (F : Nat → Prop) (sz m : Nat) (rows : List (List V)) (c : Value) : Prop :=
  rows.length = m ∧ (∀ r ∈ rows, r.length = sz) ∧ ∃ b cap, c = .slice b m cap ∧ ∃ ds, FL w F rows.flatten ds ∧ ((m = 0 ∧ ds = []) ∨ ∃ g o, b = some ⟨g, o, none⟩ ∧ Seg w g o ds)

theorem Src.of_fv {sz m : Nat} {rows : List (List V)} {c : Value} (h : FV w F (.sl sz m rows) c) : Src w F sz m rows c := by
  cases h with
  | sl0 sz a cap => exact ⟨rfl, by simp, a, cap, rfl, [], .nil, .inl ⟨rfl, rfl⟩⟩
  | sl sz n rows g o cap ds hF hr hn hs hc hseg => exact ⟨hn, hs, _, cap, rfl, ds, hr, .inr ⟨g, o, rfl, hseg⟩⟩

theorem Src.sub {e sz n' lo m g j : Nat} {rows : List (List V)} {c : Value} {D : Nat → Prop} (hr : OR w F e sz (ι g j) n' rows) (hc : RC w F D ι (.own g j sz lo m) c) (hle : lo + m ≤ n') : Src w F sz m ((rows.drop lo).take m) c := by
  obtain ⟨flat, ho, hf, hn, hl⟩ := hr
  have hlen : ((rows.drop lo).take m).length = m := by simp; omega
  have hall : ∀ r ∈ (rows.drop lo).take m, r.length = sz := fun r hr' => hl r (List.mem_of_mem_drop (List.mem_of_mem_take hr'))
  cases hc with
  | fv v c h => cases h
  | own0 g j sz lo b cap hD hlo => exact ⟨hlen, hall, b, cap, rfl, [], by simpa using FL.nil, .inl ⟨rfl, rfl⟩⟩
  | own g j sz lo n b nn cap hD hι hlo hb0 hb1 =>
    refine ⟨hlen, hall, _, _, rfl, (flat.drop (lo * sz)).take (m * sz), ?_, ?_⟩
    · rw [flatten_take m (fun r hr' => hl r (List.mem_of_mem_drop hr')), flatten_drop lo hl]
      exact (hf.drop _).take _
    · by_cases h0 : m = 0
      · left; subst h0; simp
      · right
        rcases ho.2 with ⟨hv, hz⟩ | ⟨g0, cap0, cur, hv, _, hg, hnc, hcm, hcs, ht⟩
        · omega
        · rw [hι] at hv
          injection hv with e1 e2 e3
          subst e1; subst e3
          have hseg : Seg w g0 0 flat := by
            rw [← ht]
            have := (seg_of_cells hg 0).take (n' * sz)
            simpa using this
          refine ⟨g0, lo * sz, ?_, ?_⟩
          · rw [if_neg (by omega)]; simp [add_at]
          · have := (hseg.drop (lo * sz)).take (m * sz)
            simpa using this

theorem srcM_run (h : Rel Γ F ι S a w) {x : V} {c : Value} (hc : RV w F S.D ι x c) {sz m : Nat} {rows : List (List V)} {ps : List Prop} {lg : List (Nat × Nat)} (hx : srcM x S.ent = some ((sz, m, rows, ps), lg)) (hob : ∀ p ∈ ps, p) : Src w F sz m rows c := by
  unfold srcM at hx
  cases x <;> try (cases hx; done)
  case nil =>
    have := RdM.pure_some hx
    injection this with h1 h2
    injection h1 with h1 h3
    injection h3 with h3 h4
    injection h4 with h4 h5
    subst h1; subst h3; subst h4; subst h5
    obtain rfl := hc.inv_nil
    exact ⟨rfl, by simp, none, 0, rfl, [], .nil, .inl ⟨rfl, rfl⟩⟩
  case sl sz0 n0 rows0 =>
    have := RdM.pure_some hx
    injection this with h1 h2
    injection h1 with h1 h3
    injection h3 with h3 h4
    injection h4 with h4 h5
    subst h1; subst h3; subst h4; subst h5
    exact Src.of_fv hc.inv_sl
  case own g j sz0 lo m0 =>
    obtain ⟨e, l1, l2, hrd, hp, hl12⟩ := RdM.bind_some hx
    clear hx
    have he := (RdM.rd_some hrd).1
    simp only at he
    have hre := h.ents g j e he
    have hrc : RC w F S.D ι (.own g j sz0 lo m0) c := by
      cases hc with
      | one v c h => cases h with
        | cell v c h => exact h
    cases e <;> try (cases hp; done)
    case row t sz' n' rows' =>
      simp only at hp
      split at hp <;> try (cases hp; done)
      rename_i hcond
      subst hcond
      have := RdM.pure_some hp
      injection this with h1 h2
      injection h1 with h1 h3
      subst h1
      obtain ⟨flat, _, _, hn, _⟩ := id hre
      have h3a : m = (partR lo m0 n' rows').1 := congrArg (·.1) h3
      have h3b : rows = (partR lo m0 n' rows').2.1 := congrArg (·.2.1) h3
      have h3c : ps = (partR lo m0 n' rows').2.2 := congrArg (·.2.2) h3
      subst h3c
      obtain ⟨hle, hp1, hp2⟩ := partR_spec hn hob
      rw [h3a, h3b, hp1, hp2]
      exact Src.sub hre hrc hle
    case frz sz' n' rows' =>
      simp only at hp
      split at hp <;> try (cases hp; done)
      rename_i hcond
      subst hcond
      have := RdM.pure_some hp
      injection this with h1 h2
      injection h1 with h1 h3
      subst h1
      have hr : FV w F (.sl _ n' rows') (ι g j) := hre
      have h3a : m = (partR lo m0 n' rows').1 := congrArg (·.1) h3
      have h3b : rows = (partR lo m0 n' rows').2.1 := congrArg (·.2.1) h3
      have h3c : ps = (partR lo m0 n' rows').2.2 := congrArg (·.2.2) h3
      subst h3c
      obtain ⟨hle, hp1, hp2⟩ := partR_spec hr.rows_len hob
      rw [h3a, h3b, hp1, hp2]
      exact Src.of_fv (frz_sub (e := 0) (D := S.D) hre hrc hle)

def appendM (cx : Cx) (grp ty : Nat) (s x : V) : RdM Out :=
  match cx.T ty with
  | some ti => match ti.sl with
    | some e => match cx.T e with
      | some ei => RdM.bind (srcM x) fun q =>
        if (q.1 = ei.size ∨ q.2.1 = 0) ∧ 0 < ei.size ∧ 0 < ei.bytes ∧ ei.zero.length = ei.size then
          match s with
          | .nil => RdM.pure { v := .own grp 0 ei.size 0 q.2.1, new := some [.row e ei.size q.2.1 q.2.2.1], obl := (q.2.1 * ei.bytes ≤ 140737488355328) :: q.2.2.2 }
          | .own g j sz 0 n => RdM.bind (RdM.rd g j) fun en => match en with
            | .row e' sz' n' rows => if e' = e ∧ sz = ei.size ∧ sz' = ei.size then RdM.pure { v := .own grp 0 ei.size 0 (n' + q.2.1), new := some [.row e ei.size (n' + q.2.1) (rows ++ q.2.2.1)], upd := [((g, j), .dead)], obl := (n = n') :: ((n' + q.2.1) * ei.bytes ≤ 140737488355328) :: q.2.2.2 } else RdM.no
            | _ => RdM.no
          | _ => RdM.no
        else RdM.no
      | none => RdM.no
    | none => RdM.no
  | none => RdM.no

theorem run_append_src {P : Program} {ty e : Nat} {ti ei : TI} {i i' : TypeInfo} {d d' : TypeDesc} {z z' : Value} (htf : TF P ty ti i d z) (hd : d = .slice e) (hef : TF P e ei i' d' z') (h0 : 0 < ei.size) (hb0 : 0 < ei.bytes) (hzl : ei.zero.length = ei.size)
    {sv : Value} {n : Nat} {flat : List Value} (hown : w.ownsRow 0 e ei.size sv n flat) {sz m : Nat} {rows : List (List V)} {c : Value} (hsz : sz = ei.size ∨ m = 0) (hsrc : Src w F sz m rows c) (hb : (n + m) * ei.bytes ≤ 140737488355328) (rt : Nat) :
    ∃ v' w' ds, (Builtin.append_ #[ty, ty] rt #[sv, c]).run P w = .ok v' w' ∧ w'.ownsRow 0 e ei.size v' (n + m) (flat ++ ds) ∧ w.grownBy w' sv.ownBlock ∧ (v'.ownBlock = sv.ownBlock ∨ v'.ownBlock = some w.heap.size) ∧ FL w F rows.flatten ds := by
  obtain ⟨hn, hl, b, cap, rfl, ds, hf, hor⟩ := hsrc
  subst hd
  have hzs : z'.cells.size = ei.size := by rw [← hzl, ← hef.zeros]; simp
  have hm63 : n + m ≤ maxLen := by
    have : n + m ≤ 140737488355328 := Nat.le_trans (Nat.le_mul_of_pos_right _ hb0) hb
    unfold maxLen; omega
  have hdl : ds.length = m * ei.size := by
    rw [← hf.length, flatten_len hl, hn]
    rcases hsz with rfl | rfl <;> simp
  have hone : ∀ u ∈ ds, u.oneCell' = true := hf.all_one
  cases b with
  | none =>
    have hm0 : m = 0 ∧ ds = [] := by
      rcases hor with h | ⟨g, o, hq, _⟩
      · exact h
      · cases hq
    obtain ⟨rfl, rfl⟩ := hm0
    refine ⟨sv, w, [], ?_, by simpa using hown, ⟨rfl, rfl, rfl, Nat.le_refl _, fun _ _ _ => rfl⟩, .inl rfl, hf⟩
    rcases hown.2 with ⟨rfl, rfl⟩ | ⟨g, cp, cur, rfl, _, _, hnc, _⟩
    · simp [Builtin.append_, run_underlying htf.und, Go.sizeOf, typeInfo, hef.info, Builtin.lenOf, Builtin.firstCells]
    · simp [Builtin.append_, run_underlying htf.und, Go.sizeOf, typeInfo, hef.info, Builtin.lenOf, Builtin.firstCells, hnc, storeCells]
  | some ad =>
    have hnews : ∀ j u, ds[j]? = some u → w.cell? (ad.add j) = some u := by
      rcases hor with ⟨_, rfl⟩ | ⟨g, o, hq, hseg⟩
      · simp
      · injection hq with hq
        subst hq
        intro j u hu
        rw [add_at]
        exact hseg j u hu
    obtain ⟨v', w', h1, h2, h3, _, h5⟩ := run_append_own_at (P := P) w 0 ty rt e i' z' ei.size ei.bytes htf.und hef.info hef.zero hef.size hef.bytes hzs h0 sv n flat hown ad m cap ds hdl hnews hone hm63 hb (Nat.zero_le _)
    exact ⟨v', w', ds, h1, h2, h3, h5, hf⟩

theorem ownBlock_blk {e sz n : Nat} {sv : Value} {flat : List Value} (h : w.ownsRow 0 e sz sv n flat) : sv.ownBlock = blk sv := by
  rcases h.2 with ⟨rfl, _⟩ | ⟨g, cap, cur, rfl, _⟩ <;> rfl

theorem appendM_run (h : Rel Γ F ι S a w) {grp : Nat} (hg : grp < S.h.length) (hn : ¬ S.D grp) {ob : Oper} {ty : Nat} {s x : Operand} {rt : Nat} (ho : ob.op = .call { callee := .builtin .append, args := #[s, x], argTypes := #[ty, ty] }) {out : Out} {lg : List (Nat × Nat)}
    (hp : appendM cx grp ty (evalV S.t s) (evalV S.t x) S.ent = some (out, lg)) (hob : ∀ p ∈ out.obl, p) : Done cx.P Γ ι S grp ob out a w := by
  have hs := eval_rv h.tmps s
  have hx := eval_rv h.tmps x
  unfold appendM at hp
  cases hti : cx.T ty with
  | none => rw [hti] at hp; cases hp
  | some ti =>
  rw [hti] at hp
  simp only at hp
  cases hsl : ti.sl with
  | none => rw [hsl] at hp; cases hp
  | some e =>
  rw [hsl] at hp
  simp only at hp
  cases hei : cx.T e with
  | none => rw [hei] at hp; cases hp
  | some ei =>
  rw [hei] at hp
  simp only at hp
  obtain ⟨i, d, z, htf⟩ := cx.tf hti
  obtain ⟨i', d', z', hef⟩ := cx.tf hei
  have hd := htf.isSl hsl
  obtain ⟨⟨sz, m, rows2, sps⟩, l1, l2, hsrc, hp', hl12⟩ := RdM.bind_some hp
  clear hp
  have hsob : ∀ p ∈ sps, p := by
    simp only at hp'
    split at hp' <;> try (cases hp'; done)
    generalize evalV S.t s = sv at hp'
    cases sv <;> try (cases hp'; done)
    case nil =>
      have := RdM.pure_some hp'
      injection this with h2 h3
      subst h2
      exact fun p hp => hob p (List.mem_cons.2 (.inr hp))
    case own g j sz0 lo0 n0 =>
      cases lo0 with
      | succ q => cases hp'
      | zero =>
      simp only at hp'
      obtain ⟨en, l3, l4, hrd, hp'', hl34⟩ := RdM.bind_some hp'
      clear hp'
      cases en <;> try (cases hp''; done)
      simp only at hp''
      split at hp'' <;> try (cases hp''; done)
      have := RdM.pure_some hp''
      injection this with h2 h3
      subst h2
      exact fun p hp => hob p (List.mem_cons.2 (.inr (List.mem_cons.2 (.inr hp))))
  have hsr := srcM_run h hx hsrc hsob
  simp only at hp'
  split at hp' <;> try (cases hp'; done)
  rename_i hcond
  obtain ⟨hc1, hc2, hc3, hc4⟩ := hcond
  generalize evalV S.t s = sv at hp' hs
  have hrows : ∀ r ∈ rows2, r.length = ei.size := by
    intro r hr
    rcases hc1 with q | q
    · rw [← q]; exact hsr.2.1 r hr
    · have : rows2 = [] := List.eq_nil_of_length_eq_zero (hsr.1.trans q)
      rw [this] at hr; cases hr
  cases sv <;> try (cases hp'; done)
  case nil =>
    have := RdM.pure_some hp'
    injection this with h2 h3
    subst h2
    obtain hcs := hs.inv_nil
    have hb : m * ei.bytes ≤ 140737488355328 := hob _ (List.mem_cons.2 (.inl rfl))
    obtain ⟨v', w', ds, hr, hown, hgr, hat, hf⟩ := run_append_src htf hd hef hc2 hc3 hc4 (World.ownsRow_nil w 0 e ei.size) hc1 hsr (by simpa using hb) ob.type
    have hrun : (execOp a.eval ob).run cx.P w = .ok (.value v') w' := by
      simp [execOp, ho, resolve, invoke, builtin, hcs, hr]
    have hor : Same w w' F → OR w' F e ei.size v' m rows2 := fun hs' => ⟨_, by simpa using hown, by simpa using hf.mono hs' (fun _ y => y), hsr.1, hrows⟩
    have hX : ∀ k, Value.ownBlock (.slice none 0 0) = some k → ¬ F k ∧ (Γ.own k ∨ Γ.w0.heap.size ≤ k) ∧ ∀ g j e, S.ent g j = some e → e.live = true → ¬ EB w e (ι g j) k := by intro k hk; cases hk
    have hrel := h.new2 hg hn hgr hX (ent := .row e ei.size m rows2) (c0 := v') (by
      intro k hk
      have hk : blk v' = some k := hk
      rw [← ownBlock_blk hown] at hk
      rcases hat with q | q
      · rw [q] at hk; cases hk
      · rw [q] at hk; injection hk with hk; exact .inr (by omega)) hor
    have hs' : Same w w' F := same_of_heap fun g hF => hgr.block g (h.F1 g hF) (by intro q; cases q)
    refine ⟨_, _, _, F, newAt ι grp v', hrun, .inl rfl, ?_⟩
    exact hrel.put ob.dst (.cell (RC.whole (lay_D_self hg) newAt_eq (hor hs')))
  case own g j sz0 lo0 n0 =>
    cases lo0 with
    | succ q => cases hp'
    | zero =>
    simp only at hp'
    obtain ⟨en, l3, l4, hrd, hp'', hl34⟩ := RdM.bind_some hp'
    clear hp'
    have he := (RdM.rd_some hrd).1
    simp only at he
    have hre := h.ents g j en he
    cases en <;> try (cases hp''; done)
    case row e' sz' n' rows =>
      simp only at hp''
      split at hp'' <;> try (cases hp''; done)
      rename_i hcond
      obtain ⟨rfl, rfl, rfl⟩ := hcond
      have := RdM.pure_some hp''
      injection this with h2 h3
      subst h2
      have hnn : n0 = n' := hob _ (by simp)
      subst hnn
      have hb : (n0 + m) * ei.bytes ≤ 140737488355328 := hob _ (by simp)
      obtain ⟨flat, hown0, hf0, hn0, hl0⟩ := hre
      have hsv : a.eval s = ι g j := by
        obtain ⟨hD, ⟨b, nn, cap, hι, hlo, hb0, hb1, hc⟩ | ⟨hl0', _⟩⟩ := hs.inv_own
        case inr => omega
        rcases hown0.2 with ⟨hv, hz⟩ | ⟨g0, cap0, cur, hv, _⟩
        · rw [hι] at hv
          injection hv with e1 e2 e3
          subst e1; subst e2; subst e3; subst hz
          rw [hc, hι]; simp
        · rw [hι] at hv
          injection hv with e1 e2 e3
          subst e1; subst e2; subst e3
          rw [hc, hι]
          by_cases q : cap = 0
          · simp [q]
          · simp [q, Addr.add]
      obtain ⟨v', w', ds, hr, hown, hgr, hat, hf⟩ := run_append_src htf hd hef hc2 hc3 hc4 hown0 hc1 hsr hb ob.type
      have hrun : (execOp a.eval ob).run cx.P w = .ok (.value v') w' := by
        simp [execOp, ho, resolve, invoke, builtin, hsv, hr]
      have hkill := h.kill he
      have hor : Same w w' F → OR w' F e' ei.size v' (n0 + m) (rows ++ rows2) := fun hs' => ⟨_, hown, by rw [List.flatten_append]; exact (hf0.mono hs' (fun _ y => y)).append (hf.mono hs' (fun _ y => y)), by rw [List.length_append, hn0, hsr.1], by
        intro r hr'
        rcases List.mem_append.1 hr' with q | q
        · exact hl0 r q
        · exact hrows r q⟩
      have hX : ∀ k, (ι g j).ownBlock = some k → ¬ F k ∧ (Γ.own k ∨ Γ.w0.heap.size ≤ k) ∧ ∀ g' j' e, (S.setE g j .dead).ent g' j' = some e → e.live = true → ¬ EB w e (ι g' j') k := by
        intro k hk
        rw [ownBlock_blk hown0] at hk
        obtain ⟨x1, x2⟩ := h.sep g j _ k he rfl hk
        refine ⟨x1, x2, ?_⟩
        intro g' j' e1 he1 hl1 hk1
        rw [setE_ent he] at he1
        split at he1
        · injection he1 with he1; subst he1; cases hl1
        · rename_i q
          exact q (h.inj g' j' e1 g j _ k he1 he hl1 rfl hk1 hk)
      have hnD : ¬ (S.setE g j .dead).D grp := fun q => hn (setE_D.1 q)
      have hrel := hkill.new2 (by rw [setE_len]; exact hg) hnD hgr hX (ent := .row e' ei.size (n0 + m) (rows ++ rows2)) (c0 := v') (by
        intro k hk
        have hk : blk v' = some k := hk
        rw [← ownBlock_blk hown] at hk
        rcases hat with q | q
        · rw [q] at hk; exact .inl hk
        · rw [q] at hk; injection hk with hk; exact .inr (by omega)) hor
      have hs' : Same w w' F := same_of_heap fun g1 hF => hgr.block g1 (h.F1 g1 hF) fun q => (hX g1 q.symm).1 hF
      refine ⟨_, _, _, F, newAt ι grp v', hrun, .inl rfl, ?_⟩
      exact hrel.put ob.dst (.cell (RC.whole (lay_D_self (by rw [setE_len]; exact hg)) newAt_eq (hor hs')))

end

end Go.Proofs.Ythegkbaijmkhfaa
