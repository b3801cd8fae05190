/- Writing a variable or an element. -/
import Derived.Test.YthegkbaijmkhfaaAm12
set_option linter.unusedVariables false
set_option linter.unusedSimpArgs false
namespace Go.Proofs.Ythegkbaijmkhfaa
open Go

theorem splice_skip {α : Type} (r0 X vs : List α) (k : Nat) : spliceV (r0 ++ X) (r0.length + k) vs = r0 ++ spliceV X k vs := by
  unfold spliceV
  rw [List.take_append, List.drop_append, List.take_of_length_le (by omega), show r0.length + k - r0.length = k by omega, List.drop_eq_nil_of_le (by omega), show r0.length + k + vs.length - r0.length = k + vs.length by omega]
  simp
theorem splice_in {α : Type} (r0 X vs : List α) (k : Nat) (h : k + vs.length ≤ r0.length) : spliceV (r0 ++ X) k vs = spliceV r0 k vs ++ X := by
  unfold spliceV
  rw [List.take_append_of_le_length (by omega), List.drop_append_of_le_length (by omega)]
  simp
theorem flatten_splice {α : Type} {sz : Nat} {vs : List α} {off : Nat} : ∀ {rows : List (List α)} {idx : Nat} {r : List α}, (∀ r ∈ rows, r.length = sz) → rows[idx]? = some r → off + vs.length ≤ sz →
    (rows.set idx (spliceV r off vs)).flatten = spliceV rows.flatten (idx * sz + off) vs
  | [], idx, r, _, h, _ => by simp at h
  | r0 :: rs, 0, r, hl, h, ho => by
    simp at h
    subst h
    have : r0.length = sz := hl r0 (by simp)
    simp only [List.set_cons_zero, List.flatten_cons, Nat.zero_mul, Nat.zero_add]
    rw [splice_in _ _ _ _ (by omega)]
  | r0 :: rs, idx + 1, r, hl, h, ho => by
    simp at h
    have h0 : r0.length = sz := hl r0 (by simp)
    simp only [List.set_cons_succ, List.flatten_cons]
    rw [flatten_splice (fun x hx => hl x (by simp [hx])) h ho, ← splice_skip, h0]
    congr 1
    rw [Nat.succ_mul]
    omega
theorem splice_len {α : Type} (cs vs : List α) (off : Nat) (h : off + vs.length ≤ cs.length) : (spliceV cs off vs).length = cs.length := by
  unfold spliceV
  simp
  omega

theorem take_splice {α : Type} (cs vs : List α) (k m : Nat) (h : k + vs.length ≤ m) (hm : m ≤ cs.length) : (spliceV cs k vs).take m = spliceV (cs.take m) k vs := by
  have hl : (cs.take m).length = m := by simp; omega
  have hs : (spliceV (cs.take m) k vs).length = m := by rw [splice_len _ _ _ (by omega), hl]
  have e : spliceV cs k vs = spliceV (cs.take m) k vs ++ cs.drop m := by
    rw [← splice_in _ _ _ _ (by omega), List.take_append_drop]
  rw [e, List.take_append_of_le_length (by omega), List.take_of_length_le (by omega)]

theorem setE_ent_ne {S : St} {g j g' j' : Nat} {e : Ent} (h : ¬ (g' = g ∧ j' = j)) : (S.setE g j e).ent g' j' = S.ent g' j' := by
  by_cases q : ∃ e0, S.ent g j = some e0
  · obtain ⟨e0, he⟩ := q
    rw [setE_ent he, if_neg h]
  · unfold St.setE
    split
    · rename_i l hl
      have hj : l[j]? = none := by
        cases hx : l[j]? with
        | none => rfl
        | some x => exact absurd ⟨x, by rw [ent_eq hl]; exact hx⟩ q
      have hset : l.set j e = l := by
        rw [List.set_eq_of_length_le]
        simpa using hj
      rw [hset, set_same hl]
    · rfl

def apartFrom (us : List Upd) (g j : Nat) : Bool := us.all fun u => !(g == u.1.1 && j == u.1.2)

theorem upds_ent_ne {g j : Nat} : ∀ {us : List Upd} {S : St}, apartFrom us g j = true → (S.upds us).ent g j = S.ent g j
  | [], _, _ => rfl
  | ((g', j'), e) :: us, S, h => by
    simp [apartFrom] at h
    rw [St.upds, upds_ent_ne (by simp [apartFrom]; exact h.2), setE_ent_ne (fun q => h.1.elim (fun n => n q.1) (fun n => n q.2))]

theorem All2.all_one {w : World} {F D : Nat → Prop} {ι : Nat → Nat → Value} {vs : List V} {cs : List Value} (h : All2 (RC w F D ι) vs cs) : ∀ c ∈ cs, c.oneCell' = true := by
  induction h with
  | nil => simp
  | cons hc _ ih =>
    intro c hm
    rcases List.mem_cons.1 hm with rfl | hm
    · exact hc.one
    · exact ih c hm
theorem FL.all_one {w : World} {F : Nat → Prop} {vs : List V} {cs : List Value} (h : FL w F vs cs) : ∀ c ∈ cs, c.oneCell' = true :=
  All2.all_one (D := fun _ => True) (ι := fun _ _ => .nilFunc) (h.all2.imp fun _ _ x => .fv _ _ x)

theorem run_store_cells {P : Program} {w : World} {ob : Oper} {a : Act} {ty : Nat} {ti : TI} {i : TypeInfo} {d : TypeDesc} {z : Value} {x y : Operand} (ho : ob.op = .store ty x y) (htf : TF P ty ti i d z) {g o e : Nat} (hx : a.eval x = .pointer (some ⟨g, o, none⟩))
    {cur : Array Value} (hg : w.heap[g]? = some (.cells cur e (0, 0))) (hlen : (a.eval y).cells.size = ti.size) (hfit : o + ti.size ≤ cur.size) (h1 : ∀ c ∈ (a.eval y).cells.toList, c.oneCell' = true) :
    (execOp a.eval ob).run P w = .ok .skip (w.setRow g (spliceV cur.toList o (a.eval y).cells.toList).toArray) := by
  have hst := run_storeCells_at P g o e (a.eval y).cells.toList 0 cur w hg (by simp [hlen]; omega) h1
  simp only [Nat.add_zero] at hst
  simp [execOp, ho, hx, Instr.storeAt, Instr.sureAddr, storeVar, Sem.run_bind, htf.sizeOf, hlen, hst, spliceV]

def storeM (cx : Cx) (ty : Nat) (x y : V) (A : Ans) : RdM Out :=
  match cx.T ty, y.cells with
  | some ti, some vs => match x with
    | .ptr g j off => RdM.bind (RdM.rd g j) fun e => match e with
      | .var t cs => if vs.length = ti.size ∧ off + vs.length ≤ cs.length then RdM.pure { v := .bot, upd := [((g, j), .var t (spliceV cs off vs))] } else RdM.no
      | _ => RdM.no
    | .eptr g j sz idx off => RdM.bind (RdM.rd g j) fun e => match A with
      | .rowck r ck => RdM.bind (fzPs ck vs) fun f => match e with
        | .row t sz' n rows => if sz' = sz ∧ vs.length = ti.size ∧ off + vs.length ≤ sz ∧ apartFrom f.2.1 g j then RdM.pure { v := .bot, upd := f.2.1 ++ [((g, j), .row t sz n (rows.set idx (spliceV r off f.1)))], obl := (rows[idx]? = some r) :: f.2.2 } else RdM.no
        | .arr t sz' n rows => if sz' = sz ∧ vs.length = ti.size ∧ off + vs.length ≤ sz ∧ apartFrom f.2.1 g j then RdM.pure { v := .bot, upd := f.2.1 ++ [((g, j), .arr t sz n (rows.set idx (spliceV r off f.1)))], obl := (rows[idx]? = some r) :: f.2.2 } else RdM.no
        | _ => RdM.no
      | _ => RdM.no
    | _ => RdM.no
  | _, _ => RdM.no

section
variable {cx : Cx} {Γ : Ctx} {F : Nat → Prop} {ι : Nat → Nat → Value} {S : St} {a : Act} {w : World}

theorem put_none (a : Act) (c : Value) : a.put none c = a := rfl
theorem setT_none (t : List V) (v : V) : setT t none v = t := rfl

theorem apply_upd (S : St) (grp : Nat) (us : List Upd) (ps : List Prop) : S.apply grp none { v := .bot, upd := us, obl := ps } = S.upds us := by
  simp [St.apply, setT]

theorem setRow_size (w : World) (g : Nat) (cs : Array Value) : (w.setRow g cs).heap.size = w.heap.size := by simp [World.setRow]

theorem storeM_run (h : Rel Γ F ι S a w) {grp : Nat} {ob : Oper} {ty : Nat} {x y : Operand} {A : Ans} (ho : ob.op = .store ty x y) (hd : ob.dst = none) {out : Out} {lg : List (Nat × Nat)} (hp : storeM cx ty (evalV S.t x) (evalV S.t y) A S.ent = some (out, lg)) (hob : ∀ p ∈ out.obl, p) : Done cx.P Γ ι S grp ob out a w := by
  have hx := eval_rv h.tmps x
  have hy := eval_rv h.tmps y
  unfold storeM at hp
  cases hti : cx.T ty with
  | none => rw [hti] at hp; cases hp
  | some ti =>
  cases hvs : (evalV S.t y).cells with
  | none => rw [hti, hvs] at hp; cases hp
  | some vs =>
  rw [hti, hvs] at hp
  simp only at hp
  obtain ⟨i, d, z, htf⟩ := cx.tf hti
  have hcells := hy.cells hvs
  have hone := hcells.all_one
  have hclen : vs.length = (a.eval y).cells.size := by simpa using hcells.length
  generalize evalV S.t x = xv at hp hx
  cases xv <;> try (cases hp; done)
  case ptr g j off =>
    obtain ⟨hD, b, hι, hc⟩ := hx.inv_ptr
    obtain ⟨e, l1, l2, hrd, hp', hl12⟩ := RdM.bind_some hp
    clear hp
    have he := (RdM.rd_some hrd).1
    simp only at he
    have hre := h.ents g j e he
    cases e <;> try (cases hp'; done)
    rename_i t cs
    simp only at hp'
    split at hp' <;> try (cases hp'; done)
    rename_i hcond
    have := RdM.pure_some hp'
    injection this with h2 h3
    subst h2
    obtain ⟨g0, cur, h1, hg, hcs⟩ := hre
    rw [hι] at h1
    injection h1 with h1
    injection h1 with h1
    injection h1 with h1
    subst h1
    have hl : cs.length = cur.size := by simpa using hcs.length
    have hrun := run_store_cells (P := cx.P) ho htf hc hg (by omega) (by omega) hone
    refine ⟨_, undef, _, F, ι, hrun, .inr ⟨rfl, rfl⟩, ?_⟩
    rw [hd, put_none, apply_upd]
    refine h.write he rfl ⟨rfl, rfl, rfl⟩ (setRow_size _ _ _) (fun k hk => setRow_other w b k _ fun q => hk (EB.top (by rw [hι, q]; rfl))) (fun hs => ?_) (fun k hk => hk)
    exact ⟨b, _, hι, setRow_heap w b cur _ t (0, 0) hg, ((hcs.splice hcells off).imp fun _ _ x => x.mono hs (fun _ y => y) (fun _ y => setE_D.2 y) (fun _ _ _ => rfl))⟩
  case eptr g j sz idx off =>
    obtain ⟨hD, b, hι, hc⟩ := hx.inv_eptr
    obtain ⟨e, l1, l2, hrd, hp', hl12⟩ := RdM.bind_some hp
    clear hp
    have he := (RdM.rd_some hrd).1
    simp only at he
    cases A <;> try (cases hp'; done)
    rename_i r ck
    simp only at hp'
    obtain ⟨⟨vs', us, fps⟩, l3, l4, hfz, hp'', hl34⟩ := RdM.bind_some hp'
    clear hp'
    have hfob : ∀ p ∈ fps, p := by
      clear hx
      cases e <;> try (cases hp''; done)
      all_goals
        simp only at hp''
        split at hp'' <;> try (cases hp''; done)
        have := RdM.pure_some hp''
        injection this with h2 h3
        subst h2
        exact fun p hp => hob p (List.mem_cons.2 (.inr hp))
    obtain ⟨F', hF', hrel, hfr, hfl⟩ := fzPs_run h (Frz.refl S) hcells hfz hfob
    have hflen : vs'.length = vs.length := by rw [hfl.length, hclen]; simp
    cases e <;> try (cases hp''; done)
    case row t sz' n rows =>
      simp only at hp''
      split at hp'' <;> try (cases hp''; done)
      rename_i hcond
      obtain ⟨rfl, hc1, hc2, hc3⟩ := hcond
      have := RdM.pure_some hp''
      injection this with h2 h3
      subst h2
      have hr : rows[idx]? = some r := hob _ (List.mem_cons.2 (.inl rfl))
      have he' : (S.upds us).ent g j = some (.row t sz' n rows) := by rw [upds_ent_ne hc3]; exact he
      obtain ⟨flat, hor, hf, hn, hl⟩ := hrel.ents g j _ he'
      have hidx := (List.getElem?_eq_some_iff.1 hr).1
      rcases hor.2 with ⟨hv, h0⟩ | ⟨g0, cap, cur, hv, hbg, hg, hnc, hcm, hcs, ht⟩
      · omega
      · have hb : b = g0 := by rw [hv] at hι; simp [blk] at hι; omega
        subst hb
        have hflat : flat.length = n * sz' := hor.1
        have hcl : n * sz' ≤ cur.size := by rw [hcs]; exact Nat.mul_le_mul_right _ hnc
        have hpos : idx * sz' + sz' ≤ n * sz' := by rw [← Nat.succ_mul]; exact Nat.mul_le_mul_right _ (by omega)
        have hrun := run_store_cells (P := cx.P) ho htf hc hg (by omega) (by omega) hone
        refine ⟨_, undef, _, F', ι, hrun, .inr ⟨rfl, rfl⟩, ?_⟩
        rw [hd, put_none, apply_upd, St.upds_append]
        refine hrel.write he' rfl ⟨rfl, rfl, rfl⟩ (setRow_size _ _ _) (fun k hk => setRow_other w b k _ fun q => hk (EB.top (by rw [hι, q]))) (fun hs => ?_) (fun k hk => hk)
        have hrl : r.length = sz' := hl r (List.mem_of_getElem? hr)
        refine ⟨spliceV flat (idx * sz' + off) (a.eval y).cells.toList, ⟨?_, .inr ⟨b, cap, _, hv, hbg, setRow_heap w b cur _ t (0, 0) hg, hnc, hcm, ?_, ?_⟩⟩, ?_, by simpa using hn, ?_⟩
        · rw [splice_len _ _ _ (by simp; omega)]; exact hor.1
        · rw [List.size_toArray, splice_len _ _ _ (by simp; omega)]; simpa using hcs
        · rw [← ht]
          exact take_splice _ _ _ _ (by simp; omega) (by simpa using hcl)
        · rw [flatten_splice hl hr (by omega)]
          exact FL.of (((hf.all2.splice hfl.all2 _).imp fun _ _ x => x.mono hs (fun _ y => y)))
        · intro q hq
          rcases List.mem_or_eq_of_mem_set hq with hq | rfl
          · exact hl q hq
          · rw [splice_len _ _ _ (by omega)]; exact hrl
    case arr t sz' n rows =>
      simp only at hp''
      split at hp'' <;> try (cases hp''; done)
      rename_i hcond
      obtain ⟨rfl, hc1, hc2, hc3⟩ := hcond
      have := RdM.pure_some hp''
      injection this with h2 h3
      subst h2
      have hr : rows[idx]? = some r := hob _ (List.mem_cons.2 (.inl rfl))
      have he' : (S.upds us).ent g j = some (.arr t sz' n rows) := by rw [upds_ent_ne hc3]; exact he
      obtain ⟨g0, cur, h1, hg, hf, hn, hl⟩ := hrel.ents g j _ he'
      have hidx := (List.getElem?_eq_some_iff.1 hr).1
      have hb : b = g0 := by rw [h1] at hι; simp [blk] at hι; omega
      subst hb
      have hcl : cur.toList.length = n * sz' := by rw [← hf.length, flatten_len hl, hn]
      have hcl' : cur.size = n * sz' := by simpa using hcl
      have hpos : idx * sz' + sz' ≤ n * sz' := by rw [← Nat.succ_mul]; exact Nat.mul_le_mul_right _ (by omega)
      have hrun := run_store_cells (P := cx.P) ho htf hc hg (by omega) (by omega) hone
      refine ⟨_, undef, _, F', ι, hrun, .inr ⟨rfl, rfl⟩, ?_⟩
      rw [hd, put_none, apply_upd, St.upds_append]
      refine hrel.write he' rfl ⟨rfl, rfl, rfl⟩ (setRow_size _ _ _) (fun k hk => setRow_other w b k _ fun q => hk (EB.top (by rw [hι, q]))) (fun hs => ?_) (fun k hk => hk)
      have hrl : r.length = sz' := hl r (List.mem_of_getElem? hr)
      refine ⟨b, _, h1, setRow_heap w b cur _ t (0, 0) hg, ?_, by simpa using hn, ?_⟩
      · rw [flatten_splice hl hr (by omega)]
        exact FL.of (((hf.all2.splice hfl.all2 _).imp fun _ _ x => x.mono hs (fun _ y => y)))
      · intro q hq
        rcases List.mem_or_eq_of_mem_set hq with hq | rfl
        · exact hl q hq
        · rw [splice_len _ _ _ (by omega)]; exact hrl

end

end Go.Proofs.Ythegkbaijmkhfaa
