/- Rows that own what lies in them: one of a single element, and one appended to another. -/
import Derived.Test.YthegkbaijmkhfaaAm20M
set_option linter.unusedVariables false
set_option linter.unusedSimpArgs false
namespace Go.Proofs.Ythegkbaijmkhfaa
open Go

section
variable {cx : Cx} {Γ : Ctx} {F : Nat → Prop} {ι : Nat → Nat → Value} {S S' : St} {a : Act} {w : World}

theorem Rel.killsR : ∀ {ks : List (Nat × Nat)} {S : St}, Rel Γ F ι S a w → (∀ id ∈ ks, ∃ e, S.ent id.1 id.2 = some e) → Rel Γ F ι (S.upds (kills ks)) a w
  | [], S, h, _ => h
  | id :: ks, S, h, hk => by
    obtain ⟨e, he⟩ := hk id (by simp)
    refine Rel.killsR (S := S.setE id.1 id.2 .dead) (h.kill he) fun id' hid => ?_
    obtain ⟨e', he'⟩ := hk id' (by simp [hid])
    rw [setE_ent he]
    split
    · exact ⟨_, rfl⟩
    · exact ⟨e', he'⟩
theorem NoRef.flatB {rows : List (List V)} (h : NoRef rows) : rows.flatten.all (fun v => !v.isRef) = true := by
  rw [List.all_eq_true]
  intro v hv
  obtain ⟨r, hr, hv⟩ := List.mem_flatten.1 hv
  rw [h r hr v hv]
  rfl

/-- A row is laid that takes over blocks that nobody has any more. -/
theorem Rel.layDeep (h : Rel Γ F ι S a w) {grp : Nat} (hgl : grp < S.h.length) (hn : ¬ S.D grp) {X : Option Nat} {w' : World} (hgr : w.grownBy w' X)
    (hX : ∀ k, X = some k → ¬ F k ∧ (Γ.own k ∨ Γ.w0.heap.size ≤ k) ∧ ∀ g j e, S.ent g j = some e → e.live = true → ¬ EB w e (ι g j) k)
    {e sz n : Nat} {rows : List (List V)} {sv : Value} {flat : List Value} {fs : List Nat} (hown : w'.ownsRow 0 e sz sv n flat) (hbl : BL w F rows.flatten flat fs) (hlen : rows.length = n) (hl : ∀ r ∈ rows, r.length = sz)
    (hsv : ∀ k, blk sv = some k → X = some k ∨ w.heap.size ≤ k)
    (hfs : ∀ k ∈ fs, ¬ F k ∧ (Γ.own k ∨ Γ.w0.heap.size ≤ k) ∧ (∀ g j e, S.ent g j = some e → e.live = true → ¬ EB w e (ι g j) k) ∧ X ≠ some k) (hnd : fs.Nodup) :
    Rel Γ F (newAt ι grp sv) (S.lay grp [.deep false e sz n rows]) a w' ∧ RC w' F (S.lay grp [.deep false e sz n rows]).D (newAt ι grp sv) (.own grp 0 sz 0 n) sv := by
  have hs : Same w w' F := same_of_heap fun g hF => hgr.block g (h.F1 g hF) fun q => (hX g q.symm).1 hF
  have hlt := hbl.lt
  have hbl' : BL w' F rows.flatten flat fs := hbl.mono hs (fun _ x => x) fun k hk => hgr.block k (hlt k hk) fun q => (hfs k hk).2.2.2 q.symm
  have hkl : ∀ {D : Nat → Prop} {ι : Nat → Nat → Value}, KL w' F D ι rows.flatten flat fs := hbl'.kl
  have hEB : ∀ k, EB w' (.deep false e sz n rows) sv k → (X = some k ∨ w.heap.size ≤ k) ∨ k ∈ fs := by
    intro k hk
    rcases List.mem_append.1 ((EB.deep_iff (D := fun _ => True) (ι := fun _ _ => .nilFunc) hown hkl).1 hk) with q | q
    · exact .inl (hsv k (mem_fpb.1 q))
    · exact .inr q
  have h' := h.world2 hgr hX
  have hback : ∀ {g' j' e' k}, S.ent g' j' = some e' → e'.live = true → EB w' e' (ι g' j') k → EB w e' (ι g' j') k := fun he' hl' hk' =>
    (h.ents _ _ _ he').back (fun k q => hgr.block k (h.lt he' hl' q) fun z => (hX k z.symm).2.2 _ _ _ he' hl' q) hk'
  refine ⟨h'.lay hgl hn (fun g j q => newAt_ne q) ?_ ?_ ?_ ?_, RC.wholeO (lay_D_self hgl) newAt_eq hown⟩
  · intro j e1 he
    cases j with
    | succ j => simp at he
    | zero =>
      simp at he
      subst he
      rw [newAt_eq]
      refine ⟨flat, fs, hown, hkl, hlen, hl, List.nodup_append.2 ⟨fpb_nodup sv, hnd, ?_⟩, fun _ => NoRef.of_flat hbl.noRef⟩
      intro k hk k' hk' hkk
      subst hkk
      rcases hsv k (mem_fpb.1 hk) with q | q
      · exact (hfs k hk').2.2.2 q
      · have := hlt k hk'
        omega
  · intro j e1 k he hl1 hk
    rw [newAt_eq] at hk
    cases j with
    | succ j => simp at he
    | zero =>
      simp at he
      subst he
      rcases hEB k hk with (q | q) | q
      · exact ⟨(hX k q).1, (hX k q).2.1⟩
      · refine ⟨fun hF => ?_, .inr (Nat.le_trans h.kept.size q)⟩
        have := h.F1 k hF
        omega
      · exact ⟨(hfs k q).1, (hfs k q).2.1⟩
  · intro j e1 j' e1' k he he' _ _ _ _
    cases j <;> cases j' <;> simp_all
  · intro j e1 g' j' e' k he he' _ hl' hk hk'
    rw [newAt_eq] at hk
    cases j with
    | succ j => simp at he
    | zero =>
      simp at he
      subst he
      have hk2 := hback he' hl' hk'
      rcases hEB k hk with (q | q) | q
      · exact (hX k q).2.2 g' j' e' he' hl' hk2
      · have := h.lt he' hl' hk2
        omega
      · exact (hfs k q).2.2.1 g' j' e' he' hl' hk2

/-! ### An element taken out of its place -/
/-- What is left behind. -/
def holeC : V → V
  | .osl .. | .dsl .. => .bot
  | v => v
theorem KL.holes : ∀ {vs : List V} {cs : List Value} {f : List Nat} {D : Nat → Prop} {ι : Nat → Nat → Value}, KL w F D ι vs cs f → vs.all (fun v => !v.isRef) = true → KL w F D ι (vs.map holeC) cs []
  | _, _, _, _, _, .nil, _ => .nil
  | _, _, _, D, ι, .cons v c f vs cs fs h t, hv => by
    simp only [List.all_cons, Bool.and_eq_true] at hv
    have h1 : KC w F D ι (holeC v) c [] := by
      have hone := h.one
      cases h with
      | rc h =>
        have : holeC v = v := by
          cases h with
          | fv v c h => cases h <;> rfl
          | _ => rfl
        rw [this]
        exact .rc _ _ h
      | bc _ h => cases h with
        | fv _ _ h =>
          have : holeC v = v := by cases h <;> rfl
          rw [this]
          exact .rc _ _ (.fv _ _ h)
        | _ => exact .rc _ _ (.fv _ _ (.bot _ hone))
    exact .cons _ _ [] _ _ [] h1 (KL.holes t hv.2)
def dtakM (cx : Cx) (grp ty : Nat) (x : V) (r : List V) : RdM Out :=
  match cx.T ty with
  | none => RdM.no
  | some ti => match x with
    | .eptr g j sz idx off => RdM.bind (RdM.rd g j) fun e => match e with
      | .deep _ t sz' n rows =>
        let m := if ti.agg then ti.size else 1
        let y := thawCs grp 0 ((r.drop off).take m)
        if sz' = sz ∧ off + m ≤ sz ∧ ((r.drop off).take m).all (fun v => !v.isRef) then
          match readV ti y.1 with
          | some v => RdM.pure { v := v, new := some y.2, upd := [((g, j), .deep true t sz n (rows.set idx (spliceV r off (((r.drop off).take m).map holeC))))], obl := [rows[idx]? = some r] }
          | none => RdM.no
        else RdM.no
      | _ => RdM.no
    | _ => RdM.no

set_option maxHeartbeats 800000 in
theorem dtakM_run (h : Rel Γ F ι S a w) {grp : Nat} (hg : grp < S.h.length) (hn : ¬ S.D grp) {ob : Oper} {ty : Nat} {x : Operand} {r : List V} (ho : ob.op = .load ty x) {out : Out} {lg : List (Nat × Nat)} (hp : dtakM cx grp ty (evalV S.t x) r S.ent = some (out, lg)) (hob : ∀ p ∈ out.obl, p) : Done cx.P Γ ι S grp ob out a w := by
  have hx := eval_rv h.tmps x
  unfold dtakM at hp
  cases hti : cx.T ty with
  | none => rw [hti] at hp; cases hp
  | some ti =>
  rw [hti] at hp
  obtain ⟨i, d, z, htf⟩ := cx.tf hti
  generalize evalV S.t x = xv at hp hx
  cases xv <;> try (cases hp; done)
  case eptr g j sz idx off =>
    obtain ⟨hD, b, hι, hc⟩ := hx.inv_eptr
    obtain ⟨e, l1, l2, hrd, hp', hl12⟩ := RdM.bind_some hp
    clear hp
    have he := (RdM.rd_some hrd).1
    simp only at he
    cases e <;> try (cases hp'; done)
    rename_i o t sz' n rows
    simp only at hp'
    obtain ⟨m, hm⟩ : ∃ m, (if ti.agg = true then ti.size else 1) = m := ⟨_, rfl⟩
    rw [hm] at hp'
    split at hp' <;> try (cases hp'; done)
    rename_i hcond
    obtain ⟨rfl, hc1, hc2⟩ := hcond
    obtain ⟨y, hy⟩ : ∃ y, thawCs grp 0 ((r.drop off).take m) = y := ⟨_, rfl⟩
    rw [hy] at hp'
    cases hrv : readV ti y.1 with
    | none => rw [hrv] at hp'; cases hp'
    | some v =>
    rw [hrv] at hp'
    have := RdM.pure_some hp'
    injection this with h2 h3
    subst h2
    have hr : rows[idx]? = some r := hob _ (by simp)
    obtain ⟨flat, fs, hor, hkl, hrn, hl, hnd, hnr⟩ := h.ents g j _ he
    obtain ⟨hseg, hmid, hle⟩ := deep_elem hor hrn hl hι hr hc1
    have hrl := hl r (List.mem_of_getElem? hr)
    have hml : ((r.drop off).take m).length = m := by simp; omega
    have hgg : g ≠ grp := fun q => hn (q ▸ hD)
    obtain ⟨k, hk⟩ : ∃ k, idx * sz' + off = k := ⟨_, rfl⟩
    rw [hk] at hseg hmid hle
    -- the element's cells, and the others'
    obtain ⟨fa, fm, fb, rfl, ka, km, kb⟩ := hkl.cut (k := k) (m := m) hle
    rw [hmid] at km
    have hbl := km.toBL hc2
    have hds : (flat.drop k).take m = ((flat.drop k).take m) := rfl
    have hflen : flat.length = rows.flatten.length := hkl.len.symm
    have hspl : ∀ us : List V, us.length = m → (rows.set idx (spliceV r off us)).flatten = rows.flatten.take k ++ (us ++ rows.flatten.drop (k + m)) := by
      intro us hus
      rw [flatten_splice hl hr (by omega), hk]
      unfold spliceV
      rw [hus, List.append_assoc]
    have hfs : flat = flat.take k ++ ((flat.drop k).take m ++ flat.drop (k + m)) := by
      rw [← List.drop_drop, List.take_append_drop, List.take_append_drop]
    have hrl' : ∀ us : List V, us.length = m → ∀ q ∈ rows.set idx (spliceV r off us), q.length = sz' := by
      intro us hus q hq
      rcases List.mem_or_eq_of_mem_set hq with hq | rfl
      · exact hl q hq
      · rw [splice_len _ _ _ (by omega)]; exact hrl
    have hnd2 : (fpb (ι g j) ++ (fa ++ fb)).Nodup := List.Nodup.sublist (List.Sublist.append_left (List.Sublist.append_left (List.sublist_append_right _ _) _) _) hnd
    have hndm : fm.Nodup := (List.nodup_append.1 (List.nodup_append.1 (List.nodup_append.1 hnd).2.1).2.1).1
    have hdm : ∀ k ∈ fm, k ∉ fpb (ι g j) ++ (fa ++ fb) := by
      intro q hq hq'
      have hp := (perm_mid (C := fpb (ι g j)) (perm_mid (C := fa) (List.Perm.refl (fm ++ fb)))).nodup_iff.1 hnd
      exact (List.nodup_append.1 hp).2.2 q hq q hq' rfl
    -- first: the cells are not told
    obtain ⟨us0, hus0⟩ : ∃ us : List V, us = ((r.drop off).take m).map holeC := ⟨_, rfl⟩
    have hus0l : us0.length = m := by rw [hus0, List.length_map, hml]
    have kl0 : ∀ {D' : Nat → Prop} {ι' : Nat → Nat → Value}, (∀ k, S.D k → D' k) → (∀ g j, S.D g → ι' g j = ι g j) → ∀ {us : List V}, us.length = m → KL w F D' ι' us ((flat.drop k).take m) [] → KL w F D' ι' (rows.set idx (spliceV r off us)).flatten flat (fa ++ ([] ++ fb)) := by
      intro D' ι' h1 h2 us hus hku
      rw [hspl us hus, hfs]
      have l1 : (flat.take k).length = k := by simp; omega
      have e1 : (flat.take k ++ ((flat.drop k).take m ++ flat.drop (k + m))) = flat := hfs.symm
      exact (ka.mono (fun _ _ _ => rfl) (fun _ x => x) h1 h2 (fun _ _ => rfl)).app (hku.app (kb.mono (fun _ _ _ => rfl) (fun _ x => x) h1 h2 (fun _ _ => rfl)))
    have hmem0 : ∀ q, q ∈ fpb (ι g j) ++ (fa ++ ([] ++ fb)) → q ∈ fpb (ι g j) ++ (fa ++ (fm ++ fb)) := by
      intro q hq
      simp only [List.mem_append, List.not_mem_nil, false_or] at hq ⊢
      rcases hq with x | x | x <;> simp [x]
    have rel1 : Rel Γ F ι (S.setE g j (.deep true t sz' n (rows.set idx (spliceV r off us0)))) a w := by
      have k1 := kl0 (D' := S.D) (ι' := ι) (fun _ x => x) (fun _ _ _ => rfl) hus0l (hus0 ▸ km.holes hc2)
      refine h.write he rfl ⟨rfl, rfl, rfl⟩ rfl (fun _ _ => rfl) (fun _ => ?_) ?_
      · exact ⟨flat, _, hor, k1.mono (fun _ _ _ => rfl) (fun _ x => x) (fun k x => setE_D.2 x) (fun _ _ _ => rfl) (fun _ _ => rfl), by simpa using hrn, hrl' _ hus0l, by simpa using hnd2, fun q => by cases q⟩
      · intro q hq
        exact (EB.deep_iff hor hkl).2 (hmem0 q ((EB.deep_iff hor k1).1 hq))
    have he1 : (S.setE g j (.deep true t sz' n (rows.set idx (spliceV r off us0)))).ent g j = some (.deep true t sz' n (rows.set idx (spliceV r off us0))) := by rw [setE_ent he]; simp
    -- then the entries for what the cells own
    obtain ⟨bs, hbsl, hhas, hth⟩ := thawCs_run (grp := grp) hbl 0
    rw [hy] at hbsl hhas hth
    obtain ⟨ι', hι'⟩ : ∃ ι', ι' = listAt ι grp bs := ⟨_, rfl⟩
    have hne : ∀ g j, g ≠ grp → ι' g j = ι g j := fun g j q => by rw [hι']; exact listAt_ne q
    have hlenS : grp < (S.setE g j (.deep true t sz' n (rows.set idx (spliceV r off us0)))).h.length := by rw [setE_len]; exact hg
    have hnD : ¬ (S.setE g j (.deep true t sz' n (rows.set idx (spliceV r off us0)))).D grp := fun q => hn (setE_D.1 q)
    have hDg := lay_D_self (S := S.setE g j (.deep true t sz' n (rows.set idx (spliceV r off us0)))) (new := y.2) hlenS
    obtain ⟨hrc, hlie⟩ := hth ((S.setE g j (.deep true t sz' n (rows.set idx (spliceV r off us0)))).lay grp y.2).D ι' hDg (fun q c hq => by rw [hι', Nat.zero_add]; exact listAt_get hq) hndm
    have hvb : ∀ (q : Nat) (e : Ent), y.2[q]? = some e → bs[q]? = some (ι' grp q) := by
      intro q e hq
      have hlt : q < bs.length := by rw [hbsl]; exact (List.getElem?_eq_some_iff.1 hq).1
      have hv : ι' grp q = bs[q] := by rw [hι']; exact listAt_get (List.getElem?_eq_getElem hlt)
      rw [hv]
      exact List.getElem?_eq_getElem hlt
    have hmB : ∀ k ∈ fm, EB w (.deep o t sz' n rows) (ι g j) k := fun k hk => (EB.deep_iff hor hkl).2 (by simp [hk])
    have k1 := kl0 (D' := S.D) (ι' := ι) (fun _ x => x) (fun _ _ _ => rfl) hus0l (hus0 ▸ km.holes hc2)
    have rel2 := rel1.lay hlenS hnD (new := y.2) (ι' := ι') hne (fun q e he => hlie q e _ he (hvb q e he))
      (fun q e k he hl hk => h.sep _ _ _ k ‹S.ent g j = some (.deep o t sz' n rows)› rfl (hmB k (hhas.mem he (hvb q e he) hk)))
      (fun q e q' e' k he he' hl hl' hk hk' => hhas.inj hndm he (hvb q e he) hk he' (hvb q' e' he') hk')
      (fun q e g' j' e' k he0 he' hl hl' hk hk' => by
        have hkm := hhas.mem he0 (hvb q e he0) hk
        rw [setE_ent he] at he'
        split at he'
        · rename_i qq
          obtain ⟨rfl, rfl⟩ := qq
          injection he' with he'
          subst he'
          exact hdm k hkm (by simpa using (EB.deep_iff hor k1).1 hk')
        · rename_i qq
          exact qq (h.inj _ _ _ _ _ _ k he' he hl' rfl hk' (hmB k hkm)))
    have he2 : ((S.setE g j (.deep true t sz' n (rows.set idx (spliceV r off us0)))).lay grp y.2).ent g j = some (.deep true t sz' n (rows.set idx (spliceV r off us0))) := by rw [lay_ent_ne hgg]; exact he1
    -- what is read
    obtain ⟨c, hrd', hvc⟩ := readV_rel hrc hrv
    refine ⟨_, c, w, F, ι', load_run ho htf (by rw [hc, hk]) hseg hrd', .inl rfl, ?_⟩
    have hput := rel2.put ob.dst hvc
    rw [hus0] at hput
    exact hput


/-! ### An element put back, and the row closed -/
theorem Rel.shut (h : Rel Γ F ι S a w) {g j t sz n : Nat} {o : Bool} {rows : List (List V)} (he : S.ent g j = some (.deep o t sz n rows)) (hn : NoRef rows) : Rel Γ F ι (S.setE g j (.deep false t sz n rows)) a w := by
  refine h.write he rfl ⟨rfl, rfl, rfl⟩ rfl (fun _ _ => rfl) (fun _ => ?_) (fun k hk => hk)
  obtain ⟨flat, fs, q1, q2, q3, q4, q5, q6⟩ := h.ents g j _ he
  exact ⟨flat, fs, q1, q2.mono (fun _ _ _ => rfl) (fun _ x => x) (fun k x => setE_D.2 x) (fun _ _ _ => rfl) (fun _ _ => rfl), q3, q4, q5, fun _ => hn⟩
theorem upds_some {g j : Nat} : ∀ {us : List Upd} {S : St} {e : Ent}, S.ent g j = some e → ∃ e', (S.upds us).ent g j = some e'
  | [], _, e, h => ⟨e, h⟩
  | ((g', j'), e') :: us, S, e, h => by
    cases hx : S.ent g' j' with
    | none =>
      have : (S.setE g' j' e').ent g j = some e := by
        by_cases q : g = g' ∧ j = j'
        · rw [q.1, q.2, hx] at h; cases h
        · rw [setE_ent_ne q]; exact h
      exact upds_some (us := us) (S := S.setE g' j' e') this
    | some e0 =>
      have : ∃ e1, (S.setE g' j' e').ent g j = some e1 := by
        rw [setE_ent hx]
        split
        · exact ⟨_, rfl⟩
        · exact ⟨e, h⟩
      obtain ⟨e1, h1⟩ := this
      exact upds_some (us := us) (S := S.setE g' j' e') h1
def dcloseM (cx : Cx) (ty : Nat) (x y : V) (r : List V) (ck om : List (Option Nat)) : RdM Out :=
  RdM.bind (dstoreM cx ty x y r ck om) fun o => match o.new, o.upd.reverse with
    | none, ((g, j), .deep b t sz n rows) :: us => RdM.bind (RdM.rd g j) fun _ => RdM.pure { v := o.v, upd := o.upd ++ [((g, j), .deep false t sz n rows)], obl := NoRef rows :: o.obl }
    | _, _ => RdM.no
theorem setE_tmps {S : St} {g j : Nat} {e : Ent} {t : List V} : ({ S with t := t } : St).setE g j e = { S.setE g j e with t := t } := by
  unfold St.setE
  cases S.h[g]? with
  | none => rfl
  | some o => cases o <;> rfl
theorem dcloseM_run (h : Rel Γ F ι S a w) {grp : Nat} {ob : Oper} {ty : Nat} {x y : Operand} {r : List V} {ck om : List (Option Nat)} (ho : ob.op = .store ty x y) (hd : ob.dst = none) {out : Out} {lg : List (Nat × Nat)} (hp : dcloseM cx ty (evalV S.t x) (evalV S.t y) r ck om S.ent = some (out, lg)) (hob : ∀ p ∈ out.obl, p) : Done cx.P Γ ι S grp ob out a w := by
  unfold dcloseM at hp
  obtain ⟨o, l1, l2, hd1, hp', _⟩ := RdM.bind_some hp
  clear hp
  simp only at hp'
  cases hnew : o.new with
  | some _ => rw [hnew] at hp'; cases hp'
  | none =>
  rw [hnew] at hp'
  cases hrev : o.upd.reverse with
  | nil => rw [hrev] at hp'; cases hp'
  | cons u us =>
  rw [hrev] at hp'
  obtain ⟨⟨g, j⟩, e⟩ := u
  cases e <;> try (cases hp'; done)
  rename_i b t sz n rows
  simp only at hp'
  obtain ⟨e0, l3, l4, hrd, hp'', _⟩ := RdM.bind_some hp'
  have he0 := (RdM.rd_some hrd).1
  simp only at he0
  have := RdM.pure_some hp''
  injection this with h2 h3
  subst h2
  have hnr : NoRef rows := hob _ (by simp)
  obtain ⟨nx, c, w', F', ι', hrun, hnx, hrel⟩ := dstoreM_run h (grp := grp) ho hd hd1 (fun p hp => hob p (by simp [hp]))
  refine ⟨nx, c, w', F', ι', hrun, hnx, ?_⟩
  have hu : o.upd = us.reverse ++ [((g, j), .deep b t sz n rows)] := by
    have := congrArg List.reverse hrev
    simpa using this
  have happ : S.apply grp ob.dst o = { S.upds o.upd with t := setT S.t ob.dst o.v } := by
    unfold St.apply
    rw [hnew]
    simp only [St.upds_t]
  rw [happ] at hrel
  have hent : ({ S.upds o.upd with t := setT S.t ob.dst o.v } : St).ent g j = some (.deep b t sz n rows) := by
    show (S.upds o.upd).ent g j = _
    rw [hu, St.upds_append]
    obtain ⟨e1, he1⟩ := upds_some (us := us.reverse) he0
    show ((S.upds us.reverse).setE g j _).ent g j = _
    rw [setE_ent he1]
    simp
  have hs := hrel.shut hent hnr
  rw [setE_tmps] at hs
  unfold St.apply
  simp only [St.upds_append, St.upds_t]
  exact hs

/-! ### One of a single element -/
def dbuildM (cx : Cx) (grp ty len : Nat) (parts : List (Nat × V)) (ck om : List (Option Nat)) : RdM Out :=
  match cx.T ty with
  | some ti => match ti.sl with
    | some e => match cx.T e with
      | some ei => match parts with
        | [(0, x)] => match x.cells with
          | some cs => RdM.bind (cellsM ck om cs) fun f =>
            if len = 1 ∧ cs.length = ei.size ∧ ei.zero.length = ei.size ∧ 0 < ei.size ∧ ei.size ≤ 16777216 ∧ nodupB f.ks = true ∧ f.ls.isEmpty = true then
              RdM.pure { v := .own grp 0 ei.size 0 1, new := some [.deep false e ei.size 1 [f.v]], upd := kills f.ks, obl := f.obl }
            else RdM.no
          | none => RdM.no
        | _ => RdM.no
      | none => RdM.no
    | none => RdM.no
  | none => RdM.no

theorem fill_one {u : Value} {ds : Array Value} {sz : Nat} (hu : u.cells.size = sz) (hd : ds.size = sz) : ∃ es : Array Value, Instr.fill (fun i => some (i * sz, sz)) ds [(0, u)] = some es ∧ es.toList = u.cells.toList := by
  have hout := foldl_splice u.cells.toList 0 (0 * sz) ds (by simp only [Array.length_toList]; omega)
  refine ⟨u.cells.toList.zipIdx.foldl (fun (cs : Array Value) (x : Value × Nat) => cs.setIfInBounds (0 * sz + x.2) x.1) ds, ?_, ?_⟩
  · have hcond' : (u.cells.size ≠ sz || 0 * sz + u.cells.size > ds.size) = false := by
      simp [hu]; omega
    simp only [Instr.fill, hcond']
    simp only [Bool.false_eq_true, if_false]
    congr 1
    rw [← Array.foldl_toList, Array.toList_zipIdx]
  · rw [hout, Nat.zero_mul, Nat.add_zero, splice_whole]
    simp only [Array.length_toList]
    omega

theorem dbuildM_run (h : Rel Γ F ι S a w) {grp : Nat} (hg : grp < S.h.length) (hn : ¬ S.D grp) {ob : Oper} {ty len : Nat} {parts : Array (Nat × Operand)} {ck om : List (Option Nat)} (ho : ob.op = .buildSlice ty len parts) {out : Out} {lg : List (Nat × Nat)}
    (hp : dbuildM cx grp ty len (parts.toList.map fun (i, x) => (i, evalV S.t x)) ck om S.ent = some (out, lg)) (hob : ∀ p ∈ out.obl, p) : Done cx.P Γ ι S grp ob out a w := by
  unfold dbuildM at hp
  cases hti : cx.T ty with
  | none => rw [hti] at hp; cases hp
  | some ti =>
  rw [hti] at hp
  simp only at hp
  cases hsl : ti.sl with
  | none => rw [hsl] at hp; cases hp
  | some e =>
  rw [hsl] at hp
  simp only at hp
  cases hei : cx.T e with
  | none => rw [hei] at hp; cases hp
  | some ei =>
  rw [hei] at hp
  simp only at hp
  have hrel := parts_rel h.tmps parts.toList
  generalize hpl : (parts.toList.map fun (i, x) => (i, evalV S.t x)) = pl at hp hrel
  generalize hql : (parts.toList.map fun (i, x) => (i, a.eval x)) = ql at hrel
  cases hrel with
  | nil => cases hp
  | @cons p q pl ql hpq ht =>
  obtain ⟨i, x⟩ := p
  obtain ⟨i', u⟩ := q
  obtain ⟨hii, hxu⟩ := hpq
  simp only at hii hxu
  subst hii
  cases ht with
  | cons _ _ => cases i <;> cases hp
  | nil =>
  cases i with
  | succ i => cases hp
  | zero =>
  simp only at hp
  cases hcs : x.cells with
  | none => rw [hcs] at hp; cases hp
  | some cs =>
  rw [hcs] at hp
  obtain ⟨f, l1, l2, hf, hp', _⟩ := RdM.bind_some hp
  clear hp
  split at hp' <;> try (cases hp'; done)
  rename_i hcond
  obtain ⟨rfl, hc1, hc2, hc3, hc4, hc5, hc6⟩ := hcond
  have := RdM.pure_some hp'
  injection this with h3 h4
  subst h3
  obtain ⟨ti', d, z, htf⟩ := cx.tf hti
  obtain ⟨ti2, d', z', hef⟩ := cx.tf hei
  obtain rfl := htf.isSl hsl
  have hrc := hxu.cells hcs
  obtain ⟨fp, hbl, hfps, hh⟩ := cellsM_run (F1 := F) h (fun _ x => x) hrc hf hob (by rw [List.isEmpty_iff.1 hc6]; intro id hid; cases hid)
  have hul : u.cells.size = ei.size := by rw [← hc1, hrc.length]; simp
  have hzs : z'.cells.size = ei.size := by rw [← hc2, ← hef.zeros]; simp
  have hmd : (madeCells z'.cells (1 * ei.size)).size = ei.size := by simp [madeCells]
  obtain ⟨es, hfill, hes⟩ := fill_one (u := u) (ds := madeCells z'.cells (1 * ei.size)) hul hmd
  have hel : es.size = 1 * ei.size := by
    have := congrArg List.length hes
    simp only [Array.length_toList] at this
    omega
  have hrun : (execOp a.eval ob).run cx.P w = .ok (.value (.slice (some ⟨w.heap.size, 0, none⟩) 1 1)) (w.alloc (.cells es e)) := by
    have := run_buildSlice (w := w) (len := 1) htf rfl hef (by omega) (qs := parts.map fun (i, x) => (i, a.eval x)) (es := es) (by rw [Array.toList_map, hql]; exact hfill)
    simp [execOp, ho, this]
  have hgr := grownBy_alloc_cells w (.cells es e)
  have hown : (w.alloc (.cells es e)).ownsRow 0 e ei.size (.slice (some ⟨w.heap.size, 0, none⟩) 1 1) 1 u.cells.toList := by
    refine ⟨by simp only [Array.length_toList]; omega, .inr ⟨w.heap.size, 1, es, rfl, Nat.zero_le _, heap_new w _, Nat.le_refl _, by unfold maxLen; omega, hel, ?_⟩⟩
    rw [hes, List.take_of_length_le (by simp only [Array.length_toList]; omega)]
  have hkl := h.killsR (fun id hid => (hfps.live id hid).imp fun _ x => x.1)
  have hnd := Fps.nodup h hfps (nodupB_iff hc5)
  have hgk : grp < (S.upds (kills f.ks)).h.length := by rw [St.upds_len]; exact hg
  have hnk : ¬ (S.upds (kills f.ks)).D grp := fun q => hn ((upds_D S grp _).1 q)
  obtain ⟨r1, r2⟩ := hkl.layDeep hgk hnk hgr (fun k q => by cases q) (rows := [f.v]) (sv := .slice (some ⟨w.heap.size, 0, none⟩) 1 1) hown (by simpa using hbl) rfl (by
      intro r hr
      rw [List.mem_singleton.1 hr, hbl.len]
      simp only [Array.length_toList]
      exact hul) (by intro k hk; simp [blk] at hk; exact .inr (by omega)) (by
      intro k hk
      obtain ⟨id, hid, e1, he1, hl1, hk1⟩ := hfps.mem hk
      obtain ⟨x1, x2⟩ := h.sep _ _ _ k he1 hl1 hk1
      refine ⟨x1, x2, ?_, by simp⟩
      intro g' j' e' he' hl' hk'
      rcases kills_ent _ he' with ⟨_, rfl⟩ | ⟨hni, he2⟩
      · cases hl'
      · obtain ⟨y1, y2⟩ := h.inj _ _ _ _ _ _ k he2 he1 hl' hl1 hk' hk1
        exact hni (by rw [y1, y2]; exact hid)) hnd
  exact ⟨_, _, _, F, newAt ι grp (.slice (some ⟨w.heap.size, 0, none⟩) 1 1), hrun, .inl rfl, r1.put ob.dst (.cell r2)⟩

/-! ### One appended to another -/
def dappM (cx : Cx) (grp ty : Nat) (s x : V) : RdM Out :=
  match cx.T ty with
  | some ti => match ti.sl with
    | some e => match cx.T e with
      | some ei => match x with
        | .own g2 j2 sz2 0 m => RdM.bind (RdM.rd g2 j2) fun e2 => match e2 with
          | .deep false t2 sz2' m' rows2 =>
            if t2 = e ∧ sz2 = ei.size ∧ sz2' = ei.size ∧ 0 < ei.size ∧ 0 < ei.bytes ∧ ei.zero.length = ei.size ∧ 0 < m' then
              match s with
              | .nil => RdM.pure { v := .own grp 0 ei.size 0 m', new := some [.deep false e ei.size m' rows2], upd := kills [(g2, j2)], obl := [m = m', m' * ei.bytes ≤ 140737488355328] }
              | .own g j sz 0 n => RdM.bind (RdM.rd g j) fun e1 => match e1 with
                | .deep false t sz' n' rows =>
                  if t = e ∧ sz = ei.size ∧ sz' = ei.size ∧ nodupB [(g, j), (g2, j2)] = true then
                    RdM.pure { v := .own grp 0 ei.size 0 (n' + m'), new := some [.deep false e ei.size (n' + m') (rows ++ rows2)], upd := kills [(g, j), (g2, j2)], obl := [n = n', (n' + m') * ei.bytes ≤ 140737488355328, m = m'] }
                  else RdM.no
                | _ => RdM.no
              | _ => RdM.no
            else RdM.no
          | _ => RdM.no
        | _ => RdM.no
      | none => RdM.no
    | none => RdM.no
  | none => RdM.no

theorem own_wholeD {g j sz n e sz' : Nat} {c : Value} {flat : List Value} (hs : RV w F S.D ι (.own g j sz 0 n) c) (hown : w.ownsRow 0 e sz' (ι g j) n flat) : c = ι g j := by
  obtain ⟨hD, ⟨b, nn, cap, hι, hlo, hb0, hb1, hc⟩ | ⟨hl0', _⟩⟩ := hs.inv_own
  case inr => omega
  rcases hown.2 with ⟨hv, hz⟩ | ⟨g0, cap0, cur, hv, _⟩
  · rw [hι] at hv
    injection hv with e1 e2 e3
    subst e1; subst e2; subst e3; subst hz
    rw [hc, hι]; simp
  · rw [hι] at hv
    injection hv with e1 e2 e3
    subst e1; subst e2; subst e3
    rw [hc, hι]
    by_cases q : cap = 0
    · simp [q]
    · simp [q, Addr.add]

theorem dapp_core {P : Program} {ty e : Nat} {ti ei : TI} {i i' : TypeInfo} {d d' : TypeDesc} {z z' : Value} (htf : TF P ty ti i d z) (hd : d = .slice e) (hef : TF P e ei i' d' z') (h0 : 0 < ei.size) (hb0 : 0 < ei.bytes) (hzl : ei.zero.length = ei.size)
    {sv sv2 : Value} {n m : Nat} {flat flat2 : List Value} (hown : w.ownsRow 0 e ei.size sv n flat) (hown2 : w.ownsRow 0 e ei.size sv2 m flat2) (hm : 0 < m) (hone : ∀ u ∈ flat2, u.oneCell' = true) (hb : (n + m) * ei.bytes ≤ 140737488355328) (rt : Nat) :
    ∃ v' w', (Builtin.append_ #[ty, ty] rt #[sv, sv2]).run P w = .ok v' w' ∧ w'.ownsRow 0 e ei.size v' (n + m) (flat ++ flat2) ∧ w.grownBy w' sv.ownBlock ∧ (v'.ownBlock = sv.ownBlock ∨ v'.ownBlock = some w.heap.size) := by
  subst hd
  have hzs : z'.cells.size = ei.size := by rw [← hzl, ← hef.zeros]; simp
  have hm63 : n + m ≤ maxLen := by
    have : n + m ≤ 140737488355328 := Nat.le_trans (Nat.le_mul_of_pos_right _ hb0) hb
    unfold maxLen; omega
  rcases hown2.2 with ⟨_, q⟩ | ⟨g2, cap2, cur2, rfl, _, hg2, hnc2, _, hcs2, ht2⟩
  · omega
  · have hseg : Seg w g2 0 flat2 := by
      rw [← ht2]
      have := (seg_of_cells hg2 0).take (m * ei.size)
      simpa using this
    obtain ⟨v', w', h1, h2, h3, _, h5⟩ := run_append_own_at (P := P) w 0 ty rt e i' z' ei.size ei.bytes htf.und hef.info hef.zero hef.size hef.bytes hzs h0 sv n flat hown ⟨g2, 0, none⟩ m cap2 flat2 hown2.1 (by
      intro j u hu
      rw [add_at]
      exact hseg j u hu) hone hm63 hb (Nat.zero_le _)
    exact ⟨v', w', h1, h2, h3, h5⟩

theorem BL.ones : ∀ {vs : List V} {cs : List Value} {f : List Nat}, BL w F vs cs f → ∀ u ∈ cs, u.oneCell' = true
  | _, _, _, .cons v c f vs cs fs h t, u, hu => by
    rcases List.mem_cons.1 hu with rfl | hu
    · exact h.one
    · exact BL.ones t u hu
theorem BL.app : ∀ {vs vs' : List V} {cs cs' : List Value} {f f' : List Nat}, BL w F vs cs f → BL w F vs' cs' f' → BL w F (vs ++ vs') (cs ++ cs') (f ++ f')
  | _, _, _, _, _, _, .nil, k => k
  | _, _, _, _, _, _, .cons v c f vs cs fs h t, k => by
    rw [List.append_assoc]
    exact .cons v c f _ _ _ h (BL.app t k)

theorem dappM_run (h : Rel Γ F ι S a w) {grp : Nat} (hg : grp < S.h.length) (hn : ¬ S.D grp) {ob : Oper} {ty : Nat} {s x : Operand} (ho : ob.op = .call { callee := .builtin .append, args := #[s, x], argTypes := #[ty, ty] }) {out : Out} {lg : List (Nat × Nat)}
    (hp : dappM cx grp ty (evalV S.t s) (evalV S.t x) S.ent = some (out, lg)) (hob : ∀ p ∈ out.obl, p) : Done cx.P Γ ι S grp ob out a w := by
  have hs := eval_rv h.tmps s
  have hx := eval_rv h.tmps x
  unfold dappM at hp
  cases hti : cx.T ty with
  | none => rw [hti] at hp; cases hp
  | some ti =>
  rw [hti] at hp
  simp only at hp
  cases hsl : ti.sl with
  | none => rw [hsl] at hp; cases hp
  | some e =>
  rw [hsl] at hp
  simp only at hp
  cases hei : cx.T e with
  | none => rw [hei] at hp; cases hp
  | some ei =>
  rw [hei] at hp
  simp only at hp
  obtain ⟨i, d, z, htf⟩ := cx.tf hti
  obtain ⟨i', d', z', hef⟩ := cx.tf hei
  have hd := htf.isSl hsl
  generalize evalV S.t s = sv at hp hs
  generalize evalV S.t x = xv at hp hx
  cases xv <;> try (cases hp; done)
  rename_i g2 j2 sz2 lo2 m
  cases lo2 with
  | succ q => cases hp
  | zero =>
  simp only at hp
  obtain ⟨e2, l1, l2, hrd2, hp', _⟩ := RdM.bind_some hp
  clear hp
  have he2 := (RdM.rd_some hrd2).1
  simp only at he2
  cases e2 <;> try (cases hp'; done)
  rename_i o2 t2 sz2' m' rows2
  cases o2 with
  | true => cases hp'
  | false =>
  simp only at hp'
  split at hp' <;> try (cases hp'; done)
  rename_i hcond
  obtain ⟨rfl, rfl, rfl, hc3, hc4, hc5, hc6⟩ := hcond
  obtain ⟨flat2, fs2, hown2, hkl2, hlen2, hl2, hnd2, hnr2⟩ := h.ents g2 j2 _ he2
  have hbl2 := hkl2.toBL (hnr2 rfl).flatB
  have hin2 : ∀ k ∈ fpb (ι g2 j2) ++ fs2, EB w (.deep false t2 ei.size m' rows2) (ι g2 j2) k := fun k hk => (EB.deep_iff hown2 hkl2).2 hk
  cases sv <;> try (cases hp'; done)
  case nil =>
    have := RdM.pure_some hp'
    injection this with h3 h4
    subst h3
    obtain hcs := hs.inv_nil
    have hmm : m = m' := hob _ (by simp)
    subst hmm
    have hb : m * ei.bytes ≤ 140737488355328 := hob _ (by simp)
    obtain ⟨v', w', hr, hown, hgr, hat⟩ := dapp_core htf hd hef hc3 hc4 hc5 (World.ownsRow_nil w 0 t2 ei.size) hown2 hc6 hbl2.ones (by simpa using hb) ob.type
    have hxc := own_wholeD hx hown2
    have hrun : (execOp a.eval ob).run cx.P w = .ok (.value v') w' := by
      simp [execOp, ho, resolve, invoke, builtin, hcs, hxc, hr]
    have hkl := h.killsR (ks := [(g2, j2)]) (fun id hid => by rw [List.mem_singleton.1 hid]; exact ⟨_, he2⟩)
    have hgk : grp < (S.upds (kills [(g2, j2)])).h.length := by rw [St.upds_len]; exact hg
    have hnk : ¬ (S.upds (kills [(g2, j2)])).D grp := fun q => hn ((upds_D S grp _).1 q)
    simp only [Nat.zero_add, List.nil_append] at hown
    obtain ⟨r1, r2⟩ := hkl.layDeep hgk hnk hgr (fun k q => by cases q) hown hbl2 hlen2 hl2 (by
      intro k hk
      rw [← ownBlock_blk hown] at hk
      rcases hat with q | q
      · rw [q] at hk; cases hk
      · rw [q] at hk; injection hk with hk; exact .inr (by omega)) (by
      intro k hk
      have hk1 := hin2 k (List.mem_append.2 (.inr hk))
      obtain ⟨x1, x2⟩ := h.sep _ _ _ k he2 rfl hk1
      refine ⟨x1, x2, ?_, by intro q; cases q⟩
      intro g' j' e' he' hl' hk'
      rcases kills_ent _ he' with ⟨_, rfl⟩ | ⟨hni, he3⟩
      · cases hl'
      · obtain ⟨y1, y2⟩ := h.inj _ _ _ _ _ _ k he3 he2 hl' rfl hk' hk1
        exact hni (by rw [y1, y2]; simp)) (List.nodup_append.1 hnd2).2.1
    exact ⟨_, _, _, F, newAt ι grp v', hrun, .inl rfl, r1.put ob.dst (.cell r2)⟩
  case own g j sz lo n =>
    cases lo with
    | succ q => cases hp'
    | zero =>
    simp only at hp'
    obtain ⟨e1, l3, l4, hrd1, hp'', _⟩ := RdM.bind_some hp'
    clear hp'
    have he1 := (RdM.rd_some hrd1).1
    simp only at he1
    cases e1 <;> try (cases hp''; done)
    rename_i o1 t1 sz1 n' rows
    cases o1 with
    | true => cases hp''
    | false =>
    simp only at hp''
    split at hp'' <;> try (cases hp''; done)
    rename_i hcond
    obtain ⟨rfl, rfl, rfl, hnod⟩ := hcond
    have := RdM.pure_some hp''
    injection this with h3 h4
    subst h3
    have hnn : n = n' := hob _ (by simp)
    subst hnn
    have hb : (n + m') * ei.bytes ≤ 140737488355328 := hob _ (by simp)
    have hmm : m = m' := hob _ (by simp)
    subst hmm
    obtain ⟨flat1, fs1, hown1, hkl1, hlen1, hl1, hnd1, hnr1⟩ := h.ents g j _ he1
    have hbl1 := hkl1.toBL (hnr1 rfl).flatB
    have hin1 : ∀ k ∈ fpb (ι g j) ++ fs1, EB w (.deep false t1 ei.size n rows) (ι g j) k := fun k hk => (EB.deep_iff hown1 hkl1).2 hk
    have hne : ¬ (g = g2 ∧ j = j2) := by
      have := nodupB_iff hnod
      rw [List.nodup_cons] at this
      intro q
      exact this.1 (by rw [q.1, q.2]; simp)
    obtain ⟨v', w', hr, hown, hgr, hat⟩ := dapp_core htf hd hef hc3 hc4 hc5 hown1 hown2 hc6 hbl2.ones hb ob.type
    have hxc := own_wholeD hx hown2
    have hsc := own_wholeD hs hown1
    have hrun : (execOp a.eval ob).run cx.P w = .ok (.value v') w' := by
      simp [execOp, ho, resolve, invoke, builtin, hsc, hxc, hr]
    have hkl := h.killsR (ks := [(g, j), (g2, j2)]) (fun id hid => by
      rcases List.mem_cons.1 hid with rfl | hid
      · exact ⟨_, he1⟩
      · rw [List.mem_singleton.1 hid]; exact ⟨_, he2⟩)
    have hgk : grp < (S.upds (kills [(g, j), (g2, j2)])).h.length := by rw [St.upds_len]; exact hg
    have hnk : ¬ (S.upds (kills [(g, j), (g2, j2)])).D grp := fun q => hn ((upds_D S grp _).1 q)
    have hob1 : ∀ k, (ι g j).ownBlock = some k → k ∈ fpb (ι g j) := fun k hk => mem_fpb.2 (by rw [← ownBlock_blk hown1]; exact hk)
    -- a block of the first, or of the second: nobody else's
    have free1 : ∀ k ∈ fpb (ι g j) ++ fs1, ∀ g' j' e', (S.upds (kills [(g, j), (g2, j2)])).ent g' j' = some e' → e'.live = true → ¬ EB w e' (ι g' j') k := by
      intro k hk g' j' e' he' hl' hk'
      rcases kills_ent _ he' with ⟨_, rfl⟩ | ⟨hni, he3⟩
      · cases hl'
      · obtain ⟨y1, y2⟩ := h.inj _ _ _ _ _ _ k he3 he1 hl' rfl hk' (hin1 k hk)
        exact hni (by rw [y1, y2]; simp)
    have free2 : ∀ k ∈ fpb (ι g2 j2) ++ fs2, ∀ g' j' e', (S.upds (kills [(g, j), (g2, j2)])).ent g' j' = some e' → e'.live = true → ¬ EB w e' (ι g' j') k := by
      intro k hk g' j' e' he' hl' hk'
      rcases kills_ent _ he' with ⟨_, rfl⟩ | ⟨hni, he3⟩
      · cases hl'
      · obtain ⟨y1, y2⟩ := h.inj _ _ _ _ _ _ k he3 he2 hl' rfl hk' (hin2 k hk)
        exact hni (by rw [y1, y2]; simp)
    have hdis : ∀ k, k ∈ fpb (ι g j) ++ fs1 → k ∈ fpb (ι g2 j2) ++ fs2 → False := by
      intro k q1 q2
      obtain ⟨y1, y2⟩ := h.inj _ _ _ _ _ _ k he1 he2 rfl rfl (hin1 k q1) (hin2 k q2)
      exact hne ⟨y1, y2⟩
    obtain ⟨r1, r2⟩ := hkl.layDeep hgk hnk hgr (fun k q => by
      have hk : k ∈ fpb (ι g j) ++ fs1 := List.mem_append.2 (.inl (hob1 k q))
      obtain ⟨x1, x2⟩ := h.sep _ _ _ k he1 rfl (hin1 k hk)
      exact ⟨x1, x2, free1 k hk⟩) (rows := rows ++ rows2) hown (by rw [List.flatten_append]; exact hbl1.app hbl2) (by rw [List.length_append, hlen1, hlen2]) (by
      intro r hr'
      rcases List.mem_append.1 hr' with q | q
      · exact hl1 r q
      · exact hl2 r q) (by
      intro k hk
      rw [← ownBlock_blk hown] at hk
      rcases hat with q | q
      · rw [q] at hk; exact .inl hk
      · rw [q] at hk; injection hk with hk; exact .inr (by omega)) (by
      intro k hk
      rcases List.mem_append.1 hk with q | q
      · have hk1 : k ∈ fpb (ι g j) ++ fs1 := List.mem_append.2 (.inr q)
        obtain ⟨x1, x2⟩ := h.sep _ _ _ k he1 rfl (hin1 k hk1)
        exact ⟨x1, x2, free1 k hk1, fun z => (List.nodup_append.1 hnd1).2.2 k (hob1 k z) k q rfl⟩
      · have hk2 : k ∈ fpb (ι g2 j2) ++ fs2 := List.mem_append.2 (.inr q)
        obtain ⟨x1, x2⟩ := h.sep _ _ _ k he2 rfl (hin2 k hk2)
        exact ⟨x1, x2, free2 k hk2, fun z => hdis k (List.mem_append.2 (.inl (hob1 k z))) hk2⟩) (by
      rw [List.nodup_append]
      exact ⟨(List.nodup_append.1 hnd1).2.1, (List.nodup_append.1 hnd2).2.1, fun k q k' q' z => by
        subst z
        exact hdis k (List.mem_append.2 (.inr q)) (List.mem_append.2 (.inr q'))⟩)
    exact ⟨_, _, _, F, newAt ι grp v', hrun, .inl rfl, r1.put ob.dst (.cell r2)⟩
end

end Go.Proofs.Ythegkbaijmkhfaa
