/- Rows that own what lies in them: written, opened, made. -/
import Derived.Test.YthegkbaijmkhfaaAm20
set_option linter.unusedVariables false
set_option linter.unusedSimpArgs false
namespace Go.Proofs.Ythegkbaijmkhfaa
open Go

section
variable {w w' : World} {F D : Nat → Prop} {ι : Nat → Nat → Value}
theorem KL.len : ∀ {vs : List V} {cs : List Value} {f : List Nat}, KL w F D ι vs cs f → vs.length = cs.length
  | _, _, _, .nil => rfl
  | _, _, _, .cons _ _ _ _ _ _ _ t => by simp [KL.len t]
theorem KL.app : ∀ {vs vs' : List V} {cs cs' : List Value} {f f' : List Nat}, KL w F D ι vs cs f → KL w F D ι vs' cs' f' → KL w F D ι (vs ++ vs') (cs ++ cs') (f ++ f')
  | _, _, _, _, _, _, .nil, k => k
  | _, _, _, _, _, _, .cons v c f vs cs fs h t, k => by
    rw [List.append_assoc]
    exact .cons v c f _ _ _ h (KL.app t k)
theorem KL.split : ∀ {vs vs' : List V} {cs : List Value} {f : List Nat}, KL w F D ι (vs ++ vs') cs f → ∃ c1 c2 f1 f2, cs = c1 ++ c2 ∧ f = f1 ++ f2 ∧ KL w F D ι vs c1 f1 ∧ KL w F D ι vs' c2 f2
  | [], vs', cs, f, h => ⟨[], cs, [], f, rfl, rfl, .nil, h⟩
  | v :: vs, vs', _, _, .cons _ c f _ cs fs h t => by
    obtain ⟨c1, c2, f1, f2, rfl, rfl, h1, h2⟩ := KL.split t
    exact ⟨c :: c1, c2, f ++ f1, f2, rfl, by rw [List.append_assoc], .cons _ _ _ _ _ _ h h1, h2⟩
theorem KL.cut {vs : List V} {cs : List Value} {f : List Nat} (h : KL w F D ι vs cs f) {k m : Nat} (hk : k + m ≤ vs.length) :
    ∃ fa fm fb, f = fa ++ (fm ++ fb) ∧ KL w F D ι (vs.take k) (cs.take k) fa ∧ KL w F D ι ((vs.drop k).take m) ((cs.drop k).take m) fm ∧ KL w F D ι (vs.drop (k + m)) (cs.drop (k + m)) fb := by
  have e : vs = vs.take k ++ ((vs.drop k).take m ++ vs.drop (k + m)) := by
    rw [← List.drop_drop, List.take_append_drop, List.take_append_drop]
  rw [e] at h
  obtain ⟨c1, c23, f1, f23, rfl, rfl, h1, h23⟩ := h.split
  obtain ⟨c2, c3, f2, f3, rfl, rfl, h2, h3⟩ := h23.split
  have l1 : c1.length = k := by rw [← h1.len]; simp; omega
  have l2 : c2.length = m := by rw [← h2.len]; simp; omega
  have t1 : (c1 ++ (c2 ++ c3)).take k = c1 := by rw [List.take_append_of_le_length (by omega), List.take_of_length_le (by omega)]
  have t2 : (c1 ++ (c2 ++ c3)).drop k = c2 ++ c3 := by rw [List.drop_append_of_le_length (by omega), List.drop_eq_nil_of_le (by omega : c1.length ≤ k), List.nil_append]
  have t3 : (c2 ++ c3).take m = c2 := by rw [List.take_append_of_le_length (by omega), List.take_of_length_le (by omega)]
  have t4 : (c2 ++ c3).drop m = c3 := by rw [List.drop_append_of_le_length (by omega), List.drop_eq_nil_of_le (by omega : c2.length ≤ m), List.nil_append]
  refine ⟨f1, f2, f3, rfl, ?_, ?_, ?_⟩
  · rw [t1]; exact h1
  · rw [t2, t3]; exact h2
  · rw [← List.drop_drop (l := c1 ++ (c2 ++ c3)), t2, t4]; exact h3
theorem KL.splice {vs us : List V} {cs ds : List Value} {f f2 : List Nat} (h : KL w F D ι vs cs f) {k : Nat} (h2 : KL w F D ι us ds f2) (hk : k + us.length ≤ vs.length) :
    ∃ fa fm fb, f = fa ++ (fm ++ fb) ∧ KL w F D ι (spliceV vs k us) (spliceV cs k ds) (fa ++ (f2 ++ fb)) ∧ KL w F D ι ((vs.drop k).take us.length) ((cs.drop k).take us.length) fm := by
  obtain ⟨fa, fm, fb, rfl, h1, hm, h3⟩ := h.cut hk
  refine ⟨fa, fm, fb, rfl, ?_, hm⟩
  unfold spliceV
  rw [List.append_assoc, List.append_assoc, ← h2.len]
  exact h1.app (h2.app h3)
theorem OR.one {e sz n : Nat} {rows : List (List V)} {c : Value} {flat : List Value} (h : w.ownsRow 0 e sz c n flat) : c.oneCell' = true := by
  rcases h.2 with ⟨rfl, _⟩ | ⟨g, cap, cur, rfl, _⟩ <;> rfl
theorem BC.one {v : V} {c : Value} {f : List Nat} (h : BC w F v c f) : c.oneCell' = true := by
  cases h with
  | fv v c h => exact (RC.fv (D := fun _ => True) (ι := fun _ _ => .nilFunc) v c h).one
  | osl e sz n rows c h =>
    obtain ⟨flat, ho, _⟩ := h
    exact OR.one (rows := rows) ho
  | dsl e sz n rows c flat fs ho hr hn hl => exact OR.one (rows := rows) ho
theorem KC.one {v : V} {c : Value} {f : List Nat} (h : KC w F D ι v c f) : c.oneCell' = true := by
  cases h with
  | rc h => exact h.one
  | bc _ h => exact BC.one h
theorem KL.bots : ∀ {vs : List V} {cs : List Value} {f : List Nat}, KL w F D ι vs cs f → KL w F D ι (vs.map fun _ => V.bot) cs []
  | _, _, _, .nil => .nil
  | _, _, _, .cons v c f vs cs fs h t => .cons .bot c [] _ _ [] (.rc _ _ (.fv _ _ (.bot _ h.one))) (KL.bots t)
theorem KL.ofRC : ∀ {vs : List V} {cs : List Value}, All2 (RC w F D ι) vs cs → KL w F D ι vs cs []
  | _, _, .nil => .nil
  | _, _, .cons h t => .cons _ _ [] _ _ [] (.rc _ _ h) (KL.ofRC t)
/-- What a plain cell of such a row holds. -/
def V.plain : V → Bool
  | .own .. | .ptr .. | .eptr .. | .fptr _ | .mp .. | .osl .. | .dsl .. | .agg _ | .tup _ | .optr .. => false
  | _ => true
theorem KL.plain : ∀ {vs : List V} {cs : List Value} {f : List Nat}, KL w F D ι vs cs f → vs.all V.plain = true → FL w F vs cs
  | _, _, _, .nil, _ => .nil
  | _, _, _, .cons v c f vs cs fs h t, hp => by
    simp only [List.all_cons, Bool.and_eq_true] at hp
    refine .cons _ _ _ _ ?_ (KL.plain t hp.2)
    have hv := hp.1
    cases h with
    | rc h => cases h with
      | fv v c h => exact h
      | _ => cases hv
    | bc _ h => cases h with
      | fv v c h => exact h
      | _ => cases hv
end

theorem kills_ent_ne : ∀ {ks : List (Nat × Nat)} {S : St} {g j : Nat}, (g, j) ∉ ks → (S.upds (kills ks)).ent g j = S.ent g j
  | [], _, _, _, _ => rfl
  | k :: ks, S, g, j, h => by
    show ((S.setE k.1 k.2 .dead).upds (kills ks)).ent g j = _
    rw [kills_ent_ne (fun q => h (by simp [q])), setE_ent_ne (fun q => h (by rw [show k = (g, j) from Prod.ext q.1.symm q.2.symm]; simp))]

section
variable {cx : Cx} {Γ : Ctx} {F : Nat → Prop} {ι : Nat → Nat → Value} {S : St} {a : Act} {w : World}

/-- An entry is written in its block, and takes over blocks that nothing has. -/
theorem Rel.writeX (h : Rel Γ F ι S a w) {g j : Nat} {e e' : Ent} (he : S.ent g j = some e) (hl : e.live = true) {w' : World}
    (hk : w'.os = w.os ∧ w'.tape = w.tape ∧ w'.output = w.output) (hsz : w'.heap.size = w.heap.size) (hb : ∀ k, ¬ EB w e (ι g j) k → w'.heap[k]? = w.heap[k]?)
    (hn : Same w w' F → RE w' F (S.setE g j e').D ι e' (ι g j)) {X : List Nat}
    (hX : ∀ k ∈ X, ¬ F k ∧ (Γ.own k ∨ Γ.w0.heap.size ≤ k) ∧ ∀ g' j' e'', S.ent g' j' = some e'' → e''.live = true → ¬ EB w e'' (ι g' j') k)
    (hin : ∀ k, EB w' e' (ι g j) k → EB w e (ι g j) k ∨ k ∈ X) : Rel Γ F ι (S.setE g j e') a w' := by
  have hs : Same w w' F := same_of_heap fun k hF => hb k fun q => (h.sep g j e k he hl q).1 hF
  have hD : ∀ k, S.D k → (S.setE g j e').D k := fun k x => setE_D.2 x
  have hoth : ∀ g' j' e'', S.ent g' j' = some e'' → e''.live = true → ¬ (g' = g ∧ j' = j) → ∀ k, EB w e'' (ι g' j') k → w'.heap[k]? = w.heap[k]? := fun g' j' e'' he'' hl'' q k hk'' => hb k fun q' => q (h.inj g' j' e'' g j e k he'' he hl'' hl hk'' q')
  have hone : ∀ g2 j2 e2 k, S.ent g2 j2 = some e2 → e2.live = true → ¬ (g2 = g ∧ j2 = j) → EB w' e' (ι g j) k → EB w' e2 (ι g2 j2) k → False := by
    intro g2 j2 e2 k h2 l2 q2 k1 k2
    have k2' := (h.ents g2 j2 e2 h2).back (hoth g2 j2 e2 h2 l2 q2) k2
    rcases hin k k1 with x | x
    · exact q2 (h.inj g2 j2 e2 g j e k h2 he l2 hl k2' x)
    · exact (hX k x).2.2 g2 j2 e2 h2 l2 k2'
  exact
    { F0 := h.F0
      F1 := fun k hF => hsz ▸ h.F1 k hF
      F2 := h.F2
      kept := ⟨hk.1.trans h.kept.os, hk.2.1.trans h.kept.tape, hk.2.2.trans h.kept.output, hsz ▸ h.kept.size, fun k hk' hno => by
        rw [hb k fun q => ?_]
        · exact h.kept.block k hk' hno
        · rcases (h.sep g j e k he hl q).2 with x | x
          · exact hno x
          · omega⟩
      tmps := by rw [setE_t]; exact h.tmps.imp fun _ _ x => x.mono hs (fun _ y => y) hD (fun _ _ _ => rfl)
      ents := fun g' j' e'' he'' => by
        rw [setE_ent he] at he''
        split at he''
        · rename_i q
          obtain ⟨rfl, rfl⟩ := q
          injection he'' with he''
          subst he''
          exact hn hs
        · rename_i q
          exact (h.ents g' j' e'' he'').mono hs (fun _ y => y) hD (fun _ _ _ => rfl) fun k hl'' hk'' => hoth g' j' e'' he'' hl'' q k hk''
      sep := fun g' j' e'' k he'' hl'' hk'' => by
        rw [setE_ent he] at he''
        split at he''
        · rename_i q
          obtain ⟨rfl, rfl⟩ := q
          injection he'' with he''
          subst he''
          rcases hin k hk'' with x | x
          · exact h.sep g' j' e k he hl x
          · exact ⟨(hX k x).1, (hX k x).2.1⟩
        · rename_i q
          exact h.sep g' j' e'' k he'' hl'' ((h.ents g' j' e'' he'').back (hoth g' j' e'' he'' hl'' q) hk'')
      inj := fun g1 j1 e1 g2 j2 e2 k h1 h2 l1 l2 k1 k2 => by
        rw [setE_ent he] at h1 h2
        split at h1 <;> split at h2
        · rename_i q1 q2
          exact ⟨q1.1.trans q2.1.symm, q1.2.trans q2.2.symm⟩
        · rename_i q1 q2
          obtain ⟨rfl, rfl⟩ := q1
          injection h1 with h1
          subst h1
          exact (hone g2 j2 e2 k h2 l2 q2 k1 k2).elim
        · rename_i q1 q2
          obtain ⟨rfl, rfl⟩ := q2
          injection h2 with h2
          subst h2
          exact (hone g1 j1 e1 k h1 l1 q1 k2 k1).elim
        · rename_i q1 q2
          exact h.inj g1 j1 e1 g2 j2 e2 k h1 h2 l1 l2 ((h.ents g1 j1 e1 h1).back (hoth g1 j1 e1 h1 l1 q1) k1) ((h.ents g2 j2 e2 h2).back (hoth g2 j2 e2 h2 l2 q2) k2)
      defers := h.defers
      pins := fun j c hc => ⟨hD _ (h.pins j c hc).1, (h.pins j c hc).2⟩ }

theorem NoRef.splice {rows : List (List V)} (h : NoRef rows) {idx off : Nat} {r vs : List V} (hr : rows[idx]? = some r) (hv : ∀ v ∈ vs, v.isRef = false) : NoRef (rows.set idx (spliceV r off vs)) := by
  intro q hq v hm
  rcases List.mem_or_eq_of_mem_set hq with hq | rfl
  · exact h q hq v hm
  · unfold spliceV at hm
    have hrr := h r (List.mem_of_getElem? hr)
    rcases List.mem_append.1 hm with hm | hm
    · rcases List.mem_append.1 hm with hm | hm
      · exact hrr v (List.mem_of_mem_take hm)
      · exact hv v hm
    · exact hrr v (List.mem_of_mem_drop hm)

/-- Cells of an element of such a row are written; what they own is given up elsewhere. -/
theorem Rel.dput (h : Rel Γ F ι S a w) {g j t sz n : Nat} {o : Bool} {rows : List (List V)} (he : S.ent g j = some (.deep o t sz n rows)) {idx off : Nat} {r vs : List V} {ds : List Value} {fp : List Nat} {ks : List (Nat × Nat)}
    (hr : rows[idx]? = some r) (hoff : off + vs.length ≤ sz) (hbl : BL w F vs ds fp) (hfps : Fps S w ι ks fp) (hks : ks.Nodup) (hgj : (g, j) ∉ ks) {w' : World}
    (hw : w'.os = w.os ∧ w'.tape = w.tape ∧ w'.output = w.output) (hsz : w'.heap.size = w.heap.size) (hb : ∀ k, blk (ι g j) ≠ some k → w'.heap[k]? = w.heap[k]?)
    (hnew : ∀ flat, w.ownsRow 0 t sz (ι g j) n flat → w'.ownsRow 0 t sz (ι g j) n (spliceV flat (idx * sz + off) ds)) :
    Rel Γ F ι (S.upds (kills ks ++ [((g, j), .deep o t sz n (rows.set idx (spliceV r off vs)))])) a w' := by
  obtain ⟨flat, fs, hor, hkl, hn, hl, hnd, hnr⟩ := h.ents g j _ he
  have h1 := h.killAll ks fun id hid => by
    obtain ⟨e, he, _⟩ := hfps.live id hid
    exact ⟨e, he⟩
  have he1 : (S.upds (kills ks)).ent g j = some (.deep o t sz n rows) := by rw [kills_ent_ne hgj]; exact he
  have hidx := (List.getElem?_eq_some_iff.1 hr).1
  have hpos : idx * sz + sz ≤ n * sz := by rw [← Nat.succ_mul]; exact Nat.mul_le_mul_right _ (by omega)
  obtain ⟨fa, fm, fb, rfl, hrow, _⟩ := hkl.splice (k := idx * sz + off) hbl.kl (by rw [flatten_len hl, hn]; omega)
  rw [← flatten_splice hl hr hoff] at hrow
  have hfpx : ∀ k ∈ fp, ¬ F k ∧ (Γ.own k ∨ Γ.w0.heap.size ≤ k) ∧ k ∉ fpb (ι g j) ++ (fa ++ (fm ++ fb)) ∧ ∀ g' j' e'', (S.upds (kills ks)).ent g' j' = some e'' → e''.live = true → ¬ EB w e'' (ι g' j') k := by
    intro k hk
    obtain ⟨id, hid, e', he', hl', hb'⟩ := hfps.mem hk
    obtain ⟨z1, z2⟩ := h.sep _ _ e' k he' hl' hb'
    refine ⟨z1, z2, ?_, ?_⟩
    · intro q
      obtain ⟨y1, y2⟩ := h.inj _ _ _ _ _ _ k he he' rfl hl' ((EB.deep_iff hor hkl).2 q) hb'
      exact hgj (by rw [show (g, j) = id from Prod.ext y1 y2]; exact hid)
    · intro g' j' e'' he'' hl'' hb''
      rcases kills_ent _ he'' with ⟨_, rfl⟩ | ⟨q1, q2⟩
      · cases hl''
      · obtain ⟨y1, y2⟩ := h.inj _ _ _ _ _ _ k q2 he' hl'' hl' hb'' hb'
        exact q1 (by rw [show (g', j') = id from Prod.ext y1 y2]; exact hid)
  have hnd2 : (fpb (ι g j) ++ (fa ++ fb)).Nodup := by
    refine List.Nodup.sublist ?_ hnd
    exact List.Sublist.append_left (List.Sublist.append_left (List.sublist_append_right _ _) _) _
  have hnd' : (fpb (ι g j) ++ (fa ++ (fp ++ fb))).Nodup := by
    refine (perm_mid (perm_mid (List.Perm.refl (fp ++ fb)))).nodup_iff.2 ?_
    refine List.nodup_append.2 ⟨Fps.nodup h hfps hks, hnd2, ?_⟩
    intro k hk k' hk' hkk
    subst hkk
    refine (hfpx k hk).2.2.1 ?_
    simp only [List.mem_append] at hk' ⊢
    rcases hk' with q | q | q <;> simp [q]
  have hre : Same w w' F → RE w' F ((S.upds (kills ks)).setE g j (.deep o t sz n (rows.set idx (spliceV r off vs)))).D ι (.deep o t sz n (rows.set idx (spliceV r off vs))) (ι g j) := by
    intro hs
    refine ⟨_, _, hnew flat hor, hrow.mono hs (fun _ x => x) (fun k x => setE_D.2 ((upds_D S k _).2 x)) (fun _ _ _ => rfl) ?_, by simpa using hn, ?_, hnd', fun q => (hnr q).splice hr hbl.noRef⟩
    · intro k hk
      refine hb k fun q => ?_
      exact (List.nodup_append.1 hnd').2.2 k (mem_fpb.2 q) k hk rfl
    · intro q hq
      rcases List.mem_or_eq_of_mem_set hq with hq | rfl
      · exact hl q hq
      · have := hl r (List.mem_of_getElem? hr)
        rw [splice_len _ _ _ (by omega)]
        exact this
  rw [St.upds_append]
  refine h1.writeX he1 rfl hw hsz (fun k hk => hb k fun q => hk (EB.top q)) hre (X := fp) (fun k hk => ⟨(hfpx k hk).1, (hfpx k hk).2.1, (hfpx k hk).2.2.2⟩) ?_
  intro k hk
  have hs : Same w w' F := same_of_heap fun k hF => hb k fun q => (h.sep g j _ k he rfl (EB.top q)).1 hF
  obtain ⟨flat2, fs2, ho2, hkl2, _⟩ := hre hs
  have hk2 := (EB.deep_iff ho2 hkl2).1 hk
  have hkl3 := hrow.mono (w' := w') hs (fun _ x => x) (fun k x => x) (fun _ _ _ => rfl) (fun k hk => hb k fun q => (List.nodup_append.1 hnd').2.2 k (mem_fpb.2 q) k hk rfl)
  have hfl := ownsRow_det ho2 (hnew flat hor) (fun _ _ => rfl)
  subst hfl
  rw [hkl2.det hkl3 (fun _ _ => rfl)] at hk2
  simp only [List.mem_append] at hk2
  rw [EB.deep_iff hor hkl]
  simp only [List.mem_append]
  rcases hk2 with q | q | q | q <;> simp [q]

def dstoreM (cx : Cx) (ty : Nat) (x y : V) (r : List V) (ck om : List (Option Nat)) : RdM Out :=
  match cx.T ty, y.cells with
  | some ti, some vs => match x with
    | .eptr g j sz idx off => RdM.bind (RdM.rd g j) fun e => RdM.bind (cellsM ck om vs) fun f => match e with
      | .deep o t sz' n rows => if sz' = sz ∧ vs.length = ti.size ∧ off + vs.length ≤ sz ∧ f.ls.isEmpty ∧ nodupB f.ks ∧ hasId f.ks (g, j) = false then
          RdM.pure { v := .bot, upd := kills f.ks ++ [((g, j), .deep o t sz n (rows.set idx (spliceV r off f.v)))], obl := (rows[idx]? = some r) :: f.obl }
        else RdM.no
      | _ => RdM.no
    | _ => RdM.no
  | _, _ => RdM.no

theorem BL.len {F : Nat → Prop} : ∀ {vs : List V} {cs : List Value} {f : List Nat}, BL w F vs cs f → vs.length = cs.length
  | _, _, _, .nil => rfl
  | _, _, _, .cons _ _ _ _ _ _ _ t => by simp [BL.len t]

theorem dstoreM_run (h : Rel Γ F ι S a w) {grp : Nat} {ob : Oper} {ty : Nat} {x y : Operand} {r : List V} {ck om : List (Option Nat)} (ho : ob.op = .store ty x y) (hd : ob.dst = none) {out : Out} {lg : List (Nat × Nat)} (hp : dstoreM cx ty (evalV S.t x) (evalV S.t y) r ck om S.ent = some (out, lg)) (hob : ∀ p ∈ out.obl, p) : Done cx.P Γ ι S grp ob out a w := by
  have hx := eval_rv h.tmps x
  have hy := eval_rv h.tmps y
  unfold dstoreM at hp
  cases hti : cx.T ty with
  | none => rw [hti] at hp; cases hp
  | some ti =>
  cases hvs : (evalV S.t y).cells with
  | none => rw [hti, hvs] at hp; cases hp
  | some vs =>
  rw [hti, hvs] at hp
  simp only at hp
  obtain ⟨i, d, z, htf⟩ := cx.tf hti
  have hcells := hy.cells hvs
  have hone := hcells.all_one
  have hclen : vs.length = (a.eval y).cells.size := by simpa using hcells.length
  generalize evalV S.t x = xv at hp hx
  cases xv <;> try (cases hp; done)
  case eptr g j sz idx off =>
    obtain ⟨hD, b, hι, hc⟩ := hx.inv_eptr
    obtain ⟨e, l1, l2, hrd, hp', hl12⟩ := RdM.bind_some hp
    clear hp
    have he := (RdM.rd_some hrd).1
    simp only at he
    obtain ⟨f, l3, l4, hf, hp'', hl34⟩ := RdM.bind_some hp'
    clear hp'
    cases e <;> try (cases hp''; done)
    rename_i o t sz' n rows
    simp only at hp''
    split at hp'' <;> try (cases hp''; done)
    rename_i hcond
    obtain ⟨rfl, hc1, hc2, hc3, hc4, hc5⟩ := hcond
    have := RdM.pure_some hp''
    injection this with h2 h3
    subst h2
    have hr : rows[idx]? = some r := hob _ (List.mem_cons.2 (.inl rfl))
    have hls : f.ls = [] := List.isEmpty_iff.1 hc3
    obtain ⟨fp, hbl, hfps, hh⟩ := cellsM_run (F1 := F) h (fun _ x => x) hcells hf (fun p hp => hob p (List.mem_cons.2 (.inr hp))) (by rw [hls]; intro id hid; cases hid)
    obtain ⟨flat0, fs0, hor0, hkl0, hn0, hl0, _⟩ := h.ents g j _ he
    have hidx := (List.getElem?_eq_some_iff.1 hr).1
    have hvl : f.v.length = vs.length := by rw [hbl.len, hclen]; simp
    rcases hor0.2 with ⟨hv, h0⟩ | ⟨g0, cap, cur, hv, hbg, hg, hnc, hcm, hcs, ht⟩
    · omega
    · have hb : b = g0 := by rw [hv] at hι; simp [blk] at hι; omega
      subst hb
      have hcl : n * sz' ≤ cur.size := by rw [hcs]; exact Nat.mul_le_mul_right _ hnc
      have hpos : idx * sz' + sz' ≤ n * sz' := by rw [← Nat.succ_mul]; exact Nat.mul_le_mul_right _ (by omega)
      have hrun := run_store_cells (P := cx.P) ho htf hc hg (by omega) (by omega) hone
      refine ⟨_, undef, _, F, ι, hrun, .inr ⟨rfl, rfl⟩, ?_⟩
      rw [hd, put_none, apply_upd]
      refine h.dput he hr (by omega) hbl hfps (nodupB_iff hc4) (fun q => by rw [hasId_iff.2 q] at hc5; cases hc5) ⟨rfl, rfl, rfl⟩ (setRow_size _ _ _) (fun k hk => setRow_other w b k _ fun q => hk (by rw [hι, q])) ?_
      intro flat hor
      have hfl := ownsRow_det hor hor0 (fun _ _ => rfl)
      subst hfl
      have hflat : flat.length = n * sz' := hor.1
      refine ⟨?_, .inr ⟨b, cap, _, hv, hbg, setRow_heap w b cur _ t (0, 0) hg, hnc, hcm, ?_, ?_⟩⟩
      · rw [splice_len _ _ _ (by simp; omega)]; exact hor.1
      · rw [List.size_toArray, splice_len _ _ _ (by simp; omega)]; simpa using hcs
      · rw [← ht]
        exact take_splice _ _ _ _ (by simp; omega) (by simpa using hcl)

/-- An element of such a row, where it lies. -/
theorem deep_elem {t sz n : Nat} {rows : List (List V)} {c : Value} {flat : List Value} {b idx off m : Nat} {r : List V} (ho : w.ownsRow 0 t sz c n flat) (hn : rows.length = n) (hl : ∀ r ∈ rows, r.length = sz) (hb : blk c = some b) (hr : rows[idx]? = some r) (hoff : off + m ≤ sz) :
    Seg w b (idx * sz + off) ((flat.drop (idx * sz + off)).take m) ∧ ((rows.flatten.drop (idx * sz + off)).take m = (r.drop off).take m) ∧ idx * sz + off + m ≤ rows.flatten.length := by
  have hidx := (List.getElem?_eq_some_iff.1 hr).1
  have hpos : idx * sz + sz ≤ n * sz := by rw [← Nat.succ_mul]; exact Nat.mul_le_mul_right _ (by omega)
  refine ⟨?_, ?_, by rw [flatten_len hl, hn]; omega⟩
  · rcases ho.2 with ⟨hv, h0⟩ | ⟨g0, cap, cur, hv, _, hg, hnc, hcm, hcs, ht⟩
    · rw [hv] at hb; cases hb
    · rw [hv] at hb
      simp [blk] at hb
      subst hb
      have hseg : Seg w g0 0 flat := by
        rw [← ht]
        have := (seg_of_cells hg 0).take (n * sz)
        simpa using this
      have := (hseg.drop (idx * sz + off)).take m
      simpa using this
  · rw [← flatten_get hl hr, List.drop_take, List.take_take, List.drop_drop]
    congr 1
    omega

def dloadM (cx : Cx) (grp ty : Nat) (x : V) (r : List V) : RdM Out :=
  match cx.T ty with
  | none => RdM.no
  | some ti => match x with
    | .eptr g j sz idx off => RdM.bind (RdM.rd g j) fun e => match e with
      | .deep _ t sz' n rows =>
        let m := if ti.agg then ti.size else 1
        let y := thawCs grp 0 ((r.drop off).take m)
        if sz' = sz ∧ off + m ≤ sz ∧ ((r.drop off).take m).all (fun v => !v.isRef) then
          match readV ti y.1 with
          | some v => RdM.pure { v := v, new := some y.2, upd := [((g, j), .deep true t sz n (rows.set idx (spliceV r off y.1)))], obl := [rows[idx]? = some r] }
          | none => RdM.no
        else RdM.no
      | _ => RdM.no
    | _ => RdM.no

theorem KL.toBL {w : World} {F D : Nat → Prop} {ι : Nat → Nat → Value} {vs : List V} {cs : List Value} {f : List Nat} (h : KL w F D ι vs cs f) (hv : vs.all (fun v => !v.isRef) = true) : BL w F vs cs f := by
  refine h.blOf fun v hm => ?_
  have := List.all_eq_true.1 hv v hm
  simpa using this
theorem thawCs_len (grp : Nat) : ∀ (vs : List V) (j : Nat), (thawCs grp j vs).1.length = vs.length
  | [], _ => rfl
  | v :: vs, j => by simp [thawCs, thawCs_len grp vs]
theorem setE_setE {S : St} {g j : Nat} {e e' : Ent} : (S.setE g j e).setE g j e' = S.setE g j e' := by
  cases hx : S.h[g]? with
  | none => unfold St.setE; simp [hx]
  | some o => cases o with
    | none => unfold St.setE; simp [hx]
    | some l =>
      have hlt := (List.getElem?_eq_some_iff.1 hx).1
      rw [setE_eq hx, setE_eq hx, setE_eq (l := l.set j e) (by simp [hlt])]
      simp only [List.set_set]

set_option maxHeartbeats 800000 in
theorem dloadM_run (h : Rel Γ F ι S a w) {grp : Nat} (hg : grp < S.h.length) (hn : ¬ S.D grp) {ob : Oper} {ty : Nat} {x : Operand} {r : List V} (ho : ob.op = .load ty x) {out : Out} {lg : List (Nat × Nat)} (hp : dloadM cx grp ty (evalV S.t x) r S.ent = some (out, lg)) (hob : ∀ p ∈ out.obl, p) : Done cx.P Γ ι S grp ob out a w := by
  have hx := eval_rv h.tmps x
  unfold dloadM at hp
  cases hti : cx.T ty with
  | none => rw [hti] at hp; cases hp
  | some ti =>
  rw [hti] at hp
  obtain ⟨i, d, z, htf⟩ := cx.tf hti
  generalize evalV S.t x = xv at hp hx
  cases xv <;> try (cases hp; done)
  case eptr g j sz idx off =>
    obtain ⟨hD, b, hι, hc⟩ := hx.inv_eptr
    obtain ⟨e, l1, l2, hrd, hp', hl12⟩ := RdM.bind_some hp
    clear hp
    have he := (RdM.rd_some hrd).1
    simp only at he
    cases e <;> try (cases hp'; done)
    rename_i o t sz' n rows
    simp only at hp'
    obtain ⟨m, hm⟩ : ∃ m, (if ti.agg = true then ti.size else 1) = m := ⟨_, rfl⟩
    rw [hm] at hp'
    split at hp' <;> try (cases hp'; done)
    rename_i hcond
    obtain ⟨rfl, hc1, hc2⟩ := hcond
    obtain ⟨y, hy⟩ : ∃ y, thawCs grp 0 ((r.drop off).take m) = y := ⟨_, rfl⟩
    rw [hy] at hp'
    cases hrv : readV ti y.1 with
    | none => rw [hrv] at hp'; cases hp'
    | some v =>
    rw [hrv] at hp'
    have := RdM.pure_some hp'
    injection this with h2 h3
    subst h2
    have hr : rows[idx]? = some r := hob _ (by simp)
    obtain ⟨flat, fs, hor, hkl, hrn, hl, hnd, hnr⟩ := h.ents g j _ he
    obtain ⟨hseg, hmid, hle⟩ := deep_elem hor hrn hl hι hr hc1
    have hrl := hl r (List.mem_of_getElem? hr)
    have hml : ((r.drop off).take m).length = m := by simp; omega
    have hgg : g ≠ grp := fun q => hn (q ▸ hD)
    obtain ⟨k, hk⟩ : ∃ k, idx * sz' + off = k := ⟨_, rfl⟩
    rw [hk] at hseg hmid hle
    -- the element's cells, and the others'
    obtain ⟨fa, fm, fb, rfl, ka, km, kb⟩ := hkl.cut (k := k) (m := m) hle
    rw [hmid] at km
    have hbl := km.toBL hc2
    have hds : (flat.drop k).take m = ((flat.drop k).take m) := rfl
    have hflen : flat.length = rows.flatten.length := hkl.len.symm
    have hspl : ∀ us : List V, us.length = m → (rows.set idx (spliceV r off us)).flatten = rows.flatten.take k ++ (us ++ rows.flatten.drop (k + m)) := by
      intro us hus
      rw [flatten_splice hl hr (by omega), hk]
      unfold spliceV
      rw [hus, List.append_assoc]
    have hfs : flat = flat.take k ++ ((flat.drop k).take m ++ flat.drop (k + m)) := by
      rw [← List.drop_drop, List.take_append_drop, List.take_append_drop]
    have hrl' : ∀ us : List V, us.length = m → ∀ q ∈ rows.set idx (spliceV r off us), q.length = sz' := by
      intro us hus q hq
      rcases List.mem_or_eq_of_mem_set hq with hq | rfl
      · exact hl q hq
      · rw [splice_len _ _ _ (by omega)]; exact hrl
    have hnd2 : (fpb (ι g j) ++ (fa ++ fb)).Nodup := List.Nodup.sublist (List.Sublist.append_left (List.Sublist.append_left (List.sublist_append_right _ _) _) _) hnd
    have hndm : fm.Nodup := (List.nodup_append.1 (List.nodup_append.1 (List.nodup_append.1 hnd).2.1).2.1).1
    have hdm : ∀ k ∈ fm, k ∉ fpb (ι g j) ++ (fa ++ fb) := by
      intro q hq hq'
      have hp := (perm_mid (C := fpb (ι g j)) (perm_mid (C := fa) (List.Perm.refl (fm ++ fb)))).nodup_iff.1 hnd
      exact (List.nodup_append.1 hp).2.2 q hq q hq' rfl
    -- first: the cells are not told
    obtain ⟨us0, hus0⟩ : ∃ us : List V, us = ((r.drop off).take m).map fun _ => V.bot := ⟨_, rfl⟩
    have hus0l : us0.length = m := by rw [hus0, List.length_map, hml]
    have kl0 : ∀ {D' : Nat → Prop} {ι' : Nat → Nat → Value}, (∀ k, S.D k → D' k) → (∀ g j, S.D g → ι' g j = ι g j) → ∀ {us : List V}, us.length = m → KL w F D' ι' us ((flat.drop k).take m) [] → KL w F D' ι' (rows.set idx (spliceV r off us)).flatten flat (fa ++ ([] ++ fb)) := by
      intro D' ι' h1 h2 us hus hku
      rw [hspl us hus, hfs]
      have l1 : (flat.take k).length = k := by simp; omega
      have e1 : (flat.take k ++ ((flat.drop k).take m ++ flat.drop (k + m))) = flat := hfs.symm
      exact (ka.mono (fun _ _ _ => rfl) (fun _ x => x) h1 h2 (fun _ _ => rfl)).app (hku.app (kb.mono (fun _ _ _ => rfl) (fun _ x => x) h1 h2 (fun _ _ => rfl)))
    have hmem0 : ∀ q, q ∈ fpb (ι g j) ++ (fa ++ ([] ++ fb)) → q ∈ fpb (ι g j) ++ (fa ++ (fm ++ fb)) := by
      intro q hq
      simp only [List.mem_append, List.not_mem_nil, false_or] at hq ⊢
      rcases hq with x | x | x <;> simp [x]
    have rel1 : Rel Γ F ι (S.setE g j (.deep true t sz' n (rows.set idx (spliceV r off us0)))) a w := by
      have k1 := kl0 (D' := S.D) (ι' := ι) (fun _ x => x) (fun _ _ _ => rfl) hus0l (hus0 ▸ km.bots)
      refine h.write he rfl ⟨rfl, rfl, rfl⟩ rfl (fun _ _ => rfl) (fun _ => ?_) ?_
      · exact ⟨flat, _, hor, k1.mono (fun _ _ _ => rfl) (fun _ x => x) (fun k x => setE_D.2 x) (fun _ _ _ => rfl) (fun _ _ => rfl), by simpa using hrn, hrl' _ hus0l, by simpa using hnd2, fun q => by cases q⟩
      · intro q hq
        exact (EB.deep_iff hor hkl).2 (hmem0 q ((EB.deep_iff hor k1).1 hq))
    have he1 : (S.setE g j (.deep true t sz' n (rows.set idx (spliceV r off us0)))).ent g j = some (.deep true t sz' n (rows.set idx (spliceV r off us0))) := by rw [setE_ent he]; simp
    -- then the entries for what the cells own
    obtain ⟨bs, hbsl, hhas, hth⟩ := thawCs_run (grp := grp) hbl 0
    rw [hy] at hbsl hhas hth
    obtain ⟨ι', hι'⟩ : ∃ ι', ι' = listAt ι grp bs := ⟨_, rfl⟩
    have hne : ∀ g j, g ≠ grp → ι' g j = ι g j := fun g j q => by rw [hι']; exact listAt_ne q
    have hlenS : grp < (S.setE g j (.deep true t sz' n (rows.set idx (spliceV r off us0)))).h.length := by rw [setE_len]; exact hg
    have hnD : ¬ (S.setE g j (.deep true t sz' n (rows.set idx (spliceV r off us0)))).D grp := fun q => hn (setE_D.1 q)
    have hDg := lay_D_self (S := S.setE g j (.deep true t sz' n (rows.set idx (spliceV r off us0)))) (new := y.2) hlenS
    obtain ⟨hrc, hlie⟩ := hth ((S.setE g j (.deep true t sz' n (rows.set idx (spliceV r off us0)))).lay grp y.2).D ι' hDg (fun q c hq => by rw [hι', Nat.zero_add]; exact listAt_get hq) hndm
    have hvb : ∀ (q : Nat) (e : Ent), y.2[q]? = some e → bs[q]? = some (ι' grp q) := by
      intro q e hq
      have hlt : q < bs.length := by rw [hbsl]; exact (List.getElem?_eq_some_iff.1 hq).1
      have hv : ι' grp q = bs[q] := by rw [hι']; exact listAt_get (List.getElem?_eq_getElem hlt)
      rw [hv]
      exact List.getElem?_eq_getElem hlt
    have hmB : ∀ k ∈ fm, EB w (.deep o t sz' n rows) (ι g j) k := fun k hk => (EB.deep_iff hor hkl).2 (by simp [hk])
    have k1 := kl0 (D' := S.D) (ι' := ι) (fun _ x => x) (fun _ _ _ => rfl) hus0l (hus0 ▸ km.bots)
    have rel2 := rel1.lay hlenS hnD (new := y.2) (ι' := ι') hne (fun q e he => hlie q e _ he (hvb q e he))
      (fun q e k he hl hk => h.sep _ _ _ k ‹S.ent g j = some (.deep o t sz' n rows)› rfl (hmB k (hhas.mem he (hvb q e he) hk)))
      (fun q e q' e' k he he' hl hl' hk hk' => hhas.inj hndm he (hvb q e he) hk he' (hvb q' e' he') hk')
      (fun q e g' j' e' k he0 he' hl hl' hk hk' => by
        have hkm := hhas.mem he0 (hvb q e he0) hk
        rw [setE_ent he] at he'
        split at he'
        · rename_i qq
          obtain ⟨rfl, rfl⟩ := qq
          injection he' with he'
          subst he'
          exact hdm k hkm (by simpa using (EB.deep_iff hor k1).1 hk')
        · rename_i qq
          exact qq (h.inj _ _ _ _ _ _ k he' he hl' rfl hk' (hmB k hkm)))
    have he2 : ((S.setE g j (.deep true t sz' n (rows.set idx (spliceV r off us0)))).lay grp y.2).ent g j = some (.deep true t sz' n (rows.set idx (spliceV r off us0))) := by rw [lay_ent_ne hgg]; exact he1
    have hyl : y.1.length = m := by rw [← hy, thawCs_len, hml]
    have hor' : w.ownsRow 0 t sz' (ι' g j) n flat := by rw [hne g j hgg]; exact hor
    have hDD : ∀ k, S.D k → ((S.setE g j (.deep true t sz' n (rows.set idx (spliceV r off us0)))).lay grp y.2).D k := fun k x => lay_D (setE_D.2 x)
    have hιD : ∀ g' j', S.D g' → ι' g' j' = ι g' j' := fun g' j' x => hne g' j' fun q => hn (q ▸ x)
    have k2 := kl0 (D' := ((S.setE g j (.deep true t sz' n (rows.set idx (spliceV r off us0)))).lay grp y.2).D) (ι' := ι') hDD hιD hyl (KL.ofRC hrc)
    have k1' := kl0 (D' := ((S.setE g j (.deep true t sz' n (rows.set idx (spliceV r off us0)))).lay grp y.2).D) (ι' := ι') hDD hιD hus0l (hus0 ▸ km.bots.mono (fun _ _ _ => rfl) (fun _ x => x) hDD hιD (fun _ _ => rfl))
    have rel3 := rel2.write he2 rfl (e' := .deep true t sz' n (rows.set idx (spliceV r off y.1))) ⟨rfl, rfl, rfl⟩ rfl (fun _ _ => rfl)
      (fun _ => ⟨flat, _, hor', k2.mono (fun _ _ _ => rfl) (fun _ x => x) (fun k x => setE_D.2 x) (fun _ _ _ => rfl) (fun _ _ => rfl), by simpa using hrn, hrl' _ hyl, by rw [hne g j hgg]; simpa using hnd2, fun q => by cases q⟩)
      (fun q hq => (EB.deep_iff hor' k1').2 ((EB.deep_iff hor' k2).1 hq))
    -- what is read
    obtain ⟨c, hrd', hvc⟩ := readV_rel hrc hrv
    refine ⟨_, c, w, F, ι', load_run ho htf (by rw [hc, hk]) hseg hrd', .inl rfl, ?_⟩
    have hput := rel3.put ob.dst (hvc.mono (fun _ _ _ => rfl) (fun _ x => x) (fun k x => setE_D.2 x) (fun _ _ _ => rfl))
    rw [← setE_lay hgg, setE_setE] at hput
    exact hput

/-- Plain cells of such a row are read. -/
def dreadM (cx : Cx) (ty : Nat) (x : V) (r : List V) : RdM Out :=
  match cx.T ty with
  | none => RdM.no
  | some ti => match x with
    | .eptr g j sz idx off => RdM.bind (RdM.rd g j) fun e => match e with
      | .deep _ t sz' n rows =>
        let m := if ti.agg then ti.size else 1
        if sz' = sz ∧ off + m ≤ sz ∧ ((r.drop off).take m).all V.plain then
          match readV ti ((r.drop off).take m) with
          | some v => RdM.pure { v := v, obl := [rows[idx]? = some r] }
          | none => RdM.no
        else RdM.no
      | _ => RdM.no
    | _ => RdM.no

theorem dreadM_run (h : Rel Γ F ι S a w) {grp : Nat} {ob : Oper} {ty : Nat} {x : Operand} {r : List V} (ho : ob.op = .load ty x) {out : Out} {lg : List (Nat × Nat)} (hp : dreadM cx ty (evalV S.t x) r S.ent = some (out, lg)) (hob : ∀ p ∈ out.obl, p) : Done cx.P Γ ι S grp ob out a w := by
  have hx := eval_rv h.tmps x
  unfold dreadM at hp
  cases hti : cx.T ty with
  | none => rw [hti] at hp; cases hp
  | some ti =>
  rw [hti] at hp
  obtain ⟨i, d, z, htf⟩ := cx.tf hti
  generalize evalV S.t x = xv at hp hx
  cases xv <;> try (cases hp; done)
  case eptr g j sz idx off =>
    obtain ⟨hD, b, hι, hc⟩ := hx.inv_eptr
    obtain ⟨e, l1, l2, hrd, hp', hl12⟩ := RdM.bind_some hp
    clear hp
    have he := (RdM.rd_some hrd).1
    simp only at he
    cases e <;> try (cases hp'; done)
    rename_i o t sz' n rows
    simp only at hp'
    obtain ⟨m, hm⟩ : ∃ m, (if ti.agg = true then ti.size else 1) = m := ⟨_, rfl⟩
    rw [hm] at hp'
    split at hp' <;> try (cases hp'; done)
    rename_i hcond
    obtain ⟨rfl, hc1, hc2⟩ := hcond
    cases hrv : readV ti ((r.drop off).take m) with
    | none => rw [hrv] at hp'; cases hp'
    | some v =>
    rw [hrv] at hp'
    have := RdM.pure_some hp'
    injection this with h2 h3
    subst h2
    have hr : rows[idx]? = some r := hob _ (by simp)
    obtain ⟨flat, fs, hor, hkl, hrn, hl, hnd, hnr⟩ := h.ents g j _ he
    obtain ⟨hseg, hmid, hle⟩ := deep_elem hor hrn hl hι hr hc1
    obtain ⟨fa, fm, fb, rfl, ka, km, kb⟩ := hkl.cut hle
    rw [hmid] at km
    obtain ⟨c, hrd', hvc⟩ := readV_rel (D := S.D) (ι := ι) ((km.plain hc2).all2.imp fun _ _ x => .fv _ _ x) hrv
    exact ⟨_, c, w, F, ι, load_run ho htf hc hseg hrd', .inl rfl, by rw [apply_plain]; exact h.put ob.dst hvc⟩

/-- Such a row is made, of zeros. -/
def dmakeM (cx : Cx) (grp ty : Nat) (l c : V) (ck om : List (Option Nat)) : RdM Out :=
  match cx.T ty with
  | some ti => match ti.sl with
    | some e => match cx.T e with
      | some ei => match l, c with
        | .i _ n, .i _ n' => RdM.bind (cellsM ck om ei.zero) fun f =>
          if f.ks.isEmpty ∧ f.ls.isEmpty then
            RdM.pure { v := .own grp 0 ei.size 0 n.toNat, new := some [.deep false e ei.size n.toNat (List.replicate n.toNat f.v)], obl := [0 ≤ n, n' = n, n * ei.bytes ≤ 140737488355328 ∧ 0 < ei.bytes, ei.zero.length = ei.size] ++ f.obl }
          else RdM.no
        | _, _ => RdM.no
      | none => RdM.no
    | none => RdM.no
  | none => RdM.no

theorem BL.replicate {w : World} {F D : Nat → Prop} {ι : Nat → Nat → Value} {vs : List V} {cs : List Value} (h : KL w F D ι vs cs []) : ∀ n, KL w F D ι (List.replicate n vs).flatten (List.replicate n cs).flatten []
  | 0 => .nil
  | n + 1 => by
    rw [List.replicate_succ, List.replicate_succ, List.flatten_cons, List.flatten_cons]
    exact h.app (BL.replicate h n)

theorem dmakeM_run (h : Rel Γ F ι S a w) {grp : Nat} (hg : grp < S.h.length) (hn : ¬ S.D grp) {ob : Oper} {ty : Nat} {l c : Operand} (ho : ob.op = .makeSlice ty l c) {ck om : List (Option Nat)} {out : Out} {lg : List (Nat × Nat)} (hp : dmakeM cx grp ty (evalV S.t l) (evalV S.t c) ck om S.ent = some (out, lg)) (hob : ∀ p ∈ out.obl, p) : Done cx.P Γ ι S grp ob out a w := by
  have hl := eval_rv h.tmps l
  have hc := eval_rv h.tmps c
  unfold dmakeM at hp
  cases hti : cx.T ty with
  | none => rw [hti] at hp; cases hp
  | some ti =>
  rw [hti] at hp
  simp only at hp
  cases hs : ti.sl with
  | none => rw [hs] at hp; cases hp
  | some e =>
  rw [hs] at hp
  simp only at hp
  cases hei : cx.T e with
  | none => rw [hei] at hp; cases hp
  | some ei =>
  rw [hei] at hp
  simp only at hp
  generalize evalV S.t l = lv at hp hl
  generalize evalV S.t c = cv at hp hc
  cases lv <;> try (cases hp; done)
  cases cv <;> try (cases hp; done)
  rename_i k n k' n'
  simp only at hp
  obtain ⟨f, l1, l2, hf, hp', _⟩ := RdM.bind_some hp
  clear hp
  split at hp' <;> try (cases hp'; done)
  rename_i hcond
  have := RdM.pure_some hp'
  injection this with h3 h4
  subst h3
  have p1 : 0 ≤ n := hob _ (by simp)
  have p2 : n' = n := hob _ (by simp)
  have p3 : n * ei.bytes ≤ 140737488355328 ∧ 0 < ei.bytes := hob _ (by simp)
  have p4 : ei.zero.length = ei.size := hob _ (by simp)
  have p5 : ∀ p ∈ f.obl, p := fun p hp => hob p (List.mem_append.2 (.inr hp))
  subst p2
  obtain ⟨m, rfl⟩ := Int.eq_ofNat_of_zero_le p1
  obtain ⟨i, d, z, htf⟩ := cx.tf hti
  obtain ⟨i', d', z', hef⟩ := cx.tf hei
  obtain rfl := htf.isSl hs
  have hzs : z'.cells.size = ei.size := by rw [← p4, ← hef.zeros]; simp
  have hb1 : m * ei.bytes ≤ 140737488355328 := by
    have := p3.1
    rw [← Int.natCast_mul] at this
    omega
  have hb2 : m ≤ 140737488355328 := Nat.le_trans (Nat.le_mul_of_pos_right _ p3.2) hb1
  obtain ⟨w', hr, hown, hgr⟩ := run_make_full (P := cx.P) w 0 ty e i' z' ei.size htf.und hef.info hef.zero hef.size k k' m (by rw [hef.bytes, Nat.mul_comm]; omega) (by unfold maxLen; omega) (Nat.zero_le _)
  have hrun : (execOp a.eval ob).run cx.P w = .ok (.value (.slice (some ⟨w.heap.size, 0, none⟩) m m)) w' := by
    simp [execOp, ho, hl.inv_i, hc.inv_i, hr]
  have hz : All2 (RC w F S.D ι) ei.zero z'.cells.toList := by
    rw [← hef.zeros]
    exact (FL.ofCells (w := w) (F := F) _ hef.one).all2.imp fun _ _ x => .fv _ _ x
  obtain ⟨fp, hbl, hfps, hh⟩ := cellsM_run (F1 := F) h (fun _ x => x) hz hf p5 (by rw [List.isEmpty_iff.1 hcond.2]; intro id hid; cases hid)
  have hfp : fp = [] := by
    rw [List.isEmpty_iff.1 hcond.1] at hfps
    cases hfps
    rfl
  subst hfp
  have hs' : Same w w' F := same_of_heap fun g hg => hgr.block g (h.F1 g hg) (by simp)
  have hbl' : BL w' F f.v z'.cells.toList [] := hbl.mono hs' (fun _ x => x) (fun k hk => by cases hk)
  have hrowl : ∀ r ∈ List.replicate m f.v, r.length = ei.size := fun r hr => by
    rw [(List.mem_replicate.1 hr).2, hbl.len]
    simpa using hzs
  have hkl : ∀ {D : Nat → Prop} {ι : Nat → Nat → Value}, KL w' F D ι (List.replicate m f.v).flatten (List.replicate m z'.cells.toList).flatten [] := BL.replicate hbl'.kl m
  have hown' := hown
  rw [← hzs, made_flatten, hzs] at hown'
  have hor : RE w' F (S.lay grp [.deep false e ei.size m (List.replicate m f.v)]).D (newAt ι grp (.slice (some ⟨w.heap.size, 0, none⟩) m m)) (.deep false e ei.size m (List.replicate m f.v)) (.slice (some ⟨w.heap.size, 0, none⟩) m m) :=
    ⟨_, [], hown', hkl, by simp, hrowl, by simp [fpb, blk], fun _ => NoRef.of_flat fun v hv => by
      obtain ⟨q, hq, hv⟩ := List.mem_flatten.1 hv
      rw [(List.mem_replicate.1 hq).2] at hv
      exact hbl.noRef v hv⟩
  have hrel := h.new1 hg hn hgr (ent := .deep false e ei.size m (List.replicate m f.v)) (c0 := .slice (some ⟨w.heap.size, 0, none⟩) m m) (by
    intro q hq
    have := (EB.deep_iff (D := fun _ => True) (ι := fun _ _ => .nilFunc) hown' hkl).1 hq
    simp [fpb, blk] at this
    omega) hor
  refine ⟨_, _, _, F, newAt ι grp (.slice (some ⟨w.heap.size, 0, none⟩) m m), hrun, .inl rfl, ?_⟩
  exact hrel.put ob.dst (.cell (RC.wholeO (lay_D_self hg) newAt_eq hown'))
end

end Go.Proofs.Ythegkbaijmkhfaa
