/- The end of a function: what is handed back. -/
import Derived.Test.YthegkbaijmkhfaaAm27
set_option linter.unusedVariables false
set_option linter.unusedSimpArgs false
namespace Go.Proofs.Ythegkbaijmkhfaa
open Go

def resV (cx : Cx) (t : List V) (r : ResultVar) : RdM V :=
  match r with
  | .tmp k => RdM.pure (t.getD k .bot)
  | .cell a ty => match cx.T ty with
    | some ti => match t.getD a .bot with
      | .ptr g j off => RdM.bind (RdM.rd g j) fun e => match e with
        | .var _ cs => match readV ti (cs.drop off) with
          | some v => RdM.pure v
          | none => RdM.no
        | _ => RdM.no
      | _ => RdM.no
    | none => RdM.no
def resVs (cx : Cx) (t : List V) : List ResultVar → RdM (List V)
  | [] => RdM.pure []
  | r :: rs => RdM.bind (resV cx t r) fun v => RdM.bind (resVs cx t rs) fun vs => RdM.pure (v :: vs)

/-- What was handed over to be written, as it lies now. -/
def outVs : List (Option (Nat × PM)) → RdM (List V × List PM)
  | [] => RdM.pure ([], [])
  | none :: os => outVs os
  | some (j, m) :: os => RdM.bind (RdM.rd 0 j) fun e => match m, e with
    | .ptr _ _, .var _ _ => RdM.bind (outVs os) fun x => RdM.pure (.ptr 0 j 0 :: x.1, m :: x.2)
    | .row, .row _ sz n _ => RdM.bind (outVs os) fun x => RdM.pure (.own 0 j sz 0 n :: x.1, m :: x.2)
    | .row, .deep false _ sz n _ => RdM.bind (outVs os) fun x => RdM.pure (.own 0 j sz 0 n :: x.1, m :: x.2)
    | _, _ => RdM.no

def packV : List V → V
  | [v] => v
  | vs => .tup vs
def spreadV : List (Option (Nat × PM)) → List V → List (Option V)
  | [], _ => []
  | none :: os, vs => none :: spreadV os vs
  | some _ :: os, v :: vs => some v :: spreadV os vs
  | some _ :: os, [] => none :: spreadV os []

def retR (cx : Cx) (X : Sig) (t : List V) : RdM (AR (List V) × Nat) :=
  RdM.bind (resVs cx t X.fn.results.toList) fun rv => RdM.bind (outVs X.oms) fun ov => RdM.bind (argsM (X.rms ++ ov.2) (rv ++ ov.1)) fun r =>
    if nodupB r.ks && r.ls.all (fun id => !hasId r.ks id) && Nat.beq rv.length X.rms.length then RdM.pure (r, rv.length) else RdM.no

def retM (cx : Cx) (X : Sig) (k : List Item) (S : St) : Option (V × List (Option V) × List Prop) :=
  match k with
  | .code .ret :: _ | [] => match retR cx X S.t S.ent with
    | some ((r, n), _) => some (packV (r.v.take n), spreadV X.oms (r.v.drop n), r.obl)
    | none => none
  | _ => none

section
variable {cx : Cx} {Γ : Ctx} {F : Nat → Prop} {ι : Nat → Nat → Value} {S S' : St} {a : Act} {w : World} {b : Frame} {cs : List Frame} {k k' : List Item}

theorem tmp_rv (h : Rel Γ F ι S a w) (k : Nat) : RV w F S.D ι (S.t.getD k .bot) (a.tmps.getD k undef) := eval_rv h.tmps (.tmp k)

def resRun (P : Program) (tmps : Array Value) (w : World) (r : ResultVar) (c : Value) : Prop :=
  ((match r with
    | .tmp t => pure (tmps.getD t undef)
    | .cell a t => do loadVar t (← asAddr (tmps.getD a undef))) : Sem Value).run P w = .ok c w

theorem resV_run (h : Rel Γ F ι S a w) {r : ResultVar} {v : V} {lg : List (Nat × Nat)} (hr : resV cx S.t r S.ent = some (v, lg)) : ∃ c, resRun cx.P a.tmps w r c ∧ RV w F S.D ι v c := by
  unfold resV at hr
  cases r with
  | tmp k =>
    have := RdM.pure_some hr
    injection this with this h9
    subst this
    exact ⟨_, rfl, tmp_rv h k⟩
  | cell ad ty =>
    simp only at hr
    cases hti : cx.T ty with
    | none => rw [hti] at hr; cases hr
    | some ti =>
    rw [hti] at hr
    obtain ⟨i, d, z, htf⟩ := cx.tf hti
    have hx := tmp_rv h ad
    generalize S.t.getD ad .bot = xv at hr hx
    cases xv <;> try (cases hr; done)
    case ptr g j off =>
      obtain ⟨hD, b, hι, hc⟩ := hx.inv_ptr
      obtain ⟨e, l1, l2, hrd, hp', hl12⟩ := RdM.bind_some hr
      clear hr
      have he := (RdM.rd_some hrd).1
      simp only at he
      have hre := h.ents g j e he
      split at hp' <;> try (cases hp'; done)
      · rename_i e0 cs
        obtain ⟨g0, cur, h1, hg, hcs⟩ := hre
        rw [hι] at h1
        injection h1 with h1
        injection h1 with h1
        injection h1 with h1
        subst h1
        cases hrv : readV ti (cs.drop off) with
        | none => rw [hrv] at hp'; cases hp'
        | some v' =>
        rw [hrv] at hp'
        have := RdM.pure_some hp'
        injection this with this h9
        subst this
        obtain ⟨c, hrd', hvc⟩ := readV_rel (hcs.drop off) hrv
        refine ⟨c, ?_, hvc⟩
        unfold resRun
        simp only [hc, asAddr]
        have := run_loadVar htf (seg_of_cells hg off) hrd'
        simpa [Sem.run_bind] using this

theorem resVs_run (h : Rel Γ F ι S a w) : ∀ {rs : List ResultVar} {vs : List V} {lg : List (Nat × Nat)}, resVs cx S.t rs S.ent = some (vs, lg) → ∃ cs, All2 (resRun cx.P a.tmps w) rs cs ∧ All2 (RV w F S.D ι) vs cs
  | [], vs, lg, hr => by
    have := RdM.pure_some hr
    injection this with this h9
    subst this
    exact ⟨[], .nil, .nil⟩
  | r :: rs, vs, lg, hr => by
    obtain ⟨v, l1, l2, h1, h2, _⟩ := RdM.bind_some hr
    obtain ⟨vs', l3, l4, h3, h4, _⟩ := RdM.bind_some h2
    have := RdM.pure_some h4
    injection this with this h9
    subst this
    obtain ⟨c, e1, e2⟩ := resV_run h h1
    obtain ⟨cs, e3, e4⟩ := resVs_run h h3
    exact ⟨c :: cs, .cons e1 e3, .cons e2 e4⟩

def packC : List Value → Value
  | [c] => c
  | cs => .tuple cs.toArray

theorem mapM_run {P : Program} {w : World} {α : Type} {f : α → Sem Value} : ∀ {l : List α} {cs : List Value}, All2 (fun r c => (f r).run P w = .ok c w) l cs → (l.mapM f).run P w = .ok cs w
  | _, _, .nil => by simp [Sem.run]
  | _, _, .cons h t => by
    rw [List.mapM_cons]
    have := mapM_run t
    simp [Sem.run_bind, h, this]

theorem results_run {P : Program} {fn : Func} {tmps : Array Value} {w : World} {cs : List Value} (h : All2 (resRun P tmps w) fn.results.toList cs) : (results fn tmps).run P w = .ok (packC cs) w := by
  unfold results
  have hm := mapM_run (f := fun r : ResultVar => match r with
    | .tmp t => pure (tmps.getD t undef)
    | .cell a t => do loadVar t (← asAddr (tmps.getD a undef))) (h.imp fun r c x => x)
  have he : fn.results = fn.results.toList.toArray := by simp
  rw [he, List.mapM_toArray]
  have hp : (if hh : cs.toArray.size = 1 then cs.toArray[0] else Value.tuple cs.toArray) = packC cs := by
    rcases cs with _ | ⟨c, _ | ⟨c', cs⟩⟩
    · rfl
    · rfl
    · have : ¬ (c :: c' :: cs).toArray.size = 1 := by simp
      rw [dif_neg this]
      rfl
  simp only [map_eq_pure_bind, Sem.run_bind, bind_assoc, pure_bind]
  refine (congrArg (fun r => Result.andThen r _) hm).trans ?_
  simp only [Result.andThen]
  rw [← hp]
  rfl

theorem outVs_run (h : Rel Γ F ι S a w) : ∀ {oms : List (Option (Nat × PM))} {cargs : List Value} {vs : List V} {ms : List PM} {lg : List (Nat × Nat)}, Pinned oms cargs Γ.pins → outVs oms S.ent = some ((vs, ms), lg) → ∃ cs, All2 (RV w F S.D ι) vs cs ∧
    ∀ {F1 : Nat → Prop} {us : List V} {f : List Nat}, BS w F1 us cs f → BO w F1 (spreadV oms us) cargs f
  | [], _, vs, ms, lg, .nil _, hr => by
    have := RdM.pure_some hr
    injection this with h1 h2
    injection h1 with h1 h3
    subst h1
    exact ⟨[], .nil, fun hb => by cases hb; exact .nil⟩
  | none :: oms, _, vs, ms, lg, .skip _ c cs _ t, hr => by
    obtain ⟨cs', e1, e2⟩ := outVs_run h t hr
    exact ⟨cs', e1, fun {F1 us f} hb => .skip _ _ _ _ (e2 hb)⟩
  | some (j, m) :: oms, _, vs, ms, lg, .pin _ _ _ c cs _ hc t, hr => by
    obtain ⟨e, l1, l2, hrd, hp, _⟩ := RdM.bind_some hr
    have he := (RdM.rd_some hrd).1
    simp only at he
    have hD := St.D_of_ent he
    have hι := (h.pins j c hc).2
    have hre := h.ents 0 j e he
    split at hp <;> try (cases hp; done)
    · obtain ⟨x, l3, l4, h1, h2, _⟩ := RdM.bind_some hp
      have := RdM.pure_some h2
      injection this with h3 h4
      injection h3 with h3 h5
      subst h3
      obtain ⟨cs', e1, e2⟩ := outVs_run h t h1
      obtain ⟨g, cur, q1, q2, q3⟩ := hre
      refine ⟨c :: cs', .cons (.one _ _ (.cell _ _ ?_)) e1, ?_⟩
      · rw [← hι, q1]
        exact .ptr 0 j 0 g hD q1
      · intro F1 us f hb
        cases hb with
        | cons v c f vs cs fs h t => exact .cons _ _ _ _ _ _ h (e2 t)
    · obtain ⟨x, l3, l4, h1, h2, _⟩ := RdM.bind_some hp
      have := RdM.pure_some h2
      injection this with h3 h4
      injection h3 with h3 h5
      subst h3
      obtain ⟨cs', e1, e2⟩ := outVs_run h t h1
      refine ⟨c :: cs', .cons (.one _ _ (.cell _ _ ?_)) e1, ?_⟩
      · have := RC.whole hD rfl hre
        rwa [hι] at this
      · intro F1 us f hb
        cases hb with
        | cons v c f vs cs fs h t => exact .cons _ _ _ _ _ _ h (e2 t)
    · obtain ⟨x, l3, l4, h1, h2, _⟩ := RdM.bind_some hp
      have := RdM.pure_some h2
      injection this with h3 h4
      injection h3 with h3 h5
      subst h3
      obtain ⟨cs', e1, e2⟩ := outVs_run h t h1
      obtain ⟨flat, fs, ho, _⟩ := hre
      refine ⟨c :: cs', .cons (.one _ _ (.cell _ _ ?_)) e1, ?_⟩
      · have := RC.wholeO (F := F) (D := S.D) hD rfl ho
        rwa [hι] at this
      · intro F1 us f hb
        cases hb with
        | cons v c f vs cs fs h t => exact .cons _ _ _ _ _ _ h (e2 t)

theorem All2.app {α β : Type} {R : α → β → Prop} : ∀ {as bs cs ds}, All2 R as bs → All2 R cs ds → All2 R (as ++ cs) (bs ++ ds)
  | _, _, _, _, .nil, k => k
  | _, _, _, _, .cons hx t, k => .cons hx (t.app k)

theorem BS.split : ∀ {c1 c2 : List Value} {vs : List V} {f : List Nat}, BS w F vs (c1 ++ c2) f → ∃ f1 f2, f = f1 ++ f2 ∧ BS w F (vs.take c1.length) c1 f1 ∧ BS w F (vs.drop c1.length) c2 f2
  | [], c2, vs, f, h => ⟨[], f, rfl, by simpa using .nil, by simpa using h⟩
  | c :: c1, c2, _, _, .cons v _ f vs _ fs h t => by
    obtain ⟨f1, f2, rfl, h1, h2⟩ := BS.split t
    exact ⟨f ++ f1, f2, by simp, .cons _ _ _ _ _ _ h h1, h2⟩

theorem BS.pack {vs : List V} {cs : List Value} {f : List Nat} (h : BS w F vs cs f) : BR w F (packV vs) (packC cs) f := by
  cases h with
  | nil => exact .tup _ _ _ .nil
  | cons v c f vs cs fs h t =>
    cases t with
    | nil => rw [List.append_nil]; exact .one _ _ _ h
    | cons v' c' f' vs' cs' fs' h' t' => exact .tup _ _ _ (.cons _ _ _ _ _ _ h (.cons _ _ _ _ _ _ h' t'))

theorem Fin.ret {X : Sig} {res : V} {outs : List (Option V)} {ps : List Prop} (hf : cx.P.funcs[X.f]? = some X.fn) (hr : retM cx X k S = some (res, outs, ps)) (hob : ∀ p ∈ ps, p) : Fin cx X res outs k S := by
  obtain ⟨r, n, lg, hR, rfl, rfl, rfl, hk⟩ : ∃ r n lg, retR cx X S.t S.ent = some ((r, n), lg) ∧ packV (r.v.take n) = res ∧ spreadV X.oms (r.v.drop n) = outs ∧ r.obl = ps ∧ (k = [] ∨ ∃ k', k = .code .ret :: k') := by
    unfold retM at hr
    split at hr <;> try (cases hr; done)
    all_goals
      split at hr <;> try (cases hr; done)
      rename_i r n lg hR
      injection hr with hr
      injection hr with h1 h2
      injection h2 with h2 h3
      first | exact ⟨r, n, lg, hR, h1, h2, h3, .inr ⟨_, rfl⟩⟩ | exact ⟨r, n, lg, hR, h1, h2, h3, .inl rfl⟩
  intro w0 F0 fp cargs bs hp hF0 F ι a w b cs h hb1 hb2
  unfold retR at hR
  obtain ⟨rv, l1, l2, g1, g2, _⟩ := RdM.bind_some hR
  obtain ⟨⟨ov, om⟩, l3, l4, g3, g4, _⟩ := RdM.bind_some g2
  obtain ⟨r', l5, l6, g5, g6, _⟩ := RdM.bind_some g4
  simp only at g6
  split at g6 <;> try (cases g6; done)
  rename_i hchk
  have := RdM.pure_some g6
  injection this with e1 e2
  injection e1 with e1 e3
  subst e1; subst e3
  simp only [Bool.and_eq_true] at hchk
  obtain ⟨⟨hnk, hls⟩, hlen⟩ := hchk
  have hnk' := nodupB_iff hnk
  have hdis : ∀ id ∈ r.ls, id ∉ r.ks := fun id hid => not_hasId (List.all_eq_true.1 hls id hid)
  obtain ⟨rcs, q1, q2⟩ := resVs_run h g1
  obtain ⟨ocs, q3, q4⟩ := outVs_run h hp g3
  let F1 : Nat → Prop := fun k => F k ∨ ∃ id ∈ r.ls, ∃ e, S.ent id.1 id.2 = some e ∧ EB w e (ι id.1 id.2) k
  obtain ⟨fpx, hbs, hfps, hhk, hhl⟩ := argsM_run (F1 := F1) h (fun k x => .inl x) (q2.app q3) g5 hob (fun id hid e k he hk => .inr ⟨id, hid, e, he, hk⟩)
  obtain ⟨f1, f2, hf12, b1, b2⟩ := hbs.split
  have hl2 : rcs.length = rv.length := q2.length.symm
  rw [hl2] at b1 b2
  have hfpn := Fps.nodup h hfps hnk'
  have hF1lt : ∀ k, F1 k → k < w.heap.size := by
    rintro k (x | ⟨id, hid, e, he, hb⟩)
    · exact h.F1 k x
    · obtain ⟨e', he', hl'⟩ := hhl id hid
      have : e = e' := by rw [he] at he'; injection he'
      subst this
      exact h.lt he hl' hb
  have hfin : AEnd w0 F0 fp cargs (packV (r.v.take rv.length)) (spreadV X.oms (r.v.drop rv.length)) (.returned (packC rcs)) w := by
    refine ⟨packC rcs, F1, f1, f2, rfl, h.kept, fun k x => .inl (h.F0 k x), ?_, b1.pack, q4 b2, ?_, ?_⟩
    · rintro k x
      refine ⟨?_, hF1lt k x⟩
      rcases x with x | ⟨id, hid, e, he, hb⟩
      · exact h.F2 k x
      · obtain ⟨e', he', hl'⟩ := hhl id hid
        have : e = e' := by rw [he] at he'; injection he'
        subst this
        exact .inr (h.sep _ _ _ k he hl' hb).2
    · rw [← hf12]; exact hfpn
    · intro k hk
      rw [← hf12] at hk
      obtain ⟨id, hid, e, he, hl, hb⟩ := hfps.mem hk
      obtain ⟨z1, z2⟩ := h.sep _ _ e k he hl hb
      refine ⟨?_, z2, h.lt he hl hb⟩
      rintro (x | ⟨id', hid', e0, he0, hb'⟩)
      · exact z1 x
      · obtain ⟨e', he', hl'⟩ := hhl id' hid'
        have : e0 = e' := by rw [he0] at he'; injection he'
        subst this
        obtain ⟨y1, y2⟩ := h.inj _ _ e _ _ _ k he he' hl hl' hb hb'
        have : id = id' := Prod.ext y1 y2
        exact hdis id' hid' (this ▸ hid)
  have hres := results_run (P := cx.P) q1
  rcases hk with rfl | ⟨k', rfl⟩
  · exact ⟨_, w, _, hfin, .one step_end, hb1, rfl, h.defers, hb2, X.fn, by show cx.P.funcs[b.fn]? = _; rw [hb1]; exact hf, hres⟩
  · exact ⟨_, w, _, hfin, .one step_ret, hb1, rfl, h.defers, hb2, X.fn, by show cx.P.funcs[b.fn]? = _; rw [hb1]; exact hf, hres⟩
end

end Go.Proofs.Ythegkbaijmkhfaa
