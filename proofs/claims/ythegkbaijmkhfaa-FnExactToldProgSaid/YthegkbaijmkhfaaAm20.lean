/- A call, and all operations together. -/
import Derived.Test.YthegkbaijmkhfaaAm19
set_option linter.unusedVariables false
set_option linter.unusedSimpArgs false
namespace Go.Proofs.Ythegkbaijmkhfaa
open Go

def hasId (l : List (Nat × Nat)) (x : Nat × Nat) : Bool := l.any fun y => y.1 == x.1 && y.2 == x.2
theorem hasId_iff {l : List (Nat × Nat)} {x : Nat × Nat} : hasId l x = true ↔ x ∈ l := by
  unfold hasId
  rw [List.any_eq_true]
  constructor
  · rintro ⟨y, hy, h⟩
    simp at h
    have : y = x := Prod.ext h.1 h.2
    exact this ▸ hy
  · intro h
    exact ⟨x, h, by simp⟩
def dd : List (Nat × Nat) → List (Nat × Nat)
  | [] => []
  | x :: xs => if hasId (dd xs) x then dd xs else x :: dd xs
theorem mem_dd {x : Nat × Nat} : ∀ {l : List (Nat × Nat)}, x ∈ dd l ↔ x ∈ l
  | [] => Iff.rfl
  | y :: l => by
    unfold dd
    split
    · rename_i h
      rw [hasId_iff] at h
      rw [mem_dd, List.mem_cons]
      constructor
      · exact .inr
      · rintro (rfl | q)
        · exact mem_dd.1 h
        · exact q
    · rw [List.mem_cons, List.mem_cons, mem_dd]
theorem nodup_dd : ∀ l : List (Nat × Nat), (dd l).Nodup
  | [] => .nil
  | y :: l => by
    unfold dd
    split
    · exact nodup_dd l
    · rename_i h
      rw [hasId_iff] at h
      exact List.nodup_cons.2 ⟨h, nodup_dd l⟩
def nodupB : List (Nat × Nat) → Bool
  | [] => true
  | x :: xs => !hasId xs x && nodupB xs
theorem nodupB_iff : ∀ {l : List (Nat × Nat)}, nodupB l = true → l.Nodup
  | [], _ => .nil
  | x :: xs, h => by
    simp [nodupB] at h
    refine List.nodup_cons.2 ⟨fun q => ?_, nodupB_iff h.2⟩
    rw [hasId_iff.2 q] at h
    cases h.1

/-- The rows that were looked at, as ones that are never written again. -/
def frzOf : List (Nat × Nat) → RdM (List Upd)
  | [] => RdM.pure []
  | (g, j) :: ids => RdM.bind (RdM.rd g j) fun e => match e with
    | .row _ sz n rows => RdM.bind (frzOf ids) fun us => RdM.pure (((g, j), .frz sz n rows) :: us)
    | .deep false _ _ _ _ => RdM.bind (frzOf ids) fun us => RdM.pure (((g, j), .dead) :: us)
    | _ => RdM.no

theorem frzOf_run {H : Hp} : ∀ {ids : List (Nat × Nat)} {us : List Upd} {lg : List (Nat × Nat)}, frzOf ids H = some (us, lg) → us.map (·.1) = ids ∧ ∀ u ∈ us, (∃ e sz n rows, H u.1.1 u.1.2 = some (.row e sz n rows) ∧ u.2 = .frz sz n rows) ∨ u.2 = .dead
  | [], us, lg, h => by
    have := RdM.pure_some h
    injection this with h1 h2
    subst h1
    simp
  | (g, j) :: ids, us, lg, h => by
    unfold frzOf at h
    obtain ⟨e, l1, l2, hrd, hp, hl⟩ := RdM.bind_some h
    have he := (RdM.rd_some hrd).1
    simp only at he
    cases e <;> try (cases hp; done)
    case row t sz n rows =>
      simp only at hp
      obtain ⟨us', l3, l4, hr, hp', hl'⟩ := RdM.bind_some hp
      have := RdM.pure_some hp'
      injection this with h1 h2
      subst h1
      obtain ⟨h3, h4⟩ := frzOf_run hr
      refine ⟨by simp [h3], ?_⟩
      intro u hu
      rcases List.mem_cons.1 hu with rfl | hu
      · exact .inl ⟨t, sz, n, rows, he, rfl⟩
      · exact h4 u hu
    case deep o t sz n rows =>
      cases o with
      | true => cases hp
      | false =>
      simp only at hp
      obtain ⟨us', l3, l4, hr, hp', hl'⟩ := RdM.bind_some hp
      have := RdM.pure_some hp'
      injection this with h1 h2
      subst h1
      obtain ⟨h3, h4⟩ := frzOf_run hr
      refine ⟨by simp [h3], ?_⟩
      intro u hu
      rcases List.mem_cons.1 hu with rfl | hu
      · exact .inr rfl
      · exact h4 u hu

theorem filterMap_inj {k : Nat} {x y : Value} : ∀ {l : List Value} {i j : Nat}, (l.filterMap blk).Nodup → l[i]? = some x → blk x = some k → l[j]? = some y → blk y = some k → i = j
  | [], i, j, _, h, _, _, _ => by simp at h
  | z :: l, i, j, hn, hi, hx, hj, hy => by
    have hn' : (l.filterMap blk).Nodup := by
      rw [List.filterMap_cons] at hn
      split at hn
      · exact hn
      · exact (List.nodup_cons.1 hn).2
    have hno : ∀ (q : Nat) (u : Value), l[q]? = some u → blk u = some k → blk z = some k → False := by
      intro q u hq hu hz
      rw [List.filterMap_cons, hz] at hn
      exact (List.nodup_cons.1 hn).1 (List.mem_filterMap.2 ⟨u, List.mem_of_getElem? hq, hu⟩)
    cases i with
    | zero => cases j with
      | zero => rfl
      | succ j =>
        simp at hi hj
        subst hi
        exact (hno j y hj hy hx).elim
    | succ i => cases j with
      | zero =>
        simp at hi hj
        subst hj
        exact (hno i x hi hx hy).elim
      | succ j =>
        simp at hi hj
        rw [filterMap_inj hn' hi hx hj hy]

theorem OR.fv {w : World} {F F1 : Nat → Prop} {e sz n : Nat} {c : Value} {rows : List (List V)} (hF : ∀ k, F k → F1 k) (hb : ∀ k, blk c = some k → F1 k) (hr : OR w F e sz c n rows) : FV w F1 (.sl sz n rows) c := by
  obtain ⟨flat, ho, hf, hn, hl⟩ := hr
  rcases ho.2 with ⟨hv, h0⟩ | ⟨g0, cap, cur, hv, _, hg, hnc, hcm, hcs, ht⟩
  · rw [hv]
    subst h0
    have : rows = [] := List.eq_nil_of_length_eq_zero hn
    subst this
    exact .sl0 sz none 0
  · have hb' := hb g0 (by rw [hv]; rfl)
    rw [hv]
    refine .sl sz n rows g0 0 cap flat hb' (hf.mono (fun _ _ _ => rfl) hF) hn hl hnc ?_
    intro q u hu
    rw [cell_of_row w g0 (0 + q) cur e (0, 0) hg, Nat.zero_add]
    rw [← ht, List.getElem?_take] at hu
    split at hu
    · simpa using hu
    · cases hu

theorem kills_dead : ∀ {ks : List (Nat × Nat)} {S : St} {id : Nat × Nat}, id ∈ ks → (∃ e, S.ent id.1 id.2 = some e) → (S.upds (kills ks)).ent id.1 id.2 = some .dead
  | k :: ks, S, id, h, ⟨e, he⟩ => by
    show ((S.setE k.1 k.2 .dead).upds (kills ks)).ent id.1 id.2 = some .dead
    have h1 : ∃ e', (S.setE k.1 k.2 .dead).ent id.1 id.2 = some e' ∧ (id = k → e' = .dead) := by
      by_cases q : id.1 = k.1 ∧ id.2 = k.2
      · have hk : S.ent k.1 k.2 = some e := by rw [← q.1, ← q.2]; exact he
        exact ⟨.dead, by rw [setE_ent hk]; simp [q], fun _ => rfl⟩
      · exact ⟨e, by rw [setE_ent_ne q]; exact he, fun z => absurd ⟨by rw [z], by rw [z]⟩ q⟩
    obtain ⟨e', he', hd⟩ := h1
    by_cases q : id ∈ ks
    · exact kills_dead q ⟨e', he'⟩
    · have hidk : id = k := (List.mem_cons.1 h).resolve_right q
      obtain rfl := hd hidk
      have : ∀ (ks : List (Nat × Nat)) (S : St), id ∉ ks → (S.upds (kills ks)).ent id.1 id.2 = S.ent id.1 id.2 := by
        intro ks
        induction ks with
        | nil => intro S _; rfl
        | cons k' ks ih =>
          intro S hq
          show ((S.setE k'.1 k'.2 .dead).upds (kills ks)).ent id.1 id.2 = _
          rw [ih _ (fun z => hq (by simp [z])), setE_ent_ne (fun z => hq (by rw [show id = k' from Prod.ext z.1 z.2]; simp))]
      rw [this ks _ q]
      exact he'

def listAt (ι : Nat → Nat → Value) (grp : Nat) (bs : List Value) : Nat → Nat → Value := fun g j => if g = grp then (bs[j]?).getD .nilFunc else ι g j
theorem listAt_ne {ι : Nat → Nat → Value} {grp g j : Nat} {bs : List Value} (h : g ≠ grp) : listAt ι grp bs g j = ι g j := if_neg h
theorem listAt_get {ι : Nat → Nat → Value} {grp j : Nat} {bs : List Value} {b : Value} (h : bs[j]? = some b) : listAt ι grp bs grp j = b := by
  unfold listAt
  rw [if_pos rfl, h]
  rfl

def callM (P : Program) (grp f : Nat) (args : List V) (A : Ans) : RdM Out :=
  match A with
  | .call ms fr res outs => RdM.bind (argsM ms args) fun r =>
    let ls := if fr then [] else dd r.ls
    RdM.bind (frzOf ls) fun fz =>
      let x := thawR grp 0 res
      match outsM grp x.2.length ms args outs with
      | some (us, es) =>
        if nodupB r.ks && r.ls.all (fun id => !hasId r.ks id) && nodupB (us.map (·.1)) && us.all (fun u => hasId r.ks u.1) then
          RdM.pure { v := x.1, new := some (x.2 ++ es), upd := kills (r.ks ++ ls) ++ (fz ++ us), obl := ACalls P f r.v res outs :: (if fr then [ScalR res ∧ ScalO outs] else []) ++ r.obl }
        else RdM.no
      | none => RdM.no
  | _ => RdM.no

section
variable {cx : Cx} {Γ : Ctx} {F : Nat → Prop} {ι : Nat → Nat → Value} {S : St} {a : Act} {w : World}

theorem evals_rv {t : List V} {D : Nat → Prop} (ht : All2 (RV w F D ι) t a.tmps.toList) : ∀ xs : List Operand, All2 (RV w F D ι) (xs.map (evalV t)) (xs.map a.eval)
  | [] => .nil
  | x :: xs => .cons (eval_rv ht x) (evals_rv ht xs)

theorem Fps.nodup (h : Rel Γ F ι S a w) {ks : List (Nat × Nat)} {fs : List Nat} (hf : Fps S w ι ks fs) : ks.Nodup → fs.Nodup := by
  induction hf with
  | nil => exact fun _ => .nil
  | cons id e f ks fs he hl hf hn t ih =>
    intro hnd
    have hn' := List.nodup_cons.1 hnd
    refine List.nodup_append.2 ⟨hn, ih hn'.2, ?_⟩
    intro k hk k' hk' hkk
    subst hkk
    obtain ⟨id', hid', e', he', hl', hb'⟩ := t.mem hk'
    obtain ⟨q1, q2⟩ := h.inj _ _ e _ _ e' k he he' hl hl' (hf k hk) hb'
    exact hn'.1 ((Prod.ext q1 q2 : id = id') ▸ hid')

theorem run_enter {P : Program} {ob : Oper} {fop : Operand} {args : Array Operand} {tys : Array TypeId} {f : Nat} {fn : Func} (ho : ob.op = .call { callee := .value fop, args := args, argTypes := tys }) (hf : a.eval fop = .func (.func f) #[] #[]) (hfun : P.funcs[f]? = some fn)
    (hname : (fn.name == "runtime.NumGoroutine") = false) (hbody : fn.body.isNone = false) : (execOp a.eval ob).run P w = .ok (.enter f (args.map a.eval)) w := by
  simp only [execOp, ho, resolve, hf, Deferred.ofValue, Sem.run_bind, Sem.run_pure, Result.andThen_ok, invoke, callFunc, program, Sem.run, hfun, hname, hbody]
  simp
theorem toArray_map (args : Array Operand) (g : Operand → Value) : (args.toList.map g).toArray = args.map g := by rw [← Array.toList_map, Array.toArray_toList]
set_option maxHeartbeats 1000000 in
theorem callM_run (h : Rel Γ F ι S a w) {grp : Nat} (hg : grp < S.h.length) (hn : ¬ S.D grp) {ob : Oper} {fop : Operand} {args : Array Operand} {tys : Array TypeId} {f : Nat} (ho : ob.op = .call { callee := .value fop, args := args, argTypes := tys }) (hf : evalV S.t fop = .fn f) {A : Ans} {out : Out} {lg : List (Nat × Nat)}
    (hp : callM cx.P grp f (args.toList.map (evalV S.t)) A S.ent = some (out, lg)) (hob : ∀ p ∈ out.obl, p) :
    (execOp a.eval ob).run cx.P w = .ok (.enter f (args.map a.eval)) w ∧ Calls cx.P f (args.map a.eval) w fun e w' => ∃ c F' ι', e = .returned c ∧ Rel Γ F' ι' (S.apply grp ob.dst out) (a.put ob.dst c) w' := by
  have hfn := eval_rv h.tmps fop
  rw [hf] at hfn
  cases A <;> try (cases hp; done)
  rename_i ms fr res outs
  unfold callM at hp
  simp only at hp
  obtain ⟨r, l1, l2, hargs, hp1, hl12⟩ := RdM.bind_some hp
  clear hp
  obtain ⟨fz, l3, l4, hfz, hp2, hl34⟩ := RdM.bind_some hp1
  clear hp1
  cases hous : outsM grp (thawR grp 0 res).2.length ms (args.toList.map (evalV S.t)) outs with
  | none => rw [hous] at hp2; cases hp2
  | some ue =>
  obtain ⟨us, es⟩ := ue
  rw [hous] at hp2
  simp only at hp2
  split at hp2 <;> try (cases hp2; done)
  rename_i hcond
  have := RdM.pure_some hp2
  injection this with h2 h3
  subst h2
  clear hp2
  simp only [Bool.and_eq_true] at hcond
  obtain ⟨⟨⟨hnk, hdis⟩, hnu⟩, husk⟩ := hcond
  have hnk' := nodupB_iff hnk
  have hnu' := nodupB_iff hnu
  have hdis' : ∀ id ∈ r.ls, id ∉ r.ks := by
    intro id hid q
    have := List.all_eq_true.1 hdis id hid
    rw [hasId_iff.2 q] at this
    cases this
  have husk' : ∀ u ∈ us, u.1 ∈ r.ks := fun u hu => hasId_iff.1 (List.all_eq_true.1 husk u hu)
  have hrobl : ∀ p ∈ r.obl, p := fun p hp => hob p (by simp; exact .inr (.inr hp))
  have hac : ACalls cx.P f r.v res outs := hob _ (by simp)
  have hsc : fr = true → ScalR res ∧ ScalO outs := fun q => hob _ (by simp [q])
  obtain ⟨⟨fn, hfun, hname, hbody⟩, hac⟩ := hac
  -- what is read in the call
  let F1 : Nat → Prop := fun k => F k ∨ ∃ id ∈ r.ls, ∃ e, S.ent id.1 id.2 = some e ∧ EB w e (ι id.1 id.2) k
  have hF1 : ∀ k, F k → F1 k := fun k x => .inl x
  have hall := evals_rv h.tmps args.toList
  obtain ⟨fp, hbs, hfps, hhk, hhl⟩ := argsM_run (F1 := F1) h hF1 hall hargs hrobl (fun id hid e k he hk => .inr ⟨id, hid, e, he, hk⟩)
  have hrw := rw_of h hall hargs hrobl
  have hfpn := Fps.nodup h hfps hnk'
  have hfp : ∀ k ∈ fp, ∃ id ∈ r.ks, ∃ e, S.ent id.1 id.2 = some e ∧ e.live = true ∧ EB w e (ι id.1 id.2) k := fun k hk => hfps.mem hk
  have hF1lt : ∀ k, F1 k → k < w.heap.size := by
    rintro k (x | ⟨id, hid, e, he, hb⟩)
    · exact h.F1 k x
    · obtain ⟨e', he', hl'⟩ := hhl id hid
      have : e = e' := by rw [he] at he'; injection he'
      subst this
      exact h.lt he hl' hb
  have hfpF1 : ∀ k ∈ fp, ¬ F1 k ∧ k < w.heap.size := by
    intro k hk
    obtain ⟨id, hid, e, he, hl, hb⟩ := hfp k hk
    refine ⟨?_, h.lt he hl hb⟩
    rintro (x | ⟨id', hid', e0, he0, hb'⟩)
    · exact (h.sep _ _ e k he hl hb).1 x
    · obtain ⟨e', he', hl'⟩ := hhl id' hid'
      have : e0 = e' := by rw [he0] at he'; injection he'
      subst this
      obtain ⟨q1, q2⟩ := h.inj _ _ e _ _ _ k he he' hl hl' hb hb'
      have : id = id' := Prod.ext q1 q2
      exact hdis' id' hid' (this ▸ hid)
  have hrun : (execOp a.eval ob).run cx.P w = .ok (.enter f (args.map a.eval)) w := by
    exact run_enter ho hfn.inv_fn hfun hname hbody
  refine ⟨hrun, ?_⟩
  have hcalls := hac w F1 _ _ hbs hfpn hfpF1 hF1lt
  have hargsEq : (args.toList.map a.eval).toArray = args.map a.eval := toArray_map args a.eval
  rw [hargsEq] at hcalls
  refine hcalls.mono ?_
  rintro e w' ⟨c, F', fr', fo, rfl, hkept, hFF, hF'1, hres, hout, hnod, hblk⟩
  -- the frozen blocks behind the call, and what is given up
  obtain ⟨F2, hF2, hF2', ls, hls, hres2, hout2, hblk2, hfzls, hF2lt, hlsF⟩ : ∃ F2 : Nat → Prop, (∀ k, F k → F2 k) ∧ (∀ k, F2 k → F' k) ∧ ∃ ls : List (Nat × Nat), ls = (if fr then [] else dd r.ls) ∧ BR w' F2 res c fr' ∧ BO w' F2 outs (args.toList.map a.eval) fo ∧ (∀ k ∈ fr' ++ fo, ¬ F2 k) ∧
      (∀ u ∈ fz, (∃ e sz n rows, S.ent u.1.1 u.1.2 = some (.row e sz n rows) ∧ u.2 = .frz sz n rows ∧ ∀ k, blk (ι u.1.1 u.1.2) = some k → F2 k) ∨ u.2 = .dead) ∧ (∀ k, F2 k → k < w'.heap.size) ∧ (∀ k, F2 k → F k ∨ (∃ id ∈ ls, ∃ e, S.ent id.1 id.2 = some e ∧ EB w e (ι id.1 id.2) k) ∨ k ∈ fp ∨ w.heap.size ≤ k) := by
    cases fr with
    | true =>
      refine ⟨F, fun _ x => x, fun k x => hFF k (hF1 k x), [], rfl, hres.scal (hsc rfl).1, hout.scal (hsc rfl).2, fun k hk x => (hblk k hk).1 (hFF k (hF1 k x)), ?_, fun k x => Nat.lt_of_lt_of_le (h.F1 k x) hkept.size, fun k x => .inl x⟩
      have hq : fz = [] := by
        have hf' : frzOf [] S.ent = some (fz, l3) := by simpa using hfz
        have := RdM.pure_some hf'
        injection this
      rw [hq]; simp
    | false =>
      refine ⟨F', fun k x => hFF k (hF1 k x), fun _ x => x, dd r.ls, rfl, hres, hout, fun k hk => (hblk k hk).1, ?_, fun k x => (hF'1 k x).2, ?_⟩
      · have hf' : frzOf (dd r.ls) S.ent = some (fz, l3) := by simpa using hfz
        obtain ⟨e1, e2⟩ := frzOf_run hf'
        intro u hu
        rcases e2 u hu with ⟨e, sz, n, rows, he, hu2⟩ | hu2
        case inr => exact .inr hu2
        refine .inl ⟨e, sz, n, rows, he, hu2, fun k hk => hFF k (.inr ⟨u.1, ?_, _, he, hk⟩)⟩
        have : u.1 ∈ fz.map (·.1) := List.mem_map.2 ⟨u, hu, rfl⟩
        rw [e1] at this
        exact mem_dd.1 this
      · intro k x
        rcases (hF'1 k x).1 with (y | ⟨id, hid, e, he, hb⟩) | y | y
        · exact .inl y
        · exact .inr (.inl ⟨id, mem_dd.2 hid, e, he, hb⟩)
        · exact .inr (.inr (.inl y))
        · exact .inr (.inr (.inr y))
  have hfzids : fz.map (·.1) = ls := by rw [hls]; exact (frzOf_run hfz).1
  have hlsr : ∀ id ∈ ls, id ∈ r.ls := by
    intro id hid
    rw [hls] at hid
    cases fr with
    | true => simp at hid
    | false => exact mem_dd.1 (by simpa using hid)
  have hlsn : ls.Nodup := by
    rw [hls]
    cases fr with
    | true => exact .nil
    | false => exact nodup_dd _
  have hlsk : ∀ id ∈ ls, id ∉ r.ks := fun id hid => hdis' id (hlsr id hid)
  -- all that is handed over or frozen is given up
  have hkall : ∀ id ∈ r.ks ++ ls, ∃ e, S.ent id.1 id.2 = some e := by
    intro id hid
    rcases List.mem_append.1 hid with q | q
    · obtain ⟨e, he, _⟩ := hhk id q
      exact ⟨e, he⟩
    · obtain ⟨e, he, _⟩ := hhl id (hlsr id q)
      exact ⟨_, he⟩
  have hS1 := h.killAll (r.ks ++ ls) hkall
  have hlive1 : ∀ g j e, (S.upds (kills (r.ks ++ ls))).ent g j = some e → e.live = true → (g, j) ∉ r.ks ++ ls ∧ S.ent g j = some e := by
    intro g j e he hl
    rcases kills_ent _ he with ⟨_, rfl⟩ | q
    · cases hl
    · exact q
  have hfpfree : ∀ k ∈ fp, ∀ g j e, (S.upds (kills (r.ks ++ ls))).ent g j = some e → e.live = true → ¬ EB w e (ι g j) k := by
    intro k hk g j e he hl hb
    obtain ⟨q1, q2⟩ := hlive1 g j e he hl
    obtain ⟨id, hid, e', he', hl', hb'⟩ := hfp k hk
    obtain ⟨z1, z2⟩ := h.inj _ _ e _ _ e' k q2 he' hl hl' hb hb'
    exact q1 (List.mem_append.2 (.inl (by rw [show (g, j) = id from Prod.ext z1 z2]; exact hid)))
  have hS2 := hS1.world3 hkept (fun k hk => by
    obtain ⟨id, hid, e', he', hl', hb'⟩ := hfp k hk
    obtain ⟨z1, z2⟩ := h.sep _ _ e' k he' hl' hb'
    exact ⟨z1, z2, hfpfree k hk⟩)
  have hback : ∀ g j e, (S.upds (kills (r.ks ++ ls))).ent g j = some e → e.live = true → ∀ k, EB w' e (ι g j) k → EB w e (ι g j) k := by
    intro g j e he hl k hk
    exact (hS1.ents g j e he).back (fun k hk => hkept.block k (hS1.lt he hl hk) fun z => hfpfree k z g j e he hl hk) hk
  have hS3 := hS2.grow (F' := F2) hF2 hF2lt (fun k x => by
      rcases hlsF k x with y | ⟨id, hid, e, he, hb⟩ | y | y
      · exact h.F2 k y
      · obtain ⟨e', he', hl'⟩ := hhl id (hlsr id hid)
        have : e = e' := by rw [he] at he'; injection he'
        subst this
        exact .inr (h.sep _ _ _ k he hl' hb).2
      · obtain ⟨id, hid, e', he', hl', hb'⟩ := hfp k y
        exact .inr (h.sep _ _ e' k he' hl' hb').2
      · exact .inr (.inr (Nat.le_trans h.kept.size y)))
    (fun g j e k he hl hb0 x => by
      have hb := hback g j e he hl k hb0
      obtain ⟨q1, q2⟩ := hlive1 g j e he hl
      rcases hlsF k x with y | ⟨id, hid, e', he', hb'⟩ | y | y
      · exact (h.sep g j e k q2 hl hb).1 y
      · obtain ⟨e2, he2, hl2⟩ := hhl id (hlsr id hid)
        have : e' = e2 := by rw [he'] at he2; injection he2
        subst this
        obtain ⟨z1, z2⟩ := h.inj _ _ e _ _ _ k q2 he' hl hl2 hb hb'
        exact q1 (List.mem_append.2 (.inr (by rw [show (g, j) = id from Prod.ext z1 z2]; exact hid)))
      · exact hfpfree k y g j e he hl hb
      · have := h.lt q2 hl hb
        omega)
  -- the result, and what was written, are laid
  obtain ⟨b1, hb1l, hb1f, hb1⟩ := thawR_run (grp := grp) hres2 0
  obtain ⟨b2, fu, fb, hb2l, hb2p, hb2u, hb2b, hb2d, hb2⟩ := outsM_run hall (w' := w') (F' := F2) (grp := grp) (j := (thawR grp 0 res).2.length) hrw hout2 hous
  obtain ⟨ι', hι'⟩ : ∃ ι', ι' = listAt ι grp (b1 ++ b2) := ⟨_, rfl⟩
  have hι'ne : ∀ g j, g ≠ grp → ι' g j = ι g j := fun g j q => by rw [hι']; exact listAt_ne q
  have hat : At ι' grp 0 (b1 ++ b2) := by
    intro k b hb
    rw [hι', Nat.zero_add]
    exact listAt_get hb
  have hlenS : grp < (S.upds (kills (r.ks ++ ls))).h.length := by rw [St.upds_len]; exact hg
  have hnD : ¬ (S.upds (kills (r.ks ++ ls))).D grp := fun q => hn ((upds_D S grp _).1 q)
  have hDg := lay_D_self (S := S.upds (kills (r.ks ++ ls))) (new := (thawR grp 0 res).2 ++ es) hlenS
  have hperm : (fr' ++ fo).Perm (fr' ++ (fu ++ fb)) := List.Perm.append_left _ hb2p
  have hnod' := hperm.nodup_iff.1 hnod
  have hnodA := List.nodup_append.1 hnod
  obtain ⟨hrv, hlie1⟩ := hb1 ((S.upds (kills (r.ks ++ ls))).lay grp ((thawR grp 0 res).2 ++ es)).D ι' hDg hat.left hnodA.1
  obtain ⟨hlie2, hre2⟩ := hb2 ((S.upds (kills (r.ks ++ ls))).lay grp ((thawR grp 0 res).2 ++ es)).D ι' hDg (by have := hat.right; rw [Nat.zero_add, hb1l] at this; exact this) hnodA.2.1
  have hlie := hlie1.append hlie2 hb1l.symm
  have hlenb : (b1 ++ b2).length = ((thawR grp 0 res).2 ++ es).length := by simp [hb1l, hb2l]
  have hblk' : ∀ k, k ∈ fr' ∨ k ∈ fu ∨ k ∈ fb → ¬ F2 k ∧ (k ∈ fp ∨ w.heap.size ≤ k) := by
    intro k hk
    have hm : k ∈ fr' ++ fo := hperm.mem_iff.2 (by simp only [List.mem_append]; rcases hk with q | q | q <;> simp [q])
    exact ⟨hblk2 k hm, (hblk k hm).2.1⟩
  have hsepk : ∀ k, (k ∈ fp ∨ w.heap.size ≤ k) → Γ.own k ∨ Γ.w0.heap.size ≤ k := by
    rintro k (q | q)
    · obtain ⟨id, hid, e', he', hl', hb'⟩ := hfp k q
      exact (h.sep _ _ e' k he' hl' hb').2
    · exact .inr (Nat.le_trans h.kept.size q)
  have hfreek : ∀ k, (k ∈ fp ∨ w.heap.size ≤ k) → ∀ g j e, (S.upds (kills (r.ks ++ ls))).ent g j = some e → e.live = true → ¬ EB w' e (ι g j) k := by
    rintro k hkk g j e he hl hb0
    have hb := hback g j e he hl k hb0
    rcases hkk with q | q
    · exact hfpfree k q g j e he hl hb
    · obtain ⟨_, q2⟩ := hlive1 g j e he hl
      have := h.lt q2 hl hb
      omega
  have hHas : Has w' ((thawR grp 0 res).2 ++ es) (b1 ++ b2) (fr' ++ fb) := hb1f.append hb2b hb1l
  have hnodb : (fr' ++ fb).Nodup := List.Nodup.sublist (List.Sublist.append_left (List.sublist_append_right _ _) _) hnod'
  have hvb : ∀ (j : Nat) (e : Ent), ((thawR grp 0 res).2 ++ es)[j]? = some e → (b1 ++ b2)[j]? = some (ι' grp j) := by
    intro j e he
    have hj : j < (b1 ++ b2).length := by rw [hlenb]; exact (List.getElem?_eq_some_iff.1 he).1
    have hv : ι' grp j = (b1 ++ b2)[j] := by rw [hι']; exact listAt_get (List.getElem?_eq_getElem hj)
    rw [hv]
    exact List.getElem?_eq_getElem hj
  have hmemb : ∀ (j : Nat) (e : Ent) (k : Nat), ((thawR grp 0 res).2 ++ es)[j]? = some e → EB w' e (ι' grp j) k → k ∈ fr' ∨ k ∈ fb :=
    fun j e k he hk => List.mem_append.1 (hHas.mem he (hvb j e he) hk)
  have hS4 := hS3.lay (grp := grp) hlenS hnD (new := (thawR grp 0 res).2 ++ es) (ι' := ι') hι'ne
    (fun j e he => hlie j e _ he (hvb j e he))
    (fun j e k he hl hk => by
      have := hblk' k ((hmemb j e k he hk).imp id .inr)
      exact ⟨this.1, hsepk k this.2⟩)
    (fun j e j' e' k he he' hl hl' hk hk' => hHas.inj hnodb he (hvb j e he) hk he' (hvb j' e' he') hk')
    (fun j e g' j' e' k he he' hl hl' hk hk' => by
      have := hblk' k ((hmemb j e k he hk).imp id .inr)
      exact hfreek k this.2 g' j' e' he' hl' hk')
  have hgne : ∀ id ∈ r.ks ++ ls, id.1 ≠ grp := by
    intro id hid q
    obtain ⟨e, he⟩ := hkall id hid
    exact hn (q ▸ St.D_of_ent he)
  have huids : ∀ u ∈ fz ++ us, u.1 ∈ r.ks ++ ls := by
    intro u hu
    rcases List.mem_append.1 hu with q | q
    · exact List.mem_append.2 (.inr (hfzids ▸ List.mem_map.2 ⟨u, q, rfl⟩))
    · exact List.mem_append.2 (.inl (husk' u q))
  have hugne : ∀ u ∈ fz ++ us, u.1.1 ≠ grp := fun u hu => hgne _ (huids u hu)
  have hlay := upds_lay (grp := grp) (new := (thawR grp 0 res).2 ++ es) (fz ++ us) (S.upds (kills (r.ks ++ ls))) hugne
  have hS5 := hS4.reviveAll (fz ++ us) (by
      rw [List.map_append, hfzids]
      refine List.nodup_append.2 ⟨hlsn, hnu', ?_⟩
      intro x hx y hy hxy
      subst hxy
      obtain ⟨u, hu, rfl⟩ := List.mem_map.1 hy
      exact hlsk _ hx (husk' u hu))
    (fun u hu => by
      rw [lay_ent_ne (hugne u hu)]
      exact kills_dead (huids u hu) (hkall _ (huids u hu)))
    (fun u hu => by
      rw [hι'ne _ _ (hugne u hu)]
      rcases List.mem_append.1 hu with q | q
      · rcases hfzls u q with ⟨e, sz, n, rows, he, hu2, hb⟩ | hu2
        case inr => rw [hu2]; trivial
        rw [hu2]
        have hfv := OR.fv (F1 := fun k => F k ∨ blk (ι u.1.1 u.1.2) = some k) (fun k x => .inl x) (fun k x => .inr x) (h.ents _ _ _ he)
        have hs : Same w w' fun k => F k ∨ blk (ι u.1.1 u.1.2) = some k := same_of_heap fun k hk => by
          have hF1k : F1 k := by
            rcases hk with x | x
            · exact .inl x
            · exact .inr ⟨u.1, hlsr _ (hfzids ▸ List.mem_map.2 ⟨u, q, rfl⟩), _, he, x⟩
          exact hkept.block k (hF1lt k hF1k) fun z => (hfpF1 k z).1 hF1k
        exact hfv.mono hs fun k x => x.elim (hF2 k) (hb k)
      · exact hre2 u q)
    (fun u hu hl k hk => by
      rw [hι'ne _ _ (hugne u hu)] at hk
      rcases List.mem_append.1 hu with q | q
      · rcases hfzls u q with ⟨e, sz, n, rows, he, hu2, hb⟩ | hu2 <;> (rw [hu2] at hl; cases hl)
      · obtain ⟨i, hi⟩ := List.getElem?_of_mem q
        have hkm : k ∈ fu := hb2u.mem (i := i) (by rw [List.getElem?_map, hi]; rfl) (by rw [List.getElem?_map, hi]; rfl) hk
        have hb := hblk' k (.inr (.inl hkm))
        refine ⟨⟨hb.1, hsepk k hb.2⟩, ?_⟩
        intro g' j' e he hle hk'
        by_cases qg : g' = grp
        · subst qg
          rw [lay_ent_eq hlenS] at he
          have hdj := List.nodup_append.1 hnod'
          have hdj2 := List.nodup_append.1 hdj.2.1
          rcases hmemb j' e k he hk' with z | z
          · exact hdj.2.2 k z k (List.mem_append.2 (.inl hkm)) rfl
          · exact hdj2.2.2 k hkm k z rfl
        · rw [lay_ent_ne qg] at he
          rw [hι'ne _ _ qg] at hk'
          exact hfreek k hb.2 g' j' e he hle hk')
    (fun u hu v hv k hl hl' hk hk' => by
      rw [hι'ne _ _ (hugne u hu)] at hk
      rw [hι'ne _ _ (hugne v hv)] at hk'
      have usof : ∀ x ∈ fz ++ us, x.2.live = true → x ∈ us := by
        intro x hx hxl
        rcases List.mem_append.1 hx with q | q
        · rcases hfzls x q with ⟨e, sz, n, rows, he, hu2, hb⟩ | hu2 <;> (rw [hu2] at hxl; cases hxl)
        · exact q
      obtain ⟨i, hi⟩ := List.getElem?_of_mem (usof u hu hl)
      obtain ⟨i', hi'⟩ := List.getElem?_of_mem (usof v hv hl')
      have hnu2 : fu.Nodup := (List.nodup_append.1 (List.nodup_append.1 hnod').2.1).1
      have := hb2u.inj hnu2 (i := i) (j := i') (by rw [List.getElem?_map, hi]; rfl) (by rw [List.getElem?_map, hi]; rfl) hk (by rw [List.getElem?_map, hi']; rfl) (by rw [List.getElem?_map, hi']; rfl) hk'
      subst this
      rw [hi] at hi'
      injection hi' with hi'
      rw [hi'])
  refine ⟨c, F2, ι', rfl, ?_⟩
  have hrv' : RV w' F2 (((S.upds (kills (r.ks ++ ls))).lay grp ((thawR grp 0 res).2 ++ es)).upds (fz ++ us)).D ι' (thawR grp 0 res).1 c :=
    hrv.mono (fun _ _ _ => rfl) (fun _ x => x) (fun k x => (upds_D _ k _).2 x) (fun _ _ _ => rfl)
  have hput := hS5.put ob.dst hrv'
  rw [← hlay] at hput
  have happ : S.apply grp ob.dst { v := (thawR grp 0 res).1, new := some ((thawR grp 0 res).2 ++ es), upd := kills (r.ks ++ if fr = true then [] else dd r.ls) ++ (fz ++ us), obl := ACalls cx.P f r.v res outs :: (if fr = true then [ScalR res ∧ ScalO outs] else []) ++ r.obl } = { ((S.upds (kills (r.ks ++ ls))).upds (fz ++ us)).lay grp ((thawR grp 0 res).2 ++ es) with t := setT (((S.upds (kills (r.ks ++ ls))).upds (fz ++ us)).lay grp ((thawR grp 0 res).2 ++ es)).t ob.dst (thawR grp 0 res).1 } := by
    simp only [St.apply, St.upds_append, hls]
  rw [happ]
  exact hput

end

end Go.Proofs.Ythegkbaijmkhfaa
