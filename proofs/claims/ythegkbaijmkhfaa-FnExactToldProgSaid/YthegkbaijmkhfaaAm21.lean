/- One operation, and a row of them. -/
import Derived.Test.YthegkbaijmkhfaaAm20E
set_option linter.unusedVariables false
set_option linter.unusedSimpArgs false
namespace Go.Proofs.Ythegkbaijmkhfaa
open Go

/-- What is told of an operation: its answer; how its test comes out; its value and the entry that it lays or writes, in other words. -/
structure Tell where
  a : Ans := .none
  d : Option Bool := none
  v : Option V := none
  e : Option Ent := none

def tellD (d : Option Bool) (o : Out) : Option Out :=
  match d with
  | some d => match o.v with
    | .b x => some { o with v := .b d, obl := (x = d) :: o.obl }
    | _ => none
  | none => some o
def tellV (v : Option V) (o : Out) : Option Out :=
  match v with
  | some v => some { o with v := v, obl := (o.v = v) :: o.obl }
  | none => some o
def restU (e : Ent) : List ((Nat × Nat) × Ent) → Option (List ((Nat × Nat) × Ent) × Prop)
  | [] => none
  | [u] => some ([(u.1, e)], u.2 = e)
  | u :: us => match restU e us with
    | some (us', p) => some (u :: us', p)
    | none => none
def tellE (e : Option Ent) (o : Out) : Option Out :=
  match e with
  | some e => match o.new with
    | some [e0] => some { o with new := some [e], obl := (e0 = e) :: o.obl }
    | some _ => none
    | none => match restU e o.upd with
      | some (us, p) => some { o with upd := us, obl := p :: o.obl }
      | none => none
  | none => some o
def decide1 (T : Tell) (o : Out) : Option Out :=
  match tellE T.e o with
  | some o1 => match tellV T.v o1 with
    | some o2 => tellD T.d o2
    | none => none
  | none => none

def opM (cx : Cx) (grp : Nat) (ob : Oper) (t : List V) (A : Ans) : RdM Out :=
  match ob.op with
  | .alloc e => RdM.lift (allocM cx grp e)
  | .box e x => RdM.lift (boxM cx grp e (evalV t x))
  | .buildSlice ty len parts => match A with
    | .dck ck om => dbuildM cx grp ty len (parts.toList.map fun (i, x) => (i, evalV t x)) ck om
    | A => buildSliceM cx grp ty len (parts.toList.map fun (i, x) => (i, evalV t x)) A
  | .makeSlice ty l c => match A with
    | .dck ck om => dmakeM cx grp ty (evalV t l) (evalV t c) ck om
    | A => RdM.lift (makeSliceM cx grp ty (evalV t l) (evalV t c) (ckOf A))
  | .load ty x => match A with
    | .drow r => dloadM cx grp ty (evalV t x) r
    | .prow r => dreadM cx ty (evalV t x) r
    | .dtak r => dtakM cx grp ty (evalV t x) r
    | A => loadM cx ty (evalV t x) A
  | .store ty x y => match ob.dst with
    | none => match A with
      | .dst r ck om => dstoreM cx ty (evalV t x) (evalV t y) r ck om
      | .dsc r ck om => dcloseM cx ty (evalV t x) (evalV t y) r ck om
      | A => storeM cx ty (evalV t x) (evalV t y) A
    | some _ => RdM.no
  | .makeMap ty none => RdM.lift (mkMapM cx grp ty)
  | .lookup ty x ix false => lookM cx ty (evalV t x) (evalV t ix)
  | .mapUpdate ty x ix y => match ob.dst with
    | none => mputM cx ty (evalV t x) (evalV t ix) (evalV t y)
    | some _ => RdM.no
  | .call c => match c.callee, c.args.toList, c.argTypes.toList with
    | .builtin .append, [s, x], [ty, ty'] => if ty = ty' then (match A with
      | .dck _ _ => dappM cx grp ty (evalV t s) (evalV t x)
      | _ => appendM cx grp ty (evalV t s) (evalV t x)) else RdM.no
    | .builtin .copy, [s, x], [ty, _] => copyM cx ty (evalV t s) (evalV t x)
    | .value fop, args, _ => match evalV t fop with
      | .fn f => callM cx.P grp f (args.map (evalV t)) A
      | _ => RdM.no
    | _, _, _ => RdM.lift ((pureOp cx ob.op t A).map fun q => { v := q.1, obl := q.2 })
  | _ => RdM.lift ((pureOp cx ob.op t A).map fun q => { v := q.1, obl := q.2 })

section
variable {cx : Cx} {Γ : Ctx} {F : Nat → Prop} {ι : Nat → Nat → Value} {S : St} {a : Act} {w : World}

/-- How the model goes on from an operation. -/
def Goes (P : Program) (Γ : Ctx) (S' : St) (ob : Oper) (a : Act) (w : World) : Prop :=
  (∃ nx c w' F' ι', (execOp a.eval ob).run P w = .ok nx w' ∧ (nx = .value c ∨ (nx = .skip ∧ c = undef)) ∧ Rel Γ F' ι' S' (a.put ob.dst c) w') ∨
  (∃ f args, (execOp a.eval ob).run P w = .ok (.enter f args) w ∧ Calls P f args w fun e w' => ∃ c F' ι', e = .returned c ∧ Rel Γ F' ι' S' (a.put ob.dst c) w')

theorem opM_run (h : Rel Γ F ι S a w) {grp : Nat} (hg : grp < S.h.length) (hn : ¬ S.D grp) {ob : Oper} {A : Ans} {out : Out} {lg : List (Nat × Nat)} (hp : opM cx grp ob S.t A S.ent = some (out, lg)) (hob : ∀ p ∈ out.obl, p) : Goes cx.P Γ (S.apply grp ob.dst out) ob a w := by
  have pure : ∀ {op : Op} {out : Out} {lg}, ob.op = op → RdM.lift ((pureOp cx op S.t A).map fun q => ({ v := q.1, obl := q.2 } : Out)) S.ent = some (out, lg) → (∀ p ∈ out.obl, p) → Goes cx.P Γ (S.apply grp ob.dst out) ob a w := by
    intro op out lg hop hp hob
    subst hop
    obtain ⟨h1, _⟩ := RdM.lift_some hp
    obtain ⟨q, hq, he⟩ := Option.map_eq_some_iff.1 h1
    simp only at he
    subst he
    obtain ⟨c, hr, hv⟩ := pureOp_run h.tmps hq hob
    exact .inl ⟨_, c, w, F, ι, hr, .inl rfl, by rw [apply_plain]; exact h.put ob.dst hv⟩
  unfold opM at hp
  cases ho : ob.op
  case alloc e =>
    rw [ho] at hp
    exact .inl (allocM_run h hg hn ho (RdM.lift_some hp).1 hob)
  case box e x =>
    rw [ho] at hp
    exact .inl (boxM_run h hg hn ho (RdM.lift_some hp).1)
  case buildSlice ty len parts =>
    rw [ho] at hp
    cases A
    case dck ck om => exact .inl (dbuildM_run h hg hn ho hp hob)
    all_goals exact .inl (buildSliceM_run h hg hn ho hp hob)
  case makeSlice ty l c =>
    rw [ho] at hp
    cases A
    case dck ck om => exact .inl (dmakeM_run h hg hn ho hp hob)
    all_goals exact .inl (makeSliceM_run h hg hn ho (RdM.lift_some hp).1 hob)
  case load ty x =>
    rw [ho] at hp
    cases A
    case drow r => exact .inl (dloadM_run h hg hn ho hp hob)
    case prow r => exact .inl (dreadM_run h ho hp hob)
    case dtak r => exact .inl (dtakM_run h hg hn ho hp hob)
    all_goals exact .inl (loadM_run h ho hp hob)
  case store ty x y =>
    rw [ho] at hp
    cases hd : ob.dst with
    | some d => rw [hd] at hp; cases hp
    | none =>
      rw [hd] at hp
      have : Done cx.P Γ ι S grp ob out a w := by
        cases A
        case dst r ck om => exact dstoreM_run h (grp := grp) ho hd hp hob
        case dsc r ck om => exact dcloseM_run h (grp := grp) ho hd hp hob
        all_goals exact storeM_run h (grp := grp) ho hd hp hob
      rw [← hd]
      exact .inl this
  case makeMap ty r =>
    rw [ho] at hp
    cases r with
    | none => exact .inl (mkMapM_run h hg hn ho (RdM.lift_some hp).1)
    | some r => exact pure ho hp hob
  case lookup ty x ix ok =>
    rw [ho] at hp
    cases ok with
    | false => exact .inl (lookM_run h ho hp)
    | true => exact pure ho hp hob
  case mapUpdate ty x ix y =>
    rw [ho] at hp
    cases hd : ob.dst with
    | some d => rw [hd] at hp; cases hp
    | none =>
      rw [hd] at hp
      have : Done cx.P Γ ι S grp ob out a w := mputM_run h (grp := grp) ho hd hp
      rw [← hd]
      exact .inl this
  case call c =>
    rw [ho] at hp
    obtain ⟨callee, args, tys⟩ := c
    simp only at hp
    cases callee with
    | invoke x m => exact pure ho hp hob
    | value fop =>
      simp only at hp
      generalize hfe : evalV S.t fop = fv at hp
      cases fv <;> try (cases hp; done)
      rename_i f
      obtain ⟨h1, h2⟩ := callM_run h hg hn ho hfe hp hob
      exact .inr ⟨f, _, h1, h2⟩
    | builtin b =>
      cases b
      case append =>
        generalize hargs : args.toList = al at hp
        generalize htys : tys.toList = tl at hp
        rcases al with _ | ⟨s, _ | ⟨x, _ | ⟨y, al⟩⟩⟩ <;> rcases tl with _ | ⟨ty, _ | ⟨ty', _ | ⟨ty3, tl⟩⟩⟩ <;> try exact pure ho hp hob
        have ha : args = #[s, x] := by simpa using congrArg List.toArray hargs
        have hy : tys = #[ty, ty'] := by simpa using congrArg List.toArray htys
        subst ha; subst hy
        simp only at hp
        by_cases q : ty = ty'
        · subst q
          rw [if_pos rfl] at hp
          cases A
          case dck ck om => exact .inl (dappM_run h hg hn ho hp hob)
          all_goals exact .inl (appendM_run (rt := 0) h hg hn ho hp hob)
        · rw [if_neg q] at hp
          cases hp
      case copy =>
        generalize hargs : args.toList = al at hp
        generalize htys : tys.toList = tl at hp
        rcases al with _ | ⟨s, _ | ⟨x, _ | ⟨y, al⟩⟩⟩ <;> rcases tl with _ | ⟨ty, _ | ⟨ty', _ | ⟨ty3, tl⟩⟩⟩ <;> try exact pure ho hp hob
        have ha : args = #[s, x] := by simpa using congrArg List.toArray hargs
        have hy : tys = #[ty, ty'] := by simpa using congrArg List.toArray htys
        subst ha; subst hy
        exact .inl (copyM_run h ho hp hob)
      all_goals exact pure ho hp hob
  all_goals
    rw [ho] at hp
    exact pure ho hp hob

theorem restU_spec {e : Ent} : ∀ {us us' : List ((Nat × Nat) × Ent)} {p : Prop}, restU e us = some (us', p) → p → us' = us
  | [], _, _, h, _ => by cases h
  | [u], us', p, h, hp => by
    unfold restU at h
    injection h with h
    injection h with h1 h2
    subst h1; subst h2
    have : u.2 = e := hp
    subst this
    rfl
  | u :: u2 :: us, us', p, h, hp => by
    unfold restU at h
    split at h <;> try (cases h; done)
    rename_i us1 p1 h1
    injection h with h
    injection h with h2 h3
    subst h2; subst h3
    rw [restU_spec h1 hp]

theorem tellD_run {d : Option Bool} {o o' : Out} (hd : tellD d o = some o') (hob : ∀ p ∈ o'.obl, p) : (∀ p ∈ o.obl, p) ∧ o'.new = o.new ∧ o'.upd = o.upd ∧ o'.v = o.v := by
  unfold tellD at hd
  split at hd
  · split at hd <;> try (cases hd; done)
    rename_i d _ x hv
    injection hd with hd
    subst hd
    have hx : x = d := hob _ (by simp)
    exact ⟨fun p hp => hob p (by simp [hp]), rfl, rfl, by simp [hv, hx]⟩
  · injection hd with hd
    subst hd
    exact ⟨hob, rfl, rfl, rfl⟩
theorem tellV_run {v : Option V} {o o' : Out} (hd : tellV v o = some o') (hob : ∀ p ∈ o'.obl, p) : (∀ p ∈ o.obl, p) ∧ o'.new = o.new ∧ o'.upd = o.upd ∧ o'.v = o.v := by
  unfold tellV at hd
  split at hd
  · rename_i v
    injection hd with hd
    subst hd
    have hx : o.v = v := hob _ (by simp)
    exact ⟨fun p hp => hob p (by simp [hp]), rfl, rfl, hx.symm⟩
  · injection hd with hd
    subst hd
    exact ⟨hob, rfl, rfl, rfl⟩
theorem tellE_run {e : Option Ent} {o o' : Out} (hd : tellE e o = some o') (hob : ∀ p ∈ o'.obl, p) : (∀ p ∈ o.obl, p) ∧ o'.new = o.new ∧ o'.upd = o.upd ∧ o'.v = o.v := by
  unfold tellE at hd
  split at hd
  · rename_i e
    split at hd
    · rename_i e0 hn
      injection hd with hd
      subst hd
      have hx : e0 = e := hob _ (by simp)
      exact ⟨fun p hp => hob p (by simp [hp]), by rw [hn, hx], rfl, rfl⟩
    · cases hd
    · split at hd <;> try (cases hd; done)
      rename_i us p h1
      injection hd with hd
      subst hd
      have hx : p := hob _ (by simp)
      exact ⟨fun p hp => hob p (by simp [hp]), rfl, restU_spec h1 hx, rfl⟩
  · injection hd with hd
    subst hd
    exact ⟨hob, rfl, rfl, rfl⟩
theorem decide1_run {T : Tell} {o o' : Out} (hd : decide1 T o = some o') (hob : ∀ p ∈ o'.obl, p) : (∀ p ∈ o.obl, p) ∧ o'.new = o.new ∧ o'.upd = o.upd ∧ o'.v = o.v := by
  unfold decide1 at hd
  cases h1 : tellE T.e o with
  | none => rw [h1] at hd; cases hd
  | some o1 =>
  rw [h1] at hd
  simp only at hd
  cases h2 : tellV T.v o1 with
  | none => rw [h2] at hd; cases hd
  | some o2 =>
  rw [h2] at hd
  obtain ⟨a1, a2, a3, a4⟩ := tellD_run hd hob
  obtain ⟨b1, b2, b3, b4⟩ := tellV_run h2 a1
  obtain ⟨c1, c2, c3, c4⟩ := tellE_run h1 b1
  exact ⟨c1, a2.trans (b2.trans c2), a3.trans (b3.trans c3), a4.trans (b4.trans c4)⟩

def stepOp (cx : Cx) (grp : Nat) (ob : Oper) (t : List V) (A : Tell) : RdM Out := RdM.bind (opM cx grp ob t A.a) fun o => RdM.lift (decide1 A o)

theorem apply_eq {S : St} {grp : Nat} {dst : Option Nat} {o o' : Out} (h1 : o'.new = o.new) (h2 : o'.upd = o.upd) (h3 : o'.v = o.v) : S.apply grp dst o' = S.apply grp dst o := by
  unfold St.apply
  rw [h1, h2, h3]

theorem stepOp_run (h : Rel Γ F ι S a w) {grp : Nat} (hg : grp < S.h.length) (hn : ¬ S.D grp) {ob : Oper} {A : Tell} {out : Out} {lg : List (Nat × Nat)} (hp : stepOp cx grp ob S.t A S.ent = some (out, lg)) (hob : ∀ p ∈ out.obl, p) : Goes cx.P Γ (S.apply grp ob.dst out) ob a w := by
  obtain ⟨o, l1, l2, h1, h2, _⟩ := RdM.bind_some hp
  obtain ⟨h3, _⟩ := RdM.lift_some h2
  simp only at h3
  obtain ⟨h4, h5, h6, h7⟩ := decide1_run h3 hob
  rw [apply_eq h5 h6 h7]
  exact opM_run h hg hn h1 h4

/-! ### Guards -/
/-- Is a guarded operation wanted? Where that is told. -/
def wantV (ops : Array Oper) (o : Oper) (t : List V) : Option Bool :=
  match o.guard with
  | none => some true
  | some (j, want) => match (ops[j]?).bind (·.dst) with
    | some d => match t[d]? with
      | some (.b x) => some (x == want)
      | some (.tup []) => some false
      | _ => none
    | none => none

theorem wantV_run {ops : Array Oper} {o : Oper} {b : Bool} {D : Nat → Prop} {t : List V} (ht : All2 (RV w F D ι) t a.tmps.toList) (h : wantV ops o t = some b) : Region.wanted o (yielded ops a.tmps) = b := by
  unfold wantV at h
  unfold Region.wanted
  split at h
  · rename_i hg
    rw [hg]
    injection h
  · rename_i j want hg
    rw [hg]
    simp only
    cases hd : (ops[j]?).bind (·.dst) with
    | none => rw [hd] at h; cases h
    | some d =>
      rw [hd] at h
      simp only at h
      split at h <;> try (cases h; done)
      rename_i x hx
      injection h with h
      obtain ⟨c, hc, hv⟩ := ht.get hx
      obtain rfl := hv.inv_b
      have : yielded ops a.tmps j = some x := by
        unfold yielded
        simp only [hd]
        rw [Array.getElem?_toList] at hc
        simp [hc]
      rw [this, ← h]
      cases x <;> cases want <;> rfl
      · rename_i hx
        injection h with h
        obtain ⟨c, hc, hv⟩ := ht.get hx
        have hcc : c = undef := by
          cases hv with
          | one v c hv => cases hv with | cell v c hv => cases hv with | fv v c hv => cases hv
          | tup cs ds hv => cases hv; rfl
        subst hcc
        have : yielded ops a.tmps j = none := by
          unfold yielded
          simp only [hd]
          rw [Array.getElem?_toList] at hc
          simp [hc, undef]
        rw [this, ← h]
        rfl
end

end Go.Proofs.Ythegkbaijmkhfaa
