/- A state told otherwise: less of it, other names, a nil that is a row of its own. -/
import Derived.Test.YthegkbaijmkhfaaAm28
set_option linter.unusedVariables false
set_option linter.unusedSimpArgs false
namespace Go.Proofs.Ythegkbaijmkhfaa
open Go

inductive Loc where
  | tmp (t : Nat)
  | sub (t i : Nat)
  | cell (g j i : Nat)

def St.get (S : St) : Loc → Option V
  | .tmp t => S.t[t]?
  | .sub t i => match S.t[t]? with
    | some (.agg cs) => cs[i]?
    | _ => none
  | .cell g j i => match S.ent g j with
    | some (.var _ cs) => cs[i]?
    | _ => none
def St.put (S : St) (l : Loc) (v : V) : St :=
  match l with
  | .tmp t => { S with t := S.t.set t v }
  | .sub t i => match S.t[t]? with
    | some (.agg cs) => { S with t := S.t.set t (.agg (cs.set i v)) }
    | _ => S
  | .cell g j i => match S.ent g j with
    | some (.var e cs) => S.setE g j (.var e (cs.set i v))
    | _ => S

/-- A nil that becomes a row of its own; a value that never changes again; a value or an entry told in other words; an entry given up. -/
inductive Fix where
  | own (l : Loc) (e sz : Nat)
  | frz (l : Loc) (ck : Option Nat)
  | is (l : Loc) (v : V)
  | ent (g j : Nat) (e : Ent)
  | plug (g j idx off : Nat) (r : List V) (e : Nat)
  | shut (g j n : Nat) (rows : List (List V))

def V.isCell : V → Bool
  | .agg _ | .tup _ | .bot => false
  | _ => true

def fixM (f : Fix) (S : St) : Option (St × List Prop) :=
  match f with
  | .own l e sz => match S.get l with
    | some .nil => some (((S.more 1).lay S.h.length [.row e sz 0 []]).put l (.own S.h.length 0 sz 0 0), [])
    | _ => none
  | .frz l ck => match S.get l with
    | some v => if v.isCell then match fzP ck v S.ent with
      | some ((v', us, ps), _) => some ((S.upds us).put l v', ps)
      | none => none else none
    | none => none
  | .is l v' => match S.get l with
    | some v => if v.isCell then some (S.put l v', [v = v']) else none
    | none => none
  | .ent g j e' => match S.ent g j with
    | some e => some (S.setE g j e', [e = e'])
    | none => none
  | .plug g j idx off r e => match S.ent g j, r[off]? with
    | some (.deep o t sz n rows), some (.own g' j' sz' lo n') => match cellM none (some e) (.own g' j' sz' lo n') S.ent with
      | some (f, _) => if off + 1 ≤ sz ∧ nodupB f.ks ∧ hasId f.ks (g, j) = false then some (S.upds (kills f.ks ++ [((g, j), .deep o t sz n (rows.set idx (spliceV r off [f.v])))]), (rows[idx]? = some r) :: f.obl) else none
      | none => none
    | _, _ => none
  | .shut g j n' rows' => match S.ent g j with
    | some (.deep o t sz n rows) => some (S.setE g j (.deep false t sz n' rows'), [rows = rows', NoRef rows', n = n'])
    | _ => none
def fixAll : List Fix → St → Option (St × List Prop)
  | [], S => some (S, [])
  | f :: fs, S => match fixM f S with
    | some (S1, ps) => match fixAll fs S1 with
      | some (S2, qs) => some (S2, ps ++ qs)
      | none => none
    | none => none

section
variable {cx : Cx} {Γ : Ctx} {F : Nat → Prop} {ι : Nat → Nat → Value} {S S' : St} {a : Act} {w : World}

theorem RV.isCell {D : Nat → Prop} {v : V} {c : Value} (h : RV w F D ι v c) (hv : v.isCell = true) : RC w F D ι v c := by
  cases h with
  | one v c h =>
    cases h with
    | cell v c h => exact h
    | agg cs ds h => cases hv
  | tup cs ds h => cases hv
  | any c => cases hv

theorem Rel.withT (h : Rel Γ F ι S a w) {t : List V} (ht : All2 (RV w F S.D ι) t a.tmps.toList) : Rel Γ F ι { S with t := t } a w :=
  { F0 := h.F0, F1 := h.F1, F2 := h.F2, kept := h.kept, tmps := ht, ents := h.ents, sep := h.sep, inj := h.inj, defers := h.defers, pins := h.pins }

theorem All2.set_left {α β : Type} {R : α → β → Prop} {as : List α} {bs : List β} (h : All2 R as bs) {i : Nat} {x y : α} (hx : as[i]? = some x) (hy : ∀ b, R x b → R y b) : All2 R (as.set i y) bs := by
  obtain ⟨b, hb, hr⟩ := h.get hx
  have := h.set i (hy b hr)
  rwa [set_same hb] at this

theorem Rel.putL (h : Rel Γ F ι S a w) {l : Loc} {v v' : V} (hg : S.get l = some v) (hc : v.isCell = true) (hr : ∀ c, RC w F S.D ι v c → RC w F S.D ι v' c) : Rel Γ F ι (S.put l v') a w := by
  cases l with
  | tmp t =>
    exact h.withT (h.tmps.set_left hg fun c hv => .one _ _ (.cell _ _ (hr c (hv.isCell hc))))
  | sub t i =>
    unfold St.get at hg
    unfold St.put
    simp only at hg ⊢
    split at hg <;> try (cases hg; done)
    rename_i cs hcs
    try rw [hcs]
    refine h.withT (h.tmps.set_left hcs fun c hv => ?_)
    cases hv with
    | one v c hv =>
      cases hv with
      | cell v c hv => cases hv with | fv v c hv => cases hv
      | agg cs ds hv => exact .one _ _ (.agg _ _ (hv.set_left hg hr))
  | cell g j i =>
    unfold St.get at hg
    unfold St.put
    simp only at hg ⊢
    split at hg <;> try (cases hg; done)
    rename_i e cs hcs
    try rw [hcs]
    try simp only
    refine h.write hcs rfl ⟨rfl, rfl, rfl⟩ rfl (fun _ _ => rfl) (fun _ => ?_) (fun _ hk => hk)
    obtain ⟨g0, cur, h1, h2, h3⟩ := h.ents g j _ hcs
    exact ⟨g0, cur, h1, h2, (h3.set_left hg hr).imp fun _ _ x => x.mono (fun _ _ _ => rfl) (fun _ y => y) (fun k y => setE_D.2 y) (fun _ _ _ => rfl)⟩

theorem put_lay {grp : Nat} {new : List Ent} {l : Loc} {v : V} (h : S.get l = some v) (hn : ¬ S.D grp) : (S.lay grp new).get l = some v := by
  cases l with
  | tmp t => exact h
  | sub t i => exact h
  | cell g j i =>
    unfold St.get at h ⊢
    simp only at h ⊢
    split at h <;> try (cases h; done)
    rename_i e cs hcs
    have : g ≠ grp := fun q => hn (q ▸ St.D_of_ent hcs)
    rw [lay_ent_ne this, hcs]
    exact h

theorem more_getL {n : Nat} {l : Loc} {v : V} (h : S.get l = some v) : (S.more n).get l = some v := by
  cases l with
  | tmp t => exact h
  | sub t i => exact h
  | cell g j i =>
    unfold St.get at h ⊢
    simp only at h ⊢
    rw [more_ent]
    exact h

theorem frz_getL {l : Loc} {v : V} (h : S.get l = some v) (hf : Frz S S') : S'.get l = some v := by
  cases l with
  | tmp t => unfold St.get at h ⊢; simp only at h ⊢; rw [hf.2.2.1]; exact h
  | sub t i => unfold St.get at h ⊢; simp only at h ⊢; rw [hf.2.2.1]; exact h
  | cell g j i =>
    unfold St.get at h ⊢
    simp only at h ⊢
    split at h <;> try (cases h; done)
    rename_i e cs hcs
    rcases hf.2.2.2 _ _ _ hcs with q | ⟨e', sz, n, rows, q, _⟩
    · rw [q]
      exact h
    · cases q

theorem cellM_ls {e : Nat} {v : V} {H : Hp} {f : AR V} {lg : List (Nat × Nat)} (h : cellM none (some e) v H = some (f, lg)) : f.ls = [] := by
  unfold cellM at h
  cases v <;> try (cases h; done)
  case nil =>
    have := RdM.pure_some h
    injection this with h1 h2
    rw [h1]
  case own g j sz lo n =>
    cases lo with
    | succ q => cases h
    | zero =>
      simp only at h
      obtain ⟨en, l1, l2, hrd, hp, _⟩ := RdM.bind_some h
      cases en <;> try (cases hp; done)
      case row =>
        simp only at hp
        split at hp <;> try (cases hp; done)
        have := RdM.pure_some hp
        injection this with h1 h2
        rw [h1]
      case deep o _ _ _ _ =>
        cases o <;> try (cases hp; done)
        simp only at hp
        split at hp <;> try (cases hp; done)
        have := RdM.pure_some hp
        injection this with h1 h2
        rw [h1]
theorem plug_run {g j idx off e : Nat} {r : List V} {ps : List Prop} (h : Rel Γ F ι S a w) (hf : fixM (.plug g j idx off r e) S = some (S', ps)) (hob : ∀ p ∈ ps, p) : Rel Γ F ι S' a w := by
  unfold fixM at hf
  simp only at hf
  split at hf <;> try (cases hf; done)
  rename_i o t sz n rows g' j' sz' lo n' he hv
  split at hf <;> try (cases hf; done)
  rename_i f lg hm
  split at hf <;> try (cases hf; done)
  rename_i hcond
  injection hf with hf
  injection hf with h1 h2
  subst h1; subst h2
  obtain ⟨hoff, hks, hgj⟩ := hcond
  have hr : rows[idx]? = some r := hob _ (by simp)
  obtain ⟨flat, fs, hor, hkl, hrn, hl, hnd, hnr⟩ := h.ents g j _ he
  have hidx := (List.getElem?_eq_some_iff.1 hr).1
  have hpos : idx * sz + sz ≤ n * sz := by rw [← Nat.succ_mul]; exact Nat.mul_le_mul_right _ (by omega)
  have hle : idx * sz + off + 1 ≤ rows.flatten.length := by rw [flatten_len hl, hrn]; omega
  have hmid : (rows.flatten.drop (idx * sz + off)).take 1 = [.own g' j' sz' lo n'] := by
    have : (rows.flatten.drop (idx * sz + off)).take 1 = (r.drop off).take 1 := by
      rw [← flatten_get hl hr, List.drop_take, List.take_take, List.drop_drop]
      congr 1
      omega
    rw [this]
    obtain ⟨hlt, hv'⟩ := List.getElem?_eq_some_iff.1 hv
    rw [List.drop_eq_getElem_cons hlt, hv']
    rfl
  obtain ⟨fa, fm, fb, rfl, ka, km, kb⟩ := hkl.cut hle
  rw [hmid] at km
  obtain ⟨c, hc, hkc⟩ : ∃ c, (flat.drop (idx * sz + off)).take 1 = [c] ∧ RC w F S.D ι (.own g' j' sz' lo n') c := by
    generalize (flat.drop (idx * sz + off)).take 1 = cs at km
    cases km with
    | cons v c f vs cs fs h t =>
      cases t
      refine ⟨c, rfl, ?_⟩
      cases h with
      | rc h => exact h
      | bc _ h => cases h with
        | fv _ _ h => exact .fv _ _ h
  obtain ⟨fp, hb, hfps, _⟩ := cellM_run (F1 := F) h (fun _ x => x) hkc hm (fun p hp => hob p (List.mem_cons.2 (.inr hp))) (by rw [cellM_ls hm]; intro id hid; cases hid)
  have hbl : BL w F [f.v] [c] fp := by
    have := BL.cons _ _ _ _ _ _ hb .nil
    simpa using this
  refine h.dput he hr (by simpa using hoff) hbl hfps (nodupB_iff hks) (fun q => by rw [hasId_iff.2 q] at hgj; cases hgj) ⟨rfl, rfl, rfl⟩ rfl (fun _ _ => rfl) ?_
  intro flat2 ho2
  have := ownsRow_det ho2 hor (fun _ _ => rfl)
  subst this
  have e1 : spliceV flat2 (idx * sz + off) [c] = flat2 := by
    unfold spliceV
    rw [← hc, List.append_assoc]
    have hl1 : ((flat2.drop (idx * sz + off)).take 1).length = 1 := by rw [hc]; rfl
    rw [hl1]
    have e2 : ∀ k : Nat, flat2.take k ++ ((flat2.drop k).take 1 ++ flat2.drop (k + 1)) = flat2 := fun k => by
      rw [← List.drop_drop, List.take_append_drop, List.take_append_drop]
    exact e2 _
  rw [e1]
  exact ho2
theorem shut_run {g j n' : Nat} {rows' : List (List V)} {ps : List Prop} (h : Rel Γ F ι S a w) (hf : fixM (.shut g j n' rows') S = some (S', ps)) (hob : ∀ p ∈ ps, p) : Rel Γ F ι S' a w := by
  unfold fixM at hf
  simp only at hf
  split at hf <;> try (cases hf; done)
  rename_i o t sz n rows he
  injection hf with hf
  injection hf with h1 h2
  subst h1; subst h2
  have hrr : rows = rows' := hob _ (by simp)
  have hnr : NoRef rows' := hob _ (by simp)
  have hnn : n = n' := hob _ (by simp)
  subst hrr; subst hnn
  refine h.write he rfl ⟨rfl, rfl, rfl⟩ rfl (fun _ _ => rfl) (fun _ => ?_) (fun k hk => hk)
  obtain ⟨flat, fs, q1, q2, q3, q4, q5, q6⟩ := h.ents g j _ he
  exact ⟨flat, fs, q1, q2.mono (fun _ _ _ => rfl) (fun _ x => x) (fun k x => setE_D.2 x) (fun _ _ _ => rfl) (fun _ _ => rfl), q3, q4, q5, fun _ => hnr⟩

theorem fixM_run {f : Fix} {ps : List Prop} (h : Rel Γ F ι S a w) (hf : fixM f S = some (S', ps)) (hob : ∀ p ∈ ps, p) : ∃ F' ι', Rel Γ F' ι' S' a w := by
  unfold fixM at hf
  split at hf
  · rename_i l e sz
    split at hf <;> try (cases hf; done)
    rename_i hg
    injection hf with hf
    injection hf with hf hf2
    subst hf
    have hn : ¬ (S.more 1).D S.h.length := fun q => by
      obtain ⟨x, hx⟩ := more_D.1 q
      have := (List.getElem?_eq_some_iff.1 hx).1
      omega
    have hlen : S.h.length < (S.more 1).h.length := by simp [St.more, roomN]
    have hor : OR w F e sz (.slice none 0 0) 0 [] := ⟨[], ⟨by simp, .inl ⟨rfl, rfl⟩⟩, .nil, rfl, by simp⟩
    have hno : ∀ (j : Nat) (e' : Ent) (k : Nat), ([.row e sz 0 []] : List Ent)[j]? = some e' → EB w e' (newAt ι S.h.length (.slice none 0 0) S.h.length j) k → False := by
      intro j e' k he hk
      rw [newAt_eq] at hk
      cases j with
      | zero =>
        simp at he
        subst he
        cases hk
      | succ j => simp at he
    have h1 := (h.more 1).lay hlen hn (new := [.row e sz 0 []]) (ι' := newAt ι S.h.length (.slice none 0 0)) (fun g j q => newAt_ne q)
      (fun j e' he => by
        cases j with
        | zero =>
          simp at he
          subst he
          rw [newAt_eq]
          exact hor
        | succ j => simp at he)
      (fun j e' k he hl hk => (hno j e' k he hk).elim)
      (fun j e' j' e'' k he he' hl hl' hk hk' => (hno j e' k he hk).elim)
      (fun j e' g' j' e'' k he he' hl hl' hk => (hno j e' k he hk).elim)
    refine ⟨F, _, h1.putL (put_lay (more_getL hg) hn) rfl fun c hc => ?_⟩
    have hcn : c = .slice none 0 0 := by
      cases hc with
      | fv v c hc => cases hc; rfl
    subst hcn
    exact RC.whole (lay_D_self hlen) newAt_eq hor
  · rename_i l ck
    split at hf <;> try (cases hf; done)
    rename_i v hg
    split at hf <;> try (cases hf; done)
    rename_i hcell
    split at hf <;> try (cases hf; done)
    rename_i v' us fps lg hz
    injection hf with hf
    injection hf with hf hf2
    subst hf; subst hf2
    have hfr : ∀ c, RC w F S.D ι v c → ∃ F', (∀ k, F k → F' k) ∧ Rel Γ F' ι (S.upds us) a w ∧ Frz S (S.upds us) ∧ FV w F' v' c := fun c hc => fzP_run h (Frz.refl S) hc hz hob
    -- what lies there
    have hat : ∃ c, RC w F S.D ι v c := by
      cases l with
      | tmp t =>
        obtain ⟨c, _, hv⟩ := h.tmps.get hg
        exact ⟨c, hv.isCell hcell⟩
      | sub t i =>
        unfold St.get at hg
        simp only at hg
        split at hg <;> try (cases hg; done)
        rename_i cs hcs
        obtain ⟨c, _, hv⟩ := h.tmps.get hcs
        cases hv with
        | one v c hv =>
          cases hv with
          | cell v c hv => cases hv with | fv v c hv => cases hv
          | agg cs ds hv =>
            obtain ⟨c, _, hv⟩ := hv.get hg
            exact ⟨c, hv⟩
      | cell g j i =>
        unfold St.get at hg
        simp only at hg
        split at hg <;> try (cases hg; done)
        rename_i e cs hcs
        obtain ⟨g0, cur, h1, h2, h3⟩ := h.ents g j _ hcs
        obtain ⟨c, _, hv⟩ := h3.get hg
        exact ⟨c, hv⟩
    obtain ⟨c0, hc0⟩ := hat
    obtain ⟨F', hF, hrel, hfz, hfv⟩ := hfr c0 hc0
    -- the same value wherever it lies: what lies there is c0 or alike
    clear hfr hfv
    cases l with
    | tmp t =>
      obtain ⟨c, hct, hv⟩ := h.tmps.get hg
      obtain ⟨F', hF, hrel, hfz, hfv⟩ := fzP_run h (Frz.refl S) (hv.isCell hcell) hz hob
      refine ⟨F', ι, ?_⟩
      have ht : (S.upds us).t = S.t := hfz.2.2.1
      show Rel Γ F' ι { S.upds us with t := (S.upds us).t.set t v' } a w
      refine hrel.withT ?_
      have := hrel.tmps.set t (b := c) (.one _ _ (.cell _ _ (.fv _ _ hfv)))
      rwa [set_same hct] at this
    | sub t i =>
      unfold St.get at hg
      simp only at hg
      split at hg <;> try (cases hg; done)
      rename_i cs hcs
      obtain ⟨c, hct, hv⟩ := h.tmps.get hcs
      cases hv with
      | one v c hv =>
        cases hv with
        | cell v c hv => cases hv with | fv v c hv => cases hv
        | agg cs ds hv =>
          obtain ⟨c, hci, hvi⟩ := hv.get hg
          obtain ⟨F', hF, hrel, hfz, hfv⟩ := fzP_run h (Frz.refl S) hvi hz hob
          refine ⟨F', ι, ?_⟩
          have ht : (S.upds us).t = S.t := hfz.2.2.1
          unfold St.put
          simp only [ht, hcs]
          have h2 := hrel.tmps
          rw [ht] at h2
          have := hrel.withT (t := S.t.set t (.agg (cs.set i v'))) ?_
          · exact this
          · have hagg := h2.get hcs
            obtain ⟨c', hct', hv'⟩ := hagg
            rw [hct] at hct'
            injection hct' with hct'
            have hv2 : All2 (RC w F' (S.upds us).D ι) cs ds := by
              refine hv.imp fun _ _ x => x.mono (fun _ _ _ => rfl) hF (fun k y => (upds_D S k us).2 y) (fun _ _ _ => rfl)
            have hset := hv2.set i (b := c) (.fv _ _ hfv)
            rw [set_same hci] at hset
            have := h2.set t (b := .agg ds.toArray) (.one _ _ (.agg _ _ hset))
            rwa [set_same hct] at this
    | cell g j i =>
      unfold St.get at hg
      simp only at hg
      split at hg <;> try (cases hg; done)
      rename_i e cs hcs
      obtain ⟨g0, cur, q1, q2, q3⟩ := h.ents g j _ hcs
      obtain ⟨c, hci, hvi⟩ := q3.get hg
      obtain ⟨F', hF, hrel, hfz, hfv⟩ := fzP_run h (Frz.refl S) hvi hz hob
      refine ⟨F', ι, ?_⟩
      have hcs' : (S.upds us).ent g j = some (.var e cs) := by
        rcases hfz.2.2.2 _ _ _ hcs with q | ⟨e', sz, n, rows, q, _⟩
        · exact q
        · cases q
      unfold St.put
      simp only [hcs']
      refine hrel.write hcs' rfl ⟨rfl, rfl, rfl⟩ rfl (fun _ _ => rfl) (fun _ => ?_) (fun _ hk => hk)
      have hset := (q3.imp fun _ _ x => RC.mono (D' := ((S.upds us).setE g j (.var e (cs.set i v'))).D) (F' := F') (w' := w) (ι' := ι) (fun _ _ _ => rfl) hF (fun k y => setE_D.2 ((upds_D S k us).2 y)) (fun _ _ _ => rfl) x).set i (b := c) (.fv _ _ hfv)
      rw [set_same hci] at hset
      exact ⟨g0, cur, q1, q2, hset⟩
  · rename_i l v'
    split at hf <;> try (cases hf; done)
    rename_i v hg
    split at hf <;> try (cases hf; done)
    rename_i hcell
    injection hf with hf
    injection hf with hf hf2
    subst hf; subst hf2
    have : v = v' := hob _ (by simp)
    subst this
    exact ⟨F, ι, h.putL hg hcell fun _ x => x⟩
  · rename_i g j e'
    split at hf <;> try (cases hf; done)
    rename_i e he
    injection hf with hf
    injection hf with hf hf2
    subst hf; subst hf2
    have : e = e' := hob _ (by simp)
    subst this
    have hset : S.setE g j e = S := by
      obtain ⟨l, hl⟩ := St.D_of_ent he
      rw [setE_eq hl]
      rw [ent_eq hl] at he
      rw [set_same he, set_same hl]
    rw [hset]
    exact ⟨F, ι, h⟩
  · rename_i g j idx off r e
    exact ⟨F, ι, plug_run (g := g) (j := j) (idx := idx) (off := off) (r := r) (e := e) h hf hob⟩
  · rename_i g j n' rows'
    exact ⟨F, ι, shut_run (g := g) (j := j) (n' := n') (rows' := rows') h hf hob⟩

theorem fixAll_run (fs : List Fix) : ∀ {S : St} {F : Nat → Prop} {ι : Nat → Nat → Value} {ps : List Prop}, Rel Γ F ι S a w → fixAll fs S = some (S', ps) → (∀ p ∈ ps, p) → ∃ F' ι', Rel Γ F' ι' S' a w := by
  induction fs with
  | nil =>
    intro S F ι ps h hf hob
    injection hf with hf
    injection hf with hf hf2
    subst hf
    exact ⟨F, ι, h⟩
  | cons f fs ih =>
    intro S F ι ps h hf hob
    unfold fixAll at hf
    cases h1 : fixM f S with
    | none => rw [h1] at hf; cases hf
    | some x1 =>
    obtain ⟨S1, ps1⟩ := x1
    rw [h1] at hf
    simp only at hf
    cases h2 : fixAll fs S1 with
    | none => rw [h2] at hf; cases hf
    | some x2 =>
    obtain ⟨S2, ps2⟩ := x2
    rw [h2] at hf
    simp only at hf
    injection hf with hf
    injection hf with hf hf2
    subst hf; subst hf2
    obtain ⟨F1, ι1, h3⟩ := fixM_run h h1 (fun p hp => hob p (List.mem_append.2 (.inl hp)))
    exact ih h3 h2 (fun p hp => hob p (List.mem_append.2 (.inr hp)))
end

/-! ### Other names, and less -/
def idxId : List (Nat × Nat) → Nat × Nat → Nat → Option Nat
  | [], _, _ => none
  | y :: l, x, i => if y.1 == x.1 && y.2 == x.2 then some i else idxId l x (i + 1)
/-- An entry's new name: the first group keeps its own, where they are not asked for. -/
def newId (gs : List (Nat × Nat)) (g j : Nat) : Option (Nat × Nat) :=
  match idxId gs (g, j) 1 with
  | some i => some (i, 0)
  | none => match g with
    | 0 => some (0, j)
    | _ + 1 => none
def renC (gs : List (Nat × Nat)) (v : V) : V :=
  match v with
  | .own g j sz lo n => match newId gs g j with
    | some (g', j') => .own g' j' sz lo n
    | none => .bot
  | .ptr g j off => match newId gs g j with
    | some (g', j') => .ptr g' j' off
    | none => .bot
  | .eptr g j sz idx off => match newId gs g j with
    | some (g', j') => .eptr g' j' sz idx off
    | none => .bot
  | .fptr _ => .bot
  | .mp g j => match newId gs g j with
    | some (g', j') => .mp g' j'
    | none => .bot
  | v => v
def renA (gs : List (Nat × Nat)) (v : V) : V :=
  match v with
  | .agg cs => .agg (cs.map (renC gs))
  | v => renC gs v
def renR (gs : List (Nat × Nat)) (v : V) : V :=
  match v with
  | .tup cs => .tup (cs.map (renA gs))
  | v => renA gs v
def renE (gs : List (Nat × Nat)) (e : Ent) : Ent :=
  match e with
  | .var e cs => .var e (cs.map (renC gs))
  | .deep true _ _ _ _ => .dead
  | e => e
/-- The temporaries that are kept (a list that rises), the others told of no more. -/
def keepT (gs : List (Nat × Nat)) : Nat → List Nat → List V → List V
  | _, _, [] => []
  | i, [], _ :: vs => .bot :: keepT gs (i + 1) [] vs
  | i, k :: ks, v :: vs => if Nat.beq k i then renR gs v :: keepT gs (i + 1) ks vs else .bot :: keepT gs (i + 1) (k :: ks) vs
def entsOf (S : St) (gs0 : List (Nat × Nat)) : List (Nat × Nat) → List (Option (List Ent))
  | [] => []
  | id :: gs => some [match S.ent id.1 id.2 with
    | some e => renE gs0 e
    | none => .dead] :: entsOf S gs0 gs
def ren0 (gs : List (Nat × Nat)) : Nat → List Ent → List Ent
  | _, [] => []
  | j, e :: es => (match idxId gs (0, j) 1 with
    | some _ => .dead
    | none => renE gs e) :: ren0 gs (j + 1) es
def projM (keep : List Nat) (gs : List (Nat × Nat)) (S : St) : Option St :=
  if nodupB gs then
    some { t := keepT gs 0 keep S.t, h := (match S.h with
      | some l :: _ => some (ren0 gs 0 l)
      | _ => none) :: entsOf S gs gs }
  else none

section
variable {cx : Cx} {Γ : Ctx} {F : Nat → Prop} {ι : Nat → Nat → Value} {S S' : St} {a : Act} {w : World} {keep : List Nat}

theorem idxId_get : ∀ {l : List (Nat × Nat)} {x : Nat × Nat} {i k : Nat}, idxId l x i = some k → i ≤ k ∧ l[k - i]? = some x
  | [], x, i, k, h => by cases h
  | y :: l, x, i, k, h => by
    unfold idxId at h
    split at h
    · rename_i q
      injection h with h
      subst h
      simp at q
      have : y = x := Prod.ext q.1 q.2
      exact ⟨Nat.le_refl _, by simp [this]⟩
    · obtain ⟨h1, h2⟩ := idxId_get h
      refine ⟨by omega, ?_⟩
      have : k - i = (k - (i + 1)) + 1 := by omega
      rw [this]
      simpa using h2

def oldAt (ι : Nat → Nat → Value) (gs : List (Nat × Nat)) (g j : Nat) : Value :=
  match g with
  | 0 => ι 0 j
  | g + 1 => match gs[g]? with
    | some id => ι id.1 id.2
    | none => .nilFunc

theorem entsOf_get {gs0 : List (Nat × Nat)} : ∀ {gs : List (Nat × Nat)} {i : Nat} {id : Nat × Nat}, gs[i]? = some id → (entsOf S gs0 gs)[i]? = some (some [match S.ent id.1 id.2 with
    | some e => renE gs0 e
    | none => .dead])
  | id' :: gs, 0, id, h => by simp at h; subst h; simp [entsOf]
  | id' :: gs, i + 1, id, h => by simp at h; simp [entsOf, entsOf_get h]
theorem entsOf_len {gs0 : List (Nat × Nat)} : ∀ {gs : List (Nat × Nat)}, (entsOf S gs0 gs).length = gs.length
  | [] => rfl
  | _ :: gs => by simp [entsOf, entsOf_len]

theorem proj_D0 {gs : List (Nat × Nat)} (hp : projM keep gs S = some S') (hD : S.D 0) : S'.D 0 := by
  unfold projM at hp
  split at hp <;> try (cases hp; done)
  injection hp with hp
  subst hp
  obtain ⟨l, hl⟩ := hD
  have : ∃ t, S.h = some l :: t := by
    cases hh : S.h with
    | nil => rw [hh] at hl; simp at hl
    | cons x t => rw [hh] at hl; simp at hl; exact ⟨t, by rw [hl]⟩
  obtain ⟨t, ht⟩ := this
  rw [ht]
  exact ⟨_, rfl⟩
theorem newId_spec {gs : List (Nat × Nat)} (hp : projM keep gs S = some S') {g j g' j' : Nat} (hn : newId gs g j = some (g', j')) (hD : S.D g) : S'.D g' ∧ oldAt ι gs g' j' = ι g j := by
  unfold newId at hn
  split at hn
  · rename_i i hi
    injection hn with hn
    injection hn with h1 h2
    subst h1; subst h2
    unfold projM at hp
    split at hp <;> try (cases hp; done)
    injection hp with hp
    subst hp
    obtain ⟨h3, h4⟩ := idxId_get hi
    obtain ⟨m, rfl⟩ : ∃ m, i = m + 1 := ⟨i - 1, by omega⟩
    simp only [Nat.add_sub_cancel] at h4
    refine ⟨⟨_, (List.getElem?_cons_succ).trans (entsOf_get h4)⟩, ?_⟩
    simp [oldAt, h4]
  · split at hn <;> try (cases hn; done)
    injection hn with hn
    injection hn with h1 h2
    subst h1; subst h2
    exact ⟨proj_D0 hp hD, rfl⟩

theorem idxId_none : ∀ {l : List (Nat × Nat)} {x : Nat × Nat} {i : Nat}, idxId l x i = none → x ∉ l
  | [], x, i, _ => by simp
  | y :: l, x, i, h => by
    unfold idxId at h
    split at h
    · cases h
    · rename_i q
      intro hx
      rcases List.mem_cons.1 hx with rfl | hx
      · simp at q
      · exact idxId_none h hx
theorem ren0_get {gs : List (Nat × Nat)} : ∀ {l : List Ent} {i j : Nat} {e : Ent}, (ren0 gs i l)[j]? = some e → e = .dead ∨ ∃ e0, l[j]? = some e0 ∧ e = renE gs e0 ∧ (0, i + j) ∉ gs
  | [], i, j, e, h => by simp [ren0] at h
  | e1 :: l, i, 0, e, h => by
    simp only [ren0, List.getElem?_cons_zero] at h
    injection h with h
    split at h
    · exact .inl h.symm
    · rename_i hq
      exact .inr ⟨e1, rfl, h.symm, by simpa using idxId_none hq⟩
  | e1 :: l, i, j + 1, e, h => by
    simp only [ren0, List.getElem?_cons_succ] at h
    rcases ren0_get h with h1 | ⟨e0, h1, h2, h3⟩
    · exact .inl h1
    · exact .inr ⟨e0, by simpa using h1, h2, by rw [show i + (j + 1) = i + 1 + j by omega]; exact h3⟩

theorem RC.ren {gs : List (Nat × Nat)} (hp : projM keep gs S = some S') {v : V} {c : Value} (h : RC w F S.D ι v c) : RC w F S'.D (oldAt ι gs) (renC gs v) c := by
  cases h with
  | fv v c h =>
    have : renC gs v = v := by cases h <;> rfl
    rw [this]
    exact .fv _ _ h
  | own g j sz lo n b nn cap hD hι hlo hb0 hb1 =>
    unfold renC
    simp only
    split
    · rename_i g' j' hn
      obtain ⟨h1, h2⟩ := newId_spec (ι := ι) hp hn hD
      exact .own g' j' sz lo n b nn cap h1 (h2.trans hι) hlo hb0 hb1
    · exact .fv _ _ (.bot _ rfl)
  | own0 g j sz lo b cap hD hlo =>
    unfold renC
    simp only
    split
    · rename_i g' j' hn
      obtain ⟨h1, h2⟩ := newId_spec (ι := ι) hp hn hD
      exact .own0 g' j' sz lo b cap h1 hlo
    · exact .fv _ _ (.bot _ rfl)
  | ptr g j off blk hD hι =>
    unfold renC
    simp only
    split
    · rename_i g' j' hn
      obtain ⟨h1, h2⟩ := newId_spec (ι := ι) hp hn hD
      exact .ptr g' j' off blk h1 (h2.trans hι)
    · exact .fv _ _ (.bot _ rfl)
  | eptr g j sz idx off b hD hι =>
    unfold renC
    simp only
    split
    · rename_i g' j' hn
      obtain ⟨h1, h2⟩ := newId_spec (ι := ι) hp hn hD
      exact .eptr g' j' sz idx off b h1 (by rw [h2]; exact hι)
    · exact .fv _ _ (.bot _ rfl)
  | fptr cs g o ds hF h hs => exact .fv _ _ (.bot _ rfl)
  | mp g j blk hD hι =>
    unfold renC
    simp only
    split
    · rename_i g' j' hn
      obtain ⟨h1, h2⟩ := newId_spec (ι := ι) hp hn hD
      exact .mp g' j' blk h1 (h2.trans hι)
    · exact .fv _ _ (.bot _ rfl)

theorem All2.maps {α α' β : Type} {R : α → β → Prop} {R' : α' → β → Prop} (f : α → α') (hf : ∀ x y, R x y → R' (f x) y) : ∀ {as bs}, All2 R as bs → All2 R' (as.map f) bs
  | _, _, .nil => .nil
  | _, _, .cons h t => .cons (hf _ _ h) (t.maps f hf)

theorem RA.ren {gs : List (Nat × Nat)} (hp : projM keep gs S = some S') {v : V} {c : Value} (h : RA w F S.D ι v c) : RA w F S'.D (oldAt ι gs) (renA gs v) c := by
  cases h with
  | cell v c h =>
    have : renA gs v = renC gs v := by
      cases h with
      | fv v c h => cases h <;> rfl
      | _ => rfl
    rw [this]
    exact .cell _ _ (h.ren hp)
  | agg cs ds h => exact .agg _ _ (h.maps _ fun _ _ x => x.ren hp)
theorem RV.ren {gs : List (Nat × Nat)} (hp : projM keep gs S = some S') {v : V} {c : Value} (h : RV w F S.D ι v c) : RV w F S'.D (oldAt ι gs) (renR gs v) c := by
  cases h with
  | one v c h =>
    have : renR gs v = renA gs v := by
      cases h with
      | cell v c h =>
        cases h with
        | fv v c h => cases h <;> rfl
        | _ => rfl
      | agg cs ds h => rfl
    rw [this]
    exact .one _ _ (h.ren hp)
  | tup cs ds h => exact .tup _ _ (h.maps _ fun _ _ x => x.ren hp)
  | any c => exact .any c

theorem keepT_rv {gs : List (Nat × Nat)} (hp : projM keep gs S = some S') : ∀ {vs : List V} {cs : List Value}, All2 (RV w F S.D ι) vs cs → ∀ (i : Nat) (ks : List Nat), All2 (RV w F S'.D (oldAt ι gs)) (keepT gs i ks vs) cs
  | _, _, .nil, i, ks => by cases ks <;> exact .nil
  | _, _, .cons h t, i, [] => .cons (.any _) (keepT_rv hp t _ _)
  | _, _, .cons h t, i, k :: ks => by
    unfold keepT
    split
    · exact .cons (h.ren hp) (keepT_rv hp t _ _)
    · exact .cons (.any _) (keepT_rv hp t _ _)

theorem proj_ent {gs : List (Nat × Nat)} (hp : projM keep gs S = some S') {g j : Nat} {e : Ent} (he : S'.ent g j = some e) : e = .dead ∨ ∃ g0 j0 e0, S.ent g0 j0 = some e0 ∧ e = renE gs e0 ∧ oldAt ι gs g j = ι g0 j0 ∧ ((g = 0 ∧ g0 = 0 ∧ j = j0 ∧ (0, j) ∉ gs) ∨ (∃ i, g = i + 1 ∧ j = 0 ∧ gs[i]? = some (g0, j0))) := by
  unfold projM at hp
  split at hp <;> try (cases hp; done)
  injection hp with hp
  subst hp
  cases g with
  | zero =>
    unfold St.ent at he
    simp only [List.getElem?_cons_zero] at he
    split at he <;> try (cases he; done)
    rename_i l hl
    injection hl with hl
    split at hl <;> try (cases hl; done)
    rename_i l0 t hh
    injection hl with hl
    subst hl
    rcases ren0_get he with h1 | ⟨e0, h1, h2, h3⟩
    · exact .inl h1
    · exact .inr ⟨0, j, e0, by unfold St.ent; rw [hh]; exact h1, h2, rfl, .inl ⟨rfl, rfl, rfl, by simpa using h3⟩⟩
  | succ i =>
    unfold St.ent at he
    simp only [List.getElem?_cons_succ] at he
    split at he <;> try (cases he; done)
    rename_i l hl
    have hlt : i < gs.length := by
      have := (List.getElem?_eq_some_iff.1 hl).1
      rwa [entsOf_len] at this
    have hgi : gs[i]? = some gs[i] := List.getElem?_eq_getElem hlt
    generalize gs[i] = id at hgi
    rw [entsOf_get hgi] at hl
    injection hl with hl
    injection hl with hl
    subst hl
    cases j with
    | succ j => simp at he
    | zero =>
      simp only [List.getElem?_cons_zero] at he
      injection he with he
      cases hx : S.ent id.1 id.2 with
      | none => rw [hx] at he; exact .inl he.symm
      | some e0 =>
        rw [hx] at he
        exact .inr ⟨id.1, id.2, e0, hx, he.symm, by simp [oldAt, hgi], .inr ⟨i, rfl, rfl, hgi⟩⟩

theorem nodup_idx {α : Type} {l : List α} (h : l.Nodup) {i j : Nat} {x : α} (hi : l[i]? = some x) (hj : l[j]? = some x) : i = j := by
  obtain ⟨h1, h2⟩ := List.getElem?_eq_some_iff.1 hi
  obtain ⟨h3, h4⟩ := List.getElem?_eq_some_iff.1 hj
  exact (List.getElem_inj h).1 (h2.trans h4.symm)

theorem projM_run {gs : List (Nat × Nat)} (h : Rel Γ F ι S a w) (hp : projM keep gs S = some S') : ∃ ι', Rel Γ F ι' S' a w := by
  have hnd : gs.Nodup := by
    unfold projM at hp
    split at hp <;> try (cases hp; done)
    rename_i hchk
    exact nodupB_iff hchk
  have hlive : ∀ e : Ent, (renE gs e).live = true → e.live = true ∧ ∀ c k, EB w (renE gs e) c k → EB w e c k := by
    intro e he
    cases e with
    | deep o e sz n rows =>
      cases o with
      | true => cases he
      | false => exact ⟨rfl, fun _ _ hk => hk⟩
    | _ => exact ⟨he, fun _ _ hk => hk⟩
  have ht : S'.t = keepT gs 0 keep S.t := by
    unfold projM at hp
    split at hp <;> try (cases hp; done)
    injection hp with hp
    subst hp
    rfl
  refine ⟨oldAt ι gs, ?_⟩
  exact
    { F0 := h.F0, F1 := h.F1, F2 := h.F2, kept := h.kept
      tmps := by rw [ht]; exact keepT_rv hp h.tmps 0 keep
      ents := fun g j e he => by
        rcases proj_ent (ι := ι) hp he with rfl | ⟨g0, j0, e0, h0, rfl, h2, _⟩
        · trivial
        · rw [h2]
          have hr := h.ents _ _ _ h0
          cases e0 with
          | var e cs =>
            obtain ⟨g1, cur, q1, q2, q3⟩ := hr
            exact ⟨g1, cur, q1, q2, q3.maps _ fun _ _ x => x.ren hp⟩
          | dead => exact hr
          | arr e sz n rows => exact hr
          | row e sz n rows => exact hr
          | frz sz n rows => exact hr
          | map t m es => exact hr
          | deep o e sz n rows =>
            cases o with
            | true => trivial
            | false =>
              obtain ⟨flat, fs, q1, q2, q3, q4, q5, q6⟩ := hr
              exact ⟨flat, fs, q1, (q2.blOf (q6 rfl).flat).kl, q3, q4, q5, q6⟩
      sep := fun g j e k he hl hk => by
        rcases proj_ent (ι := ι) hp he with rfl | ⟨g0, j0, e0, h0, rfl, h2, _⟩
        · cases hl
        · rw [h2] at hk
          exact h.sep _ _ _ k h0 (hlive _ hl).1 ((hlive _ hl).2 _ _ hk)
      inj := fun g1 j1 e1 g2 j2 e2 k he1 he2 hl1 hl2 hk1 hk2 => by
        rcases proj_ent (ι := ι) hp he1 with rfl | ⟨x1, y1, z1, a1, rfl, b1, c1⟩
        · cases hl1
        rcases proj_ent (ι := ι) hp he2 with rfl | ⟨x2, y2, z2, a2, rfl, b2, c2⟩
        · cases hl2
        rw [b1] at hk1
        rw [b2] at hk2
        obtain ⟨q1, q2⟩ := h.inj _ _ _ _ _ _ k a1 a2 (hlive _ hl1).1 (hlive _ hl2).1 ((hlive _ hl1).2 _ _ hk1) ((hlive _ hl2).2 _ _ hk2)
        rcases c1 with ⟨u1, u2, u3, u4⟩ | ⟨i1, u1, u2, u3⟩ <;> rcases c2 with ⟨v1, v2, v3, v4⟩ | ⟨i2, v1, v2, v3⟩
        · exact ⟨by omega, by omega⟩
        · refine absurd (List.mem_of_getElem? v3) ?_
          rw [← q1, ← q2, u2, ← u3]
          exact u4
        · refine absurd (List.mem_of_getElem? u3) ?_
          rw [q1, q2, v2, ← v3]
          exact v4
        · rw [q1, q2] at u3
          have := nodup_idx hnd u3 v3
          exact ⟨by omega, by omega⟩
      defers := h.defers
      pins := fun j c hc => by
        obtain ⟨h1, h2⟩ := h.pins j c hc
        exact ⟨proj_D0 hp h1, h2⟩ }
end

/-- From here to there: regions, then the state told otherwise. -/
def segM (cx : Cx) (k : List Item) (S : St) (sc : Script) (fs : List Fix) (keep : List Nat) (gs : List (Nat × Nat)) : Option (List Item × St × List Prop) :=
  match goM cx 4000 k S sc with
  | some (k1, S1, ps) => match fixAll fs S1 with
    | some (S2, qs) => match projM keep gs S2 with
      | some S3 => some (k1, S3, ps ++ qs)
      | none => none
    | none => none
  | none => none

theorem Fin.seg0 {cx : Cx} {X : Sig} {res : V} {outs : List (Option V)} {k k' : List Item} {S S' : St} {sc : Script} {fs : List Fix} {keep : List Nat} {gs : List (Nat × Nat)} {ps : List Prop} (hg : segM cx k S sc fs keep gs = some (k', S', ps)) (hob : ∀ p ∈ ps, p) (h : Fin cx X res outs k' S') : Fin cx X res outs k S := by
  unfold segM at hg
  split at hg <;> try (cases hg; done)
  rename_i k1 S1 ps' h1
  split at hg <;> try (cases hg; done)
  rename_i S2 qs h2
  split at hg <;> try (cases hg; done)
  rename_i S3 h3
  injection hg with hg
  injection hg with e1 e2
  injection e2 with e2 e3
  subst e1; subst e2; subst e3
  refine Fin.go h1 (fun p hp => hob p (List.mem_append.2 (.inl hp))) ?_
  intro w0 F0 fp cargs bs hp hF0 F ι a w b cs hrel hb1 hb2
  obtain ⟨F', ι', hrel'⟩ := fixAll_run fs hrel h2 (fun p hp => hob p (List.mem_append.2 (.inr hp)))
  obtain ⟨ι2, hrel2⟩ := projM_run hrel' h3
  exact h w0 F0 fp cargs bs hp hF0 F' ι2 a w b cs hrel2 hb1 hb2

/-- From here to the end. -/
def endM (cx : Cx) (X : Sig) (k : List Item) (S : St) (sc : Script) : Option (V × List (Option V) × List Prop) :=
  match goM cx 4000 k S sc with
  | some (k1, S1, ps) => match retM cx X k1 S1 with
    | some (res, outs, qs) => some (res, outs, ps ++ qs)
    | none => none
  | none => none

theorem Fin.fin0 {cx : Cx} {X : Sig} {res : V} {outs : List (Option V)} {k : List Item} {S : St} {sc : Script} {ps : List Prop} (hf : cx.P.funcs[X.f]? = some X.fn) (hg : endM cx X k S sc = some (res, outs, ps)) (hob : ∀ p ∈ ps, p) : Fin cx X res outs k S := by
  unfold endM at hg
  split at hg <;> try (cases hg; done)
  rename_i k1 S1 ps' h1
  split at hg <;> try (cases hg; done)
  rename_i r o qs h2
  injection hg with hg
  injection hg with e1 e2
  injection e2 with e2 e3
  subst e1; subst e2; subst e3
  exact Fin.go h1 (fun p hp => hob p (List.mem_append.2 (.inl hp))) (Fin.ret hf h2 fun p hp => hob p (List.mem_append.2 (.inr hp)))

/-! ### What must hold, one behind the other -/
def AllP : List Prop → Prop
  | [] => True
  | p :: ps => p ∧ AllP ps
theorem AllP.mem : ∀ {ps : List Prop}, AllP ps → ∀ p ∈ ps, p
  | _ :: _, h, p, hp => by
    rcases List.mem_cons.1 hp with rfl | hp
    · exact h.1
    · exact AllP.mem h.2 p hp
theorem AllP.nil : AllP [] := trivial
theorem AllP.cons {p : Prop} {ps : List Prop} (h : p) (t : AllP ps) : AllP (p :: ps) := ⟨h, t⟩

theorem Fin.seg {cx : Cx} {X : Sig} {res : V} {outs : List (Option V)} {k k' : List Item} {S S' : St} (sc : Script) (fs : List Fix) (keep : List Nat) (gs : List (Nat × Nat)) (ps : List Prop) (hob : AllP ps) (h : Fin cx X res outs k' S') (hg : segM cx k S sc fs keep gs = some (k', S', ps)) : Fin cx X res outs k S :=
  Fin.seg0 hg hob.mem h
theorem Fin.fin {cx : Cx} {X : Sig} {res : V} {outs : List (Option V)} {k : List Item} {S : St} (hf : cx.P.funcs[X.f]? = some X.fn) (sc : Script) (ps : List Prop) (hob : AllP ps) (hg : endM cx X k S sc = some (res, outs, ps)) : Fin cx X res outs k S :=
  Fin.fin0 hf hg hob.mem

end Go.Proofs.Ythegkbaijmkhfaa
