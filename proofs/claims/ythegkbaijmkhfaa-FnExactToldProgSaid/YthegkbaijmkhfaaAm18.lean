/- How a state goes on behind a call. -/
import Derived.Test.YthegkbaijmkhfaaAm17
set_option linter.unusedVariables false
set_option linter.unusedSimpArgs false
namespace Go.Proofs.Ythegkbaijmkhfaa
open Go

def kills (ks : List (Nat × Nat)) : List Upd := ks.map fun id => (id, .dead)

section
variable {Γ : Ctx} {F F' : Nat → Prop} {ι : Nat → Nat → Value} {S : St} {a : Act} {w w' : World}

theorem kills_ent (ks : List (Nat × Nat)) : ∀ {S : St} {g j : Nat} {e : Ent}, (S.upds (kills ks)).ent g j = some e → ((g, j) ∈ ks ∧ e = .dead) ∨ ((g, j) ∉ ks ∧ S.ent g j = some e) := by
  induction ks with
  | nil => intro S g j e h; exact .inr ⟨by simp, h⟩
  | cons id ks ih =>
    intro S g j e h
    obtain ⟨g0, j0⟩ := id
    rcases ih (S := S.setE g0 j0 .dead) h with ⟨h1, h2⟩ | ⟨h1, h2⟩
    · exact .inl ⟨by simp [h1], h2⟩
    · by_cases q : g = g0 ∧ j = j0
      · obtain ⟨rfl, rfl⟩ := q
        by_cases q2 : ∃ e0, S.ent g j = some e0
        · obtain ⟨e0, he⟩ := q2
          rw [setE_ent he] at h2
          simp at h2
          exact .inl ⟨by simp, h2.symm⟩
        · exfalso
          apply q2
          unfold St.setE at h2
          split at h2
          · rename_i l hl
            have : j < l.length := by
              have := St.D_of_ent h2
              rw [ent_eq (S := { S with h := S.h.set g (some (l.set j .dead)) }) (l := l.set j .dead) (by simp [(List.getElem?_eq_some_iff.1 hl).1])] at h2
              have := (List.getElem?_eq_some_iff.1 h2).1
              simpa using this
            exact ⟨l[j], by rw [ent_eq hl]; simp [this]⟩
          · exact ⟨e, h2⟩
      · rw [setE_ent_ne q] at h2
        refine .inr ⟨?_, h2⟩
        intro hm
        rcases List.mem_cons.1 hm with hm | hm
        · injection hm with x y
          exact q ⟨x, y⟩
        · exact h1 hm

theorem Rel.killAll (ks : List (Nat × Nat)) : ∀ {S : St}, Rel Γ F ι S a w → (∀ id ∈ ks, ∃ e, S.ent id.1 id.2 = some e) → Rel Γ F ι (S.upds (kills ks)) a w := by
  induction ks with
  | nil => exact fun h _ => h
  | cons id ks ih =>
    intro S h hk
    obtain ⟨g0, j0⟩ := id
    obtain ⟨e, he⟩ := hk (g0, j0) (by simp)
    refine ih (h.kill he) ?_
    intro id hid
    obtain ⟨e', he'⟩ := hk id (by simp [hid])
    by_cases q : id.1 = g0 ∧ id.2 = j0
    · exact ⟨.dead, by rw [setE_ent he]; simp [q]⟩
    · exact ⟨e', by rw [setE_ent_ne q]; exact he'⟩

/-- The world goes on; blocks that nothing told lies in may change. -/
theorem Rel.world3 (h : Rel Γ F ι S a w) {fp : List Nat} (hk : Kept (· ∈ fp) w w') (hfp : ∀ k ∈ fp, ¬ F k ∧ (Γ.own k ∨ Γ.w0.heap.size ≤ k) ∧ ∀ g j e, S.ent g j = some e → e.live = true → ¬ EB w e (ι g j) k) : Rel Γ F ι S a w' := by
  have hs : Same w w' F := same_of_heap fun g hF => hk.block g (h.F1 g hF) fun q => (hfp g q).1 hF
  have hbk : ∀ g j e, S.ent g j = some e → e.live = true → ∀ k, EB w e (ι g j) k → w'.heap[k]? = w.heap[k]? := fun g j e he hl k hk' => hk.block k (h.lt he hl hk') fun q => (hfp k q).2.2 g j e he hl hk'
  exact
    { F0 := h.F0
      F1 := fun g hF => Nat.lt_of_lt_of_le (h.F1 g hF) hk.size
      F2 := h.F2
      kept := h.kept.trans hk (fun g hg hlt => by
        rcases (hfp g hg).2.1 with x | x
        · exact x
        · omega)
      tmps := h.tmps.imp fun _ _ x => x.mono hs (fun _ y => y) (fun _ y => y) (fun _ _ _ => rfl)
      ents := fun g j e he => (h.ents g j e he).mono hs (fun _ y => y) (fun _ y => y) (fun _ _ _ => rfl) (fun k hl hk' => hbk g j e he hl k hk')
      sep := fun g j e k he hl hk' => h.sep g j e k he hl ((h.ents g j e he).back (hbk g j e he hl) hk')
      inj := fun g j e g' j' e' k he he' hl hl' hk1 hk2 => h.inj g j e g' j' e' k he he' hl hl' ((h.ents g j e he).back (hbk g j e he hl) hk1) ((h.ents g' j' e' he').back (hbk g' j' e' he' hl') hk2)
      defers := h.defers
      pins := h.pins }

/-- More never changes again. -/
theorem Rel.grow (h : Rel Γ F ι S a w) (hF : ∀ k, F k → F' k) (h1 : ∀ k, F' k → k < w.heap.size) (h2 : ∀ k, F' k → Γ.F0 k ∨ Γ.own k ∨ Γ.w0.heap.size ≤ k) (h3 : ∀ g j e k, S.ent g j = some e → e.live = true → EB w e (ι g j) k → ¬ F' k) : Rel Γ F' ι S a w :=
  { F0 := fun g x => hF g (h.F0 g x)
    F1 := h1
    F2 := h2
    kept := h.kept
    tmps := h.tmps.imp fun _ _ x => x.mono (fun _ _ _ => rfl) hF (fun _ y => y) (fun _ _ _ => rfl)
    ents := fun g j e he => (h.ents g j e he).mono (fun _ _ _ => rfl) hF (fun _ y => y) (fun _ _ _ => rfl) (fun _ _ _ => rfl)
    sep := fun g j e k he hl hk => ⟨h3 g j e k he hl hk, (h.sep g j e k he hl hk).2⟩
    inj := h.inj
    defers := h.defers
    pins := h.pins }

/-- An entry that was given up is there again. -/
theorem Rel.revive (h : Rel Γ F ι S a w) {g j : Nat} {e' : Ent} (he : S.ent g j = some .dead) (hre : RE w F S.D ι e' (ι g j))
    (hsep : e'.live = true → ∀ k, EB w e' (ι g j) k → (¬ F k ∧ (Γ.own k ∨ Γ.w0.heap.size ≤ k)) ∧ ∀ g' j' e, S.ent g' j' = some e → e.live = true → ¬ EB w e (ι g' j') k) : Rel Γ F ι (S.setE g j e') a w := by
  have hD : ∀ k, S.D k → (S.setE g j e').D k := fun k x => setE_D.2 x
  have hs : Same w w F := fun _ _ _ => rfl
  have old : ∀ g' j' e1, (S.setE g j e').ent g' j' = some e1 → (g' = g ∧ j' = j ∧ e1 = e') ∨ (¬ (g' = g ∧ j' = j) ∧ S.ent g' j' = some e1) := by
    intro g' j' e1 h'
    rw [setE_ent he] at h'
    split at h'
    · rename_i q
      injection h' with h'
      exact .inl ⟨q.1, q.2, h'.symm⟩
    · rename_i q
      exact .inr ⟨q, h'⟩
  exact
    { F0 := h.F0, F1 := h.F1, F2 := h.F2, kept := h.kept
      tmps := by rw [setE_t]; exact h.tmps.imp fun _ _ x => x.mono hs (fun _ y => y) hD (fun _ _ _ => rfl)
      ents := fun g' j' e1 h' => by
        rcases old g' j' e1 h' with ⟨rfl, rfl, rfl⟩ | ⟨_, h'⟩
        · exact hre.mono hs (fun _ y => y) hD (fun _ _ _ => rfl) (fun _ _ _ => rfl)
        · exact (h.ents g' j' e1 h').mono hs (fun _ y => y) hD (fun _ _ _ => rfl) (fun _ _ _ => rfl)
      sep := fun g' j' e1 k h' hl hk => by
        rcases old g' j' e1 h' with ⟨rfl, rfl, rfl⟩ | ⟨_, h'⟩
        · exact (hsep hl k hk).1
        · exact h.sep g' j' e1 k h' hl hk
      inj := fun g1 j1 e1 g2 j2 e2 k h1 h2 l1 l2 k1 k2 => by
        rcases old g1 j1 e1 h1 with ⟨rfl, rfl, rfl⟩ | ⟨_, y1⟩
        · rcases old g2 j2 e2 h2 with ⟨rfl, rfl, rfl⟩ | ⟨_, y2⟩
          · exact ⟨rfl, rfl⟩
          · exact absurd k2 ((hsep l1 k k1).2 g2 j2 e2 y2 l2)
        · rcases old g2 j2 e2 h2 with ⟨rfl, rfl, rfl⟩ | ⟨_, y2⟩
          · exact absurd k1 ((hsep l2 k k2).2 g1 j1 e1 y1 l1)
          · exact h.inj g1 j1 e1 g2 j2 e2 k y1 y2 l1 l2 k1 k2
      defers := h.defers
      pins := fun j c hc => ⟨setE_D.2 (h.pins j c hc).1, (h.pins j c hc).2⟩ }

/-- The same of several. -/
theorem Rel.reviveAll (us : List Upd) : ∀ {S : St}, Rel Γ F ι S a w → (us.map (·.1)).Nodup → (∀ u ∈ us, S.ent u.1.1 u.1.2 = some .dead) → (∀ u ∈ us, RE w F S.D ι u.2 (ι u.1.1 u.1.2)) →
    (∀ u ∈ us, u.2.live = true → ∀ k, EB w u.2 (ι u.1.1 u.1.2) k → (¬ F k ∧ (Γ.own k ∨ Γ.w0.heap.size ≤ k)) ∧ ∀ g' j' e, S.ent g' j' = some e → e.live = true → ¬ EB w e (ι g' j') k) →
    (∀ u ∈ us, ∀ v ∈ us, ∀ k, u.2.live = true → v.2.live = true → EB w u.2 (ι u.1.1 u.1.2) k → EB w v.2 (ι v.1.1 v.1.2) k → u.1 = v.1) → Rel Γ F ι (S.upds us) a w := by
  induction us with
  | nil => intro S h _ _ _ _ _; exact h
  | cons u us ih =>
    intro S h hn hd hre hsep hpair
    obtain ⟨⟨g, j⟩, e'⟩ := u
    have hn' := List.nodup_cons.1 hn
    have hdead := hd ((g, j), e') (by simp)
    have h1 := h.revive hdead (hre ((g, j), e') (by simp)) (fun hl => hsep ((g, j), e') (by simp) hl)
    have hne : ∀ v ∈ us, ¬ (v.1.1 = g ∧ v.1.2 = j) := by
      intro v hv q
      exact hn'.1 (List.mem_map.2 ⟨v, hv, Prod.ext q.1 q.2⟩)
    refine ih h1 hn'.2 ?_ ?_ ?_ ?_
    · intro v hv
      rw [setE_ent_ne (hne v hv)]
      exact hd v (by simp [hv])
    · intro v hv
      exact (hre v (by simp [hv])).mono (fun _ _ _ => rfl) (fun _ y => y) (fun k x => setE_D.2 x) (fun _ _ _ => rfl) (fun _ _ _ => rfl)
    · intro v hv hl k hk
      refine ⟨(hsep v (by simp [hv]) hl k hk).1, ?_⟩
      intro g' j' e1 he1 hl1 hk1
      rw [setE_ent hdead] at he1
      split at he1
      · rename_i q
        injection he1 with he1
        subst he1
        obtain ⟨rfl, rfl⟩ := q
        have := hpair v (by simp [hv]) ((g', j'), e') (by simp) k hl hl1 hk hk1
        exact hne v hv ⟨by rw [this], by rw [this]⟩
      · exact (hsep v (by simp [hv]) hl k hk).2 g' j' e1 he1 hl1 hk1
    · intro x hx y hy
      exact hpair x (by simp [hx]) y (by simp [hy])

theorem setE_lay {S : St} {g j grp : Nat} {e : Ent} {new : List Ent} (h : g ≠ grp) : (S.setE g j e).lay grp new = (S.lay grp new).setE g j e := by
  unfold St.setE St.lay
  simp only [List.getElem?_set_ne (Ne.symm h)]
  cases hx : S.h[g]? with
  | none => rfl
  | some o => cases o with
    | none => rfl
    | some l => simp only [List.set_comm _ _ h]

theorem upds_lay {grp : Nat} {new : List Ent} : ∀ (us : List Upd) (S : St), (∀ u ∈ us, u.1.1 ≠ grp) → (S.upds us).lay grp new = (S.lay grp new).upds us
  | [], _, _ => rfl
  | ((g, j), e) :: us, S, h => by
    simp only [St.upds]
    rw [upds_lay us _ (fun u hu => h u (by simp [hu])), setE_lay (h ((g, j), e) (by simp))]

end

/-! ### What lies behind a call where something was handed over to be written -/
def outsM (grp : Nat) : Nat → List PM → List V → List (Option V) → Option (List Upd × List Ent)
  | _, [], [], [] => some ([], [])
  | j, _ :: ms, _ :: as, none :: os => outsM grp j ms as os
  | j, .ptr _ _ :: ms, .ptr g j0 0 :: as, some (.optr e cs) :: os =>
    let x := thawCs grp j cs
    match outsM grp (j + x.2.length) ms as os with
    | some (us, es) => some (((g, j0), .var e x.1) :: us, x.2 ++ es)
    | none => none
  | j, .row :: ms, .own g j0 _ 0 _ :: as, some (.osl e sz n rows) :: os =>
    match outsM grp j ms as os with
    | some (us, es) => some (((g, j0), .row e sz n rows) :: us, es)
    | none => none
  | j, .row :: ms, .own g j0 _ 0 _ :: as, some (.dsl e sz n rows) :: os =>
    match outsM grp j ms as os with
    | some (us, es) => some (((g, j0), .deep false e sz n rows) :: us, es)
    | none => none
  | _, _, _, _ => none

end Go.Proofs.Ythegkbaijmkhfaa
