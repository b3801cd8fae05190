/- A call. -/
import Derived.Test.YthegkbaijmkhfaaAm18
set_option linter.unusedVariables false
set_option linter.unusedSimpArgs false
namespace Go.Proofs.Ythegkbaijmkhfaa
open Go

def ScalC : V → Prop
  | .osl _ _ _ rows => ∀ r ∈ rows, ∀ c ∈ r, c.simple = true
  | .dsl _ _ _ _ => False
  | v => v.simple = true
def ScalA : V → Prop
  | .agg cs => ∀ c ∈ cs, ScalC c
  | .optr _ cs => ∀ c ∈ cs, ScalC c
  | v => ScalC v
def ScalR : V → Prop
  | .tup vs => ∀ v ∈ vs, ScalA v
  | v => ScalA v
def ScalO (outs : List (Option V)) : Prop := ∀ v, some v ∈ outs → ScalA v

section
variable {w : World} {F F' : Nat → Prop}

theorem FV.scal {v : V} {c : Value} (h : FV w F' v c) (hs : v.simple = true) : FV w F v c := by
  cases h <;> first | (simp [V.simple] at hs; done) | constructor
theorem FL.scal {vs : List V} {cs : List Value} (h : All2 (FV w F') vs cs) (hs : ∀ v ∈ vs, v.simple = true) : FL w F vs cs := by
  induction h with
  | nil => exact .nil
  | cons hv _ ih => exact .cons _ _ _ _ (hv.scal (hs _ (by simp))) (ih fun v hv => hs v (by simp [hv]))
theorem BC.scal {v : V} {c : Value} {f : List Nat} (h : BC w F' v c f) (hs : ScalC v) : BC w F v c f := by
  cases h with
  | fv v c h =>
    refine .fv _ _ (h.scal ?_)
    cases h <;> exact hs
  | osl e sz n rows c h =>
    obtain ⟨flat, h1, h2, h3, h4⟩ := h
    refine .osl _ _ _ _ _ ⟨flat, h1, FL.scal h2.all2 ?_, h3, h4⟩
    intro v hv
    obtain ⟨r, hr, hv⟩ := List.mem_flatten.1 hv
    exact hs r hr v hv
  | dsl => exact hs.elim
theorem BL.scal : ∀ {vs : List V} {cs : List Value} {f : List Nat}, BL w F' vs cs f → (∀ v ∈ vs, ScalC v) → BL w F vs cs f
  | _, _, _, .nil, _ => .nil
  | _, _, _, .cons v c f vs cs fs h t, hs => .cons _ _ _ _ _ _ (h.scal (hs v (by simp))) (BL.scal t fun v hv => hs v (by simp [hv]))
theorem BA.scal {v : V} {c : Value} {f : List Nat} (h : BA w F' v c f) (hs : ScalA v) : BA w F v c f := by
  cases h with
  | cell v c f h =>
    refine .cell _ _ _ (h.scal ?_)
    cases h with
    | fv v c h => cases h <;> exact hs
    | osl e sz n rows c h => exact hs
    | dsl => exact hs
  | agg cs ds f h => exact .agg _ _ _ (h.scal hs)
  | optr e cs g cur f hg h => exact .optr _ _ _ _ _ hg (h.scal hs)
theorem BS.scal {vs : List V} {cs : List Value} {f : List Nat} (h : BS w F' vs cs f) : (∀ v ∈ vs, ScalA v) → BS w F vs cs f := by
  induction h with
  | nil => exact fun _ => .nil
  | cons v c f vs cs fs h t ih => exact fun hs => .cons _ _ _ _ _ _ (h.scal (hs v (by simp))) (ih fun v hv => hs v (by simp [hv]))
theorem BR.scal {v : V} {c : Value} {f : List Nat} (h : BR w F' v c f) (hs : ScalR v) : BR w F v c f := by
  cases h with
  | one v c f h =>
    refine .one _ _ _ (h.scal ?_)
    cases h with
    | cell v c f h => cases h with
      | fv v c h => cases h <;> exact hs
      | osl e sz n rows c h => exact hs
      | dsl => exact hs
    | agg cs ds f h => exact hs
    | optr e cs g cur f hg h => exact hs
  | tup vs cs f h => exact .tup _ _ _ (h.scal hs)
theorem BO.scal {vs : List (Option V)} {cs : List Value} {f : List Nat} (h : BO w F' vs cs f) : ScalO vs → BO w F vs cs f := by
  induction h with
  | nil => exact fun _ => .nil
  | skip c vs cs fs t ih => exact fun hs => .skip _ _ _ _ (ih fun v hv => hs v (by simp [hv]))
  | cons v c f vs cs fs h t ih => exact fun hs => .cons _ _ _ _ _ _ (h.scal (hs v (by simp))) (ih fun v hv => hs v (by simp [hv]))
end

theorem perm_mid {A B C : List Nat} {X : List Nat} (h : X.Perm (A ++ B)) : (C ++ X).Perm (A ++ (C ++ B)) := by
  refine (List.Perm.append_left C h).trans ?_
  rw [← List.append_assoc, ← List.append_assoc]
  exact List.Perm.append_right B List.perm_append_comm

/-- Where a row is handed over to be written it is the whole row. -/
inductive Rw (ι : Nat → Nat → Value) : List PM → List V → List Value → Prop
  | nil (ms) : Rw ι ms [] []
  | row (ms v c vs cs) (h : ∀ g j sz n, v = .own g j sz 0 n → c = ι g j) (t : Rw ι ms vs cs) : Rw ι (.row :: ms) (v :: vs) (c :: cs)
  | other (m ms v c vs cs) (h : m ≠ .row) (t : Rw ι ms vs cs) : Rw ι (m :: ms) (v :: vs) (c :: cs)

theorem rw_of {Γ : Ctx} {F : Nat → Prop} {ι : Nat → Nat → Value} {S : St} {a : Act} {w : World} (h : Rel Γ F ι S a w) {vs : List V} {cs : List Value} (hc : All2 (RV w F S.D ι) vs cs) : ∀ {ms : List PM} {r : AR (List V)} {lg : List (Nat × Nat)}, argsM ms vs S.ent = some (r, lg) → (∀ p ∈ r.obl, p) → Rw ι ms vs cs := by
  induction hc with
  | nil => exact fun _ _ => .nil _
  | cons hv ht ih =>
    intro ms r lg hm hob
    cases ms with
    | nil => cases hm
    | cons m ms =>
    obtain ⟨x, l1, l2, hx, hm1, _⟩ := RdM.bind_some hm
    obtain ⟨y, l3, l4, hy, hm2, _⟩ := RdM.bind_some hm1
    have := RdM.pure_some hm2
    injection this with h1 h2
    subst h1
    have t := ih hy (fun p hp => hob p (List.mem_append.2 (.inr hp)))
    cases m with
    | row =>
      refine .row _ _ _ _ _ ?_ t
      intro g j sz n hvv
      subst hvv
      unfold argM at hx
      simp only at hx
      obtain ⟨en, q1, q2, hrd, hp, hl12⟩ := RdM.bind_some hx
      have he := (RdM.rd_some hrd).1
      simp only at he
      have hre := h.ents g j en he
      cases en <;> try (cases hp; done)
      case row e' sz' n' rows =>
        simp only at hp
        split at hp <;> try (cases hp; done)
        rename_i hcond
        subst hcond
        have := RdM.pure_some hp
        injection this with h1 h2
        have hnn : n = n' := hob _ (List.mem_append.2 (.inl (by rw [h1]; simp)))
        subst hnn
        exact own_whole hv hre
      case deep o e' sz' n' rows =>
        cases o <;> try (cases hp; done)
        simp only at hp
        split at hp <;> try (cases hp; done)
        rename_i hcond
        subst hcond
        have := RdM.pure_some hp
        injection this with h1 h2
        have hnn : n = n' := hob _ (List.mem_append.2 (.inl (by rw [h1]; simp)))
        subst hnn
        obtain ⟨flat, fs, ho, _⟩ := hre
        exact own_wholeO hv ho
    | val ck om => exact .other _ _ _ _ _ _ (by simp) t
    | ptr ck om => exact .other _ _ _ _ _ _ (by simp) t

theorem outsM_run {w w' : World} {F F' D0 : Nat → Prop} {ι : Nat → Nat → Value} {grp : Nat} {args : List V} {cargs : List Value} (hargs : All2 (RV w F D0 ι) args cargs) : ∀ {j : Nat} {ms : List PM} {outs : List (Option V)} {fo : List Nat} {us : List Upd} {es : List Ent},
    Rw ι ms args cargs → BO w' F' outs cargs fo → outsM grp j ms args outs = some (us, es) →
    ∃ (bs : List Value) (fu fb : List Nat), bs.length = es.length ∧ fo.Perm (fu ++ fb) ∧ Has w' (us.map (·.2)) (us.map fun u => ι u.1.1 u.1.2) fu ∧ Has w' es bs fb ∧ (∀ u ∈ us, D0 u.1.1) ∧
      ∀ (D : Nat → Prop) (ι' : Nat → Nat → Value), D grp → At ι' grp j bs → fo.Nodup → Lie w' F' D ι' es bs ∧ ∀ u ∈ us, RE w' F' D ι' u.2 (ι u.1.1 u.1.2) := by
  induction hargs with
  | nil =>
    intro j ms outs fo us es hrw hbo hm
    cases hbo
    cases ms with
    | nil =>
      simp [outsM] at hm
      obtain ⟨rfl, rfl⟩ := hm
      exact ⟨[], [], [], rfl, .nil, .nil, .nil, by simp, fun D ι' hD hat _ => ⟨fun k e b he => by simp at he, by simp⟩⟩
    | cons m ms => simp [outsM] at hm
  | @cons v c vs cs hv ht ih =>
    intro j ms outs fo us es hrw hbo hm
    cases ms with
    | nil => cases hrw
    | cons m ms =>
    have hrw' : Rw ι ms vs cs := by cases hrw <;> assumption
    cases hbo with
    | skip c os cs fs t =>
      have hm' : outsM grp j ms vs os = some (us, es) := by
        unfold outsM at hm
        exact hm
      exact ih hrw' t hm'
    | cons o c f os cs fs h t =>
      unfold outsM at hm
      split at hm <;> try (cases hm; done)
      · rename_i heq; cases heq
      · rename_i heq; cases heq
      · rename_i jj _ _ _ _ ck om ms' g j0 as e cs' os' h0 h1 h2
        cases h1
        cases h0
        injection h2 with h2 h3
        injection h2 with h2
        subst h2; subst h3
        simp only at hm
        split at hm <;> try (cases hm; done)
        rename_i us' es' hrec
        injection hm with hm
        injection hm with hm1 hm2
        subst hm1; subst hm2
        obtain ⟨hD0, b, hι, hc⟩ := hv.inv_ptr
        obtain ⟨g', cur, f', hg, hbl, hf, hc'⟩ : ∃ g' cur f', w'.heap[g']? = some (.cells cur e (0, 0)) ∧ BL w' F' cs' cur.toList f' ∧ f = g' :: f' ∧ c = .pointer (some ⟨g', 0, none⟩) := by
          cases h with
          | cell v c f h => cases h with
            | fv v c h => cases h
          | optr e cs g cur f hg h => exact ⟨_, _, _, hg, h, rfl, rfl⟩
        rw [hc] at hc'
        injection hc' with hc'
        injection hc' with hc'
        injection hc' with hc'
        subst hc'
        subst hf
        obtain ⟨b1, hl1, hf1, hr1⟩ := thawCs_run (grp := grp) hbl jj
        obtain ⟨b2, fu2, fb2, hl2, hp2, hhu, hhb, hd2, hr2⟩ := ih hrw' t hrec
        refine ⟨b1 ++ b2, b :: fu2, f' ++ fb2, by simp [hl1, hl2], ?_, ?_, hf1.append hhb hl1, ?_, ?_⟩
        · simp only [List.cons_append]
          exact .cons _ (perm_mid hp2)
        · exact Has.cons (f1 := [b]) (fun k hk => by
            have hk : blk (ι g j0) = some k := hk
            rw [hι] at hk
            simp [blk] at hk
            simp [hk]) hhu
        · intro u hu
          rcases List.mem_cons.1 hu with rfl | hu
          · exact hD0
          · exact hd2 u hu
        · intro D ι' hD hat hnd
          rw [List.cons_append, List.nodup_cons, List.nodup_append] at hnd
          obtain ⟨x1, y1⟩ := hr1 D ι' hD hat.left hnd.2.1
          obtain ⟨x2, y2⟩ := hr2 D ι' hD (by rw [← hl1]; exact hat.right) hnd.2.2.1
          refine ⟨y1.append x2 hl1.symm, ?_⟩
          intro u hu
          rcases List.mem_cons.1 hu with rfl | hu
          · exact ⟨b, cur, hι, hg, x1⟩
          · exact y2 u hu
      · rename_i ms' g j0 q1 q2 as e sz n rows os' h0 h1 h2
        cases h1
        cases h0
        injection h2 with h2 h3
        injection h2 with h2
        subst h2; subst h3
        split at hm <;> try (cases hm; done)
        rename_i us' es' hrec
        injection hm with hm
        injection hm with hm1 hm2
        subst hm1; subst hm2
        have hw : c = ι g j0 := by
          cases hrw with
          | row ms v c vs cs h t => exact h g j0 _ _ rfl
          | other m ms v c vs cs h t => exact absurd rfl h
        have hD0 := hv.inv_own.1
        obtain ⟨hor, hf⟩ : OR w' F' e sz c n rows ∧ f = fpb c := by
          cases h with
          | cell v c f h => cases h with
            | fv v c h => cases h
            | osl e sz n rows c h => exact ⟨h, rfl⟩
        subst hf
        obtain ⟨b2, fu2, fb2, hl2, hp2, hhu, hhb, hd2, hr2⟩ := ih hrw' t hrec
        refine ⟨b2, fpb c ++ fu2, fb2, hl2, ?_, ?_, hhb, ?_, ?_⟩
        · rw [List.append_assoc]
          exact List.Perm.append_left _ hp2
        · exact Has.cons (fun k hk => by rw [hw]; exact mem_fpb.2 hk) hhu
        · intro u hu
          rcases List.mem_cons.1 hu with rfl | hu
          · exact hD0
          · exact hd2 u hu
        · intro D ι' hD hat hnd
          rw [List.nodup_append] at hnd
          obtain ⟨x2, y2⟩ := hr2 D ι' hD hat hnd.2.1
          refine ⟨x2, ?_⟩
          intro u hu
          rcases List.mem_cons.1 hu with rfl | hu
          · rw [← hw]; exact hor
          · exact y2 u hu
      · rename_i ms' g j0 q1 q2 as e sz n rows os' h0 h1 h2
        cases h1
        cases h0
        injection h2 with h2 h3
        injection h2 with h2
        subst h2; subst h3
        split at hm <;> try (cases hm; done)
        rename_i us' es' hrec
        injection hm with hm
        injection hm with hm1 hm2
        subst hm1; subst hm2
        have hw : c = ι g j0 := by
          cases hrw with
          | row ms v c vs cs h t => exact h g j0 _ _ rfl
          | other m ms v c vs cs h t => exact absurd rfl h
        have hD0 := hv.inv_own.1
        obtain ⟨flat, fs, ho, hbl, hn, hl, hf⟩ : ∃ flat fs, w'.ownsRow 0 e sz c n flat ∧ BL w' F' rows.flatten flat fs ∧ rows.length = n ∧ (∀ r ∈ rows, r.length = sz) ∧ f = fpb c ++ fs := by
          cases h with
          | cell v c f h => cases h with
            | fv v c h => cases h
            | dsl e sz n rows c flat fs ho hr hn hl => exact ⟨flat, fs, ho, hr, hn, hl, rfl⟩
        subst hf
        obtain ⟨b2, fu2, fb2, hl2, hp2, hhu, hhb, hd2, hr2⟩ := ih hrw' t hrec
        refine ⟨b2, (fpb c ++ fs) ++ fu2, fb2, hl2, ?_, ?_, hhb, ?_, ?_⟩
        · rw [List.append_assoc (fpb c ++ fs)]
          exact List.Perm.append_left _ hp2
        · refine Has.cons (fun k hk => ?_) hhu
          have hk : EB w' (.deep false e sz n rows) (ι g j0) k := hk
          rw [← hw] at hk
          exact (EB.deep_iff (D := fun _ => True) (ι := fun _ _ => .nilFunc) ho hbl.kl).1 hk
        · intro u hu
          rcases List.mem_cons.1 hu with rfl | hu
          · exact hD0
          · exact hd2 u hu
        · intro D ι' hD hat hnd
          rw [List.nodup_append] at hnd
          obtain ⟨x2, y2⟩ := hr2 D ι' hD hat hnd.2.1
          refine ⟨x2, ?_⟩
          intro u hu
          rcases List.mem_cons.1 hu with rfl | hu
          · rw [← hw]; exact ⟨flat, fs, ho, hbl.kl, hn, hl, hnd.1, fun _ => NoRef.of_flat hbl.noRef⟩
          · exact y2 u hu

end Go.Proofs.Ythegkbaijmkhfaa
