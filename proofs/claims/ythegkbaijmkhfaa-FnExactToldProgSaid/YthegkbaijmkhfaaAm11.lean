/- Looks into entries, and rows that are never written again. -/
import Derived.Test.YthegkbaijmkhfaaAm10
set_option linter.unusedVariables false
set_option linter.unusedSimpArgs false
namespace Go.Proofs.Ythegkbaijmkhfaa
open Go

abbrev Upd := (Nat × Nat) × Ent

/-- A part of a row: all of it where it begins at the row's begin. -/
def partR (lo n n' : Nat) (rows : List (List V)) : Nat × List (List V) × List Prop :=
  match lo with
  | 0 => (n', rows, [n = n'])
  | lo + 1 => (n, (rows.drop (lo + 1)).take n, [lo + 1 + n ≤ n'])
theorem partR_spec {lo n n' : Nat} {rows : List (List V)} (hl : rows.length = n') (h : ∀ p ∈ (partR lo n n' rows).2.2, p) : lo + n ≤ n' ∧ (partR lo n n' rows).1 = n ∧ (partR lo n n' rows).2.1 = (rows.drop lo).take n := by
  cases lo with
  | zero =>
    have : n = n' := h _ (by simp [partR])
    subst this
    refine ⟨by omega, rfl, ?_⟩
    show rows = _
    rw [List.drop_zero, List.take_of_length_le (by omega)]
  | succ lo =>
    have : lo + 1 + n ≤ n' := h _ (by simp [partR])
    exact ⟨this, rfl, rfl⟩

/-- A cell that never changes again, the rows that are given up for it, and what must hold. -/
def fzP (ck : Option Nat) (v : V) : RdM (V × List Upd × List Prop) :=
  match v with
  | .own g j sz lo n => RdM.bind (RdM.rd g j) fun e =>
    match e with
    | .row _ sz' n' rows => if sz = sz' then RdM.pure (.sl sz (partR lo n n' rows).1 (partR lo n n' rows).2.1, [((g, j), .frz sz' n' rows)], (partR lo n n' rows).2.2) else RdM.no
    | .frz sz' n' rows => if sz = sz' then RdM.pure (.sl sz (partR lo n n' rows).1 (partR lo n n' rows).2.1, [], (partR lo n n' rows).2.2) else RdM.no
    | _ => RdM.no
  | .nil => match ck with
    | some sz => RdM.pure (.sl sz 0 [], [], [])
    | none => RdM.pure (.nil, [], [])
  | .sl sz n rows => RdM.pure (.sl sz n rows, [], [])
  | .b x => RdM.pure (.b x, [], [])
  | .i k n => RdM.pure (.i k n, [], [])
  | .s x => RdM.pure (.s x, [], [])
  | .fn f => RdM.pure (.fn f, [], [])
  | _ => RdM.no

def fzPs : List (Option Nat) → List V → RdM (List V × List Upd × List Prop)
  | _, [] => RdM.pure ([], [], [])
  | ck, v :: vs => RdM.bind (fzP (ck.headD none) v) fun x => RdM.bind (fzPs ck.tail vs) fun y => RdM.pure (x.1 :: y.1, x.2.1 ++ y.2.1, x.2.2 ++ y.2.2)

/-- Some rows have been given up. -/
def Frz (S S' : St) : Prop := (∀ g, S.D g ↔ S'.D g) ∧ S'.h.length = S.h.length ∧ S'.t = S.t ∧ ∀ g j e, S.ent g j = some e → S'.ent g j = some e ∨ ∃ e' sz n rows, e = .row e' sz n rows ∧ S'.ent g j = some (.frz sz n rows)

theorem Frz.refl (S : St) : Frz S S := ⟨fun _ => Iff.rfl, rfl, rfl, fun _ _ _ h => .inl h⟩

theorem RdM.bind_some {α β : Type} {m : RdM α} {f : α → RdM β} {H : Hp} {r : β × List (Nat × Nat)} (h : RdM.bind m f H = some r) : ∃ a l l', m H = some (a, l) ∧ f a H = some (r.1, l') ∧ r.2 = l ++ l' := by
  unfold RdM.bind at h
  split at h
  · rename_i a l hm
    split at h
    · rename_i b l' hf
      injection h with h
      subst h
      exact ⟨a, l, l', hm, hf, rfl⟩
    · cases h
  · cases h
theorem RdM.pure_some {α : Type} {a : α} {H : Hp} {r : α × List (Nat × Nat)} (h : RdM.pure a H = some r) : r = (a, []) := by
  unfold RdM.pure at h
  injection h with h
  exact h.symm
theorem RdM.rd_some {g j : Nat} {H : Hp} {r : Ent × List (Nat × Nat)} (h : RdM.rd g j H = some r) : H g j = some r.1 ∧ r.2 = [(g, j)] := by
  unfold RdM.rd at h
  split at h
  · rename_i e he
    injection h with h
    subst h
    exact ⟨he, rfl⟩
  · cases h
theorem RdM.lift_some {α : Type} {o : Option α} {H : Hp} {r : α × List (Nat × Nat)} (h : RdM.lift o H = some r) : o = some r.1 ∧ r.2 = [] := by
  unfold RdM.lift at h
  split at h
  · rename_i a
    injection h with h
    subst h
    exact ⟨rfl, rfl⟩
  · cases h

theorem set_same {α : Type} : ∀ {l : List α} {i : Nat} {x : α}, l[i]? = some x → l.set i x = l
  | [], _, _, h => by simp at h
  | y :: l, 0, x, h => by simp at h; subst h; rfl
  | y :: l, i + 1, x, h => by simp at h; simp [set_same h]

section
variable {Γ : Ctx} {F : Nat → Prop} {ι : Nat → Nat → Value} {S S' : St} {a : Act} {w : World}

theorem St.upds_t (S : St) : ∀ us : List Upd, (S.upds us).t = S.t
  | [] => rfl
  | ((g, j), e) :: us => by rw [St.upds, St.upds_t, setE_t]
theorem St.upds_append (S : St) : ∀ us vs : List Upd, S.upds (us ++ vs) = (S.upds us).upds vs
  | [], _ => rfl
  | ((g, j), e) :: us, vs => by simp only [List.cons_append, St.upds]; exact St.upds_append _ us vs
theorem upds_D (S : St) (g : Nat) : ∀ us : List Upd, (S.upds us).D g ↔ S.D g
  | [] => Iff.rfl
  | ((g', j), e) :: us => by rw [St.upds, upds_D, setE_D]
theorem St.upds_len (S : St) : ∀ us : List Upd, (S.upds us).h.length = S.h.length
  | [] => rfl
  | ((g', j), e) :: us => by rw [St.upds, St.upds_len, setE_len]

theorem FV.rows_len {w : World} {F : Nat → Prop} {sz n : Nat} {rows : List (List V)} {c : Value} (h : FV w F (.sl sz n rows) c) : rows.length = n := by
  cases h with
  | sl0 sz a cap => rfl
  | sl sz n rows g o cap ds hF hr hn hs hc hseg => exact hn

/-- A part of a row of the call's own that has been given up. -/
theorem frz_sub {D : Nat → Prop} {e sz n' lo n g j : Nat} {rows : List (List V)} {c : Value} (hr : FV w F (.sl sz n' rows) (ι g j)) (hc : RC w F D ι (.own g j sz lo n) c) (hle : lo + n ≤ n') : FV w F (.sl sz n ((rows.drop lo).take n)) c := by
  cases hc with
  | fv v c h => cases h
  | own g j sz lo n b nn cap hD hι hlo hb0 hb1 =>
    rw [hι] at hr
    obtain ⟨b', cap', he, _⟩ := sl_len hr
    injection he with h1 h2 h3
    subst h1; subst h2; subst h3
    exact hr.sub lo n hle
  | own0 g j sz lo b cap hD hlo =>
    simpa using FV.sl0 sz b cap

theorem fzP_run {ck : Option Nat} {v v' : V} {us : List Upd} {ps : List Prop} {lg : List (Nat × Nat)} {c : Value} (h : Rel Γ F ι S' a w) (hS : Frz S S') (hc : RC w F S'.D ι v c) (hf : fzP ck v S.ent = some ((v', us, ps), lg)) (hob : ∀ p ∈ ps, p) :
    ∃ F', (∀ k, F k → F' k) ∧ Rel Γ F' ι (S'.upds us) a w ∧ Frz S (S'.upds us) ∧ FV w F' v' c := by
  unfold fzP at hf
  split at hf
  · rename_i g j sz lo n
    obtain ⟨e, l, l', hrd, hf', hll⟩ := RdM.bind_some hf
    clear hf
    have hf := hf'
    clear hf' hll
    obtain ⟨he, hl⟩ := RdM.rd_some hrd
    clear hrd
    simp only at he hl
    split at hf
    · rename_i e0 sz' n' rows
      split at hf
      · rename_i hcond
        subst hcond
        have := RdM.pure_some hf
        injection this with h1 h2
        injection h1 with h1 h3
        injection h3 with h3 h4
        subst h1; subst h3; subst h4
        have hlen : rows.length = n' := by
          rcases hS.2.2.2 g j _ he with hs' | ⟨e', sz1, n1, rows1, hq, hs'⟩
          · obtain ⟨flat, _, _, hn, _⟩ := h.ents g j _ hs'
            exact hn
          · injection hq with q1 q2 q3 q4
            subst q1; subst q2; subst q3; subst q4
            have hr : FV w F (.sl sz n' rows) (ι g j) := h.ents g j _ hs'
            exact hr.rows_len
        obtain ⟨hle, hp1, hp2⟩ := partR_spec hlen hob
        rw [hp1, hp2]
        rcases hS.2.2.2 g j _ he with hs' | ⟨e', sz1, n1, rows1, hq, hs'⟩
        · obtain ⟨F', hF, _, hrel⟩ := h.freeze hs'
          refine ⟨F', hF, hrel, ⟨fun k => (hS.1 k).trans (setE_D.symm), setE_len.trans hS.2.1, setE_t.trans hS.2.2.1, ?_⟩, ?_⟩
          · intro g1 j1 e1 h1
            simp only [St.upds]
            rw [setE_ent hs']
            by_cases q : g1 = g ∧ j1 = j
            · obtain ⟨rfl, rfl⟩ := q
              rw [he] at h1
              injection h1 with h1
              subst h1
              exact .inr ⟨_, _, _, _, rfl, by simp⟩
            · rw [if_neg q]
              exact hS.2.2.2 g1 j1 e1 h1
          · have hre := hrel.ents g j (.frz sz n' rows) (by rw [setE_ent hs']; simp)
            exact frz_sub (D := S'.D) (e := e0) hre (hc.mono (fun _ _ _ => rfl) hF (fun _ x => x) (fun _ _ _ => rfl)) hle
        · injection hq with q1 q2 q3 q4
          subst q1; subst q2; subst q3; subst q4
          have hset : S'.setE g j (.frz sz n' rows) = S' := by
            obtain ⟨l, hl⟩ := St.D_of_ent hs'
            rw [setE_eq hl]
            rw [ent_eq hl] at hs'
            have h1 : l.set j (.frz sz n' rows) = l := set_same hs'
            rw [h1]
            have h2 : S'.h.set g (some l) = S'.h := set_same hl
            rw [h2]
          refine ⟨F, fun _ x => x, ?_, ?_, ?_⟩
          · simp only [St.upds, hset]; exact h
          · simp only [St.upds, hset]; exact hS
          · exact frz_sub (D := S'.D) (e := e0) (h.ents g j _ hs') hc hle
      · cases hf
    · rename_i sz' n' rows
      split at hf
      · rename_i hcond
        subst hcond
        have := RdM.pure_some hf
        injection this with h1 h2
        injection h1 with h1 h3
        injection h3 with h3 h4
        subst h1; subst h3; subst h4
        rcases hS.2.2.2 g j _ he with hs' | ⟨e', sz1, n1, rows1, hq, hs'⟩
        · have hr : FV w F (.sl sz n' rows) (ι g j) := h.ents g j _ hs'
          obtain ⟨hle, hp1, hp2⟩ := partR_spec hr.rows_len hob
          rw [hp1, hp2]
          exact ⟨F, fun _ x => x, h, hS, frz_sub (D := S'.D) (e := 0) (h.ents g j _ hs') hc hle⟩
        · cases hq
      · cases hf
    · cases hf
  all_goals
    first
      | (cases hf; done)
      | skip
  case h_2 =>
    have hcc : c = .slice none 0 0 := by
      cases hc with
      | fv v c h => cases h; rfl
    subst hcc
    split at hf
    · rename_i sz
      have := RdM.pure_some hf
      injection this with h1 h2
      injection h1 with h1 h3
      injection h3 with h3 h4
      subst h1; subst h3; subst h4
      exact ⟨F, fun _ x => x, h, hS, .sl0 sz none 0⟩
    · have := RdM.pure_some hf
      injection this with h1 h2
      injection h1 with h1 h3
      injection h3 with h3 h4
      subst h1; subst h3; subst h4
      exact ⟨F, fun _ x => x, h, hS, .nil⟩
  all_goals
    have := RdM.pure_some hf
    injection this with h1 h2
    injection h1 with h1 h3
    injection h3 with h3 h4
    subst h1; subst h3; subst h4
    refine ⟨F, fun _ x => x, h, hS, ?_⟩
    cases hc with
    | fv v c h => exact h

theorem fzPs_run {vs : List V} {cs : List Value} : ∀ {ck : List (Option Nat)} {vs' : List V} {us : List Upd} {ps : List Prop} {lg : List (Nat × Nat)} {F : Nat → Prop} {S' : St}, Rel Γ F ι S' a w → Frz S S' → All2 (RC w F S'.D ι) vs cs → fzPs ck vs S.ent = some ((vs', us, ps), lg) → (∀ p ∈ ps, p) →
    ∃ F', (∀ k, F k → F' k) ∧ Rel Γ F' ι (S'.upds us) a w ∧ Frz S (S'.upds us) ∧ FL w F' vs' cs := by
  induction vs generalizing cs with
  | nil =>
    intro ck vs' us ps lg F S' h hS hc hf hob
    have := RdM.pure_some hf
    injection this with h1 h2
    injection h1 with h1 h3
    injection h3 with h3 h4
    subst h1; subst h3; subst h4
    cases hc
    exact ⟨F, fun _ x => x, h, hS, .nil⟩
  | cons v vs ih =>
    intro ck vs' us ps lg F S' h hS hc hf hob
    cases hc with
    | cons hv ht =>
      obtain ⟨⟨v1, us1, ps1⟩, l1, l2, hf1, hf2, _⟩ := RdM.bind_some hf
      obtain ⟨⟨vs1, us2, ps2⟩, l3, l4, hf3, hf4, _⟩ := RdM.bind_some hf2
      have := RdM.pure_some hf4
      injection this with h1 h2
      injection h1 with h1 h3
      injection h3 with h3 h4
      subst h1; subst h3; subst h4
      obtain ⟨F1, hF1, hr1, hS1, hv1⟩ := fzP_run h hS hv hf1 (fun p hp => hob p (List.mem_append.2 (.inl hp)))
      have hD : ∀ k, S'.D k → (S'.upds us1).D k := fun k x => (upds_D S' k us1).2 x
      obtain ⟨F2, hF2, hr2, hS2, hv2⟩ := ih hr1 hS1 (ht.imp fun _ _ x => x.mono (fun _ _ _ => rfl) hF1 hD (fun _ _ _ => rfl)) hf3 (fun p hp => hob p (List.mem_append.2 (.inr hp)))
      rw [← St.upds_append] at hr2 hS2
      exact ⟨F2, fun k x => hF2 k (hF1 k x), hr2, hS2, .cons _ _ _ _ (hv1.mono (fun _ _ _ => rfl) hF2) hv2⟩

end

end Go.Proofs.Ythegkbaijmkhfaa
