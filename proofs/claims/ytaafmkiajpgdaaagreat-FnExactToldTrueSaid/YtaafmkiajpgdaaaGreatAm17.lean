/- What a call is handed. -/
import Derived.Test.YtaafmkiajpgdaaaGreatAm16
set_option linter.unusedVariables false
set_option linter.unusedSimpArgs false
namespace Go.Proofs.YtaafmkiajpgdaaaGreat
open Go

/-- What is handed over: the value at the border, the entries given up for it, the rows that are looked at, what must hold. -/
structure AR (α : Type) where
  v : α
  ks : List (Nat × Nat) := []
  ls : List (Nat × Nat) := []
  obl : List Prop := []

def cellM (ck om : Option Nat) (v : V) : RdM (AR V) :=
  match om with
  | some e => match v with
    | .nil => RdM.pure { v := .osl e (ck.getD 0) 0 [] }
    | .own g j sz 0 n => RdM.bind (RdM.rd g j) fun en => match en with
      | .row e' sz' n' rows => if e' = e ∧ sz' = sz then RdM.pure { v := .osl e sz n' rows, ks := [(g, j)], obl := [n = n'] } else RdM.no
      | _ => RdM.no
    | _ => RdM.no
  | none => match v with
    | .own g j sz lo n => RdM.bind (RdM.rd g j) fun en => match en with
      | .row _ sz' n' rows => if sz = sz' then RdM.pure { v := .sl sz (partR lo n n' rows).1 (partR lo n n' rows).2.1, ls := [(g, j)], obl := (partR lo n n' rows).2.2 } else RdM.no
      | .frz sz' n' rows => if sz = sz' then RdM.pure { v := .sl sz (partR lo n n' rows).1 (partR lo n n' rows).2.1, obl := (partR lo n n' rows).2.2 } else RdM.no
      | _ => RdM.no
    | .nil => match ck with
      | some sz => RdM.pure { v := .sl sz 0 [] }
      | none => RdM.pure { v := .nil }
    | .sl sz n rows => RdM.pure { v := .sl sz n rows }
    | .b x => RdM.pure { v := .b x }
    | .i k n => RdM.pure { v := .i k n }
    | .s x => RdM.pure { v := .s x }
    | .fn f => RdM.pure { v := .fn f }
    | _ => RdM.no

def cellsM : List (Option Nat) → List (Option Nat) → List V → RdM (AR (List V))
  | _, _, [] => RdM.pure { v := [] }
  | ck, om, v :: vs => RdM.bind (cellM (ck.headD none) (om.headD none) v) fun x => RdM.bind (cellsM ck.tail om.tail vs) fun y =>
    RdM.pure { v := x.v :: y.v, ks := x.ks ++ y.ks, ls := x.ls ++ y.ls, obl := x.obl ++ y.obl }

def argM (m : PM) (v : V) : RdM (AR V) :=
  match m with
  | .val ck om => match v with
    | .agg cs => RdM.bind (cellsM ck om cs) fun x => RdM.pure { v := .agg x.v, ks := x.ks, ls := x.ls, obl := x.obl }
    | .tup _ => RdM.no
    | .bot => RdM.no
    | v => cellM (ck.headD none) (om.headD none) v
  | .ptr ck om => match v with
    | .ptr g j 0 => RdM.bind (RdM.rd g j) fun en => match en with
      | .var e cs => RdM.bind (cellsM ck om cs) fun x => RdM.pure { v := .optr e x.v, ks := (g, j) :: x.ks, ls := x.ls, obl := x.obl }
      | _ => RdM.no
    | _ => RdM.no
  | .row => match v with
    | .own g j sz 0 n => RdM.bind (RdM.rd g j) fun en => match en with
      | .row e sz' n' rows => if sz' = sz then RdM.pure { v := .osl e sz n' rows, ks := [(g, j)], obl := [n = n'] } else RdM.no
      | _ => RdM.no
    | _ => RdM.no

def argsM : List PM → List V → RdM (AR (List V))
  | _, [] => RdM.pure { v := [] }
  | m :: ms, v :: vs => RdM.bind (argM m v) fun x => RdM.bind (argsM ms vs) fun y =>
    RdM.pure { v := x.v :: y.v, ks := x.ks ++ y.ks, ls := x.ls ++ y.ls, obl := x.obl ++ y.obl }
  | [], _ :: _ => RdM.no

def fpOf (ι : Nat → Nat → Value) (ks : List (Nat × Nat)) : List Nat := (ks.map fun id => ι id.1 id.2).filterMap blk

theorem fpOf_append (ι : Nat → Nat → Value) (xs ys : List (Nat × Nat)) : fpOf ι (xs ++ ys) = fpOf ι xs ++ fpOf ι ys := by simp [fpOf]

section
variable {Γ : Ctx} {F F1 : Nat → Prop} {ι : Nat → Nat → Value} {S : St} {a : Act} {w : World}

/-- What is handed over is live, what is looked at is a row. -/
structure Fit (S : St) (ι : Nat → Nat → Value) (F1 : Nat → Prop) (ks ls : List (Nat × Nat)) : Prop where
  live : ∀ id ∈ ks, ∃ e, S.ent id.1 id.2 = some e ∧ e.live = true

theorem own_whole {D : Nat → Prop} {g j e sz n : Nat} {rows : List (List V)} {c : Value} (hc : RV w F D ι (.own g j sz 0 n) c) (ho : OR w F e sz (ι g j) n rows) : c = ι g j := by
  obtain ⟨flat, hown0, _⟩ := ho
  obtain ⟨hD, ⟨b, nn, cap, hι, hlo, hb0, hb1, hc⟩ | ⟨hl0', _⟩⟩ := hc.inv_own
  case inr => omega
  rcases hown0.2 with ⟨hv, hz⟩ | ⟨g0, cap0, cur, hv, _⟩
  · rw [hι] at hv
    injection hv with e1 e2 e3
    subst e1; subst e2; subst e3; subst hz
    rw [hc, hι]; simp
  · rw [hι] at hv
    injection hv with e1 e2 e3
    subst e1; subst e2; subst e3
    rw [hc, hι]
    by_cases q : cap = 0
    · simp [q]
    · simp [q, Addr.add]

theorem OR.mono {F' : Nat → Prop} (hF : ∀ k, F k → F' k) {e sz n : Nat} {rows : List (List V)} {c : Value} (h : OR w F e sz c n rows) : OR w F' e sz c n rows := by
  obtain ⟨flat, h1, h2, h3, h4⟩ := h
  exact ⟨flat, h1, h2.mono (fun _ _ _ => rfl) hF, h3, h4⟩

theorem row_sub {D : Nat → Prop} {e sz n' lo n g j : Nat} {rows : List (List V)} {c : Value} (hF : ∀ k, F k → F1 k) (hr : OR w F e sz (ι g j) n' rows) (hb : ∀ k, blk (ι g j) = some k → F1 k) (hc : RC w F D ι (.own g j sz lo n) c) (hle : lo + n ≤ n') : FV w F1 (.sl sz n ((rows.drop lo).take n)) c := by
  have hfv : FV w F1 (.sl sz n' rows) (ι g j) := by
    obtain ⟨flat, ho, hf, hn, hl⟩ := hr
    rcases ho.2 with ⟨hv, h0⟩ | ⟨g0, cap, cur, hv, _, hg, hnc, hcm, hcs, ht⟩
    · rw [hv]
      subst h0
      have : rows = [] := List.eq_nil_of_length_eq_zero hn
      subst this
      exact .sl0 sz none 0
    · have hb' := hb g0 (by rw [hv]; rfl)
      rw [hv]
      refine .sl sz n' rows g0 0 cap flat hb' (hf.mono (fun _ _ _ => rfl) hF) hn hl hnc ?_
      intro q u hu
      rw [cell_of_row w g0 (0 + q) cur e (0, 0) hg, Nat.zero_add]
      rw [← ht, List.getElem?_take] at hu
      split at hu
      · simpa using hu
      · cases hu
  exact frz_sub (e := 0) (D := D) hfv (hc.mono (fun _ _ _ => rfl) hF (fun _ x => x) (fun _ _ _ => rfl)) hle

theorem cellM_run (h : Rel Γ F ι S a w) (hF : ∀ k, F k → F1 k) {ck om : Option Nat} {v : V} {c : Value} {r : AR V} {lg : List (Nat × Nat)} (hc : RC w F S.D ι v c) (hm : cellM ck om v S.ent = some (r, lg)) (hob : ∀ p ∈ r.obl, p)
    (hL : ∀ id ∈ r.ls, ∀ k, blk (ι id.1 id.2) = some k → F1 k) : BC w F1 r.v c (fpOf ι r.ks) ∧ (∀ id ∈ r.ks, ∃ e, S.ent id.1 id.2 = some e ∧ e.live = true) ∧ (∀ id ∈ r.ls, ∃ e sz n rows, S.ent id.1 id.2 = some (.row e sz n rows)) := by
  unfold cellM at hm
  cases om with
  | some e =>
    simp only at hm
    cases v <;> try (cases hm; done)
    case nil =>
      have := RdM.pure_some hm
      injection this with h1 h2
      subst h1
      have hcc : c = .slice none 0 0 := (RV.cell hc).inv_nil
      subst hcc
      refine ⟨?_, by simp, by simp⟩
      have := BC.osl (w := w) (F := F1) e (ck.getD 0) 0 [] (.slice none 0 0) ⟨[], World.ownsRow_nil w 0 e _, .nil, rfl, by simp⟩
      exact this
    case own g j sz lo n =>
      cases lo with
      | succ q => cases hm
      | zero =>
      simp only at hm
      obtain ⟨en, l1, l2, hrd, hp, hl12⟩ := RdM.bind_some hm
      clear hm
      have he := (RdM.rd_some hrd).1
      simp only at he
      have hre := h.ents g j en he
      cases en <;> try (cases hp; done)
      case row e' sz' n' rows =>
        simp only at hp
        split at hp <;> try (cases hp; done)
        rename_i hcond
        obtain ⟨rfl, rfl⟩ := hcond
        have := RdM.pure_some hp
        injection this with h1 h2
        subst h1
        have hnn : n = n' := hob _ (by simp)
        subst hnn
        have hcw := own_whole (RV.cell hc) hre
        subst hcw
        refine ⟨?_, ?_, by simp⟩
        · have : fpOf ι [(g, j)] = fpb (ι g j) := filterMap_fpb _
          rw [this]
          exact .osl _ _ _ _ _ (OR.mono hF hre)
        · intro id hid
          simp at hid
          subst hid
          exact ⟨_, he, rfl⟩
  | none =>
    simp only at hm
    cases v <;> try (cases hm; done)
    case own g j sz lo n =>
      simp only at hm
      obtain ⟨en, l1, l2, hrd, hp, hl12⟩ := RdM.bind_some hm
      clear hm
      have he := (RdM.rd_some hrd).1
      simp only at he
      have hre := h.ents g j en he
      cases en <;> try (cases hp; done)
      case row e' sz' n' rows =>
        simp only at hp
        split at hp <;> try (cases hp; done)
        rename_i hcond
        subst hcond
        have := RdM.pure_some hp
        injection this with h1 h2
        subst h1
        obtain ⟨flat, _, _, hn', _⟩ := id hre
        obtain ⟨hle, hp1, hp2⟩ := partR_spec hn' hob
        simp only [hp1, hp2]
        refine ⟨.fv _ _ (row_sub hF hre (hL (g, j) (by simp)) hc hle), by simp, ?_⟩
        intro id hid
        simp at hid
        subst hid
        exact ⟨_, _, _, _, he⟩
      case frz sz' n' rows =>
        simp only at hp
        split at hp <;> try (cases hp; done)
        rename_i hcond
        subst hcond
        have := RdM.pure_some hp
        injection this with h1 h2
        subst h1
        have hr : FV w F (.sl sz n' rows) (ι g j) := hre
        obtain ⟨hle, hp1, hp2⟩ := partR_spec hr.rows_len hob
        simp only [hp1, hp2]
        exact ⟨.fv _ _ ((frz_sub (e := 0) (D := S.D) hre hc hle).mono (fun _ _ _ => rfl) hF), by simp, by simp⟩
    case nil =>
      have hcc : c = .slice none 0 0 := (RV.cell hc).inv_nil
      subst hcc
      cases ck with
      | some sz =>
        have := RdM.pure_some hm
        injection this with h1 h2
        subst h1
        exact ⟨.fv _ _ (.sl0 sz none 0), by simp, by simp⟩
      | none =>
        have := RdM.pure_some hm
        injection this with h1 h2
        subst h1
        exact ⟨.fv _ _ .nil, by simp, by simp⟩
    all_goals
      have := RdM.pure_some hm
      injection this with h1 h2
      subst h1
      refine ⟨.fv _ _ ?_, by simp, by simp⟩
      cases hc with
      | fv v c h => exact h.mono (fun _ _ _ => rfl) hF

/-- What is told of what is handed over. -/
def Handed (S : St) (ks ls : List (Nat × Nat)) : Prop := (∀ id ∈ ks, ∃ e, S.ent id.1 id.2 = some e ∧ e.live = true) ∧ (∀ id ∈ ls, ∃ e sz n rows, S.ent id.1 id.2 = some (.row e sz n rows))

theorem Handed.append {S : St} {k1 k2 l1 l2 : List (Nat × Nat)} (h : Handed S k1 l1) (h' : Handed S k2 l2) : Handed S (k1 ++ k2) (l1 ++ l2) :=
  ⟨fun id hid => (List.mem_append.1 hid).elim (h.1 id) (h'.1 id), fun id hid => (List.mem_append.1 hid).elim (h.2 id) (h'.2 id)⟩

theorem cellsM_run (h : Rel Γ F ι S a w) (hF : ∀ k, F k → F1 k) {vs : List V} {cs : List Value} (hc : All2 (RC w F S.D ι) vs cs) : ∀ {ck om : List (Option Nat)} {r : AR (List V)} {lg : List (Nat × Nat)}, cellsM ck om vs S.ent = some (r, lg) → (∀ p ∈ r.obl, p) →
    (∀ id ∈ r.ls, ∀ k, blk (ι id.1 id.2) = some k → F1 k) → BL w F1 r.v cs (fpOf ι r.ks) ∧ Handed S r.ks r.ls := by
  induction hc with
  | nil =>
    intro ck om r lg hm hob hL
    have := RdM.pure_some hm
    injection this with h1 h2
    subst h1
    exact ⟨.nil, by simp [Handed]⟩
  | cons hv ht ih =>
    intro ck om r lg hm hob hL
    obtain ⟨x, l1, l2, hx, hm1, _⟩ := RdM.bind_some hm
    obtain ⟨y, l3, l4, hy, hm2, _⟩ := RdM.bind_some hm1
    have := RdM.pure_some hm2
    injection this with h1 h2
    subst h1
    obtain ⟨b1, k1, k2⟩ := cellM_run h hF hv hx (fun p hp => hob p (List.mem_append.2 (.inl hp))) (fun id hid => hL id (List.mem_append.2 (.inl hid)))
    obtain ⟨b2, hh⟩ := ih hy (fun p hp => hob p (List.mem_append.2 (.inr hp))) (fun id hid => hL id (List.mem_append.2 (.inr hid)))
    refine ⟨?_, Handed.append ⟨k1, k2⟩ hh⟩
    simp only [fpOf_append]
    exact .cons _ _ _ _ _ _ b1 b2

theorem argM_run (h : Rel Γ F ι S a w) (hF : ∀ k, F k → F1 k) {m : PM} {v : V} {c : Value} {r : AR V} {lg : List (Nat × Nat)} (hc : RV w F S.D ι v c) (hm : argM m v S.ent = some (r, lg)) (hob : ∀ p ∈ r.obl, p)
    (hL : ∀ id ∈ r.ls, ∀ k, blk (ι id.1 id.2) = some k → F1 k) : BA w F1 r.v c (fpOf ι r.ks) ∧ Handed S r.ks r.ls := by
  have cell : ∀ {v : V} {ck om : Option Nat}, RV w F S.D ι v c → (∀ cs, v ≠ .agg cs) → (∀ cs, v ≠ .tup cs) → v ≠ .bot → cellM ck om v S.ent = some (r, lg) → BA w F1 r.v c (fpOf ι r.ks) ∧ Handed S r.ks r.ls := by
    intro v ck om hc h1 h2 h3 hm
    have hrc : RC w F S.D ι v c := by
      cases hc with
      | one v c h => cases h with
        | cell v c h => exact h
        | agg cs ds h => exact absurd rfl (h1 cs)
      | tup cs ds h => exact absurd rfl (h2 cs)
      | any c => exact absurd rfl h3
    obtain ⟨b, k⟩ := cellM_run h hF hrc hm hob hL
    exact ⟨.cell _ _ _ b, k⟩
  cases m with
  | val ck om =>
    unfold argM at hm
    cases v <;> try (cases hm; done)
    case agg cs =>
      simp only at hm
      obtain ⟨x, l1, l2, hx, hm1, _⟩ := RdM.bind_some hm
      have := RdM.pure_some hm1
      injection this with h1 h2
      subst h1
      obtain ⟨ds, rfl, hall⟩ := hc.inv_agg
      obtain ⟨b, hh⟩ := cellsM_run h hF hall hx hob hL
      exact ⟨.agg _ _ _ b, hh⟩
    all_goals exact cell hc (by simp) (by simp) (by simp) hm
  | ptr ck om =>
    unfold argM at hm
    cases v <;> try (cases hm; done)
    case ptr g j off =>
      cases off with
      | succ q => cases hm
      | zero =>
      simp only at hm
      obtain ⟨en, l1, l2, hrd, hp, hl12⟩ := RdM.bind_some hm
      clear hm
      have he := (RdM.rd_some hrd).1
      simp only at he
      have hre := h.ents g j en he
      cases en <;> try (cases hp; done)
      case var e cs =>
        simp only at hp
        obtain ⟨x, l3, l4, hx, hm1, _⟩ := RdM.bind_some hp
        have := RdM.pure_some hm1
        injection this with h1 h2
        subst h1
        obtain ⟨hD, b, hι, rfl⟩ := hc.inv_ptr
        obtain ⟨g0, cur, h1, hg, hall⟩ := hre
        rw [hι] at h1
        injection h1 with h1
        injection h1 with h1
        injection h1 with h1
        subst h1
        obtain ⟨bl, hh⟩ := cellsM_run h hF hall hx hob hL
        have hfp : fpOf ι ((g, j) :: x.ks) = b :: fpOf ι x.ks := by simp [fpOf, hι, blk]
        simp only [hfp]
        refine ⟨.optr _ _ _ _ _ hg bl, ?_, hh.2⟩
        intro id hid
        rcases List.mem_cons.1 hid with rfl | hid
        · exact ⟨_, he, rfl⟩
        · exact hh.1 id hid
  | row =>
    unfold argM at hm
    cases v <;> try (cases hm; done)
    case own g j sz lo n =>
      cases lo with
      | succ q => cases hm
      | zero =>
      simp only at hm
      obtain ⟨en, l1, l2, hrd, hp, hl12⟩ := RdM.bind_some hm
      clear hm
      have he := (RdM.rd_some hrd).1
      simp only at he
      have hre := h.ents g j en he
      cases en <;> try (cases hp; done)
      case row e' sz' n' rows =>
        simp only at hp
        split at hp <;> try (cases hp; done)
        rename_i hcond
        subst hcond
        have := RdM.pure_some hp
        injection this with h1 h2
        subst h1
        have hnn : n = n' := hob _ (by simp)
        subst hnn
        have hcw := own_whole hc hre
        subst hcw
        have hfp : fpOf ι [(g, j)] = fpb (ι g j) := filterMap_fpb _
        simp only [hfp]
        refine ⟨.cell _ _ _ (.osl _ _ _ _ _ (OR.mono hF hre)), ?_, by simp⟩
        intro id hid
        simp at hid
        subst hid
        exact ⟨_, he, rfl⟩

theorem argsM_run (h : Rel Γ F ι S a w) (hF : ∀ k, F k → F1 k) {vs : List V} {cs : List Value} (hc : All2 (RV w F S.D ι) vs cs) : ∀ {ms : List PM} {r : AR (List V)} {lg : List (Nat × Nat)}, argsM ms vs S.ent = some (r, lg) → (∀ p ∈ r.obl, p) →
    (∀ id ∈ r.ls, ∀ k, blk (ι id.1 id.2) = some k → F1 k) → BS w F1 r.v cs (fpOf ι r.ks) ∧ Handed S r.ks r.ls := by
  induction hc with
  | nil =>
    intro ms r lg hm hob hL
    have : argsM ms [] = RdM.pure { v := [] } := by cases ms <;> rfl
    rw [this] at hm
    have := RdM.pure_some hm
    injection this with h1 h2
    subst h1
    exact ⟨.nil, by simp [Handed]⟩
  | cons hv ht ih =>
    intro ms r lg hm hob hL
    cases ms with
    | nil => cases hm
    | cons m ms =>
    obtain ⟨x, l1, l2, hx, hm1, _⟩ := RdM.bind_some hm
    obtain ⟨y, l3, l4, hy, hm2, _⟩ := RdM.bind_some hm1
    have := RdM.pure_some hm2
    injection this with h1 h2
    subst h1
    obtain ⟨b1, k1⟩ := argM_run h hF hv hx (fun p hp => hob p (List.mem_append.2 (.inl hp))) (fun id hid => hL id (List.mem_append.2 (.inl hid)))
    obtain ⟨b2, hh⟩ := ih hy (fun p hp => hob p (List.mem_append.2 (.inr hp))) (fun id hid => hL id (List.mem_append.2 (.inr hid)))
    refine ⟨?_, Handed.append k1 hh⟩
    simp only [fpOf_append]
    exact .cons _ _ _ _ _ _ b1 b2

end

end Go.Proofs.YtaafmkiajpgdaaaGreat
