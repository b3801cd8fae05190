/- The way through a function's code, region by region. -/
import Derived.Test.YthegkbaijmkhfaaAm26
set_option linter.unusedVariables false
set_option linter.unusedSimpArgs false
namespace Go.Proofs.Ythegkbaijmkhfaa
open Go

/-- A move that is no region. -/
def mvM (t : List V) : List Item → Option (List Item)
  | .code .skip :: k => some k
  | .inBlock _ :: k => some k
  | .code (.seq x y) :: k => some (.code x :: .code y :: k)
  | .code (.cond c x y) :: k => match evalV t c with
    | .b true => some (.code x :: k)
    | .b false => some (.code y :: k)
    | _ => none
  | .code (.block id c) :: k => some (.code c :: .inBlock id :: k)
  | .code (.loop c) :: k => some (.code c :: .inLoop c :: k)
  | .inLoop c :: k => some (.code c :: .inLoop c :: k)
  | .code (.exit id) :: k => exitTo id k
  | _ => none

abbrev Script := List (List (Nat × Tell))

/-- From region to region, as the script tells; it stops ahead of the next region, or where the function is left. -/
def goM (cx : Cx) : Nat → List Item → St → Script → Option (List Item × St × List Prop)
  | 0, _, _, _ => none
  | n + 1, k, S, sc =>
    match k with
    | .code (.region id ops draw) :: k' => match sc with
      | [] => some (k, S, [])
      | A :: sc' => match regM cx ops draw A S with
        | some (S1, ps) => match goM cx n k' S1 sc' with
          | some (k2, S2, qs) => some (k2, S2, ps ++ qs)
          | none => none
        | none => none
    | k => match mvM S.t k with
      | some k1 => goM cx n k1 S sc
      | none => match sc with
        | [] => some (k, S, [])
        | _ :: _ => none

section
variable {cx : Cx} {Γ : Ctx} {F : Nat → Prop} {ι : Nat → Nat → Value} {S S' : St} {a : Act} {w : World} {b : Frame} {cs : List Frame} {k k' : List Item}

theorem mvM_step (h : Rel Γ F ι S a w) (hm : mvM S.t k = some k') : step cx.P (lone (b.at a k) cs w) = .next (lone (b.at a k') cs w) := by
  unfold mvM at hm
  split at hm
  · injection hm with hm; subst hm; exact step_skip
  · injection hm with hm; subst hm; exact step_inBlock
  · injection hm with hm; subst hm; exact step_seq
  · rename_i c x y k0
    have hc := eval_rv h.tmps c
    split at hm <;> try (cases hm; done)
    · rename_i hx
      injection hm with hm; subst hm
      rw [hx] at hc
      have := step_cond (P := cx.P) (b := b) (k := k0) (cs := cs) (w := w) (x := x) (y := y) hc.inv_b
      simpa using this
    · rename_i hx
      injection hm with hm; subst hm
      rw [hx] at hc
      have := step_cond (P := cx.P) (b := b) (k := k0) (cs := cs) (w := w) (x := x) (y := y) hc.inv_b
      simpa using this
  · injection hm with hm; subst hm; exact step_block
  · injection hm with hm; subst hm; exact step_loop
  · injection hm with hm; subst hm; exact step_inLoop
  · exact step_exit hm
  · cases hm

theorem goM_run : ∀ {n : Nat} {k : List Item} {S : St} {F : Nat → Prop} {ι : Nat → Nat → Value} {a : Act} {w : World} {sc : Script} {ps : List Prop}, Rel Γ F ι S a w → goM cx n k S sc = some (k', S', ps) → (∀ p ∈ ps, p) →
    ∃ a' w' F' ι', Steps cx.P (lone (b.at a k) cs w) (lone (b.at a' k') cs w') ∧ Rel Γ F' ι' S' a' w' := by
  intro n
  induction n with
  | zero => intro k S F ι a w sc ps h hg hob; cases hg
  | succ n ih =>
    intro k S F ι a w sc ps h hg hob
    unfold goM at hg
    split at hg
    · rename_i id ops draw k0
      split at hg
      · injection hg with hg
        injection hg with h1 h2
        injection h2 with h2 h3
        subst h1; subst h2
        exact ⟨a, w, F, ι, .refl _ _, h⟩
      · rename_i A sc'
        split at hg <;> try (cases hg; done)
        rename_i S1 qs hr
        split at hg <;> try (cases hg; done)
        rename_i k2 S2 rs hg2
        injection hg with hg
        injection hg with h1 h2
        injection h2 with h2 h3
        subst h1; subst h2; subst h3
        have hwp := regM_wp (cx := cx) (draw := draw) (id := id) (Q := fun e a' w' => e = .normal ∧ ∃ F' ι', Rel Γ F' ι' S1 a' w') h hr (fun p hp => hob p (List.mem_append.2 (.inl hp)))
          (fun a' w' F' ι' hrel => ⟨rfl, F', ι', hrel⟩)
        obtain ⟨e, a1, w1, ⟨he, F1, ι1, h1⟩, harr⟩ := hwp b k0 cs
        subst he
        obtain ⟨a2, w2, F2, ι2, hs, h2⟩ := ih h1 hg2 (fun p hp => hob p (List.mem_append.2 (.inr hp)))
        exact ⟨a2, w2, F2, ι2, Steps.trans harr hs, h2⟩
    · split at hg
      · rename_i k1 hm
        obtain ⟨a2, w2, F2, ι2, hs, h2⟩ := ih h hg hob
        exact ⟨a2, w2, F2, ι2, .head (mvM_step h hm) hs, h2⟩
      · split at hg <;> try (cases hg; done)
        injection hg with hg
        injection hg with h1 h2
        injection h2 with h2 h3
        subst h1; subst h2
        exact ⟨a, w, F, ι, .refl _ _, h⟩
end

/-! ### What a function is, and how it ends -/
structure Sig where
  f : Nat
  fn : Func
  /-- how each result is handed back -/
  rms : List PM
  /-- what was handed over to be written: an entry of the first group, and how it is handed back -/
  oms : List (Option (Nat × PM))

/-- How a call ends: the shape of ACalls. -/
def AEnd (w : World) (F : Nat → Prop) (fp : List Nat) (cargs : List Value) (res : V) (outs : List (Option V)) (e : Ending) (w' : World) : Prop :=
  ∃ c F' fr fo, e = .returned c ∧ Kept (· ∈ fp) w w' ∧ (∀ k, F k → F' k) ∧ (∀ k, F' k → (F k ∨ k ∈ fp ∨ w.heap.size ≤ k) ∧ k < w'.heap.size) ∧
      BR w' F' res c fr ∧ BO w' F' outs cargs fo ∧ (fr ++ fo).Nodup ∧ ∀ k ∈ fr ++ fo, ¬ F' k ∧ (k ∈ fp ∨ w.heap.size ≤ k) ∧ k < w'.heap.size

/-- What was handed over to be written lies where the first group says. -/
inductive Pinned : List (Option (Nat × PM)) → List Value → List Value → Prop
  | nil (bs) : Pinned [] [] bs
  | skip (oms c cs bs) (t : Pinned oms cs bs) : Pinned (none :: oms) (c :: cs) bs
  | pin (j m oms c cs bs) (h : bs[j]? = some c) (t : Pinned oms cs bs) : Pinned (some (j, m) :: oms) (c :: cs) bs

/-- From here the function goes on to its end, and ends so. -/
def Fin (cx : Cx) (X : Sig) (res : V) (outs : List (Option V)) (k : List Item) (S : St) : Prop :=
  ∀ (w0 : World) (F0 : Nat → Prop) (fp : List Nat) (cargs bs : List Value), Pinned X.oms cargs bs → (∀ k, F0 k → k < w0.heap.size) →
  ∀ (F : Nat → Prop) (ι : Nat → Nat → Value) (a : Act) (w : World) (b : Frame) (cs : List Frame), Rel ⟨w0, F0, (· ∈ fp), bs⟩ F ι S a w → b.fn = X.f → b.kind = .normal →
    ∃ e w' fr, AEnd w0 F0 fp cargs res outs e w' ∧ Comes cx.P (lone (b.at a k) cs w) (lone fr cs w') e ∧ fr.fn = X.f ∧ fr.leaving cx.P w' e

theorem Fin.go {cx : Cx} {X : Sig} {res : V} {outs : List (Option V)} {k k' : List Item} {S S' : St} {n : Nat} {sc : Script} {ps : List Prop} (hg : goM cx n k S sc = some (k', S', ps)) (hob : ∀ p ∈ ps, p) (h : Fin cx X res outs k' S') : Fin cx X res outs k S := by
  intro w0 F0 fp cargs bs hp hF0 F ι a w b cs hrel hb1 hb2
  obtain ⟨a', w', F', ι', hs, hrel'⟩ := goM_run (b := b) (cs := cs) hrel hg hob
  obtain ⟨e, w2, fr, h1, h2, h3, h4⟩ := h w0 F0 fp cargs bs hp hF0 F' ι' a' w' b cs hrel' hb1 hb2
  exact ⟨e, w2, fr, h1, .of_steps hs h2, h3, h4⟩

end Go.Proofs.Ythegkbaijmkhfaa
