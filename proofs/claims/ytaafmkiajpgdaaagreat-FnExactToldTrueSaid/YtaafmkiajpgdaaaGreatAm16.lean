/- What is handed over at a call's border, and what a call comes to. -/
import Derived.Test.YtaafmkiajpgdaaaGreatAm15
set_option linter.unusedVariables false
set_option linter.unusedSimpArgs false
namespace Go.Proofs.YtaafmkiajpgdaaaGreat
open Go

def fpb (c : Value) : List Nat := match blk c with | some k => [k] | none => []

/-- A cell at the border, and the blocks that it owns. -/
inductive BC (w : World) (F : Nat → Prop) : V → Value → List Nat → Prop
  | fv (v c) (h : FV w F v c) : BC w F v c []
  | osl (e sz n rows c) (h : OR w F e sz c n rows) : BC w F (.osl e sz n rows) c (fpb c)
inductive BL (w : World) (F : Nat → Prop) : List V → List Value → List Nat → Prop
  | nil : BL w F [] [] []
  | cons (v c f vs cs fs) (h : BC w F v c f) (t : BL w F vs cs fs) : BL w F (v :: vs) (c :: cs) (f ++ fs)
inductive BA (w : World) (F : Nat → Prop) : V → Value → List Nat → Prop
  | cell (v c f) (h : BC w F v c f) : BA w F v c f
  | agg (cs ds f) (h : BL w F cs ds f) : BA w F (.agg cs) (.agg ds.toArray) f
  | optr (e cs g cur f) (hg : w.heap[g]? = some (.cells cur e (0, 0))) (h : BL w F cs cur.toList f) : BA w F (.optr e cs) (.pointer (some ⟨g, 0, none⟩)) (g :: f)
inductive BS (w : World) (F : Nat → Prop) : List V → List Value → List Nat → Prop
  | nil : BS w F [] [] []
  | cons (v c f vs cs fs) (h : BA w F v c f) (t : BS w F vs cs fs) : BS w F (v :: vs) (c :: cs) (f ++ fs)
/-- What a call hands back: one value, or several. -/
inductive BR (w : World) (F : Nat → Prop) : V → Value → List Nat → Prop
  | one (v c f) (h : BA w F v c f) : BR w F v c f
  | tup (vs cs f) (h : BS w F vs cs f) : BR w F (.tup vs) (.tuple cs.toArray) f
/-- What lies behind the call where something was handed over to be written. -/
inductive BO (w : World) (F : Nat → Prop) : List (Option V) → List Value → List Nat → Prop
  | nil : BO w F [] [] []
  | skip (c vs cs fs) (t : BO w F vs cs fs) : BO w F (none :: vs) (c :: cs) fs
  | cons (v c f vs cs fs) (h : BA w F v c f) (t : BO w F vs cs fs) : BO w F (some v :: vs) (c :: cs) (f ++ fs)

/-- The model enters the function. -/
def Callable (P : Program) (f : FuncId) : Prop := ∃ fn, P.funcs[f]? = some fn ∧ (fn.name == "runtime.NumGoroutine") = false ∧ fn.body.isNone = false

/-- A call comes to this, whatever the memory. -/
def ACalls (P : Program) (f : FuncId) (args : List V) (res : V) (outs : List (Option V)) : Prop :=
  Callable P f ∧ ∀ (w : World) (F : Nat → Prop) (cargs : List Value) (fp : List Nat), BS w F args cargs fp → fp.Nodup → (∀ k ∈ fp, ¬ F k ∧ k < w.heap.size) → (∀ k, F k → k < w.heap.size) →
    Calls P f cargs.toArray w fun e w' => ∃ c F' fr fo, e = .returned c ∧ Kept (· ∈ fp) w w' ∧ (∀ k, F k → F' k) ∧ (∀ k, F' k → (F k ∨ k ∈ fp ∨ w.heap.size ≤ k) ∧ k < w'.heap.size) ∧
      BR w' F' res c fr ∧ BO w' F' outs cargs fo ∧ (fr ++ fo).Nodup ∧ ∀ k ∈ fr ++ fo, ¬ F' k ∧ (k ∈ fp ∨ w.heap.size ≤ k) ∧ k < w'.heap.size

/-! ### Laid open: what was handed over becomes entries -/
def thawC (grp j : Nat) : V → V × List Ent
  | .osl e sz n rows => (.own grp j sz 0 n, [.row e sz n rows])
  | v => (v, [])
def thawCs (grp j : Nat) : List V → List V × List Ent
  | [] => ([], [])
  | v :: vs =>
    let x := thawC grp j v
    let y := thawCs grp (j + x.2.length) vs
    (x.1 :: y.1, x.2 ++ y.2)
def thawA (grp j : Nat) : V → V × List Ent
  | .agg cs => let x := thawCs grp j cs; (.agg x.1, x.2)
  | .optr e cs => let x := thawCs grp (j + 1) cs; (.ptr grp j 0, .var e x.1 :: x.2)
  | v => thawC grp j v
def thawAs (grp j : Nat) : List V → List V × List Ent
  | [] => ([], [])
  | v :: vs =>
    let x := thawA grp j v
    let y := thawAs grp (j + x.2.length) vs
    (x.1 :: y.1, x.2 ++ y.2)
def thawR (grp j : Nat) : V → V × List Ent
  | .tup vs => let x := thawAs grp j vs; (.tup x.1, x.2)
  | v => thawA grp j v

/-- The entries that were laid open lie where they should. -/
structure Thawed (w : World) (F : Nat → Prop) (grp j : Nat) (es : List Ent) (bs : List Value) (D : Nat → Prop) (ι : Nat → Nat → Value) : Prop where
  ents : ∀ (k : Nat) (e : Ent), es[k]? = some e → RE w F D ι e (ι grp (j + k))

theorem filterMap_fpb (c : Value) : [c].filterMap blk = fpb c := by
  unfold fpb
  cases h : blk c <;> simp [h]

def At (ι : Nat → Nat → Value) (grp j : Nat) (bs : List Value) : Prop := ∀ (k : Nat) (b : Value), bs[k]? = some b → ι grp (j + k) = b

theorem At.left {ι : Nat → Nat → Value} {grp j : Nat} {xs ys : List Value} (h : At ι grp j (xs ++ ys)) : At ι grp j xs := fun k b hb => h k b (by rw [List.getElem?_append_left (List.getElem?_eq_some_iff.1 hb).1]; exact hb)
theorem At.right {ι : Nat → Nat → Value} {grp j : Nat} {xs ys : List Value} (h : At ι grp j (xs ++ ys)) : At ι grp (j + xs.length) ys := fun k b hb => by
  rw [Nat.add_assoc]
  exact h _ b (by rw [List.getElem?_append_right (by omega)]; simpa using hb)

/-- Entries in a row, each at its place. -/
def Lie (w : World) (F : Nat → Prop) (D : Nat → Prop) (ι : Nat → Nat → Value) (es : List Ent) (bs : List Value) : Prop := ∀ (k : Nat) (e : Ent) (b : Value), es[k]? = some e → bs[k]? = some b → RE w F D ι e b

theorem Lie.append {w : World} {F D : Nat → Prop} {ι : Nat → Nat → Value} {es es' : List Ent} {bs bs' : List Value} (h : Lie w F D ι es bs) (h' : Lie w F D ι es' bs') (hl : es.length = bs.length) : Lie w F D ι (es ++ es') (bs ++ bs') := by
  intro k e b he hb
  by_cases q : k < es.length
  · rw [List.getElem?_append_left q] at he
    rw [List.getElem?_append_left (by omega)] at hb
    exact h k e b he hb
  · rw [List.getElem?_append_right (by omega)] at he
    rw [List.getElem?_append_right (by omega)] at hb
    rw [hl] at he
    exact h' _ e b he hb

section
variable {w : World} {F : Nat → Prop} {grp : Nat}

theorem thawC_run {v : V} {c : Value} {f : List Nat} (h : BC w F v c f) (j : Nat) : ∃ bs : List Value, bs.length = (thawC grp j v).2.length ∧ bs.filterMap blk = f ∧
    ∀ (D : Nat → Prop) (ι : Nat → Nat → Value), D grp → At ι grp j bs → RC w F D ι (thawC grp j v).1 c ∧ Lie w F D ι (thawC grp j v).2 bs := by
  cases h with
  | fv v c h =>
    have hv : thawC grp j v = (v, []) := by cases h <;> rfl
    rw [hv]
    exact ⟨[], rfl, rfl, fun D ι hD hat => ⟨.fv _ _ h, fun k e b he => by simp at he⟩⟩
  | osl e sz n rows c h =>
    refine ⟨[c], rfl, filterMap_fpb c, fun D ι hD hat => ⟨RC.whole hD (hat 0 c rfl) h, ?_⟩⟩
    intro k e' b he hb
    cases k with
    | zero =>
      simp [thawC] at he hb
      subst he; subst hb
      exact h
    | succ k => simp [thawC] at he

theorem thawCs_run {vs : List V} {cs : List Value} {f : List Nat} (h : BL w F vs cs f) : ∀ j, ∃ bs : List Value, bs.length = (thawCs grp j vs).2.length ∧ bs.filterMap blk = f ∧
    ∀ (D : Nat → Prop) (ι : Nat → Nat → Value), D grp → At ι grp j bs → All2 (RC w F D ι) (thawCs grp j vs).1 cs ∧ Lie w F D ι (thawCs grp j vs).2 bs := by
  induction h with
  | nil => exact fun j => ⟨[], rfl, rfl, fun D ι hD hat => ⟨.nil, fun k e b he => by simp [thawCs] at he⟩⟩
  | cons v c f vs cs fs h t ih =>
    intro j
    obtain ⟨b1, hl1, hf1, h1⟩ := thawC_run (grp := grp) h j
    obtain ⟨b2, hl2, hf2, h2⟩ := ih (j + (thawC grp j v).2.length)
    refine ⟨b1 ++ b2, by simp [thawCs, hl1, hl2], by rw [List.filterMap_append, hf1, hf2], fun D ι hD hat => ?_⟩
    obtain ⟨x1, y1⟩ := h1 D ι hD hat.left
    obtain ⟨x2, y2⟩ := h2 D ι hD (by rw [← hl1]; exact hat.right)
    exact ⟨.cons x1 x2, y1.append y2 hl1.symm⟩

theorem thawA_run {v : V} {c : Value} {f : List Nat} (h : BA w F v c f) (j : Nat) : ∃ bs : List Value, bs.length = (thawA grp j v).2.length ∧ bs.filterMap blk = f ∧
    ∀ (D : Nat → Prop) (ι : Nat → Nat → Value), D grp → At ι grp j bs → RA w F D ι (thawA grp j v).1 c ∧ Lie w F D ι (thawA grp j v).2 bs := by
  cases h with
  | cell v c f h =>
    have hv : thawA grp j v = thawC grp j v := by
      cases h with
      | fv v c h => cases h <;> rfl
      | osl e sz n rows c h => rfl
    rw [hv]
    obtain ⟨bs, h1, h2, h3⟩ := thawC_run (grp := grp) h j
    exact ⟨bs, h1, h2, fun D ι hD hat => ⟨.cell _ _ (h3 D ι hD hat).1, (h3 D ι hD hat).2⟩⟩
  | agg cs ds f h =>
    obtain ⟨bs, h1, h2, h3⟩ := thawCs_run (grp := grp) h j
    exact ⟨bs, h1, h2, fun D ι hD hat => ⟨.agg _ _ (h3 D ι hD hat).1, (h3 D ι hD hat).2⟩⟩
  | optr e cs g cur f hg h =>
    obtain ⟨bs, h1, h2, h3⟩ := thawCs_run (grp := grp) h (j + 1)
    refine ⟨.pointer (some ⟨g, 0, none⟩) :: bs, by simp [thawA, h1], by simp [blk, h2], fun D ι hD hat => ?_⟩
    have hat' : At ι grp (j + 1) bs := fun k b hb => by
      have := hat (k + 1) b (by simpa using hb)
      rw [← this]; congr 1; omega
    obtain ⟨x, y⟩ := h3 D ι hD hat'
    refine ⟨.cell _ _ (.ptr grp j 0 g hD (hat 0 _ rfl)), ?_⟩
    intro k e' b he hb
    cases k with
    | zero =>
      simp [thawA] at he hb
      subst he; subst hb
      exact ⟨g, cur, rfl, hg, x⟩
    | succ k => exact y k e' b (by simpa [thawA] using he) (by simpa using hb)

theorem thawAs_run {vs : List V} {cs : List Value} {f : List Nat} (h : BS w F vs cs f) : ∀ j, ∃ bs : List Value, bs.length = (thawAs grp j vs).2.length ∧ bs.filterMap blk = f ∧
    ∀ (D : Nat → Prop) (ι : Nat → Nat → Value), D grp → At ι grp j bs → All2 (RA w F D ι) (thawAs grp j vs).1 cs ∧ Lie w F D ι (thawAs grp j vs).2 bs := by
  induction h with
  | nil => exact fun j => ⟨[], rfl, rfl, fun D ι hD hat => ⟨.nil, fun k e b he => by simp [thawAs] at he⟩⟩
  | cons v c f vs cs fs h t ih =>
    intro j
    obtain ⟨b1, hl1, hf1, h1⟩ := thawA_run (grp := grp) h j
    obtain ⟨b2, hl2, hf2, h2⟩ := ih (j + (thawA grp j v).2.length)
    refine ⟨b1 ++ b2, by simp [thawAs, hl1, hl2], by rw [List.filterMap_append, hf1, hf2], fun D ι hD hat => ?_⟩
    obtain ⟨x1, y1⟩ := h1 D ι hD hat.left
    obtain ⟨x2, y2⟩ := h2 D ι hD (by rw [← hl1]; exact hat.right)
    exact ⟨.cons x1 x2, y1.append y2 hl1.symm⟩

theorem thawR_run {v : V} {c : Value} {f : List Nat} (h : BR w F v c f) (j : Nat) : ∃ bs : List Value, bs.length = (thawR grp j v).2.length ∧ bs.filterMap blk = f ∧
    ∀ (D : Nat → Prop) (ι : Nat → Nat → Value), D grp → At ι grp j bs → RV w F D ι (thawR grp j v).1 c ∧ Lie w F D ι (thawR grp j v).2 bs := by
  cases h with
  | one v c f h =>
    have hv : thawR grp j v = thawA grp j v := by
      cases h with
      | cell v c f h => cases h with
        | fv v c h => cases h <;> rfl
        | osl e sz n rows c h => rfl
      | agg cs ds f h => rfl
      | optr e cs g cur f hg h => rfl
    rw [hv]
    obtain ⟨bs, h1, h2, h3⟩ := thawA_run (grp := grp) h j
    exact ⟨bs, h1, h2, fun D ι hD hat => ⟨.one _ _ (h3 D ι hD hat).1, (h3 D ι hD hat).2⟩⟩
  | tup vs cs f h =>
    obtain ⟨bs, h1, h2, h3⟩ := thawAs_run (grp := grp) h j
    exact ⟨bs, h1, h2, fun D ι hD hat => ⟨.tup _ _ (h3 D ι hD hat).1, (h3 D ι hD hat).2⟩⟩
end

end Go.Proofs.YtaafmkiajpgdaaaGreat
