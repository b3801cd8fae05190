/- What is handed over at a call's border, and what a call comes to. -/
import Derived.Test.YthegkbaijmkhfaaAm15
set_option linter.unusedVariables false
set_option linter.unusedSimpArgs false
namespace Go.Proofs.Ythegkbaijmkhfaa
open Go

inductive BA (w : World) (F : Nat → Prop) : V → Value → List Nat → Prop
  | cell (v c f) (h : BC w F v c f) : BA w F v c f
  | agg (cs ds f) (h : BL w F cs ds f) : BA w F (.agg cs) (.agg ds.toArray) f
  | optr (e cs g cur f) (hg : w.heap[g]? = some (.cells cur e (0, 0))) (h : BL w F cs cur.toList f) : BA w F (.optr e cs) (.pointer (some ⟨g, 0, none⟩)) (g :: f)
inductive BS (w : World) (F : Nat → Prop) : List V → List Value → List Nat → Prop
  | nil : BS w F [] [] []
  | cons (v c f vs cs fs) (h : BA w F v c f) (t : BS w F vs cs fs) : BS w F (v :: vs) (c :: cs) (f ++ fs)
/-- What a call hands back: one value, or several. -/
inductive BR (w : World) (F : Nat → Prop) : V → Value → List Nat → Prop
  | one (v c f) (h : BA w F v c f) : BR w F v c f
  | tup (vs cs f) (h : BS w F vs cs f) : BR w F (.tup vs) (.tuple cs.toArray) f
/-- What lies behind the call where something was handed over to be written. -/
inductive BO (w : World) (F : Nat → Prop) : List (Option V) → List Value → List Nat → Prop
  | nil : BO w F [] [] []
  | skip (c vs cs fs) (t : BO w F vs cs fs) : BO w F (none :: vs) (c :: cs) fs
  | cons (v c f vs cs fs) (h : BA w F v c f) (t : BO w F vs cs fs) : BO w F (some v :: vs) (c :: cs) (f ++ fs)

/-- The model enters the function. -/
def Callable (P : Program) (f : FuncId) : Prop := ∃ fn, P.funcs[f]? = some fn ∧ (fn.name == "runtime.NumGoroutine") = false ∧ fn.body.isNone = false

/-- A call comes to this, whatever the memory. -/
def ACalls (P : Program) (f : FuncId) (args : List V) (res : V) (outs : List (Option V)) : Prop :=
  Callable P f ∧ ∀ (w : World) (F : Nat → Prop) (cargs : List Value) (fp : List Nat), BS w F args cargs fp → fp.Nodup → (∀ k ∈ fp, ¬ F k ∧ k < w.heap.size) → (∀ k, F k → k < w.heap.size) →
    Calls P f cargs.toArray w fun e w' => ∃ c F' fr fo, e = .returned c ∧ Kept (· ∈ fp) w w' ∧ (∀ k, F k → F' k) ∧ (∀ k, F' k → (F k ∨ k ∈ fp ∨ w.heap.size ≤ k) ∧ k < w'.heap.size) ∧
      BR w' F' res c fr ∧ BO w' F' outs cargs fo ∧ (fr ++ fo).Nodup ∧ ∀ k ∈ fr ++ fo, ¬ F' k ∧ (k ∈ fp ∨ w.heap.size ≤ k) ∧ k < w'.heap.size

/-! ### Laid open: what was handed over becomes entries -/
def thawC (grp j : Nat) : V → V × List Ent
  | .osl e sz n rows => (.own grp j sz 0 n, [.row e sz n rows])
  | .dsl e sz n rows => (.own grp j sz 0 n, [.deep false e sz n rows])
  | v => (v, [])
def thawCs (grp j : Nat) : List V → List V × List Ent
  | [] => ([], [])
  | v :: vs =>
    let x := thawC grp j v
    let y := thawCs grp (j + x.2.length) vs
    (x.1 :: y.1, x.2 ++ y.2)
def thawA (grp j : Nat) : V → V × List Ent
  | .agg cs => let x := thawCs grp j cs; (.agg x.1, x.2)
  | .optr e cs => let x := thawCs grp (j + 1) cs; (.ptr grp j 0, .var e x.1 :: x.2)
  | v => thawC grp j v
def thawAs (grp j : Nat) : List V → List V × List Ent
  | [] => ([], [])
  | v :: vs =>
    let x := thawA grp j v
    let y := thawAs grp (j + x.2.length) vs
    (x.1 :: y.1, x.2 ++ y.2)
def thawR (grp j : Nat) : V → V × List Ent
  | .tup vs => let x := thawAs grp j vs; (.tup x.1, x.2)
  | v => thawA grp j v

/-- The blocks of these entries are among those. -/
def Has (w : World) (es : List Ent) (bs : List Value) (f : List Nat) : Prop :=
  ∃ fss : List (List Nat), fss.flatten = f ∧ fss.length = es.length ∧ ∀ (i : Nat) (e : Ent) (b : Value) (k : Nat), es[i]? = some e → bs[i]? = some b → EB w e b k → ∃ fi, fss[i]? = some fi ∧ k ∈ fi
theorem Has.nil {w : World} : Has w [] [] [] := ⟨[], rfl, rfl, fun i e b k h => by simp at h⟩
theorem Has.one {w : World} {e : Ent} {b : Value} {f : List Nat} (h : ∀ k, EB w e b k → k ∈ f) : Has w [e] [b] f := by
  refine ⟨[f], by simp, rfl, fun i e' b' k h1 h2 h3 => ?_⟩
  cases i with
  | zero =>
    simp at h1 h2
    subst h1; subst h2
    exact ⟨f, rfl, h k h3⟩
  | succ i => simp at h1
theorem Has.append {w : World} {es es' : List Ent} {bs bs' : List Value} {f f' : List Nat} (h : Has w es bs f) (h' : Has w es' bs' f') (hl : bs.length = es.length) : Has w (es ++ es') (bs ++ bs') (f ++ f') := by
  obtain ⟨fss, e1, l1, h1⟩ := h
  obtain ⟨fss', e2, l2, h2⟩ := h'
  refine ⟨fss ++ fss', by rw [List.flatten_append, e1, e2], by simp [l1, l2], fun i e b k he hb hk => ?_⟩
  by_cases q : i < es.length
  · rw [List.getElem?_append_left q] at he
    rw [List.getElem?_append_left (by omega)] at hb
    obtain ⟨fi, a, b⟩ := h1 i e b k he hb hk
    exact ⟨fi, by rw [List.getElem?_append_left (by omega)]; exact a, b⟩
  · rw [List.getElem?_append_right (by omega)] at he
    rw [List.getElem?_append_right (by omega), hl] at hb
    obtain ⟨fi, a, b⟩ := h2 _ e b k he hb hk
    exact ⟨fi, by rw [List.getElem?_append_right (by omega), l1]; exact a, b⟩
theorem Has.cons {w : World} {e : Ent} {b : Value} {f1 : List Nat} {es : List Ent} {bs : List Value} {f : List Nat} (h1 : ∀ k, EB w e b k → k ∈ f1) (h : Has w es bs f) : Has w (e :: es) (b :: bs) (f1 ++ f) :=
  (Has.one h1).append h rfl
theorem Has.mem {w : World} {es : List Ent} {bs : List Value} {f : List Nat} (h : Has w es bs f) {i : Nat} {e : Ent} {b : Value} {k : Nat} (he : es[i]? = some e) (hb : bs[i]? = some b) (hk : EB w e b k) : k ∈ f := by
  obtain ⟨fss, e1, l1, h1⟩ := h
  obtain ⟨fi, a, q⟩ := h1 i e b k he hb hk
  rw [← e1]
  exact List.mem_flatten.2 ⟨fi, List.mem_of_getElem? a, q⟩
theorem flatten_idx {k : Nat} : ∀ {fss : List (List Nat)} {i j : Nat} {fi fj : List Nat}, fss.flatten.Nodup → fss[i]? = some fi → fss[j]? = some fj → k ∈ fi → k ∈ fj → i = j
  | [], i, j, fi, fj, _, h, _, _, _ => by simp at h
  | f :: fss, 0, 0, _, _, _, _, _, _, _ => rfl
  | f :: fss, 0, j + 1, fi, fj, hn, hi, hj, h1, h2 => by
    simp at hi hj
    subst hi
    rw [List.flatten_cons, List.nodup_append] at hn
    exact absurd rfl (hn.2.2 k h1 k (List.mem_flatten.2 ⟨fj, List.mem_of_getElem? hj, h2⟩))
  | f :: fss, i + 1, 0, fi, fj, hn, hi, hj, h1, h2 => by
    simp at hi hj
    subst hj
    rw [List.flatten_cons, List.nodup_append] at hn
    exact absurd rfl (hn.2.2 k h2 k (List.mem_flatten.2 ⟨fi, List.mem_of_getElem? hi, h1⟩))
  | f :: fss, i + 1, j + 1, fi, fj, hn, hi, hj, h1, h2 => by
    simp at hi hj
    rw [List.flatten_cons, List.nodup_append] at hn
    rw [flatten_idx hn.2.1 hi hj h1 h2]
theorem Has.inj {w : World} {es : List Ent} {bs : List Value} {f : List Nat} (h : Has w es bs f) (hn : f.Nodup) {i j : Nat} {e e' : Ent} {b b' : Value} {k : Nat} (he : es[i]? = some e) (hb : bs[i]? = some b) (hk : EB w e b k) (he' : es[j]? = some e') (hb' : bs[j]? = some b') (hk' : EB w e' b' k) : i = j := by
  obtain ⟨fss, e1, l1, h1⟩ := h
  obtain ⟨fi, a, q⟩ := h1 i e b k he hb hk
  obtain ⟨fj, a', q'⟩ := h1 j e' b' k he' hb' hk'
  exact flatten_idx (e1 ▸ hn) a a' q q'

theorem BL.kl {w : World} {F D : Nat → Prop} {ι : Nat → Nat → Value} : ∀ {vs cs f}, BL w F vs cs f → KL w F D ι vs cs f
  | _, _, _, .nil => .nil
  | _, _, _, .cons v c f vs cs fs h t => .cons v c f vs cs fs (.bc _ _ _ h) (BL.kl t)
theorem BC.noRef {w : World} {F : Nat → Prop} {v : V} {c : Value} {f : List Nat} (h : BC w F v c f) : v.isRef = false := by
  cases h with
  | fv v c h => cases h <;> rfl
  | osl => rfl
  | dsl => rfl
theorem BL.noRef {w : World} {F : Nat → Prop} : ∀ {vs cs f}, BL w F vs cs f → ∀ v ∈ vs, v.isRef = false
  | _, _, _, .cons v c f vs cs fs h t, x, hx => by
    rcases List.mem_cons.1 hx with rfl | hx
    · exact h.noRef
    · exact BL.noRef t x hx
theorem NoRef.of_flat {rows : List (List V)} (h : ∀ v ∈ rows.flatten, v.isRef = false) : NoRef rows := fun r hr v hv => h v (List.mem_flatten.2 ⟨r, hr, hv⟩)
/-- A reference to a whole row. -/
theorem RC.wholeO {w : World} {F D : Nat → Prop} {ι : Nat → Nat → Value} {g j e sz n : Nat} {flat : List Value} {sv : Value} (hD : D g) (hι : ι g j = sv) (ho : w.ownsRow 0 e sz sv n flat) : RC w F D ι (.own g j sz 0 n) sv := by
  rcases ho.2 with ⟨rfl, h0⟩ | ⟨g0, cap, cur, rfl, _, hg, hnc, _⟩
  · subst h0
    have := RC.own (w := w) (F := F) g j sz 0 0 none 0 0 hD hι (by omega) (fun _ => rfl) (fun _ q => by cases q)
    simpa using this
  · have := RC.own (w := w) (F := F) g j sz 0 n (some ⟨g0, 0, none⟩) n cap hD hι (by omega) (fun q => by cases q) (fun ad q => by injection q with q; subst q; rfl)
    by_cases hc : cap = 0
    · simpa [hc] using this
    · simpa [hc, Addr.add] using this

def At (ι : Nat → Nat → Value) (grp j : Nat) (bs : List Value) : Prop := ∀ (k : Nat) (b : Value), bs[k]? = some b → ι grp (j + k) = b

theorem At.left {ι : Nat → Nat → Value} {grp j : Nat} {xs ys : List Value} (h : At ι grp j (xs ++ ys)) : At ι grp j xs := fun k b hb => h k b (by rw [List.getElem?_append_left (List.getElem?_eq_some_iff.1 hb).1]; exact hb)
theorem At.right {ι : Nat → Nat → Value} {grp j : Nat} {xs ys : List Value} (h : At ι grp j (xs ++ ys)) : At ι grp (j + xs.length) ys := fun k b hb => by
  rw [Nat.add_assoc]
  exact h _ b (by rw [List.getElem?_append_right (by omega)]; simpa using hb)

/-- Entries in a row, each at its place. -/
def Lie (w : World) (F : Nat → Prop) (D : Nat → Prop) (ι : Nat → Nat → Value) (es : List Ent) (bs : List Value) : Prop := ∀ (k : Nat) (e : Ent) (b : Value), es[k]? = some e → bs[k]? = some b → RE w F D ι e b

theorem Lie.append {w : World} {F D : Nat → Prop} {ι : Nat → Nat → Value} {es es' : List Ent} {bs bs' : List Value} (h : Lie w F D ι es bs) (h' : Lie w F D ι es' bs') (hl : es.length = bs.length) : Lie w F D ι (es ++ es') (bs ++ bs') := by
  intro k e b he hb
  by_cases q : k < es.length
  · rw [List.getElem?_append_left q] at he
    rw [List.getElem?_append_left (by omega)] at hb
    exact h k e b he hb
  · rw [List.getElem?_append_right (by omega)] at he
    rw [List.getElem?_append_right (by omega)] at hb
    rw [hl] at he
    exact h' _ e b he hb

section
variable {w : World} {F : Nat → Prop} {grp : Nat}

theorem thawC_run {v : V} {c : Value} {f : List Nat} (h : BC w F v c f) (j : Nat) : ∃ bs : List Value, bs.length = (thawC grp j v).2.length ∧ Has w (thawC grp j v).2 bs f ∧
    ∀ (D : Nat → Prop) (ι : Nat → Nat → Value), D grp → At ι grp j bs → f.Nodup → RC w F D ι (thawC grp j v).1 c ∧ Lie w F D ι (thawC grp j v).2 bs := by
  cases h with
  | fv v c h =>
    have hv : thawC grp j v = (v, []) := by cases h <;> rfl
    rw [hv]
    exact ⟨[], rfl, .nil, fun D ι hD hat _ => ⟨.fv _ _ h, fun k e b he => by simp at he⟩⟩
  | osl e sz n rows c h =>
    refine ⟨[c], rfl, .one fun k hk => mem_fpb.2 hk, fun D ι hD hat _ => ⟨RC.whole hD (hat 0 c rfl) h, ?_⟩⟩
    intro k e' b he hb
    cases k with
    | zero =>
      simp [thawC] at he hb
      subst he; subst hb
      exact h
    | succ k => simp [thawC] at he
  | dsl e sz n rows c flat fs ho hr hn hl =>
    refine ⟨[c], rfl, .one fun k hk => (EB.deep_iff (D := fun _ => True) (ι := fun _ _ => .nilFunc) ho hr.kl).1 hk, fun D ι hD hat hnd => ⟨RC.wholeO hD (hat 0 c rfl) ho, ?_⟩⟩
    intro k e' b he hb
    cases k with
    | zero =>
      simp [thawC] at he hb
      subst he; subst hb
      exact ⟨flat, fs, ho, hr.kl, hn, hl, hnd, fun _ => NoRef.of_flat hr.noRef⟩
    | succ k => simp [thawC] at he

theorem thawCs_run : ∀ {vs : List V} {cs : List Value} {f : List Nat}, BL w F vs cs f → ∀ j, ∃ bs : List Value, bs.length = (thawCs grp j vs).2.length ∧ Has w (thawCs grp j vs).2 bs f ∧
    ∀ (D : Nat → Prop) (ι : Nat → Nat → Value), D grp → At ι grp j bs → f.Nodup → All2 (RC w F D ι) (thawCs grp j vs).1 cs ∧ Lie w F D ι (thawCs grp j vs).2 bs
  | _, _, _, .nil, j => ⟨[], rfl, .nil, fun D ι hD hat _ => ⟨.nil, fun k e b he => by simp [thawCs] at he⟩⟩
  | _, _, _, .cons v c f vs cs fs h t, j => by
    obtain ⟨b1, hl1, hf1, h1⟩ := thawC_run (grp := grp) h j
    obtain ⟨b2, hl2, hf2, h2⟩ := thawCs_run t (j + (thawC grp j v).2.length)
    refine ⟨b1 ++ b2, by simp [thawCs, hl1, hl2], hf1.append hf2 hl1, fun D ι hD hat hnd => ?_⟩
    rw [List.nodup_append] at hnd
    obtain ⟨x1, y1⟩ := h1 D ι hD hat.left hnd.1
    obtain ⟨x2, y2⟩ := h2 D ι hD (by rw [← hl1]; exact hat.right) hnd.2.1
    exact ⟨.cons x1 x2, y1.append y2 hl1.symm⟩

theorem thawA_run {v : V} {c : Value} {f : List Nat} (h : BA w F v c f) (j : Nat) : ∃ bs : List Value, bs.length = (thawA grp j v).2.length ∧ Has w (thawA grp j v).2 bs f ∧
    ∀ (D : Nat → Prop) (ι : Nat → Nat → Value), D grp → At ι grp j bs → f.Nodup → RA w F D ι (thawA grp j v).1 c ∧ Lie w F D ι (thawA grp j v).2 bs := by
  cases h with
  | cell v c f h =>
    have hv : thawA grp j v = thawC grp j v := by
      cases h with
      | fv v c h => cases h <;> rfl
      | osl e sz n rows c h => rfl
      | dsl => rfl
    rw [hv]
    obtain ⟨bs, h1, h2, h3⟩ := thawC_run (grp := grp) h j
    exact ⟨bs, h1, h2, fun D ι hD hat hnd => ⟨.cell _ _ (h3 D ι hD hat hnd).1, (h3 D ι hD hat hnd).2⟩⟩
  | agg cs ds f h =>
    obtain ⟨bs, h1, h2, h3⟩ := thawCs_run (grp := grp) h j
    exact ⟨bs, h1, h2, fun D ι hD hat hnd => ⟨.agg _ _ (h3 D ι hD hat hnd).1, (h3 D ι hD hat hnd).2⟩⟩
  | optr e cs g cur f hg h =>
    obtain ⟨bs, h1, h2, h3⟩ := thawCs_run (grp := grp) h (j + 1)
    refine ⟨.pointer (some ⟨g, 0, none⟩) :: bs, by simp [thawA, h1], ?_, fun D ι hD hat hnd => ?_⟩
    · have := Has.cons (w := w) (e := .var e (thawCs grp (j + 1) cs).1) (b := .pointer (some ⟨g, 0, none⟩)) (f1 := [g]) (fun k hk => by
        have hk : blk (.pointer (some ⟨g, 0, none⟩)) = some k := hk
        simp [blk] at hk
        simp [hk]) h2
      exact this
    have hat' : At ι grp (j + 1) bs := fun k b hb => by
      have := hat (k + 1) b (by simpa using hb)
      rw [← this]; congr 1; omega
    obtain ⟨x, y⟩ := h3 D ι hD hat' (List.nodup_cons.1 hnd).2
    refine ⟨.cell _ _ (.ptr grp j 0 g hD (hat 0 _ rfl)), ?_⟩
    intro k e' b he hb
    cases k with
    | zero =>
      simp [thawA] at he hb
      subst he; subst hb
      exact ⟨g, cur, rfl, hg, x⟩
    | succ k => exact y k e' b (by simpa [thawA] using he) (by simpa using hb)

theorem thawAs_run {vs : List V} {cs : List Value} {f : List Nat} (h : BS w F vs cs f) : ∀ j, ∃ bs : List Value, bs.length = (thawAs grp j vs).2.length ∧ Has w (thawAs grp j vs).2 bs f ∧
    ∀ (D : Nat → Prop) (ι : Nat → Nat → Value), D grp → At ι grp j bs → f.Nodup → All2 (RA w F D ι) (thawAs grp j vs).1 cs ∧ Lie w F D ι (thawAs grp j vs).2 bs := by
  induction h with
  | nil => exact fun j => ⟨[], rfl, .nil, fun D ι hD hat _ => ⟨.nil, fun k e b he => by simp [thawAs] at he⟩⟩
  | cons v c f vs cs fs h t ih =>
    intro j
    obtain ⟨b1, hl1, hf1, h1⟩ := thawA_run (grp := grp) h j
    obtain ⟨b2, hl2, hf2, h2⟩ := ih (j + (thawA grp j v).2.length)
    refine ⟨b1 ++ b2, by simp [thawAs, hl1, hl2], hf1.append hf2 hl1, fun D ι hD hat hnd => ?_⟩
    rw [List.nodup_append] at hnd
    obtain ⟨x1, y1⟩ := h1 D ι hD hat.left hnd.1
    obtain ⟨x2, y2⟩ := h2 D ι hD (by rw [← hl1]; exact hat.right) hnd.2.1
    exact ⟨.cons x1 x2, y1.append y2 hl1.symm⟩

theorem thawR_run {v : V} {c : Value} {f : List Nat} (h : BR w F v c f) (j : Nat) : ∃ bs : List Value, bs.length = (thawR grp j v).2.length ∧ Has w (thawR grp j v).2 bs f ∧
    ∀ (D : Nat → Prop) (ι : Nat → Nat → Value), D grp → At ι grp j bs → f.Nodup → RV w F D ι (thawR grp j v).1 c ∧ Lie w F D ι (thawR grp j v).2 bs := by
  cases h with
  | one v c f h =>
    have hv : thawR grp j v = thawA grp j v := by
      cases h with
      | cell v c f h => cases h with
        | fv v c h => cases h <;> rfl
        | osl e sz n rows c h => rfl
        | dsl => rfl
      | agg cs ds f h => rfl
      | optr e cs g cur f hg h => rfl
    rw [hv]
    obtain ⟨bs, h1, h2, h3⟩ := thawA_run (grp := grp) h j
    exact ⟨bs, h1, h2, fun D ι hD hat hnd => ⟨.one _ _ (h3 D ι hD hat hnd).1, (h3 D ι hD hat hnd).2⟩⟩
  | tup vs cs f h =>
    obtain ⟨bs, h1, h2, h3⟩ := thawAs_run (grp := grp) h j
    exact ⟨bs, h1, h2, fun D ι hD hat hnd => ⟨.tup _ _ (h3 D ι hD hat hnd).1, (h3 D ι hD hat hnd).2⟩⟩
end

end Go.Proofs.Ythegkbaijmkhfaa
