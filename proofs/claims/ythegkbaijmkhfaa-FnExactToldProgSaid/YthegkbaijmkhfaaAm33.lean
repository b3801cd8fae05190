/- Arguments laid open: from what a row says of them to data. -/
import Derived.Test.YthegkbaijmkhfaaAm32
import Derived.WideShapes
import Derived.Deep.Slices
import Derived.ChangeArms
import Derived.Below
import Derived.Carry
set_option linter.unusedVariables false
set_option linter.unusedSimpArgs false
namespace Go.Proofs.Ythegkbaijmkhfaa
open Go

def okI (n : Int) : Prop := -9223372036854775808 ≤ n ∧ n ≤ 9223372036854775807
def okL {α : Type} (bytes : Nat) (ok : α → Prop) (l : List α) : Prop := l.length * bytes ≤ 140737488351232 ∧ ∀ x ∈ l, ok x
def okT {α : Type} (x : α) : Prop := True

/-- The blocks that stand when the call begins. -/
def Old (w : World) (k : Nat) : Prop := k < w.heap.size

/-- Whatever reads as a value of type t is data of this kind. -/
def Opens (P : Program) {α : Type} (t : TypeId) (enc : α → List V) (ok : α → Prop) : Prop :=
  ∀ {H : Type} (ec : TypeId × Value → H) (w : World) (fuel : Nat) (cs : List Value) (x : DataW H × List MemPlace), DataW.trod ec P w 0 (fun _ => true) true fuel t cs = some x → (x.1.weights P t).all (· ≤ reachBytes) = true →
    ∃ y, FL w (Old w) (enc y) cs ∧ ok y

section
variable {P : Program} {α : Type} {t e : TypeId} {enc : α → List V} {ok : α → Prop}

theorem opens_int (ht : P.underlying t = some (.int .i64)) : Opens P t (fun n : Int => [vi n]) okI := by
  intro H ec w fuel cs x h _
  obtain ⟨n, rfl, rfl, hw⟩ := DataW.trod_int ht h
  refine ⟨n, .cons _ _ _ _ (.i _ _) .nil, ?_⟩
  simp only [Lit.wf, Bool.and_eq_true, decide_eq_true_eq] at hw
  exact hw
def okU8 (n : Int) : Prop := 0 ≤ n ∧ n ≤ 255
theorem opens_u8 (ht : P.underlying t = some (.int .u8)) : Opens P t (fun n : Int => [.i .u8 n]) okU8 := by
  intro H ec w fuel cs x h _
  obtain ⟨n, rfl, rfl, hw⟩ := DataW.trod_int ht h
  refine ⟨n, .cons _ _ _ _ (.i _ _) .nil, ?_⟩
  simp only [Lit.wf, Bool.and_eq_true, decide_eq_true_eq] at hw
  exact hw
theorem opens_bool (ht : P.underlying t = some .bool) : Opens P t (fun b : Bool => [.b b]) okT := by
  intro H ec w fuel cs x h _
  obtain ⟨n, rfl, rfl⟩ := DataW.trod_bool ht h
  exact ⟨n, .cons _ _ _ _ (.b _) .nil, trivial⟩

theorem weightsAll_mem {H : Type} {P : Program} {e : TypeId} {p : Nat → Bool} : ∀ {ds : List (DataW H)}, (DataW.weightsAll P e ds).all p = true → ∀ d ∈ ds, (d.weights P e).all p = true
  | [], _, d, hd => by cases hd
  | d0 :: ds, h, d, hd => by
    rw [DataW.weightsAll, List.all_append, Bool.and_eq_true] at h
    rcases List.mem_cons.1 hd with rfl | hd
    · exact h.1
    · exact weightsAll_mem h.2 d hd
theorem FL.flat {w : World} {F : Nat → Prop} (vs : Nat → List V) (cs : Nat → List Value) : ∀ n, (∀ i, i < n → FL w F (vs i) (cs i)) → FL w F ((List.range n).flatMap vs) ((List.range n).flatMap cs)
  | 0, _ => .nil
  | n + 1, h => by
    rw [List.range_succ, List.flatMap_append, List.flatMap_append]
    refine FL.append (FL.flat vs cs n fun i hi => h i (by omega)) ?_
    simpa using h n (by omega)
theorem flat_get {sz : Nat} (cs : Nat → List Value) : ∀ n, (∀ i, i < n → (cs i).length = sz) → ∀ i, i < n → ∀ j, j < sz → ((List.range n).flatMap cs)[i * sz + j]? = (cs i)[j]? ∧ ((List.range n).flatMap cs).length = n * sz
  | 0, _, i, hi, _, _ => by omega
  | n + 1, h, i, hi, j, hj => by
    have hl : ((List.range n).flatMap cs).length = n * sz := by
      cases n with
      | zero => simp
      | succ m => exact (flat_get cs (m + 1) (fun i hi => h i (by omega)) 0 (by omega) j hj).2
    rw [List.range_succ, List.flatMap_append]
    simp only [List.flatMap_cons, List.flatMap_nil, List.append_nil]
    constructor
    · by_cases hin : i < n
      · have : i * sz + j < n * sz := by
          have : (i + 1) * sz ≤ n * sz := Nat.mul_le_mul_right _ hin
          rw [Nat.add_mul] at this
          omega
        rw [List.getElem?_append_left (by omega)]
        exact (flat_get cs n (fun i hi => h i (by omega)) i hin j hj).1
      · have : i = n := by omega
        subst this
        rw [List.getElem?_append_right (by omega), hl]
        congr 1
        omega
    · rw [List.length_append, hl, h n (by omega), Nat.add_mul, Nat.one_mul]
theorem choose_all {β : Type} {n : Nat} {p : Nat → β → Prop} (d : β) (h : ∀ i, i < n → ∃ x, p i x) : ∃ f : Nat → β, ∀ i, i < n → p i (f i) := by
  classical
  refine ⟨fun i => if hi : i < n then (h i hi).choose else d, fun i hi => ?_⟩
  simp only [dif_pos hi]
  exact (h i hi).choose_spec

theorem opens_slice {sz bytes : Nat} (ht : P.underlying t = some (.slice e)) (he : Opens P e enc ok) (hsz : P.cellsOf e = sz) (h0 : 0 < sz) (hb : P.bytesOf e = bytes) (hl : ∀ y, (enc y).length = sz) : Opens P t (fun l : List α => [vsl sz enc l]) (okL bytes ok) := by
  intro H ec w fuel cs x h hw
  rcases DataW.trod_slice ht h with ⟨rfl, rfl⟩ | ⟨a, len, cap, elems, rest, n, _, rfl, rfl, hbs, hlc, hcm, hlen, hel, hsp, hns⟩
  · exact ⟨[], .cons _ _ _ _ (.sl0 sz none 0) .nil, by simp, by simp⟩
  simp only [DataW.weights, ht, List.all_cons, List.all_append, Bool.and_eq_true, decide_eq_true_eq, List.length_map] at hw
  obtain ⟨hw0, hw1, hw2⟩ := hw
  have hrest : rest.length = cap - len := by
    cases hs : (fun _ : Nat => true) a.block with
    | true => exact (hsp rfl).1
    | false => cases hs
  have hlen2 : len * bytes ≤ 140737488351232 := by
    rw [hb] at hw0
    have : len * bytes ≤ (elems.length + rest.length) * bytes := Nat.mul_le_mul_right _ (by omega)
    have h2 : reachBytes = 140737488351232 := rfl
    omega
  cases Nat.eq_zero_or_pos len with
  | inl hz =>
    subst hz
    exact ⟨[], .cons _ _ _ _ (.sl0 sz _ cap) .nil, by simp, by simp⟩
  | inr hpos =>
    have key : ∀ i, i < len → ∃ cy : List Value × α, w.cells? 0 (a.add (i * sz)) sz = some cy.1 ∧ FL w (Old w) (enc cy.2) cy.1 ∧ ok cy.2 := by
      intro i hi
      have h1 := hel i hi
      have hi' : i < elems.length := by omega
      rw [List.getElem?_eq_getElem hi', hsz] at h1
      obtain ⟨ci, h2, h3⟩ := Option.bind_eq_some_iff.1 h1
      obtain ⟨y, h4, h5⟩ := he ec w n ci _ h3 (weightsAll_mem hw1 _ (List.mem_map.2 ⟨_, List.getElem_mem hi', rfl⟩))
      exact ⟨(ci, y), h2, h4, h5⟩
    obtain ⟨cy0, _⟩ := key 0 hpos
    obtain ⟨f, hf⟩ := choose_all cy0 key
    have hcl : ∀ i, i < len → (f i).1.length = sz := fun i hi => (World.cells?_some (hf i hi).1).2.1
    have hspot : a.spot = none := by
      have := (World.cells?_some (hf 0 hpos).1).2.2 0 h0
      rw [List.getElem?_eq_getElem (by rw [hcl 0 hpos]; exact h0)] at this
      have := World.cell?_spot this
      simpa [Addr.add] using this
    have hold : Old w a.block := by
      have := (World.cells?_some (hf 0 hpos).1).2.2 0 h0
      rw [List.getElem?_eq_getElem (by rw [hcl 0 hpos]; exact h0)] at this
      unfold World.cell? at this
      unfold Old
      split at this
      · rename_i c _ _ hh
        simpa [Addr.add] using (Array.getElem?_eq_some_iff.1 hh).1
      · cases this
    refine ⟨(List.range len).map fun i => (f i).2, ?_, ?_, ?_⟩
    · have haddr : a = ⟨a.block, a.off, none⟩ := by cases a; simp_all
      rw [show (Value.slice (some a) len cap) = .slice (some ⟨a.block, a.off, none⟩) len cap from by rw [← haddr]]
      refine .cons _ _ _ _ ?_ .nil
      unfold vsl
      rw [List.length_map, List.length_range]
      refine .sl sz len _ _ _ cap ((List.range len).flatMap fun i => (f i).1) hold ?_ ?_ ?_ hlc ?_
      · have := FL.flat (w := w) (F := Old w) (fun i => enc (f i).2) (fun i => (f i).1) len fun i hi => (hf i hi).2.1
        rw [List.map_map, ← List.flatMap_def]
        exact this
      · simp
      · intro r hr
        rw [List.map_map] at hr
        obtain ⟨i, _, rfl⟩ := List.mem_map.1 hr
        exact hl _
      · intro j u hu
        have hlf := (flat_get (fun i => (f i).1) len hcl 0 hpos 0 h0).2
        have hj : j < len * sz := by
          have := (List.getElem?_eq_some_iff.1 hu).1
          omega
        have hq : j / sz < len := Nat.div_lt_of_lt_mul (by rw [Nat.mul_comm]; exact hj)
        have hr : j % sz < sz := Nat.mod_lt _ h0
        have hjs : j = j / sz * sz + j % sz := by rw [Nat.mul_comm]; exact (Nat.div_add_mod j sz).symm
        have hget := (flat_get (fun i => (f i).1) len hcl _ hq _ hr).1
        rw [← hjs, hu] at hget
        have hcell := (World.cells?_some (hf _ hq).1).2.2 _ hr
        rw [← hget] at hcell
        rw [← hcell]
        have hadd : (a.add (j / sz * sz)).add (j % sz) = a.add j := by
          rw [show (a.add (j / sz * sz)).add (j % sz) = a.add (j / sz * sz + j % sz) from Go.Deep.add_add a _ _, ← hjs]
        rw [hadd]
        congr 1
        unfold Addr.add
        split
        · rename_i h; subst h; exact haddr.symm
        · rfl
    · simpa using hlen2
    · intro y hy
      obtain ⟨i, hi, rfl⟩ := List.mem_map.1 hy
      exact (hf i (by simpa using hi)).2.2

/-! ### Parameters -/
section
variable {α' : Type} {H : Type} {ec : TypeId × Value → H} {w : World} {base : Nat} {r : Reach} {v : Value} {d : DataW H} {p : List MemPlace}
theorem BA.of1 {F : Nat → Prop} {x : V} {c : Value} (h : FL w F [x] [c]) : BA w F x c [] := by
  cases h with
  | cons _ _ _ _ h _ => exact .cell _ _ _ (.fv _ _ h)
theorem BL.ofFL {F : Nat → Prop} : ∀ {vs : List V} {cs : List Value}, FL w F vs cs → BL w F vs cs []
  | _, _, .nil => .nil
  | _, _, .cons v c vs cs h t => .cons v c [] vs cs [] (.fv _ _ h) (BL.ofFL t)
theorem param_int {f : α → V} (ht : P.underlying t = some (.int .i64)) (ho : Opens P t (fun y => [f y]) ok) (hv : Value.okWide P w r base t v) (h : DataW.Trod ec P w 0 (fun _ => true) true t v d p) (hw : (d.weights P t).all (· ≤ reachBytes) = true) : ∃ y, BA w (Old w) (f y) v [] ∧ ok y := by
  obtain ⟨n, rfl⟩ := WideShapes.okWide_int ht hv
  obtain ⟨fuel, hf⟩ := h
  obtain ⟨y, h1, h2⟩ := ho ec w fuel _ _ hf hw
  exact ⟨y, BA.of1 h1, h2⟩
theorem param_bool {f : α → V} (ht : P.underlying t = some .bool) (ho : Opens P t (fun y => [f y]) ok) (hv : Value.okWide P w r base t v) (h : DataW.Trod ec P w 0 (fun _ => true) true t v d p) (hw : (d.weights P t).all (· ≤ reachBytes) = true) : ∃ y, BA w (Old w) (f y) v [] ∧ ok y := by
  obtain ⟨n, rfl⟩ := WideShapes.okWide_bool ht hv
  obtain ⟨fuel, hf⟩ := h
  obtain ⟨y, h1, h2⟩ := ho ec w fuel _ _ hf hw
  exact ⟨y, BA.of1 h1, h2⟩
theorem param_slice {f : α → V} (ht : P.underlying t = some (.slice e)) (ho : Opens P t (fun y => [f y]) ok) (hv : Value.okWide P w r base t v) (h : DataW.Trod ec P w 0 (fun _ => true) true t v d p) (hw : (d.weights P t).all (· ≤ reachBytes) = true) : ∃ y, BA w (Old w) (f y) v [] ∧ ok y := by
  obtain ⟨a, l, c, rfl⟩ := WideShapes.okWide_slice ht hv
  obtain ⟨fuel, hf⟩ := h
  obtain ⟨y, h1, h2⟩ := ho ec w fuel _ _ hf hw
  exact ⟨y, BA.of1 h1, h2⟩
theorem param_struct {fs : Array Field} (ht : P.underlying t = some (.struct fs)) (ho : Opens P t enc ok) (hv : Value.okWide P w r base t v) (h : DataW.Trod ec P w 0 (fun _ => true) true t v d p) (hw : (d.weights P t).all (· ≤ reachBytes) = true) : ∃ y, BA w (Old w) (.agg (enc y)) v [] ∧ ok y := by
  obtain ⟨cs, rfl, _⟩ := WideShapes.okWide_struct ht hv
  obtain ⟨fuel, hf⟩ := h
  obtain ⟨y, h1, h2⟩ := ho ec w fuel _ _ hf hw
  refine ⟨y, ?_, h2⟩
  have := BA.agg (w := w) (F := Old w) _ _ _ (BL.ofFL h1)
  simpa [Value.cells] using this
end
/-- A law's call that answers true. -/
theorem law_calls {f : FuncId} {args : List V} {outs : List (Option V)} {vs : List Value} {W : World} (h : ACalls P f args (.b true) outs) (hb : BS W (Old W) args vs []) :
    Calls P f vs.toArray W fun e W' => e = .returned (.bool true) ∧ RowKit.Below W.heap.size W W' := by
  refine (h.2 W (Old W) vs [] hb List.nodup_nil (by simp) (fun k hk => hk)).mono ?_
  rintro e W' ⟨c, F', fr, fo, rfl, hk, _, _, hr, _, _, _⟩
  refine ⟨?_, hk.os, hk.tape, hk.output, hk.size, fun k hk' => hk.block k hk' (by simp)⟩
  cases hr with
  | one _ _ _ h =>
    cases h with
    | cell _ _ _ h =>
      cases h with
      | fv _ _ h => cases h; rfl
end
end Go.Proofs.Ythegkbaijmkhfaa
