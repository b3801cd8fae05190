/- A whole region: what it comes to, whether it draws its order or not. -/
import Derived.Test.YthegkbaijmkhfaaAm25
set_option linter.unusedVariables false
set_option linter.unusedSimpArgs false
namespace Go.Proofs.Ythegkbaijmkhfaa
open Go

def memN (l : List Nat) (x : Nat) : Bool := l.any fun y => y == x
theorem memN_iff {l : List Nat} {x : Nat} : memN l x = true ↔ x ∈ l := by
  unfold memN
  rw [List.any_eq_true]
  constructor
  · rintro ⟨y, hy, h⟩
    simp at h
    exact h ▸ hy
  · intro h
    exact ⟨x, h, by simp⟩
def dnN : List Nat → List Nat
  | [] => []
  | x :: xs => if memN (dnN xs) x then dnN xs else x :: dnN xs
theorem mem_dnN {x : Nat} : ∀ {l : List Nat}, x ∈ dnN l → x ∈ l
  | y :: l, h => by
    unfold dnN at h
    split at h
    · exact List.mem_cons.2 (.inr (mem_dnN h))
    · rcases List.mem_cons.1 h with rfl | h
      · simp
      · exact List.mem_cons.2 (.inr (mem_dnN h))
/-- The closures, each told once. -/
def closD (ops : Array Oper) : Nat → List (List Nat)
  | 0 => []
  | k + 1 => let L := closD ops k; L ++ [dnN ((edgesOf ops k).flatMap fun e => e :: L.getD e [])]
theorem closD_len (ops : Array Oper) : ∀ k, (closD ops k).length = k
  | 0 => rfl
  | k + 1 => by simp [closD, closD_len ops k]
theorem closD_sub (ops : Array Oper) : ∀ k i, ∀ x ∈ (closD ops k).getD i [], x ∈ (clos ops k).getD i []
  | 0, i, x, h => by simp [closD] at h
  | k + 1, i, x, h => by
    simp only [closD, clos, List.getD_eq_getElem?_getD] at h ⊢
    by_cases q : i < k
    · rw [List.getElem?_append_left (by rw [closD_len]; exact q)] at h
      rw [List.getElem?_append_left (by rw [clos_len]; exact q)]
      have := closD_sub ops k i x (by rw [List.getD_eq_getElem?_getD]; exact h)
      rwa [List.getD_eq_getElem?_getD] at this
    · rw [List.getElem?_append_right (by rw [closD_len]; omega), closD_len] at h
      rw [List.getElem?_append_right (by rw [clos_len]; omega), clos_len]
      by_cases q' : i = k
      · subst q'
        simp only [Nat.sub_self, List.getElem?_cons_zero, Option.getD_some] at h ⊢
        obtain ⟨e, he, hx⟩ := List.mem_flatMap.1 (mem_dnN h)
        refine List.mem_flatMap.2 ⟨e, he, ?_⟩
        rcases List.mem_cons.1 hx with rfl | hx
        · simp
        · have := closD_sub ops i e x (by rw [List.getD_eq_getElem?_getD]; exact hx)
          rw [List.getD_eq_getElem?_getD] at this
          exact List.mem_cons.2 (.inr this)
      · have : i - k = (i - k - 1) + 1 := by omega
        rw [this] at h
        simp at h

def indB (ops : Array Oper) (base x i : Nat) (f1 f2 : Foot) : Bool :=
  (match ops[x]?, ops[i]? with
   | some o1, some o2 => o1.apart ops o2
   | _, _ => false) &&
  f1.wr.all (fun id => !hasId f2.rd id && !hasId f2.wr id) && f2.wr.all (fun id => !hasId f1.rd id) &&
  f2.rd.all (fun id => !(id.1 == base + x)) && f2.wr.all (fun id => !(id.1 == base + x)) &&
  f1.rd.all (fun id => !(id.1 == base + i)) && f1.wr.all (fun id => !(id.1 == base + i))

theorem not_hasId {l : List (Nat × Nat)} {x : Nat × Nat} (h : (!hasId l x) = true) : x ∉ l := by
  intro q
  rw [hasId_iff.2 q] at h
  cases h

theorem indB_ind {ops : Array Oper} {base x i : Nat} {f1 f2 : Foot} (hne : x < i) (h : indB ops base x i f1 f2 = true) : Ind ops base x i f1 f2 := by
  unfold indB at h
  simp only [Bool.and_eq_true] at h
  obtain ⟨⟨⟨⟨⟨⟨h1, h2⟩, h3⟩, h4⟩, h5⟩, h6⟩, h7⟩ := h
  refine ⟨by omega, ?_, ?_, ?_, ?_, ?_⟩
  · intro o1 o2 e1 e2
    rw [e1, e2] at h1
    exact h1
  · intro id hid
    have := List.all_eq_true.1 h2 id hid
    simp only [Bool.and_eq_true] at this
    exact ⟨not_hasId this.1, not_hasId this.2⟩
  · intro id hid
    exact not_hasId (List.all_eq_true.1 h3 id hid)
  · intro id hid
    rcases List.mem_append.1 hid with q | q
    · have := List.all_eq_true.1 h4 id q
      simpa using this
    · have := List.all_eq_true.1 h5 id q
      simpa using this
  · intro id hid
    rcases List.mem_append.1 hid with q | q
    · have := List.all_eq_true.1 h6 id q
      simpa using this
    · have := List.all_eq_true.1 h7 id q
      simpa using this

/-- Whatever is not told to come ahead is apart. -/
def apartB (ops : Array Oper) (base : Nat) (L : List (List Nat)) (fs : List Foot) : Bool :=
  (List.range ops.size).all fun i =>
    (edgesOf ops i).all (fun e => Nat.blt e i) &&
    (List.range i).all fun x => memN (L.getD i []) x || indB ops base x i (fs.getD x ⟨[], []⟩) (fs.getD i ⟨[], []⟩)

def ansOf (A : List (Nat × Tell)) (i : Nat) : Tell :=
  match A with
  | [] => {}
  | (j, x) :: A => if j == i then x else ansOf A i

def obls : List (List Prop × Foot) → List Prop
  | [] => []
  | r :: rs => r.1 ++ obls rs
theorem mem_obls {rs : List (List Prop × Foot)} (h : ∀ p ∈ obls rs, p) : ∀ r ∈ rs, ∀ p ∈ r.1, p := by
  induction rs with
  | nil => intro r hr; cases hr
  | cons r rs ih =>
    intro r' hr p hp
    rcases List.mem_cons.1 hr with rfl | hr
    · exact h p (List.mem_append.2 (.inl hp))
    · exact ih (fun p hp => h p (List.mem_append.2 (.inr hp))) r' hr p hp

def roomN : Nat → List (Option (List Ent))
  | 0 => []
  | n + 1 => none :: roomN n
theorem roomN_get : ∀ (n i : Nat) (l : List Ent), (roomN n)[i]? ≠ some (some l)
  | 0, i, l => by simp [roomN]
  | n + 1, 0, l => by simp [roomN]
  | n + 1, i + 1, l => by simpa [roomN] using roomN_get n i l
theorem roomN_len : ∀ n, (roomN n).length = n
  | 0 => rfl
  | n + 1 => by simp [roomN, roomN_len n]

def St.more (S : St) (n : Nat) : St := { S with h := S.h ++ roomN n }
theorem more_get {S : St} {n g : Nat} {l : List Ent} : (S.more n).h[g]? = some (some l) ↔ S.h[g]? = some (some l) := by
  unfold St.more
  simp only
  by_cases q : g < S.h.length
  · rw [List.getElem?_append_left q]
  · rw [List.getElem?_append_right (by omega)]
    constructor
    · intro h
      exact absurd h (roomN_get _ _ _)
    · intro h
      have := (List.getElem?_eq_some_iff.1 h).1
      omega
theorem more_D {S : St} {n g : Nat} : (S.more n).D g ↔ S.D g := by
  unfold St.D
  constructor
  · rintro ⟨l, h⟩
    exact ⟨l, more_get.1 h⟩
  · rintro ⟨l, h⟩
    exact ⟨l, more_get.2 h⟩
theorem more_ent {S : St} {n g j : Nat} : (S.more n).ent g j = S.ent g j := by
  have key : ∀ e, (S.more n).ent g j = some e ↔ S.ent g j = some e := by
    intro e
    constructor
    · intro h
      obtain ⟨l, hl⟩ := St.D_of_ent h
      rw [ent_eq hl] at h
      rw [ent_eq (more_get.1 hl)]
      exact h
    · intro h
      obtain ⟨l, hl⟩ := St.D_of_ent h
      rw [ent_eq hl] at h
      rw [ent_eq (more_get.2 hl)]
      exact h
  cases h : S.ent g j with
  | some e => exact (key e).2 h
  | none =>
    cases h' : (S.more n).ent g j with
    | none => rfl
    | some e => rw [(key e).1 h'] at h; cases h
theorem Rel.more {Γ : Ctx} {F : Nat → Prop} {ι : Nat → Nat → Value} {S : St} {a : Act} {w : World} (h : Rel Γ F ι S a w) (n : Nat) : Rel Γ F ι (S.more n) a w :=
  { F0 := h.F0, F1 := h.F1, F2 := h.F2, kept := h.kept
    tmps := h.tmps.imp fun _ _ x => x.mono (fun _ _ _ => rfl) (fun _ y => y) (fun g y => more_D.2 y) (fun _ _ _ => rfl)
    ents := fun g j e he => (h.ents g j e (more_ent ▸ he)).mono (fun _ _ _ => rfl) (fun _ y => y) (fun g y => more_D.2 y) (fun _ _ _ => rfl) (fun _ _ _ => rfl)
    sep := fun g j e k he => h.sep g j e k (more_ent ▸ he)
    inj := fun g j e g' j' e' k he he' => h.inj g j e g' j' e' k (more_ent ▸ he) (more_ent ▸ he')
    defers := h.defers
    pins := fun j c hc => ⟨more_D.2 (h.pins j c hc).1, (h.pins j c hc).2⟩ }

/-- A region: what it comes to, and what must hold. -/
def regM (cx : Cx) (ops : Array Oper) (draw : Bool) (A : List (Nat × Tell)) (S : St) : Option (St × List Prop) :=
  match runM cx ops S.h.length (ansOf A) (List.range ops.size) (S.more ops.size) with
  | none => none
  | some (S', rs) => if draw then (if apartB ops S.h.length (closD ops ops.size) (rs.map (·.2)) then some (S', obls rs) else none) else some (S', obls rs)

section
variable {cx : Cx} {Γ : Ctx} {F : Nat → Prop} {ι : Nat → Nat → Value} {S S' : St} {a : Act} {w : World} {ops : Array Oper} {A : List (Nat × Tell)}

theorem runM_len {base : Nat} {B : Nat → Tell} : ∀ {l : List Nat} {S S' : St} {rs : List (List Prop × Foot)}, runM cx ops base B l S = some (S', rs) → rs.length = l.length
  | [], S, S', rs, h => by
    unfold runM at h
    injection h with h
    injection h with h1 h2
    subst h2
    rfl
  | i :: l, S, S', rs, h => by
    obtain ⟨S1, r, rs', h1, h2, rfl⟩ := runM_cons h
    simp [runM_len h2]

theorem range_map_getD {α : Type} (d : α) : ∀ {rs : List α} {n : Nat}, rs.length = n → rs = (List.range n).map fun i => rs.getD i d := by
  intro rs n h
  apply List.ext_getElem
  · simp [h]
  · intro i h1 h2
    simp [List.getD_eq_getElem?_getD, h1]

theorem regM_wp {draw : Bool} {id : Nat} {ps : List Prop} {Q : Exit → Act → World → Prop} (h : Rel Γ F ι S a w) (hr : regM cx ops draw A S = some (S', ps)) (hob : ∀ p ∈ ps, p)
    (hQ : ∀ a' w' F' ι', Rel Γ F' ι' S' a' w' → Q .normal a' w') : (Code.region id ops draw).wp cx.P Q a w := by
  unfold regM at hr
  split at hr <;> try (cases hr; done)
  rename_i S1 rs hrun
  have hfree : ∀ i ∈ List.range ops.size, S.h.length + i < (S.more ops.size).h.length ∧ ¬ (S.more ops.size).D (S.h.length + i) := by
    intro i hi
    refine ⟨by simp [St.more, roomN_len, List.mem_range.1 hi], fun q => ?_⟩
    obtain ⟨l, hl⟩ := more_D.1 q
    have := (List.getElem?_eq_some_iff.1 hl).1
    omega
  cases draw with
  | false =>
    simp only [Bool.false_eq_true, if_false] at hr
    injection hr with hr
    injection hr with h1 h2
    subst h1; subst h2
    exact wp_region (runM_wp (h.more ops.size) List.nodup_range hfree hrun (mem_obls hob) hQ)
  | true =>
    simp only [if_true] at hr
    split at hr <;> try (cases hr; done)
    rename_i hap
    injection hr with hr
    injection hr with h1 h2
    subst h1; subst h2
    have hw : Rel Γ F ι (S.more ops.size) a { w with drawn := w.drawn + 1 } := (h.more ops.size).world ⟨rfl, rfl, rfl⟩ (Nat.le_refl _) (fun _ _ => rfl)
    have hlen := runM_len hrun
    rw [List.length_range] at hlen
    have hrs := range_map_getD (([], ⟨[], []⟩) : List Prop × Foot) hlen
    unfold apartB at hap
    rw [List.all_eq_true] at hap
    have hap' : ∀ i, i < ops.size → (∀ e ∈ edgesOf ops i, e < i) ∧ ∀ x, x < i → x ∉ closOf ops i → Ind ops S.h.length x i ((rs.getD x ([], ⟨[], []⟩)).2) ((rs.getD i ([], ⟨[], []⟩)).2) := by
      intro i hi
      have := hap i (List.mem_range.2 hi)
      simp only [Bool.and_eq_true] at this
      refine ⟨fun e he => ?_, fun x hx hc => ?_⟩
      · have := List.all_eq_true.1 this.1 e he
        rwa [Nat.blt_eq] at this
      · have h2 := List.all_eq_true.1 this.2 x (List.mem_range.2 hx)
        rcases Bool.or_eq_true_iff.1 h2 with q | q
        · exfalso
          apply hc
          have := closD_sub ops ops.size i x (memN_iff.1 q)
          rwa [clos_get ops i ops.size hi] at this
        · have := indB_ind hx q
          have hm : ∀ j, j < rs.length → (rs.map (·.2)).getD j ⟨[], []⟩ = (rs.getD j ([], ⟨[], []⟩)).2 := by
            intro j hj
            simp [List.getD_eq_getElem?_getD, hj]
          rw [hm x (by omega), hm i (by omega)] at this
          exact this
    refine wp_region_any cx.mixed ?_
    have hrange : ∀ i, i < ops.size → rs.getD i ([], ⟨[], []⟩) ∈ rs := by
      intro i hi
      have : i < rs.length := by omega
      simp [List.getD_eq_getElem?_getD, this]
    refine wpAny_of_runM (rc := fun i => rs.getD i ([], ⟨[], []⟩)) (base := S.h.length) (A := ansOf A) (fun i hi => (hap' i hi).1) (fun x i hx hi hc => (hap' i hi).2 x hx hc) (fun i hi p hp => mem_obls hob _ (hrange i hi) p hp) hQ
      ops.size (List.range ops.size) _ _ F ι a _ (by simp) (by simp) ?_ ?_ ?_ ?_ hw hfree ?_
    · exact List.pairwise_lt_range
    · intro i hi
      simp [List.mem_range, hi, Array.getD_eq_getD_getElem?]
    · intro i hi
      exact List.mem_range.1 hi
    · intro i hi hn
      exact absurd (List.mem_range.2 hi) hn
    · rw [← hrs]
      exact hrun
end

end Go.Proofs.Ythegkbaijmkhfaa
