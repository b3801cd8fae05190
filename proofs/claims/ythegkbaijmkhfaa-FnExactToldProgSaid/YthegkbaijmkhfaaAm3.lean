/- How a state goes on: a slot is written, a block is made, an entry is written, a row is given up. -/
import Derived.Test.YthegkbaijmkhfaaAm2
set_option linter.unusedVariables false
set_option linter.unusedSimpArgs false
namespace Go.Proofs.Ythegkbaijmkhfaa
open Go

theorem ownsRow_same {w w' : World} {b : Nat} {e : TypeId} {sz n : Nat} {v : Value} {xs : List Value} (h : w.ownsRow b e sz v n xs) (hb : ∀ k, blk v = some k → w'.heap[k]? = w.heap[k]?) : w'.ownsRow b e sz v n xs := by
  refine ⟨h.1, ?_⟩
  rcases h.2 with hn | ⟨g, cap, cur, rfl, hbg, hg, rest⟩
  · exact .inl hn
  · exact .inr ⟨g, cap, cur, rfl, hbg, (hb g rfl).trans hg, rest⟩

theorem ownsRow_det {w w' : World} {e : TypeId} {sz n : Nat} {v : Value} {xs ys : List Value} (h : w.ownsRow 0 e sz v n xs) (h' : w'.ownsRow 0 e sz v n ys) (hb : ∀ k, blk v = some k → w'.heap[k]? = w.heap[k]?) : xs = ys := by
  rcases h.2 with ⟨hv, hn⟩ | ⟨g, cap, cur, hv, _, hg, _, _, _, ht⟩
  · have h1 := h.1
    have h2 := h'.1
    subst hn
    rw [Nat.zero_mul] at h1 h2
    rw [List.eq_nil_of_length_eq_zero h1, List.eq_nil_of_length_eq_zero h2]
  · rcases h'.2 with ⟨hv', _⟩ | ⟨g', cap', cur', hv', _, hg', _, _, _, ht'⟩
    · rw [hv] at hv'; cases hv'
    · rw [hv] at hv'
      injection hv' with e1 e2 e3
      injection e1 with e1
      injection e1 with e1
      subst e1
      have := hb g (by rw [hv]; rfl)
      rw [hg, hg'] at this
      injection this with this
      injection this with this
      subst this
      rw [← ht, ← ht']
theorem ownsRow_lt {w : World} {e : TypeId} {sz n : Nat} {v : Value} {xs : List Value} (h : w.ownsRow 0 e sz v n xs) {k : Nat} (hk : blk v = some k) : k < w.heap.size := by
  rcases h.2 with ⟨hv, _⟩ | ⟨g, cap, cur, hv, _, hg, _⟩
  · rw [hv] at hk; cases hk
  · rw [hv] at hk
    injection hk with hk
    subst hk
    exact (Array.getElem?_eq_some_iff.1 hg).1
theorem mem_fpb {c : Value} {k : Nat} : k ∈ fpb c ↔ blk c = some k := by
  unfold fpb
  cases blk c with
  | none => simp
  | some q => simp [eq_comm]

mutual
theorem BC.mono {w w' : World} {F F' : Nat → Prop} (hs : Same w w' F) (hF : ∀ g, F g → F' g) : ∀ {v c f}, BC w F v c f → (∀ k ∈ f, w'.heap[k]? = w.heap[k]?) → BC w' F' v c f
  | _, _, _, .fv v c h, _ => .fv _ _ (h.mono hs hF)
  | _, _, _, .osl e sz n rows c h, hb => by
    obtain ⟨flat, ho, hf, hn, hl⟩ := h
    exact .osl _ _ _ _ _ ⟨flat, ownsRow_same ho (fun k hk => hb k (mem_fpb.2 hk)), hf.mono hs hF, hn, hl⟩
  | _, _, _, .dsl e sz n rows c flat fs ho hr hn hl, hb =>
    .dsl e sz n rows c flat fs (ownsRow_same ho (fun k hk => hb k (List.mem_append.2 (.inl (mem_fpb.2 hk))))) (BL.mono hs hF hr fun k hk => hb k (List.mem_append.2 (.inr hk))) hn hl
theorem BL.mono {w w' : World} {F F' : Nat → Prop} (hs : Same w w' F) (hF : ∀ g, F g → F' g) : ∀ {vs cs f}, BL w F vs cs f → (∀ k ∈ f, w'.heap[k]? = w.heap[k]?) → BL w' F' vs cs f
  | _, _, _, .nil, _ => .nil
  | _, _, _, .cons v c f vs cs fs h t, hb => .cons v c f vs cs fs (BC.mono hs hF h fun k hk => hb k (List.mem_append.2 (.inl hk))) (BL.mono hs hF t fun k hk => hb k (List.mem_append.2 (.inr hk)))
end
mutual
theorem BC.det {w w' : World} {F F' : Nat → Prop} : ∀ {v c f f'}, BC w F v c f → BC w' F' v c f' → (∀ k ∈ f, w'.heap[k]? = w.heap[k]?) → f = f'
  | _, _, _, _, .fv v c h, h', _ => by
    cases h' with
    | fv => rfl
    | osl => cases h
    | dsl => cases h
  | _, _, _, _, .osl e sz n rows c h, h', _ => by
    cases h' with
    | fv _ _ h' => cases h'
    | osl => rfl
  | _, _, _, _, .dsl e sz n rows c flat fs ho hr hn hl, h', hb => by
    cases h' with
    | fv _ _ h' => cases h'
    | dsl _ _ _ _ _ flat' fs' ho' hr' hn' hl' =>
      have hfl := ownsRow_det ho ho' (fun k hk => hb k (List.mem_append.2 (.inl (mem_fpb.2 hk))))
      subst hfl
      rw [BL.det hr hr' fun k hk => hb k (List.mem_append.2 (.inr hk))]
theorem BL.det {w w' : World} {F F' : Nat → Prop} : ∀ {vs cs f f'}, BL w F vs cs f → BL w' F' vs cs f' → (∀ k ∈ f, w'.heap[k]? = w.heap[k]?) → f = f'
  | _, _, _, _, .nil, h', _ => by cases h'; rfl
  | _, _, _, _, .cons v c f vs cs fs h t, h', hb => by
    cases h' with
    | cons _ _ f' _ _ fs' h2 t2 => rw [BC.det h h2 fun k hk => hb k (List.mem_append.2 (.inl hk)), BL.det t t2 fun k hk => hb k (List.mem_append.2 (.inr hk))]
end
mutual
theorem BC.lt {w : World} {F : Nat → Prop} : ∀ {v c f}, BC w F v c f → ∀ k ∈ f, k < w.heap.size
  | _, _, _, .fv v c h, k, hk => by cases hk
  | _, _, _, .osl e sz n rows c h, k, hk => by
    obtain ⟨flat, ho, _⟩ := h
    exact ownsRow_lt ho (mem_fpb.1 hk)
  | _, _, _, .dsl e sz n rows c flat fs ho hr hn hl, k, hk => by
    rcases List.mem_append.1 hk with q | q
    · exact ownsRow_lt ho (mem_fpb.1 q)
    · exact BL.lt hr k q
theorem BL.lt {w : World} {F : Nat → Prop} : ∀ {vs cs f}, BL w F vs cs f → ∀ k ∈ f, k < w.heap.size
  | _, _, _, .nil, k, hk => by cases hk
  | _, _, _, .cons v c f vs cs fs h t, k, hk => by
    rcases List.mem_append.1 hk with q | q
    · exact BC.lt h k q
    · exact BL.lt t k q
end
theorem RC.notO {w : World} {F D : Nat → Prop} {ι : Nat → Nat → Value} {v : V} {c : Value} (h : RC w F D ι v c) : (∀ e sz n rows, v ≠ .osl e sz n rows) ∧ ∀ e sz n rows, v ≠ .dsl e sz n rows := by
  cases h with
  | fv v c h => cases h <;> exact ⟨fun _ _ _ _ => by simp, fun _ _ _ _ => by simp⟩
  | _ => exact ⟨fun _ _ _ _ => by simp, fun _ _ _ _ => by simp⟩
theorem BC.nilO {w : World} {F : Nat → Prop} {v : V} {c : Value} {f : List Nat} (h : BC w F v c f) (hv : (∀ e sz n rows, v ≠ .osl e sz n rows) ∧ ∀ e sz n rows, v ≠ .dsl e sz n rows) : f = [] := by
  cases h with
  | fv => rfl
  | osl e sz n rows => exact absurd rfl (hv.1 e sz n rows)
  | dsl e sz n rows => exact absurd rfl (hv.2 e sz n rows)
theorem KC.mono {w w' : World} {F F' D D' : Nat → Prop} {ι ι' : Nat → Nat → Value} (hs : Same w w' F) (hF : ∀ g, F g → F' g) (hD : ∀ g, D g → D' g) (hι : ∀ g j, D g → ι' g j = ι g j) {v c f} (h : KC w F D ι v c f) (hb : ∀ k ∈ f, w'.heap[k]? = w.heap[k]?) : KC w' F' D' ι' v c f := by
  cases h with
  | rc h => exact .rc _ _ (h.mono hs hF hD hι)
  | bc _ h => exact .bc _ _ _ (h.mono hs hF hb)
theorem KL.mono {w w' : World} {F F' D D' : Nat → Prop} {ι ι' : Nat → Nat → Value} (hs : Same w w' F) (hF : ∀ g, F g → F' g) (hD : ∀ g, D g → D' g) (hι : ∀ g j, D g → ι' g j = ι g j) : ∀ {vs cs f}, KL w F D ι vs cs f → (∀ k ∈ f, w'.heap[k]? = w.heap[k]?) → KL w' F' D' ι' vs cs f
  | _, _, _, .nil, _ => .nil
  | _, _, _, .cons v c f vs cs fs h t, hb => .cons v c f vs cs fs (h.mono hs hF hD hι fun k hk => hb k (List.mem_append.2 (.inl hk))) (KL.mono hs hF hD hι t fun k hk => hb k (List.mem_append.2 (.inr hk)))
theorem KC.det {w w' : World} {F F' D D' : Nat → Prop} {ι ι' : Nat → Nat → Value} {v c f f'} (h : KC w F D ι v c f) (h' : KC w' F' D' ι' v c f') (hb : ∀ k ∈ f, w'.heap[k]? = w.heap[k]?) : f = f' := by
  cases h with
  | rc h =>
    cases h' with
    | rc => rfl
    | bc _ h' => exact (h'.nilO h.notO).symm
  | bc _ h =>
    cases h' with
    | rc h' => exact h.nilO h'.notO
    | bc _ h' => exact h.det h' hb
theorem KL.det {w w' : World} {F F' D D' : Nat → Prop} {ι ι' : Nat → Nat → Value} : ∀ {vs cs f f'}, KL w F D ι vs cs f → KL w' F' D' ι' vs cs f' → (∀ k ∈ f, w'.heap[k]? = w.heap[k]?) → f = f'
  | _, _, _, _, .nil, h', _ => by cases h'; rfl
  | _, _, _, _, .cons v c f vs cs fs h t, h', hb => by
    cases h' with
    | cons _ _ f' _ _ fs' h2 t2 => rw [h.det h2 fun k hk => hb k (List.mem_append.2 (.inl hk)), KL.det t t2 fun k hk => hb k (List.mem_append.2 (.inr hk))]
theorem KL.lt {w : World} {F D : Nat → Prop} {ι : Nat → Nat → Value} : ∀ {vs cs f}, KL w F D ι vs cs f → ∀ k ∈ f, k < w.heap.size
  | _, _, _, .nil, k, hk => by cases hk
  | _, _, _, .cons v c f vs cs fs h t, k, hk => by
    rcases List.mem_append.1 hk with q | q
    · cases h with
      | rc => cases q
      | bc _ h => exact h.lt k q
    · exact KL.lt t k q

theorem EB.top {w : World} {e : Ent} {c : Value} {k : Nat} (h : blk c = some k) : EB w e c k := by
  cases e <;> first | exact h | exact .inl h
/-- The blocks of an entry, told by its cells. -/
theorem EB.deep_iff {w : World} {F D : Nat → Prop} {ι : Nat → Nat → Value} {e sz n : Nat} {rows : List (List V)} {c : Value} {flat : List Value} {fs : List Nat} (ho : w.ownsRow 0 e sz c n flat) (hk : KL w F D ι rows.flatten flat fs) {o : Bool} {k : Nat} : EB w (.deep o e sz n rows) c k ↔ k ∈ fpb c ++ fs := by
  rw [List.mem_append, mem_fpb]
  constructor
  · rintro (h | ⟨F', D', ι', flat', fs', ho', hk', h⟩)
    · exact .inl h
    · have := ownsRow_det ho ho' (fun _ _ => rfl)
      subst this
      rw [hk.det hk' (fun _ _ => rfl)]
      exact .inr h
  · rintro (h | h)
    · exact .inl h
    · exact .inr ⟨F, D, ι, flat, fs, ho, hk, h⟩
/-- Where an entry's blocks stay, it has no others. -/
theorem RE.back {w w' : World} {F D : Nat → Prop} {ι : Nat → Nat → Value} {e : Ent} {c : Value} (h : RE w F D ι e c) (hb : ∀ k, EB w e c k → w'.heap[k]? = w.heap[k]?) {k : Nat} (hk : EB w' e c k) : EB w e c k := by
  cases e with
  | deep o e sz n rows =>
    obtain ⟨flat, fs, ho, hkl, _⟩ := h
    have hb' : ∀ k ∈ fpb c ++ fs, w'.heap[k]? = w.heap[k]? := fun k q => hb k ((EB.deep_iff ho hkl).2 q)
    rcases hk with q | ⟨F', D', ι', flat', fs', ho', hk', q⟩
    · exact .inl q
    · have := ownsRow_det ho ho' (fun k hk => hb' k (List.mem_append.2 (.inl (mem_fpb.2 hk))))
      subst this
      rw [← hkl.det hk' fun k hk => hb' k (List.mem_append.2 (.inr hk))] at q
      exact .inr ⟨F, D, ι, flat, fs, ho, hkl, q⟩
  | _ => exact hk

theorem RE.mono {w w' : World} {F F' D D' : Nat → Prop} {ι ι' : Nat → Nat → Value} (hs : Same w w' F) (hF : ∀ g, F g → F' g) (hD : ∀ g, D g → D' g) (hι : ∀ g j, D g → ι' g j = ι g j)
    {e : Ent} {c : Value} (hb : ∀ k, e.live = true → EB w e c k → w'.heap[k]? = w.heap[k]?) (h : RE w F D ι e c) : RE w' F' D' ι' e c := by
  cases e with
  | deep o e sz n rows =>
    obtain ⟨flat, fs, ho, hkl, hn, hl, hd, hnr⟩ := h
    have hb' : ∀ k ∈ fpb c ++ fs, w'.heap[k]? = w.heap[k]? := fun k q => hb k rfl ((EB.deep_iff ho hkl).2 q)
    exact ⟨flat, fs, ownsRow_same ho (fun k hk => hb' k (List.mem_append.2 (.inl (mem_fpb.2 hk)))), hkl.mono hs hF hD hι fun k hk => hb' k (List.mem_append.2 (.inr hk)), hn, hl, hd, hnr⟩
  | dead => trivial
  | var e cs =>
    obtain ⟨g, cur, rfl, hg, hc⟩ := h
    exact ⟨g, cur, rfl, (hb g rfl rfl).trans hg, hc.imp fun _ _ x => x.mono hs hF hD hι⟩
  | arr e sz n rows =>
    obtain ⟨g, cur, rfl, hg, hc, hn, hl⟩ := h
    exact ⟨g, cur, rfl, (hb g rfl rfl).trans hg, hc.mono hs hF, hn, hl⟩
  | row e sz n rows =>
    obtain ⟨flat, ho, hf, hn, hl⟩ := h
    exact ⟨flat, ownsRow_same ho (fun k hk => hb k rfl hk), hf.mono hs hF, hn, hl⟩
  | frz sz n rows => exact FV.mono hs hF h
  | map t m es =>
    obtain ⟨g, arr, clock, rfl, hg, hc⟩ := h
    exact ⟨g, arr, clock, rfl, (hb g rfl rfl).trans hg, hc⟩

theorem same_of_heap {w w' : World} {F : Nat → Prop} (h : ∀ g, F g → w'.heap[g]? = w.heap[g]?) : Same w w' F := by
  intro g o hg
  simp [World.cell?, h g hg]

theorem put_toList (a : Act) (dst : Option Tmp) (v : Value) : (a.put dst v).tmps.toList = match dst with | some d => a.tmps.toList.set d v | none => a.tmps.toList := by
  cases dst <;> simp [Act.put]

theorem put_defers (a : Act) (dst : Option Tmp) (v : Value) : (a.put dst v).defers = a.defers := by
  cases dst <;> simp [Act.put]

def setT (t : List V) (dst : Option Nat) (v : V) : List V :=
  match dst with
  | some d => t.set d v
  | none => t

theorem All2.put {R : V → Value → Prop} {t : List V} {a : Act} (h : All2 R t a.tmps.toList) (dst : Option Nat) {v : V} {c : Value} (hv : R v c) : All2 R (setT t dst v) (a.put dst c).tmps.toList := by
  rw [put_toList]
  cases dst with
  | none => exact h
  | some d => exact h.set d hv

def setAt {α : Type} (l : List α) (i : Nat) (x : α) : List α := l.set i x

/-- Lay a group. -/
def St.lay (S : St) (grp : Nat) (new : List Ent) : St := { S with h := S.h.set grp (some new) }
/-- Put another entry in an entry's place. -/
def St.setE (S : St) (g j : Nat) (e : Ent) : St :=
  match S.h[g]? with
  | some (some l) => { S with h := S.h.set g (some (l.set j e)) }
  | _ => S
def St.upds (S : St) : List ((Nat × Nat) × Ent) → St
  | [] => S
  | ((g, j), e) :: us => (S.setE g j e).upds us

theorem lay_ent_ne {S : St} {grp : Nat} {new : List Ent} {g j : Nat} (h : g ≠ grp) : (S.lay grp new).ent g j = S.ent g j := by
  simp [St.lay, St.ent, List.getElem?_set_ne (Ne.symm h)]
theorem lay_ent_eq {S : St} {grp : Nat} {new : List Ent} {j : Nat} (h : grp < S.h.length) : (S.lay grp new).ent grp j = new[j]? := by
  simp [St.lay, St.ent, h]
theorem lay_D {S : St} {grp : Nat} {new : List Ent} {g : Nat} (h : S.D g) : (S.lay grp new).D g := by
  obtain ⟨l, hl⟩ := h
  by_cases e : g = grp
  · subst e
    exact ⟨new, by simp [St.lay, (List.getElem?_eq_some_iff.1 hl).1]⟩
  · exact ⟨l, by simp [St.lay, List.getElem?_set_ne (Ne.symm e), hl]⟩
theorem lay_D_self {S : St} {grp : Nat} {new : List Ent} (h : grp < S.h.length) : (S.lay grp new).D grp := ⟨new, by simp [St.lay, h]⟩

theorem setE_eq {S : St} {g j : Nat} {e : Ent} {l : List Ent} (hl : S.h[g]? = some (some l)) : S.setE g j e = { S with h := S.h.set g (some (l.set j e)) } := by
  unfold St.setE
  rw [hl]
theorem ent_eq {S : St} {g j : Nat} {l : List Ent} (hl : S.h[g]? = some (some l)) : S.ent g j = l[j]? := by
  unfold St.ent
  rw [hl]
theorem setE_ent {S : St} {g j : Nat} {e e0 : Ent} (h : S.ent g j = some e0) (g' j' : Nat) : (S.setE g j e).ent g' j' = if g' = g ∧ j' = j then some e else S.ent g' j' := by
  obtain ⟨l, hl⟩ := St.D_of_ent h
  rw [ent_eq hl] at h
  have hlt := (List.getElem?_eq_some_iff.1 hl).1
  have hj := (List.getElem?_eq_some_iff.1 h).1
  rw [setE_eq hl]
  by_cases hg : g' = g
  · subst hg
    rw [ent_eq (S := { S with h := S.h.set g' (some (l.set j e)) }) (l := l.set j e) (by simp [hlt]), ent_eq hl]
    by_cases hjj : j' = j
    · subst hjj
      simp [hj]
    · simp [hjj, List.getElem?_set_ne (Ne.symm hjj)]
  · simp [St.ent, hg, List.getElem?_set_ne (Ne.symm hg)]
theorem setE_D {S : St} {g j : Nat} {e : Ent} {g' : Nat} : (S.setE g j e).D g' ↔ S.D g' := by
  unfold St.setE
  split
  · rename_i l hl
    by_cases hg : g' = g
    · subst hg
      constructor
      · intro _; exact ⟨l, hl⟩
      · intro _; exact ⟨l.set j e, by simp [(List.getElem?_eq_some_iff.1 hl).1]⟩
    · simp [St.D, List.getElem?_set_ne (Ne.symm hg)]
  · rfl
theorem setE_t {S : St} {g j : Nat} {e : Ent} : (S.setE g j e).t = S.t := by
  unfold St.setE
  split <;> rfl
theorem setE_len {S : St} {g j : Nat} {e : Ent} : (S.setE g j e).h.length = S.h.length := by
  unfold St.setE
  split <;> simp

section
variable {Γ : Ctx} {F : Nat → Prop} {ι : Nat → Nat → Value} {S : St} {a : Act} {w : World}

/-- A slot is written; nothing else. -/
theorem Rel.put (h : Rel Γ F ι S a w) (dst : Option Nat) {v : V} {c : Value} (hv : RV w F S.D ι v c) : Rel Γ F ι { S with t := setT S.t dst v } (a.put dst c) w where
  F0 := h.F0
  F1 := h.F1
  F2 := h.F2
  kept := h.kept
  tmps := All2.put h.tmps dst hv
  ents := h.ents
  sep := h.sep
  inj := h.inj
  defers := by rw [put_defers]; exact h.defers
  pins := h.pins

theorem RE.lt {F D : Nat → Prop} {e : Ent} {c : Value} (hr : RE w F D ι e c) (hl : e.live = true) {k : Nat} (hk' : EB w e c k) : k < w.heap.size := by
  cases e with
  | dead => cases hl
  | frz sz n rows => cases hl
  | var e cs =>
    obtain ⟨g', cur, hc, hg, _⟩ := hr
    have hk' : blk c = some k := hk'
    rw [hc] at hk'; simp [blk] at hk'; subst hk'
    exact (Array.getElem?_eq_some_iff.1 hg).1
  | arr e sz n rows =>
    obtain ⟨g', cur, hc, hg, _⟩ := hr
    have hk' : blk c = some k := hk'
    rw [hc] at hk'; simp [blk] at hk'; subst hk'
    exact (Array.getElem?_eq_some_iff.1 hg).1
  | row e sz n rows =>
    obtain ⟨flat, ho, _⟩ := hr
    exact ownsRow_lt ho hk'
  | deep o e sz n rows =>
    obtain ⟨flat, fs, ho, hkl, _⟩ := hr
    rcases List.mem_append.1 ((EB.deep_iff ho hkl).1 hk') with q | q
    · exact ownsRow_lt ho (mem_fpb.1 q)
    · exact hkl.lt k q
  | map t m es =>
    obtain ⟨g', arr, clock, hc, hg, _⟩ := hr
    have hk' : blk c = some k := hk'
    rw [hc] at hk'; simp [blk] at hk'; subst hk'
    exact (Array.getElem?_eq_some_iff.1 hg).1
/-- The block of what is the call's own lies in memory. -/
theorem Rel.lt (h : Rel Γ F ι S a w) {g j : Nat} {e : Ent} {k : Nat} (he : S.ent g j = some e) (hl : e.live = true) (hk' : EB w e (ι g j) k) : k < w.heap.size := (h.ents g j e he).lt hl hk'

/-- The world goes on, and nothing that is told changes. -/
theorem Rel.world (h : Rel Γ F ι S a w) {w' : World} (hk : w'.os = w.os ∧ w'.tape = w.tape ∧ w'.output = w.output) (hsz : w.heap.size ≤ w'.heap.size) (hb : ∀ k, k < w.heap.size → w'.heap[k]? = w.heap[k]?) : Rel Γ F ι S a w' := by
  have hs : Same w w' F := same_of_heap fun g hg => hb g (h.F1 g hg)
  have hbk : ∀ g j e, S.ent g j = some e → e.live = true → ∀ k, EB w e (ι g j) k → w'.heap[k]? = w.heap[k]? := fun g j e he hl k hk' => hb k (h.lt he hl hk')
  exact
    { F0 := h.F0
      F1 := fun g hg => Nat.lt_of_lt_of_le (h.F1 g hg) hsz
      F2 := h.F2
      kept := ⟨hk.1.trans h.kept.os, hk.2.1.trans h.kept.tape, hk.2.2.trans h.kept.output, Nat.le_trans h.kept.size hsz, fun k hk' hn => (hb k (Nat.lt_of_lt_of_le hk' h.kept.size)).trans (h.kept.block k hk' hn)⟩
      tmps := h.tmps.imp fun _ _ x => x.mono hs (fun _ y => y) (fun _ y => y) (fun _ _ _ => rfl)
      ents := fun g j e he => (h.ents g j e he).mono hs (fun _ y => y) (fun _ y => y) (fun _ _ _ => rfl) (fun k hl hk' => hbk g j e he hl k hk')
      sep := fun g j e k he hl hk' => h.sep g j e k he hl ((h.ents g j e he).back (hbk g j e he hl) hk')
      inj := fun g j e g' j' e' k he he' hl hl' hk1 hk2 => h.inj g j e g' j' e' k he he' hl hl' ((h.ents g j e he).back (hbk g j e he hl) hk1) ((h.ents g' j' e' he').back (hbk g' j' e' he' hl') hk2)
      defers := h.defers
      pins := h.pins }

/-- A group is laid: its entries lie in blocks that nobody else tells of. -/
theorem Rel.lay (h : Rel Γ F ι S a w) {grp : Nat} (hg : grp < S.h.length) (hn : ¬ S.D grp) {new : List Ent} {ι' : Nat → Nat → Value} (hι : ∀ g j, g ≠ grp → ι' g j = ι g j)
    (hnew : ∀ j e, new[j]? = some e → RE w F (S.lay grp new).D ι' e (ι' grp j))
    (hsep : ∀ j e k, new[j]? = some e → e.live = true → EB w e (ι' grp j) k → ¬ F k ∧ (Γ.own k ∨ Γ.w0.heap.size ≤ k))
    (hin : ∀ j e j' e' k, new[j]? = some e → new[j']? = some e' → e.live = true → e'.live = true → EB w e (ι' grp j) k → EB w e' (ι' grp j') k → j = j')
    (hout : ∀ j e g' j' e' k, new[j]? = some e → S.ent g' j' = some e' → e.live = true → e'.live = true → EB w e (ι' grp j) k → ¬ EB w e' (ι g' j') k) :
    Rel Γ F ι' (S.lay grp new) a w := by
  have hne : ∀ g, S.D g → g ≠ grp := fun g hg' e => hn (e ▸ hg')
  have hD : ∀ g, S.D g → (S.lay grp new).D g := fun g x => lay_D x
  have hi : ∀ g j, S.D g → ι' g j = ι g j := fun g j x => hι g j (hne g x)
  have hs : Same w w F := fun _ _ _ => rfl
  have old : ∀ g j e, (S.lay grp new).ent g j = some e → (g = grp ∧ new[j]? = some e) ∨ (g ≠ grp ∧ S.ent g j = some e) := by
    intro g j e he
    by_cases q : g = grp
    · subst q
      rw [lay_ent_eq hg] at he
      exact .inl ⟨rfl, he⟩
    · rw [lay_ent_ne q] at he
      exact .inr ⟨q, he⟩
  exact
    { F0 := h.F0, F1 := h.F1, F2 := h.F2, kept := h.kept
      tmps := h.tmps.imp fun _ _ x => x.mono hs (fun _ y => y) hD hi
      ents := fun g j e he => by
        rcases old g j e he with ⟨rfl, hx⟩ | ⟨q, hx⟩
        · exact hnew j e hx
        · rw [hι g j q]
          exact (h.ents g j e hx).mono hs (fun _ y => y) hD hi (fun _ _ _ => rfl)
      sep := fun g j e k he hl hk => by
        rcases old g j e he with ⟨rfl, hx⟩ | ⟨q, hx⟩
        · exact hsep j e k hx hl hk
        · rw [hι g j q] at hk
          exact h.sep g j e k hx hl hk
      inj := fun g j e g' j' e' k he he' hl hl' hk hk' => by
        rcases old g j e he with ⟨q1, hx⟩ | ⟨q, hx⟩
        · rcases old g' j' e' he' with ⟨q2, hy⟩ | ⟨q', hy⟩
          · subst q1
            subst q2
            exact ⟨rfl, hin j e j' e' k hx hy hl hl' hk hk'⟩
          · rw [hι g' j' q'] at hk'
            subst q1
            exact absurd hk' (hout j e g' j' e' k hx hy hl hl' hk)
        · rw [hι g j q] at hk
          rcases old g' j' e' he' with ⟨q2, hy⟩ | ⟨q', hy⟩
          · subst q2
            exact absurd hk (hout j' e' g j e k hy hx hl' hl hk')
          · rw [hι g' j' q'] at hk'
            exact h.inj g j e g' j' e' k hx hy hl hl' hk hk'
      defers := h.defers
      pins := fun j c hc => ⟨hD _ (h.pins j c hc).1, (hi 0 j (h.pins j c hc).1).trans (h.pins j c hc).2⟩ }

/-- An entry of the call's own is written in its block. -/
theorem Rel.write (h : Rel Γ F ι S a w) {g j : Nat} {e e' : Ent} (he : S.ent g j = some e) (hl : e.live = true) {w' : World}
    (hk : w'.os = w.os ∧ w'.tape = w.tape ∧ w'.output = w.output) (hsz : w'.heap.size = w.heap.size) (hb : ∀ k, ¬ EB w e (ι g j) k → w'.heap[k]? = w.heap[k]?)
    (hn : Same w w' F → RE w' F (S.setE g j e').D ι e' (ι g j)) (hin : ∀ k, EB w' e' (ι g j) k → EB w e (ι g j) k) : Rel Γ F ι (S.setE g j e') a w' := by
  have hs : Same w w' F := same_of_heap fun k hF => hb k fun q => (h.sep g j e k he hl q).1 hF
  have hD : ∀ k, S.D k → (S.setE g j e').D k := fun k x => setE_D.2 x
  have hoth : ∀ g' j' e'', S.ent g' j' = some e'' → e''.live = true → ¬ (g' = g ∧ j' = j) → ∀ k, EB w e'' (ι g' j') k → w'.heap[k]? = w.heap[k]? := fun g' j' e'' he'' hl'' q k hk'' => hb k fun q' => q (h.inj g' j' e'' g j e k he'' he hl'' hl hk'' q')
  exact
    { F0 := h.F0
      F1 := fun k hF => hsz ▸ h.F1 k hF
      F2 := h.F2
      kept := ⟨hk.1.trans h.kept.os, hk.2.1.trans h.kept.tape, hk.2.2.trans h.kept.output, hsz ▸ h.kept.size, fun k hk' hno => by
        rw [hb k fun q => ?_]
        · exact h.kept.block k hk' hno
        · rcases (h.sep g j e k he hl q).2 with x | x
          · exact hno x
          · omega⟩
      tmps := by rw [setE_t]; exact h.tmps.imp fun _ _ x => x.mono hs (fun _ y => y) hD (fun _ _ _ => rfl)
      ents := fun g' j' e'' he'' => by
        rw [setE_ent he] at he''
        split at he''
        · rename_i q
          obtain ⟨rfl, rfl⟩ := q
          injection he'' with he''
          subst he''
          exact hn hs
        · rename_i q
          exact (h.ents g' j' e'' he'').mono hs (fun _ y => y) hD (fun _ _ _ => rfl) fun k hl'' hk'' => hoth g' j' e'' he'' hl'' q k hk''
      sep := fun g' j' e'' k he'' hl'' hk'' => by
        rw [setE_ent he] at he''
        split at he''
        · rename_i q
          obtain ⟨rfl, rfl⟩ := q
          injection he'' with he''
          subst he''
          exact h.sep g' j' e k he hl (hin k hk'')
        · rename_i q
          exact h.sep g' j' e'' k he'' hl'' ((h.ents g' j' e'' he'').back (hoth g' j' e'' he'' hl'' q) hk'')
      inj := fun g1 j1 e1 g2 j2 e2 k h1 h2 l1 l2 k1 k2 => by
        rw [setE_ent he] at h1 h2
        split at h1 <;> split at h2
        · rename_i q1 q2
          exact ⟨q1.1.trans q2.1.symm, q1.2.trans q2.2.symm⟩
        · rename_i q1 q2
          obtain ⟨rfl, rfl⟩ := q1
          injection h1 with h1
          subst h1
          exact h.inj g1 j1 e g2 j2 e2 k he h2 hl l2 (hin k k1) ((h.ents g2 j2 e2 h2).back (hoth g2 j2 e2 h2 l2 q2) k2)
        · rename_i q1 q2
          obtain ⟨rfl, rfl⟩ := q2
          injection h2 with h2
          subst h2
          exact h.inj g1 j1 e1 g2 j2 e k h1 he l1 hl ((h.ents g1 j1 e1 h1).back (hoth g1 j1 e1 h1 l1 q1) k1) (hin k k2)
        · rename_i q1 q2
          exact h.inj g1 j1 e1 g2 j2 e2 k h1 h2 l1 l2 ((h.ents g1 j1 e1 h1).back (hoth g1 j1 e1 h1 l1 q1) k1) ((h.ents g2 j2 e2 h2).back (hoth g2 j2 e2 h2 l2 q2) k2)
      defers := h.defers
      pins := fun j c hc => ⟨hD _ (h.pins j c hc).1, (h.pins j c hc).2⟩ }

/-- An entry is given up. -/
theorem Rel.kill (h : Rel Γ F ι S a w) {g j : Nat} {e : Ent} (he : S.ent g j = some e) : Rel Γ F ι (S.setE g j .dead) a w := by
  have hD : ∀ k, S.D k → (S.setE g j .dead).D k := fun k x => setE_D.2 x
  have hs : Same w w F := fun _ _ _ => rfl
  have old : ∀ g' j' e', (S.setE g j .dead).ent g' j' = some e' → e' = .dead ∨ S.ent g' j' = some e' := by
    intro g' j' e' h'
    rw [setE_ent he] at h'
    split at h'
    · injection h' with h'
      exact .inl h'.symm
    · exact .inr h'
  exact
    { F0 := h.F0, F1 := h.F1, F2 := h.F2, kept := h.kept
      tmps := by rw [setE_t]; exact h.tmps.imp fun _ _ x => x.mono hs (fun _ y => y) hD (fun _ _ _ => rfl)
      ents := fun g' j' e' h' => by
        rcases old g' j' e' h' with rfl | h'
        · trivial
        · exact (h.ents g' j' e' h').mono hs (fun _ y => y) hD (fun _ _ _ => rfl) (fun _ _ _ => rfl)
      sep := fun g' j' e' k h' hl hk => by
        rcases old g' j' e' h' with rfl | h'
        · cases hl
        · exact h.sep g' j' e' k h' hl hk
      inj := fun g1 j1 e1 g2 j2 e2 k h1 h2 l1 l2 k1 k2 => by
        rcases old g1 j1 e1 h1 with rfl | h1
        · cases l1
        · rcases old g2 j2 e2 h2 with rfl | h2
          · cases l2
          · exact h.inj g1 j1 e1 g2 j2 e2 k h1 h2 l1 l2 k1 k2
      defers := h.defers
      pins := fun j c hc => ⟨hD _ (h.pins j c hc).1, (h.pins j c hc).2⟩ }

/-- A row of the call's own is never written again. -/
theorem Rel.freeze (h : Rel Γ F ι S a w) {g j e sz n : Nat} {rows : List (List V)} (he : S.ent g j = some (.row e sz n rows)) :
    ∃ F', (∀ k, F k → F' k) ∧ (∀ k, F' k → F k ∨ blk (ι g j) = some k) ∧ Rel Γ F' ι (S.setE g j (.frz sz n rows)) a w := by
  have hD : ∀ k, S.D k → (S.setE g j (.frz sz n rows)).D k := fun k x => setE_D.2 x
  have hF : ∀ k, F k → F k ∨ blk (ι g j) = some k := fun _ x => .inl x
  have hs : Same w w F := fun _ _ _ => rfl
  refine ⟨fun k => F k ∨ blk (ι g j) = some k, hF, fun _ x => x, ?_⟩
  have old : ∀ g' j' e', (S.setE g j (.frz sz n rows)).ent g' j' = some e' → (g' = g ∧ j' = j ∧ e' = .frz sz n rows) ∨ (¬ (g' = g ∧ j' = j) ∧ S.ent g' j' = some e') := by
    intro g' j' e' h'
    rw [setE_ent he] at h'
    split at h'
    · rename_i q
      injection h' with h'
      exact .inl ⟨q.1, q.2, h'.symm⟩
    · rename_i q
      exact .inr ⟨q, h'⟩
  exact
    { F0 := fun k x => .inl (h.F0 k x)
      F1 := fun k x => x.elim (h.F1 k) fun y => h.lt he rfl y
      F2 := fun k x => x.elim (h.F2 k) fun y => .inr (h.sep g j _ k he rfl y).2
      kept := h.kept
      tmps := by rw [setE_t]; exact h.tmps.imp fun _ _ x => x.mono hs hF hD (fun _ _ _ => rfl)
      ents := fun g' j' e' h' => by
        rcases old g' j' e' h' with ⟨rfl, rfl, rfl⟩ | ⟨_, h'⟩
        · obtain ⟨flat, ho, hf, hn, hl⟩ := h.ents _ _ _ he
          rcases ho.2 with ⟨hv, h0⟩ | ⟨g0, cap, cur, hv, _, hg, hnc, hcm, hcs, ht⟩
          · rw [hv]
            subst h0
            have : rows = [] := List.eq_nil_of_length_eq_zero hn
            subst this
            exact .sl0 sz none 0
          · rw [hv]
            refine .sl sz n rows g0 0 cap flat (.inr rfl) (hf.mono hs fun k x => .inl x) hn hl hnc ?_
            intro j u hu
            rw [cell_of_row w g0 (0 + j) cur e (0, 0) hg, Nat.zero_add]
            rw [← ht, List.getElem?_take] at hu
            split at hu
            · simpa using hu
            · cases hu
        · exact (h.ents g' j' e' h').mono hs hF hD (fun _ _ _ => rfl) (fun _ _ _ => rfl)
      sep := fun g' j' e' k h' hl hk => by
        rcases old g' j' e' h' with ⟨rfl, rfl, rfl⟩ | ⟨q, h'⟩
        · cases hl
        · obtain ⟨x, y⟩ := h.sep g' j' e' k h' hl hk
          exact ⟨fun z => z.elim x fun z => q (h.inj g' j' e' g j _ k h' he hl rfl hk z), y⟩
      inj := fun g1 j1 e1 g2 j2 e2 k h1 h2 l1 l2 k1 k2 => by
        rcases old g1 j1 e1 h1 with ⟨rfl, rfl, rfl⟩ | ⟨_, h1⟩
        · cases l1
        · rcases old g2 j2 e2 h2 with ⟨rfl, rfl, rfl⟩ | ⟨_, h2⟩
          · cases l2
          · exact h.inj g1 j1 e1 g2 j2 e2 k h1 h2 l1 l2 k1 k2
      defers := h.defers
      pins := fun j c hc => ⟨hD _ (h.pins j c hc).1, (h.pins j c hc).2⟩ }
end

end Go.Proofs.Ythegkbaijmkhfaa
