/- A region comes to one state, whatever its order. -/
import Derived.Test.YthegkbaijmkhfaaAm24
set_option linter.unusedVariables false
set_option linter.unusedSimpArgs false
namespace Go.Proofs.Ythegkbaijmkhfaa
open Go

section
variable {cx : Cx} {ops : Array Oper} {base : Nat} {A : Nat → Tell}

theorem stepM_form {i : Nat} {S S' : St} {ps : List Prop} {ft : Foot} (h : stepM cx ops base A i S = some (S', ps, ft)) : ∃ o out, ops[i]? = some o ∧ S' = S.apply (base + i) o.dst out ∧ ft.wr = out.upd.map (·.1) ∧
    ∀ T : St, (∀ x ∈ o.op.operands.toList, evalV T.t x = evalV S.t x) → wantV ops o T.t = wantV ops o S.t → (∀ id ∈ ft.rd, T.ent id.1 id.2 = S.ent id.1 id.2) → stepM cx ops base A i T = some (T.apply (base + i) o.dst out, ps, ft) := by
  unfold stepM at h
  split at h <;> try (cases h; done)
  rename_i o ho
  split at h <;> try (cases h; done)
  · rename_i hw
    split at h <;> try (cases h; done)
    rename_i out lg hop
    injection h with h
    injection h with h1 h2
    injection h2 with h2 h3
    subst h1; subst h2; subst h3
    refine ⟨o, out, ho, rfl, rfl, ?_⟩
    intro T hx hwT hent
    have hst : stepOp cx (base + i) o T.t (A i) = stepOp cx (base + i) o S.t (A i) := by
      unfold stepOp
      rw [opM_congr hx]
    have := stepOp_local cx (base + i) o S.t (A i) S.ent T.ent out lg hop hent
    unfold stepM
    rw [ho]
    simp only [hwT, hw, hst, this]
  · rename_i hw
    injection h with h
    injection h with h1 h2
    injection h2 with h2 h3
    subst h1; subst h2; subst h3
    refine ⟨o, { v := .tup [] }, ho, rfl, rfl, ?_⟩
    intro T hx hwT hent
    unfold stepM
    rw [ho]
    simp only [hwT, hw]
    rfl

/-- Neither touches what the other one touches. -/
structure Ind (ops : Array Oper) (base : Nat) (x i : Nat) (f1 f2 : Foot) : Prop where
  ne : x ≠ i
  apart : ∀ o1 o2, ops[x]? = some o1 → ops[i]? = some o2 → o1.apart ops o2 = true
  w1 : ∀ id ∈ f1.wr, id ∉ f2.rd ∧ id ∉ f2.wr
  w2 : ∀ id ∈ f2.wr, id ∉ f1.rd
  g1 : ∀ id ∈ f2.rd ++ f2.wr, id.1 ≠ base + x
  g2 : ∀ id ∈ f1.rd ++ f1.wr, id.1 ≠ base + i

theorem looks_ne {o : Oper} {x : Operand} (hx : x ∈ o.op.operands.toList) {d : Nat} (hd : d ∉ o.looksAt ops) : x ≠ .tmp d := by
  intro q
  subst q
  apply hd
  unfold Oper.looksAt
  exact List.mem_append.2 (.inl (List.mem_filterMap.2 ⟨_, hx, rfl⟩))

theorem wantV_set {o : Oper} {t : List V} {dst : Option Nat} {v : V} (hd : ∀ d, dst = some d → d ∉ o.looksAt ops) : wantV ops o (setT t dst v) = wantV ops o t := by
  unfold wantV
  split
  · rfl
  · rename_i j want hg
    cases hj : (ops[j]?).bind (·.dst) with
    | none => rfl
    | some d =>
      simp only
      cases dst with
      | none => rfl
      | some k =>
        have hk : k ≠ d := by
          intro q
          subst q
          apply hd k rfl
          unfold Oper.looksAt
          rw [hg]
          exact List.mem_append.2 (.inr (by simp [hj]))
        simp only [setT, List.getElem?_set_ne hk]

theorem apply_t {S : St} {grp : Nat} {dst : Option Nat} {o : Out} : (S.apply grp dst o).t = setT S.t dst o.v := by rw [apply_hp]; rfl
theorem apply_ent {S : St} {grp : Nat} {dst : Option Nat} {o : Out} {g j : Nat} (h1 : g ≠ grp) (h2 : (g, j) ∉ o.upd.map (·.1)) : (S.apply grp dst o).ent g j = S.ent g j := by
  rw [apply_hp]
  show (hp S grp o).ent g j = _
  exact hp_ent h1 fun u hu q => h2 (List.mem_map.2 ⟨u, hu, q⟩)

theorem stepM_comm {x i : Nat} {S S1 S2 : St} {p1 p2 : List Prop} {f1 f2 : Foot} (hx : stepM cx ops base A x S = some (S1, p1, f1)) (hi : stepM cx ops base A i S1 = some (S2, p2, f2)) (h : Ind ops base x i f1 f2) :
    ∃ S1', stepM cx ops base A i S = some (S1', p2, f2) ∧ stepM cx ops base A x S1' = some (S2, p1, f1) := by
  obtain ⟨o1, out1, ho1, rfl, hw1, hr1⟩ := stepM_form hx
  obtain ⟨o2, out2, ho2, rfl, hw2, hr2⟩ := stepM_form hi
  obtain ⟨a1, a2, a3⟩ := Oper.apart_spec (h.apart o1 o2 ho1 ho2)
  have e1 := hr2 S (fun z hz => by rw [apply_t, evalV_setT fun d hd => looks_ne (ops := ops) hz (a1 d hd)]) (by rw [apply_t, wantV_set a1]) (fun id hid => by
    refine (apply_ent (h.g1 id (List.mem_append.2 (.inl hid))) ?_).symm
    rw [← hw1]
    exact fun q => (h.w1 id q).1 hid)
  refine ⟨_, e1, ?_⟩
  have e2 := hr1 (S.apply (base + i) o2.dst out2) (fun z hz => by rw [apply_t, evalV_setT fun d hd => looks_ne (ops := ops) hz (a3 d hd)]) (by rw [apply_t, wantV_set a3]) (fun id hid => by
    refine apply_ent (h.g2 id (List.mem_append.2 (.inl hid))) ?_
    rw [← hw2]
    exact fun q => h.w2 id q hid)
  rw [e2]
  congr 2
  simp only [apply_hp, hp_withT]
  have hh : hp (hp S (base + x) out1) (base + i) out2 = hp (hp S (base + i) out2) (base + x) out1 := by
    refine hp_comm (fun q => h.ne (by omega)) ?_ ?_ ?_
    · intro u hu v hv q
      have m1 : u.1 ∈ f1.wr := by rw [hw1]; exact List.mem_map.2 ⟨u, hu, rfl⟩
      have m2 : v.1 ∈ f2.wr := by rw [hw2]; exact List.mem_map.2 ⟨v, hv, rfl⟩
      exact (h.w1 _ m1).2 (q ▸ m2)
    · intro u hu
      exact h.g2 _ (List.mem_append.2 (.inr (by rw [hw1]; exact List.mem_map.2 ⟨u, hu, rfl⟩)))
    · intro u hu
      exact h.g1 _ (List.mem_append.2 (.inr (by rw [hw2]; exact List.mem_map.2 ⟨u, hu, rfl⟩)))
  rw [hh]
  unfold withT
  simp only
  rw [setT_comm (fun k hk q => a2 k hk q)]

abbrev Rc := Nat → List Prop × Foot

theorem runM_append {rc : Rc} : ∀ {l m : List Nat} {S S' : St}, runM cx ops base A (l ++ m) S = some (S', (l ++ m).map rc) → ∃ S1, runM cx ops base A l S = some (S1, l.map rc) ∧ runM cx ops base A m S1 = some (S', m.map rc)
  | [], m, S, S', h => ⟨S, rfl, h⟩
  | x :: l, m, S, S', h => by
    obtain ⟨S1, r, rs, h1, h2, h3⟩ := runM_cons h
    simp only [List.cons_append, List.map_cons] at h3
    injection h3 with h3 h4
    subst h3; subst h4
    obtain ⟨S2, h5, h6⟩ := runM_append h2
    refine ⟨S2, ?_, h6⟩
    simp only [runM, h1, h5, List.map_cons]

theorem runM_of {rc : Rc} : ∀ {l m : List Nat} {S S1 S' : St}, runM cx ops base A l S = some (S1, l.map rc) → runM cx ops base A m S1 = some (S', m.map rc) → runM cx ops base A (l ++ m) S = some (S', (l ++ m).map rc)
  | [], m, S, S1, S', h, h' => by
    unfold runM at h
    injection h with h
    injection h with h1 h2
    subst h1
    exact h'
  | x :: l, m, S, S1, S', h, h' => by
    obtain ⟨S2, r, rs, h1, h2, h3⟩ := runM_cons h
    simp only [List.map_cons] at h3
    injection h3 with h3 h4
    subst h3; subst h4
    have := runM_of h2 h'
    simp only [List.cons_append, runM, h1, this, List.map_cons]

theorem runM_front {rc : Rc} {i : Nat} : ∀ {l m : List Nat} {S S' : St}, (∀ x ∈ l, Ind ops base x i (rc x).2 (rc i).2) → runM cx ops base A (l ++ i :: m) S = some (S', (l ++ i :: m).map rc) → runM cx ops base A (i :: (l ++ m)) S = some (S', (i :: (l ++ m)).map rc)
  | [], m, S, S', _, h => h
  | x :: l, m, S, S', hind, h => by
    obtain ⟨S1, r, rs, h1, h2, h3⟩ := runM_cons h
    simp only [List.cons_append, List.map_cons] at h3
    injection h3 with h3 h4
    subst h3; subst h4
    have h5 := runM_front (fun y hy => hind y (by simp [hy])) h2
    obtain ⟨S2, r2, rs2, h6, h7, h8⟩ := runM_cons h5
    simp only [List.map_cons] at h8
    injection h8 with h8 h9
    subst h8; subst h9
    obtain ⟨S1', e1, e2⟩ := stepM_comm (p1 := (rc x).1) (f1 := (rc x).2) (p2 := (rc i).1) (f2 := (rc i).2) h1 h6 (hind x (by simp))
    have e2' : stepM cx ops base A x S1' = some (S2, rc x) := e2
    have e1' : stepM cx ops base A i S = some (S1', rc i) := e1
    simp only [List.cons_append, runM, e1', e2', h7, List.map_cons]
end

/-! ### The orders -/
def edgesOf (ops : Array Oper) (i : Nat) : List Nat :=
  match ops[i]? with
  | some o => (o.after.toList.filter (Region.binds .any)).map (·.on)
  | none => []
/-- What comes ahead of each operation, in whatever order. -/
def clos (ops : Array Oper) : Nat → List (List Nat)
  | 0 => []
  | k + 1 => let L := clos ops k; L ++ [(edgesOf ops k).flatMap fun e => e :: L.getD e []]
def closOf (ops : Array Oper) (i : Nat) : List Nat := (clos ops (i + 1)).getD i []

theorem clos_len (ops : Array Oper) : ∀ k, (clos ops k).length = k
  | 0 => rfl
  | k + 1 => by simp [clos, clos_len ops k]
theorem clos_get (ops : Array Oper) (i : Nat) : ∀ k, i < k → (clos ops k).getD i [] = closOf ops i
  | k + 1, h => by
    by_cases q : i = k
    · subst q; rfl
    · have : i < k := by omega
      rw [← clos_get ops i k this]
      simp only [clos, List.getD_eq_getElem?_getD]
      rw [List.getElem?_append_left (by rw [clos_len]; exact this)]
theorem closOf_eq (ops : Array Oper) (i : Nat) : closOf ops i = (edgesOf ops i).flatMap fun e => e :: (clos ops i).getD e [] := by
  unfold closOf
  simp only [clos, List.getD_eq_getElem?_getD]
  rw [List.getElem?_append_right (by rw [clos_len]; omega), clos_len]
  simp

theorem ready_mem {ops : Array Oper} {listed : Array Bool} {i : Nat} (h : i ∈ Region.ready .any ops listed) : i < ops.size ∧ listed.getD i true = false ∧ ∀ e ∈ edgesOf ops i, listed.getD e false = true := by
  unfold Region.ready at h
  obtain ⟨h1, h2⟩ := List.mem_filter.1 h
  have hlt := List.mem_range.1 h1
  simp only [Bool.and_eq_true, Bool.not_eq_true'] at h2
  refine ⟨hlt, h2.1, ?_⟩
  intro e he
  unfold edgesOf at he
  rw [Array.getElem?_eq_getElem hlt] at he h2
  simp only [List.mem_map, List.mem_filter] at he
  obtain ⟨ed, ⟨hm, hb⟩, rfl⟩ := he
  have := h2.2
  simp only [Option.map_some, Option.getD_some, Array.all_eq_true_iff_forall_mem] at this
  have := this ed (by simpa using hm)
  simpa [hb] using this

theorem mem_ready {ops : Array Oper} {listed : Array Bool} {i : Nat} (hlt : i < ops.size) (hl : listed.getD i true = false) (he : ∀ e ∈ edgesOf ops i, listed.getD e false = true) : i ∈ Region.ready .any ops listed := by
  unfold Region.ready
  refine List.mem_filter.2 ⟨List.mem_range.2 hlt, ?_⟩
  rw [Array.getElem?_eq_getElem hlt]
  simp only [hl, Bool.not_false, Option.map_some, Option.getD_some, Bool.true_and, Array.all_eq_true_iff_forall_mem]
  intro ed hm
  by_cases hb : Region.binds .any ed = true
  · have : ed.on ∈ edgesOf ops i := by
      unfold edgesOf
      rw [Array.getElem?_eq_getElem hlt]
      exact List.mem_map.2 ⟨ed, List.mem_filter.2 ⟨by simpa using hm, hb⟩, rfl⟩
    simp [he _ this]
  · simp [hb]

section
variable {cx : Cx} {Γ : Ctx} {ops : Array Oper} {base : Nat} {A : Nat → Tell} {Q : Exit → Act → World → Prop} {S' : St} {rc : Rc}

theorem wpAny_of_runM (hedge : ∀ i, i < ops.size → ∀ e ∈ edgesOf ops i, e < i) (hind : ∀ x i, x < i → i < ops.size → x ∉ closOf ops i → Ind ops base x i (rc x).2 (rc i).2) (hob : ∀ i, i < ops.size → ∀ p ∈ (rc i).1, p)
    (hQ : ∀ a' w' F' ι', Rel Γ F' ι' S' a' w' → Q .normal a' w') : ∀ (fuel : Nat) (R : List Nat) (listed : Array Bool) (S : St) (F : Nat → Prop) (ι : Nat → Nat → Value) (a : Act) (w : World),
    R.length = fuel → listed.size = ops.size → R.Pairwise (· < ·) → (∀ i, i < ops.size → (listed.getD i true = false ↔ i ∈ R)) → (∀ i ∈ R, i < ops.size) → (∀ i, i < ops.size → i ∉ R → ∀ x ∈ closOf ops i, x ∉ R) →
    Rel Γ F ι S a w → (∀ i ∈ R, base + i < S.h.length ∧ ¬ S.D (base + i)) → runM cx ops base A R S = some (S', R.map rc) → wpAny cx.P .any ops Q fuel listed a w := by
  intro fuel
  induction fuel with
  | zero =>
    intro R listed S F ι a w hR hsz hpw hlist hlt hdown hrel hfree hrun
    have : R = [] := List.eq_nil_of_length_eq_zero hR
    subst this
    unfold runM at hrun
    injection hrun with hrun
    injection hrun with h1 h2
    subst h1
    refine ⟨?_, hQ _ _ _ _ hrel⟩
    rw [List.eq_nil_iff_forall_not_mem]
    intro i hi
    obtain ⟨h1, h2, _⟩ := ready_mem hi
    have := (hlist i h1).1 h2
    simp at this
  | succ fuel ih =>
    intro R listed S F ι a w hR hsz hpw hlist hlt hdown hrel hfree hrun
    refine ⟨fun hnil => ?_, fun i hi => ?_⟩
    · exfalso
      cases R with
      | nil => simp at hR
      | cons r R =>
        have hr := hlt r (by simp)
        have hrd : r ∈ Region.ready .any ops listed := by
          refine mem_ready hr ((hlist r hr).2 (by simp)) ?_
          intro e he
          have hlt' := hedge r hr e he
          have hen : e ∉ r :: R := by
            intro q
            rcases List.mem_cons.1 q with q | q
            · omega
            · have := (List.pairwise_cons.1 hpw).1 e q
              omega
          have := mt (hlist e (by omega)).1 hen
          have hes : e < listed.size := by omega
          simp only [Array.getD_eq_getD_getElem?, Array.getElem?_eq_getElem hes, Option.getD_some] at this ⊢
          simpa using this
        rw [hnil] at hrd
        simp at hrd
    · obtain ⟨hi1, hi2, hi3⟩ := ready_mem hi
      have hiR := (hlist i hi1).1 hi2
      obtain ⟨A1, B1, hAB⟩ := List.append_of_mem hiR
      have hpw' := hpw
      rw [hAB] at hpw'
      obtain ⟨hpA, hpB, hpAB⟩ := List.pairwise_append.1 hpw'
      have hcl : ∀ x ∈ closOf ops i, x ∉ R := by
        intro x hx
        rw [closOf_eq] at hx
        obtain ⟨e, he, hx⟩ := List.mem_flatMap.1 hx
        have hel := hedge i hi1 e he
        have heR : e ∉ R := by
          intro q
          have h1 := (hlist e (by omega)).2 q
          have h2 := hi3 e he
          have hes : e < listed.size := by omega
          simp only [Array.getD_eq_getD_getElem?, Array.getElem?_eq_getElem hes, Option.getD_some] at h1 h2
          rw [h1] at h2
          cases h2
        rcases List.mem_cons.1 hx with rfl | hx
        · exact heR
        · rw [clos_get ops e i hel] at hx
          exact hdown e (by omega) heR x hx
      have hfront := runM_front (cx := cx) (A := A) (rc := rc) (i := i) (l := A1) (m := B1) (S := S) (S' := S') (fun x hx => by
        have hxR : x ∈ R := by rw [hAB]; simp [hx]
        exact hind x i (hpAB x hx i (by simp)) hi1 (fun q => hcl x q hxR)) (by rw [← hAB]; exact hrun)
      obtain ⟨S1, r, rs, h1, h2, h3⟩ := runM_cons hfront
      simp only [List.map_cons] at h3
      injection h3 with h3 h4
      subst h3; subst h4
      obtain ⟨hD, hl⟩ := stepM_D (ps := (rc i).1) (ft := (rc i).2) h1
      refine stepM_wp hrel (hfree i hiR).1 (hfree i hiR).2 (ps := (rc i).1) (ft := (rc i).2) h1 (hob i hi1) fun a' w' F' ι' hrel' => ?_
      have hsub : ∀ j, j ∈ A1 ++ B1 ↔ (j ∈ R ∧ j ≠ i) := by
        intro j
        rw [hAB]
        simp only [List.mem_append, List.mem_cons]
        constructor
        · intro hj
          refine ⟨by rcases hj with q | q <;> simp [q], ?_⟩
          rintro rfl
          rcases hj with q | q
          · have := hpAB j q j (by simp); omega
          · have := (List.pairwise_cons.1 hpB).1 j q; omega
        · rintro ⟨q | rfl | q, hne⟩
          · exact .inl q
          · exact absurd rfl hne
          · exact .inr q
      refine ih (A1 ++ B1) _ S1 F' ι' a' w' ?_ (by simp [hsz]) ?_ ?_ ?_ ?_ hrel' ?_ h2
      · rw [hAB] at hR
        simp at hR ⊢
        omega
      · refine List.pairwise_append.2 ⟨hpA, (List.pairwise_cons.1 hpB).2, fun x hx y hy => hpAB x hx y (by simp [hy])⟩
      · intro j hj
        rw [hsub]
        have hjs : j < listed.size := by omega
        simp only [Array.getD_eq_getD_getElem?]
        by_cases q : j = i
        · subst q
          simp [hjs]
        · rw [Array.getElem?_setIfInBounds_ne (Ne.symm q), ← hlist j hj, Array.getD_eq_getD_getElem?]
          simp [q]
      · intro j hj
        exact hlt j ((hsub j).1 hj).1
      · intro j hj hjn x hx hxm
        have hxR := ((hsub x).1 hxm).1
        by_cases q : j = i
        · subst q
          exact hcl x hx hxR
        · exact hdown j hj (fun z => hjn ((hsub j).2 ⟨z, q⟩)) x hx hxR
      · intro j hj
        have hjR := ((hsub j).1 hj)
        refine ⟨by rw [hl]; exact (hfree j hjR.1).1, fun x => ?_⟩
        rcases hD _ x with y | y
        · exact (hfree j hjR.1).2 y
        · exact hjR.2 (by omega)
end

end Go.Proofs.Ythegkbaijmkhfaa
