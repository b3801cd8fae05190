/- Maps of the call's own, whose keys are structs of whole numbers. -/
import Derived.Test.YthegkbaijmkhfaaAm20D
import Derived.WideKeyRuns
set_option linter.unusedVariables false
set_option linter.unusedSimpArgs false
namespace Go.Proofs.Ythegkbaijmkhfaa
open Go

def mget : List (List Int × V) → List Int → V → V
  | [], _, z => z
  | p :: es, k, z => if k == p.1 then p.2 else mget es k z
def mput : List (List Int × V) → List Int → V → List (List Int × V)
  | [], k, v => [(k, v)]
  | p :: es, k, v => if k == p.1 then (p.1, v) :: es else p :: mput es k v
def mfind : List (List Int × V) → List Int → Nat → Option (Nat × Value)
  | [], _, _ => none
  | p :: es, k, i => if k == p.1 then some (i, p.2.conc) else mfind es k (i + 1)

theorem setObj_map {P : Program} {w : World} {r : Nat} {es : Array MapEntry} {clock : Nat} (o : Obj) (hb : w.heap[r]? = some (.map es clock)) : (setObj r o).run P w = .ok () { w with heap := w.heap.setIfInBounds r o } := by
  simp [setObj, Sem.run, hb]
theorem heap_put {w : World} {r : Nat} {o o' : Obj} (hb : w.heap[r]? = some o) : (w.heap.setIfInBounds r o')[r]? = some o' ∧ ∀ r', r' ≠ r → (w.heap.setIfInBounds r o')[r']? = w.heap[r']? := by
  have hlt := (Array.getElem?_eq_some_iff.1 hb).1
  exact ⟨by simp [hlt], fun r' q => by rw [Array.getElem?_setIfInBounds_ne (Ne.symm q)]⟩
theorem mget_find (z : V) (k : List Int) : ∀ (es : List (List Int × V)) (i : Nat), (mget es k z).conc = match mfind es k i with
    | some (_, v) => v
    | none => z.conc
  | [], _ => rfl
  | p :: es, i => by
    unfold mget mfind
    split
    · rfl
    · exact mget_find z k es (i + 1)

theorem RV.simple {w : World} {F D : Nat → Prop} {ι : Nat → Nat → Value} {v : V} {c : Value} (h : RV w F D ι v c) (hv : v.simple = true) : c = v.conc := by
  cases h with
  | one v c h =>
    cases h with
    | cell v c h =>
      cases h with
      | fv v c h => cases h <;> first | rfl | (cases hv; done)
      | _ => cases hv
    | agg cs ds h => cases hv
  | tup cs ds h => cases hv
  | any c => cases hv

section
variable {P : Program} {kt m : Nat} {w : World}

theorem find_run (hE : ∀ (xs ys : List Int) (w : World), xs.length = m → ys.length = m → (Op.equal kt (kv xs) (kv ys)).run P w = .ok (xs == ys) w) {k : List Int} (hk : k.length = m) : ∀ (es : List (List Int × V)) (l : List MapEntry) (i : Nat), l.map (fun e => (e.key, e.val)) = es.map (fun p => (kv p.1, p.2.conc)) → (∀ p ∈ es, p.1.length = m) → (Instr.findAsking kt (kv k) l i).run P w = .ok (mfind es k i) w
  | [], [], i, _, _ => by simp [Instr.findAsking, mfind]
  | [], _ :: _, _, h, _ => by cases h
  | _ :: _, [], _, h, _ => by cases h
  | p :: es, e :: l, i, h, hl => by
    simp only [List.map_cons, List.cons.injEq, Prod.mk.injEq] at h
    obtain ⟨⟨h1, h2⟩, h3⟩ := h
    unfold Instr.findAsking
    rw [h1]
    simp only [Sem.run_bind, hE k p.1 w hk (hl p (by simp)), Result.andThen_ok]
    unfold mfind
    by_cases q : (k == p.1) = true
    · rw [if_pos q, if_pos q, h2]
      rfl
    · rw [if_neg q, if_neg q]
      exact find_run hE hk es l (i + 1) h3 fun p hp => hl p (by simp [hp])

theorem sameBits_ints : ∀ (n : Nat) (xs : List Int), Instr.sameBits (n + 2) (kv xs) (kv xs) = true := by
  intro n xs
  unfold kv Instr.sameBits
  simp only [List.size_toArray, beq_self_eq_true, Bool.true_and]
  induction xs with
  | nil => rfl
  | cons x xs ih =>
    simp only [List.map_cons, List.zip_cons_cons, List.all_cons, Bool.and_eq_true]
    exact ⟨by simp [Instr.sameBits], by simpa using ih⟩

theorem mfind_ge {k : List Int} {j : Nat} {v : Value} : ∀ {es : List (List Int × V)} {i : Nat}, mfind es k i = some (j, v) → i ≤ j
  | [], _, h => by cases h
  | p :: es, i, h => by
    unfold mfind at h
    split at h
    · injection h with h; injection h with h; omega
    · have := mfind_ge h; omega

/-- A key that is there: its place, and what is written there. -/
theorem mput_some {k : List Int} {x : V} {v : Value} : ∀ {es : List (List Int × V)} {l : List MapEntry} {i j : Nat}, l.map (fun e => (e.key, e.val)) = es.map (fun p => (kv p.1, p.2.conc)) → mfind es k i = some (j, v) →
    (∃ e, l[j - i]? = some e ∧ e.key = kv k) ∧ ((l.modify (j - i) fun e => { e with key := kv k, val := x.conc }).map (fun e => (e.key, e.val)) = (mput es k x).map (fun p => (kv p.1, p.2.conc)))
  | [], _, _, _, _, h => by cases h
  | _ :: _, [], _, _, h, _ => by cases h
  | p :: es, e :: l, i, j, h, hf => by
    simp only [List.map_cons, List.cons.injEq, Prod.mk.injEq] at h
    obtain ⟨⟨h1, h2⟩, h3⟩ := h
    unfold mfind at hf
    unfold mput
    split at hf
    · rename_i q
      injection hf with hf
      injection hf with hf1 hf2
      subst hf1
      have : k = p.1 := by simpa using q
      rw [Nat.sub_self, if_pos q]
      exact ⟨⟨e, rfl, by rw [h1, this]⟩, by simp [List.modify_cons, h3, this]⟩
    · rename_i q
      rw [if_neg q]
      have hge := mfind_ge hf
      obtain ⟨⟨e', h4, h5⟩, h6⟩ := mput_some (x := x) h3 hf
      obtain ⟨d, hd⟩ : ∃ d, j - i = d + 1 := ⟨j - i - 1, by omega⟩
      have hd' : j - (i + 1) = d := by omega
      rw [hd'] at h4 h6
      rw [hd]
      refine ⟨⟨e', by simpa using h4, h5⟩, ?_⟩
      rw [List.modify_succ_cons]
      simp only [List.map_cons, h1, h2, h6]
theorem mput_none {k : List Int} {x : V} : ∀ {es : List (List Int × V)} {i : Nat}, mfind es k i = none → mput es k x = es ++ [(k, x)]
  | [], _, _ => rfl
  | p :: es, i, h => by
    unfold mfind at h
    unfold mput
    split at h
    · cases h
    · rename_i q
      rw [if_neg q, mput_none h]
      rfl
theorem mput_all {k : List Int} {x : V} {p : List Int × V → Prop} : ∀ {es : List (List Int × V)}, (∀ q ∈ es, p q) → (∀ q ∈ es, p (q.1, x)) → p (k, x) → ∀ q ∈ mput es k x, p q
  | [], _, _, h3, q, hq => by
    simp only [mput, List.mem_singleton] at hq
    subst hq
    exact h3
  | e :: es, h1, h2, h3, q, hq => by
    unfold mput at hq
    split at hq
    · rcases List.mem_cons.1 hq with rfl | hq
      · exact h2 e (by simp)
      · exact h1 q (by simp [hq])
    · rcases List.mem_cons.1 hq with rfl | hq
      · exact h1 _ (by simp)
      · exact mput_all (fun q hq => h1 q (by simp [hq])) (fun q hq => h2 q (by simp [hq])) h3 q hq
end

theorem chk_step {P : Program} {w : World} {em : Bool} {n kt : Nat} {fs : Array Field} {xs : Array Value} (hu : P.underlying kt = some (.struct fs)) (h : ∀ f ∈ fs.toList, ∃ a, (part f.type xs f.offset).run P w = .ok a w ∧ (Instr.checkKey em n f.type a).run P w = .ok () w) : (Instr.checkKey em (n + 1) kt (.agg xs)).run P w = .ok () w := by
  rw [Instr.checkKey]
  simp only [Sem.run_bind, run_underlying hu, Result.andThen_ok]
  rw [← Array.forIn_toList]
  generalize fs.toList = l at h
  induction l with
  | nil => rfl
  | cons f l ih =>
    obtain ⟨a, h1, h2⟩ := h f (by simp)
    have ih' := ih fun f hf => h f (by simp [hf])
    simp only [List.forIn_cons, Sem.run_bind]
    by_cases q : f.name = "_"
    · simp [q]
      simpa using ih'
    · simp [q, Sem.run_bind, h1, h2]
      simpa using ih'
theorem chk_int {P : Program} {w : World} {em : Bool} {n t : Nat} {k j : IntKind} {x : Int} (hu : P.underlying t = some (.int k)) : (Instr.checkKey em (n + 1) t (.int j x)).run P w = .ok () w := by
  rw [Instr.checkKey]
  simp [Sem.run_bind, run_underlying hu]

section
variable {cx : Cx} {Γ : Ctx} {F : Nat → Prop} {ι : Nat → Nat → Value} {S S' : St} {a : Act} {w : World}

theorem RV.inv_mp {D : Nat → Prop} {g j : Nat} {c : Value} (h : RV w F D ι (.mp g j) c) : D g ∧ ∃ b, ι g j = .map (some b) ∧ c = .map (some b) := by
  cases h with
  | one v c h => cases h with
    | cell v c h => cases h with
      | fv v c h => cases h
      | mp g j b h1 h2 => exact ⟨h1, b, h2, rfl⟩

def mkMapM (cx : Cx) (grp ty : Nat) : Option Out :=
  match cx.M ty with
  | some (_, m, _) => some { v := .mp grp 0, new := some [.map ty m []] }
  | none => none
theorem mkMapM_run (h : Rel Γ F ι S a w) {grp : Nat} (hg : grp < S.h.length) (hn : ¬ S.D grp) {ob : Oper} {ty : Nat} (ho : ob.op = .makeMap ty none) {out : Out} (hp : mkMapM cx grp ty = some out) : Done cx.P Γ ι S grp ob out a w := by
  unfold mkMapM at hp
  split at hp <;> try (cases hp; done)
  injection hp with hp
  subst hp
  rename_i kt m z hM
  have hrun : (execOp a.eval ob).run cx.P w = .ok (.value (.map (some w.heap.size))) (w.alloc (.map #[] 0)) := by
    simp only [execOp, ho, Option.map_none]
    rfl
  have hrel := h.new1 hg hn (grownBy_alloc_cells w (.map #[] 0)) (ent := .map ty m []) (c0 := .map (some w.heap.size))
    (by intro k hk; simp [EB, blk] at hk; omega) ⟨w.heap.size, #[], 0, rfl, heap_new w _, rfl, fun p hp => by cases hp⟩
  refine ⟨_, _, _, F, newAt ι grp (.map (some w.heap.size)), hrun, .inl rfl, ?_⟩
  exact hrel.put ob.dst (.cell (.mp grp 0 w.heap.size (lay_D_self hg) newAt_eq))

def lookM (cx : Cx) (ty : Nat) (x ix : V) : RdM Out :=
  match cx.M ty with
  | none => RdM.no
  | some (kt, m, z) => match x, ix with
    | .mp g j, .agg ks => match intsOf ks with
      | some xs => RdM.bind (RdM.rd g j) fun e => match e with
        | .map t' m' es => if m' = m ∧ xs.length = m then RdM.pure { v := mget es xs z } else RdM.no
        | _ => RdM.no
      | none => RdM.no
    | _, _ => RdM.no

theorem mget_simple {xs : List Int} {z : V} (hz : z.simple = true) : ∀ {es : List (List Int × V)}, (∀ p ∈ es, p.2.simple = true) → (mget es xs z).simple = true
  | [], _ => hz
  | p :: es, h => by
    unfold mget
    split
    · exact h p (by simp)
    · exact mget_simple hz fun p hp => h p (by simp [hp])

theorem lookM_run (h : Rel Γ F ι S a w) {grp : Nat} {ob : Oper} {ty : Nat} {x ix : Operand} (ho : ob.op = .lookup ty x ix false) {out : Out} {lg : List (Nat × Nat)} (hp : lookM cx ty (evalV S.t x) (evalV S.t ix) S.ent = some (out, lg)) : Done cx.P Γ ι S grp ob out a w := by
  have hx := eval_rv h.tmps x
  have hi := eval_rv h.tmps ix
  unfold lookM at hp
  cases hM : cx.M ty with
  | none => rw [hM] at hp; cases hp
  | some q =>
  obtain ⟨kt, m, z⟩ := q
  rw [hM] at hp
  simp only at hp
  generalize evalV S.t x = xv at hp hx
  generalize evalV S.t ix = iv at hp hi
  cases xv <;> try (cases hp; done)
  cases iv <;> try (cases hp; done)
  rename_i g j ks
  simp only at hp
  cases hks : intsOf ks with
  | none => rw [hks] at hp; cases hp
  | some xs =>
  rw [hks] at hp
  obtain ⟨e, l1, l2, hrd, hp', hl12⟩ := RdM.bind_some hp
  clear hp
  have he := (RdM.rd_some hrd).1
  simp only at he hp'
  cases e <;> try (cases hp'; done)
  rename_i t' m' es
  simp only at hp'
  split at hp' <;> try (cases hp'; done)
  rename_i hcond
  obtain ⟨rfl, hlen⟩ := hcond
  have := RdM.pure_some hp'
  injection this with h2 h3
  subst h2
  obtain ⟨hD, b, hι, hc⟩ := hx.inv_mp
  obtain ⟨ds, hds, hall⟩ := hi.inv_agg
  have hints := intsOf_conc hall hks
  subst hints
  obtain ⟨b', arr, clock, hb, hheap, hes, hok⟩ := h.ents g j _ he
  rw [hι] at hb
  injection hb with hb
  injection hb with hb
  subst hb
  obtain ⟨vt, hu, hE, hwide, hz, hzs, hck⟩ := cx.hM ty kt m' z hM
  have hck' : ∀ em, (Instr.checkKey em 10000 kt (kv xs)).run cx.P w = .ok () w := fun em => hck em xs w hlen
  have hfind : (Instr.findKey kt (kv xs) arr.toList).run cx.P w = .ok (mfind es xs 0) w := by
    rw [run_findKey_eq w (by unfold wideKey at hwide; exact hwide)]
    exact find_run (fun xs ys w h1 h2 => cx.hE kt m' hE xs ys w h1 h2) hlen es arr.toList 0 hes fun p hp => (hok p hp).1
  have hrun : (execOp a.eval ob).run cx.P w = .ok (.value (mget es xs z).conc) w := by
    rw [mget_find z xs es 0]
    simp only [execOp, ho, hc, hds, Instr.lookup, Sem.run_bind, run_underlying hu, Result.andThen_ok, run_getObj_map w b arr clock hheap]
    rw [show (Value.agg (xs.map (Value.int .i64)).toArray) = kv xs from rfl]
    simp only [Sem.run_pure, Sem.run_bind, hck', Result.andThen_ok, hfind]
    cases mfind es xs 0 with
    | none => simp [hz, Sem.run_bind]
    | some q => simp
  have hs := mget_simple (xs := xs) hzs fun p hp => (hok p hp).2
  refine ⟨_, _, w, F, ι, hrun, .inl rfl, ?_⟩
  rw [apply_plain]
  exact h.put ob.dst (.fv (FV.conc hs))

def mputM (cx : Cx) (ty : Nat) (x ix y : V) : RdM Out :=
  match cx.M ty with
  | none => RdM.no
  | some (kt, m, z) => match x, ix with
    | .mp g j, .agg ks => match intsOf ks with
      | some xs => RdM.bind (RdM.rd g j) fun e => match e with
        | .map t' m' es => if m' = m ∧ xs.length = m ∧ y.simple = true then RdM.pure { v := .bot, upd := [((g, j), .map t' m (mput es xs y))] } else RdM.no
        | _ => RdM.no
      | none => RdM.no
    | _, _ => RdM.no

theorem mputM_run (h : Rel Γ F ι S a w) {grp : Nat} {ob : Oper} {ty : Nat} {x ix y : Operand} (ho : ob.op = .mapUpdate ty x ix y) (hd : ob.dst = none) {out : Out} {lg : List (Nat × Nat)} (hp : mputM cx ty (evalV S.t x) (evalV S.t ix) (evalV S.t y) S.ent = some (out, lg)) : Done cx.P Γ ι S grp ob out a w := by
  have hx := eval_rv h.tmps x
  have hi := eval_rv h.tmps ix
  have hy := eval_rv h.tmps y
  unfold mputM at hp
  cases hM : cx.M ty with
  | none => rw [hM] at hp; cases hp
  | some q =>
  obtain ⟨kt, m, z⟩ := q
  rw [hM] at hp
  simp only at hp
  generalize evalV S.t x = xv at hp hx
  generalize evalV S.t ix = iv at hp hi
  generalize evalV S.t y = yv at hp hy
  cases xv <;> try (cases hp; done)
  cases iv <;> try (cases hp; done)
  rename_i g j ks
  simp only at hp
  cases hks : intsOf ks with
  | none => rw [hks] at hp; cases hp
  | some xs =>
  rw [hks] at hp
  obtain ⟨e, l1, l2, hrd, hp', hl12⟩ := RdM.bind_some hp
  clear hp
  have he := (RdM.rd_some hrd).1
  simp only at he hp'
  cases e <;> try (cases hp'; done)
  rename_i t' m' es
  simp only at hp'
  split at hp' <;> try (cases hp'; done)
  rename_i hcond
  obtain ⟨rfl, hlen, hys⟩ := hcond
  have := RdM.pure_some hp'
  injection this with h2 h3
  subst h2
  obtain ⟨hD, b, hι, hc⟩ := hx.inv_mp
  obtain ⟨ds, hds, hall⟩ := hi.inv_agg
  have hints := intsOf_conc hall hks
  subst hints
  have hyc := hy.simple hys
  obtain ⟨b', arr, clock, hb, hheap, hes, hok⟩ := h.ents g j _ he
  rw [hι] at hb
  injection hb with hb
  injection hb with hb
  subst hb
  obtain ⟨vt, hu, hE, hwide, hz, hzs, hck⟩ := cx.hM ty kt m' z hM
  have hck' : ∀ em, (Instr.checkKey em 10000 kt (kv xs)).run cx.P w = .ok () w := fun em => hck em xs w hlen
  have hfind : (Instr.findKey kt (kv xs) arr.toList).run cx.P w = .ok (mfind es xs 0) w := by
    rw [run_findKey_eq w (by unfold wideKey at hwide; exact hwide)]
    exact find_run (fun xs ys w h1 h2 => cx.hE kt m' hE xs ys w h1 h2) hlen es arr.toList 0 hes fun p hp => (hok p hp).1
  have hlt : b < w.heap.size := (Array.getElem?_eq_some_iff.1 hheap).1
  obtain ⟨arr', clock', hrun, hes'⟩ : ∃ arr' clock', (execOp a.eval ob).run cx.P w = .ok .skip { w with heap := w.heap.setIfInBounds b (.map arr' clock') } ∧ arr'.toList.map (fun e => (e.key, e.val)) = (mput es xs yv).map (fun p => (kv p.1, p.2.conc)) := by
    have e0 : (Value.agg (xs.map (Value.int .i64)).toArray) = kv xs := rfl
    cases hf : mfind es xs 0 with
    | none =>
      refine ⟨arr.push { key := kv xs, val := yv.conc, born := clock }, clock + 1, ?_, ?_⟩
      · simp only [execOp, ho, hc, hds, hyc, Instr.mapUpdate, Sem.run_bind, run_underlying hu, Result.andThen_ok, run_getObj_map w b arr clock hheap]
        rw [e0]
        simp only [Sem.run_pure, Sem.run_bind, hck', Result.andThen_ok, hfind, hf, setObj_map _ hheap]
      · rw [mput_none hf]
        simp [hes]
    | some q =>
      obtain ⟨i, v⟩ := q
      obtain ⟨⟨e, he1, he2⟩, he3⟩ := mput_some (x := yv) hes hf
      rw [Nat.sub_zero] at he1 he3
      have hkey : ((arr[i]?).map (·.key)).getD (kv xs) = kv xs := by
        have : arr[i]? = some e := by simpa using he1
        rw [this]
        exact he2
      refine ⟨arr.modify i fun e => { e with key := kv xs, val := yv.conc }, clock, ?_, ?_⟩
      · simp only [execOp, ho, hc, hds, hyc, Instr.mapUpdate, Sem.run_bind, run_underlying hu, Result.andThen_ok, run_getObj_map w b arr clock hheap]
        rw [e0]
        simp only [Sem.run_pure, Sem.run_bind, hck', Result.andThen_ok, hfind, hf, hkey, Instr.keyThatStays, sameBits_ints 9998, if_true, setObj_map _ hheap]
      · rw [Array.toList_modify]
        exact he3
  refine ⟨_, undef, _, F, ι, hrun, .inr ⟨rfl, rfl⟩, ?_⟩
  rw [hd, put_none, apply_upd]
  have hsz : (w.heap.setIfInBounds b (.map arr' clock')).size = w.heap.size := by simp
  refine h.write he rfl ⟨rfl, rfl, rfl⟩ hsz (fun k hk => ?_) (fun _ => ?_) (fun k hk => hk)
  · refine (heap_put hheap).2 k fun q => hk ?_
    rw [q, hι]
    rfl
  · exact ⟨b, arr', clock', hι, (heap_put hheap).1, hes', mput_all hok (fun q hq => ⟨(hok q hq).1, hys⟩) ⟨hlen, hys⟩⟩
end

/-! ### What a map of true tells -/
theorem mget_set {α : Type} (key : α → List Int) (k : List Int) : ∀ l : List α, mget (l.map fun x => (key x, .b true)) k (.b false) = .b (l.any fun x => k == key x)
  | [] => rfl
  | x :: l => by
    simp only [List.map_cons, mget, List.any_cons]
    by_cases q : (k == key x) = true
    · simp [q]
    · simp only [q, if_false, Bool.false_or, mget_set key k l]
      rfl
/-- A key more, where it is not there. -/
def madd {α : Type} (key : α → List Int) (l : List α) (y : α) : List α := if l.any (fun x => key y == key x) then l else l ++ [y]
theorem mput_set {α : Type} (key : α → List Int) (y : α) : ∀ l : List α, mput (l.map fun x => (key x, .b true)) (key y) (.b true) = (madd key l y).map fun x => (key x, .b true)
  | [] => rfl
  | x :: l => by
    have ih := mput_set key y l
    unfold madd at ih ⊢
    simp only [List.map_cons, mput, List.any_cons]
    by_cases q : (key y == key x) = true
    · simp [q]
    · have q' : (key y == key x) = false := by simpa using q
      simp only [q', Bool.false_or]
      rw [if_neg (by simp), ih]
      by_cases c : (l.any fun x => key y == key x) = true
      · rw [if_pos c, if_pos c]; rfl
      · rw [if_neg c, if_neg c]; rfl

end Go.Proofs.Ythegkbaijmkhfaa
