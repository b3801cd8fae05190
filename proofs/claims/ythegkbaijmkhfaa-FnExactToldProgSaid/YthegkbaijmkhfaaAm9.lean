/- The operations of Am6 answer in the model what is told of them: the last of them, and all together. -/
import Derived.Test.YthegkbaijmkhfaaAm8
set_option linter.unusedVariables false
set_option linter.unusedSimpArgs false
namespace Go.Proofs.Ythegkbaijmkhfaa
open Go

section
variable {cx : Cx} {w : World} {F D : Nat → Prop} {ι : Nat → Nat → Value} {t : List V} {a : Act} {o : Oper}

theorem own_len {g j sz lo n : Nat} {c : Value} (h : RV w F D ι (.own g j sz lo n) c) : ∃ b cap, c = .slice b n cap := by
  obtain ⟨_, ⟨b, nn, cap, _, _, _, _, rfl⟩ | ⟨_, rfl, b, cap, rfl⟩⟩ := h.inv_own
  · exact ⟨_, _, rfl⟩
  · exact ⟨_, _, rfl⟩
theorem sl_len {sz n : Nat} {rows : List (List V)} {c : Value} (h : FV w F (.sl sz n rows) c) : ∃ b cap, c = .slice b n cap ∧ n ≤ cap := by
  cases h with
  | sl0 sz a cap => exact ⟨a, cap, rfl, Nat.zero_le _⟩
  | sl sz n rows g o cap ds hF hr hn hs hc hseg => exact ⟨_, cap, rfl, hc⟩

theorem lenV_slice {v : V} {n : Int} (h : lenV v = some n) {c : Value} (hc : RV w F D ι v c) : ∃ b m cap, c = .slice b m cap ∧ (m : Int) = n := by
  unfold lenV at h
  split at h
  · injection h with h
    obtain rfl := hc.inv_nil
    exact ⟨_, _, _, rfl, h⟩
  · injection h with h
    obtain ⟨b, cap, rfl, _⟩ := sl_len hc.inv_sl
    exact ⟨_, _, _, rfl, h⟩
  · injection h with h
    obtain ⟨b, cap, rfl⟩ := own_len hc
    exact ⟨_, _, _, rfl, h⟩
  · cases h

theorem placeV_eq {ty : Nat} {ti : TI} {i : TypeInfo} {d : TypeDesc} {z : Value} (hT : cx.T ty = some ti) (h : TF cx.P ty ti i d z) {fs : Array Field} (hd : d = .struct fs) (hfs : fs.toList.map (fun f => (f.offset, f.type)) = (ti.fs.getD [])) (hs : ti.fs.isSome = true) {k : Nat} {q : Nat × Nat} (hk : placeV cx ty k = some q) :
    ∃ f, fs[k]? = some f ∧ q.1 = f.offset ∧ ∃ fi, cx.T f.type = some fi ∧ q.2 = fi.size := by
  unfold placeV at hk
  rw [hT] at hk
  simp only at hk
  split at hk
  · rename_i l hl
    split at hk
    · rename_i off ft hf
      split at hk
      · rename_i fi hfi
        injection hk with hk
        subst hk
        rw [hl] at hfs
        simp only [Option.getD_some] at hfs
        rw [← hfs, List.getElem?_map] at hf
        obtain ⟨f, hf1, hf2⟩ := Option.map_eq_some_iff.1 hf
        injection hf2 with h1 h2
        subst h1; subst h2
        exact ⟨f, by simpa using hf1, rfl, fi, hfi, rfl⟩
      · cases hk
    · cases hk
  · cases hk

/-- What a struct's literal asks: that each part's type be told. Then the model builds what is told. -/
theorem fill_mono {place place' : Nat → Option (Nat × Nat)} : ∀ {ps : List (Nat × Value)} {cells out : Array Value}, (∀ x ∈ ps, ∀ q, place x.1 = some q → place' x.1 = some q) → Instr.fill place cells ps = some out → Instr.fill place' cells ps = some out
  | [], cells, out, _, h => h
  | (i, v) :: ps, cells, out, hp, h => by
    simp only [Instr.fill] at h ⊢
    cases hpi : place i with
    | none => rw [hpi] at h; cases h
    | some q =>
      rw [hp (i, v) (by simp) q hpi]
      rw [hpi] at h
      obtain ⟨off, size⟩ := q
      simp only at h ⊢
      split at h
      · cases h
      · rename_i hc
        rw [if_neg hc]
        exact fill_mono (fun x hx => hp x (by simp [hx])) h

theorem run_mapM_places {P : Program} {w : World} : ∀ (fs : List Field), (∀ f ∈ fs, ∃ i, P.info? f.type = some i) → ∃ places : List (Nat × Nat), fs.mapM (fun f => (P.info? f.type).map fun i => (f.offset, i.size)) = some places ∧
    ∀ (k : Nat) (f : Field), fs[k]? = some f → ∀ i, P.info? f.type = some i → places[k]? = some (f.offset, i.size)
  | [], _ => ⟨[], by simp, by simp⟩
  | f :: fs, h => by
    obtain ⟨i, hi⟩ := h f (by simp)
    obtain ⟨places, hp, hk⟩ := run_mapM_places (P := P) (w := w) fs (fun x hx => h x (by simp [hx]))
    refine ⟨(f.offset, i.size) :: places, by simp [List.mapM_cons, hi, hp], ?_⟩
    intro k f' hf i' hi'
    cases k with
    | zero => simp at hf; subst hf; rw [hi] at hi'; injection hi' with hi'; subst hi'; simp
    | succ k => simpa using hk k f' (by simpa using hf) i' hi'

theorem build_run {ty : Nat} {ti : TI} (hT : cx.T ty = some ti) {l : List (Nat × Nat)} (hl : ti.fs = some l) (hall : fieldsTold cx l = true) (ht : All2 (RV w F D ι) t a.tmps.toList) {parts : Array (Nat × Operand)} {cs : List V}
    (hf : fillV (placeV cx ty) ti.zero (parts.toList.map fun (i, x) => (i, evalV t x)) = some cs) :
    ∃ c, (Instr.build ty (parts.map fun (i, x) => (i, a.eval x))).run cx.P w = .ok c w ∧ RV w F D ι (.agg cs) c := by
  obtain ⟨i, d, z, htf⟩ := cx.tf hT
  obtain ⟨fs, rfl, hfs⟩ := htf.isStruct hl
  have hz : All2 (RC w F D ι) ti.zero z.cells.toList := by
    rw [← htf.zeros]
    exact (FL.ofCells (w := w) (F := F) _ htf.one).all2.imp fun _ _ x => .fv _ _ x
  have hps : ∀ qs : List (Nat × Operand), All2 (fun (x : Nat × V) (y : Nat × Value) => x.1 = y.1 ∧ RV w F D ι x.2 y.2) (qs.map fun (i, x) => (i, evalV t x)) (qs.map fun (i, x) => (i, a.eval x)) := by
    intro qs
    induction qs with
    | nil => exact .nil
    | cons q qs ih => exact .cons ⟨rfl, eval_rv ht q.2⟩ ih
  obtain ⟨es, he, hr⟩ := fill_rel (hps parts.toList) hz hf
  have hinfo : ∀ f ∈ fs.toList, ∃ i, cx.P.info? f.type = some i := by
    intro f hfm
    have hmem : (f.offset, f.type) ∈ l := by rw [← hfs]; exact List.mem_map.2 ⟨f, hfm, rfl⟩
    have := List.all_eq_true.1 hall _ hmem
    obtain ⟨fi, hfi⟩ := Option.isSome_iff_exists.1 this
    obtain ⟨i', _, _, h'⟩ := cx.tf hfi
    exact ⟨i', h'.info⟩
  obtain ⟨places, hpl, hpk⟩ := run_mapM_places (P := cx.P) (w := w) fs.toList hinfo
  have hb : cx.P.built ty (parts.map fun (i, x) => (i, a.eval x)).toList = some es := by
    unfold Program.built
    rw [htf.info, htf.und]
    simp only [htf.zero, hpl]
    rw [Array.toList_map]
    refine fill_mono ?_ he
    intro x _ q hq
    obtain ⟨f, hfk, h1, fi, hfi, h2⟩ := placeV_eq hT htf rfl (by rw [hl]; exact hfs) (by rw [hl]; rfl) hq
    obtain ⟨i', _, _, h'⟩ := cx.tf hfi
    have := hpk x.1 f (by simpa using hfk) i' h'.info
    simp only [List.getElem?_toArray, this, h'.size]
    rw [← h1, ← h2]
  refine ⟨.agg es, run_build w ty _ es hb, ?_⟩
  have := RA.agg cs es.toList hr
  simpa using RV.one _ _ this

theorem slice_run {ty e : Nat} {ti ei : TI} (hT : cx.T ty = some ti) (hs : ti.sl = some e) (hE : cx.T e = some ei) {b : Option Addr} {n cap : Nat} (hcap : n ≤ cap) {lo hi : Option Value} {l h : Nat}
    (hlo : (lo = none ∧ l = 0) ∨ ∃ k i, lo = some (.int k i) ∧ 0 ≤ i ∧ i.toNat = l) (hhi : (hi = none ∧ h = n) ∨ ∃ k i, hi = some (.int k i) ∧ 0 ≤ i ∧ i.toNat = h) (hlh : l ≤ h) (hh : h ≤ n) :
    (Instr.sliceAt ty (.slice b n cap) lo hi none).run cx.P w = .ok (.slice (if cap = l then b else b.map (·.add (l * ei.size))) (h - l) (cap - l)) w := by
  obtain ⟨i, d, z, htf⟩ := cx.tf hT
  obtain ⟨i', d', z', hef⟩ := cx.tf hE
  obtain rfl := htf.isSl hs
  have hb : (Instr.sliceBounds true n cap lo hi none).run cx.P w = .ok (l, h, cap) w := by
    rcases hlo with ⟨rfl, rfl⟩ | ⟨k, x, rfl, hx, hxl⟩ <;> rcases hhi with ⟨rfl, rfl⟩ | ⟨k', y, rfl, hy, hyl⟩
    · simp [Instr.sliceBounds]
    · have h2 : y ≤ (cap : Int) := by omega
      simp [Instr.sliceBounds, Instr.sliceBound, asIntOf, hy, h2, hyl]
    · have h2 : x ≤ (h : Int) := by omega
      simp [Instr.sliceBounds, Instr.sliceBound, asIntOf, hx, h2, hxl]
    · have h2 : y ≤ (cap : Int) := by omega
      have h3 : x ≤ (h : Int) := by omega
      simp [Instr.sliceBounds, Instr.sliceBound, asIntOf, hy, h2, hyl, hx, h3, hxl]
  simp [Instr.sliceAt, Instr.slice, Sem.run_bind, htf.underlying, hb, hef.sizeOf]

theorem boundsV_run {lo hi : Option Operand} {m : Nat} {l h : Nat} {ps : List Prop} (ht : All2 (RV w F D ι) t a.tmps.toList) (hb : boundsV (lo.map (evalV t)) (hi.map (evalV t)) m = some (l, h, ps)) (hp : ∀ p ∈ ps, p) :
    ((lo.map a.eval = none ∧ l = 0) ∨ ∃ k i, lo.map a.eval = some (.int k i) ∧ 0 ≤ i ∧ i.toNat = l) ∧ ((hi.map a.eval = none ∧ h = m) ∨ ∃ k i, hi.map a.eval = some (.int k i) ∧ 0 ≤ i ∧ i.toNat = h) ∧ l ≤ h ∧ h ≤ m := by
  have ev : ∀ {x : Operand} {k n}, evalV t x = .i k n → a.eval x = .int k n := fun {x k n} he => (he ▸ eval_rv ht x).inv_i
  cases lo with
  | none => cases hi with
    | none =>
      simp [boundsV] at hb
      obtain ⟨rfl, rfl, rfl⟩ := hb
      simp
    | some y =>
      simp only [Option.map_none, Option.map_some] at hb
      unfold boundsV at hb
      split at hb <;> try (cases hb; done)
      · simp_all
      · rename_i k i h1 h2
        injection h2 with h2
        injection hb with hb
        injection hb with e1 e2
        injection e2 with e2 e3
        subst e1; subst e2; subst e3
        have b1 : 0 ≤ i := hp _ (by simp)
        have b2 : i ≤ m := hp _ (by simp)
        exact ⟨.inl ⟨rfl, rfl⟩, .inr ⟨k, i, by simp [ev h2], b1, rfl⟩, by omega, by omega⟩
      · simp_all
      · simp_all
  | some x => cases hi with
    | none =>
      simp only [Option.map_none, Option.map_some] at hb
      unfold boundsV at hb
      split at hb <;> try (cases hb; done)
      · simp_all
      · simp_all
      · rename_i k i h1 h2
        injection h1 with h1
        injection hb with hb
        injection hb with e1 e2
        injection e2 with e2 e3
        subst e1; subst e2; subst e3
        have b1 : 0 ≤ i := hp _ (by simp)
        have b2 : i ≤ m := hp _ (by simp)
        exact ⟨.inr ⟨k, i, by simp [ev h1], b1, rfl⟩, .inl ⟨rfl, rfl⟩, by omega, by omega⟩
      · simp_all
    | some y =>
      simp only [Option.map_some] at hb
      unfold boundsV at hb
      split at hb <;> try (cases hb; done)
      · rename_i k i k' i' h1 h2
        injection h1 with h1
        injection h2 with h2
        injection hb with hb
        injection hb with e1 e2
        injection e2 with e2 e3
        subst e1; subst e2; subst e3
        have b1 : 0 ≤ i := hp _ (by simp)
        have b2 : i ≤ i' := hp _ (by simp)
        have b3 : i' ≤ m := hp _ (by simp)
        exact ⟨.inr ⟨k, i, by simp [ev h1], b1, rfl⟩, .inr ⟨k', i', by simp [ev h2], by omega, rfl⟩, by omega, by omega⟩
      · simp_all
      · simp_all
      · simp_all

theorem sliceV_run {ty : Nat} {x : Operand} {lo hi : Option Operand} {v : V} {ps : List Prop} (ht : All2 (RV w F D ι) t a.tmps.toList) (h : sliceV cx ty (evalV t x) (lo.map (evalV t)) (hi.map (evalV t)) = some (v, ps)) (hp : ∀ p ∈ ps, p) :
    ∃ c, (Instr.sliceAt ty (a.eval x) (lo.map a.eval) (hi.map a.eval) none).run cx.P w = .ok c w ∧ RV w F D ι v c := by
  unfold sliceV at h
  split at h <;> try (cases h; done)
  rename_i ti hti
  split at h <;> try (cases h; done)
  rename_i e hs
  split at h <;> try (cases h; done)
  rename_i ei hei
  have hx := eval_rv ht x
  split at h <;> try (cases h; done)
  · rename_i sz m rows hv
    rw [hv] at hx
    split at h <;> try (cases h; done)
    rename_i l hh ps' hb
    split at h <;> try (cases h; done)
    rename_i hsz
    injection h with h
    injection h with h1 h2
    subst h1; subst h2
    obtain ⟨b1, b2, b3, b4⟩ := boundsV_run ht hb hp
    have hfv := hx.inv_sl
    obtain ⟨b, cap, hc, hcap⟩ := sl_len hfv
    rw [hc] at hfv ⊢
    refine ⟨_, slice_run hti hs hei hcap b1 b2 b3 b4, ?_⟩
    rw [hsz]
    exact .fv (hfv.sub l (hh - l) (by omega))
  · rename_i g j sz lo0 m hv
    rw [hv] at hx
    split at h <;> try (cases h; done)
    rename_i l hh ps' hb
    split at h <;> try (cases h; done)
    rename_i hsz
    injection h with h
    injection h with h1 h2
    subst h1; subst h2
    obtain ⟨b1, b2, b3, b4⟩ := boundsV_run ht hb hp
    obtain ⟨hD, ⟨b, nn, cap, hι, hlo, hb0, hb1, hc⟩ | ⟨hl0, rfl, b, cap, hc⟩⟩ := hx.inv_own
    case inr =>
      rw [hc]
      refine ⟨_, slice_run hti hs hei (Nat.zero_le _) b1 b2 b3 b4, ?_⟩
      have : hh - l = 0 := by omega
      rw [this]
      exact .cell (.own0 g j sz _ _ _ hD (by omega))
    rw [hc]
    refine ⟨_, slice_run hti hs hei (by omega) b1 b2 b3 b4, ?_⟩
    rw [hsz]
    have hrc := RC.own (w := w) (F := F) g j sz (lo0 + l) (hh - l) b nn cap hD hι (by omega) hb0 hb1
    have e1 : cap - lo0 - l = cap - (lo0 + l) := by omega
    have e2 : (if cap - lo0 = l then (if cap = lo0 then b else b.map (·.add (lo0 * sz))) else (if cap = lo0 then b else b.map (·.add (lo0 * sz))).map (·.add (l * sz))) = (if cap = lo0 + l then b else b.map (·.add ((lo0 + l) * sz))) ∨ hh - l = 0 := by
      by_cases q : cap - lo0 = l
      · right; omega
      · left
        rw [if_neg q, if_neg (show ¬ cap = lo0 + l by omega)]
        by_cases q2 : cap = lo0
        · omega
        · rw [if_neg q2]
          cases b with
          | none => rfl
          | some ad =>
            rw [hb1 ad rfl]
            simp only [Option.map_some, add_at, Nat.add_mul, Nat.zero_add]
    rcases e2 with e2 | e2
    · rw [e2, e1]
      exact .cell hrc
    · by_cases q : lo0 + l = 0
      · have q1 : lo0 = 0 := by omega
        have q2 : l = 0 := by omega
        subst q1; subst q2
        by_cases q3 : cap = 0
        · subst q3
          simpa using RV.cell hrc
        · have hm : ∀ b : Option Addr, b.map (·.add (0 * sz)) = b := by intro b; cases b <;> simp [Addr.add]
          simp only [if_neg q3, Nat.sub_zero, Nat.add_zero, hm] at hrc ⊢
          exact .cell hrc
      · rw [e2]
        exact .cell (.own0 g j sz _ _ _ hD (by omega))

end

end Go.Proofs.Ythegkbaijmkhfaa
