/- All operations of Am6 answer in the model what is told of them. -/
import Derived.Test.YthegkbaijmkhfaaAm9
set_option linter.unusedVariables false
set_option linter.unusedSimpArgs false
namespace Go.Proofs.Ythegkbaijmkhfaa
open Go

section
variable {cx : Cx} {w : World} {F D : Nat → Prop} {ι : Nat → Nat → Value} {t : List V} {a : Act} {o : Oper}

theorem FV.inv_agg {cs : List V} {c : Value} (h : FV w F (.agg cs) c) : False := by cases h

theorem indexAddrV_run {ty : Nat} {x ix : Operand} {A : Ans} {v : V} {ps : List Prop} (ht : All2 (RV w F D ι) t a.tmps.toList) (h : indexAddrV cx ty (evalV t x) (evalV t ix) A = some (v, ps)) (hp : ∀ p ∈ ps, p) :
    ∃ c, (Instr.indexAt ty (a.eval x) (a.eval ix)).run cx.P w = .ok c w ∧ RV w F D ι v c := by
  have hx := eval_rv ht x
  have hi := eval_rv ht ix
  unfold indexAddrV at h
  split at h <;> try (cases h; done)
  rename_i ti k n hti hk
  rw [hk] at hi
  rw [hi.inv_i]
  obtain ⟨i, d, z, htf⟩ := cx.tf hti
  split at h
  · rename_i e hs
    obtain rfl := htf.isSl hs
    split at h <;> try (cases h; done)
    rename_i ei hei
    obtain ⟨i', d', z', hef⟩ := cx.tf hei
    split at h <;> try (cases h; done)
    · rename_i sz m rows hv
      rw [hv] at hx
      split at h <;> try (cases h; done)
      rename_i cs
      split at h <;> try (cases h; done)
      rename_i hsz
      injection h with h
      injection h with h1 h2
      subst h1; subst h2
      have p1 : 0 ≤ n := hp _ (by simp)
      have p2 : n < m := hp _ (by simp)
      have p3 : rows[n.toNat]? = some cs := hp _ (by simp)
      have hfv := hx.inv_sl
      obtain ⟨b, cap, hc, hcap⟩ := sl_len hfv
      rw [hc] at hfv ⊢
      obtain ⟨g, o, ds, rfl, hF, hfl, hseg, hl⟩ := hfv.elem (i := n.toNat) (by omega) p3
      refine ⟨.pointer (some ⟨g, o + n.toNat * sz, none⟩), ?_, .cell (.fptr cs g _ ds hF hfl hseg)⟩
      simp [Instr.indexAt, asIntOf, Sem.run_bind, htf.underlying, p1, p2, hef.sizeOf, add_at, hsz]
    · rename_i g j sz lo m hv
      rw [hv] at hx
      split at h <;> try (cases h; done)
      rename_i hsz
      injection h with h
      injection h with h1 h2
      subst h1; subst h2
      have p1 : 0 ≤ n := hp _ (by simp)
      have p2 : n < m := hp _ (by simp)
      obtain ⟨hD, ⟨b, nn, cap, hι, hlo, hb0, hb1, hc⟩ | ⟨hl0, rfl, b, cap, hc⟩⟩ := hx.inv_own
      case inr => omega
      rw [hc, if_neg (show ¬ cap = lo by omega)]
      cases b with
      | none => have := hb0 rfl; omega
      | some ad =>
        have had := hb1 ad rfl
        refine ⟨.pointer (some ⟨ad.block, (lo + n.toNat) * sz + 0, none⟩), ?_, .cell (.eptr g j sz (lo + n.toNat) 0 ad.block hD (by rw [hι]; rfl))⟩
        rw [had]
        simp [Instr.indexAt, asIntOf, Sem.run_bind, htf.underlying, p1, p2, hef.sizeOf, add_at, hsz, Nat.add_mul]
  · split at h <;> try (cases h; done)
    rename_i len e hs
    obtain rfl := htf.isArr hs
    split at h <;> try (cases h; done)
    rename_i ei hei
    obtain ⟨i', d', z', hef⟩ := cx.tf hei
    split at h <;> try (cases h; done)
    rename_i g j hv
    rw [hv] at hx
    injection h with h
    injection h with h1 h2
    subst h1; subst h2
    have p1 : 0 ≤ n := hp _ (by simp)
    have p2 : n < len := hp _ (by simp)
    obtain ⟨hD, b, hι, hc⟩ := hx.inv_ptr
    rw [hc]
    refine ⟨.pointer (some ⟨b, n.toNat * ei.size + 0, none⟩), ?_, .cell (.eptr g j ei.size n.toNat 0 b hD (by rw [hι]; rfl))⟩
    simp [Instr.indexAt, asIntOf, Sem.run_bind, htf.underlying, p1, p2, hef.sizeOf, add_at, Instr.sureAddr]

theorem indexV_run {ty : Nat} {x ix : Operand} {A : Ans} {v : V} {ps : List Prop} (ht : All2 (RV w F D ι) t a.tmps.toList) (h : indexV cx ty (evalV t x) (evalV t ix) A = some (v, ps)) (hp : ∀ p ∈ ps, p) :
    ∃ c, (Instr.index ty (a.eval x) (a.eval ix)).run cx.P w = .ok c w ∧ RV w F D ι v c := by
  have hx := eval_rv ht x
  have hi := eval_rv ht ix
  unfold indexV at h
  split at h <;> try (cases h; done)
  rename_i ti cs k n u hti hv hk
  rw [hk] at hi
  rw [hi.inv_i]
  rw [hv] at hx
  obtain ⟨ds, hc, hall⟩ := hx.inv_agg
  rw [hc]
  obtain ⟨i, d, z, htf⟩ := cx.tf hti
  split at h <;> try (cases h; done)
  rename_i len e hs
  obtain rfl := htf.isArr hs
  split at h <;> try (cases h; done)
  rename_i ei hei
  obtain ⟨i', d', z', hef⟩ := cx.tf hei
  split at h <;> try (cases h; done)
  rename_i hag
  injection h with h
  injection h with h1 h2
  subst h1; subst h2
  have p1 : 0 ≤ n := hp _ (by simp)
  have p2 : n < len := hp _ (by simp)
  have p3 : cs[n.toNat]? = some u := hp _ (by simp)
  obtain ⟨c, hr, hv'⟩ := partV_run (off := n.toNat) hef hall (v := u) (by unfold partV; rw [if_neg (by simp [hag.1])]; exact p3)
  refine ⟨c, ?_, hv'⟩
  simp [Instr.index, asIntOf, Sem.run_bind, htf.underlying, p1, p2, hef.sizeOf, hag.2, hr]

theorem lenOpV_run {ty : Nat} {x : Operand} {v : V} (ht : All2 (RV w F D ι) t a.tmps.toList) (h : lenOpV cx ty (evalV t x) = some v) :
    ∃ c, ∀ rt, (Builtin.len_ #[ty] rt #[a.eval x]).run cx.P w = .ok c w ∧ RV w F D ι v c := by
  have hx := eval_rv ht x
  unfold lenOpV at h
  split at h <;> try (cases h; done)
  rename_i ti hti
  obtain ⟨i, d, z, htf⟩ := cx.tf hti
  split at h
  · rename_i b hv
    rw [hv] at hx
    split at h <;> try (cases h; done)
    rename_i hs
    injection h with h
    subst h
    obtain rfl := htf.isStr hs
    rw [hx.inv_s]
    exact ⟨_, fun rt => ⟨by simp [Builtin.len_, Sem.run_bind, htf.underlying, goInt], .fv (.i _ _)⟩⟩
  · split at h <;> try (cases h; done)
    rename_i e hs
    split at h <;> try (cases h; done)
    rename_i n hn
    injection h with h
    subst h
    obtain rfl := htf.isSl hs
    obtain ⟨b, m, cap, hc, rfl⟩ := lenV_slice hn hx
    rw [hc]
    exact ⟨_, fun rt => ⟨by simp [Builtin.len_, Sem.run_bind, htf.underlying, goInt], .fv (.i _ _)⟩⟩

theorem fieldAddrV_run {ty f : Nat} {x : Operand} {v : V} (ht : All2 (RV w F D ι) t a.tmps.toList) (h : fieldAddrV cx ty f (evalV t x) = some v) :
    ∃ c, (Instr.fieldAt ty (a.eval x) f).run cx.P w = .ok c w ∧ RV w F D ι v c := by
  have hx := eval_rv ht x
  unfold fieldAddrV at h
  split at h <;> try (cases h; done)
  · rename_i off fi g j o hf hv
    rw [hv] at hx
    injection h with h
    subst h
    obtain ⟨hD, b, hι, hc⟩ := hx.inv_ptr
    rw [hc]
    exact ⟨_, fieldAt_run hf b o, .cell (.ptr g j (o + off) b hD hι)⟩
  · rename_i off fi g j s i o hf hv
    rw [hv] at hx
    injection h with h
    subst h
    obtain ⟨hD, b, hι, hc⟩ := hx.inv_eptr
    rw [hc]
    exact ⟨_, fieldAt_run hf b _, by have := RC.eptr (w := w) (F := F) g j s i (o + off) b hD hι; rw [← Nat.add_assoc] at this; exact .cell this⟩
  · rename_i off fi cs hf hv
    rw [hv] at hx
    injection h with h
    subst h
    obtain ⟨g, o, ds, hF, hfl, hseg, hc⟩ := hx.inv_fptr
    rw [hc]
    exact ⟨_, fieldAt_run hf g o, .cell (.fptr _ g (o + off) _ hF (hfl.drop off) (hseg.drop off))⟩

theorem plain_some {o : Option V} {v : V} {ps : List Prop} (h : plain o = some (v, ps)) : o = some v := by
  unfold plain at h
  split at h
  · injection h with h
    injection h with h
    subst h
    rfl
  · cases h

theorem pureOp_run {ob : Oper} {v : V} {ps : List Prop} {A : Ans} (ht : All2 (RV w F D ι) t a.tmps.toList) (h : pureOp cx ob.op t A = some (v, ps)) (hp : ∀ p ∈ ps, p) :
    ∃ c, (execOp a.eval ob).run cx.P w = .ok (.value c) w ∧ RV w F D ι v c := by
  obtain ⟨dst, op, rt, pos, after, guard⟩ := ob
  simp only at h
  unfold pureOp at h
  split at h
  · rename_i x
    injection h with h
    injection h with h1 h2
    subst h1
    exact ⟨_, by simp [execOp], eval_rv ht x⟩
  · rename_i x
    injection h with h
    injection h with h1 h2
    subst h1
    exact ⟨_, by simp [execOp], eval_rv ht x⟩
  · rename_i c x y
    replace h := plain_some h
    have hc := eval_rv ht c
    unfold pickV at h
    split at h <;> try (cases h; done)
    · rename_i hb
      rw [hb] at hc
      injection h with h
      subst h
      exact ⟨_, by simp [execOp, hc.inv_b, asBool], eval_rv ht x⟩
    · rename_i hb
      rw [hb] at hc
      injection h with h
      subst h
      exact ⟨_, by simp [execOp, hc.inv_b, asBool], eval_rv ht y⟩
  · rename_i x
    replace h := plain_some h
    have hx := eval_rv ht x
    unfold nilV at h
    split at h <;> try (cases h; done)
    · rename_i hb
      rw [hb] at hx
      injection h with h
      subst h
      obtain ⟨hD, b, hι, hc⟩ := hx.inv_ptr
      exact ⟨a.eval x, by simp [execOp, hc], hx⟩
    · rename_i hb
      rw [hb] at hx
      injection h with h
      subst h
      obtain ⟨hD, b, hι, hc⟩ := hx.inv_eptr
      exact ⟨a.eval x, by simp [execOp, hc], hx⟩
    · rename_i hb
      rw [hb] at hx
      injection h with h
      subst h
      obtain ⟨g, o, ds, hF, hfl, hseg, hc⟩ := hx.inv_fptr
      exact ⟨a.eval x, by simp [execOp, hc], hx⟩
    · rename_i hb
      rw [hb] at hx
      injection h with h
      subst h
      exact ⟨a.eval x, by simp [execOp, hx.inv_fn], hx⟩
  · rename_i bo ty x y yt
    obtain ⟨e, he, hv⟩ := binV_run h hp (eval_rv ht x) (eval_rv ht y) x y
    refine ⟨e, ?_, .fv hv⟩
    simp only [execOp]
    rw [Sem.run_bind, he]
    rfl
  · rename_i uo ty x
    replace h := plain_some h
    have hx := eval_rv ht x
    unfold unV at h
    split at h <;> try (cases h; done)
    · rename_i hb
      rw [hb] at hx
      injection h with h
      subst h
      exact ⟨_, by simp [execOp, hx.inv_b, Op.unary], .fv (.b _)⟩
    · rename_i hb
      rw [hb] at hx
      injection h with h
      subst h
      exact ⟨_, by simp [execOp, hx.inv_i, Op.unary, Op.intArith], .fv (.i _ _)⟩
  · rename_i s d x
    replace h := plain_some h
    have hx := eval_rv ht x
    unfold convV at h
    split at h <;> try (cases h; done)
    rename_i si di k n h1 h2 hb
    rw [hb] at hx
    split at h <;> try (cases h; done)
    rename_i k1 k2 hk1 hk2
    injection h with h
    subst h
    obtain ⟨_, _, _, hs⟩ := cx.tf h1
    obtain ⟨_, _, _, hd⟩ := cx.tf h2
    obtain rfl := hs.isInt hk1
    obtain rfl := hd.isInt hk2
    exact ⟨_, by simp [execOp, hx.inv_i, convert, Sem.run_bind, hs.underlying, hd.underlying, Conv.intToInt], .fv (.i _ _)⟩
  · rename_i f first captured
    split at h <;> try (cases h; done)
    rename_i hb
    injection h with h
    injection h with h1 h2
    subst h1
    simp at hb
    refine ⟨.func (.func f) #[] #[], by simp [execOp, Instr.makeFunc, hb.1, hb.2], .fv (.fn f)⟩
  · rename_i x k
    replace h := plain_some h
    have hx := eval_rv ht x
    unfold extractV at h
    split at h <;> try (cases h; done)
    rename_i cs hb
    rw [hb] at hx
    obtain ⟨ds, hc, hall⟩ := hx.inv_tup
    obtain ⟨c, hk, hv⟩ := hall.get h
    exact ⟨c, by simp [execOp, hc, Instr.extract, hk], hv.toRV⟩
  · rename_i ty x f
    replace h := plain_some h
    have hx := eval_rv ht x
    unfold fieldOpV at h
    split at h <;> try (cases h; done)
    rename_i off fi cs hf hb
    rw [hb] at hx
    obtain ⟨ds, hc, hall⟩ := hx.inv_agg
    obtain ⟨c, hr, hv⟩ := field_run hf hall h
    exact ⟨c, by simp [execOp, hc, hr], hv⟩
  · rename_i ty x f
    obtain ⟨c, hr, hv⟩ := fieldAddrV_run ht (plain_some h)
    exact ⟨c, by simp [execOp, hr], hv⟩
  · rename_i ty parts
    replace h := plain_some h
    unfold buildV at h
    split at h <;> try (cases h; done)
    rename_i ti hti
    split at h <;> try (cases h; done)
    rename_i l hl
    split at h <;> try (cases h; done)
    rename_i hall
    split at h <;> try (cases h; done)
    rename_i cs hcs
    injection h with h
    subst h
    obtain ⟨c, hr, hv⟩ := build_run (w := w) hti hl hall ht hcs
    exact ⟨c, by simp [execOp, hr], hv⟩
  · rename_i cl
    obtain ⟨callee, args, argTypes⟩ := cl
    simp only at h
    split at h <;> try (cases h; done)
    · rename_i x ty hargs htys
      have ha : args = #[x] := by simpa using congrArg List.toArray hargs
      have hy : argTypes = #[ty] := by simpa using congrArg List.toArray htys
      subst ha; subst hy
      obtain ⟨c, hr⟩ := lenOpV_run ht (plain_some h)
      exact ⟨c, by simp [execOp, resolve, invoke, builtin, (hr rt).1], (hr rt).2⟩
    · rename_i tys x y hargs
      have ha : args = #[x, y] := by simpa using congrArg List.toArray hargs
      subst ha
      replace h := plain_some h
      have hx := eval_rv ht x
      have hy := eval_rv ht y
      unfold minV at h
      split at h <;> try (cases h; done)
      rename_i k n k' m h1 h2
      rw [h1] at hx
      rw [h2] at hy
      split at h <;> try (cases h; done)
      rename_i hk
      subst hk
      injection h with h
      subst h
      exact ⟨_, by simp [execOp, resolve, invoke, builtin, Builtin.min_, Builtin.min2, hx.inv_i, hy.inv_i], .fv (.i _ _)⟩
  · rename_i ty x ix
    obtain ⟨c, hr, hv⟩ := indexAddrV_run ht h hp
    exact ⟨c, by simp [execOp, hr], hv⟩
  · rename_i ty x ix
    obtain ⟨c, hr, hv⟩ := indexV_run ht h hp
    exact ⟨c, by simp [execOp, hr], hv⟩
  · rename_i ty x lo hi
    obtain ⟨c, hr, hv⟩ := sliceV_run ht h hp
    exact ⟨c, by simp [execOp, hr], hv⟩
  · cases h
end

end Go.Proofs.Ythegkbaijmkhfaa
