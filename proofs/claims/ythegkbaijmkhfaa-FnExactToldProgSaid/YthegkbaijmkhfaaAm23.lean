/- Two operations that don't touch what the other one touches can come in either order. -/
import Derived.Test.YthegkbaijmkhfaaAm22
set_option linter.unusedVariables false
set_option linter.unusedSimpArgs false
namespace Go.Proofs.Ythegkbaijmkhfaa
open Go

/-- What is found hangs on nothing but what was looked at. -/
def Local {α : Type} (m : RdM α) : Prop := ∀ (H H' : Hp) r lg, m H = some (r, lg) → (∀ id ∈ lg, H' id.1 id.2 = H id.1 id.2) → m H' = some (r, lg)

namespace Local
variable {α β : Type}
theorem pure (a : α) : Local (RdM.pure a) := fun _ _ _ _ h _ => h
theorem no : Local (RdM.no : RdM α) := fun _ _ _ _ h _ => h
theorem lift (o : Option α) : Local (RdM.lift o) := by
  intro H H' r lg h _
  unfold RdM.lift at h ⊢
  exact h
theorem rd (g j : Nat) : Local (RdM.rd g j) := by
  intro H H' r lg h hH
  obtain ⟨h1, h2⟩ := RdM.rd_some h
  simp only at h1 h2
  subst h2
  have := hH (g, j) (by simp)
  unfold RdM.rd
  simp only at this
  rw [this, h1]
theorem bind {m : RdM α} {f : α → RdM β} (hm : Local m) (hf : ∀ a, Local (f a)) : Local (RdM.bind m f) := by
  intro H H' r lg h hH
  obtain ⟨a, l, l', h1, h2, h3⟩ := RdM.bind_some h
  simp only at h2 h3
  subst h3
  unfold RdM.bind
  rw [hm H H' a l h1 (fun id hid => hH id (List.mem_append.2 (.inl hid)))]
  simp only
  rw [hf a H H' r l' h2 (fun id hid => hH id (List.mem_append.2 (.inr hid)))]
theorem ite {c : Prop} [Decidable c] {m n : RdM α} (hm : Local m) (hn : Local n) : Local (if c then m else n) := by
  split <;> assumption
end Local

theorem fzP_local (ck : Option Nat) (v : V) : Local (fzP ck v) := by
  unfold fzP
  cases v <;> try exact Local.no
  case own g j sz lo n =>
    refine .bind (.rd g j) fun e => ?_
    cases e <;> first | exact Local.no | exact .ite (.pure _) .no
  case nil => cases ck <;> exact .pure _
  all_goals exact .pure _

theorem fzPs_local : ∀ (vs : List V) (ck : List (Option Nat)), Local (fzPs ck vs)
  | [], ck => by cases ck <;> exact .pure _
  | v :: vs, ck => .bind (fzP_local _ _) fun x => .bind (fzPs_local vs _) fun y => .pure _

theorem loadM_local (cx : Cx) (ty : Nat) (x : V) (A : Ans) : Local (loadM cx ty x A) := by
  unfold loadM
  cases cx.T ty with
  | none => exact .no
  | some ti =>
    cases x <;> try exact Local.no
    case ptr g j off =>
      refine .bind (.rd g j) fun e => ?_
      cases e <;> try exact Local.no
      case var e cs => simp only; cases readV ti (cs.drop off) <;> first | exact .no | exact .pure _
      case arr e sz n rows => exact .ite (.pure _) .no
    case eptr g j sz idx off =>
      refine .bind (.rd g j) fun e => ?_
      cases A <;> try exact Local.no
      case row r =>
        simp only
        cases readV ti (r.drop off) with
        | none => exact .no
        | some v => cases e <;> first | exact Local.no | exact .ite (.pure _) .no
    case fptr cs => simp only; cases readV ti cs <;> first | exact .no | exact .pure _

theorem storeM_local (cx : Cx) (ty : Nat) (x y : V) (A : Ans) : Local (storeM cx ty x y A) := by
  unfold storeM
  cases cx.T ty with
  | none => exact .no
  | some ti =>
    cases y.cells with
    | none => exact .no
    | some vs =>
      cases x <;> try exact Local.no
      case ptr g j off =>
        refine .bind (.rd g j) fun e => ?_
        cases e <;> first | exact Local.no | exact .ite (.pure _) .no
      case eptr g j sz idx off =>
        refine .bind (.rd g j) fun e => ?_
        cases A <;> try exact Local.no
        case rowck r ck =>
          refine .bind (fzPs_local _ _) fun f => ?_
          cases e <;> first | exact Local.no | exact .ite (.pure _) .no

theorem srcM_local (x : V) : Local (srcM x) := by
  unfold srcM
  cases x <;> try first | exact Local.no | exact Local.pure _
  case own g j sz lo n =>
    refine .bind (.rd g j) fun e => ?_
    cases e <;> first | exact Local.no | exact .ite (.pure _) .no

theorem appendM_local (cx : Cx) (grp ty : Nat) (s x : V) : Local (appendM cx grp ty s x) := by
  unfold appendM
  cases cx.T ty with
  | none => exact .no
  | some ti =>
    simp only
    cases ti.sl with
    | none => exact .no
    | some e =>
      simp only
      cases cx.T e with
      | none => exact .no
      | some ei =>
        refine .bind (srcM_local x) fun q => .ite ?_ .no
        cases s <;> try first | exact Local.no | exact Local.pure _
        case own g j sz lo n =>
          cases lo with
          | succ k => exact .no
          | zero =>
            refine .bind (.rd g j) fun e => ?_
            cases e <;> first | exact Local.no | exact .ite (.pure _) .no

theorem copyM_local (cx : Cx) (ty : Nat) (s x : V) : Local (copyM cx ty s x) := by
  unfold copyM
  cases cx.T ty with
  | none => exact .no
  | some ti =>
    simp only
    cases ti.sl with
    | none => exact .no
    | some e =>
      simp only
      cases cx.T e with
      | none => exact .no
      | some ei =>
        refine .bind (srcM_local x) fun q => ?_
        cases s <;> try exact Local.no
        case own g j sz lo n =>
          cases lo with
          | succ k => exact .no
          | zero =>
            refine .bind (.rd g j) fun e => ?_
            cases e <;> first | exact Local.no | exact .ite (.pure _) .no

theorem fzParts_local (ck : List (Option Nat)) : ∀ ps : List (Nat × V), Local (fzParts ck ps)
  | [] => .pure _
  | (i, v) :: ps => by
    unfold fzParts
    cases v.cells with
    | none => exact .no
    | some cs => exact .bind (fzPs_local _ _) fun x => .bind (fzParts_local ck ps) fun y => .pure _

theorem buildSliceM_local (cx : Cx) (grp ty len : Nat) (parts : List (Nat × V)) (A : Ans) : Local (buildSliceM cx grp ty len parts A) := by
  unfold buildSliceM
  cases cx.T ty with
  | none => exact .no
  | some ti =>
    simp only
    cases ti.sl with
    | none => exact .no
    | some e =>
      simp only
      cases cx.T e with
      | none => exact .no
      | some ei =>
        cases A <;> try exact Local.no
        case ck ck =>
          refine .bind (fzParts_local _ _) fun q => ?_
          cases setRows ei.size (List.replicate len ei.zero) q.1 with
          | none => exact .no
          | some rows => exact .ite (.pure _) .no

theorem cellM_local (ck om : Option Nat) (v : V) : Local (cellM ck om v) := by
  unfold cellM
  cases om with
  | some e =>
    cases v <;> try first | exact Local.no | exact Local.pure _
    case own g j sz lo n =>
      cases lo with
      | succ k => exact .no
      | zero =>
        refine .bind (.rd g j) fun e => ?_
        cases e <;> first | exact Local.no | exact .ite (.pure _) .no | (rename_i o _ _ _ _; cases o <;> first | exact Local.no | exact .ite (.pure _) .no)
  | none =>
    cases v <;> try first | exact Local.no | exact Local.pure _
    case own g j sz lo n =>
      refine .bind (.rd g j) fun e => ?_
      cases e <;> first | exact Local.no | exact .ite (.pure _) .no | (rename_i o _ _ _ _; cases o <;> first | exact Local.no | exact .ite (.pure _) .no)
    case nil => cases ck <;> exact .pure _

theorem cellsM_local : ∀ (vs : List V) (ck om : List (Option Nat)), Local (cellsM ck om vs)
  | [], ck, om => by cases ck <;> cases om <;> exact .pure _
  | v :: vs, ck, om => .bind (cellM_local _ _ _) fun x => .bind (cellsM_local vs _ _) fun y => .pure _

theorem argM_local (m : PM) (v : V) : Local (argM m v) := by
  unfold argM
  cases m with
  | val ck om =>
    cases v <;> try first | exact Local.no | exact cellM_local _ _ _
    case agg cs => exact .bind (cellsM_local _ _ _) fun x => .pure _
  | ptr ck om =>
    cases v <;> try exact Local.no
    case ptr g j off =>
      cases off with
      | succ k => exact .no
      | zero =>
        refine .bind (.rd g j) fun e => ?_
        cases e <;> try exact Local.no
        case var e cs => exact .bind (cellsM_local _ _ _) fun x => .pure _
  | row =>
    cases v <;> try exact Local.no
    case own g j sz lo n =>
      cases lo with
      | succ k => exact .no
      | zero =>
        refine .bind (.rd g j) fun e => ?_
        cases e <;> first | exact Local.no | exact .ite (.pure _) .no | (rename_i o _ _ _ _; cases o <;> first | exact Local.no | exact .ite (.pure _) .no)

theorem argsM_local : ∀ (vs : List V) (ms : List PM), Local (argsM ms vs)
  | [], ms => by cases ms <;> exact .pure _
  | v :: vs, [] => .no
  | v :: vs, m :: ms => .bind (argM_local m v) fun x => .bind (argsM_local vs ms) fun y => .pure _

theorem frzOf_local : ∀ ids : List (Nat × Nat), Local (frzOf ids)
  | [] => .pure _
  | (g, j) :: ids => by
    unfold frzOf
    refine .bind (.rd g j) fun e => ?_
    cases e <;> try exact Local.no
    case row t sz n rows => exact .bind (frzOf_local ids) fun us => .pure _
    case deep o t sz n rows =>
      cases o
      · exact .bind (frzOf_local ids) fun us => .pure _
      · exact .no

theorem callM_local (P : Program) (grp f : Nat) (args : List V) (A : Ans) : Local (callM P grp f args A) := by
  unfold callM
  cases A <;> try exact Local.no
  case call ms fr res outs =>
    refine .bind (argsM_local _ _) fun r => .bind (frzOf_local _) fun fz => ?_
    simp only
    cases outsM grp (thawR grp 0 res).2.length ms args outs with
    | none => exact .no
    | some ue => exact .ite (.pure _) .no

theorem dstoreM_local (cx : Cx) (ty : Nat) (x y : V) (r : List V) (ck om : List (Option Nat)) : Local (dstoreM cx ty x y r ck om) := by
  unfold dstoreM
  cases cx.T ty with
  | none => exact .no
  | some ti =>
    cases y.cells with
    | none => exact .no
    | some vs =>
      cases x <;> try exact Local.no
      case eptr g j sz idx off =>
        refine .bind (.rd g j) fun e => .bind (cellsM_local _ _ _) fun f => ?_
        cases e <;> try exact Local.no
        exact .ite (.pure _) .no
theorem dloadM_local (cx : Cx) (grp ty : Nat) (x : V) (r : List V) : Local (dloadM cx grp ty x r) := by
  unfold dloadM
  cases cx.T ty with
  | none => exact .no
  | some ti =>
    cases x <;> try exact Local.no
    case eptr g j sz idx off =>
      refine .bind (.rd g j) fun e => ?_
      cases e <;> try exact Local.no
      simp only
      refine .ite ?_ .no
      cases readV ti (thawCs grp 0 ((r.drop off).take (if ti.agg = true then ti.size else 1))).1 with
      | none => exact .no
      | some v => exact .pure _
theorem dtakM_local (cx : Cx) (grp ty : Nat) (x : V) (r : List V) : Local (dtakM cx grp ty x r) := by
  unfold dtakM
  cases cx.T ty with
  | none => exact .no
  | some ti =>
    cases x <;> try exact Local.no
    case eptr g j sz idx off =>
      refine .bind (.rd g j) fun e => ?_
      cases e <;> try exact Local.no
      simp only
      refine .ite ?_ .no
      cases readV ti (thawCs grp 0 ((r.drop off).take (if ti.agg = true then ti.size else 1))).1 with
      | none => exact .no
      | some v => exact .pure _
theorem dcloseM_local (cx : Cx) (ty : Nat) (x y : V) (r : List V) (ck om : List (Option Nat)) : Local (dcloseM cx ty x y r ck om) := by
  unfold dcloseM
  refine .bind (dstoreM_local _ _ _ _ _ _ _) fun o => ?_
  split
  · exact .bind (.rd _ _) fun _ => .pure _
  · exact .no
theorem dreadM_local (cx : Cx) (ty : Nat) (x : V) (r : List V) : Local (dreadM cx ty x r) := by
  unfold dreadM
  cases cx.T ty with
  | none => exact .no
  | some ti =>
    cases x <;> try exact Local.no
    case eptr g j sz idx off =>
      refine .bind (.rd g j) fun e => ?_
      cases e <;> try exact Local.no
      simp only
      refine .ite ?_ .no
      cases readV ti ((r.drop off).take (if ti.agg = true then ti.size else 1)) with
      | none => exact .no
      | some v => exact .pure _
theorem dmakeM_local (cx : Cx) (grp ty : Nat) (l c : V) (ck om : List (Option Nat)) : Local (dmakeM cx grp ty l c ck om) := by
  unfold dmakeM
  cases cx.T ty with
  | none => exact .no
  | some ti =>
    simp only
    cases ti.sl with
    | none => exact .no
    | some e =>
      simp only
      cases cx.T e with
      | none => exact .no
      | some ei =>
        cases l <;> try exact Local.no
        cases c <;> try exact Local.no
        exact .bind (cellsM_local _ _ _) fun f => .ite (.pure _) .no

theorem dbuildM_local (cx : Cx) (grp ty len : Nat) (parts : List (Nat × V)) (ck om : List (Option Nat)) : Local (dbuildM cx grp ty len parts ck om) := by
  unfold dbuildM
  cases cx.T ty with
  | none => exact .no
  | some ti =>
    simp only
    cases ti.sl with
    | none => exact .no
    | some e =>
      simp only
      cases cx.T e with
      | none => exact .no
      | some ei =>
        simp only
        split
        · split
          · exact .bind (cellsM_local _ _ _) fun f => .ite (.pure _) .no
          · exact .no
        · exact .no
theorem dappM_local (cx : Cx) (grp ty : Nat) (s x : V) : Local (dappM cx grp ty s x) := by
  unfold dappM
  cases cx.T ty with
  | none => exact .no
  | some ti =>
    simp only
    cases ti.sl with
    | none => exact .no
    | some e =>
      simp only
      cases cx.T e with
      | none => exact .no
      | some ei =>
        simp only
        split
        · refine .bind (.rd _ _) fun e2 => ?_
          split
          · refine .ite ?_ .no
            split
            · exact .pure _
            · refine .bind (.rd _ _) fun e1 => ?_
              split
              · exact .ite (.pure _) .no
              · exact .no
            · exact .no
          · exact .no
        · exact .no
theorem lookM_local (cx : Cx) (ty : Nat) (x ix : V) : Local (lookM cx ty x ix) := by
  unfold lookM
  cases cx.M ty with
  | none => exact .no
  | some q =>
    obtain ⟨kt, m, z⟩ := q
    cases x <;> try exact Local.no
    cases ix <;> try exact Local.no
    rename_i g j ks
    simp only
    cases intsOf ks with
    | none => exact .no
    | some xs =>
      refine .bind (.rd g j) fun e => ?_
      cases e <;> try exact Local.no
      exact .ite (.pure _) .no
theorem mputM_local (cx : Cx) (ty : Nat) (x ix y : V) : Local (mputM cx ty x ix y) := by
  unfold mputM
  cases cx.M ty with
  | none => exact .no
  | some q =>
    obtain ⟨kt, m, z⟩ := q
    cases x <;> try exact Local.no
    cases ix <;> try exact Local.no
    rename_i g j ks
    simp only
    cases intsOf ks with
    | none => exact .no
    | some xs =>
      refine .bind (.rd g j) fun e => ?_
      cases e <;> try exact Local.no
      exact .ite (.pure _) .no

theorem opM_local (cx : Cx) (grp : Nat) (ob : Oper) (t : List V) (A : Ans) : Local (opM cx grp ob t A) := by
  unfold opM
  cases ob.op <;> try exact Local.lift _
  case buildSlice ty len parts => cases A <;> first | exact dbuildM_local _ _ _ _ _ _ _ | exact buildSliceM_local _ _ _ _ _ _
  case makeSlice ty l c => cases A <;> first | exact dmakeM_local _ _ _ _ _ _ _ | exact Local.lift _
  case load ty x => cases A <;> first | exact dloadM_local _ _ _ _ _ | exact dtakM_local _ _ _ _ _ | exact dreadM_local _ _ _ _ | exact loadM_local _ _ _ _
  case store ty x y =>
    cases ob.dst
    · cases A <;> first | exact dstoreM_local _ _ _ _ _ _ _ | exact dcloseM_local _ _ _ _ _ _ _ | exact storeM_local _ _ _ _ _
    · exact .no
  case makeMap ty r => cases r <;> exact Local.lift _
  case lookup ty x ix ok => cases ok <;> first | exact lookM_local _ _ _ _ | exact Local.lift _
  case mapUpdate ty x ix y =>
    cases ob.dst
    · exact mputM_local _ _ _ _ _
    · exact .no
  case call c =>
    obtain ⟨callee, args, tys⟩ := c
    simp only
    split
    · refine .ite ?_ .no
      cases A <;> first | exact dappM_local _ _ _ _ _ | exact appendM_local _ _ _ _ _
    · exact copyM_local _ _ _ _
    · cases evalV t _ <;> first | exact callM_local _ _ _ _ _ | exact Local.no
    · exact .lift _

theorem stepOp_local (cx : Cx) (grp : Nat) (ob : Oper) (t : List V) (A : Tell) : Local (stepOp cx grp ob t A) := .bind (opM_local _ _ _ _ _) fun o => .lift _

end Go.Proofs.Ythegkbaijmkhfaa
