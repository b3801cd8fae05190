/- Functions of the program, and that their calls come to this. -/
import Derived.Test.YthefcgmhjonopaaTy
set_option linter.unusedVariables false
set_option linter.unusedSimpArgs false
namespace Go.Proofs.Ythefcgmhjonopaa
open Go

/-! ### spec_l15Open -/
noncomputable def spec_l15Open_c : Code := bodyOf Try.f9
noncomputable def spec_l15Open_X : Sig := { f := 9, fn := Try.f9, rms := [.ptr [some 1, none] []], oms := [none] }
noncomputable def spec_l15Open_R (r : Tl15Rd) : V := .optr 65 (el15Rd r)
noncomputable def spec_l15Open_O (r : Tl15Rd) : List (Option V) := [none]
noncomputable def spec_l15Open_k1 : List Item := posI 2000 3 [true] [.code spec_l15Open_c]
noncomputable def spec_l15Open_S1 (code1 : List Int) : St := ⟨(vsl 1 eU8 code1 :: (bs 10 [])), [some []]⟩
noncomputable def spec_l15Open_j1 (code1 : List Int) : Option Tl15Rd :=
  some (Tl15Rd.mk code1 0)
theorem spec_l15Open_j1_ok (r : Tl15Rd) (code1 : List Int) (h : spec_l15Open_j1 code1 = some r) : Fin cx spec_l15Open_X (spec_l15Open_R r) (spec_l15Open_O r) spec_l15Open_k1 (spec_l15Open_S1 code1) :=
  (someD h fun e => (Fin.fin (cx := cx) (X := spec_l15Open_X) (res := spec_l15Open_R (Tl15Rd.mk code1 0)) (outs := spec_l15Open_O (Tl15Rd.mk code1 0)) Try.func9 [[]] [] .nil (by kernel_rfl)).is (congrArg spec_l15Open_R e) (congrArg spec_l15Open_O e))
noncomputable def spec_l15Open (code : List Int) : Option Tl15Rd :=
  (((bif decide ((code.length : Int) > 2000) then
 (need ((0 : Int) ≤ 2000 ∧ 2000 ≤ (code.length : Int))
 (some (Exc.brk ((code.drop 0).take ((2000 : Int).toNat - 0)))))
 else
 some (Exc.brk code)) : Option (Exc Tl15Rd (List Int))).bind fun x => x.go some fun j => spec_l15Open_j1 j)
theorem spec_l15Open_fin (code : List Int) (r : Tl15Rd) (h : spec_l15Open code = some r) : Fin cx spec_l15Open_X (spec_l15Open_R r) (spec_l15Open_O r) [.code spec_l15Open_c] (startS spec_l15Open_X [vsl 1 eU8 code]) :=
  (joinD (I := fun j : List Int => Fin cx spec_l15Open_X (spec_l15Open_R r) (spec_l15Open_O r) spec_l15Open_k1 (spec_l15Open_S1 j)) h (fun j h => spec_l15Open_j1_ok r j h) (fun x1 h hc1 =>
  (condD h (fun e1 h =>
 (needD h fun e2 h =>
 (jbrkD h hc1 fun hI => (Fin.seg [[], [(2, { d := some true })], [(1, { v := some (vsl 1 eU8 ((code.drop 0).take ((2000 : Int).toNat - 0))) })]] [] [0] [] [decide ((code.length : Int) > 2000) = true, V.sl 1 ((2000 : Int).toNat - 0) (((code.map eU8).drop 0).take ((2000 : Int).toNat - 0)) = vsl 1 eU8 ((code.drop 0).take ((2000 : Int).toNat - 0)), (0 : Int) ≤ 2000, 2000 ≤ ((code.length : Nat) : Int)] (.cons e1 (.cons (sl_h e2) (.cons e2.1 (.cons e2.2 .nil)))) hI (by kernel_rfl))))) (fun e1 h =>
 (jbrkD h hc1 fun hI => (Fin.seg [[], [(2, { d := some false })]] [] [0] [] [decide ((code.length : Int) > 2000) = false] (.cons e1 .nil) hI (by kernel_rfl)))))))
theorem spec_l15Open_ok (code : List Int) (r : Tl15Rd) (h : spec_l15Open code = some r) : ACalls cx.P 9 [vsl 1 eU8 code] (spec_l15Open_R r) (spec_l15Open_O r) :=
  ACalls.of (cx := cx) (X := spec_l15Open_X) (c := spec_l15Open_c) Try.func9 (by kernel_rfl) (by kernel_rfl) (by kernel_rfl) (spec_l15Open_fin code r h)

/-! ### spec_l15Rd_pick -/
noncomputable def spec_l15Rd_pick_c : Code := bodyOf Try.f18
noncomputable def spec_l15Rd_pick_X : Sig := { f := 18, fn := Try.f18, rms := [.val [] []], oms := [some (0, .ptr [some 1, none] []), none] }
noncomputable def spec_l15Rd_pick_R (r : Int × Tl15Rd) : V := vi r.1
noncomputable def spec_l15Rd_pick_O (r : Int × Tl15Rd) : List (Option V) := [some (.optr 65 (el15Rd r.2)), none]
noncomputable def spec_l15Rd_pick (r_ : Tl15Rd) (n : Int) : Option (Int × Tl15Rd) :=
  (bif decide (n < 1) then
 some (0, (Tl15Rd.mk r_.b (w64 (r_.p + 1))))
 else
 (bif ((r_.b.length : Int) == 0) then
 some (0, (Tl15Rd.mk r_.b (w64 (r_.p + 1))))
 else
 (bif decide ((w64 ((w64 (r_.p + 1)) - 1)) < (r_.b.length : Int)) then
 ((idx r_.b (w64 ((w64 (r_.p + 1)) - 1))).bind fun y =>
 (need (n ≠ 0)
 (some (Int.tmod (w64 y) n, (Tl15Rd.mk r_.b (w64 (r_.p + 1)))))))
 else
 (need ((r_.b.length : Int) ≠ 0)
 (((idx r_.b (Int.tmod (w64 ((w64 (r_.p + 1)) - 1)) (r_.b.length : Int))).bind fun y1 =>
 (need ((r_.b.length : Int) ≠ 0)
 (((idx r_.b (Int.tmod (w64 ((w64 ((w64 ((w64 (r_.p + 1)) - 1)) * 7)) + 3)) (r_.b.length : Int))).bind fun y2 =>
 (need ((r_.b.length : Int) ≠ 0)
 ((need (n ≠ 0)
 (some (Int.tmod (xorI .i64 (w64 ((w64 ((w64 ((w64 ((w64 y1) * 131)) + (w64 ((w64 y2) * 1117)))) + (w64 ((w64 ((w64 (r_.p + 1)) - 1)) * 29)))) + (w64 ((w64 (Int.tdiv (w64 ((w64 (r_.p + 1)) - 1)) (r_.b.length : Int))) * 53)))) (w64 (Int.tdiv (w64 ((w64 ((w64 ((w64 ((w64 y1) * 131)) + (w64 ((w64 y2) * 1117)))) + (w64 ((w64 ((w64 (r_.p + 1)) - 1)) * 29)))) + (w64 ((w64 (Int.tdiv (w64 ((w64 (r_.p + 1)) - 1)) (r_.b.length : Int))) * 53)))) 64))) n, (Tl15Rd.mk r_.b (w64 (r_.p + 1)))))))))))))))))
theorem spec_l15Rd_pick_fin (r_ : Tl15Rd) (n : Int) (r : Int × Tl15Rd) (h : spec_l15Rd_pick r_ n = some r) : Fin cx spec_l15Rd_pick_X (spec_l15Rd_pick_R r) (spec_l15Rd_pick_O r) [.code spec_l15Rd_pick_c] (startS spec_l15Rd_pick_X [.optr 65 (el15Rd r_), vi n]) :=
  (condD h (fun e1 h =>
 (someD h fun e => (Fin.fin (cx := cx) (X := spec_l15Rd_pick_X) (res := spec_l15Rd_pick_R (0, (Tl15Rd.mk r_.b (w64 (r_.p + 1))))) (outs := spec_l15Rd_pick_O (0, (Tl15Rd.mk r_.b (w64 (r_.p + 1))))) Try.func18 [[], [], [(2, { d := some true })], []] [decide (n < 1) = true] (.cons e1 .nil) (by kernel_rfl)).is (congrArg spec_l15Rd_pick_R e) (congrArg spec_l15Rd_pick_O e))) (fun e1 h =>
 (condD h (fun e2 h =>
 (someD h fun e => (Fin.fin (cx := cx) (X := spec_l15Rd_pick_X) (res := spec_l15Rd_pick_R (0, (Tl15Rd.mk r_.b (w64 (r_.p + 1))))) (outs := spec_l15Rd_pick_O (0, (Tl15Rd.mk r_.b (w64 (r_.p + 1))))) Try.func18 [[], [], [(2, { d := some false }), (9, { d := some true })], []] [decide (n < 1) = false, ((r_.b.length : Int) == 0) = true] (.cons e1 (.cons e2 .nil)) (by kernel_rfl)).is (congrArg spec_l15Rd_pick_R e) (congrArg spec_l15Rd_pick_O e))) (fun e2 h =>
 (condD h (fun e3 h =>
 (bindD h fun y hy h =>
 (needD h fun e4 h =>
 (someD h fun e => (Fin.fin (cx := cx) (X := spec_l15Rd_pick_X) (res := spec_l15Rd_pick_R (Int.tmod (w64 y) n, (Tl15Rd.mk r_.b (w64 (r_.p + 1))))) (outs := spec_l15Rd_pick_O (Int.tmod (w64 y) n, (Tl15Rd.mk r_.b (w64 (r_.p + 1))))) Try.func18 [[], [], [(2, { d := some false }), (9, { d := some false })], [], [(6, { d := some true })], [(5, { a := .row (eU8 y) })]] [decide (n < 1) = false, ((r_.b.length : Int) == 0) = false, decide ((w64 ((w64 (r_.p + 1)) - 1)) < (r_.b.length : Int)) = true, (0 : Int) ≤ (w64 ((w64 (r_.p + 1)) - 1)), (w64 ((w64 (r_.p + 1)) - 1)) < ((r_.b.length : Nat) : Int), (r_.b.map eU8)[(w64 ((w64 (r_.p + 1)) - 1)).toNat]? = some (eU8 y), n ≠ (0 : Int)] (.cons e1 (.cons e2 (.cons e3 (.cons (idx0 hy) (.cons (idx1 hy) (.cons (map_idx hy) (.cons e4 .nil))))))) (by kernel_rfl)).is (congrArg spec_l15Rd_pick_R e) (congrArg spec_l15Rd_pick_O e))))) (fun e3 h =>
 (needD h fun e5 h =>
 (bindD h fun y1 hy1 h =>
 (needD h fun e6 h =>
 (bindD h fun y2 hy2 h =>
 (needD h fun e7 h =>
 (needD h fun e8 h =>
 (someD h fun e => (Fin.fin (cx := cx) (X := spec_l15Rd_pick_X) (res := spec_l15Rd_pick_R (Int.tmod (xorI .i64 (w64 ((w64 ((w64 ((w64 ((w64 y1) * 131)) + (w64 ((w64 y2) * 1117)))) + (w64 ((w64 ((w64 (r_.p + 1)) - 1)) * 29)))) + (w64 ((w64 (Int.tdiv (w64 ((w64 (r_.p + 1)) - 1)) (r_.b.length : Int))) * 53)))) (w64 (Int.tdiv (w64 ((w64 ((w64 ((w64 ((w64 y1) * 131)) + (w64 ((w64 y2) * 1117)))) + (w64 ((w64 ((w64 (r_.p + 1)) - 1)) * 29)))) + (w64 ((w64 (Int.tdiv (w64 ((w64 (r_.p + 1)) - 1)) (r_.b.length : Int))) * 53)))) 64))) n, (Tl15Rd.mk r_.b (w64 (r_.p + 1))))) (outs := spec_l15Rd_pick_O (Int.tmod (xorI .i64 (w64 ((w64 ((w64 ((w64 ((w64 y1) * 131)) + (w64 ((w64 y2) * 1117)))) + (w64 ((w64 ((w64 (r_.p + 1)) - 1)) * 29)))) + (w64 ((w64 (Int.tdiv (w64 ((w64 (r_.p + 1)) - 1)) (r_.b.length : Int))) * 53)))) (w64 (Int.tdiv (w64 ((w64 ((w64 ((w64 ((w64 y1) * 131)) + (w64 ((w64 y2) * 1117)))) + (w64 ((w64 ((w64 (r_.p + 1)) - 1)) * 29)))) + (w64 ((w64 (Int.tdiv (w64 ((w64 (r_.p + 1)) - 1)) (r_.b.length : Int))) * 53)))) 64))) n, (Tl15Rd.mk r_.b (w64 (r_.p + 1))))) Try.func18 [[], [], [(2, { d := some false }), (9, { d := some false })], [], [(6, { d := some false })], [(11, { a := .row (eU8 y1) }), (28, { a := .row (eU8 y2) })], [], []] [decide (n < 1) = false, ((r_.b.length : Int) == 0) = false, decide ((w64 ((w64 (r_.p + 1)) - 1)) < (r_.b.length : Int)) = false, (r_.b.length : Int) ≠ (0 : Int), (0 : Int) ≤ (Int.tmod (w64 ((w64 (r_.p + 1)) - 1)) (r_.b.length : Int)), (Int.tmod (w64 ((w64 (r_.p + 1)) - 1)) (r_.b.length : Int)) < ((r_.b.length : Nat) : Int), (r_.b.map eU8)[(Int.tmod (w64 ((w64 (r_.p + 1)) - 1)) (r_.b.length : Int)).toNat]? = some (eU8 y1), (r_.b.length : Int) ≠ (0 : Int), (0 : Int) ≤ (Int.tmod (w64 ((w64 ((w64 ((w64 (r_.p + 1)) - 1)) * 7)) + 3)) (r_.b.length : Int)), (Int.tmod (w64 ((w64 ((w64 ((w64 (r_.p + 1)) - 1)) * 7)) + 3)) (r_.b.length : Int)) < ((r_.b.length : Nat) : Int), (r_.b.map eU8)[(Int.tmod (w64 ((w64 ((w64 ((w64 (r_.p + 1)) - 1)) * 7)) + 3)) (r_.b.length : Int)).toNat]? = some (eU8 y2), (r_.b.length : Int) ≠ (0 : Int), 64 ≠ (0 : Int), n ≠ (0 : Int)] (.cons e1 (.cons e2 (.cons e3 (.cons e5 (.cons (idx0 hy1) (.cons (idx1 hy1) (.cons (map_idx hy1) (.cons e6 (.cons (idx0 hy2) (.cons (idx1 hy2) (.cons (map_idx hy2) (.cons e7 (.cons (by decide) (.cons e8 .nil)))))))))))))) (by kernel_rfl)).is (congrArg spec_l15Rd_pick_R e) (congrArg spec_l15Rd_pick_O e))))))))))))))
theorem spec_l15Rd_pick_ok (r_ : Tl15Rd) (n : Int) (r : Int × Tl15Rd) (h : spec_l15Rd_pick r_ n = some r) : ACalls cx.P 18 [.optr 65 (el15Rd r_), vi n] (spec_l15Rd_pick_R r) (spec_l15Rd_pick_O r) :=
  ACalls.of (cx := cx) (X := spec_l15Rd_pick_X) (c := spec_l15Rd_pick_c) Try.func18 (by kernel_rfl) (by kernel_rfl) (by kernel_rfl) (spec_l15Rd_pick_fin r_ n r h)

/-! ### spec_BoxOpen -/
noncomputable def spec_BoxOpen_c : Code := bodyOf Try.f34
noncomputable def spec_BoxOpen_X : Sig := { f := 34, fn := Try.f34, rms := [.val [some 2] [some 92]], oms := [] }
noncomputable def spec_BoxOpen_R (r : List TBox) : V := vosl 92 2 eBox r
noncomputable def spec_BoxOpen_O (r : List TBox) : List (Option V) := []
noncomputable def spec_BoxOpen : Option (List TBox) :=
  (need (0 ≤ (4 : Int) ∧ (4 : Int) * 16 ≤ 140737488355328)
 (some (List.replicate (4 : Int).toNat (TBox.mk 0 0))))
theorem spec_BoxOpen_fin (r : List TBox) (h : spec_BoxOpen  = some r) : Fin cx spec_BoxOpen_X (spec_BoxOpen_R r) (spec_BoxOpen_O r) [.code spec_BoxOpen_c] (startS spec_BoxOpen_X []) :=
  (needD h fun e1 h =>
 (someD h fun e => (Fin.fin (cx := cx) (X := spec_BoxOpen_X) (res := spec_BoxOpen_R (List.replicate (4 : Int).toNat (TBox.mk 0 0))) (outs := spec_BoxOpen_O (List.replicate (4 : Int).toNat (TBox.mk 0 0))) Try.func34 [[], [(0, { e := some (erow 92 2 eBox (List.replicate (4 : Int).toNat (TBox.mk 0 0))), v := some (.own 2 0 2 0 (List.replicate (4 : Int).toNat (TBox.mk 0 0)).length) })]] [V.own 2 0 2 0 (4 : Int).toNat = .own 2 0 2 0 (List.replicate (4 : Int).toNat (TBox.mk 0 0)).length, Ent.row 92 2 (4 : Int).toNat (List.replicate (4 : Int).toNat [vi 0, vi 0]) = erow 92 2 eBox (List.replicate (4 : Int).toNat (TBox.mk 0 0)), (0 : Int) ≤ (4 : Int), (4 : Int) = (4 : Int), (4 : Int) * ((16 : Nat) : Int) ≤ 140737488355328 ∧ 0 < 16, ([vi 0, vi 0] : List V).length = 2, (List.replicate (4 : Int).toNat (TBox.mk 0 0)).length = (List.replicate (4 : Int).toNat (TBox.mk 0 0)).length] (.cons (by simp) (.cons (row_rep rfl) (.cons e1.1 (.cons rfl (.cons ⟨e1.2, by decide⟩ (.cons rfl (.cons rfl .nil))))))) (by kernel_rfl)).is (congrArg spec_BoxOpen_R e) (congrArg spec_BoxOpen_O e)))
theorem spec_BoxOpen_ok (r : List TBox) (h : spec_BoxOpen  = some r) : ACalls cx.P 34 [] (spec_BoxOpen_R r) (spec_BoxOpen_O r) :=
  ACalls.of (cx := cx) (X := spec_BoxOpen_X) (c := spec_BoxOpen_c) Try.func34 (by kernel_rfl) (by kernel_rfl) (by kernel_rfl) (spec_BoxOpen_fin r h)

/-! ### spec_CertOpen -/
noncomputable def spec_CertOpen_c : Code := bodyOf Try.f20
noncomputable def spec_CertOpen_X : Sig := { f := 20, fn := Try.f20, rms := [.val [none, some 2, some 4] [none, some 92, none]], oms := [] }
noncomputable def spec_CertOpen_R (r : TState) : V := .agg [vi r.At, vosl 92 2 eBox r.Boxes, vsl 4 eDone r.Dones]
noncomputable def spec_CertOpen_O (r : TState) : List (Option V) := []
noncomputable def spec_CertOpen : Option TState :=
  ((spec_BoxOpen).bind fun boxOpen =>
 some (TState.mk 0 boxOpen []))
theorem spec_CertOpen_fin (r : TState) (h : spec_CertOpen  = some r) : Fin cx spec_CertOpen_X (spec_CertOpen_R r) (spec_CertOpen_O r) [.code spec_CertOpen_c] (startS spec_CertOpen_X []) :=
  (bindD h fun boxOpen hboxOpen h =>
 (someD h fun e => (Fin.fin (cx := cx) (X := spec_CertOpen_X) (res := spec_CertOpen_R (TState.mk 0 boxOpen [])) (outs := spec_CertOpen_O (TState.mk 0 boxOpen [])) Try.func20 [[], [(0, { a := .call [] false (spec_BoxOpen_R boxOpen) (spec_BoxOpen_O boxOpen) })]] [ACalls cx.P 34 [] (spec_BoxOpen_R boxOpen) (spec_BoxOpen_O boxOpen), boxOpen.length = boxOpen.length] (.cons (spec_BoxOpen_ok boxOpen hboxOpen) (.cons rfl .nil)) (by kernel_rfl)).is (congrArg spec_CertOpen_R e) (congrArg spec_CertOpen_O e)))
theorem spec_CertOpen_ok (r : TState) (h : spec_CertOpen  = some r) : ACalls cx.P 20 [] (spec_CertOpen_R r) (spec_CertOpen_O r) :=
  ACalls.of (cx := cx) (X := spec_CertOpen_X) (c := spec_CertOpen_c) Try.func20 (by kernel_rfl) (by kernel_rfl) (by kernel_rfl) (spec_CertOpen_fin r h)

/-! ### spec_l15Rd_num -/
noncomputable def spec_l15Rd_num_c : Code := bodyOf Try.f32
noncomputable def spec_l15Rd_num_X : Sig := { f := 32, fn := Try.f32, rms := [.val [] []], oms := [some (0, .ptr [some 1, none] []), none] }
noncomputable def spec_l15Rd_num_R (r : Int × Tl15Rd) : V := vi r.1
noncomputable def spec_l15Rd_num_O (r : Int × Tl15Rd) : List (Option V) := [some (.optr 65 (el15Rd r.2)), none]
noncomputable def spec_l15Rd_num (r_ : Tl15Rd) (list : List Int) : Option (Int × Tl15Rd) :=
  ((spec_l15Rd_pick r_ (list.length : Int)).bind fun pick =>
 ((idx list pick.1).bind fun y =>
 some (y, pick.2)))
theorem spec_l15Rd_num_fin (r_ : Tl15Rd) (list : List Int) (r : Int × Tl15Rd) (h : spec_l15Rd_num r_ list = some r) : Fin cx spec_l15Rd_num_X (spec_l15Rd_num_R r) (spec_l15Rd_num_O r) [.code spec_l15Rd_num_c] (startS spec_l15Rd_num_X [.optr 65 (el15Rd r_), vsl 1 eI list]) :=
  (bindD h fun pick hpick h =>
 (bindD h fun y hy h =>
 (someD h fun e => (Fin.fin (cx := cx) (X := spec_l15Rd_num_X) (res := spec_l15Rd_num_R (y, pick.2)) (outs := spec_l15Rd_num_O (y, pick.2)) Try.func32 [[], [(4, { a := .call [.ptr [some 1, none] [], .val [] []] false (spec_l15Rd_pick_R pick) (spec_l15Rd_pick_O pick) }), (5, { a := .row (eI y) })]] [ACalls cx.P 18 [.optr 65 (el15Rd r_), vi (list.length : Int)] (spec_l15Rd_pick_R pick) (spec_l15Rd_pick_O pick), (0 : Int) ≤ pick.1, pick.1 < ((list.length : Nat) : Int), (list.map eI)[pick.1.toNat]? = some (eI y)] (.cons (spec_l15Rd_pick_ok r_ (list.length : Int) pick hpick) (.cons (idx0 hy) (.cons (idx1 hy) (.cons (map_idx hy) .nil)))) (by kernel_rfl)).is (congrArg spec_l15Rd_num_R e) (congrArg spec_l15Rd_num_O e))))
theorem spec_l15Rd_num_ok (r_ : Tl15Rd) (list : List Int) (r : Int × Tl15Rd) (h : spec_l15Rd_num r_ list = some r) : ACalls cx.P 32 [.optr 65 (el15Rd r_), vsl 1 eI list] (spec_l15Rd_num_R r) (spec_l15Rd_num_O r) :=
  ACalls.of (cx := cx) (X := spec_l15Rd_num_X) (c := spec_l15Rd_num_c) Try.func32 (by kernel_rfl) (by kernel_rfl) (by kernel_rfl) (spec_l15Rd_num_fin r_ list r h)

/-! ### spec_l2Any -/
noncomputable def spec_l2Any_c : Code := bodyOf Try.f38
noncomputable def spec_l2Any_X : Sig := { f := 38, fn := Try.f38, rms := [.val [] []], oms := [some (0, .ptr [some 1, none] [])] }
noncomputable def spec_l2Any_R (r : TIns × Tl15Rd) : V := .agg (eIns r.1)
noncomputable def spec_l2Any_O (r : TIns × Tl15Rd) : List (Option V) := [some (.optr 65 (el15Rd r.2))]
noncomputable def spec_l2Any_k1 : List Item := posI 2000 6 [true] [.code spec_l2Any_c]
noncomputable def spec_l2Any_S1 (w : Tl15Rd) (i : TIns) : St := ⟨(bs 2 (.ptr 1 0 0 :: (.ptr 2 0 0 :: (bs 36 [])))), [some [.var 65 [vsl 1 eU8 w.b, vi w.p]], some [.var 76 [vi 0, vi 0, vi 0, vi 0]], some [.var 76 [vi i.Kind, vi i.A, vi i.B, vi i.N]]]⟩
noncomputable def spec_l2Any_j1 (w : Tl15Rd) (i : TIns) : Option (TIns × Tl15Rd) :=
  some (i, w)
theorem spec_l2Any_j1_ok (r : TIns × Tl15Rd) (w : Tl15Rd) (i : TIns) (h : spec_l2Any_j1 w i = some r) : Fin cx spec_l2Any_X (spec_l2Any_R r) (spec_l2Any_O r) spec_l2Any_k1 (spec_l2Any_S1 w i) :=
  (someD h fun e => (Fin.fin (cx := cx) (X := spec_l2Any_X) (res := spec_l2Any_R (i, w)) (outs := spec_l2Any_O (i, w)) Try.func38 [[]] [] .nil (by kernel_rfl)).is (congrArg spec_l2Any_R e) (congrArg spec_l2Any_O e))
noncomputable def spec_l2Any (r_ : Tl15Rd) : Option (TIns × Tl15Rd) :=
  ((spec_l15Rd_num r_ [1, 1, 2, 2, 3, 4, 4, 5, 6, 7]).bind fun num =>
 ((spec_l15Rd_pick num.2 3).bind fun pick =>
 ((spec_l15Rd_pick pick.2 3).bind fun pick1 =>
 (((bif (num.1 == 3) then
 ((spec_l15Rd_num pick1.2 [0, 1, 5, (-2), 100, 1000000]).bind fun num1 =>
 some (Exc.brk (num1.2, (TIns.mk num.1 pick.1 0 num1.1))))
 else
 (bif (num.1 == 6) then
 ((spec_l15Rd_pick pick1.2 3).bind fun pick2 =>
 some (Exc.brk (pick2.2, (TIns.mk num.1 pick.1 pick1.1 (w64 (1 + pick2.1))))))
 else
 (bif (num.1 == 7) then
 ((spec_l15Rd_pick pick1.2 3).bind fun pick3 =>
 (bif decide (pick3.1 > 0) then
 ((spec_l15Rd_pick pick3.2 4).bind fun pick4 =>
 ((spec_l15Rd_pick pick4.2 4).bind fun pick5 =>
 some (Exc.ret ((TIns.mk 4 pick4.1 pick5.1 0), pick5.2))))
 else
 some (Exc.brk (pick3.2, (TIns.mk num.1 0 0 0)))))
 else
 some (Exc.brk (pick1.2, (TIns.mk num.1 pick.1 pick1.1 0)))))) : Option (Exc (TIns × Tl15Rd) (Tl15Rd × TIns))).bind fun x => x.go some fun j => spec_l2Any_j1 j.1 j.2))))
theorem spec_l2Any_fin (r_ : Tl15Rd) (r : TIns × Tl15Rd) (h : spec_l2Any r_ = some r) : Fin cx spec_l2Any_X (spec_l2Any_R r) (spec_l2Any_O r) [.code spec_l2Any_c] (startS spec_l2Any_X [.optr 65 (el15Rd r_)]) :=
  (bindD h fun num hnum h =>
 (bindD h fun pick hpick h =>
 (bindD h fun pick1 hpick1 h =>
 (joinD (I := fun j : Tl15Rd × TIns => Fin cx spec_l2Any_X (spec_l2Any_R r) (spec_l2Any_O r) spec_l2Any_k1 (spec_l2Any_S1 j.1 j.2)) h (fun j h => spec_l2Any_j1_ok r j.1 j.2 h) (fun x1 h hc1 =>
  (condD h (fun e1 h =>
 (bindD h fun num1 hnum1 h =>
 (jbrkD h hc1 fun hI => (Fin.seg [[], [(1, { a := .ck [] }), (2, { a := .call [.ptr [some 1, none] [], .val [some 1] []] false (spec_l15Rd_num_R num) (spec_l15Rd_num_O num) }), (4, { a := .call [.ptr [some 1, none] [], .val [] []] false (spec_l15Rd_pick_R pick) (spec_l15Rd_pick_O pick) }), (6, { a := .call [.ptr [some 1, none] [], .val [] []] false (spec_l15Rd_pick_R pick1) (spec_l15Rd_pick_O pick1) })], [], [(1, { d := some true })], [], [(1, { a := .ck [] }), (2, { a := .call [.ptr [some 1, none] [], .val [some 1] []] false (spec_l15Rd_num_R num1) (spec_l15Rd_num_O num1) })]] [] [2, 3] [(1, 0), (10, 0)] [ACalls cx.P 32 [.optr 65 (el15Rd r_), vsl 1 eI [1, 1, 2, 2, 3, 4, 4, 5, 6, 7]] (spec_l15Rd_num_R num) (spec_l15Rd_num_O num), 10 = [1, 1, 2, 2, 3, 4, 4, 5, 6, 7].length, ACalls cx.P 18 [.optr 65 (el15Rd num.2), vi 3] (spec_l15Rd_pick_R pick) (spec_l15Rd_pick_O pick), ACalls cx.P 18 [.optr 65 (el15Rd pick.2), vi 3] (spec_l15Rd_pick_R pick1) (spec_l15Rd_pick_O pick1), (num.1 == 3) = true, ACalls cx.P 32 [.optr 65 (el15Rd pick1.2), vsl 1 eI [0, 1, 5, (-2), 100, 1000000]] (spec_l15Rd_num_R num1) (spec_l15Rd_num_O num1), 6 = [0, 1, 5, (-2), 100, 1000000].length] (.cons (spec_l15Rd_num_ok r_ [1, 1, 2, 2, 3, 4, 4, 5, 6, 7] num hnum) (.cons (by simp) (.cons (spec_l15Rd_pick_ok num.2 3 pick hpick) (.cons (spec_l15Rd_pick_ok pick.2 3 pick1 hpick1) (.cons e1 (.cons (spec_l15Rd_num_ok pick1.2 [0, 1, 5, (-2), 100, 1000000] num1 hnum1) (.cons (by simp) .nil))))))) hI (by kernel_rfl))))) (fun e1 h =>
 (condD h (fun e2 h =>
 (bindD h fun pick2 hpick2 h =>
 (jbrkD h hc1 fun hI => (Fin.seg [[], [(1, { a := .ck [] }), (2, { a := .call [.ptr [some 1, none] [], .val [some 1] []] false (spec_l15Rd_num_R num) (spec_l15Rd_num_O num) }), (4, { a := .call [.ptr [some 1, none] [], .val [] []] false (spec_l15Rd_pick_R pick) (spec_l15Rd_pick_O pick) }), (6, { a := .call [.ptr [some 1, none] [], .val [] []] false (spec_l15Rd_pick_R pick1) (spec_l15Rd_pick_O pick1) })], [], [(1, { d := some false })], [(1, { d := some true })], [(1, { a := .call [.ptr [some 1, none] [], .val [] []] false (spec_l15Rd_pick_R pick2) (spec_l15Rd_pick_O pick2) })]] [] [2, 3] [(1, 0), (10, 0)] [ACalls cx.P 32 [.optr 65 (el15Rd r_), vsl 1 eI [1, 1, 2, 2, 3, 4, 4, 5, 6, 7]] (spec_l15Rd_num_R num) (spec_l15Rd_num_O num), 10 = [1, 1, 2, 2, 3, 4, 4, 5, 6, 7].length, ACalls cx.P 18 [.optr 65 (el15Rd num.2), vi 3] (spec_l15Rd_pick_R pick) (spec_l15Rd_pick_O pick), ACalls cx.P 18 [.optr 65 (el15Rd pick.2), vi 3] (spec_l15Rd_pick_R pick1) (spec_l15Rd_pick_O pick1), (num.1 == 3) = false, (num.1 == 6) = true, ACalls cx.P 18 [.optr 65 (el15Rd pick1.2), vi 3] (spec_l15Rd_pick_R pick2) (spec_l15Rd_pick_O pick2)] (.cons (spec_l15Rd_num_ok r_ [1, 1, 2, 2, 3, 4, 4, 5, 6, 7] num hnum) (.cons (by simp) (.cons (spec_l15Rd_pick_ok num.2 3 pick hpick) (.cons (spec_l15Rd_pick_ok pick.2 3 pick1 hpick1) (.cons e1 (.cons e2 (.cons (spec_l15Rd_pick_ok pick1.2 3 pick2 hpick2) .nil))))))) hI (by kernel_rfl))))) (fun e2 h =>
 (condD h (fun e3 h =>
 (bindD h fun pick3 hpick3 h =>
 (condD h (fun e4 h =>
 (bindD h fun pick4 hpick4 h =>
 (bindD h fun pick5 hpick5 h =>
 (jretD h hc1 fun h => (someD h fun e => (Fin.fin (cx := cx) (X := spec_l2Any_X) (res := spec_l2Any_R ((TIns.mk 4 pick4.1 pick5.1 0), pick5.2)) (outs := spec_l2Any_O ((TIns.mk 4 pick4.1 pick5.1 0), pick5.2)) Try.func38 [[], [(1, { a := .ck [] }), (2, { a := .call [.ptr [some 1, none] [], .val [some 1] []] false (spec_l15Rd_num_R num) (spec_l15Rd_num_O num) }), (4, { a := .call [.ptr [some 1, none] [], .val [] []] false (spec_l15Rd_pick_R pick) (spec_l15Rd_pick_O pick) }), (6, { a := .call [.ptr [some 1, none] [], .val [] []] false (spec_l15Rd_pick_R pick1) (spec_l15Rd_pick_O pick1) })], [], [(1, { d := some false })], [(1, { d := some false })], [(1, { d := some true })], [(1, { a := .call [.ptr [some 1, none] [], .val [] []] false (spec_l15Rd_pick_R pick3) (spec_l15Rd_pick_O pick3) }), (2, { d := some true })], [(1, { a := .call [.ptr [some 1, none] [], .val [] []] false (spec_l15Rd_pick_R pick4) (spec_l15Rd_pick_O pick4) }), (3, { a := .call [.ptr [some 1, none] [], .val [] []] false (spec_l15Rd_pick_R pick5) (spec_l15Rd_pick_O pick5) })]] [ACalls cx.P 32 [.optr 65 (el15Rd r_), vsl 1 eI [1, 1, 2, 2, 3, 4, 4, 5, 6, 7]] (spec_l15Rd_num_R num) (spec_l15Rd_num_O num), 10 = [1, 1, 2, 2, 3, 4, 4, 5, 6, 7].length, ACalls cx.P 18 [.optr 65 (el15Rd num.2), vi 3] (spec_l15Rd_pick_R pick) (spec_l15Rd_pick_O pick), ACalls cx.P 18 [.optr 65 (el15Rd pick.2), vi 3] (spec_l15Rd_pick_R pick1) (spec_l15Rd_pick_O pick1), (num.1 == 3) = false, (num.1 == 6) = false, (num.1 == 7) = true, ACalls cx.P 18 [.optr 65 (el15Rd pick1.2), vi 3] (spec_l15Rd_pick_R pick3) (spec_l15Rd_pick_O pick3), decide (pick3.1 > 0) = true, ACalls cx.P 18 [.optr 65 (el15Rd pick3.2), vi 4] (spec_l15Rd_pick_R pick4) (spec_l15Rd_pick_O pick4), ACalls cx.P 18 [.optr 65 (el15Rd pick4.2), vi 4] (spec_l15Rd_pick_R pick5) (spec_l15Rd_pick_O pick5)] (.cons (spec_l15Rd_num_ok r_ [1, 1, 2, 2, 3, 4, 4, 5, 6, 7] num hnum) (.cons (by simp) (.cons (spec_l15Rd_pick_ok num.2 3 pick hpick) (.cons (spec_l15Rd_pick_ok pick.2 3 pick1 hpick1) (.cons e1 (.cons e2 (.cons e3 (.cons (spec_l15Rd_pick_ok pick1.2 3 pick3 hpick3) (.cons e4 (.cons (spec_l15Rd_pick_ok pick3.2 4 pick4 hpick4) (.cons (spec_l15Rd_pick_ok pick4.2 4 pick5 hpick5) .nil))))))))))) (by kernel_rfl)).is (congrArg spec_l2Any_R e) (congrArg spec_l2Any_O e)))))) (fun e4 h =>
 (jbrkD h hc1 fun hI => (Fin.seg [[], [(1, { a := .ck [] }), (2, { a := .call [.ptr [some 1, none] [], .val [some 1] []] false (spec_l15Rd_num_R num) (spec_l15Rd_num_O num) }), (4, { a := .call [.ptr [some 1, none] [], .val [] []] false (spec_l15Rd_pick_R pick) (spec_l15Rd_pick_O pick) }), (6, { a := .call [.ptr [some 1, none] [], .val [] []] false (spec_l15Rd_pick_R pick1) (spec_l15Rd_pick_O pick1) })], [], [(1, { d := some false })], [(1, { d := some false })], [(1, { d := some true })], [(1, { a := .call [.ptr [some 1, none] [], .val [] []] false (spec_l15Rd_pick_R pick3) (spec_l15Rd_pick_O pick3) }), (2, { d := some false })], [], []] [] [2, 3] [(1, 0), (10, 0)] [ACalls cx.P 32 [.optr 65 (el15Rd r_), vsl 1 eI [1, 1, 2, 2, 3, 4, 4, 5, 6, 7]] (spec_l15Rd_num_R num) (spec_l15Rd_num_O num), 10 = [1, 1, 2, 2, 3, 4, 4, 5, 6, 7].length, ACalls cx.P 18 [.optr 65 (el15Rd num.2), vi 3] (spec_l15Rd_pick_R pick) (spec_l15Rd_pick_O pick), ACalls cx.P 18 [.optr 65 (el15Rd pick.2), vi 3] (spec_l15Rd_pick_R pick1) (spec_l15Rd_pick_O pick1), (num.1 == 3) = false, (num.1 == 6) = false, (num.1 == 7) = true, ACalls cx.P 18 [.optr 65 (el15Rd pick1.2), vi 3] (spec_l15Rd_pick_R pick3) (spec_l15Rd_pick_O pick3), decide (pick3.1 > 0) = false] (.cons (spec_l15Rd_num_ok r_ [1, 1, 2, 2, 3, 4, 4, 5, 6, 7] num hnum) (.cons (by simp) (.cons (spec_l15Rd_pick_ok num.2 3 pick hpick) (.cons (spec_l15Rd_pick_ok pick.2 3 pick1 hpick1) (.cons e1 (.cons e2 (.cons e3 (.cons (spec_l15Rd_pick_ok pick1.2 3 pick3 hpick3) (.cons e4 .nil))))))))) hI (by kernel_rfl))))))) (fun e3 h =>
 (jbrkD h hc1 fun hI => (Fin.seg [[], [(1, { a := .ck [] }), (2, { a := .call [.ptr [some 1, none] [], .val [some 1] []] false (spec_l15Rd_num_R num) (spec_l15Rd_num_O num) }), (4, { a := .call [.ptr [some 1, none] [], .val [] []] false (spec_l15Rd_pick_R pick) (spec_l15Rd_pick_O pick) }), (6, { a := .call [.ptr [some 1, none] [], .val [] []] false (spec_l15Rd_pick_R pick1) (spec_l15Rd_pick_O pick1) })], [], [(1, { d := some false })], [(1, { d := some false })], [(1, { d := some false })]] [] [2, 3] [(1, 0), (10, 0)] [ACalls cx.P 32 [.optr 65 (el15Rd r_), vsl 1 eI [1, 1, 2, 2, 3, 4, 4, 5, 6, 7]] (spec_l15Rd_num_R num) (spec_l15Rd_num_O num), 10 = [1, 1, 2, 2, 3, 4, 4, 5, 6, 7].length, ACalls cx.P 18 [.optr 65 (el15Rd num.2), vi 3] (spec_l15Rd_pick_R pick) (spec_l15Rd_pick_O pick), ACalls cx.P 18 [.optr 65 (el15Rd pick.2), vi 3] (spec_l15Rd_pick_R pick1) (spec_l15Rd_pick_O pick1), (num.1 == 3) = false, (num.1 == 6) = false, (num.1 == 7) = false] (.cons (spec_l15Rd_num_ok r_ [1, 1, 2, 2, 3, 4, 4, 5, 6, 7] num hnum) (.cons (by simp) (.cons (spec_l15Rd_pick_ok num.2 3 pick hpick) (.cons (spec_l15Rd_pick_ok pick.2 3 pick1 hpick1) (.cons e1 (.cons e2 (.cons e3 .nil))))))) hI (by kernel_rfl))))))))))))))
theorem spec_l2Any_ok (r_ : Tl15Rd) (r : TIns × Tl15Rd) (h : spec_l2Any r_ = some r) : ACalls cx.P 38 [.optr 65 (el15Rd r_)] (spec_l2Any_R r) (spec_l2Any_O r) :=
  ACalls.of (cx := cx) (X := spec_l2Any_X) (c := spec_l2Any_c) Try.func38 (by kernel_rfl) (by kernel_rfl) (by kernel_rfl) (spec_l2Any_fin r_ r h)

/-! ### spec_l2Prog -/
noncomputable def spec_l2Prog_c : Code := bodyOf Try.f22
noncomputable def spec_l2Prog_X : Sig := { f := 22, fn := Try.f22, rms := [.val [some 4] []], oms := [some (0, .ptr [some 1, none] [])] }
noncomputable def spec_l2Prog_R (r : (List TIns) × Tl15Rd) : V := vsl 4 eIns r.1
noncomputable def spec_l2Prog_O (r : (List TIns) × Tl15Rd) : List (Option V) := [some (.optr 65 (el15Rd r.2))]
noncomputable def spec_l2Prog_k1 : List Item := posI 2000 5 [false, false] [.code spec_l2Prog_c]
noncomputable def spec_l2Prog_S1 (w : Tl15Rd) (out1 : List TIns) : St := ⟨(bs 5 (.own 1 0 4 0 out1.length :: (bs 31 []))), [some [.var 65 [vsl 1 eU8 w.b, vi w.p]], some [erow 76 4 eIns out1]]⟩
noncomputable def spec_l2Prog_k2 (w : Tl15Rd) (out1 : List TIns) : Option ((List TIns) × Tl15Rd) :=
  some (out1, w)
theorem spec_l2Prog_k2_ok (r : (List TIns) × Tl15Rd) (w : Tl15Rd) (out1 : List TIns) (h : spec_l2Prog_k2 w out1 = some r) : Fin cx spec_l2Prog_X (spec_l2Prog_R r) (spec_l2Prog_O r) spec_l2Prog_k1 (spec_l2Prog_S1 w out1) :=
  (someD h fun e => (Fin.fin (cx := cx) (X := spec_l2Prog_X) (res := spec_l2Prog_R (out1, w)) (outs := spec_l2Prog_O (out1, w)) Try.func22 [[]] [out1.length = out1.length] (.cons rfl .nil) (by kernel_rfl)).is (congrArg spec_l2Prog_R e) (congrArg spec_l2Prog_O e))
noncomputable def spec_l2Prog_k3 : List Item := posI 2000 4 [false] [.code spec_l2Prog_c]
noncomputable def spec_l2Prog_S2 (r_1 : Tl15Rd) (out : List TIns) (i : Int) : St := ⟨(.ptr 0 0 0 :: (bs 4 (.own 1 0 4 0 out.length :: (vi i :: (bs 30 []))))), [some [.var 65 [vsl 1 eU8 r_1.b, vi r_1.p]], some [erow 76 4 eIns out]]⟩
noncomputable def spec_l2Prog_b1 (r_1 : Tl15Rd) (out : List TIns) (i : Int) : Option (Stp ((List TIns) × Tl15Rd) (Tl15Rd × (List TIns) × Int) (Tl15Rd × List TIns)) :=
  (bif decide (i > 0) then
 ((spec_l2Any r_1).bind fun l2Any =>
 (need ((out.length + 1) * 32 ≤ 140737488355328)
 (some (Stp.nxt (l2Any.2, out ++ [l2Any.1], w64 (i - 1))))))
 else
 some (Stp.brk (r_1, out)))
theorem spec_l2Prog_b1_ok (res : V) (outs : List (Option V)) (x1 : Exc ((List TIns) × Tl15Rd) (Tl15Rd × List TIns)) (hb1 : ∀ s : Tl15Rd × List TIns, x1 = .brk s → Fin cx spec_l2Prog_X res outs spec_l2Prog_k1 (spec_l2Prog_S1 s.1 s.2)) (hr1 : ∀ v : (List TIns) × Tl15Rd, x1 = .ret v → (res = spec_l2Prog_R v ∧ outs = spec_l2Prog_O v)) (st1 : Stp ((List TIns) × Tl15Rd) (Tl15Rd × (List TIns) × Int) (Tl15Rd × List TIns)) (hc1 : Cont x1 (fun s : Tl15Rd × (List TIns) × Int => Fin cx spec_l2Prog_X res outs spec_l2Prog_k3 (spec_l2Prog_S2 s.1 s.2.1 s.2.2)) st1) (r_1 : Tl15Rd) (out : List TIns) (i : Int) (h : spec_l2Prog_b1 r_1 out i = some st1) : Fin cx spec_l2Prog_X res outs spec_l2Prog_k3 (spec_l2Prog_S2 r_1 out i) :=
  (condD h (fun e2 h =>
 (bindD h fun l2Any hl2Any h =>
 (needD h fun e3 h =>
 (nxtD h hc1 fun hI => (Fin.seg [[(1, { d := some true })], [(2, { a := .call [.ptr [some 1, none] []] false (spec_l2Any_R l2Any) (spec_l2Any_O l2Any) }), (3, { a := .ck [] }), (4, { v := some (.own 8 0 4 0 (out ++ [l2Any.1]).length), e := some (erow 76 4 eIns (out ++ [l2Any.1])) })], []] [] [0, 5, 6] [(8, 0)] [decide (i > 0) = true, ACalls cx.P 38 [.optr 65 (el15Rd r_1)] (spec_l2Any_R l2Any) (spec_l2Any_O l2Any), V.own 8 0 4 0 (out.length + 1) = .own 8 0 4 0 (out ++ [l2Any.1]).length, Ent.row 76 4 (out.length + 1) (out.map eIns ++ [eIns l2Any.1]) = erow 76 4 eIns (out ++ [l2Any.1]), out.length = out.length, (out.length + 1) * 32 ≤ 140737488355328, 1 = [l2Any.1].length] (.cons e2 (.cons (spec_l2Any_ok r_1 l2Any hl2Any) (.cons (by first | exact congrArg (V.own 8 0 4 0) List.length_append.symm | simp) (.cons (row_app rfl) (.cons rfl (.cons e3 (.cons (by rfl) .nil))))))) hI (by kernel_rfl)))))) (fun e2 h =>
 (brkD h hc1 fun e => (Fin.seg [[(1, { d := some false })]] [] [5] [(1, 0)] [decide (i > 0) = false] (.cons e2 .nil) (hb1 _ e) (by kernel_rfl)))))
theorem spec_l2Prog_b1_loop (res : V) (outs : List (Option V)) (x1 : Exc ((List TIns) × Tl15Rd) (Tl15Rd × List TIns)) (hb1 : ∀ s : Tl15Rd × List TIns, x1 = .brk s → Fin cx spec_l2Prog_X res outs spec_l2Prog_k1 (spec_l2Prog_S1 s.1 s.2)) (hr1 : ∀ v : (List TIns) × Tl15Rd, x1 = .ret v → (res = spec_l2Prog_R v ∧ outs = spec_l2Prog_O v)) (s : Tl15Rd × (List TIns) × Int) (h : loop (fun s : Tl15Rd × (List TIns) × Int => spec_l2Prog_b1 s.1 s.2.1 s.2.2) s = some x1) : Fin cx spec_l2Prog_X res outs spec_l2Prog_k3 (spec_l2Prog_S2 s.1 s.2.1 s.2.2) :=
  loopD (I := fun s : Tl15Rd × (List TIns) × Int => Fin cx spec_l2Prog_X res outs spec_l2Prog_k3 (spec_l2Prog_S2 s.1 s.2.1 s.2.2)) h fun s st h hc => spec_l2Prog_b1_ok res outs x1 hb1 hr1 st hc s.1 s.2.1 s.2.2 h
noncomputable def spec_l2Prog (r_ : Tl15Rd) : Option ((List TIns) × Tl15Rd) :=
  ((spec_l15Rd_pick r_ 3).bind fun pick =>
 (bif (pick.1 == 0) then
 ((spec_l15Rd_pick pick.2 3).bind fun pick1 =>
 ((spec_l15Rd_pick pick1.2 3).bind fun pick2 =>
 ((spec_l15Rd_pick pick2.2 3).bind fun pick3 =>
 some ([(TIns.mk 1 0 pick1.1 0), (TIns.mk 3 1 0 (w64 (1 + pick3.1))), (TIns.mk 4 0 1 0), (TIns.mk 2 pick2.1 0 0)], pick3.2))))
 else
 ((spec_l15Rd_pick pick.2 8).bind fun pick4 =>
 ((loop (fun s : Tl15Rd × (List TIns) × Int => spec_l2Prog_b1 s.1 s.2.1 s.2.2) (pick4.2, ([] : List TIns), pick4.1)).bind fun x => x.go (fun r => some r) fun s => spec_l2Prog_k2 s.1 s.2))))
theorem spec_l2Prog_fin (r_ : Tl15Rd) (r : (List TIns) × Tl15Rd) (h : spec_l2Prog r_ = some r) : Fin cx spec_l2Prog_X (spec_l2Prog_R r) (spec_l2Prog_O r) [.code spec_l2Prog_c] (startS spec_l2Prog_X [.optr 65 (el15Rd r_)]) :=
  (bindD h fun pick hpick h =>
 (condD h (fun e1 h =>
 (bindD h fun pick1 hpick1 h =>
 (bindD h fun pick2 hpick2 h =>
 (bindD h fun pick3 hpick3 h =>
 (someD h fun e => (Fin.fin (cx := cx) (X := spec_l2Prog_X) (res := spec_l2Prog_R ([(TIns.mk 1 0 pick1.1 0), (TIns.mk 3 1 0 (w64 (1 + pick3.1))), (TIns.mk 4 0 1 0), (TIns.mk 2 pick2.1 0 0)], pick3.2)) (outs := spec_l2Prog_O ([(TIns.mk 1 0 pick1.1 0), (TIns.mk 3 1 0 (w64 (1 + pick3.1))), (TIns.mk 4 0 1 0), (TIns.mk 2 pick2.1 0 0)], pick3.2)) Try.func22 [[], [(1, { a := .call [.ptr [some 1, none] [], .val [] []] false (spec_l15Rd_pick_R pick) (spec_l15Rd_pick_O pick) }), (2, { d := some true })], [(1, { a := .call [.ptr [some 1, none] [], .val [] []] false (spec_l15Rd_pick_R pick1) (spec_l15Rd_pick_O pick1) })], [(1, { a := .call [.ptr [some 1, none] [], .val [] []] false (spec_l15Rd_pick_R pick2) (spec_l15Rd_pick_O pick2) })], [(3, { a := .call [.ptr [some 1, none] [], .val [] []] false (spec_l15Rd_pick_R pick3) (spec_l15Rd_pick_O pick3) }), (9, { a := .ck [] })]] [ACalls cx.P 18 [.optr 65 (el15Rd r_), vi 3] (spec_l15Rd_pick_R pick) (spec_l15Rd_pick_O pick), (pick.1 == 0) = true, ACalls cx.P 18 [.optr 65 (el15Rd pick.2), vi 3] (spec_l15Rd_pick_R pick1) (spec_l15Rd_pick_O pick1), ACalls cx.P 18 [.optr 65 (el15Rd pick1.2), vi 3] (spec_l15Rd_pick_R pick2) (spec_l15Rd_pick_O pick2), ACalls cx.P 18 [.optr 65 (el15Rd pick2.2), vi 3] (spec_l15Rd_pick_R pick3) (spec_l15Rd_pick_O pick3), 4 = [(TIns.mk 1 0 pick1.1 0), (TIns.mk 3 1 0 (w64 (1 + pick3.1))), (TIns.mk 4 0 1 0), (TIns.mk 2 pick2.1 0 0)].length] (.cons (spec_l15Rd_pick_ok r_ 3 pick hpick) (.cons e1 (.cons (spec_l15Rd_pick_ok pick.2 3 pick1 hpick1) (.cons (spec_l15Rd_pick_ok pick1.2 3 pick2 hpick2) (.cons (spec_l15Rd_pick_ok pick2.2 3 pick3 hpick3) (.cons (by simp) .nil)))))) (by kernel_rfl)).is (congrArg spec_l2Prog_R e) (congrArg spec_l2Prog_O e)))))) (fun e1 h =>
 (bindD h fun pick4 hpick4 h =>
 (loopJ h fun x hl hr hb => (Fin.seg [[], [(1, { a := .call [.ptr [some 1, none] [], .val [] []] false (spec_l15Rd_pick_R pick) (spec_l15Rd_pick_O pick) }), (2, { d := some false })], [(0, { a := .ck [] })], [(1, { a := .call [.ptr [some 1, none] [], .val [] []] false (spec_l15Rd_pick_R pick4) (spec_l15Rd_pick_O pick4) })]] [.is (.tmp 5) (.own 5 0 4 0 ([] : List TIns).length)] [0, 5, 6] [(5, 0)] [ACalls cx.P 18 [.optr 65 (el15Rd r_), vi 3] (spec_l15Rd_pick_R pick) (spec_l15Rd_pick_O pick), (pick.1 == 0) = false, ACalls cx.P 18 [.optr 65 (el15Rd pick.2), vi 8] (spec_l15Rd_pick_R pick4) (spec_l15Rd_pick_O pick4), (.own 5 0 4 0 0 : V) = .own 5 0 4 0 ([] : List TIns).length] (.cons (spec_l15Rd_pick_ok r_ 3 pick hpick) (.cons e1 (.cons (spec_l15Rd_pick_ok pick.2 8 pick4 hpick4) (.cons (by simp) .nil)))) (spec_l2Prog_b1_loop _ _ x (fun s e => spec_l2Prog_k2_ok r s.1 s.2 (hb s e)) (fun v e => ⟨congrArg spec_l2Prog_R (Option.some.inj (hr v e)).symm, congrArg spec_l2Prog_O (Option.some.inj (hr v e)).symm⟩) (pick4.2, ([] : List TIns), pick4.1) hl) (by kernel_rfl)))))))
theorem spec_l2Prog_ok (r_ : Tl15Rd) (r : (List TIns) × Tl15Rd) (h : spec_l2Prog r_ = some r) : ACalls cx.P 22 [.optr 65 (el15Rd r_)] (spec_l2Prog_R r) (spec_l2Prog_O r) :=
  ACalls.of (cx := cx) (X := spec_l2Prog_X) (c := spec_l2Prog_c) Try.func22 (by kernel_rfl) (by kernel_rfl) (by kernel_rfl) (spec_l2Prog_fin r_ r h)

/-! ### spec_l1Num -/
noncomputable def spec_l1Num_c : Code := bodyOf Try.f55
noncomputable def spec_l1Num_X : Sig := { f := 55, fn := Try.f55, rms := [.val [] []], oms := [none] }
noncomputable def spec_l1Num_R (r : Bool) : V := .b r
noncomputable def spec_l1Num_O (r : Bool) : List (Option V) := [none]
noncomputable def spec_l1Num (n : Int) : Option Bool :=
  (bif decide (n ≥ (-1000000)) then
 some (decide (n ≤ 1000000))
 else
 some false)
theorem spec_l1Num_fin (n : Int) (r : Bool) (h : spec_l1Num n = some r) : Fin cx spec_l1Num_X (spec_l1Num_R r) (spec_l1Num_O r) [.code spec_l1Num_c] (startS spec_l1Num_X [vi n]) :=
  (condD h (fun e1 h =>
 (someD h fun e => (Fin.fin (cx := cx) (X := spec_l1Num_X) (res := spec_l1Num_R (decide (n ≤ 1000000))) (outs := spec_l1Num_O (decide (n ≤ 1000000))) Try.func55 [[], [(2, { d := some true })]] [decide (n ≥ (-1000000)) = true] (.cons e1 .nil) (by kernel_rfl)).is (congrArg spec_l1Num_R e) (congrArg spec_l1Num_O e))) (fun e1 h =>
 (someD h fun e => (Fin.fin (cx := cx) (X := spec_l1Num_X) (res := spec_l1Num_R false) (outs := spec_l1Num_O false) Try.func55 [[], [(2, { d := some false })]] [decide (n ≥ (-1000000)) = false] (.cons e1 .nil) (by kernel_rfl)).is (congrArg spec_l1Num_R e) (congrArg spec_l1Num_O e))))
theorem spec_l1Num_ok (n : Int) (r : Bool) (h : spec_l1Num n = some r) : ACalls cx.P 55 [vi n] (spec_l1Num_R r) (spec_l1Num_O r) :=
  ACalls.of (cx := cx) (X := spec_l1Num_X) (c := spec_l1Num_c) Try.func55 (by kernel_rfl) (by kernel_rfl) (by kernel_rfl) (spec_l1Num_fin n r h)

/-! ### spec_BoxOk -/
noncomputable def spec_BoxOk_c : Code := bodyOf Try.f35
noncomputable def spec_BoxOk_X : Sig := { f := 35, fn := Try.f35, rms := [.val [] []], oms := [none] }
noncomputable def spec_BoxOk_R (r : Bool) : V := .b r
noncomputable def spec_BoxOk_O (r : Bool) : List (Option V) := [none]
noncomputable def spec_BoxOk_k1 : List Item := posI 2000 4 [false, false] [.code spec_BoxOk_c]
noncomputable def spec_BoxOk_S1 : St := ⟨(bs 36 []), [some []]⟩
noncomputable def spec_BoxOk_k2 : Option Bool :=
  some true
theorem spec_BoxOk_k2_ok (r : Bool) (h : spec_BoxOk_k2 = some r) : Fin cx spec_BoxOk_X (spec_BoxOk_R r) (spec_BoxOk_O r) spec_BoxOk_k1 (spec_BoxOk_S1) :=
  (someD h fun e => (Fin.fin (cx := cx) (X := spec_BoxOk_X) (res := spec_BoxOk_R true) (outs := spec_BoxOk_O true) Try.func35 [[]] [] .nil (by kernel_rfl)).is (congrArg spec_BoxOk_R e) (congrArg spec_BoxOk_O e))
noncomputable def spec_BoxOk_k3 : List Item := posI 2000 3 [false] [.code spec_BoxOk_c]
noncomputable def spec_BoxOk_S2 (list : List TBox) (i : Int) : St := ⟨(vsl 2 eBox list :: (bs 2 (vi i :: (bs 32 [])))), [some []]⟩
noncomputable def spec_BoxOk_b1 (list : List TBox) (i : Int) : Option (Stp Bool Int Unit) :=
  (bif decide (i < (list.length : Int)) then
 ((idx list i).bind fun box =>
 (bif decide (box.Ver < 0) then
 some (Stp.ret false)
 else
 (bif decide (box.Ver > 1000000) then
 some (Stp.ret false)
 else
 ((spec_l1Num box.Val).bind fun l1Num =>
 (bif (!l1Num) then
 some (Stp.ret false)
 else
 some (Stp.nxt (w64 (i + 1))))))))
 else
 some (Stp.brk ()))
theorem spec_BoxOk_b1_ok (list : List TBox) (res : V) (outs : List (Option V)) (x1 : Exc Bool Unit) (hb1 : ∀ s : Unit, x1 = .brk s → Fin cx spec_BoxOk_X res outs spec_BoxOk_k1 (spec_BoxOk_S1)) (hr1 : ∀ v : Bool, x1 = .ret v → (res = spec_BoxOk_R v ∧ outs = spec_BoxOk_O v)) (st1 : Stp Bool Int Unit) (hc1 : Cont x1 (fun s : Int => Fin cx spec_BoxOk_X res outs spec_BoxOk_k3 (spec_BoxOk_S2 list s)) st1) (i : Int) (h : spec_BoxOk_b1 list i = some st1) : Fin cx spec_BoxOk_X res outs spec_BoxOk_k3 (spec_BoxOk_S2 list i) :=
  (condD h (fun e2 h =>
 (bindD h fun box hbox h =>
 (condD h (fun e3 h =>
 (retD h hc1 fun e => (Fin.fin (cx := cx) (X := spec_BoxOk_X) (res := spec_BoxOk_R false) (outs := spec_BoxOk_O false) Try.func35 [[(3, { d := some true })], [(2, { a := .row (eBox box) }), (6, { d := some true })], []] [decide (i < (list.length : Int)) = true, (0 : Int) ≤ i, i < ((list.length : Nat) : Int), (list.map eBox)[i.toNat]? = some (eBox box), decide (box.Ver < 0) = true] (.cons e2 (.cons (idx0 hbox) (.cons (idx1 hbox) (.cons (map_idx hbox) (.cons e3 .nil))))) (by kernel_rfl)).is (hr1 _ e).1 (hr1 _ e).2)) (fun e3 h =>
 (condD h (fun e4 h =>
 (retD h hc1 fun e => (Fin.fin (cx := cx) (X := spec_BoxOk_X) (res := spec_BoxOk_R false) (outs := spec_BoxOk_O false) Try.func35 [[(3, { d := some true })], [(2, { a := .row (eBox box) }), (6, { d := some false }), (9, { a := .row (eBox box) }), (14, { d := some true })], []] [decide (i < (list.length : Int)) = true, (0 : Int) ≤ i, i < ((list.length : Nat) : Int), (list.map eBox)[i.toNat]? = some (eBox box), decide (box.Ver < 0) = false, (0 : Int) ≤ i, i < ((list.length : Nat) : Int), (list.map eBox)[i.toNat]? = some (eBox box), decide (box.Ver > 1000000) = true] (.cons e2 (.cons (idx0 hbox) (.cons (idx1 hbox) (.cons (map_idx hbox) (.cons e3 (.cons (idx0 hbox) (.cons (idx1 hbox) (.cons (map_idx hbox) (.cons e4 .nil))))))))) (by kernel_rfl)).is (hr1 _ e).1 (hr1 _ e).2)) (fun e4 h =>
 (bindD h fun l1Num hl1Num h =>
 (condD h (fun e5 h =>
 (retD h hc1 fun e => (Fin.fin (cx := cx) (X := spec_BoxOk_X) (res := spec_BoxOk_R false) (outs := spec_BoxOk_O false) Try.func35 [[(3, { d := some true })], [(2, { a := .row (eBox box) }), (6, { d := some false }), (9, { a := .row (eBox box) }), (14, { d := some false }), (17, { a := .row (eBox box) }), (20, { a := .call [.val [] []] false (spec_l1Num_R l1Num) (spec_l1Num_O l1Num) }), (22, { d := some true })], []] [decide (i < (list.length : Int)) = true, (0 : Int) ≤ i, i < ((list.length : Nat) : Int), (list.map eBox)[i.toNat]? = some (eBox box), decide (box.Ver < 0) = false, (0 : Int) ≤ i, i < ((list.length : Nat) : Int), (list.map eBox)[i.toNat]? = some (eBox box), decide (box.Ver > 1000000) = false, (0 : Int) ≤ i, i < ((list.length : Nat) : Int), (list.map eBox)[i.toNat]? = some (eBox box), ACalls cx.P 55 [vi box.Val] (spec_l1Num_R l1Num) (spec_l1Num_O l1Num), (!l1Num) = true] (.cons e2 (.cons (idx0 hbox) (.cons (idx1 hbox) (.cons (map_idx hbox) (.cons e3 (.cons (idx0 hbox) (.cons (idx1 hbox) (.cons (map_idx hbox) (.cons e4 (.cons (idx0 hbox) (.cons (idx1 hbox) (.cons (map_idx hbox) (.cons (spec_l1Num_ok box.Val l1Num hl1Num) (.cons e5 .nil)))))))))))))) (by kernel_rfl)).is (hr1 _ e).1 (hr1 _ e).2)) (fun e5 h =>
 (nxtD h hc1 fun hI => (Fin.seg [[(3, { d := some true })], [(2, { a := .row (eBox box) }), (6, { d := some false }), (9, { a := .row (eBox box) }), (14, { d := some false }), (17, { a := .row (eBox box) }), (20, { a := .call [.val [] []] false (spec_l1Num_R l1Num) (spec_l1Num_O l1Num) }), (22, { d := some false })], []] [] [0, 3] [] [decide (i < (list.length : Int)) = true, (0 : Int) ≤ i, i < ((list.length : Nat) : Int), (list.map eBox)[i.toNat]? = some (eBox box), decide (box.Ver < 0) = false, (0 : Int) ≤ i, i < ((list.length : Nat) : Int), (list.map eBox)[i.toNat]? = some (eBox box), decide (box.Ver > 1000000) = false, (0 : Int) ≤ i, i < ((list.length : Nat) : Int), (list.map eBox)[i.toNat]? = some (eBox box), ACalls cx.P 55 [vi box.Val] (spec_l1Num_R l1Num) (spec_l1Num_O l1Num), (!l1Num) = false] (.cons e2 (.cons (idx0 hbox) (.cons (idx1 hbox) (.cons (map_idx hbox) (.cons e3 (.cons (idx0 hbox) (.cons (idx1 hbox) (.cons (map_idx hbox) (.cons e4 (.cons (idx0 hbox) (.cons (idx1 hbox) (.cons (map_idx hbox) (.cons (spec_l1Num_ok box.Val l1Num hl1Num) (.cons e5 .nil)))))))))))))) hI (by kernel_rfl)))))))))))) (fun e2 h =>
 (brkD h hc1 fun e => (Fin.seg [[(3, { d := some false })]] [] [] [] [decide (i < (list.length : Int)) = false] (.cons e2 .nil) (hb1 _ e) (by kernel_rfl)))))
theorem spec_BoxOk_b1_loop (list : List TBox) (res : V) (outs : List (Option V)) (x1 : Exc Bool Unit) (hb1 : ∀ s : Unit, x1 = .brk s → Fin cx spec_BoxOk_X res outs spec_BoxOk_k1 (spec_BoxOk_S1)) (hr1 : ∀ v : Bool, x1 = .ret v → (res = spec_BoxOk_R v ∧ outs = spec_BoxOk_O v)) (s : Int) (h : loop (fun s : Int => spec_BoxOk_b1 list s) s = some x1) : Fin cx spec_BoxOk_X res outs spec_BoxOk_k3 (spec_BoxOk_S2 list s) :=
  loopD (I := fun s : Int => Fin cx spec_BoxOk_X res outs spec_BoxOk_k3 (spec_BoxOk_S2 list s)) h fun s st h hc => spec_BoxOk_b1_ok list res outs x1 hb1 hr1 st hc s h
noncomputable def spec_BoxOk (list : List TBox) : Option Bool :=
  (bif ((list.length : Int) != 4) then
 some false
 else
 ((loop (fun s : Int => spec_BoxOk_b1 list s) 0).bind fun x => x.go (fun r => some r) fun s => spec_BoxOk_k2))
theorem spec_BoxOk_fin (list : List TBox) (r : Bool) (h : spec_BoxOk list = some r) : Fin cx spec_BoxOk_X (spec_BoxOk_R r) (spec_BoxOk_O r) [.code spec_BoxOk_c] (startS spec_BoxOk_X [vsl 2 eBox list]) :=
  (condD h (fun e1 h =>
 (someD h fun e => (Fin.fin (cx := cx) (X := spec_BoxOk_X) (res := spec_BoxOk_R false) (outs := spec_BoxOk_O false) Try.func35 [[], [(2, { d := some true })], []] [((list.length : Int) != 4) = true] (.cons e1 .nil) (by kernel_rfl)).is (congrArg spec_BoxOk_R e) (congrArg spec_BoxOk_O e))) (fun e1 h =>
 (loopJ h fun x hl hr hb => (Fin.seg [[], [(2, { d := some false })], []] [] [0, 3] [] [((list.length : Int) != 4) = false] (.cons e1 .nil) (spec_BoxOk_b1_loop list _ _ x (fun s e => spec_BoxOk_k2_ok r (hb s e)) (fun v e => ⟨congrArg spec_BoxOk_R (Option.some.inj (hr v e)).symm, congrArg spec_BoxOk_O (Option.some.inj (hr v e)).symm⟩) 0 hl) (by kernel_rfl)))))
theorem spec_BoxOk_ok (list : List TBox) (r : Bool) (h : spec_BoxOk list = some r) : ACalls cx.P 35 [vsl 2 eBox list] (spec_BoxOk_R r) (spec_BoxOk_O r) :=
  ACalls.of (cx := cx) (X := spec_BoxOk_X) (c := spec_BoxOk_c) Try.func35 (by kernel_rfl) (by kernel_rfl) (by kernel_rfl) (spec_BoxOk_fin list r h)

/-! ### spec_l2Reg -/
noncomputable def spec_l2Reg_c : Code := bodyOf Try.f64
noncomputable def spec_l2Reg_X : Sig := { f := 64, fn := Try.f64, rms := [.val [] []], oms := [none] }
noncomputable def spec_l2Reg_R (r : Bool) : V := .b r
noncomputable def spec_l2Reg_O (r : Bool) : List (Option V) := [none]
noncomputable def spec_l2Reg (n : Int) : Option Bool :=
  (bif decide (n ≥ 0) then
 some (decide (n < 4))
 else
 some false)
theorem spec_l2Reg_fin (n : Int) (r : Bool) (h : spec_l2Reg n = some r) : Fin cx spec_l2Reg_X (spec_l2Reg_R r) (spec_l2Reg_O r) [.code spec_l2Reg_c] (startS spec_l2Reg_X [vi n]) :=
  (condD h (fun e1 h =>
 (someD h fun e => (Fin.fin (cx := cx) (X := spec_l2Reg_X) (res := spec_l2Reg_R (decide (n < 4))) (outs := spec_l2Reg_O (decide (n < 4))) Try.func64 [[], [(2, { d := some true })]] [decide (n ≥ 0) = true] (.cons e1 .nil) (by kernel_rfl)).is (congrArg spec_l2Reg_R e) (congrArg spec_l2Reg_O e))) (fun e1 h =>
 (someD h fun e => (Fin.fin (cx := cx) (X := spec_l2Reg_X) (res := spec_l2Reg_R false) (outs := spec_l2Reg_O false) Try.func64 [[], [(2, { d := some false })]] [decide (n ≥ 0) = false] (.cons e1 .nil) (by kernel_rfl)).is (congrArg spec_l2Reg_R e) (congrArg spec_l2Reg_O e))))
theorem spec_l2Reg_ok (n : Int) (r : Bool) (h : spec_l2Reg n = some r) : ACalls cx.P 64 [vi n] (spec_l2Reg_R r) (spec_l2Reg_O r) :=
  ACalls.of (cx := cx) (X := spec_l2Reg_X) (c := spec_l2Reg_c) Try.func64 (by kernel_rfl) (by kernel_rfl) (by kernel_rfl) (spec_l2Reg_fin n r h)

/-! ### spec_l2Box -/
noncomputable def spec_l2Box_c : Code := bodyOf Try.f63
noncomputable def spec_l2Box_X : Sig := { f := 63, fn := Try.f63, rms := [.val [] []], oms := [none] }
noncomputable def spec_l2Box_R (r : Bool) : V := .b r
noncomputable def spec_l2Box_O (r : Bool) : List (Option V) := [none]
noncomputable def spec_l2Box (n : Int) : Option Bool :=
  (bif decide (n ≥ 0) then
 some (decide (n < 4))
 else
 some false)
theorem spec_l2Box_fin (n : Int) (r : Bool) (h : spec_l2Box n = some r) : Fin cx spec_l2Box_X (spec_l2Box_R r) (spec_l2Box_O r) [.code spec_l2Box_c] (startS spec_l2Box_X [vi n]) :=
  (condD h (fun e1 h =>
 (someD h fun e => (Fin.fin (cx := cx) (X := spec_l2Box_X) (res := spec_l2Box_R (decide (n < 4))) (outs := spec_l2Box_O (decide (n < 4))) Try.func63 [[], [(2, { d := some true })]] [decide (n ≥ 0) = true] (.cons e1 .nil) (by kernel_rfl)).is (congrArg spec_l2Box_R e) (congrArg spec_l2Box_O e))) (fun e1 h =>
 (someD h fun e => (Fin.fin (cx := cx) (X := spec_l2Box_X) (res := spec_l2Box_R false) (outs := spec_l2Box_O false) Try.func63 [[], [(2, { d := some false })]] [decide (n ≥ 0) = false] (.cons e1 .nil) (by kernel_rfl)).is (congrArg spec_l2Box_R e) (congrArg spec_l2Box_O e))))
theorem spec_l2Box_ok (n : Int) (r : Bool) (h : spec_l2Box n = some r) : ACalls cx.P 63 [vi n] (spec_l2Box_R r) (spec_l2Box_O r) :=
  ACalls.of (cx := cx) (X := spec_l2Box_X) (c := spec_l2Box_c) Try.func63 (by kernel_rfl) (by kernel_rfl) (by kernel_rfl) (spec_l2Box_fin n r h)

/-! ### spec_l2Ins -/
noncomputable def spec_l2Ins_c : Code := bodyOf Try.f56
noncomputable def spec_l2Ins_X : Sig := { f := 56, fn := Try.f56, rms := [.val [] []], oms := [none] }
noncomputable def spec_l2Ins_R (r : Bool) : V := .b r
noncomputable def spec_l2Ins_O (r : Bool) : List (Option V) := [none]
noncomputable def spec_l2Ins (i : TIns) : Option Bool :=
  (bif (i.Kind == 1) then
 ((spec_l2Reg i.A).bind fun l2Reg =>
 (bif l2Reg then
 ((spec_l2Box i.B).bind fun l2Box =>
 (bif l2Box then
 some (i.N == 0)
 else
 some false))
 else
 some false))
 else
 (bif (i.Kind == 2) then
 ((spec_l2Box i.A).bind fun l2Box1 =>
 (bif l2Box1 then
 ((spec_l2Reg i.B).bind fun l2Reg1 =>
 (bif l2Reg1 then
 some (i.N == 0)
 else
 some false))
 else
 some false))
 else
 (bif (i.Kind == 3) then
 ((spec_l2Reg i.A).bind fun l2Reg2 =>
 (bif l2Reg2 then
 (bif (i.B == 0) then
 ((spec_l1Num i.N).bind fun l1Num =>
 some l1Num)
 else
 some false)
 else
 some false))
 else
 (bif (i.Kind == 4) then
 ((spec_l2Reg i.A).bind fun l2Reg3 =>
 (bif l2Reg3 then
 ((spec_l2Reg i.B).bind fun l2Reg4 =>
 (bif l2Reg4 then
 some (i.N == 0)
 else
 some false))
 else
 some false))
 else
 (bif (i.Kind == 5) then
 ((spec_l2Reg i.A).bind fun l2Reg5 =>
 (bif l2Reg5 then
 ((spec_l2Reg i.B).bind fun l2Reg6 =>
 (bif l2Reg6 then
 some (i.N == 0)
 else
 some false))
 else
 some false))
 else
 (bif (i.Kind == 6) then
 ((spec_l2Reg i.A).bind fun l2Reg7 =>
 (bif l2Reg7 then
 ((spec_l2Reg i.B).bind fun l2Reg8 =>
 (bif l2Reg8 then
 (bif decide (i.N ≥ 1) then
 some (decide (i.N ≤ 10))
 else
 some false)
 else
 some false))
 else
 some false))
 else
 (bif (i.Kind == 7) then
 (bif (i.A == 0) then
 (bif (i.B == 0) then
 some (i.N == 0)
 else
 some false)
 else
 some false)
 else
 some false)))))))
theorem spec_l2Ins_fin (i : TIns) (r : Bool) (h : spec_l2Ins i = some r) : Fin cx spec_l2Ins_X (spec_l2Ins_R r) (spec_l2Ins_O r) [.code spec_l2Ins_c] (startS spec_l2Ins_X [.agg (eIns i)]) :=
  (condD h (fun e1 h =>
 (bindD h fun l2Reg hl2Reg h =>
 (condD h (fun e2 h =>
 (bindD h fun l2Box hl2Box h =>
 (condD h (fun e3 h =>
 (someD h fun e => (Fin.fin (cx := cx) (X := spec_l2Ins_X) (res := spec_l2Ins_R (i.N == 0)) (outs := spec_l2Ins_O (i.N == 0)) Try.func56 [[], [], [(1, { d := some true })], [(2, { a := .call [.val [] []] false (spec_l2Reg_R l2Reg) (spec_l2Reg_O l2Reg) }), (3, { d := some true }), (6, { a := .call [.val [] []] false (spec_l2Box_R l2Box) (spec_l2Box_O l2Box) }), (8, { d := some true })]] [(i.Kind == 1) = true, ACalls cx.P 64 [vi i.A] (spec_l2Reg_R l2Reg) (spec_l2Reg_O l2Reg), l2Reg = true, ACalls cx.P 63 [vi i.B] (spec_l2Box_R l2Box) (spec_l2Box_O l2Box), l2Box = true] (.cons e1 (.cons (spec_l2Reg_ok i.A l2Reg hl2Reg) (.cons e2 (.cons (spec_l2Box_ok i.B l2Box hl2Box) (.cons e3 .nil))))) (by kernel_rfl)).is (congrArg spec_l2Ins_R e) (congrArg spec_l2Ins_O e))) (fun e3 h =>
 (someD h fun e => (Fin.fin (cx := cx) (X := spec_l2Ins_X) (res := spec_l2Ins_R false) (outs := spec_l2Ins_O false) Try.func56 [[], [], [(1, { d := some true })], [(2, { a := .call [.val [] []] false (spec_l2Reg_R l2Reg) (spec_l2Reg_O l2Reg) }), (3, { d := some true }), (6, { a := .call [.val [] []] false (spec_l2Box_R l2Box) (spec_l2Box_O l2Box) }), (8, { d := some false })]] [(i.Kind == 1) = true, ACalls cx.P 64 [vi i.A] (spec_l2Reg_R l2Reg) (spec_l2Reg_O l2Reg), l2Reg = true, ACalls cx.P 63 [vi i.B] (spec_l2Box_R l2Box) (spec_l2Box_O l2Box), l2Box = false] (.cons e1 (.cons (spec_l2Reg_ok i.A l2Reg hl2Reg) (.cons e2 (.cons (spec_l2Box_ok i.B l2Box hl2Box) (.cons e3 .nil))))) (by kernel_rfl)).is (congrArg spec_l2Ins_R e) (congrArg spec_l2Ins_O e)))))) (fun e2 h =>
 (someD h fun e => (Fin.fin (cx := cx) (X := spec_l2Ins_X) (res := spec_l2Ins_R false) (outs := spec_l2Ins_O false) Try.func56 [[], [], [(1, { d := some true })], [(2, { a := .call [.val [] []] false (spec_l2Reg_R l2Reg) (spec_l2Reg_O l2Reg) }), (3, { d := some false })]] [(i.Kind == 1) = true, ACalls cx.P 64 [vi i.A] (spec_l2Reg_R l2Reg) (spec_l2Reg_O l2Reg), l2Reg = false] (.cons e1 (.cons (spec_l2Reg_ok i.A l2Reg hl2Reg) (.cons e2 .nil))) (by kernel_rfl)).is (congrArg spec_l2Ins_R e) (congrArg spec_l2Ins_O e)))))) (fun e1 h =>
 (condD h (fun e4 h =>
 (bindD h fun l2Box1 hl2Box1 h =>
 (condD h (fun e5 h =>
 (bindD h fun l2Reg1 hl2Reg1 h =>
 (condD h (fun e6 h =>
 (someD h fun e => (Fin.fin (cx := cx) (X := spec_l2Ins_X) (res := spec_l2Ins_R (i.N == 0)) (outs := spec_l2Ins_O (i.N == 0)) Try.func56 [[], [], [(1, { d := some false })], [(1, { d := some true })], [(2, { a := .call [.val [] []] false (spec_l2Box_R l2Box1) (spec_l2Box_O l2Box1) }), (3, { d := some true }), (6, { a := .call [.val [] []] false (spec_l2Reg_R l2Reg1) (spec_l2Reg_O l2Reg1) }), (8, { d := some true })]] [(i.Kind == 1) = false, (i.Kind == 2) = true, ACalls cx.P 63 [vi i.A] (spec_l2Box_R l2Box1) (spec_l2Box_O l2Box1), l2Box1 = true, ACalls cx.P 64 [vi i.B] (spec_l2Reg_R l2Reg1) (spec_l2Reg_O l2Reg1), l2Reg1 = true] (.cons e1 (.cons e4 (.cons (spec_l2Box_ok i.A l2Box1 hl2Box1) (.cons e5 (.cons (spec_l2Reg_ok i.B l2Reg1 hl2Reg1) (.cons e6 .nil)))))) (by kernel_rfl)).is (congrArg spec_l2Ins_R e) (congrArg spec_l2Ins_O e))) (fun e6 h =>
 (someD h fun e => (Fin.fin (cx := cx) (X := spec_l2Ins_X) (res := spec_l2Ins_R false) (outs := spec_l2Ins_O false) Try.func56 [[], [], [(1, { d := some false })], [(1, { d := some true })], [(2, { a := .call [.val [] []] false (spec_l2Box_R l2Box1) (spec_l2Box_O l2Box1) }), (3, { d := some true }), (6, { a := .call [.val [] []] false (spec_l2Reg_R l2Reg1) (spec_l2Reg_O l2Reg1) }), (8, { d := some false })]] [(i.Kind == 1) = false, (i.Kind == 2) = true, ACalls cx.P 63 [vi i.A] (spec_l2Box_R l2Box1) (spec_l2Box_O l2Box1), l2Box1 = true, ACalls cx.P 64 [vi i.B] (spec_l2Reg_R l2Reg1) (spec_l2Reg_O l2Reg1), l2Reg1 = false] (.cons e1 (.cons e4 (.cons (spec_l2Box_ok i.A l2Box1 hl2Box1) (.cons e5 (.cons (spec_l2Reg_ok i.B l2Reg1 hl2Reg1) (.cons e6 .nil)))))) (by kernel_rfl)).is (congrArg spec_l2Ins_R e) (congrArg spec_l2Ins_O e)))))) (fun e5 h =>
 (someD h fun e => (Fin.fin (cx := cx) (X := spec_l2Ins_X) (res := spec_l2Ins_R false) (outs := spec_l2Ins_O false) Try.func56 [[], [], [(1, { d := some false })], [(1, { d := some true })], [(2, { a := .call [.val [] []] false (spec_l2Box_R l2Box1) (spec_l2Box_O l2Box1) }), (3, { d := some false })]] [(i.Kind == 1) = false, (i.Kind == 2) = true, ACalls cx.P 63 [vi i.A] (spec_l2Box_R l2Box1) (spec_l2Box_O l2Box1), l2Box1 = false] (.cons e1 (.cons e4 (.cons (spec_l2Box_ok i.A l2Box1 hl2Box1) (.cons e5 .nil)))) (by kernel_rfl)).is (congrArg spec_l2Ins_R e) (congrArg spec_l2Ins_O e)))))) (fun e4 h =>
 (condD h (fun e7 h =>
 (bindD h fun l2Reg2 hl2Reg2 h =>
 (condD h (fun e8 h =>
 (condD h (fun e9 h =>
 (bindD h fun l1Num hl1Num h =>
 (someD h fun e => (Fin.fin (cx := cx) (X := spec_l2Ins_X) (res := spec_l2Ins_R l1Num) (outs := spec_l2Ins_O l1Num) Try.func56 [[], [], [(1, { d := some false })], [(1, { d := some false })], [(1, { d := some true })], [(2, { a := .call [.val [] []] false (spec_l2Reg_R l2Reg2) (spec_l2Reg_O l2Reg2) }), (3, { d := some true }), (8, { d := some true }), (11, { a := .call [.val [] []] false (spec_l1Num_R l1Num) (spec_l1Num_O l1Num) })]] [(i.Kind == 1) = false, (i.Kind == 2) = false, (i.Kind == 3) = true, ACalls cx.P 64 [vi i.A] (spec_l2Reg_R l2Reg2) (spec_l2Reg_O l2Reg2), l2Reg2 = true, (i.B == 0) = true, ACalls cx.P 55 [vi i.N] (spec_l1Num_R l1Num) (spec_l1Num_O l1Num)] (.cons e1 (.cons e4 (.cons e7 (.cons (spec_l2Reg_ok i.A l2Reg2 hl2Reg2) (.cons e8 (.cons e9 (.cons (spec_l1Num_ok i.N l1Num hl1Num) .nil))))))) (by kernel_rfl)).is (congrArg spec_l2Ins_R e) (congrArg spec_l2Ins_O e)))) (fun e9 h =>
 (someD h fun e => (Fin.fin (cx := cx) (X := spec_l2Ins_X) (res := spec_l2Ins_R false) (outs := spec_l2Ins_O false) Try.func56 [[], [], [(1, { d := some false })], [(1, { d := some false })], [(1, { d := some true })], [(2, { a := .call [.val [] []] false (spec_l2Reg_R l2Reg2) (spec_l2Reg_O l2Reg2) }), (3, { d := some true }), (8, { d := some false })]] [(i.Kind == 1) = false, (i.Kind == 2) = false, (i.Kind == 3) = true, ACalls cx.P 64 [vi i.A] (spec_l2Reg_R l2Reg2) (spec_l2Reg_O l2Reg2), l2Reg2 = true, (i.B == 0) = false] (.cons e1 (.cons e4 (.cons e7 (.cons (spec_l2Reg_ok i.A l2Reg2 hl2Reg2) (.cons e8 (.cons e9 .nil)))))) (by kernel_rfl)).is (congrArg spec_l2Ins_R e) (congrArg spec_l2Ins_O e))))) (fun e8 h =>
 (someD h fun e => (Fin.fin (cx := cx) (X := spec_l2Ins_X) (res := spec_l2Ins_R false) (outs := spec_l2Ins_O false) Try.func56 [[], [], [(1, { d := some false })], [(1, { d := some false })], [(1, { d := some true })], [(2, { a := .call [.val [] []] false (spec_l2Reg_R l2Reg2) (spec_l2Reg_O l2Reg2) }), (3, { d := some false })]] [(i.Kind == 1) = false, (i.Kind == 2) = false, (i.Kind == 3) = true, ACalls cx.P 64 [vi i.A] (spec_l2Reg_R l2Reg2) (spec_l2Reg_O l2Reg2), l2Reg2 = false] (.cons e1 (.cons e4 (.cons e7 (.cons (spec_l2Reg_ok i.A l2Reg2 hl2Reg2) (.cons e8 .nil))))) (by kernel_rfl)).is (congrArg spec_l2Ins_R e) (congrArg spec_l2Ins_O e)))))) (fun e7 h =>
 (condD h (fun e10 h =>
 (bindD h fun l2Reg3 hl2Reg3 h =>
 (condD h (fun e11 h =>
 (bindD h fun l2Reg4 hl2Reg4 h =>
 (condD h (fun e12 h =>
 (someD h fun e => (Fin.fin (cx := cx) (X := spec_l2Ins_X) (res := spec_l2Ins_R (i.N == 0)) (outs := spec_l2Ins_O (i.N == 0)) Try.func56 [[], [], [(1, { d := some false })], [(1, { d := some false })], [(1, { d := some false })], [(1, { d := some true })], [(2, { a := .call [.val [] []] false (spec_l2Reg_R l2Reg3) (spec_l2Reg_O l2Reg3) }), (3, { d := some true }), (6, { a := .call [.val [] []] false (spec_l2Reg_R l2Reg4) (spec_l2Reg_O l2Reg4) }), (8, { d := some true })]] [(i.Kind == 1) = false, (i.Kind == 2) = false, (i.Kind == 3) = false, (i.Kind == 4) = true, ACalls cx.P 64 [vi i.A] (spec_l2Reg_R l2Reg3) (spec_l2Reg_O l2Reg3), l2Reg3 = true, ACalls cx.P 64 [vi i.B] (spec_l2Reg_R l2Reg4) (spec_l2Reg_O l2Reg4), l2Reg4 = true] (.cons e1 (.cons e4 (.cons e7 (.cons e10 (.cons (spec_l2Reg_ok i.A l2Reg3 hl2Reg3) (.cons e11 (.cons (spec_l2Reg_ok i.B l2Reg4 hl2Reg4) (.cons e12 .nil)))))))) (by kernel_rfl)).is (congrArg spec_l2Ins_R e) (congrArg spec_l2Ins_O e))) (fun e12 h =>
 (someD h fun e => (Fin.fin (cx := cx) (X := spec_l2Ins_X) (res := spec_l2Ins_R false) (outs := spec_l2Ins_O false) Try.func56 [[], [], [(1, { d := some false })], [(1, { d := some false })], [(1, { d := some false })], [(1, { d := some true })], [(2, { a := .call [.val [] []] false (spec_l2Reg_R l2Reg3) (spec_l2Reg_O l2Reg3) }), (3, { d := some true }), (6, { a := .call [.val [] []] false (spec_l2Reg_R l2Reg4) (spec_l2Reg_O l2Reg4) }), (8, { d := some false })]] [(i.Kind == 1) = false, (i.Kind == 2) = false, (i.Kind == 3) = false, (i.Kind == 4) = true, ACalls cx.P 64 [vi i.A] (spec_l2Reg_R l2Reg3) (spec_l2Reg_O l2Reg3), l2Reg3 = true, ACalls cx.P 64 [vi i.B] (spec_l2Reg_R l2Reg4) (spec_l2Reg_O l2Reg4), l2Reg4 = false] (.cons e1 (.cons e4 (.cons e7 (.cons e10 (.cons (spec_l2Reg_ok i.A l2Reg3 hl2Reg3) (.cons e11 (.cons (spec_l2Reg_ok i.B l2Reg4 hl2Reg4) (.cons e12 .nil)))))))) (by kernel_rfl)).is (congrArg spec_l2Ins_R e) (congrArg spec_l2Ins_O e)))))) (fun e11 h =>
 (someD h fun e => (Fin.fin (cx := cx) (X := spec_l2Ins_X) (res := spec_l2Ins_R false) (outs := spec_l2Ins_O false) Try.func56 [[], [], [(1, { d := some false })], [(1, { d := some false })], [(1, { d := some false })], [(1, { d := some true })], [(2, { a := .call [.val [] []] false (spec_l2Reg_R l2Reg3) (spec_l2Reg_O l2Reg3) }), (3, { d := some false })]] [(i.Kind == 1) = false, (i.Kind == 2) = false, (i.Kind == 3) = false, (i.Kind == 4) = true, ACalls cx.P 64 [vi i.A] (spec_l2Reg_R l2Reg3) (spec_l2Reg_O l2Reg3), l2Reg3 = false] (.cons e1 (.cons e4 (.cons e7 (.cons e10 (.cons (spec_l2Reg_ok i.A l2Reg3 hl2Reg3) (.cons e11 .nil)))))) (by kernel_rfl)).is (congrArg spec_l2Ins_R e) (congrArg spec_l2Ins_O e)))))) (fun e10 h =>
 (condD h (fun e13 h =>
 (bindD h fun l2Reg5 hl2Reg5 h =>
 (condD h (fun e14 h =>
 (bindD h fun l2Reg6 hl2Reg6 h =>
 (condD h (fun e15 h =>
 (someD h fun e => (Fin.fin (cx := cx) (X := spec_l2Ins_X) (res := spec_l2Ins_R (i.N == 0)) (outs := spec_l2Ins_O (i.N == 0)) Try.func56 [[], [], [(1, { d := some false })], [(1, { d := some false })], [(1, { d := some false })], [(1, { d := some false })], [(1, { d := some true })], [(2, { a := .call [.val [] []] false (spec_l2Reg_R l2Reg5) (spec_l2Reg_O l2Reg5) }), (3, { d := some true }), (6, { a := .call [.val [] []] false (spec_l2Reg_R l2Reg6) (spec_l2Reg_O l2Reg6) }), (8, { d := some true })]] [(i.Kind == 1) = false, (i.Kind == 2) = false, (i.Kind == 3) = false, (i.Kind == 4) = false, (i.Kind == 5) = true, ACalls cx.P 64 [vi i.A] (spec_l2Reg_R l2Reg5) (spec_l2Reg_O l2Reg5), l2Reg5 = true, ACalls cx.P 64 [vi i.B] (spec_l2Reg_R l2Reg6) (spec_l2Reg_O l2Reg6), l2Reg6 = true] (.cons e1 (.cons e4 (.cons e7 (.cons e10 (.cons e13 (.cons (spec_l2Reg_ok i.A l2Reg5 hl2Reg5) (.cons e14 (.cons (spec_l2Reg_ok i.B l2Reg6 hl2Reg6) (.cons e15 .nil))))))))) (by kernel_rfl)).is (congrArg spec_l2Ins_R e) (congrArg spec_l2Ins_O e))) (fun e15 h =>
 (someD h fun e => (Fin.fin (cx := cx) (X := spec_l2Ins_X) (res := spec_l2Ins_R false) (outs := spec_l2Ins_O false) Try.func56 [[], [], [(1, { d := some false })], [(1, { d := some false })], [(1, { d := some false })], [(1, { d := some false })], [(1, { d := some true })], [(2, { a := .call [.val [] []] false (spec_l2Reg_R l2Reg5) (spec_l2Reg_O l2Reg5) }), (3, { d := some true }), (6, { a := .call [.val [] []] false (spec_l2Reg_R l2Reg6) (spec_l2Reg_O l2Reg6) }), (8, { d := some false })]] [(i.Kind == 1) = false, (i.Kind == 2) = false, (i.Kind == 3) = false, (i.Kind == 4) = false, (i.Kind == 5) = true, ACalls cx.P 64 [vi i.A] (spec_l2Reg_R l2Reg5) (spec_l2Reg_O l2Reg5), l2Reg5 = true, ACalls cx.P 64 [vi i.B] (spec_l2Reg_R l2Reg6) (spec_l2Reg_O l2Reg6), l2Reg6 = false] (.cons e1 (.cons e4 (.cons e7 (.cons e10 (.cons e13 (.cons (spec_l2Reg_ok i.A l2Reg5 hl2Reg5) (.cons e14 (.cons (spec_l2Reg_ok i.B l2Reg6 hl2Reg6) (.cons e15 .nil))))))))) (by kernel_rfl)).is (congrArg spec_l2Ins_R e) (congrArg spec_l2Ins_O e)))))) (fun e14 h =>
 (someD h fun e => (Fin.fin (cx := cx) (X := spec_l2Ins_X) (res := spec_l2Ins_R false) (outs := spec_l2Ins_O false) Try.func56 [[], [], [(1, { d := some false })], [(1, { d := some false })], [(1, { d := some false })], [(1, { d := some false })], [(1, { d := some true })], [(2, { a := .call [.val [] []] false (spec_l2Reg_R l2Reg5) (spec_l2Reg_O l2Reg5) }), (3, { d := some false })]] [(i.Kind == 1) = false, (i.Kind == 2) = false, (i.Kind == 3) = false, (i.Kind == 4) = false, (i.Kind == 5) = true, ACalls cx.P 64 [vi i.A] (spec_l2Reg_R l2Reg5) (spec_l2Reg_O l2Reg5), l2Reg5 = false] (.cons e1 (.cons e4 (.cons e7 (.cons e10 (.cons e13 (.cons (spec_l2Reg_ok i.A l2Reg5 hl2Reg5) (.cons e14 .nil))))))) (by kernel_rfl)).is (congrArg spec_l2Ins_R e) (congrArg spec_l2Ins_O e)))))) (fun e13 h =>
 (condD h (fun e16 h =>
 (bindD h fun l2Reg7 hl2Reg7 h =>
 (condD h (fun e17 h =>
 (bindD h fun l2Reg8 hl2Reg8 h =>
 (condD h (fun e18 h =>
 (condD h (fun e19 h =>
 (someD h fun e => (Fin.fin (cx := cx) (X := spec_l2Ins_X) (res := spec_l2Ins_R (decide (i.N ≤ 10))) (outs := spec_l2Ins_O (decide (i.N ≤ 10))) Try.func56 [[], [], [(1, { d := some false })], [(1, { d := some false })], [(1, { d := some false })], [(1, { d := some false })], [(1, { d := some false })], [(1, { d := some true })], [(2, { a := .call [.val [] []] false (spec_l2Reg_R l2Reg7) (spec_l2Reg_O l2Reg7) }), (3, { d := some true }), (6, { a := .call [.val [] []] false (spec_l2Reg_R l2Reg8) (spec_l2Reg_O l2Reg8) }), (8, { d := some true }), (13, { d := some true })]] [(i.Kind == 1) = false, (i.Kind == 2) = false, (i.Kind == 3) = false, (i.Kind == 4) = false, (i.Kind == 5) = false, (i.Kind == 6) = true, ACalls cx.P 64 [vi i.A] (spec_l2Reg_R l2Reg7) (spec_l2Reg_O l2Reg7), l2Reg7 = true, ACalls cx.P 64 [vi i.B] (spec_l2Reg_R l2Reg8) (spec_l2Reg_O l2Reg8), l2Reg8 = true, decide (i.N ≥ 1) = true] (.cons e1 (.cons e4 (.cons e7 (.cons e10 (.cons e13 (.cons e16 (.cons (spec_l2Reg_ok i.A l2Reg7 hl2Reg7) (.cons e17 (.cons (spec_l2Reg_ok i.B l2Reg8 hl2Reg8) (.cons e18 (.cons e19 .nil))))))))))) (by kernel_rfl)).is (congrArg spec_l2Ins_R e) (congrArg spec_l2Ins_O e))) (fun e19 h =>
 (someD h fun e => (Fin.fin (cx := cx) (X := spec_l2Ins_X) (res := spec_l2Ins_R false) (outs := spec_l2Ins_O false) Try.func56 [[], [], [(1, { d := some false })], [(1, { d := some false })], [(1, { d := some false })], [(1, { d := some false })], [(1, { d := some false })], [(1, { d := some true })], [(2, { a := .call [.val [] []] false (spec_l2Reg_R l2Reg7) (spec_l2Reg_O l2Reg7) }), (3, { d := some true }), (6, { a := .call [.val [] []] false (spec_l2Reg_R l2Reg8) (spec_l2Reg_O l2Reg8) }), (8, { d := some true }), (13, { d := some false })]] [(i.Kind == 1) = false, (i.Kind == 2) = false, (i.Kind == 3) = false, (i.Kind == 4) = false, (i.Kind == 5) = false, (i.Kind == 6) = true, ACalls cx.P 64 [vi i.A] (spec_l2Reg_R l2Reg7) (spec_l2Reg_O l2Reg7), l2Reg7 = true, ACalls cx.P 64 [vi i.B] (spec_l2Reg_R l2Reg8) (spec_l2Reg_O l2Reg8), l2Reg8 = true, decide (i.N ≥ 1) = false] (.cons e1 (.cons e4 (.cons e7 (.cons e10 (.cons e13 (.cons e16 (.cons (spec_l2Reg_ok i.A l2Reg7 hl2Reg7) (.cons e17 (.cons (spec_l2Reg_ok i.B l2Reg8 hl2Reg8) (.cons e18 (.cons e19 .nil))))))))))) (by kernel_rfl)).is (congrArg spec_l2Ins_R e) (congrArg spec_l2Ins_O e))))) (fun e18 h =>
 (someD h fun e => (Fin.fin (cx := cx) (X := spec_l2Ins_X) (res := spec_l2Ins_R false) (outs := spec_l2Ins_O false) Try.func56 [[], [], [(1, { d := some false })], [(1, { d := some false })], [(1, { d := some false })], [(1, { d := some false })], [(1, { d := some false })], [(1, { d := some true })], [(2, { a := .call [.val [] []] false (spec_l2Reg_R l2Reg7) (spec_l2Reg_O l2Reg7) }), (3, { d := some true }), (6, { a := .call [.val [] []] false (spec_l2Reg_R l2Reg8) (spec_l2Reg_O l2Reg8) }), (8, { d := some false })]] [(i.Kind == 1) = false, (i.Kind == 2) = false, (i.Kind == 3) = false, (i.Kind == 4) = false, (i.Kind == 5) = false, (i.Kind == 6) = true, ACalls cx.P 64 [vi i.A] (spec_l2Reg_R l2Reg7) (spec_l2Reg_O l2Reg7), l2Reg7 = true, ACalls cx.P 64 [vi i.B] (spec_l2Reg_R l2Reg8) (spec_l2Reg_O l2Reg8), l2Reg8 = false] (.cons e1 (.cons e4 (.cons e7 (.cons e10 (.cons e13 (.cons e16 (.cons (spec_l2Reg_ok i.A l2Reg7 hl2Reg7) (.cons e17 (.cons (spec_l2Reg_ok i.B l2Reg8 hl2Reg8) (.cons e18 .nil)))))))))) (by kernel_rfl)).is (congrArg spec_l2Ins_R e) (congrArg spec_l2Ins_O e)))))) (fun e17 h =>
 (someD h fun e => (Fin.fin (cx := cx) (X := spec_l2Ins_X) (res := spec_l2Ins_R false) (outs := spec_l2Ins_O false) Try.func56 [[], [], [(1, { d := some false })], [(1, { d := some false })], [(1, { d := some false })], [(1, { d := some false })], [(1, { d := some false })], [(1, { d := some true })], [(2, { a := .call [.val [] []] false (spec_l2Reg_R l2Reg7) (spec_l2Reg_O l2Reg7) }), (3, { d := some false })]] [(i.Kind == 1) = false, (i.Kind == 2) = false, (i.Kind == 3) = false, (i.Kind == 4) = false, (i.Kind == 5) = false, (i.Kind == 6) = true, ACalls cx.P 64 [vi i.A] (spec_l2Reg_R l2Reg7) (spec_l2Reg_O l2Reg7), l2Reg7 = false] (.cons e1 (.cons e4 (.cons e7 (.cons e10 (.cons e13 (.cons e16 (.cons (spec_l2Reg_ok i.A l2Reg7 hl2Reg7) (.cons e17 .nil)))))))) (by kernel_rfl)).is (congrArg spec_l2Ins_R e) (congrArg spec_l2Ins_O e)))))) (fun e16 h =>
 (condD h (fun e20 h =>
 (condD h (fun e21 h =>
 (condD h (fun e22 h =>
 (someD h fun e => (Fin.fin (cx := cx) (X := spec_l2Ins_X) (res := spec_l2Ins_R (i.N == 0)) (outs := spec_l2Ins_O (i.N == 0)) Try.func56 [[], [], [(1, { d := some false })], [(1, { d := some false })], [(1, { d := some false })], [(1, { d := some false })], [(1, { d := some false })], [(1, { d := some false })], [(1, { d := some true })], [(3, { d := some true }), (8, { d := some true })]] [(i.Kind == 1) = false, (i.Kind == 2) = false, (i.Kind == 3) = false, (i.Kind == 4) = false, (i.Kind == 5) = false, (i.Kind == 6) = false, (i.Kind == 7) = true, (i.A == 0) = true, (i.B == 0) = true] (.cons e1 (.cons e4 (.cons e7 (.cons e10 (.cons e13 (.cons e16 (.cons e20 (.cons e21 (.cons e22 .nil))))))))) (by kernel_rfl)).is (congrArg spec_l2Ins_R e) (congrArg spec_l2Ins_O e))) (fun e22 h =>
 (someD h fun e => (Fin.fin (cx := cx) (X := spec_l2Ins_X) (res := spec_l2Ins_R false) (outs := spec_l2Ins_O false) Try.func56 [[], [], [(1, { d := some false })], [(1, { d := some false })], [(1, { d := some false })], [(1, { d := some false })], [(1, { d := some false })], [(1, { d := some false })], [(1, { d := some true })], [(3, { d := some true }), (8, { d := some false })]] [(i.Kind == 1) = false, (i.Kind == 2) = false, (i.Kind == 3) = false, (i.Kind == 4) = false, (i.Kind == 5) = false, (i.Kind == 6) = false, (i.Kind == 7) = true, (i.A == 0) = true, (i.B == 0) = false] (.cons e1 (.cons e4 (.cons e7 (.cons e10 (.cons e13 (.cons e16 (.cons e20 (.cons e21 (.cons e22 .nil))))))))) (by kernel_rfl)).is (congrArg spec_l2Ins_R e) (congrArg spec_l2Ins_O e))))) (fun e21 h =>
 (someD h fun e => (Fin.fin (cx := cx) (X := spec_l2Ins_X) (res := spec_l2Ins_R false) (outs := spec_l2Ins_O false) Try.func56 [[], [], [(1, { d := some false })], [(1, { d := some false })], [(1, { d := some false })], [(1, { d := some false })], [(1, { d := some false })], [(1, { d := some false })], [(1, { d := some true })], [(3, { d := some false })]] [(i.Kind == 1) = false, (i.Kind == 2) = false, (i.Kind == 3) = false, (i.Kind == 4) = false, (i.Kind == 5) = false, (i.Kind == 6) = false, (i.Kind == 7) = true, (i.A == 0) = false] (.cons e1 (.cons e4 (.cons e7 (.cons e10 (.cons e13 (.cons e16 (.cons e20 (.cons e21 .nil)))))))) (by kernel_rfl)).is (congrArg spec_l2Ins_R e) (congrArg spec_l2Ins_O e))))) (fun e20 h =>
 (someD h fun e => (Fin.fin (cx := cx) (X := spec_l2Ins_X) (res := spec_l2Ins_R false) (outs := spec_l2Ins_O false) Try.func56 [[], [], [(1, { d := some false })], [(1, { d := some false })], [(1, { d := some false })], [(1, { d := some false })], [(1, { d := some false })], [(1, { d := some false })], [(1, { d := some false })], []] [(i.Kind == 1) = false, (i.Kind == 2) = false, (i.Kind == 3) = false, (i.Kind == 4) = false, (i.Kind == 5) = false, (i.Kind == 6) = false, (i.Kind == 7) = false] (.cons e1 (.cons e4 (.cons e7 (.cons e10 (.cons e13 (.cons e16 (.cons e20 .nil))))))) (by kernel_rfl)).is (congrArg spec_l2Ins_R e) (congrArg spec_l2Ins_O e))))))))))))))))
theorem spec_l2Ins_ok (i : TIns) (r : Bool) (h : spec_l2Ins i = some r) : ACalls cx.P 56 [.agg (eIns i)] (spec_l2Ins_R r) (spec_l2Ins_O r) :=
  ACalls.of (cx := cx) (X := spec_l2Ins_X) (c := spec_l2Ins_c) Try.func56 (by kernel_rfl) (by kernel_rfl) (by kernel_rfl) (spec_l2Ins_fin i r h)

/-! ### spec_ProgOk -/
noncomputable def spec_ProgOk_c : Code := bodyOf Try.f36
noncomputable def spec_ProgOk_X : Sig := { f := 36, fn := Try.f36, rms := [.val [] []], oms := [none] }
noncomputable def spec_ProgOk_R (r : Bool) : V := .b r
noncomputable def spec_ProgOk_O (r : Bool) : List (Option V) := [none]
noncomputable def spec_ProgOk_k1 : List Item := posI 2000 4 [false, false] [.code spec_ProgOk_c]
noncomputable def spec_ProgOk_S1 : St := ⟨(bs 19 []), [some []]⟩
noncomputable def spec_ProgOk_k2 : Option Bool :=
  some true
theorem spec_ProgOk_k2_ok (r : Bool) (h : spec_ProgOk_k2 = some r) : Fin cx spec_ProgOk_X (spec_ProgOk_R r) (spec_ProgOk_O r) spec_ProgOk_k1 (spec_ProgOk_S1) :=
  (someD h fun e => (Fin.fin (cx := cx) (X := spec_ProgOk_X) (res := spec_ProgOk_R true) (outs := spec_ProgOk_O true) Try.func36 [[]] [] .nil (by kernel_rfl)).is (congrArg spec_ProgOk_R e) (congrArg spec_ProgOk_O e))
noncomputable def spec_ProgOk_k3 : List Item := posI 2000 3 [false] [.code spec_ProgOk_c]
noncomputable def spec_ProgOk_S2 (list : List TIns) (i : Int) : St := ⟨(vsl 4 eIns list :: (bs 2 (vi i :: (bs 15 [])))), [some []]⟩
noncomputable def spec_ProgOk_b1 (list : List TIns) (i : Int) : Option (Stp Bool Int Unit) :=
  (bif decide (i < (list.length : Int)) then
 ((idx list i).bind fun ins =>
 ((spec_l2Ins ins).bind fun l2Ins =>
 (bif (!l2Ins) then
 some (Stp.ret false)
 else
 some (Stp.nxt (w64 (i + 1))))))
 else
 some (Stp.brk ()))
theorem spec_ProgOk_b1_ok (list : List TIns) (res : V) (outs : List (Option V)) (x1 : Exc Bool Unit) (hb1 : ∀ s : Unit, x1 = .brk s → Fin cx spec_ProgOk_X res outs spec_ProgOk_k1 (spec_ProgOk_S1)) (hr1 : ∀ v : Bool, x1 = .ret v → (res = spec_ProgOk_R v ∧ outs = spec_ProgOk_O v)) (st1 : Stp Bool Int Unit) (hc1 : Cont x1 (fun s : Int => Fin cx spec_ProgOk_X res outs spec_ProgOk_k3 (spec_ProgOk_S2 list s)) st1) (i : Int) (h : spec_ProgOk_b1 list i = some st1) : Fin cx spec_ProgOk_X res outs spec_ProgOk_k3 (spec_ProgOk_S2 list i) :=
  (condD h (fun e2 h =>
 (bindD h fun ins hins h =>
 (bindD h fun l2Ins hl2Ins h =>
 (condD h (fun e3 h =>
 (retD h hc1 fun e => (Fin.fin (cx := cx) (X := spec_ProgOk_X) (res := spec_ProgOk_R false) (outs := spec_ProgOk_O false) Try.func36 [[(3, { d := some true })], [(2, { a := .row (eIns ins) }), (4, { a := .call [.val [] []] false (spec_l2Ins_R l2Ins) (spec_l2Ins_O l2Ins) }), (5, { d := some true })], []] [decide (i < (list.length : Int)) = true, (0 : Int) ≤ i, i < ((list.length : Nat) : Int), (list.map eIns)[i.toNat]? = some (eIns ins), ACalls cx.P 56 [.agg (eIns ins)] (spec_l2Ins_R l2Ins) (spec_l2Ins_O l2Ins), (!l2Ins) = true] (.cons e2 (.cons (idx0 hins) (.cons (idx1 hins) (.cons (map_idx hins) (.cons (spec_l2Ins_ok ins l2Ins hl2Ins) (.cons e3 .nil)))))) (by kernel_rfl)).is (hr1 _ e).1 (hr1 _ e).2)) (fun e3 h =>
 (nxtD h hc1 fun hI => (Fin.seg [[(3, { d := some true })], [(2, { a := .row (eIns ins) }), (4, { a := .call [.val [] []] false (spec_l2Ins_R l2Ins) (spec_l2Ins_O l2Ins) }), (5, { d := some false })], []] [] [0, 3] [] [decide (i < (list.length : Int)) = true, (0 : Int) ≤ i, i < ((list.length : Nat) : Int), (list.map eIns)[i.toNat]? = some (eIns ins), ACalls cx.P 56 [.agg (eIns ins)] (spec_l2Ins_R l2Ins) (spec_l2Ins_O l2Ins), (!l2Ins) = false] (.cons e2 (.cons (idx0 hins) (.cons (idx1 hins) (.cons (map_idx hins) (.cons (spec_l2Ins_ok ins l2Ins hl2Ins) (.cons e3 .nil)))))) hI (by kernel_rfl)))))))) (fun e2 h =>
 (brkD h hc1 fun e => (Fin.seg [[(3, { d := some false })]] [] [] [] [decide (i < (list.length : Int)) = false] (.cons e2 .nil) (hb1 _ e) (by kernel_rfl)))))
theorem spec_ProgOk_b1_loop (list : List TIns) (res : V) (outs : List (Option V)) (x1 : Exc Bool Unit) (hb1 : ∀ s : Unit, x1 = .brk s → Fin cx spec_ProgOk_X res outs spec_ProgOk_k1 (spec_ProgOk_S1)) (hr1 : ∀ v : Bool, x1 = .ret v → (res = spec_ProgOk_R v ∧ outs = spec_ProgOk_O v)) (s : Int) (h : loop (fun s : Int => spec_ProgOk_b1 list s) s = some x1) : Fin cx spec_ProgOk_X res outs spec_ProgOk_k3 (spec_ProgOk_S2 list s) :=
  loopD (I := fun s : Int => Fin cx spec_ProgOk_X res outs spec_ProgOk_k3 (spec_ProgOk_S2 list s)) h fun s st h hc => spec_ProgOk_b1_ok list res outs x1 hb1 hr1 st hc s h
noncomputable def spec_ProgOk (list : List TIns) : Option Bool :=
  (bif decide ((list.length : Int) > 10) then
 some false
 else
 ((loop (fun s : Int => spec_ProgOk_b1 list s) 0).bind fun x => x.go (fun r => some r) fun s => spec_ProgOk_k2))
theorem spec_ProgOk_fin (list : List TIns) (r : Bool) (h : spec_ProgOk list = some r) : Fin cx spec_ProgOk_X (spec_ProgOk_R r) (spec_ProgOk_O r) [.code spec_ProgOk_c] (startS spec_ProgOk_X [vsl 4 eIns list]) :=
  (condD h (fun e1 h =>
 (someD h fun e => (Fin.fin (cx := cx) (X := spec_ProgOk_X) (res := spec_ProgOk_R false) (outs := spec_ProgOk_O false) Try.func36 [[], [(2, { d := some true })], []] [decide ((list.length : Int) > 10) = true] (.cons e1 .nil) (by kernel_rfl)).is (congrArg spec_ProgOk_R e) (congrArg spec_ProgOk_O e))) (fun e1 h =>
 (loopJ h fun x hl hr hb => (Fin.seg [[], [(2, { d := some false })], []] [] [0, 3] [] [decide ((list.length : Int) > 10) = false] (.cons e1 .nil) (spec_ProgOk_b1_loop list _ _ x (fun s e => spec_ProgOk_k2_ok r (hb s e)) (fun v e => ⟨congrArg spec_ProgOk_R (Option.some.inj (hr v e)).symm, congrArg spec_ProgOk_O (Option.some.inj (hr v e)).symm⟩) 0 hl) (by kernel_rfl)))))
theorem spec_ProgOk_ok (list : List TIns) (r : Bool) (h : spec_ProgOk list = some r) : ACalls cx.P 36 [vsl 4 eIns list] (spec_ProgOk_R r) (spec_ProgOk_O r) :=
  ACalls.of (cx := cx) (X := spec_ProgOk_X) (c := spec_ProgOk_c) Try.func36 (by kernel_rfl) (by kernel_rfl) (by kernel_rfl) (spec_ProgOk_fin list r h)

/-! ### spec_l3At -/
noncomputable def spec_l3At_c : Code := bodyOf Try.f30
noncomputable def spec_l3At_X : Sig := { f := 30, fn := Try.f30, rms := [.val [] []], oms := [none, none] }
noncomputable def spec_l3At_R (r : Int) : V := vi r
noncomputable def spec_l3At_O (r : Int) : List (Option V) := [none, none]
noncomputable def spec_l3At_k1 : List Item := posI 2000 3 [false] [.code spec_l3At_c]
noncomputable def spec_l3At_S1 : St := ⟨(bs 20 []), [some []]⟩
noncomputable def spec_l3At_k2 : Option Int :=
  some (-1)
theorem spec_l3At_k2_ok (r : Int) (h : spec_l3At_k2 = some r) : Fin cx spec_l3At_X (spec_l3At_R r) (spec_l3At_O r) spec_l3At_k1 (spec_l3At_S1) :=
  (someD h fun e => (Fin.fin (cx := cx) (X := spec_l3At_X) (res := spec_l3At_R (-1)) (outs := spec_l3At_O (-1)) Try.func30 [[]] [] .nil (by kernel_rfl)).is (congrArg spec_l3At_R e) (congrArg spec_l3At_O e))
noncomputable def spec_l3At_k3 : List Item := posI 2000 2 [] [.code spec_l3At_c]
noncomputable def spec_l3At_S2 (list : List TPut) (box : Int) (i : Int) : St := ⟨(vsl 2 ePut list :: (vi box :: (bs 3 (vi i :: (bs 14 []))))), [some []]⟩
noncomputable def spec_l3At_b1 (list : List TPut) (box : Int) (i : Int) : Option (Stp Int Int Unit) :=
  (bif decide (i < (list.length : Int)) then
 ((idx list i).bind fun put =>
 (bif (put.Box == box) then
 some (Stp.ret i)
 else
 some (Stp.nxt (w64 (i + 1)))))
 else
 some (Stp.brk ()))
theorem spec_l3At_b1_ok (list : List TPut) (box : Int) (res : V) (outs : List (Option V)) (x1 : Exc Int Unit) (hb1 : ∀ s : Unit, x1 = .brk s → Fin cx spec_l3At_X res outs spec_l3At_k1 (spec_l3At_S1)) (hr1 : ∀ v : Int, x1 = .ret v → (res = spec_l3At_R v ∧ outs = spec_l3At_O v)) (st1 : Stp Int Int Unit) (hc1 : Cont x1 (fun s : Int => Fin cx spec_l3At_X res outs spec_l3At_k3 (spec_l3At_S2 list box s)) st1) (i : Int) (h : spec_l3At_b1 list box i = some st1) : Fin cx spec_l3At_X res outs spec_l3At_k3 (spec_l3At_S2 list box i) :=
  (condD h (fun e1 h =>
 (bindD h fun put hput h =>
 (condD h (fun e2 h =>
 (retD h hc1 fun e => (Fin.fin (cx := cx) (X := spec_l3At_X) (res := spec_l3At_R i) (outs := spec_l3At_O i) Try.func30 [[(3, { d := some true })], [(2, { a := .row (ePut put) }), (6, { d := some true })], []] [decide (i < (list.length : Int)) = true, (0 : Int) ≤ i, i < ((list.length : Nat) : Int), (list.map ePut)[i.toNat]? = some (ePut put), (put.Box == box) = true] (.cons e1 (.cons (idx0 hput) (.cons (idx1 hput) (.cons (map_idx hput) (.cons e2 .nil))))) (by kernel_rfl)).is (hr1 _ e).1 (hr1 _ e).2)) (fun e2 h =>
 (nxtD h hc1 fun hI => (Fin.seg [[(3, { d := some true })], [(2, { a := .row (ePut put) }), (6, { d := some false })], []] [] [0, 1, 5] [] [decide (i < (list.length : Int)) = true, (0 : Int) ≤ i, i < ((list.length : Nat) : Int), (list.map ePut)[i.toNat]? = some (ePut put), (put.Box == box) = false] (.cons e1 (.cons (idx0 hput) (.cons (idx1 hput) (.cons (map_idx hput) (.cons e2 .nil))))) hI (by kernel_rfl))))))) (fun e1 h =>
 (brkD h hc1 fun e => (Fin.seg [[(3, { d := some false })]] [] [] [] [decide (i < (list.length : Int)) = false] (.cons e1 .nil) (hb1 _ e) (by kernel_rfl)))))
theorem spec_l3At_b1_loop (list : List TPut) (box : Int) (res : V) (outs : List (Option V)) (x1 : Exc Int Unit) (hb1 : ∀ s : Unit, x1 = .brk s → Fin cx spec_l3At_X res outs spec_l3At_k1 (spec_l3At_S1)) (hr1 : ∀ v : Int, x1 = .ret v → (res = spec_l3At_R v ∧ outs = spec_l3At_O v)) (s : Int) (h : loop (fun s : Int => spec_l3At_b1 list box s) s = some x1) : Fin cx spec_l3At_X res outs spec_l3At_k3 (spec_l3At_S2 list box s) :=
  loopD (I := fun s : Int => Fin cx spec_l3At_X res outs spec_l3At_k3 (spec_l3At_S2 list box s)) h fun s st h hc => spec_l3At_b1_ok list box res outs x1 hb1 hr1 st hc s h
noncomputable def spec_l3At (list : List TPut) (box : Int) : Option Int :=
  ((loop (fun s : Int => spec_l3At_b1 list box s) 0).bind fun x => x.go (fun r => some r) fun s => spec_l3At_k2)
theorem spec_l3At_fin (list : List TPut) (box : Int) (r : Int) (h : spec_l3At list box = some r) : Fin cx spec_l3At_X (spec_l3At_R r) (spec_l3At_O r) [.code spec_l3At_c] (startS spec_l3At_X [vsl 2 ePut list, vi box]) :=
  (loopJ h fun x hl hr hb => (Fin.seg [[], []] [] [0, 1, 5] [] [] .nil (spec_l3At_b1_loop list box _ _ x (fun s e => spec_l3At_k2_ok r (hb s e)) (fun v e => ⟨congrArg spec_l3At_R (Option.some.inj (hr v e)).symm, congrArg spec_l3At_O (Option.some.inj (hr v e)).symm⟩) 0 hl) (by kernel_rfl)))
theorem spec_l3At_ok (list : List TPut) (box : Int) (r : Int) (h : spec_l3At list box = some r) : ACalls cx.P 30 [vsl 2 ePut list, vi box] (spec_l3At_R r) (spec_l3At_O r) :=
  ACalls.of (cx := cx) (X := spec_l3At_X) (c := spec_l3At_c) Try.func30 (by kernel_rfl) (by kernel_rfl) (by kernel_rfl) (spec_l3At_fin list box r h)

/-! ### spec_l3Saw -/
noncomputable def spec_l3Saw_c : Code := bodyOf Try.f31
noncomputable def spec_l3Saw_X : Sig := { f := 31, fn := Try.f31, rms := [.val [] []], oms := [none, none] }
noncomputable def spec_l3Saw_R (r : Bool) : V := .b r
noncomputable def spec_l3Saw_O (r : Bool) : List (Option V) := [none, none]
noncomputable def spec_l3Saw_k1 : List Item := posI 2000 3 [false] [.code spec_l3Saw_c]
noncomputable def spec_l3Saw_S1 : St := ⟨(bs 19 []), [some []]⟩
noncomputable def spec_l3Saw_k2 : Option Bool :=
  some false
theorem spec_l3Saw_k2_ok (r : Bool) (h : spec_l3Saw_k2 = some r) : Fin cx spec_l3Saw_X (spec_l3Saw_R r) (spec_l3Saw_O r) spec_l3Saw_k1 (spec_l3Saw_S1) :=
  (someD h fun e => (Fin.fin (cx := cx) (X := spec_l3Saw_X) (res := spec_l3Saw_R false) (outs := spec_l3Saw_O false) Try.func31 [[]] [] .nil (by kernel_rfl)).is (congrArg spec_l3Saw_R e) (congrArg spec_l3Saw_O e))
noncomputable def spec_l3Saw_k3 : List Item := posI 2000 2 [] [.code spec_l3Saw_c]
noncomputable def spec_l3Saw_S2 (list : List TRead) (box : Int) (i : Int) : St := ⟨(vsl 2 eRead list :: (vi box :: (bs 3 (vi i :: (bs 13 []))))), [some []]⟩
noncomputable def spec_l3Saw_b1 (list : List TRead) (box : Int) (i : Int) : Option (Stp Bool Int Unit) :=
  (bif decide (i < (list.length : Int)) then
 ((idx list i).bind fun read =>
 (bif (read.Box == box) then
 some (Stp.ret true)
 else
 some (Stp.nxt (w64 (i + 1)))))
 else
 some (Stp.brk ()))
theorem spec_l3Saw_b1_ok (list : List TRead) (box : Int) (res : V) (outs : List (Option V)) (x1 : Exc Bool Unit) (hb1 : ∀ s : Unit, x1 = .brk s → Fin cx spec_l3Saw_X res outs spec_l3Saw_k1 (spec_l3Saw_S1)) (hr1 : ∀ v : Bool, x1 = .ret v → (res = spec_l3Saw_R v ∧ outs = spec_l3Saw_O v)) (st1 : Stp Bool Int Unit) (hc1 : Cont x1 (fun s : Int => Fin cx spec_l3Saw_X res outs spec_l3Saw_k3 (spec_l3Saw_S2 list box s)) st1) (i : Int) (h : spec_l3Saw_b1 list box i = some st1) : Fin cx spec_l3Saw_X res outs spec_l3Saw_k3 (spec_l3Saw_S2 list box i) :=
  (condD h (fun e1 h =>
 (bindD h fun read hread h =>
 (condD h (fun e2 h =>
 (retD h hc1 fun e => (Fin.fin (cx := cx) (X := spec_l3Saw_X) (res := spec_l3Saw_R true) (outs := spec_l3Saw_O true) Try.func31 [[(3, { d := some true })], [(2, { a := .row (eRead read) }), (6, { d := some true })], []] [decide (i < (list.length : Int)) = true, (0 : Int) ≤ i, i < ((list.length : Nat) : Int), (list.map eRead)[i.toNat]? = some (eRead read), (read.Box == box) = true] (.cons e1 (.cons (idx0 hread) (.cons (idx1 hread) (.cons (map_idx hread) (.cons e2 .nil))))) (by kernel_rfl)).is (hr1 _ e).1 (hr1 _ e).2)) (fun e2 h =>
 (nxtD h hc1 fun hI => (Fin.seg [[(3, { d := some true })], [(2, { a := .row (eRead read) }), (6, { d := some false })], []] [] [0, 1, 5] [] [decide (i < (list.length : Int)) = true, (0 : Int) ≤ i, i < ((list.length : Nat) : Int), (list.map eRead)[i.toNat]? = some (eRead read), (read.Box == box) = false] (.cons e1 (.cons (idx0 hread) (.cons (idx1 hread) (.cons (map_idx hread) (.cons e2 .nil))))) hI (by kernel_rfl))))))) (fun e1 h =>
 (brkD h hc1 fun e => (Fin.seg [[(3, { d := some false })]] [] [] [] [decide (i < (list.length : Int)) = false] (.cons e1 .nil) (hb1 _ e) (by kernel_rfl)))))
theorem spec_l3Saw_b1_loop (list : List TRead) (box : Int) (res : V) (outs : List (Option V)) (x1 : Exc Bool Unit) (hb1 : ∀ s : Unit, x1 = .brk s → Fin cx spec_l3Saw_X res outs spec_l3Saw_k1 (spec_l3Saw_S1)) (hr1 : ∀ v : Bool, x1 = .ret v → (res = spec_l3Saw_R v ∧ outs = spec_l3Saw_O v)) (s : Int) (h : loop (fun s : Int => spec_l3Saw_b1 list box s) s = some x1) : Fin cx spec_l3Saw_X res outs spec_l3Saw_k3 (spec_l3Saw_S2 list box s) :=
  loopD (I := fun s : Int => Fin cx spec_l3Saw_X res outs spec_l3Saw_k3 (spec_l3Saw_S2 list box s)) h fun s st h hc => spec_l3Saw_b1_ok list box res outs x1 hb1 hr1 st hc s h
noncomputable def spec_l3Saw (list : List TRead) (box : Int) : Option Bool :=
  ((loop (fun s : Int => spec_l3Saw_b1 list box s) 0).bind fun x => x.go (fun r => some r) fun s => spec_l3Saw_k2)
theorem spec_l3Saw_fin (list : List TRead) (box : Int) (r : Bool) (h : spec_l3Saw list box = some r) : Fin cx spec_l3Saw_X (spec_l3Saw_R r) (spec_l3Saw_O r) [.code spec_l3Saw_c] (startS spec_l3Saw_X [vsl 2 eRead list, vi box]) :=
  (loopJ h fun x hl hr hb => (Fin.seg [[], []] [] [0, 1, 5] [] [] .nil (spec_l3Saw_b1_loop list box _ _ x (fun s e => spec_l3Saw_k2_ok r (hb s e)) (fun v e => ⟨congrArg spec_l3Saw_R (Option.some.inj (hr v e)).symm, congrArg spec_l3Saw_O (Option.some.inj (hr v e)).symm⟩) 0 hl) (by kernel_rfl)))
theorem spec_l3Saw_ok (list : List TRead) (box : Int) (r : Bool) (h : spec_l3Saw list box = some r) : ACalls cx.P 31 [vsl 2 eRead list, vi box] (spec_l3Saw_R r) (spec_l3Saw_O r) :=
  ACalls.of (cx := cx) (X := spec_l3Saw_X) (c := spec_l3Saw_c) Try.func31 (by kernel_rfl) (by kernel_rfl) (by kernel_rfl) (spec_l3Saw_fin list box r h)

/-! ### spec_l3Look -/
noncomputable def spec_l3Look_c : Code := bodyOf Try.f57
noncomputable def spec_l3Look_X : Sig := { f := 57, fn := Try.f57, rms := [.val [] [], .val [some 2, some 2, none, none] [some 95, some 40, none, none]], oms := [none, none, none] }
noncomputable def spec_l3Look_R (r : Int × TRun) : V := .tup [vi r.1, .agg [vosl 95 2 eRead r.2.Reads, vosl 40 2 ePut r.2.Puts, vi r.2.Val, vi r.2.Code]]
noncomputable def spec_l3Look_O (r : Int × TRun) : List (Option V) := [none, none, none]
noncomputable def spec_l3Look_k1 : List Item := posI 2000 5 [false, true] [.code spec_l3Look_c]
noncomputable def spec_l3Look_S1 (list : List TBox) (r_ : TRun) (box : Int) (Reads : List TRead) : St := ⟨(vsl 2 eBox list :: (bs 1 (vi box :: (bs 1 (.ptr 1 0 0 :: (bs 2 (.ptr 3 0 0 :: (bs 37 [])))))))), [some [.dead, erow 40 2 ePut r_.Puts], some [.var 34 [.own 2 0 2 0 Reads.length, .own 0 1 2 0 r_.Puts.length, vi r_.Val, vi r_.Code]], some [erow 95 2 eRead Reads], some [.var 34 [.nil, .nil, vi 0, vi 0]]]⟩
noncomputable def spec_l3Look_j1 (list : List TBox) (r_ : TRun) (box : Int) (Reads : List TRead) : Option (Int × TRun) :=
  ((idx list box).bind fun box1 =>
 some (box1.Val, (TRun.mk Reads r_.Puts r_.Val r_.Code)))
theorem spec_l3Look_j1_ok (list : List TBox) (r_ : TRun) (box : Int) (r : Int × TRun) (Reads : List TRead) (h : spec_l3Look_j1 list r_ box Reads = some r) : Fin cx spec_l3Look_X (spec_l3Look_R r) (spec_l3Look_O r) spec_l3Look_k1 (spec_l3Look_S1 list r_ box Reads) :=
  (bindD h fun box1 hbox1 h =>
 (someD h fun e => (Fin.fin (cx := cx) (X := spec_l3Look_X) (res := spec_l3Look_R (box1.Val, (TRun.mk Reads r_.Puts r_.Val r_.Code))) (outs := spec_l3Look_O (box1.Val, (TRun.mk Reads r_.Puts r_.Val r_.Code))) Try.func57 [[(2, { a := .row (eBox box1) })]] [(0 : Int) ≤ box, box < ((list.length : Nat) : Int), (list.map eBox)[box.toNat]? = some (eBox box1), Reads.length = Reads.length, r_.Puts.length = r_.Puts.length] (.cons (idx0 hbox1) (.cons (idx1 hbox1) (.cons (map_idx hbox1) (.cons rfl (.cons rfl .nil))))) (by kernel_rfl)).is (congrArg spec_l3Look_R e) (congrArg spec_l3Look_O e)))
noncomputable def spec_l3Look (list : List TBox) (r_ : TRun) (box : Int) : Option (Int × TRun) :=
  ((spec_l3At r_.Puts box).bind fun l3At =>
 (bif decide (l3At ≥ 0) then
 ((idx r_.Puts l3At).bind fun put =>
 some (put.Val, r_))
 else
 ((((spec_l3Saw r_.Reads box).bind fun l3Saw =>
 (bif (!l3Saw) then
 ((idx list box).bind fun box2 =>
 (need ((r_.Reads.length + 1) * 16 ≤ 140737488355328)
 (some (Exc.brk (r_.Reads ++ [(TRead.mk box box2.Ver)])))))
 else
 some (Exc.brk r_.Reads))) : Option (Exc (Int × TRun) (List TRead))).bind fun x => x.go some fun j => spec_l3Look_j1 list r_ box j)))
theorem spec_l3Look_fin (list : List TBox) (r_ : TRun) (box : Int) (r : Int × TRun) (h : spec_l3Look list r_ box = some r) : Fin cx spec_l3Look_X (spec_l3Look_R r) (spec_l3Look_O r) [.code spec_l3Look_c] (startS spec_l3Look_X [vsl 2 eBox list, .agg [vosl 95 2 eRead r_.Reads, vosl 40 2 ePut r_.Puts, vi r_.Val, vi r_.Code], vi box]) :=
  (bindD h fun l3At hl3At h =>
 (condD h (fun e1 h =>
 (bindD h fun put hput h =>
 (someD h fun e => (Fin.fin (cx := cx) (X := spec_l3Look_X) (res := spec_l3Look_R (put.Val, r_)) (outs := spec_l3Look_O (put.Val, r_)) Try.func57 [[], [(3, { a := .call [.val [some 2] [], .val [] []] true (spec_l3At_R l3At) (spec_l3At_O l3At) })], [(1, { d := some true })], [(5, { a := .row (ePut put) })]] [ACalls cx.P 30 [vsl 2 ePut r_.Puts, vi box] (spec_l3At_R l3At) (spec_l3At_O l3At), ScalR (spec_l3At_R l3At) ∧ ScalO (spec_l3At_O l3At), r_.Puts.length = r_.Puts.length, decide (l3At ≥ 0) = true, (0 : Int) ≤ l3At, l3At < ((r_.Puts.length : Nat) : Int), (r_.Puts.map ePut)[0 + l3At.toNat]? = some (ePut put), r_.Reads.length = r_.Reads.length, r_.Puts.length = r_.Puts.length] (.cons (spec_l3At_ok r_.Puts box l3At hl3At) (.cons ⟨rfl, scalO_none 2⟩ (.cons rfl (.cons e1 (.cons (idx0 hput) (.cons (idx1 hput) (.cons (map_idx0 hput) (.cons rfl (.cons rfl .nil))))))))) (by kernel_rfl)).is (congrArg spec_l3Look_R e) (congrArg spec_l3Look_O e)))) (fun e1 h =>
 (joinD (I := fun j : List TRead => Fin cx spec_l3Look_X (spec_l3Look_R r) (spec_l3Look_O r) spec_l3Look_k1 (spec_l3Look_S1 list r_ box j)) h (fun j h => spec_l3Look_j1_ok list r_ box r j h) (fun x1 h hc1 =>
  (bindD h fun l3Saw hl3Saw h =>
 (condD h (fun e2 h =>
 (bindD h fun box2 hbox2 h =>
 (needD h fun e3 h =>
 (jbrkD h hc1 fun hI => (Fin.seg [[], [(3, { a := .call [.val [some 2] [], .val [] []] true (spec_l3At_R l3At) (spec_l3At_O l3At) })], [(1, { d := some false })], [(3, { a := .call [.val [some 2] [], .val [] []] true (spec_l3Saw_R l3Saw) (spec_l3Saw_O l3Saw) }), (4, { d := some true })], [(5, { a := .row (eBox box2) }), (9, { a := .ck [] }), (10, { v := some (.own 26 0 2 0 (r_.Reads ++ [(TRead.mk box box2.Ver)]).length), e := some (erow 95 2 eRead (r_.Reads ++ [(TRead.mk box box2.Ver)])) })]] [] [0, 2, 4, 7] [(1, 0), (26, 0), (3, 0)] [ACalls cx.P 30 [vsl 2 ePut r_.Puts, vi box] (spec_l3At_R l3At) (spec_l3At_O l3At), ScalR (spec_l3At_R l3At) ∧ ScalO (spec_l3At_O l3At), r_.Puts.length = r_.Puts.length, decide (l3At ≥ 0) = false, ACalls cx.P 31 [vsl 2 eRead r_.Reads, vi box] (spec_l3Saw_R l3Saw) (spec_l3Saw_O l3Saw), ScalR (spec_l3Saw_R l3Saw) ∧ ScalO (spec_l3Saw_O l3Saw), r_.Reads.length = r_.Reads.length, (!l3Saw) = true, (0 : Int) ≤ box, box < ((list.length : Nat) : Int), (list.map eBox)[box.toNat]? = some (eBox box2), V.own 26 0 2 0 (r_.Reads.length + 1) = .own 26 0 2 0 (r_.Reads ++ [(TRead.mk box box2.Ver)]).length, Ent.row 95 2 (r_.Reads.length + 1) (r_.Reads.map eRead ++ [eRead (TRead.mk box box2.Ver)]) = erow 95 2 eRead (r_.Reads ++ [(TRead.mk box box2.Ver)]), r_.Reads.length = r_.Reads.length, (r_.Reads.length + 1) * 16 ≤ 140737488355328, 1 = [(TRead.mk box box2.Ver)].length] (.cons (spec_l3At_ok r_.Puts box l3At hl3At) (.cons ⟨rfl, scalO_none 2⟩ (.cons rfl (.cons e1 (.cons (spec_l3Saw_ok r_.Reads box l3Saw hl3Saw) (.cons ⟨rfl, scalO_none 2⟩ (.cons rfl (.cons e2 (.cons (idx0 hbox2) (.cons (idx1 hbox2) (.cons (map_idx hbox2) (.cons (by first | exact congrArg (V.own 26 0 2 0) List.length_append.symm | simp) (.cons (row_app rfl) (.cons rfl (.cons e3 (.cons (by rfl) .nil)))))))))))))))) hI (by kernel_rfl)))))) (fun e2 h =>
 (jbrkD h hc1 fun hI => (Fin.seg [[], [(3, { a := .call [.val [some 2] [], .val [] []] true (spec_l3At_R l3At) (spec_l3At_O l3At) })], [(1, { d := some false })], [(3, { a := .call [.val [some 2] [], .val [] []] true (spec_l3Saw_R l3Saw) (spec_l3Saw_O l3Saw) }), (4, { d := some false })]] [] [0, 2, 4, 7] [(1, 0), (0, 0), (3, 0)] [ACalls cx.P 30 [vsl 2 ePut r_.Puts, vi box] (spec_l3At_R l3At) (spec_l3At_O l3At), ScalR (spec_l3At_R l3At) ∧ ScalO (spec_l3At_O l3At), r_.Puts.length = r_.Puts.length, decide (l3At ≥ 0) = false, ACalls cx.P 31 [vsl 2 eRead r_.Reads, vi box] (spec_l3Saw_R l3Saw) (spec_l3Saw_O l3Saw), ScalR (spec_l3Saw_R l3Saw) ∧ ScalO (spec_l3Saw_O l3Saw), r_.Reads.length = r_.Reads.length, (!l3Saw) = false] (.cons (spec_l3At_ok r_.Puts box l3At hl3At) (.cons ⟨rfl, scalO_none 2⟩ (.cons rfl (.cons e1 (.cons (spec_l3Saw_ok r_.Reads box l3Saw hl3Saw) (.cons ⟨rfl, scalO_none 2⟩ (.cons rfl (.cons e2 .nil)))))))) hI (by kernel_rfl)))))))))))
theorem spec_l3Look_ok (list : List TBox) (r_ : TRun) (box : Int) (r : Int × TRun) (h : spec_l3Look list r_ box = some r) : ACalls cx.P 57 [vsl 2 eBox list, .agg [vosl 95 2 eRead r_.Reads, vosl 40 2 ePut r_.Puts, vi r_.Val, vi r_.Code], vi box] (spec_l3Look_R r) (spec_l3Look_O r) :=
  ACalls.of (cx := cx) (X := spec_l3Look_X) (c := spec_l3Look_c) Try.func57 (by kernel_rfl) (by kernel_rfl) (by kernel_rfl) (spec_l3Look_fin list r_ box r h)

/-! ### spec_l3Put -/
noncomputable def spec_l3Put_c : Code := bodyOf Try.f58
noncomputable def spec_l3Put_X : Sig := { f := 58, fn := Try.f58, rms := [.val [some 2, some 2, none, none] [some 95, some 40, none, none]], oms := [none, none, none] }
noncomputable def spec_l3Put_R (r : TRun) : V := .agg [vosl 95 2 eRead r.Reads, vosl 40 2 ePut r.Puts, vi r.Val, vi r.Code]
noncomputable def spec_l3Put_O (r : TRun) : List (Option V) := [none, none, none]
noncomputable def spec_l3Put (r_ : TRun) (box : Int) (val : Int) : Option TRun :=
  ((spec_l3At r_.Puts box).bind fun l3At =>
 (bif decide (l3At ≥ 0) then
 ((idx r_.Puts l3At).bind fun put =>
 some (TRun.mk r_.Reads (r_.Puts.set l3At.toNat (TPut.mk put.Box val)) r_.Val r_.Code))
 else
 (need ((r_.Puts.length + 1) * 16 ≤ 140737488355328)
 (some (TRun.mk r_.Reads (r_.Puts ++ [(TPut.mk box val)]) r_.Val r_.Code)))))
theorem spec_l3Put_fin (r_ : TRun) (box : Int) (val : Int) (r : TRun) (h : spec_l3Put r_ box val = some r) : Fin cx spec_l3Put_X (spec_l3Put_R r) (spec_l3Put_O r) [.code spec_l3Put_c] (startS spec_l3Put_X [.agg [vosl 95 2 eRead r_.Reads, vosl 40 2 ePut r_.Puts, vi r_.Val, vi r_.Code], vi box, vi val]) :=
  (bindD h fun l3At hl3At h =>
 (condD h (fun e1 h =>
 (bindD h fun put hput h =>
 (someD h fun e => (Fin.fin (cx := cx) (X := spec_l3Put_X) (res := spec_l3Put_R (TRun.mk r_.Reads (r_.Puts.set l3At.toNat (TPut.mk put.Box val)) r_.Val r_.Code)) (outs := spec_l3Put_O (TRun.mk r_.Reads (r_.Puts.set l3At.toNat (TPut.mk put.Box val)) r_.Val r_.Code)) Try.func58 [[], [(3, { a := .call [.val [some 2] [], .val [] []] true (spec_l3At_R l3At) (spec_l3At_O l3At) })], [(1, { d := some true })], [(6, { a := .rowck (ePut put) [], e := some (erow 40 2 ePut (r_.Puts.set l3At.toNat (TPut.mk put.Box val))) })], []] [ACalls cx.P 30 [vsl 2 ePut r_.Puts, vi box] (spec_l3At_R l3At) (spec_l3At_O l3At), ScalR (spec_l3At_R l3At) ∧ ScalO (spec_l3At_O l3At), r_.Puts.length = r_.Puts.length, decide (l3At ≥ 0) = true, (0 : Int) ≤ l3At, l3At < ((r_.Puts.length : Nat) : Int), Ent.row 40 2 r_.Puts.length ((r_.Puts.map ePut).set (0 + l3At.toNat) [vi put.Box, vi val]) = erow 40 2 ePut (r_.Puts.set l3At.toNat (TPut.mk put.Box val)), (r_.Puts.map ePut)[0 + l3At.toNat]? = some (ePut put), r_.Reads.length = r_.Reads.length, r_.Puts.length = (r_.Puts.set l3At.toNat (TPut.mk put.Box val)).length] (.cons (spec_l3At_ok r_.Puts box l3At hl3At) (.cons ⟨rfl, scalO_none 2⟩ (.cons rfl (.cons e1 (.cons (idx0 hput) (.cons (idx1 hput) (.cons (row_set rfl) (.cons (map_idx0 hput) (.cons rfl (.cons (by simp) .nil)))))))))) (by kernel_rfl)).is (congrArg spec_l3Put_R e) (congrArg spec_l3Put_O e)))) (fun e1 h =>
 (needD h fun e2 h =>
 (someD h fun e => (Fin.fin (cx := cx) (X := spec_l3Put_X) (res := spec_l3Put_R (TRun.mk r_.Reads (r_.Puts ++ [(TPut.mk box val)]) r_.Val r_.Code)) (outs := spec_l3Put_O (TRun.mk r_.Reads (r_.Puts ++ [(TPut.mk box val)]) r_.Val r_.Code)) Try.func58 [[], [(3, { a := .call [.val [some 2] [], .val [] []] true (spec_l3At_R l3At) (spec_l3At_O l3At) })], [(1, { d := some false })], [(5, { a := .ck [] }), (6, { v := some (.own 16 0 2 0 (r_.Puts ++ [(TPut.mk box val)]).length), e := some (erow 40 2 ePut (r_.Puts ++ [(TPut.mk box val)])) })], []] [ACalls cx.P 30 [vsl 2 ePut r_.Puts, vi box] (spec_l3At_R l3At) (spec_l3At_O l3At), ScalR (spec_l3At_R l3At) ∧ ScalO (spec_l3At_O l3At), r_.Puts.length = r_.Puts.length, decide (l3At ≥ 0) = false, V.own 16 0 2 0 (r_.Puts.length + 1) = .own 16 0 2 0 (r_.Puts ++ [(TPut.mk box val)]).length, Ent.row 40 2 (r_.Puts.length + 1) (r_.Puts.map ePut ++ [ePut (TPut.mk box val)]) = erow 40 2 ePut (r_.Puts ++ [(TPut.mk box val)]), r_.Puts.length = r_.Puts.length, (r_.Puts.length + 1) * 16 ≤ 140737488355328, 1 = [(TPut.mk box val)].length, r_.Reads.length = r_.Reads.length, (r_.Puts ++ [(TPut.mk box val)]).length = (r_.Puts ++ [(TPut.mk box val)]).length] (.cons (spec_l3At_ok r_.Puts box l3At hl3At) (.cons ⟨rfl, scalO_none 2⟩ (.cons rfl (.cons e1 (.cons (by first | exact congrArg (V.own 16 0 2 0) List.length_append.symm | simp) (.cons (row_app rfl) (.cons rfl (.cons e2 (.cons (by rfl) (.cons rfl (.cons rfl .nil))))))))))) (by kernel_rfl)).is (congrArg spec_l3Put_R e) (congrArg spec_l3Put_O e))))))
theorem spec_l3Put_ok (r_ : TRun) (box : Int) (val : Int) (r : TRun) (h : spec_l3Put r_ box val = some r) : ACalls cx.P 58 [.agg [vosl 95 2 eRead r_.Reads, vosl 40 2 ePut r_.Puts, vi r_.Val, vi r_.Code], vi box, vi val] (spec_l3Put_R r) (spec_l3Put_O r) :=
  ACalls.of (cx := cx) (X := spec_l3Put_X) (c := spec_l3Put_c) Try.func58 (by kernel_rfl) (by kernel_rfl) (by kernel_rfl) (spec_l3Put_fin r_ box val r h)

/-! ### spec_l3Step -/
noncomputable def spec_l3Step_c : Code := bodyOf Try.f37
noncomputable def spec_l3Step_X : Sig := { f := 37, fn := Try.f37, rms := [.val [some 2, some 2, none, none] [some 95, some 40, none, none]], oms := [none, none, some (2, .row), none] }
noncomputable def spec_l3Step_R (r : TRun × List Int) : V := .agg [vosl 95 2 eRead r.1.Reads, vosl 40 2 ePut r.1.Puts, vi r.1.Val, vi r.1.Code]
noncomputable def spec_l3Step_O (r : TRun × List Int) : List (Option V) := [none, none, some (vosl 3 1 eI r.2), none]
noncomputable def spec_l3Step_k1 : List Item := posI 2000 6 [true] [.code spec_l3Step_c]
noncomputable def spec_l3Step_S1 (i : TIns) (regs1 : List Int) (Reads : List TRead) (Puts : List TPut) (rVal : Int) (rCode : Int) : St := ⟨(bs 2 (.own 0 2 1 0 regs1.length :: (bs 2 (.ptr 1 0 0 :: (bs 1 (.ptr 4 0 0 :: (.ptr 5 0 0 :: (bs 90 [])))))))), [some [.dead, .dead, erow 3 1 eI regs1], some [.var 34 [.own 2 0 2 0 Reads.length, .own 3 0 2 0 Puts.length, vi rVal, vi rCode]], some [erow 95 2 eRead Reads], some [erow 40 2 ePut Puts], some [.var 76 [vi i.Kind, vi i.A, vi i.B, vi i.N]], some [.var 34 [.nil, .nil, vi 0, vi 0]]]⟩
noncomputable def spec_l3Step_k2 : List Item := posI 2000 8 [true, true] [.code spec_l3Step_c]
noncomputable def spec_l3Step_S2 (regs1 : List Int) (Reads : List TRead) (Puts : List TPut) (rVal : Int) (rCode1 : Int) : St := ⟨(bs 5 (.ptr 1 0 0 :: (bs 2 (.ptr 4 0 0 :: (bs 90 []))))), [some [.dead, .dead, erow 3 1 eI regs1], some [.var 34 [.own 2 0 2 0 Reads.length, .own 3 0 2 0 Puts.length, vi rVal, vi rCode1]], some [erow 95 2 eRead Reads], some [erow 40 2 ePut Puts], some [.var 34 [.nil, .nil, vi 0, vi 0]]]⟩
noncomputable def spec_l3Step_j1 (regs1 : List Int) (Reads : List TRead) (Puts : List TPut) (rVal : Int) (rCode1 : Int) : Option (TRun × List Int) :=
  some ((TRun.mk Reads Puts rVal rCode1), regs1)
theorem spec_l3Step_j1_ok (regs1 : List Int) (Reads : List TRead) (Puts : List TPut) (rVal : Int) (r : TRun × List Int) (rCode1 : Int) (h : spec_l3Step_j1 regs1 Reads Puts rVal rCode1 = some r) : Fin cx spec_l3Step_X (spec_l3Step_R r) (spec_l3Step_O r) spec_l3Step_k2 (spec_l3Step_S2 regs1 Reads Puts rVal rCode1) :=
  (someD h fun e => (Fin.fin (cx := cx) (X := spec_l3Step_X) (res := spec_l3Step_R ((TRun.mk Reads Puts rVal rCode1), regs1)) (outs := spec_l3Step_O ((TRun.mk Reads Puts rVal rCode1), regs1)) Try.func37 [[]] [Reads.length = Reads.length, Puts.length = Puts.length, regs1.length = regs1.length] (.cons rfl (.cons rfl (.cons rfl .nil))) (by kernel_rfl)).is (congrArg spec_l3Step_R e) (congrArg spec_l3Step_O e))
noncomputable def spec_l3Step_j2 (i : TIns) (regs1 : List Int) (Reads : List TRead) (Puts : List TPut) (rVal : Int) (rCode : Int) : Option (TRun × List Int) :=
  (((bif (i.Kind != 2) then
 ((idx regs1 i.A).bind fun y =>
 ((spec_l1Num y).bind fun l1Num =>
 (bif (!l1Num) then
 some (Exc.brk 2)
 else
 some (Exc.brk rCode))))
 else
 some (Exc.brk rCode)) : Option (Exc (TRun × List Int) Int)).bind fun x => x.go some fun j => spec_l3Step_j1 regs1 Reads Puts rVal j)
theorem spec_l3Step_j2_ok (i : TIns) (r : TRun × List Int) (regs1 : List Int) (Reads : List TRead) (Puts : List TPut) (rVal : Int) (rCode : Int) (h : spec_l3Step_j2 i regs1 Reads Puts rVal rCode = some r) : Fin cx spec_l3Step_X (spec_l3Step_R r) (spec_l3Step_O r) spec_l3Step_k1 (spec_l3Step_S1 i regs1 Reads Puts rVal rCode) :=
  (joinD (I := fun j : Int => Fin cx spec_l3Step_X (spec_l3Step_R r) (spec_l3Step_O r) spec_l3Step_k2 (spec_l3Step_S2 regs1 Reads Puts rVal j)) h (fun j h => spec_l3Step_j1_ok regs1 Reads Puts rVal r j h) (fun x1 h hc1 =>
  (condD h (fun e1 h =>
 (bindD h fun y hy h =>
 (bindD h fun l1Num hl1Num h =>
 (condD h (fun e2 h =>
 (jbrkD h hc1 fun hI => (Fin.seg [[(3, { d := some true }), (8, { a := .row (eI y) }), (9, { a := .call [.val [] []] false (spec_l1Num_R l1Num) (spec_l1Num_O l1Num) }), (11, { d := some true })], []] [] [5, 8] [(1, 0), (2, 0), (3, 0), (5, 0)] [(i.Kind != 2) = true, (0 : Int) ≤ i.A, i.A < ((regs1.length : Nat) : Int), (regs1.map eI)[0 + i.A.toNat]? = some (eI y), ACalls cx.P 55 [vi y] (spec_l1Num_R l1Num) (spec_l1Num_O l1Num), (!l1Num) = true] (.cons e1 (.cons (idx0 hy) (.cons (idx1 hy) (.cons (map_idx0 hy) (.cons (spec_l1Num_ok y l1Num hl1Num) (.cons e2 .nil)))))) hI (by kernel_rfl)))) (fun e2 h =>
 (jbrkD h hc1 fun hI => (Fin.seg [[(3, { d := some true }), (8, { a := .row (eI y) }), (9, { a := .call [.val [] []] false (spec_l1Num_R l1Num) (spec_l1Num_O l1Num) }), (11, { d := some false })]] [] [5, 8] [(1, 0), (2, 0), (3, 0), (5, 0)] [(i.Kind != 2) = true, (0 : Int) ≤ i.A, i.A < ((regs1.length : Nat) : Int), (regs1.map eI)[0 + i.A.toNat]? = some (eI y), ACalls cx.P 55 [vi y] (spec_l1Num_R l1Num) (spec_l1Num_O l1Num), (!l1Num) = false] (.cons e1 (.cons (idx0 hy) (.cons (idx1 hy) (.cons (map_idx0 hy) (.cons (spec_l1Num_ok y l1Num hl1Num) (.cons e2 .nil)))))) hI (by kernel_rfl)))))))) (fun e1 h =>
 (jbrkD h hc1 fun hI => (Fin.seg [[(3, { d := some false })]] [] [5, 8] [(1, 0), (2, 0), (3, 0), (5, 0)] [(i.Kind != 2) = false] (.cons e1 .nil) hI (by kernel_rfl)))))))
noncomputable def spec_l3Step (list : List TBox) (r_ : TRun) (regs : List Int) (i : TIns) : Option (TRun × List Int) :=
  (((bif (i.Kind == 1) then
 ((spec_l3Look list r_ i.B).bind fun l3Look =>
 ((idx regs i.A).bind fun y1 =>
 some (Exc.brk (regs.set i.A.toNat l3Look.1, l3Look.2.Reads, l3Look.2.Puts, l3Look.2.Val, l3Look.2.Code))))
 else
 (bif (i.Kind == 2) then
 ((idx regs i.B).bind fun y2 =>
 ((spec_l3Put r_ i.A y2).bind fun l3Put =>
 some (Exc.brk (regs, l3Put.Reads, l3Put.Puts, l3Put.Val, l3Put.Code))))
 else
 (bif (i.Kind == 3) then
 ((idx regs i.A).bind fun y3 =>
 some (Exc.brk (regs.set i.A.toNat i.N, r_.Reads, r_.Puts, r_.Val, r_.Code)))
 else
 (bif (i.Kind == 4) then
 ((idx regs i.A).bind fun y4 =>
 ((idx regs i.B).bind fun y5 =>
 some (Exc.brk (regs.set i.A.toNat (w64 (y4 + y5)), r_.Reads, r_.Puts, r_.Val, r_.Code))))
 else
 (bif (i.Kind == 5) then
 ((idx regs i.A).bind fun y6 =>
 ((idx regs i.B).bind fun y7 =>
 some (Exc.brk (regs.set i.A.toNat (w64 (y6 - y7)), r_.Reads, r_.Puts, r_.Val, r_.Code))))
 else
 (bif (i.Kind == 7) then
 some (Exc.brk (regs, r_.Reads, r_.Puts, r_.Val, 1))
 else
 some (Exc.brk (regs, r_.Reads, r_.Puts, r_.Val, r_.Code)))))))) : Option (Exc (TRun × List Int) ((List Int) × (List TRead) × (List TPut) × Int × Int))).bind fun x => x.go some fun j => spec_l3Step_j2 i j.1 j.2.1 j.2.2.1 j.2.2.2.1 j.2.2.2.2)
theorem spec_l3Step_fin (list : List TBox) (r_ : TRun) (regs : List Int) (i : TIns) (r : TRun × List Int) (h : spec_l3Step list r_ regs i = some r) : Fin cx spec_l3Step_X (spec_l3Step_R r) (spec_l3Step_O r) [.code spec_l3Step_c] (startS spec_l3Step_X [vsl 2 eBox list, .agg [vosl 95 2 eRead r_.Reads, vosl 40 2 ePut r_.Puts, vi r_.Val, vi r_.Code], vosl 3 1 eI regs, .agg (eIns i)]) :=
  (joinD (I := fun j : (List Int) × (List TRead) × (List TPut) × Int × Int => Fin cx spec_l3Step_X (spec_l3Step_R r) (spec_l3Step_O r) spec_l3Step_k1 (spec_l3Step_S1 i j.1 j.2.1 j.2.2.1 j.2.2.2.1 j.2.2.2.2)) h (fun j h => spec_l3Step_j2_ok i r j.1 j.2.1 j.2.2.1 j.2.2.2.1 j.2.2.2.2 h) (fun x1 h hc1 =>
  (condD h (fun e3 h =>
 (bindD h fun l3Look hl3Look h =>
 (bindD h fun y1 hy1 h =>
 (jbrkD h hc1 fun hI => (Fin.seg [[], [], [(1, { d := some true })], [(4, { a := .call [.val [some 2] [], .val [some 2, some 2, none, none] [some 95, some 40, none, none], .val [] []] false (spec_l3Look_R l3Look) (spec_l3Look_O l3Look) })], [(5, { a := .rowck (eI y1) [], e := some (erow 3 1 eI (regs.set i.A.toNat l3Look.1)) })], []] [.is (.tmp 2) (.own 0 2 1 0 (regs.set i.A.toNat l3Look.1).length)] [2, 5, 7, 8] [(1, 0), (12, 0), (12, 1), (2, 0), (3, 0)] [(i.Kind == 1) = true, ACalls cx.P 57 [vsl 2 eBox list, .agg [vosl 95 2 eRead r_.Reads, vosl 40 2 ePut r_.Puts, vi r_.Val, vi r_.Code], vi i.B] (spec_l3Look_R l3Look) (spec_l3Look_O l3Look), r_.Reads.length = r_.Reads.length, r_.Puts.length = r_.Puts.length, (0 : Int) ≤ i.A, i.A < ((regs.length : Nat) : Int), Ent.row 3 1 regs.length ((regs.map eI).set (0 + i.A.toNat) [vi l3Look.1]) = erow 3 1 eI (regs.set i.A.toNat l3Look.1), (regs.map eI)[0 + i.A.toNat]? = some (eI y1), (.own 0 2 1 0 regs.length : V) = .own 0 2 1 0 (regs.set i.A.toNat l3Look.1).length] (.cons e3 (.cons (spec_l3Look_ok list r_ i.B l3Look hl3Look) (.cons rfl (.cons rfl (.cons (idx0 hy1) (.cons (idx1 hy1) (.cons (row_set rfl) (.cons (map_idx0 hy1) (.cons (by simp) .nil))))))))) hI (by kernel_rfl)))))) (fun e3 h =>
 (condD h (fun e4 h =>
 (bindD h fun y2 hy2 h =>
 (bindD h fun l3Put hl3Put h =>
 (jbrkD h hc1 fun hI => (Fin.seg [[], [], [(1, { d := some false })], [(1, { d := some true })], [(7, { a := .row (eI y2) }), (8, { a := .call [.val [some 2, some 2, none, none] [some 95, some 40, none, none], .val [] [], .val [] []] false (spec_l3Put_R l3Put) (spec_l3Put_O l3Put) })]] [] [2, 5, 7, 8] [(1, 0), (18, 0), (18, 1), (2, 0), (3, 0)] [(i.Kind == 1) = false, (i.Kind == 2) = true, (0 : Int) ≤ i.B, i.B < ((regs.length : Nat) : Int), (regs.map eI)[0 + i.B.toNat]? = some (eI y2), ACalls cx.P 58 [.agg [vosl 95 2 eRead r_.Reads, vosl 40 2 ePut r_.Puts, vi r_.Val, vi r_.Code], vi i.A, vi y2] (spec_l3Put_R l3Put) (spec_l3Put_O l3Put), r_.Reads.length = r_.Reads.length, r_.Puts.length = r_.Puts.length] (.cons e3 (.cons e4 (.cons (idx0 hy2) (.cons (idx1 hy2) (.cons (map_idx0 hy2) (.cons (spec_l3Put_ok r_ i.A y2 l3Put hl3Put) (.cons rfl (.cons rfl .nil)))))))) hI (by kernel_rfl)))))) (fun e4 h =>
 (condD h (fun e5 h =>
 (bindD h fun y3 hy3 h =>
 (jbrkD h hc1 fun hI => (Fin.seg [[], [], [(1, { d := some false })], [(1, { d := some false })], [(1, { d := some true })], [(6, { a := .rowck (eI y3) [], e := some (erow 3 1 eI (regs.set i.A.toNat i.N)) })]] [.is (.tmp 2) (.own 0 2 1 0 (regs.set i.A.toNat i.N).length)] [2, 5, 7, 8] [(1, 0), (0, 0), (0, 1), (2, 0), (3, 0)] [(i.Kind == 1) = false, (i.Kind == 2) = false, (i.Kind == 3) = true, (0 : Int) ≤ i.A, i.A < ((regs.length : Nat) : Int), Ent.row 3 1 regs.length ((regs.map eI).set (0 + i.A.toNat) [vi i.N]) = erow 3 1 eI (regs.set i.A.toNat i.N), (regs.map eI)[0 + i.A.toNat]? = some (eI y3), (.own 0 2 1 0 regs.length : V) = .own 0 2 1 0 (regs.set i.A.toNat i.N).length] (.cons e3 (.cons e4 (.cons e5 (.cons (idx0 hy3) (.cons (idx1 hy3) (.cons (row_set rfl) (.cons (map_idx0 hy3) (.cons (by simp) .nil)))))))) hI (by kernel_rfl))))) (fun e5 h =>
 (condD h (fun e6 h =>
 (bindD h fun y4 hy4 h =>
 (bindD h fun y5 hy5 h =>
 (jbrkD h hc1 fun hI => (Fin.seg [[], [], [(1, { d := some false })], [(1, { d := some false })], [(1, { d := some false })], [(1, { d := some true })], [(7, { a := .row (eI y4) }), (12, { a := .row (eI y5) }), (15, { a := .rowck (eI y4) [], e := some (erow 3 1 eI (regs.set i.A.toNat (w64 (y4 + y5)))) })]] [.is (.tmp 2) (.own 0 2 1 0 (regs.set i.A.toNat (w64 (y4 + y5))).length)] [2, 5, 7, 8] [(1, 0), (0, 0), (0, 1), (2, 0), (3, 0)] [(i.Kind == 1) = false, (i.Kind == 2) = false, (i.Kind == 3) = false, (i.Kind == 4) = true, (0 : Int) ≤ i.A, i.A < ((regs.length : Nat) : Int), (regs.map eI)[0 + i.A.toNat]? = some (eI y4), (0 : Int) ≤ i.B, i.B < ((regs.length : Nat) : Int), (regs.map eI)[0 + i.B.toNat]? = some (eI y5), (0 : Int) ≤ i.A, i.A < ((regs.length : Nat) : Int), Ent.row 3 1 regs.length ((regs.map eI).set (0 + i.A.toNat) [vi (w64 (y4 + y5))]) = erow 3 1 eI (regs.set i.A.toNat (w64 (y4 + y5))), (regs.map eI)[0 + i.A.toNat]? = some (eI y4), (.own 0 2 1 0 regs.length : V) = .own 0 2 1 0 (regs.set i.A.toNat (w64 (y4 + y5))).length] (.cons e3 (.cons e4 (.cons e5 (.cons e6 (.cons (idx0 hy4) (.cons (idx1 hy4) (.cons (map_idx0 hy4) (.cons (idx0 hy5) (.cons (idx1 hy5) (.cons (map_idx0 hy5) (.cons (idx0 hy4) (.cons (idx1 hy4) (.cons (row_set rfl) (.cons (map_idx0 hy4) (.cons (by simp) .nil))))))))))))))) hI (by kernel_rfl)))))) (fun e6 h =>
 (condD h (fun e7 h =>
 (bindD h fun y6 hy6 h =>
 (bindD h fun y7 hy7 h =>
 (jbrkD h hc1 fun hI => (Fin.seg [[], [], [(1, { d := some false })], [(1, { d := some false })], [(1, { d := some false })], [(1, { d := some false })], [(1, { d := some true })], [(7, { a := .row (eI y6) }), (12, { a := .row (eI y7) }), (15, { a := .rowck (eI y6) [], e := some (erow 3 1 eI (regs.set i.A.toNat (w64 (y6 - y7)))) })]] [.is (.tmp 2) (.own 0 2 1 0 (regs.set i.A.toNat (w64 (y6 - y7))).length)] [2, 5, 7, 8] [(1, 0), (0, 0), (0, 1), (2, 0), (3, 0)] [(i.Kind == 1) = false, (i.Kind == 2) = false, (i.Kind == 3) = false, (i.Kind == 4) = false, (i.Kind == 5) = true, (0 : Int) ≤ i.A, i.A < ((regs.length : Nat) : Int), (regs.map eI)[0 + i.A.toNat]? = some (eI y6), (0 : Int) ≤ i.B, i.B < ((regs.length : Nat) : Int), (regs.map eI)[0 + i.B.toNat]? = some (eI y7), (0 : Int) ≤ i.A, i.A < ((regs.length : Nat) : Int), Ent.row 3 1 regs.length ((regs.map eI).set (0 + i.A.toNat) [vi (w64 (y6 - y7))]) = erow 3 1 eI (regs.set i.A.toNat (w64 (y6 - y7))), (regs.map eI)[0 + i.A.toNat]? = some (eI y6), (.own 0 2 1 0 regs.length : V) = .own 0 2 1 0 (regs.set i.A.toNat (w64 (y6 - y7))).length] (.cons e3 (.cons e4 (.cons e5 (.cons e6 (.cons e7 (.cons (idx0 hy6) (.cons (idx1 hy6) (.cons (map_idx0 hy6) (.cons (idx0 hy7) (.cons (idx1 hy7) (.cons (map_idx0 hy7) (.cons (idx0 hy6) (.cons (idx1 hy6) (.cons (row_set rfl) (.cons (map_idx0 hy6) (.cons (by simp) .nil)))))))))))))))) hI (by kernel_rfl)))))) (fun e7 h =>
 (condD h (fun e8 h =>
 (jbrkD h hc1 fun hI => (Fin.seg [[], [], [(1, { d := some false })], [(1, { d := some false })], [(1, { d := some false })], [(1, { d := some false })], [(1, { d := some false })], [(1, { d := some true })], []] [] [2, 5, 7, 8] [(1, 0), (0, 0), (0, 1), (2, 0), (3, 0)] [(i.Kind == 1) = false, (i.Kind == 2) = false, (i.Kind == 3) = false, (i.Kind == 4) = false, (i.Kind == 5) = false, (i.Kind == 7) = true] (.cons e3 (.cons e4 (.cons e5 (.cons e6 (.cons e7 (.cons e8 .nil)))))) hI (by kernel_rfl)))) (fun e8 h =>
 (jbrkD h hc1 fun hI => (Fin.seg [[], [], [(1, { d := some false })], [(1, { d := some false })], [(1, { d := some false })], [(1, { d := some false })], [(1, { d := some false })], [(1, { d := some false })]] [] [2, 5, 7, 8] [(1, 0), (0, 0), (0, 1), (2, 0), (3, 0)] [(i.Kind == 1) = false, (i.Kind == 2) = false, (i.Kind == 3) = false, (i.Kind == 4) = false, (i.Kind == 5) = false, (i.Kind == 7) = false] (.cons e3 (.cons e4 (.cons e5 (.cons e6 (.cons e7 (.cons e8 .nil)))))) hI (by kernel_rfl)))))))))))))))))
theorem spec_l3Step_ok (list : List TBox) (r_ : TRun) (regs : List Int) (i : TIns) (r : TRun × List Int) (h : spec_l3Step list r_ regs i = some r) : ACalls cx.P 37 [vsl 2 eBox list, .agg [vosl 95 2 eRead r_.Reads, vosl 40 2 ePut r_.Puts, vi r_.Val, vi r_.Code], vosl 3 1 eI regs, .agg (eIns i)] (spec_l3Step_R r) (spec_l3Step_O r) :=
  ACalls.of (cx := cx) (X := spec_l3Step_X) (c := spec_l3Step_c) Try.func37 (by kernel_rfl) (by kernel_rfl) (by kernel_rfl) (spec_l3Step_fin list r_ regs i r h)

/-! ### spec_ExecRun -/
noncomputable def spec_ExecRun_c : Code := bodyOf Try.f21
noncomputable def spec_ExecRun_X : Sig := { f := 21, fn := Try.f21, rms := [.val [some 2, some 2, none, none] [some 95, some 40, none, none]], oms := [none, none] }
noncomputable def spec_ExecRun_R (r : TRun) : V := .agg [vosl 95 2 eRead r.Reads, vosl 40 2 ePut r.Puts, vi r.Val, vi r.Code]
noncomputable def spec_ExecRun_O (r : TRun) : List (Option V) := [none, none]
noncomputable def spec_ExecRun_k1 : List Item := posI 2000 6 [false, false] [.code spec_ExecRun_c]
noncomputable def spec_ExecRun_S1 (Reads1 : List TRead) (Puts1 : List TPut) (regs1 : List Int) (rVal1 : Int) (rCode1 : Int) : St := ⟨(bs 4 (.ptr 1 0 0 :: (.ptr 2 0 0 :: (.own 5 0 1 0 regs1.length :: (bs 61 []))))), [some [], some [.var 34 [.nil, .nil, vi 0, vi 0]], some [.var 34 [.own 3 0 2 0 Reads1.length, .own 4 0 2 0 Puts1.length, vi rVal1, vi rCode1]], some [erow 95 2 eRead Reads1], some [erow 40 2 ePut Puts1], some [erow 3 1 eI regs1]]⟩
noncomputable def spec_ExecRun_k2 (Reads1 : List TRead) (Puts1 : List TPut) (regs1 : List Int) (rVal1 : Int) (rCode1 : Int) : Option TRun :=
  (bif (rCode1 != 0) then
 some (TRun.mk Reads1 [] rVal1 rCode1)
 else
 ((idx regs1 0).bind fun y =>
 some (TRun.mk Reads1 Puts1 y rCode1)))
theorem spec_ExecRun_k2_ok (r : TRun) (Reads1 : List TRead) (Puts1 : List TPut) (regs1 : List Int) (rVal1 : Int) (rCode1 : Int) (h : spec_ExecRun_k2 Reads1 Puts1 regs1 rVal1 rCode1 = some r) : Fin cx spec_ExecRun_X (spec_ExecRun_R r) (spec_ExecRun_O r) spec_ExecRun_k1 (spec_ExecRun_S1 Reads1 Puts1 regs1 rVal1 rCode1) :=
  (condD h (fun e4 h =>
 (someD h fun e => (Fin.fin (cx := cx) (X := spec_ExecRun_X) (res := spec_ExecRun_R (TRun.mk Reads1 [] rVal1 rCode1)) (outs := spec_ExecRun_O (TRun.mk Reads1 [] rVal1 rCode1)) Try.func21 [[(2, { d := some true })], [], []] [(rCode1 != 0) = true, Reads1.length = Reads1.length] (.cons e4 (.cons rfl .nil)) (by kernel_rfl)).is (congrArg spec_ExecRun_R e) (congrArg spec_ExecRun_O e))) (fun e4 h =>
 (bindD h fun y hy h =>
 (someD h fun e => (Fin.fin (cx := cx) (X := spec_ExecRun_X) (res := spec_ExecRun_R (TRun.mk Reads1 Puts1 y rCode1)) (outs := spec_ExecRun_O (TRun.mk Reads1 Puts1 y rCode1)) Try.func21 [[(2, { d := some false })], [(2, { a := .row (eI y) })], []] [(rCode1 != 0) = false, (0 : Int) ≤ 0, 0 < ((regs1.length : Nat) : Int), (regs1.map eI)[0 + (0 : Int).toNat]? = some (eI y), Reads1.length = Reads1.length, Puts1.length = Puts1.length] (.cons e4 (.cons (idx0 hy) (.cons (idx1 hy) (.cons (map_idx0 hy) (.cons rfl (.cons rfl .nil)))))) (by kernel_rfl)).is (congrArg spec_ExecRun_R e) (congrArg spec_ExecRun_O e)))))
noncomputable def spec_ExecRun_k3 : List Item := posI 2000 5 [false] [.code spec_ExecRun_c]
noncomputable def spec_ExecRun_S2 (list : List TBox) (prog : List TIns) (regs : List Int) (Reads : List TRead) (Puts : List TPut) (k : Int) (rVal : Int) (rCode : Int) : St := ⟨(vsl 2 eBox list :: (vsl 4 eIns prog :: (bs 2 (.ptr 1 0 0 :: (.ptr 2 0 0 :: (.own 3 0 1 0 regs.length :: (vi k :: (bs 60 [])))))))), [some [], some [.var 34 [.nil, .nil, vi 0, vi 0]], some [.var 34 [.own 4 0 2 0 Reads.length, .own 5 0 2 0 Puts.length, vi rVal, vi rCode]], some [erow 3 1 eI regs], some [erow 95 2 eRead Reads], some [erow 40 2 ePut Puts]]⟩
noncomputable def spec_ExecRun_k4 : List Item := posI 2000 10 [false, true, true, true] [.code spec_ExecRun_c]
noncomputable def spec_ExecRun_S3 (list : List TBox) (prog : List TIns) (regs : List Int) (Reads : List TRead) (Puts : List TPut) (rVal : Int) (rCode : Int) (k1 : Int) : St := ⟨(vsl 2 eBox list :: (vsl 4 eIns prog :: (bs 2 (.ptr 1 0 0 :: (.ptr 2 0 0 :: (.own 5 0 1 0 regs.length :: (vi k1 :: (bs 60 [])))))))), [some [], some [.var 34 [.nil, .nil, vi 0, vi 0]], some [.var 34 [.own 3 0 2 0 Reads.length, .own 4 0 2 0 Puts.length, vi rVal, vi rCode]], some [erow 95 2 eRead Reads], some [erow 40 2 ePut Puts], some [erow 3 1 eI regs]]⟩
noncomputable def spec_ExecRun_j1 (regs : List Int) (Reads : List TRead) (Puts : List TPut) (rVal : Int) (rCode : Int) (k1 : Int) : Option (Stp TRun ((List Int) × (List TRead) × (List TPut) × Int × Int × Int) ((List TRead) × (List TPut) × (List Int) × Int × Int)) :=
  some (Stp.nxt (regs, Reads, Puts, w64 (k1 + 1), rVal, rCode))
theorem spec_ExecRun_j1_ok (list : List TBox) (prog : List TIns) (regs : List Int) (Reads : List TRead) (Puts : List TPut) (rVal : Int) (rCode : Int) (res : V) (outs : List (Option V)) (x1 : Exc TRun ((List TRead) × (List TPut) × (List Int) × Int × Int)) (hb1 : ∀ s : (List TRead) × (List TPut) × (List Int) × Int × Int, x1 = .brk s → Fin cx spec_ExecRun_X res outs spec_ExecRun_k1 (spec_ExecRun_S1 s.1 s.2.1 s.2.2.1 s.2.2.2.1 s.2.2.2.2)) (hr1 : ∀ v : TRun, x1 = .ret v → (res = spec_ExecRun_R v ∧ outs = spec_ExecRun_O v)) (st1 : Stp TRun ((List Int) × (List TRead) × (List TPut) × Int × Int × Int) ((List TRead) × (List TPut) × (List Int) × Int × Int)) (hc1 : Cont x1 (fun s : (List Int) × (List TRead) × (List TPut) × Int × Int × Int => Fin cx spec_ExecRun_X res outs spec_ExecRun_k3 (spec_ExecRun_S2 list prog s.1 s.2.1 s.2.2.1 s.2.2.2.1 s.2.2.2.2.1 s.2.2.2.2.2)) st1) (k1 : Int) (h : spec_ExecRun_j1 regs Reads Puts rVal rCode k1 = some st1) : Fin cx spec_ExecRun_X res outs spec_ExecRun_k4 (spec_ExecRun_S3 list prog regs Reads Puts rVal rCode k1) :=
  (nxtD h hc1 fun hI => (Fin.seg [[]] [] [0, 1, 4, 5, 6, 7] [(1, 0), (2, 0), (5, 0), (3, 0), (4, 0)] [] .nil hI (by kernel_rfl)))
noncomputable def spec_ExecRun_b1 (list : List TBox) (prog : List TIns) (regs : List Int) (Reads : List TRead) (Puts : List TPut) (k : Int) (rVal : Int) (rCode : Int) : Option (Stp TRun ((List Int) × (List TRead) × (List TPut) × Int × Int × Int) ((List TRead) × (List TPut) × (List Int) × Int × Int)) :=
  (bif decide (k < (prog.length : Int)) then
 (bif (rCode == 0) then
 ((idx prog k).bind fun ins =>
 (bif (ins.Kind == 6) then
 ((((idx regs ins.A).bind fun y1 =>
 ((idx regs ins.B).bind fun y2 =>
 (bif decide (y1 < y2) then
 some (Exc.brk (w64 (k + ins.N)))
 else
 some (Exc.brk k)))) : Option (Exc (Stp TRun ((List Int) × (List TRead) × (List TPut) × Int × Int × Int) ((List TRead) × (List TPut) × (List Int) × Int × Int)) Int)).bind fun x => x.go some fun j => spec_ExecRun_j1 regs Reads Puts rVal rCode j)
 else
 ((spec_l3Step list (TRun.mk Reads Puts rVal rCode) regs ins).bind fun l3Step =>
 (need (regs.length = l3Step.2.length)
 (some (Stp.nxt (l3Step.2, l3Step.1.Reads, l3Step.1.Puts, w64 (k + 1), l3Step.1.Val, l3Step.1.Code)))))))
 else
 some (Stp.brk (Reads, Puts, regs, rVal, rCode)))
 else
 some (Stp.brk (Reads, Puts, regs, rVal, rCode)))
theorem spec_ExecRun_b1_ok (list : List TBox) (prog : List TIns) (res : V) (outs : List (Option V)) (x1 : Exc TRun ((List TRead) × (List TPut) × (List Int) × Int × Int)) (hb1 : ∀ s : (List TRead) × (List TPut) × (List Int) × Int × Int, x1 = .brk s → Fin cx spec_ExecRun_X res outs spec_ExecRun_k1 (spec_ExecRun_S1 s.1 s.2.1 s.2.2.1 s.2.2.2.1 s.2.2.2.2)) (hr1 : ∀ v : TRun, x1 = .ret v → (res = spec_ExecRun_R v ∧ outs = spec_ExecRun_O v)) (st1 : Stp TRun ((List Int) × (List TRead) × (List TPut) × Int × Int × Int) ((List TRead) × (List TPut) × (List Int) × Int × Int)) (hc1 : Cont x1 (fun s : (List Int) × (List TRead) × (List TPut) × Int × Int × Int => Fin cx spec_ExecRun_X res outs spec_ExecRun_k3 (spec_ExecRun_S2 list prog s.1 s.2.1 s.2.2.1 s.2.2.2.1 s.2.2.2.2.1 s.2.2.2.2.2)) st1) (regs : List Int) (Reads : List TRead) (Puts : List TPut) (k : Int) (rVal : Int) (rCode : Int) (h : spec_ExecRun_b1 list prog regs Reads Puts k rVal rCode = some st1) : Fin cx spec_ExecRun_X res outs spec_ExecRun_k3 (spec_ExecRun_S2 list prog regs Reads Puts k rVal rCode) :=
  (condD h (fun e5 h =>
 (condD h (fun e6 h =>
 (bindD h fun ins hins h =>
 (condD h (fun e7 h =>
 (joinD (I := fun j : Int => Fin cx spec_ExecRun_X res outs spec_ExecRun_k4 (spec_ExecRun_S3 list prog regs Reads Puts rVal rCode j)) h (fun j h => spec_ExecRun_j1_ok list prog regs Reads Puts rVal rCode res outs x1 hb1 hr1 st1 hc1 j h) (fun x2 h hc2 =>
  (bindD h fun y1 hy1 h =>
 (bindD h fun y2 hy2 h =>
 (condD h (fun e8 h =>
 (jbrkD h hc2 fun hI => (Fin.seg [[(4, { d := some true }), (8, { d := some true })], [(2, { a := .row (eIns ins) })], [(2, { d := some true })], [(4, { a := .row (eI y1) }), (9, { a := .row (eI y2) }), (10, { d := some true })], []] [] [0, 1, 4, 5, 6, 7] [(1, 0), (2, 0), (4, 0), (5, 0), (3, 0)] [decide (k < (prog.length : Int)) = true, (rCode == 0) = true, (0 : Int) ≤ k, k < ((prog.length : Nat) : Int), (prog.map eIns)[k.toNat]? = some (eIns ins), (ins.Kind == 6) = true, (0 : Int) ≤ ins.A, ins.A < ((regs.length : Nat) : Int), (regs.map eI)[0 + ins.A.toNat]? = some (eI y1), (0 : Int) ≤ ins.B, ins.B < ((regs.length : Nat) : Int), (regs.map eI)[0 + ins.B.toNat]? = some (eI y2), decide (y1 < y2) = true] (.cons e5 (.cons e6 (.cons (idx0 hins) (.cons (idx1 hins) (.cons (map_idx hins) (.cons e7 (.cons (idx0 hy1) (.cons (idx1 hy1) (.cons (map_idx0 hy1) (.cons (idx0 hy2) (.cons (idx1 hy2) (.cons (map_idx0 hy2) (.cons e8 .nil))))))))))))) hI (by kernel_rfl)))) (fun e8 h =>
 (jbrkD h hc2 fun hI => (Fin.seg [[(4, { d := some true }), (8, { d := some true })], [(2, { a := .row (eIns ins) })], [(2, { d := some true })], [(4, { a := .row (eI y1) }), (9, { a := .row (eI y2) }), (10, { d := some false })]] [] [0, 1, 4, 5, 6, 7] [(1, 0), (2, 0), (4, 0), (5, 0), (3, 0)] [decide (k < (prog.length : Int)) = true, (rCode == 0) = true, (0 : Int) ≤ k, k < ((prog.length : Nat) : Int), (prog.map eIns)[k.toNat]? = some (eIns ins), (ins.Kind == 6) = true, (0 : Int) ≤ ins.A, ins.A < ((regs.length : Nat) : Int), (regs.map eI)[0 + ins.A.toNat]? = some (eI y1), (0 : Int) ≤ ins.B, ins.B < ((regs.length : Nat) : Int), (regs.map eI)[0 + ins.B.toNat]? = some (eI y2), decide (y1 < y2) = false] (.cons e5 (.cons e6 (.cons (idx0 hins) (.cons (idx1 hins) (.cons (map_idx hins) (.cons e7 (.cons (idx0 hy1) (.cons (idx1 hy1) (.cons (map_idx0 hy1) (.cons (idx0 hy2) (.cons (idx1 hy2) (.cons (map_idx0 hy2) (.cons e8 .nil))))))))))))) hI (by kernel_rfl)))))))))) (fun e7 h =>
 (bindD h fun l3Step hl3Step h =>
 (needD h fun e9 h =>
 (nxtD h hc1 fun hI => (Fin.seg [[(4, { d := some true }), (8, { d := some true })], [(2, { a := .row (eIns ins) })], [(2, { d := some false })], [(4, { a := .call [.val [some 2] [], .val [some 2, some 2, none, none] [some 95, some 40, none, none], .row, .val [] []] false (spec_l3Step_R l3Step) (spec_l3Step_O l3Step) })], []] [.is (.tmp 6) (.own 3 0 1 0 l3Step.2.length)] [0, 1, 4, 5, 6, 7] [(1, 0), (2, 0), (3, 0), (28, 0), (28, 1)] [decide (k < (prog.length : Int)) = true, (rCode == 0) = true, (0 : Int) ≤ k, k < ((prog.length : Nat) : Int), (prog.map eIns)[k.toNat]? = some (eIns ins), (ins.Kind == 6) = false, ACalls cx.P 37 [vsl 2 eBox list, .agg [vosl 95 2 eRead (TRun.mk Reads Puts rVal rCode).Reads, vosl 40 2 ePut (TRun.mk Reads Puts rVal rCode).Puts, vi (TRun.mk Reads Puts rVal rCode).Val, vi (TRun.mk Reads Puts rVal rCode).Code], vosl 3 1 eI regs, .agg (eIns ins)] (spec_l3Step_R l3Step) (spec_l3Step_O l3Step), Reads.length = Reads.length, Puts.length = Puts.length, regs.length = regs.length, (.own 3 0 1 0 regs.length : V) = .own 3 0 1 0 l3Step.2.length] (.cons e5 (.cons e6 (.cons (idx0 hins) (.cons (idx1 hins) (.cons (map_idx hins) (.cons e7 (.cons (spec_l3Step_ok list (TRun.mk Reads Puts rVal rCode) regs ins l3Step hl3Step) (.cons rfl (.cons rfl (.cons rfl (.cons (by first | (simp; done) | (simp [e9]; done)) .nil))))))))))) hI (by kernel_rfl))))))))) (fun e6 h =>
 (brkD h hc1 fun e => (Fin.seg [[(4, { d := some true }), (8, { d := some false })]] [] [4, 5, 6] [(1, 0), (2, 0), (4, 0), (5, 0), (3, 0)] [decide (k < (prog.length : Int)) = true, (rCode == 0) = false] (.cons e5 (.cons e6 .nil)) (hb1 _ e) (by kernel_rfl)))))) (fun e5 h =>
 (brkD h hc1 fun e => (Fin.seg [[(4, { d := some false })]] [] [4, 5, 6] [(1, 0), (2, 0), (4, 0), (5, 0), (3, 0)] [decide (k < (prog.length : Int)) = false] (.cons e5 .nil) (hb1 _ e) (by kernel_rfl)))))
theorem spec_ExecRun_b1_loop (list : List TBox) (prog : List TIns) (res : V) (outs : List (Option V)) (x1 : Exc TRun ((List TRead) × (List TPut) × (List Int) × Int × Int)) (hb1 : ∀ s : (List TRead) × (List TPut) × (List Int) × Int × Int, x1 = .brk s → Fin cx spec_ExecRun_X res outs spec_ExecRun_k1 (spec_ExecRun_S1 s.1 s.2.1 s.2.2.1 s.2.2.2.1 s.2.2.2.2)) (hr1 : ∀ v : TRun, x1 = .ret v → (res = spec_ExecRun_R v ∧ outs = spec_ExecRun_O v)) (s : (List Int) × (List TRead) × (List TPut) × Int × Int × Int) (h : loop (fun s : (List Int) × (List TRead) × (List TPut) × Int × Int × Int => spec_ExecRun_b1 list prog s.1 s.2.1 s.2.2.1 s.2.2.2.1 s.2.2.2.2.1 s.2.2.2.2.2) s = some x1) : Fin cx spec_ExecRun_X res outs spec_ExecRun_k3 (spec_ExecRun_S2 list prog s.1 s.2.1 s.2.2.1 s.2.2.2.1 s.2.2.2.2.1 s.2.2.2.2.2) :=
  loopD (I := fun s : (List Int) × (List TRead) × (List TPut) × Int × Int × Int => Fin cx spec_ExecRun_X res outs spec_ExecRun_k3 (spec_ExecRun_S2 list prog s.1 s.2.1 s.2.2.1 s.2.2.2.1 s.2.2.2.2.1 s.2.2.2.2.2)) h fun s st h hc => spec_ExecRun_b1_ok list prog res outs x1 hb1 hr1 st hc s.1 s.2.1 s.2.2.1 s.2.2.2.1 s.2.2.2.2.1 s.2.2.2.2.2 h
noncomputable def spec_ExecRun (list : List TBox) (prog : List TIns) : Option TRun :=
  ((spec_BoxOk list).bind fun boxOk =>
 (bif (!boxOk) then
 some (TRun.mk [] [] 0 3)
 else
 ((spec_ProgOk prog).bind fun progOk =>
 (bif (!progOk) then
 some (TRun.mk [] [] 0 3)
 else
 (need (0 ≤ (4 : Int) ∧ (4 : Int) * 8 ≤ 140737488355328)
 (((loop (fun s : (List Int) × (List TRead) × (List TPut) × Int × Int × Int => spec_ExecRun_b1 list prog s.1 s.2.1 s.2.2.1 s.2.2.2.1 s.2.2.2.2.1 s.2.2.2.2.2) (List.replicate (4 : Int).toNat 0, [], [], 0, 0, 0)).bind fun x => x.go (fun r => some r) fun s => spec_ExecRun_k2 s.1 s.2.1 s.2.2.1 s.2.2.2.1 s.2.2.2.2)))))))
theorem spec_ExecRun_fin (list : List TBox) (prog : List TIns) (r : TRun) (h : spec_ExecRun list prog = some r) : Fin cx spec_ExecRun_X (spec_ExecRun_R r) (spec_ExecRun_O r) [.code spec_ExecRun_c] (startS spec_ExecRun_X [vsl 2 eBox list, vsl 4 eIns prog]) :=
  (bindD h fun boxOk hboxOk h =>
 (condD h (fun e1 h =>
 (someD h fun e => (Fin.fin (cx := cx) (X := spec_ExecRun_X) (res := spec_ExecRun_R (TRun.mk [] [] 0 3)) (outs := spec_ExecRun_O (TRun.mk [] [] 0 3)) Try.func21 [[], [(1, { a := .call [.val [some 2] []] false (spec_BoxOk_R boxOk) (spec_BoxOk_O boxOk) }), (3, { d := some true })], []] [ACalls cx.P 35 [vsl 2 eBox list] (spec_BoxOk_R boxOk) (spec_BoxOk_O boxOk), (!boxOk) = true] (.cons (spec_BoxOk_ok list boxOk hboxOk) (.cons e1 .nil)) (by kernel_rfl)).is (congrArg spec_ExecRun_R e) (congrArg spec_ExecRun_O e))) (fun e1 h =>
 (bindD h fun progOk hprogOk h =>
 (condD h (fun e2 h =>
 (someD h fun e => (Fin.fin (cx := cx) (X := spec_ExecRun_X) (res := spec_ExecRun_R (TRun.mk [] [] 0 3)) (outs := spec_ExecRun_O (TRun.mk [] [] 0 3)) Try.func21 [[], [(1, { a := .call [.val [some 2] []] false (spec_BoxOk_R boxOk) (spec_BoxOk_O boxOk) }), (3, { d := some false }), (5, { a := .call [.val [some 4] []] false (spec_ProgOk_R progOk) (spec_ProgOk_O progOk) }), (7, { d := some true })], []] [ACalls cx.P 35 [vsl 2 eBox list] (spec_BoxOk_R boxOk) (spec_BoxOk_O boxOk), (!boxOk) = false, ACalls cx.P 36 [vsl 4 eIns prog] (spec_ProgOk_R progOk) (spec_ProgOk_O progOk), (!progOk) = true] (.cons (spec_BoxOk_ok list boxOk hboxOk) (.cons e1 (.cons (spec_ProgOk_ok prog progOk hprogOk) (.cons e2 .nil)))) (by kernel_rfl)).is (congrArg spec_ExecRun_R e) (congrArg spec_ExecRun_O e))) (fun e2 h =>
 (needD h fun e3 h =>
 (loopJ h fun x hl hr hb => (Fin.seg [[], [(1, { a := .call [.val [some 2] []] false (spec_BoxOk_R boxOk) (spec_BoxOk_O boxOk) }), (3, { d := some false }), (5, { a := .call [.val [some 4] []] false (spec_ProgOk_R progOk) (spec_ProgOk_O progOk) }), (7, { d := some false })], [], [(0, { e := some (erow 3 1 eI (List.replicate (4 : Int).toNat 0)), v := some (.own 13 0 1 0 (List.replicate (4 : Int).toNat 0).length) })], []] [.own (.cell 11 0 0) 95 2, .own (.cell 11 0 1) 40 2] [0, 1, 4, 5, 6, 7] [(1, 0), (11, 0), (13, 0), (16, 0), (17, 0)] [ACalls cx.P 35 [vsl 2 eBox list] (spec_BoxOk_R boxOk) (spec_BoxOk_O boxOk), (!boxOk) = false, ACalls cx.P 36 [vsl 4 eIns prog] (spec_ProgOk_R progOk) (spec_ProgOk_O progOk), (!progOk) = false, V.own 13 0 1 0 (4 : Int).toNat = .own 13 0 1 0 (List.replicate (4 : Int).toNat 0).length, Ent.row 3 1 (4 : Int).toNat (List.replicate (4 : Int).toNat [vi 0]) = erow 3 1 eI (List.replicate (4 : Int).toNat 0), (0 : Int) ≤ (4 : Int), (4 : Int) = (4 : Int), (4 : Int) * ((8 : Nat) : Int) ≤ 140737488355328 ∧ 0 < 8, ([vi 0] : List V).length = 1] (.cons (spec_BoxOk_ok list boxOk hboxOk) (.cons e1 (.cons (spec_ProgOk_ok prog progOk hprogOk) (.cons e2 (.cons (by simp) (.cons (row_rep rfl) (.cons e3.1 (.cons rfl (.cons ⟨e3.2, by decide⟩ (.cons rfl .nil)))))))))) (spec_ExecRun_b1_loop list prog _ _ x (fun s e => spec_ExecRun_k2_ok r s.1 s.2.1 s.2.2.1 s.2.2.2.1 s.2.2.2.2 (hb s e)) (fun v e => ⟨congrArg spec_ExecRun_R (Option.some.inj (hr v e)).symm, congrArg spec_ExecRun_O (Option.some.inj (hr v e)).symm⟩) (List.replicate (4 : Int).toNat 0, [], [], 0, 0, 0) hl) (by kernel_rfl))))))))))
theorem spec_ExecRun_ok (list : List TBox) (prog : List TIns) (r : TRun) (h : spec_ExecRun list prog = some r) : ACalls cx.P 21 [vsl 2 eBox list, vsl 4 eIns prog] (spec_ExecRun_R r) (spec_ExecRun_O r) :=
  ACalls.of (cx := cx) (X := spec_ExecRun_X) (c := spec_ExecRun_c) Try.func21 (by kernel_rfl) (by kernel_rfl) (by kernel_rfl) (spec_ExecRun_fin list prog r h)

/-! ### spec_l5Any -/
noncomputable def spec_l5Any_c : Code := bodyOf Try.f33
noncomputable def spec_l5Any_X : Sig := { f := 33, fn := Try.f33, rms := [.val [none, none, none, some 2, some 2, none, none] []], oms := [some (0, .ptr [some 1, none] []), some (1, .row)] }
noncomputable def spec_l5Any_R (r : TEntry × Tl15Rd × List TBox) : V := .agg (eEntry r.1)
noncomputable def spec_l5Any_O (r : TEntry × Tl15Rd × List TBox) : List (Option V) := [some (.optr 65 (el15Rd r.2.1)), some (vosl 92 2 eBox r.2.2)]
noncomputable def spec_l5Any_k1 : List Item := posI 2000 6 [false, true] [.code spec_l5Any_c]
noncomputable def spec_l5Any_S1 (boxes : List TBox) (pick1 : Int × Tl15Rd) (execRun : TRun) (w : Tl15Rd) (eNone : Bool) (eReq : Int) (eRun : Int) : St := ⟨(bs 4 (.ptr 1 0 0 :: (.ptr 2 0 0 :: (bs 32 [])))), [some [.var 65 [vsl 1 eU8 w.b, vi w.p], erow 92 2 eBox boxes], some [.var 36 [.b false, vi 0, vi 0, .nil, .nil, vi 0, vi 0]], some [.var 36 [.b eNone, vi pick1.1, vi eReq, .own 3 0 2 0 execRun.Reads.length, .own 4 0 2 0 execRun.Puts.length, vi execRun.Val, vi eRun]], some [erow 95 2 eRead execRun.Reads], some [erow 40 2 ePut execRun.Puts]]⟩
noncomputable def spec_l5Any_j1 (boxes : List TBox) (pick1 : Int × Tl15Rd) (execRun : TRun) (w : Tl15Rd) (eNone : Bool) (eReq : Int) (eRun : Int) : Option (TEntry × Tl15Rd × List TBox) :=
  some ((TEntry.mk eNone (TReq.mk pick1.1 eReq) (TRun.mk execRun.Reads execRun.Puts execRun.Val eRun)), w, boxes)
theorem spec_l5Any_j1_ok (boxes : List TBox) (pick1 : Int × Tl15Rd) (execRun : TRun) (r : TEntry × Tl15Rd × List TBox) (w : Tl15Rd) (eNone : Bool) (eReq : Int) (eRun : Int) (h : spec_l5Any_j1 boxes pick1 execRun w eNone eReq eRun = some r) : Fin cx spec_l5Any_X (spec_l5Any_R r) (spec_l5Any_O r) spec_l5Any_k1 (spec_l5Any_S1 boxes pick1 execRun w eNone eReq eRun) :=
  (someD h fun e => (Fin.fin (cx := cx) (X := spec_l5Any_X) (res := spec_l5Any_R ((TEntry.mk eNone (TReq.mk pick1.1 eReq) (TRun.mk execRun.Reads execRun.Puts execRun.Val eRun)), w, boxes)) (outs := spec_l5Any_O ((TEntry.mk eNone (TReq.mk pick1.1 eReq) (TRun.mk execRun.Reads execRun.Puts execRun.Val eRun)), w, boxes)) Try.func33 [[]] [execRun.Reads.length = execRun.Reads.length, execRun.Puts.length = execRun.Puts.length, boxes.length = boxes.length] (.cons rfl (.cons rfl (.cons rfl .nil))) (by kernel_rfl)).is (congrArg spec_l5Any_R e) (congrArg spec_l5Any_O e))
noncomputable def spec_l5Any (r_ : Tl15Rd) (boxes : List TBox) : Option (TEntry × Tl15Rd × List TBox) :=
  ((spec_l15Rd_pick r_ 8).bind fun pick =>
 (bif (pick.1 == 0) then
 some ((TEntry.mk true (TReq.mk 0 0) (TRun.mk [] [] 0 0)), pick.2, boxes)
 else
 ((spec_l15Rd_pick pick.2 3).bind fun pick1 =>
 ((spec_l15Rd_pick pick1.2 6).bind fun pick2 =>
 ((spec_l2Prog pick2.2).bind fun l2Prog =>
 ((spec_ExecRun boxes l2Prog.1).bind fun execRun =>
 ((spec_l15Rd_pick l2Prog.2 40).bind fun pick3 =>
 (((bif (pick3.1 == 0) then
 ((spec_l15Rd_num pick3.2 [0, 1001]).bind fun num =>
 some (Exc.brk (num.2, false, num.1, execRun.Code)))
 else
 (bif (pick3.1 == 1) then
 some (Exc.brk (pick3.2, true, w64 (1 + pick2.1), execRun.Code))
 else
 (bif (pick3.1 == 2) then
 some (Exc.brk (pick3.2, false, w64 (1 + pick2.1), 3))
 else
 some (Exc.brk (pick3.2, false, w64 (1 + pick2.1), execRun.Code))))) : Option (Exc (TEntry × Tl15Rd × List TBox) (Tl15Rd × Bool × Int × Int))).bind fun x => x.go some fun j => spec_l5Any_j1 boxes pick1 execRun j.1 j.2.1 j.2.2.1 j.2.2.2))))))))
theorem spec_l5Any_fin (r_ : Tl15Rd) (boxes : List TBox) (r : TEntry × Tl15Rd × List TBox) (h : spec_l5Any r_ boxes = some r) : Fin cx spec_l5Any_X (spec_l5Any_R r) (spec_l5Any_O r) [.code spec_l5Any_c] (startS spec_l5Any_X [.optr 65 (el15Rd r_), vosl 92 2 eBox boxes]) :=
  (bindD h fun pick hpick h =>
 (condD h (fun e1 h =>
 (someD h fun e => (Fin.fin (cx := cx) (X := spec_l5Any_X) (res := spec_l5Any_R ((TEntry.mk true (TReq.mk 0 0) (TRun.mk [] [] 0 0)), pick.2, boxes)) (outs := spec_l5Any_O ((TEntry.mk true (TReq.mk 0 0) (TRun.mk [] [] 0 0)), pick.2, boxes)) Try.func33 [[], [(1, { a := .call [.ptr [some 1, none] [], .val [] []] false (spec_l15Rd_pick_R pick) (spec_l15Rd_pick_O pick) }), (2, { d := some true })], []] [ACalls cx.P 18 [.optr 65 (el15Rd r_), vi 8] (spec_l15Rd_pick_R pick) (spec_l15Rd_pick_O pick), (pick.1 == 0) = true, boxes.length = boxes.length] (.cons (spec_l15Rd_pick_ok r_ 8 pick hpick) (.cons e1 (.cons rfl .nil))) (by kernel_rfl)).is (congrArg spec_l5Any_R e) (congrArg spec_l5Any_O e))) (fun e1 h =>
 (bindD h fun pick1 hpick1 h =>
 (bindD h fun pick2 hpick2 h =>
 (bindD h fun l2Prog hl2Prog h =>
 (bindD h fun execRun hexecRun h =>
 (bindD h fun pick3 hpick3 h =>
 (joinD (I := fun j : Tl15Rd × Bool × Int × Int => Fin cx spec_l5Any_X (spec_l5Any_R r) (spec_l5Any_O r) spec_l5Any_k1 (spec_l5Any_S1 boxes pick1 execRun j.1 j.2.1 j.2.2.1 j.2.2.2)) h (fun j h => spec_l5Any_j1_ok boxes pick1 execRun r j.1 j.2.1 j.2.2.1 j.2.2.2 h) (fun x1 h hc1 =>
  (condD h (fun e2 h =>
 (bindD h fun num hnum h =>
 (jbrkD h hc1 fun hI => (Fin.seg [[], [(1, { a := .call [.ptr [some 1, none] [], .val [] []] false (spec_l15Rd_pick_R pick) (spec_l15Rd_pick_O pick) }), (2, { d := some false })], [(1, { a := .call [.ptr [some 1, none] [], .val [] []] false (spec_l15Rd_pick_R pick1) (spec_l15Rd_pick_O pick1) }), (3, { a := .call [.ptr [some 1, none] [], .val [] []] false (spec_l15Rd_pick_R pick2) (spec_l15Rd_pick_O pick2) }), (8, { a := .call [.ptr [some 1, none] []] false (spec_l2Prog_R l2Prog) (spec_l2Prog_O l2Prog) }), (9, { a := .call [.val [some 2] [], .val [some 4] []] true (spec_ExecRun_R execRun) (spec_ExecRun_O execRun) })], [(1, { a := .call [.ptr [some 1, none] [], .val [] []] false (spec_l15Rd_pick_R pick3) (spec_l15Rd_pick_O pick3) })], [(1, { d := some true })], [(1, { a := .ck [] }), (2, { a := .call [.ptr [some 1, none] [], .val [some 1] []] false (spec_l15Rd_num_R num) (spec_l15Rd_num_O num) })]] [] [4, 5] [(1, 0), (16, 0), (14, 0), (14, 1)] [ACalls cx.P 18 [.optr 65 (el15Rd r_), vi 8] (spec_l15Rd_pick_R pick) (spec_l15Rd_pick_O pick), (pick.1 == 0) = false, ACalls cx.P 18 [.optr 65 (el15Rd pick.2), vi 3] (spec_l15Rd_pick_R pick1) (spec_l15Rd_pick_O pick1), ACalls cx.P 18 [.optr 65 (el15Rd pick1.2), vi 6] (spec_l15Rd_pick_R pick2) (spec_l15Rd_pick_O pick2), ACalls cx.P 22 [.optr 65 (el15Rd pick2.2)] (spec_l2Prog_R l2Prog) (spec_l2Prog_O l2Prog), ACalls cx.P 21 [vsl 2 eBox boxes, vsl 4 eIns l2Prog.1] (spec_ExecRun_R execRun) (spec_ExecRun_O execRun), ScalR (spec_ExecRun_R execRun) ∧ ScalO (spec_ExecRun_O execRun), boxes.length = boxes.length, ACalls cx.P 18 [.optr 65 (el15Rd l2Prog.2), vi 40] (spec_l15Rd_pick_R pick3) (spec_l15Rd_pick_O pick3), (pick3.1 == 0) = true, ACalls cx.P 32 [.optr 65 (el15Rd pick3.2), vsl 1 eI [0, 1001]] (spec_l15Rd_num_R num) (spec_l15Rd_num_O num), 2 = [0, 1001].length] (.cons (spec_l15Rd_pick_ok r_ 8 pick hpick) (.cons e1 (.cons (spec_l15Rd_pick_ok pick.2 3 pick1 hpick1) (.cons (spec_l15Rd_pick_ok pick1.2 6 pick2 hpick2) (.cons (spec_l2Prog_ok pick2.2 l2Prog hl2Prog) (.cons (spec_ExecRun_ok boxes l2Prog.1 execRun hexecRun) (.cons ⟨(by simp [spec_ExecRun_R, ScalR, ScalA, ScalC, V.simple, vi, vosl, eI, ePut, eRead, eRun]), scalO_none 2⟩ (.cons rfl (.cons (spec_l15Rd_pick_ok l2Prog.2 40 pick3 hpick3) (.cons e2 (.cons (spec_l15Rd_num_ok pick3.2 [0, 1001] num hnum) (.cons (by simp) .nil)))))))))))) hI (by kernel_rfl))))) (fun e2 h =>
 (condD h (fun e3 h =>
 (jbrkD h hc1 fun hI => (Fin.seg [[], [(1, { a := .call [.ptr [some 1, none] [], .val [] []] false (spec_l15Rd_pick_R pick) (spec_l15Rd_pick_O pick) }), (2, { d := some false })], [(1, { a := .call [.ptr [some 1, none] [], .val [] []] false (spec_l15Rd_pick_R pick1) (spec_l15Rd_pick_O pick1) }), (3, { a := .call [.ptr [some 1, none] [], .val [] []] false (spec_l15Rd_pick_R pick2) (spec_l15Rd_pick_O pick2) }), (8, { a := .call [.ptr [some 1, none] []] false (spec_l2Prog_R l2Prog) (spec_l2Prog_O l2Prog) }), (9, { a := .call [.val [some 2] [], .val [some 4] []] true (spec_ExecRun_R execRun) (spec_ExecRun_O execRun) })], [(1, { a := .call [.ptr [some 1, none] [], .val [] []] false (spec_l15Rd_pick_R pick3) (spec_l15Rd_pick_O pick3) })], [(1, { d := some false })], [(1, { d := some true })], []] [] [4, 5] [(1, 0), (16, 0), (14, 0), (14, 1)] [ACalls cx.P 18 [.optr 65 (el15Rd r_), vi 8] (spec_l15Rd_pick_R pick) (spec_l15Rd_pick_O pick), (pick.1 == 0) = false, ACalls cx.P 18 [.optr 65 (el15Rd pick.2), vi 3] (spec_l15Rd_pick_R pick1) (spec_l15Rd_pick_O pick1), ACalls cx.P 18 [.optr 65 (el15Rd pick1.2), vi 6] (spec_l15Rd_pick_R pick2) (spec_l15Rd_pick_O pick2), ACalls cx.P 22 [.optr 65 (el15Rd pick2.2)] (spec_l2Prog_R l2Prog) (spec_l2Prog_O l2Prog), ACalls cx.P 21 [vsl 2 eBox boxes, vsl 4 eIns l2Prog.1] (spec_ExecRun_R execRun) (spec_ExecRun_O execRun), ScalR (spec_ExecRun_R execRun) ∧ ScalO (spec_ExecRun_O execRun), boxes.length = boxes.length, ACalls cx.P 18 [.optr 65 (el15Rd l2Prog.2), vi 40] (spec_l15Rd_pick_R pick3) (spec_l15Rd_pick_O pick3), (pick3.1 == 0) = false, (pick3.1 == 1) = true] (.cons (spec_l15Rd_pick_ok r_ 8 pick hpick) (.cons e1 (.cons (spec_l15Rd_pick_ok pick.2 3 pick1 hpick1) (.cons (spec_l15Rd_pick_ok pick1.2 6 pick2 hpick2) (.cons (spec_l2Prog_ok pick2.2 l2Prog hl2Prog) (.cons (spec_ExecRun_ok boxes l2Prog.1 execRun hexecRun) (.cons ⟨(by simp [spec_ExecRun_R, ScalR, ScalA, ScalC, V.simple, vi, vosl, eI, ePut, eRead, eRun]), scalO_none 2⟩ (.cons rfl (.cons (spec_l15Rd_pick_ok l2Prog.2 40 pick3 hpick3) (.cons e2 (.cons e3 .nil))))))))))) hI (by kernel_rfl)))) (fun e3 h =>
 (condD h (fun e4 h =>
 (jbrkD h hc1 fun hI => (Fin.seg [[], [(1, { a := .call [.ptr [some 1, none] [], .val [] []] false (spec_l15Rd_pick_R pick) (spec_l15Rd_pick_O pick) }), (2, { d := some false })], [(1, { a := .call [.ptr [some 1, none] [], .val [] []] false (spec_l15Rd_pick_R pick1) (spec_l15Rd_pick_O pick1) }), (3, { a := .call [.ptr [some 1, none] [], .val [] []] false (spec_l15Rd_pick_R pick2) (spec_l15Rd_pick_O pick2) }), (8, { a := .call [.ptr [some 1, none] []] false (spec_l2Prog_R l2Prog) (spec_l2Prog_O l2Prog) }), (9, { a := .call [.val [some 2] [], .val [some 4] []] true (spec_ExecRun_R execRun) (spec_ExecRun_O execRun) })], [(1, { a := .call [.ptr [some 1, none] [], .val [] []] false (spec_l15Rd_pick_R pick3) (spec_l15Rd_pick_O pick3) })], [(1, { d := some false })], [(1, { d := some false })], [(1, { d := some true })], []] [] [4, 5] [(1, 0), (16, 0), (14, 0), (14, 1)] [ACalls cx.P 18 [.optr 65 (el15Rd r_), vi 8] (spec_l15Rd_pick_R pick) (spec_l15Rd_pick_O pick), (pick.1 == 0) = false, ACalls cx.P 18 [.optr 65 (el15Rd pick.2), vi 3] (spec_l15Rd_pick_R pick1) (spec_l15Rd_pick_O pick1), ACalls cx.P 18 [.optr 65 (el15Rd pick1.2), vi 6] (spec_l15Rd_pick_R pick2) (spec_l15Rd_pick_O pick2), ACalls cx.P 22 [.optr 65 (el15Rd pick2.2)] (spec_l2Prog_R l2Prog) (spec_l2Prog_O l2Prog), ACalls cx.P 21 [vsl 2 eBox boxes, vsl 4 eIns l2Prog.1] (spec_ExecRun_R execRun) (spec_ExecRun_O execRun), ScalR (spec_ExecRun_R execRun) ∧ ScalO (spec_ExecRun_O execRun), boxes.length = boxes.length, ACalls cx.P 18 [.optr 65 (el15Rd l2Prog.2), vi 40] (spec_l15Rd_pick_R pick3) (spec_l15Rd_pick_O pick3), (pick3.1 == 0) = false, (pick3.1 == 1) = false, (pick3.1 == 2) = true] (.cons (spec_l15Rd_pick_ok r_ 8 pick hpick) (.cons e1 (.cons (spec_l15Rd_pick_ok pick.2 3 pick1 hpick1) (.cons (spec_l15Rd_pick_ok pick1.2 6 pick2 hpick2) (.cons (spec_l2Prog_ok pick2.2 l2Prog hl2Prog) (.cons (spec_ExecRun_ok boxes l2Prog.1 execRun hexecRun) (.cons ⟨(by simp [spec_ExecRun_R, ScalR, ScalA, ScalC, V.simple, vi, vosl, eI, ePut, eRead, eRun]), scalO_none 2⟩ (.cons rfl (.cons (spec_l15Rd_pick_ok l2Prog.2 40 pick3 hpick3) (.cons e2 (.cons e3 (.cons e4 .nil)))))))))))) hI (by kernel_rfl)))) (fun e4 h =>
 (jbrkD h hc1 fun hI => (Fin.seg [[], [(1, { a := .call [.ptr [some 1, none] [], .val [] []] false (spec_l15Rd_pick_R pick) (spec_l15Rd_pick_O pick) }), (2, { d := some false })], [(1, { a := .call [.ptr [some 1, none] [], .val [] []] false (spec_l15Rd_pick_R pick1) (spec_l15Rd_pick_O pick1) }), (3, { a := .call [.ptr [some 1, none] [], .val [] []] false (spec_l15Rd_pick_R pick2) (spec_l15Rd_pick_O pick2) }), (8, { a := .call [.ptr [some 1, none] []] false (spec_l2Prog_R l2Prog) (spec_l2Prog_O l2Prog) }), (9, { a := .call [.val [some 2] [], .val [some 4] []] true (spec_ExecRun_R execRun) (spec_ExecRun_O execRun) })], [(1, { a := .call [.ptr [some 1, none] [], .val [] []] false (spec_l15Rd_pick_R pick3) (spec_l15Rd_pick_O pick3) })], [(1, { d := some false })], [(1, { d := some false })], [(1, { d := some false })]] [] [4, 5] [(1, 0), (16, 0), (14, 0), (14, 1)] [ACalls cx.P 18 [.optr 65 (el15Rd r_), vi 8] (spec_l15Rd_pick_R pick) (spec_l15Rd_pick_O pick), (pick.1 == 0) = false, ACalls cx.P 18 [.optr 65 (el15Rd pick.2), vi 3] (spec_l15Rd_pick_R pick1) (spec_l15Rd_pick_O pick1), ACalls cx.P 18 [.optr 65 (el15Rd pick1.2), vi 6] (spec_l15Rd_pick_R pick2) (spec_l15Rd_pick_O pick2), ACalls cx.P 22 [.optr 65 (el15Rd pick2.2)] (spec_l2Prog_R l2Prog) (spec_l2Prog_O l2Prog), ACalls cx.P 21 [vsl 2 eBox boxes, vsl 4 eIns l2Prog.1] (spec_ExecRun_R execRun) (spec_ExecRun_O execRun), ScalR (spec_ExecRun_R execRun) ∧ ScalO (spec_ExecRun_O execRun), boxes.length = boxes.length, ACalls cx.P 18 [.optr 65 (el15Rd l2Prog.2), vi 40] (spec_l15Rd_pick_R pick3) (spec_l15Rd_pick_O pick3), (pick3.1 == 0) = false, (pick3.1 == 1) = false, (pick3.1 == 2) = false] (.cons (spec_l15Rd_pick_ok r_ 8 pick hpick) (.cons e1 (.cons (spec_l15Rd_pick_ok pick.2 3 pick1 hpick1) (.cons (spec_l15Rd_pick_ok pick1.2 6 pick2 hpick2) (.cons (spec_l2Prog_ok pick2.2 l2Prog hl2Prog) (.cons (spec_ExecRun_ok boxes l2Prog.1 execRun hexecRun) (.cons ⟨(by simp [spec_ExecRun_R, ScalR, ScalA, ScalC, V.simple, vi, vosl, eI, ePut, eRead, eRun]), scalO_none 2⟩ (.cons rfl (.cons (spec_l15Rd_pick_ok l2Prog.2 40 pick3 hpick3) (.cons e2 (.cons e3 (.cons e4 .nil)))))))))))) hI (by kernel_rfl)))))))))))))))))))
theorem spec_l5Any_ok (r_ : Tl15Rd) (boxes : List TBox) (r : TEntry × Tl15Rd × List TBox) (h : spec_l5Any r_ boxes = some r) : ACalls cx.P 33 [.optr 65 (el15Rd r_), vosl 92 2 eBox boxes] (spec_l5Any_R r) (spec_l5Any_O r) :=
  ACalls.of (cx := cx) (X := spec_l5Any_X) (c := spec_l5Any_c) Try.func33 (by kernel_rfl) (by kernel_rfl) (by kernel_rfl) (spec_l5Any_fin r_ boxes r h)


end Go.Proofs.Ythefcgmhjonopaa
