/- Functions of the program, and that their calls come to this. -/
import Derived.Test.YtoghkllkjjpgkaaF2
set_option linter.unusedVariables false
set_option linter.unusedSimpArgs false
namespace Go.Proofs.Ytoghkllkjjpgkaa
open Go

/-! ### impl_copied_Box -/
noncomputable def impl_copied_Box_c : Code := bodyOf Try.f46
noncomputable def impl_copied_Box_X : Sig := { f := 46, fn := Try.f46, rms := [.val [some 2] [some 86]], oms := [none] }
noncomputable def impl_copied_Box_R (r : List TBox) : V := vosl 86 2 eBox r
noncomputable def impl_copied_Box_O (r : List TBox) : List (Option V) := [none]
noncomputable def impl_copied_Box (list : List TBox) : Option (List TBox) :=
  (bif ((list.length : Int) == 0) then
 some []
 else
 (need (0 ≤ (list.length : Int) ∧ (list.length : Int) * 16 ≤ 140737488355328)
 ((need (list.length = (List.replicate (list.length : Int).toNat (TBox.mk 0 0)).length)
 (some list)))))
theorem impl_copied_Box_fin (list : List TBox) (r : List TBox) (h : impl_copied_Box list = some r) : Fin cx impl_copied_Box_X (impl_copied_Box_R r) (impl_copied_Box_O r) [.code impl_copied_Box_c] (startS impl_copied_Box_X [vsl 2 eBox list]) :=
  (condD h (fun e1 h =>
 (someD h fun e => (Fin.fin (cx := cx) (X := impl_copied_Box_X) (res := impl_copied_Box_R []) (outs := impl_copied_Box_O []) Try.func46 [[], [(2, { d := some true })], []] [((list.length : Int) == 0) = true] (.cons e1 .nil) (by kernel_rfl)).is (congrArg impl_copied_Box_R e) (congrArg impl_copied_Box_O e))) (fun e1 h =>
 (needD h fun e2 h =>
 (needD h fun e3 h =>
 (someD h fun e => (Fin.fin (cx := cx) (X := impl_copied_Box_X) (res := impl_copied_Box_R list) (outs := impl_copied_Box_O list) Try.func46 [[], [(2, { d := some false })], [(2, { e := some (erow 86 2 eBox (List.replicate (list.length : Int).toNat (TBox.mk 0 0))), v := some (.own 7 0 2 0 (List.replicate (list.length : Int).toNat (TBox.mk 0 0)).length) })], [(2, { e := some (erow 86 2 eBox list) })], []] [((list.length : Int) == 0) = false, V.own 7 0 2 0 (list.length : Int).toNat = .own 7 0 2 0 (List.replicate (list.length : Int).toNat (TBox.mk 0 0)).length, Ent.row 86 2 (list.length : Int).toNat (List.replicate (list.length : Int).toNat [vi 0, vi 0]) = erow 86 2 eBox (List.replicate (list.length : Int).toNat (TBox.mk 0 0)), (0 : Int) ≤ (list.length : Int), (list.length : Int) = (list.length : Int), (list.length : Int) * ((16 : Nat) : Int) ≤ 140737488355328 ∧ 0 < 16, ([vi 0, vi 0] : List V).length = 2, Ent.row 86 2 (List.replicate (list.length : Int).toNat (TBox.mk 0 0)).length (list.map eBox) = erow 86 2 eBox list, (List.replicate (list.length : Int).toNat (TBox.mk 0 0)).length = (List.replicate (list.length : Int).toNat (TBox.mk 0 0)).length, list.length = (List.replicate (list.length : Int).toNat (TBox.mk 0 0)).length, (List.replicate (list.length : Int).toNat (TBox.mk 0 0)).length = list.length] (.cons e1 (.cons (by simp) (.cons (row_rep rfl) (.cons e2.1 (.cons rfl (.cons ⟨e2.2, by decide⟩ (.cons rfl (.cons (row_copy e3) (.cons rfl (.cons e3 (.cons (by simp) .nil))))))))))) (by kernel_rfl)).is (congrArg impl_copied_Box_R e) (congrArg impl_copied_Box_O e))))))
theorem impl_copied_Box_ok (list : List TBox) (r : List TBox) (h : impl_copied_Box list = some r) : ACalls cx.P 46 [vsl 2 eBox list] (impl_copied_Box_R r) (impl_copied_Box_O r) :=
  ACalls.of (cx := cx) (X := impl_copied_Box_X) (c := impl_copied_Box_c) Try.func46 (by kernel_rfl) (by kernel_rfl) (by kernel_rfl) (impl_copied_Box_fin list r h)

/-! ### impl_copied_Done -/
noncomputable def impl_copied_Done_c : Code := bodyOf Try.f47
noncomputable def impl_copied_Done_X : Sig := { f := 47, fn := Try.f47, rms := [.val [some 4] []], oms := [none] }
noncomputable def impl_copied_Done_R (r : List TDone) : V := vsl 4 eDone r
noncomputable def impl_copied_Done_O (r : List TDone) : List (Option V) := [none]
noncomputable def impl_copied_Done (list : List TDone) : Option (List TDone) :=
  (bif ((list.length : Int) == 0) then
 some []
 else
 (need (0 ≤ (list.length : Int) ∧ (list.length : Int) * 32 ≤ 140737488355328)
 ((need (list.length = (List.replicate (list.length : Int).toNat (TDone.mk (TReq.mk 0 0) 0 0)).length)
 (some list)))))
theorem impl_copied_Done_fin (list : List TDone) (r : List TDone) (h : impl_copied_Done list = some r) : Fin cx impl_copied_Done_X (impl_copied_Done_R r) (impl_copied_Done_O r) [.code impl_copied_Done_c] (startS impl_copied_Done_X [vsl 4 eDone list]) :=
  (condD h (fun e1 h =>
 (someD h fun e => (Fin.fin (cx := cx) (X := impl_copied_Done_X) (res := impl_copied_Done_R []) (outs := impl_copied_Done_O []) Try.func47 [[], [(2, { d := some true })], []] [((list.length : Int) == 0) = true] (.cons e1 .nil) (by kernel_rfl)).is (congrArg impl_copied_Done_R e) (congrArg impl_copied_Done_O e))) (fun e1 h =>
 (needD h fun e2 h =>
 (needD h fun e3 h =>
 (someD h fun e => (Fin.fin (cx := cx) (X := impl_copied_Done_X) (res := impl_copied_Done_R list) (outs := impl_copied_Done_O list) Try.func47 [[], [(2, { d := some false })], [(2, { e := some (erow 75 4 eDone (List.replicate (list.length : Int).toNat (TDone.mk (TReq.mk 0 0) 0 0))), v := some (.own 7 0 4 0 (List.replicate (list.length : Int).toNat (TDone.mk (TReq.mk 0 0) 0 0)).length) })], [(2, { e := some (erow 75 4 eDone list) })], []] [((list.length : Int) == 0) = false, V.own 7 0 4 0 (list.length : Int).toNat = .own 7 0 4 0 (List.replicate (list.length : Int).toNat (TDone.mk (TReq.mk 0 0) 0 0)).length, Ent.row 75 4 (list.length : Int).toNat (List.replicate (list.length : Int).toNat [vi 0, vi 0, vi 0, vi 0]) = erow 75 4 eDone (List.replicate (list.length : Int).toNat (TDone.mk (TReq.mk 0 0) 0 0)), (0 : Int) ≤ (list.length : Int), (list.length : Int) = (list.length : Int), (list.length : Int) * ((32 : Nat) : Int) ≤ 140737488355328 ∧ 0 < 32, ([vi 0, vi 0, vi 0, vi 0] : List V).length = 4, Ent.row 75 4 (List.replicate (list.length : Int).toNat (TDone.mk (TReq.mk 0 0) 0 0)).length (list.map eDone) = erow 75 4 eDone list, (List.replicate (list.length : Int).toNat (TDone.mk (TReq.mk 0 0) 0 0)).length = (List.replicate (list.length : Int).toNat (TDone.mk (TReq.mk 0 0) 0 0)).length, list.length = (List.replicate (list.length : Int).toNat (TDone.mk (TReq.mk 0 0) 0 0)).length, (List.replicate (list.length : Int).toNat (TDone.mk (TReq.mk 0 0) 0 0)).length = list.length] (.cons e1 (.cons (by simp) (.cons (row_rep rfl) (.cons e2.1 (.cons rfl (.cons ⟨e2.2, by decide⟩ (.cons rfl (.cons (row_copy e3) (.cons rfl (.cons e3 (.cons (by simp) .nil))))))))))) (by kernel_rfl)).is (congrArg impl_copied_Done_R e) (congrArg impl_copied_Done_O e))))))
theorem impl_copied_Done_ok (list : List TDone) (r : List TDone) (h : impl_copied_Done list = some r) : ACalls cx.P 47 [vsl 4 eDone list] (impl_copied_Done_R r) (impl_copied_Done_O r) :=
  ACalls.of (cx := cx) (X := impl_copied_Done_X) (c := impl_copied_Done_c) Try.func47 (by kernel_rfl) (by kernel_rfl) (by kernel_rfl) (impl_copied_Done_fin list r h)

/-! ### impl_ExecFresh -/
noncomputable def impl_ExecFresh_c : Code := bodyOf Try.f48
noncomputable def impl_ExecFresh_X : Sig := { f := 48, fn := Try.f48, rms := [.val [] []], oms := [none, none] }
noncomputable def impl_ExecFresh_R (r : Bool) : V := .b r
noncomputable def impl_ExecFresh_O (r : Bool) : List (Option V) := [none, none]
noncomputable def impl_ExecFresh_k1 : List Item := posI 2000 4 [false, false] [.code impl_ExecFresh_c]
noncomputable def impl_ExecFresh_S1 : St := ⟨(bs 32 []), [some []]⟩
noncomputable def impl_ExecFresh_k2 : Option Bool :=
  some true
theorem impl_ExecFresh_k2_ok (r : Bool) (h : impl_ExecFresh_k2 = some r) : Fin cx impl_ExecFresh_X (impl_ExecFresh_R r) (impl_ExecFresh_O r) impl_ExecFresh_k1 (impl_ExecFresh_S1) :=
  (someD h fun e => (Fin.fin (cx := cx) (X := impl_ExecFresh_X) (res := impl_ExecFresh_R true) (outs := impl_ExecFresh_O true) Try.func48 [[]] [] .nil (by kernel_rfl)).is (congrArg impl_ExecFresh_R e) (congrArg impl_ExecFresh_O e))
noncomputable def impl_ExecFresh_k3 : List Item := posI 2000 3 [false] [.code impl_ExecFresh_c]
noncomputable def impl_ExecFresh_S2 (list : List TBox) (r_ : TRun) (v18 : Int) : St := ⟨(vsl 2 eBox list :: (bs 15 (vsl 2 eRead r_.Reads :: (vi (r_.Reads.length : Int) :: (vi v18 :: (bs 13 [])))))), [some []]⟩
noncomputable def impl_ExecFresh_b1 (list : List TBox) (r_ : TRun) (v18 : Int) : Option (Stp Bool Int Unit) :=
  (bif decide (v18 < (r_.Reads.length : Int)) then
 ((idx r_.Reads v18).bind fun read =>
 ((idx list read.Box).bind fun box =>
 (bif (box.Ver != read.Ver) then
 some (Stp.ret false)
 else
 some (Stp.nxt (w64 (v18 + 1))))))
 else
 some (Stp.brk ()))
theorem impl_ExecFresh_b1_ok (list : List TBox) (r_ : TRun) (res : V) (outs : List (Option V)) (x1 : Exc Bool Unit) (hb1 : ∀ s : Unit, x1 = .brk s → Fin cx impl_ExecFresh_X res outs impl_ExecFresh_k1 (impl_ExecFresh_S1)) (hr1 : ∀ v : Bool, x1 = .ret v → (res = impl_ExecFresh_R v ∧ outs = impl_ExecFresh_O v)) (st1 : Stp Bool Int Unit) (hc1 : Cont x1 (fun s : Int => Fin cx impl_ExecFresh_X res outs impl_ExecFresh_k3 (impl_ExecFresh_S2 list r_ s)) st1) (v18 : Int) (h : impl_ExecFresh_b1 list r_ v18 = some st1) : Fin cx impl_ExecFresh_X res outs impl_ExecFresh_k3 (impl_ExecFresh_S2 list r_ v18) :=
  (condD h (fun e3 h =>
 (bindD h fun read hread h =>
 (bindD h fun box hbox h =>
 (condD h (fun e4 h =>
 (retD h hc1 fun e => (Fin.fin (cx := cx) (X := impl_ExecFresh_X) (res := impl_ExecFresh_R false) (outs := impl_ExecFresh_O false) Try.func48 [[(0, { d := some true })], [(0, { a := .row (eRead read) })], [(3, { a := .row (eBox box) }), (8, { d := some true })], []] [decide (v18 < (r_.Reads.length : Int)) = true, (0 : Int) ≤ v18, v18 < ((r_.Reads.length : Nat) : Int), (r_.Reads.map eRead)[v18.toNat]? = some (eRead read), (0 : Int) ≤ read.Box, read.Box < ((list.length : Nat) : Int), (list.map eBox)[read.Box.toNat]? = some (eBox box), (box.Ver != read.Ver) = true] (.cons e3 (.cons (idx0 hread) (.cons (idx1 hread) (.cons (map_idx hread) (.cons (idx0 hbox) (.cons (idx1 hbox) (.cons (map_idx hbox) (.cons e4 .nil)))))))) (by kernel_rfl)).is (hr1 _ e).1 (hr1 _ e).2)) (fun e4 h =>
 (nxtD h hc1 fun hI => (Fin.seg [[(0, { d := some true })], [(0, { a := .row (eRead read) })], [(3, { a := .row (eBox box) }), (8, { d := some false })], []] [] [0, 16, 17, 18] [] [decide (v18 < (r_.Reads.length : Int)) = true, (0 : Int) ≤ v18, v18 < ((r_.Reads.length : Nat) : Int), (r_.Reads.map eRead)[v18.toNat]? = some (eRead read), (0 : Int) ≤ read.Box, read.Box < ((list.length : Nat) : Int), (list.map eBox)[read.Box.toNat]? = some (eBox box), (box.Ver != read.Ver) = false] (.cons e3 (.cons (idx0 hread) (.cons (idx1 hread) (.cons (map_idx hread) (.cons (idx0 hbox) (.cons (idx1 hbox) (.cons (map_idx hbox) (.cons e4 .nil)))))))) hI (by kernel_rfl)))))))) (fun e3 h =>
 (brkD h hc1 fun e => (Fin.seg [[(0, { d := some false })]] [] [] [] [decide (v18 < (r_.Reads.length : Int)) = false] (.cons e3 .nil) (hb1 _ e) (by kernel_rfl)))))
theorem impl_ExecFresh_b1_loop (list : List TBox) (r_ : TRun) (res : V) (outs : List (Option V)) (x1 : Exc Bool Unit) (hb1 : ∀ s : Unit, x1 = .brk s → Fin cx impl_ExecFresh_X res outs impl_ExecFresh_k1 (impl_ExecFresh_S1)) (hr1 : ∀ v : Bool, x1 = .ret v → (res = impl_ExecFresh_R v ∧ outs = impl_ExecFresh_O v)) (s : Int) (h : loop (fun s : Int => impl_ExecFresh_b1 list r_ s) s = some x1) : Fin cx impl_ExecFresh_X res outs impl_ExecFresh_k3 (impl_ExecFresh_S2 list r_ s) :=
  loopD (I := fun s : Int => Fin cx impl_ExecFresh_X res outs impl_ExecFresh_k3 (impl_ExecFresh_S2 list r_ s)) h fun s st h hc => impl_ExecFresh_b1_ok list r_ res outs x1 hb1 hr1 st hc s h
noncomputable def impl_ExecFresh (list : List TBox) (r_ : TRun) : Option Bool :=
  ((impl_BoxOk list).bind fun boxOk =>
 (bif (!boxOk) then
 some false
 else
 ((impl_ExecOk r_).bind fun execOk =>
 (bif (!execOk) then
 some false
 else
 ((loop (fun s : Int => impl_ExecFresh_b1 list r_ s) 0).bind fun x => x.go (fun r => some r) fun s => impl_ExecFresh_k2)))))
theorem impl_ExecFresh_fin (list : List TBox) (r_ : TRun) (r : Bool) (h : impl_ExecFresh list r_ = some r) : Fin cx impl_ExecFresh_X (impl_ExecFresh_R r) (impl_ExecFresh_O r) [.code impl_ExecFresh_c] (startS impl_ExecFresh_X [vsl 2 eBox list, .agg (eRun r_)]) :=
  (bindD h fun boxOk hboxOk h =>
 (condD h (fun e1 h =>
 (someD h fun e => (Fin.fin (cx := cx) (X := impl_ExecFresh_X) (res := impl_ExecFresh_R false) (outs := impl_ExecFresh_O false) Try.func48 [[], [(1, { a := .call [.val [some 2] []] false (impl_BoxOk_R boxOk) (impl_BoxOk_O boxOk) }), (3, { d := some true })], []] [ACalls cx.P 61 [vsl 2 eBox list] (impl_BoxOk_R boxOk) (impl_BoxOk_O boxOk), (!boxOk) = true] (.cons (impl_BoxOk_ok list boxOk hboxOk) (.cons e1 .nil)) (by kernel_rfl)).is (congrArg impl_ExecFresh_R e) (congrArg impl_ExecFresh_O e))) (fun e1 h =>
 (bindD h fun execOk hexecOk h =>
 (condD h (fun e2 h =>
 (someD h fun e => (Fin.fin (cx := cx) (X := impl_ExecFresh_X) (res := impl_ExecFresh_R false) (outs := impl_ExecFresh_O false) Try.func48 [[], [(1, { a := .call [.val [some 2] []] false (impl_BoxOk_R boxOk) (impl_BoxOk_O boxOk) }), (3, { d := some false }), (5, { a := .call [.val [some 2, some 2, none, none] []] false (impl_ExecOk_R execOk) (impl_ExecOk_O execOk) }), (7, { d := some true })], []] [ACalls cx.P 61 [vsl 2 eBox list] (impl_BoxOk_R boxOk) (impl_BoxOk_O boxOk), (!boxOk) = false, ACalls cx.P 43 [.agg (eRun r_)] (impl_ExecOk_R execOk) (impl_ExecOk_O execOk), (!execOk) = true] (.cons (impl_BoxOk_ok list boxOk hboxOk) (.cons e1 (.cons (impl_ExecOk_ok r_ execOk hexecOk) (.cons e2 .nil)))) (by kernel_rfl)).is (congrArg impl_ExecFresh_R e) (congrArg impl_ExecFresh_O e))) (fun e2 h =>
 (loopJ h fun x hl hr hb => (Fin.seg [[], [(1, { a := .call [.val [some 2] []] false (impl_BoxOk_R boxOk) (impl_BoxOk_O boxOk) }), (3, { d := some false }), (5, { a := .call [.val [some 2, some 2, none, none] []] false (impl_ExecOk_R execOk) (impl_ExecOk_O execOk) }), (7, { d := some false })], []] [] [0, 16, 17, 18] [] [ACalls cx.P 61 [vsl 2 eBox list] (impl_BoxOk_R boxOk) (impl_BoxOk_O boxOk), (!boxOk) = false, ACalls cx.P 43 [.agg (eRun r_)] (impl_ExecOk_R execOk) (impl_ExecOk_O execOk), (!execOk) = false] (.cons (impl_BoxOk_ok list boxOk hboxOk) (.cons e1 (.cons (impl_ExecOk_ok r_ execOk hexecOk) (.cons e2 .nil)))) (impl_ExecFresh_b1_loop list r_ _ _ x (fun s e => impl_ExecFresh_k2_ok r (hb s e)) (fun v e => ⟨congrArg impl_ExecFresh_R (Option.some.inj (hr v e)).symm, congrArg impl_ExecFresh_O (Option.some.inj (hr v e)).symm⟩) 0 hl) (by kernel_rfl)))))))))
theorem impl_ExecFresh_ok (list : List TBox) (r_ : TRun) (r : Bool) (h : impl_ExecFresh list r_ = some r) : ACalls cx.P 48 [vsl 2 eBox list, .agg (eRun r_)] (impl_ExecFresh_R r) (impl_ExecFresh_O r) :=
  ACalls.of (cx := cx) (X := impl_ExecFresh_X) (c := impl_ExecFresh_c) Try.func48 (by kernel_rfl) (by kernel_rfl) (by kernel_rfl) (impl_ExecFresh_fin list r_ r h)

/-! ### impl_ExecDo -/
noncomputable def impl_ExecDo_c : Code := bodyOf Try.f49
noncomputable def impl_ExecDo_X : Sig := { f := 49, fn := Try.f49, rms := [.val [some 2] []], oms := [none, none] }
noncomputable def impl_ExecDo_R (r : List TBox) : V := vsl 2 eBox r
noncomputable def impl_ExecDo_O (r : List TBox) : List (Option V) := [none, none]
noncomputable def impl_ExecDo_k1 : List Item := posI 2000 5 [false, false] [.code impl_ExecDo_c]
noncomputable def impl_ExecDo_S1 (out1 : List TBox) : St := ⟨(bs 5 (.own 1 0 2 0 out1.length :: (bs 36 []))), [some [], some [erow 86 2 eBox out1]]⟩
noncomputable def impl_ExecDo_k2 (out1 : List TBox) : Option (List TBox) :=
  some out1
theorem impl_ExecDo_k2_ok (r : List TBox) (out1 : List TBox) (h : impl_ExecDo_k2 out1 = some r) : Fin cx impl_ExecDo_X (impl_ExecDo_R r) (impl_ExecDo_O r) impl_ExecDo_k1 (impl_ExecDo_S1 out1) :=
  (someD h fun e => (Fin.fin (cx := cx) (X := impl_ExecDo_X) (res := impl_ExecDo_R out1) (outs := impl_ExecDo_O out1) Try.func49 [[]] [out1.length = out1.length] (.cons rfl .nil) (by kernel_rfl)).is (congrArg impl_ExecDo_R e) (congrArg impl_ExecDo_O e))
noncomputable def impl_ExecDo_k3 : List Item := posI 2000 4 [false] [.code impl_ExecDo_c]
noncomputable def impl_ExecDo_S2 (r_ : TRun) (out : List TBox) (v21 : Int) : St := ⟨(bs 5 (.own 1 0 2 0 out.length :: (bs 13 (vsl 2 ePut r_.Puts :: (vi (r_.Puts.length : Int) :: (vi v21 :: (bs 20 []))))))), [some [], some [erow 86 2 eBox out]]⟩
noncomputable def impl_ExecDo_b1 (r_ : TRun) (out : List TBox) (v21 : Int) : Option (Stp (List TBox) ((List TBox) × Int) (List TBox)) :=
  (bif decide (v21 < (r_.Puts.length : Int)) then
 ((idx r_.Puts v21).bind fun put =>
 ((idx out put.Box).bind fun box1 =>
 some (Stp.nxt (out.set put.Box.toNat (TBox.mk (if (w64 (box1.Ver + 1)) < 1000000 then (w64 (box1.Ver + 1)) else 1000000) put.Val), w64 (v21 + 1)))))
 else
 some (Stp.brk out))
theorem impl_ExecDo_b1_ok (r_ : TRun) (res : V) (outs : List (Option V)) (x1 : Exc (List TBox) (List TBox)) (hb1 : ∀ s : List TBox, x1 = .brk s → Fin cx impl_ExecDo_X res outs impl_ExecDo_k1 (impl_ExecDo_S1 s)) (hr1 : ∀ v : List TBox, x1 = .ret v → (res = impl_ExecDo_R v ∧ outs = impl_ExecDo_O v)) (st1 : Stp (List TBox) ((List TBox) × Int) (List TBox)) (hc1 : Cont x1 (fun s : (List TBox) × Int => Fin cx impl_ExecDo_X res outs impl_ExecDo_k3 (impl_ExecDo_S2 r_ s.1 s.2)) st1) (out : List TBox) (v21 : Int) (h : impl_ExecDo_b1 r_ out v21 = some st1) : Fin cx impl_ExecDo_X res outs impl_ExecDo_k3 (impl_ExecDo_S2 r_ out v21) :=
  (condD h (fun e3 h =>
 (bindD h fun put hput h =>
 (bindD h fun box1 hbox1 h =>
 (nxtD h hc1 fun hI => (Fin.seg [[(0, { d := some true })], [(0, { a := .row (ePut put) })], [(8, { a := .row (eBox box1) }), (15, { a := .rowck (eBox box1) [], e := some (erow 86 2 eBox (out.set put.Box.toNat (TBox.mk (if (w64 (box1.Ver + 1)) < 1000000 then (w64 (box1.Ver + 1)) else 1000000) put.Val))) })], []] [.is (.tmp 5) (.own 1 0 2 0 (out.set put.Box.toNat (TBox.mk (if (w64 (box1.Ver + 1)) < 1000000 then (w64 (box1.Ver + 1)) else 1000000) put.Val)).length)] [5, 19, 20, 21] [(1, 0)] [decide (v21 < (r_.Puts.length : Int)) = true, (0 : Int) ≤ v21, v21 < ((r_.Puts.length : Nat) : Int), (r_.Puts.map ePut)[v21.toNat]? = some (ePut put), (0 : Int) ≤ put.Box, put.Box < ((out.length : Nat) : Int), (out.map eBox)[0 + put.Box.toNat]? = some (eBox box1), (0 : Int) ≤ put.Box, put.Box < ((out.length : Nat) : Int), Ent.row 86 2 out.length ((out.map eBox).set (0 + put.Box.toNat) [vi (if (w64 (box1.Ver + 1)) < 1000000 then (w64 (box1.Ver + 1)) else 1000000), vi put.Val]) = erow 86 2 eBox (out.set put.Box.toNat (TBox.mk (if (w64 (box1.Ver + 1)) < 1000000 then (w64 (box1.Ver + 1)) else 1000000) put.Val)), (out.map eBox)[0 + put.Box.toNat]? = some (eBox box1), (.own 1 0 2 0 out.length : V) = .own 1 0 2 0 (out.set put.Box.toNat (TBox.mk (if (w64 (box1.Ver + 1)) < 1000000 then (w64 (box1.Ver + 1)) else 1000000) put.Val)).length] (.cons e3 (.cons (idx0 hput) (.cons (idx1 hput) (.cons (map_idx hput) (.cons (idx0 hbox1) (.cons (idx1 hbox1) (.cons (map_idx0 hbox1) (.cons (idx0 hbox1) (.cons (idx1 hbox1) (.cons (row_set rfl) (.cons (map_idx0 hbox1) (.cons (by simp) .nil)))))))))))) hI (by kernel_rfl)))))) (fun e3 h =>
 (brkD h hc1 fun e => (Fin.seg [[(0, { d := some false })]] [] [5] [(1, 0)] [decide (v21 < (r_.Puts.length : Int)) = false] (.cons e3 .nil) (hb1 _ e) (by kernel_rfl)))))
theorem impl_ExecDo_b1_loop (r_ : TRun) (res : V) (outs : List (Option V)) (x1 : Exc (List TBox) (List TBox)) (hb1 : ∀ s : List TBox, x1 = .brk s → Fin cx impl_ExecDo_X res outs impl_ExecDo_k1 (impl_ExecDo_S1 s)) (hr1 : ∀ v : List TBox, x1 = .ret v → (res = impl_ExecDo_R v ∧ outs = impl_ExecDo_O v)) (s : (List TBox) × Int) (h : loop (fun s : (List TBox) × Int => impl_ExecDo_b1 r_ s.1 s.2) s = some x1) : Fin cx impl_ExecDo_X res outs impl_ExecDo_k3 (impl_ExecDo_S2 r_ s.1 s.2) :=
  loopD (I := fun s : (List TBox) × Int => Fin cx impl_ExecDo_X res outs impl_ExecDo_k3 (impl_ExecDo_S2 r_ s.1 s.2)) h fun s st h hc => impl_ExecDo_b1_ok r_ res outs x1 hb1 hr1 st hc s.1 s.2 h
noncomputable def impl_ExecDo (list : List TBox) (r_ : TRun) : Option (List TBox) :=
  ((impl_BoxOk list).bind fun boxOk =>
 (bif (!boxOk) then
 some []
 else
 ((impl_ExecOk r_).bind fun execOk =>
 (bif (!execOk) then
 some []
 else
 ((impl_copied_Box list).bind fun box =>
 ((loop (fun s : (List TBox) × Int => impl_ExecDo_b1 r_ s.1 s.2) (box, 0)).bind fun x => x.go (fun r => some r) fun s => impl_ExecDo_k2 s))))))
theorem impl_ExecDo_fin (list : List TBox) (r_ : TRun) (r : List TBox) (h : impl_ExecDo list r_ = some r) : Fin cx impl_ExecDo_X (impl_ExecDo_R r) (impl_ExecDo_O r) [.code impl_ExecDo_c] (startS impl_ExecDo_X [vsl 2 eBox list, .agg (eRun r_)]) :=
  (bindD h fun boxOk hboxOk h =>
 (condD h (fun e1 h =>
 (someD h fun e => (Fin.fin (cx := cx) (X := impl_ExecDo_X) (res := impl_ExecDo_R []) (outs := impl_ExecDo_O []) Try.func49 [[], [(1, { a := .call [.val [some 2] []] false (impl_BoxOk_R boxOk) (impl_BoxOk_O boxOk) }), (3, { d := some true })], []] [ACalls cx.P 61 [vsl 2 eBox list] (impl_BoxOk_R boxOk) (impl_BoxOk_O boxOk), (!boxOk) = true] (.cons (impl_BoxOk_ok list boxOk hboxOk) (.cons e1 .nil)) (by kernel_rfl)).is (congrArg impl_ExecDo_R e) (congrArg impl_ExecDo_O e))) (fun e1 h =>
 (bindD h fun execOk hexecOk h =>
 (condD h (fun e2 h =>
 (someD h fun e => (Fin.fin (cx := cx) (X := impl_ExecDo_X) (res := impl_ExecDo_R []) (outs := impl_ExecDo_O []) Try.func49 [[], [(1, { a := .call [.val [some 2] []] false (impl_BoxOk_R boxOk) (impl_BoxOk_O boxOk) }), (3, { d := some false }), (5, { a := .call [.val [some 2, some 2, none, none] []] false (impl_ExecOk_R execOk) (impl_ExecOk_O execOk) }), (7, { d := some true })], []] [ACalls cx.P 61 [vsl 2 eBox list] (impl_BoxOk_R boxOk) (impl_BoxOk_O boxOk), (!boxOk) = false, ACalls cx.P 43 [.agg (eRun r_)] (impl_ExecOk_R execOk) (impl_ExecOk_O execOk), (!execOk) = true] (.cons (impl_BoxOk_ok list boxOk hboxOk) (.cons e1 (.cons (impl_ExecOk_ok r_ execOk hexecOk) (.cons e2 .nil)))) (by kernel_rfl)).is (congrArg impl_ExecDo_R e) (congrArg impl_ExecDo_O e))) (fun e2 h =>
 (bindD h fun box hbox h =>
 (loopJ h fun x hl hr hb => (Fin.seg [[], [(1, { a := .call [.val [some 2] []] false (impl_BoxOk_R boxOk) (impl_BoxOk_O boxOk) }), (3, { d := some false }), (5, { a := .call [.val [some 2, some 2, none, none] []] false (impl_ExecOk_R execOk) (impl_ExecOk_O execOk) }), (7, { d := some false })], [(1, { a := .call [.val [some 2] []] false (impl_copied_Box_R box) (impl_copied_Box_O box) })], []] [] [5, 19, 20, 21] [(12, 0)] [ACalls cx.P 61 [vsl 2 eBox list] (impl_BoxOk_R boxOk) (impl_BoxOk_O boxOk), (!boxOk) = false, ACalls cx.P 43 [.agg (eRun r_)] (impl_ExecOk_R execOk) (impl_ExecOk_O execOk), (!execOk) = false, ACalls cx.P 46 [vsl 2 eBox list] (impl_copied_Box_R box) (impl_copied_Box_O box)] (.cons (impl_BoxOk_ok list boxOk hboxOk) (.cons e1 (.cons (impl_ExecOk_ok r_ execOk hexecOk) (.cons e2 (.cons (impl_copied_Box_ok list box hbox) .nil))))) (impl_ExecDo_b1_loop r_ _ _ x (fun s e => impl_ExecDo_k2_ok r s (hb s e)) (fun v e => ⟨congrArg impl_ExecDo_R (Option.some.inj (hr v e)).symm, congrArg impl_ExecDo_O (Option.some.inj (hr v e)).symm⟩) (box, 0) hl) (by kernel_rfl))))))))))
theorem impl_ExecDo_ok (list : List TBox) (r_ : TRun) (r : List TBox) (h : impl_ExecDo list r_ = some r) : ACalls cx.P 49 [vsl 2 eBox list, .agg (eRun r_)] (impl_ExecDo_R r) (impl_ExecDo_O r) :=
  ACalls.of (cx := cx) (X := impl_ExecDo_X) (c := impl_ExecDo_c) Try.func49 (by kernel_rfl) (by kernel_rfl) (by kernel_rfl) (impl_ExecDo_fin list r_ r h)

/-! ### impl_CertApply -/
noncomputable def impl_CertApply_c : Code := bodyOf Try.f26
noncomputable def impl_CertApply_X : Sig := { f := 26, fn := Try.f26, rms := [.val [none, some 2, some 4] [], .val [] []], oms := [none, none] }
noncomputable def impl_CertApply_R (r : TState × Int) : V := .tup [.agg (eState r.1), vi r.2]
noncomputable def impl_CertApply_O (r : TState × Int) : List (Option V) := [none, none]
noncomputable def impl_CertApply_k1 : List Item := posI 2000 6 [false, false, false] [.code impl_CertApply_c]
noncomputable def impl_CertApply_S1 (s_ : TState) (e_ : TEntry) (box : List TBox) : St := ⟨(bs 2 (.ptr 1 0 0 :: (.ptr 2 0 0 :: (.ptr 3 0 0 :: (bs 1 (.ptr 4 0 0 :: (bs 145 []))))))), [some [], some [.var 53 [vi s_.At, vsl 2 eBox s_.Boxes, vsl 4 eDone s_.Dones]], some [.var 48 [.b e_.None, vi e_.Req.Who, vi e_.Req.Seq, vsl 2 eRead e_.Run.Reads, vsl 2 ePut e_.Run.Puts, vi e_.Run.Val, vi e_.Run.Code]], some [.var 53 [vi 0, .nil, .nil]], some [.var 53 [vi (w64 (s_.At + 1)), .own 5 0 2 0 box.length, .nil]], some [erow 86 2 eBox box]]⟩
noncomputable def impl_CertApply_k2 : List Item := posI 2000 9 [false, false, false, true] [.code impl_CertApply_c]
noncomputable def impl_CertApply_S2 (s_ : TState) (own : TDone) (outBoxes : List TBox) : St := ⟨(bs 2 (.ptr 1 0 0 :: (bs 1 (.ptr 2 0 0 :: (bs 1 (.ptr 3 0 0 :: (bs 2 (.ptr 4 0 0 :: (bs 142 []))))))))), [some [], some [.var 53 [vi s_.At, vsl 2 eBox s_.Boxes, vsl 4 eDone s_.Dones]], some [.var 53 [vi 0, .nil, .nil]], some [.var 53 [vi (w64 (s_.At + 1)), vsl 2 eBox outBoxes, .nil]], some [.var 75 [vi own.Req.Who, vi own.Req.Seq, vi own.Code, vi own.Val]]]⟩
noncomputable def impl_CertApply_k3 : List Item := posI 2000 13 [false, false, false, true, false] [.code impl_CertApply_c]
noncomputable def impl_CertApply_S3 (s_ : TState) (own : TDone) (outBoxes : List TBox) (dones1 : List TDone) (put1 : Bool) : St := ⟨(bs 4 (.ptr 1 0 0 :: (bs 1 (.ptr 2 0 0 :: (bs 2 (.ptr 3 0 0 :: (.own 4 0 4 0 dones1.length :: (.b put1 :: (bs 140 []))))))))), [some [], some [.var 53 [vi 0, .nil, .nil]], some [.var 53 [vi (w64 (s_.At + 1)), vsl 2 eBox outBoxes, .nil]], some [.var 75 [vi own.Req.Who, vi own.Req.Seq, vi own.Code, vi own.Val]], some [erow 75 4 eDone dones1]]⟩
noncomputable def impl_CertApply_k4 : List Item := posI 2000 15 [false, false, false, true, false, true] [.code impl_CertApply_c]
noncomputable def impl_CertApply_S4 (s_ : TState) (own : TDone) (outBoxes : List TBox) (dones2 : List TDone) : St := ⟨(bs 4 (.ptr 1 0 0 :: (bs 1 (.ptr 2 0 0 :: (bs 2 (.ptr 3 0 0 :: (.own 4 0 4 0 dones2.length :: (bs 141 [])))))))), [some [], some [.var 53 [vi 0, .nil, .nil]], some [.var 53 [vi (w64 (s_.At + 1)), vsl 2 eBox outBoxes, .nil]], some [.var 75 [vi own.Req.Who, vi own.Req.Seq, vi own.Code, vi own.Val]], some [erow 75 4 eDone dones2]]⟩
noncomputable def impl_CertApply_j1 (s_ : TState) (own : TDone) (outBoxes : List TBox) (dones2 : List TDone) : Option (TState × Int) :=
  ((impl_copied_Done dones2).bind fun done1 =>
 some ((TState.mk (w64 (s_.At + 1)) outBoxes done1), own.Code))
theorem impl_CertApply_j1_ok (s_ : TState) (own : TDone) (outBoxes : List TBox) (r : TState × Int) (dones2 : List TDone) (h : impl_CertApply_j1 s_ own outBoxes dones2 = some r) : Fin cx impl_CertApply_X (impl_CertApply_R r) (impl_CertApply_O r) impl_CertApply_k4 (impl_CertApply_S4 s_ own outBoxes dones2) :=
  (bindD h fun done1 hdone1 h =>
 (someD h fun e => (Fin.fin (cx := cx) (X := impl_CertApply_X) (res := impl_CertApply_R ((TState.mk (w64 (s_.At + 1)) outBoxes done1), own.Code)) (outs := impl_CertApply_O ((TState.mk (w64 (s_.At + 1)) outBoxes done1), own.Code)) Try.func26 [[(1, { a := .call [.val [some 4] []] false (impl_copied_Done_R done1) (impl_copied_Done_O done1) })], []] [ACalls cx.P 47 [vsl 4 eDone dones2] (impl_copied_Done_R done1) (impl_copied_Done_O done1), dones2.length = dones2.length] (.cons (impl_copied_Done_ok dones2 done1 hdone1) (.cons rfl .nil)) (by kernel_rfl)).is (congrArg impl_CertApply_R e) (congrArg impl_CertApply_O e)))
noncomputable def impl_CertApply_k5 (s_ : TState) (own : TDone) (outBoxes : List TBox) (dones1 : List TDone) (put1 : Bool) : Option (TState × Int) :=
  (((bif (!put1) then
 (need ((dones1.length + 1) * 32 ≤ 140737488355328)
 (some (Exc.brk (dones1 ++ [own]))))
 else
 some (Exc.brk dones1)) : Option (Exc (TState × Int) (List TDone))).bind fun x => x.go some fun j => impl_CertApply_j1 s_ own outBoxes j)
theorem impl_CertApply_k5_ok (s_ : TState) (own : TDone) (outBoxes : List TBox) (r : TState × Int) (dones1 : List TDone) (put1 : Bool) (h : impl_CertApply_k5 s_ own outBoxes dones1 put1 = some r) : Fin cx impl_CertApply_X (impl_CertApply_R r) (impl_CertApply_O r) impl_CertApply_k3 (impl_CertApply_S3 s_ own outBoxes dones1 put1) :=
  (joinD (I := fun j : List TDone => Fin cx impl_CertApply_X (impl_CertApply_R r) (impl_CertApply_O r) impl_CertApply_k4 (impl_CertApply_S4 s_ own outBoxes j)) h (fun j h => impl_CertApply_j1_ok s_ own outBoxes r j h) (fun x1 h hc1 =>
  (condD h (fun e5 h =>
 (needD h fun e6 h =>
 (jbrkD h hc1 fun hI => (Fin.seg [[(1, { d := some true })], [(2, { a := .ck [] }), (3, { v := some (.own 10 0 4 0 (dones1 ++ [own]).length), e := some (erow 75 4 eDone (dones1 ++ [own])) })]] [] [4, 6, 9, 10] [(1, 0), (2, 0), (3, 0), (10, 0)] [(!put1) = true, V.own 10 0 4 0 (dones1.length + 1) = .own 10 0 4 0 (dones1 ++ [own]).length, Ent.row 75 4 (dones1.length + 1) (dones1.map eDone ++ [eDone own]) = erow 75 4 eDone (dones1 ++ [own]), dones1.length = dones1.length, (dones1.length + 1) * 32 ≤ 140737488355328, 1 = [own].length] (.cons e5 (.cons (by first | exact congrArg (V.own 10 0 4 0) List.length_append.symm | simp) (.cons (row_app rfl) (.cons rfl (.cons e6 (.cons (by rfl) .nil)))))) hI (by kernel_rfl))))) (fun e5 h =>
 (jbrkD h hc1 fun hI => (Fin.seg [[(1, { d := some false })]] [] [4, 6, 9, 10] [(1, 0), (2, 0), (3, 0), (4, 0)] [(!put1) = false] (.cons e5 .nil) hI (by kernel_rfl)))))))
noncomputable def impl_CertApply_k6 : List Item := posI 2000 12 [false, false, false, true] [.code impl_CertApply_c]
noncomputable def impl_CertApply_S5 (s_ : TState) (own : TDone) (outBoxes : List TBox) (dones : List TDone) (v109 : Int) (put : Bool) : St := ⟨(bs 4 (.ptr 1 0 0 :: (bs 1 (.ptr 2 0 0 :: (bs 2 (.ptr 3 0 0 :: (.own 4 0 4 0 dones.length :: (.b put :: (bs 95 (vsl 4 eDone s_.Dones :: (vi (s_.Dones.length : Int) :: (vi v109 :: (bs 42 []))))))))))))), [some [], some [.var 53 [vi 0, .nil, .nil]], some [.var 53 [vi (w64 (s_.At + 1)), vsl 2 eBox outBoxes, .nil]], some [.var 75 [vi own.Req.Who, vi own.Req.Seq, vi own.Code, vi own.Val]], some [erow 75 4 eDone dones]]⟩
noncomputable def impl_CertApply_k7 : List Item := posI 2000 17 [false, false, false, true, true, true] [.code impl_CertApply_c]
noncomputable def impl_CertApply_S6 (s_ : TState) (own : TDone) (outBoxes : List TBox) (v109 : Int) (done2 : TDone) (dones3 : List TDone) (put2 : Bool) : St := ⟨(bs 4 (.ptr 1 0 0 :: (bs 1 (.ptr 2 0 0 :: (bs 2 (.ptr 3 0 0 :: (.own 4 0 4 0 dones3.length :: (.b put2 :: (bs 1 (.ptr 5 0 0 :: (bs 93 (vsl 4 eDone s_.Dones :: (vi (s_.Dones.length : Int) :: (vi v109 :: (bs 42 []))))))))))))))), [some [], some [.var 53 [vi 0, .nil, .nil]], some [.var 53 [vi (w64 (s_.At + 1)), vsl 2 eBox outBoxes, .nil]], some [.var 75 [vi own.Req.Who, vi own.Req.Seq, vi own.Code, vi own.Val]], some [erow 75 4 eDone dones3], some [.var 75 [vi done2.Req.Who, vi done2.Req.Seq, vi done2.Code, vi done2.Val]]]⟩
noncomputable def impl_CertApply_k8 : List Item := posI 2000 19 [false, false, false, true, true, true, true] [.code impl_CertApply_c]
noncomputable def impl_CertApply_S7 (s_ : TState) (own : TDone) (outBoxes : List TBox) (v109 : Int) (put2 : Bool) (dones4 : List TDone) : St := ⟨(bs 4 (.ptr 1 0 0 :: (bs 1 (.ptr 2 0 0 :: (bs 2 (.ptr 3 0 0 :: (.own 4 0 4 0 dones4.length :: (.b put2 :: (bs 95 (vsl 4 eDone s_.Dones :: (vi (s_.Dones.length : Int) :: (vi v109 :: (bs 42 []))))))))))))), [some [], some [.var 53 [vi 0, .nil, .nil]], some [.var 53 [vi (w64 (s_.At + 1)), vsl 2 eBox outBoxes, .nil]], some [.var 75 [vi own.Req.Who, vi own.Req.Seq, vi own.Code, vi own.Val]], some [erow 75 4 eDone dones4]]⟩
noncomputable def impl_CertApply_j2 (v109 : Int) (put2 : Bool) (dones4 : List TDone) : Option (Stp (TState × Int) ((List TDone) × Int × Bool) ((List TDone) × Bool)) :=
  some (Stp.nxt (dones4, w64 (v109 + 1), put2))
theorem impl_CertApply_j2_ok (s_ : TState) (own : TDone) (outBoxes : List TBox) (v109 : Int) (put2 : Bool) (res : V) (outs : List (Option V)) (x1 : Exc (TState × Int) ((List TDone) × Bool)) (hb1 : ∀ s : (List TDone) × Bool, x1 = .brk s → Fin cx impl_CertApply_X res outs impl_CertApply_k3 (impl_CertApply_S3 s_ own outBoxes s.1 s.2)) (hr1 : ∀ v : TState × Int, x1 = .ret v → (res = impl_CertApply_R v ∧ outs = impl_CertApply_O v)) (st1 : Stp (TState × Int) ((List TDone) × Int × Bool) ((List TDone) × Bool)) (hc1 : Cont x1 (fun s : (List TDone) × Int × Bool => Fin cx impl_CertApply_X res outs impl_CertApply_k6 (impl_CertApply_S5 s_ own outBoxes s.1 s.2.1 s.2.2)) st1) (dones4 : List TDone) (h : impl_CertApply_j2 v109 put2 dones4 = some st1) : Fin cx impl_CertApply_X res outs impl_CertApply_k8 (impl_CertApply_S7 s_ own outBoxes v109 put2 dones4) :=
  (nxtD h hc1 fun hI => (Fin.seg [[]] [] [4, 6, 9, 10, 11, 107, 108, 109] [(1, 0), (2, 0), (3, 0), (4, 0)] [] .nil hI (by kernel_rfl)))
noncomputable def impl_CertApply_j3 (own : TDone) (v109 : Int) (done2 : TDone) (dones3 : List TDone) (put2 : Bool) : Option (Stp (TState × Int) ((List TDone) × Int × Bool) ((List TDone) × Bool)) :=
  (((bif (done2.Req.Who != own.Req.Who) then
 (need ((dones3.length + 1) * 32 ≤ 140737488355328)
 (some (Exc.brk (dones3 ++ [done2]))))
 else
 some (Exc.brk dones3)) : Option (Exc (Stp (TState × Int) ((List TDone) × Int × Bool) ((List TDone) × Bool)) (List TDone))).bind fun x => x.go some fun j => impl_CertApply_j2 v109 put2 j)
theorem impl_CertApply_j3_ok (s_ : TState) (own : TDone) (outBoxes : List TBox) (v109 : Int) (done2 : TDone) (res : V) (outs : List (Option V)) (x1 : Exc (TState × Int) ((List TDone) × Bool)) (hb1 : ∀ s : (List TDone) × Bool, x1 = .brk s → Fin cx impl_CertApply_X res outs impl_CertApply_k3 (impl_CertApply_S3 s_ own outBoxes s.1 s.2)) (hr1 : ∀ v : TState × Int, x1 = .ret v → (res = impl_CertApply_R v ∧ outs = impl_CertApply_O v)) (st1 : Stp (TState × Int) ((List TDone) × Int × Bool) ((List TDone) × Bool)) (hc1 : Cont x1 (fun s : (List TDone) × Int × Bool => Fin cx impl_CertApply_X res outs impl_CertApply_k6 (impl_CertApply_S5 s_ own outBoxes s.1 s.2.1 s.2.2)) st1) (dones3 : List TDone) (put2 : Bool) (h : impl_CertApply_j3 own v109 done2 dones3 put2 = some st1) : Fin cx impl_CertApply_X res outs impl_CertApply_k7 (impl_CertApply_S6 s_ own outBoxes v109 done2 dones3 put2) :=
  (joinD (I := fun j : List TDone => Fin cx impl_CertApply_X res outs impl_CertApply_k8 (impl_CertApply_S7 s_ own outBoxes v109 put2 j)) h (fun j h => impl_CertApply_j2_ok s_ own outBoxes v109 put2 res outs x1 hb1 hr1 st1 hc1 j h) (fun x2 h hc2 =>
  (condD h (fun e8 h =>
 (needD h fun e9 h =>
 (jbrkD h hc2 fun hI => (Fin.seg [[(6, { d := some true })], [(2, { a := .ck [] }), (3, { v := some (.own 16 0 4 0 (dones3 ++ [done2]).length), e := some (erow 75 4 eDone (dones3 ++ [done2])) })]] [] [4, 6, 9, 10, 11, 107, 108, 109] [(1, 0), (2, 0), (3, 0), (16, 0)] [(done2.Req.Who != own.Req.Who) = true, V.own 16 0 4 0 (dones3.length + 1) = .own 16 0 4 0 (dones3 ++ [done2]).length, Ent.row 75 4 (dones3.length + 1) (dones3.map eDone ++ [eDone done2]) = erow 75 4 eDone (dones3 ++ [done2]), dones3.length = dones3.length, (dones3.length + 1) * 32 ≤ 140737488355328, 1 = [done2].length] (.cons e8 (.cons (by first | exact congrArg (V.own 16 0 4 0) List.length_append.symm | simp) (.cons (row_app rfl) (.cons rfl (.cons e9 (.cons (by rfl) .nil)))))) hI (by kernel_rfl))))) (fun e8 h =>
 (jbrkD h hc2 fun hI => (Fin.seg [[(6, { d := some false })]] [] [4, 6, 9, 10, 11, 107, 108, 109] [(1, 0), (2, 0), (3, 0), (4, 0)] [(done2.Req.Who != own.Req.Who) = false] (.cons e8 .nil) hI (by kernel_rfl)))))))
noncomputable def impl_CertApply_b1 (s_ : TState) (own : TDone) (dones : List TDone) (v109 : Int) (put : Bool) : Option (Stp (TState × Int) ((List TDone) × Int × Bool) ((List TDone) × Bool)) :=
  (bif decide (v109 < (s_.Dones.length : Int)) then
 ((idx s_.Dones v109).bind fun done2 =>
 (((bif (!put) then
 (bif decide (done2.Req.Who ≥ own.Req.Who) then
 (need ((dones.length + 1) * 32 ≤ 140737488355328)
 (some (Exc.brk (dones ++ [own], true))))
 else
 some (Exc.brk (dones, put)))
 else
 some (Exc.brk (dones, put))) : Option (Exc (Stp (TState × Int) ((List TDone) × Int × Bool) ((List TDone) × Bool)) ((List TDone) × Bool))).bind fun x => x.go some fun j => impl_CertApply_j3 own v109 done2 j.1 j.2))
 else
 some (Stp.brk (dones, put)))
theorem impl_CertApply_b1_ok (s_ : TState) (own : TDone) (outBoxes : List TBox) (res : V) (outs : List (Option V)) (x1 : Exc (TState × Int) ((List TDone) × Bool)) (hb1 : ∀ s : (List TDone) × Bool, x1 = .brk s → Fin cx impl_CertApply_X res outs impl_CertApply_k3 (impl_CertApply_S3 s_ own outBoxes s.1 s.2)) (hr1 : ∀ v : TState × Int, x1 = .ret v → (res = impl_CertApply_R v ∧ outs = impl_CertApply_O v)) (st1 : Stp (TState × Int) ((List TDone) × Int × Bool) ((List TDone) × Bool)) (hc1 : Cont x1 (fun s : (List TDone) × Int × Bool => Fin cx impl_CertApply_X res outs impl_CertApply_k6 (impl_CertApply_S5 s_ own outBoxes s.1 s.2.1 s.2.2)) st1) (dones : List TDone) (v109 : Int) (put : Bool) (h : impl_CertApply_b1 s_ own dones v109 put = some st1) : Fin cx impl_CertApply_X res outs impl_CertApply_k6 (impl_CertApply_S5 s_ own outBoxes dones v109 put) :=
  (condD h (fun e7 h =>
 (bindD h fun done2 hdone2 h =>
 (joinD (I := fun j : (List TDone) × Bool => Fin cx impl_CertApply_X res outs impl_CertApply_k7 (impl_CertApply_S6 s_ own outBoxes v109 done2 j.1 j.2)) h (fun j h => impl_CertApply_j3_ok s_ own outBoxes v109 done2 res outs x1 hb1 hr1 st1 hc1 j.1 j.2 h) (fun x2 h hc2 =>
  (condD h (fun e10 h =>
 (condD h (fun e11 h =>
 (needD h fun e12 h =>
 (jbrkD h hc2 fun hI => (Fin.seg [[(0, { d := some true })], [(0, { a := .row (eDone done2) })], [(2, { d := some true }), (10, { d := some true })], [(2, { a := .ck [] }), (3, { v := some (.own 24 0 4 0 (dones ++ [own]).length), e := some (erow 75 4 eDone (dones ++ [own])) })], []] [] [4, 6, 9, 10, 11, 13, 107, 108, 109] [(1, 0), (2, 0), (3, 0), (24, 0), (8, 0)] [decide (v109 < (s_.Dones.length : Int)) = true, (0 : Int) ≤ v109, v109 < ((s_.Dones.length : Nat) : Int), (s_.Dones.map eDone)[v109.toNat]? = some (eDone done2), (!put) = true, decide (done2.Req.Who ≥ own.Req.Who) = true, V.own 24 0 4 0 (dones.length + 1) = .own 24 0 4 0 (dones ++ [own]).length, Ent.row 75 4 (dones.length + 1) (dones.map eDone ++ [eDone own]) = erow 75 4 eDone (dones ++ [own]), dones.length = dones.length, (dones.length + 1) * 32 ≤ 140737488355328, 1 = [own].length] (.cons e7 (.cons (idx0 hdone2) (.cons (idx1 hdone2) (.cons (map_idx hdone2) (.cons e10 (.cons e11 (.cons (by first | exact congrArg (V.own 24 0 4 0) List.length_append.symm | simp) (.cons (row_app rfl) (.cons rfl (.cons e12 (.cons (by rfl) .nil))))))))))) hI (by kernel_rfl))))) (fun e11 h =>
 (jbrkD h hc2 fun hI => (Fin.seg [[(0, { d := some true })], [(0, { a := .row (eDone done2) })], [(2, { d := some true }), (10, { d := some false })]] [] [4, 6, 9, 10, 11, 13, 107, 108, 109] [(1, 0), (2, 0), (3, 0), (4, 0), (8, 0)] [decide (v109 < (s_.Dones.length : Int)) = true, (0 : Int) ≤ v109, v109 < ((s_.Dones.length : Nat) : Int), (s_.Dones.map eDone)[v109.toNat]? = some (eDone done2), (!put) = true, decide (done2.Req.Who ≥ own.Req.Who) = false] (.cons e7 (.cons (idx0 hdone2) (.cons (idx1 hdone2) (.cons (map_idx hdone2) (.cons e10 (.cons e11 .nil)))))) hI (by kernel_rfl)))))) (fun e10 h =>
 (jbrkD h hc2 fun hI => (Fin.seg [[(0, { d := some true })], [(0, { a := .row (eDone done2) })], [(2, { d := some false })]] [] [4, 6, 9, 10, 11, 13, 107, 108, 109] [(1, 0), (2, 0), (3, 0), (4, 0), (8, 0)] [decide (v109 < (s_.Dones.length : Int)) = true, (0 : Int) ≤ v109, v109 < ((s_.Dones.length : Nat) : Int), (s_.Dones.map eDone)[v109.toNat]? = some (eDone done2), (!put) = false] (.cons e7 (.cons (idx0 hdone2) (.cons (idx1 hdone2) (.cons (map_idx hdone2) (.cons e10 .nil))))) hI (by kernel_rfl))))))))) (fun e7 h =>
 (brkD h hc1 fun e => (Fin.seg [[(0, { d := some false })]] [] [4, 6, 9, 10, 11] [(1, 0), (2, 0), (3, 0), (4, 0)] [decide (v109 < (s_.Dones.length : Int)) = false] (.cons e7 .nil) (hb1 _ e) (by kernel_rfl)))))
theorem impl_CertApply_b1_loop (s_ : TState) (own : TDone) (outBoxes : List TBox) (res : V) (outs : List (Option V)) (x1 : Exc (TState × Int) ((List TDone) × Bool)) (hb1 : ∀ s : (List TDone) × Bool, x1 = .brk s → Fin cx impl_CertApply_X res outs impl_CertApply_k3 (impl_CertApply_S3 s_ own outBoxes s.1 s.2)) (hr1 : ∀ v : TState × Int, x1 = .ret v → (res = impl_CertApply_R v ∧ outs = impl_CertApply_O v)) (s : (List TDone) × Int × Bool) (h : loop (fun s : (List TDone) × Int × Bool => impl_CertApply_b1 s_ own s.1 s.2.1 s.2.2) s = some x1) : Fin cx impl_CertApply_X res outs impl_CertApply_k6 (impl_CertApply_S5 s_ own outBoxes s.1 s.2.1 s.2.2) :=
  loopD (I := fun s : (List TDone) × Int × Bool => Fin cx impl_CertApply_X res outs impl_CertApply_k6 (impl_CertApply_S5 s_ own outBoxes s.1 s.2.1 s.2.2)) h fun s st h hc => impl_CertApply_b1_ok s_ own outBoxes res outs x1 hb1 hr1 st hc s.1 s.2.1 s.2.2 h
noncomputable def impl_CertApply_j4 (s_ : TState) (own : TDone) (outBoxes : List TBox) : Option (TState × Int) :=
  ((loop (fun s : (List TDone) × Int × Bool => impl_CertApply_b1 s_ own s.1 s.2.1 s.2.2) ([], 0, false)).bind fun x => x.go (fun r => some r) fun s => impl_CertApply_k5 s_ own outBoxes s.1 s.2)
theorem impl_CertApply_j4_ok (s_ : TState) (r : TState × Int) (own : TDone) (outBoxes : List TBox) (h : impl_CertApply_j4 s_ own outBoxes = some r) : Fin cx impl_CertApply_X (impl_CertApply_R r) (impl_CertApply_O r) impl_CertApply_k2 (impl_CertApply_S2 s_ own outBoxes) :=
  (loopJ h fun x hl hr hb => (Fin.seg [[], [], []] [.own (.tmp 10) 75 4] [4, 6, 9, 10, 11, 107, 108, 109] [(2, 0), (3, 0), (4, 0), (11, 0)] [] .nil (impl_CertApply_b1_loop s_ own outBoxes _ _ x (fun s e => impl_CertApply_k5_ok s_ own outBoxes r s.1 s.2 (hb s e)) (fun v e => ⟨congrArg impl_CertApply_R (Option.some.inj (hr v e)).symm, congrArg impl_CertApply_O (Option.some.inj (hr v e)).symm⟩) ([], 0, false) hl) (by kernel_rfl)))
noncomputable def impl_CertApply_k9 (s_ : TState) (e_ : TEntry) (box : List TBox) : Option (TState × Int) :=
  ((((impl_ExecFresh s_.Boxes e_.Run).bind fun execFresh =>
 (bif (!execFresh) then
 some (Exc.brk ((TDone.mk e_.Req 1 0), box))
 else
 (bif (e_.Run.Code != 0) then
 some (Exc.brk ((TDone.mk e_.Req 2 0), box))
 else
 ((impl_ExecDo s_.Boxes e_.Run).bind fun execDo =>
 some (Exc.brk ((TDone.mk e_.Req 0 e_.Run.Val), execDo)))))) : Option (Exc (TState × Int) (TDone × List TBox))).bind fun x => x.go some fun j => impl_CertApply_j4 s_ j.1 j.2)
theorem impl_CertApply_k9_ok (s_ : TState) (e_ : TEntry) (box : List TBox) (r : TState × Int) (h : impl_CertApply_k9 s_ e_ box = some r) : Fin cx impl_CertApply_X (impl_CertApply_R r) (impl_CertApply_O r) impl_CertApply_k1 (impl_CertApply_S1 s_ e_ box) :=
  (joinD (I := fun j : TDone × List TBox => Fin cx impl_CertApply_X (impl_CertApply_R r) (impl_CertApply_O r) impl_CertApply_k2 (impl_CertApply_S2 s_ j.1 j.2)) h (fun j h => impl_CertApply_j4_ok s_ r j.1 j.2 h) (fun x1 h hc1 =>
  (bindD h fun execFresh hexecFresh h =>
 (condD h (fun e13 h =>
 (jbrkD h hc1 fun hI => (Fin.seg [[], [(4, { a := .call [.val [some 2] [], .val [some 2, some 2, none, none] []] false (impl_ExecFresh_R execFresh) (impl_ExecFresh_O execFresh) }), (6, { d := some true })], []] [.frz (.cell 4 0 1) (none)] [2, 4, 6, 9] [(1, 0), (3, 0), (4, 0), (9, 0)] [ACalls cx.P 48 [vsl 2 eBox s_.Boxes, .agg (eRun e_.Run)] (impl_ExecFresh_R execFresh) (impl_ExecFresh_O execFresh), (!execFresh) = true, box.length = box.length] (.cons (impl_ExecFresh_ok s_.Boxes e_.Run execFresh hexecFresh) (.cons e13 (.cons rfl .nil))) hI (by kernel_rfl)))) (fun e13 h =>
 (condD h (fun e14 h =>
 (jbrkD h hc1 fun hI => (Fin.seg [[], [(4, { a := .call [.val [some 2] [], .val [some 2, some 2, none, none] []] false (impl_ExecFresh_R execFresh) (impl_ExecFresh_O execFresh) }), (6, { d := some false })], [(4, { d := some true })], []] [.frz (.cell 4 0 1) (none)] [2, 4, 6, 9] [(1, 0), (3, 0), (4, 0), (9, 0)] [ACalls cx.P 48 [vsl 2 eBox s_.Boxes, .agg (eRun e_.Run)] (impl_ExecFresh_R execFresh) (impl_ExecFresh_O execFresh), (!execFresh) = false, (e_.Run.Code != 0) = true, box.length = box.length] (.cons (impl_ExecFresh_ok s_.Boxes e_.Run execFresh hexecFresh) (.cons e13 (.cons e14 (.cons rfl .nil)))) hI (by kernel_rfl)))) (fun e14 h =>
 (bindD h fun execDo hexecDo h =>
 (jbrkD h hc1 fun hI => (Fin.seg [[], [(4, { a := .call [.val [some 2] [], .val [some 2, some 2, none, none] []] false (impl_ExecFresh_R execFresh) (impl_ExecFresh_O execFresh) }), (6, { d := some false })], [(4, { d := some false })], [], [(4, { a := .call [.val [some 2] [], .val [some 2, some 2, none, none] []] false (impl_ExecDo_R execDo) (impl_ExecDo_O execDo) })]] [] [2, 4, 6, 9] [(1, 0), (3, 0), (4, 0), (9, 0)] [ACalls cx.P 48 [vsl 2 eBox s_.Boxes, .agg (eRun e_.Run)] (impl_ExecFresh_R execFresh) (impl_ExecFresh_O execFresh), (!execFresh) = false, (e_.Run.Code != 0) = false, ACalls cx.P 49 [vsl 2 eBox s_.Boxes, .agg (eRun e_.Run)] (impl_ExecDo_R execDo) (impl_ExecDo_O execDo)] (.cons (impl_ExecFresh_ok s_.Boxes e_.Run execFresh hexecFresh) (.cons e13 (.cons e14 (.cons (impl_ExecDo_ok s_.Boxes e_.Run execDo hexecDo) .nil)))) hI (by kernel_rfl)))))))))))
noncomputable def impl_CertApply_k10 : List Item := posI 2000 5 [false, false] [.code impl_CertApply_c]
noncomputable def impl_CertApply_S8 (s_ : TState) (e_ : TEntry) (box : List TBox) (v45 : Int) : St := ⟨(bs 2 (.ptr 1 0 0 :: (.ptr 2 0 0 :: (.ptr 3 0 0 :: (bs 1 (.ptr 4 0 0 :: (bs 36 (vsl 4 eDone s_.Dones :: (vi (s_.Dones.length : Int) :: (vi v45 :: (bs 106 []))))))))))), [some [], some [.var 53 [vi s_.At, vsl 2 eBox s_.Boxes, vsl 4 eDone s_.Dones]], some [.var 48 [.b e_.None, vi e_.Req.Who, vi e_.Req.Seq, vsl 2 eRead e_.Run.Reads, vsl 2 ePut e_.Run.Puts, vi e_.Run.Val, vi e_.Run.Code]], some [.var 53 [vi 0, .nil, .nil]], some [.var 53 [vi (w64 (s_.At + 1)), .own 5 0 2 0 box.length, .nil]], some [erow 86 2 eBox box]]⟩
noncomputable def impl_CertApply_k11 : List Item := posI 2000 8 [false, false, true, false] [.code impl_CertApply_c]
noncomputable def impl_CertApply_S9 (s_ : TState) (e_ : TEntry) (box : List TBox) (v45 : Int) : St := ⟨(bs 2 (.ptr 1 0 0 :: (.ptr 2 0 0 :: (.ptr 3 0 0 :: (bs 1 (.ptr 4 0 0 :: (bs 36 (vsl 4 eDone s_.Dones :: (vi (s_.Dones.length : Int) :: (vi v45 :: (bs 106 []))))))))))), [some [], some [.var 53 [vi s_.At, vsl 2 eBox s_.Boxes, vsl 4 eDone s_.Dones]], some [.var 48 [.b e_.None, vi e_.Req.Who, vi e_.Req.Seq, vsl 2 eRead e_.Run.Reads, vsl 2 ePut e_.Run.Puts, vi e_.Run.Val, vi e_.Run.Code]], some [.var 53 [vi 0, .nil, .nil]], some [.var 53 [vi (w64 (s_.At + 1)), .own 5 0 2 0 box.length, .nil]], some [erow 86 2 eBox box]]⟩
noncomputable def impl_CertApply_j5 (v45 : Int) : Option (Stp (TState × Int) Int Unit) :=
  some (Stp.nxt (w64 (v45 + 1)))
theorem impl_CertApply_j5_ok (s_ : TState) (e_ : TEntry) (box : List TBox) (v45 : Int) (res : V) (outs : List (Option V)) (x1 : Exc (TState × Int) Unit) (hb1 : ∀ s : Unit, x1 = .brk s → Fin cx impl_CertApply_X res outs impl_CertApply_k1 (impl_CertApply_S1 s_ e_ box)) (hr1 : ∀ v : TState × Int, x1 = .ret v → (res = impl_CertApply_R v ∧ outs = impl_CertApply_O v)) (st1 : Stp (TState × Int) Int Unit) (hc1 : Cont x1 (fun s : Int => Fin cx impl_CertApply_X res outs impl_CertApply_k10 (impl_CertApply_S8 s_ e_ box s)) st1) (h : impl_CertApply_j5 v45 = some st1) : Fin cx impl_CertApply_X res outs impl_CertApply_k11 (impl_CertApply_S9 s_ e_ box v45) :=
  (nxtD h hc1 fun hI => (Fin.seg [[]] [] [2, 3, 4, 6, 43, 44, 45] [(1, 0), (2, 0), (3, 0), (4, 0), (5, 0)] [] .nil hI (by kernel_rfl)))
noncomputable def impl_CertApply_b2 (s_ : TState) (e_ : TEntry) (box : List TBox) (v45 : Int) : Option (Stp (TState × Int) Int Unit) :=
  (bif decide (v45 < (s_.Dones.length : Int)) then
 ((idx s_.Dones v45).bind fun done3 =>
 (((bif (done3.Req.Who == e_.Req.Who) then
 (bif decide (done3.Req.Seq ≥ e_.Req.Seq) then
 ((impl_copied_Done s_.Dones).bind fun done4 =>
 (bif (done3.Req.Seq == e_.Req.Seq) then
 some (Exc.ret (Stp.ret ((TState.mk (w64 (s_.At + 1)) box done4), 3)))
 else
 some (Exc.ret (Stp.ret ((TState.mk (w64 (s_.At + 1)) box done4), 4)))))
 else
 some (Exc.brk ()))
 else
 some (Exc.brk ())) : Option (Exc (Stp (TState × Int) Int Unit) Unit)).bind fun x => x.go some fun j => impl_CertApply_j5 v45))
 else
 some (Stp.brk ()))
theorem impl_CertApply_b2_ok (s_ : TState) (e_ : TEntry) (box : List TBox) (res : V) (outs : List (Option V)) (x1 : Exc (TState × Int) Unit) (hb1 : ∀ s : Unit, x1 = .brk s → Fin cx impl_CertApply_X res outs impl_CertApply_k1 (impl_CertApply_S1 s_ e_ box)) (hr1 : ∀ v : TState × Int, x1 = .ret v → (res = impl_CertApply_R v ∧ outs = impl_CertApply_O v)) (st1 : Stp (TState × Int) Int Unit) (hc1 : Cont x1 (fun s : Int => Fin cx impl_CertApply_X res outs impl_CertApply_k10 (impl_CertApply_S8 s_ e_ box s)) st1) (v45 : Int) (h : impl_CertApply_b2 s_ e_ box v45 = some st1) : Fin cx impl_CertApply_X res outs impl_CertApply_k10 (impl_CertApply_S8 s_ e_ box v45) :=
  (condD h (fun e15 h =>
 (bindD h fun done3 hdone3 h =>
 (joinD (I := fun j : Unit => Fin cx impl_CertApply_X res outs impl_CertApply_k11 (impl_CertApply_S9 s_ e_ box v45)) h (fun j h => impl_CertApply_j5_ok s_ e_ box v45 res outs x1 hb1 hr1 st1 hc1 h) (fun x2 h hc2 =>
  (condD h (fun e16 h =>
 (condD h (fun e17 h =>
 (bindD h fun done4 hdone4 h =>
 (condD h (fun e18 h =>
 (jretD h hc2 fun h => (retD h hc1 fun e => (Fin.fin (cx := cx) (X := impl_CertApply_X) (res := impl_CertApply_R ((TState.mk (w64 (s_.At + 1)) box done4), 3)) (outs := impl_CertApply_O ((TState.mk (w64 (s_.At + 1)) box done4), 3)) Try.func26 [[(0, { d := some true })], [(0, { a := .row (eDone done3) })], [(7, { d := some true }), (15, { d := some true })], [(2, { a := .call [.val [some 4] []] false (impl_copied_Done_R done4) (impl_copied_Done_O done4) })], [(6, { d := some true })], []] [decide (v45 < (s_.Dones.length : Int)) = true, (0 : Int) ≤ v45, v45 < ((s_.Dones.length : Nat) : Int), (s_.Dones.map eDone)[v45.toNat]? = some (eDone done3), (done3.Req.Who == e_.Req.Who) = true, decide (done3.Req.Seq ≥ e_.Req.Seq) = true, ACalls cx.P 47 [vsl 4 eDone s_.Dones] (impl_copied_Done_R done4) (impl_copied_Done_O done4), (done3.Req.Seq == e_.Req.Seq) = true, box.length = box.length] (.cons e15 (.cons (idx0 hdone3) (.cons (idx1 hdone3) (.cons (map_idx hdone3) (.cons e16 (.cons e17 (.cons (impl_copied_Done_ok s_.Dones done4 hdone4) (.cons e18 (.cons rfl .nil))))))))) (by kernel_rfl)).is (hr1 _ e).1 (hr1 _ e).2))) (fun e18 h =>
 (jretD h hc2 fun h => (retD h hc1 fun e => (Fin.fin (cx := cx) (X := impl_CertApply_X) (res := impl_CertApply_R ((TState.mk (w64 (s_.At + 1)) box done4), 4)) (outs := impl_CertApply_O ((TState.mk (w64 (s_.At + 1)) box done4), 4)) Try.func26 [[(0, { d := some true })], [(0, { a := .row (eDone done3) })], [(7, { d := some true }), (15, { d := some true })], [(2, { a := .call [.val [some 4] []] false (impl_copied_Done_R done4) (impl_copied_Done_O done4) })], [(6, { d := some false })], []] [decide (v45 < (s_.Dones.length : Int)) = true, (0 : Int) ≤ v45, v45 < ((s_.Dones.length : Nat) : Int), (s_.Dones.map eDone)[v45.toNat]? = some (eDone done3), (done3.Req.Who == e_.Req.Who) = true, decide (done3.Req.Seq ≥ e_.Req.Seq) = true, ACalls cx.P 47 [vsl 4 eDone s_.Dones] (impl_copied_Done_R done4) (impl_copied_Done_O done4), (done3.Req.Seq == e_.Req.Seq) = false, box.length = box.length] (.cons e15 (.cons (idx0 hdone3) (.cons (idx1 hdone3) (.cons (map_idx hdone3) (.cons e16 (.cons e17 (.cons (impl_copied_Done_ok s_.Dones done4 hdone4) (.cons e18 (.cons rfl .nil))))))))) (by kernel_rfl)).is (hr1 _ e).1 (hr1 _ e).2)))))) (fun e17 h =>
 (jbrkD h hc2 fun hI => (Fin.seg [[(0, { d := some true })], [(0, { a := .row (eDone done3) })], [(7, { d := some true }), (15, { d := some false })]] [] [2, 3, 4, 6, 43, 44, 45] [(1, 0), (2, 0), (3, 0), (4, 0), (5, 0)] [decide (v45 < (s_.Dones.length : Int)) = true, (0 : Int) ≤ v45, v45 < ((s_.Dones.length : Nat) : Int), (s_.Dones.map eDone)[v45.toNat]? = some (eDone done3), (done3.Req.Who == e_.Req.Who) = true, decide (done3.Req.Seq ≥ e_.Req.Seq) = false] (.cons e15 (.cons (idx0 hdone3) (.cons (idx1 hdone3) (.cons (map_idx hdone3) (.cons e16 (.cons e17 .nil)))))) hI (by kernel_rfl)))))) (fun e16 h =>
 (jbrkD h hc2 fun hI => (Fin.seg [[(0, { d := some true })], [(0, { a := .row (eDone done3) })], [(7, { d := some false })]] [] [2, 3, 4, 6, 43, 44, 45] [(1, 0), (2, 0), (3, 0), (4, 0), (5, 0)] [decide (v45 < (s_.Dones.length : Int)) = true, (0 : Int) ≤ v45, v45 < ((s_.Dones.length : Nat) : Int), (s_.Dones.map eDone)[v45.toNat]? = some (eDone done3), (done3.Req.Who == e_.Req.Who) = false] (.cons e15 (.cons (idx0 hdone3) (.cons (idx1 hdone3) (.cons (map_idx hdone3) (.cons e16 .nil))))) hI (by kernel_rfl))))))))) (fun e15 h =>
 (brkD h hc1 fun e => (Fin.seg [[(0, { d := some false })]] [] [2, 3, 4, 6] [(1, 0), (2, 0), (3, 0), (4, 0), (5, 0)] [decide (v45 < (s_.Dones.length : Int)) = false] (.cons e15 .nil) (hb1 _ e) (by kernel_rfl)))))
theorem impl_CertApply_b2_loop (s_ : TState) (e_ : TEntry) (box : List TBox) (res : V) (outs : List (Option V)) (x1 : Exc (TState × Int) Unit) (hb1 : ∀ s : Unit, x1 = .brk s → Fin cx impl_CertApply_X res outs impl_CertApply_k1 (impl_CertApply_S1 s_ e_ box)) (hr1 : ∀ v : TState × Int, x1 = .ret v → (res = impl_CertApply_R v ∧ outs = impl_CertApply_O v)) (s : Int) (h : loop (fun s : Int => impl_CertApply_b2 s_ e_ box s) s = some x1) : Fin cx impl_CertApply_X res outs impl_CertApply_k10 (impl_CertApply_S8 s_ e_ box s) :=
  loopD (I := fun s : Int => Fin cx impl_CertApply_X res outs impl_CertApply_k10 (impl_CertApply_S8 s_ e_ box s)) h fun s st h hc => impl_CertApply_b2_ok s_ e_ box res outs x1 hb1 hr1 st hc s h
noncomputable def impl_CertApply (s_ : TState) (e_ : TEntry) : Option (TState × Int) :=
  ((impl_CertOk s_).bind fun certOk =>
 (bif (!certOk) then
 some ((TState.mk 0 [] []), (-1))
 else
 ((impl_CertEntry e_).bind fun certEntry =>
 (bif (!certEntry) then
 some ((TState.mk 0 [] []), (-1))
 else
 (bif (s_.At == 40) then
 some ((TState.mk 0 [] []), (-1))
 else
 ((impl_copied_Box s_.Boxes).bind fun box =>
 (bif e_.None then
 ((impl_copied_Done s_.Dones).bind fun done =>
 some ((TState.mk (w64 (s_.At + 1)) box done), 5))
 else
 ((loop (fun s : Int => impl_CertApply_b2 s_ e_ box s) 0).bind fun x => x.go (fun r => some r) fun s => impl_CertApply_k9 s_ e_ box))))))))
theorem impl_CertApply_fin (s_ : TState) (e_ : TEntry) (r : TState × Int) (h : impl_CertApply s_ e_ = some r) : Fin cx impl_CertApply_X (impl_CertApply_R r) (impl_CertApply_O r) [.code impl_CertApply_c] (startS impl_CertApply_X [.agg (eState s_), .agg (eEntry e_)]) :=
  (bindD h fun certOk hcertOk h =>
 (condD h (fun e1 h =>
 (someD h fun e => (Fin.fin (cx := cx) (X := impl_CertApply_X) (res := impl_CertApply_R ((TState.mk 0 [] []), (-1))) (outs := impl_CertApply_O ((TState.mk 0 [] []), (-1))) Try.func26 [[], [(1, { a := .call [.val [none, some 2, some 4] []] false (impl_CertOk_R certOk) (impl_CertOk_O certOk) }), (3, { d := some true })], []] [ACalls cx.P 45 [.agg (eState s_)] (impl_CertOk_R certOk) (impl_CertOk_O certOk), (!certOk) = true] (.cons (impl_CertOk_ok s_ certOk hcertOk) (.cons e1 .nil)) (by kernel_rfl)).is (congrArg impl_CertApply_R e) (congrArg impl_CertApply_O e))) (fun e1 h =>
 (bindD h fun certEntry hcertEntry h =>
 (condD h (fun e2 h =>
 (someD h fun e => (Fin.fin (cx := cx) (X := impl_CertApply_X) (res := impl_CertApply_R ((TState.mk 0 [] []), (-1))) (outs := impl_CertApply_O ((TState.mk 0 [] []), (-1))) Try.func26 [[], [(1, { a := .call [.val [none, some 2, some 4] []] false (impl_CertOk_R certOk) (impl_CertOk_O certOk) }), (3, { d := some false }), (5, { a := .call [.val [none, none, none, some 2, some 2, none, none] []] false (impl_CertEntry_R certEntry) (impl_CertEntry_O certEntry) }), (8, { d := some true })], []] [ACalls cx.P 45 [.agg (eState s_)] (impl_CertOk_R certOk) (impl_CertOk_O certOk), (!certOk) = false, ACalls cx.P 24 [.agg (eEntry e_)] (impl_CertEntry_R certEntry) (impl_CertEntry_O certEntry), (!certEntry) = true] (.cons (impl_CertOk_ok s_ certOk hcertOk) (.cons e1 (.cons (impl_CertEntry_ok e_ certEntry hcertEntry) (.cons e2 .nil)))) (by kernel_rfl)).is (congrArg impl_CertApply_R e) (congrArg impl_CertApply_O e))) (fun e2 h =>
 (condD h (fun e3 h =>
 (someD h fun e => (Fin.fin (cx := cx) (X := impl_CertApply_X) (res := impl_CertApply_R ((TState.mk 0 [] []), (-1))) (outs := impl_CertApply_O ((TState.mk 0 [] []), (-1))) Try.func26 [[], [(1, { a := .call [.val [none, some 2, some 4] []] false (impl_CertOk_R certOk) (impl_CertOk_O certOk) }), (3, { d := some false }), (5, { a := .call [.val [none, none, none, some 2, some 2, none, none] []] false (impl_CertEntry_R certEntry) (impl_CertEntry_O certEntry) }), (8, { d := some false }), (12, { d := some true })], []] [ACalls cx.P 45 [.agg (eState s_)] (impl_CertOk_R certOk) (impl_CertOk_O certOk), (!certOk) = false, ACalls cx.P 24 [.agg (eEntry e_)] (impl_CertEntry_R certEntry) (impl_CertEntry_O certEntry), (!certEntry) = false, (s_.At == 40) = true] (.cons (impl_CertOk_ok s_ certOk hcertOk) (.cons e1 (.cons (impl_CertEntry_ok e_ certEntry hcertEntry) (.cons e2 (.cons e3 .nil))))) (by kernel_rfl)).is (congrArg impl_CertApply_R e) (congrArg impl_CertApply_O e))) (fun e3 h =>
 (bindD h fun box hbox h =>
 (condD h (fun e4 h =>
 (bindD h fun done hdone h =>
 (someD h fun e => (Fin.fin (cx := cx) (X := impl_CertApply_X) (res := impl_CertApply_R ((TState.mk (w64 (s_.At + 1)) box done), 5)) (outs := impl_CertApply_O ((TState.mk (w64 (s_.At + 1)) box done), 5)) Try.func26 [[], [(1, { a := .call [.val [none, some 2, some 4] []] false (impl_CertOk_R certOk) (impl_CertOk_O certOk) }), (3, { d := some false }), (5, { a := .call [.val [none, none, none, some 2, some 2, none, none] []] false (impl_CertEntry_R certEntry) (impl_CertEntry_O certEntry) }), (8, { d := some false }), (12, { d := some false })], [(5, { a := .call [.val [some 2] []] false (impl_copied_Box_R box) (impl_copied_Box_O box) })], [(1, { d := some true })], [(2, { a := .call [.val [some 4] []] false (impl_copied_Done_R done) (impl_copied_Done_O done) })], []] [ACalls cx.P 45 [.agg (eState s_)] (impl_CertOk_R certOk) (impl_CertOk_O certOk), (!certOk) = false, ACalls cx.P 24 [.agg (eEntry e_)] (impl_CertEntry_R certEntry) (impl_CertEntry_O certEntry), (!certEntry) = false, (s_.At == 40) = false, ACalls cx.P 46 [vsl 2 eBox s_.Boxes] (impl_copied_Box_R box) (impl_copied_Box_O box), e_.None = true, ACalls cx.P 47 [vsl 4 eDone s_.Dones] (impl_copied_Done_R done) (impl_copied_Done_O done), box.length = box.length] (.cons (impl_CertOk_ok s_ certOk hcertOk) (.cons e1 (.cons (impl_CertEntry_ok e_ certEntry hcertEntry) (.cons e2 (.cons e3 (.cons (impl_copied_Box_ok s_.Boxes box hbox) (.cons e4 (.cons (impl_copied_Done_ok s_.Dones done hdone) (.cons rfl .nil))))))))) (by kernel_rfl)).is (congrArg impl_CertApply_R e) (congrArg impl_CertApply_O e)))) (fun e4 h =>
 (loopJ h fun x hl hr hb => (Fin.seg [[], [(1, { a := .call [.val [none, some 2, some 4] []] false (impl_CertOk_R certOk) (impl_CertOk_O certOk) }), (3, { d := some false }), (5, { a := .call [.val [none, none, none, some 2, some 2, none, none] []] false (impl_CertEntry_R certEntry) (impl_CertEntry_O certEntry) }), (8, { d := some false }), (12, { d := some false })], [(5, { a := .call [.val [some 2] []] false (impl_copied_Box_R box) (impl_copied_Box_O box) })], [(1, { d := some false })], []] [] [2, 3, 4, 6, 43, 44, 45] [(1, 0), (2, 0), (3, 0), (25, 0), (23, 0)] [ACalls cx.P 45 [.agg (eState s_)] (impl_CertOk_R certOk) (impl_CertOk_O certOk), (!certOk) = false, ACalls cx.P 24 [.agg (eEntry e_)] (impl_CertEntry_R certEntry) (impl_CertEntry_O certEntry), (!certEntry) = false, (s_.At == 40) = false, ACalls cx.P 46 [vsl 2 eBox s_.Boxes] (impl_copied_Box_R box) (impl_copied_Box_O box), e_.None = false] (.cons (impl_CertOk_ok s_ certOk hcertOk) (.cons e1 (.cons (impl_CertEntry_ok e_ certEntry hcertEntry) (.cons e2 (.cons e3 (.cons (impl_copied_Box_ok s_.Boxes box hbox) (.cons e4 .nil))))))) (impl_CertApply_b2_loop s_ e_ box _ _ x (fun s e => impl_CertApply_k9_ok s_ e_ box r (hb s e)) (fun v e => ⟨congrArg impl_CertApply_R (Option.some.inj (hr v e)).symm, congrArg impl_CertApply_O (Option.some.inj (hr v e)).symm⟩) 0 hl) (by kernel_rfl))))))))))))))
theorem impl_CertApply_ok (s_ : TState) (e_ : TEntry) (r : TState × Int) (h : impl_CertApply s_ e_ = some r) : ACalls cx.P 26 [.agg (eState s_), .agg (eEntry e_)] (impl_CertApply_R r) (impl_CertApply_O r) :=
  ACalls.of (cx := cx) (X := impl_CertApply_X) (c := impl_CertApply_c) Try.func26 (by kernel_rfl) (by kernel_rfl) (by kernel_rfl) (impl_CertApply_fin s_ e_ r h)

/-! ### impl_folded -/
noncomputable def impl_folded_c : Code := bodyOf Try.f15
noncomputable def impl_folded_X : Sig := { f := 15, fn := Try.f15, rms := [.val [none, some 2, some 4] [], .val [some 1] []], oms := [none] }
noncomputable def impl_folded_R (r : TState × List Int) : V := .tup [.agg (eState r.1), vsl 1 eI r.2]
noncomputable def impl_folded_O (r : TState × List Int) : List (Option V) := [none]
noncomputable def impl_folded_k1 : List Item := posI 2000 5 [false] [.code impl_folded_c]
noncomputable def impl_folded_S1 (s_1 : TState) (codes1 : List Int) : St := ⟨(bs 2 (.ptr 1 0 0 :: (bs 1 (.ptr 2 0 0 :: (.own 3 0 1 0 codes1.length :: (bs 25 [])))))), [some [], some [.var 53 [vi 0, .nil, .nil]], some [.var 53 [vi s_1.At, vsl 2 eBox s_1.Boxes, vsl 4 eDone s_1.Dones]], some [erow 3 1 eI codes1]]⟩
noncomputable def impl_folded_k2 (s_1 : TState) (codes1 : List Int) : Option (TState × List Int) :=
  some (s_1, codes1)
theorem impl_folded_k2_ok (r : TState × List Int) (s_1 : TState) (codes1 : List Int) (h : impl_folded_k2 s_1 codes1 = some r) : Fin cx impl_folded_X (impl_folded_R r) (impl_folded_O r) impl_folded_k1 (impl_folded_S1 s_1 codes1) :=
  (someD h fun e => (Fin.fin (cx := cx) (X := impl_folded_X) (res := impl_folded_R (s_1, codes1)) (outs := impl_folded_O (s_1, codes1)) Try.func15 [[]] [codes1.length = codes1.length] (.cons rfl .nil) (by kernel_rfl)).is (congrArg impl_folded_R e) (congrArg impl_folded_O e))
noncomputable def impl_folded_k3 : List Item := posI 2000 4 [] [.code impl_folded_c]
noncomputable def impl_folded_S2 (list : List TEntry) (s_ : TState) (codes : List Int) (v13 : Int) : St := ⟨(bs 2 (.ptr 1 0 0 :: (bs 1 (.ptr 2 0 0 :: (.own 3 0 1 0 codes.length :: (bs 5 (vsl 7 eEntry list :: (vi (list.length : Int) :: (vi v13 :: (bs 17 [])))))))))), [some [], some [.var 53 [vi 0, .nil, .nil]], some [.var 53 [vi s_.At, vsl 2 eBox s_.Boxes, vsl 4 eDone s_.Dones]], some [erow 3 1 eI codes]]⟩
noncomputable def impl_folded_b1 (list : List TEntry) (s_ : TState) (codes : List Int) (v13 : Int) : Option (Stp (TState × List Int) (TState × (List Int) × Int) (TState × List Int)) :=
  (bif decide (v13 < (list.length : Int)) then
 ((idx list v13).bind fun entry =>
 ((impl_CertApply s_ entry).bind fun certApply =>
 (need ((codes.length + 1) * 8 ≤ 140737488355328)
 (some (Stp.nxt (certApply.1, codes ++ [certApply.2], w64 (v13 + 1)))))))
 else
 some (Stp.brk (s_, codes)))
theorem impl_folded_b1_ok (list : List TEntry) (res : V) (outs : List (Option V)) (x1 : Exc (TState × List Int) (TState × List Int)) (hb1 : ∀ s : TState × List Int, x1 = .brk s → Fin cx impl_folded_X res outs impl_folded_k1 (impl_folded_S1 s.1 s.2)) (hr1 : ∀ v : TState × List Int, x1 = .ret v → (res = impl_folded_R v ∧ outs = impl_folded_O v)) (st1 : Stp (TState × List Int) (TState × (List Int) × Int) (TState × List Int)) (hc1 : Cont x1 (fun s : TState × (List Int) × Int => Fin cx impl_folded_X res outs impl_folded_k3 (impl_folded_S2 list s.1 s.2.1 s.2.2)) st1) (s_ : TState) (codes : List Int) (v13 : Int) (h : impl_folded_b1 list s_ codes v13 = some st1) : Fin cx impl_folded_X res outs impl_folded_k3 (impl_folded_S2 list s_ codes v13) :=
  (condD h (fun e1 h =>
 (bindD h fun entry hentry h =>
 (bindD h fun certApply hcertApply h =>
 (needD h fun e2 h =>
 (nxtD h hc1 fun hI => (Fin.seg [[(0, { d := some true })], [(0, { a := .row (eEntry entry) })], [(2, { a := .call [.val [none, some 2, some 4] [], .val [none, none, none, some 2, some 2, none, none] []] false (impl_CertApply_R certApply) (impl_CertApply_O certApply) })], [], [(2, { a := .ck [] }), (3, { v := some (.own 23 0 1 0 (codes ++ [certApply.2]).length), e := some (erow 3 1 eI (codes ++ [certApply.2])) })], []] [] [2, 4, 5, 11, 12, 13] [(1, 0), (2, 0), (23, 0)] [decide (v13 < (list.length : Int)) = true, (0 : Int) ≤ v13, v13 < ((list.length : Nat) : Int), (list.map eEntry)[v13.toNat]? = some (eEntry entry), ACalls cx.P 26 [.agg (eState s_), .agg (eEntry entry)] (impl_CertApply_R certApply) (impl_CertApply_O certApply), V.own 23 0 1 0 (codes.length + 1) = .own 23 0 1 0 (codes ++ [certApply.2]).length, Ent.row 3 1 (codes.length + 1) (codes.map eI ++ [eI certApply.2]) = erow 3 1 eI (codes ++ [certApply.2]), codes.length = codes.length, (codes.length + 1) * 8 ≤ 140737488355328, 1 = [certApply.2].length] (.cons e1 (.cons (idx0 hentry) (.cons (idx1 hentry) (.cons (map_idx hentry) (.cons (impl_CertApply_ok s_ entry certApply hcertApply) (.cons (by first | exact congrArg (V.own 23 0 1 0) List.length_append.symm | simp) (.cons (row_app rfl) (.cons rfl (.cons e2 (.cons (by rfl) .nil)))))))))) hI (by kernel_rfl))))))) (fun e1 h =>
 (brkD h hc1 fun e => (Fin.seg [[(0, { d := some false })]] [] [2, 4, 5] [(1, 0), (2, 0), (3, 0)] [decide (v13 < (list.length : Int)) = false] (.cons e1 .nil) (hb1 _ e) (by kernel_rfl)))))
theorem impl_folded_b1_loop (list : List TEntry) (res : V) (outs : List (Option V)) (x1 : Exc (TState × List Int) (TState × List Int)) (hb1 : ∀ s : TState × List Int, x1 = .brk s → Fin cx impl_folded_X res outs impl_folded_k1 (impl_folded_S1 s.1 s.2)) (hr1 : ∀ v : TState × List Int, x1 = .ret v → (res = impl_folded_R v ∧ outs = impl_folded_O v)) (s : TState × (List Int) × Int) (h : loop (fun s : TState × (List Int) × Int => impl_folded_b1 list s.1 s.2.1 s.2.2) s = some x1) : Fin cx impl_folded_X res outs impl_folded_k3 (impl_folded_S2 list s.1 s.2.1 s.2.2) :=
  loopD (I := fun s : TState × (List Int) × Int => Fin cx impl_folded_X res outs impl_folded_k3 (impl_folded_S2 list s.1 s.2.1 s.2.2)) h fun s st h hc => impl_folded_b1_ok list res outs x1 hb1 hr1 st hc s.1 s.2.1 s.2.2 h
noncomputable def impl_folded (list : List TEntry) : Option (TState × List Int) :=
  ((impl_CertOpen).bind fun certOpen =>
 ((loop (fun s : TState × (List Int) × Int => impl_folded_b1 list s.1 s.2.1 s.2.2) (certOpen, [], 0)).bind fun x => x.go (fun r => some r) fun s => impl_folded_k2 s.1 s.2))
theorem impl_folded_fin (list : List TEntry) (r : TState × List Int) (h : impl_folded list = some r) : Fin cx impl_folded_X (impl_folded_R r) (impl_folded_O r) [.code impl_folded_c] (startS impl_folded_X [vsl 7 eEntry list]) :=
  (bindD h fun certOpen hcertOpen h =>
 (loopJ h fun x hl hr hb => (Fin.seg [[], [(0, { a := .call [] false (impl_CertOpen_R certOpen) (impl_CertOpen_O certOpen) })], [], []] [.own (.tmp 5) 3 1] [2, 4, 5, 11, 12, 13] [(1, 0), (4, 0), (10, 0)] [ACalls cx.P 25 [] (impl_CertOpen_R certOpen) (impl_CertOpen_O certOpen)] (.cons (impl_CertOpen_ok certOpen hcertOpen) .nil) (impl_folded_b1_loop list _ _ x (fun s e => impl_folded_k2_ok r s.1 s.2 (hb s e)) (fun v e => ⟨congrArg impl_folded_R (Option.some.inj (hr v e)).symm, congrArg impl_folded_O (Option.some.inj (hr v e)).symm⟩) (certOpen, [], 0) hl) (by kernel_rfl))))
theorem impl_folded_ok (list : List TEntry) (r : TState × List Int) (h : impl_folded list = some r) : ACalls cx.P 15 [vsl 7 eEntry list] (impl_folded_R r) (impl_folded_O r) :=
  ACalls.of (cx := cx) (X := impl_folded_X) (c := impl_folded_c) Try.func15 (by kernel_rfl) (by kernel_rfl) (by kernel_rfl) (impl_folded_fin list r h)

/-! ### impl_putAt -/
noncomputable def impl_putAt_c : Code := bodyOf Try.f16
noncomputable def impl_putAt_X : Sig := { f := 16, fn := Try.f16, rms := [.val [] []], oms := [none, none] }
noncomputable def impl_putAt_R (r : Int) : V := vi r
noncomputable def impl_putAt_O (r : Int) : List (Option V) := [none, none]
noncomputable def impl_putAt_k1 : List Item := posI 2000 3 [false] [.code impl_putAt_c]
noncomputable def impl_putAt_S1 : St := ⟨(bs 21 []), [some []]⟩
noncomputable def impl_putAt_k2 : Option Int :=
  some (-1)
theorem impl_putAt_k2_ok (r : Int) (h : impl_putAt_k2 = some r) : Fin cx impl_putAt_X (impl_putAt_R r) (impl_putAt_O r) impl_putAt_k1 (impl_putAt_S1) :=
  (someD h fun e => (Fin.fin (cx := cx) (X := impl_putAt_X) (res := impl_putAt_R (-1)) (outs := impl_putAt_O (-1)) Try.func16 [[]] [] .nil (by kernel_rfl)).is (congrArg impl_putAt_R e) (congrArg impl_putAt_O e))
noncomputable def impl_putAt_k3 : List Item := posI 2000 2 [] [.code impl_putAt_c]
noncomputable def impl_putAt_S2 (r_ : TRun) (box : Int) (v10 : Int) : St := ⟨(bs 1 (vi box :: (bs 6 (vsl 2 ePut r_.Puts :: (vi (r_.Puts.length : Int) :: (vi v10 :: (bs 10 []))))))), [some []]⟩
noncomputable def impl_putAt_b1 (r_ : TRun) (box : Int) (v10 : Int) : Option (Stp Int Int Unit) :=
  (bif decide (v10 < (r_.Puts.length : Int)) then
 ((idx r_.Puts v10).bind fun put =>
 (bif (put.Box == box) then
 some (Stp.ret v10)
 else
 some (Stp.nxt (w64 (v10 + 1)))))
 else
 some (Stp.brk ()))
theorem impl_putAt_b1_ok (r_ : TRun) (box : Int) (res : V) (outs : List (Option V)) (x1 : Exc Int Unit) (hb1 : ∀ s : Unit, x1 = .brk s → Fin cx impl_putAt_X res outs impl_putAt_k1 (impl_putAt_S1)) (hr1 : ∀ v : Int, x1 = .ret v → (res = impl_putAt_R v ∧ outs = impl_putAt_O v)) (st1 : Stp Int Int Unit) (hc1 : Cont x1 (fun s : Int => Fin cx impl_putAt_X res outs impl_putAt_k3 (impl_putAt_S2 r_ box s)) st1) (v10 : Int) (h : impl_putAt_b1 r_ box v10 = some st1) : Fin cx impl_putAt_X res outs impl_putAt_k3 (impl_putAt_S2 r_ box v10) :=
  (condD h (fun e1 h =>
 (bindD h fun put hput h =>
 (condD h (fun e2 h =>
 (retD h hc1 fun e => (Fin.fin (cx := cx) (X := impl_putAt_X) (res := impl_putAt_R v10) (outs := impl_putAt_O v10) Try.func16 [[(0, { d := some true })], [(1, { a := .row (ePut put) })], [(3, { d := some true })], []] [decide (v10 < (r_.Puts.length : Int)) = true, (0 : Int) ≤ v10, v10 < ((r_.Puts.length : Nat) : Int), (r_.Puts.map ePut)[v10.toNat]? = some (ePut put), (put.Box == box) = true] (.cons e1 (.cons (idx0 hput) (.cons (idx1 hput) (.cons (map_idx hput) (.cons e2 .nil))))) (by kernel_rfl)).is (hr1 _ e).1 (hr1 _ e).2)) (fun e2 h =>
 (nxtD h hc1 fun hI => (Fin.seg [[(0, { d := some true })], [(1, { a := .row (ePut put) })], [(3, { d := some false })], []] [] [1, 8, 9, 10] [] [decide (v10 < (r_.Puts.length : Int)) = true, (0 : Int) ≤ v10, v10 < ((r_.Puts.length : Nat) : Int), (r_.Puts.map ePut)[v10.toNat]? = some (ePut put), (put.Box == box) = false] (.cons e1 (.cons (idx0 hput) (.cons (idx1 hput) (.cons (map_idx hput) (.cons e2 .nil))))) hI (by kernel_rfl))))))) (fun e1 h =>
 (brkD h hc1 fun e => (Fin.seg [[(0, { d := some false })]] [] [] [] [decide (v10 < (r_.Puts.length : Int)) = false] (.cons e1 .nil) (hb1 _ e) (by kernel_rfl)))))
theorem impl_putAt_b1_loop (r_ : TRun) (box : Int) (res : V) (outs : List (Option V)) (x1 : Exc Int Unit) (hb1 : ∀ s : Unit, x1 = .brk s → Fin cx impl_putAt_X res outs impl_putAt_k1 (impl_putAt_S1)) (hr1 : ∀ v : Int, x1 = .ret v → (res = impl_putAt_R v ∧ outs = impl_putAt_O v)) (s : Int) (h : loop (fun s : Int => impl_putAt_b1 r_ box s) s = some x1) : Fin cx impl_putAt_X res outs impl_putAt_k3 (impl_putAt_S2 r_ box s) :=
  loopD (I := fun s : Int => Fin cx impl_putAt_X res outs impl_putAt_k3 (impl_putAt_S2 r_ box s)) h fun s st h hc => impl_putAt_b1_ok r_ box res outs x1 hb1 hr1 st hc s h
noncomputable def impl_putAt (r_ : TRun) (box : Int) : Option Int :=
  ((loop (fun s : Int => impl_putAt_b1 r_ box s) 0).bind fun x => x.go (fun r => some r) fun s => impl_putAt_k2)
theorem impl_putAt_fin (r_ : TRun) (box : Int) (r : Int) (h : impl_putAt r_ box = some r) : Fin cx impl_putAt_X (impl_putAt_R r) (impl_putAt_O r) [.code impl_putAt_c] (startS impl_putAt_X [.agg (eRun r_), vi box]) :=
  (loopJ h fun x hl hr hb => (Fin.seg [[], []] [] [1, 8, 9, 10] [] [] .nil (impl_putAt_b1_loop r_ box _ _ x (fun s e => impl_putAt_k2_ok r (hb s e)) (fun v e => ⟨congrArg impl_putAt_R (Option.some.inj (hr v e)).symm, congrArg impl_putAt_O (Option.some.inj (hr v e)).symm⟩) 0 hl) (by kernel_rfl)))
theorem impl_putAt_ok (r_ : TRun) (box : Int) (r : Int) (h : impl_putAt r_ box = some r) : ACalls cx.P 16 [.agg (eRun r_), vi box] (impl_putAt_R r) (impl_putAt_O r) :=
  ACalls.of (cx := cx) (X := impl_putAt_X) (c := impl_putAt_c) Try.func16 (by kernel_rfl) (by kernel_rfl) (by kernel_rfl) (impl_putAt_fin r_ box r h)

/-! ### impl_HistWho -/
noncomputable def impl_HistWho_c : Code := bodyOf Try.f7
noncomputable def impl_HistWho_X : Sig := { f := 7, fn := Try.f7, rms := [.val [] []], oms := [none, none] }
noncomputable def impl_HistWho_R (r : Int) : V := vi r
noncomputable def impl_HistWho_O (r : Int) : List (Option V) := [none, none]
noncomputable def impl_HistWho_k1 : List Item := posI 2000 5 [false, false] [.code impl_HistWho_c]
noncomputable def impl_HistWho_S1 : St := ⟨(bs 39 []), [some []]⟩
noncomputable def impl_HistWho_k2 : Option Int :=
  some (-1)
theorem impl_HistWho_k2_ok (r : Int) (h : impl_HistWho_k2 = some r) : Fin cx impl_HistWho_X (impl_HistWho_R r) (impl_HistWho_O r) impl_HistWho_k1 (impl_HistWho_S1) :=
  (someD h fun e => (Fin.fin (cx := cx) (X := impl_HistWho_X) (res := impl_HistWho_R (-1)) (outs := impl_HistWho_O (-1)) Try.func7 [[]] [] .nil (by kernel_rfl)).is (congrArg impl_HistWho_R e) (congrArg impl_HistWho_O e))
noncomputable def impl_HistWho_k3 : List Item := posI 2000 4 [false] [.code impl_HistWho_c]
noncomputable def impl_HistWho_S2 (list : List TEntry) (box : Int) (folded : TState × List Int) (i : Int) : St := ⟨(vsl 7 eEntry list :: (vi box :: (bs 4 (vsl 1 eI folded.2 :: (vi i :: (bs 31 [])))))), [some []]⟩
noncomputable def impl_HistWho_k4 : List Item := posI 2000 6 [false, true, false] [.code impl_HistWho_c]
noncomputable def impl_HistWho_S3 (list : List TEntry) (box : Int) (folded : TState × List Int) (i : Int) : St := ⟨(vsl 7 eEntry list :: (vi box :: (bs 4 (vsl 1 eI folded.2 :: (vi i :: (bs 31 [])))))), [some []]⟩
noncomputable def impl_HistWho_j1 (i : Int) : Option (Stp Int Int Unit) :=
  some (Stp.nxt (w64 (i - 1)))
theorem impl_HistWho_j1_ok (list : List TEntry) (box : Int) (folded : TState × List Int) (i : Int) (res : V) (outs : List (Option V)) (x1 : Exc Int Unit) (hb1 : ∀ s : Unit, x1 = .brk s → Fin cx impl_HistWho_X res outs impl_HistWho_k1 (impl_HistWho_S1)) (hr1 : ∀ v : Int, x1 = .ret v → (res = impl_HistWho_R v ∧ outs = impl_HistWho_O v)) (st1 : Stp Int Int Unit) (hc1 : Cont x1 (fun s : Int => Fin cx impl_HistWho_X res outs impl_HistWho_k3 (impl_HistWho_S2 list box folded s)) st1) (h : impl_HistWho_j1 i = some st1) : Fin cx impl_HistWho_X res outs impl_HistWho_k4 (impl_HistWho_S3 list box folded i) :=
  (nxtD h hc1 fun hI => (Fin.seg [[]] [] [0, 1, 6, 7] [] [] .nil hI (by kernel_rfl)))
noncomputable def impl_HistWho_b1 (list : List TEntry) (box : Int) (folded : TState × List Int) (i : Int) : Option (Stp Int Int Unit) :=
  (bif decide (i ≥ 0) then
 ((((idx folded.2 i).bind fun y =>
 (bif (y == 0) then
 ((idx list i).bind fun entry =>
 ((impl_putAt entry.Run box).bind fun putAt =>
 (bif decide (putAt ≥ 0) then
 some (Exc.ret (Stp.ret i))
 else
 some (Exc.brk ()))))
 else
 some (Exc.brk ()))) : Option (Exc (Stp Int Int Unit) Unit)).bind fun x => x.go some fun j => impl_HistWho_j1 i)
 else
 some (Stp.brk ()))
theorem impl_HistWho_b1_ok (list : List TEntry) (box : Int) (folded : TState × List Int) (res : V) (outs : List (Option V)) (x1 : Exc Int Unit) (hb1 : ∀ s : Unit, x1 = .brk s → Fin cx impl_HistWho_X res outs impl_HistWho_k1 (impl_HistWho_S1)) (hr1 : ∀ v : Int, x1 = .ret v → (res = impl_HistWho_R v ∧ outs = impl_HistWho_O v)) (st1 : Stp Int Int Unit) (hc1 : Cont x1 (fun s : Int => Fin cx impl_HistWho_X res outs impl_HistWho_k3 (impl_HistWho_S2 list box folded s)) st1) (i : Int) (h : impl_HistWho_b1 list box folded i = some st1) : Fin cx impl_HistWho_X res outs impl_HistWho_k3 (impl_HistWho_S2 list box folded i) :=
  (condD h (fun e2 h =>
 (joinD (I := fun j : Unit => Fin cx impl_HistWho_X res outs impl_HistWho_k4 (impl_HistWho_S3 list box folded i)) h (fun j h => impl_HistWho_j1_ok list box folded i res outs x1 hb1 hr1 st1 hc1 h) (fun x2 h hc2 =>
  (bindD h fun y hy h =>
 (condD h (fun e3 h =>
 (bindD h fun entry hentry h =>
 (bindD h fun putAt hputAt h =>
 (condD h (fun e4 h =>
 (jretD h hc2 fun h => (retD h hc1 fun e => (Fin.fin (cx := cx) (X := impl_HistWho_X) (res := impl_HistWho_R i) (outs := impl_HistWho_O i) Try.func7 [[(1, { d := some true })], [(2, { a := .row (eI y) }), (5, { d := some true }), (8, { a := .row (eEntry entry) }), (12, { a := .call [.val [some 2, some 2, none, none] [], .val [] []] false (impl_putAt_R putAt) (impl_putAt_O putAt) }), (14, { d := some true })], []] [decide (i ≥ 0) = true, (0 : Int) ≤ i, i < ((folded.2.length : Nat) : Int), (folded.2.map eI)[i.toNat]? = some (eI y), (y == 0) = true, (0 : Int) ≤ i, i < ((list.length : Nat) : Int), (list.map eEntry)[i.toNat]? = some (eEntry entry), ACalls cx.P 16 [.agg (eRun entry.Run), vi box] (impl_putAt_R putAt) (impl_putAt_O putAt), decide (putAt ≥ 0) = true] (.cons e2 (.cons (idx0 hy) (.cons (idx1 hy) (.cons (map_idx hy) (.cons e3 (.cons (idx0 hentry) (.cons (idx1 hentry) (.cons (map_idx hentry) (.cons (impl_putAt_ok entry.Run box putAt hputAt) (.cons e4 .nil)))))))))) (by kernel_rfl)).is (hr1 _ e).1 (hr1 _ e).2))) (fun e4 h =>
 (jbrkD h hc2 fun hI => (Fin.seg [[(1, { d := some true })], [(2, { a := .row (eI y) }), (5, { d := some true }), (8, { a := .row (eEntry entry) }), (12, { a := .call [.val [some 2, some 2, none, none] [], .val [] []] false (impl_putAt_R putAt) (impl_putAt_O putAt) }), (14, { d := some false })]] [] [0, 1, 6, 7] [] [decide (i ≥ 0) = true, (0 : Int) ≤ i, i < ((folded.2.length : Nat) : Int), (folded.2.map eI)[i.toNat]? = some (eI y), (y == 0) = true, (0 : Int) ≤ i, i < ((list.length : Nat) : Int), (list.map eEntry)[i.toNat]? = some (eEntry entry), ACalls cx.P 16 [.agg (eRun entry.Run), vi box] (impl_putAt_R putAt) (impl_putAt_O putAt), decide (putAt ≥ 0) = false] (.cons e2 (.cons (idx0 hy) (.cons (idx1 hy) (.cons (map_idx hy) (.cons e3 (.cons (idx0 hentry) (.cons (idx1 hentry) (.cons (map_idx hentry) (.cons (impl_putAt_ok entry.Run box putAt hputAt) (.cons e4 .nil)))))))))) hI (by kernel_rfl)))))))) (fun e3 h =>
 (jbrkD h hc2 fun hI => (Fin.seg [[(1, { d := some true })], [(2, { a := .row (eI y) }), (5, { d := some false })]] [] [0, 1, 6, 7] [] [decide (i ≥ 0) = true, (0 : Int) ≤ i, i < ((folded.2.length : Nat) : Int), (folded.2.map eI)[i.toNat]? = some (eI y), (y == 0) = false] (.cons e2 (.cons (idx0 hy) (.cons (idx1 hy) (.cons (map_idx hy) (.cons e3 .nil))))) hI (by kernel_rfl))))))))) (fun e2 h =>
 (brkD h hc1 fun e => (Fin.seg [[(1, { d := some false })]] [] [] [] [decide (i ≥ 0) = false] (.cons e2 .nil) (hb1 _ e) (by kernel_rfl)))))
theorem impl_HistWho_b1_loop (list : List TEntry) (box : Int) (folded : TState × List Int) (res : V) (outs : List (Option V)) (x1 : Exc Int Unit) (hb1 : ∀ s : Unit, x1 = .brk s → Fin cx impl_HistWho_X res outs impl_HistWho_k1 (impl_HistWho_S1)) (hr1 : ∀ v : Int, x1 = .ret v → (res = impl_HistWho_R v ∧ outs = impl_HistWho_O v)) (s : Int) (h : loop (fun s : Int => impl_HistWho_b1 list box folded s) s = some x1) : Fin cx impl_HistWho_X res outs impl_HistWho_k3 (impl_HistWho_S2 list box folded s) :=
  loopD (I := fun s : Int => Fin cx impl_HistWho_X res outs impl_HistWho_k3 (impl_HistWho_S2 list box folded s)) h fun s st h hc => impl_HistWho_b1_ok list box folded res outs x1 hb1 hr1 st hc s h
noncomputable def impl_HistWho (list : List TEntry) (box : Int) : Option Int :=
  ((impl_listOk list).bind fun listOk =>
 (bif (!listOk) then
 some (-1)
 else
 ((impl_folded list).bind fun folded =>
 ((loop (fun s : Int => impl_HistWho_b1 list box folded s) (w64 ((list.length : Int) - 1))).bind fun x => x.go (fun r => some r) fun s => impl_HistWho_k2))))
theorem impl_HistWho_fin (list : List TEntry) (box : Int) (r : Int) (h : impl_HistWho list box = some r) : Fin cx impl_HistWho_X (impl_HistWho_R r) (impl_HistWho_O r) [.code impl_HistWho_c] (startS impl_HistWho_X [vsl 7 eEntry list, vi box]) :=
  (bindD h fun listOk hlistOk h =>
 (condD h (fun e1 h =>
 (someD h fun e => (Fin.fin (cx := cx) (X := impl_HistWho_X) (res := impl_HistWho_R (-1)) (outs := impl_HistWho_O (-1)) Try.func7 [[], [(1, { a := .call [.val [some 7] []] false (impl_listOk_R listOk) (impl_listOk_O listOk) }), (2, { d := some true })], []] [ACalls cx.P 14 [vsl 7 eEntry list] (impl_listOk_R listOk) (impl_listOk_O listOk), (!listOk) = true] (.cons (impl_listOk_ok list listOk hlistOk) (.cons e1 .nil)) (by kernel_rfl)).is (congrArg impl_HistWho_R e) (congrArg impl_HistWho_O e))) (fun e1 h =>
 (bindD h fun folded hfolded h =>
 (loopJ h fun x hl hr hb => (Fin.seg [[], [(1, { a := .call [.val [some 7] []] false (impl_listOk_R listOk) (impl_listOk_O listOk) }), (2, { d := some false })], [(1, { a := .call [.val [some 7] []] false (impl_folded_R folded) (impl_folded_O folded) })], []] [] [0, 1, 6, 7] [] [ACalls cx.P 14 [vsl 7 eEntry list] (impl_listOk_R listOk) (impl_listOk_O listOk), (!listOk) = false, ACalls cx.P 15 [vsl 7 eEntry list] (impl_folded_R folded) (impl_folded_O folded)] (.cons (impl_listOk_ok list listOk hlistOk) (.cons e1 (.cons (impl_folded_ok list folded hfolded) .nil))) (impl_HistWho_b1_loop list box folded _ _ x (fun s e => impl_HistWho_k2_ok r (hb s e)) (fun v e => ⟨congrArg impl_HistWho_R (Option.some.inj (hr v e)).symm, congrArg impl_HistWho_O (Option.some.inj (hr v e)).symm⟩) (w64 ((list.length : Int) - 1)) hl) (by kernel_rfl)))))))
theorem impl_HistWho_ok (list : List TEntry) (box : Int) (r : Int) (h : impl_HistWho list box = some r) : ACalls cx.P 7 [vsl 7 eEntry list, vi box] (impl_HistWho_R r) (impl_HistWho_O r) :=
  ACalls.of (cx := cx) (X := impl_HistWho_X) (c := impl_HistWho_c) Try.func7 (by kernel_rfl) (by kernel_rfl) (by kernel_rfl) (impl_HistWho_fin list box r h)

/-! ### laws_eqReq -/
noncomputable def laws_eqReq_c : Code := bodyOf Try.f27
noncomputable def laws_eqReq_X : Sig := { f := 27, fn := Try.f27, rms := [.val [] []], oms := [none, none] }
noncomputable def laws_eqReq_R (r : Bool) : V := .b r
noncomputable def laws_eqReq_O (r : Bool) : List (Option V) := [none, none]
noncomputable def laws_eqReq (a : TReq) (b : TReq) : Option Bool :=
  (bif (a.Who != b.Who) then
 some false
 else
 (bif (a.Seq != b.Seq) then
 some false
 else
 some true))
theorem laws_eqReq_fin (a : TReq) (b : TReq) (r : Bool) (h : laws_eqReq a b = some r) : Fin cx laws_eqReq_X (laws_eqReq_R r) (laws_eqReq_O r) [.code laws_eqReq_c] (startS laws_eqReq_X [.agg (eReq a), .agg (eReq b)]) :=
  (condD h (fun e1 h =>
 (someD h fun e => (Fin.fin (cx := cx) (X := laws_eqReq_X) (res := laws_eqReq_R false) (outs := laws_eqReq_O false) Try.func27 [[], [(4, { d := some true })], []] [(a.Who != b.Who) = true] (.cons e1 .nil) (by kernel_rfl)).is (congrArg laws_eqReq_R e) (congrArg laws_eqReq_O e))) (fun e1 h =>
 (condD h (fun e2 h =>
 (someD h fun e => (Fin.fin (cx := cx) (X := laws_eqReq_X) (res := laws_eqReq_R false) (outs := laws_eqReq_O false) Try.func27 [[], [(4, { d := some false })], [(4, { d := some true })], []] [(a.Who != b.Who) = false, (a.Seq != b.Seq) = true] (.cons e1 (.cons e2 .nil)) (by kernel_rfl)).is (congrArg laws_eqReq_R e) (congrArg laws_eqReq_O e))) (fun e2 h =>
 (someD h fun e => (Fin.fin (cx := cx) (X := laws_eqReq_X) (res := laws_eqReq_R true) (outs := laws_eqReq_O true) Try.func27 [[], [(4, { d := some false })], [(4, { d := some false })], []] [(a.Who != b.Who) = false, (a.Seq != b.Seq) = false] (.cons e1 (.cons e2 .nil)) (by kernel_rfl)).is (congrArg laws_eqReq_R e) (congrArg laws_eqReq_O e))))))
theorem laws_eqReq_ok (a : TReq) (b : TReq) (r : Bool) (h : laws_eqReq a b = some r) : ACalls cx.P 27 [.agg (eReq a), .agg (eReq b)] (laws_eqReq_R r) (laws_eqReq_O r) :=
  ACalls.of (cx := cx) (X := laws_eqReq_X) (c := laws_eqReq_c) Try.func27 (by kernel_rfl) (by kernel_rfl) (by kernel_rfl) (laws_eqReq_fin a b r h)

/-! ### laws_eqRead -/
noncomputable def laws_eqRead_c : Code := bodyOf Try.f62
noncomputable def laws_eqRead_X : Sig := { f := 62, fn := Try.f62, rms := [.val [] []], oms := [none, none] }
noncomputable def laws_eqRead_R (r : Bool) : V := .b r
noncomputable def laws_eqRead_O (r : Bool) : List (Option V) := [none, none]
noncomputable def laws_eqRead (a : TRead) (b : TRead) : Option Bool :=
  (bif (a.Box != b.Box) then
 some false
 else
 (bif (a.Ver != b.Ver) then
 some false
 else
 some true))
theorem laws_eqRead_fin (a : TRead) (b : TRead) (r : Bool) (h : laws_eqRead a b = some r) : Fin cx laws_eqRead_X (laws_eqRead_R r) (laws_eqRead_O r) [.code laws_eqRead_c] (startS laws_eqRead_X [.agg (eRead a), .agg (eRead b)]) :=
  (condD h (fun e1 h =>
 (someD h fun e => (Fin.fin (cx := cx) (X := laws_eqRead_X) (res := laws_eqRead_R false) (outs := laws_eqRead_O false) Try.func62 [[], [(4, { d := some true })], []] [(a.Box != b.Box) = true] (.cons e1 .nil) (by kernel_rfl)).is (congrArg laws_eqRead_R e) (congrArg laws_eqRead_O e))) (fun e1 h =>
 (condD h (fun e2 h =>
 (someD h fun e => (Fin.fin (cx := cx) (X := laws_eqRead_X) (res := laws_eqRead_R false) (outs := laws_eqRead_O false) Try.func62 [[], [(4, { d := some false })], [(4, { d := some true })], []] [(a.Box != b.Box) = false, (a.Ver != b.Ver) = true] (.cons e1 (.cons e2 .nil)) (by kernel_rfl)).is (congrArg laws_eqRead_R e) (congrArg laws_eqRead_O e))) (fun e2 h =>
 (someD h fun e => (Fin.fin (cx := cx) (X := laws_eqRead_X) (res := laws_eqRead_R true) (outs := laws_eqRead_O true) Try.func62 [[], [(4, { d := some false })], [(4, { d := some false })], []] [(a.Box != b.Box) = false, (a.Ver != b.Ver) = false] (.cons e1 (.cons e2 .nil)) (by kernel_rfl)).is (congrArg laws_eqRead_R e) (congrArg laws_eqRead_O e))))))
theorem laws_eqRead_ok (a : TRead) (b : TRead) (r : Bool) (h : laws_eqRead a b = some r) : ACalls cx.P 62 [.agg (eRead a), .agg (eRead b)] (laws_eqRead_R r) (laws_eqRead_O r) :=
  ACalls.of (cx := cx) (X := laws_eqRead_X) (c := laws_eqRead_c) Try.func62 (by kernel_rfl) (by kernel_rfl) (by kernel_rfl) (laws_eqRead_fin a b r h)

/-! ### laws_eqReadS -/
noncomputable def laws_eqReadS_c : Code := bodyOf Try.f50
noncomputable def laws_eqReadS_X : Sig := { f := 50, fn := Try.f50, rms := [.val [] []], oms := [none, none] }
noncomputable def laws_eqReadS_R (r : Bool) : V := .b r
noncomputable def laws_eqReadS_O (r : Bool) : List (Option V) := [none, none]
noncomputable def laws_eqReadS_k1 : List Item := posI 2000 4 [false, false] [.code laws_eqReadS_c]
noncomputable def laws_eqReadS_S1 : St := ⟨(bs 27 []), [some []]⟩
noncomputable def laws_eqReadS_k2 : Option Bool :=
  some true
theorem laws_eqReadS_k2_ok (r : Bool) (h : laws_eqReadS_k2 = some r) : Fin cx laws_eqReadS_X (laws_eqReadS_R r) (laws_eqReadS_O r) laws_eqReadS_k1 (laws_eqReadS_S1) :=
  (someD h fun e => (Fin.fin (cx := cx) (X := laws_eqReadS_X) (res := laws_eqReadS_R true) (outs := laws_eqReadS_O true) Try.func50 [[]] [] .nil (by kernel_rfl)).is (congrArg laws_eqReadS_R e) (congrArg laws_eqReadS_O e))
noncomputable def laws_eqReadS_k3 : List Item := posI 2000 3 [false] [.code laws_eqReadS_c]
noncomputable def laws_eqReadS_S2 (a : List TRead) (b : List TRead) (i : Int) : St := ⟨(vsl 2 eRead a :: (vsl 2 eRead b :: (bs 3 (vi i :: (bs 21 []))))), [some []]⟩
noncomputable def laws_eqReadS_b1 (a : List TRead) (b : List TRead) (i : Int) : Option (Stp Bool Int Unit) :=
  (bif decide (i < (a.length : Int)) then
 ((idx a i).bind fun read =>
 ((idx b i).bind fun read1 =>
 ((laws_eqRead read read1).bind fun eqRead =>
 (bif (!eqRead) then
 some (Stp.ret false)
 else
 some (Stp.nxt (w64 (i + 1)))))))
 else
 some (Stp.brk ()))
theorem laws_eqReadS_b1_ok (a : List TRead) (b : List TRead) (res : V) (outs : List (Option V)) (x1 : Exc Bool Unit) (hb1 : ∀ s : Unit, x1 = .brk s → Fin cx laws_eqReadS_X res outs laws_eqReadS_k1 (laws_eqReadS_S1)) (hr1 : ∀ v : Bool, x1 = .ret v → (res = laws_eqReadS_R v ∧ outs = laws_eqReadS_O v)) (st1 : Stp Bool Int Unit) (hc1 : Cont x1 (fun s : Int => Fin cx laws_eqReadS_X res outs laws_eqReadS_k3 (laws_eqReadS_S2 a b s)) st1) (i : Int) (h : laws_eqReadS_b1 a b i = some st1) : Fin cx laws_eqReadS_X res outs laws_eqReadS_k3 (laws_eqReadS_S2 a b i) :=
  (condD h (fun e2 h =>
 (bindD h fun read hread h =>
 (bindD h fun read1 hread1 h =>
 (bindD h fun eqRead heqRead h =>
 (condD h (fun e3 h =>
 (retD h hc1 fun e => (Fin.fin (cx := cx) (X := laws_eqReadS_X) (res := laws_eqReadS_R false) (outs := laws_eqReadS_O false) Try.func50 [[(3, { d := some true })], [(2, { a := .row (eRead read) }), (6, { a := .row (eRead read1) }), (8, { a := .call [.val [] [], .val [] []] false (laws_eqRead_R eqRead) (laws_eqRead_O eqRead) }), (9, { d := some true })], []] [decide (i < (a.length : Int)) = true, (0 : Int) ≤ i, i < ((a.length : Nat) : Int), (a.map eRead)[i.toNat]? = some (eRead read), (0 : Int) ≤ i, i < ((b.length : Nat) : Int), (b.map eRead)[i.toNat]? = some (eRead read1), ACalls cx.P 62 [.agg (eRead read), .agg (eRead read1)] (laws_eqRead_R eqRead) (laws_eqRead_O eqRead), (!eqRead) = true] (.cons e2 (.cons (idx0 hread) (.cons (idx1 hread) (.cons (map_idx hread) (.cons (idx0 hread1) (.cons (idx1 hread1) (.cons (map_idx hread1) (.cons (laws_eqRead_ok read read1 eqRead heqRead) (.cons e3 .nil))))))))) (by kernel_rfl)).is (hr1 _ e).1 (hr1 _ e).2)) (fun e3 h =>
 (nxtD h hc1 fun hI => (Fin.seg [[(3, { d := some true })], [(2, { a := .row (eRead read) }), (6, { a := .row (eRead read1) }), (8, { a := .call [.val [] [], .val [] []] false (laws_eqRead_R eqRead) (laws_eqRead_O eqRead) }), (9, { d := some false })], []] [] [0, 1, 5] [] [decide (i < (a.length : Int)) = true, (0 : Int) ≤ i, i < ((a.length : Nat) : Int), (a.map eRead)[i.toNat]? = some (eRead read), (0 : Int) ≤ i, i < ((b.length : Nat) : Int), (b.map eRead)[i.toNat]? = some (eRead read1), ACalls cx.P 62 [.agg (eRead read), .agg (eRead read1)] (laws_eqRead_R eqRead) (laws_eqRead_O eqRead), (!eqRead) = false] (.cons e2 (.cons (idx0 hread) (.cons (idx1 hread) (.cons (map_idx hread) (.cons (idx0 hread1) (.cons (idx1 hread1) (.cons (map_idx hread1) (.cons (laws_eqRead_ok read read1 eqRead heqRead) (.cons e3 .nil))))))))) hI (by kernel_rfl))))))))) (fun e2 h =>
 (brkD h hc1 fun e => (Fin.seg [[(3, { d := some false })]] [] [] [] [decide (i < (a.length : Int)) = false] (.cons e2 .nil) (hb1 _ e) (by kernel_rfl)))))
theorem laws_eqReadS_b1_loop (a : List TRead) (b : List TRead) (res : V) (outs : List (Option V)) (x1 : Exc Bool Unit) (hb1 : ∀ s : Unit, x1 = .brk s → Fin cx laws_eqReadS_X res outs laws_eqReadS_k1 (laws_eqReadS_S1)) (hr1 : ∀ v : Bool, x1 = .ret v → (res = laws_eqReadS_R v ∧ outs = laws_eqReadS_O v)) (s : Int) (h : loop (fun s : Int => laws_eqReadS_b1 a b s) s = some x1) : Fin cx laws_eqReadS_X res outs laws_eqReadS_k3 (laws_eqReadS_S2 a b s) :=
  loopD (I := fun s : Int => Fin cx laws_eqReadS_X res outs laws_eqReadS_k3 (laws_eqReadS_S2 a b s)) h fun s st h hc => laws_eqReadS_b1_ok a b res outs x1 hb1 hr1 st hc s h
noncomputable def laws_eqReadS (a : List TRead) (b : List TRead) : Option Bool :=
  (bif ((a.length : Int) != (b.length : Int)) then
 some false
 else
 ((loop (fun s : Int => laws_eqReadS_b1 a b s) 0).bind fun x => x.go (fun r => some r) fun s => laws_eqReadS_k2))
theorem laws_eqReadS_fin (a : List TRead) (b : List TRead) (r : Bool) (h : laws_eqReadS a b = some r) : Fin cx laws_eqReadS_X (laws_eqReadS_R r) (laws_eqReadS_O r) [.code laws_eqReadS_c] (startS laws_eqReadS_X [vsl 2 eRead a, vsl 2 eRead b]) :=
  (condD h (fun e1 h =>
 (someD h fun e => (Fin.fin (cx := cx) (X := laws_eqReadS_X) (res := laws_eqReadS_R false) (outs := laws_eqReadS_O false) Try.func50 [[], [(4, { d := some true })], []] [((a.length : Int) != (b.length : Int)) = true] (.cons e1 .nil) (by kernel_rfl)).is (congrArg laws_eqReadS_R e) (congrArg laws_eqReadS_O e))) (fun e1 h =>
 (loopJ h fun x hl hr hb => (Fin.seg [[], [(4, { d := some false })], []] [] [0, 1, 5] [] [((a.length : Int) != (b.length : Int)) = false] (.cons e1 .nil) (laws_eqReadS_b1_loop a b _ _ x (fun s e => laws_eqReadS_k2_ok r (hb s e)) (fun v e => ⟨congrArg laws_eqReadS_R (Option.some.inj (hr v e)).symm, congrArg laws_eqReadS_O (Option.some.inj (hr v e)).symm⟩) 0 hl) (by kernel_rfl)))))
theorem laws_eqReadS_ok (a : List TRead) (b : List TRead) (r : Bool) (h : laws_eqReadS a b = some r) : ACalls cx.P 50 [vsl 2 eRead a, vsl 2 eRead b] (laws_eqReadS_R r) (laws_eqReadS_O r) :=
  ACalls.of (cx := cx) (X := laws_eqReadS_X) (c := laws_eqReadS_c) Try.func50 (by kernel_rfl) (by kernel_rfl) (by kernel_rfl) (laws_eqReadS_fin a b r h)

/-! ### laws_eqPut -/
noncomputable def laws_eqPut_c : Code := bodyOf Try.f63
noncomputable def laws_eqPut_X : Sig := { f := 63, fn := Try.f63, rms := [.val [] []], oms := [none, none] }
noncomputable def laws_eqPut_R (r : Bool) : V := .b r
noncomputable def laws_eqPut_O (r : Bool) : List (Option V) := [none, none]
noncomputable def laws_eqPut (a : TPut) (b : TPut) : Option Bool :=
  (bif (a.Box != b.Box) then
 some false
 else
 (bif (a.Val != b.Val) then
 some false
 else
 some true))
theorem laws_eqPut_fin (a : TPut) (b : TPut) (r : Bool) (h : laws_eqPut a b = some r) : Fin cx laws_eqPut_X (laws_eqPut_R r) (laws_eqPut_O r) [.code laws_eqPut_c] (startS laws_eqPut_X [.agg (ePut a), .agg (ePut b)]) :=
  (condD h (fun e1 h =>
 (someD h fun e => (Fin.fin (cx := cx) (X := laws_eqPut_X) (res := laws_eqPut_R false) (outs := laws_eqPut_O false) Try.func63 [[], [(4, { d := some true })], []] [(a.Box != b.Box) = true] (.cons e1 .nil) (by kernel_rfl)).is (congrArg laws_eqPut_R e) (congrArg laws_eqPut_O e))) (fun e1 h =>
 (condD h (fun e2 h =>
 (someD h fun e => (Fin.fin (cx := cx) (X := laws_eqPut_X) (res := laws_eqPut_R false) (outs := laws_eqPut_O false) Try.func63 [[], [(4, { d := some false })], [(4, { d := some true })], []] [(a.Box != b.Box) = false, (a.Val != b.Val) = true] (.cons e1 (.cons e2 .nil)) (by kernel_rfl)).is (congrArg laws_eqPut_R e) (congrArg laws_eqPut_O e))) (fun e2 h =>
 (someD h fun e => (Fin.fin (cx := cx) (X := laws_eqPut_X) (res := laws_eqPut_R true) (outs := laws_eqPut_O true) Try.func63 [[], [(4, { d := some false })], [(4, { d := some false })], []] [(a.Box != b.Box) = false, (a.Val != b.Val) = false] (.cons e1 (.cons e2 .nil)) (by kernel_rfl)).is (congrArg laws_eqPut_R e) (congrArg laws_eqPut_O e))))))
theorem laws_eqPut_ok (a : TPut) (b : TPut) (r : Bool) (h : laws_eqPut a b = some r) : ACalls cx.P 63 [.agg (ePut a), .agg (ePut b)] (laws_eqPut_R r) (laws_eqPut_O r) :=
  ACalls.of (cx := cx) (X := laws_eqPut_X) (c := laws_eqPut_c) Try.func63 (by kernel_rfl) (by kernel_rfl) (by kernel_rfl) (laws_eqPut_fin a b r h)

/-! ### laws_eqPutS -/
noncomputable def laws_eqPutS_c : Code := bodyOf Try.f51
noncomputable def laws_eqPutS_X : Sig := { f := 51, fn := Try.f51, rms := [.val [] []], oms := [none, none] }
noncomputable def laws_eqPutS_R (r : Bool) : V := .b r
noncomputable def laws_eqPutS_O (r : Bool) : List (Option V) := [none, none]
noncomputable def laws_eqPutS_k1 : List Item := posI 2000 4 [false, false] [.code laws_eqPutS_c]
noncomputable def laws_eqPutS_S1 : St := ⟨(bs 27 []), [some []]⟩
noncomputable def laws_eqPutS_k2 : Option Bool :=
  some true
theorem laws_eqPutS_k2_ok (r : Bool) (h : laws_eqPutS_k2 = some r) : Fin cx laws_eqPutS_X (laws_eqPutS_R r) (laws_eqPutS_O r) laws_eqPutS_k1 (laws_eqPutS_S1) :=
  (someD h fun e => (Fin.fin (cx := cx) (X := laws_eqPutS_X) (res := laws_eqPutS_R true) (outs := laws_eqPutS_O true) Try.func51 [[]] [] .nil (by kernel_rfl)).is (congrArg laws_eqPutS_R e) (congrArg laws_eqPutS_O e))
noncomputable def laws_eqPutS_k3 : List Item := posI 2000 3 [false] [.code laws_eqPutS_c]
noncomputable def laws_eqPutS_S2 (a : List TPut) (b : List TPut) (i : Int) : St := ⟨(vsl 2 ePut a :: (vsl 2 ePut b :: (bs 3 (vi i :: (bs 21 []))))), [some []]⟩
noncomputable def laws_eqPutS_b1 (a : List TPut) (b : List TPut) (i : Int) : Option (Stp Bool Int Unit) :=
  (bif decide (i < (a.length : Int)) then
 ((idx a i).bind fun put =>
 ((idx b i).bind fun put1 =>
 ((laws_eqPut put put1).bind fun eqPut =>
 (bif (!eqPut) then
 some (Stp.ret false)
 else
 some (Stp.nxt (w64 (i + 1)))))))
 else
 some (Stp.brk ()))
theorem laws_eqPutS_b1_ok (a : List TPut) (b : List TPut) (res : V) (outs : List (Option V)) (x1 : Exc Bool Unit) (hb1 : ∀ s : Unit, x1 = .brk s → Fin cx laws_eqPutS_X res outs laws_eqPutS_k1 (laws_eqPutS_S1)) (hr1 : ∀ v : Bool, x1 = .ret v → (res = laws_eqPutS_R v ∧ outs = laws_eqPutS_O v)) (st1 : Stp Bool Int Unit) (hc1 : Cont x1 (fun s : Int => Fin cx laws_eqPutS_X res outs laws_eqPutS_k3 (laws_eqPutS_S2 a b s)) st1) (i : Int) (h : laws_eqPutS_b1 a b i = some st1) : Fin cx laws_eqPutS_X res outs laws_eqPutS_k3 (laws_eqPutS_S2 a b i) :=
  (condD h (fun e2 h =>
 (bindD h fun put hput h =>
 (bindD h fun put1 hput1 h =>
 (bindD h fun eqPut heqPut h =>
 (condD h (fun e3 h =>
 (retD h hc1 fun e => (Fin.fin (cx := cx) (X := laws_eqPutS_X) (res := laws_eqPutS_R false) (outs := laws_eqPutS_O false) Try.func51 [[(3, { d := some true })], [(2, { a := .row (ePut put) }), (6, { a := .row (ePut put1) }), (8, { a := .call [.val [] [], .val [] []] false (laws_eqPut_R eqPut) (laws_eqPut_O eqPut) }), (9, { d := some true })], []] [decide (i < (a.length : Int)) = true, (0 : Int) ≤ i, i < ((a.length : Nat) : Int), (a.map ePut)[i.toNat]? = some (ePut put), (0 : Int) ≤ i, i < ((b.length : Nat) : Int), (b.map ePut)[i.toNat]? = some (ePut put1), ACalls cx.P 63 [.agg (ePut put), .agg (ePut put1)] (laws_eqPut_R eqPut) (laws_eqPut_O eqPut), (!eqPut) = true] (.cons e2 (.cons (idx0 hput) (.cons (idx1 hput) (.cons (map_idx hput) (.cons (idx0 hput1) (.cons (idx1 hput1) (.cons (map_idx hput1) (.cons (laws_eqPut_ok put put1 eqPut heqPut) (.cons e3 .nil))))))))) (by kernel_rfl)).is (hr1 _ e).1 (hr1 _ e).2)) (fun e3 h =>
 (nxtD h hc1 fun hI => (Fin.seg [[(3, { d := some true })], [(2, { a := .row (ePut put) }), (6, { a := .row (ePut put1) }), (8, { a := .call [.val [] [], .val [] []] false (laws_eqPut_R eqPut) (laws_eqPut_O eqPut) }), (9, { d := some false })], []] [] [0, 1, 5] [] [decide (i < (a.length : Int)) = true, (0 : Int) ≤ i, i < ((a.length : Nat) : Int), (a.map ePut)[i.toNat]? = some (ePut put), (0 : Int) ≤ i, i < ((b.length : Nat) : Int), (b.map ePut)[i.toNat]? = some (ePut put1), ACalls cx.P 63 [.agg (ePut put), .agg (ePut put1)] (laws_eqPut_R eqPut) (laws_eqPut_O eqPut), (!eqPut) = false] (.cons e2 (.cons (idx0 hput) (.cons (idx1 hput) (.cons (map_idx hput) (.cons (idx0 hput1) (.cons (idx1 hput1) (.cons (map_idx hput1) (.cons (laws_eqPut_ok put put1 eqPut heqPut) (.cons e3 .nil))))))))) hI (by kernel_rfl))))))))) (fun e2 h =>
 (brkD h hc1 fun e => (Fin.seg [[(3, { d := some false })]] [] [] [] [decide (i < (a.length : Int)) = false] (.cons e2 .nil) (hb1 _ e) (by kernel_rfl)))))
theorem laws_eqPutS_b1_loop (a : List TPut) (b : List TPut) (res : V) (outs : List (Option V)) (x1 : Exc Bool Unit) (hb1 : ∀ s : Unit, x1 = .brk s → Fin cx laws_eqPutS_X res outs laws_eqPutS_k1 (laws_eqPutS_S1)) (hr1 : ∀ v : Bool, x1 = .ret v → (res = laws_eqPutS_R v ∧ outs = laws_eqPutS_O v)) (s : Int) (h : loop (fun s : Int => laws_eqPutS_b1 a b s) s = some x1) : Fin cx laws_eqPutS_X res outs laws_eqPutS_k3 (laws_eqPutS_S2 a b s) :=
  loopD (I := fun s : Int => Fin cx laws_eqPutS_X res outs laws_eqPutS_k3 (laws_eqPutS_S2 a b s)) h fun s st h hc => laws_eqPutS_b1_ok a b res outs x1 hb1 hr1 st hc s h
noncomputable def laws_eqPutS (a : List TPut) (b : List TPut) : Option Bool :=
  (bif ((a.length : Int) != (b.length : Int)) then
 some false
 else
 ((loop (fun s : Int => laws_eqPutS_b1 a b s) 0).bind fun x => x.go (fun r => some r) fun s => laws_eqPutS_k2))
theorem laws_eqPutS_fin (a : List TPut) (b : List TPut) (r : Bool) (h : laws_eqPutS a b = some r) : Fin cx laws_eqPutS_X (laws_eqPutS_R r) (laws_eqPutS_O r) [.code laws_eqPutS_c] (startS laws_eqPutS_X [vsl 2 ePut a, vsl 2 ePut b]) :=
  (condD h (fun e1 h =>
 (someD h fun e => (Fin.fin (cx := cx) (X := laws_eqPutS_X) (res := laws_eqPutS_R false) (outs := laws_eqPutS_O false) Try.func51 [[], [(4, { d := some true })], []] [((a.length : Int) != (b.length : Int)) = true] (.cons e1 .nil) (by kernel_rfl)).is (congrArg laws_eqPutS_R e) (congrArg laws_eqPutS_O e))) (fun e1 h =>
 (loopJ h fun x hl hr hb => (Fin.seg [[], [(4, { d := some false })], []] [] [0, 1, 5] [] [((a.length : Int) != (b.length : Int)) = false] (.cons e1 .nil) (laws_eqPutS_b1_loop a b _ _ x (fun s e => laws_eqPutS_k2_ok r (hb s e)) (fun v e => ⟨congrArg laws_eqPutS_R (Option.some.inj (hr v e)).symm, congrArg laws_eqPutS_O (Option.some.inj (hr v e)).symm⟩) 0 hl) (by kernel_rfl)))))
theorem laws_eqPutS_ok (a : List TPut) (b : List TPut) (r : Bool) (h : laws_eqPutS a b = some r) : ACalls cx.P 51 [vsl 2 ePut a, vsl 2 ePut b] (laws_eqPutS_R r) (laws_eqPutS_O r) :=
  ACalls.of (cx := cx) (X := laws_eqPutS_X) (c := laws_eqPutS_c) Try.func51 (by kernel_rfl) (by kernel_rfl) (by kernel_rfl) (laws_eqPutS_fin a b r h)

/-! ### laws_eqRun -/
noncomputable def laws_eqRun_c : Code := bodyOf Try.f28
noncomputable def laws_eqRun_X : Sig := { f := 28, fn := Try.f28, rms := [.val [] []], oms := [none, none] }
noncomputable def laws_eqRun_R (r : Bool) : V := .b r
noncomputable def laws_eqRun_O (r : Bool) : List (Option V) := [none, none]
noncomputable def laws_eqRun (a : TRun) (b : TRun) : Option Bool :=
  ((laws_eqReadS a.Reads b.Reads).bind fun eqReadS =>
 (bif (!eqReadS) then
 some false
 else
 ((laws_eqPutS a.Puts b.Puts).bind fun eqPutS =>
 (bif (!eqPutS) then
 some false
 else
 (bif (a.Val != b.Val) then
 some false
 else
 (bif (a.Code != b.Code) then
 some false
 else
 some true))))))
theorem laws_eqRun_fin (a : TRun) (b : TRun) (r : Bool) (h : laws_eqRun a b = some r) : Fin cx laws_eqRun_X (laws_eqRun_R r) (laws_eqRun_O r) [.code laws_eqRun_c] (startS laws_eqRun_X [.agg (eRun a), .agg (eRun b)]) :=
  (bindD h fun eqReadS heqReadS h =>
 (condD h (fun e1 h =>
 (someD h fun e => (Fin.fin (cx := cx) (X := laws_eqRun_X) (res := laws_eqRun_R false) (outs := laws_eqRun_O false) Try.func28 [[], [(4, { a := .call [.val [some 2] [], .val [some 2] []] false (laws_eqReadS_R eqReadS) (laws_eqReadS_O eqReadS) }), (5, { d := some true })], []] [ACalls cx.P 50 [vsl 2 eRead a.Reads, vsl 2 eRead b.Reads] (laws_eqReadS_R eqReadS) (laws_eqReadS_O eqReadS), (!eqReadS) = true] (.cons (laws_eqReadS_ok a.Reads b.Reads eqReadS heqReadS) (.cons e1 .nil)) (by kernel_rfl)).is (congrArg laws_eqRun_R e) (congrArg laws_eqRun_O e))) (fun e1 h =>
 (bindD h fun eqPutS heqPutS h =>
 (condD h (fun e2 h =>
 (someD h fun e => (Fin.fin (cx := cx) (X := laws_eqRun_X) (res := laws_eqRun_R false) (outs := laws_eqRun_O false) Try.func28 [[], [(4, { a := .call [.val [some 2] [], .val [some 2] []] false (laws_eqReadS_R eqReadS) (laws_eqReadS_O eqReadS) }), (5, { d := some false })], [(4, { a := .call [.val [some 2] [], .val [some 2] []] false (laws_eqPutS_R eqPutS) (laws_eqPutS_O eqPutS) }), (5, { d := some true })], []] [ACalls cx.P 50 [vsl 2 eRead a.Reads, vsl 2 eRead b.Reads] (laws_eqReadS_R eqReadS) (laws_eqReadS_O eqReadS), (!eqReadS) = false, ACalls cx.P 51 [vsl 2 ePut a.Puts, vsl 2 ePut b.Puts] (laws_eqPutS_R eqPutS) (laws_eqPutS_O eqPutS), (!eqPutS) = true] (.cons (laws_eqReadS_ok a.Reads b.Reads eqReadS heqReadS) (.cons e1 (.cons (laws_eqPutS_ok a.Puts b.Puts eqPutS heqPutS) (.cons e2 .nil)))) (by kernel_rfl)).is (congrArg laws_eqRun_R e) (congrArg laws_eqRun_O e))) (fun e2 h =>
 (condD h (fun e3 h =>
 (someD h fun e => (Fin.fin (cx := cx) (X := laws_eqRun_X) (res := laws_eqRun_R false) (outs := laws_eqRun_O false) Try.func28 [[], [(4, { a := .call [.val [some 2] [], .val [some 2] []] false (laws_eqReadS_R eqReadS) (laws_eqReadS_O eqReadS) }), (5, { d := some false })], [(4, { a := .call [.val [some 2] [], .val [some 2] []] false (laws_eqPutS_R eqPutS) (laws_eqPutS_O eqPutS) }), (5, { d := some false })], [(4, { d := some true })], []] [ACalls cx.P 50 [vsl 2 eRead a.Reads, vsl 2 eRead b.Reads] (laws_eqReadS_R eqReadS) (laws_eqReadS_O eqReadS), (!eqReadS) = false, ACalls cx.P 51 [vsl 2 ePut a.Puts, vsl 2 ePut b.Puts] (laws_eqPutS_R eqPutS) (laws_eqPutS_O eqPutS), (!eqPutS) = false, (a.Val != b.Val) = true] (.cons (laws_eqReadS_ok a.Reads b.Reads eqReadS heqReadS) (.cons e1 (.cons (laws_eqPutS_ok a.Puts b.Puts eqPutS heqPutS) (.cons e2 (.cons e3 .nil))))) (by kernel_rfl)).is (congrArg laws_eqRun_R e) (congrArg laws_eqRun_O e))) (fun e3 h =>
 (condD h (fun e4 h =>
 (someD h fun e => (Fin.fin (cx := cx) (X := laws_eqRun_X) (res := laws_eqRun_R false) (outs := laws_eqRun_O false) Try.func28 [[], [(4, { a := .call [.val [some 2] [], .val [some 2] []] false (laws_eqReadS_R eqReadS) (laws_eqReadS_O eqReadS) }), (5, { d := some false })], [(4, { a := .call [.val [some 2] [], .val [some 2] []] false (laws_eqPutS_R eqPutS) (laws_eqPutS_O eqPutS) }), (5, { d := some false })], [(4, { d := some false })], [(4, { d := some true })], []] [ACalls cx.P 50 [vsl 2 eRead a.Reads, vsl 2 eRead b.Reads] (laws_eqReadS_R eqReadS) (laws_eqReadS_O eqReadS), (!eqReadS) = false, ACalls cx.P 51 [vsl 2 ePut a.Puts, vsl 2 ePut b.Puts] (laws_eqPutS_R eqPutS) (laws_eqPutS_O eqPutS), (!eqPutS) = false, (a.Val != b.Val) = false, (a.Code != b.Code) = true] (.cons (laws_eqReadS_ok a.Reads b.Reads eqReadS heqReadS) (.cons e1 (.cons (laws_eqPutS_ok a.Puts b.Puts eqPutS heqPutS) (.cons e2 (.cons e3 (.cons e4 .nil)))))) (by kernel_rfl)).is (congrArg laws_eqRun_R e) (congrArg laws_eqRun_O e))) (fun e4 h =>
 (someD h fun e => (Fin.fin (cx := cx) (X := laws_eqRun_X) (res := laws_eqRun_R true) (outs := laws_eqRun_O true) Try.func28 [[], [(4, { a := .call [.val [some 2] [], .val [some 2] []] false (laws_eqReadS_R eqReadS) (laws_eqReadS_O eqReadS) }), (5, { d := some false })], [(4, { a := .call [.val [some 2] [], .val [some 2] []] false (laws_eqPutS_R eqPutS) (laws_eqPutS_O eqPutS) }), (5, { d := some false })], [(4, { d := some false })], [(4, { d := some false })], []] [ACalls cx.P 50 [vsl 2 eRead a.Reads, vsl 2 eRead b.Reads] (laws_eqReadS_R eqReadS) (laws_eqReadS_O eqReadS), (!eqReadS) = false, ACalls cx.P 51 [vsl 2 ePut a.Puts, vsl 2 ePut b.Puts] (laws_eqPutS_R eqPutS) (laws_eqPutS_O eqPutS), (!eqPutS) = false, (a.Val != b.Val) = false, (a.Code != b.Code) = false] (.cons (laws_eqReadS_ok a.Reads b.Reads eqReadS heqReadS) (.cons e1 (.cons (laws_eqPutS_ok a.Puts b.Puts eqPutS heqPutS) (.cons e2 (.cons e3 (.cons e4 .nil)))))) (by kernel_rfl)).is (congrArg laws_eqRun_R e) (congrArg laws_eqRun_O e))))))))))))
theorem laws_eqRun_ok (a : TRun) (b : TRun) (r : Bool) (h : laws_eqRun a b = some r) : ACalls cx.P 28 [.agg (eRun a), .agg (eRun b)] (laws_eqRun_R r) (laws_eqRun_O r) :=
  ACalls.of (cx := cx) (X := laws_eqRun_X) (c := laws_eqRun_c) Try.func28 (by kernel_rfl) (by kernel_rfl) (by kernel_rfl) (laws_eqRun_fin a b r h)

/-! ### laws_eqEntry -/
noncomputable def laws_eqEntry_c : Code := bodyOf Try.f17
noncomputable def laws_eqEntry_X : Sig := { f := 17, fn := Try.f17, rms := [.val [] []], oms := [none, none] }
noncomputable def laws_eqEntry_R (r : Bool) : V := .b r
noncomputable def laws_eqEntry_O (r : Bool) : List (Option V) := [none, none]
noncomputable def laws_eqEntry (a : TEntry) (b : TEntry) : Option Bool :=
  (bif (!(a.None == b.None)) then
 some false
 else
 ((laws_eqReq a.Req b.Req).bind fun eqReq =>
 (bif (!eqReq) then
 some false
 else
 ((laws_eqRun a.Run b.Run).bind fun eqRun =>
 (bif (!eqRun) then
 some false
 else
 some true)))))
theorem laws_eqEntry_fin (a : TEntry) (b : TEntry) (r : Bool) (h : laws_eqEntry a b = some r) : Fin cx laws_eqEntry_X (laws_eqEntry_R r) (laws_eqEntry_O r) [.code laws_eqEntry_c] (startS laws_eqEntry_X [.agg (eEntry a), .agg (eEntry b)]) :=
  (condD h (fun e1 h =>
 (someD h fun e => (Fin.fin (cx := cx) (X := laws_eqEntry_X) (res := laws_eqEntry_R false) (outs := laws_eqEntry_O false) Try.func17 [[], [(4, { d := some true })], []] [(!(a.None == b.None)) = true] (.cons e1 .nil) (by kernel_rfl)).is (congrArg laws_eqEntry_R e) (congrArg laws_eqEntry_O e))) (fun e1 h =>
 (bindD h fun eqReq heqReq h =>
 (condD h (fun e2 h =>
 (someD h fun e => (Fin.fin (cx := cx) (X := laws_eqEntry_X) (res := laws_eqEntry_R false) (outs := laws_eqEntry_O false) Try.func17 [[], [(4, { d := some false })], [(4, { a := .call [.val [] [], .val [] []] false (laws_eqReq_R eqReq) (laws_eqReq_O eqReq) }), (5, { d := some true })], []] [(!(a.None == b.None)) = false, ACalls cx.P 27 [.agg (eReq a.Req), .agg (eReq b.Req)] (laws_eqReq_R eqReq) (laws_eqReq_O eqReq), (!eqReq) = true] (.cons e1 (.cons (laws_eqReq_ok a.Req b.Req eqReq heqReq) (.cons e2 .nil))) (by kernel_rfl)).is (congrArg laws_eqEntry_R e) (congrArg laws_eqEntry_O e))) (fun e2 h =>
 (bindD h fun eqRun heqRun h =>
 (condD h (fun e3 h =>
 (someD h fun e => (Fin.fin (cx := cx) (X := laws_eqEntry_X) (res := laws_eqEntry_R false) (outs := laws_eqEntry_O false) Try.func17 [[], [(4, { d := some false })], [(4, { a := .call [.val [] [], .val [] []] false (laws_eqReq_R eqReq) (laws_eqReq_O eqReq) }), (5, { d := some false })], [(4, { a := .call [.val [some 2, some 2, none, none] [], .val [some 2, some 2, none, none] []] false (laws_eqRun_R eqRun) (laws_eqRun_O eqRun) }), (5, { d := some true })], []] [(!(a.None == b.None)) = false, ACalls cx.P 27 [.agg (eReq a.Req), .agg (eReq b.Req)] (laws_eqReq_R eqReq) (laws_eqReq_O eqReq), (!eqReq) = false, ACalls cx.P 28 [.agg (eRun a.Run), .agg (eRun b.Run)] (laws_eqRun_R eqRun) (laws_eqRun_O eqRun), (!eqRun) = true] (.cons e1 (.cons (laws_eqReq_ok a.Req b.Req eqReq heqReq) (.cons e2 (.cons (laws_eqRun_ok a.Run b.Run eqRun heqRun) (.cons e3 .nil))))) (by kernel_rfl)).is (congrArg laws_eqEntry_R e) (congrArg laws_eqEntry_O e))) (fun e3 h =>
 (someD h fun e => (Fin.fin (cx := cx) (X := laws_eqEntry_X) (res := laws_eqEntry_R true) (outs := laws_eqEntry_O true) Try.func17 [[], [(4, { d := some false })], [(4, { a := .call [.val [] [], .val [] []] false (laws_eqReq_R eqReq) (laws_eqReq_O eqReq) }), (5, { d := some false })], [(4, { a := .call [.val [some 2, some 2, none, none] [], .val [some 2, some 2, none, none] []] false (laws_eqRun_R eqRun) (laws_eqRun_O eqRun) }), (5, { d := some false })], []] [(!(a.None == b.None)) = false, ACalls cx.P 27 [.agg (eReq a.Req), .agg (eReq b.Req)] (laws_eqReq_R eqReq) (laws_eqReq_O eqReq), (!eqReq) = false, ACalls cx.P 28 [.agg (eRun a.Run), .agg (eRun b.Run)] (laws_eqRun_R eqRun) (laws_eqRun_O eqRun), (!eqRun) = false] (.cons e1 (.cons (laws_eqReq_ok a.Req b.Req eqReq heqReq) (.cons e2 (.cons (laws_eqRun_ok a.Run b.Run eqRun heqRun) (.cons e3 .nil))))) (by kernel_rfl)).is (congrArg laws_eqEntry_R e) (congrArg laws_eqEntry_O e))))))))))
theorem laws_eqEntry_ok (a : TEntry) (b : TEntry) (r : Bool) (h : laws_eqEntry a b = some r) : ACalls cx.P 17 [.agg (eEntry a), .agg (eEntry b)] (laws_eqEntry_R r) (laws_eqEntry_O r) :=
  ACalls.of (cx := cx) (X := laws_eqEntry_X) (c := laws_eqEntry_c) Try.func17 (by kernel_rfl) (by kernel_rfl) (by kernel_rfl) (laws_eqEntry_fin a b r h)

/-! ### laws_eqEntryS -/
noncomputable def laws_eqEntryS_c : Code := bodyOf Try.f8
noncomputable def laws_eqEntryS_X : Sig := { f := 8, fn := Try.f8, rms := [.val [] []], oms := [none, none] }
noncomputable def laws_eqEntryS_R (r : Bool) : V := .b r
noncomputable def laws_eqEntryS_O (r : Bool) : List (Option V) := [none, none]
noncomputable def laws_eqEntryS_k1 : List Item := posI 2000 4 [false, false] [.code laws_eqEntryS_c]
noncomputable def laws_eqEntryS_S1 : St := ⟨(bs 27 []), [some []]⟩
noncomputable def laws_eqEntryS_k2 : Option Bool :=
  some true
theorem laws_eqEntryS_k2_ok (r : Bool) (h : laws_eqEntryS_k2 = some r) : Fin cx laws_eqEntryS_X (laws_eqEntryS_R r) (laws_eqEntryS_O r) laws_eqEntryS_k1 (laws_eqEntryS_S1) :=
  (someD h fun e => (Fin.fin (cx := cx) (X := laws_eqEntryS_X) (res := laws_eqEntryS_R true) (outs := laws_eqEntryS_O true) Try.func8 [[]] [] .nil (by kernel_rfl)).is (congrArg laws_eqEntryS_R e) (congrArg laws_eqEntryS_O e))
noncomputable def laws_eqEntryS_k3 : List Item := posI 2000 3 [false] [.code laws_eqEntryS_c]
noncomputable def laws_eqEntryS_S2 (a : List TEntry) (b : List TEntry) (i : Int) : St := ⟨(vsl 7 eEntry a :: (vsl 7 eEntry b :: (bs 3 (vi i :: (bs 21 []))))), [some []]⟩
noncomputable def laws_eqEntryS_b1 (a : List TEntry) (b : List TEntry) (i : Int) : Option (Stp Bool Int Unit) :=
  (bif decide (i < (a.length : Int)) then
 ((idx a i).bind fun entry =>
 ((idx b i).bind fun entry1 =>
 ((laws_eqEntry entry entry1).bind fun eqEntry =>
 (bif (!eqEntry) then
 some (Stp.ret false)
 else
 some (Stp.nxt (w64 (i + 1)))))))
 else
 some (Stp.brk ()))
theorem laws_eqEntryS_b1_ok (a : List TEntry) (b : List TEntry) (res : V) (outs : List (Option V)) (x1 : Exc Bool Unit) (hb1 : ∀ s : Unit, x1 = .brk s → Fin cx laws_eqEntryS_X res outs laws_eqEntryS_k1 (laws_eqEntryS_S1)) (hr1 : ∀ v : Bool, x1 = .ret v → (res = laws_eqEntryS_R v ∧ outs = laws_eqEntryS_O v)) (st1 : Stp Bool Int Unit) (hc1 : Cont x1 (fun s : Int => Fin cx laws_eqEntryS_X res outs laws_eqEntryS_k3 (laws_eqEntryS_S2 a b s)) st1) (i : Int) (h : laws_eqEntryS_b1 a b i = some st1) : Fin cx laws_eqEntryS_X res outs laws_eqEntryS_k3 (laws_eqEntryS_S2 a b i) :=
  (condD h (fun e2 h =>
 (bindD h fun entry hentry h =>
 (bindD h fun entry1 hentry1 h =>
 (bindD h fun eqEntry heqEntry h =>
 (condD h (fun e3 h =>
 (retD h hc1 fun e => (Fin.fin (cx := cx) (X := laws_eqEntryS_X) (res := laws_eqEntryS_R false) (outs := laws_eqEntryS_O false) Try.func8 [[(3, { d := some true })], [(2, { a := .row (eEntry entry) }), (6, { a := .row (eEntry entry1) }), (8, { a := .call [.val [none, none, none, some 2, some 2, none, none] [], .val [none, none, none, some 2, some 2, none, none] []] false (laws_eqEntry_R eqEntry) (laws_eqEntry_O eqEntry) }), (9, { d := some true })], []] [decide (i < (a.length : Int)) = true, (0 : Int) ≤ i, i < ((a.length : Nat) : Int), (a.map eEntry)[i.toNat]? = some (eEntry entry), (0 : Int) ≤ i, i < ((b.length : Nat) : Int), (b.map eEntry)[i.toNat]? = some (eEntry entry1), ACalls cx.P 17 [.agg (eEntry entry), .agg (eEntry entry1)] (laws_eqEntry_R eqEntry) (laws_eqEntry_O eqEntry), (!eqEntry) = true] (.cons e2 (.cons (idx0 hentry) (.cons (idx1 hentry) (.cons (map_idx hentry) (.cons (idx0 hentry1) (.cons (idx1 hentry1) (.cons (map_idx hentry1) (.cons (laws_eqEntry_ok entry entry1 eqEntry heqEntry) (.cons e3 .nil))))))))) (by kernel_rfl)).is (hr1 _ e).1 (hr1 _ e).2)) (fun e3 h =>
 (nxtD h hc1 fun hI => (Fin.seg [[(3, { d := some true })], [(2, { a := .row (eEntry entry) }), (6, { a := .row (eEntry entry1) }), (8, { a := .call [.val [none, none, none, some 2, some 2, none, none] [], .val [none, none, none, some 2, some 2, none, none] []] false (laws_eqEntry_R eqEntry) (laws_eqEntry_O eqEntry) }), (9, { d := some false })], []] [] [0, 1, 5] [] [decide (i < (a.length : Int)) = true, (0 : Int) ≤ i, i < ((a.length : Nat) : Int), (a.map eEntry)[i.toNat]? = some (eEntry entry), (0 : Int) ≤ i, i < ((b.length : Nat) : Int), (b.map eEntry)[i.toNat]? = some (eEntry entry1), ACalls cx.P 17 [.agg (eEntry entry), .agg (eEntry entry1)] (laws_eqEntry_R eqEntry) (laws_eqEntry_O eqEntry), (!eqEntry) = false] (.cons e2 (.cons (idx0 hentry) (.cons (idx1 hentry) (.cons (map_idx hentry) (.cons (idx0 hentry1) (.cons (idx1 hentry1) (.cons (map_idx hentry1) (.cons (laws_eqEntry_ok entry entry1 eqEntry heqEntry) (.cons e3 .nil))))))))) hI (by kernel_rfl))))))))) (fun e2 h =>
 (brkD h hc1 fun e => (Fin.seg [[(3, { d := some false })]] [] [] [] [decide (i < (a.length : Int)) = false] (.cons e2 .nil) (hb1 _ e) (by kernel_rfl)))))
theorem laws_eqEntryS_b1_loop (a : List TEntry) (b : List TEntry) (res : V) (outs : List (Option V)) (x1 : Exc Bool Unit) (hb1 : ∀ s : Unit, x1 = .brk s → Fin cx laws_eqEntryS_X res outs laws_eqEntryS_k1 (laws_eqEntryS_S1)) (hr1 : ∀ v : Bool, x1 = .ret v → (res = laws_eqEntryS_R v ∧ outs = laws_eqEntryS_O v)) (s : Int) (h : loop (fun s : Int => laws_eqEntryS_b1 a b s) s = some x1) : Fin cx laws_eqEntryS_X res outs laws_eqEntryS_k3 (laws_eqEntryS_S2 a b s) :=
  loopD (I := fun s : Int => Fin cx laws_eqEntryS_X res outs laws_eqEntryS_k3 (laws_eqEntryS_S2 a b s)) h fun s st h hc => laws_eqEntryS_b1_ok a b res outs x1 hb1 hr1 st hc s h
noncomputable def laws_eqEntryS (a : List TEntry) (b : List TEntry) : Option Bool :=
  (bif ((a.length : Int) != (b.length : Int)) then
 some false
 else
 ((loop (fun s : Int => laws_eqEntryS_b1 a b s) 0).bind fun x => x.go (fun r => some r) fun s => laws_eqEntryS_k2))
theorem laws_eqEntryS_fin (a : List TEntry) (b : List TEntry) (r : Bool) (h : laws_eqEntryS a b = some r) : Fin cx laws_eqEntryS_X (laws_eqEntryS_R r) (laws_eqEntryS_O r) [.code laws_eqEntryS_c] (startS laws_eqEntryS_X [vsl 7 eEntry a, vsl 7 eEntry b]) :=
  (condD h (fun e1 h =>
 (someD h fun e => (Fin.fin (cx := cx) (X := laws_eqEntryS_X) (res := laws_eqEntryS_R false) (outs := laws_eqEntryS_O false) Try.func8 [[], [(4, { d := some true })], []] [((a.length : Int) != (b.length : Int)) = true] (.cons e1 .nil) (by kernel_rfl)).is (congrArg laws_eqEntryS_R e) (congrArg laws_eqEntryS_O e))) (fun e1 h =>
 (loopJ h fun x hl hr hb => (Fin.seg [[], [(4, { d := some false })], []] [] [0, 1, 5] [] [((a.length : Int) != (b.length : Int)) = false] (.cons e1 .nil) (laws_eqEntryS_b1_loop a b _ _ x (fun s e => laws_eqEntryS_k2_ok r (hb s e)) (fun v e => ⟨congrArg laws_eqEntryS_R (Option.some.inj (hr v e)).symm, congrArg laws_eqEntryS_O (Option.some.inj (hr v e)).symm⟩) 0 hl) (by kernel_rfl)))))
theorem laws_eqEntryS_ok (a : List TEntry) (b : List TEntry) (r : Bool) (h : laws_eqEntryS a b = some r) : ACalls cx.P 8 [vsl 7 eEntry a, vsl 7 eEntry b] (laws_eqEntryS_R r) (laws_eqEntryS_O r) :=
  ACalls.of (cx := cx) (X := laws_eqEntryS_X) (c := laws_eqEntryS_c) Try.func8 (by kernel_rfl) (by kernel_rfl) (by kernel_rfl) (laws_eqEntryS_fin a b r h)

/-! ### laws_FnExactHistWho -/
noncomputable def laws_FnExactHistWho_c : Code := bodyOf Try.f3
noncomputable def laws_FnExactHistWho_X : Sig := { f := 3, fn := Try.f3, rms := [.val [] []], oms := [none, none] }
noncomputable def laws_FnExactHistWho_R (r : Bool) : V := .b r
noncomputable def laws_FnExactHistWho_O (r : Bool) : List (Option V) := [none, none]
noncomputable def laws_FnExactHistWho (aList : List TEntry) (aBox : Int) : Option Bool :=
  ((laws_szEntryS aList 1048576).bind fun szEntryS =>
 (bif decide (szEntryS < 0) then
 some true
 else
 ((laws_toEntryS aList).bind fun toEntryS =>
 ((spec_HistWho toEntryS aBox).bind fun histWho =>
 ((laws_toEntryS aList).bind fun toEntryS1 =>
 ((impl_HistWho toEntryS1 aBox).bind fun histWho1 =>
 (bif (histWho1 != histWho) then
 some false
 else
 ((laws_toEntryS aList).bind fun toEntryS2 =>
 ((laws_eqEntryS toEntryS1 toEntryS2).bind fun eqEntryS =>
 (bif (!eqEntryS) then
 some false
 else
 some true))))))))))
theorem laws_FnExactHistWho_fin (aList : List TEntry) (aBox : Int) (r : Bool) (h : laws_FnExactHistWho aList aBox = some r) : Fin cx laws_FnExactHistWho_X (laws_FnExactHistWho_R r) (laws_FnExactHistWho_O r) [.code laws_FnExactHistWho_c] (startS laws_FnExactHistWho_X [vsl 7 eEntry aList, vi aBox]) :=
  (bindD h fun szEntryS hszEntryS h =>
 (condD h (fun e1 h =>
 (someD h fun e => (Fin.fin (cx := cx) (X := laws_FnExactHistWho_X) (res := laws_FnExactHistWho_R true) (outs := laws_FnExactHistWho_O true) Try.func3 [[], [], [(2, { a := .call [.val [some 7] [], .val [] []] false (laws_szEntryS_R szEntryS) (laws_szEntryS_O szEntryS) })], [(1, { d := some true })], []] [ACalls cx.P 4 [vsl 7 eEntry aList, vi 1048576] (laws_szEntryS_R szEntryS) (laws_szEntryS_O szEntryS), decide (szEntryS < 0) = true] (.cons (laws_szEntryS_ok aList 1048576 szEntryS hszEntryS) (.cons e1 .nil)) (by kernel_rfl)).is (congrArg laws_FnExactHistWho_R e) (congrArg laws_FnExactHistWho_O e))) (fun e1 h =>
 (bindD h fun toEntryS htoEntryS h =>
 (bindD h fun histWho hhistWho h =>
 (bindD h fun toEntryS1 htoEntryS1 h =>
 (bindD h fun histWho1 hhistWho1 h =>
 (condD h (fun e2 h =>
 (someD h fun e => (Fin.fin (cx := cx) (X := laws_FnExactHistWho_X) (res := laws_FnExactHistWho_R false) (outs := laws_FnExactHistWho_O false) Try.func3 [[], [], [(2, { a := .call [.val [some 7] [], .val [] []] false (laws_szEntryS_R szEntryS) (laws_szEntryS_O szEntryS) })], [(1, { d := some false })], [(1, { a := .call [.val [some 7] []] false (laws_toEntryS_R toEntryS) (laws_toEntryS_O toEntryS) }), (3, { a := .call [.val [some 7] [], .val [] []] false (spec_HistWho_R histWho) (spec_HistWho_O histWho) })], [(1, { a := .call [.val [some 7] []] false (laws_toEntryS_R toEntryS1) (laws_toEntryS_O toEntryS1) })], [(2, { a := .call [.val [some 7] [], .val [] []] false (impl_HistWho_R histWho1) (impl_HistWho_O histWho1) })], [(2, { d := some true })], []] [ACalls cx.P 4 [vsl 7 eEntry aList, vi 1048576] (laws_szEntryS_R szEntryS) (laws_szEntryS_O szEntryS), decide (szEntryS < 0) = false, ACalls cx.P 6 [vsl 7 eEntry aList] (laws_toEntryS_R toEntryS) (laws_toEntryS_O toEntryS), ACalls cx.P 5 [vsl 7 eEntry toEntryS, vi aBox] (spec_HistWho_R histWho) (spec_HistWho_O histWho), ACalls cx.P 6 [vsl 7 eEntry aList] (laws_toEntryS_R toEntryS1) (laws_toEntryS_O toEntryS1), ACalls cx.P 7 [vsl 7 eEntry toEntryS1, vi aBox] (impl_HistWho_R histWho1) (impl_HistWho_O histWho1), (histWho1 != histWho) = true] (.cons (laws_szEntryS_ok aList 1048576 szEntryS hszEntryS) (.cons e1 (.cons (laws_toEntryS_ok aList toEntryS htoEntryS) (.cons (spec_HistWho_ok toEntryS aBox histWho hhistWho) (.cons (laws_toEntryS_ok aList toEntryS1 htoEntryS1) (.cons (impl_HistWho_ok toEntryS1 aBox histWho1 hhistWho1) (.cons e2 .nil))))))) (by kernel_rfl)).is (congrArg laws_FnExactHistWho_R e) (congrArg laws_FnExactHistWho_O e))) (fun e2 h =>
 (bindD h fun toEntryS2 htoEntryS2 h =>
 (bindD h fun eqEntryS heqEntryS h =>
 (condD h (fun e3 h =>
 (someD h fun e => (Fin.fin (cx := cx) (X := laws_FnExactHistWho_X) (res := laws_FnExactHistWho_R false) (outs := laws_FnExactHistWho_O false) Try.func3 [[], [], [(2, { a := .call [.val [some 7] [], .val [] []] false (laws_szEntryS_R szEntryS) (laws_szEntryS_O szEntryS) })], [(1, { d := some false })], [(1, { a := .call [.val [some 7] []] false (laws_toEntryS_R toEntryS) (laws_toEntryS_O toEntryS) }), (3, { a := .call [.val [some 7] [], .val [] []] false (spec_HistWho_R histWho) (spec_HistWho_O histWho) })], [(1, { a := .call [.val [some 7] []] false (laws_toEntryS_R toEntryS1) (laws_toEntryS_O toEntryS1) })], [(2, { a := .call [.val [some 7] [], .val [] []] false (impl_HistWho_R histWho1) (impl_HistWho_O histWho1) })], [(2, { d := some false })], [(2, { a := .call [.val [some 7] []] false (laws_toEntryS_R toEntryS2) (laws_toEntryS_O toEntryS2) }), (3, { a := .call [.val [some 7] [], .val [some 7] []] false (laws_eqEntryS_R eqEntryS) (laws_eqEntryS_O eqEntryS) }), (4, { d := some true })], []] [ACalls cx.P 4 [vsl 7 eEntry aList, vi 1048576] (laws_szEntryS_R szEntryS) (laws_szEntryS_O szEntryS), decide (szEntryS < 0) = false, ACalls cx.P 6 [vsl 7 eEntry aList] (laws_toEntryS_R toEntryS) (laws_toEntryS_O toEntryS), ACalls cx.P 5 [vsl 7 eEntry toEntryS, vi aBox] (spec_HistWho_R histWho) (spec_HistWho_O histWho), ACalls cx.P 6 [vsl 7 eEntry aList] (laws_toEntryS_R toEntryS1) (laws_toEntryS_O toEntryS1), ACalls cx.P 7 [vsl 7 eEntry toEntryS1, vi aBox] (impl_HistWho_R histWho1) (impl_HistWho_O histWho1), (histWho1 != histWho) = false, ACalls cx.P 6 [vsl 7 eEntry aList] (laws_toEntryS_R toEntryS2) (laws_toEntryS_O toEntryS2), ACalls cx.P 8 [vsl 7 eEntry toEntryS1, vsl 7 eEntry toEntryS2] (laws_eqEntryS_R eqEntryS) (laws_eqEntryS_O eqEntryS), (!eqEntryS) = true] (.cons (laws_szEntryS_ok aList 1048576 szEntryS hszEntryS) (.cons e1 (.cons (laws_toEntryS_ok aList toEntryS htoEntryS) (.cons (spec_HistWho_ok toEntryS aBox histWho hhistWho) (.cons (laws_toEntryS_ok aList toEntryS1 htoEntryS1) (.cons (impl_HistWho_ok toEntryS1 aBox histWho1 hhistWho1) (.cons e2 (.cons (laws_toEntryS_ok aList toEntryS2 htoEntryS2) (.cons (laws_eqEntryS_ok toEntryS1 toEntryS2 eqEntryS heqEntryS) (.cons e3 .nil)))))))))) (by kernel_rfl)).is (congrArg laws_FnExactHistWho_R e) (congrArg laws_FnExactHistWho_O e))) (fun e3 h =>
 (someD h fun e => (Fin.fin (cx := cx) (X := laws_FnExactHistWho_X) (res := laws_FnExactHistWho_R true) (outs := laws_FnExactHistWho_O true) Try.func3 [[], [], [(2, { a := .call [.val [some 7] [], .val [] []] false (laws_szEntryS_R szEntryS) (laws_szEntryS_O szEntryS) })], [(1, { d := some false })], [(1, { a := .call [.val [some 7] []] false (laws_toEntryS_R toEntryS) (laws_toEntryS_O toEntryS) }), (3, { a := .call [.val [some 7] [], .val [] []] false (spec_HistWho_R histWho) (spec_HistWho_O histWho) })], [(1, { a := .call [.val [some 7] []] false (laws_toEntryS_R toEntryS1) (laws_toEntryS_O toEntryS1) })], [(2, { a := .call [.val [some 7] [], .val [] []] false (impl_HistWho_R histWho1) (impl_HistWho_O histWho1) })], [(2, { d := some false })], [(2, { a := .call [.val [some 7] []] false (laws_toEntryS_R toEntryS2) (laws_toEntryS_O toEntryS2) }), (3, { a := .call [.val [some 7] [], .val [some 7] []] false (laws_eqEntryS_R eqEntryS) (laws_eqEntryS_O eqEntryS) }), (4, { d := some false })], []] [ACalls cx.P 4 [vsl 7 eEntry aList, vi 1048576] (laws_szEntryS_R szEntryS) (laws_szEntryS_O szEntryS), decide (szEntryS < 0) = false, ACalls cx.P 6 [vsl 7 eEntry aList] (laws_toEntryS_R toEntryS) (laws_toEntryS_O toEntryS), ACalls cx.P 5 [vsl 7 eEntry toEntryS, vi aBox] (spec_HistWho_R histWho) (spec_HistWho_O histWho), ACalls cx.P 6 [vsl 7 eEntry aList] (laws_toEntryS_R toEntryS1) (laws_toEntryS_O toEntryS1), ACalls cx.P 7 [vsl 7 eEntry toEntryS1, vi aBox] (impl_HistWho_R histWho1) (impl_HistWho_O histWho1), (histWho1 != histWho) = false, ACalls cx.P 6 [vsl 7 eEntry aList] (laws_toEntryS_R toEntryS2) (laws_toEntryS_O toEntryS2), ACalls cx.P 8 [vsl 7 eEntry toEntryS1, vsl 7 eEntry toEntryS2] (laws_eqEntryS_R eqEntryS) (laws_eqEntryS_O eqEntryS), (!eqEntryS) = false] (.cons (laws_szEntryS_ok aList 1048576 szEntryS hszEntryS) (.cons e1 (.cons (laws_toEntryS_ok aList toEntryS htoEntryS) (.cons (spec_HistWho_ok toEntryS aBox histWho hhistWho) (.cons (laws_toEntryS_ok aList toEntryS1 htoEntryS1) (.cons (impl_HistWho_ok toEntryS1 aBox histWho1 hhistWho1) (.cons e2 (.cons (laws_toEntryS_ok aList toEntryS2 htoEntryS2) (.cons (laws_eqEntryS_ok toEntryS1 toEntryS2 eqEntryS heqEntryS) (.cons e3 .nil)))))))))) (by kernel_rfl)).is (congrArg laws_FnExactHistWho_R e) (congrArg laws_FnExactHistWho_O e)))))))))))))))
theorem laws_FnExactHistWho_ok (aList : List TEntry) (aBox : Int) (r : Bool) (h : laws_FnExactHistWho aList aBox = some r) : ACalls cx.P 3 [vsl 7 eEntry aList, vi aBox] (laws_FnExactHistWho_R r) (laws_FnExactHistWho_O r) :=
  ACalls.of (cx := cx) (X := laws_FnExactHistWho_X) (c := laws_FnExactHistWho_c) Try.func3 (by kernel_rfl) (by kernel_rfl) (by kernel_rfl) (laws_FnExactHistWho_fin aList aBox r h)


end Go.Proofs.Ytoghkllkjjpgkaa
