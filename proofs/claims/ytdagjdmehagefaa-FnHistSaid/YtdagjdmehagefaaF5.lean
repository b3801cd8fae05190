/- Functions of the program, and that their calls come to this. -/
import Derived.Test.YtdagjdmehagefaaF4
set_option linter.unusedVariables false
set_option linter.unusedSimpArgs false
namespace Go.Proofs.Ytdagjdmehagefaa
open Go

/-! ### impl_HistCounts -/
noncomputable def impl_HistCounts_c : Code := bodyOf Try.f10
noncomputable def impl_HistCounts_X : Sig := { f := 10, fn := Try.f10, rms := [.val [some 1] []], oms := [none] }
noncomputable def impl_HistCounts_R (r : List Int) : V := vsl 1 eI r
noncomputable def impl_HistCounts_O (r : List Int) : List (Option V) := [none]
noncomputable def impl_HistCounts_k1 : List Item := posI 2000 6 [false, false] [.code impl_HistCounts_c]
noncomputable def impl_HistCounts_S1 (out1 : List Int) : St := ⟨(bs 3 (.own 1 0 1 0 out1.length :: (bs 28 []))), [some [], some [erow 3 1 eI out1]]⟩
noncomputable def impl_HistCounts_k2 (out1 : List Int) : Option (List Int) :=
  some out1
theorem impl_HistCounts_k2_ok (r : List Int) (out1 : List Int) (h : impl_HistCounts_k2 out1 = some r) : Fin cx impl_HistCounts_X (impl_HistCounts_R r) (impl_HistCounts_O r) impl_HistCounts_k1 (impl_HistCounts_S1 out1) :=
  (someD h fun e => (Fin.fin (cx := cx) (X := impl_HistCounts_X) (res := impl_HistCounts_R out1) (outs := impl_HistCounts_O out1) Try.func10 [[]] [out1.length = out1.length] (.cons rfl .nil) (by kernel_rfl)).is (congrArg impl_HistCounts_R e) (congrArg impl_HistCounts_O e))
noncomputable def impl_HistCounts_k3 : List Item := posI 2000 5 [false] [.code impl_HistCounts_c]
noncomputable def impl_HistCounts_S2 (folded : TState × List Int) (out : List Int) (v20 : Int) : St := ⟨(bs 3 (.own 1 0 1 0 out.length :: (bs 14 (vsl 1 eI folded.2 :: (vi (folded.2.length : Int) :: (vi v20 :: (bs 11 []))))))), [some [], some [erow 3 1 eI out]]⟩
noncomputable def impl_HistCounts_b1 (folded : TState × List Int) (out : List Int) (v20 : Int) : Option (Stp (List Int) ((List Int) × Int) (List Int)) :=
  (bif decide (v20 < (folded.2.length : Int)) then
 ((idx folded.2 v20).bind fun y =>
 ((idx out y).bind fun y1 =>
 some (Stp.nxt (out.set y.toNat (w64 (y1 + 1)), w64 (v20 + 1)))))
 else
 some (Stp.brk out))
theorem impl_HistCounts_b1_ok (folded : TState × List Int) (res : V) (outs : List (Option V)) (x1 : Exc (List Int) (List Int)) (hb1 : ∀ s : List Int, x1 = .brk s → Fin cx impl_HistCounts_X res outs impl_HistCounts_k1 (impl_HistCounts_S1 s)) (hr1 : ∀ v : List Int, x1 = .ret v → (res = impl_HistCounts_R v ∧ outs = impl_HistCounts_O v)) (st1 : Stp (List Int) ((List Int) × Int) (List Int)) (hc1 : Cont x1 (fun s : (List Int) × Int => Fin cx impl_HistCounts_X res outs impl_HistCounts_k3 (impl_HistCounts_S2 folded s.1 s.2)) st1) (out : List Int) (v20 : Int) (h : impl_HistCounts_b1 folded out v20 = some st1) : Fin cx impl_HistCounts_X res outs impl_HistCounts_k3 (impl_HistCounts_S2 folded out v20) :=
  (condD h (fun e3 h =>
 (bindD h fun y hy h =>
 (bindD h fun y1 hy1 h =>
 (nxtD h hc1 fun hI => (Fin.seg [[(0, { d := some true })], [(0, { a := .row (eI y) })], [(3, { a := .row (eI y1) }), (6, { a := .rowck (eI y1) [], e := some (erow 3 1 eI (out.set y.toNat (w64 (y1 + 1)))) })], []] [.is (.tmp 3) (.own 1 0 1 0 (out.set y.toNat (w64 (y1 + 1))).length)] [3, 18, 19, 20] [(1, 0)] [decide (v20 < (folded.2.length : Int)) = true, (0 : Int) ≤ v20, v20 < ((folded.2.length : Nat) : Int), (folded.2.map eI)[v20.toNat]? = some (eI y), (0 : Int) ≤ y, y < ((out.length : Nat) : Int), (out.map eI)[0 + y.toNat]? = some (eI y1), (0 : Int) ≤ y, y < ((out.length : Nat) : Int), Ent.row 3 1 out.length ((out.map eI).set (0 + y.toNat) [vi (w64 (y1 + 1))]) = erow 3 1 eI (out.set y.toNat (w64 (y1 + 1))), (out.map eI)[0 + y.toNat]? = some (eI y1), (.own 1 0 1 0 out.length : V) = .own 1 0 1 0 (out.set y.toNat (w64 (y1 + 1))).length] (.cons e3 (.cons (idx0 hy) (.cons (idx1 hy) (.cons (map_idx hy) (.cons (idx0 hy1) (.cons (idx1 hy1) (.cons (map_idx0 hy1) (.cons (idx0 hy1) (.cons (idx1 hy1) (.cons (row_set rfl) (.cons (map_idx0 hy1) (.cons (by simp) .nil)))))))))))) hI (by kernel_rfl)))))) (fun e3 h =>
 (brkD h hc1 fun e => (Fin.seg [[(0, { d := some false })]] [] [3] [(1, 0)] [decide (v20 < (folded.2.length : Int)) = false] (.cons e3 .nil) (hb1 _ e) (by kernel_rfl)))))
theorem impl_HistCounts_b1_loop (folded : TState × List Int) (res : V) (outs : List (Option V)) (x1 : Exc (List Int) (List Int)) (hb1 : ∀ s : List Int, x1 = .brk s → Fin cx impl_HistCounts_X res outs impl_HistCounts_k1 (impl_HistCounts_S1 s)) (hr1 : ∀ v : List Int, x1 = .ret v → (res = impl_HistCounts_R v ∧ outs = impl_HistCounts_O v)) (s : (List Int) × Int) (h : loop (fun s : (List Int) × Int => impl_HistCounts_b1 folded s.1 s.2) s = some x1) : Fin cx impl_HistCounts_X res outs impl_HistCounts_k3 (impl_HistCounts_S2 folded s.1 s.2) :=
  loopD (I := fun s : (List Int) × Int => Fin cx impl_HistCounts_X res outs impl_HistCounts_k3 (impl_HistCounts_S2 folded s.1 s.2)) h fun s st h hc => impl_HistCounts_b1_ok folded res outs x1 hb1 hr1 st hc s.1 s.2 h
noncomputable def impl_HistCounts (list : List TEntry) : Option (List Int) :=
  (need (0 ≤ (6 : Int) ∧ (6 : Int) * 8 ≤ 140737488355328)
 (((impl_listOk list).bind fun listOk =>
 (bif (!listOk) then
 some (List.replicate (6 : Int).toNat 0)
 else
 ((impl_folded list).bind fun folded =>
 ((loop (fun s : (List Int) × Int => impl_HistCounts_b1 folded s.1 s.2) (List.replicate (6 : Int).toNat 0, 0)).bind fun x => x.go (fun r => some r) fun s => impl_HistCounts_k2 s))))))
theorem impl_HistCounts_fin (list : List TEntry) (r : List Int) (h : impl_HistCounts list = some r) : Fin cx impl_HistCounts_X (impl_HistCounts_R r) (impl_HistCounts_O r) [.code impl_HistCounts_c] (startS impl_HistCounts_X [vsl 7 eEntry list]) :=
  (needD h fun e1 h =>
 (bindD h fun listOk hlistOk h =>
 (condD h (fun e2 h =>
 (someD h fun e => (Fin.fin (cx := cx) (X := impl_HistCounts_X) (res := impl_HistCounts_R (List.replicate (6 : Int).toNat 0)) (outs := impl_HistCounts_O (List.replicate (6 : Int).toNat 0)) Try.func10 [[], [(0, { e := some (erow 3 1 eI (List.replicate (6 : Int).toNat 0)), v := some (.own 2 0 1 0 (List.replicate (6 : Int).toNat 0).length) })], [(1, { a := .call [.val [some 7] []] false (impl_listOk_R listOk) (impl_listOk_O listOk) }), (2, { d := some true })], []] [V.own 2 0 1 0 (6 : Int).toNat = .own 2 0 1 0 (List.replicate (6 : Int).toNat 0).length, Ent.row 3 1 (6 : Int).toNat (List.replicate (6 : Int).toNat [vi 0]) = erow 3 1 eI (List.replicate (6 : Int).toNat 0), (0 : Int) ≤ (6 : Int), (6 : Int) = (6 : Int), (6 : Int) * ((8 : Nat) : Int) ≤ 140737488355328 ∧ 0 < 8, ([vi 0] : List V).length = 1, ACalls cx.P 13 [vsl 7 eEntry list] (impl_listOk_R listOk) (impl_listOk_O listOk), (!listOk) = true, (List.replicate (6 : Int).toNat 0).length = (List.replicate (6 : Int).toNat 0).length] (.cons (by simp) (.cons (row_rep rfl) (.cons e1.1 (.cons rfl (.cons ⟨e1.2, by decide⟩ (.cons rfl (.cons (impl_listOk_ok list listOk hlistOk) (.cons e2 (.cons rfl .nil))))))))) (by kernel_rfl)).is (congrArg impl_HistCounts_R e) (congrArg impl_HistCounts_O e))) (fun e2 h =>
 (bindD h fun folded hfolded h =>
 (loopJ h fun x hl hr hb => (Fin.seg [[], [(0, { e := some (erow 3 1 eI (List.replicate (6 : Int).toNat 0)), v := some (.own 2 0 1 0 (List.replicate (6 : Int).toNat 0).length) })], [(1, { a := .call [.val [some 7] []] false (impl_listOk_R listOk) (impl_listOk_O listOk) }), (2, { d := some false })], [(1, { a := .call [.val [some 7] []] false (impl_folded_R folded) (impl_folded_O folded) })], []] [] [3, 18, 19, 20] [(2, 0)] [V.own 2 0 1 0 (6 : Int).toNat = .own 2 0 1 0 (List.replicate (6 : Int).toNat 0).length, Ent.row 3 1 (6 : Int).toNat (List.replicate (6 : Int).toNat [vi 0]) = erow 3 1 eI (List.replicate (6 : Int).toNat 0), (0 : Int) ≤ (6 : Int), (6 : Int) = (6 : Int), (6 : Int) * ((8 : Nat) : Int) ≤ 140737488355328 ∧ 0 < 8, ([vi 0] : List V).length = 1, ACalls cx.P 13 [vsl 7 eEntry list] (impl_listOk_R listOk) (impl_listOk_O listOk), (!listOk) = false, ACalls cx.P 16 [vsl 7 eEntry list] (impl_folded_R folded) (impl_folded_O folded)] (.cons (by simp) (.cons (row_rep rfl) (.cons e1.1 (.cons rfl (.cons ⟨e1.2, by decide⟩ (.cons rfl (.cons (impl_listOk_ok list listOk hlistOk) (.cons e2 (.cons (impl_folded_ok list folded hfolded) .nil))))))))) (impl_HistCounts_b1_loop folded _ _ x (fun s e => impl_HistCounts_k2_ok r s (hb s e)) (fun v e => ⟨congrArg impl_HistCounts_R (Option.some.inj (hr v e)).symm, congrArg impl_HistCounts_O (Option.some.inj (hr v e)).symm⟩) (List.replicate (6 : Int).toNat 0, 0) hl) (by kernel_rfl))))))))
theorem impl_HistCounts_ok (list : List TEntry) (r : List Int) (h : impl_HistCounts list = some r) : ACalls cx.P 10 [vsl 7 eEntry list] (impl_HistCounts_R r) (impl_HistCounts_O r) :=
  ACalls.of (cx := cx) (X := impl_HistCounts_X) (c := impl_HistCounts_c) Try.func10 (by kernel_rfl) (by kernel_rfl) (by kernel_rfl) (impl_HistCounts_fin list r h)

/-! ### impl_same_Box -/
noncomputable def impl_same_Box_c : Code := bodyOf Try.f36
noncomputable def impl_same_Box_X : Sig := { f := 36, fn := Try.f36, rms := [.val [] []], oms := [none, none] }
noncomputable def impl_same_Box_R (r : Bool) : V := .b r
noncomputable def impl_same_Box_O (r : Bool) : List (Option V) := [none, none]
noncomputable def impl_same_Box_k1 : List Item := posI 2000 4 [false, false] [.code impl_same_Box_c]
noncomputable def impl_same_Box_S1 : St := ⟨(bs 26 []), [some []]⟩
noncomputable def impl_same_Box_k2 : Option Bool :=
  some true
theorem impl_same_Box_k2_ok (r : Bool) (h : impl_same_Box_k2 = some r) : Fin cx impl_same_Box_X (impl_same_Box_R r) (impl_same_Box_O r) impl_same_Box_k1 (impl_same_Box_S1) :=
  (someD h fun e => (Fin.fin (cx := cx) (X := impl_same_Box_X) (res := impl_same_Box_R true) (outs := impl_same_Box_O true) Try.func36 [[]] [] .nil (by kernel_rfl)).is (congrArg impl_same_Box_R e) (congrArg impl_same_Box_O e))
noncomputable def impl_same_Box_k3 : List Item := posI 2000 3 [false] [.code impl_same_Box_c]
noncomputable def impl_same_Box_S2 (a : List TBox) (b : List TBox) (v13 : Int) : St := ⟨(vsl 2 eBox a :: (vsl 2 eBox b :: (bs 10 (vi (a.length : Int) :: (vi v13 :: (bs 12 [])))))), [some []]⟩
noncomputable def impl_same_Box_b1 (a : List TBox) (b : List TBox) (v13 : Int) : Option (Stp Bool Int Unit) :=
  (bif decide (v13 < (a.length : Int)) then
 ((idx a v13).bind fun box =>
 ((idx b v13).bind fun box1 =>
 (bif (!(([box.Ver, box.Val] : List Int) == [box1.Ver, box1.Val])) then
 some (Stp.ret false)
 else
 some (Stp.nxt (w64 (v13 + 1))))))
 else
 some (Stp.brk ()))
theorem impl_same_Box_b1_ok (a : List TBox) (b : List TBox) (res : V) (outs : List (Option V)) (x1 : Exc Bool Unit) (hb1 : ∀ s : Unit, x1 = .brk s → Fin cx impl_same_Box_X res outs impl_same_Box_k1 (impl_same_Box_S1)) (hr1 : ∀ v : Bool, x1 = .ret v → (res = impl_same_Box_R v ∧ outs = impl_same_Box_O v)) (st1 : Stp Bool Int Unit) (hc1 : Cont x1 (fun s : Int => Fin cx impl_same_Box_X res outs impl_same_Box_k3 (impl_same_Box_S2 a b s)) st1) (v13 : Int) (h : impl_same_Box_b1 a b v13 = some st1) : Fin cx impl_same_Box_X res outs impl_same_Box_k3 (impl_same_Box_S2 a b v13) :=
  (condD h (fun e2 h =>
 (bindD h fun box hbox h =>
 (bindD h fun box1 hbox1 h =>
 (condD h (fun e3 h =>
 (retD h hc1 fun e => (Fin.fin (cx := cx) (X := impl_same_Box_X) (res := impl_same_Box_R false) (outs := impl_same_Box_O false) Try.func36 [[(0, { d := some true })], [], [(2, { a := .row (eBox box) }), (6, { a := .row (eBox box1) }), (8, { d := some true })], []] [decide (v13 < (a.length : Int)) = true, (0 : Int) ≤ v13, v13 < ((a.length : Nat) : Int), (a.map eBox)[v13.toNat]? = some (eBox box), (0 : Int) ≤ v13, v13 < ((b.length : Nat) : Int), (b.map eBox)[v13.toNat]? = some (eBox box1), (!(([box.Ver, box.Val] : List Int) == [box1.Ver, box1.Val])) = true] (.cons e2 (.cons (idx0 hbox) (.cons (idx1 hbox) (.cons (map_idx hbox) (.cons (idx0 hbox1) (.cons (idx1 hbox1) (.cons (map_idx hbox1) (.cons e3 .nil)))))))) (by kernel_rfl)).is (hr1 _ e).1 (hr1 _ e).2)) (fun e3 h =>
 (nxtD h hc1 fun hI => (Fin.seg [[(0, { d := some true })], [], [(2, { a := .row (eBox box) }), (6, { a := .row (eBox box1) }), (8, { d := some false })], []] [] [0, 1, 12, 13] [] [decide (v13 < (a.length : Int)) = true, (0 : Int) ≤ v13, v13 < ((a.length : Nat) : Int), (a.map eBox)[v13.toNat]? = some (eBox box), (0 : Int) ≤ v13, v13 < ((b.length : Nat) : Int), (b.map eBox)[v13.toNat]? = some (eBox box1), (!(([box.Ver, box.Val] : List Int) == [box1.Ver, box1.Val])) = false] (.cons e2 (.cons (idx0 hbox) (.cons (idx1 hbox) (.cons (map_idx hbox) (.cons (idx0 hbox1) (.cons (idx1 hbox1) (.cons (map_idx hbox1) (.cons e3 .nil)))))))) hI (by kernel_rfl)))))))) (fun e2 h =>
 (brkD h hc1 fun e => (Fin.seg [[(0, { d := some false })]] [] [] [] [decide (v13 < (a.length : Int)) = false] (.cons e2 .nil) (hb1 _ e) (by kernel_rfl)))))
theorem impl_same_Box_b1_loop (a : List TBox) (b : List TBox) (res : V) (outs : List (Option V)) (x1 : Exc Bool Unit) (hb1 : ∀ s : Unit, x1 = .brk s → Fin cx impl_same_Box_X res outs impl_same_Box_k1 (impl_same_Box_S1)) (hr1 : ∀ v : Bool, x1 = .ret v → (res = impl_same_Box_R v ∧ outs = impl_same_Box_O v)) (s : Int) (h : loop (fun s : Int => impl_same_Box_b1 a b s) s = some x1) : Fin cx impl_same_Box_X res outs impl_same_Box_k3 (impl_same_Box_S2 a b s) :=
  loopD (I := fun s : Int => Fin cx impl_same_Box_X res outs impl_same_Box_k3 (impl_same_Box_S2 a b s)) h fun s st h hc => impl_same_Box_b1_ok a b res outs x1 hb1 hr1 st hc s h
noncomputable def impl_same_Box (a : List TBox) (b : List TBox) : Option Bool :=
  (bif ((a.length : Int) != (b.length : Int)) then
 some false
 else
 ((loop (fun s : Int => impl_same_Box_b1 a b s) 0).bind fun x => x.go (fun r => some r) fun s => impl_same_Box_k2))
theorem impl_same_Box_fin (a : List TBox) (b : List TBox) (r : Bool) (h : impl_same_Box a b = some r) : Fin cx impl_same_Box_X (impl_same_Box_R r) (impl_same_Box_O r) [.code impl_same_Box_c] (startS impl_same_Box_X [vsl 2 eBox a, vsl 2 eBox b]) :=
  (condD h (fun e1 h =>
 (someD h fun e => (Fin.fin (cx := cx) (X := impl_same_Box_X) (res := impl_same_Box_R false) (outs := impl_same_Box_O false) Try.func36 [[], [(4, { d := some true })], []] [((a.length : Int) != (b.length : Int)) = true] (.cons e1 .nil) (by kernel_rfl)).is (congrArg impl_same_Box_R e) (congrArg impl_same_Box_O e))) (fun e1 h =>
 (loopJ h fun x hl hr hb => (Fin.seg [[], [(4, { d := some false })], []] [] [0, 1, 12, 13] [] [((a.length : Int) != (b.length : Int)) = false] (.cons e1 .nil) (impl_same_Box_b1_loop a b _ _ x (fun s e => impl_same_Box_k2_ok r (hb s e)) (fun v e => ⟨congrArg impl_same_Box_R (Option.some.inj (hr v e)).symm, congrArg impl_same_Box_O (Option.some.inj (hr v e)).symm⟩) 0 hl) (by kernel_rfl)))))
theorem impl_same_Box_ok (a : List TBox) (b : List TBox) (r : Bool) (h : impl_same_Box a b = some r) : ACalls cx.P 36 [vsl 2 eBox a, vsl 2 eBox b] (impl_same_Box_R r) (impl_same_Box_O r) :=
  ACalls.of (cx := cx) (X := impl_same_Box_X) (c := impl_same_Box_c) Try.func36 (by kernel_rfl) (by kernel_rfl) (by kernel_rfl) (impl_same_Box_fin a b r h)

/-! ### impl_BoxSame -/
noncomputable def impl_BoxSame_c : Code := bodyOf Try.f21
noncomputable def impl_BoxSame_X : Sig := { f := 21, fn := Try.f21, rms := [.val [] []], oms := [none, none] }
noncomputable def impl_BoxSame_R (r : Bool) : V := .b r
noncomputable def impl_BoxSame_O (r : Bool) : List (Option V) := [none, none]
noncomputable def impl_BoxSame (a : List TBox) (b : List TBox) : Option Bool :=
  ((impl_same_Box a b).bind fun box =>
 some box)
theorem impl_BoxSame_fin (a : List TBox) (b : List TBox) (r : Bool) (h : impl_BoxSame a b = some r) : Fin cx impl_BoxSame_X (impl_BoxSame_R r) (impl_BoxSame_O r) [.code impl_BoxSame_c] (startS impl_BoxSame_X [vsl 2 eBox a, vsl 2 eBox b]) :=
  (bindD h fun box hbox h =>
 (someD h fun e => (Fin.fin (cx := cx) (X := impl_BoxSame_X) (res := impl_BoxSame_R box) (outs := impl_BoxSame_O box) Try.func21 [[], [(2, { a := .call [.val [some 2] [], .val [some 2] []] false (impl_same_Box_R box) (impl_same_Box_O box) })]] [ACalls cx.P 36 [vsl 2 eBox a, vsl 2 eBox b] (impl_same_Box_R box) (impl_same_Box_O box)] (.cons (impl_same_Box_ok a b box hbox) .nil) (by kernel_rfl)).is (congrArg impl_BoxSame_R e) (congrArg impl_BoxSame_O e)))
theorem impl_BoxSame_ok (a : List TBox) (b : List TBox) (r : Bool) (h : impl_BoxSame a b = some r) : ACalls cx.P 21 [vsl 2 eBox a, vsl 2 eBox b] (impl_BoxSame_R r) (impl_BoxSame_O r) :=
  ACalls.of (cx := cx) (X := impl_BoxSame_X) (c := impl_BoxSame_c) Try.func21 (by kernel_rfl) (by kernel_rfl) (by kernel_rfl) (impl_BoxSame_fin a b r h)

/-! ### impl_same_Done -/
noncomputable def impl_same_Done_c : Code := bodyOf Try.f22
noncomputable def impl_same_Done_X : Sig := { f := 22, fn := Try.f22, rms := [.val [] []], oms := [none, none] }
noncomputable def impl_same_Done_R (r : Bool) : V := .b r
noncomputable def impl_same_Done_O (r : Bool) : List (Option V) := [none, none]
noncomputable def impl_same_Done_k1 : List Item := posI 2000 4 [false, false] [.code impl_same_Done_c]
noncomputable def impl_same_Done_S1 : St := ⟨(bs 26 []), [some []]⟩
noncomputable def impl_same_Done_k2 : Option Bool :=
  some true
theorem impl_same_Done_k2_ok (r : Bool) (h : impl_same_Done_k2 = some r) : Fin cx impl_same_Done_X (impl_same_Done_R r) (impl_same_Done_O r) impl_same_Done_k1 (impl_same_Done_S1) :=
  (someD h fun e => (Fin.fin (cx := cx) (X := impl_same_Done_X) (res := impl_same_Done_R true) (outs := impl_same_Done_O true) Try.func22 [[]] [] .nil (by kernel_rfl)).is (congrArg impl_same_Done_R e) (congrArg impl_same_Done_O e))
noncomputable def impl_same_Done_k3 : List Item := posI 2000 3 [false] [.code impl_same_Done_c]
noncomputable def impl_same_Done_S2 (a : List TDone) (b : List TDone) (v13 : Int) : St := ⟨(vsl 4 eDone a :: (vsl 4 eDone b :: (bs 10 (vi (a.length : Int) :: (vi v13 :: (bs 12 [])))))), [some []]⟩
noncomputable def impl_same_Done_b1 (a : List TDone) (b : List TDone) (v13 : Int) : Option (Stp Bool Int Unit) :=
  (bif decide (v13 < (a.length : Int)) then
 ((idx a v13).bind fun done =>
 ((idx b v13).bind fun done1 =>
 (bif (!(([done.Req.Who, done.Req.Seq, done.Code, done.Val] : List Int) == [done1.Req.Who, done1.Req.Seq, done1.Code, done1.Val])) then
 some (Stp.ret false)
 else
 some (Stp.nxt (w64 (v13 + 1))))))
 else
 some (Stp.brk ()))
theorem impl_same_Done_b1_ok (a : List TDone) (b : List TDone) (res : V) (outs : List (Option V)) (x1 : Exc Bool Unit) (hb1 : ∀ s : Unit, x1 = .brk s → Fin cx impl_same_Done_X res outs impl_same_Done_k1 (impl_same_Done_S1)) (hr1 : ∀ v : Bool, x1 = .ret v → (res = impl_same_Done_R v ∧ outs = impl_same_Done_O v)) (st1 : Stp Bool Int Unit) (hc1 : Cont x1 (fun s : Int => Fin cx impl_same_Done_X res outs impl_same_Done_k3 (impl_same_Done_S2 a b s)) st1) (v13 : Int) (h : impl_same_Done_b1 a b v13 = some st1) : Fin cx impl_same_Done_X res outs impl_same_Done_k3 (impl_same_Done_S2 a b v13) :=
  (condD h (fun e2 h =>
 (bindD h fun done hdone h =>
 (bindD h fun done1 hdone1 h =>
 (condD h (fun e3 h =>
 (retD h hc1 fun e => (Fin.fin (cx := cx) (X := impl_same_Done_X) (res := impl_same_Done_R false) (outs := impl_same_Done_O false) Try.func22 [[(0, { d := some true })], [], [(2, { a := .row (eDone done) }), (6, { a := .row (eDone done1) }), (8, { d := some true })], []] [decide (v13 < (a.length : Int)) = true, (0 : Int) ≤ v13, v13 < ((a.length : Nat) : Int), (a.map eDone)[v13.toNat]? = some (eDone done), (0 : Int) ≤ v13, v13 < ((b.length : Nat) : Int), (b.map eDone)[v13.toNat]? = some (eDone done1), (!(([done.Req.Who, done.Req.Seq, done.Code, done.Val] : List Int) == [done1.Req.Who, done1.Req.Seq, done1.Code, done1.Val])) = true] (.cons e2 (.cons (idx0 hdone) (.cons (idx1 hdone) (.cons (map_idx hdone) (.cons (idx0 hdone1) (.cons (idx1 hdone1) (.cons (map_idx hdone1) (.cons e3 .nil)))))))) (by kernel_rfl)).is (hr1 _ e).1 (hr1 _ e).2)) (fun e3 h =>
 (nxtD h hc1 fun hI => (Fin.seg [[(0, { d := some true })], [], [(2, { a := .row (eDone done) }), (6, { a := .row (eDone done1) }), (8, { d := some false })], []] [] [0, 1, 12, 13] [] [decide (v13 < (a.length : Int)) = true, (0 : Int) ≤ v13, v13 < ((a.length : Nat) : Int), (a.map eDone)[v13.toNat]? = some (eDone done), (0 : Int) ≤ v13, v13 < ((b.length : Nat) : Int), (b.map eDone)[v13.toNat]? = some (eDone done1), (!(([done.Req.Who, done.Req.Seq, done.Code, done.Val] : List Int) == [done1.Req.Who, done1.Req.Seq, done1.Code, done1.Val])) = false] (.cons e2 (.cons (idx0 hdone) (.cons (idx1 hdone) (.cons (map_idx hdone) (.cons (idx0 hdone1) (.cons (idx1 hdone1) (.cons (map_idx hdone1) (.cons e3 .nil)))))))) hI (by kernel_rfl)))))))) (fun e2 h =>
 (brkD h hc1 fun e => (Fin.seg [[(0, { d := some false })]] [] [] [] [decide (v13 < (a.length : Int)) = false] (.cons e2 .nil) (hb1 _ e) (by kernel_rfl)))))
theorem impl_same_Done_b1_loop (a : List TDone) (b : List TDone) (res : V) (outs : List (Option V)) (x1 : Exc Bool Unit) (hb1 : ∀ s : Unit, x1 = .brk s → Fin cx impl_same_Done_X res outs impl_same_Done_k1 (impl_same_Done_S1)) (hr1 : ∀ v : Bool, x1 = .ret v → (res = impl_same_Done_R v ∧ outs = impl_same_Done_O v)) (s : Int) (h : loop (fun s : Int => impl_same_Done_b1 a b s) s = some x1) : Fin cx impl_same_Done_X res outs impl_same_Done_k3 (impl_same_Done_S2 a b s) :=
  loopD (I := fun s : Int => Fin cx impl_same_Done_X res outs impl_same_Done_k3 (impl_same_Done_S2 a b s)) h fun s st h hc => impl_same_Done_b1_ok a b res outs x1 hb1 hr1 st hc s h
noncomputable def impl_same_Done (a : List TDone) (b : List TDone) : Option Bool :=
  (bif ((a.length : Int) != (b.length : Int)) then
 some false
 else
 ((loop (fun s : Int => impl_same_Done_b1 a b s) 0).bind fun x => x.go (fun r => some r) fun s => impl_same_Done_k2))
theorem impl_same_Done_fin (a : List TDone) (b : List TDone) (r : Bool) (h : impl_same_Done a b = some r) : Fin cx impl_same_Done_X (impl_same_Done_R r) (impl_same_Done_O r) [.code impl_same_Done_c] (startS impl_same_Done_X [vsl 4 eDone a, vsl 4 eDone b]) :=
  (condD h (fun e1 h =>
 (someD h fun e => (Fin.fin (cx := cx) (X := impl_same_Done_X) (res := impl_same_Done_R false) (outs := impl_same_Done_O false) Try.func22 [[], [(4, { d := some true })], []] [((a.length : Int) != (b.length : Int)) = true] (.cons e1 .nil) (by kernel_rfl)).is (congrArg impl_same_Done_R e) (congrArg impl_same_Done_O e))) (fun e1 h =>
 (loopJ h fun x hl hr hb => (Fin.seg [[], [(4, { d := some false })], []] [] [0, 1, 12, 13] [] [((a.length : Int) != (b.length : Int)) = false] (.cons e1 .nil) (impl_same_Done_b1_loop a b _ _ x (fun s e => impl_same_Done_k2_ok r (hb s e)) (fun v e => ⟨congrArg impl_same_Done_R (Option.some.inj (hr v e)).symm, congrArg impl_same_Done_O (Option.some.inj (hr v e)).symm⟩) 0 hl) (by kernel_rfl)))))
theorem impl_same_Done_ok (a : List TDone) (b : List TDone) (r : Bool) (h : impl_same_Done a b = some r) : ACalls cx.P 22 [vsl 4 eDone a, vsl 4 eDone b] (impl_same_Done_R r) (impl_same_Done_O r) :=
  ACalls.of (cx := cx) (X := impl_same_Done_X) (c := impl_same_Done_c) Try.func22 (by kernel_rfl) (by kernel_rfl) (by kernel_rfl) (impl_same_Done_fin a b r h)

/-! ### impl_CertSame -/
noncomputable def impl_CertSame_c : Code := bodyOf Try.f11
noncomputable def impl_CertSame_X : Sig := { f := 11, fn := Try.f11, rms := [.val [] []], oms := [none, none] }
noncomputable def impl_CertSame_R (r : Bool) : V := .b r
noncomputable def impl_CertSame_O (r : Bool) : List (Option V) := [none, none]
noncomputable def impl_CertSame (a : TState) (b : TState) : Option Bool :=
  (bif (a.At == b.At) then
 ((impl_BoxSame a.Boxes b.Boxes).bind fun boxSame =>
 (bif boxSame then
 ((impl_same_Done a.Dones b.Dones).bind fun done =>
 some done)
 else
 some false))
 else
 some false)
theorem impl_CertSame_fin (a : TState) (b : TState) (r : Bool) (h : impl_CertSame a b = some r) : Fin cx impl_CertSame_X (impl_CertSame_R r) (impl_CertSame_O r) [.code impl_CertSame_c] (startS impl_CertSame_X [.agg (eState a), .agg (eState b)]) :=
  (condD h (fun e1 h =>
 (bindD h fun boxSame hboxSame h =>
 (condD h (fun e2 h =>
 (bindD h fun done hdone h =>
 (someD h fun e => (Fin.fin (cx := cx) (X := impl_CertSame_X) (res := impl_CertSame_R done) (outs := impl_CertSame_O done) Try.func11 [[], [(5, { d := some true }), (10, { a := .call [.val [some 2] [], .val [some 2] []] false (impl_BoxSame_R boxSame) (impl_BoxSame_O boxSame) }), (12, { d := some true }), (17, { a := .call [.val [some 4] [], .val [some 4] []] false (impl_same_Done_R done) (impl_same_Done_O done) })]] [(a.At == b.At) = true, ACalls cx.P 21 [vsl 2 eBox a.Boxes, vsl 2 eBox b.Boxes] (impl_BoxSame_R boxSame) (impl_BoxSame_O boxSame), boxSame = true, ACalls cx.P 22 [vsl 4 eDone a.Dones, vsl 4 eDone b.Dones] (impl_same_Done_R done) (impl_same_Done_O done)] (.cons e1 (.cons (impl_BoxSame_ok a.Boxes b.Boxes boxSame hboxSame) (.cons e2 (.cons (impl_same_Done_ok a.Dones b.Dones done hdone) .nil)))) (by kernel_rfl)).is (congrArg impl_CertSame_R e) (congrArg impl_CertSame_O e)))) (fun e2 h =>
 (someD h fun e => (Fin.fin (cx := cx) (X := impl_CertSame_X) (res := impl_CertSame_R false) (outs := impl_CertSame_O false) Try.func11 [[], [(5, { d := some true }), (10, { a := .call [.val [some 2] [], .val [some 2] []] false (impl_BoxSame_R boxSame) (impl_BoxSame_O boxSame) }), (12, { d := some false })]] [(a.At == b.At) = true, ACalls cx.P 21 [vsl 2 eBox a.Boxes, vsl 2 eBox b.Boxes] (impl_BoxSame_R boxSame) (impl_BoxSame_O boxSame), boxSame = false] (.cons e1 (.cons (impl_BoxSame_ok a.Boxes b.Boxes boxSame hboxSame) (.cons e2 .nil))) (by kernel_rfl)).is (congrArg impl_CertSame_R e) (congrArg impl_CertSame_O e)))))) (fun e1 h =>
 (someD h fun e => (Fin.fin (cx := cx) (X := impl_CertSame_X) (res := impl_CertSame_R false) (outs := impl_CertSame_O false) Try.func11 [[], [(5, { d := some false })]] [(a.At == b.At) = false] (.cons e1 .nil) (by kernel_rfl)).is (congrArg impl_CertSame_R e) (congrArg impl_CertSame_O e))))
theorem impl_CertSame_ok (a : TState) (b : TState) (r : Bool) (h : impl_CertSame a b = some r) : ACalls cx.P 11 [.agg (eState a), .agg (eState b)] (impl_CertSame_R r) (impl_CertSame_O r) :=
  ACalls.of (cx := cx) (X := impl_CertSame_X) (c := impl_CertSame_c) Try.func11 (by kernel_rfl) (by kernel_rfl) (by kernel_rfl) (impl_CertSame_fin a b r h)

/-! ### laws_FnHist -/
noncomputable def laws_FnHist_c : Code := bodyOf Try.f3
noncomputable def laws_FnHist_X : Sig := { f := 3, fn := Try.f3, rms := [.val [] []], oms := [none] }
noncomputable def laws_FnHist_R (r : Bool) : V := .b r
noncomputable def laws_FnHist_O (r : Bool) : List (Option V) := [none]
noncomputable def laws_FnHist_k1 : List Item := posI 2000 9 [false, false, false] [.code laws_FnHist_c]
noncomputable def laws_FnHist_S1 (drawHistSwap : (List TEntry) × Int) (histSwap : Bool) : St := ⟨(bs 3 (vsl 7 eEntry drawHistSwap.1 :: (vi drawHistSwap.2 :: (.b histSwap :: (bs 137 []))))), [some []]⟩
noncomputable def laws_FnHist_k2 : List Item := posI 2000 19 [false, false, false, false, false] [.code laws_FnHist_c]
noncomputable def laws_FnHist_S2 (certFold : TState) (certFold1 : TState) : St := ⟨(bs 10 (.ptr 1 0 0 :: (.ptr 2 0 0 :: (bs 131 [])))), [some [], some [.var 42 [vi certFold.At, vsl 2 eBox certFold.Boxes, vsl 4 eDone certFold.Dones]], some [.var 42 [vi certFold1.At, vsl 2 eBox certFold1.Boxes, vsl 4 eDone certFold1.Dones]]]⟩
noncomputable def laws_FnHist_k3 (certFold : TState) (certFold1 : TState) : Option Bool :=
  ((impl_CertSame certFold certFold1).bind fun certSame =>
 some certSame)
theorem laws_FnHist_k3_ok (certFold : TState) (certFold1 : TState) (r : Bool) (h : laws_FnHist_k3 certFold certFold1 = some r) : Fin cx laws_FnHist_X (laws_FnHist_R r) (laws_FnHist_O r) laws_FnHist_k2 (laws_FnHist_S2 certFold certFold1) :=
  (bindD h fun certSame hcertSame h =>
 (someD h fun e => (Fin.fin (cx := cx) (X := laws_FnHist_X) (res := laws_FnHist_R certSame) (outs := laws_FnHist_O certSame) Try.func3 [[(2, { a := .call [.val [none, some 2, some 4] [], .val [none, some 2, some 4] []] false (impl_CertSame_R certSame) (impl_CertSame_O certSame) })]] [ACalls cx.P 11 [.agg (eState certFold), .agg (eState certFold1)] (impl_CertSame_R certSame) (impl_CertSame_O certSame)] (.cons (impl_CertSame_ok certFold certFold1 certSame hcertSame) .nil) (by kernel_rfl)).is (congrArg laws_FnHist_R e) (congrArg laws_FnHist_O e)))
noncomputable def laws_FnHist_k4 : List Item := posI 2000 18 [false, false, false, false] [.code laws_FnHist_c]
noncomputable def laws_FnHist_S3 (certFold : TState) (certFold1 : TState) (histCounts : List Int) (histCounts1 : List Int) (i1 : Int) : St := ⟨(bs 10 (.ptr 1 0 0 :: (.ptr 2 0 0 :: (vsl 1 eI histCounts :: (vsl 1 eI histCounts1 :: (vi i1 :: (bs 128 []))))))), [some [], some [.var 42 [vi certFold.At, vsl 2 eBox certFold.Boxes, vsl 4 eDone certFold.Dones]], some [.var 42 [vi certFold1.At, vsl 2 eBox certFold1.Boxes, vsl 4 eDone certFold1.Dones]]]⟩
noncomputable def laws_FnHist_b1 (histCounts : List Int) (histCounts1 : List Int) (i1 : Int) : Option (Stp Bool Int Unit) :=
  (bif decide (i1 < (histCounts.length : Int)) then
 ((idx histCounts i1).bind fun y =>
 ((idx histCounts1 i1).bind fun y1 =>
 (bif (y != y1) then
 some (Stp.ret false)
 else
 some (Stp.nxt (w64 (i1 + 1))))))
 else
 some (Stp.brk ()))
theorem laws_FnHist_b1_ok (certFold : TState) (certFold1 : TState) (histCounts : List Int) (histCounts1 : List Int) (res : V) (outs : List (Option V)) (x1 : Exc Bool Unit) (hb1 : ∀ s : Unit, x1 = .brk s → Fin cx laws_FnHist_X res outs laws_FnHist_k2 (laws_FnHist_S2 certFold certFold1)) (hr1 : ∀ v : Bool, x1 = .ret v → (res = laws_FnHist_R v ∧ outs = laws_FnHist_O v)) (st1 : Stp Bool Int Unit) (hc1 : Cont x1 (fun s : Int => Fin cx laws_FnHist_X res outs laws_FnHist_k4 (laws_FnHist_S3 certFold certFold1 histCounts histCounts1 s)) st1) (i1 : Int) (h : laws_FnHist_b1 histCounts histCounts1 i1 = some st1) : Fin cx laws_FnHist_X res outs laws_FnHist_k4 (laws_FnHist_S3 certFold certFold1 histCounts histCounts1 i1) :=
  (condD h (fun e6 h =>
 (bindD h fun y hy h =>
 (bindD h fun y1 hy1 h =>
 (condD h (fun e7 h =>
 (retD h hc1 fun e => (Fin.fin (cx := cx) (X := laws_FnHist_X) (res := laws_FnHist_R false) (outs := laws_FnHist_O false) Try.func3 [[(3, { d := some true })], [(2, { a := .row (eI y) }), (6, { a := .row (eI y1) }), (8, { d := some true })], []] [decide (i1 < (histCounts.length : Int)) = true, (0 : Int) ≤ i1, i1 < ((histCounts.length : Nat) : Int), (histCounts.map eI)[i1.toNat]? = some (eI y), (0 : Int) ≤ i1, i1 < ((histCounts1.length : Nat) : Int), (histCounts1.map eI)[i1.toNat]? = some (eI y1), (y != y1) = true] (.cons e6 (.cons (idx0 hy) (.cons (idx1 hy) (.cons (map_idx hy) (.cons (idx0 hy1) (.cons (idx1 hy1) (.cons (map_idx hy1) (.cons e7 .nil)))))))) (by kernel_rfl)).is (hr1 _ e).1 (hr1 _ e).2)) (fun e7 h =>
 (nxtD h hc1 fun hI => (Fin.seg [[(3, { d := some true })], [(2, { a := .row (eI y) }), (6, { a := .row (eI y1) }), (8, { d := some false })], []] [] [10, 11, 12, 13, 14] [(1, 0), (2, 0)] [decide (i1 < (histCounts.length : Int)) = true, (0 : Int) ≤ i1, i1 < ((histCounts.length : Nat) : Int), (histCounts.map eI)[i1.toNat]? = some (eI y), (0 : Int) ≤ i1, i1 < ((histCounts1.length : Nat) : Int), (histCounts1.map eI)[i1.toNat]? = some (eI y1), (y != y1) = false] (.cons e6 (.cons (idx0 hy) (.cons (idx1 hy) (.cons (map_idx hy) (.cons (idx0 hy1) (.cons (idx1 hy1) (.cons (map_idx hy1) (.cons e7 .nil)))))))) hI (by kernel_rfl)))))))) (fun e6 h =>
 (brkD h hc1 fun e => (Fin.seg [[(3, { d := some false })]] [] [10, 11] [(1, 0), (2, 0)] [decide (i1 < (histCounts.length : Int)) = false] (.cons e6 .nil) (hb1 _ e) (by kernel_rfl)))))
theorem laws_FnHist_b1_loop (certFold : TState) (certFold1 : TState) (histCounts : List Int) (histCounts1 : List Int) (res : V) (outs : List (Option V)) (x1 : Exc Bool Unit) (hb1 : ∀ s : Unit, x1 = .brk s → Fin cx laws_FnHist_X res outs laws_FnHist_k2 (laws_FnHist_S2 certFold certFold1)) (hr1 : ∀ v : Bool, x1 = .ret v → (res = laws_FnHist_R v ∧ outs = laws_FnHist_O v)) (s : Int) (h : loop (fun s : Int => laws_FnHist_b1 histCounts histCounts1 s) s = some x1) : Fin cx laws_FnHist_X res outs laws_FnHist_k4 (laws_FnHist_S3 certFold certFold1 histCounts histCounts1 s) :=
  loopD (I := fun s : Int => Fin cx laws_FnHist_X res outs laws_FnHist_k4 (laws_FnHist_S3 certFold certFold1 histCounts histCounts1 s)) h fun s st h hc => laws_FnHist_b1_ok certFold certFold1 histCounts histCounts1 res outs x1 hb1 hr1 st hc s h
noncomputable def laws_FnHist_k5 (drawHistSwap : (List TEntry) × Int) (histSwap : Bool) : Option Bool :=
  (bif (!histSwap) then
 some true
 else
 (need ((([] : List TEntry).length + drawHistSwap.1.length) * 88 ≤ 140737488355328)
 (((idx drawHistSwap.1 (w64 (drawHistSwap.2 + 1))).bind fun entry =>
 ((idx (([] : List TEntry) ++ drawHistSwap.1) drawHistSwap.2).bind fun entry1 =>
 ((idx drawHistSwap.1 drawHistSwap.2).bind fun entry2 =>
 ((idx ((([] : List TEntry) ++ drawHistSwap.1).set drawHistSwap.2.toNat entry) (w64 (drawHistSwap.2 + 1))).bind fun entry3 =>
 ((impl_CertFold drawHistSwap.1).bind fun certFold =>
 ((impl_CertFold (((([] : List TEntry) ++ drawHistSwap.1).set drawHistSwap.2.toNat entry).set (w64 (drawHistSwap.2 + 1)).toNat entry2)).bind fun certFold1 =>
 ((impl_HistCounts drawHistSwap.1).bind fun histCounts =>
 ((impl_HistCounts (((([] : List TEntry) ++ drawHistSwap.1).set drawHistSwap.2.toNat entry).set (w64 (drawHistSwap.2 + 1)).toNat entry2)).bind fun histCounts1 =>
 ((loop (fun s : Int => laws_FnHist_b1 histCounts histCounts1 s) 0).bind fun x => x.go (fun r => some r) fun s => laws_FnHist_k3 certFold certFold1))))))))))))
theorem laws_FnHist_k5_ok (drawHistSwap : (List TEntry) × Int) (histSwap : Bool) (r : Bool) (h : laws_FnHist_k5 drawHistSwap histSwap = some r) : Fin cx laws_FnHist_X (laws_FnHist_R r) (laws_FnHist_O r) laws_FnHist_k1 (laws_FnHist_S1 drawHistSwap histSwap) :=
  (condD h (fun e4 h =>
 (someD h fun e => (Fin.fin (cx := cx) (X := laws_FnHist_X) (res := laws_FnHist_R true) (outs := laws_FnHist_O true) Try.func3 [[(1, { d := some true })], []] [(!histSwap) = true] (.cons e4 .nil) (by kernel_rfl)).is (congrArg laws_FnHist_R e) (congrArg laws_FnHist_O e))) (fun e4 h =>
 (needD h fun e5 h =>
 (bindD h fun entry hentry h =>
 (bindD h fun entry1 hentry1 h =>
 (bindD h fun entry2 hentry2 h =>
 (bindD h fun entry3 hentry3 h =>
 (bindD h fun certFold hcertFold h =>
 (bindD h fun certFold1 hcertFold1 h =>
 (bindD h fun histCounts hhistCounts h =>
 (bindD h fun histCounts1 hhistCounts1 h =>
 (loopJ h fun x hl hr hb => (Fin.seg [[(1, { d := some false })], [(0, { a := .ck [none, none, none, some 2, some 2, none, none] }), (2, { v := some (.own 5 0 7 0 (([] : List TEntry) ++ drawHistSwap.1).length), e := some (erow 38 7 eEntry (([] : List TEntry) ++ drawHistSwap.1)) })], [(5, { a := .row (eEntry entry) }), (8, { a := .rowck (eEntry entry1) [none, none, none, some 2, some 2, none, none], e := some (erow 38 7 eEntry ((([] : List TEntry) ++ drawHistSwap.1).set drawHistSwap.2.toNat entry)) })], [(5, { a := .row (eEntry entry2) }), (8, { a := .rowck (eEntry entry3) [none, none, none, some 2, some 2, none, none], e := some (erow 38 7 eEntry (((([] : List TEntry) ++ drawHistSwap.1).set drawHistSwap.2.toNat entry).set (w64 (drawHistSwap.2 + 1)).toNat entry2)) })], [(1, { a := .call [.val [some 7] []] false (impl_CertFold_R certFold) (impl_CertFold_O certFold) })], [(1, { a := .call [.val [some 7] []] false (impl_CertFold_R certFold1) (impl_CertFold_O certFold1) })], [(1, { a := .call [.val [some 7] []] false (impl_HistCounts_R histCounts) (impl_HistCounts_O histCounts) })], [(1, { a := .call [.val [some 7] []] false (impl_HistCounts_R histCounts1) (impl_HistCounts_O histCounts1) })], []] [] [10, 11, 12, 13, 14] [(27, 0), (31, 0)] [(!histSwap) = false, V.own 5 0 7 0 (([] : List TEntry).length + drawHistSwap.1.length) = .own 5 0 7 0 (([] : List TEntry) ++ drawHistSwap.1).length, Ent.row 38 7 (([] : List TEntry).length + drawHistSwap.1.length) (([] : List TEntry).map eEntry ++ drawHistSwap.1.map eEntry) = erow 38 7 eEntry (([] : List TEntry) ++ drawHistSwap.1), 0 = ([] : List TEntry).length, (([] : List TEntry).length + drawHistSwap.1.length) * 88 ≤ 140737488355328, (0 : Int) ≤ (w64 (drawHistSwap.2 + 1)), (w64 (drawHistSwap.2 + 1)) < ((drawHistSwap.1.length : Nat) : Int), (drawHistSwap.1.map eEntry)[(w64 (drawHistSwap.2 + 1)).toNat]? = some (eEntry entry), (0 : Int) ≤ drawHistSwap.2, drawHistSwap.2 < (((([] : List TEntry) ++ drawHistSwap.1).length : Nat) : Int), Ent.row 38 7 (([] : List TEntry) ++ drawHistSwap.1).length (((([] : List TEntry) ++ drawHistSwap.1).map eEntry).set (0 + drawHistSwap.2.toNat) [.b entry.None, vi entry.Req.Who, vi entry.Req.Seq, vsl 2 eRead entry.Run.Reads, vsl 2 ePut entry.Run.Puts, vi entry.Run.Val, vi entry.Run.Code]) = erow 38 7 eEntry ((([] : List TEntry) ++ drawHistSwap.1).set drawHistSwap.2.toNat entry), ((([] : List TEntry) ++ drawHistSwap.1).map eEntry)[0 + drawHistSwap.2.toNat]? = some (eEntry entry1), (0 : Int) ≤ drawHistSwap.2, drawHistSwap.2 < ((drawHistSwap.1.length : Nat) : Int), (drawHistSwap.1.map eEntry)[drawHistSwap.2.toNat]? = some (eEntry entry2), (0 : Int) ≤ (w64 (drawHistSwap.2 + 1)), (w64 (drawHistSwap.2 + 1)) < (((([] : List TEntry) ++ drawHistSwap.1).length : Nat) : Int), Ent.row 38 7 ((([] : List TEntry) ++ drawHistSwap.1).set drawHistSwap.2.toNat entry).length ((((([] : List TEntry) ++ drawHistSwap.1).set drawHistSwap.2.toNat entry).map eEntry).set (0 + (w64 (drawHistSwap.2 + 1)).toNat) [.b entry2.None, vi entry2.Req.Who, vi entry2.Req.Seq, vsl 2 eRead entry2.Run.Reads, vsl 2 ePut entry2.Run.Puts, vi entry2.Run.Val, vi entry2.Run.Code]) = erow 38 7 eEntry (((([] : List TEntry) ++ drawHistSwap.1).set drawHistSwap.2.toNat entry).set (w64 (drawHistSwap.2 + 1)).toNat entry2), (((([] : List TEntry) ++ drawHistSwap.1).set drawHistSwap.2.toNat entry).map eEntry)[0 + (w64 (drawHistSwap.2 + 1)).toNat]? = some (eEntry entry3), ACalls cx.P 9 [vsl 7 eEntry drawHistSwap.1] (impl_CertFold_R certFold) (impl_CertFold_O certFold), ACalls cx.P 9 [vsl 7 eEntry (((([] : List TEntry) ++ drawHistSwap.1).set drawHistSwap.2.toNat entry).set (w64 (drawHistSwap.2 + 1)).toNat entry2)] (impl_CertFold_R certFold1) (impl_CertFold_O certFold1), (([] : List TEntry) ++ drawHistSwap.1).length = (((([] : List TEntry) ++ drawHistSwap.1).set drawHistSwap.2.toNat entry).set (w64 (drawHistSwap.2 + 1)).toNat entry2).length, ACalls cx.P 10 [vsl 7 eEntry drawHistSwap.1] (impl_HistCounts_R histCounts) (impl_HistCounts_O histCounts), ACalls cx.P 10 [vsl 7 eEntry (((([] : List TEntry) ++ drawHistSwap.1).set drawHistSwap.2.toNat entry).set (w64 (drawHistSwap.2 + 1)).toNat entry2)] (impl_HistCounts_R histCounts1) (impl_HistCounts_O histCounts1), (([] : List TEntry) ++ drawHistSwap.1).length = (((([] : List TEntry) ++ drawHistSwap.1).set drawHistSwap.2.toNat entry).set (w64 (drawHistSwap.2 + 1)).toNat entry2).length] (.cons e4 (.cons (by first | exact congrArg (V.own 5 0 7 0) List.length_append.symm | simp) (.cons (by first | exact row_apps rfl rfl | simp [erow]) (.cons (by rfl) (.cons e5 (.cons (idx0 hentry) (.cons (idx1 hentry) (.cons (map_idx hentry) (.cons (idx0 hentry1) (.cons (idx1 hentry1) (.cons (row_set rfl) (.cons (map_idx0 hentry1) (.cons (idx0 hentry2) (.cons (idx1 hentry2) (.cons (map_idx hentry2) (.cons (idx0 hentry3) (.cons (by simpa using idx1 hentry3) (.cons (row_set rfl) (.cons (map_idx0 hentry3) (.cons (impl_CertFold_ok drawHistSwap.1 certFold hcertFold) (.cons (impl_CertFold_ok (((([] : List TEntry) ++ drawHistSwap.1).set drawHistSwap.2.toNat entry).set (w64 (drawHistSwap.2 + 1)).toNat entry2) certFold1 hcertFold1) (.cons (by simp) (.cons (impl_HistCounts_ok drawHistSwap.1 histCounts hhistCounts) (.cons (impl_HistCounts_ok (((([] : List TEntry) ++ drawHistSwap.1).set drawHistSwap.2.toNat entry).set (w64 (drawHistSwap.2 + 1)).toNat entry2) histCounts1 hhistCounts1) (.cons (by simp) .nil))))))))))))))))))))))))) (laws_FnHist_b1_loop certFold certFold1 histCounts histCounts1 _ _ x (fun s e => laws_FnHist_k3_ok certFold certFold1 r (hb s e)) (fun v e => ⟨congrArg laws_FnHist_R (Option.some.inj (hr v e)).symm, congrArg laws_FnHist_O (Option.some.inj (hr v e)).symm⟩) 0 hl) (by kernel_rfl))))))))))))))
noncomputable def laws_FnHist_k6 : List Item := posI 2000 8 [false, false] [.code laws_FnHist_c]
noncomputable def laws_FnHist_S4 (drawHistSwap : (List TEntry) × Int) (histSwap : Bool) (histClashes : List TClash) (histClashes1 : List TClash) (i : Int) : St := ⟨(bs 3 (vsl 7 eEntry drawHistSwap.1 :: (vi drawHistSwap.2 :: (.b histSwap :: (vsl 3 eClash histClashes :: (vsl 3 eClash histClashes1 :: (vi i :: (bs 134 [])))))))), [some []]⟩
noncomputable def laws_FnHist_b2 (drawHistSwap : (List TEntry) × Int) (histClashes : List TClash) (histClashes1 : List TClash) (i : Int) : Option (Stp Bool Int Unit) :=
  (bif decide (i < (histClashes.length : Int)) then
 ((idx histClashes i).bind fun clash =>
 ((idx histClashes1 i).bind fun clash1 =>
 (bif (!(([clash.First, clash.Last, clash.Box] : List Int) == [clash1.First, clash1.Last, clash1.Box])) then
 some (Stp.ret false)
 else
 (bif decide (clash.First ≥ clash.Last) then
 some (Stp.ret false)
 else
 (bif decide (clash.Last ≥ (drawHistSwap.1.length : Int)) then
 some (Stp.ret false)
 else
 (bif decide (clash.Box < 0) then
 some (Stp.ret false)
 else
 (bif decide (clash.Box ≥ 4) then
 some (Stp.ret false)
 else
 some (Stp.nxt (w64 (i + 1))))))))))
 else
 some (Stp.brk ()))
theorem laws_FnHist_b2_ok (drawHistSwap : (List TEntry) × Int) (histSwap : Bool) (histClashes : List TClash) (histClashes1 : List TClash) (res : V) (outs : List (Option V)) (x1 : Exc Bool Unit) (hb1 : ∀ s : Unit, x1 = .brk s → Fin cx laws_FnHist_X res outs laws_FnHist_k1 (laws_FnHist_S1 drawHistSwap histSwap)) (hr1 : ∀ v : Bool, x1 = .ret v → (res = laws_FnHist_R v ∧ outs = laws_FnHist_O v)) (st1 : Stp Bool Int Unit) (hc1 : Cont x1 (fun s : Int => Fin cx laws_FnHist_X res outs laws_FnHist_k6 (laws_FnHist_S4 drawHistSwap histSwap histClashes histClashes1 s)) st1) (i : Int) (h : laws_FnHist_b2 drawHistSwap histClashes histClashes1 i = some st1) : Fin cx laws_FnHist_X res outs laws_FnHist_k6 (laws_FnHist_S4 drawHistSwap histSwap histClashes histClashes1 i) :=
  (condD h (fun e8 h =>
 (bindD h fun clash hclash h =>
 (bindD h fun clash1 hclash1 h =>
 (condD h (fun e9 h =>
 (retD h hc1 fun e => (Fin.fin (cx := cx) (X := laws_FnHist_X) (res := laws_FnHist_R false) (outs := laws_FnHist_O false) Try.func3 [[(3, { d := some true })], [(2, { a := .row (eClash clash) }), (6, { a := .row (eClash clash1) }), (9, { d := some true })], []] [decide (i < (histClashes.length : Int)) = true, (0 : Int) ≤ i, i < ((histClashes.length : Nat) : Int), (histClashes.map eClash)[i.toNat]? = some (eClash clash), (0 : Int) ≤ i, i < ((histClashes1.length : Nat) : Int), (histClashes1.map eClash)[i.toNat]? = some (eClash clash1), (!(([clash.First, clash.Last, clash.Box] : List Int) == [clash1.First, clash1.Last, clash1.Box])) = true] (.cons e8 (.cons (idx0 hclash) (.cons (idx1 hclash) (.cons (map_idx hclash) (.cons (idx0 hclash1) (.cons (idx1 hclash1) (.cons (map_idx hclash1) (.cons e9 .nil)))))))) (by kernel_rfl)).is (hr1 _ e).1 (hr1 _ e).2)) (fun e9 h =>
 (condD h (fun e10 h =>
 (retD h hc1 fun e => (Fin.fin (cx := cx) (X := laws_FnHist_X) (res := laws_FnHist_R false) (outs := laws_FnHist_O false) Try.func3 [[(3, { d := some true })], [(2, { a := .row (eClash clash) }), (6, { a := .row (eClash clash1) }), (9, { d := some false }), (12, { a := .row (eClash clash) }), (17, { a := .row (eClash clash) }), (22, { d := some true })], []] [decide (i < (histClashes.length : Int)) = true, (0 : Int) ≤ i, i < ((histClashes.length : Nat) : Int), (histClashes.map eClash)[i.toNat]? = some (eClash clash), (0 : Int) ≤ i, i < ((histClashes1.length : Nat) : Int), (histClashes1.map eClash)[i.toNat]? = some (eClash clash1), (!(([clash.First, clash.Last, clash.Box] : List Int) == [clash1.First, clash1.Last, clash1.Box])) = false, (0 : Int) ≤ i, i < ((histClashes.length : Nat) : Int), (histClashes.map eClash)[i.toNat]? = some (eClash clash), (0 : Int) ≤ i, i < ((histClashes.length : Nat) : Int), (histClashes.map eClash)[i.toNat]? = some (eClash clash), decide (clash.First ≥ clash.Last) = true] (.cons e8 (.cons (idx0 hclash) (.cons (idx1 hclash) (.cons (map_idx hclash) (.cons (idx0 hclash1) (.cons (idx1 hclash1) (.cons (map_idx hclash1) (.cons e9 (.cons (idx0 hclash) (.cons (idx1 hclash) (.cons (map_idx hclash) (.cons (idx0 hclash) (.cons (idx1 hclash) (.cons (map_idx hclash) (.cons e10 .nil))))))))))))))) (by kernel_rfl)).is (hr1 _ e).1 (hr1 _ e).2)) (fun e10 h =>
 (condD h (fun e11 h =>
 (retD h hc1 fun e => (Fin.fin (cx := cx) (X := laws_FnHist_X) (res := laws_FnHist_R false) (outs := laws_FnHist_O false) Try.func3 [[(3, { d := some true })], [(2, { a := .row (eClash clash) }), (6, { a := .row (eClash clash1) }), (9, { d := some false }), (12, { a := .row (eClash clash) }), (17, { a := .row (eClash clash) }), (22, { d := some false }), (25, { a := .row (eClash clash) }), (32, { d := some true })], []] [decide (i < (histClashes.length : Int)) = true, (0 : Int) ≤ i, i < ((histClashes.length : Nat) : Int), (histClashes.map eClash)[i.toNat]? = some (eClash clash), (0 : Int) ≤ i, i < ((histClashes1.length : Nat) : Int), (histClashes1.map eClash)[i.toNat]? = some (eClash clash1), (!(([clash.First, clash.Last, clash.Box] : List Int) == [clash1.First, clash1.Last, clash1.Box])) = false, (0 : Int) ≤ i, i < ((histClashes.length : Nat) : Int), (histClashes.map eClash)[i.toNat]? = some (eClash clash), (0 : Int) ≤ i, i < ((histClashes.length : Nat) : Int), (histClashes.map eClash)[i.toNat]? = some (eClash clash), decide (clash.First ≥ clash.Last) = false, (0 : Int) ≤ i, i < ((histClashes.length : Nat) : Int), (histClashes.map eClash)[i.toNat]? = some (eClash clash), decide (clash.Last ≥ (drawHistSwap.1.length : Int)) = true] (.cons e8 (.cons (idx0 hclash) (.cons (idx1 hclash) (.cons (map_idx hclash) (.cons (idx0 hclash1) (.cons (idx1 hclash1) (.cons (map_idx hclash1) (.cons e9 (.cons (idx0 hclash) (.cons (idx1 hclash) (.cons (map_idx hclash) (.cons (idx0 hclash) (.cons (idx1 hclash) (.cons (map_idx hclash) (.cons e10 (.cons (idx0 hclash) (.cons (idx1 hclash) (.cons (map_idx hclash) (.cons e11 .nil))))))))))))))))))) (by kernel_rfl)).is (hr1 _ e).1 (hr1 _ e).2)) (fun e11 h =>
 (condD h (fun e12 h =>
 (retD h hc1 fun e => (Fin.fin (cx := cx) (X := laws_FnHist_X) (res := laws_FnHist_R false) (outs := laws_FnHist_O false) Try.func3 [[(3, { d := some true })], [(2, { a := .row (eClash clash) }), (6, { a := .row (eClash clash1) }), (9, { d := some false }), (12, { a := .row (eClash clash) }), (17, { a := .row (eClash clash) }), (22, { d := some false }), (25, { a := .row (eClash clash) }), (32, { d := some false }), (35, { a := .row (eClash clash) }), (40, { d := some true })], []] [decide (i < (histClashes.length : Int)) = true, (0 : Int) ≤ i, i < ((histClashes.length : Nat) : Int), (histClashes.map eClash)[i.toNat]? = some (eClash clash), (0 : Int) ≤ i, i < ((histClashes1.length : Nat) : Int), (histClashes1.map eClash)[i.toNat]? = some (eClash clash1), (!(([clash.First, clash.Last, clash.Box] : List Int) == [clash1.First, clash1.Last, clash1.Box])) = false, (0 : Int) ≤ i, i < ((histClashes.length : Nat) : Int), (histClashes.map eClash)[i.toNat]? = some (eClash clash), (0 : Int) ≤ i, i < ((histClashes.length : Nat) : Int), (histClashes.map eClash)[i.toNat]? = some (eClash clash), decide (clash.First ≥ clash.Last) = false, (0 : Int) ≤ i, i < ((histClashes.length : Nat) : Int), (histClashes.map eClash)[i.toNat]? = some (eClash clash), decide (clash.Last ≥ (drawHistSwap.1.length : Int)) = false, (0 : Int) ≤ i, i < ((histClashes.length : Nat) : Int), (histClashes.map eClash)[i.toNat]? = some (eClash clash), decide (clash.Box < 0) = true] (.cons e8 (.cons (idx0 hclash) (.cons (idx1 hclash) (.cons (map_idx hclash) (.cons (idx0 hclash1) (.cons (idx1 hclash1) (.cons (map_idx hclash1) (.cons e9 (.cons (idx0 hclash) (.cons (idx1 hclash) (.cons (map_idx hclash) (.cons (idx0 hclash) (.cons (idx1 hclash) (.cons (map_idx hclash) (.cons e10 (.cons (idx0 hclash) (.cons (idx1 hclash) (.cons (map_idx hclash) (.cons e11 (.cons (idx0 hclash) (.cons (idx1 hclash) (.cons (map_idx hclash) (.cons e12 .nil))))))))))))))))))))))) (by kernel_rfl)).is (hr1 _ e).1 (hr1 _ e).2)) (fun e12 h =>
 (condD h (fun e13 h =>
 (retD h hc1 fun e => (Fin.fin (cx := cx) (X := laws_FnHist_X) (res := laws_FnHist_R false) (outs := laws_FnHist_O false) Try.func3 [[(3, { d := some true })], [(2, { a := .row (eClash clash) }), (6, { a := .row (eClash clash1) }), (9, { d := some false }), (12, { a := .row (eClash clash) }), (17, { a := .row (eClash clash) }), (22, { d := some false }), (25, { a := .row (eClash clash) }), (32, { d := some false }), (35, { a := .row (eClash clash) }), (40, { d := some false }), (43, { a := .row (eClash clash) }), (47, { d := some true })], []] [decide (i < (histClashes.length : Int)) = true, (0 : Int) ≤ i, i < ((histClashes.length : Nat) : Int), (histClashes.map eClash)[i.toNat]? = some (eClash clash), (0 : Int) ≤ i, i < ((histClashes1.length : Nat) : Int), (histClashes1.map eClash)[i.toNat]? = some (eClash clash1), (!(([clash.First, clash.Last, clash.Box] : List Int) == [clash1.First, clash1.Last, clash1.Box])) = false, (0 : Int) ≤ i, i < ((histClashes.length : Nat) : Int), (histClashes.map eClash)[i.toNat]? = some (eClash clash), (0 : Int) ≤ i, i < ((histClashes.length : Nat) : Int), (histClashes.map eClash)[i.toNat]? = some (eClash clash), decide (clash.First ≥ clash.Last) = false, (0 : Int) ≤ i, i < ((histClashes.length : Nat) : Int), (histClashes.map eClash)[i.toNat]? = some (eClash clash), decide (clash.Last ≥ (drawHistSwap.1.length : Int)) = false, (0 : Int) ≤ i, i < ((histClashes.length : Nat) : Int), (histClashes.map eClash)[i.toNat]? = some (eClash clash), decide (clash.Box < 0) = false, (0 : Int) ≤ i, i < ((histClashes.length : Nat) : Int), (histClashes.map eClash)[i.toNat]? = some (eClash clash), decide (clash.Box ≥ 4) = true] (.cons e8 (.cons (idx0 hclash) (.cons (idx1 hclash) (.cons (map_idx hclash) (.cons (idx0 hclash1) (.cons (idx1 hclash1) (.cons (map_idx hclash1) (.cons e9 (.cons (idx0 hclash) (.cons (idx1 hclash) (.cons (map_idx hclash) (.cons (idx0 hclash) (.cons (idx1 hclash) (.cons (map_idx hclash) (.cons e10 (.cons (idx0 hclash) (.cons (idx1 hclash) (.cons (map_idx hclash) (.cons e11 (.cons (idx0 hclash) (.cons (idx1 hclash) (.cons (map_idx hclash) (.cons e12 (.cons (idx0 hclash) (.cons (idx1 hclash) (.cons (map_idx hclash) (.cons e13 .nil))))))))))))))))))))))))))) (by kernel_rfl)).is (hr1 _ e).1 (hr1 _ e).2)) (fun e13 h =>
 (nxtD h hc1 fun hI => (Fin.seg [[(3, { d := some true })], [(2, { a := .row (eClash clash) }), (6, { a := .row (eClash clash1) }), (9, { d := some false }), (12, { a := .row (eClash clash) }), (17, { a := .row (eClash clash) }), (22, { d := some false }), (25, { a := .row (eClash clash) }), (32, { d := some false }), (35, { a := .row (eClash clash) }), (40, { d := some false }), (43, { a := .row (eClash clash) }), (47, { d := some false })], []] [] [3, 4, 5, 6, 7, 8] [] [decide (i < (histClashes.length : Int)) = true, (0 : Int) ≤ i, i < ((histClashes.length : Nat) : Int), (histClashes.map eClash)[i.toNat]? = some (eClash clash), (0 : Int) ≤ i, i < ((histClashes1.length : Nat) : Int), (histClashes1.map eClash)[i.toNat]? = some (eClash clash1), (!(([clash.First, clash.Last, clash.Box] : List Int) == [clash1.First, clash1.Last, clash1.Box])) = false, (0 : Int) ≤ i, i < ((histClashes.length : Nat) : Int), (histClashes.map eClash)[i.toNat]? = some (eClash clash), (0 : Int) ≤ i, i < ((histClashes.length : Nat) : Int), (histClashes.map eClash)[i.toNat]? = some (eClash clash), decide (clash.First ≥ clash.Last) = false, (0 : Int) ≤ i, i < ((histClashes.length : Nat) : Int), (histClashes.map eClash)[i.toNat]? = some (eClash clash), decide (clash.Last ≥ (drawHistSwap.1.length : Int)) = false, (0 : Int) ≤ i, i < ((histClashes.length : Nat) : Int), (histClashes.map eClash)[i.toNat]? = some (eClash clash), decide (clash.Box < 0) = false, (0 : Int) ≤ i, i < ((histClashes.length : Nat) : Int), (histClashes.map eClash)[i.toNat]? = some (eClash clash), decide (clash.Box ≥ 4) = false] (.cons e8 (.cons (idx0 hclash) (.cons (idx1 hclash) (.cons (map_idx hclash) (.cons (idx0 hclash1) (.cons (idx1 hclash1) (.cons (map_idx hclash1) (.cons e9 (.cons (idx0 hclash) (.cons (idx1 hclash) (.cons (map_idx hclash) (.cons (idx0 hclash) (.cons (idx1 hclash) (.cons (map_idx hclash) (.cons e10 (.cons (idx0 hclash) (.cons (idx1 hclash) (.cons (map_idx hclash) (.cons e11 (.cons (idx0 hclash) (.cons (idx1 hclash) (.cons (map_idx hclash) (.cons e12 (.cons (idx0 hclash) (.cons (idx1 hclash) (.cons (map_idx hclash) (.cons e13 .nil))))))))))))))))))))))))))) hI (by kernel_rfl)))))))))))))))) (fun e8 h =>
 (brkD h hc1 fun e => (Fin.seg [[(3, { d := some false })]] [] [3, 4, 5] [] [decide (i < (histClashes.length : Int)) = false] (.cons e8 .nil) (hb1 _ e) (by kernel_rfl)))))
theorem laws_FnHist_b2_loop (drawHistSwap : (List TEntry) × Int) (histSwap : Bool) (histClashes : List TClash) (histClashes1 : List TClash) (res : V) (outs : List (Option V)) (x1 : Exc Bool Unit) (hb1 : ∀ s : Unit, x1 = .brk s → Fin cx laws_FnHist_X res outs laws_FnHist_k1 (laws_FnHist_S1 drawHistSwap histSwap)) (hr1 : ∀ v : Bool, x1 = .ret v → (res = laws_FnHist_R v ∧ outs = laws_FnHist_O v)) (s : Int) (h : loop (fun s : Int => laws_FnHist_b2 drawHistSwap histClashes histClashes1 s) s = some x1) : Fin cx laws_FnHist_X res outs laws_FnHist_k6 (laws_FnHist_S4 drawHistSwap histSwap histClashes histClashes1 s) :=
  loopD (I := fun s : Int => Fin cx laws_FnHist_X res outs laws_FnHist_k6 (laws_FnHist_S4 drawHistSwap histSwap histClashes histClashes1 s)) h fun s st h hc => laws_FnHist_b2_ok drawHistSwap histSwap histClashes histClashes1 res outs x1 hb1 hr1 st hc s h
noncomputable def laws_FnHist (code : List Int) : Option Bool :=
  (bif decide ((code.length : Int) > 1048576) then
 some true
 else
 ((spec_DrawHistSwap code).bind fun drawHistSwap =>
 ((impl_HistSwap drawHistSwap.1 drawHistSwap.2).bind fun histSwap =>
 ((impl_HistClashes drawHistSwap.1).bind fun histClashes =>
 ((spec_HistClashes drawHistSwap.1).bind fun histClashes1 =>
 ((spec_HistSwap drawHistSwap.1 drawHistSwap.2).bind fun histSwap1 =>
 (bif (!(histSwap == histSwap1)) then
 some false
 else
 (bif ((histClashes.length : Int) != (histClashes1.length : Int)) then
 some false
 else
 ((loop (fun s : Int => laws_FnHist_b2 drawHistSwap histClashes histClashes1 s) 0).bind fun x => x.go (fun r => some r) fun s => laws_FnHist_k5 drawHistSwap histSwap)))))))))
theorem laws_FnHist_fin (code : List Int) (r : Bool) (h : laws_FnHist code = some r) : Fin cx laws_FnHist_X (laws_FnHist_R r) (laws_FnHist_O r) [.code laws_FnHist_c] (startS laws_FnHist_X [vsl 1 eU8 code]) :=
  (condD h (fun e1 h =>
 (someD h fun e => (Fin.fin (cx := cx) (X := laws_FnHist_X) (res := laws_FnHist_R true) (outs := laws_FnHist_O true) Try.func3 [[], [(2, { d := some true })], []] [decide ((code.length : Int) > 1048576) = true] (.cons e1 .nil) (by kernel_rfl)).is (congrArg laws_FnHist_R e) (congrArg laws_FnHist_O e))) (fun e1 h =>
 (bindD h fun drawHistSwap hdrawHistSwap h =>
 (bindD h fun histSwap hhistSwap h =>
 (bindD h fun histClashes hhistClashes h =>
 (bindD h fun histClashes1 hhistClashes1 h =>
 (bindD h fun histSwap1 hhistSwap1 h =>
 (condD h (fun e2 h =>
 (someD h fun e => (Fin.fin (cx := cx) (X := laws_FnHist_X) (res := laws_FnHist_R false) (outs := laws_FnHist_O false) Try.func3 [[], [(2, { d := some false })], [(1, { a := .call [.val [some 1] []] false (spec_DrawHistSwap_R drawHistSwap) (spec_DrawHistSwap_O drawHistSwap) })], [(2, { a := .call [.val [some 7] [], .val [] []] false (impl_HistSwap_R histSwap) (impl_HistSwap_O histSwap) })], [(1, { a := .call [.val [some 7] []] false (impl_HistClashes_R histClashes) (impl_HistClashes_O histClashes) })], [(1, { a := .call [.val [some 7] []] false (spec_HistClashes_R histClashes1) (spec_HistClashes_O histClashes1) })], [(3, { a := .call [.val [some 7] [], .val [] []] false (spec_HistSwap_R histSwap1) (spec_HistSwap_O histSwap1) }), (5, { d := some true })], []] [decide ((code.length : Int) > 1048576) = false, ACalls cx.P 4 [vsl 1 eU8 code] (spec_DrawHistSwap_R drawHistSwap) (spec_DrawHistSwap_O drawHistSwap), ACalls cx.P 5 [vsl 7 eEntry drawHistSwap.1, vi drawHistSwap.2] (impl_HistSwap_R histSwap) (impl_HistSwap_O histSwap), ACalls cx.P 6 [vsl 7 eEntry drawHistSwap.1] (impl_HistClashes_R histClashes) (impl_HistClashes_O histClashes), ACalls cx.P 7 [vsl 7 eEntry drawHistSwap.1] (spec_HistClashes_R histClashes1) (spec_HistClashes_O histClashes1), ACalls cx.P 8 [vsl 7 eEntry drawHistSwap.1, vi drawHistSwap.2] (spec_HistSwap_R histSwap1) (spec_HistSwap_O histSwap1), (!(histSwap == histSwap1)) = true] (.cons e1 (.cons (spec_DrawHistSwap_ok code drawHistSwap hdrawHistSwap) (.cons (impl_HistSwap_ok drawHistSwap.1 drawHistSwap.2 histSwap hhistSwap) (.cons (impl_HistClashes_ok drawHistSwap.1 histClashes hhistClashes) (.cons (spec_HistClashes_ok drawHistSwap.1 histClashes1 hhistClashes1) (.cons (spec_HistSwap_ok drawHistSwap.1 drawHistSwap.2 histSwap1 hhistSwap1) (.cons e2 .nil))))))) (by kernel_rfl)).is (congrArg laws_FnHist_R e) (congrArg laws_FnHist_O e))) (fun e2 h =>
 (condD h (fun e3 h =>
 (someD h fun e => (Fin.fin (cx := cx) (X := laws_FnHist_X) (res := laws_FnHist_R false) (outs := laws_FnHist_O false) Try.func3 [[], [(2, { d := some false })], [(1, { a := .call [.val [some 1] []] false (spec_DrawHistSwap_R drawHistSwap) (spec_DrawHistSwap_O drawHistSwap) })], [(2, { a := .call [.val [some 7] [], .val [] []] false (impl_HistSwap_R histSwap) (impl_HistSwap_O histSwap) })], [(1, { a := .call [.val [some 7] []] false (impl_HistClashes_R histClashes) (impl_HistClashes_O histClashes) })], [(1, { a := .call [.val [some 7] []] false (spec_HistClashes_R histClashes1) (spec_HistClashes_O histClashes1) })], [(3, { a := .call [.val [some 7] [], .val [] []] false (spec_HistSwap_R histSwap1) (spec_HistSwap_O histSwap1) }), (5, { d := some false }), (11, { d := some true })], []] [decide ((code.length : Int) > 1048576) = false, ACalls cx.P 4 [vsl 1 eU8 code] (spec_DrawHistSwap_R drawHistSwap) (spec_DrawHistSwap_O drawHistSwap), ACalls cx.P 5 [vsl 7 eEntry drawHistSwap.1, vi drawHistSwap.2] (impl_HistSwap_R histSwap) (impl_HistSwap_O histSwap), ACalls cx.P 6 [vsl 7 eEntry drawHistSwap.1] (impl_HistClashes_R histClashes) (impl_HistClashes_O histClashes), ACalls cx.P 7 [vsl 7 eEntry drawHistSwap.1] (spec_HistClashes_R histClashes1) (spec_HistClashes_O histClashes1), ACalls cx.P 8 [vsl 7 eEntry drawHistSwap.1, vi drawHistSwap.2] (spec_HistSwap_R histSwap1) (spec_HistSwap_O histSwap1), (!(histSwap == histSwap1)) = false, ((histClashes.length : Int) != (histClashes1.length : Int)) = true] (.cons e1 (.cons (spec_DrawHistSwap_ok code drawHistSwap hdrawHistSwap) (.cons (impl_HistSwap_ok drawHistSwap.1 drawHistSwap.2 histSwap hhistSwap) (.cons (impl_HistClashes_ok drawHistSwap.1 histClashes hhistClashes) (.cons (spec_HistClashes_ok drawHistSwap.1 histClashes1 hhistClashes1) (.cons (spec_HistSwap_ok drawHistSwap.1 drawHistSwap.2 histSwap1 hhistSwap1) (.cons e2 (.cons e3 .nil)))))))) (by kernel_rfl)).is (congrArg laws_FnHist_R e) (congrArg laws_FnHist_O e))) (fun e3 h =>
 (loopJ h fun x hl hr hb => (Fin.seg [[], [(2, { d := some false })], [(1, { a := .call [.val [some 1] []] false (spec_DrawHistSwap_R drawHistSwap) (spec_DrawHistSwap_O drawHistSwap) })], [(2, { a := .call [.val [some 7] [], .val [] []] false (impl_HistSwap_R histSwap) (impl_HistSwap_O histSwap) })], [(1, { a := .call [.val [some 7] []] false (impl_HistClashes_R histClashes) (impl_HistClashes_O histClashes) })], [(1, { a := .call [.val [some 7] []] false (spec_HistClashes_R histClashes1) (spec_HistClashes_O histClashes1) })], [(3, { a := .call [.val [some 7] [], .val [] []] false (spec_HistSwap_R histSwap1) (spec_HistSwap_O histSwap1) }), (5, { d := some false }), (11, { d := some false })], []] [] [3, 4, 5, 6, 7, 8] [] [decide ((code.length : Int) > 1048576) = false, ACalls cx.P 4 [vsl 1 eU8 code] (spec_DrawHistSwap_R drawHistSwap) (spec_DrawHistSwap_O drawHistSwap), ACalls cx.P 5 [vsl 7 eEntry drawHistSwap.1, vi drawHistSwap.2] (impl_HistSwap_R histSwap) (impl_HistSwap_O histSwap), ACalls cx.P 6 [vsl 7 eEntry drawHistSwap.1] (impl_HistClashes_R histClashes) (impl_HistClashes_O histClashes), ACalls cx.P 7 [vsl 7 eEntry drawHistSwap.1] (spec_HistClashes_R histClashes1) (spec_HistClashes_O histClashes1), ACalls cx.P 8 [vsl 7 eEntry drawHistSwap.1, vi drawHistSwap.2] (spec_HistSwap_R histSwap1) (spec_HistSwap_O histSwap1), (!(histSwap == histSwap1)) = false, ((histClashes.length : Int) != (histClashes1.length : Int)) = false] (.cons e1 (.cons (spec_DrawHistSwap_ok code drawHistSwap hdrawHistSwap) (.cons (impl_HistSwap_ok drawHistSwap.1 drawHistSwap.2 histSwap hhistSwap) (.cons (impl_HistClashes_ok drawHistSwap.1 histClashes hhistClashes) (.cons (spec_HistClashes_ok drawHistSwap.1 histClashes1 hhistClashes1) (.cons (spec_HistSwap_ok drawHistSwap.1 drawHistSwap.2 histSwap1 hhistSwap1) (.cons e2 (.cons e3 .nil)))))))) (laws_FnHist_b2_loop drawHistSwap histSwap histClashes histClashes1 _ _ x (fun s e => laws_FnHist_k5_ok drawHistSwap histSwap r (hb s e)) (fun v e => ⟨congrArg laws_FnHist_R (Option.some.inj (hr v e)).symm, congrArg laws_FnHist_O (Option.some.inj (hr v e)).symm⟩) 0 hl) (by kernel_rfl))))))))))))))
theorem laws_FnHist_ok (code : List Int) (r : Bool) (h : laws_FnHist code = some r) : ACalls cx.P 3 [vsl 1 eU8 code] (laws_FnHist_R r) (laws_FnHist_O r) :=
  ACalls.of (cx := cx) (X := laws_FnHist_X) (c := laws_FnHist_c) Try.func3 (by kernel_rfl) (by kernel_rfl) (by kernel_rfl) (laws_FnHist_fin code r h)


end Go.Proofs.Ytdagjdmehagefaa
