/- Functions of the program, and that their calls come to this. -/
import Derived.Test.YtoghkllkjjpgkaaF1
set_option linter.unusedVariables false
set_option linter.unusedSimpArgs false
namespace Go.Proofs.Ytoghkllkjjpgkaa
open Go

/-! ### spec_l5Put -/
noncomputable def spec_l5Put_c : Code := bodyOf Try.f38
noncomputable def spec_l5Put_X : Sig := { f := 38, fn := Try.f38, rms := [.val [some 4] []], oms := [none, none] }
noncomputable def spec_l5Put_R (r : List TDone) : V := vsl 4 eDone r
noncomputable def spec_l5Put_O (r : List TDone) : List (Option V) := [none, none]
noncomputable def spec_l5Put_k1 : List Item := posI 2000 5 [false] [.code spec_l5Put_c]
noncomputable def spec_l5Put_S1 (d : TDone) (out1 : List TDone) (in_1 : Bool) : St := ⟨(bs 3 (.ptr 1 0 0 :: (bs 1 (.own 2 0 4 0 out1.length :: (.b in_1 :: (bs 50 [])))))), [some [], some [.var 75 [vi d.Req.Who, vi d.Req.Seq, vi d.Code, vi d.Val]], some [erow 75 4 eDone out1]]⟩
noncomputable def spec_l5Put_k2 : List Item := posI 2000 7 [false, true] [.code spec_l5Put_c]
noncomputable def spec_l5Put_S2 (out2 : List TDone) : St := ⟨(bs 5 (.own 1 0 4 0 out2.length :: (bs 51 []))), [some [], some [erow 75 4 eDone out2]]⟩
noncomputable def spec_l5Put_j1 (out2 : List TDone) : Option (List TDone) :=
  some out2
theorem spec_l5Put_j1_ok (r : List TDone) (out2 : List TDone) (h : spec_l5Put_j1 out2 = some r) : Fin cx spec_l5Put_X (spec_l5Put_R r) (spec_l5Put_O r) spec_l5Put_k2 (spec_l5Put_S2 out2) :=
  (someD h fun e => (Fin.fin (cx := cx) (X := spec_l5Put_X) (res := spec_l5Put_R out2) (outs := spec_l5Put_O out2) Try.func38 [[]] [out2.length = out2.length] (.cons rfl .nil) (by kernel_rfl)).is (congrArg spec_l5Put_R e) (congrArg spec_l5Put_O e))
noncomputable def spec_l5Put_k3 (d : TDone) (out1 : List TDone) (in_1 : Bool) : Option (List TDone) :=
  (((bif (!in_1) then
 (need ((out1.length + 1) * 32 ≤ 140737488355328)
 (some (Exc.brk (out1 ++ [d]))))
 else
 some (Exc.brk out1)) : Option (Exc (List TDone) (List TDone))).bind fun x => x.go some fun j => spec_l5Put_j1 j)
theorem spec_l5Put_k3_ok (d : TDone) (r : List TDone) (out1 : List TDone) (in_1 : Bool) (h : spec_l5Put_k3 d out1 in_1 = some r) : Fin cx spec_l5Put_X (spec_l5Put_R r) (spec_l5Put_O r) spec_l5Put_k1 (spec_l5Put_S1 d out1 in_1) :=
  (joinD (I := fun j : List TDone => Fin cx spec_l5Put_X (spec_l5Put_R r) (spec_l5Put_O r) spec_l5Put_k2 (spec_l5Put_S2 j)) h (fun j h => spec_l5Put_j1_ok r j h) (fun x1 h hc1 =>
  (condD h (fun e1 h =>
 (needD h fun e2 h =>
 (jbrkD h hc1 fun hI => (Fin.seg [[(1, { d := some true })], [(2, { a := .ck [] }), (3, { v := some (.own 8 0 4 0 (out1 ++ [d]).length), e := some (erow 75 4 eDone (out1 ++ [d])) })]] [] [5] [(8, 0)] [(!in_1) = true, V.own 8 0 4 0 (out1.length + 1) = .own 8 0 4 0 (out1 ++ [d]).length, Ent.row 75 4 (out1.length + 1) (out1.map eDone ++ [eDone d]) = erow 75 4 eDone (out1 ++ [d]), out1.length = out1.length, (out1.length + 1) * 32 ≤ 140737488355328, 1 = [d].length] (.cons e1 (.cons (by first | exact congrArg (V.own 8 0 4 0) List.length_append.symm | simp) (.cons (row_app rfl) (.cons rfl (.cons e2 (.cons (by rfl) .nil)))))) hI (by kernel_rfl))))) (fun e1 h =>
 (jbrkD h hc1 fun hI => (Fin.seg [[(1, { d := some false })]] [] [5] [(2, 0)] [(!in_1) = false] (.cons e1 .nil) hI (by kernel_rfl)))))))
noncomputable def spec_l5Put_k4 : List Item := posI 2000 4 [] [.code spec_l5Put_c]
noncomputable def spec_l5Put_S3 (list : List TDone) (d : TDone) (out : List TDone) (in_ : Bool) (i : Int) : St := ⟨(vsl 4 eDone list :: (bs 2 (.ptr 1 0 0 :: (bs 1 (.own 2 0 4 0 out.length :: (.b in_ :: (vi i :: (bs 49 [])))))))), [some [], some [.var 75 [vi d.Req.Who, vi d.Req.Seq, vi d.Code, vi d.Val]], some [erow 75 4 eDone out]]⟩
noncomputable def spec_l5Put_k5 : List Item := posI 2000 8 [true, true] [.code spec_l5Put_c]
noncomputable def spec_l5Put_S4 (list : List TDone) (d : TDone) (i : Int) (out3 : List TDone) (in_2 : Bool) : St := ⟨(vsl 4 eDone list :: (bs 2 (.ptr 1 0 0 :: (bs 1 (.own 2 0 4 0 out3.length :: (.b in_2 :: (vi i :: (bs 49 [])))))))), [some [], some [.var 75 [vi d.Req.Who, vi d.Req.Seq, vi d.Code, vi d.Val]], some [erow 75 4 eDone out3]]⟩
noncomputable def spec_l5Put_k6 : List Item := posI 2000 10 [true, true, true] [.code spec_l5Put_c]
noncomputable def spec_l5Put_S5 (list : List TDone) (d : TDone) (i : Int) (in_2 : Bool) (out4 : List TDone) : St := ⟨(vsl 4 eDone list :: (bs 2 (.ptr 1 0 0 :: (bs 1 (.own 2 0 4 0 out4.length :: (.b in_2 :: (vi i :: (bs 49 [])))))))), [some [], some [.var 75 [vi d.Req.Who, vi d.Req.Seq, vi d.Code, vi d.Val]], some [erow 75 4 eDone out4]]⟩
noncomputable def spec_l5Put_j2 (i : Int) (in_2 : Bool) (out4 : List TDone) : Option (Stp (List TDone) ((List TDone) × Bool × Int) ((List TDone) × Bool)) :=
  some (Stp.nxt (out4, in_2, w64 (i + 1)))
theorem spec_l5Put_j2_ok (list : List TDone) (d : TDone) (i : Int) (in_2 : Bool) (res : V) (outs : List (Option V)) (x1 : Exc (List TDone) ((List TDone) × Bool)) (hb1 : ∀ s : (List TDone) × Bool, x1 = .brk s → Fin cx spec_l5Put_X res outs spec_l5Put_k1 (spec_l5Put_S1 d s.1 s.2)) (hr1 : ∀ v : List TDone, x1 = .ret v → (res = spec_l5Put_R v ∧ outs = spec_l5Put_O v)) (st1 : Stp (List TDone) ((List TDone) × Bool × Int) ((List TDone) × Bool)) (hc1 : Cont x1 (fun s : (List TDone) × Bool × Int => Fin cx spec_l5Put_X res outs spec_l5Put_k4 (spec_l5Put_S3 list d s.1 s.2.1 s.2.2)) st1) (out4 : List TDone) (h : spec_l5Put_j2 i in_2 out4 = some st1) : Fin cx spec_l5Put_X res outs spec_l5Put_k6 (spec_l5Put_S5 list d i in_2 out4) :=
  (nxtD h hc1 fun hI => (Fin.seg [[]] [] [0, 3, 5, 6, 7] [(1, 0), (2, 0)] [] .nil hI (by kernel_rfl)))
noncomputable def spec_l5Put_j3 (list : List TDone) (d : TDone) (i : Int) (out3 : List TDone) (in_2 : Bool) : Option (Stp (List TDone) ((List TDone) × Bool × Int) ((List TDone) × Bool)) :=
  ((((idx list i).bind fun done =>
 (bif (done.Req.Who != d.Req.Who) then
 (need ((out3.length + 1) * 32 ≤ 140737488355328)
 (some (Exc.brk (out3 ++ [done]))))
 else
 some (Exc.brk out3))) : Option (Exc (Stp (List TDone) ((List TDone) × Bool × Int) ((List TDone) × Bool)) (List TDone))).bind fun x => x.go some fun j => spec_l5Put_j2 i in_2 j)
theorem spec_l5Put_j3_ok (list : List TDone) (d : TDone) (i : Int) (res : V) (outs : List (Option V)) (x1 : Exc (List TDone) ((List TDone) × Bool)) (hb1 : ∀ s : (List TDone) × Bool, x1 = .brk s → Fin cx spec_l5Put_X res outs spec_l5Put_k1 (spec_l5Put_S1 d s.1 s.2)) (hr1 : ∀ v : List TDone, x1 = .ret v → (res = spec_l5Put_R v ∧ outs = spec_l5Put_O v)) (st1 : Stp (List TDone) ((List TDone) × Bool × Int) ((List TDone) × Bool)) (hc1 : Cont x1 (fun s : (List TDone) × Bool × Int => Fin cx spec_l5Put_X res outs spec_l5Put_k4 (spec_l5Put_S3 list d s.1 s.2.1 s.2.2)) st1) (out3 : List TDone) (in_2 : Bool) (h : spec_l5Put_j3 list d i out3 in_2 = some st1) : Fin cx spec_l5Put_X res outs spec_l5Put_k5 (spec_l5Put_S4 list d i out3 in_2) :=
  (joinD (I := fun j : List TDone => Fin cx spec_l5Put_X res outs spec_l5Put_k6 (spec_l5Put_S5 list d i in_2 j)) h (fun j h => spec_l5Put_j2_ok list d i in_2 res outs x1 hb1 hr1 st1 hc1 j h) (fun x2 h hc2 =>
  (bindD h fun done hdone h =>
 (condD h (fun e4 h =>
 (needD h fun e5 h =>
 (jbrkD h hc2 fun hI => (Fin.seg [[(2, { a := .row (eDone done) }), (9, { d := some true })], [(3, { a := .row (eDone done) }), (5, { a := .ck [] }), (6, { v := some (.own 19 0 4 0 (out3 ++ [done]).length), e := some (erow 75 4 eDone (out3 ++ [done])) })]] [] [0, 3, 5, 6, 7] [(1, 0), (19, 0)] [(0 : Int) ≤ i, i < ((list.length : Nat) : Int), (list.map eDone)[i.toNat]? = some (eDone done), (done.Req.Who != d.Req.Who) = true, (0 : Int) ≤ i, i < ((list.length : Nat) : Int), (list.map eDone)[i.toNat]? = some (eDone done), V.own 19 0 4 0 (out3.length + 1) = .own 19 0 4 0 (out3 ++ [done]).length, Ent.row 75 4 (out3.length + 1) (out3.map eDone ++ [eDone done]) = erow 75 4 eDone (out3 ++ [done]), out3.length = out3.length, (out3.length + 1) * 32 ≤ 140737488355328, 1 = [done].length] (.cons (idx0 hdone) (.cons (idx1 hdone) (.cons (map_idx hdone) (.cons e4 (.cons (idx0 hdone) (.cons (idx1 hdone) (.cons (map_idx hdone) (.cons (by first | exact congrArg (V.own 19 0 4 0) List.length_append.symm | simp) (.cons (row_app rfl) (.cons rfl (.cons e5 (.cons (by rfl) .nil)))))))))))) hI (by kernel_rfl))))) (fun e4 h =>
 (jbrkD h hc2 fun hI => (Fin.seg [[(2, { a := .row (eDone done) }), (9, { d := some false })]] [] [0, 3, 5, 6, 7] [(1, 0), (2, 0)] [(0 : Int) ≤ i, i < ((list.length : Nat) : Int), (list.map eDone)[i.toNat]? = some (eDone done), (done.Req.Who != d.Req.Who) = false] (.cons (idx0 hdone) (.cons (idx1 hdone) (.cons (map_idx hdone) (.cons e4 .nil)))) hI (by kernel_rfl))))))))
noncomputable def spec_l5Put_b1 (list : List TDone) (d : TDone) (out : List TDone) (in_ : Bool) (i : Int) : Option (Stp (List TDone) ((List TDone) × Bool × Int) ((List TDone) × Bool)) :=
  (bif decide (i < (list.length : Int)) then
 (((bif (!in_) then
 ((idx list i).bind fun done1 =>
 (bif decide (done1.Req.Who ≥ d.Req.Who) then
 (need ((out.length + 1) * 32 ≤ 140737488355328)
 (some (Exc.brk (out ++ [d], true))))
 else
 some (Exc.brk (out, in_))))
 else
 some (Exc.brk (out, in_))) : Option (Exc (Stp (List TDone) ((List TDone) × Bool × Int) ((List TDone) × Bool)) ((List TDone) × Bool))).bind fun x => x.go some fun j => spec_l5Put_j3 list d i j.1 j.2)
 else
 some (Stp.brk (out, in_)))
theorem spec_l5Put_b1_ok (list : List TDone) (d : TDone) (res : V) (outs : List (Option V)) (x1 : Exc (List TDone) ((List TDone) × Bool)) (hb1 : ∀ s : (List TDone) × Bool, x1 = .brk s → Fin cx spec_l5Put_X res outs spec_l5Put_k1 (spec_l5Put_S1 d s.1 s.2)) (hr1 : ∀ v : List TDone, x1 = .ret v → (res = spec_l5Put_R v ∧ outs = spec_l5Put_O v)) (st1 : Stp (List TDone) ((List TDone) × Bool × Int) ((List TDone) × Bool)) (hc1 : Cont x1 (fun s : (List TDone) × Bool × Int => Fin cx spec_l5Put_X res outs spec_l5Put_k4 (spec_l5Put_S3 list d s.1 s.2.1 s.2.2)) st1) (out : List TDone) (in_ : Bool) (i : Int) (h : spec_l5Put_b1 list d out in_ i = some st1) : Fin cx spec_l5Put_X res outs spec_l5Put_k4 (spec_l5Put_S3 list d out in_ i) :=
  (condD h (fun e3 h =>
 (joinD (I := fun j : (List TDone) × Bool => Fin cx spec_l5Put_X res outs spec_l5Put_k5 (spec_l5Put_S4 list d i j.1 j.2)) h (fun j h => spec_l5Put_j3_ok list d i res outs x1 hb1 hr1 st1 hc1 j.1 j.2 h) (fun x2 h hc2 =>
  (condD h (fun e6 h =>
 (bindD h fun done1 hdone1 h =>
 (condD h (fun e7 h =>
 (needD h fun e8 h =>
 (jbrkD h hc2 fun hI => (Fin.seg [[(3, { d := some true })], [(2, { d := some true }), (5, { a := .row (eDone done1) }), (13, { d := some true })], [(2, { a := .ck [] }), (3, { v := some (.own 24 0 4 0 (out ++ [d]).length), e := some (erow 75 4 eDone (out ++ [d])) })], []] [] [0, 3, 5, 6, 7] [(1, 0), (24, 0)] [decide (i < (list.length : Int)) = true, (!in_) = true, (0 : Int) ≤ i, i < ((list.length : Nat) : Int), (list.map eDone)[i.toNat]? = some (eDone done1), decide (done1.Req.Who ≥ d.Req.Who) = true, V.own 24 0 4 0 (out.length + 1) = .own 24 0 4 0 (out ++ [d]).length, Ent.row 75 4 (out.length + 1) (out.map eDone ++ [eDone d]) = erow 75 4 eDone (out ++ [d]), out.length = out.length, (out.length + 1) * 32 ≤ 140737488355328, 1 = [d].length] (.cons e3 (.cons e6 (.cons (idx0 hdone1) (.cons (idx1 hdone1) (.cons (map_idx hdone1) (.cons e7 (.cons (by first | exact congrArg (V.own 24 0 4 0) List.length_append.symm | simp) (.cons (row_app rfl) (.cons rfl (.cons e8 (.cons (by rfl) .nil))))))))))) hI (by kernel_rfl))))) (fun e7 h =>
 (jbrkD h hc2 fun hI => (Fin.seg [[(3, { d := some true })], [(2, { d := some true }), (5, { a := .row (eDone done1) }), (13, { d := some false })]] [] [0, 3, 5, 6, 7] [(1, 0), (2, 0)] [decide (i < (list.length : Int)) = true, (!in_) = true, (0 : Int) ≤ i, i < ((list.length : Nat) : Int), (list.map eDone)[i.toNat]? = some (eDone done1), decide (done1.Req.Who ≥ d.Req.Who) = false] (.cons e3 (.cons e6 (.cons (idx0 hdone1) (.cons (idx1 hdone1) (.cons (map_idx hdone1) (.cons e7 .nil)))))) hI (by kernel_rfl))))))) (fun e6 h =>
 (jbrkD h hc2 fun hI => (Fin.seg [[(3, { d := some true })], [(2, { d := some false })]] [] [0, 3, 5, 6, 7] [(1, 0), (2, 0)] [decide (i < (list.length : Int)) = true, (!in_) = false] (.cons e3 (.cons e6 .nil)) hI (by kernel_rfl)))))))) (fun e3 h =>
 (brkD h hc1 fun e => (Fin.seg [[(3, { d := some false })]] [] [3, 5, 6] [(1, 0), (2, 0)] [decide (i < (list.length : Int)) = false] (.cons e3 .nil) (hb1 _ e) (by kernel_rfl)))))
theorem spec_l5Put_b1_loop (list : List TDone) (d : TDone) (res : V) (outs : List (Option V)) (x1 : Exc (List TDone) ((List TDone) × Bool)) (hb1 : ∀ s : (List TDone) × Bool, x1 = .brk s → Fin cx spec_l5Put_X res outs spec_l5Put_k1 (spec_l5Put_S1 d s.1 s.2)) (hr1 : ∀ v : List TDone, x1 = .ret v → (res = spec_l5Put_R v ∧ outs = spec_l5Put_O v)) (s : (List TDone) × Bool × Int) (h : loop (fun s : (List TDone) × Bool × Int => spec_l5Put_b1 list d s.1 s.2.1 s.2.2) s = some x1) : Fin cx spec_l5Put_X res outs spec_l5Put_k4 (spec_l5Put_S3 list d s.1 s.2.1 s.2.2) :=
  loopD (I := fun s : (List TDone) × Bool × Int => Fin cx spec_l5Put_X res outs spec_l5Put_k4 (spec_l5Put_S3 list d s.1 s.2.1 s.2.2)) h fun s st h hc => spec_l5Put_b1_ok list d res outs x1 hb1 hr1 st hc s.1 s.2.1 s.2.2 h
noncomputable def spec_l5Put (list : List TDone) (d : TDone) : Option (List TDone) :=
  ((loop (fun s : (List TDone) × Bool × Int => spec_l5Put_b1 list d s.1 s.2.1 s.2.2) (([] : List TDone), false, 0)).bind fun x => x.go (fun r => some r) fun s => spec_l5Put_k3 d s.1 s.2)
theorem spec_l5Put_fin (list : List TDone) (d : TDone) (r : List TDone) (h : spec_l5Put list d = some r) : Fin cx spec_l5Put_X (spec_l5Put_R r) (spec_l5Put_O r) [.code spec_l5Put_c] (startS spec_l5Put_X [vsl 4 eDone list, .agg (eDone d)]) :=
  (loopJ h fun x hl hr hb => (Fin.seg [[], [(0, { a := .ck [] })], [], []] [.is (.tmp 5) (.own 3 0 4 0 ([] : List TDone).length)] [0, 3, 5, 6, 7] [(1, 0), (3, 0)] [(.own 3 0 4 0 0 : V) = .own 3 0 4 0 ([] : List TDone).length] (.cons (by simp) .nil) (spec_l5Put_b1_loop list d _ _ x (fun s e => spec_l5Put_k3_ok d r s.1 s.2 (hb s e)) (fun v e => ⟨congrArg spec_l5Put_R (Option.some.inj (hr v e)).symm, congrArg spec_l5Put_O (Option.some.inj (hr v e)).symm⟩) (([] : List TDone), false, 0) hl) (by kernel_rfl)))
theorem spec_l5Put_ok (list : List TDone) (d : TDone) (r : List TDone) (h : spec_l5Put list d = some r) : ACalls cx.P 38 [vsl 4 eDone list, .agg (eDone d)] (spec_l5Put_R r) (spec_l5Put_O r) :=
  ACalls.of (cx := cx) (X := spec_l5Put_X) (c := spec_l5Put_c) Try.func38 (by kernel_rfl) (by kernel_rfl) (by kernel_rfl) (spec_l5Put_fin list d r h)

/-! ### spec_l5Apply -/
noncomputable def spec_l5Apply_c : Code := bodyOf Try.f21
noncomputable def spec_l5Apply_X : Sig := { f := 21, fn := Try.f21, rms := [.val [none, some 2, some 4] [none, some 86, none], .val [] []], oms := [none, none] }
noncomputable def spec_l5Apply_R (r : TState × Int) : V := .tup [.agg [vi r.1.At, vosl 86 2 eBox r.1.Boxes, vsl 4 eDone r.1.Dones], vi r.2]
noncomputable def spec_l5Apply_O (r : TState × Int) : List (Option V) := [none, none]
noncomputable def spec_l5Apply_k1 : List Item := posI 2000 6 [false, false, false] [.code spec_l5Apply_c]
noncomputable def spec_l5Apply_S1 (s_ : TState) (e_ : TEntry) : St := ⟨(bs 2 (.ptr 1 0 0 :: (.ptr 2 0 0 :: (.ptr 3 0 0 :: (bs 78 []))))), [some [erow 86 2 eBox s_.Boxes], some [.var 53 [vi (w64 (s_.At + 1)), .own 0 0 2 0 s_.Boxes.length, vsl 4 eDone s_.Dones]], some [.var 48 [.b e_.None, vi e_.Req.Who, vi e_.Req.Seq, vsl 2 eRead e_.Run.Reads, vsl 2 ePut e_.Run.Puts, vi e_.Run.Val, vi e_.Run.Code]], some [.var 53 [vi 0, .nil, .nil]]]⟩
noncomputable def spec_l5Apply_k2 : List Item := posI 2000 9 [false, false, false, true] [.code spec_l5Apply_c]
noncomputable def spec_l5Apply_S2 (s_ : TState) (e_ : TEntry) (dCode : Int) : St := ⟨(bs 2 (.ptr 1 0 0 :: (.ptr 2 0 0 :: (.ptr 3 0 0 :: (bs 3 (.ptr 4 0 0 :: (bs 74 []))))))), [some [erow 86 2 eBox s_.Boxes], some [.var 53 [vi (w64 (s_.At + 1)), .own 0 0 2 0 s_.Boxes.length, vsl 4 eDone s_.Dones]], some [.var 48 [.b e_.None, vi e_.Req.Who, vi e_.Req.Seq, vsl 2 eRead e_.Run.Reads, vsl 2 ePut e_.Run.Puts, vi e_.Run.Val, vi e_.Run.Code]], some [.var 53 [vi 0, .nil, .nil]], some [.var 75 [vi e_.Req.Who, vi e_.Req.Seq, vi dCode, vi 0]]]⟩
noncomputable def spec_l5Apply_k3 : List Item := posI 2000 13 [false, false, false, true, true] [.code spec_l5Apply_c]
noncomputable def spec_l5Apply_S3 (s_ : TState) (d : TDone) (Boxes : List TBox) : St := ⟨(bs 2 (.ptr 1 0 0 :: (bs 1 (.ptr 3 0 0 :: (bs 3 (.ptr 4 0 0 :: (bs 74 []))))))), [some [.dead], some [.var 53 [vi (w64 (s_.At + 1)), .own 2 0 2 0 Boxes.length, vsl 4 eDone s_.Dones]], some [erow 86 2 eBox Boxes], some [.var 53 [vi 0, .nil, .nil]], some [.var 75 [vi d.Req.Who, vi d.Req.Seq, vi d.Code, vi d.Val]]]⟩
noncomputable def spec_l5Apply_j1 (s_ : TState) (d : TDone) (Boxes : List TBox) : Option (TState × Int) :=
  ((spec_l5Put s_.Dones d).bind fun l5Put =>
 some ((TState.mk (w64 (s_.At + 1)) Boxes l5Put), d.Code))
theorem spec_l5Apply_j1_ok (s_ : TState) (r : TState × Int) (d : TDone) (Boxes : List TBox) (h : spec_l5Apply_j1 s_ d Boxes = some r) : Fin cx spec_l5Apply_X (spec_l5Apply_R r) (spec_l5Apply_O r) spec_l5Apply_k3 (spec_l5Apply_S3 s_ d Boxes) :=
  (bindD h fun l5Put hl5Put h =>
 (someD h fun e => (Fin.fin (cx := cx) (X := spec_l5Apply_X) (res := spec_l5Apply_R ((TState.mk (w64 (s_.At + 1)) Boxes l5Put), d.Code)) (outs := spec_l5Apply_O ((TState.mk (w64 (s_.At + 1)) Boxes l5Put), d.Code)) Try.func21 [[(3, { a := .call [.val [some 4] [], .val [] []] false (spec_l5Put_R l5Put) (spec_l5Put_O l5Put) })], []] [ACalls cx.P 38 [vsl 4 eDone s_.Dones, .agg (eDone d)] (spec_l5Put_R l5Put) (spec_l5Put_O l5Put), Boxes.length = Boxes.length] (.cons (spec_l5Put_ok s_.Dones d l5Put hl5Put) (.cons rfl .nil)) (by kernel_rfl)).is (congrArg spec_l5Apply_R e) (congrArg spec_l5Apply_O e)))
noncomputable def spec_l5Apply_j2 (s_ : TState) (e_ : TEntry) (dCode : Int) : Option (TState × Int) :=
  (((bif (dCode == 2) then
 (bif (e_.Run.Code == 0) then
 ((spec_l3Do s_.Boxes e_.Run).bind fun l3Do =>
 some (Exc.brk ((TDone.mk e_.Req 0 e_.Run.Val), l3Do)))
 else
 some (Exc.brk ((TDone.mk e_.Req dCode 0), s_.Boxes)))
 else
 some (Exc.brk ((TDone.mk e_.Req dCode 0), s_.Boxes))) : Option (Exc (TState × Int) (TDone × List TBox))).bind fun x => x.go some fun j => spec_l5Apply_j1 s_ j.1 j.2)
theorem spec_l5Apply_j2_ok (s_ : TState) (e_ : TEntry) (r : TState × Int) (dCode : Int) (h : spec_l5Apply_j2 s_ e_ dCode = some r) : Fin cx spec_l5Apply_X (spec_l5Apply_R r) (spec_l5Apply_O r) spec_l5Apply_k2 (spec_l5Apply_S2 s_ e_ dCode) :=
  (joinD (I := fun j : TDone × List TBox => Fin cx spec_l5Apply_X (spec_l5Apply_R r) (spec_l5Apply_O r) spec_l5Apply_k3 (spec_l5Apply_S3 s_ j.1 j.2)) h (fun j h => spec_l5Apply_j1_ok s_ r j.1 j.2 h) (fun x1 h hc1 =>
  (condD h (fun e2 h =>
 (condD h (fun e3 h =>
 (bindD h fun l3Do hl3Do h =>
 (jbrkD h hc1 fun hI => (Fin.seg [[(3, { d := some true }), (8, { d := some true })], [], [], [(4, { a := .call [.val [some 2] [some 86], .val [some 2, some 2, none, none] []] false (spec_l3Do_R l3Do) (spec_l3Do_O l3Do) })]] [] [2, 4, 8] [(1, 0), (25, 0), (3, 0), (4, 0)] [(dCode == 2) = true, (e_.Run.Code == 0) = true, ACalls cx.P 37 [vosl 86 2 eBox s_.Boxes, .agg (eRun e_.Run)] (spec_l3Do_R l3Do) (spec_l3Do_O l3Do), s_.Boxes.length = s_.Boxes.length] (.cons e2 (.cons e3 (.cons (spec_l3Do_ok s_.Boxes e_.Run l3Do hl3Do) (.cons rfl .nil)))) hI (by kernel_rfl))))) (fun e3 h =>
 (jbrkD h hc1 fun hI => (Fin.seg [[(3, { d := some true }), (8, { d := some false })]] [] [2, 4, 8] [(1, 0), (0, 0), (3, 0), (4, 0)] [(dCode == 2) = true, (e_.Run.Code == 0) = false] (.cons e2 (.cons e3 .nil)) hI (by kernel_rfl)))))) (fun e2 h =>
 (jbrkD h hc1 fun hI => (Fin.seg [[(3, { d := some false })]] [] [2, 4, 8] [(1, 0), (0, 0), (3, 0), (4, 0)] [(dCode == 2) = false] (.cons e2 .nil) hI (by kernel_rfl)))))))
noncomputable def spec_l5Apply_j3 (s_ : TState) (e_ : TEntry) : Option (TState × Int) :=
  ((((spec_ExecFresh s_.Boxes e_.Run).bind fun execFresh =>
 (bif execFresh then
 some (Exc.brk 2)
 else
 some (Exc.brk 1))) : Option (Exc (TState × Int) Int)).bind fun x => x.go some fun j => spec_l5Apply_j2 s_ e_ j)
theorem spec_l5Apply_j3_ok (s_ : TState) (e_ : TEntry) (r : TState × Int) (h : spec_l5Apply_j3 s_ e_ = some r) : Fin cx spec_l5Apply_X (spec_l5Apply_R r) (spec_l5Apply_O r) spec_l5Apply_k1 (spec_l5Apply_S1 s_ e_) :=
  (joinD (I := fun j : Int => Fin cx spec_l5Apply_X (spec_l5Apply_R r) (spec_l5Apply_O r) spec_l5Apply_k2 (spec_l5Apply_S2 s_ e_ j)) h (fun j h => spec_l5Apply_j2_ok s_ e_ r j h) (fun x1 h hc1 =>
  (bindD h fun execFresh hexecFresh h =>
 (condD h (fun e4 h =>
 (jbrkD h hc1 fun hI => (Fin.seg [[], [(4, { a := .call [.val [some 2] [], .val [some 2, some 2, none, none] []] true (spec_ExecFresh_R execFresh) (spec_ExecFresh_O execFresh), d := some true })], []] [] [2, 3, 4, 8] [(1, 0), (2, 0), (3, 0), (7, 0)] [execFresh = true, ACalls cx.P 36 [vsl 2 eBox s_.Boxes, .agg (eRun e_.Run)] (spec_ExecFresh_R execFresh) (spec_ExecFresh_O execFresh), ScalR (spec_ExecFresh_R execFresh) ∧ ScalO (spec_ExecFresh_O execFresh), s_.Boxes.length = s_.Boxes.length] (.cons e4 (.cons (spec_ExecFresh_ok s_.Boxes e_.Run execFresh hexecFresh) (.cons ⟨rfl, scalO_none 2⟩ (.cons rfl .nil)))) hI (by kernel_rfl)))) (fun e4 h =>
 (jbrkD h hc1 fun hI => (Fin.seg [[], [(4, { a := .call [.val [some 2] [], .val [some 2, some 2, none, none] []] true (spec_ExecFresh_R execFresh) (spec_ExecFresh_O execFresh), d := some false })]] [] [2, 3, 4, 8] [(1, 0), (2, 0), (3, 0), (7, 0)] [execFresh = false, ACalls cx.P 36 [vsl 2 eBox s_.Boxes, .agg (eRun e_.Run)] (spec_ExecFresh_R execFresh) (spec_ExecFresh_O execFresh), ScalR (spec_ExecFresh_R execFresh) ∧ ScalO (spec_ExecFresh_O execFresh), s_.Boxes.length = s_.Boxes.length] (.cons e4 (.cons (spec_ExecFresh_ok s_.Boxes e_.Run execFresh hexecFresh) (.cons ⟨rfl, scalO_none 2⟩ (.cons rfl .nil)))) hI (by kernel_rfl))))))))
noncomputable def spec_l5Apply (s_ : TState) (e_ : TEntry) : Option (TState × Int) :=
  (bif e_.None then
 some ((TState.mk (w64 (s_.At + 1)) s_.Boxes s_.Dones), 5)
 else
 ((spec_l5Last (TState.mk (w64 (s_.At + 1)) s_.Boxes s_.Dones) e_.Req.Who).bind fun l5Last =>
 (((bif l5Last.2 then
 (bif (([l5Last.1.Req.Who, l5Last.1.Req.Seq] : List Int) == [e_.Req.Who, e_.Req.Seq]) then
 some (Exc.ret ((TState.mk (w64 (s_.At + 1)) s_.Boxes s_.Dones), 3))
 else
 (bif l5Last.2 then
 (bif decide (l5Last.1.Req.Seq > e_.Req.Seq) then
 some (Exc.ret ((TState.mk (w64 (s_.At + 1)) s_.Boxes s_.Dones), 4))
 else
 some (Exc.brk ()))
 else
 some (Exc.brk ())))
 else
 (bif l5Last.2 then
 (bif decide (l5Last.1.Req.Seq > e_.Req.Seq) then
 some (Exc.ret ((TState.mk (w64 (s_.At + 1)) s_.Boxes s_.Dones), 4))
 else
 some (Exc.brk ()))
 else
 some (Exc.brk ()))) : Option (Exc (TState × Int) Unit)).bind fun x => x.go some fun j => spec_l5Apply_j3 s_ e_)))
theorem spec_l5Apply_fin (s_ : TState) (e_ : TEntry) (r : TState × Int) (h : spec_l5Apply s_ e_ = some r) : Fin cx spec_l5Apply_X (spec_l5Apply_R r) (spec_l5Apply_O r) [.code spec_l5Apply_c] (startS spec_l5Apply_X [.agg [vi s_.At, vosl 86 2 eBox s_.Boxes, vsl 4 eDone s_.Dones], .agg (eEntry e_)]) :=
  (condD h (fun e1 h =>
 (someD h fun e => (Fin.fin (cx := cx) (X := spec_l5Apply_X) (res := spec_l5Apply_R ((TState.mk (w64 (s_.At + 1)) s_.Boxes s_.Dones), 5)) (outs := spec_l5Apply_O ((TState.mk (w64 (s_.At + 1)) s_.Boxes s_.Dones), 5)) Try.func21 [[], [], [(1, { d := some true })], []] [e_.None = true, s_.Boxes.length = s_.Boxes.length] (.cons e1 (.cons rfl .nil)) (by kernel_rfl)).is (congrArg spec_l5Apply_R e) (congrArg spec_l5Apply_O e))) (fun e1 h =>
 (bindD h fun l5Last hl5Last h =>
 (joinD (I := fun j : Unit => Fin cx spec_l5Apply_X (spec_l5Apply_R r) (spec_l5Apply_O r) spec_l5Apply_k1 (spec_l5Apply_S1 s_ e_)) h (fun j h => spec_l5Apply_j3_ok s_ e_ r h) (fun x1 h hc1 =>
  (condD h (fun e5 h =>
 (condD h (fun e6 h =>
 (jretD h hc1 fun h => (someD h fun e => (Fin.fin (cx := cx) (X := spec_l5Apply_X) (res := spec_l5Apply_R ((TState.mk (w64 (s_.At + 1)) s_.Boxes s_.Dones), 3)) (outs := spec_l5Apply_O ((TState.mk (w64 (s_.At + 1)) s_.Boxes s_.Dones), 3)) Try.func21 [[], [], [(1, { d := some false })], [(4, { a := .call [.val [none, some 2, some 4] [], .val [] []] true (spec_l5Last_R l5Last) (spec_l5Last_O l5Last) })], [(1, { d := some true }), (8, { d := some true })], []] [e_.None = false, ACalls cx.P 35 [.agg (eState (TState.mk (w64 (s_.At + 1)) s_.Boxes s_.Dones)), vi e_.Req.Who] (spec_l5Last_R l5Last) (spec_l5Last_O l5Last), ScalR (spec_l5Last_R l5Last) ∧ ScalO (spec_l5Last_O l5Last), s_.Boxes.length = s_.Boxes.length, l5Last.2 = true, (([l5Last.1.Req.Who, l5Last.1.Req.Seq] : List Int) == [e_.Req.Who, e_.Req.Seq]) = true, s_.Boxes.length = s_.Boxes.length] (.cons e1 (.cons (spec_l5Last_ok (TState.mk (w64 (s_.At + 1)) s_.Boxes s_.Dones) e_.Req.Who l5Last hl5Last) (.cons ⟨(by simp [spec_l5Last_R, ScalR, ScalA, ScalC, V.simple, vi, vosl, eB, eDone, eI, eReq]), scalO_none 2⟩ (.cons rfl (.cons e5 (.cons e6 (.cons rfl .nil))))))) (by kernel_rfl)).is (congrArg spec_l5Apply_R e) (congrArg spec_l5Apply_O e)))) (fun e6 h =>
 (condD h (fun e7 h =>
 (condD h (fun e8 h =>
 (jretD h hc1 fun h => (someD h fun e => (Fin.fin (cx := cx) (X := spec_l5Apply_X) (res := spec_l5Apply_R ((TState.mk (w64 (s_.At + 1)) s_.Boxes s_.Dones), 4)) (outs := spec_l5Apply_O ((TState.mk (w64 (s_.At + 1)) s_.Boxes s_.Dones), 4)) Try.func21 [[], [], [(1, { d := some false })], [(4, { a := .call [.val [none, some 2, some 4] [], .val [] []] true (spec_l5Last_R l5Last) (spec_l5Last_O l5Last) })], [(1, { d := some true }), (8, { d := some false })], [(1, { d := some true }), (10, { d := some true })], []] [e_.None = false, ACalls cx.P 35 [.agg (eState (TState.mk (w64 (s_.At + 1)) s_.Boxes s_.Dones)), vi e_.Req.Who] (spec_l5Last_R l5Last) (spec_l5Last_O l5Last), ScalR (spec_l5Last_R l5Last) ∧ ScalO (spec_l5Last_O l5Last), s_.Boxes.length = s_.Boxes.length, l5Last.2 = true, (([l5Last.1.Req.Who, l5Last.1.Req.Seq] : List Int) == [e_.Req.Who, e_.Req.Seq]) = false, l5Last.2 = true, decide (l5Last.1.Req.Seq > e_.Req.Seq) = true, s_.Boxes.length = s_.Boxes.length] (.cons e1 (.cons (spec_l5Last_ok (TState.mk (w64 (s_.At + 1)) s_.Boxes s_.Dones) e_.Req.Who l5Last hl5Last) (.cons ⟨(by simp [spec_l5Last_R, ScalR, ScalA, ScalC, V.simple, vi, vosl, eB, eDone, eI, eReq]), scalO_none 2⟩ (.cons rfl (.cons e5 (.cons e6 (.cons e7 (.cons e8 (.cons rfl .nil))))))))) (by kernel_rfl)).is (congrArg spec_l5Apply_R e) (congrArg spec_l5Apply_O e)))) (fun e8 h =>
 (jbrkD h hc1 fun hI => (Fin.seg [[], [], [(1, { d := some false })], [(4, { a := .call [.val [none, some 2, some 4] [], .val [] []] true (spec_l5Last_R l5Last) (spec_l5Last_O l5Last) })], [(1, { d := some true }), (8, { d := some false })], [(1, { d := some true }), (10, { d := some false })]] [] [2, 3, 4] [(1, 0), (2, 0), (3, 0)] [e_.None = false, ACalls cx.P 35 [.agg (eState (TState.mk (w64 (s_.At + 1)) s_.Boxes s_.Dones)), vi e_.Req.Who] (spec_l5Last_R l5Last) (spec_l5Last_O l5Last), ScalR (spec_l5Last_R l5Last) ∧ ScalO (spec_l5Last_O l5Last), s_.Boxes.length = s_.Boxes.length, l5Last.2 = true, (([l5Last.1.Req.Who, l5Last.1.Req.Seq] : List Int) == [e_.Req.Who, e_.Req.Seq]) = false, l5Last.2 = true, decide (l5Last.1.Req.Seq > e_.Req.Seq) = false] (.cons e1 (.cons (spec_l5Last_ok (TState.mk (w64 (s_.At + 1)) s_.Boxes s_.Dones) e_.Req.Who l5Last hl5Last) (.cons ⟨(by simp [spec_l5Last_R, ScalR, ScalA, ScalC, V.simple, vi, vosl, eB, eDone, eI, eReq]), scalO_none 2⟩ (.cons rfl (.cons e5 (.cons e6 (.cons e7 (.cons e8 .nil)))))))) hI (by kernel_rfl)))))) (fun e7 h =>
 (jbrkD h hc1 fun hI => (Fin.seg [[], [], [(1, { d := some false })], [(4, { a := .call [.val [none, some 2, some 4] [], .val [] []] true (spec_l5Last_R l5Last) (spec_l5Last_O l5Last) })], [(1, { d := some true }), (8, { d := some false })], [(1, { d := some false })]] [] [2, 3, 4] [(1, 0), (2, 0), (3, 0)] [e_.None = false, ACalls cx.P 35 [.agg (eState (TState.mk (w64 (s_.At + 1)) s_.Boxes s_.Dones)), vi e_.Req.Who] (spec_l5Last_R l5Last) (spec_l5Last_O l5Last), ScalR (spec_l5Last_R l5Last) ∧ ScalO (spec_l5Last_O l5Last), s_.Boxes.length = s_.Boxes.length, l5Last.2 = true, (([l5Last.1.Req.Who, l5Last.1.Req.Seq] : List Int) == [e_.Req.Who, e_.Req.Seq]) = false, l5Last.2 = false] (.cons e1 (.cons (spec_l5Last_ok (TState.mk (w64 (s_.At + 1)) s_.Boxes s_.Dones) e_.Req.Who l5Last hl5Last) (.cons ⟨(by simp [spec_l5Last_R, ScalR, ScalA, ScalC, V.simple, vi, vosl, eB, eDone, eI, eReq]), scalO_none 2⟩ (.cons rfl (.cons e5 (.cons e6 (.cons e7 .nil))))))) hI (by kernel_rfl)))))))) (fun e5 h =>
 (condD h (fun e9 h =>
 (condD h (fun e10 h =>
 (jretD h hc1 fun h => (someD h fun e => (Fin.fin (cx := cx) (X := spec_l5Apply_X) (res := spec_l5Apply_R ((TState.mk (w64 (s_.At + 1)) s_.Boxes s_.Dones), 4)) (outs := spec_l5Apply_O ((TState.mk (w64 (s_.At + 1)) s_.Boxes s_.Dones), 4)) Try.func21 [[], [], [(1, { d := some false })], [(4, { a := .call [.val [none, some 2, some 4] [], .val [] []] true (spec_l5Last_R l5Last) (spec_l5Last_O l5Last) })], [(1, { d := some false })], [(1, { d := some true }), (10, { d := some true })], []] [e_.None = false, ACalls cx.P 35 [.agg (eState (TState.mk (w64 (s_.At + 1)) s_.Boxes s_.Dones)), vi e_.Req.Who] (spec_l5Last_R l5Last) (spec_l5Last_O l5Last), ScalR (spec_l5Last_R l5Last) ∧ ScalO (spec_l5Last_O l5Last), s_.Boxes.length = s_.Boxes.length, l5Last.2 = false, l5Last.2 = true, decide (l5Last.1.Req.Seq > e_.Req.Seq) = true, s_.Boxes.length = s_.Boxes.length] (.cons e1 (.cons (spec_l5Last_ok (TState.mk (w64 (s_.At + 1)) s_.Boxes s_.Dones) e_.Req.Who l5Last hl5Last) (.cons ⟨(by simp [spec_l5Last_R, ScalR, ScalA, ScalC, V.simple, vi, vosl, eB, eDone, eI, eReq]), scalO_none 2⟩ (.cons rfl (.cons e5 (.cons e9 (.cons e10 (.cons rfl .nil)))))))) (by kernel_rfl)).is (congrArg spec_l5Apply_R e) (congrArg spec_l5Apply_O e)))) (fun e10 h =>
 (jbrkD h hc1 fun hI => (Fin.seg [[], [], [(1, { d := some false })], [(4, { a := .call [.val [none, some 2, some 4] [], .val [] []] true (spec_l5Last_R l5Last) (spec_l5Last_O l5Last) })], [(1, { d := some false })], [(1, { d := some true }), (10, { d := some false })]] [] [2, 3, 4] [(1, 0), (2, 0), (3, 0)] [e_.None = false, ACalls cx.P 35 [.agg (eState (TState.mk (w64 (s_.At + 1)) s_.Boxes s_.Dones)), vi e_.Req.Who] (spec_l5Last_R l5Last) (spec_l5Last_O l5Last), ScalR (spec_l5Last_R l5Last) ∧ ScalO (spec_l5Last_O l5Last), s_.Boxes.length = s_.Boxes.length, l5Last.2 = false, l5Last.2 = true, decide (l5Last.1.Req.Seq > e_.Req.Seq) = false] (.cons e1 (.cons (spec_l5Last_ok (TState.mk (w64 (s_.At + 1)) s_.Boxes s_.Dones) e_.Req.Who l5Last hl5Last) (.cons ⟨(by simp [spec_l5Last_R, ScalR, ScalA, ScalC, V.simple, vi, vosl, eB, eDone, eI, eReq]), scalO_none 2⟩ (.cons rfl (.cons e5 (.cons e9 (.cons e10 .nil))))))) hI (by kernel_rfl)))))) (fun e9 h =>
 (jbrkD h hc1 fun hI => (Fin.seg [[], [], [(1, { d := some false })], [(4, { a := .call [.val [none, some 2, some 4] [], .val [] []] true (spec_l5Last_R l5Last) (spec_l5Last_O l5Last) })], [(1, { d := some false })], [(1, { d := some false })]] [] [2, 3, 4] [(1, 0), (2, 0), (3, 0)] [e_.None = false, ACalls cx.P 35 [.agg (eState (TState.mk (w64 (s_.At + 1)) s_.Boxes s_.Dones)), vi e_.Req.Who] (spec_l5Last_R l5Last) (spec_l5Last_O l5Last), ScalR (spec_l5Last_R l5Last) ∧ ScalO (spec_l5Last_O l5Last), s_.Boxes.length = s_.Boxes.length, l5Last.2 = false, l5Last.2 = false] (.cons e1 (.cons (spec_l5Last_ok (TState.mk (w64 (s_.At + 1)) s_.Boxes s_.Dones) e_.Req.Who l5Last hl5Last) (.cons ⟨(by simp [spec_l5Last_R, ScalR, ScalA, ScalC, V.simple, vi, vosl, eB, eDone, eI, eReq]), scalO_none 2⟩ (.cons rfl (.cons e5 (.cons e9 .nil)))))) hI (by kernel_rfl))))))))))))
theorem spec_l5Apply_ok (s_ : TState) (e_ : TEntry) (r : TState × Int) (h : spec_l5Apply s_ e_ = some r) : ACalls cx.P 21 [.agg [vi s_.At, vosl 86 2 eBox s_.Boxes, vsl 4 eDone s_.Dones], .agg (eEntry e_)] (spec_l5Apply_R r) (spec_l5Apply_O r) :=
  ACalls.of (cx := cx) (X := spec_l5Apply_X) (c := spec_l5Apply_c) Try.func21 (by kernel_rfl) (by kernel_rfl) (by kernel_rfl) (spec_l5Apply_fin s_ e_ r h)

/-! ### spec_l13Codes -/
noncomputable def spec_l13Codes_c : Code := bodyOf Try.f11
noncomputable def spec_l13Codes_X : Sig := { f := 11, fn := Try.f11, rms := [.val [some 1] []], oms := [none] }
noncomputable def spec_l13Codes_R (r : List Int) : V := vsl 1 eI r
noncomputable def spec_l13Codes_O (r : List Int) : List (Option V) := [none]
noncomputable def spec_l13Codes_k1 : List Item := posI 2000 5 [false] [.code spec_l13Codes_c]
noncomputable def spec_l13Codes_S1 (out1 : List Int) : St := ⟨(bs 3 (.own 1 0 1 0 out1.length :: (bs 27 []))), [some [], some [erow 3 1 eI out1]]⟩
noncomputable def spec_l13Codes_k2 (out1 : List Int) : Option (List Int) :=
  some out1
theorem spec_l13Codes_k2_ok (r : List Int) (out1 : List Int) (h : spec_l13Codes_k2 out1 = some r) : Fin cx spec_l13Codes_X (spec_l13Codes_R r) (spec_l13Codes_O r) spec_l13Codes_k1 (spec_l13Codes_S1 out1) :=
  (someD h fun e => (Fin.fin (cx := cx) (X := spec_l13Codes_X) (res := spec_l13Codes_R out1) (outs := spec_l13Codes_O out1) Try.func11 [[]] [out1.length = out1.length] (.cons rfl .nil) (by kernel_rfl)).is (congrArg spec_l13Codes_R e) (congrArg spec_l13Codes_O e))
noncomputable def spec_l13Codes_k3 : List Item := posI 2000 4 [] [.code spec_l13Codes_c]
noncomputable def spec_l13Codes_S2 (list : List TEntry) (out : List Int) (Boxes : List TBox) (i : Int) (sAt : Int) (sDones : List TDone) : St := ⟨(vsl 7 eEntry list :: (bs 2 (.own 1 0 1 0 out.length :: (.ptr 2 0 0 :: (vi i :: (bs 25 [])))))), [some [], some [erow 3 1 eI out], some [.var 53 [vi sAt, .own 3 0 2 0 Boxes.length, vsl 4 eDone sDones]], some [erow 86 2 eBox Boxes]]⟩
noncomputable def spec_l13Codes_b1 (list : List TEntry) (out : List Int) (Boxes : List TBox) (i : Int) (sAt : Int) (sDones : List TDone) : Option (Stp (List Int) ((List Int) × (List TBox) × Int × Int × List TDone) (List Int)) :=
  (bif decide (i < (list.length : Int)) then
 ((idx list i).bind fun entry =>
 ((spec_l5Apply (TState.mk sAt Boxes sDones) entry).bind fun l5Apply =>
 (need ((out.length + 1) * 8 ≤ 140737488355328)
 (some (Stp.nxt (out ++ [l5Apply.2], l5Apply.1.Boxes, w64 (i + 1), l5Apply.1.At, l5Apply.1.Dones))))))
 else
 some (Stp.brk out))
theorem spec_l13Codes_b1_ok (list : List TEntry) (res : V) (outs : List (Option V)) (x1 : Exc (List Int) (List Int)) (hb1 : ∀ s : List Int, x1 = .brk s → Fin cx spec_l13Codes_X res outs spec_l13Codes_k1 (spec_l13Codes_S1 s)) (hr1 : ∀ v : List Int, x1 = .ret v → (res = spec_l13Codes_R v ∧ outs = spec_l13Codes_O v)) (st1 : Stp (List Int) ((List Int) × (List TBox) × Int × Int × List TDone) (List Int)) (hc1 : Cont x1 (fun s : (List Int) × (List TBox) × Int × Int × List TDone => Fin cx spec_l13Codes_X res outs spec_l13Codes_k3 (spec_l13Codes_S2 list s.1 s.2.1 s.2.2.1 s.2.2.2.1 s.2.2.2.2)) st1) (out : List Int) (Boxes : List TBox) (i : Int) (sAt : Int) (sDones : List TDone) (h : spec_l13Codes_b1 list out Boxes i sAt sDones = some st1) : Fin cx spec_l13Codes_X res outs spec_l13Codes_k3 (spec_l13Codes_S2 list out Boxes i sAt sDones) :=
  (condD h (fun e1 h =>
 (bindD h fun entry hentry h =>
 (bindD h fun l5Apply hl5Apply h =>
 (needD h fun e2 h =>
 (nxtD h hc1 fun hI => (Fin.seg [[(3, { d := some true })], [(3, { a := .row (eEntry entry) }), (5, { a := .call [.val [none, some 2, some 4] [none, some 86, none], .val [none, none, none, some 2, some 2, none, none] []] false (spec_l5Apply_R l5Apply) (spec_l5Apply_O l5Apply) })], [], [(2, { a := .ck [] }), (3, { v := some (.own 25 0 1 0 (out ++ [l5Apply.2]).length), e := some (erow 3 1 eI (out ++ [l5Apply.2])) })], []] [] [0, 3, 4, 5] [(25, 0), (2, 0), (13, 0)] [decide (i < (list.length : Int)) = true, (0 : Int) ≤ i, i < ((list.length : Nat) : Int), (list.map eEntry)[i.toNat]? = some (eEntry entry), ACalls cx.P 21 [.agg [vi (TState.mk sAt Boxes sDones).At, vosl 86 2 eBox (TState.mk sAt Boxes sDones).Boxes, vsl 4 eDone (TState.mk sAt Boxes sDones).Dones], .agg (eEntry entry)] (spec_l5Apply_R l5Apply) (spec_l5Apply_O l5Apply), Boxes.length = Boxes.length, V.own 25 0 1 0 (out.length + 1) = .own 25 0 1 0 (out ++ [l5Apply.2]).length, Ent.row 3 1 (out.length + 1) (out.map eI ++ [eI l5Apply.2]) = erow 3 1 eI (out ++ [l5Apply.2]), out.length = out.length, (out.length + 1) * 8 ≤ 140737488355328, 1 = [l5Apply.2].length] (.cons e1 (.cons (idx0 hentry) (.cons (idx1 hentry) (.cons (map_idx hentry) (.cons (spec_l5Apply_ok (TState.mk sAt Boxes sDones) entry l5Apply hl5Apply) (.cons rfl (.cons (by first | exact congrArg (V.own 25 0 1 0) List.length_append.symm | simp) (.cons (row_app rfl) (.cons rfl (.cons e2 (.cons (by rfl) .nil))))))))))) hI (by kernel_rfl))))))) (fun e1 h =>
 (brkD h hc1 fun e => (Fin.seg [[(3, { d := some false })]] [] [3] [(1, 0)] [decide (i < (list.length : Int)) = false] (.cons e1 .nil) (hb1 _ e) (by kernel_rfl)))))
theorem spec_l13Codes_b1_loop (list : List TEntry) (res : V) (outs : List (Option V)) (x1 : Exc (List Int) (List Int)) (hb1 : ∀ s : List Int, x1 = .brk s → Fin cx spec_l13Codes_X res outs spec_l13Codes_k1 (spec_l13Codes_S1 s)) (hr1 : ∀ v : List Int, x1 = .ret v → (res = spec_l13Codes_R v ∧ outs = spec_l13Codes_O v)) (s : (List Int) × (List TBox) × Int × Int × List TDone) (h : loop (fun s : (List Int) × (List TBox) × Int × Int × List TDone => spec_l13Codes_b1 list s.1 s.2.1 s.2.2.1 s.2.2.2.1 s.2.2.2.2) s = some x1) : Fin cx spec_l13Codes_X res outs spec_l13Codes_k3 (spec_l13Codes_S2 list s.1 s.2.1 s.2.2.1 s.2.2.2.1 s.2.2.2.2) :=
  loopD (I := fun s : (List Int) × (List TBox) × Int × Int × List TDone => Fin cx spec_l13Codes_X res outs spec_l13Codes_k3 (spec_l13Codes_S2 list s.1 s.2.1 s.2.2.1 s.2.2.2.1 s.2.2.2.2)) h fun s st h hc => spec_l13Codes_b1_ok list res outs x1 hb1 hr1 st hc s.1 s.2.1 s.2.2.1 s.2.2.2.1 s.2.2.2.2 h
noncomputable def spec_l13Codes (list : List TEntry) : Option (List Int) :=
  ((spec_CertOpen).bind fun certOpen =>
 ((loop (fun s : (List Int) × (List TBox) × Int × Int × List TDone => spec_l13Codes_b1 list s.1 s.2.1 s.2.2.1 s.2.2.2.1 s.2.2.2.2) (([] : List Int), certOpen.Boxes, 0, certOpen.At, certOpen.Dones)).bind fun x => x.go (fun r => some r) fun s => spec_l13Codes_k2 s))
theorem spec_l13Codes_fin (list : List TEntry) (r : List Int) (h : spec_l13Codes list = some r) : Fin cx spec_l13Codes_X (spec_l13Codes_R r) (spec_l13Codes_O r) [.code spec_l13Codes_c] (startS spec_l13Codes_X [vsl 7 eEntry list]) :=
  (bindD h fun certOpen hcertOpen h =>
 (loopJ h fun x hl hr hb => (Fin.seg [[], [(0, { a := .ck [] })], [(0, { a := .call [] false (spec_CertOpen_R certOpen) (spec_CertOpen_O certOpen) })], []] [.is (.tmp 3) (.own 2 0 1 0 ([] : List Int).length)] [0, 3, 4, 5] [(2, 0), (5, 0), (4, 0)] [ACalls cx.P 20 [] (spec_CertOpen_R certOpen) (spec_CertOpen_O certOpen), (.own 2 0 1 0 0 : V) = .own 2 0 1 0 ([] : List Int).length] (.cons (spec_CertOpen_ok certOpen hcertOpen) (.cons (by simp) .nil)) (spec_l13Codes_b1_loop list _ _ x (fun s e => spec_l13Codes_k2_ok r s (hb s e)) (fun v e => ⟨congrArg spec_l13Codes_R (Option.some.inj (hr v e)).symm, congrArg spec_l13Codes_O (Option.some.inj (hr v e)).symm⟩) (([] : List Int), certOpen.Boxes, 0, certOpen.At, certOpen.Dones) hl) (by kernel_rfl))))
theorem spec_l13Codes_ok (list : List TEntry) (r : List Int) (h : spec_l13Codes list = some r) : ACalls cx.P 11 [vsl 7 eEntry list] (spec_l13Codes_R r) (spec_l13Codes_O r) :=
  ACalls.of (cx := cx) (X := spec_l13Codes_X) (c := spec_l13Codes_c) Try.func11 (by kernel_rfl) (by kernel_rfl) (by kernel_rfl) (spec_l13Codes_fin list r h)

/-! ### spec_HistWho -/
noncomputable def spec_HistWho_c : Code := bodyOf Try.f5
noncomputable def spec_HistWho_X : Sig := { f := 5, fn := Try.f5, rms := [.val [] []], oms := [none, none] }
noncomputable def spec_HistWho_R (r : Int) : V := vi r
noncomputable def spec_HistWho_O (r : Int) : List (Option V) := [none, none]
noncomputable def spec_HistWho_k1 : List Item := posI 2000 6 [false, false] [.code spec_HistWho_c]
noncomputable def spec_HistWho_S1 (best1 : Int) : St := ⟨(bs 6 (vi best1 :: (bs 30 []))), [some []]⟩
noncomputable def spec_HistWho_k2 (best1 : Int) : Option Int :=
  some best1
theorem spec_HistWho_k2_ok (r : Int) (best1 : Int) (h : spec_HistWho_k2 best1 = some r) : Fin cx spec_HistWho_X (spec_HistWho_R r) (spec_HistWho_O r) spec_HistWho_k1 (spec_HistWho_S1 best1) :=
  (someD h fun e => (Fin.fin (cx := cx) (X := spec_HistWho_X) (res := spec_HistWho_R best1) (outs := spec_HistWho_O best1) Try.func5 [[]] [] .nil (by kernel_rfl)).is (congrArg spec_HistWho_R e) (congrArg spec_HistWho_O e))
noncomputable def spec_HistWho_k3 : List Item := posI 2000 5 [false] [.code spec_HistWho_c]
noncomputable def spec_HistWho_S2 (list : List TEntry) (box : Int) (l13Codes : List Int) (best : Int) (i : Int) : St := ⟨(vsl 7 eEntry list :: (vi box :: (bs 3 (vsl 1 eI l13Codes :: (vi best :: (vi i :: (bs 29 []))))))), [some []]⟩
noncomputable def spec_HistWho_k4 : List Item := posI 2000 8 [false, true, true] [.code spec_HistWho_c]
noncomputable def spec_HistWho_S3 (list : List TEntry) (box : Int) (l13Codes : List Int) (i : Int) (best2 : Int) : St := ⟨(vsl 7 eEntry list :: (vi box :: (bs 3 (vsl 1 eI l13Codes :: (vi best2 :: (vi i :: (bs 29 []))))))), [some []]⟩
noncomputable def spec_HistWho_j1 (i : Int) (best2 : Int) : Option (Stp Int (Int × Int) Int) :=
  some (Stp.nxt (best2, w64 (i + 1)))
theorem spec_HistWho_j1_ok (list : List TEntry) (box : Int) (l13Codes : List Int) (i : Int) (res : V) (outs : List (Option V)) (x1 : Exc Int Int) (hb1 : ∀ s : Int, x1 = .brk s → Fin cx spec_HistWho_X res outs spec_HistWho_k1 (spec_HistWho_S1 s)) (hr1 : ∀ v : Int, x1 = .ret v → (res = spec_HistWho_R v ∧ outs = spec_HistWho_O v)) (st1 : Stp Int (Int × Int) Int) (hc1 : Cont x1 (fun s : Int × Int => Fin cx spec_HistWho_X res outs spec_HistWho_k3 (spec_HistWho_S2 list box l13Codes s.1 s.2)) st1) (best2 : Int) (h : spec_HistWho_j1 i best2 = some st1) : Fin cx spec_HistWho_X res outs spec_HistWho_k4 (spec_HistWho_S3 list box l13Codes i best2) :=
  (nxtD h hc1 fun hI => (Fin.seg [[]] [] [0, 1, 5, 6, 7] [] [] .nil hI (by kernel_rfl)))
noncomputable def spec_HistWho_b1 (list : List TEntry) (box : Int) (l13Codes : List Int) (best : Int) (i : Int) : Option (Stp Int (Int × Int) Int) :=
  (bif decide (i < (list.length : Int)) then
 ((((idx l13Codes i).bind fun y =>
 (bif (y == 0) then
 ((idx list i).bind fun entry =>
 ((spec_l3At entry.Run.Puts box).bind fun l3At =>
 (bif decide (l3At ≥ 0) then
 some (Exc.brk i)
 else
 some (Exc.brk best))))
 else
 some (Exc.brk best))) : Option (Exc (Stp Int (Int × Int) Int) Int)).bind fun x => x.go some fun j => spec_HistWho_j1 i j)
 else
 some (Stp.brk best))
theorem spec_HistWho_b1_ok (list : List TEntry) (box : Int) (l13Codes : List Int) (res : V) (outs : List (Option V)) (x1 : Exc Int Int) (hb1 : ∀ s : Int, x1 = .brk s → Fin cx spec_HistWho_X res outs spec_HistWho_k1 (spec_HistWho_S1 s)) (hr1 : ∀ v : Int, x1 = .ret v → (res = spec_HistWho_R v ∧ outs = spec_HistWho_O v)) (st1 : Stp Int (Int × Int) Int) (hc1 : Cont x1 (fun s : Int × Int => Fin cx spec_HistWho_X res outs spec_HistWho_k3 (spec_HistWho_S2 list box l13Codes s.1 s.2)) st1) (best : Int) (i : Int) (h : spec_HistWho_b1 list box l13Codes best i = some st1) : Fin cx spec_HistWho_X res outs spec_HistWho_k3 (spec_HistWho_S2 list box l13Codes best i) :=
  (condD h (fun e2 h =>
 (joinD (I := fun j : Int => Fin cx spec_HistWho_X res outs spec_HistWho_k4 (spec_HistWho_S3 list box l13Codes i j)) h (fun j h => spec_HistWho_j1_ok list box l13Codes i res outs x1 hb1 hr1 st1 hc1 j h) (fun x2 h hc2 =>
  (bindD h fun y hy h =>
 (condD h (fun e3 h =>
 (bindD h fun entry hentry h =>
 (bindD h fun l3At hl3At h =>
 (condD h (fun e4 h =>
 (jbrkD h hc2 fun hI => (Fin.seg [[(3, { d := some true })], [(2, { a := .row (eI y) }), (5, { d := some true }), (8, { a := .row (eEntry entry) }), (13, { a := .call [.val [some 2] [], .val [] []] false (spec_l3At_R l3At) (spec_l3At_O l3At) }), (15, { d := some true })], []] [] [0, 1, 5, 6, 7] [] [decide (i < (list.length : Int)) = true, (0 : Int) ≤ i, i < ((l13Codes.length : Nat) : Int), (l13Codes.map eI)[i.toNat]? = some (eI y), (y == 0) = true, (0 : Int) ≤ i, i < ((list.length : Nat) : Int), (list.map eEntry)[i.toNat]? = some (eEntry entry), ACalls cx.P 12 [vsl 2 ePut entry.Run.Puts, vi box] (spec_l3At_R l3At) (spec_l3At_O l3At), decide (l3At ≥ 0) = true] (.cons e2 (.cons (idx0 hy) (.cons (idx1 hy) (.cons (map_idx hy) (.cons e3 (.cons (idx0 hentry) (.cons (idx1 hentry) (.cons (map_idx hentry) (.cons (spec_l3At_ok entry.Run.Puts box l3At hl3At) (.cons e4 .nil)))))))))) hI (by kernel_rfl)))) (fun e4 h =>
 (jbrkD h hc2 fun hI => (Fin.seg [[(3, { d := some true })], [(2, { a := .row (eI y) }), (5, { d := some true }), (8, { a := .row (eEntry entry) }), (13, { a := .call [.val [some 2] [], .val [] []] false (spec_l3At_R l3At) (spec_l3At_O l3At) }), (15, { d := some false })]] [] [0, 1, 5, 6, 7] [] [decide (i < (list.length : Int)) = true, (0 : Int) ≤ i, i < ((l13Codes.length : Nat) : Int), (l13Codes.map eI)[i.toNat]? = some (eI y), (y == 0) = true, (0 : Int) ≤ i, i < ((list.length : Nat) : Int), (list.map eEntry)[i.toNat]? = some (eEntry entry), ACalls cx.P 12 [vsl 2 ePut entry.Run.Puts, vi box] (spec_l3At_R l3At) (spec_l3At_O l3At), decide (l3At ≥ 0) = false] (.cons e2 (.cons (idx0 hy) (.cons (idx1 hy) (.cons (map_idx hy) (.cons e3 (.cons (idx0 hentry) (.cons (idx1 hentry) (.cons (map_idx hentry) (.cons (spec_l3At_ok entry.Run.Puts box l3At hl3At) (.cons e4 .nil)))))))))) hI (by kernel_rfl)))))))) (fun e3 h =>
 (jbrkD h hc2 fun hI => (Fin.seg [[(3, { d := some true })], [(2, { a := .row (eI y) }), (5, { d := some false })]] [] [0, 1, 5, 6, 7] [] [decide (i < (list.length : Int)) = true, (0 : Int) ≤ i, i < ((l13Codes.length : Nat) : Int), (l13Codes.map eI)[i.toNat]? = some (eI y), (y == 0) = false] (.cons e2 (.cons (idx0 hy) (.cons (idx1 hy) (.cons (map_idx hy) (.cons e3 .nil))))) hI (by kernel_rfl))))))))) (fun e2 h =>
 (brkD h hc1 fun e => (Fin.seg [[(3, { d := some false })]] [] [6] [] [decide (i < (list.length : Int)) = false] (.cons e2 .nil) (hb1 _ e) (by kernel_rfl)))))
theorem spec_HistWho_b1_loop (list : List TEntry) (box : Int) (l13Codes : List Int) (res : V) (outs : List (Option V)) (x1 : Exc Int Int) (hb1 : ∀ s : Int, x1 = .brk s → Fin cx spec_HistWho_X res outs spec_HistWho_k1 (spec_HistWho_S1 s)) (hr1 : ∀ v : Int, x1 = .ret v → (res = spec_HistWho_R v ∧ outs = spec_HistWho_O v)) (s : Int × Int) (h : loop (fun s : Int × Int => spec_HistWho_b1 list box l13Codes s.1 s.2) s = some x1) : Fin cx spec_HistWho_X res outs spec_HistWho_k3 (spec_HistWho_S2 list box l13Codes s.1 s.2) :=
  loopD (I := fun s : Int × Int => Fin cx spec_HistWho_X res outs spec_HistWho_k3 (spec_HistWho_S2 list box l13Codes s.1 s.2)) h fun s st h hc => spec_HistWho_b1_ok list box l13Codes res outs x1 hb1 hr1 st hc s.1 s.2 h
noncomputable def spec_HistWho (list : List TEntry) (box : Int) : Option Int :=
  ((spec_l8Known list).bind fun l8Known =>
 (bif (!l8Known) then
 some (-1)
 else
 ((spec_l13Codes list).bind fun l13Codes =>
 ((loop (fun s : Int × Int => spec_HistWho_b1 list box l13Codes s.1 s.2) ((-1), 0)).bind fun x => x.go (fun r => some r) fun s => spec_HistWho_k2 s))))
theorem spec_HistWho_fin (list : List TEntry) (box : Int) (r : Int) (h : spec_HistWho list box = some r) : Fin cx spec_HistWho_X (spec_HistWho_R r) (spec_HistWho_O r) [.code spec_HistWho_c] (startS spec_HistWho_X [vsl 7 eEntry list, vi box]) :=
  (bindD h fun l8Known hl8Known h =>
 (condD h (fun e1 h =>
 (someD h fun e => (Fin.fin (cx := cx) (X := spec_HistWho_X) (res := spec_HistWho_R (-1)) (outs := spec_HistWho_O (-1)) Try.func5 [[], [(1, { a := .call [.val [some 7] []] false (spec_l8Known_R l8Known) (spec_l8Known_O l8Known) }), (2, { d := some true })], []] [ACalls cx.P 10 [vsl 7 eEntry list] (spec_l8Known_R l8Known) (spec_l8Known_O l8Known), (!l8Known) = true] (.cons (spec_l8Known_ok list l8Known hl8Known) (.cons e1 .nil)) (by kernel_rfl)).is (congrArg spec_HistWho_R e) (congrArg spec_HistWho_O e))) (fun e1 h =>
 (bindD h fun l13Codes hl13Codes h =>
 (loopJ h fun x hl hr hb => (Fin.seg [[], [(1, { a := .call [.val [some 7] []] false (spec_l8Known_R l8Known) (spec_l8Known_O l8Known) }), (2, { d := some false })], [(1, { a := .call [.val [some 7] []] false (spec_l13Codes_R l13Codes) (spec_l13Codes_O l13Codes) })], [], []] [] [0, 1, 5, 6, 7] [] [ACalls cx.P 10 [vsl 7 eEntry list] (spec_l8Known_R l8Known) (spec_l8Known_O l8Known), (!l8Known) = false, ACalls cx.P 11 [vsl 7 eEntry list] (spec_l13Codes_R l13Codes) (spec_l13Codes_O l13Codes)] (.cons (spec_l8Known_ok list l8Known hl8Known) (.cons e1 (.cons (spec_l13Codes_ok list l13Codes hl13Codes) .nil))) (spec_HistWho_b1_loop list box l13Codes _ _ x (fun s e => spec_HistWho_k2_ok r s (hb s e)) (fun v e => ⟨congrArg spec_HistWho_R (Option.some.inj (hr v e)).symm, congrArg spec_HistWho_O (Option.some.inj (hr v e)).symm⟩) ((-1), 0) hl) (by kernel_rfl)))))))
theorem spec_HistWho_ok (list : List TEntry) (box : Int) (r : Int) (h : spec_HistWho list box = some r) : ACalls cx.P 5 [vsl 7 eEntry list, vi box] (spec_HistWho_R r) (spec_HistWho_O r) :=
  ACalls.of (cx := cx) (X := spec_HistWho_X) (c := spec_HistWho_c) Try.func5 (by kernel_rfl) (by kernel_rfl) (by kernel_rfl) (spec_HistWho_fin list box r h)

/-! ### impl_same_Read -/
noncomputable def impl_same_Read_c : Code := bodyOf Try.f64
noncomputable def impl_same_Read_X : Sig := { f := 64, fn := Try.f64, rms := [.val [] []], oms := [none, none] }
noncomputable def impl_same_Read_R (r : Bool) : V := .b r
noncomputable def impl_same_Read_O (r : Bool) : List (Option V) := [none, none]
noncomputable def impl_same_Read_k1 : List Item := posI 2000 4 [false, false] [.code impl_same_Read_c]
noncomputable def impl_same_Read_S1 : St := ⟨(bs 26 []), [some []]⟩
noncomputable def impl_same_Read_k2 : Option Bool :=
  some true
theorem impl_same_Read_k2_ok (r : Bool) (h : impl_same_Read_k2 = some r) : Fin cx impl_same_Read_X (impl_same_Read_R r) (impl_same_Read_O r) impl_same_Read_k1 (impl_same_Read_S1) :=
  (someD h fun e => (Fin.fin (cx := cx) (X := impl_same_Read_X) (res := impl_same_Read_R true) (outs := impl_same_Read_O true) Try.func64 [[]] [] .nil (by kernel_rfl)).is (congrArg impl_same_Read_R e) (congrArg impl_same_Read_O e))
noncomputable def impl_same_Read_k3 : List Item := posI 2000 3 [false] [.code impl_same_Read_c]
noncomputable def impl_same_Read_S2 (a : List TRead) (b : List TRead) (v13 : Int) : St := ⟨(vsl 2 eRead a :: (vsl 2 eRead b :: (bs 10 (vi (a.length : Int) :: (vi v13 :: (bs 12 [])))))), [some []]⟩
noncomputable def impl_same_Read_b1 (a : List TRead) (b : List TRead) (v13 : Int) : Option (Stp Bool Int Unit) :=
  (bif decide (v13 < (a.length : Int)) then
 ((idx a v13).bind fun read =>
 ((idx b v13).bind fun read1 =>
 (bif (!(([read.Box, read.Ver] : List Int) == [read1.Box, read1.Ver])) then
 some (Stp.ret false)
 else
 some (Stp.nxt (w64 (v13 + 1))))))
 else
 some (Stp.brk ()))
theorem impl_same_Read_b1_ok (a : List TRead) (b : List TRead) (res : V) (outs : List (Option V)) (x1 : Exc Bool Unit) (hb1 : ∀ s : Unit, x1 = .brk s → Fin cx impl_same_Read_X res outs impl_same_Read_k1 (impl_same_Read_S1)) (hr1 : ∀ v : Bool, x1 = .ret v → (res = impl_same_Read_R v ∧ outs = impl_same_Read_O v)) (st1 : Stp Bool Int Unit) (hc1 : Cont x1 (fun s : Int => Fin cx impl_same_Read_X res outs impl_same_Read_k3 (impl_same_Read_S2 a b s)) st1) (v13 : Int) (h : impl_same_Read_b1 a b v13 = some st1) : Fin cx impl_same_Read_X res outs impl_same_Read_k3 (impl_same_Read_S2 a b v13) :=
  (condD h (fun e2 h =>
 (bindD h fun read hread h =>
 (bindD h fun read1 hread1 h =>
 (condD h (fun e3 h =>
 (retD h hc1 fun e => (Fin.fin (cx := cx) (X := impl_same_Read_X) (res := impl_same_Read_R false) (outs := impl_same_Read_O false) Try.func64 [[(0, { d := some true })], [], [(2, { a := .row (eRead read) }), (6, { a := .row (eRead read1) }), (8, { d := some true })], []] [decide (v13 < (a.length : Int)) = true, (0 : Int) ≤ v13, v13 < ((a.length : Nat) : Int), (a.map eRead)[v13.toNat]? = some (eRead read), (0 : Int) ≤ v13, v13 < ((b.length : Nat) : Int), (b.map eRead)[v13.toNat]? = some (eRead read1), (!(([read.Box, read.Ver] : List Int) == [read1.Box, read1.Ver])) = true] (.cons e2 (.cons (idx0 hread) (.cons (idx1 hread) (.cons (map_idx hread) (.cons (idx0 hread1) (.cons (idx1 hread1) (.cons (map_idx hread1) (.cons e3 .nil)))))))) (by kernel_rfl)).is (hr1 _ e).1 (hr1 _ e).2)) (fun e3 h =>
 (nxtD h hc1 fun hI => (Fin.seg [[(0, { d := some true })], [], [(2, { a := .row (eRead read) }), (6, { a := .row (eRead read1) }), (8, { d := some false })], []] [] [0, 1, 12, 13] [] [decide (v13 < (a.length : Int)) = true, (0 : Int) ≤ v13, v13 < ((a.length : Nat) : Int), (a.map eRead)[v13.toNat]? = some (eRead read), (0 : Int) ≤ v13, v13 < ((b.length : Nat) : Int), (b.map eRead)[v13.toNat]? = some (eRead read1), (!(([read.Box, read.Ver] : List Int) == [read1.Box, read1.Ver])) = false] (.cons e2 (.cons (idx0 hread) (.cons (idx1 hread) (.cons (map_idx hread) (.cons (idx0 hread1) (.cons (idx1 hread1) (.cons (map_idx hread1) (.cons e3 .nil)))))))) hI (by kernel_rfl)))))))) (fun e2 h =>
 (brkD h hc1 fun e => (Fin.seg [[(0, { d := some false })]] [] [] [] [decide (v13 < (a.length : Int)) = false] (.cons e2 .nil) (hb1 _ e) (by kernel_rfl)))))
theorem impl_same_Read_b1_loop (a : List TRead) (b : List TRead) (res : V) (outs : List (Option V)) (x1 : Exc Bool Unit) (hb1 : ∀ s : Unit, x1 = .brk s → Fin cx impl_same_Read_X res outs impl_same_Read_k1 (impl_same_Read_S1)) (hr1 : ∀ v : Bool, x1 = .ret v → (res = impl_same_Read_R v ∧ outs = impl_same_Read_O v)) (s : Int) (h : loop (fun s : Int => impl_same_Read_b1 a b s) s = some x1) : Fin cx impl_same_Read_X res outs impl_same_Read_k3 (impl_same_Read_S2 a b s) :=
  loopD (I := fun s : Int => Fin cx impl_same_Read_X res outs impl_same_Read_k3 (impl_same_Read_S2 a b s)) h fun s st h hc => impl_same_Read_b1_ok a b res outs x1 hb1 hr1 st hc s h
noncomputable def impl_same_Read (a : List TRead) (b : List TRead) : Option Bool :=
  (bif ((a.length : Int) != (b.length : Int)) then
 some false
 else
 ((loop (fun s : Int => impl_same_Read_b1 a b s) 0).bind fun x => x.go (fun r => some r) fun s => impl_same_Read_k2))
theorem impl_same_Read_fin (a : List TRead) (b : List TRead) (r : Bool) (h : impl_same_Read a b = some r) : Fin cx impl_same_Read_X (impl_same_Read_R r) (impl_same_Read_O r) [.code impl_same_Read_c] (startS impl_same_Read_X [vsl 2 eRead a, vsl 2 eRead b]) :=
  (condD h (fun e1 h =>
 (someD h fun e => (Fin.fin (cx := cx) (X := impl_same_Read_X) (res := impl_same_Read_R false) (outs := impl_same_Read_O false) Try.func64 [[], [(4, { d := some true })], []] [((a.length : Int) != (b.length : Int)) = true] (.cons e1 .nil) (by kernel_rfl)).is (congrArg impl_same_Read_R e) (congrArg impl_same_Read_O e))) (fun e1 h =>
 (loopJ h fun x hl hr hb => (Fin.seg [[], [(4, { d := some false })], []] [] [0, 1, 12, 13] [] [((a.length : Int) != (b.length : Int)) = false] (.cons e1 .nil) (impl_same_Read_b1_loop a b _ _ x (fun s e => impl_same_Read_k2_ok r (hb s e)) (fun v e => ⟨congrArg impl_same_Read_R (Option.some.inj (hr v e)).symm, congrArg impl_same_Read_O (Option.some.inj (hr v e)).symm⟩) 0 hl) (by kernel_rfl)))))
theorem impl_same_Read_ok (a : List TRead) (b : List TRead) (r : Bool) (h : impl_same_Read a b = some r) : ACalls cx.P 64 [vsl 2 eRead a, vsl 2 eRead b] (impl_same_Read_R r) (impl_same_Read_O r) :=
  ACalls.of (cx := cx) (X := impl_same_Read_X) (c := impl_same_Read_c) Try.func64 (by kernel_rfl) (by kernel_rfl) (by kernel_rfl) (impl_same_Read_fin a b r h)

/-! ### impl_same_Put -/
noncomputable def impl_same_Put_c : Code := bodyOf Try.f65
noncomputable def impl_same_Put_X : Sig := { f := 65, fn := Try.f65, rms := [.val [] []], oms := [none, none] }
noncomputable def impl_same_Put_R (r : Bool) : V := .b r
noncomputable def impl_same_Put_O (r : Bool) : List (Option V) := [none, none]
noncomputable def impl_same_Put_k1 : List Item := posI 2000 4 [false, false] [.code impl_same_Put_c]
noncomputable def impl_same_Put_S1 : St := ⟨(bs 26 []), [some []]⟩
noncomputable def impl_same_Put_k2 : Option Bool :=
  some true
theorem impl_same_Put_k2_ok (r : Bool) (h : impl_same_Put_k2 = some r) : Fin cx impl_same_Put_X (impl_same_Put_R r) (impl_same_Put_O r) impl_same_Put_k1 (impl_same_Put_S1) :=
  (someD h fun e => (Fin.fin (cx := cx) (X := impl_same_Put_X) (res := impl_same_Put_R true) (outs := impl_same_Put_O true) Try.func65 [[]] [] .nil (by kernel_rfl)).is (congrArg impl_same_Put_R e) (congrArg impl_same_Put_O e))
noncomputable def impl_same_Put_k3 : List Item := posI 2000 3 [false] [.code impl_same_Put_c]
noncomputable def impl_same_Put_S2 (a : List TPut) (b : List TPut) (v13 : Int) : St := ⟨(vsl 2 ePut a :: (vsl 2 ePut b :: (bs 10 (vi (a.length : Int) :: (vi v13 :: (bs 12 [])))))), [some []]⟩
noncomputable def impl_same_Put_b1 (a : List TPut) (b : List TPut) (v13 : Int) : Option (Stp Bool Int Unit) :=
  (bif decide (v13 < (a.length : Int)) then
 ((idx a v13).bind fun put =>
 ((idx b v13).bind fun put1 =>
 (bif (!(([put.Box, put.Val] : List Int) == [put1.Box, put1.Val])) then
 some (Stp.ret false)
 else
 some (Stp.nxt (w64 (v13 + 1))))))
 else
 some (Stp.brk ()))
theorem impl_same_Put_b1_ok (a : List TPut) (b : List TPut) (res : V) (outs : List (Option V)) (x1 : Exc Bool Unit) (hb1 : ∀ s : Unit, x1 = .brk s → Fin cx impl_same_Put_X res outs impl_same_Put_k1 (impl_same_Put_S1)) (hr1 : ∀ v : Bool, x1 = .ret v → (res = impl_same_Put_R v ∧ outs = impl_same_Put_O v)) (st1 : Stp Bool Int Unit) (hc1 : Cont x1 (fun s : Int => Fin cx impl_same_Put_X res outs impl_same_Put_k3 (impl_same_Put_S2 a b s)) st1) (v13 : Int) (h : impl_same_Put_b1 a b v13 = some st1) : Fin cx impl_same_Put_X res outs impl_same_Put_k3 (impl_same_Put_S2 a b v13) :=
  (condD h (fun e2 h =>
 (bindD h fun put hput h =>
 (bindD h fun put1 hput1 h =>
 (condD h (fun e3 h =>
 (retD h hc1 fun e => (Fin.fin (cx := cx) (X := impl_same_Put_X) (res := impl_same_Put_R false) (outs := impl_same_Put_O false) Try.func65 [[(0, { d := some true })], [], [(2, { a := .row (ePut put) }), (6, { a := .row (ePut put1) }), (8, { d := some true })], []] [decide (v13 < (a.length : Int)) = true, (0 : Int) ≤ v13, v13 < ((a.length : Nat) : Int), (a.map ePut)[v13.toNat]? = some (ePut put), (0 : Int) ≤ v13, v13 < ((b.length : Nat) : Int), (b.map ePut)[v13.toNat]? = some (ePut put1), (!(([put.Box, put.Val] : List Int) == [put1.Box, put1.Val])) = true] (.cons e2 (.cons (idx0 hput) (.cons (idx1 hput) (.cons (map_idx hput) (.cons (idx0 hput1) (.cons (idx1 hput1) (.cons (map_idx hput1) (.cons e3 .nil)))))))) (by kernel_rfl)).is (hr1 _ e).1 (hr1 _ e).2)) (fun e3 h =>
 (nxtD h hc1 fun hI => (Fin.seg [[(0, { d := some true })], [], [(2, { a := .row (ePut put) }), (6, { a := .row (ePut put1) }), (8, { d := some false })], []] [] [0, 1, 12, 13] [] [decide (v13 < (a.length : Int)) = true, (0 : Int) ≤ v13, v13 < ((a.length : Nat) : Int), (a.map ePut)[v13.toNat]? = some (ePut put), (0 : Int) ≤ v13, v13 < ((b.length : Nat) : Int), (b.map ePut)[v13.toNat]? = some (ePut put1), (!(([put.Box, put.Val] : List Int) == [put1.Box, put1.Val])) = false] (.cons e2 (.cons (idx0 hput) (.cons (idx1 hput) (.cons (map_idx hput) (.cons (idx0 hput1) (.cons (idx1 hput1) (.cons (map_idx hput1) (.cons e3 .nil)))))))) hI (by kernel_rfl)))))))) (fun e2 h =>
 (brkD h hc1 fun e => (Fin.seg [[(0, { d := some false })]] [] [] [] [decide (v13 < (a.length : Int)) = false] (.cons e2 .nil) (hb1 _ e) (by kernel_rfl)))))
theorem impl_same_Put_b1_loop (a : List TPut) (b : List TPut) (res : V) (outs : List (Option V)) (x1 : Exc Bool Unit) (hb1 : ∀ s : Unit, x1 = .brk s → Fin cx impl_same_Put_X res outs impl_same_Put_k1 (impl_same_Put_S1)) (hr1 : ∀ v : Bool, x1 = .ret v → (res = impl_same_Put_R v ∧ outs = impl_same_Put_O v)) (s : Int) (h : loop (fun s : Int => impl_same_Put_b1 a b s) s = some x1) : Fin cx impl_same_Put_X res outs impl_same_Put_k3 (impl_same_Put_S2 a b s) :=
  loopD (I := fun s : Int => Fin cx impl_same_Put_X res outs impl_same_Put_k3 (impl_same_Put_S2 a b s)) h fun s st h hc => impl_same_Put_b1_ok a b res outs x1 hb1 hr1 st hc s h
noncomputable def impl_same_Put (a : List TPut) (b : List TPut) : Option Bool :=
  (bif ((a.length : Int) != (b.length : Int)) then
 some false
 else
 ((loop (fun s : Int => impl_same_Put_b1 a b s) 0).bind fun x => x.go (fun r => some r) fun s => impl_same_Put_k2))
theorem impl_same_Put_fin (a : List TPut) (b : List TPut) (r : Bool) (h : impl_same_Put a b = some r) : Fin cx impl_same_Put_X (impl_same_Put_R r) (impl_same_Put_O r) [.code impl_same_Put_c] (startS impl_same_Put_X [vsl 2 ePut a, vsl 2 ePut b]) :=
  (condD h (fun e1 h =>
 (someD h fun e => (Fin.fin (cx := cx) (X := impl_same_Put_X) (res := impl_same_Put_R false) (outs := impl_same_Put_O false) Try.func65 [[], [(4, { d := some true })], []] [((a.length : Int) != (b.length : Int)) = true] (.cons e1 .nil) (by kernel_rfl)).is (congrArg impl_same_Put_R e) (congrArg impl_same_Put_O e))) (fun e1 h =>
 (loopJ h fun x hl hr hb => (Fin.seg [[], [(4, { d := some false })], []] [] [0, 1, 12, 13] [] [((a.length : Int) != (b.length : Int)) = false] (.cons e1 .nil) (impl_same_Put_b1_loop a b _ _ x (fun s e => impl_same_Put_k2_ok r (hb s e)) (fun v e => ⟨congrArg impl_same_Put_R (Option.some.inj (hr v e)).symm, congrArg impl_same_Put_O (Option.some.inj (hr v e)).symm⟩) 0 hl) (by kernel_rfl)))))
theorem impl_same_Put_ok (a : List TPut) (b : List TPut) (r : Bool) (h : impl_same_Put a b = some r) : ACalls cx.P 65 [vsl 2 ePut a, vsl 2 ePut b] (impl_same_Put_R r) (impl_same_Put_O r) :=
  ACalls.of (cx := cx) (X := impl_same_Put_X) (c := impl_same_Put_c) Try.func65 (by kernel_rfl) (by kernel_rfl) (by kernel_rfl) (impl_same_Put_fin a b r h)

/-! ### impl_ExecSame -/
noncomputable def impl_ExecSame_c : Code := bodyOf Try.f59
noncomputable def impl_ExecSame_X : Sig := { f := 59, fn := Try.f59, rms := [.val [] []], oms := [none, none] }
noncomputable def impl_ExecSame_R (r : Bool) : V := .b r
noncomputable def impl_ExecSame_O (r : Bool) : List (Option V) := [none, none]
noncomputable def impl_ExecSame (a : TRun) (b : TRun) : Option Bool :=
  ((impl_same_Read a.Reads b.Reads).bind fun read =>
 (bif read then
 ((impl_same_Put a.Puts b.Puts).bind fun put =>
 (bif put then
 (bif (a.Val == b.Val) then
 some (a.Code == b.Code)
 else
 some false)
 else
 some false))
 else
 some false))
theorem impl_ExecSame_fin (a : TRun) (b : TRun) (r : Bool) (h : impl_ExecSame a b = some r) : Fin cx impl_ExecSame_X (impl_ExecSame_R r) (impl_ExecSame_O r) [.code impl_ExecSame_c] (startS impl_ExecSame_X [.agg (eRun a), .agg (eRun b)]) :=
  (bindD h fun read hread h =>
 (condD h (fun e1 h =>
 (bindD h fun put hput h =>
 (condD h (fun e2 h =>
 (condD h (fun e3 h =>
 (someD h fun e => (Fin.fin (cx := cx) (X := impl_ExecSame_X) (res := impl_ExecSame_R (a.Code == b.Code)) (outs := impl_ExecSame_O (a.Code == b.Code)) Try.func59 [[], [(4, { a := .call [.val [some 2] [], .val [some 2] []] false (impl_same_Read_R read) (impl_same_Read_O read) }), (5, { d := some true }), (10, { a := .call [.val [some 2] [], .val [some 2] []] false (impl_same_Put_R put) (impl_same_Put_O put) }), (12, { d := some true }), (19, { d := some true })]] [ACalls cx.P 64 [vsl 2 eRead a.Reads, vsl 2 eRead b.Reads] (impl_same_Read_R read) (impl_same_Read_O read), read = true, ACalls cx.P 65 [vsl 2 ePut a.Puts, vsl 2 ePut b.Puts] (impl_same_Put_R put) (impl_same_Put_O put), put = true, (a.Val == b.Val) = true] (.cons (impl_same_Read_ok a.Reads b.Reads read hread) (.cons e1 (.cons (impl_same_Put_ok a.Puts b.Puts put hput) (.cons e2 (.cons e3 .nil))))) (by kernel_rfl)).is (congrArg impl_ExecSame_R e) (congrArg impl_ExecSame_O e))) (fun e3 h =>
 (someD h fun e => (Fin.fin (cx := cx) (X := impl_ExecSame_X) (res := impl_ExecSame_R false) (outs := impl_ExecSame_O false) Try.func59 [[], [(4, { a := .call [.val [some 2] [], .val [some 2] []] false (impl_same_Read_R read) (impl_same_Read_O read) }), (5, { d := some true }), (10, { a := .call [.val [some 2] [], .val [some 2] []] false (impl_same_Put_R put) (impl_same_Put_O put) }), (12, { d := some true }), (19, { d := some false })]] [ACalls cx.P 64 [vsl 2 eRead a.Reads, vsl 2 eRead b.Reads] (impl_same_Read_R read) (impl_same_Read_O read), read = true, ACalls cx.P 65 [vsl 2 ePut a.Puts, vsl 2 ePut b.Puts] (impl_same_Put_R put) (impl_same_Put_O put), put = true, (a.Val == b.Val) = false] (.cons (impl_same_Read_ok a.Reads b.Reads read hread) (.cons e1 (.cons (impl_same_Put_ok a.Puts b.Puts put hput) (.cons e2 (.cons e3 .nil))))) (by kernel_rfl)).is (congrArg impl_ExecSame_R e) (congrArg impl_ExecSame_O e))))) (fun e2 h =>
 (someD h fun e => (Fin.fin (cx := cx) (X := impl_ExecSame_X) (res := impl_ExecSame_R false) (outs := impl_ExecSame_O false) Try.func59 [[], [(4, { a := .call [.val [some 2] [], .val [some 2] []] false (impl_same_Read_R read) (impl_same_Read_O read) }), (5, { d := some true }), (10, { a := .call [.val [some 2] [], .val [some 2] []] false (impl_same_Put_R put) (impl_same_Put_O put) }), (12, { d := some false })]] [ACalls cx.P 64 [vsl 2 eRead a.Reads, vsl 2 eRead b.Reads] (impl_same_Read_R read) (impl_same_Read_O read), read = true, ACalls cx.P 65 [vsl 2 ePut a.Puts, vsl 2 ePut b.Puts] (impl_same_Put_R put) (impl_same_Put_O put), put = false] (.cons (impl_same_Read_ok a.Reads b.Reads read hread) (.cons e1 (.cons (impl_same_Put_ok a.Puts b.Puts put hput) (.cons e2 .nil)))) (by kernel_rfl)).is (congrArg impl_ExecSame_R e) (congrArg impl_ExecSame_O e)))))) (fun e1 h =>
 (someD h fun e => (Fin.fin (cx := cx) (X := impl_ExecSame_X) (res := impl_ExecSame_R false) (outs := impl_ExecSame_O false) Try.func59 [[], [(4, { a := .call [.val [some 2] [], .val [some 2] []] false (impl_same_Read_R read) (impl_same_Read_O read) }), (5, { d := some false })]] [ACalls cx.P 64 [vsl 2 eRead a.Reads, vsl 2 eRead b.Reads] (impl_same_Read_R read) (impl_same_Read_O read), read = false] (.cons (impl_same_Read_ok a.Reads b.Reads read hread) (.cons e1 .nil)) (by kernel_rfl)).is (congrArg impl_ExecSame_R e) (congrArg impl_ExecSame_O e)))))
theorem impl_ExecSame_ok (a : TRun) (b : TRun) (r : Bool) (h : impl_ExecSame a b = some r) : ACalls cx.P 59 [.agg (eRun a), .agg (eRun b)] (impl_ExecSame_R r) (impl_ExecSame_O r) :=
  ACalls.of (cx := cx) (X := impl_ExecSame_X) (c := impl_ExecSame_c) Try.func59 (by kernel_rfl) (by kernel_rfl) (by kernel_rfl) (impl_ExecSame_fin a b r h)

/-! ### impl_CertLike -/
noncomputable def impl_CertLike_c : Code := bodyOf Try.f41
noncomputable def impl_CertLike_X : Sig := { f := 41, fn := Try.f41, rms := [.val [] []], oms := [none, none] }
noncomputable def impl_CertLike_R (r : Bool) : V := .b r
noncomputable def impl_CertLike_O (r : Bool) : List (Option V) := [none, none]
noncomputable def impl_CertLike (a : TEntry) (b : TEntry) : Option Bool :=
  (bif (a.None == b.None) then
 (bif (([a.Req.Who, a.Req.Seq] : List Int) == [b.Req.Who, b.Req.Seq]) then
 ((impl_ExecSame a.Run b.Run).bind fun execSame =>
 some execSame)
 else
 some false)
 else
 some false)
theorem impl_CertLike_fin (a : TEntry) (b : TEntry) (r : Bool) (h : impl_CertLike a b = some r) : Fin cx impl_CertLike_X (impl_CertLike_R r) (impl_CertLike_O r) [.code impl_CertLike_c] (startS impl_CertLike_X [.agg (eEntry a), .agg (eEntry b)]) :=
  (condD h (fun e1 h =>
 (condD h (fun e2 h =>
 (bindD h fun execSame hexecSame h =>
 (someD h fun e => (Fin.fin (cx := cx) (X := impl_CertLike_X) (res := impl_CertLike_R execSame) (outs := impl_CertLike_O execSame) Try.func41 [[], [(5, { d := some true }), (12, { d := some true }), (17, { a := .call [.val [some 2, some 2, none, none] [], .val [some 2, some 2, none, none] []] false (impl_ExecSame_R execSame) (impl_ExecSame_O execSame) })]] [(a.None == b.None) = true, (([a.Req.Who, a.Req.Seq] : List Int) == [b.Req.Who, b.Req.Seq]) = true, ACalls cx.P 59 [.agg (eRun a.Run), .agg (eRun b.Run)] (impl_ExecSame_R execSame) (impl_ExecSame_O execSame)] (.cons e1 (.cons e2 (.cons (impl_ExecSame_ok a.Run b.Run execSame hexecSame) .nil))) (by kernel_rfl)).is (congrArg impl_CertLike_R e) (congrArg impl_CertLike_O e)))) (fun e2 h =>
 (someD h fun e => (Fin.fin (cx := cx) (X := impl_CertLike_X) (res := impl_CertLike_R false) (outs := impl_CertLike_O false) Try.func41 [[], [(5, { d := some true }), (12, { d := some false })]] [(a.None == b.None) = true, (([a.Req.Who, a.Req.Seq] : List Int) == [b.Req.Who, b.Req.Seq]) = false] (.cons e1 (.cons e2 .nil)) (by kernel_rfl)).is (congrArg impl_CertLike_R e) (congrArg impl_CertLike_O e))))) (fun e1 h =>
 (someD h fun e => (Fin.fin (cx := cx) (X := impl_CertLike_X) (res := impl_CertLike_R false) (outs := impl_CertLike_O false) Try.func41 [[], [(5, { d := some false })]] [(a.None == b.None) = false] (.cons e1 .nil) (by kernel_rfl)).is (congrArg impl_CertLike_R e) (congrArg impl_CertLike_O e))))
theorem impl_CertLike_ok (a : TEntry) (b : TEntry) (r : Bool) (h : impl_CertLike a b = some r) : ACalls cx.P 41 [.agg (eEntry a), .agg (eEntry b)] (impl_CertLike_R r) (impl_CertLike_O r) :=
  ACalls.of (cx := cx) (X := impl_CertLike_X) (c := impl_CertLike_c) Try.func41 (by kernel_rfl) (by kernel_rfl) (by kernel_rfl) (impl_CertLike_fin a b r h)

/-! ### impl_in -/
noncomputable def impl_in_c : Code := bodyOf Try.f60
noncomputable def impl_in_X : Sig := { f := 60, fn := Try.f60, rms := [.val [] []], oms := [none, none, none] }
noncomputable def impl_in_R (r : Bool) : V := .b r
noncomputable def impl_in_O (r : Bool) : List (Option V) := [none, none, none]
noncomputable def impl_in (n : Int) (low : Int) (high : Int) : Option Bool :=
  (bif decide (n ≥ low) then
 some (decide (n ≤ high))
 else
 some false)
theorem impl_in_fin (n : Int) (low : Int) (high : Int) (r : Bool) (h : impl_in n low high = some r) : Fin cx impl_in_X (impl_in_R r) (impl_in_O r) [.code impl_in_c] (startS impl_in_X [vi n, vi low, vi high]) :=
  (condD h (fun e1 h =>
 (someD h fun e => (Fin.fin (cx := cx) (X := impl_in_X) (res := impl_in_R (decide (n ≤ high))) (outs := impl_in_O (decide (n ≤ high))) Try.func60 [[], [(3, { d := some true })]] [decide (n ≥ low) = true] (.cons e1 .nil) (by kernel_rfl)).is (congrArg impl_in_R e) (congrArg impl_in_O e))) (fun e1 h =>
 (someD h fun e => (Fin.fin (cx := cx) (X := impl_in_X) (res := impl_in_R false) (outs := impl_in_O false) Try.func60 [[], [(3, { d := some false })]] [decide (n ≥ low) = false] (.cons e1 .nil) (by kernel_rfl)).is (congrArg impl_in_R e) (congrArg impl_in_O e))))
theorem impl_in_ok (n : Int) (low : Int) (high : Int) (r : Bool) (h : impl_in n low high = some r) : ACalls cx.P 60 [vi n, vi low, vi high] (impl_in_R r) (impl_in_O r) :=
  ACalls.of (cx := cx) (X := impl_in_X) (c := impl_in_c) Try.func60 (by kernel_rfl) (by kernel_rfl) (by kernel_rfl) (impl_in_fin n low high r h)

/-! ### impl_reqOk -/
noncomputable def impl_reqOk_c : Code := bodyOf Try.f42
noncomputable def impl_reqOk_X : Sig := { f := 42, fn := Try.f42, rms := [.val [] []], oms := [none] }
noncomputable def impl_reqOk_R (r : Bool) : V := .b r
noncomputable def impl_reqOk_O (r : Bool) : List (Option V) := [none]
noncomputable def impl_reqOk (q : TReq) : Option Bool :=
  ((impl_in q.Who 0 2).bind fun in_ =>
 (bif in_ then
 ((impl_in q.Seq 1 1000).bind fun in_1 =>
 some in_1)
 else
 some false))
theorem impl_reqOk_fin (q : TReq) (r : Bool) (h : impl_reqOk q = some r) : Fin cx impl_reqOk_X (impl_reqOk_R r) (impl_reqOk_O r) [.code impl_reqOk_c] (startS impl_reqOk_X [.agg (eReq q)]) :=
  (bindD h fun in_ hin_ h =>
 (condD h (fun e1 h =>
 (bindD h fun in_1 hin_1 h =>
 (someD h fun e => (Fin.fin (cx := cx) (X := impl_reqOk_X) (res := impl_reqOk_R in_1) (outs := impl_reqOk_O in_1) Try.func42 [[], [(2, { a := .call [.val [] [], .val [] [], .val [] []] false (impl_in_R in_) (impl_in_O in_) }), (3, { d := some true }), (6, { a := .call [.val [] [], .val [] [], .val [] []] false (impl_in_R in_1) (impl_in_O in_1) })]] [ACalls cx.P 60 [vi q.Who, vi 0, vi 2] (impl_in_R in_) (impl_in_O in_), in_ = true, ACalls cx.P 60 [vi q.Seq, vi 1, vi 1000] (impl_in_R in_1) (impl_in_O in_1)] (.cons (impl_in_ok q.Who 0 2 in_ hin_) (.cons e1 (.cons (impl_in_ok q.Seq 1 1000 in_1 hin_1) .nil))) (by kernel_rfl)).is (congrArg impl_reqOk_R e) (congrArg impl_reqOk_O e)))) (fun e1 h =>
 (someD h fun e => (Fin.fin (cx := cx) (X := impl_reqOk_X) (res := impl_reqOk_R false) (outs := impl_reqOk_O false) Try.func42 [[], [(2, { a := .call [.val [] [], .val [] [], .val [] []] false (impl_in_R in_) (impl_in_O in_) }), (3, { d := some false })]] [ACalls cx.P 60 [vi q.Who, vi 0, vi 2] (impl_in_R in_) (impl_in_O in_), in_ = false] (.cons (impl_in_ok q.Who 0 2 in_ hin_) (.cons e1 .nil)) (by kernel_rfl)).is (congrArg impl_reqOk_R e) (congrArg impl_reqOk_O e)))))
theorem impl_reqOk_ok (q : TReq) (r : Bool) (h : impl_reqOk q = some r) : ACalls cx.P 42 [.agg (eReq q)] (impl_reqOk_R r) (impl_reqOk_O r) :=
  ACalls.of (cx := cx) (X := impl_reqOk_X) (c := impl_reqOk_c) Try.func42 (by kernel_rfl) (by kernel_rfl) (by kernel_rfl) (impl_reqOk_fin q r h)

/-! ### impl_ExecOk -/
noncomputable def impl_ExecOk_c : Code := bodyOf Try.f43
noncomputable def impl_ExecOk_X : Sig := { f := 43, fn := Try.f43, rms := [.val [] []], oms := [none] }
noncomputable def impl_ExecOk_R (r : Bool) : V := .b r
noncomputable def impl_ExecOk_O (r : Bool) : List (Option V) := [none]
noncomputable def impl_ExecOk_k1 : List Item := posI 2000 2 [false] [.code impl_ExecOk_c]
noncomputable def impl_ExecOk_S1 (r_ : TRun) : St := ⟨(bs 1 (.ptr 1 0 0 :: (bs 98 []))), [some [], some [.var 45 [vsl 2 eRead r_.Reads, vsl 2 ePut r_.Puts, vi r_.Val, vi r_.Code]]]⟩
noncomputable def impl_ExecOk_k2 : List Item := posI 2000 5 [false, false] [.code impl_ExecOk_c]
noncomputable def impl_ExecOk_S2 (r_ : TRun) : St := ⟨(bs 1 (.ptr 1 0 0 :: (bs 2 (.ptr 2 0 0 :: (bs 95 []))))), [some [], some [.var 45 [vsl 2 eRead r_.Reads, vsl 2 ePut r_.Puts, vi r_.Val, vi r_.Code]], some [.arr 101 1 4 ((List.replicate 4 false).map eB)]]⟩
noncomputable def impl_ExecOk_k3 : List Item := posI 2000 7 [false, false, false] [.code impl_ExecOk_c]
noncomputable def impl_ExecOk_S3 : St := ⟨(bs 100 []), [some []]⟩
noncomputable def impl_ExecOk_k4 : Option Bool :=
  some true
theorem impl_ExecOk_k4_ok (r : Bool) (h : impl_ExecOk_k4 = some r) : Fin cx impl_ExecOk_X (impl_ExecOk_R r) (impl_ExecOk_O r) impl_ExecOk_k3 (impl_ExecOk_S3) :=
  (someD h fun e => (Fin.fin (cx := cx) (X := impl_ExecOk_X) (res := impl_ExecOk_R true) (outs := impl_ExecOk_O true) Try.func43 [[]] [] .nil (by kernel_rfl)).is (congrArg impl_ExecOk_R e) (congrArg impl_ExecOk_O e))
noncomputable def impl_ExecOk_k5 : List Item := posI 2000 6 [false, false] [.code impl_ExecOk_c]
noncomputable def impl_ExecOk_S4 (r_ : TRun) (put : List Bool) (v76 : Int) : St := ⟨(bs 4 (.ptr 1 0 0 :: (bs 69 (vsl 2 ePut r_.Puts :: (vi (r_.Puts.length : Int) :: (vi v76 :: (bs 23 []))))))), [some [], some [.arr 101 1 4 (put.map eB)]]⟩
noncomputable def impl_ExecOk_b1 (r_ : TRun) (put : List Bool) (v76 : Int) : Option (Stp Bool ((List Bool) × Int) Unit) :=
  (bif decide (v76 < (r_.Puts.length : Int)) then
 ((idx r_.Puts v76).bind fun put1 =>
 ((impl_in put1.Box 0 3).bind fun in_ =>
 (bif (!in_) then
 some (Stp.ret false)
 else
 ((idx put put1.Box).bind fun y =>
 (need (put1.Box < 4)
 ((bif y then
 some (Stp.ret false)
 else
 ((impl_in put1.Val (-1000000) 1000000).bind fun in_1 =>
 (bif (!in_1) then
 some (Stp.ret false)
 else
 (need (put1.Box < 4)
 (some (Stp.nxt (put.set put1.Box.toNat true, w64 (v76 + 1))))))))))))))
 else
 some (Stp.brk ()))
theorem impl_ExecOk_b1_ok (r_ : TRun) (res : V) (outs : List (Option V)) (x1 : Exc Bool Unit) (hb1 : ∀ s : Unit, x1 = .brk s → Fin cx impl_ExecOk_X res outs impl_ExecOk_k3 (impl_ExecOk_S3)) (hr1 : ∀ v : Bool, x1 = .ret v → (res = impl_ExecOk_R v ∧ outs = impl_ExecOk_O v)) (st1 : Stp Bool ((List Bool) × Int) Unit) (hc1 : Cont x1 (fun s : (List Bool) × Int => Fin cx impl_ExecOk_X res outs impl_ExecOk_k5 (impl_ExecOk_S4 r_ s.1 s.2)) st1) (put : List Bool) (v76 : Int) (h : impl_ExecOk_b1 r_ put v76 = some st1) : Fin cx impl_ExecOk_X res outs impl_ExecOk_k5 (impl_ExecOk_S4 r_ put v76) :=
  (condD h (fun e1 h =>
 (bindD h fun put1 hput1 h =>
 (bindD h fun in_ hin_ h =>
 (condD h (fun e2 h =>
 (retD h hc1 fun e => (Fin.fin (cx := cx) (X := impl_ExecOk_X) (res := impl_ExecOk_R false) (outs := impl_ExecOk_O false) Try.func43 [[(0, { d := some true })], [(0, { a := .row (ePut put1) })], [(2, { a := .call [.val [] [], .val [] [], .val [] []] false (impl_in_R in_) (impl_in_O in_) }), (4, { d := some true })], []] [decide (v76 < (r_.Puts.length : Int)) = true, (0 : Int) ≤ v76, v76 < ((r_.Puts.length : Nat) : Int), (r_.Puts.map ePut)[v76.toNat]? = some (ePut put1), ACalls cx.P 60 [vi put1.Box, vi 0, vi 3] (impl_in_R in_) (impl_in_O in_), (!in_) = true] (.cons e1 (.cons (idx0 hput1) (.cons (idx1 hput1) (.cons (map_idx hput1) (.cons (impl_in_ok put1.Box 0 3 in_ hin_) (.cons e2 .nil)))))) (by kernel_rfl)).is (hr1 _ e).1 (hr1 _ e).2)) (fun e2 h =>
 (bindD h fun y hy h =>
 (needD h fun e3 h =>
 (condD h (fun e4 h =>
 (retD h hc1 fun e => (Fin.fin (cx := cx) (X := impl_ExecOk_X) (res := impl_ExecOk_R false) (outs := impl_ExecOk_O false) Try.func43 [[(0, { d := some true })], [(0, { a := .row (ePut put1) })], [(2, { a := .call [.val [] [], .val [] [], .val [] []] false (impl_in_R in_) (impl_in_O in_) }), (4, { d := some false }), (8, { a := .row (eB y) }), (10, { d := some true })], []] [decide (v76 < (r_.Puts.length : Int)) = true, (0 : Int) ≤ v76, v76 < ((r_.Puts.length : Nat) : Int), (r_.Puts.map ePut)[v76.toNat]? = some (ePut put1), ACalls cx.P 60 [vi put1.Box, vi 0, vi 3] (impl_in_R in_) (impl_in_O in_), (!in_) = false, (0 : Int) ≤ put1.Box, put1.Box < ((4 : Nat) : Int), (put.map eB)[put1.Box.toNat]? = some (eB y), y = true] (.cons e1 (.cons (idx0 hput1) (.cons (idx1 hput1) (.cons (map_idx hput1) (.cons (impl_in_ok put1.Box 0 3 in_ hin_) (.cons e2 (.cons (idx0 hy) (.cons e3 (.cons (map_idx hy) (.cons e4 .nil)))))))))) (by kernel_rfl)).is (hr1 _ e).1 (hr1 _ e).2)) (fun e4 h =>
 (bindD h fun in_1 hin_1 h =>
 (condD h (fun e5 h =>
 (retD h hc1 fun e => (Fin.fin (cx := cx) (X := impl_ExecOk_X) (res := impl_ExecOk_R false) (outs := impl_ExecOk_O false) Try.func43 [[(0, { d := some true })], [(0, { a := .row (ePut put1) })], [(2, { a := .call [.val [] [], .val [] [], .val [] []] false (impl_in_R in_) (impl_in_O in_) }), (4, { d := some false }), (8, { a := .row (eB y) }), (10, { d := some false }), (13, { a := .call [.val [] [], .val [] [], .val [] []] false (impl_in_R in_1) (impl_in_O in_1) }), (15, { d := some true })], []] [decide (v76 < (r_.Puts.length : Int)) = true, (0 : Int) ≤ v76, v76 < ((r_.Puts.length : Nat) : Int), (r_.Puts.map ePut)[v76.toNat]? = some (ePut put1), ACalls cx.P 60 [vi put1.Box, vi 0, vi 3] (impl_in_R in_) (impl_in_O in_), (!in_) = false, (0 : Int) ≤ put1.Box, put1.Box < ((4 : Nat) : Int), (put.map eB)[put1.Box.toNat]? = some (eB y), y = false, ACalls cx.P 60 [vi put1.Val, vi (-1000000), vi 1000000] (impl_in_R in_1) (impl_in_O in_1), (!in_1) = true] (.cons e1 (.cons (idx0 hput1) (.cons (idx1 hput1) (.cons (map_idx hput1) (.cons (impl_in_ok put1.Box 0 3 in_ hin_) (.cons e2 (.cons (idx0 hy) (.cons e3 (.cons (map_idx hy) (.cons e4 (.cons (impl_in_ok put1.Val (-1000000) 1000000 in_1 hin_1) (.cons e5 .nil)))))))))))) (by kernel_rfl)).is (hr1 _ e).1 (hr1 _ e).2)) (fun e5 h =>
 (needD h fun e6 h =>
 (nxtD h hc1 fun hI => (Fin.seg [[(0, { d := some true })], [(0, { a := .row (ePut put1) })], [(2, { a := .call [.val [] [], .val [] [], .val [] []] false (impl_in_R in_) (impl_in_O in_) }), (4, { d := some false }), (8, { a := .row (eB y) }), (10, { d := some false }), (13, { a := .call [.val [] [], .val [] [], .val [] []] false (impl_in_R in_1) (impl_in_O in_1) }), (15, { d := some false })], [(3, { a := .rowck (eB y) [], e := some (.arr 101 1 4 ((put.set put1.Box.toNat true).map eB)) })], []] [] [4, 74, 75, 76] [(1, 0)] [decide (v76 < (r_.Puts.length : Int)) = true, (0 : Int) ≤ v76, v76 < ((r_.Puts.length : Nat) : Int), (r_.Puts.map ePut)[v76.toNat]? = some (ePut put1), ACalls cx.P 60 [vi put1.Box, vi 0, vi 3] (impl_in_R in_) (impl_in_O in_), (!in_) = false, (0 : Int) ≤ put1.Box, put1.Box < ((4 : Nat) : Int), (put.map eB)[put1.Box.toNat]? = some (eB y), y = false, ACalls cx.P 60 [vi put1.Val, vi (-1000000), vi 1000000] (impl_in_R in_1) (impl_in_O in_1), (!in_1) = false, (0 : Int) ≤ put1.Box, put1.Box < ((4 : Nat) : Int), Ent.arr 101 1 4 ((put.map eB).set (put1.Box.toNat) [.b true]) = Ent.arr 101 1 4 ((put.set put1.Box.toNat true).map eB), (put.map eB)[put1.Box.toNat]? = some (eB y)] (.cons e1 (.cons (idx0 hput1) (.cons (idx1 hput1) (.cons (map_idx hput1) (.cons (impl_in_ok put1.Box 0 3 in_ hin_) (.cons e2 (.cons (idx0 hy) (.cons e3 (.cons (map_idx hy) (.cons e4 (.cons (impl_in_ok put1.Val (-1000000) 1000000 in_1 hin_1) (.cons e5 (.cons (idx0 hy) (.cons e6 (.cons (arr_set rfl) (.cons (map_idx hy) .nil)))))))))))))))) hI (by kernel_rfl)))))))))))))))) (fun e1 h =>
 (brkD h hc1 fun e => (Fin.seg [[(0, { d := some false })]] [] [] [] [decide (v76 < (r_.Puts.length : Int)) = false] (.cons e1 .nil) (hb1 _ e) (by kernel_rfl)))))
theorem impl_ExecOk_b1_loop (r_ : TRun) (res : V) (outs : List (Option V)) (x1 : Exc Bool Unit) (hb1 : ∀ s : Unit, x1 = .brk s → Fin cx impl_ExecOk_X res outs impl_ExecOk_k3 (impl_ExecOk_S3)) (hr1 : ∀ v : Bool, x1 = .ret v → (res = impl_ExecOk_R v ∧ outs = impl_ExecOk_O v)) (s : (List Bool) × Int) (h : loop (fun s : (List Bool) × Int => impl_ExecOk_b1 r_ s.1 s.2) s = some x1) : Fin cx impl_ExecOk_X res outs impl_ExecOk_k5 (impl_ExecOk_S4 r_ s.1 s.2) :=
  loopD (I := fun s : (List Bool) × Int => Fin cx impl_ExecOk_X res outs impl_ExecOk_k5 (impl_ExecOk_S4 r_ s.1 s.2)) h fun s st h hc => impl_ExecOk_b1_ok r_ res outs x1 hb1 hr1 st hc s.1 s.2 h
noncomputable def impl_ExecOk_k6 (r_ : TRun) : Option Bool :=
  ((loop (fun s : (List Bool) × Int => impl_ExecOk_b1 r_ s.1 s.2) (List.replicate 4 false, 0)).bind fun x => x.go (fun r => some r) fun s => impl_ExecOk_k4)
theorem impl_ExecOk_k6_ok (r_ : TRun) (r : Bool) (h : impl_ExecOk_k6 r_ = some r) : Fin cx impl_ExecOk_X (impl_ExecOk_R r) (impl_ExecOk_O r) impl_ExecOk_k2 (impl_ExecOk_S2 r_) :=
  (loopJ h fun x hl hr hb => (Fin.seg [[]] [] [4, 74, 75, 76] [(2, 0)] [] .nil (impl_ExecOk_b1_loop r_ _ _ x (fun s e => impl_ExecOk_k4_ok r (hb s e)) (fun v e => ⟨congrArg impl_ExecOk_R (Option.some.inj (hr v e)).symm, congrArg impl_ExecOk_O (Option.some.inj (hr v e)).symm⟩) (List.replicate 4 false, 0) hl) (by kernel_rfl)))
noncomputable def impl_ExecOk_k7 : List Item := posI 2000 4 [false] [.code impl_ExecOk_c]
noncomputable def impl_ExecOk_S5 (r_ : TRun) (read : List Bool) (v49 : Int) : St := ⟨(bs 1 (.ptr 1 0 0 :: (bs 1 (.ptr 2 0 0 :: (.ptr 3 0 0 :: (bs 42 (vsl 2 eRead r_.Reads :: (vi (r_.Reads.length : Int) :: (vi v49 :: (bs 50 [])))))))))), [some [], some [.var 45 [vsl 2 eRead r_.Reads, vsl 2 ePut r_.Puts, vi r_.Val, vi r_.Code]], some [.arr 101 1 4 (read.map eB)], some [.arr 101 1 4 ((List.replicate 4 false).map eB)]]⟩
noncomputable def impl_ExecOk_b2 (r_ : TRun) (read : List Bool) (v49 : Int) : Option (Stp Bool ((List Bool) × Int) Unit) :=
  (bif decide (v49 < (r_.Reads.length : Int)) then
 ((idx r_.Reads v49).bind fun read1 =>
 ((impl_in read1.Box 0 3).bind fun in_2 =>
 (bif (!in_2) then
 some (Stp.ret false)
 else
 ((idx read read1.Box).bind fun y1 =>
 (need (read1.Box < 4)
 ((bif y1 then
 some (Stp.ret false)
 else
 ((impl_in read1.Ver 0 1000000).bind fun in_3 =>
 (bif (!in_3) then
 some (Stp.ret false)
 else
 (need (read1.Box < 4)
 (some (Stp.nxt (read.set read1.Box.toNat true, w64 (v49 + 1))))))))))))))
 else
 some (Stp.brk ()))
theorem impl_ExecOk_b2_ok (r_ : TRun) (res : V) (outs : List (Option V)) (x1 : Exc Bool Unit) (hb1 : ∀ s : Unit, x1 = .brk s → Fin cx impl_ExecOk_X res outs impl_ExecOk_k2 (impl_ExecOk_S2 r_)) (hr1 : ∀ v : Bool, x1 = .ret v → (res = impl_ExecOk_R v ∧ outs = impl_ExecOk_O v)) (st1 : Stp Bool ((List Bool) × Int) Unit) (hc1 : Cont x1 (fun s : (List Bool) × Int => Fin cx impl_ExecOk_X res outs impl_ExecOk_k7 (impl_ExecOk_S5 r_ s.1 s.2)) st1) (read : List Bool) (v49 : Int) (h : impl_ExecOk_b2 r_ read v49 = some st1) : Fin cx impl_ExecOk_X res outs impl_ExecOk_k7 (impl_ExecOk_S5 r_ read v49) :=
  (condD h (fun e7 h =>
 (bindD h fun read1 hread1 h =>
 (bindD h fun in_2 hin_2 h =>
 (condD h (fun e8 h =>
 (retD h hc1 fun e => (Fin.fin (cx := cx) (X := impl_ExecOk_X) (res := impl_ExecOk_R false) (outs := impl_ExecOk_O false) Try.func43 [[(0, { d := some true })], [(0, { a := .row (eRead read1) })], [(2, { a := .call [.val [] [], .val [] [], .val [] []] false (impl_in_R in_2) (impl_in_O in_2) }), (4, { d := some true })], []] [decide (v49 < (r_.Reads.length : Int)) = true, (0 : Int) ≤ v49, v49 < ((r_.Reads.length : Nat) : Int), (r_.Reads.map eRead)[v49.toNat]? = some (eRead read1), ACalls cx.P 60 [vi read1.Box, vi 0, vi 3] (impl_in_R in_2) (impl_in_O in_2), (!in_2) = true] (.cons e7 (.cons (idx0 hread1) (.cons (idx1 hread1) (.cons (map_idx hread1) (.cons (impl_in_ok read1.Box 0 3 in_2 hin_2) (.cons e8 .nil)))))) (by kernel_rfl)).is (hr1 _ e).1 (hr1 _ e).2)) (fun e8 h =>
 (bindD h fun y1 hy1 h =>
 (needD h fun e9 h =>
 (condD h (fun e10 h =>
 (retD h hc1 fun e => (Fin.fin (cx := cx) (X := impl_ExecOk_X) (res := impl_ExecOk_R false) (outs := impl_ExecOk_O false) Try.func43 [[(0, { d := some true })], [(0, { a := .row (eRead read1) })], [(2, { a := .call [.val [] [], .val [] [], .val [] []] false (impl_in_R in_2) (impl_in_O in_2) }), (4, { d := some false }), (8, { a := .row (eB y1) }), (10, { d := some true })], []] [decide (v49 < (r_.Reads.length : Int)) = true, (0 : Int) ≤ v49, v49 < ((r_.Reads.length : Nat) : Int), (r_.Reads.map eRead)[v49.toNat]? = some (eRead read1), ACalls cx.P 60 [vi read1.Box, vi 0, vi 3] (impl_in_R in_2) (impl_in_O in_2), (!in_2) = false, (0 : Int) ≤ read1.Box, read1.Box < ((4 : Nat) : Int), (read.map eB)[read1.Box.toNat]? = some (eB y1), y1 = true] (.cons e7 (.cons (idx0 hread1) (.cons (idx1 hread1) (.cons (map_idx hread1) (.cons (impl_in_ok read1.Box 0 3 in_2 hin_2) (.cons e8 (.cons (idx0 hy1) (.cons e9 (.cons (map_idx hy1) (.cons e10 .nil)))))))))) (by kernel_rfl)).is (hr1 _ e).1 (hr1 _ e).2)) (fun e10 h =>
 (bindD h fun in_3 hin_3 h =>
 (condD h (fun e11 h =>
 (retD h hc1 fun e => (Fin.fin (cx := cx) (X := impl_ExecOk_X) (res := impl_ExecOk_R false) (outs := impl_ExecOk_O false) Try.func43 [[(0, { d := some true })], [(0, { a := .row (eRead read1) })], [(2, { a := .call [.val [] [], .val [] [], .val [] []] false (impl_in_R in_2) (impl_in_O in_2) }), (4, { d := some false }), (8, { a := .row (eB y1) }), (10, { d := some false }), (13, { a := .call [.val [] [], .val [] [], .val [] []] false (impl_in_R in_3) (impl_in_O in_3) }), (15, { d := some true })], []] [decide (v49 < (r_.Reads.length : Int)) = true, (0 : Int) ≤ v49, v49 < ((r_.Reads.length : Nat) : Int), (r_.Reads.map eRead)[v49.toNat]? = some (eRead read1), ACalls cx.P 60 [vi read1.Box, vi 0, vi 3] (impl_in_R in_2) (impl_in_O in_2), (!in_2) = false, (0 : Int) ≤ read1.Box, read1.Box < ((4 : Nat) : Int), (read.map eB)[read1.Box.toNat]? = some (eB y1), y1 = false, ACalls cx.P 60 [vi read1.Ver, vi 0, vi 1000000] (impl_in_R in_3) (impl_in_O in_3), (!in_3) = true] (.cons e7 (.cons (idx0 hread1) (.cons (idx1 hread1) (.cons (map_idx hread1) (.cons (impl_in_ok read1.Box 0 3 in_2 hin_2) (.cons e8 (.cons (idx0 hy1) (.cons e9 (.cons (map_idx hy1) (.cons e10 (.cons (impl_in_ok read1.Ver 0 1000000 in_3 hin_3) (.cons e11 .nil)))))))))))) (by kernel_rfl)).is (hr1 _ e).1 (hr1 _ e).2)) (fun e11 h =>
 (needD h fun e12 h =>
 (nxtD h hc1 fun hI => (Fin.seg [[(0, { d := some true })], [(0, { a := .row (eRead read1) })], [(2, { a := .call [.val [] [], .val [] [], .val [] []] false (impl_in_R in_2) (impl_in_O in_2) }), (4, { d := some false }), (8, { a := .row (eB y1) }), (10, { d := some false }), (13, { a := .call [.val [] [], .val [] [], .val [] []] false (impl_in_R in_3) (impl_in_O in_3) }), (15, { d := some false })], [(3, { a := .rowck (eB y1) [], e := some (.arr 101 1 4 ((read.set read1.Box.toNat true).map eB)) })], []] [] [1, 3, 4, 47, 48, 49] [(1, 0), (2, 0), (3, 0)] [decide (v49 < (r_.Reads.length : Int)) = true, (0 : Int) ≤ v49, v49 < ((r_.Reads.length : Nat) : Int), (r_.Reads.map eRead)[v49.toNat]? = some (eRead read1), ACalls cx.P 60 [vi read1.Box, vi 0, vi 3] (impl_in_R in_2) (impl_in_O in_2), (!in_2) = false, (0 : Int) ≤ read1.Box, read1.Box < ((4 : Nat) : Int), (read.map eB)[read1.Box.toNat]? = some (eB y1), y1 = false, ACalls cx.P 60 [vi read1.Ver, vi 0, vi 1000000] (impl_in_R in_3) (impl_in_O in_3), (!in_3) = false, (0 : Int) ≤ read1.Box, read1.Box < ((4 : Nat) : Int), Ent.arr 101 1 4 ((read.map eB).set (read1.Box.toNat) [.b true]) = Ent.arr 101 1 4 ((read.set read1.Box.toNat true).map eB), (read.map eB)[read1.Box.toNat]? = some (eB y1)] (.cons e7 (.cons (idx0 hread1) (.cons (idx1 hread1) (.cons (map_idx hread1) (.cons (impl_in_ok read1.Box 0 3 in_2 hin_2) (.cons e8 (.cons (idx0 hy1) (.cons e9 (.cons (map_idx hy1) (.cons e10 (.cons (impl_in_ok read1.Ver 0 1000000 in_3 hin_3) (.cons e11 (.cons (idx0 hy1) (.cons e12 (.cons (arr_set rfl) (.cons (map_idx hy1) .nil)))))))))))))))) hI (by kernel_rfl)))))))))))))))) (fun e7 h =>
 (brkD h hc1 fun e => (Fin.seg [[(0, { d := some false })]] [] [1, 4] [(1, 0), (3, 0)] [decide (v49 < (r_.Reads.length : Int)) = false] (.cons e7 .nil) (hb1 _ e) (by kernel_rfl)))))
theorem impl_ExecOk_b2_loop (r_ : TRun) (res : V) (outs : List (Option V)) (x1 : Exc Bool Unit) (hb1 : ∀ s : Unit, x1 = .brk s → Fin cx impl_ExecOk_X res outs impl_ExecOk_k2 (impl_ExecOk_S2 r_)) (hr1 : ∀ v : Bool, x1 = .ret v → (res = impl_ExecOk_R v ∧ outs = impl_ExecOk_O v)) (s : (List Bool) × Int) (h : loop (fun s : (List Bool) × Int => impl_ExecOk_b2 r_ s.1 s.2) s = some x1) : Fin cx impl_ExecOk_X res outs impl_ExecOk_k7 (impl_ExecOk_S5 r_ s.1 s.2) :=
  loopD (I := fun s : (List Bool) × Int => Fin cx impl_ExecOk_X res outs impl_ExecOk_k7 (impl_ExecOk_S5 r_ s.1 s.2)) h fun s st h hc => impl_ExecOk_b2_ok r_ res outs x1 hb1 hr1 st hc s.1 s.2 h
noncomputable def impl_ExecOk_j1 (r_ : TRun) : Option Bool :=
  ((loop (fun s : (List Bool) × Int => impl_ExecOk_b2 r_ s.1 s.2) (List.replicate 4 false, 0)).bind fun x => x.go (fun r => some r) fun s => impl_ExecOk_k6 r_)
theorem impl_ExecOk_j1_ok (r_ : TRun) (r : Bool) (h : impl_ExecOk_j1 r_ = some r) : Fin cx impl_ExecOk_X (impl_ExecOk_R r) (impl_ExecOk_O r) impl_ExecOk_k1 (impl_ExecOk_S1 r_) :=
  (loopJ h fun x hl hr hb => (Fin.seg [[], []] [] [1, 3, 4, 47, 48, 49] [(1, 0), (2, 0), (3, 0)] [(List.replicate 4 ([.b false] : List V)).flatten = [.b false, .b false, .b false, .b false] ∧ ([.b false] : List V).length = 1, (List.replicate 4 ([.b false] : List V)).flatten = [.b false, .b false, .b false, .b false] ∧ ([.b false] : List V).length = 1] (.cons ⟨rfl, rfl⟩ (.cons ⟨rfl, rfl⟩ .nil)) (impl_ExecOk_b2_loop r_ _ _ x (fun s e => impl_ExecOk_k6_ok r_ r (hb s e)) (fun v e => ⟨congrArg impl_ExecOk_R (Option.some.inj (hr v e)).symm, congrArg impl_ExecOk_O (Option.some.inj (hr v e)).symm⟩) (List.replicate 4 false, 0) hl) (by kernel_rfl)))
noncomputable def impl_ExecOk (r_ : TRun) : Option Bool :=
  ((((impl_in r_.Code 0 3).bind fun in_4 =>
 (bif (!in_4) then
 some (Exc.ret false)
 else
 ((impl_in r_.Val (-1000000) 1000000).bind fun in_5 =>
 (bif (!in_5) then
 some (Exc.ret false)
 else
 (bif (r_.Code != 0) then
 (bif (r_.Val != 0) then
 some (Exc.ret false)
 else
 (bif decide ((r_.Puts.length : Int) > 0) then
 some (Exc.ret false)
 else
 (bif (r_.Code == 3) then
 (bif decide ((r_.Reads.length : Int) > 0) then
 some (Exc.ret false)
 else
 some (Exc.brk ()))
 else
 some (Exc.brk ()))))
 else
 (bif (r_.Code == 3) then
 (bif decide ((r_.Reads.length : Int) > 0) then
 some (Exc.ret false)
 else
 some (Exc.brk ()))
 else
 some (Exc.brk ()))))))) : Option (Exc Bool Unit)).bind fun x => x.go some fun j => impl_ExecOk_j1 r_)
theorem impl_ExecOk_fin (r_ : TRun) (r : Bool) (h : impl_ExecOk r_ = some r) : Fin cx impl_ExecOk_X (impl_ExecOk_R r) (impl_ExecOk_O r) [.code impl_ExecOk_c] (startS impl_ExecOk_X [.agg (eRun r_)]) :=
  (joinD (I := fun j : Unit => Fin cx impl_ExecOk_X (impl_ExecOk_R r) (impl_ExecOk_O r) impl_ExecOk_k1 (impl_ExecOk_S1 r_)) h (fun j h => impl_ExecOk_j1_ok r_ r h) (fun x1 h hc1 =>
  (bindD h fun in_4 hin_4 h =>
 (condD h (fun e13 h =>
 (jretD h hc1 fun h => (someD h fun e => (Fin.fin (cx := cx) (X := impl_ExecOk_X) (res := impl_ExecOk_R false) (outs := impl_ExecOk_O false) Try.func43 [[], [(2, { a := .call [.val [] [], .val [] [], .val [] []] false (impl_in_R in_4) (impl_in_O in_4) }), (4, { d := some true })], []] [ACalls cx.P 60 [vi r_.Code, vi 0, vi 3] (impl_in_R in_4) (impl_in_O in_4), (!in_4) = true] (.cons (impl_in_ok r_.Code 0 3 in_4 hin_4) (.cons e13 .nil)) (by kernel_rfl)).is (congrArg impl_ExecOk_R e) (congrArg impl_ExecOk_O e)))) (fun e13 h =>
 (bindD h fun in_5 hin_5 h =>
 (condD h (fun e14 h =>
 (jretD h hc1 fun h => (someD h fun e => (Fin.fin (cx := cx) (X := impl_ExecOk_X) (res := impl_ExecOk_R false) (outs := impl_ExecOk_O false) Try.func43 [[], [(2, { a := .call [.val [] [], .val [] [], .val [] []] false (impl_in_R in_4) (impl_in_O in_4) }), (4, { d := some false }), (7, { a := .call [.val [] [], .val [] [], .val [] []] false (impl_in_R in_5) (impl_in_O in_5) }), (10, { d := some true })], []] [ACalls cx.P 60 [vi r_.Code, vi 0, vi 3] (impl_in_R in_4) (impl_in_O in_4), (!in_4) = false, ACalls cx.P 60 [vi r_.Val, vi (-1000000), vi 1000000] (impl_in_R in_5) (impl_in_O in_5), (!in_5) = true] (.cons (impl_in_ok r_.Code 0 3 in_4 hin_4) (.cons e13 (.cons (impl_in_ok r_.Val (-1000000) 1000000 in_5 hin_5) (.cons e14 .nil)))) (by kernel_rfl)).is (congrArg impl_ExecOk_R e) (congrArg impl_ExecOk_O e)))) (fun e14 h =>
 (condD h (fun e15 h =>
 (condD h (fun e16 h =>
 (jretD h hc1 fun h => (someD h fun e => (Fin.fin (cx := cx) (X := impl_ExecOk_X) (res := impl_ExecOk_R false) (outs := impl_ExecOk_O false) Try.func43 [[], [(2, { a := .call [.val [] [], .val [] [], .val [] []] false (impl_in_R in_4) (impl_in_O in_4) }), (4, { d := some false }), (7, { a := .call [.val [] [], .val [] [], .val [] []] false (impl_in_R in_5) (impl_in_O in_5) }), (10, { d := some false }), (14, { d := some true }), (18, { d := some true })], []] [ACalls cx.P 60 [vi r_.Code, vi 0, vi 3] (impl_in_R in_4) (impl_in_O in_4), (!in_4) = false, ACalls cx.P 60 [vi r_.Val, vi (-1000000), vi 1000000] (impl_in_R in_5) (impl_in_O in_5), (!in_5) = false, (r_.Code != 0) = true, (r_.Val != 0) = true] (.cons (impl_in_ok r_.Code 0 3 in_4 hin_4) (.cons e13 (.cons (impl_in_ok r_.Val (-1000000) 1000000 in_5 hin_5) (.cons e14 (.cons e15 (.cons e16 .nil)))))) (by kernel_rfl)).is (congrArg impl_ExecOk_R e) (congrArg impl_ExecOk_O e)))) (fun e16 h =>
 (condD h (fun e17 h =>
 (jretD h hc1 fun h => (someD h fun e => (Fin.fin (cx := cx) (X := impl_ExecOk_X) (res := impl_ExecOk_R false) (outs := impl_ExecOk_O false) Try.func43 [[], [(2, { a := .call [.val [] [], .val [] [], .val [] []] false (impl_in_R in_4) (impl_in_O in_4) }), (4, { d := some false }), (7, { a := .call [.val [] [], .val [] [], .val [] []] false (impl_in_R in_5) (impl_in_O in_5) }), (10, { d := some false }), (14, { d := some true }), (18, { d := some false }), (26, { d := some true })], []] [ACalls cx.P 60 [vi r_.Code, vi 0, vi 3] (impl_in_R in_4) (impl_in_O in_4), (!in_4) = false, ACalls cx.P 60 [vi r_.Val, vi (-1000000), vi 1000000] (impl_in_R in_5) (impl_in_O in_5), (!in_5) = false, (r_.Code != 0) = true, (r_.Val != 0) = false, decide ((r_.Puts.length : Int) > 0) = true] (.cons (impl_in_ok r_.Code 0 3 in_4 hin_4) (.cons e13 (.cons (impl_in_ok r_.Val (-1000000) 1000000 in_5 hin_5) (.cons e14 (.cons e15 (.cons e16 (.cons e17 .nil))))))) (by kernel_rfl)).is (congrArg impl_ExecOk_R e) (congrArg impl_ExecOk_O e)))) (fun e17 h =>
 (condD h (fun e18 h =>
 (condD h (fun e19 h =>
 (jretD h hc1 fun h => (someD h fun e => (Fin.fin (cx := cx) (X := impl_ExecOk_X) (res := impl_ExecOk_R false) (outs := impl_ExecOk_O false) Try.func43 [[], [(2, { a := .call [.val [] [], .val [] [], .val [] []] false (impl_in_R in_4) (impl_in_O in_4) }), (4, { d := some false }), (7, { a := .call [.val [] [], .val [] [], .val [] []] false (impl_in_R in_5) (impl_in_O in_5) }), (10, { d := some false }), (14, { d := some true }), (18, { d := some false }), (26, { d := some false }), (30, { d := some true }), (36, { d := some true })], []] [ACalls cx.P 60 [vi r_.Code, vi 0, vi 3] (impl_in_R in_4) (impl_in_O in_4), (!in_4) = false, ACalls cx.P 60 [vi r_.Val, vi (-1000000), vi 1000000] (impl_in_R in_5) (impl_in_O in_5), (!in_5) = false, (r_.Code != 0) = true, (r_.Val != 0) = false, decide ((r_.Puts.length : Int) > 0) = false, (r_.Code == 3) = true, decide ((r_.Reads.length : Int) > 0) = true] (.cons (impl_in_ok r_.Code 0 3 in_4 hin_4) (.cons e13 (.cons (impl_in_ok r_.Val (-1000000) 1000000 in_5 hin_5) (.cons e14 (.cons e15 (.cons e16 (.cons e17 (.cons e18 (.cons e19 .nil))))))))) (by kernel_rfl)).is (congrArg impl_ExecOk_R e) (congrArg impl_ExecOk_O e)))) (fun e19 h =>
 (jbrkD h hc1 fun hI => (Fin.seg [[], [(2, { a := .call [.val [] [], .val [] [], .val [] []] false (impl_in_R in_4) (impl_in_O in_4) }), (4, { d := some false }), (7, { a := .call [.val [] [], .val [] [], .val [] []] false (impl_in_R in_5) (impl_in_O in_5) }), (10, { d := some false }), (14, { d := some true }), (18, { d := some false }), (26, { d := some false }), (30, { d := some true }), (36, { d := some false })]] [] [1] [(1, 0)] [ACalls cx.P 60 [vi r_.Code, vi 0, vi 3] (impl_in_R in_4) (impl_in_O in_4), (!in_4) = false, ACalls cx.P 60 [vi r_.Val, vi (-1000000), vi 1000000] (impl_in_R in_5) (impl_in_O in_5), (!in_5) = false, (r_.Code != 0) = true, (r_.Val != 0) = false, decide ((r_.Puts.length : Int) > 0) = false, (r_.Code == 3) = true, decide ((r_.Reads.length : Int) > 0) = false] (.cons (impl_in_ok r_.Code 0 3 in_4 hin_4) (.cons e13 (.cons (impl_in_ok r_.Val (-1000000) 1000000 in_5 hin_5) (.cons e14 (.cons e15 (.cons e16 (.cons e17 (.cons e18 (.cons e19 .nil))))))))) hI (by kernel_rfl)))))) (fun e18 h =>
 (jbrkD h hc1 fun hI => (Fin.seg [[], [(2, { a := .call [.val [] [], .val [] [], .val [] []] false (impl_in_R in_4) (impl_in_O in_4) }), (4, { d := some false }), (7, { a := .call [.val [] [], .val [] [], .val [] []] false (impl_in_R in_5) (impl_in_O in_5) }), (10, { d := some false }), (14, { d := some true }), (18, { d := some false }), (26, { d := some false }), (30, { d := some false })]] [] [1] [(1, 0)] [ACalls cx.P 60 [vi r_.Code, vi 0, vi 3] (impl_in_R in_4) (impl_in_O in_4), (!in_4) = false, ACalls cx.P 60 [vi r_.Val, vi (-1000000), vi 1000000] (impl_in_R in_5) (impl_in_O in_5), (!in_5) = false, (r_.Code != 0) = true, (r_.Val != 0) = false, decide ((r_.Puts.length : Int) > 0) = false, (r_.Code == 3) = false] (.cons (impl_in_ok r_.Code 0 3 in_4 hin_4) (.cons e13 (.cons (impl_in_ok r_.Val (-1000000) 1000000 in_5 hin_5) (.cons e14 (.cons e15 (.cons e16 (.cons e17 (.cons e18 .nil)))))))) hI (by kernel_rfl)))))))))) (fun e15 h =>
 (condD h (fun e20 h =>
 (condD h (fun e21 h =>
 (jretD h hc1 fun h => (someD h fun e => (Fin.fin (cx := cx) (X := impl_ExecOk_X) (res := impl_ExecOk_R false) (outs := impl_ExecOk_O false) Try.func43 [[], [(2, { a := .call [.val [] [], .val [] [], .val [] []] false (impl_in_R in_4) (impl_in_O in_4) }), (4, { d := some false }), (7, { a := .call [.val [] [], .val [] [], .val [] []] false (impl_in_R in_5) (impl_in_O in_5) }), (10, { d := some false }), (14, { d := some false }), (30, { d := some true }), (36, { d := some true })], []] [ACalls cx.P 60 [vi r_.Code, vi 0, vi 3] (impl_in_R in_4) (impl_in_O in_4), (!in_4) = false, ACalls cx.P 60 [vi r_.Val, vi (-1000000), vi 1000000] (impl_in_R in_5) (impl_in_O in_5), (!in_5) = false, (r_.Code != 0) = false, (r_.Code == 3) = true, decide ((r_.Reads.length : Int) > 0) = true] (.cons (impl_in_ok r_.Code 0 3 in_4 hin_4) (.cons e13 (.cons (impl_in_ok r_.Val (-1000000) 1000000 in_5 hin_5) (.cons e14 (.cons e15 (.cons e20 (.cons e21 .nil))))))) (by kernel_rfl)).is (congrArg impl_ExecOk_R e) (congrArg impl_ExecOk_O e)))) (fun e21 h =>
 (jbrkD h hc1 fun hI => (Fin.seg [[], [(2, { a := .call [.val [] [], .val [] [], .val [] []] false (impl_in_R in_4) (impl_in_O in_4) }), (4, { d := some false }), (7, { a := .call [.val [] [], .val [] [], .val [] []] false (impl_in_R in_5) (impl_in_O in_5) }), (10, { d := some false }), (14, { d := some false }), (30, { d := some true }), (36, { d := some false })]] [] [1] [(1, 0)] [ACalls cx.P 60 [vi r_.Code, vi 0, vi 3] (impl_in_R in_4) (impl_in_O in_4), (!in_4) = false, ACalls cx.P 60 [vi r_.Val, vi (-1000000), vi 1000000] (impl_in_R in_5) (impl_in_O in_5), (!in_5) = false, (r_.Code != 0) = false, (r_.Code == 3) = true, decide ((r_.Reads.length : Int) > 0) = false] (.cons (impl_in_ok r_.Code 0 3 in_4 hin_4) (.cons e13 (.cons (impl_in_ok r_.Val (-1000000) 1000000 in_5 hin_5) (.cons e14 (.cons e15 (.cons e20 (.cons e21 .nil))))))) hI (by kernel_rfl)))))) (fun e20 h =>
 (jbrkD h hc1 fun hI => (Fin.seg [[], [(2, { a := .call [.val [] [], .val [] [], .val [] []] false (impl_in_R in_4) (impl_in_O in_4) }), (4, { d := some false }), (7, { a := .call [.val [] [], .val [] [], .val [] []] false (impl_in_R in_5) (impl_in_O in_5) }), (10, { d := some false }), (14, { d := some false }), (30, { d := some false })]] [] [1] [(1, 0)] [ACalls cx.P 60 [vi r_.Code, vi 0, vi 3] (impl_in_R in_4) (impl_in_O in_4), (!in_4) = false, ACalls cx.P 60 [vi r_.Val, vi (-1000000), vi 1000000] (impl_in_R in_5) (impl_in_O in_5), (!in_5) = false, (r_.Code != 0) = false, (r_.Code == 3) = false] (.cons (impl_in_ok r_.Code 0 3 in_4 hin_4) (.cons e13 (.cons (impl_in_ok r_.Val (-1000000) 1000000 in_5 hin_5) (.cons e14 (.cons e15 (.cons e20 .nil)))))) hI (by kernel_rfl)))))))))))))))
theorem impl_ExecOk_ok (r_ : TRun) (r : Bool) (h : impl_ExecOk r_ = some r) : ACalls cx.P 43 [.agg (eRun r_)] (impl_ExecOk_R r) (impl_ExecOk_O r) :=
  ACalls.of (cx := cx) (X := impl_ExecOk_X) (c := impl_ExecOk_c) Try.func43 (by kernel_rfl) (by kernel_rfl) (by kernel_rfl) (impl_ExecOk_fin r_ r h)

/-! ### impl_CertEntry -/
noncomputable def impl_CertEntry_c : Code := bodyOf Try.f24
noncomputable def impl_CertEntry_X : Sig := { f := 24, fn := Try.f24, rms := [.val [] []], oms := [none] }
noncomputable def impl_CertEntry_R (r : Bool) : V := .b r
noncomputable def impl_CertEntry_O (r : Bool) : List (Option V) := [none]
noncomputable def impl_CertEntry (e_ : TEntry) : Option Bool :=
  (bif e_.None then
 ((impl_CertLike e_ (TEntry.mk true (TReq.mk 0 0) (TRun.mk [] [] 0 0))).bind fun certLike =>
 some certLike)
 else
 ((impl_reqOk e_.Req).bind fun reqOk =>
 (bif reqOk then
 ((impl_ExecOk e_.Run).bind fun execOk =>
 (bif execOk then
 some (e_.Run.Code != 3)
 else
 some false))
 else
 some false)))
theorem impl_CertEntry_fin (e_ : TEntry) (r : Bool) (h : impl_CertEntry e_ = some r) : Fin cx impl_CertEntry_X (impl_CertEntry_R r) (impl_CertEntry_O r) [.code impl_CertEntry_c] (startS impl_CertEntry_X [.agg (eEntry e_)]) :=
  (condD h (fun e1 h =>
 (bindD h fun certLike hcertLike h =>
 (someD h fun e => (Fin.fin (cx := cx) (X := impl_CertEntry_X) (res := impl_CertEntry_R certLike) (outs := impl_CertEntry_O certLike) Try.func24 [[], [(1, { d := some true })], [(2, { a := .call [.val [none, none, none, some 2, some 2, none, none] [], .val [none, none, none, some 2, some 2, none, none] []] false (impl_CertLike_R certLike) (impl_CertLike_O certLike) })]] [e_.None = true, ACalls cx.P 41 [.agg (eEntry e_), .agg (eEntry (TEntry.mk true (TReq.mk 0 0) (TRun.mk [] [] 0 0)))] (impl_CertLike_R certLike) (impl_CertLike_O certLike)] (.cons e1 (.cons (impl_CertLike_ok e_ (TEntry.mk true (TReq.mk 0 0) (TRun.mk [] [] 0 0)) certLike hcertLike) .nil)) (by kernel_rfl)).is (congrArg impl_CertEntry_R e) (congrArg impl_CertEntry_O e)))) (fun e1 h =>
 (bindD h fun reqOk hreqOk h =>
 (condD h (fun e2 h =>
 (bindD h fun execOk hexecOk h =>
 (condD h (fun e3 h =>
 (someD h fun e => (Fin.fin (cx := cx) (X := impl_CertEntry_X) (res := impl_CertEntry_R (e_.Run.Code != 3)) (outs := impl_CertEntry_O (e_.Run.Code != 3)) Try.func24 [[], [(1, { d := some false })], [(2, { a := .call [.val [] []] false (impl_reqOk_R reqOk) (impl_reqOk_O reqOk) }), (3, { d := some true }), (6, { a := .call [.val [some 2, some 2, none, none] []] false (impl_ExecOk_R execOk) (impl_ExecOk_O execOk) }), (8, { d := some true })]] [e_.None = false, ACalls cx.P 42 [.agg (eReq e_.Req)] (impl_reqOk_R reqOk) (impl_reqOk_O reqOk), reqOk = true, ACalls cx.P 43 [.agg (eRun e_.Run)] (impl_ExecOk_R execOk) (impl_ExecOk_O execOk), execOk = true] (.cons e1 (.cons (impl_reqOk_ok e_.Req reqOk hreqOk) (.cons e2 (.cons (impl_ExecOk_ok e_.Run execOk hexecOk) (.cons e3 .nil))))) (by kernel_rfl)).is (congrArg impl_CertEntry_R e) (congrArg impl_CertEntry_O e))) (fun e3 h =>
 (someD h fun e => (Fin.fin (cx := cx) (X := impl_CertEntry_X) (res := impl_CertEntry_R false) (outs := impl_CertEntry_O false) Try.func24 [[], [(1, { d := some false })], [(2, { a := .call [.val [] []] false (impl_reqOk_R reqOk) (impl_reqOk_O reqOk) }), (3, { d := some true }), (6, { a := .call [.val [some 2, some 2, none, none] []] false (impl_ExecOk_R execOk) (impl_ExecOk_O execOk) }), (8, { d := some false })]] [e_.None = false, ACalls cx.P 42 [.agg (eReq e_.Req)] (impl_reqOk_R reqOk) (impl_reqOk_O reqOk), reqOk = true, ACalls cx.P 43 [.agg (eRun e_.Run)] (impl_ExecOk_R execOk) (impl_ExecOk_O execOk), execOk = false] (.cons e1 (.cons (impl_reqOk_ok e_.Req reqOk hreqOk) (.cons e2 (.cons (impl_ExecOk_ok e_.Run execOk hexecOk) (.cons e3 .nil))))) (by kernel_rfl)).is (congrArg impl_CertEntry_R e) (congrArg impl_CertEntry_O e)))))) (fun e2 h =>
 (someD h fun e => (Fin.fin (cx := cx) (X := impl_CertEntry_X) (res := impl_CertEntry_R false) (outs := impl_CertEntry_O false) Try.func24 [[], [(1, { d := some false })], [(2, { a := .call [.val [] []] false (impl_reqOk_R reqOk) (impl_reqOk_O reqOk) }), (3, { d := some false })]] [e_.None = false, ACalls cx.P 42 [.agg (eReq e_.Req)] (impl_reqOk_R reqOk) (impl_reqOk_O reqOk), reqOk = false] (.cons e1 (.cons (impl_reqOk_ok e_.Req reqOk hreqOk) (.cons e2 .nil))) (by kernel_rfl)).is (congrArg impl_CertEntry_R e) (congrArg impl_CertEntry_O e)))))))
theorem impl_CertEntry_ok (e_ : TEntry) (r : Bool) (h : impl_CertEntry e_ = some r) : ACalls cx.P 24 [.agg (eEntry e_)] (impl_CertEntry_R r) (impl_CertEntry_O r) :=
  ACalls.of (cx := cx) (X := impl_CertEntry_X) (c := impl_CertEntry_c) Try.func24 (by kernel_rfl) (by kernel_rfl) (by kernel_rfl) (impl_CertEntry_fin e_ r h)

/-! ### impl_listOk -/
noncomputable def impl_listOk_c : Code := bodyOf Try.f14
noncomputable def impl_listOk_X : Sig := { f := 14, fn := Try.f14, rms := [.val [] []], oms := [none] }
noncomputable def impl_listOk_R (r : Bool) : V := .b r
noncomputable def impl_listOk_O (r : Bool) : List (Option V) := [none]
noncomputable def impl_listOk_k1 : List Item := posI 2000 3 [false] [.code impl_listOk_c]
noncomputable def impl_listOk_S1 (list : List TEntry) : St := ⟨(vsl 7 eEntry list :: (bs 17 [])), [some []]⟩
noncomputable def impl_listOk_k2 (list : List TEntry) : Option Bool :=
  some (decide ((list.length : Int) ≤ 40))
theorem impl_listOk_k2_ok (list : List TEntry) (r : Bool) (h : impl_listOk_k2 list = some r) : Fin cx impl_listOk_X (impl_listOk_R r) (impl_listOk_O r) impl_listOk_k1 (impl_listOk_S1 list) :=
  (someD h fun e => (Fin.fin (cx := cx) (X := impl_listOk_X) (res := impl_listOk_R (decide ((list.length : Int) ≤ 40))) (outs := impl_listOk_O (decide ((list.length : Int) ≤ 40))) Try.func14 [[]] [] .nil (by kernel_rfl)).is (congrArg impl_listOk_R e) (congrArg impl_listOk_O e))
noncomputable def impl_listOk_k3 : List Item := posI 2000 2 [] [.code impl_listOk_c]
noncomputable def impl_listOk_S2 (list : List TEntry) (v7 : Int) : St := ⟨(vsl 7 eEntry list :: (bs 4 (vsl 7 eEntry list :: (vi (list.length : Int) :: (vi v7 :: (bs 10 [])))))), [some []]⟩
noncomputable def impl_listOk_b1 (list : List TEntry) (v7 : Int) : Option (Stp Bool Int Unit) :=
  (bif decide (v7 < (list.length : Int)) then
 ((idx list v7).bind fun entry =>
 ((impl_CertEntry entry).bind fun certEntry =>
 (bif (!certEntry) then
 some (Stp.ret false)
 else
 some (Stp.nxt (w64 (v7 + 1))))))
 else
 some (Stp.brk ()))
theorem impl_listOk_b1_ok (list : List TEntry) (res : V) (outs : List (Option V)) (x1 : Exc Bool Unit) (hb1 : ∀ s : Unit, x1 = .brk s → Fin cx impl_listOk_X res outs impl_listOk_k1 (impl_listOk_S1 list)) (hr1 : ∀ v : Bool, x1 = .ret v → (res = impl_listOk_R v ∧ outs = impl_listOk_O v)) (st1 : Stp Bool Int Unit) (hc1 : Cont x1 (fun s : Int => Fin cx impl_listOk_X res outs impl_listOk_k3 (impl_listOk_S2 list s)) st1) (v7 : Int) (h : impl_listOk_b1 list v7 = some st1) : Fin cx impl_listOk_X res outs impl_listOk_k3 (impl_listOk_S2 list v7) :=
  (condD h (fun e1 h =>
 (bindD h fun entry hentry h =>
 (bindD h fun certEntry hcertEntry h =>
 (condD h (fun e2 h =>
 (retD h hc1 fun e => (Fin.fin (cx := cx) (X := impl_listOk_X) (res := impl_listOk_R false) (outs := impl_listOk_O false) Try.func14 [[(0, { d := some true })], [(0, { a := .row (eEntry entry) })], [(1, { a := .call [.val [none, none, none, some 2, some 2, none, none] []] false (impl_CertEntry_R certEntry) (impl_CertEntry_O certEntry) }), (2, { d := some true })], []] [decide (v7 < (list.length : Int)) = true, (0 : Int) ≤ v7, v7 < ((list.length : Nat) : Int), (list.map eEntry)[v7.toNat]? = some (eEntry entry), ACalls cx.P 24 [.agg (eEntry entry)] (impl_CertEntry_R certEntry) (impl_CertEntry_O certEntry), (!certEntry) = true] (.cons e1 (.cons (idx0 hentry) (.cons (idx1 hentry) (.cons (map_idx hentry) (.cons (impl_CertEntry_ok entry certEntry hcertEntry) (.cons e2 .nil)))))) (by kernel_rfl)).is (hr1 _ e).1 (hr1 _ e).2)) (fun e2 h =>
 (nxtD h hc1 fun hI => (Fin.seg [[(0, { d := some true })], [(0, { a := .row (eEntry entry) })], [(1, { a := .call [.val [none, none, none, some 2, some 2, none, none] []] false (impl_CertEntry_R certEntry) (impl_CertEntry_O certEntry) }), (2, { d := some false })], []] [] [0, 5, 6, 7] [] [decide (v7 < (list.length : Int)) = true, (0 : Int) ≤ v7, v7 < ((list.length : Nat) : Int), (list.map eEntry)[v7.toNat]? = some (eEntry entry), ACalls cx.P 24 [.agg (eEntry entry)] (impl_CertEntry_R certEntry) (impl_CertEntry_O certEntry), (!certEntry) = false] (.cons e1 (.cons (idx0 hentry) (.cons (idx1 hentry) (.cons (map_idx hentry) (.cons (impl_CertEntry_ok entry certEntry hcertEntry) (.cons e2 .nil)))))) hI (by kernel_rfl)))))))) (fun e1 h =>
 (brkD h hc1 fun e => (Fin.seg [[(0, { d := some false })]] [] [0] [] [decide (v7 < (list.length : Int)) = false] (.cons e1 .nil) (hb1 _ e) (by kernel_rfl)))))
theorem impl_listOk_b1_loop (list : List TEntry) (res : V) (outs : List (Option V)) (x1 : Exc Bool Unit) (hb1 : ∀ s : Unit, x1 = .brk s → Fin cx impl_listOk_X res outs impl_listOk_k1 (impl_listOk_S1 list)) (hr1 : ∀ v : Bool, x1 = .ret v → (res = impl_listOk_R v ∧ outs = impl_listOk_O v)) (s : Int) (h : loop (fun s : Int => impl_listOk_b1 list s) s = some x1) : Fin cx impl_listOk_X res outs impl_listOk_k3 (impl_listOk_S2 list s) :=
  loopD (I := fun s : Int => Fin cx impl_listOk_X res outs impl_listOk_k3 (impl_listOk_S2 list s)) h fun s st h hc => impl_listOk_b1_ok list res outs x1 hb1 hr1 st hc s h
noncomputable def impl_listOk (list : List TEntry) : Option Bool :=
  ((loop (fun s : Int => impl_listOk_b1 list s) 0).bind fun x => x.go (fun r => some r) fun s => impl_listOk_k2 list)
theorem impl_listOk_fin (list : List TEntry) (r : Bool) (h : impl_listOk list = some r) : Fin cx impl_listOk_X (impl_listOk_R r) (impl_listOk_O r) [.code impl_listOk_c] (startS impl_listOk_X [vsl 7 eEntry list]) :=
  (loopJ h fun x hl hr hb => (Fin.seg [[], []] [] [0, 5, 6, 7] [] [] .nil (impl_listOk_b1_loop list _ _ x (fun s e => impl_listOk_k2_ok list r (hb s e)) (fun v e => ⟨congrArg impl_listOk_R (Option.some.inj (hr v e)).symm, congrArg impl_listOk_O (Option.some.inj (hr v e)).symm⟩) 0 hl) (by kernel_rfl)))
theorem impl_listOk_ok (list : List TEntry) (r : Bool) (h : impl_listOk list = some r) : ACalls cx.P 14 [vsl 7 eEntry list] (impl_listOk_R r) (impl_listOk_O r) :=
  ACalls.of (cx := cx) (X := impl_listOk_X) (c := impl_listOk_c) Try.func14 (by kernel_rfl) (by kernel_rfl) (by kernel_rfl) (impl_listOk_fin list r h)

/-! ### impl_BoxOpen -/
noncomputable def impl_BoxOpen_c : Code := bodyOf Try.f44
noncomputable def impl_BoxOpen_X : Sig := { f := 44, fn := Try.f44, rms := [.val [some 2] []], oms := [] }
noncomputable def impl_BoxOpen_R (r : List TBox) : V := vsl 2 eBox r
noncomputable def impl_BoxOpen_O (r : List TBox) : List (Option V) := []
noncomputable def impl_BoxOpen : Option (List TBox) :=
  (need (0 ≤ (4 : Int) ∧ (4 : Int) * 16 ≤ 140737488355328)
 (some (List.replicate (4 : Int).toNat (TBox.mk 0 0))))
theorem impl_BoxOpen_fin (r : List TBox) (h : impl_BoxOpen  = some r) : Fin cx impl_BoxOpen_X (impl_BoxOpen_R r) (impl_BoxOpen_O r) [.code impl_BoxOpen_c] (startS impl_BoxOpen_X []) :=
  (needD h fun e1 h =>
 (someD h fun e => (Fin.fin (cx := cx) (X := impl_BoxOpen_X) (res := impl_BoxOpen_R (List.replicate (4 : Int).toNat (TBox.mk 0 0))) (outs := impl_BoxOpen_O (List.replicate (4 : Int).toNat (TBox.mk 0 0))) Try.func44 [[], [(0, { e := some (erow 86 2 eBox (List.replicate (4 : Int).toNat (TBox.mk 0 0))), v := some (.own 2 0 2 0 (List.replicate (4 : Int).toNat (TBox.mk 0 0)).length) })]] [V.own 2 0 2 0 (4 : Int).toNat = .own 2 0 2 0 (List.replicate (4 : Int).toNat (TBox.mk 0 0)).length, Ent.row 86 2 (4 : Int).toNat (List.replicate (4 : Int).toNat [vi 0, vi 0]) = erow 86 2 eBox (List.replicate (4 : Int).toNat (TBox.mk 0 0)), (0 : Int) ≤ (4 : Int), (4 : Int) = (4 : Int), (4 : Int) * ((16 : Nat) : Int) ≤ 140737488355328 ∧ 0 < 16, ([vi 0, vi 0] : List V).length = 2, (List.replicate (4 : Int).toNat (TBox.mk 0 0)).length = (List.replicate (4 : Int).toNat (TBox.mk 0 0)).length] (.cons (by simp) (.cons (row_rep rfl) (.cons e1.1 (.cons rfl (.cons ⟨e1.2, by decide⟩ (.cons rfl (.cons rfl .nil))))))) (by kernel_rfl)).is (congrArg impl_BoxOpen_R e) (congrArg impl_BoxOpen_O e)))
theorem impl_BoxOpen_ok (r : List TBox) (h : impl_BoxOpen  = some r) : ACalls cx.P 44 [] (impl_BoxOpen_R r) (impl_BoxOpen_O r) :=
  ACalls.of (cx := cx) (X := impl_BoxOpen_X) (c := impl_BoxOpen_c) Try.func44 (by kernel_rfl) (by kernel_rfl) (by kernel_rfl) (impl_BoxOpen_fin r h)

/-! ### impl_CertOpen -/
noncomputable def impl_CertOpen_c : Code := bodyOf Try.f25
noncomputable def impl_CertOpen_X : Sig := { f := 25, fn := Try.f25, rms := [.val [none, some 2, some 4] []], oms := [] }
noncomputable def impl_CertOpen_R (r : TState) : V := .agg (eState r)
noncomputable def impl_CertOpen_O (r : TState) : List (Option V) := []
noncomputable def impl_CertOpen : Option TState :=
  ((impl_BoxOpen).bind fun boxOpen =>
 some (TState.mk 0 boxOpen []))
theorem impl_CertOpen_fin (r : TState) (h : impl_CertOpen  = some r) : Fin cx impl_CertOpen_X (impl_CertOpen_R r) (impl_CertOpen_O r) [.code impl_CertOpen_c] (startS impl_CertOpen_X []) :=
  (bindD h fun boxOpen hboxOpen h =>
 (someD h fun e => (Fin.fin (cx := cx) (X := impl_CertOpen_X) (res := impl_CertOpen_R (TState.mk 0 boxOpen [])) (outs := impl_CertOpen_O (TState.mk 0 boxOpen [])) Try.func25 [[], [(0, { a := .call [] false (impl_BoxOpen_R boxOpen) (impl_BoxOpen_O boxOpen) })]] [ACalls cx.P 44 [] (impl_BoxOpen_R boxOpen) (impl_BoxOpen_O boxOpen)] (.cons (impl_BoxOpen_ok boxOpen hboxOpen) .nil) (by kernel_rfl)).is (congrArg impl_CertOpen_R e) (congrArg impl_CertOpen_O e)))
theorem impl_CertOpen_ok (r : TState) (h : impl_CertOpen  = some r) : ACalls cx.P 25 [] (impl_CertOpen_R r) (impl_CertOpen_O r) :=
  ACalls.of (cx := cx) (X := impl_CertOpen_X) (c := impl_CertOpen_c) Try.func25 (by kernel_rfl) (by kernel_rfl) (by kernel_rfl) (impl_CertOpen_fin r h)

/-! ### impl_BoxOk -/
noncomputable def impl_BoxOk_c : Code := bodyOf Try.f61
noncomputable def impl_BoxOk_X : Sig := { f := 61, fn := Try.f61, rms := [.val [] []], oms := [none] }
noncomputable def impl_BoxOk_R (r : Bool) : V := .b r
noncomputable def impl_BoxOk_O (r : Bool) : List (Option V) := [none]
noncomputable def impl_BoxOk_k1 : List Item := posI 2000 3 [false] [.code impl_BoxOk_c]
noncomputable def impl_BoxOk_S1 (list : List TBox) : St := ⟨(vsl 2 eBox list :: (bs 24 [])), [some []]⟩
noncomputable def impl_BoxOk_k2 (list : List TBox) : Option Bool :=
  some ((list.length : Int) == 4)
theorem impl_BoxOk_k2_ok (list : List TBox) (r : Bool) (h : impl_BoxOk_k2 list = some r) : Fin cx impl_BoxOk_X (impl_BoxOk_R r) (impl_BoxOk_O r) impl_BoxOk_k1 (impl_BoxOk_S1 list) :=
  (someD h fun e => (Fin.fin (cx := cx) (X := impl_BoxOk_X) (res := impl_BoxOk_R ((list.length : Int) == 4)) (outs := impl_BoxOk_O ((list.length : Int) == 4)) Try.func61 [[]] [] .nil (by kernel_rfl)).is (congrArg impl_BoxOk_R e) (congrArg impl_BoxOk_O e))
noncomputable def impl_BoxOk_k3 : List Item := posI 2000 2 [] [.code impl_BoxOk_c]
noncomputable def impl_BoxOk_S2 (list : List TBox) (v7 : Int) : St := ⟨(vsl 2 eBox list :: (bs 4 (vsl 2 eBox list :: (vi (list.length : Int) :: (vi v7 :: (bs 17 [])))))), [some []]⟩
noncomputable def impl_BoxOk_b1 (list : List TBox) (v7 : Int) : Option (Stp Bool Int Unit) :=
  (bif decide (v7 < (list.length : Int)) then
 ((idx list v7).bind fun box =>
 ((impl_in box.Ver 0 1000000).bind fun in_ =>
 (bif (!in_) then
 some (Stp.ret false)
 else
 ((impl_in box.Val (-1000000) 1000000).bind fun in_1 =>
 (bif (!in_1) then
 some (Stp.ret false)
 else
 some (Stp.nxt (w64 (v7 + 1))))))))
 else
 some (Stp.brk ()))
theorem impl_BoxOk_b1_ok (list : List TBox) (res : V) (outs : List (Option V)) (x1 : Exc Bool Unit) (hb1 : ∀ s : Unit, x1 = .brk s → Fin cx impl_BoxOk_X res outs impl_BoxOk_k1 (impl_BoxOk_S1 list)) (hr1 : ∀ v : Bool, x1 = .ret v → (res = impl_BoxOk_R v ∧ outs = impl_BoxOk_O v)) (st1 : Stp Bool Int Unit) (hc1 : Cont x1 (fun s : Int => Fin cx impl_BoxOk_X res outs impl_BoxOk_k3 (impl_BoxOk_S2 list s)) st1) (v7 : Int) (h : impl_BoxOk_b1 list v7 = some st1) : Fin cx impl_BoxOk_X res outs impl_BoxOk_k3 (impl_BoxOk_S2 list v7) :=
  (condD h (fun e1 h =>
 (bindD h fun box hbox h =>
 (bindD h fun in_ hin_ h =>
 (condD h (fun e2 h =>
 (retD h hc1 fun e => (Fin.fin (cx := cx) (X := impl_BoxOk_X) (res := impl_BoxOk_R false) (outs := impl_BoxOk_O false) Try.func61 [[(0, { d := some true })], [(0, { a := .row (eBox box) })], [(2, { a := .call [.val [] [], .val [] [], .val [] []] false (impl_in_R in_) (impl_in_O in_) }), (4, { d := some true })], []] [decide (v7 < (list.length : Int)) = true, (0 : Int) ≤ v7, v7 < ((list.length : Nat) : Int), (list.map eBox)[v7.toNat]? = some (eBox box), ACalls cx.P 60 [vi box.Ver, vi 0, vi 1000000] (impl_in_R in_) (impl_in_O in_), (!in_) = true] (.cons e1 (.cons (idx0 hbox) (.cons (idx1 hbox) (.cons (map_idx hbox) (.cons (impl_in_ok box.Ver 0 1000000 in_ hin_) (.cons e2 .nil)))))) (by kernel_rfl)).is (hr1 _ e).1 (hr1 _ e).2)) (fun e2 h =>
 (bindD h fun in_1 hin_1 h =>
 (condD h (fun e3 h =>
 (retD h hc1 fun e => (Fin.fin (cx := cx) (X := impl_BoxOk_X) (res := impl_BoxOk_R false) (outs := impl_BoxOk_O false) Try.func61 [[(0, { d := some true })], [(0, { a := .row (eBox box) })], [(2, { a := .call [.val [] [], .val [] [], .val [] []] false (impl_in_R in_) (impl_in_O in_) }), (4, { d := some false }), (7, { a := .call [.val [] [], .val [] [], .val [] []] false (impl_in_R in_1) (impl_in_O in_1) }), (9, { d := some true })], []] [decide (v7 < (list.length : Int)) = true, (0 : Int) ≤ v7, v7 < ((list.length : Nat) : Int), (list.map eBox)[v7.toNat]? = some (eBox box), ACalls cx.P 60 [vi box.Ver, vi 0, vi 1000000] (impl_in_R in_) (impl_in_O in_), (!in_) = false, ACalls cx.P 60 [vi box.Val, vi (-1000000), vi 1000000] (impl_in_R in_1) (impl_in_O in_1), (!in_1) = true] (.cons e1 (.cons (idx0 hbox) (.cons (idx1 hbox) (.cons (map_idx hbox) (.cons (impl_in_ok box.Ver 0 1000000 in_ hin_) (.cons e2 (.cons (impl_in_ok box.Val (-1000000) 1000000 in_1 hin_1) (.cons e3 .nil)))))))) (by kernel_rfl)).is (hr1 _ e).1 (hr1 _ e).2)) (fun e3 h =>
 (nxtD h hc1 fun hI => (Fin.seg [[(0, { d := some true })], [(0, { a := .row (eBox box) })], [(2, { a := .call [.val [] [], .val [] [], .val [] []] false (impl_in_R in_) (impl_in_O in_) }), (4, { d := some false }), (7, { a := .call [.val [] [], .val [] [], .val [] []] false (impl_in_R in_1) (impl_in_O in_1) }), (9, { d := some false })], []] [] [0, 5, 6, 7] [] [decide (v7 < (list.length : Int)) = true, (0 : Int) ≤ v7, v7 < ((list.length : Nat) : Int), (list.map eBox)[v7.toNat]? = some (eBox box), ACalls cx.P 60 [vi box.Ver, vi 0, vi 1000000] (impl_in_R in_) (impl_in_O in_), (!in_) = false, ACalls cx.P 60 [vi box.Val, vi (-1000000), vi 1000000] (impl_in_R in_1) (impl_in_O in_1), (!in_1) = false] (.cons e1 (.cons (idx0 hbox) (.cons (idx1 hbox) (.cons (map_idx hbox) (.cons (impl_in_ok box.Ver 0 1000000 in_ hin_) (.cons e2 (.cons (impl_in_ok box.Val (-1000000) 1000000 in_1 hin_1) (.cons e3 .nil)))))))) hI (by kernel_rfl))))))))))) (fun e1 h =>
 (brkD h hc1 fun e => (Fin.seg [[(0, { d := some false })]] [] [0] [] [decide (v7 < (list.length : Int)) = false] (.cons e1 .nil) (hb1 _ e) (by kernel_rfl)))))
theorem impl_BoxOk_b1_loop (list : List TBox) (res : V) (outs : List (Option V)) (x1 : Exc Bool Unit) (hb1 : ∀ s : Unit, x1 = .brk s → Fin cx impl_BoxOk_X res outs impl_BoxOk_k1 (impl_BoxOk_S1 list)) (hr1 : ∀ v : Bool, x1 = .ret v → (res = impl_BoxOk_R v ∧ outs = impl_BoxOk_O v)) (s : Int) (h : loop (fun s : Int => impl_BoxOk_b1 list s) s = some x1) : Fin cx impl_BoxOk_X res outs impl_BoxOk_k3 (impl_BoxOk_S2 list s) :=
  loopD (I := fun s : Int => Fin cx impl_BoxOk_X res outs impl_BoxOk_k3 (impl_BoxOk_S2 list s)) h fun s st h hc => impl_BoxOk_b1_ok list res outs x1 hb1 hr1 st hc s h
noncomputable def impl_BoxOk (list : List TBox) : Option Bool :=
  ((loop (fun s : Int => impl_BoxOk_b1 list s) 0).bind fun x => x.go (fun r => some r) fun s => impl_BoxOk_k2 list)
theorem impl_BoxOk_fin (list : List TBox) (r : Bool) (h : impl_BoxOk list = some r) : Fin cx impl_BoxOk_X (impl_BoxOk_R r) (impl_BoxOk_O r) [.code impl_BoxOk_c] (startS impl_BoxOk_X [vsl 2 eBox list]) :=
  (loopJ h fun x hl hr hb => (Fin.seg [[], []] [] [0, 5, 6, 7] [] [] .nil (impl_BoxOk_b1_loop list _ _ x (fun s e => impl_BoxOk_k2_ok list r (hb s e)) (fun v e => ⟨congrArg impl_BoxOk_R (Option.some.inj (hr v e)).symm, congrArg impl_BoxOk_O (Option.some.inj (hr v e)).symm⟩) 0 hl) (by kernel_rfl)))
theorem impl_BoxOk_ok (list : List TBox) (r : Bool) (h : impl_BoxOk list = some r) : ACalls cx.P 61 [vsl 2 eBox list] (impl_BoxOk_R r) (impl_BoxOk_O r) :=
  ACalls.of (cx := cx) (X := impl_BoxOk_X) (c := impl_BoxOk_c) Try.func61 (by kernel_rfl) (by kernel_rfl) (by kernel_rfl) (impl_BoxOk_fin list r h)

/-! ### impl_CertOk -/
noncomputable def impl_CertOk_c : Code := bodyOf Try.f45
noncomputable def impl_CertOk_X : Sig := { f := 45, fn := Try.f45, rms := [.val [] []], oms := [none] }
noncomputable def impl_CertOk_R (r : Bool) : V := .b r
noncomputable def impl_CertOk_O (r : Bool) : List (Option V) := [none]
noncomputable def impl_CertOk_k1 : List Item := posI 2000 3 [false] [.code impl_CertOk_c]
noncomputable def impl_CertOk_S1 (s_ : TState) : St := ⟨(bs 1 (.ptr 1 0 0 :: (bs 64 []))), [some [], some [.var 53 [vi s_.At, vsl 2 eBox s_.Boxes, vsl 4 eDone s_.Dones]]]⟩
noncomputable def impl_CertOk_k2 (s_ : TState) : Option Bool :=
  ((impl_in s_.At 0 40).bind fun in_ =>
 (bif in_ then
 ((impl_BoxOk s_.Boxes).bind fun boxOk =>
 some boxOk)
 else
 some false))
theorem impl_CertOk_k2_ok (s_ : TState) (r : Bool) (h : impl_CertOk_k2 s_ = some r) : Fin cx impl_CertOk_X (impl_CertOk_R r) (impl_CertOk_O r) impl_CertOk_k1 (impl_CertOk_S1 s_) :=
  (bindD h fun in_ hin_ h =>
 (condD h (fun e1 h =>
 (bindD h fun boxOk hboxOk h =>
 (someD h fun e => (Fin.fin (cx := cx) (X := impl_CertOk_X) (res := impl_CertOk_R boxOk) (outs := impl_CertOk_O boxOk) Try.func45 [[(2, { a := .call [.val [] [], .val [] [], .val [] []] false (impl_in_R in_) (impl_in_O in_) }), (3, { d := some true }), (6, { a := .call [.val [some 2] []] false (impl_BoxOk_R boxOk) (impl_BoxOk_O boxOk) })]] [ACalls cx.P 60 [vi s_.At, vi 0, vi 40] (impl_in_R in_) (impl_in_O in_), in_ = true, ACalls cx.P 61 [vsl 2 eBox s_.Boxes] (impl_BoxOk_R boxOk) (impl_BoxOk_O boxOk)] (.cons (impl_in_ok s_.At 0 40 in_ hin_) (.cons e1 (.cons (impl_BoxOk_ok s_.Boxes boxOk hboxOk) .nil))) (by kernel_rfl)).is (congrArg impl_CertOk_R e) (congrArg impl_CertOk_O e)))) (fun e1 h =>
 (someD h fun e => (Fin.fin (cx := cx) (X := impl_CertOk_X) (res := impl_CertOk_R false) (outs := impl_CertOk_O false) Try.func45 [[(2, { a := .call [.val [] [], .val [] [], .val [] []] false (impl_in_R in_) (impl_in_O in_) }), (3, { d := some false })]] [ACalls cx.P 60 [vi s_.At, vi 0, vi 40] (impl_in_R in_) (impl_in_O in_), in_ = false] (.cons (impl_in_ok s_.At 0 40 in_ hin_) (.cons e1 .nil)) (by kernel_rfl)).is (congrArg impl_CertOk_R e) (congrArg impl_CertOk_O e)))))
noncomputable def impl_CertOk_k3 : List Item := posI 2000 2 [] [.code impl_CertOk_c]
noncomputable def impl_CertOk_S2 (s_ : TState) (v8 : Int) : St := ⟨(bs 1 (.ptr 1 0 0 :: (bs 4 (vsl 4 eDone s_.Dones :: (vi (s_.Dones.length : Int) :: (vi v8 :: (bs 57 []))))))), [some [], some [.var 53 [vi s_.At, vsl 2 eBox s_.Boxes, vsl 4 eDone s_.Dones]]]⟩
noncomputable def impl_CertOk_k4 : List Item := posI 2000 5 [true, false] [.code impl_CertOk_c]
noncomputable def impl_CertOk_S3 (s_ : TState) (v8 : Int) : St := ⟨(bs 1 (.ptr 1 0 0 :: (bs 4 (vsl 4 eDone s_.Dones :: (vi (s_.Dones.length : Int) :: (vi v8 :: (bs 57 []))))))), [some [], some [.var 53 [vi s_.At, vsl 2 eBox s_.Boxes, vsl 4 eDone s_.Dones]]]⟩
noncomputable def impl_CertOk_j1 (v8 : Int) : Option (Stp Bool Int Unit) :=
  some (Stp.nxt (w64 (v8 + 1)))
theorem impl_CertOk_j1_ok (s_ : TState) (v8 : Int) (res : V) (outs : List (Option V)) (x1 : Exc Bool Unit) (hb1 : ∀ s : Unit, x1 = .brk s → Fin cx impl_CertOk_X res outs impl_CertOk_k1 (impl_CertOk_S1 s_)) (hr1 : ∀ v : Bool, x1 = .ret v → (res = impl_CertOk_R v ∧ outs = impl_CertOk_O v)) (st1 : Stp Bool Int Unit) (hc1 : Cont x1 (fun s : Int => Fin cx impl_CertOk_X res outs impl_CertOk_k3 (impl_CertOk_S2 s_ s)) st1) (h : impl_CertOk_j1 v8 = some st1) : Fin cx impl_CertOk_X res outs impl_CertOk_k4 (impl_CertOk_S3 s_ v8) :=
  (nxtD h hc1 fun hI => (Fin.seg [[]] [] [1, 6, 7, 8] [(1, 0)] [] .nil hI (by kernel_rfl)))
noncomputable def impl_CertOk_b1 (s_ : TState) (v8 : Int) : Option (Stp Bool Int Unit) :=
  (bif decide (v8 < (s_.Dones.length : Int)) then
 ((idx s_.Dones v8).bind fun done =>
 (((bif decide (v8 > 0) then
 ((idx s_.Dones (w64 (v8 - 1))).bind fun done1 =>
 (bif decide (done1.Req.Who ≥ done.Req.Who) then
 some (Exc.ret (Stp.ret false))
 else
 ((impl_reqOk done.Req).bind fun reqOk =>
 (bif (!reqOk) then
 some (Exc.ret (Stp.ret false))
 else
 ((impl_in done.Code 0 2).bind fun in_1 =>
 (bif (!in_1) then
 some (Exc.ret (Stp.ret false))
 else
 ((impl_in done.Val (-1000000) 1000000).bind fun in_2 =>
 (bif (!in_2) then
 some (Exc.ret (Stp.ret false))
 else
 (bif (done.Code != 0) then
 (bif (done.Val != 0) then
 some (Exc.ret (Stp.ret false))
 else
 some (Exc.brk ()))
 else
 some (Exc.brk ()))))))))))
 else
 ((impl_reqOk done.Req).bind fun reqOk1 =>
 (bif (!reqOk1) then
 some (Exc.ret (Stp.ret false))
 else
 ((impl_in done.Code 0 2).bind fun in_3 =>
 (bif (!in_3) then
 some (Exc.ret (Stp.ret false))
 else
 ((impl_in done.Val (-1000000) 1000000).bind fun in_4 =>
 (bif (!in_4) then
 some (Exc.ret (Stp.ret false))
 else
 (bif (done.Code != 0) then
 (bif (done.Val != 0) then
 some (Exc.ret (Stp.ret false))
 else
 some (Exc.brk ()))
 else
 some (Exc.brk ()))))))))) : Option (Exc (Stp Bool Int Unit) Unit)).bind fun x => x.go some fun j => impl_CertOk_j1 v8))
 else
 some (Stp.brk ()))
theorem impl_CertOk_b1_ok (s_ : TState) (res : V) (outs : List (Option V)) (x1 : Exc Bool Unit) (hb1 : ∀ s : Unit, x1 = .brk s → Fin cx impl_CertOk_X res outs impl_CertOk_k1 (impl_CertOk_S1 s_)) (hr1 : ∀ v : Bool, x1 = .ret v → (res = impl_CertOk_R v ∧ outs = impl_CertOk_O v)) (st1 : Stp Bool Int Unit) (hc1 : Cont x1 (fun s : Int => Fin cx impl_CertOk_X res outs impl_CertOk_k3 (impl_CertOk_S2 s_ s)) st1) (v8 : Int) (h : impl_CertOk_b1 s_ v8 = some st1) : Fin cx impl_CertOk_X res outs impl_CertOk_k3 (impl_CertOk_S2 s_ v8) :=
  (condD h (fun e2 h =>
 (bindD h fun done hdone h =>
 (joinD (I := fun j : Unit => Fin cx impl_CertOk_X res outs impl_CertOk_k4 (impl_CertOk_S3 s_ v8)) h (fun j h => impl_CertOk_j1_ok s_ v8 res outs x1 hb1 hr1 st1 hc1 h) (fun x2 h hc2 =>
  (condD h (fun e3 h =>
 (bindD h fun done1 hdone1 h =>
 (condD h (fun e4 h =>
 (jretD h hc2 fun h => (retD h hc1 fun e => (Fin.fin (cx := cx) (X := impl_CertOk_X) (res := impl_CertOk_R false) (outs := impl_CertOk_O false) Try.func45 [[(0, { d := some true })], [(1, { a := .row (eDone done) })], [(2, { d := some true }), (7, { a := .row (eDone done1) }), (16, { d := some true })], []] [decide (v8 < (s_.Dones.length : Int)) = true, (0 : Int) ≤ v8, v8 < ((s_.Dones.length : Nat) : Int), (s_.Dones.map eDone)[v8.toNat]? = some (eDone done), decide (v8 > 0) = true, (0 : Int) ≤ (w64 (v8 - 1)), (w64 (v8 - 1)) < ((s_.Dones.length : Nat) : Int), (s_.Dones.map eDone)[(w64 (v8 - 1)).toNat]? = some (eDone done1), decide (done1.Req.Who ≥ done.Req.Who) = true] (.cons e2 (.cons (idx0 hdone) (.cons (idx1 hdone) (.cons (map_idx hdone) (.cons e3 (.cons (idx0 hdone1) (.cons (idx1 hdone1) (.cons (map_idx hdone1) (.cons e4 .nil))))))))) (by kernel_rfl)).is (hr1 _ e).1 (hr1 _ e).2))) (fun e4 h =>
 (bindD h fun reqOk hreqOk h =>
 (condD h (fun e5 h =>
 (jretD h hc2 fun h => (retD h hc1 fun e => (Fin.fin (cx := cx) (X := impl_CertOk_X) (res := impl_CertOk_R false) (outs := impl_CertOk_O false) Try.func45 [[(0, { d := some true })], [(1, { a := .row (eDone done) })], [(2, { d := some true }), (7, { a := .row (eDone done1) }), (16, { d := some false }), (19, { a := .call [.val [] []] false (impl_reqOk_R reqOk) (impl_reqOk_O reqOk) }), (22, { d := some true })], []] [decide (v8 < (s_.Dones.length : Int)) = true, (0 : Int) ≤ v8, v8 < ((s_.Dones.length : Nat) : Int), (s_.Dones.map eDone)[v8.toNat]? = some (eDone done), decide (v8 > 0) = true, (0 : Int) ≤ (w64 (v8 - 1)), (w64 (v8 - 1)) < ((s_.Dones.length : Nat) : Int), (s_.Dones.map eDone)[(w64 (v8 - 1)).toNat]? = some (eDone done1), decide (done1.Req.Who ≥ done.Req.Who) = false, ACalls cx.P 42 [.agg (eReq done.Req)] (impl_reqOk_R reqOk) (impl_reqOk_O reqOk), (!reqOk) = true] (.cons e2 (.cons (idx0 hdone) (.cons (idx1 hdone) (.cons (map_idx hdone) (.cons e3 (.cons (idx0 hdone1) (.cons (idx1 hdone1) (.cons (map_idx hdone1) (.cons e4 (.cons (impl_reqOk_ok done.Req reqOk hreqOk) (.cons e5 .nil))))))))))) (by kernel_rfl)).is (hr1 _ e).1 (hr1 _ e).2))) (fun e5 h =>
 (bindD h fun in_1 hin_1 h =>
 (condD h (fun e6 h =>
 (jretD h hc2 fun h => (retD h hc1 fun e => (Fin.fin (cx := cx) (X := impl_CertOk_X) (res := impl_CertOk_R false) (outs := impl_CertOk_O false) Try.func45 [[(0, { d := some true })], [(1, { a := .row (eDone done) })], [(2, { d := some true }), (7, { a := .row (eDone done1) }), (16, { d := some false }), (19, { a := .call [.val [] []] false (impl_reqOk_R reqOk) (impl_reqOk_O reqOk) }), (22, { d := some false }), (25, { a := .call [.val [] [], .val [] [], .val [] []] false (impl_in_R in_1) (impl_in_O in_1) }), (28, { d := some true })], []] [decide (v8 < (s_.Dones.length : Int)) = true, (0 : Int) ≤ v8, v8 < ((s_.Dones.length : Nat) : Int), (s_.Dones.map eDone)[v8.toNat]? = some (eDone done), decide (v8 > 0) = true, (0 : Int) ≤ (w64 (v8 - 1)), (w64 (v8 - 1)) < ((s_.Dones.length : Nat) : Int), (s_.Dones.map eDone)[(w64 (v8 - 1)).toNat]? = some (eDone done1), decide (done1.Req.Who ≥ done.Req.Who) = false, ACalls cx.P 42 [.agg (eReq done.Req)] (impl_reqOk_R reqOk) (impl_reqOk_O reqOk), (!reqOk) = false, ACalls cx.P 60 [vi done.Code, vi 0, vi 2] (impl_in_R in_1) (impl_in_O in_1), (!in_1) = true] (.cons e2 (.cons (idx0 hdone) (.cons (idx1 hdone) (.cons (map_idx hdone) (.cons e3 (.cons (idx0 hdone1) (.cons (idx1 hdone1) (.cons (map_idx hdone1) (.cons e4 (.cons (impl_reqOk_ok done.Req reqOk hreqOk) (.cons e5 (.cons (impl_in_ok done.Code 0 2 in_1 hin_1) (.cons e6 .nil))))))))))))) (by kernel_rfl)).is (hr1 _ e).1 (hr1 _ e).2))) (fun e6 h =>
 (bindD h fun in_2 hin_2 h =>
 (condD h (fun e7 h =>
 (jretD h hc2 fun h => (retD h hc1 fun e => (Fin.fin (cx := cx) (X := impl_CertOk_X) (res := impl_CertOk_R false) (outs := impl_CertOk_O false) Try.func45 [[(0, { d := some true })], [(1, { a := .row (eDone done) })], [(2, { d := some true }), (7, { a := .row (eDone done1) }), (16, { d := some false }), (19, { a := .call [.val [] []] false (impl_reqOk_R reqOk) (impl_reqOk_O reqOk) }), (22, { d := some false }), (25, { a := .call [.val [] [], .val [] [], .val [] []] false (impl_in_R in_1) (impl_in_O in_1) }), (28, { d := some false }), (31, { a := .call [.val [] [], .val [] [], .val [] []] false (impl_in_R in_2) (impl_in_O in_2) }), (34, { d := some true })], []] [decide (v8 < (s_.Dones.length : Int)) = true, (0 : Int) ≤ v8, v8 < ((s_.Dones.length : Nat) : Int), (s_.Dones.map eDone)[v8.toNat]? = some (eDone done), decide (v8 > 0) = true, (0 : Int) ≤ (w64 (v8 - 1)), (w64 (v8 - 1)) < ((s_.Dones.length : Nat) : Int), (s_.Dones.map eDone)[(w64 (v8 - 1)).toNat]? = some (eDone done1), decide (done1.Req.Who ≥ done.Req.Who) = false, ACalls cx.P 42 [.agg (eReq done.Req)] (impl_reqOk_R reqOk) (impl_reqOk_O reqOk), (!reqOk) = false, ACalls cx.P 60 [vi done.Code, vi 0, vi 2] (impl_in_R in_1) (impl_in_O in_1), (!in_1) = false, ACalls cx.P 60 [vi done.Val, vi (-1000000), vi 1000000] (impl_in_R in_2) (impl_in_O in_2), (!in_2) = true] (.cons e2 (.cons (idx0 hdone) (.cons (idx1 hdone) (.cons (map_idx hdone) (.cons e3 (.cons (idx0 hdone1) (.cons (idx1 hdone1) (.cons (map_idx hdone1) (.cons e4 (.cons (impl_reqOk_ok done.Req reqOk hreqOk) (.cons e5 (.cons (impl_in_ok done.Code 0 2 in_1 hin_1) (.cons e6 (.cons (impl_in_ok done.Val (-1000000) 1000000 in_2 hin_2) (.cons e7 .nil))))))))))))))) (by kernel_rfl)).is (hr1 _ e).1 (hr1 _ e).2))) (fun e7 h =>
 (condD h (fun e8 h =>
 (condD h (fun e9 h =>
 (jretD h hc2 fun h => (retD h hc1 fun e => (Fin.fin (cx := cx) (X := impl_CertOk_X) (res := impl_CertOk_R false) (outs := impl_CertOk_O false) Try.func45 [[(0, { d := some true })], [(1, { a := .row (eDone done) })], [(2, { d := some true }), (7, { a := .row (eDone done1) }), (16, { d := some false }), (19, { a := .call [.val [] []] false (impl_reqOk_R reqOk) (impl_reqOk_O reqOk) }), (22, { d := some false }), (25, { a := .call [.val [] [], .val [] [], .val [] []] false (impl_in_R in_1) (impl_in_O in_1) }), (28, { d := some false }), (31, { a := .call [.val [] [], .val [] [], .val [] []] false (impl_in_R in_2) (impl_in_O in_2) }), (34, { d := some false }), (38, { d := some true }), (43, { d := some true })], []] [decide (v8 < (s_.Dones.length : Int)) = true, (0 : Int) ≤ v8, v8 < ((s_.Dones.length : Nat) : Int), (s_.Dones.map eDone)[v8.toNat]? = some (eDone done), decide (v8 > 0) = true, (0 : Int) ≤ (w64 (v8 - 1)), (w64 (v8 - 1)) < ((s_.Dones.length : Nat) : Int), (s_.Dones.map eDone)[(w64 (v8 - 1)).toNat]? = some (eDone done1), decide (done1.Req.Who ≥ done.Req.Who) = false, ACalls cx.P 42 [.agg (eReq done.Req)] (impl_reqOk_R reqOk) (impl_reqOk_O reqOk), (!reqOk) = false, ACalls cx.P 60 [vi done.Code, vi 0, vi 2] (impl_in_R in_1) (impl_in_O in_1), (!in_1) = false, ACalls cx.P 60 [vi done.Val, vi (-1000000), vi 1000000] (impl_in_R in_2) (impl_in_O in_2), (!in_2) = false, (done.Code != 0) = true, (done.Val != 0) = true] (.cons e2 (.cons (idx0 hdone) (.cons (idx1 hdone) (.cons (map_idx hdone) (.cons e3 (.cons (idx0 hdone1) (.cons (idx1 hdone1) (.cons (map_idx hdone1) (.cons e4 (.cons (impl_reqOk_ok done.Req reqOk hreqOk) (.cons e5 (.cons (impl_in_ok done.Code 0 2 in_1 hin_1) (.cons e6 (.cons (impl_in_ok done.Val (-1000000) 1000000 in_2 hin_2) (.cons e7 (.cons e8 (.cons e9 .nil))))))))))))))))) (by kernel_rfl)).is (hr1 _ e).1 (hr1 _ e).2))) (fun e9 h =>
 (jbrkD h hc2 fun hI => (Fin.seg [[(0, { d := some true })], [(1, { a := .row (eDone done) })], [(2, { d := some true }), (7, { a := .row (eDone done1) }), (16, { d := some false }), (19, { a := .call [.val [] []] false (impl_reqOk_R reqOk) (impl_reqOk_O reqOk) }), (22, { d := some false }), (25, { a := .call [.val [] [], .val [] [], .val [] []] false (impl_in_R in_1) (impl_in_O in_1) }), (28, { d := some false }), (31, { a := .call [.val [] [], .val [] [], .val [] []] false (impl_in_R in_2) (impl_in_O in_2) }), (34, { d := some false }), (38, { d := some true }), (43, { d := some false })]] [] [1, 6, 7, 8] [(1, 0)] [decide (v8 < (s_.Dones.length : Int)) = true, (0 : Int) ≤ v8, v8 < ((s_.Dones.length : Nat) : Int), (s_.Dones.map eDone)[v8.toNat]? = some (eDone done), decide (v8 > 0) = true, (0 : Int) ≤ (w64 (v8 - 1)), (w64 (v8 - 1)) < ((s_.Dones.length : Nat) : Int), (s_.Dones.map eDone)[(w64 (v8 - 1)).toNat]? = some (eDone done1), decide (done1.Req.Who ≥ done.Req.Who) = false, ACalls cx.P 42 [.agg (eReq done.Req)] (impl_reqOk_R reqOk) (impl_reqOk_O reqOk), (!reqOk) = false, ACalls cx.P 60 [vi done.Code, vi 0, vi 2] (impl_in_R in_1) (impl_in_O in_1), (!in_1) = false, ACalls cx.P 60 [vi done.Val, vi (-1000000), vi 1000000] (impl_in_R in_2) (impl_in_O in_2), (!in_2) = false, (done.Code != 0) = true, (done.Val != 0) = false] (.cons e2 (.cons (idx0 hdone) (.cons (idx1 hdone) (.cons (map_idx hdone) (.cons e3 (.cons (idx0 hdone1) (.cons (idx1 hdone1) (.cons (map_idx hdone1) (.cons e4 (.cons (impl_reqOk_ok done.Req reqOk hreqOk) (.cons e5 (.cons (impl_in_ok done.Code 0 2 in_1 hin_1) (.cons e6 (.cons (impl_in_ok done.Val (-1000000) 1000000 in_2 hin_2) (.cons e7 (.cons e8 (.cons e9 .nil))))))))))))))))) hI (by kernel_rfl)))))) (fun e8 h =>
 (jbrkD h hc2 fun hI => (Fin.seg [[(0, { d := some true })], [(1, { a := .row (eDone done) })], [(2, { d := some true }), (7, { a := .row (eDone done1) }), (16, { d := some false }), (19, { a := .call [.val [] []] false (impl_reqOk_R reqOk) (impl_reqOk_O reqOk) }), (22, { d := some false }), (25, { a := .call [.val [] [], .val [] [], .val [] []] false (impl_in_R in_1) (impl_in_O in_1) }), (28, { d := some false }), (31, { a := .call [.val [] [], .val [] [], .val [] []] false (impl_in_R in_2) (impl_in_O in_2) }), (34, { d := some false }), (38, { d := some false })]] [] [1, 6, 7, 8] [(1, 0)] [decide (v8 < (s_.Dones.length : Int)) = true, (0 : Int) ≤ v8, v8 < ((s_.Dones.length : Nat) : Int), (s_.Dones.map eDone)[v8.toNat]? = some (eDone done), decide (v8 > 0) = true, (0 : Int) ≤ (w64 (v8 - 1)), (w64 (v8 - 1)) < ((s_.Dones.length : Nat) : Int), (s_.Dones.map eDone)[(w64 (v8 - 1)).toNat]? = some (eDone done1), decide (done1.Req.Who ≥ done.Req.Who) = false, ACalls cx.P 42 [.agg (eReq done.Req)] (impl_reqOk_R reqOk) (impl_reqOk_O reqOk), (!reqOk) = false, ACalls cx.P 60 [vi done.Code, vi 0, vi 2] (impl_in_R in_1) (impl_in_O in_1), (!in_1) = false, ACalls cx.P 60 [vi done.Val, vi (-1000000), vi 1000000] (impl_in_R in_2) (impl_in_O in_2), (!in_2) = false, (done.Code != 0) = false] (.cons e2 (.cons (idx0 hdone) (.cons (idx1 hdone) (.cons (map_idx hdone) (.cons e3 (.cons (idx0 hdone1) (.cons (idx1 hdone1) (.cons (map_idx hdone1) (.cons e4 (.cons (impl_reqOk_ok done.Req reqOk hreqOk) (.cons e5 (.cons (impl_in_ok done.Code 0 2 in_1 hin_1) (.cons e6 (.cons (impl_in_ok done.Val (-1000000) 1000000 in_2 hin_2) (.cons e7 (.cons e8 .nil)))))))))))))))) hI (by kernel_rfl)))))))))))))))))) (fun e3 h =>
 (bindD h fun reqOk1 hreqOk1 h =>
 (condD h (fun e10 h =>
 (jretD h hc2 fun h => (retD h hc1 fun e => (Fin.fin (cx := cx) (X := impl_CertOk_X) (res := impl_CertOk_R false) (outs := impl_CertOk_O false) Try.func45 [[(0, { d := some true })], [(1, { a := .row (eDone done) })], [(2, { d := some false }), (19, { a := .call [.val [] []] false (impl_reqOk_R reqOk1) (impl_reqOk_O reqOk1) }), (22, { d := some true })], []] [decide (v8 < (s_.Dones.length : Int)) = true, (0 : Int) ≤ v8, v8 < ((s_.Dones.length : Nat) : Int), (s_.Dones.map eDone)[v8.toNat]? = some (eDone done), decide (v8 > 0) = false, ACalls cx.P 42 [.agg (eReq done.Req)] (impl_reqOk_R reqOk1) (impl_reqOk_O reqOk1), (!reqOk1) = true] (.cons e2 (.cons (idx0 hdone) (.cons (idx1 hdone) (.cons (map_idx hdone) (.cons e3 (.cons (impl_reqOk_ok done.Req reqOk1 hreqOk1) (.cons e10 .nil))))))) (by kernel_rfl)).is (hr1 _ e).1 (hr1 _ e).2))) (fun e10 h =>
 (bindD h fun in_3 hin_3 h =>
 (condD h (fun e11 h =>
 (jretD h hc2 fun h => (retD h hc1 fun e => (Fin.fin (cx := cx) (X := impl_CertOk_X) (res := impl_CertOk_R false) (outs := impl_CertOk_O false) Try.func45 [[(0, { d := some true })], [(1, { a := .row (eDone done) })], [(2, { d := some false }), (19, { a := .call [.val [] []] false (impl_reqOk_R reqOk1) (impl_reqOk_O reqOk1) }), (22, { d := some false }), (25, { a := .call [.val [] [], .val [] [], .val [] []] false (impl_in_R in_3) (impl_in_O in_3) }), (28, { d := some true })], []] [decide (v8 < (s_.Dones.length : Int)) = true, (0 : Int) ≤ v8, v8 < ((s_.Dones.length : Nat) : Int), (s_.Dones.map eDone)[v8.toNat]? = some (eDone done), decide (v8 > 0) = false, ACalls cx.P 42 [.agg (eReq done.Req)] (impl_reqOk_R reqOk1) (impl_reqOk_O reqOk1), (!reqOk1) = false, ACalls cx.P 60 [vi done.Code, vi 0, vi 2] (impl_in_R in_3) (impl_in_O in_3), (!in_3) = true] (.cons e2 (.cons (idx0 hdone) (.cons (idx1 hdone) (.cons (map_idx hdone) (.cons e3 (.cons (impl_reqOk_ok done.Req reqOk1 hreqOk1) (.cons e10 (.cons (impl_in_ok done.Code 0 2 in_3 hin_3) (.cons e11 .nil))))))))) (by kernel_rfl)).is (hr1 _ e).1 (hr1 _ e).2))) (fun e11 h =>
 (bindD h fun in_4 hin_4 h =>
 (condD h (fun e12 h =>
 (jretD h hc2 fun h => (retD h hc1 fun e => (Fin.fin (cx := cx) (X := impl_CertOk_X) (res := impl_CertOk_R false) (outs := impl_CertOk_O false) Try.func45 [[(0, { d := some true })], [(1, { a := .row (eDone done) })], [(2, { d := some false }), (19, { a := .call [.val [] []] false (impl_reqOk_R reqOk1) (impl_reqOk_O reqOk1) }), (22, { d := some false }), (25, { a := .call [.val [] [], .val [] [], .val [] []] false (impl_in_R in_3) (impl_in_O in_3) }), (28, { d := some false }), (31, { a := .call [.val [] [], .val [] [], .val [] []] false (impl_in_R in_4) (impl_in_O in_4) }), (34, { d := some true })], []] [decide (v8 < (s_.Dones.length : Int)) = true, (0 : Int) ≤ v8, v8 < ((s_.Dones.length : Nat) : Int), (s_.Dones.map eDone)[v8.toNat]? = some (eDone done), decide (v8 > 0) = false, ACalls cx.P 42 [.agg (eReq done.Req)] (impl_reqOk_R reqOk1) (impl_reqOk_O reqOk1), (!reqOk1) = false, ACalls cx.P 60 [vi done.Code, vi 0, vi 2] (impl_in_R in_3) (impl_in_O in_3), (!in_3) = false, ACalls cx.P 60 [vi done.Val, vi (-1000000), vi 1000000] (impl_in_R in_4) (impl_in_O in_4), (!in_4) = true] (.cons e2 (.cons (idx0 hdone) (.cons (idx1 hdone) (.cons (map_idx hdone) (.cons e3 (.cons (impl_reqOk_ok done.Req reqOk1 hreqOk1) (.cons e10 (.cons (impl_in_ok done.Code 0 2 in_3 hin_3) (.cons e11 (.cons (impl_in_ok done.Val (-1000000) 1000000 in_4 hin_4) (.cons e12 .nil))))))))))) (by kernel_rfl)).is (hr1 _ e).1 (hr1 _ e).2))) (fun e12 h =>
 (condD h (fun e13 h =>
 (condD h (fun e14 h =>
 (jretD h hc2 fun h => (retD h hc1 fun e => (Fin.fin (cx := cx) (X := impl_CertOk_X) (res := impl_CertOk_R false) (outs := impl_CertOk_O false) Try.func45 [[(0, { d := some true })], [(1, { a := .row (eDone done) })], [(2, { d := some false }), (19, { a := .call [.val [] []] false (impl_reqOk_R reqOk1) (impl_reqOk_O reqOk1) }), (22, { d := some false }), (25, { a := .call [.val [] [], .val [] [], .val [] []] false (impl_in_R in_3) (impl_in_O in_3) }), (28, { d := some false }), (31, { a := .call [.val [] [], .val [] [], .val [] []] false (impl_in_R in_4) (impl_in_O in_4) }), (34, { d := some false }), (38, { d := some true }), (43, { d := some true })], []] [decide (v8 < (s_.Dones.length : Int)) = true, (0 : Int) ≤ v8, v8 < ((s_.Dones.length : Nat) : Int), (s_.Dones.map eDone)[v8.toNat]? = some (eDone done), decide (v8 > 0) = false, ACalls cx.P 42 [.agg (eReq done.Req)] (impl_reqOk_R reqOk1) (impl_reqOk_O reqOk1), (!reqOk1) = false, ACalls cx.P 60 [vi done.Code, vi 0, vi 2] (impl_in_R in_3) (impl_in_O in_3), (!in_3) = false, ACalls cx.P 60 [vi done.Val, vi (-1000000), vi 1000000] (impl_in_R in_4) (impl_in_O in_4), (!in_4) = false, (done.Code != 0) = true, (done.Val != 0) = true] (.cons e2 (.cons (idx0 hdone) (.cons (idx1 hdone) (.cons (map_idx hdone) (.cons e3 (.cons (impl_reqOk_ok done.Req reqOk1 hreqOk1) (.cons e10 (.cons (impl_in_ok done.Code 0 2 in_3 hin_3) (.cons e11 (.cons (impl_in_ok done.Val (-1000000) 1000000 in_4 hin_4) (.cons e12 (.cons e13 (.cons e14 .nil))))))))))))) (by kernel_rfl)).is (hr1 _ e).1 (hr1 _ e).2))) (fun e14 h =>
 (jbrkD h hc2 fun hI => (Fin.seg [[(0, { d := some true })], [(1, { a := .row (eDone done) })], [(2, { d := some false }), (19, { a := .call [.val [] []] false (impl_reqOk_R reqOk1) (impl_reqOk_O reqOk1) }), (22, { d := some false }), (25, { a := .call [.val [] [], .val [] [], .val [] []] false (impl_in_R in_3) (impl_in_O in_3) }), (28, { d := some false }), (31, { a := .call [.val [] [], .val [] [], .val [] []] false (impl_in_R in_4) (impl_in_O in_4) }), (34, { d := some false }), (38, { d := some true }), (43, { d := some false })]] [] [1, 6, 7, 8] [(1, 0)] [decide (v8 < (s_.Dones.length : Int)) = true, (0 : Int) ≤ v8, v8 < ((s_.Dones.length : Nat) : Int), (s_.Dones.map eDone)[v8.toNat]? = some (eDone done), decide (v8 > 0) = false, ACalls cx.P 42 [.agg (eReq done.Req)] (impl_reqOk_R reqOk1) (impl_reqOk_O reqOk1), (!reqOk1) = false, ACalls cx.P 60 [vi done.Code, vi 0, vi 2] (impl_in_R in_3) (impl_in_O in_3), (!in_3) = false, ACalls cx.P 60 [vi done.Val, vi (-1000000), vi 1000000] (impl_in_R in_4) (impl_in_O in_4), (!in_4) = false, (done.Code != 0) = true, (done.Val != 0) = false] (.cons e2 (.cons (idx0 hdone) (.cons (idx1 hdone) (.cons (map_idx hdone) (.cons e3 (.cons (impl_reqOk_ok done.Req reqOk1 hreqOk1) (.cons e10 (.cons (impl_in_ok done.Code 0 2 in_3 hin_3) (.cons e11 (.cons (impl_in_ok done.Val (-1000000) 1000000 in_4 hin_4) (.cons e12 (.cons e13 (.cons e14 .nil))))))))))))) hI (by kernel_rfl)))))) (fun e13 h =>
 (jbrkD h hc2 fun hI => (Fin.seg [[(0, { d := some true })], [(1, { a := .row (eDone done) })], [(2, { d := some false }), (19, { a := .call [.val [] []] false (impl_reqOk_R reqOk1) (impl_reqOk_O reqOk1) }), (22, { d := some false }), (25, { a := .call [.val [] [], .val [] [], .val [] []] false (impl_in_R in_3) (impl_in_O in_3) }), (28, { d := some false }), (31, { a := .call [.val [] [], .val [] [], .val [] []] false (impl_in_R in_4) (impl_in_O in_4) }), (34, { d := some false }), (38, { d := some false })]] [] [1, 6, 7, 8] [(1, 0)] [decide (v8 < (s_.Dones.length : Int)) = true, (0 : Int) ≤ v8, v8 < ((s_.Dones.length : Nat) : Int), (s_.Dones.map eDone)[v8.toNat]? = some (eDone done), decide (v8 > 0) = false, ACalls cx.P 42 [.agg (eReq done.Req)] (impl_reqOk_R reqOk1) (impl_reqOk_O reqOk1), (!reqOk1) = false, ACalls cx.P 60 [vi done.Code, vi 0, vi 2] (impl_in_R in_3) (impl_in_O in_3), (!in_3) = false, ACalls cx.P 60 [vi done.Val, vi (-1000000), vi 1000000] (impl_in_R in_4) (impl_in_O in_4), (!in_4) = false, (done.Code != 0) = false] (.cons e2 (.cons (idx0 hdone) (.cons (idx1 hdone) (.cons (map_idx hdone) (.cons e3 (.cons (impl_reqOk_ok done.Req reqOk1 hreqOk1) (.cons e10 (.cons (impl_in_ok done.Code 0 2 in_3 hin_3) (.cons e11 (.cons (impl_in_ok done.Val (-1000000) 1000000 in_4 hin_4) (.cons e12 (.cons e13 .nil)))))))))))) hI (by kernel_rfl)))))))))))))))))))) (fun e2 h =>
 (brkD h hc1 fun e => (Fin.seg [[(0, { d := some false })]] [] [1] [(1, 0)] [decide (v8 < (s_.Dones.length : Int)) = false] (.cons e2 .nil) (hb1 _ e) (by kernel_rfl)))))
theorem impl_CertOk_b1_loop (s_ : TState) (res : V) (outs : List (Option V)) (x1 : Exc Bool Unit) (hb1 : ∀ s : Unit, x1 = .brk s → Fin cx impl_CertOk_X res outs impl_CertOk_k1 (impl_CertOk_S1 s_)) (hr1 : ∀ v : Bool, x1 = .ret v → (res = impl_CertOk_R v ∧ outs = impl_CertOk_O v)) (s : Int) (h : loop (fun s : Int => impl_CertOk_b1 s_ s) s = some x1) : Fin cx impl_CertOk_X res outs impl_CertOk_k3 (impl_CertOk_S2 s_ s) :=
  loopD (I := fun s : Int => Fin cx impl_CertOk_X res outs impl_CertOk_k3 (impl_CertOk_S2 s_ s)) h fun s st h hc => impl_CertOk_b1_ok s_ res outs x1 hb1 hr1 st hc s h
noncomputable def impl_CertOk (s_ : TState) : Option Bool :=
  ((loop (fun s : Int => impl_CertOk_b1 s_ s) 0).bind fun x => x.go (fun r => some r) fun s => impl_CertOk_k2 s_)
theorem impl_CertOk_fin (s_ : TState) (r : Bool) (h : impl_CertOk s_ = some r) : Fin cx impl_CertOk_X (impl_CertOk_R r) (impl_CertOk_O r) [.code impl_CertOk_c] (startS impl_CertOk_X [.agg (eState s_)]) :=
  (loopJ h fun x hl hr hb => (Fin.seg [[], []] [] [1, 6, 7, 8] [(1, 0)] [] .nil (impl_CertOk_b1_loop s_ _ _ x (fun s e => impl_CertOk_k2_ok s_ r (hb s e)) (fun v e => ⟨congrArg impl_CertOk_R (Option.some.inj (hr v e)).symm, congrArg impl_CertOk_O (Option.some.inj (hr v e)).symm⟩) 0 hl) (by kernel_rfl)))
theorem impl_CertOk_ok (s_ : TState) (r : Bool) (h : impl_CertOk s_ = some r) : ACalls cx.P 45 [.agg (eState s_)] (impl_CertOk_R r) (impl_CertOk_O r) :=
  ACalls.of (cx := cx) (X := impl_CertOk_X) (c := impl_CertOk_c) Try.func45 (by kernel_rfl) (by kernel_rfl) (by kernel_rfl) (impl_CertOk_fin s_ r h)


end Go.Proofs.Ytoghkllkjjpgkaa
