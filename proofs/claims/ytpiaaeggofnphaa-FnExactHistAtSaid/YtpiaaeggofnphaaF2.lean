/- Functions of the program, and that their calls come to this. -/
import Derived.Test.YtpiaaeggofnphaaF1
set_option linter.unusedVariables false
set_option linter.unusedSimpArgs false
namespace Go.Proofs.Ytpiaaeggofnphaa
open Go

/-! ### impl_ExecFresh -/
noncomputable def impl_ExecFresh_c : Code := bodyOf Try.f66
noncomputable def impl_ExecFresh_X : Sig := { f := 66, fn := Try.f66, rms := [.val [] []], oms := [none, none] }
noncomputable def impl_ExecFresh_R (r : Bool) : V := .b r
noncomputable def impl_ExecFresh_O (r : Bool) : List (Option V) := [none, none]
noncomputable def impl_ExecFresh_t (i : Nat) (fr : Bool) (r : Bool) : Nat × Tell := (i, { a := .call [.val [some 2] [], .val ck51 []] fr (impl_ExecFresh_R r) (impl_ExecFresh_O r) })
noncomputable def impl_ExecFresh_k1 : List Item := posI 2000 4 [false, false] [.code impl_ExecFresh_c]
noncomputable def impl_ExecFresh_S1 : St := ⟨(bs 32 []), [some []]⟩
noncomputable def impl_ExecFresh_k2 : Option Bool :=
  some true
theorem impl_ExecFresh_k2_ok (r : Bool) (h : impl_ExecFresh_k2 = some r) : Fin cx impl_ExecFresh_X (impl_ExecFresh_R r) (impl_ExecFresh_O r) impl_ExecFresh_k1 (impl_ExecFresh_S1) :=
  P0 <|
 rg <| fe Try.func66 h
noncomputable def impl_ExecFresh_k3 : List Item := posI 2000 3 [false] [.code impl_ExecFresh_c]
noncomputable def impl_ExecFresh_S2 (list : List TBox) (r_ : TRun) (v18 : Int) : St := ⟨(vsl 2 eBox list :: (bs 15 (vsl 2 eRead r_.Reads :: (vi (r_.Reads.length : Int) :: (vi v18 :: (bs 13 [])))))), [some []]⟩
noncomputable def impl_ExecFresh_b1 (list : List TBox) (r_ : TRun) (v18 : Int) : Option (Stp Bool Int Unit) :=
  (bif decide (v18 < (r_.Reads.length : Int)) then
 ((idx r_.Reads v18).bind fun read =>
 ((idx list read.Box).bind fun box =>
 (bif (box.Ver != read.Ver) then
 some (Stp.ret false)
 else
 some (Stp.nxt (w64 (v18 + 1))))))
 else
 some (Stp.brk ()))
theorem impl_ExecFresh_b1_ok (list : List TBox) (r_ : TRun) (res : V) (outs : List (Option V)) (x1 : Exc Bool Unit) (hb1 : HB cx impl_ExecFresh_X res outs x1 impl_ExecFresh_k1 (fun s => impl_ExecFresh_S1)) (hr1 : HR res outs x1 impl_ExecFresh_R impl_ExecFresh_O) (st1 : Stp Bool Int Unit) (hc1 : Cont x1 (fun s : Int => Fin cx impl_ExecFresh_X res outs impl_ExecFresh_k3 (impl_ExecFresh_S2 list r_ s)) st1) (v18 : Int) (h : impl_ExecFresh_b1 list r_ v18 = some st1) : Fin cx impl_ExecFresh_X res outs impl_ExecFresh_k3 (impl_ExecFresh_S2 list r_ v18) :=
  P0 <|
 rg <| cdD 0 h (fun h =>
 rg <| ixS eRead 0 h fun read hread h =>
 rg <| ixS eBox 3 h fun box hbox h =>
 cdD 8 h (fun h =>
 rg <| (retD h hc1 fun e => fn0 Try.func66 (hr1 _ e))) (fun h =>
 rg <| (nxtD h hc1 fun hI => sg [] [0, 16, 17, 18] [] hI))) (fun h =>
 (brkD h hc1 fun e => sg [] [] [] (hb1 _ e)))
noncomputable def impl_ExecFresh (list : List TBox) (r_ : TRun) : Option Bool :=
  ((impl_BoxOk list).bind fun boxOk =>
 (bif (!boxOk) then
 some false
 else
 ((impl_ExecOk r_).bind fun execOk =>
 (bif (!execOk) then
 some false
 else
 ((loop (fun s : Int => impl_ExecFresh_b1 list r_ s) 0).bind fun x => x.go (fun r => some r) fun s => impl_ExecFresh_k2)))))
theorem impl_ExecFresh_ok {list : List TBox} {r_ : TRun} (r : Bool) (h : impl_ExecFresh list r_ = some r) : ACalls cx.P 66 [vsl 2 eBox list, .agg (eRun r_)] (impl_ExecFresh_R r) (impl_ExecFresh_O r) :=
  ACalls.of (cx := cx) (X := impl_ExecFresh_X) (c := impl_ExecFresh_c) Try.func66 (by kernel_rfl) (by kernel_rfl) (by kernel_rfl) (P0 <|
 rg2 <| cb impl_BoxOk_t impl_BoxOk_ok 1 false h fun boxOk h =>
 cdD 3 h (fun h =>
 rg <| fe Try.func66 h) (fun h =>
 cb impl_ExecOk_t impl_ExecOk_ok 5 false h fun execOk h =>
 cdD 7 h (fun h =>
 rg <| fe Try.func66 h) (fun h =>
 rg <| loopJ h fun x hl hr hb => sg [] [0, 16, 17, 18] [] (loopD (I := fun s : Int => Fin cx impl_ExecFresh_X (impl_ExecFresh_R r) (impl_ExecFresh_O r) impl_ExecFresh_k3 (impl_ExecFresh_S2 list r_ s)) hl fun s st h hc => impl_ExecFresh_b1_ok list r_ _ _ x (fun s e => impl_ExecFresh_k2_ok r (hb s e)) (fun v e => ⟨congrArg impl_ExecFresh_R (Option.some.inj (hr v e)).symm, congrArg impl_ExecFresh_O (Option.some.inj (hr v e)).symm⟩) st hc s h))))

/-! ### impl_ExecDo -/
noncomputable def impl_ExecDo_c : Code := bodyOf Try.f67
noncomputable def impl_ExecDo_X : Sig := { f := 67, fn := Try.f67, rms := [.val [some 2] [some 58]], oms := [none, none] }
noncomputable def impl_ExecDo_R (r : List TBox) : V := vosl 58 2 eBox r
noncomputable def impl_ExecDo_O (r : List TBox) : List (Option V) := [none, none]
noncomputable def impl_ExecDo_t (i : Nat) (fr : Bool) (r : List TBox) : Nat × Tell := (i, { a := .call [.val [some 2] [], .val ck51 []] fr (impl_ExecDo_R r) (impl_ExecDo_O r) })
noncomputable def impl_ExecDo_k1 : List Item := posI 2000 5 [false, false] [.code impl_ExecDo_c]
noncomputable def impl_ExecDo_S1 (out1 : List TBox) : St := ⟨(bs 5 (.own 1 0 2 0 out1.length :: (bs 36 []))), [some [], some [erow 58 2 eBox out1]]⟩
noncomputable def impl_ExecDo_k2 (out1 : List TBox) : Option (List TBox) :=
  some out1
theorem impl_ExecDo_k2_ok (r : List TBox) (out1 : List TBox) (h : impl_ExecDo_k2 out1 = some r) : Fin cx impl_ExecDo_X (impl_ExecDo_R r) (impl_ExecDo_O r) impl_ExecDo_k1 (impl_ExecDo_S1 out1) :=
  P0 <|
 rg <| om (out1.length = out1.length) rfl <| fe Try.func67 h
noncomputable def impl_ExecDo_k3 : List Item := posI 2000 4 [false] [.code impl_ExecDo_c]
noncomputable def impl_ExecDo_S2 (r_ : TRun) (out : List TBox) (v21 : Int) : St := ⟨(bs 5 (.own 1 0 2 0 out.length :: (bs 13 (vsl 2 ePut r_.Puts :: (vi (r_.Puts.length : Int) :: (vi v21 :: (bs 20 []))))))), [some [], some [erow 58 2 eBox out]]⟩
noncomputable def impl_ExecDo_b1 (r_ : TRun) (out : List TBox) (v21 : Int) : Option (Stp (List TBox) ((List TBox) × Int) (List TBox)) :=
  (bif decide (v21 < (r_.Puts.length : Int)) then
 ((idx r_.Puts v21).bind fun put =>
 ((idx out put.Box).bind fun box1 =>
 some (Stp.nxt (out.set put.Box.toNat (TBox.mk (if (w64 (box1.Ver + 1)) < 1000000 then (w64 (box1.Ver + 1)) else 1000000) put.Val), w64 (v21 + 1)))))
 else
 some (Stp.brk out))
theorem impl_ExecDo_b1_ok (r_ : TRun) (res : V) (outs : List (Option V)) (x1 : Exc (List TBox) (List TBox)) (hb1 : HB cx impl_ExecDo_X res outs x1 impl_ExecDo_k1 impl_ExecDo_S1) (hr1 : HR res outs x1 impl_ExecDo_R impl_ExecDo_O) (st1 : Stp (List TBox) ((List TBox) × Int) (List TBox)) (hc1 : Cont x1 (fun s : (List TBox) × Int => Fin cx impl_ExecDo_X res outs impl_ExecDo_k3 (impl_ExecDo_S2 r_ s.1 s.2)) st1) (out : List TBox) (v21 : Int) (h : impl_ExecDo_b1 r_ out v21 = some st1) : Fin cx impl_ExecDo_X res outs impl_ExecDo_k3 (impl_ExecDo_S2 r_ out v21) :=
  P0 <|
 rg <| cdD 0 h (fun h =>
 rg <| ixS ePut 0 h fun put hput h =>
 rg <| bindD h fun box1 hbox1 h =>
 ixB hbox1 <| ldR eBox 8 hbox1 <| ixB hbox1 <| stR 58 2 eBox 15 [] (TBox.mk (if (w64 (box1.Ver + 1)) < 1000000 then (w64 (box1.Ver + 1)) else 1000000) put.Val) hbox1 <| rg <| (nxtD h hc1 fun hI => om ((.own 1 0 2 0 out.length : V) = .own 1 0 2 0 (out.set put.Box.toNat (TBox.mk (if (w64 (box1.Ver + 1)) < 1000000 then (w64 (box1.Ver + 1)) else 1000000) put.Val)).length) (by simp) <| sg [.is (.tmp 5) (.own 1 0 2 0 (out.set put.Box.toNat (TBox.mk (if (w64 (box1.Ver + 1)) < 1000000 then (w64 (box1.Ver + 1)) else 1000000) put.Val)).length)] [5, 19, 20, 21] [(1, 0)] hI)) (fun h =>
 (brkD h hc1 fun e => sg [] [5] [(1, 0)] (hb1 _ e)))
noncomputable def impl_ExecDo (list : List TBox) (r_ : TRun) : Option (List TBox) :=
  ((impl_BoxOk list).bind fun boxOk =>
 (bif (!boxOk) then
 some []
 else
 ((impl_ExecOk r_).bind fun execOk =>
 (bif (!execOk) then
 some []
 else
 ((impl_copied_Box list).bind fun box =>
 ((loop (fun s : (List TBox) × Int => impl_ExecDo_b1 r_ s.1 s.2) (box, 0)).bind fun x => x.go (fun r => some r) fun s => impl_ExecDo_k2 s))))))
theorem impl_ExecDo_ok {list : List TBox} {r_ : TRun} (r : List TBox) (h : impl_ExecDo list r_ = some r) : ACalls cx.P 67 [vsl 2 eBox list, .agg (eRun r_)] (impl_ExecDo_R r) (impl_ExecDo_O r) :=
  ACalls.of (cx := cx) (X := impl_ExecDo_X) (c := impl_ExecDo_c) Try.func67 (by kernel_rfl) (by kernel_rfl) (by kernel_rfl) (P0 <|
 rg2 <| cb impl_BoxOk_t impl_BoxOk_ok 1 false h fun boxOk h =>
 cdD 3 h (fun h =>
 rg <| fe Try.func67 h) (fun h =>
 cb impl_ExecOk_t impl_ExecOk_ok 5 false h fun execOk h =>
 cdD 7 h (fun h =>
 rg <| fe Try.func67 h) (fun h =>
 rg <| cb impl_copied_Box_t impl_copied_Box_ok 1 false h fun box h =>
 rg <| loopJ h fun x hl hr hb => sg [] [5, 19, 20, 21] [(12, 0)] (loopD (I := fun s : (List TBox) × Int => Fin cx impl_ExecDo_X (impl_ExecDo_R r) (impl_ExecDo_O r) impl_ExecDo_k3 (impl_ExecDo_S2 r_ s.1 s.2)) hl fun s st h hc => impl_ExecDo_b1_ok r_ _ _ x (fun s e => impl_ExecDo_k2_ok r s (hb s e)) (fun v e => ⟨congrArg impl_ExecDo_R (Option.some.inj (hr v e)).symm, congrArg impl_ExecDo_O (Option.some.inj (hr v e)).symm⟩) st hc s.1 s.2 h))))

/-! ### impl_CertApply -/
noncomputable def impl_CertApply_c : Code := bodyOf Try.f50
noncomputable def impl_CertApply_X : Sig := { f := 50, fn := Try.f50, rms := [.val [none, some 2, some 4] [none, some 58, none], .val [] []], oms := [none, none] }
noncomputable def impl_CertApply_R (r : TState × Int) : V := .tup [.agg [vi r.1.At, vosl 58 2 eBox r.1.Boxes, vsl 4 eDone r.1.Dones], vi r.2]
noncomputable def impl_CertApply_O (r : TState × Int) : List (Option V) := [none, none]
noncomputable def impl_CertApply_t (i : Nat) (fr : Bool) (r : TState × Int) : Nat × Tell := (i, { a := .call [.val [none, some 2, some 4] [], .val ck53 []] fr (impl_CertApply_R r) (impl_CertApply_O r) })
noncomputable def impl_CertApply_k1 : List Item := posI 2000 6 [false, false, false] [.code impl_CertApply_c]
noncomputable def impl_CertApply_S1 (s_ : TState) (e_ : TEntry) (box : List TBox) : St := ⟨(bs 2 (.ptr 1 0 0 :: (.ptr 2 0 0 :: (.ptr 3 0 0 :: (bs 1 (.ptr 4 0 0 :: (bs 145 []))))))), [some [], some [.var 45 [vi s_.At, vsl 2 eBox s_.Boxes, vsl 4 eDone s_.Dones]], some [.var 53 [.b e_.None, vi e_.Req.Who, vi e_.Req.Seq, vsl 2 eRead e_.Run.Reads, vsl 2 ePut e_.Run.Puts, vi e_.Run.Val, vi e_.Run.Code]], some [.var 45 [vi 0, .nil, .nil]], some [.var 45 [vi (w64 (s_.At + 1)), .own 5 0 2 0 box.length, .nil]], some [erow 58 2 eBox box]]⟩
noncomputable def impl_CertApply_k2 : List Item := posI 2000 9 [false, false, false, true] [.code impl_CertApply_c]
noncomputable def impl_CertApply_S2 (s_ : TState) (own : TDone) (Boxes : List TBox) : St := ⟨(bs 2 (.ptr 1 0 0 :: (bs 1 (.ptr 2 0 0 :: (bs 1 (.ptr 3 0 0 :: (bs 2 (.ptr 5 0 0 :: (bs 142 []))))))))), [some [], some [.var 45 [vi s_.At, vsl 2 eBox s_.Boxes, vsl 4 eDone s_.Dones]], some [.var 45 [vi 0, .nil, .nil]], some [.var 45 [vi (w64 (s_.At + 1)), .own 4 0 2 0 Boxes.length, .nil]], some [erow 58 2 eBox Boxes], some [.var 84 [vi own.Req.Who, vi own.Req.Seq, vi own.Code, vi own.Val]]]⟩
noncomputable def impl_CertApply_k3 : List Item := posI 2000 13 [false, false, false, true, false] [.code impl_CertApply_c]
noncomputable def impl_CertApply_S3 (s_ : TState) (own : TDone) (Boxes : List TBox) (dones1 : List TDone) (put1 : Bool) : St := ⟨(bs 4 (.ptr 1 0 0 :: (bs 1 (.ptr 2 0 0 :: (bs 2 (.ptr 4 0 0 :: (.own 5 0 4 0 dones1.length :: (.b put1 :: (bs 140 []))))))))), [some [], some [.var 45 [vi 0, .nil, .nil]], some [.var 45 [vi (w64 (s_.At + 1)), .own 3 0 2 0 Boxes.length, .nil]], some [erow 58 2 eBox Boxes], some [.var 84 [vi own.Req.Who, vi own.Req.Seq, vi own.Code, vi own.Val]], some [erow 84 4 eDone dones1]]⟩
noncomputable def impl_CertApply_k4 : List Item := posI 2000 15 [false, false, false, true, false, true] [.code impl_CertApply_c]
noncomputable def impl_CertApply_S4 (s_ : TState) (own : TDone) (Boxes : List TBox) (dones2 : List TDone) : St := ⟨(bs 4 (.ptr 1 0 0 :: (bs 1 (.ptr 2 0 0 :: (bs 2 (.ptr 4 0 0 :: (.own 5 0 4 0 dones2.length :: (bs 141 [])))))))), [some [], some [.var 45 [vi 0, .nil, .nil]], some [.var 45 [vi (w64 (s_.At + 1)), .own 3 0 2 0 Boxes.length, .nil]], some [erow 58 2 eBox Boxes], some [.var 84 [vi own.Req.Who, vi own.Req.Seq, vi own.Code, vi own.Val]], some [erow 84 4 eDone dones2]]⟩
noncomputable def impl_CertApply_j1 (s_ : TState) (own : TDone) (Boxes : List TBox) (dones2 : List TDone) : Option (TState × Int) :=
  ((impl_copied_Done dones2).bind fun done1 =>
 some ((TState.mk (w64 (s_.At + 1)) Boxes done1), own.Code))
theorem impl_CertApply_j1_ok (s_ : TState) (own : TDone) (Boxes : List TBox) (r : TState × Int) (dones2 : List TDone) (h : impl_CertApply_j1 s_ own Boxes dones2 = some r) : Fin cx impl_CertApply_X (impl_CertApply_R r) (impl_CertApply_O r) impl_CertApply_k4 (impl_CertApply_S4 s_ own Boxes dones2) :=
  P0 <|
 rg <| cb impl_copied_Done_t impl_copied_Done_ok 1 false h fun done1 h =>
 om (dones2.length = dones2.length) rfl <| rg <| om (Boxes.length = Boxes.length) rfl <| fe Try.func50 h
noncomputable def impl_CertApply_k5 (s_ : TState) (own : TDone) (Boxes : List TBox) (dones1 : List TDone) (put1 : Bool) : Option (TState × Int) :=
  (((bif (!put1) then
 (need ((dones1.length + 1) * 32 ≤ 140737488355328)
 (some (Exc.brk (dones1 ++ [own]))))
 else
 some (Exc.brk dones1)) : Option (Exc (TState × Int) (List TDone))).bind fun x => x.go some fun j => impl_CertApply_j1 s_ own Boxes j)
theorem impl_CertApply_k5_ok (s_ : TState) (own : TDone) (Boxes : List TBox) (r : TState × Int) (dones1 : List TDone) (put1 : Bool) (h : impl_CertApply_k5 s_ own Boxes dones1 put1 = some r) : Fin cx impl_CertApply_X (impl_CertApply_R r) (impl_CertApply_O r) impl_CertApply_k3 (impl_CertApply_S3 s_ own Boxes dones1 put1) :=
  P0 <|
 joinD (I := fun j : List TDone => Fin cx impl_CertApply_X (impl_CertApply_R r) (impl_CertApply_O r) impl_CertApply_k4 (impl_CertApply_S4 s_ own Boxes j)) h (fun j h => impl_CertApply_j1_ok s_ own Boxes r j h) (fun x1 h hc1 =>
  rg <| cdD 1 h (fun h =>
 rg <| tl (2, { a := .ck [] }) <| needD h fun e1 h =>
 apS 3 11 84 4 32 eDone dones1 own e1 <| om (1 = [own].length) (by rfl) <| (jbrkD h hc1 fun hI => sg [] [4, 6, 9, 10] [(1, 0), (2, 0), (3, 0), (4, 0), (11, 0)] hI)) (fun h =>
 (jbrkD h hc1 fun hI => sg [] [4, 6, 9, 10] [(1, 0), (2, 0), (3, 0), (4, 0), (5, 0)] hI)))
noncomputable def impl_CertApply_k6 : List Item := posI 2000 12 [false, false, false, true] [.code impl_CertApply_c]
noncomputable def impl_CertApply_S5 (s_ : TState) (own : TDone) (Boxes : List TBox) (dones : List TDone) (v109 : Int) (put : Bool) : St := ⟨(bs 4 (.ptr 1 0 0 :: (bs 1 (.ptr 2 0 0 :: (bs 2 (.ptr 4 0 0 :: (.own 5 0 4 0 dones.length :: (.b put :: (bs 95 (vsl 4 eDone s_.Dones :: (vi (s_.Dones.length : Int) :: (vi v109 :: (bs 42 []))))))))))))), [some [], some [.var 45 [vi 0, .nil, .nil]], some [.var 45 [vi (w64 (s_.At + 1)), .own 3 0 2 0 Boxes.length, .nil]], some [erow 58 2 eBox Boxes], some [.var 84 [vi own.Req.Who, vi own.Req.Seq, vi own.Code, vi own.Val]], some [erow 84 4 eDone dones]]⟩
noncomputable def impl_CertApply_k7 : List Item := posI 2000 17 [false, false, false, true, true, true] [.code impl_CertApply_c]
noncomputable def impl_CertApply_S6 (s_ : TState) (own : TDone) (Boxes : List TBox) (v109 : Int) (done2 : TDone) (dones3 : List TDone) (put2 : Bool) : St := ⟨(bs 4 (.ptr 1 0 0 :: (bs 1 (.ptr 2 0 0 :: (bs 2 (.ptr 4 0 0 :: (.own 5 0 4 0 dones3.length :: (.b put2 :: (bs 1 (.ptr 6 0 0 :: (bs 93 (vsl 4 eDone s_.Dones :: (vi (s_.Dones.length : Int) :: (vi v109 :: (bs 42 []))))))))))))))), [some [], some [.var 45 [vi 0, .nil, .nil]], some [.var 45 [vi (w64 (s_.At + 1)), .own 3 0 2 0 Boxes.length, .nil]], some [erow 58 2 eBox Boxes], some [.var 84 [vi own.Req.Who, vi own.Req.Seq, vi own.Code, vi own.Val]], some [erow 84 4 eDone dones3], some [.var 84 [vi done2.Req.Who, vi done2.Req.Seq, vi done2.Code, vi done2.Val]]]⟩
noncomputable def impl_CertApply_k8 : List Item := posI 2000 19 [false, false, false, true, true, true, true] [.code impl_CertApply_c]
noncomputable def impl_CertApply_S7 (s_ : TState) (own : TDone) (Boxes : List TBox) (v109 : Int) (put2 : Bool) (dones4 : List TDone) : St := ⟨(bs 4 (.ptr 1 0 0 :: (bs 1 (.ptr 2 0 0 :: (bs 2 (.ptr 4 0 0 :: (.own 5 0 4 0 dones4.length :: (.b put2 :: (bs 95 (vsl 4 eDone s_.Dones :: (vi (s_.Dones.length : Int) :: (vi v109 :: (bs 42 []))))))))))))), [some [], some [.var 45 [vi 0, .nil, .nil]], some [.var 45 [vi (w64 (s_.At + 1)), .own 3 0 2 0 Boxes.length, .nil]], some [erow 58 2 eBox Boxes], some [.var 84 [vi own.Req.Who, vi own.Req.Seq, vi own.Code, vi own.Val]], some [erow 84 4 eDone dones4]]⟩
noncomputable def impl_CertApply_j2 (v109 : Int) (put2 : Bool) (dones4 : List TDone) : Option (Stp (TState × Int) ((List TDone) × Int × Bool) ((List TDone) × Bool)) :=
  some (Stp.nxt (dones4, w64 (v109 + 1), put2))
theorem impl_CertApply_j2_ok (s_ : TState) (own : TDone) (Boxes : List TBox) (v109 : Int) (put2 : Bool) (res : V) (outs : List (Option V)) (x1 : Exc (TState × Int) ((List TDone) × Bool)) (hb1 : HB cx impl_CertApply_X res outs x1 impl_CertApply_k3 (fun s => impl_CertApply_S3 s_ own Boxes s.1 s.2)) (hr1 : HR res outs x1 impl_CertApply_R impl_CertApply_O) (st1 : Stp (TState × Int) ((List TDone) × Int × Bool) ((List TDone) × Bool)) (hc1 : Cont x1 (fun s : (List TDone) × Int × Bool => Fin cx impl_CertApply_X res outs impl_CertApply_k6 (impl_CertApply_S5 s_ own Boxes s.1 s.2.1 s.2.2)) st1) (dones4 : List TDone) (h : impl_CertApply_j2 v109 put2 dones4 = some st1) : Fin cx impl_CertApply_X res outs impl_CertApply_k8 (impl_CertApply_S7 s_ own Boxes v109 put2 dones4) :=
  P0 <|
 rg <| (nxtD h hc1 fun hI => sg [] [4, 6, 9, 10, 11, 107, 108, 109] [(1, 0), (2, 0), (3, 0), (4, 0), (5, 0)] hI)
noncomputable def impl_CertApply_j3 (own : TDone) (v109 : Int) (done2 : TDone) (dones3 : List TDone) (put2 : Bool) : Option (Stp (TState × Int) ((List TDone) × Int × Bool) ((List TDone) × Bool)) :=
  (((bif (done2.Req.Who != own.Req.Who) then
 (need ((dones3.length + 1) * 32 ≤ 140737488355328)
 (some (Exc.brk (dones3 ++ [done2]))))
 else
 some (Exc.brk dones3)) : Option (Exc (Stp (TState × Int) ((List TDone) × Int × Bool) ((List TDone) × Bool)) (List TDone))).bind fun x => x.go some fun j => impl_CertApply_j2 v109 put2 j)
theorem impl_CertApply_j3_ok (s_ : TState) (own : TDone) (Boxes : List TBox) (v109 : Int) (done2 : TDone) (res : V) (outs : List (Option V)) (x1 : Exc (TState × Int) ((List TDone) × Bool)) (hb1 : HB cx impl_CertApply_X res outs x1 impl_CertApply_k3 (fun s => impl_CertApply_S3 s_ own Boxes s.1 s.2)) (hr1 : HR res outs x1 impl_CertApply_R impl_CertApply_O) (st1 : Stp (TState × Int) ((List TDone) × Int × Bool) ((List TDone) × Bool)) (hc1 : Cont x1 (fun s : (List TDone) × Int × Bool => Fin cx impl_CertApply_X res outs impl_CertApply_k6 (impl_CertApply_S5 s_ own Boxes s.1 s.2.1 s.2.2)) st1) (dones3 : List TDone) (put2 : Bool) (h : impl_CertApply_j3 own v109 done2 dones3 put2 = some st1) : Fin cx impl_CertApply_X res outs impl_CertApply_k7 (impl_CertApply_S6 s_ own Boxes v109 done2 dones3 put2) :=
  P0 <|
 joinD (I := fun j : List TDone => Fin cx impl_CertApply_X res outs impl_CertApply_k8 (impl_CertApply_S7 s_ own Boxes v109 put2 j)) h (fun j h => impl_CertApply_j2_ok s_ own Boxes v109 put2 res outs x1 hb1 hr1 st1 hc1 j h) (fun x2 h hc2 =>
  rg <| cdD 6 h (fun h =>
 rg <| tl (2, { a := .ck [] }) <| needD h fun e2 h =>
 apS 3 17 84 4 32 eDone dones3 done2 e2 <| om (1 = [done2].length) (by rfl) <| (jbrkD h hc2 fun hI => sg [] [4, 6, 9, 10, 11, 107, 108, 109] [(1, 0), (2, 0), (3, 0), (4, 0), (17, 0)] hI)) (fun h =>
 (jbrkD h hc2 fun hI => sg [] [4, 6, 9, 10, 11, 107, 108, 109] [(1, 0), (2, 0), (3, 0), (4, 0), (5, 0)] hI)))
noncomputable def impl_CertApply_b1 (s_ : TState) (own : TDone) (dones : List TDone) (v109 : Int) (put : Bool) : Option (Stp (TState × Int) ((List TDone) × Int × Bool) ((List TDone) × Bool)) :=
  (bif decide (v109 < (s_.Dones.length : Int)) then
 ((idx s_.Dones v109).bind fun done2 =>
 (((bif (!put) then
 (bif decide (done2.Req.Who ≥ own.Req.Who) then
 (need ((dones.length + 1) * 32 ≤ 140737488355328)
 (some (Exc.brk (dones ++ [own], true))))
 else
 some (Exc.brk (dones, put)))
 else
 some (Exc.brk (dones, put))) : Option (Exc (Stp (TState × Int) ((List TDone) × Int × Bool) ((List TDone) × Bool)) ((List TDone) × Bool))).bind fun x => x.go some fun j => impl_CertApply_j3 own v109 done2 j.1 j.2))
 else
 some (Stp.brk (dones, put)))
theorem impl_CertApply_b1_ok (s_ : TState) (own : TDone) (Boxes : List TBox) (res : V) (outs : List (Option V)) (x1 : Exc (TState × Int) ((List TDone) × Bool)) (hb1 : HB cx impl_CertApply_X res outs x1 impl_CertApply_k3 (fun s => impl_CertApply_S3 s_ own Boxes s.1 s.2)) (hr1 : HR res outs x1 impl_CertApply_R impl_CertApply_O) (st1 : Stp (TState × Int) ((List TDone) × Int × Bool) ((List TDone) × Bool)) (hc1 : Cont x1 (fun s : (List TDone) × Int × Bool => Fin cx impl_CertApply_X res outs impl_CertApply_k6 (impl_CertApply_S5 s_ own Boxes s.1 s.2.1 s.2.2)) st1) (dones : List TDone) (v109 : Int) (put : Bool) (h : impl_CertApply_b1 s_ own dones v109 put = some st1) : Fin cx impl_CertApply_X res outs impl_CertApply_k6 (impl_CertApply_S5 s_ own Boxes dones v109 put) :=
  P0 <|
 rg <| cdD 0 h (fun h =>
 rg <| ixS eDone 0 h fun done2 hdone2 h =>
 joinD (I := fun j : (List TDone) × Bool => Fin cx impl_CertApply_X res outs impl_CertApply_k7 (impl_CertApply_S6 s_ own Boxes v109 done2 j.1 j.2)) h (fun j h => impl_CertApply_j3_ok s_ own Boxes v109 done2 res outs x1 hb1 hr1 st1 hc1 j.1 j.2 h) (fun x2 h hc2 =>
  rg <| cdD 2 h (fun h =>
 cdD 10 h (fun h =>
 rg <| tl (2, { a := .ck [] }) <| needD h fun e3 h =>
 apS 3 25 84 4 32 eDone dones own e3 <| om (1 = [own].length) (by rfl) <| rg <| (jbrkD h hc2 fun hI => sg [] [4, 6, 9, 10, 11, 13, 107, 108, 109] [(1, 0), (2, 0), (3, 0), (4, 0), (25, 0), (9, 0)] hI)) (fun h =>
 (jbrkD h hc2 fun hI => sg [] [4, 6, 9, 10, 11, 13, 107, 108, 109] [(1, 0), (2, 0), (3, 0), (4, 0), (5, 0), (9, 0)] hI))) (fun h =>
 (jbrkD h hc2 fun hI => sg [] [4, 6, 9, 10, 11, 13, 107, 108, 109] [(1, 0), (2, 0), (3, 0), (4, 0), (5, 0), (9, 0)] hI)))) (fun h =>
 (brkD h hc1 fun e => sg [] [4, 6, 9, 10, 11] [(1, 0), (2, 0), (3, 0), (4, 0), (5, 0)] (hb1 _ e)))
noncomputable def impl_CertApply_j4 (s_ : TState) (own : TDone) (Boxes : List TBox) : Option (TState × Int) :=
  ((loop (fun s : (List TDone) × Int × Bool => impl_CertApply_b1 s_ own s.1 s.2.1 s.2.2) ([], 0, false)).bind fun x => x.go (fun r => some r) fun s => impl_CertApply_k5 s_ own Boxes s.1 s.2)
theorem impl_CertApply_j4_ok (s_ : TState) (r : TState × Int) (own : TDone) (Boxes : List TBox) (h : impl_CertApply_j4 s_ own Boxes = some r) : Fin cx impl_CertApply_X (impl_CertApply_R r) (impl_CertApply_O r) impl_CertApply_k2 (impl_CertApply_S2 s_ own Boxes) :=
  P0 <|
 rg3 <| loopJ h fun x hl hr hb => sg [.own (.tmp 10) 84 4] [4, 6, 9, 10, 11, 107, 108, 109] [(2, 0), (3, 0), (4, 0), (5, 0), (12, 0)] (loopD (I := fun s : (List TDone) × Int × Bool => Fin cx impl_CertApply_X (impl_CertApply_R r) (impl_CertApply_O r) impl_CertApply_k6 (impl_CertApply_S5 s_ own Boxes s.1 s.2.1 s.2.2)) hl fun s st h hc => impl_CertApply_b1_ok s_ own Boxes _ _ x (fun s e => impl_CertApply_k5_ok s_ own Boxes r s.1 s.2 (hb s e)) (fun v e => ⟨congrArg impl_CertApply_R (Option.some.inj (hr v e)).symm, congrArg impl_CertApply_O (Option.some.inj (hr v e)).symm⟩) st hc s.1 s.2.1 s.2.2 h)
noncomputable def impl_CertApply_k9 (s_ : TState) (e_ : TEntry) (box : List TBox) : Option (TState × Int) :=
  ((((impl_ExecFresh s_.Boxes e_.Run).bind fun execFresh =>
 (bif (!execFresh) then
 some (Exc.brk ((TDone.mk e_.Req 1 0), box))
 else
 (bif (e_.Run.Code != 0) then
 some (Exc.brk ((TDone.mk e_.Req 2 0), box))
 else
 ((impl_ExecDo s_.Boxes e_.Run).bind fun execDo =>
 some (Exc.brk ((TDone.mk e_.Req 0 e_.Run.Val), execDo)))))) : Option (Exc (TState × Int) (TDone × List TBox))).bind fun x => x.go some fun j => impl_CertApply_j4 s_ j.1 j.2)
theorem impl_CertApply_k9_ok (s_ : TState) (e_ : TEntry) (box : List TBox) (r : TState × Int) (h : impl_CertApply_k9 s_ e_ box = some r) : Fin cx impl_CertApply_X (impl_CertApply_R r) (impl_CertApply_O r) impl_CertApply_k1 (impl_CertApply_S1 s_ e_ box) :=
  P0 <|
 rg <| joinD (I := fun j : TDone × List TBox => Fin cx impl_CertApply_X (impl_CertApply_R r) (impl_CertApply_O r) impl_CertApply_k2 (impl_CertApply_S2 s_ j.1 j.2)) h (fun j h => impl_CertApply_j4_ok s_ r j.1 j.2 h) (fun x1 h hc1 =>
  rg <| cb impl_ExecFresh_t impl_ExecFresh_ok 4 false h fun execFresh h =>
 cdD 6 h (fun h =>
 rg <| (jbrkD h hc1 fun hI => sg [] [2, 4, 6, 9] [(1, 0), (3, 0), (4, 0), (5, 0), (9, 0)] hI)) (fun h =>
 rg <| cdD 4 h (fun h =>
 rg <| (jbrkD h hc1 fun hI => sg [] [2, 4, 6, 9] [(1, 0), (3, 0), (4, 0), (5, 0), (9, 0)] hI)) (fun h =>
 rg2 <| cb impl_ExecDo_t impl_ExecDo_ok 4 false h fun execDo h =>
 (jbrkD h hc1 fun hI => sg [] [2, 4, 6, 9] [(1, 0), (3, 0), (4, 0), (32, 0), (9, 0)] hI))))
noncomputable def impl_CertApply_k10 : List Item := posI 2000 5 [false, false] [.code impl_CertApply_c]
noncomputable def impl_CertApply_S8 (s_ : TState) (e_ : TEntry) (box : List TBox) (v45 : Int) : St := ⟨(bs 2 (.ptr 1 0 0 :: (.ptr 2 0 0 :: (.ptr 3 0 0 :: (bs 1 (.ptr 4 0 0 :: (bs 36 (vsl 4 eDone s_.Dones :: (vi (s_.Dones.length : Int) :: (vi v45 :: (bs 106 []))))))))))), [some [], some [.var 45 [vi s_.At, vsl 2 eBox s_.Boxes, vsl 4 eDone s_.Dones]], some [.var 53 [.b e_.None, vi e_.Req.Who, vi e_.Req.Seq, vsl 2 eRead e_.Run.Reads, vsl 2 ePut e_.Run.Puts, vi e_.Run.Val, vi e_.Run.Code]], some [.var 45 [vi 0, .nil, .nil]], some [.var 45 [vi (w64 (s_.At + 1)), .own 5 0 2 0 box.length, .nil]], some [erow 58 2 eBox box]]⟩
noncomputable def impl_CertApply_k11 : List Item := posI 2000 8 [false, false, true, false] [.code impl_CertApply_c]
noncomputable def impl_CertApply_S9 (s_ : TState) (e_ : TEntry) (box : List TBox) (v45 : Int) : St := ⟨(bs 2 (.ptr 1 0 0 :: (.ptr 2 0 0 :: (.ptr 3 0 0 :: (bs 1 (.ptr 4 0 0 :: (bs 36 (vsl 4 eDone s_.Dones :: (vi (s_.Dones.length : Int) :: (vi v45 :: (bs 106 []))))))))))), [some [], some [.var 45 [vi s_.At, vsl 2 eBox s_.Boxes, vsl 4 eDone s_.Dones]], some [.var 53 [.b e_.None, vi e_.Req.Who, vi e_.Req.Seq, vsl 2 eRead e_.Run.Reads, vsl 2 ePut e_.Run.Puts, vi e_.Run.Val, vi e_.Run.Code]], some [.var 45 [vi 0, .nil, .nil]], some [.var 45 [vi (w64 (s_.At + 1)), .own 5 0 2 0 box.length, .nil]], some [erow 58 2 eBox box]]⟩
noncomputable def impl_CertApply_j5 (v45 : Int) : Option (Stp (TState × Int) Int Unit) :=
  some (Stp.nxt (w64 (v45 + 1)))
theorem impl_CertApply_j5_ok (s_ : TState) (e_ : TEntry) (box : List TBox) (v45 : Int) (res : V) (outs : List (Option V)) (x1 : Exc (TState × Int) Unit) (hb1 : HB cx impl_CertApply_X res outs x1 impl_CertApply_k1 (fun s => impl_CertApply_S1 s_ e_ box)) (hr1 : HR res outs x1 impl_CertApply_R impl_CertApply_O) (st1 : Stp (TState × Int) Int Unit) (hc1 : Cont x1 (fun s : Int => Fin cx impl_CertApply_X res outs impl_CertApply_k10 (impl_CertApply_S8 s_ e_ box s)) st1) (h : impl_CertApply_j5 v45 = some st1) : Fin cx impl_CertApply_X res outs impl_CertApply_k11 (impl_CertApply_S9 s_ e_ box v45) :=
  P0 <|
 rg <| (nxtD h hc1 fun hI => sg [] [2, 3, 4, 6, 43, 44, 45] [(1, 0), (2, 0), (3, 0), (4, 0), (5, 0)] hI)
noncomputable def impl_CertApply_b2 (s_ : TState) (e_ : TEntry) (box : List TBox) (v45 : Int) : Option (Stp (TState × Int) Int Unit) :=
  (bif decide (v45 < (s_.Dones.length : Int)) then
 ((idx s_.Dones v45).bind fun done3 =>
 (((bif (done3.Req.Who == e_.Req.Who) then
 (bif decide (done3.Req.Seq ≥ e_.Req.Seq) then
 ((impl_copied_Done s_.Dones).bind fun done4 =>
 (bif (done3.Req.Seq == e_.Req.Seq) then
 some (Exc.ret (Stp.ret ((TState.mk (w64 (s_.At + 1)) box done4), 3)))
 else
 some (Exc.ret (Stp.ret ((TState.mk (w64 (s_.At + 1)) box done4), 4)))))
 else
 some (Exc.brk ()))
 else
 some (Exc.brk ())) : Option (Exc (Stp (TState × Int) Int Unit) Unit)).bind fun x => x.go some fun j => impl_CertApply_j5 v45))
 else
 some (Stp.brk ()))
theorem impl_CertApply_b2_ok (s_ : TState) (e_ : TEntry) (box : List TBox) (res : V) (outs : List (Option V)) (x1 : Exc (TState × Int) Unit) (hb1 : HB cx impl_CertApply_X res outs x1 impl_CertApply_k1 (fun s => impl_CertApply_S1 s_ e_ box)) (hr1 : HR res outs x1 impl_CertApply_R impl_CertApply_O) (st1 : Stp (TState × Int) Int Unit) (hc1 : Cont x1 (fun s : Int => Fin cx impl_CertApply_X res outs impl_CertApply_k10 (impl_CertApply_S8 s_ e_ box s)) st1) (v45 : Int) (h : impl_CertApply_b2 s_ e_ box v45 = some st1) : Fin cx impl_CertApply_X res outs impl_CertApply_k10 (impl_CertApply_S8 s_ e_ box v45) :=
  P0 <|
 rg <| cdD 0 h (fun h =>
 rg <| ixS eDone 0 h fun done3 hdone3 h =>
 joinD (I := fun j : Unit => Fin cx impl_CertApply_X res outs impl_CertApply_k11 (impl_CertApply_S9 s_ e_ box v45)) h (fun j h => impl_CertApply_j5_ok s_ e_ box v45 res outs x1 hb1 hr1 st1 hc1 h) (fun x2 h hc2 =>
  rg <| cdD 7 h (fun h =>
 cdD 15 h (fun h =>
 rg <| cb impl_copied_Done_t impl_copied_Done_ok 2 false h fun done4 h =>
 rg <| cdD 6 h (fun h =>
 rg <| (jretD h hc2 fun h => (retD h hc1 fun e => om (box.length = box.length) rfl <| fn0 Try.func50 (hr1 _ e)))) (fun h =>
 rg <| (jretD h hc2 fun h => (retD h hc1 fun e => om (box.length = box.length) rfl <| fn0 Try.func50 (hr1 _ e))))) (fun h =>
 (jbrkD h hc2 fun hI => sg [] [2, 3, 4, 6, 43, 44, 45] [(1, 0), (2, 0), (3, 0), (4, 0), (5, 0)] hI))) (fun h =>
 (jbrkD h hc2 fun hI => sg [] [2, 3, 4, 6, 43, 44, 45] [(1, 0), (2, 0), (3, 0), (4, 0), (5, 0)] hI)))) (fun h =>
 (brkD h hc1 fun e => sg [] [2, 3, 4, 6] [(1, 0), (2, 0), (3, 0), (4, 0), (5, 0)] (hb1 _ e)))
noncomputable def impl_CertApply (s_ : TState) (e_ : TEntry) : Option (TState × Int) :=
  ((impl_CertOk s_).bind fun certOk =>
 (bif (!certOk) then
 some ((TState.mk 0 [] []), (-1))
 else
 ((impl_CertEntry e_).bind fun certEntry =>
 (bif (!certEntry) then
 some ((TState.mk 0 [] []), (-1))
 else
 (bif (s_.At == 40) then
 some ((TState.mk 0 [] []), (-1))
 else
 ((impl_copied_Box s_.Boxes).bind fun box =>
 (bif e_.None then
 ((impl_copied_Done s_.Dones).bind fun done =>
 some ((TState.mk (w64 (s_.At + 1)) box done), 5))
 else
 ((loop (fun s : Int => impl_CertApply_b2 s_ e_ box s) 0).bind fun x => x.go (fun r => some r) fun s => impl_CertApply_k9 s_ e_ box))))))))
theorem impl_CertApply_ok {s_ : TState} {e_ : TEntry} (r : TState × Int) (h : impl_CertApply s_ e_ = some r) : ACalls cx.P 50 [.agg (eState s_), .agg (eEntry e_)] (impl_CertApply_R r) (impl_CertApply_O r) :=
  ACalls.of (cx := cx) (X := impl_CertApply_X) (c := impl_CertApply_c) Try.func50 (by kernel_rfl) (by kernel_rfl) (by kernel_rfl) (P0 <|
 rg2 <| cb impl_CertOk_t impl_CertOk_ok 1 false h fun certOk h =>
 cdD 3 h (fun h =>
 rg <| fe Try.func50 h) (fun h =>
 cb impl_CertEntry_t impl_CertEntry_ok 5 false h fun certEntry h =>
 cdD 8 h (fun h =>
 rg <| fe Try.func50 h) (fun h =>
 cdD 12 h (fun h =>
 rg <| fe Try.func50 h) (fun h =>
 rg <| cb impl_copied_Box_t impl_copied_Box_ok 5 false h fun box h =>
 rg <| cdD 1 h (fun h =>
 rg <| cb impl_copied_Done_t impl_copied_Done_ok 2 false h fun done h =>
 rg <| om (box.length = box.length) rfl <| fe Try.func50 h) (fun h =>
 rg <| loopJ h fun x hl hr hb => sg [] [2, 3, 4, 6, 43, 44, 45] [(1, 0), (2, 0), (3, 0), (25, 0), (23, 0)] (loopD (I := fun s : Int => Fin cx impl_CertApply_X (impl_CertApply_R r) (impl_CertApply_O r) impl_CertApply_k10 (impl_CertApply_S8 s_ e_ box s)) hl fun s st h hc => impl_CertApply_b2_ok s_ e_ box _ _ x (fun s e => impl_CertApply_k9_ok s_ e_ box r (hb s e)) (fun v e => ⟨congrArg impl_CertApply_R (Option.some.inj (hr v e)).symm, congrArg impl_CertApply_O (Option.some.inj (hr v e)).symm⟩) st hc s h))))))

/-! ### impl_folded -/
noncomputable def impl_folded_c : Code := bodyOf Try.f31
noncomputable def impl_folded_X : Sig := { f := 31, fn := Try.f31, rms := [.val [none, some 2, some 4] [none, some 58, none], .val [some 1] []], oms := [none] }
noncomputable def impl_folded_R (r : TState × List Int) : V := .tup [.agg [vi r.1.At, vosl 58 2 eBox r.1.Boxes, vsl 4 eDone r.1.Dones], vsl 1 eI r.2]
noncomputable def impl_folded_O (r : TState × List Int) : List (Option V) := [none]
noncomputable def impl_folded_t (i : Nat) (fr : Bool) (r : TState × List Int) : Nat × Tell := (i, { a := .call [.val [some 7] []] fr (impl_folded_R r) (impl_folded_O r) })
noncomputable def impl_folded_k1 : List Item := posI 2000 5 [false] [.code impl_folded_c]
noncomputable def impl_folded_S1 (Boxes1 : List TBox) (codes1 : List Int) (sAt1 : Int) (sDones1 : List TDone) : St := ⟨(bs 2 (.ptr 1 0 0 :: (bs 1 (.ptr 2 0 0 :: (.own 4 0 1 0 codes1.length :: (bs 25 [])))))), [some [], some [.var 45 [vi 0, .nil, .nil]], some [.var 45 [vi sAt1, .own 3 0 2 0 Boxes1.length, vsl 4 eDone sDones1]], some [erow 58 2 eBox Boxes1], some [erow 3 1 eI codes1]]⟩
noncomputable def impl_folded_k2 (Boxes1 : List TBox) (codes1 : List Int) (sAt1 : Int) (sDones1 : List TDone) : Option (TState × List Int) :=
  some ((TState.mk sAt1 Boxes1 sDones1), codes1)
theorem impl_folded_k2_ok (r : TState × List Int) (Boxes1 : List TBox) (codes1 : List Int) (sAt1 : Int) (sDones1 : List TDone) (h : impl_folded_k2 Boxes1 codes1 sAt1 sDones1 = some r) : Fin cx impl_folded_X (impl_folded_R r) (impl_folded_O r) impl_folded_k1 (impl_folded_S1 Boxes1 codes1 sAt1 sDones1) :=
  P0 <|
 rg <| om (Boxes1.length = Boxes1.length) rfl <| om (codes1.length = codes1.length) rfl <| fe Try.func31 h
noncomputable def impl_folded_k3 : List Item := posI 2000 4 [] [.code impl_folded_c]
noncomputable def impl_folded_S2 (list : List TEntry) (Boxes : List TBox) (codes : List Int) (v13 : Int) (sAt : Int) (sDones : List TDone) : St := ⟨(bs 2 (.ptr 1 0 0 :: (bs 1 (.ptr 2 0 0 :: (.own 4 0 1 0 codes.length :: (bs 5 (vsl 7 eEntry list :: (vi (list.length : Int) :: (vi v13 :: (bs 17 [])))))))))), [some [], some [.var 45 [vi 0, .nil, .nil]], some [.var 45 [vi sAt, .own 3 0 2 0 Boxes.length, vsl 4 eDone sDones]], some [erow 58 2 eBox Boxes], some [erow 3 1 eI codes]]⟩
noncomputable def impl_folded_b1 (list : List TEntry) (Boxes : List TBox) (codes : List Int) (v13 : Int) (sAt : Int) (sDones : List TDone) : Option (Stp (TState × List Int) ((List TBox) × (List Int) × Int × Int × List TDone) ((List TBox) × (List Int) × Int × List TDone)) :=
  (bif decide (v13 < (list.length : Int)) then
 ((idx list v13).bind fun entry =>
 ((impl_CertApply (TState.mk sAt Boxes sDones) entry).bind fun certApply =>
 (need ((codes.length + 1) * 8 ≤ 140737488355328)
 (some (Stp.nxt (certApply.1.Boxes, codes ++ [certApply.2], w64 (v13 + 1), certApply.1.At, certApply.1.Dones))))))
 else
 some (Stp.brk (Boxes, codes, sAt, sDones)))
theorem impl_folded_b1_ok (list : List TEntry) (res : V) (outs : List (Option V)) (x1 : Exc (TState × List Int) ((List TBox) × (List Int) × Int × List TDone)) (hb1 : HB cx impl_folded_X res outs x1 impl_folded_k1 (fun s => impl_folded_S1 s.1 s.2.1 s.2.2.1 s.2.2.2)) (hr1 : HR res outs x1 impl_folded_R impl_folded_O) (st1 : Stp (TState × List Int) ((List TBox) × (List Int) × Int × Int × List TDone) ((List TBox) × (List Int) × Int × List TDone)) (hc1 : Cont x1 (fun s : (List TBox) × (List Int) × Int × Int × List TDone => Fin cx impl_folded_X res outs impl_folded_k3 (impl_folded_S2 list s.1 s.2.1 s.2.2.1 s.2.2.2.1 s.2.2.2.2)) st1) (Boxes : List TBox) (codes : List Int) (v13 : Int) (sAt : Int) (sDones : List TDone) (h : impl_folded_b1 list Boxes codes v13 sAt sDones = some st1) : Fin cx impl_folded_X res outs impl_folded_k3 (impl_folded_S2 list Boxes codes v13 sAt sDones) :=
  P0 <|
 rg <| cdD 0 h (fun h =>
 rg <| ixS eEntry 0 h fun entry hentry h =>
 rg <| cb impl_CertApply_t impl_CertApply_ok 2 false h fun certApply h =>
 om (Boxes.length = Boxes.length) rfl <| rg2 <| tl (2, { a := .ck [] }) <| needD h fun e1 h =>
 apS 3 24 3 1 8 eI codes certApply.2 e1 <| om (1 = [certApply.2].length) (by rfl) <| rg <| (nxtD h hc1 fun hI => sg [] [2, 4, 5, 11, 12, 13] [(1, 0), (2, 0), (12, 0), (24, 0)] hI)) (fun h =>
 (brkD h hc1 fun e => sg [] [2, 4, 5] [(1, 0), (2, 0), (3, 0), (4, 0)] (hb1 _ e)))
noncomputable def impl_folded (list : List TEntry) : Option (TState × List Int) :=
  ((impl_CertOpen).bind fun certOpen =>
 ((loop (fun s : (List TBox) × (List Int) × Int × Int × List TDone => impl_folded_b1 list s.1 s.2.1 s.2.2.1 s.2.2.2.1 s.2.2.2.2) (certOpen.Boxes, [], 0, certOpen.At, certOpen.Dones)).bind fun x => x.go (fun r => some r) fun s => impl_folded_k2 s.1 s.2.1 s.2.2.1 s.2.2.2))
theorem impl_folded_ok {list : List TEntry} (r : TState × List Int) (h : impl_folded list = some r) : ACalls cx.P 31 [vsl 7 eEntry list] (impl_folded_R r) (impl_folded_O r) :=
  ACalls.of (cx := cx) (X := impl_folded_X) (c := impl_folded_c) Try.func31 (by kernel_rfl) (by kernel_rfl) (by kernel_rfl) (P0 <|
 rg2 <| cb impl_CertOpen_t impl_CertOpen_ok 0 false h fun certOpen h =>
 rg2 <| loopJ h fun x hl hr hb => sg [.own (.tmp 5) 3 1] [2, 4, 5, 11, 12, 13] [(1, 0), (4, 0), (3, 0), (10, 0)] (loopD (I := fun s : (List TBox) × (List Int) × Int × Int × List TDone => Fin cx impl_folded_X (impl_folded_R r) (impl_folded_O r) impl_folded_k3 (impl_folded_S2 list s.1 s.2.1 s.2.2.1 s.2.2.2.1 s.2.2.2.2)) hl fun s st h hc => impl_folded_b1_ok list _ _ x (fun s e => impl_folded_k2_ok r s.1 s.2.1 s.2.2.1 s.2.2.2 (hb s e)) (fun v e => ⟨congrArg impl_folded_R (Option.some.inj (hr v e)).symm, congrArg impl_folded_O (Option.some.inj (hr v e)).symm⟩) st hc s.1 s.2.1 s.2.2.1 s.2.2.2.1 s.2.2.2.2 h))

/-! ### impl_CertFold -/
noncomputable def impl_CertFold_c : Code := bodyOf Try.f19
noncomputable def impl_CertFold_X : Sig := { f := 19, fn := Try.f19, rms := [.val [none, some 2, some 4] [none, some 58, none]], oms := [none] }
noncomputable def impl_CertFold_R (r : TState) : V := .agg [vi r.At, vosl 58 2 eBox r.Boxes, vsl 4 eDone r.Dones]
noncomputable def impl_CertFold_O (r : TState) : List (Option V) := [none]
noncomputable def impl_CertFold_t (i : Nat) (fr : Bool) (r : TState) : Nat × Tell := (i, { a := .call [.val [some 7] []] fr (impl_CertFold_R r) (impl_CertFold_O r) })
noncomputable def impl_CertFold (list : List TEntry) : Option TState :=
  ((impl_listOk list).bind fun listOk =>
 (bif (!listOk) then
 some (TState.mk 0 [] [])
 else
 ((impl_folded list).bind fun folded =>
 some folded.1)))
theorem impl_CertFold_ok {list : List TEntry} (r : TState) (h : impl_CertFold list = some r) : ACalls cx.P 19 [vsl 7 eEntry list] (impl_CertFold_R r) (impl_CertFold_O r) :=
  ACalls.of (cx := cx) (X := impl_CertFold_X) (c := impl_CertFold_c) Try.func19 (by kernel_rfl) (by kernel_rfl) (by kernel_rfl) (P0 <|
 rg2 <| cb impl_listOk_t impl_listOk_ok 1 false h fun listOk h =>
 cdD 2 h (fun h =>
 rg <| fe Try.func19 h) (fun h =>
 rg <| cb impl_folded_t impl_folded_ok 1 false h fun folded h =>
 rg <| om (folded.1.Boxes.length = folded.1.Boxes.length) rfl <| fe Try.func19 h))

/-! ### impl_HistAt -/
noncomputable def impl_HistAt_c : Code := bodyOf Try.f7
noncomputable def impl_HistAt_X : Sig := { f := 7, fn := Try.f7, rms := [.val [some 2] [some 58]], oms := [none, none] }
noncomputable def impl_HistAt_R (r : List TBox) : V := vosl 58 2 eBox r
noncomputable def impl_HistAt_O (r : List TBox) : List (Option V) := [none, none]
noncomputable def impl_HistAt_t (i : Nat) (fr : Bool) (r : List TBox) : Nat × Tell := (i, { a := .call [.val [some 7] [], .val [] []] fr (impl_HistAt_R r) (impl_HistAt_O r) })
noncomputable def impl_HistAt (list : List TEntry) (n : Int) : Option (List TBox) :=
  ((impl_listOk list).bind fun listOk =>
 (bif (!listOk) then
 some []
 else
 ((impl_in n 0 (list.length : Int)).bind fun in_ =>
 (bif (!in_) then
 some []
 else
 (need ((0 : Int) ≤ n ∧ n ≤ (list.length : Int))
 (((impl_CertFold ((list.drop 0).take (n.toNat - 0))).bind fun certFold =>
 some certFold.Boxes)))))))
theorem impl_HistAt_ok {list : List TEntry} {n : Int} (r : List TBox) (h : impl_HistAt list n = some r) : ACalls cx.P 7 [vsl 7 eEntry list, vi n] (impl_HistAt_R r) (impl_HistAt_O r) :=
  ACalls.of (cx := cx) (X := impl_HistAt_X) (c := impl_HistAt_c) Try.func7 (by kernel_rfl) (by kernel_rfl) (by kernel_rfl) (P0 <|
 rg2 <| cb impl_listOk_t impl_listOk_ok 1 false h fun listOk h =>
 cdD 3 h (fun h =>
 rg <| fe Try.func7 h) (fun h =>
 cb impl_in_t impl_in_ok 7 false h fun in_ h =>
 cdD 9 h (fun h =>
 rg <| fe Try.func7 h) (fun h =>
 rg <| needD h fun e1 h =>
 om (V.sl 7 (n.toNat - 0) (((list.map eEntry).drop 0).take (n.toNat - 0)) = vsl 7 eEntry ((list.drop 0).take (n.toNat - 0))) (sl_h e1) <| ob e1.1 <| ob e1.2 <| tl (2, { v := some (vsl 7 eEntry ((list.drop 0).take (n.toNat - 0))) }) <| cb impl_CertFold_t impl_CertFold_ok 3 false h fun certFold h =>
 om (certFold.Boxes.length = certFold.Boxes.length) rfl <| fe Try.func7 h)))

/-! ### laws_eqBox -/
noncomputable def laws_eqBox_c : Code := bodyOf Try.f20
noncomputable def laws_eqBox_X : Sig := { f := 20, fn := Try.f20, rms := [.val [] []], oms := [none, none] }
noncomputable def laws_eqBox_R (r : Bool) : V := .b r
noncomputable def laws_eqBox_O (r : Bool) : List (Option V) := [none, none]
noncomputable def laws_eqBox_t (i : Nat) (fr : Bool) (r : Bool) : Nat × Tell := (i, { a := .call [.val [] [], .val [] []] fr (laws_eqBox_R r) (laws_eqBox_O r) })
noncomputable def laws_eqBox (a : TBox) (b : TBox) : Option Bool :=
  (bif (a.Ver != b.Ver) then
 some false
 else
 (bif (a.Val != b.Val) then
 some false
 else
 some true))
theorem laws_eqBox_ok {a : TBox} {b : TBox} (r : Bool) (h : laws_eqBox a b = some r) : ACalls cx.P 20 [.agg (eBox a), .agg (eBox b)] (laws_eqBox_R r) (laws_eqBox_O r) :=
  ACalls.of (cx := cx) (X := laws_eqBox_X) (c := laws_eqBox_c) Try.func20 (by kernel_rfl) (by kernel_rfl) (by kernel_rfl) (P0 <|
 rg2 <| cdD 4 h (fun h =>
 rg <| fe Try.func20 h) (fun h =>
 rg <| cdD 4 h (fun h =>
 rg <| fe Try.func20 h) (fun h =>
 rg <| fe Try.func20 h)))

/-! ### laws_eqBoxS -/
noncomputable def laws_eqBoxS_c : Code := bodyOf Try.f8
noncomputable def laws_eqBoxS_X : Sig := { f := 8, fn := Try.f8, rms := [.val [] []], oms := [none, none] }
noncomputable def laws_eqBoxS_R (r : Bool) : V := .b r
noncomputable def laws_eqBoxS_O (r : Bool) : List (Option V) := [none, none]
noncomputable def laws_eqBoxS_t (i : Nat) (fr : Bool) (r : Bool) : Nat × Tell := (i, { a := .call [.val [some 2] [], .val [some 2] []] fr (laws_eqBoxS_R r) (laws_eqBoxS_O r) })
noncomputable def laws_eqBoxS_k1 : List Item := posI 2000 4 [false, false] [.code laws_eqBoxS_c]
noncomputable def laws_eqBoxS_S1 : St := ⟨(bs 27 []), [some []]⟩
noncomputable def laws_eqBoxS_k2 : Option Bool :=
  some true
theorem laws_eqBoxS_k2_ok (r : Bool) (h : laws_eqBoxS_k2 = some r) : Fin cx laws_eqBoxS_X (laws_eqBoxS_R r) (laws_eqBoxS_O r) laws_eqBoxS_k1 (laws_eqBoxS_S1) :=
  P0 <|
 rg <| fe Try.func8 h
noncomputable def laws_eqBoxS_k3 : List Item := posI 2000 3 [false] [.code laws_eqBoxS_c]
noncomputable def laws_eqBoxS_S2 (a : List TBox) (b : List TBox) (i : Int) : St := ⟨(vsl 2 eBox a :: (vsl 2 eBox b :: (bs 3 (vi i :: (bs 21 []))))), [some []]⟩
noncomputable def laws_eqBoxS_b1 (a : List TBox) (b : List TBox) (i : Int) : Option (Stp Bool Int Unit) :=
  (bif decide (i < (a.length : Int)) then
 ((idx a i).bind fun box =>
 ((idx b i).bind fun box1 =>
 ((laws_eqBox box box1).bind fun eqBox =>
 (bif (!eqBox) then
 some (Stp.ret false)
 else
 some (Stp.nxt (w64 (i + 1)))))))
 else
 some (Stp.brk ()))
theorem laws_eqBoxS_b1_ok (a : List TBox) (b : List TBox) (res : V) (outs : List (Option V)) (x1 : Exc Bool Unit) (hb1 : HB cx laws_eqBoxS_X res outs x1 laws_eqBoxS_k1 (fun s => laws_eqBoxS_S1)) (hr1 : HR res outs x1 laws_eqBoxS_R laws_eqBoxS_O) (st1 : Stp Bool Int Unit) (hc1 : Cont x1 (fun s : Int => Fin cx laws_eqBoxS_X res outs laws_eqBoxS_k3 (laws_eqBoxS_S2 a b s)) st1) (i : Int) (h : laws_eqBoxS_b1 a b i = some st1) : Fin cx laws_eqBoxS_X res outs laws_eqBoxS_k3 (laws_eqBoxS_S2 a b i) :=
  P0 <|
 rg <| cdD 3 h (fun h =>
 rg <| ixS eBox 2 h fun box hbox h =>
 ixS eBox 6 h fun box1 hbox1 h =>
 cb laws_eqBox_t laws_eqBox_ok 8 false h fun eqBox h =>
 cdD 9 h (fun h =>
 rg <| (retD h hc1 fun e => fn0 Try.func8 (hr1 _ e))) (fun h =>
 rg <| (nxtD h hc1 fun hI => sg [] [0, 1, 5] [] hI))) (fun h =>
 (brkD h hc1 fun e => sg [] [] [] (hb1 _ e)))
noncomputable def laws_eqBoxS (a : List TBox) (b : List TBox) : Option Bool :=
  (bif ((a.length : Int) != (b.length : Int)) then
 some false
 else
 ((loop (fun s : Int => laws_eqBoxS_b1 a b s) 0).bind fun x => x.go (fun r => some r) fun s => laws_eqBoxS_k2))
theorem laws_eqBoxS_ok {a : List TBox} {b : List TBox} (r : Bool) (h : laws_eqBoxS a b = some r) : ACalls cx.P 8 [vsl 2 eBox a, vsl 2 eBox b] (laws_eqBoxS_R r) (laws_eqBoxS_O r) :=
  ACalls.of (cx := cx) (X := laws_eqBoxS_X) (c := laws_eqBoxS_c) Try.func8 (by kernel_rfl) (by kernel_rfl) (by kernel_rfl) (P0 <|
 rg2 <| cdD 4 h (fun h =>
 rg <| fe Try.func8 h) (fun h =>
 rg <| loopJ h fun x hl hr hb => sg [] [0, 1, 5] [] (loopD (I := fun s : Int => Fin cx laws_eqBoxS_X (laws_eqBoxS_R r) (laws_eqBoxS_O r) laws_eqBoxS_k3 (laws_eqBoxS_S2 a b s)) hl fun s st h hc => laws_eqBoxS_b1_ok a b _ _ x (fun s e => laws_eqBoxS_k2_ok r (hb s e)) (fun v e => ⟨congrArg laws_eqBoxS_R (Option.some.inj (hr v e)).symm, congrArg laws_eqBoxS_O (Option.some.inj (hr v e)).symm⟩) st hc s h)))

/-! ### laws_eqReq -/
noncomputable def laws_eqReq_c : Code := bodyOf Try.f32
noncomputable def laws_eqReq_X : Sig := { f := 32, fn := Try.f32, rms := [.val [] []], oms := [none, none] }
noncomputable def laws_eqReq_R (r : Bool) : V := .b r
noncomputable def laws_eqReq_O (r : Bool) : List (Option V) := [none, none]
noncomputable def laws_eqReq_t (i : Nat) (fr : Bool) (r : Bool) : Nat × Tell := (i, { a := .call [.val [] [], .val [] []] fr (laws_eqReq_R r) (laws_eqReq_O r) })
noncomputable def laws_eqReq (a : TReq) (b : TReq) : Option Bool :=
  (bif (a.Who != b.Who) then
 some false
 else
 (bif (a.Seq != b.Seq) then
 some false
 else
 some true))
theorem laws_eqReq_ok {a : TReq} {b : TReq} (r : Bool) (h : laws_eqReq a b = some r) : ACalls cx.P 32 [.agg (eReq a), .agg (eReq b)] (laws_eqReq_R r) (laws_eqReq_O r) :=
  ACalls.of (cx := cx) (X := laws_eqReq_X) (c := laws_eqReq_c) Try.func32 (by kernel_rfl) (by kernel_rfl) (by kernel_rfl) (P0 <|
 rg2 <| cdD 4 h (fun h =>
 rg <| fe Try.func32 h) (fun h =>
 rg <| cdD 4 h (fun h =>
 rg <| fe Try.func32 h) (fun h =>
 rg <| fe Try.func32 h)))

/-! ### laws_eqRead -/
noncomputable def laws_eqRead_c : Code := bodyOf Try.f68
noncomputable def laws_eqRead_X : Sig := { f := 68, fn := Try.f68, rms := [.val [] []], oms := [none, none] }
noncomputable def laws_eqRead_R (r : Bool) : V := .b r
noncomputable def laws_eqRead_O (r : Bool) : List (Option V) := [none, none]
noncomputable def laws_eqRead_t (i : Nat) (fr : Bool) (r : Bool) : Nat × Tell := (i, { a := .call [.val [] [], .val [] []] fr (laws_eqRead_R r) (laws_eqRead_O r) })
noncomputable def laws_eqRead (a : TRead) (b : TRead) : Option Bool :=
  (bif (a.Box != b.Box) then
 some false
 else
 (bif (a.Ver != b.Ver) then
 some false
 else
 some true))
theorem laws_eqRead_ok {a : TRead} {b : TRead} (r : Bool) (h : laws_eqRead a b = some r) : ACalls cx.P 68 [.agg (eRead a), .agg (eRead b)] (laws_eqRead_R r) (laws_eqRead_O r) :=
  ACalls.of (cx := cx) (X := laws_eqRead_X) (c := laws_eqRead_c) Try.func68 (by kernel_rfl) (by kernel_rfl) (by kernel_rfl) (P0 <|
 rg2 <| cdD 4 h (fun h =>
 rg <| fe Try.func68 h) (fun h =>
 rg <| cdD 4 h (fun h =>
 rg <| fe Try.func68 h) (fun h =>
 rg <| fe Try.func68 h)))

/-! ### laws_eqReadS -/
noncomputable def laws_eqReadS_c : Code := bodyOf Try.f51
noncomputable def laws_eqReadS_X : Sig := { f := 51, fn := Try.f51, rms := [.val [] []], oms := [none, none] }
noncomputable def laws_eqReadS_R (r : Bool) : V := .b r
noncomputable def laws_eqReadS_O (r : Bool) : List (Option V) := [none, none]
noncomputable def laws_eqReadS_t (i : Nat) (fr : Bool) (r : Bool) : Nat × Tell := (i, { a := .call [.val [some 2] [], .val [some 2] []] fr (laws_eqReadS_R r) (laws_eqReadS_O r) })
noncomputable def laws_eqReadS_k1 : List Item := posI 2000 4 [false, false] [.code laws_eqReadS_c]
noncomputable def laws_eqReadS_S1 : St := ⟨(bs 27 []), [some []]⟩
noncomputable def laws_eqReadS_k2 : Option Bool :=
  some true
theorem laws_eqReadS_k2_ok (r : Bool) (h : laws_eqReadS_k2 = some r) : Fin cx laws_eqReadS_X (laws_eqReadS_R r) (laws_eqReadS_O r) laws_eqReadS_k1 (laws_eqReadS_S1) :=
  P0 <|
 rg <| fe Try.func51 h
noncomputable def laws_eqReadS_k3 : List Item := posI 2000 3 [false] [.code laws_eqReadS_c]
noncomputable def laws_eqReadS_S2 (a : List TRead) (b : List TRead) (i : Int) : St := ⟨(vsl 2 eRead a :: (vsl 2 eRead b :: (bs 3 (vi i :: (bs 21 []))))), [some []]⟩
noncomputable def laws_eqReadS_b1 (a : List TRead) (b : List TRead) (i : Int) : Option (Stp Bool Int Unit) :=
  (bif decide (i < (a.length : Int)) then
 ((idx a i).bind fun read =>
 ((idx b i).bind fun read1 =>
 ((laws_eqRead read read1).bind fun eqRead =>
 (bif (!eqRead) then
 some (Stp.ret false)
 else
 some (Stp.nxt (w64 (i + 1)))))))
 else
 some (Stp.brk ()))
theorem laws_eqReadS_b1_ok (a : List TRead) (b : List TRead) (res : V) (outs : List (Option V)) (x1 : Exc Bool Unit) (hb1 : HB cx laws_eqReadS_X res outs x1 laws_eqReadS_k1 (fun s => laws_eqReadS_S1)) (hr1 : HR res outs x1 laws_eqReadS_R laws_eqReadS_O) (st1 : Stp Bool Int Unit) (hc1 : Cont x1 (fun s : Int => Fin cx laws_eqReadS_X res outs laws_eqReadS_k3 (laws_eqReadS_S2 a b s)) st1) (i : Int) (h : laws_eqReadS_b1 a b i = some st1) : Fin cx laws_eqReadS_X res outs laws_eqReadS_k3 (laws_eqReadS_S2 a b i) :=
  P0 <|
 rg <| cdD 3 h (fun h =>
 rg <| ixS eRead 2 h fun read hread h =>
 ixS eRead 6 h fun read1 hread1 h =>
 cb laws_eqRead_t laws_eqRead_ok 8 false h fun eqRead h =>
 cdD 9 h (fun h =>
 rg <| (retD h hc1 fun e => fn0 Try.func51 (hr1 _ e))) (fun h =>
 rg <| (nxtD h hc1 fun hI => sg [] [0, 1, 5] [] hI))) (fun h =>
 (brkD h hc1 fun e => sg [] [] [] (hb1 _ e)))
noncomputable def laws_eqReadS (a : List TRead) (b : List TRead) : Option Bool :=
  (bif ((a.length : Int) != (b.length : Int)) then
 some false
 else
 ((loop (fun s : Int => laws_eqReadS_b1 a b s) 0).bind fun x => x.go (fun r => some r) fun s => laws_eqReadS_k2))
theorem laws_eqReadS_ok {a : List TRead} {b : List TRead} (r : Bool) (h : laws_eqReadS a b = some r) : ACalls cx.P 51 [vsl 2 eRead a, vsl 2 eRead b] (laws_eqReadS_R r) (laws_eqReadS_O r) :=
  ACalls.of (cx := cx) (X := laws_eqReadS_X) (c := laws_eqReadS_c) Try.func51 (by kernel_rfl) (by kernel_rfl) (by kernel_rfl) (P0 <|
 rg2 <| cdD 4 h (fun h =>
 rg <| fe Try.func51 h) (fun h =>
 rg <| loopJ h fun x hl hr hb => sg [] [0, 1, 5] [] (loopD (I := fun s : Int => Fin cx laws_eqReadS_X (laws_eqReadS_R r) (laws_eqReadS_O r) laws_eqReadS_k3 (laws_eqReadS_S2 a b s)) hl fun s st h hc => laws_eqReadS_b1_ok a b _ _ x (fun s e => laws_eqReadS_k2_ok r (hb s e)) (fun v e => ⟨congrArg laws_eqReadS_R (Option.some.inj (hr v e)).symm, congrArg laws_eqReadS_O (Option.some.inj (hr v e)).symm⟩) st hc s h)))

/-! ### laws_eqPut -/
noncomputable def laws_eqPut_c : Code := bodyOf Try.f69
noncomputable def laws_eqPut_X : Sig := { f := 69, fn := Try.f69, rms := [.val [] []], oms := [none, none] }
noncomputable def laws_eqPut_R (r : Bool) : V := .b r
noncomputable def laws_eqPut_O (r : Bool) : List (Option V) := [none, none]
noncomputable def laws_eqPut_t (i : Nat) (fr : Bool) (r : Bool) : Nat × Tell := (i, { a := .call [.val [] [], .val [] []] fr (laws_eqPut_R r) (laws_eqPut_O r) })
noncomputable def laws_eqPut (a : TPut) (b : TPut) : Option Bool :=
  (bif (a.Box != b.Box) then
 some false
 else
 (bif (a.Val != b.Val) then
 some false
 else
 some true))
theorem laws_eqPut_ok {a : TPut} {b : TPut} (r : Bool) (h : laws_eqPut a b = some r) : ACalls cx.P 69 [.agg (ePut a), .agg (ePut b)] (laws_eqPut_R r) (laws_eqPut_O r) :=
  ACalls.of (cx := cx) (X := laws_eqPut_X) (c := laws_eqPut_c) Try.func69 (by kernel_rfl) (by kernel_rfl) (by kernel_rfl) (P0 <|
 rg2 <| cdD 4 h (fun h =>
 rg <| fe Try.func69 h) (fun h =>
 rg <| cdD 4 h (fun h =>
 rg <| fe Try.func69 h) (fun h =>
 rg <| fe Try.func69 h)))

/-! ### laws_eqPutS -/
noncomputable def laws_eqPutS_c : Code := bodyOf Try.f52
noncomputable def laws_eqPutS_X : Sig := { f := 52, fn := Try.f52, rms := [.val [] []], oms := [none, none] }
noncomputable def laws_eqPutS_R (r : Bool) : V := .b r
noncomputable def laws_eqPutS_O (r : Bool) : List (Option V) := [none, none]
noncomputable def laws_eqPutS_t (i : Nat) (fr : Bool) (r : Bool) : Nat × Tell := (i, { a := .call [.val [some 2] [], .val [some 2] []] fr (laws_eqPutS_R r) (laws_eqPutS_O r) })
noncomputable def laws_eqPutS_k1 : List Item := posI 2000 4 [false, false] [.code laws_eqPutS_c]
noncomputable def laws_eqPutS_S1 : St := ⟨(bs 27 []), [some []]⟩
noncomputable def laws_eqPutS_k2 : Option Bool :=
  some true
theorem laws_eqPutS_k2_ok (r : Bool) (h : laws_eqPutS_k2 = some r) : Fin cx laws_eqPutS_X (laws_eqPutS_R r) (laws_eqPutS_O r) laws_eqPutS_k1 (laws_eqPutS_S1) :=
  P0 <|
 rg <| fe Try.func52 h
noncomputable def laws_eqPutS_k3 : List Item := posI 2000 3 [false] [.code laws_eqPutS_c]
noncomputable def laws_eqPutS_S2 (a : List TPut) (b : List TPut) (i : Int) : St := ⟨(vsl 2 ePut a :: (vsl 2 ePut b :: (bs 3 (vi i :: (bs 21 []))))), [some []]⟩
noncomputable def laws_eqPutS_b1 (a : List TPut) (b : List TPut) (i : Int) : Option (Stp Bool Int Unit) :=
  (bif decide (i < (a.length : Int)) then
 ((idx a i).bind fun put =>
 ((idx b i).bind fun put1 =>
 ((laws_eqPut put put1).bind fun eqPut =>
 (bif (!eqPut) then
 some (Stp.ret false)
 else
 some (Stp.nxt (w64 (i + 1)))))))
 else
 some (Stp.brk ()))
theorem laws_eqPutS_b1_ok (a : List TPut) (b : List TPut) (res : V) (outs : List (Option V)) (x1 : Exc Bool Unit) (hb1 : HB cx laws_eqPutS_X res outs x1 laws_eqPutS_k1 (fun s => laws_eqPutS_S1)) (hr1 : HR res outs x1 laws_eqPutS_R laws_eqPutS_O) (st1 : Stp Bool Int Unit) (hc1 : Cont x1 (fun s : Int => Fin cx laws_eqPutS_X res outs laws_eqPutS_k3 (laws_eqPutS_S2 a b s)) st1) (i : Int) (h : laws_eqPutS_b1 a b i = some st1) : Fin cx laws_eqPutS_X res outs laws_eqPutS_k3 (laws_eqPutS_S2 a b i) :=
  P0 <|
 rg <| cdD 3 h (fun h =>
 rg <| ixS ePut 2 h fun put hput h =>
 ixS ePut 6 h fun put1 hput1 h =>
 cb laws_eqPut_t laws_eqPut_ok 8 false h fun eqPut h =>
 cdD 9 h (fun h =>
 rg <| (retD h hc1 fun e => fn0 Try.func52 (hr1 _ e))) (fun h =>
 rg <| (nxtD h hc1 fun hI => sg [] [0, 1, 5] [] hI))) (fun h =>
 (brkD h hc1 fun e => sg [] [] [] (hb1 _ e)))
noncomputable def laws_eqPutS (a : List TPut) (b : List TPut) : Option Bool :=
  (bif ((a.length : Int) != (b.length : Int)) then
 some false
 else
 ((loop (fun s : Int => laws_eqPutS_b1 a b s) 0).bind fun x => x.go (fun r => some r) fun s => laws_eqPutS_k2))
theorem laws_eqPutS_ok {a : List TPut} {b : List TPut} (r : Bool) (h : laws_eqPutS a b = some r) : ACalls cx.P 52 [vsl 2 ePut a, vsl 2 ePut b] (laws_eqPutS_R r) (laws_eqPutS_O r) :=
  ACalls.of (cx := cx) (X := laws_eqPutS_X) (c := laws_eqPutS_c) Try.func52 (by kernel_rfl) (by kernel_rfl) (by kernel_rfl) (P0 <|
 rg2 <| cdD 4 h (fun h =>
 rg <| fe Try.func52 h) (fun h =>
 rg <| loopJ h fun x hl hr hb => sg [] [0, 1, 5] [] (loopD (I := fun s : Int => Fin cx laws_eqPutS_X (laws_eqPutS_R r) (laws_eqPutS_O r) laws_eqPutS_k3 (laws_eqPutS_S2 a b s)) hl fun s st h hc => laws_eqPutS_b1_ok a b _ _ x (fun s e => laws_eqPutS_k2_ok r (hb s e)) (fun v e => ⟨congrArg laws_eqPutS_R (Option.some.inj (hr v e)).symm, congrArg laws_eqPutS_O (Option.some.inj (hr v e)).symm⟩) st hc s h)))

/-! ### laws_eqRun -/
noncomputable def laws_eqRun_c : Code := bodyOf Try.f33
noncomputable def laws_eqRun_X : Sig := { f := 33, fn := Try.f33, rms := [.val [] []], oms := [none, none] }
noncomputable def laws_eqRun_R (r : Bool) : V := .b r
noncomputable def laws_eqRun_O (r : Bool) : List (Option V) := [none, none]
noncomputable def laws_eqRun_t (i : Nat) (fr : Bool) (r : Bool) : Nat × Tell := (i, { a := .call [.val ck51 [], .val ck51 []] fr (laws_eqRun_R r) (laws_eqRun_O r) })
noncomputable def laws_eqRun (a : TRun) (b : TRun) : Option Bool :=
  ((laws_eqReadS a.Reads b.Reads).bind fun eqReadS =>
 (bif (!eqReadS) then
 some false
 else
 ((laws_eqPutS a.Puts b.Puts).bind fun eqPutS =>
 (bif (!eqPutS) then
 some false
 else
 (bif (a.Val != b.Val) then
 some false
 else
 (bif (a.Code != b.Code) then
 some false
 else
 some true))))))
theorem laws_eqRun_ok {a : TRun} {b : TRun} (r : Bool) (h : laws_eqRun a b = some r) : ACalls cx.P 33 [.agg (eRun a), .agg (eRun b)] (laws_eqRun_R r) (laws_eqRun_O r) :=
  ACalls.of (cx := cx) (X := laws_eqRun_X) (c := laws_eqRun_c) Try.func33 (by kernel_rfl) (by kernel_rfl) (by kernel_rfl) (P0 <|
 rg2 <| cb laws_eqReadS_t laws_eqReadS_ok 4 false h fun eqReadS h =>
 cdD 5 h (fun h =>
 rg <| fe Try.func33 h) (fun h =>
 rg <| cb laws_eqPutS_t laws_eqPutS_ok 4 false h fun eqPutS h =>
 cdD 5 h (fun h =>
 rg <| fe Try.func33 h) (fun h =>
 rg <| cdD 4 h (fun h =>
 rg <| fe Try.func33 h) (fun h =>
 rg <| cdD 4 h (fun h =>
 rg <| fe Try.func33 h) (fun h =>
 rg <| fe Try.func33 h)))))

/-! ### laws_eqEntry -/
noncomputable def laws_eqEntry_c : Code := bodyOf Try.f21
noncomputable def laws_eqEntry_X : Sig := { f := 21, fn := Try.f21, rms := [.val [] []], oms := [none, none] }
noncomputable def laws_eqEntry_R (r : Bool) : V := .b r
noncomputable def laws_eqEntry_O (r : Bool) : List (Option V) := [none, none]
noncomputable def laws_eqEntry_t (i : Nat) (fr : Bool) (r : Bool) : Nat × Tell := (i, { a := .call [.val ck53 [], .val ck53 []] fr (laws_eqEntry_R r) (laws_eqEntry_O r) })
noncomputable def laws_eqEntry (a : TEntry) (b : TEntry) : Option Bool :=
  (bif (!(a.None == b.None)) then
 some false
 else
 ((laws_eqReq a.Req b.Req).bind fun eqReq =>
 (bif (!eqReq) then
 some false
 else
 ((laws_eqRun a.Run b.Run).bind fun eqRun =>
 (bif (!eqRun) then
 some false
 else
 some true)))))
theorem laws_eqEntry_ok {a : TEntry} {b : TEntry} (r : Bool) (h : laws_eqEntry a b = some r) : ACalls cx.P 21 [.agg (eEntry a), .agg (eEntry b)] (laws_eqEntry_R r) (laws_eqEntry_O r) :=
  ACalls.of (cx := cx) (X := laws_eqEntry_X) (c := laws_eqEntry_c) Try.func21 (by kernel_rfl) (by kernel_rfl) (by kernel_rfl) (P0 <|
 rg2 <| cdD 4 h (fun h =>
 rg <| fe Try.func21 h) (fun h =>
 rg <| cb laws_eqReq_t laws_eqReq_ok 4 false h fun eqReq h =>
 cdD 5 h (fun h =>
 rg <| fe Try.func21 h) (fun h =>
 rg <| cb laws_eqRun_t laws_eqRun_ok 4 false h fun eqRun h =>
 cdD 5 h (fun h =>
 rg <| fe Try.func21 h) (fun h =>
 rg <| fe Try.func21 h))))

/-! ### laws_eqEntryS -/
noncomputable def laws_eqEntryS_c : Code := bodyOf Try.f9
noncomputable def laws_eqEntryS_X : Sig := { f := 9, fn := Try.f9, rms := [.val [] []], oms := [none, none] }
noncomputable def laws_eqEntryS_R (r : Bool) : V := .b r
noncomputable def laws_eqEntryS_O (r : Bool) : List (Option V) := [none, none]
noncomputable def laws_eqEntryS_t (i : Nat) (fr : Bool) (r : Bool) : Nat × Tell := (i, { a := .call [.val [some 7] [], .val [some 7] []] fr (laws_eqEntryS_R r) (laws_eqEntryS_O r) })
noncomputable def laws_eqEntryS_k1 : List Item := posI 2000 4 [false, false] [.code laws_eqEntryS_c]
noncomputable def laws_eqEntryS_S1 : St := ⟨(bs 27 []), [some []]⟩
noncomputable def laws_eqEntryS_k2 : Option Bool :=
  some true
theorem laws_eqEntryS_k2_ok (r : Bool) (h : laws_eqEntryS_k2 = some r) : Fin cx laws_eqEntryS_X (laws_eqEntryS_R r) (laws_eqEntryS_O r) laws_eqEntryS_k1 (laws_eqEntryS_S1) :=
  P0 <|
 rg <| fe Try.func9 h
noncomputable def laws_eqEntryS_k3 : List Item := posI 2000 3 [false] [.code laws_eqEntryS_c]
noncomputable def laws_eqEntryS_S2 (a : List TEntry) (b : List TEntry) (i : Int) : St := ⟨(vsl 7 eEntry a :: (vsl 7 eEntry b :: (bs 3 (vi i :: (bs 21 []))))), [some []]⟩
noncomputable def laws_eqEntryS_b1 (a : List TEntry) (b : List TEntry) (i : Int) : Option (Stp Bool Int Unit) :=
  (bif decide (i < (a.length : Int)) then
 ((idx a i).bind fun entry =>
 ((idx b i).bind fun entry1 =>
 ((laws_eqEntry entry entry1).bind fun eqEntry =>
 (bif (!eqEntry) then
 some (Stp.ret false)
 else
 some (Stp.nxt (w64 (i + 1)))))))
 else
 some (Stp.brk ()))
theorem laws_eqEntryS_b1_ok (a : List TEntry) (b : List TEntry) (res : V) (outs : List (Option V)) (x1 : Exc Bool Unit) (hb1 : HB cx laws_eqEntryS_X res outs x1 laws_eqEntryS_k1 (fun s => laws_eqEntryS_S1)) (hr1 : HR res outs x1 laws_eqEntryS_R laws_eqEntryS_O) (st1 : Stp Bool Int Unit) (hc1 : Cont x1 (fun s : Int => Fin cx laws_eqEntryS_X res outs laws_eqEntryS_k3 (laws_eqEntryS_S2 a b s)) st1) (i : Int) (h : laws_eqEntryS_b1 a b i = some st1) : Fin cx laws_eqEntryS_X res outs laws_eqEntryS_k3 (laws_eqEntryS_S2 a b i) :=
  P0 <|
 rg <| cdD 3 h (fun h =>
 rg <| ixS eEntry 2 h fun entry hentry h =>
 ixS eEntry 6 h fun entry1 hentry1 h =>
 cb laws_eqEntry_t laws_eqEntry_ok 8 false h fun eqEntry h =>
 cdD 9 h (fun h =>
 rg <| (retD h hc1 fun e => fn0 Try.func9 (hr1 _ e))) (fun h =>
 rg <| (nxtD h hc1 fun hI => sg [] [0, 1, 5] [] hI))) (fun h =>
 (brkD h hc1 fun e => sg [] [] [] (hb1 _ e)))
noncomputable def laws_eqEntryS (a : List TEntry) (b : List TEntry) : Option Bool :=
  (bif ((a.length : Int) != (b.length : Int)) then
 some false
 else
 ((loop (fun s : Int => laws_eqEntryS_b1 a b s) 0).bind fun x => x.go (fun r => some r) fun s => laws_eqEntryS_k2))
theorem laws_eqEntryS_ok {a : List TEntry} {b : List TEntry} (r : Bool) (h : laws_eqEntryS a b = some r) : ACalls cx.P 9 [vsl 7 eEntry a, vsl 7 eEntry b] (laws_eqEntryS_R r) (laws_eqEntryS_O r) :=
  ACalls.of (cx := cx) (X := laws_eqEntryS_X) (c := laws_eqEntryS_c) Try.func9 (by kernel_rfl) (by kernel_rfl) (by kernel_rfl) (P0 <|
 rg2 <| cdD 4 h (fun h =>
 rg <| fe Try.func9 h) (fun h =>
 rg <| loopJ h fun x hl hr hb => sg [] [0, 1, 5] [] (loopD (I := fun s : Int => Fin cx laws_eqEntryS_X (laws_eqEntryS_R r) (laws_eqEntryS_O r) laws_eqEntryS_k3 (laws_eqEntryS_S2 a b s)) hl fun s st h hc => laws_eqEntryS_b1_ok a b _ _ x (fun s e => laws_eqEntryS_k2_ok r (hb s e)) (fun v e => ⟨congrArg laws_eqEntryS_R (Option.some.inj (hr v e)).symm, congrArg laws_eqEntryS_O (Option.some.inj (hr v e)).symm⟩) st hc s h)))

/-! ### laws_markReadS -/
noncomputable def laws_markReadS_c : Code := bodyOf Try.f22
noncomputable def laws_markReadS_X : Sig := { f := 22, fn := Try.f22, rms := [.val [] []], oms := [some (0, .row), none] }
noncomputable def laws_markReadS_R (r : Int × List TRead) : V := vi r.1
noncomputable def laws_markReadS_O (r : Int × List TRead) : List (Option V) := [some (vosl 75 2 eRead r.2), none]
noncomputable def laws_markReadS_t (i : Nat) (fr : Bool) (r : Int × List TRead) : Nat × Tell := (i, { a := .call [.row, .val [] []] fr (laws_markReadS_R r) (laws_markReadS_O r) })
noncomputable def laws_markReadS_k1 : List Item := posI 2000 3 [false] [.code laws_markReadS_c]
noncomputable def laws_markReadS_S1 (w : List TRead) (k2 : Int) : St := ⟨(bs 1 (vi k2 :: (bs 25 []))), [some [erow 75 2 eRead w]]⟩
noncomputable def laws_markReadS_k2 (w : List TRead) (k2 : Int) : Option (Int × List TRead) :=
  some (k2, w)
theorem laws_markReadS_k2_ok (r : Int × List TRead) (w : List TRead) (k2 : Int) (h : laws_markReadS_k2 w k2 = some r) : Fin cx laws_markReadS_X (laws_markReadS_R r) (laws_markReadS_O r) laws_markReadS_k1 (laws_markReadS_S1 w k2) :=
  P0 <|
 rg <| om (w.length = w.length) rfl <| fe Try.func22 h
noncomputable def laws_markReadS_k3 : List Item := posI 2000 2 [] [.code laws_markReadS_c]
noncomputable def laws_markReadS_S2 (a1 : List TRead) (k1 : Int) (i : Int) : St := ⟨(.own 0 0 2 0 a1.length :: (vi k1 :: (bs 3 (vi i :: (bs 21 []))))), [some [erow 75 2 eRead a1]]⟩
noncomputable def laws_markReadS_b1 (a1 : List TRead) (k1 : Int) (i : Int) : Option (Stp (Int × List TRead) ((List TRead) × Int × Int) ((List TRead) × Int)) :=
  (bif decide (i < (a1.length : Int)) then
 ((idx a1 i).bind fun read =>
 ((idx (a1.set i.toNat (TRead.mk k1 read.Ver)) i).bind fun read1 =>
 some (Stp.nxt ((a1.set i.toNat (TRead.mk k1 read.Ver)).set i.toNat (TRead.mk read1.Box (w64 (k1 + 1))), w64 ((w64 (k1 + 1)) + 1), w64 (i + 1)))))
 else
 some (Stp.brk (a1, k1)))
theorem laws_markReadS_b1_ok (res : V) (outs : List (Option V)) (x1 : Exc (Int × List TRead) ((List TRead) × Int)) (hb1 : HB cx laws_markReadS_X res outs x1 laws_markReadS_k1 (fun s => laws_markReadS_S1 s.1 s.2)) (hr1 : HR res outs x1 laws_markReadS_R laws_markReadS_O) (st1 : Stp (Int × List TRead) ((List TRead) × Int × Int) ((List TRead) × Int)) (hc1 : Cont x1 (fun s : (List TRead) × Int × Int => Fin cx laws_markReadS_X res outs laws_markReadS_k3 (laws_markReadS_S2 s.1 s.2.1 s.2.2)) st1) (a1 : List TRead) (k1 : Int) (i : Int) (h : laws_markReadS_b1 a1 k1 i = some st1) : Fin cx laws_markReadS_X res outs laws_markReadS_k3 (laws_markReadS_S2 a1 k1 i) :=
  P0 <|
 rg <| cdD 3 h (fun h =>
 rg <| bindD h fun read hread h =>
 ixB hread <| stR 75 2 eRead 5 [] (TRead.mk k1 read.Ver) hread <| rg2 <| bindD h fun read1 hread1 h =>
 ob (idx0 hread1) <| om (i < ((a1.length : Nat) : Int)) (by simpa using idx1 hread1) <| stR 75 2 eRead 5 [] (TRead.mk read1.Box (w64 (k1 + 1))) hread1 <| rg2 <| (nxtD h hc1 fun hI => om ((.own 0 0 2 0 a1.length : V) = .own 0 0 2 0 ((a1.set i.toNat (TRead.mk k1 read.Ver)).set i.toNat (TRead.mk read1.Box (w64 (k1 + 1)))).length) (by simp) <| sg [.is (.tmp 0) (.own 0 0 2 0 ((a1.set i.toNat (TRead.mk k1 read.Ver)).set i.toNat (TRead.mk read1.Box (w64 (k1 + 1)))).length)] [0, 1, 5] [] hI)) (fun h =>
 (brkD h hc1 fun e => sg [] [1] [] (hb1 _ e)))
noncomputable def laws_markReadS (a : List TRead) (k : Int) : Option (Int × List TRead) :=
  ((loop (fun s : (List TRead) × Int × Int => laws_markReadS_b1 s.1 s.2.1 s.2.2) (a, k, 0)).bind fun x => x.go (fun r => some r) fun s => laws_markReadS_k2 s.1 s.2)
theorem laws_markReadS_ok {a : List TRead} {k : Int} (r : Int × List TRead) (h : laws_markReadS a k = some r) : ACalls cx.P 22 [vosl 75 2 eRead a, vi k] (laws_markReadS_R r) (laws_markReadS_O r) :=
  ACalls.of (cx := cx) (X := laws_markReadS_X) (c := laws_markReadS_c) Try.func22 (by kernel_rfl) (by kernel_rfl) (by kernel_rfl) (P0 <|
 rg2 <| loopJ h fun x hl hr hb => sg [] [0, 1, 5] [] (loopD (I := fun s : (List TRead) × Int × Int => Fin cx laws_markReadS_X (laws_markReadS_R r) (laws_markReadS_O r) laws_markReadS_k3 (laws_markReadS_S2 s.1 s.2.1 s.2.2)) hl fun s st h hc => laws_markReadS_b1_ok _ _ x (fun s e => laws_markReadS_k2_ok r s.1 s.2 (hb s e)) (fun v e => ⟨congrArg laws_markReadS_R (Option.some.inj (hr v e)).symm, congrArg laws_markReadS_O (Option.some.inj (hr v e)).symm⟩) st hc s.1 s.2.1 s.2.2 h))

/-! ### laws_markPutS -/
noncomputable def laws_markPutS_c : Code := bodyOf Try.f23
noncomputable def laws_markPutS_X : Sig := { f := 23, fn := Try.f23, rms := [.val [] []], oms := [some (0, .row), none] }
noncomputable def laws_markPutS_R (r : Int × List TPut) : V := vi r.1
noncomputable def laws_markPutS_O (r : Int × List TPut) : List (Option V) := [some (vosl 77 2 ePut r.2), none]
noncomputable def laws_markPutS_t (i : Nat) (fr : Bool) (r : Int × List TPut) : Nat × Tell := (i, { a := .call [.row, .val [] []] fr (laws_markPutS_R r) (laws_markPutS_O r) })
noncomputable def laws_markPutS_k1 : List Item := posI 2000 3 [false] [.code laws_markPutS_c]
noncomputable def laws_markPutS_S1 (w : List TPut) (k2 : Int) : St := ⟨(bs 1 (vi k2 :: (bs 25 []))), [some [erow 77 2 ePut w]]⟩
noncomputable def laws_markPutS_k2 (w : List TPut) (k2 : Int) : Option (Int × List TPut) :=
  some (k2, w)
theorem laws_markPutS_k2_ok (r : Int × List TPut) (w : List TPut) (k2 : Int) (h : laws_markPutS_k2 w k2 = some r) : Fin cx laws_markPutS_X (laws_markPutS_R r) (laws_markPutS_O r) laws_markPutS_k1 (laws_markPutS_S1 w k2) :=
  P0 <|
 rg <| om (w.length = w.length) rfl <| fe Try.func23 h
noncomputable def laws_markPutS_k3 : List Item := posI 2000 2 [] [.code laws_markPutS_c]
noncomputable def laws_markPutS_S2 (a1 : List TPut) (k1 : Int) (i : Int) : St := ⟨(.own 0 0 2 0 a1.length :: (vi k1 :: (bs 3 (vi i :: (bs 21 []))))), [some [erow 77 2 ePut a1]]⟩
noncomputable def laws_markPutS_b1 (a1 : List TPut) (k1 : Int) (i : Int) : Option (Stp (Int × List TPut) ((List TPut) × Int × Int) ((List TPut) × Int)) :=
  (bif decide (i < (a1.length : Int)) then
 ((idx a1 i).bind fun put =>
 ((idx (a1.set i.toNat (TPut.mk k1 put.Val)) i).bind fun put1 =>
 some (Stp.nxt ((a1.set i.toNat (TPut.mk k1 put.Val)).set i.toNat (TPut.mk put1.Box (w64 (k1 + 1))), w64 ((w64 (k1 + 1)) + 1), w64 (i + 1)))))
 else
 some (Stp.brk (a1, k1)))
theorem laws_markPutS_b1_ok (res : V) (outs : List (Option V)) (x1 : Exc (Int × List TPut) ((List TPut) × Int)) (hb1 : HB cx laws_markPutS_X res outs x1 laws_markPutS_k1 (fun s => laws_markPutS_S1 s.1 s.2)) (hr1 : HR res outs x1 laws_markPutS_R laws_markPutS_O) (st1 : Stp (Int × List TPut) ((List TPut) × Int × Int) ((List TPut) × Int)) (hc1 : Cont x1 (fun s : (List TPut) × Int × Int => Fin cx laws_markPutS_X res outs laws_markPutS_k3 (laws_markPutS_S2 s.1 s.2.1 s.2.2)) st1) (a1 : List TPut) (k1 : Int) (i : Int) (h : laws_markPutS_b1 a1 k1 i = some st1) : Fin cx laws_markPutS_X res outs laws_markPutS_k3 (laws_markPutS_S2 a1 k1 i) :=
  P0 <|
 rg <| cdD 3 h (fun h =>
 rg <| bindD h fun put hput h =>
 ixB hput <| stR 77 2 ePut 5 [] (TPut.mk k1 put.Val) hput <| rg2 <| bindD h fun put1 hput1 h =>
 ob (idx0 hput1) <| om (i < ((a1.length : Nat) : Int)) (by simpa using idx1 hput1) <| stR 77 2 ePut 5 [] (TPut.mk put1.Box (w64 (k1 + 1))) hput1 <| rg2 <| (nxtD h hc1 fun hI => om ((.own 0 0 2 0 a1.length : V) = .own 0 0 2 0 ((a1.set i.toNat (TPut.mk k1 put.Val)).set i.toNat (TPut.mk put1.Box (w64 (k1 + 1)))).length) (by simp) <| sg [.is (.tmp 0) (.own 0 0 2 0 ((a1.set i.toNat (TPut.mk k1 put.Val)).set i.toNat (TPut.mk put1.Box (w64 (k1 + 1)))).length)] [0, 1, 5] [] hI)) (fun h =>
 (brkD h hc1 fun e => sg [] [1] [] (hb1 _ e)))
noncomputable def laws_markPutS (a : List TPut) (k : Int) : Option (Int × List TPut) :=
  ((loop (fun s : (List TPut) × Int × Int => laws_markPutS_b1 s.1 s.2.1 s.2.2) (a, k, 0)).bind fun x => x.go (fun r => some r) fun s => laws_markPutS_k2 s.1 s.2)
theorem laws_markPutS_ok {a : List TPut} {k : Int} (r : Int × List TPut) (h : laws_markPutS a k = some r) : ACalls cx.P 23 [vosl 77 2 ePut a, vi k] (laws_markPutS_R r) (laws_markPutS_O r) :=
  ACalls.of (cx := cx) (X := laws_markPutS_X) (c := laws_markPutS_c) Try.func23 (by kernel_rfl) (by kernel_rfl) (by kernel_rfl) (P0 <|
 rg2 <| loopJ h fun x hl hr hb => sg [] [0, 1, 5] [] (loopD (I := fun s : (List TPut) × Int × Int => Fin cx laws_markPutS_X (laws_markPutS_R r) (laws_markPutS_O r) laws_markPutS_k3 (laws_markPutS_S2 s.1 s.2.1 s.2.2)) hl fun s st h hc => laws_markPutS_b1_ok _ _ x (fun s e => laws_markPutS_k2_ok r s.1 s.2 (hb s e)) (fun v e => ⟨congrArg laws_markPutS_R (Option.some.inj (hr v e)).symm, congrArg laws_markPutS_O (Option.some.inj (hr v e)).symm⟩) st hc s.1 s.2.1 s.2.2 h))

/-! ### laws_markEntryS -/
noncomputable def laws_markEntryS_c : Code := bodyOf Try.f10
noncomputable def laws_markEntryS_X : Sig := { f := 10, fn := Try.f10, rms := [.val [] []], oms := [some (0, .row), none] }
noncomputable def laws_markEntryS_R (r : Int × List TEntry) : V := vi r.1
noncomputable def laws_markEntryS_O (r : Int × List TEntry) : List (Option V) := [some (vdsl 53 7 eEntry_1 r.2), none]
noncomputable def laws_markEntryS_t (i : Nat) (fr : Bool) (r : Int × List TEntry) : Nat × Tell := (i, { a := .call [.row, .val [] []] fr (laws_markEntryS_R r) (laws_markEntryS_O r) })
noncomputable def laws_markEntryS_k1 : List Item := posI 2000 3 [false] [.code laws_markEntryS_c]
noncomputable def laws_markEntryS_S1 (w : List TEntry) (k2 : Int) : St := ⟨(bs 1 (vi k2 :: (bs 68 []))), [some [edeep 53 7 eEntry_1 w]]⟩
noncomputable def laws_markEntryS_k2 (w : List TEntry) (k2 : Int) : Option (Int × List TEntry) :=
  some (k2, w)
theorem laws_markEntryS_k2_ok (r : Int × List TEntry) (w : List TEntry) (k2 : Int) (h : laws_markEntryS_k2 w k2 = some r) : Fin cx laws_markEntryS_X (laws_markEntryS_R r) (laws_markEntryS_O r) laws_markEntryS_k1 (laws_markEntryS_S1 w k2) :=
  P0 <|
 rg <| om (w.length = w.length) rfl <| fe Try.func10 h
noncomputable def laws_markEntryS_k3 : List Item := posI 2000 2 [] [.code laws_markEntryS_c]
noncomputable def laws_markEntryS_S2 (a1 : List TEntry) (k1 : Int) (i : Int) : St := ⟨(.own 0 0 7 0 a1.length :: (vi k1 :: (bs 3 (vi i :: (bs 64 []))))), [some [edeep 53 7 eEntry_1 a1]]⟩
noncomputable def laws_markEntryS_b1 (a1 : List TEntry) (k1 : Int) (i : Int) : Option (Stp (Int × List TEntry) ((List TEntry) × Int × Int) ((List TEntry) × Int)) :=
  (bif decide (i < (a1.length : Int)) then
 ((idx a1 i).bind fun entry =>
 ((idx (a1.set i.toNat (TEntry.mk ((Int.tmod k1 3) == 0) entry.Req entry.Run)) i).bind fun entry1 =>
 ((idx ((a1.set i.toNat (TEntry.mk ((Int.tmod k1 3) == 0) entry.Req entry.Run)).set i.toNat (TEntry.mk entry1.None (TReq.mk (w64 (k1 + 1)) entry1.Req.Seq) entry1.Run)) i).bind fun entry2 =>
 ((idx (((a1.set i.toNat (TEntry.mk ((Int.tmod k1 3) == 0) entry.Req entry.Run)).set i.toNat (TEntry.mk entry1.None (TReq.mk (w64 (k1 + 1)) entry1.Req.Seq) entry1.Run)).set i.toNat (TEntry.mk entry2.None (TReq.mk entry2.Req.Who (w64 ((w64 (k1 + 1)) + 1))) entry2.Run)) i).bind fun entry3 =>
 ((laws_markReadS entry3.Run.Reads (w64 ((w64 ((w64 (k1 + 1)) + 1)) + 1))).bind fun markReadS =>
 (need (entry3.Run.Reads.length = markReadS.2.length)
 (((laws_markPutS entry3.Run.Puts markReadS.1).bind fun markPutS =>
 (need (entry3.Run.Puts.length = markPutS.2.length)
 (some (Stp.nxt ((((a1.set i.toNat (TEntry.mk ((Int.tmod k1 3) == 0) entry.Req entry.Run)).set i.toNat (TEntry.mk entry1.None (TReq.mk (w64 (k1 + 1)) entry1.Req.Seq) entry1.Run)).set i.toNat (TEntry.mk entry2.None (TReq.mk entry2.Req.Who (w64 ((w64 (k1 + 1)) + 1))) entry2.Run)).set i.toNat (TEntry.mk entry3.None entry3.Req (TRun.mk markReadS.2 markPutS.2 markPutS.1 (w64 (markPutS.1 + 1)))), w64 ((w64 (markPutS.1 + 1)) + 1), w64 (i + 1)))))))))))))
 else
 some (Stp.brk (a1, k1)))
set_option maxRecDepth 20000 in
theorem laws_markEntryS_b1_ok (res : V) (outs : List (Option V)) (x1 : Exc (Int × List TEntry) ((List TEntry) × Int)) (hb1 : HB cx laws_markEntryS_X res outs x1 laws_markEntryS_k1 (fun s => laws_markEntryS_S1 s.1 s.2)) (hr1 : HR res outs x1 laws_markEntryS_R laws_markEntryS_O) (st1 : Stp (Int × List TEntry) ((List TEntry) × Int × Int) ((List TEntry) × Int)) (hc1 : Cont x1 (fun s : (List TEntry) × Int × Int => Fin cx laws_markEntryS_X res outs laws_markEntryS_k3 (laws_markEntryS_S2 s.1 s.2.1 s.2.2)) st1) (a1 : List TEntry) (k1 : Int) (i : Int) (h : laws_markEntryS_b1 a1 k1 i = some st1) : Fin cx laws_markEntryS_X res outs laws_markEntryS_k3 (laws_markEntryS_S2 a1 k1 i) :=
  P0 <|
 rg <| cdD 3 h (fun h =>
 rg <| om (3 ≠ (0 : Int)) (by decide) <| bindD h fun entry hentry h =>
 ixB hentry <| om (Ent.deep false 53 7 a1.length ((a1.map eEntry_1).set (0 + i.toNat) [.b ((Int.tmod k1 3) == 0), vi entry.Req.Who, vi entry.Req.Seq, vosl 75 2 eRead entry.Run.Reads, vosl 77 2 ePut entry.Run.Puts, vi entry.Run.Val, vi entry.Run.Code]) = edeep 53 7 eEntry_1 (a1.set i.toNat (TEntry.mk ((Int.tmod k1 3) == 0) entry.Req entry.Run))) (deep_set0 rfl) <| ob (map_idx0 (enc := eEntry_1) hentry) <| tl (7, { a := .dst (eEntry_1 entry) [none] [none], e := some (edeep 53 7 eEntry_1 (a1.set i.toNat (TEntry.mk ((Int.tmod k1 3) == 0) entry.Req entry.Run))) }) <| rg2 <| bindD h fun entry1 hentry1 h =>
 ob (idx0 hentry1) <| om (i < ((a1.length : Nat) : Int)) (by simpa using idx1 hentry1) <| om (Ent.deep false 53 7 (a1.set i.toNat (TEntry.mk ((Int.tmod k1 3) == 0) entry.Req entry.Run)).length (((a1.set i.toNat (TEntry.mk ((Int.tmod k1 3) == 0) entry.Req entry.Run)).map eEntry_1).set (0 + i.toNat) [.b entry1.None, vi (w64 (k1 + 1)), vi entry1.Req.Seq, vosl 75 2 eRead entry1.Run.Reads, vosl 77 2 ePut entry1.Run.Puts, vi entry1.Run.Val, vi entry1.Run.Code]) = edeep 53 7 eEntry_1 ((a1.set i.toNat (TEntry.mk ((Int.tmod k1 3) == 0) entry.Req entry.Run)).set i.toNat (TEntry.mk entry1.None (TReq.mk (w64 (k1 + 1)) entry1.Req.Seq) entry1.Run))) (deep_set0 rfl) <| ob (map_idx0 (enc := eEntry_1) hentry1) <| tl (6, { a := .dst (eEntry_1 entry1) [none] [none], e := some (edeep 53 7 eEntry_1 ((a1.set i.toNat (TEntry.mk ((Int.tmod k1 3) == 0) entry.Req entry.Run)).set i.toNat (TEntry.mk entry1.None (TReq.mk (w64 (k1 + 1)) entry1.Req.Seq) entry1.Run))) }) <| rg2 <| bindD h fun entry2 hentry2 h =>
 ob (idx0 hentry2) <| om (i < ((a1.length : Nat) : Int)) (by simpa using idx1 hentry2) <| om (Ent.deep false 53 7 ((a1.set i.toNat (TEntry.mk ((Int.tmod k1 3) == 0) entry.Req entry.Run)).set i.toNat (TEntry.mk entry1.None (TReq.mk (w64 (k1 + 1)) entry1.Req.Seq) entry1.Run)).length ((((a1.set i.toNat (TEntry.mk ((Int.tmod k1 3) == 0) entry.Req entry.Run)).set i.toNat (TEntry.mk entry1.None (TReq.mk (w64 (k1 + 1)) entry1.Req.Seq) entry1.Run)).map eEntry_1).set (0 + i.toNat) [.b entry2.None, vi entry2.Req.Who, vi (w64 ((w64 (k1 + 1)) + 1)), vosl 75 2 eRead entry2.Run.Reads, vosl 77 2 ePut entry2.Run.Puts, vi entry2.Run.Val, vi entry2.Run.Code]) = edeep 53 7 eEntry_1 (((a1.set i.toNat (TEntry.mk ((Int.tmod k1 3) == 0) entry.Req entry.Run)).set i.toNat (TEntry.mk entry1.None (TReq.mk (w64 (k1 + 1)) entry1.Req.Seq) entry1.Run)).set i.toNat (TEntry.mk entry2.None (TReq.mk entry2.Req.Who (w64 ((w64 (k1 + 1)) + 1))) entry2.Run))) (deep_set0 rfl) <| ob (map_idx0 (enc := eEntry_1) hentry2) <| tl (6, { a := .dst (eEntry_1 entry2) [none] [none], e := some (edeep 53 7 eEntry_1 (((a1.set i.toNat (TEntry.mk ((Int.tmod k1 3) == 0) entry.Req entry.Run)).set i.toNat (TEntry.mk entry1.None (TReq.mk (w64 (k1 + 1)) entry1.Req.Seq) entry1.Run)).set i.toNat (TEntry.mk entry2.None (TReq.mk entry2.Req.Who (w64 ((w64 (k1 + 1)) + 1))) entry2.Run))) }) <| rg2 <| bindD h fun entry3 hentry3 h =>
 ob (idx0 hentry3) <| om (i < ((a1.length : Nat) : Int)) (by simpa using idx1 hentry3) <| ob (map_idx0 (enc := eEntry_1) hentry3) <| tl (5, { a := .drow (eEntry_1 entry3) }) <| cb laws_markReadS_t laws_markReadS_ok 7 false h fun markReadS h =>
 needD h fun e1 h =>
 om (entry3.Run.Reads.length = entry3.Run.Reads.length) rfl <| rg <| ob (idx0 hentry3) <| om (i < ((a1.length : Nat) : Int)) (by simpa [e1] using idx1 hentry3) <| om ((((((a1.set i.toNat (TEntry.mk ((Int.tmod k1 3) == 0) entry.Req entry.Run)).set i.toNat (TEntry.mk entry1.None (TReq.mk (w64 (k1 + 1)) entry1.Req.Seq) entry1.Run)).set i.toNat (TEntry.mk entry2.None (TReq.mk entry2.Req.Who (w64 ((w64 (k1 + 1)) + 1))) entry2.Run)).map eEntry_1).set (0 + i.toNat) [.b entry3.None, vi entry3.Req.Who, vi entry3.Req.Seq, .own 41 0 2 0 entry3.Run.Reads.length, vosl 77 2 ePut entry3.Run.Puts, vi entry3.Run.Val, vi entry3.Run.Code])[0 + i.toNat]? = some [.b entry3.None, vi entry3.Req.Who, vi entry3.Req.Seq, .own 41 0 2 0 entry3.Run.Reads.length, vosl 77 2 ePut entry3.Run.Puts, vi entry3.Run.Val, vi entry3.Run.Code]) (set_get (map_lt0 hentry3)) <| tl (5, { a := .drow [.b entry3.None, vi entry3.Req.Who, vi entry3.Req.Seq, .own 41 0 2 0 entry3.Run.Reads.length, vosl 77 2 ePut entry3.Run.Puts, vi entry3.Run.Val, vi entry3.Run.Code] }) <| cb laws_markPutS_t laws_markPutS_ok 7 false h fun markPutS h =>
 needD h fun e2 h =>
 om (entry3.Run.Puts.length = entry3.Run.Puts.length) rfl <| rg <| ob (idx0 hentry3) <| om (i < ((a1.length : Nat) : Int)) (by simpa [e1, e2] using idx1 hentry3) <| om (Ent.deep true 53 7 (((a1.set i.toNat (TEntry.mk ((Int.tmod k1 3) == 0) entry.Req entry.Run)).set i.toNat (TEntry.mk entry1.None (TReq.mk (w64 (k1 + 1)) entry1.Req.Seq) entry1.Run)).set i.toNat (TEntry.mk entry2.None (TReq.mk entry2.Req.Who (w64 ((w64 (k1 + 1)) + 1))) entry2.Run)).length (((((((a1.set i.toNat (TEntry.mk ((Int.tmod k1 3) == 0) entry.Req entry.Run)).set i.toNat (TEntry.mk entry1.None (TReq.mk (w64 (k1 + 1)) entry1.Req.Seq) entry1.Run)).set i.toNat (TEntry.mk entry2.None (TReq.mk entry2.Req.Who (w64 ((w64 (k1 + 1)) + 1))) entry2.Run)).map eEntry_1).set (0 + i.toNat) [.b entry3.None, vi entry3.Req.Who, vi entry3.Req.Seq, .own 41 0 2 0 entry3.Run.Reads.length, vosl 77 2 ePut entry3.Run.Puts, vi entry3.Run.Val, vi entry3.Run.Code]).set (0 + i.toNat) [.b entry3.None, vi entry3.Req.Who, vi entry3.Req.Seq, .own 41 0 2 0 entry3.Run.Reads.length, .own 50 0 2 0 entry3.Run.Puts.length, vi entry3.Run.Val, vi entry3.Run.Code]).set (0 + i.toNat) [.b entry3.None, vi entry3.Req.Who, vi entry3.Req.Seq, .own 41 0 2 0 entry3.Run.Reads.length, .own 50 0 2 0 entry3.Run.Puts.length, vi markPutS.1, vi entry3.Run.Code]) = Ent.deep true 53 7 (((a1.set i.toNat (TEntry.mk ((Int.tmod k1 3) == 0) entry.Req entry.Run)).set i.toNat (TEntry.mk entry1.None (TReq.mk (w64 (k1 + 1)) entry1.Req.Seq) entry1.Run)).set i.toNat (TEntry.mk entry2.None (TReq.mk entry2.Req.Who (w64 ((w64 (k1 + 1)) + 1))) entry2.Run)).length (((((a1.set i.toNat (TEntry.mk ((Int.tmod k1 3) == 0) entry.Req entry.Run)).set i.toNat (TEntry.mk entry1.None (TReq.mk (w64 (k1 + 1)) entry1.Req.Seq) entry1.Run)).set i.toNat (TEntry.mk entry2.None (TReq.mk entry2.Req.Who (w64 ((w64 (k1 + 1)) + 1))) entry2.Run)).map eEntry_1).set (0 + i.toNat) [.b entry3.None, vi entry3.Req.Who, vi entry3.Req.Seq, .own 41 0 2 0 entry3.Run.Reads.length, .own 50 0 2 0 entry3.Run.Puts.length, vi markPutS.1, vi entry3.Run.Code])) (by simp only [List.set_set]) <| om (((((((a1.set i.toNat (TEntry.mk ((Int.tmod k1 3) == 0) entry.Req entry.Run)).set i.toNat (TEntry.mk entry1.None (TReq.mk (w64 (k1 + 1)) entry1.Req.Seq) entry1.Run)).set i.toNat (TEntry.mk entry2.None (TReq.mk entry2.Req.Who (w64 ((w64 (k1 + 1)) + 1))) entry2.Run)).map eEntry_1).set (0 + i.toNat) [.b entry3.None, vi entry3.Req.Who, vi entry3.Req.Seq, .own 41 0 2 0 entry3.Run.Reads.length, vosl 77 2 ePut entry3.Run.Puts, vi entry3.Run.Val, vi entry3.Run.Code]).set (0 + i.toNat) [.b entry3.None, vi entry3.Req.Who, vi entry3.Req.Seq, .own 41 0 2 0 entry3.Run.Reads.length, .own 50 0 2 0 entry3.Run.Puts.length, vi entry3.Run.Val, vi entry3.Run.Code])[0 + i.toNat]? = some [.b entry3.None, vi entry3.Req.Who, vi entry3.Req.Seq, .own 41 0 2 0 entry3.Run.Reads.length, .own 50 0 2 0 entry3.Run.Puts.length, vi entry3.Run.Val, vi entry3.Run.Code]) (set_get (lt_set (map_lt0 hentry3))) <| tl (6, { a := .dst [.b entry3.None, vi entry3.Req.Who, vi entry3.Req.Seq, .own 41 0 2 0 entry3.Run.Reads.length, .own 50 0 2 0 entry3.Run.Puts.length, vi entry3.Run.Val, vi entry3.Run.Code] [none] [none], e := some (.deep true 53 7 (((a1.set i.toNat (TEntry.mk ((Int.tmod k1 3) == 0) entry.Req entry.Run)).set i.toNat (TEntry.mk entry1.None (TReq.mk (w64 (k1 + 1)) entry1.Req.Seq) entry1.Run)).set i.toNat (TEntry.mk entry2.None (TReq.mk entry2.Req.Who (w64 ((w64 (k1 + 1)) + 1))) entry2.Run)).length (((((a1.set i.toNat (TEntry.mk ((Int.tmod k1 3) == 0) entry.Req entry.Run)).set i.toNat (TEntry.mk entry1.None (TReq.mk (w64 (k1 + 1)) entry1.Req.Seq) entry1.Run)).set i.toNat (TEntry.mk entry2.None (TReq.mk entry2.Req.Who (w64 ((w64 (k1 + 1)) + 1))) entry2.Run)).map eEntry_1).set (0 + i.toNat) [.b entry3.None, vi entry3.Req.Who, vi entry3.Req.Seq, .own 41 0 2 0 entry3.Run.Reads.length, .own 50 0 2 0 entry3.Run.Puts.length, vi markPutS.1, vi entry3.Run.Code])) }) <| rg2 <| ob (idx0 hentry3) <| om (i < ((a1.length : Nat) : Int)) (by simpa [e1, e2] using idx1 hentry3) <| om (Ent.deep true 53 7 (((a1.set i.toNat (TEntry.mk ((Int.tmod k1 3) == 0) entry.Req entry.Run)).set i.toNat (TEntry.mk entry1.None (TReq.mk (w64 (k1 + 1)) entry1.Req.Seq) entry1.Run)).set i.toNat (TEntry.mk entry2.None (TReq.mk entry2.Req.Who (w64 ((w64 (k1 + 1)) + 1))) entry2.Run)).length ((((((a1.set i.toNat (TEntry.mk ((Int.tmod k1 3) == 0) entry.Req entry.Run)).set i.toNat (TEntry.mk entry1.None (TReq.mk (w64 (k1 + 1)) entry1.Req.Seq) entry1.Run)).set i.toNat (TEntry.mk entry2.None (TReq.mk entry2.Req.Who (w64 ((w64 (k1 + 1)) + 1))) entry2.Run)).map eEntry_1).set (0 + i.toNat) [.b entry3.None, vi entry3.Req.Who, vi entry3.Req.Seq, .own 41 0 2 0 entry3.Run.Reads.length, .own 50 0 2 0 entry3.Run.Puts.length, vi markPutS.1, vi entry3.Run.Code]).set (0 + i.toNat) [.b entry3.None, vi entry3.Req.Who, vi entry3.Req.Seq, .own 41 0 2 0 entry3.Run.Reads.length, .own 50 0 2 0 entry3.Run.Puts.length, vi markPutS.1, vi (w64 (markPutS.1 + 1))]) = Ent.deep true 53 7 (((a1.set i.toNat (TEntry.mk ((Int.tmod k1 3) == 0) entry.Req entry.Run)).set i.toNat (TEntry.mk entry1.None (TReq.mk (w64 (k1 + 1)) entry1.Req.Seq) entry1.Run)).set i.toNat (TEntry.mk entry2.None (TReq.mk entry2.Req.Who (w64 ((w64 (k1 + 1)) + 1))) entry2.Run)).length (((((a1.set i.toNat (TEntry.mk ((Int.tmod k1 3) == 0) entry.Req entry.Run)).set i.toNat (TEntry.mk entry1.None (TReq.mk (w64 (k1 + 1)) entry1.Req.Seq) entry1.Run)).set i.toNat (TEntry.mk entry2.None (TReq.mk entry2.Req.Who (w64 ((w64 (k1 + 1)) + 1))) entry2.Run)).map eEntry_1).set (0 + i.toNat) [.b entry3.None, vi entry3.Req.Who, vi entry3.Req.Seq, .own 41 0 2 0 entry3.Run.Reads.length, .own 50 0 2 0 entry3.Run.Puts.length, vi markPutS.1, vi (w64 (markPutS.1 + 1))])) (by simp only [List.set_set]) <| om ((((((a1.set i.toNat (TEntry.mk ((Int.tmod k1 3) == 0) entry.Req entry.Run)).set i.toNat (TEntry.mk entry1.None (TReq.mk (w64 (k1 + 1)) entry1.Req.Seq) entry1.Run)).set i.toNat (TEntry.mk entry2.None (TReq.mk entry2.Req.Who (w64 ((w64 (k1 + 1)) + 1))) entry2.Run)).map eEntry_1).set (0 + i.toNat) [.b entry3.None, vi entry3.Req.Who, vi entry3.Req.Seq, .own 41 0 2 0 entry3.Run.Reads.length, .own 50 0 2 0 entry3.Run.Puts.length, vi markPutS.1, vi entry3.Run.Code])[0 + i.toNat]? = some [.b entry3.None, vi entry3.Req.Who, vi entry3.Req.Seq, .own 41 0 2 0 entry3.Run.Reads.length, .own 50 0 2 0 entry3.Run.Puts.length, vi markPutS.1, vi entry3.Run.Code]) (set_get (map_lt0 hentry3)) <| tl (6, { a := .dst [.b entry3.None, vi entry3.Req.Who, vi entry3.Req.Seq, .own 41 0 2 0 entry3.Run.Reads.length, .own 50 0 2 0 entry3.Run.Puts.length, vi markPutS.1, vi entry3.Run.Code] [none] [none], e := some (.deep true 53 7 (((a1.set i.toNat (TEntry.mk ((Int.tmod k1 3) == 0) entry.Req entry.Run)).set i.toNat (TEntry.mk entry1.None (TReq.mk (w64 (k1 + 1)) entry1.Req.Seq) entry1.Run)).set i.toNat (TEntry.mk entry2.None (TReq.mk entry2.Req.Who (w64 ((w64 (k1 + 1)) + 1))) entry2.Run)).length (((((a1.set i.toNat (TEntry.mk ((Int.tmod k1 3) == 0) entry.Req entry.Run)).set i.toNat (TEntry.mk entry1.None (TReq.mk (w64 (k1 + 1)) entry1.Req.Seq) entry1.Run)).set i.toNat (TEntry.mk entry2.None (TReq.mk entry2.Req.Who (w64 ((w64 (k1 + 1)) + 1))) entry2.Run)).map eEntry_1).set (0 + i.toNat) [.b entry3.None, vi entry3.Req.Who, vi entry3.Req.Seq, .own 41 0 2 0 entry3.Run.Reads.length, .own 50 0 2 0 entry3.Run.Puts.length, vi markPutS.1, vi (w64 (markPutS.1 + 1))])) }) <| rg2 <| (nxtD h hc1 fun hI => om ((((((a1.set i.toNat (TEntry.mk ((Int.tmod k1 3) == 0) entry.Req entry.Run)).set i.toNat (TEntry.mk entry1.None (TReq.mk (w64 (k1 + 1)) entry1.Req.Seq) entry1.Run)).set i.toNat (TEntry.mk entry2.None (TReq.mk entry2.Req.Who (w64 ((w64 (k1 + 1)) + 1))) entry2.Run)).map eEntry_1).set (0 + i.toNat) [.b entry3.None, vi entry3.Req.Who, vi entry3.Req.Seq, .own 41 0 2 0 entry3.Run.Reads.length, .own 50 0 2 0 entry3.Run.Puts.length, vi markPutS.1, vi (w64 (markPutS.1 + 1))])[0 + i.toNat]? = some [.b entry3.None, vi entry3.Req.Who, vi entry3.Req.Seq, .own 41 0 2 0 entry3.Run.Reads.length, .own 50 0 2 0 entry3.Run.Puts.length, vi markPutS.1, vi (w64 (markPutS.1 + 1))]) (set_get (map_lt0 hentry3)) <| om (entry3.Run.Reads.length = markReadS.2.length) (by first | (simp; done) | (simp [e1, e2]; done)) <| om (((((((a1.set i.toNat (TEntry.mk ((Int.tmod k1 3) == 0) entry.Req entry.Run)).set i.toNat (TEntry.mk entry1.None (TReq.mk (w64 (k1 + 1)) entry1.Req.Seq) entry1.Run)).set i.toNat (TEntry.mk entry2.None (TReq.mk entry2.Req.Who (w64 ((w64 (k1 + 1)) + 1))) entry2.Run)).map eEntry_1).set (0 + i.toNat) [.b entry3.None, vi entry3.Req.Who, vi entry3.Req.Seq, .own 41 0 2 0 entry3.Run.Reads.length, .own 50 0 2 0 entry3.Run.Puts.length, vi markPutS.1, vi (w64 (markPutS.1 + 1))]).set (0 + i.toNat) [.b entry3.None, vi entry3.Req.Who, vi entry3.Req.Seq, vosl 75 2 eRead markReadS.2, .own 50 0 2 0 entry3.Run.Puts.length, vi markPutS.1, vi (w64 (markPutS.1 + 1))])[0 + i.toNat]? = some [.b entry3.None, vi entry3.Req.Who, vi entry3.Req.Seq, vosl 75 2 eRead markReadS.2, .own 50 0 2 0 entry3.Run.Puts.length, vi markPutS.1, vi (w64 (markPutS.1 + 1))]) (set_get (lt_set (map_lt0 hentry3))) <| om (entry3.Run.Puts.length = markPutS.2.length) (by first | (simp; done) | (simp [e1, e2]; done)) <| om (((((((a1.set i.toNat (TEntry.mk ((Int.tmod k1 3) == 0) entry.Req entry.Run)).set i.toNat (TEntry.mk entry1.None (TReq.mk (w64 (k1 + 1)) entry1.Req.Seq) entry1.Run)).set i.toNat (TEntry.mk entry2.None (TReq.mk entry2.Req.Who (w64 ((w64 (k1 + 1)) + 1))) entry2.Run)).map eEntry_1).set (0 + i.toNat) [.b entry3.None, vi entry3.Req.Who, vi entry3.Req.Seq, .own 41 0 2 0 entry3.Run.Reads.length, .own 50 0 2 0 entry3.Run.Puts.length, vi markPutS.1, vi (w64 (markPutS.1 + 1))]).set (0 + i.toNat) [.b entry3.None, vi entry3.Req.Who, vi entry3.Req.Seq, vosl 75 2 eRead markReadS.2, .own 50 0 2 0 entry3.Run.Puts.length, vi markPutS.1, vi (w64 (markPutS.1 + 1))]).set (0 + i.toNat) [.b entry3.None, vi entry3.Req.Who, vi entry3.Req.Seq, vosl 75 2 eRead markReadS.2, vosl 77 2 ePut markPutS.2, vi markPutS.1, vi (w64 (markPutS.1 + 1))] = ((((a1.set i.toNat (TEntry.mk ((Int.tmod k1 3) == 0) entry.Req entry.Run)).set i.toNat (TEntry.mk entry1.None (TReq.mk (w64 (k1 + 1)) entry1.Req.Seq) entry1.Run)).set i.toNat (TEntry.mk entry2.None (TReq.mk entry2.Req.Who (w64 ((w64 (k1 + 1)) + 1))) entry2.Run)).set i.toNat (TEntry.mk entry3.None entry3.Req (TRun.mk markReadS.2 markPutS.2 markPutS.1 (w64 (markPutS.1 + 1))))).map eEntry_1) (shut_more (shut_more (shut_set0 rfl))) <| om (NoRef (((((a1.set i.toNat (TEntry.mk ((Int.tmod k1 3) == 0) entry.Req entry.Run)).set i.toNat (TEntry.mk entry1.None (TReq.mk (w64 (k1 + 1)) entry1.Req.Seq) entry1.Run)).set i.toNat (TEntry.mk entry2.None (TReq.mk entry2.Req.Who (w64 ((w64 (k1 + 1)) + 1))) entry2.Run)).set i.toNat (TEntry.mk entry3.None entry3.Req (TRun.mk markReadS.2 markPutS.2 markPutS.1 (w64 (markPutS.1 + 1))))).map eEntry_1)) (NoRef.map eEntry_1_nr _) <| om ((((a1.set i.toNat (TEntry.mk ((Int.tmod k1 3) == 0) entry.Req entry.Run)).set i.toNat (TEntry.mk entry1.None (TReq.mk (w64 (k1 + 1)) entry1.Req.Seq) entry1.Run)).set i.toNat (TEntry.mk entry2.None (TReq.mk entry2.Req.Who (w64 ((w64 (k1 + 1)) + 1))) entry2.Run)).length = ((((a1.set i.toNat (TEntry.mk ((Int.tmod k1 3) == 0) entry.Req entry.Run)).set i.toNat (TEntry.mk entry1.None (TReq.mk (w64 (k1 + 1)) entry1.Req.Seq) entry1.Run)).set i.toNat (TEntry.mk entry2.None (TReq.mk entry2.Req.Who (w64 ((w64 (k1 + 1)) + 1))) entry2.Run)).set i.toNat (TEntry.mk entry3.None entry3.Req (TRun.mk markReadS.2 markPutS.2 markPutS.1 (w64 (markPutS.1 + 1))))).length) (by simp) <| om ((.own 0 0 7 0 a1.length : V) = .own 0 0 7 0 ((((a1.set i.toNat (TEntry.mk ((Int.tmod k1 3) == 0) entry.Req entry.Run)).set i.toNat (TEntry.mk entry1.None (TReq.mk (w64 (k1 + 1)) entry1.Req.Seq) entry1.Run)).set i.toNat (TEntry.mk entry2.None (TReq.mk entry2.Req.Who (w64 ((w64 (k1 + 1)) + 1))) entry2.Run)).set i.toNat (TEntry.mk entry3.None entry3.Req (TRun.mk markReadS.2 markPutS.2 markPutS.1 (w64 (markPutS.1 + 1))))).length) (by first | (simp; done) | (simp [e1, e2]; done)) <| sg [.plug 0 0 (0 + i.toNat) 3 [.b entry3.None, vi entry3.Req.Who, vi entry3.Req.Seq, .own 41 0 2 0 entry3.Run.Reads.length, .own 50 0 2 0 entry3.Run.Puts.length, vi markPutS.1, vi (w64 (markPutS.1 + 1))] 75, .plug 0 0 (0 + i.toNat) 4 [.b entry3.None, vi entry3.Req.Who, vi entry3.Req.Seq, vosl 75 2 eRead markReadS.2, .own 50 0 2 0 entry3.Run.Puts.length, vi markPutS.1, vi (w64 (markPutS.1 + 1))] 77, .shut 0 0 ((((a1.set i.toNat (TEntry.mk ((Int.tmod k1 3) == 0) entry.Req entry.Run)).set i.toNat (TEntry.mk entry1.None (TReq.mk (w64 (k1 + 1)) entry1.Req.Seq) entry1.Run)).set i.toNat (TEntry.mk entry2.None (TReq.mk entry2.Req.Who (w64 ((w64 (k1 + 1)) + 1))) entry2.Run)).set i.toNat (TEntry.mk entry3.None entry3.Req (TRun.mk markReadS.2 markPutS.2 markPutS.1 (w64 (markPutS.1 + 1))))).length (((((a1.set i.toNat (TEntry.mk ((Int.tmod k1 3) == 0) entry.Req entry.Run)).set i.toNat (TEntry.mk entry1.None (TReq.mk (w64 (k1 + 1)) entry1.Req.Seq) entry1.Run)).set i.toNat (TEntry.mk entry2.None (TReq.mk entry2.Req.Who (w64 ((w64 (k1 + 1)) + 1))) entry2.Run)).set i.toNat (TEntry.mk entry3.None entry3.Req (TRun.mk markReadS.2 markPutS.2 markPutS.1 (w64 (markPutS.1 + 1))))).map eEntry_1), .is (.tmp 0) (.own 0 0 7 0 ((((a1.set i.toNat (TEntry.mk ((Int.tmod k1 3) == 0) entry.Req entry.Run)).set i.toNat (TEntry.mk entry1.None (TReq.mk (w64 (k1 + 1)) entry1.Req.Seq) entry1.Run)).set i.toNat (TEntry.mk entry2.None (TReq.mk entry2.Req.Who (w64 ((w64 (k1 + 1)) + 1))) entry2.Run)).set i.toNat (TEntry.mk entry3.None entry3.Req (TRun.mk markReadS.2 markPutS.2 markPutS.1 (w64 (markPutS.1 + 1))))).length)] [0, 1, 5] [] hI)) (fun h =>
 (brkD h hc1 fun e => sg [] [1] [] (hb1 _ e)))
noncomputable def laws_markEntryS (a : List TEntry) (k : Int) : Option (Int × List TEntry) :=
  ((loop (fun s : (List TEntry) × Int × Int => laws_markEntryS_b1 s.1 s.2.1 s.2.2) (a, k, 0)).bind fun x => x.go (fun r => some r) fun s => laws_markEntryS_k2 s.1 s.2)
theorem laws_markEntryS_ok {a : List TEntry} {k : Int} (r : Int × List TEntry) (h : laws_markEntryS a k = some r) : ACalls cx.P 10 [vdsl 53 7 eEntry_1 a, vi k] (laws_markEntryS_R r) (laws_markEntryS_O r) :=
  ACalls.of (cx := cx) (X := laws_markEntryS_X) (c := laws_markEntryS_c) Try.func10 (by kernel_rfl) (by kernel_rfl) (by kernel_rfl) (P0 <|
 rg2 <| loopJ h fun x hl hr hb => sg [] [0, 1, 5] [] (loopD (I := fun s : (List TEntry) × Int × Int => Fin cx laws_markEntryS_X (laws_markEntryS_R r) (laws_markEntryS_O r) laws_markEntryS_k3 (laws_markEntryS_S2 s.1 s.2.1 s.2.2)) hl fun s st h hc => laws_markEntryS_b1_ok _ _ x (fun s e => laws_markEntryS_k2_ok r s.1 s.2 (hb s e)) (fun v e => ⟨congrArg laws_markEntryS_R (Option.some.inj (hr v e)).symm, congrArg laws_markEntryS_O (Option.some.inj (hr v e)).symm⟩) st hc s.1 s.2.1 s.2.2 h))

/-! ### laws_markBoxS -/
noncomputable def laws_markBoxS_c : Code := bodyOf Try.f11
noncomputable def laws_markBoxS_X : Sig := { f := 11, fn := Try.f11, rms := [.val [] []], oms := [some (0, .row), none] }
noncomputable def laws_markBoxS_R (r : Int × List TBox) : V := vi r.1
noncomputable def laws_markBoxS_O (r : Int × List TBox) : List (Option V) := [some (vosl 58 2 eBox r.2), none]
noncomputable def laws_markBoxS_t (i : Nat) (fr : Bool) (r : Int × List TBox) : Nat × Tell := (i, { a := .call [.row, .val [] []] fr (laws_markBoxS_R r) (laws_markBoxS_O r) })
noncomputable def laws_markBoxS_k1 : List Item := posI 2000 3 [false] [.code laws_markBoxS_c]
noncomputable def laws_markBoxS_S1 (w : List TBox) (k2 : Int) : St := ⟨(bs 1 (vi k2 :: (bs 25 []))), [some [erow 58 2 eBox w]]⟩
noncomputable def laws_markBoxS_k2 (w : List TBox) (k2 : Int) : Option (Int × List TBox) :=
  some (k2, w)
theorem laws_markBoxS_k2_ok (r : Int × List TBox) (w : List TBox) (k2 : Int) (h : laws_markBoxS_k2 w k2 = some r) : Fin cx laws_markBoxS_X (laws_markBoxS_R r) (laws_markBoxS_O r) laws_markBoxS_k1 (laws_markBoxS_S1 w k2) :=
  P0 <|
 rg <| om (w.length = w.length) rfl <| fe Try.func11 h
noncomputable def laws_markBoxS_k3 : List Item := posI 2000 2 [] [.code laws_markBoxS_c]
noncomputable def laws_markBoxS_S2 (a1 : List TBox) (k1 : Int) (i : Int) : St := ⟨(.own 0 0 2 0 a1.length :: (vi k1 :: (bs 3 (vi i :: (bs 21 []))))), [some [erow 58 2 eBox a1]]⟩
noncomputable def laws_markBoxS_b1 (a1 : List TBox) (k1 : Int) (i : Int) : Option (Stp (Int × List TBox) ((List TBox) × Int × Int) ((List TBox) × Int)) :=
  (bif decide (i < (a1.length : Int)) then
 ((idx a1 i).bind fun box =>
 ((idx (a1.set i.toNat (TBox.mk k1 box.Val)) i).bind fun box1 =>
 some (Stp.nxt ((a1.set i.toNat (TBox.mk k1 box.Val)).set i.toNat (TBox.mk box1.Ver (w64 (k1 + 1))), w64 ((w64 (k1 + 1)) + 1), w64 (i + 1)))))
 else
 some (Stp.brk (a1, k1)))
theorem laws_markBoxS_b1_ok (res : V) (outs : List (Option V)) (x1 : Exc (Int × List TBox) ((List TBox) × Int)) (hb1 : HB cx laws_markBoxS_X res outs x1 laws_markBoxS_k1 (fun s => laws_markBoxS_S1 s.1 s.2)) (hr1 : HR res outs x1 laws_markBoxS_R laws_markBoxS_O) (st1 : Stp (Int × List TBox) ((List TBox) × Int × Int) ((List TBox) × Int)) (hc1 : Cont x1 (fun s : (List TBox) × Int × Int => Fin cx laws_markBoxS_X res outs laws_markBoxS_k3 (laws_markBoxS_S2 s.1 s.2.1 s.2.2)) st1) (a1 : List TBox) (k1 : Int) (i : Int) (h : laws_markBoxS_b1 a1 k1 i = some st1) : Fin cx laws_markBoxS_X res outs laws_markBoxS_k3 (laws_markBoxS_S2 a1 k1 i) :=
  P0 <|
 rg <| cdD 3 h (fun h =>
 rg <| bindD h fun box hbox h =>
 ixB hbox <| stR 58 2 eBox 5 [] (TBox.mk k1 box.Val) hbox <| rg2 <| bindD h fun box1 hbox1 h =>
 ob (idx0 hbox1) <| om (i < ((a1.length : Nat) : Int)) (by simpa using idx1 hbox1) <| stR 58 2 eBox 5 [] (TBox.mk box1.Ver (w64 (k1 + 1))) hbox1 <| rg2 <| (nxtD h hc1 fun hI => om ((.own 0 0 2 0 a1.length : V) = .own 0 0 2 0 ((a1.set i.toNat (TBox.mk k1 box.Val)).set i.toNat (TBox.mk box1.Ver (w64 (k1 + 1)))).length) (by simp) <| sg [.is (.tmp 0) (.own 0 0 2 0 ((a1.set i.toNat (TBox.mk k1 box.Val)).set i.toNat (TBox.mk box1.Ver (w64 (k1 + 1)))).length)] [0, 1, 5] [] hI)) (fun h =>
 (brkD h hc1 fun e => sg [] [1] [] (hb1 _ e)))
noncomputable def laws_markBoxS (a : List TBox) (k : Int) : Option (Int × List TBox) :=
  ((loop (fun s : (List TBox) × Int × Int => laws_markBoxS_b1 s.1 s.2.1 s.2.2) (a, k, 0)).bind fun x => x.go (fun r => some r) fun s => laws_markBoxS_k2 s.1 s.2)
theorem laws_markBoxS_ok {a : List TBox} {k : Int} (r : Int × List TBox) (h : laws_markBoxS a k = some r) : ACalls cx.P 11 [vosl 58 2 eBox a, vi k] (laws_markBoxS_R r) (laws_markBoxS_O r) :=
  ACalls.of (cx := cx) (X := laws_markBoxS_X) (c := laws_markBoxS_c) Try.func11 (by kernel_rfl) (by kernel_rfl) (by kernel_rfl) (P0 <|
 rg2 <| loopJ h fun x hl hr hb => sg [] [0, 1, 5] [] (loopD (I := fun s : (List TBox) × Int × Int => Fin cx laws_markBoxS_X (laws_markBoxS_R r) (laws_markBoxS_O r) laws_markBoxS_k3 (laws_markBoxS_S2 s.1 s.2.1 s.2.2)) hl fun s st h hc => laws_markBoxS_b1_ok _ _ x (fun s e => laws_markBoxS_k2_ok r s.1 s.2 (hb s e)) (fun v e => ⟨congrArg laws_markBoxS_R (Option.some.inj (hr v e)).symm, congrArg laws_markBoxS_O (Option.some.inj (hr v e)).symm⟩) st hc s.1 s.2.1 s.2.2 h))

/-! ### laws_heldBoxS -/
noncomputable def laws_heldBoxS_c : Code := bodyOf Try.f12
noncomputable def laws_heldBoxS_X : Sig := { f := 12, fn := Try.f12, rms := [.val [] []], oms := [none, none] }
noncomputable def laws_heldBoxS_R (r : Int) : V := vi r
noncomputable def laws_heldBoxS_O (r : Int) : List (Option V) := [none, none]
noncomputable def laws_heldBoxS_t (i : Nat) (fr : Bool) (r : Int) : Nat × Tell := (i, { a := .call [.val [some 2] [], .val [] []] fr (laws_heldBoxS_R r) (laws_heldBoxS_O r) })
noncomputable def laws_heldBoxS_k1 : List Item := posI 2000 3 [false] [.code laws_heldBoxS_c]
noncomputable def laws_heldBoxS_S1 (k2 : Int) : St := ⟨(bs 1 (vi k2 :: (bs 29 []))), [some []]⟩
noncomputable def laws_heldBoxS_k2 (k2 : Int) : Option Int :=
  some k2
theorem laws_heldBoxS_k2_ok (r : Int) (k2 : Int) (h : laws_heldBoxS_k2 k2 = some r) : Fin cx laws_heldBoxS_X (laws_heldBoxS_R r) (laws_heldBoxS_O r) laws_heldBoxS_k1 (laws_heldBoxS_S1 k2) :=
  P0 <|
 rg <| fe Try.func12 h
noncomputable def laws_heldBoxS_k3 : List Item := posI 2000 2 [] [.code laws_heldBoxS_c]
noncomputable def laws_heldBoxS_S2 (a : List TBox) (k1 : Int) (i : Int) : St := ⟨(vsl 2 eBox a :: (vi k1 :: (bs 3 (vi i :: (bs 25 []))))), [some []]⟩
noncomputable def laws_heldBoxS_b1 (a : List TBox) (k1 : Int) (i : Int) : Option (Stp Int (Int × Int) Int) :=
  (bif decide (i < (a.length : Int)) then
 ((idx a i).bind fun box =>
 (bif (box.Ver != k1) then
 some (Stp.ret (-1))
 else
 (bif (box.Val != (w64 (k1 + 1))) then
 some (Stp.ret (-1))
 else
 some (Stp.nxt (w64 ((w64 (k1 + 1)) + 1), w64 (i + 1))))))
 else
 some (Stp.brk k1))
theorem laws_heldBoxS_b1_ok (a : List TBox) (res : V) (outs : List (Option V)) (x1 : Exc Int Int) (hb1 : HB cx laws_heldBoxS_X res outs x1 laws_heldBoxS_k1 laws_heldBoxS_S1) (hr1 : HR res outs x1 laws_heldBoxS_R laws_heldBoxS_O) (st1 : Stp Int (Int × Int) Int) (hc1 : Cont x1 (fun s : Int × Int => Fin cx laws_heldBoxS_X res outs laws_heldBoxS_k3 (laws_heldBoxS_S2 a s.1 s.2)) st1) (k1 : Int) (i : Int) (h : laws_heldBoxS_b1 a k1 i = some st1) : Fin cx laws_heldBoxS_X res outs laws_heldBoxS_k3 (laws_heldBoxS_S2 a k1 i) :=
  P0 <|
 rg <| cdD 3 h (fun h =>
 rg <| ixS eBox 2 h fun box hbox h =>
 cdD 6 h (fun h =>
 rg <| (retD h hc1 fun e => fn0 Try.func12 (hr1 _ e))) (fun h =>
 rg2 <| ixR eBox 2 hbox <| cdD 6 h (fun h =>
 rg <| (retD h hc1 fun e => fn0 Try.func12 (hr1 _ e))) (fun h =>
 rg2 <| (nxtD h hc1 fun hI => sg [] [0, 1, 5] [] hI)))) (fun h =>
 (brkD h hc1 fun e => sg [] [1] [] (hb1 _ e)))
noncomputable def laws_heldBoxS (a : List TBox) (k : Int) : Option Int :=
  ((loop (fun s : Int × Int => laws_heldBoxS_b1 a s.1 s.2) (k, 0)).bind fun x => x.go (fun r => some r) fun s => laws_heldBoxS_k2 s)
theorem laws_heldBoxS_ok {a : List TBox} {k : Int} (r : Int) (h : laws_heldBoxS a k = some r) : ACalls cx.P 12 [vsl 2 eBox a, vi k] (laws_heldBoxS_R r) (laws_heldBoxS_O r) :=
  ACalls.of (cx := cx) (X := laws_heldBoxS_X) (c := laws_heldBoxS_c) Try.func12 (by kernel_rfl) (by kernel_rfl) (by kernel_rfl) (P0 <|
 rg2 <| loopJ h fun x hl hr hb => sg [] [0, 1, 5] [] (loopD (I := fun s : Int × Int => Fin cx laws_heldBoxS_X (laws_heldBoxS_R r) (laws_heldBoxS_O r) laws_heldBoxS_k3 (laws_heldBoxS_S2 a s.1 s.2)) hl fun s st h hc => laws_heldBoxS_b1_ok a _ _ x (fun s e => laws_heldBoxS_k2_ok r s (hb s e)) (fun v e => ⟨congrArg laws_heldBoxS_R (Option.some.inj (hr v e)).symm, congrArg laws_heldBoxS_O (Option.some.inj (hr v e)).symm⟩) st hc s.1 s.2 h))

/-! ### laws_FnExactHistAt -/
noncomputable def laws_FnExactHistAt_c : Code := bodyOf Try.f3
noncomputable def laws_FnExactHistAt_X : Sig := { f := 3, fn := Try.f3, rms := [.val [] []], oms := [none, none] }
noncomputable def laws_FnExactHistAt_R (r : Bool) : V := .b r
noncomputable def laws_FnExactHistAt_O (r : Bool) : List (Option V) := [none, none]
noncomputable def laws_FnExactHistAt_t (i : Nat) (fr : Bool) (r : Bool) : Nat × Tell := (i, { a := .call [.val [some 7] [], .val [] []] fr (laws_FnExactHistAt_R r) (laws_FnExactHistAt_O r) })
noncomputable def laws_FnExactHistAt (aList : List TEntry) (aN : Int) : Option Bool :=
  ((laws_szEntryS aList 1048576).bind fun szEntryS =>
 (bif decide (szEntryS < 0) then
 some true
 else
 ((laws_toEntryS aList).bind fun toEntryS =>
 ((spec_HistAt toEntryS aN).bind fun histAt =>
 ((laws_toEntryS aList).bind fun toEntryS1 =>
 ((impl_HistAt toEntryS1 aN).bind fun histAt1 =>
 ((laws_eqBoxS histAt1 histAt).bind fun eqBoxS =>
 (bif (!eqBoxS) then
 some false
 else
 ((laws_toEntryS aList).bind fun toEntryS2 =>
 ((laws_eqEntryS toEntryS1 toEntryS2).bind fun eqEntryS =>
 (bif (!eqEntryS) then
 some false
 else
 ((laws_markEntryS toEntryS1 1).bind fun markEntryS =>
 (need (toEntryS1.length = markEntryS.2.length)
 ((bif decide (markEntryS.1 < 0) then
 some false
 else
 ((laws_eqBoxS histAt1 histAt).bind fun eqBoxS1 =>
 (bif (!eqBoxS1) then
 some false
 else
 ((laws_markBoxS histAt1 1).bind fun markBoxS =>
 (need (histAt1.length = markBoxS.2.length)
 (((laws_heldBoxS markBoxS.2 1).bind fun heldBoxS =>
 (bif decide (heldBoxS < 0) then
 some false
 else
 (bif (heldBoxS != markBoxS.1) then
 some false
 else
 ((laws_toEntryS aList).bind fun toEntryS3 =>
 ((impl_HistAt toEntryS3 aN).bind fun histAt2 =>
 ((laws_eqBoxS histAt2 histAt).bind fun eqBoxS2 =>
 (bif (!eqBoxS2) then
 some false
 else
 ((laws_heldBoxS markBoxS.2 1).bind fun heldBoxS1 =>
 (bif decide (heldBoxS1 < 0) then
 some false
 else
 (bif (heldBoxS1 != markBoxS.1) then
 some false
 else
 some true))))))))))))))))))))))))))))))
set_option maxRecDepth 20000 in
theorem laws_FnExactHistAt_ok {aList : List TEntry} {aN : Int} (r : Bool) (h : laws_FnExactHistAt aList aN = some r) : ACalls cx.P 3 [vsl 7 eEntry aList, vi aN] (laws_FnExactHistAt_R r) (laws_FnExactHistAt_O r) :=
  ACalls.of (cx := cx) (X := laws_FnExactHistAt_X) (c := laws_FnExactHistAt_c) Try.func3 (by kernel_rfl) (by kernel_rfl) (by kernel_rfl) (P0 <|
 rg3 <| cb laws_szEntryS_t laws_szEntryS_ok 2 false h fun szEntryS h =>
 rg <| cdD 1 h (fun h =>
 rg <| fe Try.func3 h) (fun h =>
 rg <| cb laws_toEntryS_t laws_toEntryS_ok 1 false h fun toEntryS h =>
 bindD h fun histAt hhistAt h =>
 om (ACalls cx.P 5 [.sl 7 toEntryS.length (viewR (toEntryS.map eEntry_1)), vi aN] (spec_HistAt_R histAt) (spec_HistAt_O histAt)) (by simp only [viewR_map eEntry_1_view]; exact (spec_HistAt_ok histAt hhistAt)) <| om (ScalR (spec_HistAt_R histAt) ∧ ScalO (spec_HistAt_O histAt)) ⟨(by simp [spec_HistAt_R, ScalR, ScalA, ScalC, V.simple, vi, vosl, eBox, eI]), scalO_none 2⟩ <| om (toEntryS.length = toEntryS.length) rfl <| tl (spec_HistAt_t 3 true histAt) <| rg <| cb laws_toEntryS_t laws_toEntryS_ok 1 false h fun toEntryS1 h =>
 rg <| bindD h fun histAt1 hhistAt1 h =>
 om (ACalls cx.P 7 [.sl 7 toEntryS1.length (viewR (toEntryS1.map eEntry_1)), vi aN] (impl_HistAt_R histAt1) (impl_HistAt_O histAt1)) (by simp only [viewR_map eEntry_1_view]; exact (impl_HistAt_ok histAt1 hhistAt1)) <| om (ScalR (impl_HistAt_R histAt1) ∧ ScalO (impl_HistAt_O histAt1)) ⟨(by simp [impl_HistAt_R, ScalR, ScalA, ScalC, V.simple, vi, vosl, eBox, eI]), scalO_none 2⟩ <| om (toEntryS1.length = toEntryS1.length) rfl <| tl (impl_HistAt_t 2 true histAt1) <| rg <| cb laws_eqBoxS_t laws_eqBoxS_ok 2 true h fun eqBoxS h =>
 om (ScalR (laws_eqBoxS_R eqBoxS) ∧ ScalO (laws_eqBoxS_O eqBoxS)) ⟨rfl, scalO_none 2⟩ <| om (histAt1.length = histAt1.length) rfl <| om (histAt.length = histAt.length) rfl <| cdD 3 h (fun h =>
 rg <| fe Try.func3 h) (fun h =>
 rg <| cb laws_toEntryS_t laws_toEntryS_ok 2 false h fun toEntryS2 h =>
 bindD h fun eqEntryS heqEntryS h =>
 om (ACalls cx.P 9 [.sl 7 toEntryS1.length (viewR (toEntryS1.map eEntry_1)), .sl 7 toEntryS2.length (viewR (toEntryS2.map eEntry_1))] (laws_eqEntryS_R eqEntryS) (laws_eqEntryS_O eqEntryS)) (by simp only [viewR_map eEntry_1_view]; exact (laws_eqEntryS_ok eqEntryS heqEntryS)) <| om (ScalR (laws_eqEntryS_R eqEntryS) ∧ ScalO (laws_eqEntryS_O eqEntryS)) ⟨rfl, scalO_none 2⟩ <| om (toEntryS1.length = toEntryS1.length) rfl <| om (toEntryS2.length = toEntryS2.length) rfl <| tl (laws_eqEntryS_t 3 true eqEntryS) <| cdD 4 h (fun h =>
 rg <| fe Try.func3 h) (fun h =>
 rg2 <| cb laws_markEntryS_t laws_markEntryS_ok 2 false h fun markEntryS h =>
 needD h fun e1 h =>
 om (toEntryS1.length = toEntryS1.length) rfl <| rg <| cdD 2 h (fun h =>
 rg <| fe Try.func3 h) (fun h =>
 cb laws_eqBoxS_t laws_eqBoxS_ok 5 true h fun eqBoxS1 h =>
 om (ScalR (laws_eqBoxS_R eqBoxS1) ∧ ScalO (laws_eqBoxS_O eqBoxS1)) ⟨rfl, scalO_none 2⟩ <| om (histAt1.length = histAt1.length) rfl <| om (histAt.length = histAt.length) rfl <| cdD 7 h (fun h =>
 rg <| fe Try.func3 h) (fun h =>
 rg2 <| cb laws_markBoxS_t laws_markBoxS_ok 2 false h fun markBoxS h =>
 needD h fun e2 h =>
 om (histAt1.length = histAt1.length) rfl <| rg2 <| cb laws_heldBoxS_t laws_heldBoxS_ok 2 true h fun heldBoxS h =>
 om (ScalR (laws_heldBoxS_R heldBoxS) ∧ ScalO (laws_heldBoxS_O heldBoxS)) ⟨rfl, scalO_none 2⟩ <| om (histAt1.length = markBoxS.2.length) (by first | (simp; done) | (simp [e1, e2]; done)) <| rg <| cdD 1 h (fun h =>
 rg <| fe Try.func3 h) (fun h =>
 rg <| cdD 2 h (fun h =>
 rg <| fe Try.func3 h) (fun h =>
 rg <| cb laws_toEntryS_t laws_toEntryS_ok 1 false h fun toEntryS3 h =>
 bindD h fun histAt2 hhistAt2 h =>
 om (ACalls cx.P 7 [.sl 7 toEntryS3.length (viewR (toEntryS3.map eEntry_1)), vi aN] (impl_HistAt_R histAt2) (impl_HistAt_O histAt2)) (by simp only [viewR_map eEntry_1_view]; exact (impl_HistAt_ok histAt2 hhistAt2)) <| om (ScalR (impl_HistAt_R histAt2) ∧ ScalO (impl_HistAt_O histAt2)) ⟨(by simp [impl_HistAt_R, ScalR, ScalA, ScalC, V.simple, vi, vosl, eBox, eI]), scalO_none 2⟩ <| om (toEntryS3.length = toEntryS3.length) rfl <| tl (impl_HistAt_t 3 true histAt2) <| rg <| cb laws_eqBoxS_t laws_eqBoxS_ok 2 true h fun eqBoxS2 h =>
 om (ScalR (laws_eqBoxS_R eqBoxS2) ∧ ScalO (laws_eqBoxS_O eqBoxS2)) ⟨rfl, scalO_none 2⟩ <| om (histAt2.length = histAt2.length) rfl <| om (histAt.length = histAt.length) rfl <| cdD 3 h (fun h =>
 rg <| fe Try.func3 h) (fun h =>
 rg2 <| cb laws_heldBoxS_t laws_heldBoxS_ok 2 true h fun heldBoxS1 h =>
 om (ScalR (laws_heldBoxS_R heldBoxS1) ∧ ScalO (laws_heldBoxS_O heldBoxS1)) ⟨rfl, scalO_none 2⟩ <| om (histAt1.length = markBoxS.2.length) (by first | (simp; done) | (simp [e1, e2]; done)) <| rg <| cdD 1 h (fun h =>
 rg <| fe Try.func3 h) (fun h =>
 rg <| cdD 2 h (fun h =>
 rg <| fe Try.func3 h) (fun h =>
 rg <| fe Try.func3 h)))))))))))


end Go.Proofs.Ytpiaaeggofnphaa
