/- Functions of the program, and that their calls come to this. -/
import Derived.Test.YtophfhbneaeljaaF3
set_option linter.unusedVariables false
set_option linter.unusedSimpArgs false
namespace Go.Proofs.Ytophfhbneaeljaa
open Go

/-! ### impl_CertApply -/
noncomputable def impl_CertApply_c : Code := bodyOf Try.f28
noncomputable def impl_CertApply_X : Sig := { f := 28, fn := Try.f28, rms := [.val [none, some 2, some 4] [], .val [] []], oms := [none, none] }
noncomputable def impl_CertApply_R (r : TState × Int) : V := .tup [.agg (eState r.1), vi r.2]
noncomputable def impl_CertApply_O (r : TState × Int) : List (Option V) := [none, none]
noncomputable def impl_CertApply_k1 : List Item := posI 2000 6 [false, false, false] [.code impl_CertApply_c]
noncomputable def impl_CertApply_S1 (s_ : TState) (e_ : TEntry) (box : List TBox) : St := ⟨(bs 2 (.ptr 1 0 0 :: (.ptr 2 0 0 :: (.ptr 3 0 0 :: (bs 1 (.ptr 4 0 0 :: (bs 145 []))))))), [some [], some [.var 48 [vi s_.At, vsl 2 eBox s_.Boxes, vsl 4 eDone s_.Dones]], some [.var 37 [.b e_.None, vi e_.Req.Who, vi e_.Req.Seq, vsl 2 eRead e_.Run.Reads, vsl 2 ePut e_.Run.Puts, vi e_.Run.Val, vi e_.Run.Code]], some [.var 48 [vi 0, .nil, .nil]], some [.var 48 [vi (w64 (s_.At + 1)), .own 5 0 2 0 box.length, .nil]], some [erow 54 2 eBox box]]⟩
noncomputable def impl_CertApply_k2 : List Item := posI 2000 9 [false, false, false, true] [.code impl_CertApply_c]
noncomputable def impl_CertApply_S2 (s_ : TState) (own : TDone) (outBoxes : List TBox) : St := ⟨(bs 2 (.ptr 1 0 0 :: (bs 1 (.ptr 2 0 0 :: (bs 1 (.ptr 3 0 0 :: (bs 2 (.ptr 4 0 0 :: (bs 142 []))))))))), [some [], some [.var 48 [vi s_.At, vsl 2 eBox s_.Boxes, vsl 4 eDone s_.Dones]], some [.var 48 [vi 0, .nil, .nil]], some [.var 48 [vi (w64 (s_.At + 1)), vsl 2 eBox outBoxes, .nil]], some [.var 76 [vi own.Req.Who, vi own.Req.Seq, vi own.Code, vi own.Val]]]⟩
noncomputable def impl_CertApply_k3 : List Item := posI 2000 13 [false, false, false, true, false] [.code impl_CertApply_c]
noncomputable def impl_CertApply_S3 (s_ : TState) (own : TDone) (outBoxes : List TBox) (dones1 : List TDone) (put1 : Bool) : St := ⟨(bs 4 (.ptr 1 0 0 :: (bs 1 (.ptr 2 0 0 :: (bs 2 (.ptr 3 0 0 :: (.own 4 0 4 0 dones1.length :: (.b put1 :: (bs 140 []))))))))), [some [], some [.var 48 [vi 0, .nil, .nil]], some [.var 48 [vi (w64 (s_.At + 1)), vsl 2 eBox outBoxes, .nil]], some [.var 76 [vi own.Req.Who, vi own.Req.Seq, vi own.Code, vi own.Val]], some [erow 76 4 eDone dones1]]⟩
noncomputable def impl_CertApply_k4 : List Item := posI 2000 15 [false, false, false, true, false, true] [.code impl_CertApply_c]
noncomputable def impl_CertApply_S4 (s_ : TState) (own : TDone) (outBoxes : List TBox) (dones2 : List TDone) : St := ⟨(bs 4 (.ptr 1 0 0 :: (bs 1 (.ptr 2 0 0 :: (bs 2 (.ptr 3 0 0 :: (.own 4 0 4 0 dones2.length :: (bs 141 [])))))))), [some [], some [.var 48 [vi 0, .nil, .nil]], some [.var 48 [vi (w64 (s_.At + 1)), vsl 2 eBox outBoxes, .nil]], some [.var 76 [vi own.Req.Who, vi own.Req.Seq, vi own.Code, vi own.Val]], some [erow 76 4 eDone dones2]]⟩
noncomputable def impl_CertApply_j1 (s_ : TState) (own : TDone) (outBoxes : List TBox) (dones2 : List TDone) : Option (TState × Int) :=
  ((impl_copied_Done dones2).bind fun done1 =>
 some ((TState.mk (w64 (s_.At + 1)) outBoxes done1), own.Code))
theorem impl_CertApply_j1_ok (s_ : TState) (own : TDone) (outBoxes : List TBox) (r : TState × Int) (dones2 : List TDone) (h : impl_CertApply_j1 s_ own outBoxes dones2 = some r) : Fin cx impl_CertApply_X (impl_CertApply_R r) (impl_CertApply_O r) impl_CertApply_k4 (impl_CertApply_S4 s_ own outBoxes dones2) :=
  (bindD h fun done1 hdone1 h =>
 (someD h fun e => (Fin.fin (cx := cx) (X := impl_CertApply_X) (res := impl_CertApply_R ((TState.mk (w64 (s_.At + 1)) outBoxes done1), own.Code)) (outs := impl_CertApply_O ((TState.mk (w64 (s_.At + 1)) outBoxes done1), own.Code)) Try.func28 [[(1, { a := .call [.val [some 4] []] false (impl_copied_Done_R done1) (impl_copied_Done_O done1) })], []] [ACalls cx.P 49 [vsl 4 eDone dones2] (impl_copied_Done_R done1) (impl_copied_Done_O done1), dones2.length = dones2.length] (.cons (impl_copied_Done_ok dones2 done1 hdone1) (.cons rfl .nil)) (by kernel_rfl)).is (congrArg impl_CertApply_R e) (congrArg impl_CertApply_O e)))
noncomputable def impl_CertApply_k5 (s_ : TState) (own : TDone) (outBoxes : List TBox) (dones1 : List TDone) (put1 : Bool) : Option (TState × Int) :=
  (((bif (!put1) then
 (need ((dones1.length + 1) * 32 ≤ 140737488355328)
 (some (Exc.brk (dones1 ++ [own]))))
 else
 some (Exc.brk dones1)) : Option (Exc (TState × Int) (List TDone))).bind fun x => x.go some fun j => impl_CertApply_j1 s_ own outBoxes j)
theorem impl_CertApply_k5_ok (s_ : TState) (own : TDone) (outBoxes : List TBox) (r : TState × Int) (dones1 : List TDone) (put1 : Bool) (h : impl_CertApply_k5 s_ own outBoxes dones1 put1 = some r) : Fin cx impl_CertApply_X (impl_CertApply_R r) (impl_CertApply_O r) impl_CertApply_k3 (impl_CertApply_S3 s_ own outBoxes dones1 put1) :=
  (joinD (I := fun j : List TDone => Fin cx impl_CertApply_X (impl_CertApply_R r) (impl_CertApply_O r) impl_CertApply_k4 (impl_CertApply_S4 s_ own outBoxes j)) h (fun j h => impl_CertApply_j1_ok s_ own outBoxes r j h) (fun x1 h hc1 =>
  (condD h (fun e5 h =>
 (needD h fun e6 h =>
 (jbrkD h hc1 fun hI => (Fin.seg [[(1, { d := some true })], [(2, { a := .ck [] }), (3, { v := some (.own 10 0 4 0 (dones1 ++ [own]).length), e := some (erow 76 4 eDone (dones1 ++ [own])) })]] [] [4, 6, 9, 10] [(1, 0), (2, 0), (3, 0), (10, 0)] [(!put1) = true, V.own 10 0 4 0 (dones1.length + 1) = .own 10 0 4 0 (dones1 ++ [own]).length, Ent.row 76 4 (dones1.length + 1) (dones1.map eDone ++ [eDone own]) = erow 76 4 eDone (dones1 ++ [own]), dones1.length = dones1.length, (dones1.length + 1) * 32 ≤ 140737488355328, 1 = [own].length] (.cons e5 (.cons (by first | exact congrArg (V.own 10 0 4 0) List.length_append.symm | simp) (.cons (row_app rfl) (.cons rfl (.cons e6 (.cons (by rfl) .nil)))))) hI (by kernel_rfl))))) (fun e5 h =>
 (jbrkD h hc1 fun hI => (Fin.seg [[(1, { d := some false })]] [] [4, 6, 9, 10] [(1, 0), (2, 0), (3, 0), (4, 0)] [(!put1) = false] (.cons e5 .nil) hI (by kernel_rfl)))))))
noncomputable def impl_CertApply_k6 : List Item := posI 2000 12 [false, false, false, true] [.code impl_CertApply_c]
noncomputable def impl_CertApply_S5 (s_ : TState) (own : TDone) (outBoxes : List TBox) (dones : List TDone) (v109 : Int) (put : Bool) : St := ⟨(bs 4 (.ptr 1 0 0 :: (bs 1 (.ptr 2 0 0 :: (bs 2 (.ptr 3 0 0 :: (.own 4 0 4 0 dones.length :: (.b put :: (bs 95 (vsl 4 eDone s_.Dones :: (vi (s_.Dones.length : Int) :: (vi v109 :: (bs 42 []))))))))))))), [some [], some [.var 48 [vi 0, .nil, .nil]], some [.var 48 [vi (w64 (s_.At + 1)), vsl 2 eBox outBoxes, .nil]], some [.var 76 [vi own.Req.Who, vi own.Req.Seq, vi own.Code, vi own.Val]], some [erow 76 4 eDone dones]]⟩
noncomputable def impl_CertApply_k7 : List Item := posI 2000 17 [false, false, false, true, true, true] [.code impl_CertApply_c]
noncomputable def impl_CertApply_S6 (s_ : TState) (own : TDone) (outBoxes : List TBox) (v109 : Int) (done2 : TDone) (dones3 : List TDone) (put2 : Bool) : St := ⟨(bs 4 (.ptr 1 0 0 :: (bs 1 (.ptr 2 0 0 :: (bs 2 (.ptr 3 0 0 :: (.own 4 0 4 0 dones3.length :: (.b put2 :: (bs 1 (.ptr 5 0 0 :: (bs 93 (vsl 4 eDone s_.Dones :: (vi (s_.Dones.length : Int) :: (vi v109 :: (bs 42 []))))))))))))))), [some [], some [.var 48 [vi 0, .nil, .nil]], some [.var 48 [vi (w64 (s_.At + 1)), vsl 2 eBox outBoxes, .nil]], some [.var 76 [vi own.Req.Who, vi own.Req.Seq, vi own.Code, vi own.Val]], some [erow 76 4 eDone dones3], some [.var 76 [vi done2.Req.Who, vi done2.Req.Seq, vi done2.Code, vi done2.Val]]]⟩
noncomputable def impl_CertApply_k8 : List Item := posI 2000 19 [false, false, false, true, true, true, true] [.code impl_CertApply_c]
noncomputable def impl_CertApply_S7 (s_ : TState) (own : TDone) (outBoxes : List TBox) (v109 : Int) (put2 : Bool) (dones4 : List TDone) : St := ⟨(bs 4 (.ptr 1 0 0 :: (bs 1 (.ptr 2 0 0 :: (bs 2 (.ptr 3 0 0 :: (.own 4 0 4 0 dones4.length :: (.b put2 :: (bs 95 (vsl 4 eDone s_.Dones :: (vi (s_.Dones.length : Int) :: (vi v109 :: (bs 42 []))))))))))))), [some [], some [.var 48 [vi 0, .nil, .nil]], some [.var 48 [vi (w64 (s_.At + 1)), vsl 2 eBox outBoxes, .nil]], some [.var 76 [vi own.Req.Who, vi own.Req.Seq, vi own.Code, vi own.Val]], some [erow 76 4 eDone dones4]]⟩
noncomputable def impl_CertApply_j2 (v109 : Int) (put2 : Bool) (dones4 : List TDone) : Option (Stp (TState × Int) ((List TDone) × Int × Bool) ((List TDone) × Bool)) :=
  some (Stp.nxt (dones4, w64 (v109 + 1), put2))
theorem impl_CertApply_j2_ok (s_ : TState) (own : TDone) (outBoxes : List TBox) (v109 : Int) (put2 : Bool) (res : V) (outs : List (Option V)) (x1 : Exc (TState × Int) ((List TDone) × Bool)) (hb1 : ∀ s : (List TDone) × Bool, x1 = .brk s → Fin cx impl_CertApply_X res outs impl_CertApply_k3 (impl_CertApply_S3 s_ own outBoxes s.1 s.2)) (hr1 : ∀ v : TState × Int, x1 = .ret v → (res = impl_CertApply_R v ∧ outs = impl_CertApply_O v)) (st1 : Stp (TState × Int) ((List TDone) × Int × Bool) ((List TDone) × Bool)) (hc1 : Cont x1 (fun s : (List TDone) × Int × Bool => Fin cx impl_CertApply_X res outs impl_CertApply_k6 (impl_CertApply_S5 s_ own outBoxes s.1 s.2.1 s.2.2)) st1) (dones4 : List TDone) (h : impl_CertApply_j2 v109 put2 dones4 = some st1) : Fin cx impl_CertApply_X res outs impl_CertApply_k8 (impl_CertApply_S7 s_ own outBoxes v109 put2 dones4) :=
  (nxtD h hc1 fun hI => (Fin.seg [[]] [] [4, 6, 9, 10, 11, 107, 108, 109] [(1, 0), (2, 0), (3, 0), (4, 0)] [] .nil hI (by kernel_rfl)))
noncomputable def impl_CertApply_j3 (own : TDone) (v109 : Int) (done2 : TDone) (dones3 : List TDone) (put2 : Bool) : Option (Stp (TState × Int) ((List TDone) × Int × Bool) ((List TDone) × Bool)) :=
  (((bif (done2.Req.Who != own.Req.Who) then
 (need ((dones3.length + 1) * 32 ≤ 140737488355328)
 (some (Exc.brk (dones3 ++ [done2]))))
 else
 some (Exc.brk dones3)) : Option (Exc (Stp (TState × Int) ((List TDone) × Int × Bool) ((List TDone) × Bool)) (List TDone))).bind fun x => x.go some fun j => impl_CertApply_j2 v109 put2 j)
theorem impl_CertApply_j3_ok (s_ : TState) (own : TDone) (outBoxes : List TBox) (v109 : Int) (done2 : TDone) (res : V) (outs : List (Option V)) (x1 : Exc (TState × Int) ((List TDone) × Bool)) (hb1 : ∀ s : (List TDone) × Bool, x1 = .brk s → Fin cx impl_CertApply_X res outs impl_CertApply_k3 (impl_CertApply_S3 s_ own outBoxes s.1 s.2)) (hr1 : ∀ v : TState × Int, x1 = .ret v → (res = impl_CertApply_R v ∧ outs = impl_CertApply_O v)) (st1 : Stp (TState × Int) ((List TDone) × Int × Bool) ((List TDone) × Bool)) (hc1 : Cont x1 (fun s : (List TDone) × Int × Bool => Fin cx impl_CertApply_X res outs impl_CertApply_k6 (impl_CertApply_S5 s_ own outBoxes s.1 s.2.1 s.2.2)) st1) (dones3 : List TDone) (put2 : Bool) (h : impl_CertApply_j3 own v109 done2 dones3 put2 = some st1) : Fin cx impl_CertApply_X res outs impl_CertApply_k7 (impl_CertApply_S6 s_ own outBoxes v109 done2 dones3 put2) :=
  (joinD (I := fun j : List TDone => Fin cx impl_CertApply_X res outs impl_CertApply_k8 (impl_CertApply_S7 s_ own outBoxes v109 put2 j)) h (fun j h => impl_CertApply_j2_ok s_ own outBoxes v109 put2 res outs x1 hb1 hr1 st1 hc1 j h) (fun x2 h hc2 =>
  (condD h (fun e8 h =>
 (needD h fun e9 h =>
 (jbrkD h hc2 fun hI => (Fin.seg [[(6, { d := some true })], [(2, { a := .ck [] }), (3, { v := some (.own 16 0 4 0 (dones3 ++ [done2]).length), e := some (erow 76 4 eDone (dones3 ++ [done2])) })]] [] [4, 6, 9, 10, 11, 107, 108, 109] [(1, 0), (2, 0), (3, 0), (16, 0)] [(done2.Req.Who != own.Req.Who) = true, V.own 16 0 4 0 (dones3.length + 1) = .own 16 0 4 0 (dones3 ++ [done2]).length, Ent.row 76 4 (dones3.length + 1) (dones3.map eDone ++ [eDone done2]) = erow 76 4 eDone (dones3 ++ [done2]), dones3.length = dones3.length, (dones3.length + 1) * 32 ≤ 140737488355328, 1 = [done2].length] (.cons e8 (.cons (by first | exact congrArg (V.own 16 0 4 0) List.length_append.symm | simp) (.cons (row_app rfl) (.cons rfl (.cons e9 (.cons (by rfl) .nil)))))) hI (by kernel_rfl))))) (fun e8 h =>
 (jbrkD h hc2 fun hI => (Fin.seg [[(6, { d := some false })]] [] [4, 6, 9, 10, 11, 107, 108, 109] [(1, 0), (2, 0), (3, 0), (4, 0)] [(done2.Req.Who != own.Req.Who) = false] (.cons e8 .nil) hI (by kernel_rfl)))))))
noncomputable def impl_CertApply_b1 (s_ : TState) (own : TDone) (dones : List TDone) (v109 : Int) (put : Bool) : Option (Stp (TState × Int) ((List TDone) × Int × Bool) ((List TDone) × Bool)) :=
  (bif decide (v109 < (s_.Dones.length : Int)) then
 ((idx s_.Dones v109).bind fun done2 =>
 (((bif (!put) then
 (bif decide (done2.Req.Who ≥ own.Req.Who) then
 (need ((dones.length + 1) * 32 ≤ 140737488355328)
 (some (Exc.brk (dones ++ [own], true))))
 else
 some (Exc.brk (dones, put)))
 else
 some (Exc.brk (dones, put))) : Option (Exc (Stp (TState × Int) ((List TDone) × Int × Bool) ((List TDone) × Bool)) ((List TDone) × Bool))).bind fun x => x.go some fun j => impl_CertApply_j3 own v109 done2 j.1 j.2))
 else
 some (Stp.brk (dones, put)))
theorem impl_CertApply_b1_ok (s_ : TState) (own : TDone) (outBoxes : List TBox) (res : V) (outs : List (Option V)) (x1 : Exc (TState × Int) ((List TDone) × Bool)) (hb1 : ∀ s : (List TDone) × Bool, x1 = .brk s → Fin cx impl_CertApply_X res outs impl_CertApply_k3 (impl_CertApply_S3 s_ own outBoxes s.1 s.2)) (hr1 : ∀ v : TState × Int, x1 = .ret v → (res = impl_CertApply_R v ∧ outs = impl_CertApply_O v)) (st1 : Stp (TState × Int) ((List TDone) × Int × Bool) ((List TDone) × Bool)) (hc1 : Cont x1 (fun s : (List TDone) × Int × Bool => Fin cx impl_CertApply_X res outs impl_CertApply_k6 (impl_CertApply_S5 s_ own outBoxes s.1 s.2.1 s.2.2)) st1) (dones : List TDone) (v109 : Int) (put : Bool) (h : impl_CertApply_b1 s_ own dones v109 put = some st1) : Fin cx impl_CertApply_X res outs impl_CertApply_k6 (impl_CertApply_S5 s_ own outBoxes dones v109 put) :=
  (condD h (fun e7 h =>
 (bindD h fun done2 hdone2 h =>
 (joinD (I := fun j : (List TDone) × Bool => Fin cx impl_CertApply_X res outs impl_CertApply_k7 (impl_CertApply_S6 s_ own outBoxes v109 done2 j.1 j.2)) h (fun j h => impl_CertApply_j3_ok s_ own outBoxes v109 done2 res outs x1 hb1 hr1 st1 hc1 j.1 j.2 h) (fun x2 h hc2 =>
  (condD h (fun e10 h =>
 (condD h (fun e11 h =>
 (needD h fun e12 h =>
 (jbrkD h hc2 fun hI => (Fin.seg [[(0, { d := some true })], [(0, { a := .row (eDone done2) })], [(2, { d := some true }), (10, { d := some true })], [(2, { a := .ck [] }), (3, { v := some (.own 24 0 4 0 (dones ++ [own]).length), e := some (erow 76 4 eDone (dones ++ [own])) })], []] [] [4, 6, 9, 10, 11, 13, 107, 108, 109] [(1, 0), (2, 0), (3, 0), (24, 0), (8, 0)] [decide (v109 < (s_.Dones.length : Int)) = true, (0 : Int) ≤ v109, v109 < ((s_.Dones.length : Nat) : Int), (s_.Dones.map eDone)[v109.toNat]? = some (eDone done2), (!put) = true, decide (done2.Req.Who ≥ own.Req.Who) = true, V.own 24 0 4 0 (dones.length + 1) = .own 24 0 4 0 (dones ++ [own]).length, Ent.row 76 4 (dones.length + 1) (dones.map eDone ++ [eDone own]) = erow 76 4 eDone (dones ++ [own]), dones.length = dones.length, (dones.length + 1) * 32 ≤ 140737488355328, 1 = [own].length] (.cons e7 (.cons (idx0 hdone2) (.cons (idx1 hdone2) (.cons (map_idx hdone2) (.cons e10 (.cons e11 (.cons (by first | exact congrArg (V.own 24 0 4 0) List.length_append.symm | simp) (.cons (row_app rfl) (.cons rfl (.cons e12 (.cons (by rfl) .nil))))))))))) hI (by kernel_rfl))))) (fun e11 h =>
 (jbrkD h hc2 fun hI => (Fin.seg [[(0, { d := some true })], [(0, { a := .row (eDone done2) })], [(2, { d := some true }), (10, { d := some false })]] [] [4, 6, 9, 10, 11, 13, 107, 108, 109] [(1, 0), (2, 0), (3, 0), (4, 0), (8, 0)] [decide (v109 < (s_.Dones.length : Int)) = true, (0 : Int) ≤ v109, v109 < ((s_.Dones.length : Nat) : Int), (s_.Dones.map eDone)[v109.toNat]? = some (eDone done2), (!put) = true, decide (done2.Req.Who ≥ own.Req.Who) = false] (.cons e7 (.cons (idx0 hdone2) (.cons (idx1 hdone2) (.cons (map_idx hdone2) (.cons e10 (.cons e11 .nil)))))) hI (by kernel_rfl)))))) (fun e10 h =>
 (jbrkD h hc2 fun hI => (Fin.seg [[(0, { d := some true })], [(0, { a := .row (eDone done2) })], [(2, { d := some false })]] [] [4, 6, 9, 10, 11, 13, 107, 108, 109] [(1, 0), (2, 0), (3, 0), (4, 0), (8, 0)] [decide (v109 < (s_.Dones.length : Int)) = true, (0 : Int) ≤ v109, v109 < ((s_.Dones.length : Nat) : Int), (s_.Dones.map eDone)[v109.toNat]? = some (eDone done2), (!put) = false] (.cons e7 (.cons (idx0 hdone2) (.cons (idx1 hdone2) (.cons (map_idx hdone2) (.cons e10 .nil))))) hI (by kernel_rfl))))))))) (fun e7 h =>
 (brkD h hc1 fun e => (Fin.seg [[(0, { d := some false })]] [] [4, 6, 9, 10, 11] [(1, 0), (2, 0), (3, 0), (4, 0)] [decide (v109 < (s_.Dones.length : Int)) = false] (.cons e7 .nil) (hb1 _ e) (by kernel_rfl)))))
theorem impl_CertApply_b1_loop (s_ : TState) (own : TDone) (outBoxes : List TBox) (res : V) (outs : List (Option V)) (x1 : Exc (TState × Int) ((List TDone) × Bool)) (hb1 : ∀ s : (List TDone) × Bool, x1 = .brk s → Fin cx impl_CertApply_X res outs impl_CertApply_k3 (impl_CertApply_S3 s_ own outBoxes s.1 s.2)) (hr1 : ∀ v : TState × Int, x1 = .ret v → (res = impl_CertApply_R v ∧ outs = impl_CertApply_O v)) (s : (List TDone) × Int × Bool) (h : loop (fun s : (List TDone) × Int × Bool => impl_CertApply_b1 s_ own s.1 s.2.1 s.2.2) s = some x1) : Fin cx impl_CertApply_X res outs impl_CertApply_k6 (impl_CertApply_S5 s_ own outBoxes s.1 s.2.1 s.2.2) :=
  loopD (I := fun s : (List TDone) × Int × Bool => Fin cx impl_CertApply_X res outs impl_CertApply_k6 (impl_CertApply_S5 s_ own outBoxes s.1 s.2.1 s.2.2)) h fun s st h hc => impl_CertApply_b1_ok s_ own outBoxes res outs x1 hb1 hr1 st hc s.1 s.2.1 s.2.2 h
noncomputable def impl_CertApply_j4 (s_ : TState) (own : TDone) (outBoxes : List TBox) : Option (TState × Int) :=
  ((loop (fun s : (List TDone) × Int × Bool => impl_CertApply_b1 s_ own s.1 s.2.1 s.2.2) ([], 0, false)).bind fun x => x.go (fun r => some r) fun s => impl_CertApply_k5 s_ own outBoxes s.1 s.2)
theorem impl_CertApply_j4_ok (s_ : TState) (r : TState × Int) (own : TDone) (outBoxes : List TBox) (h : impl_CertApply_j4 s_ own outBoxes = some r) : Fin cx impl_CertApply_X (impl_CertApply_R r) (impl_CertApply_O r) impl_CertApply_k2 (impl_CertApply_S2 s_ own outBoxes) :=
  (loopJ h fun x hl hr hb => (Fin.seg [[], [], []] [.own (.tmp 10) 76 4] [4, 6, 9, 10, 11, 107, 108, 109] [(2, 0), (3, 0), (4, 0), (11, 0)] [] .nil (impl_CertApply_b1_loop s_ own outBoxes _ _ x (fun s e => impl_CertApply_k5_ok s_ own outBoxes r s.1 s.2 (hb s e)) (fun v e => ⟨congrArg impl_CertApply_R (Option.some.inj (hr v e)).symm, congrArg impl_CertApply_O (Option.some.inj (hr v e)).symm⟩) ([], 0, false) hl) (by kernel_rfl)))
noncomputable def impl_CertApply_k9 (s_ : TState) (e_ : TEntry) (box : List TBox) : Option (TState × Int) :=
  ((((impl_ExecFresh s_.Boxes e_.Run).bind fun execFresh =>
 (bif (!execFresh) then
 some (Exc.brk ((TDone.mk e_.Req 1 0), box))
 else
 (bif (e_.Run.Code != 0) then
 some (Exc.brk ((TDone.mk e_.Req 2 0), box))
 else
 ((impl_ExecDo s_.Boxes e_.Run).bind fun execDo =>
 some (Exc.brk ((TDone.mk e_.Req 0 e_.Run.Val), execDo)))))) : Option (Exc (TState × Int) (TDone × List TBox))).bind fun x => x.go some fun j => impl_CertApply_j4 s_ j.1 j.2)
theorem impl_CertApply_k9_ok (s_ : TState) (e_ : TEntry) (box : List TBox) (r : TState × Int) (h : impl_CertApply_k9 s_ e_ box = some r) : Fin cx impl_CertApply_X (impl_CertApply_R r) (impl_CertApply_O r) impl_CertApply_k1 (impl_CertApply_S1 s_ e_ box) :=
  (joinD (I := fun j : TDone × List TBox => Fin cx impl_CertApply_X (impl_CertApply_R r) (impl_CertApply_O r) impl_CertApply_k2 (impl_CertApply_S2 s_ j.1 j.2)) h (fun j h => impl_CertApply_j4_ok s_ r j.1 j.2 h) (fun x1 h hc1 =>
  (bindD h fun execFresh hexecFresh h =>
 (condD h (fun e13 h =>
 (jbrkD h hc1 fun hI => (Fin.seg [[], [(4, { a := .call [.val [some 2] [], .val [some 2, some 2, none, none] []] false (impl_ExecFresh_R execFresh) (impl_ExecFresh_O execFresh) }), (6, { d := some true })], []] [.frz (.cell 4 0 1) (none)] [2, 4, 6, 9] [(1, 0), (3, 0), (4, 0), (9, 0)] [ACalls cx.P 50 [vsl 2 eBox s_.Boxes, .agg (eRun e_.Run)] (impl_ExecFresh_R execFresh) (impl_ExecFresh_O execFresh), (!execFresh) = true, box.length = box.length] (.cons (impl_ExecFresh_ok s_.Boxes e_.Run execFresh hexecFresh) (.cons e13 (.cons rfl .nil))) hI (by kernel_rfl)))) (fun e13 h =>
 (condD h (fun e14 h =>
 (jbrkD h hc1 fun hI => (Fin.seg [[], [(4, { a := .call [.val [some 2] [], .val [some 2, some 2, none, none] []] false (impl_ExecFresh_R execFresh) (impl_ExecFresh_O execFresh) }), (6, { d := some false })], [(4, { d := some true })], []] [.frz (.cell 4 0 1) (none)] [2, 4, 6, 9] [(1, 0), (3, 0), (4, 0), (9, 0)] [ACalls cx.P 50 [vsl 2 eBox s_.Boxes, .agg (eRun e_.Run)] (impl_ExecFresh_R execFresh) (impl_ExecFresh_O execFresh), (!execFresh) = false, (e_.Run.Code != 0) = true, box.length = box.length] (.cons (impl_ExecFresh_ok s_.Boxes e_.Run execFresh hexecFresh) (.cons e13 (.cons e14 (.cons rfl .nil)))) hI (by kernel_rfl)))) (fun e14 h =>
 (bindD h fun execDo hexecDo h =>
 (jbrkD h hc1 fun hI => (Fin.seg [[], [(4, { a := .call [.val [some 2] [], .val [some 2, some 2, none, none] []] false (impl_ExecFresh_R execFresh) (impl_ExecFresh_O execFresh) }), (6, { d := some false })], [(4, { d := some false })], [], [(4, { a := .call [.val [some 2] [], .val [some 2, some 2, none, none] []] false (impl_ExecDo_R execDo) (impl_ExecDo_O execDo) })]] [] [2, 4, 6, 9] [(1, 0), (3, 0), (4, 0), (9, 0)] [ACalls cx.P 50 [vsl 2 eBox s_.Boxes, .agg (eRun e_.Run)] (impl_ExecFresh_R execFresh) (impl_ExecFresh_O execFresh), (!execFresh) = false, (e_.Run.Code != 0) = false, ACalls cx.P 51 [vsl 2 eBox s_.Boxes, .agg (eRun e_.Run)] (impl_ExecDo_R execDo) (impl_ExecDo_O execDo)] (.cons (impl_ExecFresh_ok s_.Boxes e_.Run execFresh hexecFresh) (.cons e13 (.cons e14 (.cons (impl_ExecDo_ok s_.Boxes e_.Run execDo hexecDo) .nil)))) hI (by kernel_rfl)))))))))))
noncomputable def impl_CertApply_k10 : List Item := posI 2000 5 [false, false] [.code impl_CertApply_c]
noncomputable def impl_CertApply_S8 (s_ : TState) (e_ : TEntry) (box : List TBox) (v45 : Int) : St := ⟨(bs 2 (.ptr 1 0 0 :: (.ptr 2 0 0 :: (.ptr 3 0 0 :: (bs 1 (.ptr 4 0 0 :: (bs 36 (vsl 4 eDone s_.Dones :: (vi (s_.Dones.length : Int) :: (vi v45 :: (bs 106 []))))))))))), [some [], some [.var 48 [vi s_.At, vsl 2 eBox s_.Boxes, vsl 4 eDone s_.Dones]], some [.var 37 [.b e_.None, vi e_.Req.Who, vi e_.Req.Seq, vsl 2 eRead e_.Run.Reads, vsl 2 ePut e_.Run.Puts, vi e_.Run.Val, vi e_.Run.Code]], some [.var 48 [vi 0, .nil, .nil]], some [.var 48 [vi (w64 (s_.At + 1)), .own 5 0 2 0 box.length, .nil]], some [erow 54 2 eBox box]]⟩
noncomputable def impl_CertApply_k11 : List Item := posI 2000 8 [false, false, true, false] [.code impl_CertApply_c]
noncomputable def impl_CertApply_S9 (s_ : TState) (e_ : TEntry) (box : List TBox) (v45 : Int) : St := ⟨(bs 2 (.ptr 1 0 0 :: (.ptr 2 0 0 :: (.ptr 3 0 0 :: (bs 1 (.ptr 4 0 0 :: (bs 36 (vsl 4 eDone s_.Dones :: (vi (s_.Dones.length : Int) :: (vi v45 :: (bs 106 []))))))))))), [some [], some [.var 48 [vi s_.At, vsl 2 eBox s_.Boxes, vsl 4 eDone s_.Dones]], some [.var 37 [.b e_.None, vi e_.Req.Who, vi e_.Req.Seq, vsl 2 eRead e_.Run.Reads, vsl 2 ePut e_.Run.Puts, vi e_.Run.Val, vi e_.Run.Code]], some [.var 48 [vi 0, .nil, .nil]], some [.var 48 [vi (w64 (s_.At + 1)), .own 5 0 2 0 box.length, .nil]], some [erow 54 2 eBox box]]⟩
noncomputable def impl_CertApply_j5 (v45 : Int) : Option (Stp (TState × Int) Int Unit) :=
  some (Stp.nxt (w64 (v45 + 1)))
theorem impl_CertApply_j5_ok (s_ : TState) (e_ : TEntry) (box : List TBox) (v45 : Int) (res : V) (outs : List (Option V)) (x1 : Exc (TState × Int) Unit) (hb1 : ∀ s : Unit, x1 = .brk s → Fin cx impl_CertApply_X res outs impl_CertApply_k1 (impl_CertApply_S1 s_ e_ box)) (hr1 : ∀ v : TState × Int, x1 = .ret v → (res = impl_CertApply_R v ∧ outs = impl_CertApply_O v)) (st1 : Stp (TState × Int) Int Unit) (hc1 : Cont x1 (fun s : Int => Fin cx impl_CertApply_X res outs impl_CertApply_k10 (impl_CertApply_S8 s_ e_ box s)) st1) (h : impl_CertApply_j5 v45 = some st1) : Fin cx impl_CertApply_X res outs impl_CertApply_k11 (impl_CertApply_S9 s_ e_ box v45) :=
  (nxtD h hc1 fun hI => (Fin.seg [[]] [] [2, 3, 4, 6, 43, 44, 45] [(1, 0), (2, 0), (3, 0), (4, 0), (5, 0)] [] .nil hI (by kernel_rfl)))
noncomputable def impl_CertApply_b2 (s_ : TState) (e_ : TEntry) (box : List TBox) (v45 : Int) : Option (Stp (TState × Int) Int Unit) :=
  (bif decide (v45 < (s_.Dones.length : Int)) then
 ((idx s_.Dones v45).bind fun done3 =>
 (((bif (done3.Req.Who == e_.Req.Who) then
 (bif decide (done3.Req.Seq ≥ e_.Req.Seq) then
 ((impl_copied_Done s_.Dones).bind fun done4 =>
 (bif (done3.Req.Seq == e_.Req.Seq) then
 some (Exc.ret (Stp.ret ((TState.mk (w64 (s_.At + 1)) box done4), 3)))
 else
 some (Exc.ret (Stp.ret ((TState.mk (w64 (s_.At + 1)) box done4), 4)))))
 else
 some (Exc.brk ()))
 else
 some (Exc.brk ())) : Option (Exc (Stp (TState × Int) Int Unit) Unit)).bind fun x => x.go some fun j => impl_CertApply_j5 v45))
 else
 some (Stp.brk ()))
theorem impl_CertApply_b2_ok (s_ : TState) (e_ : TEntry) (box : List TBox) (res : V) (outs : List (Option V)) (x1 : Exc (TState × Int) Unit) (hb1 : ∀ s : Unit, x1 = .brk s → Fin cx impl_CertApply_X res outs impl_CertApply_k1 (impl_CertApply_S1 s_ e_ box)) (hr1 : ∀ v : TState × Int, x1 = .ret v → (res = impl_CertApply_R v ∧ outs = impl_CertApply_O v)) (st1 : Stp (TState × Int) Int Unit) (hc1 : Cont x1 (fun s : Int => Fin cx impl_CertApply_X res outs impl_CertApply_k10 (impl_CertApply_S8 s_ e_ box s)) st1) (v45 : Int) (h : impl_CertApply_b2 s_ e_ box v45 = some st1) : Fin cx impl_CertApply_X res outs impl_CertApply_k10 (impl_CertApply_S8 s_ e_ box v45) :=
  (condD h (fun e15 h =>
 (bindD h fun done3 hdone3 h =>
 (joinD (I := fun j : Unit => Fin cx impl_CertApply_X res outs impl_CertApply_k11 (impl_CertApply_S9 s_ e_ box v45)) h (fun j h => impl_CertApply_j5_ok s_ e_ box v45 res outs x1 hb1 hr1 st1 hc1 h) (fun x2 h hc2 =>
  (condD h (fun e16 h =>
 (condD h (fun e17 h =>
 (bindD h fun done4 hdone4 h =>
 (condD h (fun e18 h =>
 (jretD h hc2 fun h => (retD h hc1 fun e => (Fin.fin (cx := cx) (X := impl_CertApply_X) (res := impl_CertApply_R ((TState.mk (w64 (s_.At + 1)) box done4), 3)) (outs := impl_CertApply_O ((TState.mk (w64 (s_.At + 1)) box done4), 3)) Try.func28 [[(0, { d := some true })], [(0, { a := .row (eDone done3) })], [(7, { d := some true }), (15, { d := some true })], [(2, { a := .call [.val [some 4] []] false (impl_copied_Done_R done4) (impl_copied_Done_O done4) })], [(6, { d := some true })], []] [decide (v45 < (s_.Dones.length : Int)) = true, (0 : Int) ≤ v45, v45 < ((s_.Dones.length : Nat) : Int), (s_.Dones.map eDone)[v45.toNat]? = some (eDone done3), (done3.Req.Who == e_.Req.Who) = true, decide (done3.Req.Seq ≥ e_.Req.Seq) = true, ACalls cx.P 49 [vsl 4 eDone s_.Dones] (impl_copied_Done_R done4) (impl_copied_Done_O done4), (done3.Req.Seq == e_.Req.Seq) = true, box.length = box.length] (.cons e15 (.cons (idx0 hdone3) (.cons (idx1 hdone3) (.cons (map_idx hdone3) (.cons e16 (.cons e17 (.cons (impl_copied_Done_ok s_.Dones done4 hdone4) (.cons e18 (.cons rfl .nil))))))))) (by kernel_rfl)).is (hr1 _ e).1 (hr1 _ e).2))) (fun e18 h =>
 (jretD h hc2 fun h => (retD h hc1 fun e => (Fin.fin (cx := cx) (X := impl_CertApply_X) (res := impl_CertApply_R ((TState.mk (w64 (s_.At + 1)) box done4), 4)) (outs := impl_CertApply_O ((TState.mk (w64 (s_.At + 1)) box done4), 4)) Try.func28 [[(0, { d := some true })], [(0, { a := .row (eDone done3) })], [(7, { d := some true }), (15, { d := some true })], [(2, { a := .call [.val [some 4] []] false (impl_copied_Done_R done4) (impl_copied_Done_O done4) })], [(6, { d := some false })], []] [decide (v45 < (s_.Dones.length : Int)) = true, (0 : Int) ≤ v45, v45 < ((s_.Dones.length : Nat) : Int), (s_.Dones.map eDone)[v45.toNat]? = some (eDone done3), (done3.Req.Who == e_.Req.Who) = true, decide (done3.Req.Seq ≥ e_.Req.Seq) = true, ACalls cx.P 49 [vsl 4 eDone s_.Dones] (impl_copied_Done_R done4) (impl_copied_Done_O done4), (done3.Req.Seq == e_.Req.Seq) = false, box.length = box.length] (.cons e15 (.cons (idx0 hdone3) (.cons (idx1 hdone3) (.cons (map_idx hdone3) (.cons e16 (.cons e17 (.cons (impl_copied_Done_ok s_.Dones done4 hdone4) (.cons e18 (.cons rfl .nil))))))))) (by kernel_rfl)).is (hr1 _ e).1 (hr1 _ e).2)))))) (fun e17 h =>
 (jbrkD h hc2 fun hI => (Fin.seg [[(0, { d := some true })], [(0, { a := .row (eDone done3) })], [(7, { d := some true }), (15, { d := some false })]] [] [2, 3, 4, 6, 43, 44, 45] [(1, 0), (2, 0), (3, 0), (4, 0), (5, 0)] [decide (v45 < (s_.Dones.length : Int)) = true, (0 : Int) ≤ v45, v45 < ((s_.Dones.length : Nat) : Int), (s_.Dones.map eDone)[v45.toNat]? = some (eDone done3), (done3.Req.Who == e_.Req.Who) = true, decide (done3.Req.Seq ≥ e_.Req.Seq) = false] (.cons e15 (.cons (idx0 hdone3) (.cons (idx1 hdone3) (.cons (map_idx hdone3) (.cons e16 (.cons e17 .nil)))))) hI (by kernel_rfl)))))) (fun e16 h =>
 (jbrkD h hc2 fun hI => (Fin.seg [[(0, { d := some true })], [(0, { a := .row (eDone done3) })], [(7, { d := some false })]] [] [2, 3, 4, 6, 43, 44, 45] [(1, 0), (2, 0), (3, 0), (4, 0), (5, 0)] [decide (v45 < (s_.Dones.length : Int)) = true, (0 : Int) ≤ v45, v45 < ((s_.Dones.length : Nat) : Int), (s_.Dones.map eDone)[v45.toNat]? = some (eDone done3), (done3.Req.Who == e_.Req.Who) = false] (.cons e15 (.cons (idx0 hdone3) (.cons (idx1 hdone3) (.cons (map_idx hdone3) (.cons e16 .nil))))) hI (by kernel_rfl))))))))) (fun e15 h =>
 (brkD h hc1 fun e => (Fin.seg [[(0, { d := some false })]] [] [2, 3, 4, 6] [(1, 0), (2, 0), (3, 0), (4, 0), (5, 0)] [decide (v45 < (s_.Dones.length : Int)) = false] (.cons e15 .nil) (hb1 _ e) (by kernel_rfl)))))
theorem impl_CertApply_b2_loop (s_ : TState) (e_ : TEntry) (box : List TBox) (res : V) (outs : List (Option V)) (x1 : Exc (TState × Int) Unit) (hb1 : ∀ s : Unit, x1 = .brk s → Fin cx impl_CertApply_X res outs impl_CertApply_k1 (impl_CertApply_S1 s_ e_ box)) (hr1 : ∀ v : TState × Int, x1 = .ret v → (res = impl_CertApply_R v ∧ outs = impl_CertApply_O v)) (s : Int) (h : loop (fun s : Int => impl_CertApply_b2 s_ e_ box s) s = some x1) : Fin cx impl_CertApply_X res outs impl_CertApply_k10 (impl_CertApply_S8 s_ e_ box s) :=
  loopD (I := fun s : Int => Fin cx impl_CertApply_X res outs impl_CertApply_k10 (impl_CertApply_S8 s_ e_ box s)) h fun s st h hc => impl_CertApply_b2_ok s_ e_ box res outs x1 hb1 hr1 st hc s h
noncomputable def impl_CertApply (s_ : TState) (e_ : TEntry) : Option (TState × Int) :=
  ((impl_CertOk s_).bind fun certOk =>
 (bif (!certOk) then
 some ((TState.mk 0 [] []), (-1))
 else
 ((impl_CertEntry e_).bind fun certEntry =>
 (bif (!certEntry) then
 some ((TState.mk 0 [] []), (-1))
 else
 (bif (s_.At == 40) then
 some ((TState.mk 0 [] []), (-1))
 else
 ((impl_copied_Box s_.Boxes).bind fun box =>
 (bif e_.None then
 ((impl_copied_Done s_.Dones).bind fun done =>
 some ((TState.mk (w64 (s_.At + 1)) box done), 5))
 else
 ((loop (fun s : Int => impl_CertApply_b2 s_ e_ box s) 0).bind fun x => x.go (fun r => some r) fun s => impl_CertApply_k9 s_ e_ box))))))))
theorem impl_CertApply_fin (s_ : TState) (e_ : TEntry) (r : TState × Int) (h : impl_CertApply s_ e_ = some r) : Fin cx impl_CertApply_X (impl_CertApply_R r) (impl_CertApply_O r) [.code impl_CertApply_c] (startS impl_CertApply_X [.agg (eState s_), .agg (eEntry e_)]) :=
  (bindD h fun certOk hcertOk h =>
 (condD h (fun e1 h =>
 (someD h fun e => (Fin.fin (cx := cx) (X := impl_CertApply_X) (res := impl_CertApply_R ((TState.mk 0 [] []), (-1))) (outs := impl_CertApply_O ((TState.mk 0 [] []), (-1))) Try.func28 [[], [(1, { a := .call [.val [none, some 2, some 4] []] false (impl_CertOk_R certOk) (impl_CertOk_O certOk) }), (3, { d := some true })], []] [ACalls cx.P 47 [.agg (eState s_)] (impl_CertOk_R certOk) (impl_CertOk_O certOk), (!certOk) = true] (.cons (impl_CertOk_ok s_ certOk hcertOk) (.cons e1 .nil)) (by kernel_rfl)).is (congrArg impl_CertApply_R e) (congrArg impl_CertApply_O e))) (fun e1 h =>
 (bindD h fun certEntry hcertEntry h =>
 (condD h (fun e2 h =>
 (someD h fun e => (Fin.fin (cx := cx) (X := impl_CertApply_X) (res := impl_CertApply_R ((TState.mk 0 [] []), (-1))) (outs := impl_CertApply_O ((TState.mk 0 [] []), (-1))) Try.func28 [[], [(1, { a := .call [.val [none, some 2, some 4] []] false (impl_CertOk_R certOk) (impl_CertOk_O certOk) }), (3, { d := some false }), (5, { a := .call [.val [none, none, none, some 2, some 2, none, none] []] false (impl_CertEntry_R certEntry) (impl_CertEntry_O certEntry) }), (8, { d := some true })], []] [ACalls cx.P 47 [.agg (eState s_)] (impl_CertOk_R certOk) (impl_CertOk_O certOk), (!certOk) = false, ACalls cx.P 26 [.agg (eEntry e_)] (impl_CertEntry_R certEntry) (impl_CertEntry_O certEntry), (!certEntry) = true] (.cons (impl_CertOk_ok s_ certOk hcertOk) (.cons e1 (.cons (impl_CertEntry_ok e_ certEntry hcertEntry) (.cons e2 .nil)))) (by kernel_rfl)).is (congrArg impl_CertApply_R e) (congrArg impl_CertApply_O e))) (fun e2 h =>
 (condD h (fun e3 h =>
 (someD h fun e => (Fin.fin (cx := cx) (X := impl_CertApply_X) (res := impl_CertApply_R ((TState.mk 0 [] []), (-1))) (outs := impl_CertApply_O ((TState.mk 0 [] []), (-1))) Try.func28 [[], [(1, { a := .call [.val [none, some 2, some 4] []] false (impl_CertOk_R certOk) (impl_CertOk_O certOk) }), (3, { d := some false }), (5, { a := .call [.val [none, none, none, some 2, some 2, none, none] []] false (impl_CertEntry_R certEntry) (impl_CertEntry_O certEntry) }), (8, { d := some false }), (12, { d := some true })], []] [ACalls cx.P 47 [.agg (eState s_)] (impl_CertOk_R certOk) (impl_CertOk_O certOk), (!certOk) = false, ACalls cx.P 26 [.agg (eEntry e_)] (impl_CertEntry_R certEntry) (impl_CertEntry_O certEntry), (!certEntry) = false, (s_.At == 40) = true] (.cons (impl_CertOk_ok s_ certOk hcertOk) (.cons e1 (.cons (impl_CertEntry_ok e_ certEntry hcertEntry) (.cons e2 (.cons e3 .nil))))) (by kernel_rfl)).is (congrArg impl_CertApply_R e) (congrArg impl_CertApply_O e))) (fun e3 h =>
 (bindD h fun box hbox h =>
 (condD h (fun e4 h =>
 (bindD h fun done hdone h =>
 (someD h fun e => (Fin.fin (cx := cx) (X := impl_CertApply_X) (res := impl_CertApply_R ((TState.mk (w64 (s_.At + 1)) box done), 5)) (outs := impl_CertApply_O ((TState.mk (w64 (s_.At + 1)) box done), 5)) Try.func28 [[], [(1, { a := .call [.val [none, some 2, some 4] []] false (impl_CertOk_R certOk) (impl_CertOk_O certOk) }), (3, { d := some false }), (5, { a := .call [.val [none, none, none, some 2, some 2, none, none] []] false (impl_CertEntry_R certEntry) (impl_CertEntry_O certEntry) }), (8, { d := some false }), (12, { d := some false })], [(5, { a := .call [.val [some 2] []] false (impl_copied_Box_R box) (impl_copied_Box_O box) })], [(1, { d := some true })], [(2, { a := .call [.val [some 4] []] false (impl_copied_Done_R done) (impl_copied_Done_O done) })], []] [ACalls cx.P 47 [.agg (eState s_)] (impl_CertOk_R certOk) (impl_CertOk_O certOk), (!certOk) = false, ACalls cx.P 26 [.agg (eEntry e_)] (impl_CertEntry_R certEntry) (impl_CertEntry_O certEntry), (!certEntry) = false, (s_.At == 40) = false, ACalls cx.P 48 [vsl 2 eBox s_.Boxes] (impl_copied_Box_R box) (impl_copied_Box_O box), e_.None = true, ACalls cx.P 49 [vsl 4 eDone s_.Dones] (impl_copied_Done_R done) (impl_copied_Done_O done), box.length = box.length] (.cons (impl_CertOk_ok s_ certOk hcertOk) (.cons e1 (.cons (impl_CertEntry_ok e_ certEntry hcertEntry) (.cons e2 (.cons e3 (.cons (impl_copied_Box_ok s_.Boxes box hbox) (.cons e4 (.cons (impl_copied_Done_ok s_.Dones done hdone) (.cons rfl .nil))))))))) (by kernel_rfl)).is (congrArg impl_CertApply_R e) (congrArg impl_CertApply_O e)))) (fun e4 h =>
 (loopJ h fun x hl hr hb => (Fin.seg [[], [(1, { a := .call [.val [none, some 2, some 4] []] false (impl_CertOk_R certOk) (impl_CertOk_O certOk) }), (3, { d := some false }), (5, { a := .call [.val [none, none, none, some 2, some 2, none, none] []] false (impl_CertEntry_R certEntry) (impl_CertEntry_O certEntry) }), (8, { d := some false }), (12, { d := some false })], [(5, { a := .call [.val [some 2] []] false (impl_copied_Box_R box) (impl_copied_Box_O box) })], [(1, { d := some false })], []] [] [2, 3, 4, 6, 43, 44, 45] [(1, 0), (2, 0), (3, 0), (25, 0), (23, 0)] [ACalls cx.P 47 [.agg (eState s_)] (impl_CertOk_R certOk) (impl_CertOk_O certOk), (!certOk) = false, ACalls cx.P 26 [.agg (eEntry e_)] (impl_CertEntry_R certEntry) (impl_CertEntry_O certEntry), (!certEntry) = false, (s_.At == 40) = false, ACalls cx.P 48 [vsl 2 eBox s_.Boxes] (impl_copied_Box_R box) (impl_copied_Box_O box), e_.None = false] (.cons (impl_CertOk_ok s_ certOk hcertOk) (.cons e1 (.cons (impl_CertEntry_ok e_ certEntry hcertEntry) (.cons e2 (.cons e3 (.cons (impl_copied_Box_ok s_.Boxes box hbox) (.cons e4 .nil))))))) (impl_CertApply_b2_loop s_ e_ box _ _ x (fun s e => impl_CertApply_k9_ok s_ e_ box r (hb s e)) (fun v e => ⟨congrArg impl_CertApply_R (Option.some.inj (hr v e)).symm, congrArg impl_CertApply_O (Option.some.inj (hr v e)).symm⟩) 0 hl) (by kernel_rfl))))))))))))))
theorem impl_CertApply_ok (s_ : TState) (e_ : TEntry) (r : TState × Int) (h : impl_CertApply s_ e_ = some r) : ACalls cx.P 28 [.agg (eState s_), .agg (eEntry e_)] (impl_CertApply_R r) (impl_CertApply_O r) :=
  ACalls.of (cx := cx) (X := impl_CertApply_X) (c := impl_CertApply_c) Try.func28 (by kernel_rfl) (by kernel_rfl) (by kernel_rfl) (impl_CertApply_fin s_ e_ r h)

/-! ### impl_folded -/
noncomputable def impl_folded_c : Code := bodyOf Try.f14
noncomputable def impl_folded_X : Sig := { f := 14, fn := Try.f14, rms := [.val [none, some 2, some 4] [], .val [some 1] []], oms := [none] }
noncomputable def impl_folded_R (r : TState × List Int) : V := .tup [.agg (eState r.1), vsl 1 eI r.2]
noncomputable def impl_folded_O (r : TState × List Int) : List (Option V) := [none]
noncomputable def impl_folded_k1 : List Item := posI 2000 5 [false] [.code impl_folded_c]
noncomputable def impl_folded_S1 (s_1 : TState) (codes1 : List Int) : St := ⟨(bs 2 (.ptr 1 0 0 :: (bs 1 (.ptr 2 0 0 :: (.own 3 0 1 0 codes1.length :: (bs 25 [])))))), [some [], some [.var 48 [vi 0, .nil, .nil]], some [.var 48 [vi s_1.At, vsl 2 eBox s_1.Boxes, vsl 4 eDone s_1.Dones]], some [erow 3 1 eI codes1]]⟩
noncomputable def impl_folded_k2 (s_1 : TState) (codes1 : List Int) : Option (TState × List Int) :=
  some (s_1, codes1)
theorem impl_folded_k2_ok (r : TState × List Int) (s_1 : TState) (codes1 : List Int) (h : impl_folded_k2 s_1 codes1 = some r) : Fin cx impl_folded_X (impl_folded_R r) (impl_folded_O r) impl_folded_k1 (impl_folded_S1 s_1 codes1) :=
  (someD h fun e => (Fin.fin (cx := cx) (X := impl_folded_X) (res := impl_folded_R (s_1, codes1)) (outs := impl_folded_O (s_1, codes1)) Try.func14 [[]] [codes1.length = codes1.length] (.cons rfl .nil) (by kernel_rfl)).is (congrArg impl_folded_R e) (congrArg impl_folded_O e))
noncomputable def impl_folded_k3 : List Item := posI 2000 4 [] [.code impl_folded_c]
noncomputable def impl_folded_S2 (list : List TEntry) (s_ : TState) (codes : List Int) (v13 : Int) : St := ⟨(bs 2 (.ptr 1 0 0 :: (bs 1 (.ptr 2 0 0 :: (.own 3 0 1 0 codes.length :: (bs 5 (vsl 7 eEntry list :: (vi (list.length : Int) :: (vi v13 :: (bs 17 [])))))))))), [some [], some [.var 48 [vi 0, .nil, .nil]], some [.var 48 [vi s_.At, vsl 2 eBox s_.Boxes, vsl 4 eDone s_.Dones]], some [erow 3 1 eI codes]]⟩
noncomputable def impl_folded_b1 (list : List TEntry) (s_ : TState) (codes : List Int) (v13 : Int) : Option (Stp (TState × List Int) (TState × (List Int) × Int) (TState × List Int)) :=
  (bif decide (v13 < (list.length : Int)) then
 ((idx list v13).bind fun entry =>
 ((impl_CertApply s_ entry).bind fun certApply =>
 (need ((codes.length + 1) * 8 ≤ 140737488355328)
 (some (Stp.nxt (certApply.1, codes ++ [certApply.2], w64 (v13 + 1)))))))
 else
 some (Stp.brk (s_, codes)))
theorem impl_folded_b1_ok (list : List TEntry) (res : V) (outs : List (Option V)) (x1 : Exc (TState × List Int) (TState × List Int)) (hb1 : ∀ s : TState × List Int, x1 = .brk s → Fin cx impl_folded_X res outs impl_folded_k1 (impl_folded_S1 s.1 s.2)) (hr1 : ∀ v : TState × List Int, x1 = .ret v → (res = impl_folded_R v ∧ outs = impl_folded_O v)) (st1 : Stp (TState × List Int) (TState × (List Int) × Int) (TState × List Int)) (hc1 : Cont x1 (fun s : TState × (List Int) × Int => Fin cx impl_folded_X res outs impl_folded_k3 (impl_folded_S2 list s.1 s.2.1 s.2.2)) st1) (s_ : TState) (codes : List Int) (v13 : Int) (h : impl_folded_b1 list s_ codes v13 = some st1) : Fin cx impl_folded_X res outs impl_folded_k3 (impl_folded_S2 list s_ codes v13) :=
  (condD h (fun e1 h =>
 (bindD h fun entry hentry h =>
 (bindD h fun certApply hcertApply h =>
 (needD h fun e2 h =>
 (nxtD h hc1 fun hI => (Fin.seg [[(0, { d := some true })], [(0, { a := .row (eEntry entry) })], [(2, { a := .call [.val [none, some 2, some 4] [], .val [none, none, none, some 2, some 2, none, none] []] false (impl_CertApply_R certApply) (impl_CertApply_O certApply) })], [], [(2, { a := .ck [] }), (3, { v := some (.own 23 0 1 0 (codes ++ [certApply.2]).length), e := some (erow 3 1 eI (codes ++ [certApply.2])) })], []] [] [2, 4, 5, 11, 12, 13] [(1, 0), (2, 0), (23, 0)] [decide (v13 < (list.length : Int)) = true, (0 : Int) ≤ v13, v13 < ((list.length : Nat) : Int), (list.map eEntry)[v13.toNat]? = some (eEntry entry), ACalls cx.P 28 [.agg (eState s_), .agg (eEntry entry)] (impl_CertApply_R certApply) (impl_CertApply_O certApply), V.own 23 0 1 0 (codes.length + 1) = .own 23 0 1 0 (codes ++ [certApply.2]).length, Ent.row 3 1 (codes.length + 1) (codes.map eI ++ [eI certApply.2]) = erow 3 1 eI (codes ++ [certApply.2]), codes.length = codes.length, (codes.length + 1) * 8 ≤ 140737488355328, 1 = [certApply.2].length] (.cons e1 (.cons (idx0 hentry) (.cons (idx1 hentry) (.cons (map_idx hentry) (.cons (impl_CertApply_ok s_ entry certApply hcertApply) (.cons (by first | exact congrArg (V.own 23 0 1 0) List.length_append.symm | simp) (.cons (row_app rfl) (.cons rfl (.cons e2 (.cons (by rfl) .nil)))))))))) hI (by kernel_rfl))))))) (fun e1 h =>
 (brkD h hc1 fun e => (Fin.seg [[(0, { d := some false })]] [] [2, 4, 5] [(1, 0), (2, 0), (3, 0)] [decide (v13 < (list.length : Int)) = false] (.cons e1 .nil) (hb1 _ e) (by kernel_rfl)))))
theorem impl_folded_b1_loop (list : List TEntry) (res : V) (outs : List (Option V)) (x1 : Exc (TState × List Int) (TState × List Int)) (hb1 : ∀ s : TState × List Int, x1 = .brk s → Fin cx impl_folded_X res outs impl_folded_k1 (impl_folded_S1 s.1 s.2)) (hr1 : ∀ v : TState × List Int, x1 = .ret v → (res = impl_folded_R v ∧ outs = impl_folded_O v)) (s : TState × (List Int) × Int) (h : loop (fun s : TState × (List Int) × Int => impl_folded_b1 list s.1 s.2.1 s.2.2) s = some x1) : Fin cx impl_folded_X res outs impl_folded_k3 (impl_folded_S2 list s.1 s.2.1 s.2.2) :=
  loopD (I := fun s : TState × (List Int) × Int => Fin cx impl_folded_X res outs impl_folded_k3 (impl_folded_S2 list s.1 s.2.1 s.2.2)) h fun s st h hc => impl_folded_b1_ok list res outs x1 hb1 hr1 st hc s.1 s.2.1 s.2.2 h
noncomputable def impl_folded (list : List TEntry) : Option (TState × List Int) :=
  ((impl_CertOpen).bind fun certOpen =>
 ((loop (fun s : TState × (List Int) × Int => impl_folded_b1 list s.1 s.2.1 s.2.2) (certOpen, [], 0)).bind fun x => x.go (fun r => some r) fun s => impl_folded_k2 s.1 s.2))
theorem impl_folded_fin (list : List TEntry) (r : TState × List Int) (h : impl_folded list = some r) : Fin cx impl_folded_X (impl_folded_R r) (impl_folded_O r) [.code impl_folded_c] (startS impl_folded_X [vsl 7 eEntry list]) :=
  (bindD h fun certOpen hcertOpen h =>
 (loopJ h fun x hl hr hb => (Fin.seg [[], [(0, { a := .call [] false (impl_CertOpen_R certOpen) (impl_CertOpen_O certOpen) })], [], []] [.own (.tmp 5) 3 1] [2, 4, 5, 11, 12, 13] [(1, 0), (4, 0), (10, 0)] [ACalls cx.P 27 [] (impl_CertOpen_R certOpen) (impl_CertOpen_O certOpen)] (.cons (impl_CertOpen_ok certOpen hcertOpen) .nil) (impl_folded_b1_loop list _ _ x (fun s e => impl_folded_k2_ok r s.1 s.2 (hb s e)) (fun v e => ⟨congrArg impl_folded_R (Option.some.inj (hr v e)).symm, congrArg impl_folded_O (Option.some.inj (hr v e)).symm⟩) (certOpen, [], 0) hl) (by kernel_rfl))))
theorem impl_folded_ok (list : List TEntry) (r : TState × List Int) (h : impl_folded list = some r) : ACalls cx.P 14 [vsl 7 eEntry list] (impl_folded_R r) (impl_folded_O r) :=
  ACalls.of (cx := cx) (X := impl_folded_X) (c := impl_folded_c) Try.func14 (by kernel_rfl) (by kernel_rfl) (by kernel_rfl) (impl_folded_fin list r h)

/-! ### impl_HistCounts -/
noncomputable def impl_HistCounts_c : Code := bodyOf Try.f5
noncomputable def impl_HistCounts_X : Sig := { f := 5, fn := Try.f5, rms := [.val [some 1] []], oms := [none] }
noncomputable def impl_HistCounts_R (r : List Int) : V := vsl 1 eI r
noncomputable def impl_HistCounts_O (r : List Int) : List (Option V) := [none]
noncomputable def impl_HistCounts_k1 : List Item := posI 2000 6 [false, false] [.code impl_HistCounts_c]
noncomputable def impl_HistCounts_S1 (out1 : List Int) : St := ⟨(bs 3 (.own 1 0 1 0 out1.length :: (bs 28 []))), [some [], some [erow 3 1 eI out1]]⟩
noncomputable def impl_HistCounts_k2 (out1 : List Int) : Option (List Int) :=
  some out1
theorem impl_HistCounts_k2_ok (r : List Int) (out1 : List Int) (h : impl_HistCounts_k2 out1 = some r) : Fin cx impl_HistCounts_X (impl_HistCounts_R r) (impl_HistCounts_O r) impl_HistCounts_k1 (impl_HistCounts_S1 out1) :=
  (someD h fun e => (Fin.fin (cx := cx) (X := impl_HistCounts_X) (res := impl_HistCounts_R out1) (outs := impl_HistCounts_O out1) Try.func5 [[]] [out1.length = out1.length] (.cons rfl .nil) (by kernel_rfl)).is (congrArg impl_HistCounts_R e) (congrArg impl_HistCounts_O e))
noncomputable def impl_HistCounts_k3 : List Item := posI 2000 5 [false] [.code impl_HistCounts_c]
noncomputable def impl_HistCounts_S2 (folded : TState × List Int) (out : List Int) (v20 : Int) : St := ⟨(bs 3 (.own 1 0 1 0 out.length :: (bs 14 (vsl 1 eI folded.2 :: (vi (folded.2.length : Int) :: (vi v20 :: (bs 11 []))))))), [some [], some [erow 3 1 eI out]]⟩
noncomputable def impl_HistCounts_b1 (folded : TState × List Int) (out : List Int) (v20 : Int) : Option (Stp (List Int) ((List Int) × Int) (List Int)) :=
  (bif decide (v20 < (folded.2.length : Int)) then
 ((idx folded.2 v20).bind fun y =>
 ((idx out y).bind fun y1 =>
 some (Stp.nxt (out.set y.toNat (w64 (y1 + 1)), w64 (v20 + 1)))))
 else
 some (Stp.brk out))
theorem impl_HistCounts_b1_ok (folded : TState × List Int) (res : V) (outs : List (Option V)) (x1 : Exc (List Int) (List Int)) (hb1 : ∀ s : List Int, x1 = .brk s → Fin cx impl_HistCounts_X res outs impl_HistCounts_k1 (impl_HistCounts_S1 s)) (hr1 : ∀ v : List Int, x1 = .ret v → (res = impl_HistCounts_R v ∧ outs = impl_HistCounts_O v)) (st1 : Stp (List Int) ((List Int) × Int) (List Int)) (hc1 : Cont x1 (fun s : (List Int) × Int => Fin cx impl_HistCounts_X res outs impl_HistCounts_k3 (impl_HistCounts_S2 folded s.1 s.2)) st1) (out : List Int) (v20 : Int) (h : impl_HistCounts_b1 folded out v20 = some st1) : Fin cx impl_HistCounts_X res outs impl_HistCounts_k3 (impl_HistCounts_S2 folded out v20) :=
  (condD h (fun e3 h =>
 (bindD h fun y hy h =>
 (bindD h fun y1 hy1 h =>
 (nxtD h hc1 fun hI => (Fin.seg [[(0, { d := some true })], [(0, { a := .row (eI y) })], [(3, { a := .row (eI y1) }), (6, { a := .rowck (eI y1) [], e := some (erow 3 1 eI (out.set y.toNat (w64 (y1 + 1)))) })], []] [.is (.tmp 3) (.own 1 0 1 0 (out.set y.toNat (w64 (y1 + 1))).length)] [3, 18, 19, 20] [(1, 0)] [decide (v20 < (folded.2.length : Int)) = true, (0 : Int) ≤ v20, v20 < ((folded.2.length : Nat) : Int), (folded.2.map eI)[v20.toNat]? = some (eI y), (0 : Int) ≤ y, y < ((out.length : Nat) : Int), (out.map eI)[0 + y.toNat]? = some (eI y1), (0 : Int) ≤ y, y < ((out.length : Nat) : Int), Ent.row 3 1 out.length ((out.map eI).set (0 + y.toNat) [vi (w64 (y1 + 1))]) = erow 3 1 eI (out.set y.toNat (w64 (y1 + 1))), (out.map eI)[0 + y.toNat]? = some (eI y1), (.own 1 0 1 0 out.length : V) = .own 1 0 1 0 (out.set y.toNat (w64 (y1 + 1))).length] (.cons e3 (.cons (idx0 hy) (.cons (idx1 hy) (.cons (map_idx hy) (.cons (idx0 hy1) (.cons (idx1 hy1) (.cons (map_idx0 hy1) (.cons (idx0 hy1) (.cons (idx1 hy1) (.cons (row_set rfl) (.cons (map_idx0 hy1) (.cons (by simp) .nil)))))))))))) hI (by kernel_rfl)))))) (fun e3 h =>
 (brkD h hc1 fun e => (Fin.seg [[(0, { d := some false })]] [] [3] [(1, 0)] [decide (v20 < (folded.2.length : Int)) = false] (.cons e3 .nil) (hb1 _ e) (by kernel_rfl)))))
theorem impl_HistCounts_b1_loop (folded : TState × List Int) (res : V) (outs : List (Option V)) (x1 : Exc (List Int) (List Int)) (hb1 : ∀ s : List Int, x1 = .brk s → Fin cx impl_HistCounts_X res outs impl_HistCounts_k1 (impl_HistCounts_S1 s)) (hr1 : ∀ v : List Int, x1 = .ret v → (res = impl_HistCounts_R v ∧ outs = impl_HistCounts_O v)) (s : (List Int) × Int) (h : loop (fun s : (List Int) × Int => impl_HistCounts_b1 folded s.1 s.2) s = some x1) : Fin cx impl_HistCounts_X res outs impl_HistCounts_k3 (impl_HistCounts_S2 folded s.1 s.2) :=
  loopD (I := fun s : (List Int) × Int => Fin cx impl_HistCounts_X res outs impl_HistCounts_k3 (impl_HistCounts_S2 folded s.1 s.2)) h fun s st h hc => impl_HistCounts_b1_ok folded res outs x1 hb1 hr1 st hc s.1 s.2 h
noncomputable def impl_HistCounts (list : List TEntry) : Option (List Int) :=
  (need (0 ≤ (6 : Int) ∧ (6 : Int) * 8 ≤ 140737488355328)
 (((impl_listOk list).bind fun listOk =>
 (bif (!listOk) then
 some (List.replicate (6 : Int).toNat 0)
 else
 ((impl_folded list).bind fun folded =>
 ((loop (fun s : (List Int) × Int => impl_HistCounts_b1 folded s.1 s.2) (List.replicate (6 : Int).toNat 0, 0)).bind fun x => x.go (fun r => some r) fun s => impl_HistCounts_k2 s))))))
theorem impl_HistCounts_fin (list : List TEntry) (r : List Int) (h : impl_HistCounts list = some r) : Fin cx impl_HistCounts_X (impl_HistCounts_R r) (impl_HistCounts_O r) [.code impl_HistCounts_c] (startS impl_HistCounts_X [vsl 7 eEntry list]) :=
  (needD h fun e1 h =>
 (bindD h fun listOk hlistOk h =>
 (condD h (fun e2 h =>
 (someD h fun e => (Fin.fin (cx := cx) (X := impl_HistCounts_X) (res := impl_HistCounts_R (List.replicate (6 : Int).toNat 0)) (outs := impl_HistCounts_O (List.replicate (6 : Int).toNat 0)) Try.func5 [[], [(0, { e := some (erow 3 1 eI (List.replicate (6 : Int).toNat 0)), v := some (.own 2 0 1 0 (List.replicate (6 : Int).toNat 0).length) })], [(1, { a := .call [.val [some 7] []] false (impl_listOk_R listOk) (impl_listOk_O listOk) }), (2, { d := some true })], []] [V.own 2 0 1 0 (6 : Int).toNat = .own 2 0 1 0 (List.replicate (6 : Int).toNat 0).length, Ent.row 3 1 (6 : Int).toNat (List.replicate (6 : Int).toNat [vi 0]) = erow 3 1 eI (List.replicate (6 : Int).toNat 0), (0 : Int) ≤ (6 : Int), (6 : Int) = (6 : Int), (6 : Int) * ((8 : Nat) : Int) ≤ 140737488355328 ∧ 0 < 8, ([vi 0] : List V).length = 1, ACalls cx.P 13 [vsl 7 eEntry list] (impl_listOk_R listOk) (impl_listOk_O listOk), (!listOk) = true, (List.replicate (6 : Int).toNat 0).length = (List.replicate (6 : Int).toNat 0).length] (.cons (by simp) (.cons (row_rep rfl) (.cons e1.1 (.cons rfl (.cons ⟨e1.2, by decide⟩ (.cons rfl (.cons (impl_listOk_ok list listOk hlistOk) (.cons e2 (.cons rfl .nil))))))))) (by kernel_rfl)).is (congrArg impl_HistCounts_R e) (congrArg impl_HistCounts_O e))) (fun e2 h =>
 (bindD h fun folded hfolded h =>
 (loopJ h fun x hl hr hb => (Fin.seg [[], [(0, { e := some (erow 3 1 eI (List.replicate (6 : Int).toNat 0)), v := some (.own 2 0 1 0 (List.replicate (6 : Int).toNat 0).length) })], [(1, { a := .call [.val [some 7] []] false (impl_listOk_R listOk) (impl_listOk_O listOk) }), (2, { d := some false })], [(1, { a := .call [.val [some 7] []] false (impl_folded_R folded) (impl_folded_O folded) })], []] [] [3, 18, 19, 20] [(2, 0)] [V.own 2 0 1 0 (6 : Int).toNat = .own 2 0 1 0 (List.replicate (6 : Int).toNat 0).length, Ent.row 3 1 (6 : Int).toNat (List.replicate (6 : Int).toNat [vi 0]) = erow 3 1 eI (List.replicate (6 : Int).toNat 0), (0 : Int) ≤ (6 : Int), (6 : Int) = (6 : Int), (6 : Int) * ((8 : Nat) : Int) ≤ 140737488355328 ∧ 0 < 8, ([vi 0] : List V).length = 1, ACalls cx.P 13 [vsl 7 eEntry list] (impl_listOk_R listOk) (impl_listOk_O listOk), (!listOk) = false, ACalls cx.P 14 [vsl 7 eEntry list] (impl_folded_R folded) (impl_folded_O folded)] (.cons (by simp) (.cons (row_rep rfl) (.cons e1.1 (.cons rfl (.cons ⟨e1.2, by decide⟩ (.cons rfl (.cons (impl_listOk_ok list listOk hlistOk) (.cons e2 (.cons (impl_folded_ok list folded hfolded) .nil))))))))) (impl_HistCounts_b1_loop folded _ _ x (fun s e => impl_HistCounts_k2_ok r s (hb s e)) (fun v e => ⟨congrArg impl_HistCounts_R (Option.some.inj (hr v e)).symm, congrArg impl_HistCounts_O (Option.some.inj (hr v e)).symm⟩) (List.replicate (6 : Int).toNat 0, 0) hl) (by kernel_rfl))))))))
theorem impl_HistCounts_ok (list : List TEntry) (r : List Int) (h : impl_HistCounts list = some r) : ACalls cx.P 5 [vsl 7 eEntry list] (impl_HistCounts_R r) (impl_HistCounts_O r) :=
  ACalls.of (cx := cx) (X := impl_HistCounts_X) (c := impl_HistCounts_c) Try.func5 (by kernel_rfl) (by kernel_rfl) (by kernel_rfl) (impl_HistCounts_fin list r h)

/-! ### spec_l8Known -/
noncomputable def spec_l8Known_c : Code := bodyOf Try.f15
noncomputable def spec_l8Known_X : Sig := { f := 15, fn := Try.f15, rms := [.val [] []], oms := [none] }
noncomputable def spec_l8Known_R (r : Bool) : V := .b r
noncomputable def spec_l8Known_O (r : Bool) : List (Option V) := [none]
noncomputable def spec_l8Known_k1 : List Item := posI 2000 4 [false, false] [.code spec_l8Known_c]
noncomputable def spec_l8Known_S1 : St := ⟨(bs 19 []), [some []]⟩
noncomputable def spec_l8Known_k2 : Option Bool :=
  some true
theorem spec_l8Known_k2_ok (r : Bool) (h : spec_l8Known_k2 = some r) : Fin cx spec_l8Known_X (spec_l8Known_R r) (spec_l8Known_O r) spec_l8Known_k1 (spec_l8Known_S1) :=
  (someD h fun e => (Fin.fin (cx := cx) (X := spec_l8Known_X) (res := spec_l8Known_R true) (outs := spec_l8Known_O true) Try.func15 [[]] [] .nil (by kernel_rfl)).is (congrArg spec_l8Known_R e) (congrArg spec_l8Known_O e))
noncomputable def spec_l8Known_k3 : List Item := posI 2000 3 [false] [.code spec_l8Known_c]
noncomputable def spec_l8Known_S2 (list : List TEntry) (i : Int) : St := ⟨(vsl 7 eEntry list :: (bs 2 (vi i :: (bs 15 [])))), [some []]⟩
noncomputable def spec_l8Known_b1 (list : List TEntry) (i : Int) : Option (Stp Bool Int Unit) :=
  (bif decide (i < (list.length : Int)) then
 ((idx list i).bind fun entry =>
 ((spec_CertEntry entry).bind fun certEntry =>
 (bif (!certEntry) then
 some (Stp.ret false)
 else
 some (Stp.nxt (w64 (i + 1))))))
 else
 some (Stp.brk ()))
theorem spec_l8Known_b1_ok (list : List TEntry) (res : V) (outs : List (Option V)) (x1 : Exc Bool Unit) (hb1 : ∀ s : Unit, x1 = .brk s → Fin cx spec_l8Known_X res outs spec_l8Known_k1 (spec_l8Known_S1)) (hr1 : ∀ v : Bool, x1 = .ret v → (res = spec_l8Known_R v ∧ outs = spec_l8Known_O v)) (st1 : Stp Bool Int Unit) (hc1 : Cont x1 (fun s : Int => Fin cx spec_l8Known_X res outs spec_l8Known_k3 (spec_l8Known_S2 list s)) st1) (i : Int) (h : spec_l8Known_b1 list i = some st1) : Fin cx spec_l8Known_X res outs spec_l8Known_k3 (spec_l8Known_S2 list i) :=
  (condD h (fun e2 h =>
 (bindD h fun entry hentry h =>
 (bindD h fun certEntry hcertEntry h =>
 (condD h (fun e3 h =>
 (retD h hc1 fun e => (Fin.fin (cx := cx) (X := spec_l8Known_X) (res := spec_l8Known_R false) (outs := spec_l8Known_O false) Try.func15 [[(3, { d := some true })], [(2, { a := .row (eEntry entry) }), (4, { a := .call [.val [none, none, none, some 2, some 2, none, none] []] false (spec_CertEntry_R certEntry) (spec_CertEntry_O certEntry) }), (5, { d := some true })], []] [decide (i < (list.length : Int)) = true, (0 : Int) ≤ i, i < ((list.length : Nat) : Int), (list.map eEntry)[i.toNat]? = some (eEntry entry), ACalls cx.P 29 [.agg (eEntry entry)] (spec_CertEntry_R certEntry) (spec_CertEntry_O certEntry), (!certEntry) = true] (.cons e2 (.cons (idx0 hentry) (.cons (idx1 hentry) (.cons (map_idx hentry) (.cons (spec_CertEntry_ok entry certEntry hcertEntry) (.cons e3 .nil)))))) (by kernel_rfl)).is (hr1 _ e).1 (hr1 _ e).2)) (fun e3 h =>
 (nxtD h hc1 fun hI => (Fin.seg [[(3, { d := some true })], [(2, { a := .row (eEntry entry) }), (4, { a := .call [.val [none, none, none, some 2, some 2, none, none] []] false (spec_CertEntry_R certEntry) (spec_CertEntry_O certEntry) }), (5, { d := some false })], []] [] [0, 3] [] [decide (i < (list.length : Int)) = true, (0 : Int) ≤ i, i < ((list.length : Nat) : Int), (list.map eEntry)[i.toNat]? = some (eEntry entry), ACalls cx.P 29 [.agg (eEntry entry)] (spec_CertEntry_R certEntry) (spec_CertEntry_O certEntry), (!certEntry) = false] (.cons e2 (.cons (idx0 hentry) (.cons (idx1 hentry) (.cons (map_idx hentry) (.cons (spec_CertEntry_ok entry certEntry hcertEntry) (.cons e3 .nil)))))) hI (by kernel_rfl)))))))) (fun e2 h =>
 (brkD h hc1 fun e => (Fin.seg [[(3, { d := some false })]] [] [] [] [decide (i < (list.length : Int)) = false] (.cons e2 .nil) (hb1 _ e) (by kernel_rfl)))))
theorem spec_l8Known_b1_loop (list : List TEntry) (res : V) (outs : List (Option V)) (x1 : Exc Bool Unit) (hb1 : ∀ s : Unit, x1 = .brk s → Fin cx spec_l8Known_X res outs spec_l8Known_k1 (spec_l8Known_S1)) (hr1 : ∀ v : Bool, x1 = .ret v → (res = spec_l8Known_R v ∧ outs = spec_l8Known_O v)) (s : Int) (h : loop (fun s : Int => spec_l8Known_b1 list s) s = some x1) : Fin cx spec_l8Known_X res outs spec_l8Known_k3 (spec_l8Known_S2 list s) :=
  loopD (I := fun s : Int => Fin cx spec_l8Known_X res outs spec_l8Known_k3 (spec_l8Known_S2 list s)) h fun s st h hc => spec_l8Known_b1_ok list res outs x1 hb1 hr1 st hc s h
noncomputable def spec_l8Known (list : List TEntry) : Option Bool :=
  (bif decide ((list.length : Int) > 40) then
 some false
 else
 ((loop (fun s : Int => spec_l8Known_b1 list s) 0).bind fun x => x.go (fun r => some r) fun s => spec_l8Known_k2))
theorem spec_l8Known_fin (list : List TEntry) (r : Bool) (h : spec_l8Known list = some r) : Fin cx spec_l8Known_X (spec_l8Known_R r) (spec_l8Known_O r) [.code spec_l8Known_c] (startS spec_l8Known_X [vsl 7 eEntry list]) :=
  (condD h (fun e1 h =>
 (someD h fun e => (Fin.fin (cx := cx) (X := spec_l8Known_X) (res := spec_l8Known_R false) (outs := spec_l8Known_O false) Try.func15 [[], [(2, { d := some true })], []] [decide ((list.length : Int) > 40) = true] (.cons e1 .nil) (by kernel_rfl)).is (congrArg spec_l8Known_R e) (congrArg spec_l8Known_O e))) (fun e1 h =>
 (loopJ h fun x hl hr hb => (Fin.seg [[], [(2, { d := some false })], []] [] [0, 3] [] [decide ((list.length : Int) > 40) = false] (.cons e1 .nil) (spec_l8Known_b1_loop list _ _ x (fun s e => spec_l8Known_k2_ok r (hb s e)) (fun v e => ⟨congrArg spec_l8Known_R (Option.some.inj (hr v e)).symm, congrArg spec_l8Known_O (Option.some.inj (hr v e)).symm⟩) 0 hl) (by kernel_rfl)))))
theorem spec_l8Known_ok (list : List TEntry) (r : Bool) (h : spec_l8Known list = some r) : ACalls cx.P 15 [vsl 7 eEntry list] (spec_l8Known_R r) (spec_l8Known_O r) :=
  ACalls.of (cx := cx) (X := spec_l8Known_X) (c := spec_l8Known_c) Try.func15 (by kernel_rfl) (by kernel_rfl) (by kernel_rfl) (spec_l8Known_fin list r h)

/-! ### spec_l13Codes -/
noncomputable def spec_l13Codes_c : Code := bodyOf Try.f16
noncomputable def spec_l13Codes_X : Sig := { f := 16, fn := Try.f16, rms := [.val [some 1] []], oms := [none] }
noncomputable def spec_l13Codes_R (r : List Int) : V := vsl 1 eI r
noncomputable def spec_l13Codes_O (r : List Int) : List (Option V) := [none]
noncomputable def spec_l13Codes_k1 : List Item := posI 2000 5 [false] [.code spec_l13Codes_c]
noncomputable def spec_l13Codes_S1 (out1 : List Int) : St := ⟨(bs 3 (.own 1 0 1 0 out1.length :: (bs 27 []))), [some [], some [erow 3 1 eI out1]]⟩
noncomputable def spec_l13Codes_k2 (out1 : List Int) : Option (List Int) :=
  some out1
theorem spec_l13Codes_k2_ok (r : List Int) (out1 : List Int) (h : spec_l13Codes_k2 out1 = some r) : Fin cx spec_l13Codes_X (spec_l13Codes_R r) (spec_l13Codes_O r) spec_l13Codes_k1 (spec_l13Codes_S1 out1) :=
  (someD h fun e => (Fin.fin (cx := cx) (X := spec_l13Codes_X) (res := spec_l13Codes_R out1) (outs := spec_l13Codes_O out1) Try.func16 [[]] [out1.length = out1.length] (.cons rfl .nil) (by kernel_rfl)).is (congrArg spec_l13Codes_R e) (congrArg spec_l13Codes_O e))
noncomputable def spec_l13Codes_k3 : List Item := posI 2000 4 [] [.code spec_l13Codes_c]
noncomputable def spec_l13Codes_S2 (list : List TEntry) (out : List Int) (Boxes : List TBox) (i : Int) (sAt : Int) (sDones : List TDone) : St := ⟨(vsl 7 eEntry list :: (bs 2 (.own 1 0 1 0 out.length :: (.ptr 2 0 0 :: (vi i :: (bs 25 [])))))), [some [], some [erow 3 1 eI out], some [.var 48 [vi sAt, .own 3 0 2 0 Boxes.length, vsl 4 eDone sDones]], some [erow 54 2 eBox Boxes]]⟩
noncomputable def spec_l13Codes_b1 (list : List TEntry) (out : List Int) (Boxes : List TBox) (i : Int) (sAt : Int) (sDones : List TDone) : Option (Stp (List Int) ((List Int) × (List TBox) × Int × Int × List TDone) (List Int)) :=
  (bif decide (i < (list.length : Int)) then
 ((idx list i).bind fun entry =>
 ((spec_l5Apply (TState.mk sAt Boxes sDones) entry).bind fun l5Apply =>
 (need ((out.length + 1) * 8 ≤ 140737488355328)
 (some (Stp.nxt (out ++ [l5Apply.2], l5Apply.1.Boxes, w64 (i + 1), l5Apply.1.At, l5Apply.1.Dones))))))
 else
 some (Stp.brk out))
theorem spec_l13Codes_b1_ok (list : List TEntry) (res : V) (outs : List (Option V)) (x1 : Exc (List Int) (List Int)) (hb1 : ∀ s : List Int, x1 = .brk s → Fin cx spec_l13Codes_X res outs spec_l13Codes_k1 (spec_l13Codes_S1 s)) (hr1 : ∀ v : List Int, x1 = .ret v → (res = spec_l13Codes_R v ∧ outs = spec_l13Codes_O v)) (st1 : Stp (List Int) ((List Int) × (List TBox) × Int × Int × List TDone) (List Int)) (hc1 : Cont x1 (fun s : (List Int) × (List TBox) × Int × Int × List TDone => Fin cx spec_l13Codes_X res outs spec_l13Codes_k3 (spec_l13Codes_S2 list s.1 s.2.1 s.2.2.1 s.2.2.2.1 s.2.2.2.2)) st1) (out : List Int) (Boxes : List TBox) (i : Int) (sAt : Int) (sDones : List TDone) (h : spec_l13Codes_b1 list out Boxes i sAt sDones = some st1) : Fin cx spec_l13Codes_X res outs spec_l13Codes_k3 (spec_l13Codes_S2 list out Boxes i sAt sDones) :=
  (condD h (fun e1 h =>
 (bindD h fun entry hentry h =>
 (bindD h fun l5Apply hl5Apply h =>
 (needD h fun e2 h =>
 (nxtD h hc1 fun hI => (Fin.seg [[(3, { d := some true })], [(3, { a := .row (eEntry entry) }), (5, { a := .call [.val [none, some 2, some 4] [none, some 54, none], .val [none, none, none, some 2, some 2, none, none] []] false (spec_l5Apply_R l5Apply) (spec_l5Apply_O l5Apply) })], [], [(2, { a := .ck [] }), (3, { v := some (.own 25 0 1 0 (out ++ [l5Apply.2]).length), e := some (erow 3 1 eI (out ++ [l5Apply.2])) })], []] [] [0, 3, 4, 5] [(25, 0), (2, 0), (13, 0)] [decide (i < (list.length : Int)) = true, (0 : Int) ≤ i, i < ((list.length : Nat) : Int), (list.map eEntry)[i.toNat]? = some (eEntry entry), ACalls cx.P 25 [.agg [vi (TState.mk sAt Boxes sDones).At, vosl 54 2 eBox (TState.mk sAt Boxes sDones).Boxes, vsl 4 eDone (TState.mk sAt Boxes sDones).Dones], .agg (eEntry entry)] (spec_l5Apply_R l5Apply) (spec_l5Apply_O l5Apply), Boxes.length = Boxes.length, V.own 25 0 1 0 (out.length + 1) = .own 25 0 1 0 (out ++ [l5Apply.2]).length, Ent.row 3 1 (out.length + 1) (out.map eI ++ [eI l5Apply.2]) = erow 3 1 eI (out ++ [l5Apply.2]), out.length = out.length, (out.length + 1) * 8 ≤ 140737488355328, 1 = [l5Apply.2].length] (.cons e1 (.cons (idx0 hentry) (.cons (idx1 hentry) (.cons (map_idx hentry) (.cons (spec_l5Apply_ok (TState.mk sAt Boxes sDones) entry l5Apply hl5Apply) (.cons rfl (.cons (by first | exact congrArg (V.own 25 0 1 0) List.length_append.symm | simp) (.cons (row_app rfl) (.cons rfl (.cons e2 (.cons (by rfl) .nil))))))))))) hI (by kernel_rfl))))))) (fun e1 h =>
 (brkD h hc1 fun e => (Fin.seg [[(3, { d := some false })]] [] [3] [(1, 0)] [decide (i < (list.length : Int)) = false] (.cons e1 .nil) (hb1 _ e) (by kernel_rfl)))))
theorem spec_l13Codes_b1_loop (list : List TEntry) (res : V) (outs : List (Option V)) (x1 : Exc (List Int) (List Int)) (hb1 : ∀ s : List Int, x1 = .brk s → Fin cx spec_l13Codes_X res outs spec_l13Codes_k1 (spec_l13Codes_S1 s)) (hr1 : ∀ v : List Int, x1 = .ret v → (res = spec_l13Codes_R v ∧ outs = spec_l13Codes_O v)) (s : (List Int) × (List TBox) × Int × Int × List TDone) (h : loop (fun s : (List Int) × (List TBox) × Int × Int × List TDone => spec_l13Codes_b1 list s.1 s.2.1 s.2.2.1 s.2.2.2.1 s.2.2.2.2) s = some x1) : Fin cx spec_l13Codes_X res outs spec_l13Codes_k3 (spec_l13Codes_S2 list s.1 s.2.1 s.2.2.1 s.2.2.2.1 s.2.2.2.2) :=
  loopD (I := fun s : (List Int) × (List TBox) × Int × Int × List TDone => Fin cx spec_l13Codes_X res outs spec_l13Codes_k3 (spec_l13Codes_S2 list s.1 s.2.1 s.2.2.1 s.2.2.2.1 s.2.2.2.2)) h fun s st h hc => spec_l13Codes_b1_ok list res outs x1 hb1 hr1 st hc s.1 s.2.1 s.2.2.1 s.2.2.2.1 s.2.2.2.2 h
noncomputable def spec_l13Codes (list : List TEntry) : Option (List Int) :=
  ((spec_CertOpen).bind fun certOpen =>
 ((loop (fun s : (List Int) × (List TBox) × Int × Int × List TDone => spec_l13Codes_b1 list s.1 s.2.1 s.2.2.1 s.2.2.2.1 s.2.2.2.2) (([] : List Int), certOpen.Boxes, 0, certOpen.At, certOpen.Dones)).bind fun x => x.go (fun r => some r) fun s => spec_l13Codes_k2 s))
theorem spec_l13Codes_fin (list : List TEntry) (r : List Int) (h : spec_l13Codes list = some r) : Fin cx spec_l13Codes_X (spec_l13Codes_R r) (spec_l13Codes_O r) [.code spec_l13Codes_c] (startS spec_l13Codes_X [vsl 7 eEntry list]) :=
  (bindD h fun certOpen hcertOpen h =>
 (loopJ h fun x hl hr hb => (Fin.seg [[], [(0, { a := .ck [] })], [(0, { a := .call [] false (spec_CertOpen_R certOpen) (spec_CertOpen_O certOpen) })], []] [.is (.tmp 3) (.own 2 0 1 0 ([] : List Int).length)] [0, 3, 4, 5] [(2, 0), (5, 0), (4, 0)] [ACalls cx.P 22 [] (spec_CertOpen_R certOpen) (spec_CertOpen_O certOpen), (.own 2 0 1 0 0 : V) = .own 2 0 1 0 ([] : List Int).length] (.cons (spec_CertOpen_ok certOpen hcertOpen) (.cons (by simp) .nil)) (spec_l13Codes_b1_loop list _ _ x (fun s e => spec_l13Codes_k2_ok r s (hb s e)) (fun v e => ⟨congrArg spec_l13Codes_R (Option.some.inj (hr v e)).symm, congrArg spec_l13Codes_O (Option.some.inj (hr v e)).symm⟩) (([] : List Int), certOpen.Boxes, 0, certOpen.At, certOpen.Dones) hl) (by kernel_rfl))))
theorem spec_l13Codes_ok (list : List TEntry) (r : List Int) (h : spec_l13Codes list = some r) : ACalls cx.P 16 [vsl 7 eEntry list] (spec_l13Codes_R r) (spec_l13Codes_O r) :=
  ACalls.of (cx := cx) (X := spec_l13Codes_X) (c := spec_l13Codes_c) Try.func16 (by kernel_rfl) (by kernel_rfl) (by kernel_rfl) (spec_l13Codes_fin list r h)

/-! ### spec_HistCounts -/
noncomputable def spec_HistCounts_c : Code := bodyOf Try.f6
noncomputable def spec_HistCounts_X : Sig := { f := 6, fn := Try.f6, rms := [.val [some 1] []], oms := [none] }
noncomputable def spec_HistCounts_R (r : List Int) : V := vsl 1 eI r
noncomputable def spec_HistCounts_O (r : List Int) : List (Option V) := [none]
noncomputable def spec_HistCounts_k1 : List Item := posI 2000 6 [false, false] [.code spec_HistCounts_c]
noncomputable def spec_HistCounts_S1 (out1 : List Int) : St := ⟨(bs 3 (.own 1 0 1 0 out1.length :: (bs 30 []))), [some [], some [erow 3 1 eI out1]]⟩
noncomputable def spec_HistCounts_k2 (out1 : List Int) : Option (List Int) :=
  some out1
theorem spec_HistCounts_k2_ok (r : List Int) (out1 : List Int) (h : spec_HistCounts_k2 out1 = some r) : Fin cx spec_HistCounts_X (spec_HistCounts_R r) (spec_HistCounts_O r) spec_HistCounts_k1 (spec_HistCounts_S1 out1) :=
  (someD h fun e => (Fin.fin (cx := cx) (X := spec_HistCounts_X) (res := spec_HistCounts_R out1) (outs := spec_HistCounts_O out1) Try.func6 [[]] [out1.length = out1.length] (.cons rfl .nil) (by kernel_rfl)).is (congrArg spec_HistCounts_R e) (congrArg spec_HistCounts_O e))
noncomputable def spec_HistCounts_k3 : List Item := posI 2000 5 [false] [.code spec_HistCounts_c]
noncomputable def spec_HistCounts_S2 (l13Codes : List Int) (out : List Int) (i : Int) : St := ⟨(bs 3 (.own 1 0 1 0 out.length :: (vsl 1 eI l13Codes :: (vi i :: (bs 28 []))))), [some [], some [erow 3 1 eI out]]⟩
noncomputable def spec_HistCounts_b1 (l13Codes : List Int) (out : List Int) (i : Int) : Option (Stp (List Int) ((List Int) × Int) (List Int)) :=
  (bif decide (i < (l13Codes.length : Int)) then
 ((idx l13Codes i).bind fun y =>
 ((idx out y).bind fun y1 =>
 some (Stp.nxt (out.set y.toNat (w64 (y1 + 1)), w64 (i + 1)))))
 else
 some (Stp.brk out))
theorem spec_HistCounts_b1_ok (l13Codes : List Int) (res : V) (outs : List (Option V)) (x1 : Exc (List Int) (List Int)) (hb1 : ∀ s : List Int, x1 = .brk s → Fin cx spec_HistCounts_X res outs spec_HistCounts_k1 (spec_HistCounts_S1 s)) (hr1 : ∀ v : List Int, x1 = .ret v → (res = spec_HistCounts_R v ∧ outs = spec_HistCounts_O v)) (st1 : Stp (List Int) ((List Int) × Int) (List Int)) (hc1 : Cont x1 (fun s : (List Int) × Int => Fin cx spec_HistCounts_X res outs spec_HistCounts_k3 (spec_HistCounts_S2 l13Codes s.1 s.2)) st1) (out : List Int) (i : Int) (h : spec_HistCounts_b1 l13Codes out i = some st1) : Fin cx spec_HistCounts_X res outs spec_HistCounts_k3 (spec_HistCounts_S2 l13Codes out i) :=
  (condD h (fun e3 h =>
 (bindD h fun y hy h =>
 (bindD h fun y1 hy1 h =>
 (nxtD h hc1 fun hI => (Fin.seg [[(3, { d := some true })], [(3, { a := .row (eI y) }), (8, { a := .row (eI y) }), (11, { a := .row (eI y1) }), (14, { a := .rowck (eI y1) [], e := some (erow 3 1 eI (out.set y.toNat (w64 (y1 + 1)))) })], []] [.is (.tmp 3) (.own 1 0 1 0 (out.set y.toNat (w64 (y1 + 1))).length)] [3, 4, 5] [(1, 0)] [decide (i < (l13Codes.length : Int)) = true, (0 : Int) ≤ i, i < ((l13Codes.length : Nat) : Int), (l13Codes.map eI)[i.toNat]? = some (eI y), (0 : Int) ≤ i, i < ((l13Codes.length : Nat) : Int), (l13Codes.map eI)[i.toNat]? = some (eI y), (0 : Int) ≤ y, y < ((out.length : Nat) : Int), (out.map eI)[0 + y.toNat]? = some (eI y1), (0 : Int) ≤ y, y < ((out.length : Nat) : Int), Ent.row 3 1 out.length ((out.map eI).set (0 + y.toNat) [vi (w64 (y1 + 1))]) = erow 3 1 eI (out.set y.toNat (w64 (y1 + 1))), (out.map eI)[0 + y.toNat]? = some (eI y1), (.own 1 0 1 0 out.length : V) = .own 1 0 1 0 (out.set y.toNat (w64 (y1 + 1))).length] (.cons e3 (.cons (idx0 hy) (.cons (idx1 hy) (.cons (map_idx hy) (.cons (idx0 hy) (.cons (idx1 hy) (.cons (map_idx hy) (.cons (idx0 hy1) (.cons (idx1 hy1) (.cons (map_idx0 hy1) (.cons (idx0 hy1) (.cons (idx1 hy1) (.cons (row_set rfl) (.cons (map_idx0 hy1) (.cons (by simp) .nil))))))))))))))) hI (by kernel_rfl)))))) (fun e3 h =>
 (brkD h hc1 fun e => (Fin.seg [[(3, { d := some false })]] [] [3] [(1, 0)] [decide (i < (l13Codes.length : Int)) = false] (.cons e3 .nil) (hb1 _ e) (by kernel_rfl)))))
theorem spec_HistCounts_b1_loop (l13Codes : List Int) (res : V) (outs : List (Option V)) (x1 : Exc (List Int) (List Int)) (hb1 : ∀ s : List Int, x1 = .brk s → Fin cx spec_HistCounts_X res outs spec_HistCounts_k1 (spec_HistCounts_S1 s)) (hr1 : ∀ v : List Int, x1 = .ret v → (res = spec_HistCounts_R v ∧ outs = spec_HistCounts_O v)) (s : (List Int) × Int) (h : loop (fun s : (List Int) × Int => spec_HistCounts_b1 l13Codes s.1 s.2) s = some x1) : Fin cx spec_HistCounts_X res outs spec_HistCounts_k3 (spec_HistCounts_S2 l13Codes s.1 s.2) :=
  loopD (I := fun s : (List Int) × Int => Fin cx spec_HistCounts_X res outs spec_HistCounts_k3 (spec_HistCounts_S2 l13Codes s.1 s.2)) h fun s st h hc => spec_HistCounts_b1_ok l13Codes res outs x1 hb1 hr1 st hc s.1 s.2 h
noncomputable def spec_HistCounts (list : List TEntry) : Option (List Int) :=
  (need (0 ≤ (6 : Int) ∧ (6 : Int) * 8 ≤ 140737488355328)
 (((spec_l8Known list).bind fun l8Known =>
 (bif (!l8Known) then
 some (List.replicate (6 : Int).toNat 0)
 else
 ((spec_l13Codes list).bind fun l13Codes =>
 ((loop (fun s : (List Int) × Int => spec_HistCounts_b1 l13Codes s.1 s.2) (List.replicate (6 : Int).toNat 0, 0)).bind fun x => x.go (fun r => some r) fun s => spec_HistCounts_k2 s))))))
theorem spec_HistCounts_fin (list : List TEntry) (r : List Int) (h : spec_HistCounts list = some r) : Fin cx spec_HistCounts_X (spec_HistCounts_R r) (spec_HistCounts_O r) [.code spec_HistCounts_c] (startS spec_HistCounts_X [vsl 7 eEntry list]) :=
  (needD h fun e1 h =>
 (bindD h fun l8Known hl8Known h =>
 (condD h (fun e2 h =>
 (someD h fun e => (Fin.fin (cx := cx) (X := spec_HistCounts_X) (res := spec_HistCounts_R (List.replicate (6 : Int).toNat 0)) (outs := spec_HistCounts_O (List.replicate (6 : Int).toNat 0)) Try.func6 [[], [(0, { e := some (erow 3 1 eI (List.replicate (6 : Int).toNat 0)), v := some (.own 2 0 1 0 (List.replicate (6 : Int).toNat 0).length) })], [(1, { a := .call [.val [some 7] []] false (spec_l8Known_R l8Known) (spec_l8Known_O l8Known) }), (2, { d := some true })], []] [V.own 2 0 1 0 (6 : Int).toNat = .own 2 0 1 0 (List.replicate (6 : Int).toNat 0).length, Ent.row 3 1 (6 : Int).toNat (List.replicate (6 : Int).toNat [vi 0]) = erow 3 1 eI (List.replicate (6 : Int).toNat 0), (0 : Int) ≤ (6 : Int), (6 : Int) = (6 : Int), (6 : Int) * ((8 : Nat) : Int) ≤ 140737488355328 ∧ 0 < 8, ([vi 0] : List V).length = 1, ACalls cx.P 15 [vsl 7 eEntry list] (spec_l8Known_R l8Known) (spec_l8Known_O l8Known), (!l8Known) = true, (List.replicate (6 : Int).toNat 0).length = (List.replicate (6 : Int).toNat 0).length] (.cons (by simp) (.cons (row_rep rfl) (.cons e1.1 (.cons rfl (.cons ⟨e1.2, by decide⟩ (.cons rfl (.cons (spec_l8Known_ok list l8Known hl8Known) (.cons e2 (.cons rfl .nil))))))))) (by kernel_rfl)).is (congrArg spec_HistCounts_R e) (congrArg spec_HistCounts_O e))) (fun e2 h =>
 (bindD h fun l13Codes hl13Codes h =>
 (loopJ h fun x hl hr hb => (Fin.seg [[], [(0, { e := some (erow 3 1 eI (List.replicate (6 : Int).toNat 0)), v := some (.own 2 0 1 0 (List.replicate (6 : Int).toNat 0).length) })], [(1, { a := .call [.val [some 7] []] false (spec_l8Known_R l8Known) (spec_l8Known_O l8Known) }), (2, { d := some false })], [(1, { a := .call [.val [some 7] []] false (spec_l13Codes_R l13Codes) (spec_l13Codes_O l13Codes) })], []] [] [3, 4, 5] [(2, 0)] [V.own 2 0 1 0 (6 : Int).toNat = .own 2 0 1 0 (List.replicate (6 : Int).toNat 0).length, Ent.row 3 1 (6 : Int).toNat (List.replicate (6 : Int).toNat [vi 0]) = erow 3 1 eI (List.replicate (6 : Int).toNat 0), (0 : Int) ≤ (6 : Int), (6 : Int) = (6 : Int), (6 : Int) * ((8 : Nat) : Int) ≤ 140737488355328 ∧ 0 < 8, ([vi 0] : List V).length = 1, ACalls cx.P 15 [vsl 7 eEntry list] (spec_l8Known_R l8Known) (spec_l8Known_O l8Known), (!l8Known) = false, ACalls cx.P 16 [vsl 7 eEntry list] (spec_l13Codes_R l13Codes) (spec_l13Codes_O l13Codes)] (.cons (by simp) (.cons (row_rep rfl) (.cons e1.1 (.cons rfl (.cons ⟨e1.2, by decide⟩ (.cons rfl (.cons (spec_l8Known_ok list l8Known hl8Known) (.cons e2 (.cons (spec_l13Codes_ok list l13Codes hl13Codes) .nil))))))))) (spec_HistCounts_b1_loop l13Codes _ _ x (fun s e => spec_HistCounts_k2_ok r s (hb s e)) (fun v e => ⟨congrArg spec_HistCounts_R (Option.some.inj (hr v e)).symm, congrArg spec_HistCounts_O (Option.some.inj (hr v e)).symm⟩) (List.replicate (6 : Int).toNat 0, 0) hl) (by kernel_rfl))))))))
theorem spec_HistCounts_ok (list : List TEntry) (r : List Int) (h : spec_HistCounts list = some r) : ACalls cx.P 6 [vsl 7 eEntry list] (spec_HistCounts_R r) (spec_HistCounts_O r) :=
  ACalls.of (cx := cx) (X := spec_HistCounts_X) (c := spec_HistCounts_c) Try.func6 (by kernel_rfl) (by kernel_rfl) (by kernel_rfl) (spec_HistCounts_fin list r h)

/-! ### impl_CertFold -/
noncomputable def impl_CertFold_c : Code := bodyOf Try.f18
noncomputable def impl_CertFold_X : Sig := { f := 18, fn := Try.f18, rms := [.val [none, some 2, some 4] []], oms := [none] }
noncomputable def impl_CertFold_R (r : TState) : V := .agg (eState r)
noncomputable def impl_CertFold_O (r : TState) : List (Option V) := [none]
noncomputable def impl_CertFold (list : List TEntry) : Option TState :=
  ((impl_listOk list).bind fun listOk =>
 (bif (!listOk) then
 some (TState.mk 0 [] [])
 else
 ((impl_folded list).bind fun folded =>
 some folded.1)))
theorem impl_CertFold_fin (list : List TEntry) (r : TState) (h : impl_CertFold list = some r) : Fin cx impl_CertFold_X (impl_CertFold_R r) (impl_CertFold_O r) [.code impl_CertFold_c] (startS impl_CertFold_X [vsl 7 eEntry list]) :=
  (bindD h fun listOk hlistOk h =>
 (condD h (fun e1 h =>
 (someD h fun e => (Fin.fin (cx := cx) (X := impl_CertFold_X) (res := impl_CertFold_R (TState.mk 0 [] [])) (outs := impl_CertFold_O (TState.mk 0 [] [])) Try.func18 [[], [(1, { a := .call [.val [some 7] []] false (impl_listOk_R listOk) (impl_listOk_O listOk) }), (2, { d := some true })], []] [ACalls cx.P 13 [vsl 7 eEntry list] (impl_listOk_R listOk) (impl_listOk_O listOk), (!listOk) = true] (.cons (impl_listOk_ok list listOk hlistOk) (.cons e1 .nil)) (by kernel_rfl)).is (congrArg impl_CertFold_R e) (congrArg impl_CertFold_O e))) (fun e1 h =>
 (bindD h fun folded hfolded h =>
 (someD h fun e => (Fin.fin (cx := cx) (X := impl_CertFold_X) (res := impl_CertFold_R folded.1) (outs := impl_CertFold_O folded.1) Try.func18 [[], [(1, { a := .call [.val [some 7] []] false (impl_listOk_R listOk) (impl_listOk_O listOk) }), (2, { d := some false })], [(1, { a := .call [.val [some 7] []] false (impl_folded_R folded) (impl_folded_O folded) })], []] [ACalls cx.P 13 [vsl 7 eEntry list] (impl_listOk_R listOk) (impl_listOk_O listOk), (!listOk) = false, ACalls cx.P 14 [vsl 7 eEntry list] (impl_folded_R folded) (impl_folded_O folded)] (.cons (impl_listOk_ok list listOk hlistOk) (.cons e1 (.cons (impl_folded_ok list folded hfolded) .nil))) (by kernel_rfl)).is (congrArg impl_CertFold_R e) (congrArg impl_CertFold_O e))))))
theorem impl_CertFold_ok (list : List TEntry) (r : TState) (h : impl_CertFold list = some r) : ACalls cx.P 18 [vsl 7 eEntry list] (impl_CertFold_R r) (impl_CertFold_O r) :=
  ACalls.of (cx := cx) (X := impl_CertFold_X) (c := impl_CertFold_c) Try.func18 (by kernel_rfl) (by kernel_rfl) (by kernel_rfl) (impl_CertFold_fin list r h)

/-! ### impl_HistAt -/
noncomputable def impl_HistAt_c : Code := bodyOf Try.f7
noncomputable def impl_HistAt_X : Sig := { f := 7, fn := Try.f7, rms := [.val [some 2] []], oms := [none, none] }
noncomputable def impl_HistAt_R (r : List TBox) : V := vsl 2 eBox r
noncomputable def impl_HistAt_O (r : List TBox) : List (Option V) := [none, none]
noncomputable def impl_HistAt (list : List TEntry) (n : Int) : Option (List TBox) :=
  ((impl_listOk list).bind fun listOk =>
 (bif (!listOk) then
 some []
 else
 ((impl_in n 0 (list.length : Int)).bind fun in_ =>
 (bif (!in_) then
 some []
 else
 (need ((0 : Int) ≤ n ∧ n ≤ (list.length : Int))
 (((impl_CertFold ((list.drop 0).take (n.toNat - 0))).bind fun certFold =>
 some certFold.Boxes)))))))
theorem impl_HistAt_fin (list : List TEntry) (n : Int) (r : List TBox) (h : impl_HistAt list n = some r) : Fin cx impl_HistAt_X (impl_HistAt_R r) (impl_HistAt_O r) [.code impl_HistAt_c] (startS impl_HistAt_X [vsl 7 eEntry list, vi n]) :=
  (bindD h fun listOk hlistOk h =>
 (condD h (fun e1 h =>
 (someD h fun e => (Fin.fin (cx := cx) (X := impl_HistAt_X) (res := impl_HistAt_R []) (outs := impl_HistAt_O []) Try.func7 [[], [(1, { a := .call [.val [some 7] []] false (impl_listOk_R listOk) (impl_listOk_O listOk) }), (3, { d := some true })], []] [ACalls cx.P 13 [vsl 7 eEntry list] (impl_listOk_R listOk) (impl_listOk_O listOk), (!listOk) = true] (.cons (impl_listOk_ok list listOk hlistOk) (.cons e1 .nil)) (by kernel_rfl)).is (congrArg impl_HistAt_R e) (congrArg impl_HistAt_O e))) (fun e1 h =>
 (bindD h fun in_ hin_ h =>
 (condD h (fun e2 h =>
 (someD h fun e => (Fin.fin (cx := cx) (X := impl_HistAt_X) (res := impl_HistAt_R []) (outs := impl_HistAt_O []) Try.func7 [[], [(1, { a := .call [.val [some 7] []] false (impl_listOk_R listOk) (impl_listOk_O listOk) }), (3, { d := some false }), (7, { a := .call [.val [] [], .val [] [], .val [] []] false (impl_in_R in_) (impl_in_O in_) }), (9, { d := some true })], []] [ACalls cx.P 13 [vsl 7 eEntry list] (impl_listOk_R listOk) (impl_listOk_O listOk), (!listOk) = false, ACalls cx.P 17 [vi n, vi 0, vi (list.length : Int)] (impl_in_R in_) (impl_in_O in_), (!in_) = true] (.cons (impl_listOk_ok list listOk hlistOk) (.cons e1 (.cons (impl_in_ok n 0 (list.length : Int) in_ hin_) (.cons e2 .nil)))) (by kernel_rfl)).is (congrArg impl_HistAt_R e) (congrArg impl_HistAt_O e))) (fun e2 h =>
 (needD h fun e3 h =>
 (bindD h fun certFold hcertFold h =>
 (someD h fun e => (Fin.fin (cx := cx) (X := impl_HistAt_X) (res := impl_HistAt_R certFold.Boxes) (outs := impl_HistAt_O certFold.Boxes) Try.func7 [[], [(1, { a := .call [.val [some 7] []] false (impl_listOk_R listOk) (impl_listOk_O listOk) }), (3, { d := some false }), (7, { a := .call [.val [] [], .val [] [], .val [] []] false (impl_in_R in_) (impl_in_O in_) }), (9, { d := some false })], [(2, { v := some (vsl 7 eEntry ((list.drop 0).take (n.toNat - 0))) }), (3, { a := .call [.val [some 7] []] false (impl_CertFold_R certFold) (impl_CertFold_O certFold) })]] [ACalls cx.P 13 [vsl 7 eEntry list] (impl_listOk_R listOk) (impl_listOk_O listOk), (!listOk) = false, ACalls cx.P 17 [vi n, vi 0, vi (list.length : Int)] (impl_in_R in_) (impl_in_O in_), (!in_) = false, V.sl 7 (n.toNat - 0) (((list.map eEntry).drop 0).take (n.toNat - 0)) = vsl 7 eEntry ((list.drop 0).take (n.toNat - 0)), (0 : Int) ≤ n, n ≤ ((list.length : Nat) : Int), ACalls cx.P 18 [vsl 7 eEntry ((list.drop 0).take (n.toNat - 0))] (impl_CertFold_R certFold) (impl_CertFold_O certFold)] (.cons (impl_listOk_ok list listOk hlistOk) (.cons e1 (.cons (impl_in_ok n 0 (list.length : Int) in_ hin_) (.cons e2 (.cons (sl_h e3) (.cons e3.1 (.cons e3.2 (.cons (impl_CertFold_ok ((list.drop 0).take (n.toNat - 0)) certFold hcertFold) .nil)))))))) (by kernel_rfl)).is (congrArg impl_HistAt_R e) (congrArg impl_HistAt_O e))))))))))
theorem impl_HistAt_ok (list : List TEntry) (n : Int) (r : List TBox) (h : impl_HistAt list n = some r) : ACalls cx.P 7 [vsl 7 eEntry list, vi n] (impl_HistAt_R r) (impl_HistAt_O r) :=
  ACalls.of (cx := cx) (X := impl_HistAt_X) (c := impl_HistAt_c) Try.func7 (by kernel_rfl) (by kernel_rfl) (by kernel_rfl) (impl_HistAt_fin list n r h)

/-! ### impl_same_Box -/
noncomputable def impl_same_Box_c : Code := bodyOf Try.f19
noncomputable def impl_same_Box_X : Sig := { f := 19, fn := Try.f19, rms := [.val [] []], oms := [none, none] }
noncomputable def impl_same_Box_R (r : Bool) : V := .b r
noncomputable def impl_same_Box_O (r : Bool) : List (Option V) := [none, none]
noncomputable def impl_same_Box_k1 : List Item := posI 2000 4 [false, false] [.code impl_same_Box_c]
noncomputable def impl_same_Box_S1 : St := ⟨(bs 26 []), [some []]⟩
noncomputable def impl_same_Box_k2 : Option Bool :=
  some true
theorem impl_same_Box_k2_ok (r : Bool) (h : impl_same_Box_k2 = some r) : Fin cx impl_same_Box_X (impl_same_Box_R r) (impl_same_Box_O r) impl_same_Box_k1 (impl_same_Box_S1) :=
  (someD h fun e => (Fin.fin (cx := cx) (X := impl_same_Box_X) (res := impl_same_Box_R true) (outs := impl_same_Box_O true) Try.func19 [[]] [] .nil (by kernel_rfl)).is (congrArg impl_same_Box_R e) (congrArg impl_same_Box_O e))
noncomputable def impl_same_Box_k3 : List Item := posI 2000 3 [false] [.code impl_same_Box_c]
noncomputable def impl_same_Box_S2 (a : List TBox) (b : List TBox) (v13 : Int) : St := ⟨(vsl 2 eBox a :: (vsl 2 eBox b :: (bs 10 (vi (a.length : Int) :: (vi v13 :: (bs 12 [])))))), [some []]⟩
noncomputable def impl_same_Box_b1 (a : List TBox) (b : List TBox) (v13 : Int) : Option (Stp Bool Int Unit) :=
  (bif decide (v13 < (a.length : Int)) then
 ((idx a v13).bind fun box =>
 ((idx b v13).bind fun box1 =>
 (bif (!(([box.Ver, box.Val] : List Int) == [box1.Ver, box1.Val])) then
 some (Stp.ret false)
 else
 some (Stp.nxt (w64 (v13 + 1))))))
 else
 some (Stp.brk ()))
theorem impl_same_Box_b1_ok (a : List TBox) (b : List TBox) (res : V) (outs : List (Option V)) (x1 : Exc Bool Unit) (hb1 : ∀ s : Unit, x1 = .brk s → Fin cx impl_same_Box_X res outs impl_same_Box_k1 (impl_same_Box_S1)) (hr1 : ∀ v : Bool, x1 = .ret v → (res = impl_same_Box_R v ∧ outs = impl_same_Box_O v)) (st1 : Stp Bool Int Unit) (hc1 : Cont x1 (fun s : Int => Fin cx impl_same_Box_X res outs impl_same_Box_k3 (impl_same_Box_S2 a b s)) st1) (v13 : Int) (h : impl_same_Box_b1 a b v13 = some st1) : Fin cx impl_same_Box_X res outs impl_same_Box_k3 (impl_same_Box_S2 a b v13) :=
  (condD h (fun e2 h =>
 (bindD h fun box hbox h =>
 (bindD h fun box1 hbox1 h =>
 (condD h (fun e3 h =>
 (retD h hc1 fun e => (Fin.fin (cx := cx) (X := impl_same_Box_X) (res := impl_same_Box_R false) (outs := impl_same_Box_O false) Try.func19 [[(0, { d := some true })], [], [(2, { a := .row (eBox box) }), (6, { a := .row (eBox box1) }), (8, { d := some true })], []] [decide (v13 < (a.length : Int)) = true, (0 : Int) ≤ v13, v13 < ((a.length : Nat) : Int), (a.map eBox)[v13.toNat]? = some (eBox box), (0 : Int) ≤ v13, v13 < ((b.length : Nat) : Int), (b.map eBox)[v13.toNat]? = some (eBox box1), (!(([box.Ver, box.Val] : List Int) == [box1.Ver, box1.Val])) = true] (.cons e2 (.cons (idx0 hbox) (.cons (idx1 hbox) (.cons (map_idx hbox) (.cons (idx0 hbox1) (.cons (idx1 hbox1) (.cons (map_idx hbox1) (.cons e3 .nil)))))))) (by kernel_rfl)).is (hr1 _ e).1 (hr1 _ e).2)) (fun e3 h =>
 (nxtD h hc1 fun hI => (Fin.seg [[(0, { d := some true })], [], [(2, { a := .row (eBox box) }), (6, { a := .row (eBox box1) }), (8, { d := some false })], []] [] [0, 1, 12, 13] [] [decide (v13 < (a.length : Int)) = true, (0 : Int) ≤ v13, v13 < ((a.length : Nat) : Int), (a.map eBox)[v13.toNat]? = some (eBox box), (0 : Int) ≤ v13, v13 < ((b.length : Nat) : Int), (b.map eBox)[v13.toNat]? = some (eBox box1), (!(([box.Ver, box.Val] : List Int) == [box1.Ver, box1.Val])) = false] (.cons e2 (.cons (idx0 hbox) (.cons (idx1 hbox) (.cons (map_idx hbox) (.cons (idx0 hbox1) (.cons (idx1 hbox1) (.cons (map_idx hbox1) (.cons e3 .nil)))))))) hI (by kernel_rfl)))))))) (fun e2 h =>
 (brkD h hc1 fun e => (Fin.seg [[(0, { d := some false })]] [] [] [] [decide (v13 < (a.length : Int)) = false] (.cons e2 .nil) (hb1 _ e) (by kernel_rfl)))))
theorem impl_same_Box_b1_loop (a : List TBox) (b : List TBox) (res : V) (outs : List (Option V)) (x1 : Exc Bool Unit) (hb1 : ∀ s : Unit, x1 = .brk s → Fin cx impl_same_Box_X res outs impl_same_Box_k1 (impl_same_Box_S1)) (hr1 : ∀ v : Bool, x1 = .ret v → (res = impl_same_Box_R v ∧ outs = impl_same_Box_O v)) (s : Int) (h : loop (fun s : Int => impl_same_Box_b1 a b s) s = some x1) : Fin cx impl_same_Box_X res outs impl_same_Box_k3 (impl_same_Box_S2 a b s) :=
  loopD (I := fun s : Int => Fin cx impl_same_Box_X res outs impl_same_Box_k3 (impl_same_Box_S2 a b s)) h fun s st h hc => impl_same_Box_b1_ok a b res outs x1 hb1 hr1 st hc s h
noncomputable def impl_same_Box (a : List TBox) (b : List TBox) : Option Bool :=
  (bif ((a.length : Int) != (b.length : Int)) then
 some false
 else
 ((loop (fun s : Int => impl_same_Box_b1 a b s) 0).bind fun x => x.go (fun r => some r) fun s => impl_same_Box_k2))
theorem impl_same_Box_fin (a : List TBox) (b : List TBox) (r : Bool) (h : impl_same_Box a b = some r) : Fin cx impl_same_Box_X (impl_same_Box_R r) (impl_same_Box_O r) [.code impl_same_Box_c] (startS impl_same_Box_X [vsl 2 eBox a, vsl 2 eBox b]) :=
  (condD h (fun e1 h =>
 (someD h fun e => (Fin.fin (cx := cx) (X := impl_same_Box_X) (res := impl_same_Box_R false) (outs := impl_same_Box_O false) Try.func19 [[], [(4, { d := some true })], []] [((a.length : Int) != (b.length : Int)) = true] (.cons e1 .nil) (by kernel_rfl)).is (congrArg impl_same_Box_R e) (congrArg impl_same_Box_O e))) (fun e1 h =>
 (loopJ h fun x hl hr hb => (Fin.seg [[], [(4, { d := some false })], []] [] [0, 1, 12, 13] [] [((a.length : Int) != (b.length : Int)) = false] (.cons e1 .nil) (impl_same_Box_b1_loop a b _ _ x (fun s e => impl_same_Box_k2_ok r (hb s e)) (fun v e => ⟨congrArg impl_same_Box_R (Option.some.inj (hr v e)).symm, congrArg impl_same_Box_O (Option.some.inj (hr v e)).symm⟩) 0 hl) (by kernel_rfl)))))
theorem impl_same_Box_ok (a : List TBox) (b : List TBox) (r : Bool) (h : impl_same_Box a b = some r) : ACalls cx.P 19 [vsl 2 eBox a, vsl 2 eBox b] (impl_same_Box_R r) (impl_same_Box_O r) :=
  ACalls.of (cx := cx) (X := impl_same_Box_X) (c := impl_same_Box_c) Try.func19 (by kernel_rfl) (by kernel_rfl) (by kernel_rfl) (impl_same_Box_fin a b r h)

/-! ### impl_BoxSame -/
noncomputable def impl_BoxSame_c : Code := bodyOf Try.f8
noncomputable def impl_BoxSame_X : Sig := { f := 8, fn := Try.f8, rms := [.val [] []], oms := [none, none] }
noncomputable def impl_BoxSame_R (r : Bool) : V := .b r
noncomputable def impl_BoxSame_O (r : Bool) : List (Option V) := [none, none]
noncomputable def impl_BoxSame (a : List TBox) (b : List TBox) : Option Bool :=
  ((impl_same_Box a b).bind fun box =>
 some box)
theorem impl_BoxSame_fin (a : List TBox) (b : List TBox) (r : Bool) (h : impl_BoxSame a b = some r) : Fin cx impl_BoxSame_X (impl_BoxSame_R r) (impl_BoxSame_O r) [.code impl_BoxSame_c] (startS impl_BoxSame_X [vsl 2 eBox a, vsl 2 eBox b]) :=
  (bindD h fun box hbox h =>
 (someD h fun e => (Fin.fin (cx := cx) (X := impl_BoxSame_X) (res := impl_BoxSame_R box) (outs := impl_BoxSame_O box) Try.func8 [[], [(2, { a := .call [.val [some 2] [], .val [some 2] []] false (impl_same_Box_R box) (impl_same_Box_O box) })]] [ACalls cx.P 19 [vsl 2 eBox a, vsl 2 eBox b] (impl_same_Box_R box) (impl_same_Box_O box)] (.cons (impl_same_Box_ok a b box hbox) .nil) (by kernel_rfl)).is (congrArg impl_BoxSame_R e) (congrArg impl_BoxSame_O e)))
theorem impl_BoxSame_ok (a : List TBox) (b : List TBox) (r : Bool) (h : impl_BoxSame a b = some r) : ACalls cx.P 8 [vsl 2 eBox a, vsl 2 eBox b] (impl_BoxSame_R r) (impl_BoxSame_O r) :=
  ACalls.of (cx := cx) (X := impl_BoxSame_X) (c := impl_BoxSame_c) Try.func8 (by kernel_rfl) (by kernel_rfl) (by kernel_rfl) (impl_BoxSame_fin a b r h)

/-! ### impl_putAt -/
noncomputable def impl_putAt_c : Code := bodyOf Try.f30
noncomputable def impl_putAt_X : Sig := { f := 30, fn := Try.f30, rms := [.val [] []], oms := [none, none] }
noncomputable def impl_putAt_R (r : Int) : V := vi r
noncomputable def impl_putAt_O (r : Int) : List (Option V) := [none, none]
noncomputable def impl_putAt_k1 : List Item := posI 2000 3 [false] [.code impl_putAt_c]
noncomputable def impl_putAt_S1 : St := ⟨(bs 21 []), [some []]⟩
noncomputable def impl_putAt_k2 : Option Int :=
  some (-1)
theorem impl_putAt_k2_ok (r : Int) (h : impl_putAt_k2 = some r) : Fin cx impl_putAt_X (impl_putAt_R r) (impl_putAt_O r) impl_putAt_k1 (impl_putAt_S1) :=
  (someD h fun e => (Fin.fin (cx := cx) (X := impl_putAt_X) (res := impl_putAt_R (-1)) (outs := impl_putAt_O (-1)) Try.func30 [[]] [] .nil (by kernel_rfl)).is (congrArg impl_putAt_R e) (congrArg impl_putAt_O e))
noncomputable def impl_putAt_k3 : List Item := posI 2000 2 [] [.code impl_putAt_c]
noncomputable def impl_putAt_S2 (r_ : TRun) (box : Int) (v10 : Int) : St := ⟨(bs 1 (vi box :: (bs 6 (vsl 2 ePut r_.Puts :: (vi (r_.Puts.length : Int) :: (vi v10 :: (bs 10 []))))))), [some []]⟩
noncomputable def impl_putAt_b1 (r_ : TRun) (box : Int) (v10 : Int) : Option (Stp Int Int Unit) :=
  (bif decide (v10 < (r_.Puts.length : Int)) then
 ((idx r_.Puts v10).bind fun put =>
 (bif (put.Box == box) then
 some (Stp.ret v10)
 else
 some (Stp.nxt (w64 (v10 + 1)))))
 else
 some (Stp.brk ()))
theorem impl_putAt_b1_ok (r_ : TRun) (box : Int) (res : V) (outs : List (Option V)) (x1 : Exc Int Unit) (hb1 : ∀ s : Unit, x1 = .brk s → Fin cx impl_putAt_X res outs impl_putAt_k1 (impl_putAt_S1)) (hr1 : ∀ v : Int, x1 = .ret v → (res = impl_putAt_R v ∧ outs = impl_putAt_O v)) (st1 : Stp Int Int Unit) (hc1 : Cont x1 (fun s : Int => Fin cx impl_putAt_X res outs impl_putAt_k3 (impl_putAt_S2 r_ box s)) st1) (v10 : Int) (h : impl_putAt_b1 r_ box v10 = some st1) : Fin cx impl_putAt_X res outs impl_putAt_k3 (impl_putAt_S2 r_ box v10) :=
  (condD h (fun e1 h =>
 (bindD h fun put hput h =>
 (condD h (fun e2 h =>
 (retD h hc1 fun e => (Fin.fin (cx := cx) (X := impl_putAt_X) (res := impl_putAt_R v10) (outs := impl_putAt_O v10) Try.func30 [[(0, { d := some true })], [(1, { a := .row (ePut put) })], [(3, { d := some true })], []] [decide (v10 < (r_.Puts.length : Int)) = true, (0 : Int) ≤ v10, v10 < ((r_.Puts.length : Nat) : Int), (r_.Puts.map ePut)[v10.toNat]? = some (ePut put), (put.Box == box) = true] (.cons e1 (.cons (idx0 hput) (.cons (idx1 hput) (.cons (map_idx hput) (.cons e2 .nil))))) (by kernel_rfl)).is (hr1 _ e).1 (hr1 _ e).2)) (fun e2 h =>
 (nxtD h hc1 fun hI => (Fin.seg [[(0, { d := some true })], [(1, { a := .row (ePut put) })], [(3, { d := some false })], []] [] [1, 8, 9, 10] [] [decide (v10 < (r_.Puts.length : Int)) = true, (0 : Int) ≤ v10, v10 < ((r_.Puts.length : Nat) : Int), (r_.Puts.map ePut)[v10.toNat]? = some (ePut put), (put.Box == box) = false] (.cons e1 (.cons (idx0 hput) (.cons (idx1 hput) (.cons (map_idx hput) (.cons e2 .nil))))) hI (by kernel_rfl))))))) (fun e1 h =>
 (brkD h hc1 fun e => (Fin.seg [[(0, { d := some false })]] [] [] [] [decide (v10 < (r_.Puts.length : Int)) = false] (.cons e1 .nil) (hb1 _ e) (by kernel_rfl)))))
theorem impl_putAt_b1_loop (r_ : TRun) (box : Int) (res : V) (outs : List (Option V)) (x1 : Exc Int Unit) (hb1 : ∀ s : Unit, x1 = .brk s → Fin cx impl_putAt_X res outs impl_putAt_k1 (impl_putAt_S1)) (hr1 : ∀ v : Int, x1 = .ret v → (res = impl_putAt_R v ∧ outs = impl_putAt_O v)) (s : Int) (h : loop (fun s : Int => impl_putAt_b1 r_ box s) s = some x1) : Fin cx impl_putAt_X res outs impl_putAt_k3 (impl_putAt_S2 r_ box s) :=
  loopD (I := fun s : Int => Fin cx impl_putAt_X res outs impl_putAt_k3 (impl_putAt_S2 r_ box s)) h fun s st h hc => impl_putAt_b1_ok r_ box res outs x1 hb1 hr1 st hc s h
noncomputable def impl_putAt (r_ : TRun) (box : Int) : Option Int :=
  ((loop (fun s : Int => impl_putAt_b1 r_ box s) 0).bind fun x => x.go (fun r => some r) fun s => impl_putAt_k2)
theorem impl_putAt_fin (r_ : TRun) (box : Int) (r : Int) (h : impl_putAt r_ box = some r) : Fin cx impl_putAt_X (impl_putAt_R r) (impl_putAt_O r) [.code impl_putAt_c] (startS impl_putAt_X [.agg (eRun r_), vi box]) :=
  (loopJ h fun x hl hr hb => (Fin.seg [[], []] [] [1, 8, 9, 10] [] [] .nil (impl_putAt_b1_loop r_ box _ _ x (fun s e => impl_putAt_k2_ok r (hb s e)) (fun v e => ⟨congrArg impl_putAt_R (Option.some.inj (hr v e)).symm, congrArg impl_putAt_O (Option.some.inj (hr v e)).symm⟩) 0 hl) (by kernel_rfl)))
theorem impl_putAt_ok (r_ : TRun) (box : Int) (r : Int) (h : impl_putAt r_ box = some r) : ACalls cx.P 30 [.agg (eRun r_), vi box] (impl_putAt_R r) (impl_putAt_O r) :=
  ACalls.of (cx := cx) (X := impl_putAt_X) (c := impl_putAt_c) Try.func30 (by kernel_rfl) (by kernel_rfl) (by kernel_rfl) (impl_putAt_fin r_ box r h)

/-! ### impl_readAt -/
noncomputable def impl_readAt_c : Code := bodyOf Try.f31
noncomputable def impl_readAt_X : Sig := { f := 31, fn := Try.f31, rms := [.val [] []], oms := [none, none] }
noncomputable def impl_readAt_R (r : Int) : V := vi r
noncomputable def impl_readAt_O (r : Int) : List (Option V) := [none, none]
noncomputable def impl_readAt_k1 : List Item := posI 2000 3 [false] [.code impl_readAt_c]
noncomputable def impl_readAt_S1 : St := ⟨(bs 21 []), [some []]⟩
noncomputable def impl_readAt_k2 : Option Int :=
  some (-1)
theorem impl_readAt_k2_ok (r : Int) (h : impl_readAt_k2 = some r) : Fin cx impl_readAt_X (impl_readAt_R r) (impl_readAt_O r) impl_readAt_k1 (impl_readAt_S1) :=
  (someD h fun e => (Fin.fin (cx := cx) (X := impl_readAt_X) (res := impl_readAt_R (-1)) (outs := impl_readAt_O (-1)) Try.func31 [[]] [] .nil (by kernel_rfl)).is (congrArg impl_readAt_R e) (congrArg impl_readAt_O e))
noncomputable def impl_readAt_k3 : List Item := posI 2000 2 [] [.code impl_readAt_c]
noncomputable def impl_readAt_S2 (r_ : TRun) (box : Int) (v10 : Int) : St := ⟨(bs 1 (vi box :: (bs 6 (vsl 2 eRead r_.Reads :: (vi (r_.Reads.length : Int) :: (vi v10 :: (bs 10 []))))))), [some []]⟩
noncomputable def impl_readAt_b1 (r_ : TRun) (box : Int) (v10 : Int) : Option (Stp Int Int Unit) :=
  (bif decide (v10 < (r_.Reads.length : Int)) then
 ((idx r_.Reads v10).bind fun read =>
 (bif (read.Box == box) then
 some (Stp.ret v10)
 else
 some (Stp.nxt (w64 (v10 + 1)))))
 else
 some (Stp.brk ()))
theorem impl_readAt_b1_ok (r_ : TRun) (box : Int) (res : V) (outs : List (Option V)) (x1 : Exc Int Unit) (hb1 : ∀ s : Unit, x1 = .brk s → Fin cx impl_readAt_X res outs impl_readAt_k1 (impl_readAt_S1)) (hr1 : ∀ v : Int, x1 = .ret v → (res = impl_readAt_R v ∧ outs = impl_readAt_O v)) (st1 : Stp Int Int Unit) (hc1 : Cont x1 (fun s : Int => Fin cx impl_readAt_X res outs impl_readAt_k3 (impl_readAt_S2 r_ box s)) st1) (v10 : Int) (h : impl_readAt_b1 r_ box v10 = some st1) : Fin cx impl_readAt_X res outs impl_readAt_k3 (impl_readAt_S2 r_ box v10) :=
  (condD h (fun e1 h =>
 (bindD h fun read hread h =>
 (condD h (fun e2 h =>
 (retD h hc1 fun e => (Fin.fin (cx := cx) (X := impl_readAt_X) (res := impl_readAt_R v10) (outs := impl_readAt_O v10) Try.func31 [[(0, { d := some true })], [(1, { a := .row (eRead read) })], [(3, { d := some true })], []] [decide (v10 < (r_.Reads.length : Int)) = true, (0 : Int) ≤ v10, v10 < ((r_.Reads.length : Nat) : Int), (r_.Reads.map eRead)[v10.toNat]? = some (eRead read), (read.Box == box) = true] (.cons e1 (.cons (idx0 hread) (.cons (idx1 hread) (.cons (map_idx hread) (.cons e2 .nil))))) (by kernel_rfl)).is (hr1 _ e).1 (hr1 _ e).2)) (fun e2 h =>
 (nxtD h hc1 fun hI => (Fin.seg [[(0, { d := some true })], [(1, { a := .row (eRead read) })], [(3, { d := some false })], []] [] [1, 8, 9, 10] [] [decide (v10 < (r_.Reads.length : Int)) = true, (0 : Int) ≤ v10, v10 < ((r_.Reads.length : Nat) : Int), (r_.Reads.map eRead)[v10.toNat]? = some (eRead read), (read.Box == box) = false] (.cons e1 (.cons (idx0 hread) (.cons (idx1 hread) (.cons (map_idx hread) (.cons e2 .nil))))) hI (by kernel_rfl))))))) (fun e1 h =>
 (brkD h hc1 fun e => (Fin.seg [[(0, { d := some false })]] [] [] [] [decide (v10 < (r_.Reads.length : Int)) = false] (.cons e1 .nil) (hb1 _ e) (by kernel_rfl)))))
theorem impl_readAt_b1_loop (r_ : TRun) (box : Int) (res : V) (outs : List (Option V)) (x1 : Exc Int Unit) (hb1 : ∀ s : Unit, x1 = .brk s → Fin cx impl_readAt_X res outs impl_readAt_k1 (impl_readAt_S1)) (hr1 : ∀ v : Int, x1 = .ret v → (res = impl_readAt_R v ∧ outs = impl_readAt_O v)) (s : Int) (h : loop (fun s : Int => impl_readAt_b1 r_ box s) s = some x1) : Fin cx impl_readAt_X res outs impl_readAt_k3 (impl_readAt_S2 r_ box s) :=
  loopD (I := fun s : Int => Fin cx impl_readAt_X res outs impl_readAt_k3 (impl_readAt_S2 r_ box s)) h fun s st h hc => impl_readAt_b1_ok r_ box res outs x1 hb1 hr1 st hc s h
noncomputable def impl_readAt (r_ : TRun) (box : Int) : Option Int :=
  ((loop (fun s : Int => impl_readAt_b1 r_ box s) 0).bind fun x => x.go (fun r => some r) fun s => impl_readAt_k2)
theorem impl_readAt_fin (r_ : TRun) (box : Int) (r : Int) (h : impl_readAt r_ box = some r) : Fin cx impl_readAt_X (impl_readAt_R r) (impl_readAt_O r) [.code impl_readAt_c] (startS impl_readAt_X [.agg (eRun r_), vi box]) :=
  (loopJ h fun x hl hr hb => (Fin.seg [[], []] [] [1, 8, 9, 10] [] [] .nil (impl_readAt_b1_loop r_ box _ _ x (fun s e => impl_readAt_k2_ok r (hb s e)) (fun v e => ⟨congrArg impl_readAt_R (Option.some.inj (hr v e)).symm, congrArg impl_readAt_O (Option.some.inj (hr v e)).symm⟩) 0 hl) (by kernel_rfl)))
theorem impl_readAt_ok (r_ : TRun) (box : Int) (r : Int) (h : impl_readAt r_ box = some r) : ACalls cx.P 31 [.agg (eRun r_), vi box] (impl_readAt_R r) (impl_readAt_O r) :=
  ACalls.of (cx := cx) (X := impl_readAt_X) (c := impl_readAt_c) Try.func31 (by kernel_rfl) (by kernel_rfl) (by kernel_rfl) (impl_readAt_fin r_ box r h)

/-! ### impl_clash -/
noncomputable def impl_clash_c : Code := bodyOf Try.f20
noncomputable def impl_clash_X : Sig := { f := 20, fn := Try.f20, rms := [.val [] []], oms := [none, none, none] }
noncomputable def impl_clash_R (r : Bool) : V := .b r
noncomputable def impl_clash_O (r : Bool) : List (Option V) := [none, none, none]
noncomputable def impl_clash (a : TRun) (b : TRun) (box : Int) : Option Bool :=
  ((impl_putAt a box).bind fun putAt =>
 ((impl_putAt b box).bind fun putAt1 =>
 (bif decide (putAt ≥ 0) then
 (bif decide (putAt1 ≥ 0) then
 some true
 else
 (bif decide (putAt ≥ 0) then
 ((impl_readAt b box).bind fun readAt =>
 (bif decide (readAt ≥ 0) then
 some true
 else
 (bif decide (putAt1 ≥ 0) then
 ((impl_readAt a box).bind fun readAt1 =>
 some (decide (readAt1 ≥ 0)))
 else
 some false)))
 else
 (bif decide (putAt1 ≥ 0) then
 ((impl_readAt a box).bind fun readAt2 =>
 some (decide (readAt2 ≥ 0)))
 else
 some false)))
 else
 (bif decide (putAt ≥ 0) then
 ((impl_readAt b box).bind fun readAt3 =>
 (bif decide (readAt3 ≥ 0) then
 some true
 else
 (bif decide (putAt1 ≥ 0) then
 ((impl_readAt a box).bind fun readAt4 =>
 some (decide (readAt4 ≥ 0)))
 else
 some false)))
 else
 (bif decide (putAt1 ≥ 0) then
 ((impl_readAt a box).bind fun readAt5 =>
 some (decide (readAt5 ≥ 0)))
 else
 some false)))))
theorem impl_clash_fin (a : TRun) (b : TRun) (box : Int) (r : Bool) (h : impl_clash a b box = some r) : Fin cx impl_clash_X (impl_clash_R r) (impl_clash_O r) [.code impl_clash_c] (startS impl_clash_X [.agg (eRun a), .agg (eRun b), vi box]) :=
  (bindD h fun putAt hputAt h =>
 (bindD h fun putAt1 hputAt1 h =>
 (condD h (fun e1 h =>
 (condD h (fun e2 h =>
 (someD h fun e => (Fin.fin (cx := cx) (X := impl_clash_X) (res := impl_clash_R true) (outs := impl_clash_O true) Try.func20 [[], [(2, { a := .call [.val [some 2, some 2, none, none] [], .val [] []] false (impl_putAt_R putAt) (impl_putAt_O putAt) }), (6, { a := .call [.val [some 2, some 2, none, none] [], .val [] []] false (impl_putAt_R putAt1) (impl_putAt_O putAt1) })], [(1, { d := some true }), (4, { d := some true })]] [ACalls cx.P 30 [.agg (eRun a), vi box] (impl_putAt_R putAt) (impl_putAt_O putAt), ACalls cx.P 30 [.agg (eRun b), vi box] (impl_putAt_R putAt1) (impl_putAt_O putAt1), decide (putAt ≥ 0) = true, decide (putAt1 ≥ 0) = true] (.cons (impl_putAt_ok a box putAt hputAt) (.cons (impl_putAt_ok b box putAt1 hputAt1) (.cons e1 (.cons e2 .nil)))) (by kernel_rfl)).is (congrArg impl_clash_R e) (congrArg impl_clash_O e))) (fun e2 h =>
 (condD h (fun e3 h =>
 (bindD h fun readAt hreadAt h =>
 (condD h (fun e4 h =>
 (someD h fun e => (Fin.fin (cx := cx) (X := impl_clash_X) (res := impl_clash_R true) (outs := impl_clash_O true) Try.func20 [[], [(2, { a := .call [.val [some 2, some 2, none, none] [], .val [] []] false (impl_putAt_R putAt) (impl_putAt_O putAt) }), (6, { a := .call [.val [some 2, some 2, none, none] [], .val [] []] false (impl_putAt_R putAt1) (impl_putAt_O putAt1) })], [(1, { d := some true }), (4, { d := some false }), (6, { d := some true }), (9, { a := .call [.val [some 2, some 2, none, none] [], .val [] []] false (impl_readAt_R readAt) (impl_readAt_O readAt) }), (13, { d := some true })]] [ACalls cx.P 30 [.agg (eRun a), vi box] (impl_putAt_R putAt) (impl_putAt_O putAt), ACalls cx.P 30 [.agg (eRun b), vi box] (impl_putAt_R putAt1) (impl_putAt_O putAt1), decide (putAt ≥ 0) = true, decide (putAt1 ≥ 0) = false, decide (putAt ≥ 0) = true, ACalls cx.P 31 [.agg (eRun b), vi box] (impl_readAt_R readAt) (impl_readAt_O readAt), decide (readAt ≥ 0) = true] (.cons (impl_putAt_ok a box putAt hputAt) (.cons (impl_putAt_ok b box putAt1 hputAt1) (.cons e1 (.cons e2 (.cons e3 (.cons (impl_readAt_ok b box readAt hreadAt) (.cons e4 .nil))))))) (by kernel_rfl)).is (congrArg impl_clash_R e) (congrArg impl_clash_O e))) (fun e4 h =>
 (condD h (fun e5 h =>
 (bindD h fun readAt1 hreadAt1 h =>
 (someD h fun e => (Fin.fin (cx := cx) (X := impl_clash_X) (res := impl_clash_R (decide (readAt1 ≥ 0))) (outs := impl_clash_O (decide (readAt1 ≥ 0))) Try.func20 [[], [(2, { a := .call [.val [some 2, some 2, none, none] [], .val [] []] false (impl_putAt_R putAt) (impl_putAt_O putAt) }), (6, { a := .call [.val [some 2, some 2, none, none] [], .val [] []] false (impl_putAt_R putAt1) (impl_putAt_O putAt1) })], [(1, { d := some true }), (4, { d := some false }), (6, { d := some true }), (9, { a := .call [.val [some 2, some 2, none, none] [], .val [] []] false (impl_readAt_R readAt) (impl_readAt_O readAt) }), (13, { d := some false }), (15, { d := some true }), (18, { a := .call [.val [some 2, some 2, none, none] [], .val [] []] false (impl_readAt_R readAt1) (impl_readAt_O readAt1) })]] [ACalls cx.P 30 [.agg (eRun a), vi box] (impl_putAt_R putAt) (impl_putAt_O putAt), ACalls cx.P 30 [.agg (eRun b), vi box] (impl_putAt_R putAt1) (impl_putAt_O putAt1), decide (putAt ≥ 0) = true, decide (putAt1 ≥ 0) = false, decide (putAt ≥ 0) = true, ACalls cx.P 31 [.agg (eRun b), vi box] (impl_readAt_R readAt) (impl_readAt_O readAt), decide (readAt ≥ 0) = false, decide (putAt1 ≥ 0) = true, ACalls cx.P 31 [.agg (eRun a), vi box] (impl_readAt_R readAt1) (impl_readAt_O readAt1)] (.cons (impl_putAt_ok a box putAt hputAt) (.cons (impl_putAt_ok b box putAt1 hputAt1) (.cons e1 (.cons e2 (.cons e3 (.cons (impl_readAt_ok b box readAt hreadAt) (.cons e4 (.cons e5 (.cons (impl_readAt_ok a box readAt1 hreadAt1) .nil))))))))) (by kernel_rfl)).is (congrArg impl_clash_R e) (congrArg impl_clash_O e)))) (fun e5 h =>
 (someD h fun e => (Fin.fin (cx := cx) (X := impl_clash_X) (res := impl_clash_R false) (outs := impl_clash_O false) Try.func20 [[], [(2, { a := .call [.val [some 2, some 2, none, none] [], .val [] []] false (impl_putAt_R putAt) (impl_putAt_O putAt) }), (6, { a := .call [.val [some 2, some 2, none, none] [], .val [] []] false (impl_putAt_R putAt1) (impl_putAt_O putAt1) })], [(1, { d := some true }), (4, { d := some false }), (6, { d := some true }), (9, { a := .call [.val [some 2, some 2, none, none] [], .val [] []] false (impl_readAt_R readAt) (impl_readAt_O readAt) }), (13, { d := some false }), (15, { d := some false })]] [ACalls cx.P 30 [.agg (eRun a), vi box] (impl_putAt_R putAt) (impl_putAt_O putAt), ACalls cx.P 30 [.agg (eRun b), vi box] (impl_putAt_R putAt1) (impl_putAt_O putAt1), decide (putAt ≥ 0) = true, decide (putAt1 ≥ 0) = false, decide (putAt ≥ 0) = true, ACalls cx.P 31 [.agg (eRun b), vi box] (impl_readAt_R readAt) (impl_readAt_O readAt), decide (readAt ≥ 0) = false, decide (putAt1 ≥ 0) = false] (.cons (impl_putAt_ok a box putAt hputAt) (.cons (impl_putAt_ok b box putAt1 hputAt1) (.cons e1 (.cons e2 (.cons e3 (.cons (impl_readAt_ok b box readAt hreadAt) (.cons e4 (.cons e5 .nil)))))))) (by kernel_rfl)).is (congrArg impl_clash_R e) (congrArg impl_clash_O e)))))))) (fun e3 h =>
 (condD h (fun e6 h =>
 (bindD h fun readAt2 hreadAt2 h =>
 (someD h fun e => (Fin.fin (cx := cx) (X := impl_clash_X) (res := impl_clash_R (decide (readAt2 ≥ 0))) (outs := impl_clash_O (decide (readAt2 ≥ 0))) Try.func20 [[], [(2, { a := .call [.val [some 2, some 2, none, none] [], .val [] []] false (impl_putAt_R putAt) (impl_putAt_O putAt) }), (6, { a := .call [.val [some 2, some 2, none, none] [], .val [] []] false (impl_putAt_R putAt1) (impl_putAt_O putAt1) })], [(1, { d := some true }), (4, { d := some false }), (6, { d := some false }), (15, { d := some true }), (18, { a := .call [.val [some 2, some 2, none, none] [], .val [] []] false (impl_readAt_R readAt2) (impl_readAt_O readAt2) })]] [ACalls cx.P 30 [.agg (eRun a), vi box] (impl_putAt_R putAt) (impl_putAt_O putAt), ACalls cx.P 30 [.agg (eRun b), vi box] (impl_putAt_R putAt1) (impl_putAt_O putAt1), decide (putAt ≥ 0) = true, decide (putAt1 ≥ 0) = false, decide (putAt ≥ 0) = false, decide (putAt1 ≥ 0) = true, ACalls cx.P 31 [.agg (eRun a), vi box] (impl_readAt_R readAt2) (impl_readAt_O readAt2)] (.cons (impl_putAt_ok a box putAt hputAt) (.cons (impl_putAt_ok b box putAt1 hputAt1) (.cons e1 (.cons e2 (.cons e3 (.cons e6 (.cons (impl_readAt_ok a box readAt2 hreadAt2) .nil))))))) (by kernel_rfl)).is (congrArg impl_clash_R e) (congrArg impl_clash_O e)))) (fun e6 h =>
 (someD h fun e => (Fin.fin (cx := cx) (X := impl_clash_X) (res := impl_clash_R false) (outs := impl_clash_O false) Try.func20 [[], [(2, { a := .call [.val [some 2, some 2, none, none] [], .val [] []] false (impl_putAt_R putAt) (impl_putAt_O putAt) }), (6, { a := .call [.val [some 2, some 2, none, none] [], .val [] []] false (impl_putAt_R putAt1) (impl_putAt_O putAt1) })], [(1, { d := some true }), (4, { d := some false }), (6, { d := some false }), (15, { d := some false })]] [ACalls cx.P 30 [.agg (eRun a), vi box] (impl_putAt_R putAt) (impl_putAt_O putAt), ACalls cx.P 30 [.agg (eRun b), vi box] (impl_putAt_R putAt1) (impl_putAt_O putAt1), decide (putAt ≥ 0) = true, decide (putAt1 ≥ 0) = false, decide (putAt ≥ 0) = false, decide (putAt1 ≥ 0) = false] (.cons (impl_putAt_ok a box putAt hputAt) (.cons (impl_putAt_ok b box putAt1 hputAt1) (.cons e1 (.cons e2 (.cons e3 (.cons e6 .nil)))))) (by kernel_rfl)).is (congrArg impl_clash_R e) (congrArg impl_clash_O e))))))))) (fun e1 h =>
 (condD h (fun e7 h =>
 (bindD h fun readAt3 hreadAt3 h =>
 (condD h (fun e8 h =>
 (someD h fun e => (Fin.fin (cx := cx) (X := impl_clash_X) (res := impl_clash_R true) (outs := impl_clash_O true) Try.func20 [[], [(2, { a := .call [.val [some 2, some 2, none, none] [], .val [] []] false (impl_putAt_R putAt) (impl_putAt_O putAt) }), (6, { a := .call [.val [some 2, some 2, none, none] [], .val [] []] false (impl_putAt_R putAt1) (impl_putAt_O putAt1) })], [(1, { d := some false }), (6, { d := some true }), (9, { a := .call [.val [some 2, some 2, none, none] [], .val [] []] false (impl_readAt_R readAt3) (impl_readAt_O readAt3) }), (13, { d := some true })]] [ACalls cx.P 30 [.agg (eRun a), vi box] (impl_putAt_R putAt) (impl_putAt_O putAt), ACalls cx.P 30 [.agg (eRun b), vi box] (impl_putAt_R putAt1) (impl_putAt_O putAt1), decide (putAt ≥ 0) = false, decide (putAt ≥ 0) = true, ACalls cx.P 31 [.agg (eRun b), vi box] (impl_readAt_R readAt3) (impl_readAt_O readAt3), decide (readAt3 ≥ 0) = true] (.cons (impl_putAt_ok a box putAt hputAt) (.cons (impl_putAt_ok b box putAt1 hputAt1) (.cons e1 (.cons e7 (.cons (impl_readAt_ok b box readAt3 hreadAt3) (.cons e8 .nil)))))) (by kernel_rfl)).is (congrArg impl_clash_R e) (congrArg impl_clash_O e))) (fun e8 h =>
 (condD h (fun e9 h =>
 (bindD h fun readAt4 hreadAt4 h =>
 (someD h fun e => (Fin.fin (cx := cx) (X := impl_clash_X) (res := impl_clash_R (decide (readAt4 ≥ 0))) (outs := impl_clash_O (decide (readAt4 ≥ 0))) Try.func20 [[], [(2, { a := .call [.val [some 2, some 2, none, none] [], .val [] []] false (impl_putAt_R putAt) (impl_putAt_O putAt) }), (6, { a := .call [.val [some 2, some 2, none, none] [], .val [] []] false (impl_putAt_R putAt1) (impl_putAt_O putAt1) })], [(1, { d := some false }), (6, { d := some true }), (9, { a := .call [.val [some 2, some 2, none, none] [], .val [] []] false (impl_readAt_R readAt3) (impl_readAt_O readAt3) }), (13, { d := some false }), (15, { d := some true }), (18, { a := .call [.val [some 2, some 2, none, none] [], .val [] []] false (impl_readAt_R readAt4) (impl_readAt_O readAt4) })]] [ACalls cx.P 30 [.agg (eRun a), vi box] (impl_putAt_R putAt) (impl_putAt_O putAt), ACalls cx.P 30 [.agg (eRun b), vi box] (impl_putAt_R putAt1) (impl_putAt_O putAt1), decide (putAt ≥ 0) = false, decide (putAt ≥ 0) = true, ACalls cx.P 31 [.agg (eRun b), vi box] (impl_readAt_R readAt3) (impl_readAt_O readAt3), decide (readAt3 ≥ 0) = false, decide (putAt1 ≥ 0) = true, ACalls cx.P 31 [.agg (eRun a), vi box] (impl_readAt_R readAt4) (impl_readAt_O readAt4)] (.cons (impl_putAt_ok a box putAt hputAt) (.cons (impl_putAt_ok b box putAt1 hputAt1) (.cons e1 (.cons e7 (.cons (impl_readAt_ok b box readAt3 hreadAt3) (.cons e8 (.cons e9 (.cons (impl_readAt_ok a box readAt4 hreadAt4) .nil)))))))) (by kernel_rfl)).is (congrArg impl_clash_R e) (congrArg impl_clash_O e)))) (fun e9 h =>
 (someD h fun e => (Fin.fin (cx := cx) (X := impl_clash_X) (res := impl_clash_R false) (outs := impl_clash_O false) Try.func20 [[], [(2, { a := .call [.val [some 2, some 2, none, none] [], .val [] []] false (impl_putAt_R putAt) (impl_putAt_O putAt) }), (6, { a := .call [.val [some 2, some 2, none, none] [], .val [] []] false (impl_putAt_R putAt1) (impl_putAt_O putAt1) })], [(1, { d := some false }), (6, { d := some true }), (9, { a := .call [.val [some 2, some 2, none, none] [], .val [] []] false (impl_readAt_R readAt3) (impl_readAt_O readAt3) }), (13, { d := some false }), (15, { d := some false })]] [ACalls cx.P 30 [.agg (eRun a), vi box] (impl_putAt_R putAt) (impl_putAt_O putAt), ACalls cx.P 30 [.agg (eRun b), vi box] (impl_putAt_R putAt1) (impl_putAt_O putAt1), decide (putAt ≥ 0) = false, decide (putAt ≥ 0) = true, ACalls cx.P 31 [.agg (eRun b), vi box] (impl_readAt_R readAt3) (impl_readAt_O readAt3), decide (readAt3 ≥ 0) = false, decide (putAt1 ≥ 0) = false] (.cons (impl_putAt_ok a box putAt hputAt) (.cons (impl_putAt_ok b box putAt1 hputAt1) (.cons e1 (.cons e7 (.cons (impl_readAt_ok b box readAt3 hreadAt3) (.cons e8 (.cons e9 .nil))))))) (by kernel_rfl)).is (congrArg impl_clash_R e) (congrArg impl_clash_O e)))))))) (fun e7 h =>
 (condD h (fun e10 h =>
 (bindD h fun readAt5 hreadAt5 h =>
 (someD h fun e => (Fin.fin (cx := cx) (X := impl_clash_X) (res := impl_clash_R (decide (readAt5 ≥ 0))) (outs := impl_clash_O (decide (readAt5 ≥ 0))) Try.func20 [[], [(2, { a := .call [.val [some 2, some 2, none, none] [], .val [] []] false (impl_putAt_R putAt) (impl_putAt_O putAt) }), (6, { a := .call [.val [some 2, some 2, none, none] [], .val [] []] false (impl_putAt_R putAt1) (impl_putAt_O putAt1) })], [(1, { d := some false }), (6, { d := some false }), (15, { d := some true }), (18, { a := .call [.val [some 2, some 2, none, none] [], .val [] []] false (impl_readAt_R readAt5) (impl_readAt_O readAt5) })]] [ACalls cx.P 30 [.agg (eRun a), vi box] (impl_putAt_R putAt) (impl_putAt_O putAt), ACalls cx.P 30 [.agg (eRun b), vi box] (impl_putAt_R putAt1) (impl_putAt_O putAt1), decide (putAt ≥ 0) = false, decide (putAt ≥ 0) = false, decide (putAt1 ≥ 0) = true, ACalls cx.P 31 [.agg (eRun a), vi box] (impl_readAt_R readAt5) (impl_readAt_O readAt5)] (.cons (impl_putAt_ok a box putAt hputAt) (.cons (impl_putAt_ok b box putAt1 hputAt1) (.cons e1 (.cons e7 (.cons e10 (.cons (impl_readAt_ok a box readAt5 hreadAt5) .nil)))))) (by kernel_rfl)).is (congrArg impl_clash_R e) (congrArg impl_clash_O e)))) (fun e10 h =>
 (someD h fun e => (Fin.fin (cx := cx) (X := impl_clash_X) (res := impl_clash_R false) (outs := impl_clash_O false) Try.func20 [[], [(2, { a := .call [.val [some 2, some 2, none, none] [], .val [] []] false (impl_putAt_R putAt) (impl_putAt_O putAt) }), (6, { a := .call [.val [some 2, some 2, none, none] [], .val [] []] false (impl_putAt_R putAt1) (impl_putAt_O putAt1) })], [(1, { d := some false }), (6, { d := some false }), (15, { d := some false })]] [ACalls cx.P 30 [.agg (eRun a), vi box] (impl_putAt_R putAt) (impl_putAt_O putAt), ACalls cx.P 30 [.agg (eRun b), vi box] (impl_putAt_R putAt1) (impl_putAt_O putAt1), decide (putAt ≥ 0) = false, decide (putAt ≥ 0) = false, decide (putAt1 ≥ 0) = false] (.cons (impl_putAt_ok a box putAt hputAt) (.cons (impl_putAt_ok b box putAt1 hputAt1) (.cons e1 (.cons e7 (.cons e10 .nil))))) (by kernel_rfl)).is (congrArg impl_clash_R e) (congrArg impl_clash_O e))))))))))
theorem impl_clash_ok (a : TRun) (b : TRun) (box : Int) (r : Bool) (h : impl_clash a b box = some r) : ACalls cx.P 20 [.agg (eRun a), .agg (eRun b), vi box] (impl_clash_R r) (impl_clash_O r) :=
  ACalls.of (cx := cx) (X := impl_clash_X) (c := impl_clash_c) Try.func20 (by kernel_rfl) (by kernel_rfl) (by kernel_rfl) (impl_clash_fin a b box r h)

/-! ### impl_HistSwap -/
noncomputable def impl_HistSwap_c : Code := bodyOf Try.f9
noncomputable def impl_HistSwap_X : Sig := { f := 9, fn := Try.f9, rms := [.val [] []], oms := [none, none] }
noncomputable def impl_HistSwap_R (r : Bool) : V := .b r
noncomputable def impl_HistSwap_O (r : Bool) : List (Option V) := [none, none]
noncomputable def impl_HistSwap_k1 : List Item := posI 2000 7 [false, false, false, false] [.code impl_HistSwap_c]
noncomputable def impl_HistSwap_S1 : St := ⟨(bs 51 []), [some []]⟩
noncomputable def impl_HistSwap_k2 : Option Bool :=
  some true
theorem impl_HistSwap_k2_ok (r : Bool) (h : impl_HistSwap_k2 = some r) : Fin cx impl_HistSwap_X (impl_HistSwap_R r) (impl_HistSwap_O r) impl_HistSwap_k1 (impl_HistSwap_S1) :=
  (someD h fun e => (Fin.fin (cx := cx) (X := impl_HistSwap_X) (res := impl_HistSwap_R true) (outs := impl_HistSwap_O true) Try.func9 [[]] [] .nil (by kernel_rfl)).is (congrArg impl_HistSwap_R e) (congrArg impl_HistSwap_O e))
noncomputable def impl_HistSwap_k3 : List Item := posI 2000 6 [false, false, false] [.code impl_HistSwap_c]
noncomputable def impl_HistSwap_S2 (entry : TEntry) (entry1 : TEntry) (box : Int) : St := ⟨(bs 5 (.ptr 1 0 0 :: (.ptr 2 0 0 :: (vi box :: (bs 43 []))))), [some [], some [.var 37 [.b entry.None, vi entry.Req.Who, vi entry.Req.Seq, vsl 2 eRead entry.Run.Reads, vsl 2 ePut entry.Run.Puts, vi entry.Run.Val, vi entry.Run.Code]], some [.var 37 [.b entry1.None, vi entry1.Req.Who, vi entry1.Req.Seq, vsl 2 eRead entry1.Run.Reads, vsl 2 ePut entry1.Run.Puts, vi entry1.Run.Val, vi entry1.Run.Code]]]⟩
noncomputable def impl_HistSwap_b1 (entry : TEntry) (entry1 : TEntry) (box : Int) : Option (Stp Bool Int Unit) :=
  (bif decide (box < 4) then
 ((impl_clash entry.Run entry1.Run box).bind fun clash =>
 (bif clash then
 some (Stp.ret false)
 else
 some (Stp.nxt (w64 (box + 1)))))
 else
 some (Stp.brk ()))
theorem impl_HistSwap_b1_ok (entry : TEntry) (entry1 : TEntry) (res : V) (outs : List (Option V)) (x1 : Exc Bool Unit) (hb1 : ∀ s : Unit, x1 = .brk s → Fin cx impl_HistSwap_X res outs impl_HistSwap_k1 (impl_HistSwap_S1)) (hr1 : ∀ v : Bool, x1 = .ret v → (res = impl_HistSwap_R v ∧ outs = impl_HistSwap_O v)) (st1 : Stp Bool Int Unit) (hc1 : Cont x1 (fun s : Int => Fin cx impl_HistSwap_X res outs impl_HistSwap_k3 (impl_HistSwap_S2 entry entry1 s)) st1) (box : Int) (h : impl_HistSwap_b1 entry entry1 box = some st1) : Fin cx impl_HistSwap_X res outs impl_HistSwap_k3 (impl_HistSwap_S2 entry entry1 box) :=
  (condD h (fun e6 h =>
 (bindD h fun clash hclash h =>
 (condD h (fun e7 h =>
 (retD h hc1 fun e => (Fin.fin (cx := cx) (X := impl_HistSwap_X) (res := impl_HistSwap_R false) (outs := impl_HistSwap_O false) Try.func9 [[(1, { d := some true })], [(5, { a := .call [.val [some 2, some 2, none, none] [], .val [some 2, some 2, none, none] [], .val [] []] false (impl_clash_R clash) (impl_clash_O clash), d := some true })], []] [decide (box < 4) = true, clash = true, ACalls cx.P 20 [.agg (eRun entry.Run), .agg (eRun entry1.Run), vi box] (impl_clash_R clash) (impl_clash_O clash)] (.cons e6 (.cons e7 (.cons (impl_clash_ok entry.Run entry1.Run box clash hclash) .nil))) (by kernel_rfl)).is (hr1 _ e).1 (hr1 _ e).2)) (fun e7 h =>
 (nxtD h hc1 fun hI => (Fin.seg [[(1, { d := some true })], [(5, { a := .call [.val [some 2, some 2, none, none] [], .val [some 2, some 2, none, none] [], .val [] []] false (impl_clash_R clash) (impl_clash_O clash), d := some false })], []] [] [5, 6, 7] [(1, 0), (2, 0)] [decide (box < 4) = true, clash = false, ACalls cx.P 20 [.agg (eRun entry.Run), .agg (eRun entry1.Run), vi box] (impl_clash_R clash) (impl_clash_O clash)] (.cons e6 (.cons e7 (.cons (impl_clash_ok entry.Run entry1.Run box clash hclash) .nil))) hI (by kernel_rfl))))))) (fun e6 h =>
 (brkD h hc1 fun e => (Fin.seg [[(1, { d := some false })]] [] [] [] [decide (box < 4) = false] (.cons e6 .nil) (hb1 _ e) (by kernel_rfl)))))
theorem impl_HistSwap_b1_loop (entry : TEntry) (entry1 : TEntry) (res : V) (outs : List (Option V)) (x1 : Exc Bool Unit) (hb1 : ∀ s : Unit, x1 = .brk s → Fin cx impl_HistSwap_X res outs impl_HistSwap_k1 (impl_HistSwap_S1)) (hr1 : ∀ v : Bool, x1 = .ret v → (res = impl_HistSwap_R v ∧ outs = impl_HistSwap_O v)) (s : Int) (h : loop (fun s : Int => impl_HistSwap_b1 entry entry1 s) s = some x1) : Fin cx impl_HistSwap_X res outs impl_HistSwap_k3 (impl_HistSwap_S2 entry entry1 s) :=
  loopD (I := fun s : Int => Fin cx impl_HistSwap_X res outs impl_HistSwap_k3 (impl_HistSwap_S2 entry entry1 s)) h fun s st h hc => impl_HistSwap_b1_ok entry entry1 res outs x1 hb1 hr1 st hc s h
noncomputable def impl_HistSwap (list : List TEntry) (at_ : Int) : Option Bool :=
  ((impl_listOk list).bind fun listOk =>
 (bif (!listOk) then
 some false
 else
 ((impl_in at_ 0 (w64 ((list.length : Int) - 2))).bind fun in_ =>
 (bif (!in_) then
 some false
 else
 ((idx list at_).bind fun entry =>
 ((idx list (w64 (at_ + 1))).bind fun entry1 =>
 (bif entry.None then
 some true
 else
 (bif entry1.None then
 some true
 else
 (bif (entry.Req.Who == entry1.Req.Who) then
 some false
 else
 ((loop (fun s : Int => impl_HistSwap_b1 entry entry1 s) 0).bind fun x => x.go (fun r => some r) fun s => impl_HistSwap_k2))))))))))
theorem impl_HistSwap_fin (list : List TEntry) (at_ : Int) (r : Bool) (h : impl_HistSwap list at_ = some r) : Fin cx impl_HistSwap_X (impl_HistSwap_R r) (impl_HistSwap_O r) [.code impl_HistSwap_c] (startS impl_HistSwap_X [vsl 7 eEntry list, vi at_]) :=
  (bindD h fun listOk hlistOk h =>
 (condD h (fun e1 h =>
 (someD h fun e => (Fin.fin (cx := cx) (X := impl_HistSwap_X) (res := impl_HistSwap_R false) (outs := impl_HistSwap_O false) Try.func9 [[], [(1, { a := .call [.val [some 7] []] false (impl_listOk_R listOk) (impl_listOk_O listOk) }), (3, { d := some true })], []] [ACalls cx.P 13 [vsl 7 eEntry list] (impl_listOk_R listOk) (impl_listOk_O listOk), (!listOk) = true] (.cons (impl_listOk_ok list listOk hlistOk) (.cons e1 .nil)) (by kernel_rfl)).is (congrArg impl_HistSwap_R e) (congrArg impl_HistSwap_O e))) (fun e1 h =>
 (bindD h fun in_ hin_ h =>
 (condD h (fun e2 h =>
 (someD h fun e => (Fin.fin (cx := cx) (X := impl_HistSwap_X) (res := impl_HistSwap_R false) (outs := impl_HistSwap_O false) Try.func9 [[], [(1, { a := .call [.val [some 7] []] false (impl_listOk_R listOk) (impl_listOk_O listOk) }), (3, { d := some false }), (8, { a := .call [.val [] [], .val [] [], .val [] []] false (impl_in_R in_) (impl_in_O in_) }), (10, { d := some true })], []] [ACalls cx.P 13 [vsl 7 eEntry list] (impl_listOk_R listOk) (impl_listOk_O listOk), (!listOk) = false, ACalls cx.P 17 [vi at_, vi 0, vi (w64 ((list.length : Int) - 2))] (impl_in_R in_) (impl_in_O in_), (!in_) = true] (.cons (impl_listOk_ok list listOk hlistOk) (.cons e1 (.cons (impl_in_ok at_ 0 (w64 ((list.length : Int) - 2)) in_ hin_) (.cons e2 .nil)))) (by kernel_rfl)).is (congrArg impl_HistSwap_R e) (congrArg impl_HistSwap_O e))) (fun e2 h =>
 (bindD h fun entry hentry h =>
 (bindD h fun entry1 hentry1 h =>
 (condD h (fun e3 h =>
 (someD h fun e => (Fin.fin (cx := cx) (X := impl_HistSwap_X) (res := impl_HistSwap_R true) (outs := impl_HistSwap_O true) Try.func9 [[], [(1, { a := .call [.val [some 7] []] false (impl_listOk_R listOk) (impl_listOk_O listOk) }), (3, { d := some false }), (8, { a := .call [.val [] [], .val [] [], .val [] []] false (impl_in_R in_) (impl_in_O in_) }), (10, { d := some false })], [(2, { a := .row (eEntry entry) }), (7, { a := .row (eEntry entry1) })], [(2, { d := some true })], []] [ACalls cx.P 13 [vsl 7 eEntry list] (impl_listOk_R listOk) (impl_listOk_O listOk), (!listOk) = false, ACalls cx.P 17 [vi at_, vi 0, vi (w64 ((list.length : Int) - 2))] (impl_in_R in_) (impl_in_O in_), (!in_) = false, (0 : Int) ≤ at_, at_ < ((list.length : Nat) : Int), (list.map eEntry)[at_.toNat]? = some (eEntry entry), (0 : Int) ≤ (w64 (at_ + 1)), (w64 (at_ + 1)) < ((list.length : Nat) : Int), (list.map eEntry)[(w64 (at_ + 1)).toNat]? = some (eEntry entry1), entry.None = true] (.cons (impl_listOk_ok list listOk hlistOk) (.cons e1 (.cons (impl_in_ok at_ 0 (w64 ((list.length : Int) - 2)) in_ hin_) (.cons e2 (.cons (idx0 hentry) (.cons (idx1 hentry) (.cons (map_idx hentry) (.cons (idx0 hentry1) (.cons (idx1 hentry1) (.cons (map_idx hentry1) (.cons e3 .nil))))))))))) (by kernel_rfl)).is (congrArg impl_HistSwap_R e) (congrArg impl_HistSwap_O e))) (fun e3 h =>
 (condD h (fun e4 h =>
 (someD h fun e => (Fin.fin (cx := cx) (X := impl_HistSwap_X) (res := impl_HistSwap_R true) (outs := impl_HistSwap_O true) Try.func9 [[], [(1, { a := .call [.val [some 7] []] false (impl_listOk_R listOk) (impl_listOk_O listOk) }), (3, { d := some false }), (8, { a := .call [.val [] [], .val [] [], .val [] []] false (impl_in_R in_) (impl_in_O in_) }), (10, { d := some false })], [(2, { a := .row (eEntry entry) }), (7, { a := .row (eEntry entry1) })], [(2, { d := some false }), (5, { d := some true })], []] [ACalls cx.P 13 [vsl 7 eEntry list] (impl_listOk_R listOk) (impl_listOk_O listOk), (!listOk) = false, ACalls cx.P 17 [vi at_, vi 0, vi (w64 ((list.length : Int) - 2))] (impl_in_R in_) (impl_in_O in_), (!in_) = false, (0 : Int) ≤ at_, at_ < ((list.length : Nat) : Int), (list.map eEntry)[at_.toNat]? = some (eEntry entry), (0 : Int) ≤ (w64 (at_ + 1)), (w64 (at_ + 1)) < ((list.length : Nat) : Int), (list.map eEntry)[(w64 (at_ + 1)).toNat]? = some (eEntry entry1), entry.None = false, entry1.None = true] (.cons (impl_listOk_ok list listOk hlistOk) (.cons e1 (.cons (impl_in_ok at_ 0 (w64 ((list.length : Int) - 2)) in_ hin_) (.cons e2 (.cons (idx0 hentry) (.cons (idx1 hentry) (.cons (map_idx hentry) (.cons (idx0 hentry1) (.cons (idx1 hentry1) (.cons (map_idx hentry1) (.cons e3 (.cons e4 .nil)))))))))))) (by kernel_rfl)).is (congrArg impl_HistSwap_R e) (congrArg impl_HistSwap_O e))) (fun e4 h =>
 (condD h (fun e5 h =>
 (someD h fun e => (Fin.fin (cx := cx) (X := impl_HistSwap_X) (res := impl_HistSwap_R false) (outs := impl_HistSwap_O false) Try.func9 [[], [(1, { a := .call [.val [some 7] []] false (impl_listOk_R listOk) (impl_listOk_O listOk) }), (3, { d := some false }), (8, { a := .call [.val [] [], .val [] [], .val [] []] false (impl_in_R in_) (impl_in_O in_) }), (10, { d := some false })], [(2, { a := .row (eEntry entry) }), (7, { a := .row (eEntry entry1) })], [(2, { d := some false }), (5, { d := some false })], [(6, { d := some true })], []] [ACalls cx.P 13 [vsl 7 eEntry list] (impl_listOk_R listOk) (impl_listOk_O listOk), (!listOk) = false, ACalls cx.P 17 [vi at_, vi 0, vi (w64 ((list.length : Int) - 2))] (impl_in_R in_) (impl_in_O in_), (!in_) = false, (0 : Int) ≤ at_, at_ < ((list.length : Nat) : Int), (list.map eEntry)[at_.toNat]? = some (eEntry entry), (0 : Int) ≤ (w64 (at_ + 1)), (w64 (at_ + 1)) < ((list.length : Nat) : Int), (list.map eEntry)[(w64 (at_ + 1)).toNat]? = some (eEntry entry1), entry.None = false, entry1.None = false, (entry.Req.Who == entry1.Req.Who) = true] (.cons (impl_listOk_ok list listOk hlistOk) (.cons e1 (.cons (impl_in_ok at_ 0 (w64 ((list.length : Int) - 2)) in_ hin_) (.cons e2 (.cons (idx0 hentry) (.cons (idx1 hentry) (.cons (map_idx hentry) (.cons (idx0 hentry1) (.cons (idx1 hentry1) (.cons (map_idx hentry1) (.cons e3 (.cons e4 (.cons e5 .nil))))))))))))) (by kernel_rfl)).is (congrArg impl_HistSwap_R e) (congrArg impl_HistSwap_O e))) (fun e5 h =>
 (loopJ h fun x hl hr hb => (Fin.seg [[], [(1, { a := .call [.val [some 7] []] false (impl_listOk_R listOk) (impl_listOk_O listOk) }), (3, { d := some false }), (8, { a := .call [.val [] [], .val [] [], .val [] []] false (impl_in_R in_) (impl_in_O in_) }), (10, { d := some false })], [(2, { a := .row (eEntry entry) }), (7, { a := .row (eEntry entry1) })], [(2, { d := some false }), (5, { d := some false })], [(6, { d := some false })], []] [] [5, 6, 7] [(22, 0), (23, 0)] [ACalls cx.P 13 [vsl 7 eEntry list] (impl_listOk_R listOk) (impl_listOk_O listOk), (!listOk) = false, ACalls cx.P 17 [vi at_, vi 0, vi (w64 ((list.length : Int) - 2))] (impl_in_R in_) (impl_in_O in_), (!in_) = false, (0 : Int) ≤ at_, at_ < ((list.length : Nat) : Int), (list.map eEntry)[at_.toNat]? = some (eEntry entry), (0 : Int) ≤ (w64 (at_ + 1)), (w64 (at_ + 1)) < ((list.length : Nat) : Int), (list.map eEntry)[(w64 (at_ + 1)).toNat]? = some (eEntry entry1), entry.None = false, entry1.None = false, (entry.Req.Who == entry1.Req.Who) = false] (.cons (impl_listOk_ok list listOk hlistOk) (.cons e1 (.cons (impl_in_ok at_ 0 (w64 ((list.length : Int) - 2)) in_ hin_) (.cons e2 (.cons (idx0 hentry) (.cons (idx1 hentry) (.cons (map_idx hentry) (.cons (idx0 hentry1) (.cons (idx1 hentry1) (.cons (map_idx hentry1) (.cons e3 (.cons e4 (.cons e5 .nil))))))))))))) (impl_HistSwap_b1_loop entry entry1 _ _ x (fun s e => impl_HistSwap_k2_ok r (hb s e)) (fun v e => ⟨congrArg impl_HistSwap_R (Option.some.inj (hr v e)).symm, congrArg impl_HistSwap_O (Option.some.inj (hr v e)).symm⟩) 0 hl) (by kernel_rfl)))))))))))))))))
theorem impl_HistSwap_ok (list : List TEntry) (at_ : Int) (r : Bool) (h : impl_HistSwap list at_ = some r) : ACalls cx.P 9 [vsl 7 eEntry list, vi at_] (impl_HistSwap_R r) (impl_HistSwap_O r) :=
  ACalls.of (cx := cx) (X := impl_HistSwap_X) (c := impl_HistSwap_c) Try.func9 (by kernel_rfl) (by kernel_rfl) (by kernel_rfl) (impl_HistSwap_fin list at_ r h)


end Go.Proofs.Ytophfhbneaeljaa
