/- Functions of the program, and that their calls come to this. -/
import Derived.Test.YthefcgmhjonopaaF3
set_option linter.unusedVariables false
set_option linter.unusedSimpArgs false
namespace Go.Proofs.Ythefcgmhjonopaa
open Go

/-! ### impl_CertApply -/
noncomputable def impl_CertApply_c : Code := bodyOf Try.f26
noncomputable def impl_CertApply_X : Sig := { f := 26, fn := Try.f26, rms := [.val [none, some 2, some 4] [], .val [] []], oms := [none, none] }
noncomputable def impl_CertApply_R (r : TState × Int) : V := .tup [.agg (eState r.1), vi r.2]
noncomputable def impl_CertApply_O (r : TState × Int) : List (Option V) := [none, none]
noncomputable def impl_CertApply_k1 : List Item := posI 2000 6 [false, false, false] [.code impl_CertApply_c]
noncomputable def impl_CertApply_S1 (s_ : TState) (e_ : TEntry) (box : List TBox) : St := ⟨(bs 2 (.ptr 1 0 0 :: (.ptr 2 0 0 :: (.ptr 3 0 0 :: (bs 1 (.ptr 4 0 0 :: (bs 145 []))))))), [some [], some [.var 49 [vi s_.At, vsl 2 eBox s_.Boxes, vsl 4 eDone s_.Dones]], some [.var 36 [.b e_.None, vi e_.Req.Who, vi e_.Req.Seq, vsl 2 eRead e_.Run.Reads, vsl 2 ePut e_.Run.Puts, vi e_.Run.Val, vi e_.Run.Code]], some [.var 49 [vi 0, .nil, .nil]], some [.var 49 [vi (w64 (s_.At + 1)), .own 5 0 2 0 box.length, .nil]], some [erow 92 2 eBox box]]⟩
noncomputable def impl_CertApply_k2 : List Item := posI 2000 9 [false, false, false, true] [.code impl_CertApply_c]
noncomputable def impl_CertApply_S2 (s_ : TState) (own : TDone) (outBoxes : List TBox) : St := ⟨(bs 2 (.ptr 1 0 0 :: (bs 1 (.ptr 2 0 0 :: (bs 1 (.ptr 3 0 0 :: (bs 2 (.ptr 4 0 0 :: (bs 142 []))))))))), [some [], some [.var 49 [vi s_.At, vsl 2 eBox s_.Boxes, vsl 4 eDone s_.Dones]], some [.var 49 [vi 0, .nil, .nil]], some [.var 49 [vi (w64 (s_.At + 1)), vsl 2 eBox outBoxes, .nil]], some [.var 80 [vi own.Req.Who, vi own.Req.Seq, vi own.Code, vi own.Val]]]⟩
noncomputable def impl_CertApply_k3 : List Item := posI 2000 13 [false, false, false, true, false] [.code impl_CertApply_c]
noncomputable def impl_CertApply_S3 (s_ : TState) (own : TDone) (outBoxes : List TBox) (dones1 : List TDone) (put1 : Bool) : St := ⟨(bs 4 (.ptr 1 0 0 :: (bs 1 (.ptr 2 0 0 :: (bs 2 (.ptr 3 0 0 :: (.own 4 0 4 0 dones1.length :: (.b put1 :: (bs 140 []))))))))), [some [], some [.var 49 [vi 0, .nil, .nil]], some [.var 49 [vi (w64 (s_.At + 1)), vsl 2 eBox outBoxes, .nil]], some [.var 80 [vi own.Req.Who, vi own.Req.Seq, vi own.Code, vi own.Val]], some [erow 80 4 eDone dones1]]⟩
noncomputable def impl_CertApply_k4 : List Item := posI 2000 15 [false, false, false, true, false, true] [.code impl_CertApply_c]
noncomputable def impl_CertApply_S4 (s_ : TState) (own : TDone) (outBoxes : List TBox) (dones2 : List TDone) : St := ⟨(bs 4 (.ptr 1 0 0 :: (bs 1 (.ptr 2 0 0 :: (bs 2 (.ptr 3 0 0 :: (.own 4 0 4 0 dones2.length :: (bs 141 [])))))))), [some [], some [.var 49 [vi 0, .nil, .nil]], some [.var 49 [vi (w64 (s_.At + 1)), vsl 2 eBox outBoxes, .nil]], some [.var 80 [vi own.Req.Who, vi own.Req.Seq, vi own.Code, vi own.Val]], some [erow 80 4 eDone dones2]]⟩
noncomputable def impl_CertApply_j1 (s_ : TState) (own : TDone) (outBoxes : List TBox) (dones2 : List TDone) : Option (TState × Int) :=
  ((impl_copied_Done dones2).bind fun done1 =>
 some ((TState.mk (w64 (s_.At + 1)) outBoxes done1), own.Code))
theorem impl_CertApply_j1_ok (s_ : TState) (own : TDone) (outBoxes : List TBox) (r : TState × Int) (dones2 : List TDone) (h : impl_CertApply_j1 s_ own outBoxes dones2 = some r) : Fin cx impl_CertApply_X (impl_CertApply_R r) (impl_CertApply_O r) impl_CertApply_k4 (impl_CertApply_S4 s_ own outBoxes dones2) :=
  (bindD h fun done1 hdone1 h =>
 (someD h fun e => (Fin.fin (cx := cx) (X := impl_CertApply_X) (res := impl_CertApply_R ((TState.mk (w64 (s_.At + 1)) outBoxes done1), own.Code)) (outs := impl_CertApply_O ((TState.mk (w64 (s_.At + 1)) outBoxes done1), own.Code)) Try.func26 [[(1, { a := .call [.val [some 4] []] false (impl_copied_Done_R done1) (impl_copied_Done_O done1) })], []] [ACalls cx.P 49 [vsl 4 eDone dones2] (impl_copied_Done_R done1) (impl_copied_Done_O done1), dones2.length = dones2.length] (.cons (impl_copied_Done_ok dones2 done1 hdone1) (.cons rfl .nil)) (by kernel_rfl)).is (congrArg impl_CertApply_R e) (congrArg impl_CertApply_O e)))
noncomputable def impl_CertApply_k5 (s_ : TState) (own : TDone) (outBoxes : List TBox) (dones1 : List TDone) (put1 : Bool) : Option (TState × Int) :=
  (((bif (!put1) then
 (need ((dones1.length + 1) * 32 ≤ 140737488355328)
 (some (Exc.brk (dones1 ++ [own]))))
 else
 some (Exc.brk dones1)) : Option (Exc (TState × Int) (List TDone))).bind fun x => x.go some fun j => impl_CertApply_j1 s_ own outBoxes j)
theorem impl_CertApply_k5_ok (s_ : TState) (own : TDone) (outBoxes : List TBox) (r : TState × Int) (dones1 : List TDone) (put1 : Bool) (h : impl_CertApply_k5 s_ own outBoxes dones1 put1 = some r) : Fin cx impl_CertApply_X (impl_CertApply_R r) (impl_CertApply_O r) impl_CertApply_k3 (impl_CertApply_S3 s_ own outBoxes dones1 put1) :=
  (joinD (I := fun j : List TDone => Fin cx impl_CertApply_X (impl_CertApply_R r) (impl_CertApply_O r) impl_CertApply_k4 (impl_CertApply_S4 s_ own outBoxes j)) h (fun j h => impl_CertApply_j1_ok s_ own outBoxes r j h) (fun x1 h hc1 =>
  (condD h (fun e5 h =>
 (needD h fun e6 h =>
 (jbrkD h hc1 fun hI => (Fin.seg [[(1, { d := some true })], [(2, { a := .ck [] }), (3, { v := some (.own 10 0 4 0 (dones1 ++ [own]).length), e := some (erow 80 4 eDone (dones1 ++ [own])) })]] [] [4, 6, 9, 10] [(1, 0), (2, 0), (3, 0), (10, 0)] [(!put1) = true, V.own 10 0 4 0 (dones1.length + 1) = .own 10 0 4 0 (dones1 ++ [own]).length, Ent.row 80 4 (dones1.length + 1) (dones1.map eDone ++ [eDone own]) = erow 80 4 eDone (dones1 ++ [own]), dones1.length = dones1.length, (dones1.length + 1) * 32 ≤ 140737488355328, 1 = [own].length] (.cons e5 (.cons (by first | exact congrArg (V.own 10 0 4 0) List.length_append.symm | simp) (.cons (row_app rfl) (.cons rfl (.cons e6 (.cons (by rfl) .nil)))))) hI (by kernel_rfl))))) (fun e5 h =>
 (jbrkD h hc1 fun hI => (Fin.seg [[(1, { d := some false })]] [] [4, 6, 9, 10] [(1, 0), (2, 0), (3, 0), (4, 0)] [(!put1) = false] (.cons e5 .nil) hI (by kernel_rfl)))))))
noncomputable def impl_CertApply_k6 : List Item := posI 2000 12 [false, false, false, true] [.code impl_CertApply_c]
noncomputable def impl_CertApply_S5 (s_ : TState) (own : TDone) (outBoxes : List TBox) (dones : List TDone) (v109 : Int) (put : Bool) : St := ⟨(bs 4 (.ptr 1 0 0 :: (bs 1 (.ptr 2 0 0 :: (bs 2 (.ptr 3 0 0 :: (.own 4 0 4 0 dones.length :: (.b put :: (bs 95 (vsl 4 eDone s_.Dones :: (vi (s_.Dones.length : Int) :: (vi v109 :: (bs 42 []))))))))))))), [some [], some [.var 49 [vi 0, .nil, .nil]], some [.var 49 [vi (w64 (s_.At + 1)), vsl 2 eBox outBoxes, .nil]], some [.var 80 [vi own.Req.Who, vi own.Req.Seq, vi own.Code, vi own.Val]], some [erow 80 4 eDone dones]]⟩
noncomputable def impl_CertApply_k7 : List Item := posI 2000 17 [false, false, false, true, true, true] [.code impl_CertApply_c]
noncomputable def impl_CertApply_S6 (s_ : TState) (own : TDone) (outBoxes : List TBox) (v109 : Int) (done2 : TDone) (dones3 : List TDone) (put2 : Bool) : St := ⟨(bs 4 (.ptr 1 0 0 :: (bs 1 (.ptr 2 0 0 :: (bs 2 (.ptr 3 0 0 :: (.own 4 0 4 0 dones3.length :: (.b put2 :: (bs 1 (.ptr 5 0 0 :: (bs 93 (vsl 4 eDone s_.Dones :: (vi (s_.Dones.length : Int) :: (vi v109 :: (bs 42 []))))))))))))))), [some [], some [.var 49 [vi 0, .nil, .nil]], some [.var 49 [vi (w64 (s_.At + 1)), vsl 2 eBox outBoxes, .nil]], some [.var 80 [vi own.Req.Who, vi own.Req.Seq, vi own.Code, vi own.Val]], some [erow 80 4 eDone dones3], some [.var 80 [vi done2.Req.Who, vi done2.Req.Seq, vi done2.Code, vi done2.Val]]]⟩
noncomputable def impl_CertApply_k8 : List Item := posI 2000 19 [false, false, false, true, true, true, true] [.code impl_CertApply_c]
noncomputable def impl_CertApply_S7 (s_ : TState) (own : TDone) (outBoxes : List TBox) (v109 : Int) (put2 : Bool) (dones4 : List TDone) : St := ⟨(bs 4 (.ptr 1 0 0 :: (bs 1 (.ptr 2 0 0 :: (bs 2 (.ptr 3 0 0 :: (.own 4 0 4 0 dones4.length :: (.b put2 :: (bs 95 (vsl 4 eDone s_.Dones :: (vi (s_.Dones.length : Int) :: (vi v109 :: (bs 42 []))))))))))))), [some [], some [.var 49 [vi 0, .nil, .nil]], some [.var 49 [vi (w64 (s_.At + 1)), vsl 2 eBox outBoxes, .nil]], some [.var 80 [vi own.Req.Who, vi own.Req.Seq, vi own.Code, vi own.Val]], some [erow 80 4 eDone dones4]]⟩
noncomputable def impl_CertApply_j2 (v109 : Int) (put2 : Bool) (dones4 : List TDone) : Option (Stp (TState × Int) ((List TDone) × Int × Bool) ((List TDone) × Bool)) :=
  some (Stp.nxt (dones4, w64 (v109 + 1), put2))
theorem impl_CertApply_j2_ok (s_ : TState) (own : TDone) (outBoxes : List TBox) (v109 : Int) (put2 : Bool) (res : V) (outs : List (Option V)) (x1 : Exc (TState × Int) ((List TDone) × Bool)) (hb1 : ∀ s : (List TDone) × Bool, x1 = .brk s → Fin cx impl_CertApply_X res outs impl_CertApply_k3 (impl_CertApply_S3 s_ own outBoxes s.1 s.2)) (hr1 : ∀ v : TState × Int, x1 = .ret v → (res = impl_CertApply_R v ∧ outs = impl_CertApply_O v)) (st1 : Stp (TState × Int) ((List TDone) × Int × Bool) ((List TDone) × Bool)) (hc1 : Cont x1 (fun s : (List TDone) × Int × Bool => Fin cx impl_CertApply_X res outs impl_CertApply_k6 (impl_CertApply_S5 s_ own outBoxes s.1 s.2.1 s.2.2)) st1) (dones4 : List TDone) (h : impl_CertApply_j2 v109 put2 dones4 = some st1) : Fin cx impl_CertApply_X res outs impl_CertApply_k8 (impl_CertApply_S7 s_ own outBoxes v109 put2 dones4) :=
  (nxtD h hc1 fun hI => (Fin.seg [[]] [] [4, 6, 9, 10, 11, 107, 108, 109] [(1, 0), (2, 0), (3, 0), (4, 0)] [] .nil hI (by kernel_rfl)))
noncomputable def impl_CertApply_j3 (own : TDone) (v109 : Int) (done2 : TDone) (dones3 : List TDone) (put2 : Bool) : Option (Stp (TState × Int) ((List TDone) × Int × Bool) ((List TDone) × Bool)) :=
  (((bif (done2.Req.Who != own.Req.Who) then
 (need ((dones3.length + 1) * 32 ≤ 140737488355328)
 (some (Exc.brk (dones3 ++ [done2]))))
 else
 some (Exc.brk dones3)) : Option (Exc (Stp (TState × Int) ((List TDone) × Int × Bool) ((List TDone) × Bool)) (List TDone))).bind fun x => x.go some fun j => impl_CertApply_j2 v109 put2 j)
theorem impl_CertApply_j3_ok (s_ : TState) (own : TDone) (outBoxes : List TBox) (v109 : Int) (done2 : TDone) (res : V) (outs : List (Option V)) (x1 : Exc (TState × Int) ((List TDone) × Bool)) (hb1 : ∀ s : (List TDone) × Bool, x1 = .brk s → Fin cx impl_CertApply_X res outs impl_CertApply_k3 (impl_CertApply_S3 s_ own outBoxes s.1 s.2)) (hr1 : ∀ v : TState × Int, x1 = .ret v → (res = impl_CertApply_R v ∧ outs = impl_CertApply_O v)) (st1 : Stp (TState × Int) ((List TDone) × Int × Bool) ((List TDone) × Bool)) (hc1 : Cont x1 (fun s : (List TDone) × Int × Bool => Fin cx impl_CertApply_X res outs impl_CertApply_k6 (impl_CertApply_S5 s_ own outBoxes s.1 s.2.1 s.2.2)) st1) (dones3 : List TDone) (put2 : Bool) (h : impl_CertApply_j3 own v109 done2 dones3 put2 = some st1) : Fin cx impl_CertApply_X res outs impl_CertApply_k7 (impl_CertApply_S6 s_ own outBoxes v109 done2 dones3 put2) :=
  (joinD (I := fun j : List TDone => Fin cx impl_CertApply_X res outs impl_CertApply_k8 (impl_CertApply_S7 s_ own outBoxes v109 put2 j)) h (fun j h => impl_CertApply_j2_ok s_ own outBoxes v109 put2 res outs x1 hb1 hr1 st1 hc1 j h) (fun x2 h hc2 =>
  (condD h (fun e8 h =>
 (needD h fun e9 h =>
 (jbrkD h hc2 fun hI => (Fin.seg [[(6, { d := some true })], [(2, { a := .ck [] }), (3, { v := some (.own 16 0 4 0 (dones3 ++ [done2]).length), e := some (erow 80 4 eDone (dones3 ++ [done2])) })]] [] [4, 6, 9, 10, 11, 107, 108, 109] [(1, 0), (2, 0), (3, 0), (16, 0)] [(done2.Req.Who != own.Req.Who) = true, V.own 16 0 4 0 (dones3.length + 1) = .own 16 0 4 0 (dones3 ++ [done2]).length, Ent.row 80 4 (dones3.length + 1) (dones3.map eDone ++ [eDone done2]) = erow 80 4 eDone (dones3 ++ [done2]), dones3.length = dones3.length, (dones3.length + 1) * 32 ≤ 140737488355328, 1 = [done2].length] (.cons e8 (.cons (by first | exact congrArg (V.own 16 0 4 0) List.length_append.symm | simp) (.cons (row_app rfl) (.cons rfl (.cons e9 (.cons (by rfl) .nil)))))) hI (by kernel_rfl))))) (fun e8 h =>
 (jbrkD h hc2 fun hI => (Fin.seg [[(6, { d := some false })]] [] [4, 6, 9, 10, 11, 107, 108, 109] [(1, 0), (2, 0), (3, 0), (4, 0)] [(done2.Req.Who != own.Req.Who) = false] (.cons e8 .nil) hI (by kernel_rfl)))))))
noncomputable def impl_CertApply_b1 (s_ : TState) (own : TDone) (dones : List TDone) (v109 : Int) (put : Bool) : Option (Stp (TState × Int) ((List TDone) × Int × Bool) ((List TDone) × Bool)) :=
  (bif decide (v109 < (s_.Dones.length : Int)) then
 ((idx s_.Dones v109).bind fun done2 =>
 (((bif (!put) then
 (bif decide (done2.Req.Who ≥ own.Req.Who) then
 (need ((dones.length + 1) * 32 ≤ 140737488355328)
 (some (Exc.brk (dones ++ [own], true))))
 else
 some (Exc.brk (dones, put)))
 else
 some (Exc.brk (dones, put))) : Option (Exc (Stp (TState × Int) ((List TDone) × Int × Bool) ((List TDone) × Bool)) ((List TDone) × Bool))).bind fun x => x.go some fun j => impl_CertApply_j3 own v109 done2 j.1 j.2))
 else
 some (Stp.brk (dones, put)))
theorem impl_CertApply_b1_ok (s_ : TState) (own : TDone) (outBoxes : List TBox) (res : V) (outs : List (Option V)) (x1 : Exc (TState × Int) ((List TDone) × Bool)) (hb1 : ∀ s : (List TDone) × Bool, x1 = .brk s → Fin cx impl_CertApply_X res outs impl_CertApply_k3 (impl_CertApply_S3 s_ own outBoxes s.1 s.2)) (hr1 : ∀ v : TState × Int, x1 = .ret v → (res = impl_CertApply_R v ∧ outs = impl_CertApply_O v)) (st1 : Stp (TState × Int) ((List TDone) × Int × Bool) ((List TDone) × Bool)) (hc1 : Cont x1 (fun s : (List TDone) × Int × Bool => Fin cx impl_CertApply_X res outs impl_CertApply_k6 (impl_CertApply_S5 s_ own outBoxes s.1 s.2.1 s.2.2)) st1) (dones : List TDone) (v109 : Int) (put : Bool) (h : impl_CertApply_b1 s_ own dones v109 put = some st1) : Fin cx impl_CertApply_X res outs impl_CertApply_k6 (impl_CertApply_S5 s_ own outBoxes dones v109 put) :=
  (condD h (fun e7 h =>
 (bindD h fun done2 hdone2 h =>
 (joinD (I := fun j : (List TDone) × Bool => Fin cx impl_CertApply_X res outs impl_CertApply_k7 (impl_CertApply_S6 s_ own outBoxes v109 done2 j.1 j.2)) h (fun j h => impl_CertApply_j3_ok s_ own outBoxes v109 done2 res outs x1 hb1 hr1 st1 hc1 j.1 j.2 h) (fun x2 h hc2 =>
  (condD h (fun e10 h =>
 (condD h (fun e11 h =>
 (needD h fun e12 h =>
 (jbrkD h hc2 fun hI => (Fin.seg [[(0, { d := some true })], [(0, { a := .row (eDone done2) })], [(2, { d := some true }), (10, { d := some true })], [(2, { a := .ck [] }), (3, { v := some (.own 24 0 4 0 (dones ++ [own]).length), e := some (erow 80 4 eDone (dones ++ [own])) })], []] [] [4, 6, 9, 10, 11, 13, 107, 108, 109] [(1, 0), (2, 0), (3, 0), (24, 0), (8, 0)] [decide (v109 < (s_.Dones.length : Int)) = true, (0 : Int) ≤ v109, v109 < ((s_.Dones.length : Nat) : Int), (s_.Dones.map eDone)[v109.toNat]? = some (eDone done2), (!put) = true, decide (done2.Req.Who ≥ own.Req.Who) = true, V.own 24 0 4 0 (dones.length + 1) = .own 24 0 4 0 (dones ++ [own]).length, Ent.row 80 4 (dones.length + 1) (dones.map eDone ++ [eDone own]) = erow 80 4 eDone (dones ++ [own]), dones.length = dones.length, (dones.length + 1) * 32 ≤ 140737488355328, 1 = [own].length] (.cons e7 (.cons (idx0 hdone2) (.cons (idx1 hdone2) (.cons (map_idx hdone2) (.cons e10 (.cons e11 (.cons (by first | exact congrArg (V.own 24 0 4 0) List.length_append.symm | simp) (.cons (row_app rfl) (.cons rfl (.cons e12 (.cons (by rfl) .nil))))))))))) hI (by kernel_rfl))))) (fun e11 h =>
 (jbrkD h hc2 fun hI => (Fin.seg [[(0, { d := some true })], [(0, { a := .row (eDone done2) })], [(2, { d := some true }), (10, { d := some false })]] [] [4, 6, 9, 10, 11, 13, 107, 108, 109] [(1, 0), (2, 0), (3, 0), (4, 0), (8, 0)] [decide (v109 < (s_.Dones.length : Int)) = true, (0 : Int) ≤ v109, v109 < ((s_.Dones.length : Nat) : Int), (s_.Dones.map eDone)[v109.toNat]? = some (eDone done2), (!put) = true, decide (done2.Req.Who ≥ own.Req.Who) = false] (.cons e7 (.cons (idx0 hdone2) (.cons (idx1 hdone2) (.cons (map_idx hdone2) (.cons e10 (.cons e11 .nil)))))) hI (by kernel_rfl)))))) (fun e10 h =>
 (jbrkD h hc2 fun hI => (Fin.seg [[(0, { d := some true })], [(0, { a := .row (eDone done2) })], [(2, { d := some false })]] [] [4, 6, 9, 10, 11, 13, 107, 108, 109] [(1, 0), (2, 0), (3, 0), (4, 0), (8, 0)] [decide (v109 < (s_.Dones.length : Int)) = true, (0 : Int) ≤ v109, v109 < ((s_.Dones.length : Nat) : Int), (s_.Dones.map eDone)[v109.toNat]? = some (eDone done2), (!put) = false] (.cons e7 (.cons (idx0 hdone2) (.cons (idx1 hdone2) (.cons (map_idx hdone2) (.cons e10 .nil))))) hI (by kernel_rfl))))))))) (fun e7 h =>
 (brkD h hc1 fun e => (Fin.seg [[(0, { d := some false })]] [] [4, 6, 9, 10, 11] [(1, 0), (2, 0), (3, 0), (4, 0)] [decide (v109 < (s_.Dones.length : Int)) = false] (.cons e7 .nil) (hb1 _ e) (by kernel_rfl)))))
theorem impl_CertApply_b1_loop (s_ : TState) (own : TDone) (outBoxes : List TBox) (res : V) (outs : List (Option V)) (x1 : Exc (TState × Int) ((List TDone) × Bool)) (hb1 : ∀ s : (List TDone) × Bool, x1 = .brk s → Fin cx impl_CertApply_X res outs impl_CertApply_k3 (impl_CertApply_S3 s_ own outBoxes s.1 s.2)) (hr1 : ∀ v : TState × Int, x1 = .ret v → (res = impl_CertApply_R v ∧ outs = impl_CertApply_O v)) (s : (List TDone) × Int × Bool) (h : loop (fun s : (List TDone) × Int × Bool => impl_CertApply_b1 s_ own s.1 s.2.1 s.2.2) s = some x1) : Fin cx impl_CertApply_X res outs impl_CertApply_k6 (impl_CertApply_S5 s_ own outBoxes s.1 s.2.1 s.2.2) :=
  loopD (I := fun s : (List TDone) × Int × Bool => Fin cx impl_CertApply_X res outs impl_CertApply_k6 (impl_CertApply_S5 s_ own outBoxes s.1 s.2.1 s.2.2)) h fun s st h hc => impl_CertApply_b1_ok s_ own outBoxes res outs x1 hb1 hr1 st hc s.1 s.2.1 s.2.2 h
noncomputable def impl_CertApply_j4 (s_ : TState) (own : TDone) (outBoxes : List TBox) : Option (TState × Int) :=
  ((loop (fun s : (List TDone) × Int × Bool => impl_CertApply_b1 s_ own s.1 s.2.1 s.2.2) ([], 0, false)).bind fun x => x.go (fun r => some r) fun s => impl_CertApply_k5 s_ own outBoxes s.1 s.2)
theorem impl_CertApply_j4_ok (s_ : TState) (r : TState × Int) (own : TDone) (outBoxes : List TBox) (h : impl_CertApply_j4 s_ own outBoxes = some r) : Fin cx impl_CertApply_X (impl_CertApply_R r) (impl_CertApply_O r) impl_CertApply_k2 (impl_CertApply_S2 s_ own outBoxes) :=
  (loopJ h fun x hl hr hb => (Fin.seg [[], [], []] [.own (.tmp 10) 80 4] [4, 6, 9, 10, 11, 107, 108, 109] [(2, 0), (3, 0), (4, 0), (11, 0)] [] .nil (impl_CertApply_b1_loop s_ own outBoxes _ _ x (fun s e => impl_CertApply_k5_ok s_ own outBoxes r s.1 s.2 (hb s e)) (fun v e => ⟨congrArg impl_CertApply_R (Option.some.inj (hr v e)).symm, congrArg impl_CertApply_O (Option.some.inj (hr v e)).symm⟩) ([], 0, false) hl) (by kernel_rfl)))
noncomputable def impl_CertApply_k9 (s_ : TState) (e_ : TEntry) (box : List TBox) : Option (TState × Int) :=
  ((((impl_ExecFresh s_.Boxes e_.Run).bind fun execFresh =>
 (bif (!execFresh) then
 some (Exc.brk ((TDone.mk e_.Req 1 0), box))
 else
 (bif (e_.Run.Code != 0) then
 some (Exc.brk ((TDone.mk e_.Req 2 0), box))
 else
 ((impl_ExecDo s_.Boxes e_.Run).bind fun execDo =>
 some (Exc.brk ((TDone.mk e_.Req 0 e_.Run.Val), execDo)))))) : Option (Exc (TState × Int) (TDone × List TBox))).bind fun x => x.go some fun j => impl_CertApply_j4 s_ j.1 j.2)
theorem impl_CertApply_k9_ok (s_ : TState) (e_ : TEntry) (box : List TBox) (r : TState × Int) (h : impl_CertApply_k9 s_ e_ box = some r) : Fin cx impl_CertApply_X (impl_CertApply_R r) (impl_CertApply_O r) impl_CertApply_k1 (impl_CertApply_S1 s_ e_ box) :=
  (joinD (I := fun j : TDone × List TBox => Fin cx impl_CertApply_X (impl_CertApply_R r) (impl_CertApply_O r) impl_CertApply_k2 (impl_CertApply_S2 s_ j.1 j.2)) h (fun j h => impl_CertApply_j4_ok s_ r j.1 j.2 h) (fun x1 h hc1 =>
  (bindD h fun execFresh hexecFresh h =>
 (condD h (fun e13 h =>
 (jbrkD h hc1 fun hI => (Fin.seg [[], [(4, { a := .call [.val [some 2] [], .val [some 2, some 2, none, none] []] false (impl_ExecFresh_R execFresh) (impl_ExecFresh_O execFresh) }), (6, { d := some true })], []] [.frz (.cell 4 0 1) (none)] [2, 4, 6, 9] [(1, 0), (3, 0), (4, 0), (9, 0)] [ACalls cx.P 50 [vsl 2 eBox s_.Boxes, .agg (eRun e_.Run)] (impl_ExecFresh_R execFresh) (impl_ExecFresh_O execFresh), (!execFresh) = true, box.length = box.length] (.cons (impl_ExecFresh_ok s_.Boxes e_.Run execFresh hexecFresh) (.cons e13 (.cons rfl .nil))) hI (by kernel_rfl)))) (fun e13 h =>
 (condD h (fun e14 h =>
 (jbrkD h hc1 fun hI => (Fin.seg [[], [(4, { a := .call [.val [some 2] [], .val [some 2, some 2, none, none] []] false (impl_ExecFresh_R execFresh) (impl_ExecFresh_O execFresh) }), (6, { d := some false })], [(4, { d := some true })], []] [.frz (.cell 4 0 1) (none)] [2, 4, 6, 9] [(1, 0), (3, 0), (4, 0), (9, 0)] [ACalls cx.P 50 [vsl 2 eBox s_.Boxes, .agg (eRun e_.Run)] (impl_ExecFresh_R execFresh) (impl_ExecFresh_O execFresh), (!execFresh) = false, (e_.Run.Code != 0) = true, box.length = box.length] (.cons (impl_ExecFresh_ok s_.Boxes e_.Run execFresh hexecFresh) (.cons e13 (.cons e14 (.cons rfl .nil)))) hI (by kernel_rfl)))) (fun e14 h =>
 (bindD h fun execDo hexecDo h =>
 (jbrkD h hc1 fun hI => (Fin.seg [[], [(4, { a := .call [.val [some 2] [], .val [some 2, some 2, none, none] []] false (impl_ExecFresh_R execFresh) (impl_ExecFresh_O execFresh) }), (6, { d := some false })], [(4, { d := some false })], [], [(4, { a := .call [.val [some 2] [], .val [some 2, some 2, none, none] []] false (impl_ExecDo_R execDo) (impl_ExecDo_O execDo) })]] [] [2, 4, 6, 9] [(1, 0), (3, 0), (4, 0), (9, 0)] [ACalls cx.P 50 [vsl 2 eBox s_.Boxes, .agg (eRun e_.Run)] (impl_ExecFresh_R execFresh) (impl_ExecFresh_O execFresh), (!execFresh) = false, (e_.Run.Code != 0) = false, ACalls cx.P 51 [vsl 2 eBox s_.Boxes, .agg (eRun e_.Run)] (impl_ExecDo_R execDo) (impl_ExecDo_O execDo)] (.cons (impl_ExecFresh_ok s_.Boxes e_.Run execFresh hexecFresh) (.cons e13 (.cons e14 (.cons (impl_ExecDo_ok s_.Boxes e_.Run execDo hexecDo) .nil)))) hI (by kernel_rfl)))))))))))
noncomputable def impl_CertApply_k10 : List Item := posI 2000 5 [false, false] [.code impl_CertApply_c]
noncomputable def impl_CertApply_S8 (s_ : TState) (e_ : TEntry) (box : List TBox) (v45 : Int) : St := ⟨(bs 2 (.ptr 1 0 0 :: (.ptr 2 0 0 :: (.ptr 3 0 0 :: (bs 1 (.ptr 4 0 0 :: (bs 36 (vsl 4 eDone s_.Dones :: (vi (s_.Dones.length : Int) :: (vi v45 :: (bs 106 []))))))))))), [some [], some [.var 49 [vi s_.At, vsl 2 eBox s_.Boxes, vsl 4 eDone s_.Dones]], some [.var 36 [.b e_.None, vi e_.Req.Who, vi e_.Req.Seq, vsl 2 eRead e_.Run.Reads, vsl 2 ePut e_.Run.Puts, vi e_.Run.Val, vi e_.Run.Code]], some [.var 49 [vi 0, .nil, .nil]], some [.var 49 [vi (w64 (s_.At + 1)), .own 5 0 2 0 box.length, .nil]], some [erow 92 2 eBox box]]⟩
noncomputable def impl_CertApply_k11 : List Item := posI 2000 8 [false, false, true, false] [.code impl_CertApply_c]
noncomputable def impl_CertApply_S9 (s_ : TState) (e_ : TEntry) (box : List TBox) (v45 : Int) : St := ⟨(bs 2 (.ptr 1 0 0 :: (.ptr 2 0 0 :: (.ptr 3 0 0 :: (bs 1 (.ptr 4 0 0 :: (bs 36 (vsl 4 eDone s_.Dones :: (vi (s_.Dones.length : Int) :: (vi v45 :: (bs 106 []))))))))))), [some [], some [.var 49 [vi s_.At, vsl 2 eBox s_.Boxes, vsl 4 eDone s_.Dones]], some [.var 36 [.b e_.None, vi e_.Req.Who, vi e_.Req.Seq, vsl 2 eRead e_.Run.Reads, vsl 2 ePut e_.Run.Puts, vi e_.Run.Val, vi e_.Run.Code]], some [.var 49 [vi 0, .nil, .nil]], some [.var 49 [vi (w64 (s_.At + 1)), .own 5 0 2 0 box.length, .nil]], some [erow 92 2 eBox box]]⟩
noncomputable def impl_CertApply_j5 (v45 : Int) : Option (Stp (TState × Int) Int Unit) :=
  some (Stp.nxt (w64 (v45 + 1)))
theorem impl_CertApply_j5_ok (s_ : TState) (e_ : TEntry) (box : List TBox) (v45 : Int) (res : V) (outs : List (Option V)) (x1 : Exc (TState × Int) Unit) (hb1 : ∀ s : Unit, x1 = .brk s → Fin cx impl_CertApply_X res outs impl_CertApply_k1 (impl_CertApply_S1 s_ e_ box)) (hr1 : ∀ v : TState × Int, x1 = .ret v → (res = impl_CertApply_R v ∧ outs = impl_CertApply_O v)) (st1 : Stp (TState × Int) Int Unit) (hc1 : Cont x1 (fun s : Int => Fin cx impl_CertApply_X res outs impl_CertApply_k10 (impl_CertApply_S8 s_ e_ box s)) st1) (h : impl_CertApply_j5 v45 = some st1) : Fin cx impl_CertApply_X res outs impl_CertApply_k11 (impl_CertApply_S9 s_ e_ box v45) :=
  (nxtD h hc1 fun hI => (Fin.seg [[]] [] [2, 3, 4, 6, 43, 44, 45] [(1, 0), (2, 0), (3, 0), (4, 0), (5, 0)] [] .nil hI (by kernel_rfl)))
noncomputable def impl_CertApply_b2 (s_ : TState) (e_ : TEntry) (box : List TBox) (v45 : Int) : Option (Stp (TState × Int) Int Unit) :=
  (bif decide (v45 < (s_.Dones.length : Int)) then
 ((idx s_.Dones v45).bind fun done3 =>
 (((bif (done3.Req.Who == e_.Req.Who) then
 (bif decide (done3.Req.Seq ≥ e_.Req.Seq) then
 ((impl_copied_Done s_.Dones).bind fun done4 =>
 (bif (done3.Req.Seq == e_.Req.Seq) then
 some (Exc.ret (Stp.ret ((TState.mk (w64 (s_.At + 1)) box done4), 3)))
 else
 some (Exc.ret (Stp.ret ((TState.mk (w64 (s_.At + 1)) box done4), 4)))))
 else
 some (Exc.brk ()))
 else
 some (Exc.brk ())) : Option (Exc (Stp (TState × Int) Int Unit) Unit)).bind fun x => x.go some fun j => impl_CertApply_j5 v45))
 else
 some (Stp.brk ()))
theorem impl_CertApply_b2_ok (s_ : TState) (e_ : TEntry) (box : List TBox) (res : V) (outs : List (Option V)) (x1 : Exc (TState × Int) Unit) (hb1 : ∀ s : Unit, x1 = .brk s → Fin cx impl_CertApply_X res outs impl_CertApply_k1 (impl_CertApply_S1 s_ e_ box)) (hr1 : ∀ v : TState × Int, x1 = .ret v → (res = impl_CertApply_R v ∧ outs = impl_CertApply_O v)) (st1 : Stp (TState × Int) Int Unit) (hc1 : Cont x1 (fun s : Int => Fin cx impl_CertApply_X res outs impl_CertApply_k10 (impl_CertApply_S8 s_ e_ box s)) st1) (v45 : Int) (h : impl_CertApply_b2 s_ e_ box v45 = some st1) : Fin cx impl_CertApply_X res outs impl_CertApply_k10 (impl_CertApply_S8 s_ e_ box v45) :=
  (condD h (fun e15 h =>
 (bindD h fun done3 hdone3 h =>
 (joinD (I := fun j : Unit => Fin cx impl_CertApply_X res outs impl_CertApply_k11 (impl_CertApply_S9 s_ e_ box v45)) h (fun j h => impl_CertApply_j5_ok s_ e_ box v45 res outs x1 hb1 hr1 st1 hc1 h) (fun x2 h hc2 =>
  (condD h (fun e16 h =>
 (condD h (fun e17 h =>
 (bindD h fun done4 hdone4 h =>
 (condD h (fun e18 h =>
 (jretD h hc2 fun h => (retD h hc1 fun e => (Fin.fin (cx := cx) (X := impl_CertApply_X) (res := impl_CertApply_R ((TState.mk (w64 (s_.At + 1)) box done4), 3)) (outs := impl_CertApply_O ((TState.mk (w64 (s_.At + 1)) box done4), 3)) Try.func26 [[(0, { d := some true })], [(0, { a := .row (eDone done3) })], [(7, { d := some true }), (15, { d := some true })], [(2, { a := .call [.val [some 4] []] false (impl_copied_Done_R done4) (impl_copied_Done_O done4) })], [(6, { d := some true })], []] [decide (v45 < (s_.Dones.length : Int)) = true, (0 : Int) ≤ v45, v45 < ((s_.Dones.length : Nat) : Int), (s_.Dones.map eDone)[v45.toNat]? = some (eDone done3), (done3.Req.Who == e_.Req.Who) = true, decide (done3.Req.Seq ≥ e_.Req.Seq) = true, ACalls cx.P 49 [vsl 4 eDone s_.Dones] (impl_copied_Done_R done4) (impl_copied_Done_O done4), (done3.Req.Seq == e_.Req.Seq) = true, box.length = box.length] (.cons e15 (.cons (idx0 hdone3) (.cons (idx1 hdone3) (.cons (map_idx hdone3) (.cons e16 (.cons e17 (.cons (impl_copied_Done_ok s_.Dones done4 hdone4) (.cons e18 (.cons rfl .nil))))))))) (by kernel_rfl)).is (hr1 _ e).1 (hr1 _ e).2))) (fun e18 h =>
 (jretD h hc2 fun h => (retD h hc1 fun e => (Fin.fin (cx := cx) (X := impl_CertApply_X) (res := impl_CertApply_R ((TState.mk (w64 (s_.At + 1)) box done4), 4)) (outs := impl_CertApply_O ((TState.mk (w64 (s_.At + 1)) box done4), 4)) Try.func26 [[(0, { d := some true })], [(0, { a := .row (eDone done3) })], [(7, { d := some true }), (15, { d := some true })], [(2, { a := .call [.val [some 4] []] false (impl_copied_Done_R done4) (impl_copied_Done_O done4) })], [(6, { d := some false })], []] [decide (v45 < (s_.Dones.length : Int)) = true, (0 : Int) ≤ v45, v45 < ((s_.Dones.length : Nat) : Int), (s_.Dones.map eDone)[v45.toNat]? = some (eDone done3), (done3.Req.Who == e_.Req.Who) = true, decide (done3.Req.Seq ≥ e_.Req.Seq) = true, ACalls cx.P 49 [vsl 4 eDone s_.Dones] (impl_copied_Done_R done4) (impl_copied_Done_O done4), (done3.Req.Seq == e_.Req.Seq) = false, box.length = box.length] (.cons e15 (.cons (idx0 hdone3) (.cons (idx1 hdone3) (.cons (map_idx hdone3) (.cons e16 (.cons e17 (.cons (impl_copied_Done_ok s_.Dones done4 hdone4) (.cons e18 (.cons rfl .nil))))))))) (by kernel_rfl)).is (hr1 _ e).1 (hr1 _ e).2)))))) (fun e17 h =>
 (jbrkD h hc2 fun hI => (Fin.seg [[(0, { d := some true })], [(0, { a := .row (eDone done3) })], [(7, { d := some true }), (15, { d := some false })]] [] [2, 3, 4, 6, 43, 44, 45] [(1, 0), (2, 0), (3, 0), (4, 0), (5, 0)] [decide (v45 < (s_.Dones.length : Int)) = true, (0 : Int) ≤ v45, v45 < ((s_.Dones.length : Nat) : Int), (s_.Dones.map eDone)[v45.toNat]? = some (eDone done3), (done3.Req.Who == e_.Req.Who) = true, decide (done3.Req.Seq ≥ e_.Req.Seq) = false] (.cons e15 (.cons (idx0 hdone3) (.cons (idx1 hdone3) (.cons (map_idx hdone3) (.cons e16 (.cons e17 .nil)))))) hI (by kernel_rfl)))))) (fun e16 h =>
 (jbrkD h hc2 fun hI => (Fin.seg [[(0, { d := some true })], [(0, { a := .row (eDone done3) })], [(7, { d := some false })]] [] [2, 3, 4, 6, 43, 44, 45] [(1, 0), (2, 0), (3, 0), (4, 0), (5, 0)] [decide (v45 < (s_.Dones.length : Int)) = true, (0 : Int) ≤ v45, v45 < ((s_.Dones.length : Nat) : Int), (s_.Dones.map eDone)[v45.toNat]? = some (eDone done3), (done3.Req.Who == e_.Req.Who) = false] (.cons e15 (.cons (idx0 hdone3) (.cons (idx1 hdone3) (.cons (map_idx hdone3) (.cons e16 .nil))))) hI (by kernel_rfl))))))))) (fun e15 h =>
 (brkD h hc1 fun e => (Fin.seg [[(0, { d := some false })]] [] [2, 3, 4, 6] [(1, 0), (2, 0), (3, 0), (4, 0), (5, 0)] [decide (v45 < (s_.Dones.length : Int)) = false] (.cons e15 .nil) (hb1 _ e) (by kernel_rfl)))))
theorem impl_CertApply_b2_loop (s_ : TState) (e_ : TEntry) (box : List TBox) (res : V) (outs : List (Option V)) (x1 : Exc (TState × Int) Unit) (hb1 : ∀ s : Unit, x1 = .brk s → Fin cx impl_CertApply_X res outs impl_CertApply_k1 (impl_CertApply_S1 s_ e_ box)) (hr1 : ∀ v : TState × Int, x1 = .ret v → (res = impl_CertApply_R v ∧ outs = impl_CertApply_O v)) (s : Int) (h : loop (fun s : Int => impl_CertApply_b2 s_ e_ box s) s = some x1) : Fin cx impl_CertApply_X res outs impl_CertApply_k10 (impl_CertApply_S8 s_ e_ box s) :=
  loopD (I := fun s : Int => Fin cx impl_CertApply_X res outs impl_CertApply_k10 (impl_CertApply_S8 s_ e_ box s)) h fun s st h hc => impl_CertApply_b2_ok s_ e_ box res outs x1 hb1 hr1 st hc s h
noncomputable def impl_CertApply (s_ : TState) (e_ : TEntry) : Option (TState × Int) :=
  ((impl_CertOk s_).bind fun certOk =>
 (bif (!certOk) then
 some ((TState.mk 0 [] []), (-1))
 else
 ((impl_CertEntry e_).bind fun certEntry =>
 (bif (!certEntry) then
 some ((TState.mk 0 [] []), (-1))
 else
 (bif (s_.At == 40) then
 some ((TState.mk 0 [] []), (-1))
 else
 ((impl_copied_Box s_.Boxes).bind fun box =>
 (bif e_.None then
 ((impl_copied_Done s_.Dones).bind fun done =>
 some ((TState.mk (w64 (s_.At + 1)) box done), 5))
 else
 ((loop (fun s : Int => impl_CertApply_b2 s_ e_ box s) 0).bind fun x => x.go (fun r => some r) fun s => impl_CertApply_k9 s_ e_ box))))))))
theorem impl_CertApply_fin (s_ : TState) (e_ : TEntry) (r : TState × Int) (h : impl_CertApply s_ e_ = some r) : Fin cx impl_CertApply_X (impl_CertApply_R r) (impl_CertApply_O r) [.code impl_CertApply_c] (startS impl_CertApply_X [.agg (eState s_), .agg (eEntry e_)]) :=
  (bindD h fun certOk hcertOk h =>
 (condD h (fun e1 h =>
 (someD h fun e => (Fin.fin (cx := cx) (X := impl_CertApply_X) (res := impl_CertApply_R ((TState.mk 0 [] []), (-1))) (outs := impl_CertApply_O ((TState.mk 0 [] []), (-1))) Try.func26 [[], [(1, { a := .call [.val [none, some 2, some 4] []] false (impl_CertOk_R certOk) (impl_CertOk_O certOk) }), (3, { d := some true })], []] [ACalls cx.P 47 [.agg (eState s_)] (impl_CertOk_R certOk) (impl_CertOk_O certOk), (!certOk) = true] (.cons (impl_CertOk_ok s_ certOk hcertOk) (.cons e1 .nil)) (by kernel_rfl)).is (congrArg impl_CertApply_R e) (congrArg impl_CertApply_O e))) (fun e1 h =>
 (bindD h fun certEntry hcertEntry h =>
 (condD h (fun e2 h =>
 (someD h fun e => (Fin.fin (cx := cx) (X := impl_CertApply_X) (res := impl_CertApply_R ((TState.mk 0 [] []), (-1))) (outs := impl_CertApply_O ((TState.mk 0 [] []), (-1))) Try.func26 [[], [(1, { a := .call [.val [none, some 2, some 4] []] false (impl_CertOk_R certOk) (impl_CertOk_O certOk) }), (3, { d := some false }), (5, { a := .call [.val [none, none, none, some 2, some 2, none, none] []] false (impl_CertEntry_R certEntry) (impl_CertEntry_O certEntry) }), (8, { d := some true })], []] [ACalls cx.P 47 [.agg (eState s_)] (impl_CertOk_R certOk) (impl_CertOk_O certOk), (!certOk) = false, ACalls cx.P 24 [.agg (eEntry e_)] (impl_CertEntry_R certEntry) (impl_CertEntry_O certEntry), (!certEntry) = true] (.cons (impl_CertOk_ok s_ certOk hcertOk) (.cons e1 (.cons (impl_CertEntry_ok e_ certEntry hcertEntry) (.cons e2 .nil)))) (by kernel_rfl)).is (congrArg impl_CertApply_R e) (congrArg impl_CertApply_O e))) (fun e2 h =>
 (condD h (fun e3 h =>
 (someD h fun e => (Fin.fin (cx := cx) (X := impl_CertApply_X) (res := impl_CertApply_R ((TState.mk 0 [] []), (-1))) (outs := impl_CertApply_O ((TState.mk 0 [] []), (-1))) Try.func26 [[], [(1, { a := .call [.val [none, some 2, some 4] []] false (impl_CertOk_R certOk) (impl_CertOk_O certOk) }), (3, { d := some false }), (5, { a := .call [.val [none, none, none, some 2, some 2, none, none] []] false (impl_CertEntry_R certEntry) (impl_CertEntry_O certEntry) }), (8, { d := some false }), (12, { d := some true })], []] [ACalls cx.P 47 [.agg (eState s_)] (impl_CertOk_R certOk) (impl_CertOk_O certOk), (!certOk) = false, ACalls cx.P 24 [.agg (eEntry e_)] (impl_CertEntry_R certEntry) (impl_CertEntry_O certEntry), (!certEntry) = false, (s_.At == 40) = true] (.cons (impl_CertOk_ok s_ certOk hcertOk) (.cons e1 (.cons (impl_CertEntry_ok e_ certEntry hcertEntry) (.cons e2 (.cons e3 .nil))))) (by kernel_rfl)).is (congrArg impl_CertApply_R e) (congrArg impl_CertApply_O e))) (fun e3 h =>
 (bindD h fun box hbox h =>
 (condD h (fun e4 h =>
 (bindD h fun done hdone h =>
 (someD h fun e => (Fin.fin (cx := cx) (X := impl_CertApply_X) (res := impl_CertApply_R ((TState.mk (w64 (s_.At + 1)) box done), 5)) (outs := impl_CertApply_O ((TState.mk (w64 (s_.At + 1)) box done), 5)) Try.func26 [[], [(1, { a := .call [.val [none, some 2, some 4] []] false (impl_CertOk_R certOk) (impl_CertOk_O certOk) }), (3, { d := some false }), (5, { a := .call [.val [none, none, none, some 2, some 2, none, none] []] false (impl_CertEntry_R certEntry) (impl_CertEntry_O certEntry) }), (8, { d := some false }), (12, { d := some false })], [(5, { a := .call [.val [some 2] []] false (impl_copied_Box_R box) (impl_copied_Box_O box) })], [(1, { d := some true })], [(2, { a := .call [.val [some 4] []] false (impl_copied_Done_R done) (impl_copied_Done_O done) })], []] [ACalls cx.P 47 [.agg (eState s_)] (impl_CertOk_R certOk) (impl_CertOk_O certOk), (!certOk) = false, ACalls cx.P 24 [.agg (eEntry e_)] (impl_CertEntry_R certEntry) (impl_CertEntry_O certEntry), (!certEntry) = false, (s_.At == 40) = false, ACalls cx.P 48 [vsl 2 eBox s_.Boxes] (impl_copied_Box_R box) (impl_copied_Box_O box), e_.None = true, ACalls cx.P 49 [vsl 4 eDone s_.Dones] (impl_copied_Done_R done) (impl_copied_Done_O done), box.length = box.length] (.cons (impl_CertOk_ok s_ certOk hcertOk) (.cons e1 (.cons (impl_CertEntry_ok e_ certEntry hcertEntry) (.cons e2 (.cons e3 (.cons (impl_copied_Box_ok s_.Boxes box hbox) (.cons e4 (.cons (impl_copied_Done_ok s_.Dones done hdone) (.cons rfl .nil))))))))) (by kernel_rfl)).is (congrArg impl_CertApply_R e) (congrArg impl_CertApply_O e)))) (fun e4 h =>
 (loopJ h fun x hl hr hb => (Fin.seg [[], [(1, { a := .call [.val [none, some 2, some 4] []] false (impl_CertOk_R certOk) (impl_CertOk_O certOk) }), (3, { d := some false }), (5, { a := .call [.val [none, none, none, some 2, some 2, none, none] []] false (impl_CertEntry_R certEntry) (impl_CertEntry_O certEntry) }), (8, { d := some false }), (12, { d := some false })], [(5, { a := .call [.val [some 2] []] false (impl_copied_Box_R box) (impl_copied_Box_O box) })], [(1, { d := some false })], []] [] [2, 3, 4, 6, 43, 44, 45] [(1, 0), (2, 0), (3, 0), (25, 0), (23, 0)] [ACalls cx.P 47 [.agg (eState s_)] (impl_CertOk_R certOk) (impl_CertOk_O certOk), (!certOk) = false, ACalls cx.P 24 [.agg (eEntry e_)] (impl_CertEntry_R certEntry) (impl_CertEntry_O certEntry), (!certEntry) = false, (s_.At == 40) = false, ACalls cx.P 48 [vsl 2 eBox s_.Boxes] (impl_copied_Box_R box) (impl_copied_Box_O box), e_.None = false] (.cons (impl_CertOk_ok s_ certOk hcertOk) (.cons e1 (.cons (impl_CertEntry_ok e_ certEntry hcertEntry) (.cons e2 (.cons e3 (.cons (impl_copied_Box_ok s_.Boxes box hbox) (.cons e4 .nil))))))) (impl_CertApply_b2_loop s_ e_ box _ _ x (fun s e => impl_CertApply_k9_ok s_ e_ box r (hb s e)) (fun v e => ⟨congrArg impl_CertApply_R (Option.some.inj (hr v e)).symm, congrArg impl_CertApply_O (Option.some.inj (hr v e)).symm⟩) 0 hl) (by kernel_rfl))))))))))))))
theorem impl_CertApply_ok (s_ : TState) (e_ : TEntry) (r : TState × Int) (h : impl_CertApply s_ e_ = some r) : ACalls cx.P 26 [.agg (eState s_), .agg (eEntry e_)] (impl_CertApply_R r) (impl_CertApply_O r) :=
  ACalls.of (cx := cx) (X := impl_CertApply_X) (c := impl_CertApply_c) Try.func26 (by kernel_rfl) (by kernel_rfl) (by kernel_rfl) (impl_CertApply_fin s_ e_ r h)

/-! ### impl_folded -/
noncomputable def impl_folded_c : Code := bodyOf Try.f11
noncomputable def impl_folded_X : Sig := { f := 11, fn := Try.f11, rms := [.val [none, some 2, some 4] [], .val [some 1] []], oms := [none] }
noncomputable def impl_folded_R (r : TState × List Int) : V := .tup [.agg (eState r.1), vsl 1 eI r.2]
noncomputable def impl_folded_O (r : TState × List Int) : List (Option V) := [none]
noncomputable def impl_folded_k1 : List Item := posI 2000 5 [false] [.code impl_folded_c]
noncomputable def impl_folded_S1 (s_1 : TState) (codes1 : List Int) : St := ⟨(bs 2 (.ptr 1 0 0 :: (bs 1 (.ptr 2 0 0 :: (.own 3 0 1 0 codes1.length :: (bs 25 [])))))), [some [], some [.var 49 [vi 0, .nil, .nil]], some [.var 49 [vi s_1.At, vsl 2 eBox s_1.Boxes, vsl 4 eDone s_1.Dones]], some [erow 3 1 eI codes1]]⟩
noncomputable def impl_folded_k2 (s_1 : TState) (codes1 : List Int) : Option (TState × List Int) :=
  some (s_1, codes1)
theorem impl_folded_k2_ok (r : TState × List Int) (s_1 : TState) (codes1 : List Int) (h : impl_folded_k2 s_1 codes1 = some r) : Fin cx impl_folded_X (impl_folded_R r) (impl_folded_O r) impl_folded_k1 (impl_folded_S1 s_1 codes1) :=
  (someD h fun e => (Fin.fin (cx := cx) (X := impl_folded_X) (res := impl_folded_R (s_1, codes1)) (outs := impl_folded_O (s_1, codes1)) Try.func11 [[]] [codes1.length = codes1.length] (.cons rfl .nil) (by kernel_rfl)).is (congrArg impl_folded_R e) (congrArg impl_folded_O e))
noncomputable def impl_folded_k3 : List Item := posI 2000 4 [] [.code impl_folded_c]
noncomputable def impl_folded_S2 (list : List TEntry) (s_ : TState) (codes : List Int) (v13 : Int) : St := ⟨(bs 2 (.ptr 1 0 0 :: (bs 1 (.ptr 2 0 0 :: (.own 3 0 1 0 codes.length :: (bs 5 (vsl 7 eEntry list :: (vi (list.length : Int) :: (vi v13 :: (bs 17 [])))))))))), [some [], some [.var 49 [vi 0, .nil, .nil]], some [.var 49 [vi s_.At, vsl 2 eBox s_.Boxes, vsl 4 eDone s_.Dones]], some [erow 3 1 eI codes]]⟩
noncomputable def impl_folded_b1 (list : List TEntry) (s_ : TState) (codes : List Int) (v13 : Int) : Option (Stp (TState × List Int) (TState × (List Int) × Int) (TState × List Int)) :=
  (bif decide (v13 < (list.length : Int)) then
 ((idx list v13).bind fun entry =>
 ((impl_CertApply s_ entry).bind fun certApply =>
 (need ((codes.length + 1) * 8 ≤ 140737488355328)
 (some (Stp.nxt (certApply.1, codes ++ [certApply.2], w64 (v13 + 1)))))))
 else
 some (Stp.brk (s_, codes)))
theorem impl_folded_b1_ok (list : List TEntry) (res : V) (outs : List (Option V)) (x1 : Exc (TState × List Int) (TState × List Int)) (hb1 : ∀ s : TState × List Int, x1 = .brk s → Fin cx impl_folded_X res outs impl_folded_k1 (impl_folded_S1 s.1 s.2)) (hr1 : ∀ v : TState × List Int, x1 = .ret v → (res = impl_folded_R v ∧ outs = impl_folded_O v)) (st1 : Stp (TState × List Int) (TState × (List Int) × Int) (TState × List Int)) (hc1 : Cont x1 (fun s : TState × (List Int) × Int => Fin cx impl_folded_X res outs impl_folded_k3 (impl_folded_S2 list s.1 s.2.1 s.2.2)) st1) (s_ : TState) (codes : List Int) (v13 : Int) (h : impl_folded_b1 list s_ codes v13 = some st1) : Fin cx impl_folded_X res outs impl_folded_k3 (impl_folded_S2 list s_ codes v13) :=
  (condD h (fun e1 h =>
 (bindD h fun entry hentry h =>
 (bindD h fun certApply hcertApply h =>
 (needD h fun e2 h =>
 (nxtD h hc1 fun hI => (Fin.seg [[(0, { d := some true })], [(0, { a := .row (eEntry entry) })], [(2, { a := .call [.val [none, some 2, some 4] [], .val [none, none, none, some 2, some 2, none, none] []] false (impl_CertApply_R certApply) (impl_CertApply_O certApply) })], [], [(2, { a := .ck [] }), (3, { v := some (.own 23 0 1 0 (codes ++ [certApply.2]).length), e := some (erow 3 1 eI (codes ++ [certApply.2])) })], []] [] [2, 4, 5, 11, 12, 13] [(1, 0), (2, 0), (23, 0)] [decide (v13 < (list.length : Int)) = true, (0 : Int) ≤ v13, v13 < ((list.length : Nat) : Int), (list.map eEntry)[v13.toNat]? = some (eEntry entry), ACalls cx.P 26 [.agg (eState s_), .agg (eEntry entry)] (impl_CertApply_R certApply) (impl_CertApply_O certApply), V.own 23 0 1 0 (codes.length + 1) = .own 23 0 1 0 (codes ++ [certApply.2]).length, Ent.row 3 1 (codes.length + 1) (codes.map eI ++ [eI certApply.2]) = erow 3 1 eI (codes ++ [certApply.2]), codes.length = codes.length, (codes.length + 1) * 8 ≤ 140737488355328, 1 = [certApply.2].length] (.cons e1 (.cons (idx0 hentry) (.cons (idx1 hentry) (.cons (map_idx hentry) (.cons (impl_CertApply_ok s_ entry certApply hcertApply) (.cons (by first | exact congrArg (V.own 23 0 1 0) List.length_append.symm | simp) (.cons (row_app rfl) (.cons rfl (.cons e2 (.cons (by rfl) .nil)))))))))) hI (by kernel_rfl))))))) (fun e1 h =>
 (brkD h hc1 fun e => (Fin.seg [[(0, { d := some false })]] [] [2, 4, 5] [(1, 0), (2, 0), (3, 0)] [decide (v13 < (list.length : Int)) = false] (.cons e1 .nil) (hb1 _ e) (by kernel_rfl)))))
theorem impl_folded_b1_loop (list : List TEntry) (res : V) (outs : List (Option V)) (x1 : Exc (TState × List Int) (TState × List Int)) (hb1 : ∀ s : TState × List Int, x1 = .brk s → Fin cx impl_folded_X res outs impl_folded_k1 (impl_folded_S1 s.1 s.2)) (hr1 : ∀ v : TState × List Int, x1 = .ret v → (res = impl_folded_R v ∧ outs = impl_folded_O v)) (s : TState × (List Int) × Int) (h : loop (fun s : TState × (List Int) × Int => impl_folded_b1 list s.1 s.2.1 s.2.2) s = some x1) : Fin cx impl_folded_X res outs impl_folded_k3 (impl_folded_S2 list s.1 s.2.1 s.2.2) :=
  loopD (I := fun s : TState × (List Int) × Int => Fin cx impl_folded_X res outs impl_folded_k3 (impl_folded_S2 list s.1 s.2.1 s.2.2)) h fun s st h hc => impl_folded_b1_ok list res outs x1 hb1 hr1 st hc s.1 s.2.1 s.2.2 h
noncomputable def impl_folded (list : List TEntry) : Option (TState × List Int) :=
  ((impl_CertOpen).bind fun certOpen =>
 ((loop (fun s : TState × (List Int) × Int => impl_folded_b1 list s.1 s.2.1 s.2.2) (certOpen, [], 0)).bind fun x => x.go (fun r => some r) fun s => impl_folded_k2 s.1 s.2))
theorem impl_folded_fin (list : List TEntry) (r : TState × List Int) (h : impl_folded list = some r) : Fin cx impl_folded_X (impl_folded_R r) (impl_folded_O r) [.code impl_folded_c] (startS impl_folded_X [vsl 7 eEntry list]) :=
  (bindD h fun certOpen hcertOpen h =>
 (loopJ h fun x hl hr hb => (Fin.seg [[], [(0, { a := .call [] false (impl_CertOpen_R certOpen) (impl_CertOpen_O certOpen) })], [], []] [.own (.tmp 5) 3 1] [2, 4, 5, 11, 12, 13] [(1, 0), (4, 0), (10, 0)] [ACalls cx.P 25 [] (impl_CertOpen_R certOpen) (impl_CertOpen_O certOpen)] (.cons (impl_CertOpen_ok certOpen hcertOpen) .nil) (impl_folded_b1_loop list _ _ x (fun s e => impl_folded_k2_ok r s.1 s.2 (hb s e)) (fun v e => ⟨congrArg impl_folded_R (Option.some.inj (hr v e)).symm, congrArg impl_folded_O (Option.some.inj (hr v e)).symm⟩) (certOpen, [], 0) hl) (by kernel_rfl))))
theorem impl_folded_ok (list : List TEntry) (r : TState × List Int) (h : impl_folded list = some r) : ACalls cx.P 11 [vsl 7 eEntry list] (impl_folded_R r) (impl_folded_O r) :=
  ACalls.of (cx := cx) (X := impl_folded_X) (c := impl_folded_c) Try.func11 (by kernel_rfl) (by kernel_rfl) (by kernel_rfl) (impl_folded_fin list r h)

/-! ### impl_putAt -/
noncomputable def impl_putAt_c : Code := bodyOf Try.f27
noncomputable def impl_putAt_X : Sig := { f := 27, fn := Try.f27, rms := [.val [] []], oms := [none, none] }
noncomputable def impl_putAt_R (r : Int) : V := vi r
noncomputable def impl_putAt_O (r : Int) : List (Option V) := [none, none]
noncomputable def impl_putAt_k1 : List Item := posI 2000 3 [false] [.code impl_putAt_c]
noncomputable def impl_putAt_S1 : St := ⟨(bs 21 []), [some []]⟩
noncomputable def impl_putAt_k2 : Option Int :=
  some (-1)
theorem impl_putAt_k2_ok (r : Int) (h : impl_putAt_k2 = some r) : Fin cx impl_putAt_X (impl_putAt_R r) (impl_putAt_O r) impl_putAt_k1 (impl_putAt_S1) :=
  (someD h fun e => (Fin.fin (cx := cx) (X := impl_putAt_X) (res := impl_putAt_R (-1)) (outs := impl_putAt_O (-1)) Try.func27 [[]] [] .nil (by kernel_rfl)).is (congrArg impl_putAt_R e) (congrArg impl_putAt_O e))
noncomputable def impl_putAt_k3 : List Item := posI 2000 2 [] [.code impl_putAt_c]
noncomputable def impl_putAt_S2 (r_ : TRun) (box : Int) (v10 : Int) : St := ⟨(bs 1 (vi box :: (bs 6 (vsl 2 ePut r_.Puts :: (vi (r_.Puts.length : Int) :: (vi v10 :: (bs 10 []))))))), [some []]⟩
noncomputable def impl_putAt_b1 (r_ : TRun) (box : Int) (v10 : Int) : Option (Stp Int Int Unit) :=
  (bif decide (v10 < (r_.Puts.length : Int)) then
 ((idx r_.Puts v10).bind fun put =>
 (bif (put.Box == box) then
 some (Stp.ret v10)
 else
 some (Stp.nxt (w64 (v10 + 1)))))
 else
 some (Stp.brk ()))
theorem impl_putAt_b1_ok (r_ : TRun) (box : Int) (res : V) (outs : List (Option V)) (x1 : Exc Int Unit) (hb1 : ∀ s : Unit, x1 = .brk s → Fin cx impl_putAt_X res outs impl_putAt_k1 (impl_putAt_S1)) (hr1 : ∀ v : Int, x1 = .ret v → (res = impl_putAt_R v ∧ outs = impl_putAt_O v)) (st1 : Stp Int Int Unit) (hc1 : Cont x1 (fun s : Int => Fin cx impl_putAt_X res outs impl_putAt_k3 (impl_putAt_S2 r_ box s)) st1) (v10 : Int) (h : impl_putAt_b1 r_ box v10 = some st1) : Fin cx impl_putAt_X res outs impl_putAt_k3 (impl_putAt_S2 r_ box v10) :=
  (condD h (fun e1 h =>
 (bindD h fun put hput h =>
 (condD h (fun e2 h =>
 (retD h hc1 fun e => (Fin.fin (cx := cx) (X := impl_putAt_X) (res := impl_putAt_R v10) (outs := impl_putAt_O v10) Try.func27 [[(0, { d := some true })], [(1, { a := .row (ePut put) })], [(3, { d := some true })], []] [decide (v10 < (r_.Puts.length : Int)) = true, (0 : Int) ≤ v10, v10 < ((r_.Puts.length : Nat) : Int), (r_.Puts.map ePut)[v10.toNat]? = some (ePut put), (put.Box == box) = true] (.cons e1 (.cons (idx0 hput) (.cons (idx1 hput) (.cons (map_idx hput) (.cons e2 .nil))))) (by kernel_rfl)).is (hr1 _ e).1 (hr1 _ e).2)) (fun e2 h =>
 (nxtD h hc1 fun hI => (Fin.seg [[(0, { d := some true })], [(1, { a := .row (ePut put) })], [(3, { d := some false })], []] [] [1, 8, 9, 10] [] [decide (v10 < (r_.Puts.length : Int)) = true, (0 : Int) ≤ v10, v10 < ((r_.Puts.length : Nat) : Int), (r_.Puts.map ePut)[v10.toNat]? = some (ePut put), (put.Box == box) = false] (.cons e1 (.cons (idx0 hput) (.cons (idx1 hput) (.cons (map_idx hput) (.cons e2 .nil))))) hI (by kernel_rfl))))))) (fun e1 h =>
 (brkD h hc1 fun e => (Fin.seg [[(0, { d := some false })]] [] [] [] [decide (v10 < (r_.Puts.length : Int)) = false] (.cons e1 .nil) (hb1 _ e) (by kernel_rfl)))))
theorem impl_putAt_b1_loop (r_ : TRun) (box : Int) (res : V) (outs : List (Option V)) (x1 : Exc Int Unit) (hb1 : ∀ s : Unit, x1 = .brk s → Fin cx impl_putAt_X res outs impl_putAt_k1 (impl_putAt_S1)) (hr1 : ∀ v : Int, x1 = .ret v → (res = impl_putAt_R v ∧ outs = impl_putAt_O v)) (s : Int) (h : loop (fun s : Int => impl_putAt_b1 r_ box s) s = some x1) : Fin cx impl_putAt_X res outs impl_putAt_k3 (impl_putAt_S2 r_ box s) :=
  loopD (I := fun s : Int => Fin cx impl_putAt_X res outs impl_putAt_k3 (impl_putAt_S2 r_ box s)) h fun s st h hc => impl_putAt_b1_ok r_ box res outs x1 hb1 hr1 st hc s h
noncomputable def impl_putAt (r_ : TRun) (box : Int) : Option Int :=
  ((loop (fun s : Int => impl_putAt_b1 r_ box s) 0).bind fun x => x.go (fun r => some r) fun s => impl_putAt_k2)
theorem impl_putAt_fin (r_ : TRun) (box : Int) (r : Int) (h : impl_putAt r_ box = some r) : Fin cx impl_putAt_X (impl_putAt_R r) (impl_putAt_O r) [.code impl_putAt_c] (startS impl_putAt_X [.agg (eRun r_), vi box]) :=
  (loopJ h fun x hl hr hb => (Fin.seg [[], []] [] [1, 8, 9, 10] [] [] .nil (impl_putAt_b1_loop r_ box _ _ x (fun s e => impl_putAt_k2_ok r (hb s e)) (fun v e => ⟨congrArg impl_putAt_R (Option.some.inj (hr v e)).symm, congrArg impl_putAt_O (Option.some.inj (hr v e)).symm⟩) 0 hl) (by kernel_rfl)))
theorem impl_putAt_ok (r_ : TRun) (box : Int) (r : Int) (h : impl_putAt r_ box = some r) : ACalls cx.P 27 [.agg (eRun r_), vi box] (impl_putAt_R r) (impl_putAt_O r) :=
  ACalls.of (cx := cx) (X := impl_putAt_X) (c := impl_putAt_c) Try.func27 (by kernel_rfl) (by kernel_rfl) (by kernel_rfl) (impl_putAt_fin r_ box r h)

/-! ### impl_readAt -/
noncomputable def impl_readAt_c : Code := bodyOf Try.f28
noncomputable def impl_readAt_X : Sig := { f := 28, fn := Try.f28, rms := [.val [] []], oms := [none, none] }
noncomputable def impl_readAt_R (r : Int) : V := vi r
noncomputable def impl_readAt_O (r : Int) : List (Option V) := [none, none]
noncomputable def impl_readAt_k1 : List Item := posI 2000 3 [false] [.code impl_readAt_c]
noncomputable def impl_readAt_S1 : St := ⟨(bs 21 []), [some []]⟩
noncomputable def impl_readAt_k2 : Option Int :=
  some (-1)
theorem impl_readAt_k2_ok (r : Int) (h : impl_readAt_k2 = some r) : Fin cx impl_readAt_X (impl_readAt_R r) (impl_readAt_O r) impl_readAt_k1 (impl_readAt_S1) :=
  (someD h fun e => (Fin.fin (cx := cx) (X := impl_readAt_X) (res := impl_readAt_R (-1)) (outs := impl_readAt_O (-1)) Try.func28 [[]] [] .nil (by kernel_rfl)).is (congrArg impl_readAt_R e) (congrArg impl_readAt_O e))
noncomputable def impl_readAt_k3 : List Item := posI 2000 2 [] [.code impl_readAt_c]
noncomputable def impl_readAt_S2 (r_ : TRun) (box : Int) (v10 : Int) : St := ⟨(bs 1 (vi box :: (bs 6 (vsl 2 eRead r_.Reads :: (vi (r_.Reads.length : Int) :: (vi v10 :: (bs 10 []))))))), [some []]⟩
noncomputable def impl_readAt_b1 (r_ : TRun) (box : Int) (v10 : Int) : Option (Stp Int Int Unit) :=
  (bif decide (v10 < (r_.Reads.length : Int)) then
 ((idx r_.Reads v10).bind fun read =>
 (bif (read.Box == box) then
 some (Stp.ret v10)
 else
 some (Stp.nxt (w64 (v10 + 1)))))
 else
 some (Stp.brk ()))
theorem impl_readAt_b1_ok (r_ : TRun) (box : Int) (res : V) (outs : List (Option V)) (x1 : Exc Int Unit) (hb1 : ∀ s : Unit, x1 = .brk s → Fin cx impl_readAt_X res outs impl_readAt_k1 (impl_readAt_S1)) (hr1 : ∀ v : Int, x1 = .ret v → (res = impl_readAt_R v ∧ outs = impl_readAt_O v)) (st1 : Stp Int Int Unit) (hc1 : Cont x1 (fun s : Int => Fin cx impl_readAt_X res outs impl_readAt_k3 (impl_readAt_S2 r_ box s)) st1) (v10 : Int) (h : impl_readAt_b1 r_ box v10 = some st1) : Fin cx impl_readAt_X res outs impl_readAt_k3 (impl_readAt_S2 r_ box v10) :=
  (condD h (fun e1 h =>
 (bindD h fun read hread h =>
 (condD h (fun e2 h =>
 (retD h hc1 fun e => (Fin.fin (cx := cx) (X := impl_readAt_X) (res := impl_readAt_R v10) (outs := impl_readAt_O v10) Try.func28 [[(0, { d := some true })], [(1, { a := .row (eRead read) })], [(3, { d := some true })], []] [decide (v10 < (r_.Reads.length : Int)) = true, (0 : Int) ≤ v10, v10 < ((r_.Reads.length : Nat) : Int), (r_.Reads.map eRead)[v10.toNat]? = some (eRead read), (read.Box == box) = true] (.cons e1 (.cons (idx0 hread) (.cons (idx1 hread) (.cons (map_idx hread) (.cons e2 .nil))))) (by kernel_rfl)).is (hr1 _ e).1 (hr1 _ e).2)) (fun e2 h =>
 (nxtD h hc1 fun hI => (Fin.seg [[(0, { d := some true })], [(1, { a := .row (eRead read) })], [(3, { d := some false })], []] [] [1, 8, 9, 10] [] [decide (v10 < (r_.Reads.length : Int)) = true, (0 : Int) ≤ v10, v10 < ((r_.Reads.length : Nat) : Int), (r_.Reads.map eRead)[v10.toNat]? = some (eRead read), (read.Box == box) = false] (.cons e1 (.cons (idx0 hread) (.cons (idx1 hread) (.cons (map_idx hread) (.cons e2 .nil))))) hI (by kernel_rfl))))))) (fun e1 h =>
 (brkD h hc1 fun e => (Fin.seg [[(0, { d := some false })]] [] [] [] [decide (v10 < (r_.Reads.length : Int)) = false] (.cons e1 .nil) (hb1 _ e) (by kernel_rfl)))))
theorem impl_readAt_b1_loop (r_ : TRun) (box : Int) (res : V) (outs : List (Option V)) (x1 : Exc Int Unit) (hb1 : ∀ s : Unit, x1 = .brk s → Fin cx impl_readAt_X res outs impl_readAt_k1 (impl_readAt_S1)) (hr1 : ∀ v : Int, x1 = .ret v → (res = impl_readAt_R v ∧ outs = impl_readAt_O v)) (s : Int) (h : loop (fun s : Int => impl_readAt_b1 r_ box s) s = some x1) : Fin cx impl_readAt_X res outs impl_readAt_k3 (impl_readAt_S2 r_ box s) :=
  loopD (I := fun s : Int => Fin cx impl_readAt_X res outs impl_readAt_k3 (impl_readAt_S2 r_ box s)) h fun s st h hc => impl_readAt_b1_ok r_ box res outs x1 hb1 hr1 st hc s h
noncomputable def impl_readAt (r_ : TRun) (box : Int) : Option Int :=
  ((loop (fun s : Int => impl_readAt_b1 r_ box s) 0).bind fun x => x.go (fun r => some r) fun s => impl_readAt_k2)
theorem impl_readAt_fin (r_ : TRun) (box : Int) (r : Int) (h : impl_readAt r_ box = some r) : Fin cx impl_readAt_X (impl_readAt_R r) (impl_readAt_O r) [.code impl_readAt_c] (startS impl_readAt_X [.agg (eRun r_), vi box]) :=
  (loopJ h fun x hl hr hb => (Fin.seg [[], []] [] [1, 8, 9, 10] [] [] .nil (impl_readAt_b1_loop r_ box _ _ x (fun s e => impl_readAt_k2_ok r (hb s e)) (fun v e => ⟨congrArg impl_readAt_R (Option.some.inj (hr v e)).symm, congrArg impl_readAt_O (Option.some.inj (hr v e)).symm⟩) 0 hl) (by kernel_rfl)))
theorem impl_readAt_ok (r_ : TRun) (box : Int) (r : Int) (h : impl_readAt r_ box = some r) : ACalls cx.P 28 [.agg (eRun r_), vi box] (impl_readAt_R r) (impl_readAt_O r) :=
  ACalls.of (cx := cx) (X := impl_readAt_X) (c := impl_readAt_c) Try.func28 (by kernel_rfl) (by kernel_rfl) (by kernel_rfl) (impl_readAt_fin r_ box r h)

/-! ### impl_clash -/
noncomputable def impl_clash_c : Code := bodyOf Try.f12
noncomputable def impl_clash_X : Sig := { f := 12, fn := Try.f12, rms := [.val [] []], oms := [none, none, none] }
noncomputable def impl_clash_R (r : Bool) : V := .b r
noncomputable def impl_clash_O (r : Bool) : List (Option V) := [none, none, none]
noncomputable def impl_clash (a : TRun) (b : TRun) (box : Int) : Option Bool :=
  ((impl_putAt a box).bind fun putAt =>
 ((impl_putAt b box).bind fun putAt1 =>
 (bif decide (putAt ≥ 0) then
 (bif decide (putAt1 ≥ 0) then
 some true
 else
 (bif decide (putAt ≥ 0) then
 ((impl_readAt b box).bind fun readAt =>
 (bif decide (readAt ≥ 0) then
 some true
 else
 (bif decide (putAt1 ≥ 0) then
 ((impl_readAt a box).bind fun readAt1 =>
 some (decide (readAt1 ≥ 0)))
 else
 some false)))
 else
 (bif decide (putAt1 ≥ 0) then
 ((impl_readAt a box).bind fun readAt2 =>
 some (decide (readAt2 ≥ 0)))
 else
 some false)))
 else
 (bif decide (putAt ≥ 0) then
 ((impl_readAt b box).bind fun readAt3 =>
 (bif decide (readAt3 ≥ 0) then
 some true
 else
 (bif decide (putAt1 ≥ 0) then
 ((impl_readAt a box).bind fun readAt4 =>
 some (decide (readAt4 ≥ 0)))
 else
 some false)))
 else
 (bif decide (putAt1 ≥ 0) then
 ((impl_readAt a box).bind fun readAt5 =>
 some (decide (readAt5 ≥ 0)))
 else
 some false)))))
theorem impl_clash_fin (a : TRun) (b : TRun) (box : Int) (r : Bool) (h : impl_clash a b box = some r) : Fin cx impl_clash_X (impl_clash_R r) (impl_clash_O r) [.code impl_clash_c] (startS impl_clash_X [.agg (eRun a), .agg (eRun b), vi box]) :=
  (bindD h fun putAt hputAt h =>
 (bindD h fun putAt1 hputAt1 h =>
 (condD h (fun e1 h =>
 (condD h (fun e2 h =>
 (someD h fun e => (Fin.fin (cx := cx) (X := impl_clash_X) (res := impl_clash_R true) (outs := impl_clash_O true) Try.func12 [[], [(2, { a := .call [.val [some 2, some 2, none, none] [], .val [] []] false (impl_putAt_R putAt) (impl_putAt_O putAt) }), (6, { a := .call [.val [some 2, some 2, none, none] [], .val [] []] false (impl_putAt_R putAt1) (impl_putAt_O putAt1) })], [(1, { d := some true }), (4, { d := some true })]] [ACalls cx.P 27 [.agg (eRun a), vi box] (impl_putAt_R putAt) (impl_putAt_O putAt), ACalls cx.P 27 [.agg (eRun b), vi box] (impl_putAt_R putAt1) (impl_putAt_O putAt1), decide (putAt ≥ 0) = true, decide (putAt1 ≥ 0) = true] (.cons (impl_putAt_ok a box putAt hputAt) (.cons (impl_putAt_ok b box putAt1 hputAt1) (.cons e1 (.cons e2 .nil)))) (by kernel_rfl)).is (congrArg impl_clash_R e) (congrArg impl_clash_O e))) (fun e2 h =>
 (condD h (fun e3 h =>
 (bindD h fun readAt hreadAt h =>
 (condD h (fun e4 h =>
 (someD h fun e => (Fin.fin (cx := cx) (X := impl_clash_X) (res := impl_clash_R true) (outs := impl_clash_O true) Try.func12 [[], [(2, { a := .call [.val [some 2, some 2, none, none] [], .val [] []] false (impl_putAt_R putAt) (impl_putAt_O putAt) }), (6, { a := .call [.val [some 2, some 2, none, none] [], .val [] []] false (impl_putAt_R putAt1) (impl_putAt_O putAt1) })], [(1, { d := some true }), (4, { d := some false }), (6, { d := some true }), (9, { a := .call [.val [some 2, some 2, none, none] [], .val [] []] false (impl_readAt_R readAt) (impl_readAt_O readAt) }), (13, { d := some true })]] [ACalls cx.P 27 [.agg (eRun a), vi box] (impl_putAt_R putAt) (impl_putAt_O putAt), ACalls cx.P 27 [.agg (eRun b), vi box] (impl_putAt_R putAt1) (impl_putAt_O putAt1), decide (putAt ≥ 0) = true, decide (putAt1 ≥ 0) = false, decide (putAt ≥ 0) = true, ACalls cx.P 28 [.agg (eRun b), vi box] (impl_readAt_R readAt) (impl_readAt_O readAt), decide (readAt ≥ 0) = true] (.cons (impl_putAt_ok a box putAt hputAt) (.cons (impl_putAt_ok b box putAt1 hputAt1) (.cons e1 (.cons e2 (.cons e3 (.cons (impl_readAt_ok b box readAt hreadAt) (.cons e4 .nil))))))) (by kernel_rfl)).is (congrArg impl_clash_R e) (congrArg impl_clash_O e))) (fun e4 h =>
 (condD h (fun e5 h =>
 (bindD h fun readAt1 hreadAt1 h =>
 (someD h fun e => (Fin.fin (cx := cx) (X := impl_clash_X) (res := impl_clash_R (decide (readAt1 ≥ 0))) (outs := impl_clash_O (decide (readAt1 ≥ 0))) Try.func12 [[], [(2, { a := .call [.val [some 2, some 2, none, none] [], .val [] []] false (impl_putAt_R putAt) (impl_putAt_O putAt) }), (6, { a := .call [.val [some 2, some 2, none, none] [], .val [] []] false (impl_putAt_R putAt1) (impl_putAt_O putAt1) })], [(1, { d := some true }), (4, { d := some false }), (6, { d := some true }), (9, { a := .call [.val [some 2, some 2, none, none] [], .val [] []] false (impl_readAt_R readAt) (impl_readAt_O readAt) }), (13, { d := some false }), (15, { d := some true }), (18, { a := .call [.val [some 2, some 2, none, none] [], .val [] []] false (impl_readAt_R readAt1) (impl_readAt_O readAt1) })]] [ACalls cx.P 27 [.agg (eRun a), vi box] (impl_putAt_R putAt) (impl_putAt_O putAt), ACalls cx.P 27 [.agg (eRun b), vi box] (impl_putAt_R putAt1) (impl_putAt_O putAt1), decide (putAt ≥ 0) = true, decide (putAt1 ≥ 0) = false, decide (putAt ≥ 0) = true, ACalls cx.P 28 [.agg (eRun b), vi box] (impl_readAt_R readAt) (impl_readAt_O readAt), decide (readAt ≥ 0) = false, decide (putAt1 ≥ 0) = true, ACalls cx.P 28 [.agg (eRun a), vi box] (impl_readAt_R readAt1) (impl_readAt_O readAt1)] (.cons (impl_putAt_ok a box putAt hputAt) (.cons (impl_putAt_ok b box putAt1 hputAt1) (.cons e1 (.cons e2 (.cons e3 (.cons (impl_readAt_ok b box readAt hreadAt) (.cons e4 (.cons e5 (.cons (impl_readAt_ok a box readAt1 hreadAt1) .nil))))))))) (by kernel_rfl)).is (congrArg impl_clash_R e) (congrArg impl_clash_O e)))) (fun e5 h =>
 (someD h fun e => (Fin.fin (cx := cx) (X := impl_clash_X) (res := impl_clash_R false) (outs := impl_clash_O false) Try.func12 [[], [(2, { a := .call [.val [some 2, some 2, none, none] [], .val [] []] false (impl_putAt_R putAt) (impl_putAt_O putAt) }), (6, { a := .call [.val [some 2, some 2, none, none] [], .val [] []] false (impl_putAt_R putAt1) (impl_putAt_O putAt1) })], [(1, { d := some true }), (4, { d := some false }), (6, { d := some true }), (9, { a := .call [.val [some 2, some 2, none, none] [], .val [] []] false (impl_readAt_R readAt) (impl_readAt_O readAt) }), (13, { d := some false }), (15, { d := some false })]] [ACalls cx.P 27 [.agg (eRun a), vi box] (impl_putAt_R putAt) (impl_putAt_O putAt), ACalls cx.P 27 [.agg (eRun b), vi box] (impl_putAt_R putAt1) (impl_putAt_O putAt1), decide (putAt ≥ 0) = true, decide (putAt1 ≥ 0) = false, decide (putAt ≥ 0) = true, ACalls cx.P 28 [.agg (eRun b), vi box] (impl_readAt_R readAt) (impl_readAt_O readAt), decide (readAt ≥ 0) = false, decide (putAt1 ≥ 0) = false] (.cons (impl_putAt_ok a box putAt hputAt) (.cons (impl_putAt_ok b box putAt1 hputAt1) (.cons e1 (.cons e2 (.cons e3 (.cons (impl_readAt_ok b box readAt hreadAt) (.cons e4 (.cons e5 .nil)))))))) (by kernel_rfl)).is (congrArg impl_clash_R e) (congrArg impl_clash_O e)))))))) (fun e3 h =>
 (condD h (fun e6 h =>
 (bindD h fun readAt2 hreadAt2 h =>
 (someD h fun e => (Fin.fin (cx := cx) (X := impl_clash_X) (res := impl_clash_R (decide (readAt2 ≥ 0))) (outs := impl_clash_O (decide (readAt2 ≥ 0))) Try.func12 [[], [(2, { a := .call [.val [some 2, some 2, none, none] [], .val [] []] false (impl_putAt_R putAt) (impl_putAt_O putAt) }), (6, { a := .call [.val [some 2, some 2, none, none] [], .val [] []] false (impl_putAt_R putAt1) (impl_putAt_O putAt1) })], [(1, { d := some true }), (4, { d := some false }), (6, { d := some false }), (15, { d := some true }), (18, { a := .call [.val [some 2, some 2, none, none] [], .val [] []] false (impl_readAt_R readAt2) (impl_readAt_O readAt2) })]] [ACalls cx.P 27 [.agg (eRun a), vi box] (impl_putAt_R putAt) (impl_putAt_O putAt), ACalls cx.P 27 [.agg (eRun b), vi box] (impl_putAt_R putAt1) (impl_putAt_O putAt1), decide (putAt ≥ 0) = true, decide (putAt1 ≥ 0) = false, decide (putAt ≥ 0) = false, decide (putAt1 ≥ 0) = true, ACalls cx.P 28 [.agg (eRun a), vi box] (impl_readAt_R readAt2) (impl_readAt_O readAt2)] (.cons (impl_putAt_ok a box putAt hputAt) (.cons (impl_putAt_ok b box putAt1 hputAt1) (.cons e1 (.cons e2 (.cons e3 (.cons e6 (.cons (impl_readAt_ok a box readAt2 hreadAt2) .nil))))))) (by kernel_rfl)).is (congrArg impl_clash_R e) (congrArg impl_clash_O e)))) (fun e6 h =>
 (someD h fun e => (Fin.fin (cx := cx) (X := impl_clash_X) (res := impl_clash_R false) (outs := impl_clash_O false) Try.func12 [[], [(2, { a := .call [.val [some 2, some 2, none, none] [], .val [] []] false (impl_putAt_R putAt) (impl_putAt_O putAt) }), (6, { a := .call [.val [some 2, some 2, none, none] [], .val [] []] false (impl_putAt_R putAt1) (impl_putAt_O putAt1) })], [(1, { d := some true }), (4, { d := some false }), (6, { d := some false }), (15, { d := some false })]] [ACalls cx.P 27 [.agg (eRun a), vi box] (impl_putAt_R putAt) (impl_putAt_O putAt), ACalls cx.P 27 [.agg (eRun b), vi box] (impl_putAt_R putAt1) (impl_putAt_O putAt1), decide (putAt ≥ 0) = true, decide (putAt1 ≥ 0) = false, decide (putAt ≥ 0) = false, decide (putAt1 ≥ 0) = false] (.cons (impl_putAt_ok a box putAt hputAt) (.cons (impl_putAt_ok b box putAt1 hputAt1) (.cons e1 (.cons e2 (.cons e3 (.cons e6 .nil)))))) (by kernel_rfl)).is (congrArg impl_clash_R e) (congrArg impl_clash_O e))))))))) (fun e1 h =>
 (condD h (fun e7 h =>
 (bindD h fun readAt3 hreadAt3 h =>
 (condD h (fun e8 h =>
 (someD h fun e => (Fin.fin (cx := cx) (X := impl_clash_X) (res := impl_clash_R true) (outs := impl_clash_O true) Try.func12 [[], [(2, { a := .call [.val [some 2, some 2, none, none] [], .val [] []] false (impl_putAt_R putAt) (impl_putAt_O putAt) }), (6, { a := .call [.val [some 2, some 2, none, none] [], .val [] []] false (impl_putAt_R putAt1) (impl_putAt_O putAt1) })], [(1, { d := some false }), (6, { d := some true }), (9, { a := .call [.val [some 2, some 2, none, none] [], .val [] []] false (impl_readAt_R readAt3) (impl_readAt_O readAt3) }), (13, { d := some true })]] [ACalls cx.P 27 [.agg (eRun a), vi box] (impl_putAt_R putAt) (impl_putAt_O putAt), ACalls cx.P 27 [.agg (eRun b), vi box] (impl_putAt_R putAt1) (impl_putAt_O putAt1), decide (putAt ≥ 0) = false, decide (putAt ≥ 0) = true, ACalls cx.P 28 [.agg (eRun b), vi box] (impl_readAt_R readAt3) (impl_readAt_O readAt3), decide (readAt3 ≥ 0) = true] (.cons (impl_putAt_ok a box putAt hputAt) (.cons (impl_putAt_ok b box putAt1 hputAt1) (.cons e1 (.cons e7 (.cons (impl_readAt_ok b box readAt3 hreadAt3) (.cons e8 .nil)))))) (by kernel_rfl)).is (congrArg impl_clash_R e) (congrArg impl_clash_O e))) (fun e8 h =>
 (condD h (fun e9 h =>
 (bindD h fun readAt4 hreadAt4 h =>
 (someD h fun e => (Fin.fin (cx := cx) (X := impl_clash_X) (res := impl_clash_R (decide (readAt4 ≥ 0))) (outs := impl_clash_O (decide (readAt4 ≥ 0))) Try.func12 [[], [(2, { a := .call [.val [some 2, some 2, none, none] [], .val [] []] false (impl_putAt_R putAt) (impl_putAt_O putAt) }), (6, { a := .call [.val [some 2, some 2, none, none] [], .val [] []] false (impl_putAt_R putAt1) (impl_putAt_O putAt1) })], [(1, { d := some false }), (6, { d := some true }), (9, { a := .call [.val [some 2, some 2, none, none] [], .val [] []] false (impl_readAt_R readAt3) (impl_readAt_O readAt3) }), (13, { d := some false }), (15, { d := some true }), (18, { a := .call [.val [some 2, some 2, none, none] [], .val [] []] false (impl_readAt_R readAt4) (impl_readAt_O readAt4) })]] [ACalls cx.P 27 [.agg (eRun a), vi box] (impl_putAt_R putAt) (impl_putAt_O putAt), ACalls cx.P 27 [.agg (eRun b), vi box] (impl_putAt_R putAt1) (impl_putAt_O putAt1), decide (putAt ≥ 0) = false, decide (putAt ≥ 0) = true, ACalls cx.P 28 [.agg (eRun b), vi box] (impl_readAt_R readAt3) (impl_readAt_O readAt3), decide (readAt3 ≥ 0) = false, decide (putAt1 ≥ 0) = true, ACalls cx.P 28 [.agg (eRun a), vi box] (impl_readAt_R readAt4) (impl_readAt_O readAt4)] (.cons (impl_putAt_ok a box putAt hputAt) (.cons (impl_putAt_ok b box putAt1 hputAt1) (.cons e1 (.cons e7 (.cons (impl_readAt_ok b box readAt3 hreadAt3) (.cons e8 (.cons e9 (.cons (impl_readAt_ok a box readAt4 hreadAt4) .nil)))))))) (by kernel_rfl)).is (congrArg impl_clash_R e) (congrArg impl_clash_O e)))) (fun e9 h =>
 (someD h fun e => (Fin.fin (cx := cx) (X := impl_clash_X) (res := impl_clash_R false) (outs := impl_clash_O false) Try.func12 [[], [(2, { a := .call [.val [some 2, some 2, none, none] [], .val [] []] false (impl_putAt_R putAt) (impl_putAt_O putAt) }), (6, { a := .call [.val [some 2, some 2, none, none] [], .val [] []] false (impl_putAt_R putAt1) (impl_putAt_O putAt1) })], [(1, { d := some false }), (6, { d := some true }), (9, { a := .call [.val [some 2, some 2, none, none] [], .val [] []] false (impl_readAt_R readAt3) (impl_readAt_O readAt3) }), (13, { d := some false }), (15, { d := some false })]] [ACalls cx.P 27 [.agg (eRun a), vi box] (impl_putAt_R putAt) (impl_putAt_O putAt), ACalls cx.P 27 [.agg (eRun b), vi box] (impl_putAt_R putAt1) (impl_putAt_O putAt1), decide (putAt ≥ 0) = false, decide (putAt ≥ 0) = true, ACalls cx.P 28 [.agg (eRun b), vi box] (impl_readAt_R readAt3) (impl_readAt_O readAt3), decide (readAt3 ≥ 0) = false, decide (putAt1 ≥ 0) = false] (.cons (impl_putAt_ok a box putAt hputAt) (.cons (impl_putAt_ok b box putAt1 hputAt1) (.cons e1 (.cons e7 (.cons (impl_readAt_ok b box readAt3 hreadAt3) (.cons e8 (.cons e9 .nil))))))) (by kernel_rfl)).is (congrArg impl_clash_R e) (congrArg impl_clash_O e)))))))) (fun e7 h =>
 (condD h (fun e10 h =>
 (bindD h fun readAt5 hreadAt5 h =>
 (someD h fun e => (Fin.fin (cx := cx) (X := impl_clash_X) (res := impl_clash_R (decide (readAt5 ≥ 0))) (outs := impl_clash_O (decide (readAt5 ≥ 0))) Try.func12 [[], [(2, { a := .call [.val [some 2, some 2, none, none] [], .val [] []] false (impl_putAt_R putAt) (impl_putAt_O putAt) }), (6, { a := .call [.val [some 2, some 2, none, none] [], .val [] []] false (impl_putAt_R putAt1) (impl_putAt_O putAt1) })], [(1, { d := some false }), (6, { d := some false }), (15, { d := some true }), (18, { a := .call [.val [some 2, some 2, none, none] [], .val [] []] false (impl_readAt_R readAt5) (impl_readAt_O readAt5) })]] [ACalls cx.P 27 [.agg (eRun a), vi box] (impl_putAt_R putAt) (impl_putAt_O putAt), ACalls cx.P 27 [.agg (eRun b), vi box] (impl_putAt_R putAt1) (impl_putAt_O putAt1), decide (putAt ≥ 0) = false, decide (putAt ≥ 0) = false, decide (putAt1 ≥ 0) = true, ACalls cx.P 28 [.agg (eRun a), vi box] (impl_readAt_R readAt5) (impl_readAt_O readAt5)] (.cons (impl_putAt_ok a box putAt hputAt) (.cons (impl_putAt_ok b box putAt1 hputAt1) (.cons e1 (.cons e7 (.cons e10 (.cons (impl_readAt_ok a box readAt5 hreadAt5) .nil)))))) (by kernel_rfl)).is (congrArg impl_clash_R e) (congrArg impl_clash_O e)))) (fun e10 h =>
 (someD h fun e => (Fin.fin (cx := cx) (X := impl_clash_X) (res := impl_clash_R false) (outs := impl_clash_O false) Try.func12 [[], [(2, { a := .call [.val [some 2, some 2, none, none] [], .val [] []] false (impl_putAt_R putAt) (impl_putAt_O putAt) }), (6, { a := .call [.val [some 2, some 2, none, none] [], .val [] []] false (impl_putAt_R putAt1) (impl_putAt_O putAt1) })], [(1, { d := some false }), (6, { d := some false }), (15, { d := some false })]] [ACalls cx.P 27 [.agg (eRun a), vi box] (impl_putAt_R putAt) (impl_putAt_O putAt), ACalls cx.P 27 [.agg (eRun b), vi box] (impl_putAt_R putAt1) (impl_putAt_O putAt1), decide (putAt ≥ 0) = false, decide (putAt ≥ 0) = false, decide (putAt1 ≥ 0) = false] (.cons (impl_putAt_ok a box putAt hputAt) (.cons (impl_putAt_ok b box putAt1 hputAt1) (.cons e1 (.cons e7 (.cons e10 .nil))))) (by kernel_rfl)).is (congrArg impl_clash_R e) (congrArg impl_clash_O e))))))))))
theorem impl_clash_ok (a : TRun) (b : TRun) (box : Int) (r : Bool) (h : impl_clash a b box = some r) : ACalls cx.P 12 [.agg (eRun a), .agg (eRun b), vi box] (impl_clash_R r) (impl_clash_O r) :=
  ACalls.of (cx := cx) (X := impl_clash_X) (c := impl_clash_c) Try.func12 (by kernel_rfl) (by kernel_rfl) (by kernel_rfl) (impl_clash_fin a b box r h)

/-! ### impl_copied_Clash -/
noncomputable def impl_copied_Clash_c : Code := bodyOf Try.f13
noncomputable def impl_copied_Clash_X : Sig := { f := 13, fn := Try.f13, rms := [.val [some 3] []], oms := [none] }
noncomputable def impl_copied_Clash_R (r : List TClash) : V := vsl 3 eClash r
noncomputable def impl_copied_Clash_O (r : List TClash) : List (Option V) := [none]
noncomputable def impl_copied_Clash (list : List TClash) : Option (List TClash) :=
  (bif ((list.length : Int) == 0) then
 some []
 else
 (need (0 ≤ (list.length : Int) ∧ (list.length : Int) * 24 ≤ 140737488355328)
 ((need (list.length = (List.replicate (list.length : Int).toNat (TClash.mk 0 0 0)).length)
 (some list)))))
theorem impl_copied_Clash_fin (list : List TClash) (r : List TClash) (h : impl_copied_Clash list = some r) : Fin cx impl_copied_Clash_X (impl_copied_Clash_R r) (impl_copied_Clash_O r) [.code impl_copied_Clash_c] (startS impl_copied_Clash_X [vsl 3 eClash list]) :=
  (condD h (fun e1 h =>
 (someD h fun e => (Fin.fin (cx := cx) (X := impl_copied_Clash_X) (res := impl_copied_Clash_R []) (outs := impl_copied_Clash_O []) Try.func13 [[], [(2, { d := some true })], []] [((list.length : Int) == 0) = true] (.cons e1 .nil) (by kernel_rfl)).is (congrArg impl_copied_Clash_R e) (congrArg impl_copied_Clash_O e))) (fun e1 h =>
 (needD h fun e2 h =>
 (needD h fun e3 h =>
 (someD h fun e => (Fin.fin (cx := cx) (X := impl_copied_Clash_X) (res := impl_copied_Clash_R list) (outs := impl_copied_Clash_O list) Try.func13 [[], [(2, { d := some false })], [(2, { e := some (erow 38 3 eClash (List.replicate (list.length : Int).toNat (TClash.mk 0 0 0))), v := some (.own 7 0 3 0 (List.replicate (list.length : Int).toNat (TClash.mk 0 0 0)).length) })], [(2, { e := some (erow 38 3 eClash list) })], []] [((list.length : Int) == 0) = false, V.own 7 0 3 0 (list.length : Int).toNat = .own 7 0 3 0 (List.replicate (list.length : Int).toNat (TClash.mk 0 0 0)).length, Ent.row 38 3 (list.length : Int).toNat (List.replicate (list.length : Int).toNat [vi 0, vi 0, vi 0]) = erow 38 3 eClash (List.replicate (list.length : Int).toNat (TClash.mk 0 0 0)), (0 : Int) ≤ (list.length : Int), (list.length : Int) = (list.length : Int), (list.length : Int) * ((24 : Nat) : Int) ≤ 140737488355328 ∧ 0 < 24, ([vi 0, vi 0, vi 0] : List V).length = 3, Ent.row 38 3 (List.replicate (list.length : Int).toNat (TClash.mk 0 0 0)).length (list.map eClash) = erow 38 3 eClash list, (List.replicate (list.length : Int).toNat (TClash.mk 0 0 0)).length = (List.replicate (list.length : Int).toNat (TClash.mk 0 0 0)).length, list.length = (List.replicate (list.length : Int).toNat (TClash.mk 0 0 0)).length, (List.replicate (list.length : Int).toNat (TClash.mk 0 0 0)).length = list.length] (.cons e1 (.cons (by simp) (.cons (row_rep rfl) (.cons e2.1 (.cons rfl (.cons ⟨e2.2, by decide⟩ (.cons rfl (.cons (row_copy e3) (.cons rfl (.cons e3 (.cons (by simp) .nil))))))))))) (by kernel_rfl)).is (congrArg impl_copied_Clash_R e) (congrArg impl_copied_Clash_O e))))))
theorem impl_copied_Clash_ok (list : List TClash) (r : List TClash) (h : impl_copied_Clash list = some r) : ACalls cx.P 13 [vsl 3 eClash list] (impl_copied_Clash_R r) (impl_copied_Clash_O r) :=
  ACalls.of (cx := cx) (X := impl_copied_Clash_X) (c := impl_copied_Clash_c) Try.func13 (by kernel_rfl) (by kernel_rfl) (by kernel_rfl) (impl_copied_Clash_fin list r h)

/-! ### impl_HistClashes -/
noncomputable def impl_HistClashes_c : Code := bodyOf Try.f5
noncomputable def impl_HistClashes_X : Sig := { f := 5, fn := Try.f5, rms := [.val [some 3] []], oms := [none] }
noncomputable def impl_HistClashes_R (r : List TClash) : V := vsl 3 eClash r
noncomputable def impl_HistClashes_O (r : List TClash) : List (Option V) := [none]
noncomputable def impl_HistClashes_k1 : List Item := posI 2000 6 [false, false] [.code impl_HistClashes_c]
noncomputable def impl_HistClashes_S1 (out1 : List TClash) : St := ⟨(bs 5 (.own 1 0 3 0 out1.length :: (bs 64 []))), [some [], some [erow 38 3 eClash out1]]⟩
noncomputable def impl_HistClashes_k2 (out1 : List TClash) : Option (List TClash) :=
  ((impl_copied_Clash out1).bind fun clash =>
 some clash)
theorem impl_HistClashes_k2_ok (r : List TClash) (out1 : List TClash) (h : impl_HistClashes_k2 out1 = some r) : Fin cx impl_HistClashes_X (impl_HistClashes_R r) (impl_HistClashes_O r) impl_HistClashes_k1 (impl_HistClashes_S1 out1) :=
  (bindD h fun clash hclash h =>
 (someD h fun e => (Fin.fin (cx := cx) (X := impl_HistClashes_X) (res := impl_HistClashes_R clash) (outs := impl_HistClashes_O clash) Try.func5 [[(1, { a := .call [.val [some 3] []] false (impl_copied_Clash_R clash) (impl_copied_Clash_O clash) })]] [ACalls cx.P 13 [vsl 3 eClash out1] (impl_copied_Clash_R clash) (impl_copied_Clash_O clash), out1.length = out1.length] (.cons (impl_copied_Clash_ok out1 clash hclash) (.cons rfl .nil)) (by kernel_rfl)).is (congrArg impl_HistClashes_R e) (congrArg impl_HistClashes_O e)))
noncomputable def impl_HistClashes_k3 : List Item := posI 2000 5 [false] [.code impl_HistClashes_c]
noncomputable def impl_HistClashes_S2 (list : List TEntry) (folded : TState × List Int) (out : List TClash) (v19 : Int) : St := ⟨(vsl 7 eEntry list :: (bs 3 (vsl 1 eI folded.2 :: (.own 1 0 3 0 out.length :: (bs 12 (vi (list.length : Int) :: (vi v19 :: (bs 50 [])))))))), [some [], some [erow 38 3 eClash out]]⟩
noncomputable def impl_HistClashes_k4 : List Item := posI 2000 9 [false, true, false] [.code impl_HistClashes_c]
noncomputable def impl_HistClashes_S3 (list : List TEntry) (folded : TState × List Int) (v19 : Int) (out3 : List TClash) : St := ⟨(vsl 7 eEntry list :: (bs 3 (vsl 1 eI folded.2 :: (.own 1 0 3 0 out3.length :: (bs 12 (vi (list.length : Int) :: (vi v19 :: (bs 50 [])))))))), [some [], some [erow 38 3 eClash out3]]⟩
noncomputable def impl_HistClashes_k5 (v19 : Int) (out3 : List TClash) : Option (Stp (List TClash) ((List TClash) × Int) (List TClash)) :=
  some (Stp.nxt (out3, w64 (v19 + 1)))
theorem impl_HistClashes_k5_ok (list : List TEntry) (folded : TState × List Int) (v19 : Int) (res : V) (outs : List (Option V)) (x1 : Exc (List TClash) (List TClash)) (hb1 : ∀ s : List TClash, x1 = .brk s → Fin cx impl_HistClashes_X res outs impl_HistClashes_k1 (impl_HistClashes_S1 s)) (hr1 : ∀ v : List TClash, x1 = .ret v → (res = impl_HistClashes_R v ∧ outs = impl_HistClashes_O v)) (st1 : Stp (List TClash) ((List TClash) × Int) (List TClash)) (hc1 : Cont x1 (fun s : (List TClash) × Int => Fin cx impl_HistClashes_X res outs impl_HistClashes_k3 (impl_HistClashes_S2 list folded s.1 s.2)) st1) (out3 : List TClash) (h : impl_HistClashes_k5 v19 out3 = some st1) : Fin cx impl_HistClashes_X res outs impl_HistClashes_k4 (impl_HistClashes_S3 list folded v19 out3) :=
  (nxtD h hc1 fun hI => (Fin.seg [[]] [] [0, 4, 5, 18, 19] [(1, 0)] [] .nil hI (by kernel_rfl)))
noncomputable def impl_HistClashes_k6 : List Item := posI 2000 8 [false, true] [.code impl_HistClashes_c]
noncomputable def impl_HistClashes_S4 (list : List TEntry) (folded : TState × List Int) (v19 : Int) (out2 : List TClash) (k : Int) : St := ⟨(vsl 7 eEntry list :: (bs 3 (vsl 1 eI folded.2 :: (.own 1 0 3 0 out2.length :: (vi v19 :: (vi k :: (bs 10 (vi (list.length : Int) :: (vi v19 :: (bs 50 [])))))))))), [some [], some [erow 38 3 eClash out2]]⟩
noncomputable def impl_HistClashes_k7 : List Item := posI 2000 11 [false, true, true, false] [.code impl_HistClashes_c]
noncomputable def impl_HistClashes_S5 (list : List TEntry) (folded : TState × List Int) (v19 : Int) (k : Int) (out5 : List TClash) : St := ⟨(vsl 7 eEntry list :: (bs 3 (vsl 1 eI folded.2 :: (.own 1 0 3 0 out5.length :: (vi v19 :: (vi k :: (bs 10 (vi (list.length : Int) :: (vi v19 :: (bs 50 [])))))))))), [some [], some [erow 38 3 eClash out5]]⟩
noncomputable def impl_HistClashes_k8 (k : Int) (out5 : List TClash) : Option (Stp (List TClash) ((List TClash) × Int) (List TClash)) :=
  some (Stp.nxt (out5, w64 (k + 1)))
theorem impl_HistClashes_k8_ok (list : List TEntry) (folded : TState × List Int) (v19 : Int) (k : Int) (res : V) (outs : List (Option V)) (x2 : Exc (List TClash) (List TClash)) (hb2 : ∀ s : List TClash, x2 = .brk s → Fin cx impl_HistClashes_X res outs impl_HistClashes_k4 (impl_HistClashes_S3 list folded v19 s)) (hr2 : ∀ v : List TClash, x2 = .ret v → (res = impl_HistClashes_R v ∧ outs = impl_HistClashes_O v)) (st2 : Stp (List TClash) ((List TClash) × Int) (List TClash)) (hc2 : Cont x2 (fun s : (List TClash) × Int => Fin cx impl_HistClashes_X res outs impl_HistClashes_k6 (impl_HistClashes_S4 list folded v19 s.1 s.2)) st2) (out5 : List TClash) (h : impl_HistClashes_k8 k out5 = some st2) : Fin cx impl_HistClashes_X res outs impl_HistClashes_k7 (impl_HistClashes_S5 list folded v19 k out5) :=
  (nxtD h hc2 fun hI => (Fin.seg [[]] [] [0, 4, 5, 6, 7, 18, 19] [(1, 0)] [] .nil hI (by kernel_rfl)))
noncomputable def impl_HistClashes_k9 : List Item := posI 2000 10 [false, true, true] [.code impl_HistClashes_c]
noncomputable def impl_HistClashes_S6 (list : List TEntry) (folded : TState × List Int) (v19 : Int) (k : Int) (out4 : List TClash) (box : Int) : St := ⟨(vsl 7 eEntry list :: (bs 3 (vsl 1 eI folded.2 :: (.own 1 0 3 0 out4.length :: (vi v19 :: (vi k :: (vi box :: (bs 9 (vi (list.length : Int) :: (vi v19 :: (bs 50 []))))))))))), [some [], some [erow 38 3 eClash out4]]⟩
noncomputable def impl_HistClashes_k10 : List Item := posI 2000 13 [false, true, true, true, true] [.code impl_HistClashes_c]
noncomputable def impl_HistClashes_S7 (list : List TEntry) (folded : TState × List Int) (v19 : Int) (k : Int) (box : Int) (out6 : List TClash) : St := ⟨(vsl 7 eEntry list :: (bs 3 (vsl 1 eI folded.2 :: (.own 1 0 3 0 out6.length :: (vi v19 :: (vi k :: (vi box :: (bs 9 (vi (list.length : Int) :: (vi v19 :: (bs 50 []))))))))))), [some [], some [erow 38 3 eClash out6]]⟩
noncomputable def impl_HistClashes_j1 (box : Int) (out6 : List TClash) : Option (Stp (List TClash) ((List TClash) × Int) (List TClash)) :=
  some (Stp.nxt (out6, w64 (box + 1)))
theorem impl_HistClashes_j1_ok (list : List TEntry) (folded : TState × List Int) (v19 : Int) (k : Int) (box : Int) (res : V) (outs : List (Option V)) (x3 : Exc (List TClash) (List TClash)) (hb3 : ∀ s : List TClash, x3 = .brk s → Fin cx impl_HistClashes_X res outs impl_HistClashes_k7 (impl_HistClashes_S5 list folded v19 k s)) (hr3 : ∀ v : List TClash, x3 = .ret v → (res = impl_HistClashes_R v ∧ outs = impl_HistClashes_O v)) (st3 : Stp (List TClash) ((List TClash) × Int) (List TClash)) (hc3 : Cont x3 (fun s : (List TClash) × Int => Fin cx impl_HistClashes_X res outs impl_HistClashes_k9 (impl_HistClashes_S6 list folded v19 k s.1 s.2)) st3) (out6 : List TClash) (h : impl_HistClashes_j1 box out6 = some st3) : Fin cx impl_HistClashes_X res outs impl_HistClashes_k10 (impl_HistClashes_S7 list folded v19 k box out6) :=
  (nxtD h hc3 fun hI => (Fin.seg [[]] [] [0, 4, 5, 6, 7, 8, 18, 19] [(1, 0)] [] .nil hI (by kernel_rfl)))
noncomputable def impl_HistClashes_b1 (list : List TEntry) (folded : TState × List Int) (v19 : Int) (k : Int) (out4 : List TClash) (box : Int) : Option (Stp (List TClash) ((List TClash) × Int) (List TClash)) :=
  (bif decide (box < 4) then
 ((idx folded.2 v19).bind fun y =>
 (bif (y == 0) then
 ((idx folded.2 k).bind fun y1 =>
 (bif (y1 == 0) then
 ((((idx list v19).bind fun entry =>
 ((idx list k).bind fun entry1 =>
 ((impl_clash entry.Run entry1.Run box).bind fun clash1 =>
 (bif clash1 then
 (need ((out4.length + 1) * 24 ≤ 140737488355328)
 (some (Exc.brk (out4 ++ [(TClash.mk v19 k box)]))))
 else
 some (Exc.brk out4))))) : Option (Exc (Stp (List TClash) ((List TClash) × Int) (List TClash)) (List TClash))).bind fun x => x.go some fun j => impl_HistClashes_j1 box j)
 else
 some (Stp.brk out4)))
 else
 some (Stp.brk out4)))
 else
 some (Stp.brk out4))
theorem impl_HistClashes_b1_ok (list : List TEntry) (folded : TState × List Int) (v19 : Int) (k : Int) (res : V) (outs : List (Option V)) (x3 : Exc (List TClash) (List TClash)) (hb3 : ∀ s : List TClash, x3 = .brk s → Fin cx impl_HistClashes_X res outs impl_HistClashes_k7 (impl_HistClashes_S5 list folded v19 k s)) (hr3 : ∀ v : List TClash, x3 = .ret v → (res = impl_HistClashes_R v ∧ outs = impl_HistClashes_O v)) (st3 : Stp (List TClash) ((List TClash) × Int) (List TClash)) (hc3 : Cont x3 (fun s : (List TClash) × Int => Fin cx impl_HistClashes_X res outs impl_HistClashes_k9 (impl_HistClashes_S6 list folded v19 k s.1 s.2)) st3) (out4 : List TClash) (box : Int) (h : impl_HistClashes_b1 list folded v19 k out4 box = some st3) : Fin cx impl_HistClashes_X res outs impl_HistClashes_k9 (impl_HistClashes_S6 list folded v19 k out4 box) :=
  (condD h (fun e4 h =>
 (bindD h fun y hy h =>
 (condD h (fun e5 h =>
 (bindD h fun y1 hy1 h =>
 (condD h (fun e6 h =>
 (joinD (I := fun j : List TClash => Fin cx impl_HistClashes_X res outs impl_HistClashes_k10 (impl_HistClashes_S7 list folded v19 k box j)) h (fun j h => impl_HistClashes_j1_ok list folded v19 k box res outs x3 hb3 hr3 st3 hc3 j h) (fun x4 h hc4 =>
  (bindD h fun entry hentry h =>
 (bindD h fun entry1 hentry1 h =>
 (bindD h fun clash1 hclash1 h =>
 (condD h (fun e7 h =>
 (needD h fun e8 h =>
 (jbrkD h hc4 fun hI => (Fin.seg [[(2, { d := some true }), (5, { a := .row (eI y) }), (9, { d := some true }), (12, { a := .row (eI y1) }), (15, { d := some true })], [(2, { a := .row (eEntry entry) }), (7, { a := .row (eEntry entry1) }), (11, { a := .call [.val [some 2, some 2, none, none] [], .val [some 2, some 2, none, none] [], .val [] []] false (impl_clash_R clash1) (impl_clash_O clash1), d := some true })], [(5, { a := .ck [] }), (6, { v := some (.own 36 0 3 0 (out4 ++ [(TClash.mk v19 k box)]).length), e := some (erow 38 3 eClash (out4 ++ [(TClash.mk v19 k box)])) })]] [] [0, 4, 5, 6, 7, 8, 18, 19] [(36, 0)] [decide (box < 4) = true, (0 : Int) ≤ v19, v19 < ((folded.2.length : Nat) : Int), (folded.2.map eI)[v19.toNat]? = some (eI y), (y == 0) = true, (0 : Int) ≤ k, k < ((folded.2.length : Nat) : Int), (folded.2.map eI)[k.toNat]? = some (eI y1), (y1 == 0) = true, (0 : Int) ≤ v19, v19 < ((list.length : Nat) : Int), (list.map eEntry)[v19.toNat]? = some (eEntry entry), (0 : Int) ≤ k, k < ((list.length : Nat) : Int), (list.map eEntry)[k.toNat]? = some (eEntry entry1), clash1 = true, ACalls cx.P 12 [.agg (eRun entry.Run), .agg (eRun entry1.Run), vi box] (impl_clash_R clash1) (impl_clash_O clash1), V.own 36 0 3 0 (out4.length + 1) = .own 36 0 3 0 (out4 ++ [(TClash.mk v19 k box)]).length, Ent.row 38 3 (out4.length + 1) (out4.map eClash ++ [eClash (TClash.mk v19 k box)]) = erow 38 3 eClash (out4 ++ [(TClash.mk v19 k box)]), out4.length = out4.length, (out4.length + 1) * 24 ≤ 140737488355328, 1 = [(TClash.mk v19 k box)].length] (.cons e4 (.cons (idx0 hy) (.cons (idx1 hy) (.cons (map_idx hy) (.cons e5 (.cons (idx0 hy1) (.cons (idx1 hy1) (.cons (map_idx hy1) (.cons e6 (.cons (idx0 hentry) (.cons (idx1 hentry) (.cons (map_idx hentry) (.cons (idx0 hentry1) (.cons (idx1 hentry1) (.cons (map_idx hentry1) (.cons e7 (.cons (impl_clash_ok entry.Run entry1.Run box clash1 hclash1) (.cons (by first | exact congrArg (V.own 36 0 3 0) List.length_append.symm | simp) (.cons (row_app rfl) (.cons rfl (.cons e8 (.cons (by rfl) .nil)))))))))))))))))))))) hI (by kernel_rfl))))) (fun e7 h =>
 (jbrkD h hc4 fun hI => (Fin.seg [[(2, { d := some true }), (5, { a := .row (eI y) }), (9, { d := some true }), (12, { a := .row (eI y1) }), (15, { d := some true })], [(2, { a := .row (eEntry entry) }), (7, { a := .row (eEntry entry1) }), (11, { a := .call [.val [some 2, some 2, none, none] [], .val [some 2, some 2, none, none] [], .val [] []] false (impl_clash_R clash1) (impl_clash_O clash1), d := some false })]] [] [0, 4, 5, 6, 7, 8, 18, 19] [(1, 0)] [decide (box < 4) = true, (0 : Int) ≤ v19, v19 < ((folded.2.length : Nat) : Int), (folded.2.map eI)[v19.toNat]? = some (eI y), (y == 0) = true, (0 : Int) ≤ k, k < ((folded.2.length : Nat) : Int), (folded.2.map eI)[k.toNat]? = some (eI y1), (y1 == 0) = true, (0 : Int) ≤ v19, v19 < ((list.length : Nat) : Int), (list.map eEntry)[v19.toNat]? = some (eEntry entry), (0 : Int) ≤ k, k < ((list.length : Nat) : Int), (list.map eEntry)[k.toNat]? = some (eEntry entry1), clash1 = false, ACalls cx.P 12 [.agg (eRun entry.Run), .agg (eRun entry1.Run), vi box] (impl_clash_R clash1) (impl_clash_O clash1)] (.cons e4 (.cons (idx0 hy) (.cons (idx1 hy) (.cons (map_idx hy) (.cons e5 (.cons (idx0 hy1) (.cons (idx1 hy1) (.cons (map_idx hy1) (.cons e6 (.cons (idx0 hentry) (.cons (idx1 hentry) (.cons (map_idx hentry) (.cons (idx0 hentry1) (.cons (idx1 hentry1) (.cons (map_idx hentry1) (.cons e7 (.cons (impl_clash_ok entry.Run entry1.Run box clash1 hclash1) .nil))))))))))))))))) hI (by kernel_rfl))))))))))) (fun e6 h =>
 (brkD h hc3 fun e => (Fin.seg [[(2, { d := some true }), (5, { a := .row (eI y) }), (9, { d := some true }), (12, { a := .row (eI y1) }), (15, { d := some false })]] [] [0, 4, 5, 6, 7, 18, 19] [(1, 0)] [decide (box < 4) = true, (0 : Int) ≤ v19, v19 < ((folded.2.length : Nat) : Int), (folded.2.map eI)[v19.toNat]? = some (eI y), (y == 0) = true, (0 : Int) ≤ k, k < ((folded.2.length : Nat) : Int), (folded.2.map eI)[k.toNat]? = some (eI y1), (y1 == 0) = false] (.cons e4 (.cons (idx0 hy) (.cons (idx1 hy) (.cons (map_idx hy) (.cons e5 (.cons (idx0 hy1) (.cons (idx1 hy1) (.cons (map_idx hy1) (.cons e6 .nil))))))))) (hb3 _ e) (by kernel_rfl))))))) (fun e5 h =>
 (brkD h hc3 fun e => (Fin.seg [[(2, { d := some true }), (5, { a := .row (eI y) }), (9, { d := some false })]] [] [0, 4, 5, 6, 7, 18, 19] [(1, 0)] [decide (box < 4) = true, (0 : Int) ≤ v19, v19 < ((folded.2.length : Nat) : Int), (folded.2.map eI)[v19.toNat]? = some (eI y), (y == 0) = false] (.cons e4 (.cons (idx0 hy) (.cons (idx1 hy) (.cons (map_idx hy) (.cons e5 .nil))))) (hb3 _ e) (by kernel_rfl))))))) (fun e4 h =>
 (brkD h hc3 fun e => (Fin.seg [[(2, { d := some false })]] [] [0, 4, 5, 6, 7, 18, 19] [(1, 0)] [decide (box < 4) = false] (.cons e4 .nil) (hb3 _ e) (by kernel_rfl)))))
theorem impl_HistClashes_b1_loop (list : List TEntry) (folded : TState × List Int) (v19 : Int) (k : Int) (res : V) (outs : List (Option V)) (x3 : Exc (List TClash) (List TClash)) (hb3 : ∀ s : List TClash, x3 = .brk s → Fin cx impl_HistClashes_X res outs impl_HistClashes_k7 (impl_HistClashes_S5 list folded v19 k s)) (hr3 : ∀ v : List TClash, x3 = .ret v → (res = impl_HistClashes_R v ∧ outs = impl_HistClashes_O v)) (s : (List TClash) × Int) (h : loop (fun s : (List TClash) × Int => impl_HistClashes_b1 list folded v19 k s.1 s.2) s = some x3) : Fin cx impl_HistClashes_X res outs impl_HistClashes_k9 (impl_HistClashes_S6 list folded v19 k s.1 s.2) :=
  loopD (I := fun s : (List TClash) × Int => Fin cx impl_HistClashes_X res outs impl_HistClashes_k9 (impl_HistClashes_S6 list folded v19 k s.1 s.2)) h fun s st h hc => impl_HistClashes_b1_ok list folded v19 k res outs x3 hb3 hr3 st hc s.1 s.2 h
noncomputable def impl_HistClashes_b2 (list : List TEntry) (folded : TState × List Int) (v19 : Int) (out2 : List TClash) (k : Int) : Option (Stp (List TClash) ((List TClash) × Int) (List TClash)) :=
  (bif decide (k < (list.length : Int)) then
 ((loop (fun s : (List TClash) × Int => impl_HistClashes_b1 list folded v19 k s.1 s.2) (out2, 0)).bind fun x => x.go (fun r => some (Stp.ret r)) fun s => impl_HistClashes_k8 k s)
 else
 some (Stp.brk out2))
theorem impl_HistClashes_b2_ok (list : List TEntry) (folded : TState × List Int) (v19 : Int) (res : V) (outs : List (Option V)) (x2 : Exc (List TClash) (List TClash)) (hb2 : ∀ s : List TClash, x2 = .brk s → Fin cx impl_HistClashes_X res outs impl_HistClashes_k4 (impl_HistClashes_S3 list folded v19 s)) (hr2 : ∀ v : List TClash, x2 = .ret v → (res = impl_HistClashes_R v ∧ outs = impl_HistClashes_O v)) (st2 : Stp (List TClash) ((List TClash) × Int) (List TClash)) (hc2 : Cont x2 (fun s : (List TClash) × Int => Fin cx impl_HistClashes_X res outs impl_HistClashes_k6 (impl_HistClashes_S4 list folded v19 s.1 s.2)) st2) (out2 : List TClash) (k : Int) (h : impl_HistClashes_b2 list folded v19 out2 k = some st2) : Fin cx impl_HistClashes_X res outs impl_HistClashes_k6 (impl_HistClashes_S4 list folded v19 out2 k) :=
  (condD h (fun e3 h =>
 (loopJ h fun x hl hr hb => (Fin.seg [[(3, { d := some true })], []] [] [0, 4, 5, 6, 7, 8, 18, 19] [(1, 0)] [decide (k < (list.length : Int)) = true] (.cons e3 .nil) (impl_HistClashes_b1_loop list folded v19 k _ _ x (fun s e => impl_HistClashes_k8_ok list folded v19 k res outs x2 hb2 hr2 st2 hc2 s (hb s e)) (fun v e => (hr2 _ (retC (hr v e) hc2))) (out2, 0) hl) (by kernel_rfl)))) (fun e3 h =>
 (brkD h hc2 fun e => (Fin.seg [[(3, { d := some false })]] [] [0, 4, 5, 18, 19] [(1, 0)] [decide (k < (list.length : Int)) = false] (.cons e3 .nil) (hb2 _ e) (by kernel_rfl)))))
theorem impl_HistClashes_b2_loop (list : List TEntry) (folded : TState × List Int) (v19 : Int) (res : V) (outs : List (Option V)) (x2 : Exc (List TClash) (List TClash)) (hb2 : ∀ s : List TClash, x2 = .brk s → Fin cx impl_HistClashes_X res outs impl_HistClashes_k4 (impl_HistClashes_S3 list folded v19 s)) (hr2 : ∀ v : List TClash, x2 = .ret v → (res = impl_HistClashes_R v ∧ outs = impl_HistClashes_O v)) (s : (List TClash) × Int) (h : loop (fun s : (List TClash) × Int => impl_HistClashes_b2 list folded v19 s.1 s.2) s = some x2) : Fin cx impl_HistClashes_X res outs impl_HistClashes_k6 (impl_HistClashes_S4 list folded v19 s.1 s.2) :=
  loopD (I := fun s : (List TClash) × Int => Fin cx impl_HistClashes_X res outs impl_HistClashes_k6 (impl_HistClashes_S4 list folded v19 s.1 s.2)) h fun s st h hc => impl_HistClashes_b2_ok list folded v19 res outs x2 hb2 hr2 st hc s.1 s.2 h
noncomputable def impl_HistClashes_b3 (list : List TEntry) (folded : TState × List Int) (out : List TClash) (v19 : Int) : Option (Stp (List TClash) ((List TClash) × Int) (List TClash)) :=
  (bif decide (v19 < (list.length : Int)) then
 ((loop (fun s : (List TClash) × Int => impl_HistClashes_b2 list folded v19 s.1 s.2) (out, w64 (v19 + 1))).bind fun x => x.go (fun r => some (Stp.ret r)) fun s => impl_HistClashes_k5 v19 s)
 else
 some (Stp.brk out))
theorem impl_HistClashes_b3_ok (list : List TEntry) (folded : TState × List Int) (res : V) (outs : List (Option V)) (x1 : Exc (List TClash) (List TClash)) (hb1 : ∀ s : List TClash, x1 = .brk s → Fin cx impl_HistClashes_X res outs impl_HistClashes_k1 (impl_HistClashes_S1 s)) (hr1 : ∀ v : List TClash, x1 = .ret v → (res = impl_HistClashes_R v ∧ outs = impl_HistClashes_O v)) (st1 : Stp (List TClash) ((List TClash) × Int) (List TClash)) (hc1 : Cont x1 (fun s : (List TClash) × Int => Fin cx impl_HistClashes_X res outs impl_HistClashes_k3 (impl_HistClashes_S2 list folded s.1 s.2)) st1) (out : List TClash) (v19 : Int) (h : impl_HistClashes_b3 list folded out v19 = some st1) : Fin cx impl_HistClashes_X res outs impl_HistClashes_k3 (impl_HistClashes_S2 list folded out v19) :=
  (condD h (fun e2 h =>
 (loopJ h fun x hl hr hb => (Fin.seg [[(0, { d := some true })], [], []] [] [0, 4, 5, 6, 7, 18, 19] [(1, 0)] [decide (v19 < (list.length : Int)) = true] (.cons e2 .nil) (impl_HistClashes_b2_loop list folded v19 _ _ x (fun s e => impl_HistClashes_k5_ok list folded v19 res outs x1 hb1 hr1 st1 hc1 s (hb s e)) (fun v e => (hr1 _ (retC (hr v e) hc1))) (out, w64 (v19 + 1)) hl) (by kernel_rfl)))) (fun e2 h =>
 (brkD h hc1 fun e => (Fin.seg [[(0, { d := some false })]] [] [5] [(1, 0)] [decide (v19 < (list.length : Int)) = false] (.cons e2 .nil) (hb1 _ e) (by kernel_rfl)))))
theorem impl_HistClashes_b3_loop (list : List TEntry) (folded : TState × List Int) (res : V) (outs : List (Option V)) (x1 : Exc (List TClash) (List TClash)) (hb1 : ∀ s : List TClash, x1 = .brk s → Fin cx impl_HistClashes_X res outs impl_HistClashes_k1 (impl_HistClashes_S1 s)) (hr1 : ∀ v : List TClash, x1 = .ret v → (res = impl_HistClashes_R v ∧ outs = impl_HistClashes_O v)) (s : (List TClash) × Int) (h : loop (fun s : (List TClash) × Int => impl_HistClashes_b3 list folded s.1 s.2) s = some x1) : Fin cx impl_HistClashes_X res outs impl_HistClashes_k3 (impl_HistClashes_S2 list folded s.1 s.2) :=
  loopD (I := fun s : (List TClash) × Int => Fin cx impl_HistClashes_X res outs impl_HistClashes_k3 (impl_HistClashes_S2 list folded s.1 s.2)) h fun s st h hc => impl_HistClashes_b3_ok list folded res outs x1 hb1 hr1 st hc s.1 s.2 h
noncomputable def impl_HistClashes (list : List TEntry) : Option (List TClash) :=
  ((impl_listOk list).bind fun listOk =>
 (bif (!listOk) then
 some []
 else
 ((impl_folded list).bind fun folded =>
 ((loop (fun s : (List TClash) × Int => impl_HistClashes_b3 list folded s.1 s.2) ([], 0)).bind fun x => x.go (fun r => some r) fun s => impl_HistClashes_k2 s))))
theorem impl_HistClashes_fin (list : List TEntry) (r : List TClash) (h : impl_HistClashes list = some r) : Fin cx impl_HistClashes_X (impl_HistClashes_R r) (impl_HistClashes_O r) [.code impl_HistClashes_c] (startS impl_HistClashes_X [vsl 7 eEntry list]) :=
  (bindD h fun listOk hlistOk h =>
 (condD h (fun e1 h =>
 (someD h fun e => (Fin.fin (cx := cx) (X := impl_HistClashes_X) (res := impl_HistClashes_R []) (outs := impl_HistClashes_O []) Try.func5 [[], [(1, { a := .call [.val [some 7] []] false (impl_listOk_R listOk) (impl_listOk_O listOk) }), (2, { d := some true })], []] [ACalls cx.P 10 [vsl 7 eEntry list] (impl_listOk_R listOk) (impl_listOk_O listOk), (!listOk) = true] (.cons (impl_listOk_ok list listOk hlistOk) (.cons e1 .nil)) (by kernel_rfl)).is (congrArg impl_HistClashes_R e) (congrArg impl_HistClashes_O e))) (fun e1 h =>
 (bindD h fun folded hfolded h =>
 (loopJ h fun x hl hr hb => (Fin.seg [[], [(1, { a := .call [.val [some 7] []] false (impl_listOk_R listOk) (impl_listOk_O listOk) }), (2, { d := some false })], [(1, { a := .call [.val [some 7] []] false (impl_folded_R folded) (impl_folded_O folded) })], [], []] [.own (.tmp 5) 38 3] [0, 4, 5, 18, 19] [(17, 0)] [ACalls cx.P 10 [vsl 7 eEntry list] (impl_listOk_R listOk) (impl_listOk_O listOk), (!listOk) = false, ACalls cx.P 11 [vsl 7 eEntry list] (impl_folded_R folded) (impl_folded_O folded)] (.cons (impl_listOk_ok list listOk hlistOk) (.cons e1 (.cons (impl_folded_ok list folded hfolded) .nil))) (impl_HistClashes_b3_loop list folded _ _ x (fun s e => impl_HistClashes_k2_ok r s (hb s e)) (fun v e => ⟨congrArg impl_HistClashes_R (Option.some.inj (hr v e)).symm, congrArg impl_HistClashes_O (Option.some.inj (hr v e)).symm⟩) ([], 0) hl) (by kernel_rfl)))))))
theorem impl_HistClashes_ok (list : List TEntry) (r : List TClash) (h : impl_HistClashes list = some r) : ACalls cx.P 5 [vsl 7 eEntry list] (impl_HistClashes_R r) (impl_HistClashes_O r) :=
  ACalls.of (cx := cx) (X := impl_HistClashes_X) (c := impl_HistClashes_c) Try.func5 (by kernel_rfl) (by kernel_rfl) (by kernel_rfl) (impl_HistClashes_fin list r h)

/-! ### spec_l8Known -/
noncomputable def spec_l8Known_c : Code := bodyOf Try.f14
noncomputable def spec_l8Known_X : Sig := { f := 14, fn := Try.f14, rms := [.val [] []], oms := [none] }
noncomputable def spec_l8Known_R (r : Bool) : V := .b r
noncomputable def spec_l8Known_O (r : Bool) : List (Option V) := [none]
noncomputable def spec_l8Known_k1 : List Item := posI 2000 4 [false, false] [.code spec_l8Known_c]
noncomputable def spec_l8Known_S1 : St := ⟨(bs 19 []), [some []]⟩
noncomputable def spec_l8Known_k2 : Option Bool :=
  some true
theorem spec_l8Known_k2_ok (r : Bool) (h : spec_l8Known_k2 = some r) : Fin cx spec_l8Known_X (spec_l8Known_R r) (spec_l8Known_O r) spec_l8Known_k1 (spec_l8Known_S1) :=
  (someD h fun e => (Fin.fin (cx := cx) (X := spec_l8Known_X) (res := spec_l8Known_R true) (outs := spec_l8Known_O true) Try.func14 [[]] [] .nil (by kernel_rfl)).is (congrArg spec_l8Known_R e) (congrArg spec_l8Known_O e))
noncomputable def spec_l8Known_k3 : List Item := posI 2000 3 [false] [.code spec_l8Known_c]
noncomputable def spec_l8Known_S2 (list : List TEntry) (i : Int) : St := ⟨(vsl 7 eEntry list :: (bs 2 (vi i :: (bs 15 [])))), [some []]⟩
noncomputable def spec_l8Known_b1 (list : List TEntry) (i : Int) : Option (Stp Bool Int Unit) :=
  (bif decide (i < (list.length : Int)) then
 ((idx list i).bind fun entry =>
 ((spec_CertEntry entry).bind fun certEntry =>
 (bif (!certEntry) then
 some (Stp.ret false)
 else
 some (Stp.nxt (w64 (i + 1))))))
 else
 some (Stp.brk ()))
theorem spec_l8Known_b1_ok (list : List TEntry) (res : V) (outs : List (Option V)) (x1 : Exc Bool Unit) (hb1 : ∀ s : Unit, x1 = .brk s → Fin cx spec_l8Known_X res outs spec_l8Known_k1 (spec_l8Known_S1)) (hr1 : ∀ v : Bool, x1 = .ret v → (res = spec_l8Known_R v ∧ outs = spec_l8Known_O v)) (st1 : Stp Bool Int Unit) (hc1 : Cont x1 (fun s : Int => Fin cx spec_l8Known_X res outs spec_l8Known_k3 (spec_l8Known_S2 list s)) st1) (i : Int) (h : spec_l8Known_b1 list i = some st1) : Fin cx spec_l8Known_X res outs spec_l8Known_k3 (spec_l8Known_S2 list i) :=
  (condD h (fun e2 h =>
 (bindD h fun entry hentry h =>
 (bindD h fun certEntry hcertEntry h =>
 (condD h (fun e3 h =>
 (retD h hc1 fun e => (Fin.fin (cx := cx) (X := spec_l8Known_X) (res := spec_l8Known_R false) (outs := spec_l8Known_O false) Try.func14 [[(3, { d := some true })], [(2, { a := .row (eEntry entry) }), (4, { a := .call [.val [none, none, none, some 2, some 2, none, none] []] false (spec_CertEntry_R certEntry) (spec_CertEntry_O certEntry) }), (5, { d := some true })], []] [decide (i < (list.length : Int)) = true, (0 : Int) ≤ i, i < ((list.length : Nat) : Int), (list.map eEntry)[i.toNat]? = some (eEntry entry), ACalls cx.P 29 [.agg (eEntry entry)] (spec_CertEntry_R certEntry) (spec_CertEntry_O certEntry), (!certEntry) = true] (.cons e2 (.cons (idx0 hentry) (.cons (idx1 hentry) (.cons (map_idx hentry) (.cons (spec_CertEntry_ok entry certEntry hcertEntry) (.cons e3 .nil)))))) (by kernel_rfl)).is (hr1 _ e).1 (hr1 _ e).2)) (fun e3 h =>
 (nxtD h hc1 fun hI => (Fin.seg [[(3, { d := some true })], [(2, { a := .row (eEntry entry) }), (4, { a := .call [.val [none, none, none, some 2, some 2, none, none] []] false (spec_CertEntry_R certEntry) (spec_CertEntry_O certEntry) }), (5, { d := some false })], []] [] [0, 3] [] [decide (i < (list.length : Int)) = true, (0 : Int) ≤ i, i < ((list.length : Nat) : Int), (list.map eEntry)[i.toNat]? = some (eEntry entry), ACalls cx.P 29 [.agg (eEntry entry)] (spec_CertEntry_R certEntry) (spec_CertEntry_O certEntry), (!certEntry) = false] (.cons e2 (.cons (idx0 hentry) (.cons (idx1 hentry) (.cons (map_idx hentry) (.cons (spec_CertEntry_ok entry certEntry hcertEntry) (.cons e3 .nil)))))) hI (by kernel_rfl)))))))) (fun e2 h =>
 (brkD h hc1 fun e => (Fin.seg [[(3, { d := some false })]] [] [] [] [decide (i < (list.length : Int)) = false] (.cons e2 .nil) (hb1 _ e) (by kernel_rfl)))))
theorem spec_l8Known_b1_loop (list : List TEntry) (res : V) (outs : List (Option V)) (x1 : Exc Bool Unit) (hb1 : ∀ s : Unit, x1 = .brk s → Fin cx spec_l8Known_X res outs spec_l8Known_k1 (spec_l8Known_S1)) (hr1 : ∀ v : Bool, x1 = .ret v → (res = spec_l8Known_R v ∧ outs = spec_l8Known_O v)) (s : Int) (h : loop (fun s : Int => spec_l8Known_b1 list s) s = some x1) : Fin cx spec_l8Known_X res outs spec_l8Known_k3 (spec_l8Known_S2 list s) :=
  loopD (I := fun s : Int => Fin cx spec_l8Known_X res outs spec_l8Known_k3 (spec_l8Known_S2 list s)) h fun s st h hc => spec_l8Known_b1_ok list res outs x1 hb1 hr1 st hc s h
noncomputable def spec_l8Known (list : List TEntry) : Option Bool :=
  (bif decide ((list.length : Int) > 40) then
 some false
 else
 ((loop (fun s : Int => spec_l8Known_b1 list s) 0).bind fun x => x.go (fun r => some r) fun s => spec_l8Known_k2))
theorem spec_l8Known_fin (list : List TEntry) (r : Bool) (h : spec_l8Known list = some r) : Fin cx spec_l8Known_X (spec_l8Known_R r) (spec_l8Known_O r) [.code spec_l8Known_c] (startS spec_l8Known_X [vsl 7 eEntry list]) :=
  (condD h (fun e1 h =>
 (someD h fun e => (Fin.fin (cx := cx) (X := spec_l8Known_X) (res := spec_l8Known_R false) (outs := spec_l8Known_O false) Try.func14 [[], [(2, { d := some true })], []] [decide ((list.length : Int) > 40) = true] (.cons e1 .nil) (by kernel_rfl)).is (congrArg spec_l8Known_R e) (congrArg spec_l8Known_O e))) (fun e1 h =>
 (loopJ h fun x hl hr hb => (Fin.seg [[], [(2, { d := some false })], []] [] [0, 3] [] [decide ((list.length : Int) > 40) = false] (.cons e1 .nil) (spec_l8Known_b1_loop list _ _ x (fun s e => spec_l8Known_k2_ok r (hb s e)) (fun v e => ⟨congrArg spec_l8Known_R (Option.some.inj (hr v e)).symm, congrArg spec_l8Known_O (Option.some.inj (hr v e)).symm⟩) 0 hl) (by kernel_rfl)))))
theorem spec_l8Known_ok (list : List TEntry) (r : Bool) (h : spec_l8Known list = some r) : ACalls cx.P 14 [vsl 7 eEntry list] (spec_l8Known_R r) (spec_l8Known_O r) :=
  ACalls.of (cx := cx) (X := spec_l8Known_X) (c := spec_l8Known_c) Try.func14 (by kernel_rfl) (by kernel_rfl) (by kernel_rfl) (spec_l8Known_fin list r h)

/-! ### spec_l13Codes -/
noncomputable def spec_l13Codes_c : Code := bodyOf Try.f15
noncomputable def spec_l13Codes_X : Sig := { f := 15, fn := Try.f15, rms := [.val [some 1] []], oms := [none] }
noncomputable def spec_l13Codes_R (r : List Int) : V := vsl 1 eI r
noncomputable def spec_l13Codes_O (r : List Int) : List (Option V) := [none]
noncomputable def spec_l13Codes_k1 : List Item := posI 2000 5 [false] [.code spec_l13Codes_c]
noncomputable def spec_l13Codes_S1 (out1 : List Int) : St := ⟨(bs 3 (.own 1 0 1 0 out1.length :: (bs 27 []))), [some [], some [erow 3 1 eI out1]]⟩
noncomputable def spec_l13Codes_k2 (out1 : List Int) : Option (List Int) :=
  some out1
theorem spec_l13Codes_k2_ok (r : List Int) (out1 : List Int) (h : spec_l13Codes_k2 out1 = some r) : Fin cx spec_l13Codes_X (spec_l13Codes_R r) (spec_l13Codes_O r) spec_l13Codes_k1 (spec_l13Codes_S1 out1) :=
  (someD h fun e => (Fin.fin (cx := cx) (X := spec_l13Codes_X) (res := spec_l13Codes_R out1) (outs := spec_l13Codes_O out1) Try.func15 [[]] [out1.length = out1.length] (.cons rfl .nil) (by kernel_rfl)).is (congrArg spec_l13Codes_R e) (congrArg spec_l13Codes_O e))
noncomputable def spec_l13Codes_k3 : List Item := posI 2000 4 [] [.code spec_l13Codes_c]
noncomputable def spec_l13Codes_S2 (list : List TEntry) (out : List Int) (Boxes : List TBox) (i : Int) (sAt : Int) (sDones : List TDone) : St := ⟨(vsl 7 eEntry list :: (bs 2 (.own 1 0 1 0 out.length :: (.ptr 2 0 0 :: (vi i :: (bs 25 [])))))), [some [], some [erow 3 1 eI out], some [.var 49 [vi sAt, .own 3 0 2 0 Boxes.length, vsl 4 eDone sDones]], some [erow 92 2 eBox Boxes]]⟩
noncomputable def spec_l13Codes_b1 (list : List TEntry) (out : List Int) (Boxes : List TBox) (i : Int) (sAt : Int) (sDones : List TDone) : Option (Stp (List Int) ((List Int) × (List TBox) × Int × Int × List TDone) (List Int)) :=
  (bif decide (i < (list.length : Int)) then
 ((idx list i).bind fun entry =>
 ((spec_l5Apply (TState.mk sAt Boxes sDones) entry).bind fun l5Apply =>
 (need ((out.length + 1) * 8 ≤ 140737488355328)
 (some (Stp.nxt (out ++ [l5Apply.2], l5Apply.1.Boxes, w64 (i + 1), l5Apply.1.At, l5Apply.1.Dones))))))
 else
 some (Stp.brk out))
theorem spec_l13Codes_b1_ok (list : List TEntry) (res : V) (outs : List (Option V)) (x1 : Exc (List Int) (List Int)) (hb1 : ∀ s : List Int, x1 = .brk s → Fin cx spec_l13Codes_X res outs spec_l13Codes_k1 (spec_l13Codes_S1 s)) (hr1 : ∀ v : List Int, x1 = .ret v → (res = spec_l13Codes_R v ∧ outs = spec_l13Codes_O v)) (st1 : Stp (List Int) ((List Int) × (List TBox) × Int × Int × List TDone) (List Int)) (hc1 : Cont x1 (fun s : (List Int) × (List TBox) × Int × Int × List TDone => Fin cx spec_l13Codes_X res outs spec_l13Codes_k3 (spec_l13Codes_S2 list s.1 s.2.1 s.2.2.1 s.2.2.2.1 s.2.2.2.2)) st1) (out : List Int) (Boxes : List TBox) (i : Int) (sAt : Int) (sDones : List TDone) (h : spec_l13Codes_b1 list out Boxes i sAt sDones = some st1) : Fin cx spec_l13Codes_X res outs spec_l13Codes_k3 (spec_l13Codes_S2 list out Boxes i sAt sDones) :=
  (condD h (fun e1 h =>
 (bindD h fun entry hentry h =>
 (bindD h fun l5Apply hl5Apply h =>
 (needD h fun e2 h =>
 (nxtD h hc1 fun hI => (Fin.seg [[(3, { d := some true })], [(3, { a := .row (eEntry entry) }), (5, { a := .call [.val [none, some 2, some 4] [none, some 92, none], .val [none, none, none, some 2, some 2, none, none] []] false (spec_l5Apply_R l5Apply) (spec_l5Apply_O l5Apply) })], [], [(2, { a := .ck [] }), (3, { v := some (.own 25 0 1 0 (out ++ [l5Apply.2]).length), e := some (erow 3 1 eI (out ++ [l5Apply.2])) })], []] [] [0, 3, 4, 5] [(25, 0), (2, 0), (13, 0)] [decide (i < (list.length : Int)) = true, (0 : Int) ≤ i, i < ((list.length : Nat) : Int), (list.map eEntry)[i.toNat]? = some (eEntry entry), ACalls cx.P 23 [.agg [vi (TState.mk sAt Boxes sDones).At, vosl 92 2 eBox (TState.mk sAt Boxes sDones).Boxes, vsl 4 eDone (TState.mk sAt Boxes sDones).Dones], .agg (eEntry entry)] (spec_l5Apply_R l5Apply) (spec_l5Apply_O l5Apply), Boxes.length = Boxes.length, V.own 25 0 1 0 (out.length + 1) = .own 25 0 1 0 (out ++ [l5Apply.2]).length, Ent.row 3 1 (out.length + 1) (out.map eI ++ [eI l5Apply.2]) = erow 3 1 eI (out ++ [l5Apply.2]), out.length = out.length, (out.length + 1) * 8 ≤ 140737488355328, 1 = [l5Apply.2].length] (.cons e1 (.cons (idx0 hentry) (.cons (idx1 hentry) (.cons (map_idx hentry) (.cons (spec_l5Apply_ok (TState.mk sAt Boxes sDones) entry l5Apply hl5Apply) (.cons rfl (.cons (by first | exact congrArg (V.own 25 0 1 0) List.length_append.symm | simp) (.cons (row_app rfl) (.cons rfl (.cons e2 (.cons (by rfl) .nil))))))))))) hI (by kernel_rfl))))))) (fun e1 h =>
 (brkD h hc1 fun e => (Fin.seg [[(3, { d := some false })]] [] [3] [(1, 0)] [decide (i < (list.length : Int)) = false] (.cons e1 .nil) (hb1 _ e) (by kernel_rfl)))))
theorem spec_l13Codes_b1_loop (list : List TEntry) (res : V) (outs : List (Option V)) (x1 : Exc (List Int) (List Int)) (hb1 : ∀ s : List Int, x1 = .brk s → Fin cx spec_l13Codes_X res outs spec_l13Codes_k1 (spec_l13Codes_S1 s)) (hr1 : ∀ v : List Int, x1 = .ret v → (res = spec_l13Codes_R v ∧ outs = spec_l13Codes_O v)) (s : (List Int) × (List TBox) × Int × Int × List TDone) (h : loop (fun s : (List Int) × (List TBox) × Int × Int × List TDone => spec_l13Codes_b1 list s.1 s.2.1 s.2.2.1 s.2.2.2.1 s.2.2.2.2) s = some x1) : Fin cx spec_l13Codes_X res outs spec_l13Codes_k3 (spec_l13Codes_S2 list s.1 s.2.1 s.2.2.1 s.2.2.2.1 s.2.2.2.2) :=
  loopD (I := fun s : (List Int) × (List TBox) × Int × Int × List TDone => Fin cx spec_l13Codes_X res outs spec_l13Codes_k3 (spec_l13Codes_S2 list s.1 s.2.1 s.2.2.1 s.2.2.2.1 s.2.2.2.2)) h fun s st h hc => spec_l13Codes_b1_ok list res outs x1 hb1 hr1 st hc s.1 s.2.1 s.2.2.1 s.2.2.2.1 s.2.2.2.2 h
noncomputable def spec_l13Codes (list : List TEntry) : Option (List Int) :=
  ((spec_CertOpen).bind fun certOpen =>
 ((loop (fun s : (List Int) × (List TBox) × Int × Int × List TDone => spec_l13Codes_b1 list s.1 s.2.1 s.2.2.1 s.2.2.2.1 s.2.2.2.2) (([] : List Int), certOpen.Boxes, 0, certOpen.At, certOpen.Dones)).bind fun x => x.go (fun r => some r) fun s => spec_l13Codes_k2 s))
theorem spec_l13Codes_fin (list : List TEntry) (r : List Int) (h : spec_l13Codes list = some r) : Fin cx spec_l13Codes_X (spec_l13Codes_R r) (spec_l13Codes_O r) [.code spec_l13Codes_c] (startS spec_l13Codes_X [vsl 7 eEntry list]) :=
  (bindD h fun certOpen hcertOpen h =>
 (loopJ h fun x hl hr hb => (Fin.seg [[], [(0, { a := .ck [] })], [(0, { a := .call [] false (spec_CertOpen_R certOpen) (spec_CertOpen_O certOpen) })], []] [.is (.tmp 3) (.own 2 0 1 0 ([] : List Int).length)] [0, 3, 4, 5] [(2, 0), (5, 0), (4, 0)] [ACalls cx.P 20 [] (spec_CertOpen_R certOpen) (spec_CertOpen_O certOpen), (.own 2 0 1 0 0 : V) = .own 2 0 1 0 ([] : List Int).length] (.cons (spec_CertOpen_ok certOpen hcertOpen) (.cons (by simp) .nil)) (spec_l13Codes_b1_loop list _ _ x (fun s e => spec_l13Codes_k2_ok r s (hb s e)) (fun v e => ⟨congrArg spec_l13Codes_R (Option.some.inj (hr v e)).symm, congrArg spec_l13Codes_O (Option.some.inj (hr v e)).symm⟩) (([] : List Int), certOpen.Boxes, 0, certOpen.At, certOpen.Dones) hl) (by kernel_rfl))))
theorem spec_l13Codes_ok (list : List TEntry) (r : List Int) (h : spec_l13Codes list = some r) : ACalls cx.P 15 [vsl 7 eEntry list] (spec_l13Codes_R r) (spec_l13Codes_O r) :=
  ACalls.of (cx := cx) (X := spec_l13Codes_X) (c := spec_l13Codes_c) Try.func15 (by kernel_rfl) (by kernel_rfl) (by kernel_rfl) (spec_l13Codes_fin list r h)

/-! ### spec_l13Clash -/
noncomputable def spec_l13Clash_c : Code := bodyOf Try.f16
noncomputable def spec_l13Clash_X : Sig := { f := 16, fn := Try.f16, rms := [.val [] []], oms := [none, none, none] }
noncomputable def spec_l13Clash_R (r : Bool) : V := .b r
noncomputable def spec_l13Clash_O (r : Bool) : List (Option V) := [none, none, none]
noncomputable def spec_l13Clash (a : TRun) (b : TRun) (box : Int) : Option Bool :=
  ((spec_l3At a.Puts box).bind fun l3At =>
 (bif decide (l3At ≥ 0) then
 ((spec_l3At b.Puts box).bind fun l3At1 =>
 (bif decide (l3At1 ≥ 0) then
 some true
 else
 ((spec_l3Saw b.Reads box).bind fun l3Saw =>
 (bif l3Saw then
 some true
 else
 ((spec_l3Saw a.Reads box).bind fun l3Saw1 =>
 (bif l3Saw1 then
 ((spec_l3At b.Puts box).bind fun l3At2 =>
 some (decide (l3At2 ≥ 0)))
 else
 some false))))))
 else
 ((spec_l3Saw a.Reads box).bind fun l3Saw2 =>
 (bif l3Saw2 then
 ((spec_l3At b.Puts box).bind fun l3At3 =>
 some (decide (l3At3 ≥ 0)))
 else
 some false))))
theorem spec_l13Clash_fin (a : TRun) (b : TRun) (box : Int) (r : Bool) (h : spec_l13Clash a b box = some r) : Fin cx spec_l13Clash_X (spec_l13Clash_R r) (spec_l13Clash_O r) [.code spec_l13Clash_c] (startS spec_l13Clash_X [.agg (eRun a), .agg (eRun b), vi box]) :=
  (bindD h fun l3At hl3At h =>
 (condD h (fun e1 h =>
 (bindD h fun l3At1 hl3At1 h =>
 (condD h (fun e2 h =>
 (someD h fun e => (Fin.fin (cx := cx) (X := spec_l13Clash_X) (res := spec_l13Clash_R true) (outs := spec_l13Clash_O true) Try.func16 [[], [(3, { a := .call [.val [some 2] [], .val [] []] false (spec_l3At_R l3At) (spec_l3At_O l3At) }), (5, { d := some true }), (9, { a := .call [.val [some 2] [], .val [] []] false (spec_l3At_R l3At1) (spec_l3At_O l3At1) }), (11, { d := some true })]] [ACalls cx.P 30 [vsl 2 ePut a.Puts, vi box] (spec_l3At_R l3At) (spec_l3At_O l3At), decide (l3At ≥ 0) = true, ACalls cx.P 30 [vsl 2 ePut b.Puts, vi box] (spec_l3At_R l3At1) (spec_l3At_O l3At1), decide (l3At1 ≥ 0) = true] (.cons (spec_l3At_ok a.Puts box l3At hl3At) (.cons e1 (.cons (spec_l3At_ok b.Puts box l3At1 hl3At1) (.cons e2 .nil)))) (by kernel_rfl)).is (congrArg spec_l13Clash_R e) (congrArg spec_l13Clash_O e))) (fun e2 h =>
 (bindD h fun l3Saw hl3Saw h =>
 (condD h (fun e3 h =>
 (someD h fun e => (Fin.fin (cx := cx) (X := spec_l13Clash_X) (res := spec_l13Clash_R true) (outs := spec_l13Clash_O true) Try.func16 [[], [(3, { a := .call [.val [some 2] [], .val [] []] false (spec_l3At_R l3At) (spec_l3At_O l3At) }), (5, { d := some true }), (9, { a := .call [.val [some 2] [], .val [] []] false (spec_l3At_R l3At1) (spec_l3At_O l3At1) }), (11, { d := some false }), (15, { a := .call [.val [some 2] [], .val [] []] false (spec_l3Saw_R l3Saw) (spec_l3Saw_O l3Saw) }), (18, { d := some true })]] [ACalls cx.P 30 [vsl 2 ePut a.Puts, vi box] (spec_l3At_R l3At) (spec_l3At_O l3At), decide (l3At ≥ 0) = true, ACalls cx.P 30 [vsl 2 ePut b.Puts, vi box] (spec_l3At_R l3At1) (spec_l3At_O l3At1), decide (l3At1 ≥ 0) = false, ACalls cx.P 31 [vsl 2 eRead b.Reads, vi box] (spec_l3Saw_R l3Saw) (spec_l3Saw_O l3Saw), l3Saw = true] (.cons (spec_l3At_ok a.Puts box l3At hl3At) (.cons e1 (.cons (spec_l3At_ok b.Puts box l3At1 hl3At1) (.cons e2 (.cons (spec_l3Saw_ok b.Reads box l3Saw hl3Saw) (.cons e3 .nil)))))) (by kernel_rfl)).is (congrArg spec_l13Clash_R e) (congrArg spec_l13Clash_O e))) (fun e3 h =>
 (bindD h fun l3Saw1 hl3Saw1 h =>
 (condD h (fun e4 h =>
 (bindD h fun l3At2 hl3At2 h =>
 (someD h fun e => (Fin.fin (cx := cx) (X := spec_l13Clash_X) (res := spec_l13Clash_R (decide (l3At2 ≥ 0))) (outs := spec_l13Clash_O (decide (l3At2 ≥ 0))) Try.func16 [[], [(3, { a := .call [.val [some 2] [], .val [] []] false (spec_l3At_R l3At) (spec_l3At_O l3At) }), (5, { d := some true }), (9, { a := .call [.val [some 2] [], .val [] []] false (spec_l3At_R l3At1) (spec_l3At_O l3At1) }), (11, { d := some false }), (15, { a := .call [.val [some 2] [], .val [] []] false (spec_l3Saw_R l3Saw) (spec_l3Saw_O l3Saw) }), (18, { d := some false }), (22, { a := .call [.val [some 2] [], .val [] []] false (spec_l3Saw_R l3Saw1) (spec_l3Saw_O l3Saw1) }), (23, { d := some true }), (27, { a := .call [.val [some 2] [], .val [] []] false (spec_l3At_R l3At2) (spec_l3At_O l3At2) })]] [ACalls cx.P 30 [vsl 2 ePut a.Puts, vi box] (spec_l3At_R l3At) (spec_l3At_O l3At), decide (l3At ≥ 0) = true, ACalls cx.P 30 [vsl 2 ePut b.Puts, vi box] (spec_l3At_R l3At1) (spec_l3At_O l3At1), decide (l3At1 ≥ 0) = false, ACalls cx.P 31 [vsl 2 eRead b.Reads, vi box] (spec_l3Saw_R l3Saw) (spec_l3Saw_O l3Saw), l3Saw = false, ACalls cx.P 31 [vsl 2 eRead a.Reads, vi box] (spec_l3Saw_R l3Saw1) (spec_l3Saw_O l3Saw1), l3Saw1 = true, ACalls cx.P 30 [vsl 2 ePut b.Puts, vi box] (spec_l3At_R l3At2) (spec_l3At_O l3At2)] (.cons (spec_l3At_ok a.Puts box l3At hl3At) (.cons e1 (.cons (spec_l3At_ok b.Puts box l3At1 hl3At1) (.cons e2 (.cons (spec_l3Saw_ok b.Reads box l3Saw hl3Saw) (.cons e3 (.cons (spec_l3Saw_ok a.Reads box l3Saw1 hl3Saw1) (.cons e4 (.cons (spec_l3At_ok b.Puts box l3At2 hl3At2) .nil))))))))) (by kernel_rfl)).is (congrArg spec_l13Clash_R e) (congrArg spec_l13Clash_O e)))) (fun e4 h =>
 (someD h fun e => (Fin.fin (cx := cx) (X := spec_l13Clash_X) (res := spec_l13Clash_R false) (outs := spec_l13Clash_O false) Try.func16 [[], [(3, { a := .call [.val [some 2] [], .val [] []] false (spec_l3At_R l3At) (spec_l3At_O l3At) }), (5, { d := some true }), (9, { a := .call [.val [some 2] [], .val [] []] false (spec_l3At_R l3At1) (spec_l3At_O l3At1) }), (11, { d := some false }), (15, { a := .call [.val [some 2] [], .val [] []] false (spec_l3Saw_R l3Saw) (spec_l3Saw_O l3Saw) }), (18, { d := some false }), (22, { a := .call [.val [some 2] [], .val [] []] false (spec_l3Saw_R l3Saw1) (spec_l3Saw_O l3Saw1) }), (23, { d := some false })]] [ACalls cx.P 30 [vsl 2 ePut a.Puts, vi box] (spec_l3At_R l3At) (spec_l3At_O l3At), decide (l3At ≥ 0) = true, ACalls cx.P 30 [vsl 2 ePut b.Puts, vi box] (spec_l3At_R l3At1) (spec_l3At_O l3At1), decide (l3At1 ≥ 0) = false, ACalls cx.P 31 [vsl 2 eRead b.Reads, vi box] (spec_l3Saw_R l3Saw) (spec_l3Saw_O l3Saw), l3Saw = false, ACalls cx.P 31 [vsl 2 eRead a.Reads, vi box] (spec_l3Saw_R l3Saw1) (spec_l3Saw_O l3Saw1), l3Saw1 = false] (.cons (spec_l3At_ok a.Puts box l3At hl3At) (.cons e1 (.cons (spec_l3At_ok b.Puts box l3At1 hl3At1) (.cons e2 (.cons (spec_l3Saw_ok b.Reads box l3Saw hl3Saw) (.cons e3 (.cons (spec_l3Saw_ok a.Reads box l3Saw1 hl3Saw1) (.cons e4 .nil)))))))) (by kernel_rfl)).is (congrArg spec_l13Clash_R e) (congrArg spec_l13Clash_O e)))))))))))) (fun e1 h =>
 (bindD h fun l3Saw2 hl3Saw2 h =>
 (condD h (fun e5 h =>
 (bindD h fun l3At3 hl3At3 h =>
 (someD h fun e => (Fin.fin (cx := cx) (X := spec_l13Clash_X) (res := spec_l13Clash_R (decide (l3At3 ≥ 0))) (outs := spec_l13Clash_O (decide (l3At3 ≥ 0))) Try.func16 [[], [(3, { a := .call [.val [some 2] [], .val [] []] false (spec_l3At_R l3At) (spec_l3At_O l3At) }), (5, { d := some false }), (22, { a := .call [.val [some 2] [], .val [] []] false (spec_l3Saw_R l3Saw2) (spec_l3Saw_O l3Saw2) }), (23, { d := some true }), (27, { a := .call [.val [some 2] [], .val [] []] false (spec_l3At_R l3At3) (spec_l3At_O l3At3) })]] [ACalls cx.P 30 [vsl 2 ePut a.Puts, vi box] (spec_l3At_R l3At) (spec_l3At_O l3At), decide (l3At ≥ 0) = false, ACalls cx.P 31 [vsl 2 eRead a.Reads, vi box] (spec_l3Saw_R l3Saw2) (spec_l3Saw_O l3Saw2), l3Saw2 = true, ACalls cx.P 30 [vsl 2 ePut b.Puts, vi box] (spec_l3At_R l3At3) (spec_l3At_O l3At3)] (.cons (spec_l3At_ok a.Puts box l3At hl3At) (.cons e1 (.cons (spec_l3Saw_ok a.Reads box l3Saw2 hl3Saw2) (.cons e5 (.cons (spec_l3At_ok b.Puts box l3At3 hl3At3) .nil))))) (by kernel_rfl)).is (congrArg spec_l13Clash_R e) (congrArg spec_l13Clash_O e)))) (fun e5 h =>
 (someD h fun e => (Fin.fin (cx := cx) (X := spec_l13Clash_X) (res := spec_l13Clash_R false) (outs := spec_l13Clash_O false) Try.func16 [[], [(3, { a := .call [.val [some 2] [], .val [] []] false (spec_l3At_R l3At) (spec_l3At_O l3At) }), (5, { d := some false }), (22, { a := .call [.val [some 2] [], .val [] []] false (spec_l3Saw_R l3Saw2) (spec_l3Saw_O l3Saw2) }), (23, { d := some false })]] [ACalls cx.P 30 [vsl 2 ePut a.Puts, vi box] (spec_l3At_R l3At) (spec_l3At_O l3At), decide (l3At ≥ 0) = false, ACalls cx.P 31 [vsl 2 eRead a.Reads, vi box] (spec_l3Saw_R l3Saw2) (spec_l3Saw_O l3Saw2), l3Saw2 = false] (.cons (spec_l3At_ok a.Puts box l3At hl3At) (.cons e1 (.cons (spec_l3Saw_ok a.Reads box l3Saw2 hl3Saw2) (.cons e5 .nil)))) (by kernel_rfl)).is (congrArg spec_l13Clash_R e) (congrArg spec_l13Clash_O e))))))))
theorem spec_l13Clash_ok (a : TRun) (b : TRun) (box : Int) (r : Bool) (h : spec_l13Clash a b box = some r) : ACalls cx.P 16 [.agg (eRun a), .agg (eRun b), vi box] (spec_l13Clash_R r) (spec_l13Clash_O r) :=
  ACalls.of (cx := cx) (X := spec_l13Clash_X) (c := spec_l13Clash_c) Try.func16 (by kernel_rfl) (by kernel_rfl) (by kernel_rfl) (spec_l13Clash_fin a b box r h)

/-! ### spec_HistClashes -/
noncomputable def spec_HistClashes_c : Code := bodyOf Try.f6
noncomputable def spec_HistClashes_X : Sig := { f := 6, fn := Try.f6, rms := [.val [some 3] []], oms := [none] }
noncomputable def spec_HistClashes_R (r : List TClash) : V := vsl 3 eClash r
noncomputable def spec_HistClashes_O (r : List TClash) : List (Option V) := [none]
noncomputable def spec_HistClashes_k1 : List Item := posI 2000 6 [false, false] [.code spec_HistClashes_c]
noncomputable def spec_HistClashes_S1 (out1 : List TClash) : St := ⟨(bs 3 (.own 1 0 3 0 out1.length :: (bs 63 []))), [some [], some [erow 38 3 eClash out1]]⟩
noncomputable def spec_HistClashes_k2 (out1 : List TClash) : Option (List TClash) :=
  some out1
theorem spec_HistClashes_k2_ok (r : List TClash) (out1 : List TClash) (h : spec_HistClashes_k2 out1 = some r) : Fin cx spec_HistClashes_X (spec_HistClashes_R r) (spec_HistClashes_O r) spec_HistClashes_k1 (spec_HistClashes_S1 out1) :=
  (someD h fun e => (Fin.fin (cx := cx) (X := spec_HistClashes_X) (res := spec_HistClashes_R out1) (outs := spec_HistClashes_O out1) Try.func6 [[]] [out1.length = out1.length] (.cons rfl .nil) (by kernel_rfl)).is (congrArg spec_HistClashes_R e) (congrArg spec_HistClashes_O e))
noncomputable def spec_HistClashes_k3 : List Item := posI 2000 5 [false] [.code spec_HistClashes_c]
noncomputable def spec_HistClashes_S2 (list : List TEntry) (l13Codes : List Int) (out : List TClash) (i : Int) : St := ⟨(vsl 7 eEntry list :: (bs 2 (.own 1 0 3 0 out.length :: (vsl 1 eI l13Codes :: (vi i :: (bs 61 [])))))), [some [], some [erow 38 3 eClash out]]⟩
noncomputable def spec_HistClashes_k4 : List Item := posI 2000 8 [false, true, false] [.code spec_HistClashes_c]
noncomputable def spec_HistClashes_S3 (list : List TEntry) (l13Codes : List Int) (i : Int) (out3 : List TClash) : St := ⟨(vsl 7 eEntry list :: (bs 2 (.own 1 0 3 0 out3.length :: (vsl 1 eI l13Codes :: (vi i :: (bs 61 [])))))), [some [], some [erow 38 3 eClash out3]]⟩
noncomputable def spec_HistClashes_k5 (i : Int) (out3 : List TClash) : Option (Stp (List TClash) ((List TClash) × Int) (List TClash)) :=
  some (Stp.nxt (out3, w64 (i + 1)))
theorem spec_HistClashes_k5_ok (list : List TEntry) (l13Codes : List Int) (i : Int) (res : V) (outs : List (Option V)) (x1 : Exc (List TClash) (List TClash)) (hb1 : ∀ s : List TClash, x1 = .brk s → Fin cx spec_HistClashes_X res outs spec_HistClashes_k1 (spec_HistClashes_S1 s)) (hr1 : ∀ v : List TClash, x1 = .ret v → (res = spec_HistClashes_R v ∧ outs = spec_HistClashes_O v)) (st1 : Stp (List TClash) ((List TClash) × Int) (List TClash)) (hc1 : Cont x1 (fun s : (List TClash) × Int => Fin cx spec_HistClashes_X res outs spec_HistClashes_k3 (spec_HistClashes_S2 list l13Codes s.1 s.2)) st1) (out3 : List TClash) (h : spec_HistClashes_k5 i out3 = some st1) : Fin cx spec_HistClashes_X res outs spec_HistClashes_k4 (spec_HistClashes_S3 list l13Codes i out3) :=
  (nxtD h hc1 fun hI => (Fin.seg [[]] [] [0, 3, 4, 5] [(1, 0)] [] .nil hI (by kernel_rfl)))
noncomputable def spec_HistClashes_k6 : List Item := posI 2000 7 [false, true] [.code spec_HistClashes_c]
noncomputable def spec_HistClashes_S4 (list : List TEntry) (l13Codes : List Int) (i : Int) (out2 : List TClash) (k : Int) : St := ⟨(vsl 7 eEntry list :: (bs 2 (.own 1 0 3 0 out2.length :: (vsl 1 eI l13Codes :: (vi i :: (vi k :: (bs 60 []))))))), [some [], some [erow 38 3 eClash out2]]⟩
noncomputable def spec_HistClashes_k7 : List Item := posI 2000 10 [false, true, true, false] [.code spec_HistClashes_c]
noncomputable def spec_HistClashes_S5 (list : List TEntry) (l13Codes : List Int) (i : Int) (k : Int) (out5 : List TClash) : St := ⟨(vsl 7 eEntry list :: (bs 2 (.own 1 0 3 0 out5.length :: (vsl 1 eI l13Codes :: (vi i :: (vi k :: (bs 60 []))))))), [some [], some [erow 38 3 eClash out5]]⟩
noncomputable def spec_HistClashes_k8 (k : Int) (out5 : List TClash) : Option (Stp (List TClash) ((List TClash) × Int) (List TClash)) :=
  some (Stp.nxt (out5, w64 (k + 1)))
theorem spec_HistClashes_k8_ok (list : List TEntry) (l13Codes : List Int) (i : Int) (k : Int) (res : V) (outs : List (Option V)) (x2 : Exc (List TClash) (List TClash)) (hb2 : ∀ s : List TClash, x2 = .brk s → Fin cx spec_HistClashes_X res outs spec_HistClashes_k4 (spec_HistClashes_S3 list l13Codes i s)) (hr2 : ∀ v : List TClash, x2 = .ret v → (res = spec_HistClashes_R v ∧ outs = spec_HistClashes_O v)) (st2 : Stp (List TClash) ((List TClash) × Int) (List TClash)) (hc2 : Cont x2 (fun s : (List TClash) × Int => Fin cx spec_HistClashes_X res outs spec_HistClashes_k6 (spec_HistClashes_S4 list l13Codes i s.1 s.2)) st2) (out5 : List TClash) (h : spec_HistClashes_k8 k out5 = some st2) : Fin cx spec_HistClashes_X res outs spec_HistClashes_k7 (spec_HistClashes_S5 list l13Codes i k out5) :=
  (nxtD h hc2 fun hI => (Fin.seg [[]] [] [0, 3, 4, 5, 6] [(1, 0)] [] .nil hI (by kernel_rfl)))
noncomputable def spec_HistClashes_k9 : List Item := posI 2000 9 [false, true, true] [.code spec_HistClashes_c]
noncomputable def spec_HistClashes_S6 (list : List TEntry) (l13Codes : List Int) (i : Int) (k : Int) (out4 : List TClash) (b : Int) : St := ⟨(vsl 7 eEntry list :: (bs 2 (.own 1 0 3 0 out4.length :: (vsl 1 eI l13Codes :: (vi i :: (vi k :: (vi b :: (bs 59 [])))))))), [some [], some [erow 38 3 eClash out4]]⟩
noncomputable def spec_HistClashes_k10 : List Item := posI 2000 12 [false, true, true, true, true] [.code spec_HistClashes_c]
noncomputable def spec_HistClashes_S7 (list : List TEntry) (l13Codes : List Int) (i : Int) (k : Int) (b : Int) (out6 : List TClash) : St := ⟨(vsl 7 eEntry list :: (bs 2 (.own 1 0 3 0 out6.length :: (vsl 1 eI l13Codes :: (vi i :: (vi k :: (vi b :: (bs 59 [])))))))), [some [], some [erow 38 3 eClash out6]]⟩
noncomputable def spec_HistClashes_j1 (b : Int) (out6 : List TClash) : Option (Stp (List TClash) ((List TClash) × Int) (List TClash)) :=
  some (Stp.nxt (out6, w64 (b + 1)))
theorem spec_HistClashes_j1_ok (list : List TEntry) (l13Codes : List Int) (i : Int) (k : Int) (b : Int) (res : V) (outs : List (Option V)) (x3 : Exc (List TClash) (List TClash)) (hb3 : ∀ s : List TClash, x3 = .brk s → Fin cx spec_HistClashes_X res outs spec_HistClashes_k7 (spec_HistClashes_S5 list l13Codes i k s)) (hr3 : ∀ v : List TClash, x3 = .ret v → (res = spec_HistClashes_R v ∧ outs = spec_HistClashes_O v)) (st3 : Stp (List TClash) ((List TClash) × Int) (List TClash)) (hc3 : Cont x3 (fun s : (List TClash) × Int => Fin cx spec_HistClashes_X res outs spec_HistClashes_k9 (spec_HistClashes_S6 list l13Codes i k s.1 s.2)) st3) (out6 : List TClash) (h : spec_HistClashes_j1 b out6 = some st3) : Fin cx spec_HistClashes_X res outs spec_HistClashes_k10 (spec_HistClashes_S7 list l13Codes i k b out6) :=
  (nxtD h hc3 fun hI => (Fin.seg [[]] [] [0, 3, 4, 5, 6, 7] [(1, 0)] [] .nil hI (by kernel_rfl)))
noncomputable def spec_HistClashes_b1 (list : List TEntry) (l13Codes : List Int) (i : Int) (k : Int) (out4 : List TClash) (b : Int) : Option (Stp (List TClash) ((List TClash) × Int) (List TClash)) :=
  (bif decide (b < 4) then
 ((((idx l13Codes i).bind fun y =>
 (bif (y == 0) then
 ((idx l13Codes k).bind fun y1 =>
 (bif (y1 == 0) then
 ((idx list i).bind fun entry =>
 ((idx list k).bind fun entry1 =>
 ((spec_l13Clash entry.Run entry1.Run b).bind fun l13Clash =>
 (bif l13Clash then
 (need ((out4.length + 1) * 24 ≤ 140737488355328)
 (some (Exc.brk (out4 ++ [(TClash.mk i k b)]))))
 else
 some (Exc.brk out4)))))
 else
 some (Exc.brk out4)))
 else
 some (Exc.brk out4))) : Option (Exc (Stp (List TClash) ((List TClash) × Int) (List TClash)) (List TClash))).bind fun x => x.go some fun j => spec_HistClashes_j1 b j)
 else
 some (Stp.brk out4))
theorem spec_HistClashes_b1_ok (list : List TEntry) (l13Codes : List Int) (i : Int) (k : Int) (res : V) (outs : List (Option V)) (x3 : Exc (List TClash) (List TClash)) (hb3 : ∀ s : List TClash, x3 = .brk s → Fin cx spec_HistClashes_X res outs spec_HistClashes_k7 (spec_HistClashes_S5 list l13Codes i k s)) (hr3 : ∀ v : List TClash, x3 = .ret v → (res = spec_HistClashes_R v ∧ outs = spec_HistClashes_O v)) (st3 : Stp (List TClash) ((List TClash) × Int) (List TClash)) (hc3 : Cont x3 (fun s : (List TClash) × Int => Fin cx spec_HistClashes_X res outs spec_HistClashes_k9 (spec_HistClashes_S6 list l13Codes i k s.1 s.2)) st3) (out4 : List TClash) (b : Int) (h : spec_HistClashes_b1 list l13Codes i k out4 b = some st3) : Fin cx spec_HistClashes_X res outs spec_HistClashes_k9 (spec_HistClashes_S6 list l13Codes i k out4 b) :=
  (condD h (fun e4 h =>
 (joinD (I := fun j : List TClash => Fin cx spec_HistClashes_X res outs spec_HistClashes_k10 (spec_HistClashes_S7 list l13Codes i k b j)) h (fun j h => spec_HistClashes_j1_ok list l13Codes i k b res outs x3 hb3 hr3 st3 hc3 j h) (fun x4 h hc4 =>
  (bindD h fun y hy h =>
 (condD h (fun e5 h =>
 (bindD h fun y1 hy1 h =>
 (condD h (fun e6 h =>
 (bindD h fun entry hentry h =>
 (bindD h fun entry1 hentry1 h =>
 (bindD h fun l13Clash hl13Clash h =>
 (condD h (fun e7 h =>
 (needD h fun e8 h =>
 (jbrkD h hc4 fun hI => (Fin.seg [[(1, { d := some true })], [(2, { a := .row (eI y) }), (5, { d := some true }), (8, { a := .row (eI y1) }), (12, { d := some true }), (15, { a := .row (eEntry entry) }), (20, { a := .row (eEntry entry1) }), (24, { a := .call [.val [some 2, some 2, none, none] [], .val [some 2, some 2, none, none] [], .val [] []] false (spec_l13Clash_R l13Clash) (spec_l13Clash_O l13Clash) }), (25, { d := some true })], [(5, { a := .ck [] }), (6, { v := some (.own 36 0 3 0 (out4 ++ [(TClash.mk i k b)]).length), e := some (erow 38 3 eClash (out4 ++ [(TClash.mk i k b)])) })]] [] [0, 3, 4, 5, 6, 7] [(36, 0)] [decide (b < 4) = true, (0 : Int) ≤ i, i < ((l13Codes.length : Nat) : Int), (l13Codes.map eI)[i.toNat]? = some (eI y), (y == 0) = true, (0 : Int) ≤ k, k < ((l13Codes.length : Nat) : Int), (l13Codes.map eI)[k.toNat]? = some (eI y1), (y1 == 0) = true, (0 : Int) ≤ i, i < ((list.length : Nat) : Int), (list.map eEntry)[i.toNat]? = some (eEntry entry), (0 : Int) ≤ k, k < ((list.length : Nat) : Int), (list.map eEntry)[k.toNat]? = some (eEntry entry1), ACalls cx.P 16 [.agg (eRun entry.Run), .agg (eRun entry1.Run), vi b] (spec_l13Clash_R l13Clash) (spec_l13Clash_O l13Clash), l13Clash = true, V.own 36 0 3 0 (out4.length + 1) = .own 36 0 3 0 (out4 ++ [(TClash.mk i k b)]).length, Ent.row 38 3 (out4.length + 1) (out4.map eClash ++ [eClash (TClash.mk i k b)]) = erow 38 3 eClash (out4 ++ [(TClash.mk i k b)]), out4.length = out4.length, (out4.length + 1) * 24 ≤ 140737488355328, 1 = [(TClash.mk i k b)].length] (.cons e4 (.cons (idx0 hy) (.cons (idx1 hy) (.cons (map_idx hy) (.cons e5 (.cons (idx0 hy1) (.cons (idx1 hy1) (.cons (map_idx hy1) (.cons e6 (.cons (idx0 hentry) (.cons (idx1 hentry) (.cons (map_idx hentry) (.cons (idx0 hentry1) (.cons (idx1 hentry1) (.cons (map_idx hentry1) (.cons (spec_l13Clash_ok entry.Run entry1.Run b l13Clash hl13Clash) (.cons e7 (.cons (by first | exact congrArg (V.own 36 0 3 0) List.length_append.symm | simp) (.cons (row_app rfl) (.cons rfl (.cons e8 (.cons (by rfl) .nil)))))))))))))))))))))) hI (by kernel_rfl))))) (fun e7 h =>
 (jbrkD h hc4 fun hI => (Fin.seg [[(1, { d := some true })], [(2, { a := .row (eI y) }), (5, { d := some true }), (8, { a := .row (eI y1) }), (12, { d := some true }), (15, { a := .row (eEntry entry) }), (20, { a := .row (eEntry entry1) }), (24, { a := .call [.val [some 2, some 2, none, none] [], .val [some 2, some 2, none, none] [], .val [] []] false (spec_l13Clash_R l13Clash) (spec_l13Clash_O l13Clash) }), (25, { d := some false })]] [] [0, 3, 4, 5, 6, 7] [(1, 0)] [decide (b < 4) = true, (0 : Int) ≤ i, i < ((l13Codes.length : Nat) : Int), (l13Codes.map eI)[i.toNat]? = some (eI y), (y == 0) = true, (0 : Int) ≤ k, k < ((l13Codes.length : Nat) : Int), (l13Codes.map eI)[k.toNat]? = some (eI y1), (y1 == 0) = true, (0 : Int) ≤ i, i < ((list.length : Nat) : Int), (list.map eEntry)[i.toNat]? = some (eEntry entry), (0 : Int) ≤ k, k < ((list.length : Nat) : Int), (list.map eEntry)[k.toNat]? = some (eEntry entry1), ACalls cx.P 16 [.agg (eRun entry.Run), .agg (eRun entry1.Run), vi b] (spec_l13Clash_R l13Clash) (spec_l13Clash_O l13Clash), l13Clash = false] (.cons e4 (.cons (idx0 hy) (.cons (idx1 hy) (.cons (map_idx hy) (.cons e5 (.cons (idx0 hy1) (.cons (idx1 hy1) (.cons (map_idx hy1) (.cons e6 (.cons (idx0 hentry) (.cons (idx1 hentry) (.cons (map_idx hentry) (.cons (idx0 hentry1) (.cons (idx1 hentry1) (.cons (map_idx hentry1) (.cons (spec_l13Clash_ok entry.Run entry1.Run b l13Clash hl13Clash) (.cons e7 .nil))))))))))))))))) hI (by kernel_rfl))))))))) (fun e6 h =>
 (jbrkD h hc4 fun hI => (Fin.seg [[(1, { d := some true })], [(2, { a := .row (eI y) }), (5, { d := some true }), (8, { a := .row (eI y1) }), (12, { d := some false })]] [] [0, 3, 4, 5, 6, 7] [(1, 0)] [decide (b < 4) = true, (0 : Int) ≤ i, i < ((l13Codes.length : Nat) : Int), (l13Codes.map eI)[i.toNat]? = some (eI y), (y == 0) = true, (0 : Int) ≤ k, k < ((l13Codes.length : Nat) : Int), (l13Codes.map eI)[k.toNat]? = some (eI y1), (y1 == 0) = false] (.cons e4 (.cons (idx0 hy) (.cons (idx1 hy) (.cons (map_idx hy) (.cons e5 (.cons (idx0 hy1) (.cons (idx1 hy1) (.cons (map_idx hy1) (.cons e6 .nil))))))))) hI (by kernel_rfl))))))) (fun e5 h =>
 (jbrkD h hc4 fun hI => (Fin.seg [[(1, { d := some true })], [(2, { a := .row (eI y) }), (5, { d := some false })]] [] [0, 3, 4, 5, 6, 7] [(1, 0)] [decide (b < 4) = true, (0 : Int) ≤ i, i < ((l13Codes.length : Nat) : Int), (l13Codes.map eI)[i.toNat]? = some (eI y), (y == 0) = false] (.cons e4 (.cons (idx0 hy) (.cons (idx1 hy) (.cons (map_idx hy) (.cons e5 .nil))))) hI (by kernel_rfl))))))))) (fun e4 h =>
 (brkD h hc3 fun e => (Fin.seg [[(1, { d := some false })]] [] [0, 3, 4, 5, 6] [(1, 0)] [decide (b < 4) = false] (.cons e4 .nil) (hb3 _ e) (by kernel_rfl)))))
theorem spec_HistClashes_b1_loop (list : List TEntry) (l13Codes : List Int) (i : Int) (k : Int) (res : V) (outs : List (Option V)) (x3 : Exc (List TClash) (List TClash)) (hb3 : ∀ s : List TClash, x3 = .brk s → Fin cx spec_HistClashes_X res outs spec_HistClashes_k7 (spec_HistClashes_S5 list l13Codes i k s)) (hr3 : ∀ v : List TClash, x3 = .ret v → (res = spec_HistClashes_R v ∧ outs = spec_HistClashes_O v)) (s : (List TClash) × Int) (h : loop (fun s : (List TClash) × Int => spec_HistClashes_b1 list l13Codes i k s.1 s.2) s = some x3) : Fin cx spec_HistClashes_X res outs spec_HistClashes_k9 (spec_HistClashes_S6 list l13Codes i k s.1 s.2) :=
  loopD (I := fun s : (List TClash) × Int => Fin cx spec_HistClashes_X res outs spec_HistClashes_k9 (spec_HistClashes_S6 list l13Codes i k s.1 s.2)) h fun s st h hc => spec_HistClashes_b1_ok list l13Codes i k res outs x3 hb3 hr3 st hc s.1 s.2 h
noncomputable def spec_HistClashes_b2 (list : List TEntry) (l13Codes : List Int) (i : Int) (out2 : List TClash) (k : Int) : Option (Stp (List TClash) ((List TClash) × Int) (List TClash)) :=
  (bif decide (k < (list.length : Int)) then
 ((loop (fun s : (List TClash) × Int => spec_HistClashes_b1 list l13Codes i k s.1 s.2) (out2, 0)).bind fun x => x.go (fun r => some (Stp.ret r)) fun s => spec_HistClashes_k8 k s)
 else
 some (Stp.brk out2))
theorem spec_HistClashes_b2_ok (list : List TEntry) (l13Codes : List Int) (i : Int) (res : V) (outs : List (Option V)) (x2 : Exc (List TClash) (List TClash)) (hb2 : ∀ s : List TClash, x2 = .brk s → Fin cx spec_HistClashes_X res outs spec_HistClashes_k4 (spec_HistClashes_S3 list l13Codes i s)) (hr2 : ∀ v : List TClash, x2 = .ret v → (res = spec_HistClashes_R v ∧ outs = spec_HistClashes_O v)) (st2 : Stp (List TClash) ((List TClash) × Int) (List TClash)) (hc2 : Cont x2 (fun s : (List TClash) × Int => Fin cx spec_HistClashes_X res outs spec_HistClashes_k6 (spec_HistClashes_S4 list l13Codes i s.1 s.2)) st2) (out2 : List TClash) (k : Int) (h : spec_HistClashes_b2 list l13Codes i out2 k = some st2) : Fin cx spec_HistClashes_X res outs spec_HistClashes_k6 (spec_HistClashes_S4 list l13Codes i out2 k) :=
  (condD h (fun e3 h =>
 (loopJ h fun x hl hr hb => (Fin.seg [[(3, { d := some true })], []] [] [0, 3, 4, 5, 6, 7] [(1, 0)] [decide (k < (list.length : Int)) = true] (.cons e3 .nil) (spec_HistClashes_b1_loop list l13Codes i k _ _ x (fun s e => spec_HistClashes_k8_ok list l13Codes i k res outs x2 hb2 hr2 st2 hc2 s (hb s e)) (fun v e => (hr2 _ (retC (hr v e) hc2))) (out2, 0) hl) (by kernel_rfl)))) (fun e3 h =>
 (brkD h hc2 fun e => (Fin.seg [[(3, { d := some false })]] [] [0, 3, 4, 5] [(1, 0)] [decide (k < (list.length : Int)) = false] (.cons e3 .nil) (hb2 _ e) (by kernel_rfl)))))
theorem spec_HistClashes_b2_loop (list : List TEntry) (l13Codes : List Int) (i : Int) (res : V) (outs : List (Option V)) (x2 : Exc (List TClash) (List TClash)) (hb2 : ∀ s : List TClash, x2 = .brk s → Fin cx spec_HistClashes_X res outs spec_HistClashes_k4 (spec_HistClashes_S3 list l13Codes i s)) (hr2 : ∀ v : List TClash, x2 = .ret v → (res = spec_HistClashes_R v ∧ outs = spec_HistClashes_O v)) (s : (List TClash) × Int) (h : loop (fun s : (List TClash) × Int => spec_HistClashes_b2 list l13Codes i s.1 s.2) s = some x2) : Fin cx spec_HistClashes_X res outs spec_HistClashes_k6 (spec_HistClashes_S4 list l13Codes i s.1 s.2) :=
  loopD (I := fun s : (List TClash) × Int => Fin cx spec_HistClashes_X res outs spec_HistClashes_k6 (spec_HistClashes_S4 list l13Codes i s.1 s.2)) h fun s st h hc => spec_HistClashes_b2_ok list l13Codes i res outs x2 hb2 hr2 st hc s.1 s.2 h
noncomputable def spec_HistClashes_b3 (list : List TEntry) (l13Codes : List Int) (out : List TClash) (i : Int) : Option (Stp (List TClash) ((List TClash) × Int) (List TClash)) :=
  (bif decide (i < (list.length : Int)) then
 ((loop (fun s : (List TClash) × Int => spec_HistClashes_b2 list l13Codes i s.1 s.2) (out, w64 (i + 1))).bind fun x => x.go (fun r => some (Stp.ret r)) fun s => spec_HistClashes_k5 i s)
 else
 some (Stp.brk out))
theorem spec_HistClashes_b3_ok (list : List TEntry) (l13Codes : List Int) (res : V) (outs : List (Option V)) (x1 : Exc (List TClash) (List TClash)) (hb1 : ∀ s : List TClash, x1 = .brk s → Fin cx spec_HistClashes_X res outs spec_HistClashes_k1 (spec_HistClashes_S1 s)) (hr1 : ∀ v : List TClash, x1 = .ret v → (res = spec_HistClashes_R v ∧ outs = spec_HistClashes_O v)) (st1 : Stp (List TClash) ((List TClash) × Int) (List TClash)) (hc1 : Cont x1 (fun s : (List TClash) × Int => Fin cx spec_HistClashes_X res outs spec_HistClashes_k3 (spec_HistClashes_S2 list l13Codes s.1 s.2)) st1) (out : List TClash) (i : Int) (h : spec_HistClashes_b3 list l13Codes out i = some st1) : Fin cx spec_HistClashes_X res outs spec_HistClashes_k3 (spec_HistClashes_S2 list l13Codes out i) :=
  (condD h (fun e2 h =>
 (loopJ h fun x hl hr hb => (Fin.seg [[(3, { d := some true })], []] [] [0, 3, 4, 5, 6] [(1, 0)] [decide (i < (list.length : Int)) = true] (.cons e2 .nil) (spec_HistClashes_b2_loop list l13Codes i _ _ x (fun s e => spec_HistClashes_k5_ok list l13Codes i res outs x1 hb1 hr1 st1 hc1 s (hb s e)) (fun v e => (hr1 _ (retC (hr v e) hc1))) (out, w64 (i + 1)) hl) (by kernel_rfl)))) (fun e2 h =>
 (brkD h hc1 fun e => (Fin.seg [[(3, { d := some false })]] [] [3] [(1, 0)] [decide (i < (list.length : Int)) = false] (.cons e2 .nil) (hb1 _ e) (by kernel_rfl)))))
theorem spec_HistClashes_b3_loop (list : List TEntry) (l13Codes : List Int) (res : V) (outs : List (Option V)) (x1 : Exc (List TClash) (List TClash)) (hb1 : ∀ s : List TClash, x1 = .brk s → Fin cx spec_HistClashes_X res outs spec_HistClashes_k1 (spec_HistClashes_S1 s)) (hr1 : ∀ v : List TClash, x1 = .ret v → (res = spec_HistClashes_R v ∧ outs = spec_HistClashes_O v)) (s : (List TClash) × Int) (h : loop (fun s : (List TClash) × Int => spec_HistClashes_b3 list l13Codes s.1 s.2) s = some x1) : Fin cx spec_HistClashes_X res outs spec_HistClashes_k3 (spec_HistClashes_S2 list l13Codes s.1 s.2) :=
  loopD (I := fun s : (List TClash) × Int => Fin cx spec_HistClashes_X res outs spec_HistClashes_k3 (spec_HistClashes_S2 list l13Codes s.1 s.2)) h fun s st h hc => spec_HistClashes_b3_ok list l13Codes res outs x1 hb1 hr1 st hc s.1 s.2 h
noncomputable def spec_HistClashes (list : List TEntry) : Option (List TClash) :=
  ((spec_l8Known list).bind fun l8Known =>
 (bif (!l8Known) then
 some ([] : List TClash)
 else
 ((spec_l13Codes list).bind fun l13Codes =>
 ((loop (fun s : (List TClash) × Int => spec_HistClashes_b3 list l13Codes s.1 s.2) (([] : List TClash), 0)).bind fun x => x.go (fun r => some r) fun s => spec_HistClashes_k2 s))))
theorem spec_HistClashes_fin (list : List TEntry) (r : List TClash) (h : spec_HistClashes list = some r) : Fin cx spec_HistClashes_X (spec_HistClashes_R r) (spec_HistClashes_O r) [.code spec_HistClashes_c] (startS spec_HistClashes_X [vsl 7 eEntry list]) :=
  (bindD h fun l8Known hl8Known h =>
 (condD h (fun e1 h =>
 (someD h fun e => (Fin.fin (cx := cx) (X := spec_HistClashes_X) (res := spec_HistClashes_R ([] : List TClash)) (outs := spec_HistClashes_O ([] : List TClash)) Try.func6 [[], [(0, { a := .ck [] })], [(1, { a := .call [.val [some 7] []] false (spec_l8Known_R l8Known) (spec_l8Known_O l8Known) }), (2, { d := some true })], []] [ACalls cx.P 14 [vsl 7 eEntry list] (spec_l8Known_R l8Known) (spec_l8Known_O l8Known), (!l8Known) = true, 0 = ([] : List TClash).length] (.cons (spec_l8Known_ok list l8Known hl8Known) (.cons e1 (.cons (by simp) .nil))) (by kernel_rfl)).is (congrArg spec_HistClashes_R e) (congrArg spec_HistClashes_O e))) (fun e1 h =>
 (bindD h fun l13Codes hl13Codes h =>
 (loopJ h fun x hl hr hb => (Fin.seg [[], [(0, { a := .ck [] })], [(1, { a := .call [.val [some 7] []] false (spec_l8Known_R l8Known) (spec_l8Known_O l8Known) }), (2, { d := some false })], [(1, { a := .call [.val [some 7] []] false (spec_l13Codes_R l13Codes) (spec_l13Codes_O l13Codes) })], []] [.is (.tmp 3) (.own 2 0 3 0 ([] : List TClash).length)] [0, 3, 4, 5] [(2, 0)] [ACalls cx.P 14 [vsl 7 eEntry list] (spec_l8Known_R l8Known) (spec_l8Known_O l8Known), (!l8Known) = false, ACalls cx.P 15 [vsl 7 eEntry list] (spec_l13Codes_R l13Codes) (spec_l13Codes_O l13Codes), (.own 2 0 3 0 0 : V) = .own 2 0 3 0 ([] : List TClash).length] (.cons (spec_l8Known_ok list l8Known hl8Known) (.cons e1 (.cons (spec_l13Codes_ok list l13Codes hl13Codes) (.cons (by simp) .nil)))) (spec_HistClashes_b3_loop list l13Codes _ _ x (fun s e => spec_HistClashes_k2_ok r s (hb s e)) (fun v e => ⟨congrArg spec_HistClashes_R (Option.some.inj (hr v e)).symm, congrArg spec_HistClashes_O (Option.some.inj (hr v e)).symm⟩) (([] : List TClash), 0) hl) (by kernel_rfl)))))))
theorem spec_HistClashes_ok (list : List TEntry) (r : List TClash) (h : spec_HistClashes list = some r) : ACalls cx.P 6 [vsl 7 eEntry list] (spec_HistClashes_R r) (spec_HistClashes_O r) :=
  ACalls.of (cx := cx) (X := spec_HistClashes_X) (c := spec_HistClashes_c) Try.func6 (by kernel_rfl) (by kernel_rfl) (by kernel_rfl) (spec_HistClashes_fin list r h)

/-! ### impl_copied_Req -/
noncomputable def impl_copied_Req_c : Code := bodyOf Try.f17
noncomputable def impl_copied_Req_X : Sig := { f := 17, fn := Try.f17, rms := [.val [some 2] []], oms := [none] }
noncomputable def impl_copied_Req_R (r : List TReq) : V := vsl 2 eReq r
noncomputable def impl_copied_Req_O (r : List TReq) : List (Option V) := [none]
noncomputable def impl_copied_Req (list : List TReq) : Option (List TReq) :=
  (bif ((list.length : Int) == 0) then
 some []
 else
 (need (0 ≤ (list.length : Int) ∧ (list.length : Int) * 16 ≤ 140737488355328)
 ((need (list.length = (List.replicate (list.length : Int).toNat (TReq.mk 0 0)).length)
 (some list)))))
theorem impl_copied_Req_fin (list : List TReq) (r : List TReq) (h : impl_copied_Req list = some r) : Fin cx impl_copied_Req_X (impl_copied_Req_R r) (impl_copied_Req_O r) [.code impl_copied_Req_c] (startS impl_copied_Req_X [vsl 2 eReq list]) :=
  (condD h (fun e1 h =>
 (someD h fun e => (Fin.fin (cx := cx) (X := impl_copied_Req_X) (res := impl_copied_Req_R []) (outs := impl_copied_Req_O []) Try.func17 [[], [(2, { d := some true })], []] [((list.length : Int) == 0) = true] (.cons e1 .nil) (by kernel_rfl)).is (congrArg impl_copied_Req_R e) (congrArg impl_copied_Req_O e))) (fun e1 h =>
 (needD h fun e2 h =>
 (needD h fun e3 h =>
 (someD h fun e => (Fin.fin (cx := cx) (X := impl_copied_Req_X) (res := impl_copied_Req_R list) (outs := impl_copied_Req_O list) Try.func17 [[], [(2, { d := some false })], [(2, { e := some (erow 30 2 eReq (List.replicate (list.length : Int).toNat (TReq.mk 0 0))), v := some (.own 7 0 2 0 (List.replicate (list.length : Int).toNat (TReq.mk 0 0)).length) })], [(2, { e := some (erow 30 2 eReq list) })], []] [((list.length : Int) == 0) = false, V.own 7 0 2 0 (list.length : Int).toNat = .own 7 0 2 0 (List.replicate (list.length : Int).toNat (TReq.mk 0 0)).length, Ent.row 30 2 (list.length : Int).toNat (List.replicate (list.length : Int).toNat [vi 0, vi 0]) = erow 30 2 eReq (List.replicate (list.length : Int).toNat (TReq.mk 0 0)), (0 : Int) ≤ (list.length : Int), (list.length : Int) = (list.length : Int), (list.length : Int) * ((16 : Nat) : Int) ≤ 140737488355328 ∧ 0 < 16, ([vi 0, vi 0] : List V).length = 2, Ent.row 30 2 (List.replicate (list.length : Int).toNat (TReq.mk 0 0)).length (list.map eReq) = erow 30 2 eReq list, (List.replicate (list.length : Int).toNat (TReq.mk 0 0)).length = (List.replicate (list.length : Int).toNat (TReq.mk 0 0)).length, list.length = (List.replicate (list.length : Int).toNat (TReq.mk 0 0)).length, (List.replicate (list.length : Int).toNat (TReq.mk 0 0)).length = list.length] (.cons e1 (.cons (by simp) (.cons (row_rep rfl) (.cons e2.1 (.cons rfl (.cons ⟨e2.2, by decide⟩ (.cons rfl (.cons (row_copy e3) (.cons rfl (.cons e3 (.cons (by simp) .nil))))))))))) (by kernel_rfl)).is (congrArg impl_copied_Req_R e) (congrArg impl_copied_Req_O e))))))
theorem impl_copied_Req_ok (list : List TReq) (r : List TReq) (h : impl_copied_Req list = some r) : ACalls cx.P 17 [vsl 2 eReq list] (impl_copied_Req_R r) (impl_copied_Req_O r) :=
  ACalls.of (cx := cx) (X := impl_copied_Req_X) (c := impl_copied_Req_c) Try.func17 (by kernel_rfl) (by kernel_rfl) (by kernel_rfl) (impl_copied_Req_fin list r h)


end Go.Proofs.Ythefcgmhjonopaa
