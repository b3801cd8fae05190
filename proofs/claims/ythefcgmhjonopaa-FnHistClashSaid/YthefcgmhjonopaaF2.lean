/- Functions of the program, and that their calls come to this. -/
import Derived.Test.YthefcgmhjonopaaF1
set_option linter.unusedVariables false
set_option linter.unusedSimpArgs false
namespace Go.Proofs.Ythefcgmhjonopaa
open Go

/-! ### spec_ExecSame -/
noncomputable def spec_ExecSame_c : Code := bodyOf Try.f52
noncomputable def spec_ExecSame_X : Sig := { f := 52, fn := Try.f52, rms := [.val [] []], oms := [none, none] }
noncomputable def spec_ExecSame_R (r : Bool) : V := .b r
noncomputable def spec_ExecSame_O (r : Bool) : List (Option V) := [none, none]
noncomputable def spec_ExecSame_k1 : List Item := posI 2000 4 [false, false] [.code spec_ExecSame_c]
noncomputable def spec_ExecSame_S1 (a : TRun) (b : TRun) : St := ⟨(bs 2 (.ptr 1 0 0 :: (.ptr 2 0 0 :: (bs 69 [])))), [some [], some [.var 34 [vsl 2 eRead a.Reads, vsl 2 ePut a.Puts, vi a.Val, vi a.Code]], some [.var 34 [vsl 2 eRead b.Reads, vsl 2 ePut b.Puts, vi b.Val, vi b.Code]]]⟩
noncomputable def spec_ExecSame_k2 : List Item := posI 2000 6 [false, false, false] [.code spec_ExecSame_c]
noncomputable def spec_ExecSame_S2 : St := ⟨(bs 73 []), [some []]⟩
noncomputable def spec_ExecSame_k3 : Option Bool :=
  some true
theorem spec_ExecSame_k3_ok (r : Bool) (h : spec_ExecSame_k3 = some r) : Fin cx spec_ExecSame_X (spec_ExecSame_R r) (spec_ExecSame_O r) spec_ExecSame_k2 (spec_ExecSame_S2) :=
  (someD h fun e => (Fin.fin (cx := cx) (X := spec_ExecSame_X) (res := spec_ExecSame_R true) (outs := spec_ExecSame_O true) Try.func52 [[]] [] .nil (by kernel_rfl)).is (congrArg spec_ExecSame_R e) (congrArg spec_ExecSame_O e))
noncomputable def spec_ExecSame_k4 : List Item := posI 2000 5 [false, false] [.code spec_ExecSame_c]
noncomputable def spec_ExecSame_S3 (a : TRun) (b : TRun) (i1 : Int) : St := ⟨(bs 2 (.ptr 1 0 0 :: (.ptr 2 0 0 :: (bs 2 (vi i1 :: (bs 66 [])))))), [some [], some [.var 34 [vsl 2 eRead a.Reads, vsl 2 ePut a.Puts, vi a.Val, vi a.Code]], some [.var 34 [vsl 2 eRead b.Reads, vsl 2 ePut b.Puts, vi b.Val, vi b.Code]]]⟩
noncomputable def spec_ExecSame_b1 (a : TRun) (b : TRun) (i1 : Int) : Option (Stp Bool Int Unit) :=
  (bif decide (i1 < (a.Puts.length : Int)) then
 ((idx a.Puts i1).bind fun put =>
 ((idx b.Puts i1).bind fun put1 =>
 (bif (!(([put.Box, put.Val] : List Int) == [put1.Box, put1.Val])) then
 some (Stp.ret false)
 else
 some (Stp.nxt (w64 (i1 + 1))))))
 else
 some (Stp.brk ()))
theorem spec_ExecSame_b1_ok (a : TRun) (b : TRun) (res : V) (outs : List (Option V)) (x1 : Exc Bool Unit) (hb1 : ∀ s : Unit, x1 = .brk s → Fin cx spec_ExecSame_X res outs spec_ExecSame_k2 (spec_ExecSame_S2)) (hr1 : ∀ v : Bool, x1 = .ret v → (res = spec_ExecSame_R v ∧ outs = spec_ExecSame_O v)) (st1 : Stp Bool Int Unit) (hc1 : Cont x1 (fun s : Int => Fin cx spec_ExecSame_X res outs spec_ExecSame_k4 (spec_ExecSame_S3 a b s)) st1) (i1 : Int) (h : spec_ExecSame_b1 a b i1 = some st1) : Fin cx spec_ExecSame_X res outs spec_ExecSame_k4 (spec_ExecSame_S3 a b i1) :=
  (condD h (fun e5 h =>
 (bindD h fun put hput h =>
 (bindD h fun put1 hput1 h =>
 (condD h (fun e6 h =>
 (retD h hc1 fun e => (Fin.fin (cx := cx) (X := spec_ExecSame_X) (res := spec_ExecSame_R false) (outs := spec_ExecSame_O false) Try.func52 [[(4, { d := some true })], [(3, { a := .row (ePut put) }), (8, { a := .row (ePut put1) }), (10, { d := some true })], []] [decide (i1 < (a.Puts.length : Int)) = true, (0 : Int) ≤ i1, i1 < ((a.Puts.length : Nat) : Int), (a.Puts.map ePut)[i1.toNat]? = some (ePut put), (0 : Int) ≤ i1, i1 < ((b.Puts.length : Nat) : Int), (b.Puts.map ePut)[i1.toNat]? = some (ePut put1), (!(([put.Box, put.Val] : List Int) == [put1.Box, put1.Val])) = true] (.cons e5 (.cons (idx0 hput) (.cons (idx1 hput) (.cons (map_idx hput) (.cons (idx0 hput1) (.cons (idx1 hput1) (.cons (map_idx hput1) (.cons e6 .nil)))))))) (by kernel_rfl)).is (hr1 _ e).1 (hr1 _ e).2)) (fun e6 h =>
 (nxtD h hc1 fun hI => (Fin.seg [[(4, { d := some true })], [(3, { a := .row (ePut put) }), (8, { a := .row (ePut put1) }), (10, { d := some false })], []] [] [2, 3, 6] [(1, 0), (2, 0)] [decide (i1 < (a.Puts.length : Int)) = true, (0 : Int) ≤ i1, i1 < ((a.Puts.length : Nat) : Int), (a.Puts.map ePut)[i1.toNat]? = some (ePut put), (0 : Int) ≤ i1, i1 < ((b.Puts.length : Nat) : Int), (b.Puts.map ePut)[i1.toNat]? = some (ePut put1), (!(([put.Box, put.Val] : List Int) == [put1.Box, put1.Val])) = false] (.cons e5 (.cons (idx0 hput) (.cons (idx1 hput) (.cons (map_idx hput) (.cons (idx0 hput1) (.cons (idx1 hput1) (.cons (map_idx hput1) (.cons e6 .nil)))))))) hI (by kernel_rfl)))))))) (fun e5 h =>
 (brkD h hc1 fun e => (Fin.seg [[(4, { d := some false })]] [] [] [] [decide (i1 < (a.Puts.length : Int)) = false] (.cons e5 .nil) (hb1 _ e) (by kernel_rfl)))))
theorem spec_ExecSame_b1_loop (a : TRun) (b : TRun) (res : V) (outs : List (Option V)) (x1 : Exc Bool Unit) (hb1 : ∀ s : Unit, x1 = .brk s → Fin cx spec_ExecSame_X res outs spec_ExecSame_k2 (spec_ExecSame_S2)) (hr1 : ∀ v : Bool, x1 = .ret v → (res = spec_ExecSame_R v ∧ outs = spec_ExecSame_O v)) (s : Int) (h : loop (fun s : Int => spec_ExecSame_b1 a b s) s = some x1) : Fin cx spec_ExecSame_X res outs spec_ExecSame_k4 (spec_ExecSame_S3 a b s) :=
  loopD (I := fun s : Int => Fin cx spec_ExecSame_X res outs spec_ExecSame_k4 (spec_ExecSame_S3 a b s)) h fun s st h hc => spec_ExecSame_b1_ok a b res outs x1 hb1 hr1 st hc s h
noncomputable def spec_ExecSame_k5 (a : TRun) (b : TRun) : Option Bool :=
  ((loop (fun s : Int => spec_ExecSame_b1 a b s) 0).bind fun x => x.go (fun r => some r) fun s => spec_ExecSame_k3)
theorem spec_ExecSame_k5_ok (a : TRun) (b : TRun) (r : Bool) (h : spec_ExecSame_k5 a b = some r) : Fin cx spec_ExecSame_X (spec_ExecSame_R r) (spec_ExecSame_O r) spec_ExecSame_k1 (spec_ExecSame_S1 a b) :=
  (loopJ h fun x hl hr hb => (Fin.seg [[]] [] [2, 3, 6] [(1, 0), (2, 0)] [] .nil (spec_ExecSame_b1_loop a b _ _ x (fun s e => spec_ExecSame_k3_ok r (hb s e)) (fun v e => ⟨congrArg spec_ExecSame_R (Option.some.inj (hr v e)).symm, congrArg spec_ExecSame_O (Option.some.inj (hr v e)).symm⟩) 0 hl) (by kernel_rfl)))
noncomputable def spec_ExecSame_k6 : List Item := posI 2000 3 [false] [.code spec_ExecSame_c]
noncomputable def spec_ExecSame_S4 (a : TRun) (b : TRun) (i : Int) : St := ⟨(bs 2 (.ptr 1 0 0 :: (.ptr 2 0 0 :: (bs 1 (vi i :: (bs 67 [])))))), [some [], some [.var 34 [vsl 2 eRead a.Reads, vsl 2 ePut a.Puts, vi a.Val, vi a.Code]], some [.var 34 [vsl 2 eRead b.Reads, vsl 2 ePut b.Puts, vi b.Val, vi b.Code]]]⟩
noncomputable def spec_ExecSame_b2 (a : TRun) (b : TRun) (i : Int) : Option (Stp Bool Int Unit) :=
  (bif decide (i < (a.Reads.length : Int)) then
 ((idx a.Reads i).bind fun read =>
 ((idx b.Reads i).bind fun read1 =>
 (bif (!(([read.Box, read.Ver] : List Int) == [read1.Box, read1.Ver])) then
 some (Stp.ret false)
 else
 some (Stp.nxt (w64 (i + 1))))))
 else
 some (Stp.brk ()))
theorem spec_ExecSame_b2_ok (a : TRun) (b : TRun) (res : V) (outs : List (Option V)) (x1 : Exc Bool Unit) (hb1 : ∀ s : Unit, x1 = .brk s → Fin cx spec_ExecSame_X res outs spec_ExecSame_k1 (spec_ExecSame_S1 a b)) (hr1 : ∀ v : Bool, x1 = .ret v → (res = spec_ExecSame_R v ∧ outs = spec_ExecSame_O v)) (st1 : Stp Bool Int Unit) (hc1 : Cont x1 (fun s : Int => Fin cx spec_ExecSame_X res outs spec_ExecSame_k6 (spec_ExecSame_S4 a b s)) st1) (i : Int) (h : spec_ExecSame_b2 a b i = some st1) : Fin cx spec_ExecSame_X res outs spec_ExecSame_k6 (spec_ExecSame_S4 a b i) :=
  (condD h (fun e7 h =>
 (bindD h fun read hread h =>
 (bindD h fun read1 hread1 h =>
 (condD h (fun e8 h =>
 (retD h hc1 fun e => (Fin.fin (cx := cx) (X := spec_ExecSame_X) (res := spec_ExecSame_R false) (outs := spec_ExecSame_O false) Try.func52 [[(4, { d := some true })], [(3, { a := .row (eRead read) }), (8, { a := .row (eRead read1) }), (10, { d := some true })], []] [decide (i < (a.Reads.length : Int)) = true, (0 : Int) ≤ i, i < ((a.Reads.length : Nat) : Int), (a.Reads.map eRead)[i.toNat]? = some (eRead read), (0 : Int) ≤ i, i < ((b.Reads.length : Nat) : Int), (b.Reads.map eRead)[i.toNat]? = some (eRead read1), (!(([read.Box, read.Ver] : List Int) == [read1.Box, read1.Ver])) = true] (.cons e7 (.cons (idx0 hread) (.cons (idx1 hread) (.cons (map_idx hread) (.cons (idx0 hread1) (.cons (idx1 hread1) (.cons (map_idx hread1) (.cons e8 .nil)))))))) (by kernel_rfl)).is (hr1 _ e).1 (hr1 _ e).2)) (fun e8 h =>
 (nxtD h hc1 fun hI => (Fin.seg [[(4, { d := some true })], [(3, { a := .row (eRead read) }), (8, { a := .row (eRead read1) }), (10, { d := some false })], []] [] [2, 3, 5] [(1, 0), (2, 0)] [decide (i < (a.Reads.length : Int)) = true, (0 : Int) ≤ i, i < ((a.Reads.length : Nat) : Int), (a.Reads.map eRead)[i.toNat]? = some (eRead read), (0 : Int) ≤ i, i < ((b.Reads.length : Nat) : Int), (b.Reads.map eRead)[i.toNat]? = some (eRead read1), (!(([read.Box, read.Ver] : List Int) == [read1.Box, read1.Ver])) = false] (.cons e7 (.cons (idx0 hread) (.cons (idx1 hread) (.cons (map_idx hread) (.cons (idx0 hread1) (.cons (idx1 hread1) (.cons (map_idx hread1) (.cons e8 .nil)))))))) hI (by kernel_rfl)))))))) (fun e7 h =>
 (brkD h hc1 fun e => (Fin.seg [[(4, { d := some false })]] [] [2, 3] [(1, 0), (2, 0)] [decide (i < (a.Reads.length : Int)) = false] (.cons e7 .nil) (hb1 _ e) (by kernel_rfl)))))
theorem spec_ExecSame_b2_loop (a : TRun) (b : TRun) (res : V) (outs : List (Option V)) (x1 : Exc Bool Unit) (hb1 : ∀ s : Unit, x1 = .brk s → Fin cx spec_ExecSame_X res outs spec_ExecSame_k1 (spec_ExecSame_S1 a b)) (hr1 : ∀ v : Bool, x1 = .ret v → (res = spec_ExecSame_R v ∧ outs = spec_ExecSame_O v)) (s : Int) (h : loop (fun s : Int => spec_ExecSame_b2 a b s) s = some x1) : Fin cx spec_ExecSame_X res outs spec_ExecSame_k6 (spec_ExecSame_S4 a b s) :=
  loopD (I := fun s : Int => Fin cx spec_ExecSame_X res outs spec_ExecSame_k6 (spec_ExecSame_S4 a b s)) h fun s st h hc => spec_ExecSame_b2_ok a b res outs x1 hb1 hr1 st hc s h
noncomputable def spec_ExecSame (a : TRun) (b : TRun) : Option Bool :=
  (bif (a.Val != b.Val) then
 some false
 else
 (bif (a.Code != b.Code) then
 some false
 else
 (bif ((a.Reads.length : Int) != (b.Reads.length : Int)) then
 some false
 else
 (bif ((a.Puts.length : Int) != (b.Puts.length : Int)) then
 some false
 else
 ((loop (fun s : Int => spec_ExecSame_b2 a b s) 0).bind fun x => x.go (fun r => some r) fun s => spec_ExecSame_k5 a b)))))
theorem spec_ExecSame_fin (a : TRun) (b : TRun) (r : Bool) (h : spec_ExecSame a b = some r) : Fin cx spec_ExecSame_X (spec_ExecSame_R r) (spec_ExecSame_O r) [.code spec_ExecSame_c] (startS spec_ExecSame_X [.agg (eRun a), .agg (eRun b)]) :=
  (condD h (fun e1 h =>
 (someD h fun e => (Fin.fin (cx := cx) (X := spec_ExecSame_X) (res := spec_ExecSame_R false) (outs := spec_ExecSame_O false) Try.func52 [[], [(5, { d := some true })], []] [(a.Val != b.Val) = true] (.cons e1 .nil) (by kernel_rfl)).is (congrArg spec_ExecSame_R e) (congrArg spec_ExecSame_O e))) (fun e1 h =>
 (condD h (fun e2 h =>
 (someD h fun e => (Fin.fin (cx := cx) (X := spec_ExecSame_X) (res := spec_ExecSame_R false) (outs := spec_ExecSame_O false) Try.func52 [[], [(5, { d := some false }), (12, { d := some true })], []] [(a.Val != b.Val) = false, (a.Code != b.Code) = true] (.cons e1 (.cons e2 .nil)) (by kernel_rfl)).is (congrArg spec_ExecSame_R e) (congrArg spec_ExecSame_O e))) (fun e2 h =>
 (condD h (fun e3 h =>
 (someD h fun e => (Fin.fin (cx := cx) (X := spec_ExecSame_X) (res := spec_ExecSame_R false) (outs := spec_ExecSame_O false) Try.func52 [[], [(5, { d := some false }), (12, { d := some false }), (21, { d := some true })], []] [(a.Val != b.Val) = false, (a.Code != b.Code) = false, ((a.Reads.length : Int) != (b.Reads.length : Int)) = true] (.cons e1 (.cons e2 (.cons e3 .nil))) (by kernel_rfl)).is (congrArg spec_ExecSame_R e) (congrArg spec_ExecSame_O e))) (fun e3 h =>
 (condD h (fun e4 h =>
 (someD h fun e => (Fin.fin (cx := cx) (X := spec_ExecSame_X) (res := spec_ExecSame_R false) (outs := spec_ExecSame_O false) Try.func52 [[], [(5, { d := some false }), (12, { d := some false }), (21, { d := some false }), (29, { d := some true })], []] [(a.Val != b.Val) = false, (a.Code != b.Code) = false, ((a.Reads.length : Int) != (b.Reads.length : Int)) = false, ((a.Puts.length : Int) != (b.Puts.length : Int)) = true] (.cons e1 (.cons e2 (.cons e3 (.cons e4 .nil)))) (by kernel_rfl)).is (congrArg spec_ExecSame_R e) (congrArg spec_ExecSame_O e))) (fun e4 h =>
 (loopJ h fun x hl hr hb => (Fin.seg [[], [(5, { d := some false }), (12, { d := some false }), (21, { d := some false }), (29, { d := some false })], []] [] [2, 3, 5] [(1, 0), (2, 0)] [(a.Val != b.Val) = false, (a.Code != b.Code) = false, ((a.Reads.length : Int) != (b.Reads.length : Int)) = false, ((a.Puts.length : Int) != (b.Puts.length : Int)) = false] (.cons e1 (.cons e2 (.cons e3 (.cons e4 .nil)))) (spec_ExecSame_b2_loop a b _ _ x (fun s e => spec_ExecSame_k5_ok a b r (hb s e)) (fun v e => ⟨congrArg spec_ExecSame_R (Option.some.inj (hr v e)).symm, congrArg spec_ExecSame_O (Option.some.inj (hr v e)).symm⟩) 0 hl) (by kernel_rfl)))))))))))
theorem spec_ExecSame_ok (a : TRun) (b : TRun) (r : Bool) (h : spec_ExecSame a b = some r) : ACalls cx.P 52 [.agg (eRun a), .agg (eRun b)] (spec_ExecSame_R r) (spec_ExecSame_O r) :=
  ACalls.of (cx := cx) (X := spec_ExecSame_X) (c := spec_ExecSame_c) Try.func52 (by kernel_rfl) (by kernel_rfl) (by kernel_rfl) (spec_ExecSame_fin a b r h)

/-! ### spec_l5Req -/
noncomputable def spec_l5Req_c : Code := bodyOf Try.f53
noncomputable def spec_l5Req_X : Sig := { f := 53, fn := Try.f53, rms := [.val [] []], oms := [none] }
noncomputable def spec_l5Req_R (r : Bool) : V := .b r
noncomputable def spec_l5Req_O (r : Bool) : List (Option V) := [none]
noncomputable def spec_l5Req (q : TReq) : Option Bool :=
  (bif decide (q.Who ≥ 0) then
 (bif decide (q.Who < 3) then
 (bif decide (q.Seq ≥ 1) then
 some (decide (q.Seq ≤ 1000))
 else
 some false)
 else
 some false)
 else
 some false)
theorem spec_l5Req_fin (q : TReq) (r : Bool) (h : spec_l5Req q = some r) : Fin cx spec_l5Req_X (spec_l5Req_R r) (spec_l5Req_O r) [.code spec_l5Req_c] (startS spec_l5Req_X [.agg (eReq q)]) :=
  (condD h (fun e1 h =>
 (condD h (fun e2 h =>
 (condD h (fun e3 h =>
 (someD h fun e => (Fin.fin (cx := cx) (X := spec_l5Req_X) (res := spec_l5Req_R (decide (q.Seq ≤ 1000))) (outs := spec_l5Req_O (decide (q.Seq ≤ 1000))) Try.func53 [[], [(3, { d := some true }), (8, { d := some true }), (13, { d := some true })]] [decide (q.Who ≥ 0) = true, decide (q.Who < 3) = true, decide (q.Seq ≥ 1) = true] (.cons e1 (.cons e2 (.cons e3 .nil))) (by kernel_rfl)).is (congrArg spec_l5Req_R e) (congrArg spec_l5Req_O e))) (fun e3 h =>
 (someD h fun e => (Fin.fin (cx := cx) (X := spec_l5Req_X) (res := spec_l5Req_R false) (outs := spec_l5Req_O false) Try.func53 [[], [(3, { d := some true }), (8, { d := some true }), (13, { d := some false })]] [decide (q.Who ≥ 0) = true, decide (q.Who < 3) = true, decide (q.Seq ≥ 1) = false] (.cons e1 (.cons e2 (.cons e3 .nil))) (by kernel_rfl)).is (congrArg spec_l5Req_R e) (congrArg spec_l5Req_O e))))) (fun e2 h =>
 (someD h fun e => (Fin.fin (cx := cx) (X := spec_l5Req_X) (res := spec_l5Req_R false) (outs := spec_l5Req_O false) Try.func53 [[], [(3, { d := some true }), (8, { d := some false })]] [decide (q.Who ≥ 0) = true, decide (q.Who < 3) = false] (.cons e1 (.cons e2 .nil)) (by kernel_rfl)).is (congrArg spec_l5Req_R e) (congrArg spec_l5Req_O e))))) (fun e1 h =>
 (someD h fun e => (Fin.fin (cx := cx) (X := spec_l5Req_X) (res := spec_l5Req_R false) (outs := spec_l5Req_O false) Try.func53 [[], [(3, { d := some false })]] [decide (q.Who ≥ 0) = false] (.cons e1 .nil) (by kernel_rfl)).is (congrArg spec_l5Req_R e) (congrArg spec_l5Req_O e))))
theorem spec_l5Req_ok (q : TReq) (r : Bool) (h : spec_l5Req q = some r) : ACalls cx.P 53 [.agg (eReq q)] (spec_l5Req_R r) (spec_l5Req_O r) :=
  ACalls.of (cx := cx) (X := spec_l5Req_X) (c := spec_l5Req_c) Try.func53 (by kernel_rfl) (by kernel_rfl) (by kernel_rfl) (spec_l5Req_fin q r h)

/-! ### spec_ExecOk -/
noncomputable def spec_ExecOk_c : Code := bodyOf Try.f54
noncomputable def spec_ExecOk_X : Sig := { f := 54, fn := Try.f54, rms := [.val [] []], oms := [none] }
noncomputable def spec_ExecOk_R (r : Bool) : V := .b r
noncomputable def spec_ExecOk_O (r : Bool) : List (Option V) := [none]
noncomputable def spec_ExecOk_k1 : List Item := posI 2000 2 [false] [.code spec_ExecOk_c]
noncomputable def spec_ExecOk_S1 (r_ : TRun) : St := ⟨(bs 1 (.ptr 1 0 0 :: (bs 129 []))), [some [], some [.var 34 [vsl 2 eRead r_.Reads, vsl 2 ePut r_.Puts, vi r_.Val, vi r_.Code]]]⟩
noncomputable def spec_ExecOk_k2 : List Item := posI 2000 4 [false, false] [.code spec_ExecOk_c]
noncomputable def spec_ExecOk_S2 (r_ : TRun) : St := ⟨(bs 1 (.ptr 1 0 0 :: (bs 129 []))), [some [], some [.var 34 [vsl 2 eRead r_.Reads, vsl 2 ePut r_.Puts, vi r_.Val, vi r_.Code]]]⟩
noncomputable def spec_ExecOk_k3 : List Item := posI 2000 6 [false, false, false] [.code spec_ExecOk_c]
noncomputable def spec_ExecOk_S3 : St := ⟨(bs 131 []), [some []]⟩
noncomputable def spec_ExecOk_k4 : Option Bool :=
  some true
theorem spec_ExecOk_k4_ok (r : Bool) (h : spec_ExecOk_k4 = some r) : Fin cx spec_ExecOk_X (spec_ExecOk_R r) (spec_ExecOk_O r) spec_ExecOk_k3 (spec_ExecOk_S3) :=
  (someD h fun e => (Fin.fin (cx := cx) (X := spec_ExecOk_X) (res := spec_ExecOk_R true) (outs := spec_ExecOk_O true) Try.func54 [[]] [] .nil (by kernel_rfl)).is (congrArg spec_ExecOk_R e) (congrArg spec_ExecOk_O e))
noncomputable def spec_ExecOk_k5 : List Item := posI 2000 5 [false, false] [.code spec_ExecOk_c]
noncomputable def spec_ExecOk_S4 (r_ : TRun) (i1 : Int) : St := ⟨(bs 1 (.ptr 1 0 0 :: (bs 2 (vi i1 :: (bs 126 []))))), [some [], some [.var 34 [vsl 2 eRead r_.Reads, vsl 2 ePut r_.Puts, vi r_.Val, vi r_.Code]]]⟩
noncomputable def spec_ExecOk_b1 (r_ : TRun) (i1 : Int) : Option (Stp Bool Int Unit) :=
  (bif decide (i1 < (r_.Puts.length : Int)) then
 ((idx r_.Puts i1).bind fun put =>
 ((spec_l2Box put.Box).bind fun l2Box =>
 (bif (!l2Box) then
 some (Stp.ret false)
 else
 ((spec_l1Num put.Val).bind fun l1Num =>
 (bif (!l1Num) then
 some (Stp.ret false)
 else
 (need ((0 : Int) ≤ i1 ∧ i1 ≤ (r_.Puts.length : Int))
 (((spec_l3At ((r_.Puts.drop 0).take (i1.toNat - 0)) put.Box).bind fun l3At =>
 (bif decide (l3At ≥ 0) then
 some (Stp.ret false)
 else
 some (Stp.nxt (w64 (i1 + 1))))))))))))
 else
 some (Stp.brk ()))
theorem spec_ExecOk_b1_ok (r_ : TRun) (res : V) (outs : List (Option V)) (x1 : Exc Bool Unit) (hb1 : ∀ s : Unit, x1 = .brk s → Fin cx spec_ExecOk_X res outs spec_ExecOk_k3 (spec_ExecOk_S3)) (hr1 : ∀ v : Bool, x1 = .ret v → (res = spec_ExecOk_R v ∧ outs = spec_ExecOk_O v)) (st1 : Stp Bool Int Unit) (hc1 : Cont x1 (fun s : Int => Fin cx spec_ExecOk_X res outs spec_ExecOk_k5 (spec_ExecOk_S4 r_ s)) st1) (i1 : Int) (h : spec_ExecOk_b1 r_ i1 = some st1) : Fin cx spec_ExecOk_X res outs spec_ExecOk_k5 (spec_ExecOk_S4 r_ i1) :=
  (condD h (fun e1 h =>
 (bindD h fun put hput h =>
 (bindD h fun l2Box hl2Box h =>
 (condD h (fun e2 h =>
 (retD h hc1 fun e => (Fin.fin (cx := cx) (X := spec_ExecOk_X) (res := spec_ExecOk_R false) (outs := spec_ExecOk_O false) Try.func54 [[(4, { d := some true })], [(3, { a := .row (ePut put) }), (6, { a := .call [.val [] []] false (spec_l2Box_R l2Box) (spec_l2Box_O l2Box) }), (8, { d := some true })], []] [decide (i1 < (r_.Puts.length : Int)) = true, (0 : Int) ≤ i1, i1 < ((r_.Puts.length : Nat) : Int), (r_.Puts.map ePut)[i1.toNat]? = some (ePut put), ACalls cx.P 63 [vi put.Box] (spec_l2Box_R l2Box) (spec_l2Box_O l2Box), (!l2Box) = true] (.cons e1 (.cons (idx0 hput) (.cons (idx1 hput) (.cons (map_idx hput) (.cons (spec_l2Box_ok put.Box l2Box hl2Box) (.cons e2 .nil)))))) (by kernel_rfl)).is (hr1 _ e).1 (hr1 _ e).2)) (fun e2 h =>
 (bindD h fun l1Num hl1Num h =>
 (condD h (fun e3 h =>
 (retD h hc1 fun e => (Fin.fin (cx := cx) (X := spec_ExecOk_X) (res := spec_ExecOk_R false) (outs := spec_ExecOk_O false) Try.func54 [[(4, { d := some true })], [(3, { a := .row (ePut put) }), (6, { a := .call [.val [] []] false (spec_l2Box_R l2Box) (spec_l2Box_O l2Box) }), (8, { d := some false }), (12, { a := .row (ePut put) }), (15, { a := .call [.val [] []] false (spec_l1Num_R l1Num) (spec_l1Num_O l1Num) }), (18, { d := some true })], []] [decide (i1 < (r_.Puts.length : Int)) = true, (0 : Int) ≤ i1, i1 < ((r_.Puts.length : Nat) : Int), (r_.Puts.map ePut)[i1.toNat]? = some (ePut put), ACalls cx.P 63 [vi put.Box] (spec_l2Box_R l2Box) (spec_l2Box_O l2Box), (!l2Box) = false, (0 : Int) ≤ i1, i1 < ((r_.Puts.length : Nat) : Int), (r_.Puts.map ePut)[i1.toNat]? = some (ePut put), ACalls cx.P 55 [vi put.Val] (spec_l1Num_R l1Num) (spec_l1Num_O l1Num), (!l1Num) = true] (.cons e1 (.cons (idx0 hput) (.cons (idx1 hput) (.cons (map_idx hput) (.cons (spec_l2Box_ok put.Box l2Box hl2Box) (.cons e2 (.cons (idx0 hput) (.cons (idx1 hput) (.cons (map_idx hput) (.cons (spec_l1Num_ok put.Val l1Num hl1Num) (.cons e3 .nil))))))))))) (by kernel_rfl)).is (hr1 _ e).1 (hr1 _ e).2)) (fun e3 h =>
 (needD h fun e4 h =>
 (bindD h fun l3At hl3At h =>
 (condD h (fun e5 h =>
 (retD h hc1 fun e => (Fin.fin (cx := cx) (X := spec_ExecOk_X) (res := spec_ExecOk_R false) (outs := spec_ExecOk_O false) Try.func54 [[(4, { d := some true })], [(3, { a := .row (ePut put) }), (6, { a := .call [.val [] []] false (spec_l2Box_R l2Box) (spec_l2Box_O l2Box) }), (8, { d := some false }), (12, { a := .row (ePut put) }), (15, { a := .call [.val [] []] false (spec_l1Num_R l1Num) (spec_l1Num_O l1Num) }), (18, { d := some false }), (22, { v := some (vsl 2 ePut ((r_.Puts.drop 0).take (i1.toNat - 0))) }), (26, { a := .row (ePut put) }), (29, { a := .call [.val [some 2] [], .val [] []] false (spec_l3At_R l3At) (spec_l3At_O l3At) }), (31, { d := some true })], []] [decide (i1 < (r_.Puts.length : Int)) = true, (0 : Int) ≤ i1, i1 < ((r_.Puts.length : Nat) : Int), (r_.Puts.map ePut)[i1.toNat]? = some (ePut put), ACalls cx.P 63 [vi put.Box] (spec_l2Box_R l2Box) (spec_l2Box_O l2Box), (!l2Box) = false, (0 : Int) ≤ i1, i1 < ((r_.Puts.length : Nat) : Int), (r_.Puts.map ePut)[i1.toNat]? = some (ePut put), ACalls cx.P 55 [vi put.Val] (spec_l1Num_R l1Num) (spec_l1Num_O l1Num), (!l1Num) = false, V.sl 2 (i1.toNat - 0) (((r_.Puts.map ePut).drop 0).take (i1.toNat - 0)) = vsl 2 ePut ((r_.Puts.drop 0).take (i1.toNat - 0)), (0 : Int) ≤ i1, i1 ≤ ((r_.Puts.length : Nat) : Int), (0 : Int) ≤ i1, i1 < ((r_.Puts.length : Nat) : Int), (r_.Puts.map ePut)[i1.toNat]? = some (ePut put), ACalls cx.P 30 [vsl 2 ePut ((r_.Puts.drop 0).take (i1.toNat - 0)), vi put.Box] (spec_l3At_R l3At) (spec_l3At_O l3At), decide (l3At ≥ 0) = true] (.cons e1 (.cons (idx0 hput) (.cons (idx1 hput) (.cons (map_idx hput) (.cons (spec_l2Box_ok put.Box l2Box hl2Box) (.cons e2 (.cons (idx0 hput) (.cons (idx1 hput) (.cons (map_idx hput) (.cons (spec_l1Num_ok put.Val l1Num hl1Num) (.cons e3 (.cons (sl_h e4) (.cons e4.1 (.cons e4.2 (.cons (idx0 hput) (.cons (idx1 hput) (.cons (map_idx hput) (.cons (spec_l3At_ok ((r_.Puts.drop 0).take (i1.toNat - 0)) put.Box l3At hl3At) (.cons e5 .nil))))))))))))))))))) (by kernel_rfl)).is (hr1 _ e).1 (hr1 _ e).2)) (fun e5 h =>
 (nxtD h hc1 fun hI => (Fin.seg [[(4, { d := some true })], [(3, { a := .row (ePut put) }), (6, { a := .call [.val [] []] false (spec_l2Box_R l2Box) (spec_l2Box_O l2Box) }), (8, { d := some false }), (12, { a := .row (ePut put) }), (15, { a := .call [.val [] []] false (spec_l1Num_R l1Num) (spec_l1Num_O l1Num) }), (18, { d := some false }), (22, { v := some (vsl 2 ePut ((r_.Puts.drop 0).take (i1.toNat - 0))) }), (26, { a := .row (ePut put) }), (29, { a := .call [.val [some 2] [], .val [] []] false (spec_l3At_R l3At) (spec_l3At_O l3At) }), (31, { d := some false })], []] [] [1, 4] [(1, 0)] [decide (i1 < (r_.Puts.length : Int)) = true, (0 : Int) ≤ i1, i1 < ((r_.Puts.length : Nat) : Int), (r_.Puts.map ePut)[i1.toNat]? = some (ePut put), ACalls cx.P 63 [vi put.Box] (spec_l2Box_R l2Box) (spec_l2Box_O l2Box), (!l2Box) = false, (0 : Int) ≤ i1, i1 < ((r_.Puts.length : Nat) : Int), (r_.Puts.map ePut)[i1.toNat]? = some (ePut put), ACalls cx.P 55 [vi put.Val] (spec_l1Num_R l1Num) (spec_l1Num_O l1Num), (!l1Num) = false, V.sl 2 (i1.toNat - 0) (((r_.Puts.map ePut).drop 0).take (i1.toNat - 0)) = vsl 2 ePut ((r_.Puts.drop 0).take (i1.toNat - 0)), (0 : Int) ≤ i1, i1 ≤ ((r_.Puts.length : Nat) : Int), (0 : Int) ≤ i1, i1 < ((r_.Puts.length : Nat) : Int), (r_.Puts.map ePut)[i1.toNat]? = some (ePut put), ACalls cx.P 30 [vsl 2 ePut ((r_.Puts.drop 0).take (i1.toNat - 0)), vi put.Box] (spec_l3At_R l3At) (spec_l3At_O l3At), decide (l3At ≥ 0) = false] (.cons e1 (.cons (idx0 hput) (.cons (idx1 hput) (.cons (map_idx hput) (.cons (spec_l2Box_ok put.Box l2Box hl2Box) (.cons e2 (.cons (idx0 hput) (.cons (idx1 hput) (.cons (map_idx hput) (.cons (spec_l1Num_ok put.Val l1Num hl1Num) (.cons e3 (.cons (sl_h e4) (.cons e4.1 (.cons e4.2 (.cons (idx0 hput) (.cons (idx1 hput) (.cons (map_idx hput) (.cons (spec_l3At_ok ((r_.Puts.drop 0).take (i1.toNat - 0)) put.Box l3At hl3At) (.cons e5 .nil))))))))))))))))))) hI (by kernel_rfl))))))))))))))) (fun e1 h =>
 (brkD h hc1 fun e => (Fin.seg [[(4, { d := some false })]] [] [] [] [decide (i1 < (r_.Puts.length : Int)) = false] (.cons e1 .nil) (hb1 _ e) (by kernel_rfl)))))
theorem spec_ExecOk_b1_loop (r_ : TRun) (res : V) (outs : List (Option V)) (x1 : Exc Bool Unit) (hb1 : ∀ s : Unit, x1 = .brk s → Fin cx spec_ExecOk_X res outs spec_ExecOk_k3 (spec_ExecOk_S3)) (hr1 : ∀ v : Bool, x1 = .ret v → (res = spec_ExecOk_R v ∧ outs = spec_ExecOk_O v)) (s : Int) (h : loop (fun s : Int => spec_ExecOk_b1 r_ s) s = some x1) : Fin cx spec_ExecOk_X res outs spec_ExecOk_k5 (spec_ExecOk_S4 r_ s) :=
  loopD (I := fun s : Int => Fin cx spec_ExecOk_X res outs spec_ExecOk_k5 (spec_ExecOk_S4 r_ s)) h fun s st h hc => spec_ExecOk_b1_ok r_ res outs x1 hb1 hr1 st hc s h
noncomputable def spec_ExecOk_k6 (r_ : TRun) : Option Bool :=
  ((loop (fun s : Int => spec_ExecOk_b1 r_ s) 0).bind fun x => x.go (fun r => some r) fun s => spec_ExecOk_k4)
theorem spec_ExecOk_k6_ok (r_ : TRun) (r : Bool) (h : spec_ExecOk_k6 r_ = some r) : Fin cx spec_ExecOk_X (spec_ExecOk_R r) (spec_ExecOk_O r) spec_ExecOk_k2 (spec_ExecOk_S2 r_) :=
  (loopJ h fun x hl hr hb => (Fin.seg [[]] [] [1, 4] [(1, 0)] [] .nil (spec_ExecOk_b1_loop r_ _ _ x (fun s e => spec_ExecOk_k4_ok r (hb s e)) (fun v e => ⟨congrArg spec_ExecOk_R (Option.some.inj (hr v e)).symm, congrArg spec_ExecOk_O (Option.some.inj (hr v e)).symm⟩) 0 hl) (by kernel_rfl)))
noncomputable def spec_ExecOk_k7 : List Item := posI 2000 3 [false] [.code spec_ExecOk_c]
noncomputable def spec_ExecOk_S5 (r_ : TRun) (i : Int) : St := ⟨(bs 1 (.ptr 1 0 0 :: (bs 1 (vi i :: (bs 127 []))))), [some [], some [.var 34 [vsl 2 eRead r_.Reads, vsl 2 ePut r_.Puts, vi r_.Val, vi r_.Code]]]⟩
noncomputable def spec_ExecOk_b2 (r_ : TRun) (i : Int) : Option (Stp Bool Int Unit) :=
  (bif decide (i < (r_.Reads.length : Int)) then
 ((idx r_.Reads i).bind fun read =>
 ((spec_l2Box read.Box).bind fun l2Box1 =>
 (bif (!l2Box1) then
 some (Stp.ret false)
 else
 (bif decide (read.Ver < 0) then
 some (Stp.ret false)
 else
 (bif decide (read.Ver > 1000000) then
 some (Stp.ret false)
 else
 (need ((0 : Int) ≤ i ∧ i ≤ (r_.Reads.length : Int))
 (((spec_l3Saw ((r_.Reads.drop 0).take (i.toNat - 0)) read.Box).bind fun l3Saw =>
 (bif l3Saw then
 some (Stp.ret false)
 else
 some (Stp.nxt (w64 (i + 1))))))))))))
 else
 some (Stp.brk ()))
theorem spec_ExecOk_b2_ok (r_ : TRun) (res : V) (outs : List (Option V)) (x1 : Exc Bool Unit) (hb1 : ∀ s : Unit, x1 = .brk s → Fin cx spec_ExecOk_X res outs spec_ExecOk_k2 (spec_ExecOk_S2 r_)) (hr1 : ∀ v : Bool, x1 = .ret v → (res = spec_ExecOk_R v ∧ outs = spec_ExecOk_O v)) (st1 : Stp Bool Int Unit) (hc1 : Cont x1 (fun s : Int => Fin cx spec_ExecOk_X res outs spec_ExecOk_k7 (spec_ExecOk_S5 r_ s)) st1) (i : Int) (h : spec_ExecOk_b2 r_ i = some st1) : Fin cx spec_ExecOk_X res outs spec_ExecOk_k7 (spec_ExecOk_S5 r_ i) :=
  (condD h (fun e6 h =>
 (bindD h fun read hread h =>
 (bindD h fun l2Box1 hl2Box1 h =>
 (condD h (fun e7 h =>
 (retD h hc1 fun e => (Fin.fin (cx := cx) (X := spec_ExecOk_X) (res := spec_ExecOk_R false) (outs := spec_ExecOk_O false) Try.func54 [[(4, { d := some true })], [(3, { a := .row (eRead read) }), (6, { a := .call [.val [] []] false (spec_l2Box_R l2Box1) (spec_l2Box_O l2Box1) }), (8, { d := some true })], []] [decide (i < (r_.Reads.length : Int)) = true, (0 : Int) ≤ i, i < ((r_.Reads.length : Nat) : Int), (r_.Reads.map eRead)[i.toNat]? = some (eRead read), ACalls cx.P 63 [vi read.Box] (spec_l2Box_R l2Box1) (spec_l2Box_O l2Box1), (!l2Box1) = true] (.cons e6 (.cons (idx0 hread) (.cons (idx1 hread) (.cons (map_idx hread) (.cons (spec_l2Box_ok read.Box l2Box1 hl2Box1) (.cons e7 .nil)))))) (by kernel_rfl)).is (hr1 _ e).1 (hr1 _ e).2)) (fun e7 h =>
 (condD h (fun e8 h =>
 (retD h hc1 fun e => (Fin.fin (cx := cx) (X := spec_ExecOk_X) (res := spec_ExecOk_R false) (outs := spec_ExecOk_O false) Try.func54 [[(4, { d := some true })], [(3, { a := .row (eRead read) }), (6, { a := .call [.val [] []] false (spec_l2Box_R l2Box1) (spec_l2Box_O l2Box1) }), (8, { d := some false }), (12, { a := .row (eRead read) }), (17, { d := some true })], []] [decide (i < (r_.Reads.length : Int)) = true, (0 : Int) ≤ i, i < ((r_.Reads.length : Nat) : Int), (r_.Reads.map eRead)[i.toNat]? = some (eRead read), ACalls cx.P 63 [vi read.Box] (spec_l2Box_R l2Box1) (spec_l2Box_O l2Box1), (!l2Box1) = false, (0 : Int) ≤ i, i < ((r_.Reads.length : Nat) : Int), (r_.Reads.map eRead)[i.toNat]? = some (eRead read), decide (read.Ver < 0) = true] (.cons e6 (.cons (idx0 hread) (.cons (idx1 hread) (.cons (map_idx hread) (.cons (spec_l2Box_ok read.Box l2Box1 hl2Box1) (.cons e7 (.cons (idx0 hread) (.cons (idx1 hread) (.cons (map_idx hread) (.cons e8 .nil)))))))))) (by kernel_rfl)).is (hr1 _ e).1 (hr1 _ e).2)) (fun e8 h =>
 (condD h (fun e9 h =>
 (retD h hc1 fun e => (Fin.fin (cx := cx) (X := spec_ExecOk_X) (res := spec_ExecOk_R false) (outs := spec_ExecOk_O false) Try.func54 [[(4, { d := some true })], [(3, { a := .row (eRead read) }), (6, { a := .call [.val [] []] false (spec_l2Box_R l2Box1) (spec_l2Box_O l2Box1) }), (8, { d := some false }), (12, { a := .row (eRead read) }), (17, { d := some false }), (21, { a := .row (eRead read) }), (26, { d := some true })], []] [decide (i < (r_.Reads.length : Int)) = true, (0 : Int) ≤ i, i < ((r_.Reads.length : Nat) : Int), (r_.Reads.map eRead)[i.toNat]? = some (eRead read), ACalls cx.P 63 [vi read.Box] (spec_l2Box_R l2Box1) (spec_l2Box_O l2Box1), (!l2Box1) = false, (0 : Int) ≤ i, i < ((r_.Reads.length : Nat) : Int), (r_.Reads.map eRead)[i.toNat]? = some (eRead read), decide (read.Ver < 0) = false, (0 : Int) ≤ i, i < ((r_.Reads.length : Nat) : Int), (r_.Reads.map eRead)[i.toNat]? = some (eRead read), decide (read.Ver > 1000000) = true] (.cons e6 (.cons (idx0 hread) (.cons (idx1 hread) (.cons (map_idx hread) (.cons (spec_l2Box_ok read.Box l2Box1 hl2Box1) (.cons e7 (.cons (idx0 hread) (.cons (idx1 hread) (.cons (map_idx hread) (.cons e8 (.cons (idx0 hread) (.cons (idx1 hread) (.cons (map_idx hread) (.cons e9 .nil)))))))))))))) (by kernel_rfl)).is (hr1 _ e).1 (hr1 _ e).2)) (fun e9 h =>
 (needD h fun e10 h =>
 (bindD h fun l3Saw hl3Saw h =>
 (condD h (fun e11 h =>
 (retD h hc1 fun e => (Fin.fin (cx := cx) (X := spec_ExecOk_X) (res := spec_ExecOk_R false) (outs := spec_ExecOk_O false) Try.func54 [[(4, { d := some true })], [(3, { a := .row (eRead read) }), (6, { a := .call [.val [] []] false (spec_l2Box_R l2Box1) (spec_l2Box_O l2Box1) }), (8, { d := some false }), (12, { a := .row (eRead read) }), (17, { d := some false }), (21, { a := .row (eRead read) }), (26, { d := some false }), (30, { v := some (vsl 2 eRead ((r_.Reads.drop 0).take (i.toNat - 0))) }), (34, { a := .row (eRead read) }), (37, { a := .call [.val [some 2] [], .val [] []] false (spec_l3Saw_R l3Saw) (spec_l3Saw_O l3Saw) }), (38, { d := some true })], []] [decide (i < (r_.Reads.length : Int)) = true, (0 : Int) ≤ i, i < ((r_.Reads.length : Nat) : Int), (r_.Reads.map eRead)[i.toNat]? = some (eRead read), ACalls cx.P 63 [vi read.Box] (spec_l2Box_R l2Box1) (spec_l2Box_O l2Box1), (!l2Box1) = false, (0 : Int) ≤ i, i < ((r_.Reads.length : Nat) : Int), (r_.Reads.map eRead)[i.toNat]? = some (eRead read), decide (read.Ver < 0) = false, (0 : Int) ≤ i, i < ((r_.Reads.length : Nat) : Int), (r_.Reads.map eRead)[i.toNat]? = some (eRead read), decide (read.Ver > 1000000) = false, V.sl 2 (i.toNat - 0) (((r_.Reads.map eRead).drop 0).take (i.toNat - 0)) = vsl 2 eRead ((r_.Reads.drop 0).take (i.toNat - 0)), (0 : Int) ≤ i, i ≤ ((r_.Reads.length : Nat) : Int), (0 : Int) ≤ i, i < ((r_.Reads.length : Nat) : Int), (r_.Reads.map eRead)[i.toNat]? = some (eRead read), ACalls cx.P 31 [vsl 2 eRead ((r_.Reads.drop 0).take (i.toNat - 0)), vi read.Box] (spec_l3Saw_R l3Saw) (spec_l3Saw_O l3Saw), l3Saw = true] (.cons e6 (.cons (idx0 hread) (.cons (idx1 hread) (.cons (map_idx hread) (.cons (spec_l2Box_ok read.Box l2Box1 hl2Box1) (.cons e7 (.cons (idx0 hread) (.cons (idx1 hread) (.cons (map_idx hread) (.cons e8 (.cons (idx0 hread) (.cons (idx1 hread) (.cons (map_idx hread) (.cons e9 (.cons (sl_h e10) (.cons e10.1 (.cons e10.2 (.cons (idx0 hread) (.cons (idx1 hread) (.cons (map_idx hread) (.cons (spec_l3Saw_ok ((r_.Reads.drop 0).take (i.toNat - 0)) read.Box l3Saw hl3Saw) (.cons e11 .nil)))))))))))))))))))))) (by kernel_rfl)).is (hr1 _ e).1 (hr1 _ e).2)) (fun e11 h =>
 (nxtD h hc1 fun hI => (Fin.seg [[(4, { d := some true })], [(3, { a := .row (eRead read) }), (6, { a := .call [.val [] []] false (spec_l2Box_R l2Box1) (spec_l2Box_O l2Box1) }), (8, { d := some false }), (12, { a := .row (eRead read) }), (17, { d := some false }), (21, { a := .row (eRead read) }), (26, { d := some false }), (30, { v := some (vsl 2 eRead ((r_.Reads.drop 0).take (i.toNat - 0))) }), (34, { a := .row (eRead read) }), (37, { a := .call [.val [some 2] [], .val [] []] false (spec_l3Saw_R l3Saw) (spec_l3Saw_O l3Saw) }), (38, { d := some false })], []] [] [1, 3] [(1, 0)] [decide (i < (r_.Reads.length : Int)) = true, (0 : Int) ≤ i, i < ((r_.Reads.length : Nat) : Int), (r_.Reads.map eRead)[i.toNat]? = some (eRead read), ACalls cx.P 63 [vi read.Box] (spec_l2Box_R l2Box1) (spec_l2Box_O l2Box1), (!l2Box1) = false, (0 : Int) ≤ i, i < ((r_.Reads.length : Nat) : Int), (r_.Reads.map eRead)[i.toNat]? = some (eRead read), decide (read.Ver < 0) = false, (0 : Int) ≤ i, i < ((r_.Reads.length : Nat) : Int), (r_.Reads.map eRead)[i.toNat]? = some (eRead read), decide (read.Ver > 1000000) = false, V.sl 2 (i.toNat - 0) (((r_.Reads.map eRead).drop 0).take (i.toNat - 0)) = vsl 2 eRead ((r_.Reads.drop 0).take (i.toNat - 0)), (0 : Int) ≤ i, i ≤ ((r_.Reads.length : Nat) : Int), (0 : Int) ≤ i, i < ((r_.Reads.length : Nat) : Int), (r_.Reads.map eRead)[i.toNat]? = some (eRead read), ACalls cx.P 31 [vsl 2 eRead ((r_.Reads.drop 0).take (i.toNat - 0)), vi read.Box] (spec_l3Saw_R l3Saw) (spec_l3Saw_O l3Saw), l3Saw = false] (.cons e6 (.cons (idx0 hread) (.cons (idx1 hread) (.cons (map_idx hread) (.cons (spec_l2Box_ok read.Box l2Box1 hl2Box1) (.cons e7 (.cons (idx0 hread) (.cons (idx1 hread) (.cons (map_idx hread) (.cons e8 (.cons (idx0 hread) (.cons (idx1 hread) (.cons (map_idx hread) (.cons e9 (.cons (sl_h e10) (.cons e10.1 (.cons e10.2 (.cons (idx0 hread) (.cons (idx1 hread) (.cons (map_idx hread) (.cons (spec_l3Saw_ok ((r_.Reads.drop 0).take (i.toNat - 0)) read.Box l3Saw hl3Saw) (.cons e11 .nil)))))))))))))))))))))) hI (by kernel_rfl)))))))))))))))) (fun e6 h =>
 (brkD h hc1 fun e => (Fin.seg [[(4, { d := some false })]] [] [1] [(1, 0)] [decide (i < (r_.Reads.length : Int)) = false] (.cons e6 .nil) (hb1 _ e) (by kernel_rfl)))))
theorem spec_ExecOk_b2_loop (r_ : TRun) (res : V) (outs : List (Option V)) (x1 : Exc Bool Unit) (hb1 : ∀ s : Unit, x1 = .brk s → Fin cx spec_ExecOk_X res outs spec_ExecOk_k2 (spec_ExecOk_S2 r_)) (hr1 : ∀ v : Bool, x1 = .ret v → (res = spec_ExecOk_R v ∧ outs = spec_ExecOk_O v)) (s : Int) (h : loop (fun s : Int => spec_ExecOk_b2 r_ s) s = some x1) : Fin cx spec_ExecOk_X res outs spec_ExecOk_k7 (spec_ExecOk_S5 r_ s) :=
  loopD (I := fun s : Int => Fin cx spec_ExecOk_X res outs spec_ExecOk_k7 (spec_ExecOk_S5 r_ s)) h fun s st h hc => spec_ExecOk_b2_ok r_ res outs x1 hb1 hr1 st hc s h
noncomputable def spec_ExecOk_j1 (r_ : TRun) : Option Bool :=
  ((loop (fun s : Int => spec_ExecOk_b2 r_ s) 0).bind fun x => x.go (fun r => some r) fun s => spec_ExecOk_k6 r_)
theorem spec_ExecOk_j1_ok (r_ : TRun) (r : Bool) (h : spec_ExecOk_j1 r_ = some r) : Fin cx spec_ExecOk_X (spec_ExecOk_R r) (spec_ExecOk_O r) spec_ExecOk_k1 (spec_ExecOk_S1 r_) :=
  (loopJ h fun x hl hr hb => (Fin.seg [[]] [] [1, 3] [(1, 0)] [] .nil (spec_ExecOk_b2_loop r_ _ _ x (fun s e => spec_ExecOk_k6_ok r_ r (hb s e)) (fun v e => ⟨congrArg spec_ExecOk_R (Option.some.inj (hr v e)).symm, congrArg spec_ExecOk_O (Option.some.inj (hr v e)).symm⟩) 0 hl) (by kernel_rfl)))
noncomputable def spec_ExecOk (r_ : TRun) : Option Bool :=
  (((bif decide (r_.Code < 0) then
 some (Exc.ret false)
 else
 (bif decide (r_.Code > 3) then
 some (Exc.ret false)
 else
 ((spec_l1Num r_.Val).bind fun l1Num1 =>
 (bif (!l1Num1) then
 some (Exc.ret false)
 else
 (bif (r_.Code != 0) then
 (bif (r_.Val != 0) then
 some (Exc.ret false)
 else
 (bif decide ((r_.Puts.length : Int) > 0) then
 some (Exc.ret false)
 else
 (bif (r_.Code == 3) then
 (bif decide ((r_.Reads.length : Int) > 0) then
 some (Exc.ret false)
 else
 some (Exc.brk ()))
 else
 some (Exc.brk ()))))
 else
 (bif (r_.Code == 3) then
 (bif decide ((r_.Reads.length : Int) > 0) then
 some (Exc.ret false)
 else
 some (Exc.brk ()))
 else
 some (Exc.brk ()))))))) : Option (Exc Bool Unit)).bind fun x => x.go some fun j => spec_ExecOk_j1 r_)
theorem spec_ExecOk_fin (r_ : TRun) (r : Bool) (h : spec_ExecOk r_ = some r) : Fin cx spec_ExecOk_X (spec_ExecOk_R r) (spec_ExecOk_O r) [.code spec_ExecOk_c] (startS spec_ExecOk_X [.agg (eRun r_)]) :=
  (joinD (I := fun j : Unit => Fin cx spec_ExecOk_X (spec_ExecOk_R r) (spec_ExecOk_O r) spec_ExecOk_k1 (spec_ExecOk_S1 r_)) h (fun j h => spec_ExecOk_j1_ok r_ r h) (fun x1 h hc1 =>
  (condD h (fun e12 h =>
 (jretD h hc1 fun h => (someD h fun e => (Fin.fin (cx := cx) (X := spec_ExecOk_X) (res := spec_ExecOk_R false) (outs := spec_ExecOk_O false) Try.func54 [[], [(3, { d := some true })], []] [decide (r_.Code < 0) = true] (.cons e12 .nil) (by kernel_rfl)).is (congrArg spec_ExecOk_R e) (congrArg spec_ExecOk_O e)))) (fun e12 h =>
 (condD h (fun e13 h =>
 (jretD h hc1 fun h => (someD h fun e => (Fin.fin (cx := cx) (X := spec_ExecOk_X) (res := spec_ExecOk_R false) (outs := spec_ExecOk_O false) Try.func54 [[], [(3, { d := some false }), (8, { d := some true })], []] [decide (r_.Code < 0) = false, decide (r_.Code > 3) = true] (.cons e12 (.cons e13 .nil)) (by kernel_rfl)).is (congrArg spec_ExecOk_R e) (congrArg spec_ExecOk_O e)))) (fun e13 h =>
 (bindD h fun l1Num1 hl1Num1 h =>
 (condD h (fun e14 h =>
 (jretD h hc1 fun h => (someD h fun e => (Fin.fin (cx := cx) (X := spec_ExecOk_X) (res := spec_ExecOk_R false) (outs := spec_ExecOk_O false) Try.func54 [[], [(3, { d := some false }), (8, { d := some false }), (11, { a := .call [.val [] []] false (spec_l1Num_R l1Num1) (spec_l1Num_O l1Num1) }), (14, { d := some true })], []] [decide (r_.Code < 0) = false, decide (r_.Code > 3) = false, ACalls cx.P 55 [vi r_.Val] (spec_l1Num_R l1Num1) (spec_l1Num_O l1Num1), (!l1Num1) = true] (.cons e12 (.cons e13 (.cons (spec_l1Num_ok r_.Val l1Num1 hl1Num1) (.cons e14 .nil)))) (by kernel_rfl)).is (congrArg spec_ExecOk_R e) (congrArg spec_ExecOk_O e)))) (fun e14 h =>
 (condD h (fun e15 h =>
 (condD h (fun e16 h =>
 (jretD h hc1 fun h => (someD h fun e => (Fin.fin (cx := cx) (X := spec_ExecOk_X) (res := spec_ExecOk_R false) (outs := spec_ExecOk_O false) Try.func54 [[], [(3, { d := some false }), (8, { d := some false }), (11, { a := .call [.val [] []] false (spec_l1Num_R l1Num1) (spec_l1Num_O l1Num1) }), (14, { d := some false }), (18, { d := some true }), (22, { d := some true })], []] [decide (r_.Code < 0) = false, decide (r_.Code > 3) = false, ACalls cx.P 55 [vi r_.Val] (spec_l1Num_R l1Num1) (spec_l1Num_O l1Num1), (!l1Num1) = false, (r_.Code != 0) = true, (r_.Val != 0) = true] (.cons e12 (.cons e13 (.cons (spec_l1Num_ok r_.Val l1Num1 hl1Num1) (.cons e14 (.cons e15 (.cons e16 .nil)))))) (by kernel_rfl)).is (congrArg spec_ExecOk_R e) (congrArg spec_ExecOk_O e)))) (fun e16 h =>
 (condD h (fun e17 h =>
 (jretD h hc1 fun h => (someD h fun e => (Fin.fin (cx := cx) (X := spec_ExecOk_X) (res := spec_ExecOk_R false) (outs := spec_ExecOk_O false) Try.func54 [[], [(3, { d := some false }), (8, { d := some false }), (11, { a := .call [.val [] []] false (spec_l1Num_R l1Num1) (spec_l1Num_O l1Num1) }), (14, { d := some false }), (18, { d := some true }), (22, { d := some false }), (30, { d := some true })], []] [decide (r_.Code < 0) = false, decide (r_.Code > 3) = false, ACalls cx.P 55 [vi r_.Val] (spec_l1Num_R l1Num1) (spec_l1Num_O l1Num1), (!l1Num1) = false, (r_.Code != 0) = true, (r_.Val != 0) = false, decide ((r_.Puts.length : Int) > 0) = true] (.cons e12 (.cons e13 (.cons (spec_l1Num_ok r_.Val l1Num1 hl1Num1) (.cons e14 (.cons e15 (.cons e16 (.cons e17 .nil))))))) (by kernel_rfl)).is (congrArg spec_ExecOk_R e) (congrArg spec_ExecOk_O e)))) (fun e17 h =>
 (condD h (fun e18 h =>
 (condD h (fun e19 h =>
 (jretD h hc1 fun h => (someD h fun e => (Fin.fin (cx := cx) (X := spec_ExecOk_X) (res := spec_ExecOk_R false) (outs := spec_ExecOk_O false) Try.func54 [[], [(3, { d := some false }), (8, { d := some false }), (11, { a := .call [.val [] []] false (spec_l1Num_R l1Num1) (spec_l1Num_O l1Num1) }), (14, { d := some false }), (18, { d := some true }), (22, { d := some false }), (30, { d := some false }), (34, { d := some true }), (40, { d := some true })], []] [decide (r_.Code < 0) = false, decide (r_.Code > 3) = false, ACalls cx.P 55 [vi r_.Val] (spec_l1Num_R l1Num1) (spec_l1Num_O l1Num1), (!l1Num1) = false, (r_.Code != 0) = true, (r_.Val != 0) = false, decide ((r_.Puts.length : Int) > 0) = false, (r_.Code == 3) = true, decide ((r_.Reads.length : Int) > 0) = true] (.cons e12 (.cons e13 (.cons (spec_l1Num_ok r_.Val l1Num1 hl1Num1) (.cons e14 (.cons e15 (.cons e16 (.cons e17 (.cons e18 (.cons e19 .nil))))))))) (by kernel_rfl)).is (congrArg spec_ExecOk_R e) (congrArg spec_ExecOk_O e)))) (fun e19 h =>
 (jbrkD h hc1 fun hI => (Fin.seg [[], [(3, { d := some false }), (8, { d := some false }), (11, { a := .call [.val [] []] false (spec_l1Num_R l1Num1) (spec_l1Num_O l1Num1) }), (14, { d := some false }), (18, { d := some true }), (22, { d := some false }), (30, { d := some false }), (34, { d := some true }), (40, { d := some false })]] [] [1] [(1, 0)] [decide (r_.Code < 0) = false, decide (r_.Code > 3) = false, ACalls cx.P 55 [vi r_.Val] (spec_l1Num_R l1Num1) (spec_l1Num_O l1Num1), (!l1Num1) = false, (r_.Code != 0) = true, (r_.Val != 0) = false, decide ((r_.Puts.length : Int) > 0) = false, (r_.Code == 3) = true, decide ((r_.Reads.length : Int) > 0) = false] (.cons e12 (.cons e13 (.cons (spec_l1Num_ok r_.Val l1Num1 hl1Num1) (.cons e14 (.cons e15 (.cons e16 (.cons e17 (.cons e18 (.cons e19 .nil))))))))) hI (by kernel_rfl)))))) (fun e18 h =>
 (jbrkD h hc1 fun hI => (Fin.seg [[], [(3, { d := some false }), (8, { d := some false }), (11, { a := .call [.val [] []] false (spec_l1Num_R l1Num1) (spec_l1Num_O l1Num1) }), (14, { d := some false }), (18, { d := some true }), (22, { d := some false }), (30, { d := some false }), (34, { d := some false })]] [] [1] [(1, 0)] [decide (r_.Code < 0) = false, decide (r_.Code > 3) = false, ACalls cx.P 55 [vi r_.Val] (spec_l1Num_R l1Num1) (spec_l1Num_O l1Num1), (!l1Num1) = false, (r_.Code != 0) = true, (r_.Val != 0) = false, decide ((r_.Puts.length : Int) > 0) = false, (r_.Code == 3) = false] (.cons e12 (.cons e13 (.cons (spec_l1Num_ok r_.Val l1Num1 hl1Num1) (.cons e14 (.cons e15 (.cons e16 (.cons e17 (.cons e18 .nil)))))))) hI (by kernel_rfl)))))))))) (fun e15 h =>
 (condD h (fun e20 h =>
 (condD h (fun e21 h =>
 (jretD h hc1 fun h => (someD h fun e => (Fin.fin (cx := cx) (X := spec_ExecOk_X) (res := spec_ExecOk_R false) (outs := spec_ExecOk_O false) Try.func54 [[], [(3, { d := some false }), (8, { d := some false }), (11, { a := .call [.val [] []] false (spec_l1Num_R l1Num1) (spec_l1Num_O l1Num1) }), (14, { d := some false }), (18, { d := some false }), (34, { d := some true }), (40, { d := some true })], []] [decide (r_.Code < 0) = false, decide (r_.Code > 3) = false, ACalls cx.P 55 [vi r_.Val] (spec_l1Num_R l1Num1) (spec_l1Num_O l1Num1), (!l1Num1) = false, (r_.Code != 0) = false, (r_.Code == 3) = true, decide ((r_.Reads.length : Int) > 0) = true] (.cons e12 (.cons e13 (.cons (spec_l1Num_ok r_.Val l1Num1 hl1Num1) (.cons e14 (.cons e15 (.cons e20 (.cons e21 .nil))))))) (by kernel_rfl)).is (congrArg spec_ExecOk_R e) (congrArg spec_ExecOk_O e)))) (fun e21 h =>
 (jbrkD h hc1 fun hI => (Fin.seg [[], [(3, { d := some false }), (8, { d := some false }), (11, { a := .call [.val [] []] false (spec_l1Num_R l1Num1) (spec_l1Num_O l1Num1) }), (14, { d := some false }), (18, { d := some false }), (34, { d := some true }), (40, { d := some false })]] [] [1] [(1, 0)] [decide (r_.Code < 0) = false, decide (r_.Code > 3) = false, ACalls cx.P 55 [vi r_.Val] (spec_l1Num_R l1Num1) (spec_l1Num_O l1Num1), (!l1Num1) = false, (r_.Code != 0) = false, (r_.Code == 3) = true, decide ((r_.Reads.length : Int) > 0) = false] (.cons e12 (.cons e13 (.cons (spec_l1Num_ok r_.Val l1Num1 hl1Num1) (.cons e14 (.cons e15 (.cons e20 (.cons e21 .nil))))))) hI (by kernel_rfl)))))) (fun e20 h =>
 (jbrkD h hc1 fun hI => (Fin.seg [[], [(3, { d := some false }), (8, { d := some false }), (11, { a := .call [.val [] []] false (spec_l1Num_R l1Num1) (spec_l1Num_O l1Num1) }), (14, { d := some false }), (18, { d := some false }), (34, { d := some false })]] [] [1] [(1, 0)] [decide (r_.Code < 0) = false, decide (r_.Code > 3) = false, ACalls cx.P 55 [vi r_.Val] (spec_l1Num_R l1Num1) (spec_l1Num_O l1Num1), (!l1Num1) = false, (r_.Code != 0) = false, (r_.Code == 3) = false] (.cons e12 (.cons e13 (.cons (spec_l1Num_ok r_.Val l1Num1 hl1Num1) (.cons e14 (.cons e15 (.cons e20 .nil)))))) hI (by kernel_rfl))))))))))))))))
theorem spec_ExecOk_ok (r_ : TRun) (r : Bool) (h : spec_ExecOk r_ = some r) : ACalls cx.P 54 [.agg (eRun r_)] (spec_ExecOk_R r) (spec_ExecOk_O r) :=
  ACalls.of (cx := cx) (X := spec_ExecOk_X) (c := spec_ExecOk_c) Try.func54 (by kernel_rfl) (by kernel_rfl) (by kernel_rfl) (spec_ExecOk_fin r_ r h)

/-! ### spec_CertEntry -/
noncomputable def spec_CertEntry_c : Code := bodyOf Try.f29
noncomputable def spec_CertEntry_X : Sig := { f := 29, fn := Try.f29, rms := [.val [] []], oms := [none] }
noncomputable def spec_CertEntry_R (r : Bool) : V := .b r
noncomputable def spec_CertEntry_O (r : Bool) : List (Option V) := [none]
noncomputable def spec_CertEntry (e_ : TEntry) : Option Bool :=
  (bif e_.None then
 (bif (([e_.Req.Who, e_.Req.Seq] : List Int) == [0, 0]) then
 ((spec_ExecSame e_.Run (TRun.mk [] [] 0 0)).bind fun execSame =>
 some execSame)
 else
 some false)
 else
 ((spec_l5Req e_.Req).bind fun l5Req =>
 (bif l5Req then
 ((spec_ExecOk e_.Run).bind fun execOk =>
 (bif execOk then
 some (e_.Run.Code != 3)
 else
 some false))
 else
 some false)))
theorem spec_CertEntry_fin (e_ : TEntry) (r : Bool) (h : spec_CertEntry e_ = some r) : Fin cx spec_CertEntry_X (spec_CertEntry_R r) (spec_CertEntry_O r) [.code spec_CertEntry_c] (startS spec_CertEntry_X [.agg (eEntry e_)]) :=
  (condD h (fun e1 h =>
 (condD h (fun e2 h =>
 (bindD h fun execSame hexecSame h =>
 (someD h fun e => (Fin.fin (cx := cx) (X := spec_CertEntry_X) (res := spec_CertEntry_R execSame) (outs := spec_CertEntry_O execSame) Try.func29 [[], [(1, { d := some true })], [(4, { d := some true }), (8, { a := .call [.val [some 2, some 2, none, none] [], .val [some 2, some 2, none, none] []] false (spec_ExecSame_R execSame) (spec_ExecSame_O execSame) })]] [e_.None = true, (([e_.Req.Who, e_.Req.Seq] : List Int) == [0, 0]) = true, ACalls cx.P 52 [.agg (eRun e_.Run), .agg (eRun (TRun.mk [] [] 0 0))] (spec_ExecSame_R execSame) (spec_ExecSame_O execSame)] (.cons e1 (.cons e2 (.cons (spec_ExecSame_ok e_.Run (TRun.mk [] [] 0 0) execSame hexecSame) .nil))) (by kernel_rfl)).is (congrArg spec_CertEntry_R e) (congrArg spec_CertEntry_O e)))) (fun e2 h =>
 (someD h fun e => (Fin.fin (cx := cx) (X := spec_CertEntry_X) (res := spec_CertEntry_R false) (outs := spec_CertEntry_O false) Try.func29 [[], [(1, { d := some true })], [(4, { d := some false })]] [e_.None = true, (([e_.Req.Who, e_.Req.Seq] : List Int) == [0, 0]) = false] (.cons e1 (.cons e2 .nil)) (by kernel_rfl)).is (congrArg spec_CertEntry_R e) (congrArg spec_CertEntry_O e))))) (fun e1 h =>
 (bindD h fun l5Req hl5Req h =>
 (condD h (fun e3 h =>
 (bindD h fun execOk hexecOk h =>
 (condD h (fun e4 h =>
 (someD h fun e => (Fin.fin (cx := cx) (X := spec_CertEntry_X) (res := spec_CertEntry_R (e_.Run.Code != 3)) (outs := spec_CertEntry_O (e_.Run.Code != 3)) Try.func29 [[], [(1, { d := some false })], [(2, { a := .call [.val [] []] false (spec_l5Req_R l5Req) (spec_l5Req_O l5Req) }), (3, { d := some true }), (6, { a := .call [.val [some 2, some 2, none, none] []] false (spec_ExecOk_R execOk) (spec_ExecOk_O execOk) }), (8, { d := some true })]] [e_.None = false, ACalls cx.P 53 [.agg (eReq e_.Req)] (spec_l5Req_R l5Req) (spec_l5Req_O l5Req), l5Req = true, ACalls cx.P 54 [.agg (eRun e_.Run)] (spec_ExecOk_R execOk) (spec_ExecOk_O execOk), execOk = true] (.cons e1 (.cons (spec_l5Req_ok e_.Req l5Req hl5Req) (.cons e3 (.cons (spec_ExecOk_ok e_.Run execOk hexecOk) (.cons e4 .nil))))) (by kernel_rfl)).is (congrArg spec_CertEntry_R e) (congrArg spec_CertEntry_O e))) (fun e4 h =>
 (someD h fun e => (Fin.fin (cx := cx) (X := spec_CertEntry_X) (res := spec_CertEntry_R false) (outs := spec_CertEntry_O false) Try.func29 [[], [(1, { d := some false })], [(2, { a := .call [.val [] []] false (spec_l5Req_R l5Req) (spec_l5Req_O l5Req) }), (3, { d := some true }), (6, { a := .call [.val [some 2, some 2, none, none] []] false (spec_ExecOk_R execOk) (spec_ExecOk_O execOk) }), (8, { d := some false })]] [e_.None = false, ACalls cx.P 53 [.agg (eReq e_.Req)] (spec_l5Req_R l5Req) (spec_l5Req_O l5Req), l5Req = true, ACalls cx.P 54 [.agg (eRun e_.Run)] (spec_ExecOk_R execOk) (spec_ExecOk_O execOk), execOk = false] (.cons e1 (.cons (spec_l5Req_ok e_.Req l5Req hl5Req) (.cons e3 (.cons (spec_ExecOk_ok e_.Run execOk hexecOk) (.cons e4 .nil))))) (by kernel_rfl)).is (congrArg spec_CertEntry_R e) (congrArg spec_CertEntry_O e)))))) (fun e3 h =>
 (someD h fun e => (Fin.fin (cx := cx) (X := spec_CertEntry_X) (res := spec_CertEntry_R false) (outs := spec_CertEntry_O false) Try.func29 [[], [(1, { d := some false })], [(2, { a := .call [.val [] []] false (spec_l5Req_R l5Req) (spec_l5Req_O l5Req) }), (3, { d := some false })]] [e_.None = false, ACalls cx.P 53 [.agg (eReq e_.Req)] (spec_l5Req_R l5Req) (spec_l5Req_O l5Req), l5Req = false] (.cons e1 (.cons (spec_l5Req_ok e_.Req l5Req hl5Req) (.cons e3 .nil))) (by kernel_rfl)).is (congrArg spec_CertEntry_R e) (congrArg spec_CertEntry_O e)))))))
theorem spec_CertEntry_ok (e_ : TEntry) (r : Bool) (h : spec_CertEntry e_ = some r) : ACalls cx.P 29 [.agg (eEntry e_)] (spec_CertEntry_R r) (spec_CertEntry_O r) :=
  ACalls.of (cx := cx) (X := spec_CertEntry_X) (c := spec_CertEntry_c) Try.func29 (by kernel_rfl) (by kernel_rfl) (by kernel_rfl) (spec_CertEntry_fin e_ r h)

/-! ### spec_l5Last -/
noncomputable def spec_l5Last_c : Code := bodyOf Try.f39
noncomputable def spec_l5Last_X : Sig := { f := 39, fn := Try.f39, rms := [.val [] [], .val [] []], oms := [none, none] }
noncomputable def spec_l5Last_R (r : TDone × Bool) : V := .tup [.agg (eDone r.1), .b r.2]
noncomputable def spec_l5Last_O (r : TDone × Bool) : List (Option V) := [none, none]
noncomputable def spec_l5Last_k1 : List Item := posI 2000 3 [false] [.code spec_l5Last_c]
noncomputable def spec_l5Last_S1 : St := ⟨(bs 4 (.ptr 1 0 0 :: (bs 24 []))), [some [], some [.var 80 [vi 0, vi 0, vi 0, vi 0]]]⟩
noncomputable def spec_l5Last_k2 : Option (TDone × Bool) :=
  some ((TDone.mk (TReq.mk 0 0) 0 0), false)
theorem spec_l5Last_k2_ok (r : TDone × Bool) (h : spec_l5Last_k2 = some r) : Fin cx spec_l5Last_X (spec_l5Last_R r) (spec_l5Last_O r) spec_l5Last_k1 (spec_l5Last_S1) :=
  (someD h fun e => (Fin.fin (cx := cx) (X := spec_l5Last_X) (res := spec_l5Last_R ((TDone.mk (TReq.mk 0 0) 0 0), false)) (outs := spec_l5Last_O ((TDone.mk (TReq.mk 0 0) 0 0), false)) Try.func39 [[]] [] .nil (by kernel_rfl)).is (congrArg spec_l5Last_R e) (congrArg spec_l5Last_O e))
noncomputable def spec_l5Last_k3 : List Item := posI 2000 2 [] [.code spec_l5Last_c]
noncomputable def spec_l5Last_S2 (s_ : TState) (who : Int) (i : Int) : St := ⟨(bs 1 (vi who :: (.ptr 1 0 0 :: (bs 1 (.ptr 2 0 0 :: (bs 1 (vi i :: (bs 22 [])))))))), [some [], some [.var 49 [vi s_.At, vsl 2 eBox s_.Boxes, vsl 4 eDone s_.Dones]], some [.var 80 [vi 0, vi 0, vi 0, vi 0]]]⟩
noncomputable def spec_l5Last_b1 (s_ : TState) (who : Int) (i : Int) : Option (Stp (TDone × Bool) Int Unit) :=
  (bif decide (i < (s_.Dones.length : Int)) then
 ((idx s_.Dones i).bind fun done =>
 (bif (done.Req.Who == who) then
 some (Stp.ret (done, true))
 else
 some (Stp.nxt (w64 (i + 1)))))
 else
 some (Stp.brk ()))
theorem spec_l5Last_b1_ok (s_ : TState) (who : Int) (res : V) (outs : List (Option V)) (x1 : Exc (TDone × Bool) Unit) (hb1 : ∀ s : Unit, x1 = .brk s → Fin cx spec_l5Last_X res outs spec_l5Last_k1 (spec_l5Last_S1)) (hr1 : ∀ v : TDone × Bool, x1 = .ret v → (res = spec_l5Last_R v ∧ outs = spec_l5Last_O v)) (st1 : Stp (TDone × Bool) Int Unit) (hc1 : Cont x1 (fun s : Int => Fin cx spec_l5Last_X res outs spec_l5Last_k3 (spec_l5Last_S2 s_ who s)) st1) (i : Int) (h : spec_l5Last_b1 s_ who i = some st1) : Fin cx spec_l5Last_X res outs spec_l5Last_k3 (spec_l5Last_S2 s_ who i) :=
  (condD h (fun e1 h =>
 (bindD h fun done hdone h =>
 (condD h (fun e2 h =>
 (retD h hc1 fun e => (Fin.fin (cx := cx) (X := spec_l5Last_X) (res := spec_l5Last_R (done, true)) (outs := spec_l5Last_O (done, true)) Try.func39 [[(4, { d := some true })], [(3, { a := .row (eDone done) }), (8, { d := some true })], [(3, { a := .row (eDone done) })]] [decide (i < (s_.Dones.length : Int)) = true, (0 : Int) ≤ i, i < ((s_.Dones.length : Nat) : Int), (s_.Dones.map eDone)[i.toNat]? = some (eDone done), (done.Req.Who == who) = true, (0 : Int) ≤ i, i < ((s_.Dones.length : Nat) : Int), (s_.Dones.map eDone)[i.toNat]? = some (eDone done)] (.cons e1 (.cons (idx0 hdone) (.cons (idx1 hdone) (.cons (map_idx hdone) (.cons e2 (.cons (idx0 hdone) (.cons (idx1 hdone) (.cons (map_idx hdone) .nil)))))))) (by kernel_rfl)).is (hr1 _ e).1 (hr1 _ e).2)) (fun e2 h =>
 (nxtD h hc1 fun hI => (Fin.seg [[(4, { d := some true })], [(3, { a := .row (eDone done) }), (8, { d := some false })], []] [] [1, 2, 4, 6] [(1, 0), (2, 0)] [decide (i < (s_.Dones.length : Int)) = true, (0 : Int) ≤ i, i < ((s_.Dones.length : Nat) : Int), (s_.Dones.map eDone)[i.toNat]? = some (eDone done), (done.Req.Who == who) = false] (.cons e1 (.cons (idx0 hdone) (.cons (idx1 hdone) (.cons (map_idx hdone) (.cons e2 .nil))))) hI (by kernel_rfl))))))) (fun e1 h =>
 (brkD h hc1 fun e => (Fin.seg [[(4, { d := some false })]] [] [4] [(2, 0)] [decide (i < (s_.Dones.length : Int)) = false] (.cons e1 .nil) (hb1 _ e) (by kernel_rfl)))))
theorem spec_l5Last_b1_loop (s_ : TState) (who : Int) (res : V) (outs : List (Option V)) (x1 : Exc (TDone × Bool) Unit) (hb1 : ∀ s : Unit, x1 = .brk s → Fin cx spec_l5Last_X res outs spec_l5Last_k1 (spec_l5Last_S1)) (hr1 : ∀ v : TDone × Bool, x1 = .ret v → (res = spec_l5Last_R v ∧ outs = spec_l5Last_O v)) (s : Int) (h : loop (fun s : Int => spec_l5Last_b1 s_ who s) s = some x1) : Fin cx spec_l5Last_X res outs spec_l5Last_k3 (spec_l5Last_S2 s_ who s) :=
  loopD (I := fun s : Int => Fin cx spec_l5Last_X res outs spec_l5Last_k3 (spec_l5Last_S2 s_ who s)) h fun s st h hc => spec_l5Last_b1_ok s_ who res outs x1 hb1 hr1 st hc s h
noncomputable def spec_l5Last (s_ : TState) (who : Int) : Option (TDone × Bool) :=
  ((loop (fun s : Int => spec_l5Last_b1 s_ who s) 0).bind fun x => x.go (fun r => some r) fun s => spec_l5Last_k2)
theorem spec_l5Last_fin (s_ : TState) (who : Int) (r : TDone × Bool) (h : spec_l5Last s_ who = some r) : Fin cx spec_l5Last_X (spec_l5Last_R r) (spec_l5Last_O r) [.code spec_l5Last_c] (startS spec_l5Last_X [.agg (eState s_), vi who]) :=
  (loopJ h fun x hl hr hb => (Fin.seg [[], []] [] [1, 2, 4, 6] [(1, 0), (2, 0)] [] .nil (spec_l5Last_b1_loop s_ who _ _ x (fun s e => spec_l5Last_k2_ok r (hb s e)) (fun v e => ⟨congrArg spec_l5Last_R (Option.some.inj (hr v e)).symm, congrArg spec_l5Last_O (Option.some.inj (hr v e)).symm⟩) 0 hl) (by kernel_rfl)))
theorem spec_l5Last_ok (s_ : TState) (who : Int) (r : TDone × Bool) (h : spec_l5Last s_ who = some r) : ACalls cx.P 39 [.agg (eState s_), vi who] (spec_l5Last_R r) (spec_l5Last_O r) :=
  ACalls.of (cx := cx) (X := spec_l5Last_X) (c := spec_l5Last_c) Try.func39 (by kernel_rfl) (by kernel_rfl) (by kernel_rfl) (spec_l5Last_fin s_ who r h)

/-! ### spec_ExecFresh -/
noncomputable def spec_ExecFresh_c : Code := bodyOf Try.f40
noncomputable def spec_ExecFresh_X : Sig := { f := 40, fn := Try.f40, rms := [.val [] []], oms := [none, none] }
noncomputable def spec_ExecFresh_R (r : Bool) : V := .b r
noncomputable def spec_ExecFresh_O (r : Bool) : List (Option V) := [none, none]
noncomputable def spec_ExecFresh_k1 : List Item := posI 2000 4 [false, false] [.code spec_ExecFresh_c]
noncomputable def spec_ExecFresh_S1 : St := ⟨(bs 38 []), [some []]⟩
noncomputable def spec_ExecFresh_k2 : Option Bool :=
  some true
theorem spec_ExecFresh_k2_ok (r : Bool) (h : spec_ExecFresh_k2 = some r) : Fin cx spec_ExecFresh_X (spec_ExecFresh_R r) (spec_ExecFresh_O r) spec_ExecFresh_k1 (spec_ExecFresh_S1) :=
  (someD h fun e => (Fin.fin (cx := cx) (X := spec_ExecFresh_X) (res := spec_ExecFresh_R true) (outs := spec_ExecFresh_O true) Try.func40 [[]] [] .nil (by kernel_rfl)).is (congrArg spec_ExecFresh_R e) (congrArg spec_ExecFresh_O e))
noncomputable def spec_ExecFresh_k3 : List Item := posI 2000 3 [false] [.code spec_ExecFresh_c]
noncomputable def spec_ExecFresh_S2 (list : List TBox) (r_ : TRun) (i : Int) : St := ⟨(vsl 2 eBox list :: (bs 2 (.ptr 1 0 0 :: (bs 1 (vi i :: (bs 32 [])))))), [some [], some [.var 34 [vsl 2 eRead r_.Reads, vsl 2 ePut r_.Puts, vi r_.Val, vi r_.Code]]]⟩
noncomputable def spec_ExecFresh_b1 (list : List TBox) (r_ : TRun) (i : Int) : Option (Stp Bool Int Unit) :=
  (bif decide (i < (r_.Reads.length : Int)) then
 ((idx r_.Reads i).bind fun read =>
 ((idx list read.Box).bind fun box =>
 (bif (box.Ver != read.Ver) then
 some (Stp.ret false)
 else
 some (Stp.nxt (w64 (i + 1))))))
 else
 some (Stp.brk ()))
theorem spec_ExecFresh_b1_ok (list : List TBox) (r_ : TRun) (res : V) (outs : List (Option V)) (x1 : Exc Bool Unit) (hb1 : ∀ s : Unit, x1 = .brk s → Fin cx spec_ExecFresh_X res outs spec_ExecFresh_k1 (spec_ExecFresh_S1)) (hr1 : ∀ v : Bool, x1 = .ret v → (res = spec_ExecFresh_R v ∧ outs = spec_ExecFresh_O v)) (st1 : Stp Bool Int Unit) (hc1 : Cont x1 (fun s : Int => Fin cx spec_ExecFresh_X res outs spec_ExecFresh_k3 (spec_ExecFresh_S2 list r_ s)) st1) (i : Int) (h : spec_ExecFresh_b1 list r_ i = some st1) : Fin cx spec_ExecFresh_X res outs spec_ExecFresh_k3 (spec_ExecFresh_S2 list r_ i) :=
  (condD h (fun e3 h =>
 (bindD h fun read hread h =>
 (bindD h fun box hbox h =>
 (condD h (fun e4 h =>
 (retD h hc1 fun e => (Fin.fin (cx := cx) (X := spec_ExecFresh_X) (res := spec_ExecFresh_R false) (outs := spec_ExecFresh_O false) Try.func40 [[(4, { d := some true })], [(4, { a := .row (eRead read) }), (7, { a := .row (eBox box) }), (13, { a := .row (eRead read) }), (16, { d := some true })], []] [decide (i < (r_.Reads.length : Int)) = true, (0 : Int) ≤ i, i < ((r_.Reads.length : Nat) : Int), (r_.Reads.map eRead)[i.toNat]? = some (eRead read), (0 : Int) ≤ read.Box, read.Box < ((list.length : Nat) : Int), (list.map eBox)[read.Box.toNat]? = some (eBox box), (0 : Int) ≤ i, i < ((r_.Reads.length : Nat) : Int), (r_.Reads.map eRead)[i.toNat]? = some (eRead read), (box.Ver != read.Ver) = true] (.cons e3 (.cons (idx0 hread) (.cons (idx1 hread) (.cons (map_idx hread) (.cons (idx0 hbox) (.cons (idx1 hbox) (.cons (map_idx hbox) (.cons (idx0 hread) (.cons (idx1 hread) (.cons (map_idx hread) (.cons e4 .nil))))))))))) (by kernel_rfl)).is (hr1 _ e).1 (hr1 _ e).2)) (fun e4 h =>
 (nxtD h hc1 fun hI => (Fin.seg [[(4, { d := some true })], [(4, { a := .row (eRead read) }), (7, { a := .row (eBox box) }), (13, { a := .row (eRead read) }), (16, { d := some false })], []] [] [0, 3, 5] [(1, 0)] [decide (i < (r_.Reads.length : Int)) = true, (0 : Int) ≤ i, i < ((r_.Reads.length : Nat) : Int), (r_.Reads.map eRead)[i.toNat]? = some (eRead read), (0 : Int) ≤ read.Box, read.Box < ((list.length : Nat) : Int), (list.map eBox)[read.Box.toNat]? = some (eBox box), (0 : Int) ≤ i, i < ((r_.Reads.length : Nat) : Int), (r_.Reads.map eRead)[i.toNat]? = some (eRead read), (box.Ver != read.Ver) = false] (.cons e3 (.cons (idx0 hread) (.cons (idx1 hread) (.cons (map_idx hread) (.cons (idx0 hbox) (.cons (idx1 hbox) (.cons (map_idx hbox) (.cons (idx0 hread) (.cons (idx1 hread) (.cons (map_idx hread) (.cons e4 .nil))))))))))) hI (by kernel_rfl)))))))) (fun e3 h =>
 (brkD h hc1 fun e => (Fin.seg [[(4, { d := some false })]] [] [] [] [decide (i < (r_.Reads.length : Int)) = false] (.cons e3 .nil) (hb1 _ e) (by kernel_rfl)))))
theorem spec_ExecFresh_b1_loop (list : List TBox) (r_ : TRun) (res : V) (outs : List (Option V)) (x1 : Exc Bool Unit) (hb1 : ∀ s : Unit, x1 = .brk s → Fin cx spec_ExecFresh_X res outs spec_ExecFresh_k1 (spec_ExecFresh_S1)) (hr1 : ∀ v : Bool, x1 = .ret v → (res = spec_ExecFresh_R v ∧ outs = spec_ExecFresh_O v)) (s : Int) (h : loop (fun s : Int => spec_ExecFresh_b1 list r_ s) s = some x1) : Fin cx spec_ExecFresh_X res outs spec_ExecFresh_k3 (spec_ExecFresh_S2 list r_ s) :=
  loopD (I := fun s : Int => Fin cx spec_ExecFresh_X res outs spec_ExecFresh_k3 (spec_ExecFresh_S2 list r_ s)) h fun s st h hc => spec_ExecFresh_b1_ok list r_ res outs x1 hb1 hr1 st hc s h
noncomputable def spec_ExecFresh (list : List TBox) (r_ : TRun) : Option Bool :=
  ((spec_BoxOk list).bind fun boxOk =>
 (bif (!boxOk) then
 some false
 else
 ((spec_ExecOk r_).bind fun execOk =>
 (bif (!execOk) then
 some false
 else
 ((loop (fun s : Int => spec_ExecFresh_b1 list r_ s) 0).bind fun x => x.go (fun r => some r) fun s => spec_ExecFresh_k2)))))
theorem spec_ExecFresh_fin (list : List TBox) (r_ : TRun) (r : Bool) (h : spec_ExecFresh list r_ = some r) : Fin cx spec_ExecFresh_X (spec_ExecFresh_R r) (spec_ExecFresh_O r) [.code spec_ExecFresh_c] (startS spec_ExecFresh_X [vsl 2 eBox list, .agg (eRun r_)]) :=
  (bindD h fun boxOk hboxOk h =>
 (condD h (fun e1 h =>
 (someD h fun e => (Fin.fin (cx := cx) (X := spec_ExecFresh_X) (res := spec_ExecFresh_R false) (outs := spec_ExecFresh_O false) Try.func40 [[], [(1, { a := .call [.val [some 2] []] false (spec_BoxOk_R boxOk) (spec_BoxOk_O boxOk) }), (3, { d := some true })], []] [ACalls cx.P 35 [vsl 2 eBox list] (spec_BoxOk_R boxOk) (spec_BoxOk_O boxOk), (!boxOk) = true] (.cons (spec_BoxOk_ok list boxOk hboxOk) (.cons e1 .nil)) (by kernel_rfl)).is (congrArg spec_ExecFresh_R e) (congrArg spec_ExecFresh_O e))) (fun e1 h =>
 (bindD h fun execOk hexecOk h =>
 (condD h (fun e2 h =>
 (someD h fun e => (Fin.fin (cx := cx) (X := spec_ExecFresh_X) (res := spec_ExecFresh_R false) (outs := spec_ExecFresh_O false) Try.func40 [[], [(1, { a := .call [.val [some 2] []] false (spec_BoxOk_R boxOk) (spec_BoxOk_O boxOk) }), (3, { d := some false }), (5, { a := .call [.val [some 2, some 2, none, none] []] false (spec_ExecOk_R execOk) (spec_ExecOk_O execOk) }), (7, { d := some true })], []] [ACalls cx.P 35 [vsl 2 eBox list] (spec_BoxOk_R boxOk) (spec_BoxOk_O boxOk), (!boxOk) = false, ACalls cx.P 54 [.agg (eRun r_)] (spec_ExecOk_R execOk) (spec_ExecOk_O execOk), (!execOk) = true] (.cons (spec_BoxOk_ok list boxOk hboxOk) (.cons e1 (.cons (spec_ExecOk_ok r_ execOk hexecOk) (.cons e2 .nil)))) (by kernel_rfl)).is (congrArg spec_ExecFresh_R e) (congrArg spec_ExecFresh_O e))) (fun e2 h =>
 (loopJ h fun x hl hr hb => (Fin.seg [[], [(1, { a := .call [.val [some 2] []] false (spec_BoxOk_R boxOk) (spec_BoxOk_O boxOk) }), (3, { d := some false }), (5, { a := .call [.val [some 2, some 2, none, none] []] false (spec_ExecOk_R execOk) (spec_ExecOk_O execOk) }), (7, { d := some false })], []] [] [0, 3, 5] [(1, 0)] [ACalls cx.P 35 [vsl 2 eBox list] (spec_BoxOk_R boxOk) (spec_BoxOk_O boxOk), (!boxOk) = false, ACalls cx.P 54 [.agg (eRun r_)] (spec_ExecOk_R execOk) (spec_ExecOk_O execOk), (!execOk) = false] (.cons (spec_BoxOk_ok list boxOk hboxOk) (.cons e1 (.cons (spec_ExecOk_ok r_ execOk hexecOk) (.cons e2 .nil)))) (spec_ExecFresh_b1_loop list r_ _ _ x (fun s e => spec_ExecFresh_k2_ok r (hb s e)) (fun v e => ⟨congrArg spec_ExecFresh_R (Option.some.inj (hr v e)).symm, congrArg spec_ExecFresh_O (Option.some.inj (hr v e)).symm⟩) 0 hl) (by kernel_rfl)))))))))
theorem spec_ExecFresh_ok (list : List TBox) (r_ : TRun) (r : Bool) (h : spec_ExecFresh list r_ = some r) : ACalls cx.P 40 [vsl 2 eBox list, .agg (eRun r_)] (spec_ExecFresh_R r) (spec_ExecFresh_O r) :=
  ACalls.of (cx := cx) (X := spec_ExecFresh_X) (c := spec_ExecFresh_c) Try.func40 (by kernel_rfl) (by kernel_rfl) (by kernel_rfl) (spec_ExecFresh_fin list r_ r h)

/-! ### spec_l1Min -/
noncomputable def spec_l1Min_c : Code := bodyOf Try.f59
noncomputable def spec_l1Min_X : Sig := { f := 59, fn := Try.f59, rms := [.val [] []], oms := [none, none] }
noncomputable def spec_l1Min_R (r : Int) : V := vi r
noncomputable def spec_l1Min_O (r : Int) : List (Option V) := [none, none]
noncomputable def spec_l1Min (a : Int) (b : Int) : Option Int :=
  (bif decide (a < b) then
 some a
 else
 some b)
theorem spec_l1Min_fin (a : Int) (b : Int) (r : Int) (h : spec_l1Min a b = some r) : Fin cx spec_l1Min_X (spec_l1Min_R r) (spec_l1Min_O r) [.code spec_l1Min_c] (startS spec_l1Min_X [vi a, vi b]) :=
  (condD h (fun e1 h =>
 (someD h fun e => (Fin.fin (cx := cx) (X := spec_l1Min_X) (res := spec_l1Min_R a) (outs := spec_l1Min_O a) Try.func59 [[], [(2, { d := some true })], []] [decide (a < b) = true] (.cons e1 .nil) (by kernel_rfl)).is (congrArg spec_l1Min_R e) (congrArg spec_l1Min_O e))) (fun e1 h =>
 (someD h fun e => (Fin.fin (cx := cx) (X := spec_l1Min_X) (res := spec_l1Min_R b) (outs := spec_l1Min_O b) Try.func59 [[], [(2, { d := some false })], []] [decide (a < b) = false] (.cons e1 .nil) (by kernel_rfl)).is (congrArg spec_l1Min_R e) (congrArg spec_l1Min_O e))))
theorem spec_l1Min_ok (a : Int) (b : Int) (r : Int) (h : spec_l1Min a b = some r) : ACalls cx.P 59 [vi a, vi b] (spec_l1Min_R r) (spec_l1Min_O r) :=
  ACalls.of (cx := cx) (X := spec_l1Min_X) (c := spec_l1Min_c) Try.func59 (by kernel_rfl) (by kernel_rfl) (by kernel_rfl) (spec_l1Min_fin a b r h)

/-! ### spec_l3Do -/
noncomputable def spec_l3Do_c : Code := bodyOf Try.f41
noncomputable def spec_l3Do_X : Sig := { f := 41, fn := Try.f41, rms := [.val [some 2] [some 92]], oms := [none, none] }
noncomputable def spec_l3Do_R (r : List TBox) : V := vosl 92 2 eBox r
noncomputable def spec_l3Do_O (r : List TBox) : List (Option V) := [none, none]
noncomputable def spec_l3Do_k1 : List Item := posI 2000 3 [false] [.code spec_l3Do_c]
noncomputable def spec_l3Do_S1 (list2 : List TBox) : St := ⟨(.own 0 0 2 0 list2.length :: (bs 37 [])), [some [erow 92 2 eBox list2]]⟩
noncomputable def spec_l3Do_k2 (list2 : List TBox) : Option (List TBox) :=
  some list2
theorem spec_l3Do_k2_ok (r : List TBox) (list2 : List TBox) (h : spec_l3Do_k2 list2 = some r) : Fin cx spec_l3Do_X (spec_l3Do_R r) (spec_l3Do_O r) spec_l3Do_k1 (spec_l3Do_S1 list2) :=
  (someD h fun e => (Fin.fin (cx := cx) (X := spec_l3Do_X) (res := spec_l3Do_R list2) (outs := spec_l3Do_O list2) Try.func41 [[]] [list2.length = list2.length] (.cons rfl .nil) (by kernel_rfl)).is (congrArg spec_l3Do_R e) (congrArg spec_l3Do_O e))
noncomputable def spec_l3Do_k3 : List Item := posI 2000 2 [] [.code spec_l3Do_c]
noncomputable def spec_l3Do_S2 (r_ : TRun) (list1 : List TBox) (i : Int) : St := ⟨(.own 0 0 2 0 list1.length :: (bs 2 (.ptr 1 0 0 :: (bs 1 (vi i :: (bs 32 [])))))), [some [erow 92 2 eBox list1], some [.var 34 [vsl 2 eRead r_.Reads, vsl 2 ePut r_.Puts, vi r_.Val, vi r_.Code]]]⟩
noncomputable def spec_l3Do_b1 (r_ : TRun) (list1 : List TBox) (i : Int) : Option (Stp (List TBox) ((List TBox) × Int) (List TBox)) :=
  (bif decide (i < (r_.Puts.length : Int)) then
 ((idx r_.Puts i).bind fun put =>
 ((idx list1 put.Box).bind fun box =>
 ((spec_l1Min 1000000 (w64 (box.Ver + 1))).bind fun l1Min =>
 some (Stp.nxt (list1.set put.Box.toNat (TBox.mk l1Min put.Val), w64 (i + 1))))))
 else
 some (Stp.brk list1))
theorem spec_l3Do_b1_ok (r_ : TRun) (res : V) (outs : List (Option V)) (x1 : Exc (List TBox) (List TBox)) (hb1 : ∀ s : List TBox, x1 = .brk s → Fin cx spec_l3Do_X res outs spec_l3Do_k1 (spec_l3Do_S1 s)) (hr1 : ∀ v : List TBox, x1 = .ret v → (res = spec_l3Do_R v ∧ outs = spec_l3Do_O v)) (st1 : Stp (List TBox) ((List TBox) × Int) (List TBox)) (hc1 : Cont x1 (fun s : (List TBox) × Int => Fin cx spec_l3Do_X res outs spec_l3Do_k3 (spec_l3Do_S2 r_ s.1 s.2)) st1) (list1 : List TBox) (i : Int) (h : spec_l3Do_b1 r_ list1 i = some st1) : Fin cx spec_l3Do_X res outs spec_l3Do_k3 (spec_l3Do_S2 r_ list1 i) :=
  (condD h (fun e1 h =>
 (bindD h fun put hput h =>
 (bindD h fun box hbox h =>
 (bindD h fun l1Min hl1Min h =>
 (nxtD h hc1 fun hI => (Fin.seg [[(4, { d := some true })], [(3, { a := .row (ePut put) })], [(6, { a := .row (eBox box) }), (8, { a := .call [.val [] [], .val [] []] false (spec_l1Min_R l1Min) (spec_l1Min_O l1Min) }), (12, { a := .row (ePut put) }), (17, { a := .rowck (eBox box) [], e := some (erow 92 2 eBox (list1.set put.Box.toNat (TBox.mk l1Min put.Val))) })], []] [.is (.tmp 0) (.own 0 0 2 0 (list1.set put.Box.toNat (TBox.mk l1Min put.Val)).length)] [0, 3, 5] [(1, 0)] [decide (i < (r_.Puts.length : Int)) = true, (0 : Int) ≤ i, i < ((r_.Puts.length : Nat) : Int), (r_.Puts.map ePut)[i.toNat]? = some (ePut put), (0 : Int) ≤ put.Box, put.Box < ((list1.length : Nat) : Int), (list1.map eBox)[0 + put.Box.toNat]? = some (eBox box), ACalls cx.P 59 [vi 1000000, vi (w64 (box.Ver + 1))] (spec_l1Min_R l1Min) (spec_l1Min_O l1Min), (0 : Int) ≤ i, i < ((r_.Puts.length : Nat) : Int), (r_.Puts.map ePut)[i.toNat]? = some (ePut put), (0 : Int) ≤ put.Box, put.Box < ((list1.length : Nat) : Int), Ent.row 92 2 list1.length ((list1.map eBox).set (0 + put.Box.toNat) [vi l1Min, vi put.Val]) = erow 92 2 eBox (list1.set put.Box.toNat (TBox.mk l1Min put.Val)), (list1.map eBox)[0 + put.Box.toNat]? = some (eBox box), (.own 0 0 2 0 list1.length : V) = .own 0 0 2 0 (list1.set put.Box.toNat (TBox.mk l1Min put.Val)).length] (.cons e1 (.cons (idx0 hput) (.cons (idx1 hput) (.cons (map_idx hput) (.cons (idx0 hbox) (.cons (idx1 hbox) (.cons (map_idx0 hbox) (.cons (spec_l1Min_ok 1000000 (w64 (box.Ver + 1)) l1Min hl1Min) (.cons (idx0 hput) (.cons (idx1 hput) (.cons (map_idx hput) (.cons (idx0 hbox) (.cons (idx1 hbox) (.cons (row_set rfl) (.cons (map_idx0 hbox) (.cons (by simp) .nil)))))))))))))))) hI (by kernel_rfl))))))) (fun e1 h =>
 (brkD h hc1 fun e => (Fin.seg [[(4, { d := some false })]] [] [0] [] [decide (i < (r_.Puts.length : Int)) = false] (.cons e1 .nil) (hb1 _ e) (by kernel_rfl)))))
theorem spec_l3Do_b1_loop (r_ : TRun) (res : V) (outs : List (Option V)) (x1 : Exc (List TBox) (List TBox)) (hb1 : ∀ s : List TBox, x1 = .brk s → Fin cx spec_l3Do_X res outs spec_l3Do_k1 (spec_l3Do_S1 s)) (hr1 : ∀ v : List TBox, x1 = .ret v → (res = spec_l3Do_R v ∧ outs = spec_l3Do_O v)) (s : (List TBox) × Int) (h : loop (fun s : (List TBox) × Int => spec_l3Do_b1 r_ s.1 s.2) s = some x1) : Fin cx spec_l3Do_X res outs spec_l3Do_k3 (spec_l3Do_S2 r_ s.1 s.2) :=
  loopD (I := fun s : (List TBox) × Int => Fin cx spec_l3Do_X res outs spec_l3Do_k3 (spec_l3Do_S2 r_ s.1 s.2)) h fun s st h hc => spec_l3Do_b1_ok r_ res outs x1 hb1 hr1 st hc s.1 s.2 h
noncomputable def spec_l3Do (list : List TBox) (r_ : TRun) : Option (List TBox) :=
  ((loop (fun s : (List TBox) × Int => spec_l3Do_b1 r_ s.1 s.2) (list, 0)).bind fun x => x.go (fun r => some r) fun s => spec_l3Do_k2 s)
theorem spec_l3Do_fin (list : List TBox) (r_ : TRun) (r : List TBox) (h : spec_l3Do list r_ = some r) : Fin cx spec_l3Do_X (spec_l3Do_R r) (spec_l3Do_O r) [.code spec_l3Do_c] (startS spec_l3Do_X [vosl 92 2 eBox list, .agg (eRun r_)]) :=
  (loopJ h fun x hl hr hb => (Fin.seg [[], []] [] [0, 3, 5] [(1, 0)] [] .nil (spec_l3Do_b1_loop r_ _ _ x (fun s e => spec_l3Do_k2_ok r s (hb s e)) (fun v e => ⟨congrArg spec_l3Do_R (Option.some.inj (hr v e)).symm, congrArg spec_l3Do_O (Option.some.inj (hr v e)).symm⟩) (list, 0) hl) (by kernel_rfl)))
theorem spec_l3Do_ok (list : List TBox) (r_ : TRun) (r : List TBox) (h : spec_l3Do list r_ = some r) : ACalls cx.P 41 [vosl 92 2 eBox list, .agg (eRun r_)] (spec_l3Do_R r) (spec_l3Do_O r) :=
  ACalls.of (cx := cx) (X := spec_l3Do_X) (c := spec_l3Do_c) Try.func41 (by kernel_rfl) (by kernel_rfl) (by kernel_rfl) (spec_l3Do_fin list r_ r h)

/-! ### spec_l5Put -/
noncomputable def spec_l5Put_c : Code := bodyOf Try.f42
noncomputable def spec_l5Put_X : Sig := { f := 42, fn := Try.f42, rms := [.val [some 4] []], oms := [none, none] }
noncomputable def spec_l5Put_R (r : List TDone) : V := vsl 4 eDone r
noncomputable def spec_l5Put_O (r : List TDone) : List (Option V) := [none, none]
noncomputable def spec_l5Put_k1 : List Item := posI 2000 5 [false] [.code spec_l5Put_c]
noncomputable def spec_l5Put_S1 (d : TDone) (out1 : List TDone) (in_1 : Bool) : St := ⟨(bs 3 (.ptr 1 0 0 :: (bs 1 (.own 2 0 4 0 out1.length :: (.b in_1 :: (bs 50 [])))))), [some [], some [.var 80 [vi d.Req.Who, vi d.Req.Seq, vi d.Code, vi d.Val]], some [erow 80 4 eDone out1]]⟩
noncomputable def spec_l5Put_k2 : List Item := posI 2000 7 [false, true] [.code spec_l5Put_c]
noncomputable def spec_l5Put_S2 (out2 : List TDone) : St := ⟨(bs 5 (.own 1 0 4 0 out2.length :: (bs 51 []))), [some [], some [erow 80 4 eDone out2]]⟩
noncomputable def spec_l5Put_j1 (out2 : List TDone) : Option (List TDone) :=
  some out2
theorem spec_l5Put_j1_ok (r : List TDone) (out2 : List TDone) (h : spec_l5Put_j1 out2 = some r) : Fin cx spec_l5Put_X (spec_l5Put_R r) (spec_l5Put_O r) spec_l5Put_k2 (spec_l5Put_S2 out2) :=
  (someD h fun e => (Fin.fin (cx := cx) (X := spec_l5Put_X) (res := spec_l5Put_R out2) (outs := spec_l5Put_O out2) Try.func42 [[]] [out2.length = out2.length] (.cons rfl .nil) (by kernel_rfl)).is (congrArg spec_l5Put_R e) (congrArg spec_l5Put_O e))
noncomputable def spec_l5Put_k3 (d : TDone) (out1 : List TDone) (in_1 : Bool) : Option (List TDone) :=
  (((bif (!in_1) then
 (need ((out1.length + 1) * 32 ≤ 140737488355328)
 (some (Exc.brk (out1 ++ [d]))))
 else
 some (Exc.brk out1)) : Option (Exc (List TDone) (List TDone))).bind fun x => x.go some fun j => spec_l5Put_j1 j)
theorem spec_l5Put_k3_ok (d : TDone) (r : List TDone) (out1 : List TDone) (in_1 : Bool) (h : spec_l5Put_k3 d out1 in_1 = some r) : Fin cx spec_l5Put_X (spec_l5Put_R r) (spec_l5Put_O r) spec_l5Put_k1 (spec_l5Put_S1 d out1 in_1) :=
  (joinD (I := fun j : List TDone => Fin cx spec_l5Put_X (spec_l5Put_R r) (spec_l5Put_O r) spec_l5Put_k2 (spec_l5Put_S2 j)) h (fun j h => spec_l5Put_j1_ok r j h) (fun x1 h hc1 =>
  (condD h (fun e1 h =>
 (needD h fun e2 h =>
 (jbrkD h hc1 fun hI => (Fin.seg [[(1, { d := some true })], [(2, { a := .ck [] }), (3, { v := some (.own 8 0 4 0 (out1 ++ [d]).length), e := some (erow 80 4 eDone (out1 ++ [d])) })]] [] [5] [(8, 0)] [(!in_1) = true, V.own 8 0 4 0 (out1.length + 1) = .own 8 0 4 0 (out1 ++ [d]).length, Ent.row 80 4 (out1.length + 1) (out1.map eDone ++ [eDone d]) = erow 80 4 eDone (out1 ++ [d]), out1.length = out1.length, (out1.length + 1) * 32 ≤ 140737488355328, 1 = [d].length] (.cons e1 (.cons (by first | exact congrArg (V.own 8 0 4 0) List.length_append.symm | simp) (.cons (row_app rfl) (.cons rfl (.cons e2 (.cons (by rfl) .nil)))))) hI (by kernel_rfl))))) (fun e1 h =>
 (jbrkD h hc1 fun hI => (Fin.seg [[(1, { d := some false })]] [] [5] [(2, 0)] [(!in_1) = false] (.cons e1 .nil) hI (by kernel_rfl)))))))
noncomputable def spec_l5Put_k4 : List Item := posI 2000 4 [] [.code spec_l5Put_c]
noncomputable def spec_l5Put_S3 (list : List TDone) (d : TDone) (out : List TDone) (in_ : Bool) (i : Int) : St := ⟨(vsl 4 eDone list :: (bs 2 (.ptr 1 0 0 :: (bs 1 (.own 2 0 4 0 out.length :: (.b in_ :: (vi i :: (bs 49 [])))))))), [some [], some [.var 80 [vi d.Req.Who, vi d.Req.Seq, vi d.Code, vi d.Val]], some [erow 80 4 eDone out]]⟩
noncomputable def spec_l5Put_k5 : List Item := posI 2000 8 [true, true] [.code spec_l5Put_c]
noncomputable def spec_l5Put_S4 (list : List TDone) (d : TDone) (i : Int) (out3 : List TDone) (in_2 : Bool) : St := ⟨(vsl 4 eDone list :: (bs 2 (.ptr 1 0 0 :: (bs 1 (.own 2 0 4 0 out3.length :: (.b in_2 :: (vi i :: (bs 49 [])))))))), [some [], some [.var 80 [vi d.Req.Who, vi d.Req.Seq, vi d.Code, vi d.Val]], some [erow 80 4 eDone out3]]⟩
noncomputable def spec_l5Put_k6 : List Item := posI 2000 10 [true, true, true] [.code spec_l5Put_c]
noncomputable def spec_l5Put_S5 (list : List TDone) (d : TDone) (i : Int) (in_2 : Bool) (out4 : List TDone) : St := ⟨(vsl 4 eDone list :: (bs 2 (.ptr 1 0 0 :: (bs 1 (.own 2 0 4 0 out4.length :: (.b in_2 :: (vi i :: (bs 49 [])))))))), [some [], some [.var 80 [vi d.Req.Who, vi d.Req.Seq, vi d.Code, vi d.Val]], some [erow 80 4 eDone out4]]⟩
noncomputable def spec_l5Put_j2 (i : Int) (in_2 : Bool) (out4 : List TDone) : Option (Stp (List TDone) ((List TDone) × Bool × Int) ((List TDone) × Bool)) :=
  some (Stp.nxt (out4, in_2, w64 (i + 1)))
theorem spec_l5Put_j2_ok (list : List TDone) (d : TDone) (i : Int) (in_2 : Bool) (res : V) (outs : List (Option V)) (x1 : Exc (List TDone) ((List TDone) × Bool)) (hb1 : ∀ s : (List TDone) × Bool, x1 = .brk s → Fin cx spec_l5Put_X res outs spec_l5Put_k1 (spec_l5Put_S1 d s.1 s.2)) (hr1 : ∀ v : List TDone, x1 = .ret v → (res = spec_l5Put_R v ∧ outs = spec_l5Put_O v)) (st1 : Stp (List TDone) ((List TDone) × Bool × Int) ((List TDone) × Bool)) (hc1 : Cont x1 (fun s : (List TDone) × Bool × Int => Fin cx spec_l5Put_X res outs spec_l5Put_k4 (spec_l5Put_S3 list d s.1 s.2.1 s.2.2)) st1) (out4 : List TDone) (h : spec_l5Put_j2 i in_2 out4 = some st1) : Fin cx spec_l5Put_X res outs spec_l5Put_k6 (spec_l5Put_S5 list d i in_2 out4) :=
  (nxtD h hc1 fun hI => (Fin.seg [[]] [] [0, 3, 5, 6, 7] [(1, 0), (2, 0)] [] .nil hI (by kernel_rfl)))
noncomputable def spec_l5Put_j3 (list : List TDone) (d : TDone) (i : Int) (out3 : List TDone) (in_2 : Bool) : Option (Stp (List TDone) ((List TDone) × Bool × Int) ((List TDone) × Bool)) :=
  ((((idx list i).bind fun done =>
 (bif (done.Req.Who != d.Req.Who) then
 (need ((out3.length + 1) * 32 ≤ 140737488355328)
 (some (Exc.brk (out3 ++ [done]))))
 else
 some (Exc.brk out3))) : Option (Exc (Stp (List TDone) ((List TDone) × Bool × Int) ((List TDone) × Bool)) (List TDone))).bind fun x => x.go some fun j => spec_l5Put_j2 i in_2 j)
theorem spec_l5Put_j3_ok (list : List TDone) (d : TDone) (i : Int) (res : V) (outs : List (Option V)) (x1 : Exc (List TDone) ((List TDone) × Bool)) (hb1 : ∀ s : (List TDone) × Bool, x1 = .brk s → Fin cx spec_l5Put_X res outs spec_l5Put_k1 (spec_l5Put_S1 d s.1 s.2)) (hr1 : ∀ v : List TDone, x1 = .ret v → (res = spec_l5Put_R v ∧ outs = spec_l5Put_O v)) (st1 : Stp (List TDone) ((List TDone) × Bool × Int) ((List TDone) × Bool)) (hc1 : Cont x1 (fun s : (List TDone) × Bool × Int => Fin cx spec_l5Put_X res outs spec_l5Put_k4 (spec_l5Put_S3 list d s.1 s.2.1 s.2.2)) st1) (out3 : List TDone) (in_2 : Bool) (h : spec_l5Put_j3 list d i out3 in_2 = some st1) : Fin cx spec_l5Put_X res outs spec_l5Put_k5 (spec_l5Put_S4 list d i out3 in_2) :=
  (joinD (I := fun j : List TDone => Fin cx spec_l5Put_X res outs spec_l5Put_k6 (spec_l5Put_S5 list d i in_2 j)) h (fun j h => spec_l5Put_j2_ok list d i in_2 res outs x1 hb1 hr1 st1 hc1 j h) (fun x2 h hc2 =>
  (bindD h fun done hdone h =>
 (condD h (fun e4 h =>
 (needD h fun e5 h =>
 (jbrkD h hc2 fun hI => (Fin.seg [[(2, { a := .row (eDone done) }), (9, { d := some true })], [(3, { a := .row (eDone done) }), (5, { a := .ck [] }), (6, { v := some (.own 19 0 4 0 (out3 ++ [done]).length), e := some (erow 80 4 eDone (out3 ++ [done])) })]] [] [0, 3, 5, 6, 7] [(1, 0), (19, 0)] [(0 : Int) ≤ i, i < ((list.length : Nat) : Int), (list.map eDone)[i.toNat]? = some (eDone done), (done.Req.Who != d.Req.Who) = true, (0 : Int) ≤ i, i < ((list.length : Nat) : Int), (list.map eDone)[i.toNat]? = some (eDone done), V.own 19 0 4 0 (out3.length + 1) = .own 19 0 4 0 (out3 ++ [done]).length, Ent.row 80 4 (out3.length + 1) (out3.map eDone ++ [eDone done]) = erow 80 4 eDone (out3 ++ [done]), out3.length = out3.length, (out3.length + 1) * 32 ≤ 140737488355328, 1 = [done].length] (.cons (idx0 hdone) (.cons (idx1 hdone) (.cons (map_idx hdone) (.cons e4 (.cons (idx0 hdone) (.cons (idx1 hdone) (.cons (map_idx hdone) (.cons (by first | exact congrArg (V.own 19 0 4 0) List.length_append.symm | simp) (.cons (row_app rfl) (.cons rfl (.cons e5 (.cons (by rfl) .nil)))))))))))) hI (by kernel_rfl))))) (fun e4 h =>
 (jbrkD h hc2 fun hI => (Fin.seg [[(2, { a := .row (eDone done) }), (9, { d := some false })]] [] [0, 3, 5, 6, 7] [(1, 0), (2, 0)] [(0 : Int) ≤ i, i < ((list.length : Nat) : Int), (list.map eDone)[i.toNat]? = some (eDone done), (done.Req.Who != d.Req.Who) = false] (.cons (idx0 hdone) (.cons (idx1 hdone) (.cons (map_idx hdone) (.cons e4 .nil)))) hI (by kernel_rfl))))))))
noncomputable def spec_l5Put_b1 (list : List TDone) (d : TDone) (out : List TDone) (in_ : Bool) (i : Int) : Option (Stp (List TDone) ((List TDone) × Bool × Int) ((List TDone) × Bool)) :=
  (bif decide (i < (list.length : Int)) then
 (((bif (!in_) then
 ((idx list i).bind fun done1 =>
 (bif decide (done1.Req.Who ≥ d.Req.Who) then
 (need ((out.length + 1) * 32 ≤ 140737488355328)
 (some (Exc.brk (out ++ [d], true))))
 else
 some (Exc.brk (out, in_))))
 else
 some (Exc.brk (out, in_))) : Option (Exc (Stp (List TDone) ((List TDone) × Bool × Int) ((List TDone) × Bool)) ((List TDone) × Bool))).bind fun x => x.go some fun j => spec_l5Put_j3 list d i j.1 j.2)
 else
 some (Stp.brk (out, in_)))
theorem spec_l5Put_b1_ok (list : List TDone) (d : TDone) (res : V) (outs : List (Option V)) (x1 : Exc (List TDone) ((List TDone) × Bool)) (hb1 : ∀ s : (List TDone) × Bool, x1 = .brk s → Fin cx spec_l5Put_X res outs spec_l5Put_k1 (spec_l5Put_S1 d s.1 s.2)) (hr1 : ∀ v : List TDone, x1 = .ret v → (res = spec_l5Put_R v ∧ outs = spec_l5Put_O v)) (st1 : Stp (List TDone) ((List TDone) × Bool × Int) ((List TDone) × Bool)) (hc1 : Cont x1 (fun s : (List TDone) × Bool × Int => Fin cx spec_l5Put_X res outs spec_l5Put_k4 (spec_l5Put_S3 list d s.1 s.2.1 s.2.2)) st1) (out : List TDone) (in_ : Bool) (i : Int) (h : spec_l5Put_b1 list d out in_ i = some st1) : Fin cx spec_l5Put_X res outs spec_l5Put_k4 (spec_l5Put_S3 list d out in_ i) :=
  (condD h (fun e3 h =>
 (joinD (I := fun j : (List TDone) × Bool => Fin cx spec_l5Put_X res outs spec_l5Put_k5 (spec_l5Put_S4 list d i j.1 j.2)) h (fun j h => spec_l5Put_j3_ok list d i res outs x1 hb1 hr1 st1 hc1 j.1 j.2 h) (fun x2 h hc2 =>
  (condD h (fun e6 h =>
 (bindD h fun done1 hdone1 h =>
 (condD h (fun e7 h =>
 (needD h fun e8 h =>
 (jbrkD h hc2 fun hI => (Fin.seg [[(3, { d := some true })], [(2, { d := some true }), (5, { a := .row (eDone done1) }), (13, { d := some true })], [(2, { a := .ck [] }), (3, { v := some (.own 24 0 4 0 (out ++ [d]).length), e := some (erow 80 4 eDone (out ++ [d])) })], []] [] [0, 3, 5, 6, 7] [(1, 0), (24, 0)] [decide (i < (list.length : Int)) = true, (!in_) = true, (0 : Int) ≤ i, i < ((list.length : Nat) : Int), (list.map eDone)[i.toNat]? = some (eDone done1), decide (done1.Req.Who ≥ d.Req.Who) = true, V.own 24 0 4 0 (out.length + 1) = .own 24 0 4 0 (out ++ [d]).length, Ent.row 80 4 (out.length + 1) (out.map eDone ++ [eDone d]) = erow 80 4 eDone (out ++ [d]), out.length = out.length, (out.length + 1) * 32 ≤ 140737488355328, 1 = [d].length] (.cons e3 (.cons e6 (.cons (idx0 hdone1) (.cons (idx1 hdone1) (.cons (map_idx hdone1) (.cons e7 (.cons (by first | exact congrArg (V.own 24 0 4 0) List.length_append.symm | simp) (.cons (row_app rfl) (.cons rfl (.cons e8 (.cons (by rfl) .nil))))))))))) hI (by kernel_rfl))))) (fun e7 h =>
 (jbrkD h hc2 fun hI => (Fin.seg [[(3, { d := some true })], [(2, { d := some true }), (5, { a := .row (eDone done1) }), (13, { d := some false })]] [] [0, 3, 5, 6, 7] [(1, 0), (2, 0)] [decide (i < (list.length : Int)) = true, (!in_) = true, (0 : Int) ≤ i, i < ((list.length : Nat) : Int), (list.map eDone)[i.toNat]? = some (eDone done1), decide (done1.Req.Who ≥ d.Req.Who) = false] (.cons e3 (.cons e6 (.cons (idx0 hdone1) (.cons (idx1 hdone1) (.cons (map_idx hdone1) (.cons e7 .nil)))))) hI (by kernel_rfl))))))) (fun e6 h =>
 (jbrkD h hc2 fun hI => (Fin.seg [[(3, { d := some true })], [(2, { d := some false })]] [] [0, 3, 5, 6, 7] [(1, 0), (2, 0)] [decide (i < (list.length : Int)) = true, (!in_) = false] (.cons e3 (.cons e6 .nil)) hI (by kernel_rfl)))))))) (fun e3 h =>
 (brkD h hc1 fun e => (Fin.seg [[(3, { d := some false })]] [] [3, 5, 6] [(1, 0), (2, 0)] [decide (i < (list.length : Int)) = false] (.cons e3 .nil) (hb1 _ e) (by kernel_rfl)))))
theorem spec_l5Put_b1_loop (list : List TDone) (d : TDone) (res : V) (outs : List (Option V)) (x1 : Exc (List TDone) ((List TDone) × Bool)) (hb1 : ∀ s : (List TDone) × Bool, x1 = .brk s → Fin cx spec_l5Put_X res outs spec_l5Put_k1 (spec_l5Put_S1 d s.1 s.2)) (hr1 : ∀ v : List TDone, x1 = .ret v → (res = spec_l5Put_R v ∧ outs = spec_l5Put_O v)) (s : (List TDone) × Bool × Int) (h : loop (fun s : (List TDone) × Bool × Int => spec_l5Put_b1 list d s.1 s.2.1 s.2.2) s = some x1) : Fin cx spec_l5Put_X res outs spec_l5Put_k4 (spec_l5Put_S3 list d s.1 s.2.1 s.2.2) :=
  loopD (I := fun s : (List TDone) × Bool × Int => Fin cx spec_l5Put_X res outs spec_l5Put_k4 (spec_l5Put_S3 list d s.1 s.2.1 s.2.2)) h fun s st h hc => spec_l5Put_b1_ok list d res outs x1 hb1 hr1 st hc s.1 s.2.1 s.2.2 h
noncomputable def spec_l5Put (list : List TDone) (d : TDone) : Option (List TDone) :=
  ((loop (fun s : (List TDone) × Bool × Int => spec_l5Put_b1 list d s.1 s.2.1 s.2.2) (([] : List TDone), false, 0)).bind fun x => x.go (fun r => some r) fun s => spec_l5Put_k3 d s.1 s.2)
theorem spec_l5Put_fin (list : List TDone) (d : TDone) (r : List TDone) (h : spec_l5Put list d = some r) : Fin cx spec_l5Put_X (spec_l5Put_R r) (spec_l5Put_O r) [.code spec_l5Put_c] (startS spec_l5Put_X [vsl 4 eDone list, .agg (eDone d)]) :=
  (loopJ h fun x hl hr hb => (Fin.seg [[], [(0, { a := .ck [] })], [], []] [.is (.tmp 5) (.own 3 0 4 0 ([] : List TDone).length)] [0, 3, 5, 6, 7] [(1, 0), (3, 0)] [(.own 3 0 4 0 0 : V) = .own 3 0 4 0 ([] : List TDone).length] (.cons (by simp) .nil) (spec_l5Put_b1_loop list d _ _ x (fun s e => spec_l5Put_k3_ok d r s.1 s.2 (hb s e)) (fun v e => ⟨congrArg spec_l5Put_R (Option.some.inj (hr v e)).symm, congrArg spec_l5Put_O (Option.some.inj (hr v e)).symm⟩) (([] : List TDone), false, 0) hl) (by kernel_rfl)))
theorem spec_l5Put_ok (list : List TDone) (d : TDone) (r : List TDone) (h : spec_l5Put list d = some r) : ACalls cx.P 42 [vsl 4 eDone list, .agg (eDone d)] (spec_l5Put_R r) (spec_l5Put_O r) :=
  ACalls.of (cx := cx) (X := spec_l5Put_X) (c := spec_l5Put_c) Try.func42 (by kernel_rfl) (by kernel_rfl) (by kernel_rfl) (spec_l5Put_fin list d r h)

/-! ### spec_l5Apply -/
noncomputable def spec_l5Apply_c : Code := bodyOf Try.f23
noncomputable def spec_l5Apply_X : Sig := { f := 23, fn := Try.f23, rms := [.val [none, some 2, some 4] [none, some 92, none], .val [] []], oms := [none, none] }
noncomputable def spec_l5Apply_R (r : TState × Int) : V := .tup [.agg [vi r.1.At, vosl 92 2 eBox r.1.Boxes, vsl 4 eDone r.1.Dones], vi r.2]
noncomputable def spec_l5Apply_O (r : TState × Int) : List (Option V) := [none, none]
noncomputable def spec_l5Apply_k1 : List Item := posI 2000 6 [false, false, false] [.code spec_l5Apply_c]
noncomputable def spec_l5Apply_S1 (s_ : TState) (e_ : TEntry) : St := ⟨(bs 2 (.ptr 1 0 0 :: (.ptr 2 0 0 :: (.ptr 3 0 0 :: (bs 78 []))))), [some [erow 92 2 eBox s_.Boxes], some [.var 49 [vi (w64 (s_.At + 1)), .own 0 0 2 0 s_.Boxes.length, vsl 4 eDone s_.Dones]], some [.var 36 [.b e_.None, vi e_.Req.Who, vi e_.Req.Seq, vsl 2 eRead e_.Run.Reads, vsl 2 ePut e_.Run.Puts, vi e_.Run.Val, vi e_.Run.Code]], some [.var 49 [vi 0, .nil, .nil]]]⟩
noncomputable def spec_l5Apply_k2 : List Item := posI 2000 9 [false, false, false, true] [.code spec_l5Apply_c]
noncomputable def spec_l5Apply_S2 (s_ : TState) (e_ : TEntry) (dCode : Int) : St := ⟨(bs 2 (.ptr 1 0 0 :: (.ptr 2 0 0 :: (.ptr 3 0 0 :: (bs 3 (.ptr 4 0 0 :: (bs 74 []))))))), [some [erow 92 2 eBox s_.Boxes], some [.var 49 [vi (w64 (s_.At + 1)), .own 0 0 2 0 s_.Boxes.length, vsl 4 eDone s_.Dones]], some [.var 36 [.b e_.None, vi e_.Req.Who, vi e_.Req.Seq, vsl 2 eRead e_.Run.Reads, vsl 2 ePut e_.Run.Puts, vi e_.Run.Val, vi e_.Run.Code]], some [.var 49 [vi 0, .nil, .nil]], some [.var 80 [vi e_.Req.Who, vi e_.Req.Seq, vi dCode, vi 0]]]⟩
noncomputable def spec_l5Apply_k3 : List Item := posI 2000 13 [false, false, false, true, true] [.code spec_l5Apply_c]
noncomputable def spec_l5Apply_S3 (s_ : TState) (d : TDone) (Boxes : List TBox) : St := ⟨(bs 2 (.ptr 1 0 0 :: (bs 1 (.ptr 3 0 0 :: (bs 3 (.ptr 4 0 0 :: (bs 74 []))))))), [some [.dead], some [.var 49 [vi (w64 (s_.At + 1)), .own 2 0 2 0 Boxes.length, vsl 4 eDone s_.Dones]], some [erow 92 2 eBox Boxes], some [.var 49 [vi 0, .nil, .nil]], some [.var 80 [vi d.Req.Who, vi d.Req.Seq, vi d.Code, vi d.Val]]]⟩
noncomputable def spec_l5Apply_j1 (s_ : TState) (d : TDone) (Boxes : List TBox) : Option (TState × Int) :=
  ((spec_l5Put s_.Dones d).bind fun l5Put =>
 some ((TState.mk (w64 (s_.At + 1)) Boxes l5Put), d.Code))
theorem spec_l5Apply_j1_ok (s_ : TState) (r : TState × Int) (d : TDone) (Boxes : List TBox) (h : spec_l5Apply_j1 s_ d Boxes = some r) : Fin cx spec_l5Apply_X (spec_l5Apply_R r) (spec_l5Apply_O r) spec_l5Apply_k3 (spec_l5Apply_S3 s_ d Boxes) :=
  (bindD h fun l5Put hl5Put h =>
 (someD h fun e => (Fin.fin (cx := cx) (X := spec_l5Apply_X) (res := spec_l5Apply_R ((TState.mk (w64 (s_.At + 1)) Boxes l5Put), d.Code)) (outs := spec_l5Apply_O ((TState.mk (w64 (s_.At + 1)) Boxes l5Put), d.Code)) Try.func23 [[(3, { a := .call [.val [some 4] [], .val [] []] false (spec_l5Put_R l5Put) (spec_l5Put_O l5Put) })], []] [ACalls cx.P 42 [vsl 4 eDone s_.Dones, .agg (eDone d)] (spec_l5Put_R l5Put) (spec_l5Put_O l5Put), Boxes.length = Boxes.length] (.cons (spec_l5Put_ok s_.Dones d l5Put hl5Put) (.cons rfl .nil)) (by kernel_rfl)).is (congrArg spec_l5Apply_R e) (congrArg spec_l5Apply_O e)))
noncomputable def spec_l5Apply_j2 (s_ : TState) (e_ : TEntry) (dCode : Int) : Option (TState × Int) :=
  (((bif (dCode == 2) then
 (bif (e_.Run.Code == 0) then
 ((spec_l3Do s_.Boxes e_.Run).bind fun l3Do =>
 some (Exc.brk ((TDone.mk e_.Req 0 e_.Run.Val), l3Do)))
 else
 some (Exc.brk ((TDone.mk e_.Req dCode 0), s_.Boxes)))
 else
 some (Exc.brk ((TDone.mk e_.Req dCode 0), s_.Boxes))) : Option (Exc (TState × Int) (TDone × List TBox))).bind fun x => x.go some fun j => spec_l5Apply_j1 s_ j.1 j.2)
theorem spec_l5Apply_j2_ok (s_ : TState) (e_ : TEntry) (r : TState × Int) (dCode : Int) (h : spec_l5Apply_j2 s_ e_ dCode = some r) : Fin cx spec_l5Apply_X (spec_l5Apply_R r) (spec_l5Apply_O r) spec_l5Apply_k2 (spec_l5Apply_S2 s_ e_ dCode) :=
  (joinD (I := fun j : TDone × List TBox => Fin cx spec_l5Apply_X (spec_l5Apply_R r) (spec_l5Apply_O r) spec_l5Apply_k3 (spec_l5Apply_S3 s_ j.1 j.2)) h (fun j h => spec_l5Apply_j1_ok s_ r j.1 j.2 h) (fun x1 h hc1 =>
  (condD h (fun e2 h =>
 (condD h (fun e3 h =>
 (bindD h fun l3Do hl3Do h =>
 (jbrkD h hc1 fun hI => (Fin.seg [[(3, { d := some true }), (8, { d := some true })], [], [], [(4, { a := .call [.val [some 2] [some 92], .val [some 2, some 2, none, none] []] false (spec_l3Do_R l3Do) (spec_l3Do_O l3Do) })]] [] [2, 4, 8] [(1, 0), (25, 0), (3, 0), (4, 0)] [(dCode == 2) = true, (e_.Run.Code == 0) = true, ACalls cx.P 41 [vosl 92 2 eBox s_.Boxes, .agg (eRun e_.Run)] (spec_l3Do_R l3Do) (spec_l3Do_O l3Do), s_.Boxes.length = s_.Boxes.length] (.cons e2 (.cons e3 (.cons (spec_l3Do_ok s_.Boxes e_.Run l3Do hl3Do) (.cons rfl .nil)))) hI (by kernel_rfl))))) (fun e3 h =>
 (jbrkD h hc1 fun hI => (Fin.seg [[(3, { d := some true }), (8, { d := some false })]] [] [2, 4, 8] [(1, 0), (0, 0), (3, 0), (4, 0)] [(dCode == 2) = true, (e_.Run.Code == 0) = false] (.cons e2 (.cons e3 .nil)) hI (by kernel_rfl)))))) (fun e2 h =>
 (jbrkD h hc1 fun hI => (Fin.seg [[(3, { d := some false })]] [] [2, 4, 8] [(1, 0), (0, 0), (3, 0), (4, 0)] [(dCode == 2) = false] (.cons e2 .nil) hI (by kernel_rfl)))))))
noncomputable def spec_l5Apply_j3 (s_ : TState) (e_ : TEntry) : Option (TState × Int) :=
  ((((spec_ExecFresh s_.Boxes e_.Run).bind fun execFresh =>
 (bif execFresh then
 some (Exc.brk 2)
 else
 some (Exc.brk 1))) : Option (Exc (TState × Int) Int)).bind fun x => x.go some fun j => spec_l5Apply_j2 s_ e_ j)
theorem spec_l5Apply_j3_ok (s_ : TState) (e_ : TEntry) (r : TState × Int) (h : spec_l5Apply_j3 s_ e_ = some r) : Fin cx spec_l5Apply_X (spec_l5Apply_R r) (spec_l5Apply_O r) spec_l5Apply_k1 (spec_l5Apply_S1 s_ e_) :=
  (joinD (I := fun j : Int => Fin cx spec_l5Apply_X (spec_l5Apply_R r) (spec_l5Apply_O r) spec_l5Apply_k2 (spec_l5Apply_S2 s_ e_ j)) h (fun j h => spec_l5Apply_j2_ok s_ e_ r j h) (fun x1 h hc1 =>
  (bindD h fun execFresh hexecFresh h =>
 (condD h (fun e4 h =>
 (jbrkD h hc1 fun hI => (Fin.seg [[], [(4, { a := .call [.val [some 2] [], .val [some 2, some 2, none, none] []] true (spec_ExecFresh_R execFresh) (spec_ExecFresh_O execFresh), d := some true })], []] [] [2, 3, 4, 8] [(1, 0), (2, 0), (3, 0), (7, 0)] [execFresh = true, ACalls cx.P 40 [vsl 2 eBox s_.Boxes, .agg (eRun e_.Run)] (spec_ExecFresh_R execFresh) (spec_ExecFresh_O execFresh), ScalR (spec_ExecFresh_R execFresh) ∧ ScalO (spec_ExecFresh_O execFresh), s_.Boxes.length = s_.Boxes.length] (.cons e4 (.cons (spec_ExecFresh_ok s_.Boxes e_.Run execFresh hexecFresh) (.cons ⟨rfl, scalO_none 2⟩ (.cons rfl .nil)))) hI (by kernel_rfl)))) (fun e4 h =>
 (jbrkD h hc1 fun hI => (Fin.seg [[], [(4, { a := .call [.val [some 2] [], .val [some 2, some 2, none, none] []] true (spec_ExecFresh_R execFresh) (spec_ExecFresh_O execFresh), d := some false })]] [] [2, 3, 4, 8] [(1, 0), (2, 0), (3, 0), (7, 0)] [execFresh = false, ACalls cx.P 40 [vsl 2 eBox s_.Boxes, .agg (eRun e_.Run)] (spec_ExecFresh_R execFresh) (spec_ExecFresh_O execFresh), ScalR (spec_ExecFresh_R execFresh) ∧ ScalO (spec_ExecFresh_O execFresh), s_.Boxes.length = s_.Boxes.length] (.cons e4 (.cons (spec_ExecFresh_ok s_.Boxes e_.Run execFresh hexecFresh) (.cons ⟨rfl, scalO_none 2⟩ (.cons rfl .nil)))) hI (by kernel_rfl))))))))
noncomputable def spec_l5Apply (s_ : TState) (e_ : TEntry) : Option (TState × Int) :=
  (bif e_.None then
 some ((TState.mk (w64 (s_.At + 1)) s_.Boxes s_.Dones), 5)
 else
 ((spec_l5Last (TState.mk (w64 (s_.At + 1)) s_.Boxes s_.Dones) e_.Req.Who).bind fun l5Last =>
 (((bif l5Last.2 then
 (bif (([l5Last.1.Req.Who, l5Last.1.Req.Seq] : List Int) == [e_.Req.Who, e_.Req.Seq]) then
 some (Exc.ret ((TState.mk (w64 (s_.At + 1)) s_.Boxes s_.Dones), 3))
 else
 (bif l5Last.2 then
 (bif decide (l5Last.1.Req.Seq > e_.Req.Seq) then
 some (Exc.ret ((TState.mk (w64 (s_.At + 1)) s_.Boxes s_.Dones), 4))
 else
 some (Exc.brk ()))
 else
 some (Exc.brk ())))
 else
 (bif l5Last.2 then
 (bif decide (l5Last.1.Req.Seq > e_.Req.Seq) then
 some (Exc.ret ((TState.mk (w64 (s_.At + 1)) s_.Boxes s_.Dones), 4))
 else
 some (Exc.brk ()))
 else
 some (Exc.brk ()))) : Option (Exc (TState × Int) Unit)).bind fun x => x.go some fun j => spec_l5Apply_j3 s_ e_)))
theorem spec_l5Apply_fin (s_ : TState) (e_ : TEntry) (r : TState × Int) (h : spec_l5Apply s_ e_ = some r) : Fin cx spec_l5Apply_X (spec_l5Apply_R r) (spec_l5Apply_O r) [.code spec_l5Apply_c] (startS spec_l5Apply_X [.agg [vi s_.At, vosl 92 2 eBox s_.Boxes, vsl 4 eDone s_.Dones], .agg (eEntry e_)]) :=
  (condD h (fun e1 h =>
 (someD h fun e => (Fin.fin (cx := cx) (X := spec_l5Apply_X) (res := spec_l5Apply_R ((TState.mk (w64 (s_.At + 1)) s_.Boxes s_.Dones), 5)) (outs := spec_l5Apply_O ((TState.mk (w64 (s_.At + 1)) s_.Boxes s_.Dones), 5)) Try.func23 [[], [], [(1, { d := some true })], []] [e_.None = true, s_.Boxes.length = s_.Boxes.length] (.cons e1 (.cons rfl .nil)) (by kernel_rfl)).is (congrArg spec_l5Apply_R e) (congrArg spec_l5Apply_O e))) (fun e1 h =>
 (bindD h fun l5Last hl5Last h =>
 (joinD (I := fun j : Unit => Fin cx spec_l5Apply_X (spec_l5Apply_R r) (spec_l5Apply_O r) spec_l5Apply_k1 (spec_l5Apply_S1 s_ e_)) h (fun j h => spec_l5Apply_j3_ok s_ e_ r h) (fun x1 h hc1 =>
  (condD h (fun e5 h =>
 (condD h (fun e6 h =>
 (jretD h hc1 fun h => (someD h fun e => (Fin.fin (cx := cx) (X := spec_l5Apply_X) (res := spec_l5Apply_R ((TState.mk (w64 (s_.At + 1)) s_.Boxes s_.Dones), 3)) (outs := spec_l5Apply_O ((TState.mk (w64 (s_.At + 1)) s_.Boxes s_.Dones), 3)) Try.func23 [[], [], [(1, { d := some false })], [(4, { a := .call [.val [none, some 2, some 4] [], .val [] []] true (spec_l5Last_R l5Last) (spec_l5Last_O l5Last) })], [(1, { d := some true }), (8, { d := some true })], []] [e_.None = false, ACalls cx.P 39 [.agg (eState (TState.mk (w64 (s_.At + 1)) s_.Boxes s_.Dones)), vi e_.Req.Who] (spec_l5Last_R l5Last) (spec_l5Last_O l5Last), ScalR (spec_l5Last_R l5Last) ∧ ScalO (spec_l5Last_O l5Last), s_.Boxes.length = s_.Boxes.length, l5Last.2 = true, (([l5Last.1.Req.Who, l5Last.1.Req.Seq] : List Int) == [e_.Req.Who, e_.Req.Seq]) = true, s_.Boxes.length = s_.Boxes.length] (.cons e1 (.cons (spec_l5Last_ok (TState.mk (w64 (s_.At + 1)) s_.Boxes s_.Dones) e_.Req.Who l5Last hl5Last) (.cons ⟨(by simp [spec_l5Last_R, ScalR, ScalA, ScalC, V.simple, vi, vosl, eB, eDone, eI, eReq]), scalO_none 2⟩ (.cons rfl (.cons e5 (.cons e6 (.cons rfl .nil))))))) (by kernel_rfl)).is (congrArg spec_l5Apply_R e) (congrArg spec_l5Apply_O e)))) (fun e6 h =>
 (condD h (fun e7 h =>
 (condD h (fun e8 h =>
 (jretD h hc1 fun h => (someD h fun e => (Fin.fin (cx := cx) (X := spec_l5Apply_X) (res := spec_l5Apply_R ((TState.mk (w64 (s_.At + 1)) s_.Boxes s_.Dones), 4)) (outs := spec_l5Apply_O ((TState.mk (w64 (s_.At + 1)) s_.Boxes s_.Dones), 4)) Try.func23 [[], [], [(1, { d := some false })], [(4, { a := .call [.val [none, some 2, some 4] [], .val [] []] true (spec_l5Last_R l5Last) (spec_l5Last_O l5Last) })], [(1, { d := some true }), (8, { d := some false })], [(1, { d := some true }), (10, { d := some true })], []] [e_.None = false, ACalls cx.P 39 [.agg (eState (TState.mk (w64 (s_.At + 1)) s_.Boxes s_.Dones)), vi e_.Req.Who] (spec_l5Last_R l5Last) (spec_l5Last_O l5Last), ScalR (spec_l5Last_R l5Last) ∧ ScalO (spec_l5Last_O l5Last), s_.Boxes.length = s_.Boxes.length, l5Last.2 = true, (([l5Last.1.Req.Who, l5Last.1.Req.Seq] : List Int) == [e_.Req.Who, e_.Req.Seq]) = false, l5Last.2 = true, decide (l5Last.1.Req.Seq > e_.Req.Seq) = true, s_.Boxes.length = s_.Boxes.length] (.cons e1 (.cons (spec_l5Last_ok (TState.mk (w64 (s_.At + 1)) s_.Boxes s_.Dones) e_.Req.Who l5Last hl5Last) (.cons ⟨(by simp [spec_l5Last_R, ScalR, ScalA, ScalC, V.simple, vi, vosl, eB, eDone, eI, eReq]), scalO_none 2⟩ (.cons rfl (.cons e5 (.cons e6 (.cons e7 (.cons e8 (.cons rfl .nil))))))))) (by kernel_rfl)).is (congrArg spec_l5Apply_R e) (congrArg spec_l5Apply_O e)))) (fun e8 h =>
 (jbrkD h hc1 fun hI => (Fin.seg [[], [], [(1, { d := some false })], [(4, { a := .call [.val [none, some 2, some 4] [], .val [] []] true (spec_l5Last_R l5Last) (spec_l5Last_O l5Last) })], [(1, { d := some true }), (8, { d := some false })], [(1, { d := some true }), (10, { d := some false })]] [] [2, 3, 4] [(1, 0), (2, 0), (3, 0)] [e_.None = false, ACalls cx.P 39 [.agg (eState (TState.mk (w64 (s_.At + 1)) s_.Boxes s_.Dones)), vi e_.Req.Who] (spec_l5Last_R l5Last) (spec_l5Last_O l5Last), ScalR (spec_l5Last_R l5Last) ∧ ScalO (spec_l5Last_O l5Last), s_.Boxes.length = s_.Boxes.length, l5Last.2 = true, (([l5Last.1.Req.Who, l5Last.1.Req.Seq] : List Int) == [e_.Req.Who, e_.Req.Seq]) = false, l5Last.2 = true, decide (l5Last.1.Req.Seq > e_.Req.Seq) = false] (.cons e1 (.cons (spec_l5Last_ok (TState.mk (w64 (s_.At + 1)) s_.Boxes s_.Dones) e_.Req.Who l5Last hl5Last) (.cons ⟨(by simp [spec_l5Last_R, ScalR, ScalA, ScalC, V.simple, vi, vosl, eB, eDone, eI, eReq]), scalO_none 2⟩ (.cons rfl (.cons e5 (.cons e6 (.cons e7 (.cons e8 .nil)))))))) hI (by kernel_rfl)))))) (fun e7 h =>
 (jbrkD h hc1 fun hI => (Fin.seg [[], [], [(1, { d := some false })], [(4, { a := .call [.val [none, some 2, some 4] [], .val [] []] true (spec_l5Last_R l5Last) (spec_l5Last_O l5Last) })], [(1, { d := some true }), (8, { d := some false })], [(1, { d := some false })]] [] [2, 3, 4] [(1, 0), (2, 0), (3, 0)] [e_.None = false, ACalls cx.P 39 [.agg (eState (TState.mk (w64 (s_.At + 1)) s_.Boxes s_.Dones)), vi e_.Req.Who] (spec_l5Last_R l5Last) (spec_l5Last_O l5Last), ScalR (spec_l5Last_R l5Last) ∧ ScalO (spec_l5Last_O l5Last), s_.Boxes.length = s_.Boxes.length, l5Last.2 = true, (([l5Last.1.Req.Who, l5Last.1.Req.Seq] : List Int) == [e_.Req.Who, e_.Req.Seq]) = false, l5Last.2 = false] (.cons e1 (.cons (spec_l5Last_ok (TState.mk (w64 (s_.At + 1)) s_.Boxes s_.Dones) e_.Req.Who l5Last hl5Last) (.cons ⟨(by simp [spec_l5Last_R, ScalR, ScalA, ScalC, V.simple, vi, vosl, eB, eDone, eI, eReq]), scalO_none 2⟩ (.cons rfl (.cons e5 (.cons e6 (.cons e7 .nil))))))) hI (by kernel_rfl)))))))) (fun e5 h =>
 (condD h (fun e9 h =>
 (condD h (fun e10 h =>
 (jretD h hc1 fun h => (someD h fun e => (Fin.fin (cx := cx) (X := spec_l5Apply_X) (res := spec_l5Apply_R ((TState.mk (w64 (s_.At + 1)) s_.Boxes s_.Dones), 4)) (outs := spec_l5Apply_O ((TState.mk (w64 (s_.At + 1)) s_.Boxes s_.Dones), 4)) Try.func23 [[], [], [(1, { d := some false })], [(4, { a := .call [.val [none, some 2, some 4] [], .val [] []] true (spec_l5Last_R l5Last) (spec_l5Last_O l5Last) })], [(1, { d := some false })], [(1, { d := some true }), (10, { d := some true })], []] [e_.None = false, ACalls cx.P 39 [.agg (eState (TState.mk (w64 (s_.At + 1)) s_.Boxes s_.Dones)), vi e_.Req.Who] (spec_l5Last_R l5Last) (spec_l5Last_O l5Last), ScalR (spec_l5Last_R l5Last) ∧ ScalO (spec_l5Last_O l5Last), s_.Boxes.length = s_.Boxes.length, l5Last.2 = false, l5Last.2 = true, decide (l5Last.1.Req.Seq > e_.Req.Seq) = true, s_.Boxes.length = s_.Boxes.length] (.cons e1 (.cons (spec_l5Last_ok (TState.mk (w64 (s_.At + 1)) s_.Boxes s_.Dones) e_.Req.Who l5Last hl5Last) (.cons ⟨(by simp [spec_l5Last_R, ScalR, ScalA, ScalC, V.simple, vi, vosl, eB, eDone, eI, eReq]), scalO_none 2⟩ (.cons rfl (.cons e5 (.cons e9 (.cons e10 (.cons rfl .nil)))))))) (by kernel_rfl)).is (congrArg spec_l5Apply_R e) (congrArg spec_l5Apply_O e)))) (fun e10 h =>
 (jbrkD h hc1 fun hI => (Fin.seg [[], [], [(1, { d := some false })], [(4, { a := .call [.val [none, some 2, some 4] [], .val [] []] true (spec_l5Last_R l5Last) (spec_l5Last_O l5Last) })], [(1, { d := some false })], [(1, { d := some true }), (10, { d := some false })]] [] [2, 3, 4] [(1, 0), (2, 0), (3, 0)] [e_.None = false, ACalls cx.P 39 [.agg (eState (TState.mk (w64 (s_.At + 1)) s_.Boxes s_.Dones)), vi e_.Req.Who] (spec_l5Last_R l5Last) (spec_l5Last_O l5Last), ScalR (spec_l5Last_R l5Last) ∧ ScalO (spec_l5Last_O l5Last), s_.Boxes.length = s_.Boxes.length, l5Last.2 = false, l5Last.2 = true, decide (l5Last.1.Req.Seq > e_.Req.Seq) = false] (.cons e1 (.cons (spec_l5Last_ok (TState.mk (w64 (s_.At + 1)) s_.Boxes s_.Dones) e_.Req.Who l5Last hl5Last) (.cons ⟨(by simp [spec_l5Last_R, ScalR, ScalA, ScalC, V.simple, vi, vosl, eB, eDone, eI, eReq]), scalO_none 2⟩ (.cons rfl (.cons e5 (.cons e9 (.cons e10 .nil))))))) hI (by kernel_rfl)))))) (fun e9 h =>
 (jbrkD h hc1 fun hI => (Fin.seg [[], [], [(1, { d := some false })], [(4, { a := .call [.val [none, some 2, some 4] [], .val [] []] true (spec_l5Last_R l5Last) (spec_l5Last_O l5Last) })], [(1, { d := some false })], [(1, { d := some false })]] [] [2, 3, 4] [(1, 0), (2, 0), (3, 0)] [e_.None = false, ACalls cx.P 39 [.agg (eState (TState.mk (w64 (s_.At + 1)) s_.Boxes s_.Dones)), vi e_.Req.Who] (spec_l5Last_R l5Last) (spec_l5Last_O l5Last), ScalR (spec_l5Last_R l5Last) ∧ ScalO (spec_l5Last_O l5Last), s_.Boxes.length = s_.Boxes.length, l5Last.2 = false, l5Last.2 = false] (.cons e1 (.cons (spec_l5Last_ok (TState.mk (w64 (s_.At + 1)) s_.Boxes s_.Dones) e_.Req.Who l5Last hl5Last) (.cons ⟨(by simp [spec_l5Last_R, ScalR, ScalA, ScalC, V.simple, vi, vosl, eB, eDone, eI, eReq]), scalO_none 2⟩ (.cons rfl (.cons e5 (.cons e9 .nil)))))) hI (by kernel_rfl))))))))))))
theorem spec_l5Apply_ok (s_ : TState) (e_ : TEntry) (r : TState × Int) (h : spec_l5Apply s_ e_ = some r) : ACalls cx.P 23 [.agg [vi s_.At, vosl 92 2 eBox s_.Boxes, vsl 4 eDone s_.Dones], .agg (eEntry e_)] (spec_l5Apply_R r) (spec_l5Apply_O r) :=
  ACalls.of (cx := cx) (X := spec_l5Apply_X) (c := spec_l5Apply_c) Try.func23 (by kernel_rfl) (by kernel_rfl) (by kernel_rfl) (spec_l5Apply_fin s_ e_ r h)

/-! ### spec_l5List -/
noncomputable def spec_l5List_c : Code := bodyOf Try.f19
noncomputable def spec_l5List_X : Sig := { f := 19, fn := Try.f19, rms := [.val [some 7] []], oms := [some (0, .ptr [some 1, none] [])] }
noncomputable def spec_l5List_R (r : (List TEntry) × Tl15Rd) : V := vsl 7 eEntry r.1
noncomputable def spec_l5List_O (r : (List TEntry) × Tl15Rd) : List (Option V) := [some (.optr 65 (el15Rd r.2))]
noncomputable def spec_l5List_k1 : List Item := posI 2000 5 [false] [.code spec_l5List_c]
noncomputable def spec_l5List_S1 (r_2 : Tl15Rd) (out1 : List TEntry) : St := ⟨(.ptr 0 0 0 :: (bs 2 (.own 1 0 7 0 out1.length :: (bs 47 [])))), [some [.var 65 [vsl 1 eU8 r_2.b, vi r_2.p]], some [erow 36 7 eEntry out1]]⟩
noncomputable def spec_l5List_k2 : List Item := posI 2000 7 [false, true, false] [.code spec_l5List_c]
noncomputable def spec_l5List_S2 (w : Tl15Rd) (out2 : List TEntry) : St := ⟨(bs 3 (.own 1 0 7 0 out2.length :: (bs 47 []))), [some [.var 65 [vsl 1 eU8 w.b, vi w.p]], some [erow 36 7 eEntry out2]]⟩
noncomputable def spec_l5List_j1 (w : Tl15Rd) (out2 : List TEntry) : Option ((List TEntry) × Tl15Rd) :=
  some (out2, w)
theorem spec_l5List_j1_ok (r : (List TEntry) × Tl15Rd) (w : Tl15Rd) (out2 : List TEntry) (h : spec_l5List_j1 w out2 = some r) : Fin cx spec_l5List_X (spec_l5List_R r) (spec_l5List_O r) spec_l5List_k2 (spec_l5List_S2 w out2) :=
  (someD h fun e => (Fin.fin (cx := cx) (X := spec_l5List_X) (res := spec_l5List_R (out2, w)) (outs := spec_l5List_O (out2, w)) Try.func19 [[]] [out2.length = out2.length] (.cons rfl .nil) (by kernel_rfl)).is (congrArg spec_l5List_R e) (congrArg spec_l5List_O e))
noncomputable def spec_l5List_k3 : List Item := posI 2000 7 [false, true, false] [.code spec_l5List_c]
noncomputable def spec_l5List_S3 (pick : Int × Tl15Rd) (out4 : List TEntry) : St := ⟨(bs 3 (.own 1 0 7 0 out4.length :: (bs 47 []))), [some [.var 65 [vsl 1 eU8 pick.2.b, vi pick.2.p]], some [erow 36 7 eEntry out4]]⟩
noncomputable def spec_l5List_k4 (pick : Int × Tl15Rd) (out4 : List TEntry) : Option (Exc ((List TEntry) × Tl15Rd) (Tl15Rd × List TEntry)) :=
  some (Exc.brk (pick.2, out4))
theorem spec_l5List_k4_ok (pick : Int × Tl15Rd) (r : (List TEntry) × Tl15Rd) (x1 : Exc ((List TEntry) × Tl15Rd) (Tl15Rd × List TEntry)) (hc1 : JC (fun j : Tl15Rd × List TEntry => Fin cx spec_l5List_X (spec_l5List_R r) (spec_l5List_O r) spec_l5List_k2 (spec_l5List_S2 j.1 j.2)) r x1) (out4 : List TEntry) (h : spec_l5List_k4 pick out4 = some x1) : Fin cx spec_l5List_X (spec_l5List_R r) (spec_l5List_O r) spec_l5List_k3 (spec_l5List_S3 pick out4) :=
  (jbrkD h hc1 fun hI => (Fin.seg [] [] [3] [(1, 0)] [] .nil hI (by kernel_rfl)))
noncomputable def spec_l5List_k5 : List Item := posI 2000 6 [false, true] [.code spec_l5List_c]
noncomputable def spec_l5List_S4 (pick : Int × Tl15Rd) (out3 : List TEntry) : St := ⟨(bs 3 (.own 1 0 7 0 out3.length :: (bs 47 []))), [some [.var 65 [vsl 1 eU8 pick.2.b, vi pick.2.p]], some [erow 36 7 eEntry out3]]⟩
noncomputable def spec_l5List_b1 (out3 : List TEntry) : Option (Stp ((List TEntry) × Tl15Rd) (List TEntry) (List TEntry)) :=
  (bif decide ((out3.length : Int) < 41) then
 (need ((out3.length + 1) * 88 ≤ 140737488355328)
 (some (Stp.nxt (out3 ++ [(TEntry.mk true (TReq.mk 0 0) (TRun.mk [] [] 0 0))]))))
 else
 some (Stp.brk out3))
theorem spec_l5List_b1_ok (pick : Int × Tl15Rd) (res : V) (outs : List (Option V)) (x2 : Exc ((List TEntry) × Tl15Rd) (List TEntry)) (hb2 : ∀ s : List TEntry, x2 = .brk s → Fin cx spec_l5List_X res outs spec_l5List_k3 (spec_l5List_S3 pick s)) (hr2 : ∀ v : (List TEntry) × Tl15Rd, x2 = .ret v → (res = spec_l5List_R v ∧ outs = spec_l5List_O v)) (st2 : Stp ((List TEntry) × Tl15Rd) (List TEntry) (List TEntry)) (hc2 : Cont x2 (fun s : List TEntry => Fin cx spec_l5List_X res outs spec_l5List_k5 (spec_l5List_S4 pick s)) st2) (out3 : List TEntry) (h : spec_l5List_b1 out3 = some st2) : Fin cx spec_l5List_X res outs spec_l5List_k5 (spec_l5List_S4 pick out3) :=
  (condD h (fun e2 h =>
 (needD h fun e3 h =>
 (nxtD h hc2 fun hI => (Fin.seg [[(2, { d := some true })], [(2, { a := .ck [none, none, none, some 2, some 2, none, none] }), (3, { v := some (.own 8 0 7 0 (out3 ++ [(TEntry.mk true (TReq.mk 0 0) (TRun.mk [] [] 0 0))]).length), e := some (erow 36 7 eEntry (out3 ++ [(TEntry.mk true (TReq.mk 0 0) (TRun.mk [] [] 0 0))])) })]] [] [3] [(8, 0)] [decide ((out3.length : Int) < 41) = true, V.own 8 0 7 0 (out3.length + 1) = .own 8 0 7 0 (out3 ++ [(TEntry.mk true (TReq.mk 0 0) (TRun.mk [] [] 0 0))]).length, Ent.row 36 7 (out3.length + 1) (out3.map eEntry ++ [eEntry (TEntry.mk true (TReq.mk 0 0) (TRun.mk [] [] 0 0))]) = erow 36 7 eEntry (out3 ++ [(TEntry.mk true (TReq.mk 0 0) (TRun.mk [] [] 0 0))]), out3.length = out3.length, (out3.length + 1) * 88 ≤ 140737488355328, 1 = [(TEntry.mk true (TReq.mk 0 0) (TRun.mk [] [] 0 0))].length] (.cons e2 (.cons (by first | exact congrArg (V.own 8 0 7 0) List.length_append.symm | simp) (.cons (row_app rfl) (.cons rfl (.cons e3 (.cons (by rfl) .nil)))))) hI (by kernel_rfl))))) (fun e2 h =>
 (brkD h hc2 fun e => (Fin.seg [[(2, { d := some false })]] [] [3] [(1, 0)] [decide ((out3.length : Int) < 41) = false] (.cons e2 .nil) (hb2 _ e) (by kernel_rfl)))))
theorem spec_l5List_b1_loop (pick : Int × Tl15Rd) (res : V) (outs : List (Option V)) (x2 : Exc ((List TEntry) × Tl15Rd) (List TEntry)) (hb2 : ∀ s : List TEntry, x2 = .brk s → Fin cx spec_l5List_X res outs spec_l5List_k3 (spec_l5List_S3 pick s)) (hr2 : ∀ v : (List TEntry) × Tl15Rd, x2 = .ret v → (res = spec_l5List_R v ∧ outs = spec_l5List_O v)) (s : List TEntry) (h : loop (fun s : List TEntry => spec_l5List_b1 s) s = some x2) : Fin cx spec_l5List_X res outs spec_l5List_k5 (spec_l5List_S4 pick s) :=
  loopD (I := fun s : List TEntry => Fin cx spec_l5List_X res outs spec_l5List_k5 (spec_l5List_S4 pick s)) h fun s st h hc => spec_l5List_b1_ok pick res outs x2 hb2 hr2 st hc s h
noncomputable def spec_l5List_k6 (r_2 : Tl15Rd) (out1 : List TEntry) : Option ((List TEntry) × Tl15Rd) :=
  ((((spec_l15Rd_pick r_2 30).bind fun pick =>
 (bif (pick.1 == 0) then
 ((loop (fun s : List TEntry => spec_l5List_b1 s) out1).bind fun x => x.go (fun r => some (Exc.ret r)) fun s => spec_l5List_k4 pick s)
 else
 some (Exc.brk (pick.2, out1)))) : Option (Exc ((List TEntry) × Tl15Rd) (Tl15Rd × List TEntry))).bind fun x => x.go some fun j => spec_l5List_j1 j.1 j.2)
theorem spec_l5List_k6_ok (r : (List TEntry) × Tl15Rd) (r_2 : Tl15Rd) (out1 : List TEntry) (h : spec_l5List_k6 r_2 out1 = some r) : Fin cx spec_l5List_X (spec_l5List_R r) (spec_l5List_O r) spec_l5List_k1 (spec_l5List_S1 r_2 out1) :=
  (joinD (I := fun j : Tl15Rd × List TEntry => Fin cx spec_l5List_X (spec_l5List_R r) (spec_l5List_O r) spec_l5List_k2 (spec_l5List_S2 j.1 j.2)) h (fun j h => spec_l5List_j1_ok r j.1 j.2 h) (fun x1 h hc1 =>
  (bindD h fun pick hpick h =>
 (condD h (fun e1 h =>
 (loopJ h fun x hl hr hb => (Fin.seg [[(1, { a := .call [.ptr [some 1, none] [], .val [] []] false (spec_l15Rd_pick_R pick) (spec_l15Rd_pick_O pick) }), (2, { d := some true })]] [] [3] [(1, 0)] [ACalls cx.P 18 [.optr 65 (el15Rd r_2), vi 30] (spec_l15Rd_pick_R pick) (spec_l15Rd_pick_O pick), (pick.1 == 0) = true] (.cons (spec_l15Rd_pick_ok r_2 30 pick hpick) (.cons e1 .nil)) (spec_l5List_b1_loop pick _ _ x (fun s e => spec_l5List_k4_ok pick r x1 hc1 s (hb s e)) (fun v e => ⟨congrArg spec_l5List_R (Option.some.inj (jretC (hr v e) hc1)).symm, congrArg spec_l5List_O (Option.some.inj (jretC (hr v e) hc1)).symm⟩) out1 hl) (by kernel_rfl)))) (fun e1 h =>
 (jbrkD h hc1 fun hI => (Fin.seg [[(1, { a := .call [.ptr [some 1, none] [], .val [] []] false (spec_l15Rd_pick_R pick) (spec_l15Rd_pick_O pick) }), (2, { d := some false })]] [] [3] [(1, 0)] [ACalls cx.P 18 [.optr 65 (el15Rd r_2), vi 30] (spec_l15Rd_pick_R pick) (spec_l15Rd_pick_O pick), (pick.1 == 0) = false] (.cons (spec_l15Rd_pick_ok r_2 30 pick hpick) (.cons e1 .nil)) hI (by kernel_rfl))))))))
noncomputable def spec_l5List_k7 : List Item := posI 2000 4 [] [.code spec_l5List_c]
noncomputable def spec_l5List_S5 (r_1 : Tl15Rd) (out : List TEntry) (Boxes : List TBox) (i : Int) (sAt : Int) (sDones : List TDone) : St := ⟨(.ptr 0 0 0 :: (bs 2 (.own 1 0 7 0 out.length :: (.ptr 2 0 0 :: (vi i :: (bs 45 [])))))), [some [.var 65 [vsl 1 eU8 r_1.b, vi r_1.p]], some [erow 36 7 eEntry out], some [.var 49 [vi sAt, .own 3 0 2 0 Boxes.length, vsl 4 eDone sDones]], some [erow 92 2 eBox Boxes]]⟩
noncomputable def spec_l5List_k8 : List Item := posI 2000 10 [true, true] [.code spec_l5List_c]
noncomputable def spec_l5List_S6 (out : List TEntry) (i : Int) (l5Any : TEntry × Tl15Rd × List TBox) (r_3 : Tl15Rd) (Boxes1 : List TBox) (sAt1 : Int) (sDones1 : List TDone) : St := ⟨(.ptr 0 0 0 :: (bs 2 (.own 1 0 7 0 (out ++ [l5Any.1]).length :: (.ptr 2 0 0 :: (vi i :: (bs 45 [])))))), [some [.var 65 [vsl 1 eU8 r_3.b, vi r_3.p]], some [erow 36 7 eEntry (out ++ [l5Any.1])], some [.var 49 [vi sAt1, .own 3 0 2 0 Boxes1.length, vsl 4 eDone sDones1]], some [erow 92 2 eBox Boxes1]]⟩
noncomputable def spec_l5List_j2 (out : List TEntry) (i : Int) (l5Any : TEntry × Tl15Rd × List TBox) (r_3 : Tl15Rd) (Boxes1 : List TBox) (sAt1 : Int) (sDones1 : List TDone) : Option (Stp ((List TEntry) × Tl15Rd) (Tl15Rd × (List TEntry) × (List TBox) × Int × Int × List TDone) (Tl15Rd × List TEntry)) :=
  some (Stp.nxt (r_3, out ++ [l5Any.1], Boxes1, w64 (i - 1), sAt1, sDones1))
theorem spec_l5List_j2_ok (out : List TEntry) (i : Int) (l5Any : TEntry × Tl15Rd × List TBox) (res : V) (outs : List (Option V)) (x1 : Exc ((List TEntry) × Tl15Rd) (Tl15Rd × List TEntry)) (hb1 : ∀ s : Tl15Rd × List TEntry, x1 = .brk s → Fin cx spec_l5List_X res outs spec_l5List_k1 (spec_l5List_S1 s.1 s.2)) (hr1 : ∀ v : (List TEntry) × Tl15Rd, x1 = .ret v → (res = spec_l5List_R v ∧ outs = spec_l5List_O v)) (st1 : Stp ((List TEntry) × Tl15Rd) (Tl15Rd × (List TEntry) × (List TBox) × Int × Int × List TDone) (Tl15Rd × List TEntry)) (hc1 : Cont x1 (fun s : Tl15Rd × (List TEntry) × (List TBox) × Int × Int × List TDone => Fin cx spec_l5List_X res outs spec_l5List_k7 (spec_l5List_S5 s.1 s.2.1 s.2.2.1 s.2.2.2.1 s.2.2.2.2.1 s.2.2.2.2.2)) st1) (r_3 : Tl15Rd) (Boxes1 : List TBox) (sAt1 : Int) (sDones1 : List TDone) (h : spec_l5List_j2 out i l5Any r_3 Boxes1 sAt1 sDones1 = some st1) : Fin cx spec_l5List_X res outs spec_l5List_k8 (spec_l5List_S6 out i l5Any r_3 Boxes1 sAt1 sDones1) :=
  (nxtD h hc1 fun hI => (Fin.seg [[]] [] [0, 3, 4, 5] [(1, 0), (2, 0), (3, 0)] [] .nil hI (by kernel_rfl)))
noncomputable def spec_l5List_b2 (r_1 : Tl15Rd) (out : List TEntry) (Boxes : List TBox) (i : Int) (sAt : Int) (sDones : List TDone) : Option (Stp ((List TEntry) × Tl15Rd) (Tl15Rd × (List TEntry) × (List TBox) × Int × Int × List TDone) (Tl15Rd × List TEntry)) :=
  (bif decide (i > 0) then
 ((spec_l5Any r_1 Boxes).bind fun l5Any =>
 (need (Boxes.length = l5Any.2.2.length)
 ((need ((out.length + 1) * 88 ≤ 140737488355328)
 (((((spec_CertEntry l5Any.1).bind fun certEntry =>
 (bif certEntry then
 ((spec_l15Rd_pick l5Any.2.1 3).bind fun pick1 =>
 (bif decide (pick1.1 > 0) then
 ((spec_l5Apply (TState.mk sAt l5Any.2.2 sDones) l5Any.1).bind fun l5Apply =>
 some (Exc.brk (pick1.2, l5Apply.1.Boxes, l5Apply.1.At, l5Apply.1.Dones)))
 else
 some (Exc.brk (pick1.2, l5Any.2.2, sAt, sDones))))
 else
 some (Exc.brk (l5Any.2.1, l5Any.2.2, sAt, sDones)))) : Option (Exc (Stp ((List TEntry) × Tl15Rd) (Tl15Rd × (List TEntry) × (List TBox) × Int × Int × List TDone) (Tl15Rd × List TEntry)) (Tl15Rd × (List TBox) × Int × List TDone))).bind fun x => x.go some fun j => spec_l5List_j2 out i l5Any j.1 j.2.1 j.2.2.1 j.2.2.2))))))
 else
 some (Stp.brk (r_1, out)))
theorem spec_l5List_b2_ok (res : V) (outs : List (Option V)) (x1 : Exc ((List TEntry) × Tl15Rd) (Tl15Rd × List TEntry)) (hb1 : ∀ s : Tl15Rd × List TEntry, x1 = .brk s → Fin cx spec_l5List_X res outs spec_l5List_k1 (spec_l5List_S1 s.1 s.2)) (hr1 : ∀ v : (List TEntry) × Tl15Rd, x1 = .ret v → (res = spec_l5List_R v ∧ outs = spec_l5List_O v)) (st1 : Stp ((List TEntry) × Tl15Rd) (Tl15Rd × (List TEntry) × (List TBox) × Int × Int × List TDone) (Tl15Rd × List TEntry)) (hc1 : Cont x1 (fun s : Tl15Rd × (List TEntry) × (List TBox) × Int × Int × List TDone => Fin cx spec_l5List_X res outs spec_l5List_k7 (spec_l5List_S5 s.1 s.2.1 s.2.2.1 s.2.2.2.1 s.2.2.2.2.1 s.2.2.2.2.2)) st1) (r_1 : Tl15Rd) (out : List TEntry) (Boxes : List TBox) (i : Int) (sAt : Int) (sDones : List TDone) (h : spec_l5List_b2 r_1 out Boxes i sAt sDones = some st1) : Fin cx spec_l5List_X res outs spec_l5List_k7 (spec_l5List_S5 r_1 out Boxes i sAt sDones) :=
  (condD h (fun e4 h =>
 (bindD h fun l5Any hl5Any h =>
 (needD h fun e5 h =>
 (needD h fun e6 h =>
 (joinD (I := fun j : Tl15Rd × (List TBox) × Int × List TDone => Fin cx spec_l5List_X res outs spec_l5List_k8 (spec_l5List_S6 out i l5Any j.1 j.2.1 j.2.2.1 j.2.2.2)) h (fun j h => spec_l5List_j2_ok out i l5Any res outs x1 hb1 hr1 st1 hc1 j.1 j.2.1 j.2.2.1 j.2.2.2 h) (fun x2 h hc2 =>
  (bindD h fun certEntry hcertEntry h =>
 (condD h (fun e7 h =>
 (bindD h fun pick1 hpick1 h =>
 (condD h (fun e8 h =>
 (bindD h fun l5Apply hl5Apply h =>
 (jbrkD h hc2 fun hI => (Fin.seg [[(1, { d := some true })], [(3, { a := .call [.ptr [some 1, none] [], .row] false (spec_l5Any_R l5Any) (spec_l5Any_O l5Any) })], [(2, { a := .ck [none, none, none, some 2, some 2, none, none] }), (3, { v := some (.own 15 0 7 0 (out ++ [l5Any.1]).length), e := some (erow 36 7 eEntry (out ++ [l5Any.1])) })], [(1, { a := .call [.val [none, none, none, some 2, some 2, none, none] []] false (spec_CertEntry_R certEntry) (spec_CertEntry_O certEntry) }), (2, { d := some true }), (4, { a := .call [.ptr [some 1, none] [], .val [] []] false (spec_l15Rd_pick_R pick1) (spec_l15Rd_pick_O pick1) }), (6, { d := some true })], [(2, { a := .call [.val [none, some 2, some 4] [none, some 92, none], .val [none, none, none, some 2, some 2, none, none] []] false (spec_l5Apply_R l5Apply) (spec_l5Apply_O l5Apply) })], []] [] [0, 3, 4, 5] [(15, 0), (2, 0), (26, 0)] [decide (i > 0) = true, ACalls cx.P 33 [.optr 65 (el15Rd r_1), vosl 92 2 eBox Boxes] (spec_l5Any_R l5Any) (spec_l5Any_O l5Any), Boxes.length = Boxes.length, V.own 15 0 7 0 (out.length + 1) = .own 15 0 7 0 (out ++ [l5Any.1]).length, Ent.row 36 7 (out.length + 1) (out.map eEntry ++ [eEntry l5Any.1]) = erow 36 7 eEntry (out ++ [l5Any.1]), out.length = out.length, (out.length + 1) * 88 ≤ 140737488355328, 1 = [l5Any.1].length, ACalls cx.P 29 [.agg (eEntry l5Any.1)] (spec_CertEntry_R certEntry) (spec_CertEntry_O certEntry), certEntry = true, ACalls cx.P 18 [.optr 65 (el15Rd l5Any.2.1), vi 3] (spec_l15Rd_pick_R pick1) (spec_l15Rd_pick_O pick1), decide (pick1.1 > 0) = true, ACalls cx.P 23 [.agg [vi (TState.mk sAt l5Any.2.2 sDones).At, vosl 92 2 eBox (TState.mk sAt l5Any.2.2 sDones).Boxes, vsl 4 eDone (TState.mk sAt l5Any.2.2 sDones).Dones], .agg (eEntry l5Any.1)] (spec_l5Apply_R l5Apply) (spec_l5Apply_O l5Apply), Boxes.length = l5Any.2.2.length] (.cons e4 (.cons (spec_l5Any_ok r_1 Boxes l5Any hl5Any) (.cons rfl (.cons (by first | exact congrArg (V.own 15 0 7 0) List.length_append.symm | simp) (.cons (row_app rfl) (.cons rfl (.cons e6 (.cons (by rfl) (.cons (spec_CertEntry_ok l5Any.1 certEntry hcertEntry) (.cons e7 (.cons (spec_l15Rd_pick_ok l5Any.2.1 3 pick1 hpick1) (.cons e8 (.cons (spec_l5Apply_ok (TState.mk sAt l5Any.2.2 sDones) l5Any.1 l5Apply hl5Apply) (.cons (by first | (simp; done) | (simp [e5]; done)) .nil)))))))))))))) hI (by kernel_rfl))))) (fun e8 h =>
 (jbrkD h hc2 fun hI => (Fin.seg [[(1, { d := some true })], [(3, { a := .call [.ptr [some 1, none] [], .row] false (spec_l5Any_R l5Any) (spec_l5Any_O l5Any) })], [(2, { a := .ck [none, none, none, some 2, some 2, none, none] }), (3, { v := some (.own 15 0 7 0 (out ++ [l5Any.1]).length), e := some (erow 36 7 eEntry (out ++ [l5Any.1])) })], [(1, { a := .call [.val [none, none, none, some 2, some 2, none, none] []] false (spec_CertEntry_R certEntry) (spec_CertEntry_O certEntry) }), (2, { d := some true }), (4, { a := .call [.ptr [some 1, none] [], .val [] []] false (spec_l15Rd_pick_R pick1) (spec_l15Rd_pick_O pick1) }), (6, { d := some false })]] [.is (.cell 2 0 1) (.own 3 0 2 0 l5Any.2.2.length)] [0, 3, 4, 5] [(15, 0), (2, 0), (3, 0)] [decide (i > 0) = true, ACalls cx.P 33 [.optr 65 (el15Rd r_1), vosl 92 2 eBox Boxes] (spec_l5Any_R l5Any) (spec_l5Any_O l5Any), Boxes.length = Boxes.length, V.own 15 0 7 0 (out.length + 1) = .own 15 0 7 0 (out ++ [l5Any.1]).length, Ent.row 36 7 (out.length + 1) (out.map eEntry ++ [eEntry l5Any.1]) = erow 36 7 eEntry (out ++ [l5Any.1]), out.length = out.length, (out.length + 1) * 88 ≤ 140737488355328, 1 = [l5Any.1].length, ACalls cx.P 29 [.agg (eEntry l5Any.1)] (spec_CertEntry_R certEntry) (spec_CertEntry_O certEntry), certEntry = true, ACalls cx.P 18 [.optr 65 (el15Rd l5Any.2.1), vi 3] (spec_l15Rd_pick_R pick1) (spec_l15Rd_pick_O pick1), decide (pick1.1 > 0) = false, (.own 3 0 2 0 Boxes.length : V) = .own 3 0 2 0 l5Any.2.2.length] (.cons e4 (.cons (spec_l5Any_ok r_1 Boxes l5Any hl5Any) (.cons rfl (.cons (by first | exact congrArg (V.own 15 0 7 0) List.length_append.symm | simp) (.cons (row_app rfl) (.cons rfl (.cons e6 (.cons (by rfl) (.cons (spec_CertEntry_ok l5Any.1 certEntry hcertEntry) (.cons e7 (.cons (spec_l15Rd_pick_ok l5Any.2.1 3 pick1 hpick1) (.cons e8 (.cons (by first | (simp; done) | (simp [e5]; done)) .nil))))))))))))) hI (by kernel_rfl))))))) (fun e7 h =>
 (jbrkD h hc2 fun hI => (Fin.seg [[(1, { d := some true })], [(3, { a := .call [.ptr [some 1, none] [], .row] false (spec_l5Any_R l5Any) (spec_l5Any_O l5Any) })], [(2, { a := .ck [none, none, none, some 2, some 2, none, none] }), (3, { v := some (.own 15 0 7 0 (out ++ [l5Any.1]).length), e := some (erow 36 7 eEntry (out ++ [l5Any.1])) })], [(1, { a := .call [.val [none, none, none, some 2, some 2, none, none] []] false (spec_CertEntry_R certEntry) (spec_CertEntry_O certEntry) }), (2, { d := some false })]] [.is (.cell 2 0 1) (.own 3 0 2 0 l5Any.2.2.length)] [0, 3, 4, 5] [(15, 0), (2, 0), (3, 0)] [decide (i > 0) = true, ACalls cx.P 33 [.optr 65 (el15Rd r_1), vosl 92 2 eBox Boxes] (spec_l5Any_R l5Any) (spec_l5Any_O l5Any), Boxes.length = Boxes.length, V.own 15 0 7 0 (out.length + 1) = .own 15 0 7 0 (out ++ [l5Any.1]).length, Ent.row 36 7 (out.length + 1) (out.map eEntry ++ [eEntry l5Any.1]) = erow 36 7 eEntry (out ++ [l5Any.1]), out.length = out.length, (out.length + 1) * 88 ≤ 140737488355328, 1 = [l5Any.1].length, ACalls cx.P 29 [.agg (eEntry l5Any.1)] (spec_CertEntry_R certEntry) (spec_CertEntry_O certEntry), certEntry = false, (.own 3 0 2 0 Boxes.length : V) = .own 3 0 2 0 l5Any.2.2.length] (.cons e4 (.cons (spec_l5Any_ok r_1 Boxes l5Any hl5Any) (.cons rfl (.cons (by first | exact congrArg (V.own 15 0 7 0) List.length_append.symm | simp) (.cons (row_app rfl) (.cons rfl (.cons e6 (.cons (by rfl) (.cons (spec_CertEntry_ok l5Any.1 certEntry hcertEntry) (.cons e7 (.cons (by first | (simp; done) | (simp [e5]; done)) .nil))))))))))) hI (by kernel_rfl)))))))))))) (fun e4 h =>
 (brkD h hc1 fun e => (Fin.seg [[(1, { d := some false })]] [] [0, 3] [(1, 0)] [decide (i > 0) = false] (.cons e4 .nil) (hb1 _ e) (by kernel_rfl)))))
theorem spec_l5List_b2_loop (res : V) (outs : List (Option V)) (x1 : Exc ((List TEntry) × Tl15Rd) (Tl15Rd × List TEntry)) (hb1 : ∀ s : Tl15Rd × List TEntry, x1 = .brk s → Fin cx spec_l5List_X res outs spec_l5List_k1 (spec_l5List_S1 s.1 s.2)) (hr1 : ∀ v : (List TEntry) × Tl15Rd, x1 = .ret v → (res = spec_l5List_R v ∧ outs = spec_l5List_O v)) (s : Tl15Rd × (List TEntry) × (List TBox) × Int × Int × List TDone) (h : loop (fun s : Tl15Rd × (List TEntry) × (List TBox) × Int × Int × List TDone => spec_l5List_b2 s.1 s.2.1 s.2.2.1 s.2.2.2.1 s.2.2.2.2.1 s.2.2.2.2.2) s = some x1) : Fin cx spec_l5List_X res outs spec_l5List_k7 (spec_l5List_S5 s.1 s.2.1 s.2.2.1 s.2.2.2.1 s.2.2.2.2.1 s.2.2.2.2.2) :=
  loopD (I := fun s : Tl15Rd × (List TEntry) × (List TBox) × Int × Int × List TDone => Fin cx spec_l5List_X res outs spec_l5List_k7 (spec_l5List_S5 s.1 s.2.1 s.2.2.1 s.2.2.2.1 s.2.2.2.2.1 s.2.2.2.2.2)) h fun s st h hc => spec_l5List_b2_ok res outs x1 hb1 hr1 st hc s.1 s.2.1 s.2.2.1 s.2.2.2.1 s.2.2.2.2.1 s.2.2.2.2.2 h
noncomputable def spec_l5List (r_ : Tl15Rd) : Option ((List TEntry) × Tl15Rd) :=
  ((spec_CertOpen).bind fun certOpen =>
 ((spec_l15Rd_num r_ [0, 3, 8, 12]).bind fun num =>
 ((loop (fun s : Tl15Rd × (List TEntry) × (List TBox) × Int × Int × List TDone => spec_l5List_b2 s.1 s.2.1 s.2.2.1 s.2.2.2.1 s.2.2.2.2.1 s.2.2.2.2.2) (num.2, ([] : List TEntry), certOpen.Boxes, num.1, certOpen.At, certOpen.Dones)).bind fun x => x.go (fun r => some r) fun s => spec_l5List_k6 s.1 s.2)))
theorem spec_l5List_fin (r_ : Tl15Rd) (r : (List TEntry) × Tl15Rd) (h : spec_l5List r_ = some r) : Fin cx spec_l5List_X (spec_l5List_R r) (spec_l5List_O r) [.code spec_l5List_c] (startS spec_l5List_X [.optr 65 (el15Rd r_)]) :=
  (bindD h fun certOpen hcertOpen h =>
 (bindD h fun num hnum h =>
 (loopJ h fun x hl hr hb => (Fin.seg [[], [(0, { a := .ck [none, none, none, some 2, some 2, none, none] })], [(0, { a := .call [] false (spec_CertOpen_R certOpen) (spec_CertOpen_O certOpen) })], [(1, { a := .ck [] }), (2, { a := .call [.ptr [some 1, none] [], .val [some 1] []] false (spec_l15Rd_num_R num) (spec_l15Rd_num_O num) })]] [.is (.tmp 3) (.own 2 0 7 0 ([] : List TEntry).length)] [0, 3, 4, 5] [(2, 0), (5, 0), (4, 0)] [ACalls cx.P 20 [] (spec_CertOpen_R certOpen) (spec_CertOpen_O certOpen), ACalls cx.P 32 [.optr 65 (el15Rd r_), vsl 1 eI [0, 3, 8, 12]] (spec_l15Rd_num_R num) (spec_l15Rd_num_O num), 4 = [0, 3, 8, 12].length, (.own 2 0 7 0 0 : V) = .own 2 0 7 0 ([] : List TEntry).length] (.cons (spec_CertOpen_ok certOpen hcertOpen) (.cons (spec_l15Rd_num_ok r_ [0, 3, 8, 12] num hnum) (.cons (by simp) (.cons (by simp) .nil)))) (spec_l5List_b2_loop _ _ x (fun s e => spec_l5List_k6_ok r s.1 s.2 (hb s e)) (fun v e => ⟨congrArg spec_l5List_R (Option.some.inj (hr v e)).symm, congrArg spec_l5List_O (Option.some.inj (hr v e)).symm⟩) (num.2, ([] : List TEntry), certOpen.Boxes, num.1, certOpen.At, certOpen.Dones) hl) (by kernel_rfl)))))
theorem spec_l5List_ok (r_ : Tl15Rd) (r : (List TEntry) × Tl15Rd) (h : spec_l5List r_ = some r) : ACalls cx.P 19 [.optr 65 (el15Rd r_)] (spec_l5List_R r) (spec_l5List_O r) :=
  ACalls.of (cx := cx) (X := spec_l5List_X) (c := spec_l5List_c) Try.func19 (by kernel_rfl) (by kernel_rfl) (by kernel_rfl) (spec_l5List_fin r_ r h)

/-! ### spec_l13List -/
noncomputable def spec_l13List_c : Code := bodyOf Try.f8
noncomputable def spec_l13List_X : Sig := { f := 8, fn := Try.f8, rms := [.val [some 7] []], oms := [some (0, .ptr [some 1, none] [])] }
noncomputable def spec_l13List_R (r : (List TEntry) × Tl15Rd) : V := vsl 7 eEntry r.1
noncomputable def spec_l13List_O (r : (List TEntry) × Tl15Rd) : List (Option V) := [some (.optr 65 (el15Rd r.2))]
noncomputable def spec_l13List_k1 : List Item := posI 2000 6 [false, false] [.code spec_l13List_c]
noncomputable def spec_l13List_S1 (w : Tl15Rd) (out1 : List TEntry) : St := ⟨(bs 3 (.own 1 0 7 0 out1.length :: (bs 49 []))), [some [.var 65 [vsl 1 eU8 w.b, vi w.p]], some [erow 36 7 eEntry out1]]⟩
noncomputable def spec_l13List_k2 (w : Tl15Rd) (out1 : List TEntry) : Option ((List TEntry) × Tl15Rd) :=
  some (out1, w)
theorem spec_l13List_k2_ok (r : (List TEntry) × Tl15Rd) (w : Tl15Rd) (out1 : List TEntry) (h : spec_l13List_k2 w out1 = some r) : Fin cx spec_l13List_X (spec_l13List_R r) (spec_l13List_O r) spec_l13List_k1 (spec_l13List_S1 w out1) :=
  (someD h fun e => (Fin.fin (cx := cx) (X := spec_l13List_X) (res := spec_l13List_R (out1, w)) (outs := spec_l13List_O (out1, w)) Try.func8 [[]] [out1.length = out1.length] (.cons rfl .nil) (by kernel_rfl)).is (congrArg spec_l13List_R e) (congrArg spec_l13List_O e))
noncomputable def spec_l13List_k3 : List Item := posI 2000 5 [false] [.code spec_l13List_c]
noncomputable def spec_l13List_S2 (r_1 : Tl15Rd) (out : List TEntry) (Boxes : List TBox) (i : Int) (sAt : Int) (sDones : List TDone) : St := ⟨(.ptr 0 0 0 :: (bs 2 (.own 1 0 7 0 out.length :: (.ptr 2 0 0 :: (vi i :: (bs 47 [])))))), [some [.var 65 [vsl 1 eU8 r_1.b, vi r_1.p]], some [erow 36 7 eEntry out], some [.var 49 [vi sAt, .own 3 0 2 0 Boxes.length, vsl 4 eDone sDones]], some [erow 92 2 eBox Boxes]]⟩
noncomputable def spec_l13List_k4 : List Item := posI 2000 12 [false, true, false, true] [.code spec_l13List_c]
noncomputable def spec_l13List_S3 (out : List TEntry) (i : Int) (pick2 : Int × Tl15Rd) (execRun : TRun) (r_2 : Tl15Rd) (Boxes1 : List TBox) (sAt1 : Int) (sDones1 : List TDone) : St := ⟨(.ptr 0 0 0 :: (bs 2 (.own 1 0 7 0 (out ++ [(TEntry.mk false (TReq.mk pick2.1 (w64 (1 + (out.length : Int)))) execRun)]).length :: (.ptr 2 0 0 :: (vi i :: (bs 47 [])))))), [some [.var 65 [vsl 1 eU8 r_2.b, vi r_2.p]], some [erow 36 7 eEntry (out ++ [(TEntry.mk false (TReq.mk pick2.1 (w64 (1 + (out.length : Int)))) execRun)])], some [.var 49 [vi sAt1, .own 3 0 2 0 Boxes1.length, vsl 4 eDone sDones1]], some [erow 92 2 eBox Boxes1]]⟩
noncomputable def spec_l13List_j1 (out : List TEntry) (i : Int) (pick2 : Int × Tl15Rd) (execRun : TRun) (r_2 : Tl15Rd) (Boxes1 : List TBox) (sAt1 : Int) (sDones1 : List TDone) : Option (Stp ((List TEntry) × Tl15Rd) (Tl15Rd × (List TEntry) × (List TBox) × Int × Int × List TDone) (Tl15Rd × List TEntry)) :=
  some (Stp.nxt (r_2, out ++ [(TEntry.mk false (TReq.mk pick2.1 (w64 (1 + (out.length : Int)))) execRun)], Boxes1, w64 (i - 1), sAt1, sDones1))
theorem spec_l13List_j1_ok (out : List TEntry) (i : Int) (pick2 : Int × Tl15Rd) (execRun : TRun) (res : V) (outs : List (Option V)) (x1 : Exc ((List TEntry) × Tl15Rd) (Tl15Rd × List TEntry)) (hb1 : ∀ s : Tl15Rd × List TEntry, x1 = .brk s → Fin cx spec_l13List_X res outs spec_l13List_k1 (spec_l13List_S1 s.1 s.2)) (hr1 : ∀ v : (List TEntry) × Tl15Rd, x1 = .ret v → (res = spec_l13List_R v ∧ outs = spec_l13List_O v)) (st1 : Stp ((List TEntry) × Tl15Rd) (Tl15Rd × (List TEntry) × (List TBox) × Int × Int × List TDone) (Tl15Rd × List TEntry)) (hc1 : Cont x1 (fun s : Tl15Rd × (List TEntry) × (List TBox) × Int × Int × List TDone => Fin cx spec_l13List_X res outs spec_l13List_k3 (spec_l13List_S2 s.1 s.2.1 s.2.2.1 s.2.2.2.1 s.2.2.2.2.1 s.2.2.2.2.2)) st1) (r_2 : Tl15Rd) (Boxes1 : List TBox) (sAt1 : Int) (sDones1 : List TDone) (h : spec_l13List_j1 out i pick2 execRun r_2 Boxes1 sAt1 sDones1 = some st1) : Fin cx spec_l13List_X res outs spec_l13List_k4 (spec_l13List_S3 out i pick2 execRun r_2 Boxes1 sAt1 sDones1) :=
  (nxtD h hc1 fun hI => (Fin.seg [[]] [] [0, 3, 4, 5] [(1, 0), (2, 0), (3, 0)] [] .nil hI (by kernel_rfl)))
noncomputable def spec_l13List_b1 (r_1 : Tl15Rd) (out : List TEntry) (Boxes : List TBox) (i : Int) (sAt : Int) (sDones : List TDone) : Option (Stp ((List TEntry) × Tl15Rd) (Tl15Rd × (List TEntry) × (List TBox) × Int × Int × List TDone) (Tl15Rd × List TEntry)) :=
  (bif decide (i > 0) then
 ((spec_l15Rd_pick r_1 3).bind fun pick2 =>
 ((spec_l2Prog pick2.2).bind fun l2Prog =>
 ((spec_ExecRun Boxes l2Prog.1).bind fun execRun =>
 (bif (execRun.Code == 3) then
 some (Stp.nxt (l2Prog.2, out, Boxes, w64 (i - 1), sAt, sDones))
 else
 (need ((out.length + 1) * 88 ≤ 140737488355328)
 (((((spec_l15Rd_pick l2Prog.2 4).bind fun pick3 =>
 (bif decide (pick3.1 > 0) then
 ((spec_l5Apply (TState.mk sAt Boxes sDones) (TEntry.mk false (TReq.mk pick2.1 (w64 (1 + (out.length : Int)))) execRun)).bind fun l5Apply =>
 some (Exc.brk (pick3.2, l5Apply.1.Boxes, l5Apply.1.At, l5Apply.1.Dones)))
 else
 some (Exc.brk (pick3.2, Boxes, sAt, sDones)))) : Option (Exc (Stp ((List TEntry) × Tl15Rd) (Tl15Rd × (List TEntry) × (List TBox) × Int × Int × List TDone) (Tl15Rd × List TEntry)) (Tl15Rd × (List TBox) × Int × List TDone))).bind fun x => x.go some fun j => spec_l13List_j1 out i pick2 execRun j.1 j.2.1 j.2.2.1 j.2.2.2)))))))
 else
 some (Stp.brk (r_1, out)))
theorem spec_l13List_b1_ok (res : V) (outs : List (Option V)) (x1 : Exc ((List TEntry) × Tl15Rd) (Tl15Rd × List TEntry)) (hb1 : ∀ s : Tl15Rd × List TEntry, x1 = .brk s → Fin cx spec_l13List_X res outs spec_l13List_k1 (spec_l13List_S1 s.1 s.2)) (hr1 : ∀ v : (List TEntry) × Tl15Rd, x1 = .ret v → (res = spec_l13List_R v ∧ outs = spec_l13List_O v)) (st1 : Stp ((List TEntry) × Tl15Rd) (Tl15Rd × (List TEntry) × (List TBox) × Int × Int × List TDone) (Tl15Rd × List TEntry)) (hc1 : Cont x1 (fun s : Tl15Rd × (List TEntry) × (List TBox) × Int × Int × List TDone => Fin cx spec_l13List_X res outs spec_l13List_k3 (spec_l13List_S2 s.1 s.2.1 s.2.2.1 s.2.2.2.1 s.2.2.2.2.1 s.2.2.2.2.2)) st1) (r_1 : Tl15Rd) (out : List TEntry) (Boxes : List TBox) (i : Int) (sAt : Int) (sDones : List TDone) (h : spec_l13List_b1 r_1 out Boxes i sAt sDones = some st1) : Fin cx spec_l13List_X res outs spec_l13List_k3 (spec_l13List_S2 r_1 out Boxes i sAt sDones) :=
  (condD h (fun e2 h =>
 (bindD h fun pick2 hpick2 h =>
 (bindD h fun l2Prog hl2Prog h =>
 (bindD h fun execRun hexecRun h =>
 (condD h (fun e3 h =>
 (nxtD h hc1 fun hI => (Fin.seg [[(1, { d := some true })], [(1, { a := .call [.ptr [some 1, none] [], .val [] []] false (spec_l15Rd_pick_R pick2) (spec_l15Rd_pick_O pick2) }), (9, { a := .call [.ptr [some 1, none] []] false (spec_l2Prog_R l2Prog) (spec_l2Prog_O l2Prog) }), (10, { a := .call [.val [some 2] [], .val [some 4] []] true (spec_ExecRun_R execRun) (spec_ExecRun_O execRun) })], [(3, { d := some true })], []] [] [0, 3, 4, 5] [(1, 0), (2, 0), (3, 0)] [decide (i > 0) = true, ACalls cx.P 18 [.optr 65 (el15Rd r_1), vi 3] (spec_l15Rd_pick_R pick2) (spec_l15Rd_pick_O pick2), ACalls cx.P 22 [.optr 65 (el15Rd pick2.2)] (spec_l2Prog_R l2Prog) (spec_l2Prog_O l2Prog), ACalls cx.P 21 [vsl 2 eBox Boxes, vsl 4 eIns l2Prog.1] (spec_ExecRun_R execRun) (spec_ExecRun_O execRun), ScalR (spec_ExecRun_R execRun) ∧ ScalO (spec_ExecRun_O execRun), Boxes.length = Boxes.length, (execRun.Code == 3) = true] (.cons e2 (.cons (spec_l15Rd_pick_ok r_1 3 pick2 hpick2) (.cons (spec_l2Prog_ok pick2.2 l2Prog hl2Prog) (.cons (spec_ExecRun_ok Boxes l2Prog.1 execRun hexecRun) (.cons ⟨(by simp [spec_ExecRun_R, ScalR, ScalA, ScalC, V.simple, vi, vosl, eI, ePut, eRead, eRun]), scalO_none 2⟩ (.cons rfl (.cons e3 .nil))))))) hI (by kernel_rfl)))) (fun e3 h =>
 (needD h fun e4 h =>
 (joinD (I := fun j : Tl15Rd × (List TBox) × Int × List TDone => Fin cx spec_l13List_X res outs spec_l13List_k4 (spec_l13List_S3 out i pick2 execRun j.1 j.2.1 j.2.2.1 j.2.2.2)) h (fun j h => spec_l13List_j1_ok out i pick2 execRun res outs x1 hb1 hr1 st1 hc1 j.1 j.2.1 j.2.2.1 j.2.2.2 h) (fun x2 h hc2 =>
  (bindD h fun pick3 hpick3 h =>
 (condD h (fun e5 h =>
 (bindD h fun l5Apply hl5Apply h =>
 (jbrkD h hc2 fun hI => (Fin.seg [[(1, { d := some true })], [(1, { a := .call [.ptr [some 1, none] [], .val [] []] false (spec_l15Rd_pick_R pick2) (spec_l15Rd_pick_O pick2) }), (9, { a := .call [.ptr [some 1, none] []] false (spec_l2Prog_R l2Prog) (spec_l2Prog_O l2Prog) }), (10, { a := .call [.val [some 2] [], .val [some 4] []] true (spec_ExecRun_R execRun) (spec_ExecRun_O execRun) })], [(3, { d := some false })], [(2, { a := .ck [none, none, none, some 2, some 2, none, none] }), (3, { v := some (.own 27 0 7 0 (out ++ [(TEntry.mk false (TReq.mk pick2.1 (w64 (1 + (out.length : Int)))) execRun)]).length), e := some (erow 36 7 eEntry (out ++ [(TEntry.mk false (TReq.mk pick2.1 (w64 (1 + (out.length : Int)))) execRun)])) })], [(1, { a := .call [.ptr [some 1, none] [], .val [] []] false (spec_l15Rd_pick_R pick3) (spec_l15Rd_pick_O pick3) }), (2, { d := some true })], [(2, { a := .call [.val [none, some 2, some 4] [none, some 92, none], .val [none, none, none, some 2, some 2, none, none] []] false (spec_l5Apply_R l5Apply) (spec_l5Apply_O l5Apply) })], []] [] [0, 3, 4, 5] [(27, 0), (2, 0), (34, 0)] [decide (i > 0) = true, ACalls cx.P 18 [.optr 65 (el15Rd r_1), vi 3] (spec_l15Rd_pick_R pick2) (spec_l15Rd_pick_O pick2), ACalls cx.P 22 [.optr 65 (el15Rd pick2.2)] (spec_l2Prog_R l2Prog) (spec_l2Prog_O l2Prog), ACalls cx.P 21 [vsl 2 eBox Boxes, vsl 4 eIns l2Prog.1] (spec_ExecRun_R execRun) (spec_ExecRun_O execRun), ScalR (spec_ExecRun_R execRun) ∧ ScalO (spec_ExecRun_O execRun), Boxes.length = Boxes.length, (execRun.Code == 3) = false, execRun.Reads.length = execRun.Reads.length, execRun.Puts.length = execRun.Puts.length, V.own 27 0 7 0 (out.length + 1) = .own 27 0 7 0 (out ++ [(TEntry.mk false (TReq.mk pick2.1 (w64 (1 + (out.length : Int)))) execRun)]).length, Ent.row 36 7 (out.length + 1) (out.map eEntry ++ [eEntry (TEntry.mk false (TReq.mk pick2.1 (w64 (1 + (out.length : Int)))) execRun)]) = erow 36 7 eEntry (out ++ [(TEntry.mk false (TReq.mk pick2.1 (w64 (1 + (out.length : Int)))) execRun)]), out.length = out.length, (out.length + 1) * 88 ≤ 140737488355328, 1 = [(TEntry.mk false (TReq.mk pick2.1 (w64 (1 + (out.length : Int)))) execRun)].length, ACalls cx.P 18 [.optr 65 (el15Rd l2Prog.2), vi 4] (spec_l15Rd_pick_R pick3) (spec_l15Rd_pick_O pick3), decide (pick3.1 > 0) = true, ACalls cx.P 23 [.agg [vi (TState.mk sAt Boxes sDones).At, vosl 92 2 eBox (TState.mk sAt Boxes sDones).Boxes, vsl 4 eDone (TState.mk sAt Boxes sDones).Dones], .agg (eEntry (TEntry.mk false (TReq.mk pick2.1 (w64 (1 + (out.length : Int)))) execRun))] (spec_l5Apply_R l5Apply) (spec_l5Apply_O l5Apply), Boxes.length = Boxes.length, execRun.Reads.length = execRun.Reads.length, execRun.Puts.length = execRun.Puts.length] (.cons e2 (.cons (spec_l15Rd_pick_ok r_1 3 pick2 hpick2) (.cons (spec_l2Prog_ok pick2.2 l2Prog hl2Prog) (.cons (spec_ExecRun_ok Boxes l2Prog.1 execRun hexecRun) (.cons ⟨(by simp [spec_ExecRun_R, ScalR, ScalA, ScalC, V.simple, vi, vosl, eI, ePut, eRead, eRun]), scalO_none 2⟩ (.cons rfl (.cons e3 (.cons rfl (.cons rfl (.cons (by first | exact congrArg (V.own 27 0 7 0) List.length_append.symm | simp) (.cons (row_app rfl) (.cons rfl (.cons e4 (.cons (by rfl) (.cons (spec_l15Rd_pick_ok l2Prog.2 4 pick3 hpick3) (.cons e5 (.cons (spec_l5Apply_ok (TState.mk sAt Boxes sDones) (TEntry.mk false (TReq.mk pick2.1 (w64 (1 + (out.length : Int)))) execRun) l5Apply hl5Apply) (.cons rfl (.cons rfl (.cons rfl .nil)))))))))))))))))))) hI (by kernel_rfl))))) (fun e5 h =>
 (jbrkD h hc2 fun hI => (Fin.seg [[(1, { d := some true })], [(1, { a := .call [.ptr [some 1, none] [], .val [] []] false (spec_l15Rd_pick_R pick2) (spec_l15Rd_pick_O pick2) }), (9, { a := .call [.ptr [some 1, none] []] false (spec_l2Prog_R l2Prog) (spec_l2Prog_O l2Prog) }), (10, { a := .call [.val [some 2] [], .val [some 4] []] true (spec_ExecRun_R execRun) (spec_ExecRun_O execRun) })], [(3, { d := some false })], [(2, { a := .ck [none, none, none, some 2, some 2, none, none] }), (3, { v := some (.own 27 0 7 0 (out ++ [(TEntry.mk false (TReq.mk pick2.1 (w64 (1 + (out.length : Int)))) execRun)]).length), e := some (erow 36 7 eEntry (out ++ [(TEntry.mk false (TReq.mk pick2.1 (w64 (1 + (out.length : Int)))) execRun)])) })], [(1, { a := .call [.ptr [some 1, none] [], .val [] []] false (spec_l15Rd_pick_R pick3) (spec_l15Rd_pick_O pick3) }), (2, { d := some false })]] [] [0, 3, 4, 5] [(27, 0), (2, 0), (3, 0)] [decide (i > 0) = true, ACalls cx.P 18 [.optr 65 (el15Rd r_1), vi 3] (spec_l15Rd_pick_R pick2) (spec_l15Rd_pick_O pick2), ACalls cx.P 22 [.optr 65 (el15Rd pick2.2)] (spec_l2Prog_R l2Prog) (spec_l2Prog_O l2Prog), ACalls cx.P 21 [vsl 2 eBox Boxes, vsl 4 eIns l2Prog.1] (spec_ExecRun_R execRun) (spec_ExecRun_O execRun), ScalR (spec_ExecRun_R execRun) ∧ ScalO (spec_ExecRun_O execRun), Boxes.length = Boxes.length, (execRun.Code == 3) = false, execRun.Reads.length = execRun.Reads.length, execRun.Puts.length = execRun.Puts.length, V.own 27 0 7 0 (out.length + 1) = .own 27 0 7 0 (out ++ [(TEntry.mk false (TReq.mk pick2.1 (w64 (1 + (out.length : Int)))) execRun)]).length, Ent.row 36 7 (out.length + 1) (out.map eEntry ++ [eEntry (TEntry.mk false (TReq.mk pick2.1 (w64 (1 + (out.length : Int)))) execRun)]) = erow 36 7 eEntry (out ++ [(TEntry.mk false (TReq.mk pick2.1 (w64 (1 + (out.length : Int)))) execRun)]), out.length = out.length, (out.length + 1) * 88 ≤ 140737488355328, 1 = [(TEntry.mk false (TReq.mk pick2.1 (w64 (1 + (out.length : Int)))) execRun)].length, ACalls cx.P 18 [.optr 65 (el15Rd l2Prog.2), vi 4] (spec_l15Rd_pick_R pick3) (spec_l15Rd_pick_O pick3), decide (pick3.1 > 0) = false] (.cons e2 (.cons (spec_l15Rd_pick_ok r_1 3 pick2 hpick2) (.cons (spec_l2Prog_ok pick2.2 l2Prog hl2Prog) (.cons (spec_ExecRun_ok Boxes l2Prog.1 execRun hexecRun) (.cons ⟨(by simp [spec_ExecRun_R, ScalR, ScalA, ScalC, V.simple, vi, vosl, eI, ePut, eRead, eRun]), scalO_none 2⟩ (.cons rfl (.cons e3 (.cons rfl (.cons rfl (.cons (by first | exact congrArg (V.own 27 0 7 0) List.length_append.symm | simp) (.cons (row_app rfl) (.cons rfl (.cons e4 (.cons (by rfl) (.cons (spec_l15Rd_pick_ok l2Prog.2 4 pick3 hpick3) (.cons e5 .nil)))))))))))))))) hI (by kernel_rfl))))))))))))))) (fun e2 h =>
 (brkD h hc1 fun e => (Fin.seg [[(1, { d := some false })]] [] [3] [(1, 0)] [decide (i > 0) = false] (.cons e2 .nil) (hb1 _ e) (by kernel_rfl)))))
theorem spec_l13List_b1_loop (res : V) (outs : List (Option V)) (x1 : Exc ((List TEntry) × Tl15Rd) (Tl15Rd × List TEntry)) (hb1 : ∀ s : Tl15Rd × List TEntry, x1 = .brk s → Fin cx spec_l13List_X res outs spec_l13List_k1 (spec_l13List_S1 s.1 s.2)) (hr1 : ∀ v : (List TEntry) × Tl15Rd, x1 = .ret v → (res = spec_l13List_R v ∧ outs = spec_l13List_O v)) (s : Tl15Rd × (List TEntry) × (List TBox) × Int × Int × List TDone) (h : loop (fun s : Tl15Rd × (List TEntry) × (List TBox) × Int × Int × List TDone => spec_l13List_b1 s.1 s.2.1 s.2.2.1 s.2.2.2.1 s.2.2.2.2.1 s.2.2.2.2.2) s = some x1) : Fin cx spec_l13List_X res outs spec_l13List_k3 (spec_l13List_S2 s.1 s.2.1 s.2.2.1 s.2.2.2.1 s.2.2.2.2.1 s.2.2.2.2.2) :=
  loopD (I := fun s : Tl15Rd × (List TEntry) × (List TBox) × Int × Int × List TDone => Fin cx spec_l13List_X res outs spec_l13List_k3 (spec_l13List_S2 s.1 s.2.1 s.2.2.1 s.2.2.2.1 s.2.2.2.2.1 s.2.2.2.2.2)) h fun s st h hc => spec_l13List_b1_ok res outs x1 hb1 hr1 st hc s.1 s.2.1 s.2.2.1 s.2.2.2.1 s.2.2.2.2.1 s.2.2.2.2.2 h
noncomputable def spec_l13List (r_ : Tl15Rd) : Option ((List TEntry) × Tl15Rd) :=
  ((spec_l15Rd_pick r_ 4).bind fun pick =>
 (bif (pick.1 == 0) then
 ((spec_l5List pick.2).bind fun l5List =>
 some (l5List.1, l5List.2))
 else
 ((spec_CertOpen).bind fun certOpen =>
 ((spec_l15Rd_pick pick.2 9).bind fun pick1 =>
 ((loop (fun s : Tl15Rd × (List TEntry) × (List TBox) × Int × Int × List TDone => spec_l13List_b1 s.1 s.2.1 s.2.2.1 s.2.2.2.1 s.2.2.2.2.1 s.2.2.2.2.2) (pick1.2, ([] : List TEntry), certOpen.Boxes, pick1.1, certOpen.At, certOpen.Dones)).bind fun x => x.go (fun r => some r) fun s => spec_l13List_k2 s.1 s.2)))))
theorem spec_l13List_fin (r_ : Tl15Rd) (r : (List TEntry) × Tl15Rd) (h : spec_l13List r_ = some r) : Fin cx spec_l13List_X (spec_l13List_R r) (spec_l13List_O r) [.code spec_l13List_c] (startS spec_l13List_X [.optr 65 (el15Rd r_)]) :=
  (bindD h fun pick hpick h =>
 (condD h (fun e1 h =>
 (bindD h fun l5List hl5List h =>
 (someD h fun e => (Fin.fin (cx := cx) (X := spec_l13List_X) (res := spec_l13List_R (l5List.1, l5List.2)) (outs := spec_l13List_O (l5List.1, l5List.2)) Try.func8 [[], [(1, { a := .call [.ptr [some 1, none] [], .val [] []] false (spec_l15Rd_pick_R pick) (spec_l15Rd_pick_O pick) }), (2, { d := some true })], [(1, { a := .call [.ptr [some 1, none] []] false (spec_l5List_R l5List) (spec_l5List_O l5List) })]] [ACalls cx.P 18 [.optr 65 (el15Rd r_), vi 4] (spec_l15Rd_pick_R pick) (spec_l15Rd_pick_O pick), (pick.1 == 0) = true, ACalls cx.P 19 [.optr 65 (el15Rd pick.2)] (spec_l5List_R l5List) (spec_l5List_O l5List)] (.cons (spec_l15Rd_pick_ok r_ 4 pick hpick) (.cons e1 (.cons (spec_l5List_ok pick.2 l5List hl5List) .nil))) (by kernel_rfl)).is (congrArg spec_l13List_R e) (congrArg spec_l13List_O e)))) (fun e1 h =>
 (bindD h fun certOpen hcertOpen h =>
 (bindD h fun pick1 hpick1 h =>
 (loopJ h fun x hl hr hb => (Fin.seg [[], [(1, { a := .call [.ptr [some 1, none] [], .val [] []] false (spec_l15Rd_pick_R pick) (spec_l15Rd_pick_O pick) }), (2, { d := some false })], [(0, { a := .ck [none, none, none, some 2, some 2, none, none] })], [(0, { a := .call [] false (spec_CertOpen_R certOpen) (spec_CertOpen_O certOpen) })], [(1, { a := .call [.ptr [some 1, none] [], .val [] []] false (spec_l15Rd_pick_R pick1) (spec_l15Rd_pick_O pick1) })]] [.is (.tmp 3) (.own 5 0 7 0 ([] : List TEntry).length)] [0, 3, 4, 5] [(5, 0), (8, 0), (7, 0)] [ACalls cx.P 18 [.optr 65 (el15Rd r_), vi 4] (spec_l15Rd_pick_R pick) (spec_l15Rd_pick_O pick), (pick.1 == 0) = false, ACalls cx.P 20 [] (spec_CertOpen_R certOpen) (spec_CertOpen_O certOpen), ACalls cx.P 18 [.optr 65 (el15Rd pick.2), vi 9] (spec_l15Rd_pick_R pick1) (spec_l15Rd_pick_O pick1), (.own 5 0 7 0 0 : V) = .own 5 0 7 0 ([] : List TEntry).length] (.cons (spec_l15Rd_pick_ok r_ 4 pick hpick) (.cons e1 (.cons (spec_CertOpen_ok certOpen hcertOpen) (.cons (spec_l15Rd_pick_ok pick.2 9 pick1 hpick1) (.cons (by simp) .nil))))) (spec_l13List_b1_loop _ _ x (fun s e => spec_l13List_k2_ok r s.1 s.2 (hb s e)) (fun v e => ⟨congrArg spec_l13List_R (Option.some.inj (hr v e)).symm, congrArg spec_l13List_O (Option.some.inj (hr v e)).symm⟩) (pick1.2, ([] : List TEntry), certOpen.Boxes, pick1.1, certOpen.At, certOpen.Dones) hl) (by kernel_rfl))))))))
theorem spec_l13List_ok (r_ : Tl15Rd) (r : (List TEntry) × Tl15Rd) (h : spec_l13List r_ = some r) : ACalls cx.P 8 [.optr 65 (el15Rd r_)] (spec_l13List_R r) (spec_l13List_O r) :=
  ACalls.of (cx := cx) (X := spec_l13List_X) (c := spec_l13List_c) Try.func8 (by kernel_rfl) (by kernel_rfl) (by kernel_rfl) (spec_l13List_fin r_ r h)

/-! ### spec_DrawHistClashes -/
noncomputable def spec_DrawHistClashes_c : Code := bodyOf Try.f4
noncomputable def spec_DrawHistClashes_X : Sig := { f := 4, fn := Try.f4, rms := [.val [some 7] []], oms := [none] }
noncomputable def spec_DrawHistClashes_R (r : List TEntry) : V := vsl 7 eEntry r
noncomputable def spec_DrawHistClashes_O (r : List TEntry) : List (Option V) := [none]
noncomputable def spec_DrawHistClashes (code : List Int) : Option (List TEntry) :=
  ((spec_l15Open code).bind fun l15Open =>
 ((spec_l13List l15Open).bind fun l13List =>
 some l13List.1))
theorem spec_DrawHistClashes_fin (code : List Int) (r : List TEntry) (h : spec_DrawHistClashes code = some r) : Fin cx spec_DrawHistClashes_X (spec_DrawHistClashes_R r) (spec_DrawHistClashes_O r) [.code spec_DrawHistClashes_c] (startS spec_DrawHistClashes_X [vsl 1 eU8 code]) :=
  (bindD h fun l15Open hl15Open h =>
 (bindD h fun l13List hl13List h =>
 (someD h fun e => (Fin.fin (cx := cx) (X := spec_DrawHistClashes_X) (res := spec_DrawHistClashes_R l13List.1) (outs := spec_DrawHistClashes_O l13List.1) Try.func4 [[], [(1, { a := .call [.val [some 1] []] false (spec_l15Open_R l15Open) (spec_l15Open_O l15Open) }), (2, { a := .call [.ptr [some 1, none] []] false (spec_l13List_R l13List) (spec_l13List_O l13List) })]] [ACalls cx.P 9 [vsl 1 eU8 code] (spec_l15Open_R l15Open) (spec_l15Open_O l15Open), ACalls cx.P 8 [.optr 65 (el15Rd l15Open)] (spec_l13List_R l13List) (spec_l13List_O l13List)] (.cons (spec_l15Open_ok code l15Open hl15Open) (.cons (spec_l13List_ok l15Open l13List hl13List) .nil)) (by kernel_rfl)).is (congrArg spec_DrawHistClashes_R e) (congrArg spec_DrawHistClashes_O e))))
theorem spec_DrawHistClashes_ok (code : List Int) (r : List TEntry) (h : spec_DrawHistClashes code = some r) : ACalls cx.P 4 [vsl 1 eU8 code] (spec_DrawHistClashes_R r) (spec_DrawHistClashes_O r) :=
  ACalls.of (cx := cx) (X := spec_DrawHistClashes_X) (c := spec_DrawHistClashes_c) Try.func4 (by kernel_rfl) (by kernel_rfl) (by kernel_rfl) (spec_DrawHistClashes_fin code r h)


end Go.Proofs.Ythefcgmhjonopaa
