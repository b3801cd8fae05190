/- Functions of the program, and that their calls come to this. -/
import Derived.Test.YtidcofmgigokcaaF3
set_option linter.unusedVariables false
set_option linter.unusedSimpArgs false
namespace Go.Proofs.Ytidcofmgigokcaa
open Go

/-! ### impl_ExecOk -/
noncomputable def impl_ExecOk_c : Code := bodyOf Try.f37
noncomputable def impl_ExecOk_X : Sig := { f := 37, fn := Try.f37, rms := [.val [] []], oms := [none] }
noncomputable def impl_ExecOk_R (r : Bool) : V := .b r
noncomputable def impl_ExecOk_O (r : Bool) : List (Option V) := [none]
noncomputable def impl_ExecOk_k1 : List Item := posI 2000 2 [false] [.code impl_ExecOk_c]
noncomputable def impl_ExecOk_S1 (r_ : TRun) : St := ⟨(bs 1 (.ptr 1 0 0 :: (bs 98 []))), [some [], some [.var 43 [vsl 2 eRead r_.Reads, vsl 2 ePut r_.Puts, vi r_.Val, vi r_.Code]]]⟩
noncomputable def impl_ExecOk_k2 : List Item := posI 2000 5 [false, false] [.code impl_ExecOk_c]
noncomputable def impl_ExecOk_S2 (r_ : TRun) : St := ⟨(bs 1 (.ptr 1 0 0 :: (bs 2 (.ptr 2 0 0 :: (bs 95 []))))), [some [], some [.var 43 [vsl 2 eRead r_.Reads, vsl 2 ePut r_.Puts, vi r_.Val, vi r_.Code]], some [.arr 76 1 4 ((List.replicate 4 false).map eB)]]⟩
noncomputable def impl_ExecOk_k3 : List Item := posI 2000 7 [false, false, false] [.code impl_ExecOk_c]
noncomputable def impl_ExecOk_S3 : St := ⟨(bs 100 []), [some []]⟩
noncomputable def impl_ExecOk_k4 : Option Bool :=
  some true
theorem impl_ExecOk_k4_ok (r : Bool) (h : impl_ExecOk_k4 = some r) : Fin cx impl_ExecOk_X (impl_ExecOk_R r) (impl_ExecOk_O r) impl_ExecOk_k3 (impl_ExecOk_S3) :=
  (someD h fun e => (Fin.fin (cx := cx) (X := impl_ExecOk_X) (res := impl_ExecOk_R true) (outs := impl_ExecOk_O true) Try.func37 [[]] [] .nil (by kernel_rfl)).is (congrArg impl_ExecOk_R e) (congrArg impl_ExecOk_O e))
noncomputable def impl_ExecOk_k5 : List Item := posI 2000 6 [false, false] [.code impl_ExecOk_c]
noncomputable def impl_ExecOk_S4 (r_ : TRun) (put : List Bool) (v76 : Int) : St := ⟨(bs 4 (.ptr 1 0 0 :: (bs 69 (vsl 2 ePut r_.Puts :: (vi (r_.Puts.length : Int) :: (vi v76 :: (bs 23 []))))))), [some [], some [.arr 76 1 4 (put.map eB)]]⟩
noncomputable def impl_ExecOk_b1 (r_ : TRun) (put : List Bool) (v76 : Int) : Option (Stp Bool ((List Bool) × Int) Unit) :=
  (bif decide (v76 < (r_.Puts.length : Int)) then
 ((idx r_.Puts v76).bind fun put1 =>
 ((impl_in put1.Box 0 3).bind fun in_ =>
 (bif (!in_) then
 some (Stp.ret false)
 else
 ((idx put put1.Box).bind fun y =>
 (need (put1.Box < 4)
 ((bif y then
 some (Stp.ret false)
 else
 ((impl_in put1.Val (-1000000) 1000000).bind fun in_1 =>
 (bif (!in_1) then
 some (Stp.ret false)
 else
 (need (put1.Box < 4)
 (some (Stp.nxt (put.set put1.Box.toNat true, w64 (v76 + 1))))))))))))))
 else
 some (Stp.brk ()))
theorem impl_ExecOk_b1_ok (r_ : TRun) (res : V) (outs : List (Option V)) (x1 : Exc Bool Unit) (hb1 : ∀ s : Unit, x1 = .brk s → Fin cx impl_ExecOk_X res outs impl_ExecOk_k3 (impl_ExecOk_S3)) (hr1 : ∀ v : Bool, x1 = .ret v → (res = impl_ExecOk_R v ∧ outs = impl_ExecOk_O v)) (st1 : Stp Bool ((List Bool) × Int) Unit) (hc1 : Cont x1 (fun s : (List Bool) × Int => Fin cx impl_ExecOk_X res outs impl_ExecOk_k5 (impl_ExecOk_S4 r_ s.1 s.2)) st1) (put : List Bool) (v76 : Int) (h : impl_ExecOk_b1 r_ put v76 = some st1) : Fin cx impl_ExecOk_X res outs impl_ExecOk_k5 (impl_ExecOk_S4 r_ put v76) :=
  (condD h (fun e1 h =>
 (bindD h fun put1 hput1 h =>
 (bindD h fun in_ hin_ h =>
 (condD h (fun e2 h =>
 (retD h hc1 fun e => (Fin.fin (cx := cx) (X := impl_ExecOk_X) (res := impl_ExecOk_R false) (outs := impl_ExecOk_O false) Try.func37 [[(0, { d := some true })], [(0, { a := .row (ePut put1) })], [(2, { a := .call [.val [] [], .val [] [], .val [] []] false (impl_in_R in_) (impl_in_O in_) }), (4, { d := some true })], []] [decide (v76 < (r_.Puts.length : Int)) = true, (0 : Int) ≤ v76, v76 < ((r_.Puts.length : Nat) : Int), (r_.Puts.map ePut)[v76.toNat]? = some (ePut put1), ACalls cx.P 14 [vi put1.Box, vi 0, vi 3] (impl_in_R in_) (impl_in_O in_), (!in_) = true] (.cons e1 (.cons (idx0 hput1) (.cons (idx1 hput1) (.cons (map_idx hput1) (.cons (impl_in_ok put1.Box 0 3 in_ hin_) (.cons e2 .nil)))))) (by kernel_rfl)).is (hr1 _ e).1 (hr1 _ e).2)) (fun e2 h =>
 (bindD h fun y hy h =>
 (needD h fun e3 h =>
 (condD h (fun e4 h =>
 (retD h hc1 fun e => (Fin.fin (cx := cx) (X := impl_ExecOk_X) (res := impl_ExecOk_R false) (outs := impl_ExecOk_O false) Try.func37 [[(0, { d := some true })], [(0, { a := .row (ePut put1) })], [(2, { a := .call [.val [] [], .val [] [], .val [] []] false (impl_in_R in_) (impl_in_O in_) }), (4, { d := some false }), (8, { a := .row (eB y) }), (10, { d := some true })], []] [decide (v76 < (r_.Puts.length : Int)) = true, (0 : Int) ≤ v76, v76 < ((r_.Puts.length : Nat) : Int), (r_.Puts.map ePut)[v76.toNat]? = some (ePut put1), ACalls cx.P 14 [vi put1.Box, vi 0, vi 3] (impl_in_R in_) (impl_in_O in_), (!in_) = false, (0 : Int) ≤ put1.Box, put1.Box < ((4 : Nat) : Int), (put.map eB)[put1.Box.toNat]? = some (eB y), y = true] (.cons e1 (.cons (idx0 hput1) (.cons (idx1 hput1) (.cons (map_idx hput1) (.cons (impl_in_ok put1.Box 0 3 in_ hin_) (.cons e2 (.cons (idx0 hy) (.cons e3 (.cons (map_idx hy) (.cons e4 .nil)))))))))) (by kernel_rfl)).is (hr1 _ e).1 (hr1 _ e).2)) (fun e4 h =>
 (bindD h fun in_1 hin_1 h =>
 (condD h (fun e5 h =>
 (retD h hc1 fun e => (Fin.fin (cx := cx) (X := impl_ExecOk_X) (res := impl_ExecOk_R false) (outs := impl_ExecOk_O false) Try.func37 [[(0, { d := some true })], [(0, { a := .row (ePut put1) })], [(2, { a := .call [.val [] [], .val [] [], .val [] []] false (impl_in_R in_) (impl_in_O in_) }), (4, { d := some false }), (8, { a := .row (eB y) }), (10, { d := some false }), (13, { a := .call [.val [] [], .val [] [], .val [] []] false (impl_in_R in_1) (impl_in_O in_1) }), (15, { d := some true })], []] [decide (v76 < (r_.Puts.length : Int)) = true, (0 : Int) ≤ v76, v76 < ((r_.Puts.length : Nat) : Int), (r_.Puts.map ePut)[v76.toNat]? = some (ePut put1), ACalls cx.P 14 [vi put1.Box, vi 0, vi 3] (impl_in_R in_) (impl_in_O in_), (!in_) = false, (0 : Int) ≤ put1.Box, put1.Box < ((4 : Nat) : Int), (put.map eB)[put1.Box.toNat]? = some (eB y), y = false, ACalls cx.P 14 [vi put1.Val, vi (-1000000), vi 1000000] (impl_in_R in_1) (impl_in_O in_1), (!in_1) = true] (.cons e1 (.cons (idx0 hput1) (.cons (idx1 hput1) (.cons (map_idx hput1) (.cons (impl_in_ok put1.Box 0 3 in_ hin_) (.cons e2 (.cons (idx0 hy) (.cons e3 (.cons (map_idx hy) (.cons e4 (.cons (impl_in_ok put1.Val (-1000000) 1000000 in_1 hin_1) (.cons e5 .nil)))))))))))) (by kernel_rfl)).is (hr1 _ e).1 (hr1 _ e).2)) (fun e5 h =>
 (needD h fun e6 h =>
 (nxtD h hc1 fun hI => (Fin.seg [[(0, { d := some true })], [(0, { a := .row (ePut put1) })], [(2, { a := .call [.val [] [], .val [] [], .val [] []] false (impl_in_R in_) (impl_in_O in_) }), (4, { d := some false }), (8, { a := .row (eB y) }), (10, { d := some false }), (13, { a := .call [.val [] [], .val [] [], .val [] []] false (impl_in_R in_1) (impl_in_O in_1) }), (15, { d := some false })], [(3, { a := .rowck (eB y) [], e := some (.arr 76 1 4 ((put.set put1.Box.toNat true).map eB)) })], []] [] [4, 74, 75, 76] [(1, 0)] [decide (v76 < (r_.Puts.length : Int)) = true, (0 : Int) ≤ v76, v76 < ((r_.Puts.length : Nat) : Int), (r_.Puts.map ePut)[v76.toNat]? = some (ePut put1), ACalls cx.P 14 [vi put1.Box, vi 0, vi 3] (impl_in_R in_) (impl_in_O in_), (!in_) = false, (0 : Int) ≤ put1.Box, put1.Box < ((4 : Nat) : Int), (put.map eB)[put1.Box.toNat]? = some (eB y), y = false, ACalls cx.P 14 [vi put1.Val, vi (-1000000), vi 1000000] (impl_in_R in_1) (impl_in_O in_1), (!in_1) = false, (0 : Int) ≤ put1.Box, put1.Box < ((4 : Nat) : Int), Ent.arr 76 1 4 ((put.map eB).set (put1.Box.toNat) [.b true]) = Ent.arr 76 1 4 ((put.set put1.Box.toNat true).map eB), (put.map eB)[put1.Box.toNat]? = some (eB y)] (.cons e1 (.cons (idx0 hput1) (.cons (idx1 hput1) (.cons (map_idx hput1) (.cons (impl_in_ok put1.Box 0 3 in_ hin_) (.cons e2 (.cons (idx0 hy) (.cons e3 (.cons (map_idx hy) (.cons e4 (.cons (impl_in_ok put1.Val (-1000000) 1000000 in_1 hin_1) (.cons e5 (.cons (idx0 hy) (.cons e6 (.cons (arr_set rfl) (.cons (map_idx hy) .nil)))))))))))))))) hI (by kernel_rfl)))))))))))))))) (fun e1 h =>
 (brkD h hc1 fun e => (Fin.seg [[(0, { d := some false })]] [] [] [] [decide (v76 < (r_.Puts.length : Int)) = false] (.cons e1 .nil) (hb1 _ e) (by kernel_rfl)))))
theorem impl_ExecOk_b1_loop (r_ : TRun) (res : V) (outs : List (Option V)) (x1 : Exc Bool Unit) (hb1 : ∀ s : Unit, x1 = .brk s → Fin cx impl_ExecOk_X res outs impl_ExecOk_k3 (impl_ExecOk_S3)) (hr1 : ∀ v : Bool, x1 = .ret v → (res = impl_ExecOk_R v ∧ outs = impl_ExecOk_O v)) (s : (List Bool) × Int) (h : loop (fun s : (List Bool) × Int => impl_ExecOk_b1 r_ s.1 s.2) s = some x1) : Fin cx impl_ExecOk_X res outs impl_ExecOk_k5 (impl_ExecOk_S4 r_ s.1 s.2) :=
  loopD (I := fun s : (List Bool) × Int => Fin cx impl_ExecOk_X res outs impl_ExecOk_k5 (impl_ExecOk_S4 r_ s.1 s.2)) h fun s st h hc => impl_ExecOk_b1_ok r_ res outs x1 hb1 hr1 st hc s.1 s.2 h
noncomputable def impl_ExecOk_k6 (r_ : TRun) : Option Bool :=
  ((loop (fun s : (List Bool) × Int => impl_ExecOk_b1 r_ s.1 s.2) (List.replicate 4 false, 0)).bind fun x => x.go (fun r => some r) fun s => impl_ExecOk_k4)
theorem impl_ExecOk_k6_ok (r_ : TRun) (r : Bool) (h : impl_ExecOk_k6 r_ = some r) : Fin cx impl_ExecOk_X (impl_ExecOk_R r) (impl_ExecOk_O r) impl_ExecOk_k2 (impl_ExecOk_S2 r_) :=
  (loopJ h fun x hl hr hb => (Fin.seg [[]] [] [4, 74, 75, 76] [(2, 0)] [] .nil (impl_ExecOk_b1_loop r_ _ _ x (fun s e => impl_ExecOk_k4_ok r (hb s e)) (fun v e => ⟨congrArg impl_ExecOk_R (Option.some.inj (hr v e)).symm, congrArg impl_ExecOk_O (Option.some.inj (hr v e)).symm⟩) (List.replicate 4 false, 0) hl) (by kernel_rfl)))
noncomputable def impl_ExecOk_k7 : List Item := posI 2000 4 [false] [.code impl_ExecOk_c]
noncomputable def impl_ExecOk_S5 (r_ : TRun) (read : List Bool) (v49 : Int) : St := ⟨(bs 1 (.ptr 1 0 0 :: (bs 1 (.ptr 2 0 0 :: (.ptr 3 0 0 :: (bs 42 (vsl 2 eRead r_.Reads :: (vi (r_.Reads.length : Int) :: (vi v49 :: (bs 50 [])))))))))), [some [], some [.var 43 [vsl 2 eRead r_.Reads, vsl 2 ePut r_.Puts, vi r_.Val, vi r_.Code]], some [.arr 76 1 4 (read.map eB)], some [.arr 76 1 4 ((List.replicate 4 false).map eB)]]⟩
noncomputable def impl_ExecOk_b2 (r_ : TRun) (read : List Bool) (v49 : Int) : Option (Stp Bool ((List Bool) × Int) Unit) :=
  (bif decide (v49 < (r_.Reads.length : Int)) then
 ((idx r_.Reads v49).bind fun read1 =>
 ((impl_in read1.Box 0 3).bind fun in_2 =>
 (bif (!in_2) then
 some (Stp.ret false)
 else
 ((idx read read1.Box).bind fun y1 =>
 (need (read1.Box < 4)
 ((bif y1 then
 some (Stp.ret false)
 else
 ((impl_in read1.Ver 0 1000000).bind fun in_3 =>
 (bif (!in_3) then
 some (Stp.ret false)
 else
 (need (read1.Box < 4)
 (some (Stp.nxt (read.set read1.Box.toNat true, w64 (v49 + 1))))))))))))))
 else
 some (Stp.brk ()))
theorem impl_ExecOk_b2_ok (r_ : TRun) (res : V) (outs : List (Option V)) (x1 : Exc Bool Unit) (hb1 : ∀ s : Unit, x1 = .brk s → Fin cx impl_ExecOk_X res outs impl_ExecOk_k2 (impl_ExecOk_S2 r_)) (hr1 : ∀ v : Bool, x1 = .ret v → (res = impl_ExecOk_R v ∧ outs = impl_ExecOk_O v)) (st1 : Stp Bool ((List Bool) × Int) Unit) (hc1 : Cont x1 (fun s : (List Bool) × Int => Fin cx impl_ExecOk_X res outs impl_ExecOk_k7 (impl_ExecOk_S5 r_ s.1 s.2)) st1) (read : List Bool) (v49 : Int) (h : impl_ExecOk_b2 r_ read v49 = some st1) : Fin cx impl_ExecOk_X res outs impl_ExecOk_k7 (impl_ExecOk_S5 r_ read v49) :=
  (condD h (fun e7 h =>
 (bindD h fun read1 hread1 h =>
 (bindD h fun in_2 hin_2 h =>
 (condD h (fun e8 h =>
 (retD h hc1 fun e => (Fin.fin (cx := cx) (X := impl_ExecOk_X) (res := impl_ExecOk_R false) (outs := impl_ExecOk_O false) Try.func37 [[(0, { d := some true })], [(0, { a := .row (eRead read1) })], [(2, { a := .call [.val [] [], .val [] [], .val [] []] false (impl_in_R in_2) (impl_in_O in_2) }), (4, { d := some true })], []] [decide (v49 < (r_.Reads.length : Int)) = true, (0 : Int) ≤ v49, v49 < ((r_.Reads.length : Nat) : Int), (r_.Reads.map eRead)[v49.toNat]? = some (eRead read1), ACalls cx.P 14 [vi read1.Box, vi 0, vi 3] (impl_in_R in_2) (impl_in_O in_2), (!in_2) = true] (.cons e7 (.cons (idx0 hread1) (.cons (idx1 hread1) (.cons (map_idx hread1) (.cons (impl_in_ok read1.Box 0 3 in_2 hin_2) (.cons e8 .nil)))))) (by kernel_rfl)).is (hr1 _ e).1 (hr1 _ e).2)) (fun e8 h =>
 (bindD h fun y1 hy1 h =>
 (needD h fun e9 h =>
 (condD h (fun e10 h =>
 (retD h hc1 fun e => (Fin.fin (cx := cx) (X := impl_ExecOk_X) (res := impl_ExecOk_R false) (outs := impl_ExecOk_O false) Try.func37 [[(0, { d := some true })], [(0, { a := .row (eRead read1) })], [(2, { a := .call [.val [] [], .val [] [], .val [] []] false (impl_in_R in_2) (impl_in_O in_2) }), (4, { d := some false }), (8, { a := .row (eB y1) }), (10, { d := some true })], []] [decide (v49 < (r_.Reads.length : Int)) = true, (0 : Int) ≤ v49, v49 < ((r_.Reads.length : Nat) : Int), (r_.Reads.map eRead)[v49.toNat]? = some (eRead read1), ACalls cx.P 14 [vi read1.Box, vi 0, vi 3] (impl_in_R in_2) (impl_in_O in_2), (!in_2) = false, (0 : Int) ≤ read1.Box, read1.Box < ((4 : Nat) : Int), (read.map eB)[read1.Box.toNat]? = some (eB y1), y1 = true] (.cons e7 (.cons (idx0 hread1) (.cons (idx1 hread1) (.cons (map_idx hread1) (.cons (impl_in_ok read1.Box 0 3 in_2 hin_2) (.cons e8 (.cons (idx0 hy1) (.cons e9 (.cons (map_idx hy1) (.cons e10 .nil)))))))))) (by kernel_rfl)).is (hr1 _ e).1 (hr1 _ e).2)) (fun e10 h =>
 (bindD h fun in_3 hin_3 h =>
 (condD h (fun e11 h =>
 (retD h hc1 fun e => (Fin.fin (cx := cx) (X := impl_ExecOk_X) (res := impl_ExecOk_R false) (outs := impl_ExecOk_O false) Try.func37 [[(0, { d := some true })], [(0, { a := .row (eRead read1) })], [(2, { a := .call [.val [] [], .val [] [], .val [] []] false (impl_in_R in_2) (impl_in_O in_2) }), (4, { d := some false }), (8, { a := .row (eB y1) }), (10, { d := some false }), (13, { a := .call [.val [] [], .val [] [], .val [] []] false (impl_in_R in_3) (impl_in_O in_3) }), (15, { d := some true })], []] [decide (v49 < (r_.Reads.length : Int)) = true, (0 : Int) ≤ v49, v49 < ((r_.Reads.length : Nat) : Int), (r_.Reads.map eRead)[v49.toNat]? = some (eRead read1), ACalls cx.P 14 [vi read1.Box, vi 0, vi 3] (impl_in_R in_2) (impl_in_O in_2), (!in_2) = false, (0 : Int) ≤ read1.Box, read1.Box < ((4 : Nat) : Int), (read.map eB)[read1.Box.toNat]? = some (eB y1), y1 = false, ACalls cx.P 14 [vi read1.Ver, vi 0, vi 1000000] (impl_in_R in_3) (impl_in_O in_3), (!in_3) = true] (.cons e7 (.cons (idx0 hread1) (.cons (idx1 hread1) (.cons (map_idx hread1) (.cons (impl_in_ok read1.Box 0 3 in_2 hin_2) (.cons e8 (.cons (idx0 hy1) (.cons e9 (.cons (map_idx hy1) (.cons e10 (.cons (impl_in_ok read1.Ver 0 1000000 in_3 hin_3) (.cons e11 .nil)))))))))))) (by kernel_rfl)).is (hr1 _ e).1 (hr1 _ e).2)) (fun e11 h =>
 (needD h fun e12 h =>
 (nxtD h hc1 fun hI => (Fin.seg [[(0, { d := some true })], [(0, { a := .row (eRead read1) })], [(2, { a := .call [.val [] [], .val [] [], .val [] []] false (impl_in_R in_2) (impl_in_O in_2) }), (4, { d := some false }), (8, { a := .row (eB y1) }), (10, { d := some false }), (13, { a := .call [.val [] [], .val [] [], .val [] []] false (impl_in_R in_3) (impl_in_O in_3) }), (15, { d := some false })], [(3, { a := .rowck (eB y1) [], e := some (.arr 76 1 4 ((read.set read1.Box.toNat true).map eB)) })], []] [] [1, 3, 4, 47, 48, 49] [(1, 0), (2, 0), (3, 0)] [decide (v49 < (r_.Reads.length : Int)) = true, (0 : Int) ≤ v49, v49 < ((r_.Reads.length : Nat) : Int), (r_.Reads.map eRead)[v49.toNat]? = some (eRead read1), ACalls cx.P 14 [vi read1.Box, vi 0, vi 3] (impl_in_R in_2) (impl_in_O in_2), (!in_2) = false, (0 : Int) ≤ read1.Box, read1.Box < ((4 : Nat) : Int), (read.map eB)[read1.Box.toNat]? = some (eB y1), y1 = false, ACalls cx.P 14 [vi read1.Ver, vi 0, vi 1000000] (impl_in_R in_3) (impl_in_O in_3), (!in_3) = false, (0 : Int) ≤ read1.Box, read1.Box < ((4 : Nat) : Int), Ent.arr 76 1 4 ((read.map eB).set (read1.Box.toNat) [.b true]) = Ent.arr 76 1 4 ((read.set read1.Box.toNat true).map eB), (read.map eB)[read1.Box.toNat]? = some (eB y1)] (.cons e7 (.cons (idx0 hread1) (.cons (idx1 hread1) (.cons (map_idx hread1) (.cons (impl_in_ok read1.Box 0 3 in_2 hin_2) (.cons e8 (.cons (idx0 hy1) (.cons e9 (.cons (map_idx hy1) (.cons e10 (.cons (impl_in_ok read1.Ver 0 1000000 in_3 hin_3) (.cons e11 (.cons (idx0 hy1) (.cons e12 (.cons (arr_set rfl) (.cons (map_idx hy1) .nil)))))))))))))))) hI (by kernel_rfl)))))))))))))))) (fun e7 h =>
 (brkD h hc1 fun e => (Fin.seg [[(0, { d := some false })]] [] [1, 4] [(1, 0), (3, 0)] [decide (v49 < (r_.Reads.length : Int)) = false] (.cons e7 .nil) (hb1 _ e) (by kernel_rfl)))))
theorem impl_ExecOk_b2_loop (r_ : TRun) (res : V) (outs : List (Option V)) (x1 : Exc Bool Unit) (hb1 : ∀ s : Unit, x1 = .brk s → Fin cx impl_ExecOk_X res outs impl_ExecOk_k2 (impl_ExecOk_S2 r_)) (hr1 : ∀ v : Bool, x1 = .ret v → (res = impl_ExecOk_R v ∧ outs = impl_ExecOk_O v)) (s : (List Bool) × Int) (h : loop (fun s : (List Bool) × Int => impl_ExecOk_b2 r_ s.1 s.2) s = some x1) : Fin cx impl_ExecOk_X res outs impl_ExecOk_k7 (impl_ExecOk_S5 r_ s.1 s.2) :=
  loopD (I := fun s : (List Bool) × Int => Fin cx impl_ExecOk_X res outs impl_ExecOk_k7 (impl_ExecOk_S5 r_ s.1 s.2)) h fun s st h hc => impl_ExecOk_b2_ok r_ res outs x1 hb1 hr1 st hc s.1 s.2 h
noncomputable def impl_ExecOk_j1 (r_ : TRun) : Option Bool :=
  ((loop (fun s : (List Bool) × Int => impl_ExecOk_b2 r_ s.1 s.2) (List.replicate 4 false, 0)).bind fun x => x.go (fun r => some r) fun s => impl_ExecOk_k6 r_)
theorem impl_ExecOk_j1_ok (r_ : TRun) (r : Bool) (h : impl_ExecOk_j1 r_ = some r) : Fin cx impl_ExecOk_X (impl_ExecOk_R r) (impl_ExecOk_O r) impl_ExecOk_k1 (impl_ExecOk_S1 r_) :=
  (loopJ h fun x hl hr hb => (Fin.seg [[], []] [] [1, 3, 4, 47, 48, 49] [(1, 0), (2, 0), (3, 0)] [(List.replicate 4 ([.b false] : List V)).flatten = [.b false, .b false, .b false, .b false] ∧ ([.b false] : List V).length = 1, (List.replicate 4 ([.b false] : List V)).flatten = [.b false, .b false, .b false, .b false] ∧ ([.b false] : List V).length = 1] (.cons ⟨rfl, rfl⟩ (.cons ⟨rfl, rfl⟩ .nil)) (impl_ExecOk_b2_loop r_ _ _ x (fun s e => impl_ExecOk_k6_ok r_ r (hb s e)) (fun v e => ⟨congrArg impl_ExecOk_R (Option.some.inj (hr v e)).symm, congrArg impl_ExecOk_O (Option.some.inj (hr v e)).symm⟩) (List.replicate 4 false, 0) hl) (by kernel_rfl)))
noncomputable def impl_ExecOk (r_ : TRun) : Option Bool :=
  ((((impl_in r_.Code 0 3).bind fun in_4 =>
 (bif (!in_4) then
 some (Exc.ret false)
 else
 ((impl_in r_.Val (-1000000) 1000000).bind fun in_5 =>
 (bif (!in_5) then
 some (Exc.ret false)
 else
 (bif (r_.Code != 0) then
 (bif (r_.Val != 0) then
 some (Exc.ret false)
 else
 (bif decide ((r_.Puts.length : Int) > 0) then
 some (Exc.ret false)
 else
 (bif (r_.Code == 3) then
 (bif decide ((r_.Reads.length : Int) > 0) then
 some (Exc.ret false)
 else
 some (Exc.brk ()))
 else
 some (Exc.brk ()))))
 else
 (bif (r_.Code == 3) then
 (bif decide ((r_.Reads.length : Int) > 0) then
 some (Exc.ret false)
 else
 some (Exc.brk ()))
 else
 some (Exc.brk ()))))))) : Option (Exc Bool Unit)).bind fun x => x.go some fun j => impl_ExecOk_j1 r_)
theorem impl_ExecOk_fin (r_ : TRun) (r : Bool) (h : impl_ExecOk r_ = some r) : Fin cx impl_ExecOk_X (impl_ExecOk_R r) (impl_ExecOk_O r) [.code impl_ExecOk_c] (startS impl_ExecOk_X [.agg (eRun r_)]) :=
  (joinD (I := fun j : Unit => Fin cx impl_ExecOk_X (impl_ExecOk_R r) (impl_ExecOk_O r) impl_ExecOk_k1 (impl_ExecOk_S1 r_)) h (fun j h => impl_ExecOk_j1_ok r_ r h) (fun x h hc1 =>
  (bindD h fun in_4 hin_4 h =>
 (condD h (fun e13 h =>
 (jretD h hc1 fun h => (someD h fun e => (Fin.fin (cx := cx) (X := impl_ExecOk_X) (res := impl_ExecOk_R false) (outs := impl_ExecOk_O false) Try.func37 [[], [(2, { a := .call [.val [] [], .val [] [], .val [] []] false (impl_in_R in_4) (impl_in_O in_4) }), (4, { d := some true })], []] [ACalls cx.P 14 [vi r_.Code, vi 0, vi 3] (impl_in_R in_4) (impl_in_O in_4), (!in_4) = true] (.cons (impl_in_ok r_.Code 0 3 in_4 hin_4) (.cons e13 .nil)) (by kernel_rfl)).is (congrArg impl_ExecOk_R e) (congrArg impl_ExecOk_O e)))) (fun e13 h =>
 (bindD h fun in_5 hin_5 h =>
 (condD h (fun e14 h =>
 (jretD h hc1 fun h => (someD h fun e => (Fin.fin (cx := cx) (X := impl_ExecOk_X) (res := impl_ExecOk_R false) (outs := impl_ExecOk_O false) Try.func37 [[], [(2, { a := .call [.val [] [], .val [] [], .val [] []] false (impl_in_R in_4) (impl_in_O in_4) }), (4, { d := some false }), (7, { a := .call [.val [] [], .val [] [], .val [] []] false (impl_in_R in_5) (impl_in_O in_5) }), (10, { d := some true })], []] [ACalls cx.P 14 [vi r_.Code, vi 0, vi 3] (impl_in_R in_4) (impl_in_O in_4), (!in_4) = false, ACalls cx.P 14 [vi r_.Val, vi (-1000000), vi 1000000] (impl_in_R in_5) (impl_in_O in_5), (!in_5) = true] (.cons (impl_in_ok r_.Code 0 3 in_4 hin_4) (.cons e13 (.cons (impl_in_ok r_.Val (-1000000) 1000000 in_5 hin_5) (.cons e14 .nil)))) (by kernel_rfl)).is (congrArg impl_ExecOk_R e) (congrArg impl_ExecOk_O e)))) (fun e14 h =>
 (condD h (fun e15 h =>
 (condD h (fun e16 h =>
 (jretD h hc1 fun h => (someD h fun e => (Fin.fin (cx := cx) (X := impl_ExecOk_X) (res := impl_ExecOk_R false) (outs := impl_ExecOk_O false) Try.func37 [[], [(2, { a := .call [.val [] [], .val [] [], .val [] []] false (impl_in_R in_4) (impl_in_O in_4) }), (4, { d := some false }), (7, { a := .call [.val [] [], .val [] [], .val [] []] false (impl_in_R in_5) (impl_in_O in_5) }), (10, { d := some false }), (14, { d := some true }), (18, { d := some true })], []] [ACalls cx.P 14 [vi r_.Code, vi 0, vi 3] (impl_in_R in_4) (impl_in_O in_4), (!in_4) = false, ACalls cx.P 14 [vi r_.Val, vi (-1000000), vi 1000000] (impl_in_R in_5) (impl_in_O in_5), (!in_5) = false, (r_.Code != 0) = true, (r_.Val != 0) = true] (.cons (impl_in_ok r_.Code 0 3 in_4 hin_4) (.cons e13 (.cons (impl_in_ok r_.Val (-1000000) 1000000 in_5 hin_5) (.cons e14 (.cons e15 (.cons e16 .nil)))))) (by kernel_rfl)).is (congrArg impl_ExecOk_R e) (congrArg impl_ExecOk_O e)))) (fun e16 h =>
 (condD h (fun e17 h =>
 (jretD h hc1 fun h => (someD h fun e => (Fin.fin (cx := cx) (X := impl_ExecOk_X) (res := impl_ExecOk_R false) (outs := impl_ExecOk_O false) Try.func37 [[], [(2, { a := .call [.val [] [], .val [] [], .val [] []] false (impl_in_R in_4) (impl_in_O in_4) }), (4, { d := some false }), (7, { a := .call [.val [] [], .val [] [], .val [] []] false (impl_in_R in_5) (impl_in_O in_5) }), (10, { d := some false }), (14, { d := some true }), (18, { d := some false }), (26, { d := some true })], []] [ACalls cx.P 14 [vi r_.Code, vi 0, vi 3] (impl_in_R in_4) (impl_in_O in_4), (!in_4) = false, ACalls cx.P 14 [vi r_.Val, vi (-1000000), vi 1000000] (impl_in_R in_5) (impl_in_O in_5), (!in_5) = false, (r_.Code != 0) = true, (r_.Val != 0) = false, decide ((r_.Puts.length : Int) > 0) = true] (.cons (impl_in_ok r_.Code 0 3 in_4 hin_4) (.cons e13 (.cons (impl_in_ok r_.Val (-1000000) 1000000 in_5 hin_5) (.cons e14 (.cons e15 (.cons e16 (.cons e17 .nil))))))) (by kernel_rfl)).is (congrArg impl_ExecOk_R e) (congrArg impl_ExecOk_O e)))) (fun e17 h =>
 (condD h (fun e18 h =>
 (condD h (fun e19 h =>
 (jretD h hc1 fun h => (someD h fun e => (Fin.fin (cx := cx) (X := impl_ExecOk_X) (res := impl_ExecOk_R false) (outs := impl_ExecOk_O false) Try.func37 [[], [(2, { a := .call [.val [] [], .val [] [], .val [] []] false (impl_in_R in_4) (impl_in_O in_4) }), (4, { d := some false }), (7, { a := .call [.val [] [], .val [] [], .val [] []] false (impl_in_R in_5) (impl_in_O in_5) }), (10, { d := some false }), (14, { d := some true }), (18, { d := some false }), (26, { d := some false }), (30, { d := some true }), (36, { d := some true })], []] [ACalls cx.P 14 [vi r_.Code, vi 0, vi 3] (impl_in_R in_4) (impl_in_O in_4), (!in_4) = false, ACalls cx.P 14 [vi r_.Val, vi (-1000000), vi 1000000] (impl_in_R in_5) (impl_in_O in_5), (!in_5) = false, (r_.Code != 0) = true, (r_.Val != 0) = false, decide ((r_.Puts.length : Int) > 0) = false, (r_.Code == 3) = true, decide ((r_.Reads.length : Int) > 0) = true] (.cons (impl_in_ok r_.Code 0 3 in_4 hin_4) (.cons e13 (.cons (impl_in_ok r_.Val (-1000000) 1000000 in_5 hin_5) (.cons e14 (.cons e15 (.cons e16 (.cons e17 (.cons e18 (.cons e19 .nil))))))))) (by kernel_rfl)).is (congrArg impl_ExecOk_R e) (congrArg impl_ExecOk_O e)))) (fun e19 h =>
 (jbrkD h hc1 fun hI => (Fin.seg [[], [(2, { a := .call [.val [] [], .val [] [], .val [] []] false (impl_in_R in_4) (impl_in_O in_4) }), (4, { d := some false }), (7, { a := .call [.val [] [], .val [] [], .val [] []] false (impl_in_R in_5) (impl_in_O in_5) }), (10, { d := some false }), (14, { d := some true }), (18, { d := some false }), (26, { d := some false }), (30, { d := some true }), (36, { d := some false })]] [] [1] [(1, 0)] [ACalls cx.P 14 [vi r_.Code, vi 0, vi 3] (impl_in_R in_4) (impl_in_O in_4), (!in_4) = false, ACalls cx.P 14 [vi r_.Val, vi (-1000000), vi 1000000] (impl_in_R in_5) (impl_in_O in_5), (!in_5) = false, (r_.Code != 0) = true, (r_.Val != 0) = false, decide ((r_.Puts.length : Int) > 0) = false, (r_.Code == 3) = true, decide ((r_.Reads.length : Int) > 0) = false] (.cons (impl_in_ok r_.Code 0 3 in_4 hin_4) (.cons e13 (.cons (impl_in_ok r_.Val (-1000000) 1000000 in_5 hin_5) (.cons e14 (.cons e15 (.cons e16 (.cons e17 (.cons e18 (.cons e19 .nil))))))))) hI (by kernel_rfl)))))) (fun e18 h =>
 (jbrkD h hc1 fun hI => (Fin.seg [[], [(2, { a := .call [.val [] [], .val [] [], .val [] []] false (impl_in_R in_4) (impl_in_O in_4) }), (4, { d := some false }), (7, { a := .call [.val [] [], .val [] [], .val [] []] false (impl_in_R in_5) (impl_in_O in_5) }), (10, { d := some false }), (14, { d := some true }), (18, { d := some false }), (26, { d := some false }), (30, { d := some false })]] [] [1] [(1, 0)] [ACalls cx.P 14 [vi r_.Code, vi 0, vi 3] (impl_in_R in_4) (impl_in_O in_4), (!in_4) = false, ACalls cx.P 14 [vi r_.Val, vi (-1000000), vi 1000000] (impl_in_R in_5) (impl_in_O in_5), (!in_5) = false, (r_.Code != 0) = true, (r_.Val != 0) = false, decide ((r_.Puts.length : Int) > 0) = false, (r_.Code == 3) = false] (.cons (impl_in_ok r_.Code 0 3 in_4 hin_4) (.cons e13 (.cons (impl_in_ok r_.Val (-1000000) 1000000 in_5 hin_5) (.cons e14 (.cons e15 (.cons e16 (.cons e17 (.cons e18 .nil)))))))) hI (by kernel_rfl)))))))))) (fun e15 h =>
 (condD h (fun e20 h =>
 (condD h (fun e21 h =>
 (jretD h hc1 fun h => (someD h fun e => (Fin.fin (cx := cx) (X := impl_ExecOk_X) (res := impl_ExecOk_R false) (outs := impl_ExecOk_O false) Try.func37 [[], [(2, { a := .call [.val [] [], .val [] [], .val [] []] false (impl_in_R in_4) (impl_in_O in_4) }), (4, { d := some false }), (7, { a := .call [.val [] [], .val [] [], .val [] []] false (impl_in_R in_5) (impl_in_O in_5) }), (10, { d := some false }), (14, { d := some false }), (30, { d := some true }), (36, { d := some true })], []] [ACalls cx.P 14 [vi r_.Code, vi 0, vi 3] (impl_in_R in_4) (impl_in_O in_4), (!in_4) = false, ACalls cx.P 14 [vi r_.Val, vi (-1000000), vi 1000000] (impl_in_R in_5) (impl_in_O in_5), (!in_5) = false, (r_.Code != 0) = false, (r_.Code == 3) = true, decide ((r_.Reads.length : Int) > 0) = true] (.cons (impl_in_ok r_.Code 0 3 in_4 hin_4) (.cons e13 (.cons (impl_in_ok r_.Val (-1000000) 1000000 in_5 hin_5) (.cons e14 (.cons e15 (.cons e20 (.cons e21 .nil))))))) (by kernel_rfl)).is (congrArg impl_ExecOk_R e) (congrArg impl_ExecOk_O e)))) (fun e21 h =>
 (jbrkD h hc1 fun hI => (Fin.seg [[], [(2, { a := .call [.val [] [], .val [] [], .val [] []] false (impl_in_R in_4) (impl_in_O in_4) }), (4, { d := some false }), (7, { a := .call [.val [] [], .val [] [], .val [] []] false (impl_in_R in_5) (impl_in_O in_5) }), (10, { d := some false }), (14, { d := some false }), (30, { d := some true }), (36, { d := some false })]] [] [1] [(1, 0)] [ACalls cx.P 14 [vi r_.Code, vi 0, vi 3] (impl_in_R in_4) (impl_in_O in_4), (!in_4) = false, ACalls cx.P 14 [vi r_.Val, vi (-1000000), vi 1000000] (impl_in_R in_5) (impl_in_O in_5), (!in_5) = false, (r_.Code != 0) = false, (r_.Code == 3) = true, decide ((r_.Reads.length : Int) > 0) = false] (.cons (impl_in_ok r_.Code 0 3 in_4 hin_4) (.cons e13 (.cons (impl_in_ok r_.Val (-1000000) 1000000 in_5 hin_5) (.cons e14 (.cons e15 (.cons e20 (.cons e21 .nil))))))) hI (by kernel_rfl)))))) (fun e20 h =>
 (jbrkD h hc1 fun hI => (Fin.seg [[], [(2, { a := .call [.val [] [], .val [] [], .val [] []] false (impl_in_R in_4) (impl_in_O in_4) }), (4, { d := some false }), (7, { a := .call [.val [] [], .val [] [], .val [] []] false (impl_in_R in_5) (impl_in_O in_5) }), (10, { d := some false }), (14, { d := some false }), (30, { d := some false })]] [] [1] [(1, 0)] [ACalls cx.P 14 [vi r_.Code, vi 0, vi 3] (impl_in_R in_4) (impl_in_O in_4), (!in_4) = false, ACalls cx.P 14 [vi r_.Val, vi (-1000000), vi 1000000] (impl_in_R in_5) (impl_in_O in_5), (!in_5) = false, (r_.Code != 0) = false, (r_.Code == 3) = false] (.cons (impl_in_ok r_.Code 0 3 in_4 hin_4) (.cons e13 (.cons (impl_in_ok r_.Val (-1000000) 1000000 in_5 hin_5) (.cons e14 (.cons e15 (.cons e20 .nil)))))) hI (by kernel_rfl)))))))))))))))
theorem impl_ExecOk_ok (r_ : TRun) (r : Bool) (h : impl_ExecOk r_ = some r) : ACalls cx.P 37 [.agg (eRun r_)] (impl_ExecOk_R r) (impl_ExecOk_O r) :=
  ACalls.of (cx := cx) (X := impl_ExecOk_X) (c := impl_ExecOk_c) Try.func37 (by kernel_rfl) (by kernel_rfl) (by kernel_rfl) (impl_ExecOk_fin r_ r h)

/-! ### impl_CertEntry -/
noncomputable def impl_CertEntry_c : Code := bodyOf Try.f23
noncomputable def impl_CertEntry_X : Sig := { f := 23, fn := Try.f23, rms := [.val [] []], oms := [none] }
noncomputable def impl_CertEntry_R (r : Bool) : V := .b r
noncomputable def impl_CertEntry_O (r : Bool) : List (Option V) := [none]
noncomputable def impl_CertEntry (e_ : TEntry) : Option Bool :=
  (bif e_.None then
 ((impl_CertLike e_ (TEntry.mk true (TReq.mk 0 0) (TRun.mk [] [] 0 0))).bind fun certLike =>
 some certLike)
 else
 ((impl_reqOk e_.Req).bind fun reqOk =>
 (bif reqOk then
 ((impl_ExecOk e_.Run).bind fun execOk =>
 (bif execOk then
 some (e_.Run.Code != 3)
 else
 some false))
 else
 some false)))
theorem impl_CertEntry_fin (e_ : TEntry) (r : Bool) (h : impl_CertEntry e_ = some r) : Fin cx impl_CertEntry_X (impl_CertEntry_R r) (impl_CertEntry_O r) [.code impl_CertEntry_c] (startS impl_CertEntry_X [.agg (eEntry e_)]) :=
  (condD h (fun e1 h =>
 (bindD h fun certLike hcertLike h =>
 (someD h fun e => (Fin.fin (cx := cx) (X := impl_CertEntry_X) (res := impl_CertEntry_R certLike) (outs := impl_CertEntry_O certLike) Try.func23 [[], [(1, { d := some true })], [(2, { a := .call [.val [none, none, none, some 2, some 2, none, none] [], .val [none, none, none, some 2, some 2, none, none] []] false (impl_CertLike_R certLike) (impl_CertLike_O certLike) })]] [e_.None = true, ACalls cx.P 35 [.agg (eEntry e_), .agg (eEntry (TEntry.mk true (TReq.mk 0 0) (TRun.mk [] [] 0 0)))] (impl_CertLike_R certLike) (impl_CertLike_O certLike)] (.cons e1 (.cons (impl_CertLike_ok e_ (TEntry.mk true (TReq.mk 0 0) (TRun.mk [] [] 0 0)) certLike hcertLike) .nil)) (by kernel_rfl)).is (congrArg impl_CertEntry_R e) (congrArg impl_CertEntry_O e)))) (fun e1 h =>
 (bindD h fun reqOk hreqOk h =>
 (condD h (fun e2 h =>
 (bindD h fun execOk hexecOk h =>
 (condD h (fun e3 h =>
 (someD h fun e => (Fin.fin (cx := cx) (X := impl_CertEntry_X) (res := impl_CertEntry_R (e_.Run.Code != 3)) (outs := impl_CertEntry_O (e_.Run.Code != 3)) Try.func23 [[], [(1, { d := some false })], [(2, { a := .call [.val [] []] false (impl_reqOk_R reqOk) (impl_reqOk_O reqOk) }), (3, { d := some true }), (6, { a := .call [.val [some 2, some 2, none, none] []] false (impl_ExecOk_R execOk) (impl_ExecOk_O execOk) }), (8, { d := some true })]] [e_.None = false, ACalls cx.P 36 [.agg (eReq e_.Req)] (impl_reqOk_R reqOk) (impl_reqOk_O reqOk), reqOk = true, ACalls cx.P 37 [.agg (eRun e_.Run)] (impl_ExecOk_R execOk) (impl_ExecOk_O execOk), execOk = true] (.cons e1 (.cons (impl_reqOk_ok e_.Req reqOk hreqOk) (.cons e2 (.cons (impl_ExecOk_ok e_.Run execOk hexecOk) (.cons e3 .nil))))) (by kernel_rfl)).is (congrArg impl_CertEntry_R e) (congrArg impl_CertEntry_O e))) (fun e3 h =>
 (someD h fun e => (Fin.fin (cx := cx) (X := impl_CertEntry_X) (res := impl_CertEntry_R false) (outs := impl_CertEntry_O false) Try.func23 [[], [(1, { d := some false })], [(2, { a := .call [.val [] []] false (impl_reqOk_R reqOk) (impl_reqOk_O reqOk) }), (3, { d := some true }), (6, { a := .call [.val [some 2, some 2, none, none] []] false (impl_ExecOk_R execOk) (impl_ExecOk_O execOk) }), (8, { d := some false })]] [e_.None = false, ACalls cx.P 36 [.agg (eReq e_.Req)] (impl_reqOk_R reqOk) (impl_reqOk_O reqOk), reqOk = true, ACalls cx.P 37 [.agg (eRun e_.Run)] (impl_ExecOk_R execOk) (impl_ExecOk_O execOk), execOk = false] (.cons e1 (.cons (impl_reqOk_ok e_.Req reqOk hreqOk) (.cons e2 (.cons (impl_ExecOk_ok e_.Run execOk hexecOk) (.cons e3 .nil))))) (by kernel_rfl)).is (congrArg impl_CertEntry_R e) (congrArg impl_CertEntry_O e)))))) (fun e2 h =>
 (someD h fun e => (Fin.fin (cx := cx) (X := impl_CertEntry_X) (res := impl_CertEntry_R false) (outs := impl_CertEntry_O false) Try.func23 [[], [(1, { d := some false })], [(2, { a := .call [.val [] []] false (impl_reqOk_R reqOk) (impl_reqOk_O reqOk) }), (3, { d := some false })]] [e_.None = false, ACalls cx.P 36 [.agg (eReq e_.Req)] (impl_reqOk_R reqOk) (impl_reqOk_O reqOk), reqOk = false] (.cons e1 (.cons (impl_reqOk_ok e_.Req reqOk hreqOk) (.cons e2 .nil))) (by kernel_rfl)).is (congrArg impl_CertEntry_R e) (congrArg impl_CertEntry_O e)))))))
theorem impl_CertEntry_ok (e_ : TEntry) (r : Bool) (h : impl_CertEntry e_ = some r) : ACalls cx.P 23 [.agg (eEntry e_)] (impl_CertEntry_R r) (impl_CertEntry_O r) :=
  ACalls.of (cx := cx) (X := impl_CertEntry_X) (c := impl_CertEntry_c) Try.func23 (by kernel_rfl) (by kernel_rfl) (by kernel_rfl) (impl_CertEntry_fin e_ r h)

/-! ### impl_listOk -/
noncomputable def impl_listOk_c : Code := bodyOf Try.f13
noncomputable def impl_listOk_X : Sig := { f := 13, fn := Try.f13, rms := [.val [] []], oms := [none] }
noncomputable def impl_listOk_R (r : Bool) : V := .b r
noncomputable def impl_listOk_O (r : Bool) : List (Option V) := [none]
noncomputable def impl_listOk_k1 : List Item := posI 2000 3 [false] [.code impl_listOk_c]
noncomputable def impl_listOk_S1 (list : List TEntry) : St := ⟨(vsl 7 eEntry list :: (bs 17 [])), [some []]⟩
noncomputable def impl_listOk_k2 (list : List TEntry) : Option Bool :=
  some (decide ((list.length : Int) ≤ 40))
theorem impl_listOk_k2_ok (list : List TEntry) (r : Bool) (h : impl_listOk_k2 list = some r) : Fin cx impl_listOk_X (impl_listOk_R r) (impl_listOk_O r) impl_listOk_k1 (impl_listOk_S1 list) :=
  (someD h fun e => (Fin.fin (cx := cx) (X := impl_listOk_X) (res := impl_listOk_R (decide ((list.length : Int) ≤ 40))) (outs := impl_listOk_O (decide ((list.length : Int) ≤ 40))) Try.func13 [[]] [] .nil (by kernel_rfl)).is (congrArg impl_listOk_R e) (congrArg impl_listOk_O e))
noncomputable def impl_listOk_k3 : List Item := posI 2000 2 [] [.code impl_listOk_c]
noncomputable def impl_listOk_S2 (list : List TEntry) (v7 : Int) : St := ⟨(vsl 7 eEntry list :: (bs 4 (vsl 7 eEntry list :: (vi (list.length : Int) :: (vi v7 :: (bs 10 [])))))), [some []]⟩
noncomputable def impl_listOk_b1 (list : List TEntry) (v7 : Int) : Option (Stp Bool Int Unit) :=
  (bif decide (v7 < (list.length : Int)) then
 ((idx list v7).bind fun entry =>
 ((impl_CertEntry entry).bind fun certEntry =>
 (bif (!certEntry) then
 some (Stp.ret false)
 else
 some (Stp.nxt (w64 (v7 + 1))))))
 else
 some (Stp.brk ()))
theorem impl_listOk_b1_ok (list : List TEntry) (res : V) (outs : List (Option V)) (x1 : Exc Bool Unit) (hb1 : ∀ s : Unit, x1 = .brk s → Fin cx impl_listOk_X res outs impl_listOk_k1 (impl_listOk_S1 list)) (hr1 : ∀ v : Bool, x1 = .ret v → (res = impl_listOk_R v ∧ outs = impl_listOk_O v)) (st1 : Stp Bool Int Unit) (hc1 : Cont x1 (fun s : Int => Fin cx impl_listOk_X res outs impl_listOk_k3 (impl_listOk_S2 list s)) st1) (v7 : Int) (h : impl_listOk_b1 list v7 = some st1) : Fin cx impl_listOk_X res outs impl_listOk_k3 (impl_listOk_S2 list v7) :=
  (condD h (fun e1 h =>
 (bindD h fun entry hentry h =>
 (bindD h fun certEntry hcertEntry h =>
 (condD h (fun e2 h =>
 (retD h hc1 fun e => (Fin.fin (cx := cx) (X := impl_listOk_X) (res := impl_listOk_R false) (outs := impl_listOk_O false) Try.func13 [[(0, { d := some true })], [(0, { a := .row (eEntry entry) })], [(1, { a := .call [.val [none, none, none, some 2, some 2, none, none] []] false (impl_CertEntry_R certEntry) (impl_CertEntry_O certEntry) }), (2, { d := some true })], []] [decide (v7 < (list.length : Int)) = true, (0 : Int) ≤ v7, v7 < ((list.length : Nat) : Int), (list.map eEntry)[v7.toNat]? = some (eEntry entry), ACalls cx.P 23 [.agg (eEntry entry)] (impl_CertEntry_R certEntry) (impl_CertEntry_O certEntry), (!certEntry) = true] (.cons e1 (.cons (idx0 hentry) (.cons (idx1 hentry) (.cons (map_idx hentry) (.cons (impl_CertEntry_ok entry certEntry hcertEntry) (.cons e2 .nil)))))) (by kernel_rfl)).is (hr1 _ e).1 (hr1 _ e).2)) (fun e2 h =>
 (nxtD h hc1 fun hI => (Fin.seg [[(0, { d := some true })], [(0, { a := .row (eEntry entry) })], [(1, { a := .call [.val [none, none, none, some 2, some 2, none, none] []] false (impl_CertEntry_R certEntry) (impl_CertEntry_O certEntry) }), (2, { d := some false })], []] [] [0, 5, 6, 7] [] [decide (v7 < (list.length : Int)) = true, (0 : Int) ≤ v7, v7 < ((list.length : Nat) : Int), (list.map eEntry)[v7.toNat]? = some (eEntry entry), ACalls cx.P 23 [.agg (eEntry entry)] (impl_CertEntry_R certEntry) (impl_CertEntry_O certEntry), (!certEntry) = false] (.cons e1 (.cons (idx0 hentry) (.cons (idx1 hentry) (.cons (map_idx hentry) (.cons (impl_CertEntry_ok entry certEntry hcertEntry) (.cons e2 .nil)))))) hI (by kernel_rfl)))))))) (fun e1 h =>
 (brkD h hc1 fun e => (Fin.seg [[(0, { d := some false })]] [] [0] [] [decide (v7 < (list.length : Int)) = false] (.cons e1 .nil) (hb1 _ e) (by kernel_rfl)))))
theorem impl_listOk_b1_loop (list : List TEntry) (res : V) (outs : List (Option V)) (x1 : Exc Bool Unit) (hb1 : ∀ s : Unit, x1 = .brk s → Fin cx impl_listOk_X res outs impl_listOk_k1 (impl_listOk_S1 list)) (hr1 : ∀ v : Bool, x1 = .ret v → (res = impl_listOk_R v ∧ outs = impl_listOk_O v)) (s : Int) (h : loop (fun s : Int => impl_listOk_b1 list s) s = some x1) : Fin cx impl_listOk_X res outs impl_listOk_k3 (impl_listOk_S2 list s) :=
  loopD (I := fun s : Int => Fin cx impl_listOk_X res outs impl_listOk_k3 (impl_listOk_S2 list s)) h fun s st h hc => impl_listOk_b1_ok list res outs x1 hb1 hr1 st hc s h
noncomputable def impl_listOk (list : List TEntry) : Option Bool :=
  ((loop (fun s : Int => impl_listOk_b1 list s) 0).bind fun x => x.go (fun r => some r) fun s => impl_listOk_k2 list)
theorem impl_listOk_fin (list : List TEntry) (r : Bool) (h : impl_listOk list = some r) : Fin cx impl_listOk_X (impl_listOk_R r) (impl_listOk_O r) [.code impl_listOk_c] (startS impl_listOk_X [vsl 7 eEntry list]) :=
  (loopJ h fun x hl hr hb => (Fin.seg [[], []] [] [0, 5, 6, 7] [] [] .nil (impl_listOk_b1_loop list _ _ x (fun s e => impl_listOk_k2_ok list r (hb s e)) (fun v e => ⟨congrArg impl_listOk_R (Option.some.inj (hr v e)).symm, congrArg impl_listOk_O (Option.some.inj (hr v e)).symm⟩) 0 hl) (by kernel_rfl)))
theorem impl_listOk_ok (list : List TEntry) (r : Bool) (h : impl_listOk list = some r) : ACalls cx.P 13 [vsl 7 eEntry list] (impl_listOk_R r) (impl_listOk_O r) :=
  ACalls.of (cx := cx) (X := impl_listOk_X) (c := impl_listOk_c) Try.func13 (by kernel_rfl) (by kernel_rfl) (by kernel_rfl) (impl_listOk_fin list r h)

/-! ### impl_putAt -/
noncomputable def impl_putAt_c : Code := bodyOf Try.f24
noncomputable def impl_putAt_X : Sig := { f := 24, fn := Try.f24, rms := [.val [] []], oms := [none, none] }
noncomputable def impl_putAt_R (r : Int) : V := vi r
noncomputable def impl_putAt_O (r : Int) : List (Option V) := [none, none]
noncomputable def impl_putAt_k1 : List Item := posI 2000 3 [false] [.code impl_putAt_c]
noncomputable def impl_putAt_S1 : St := ⟨(bs 21 []), [some []]⟩
noncomputable def impl_putAt_k2 : Option Int :=
  some (-1)
theorem impl_putAt_k2_ok (r : Int) (h : impl_putAt_k2 = some r) : Fin cx impl_putAt_X (impl_putAt_R r) (impl_putAt_O r) impl_putAt_k1 (impl_putAt_S1) :=
  (someD h fun e => (Fin.fin (cx := cx) (X := impl_putAt_X) (res := impl_putAt_R (-1)) (outs := impl_putAt_O (-1)) Try.func24 [[]] [] .nil (by kernel_rfl)).is (congrArg impl_putAt_R e) (congrArg impl_putAt_O e))
noncomputable def impl_putAt_k3 : List Item := posI 2000 2 [] [.code impl_putAt_c]
noncomputable def impl_putAt_S2 (r_ : TRun) (box : Int) (v10 : Int) : St := ⟨(bs 1 (vi box :: (bs 6 (vsl 2 ePut r_.Puts :: (vi (r_.Puts.length : Int) :: (vi v10 :: (bs 10 []))))))), [some []]⟩
noncomputable def impl_putAt_b1 (r_ : TRun) (box : Int) (v10 : Int) : Option (Stp Int Int Unit) :=
  (bif decide (v10 < (r_.Puts.length : Int)) then
 ((idx r_.Puts v10).bind fun put =>
 (bif (put.Box == box) then
 some (Stp.ret v10)
 else
 some (Stp.nxt (w64 (v10 + 1)))))
 else
 some (Stp.brk ()))
theorem impl_putAt_b1_ok (r_ : TRun) (box : Int) (res : V) (outs : List (Option V)) (x1 : Exc Int Unit) (hb1 : ∀ s : Unit, x1 = .brk s → Fin cx impl_putAt_X res outs impl_putAt_k1 (impl_putAt_S1)) (hr1 : ∀ v : Int, x1 = .ret v → (res = impl_putAt_R v ∧ outs = impl_putAt_O v)) (st1 : Stp Int Int Unit) (hc1 : Cont x1 (fun s : Int => Fin cx impl_putAt_X res outs impl_putAt_k3 (impl_putAt_S2 r_ box s)) st1) (v10 : Int) (h : impl_putAt_b1 r_ box v10 = some st1) : Fin cx impl_putAt_X res outs impl_putAt_k3 (impl_putAt_S2 r_ box v10) :=
  (condD h (fun e1 h =>
 (bindD h fun put hput h =>
 (condD h (fun e2 h =>
 (retD h hc1 fun e => (Fin.fin (cx := cx) (X := impl_putAt_X) (res := impl_putAt_R v10) (outs := impl_putAt_O v10) Try.func24 [[(0, { d := some true })], [(1, { a := .row (ePut put) })], [(3, { d := some true })], []] [decide (v10 < (r_.Puts.length : Int)) = true, (0 : Int) ≤ v10, v10 < ((r_.Puts.length : Nat) : Int), (r_.Puts.map ePut)[v10.toNat]? = some (ePut put), (put.Box == box) = true] (.cons e1 (.cons (idx0 hput) (.cons (idx1 hput) (.cons (map_idx hput) (.cons e2 .nil))))) (by kernel_rfl)).is (hr1 _ e).1 (hr1 _ e).2)) (fun e2 h =>
 (nxtD h hc1 fun hI => (Fin.seg [[(0, { d := some true })], [(1, { a := .row (ePut put) })], [(3, { d := some false })], []] [] [1, 8, 9, 10] [] [decide (v10 < (r_.Puts.length : Int)) = true, (0 : Int) ≤ v10, v10 < ((r_.Puts.length : Nat) : Int), (r_.Puts.map ePut)[v10.toNat]? = some (ePut put), (put.Box == box) = false] (.cons e1 (.cons (idx0 hput) (.cons (idx1 hput) (.cons (map_idx hput) (.cons e2 .nil))))) hI (by kernel_rfl))))))) (fun e1 h =>
 (brkD h hc1 fun e => (Fin.seg [[(0, { d := some false })]] [] [] [] [decide (v10 < (r_.Puts.length : Int)) = false] (.cons e1 .nil) (hb1 _ e) (by kernel_rfl)))))
theorem impl_putAt_b1_loop (r_ : TRun) (box : Int) (res : V) (outs : List (Option V)) (x1 : Exc Int Unit) (hb1 : ∀ s : Unit, x1 = .brk s → Fin cx impl_putAt_X res outs impl_putAt_k1 (impl_putAt_S1)) (hr1 : ∀ v : Int, x1 = .ret v → (res = impl_putAt_R v ∧ outs = impl_putAt_O v)) (s : Int) (h : loop (fun s : Int => impl_putAt_b1 r_ box s) s = some x1) : Fin cx impl_putAt_X res outs impl_putAt_k3 (impl_putAt_S2 r_ box s) :=
  loopD (I := fun s : Int => Fin cx impl_putAt_X res outs impl_putAt_k3 (impl_putAt_S2 r_ box s)) h fun s st h hc => impl_putAt_b1_ok r_ box res outs x1 hb1 hr1 st hc s h
noncomputable def impl_putAt (r_ : TRun) (box : Int) : Option Int :=
  ((loop (fun s : Int => impl_putAt_b1 r_ box s) 0).bind fun x => x.go (fun r => some r) fun s => impl_putAt_k2)
theorem impl_putAt_fin (r_ : TRun) (box : Int) (r : Int) (h : impl_putAt r_ box = some r) : Fin cx impl_putAt_X (impl_putAt_R r) (impl_putAt_O r) [.code impl_putAt_c] (startS impl_putAt_X [.agg (eRun r_), vi box]) :=
  (loopJ h fun x hl hr hb => (Fin.seg [[], []] [] [1, 8, 9, 10] [] [] .nil (impl_putAt_b1_loop r_ box _ _ x (fun s e => impl_putAt_k2_ok r (hb s e)) (fun v e => ⟨congrArg impl_putAt_R (Option.some.inj (hr v e)).symm, congrArg impl_putAt_O (Option.some.inj (hr v e)).symm⟩) 0 hl) (by kernel_rfl)))
theorem impl_putAt_ok (r_ : TRun) (box : Int) (r : Int) (h : impl_putAt r_ box = some r) : ACalls cx.P 24 [.agg (eRun r_), vi box] (impl_putAt_R r) (impl_putAt_O r) :=
  ACalls.of (cx := cx) (X := impl_putAt_X) (c := impl_putAt_c) Try.func24 (by kernel_rfl) (by kernel_rfl) (by kernel_rfl) (impl_putAt_fin r_ box r h)

/-! ### impl_readAt -/
noncomputable def impl_readAt_c : Code := bodyOf Try.f25
noncomputable def impl_readAt_X : Sig := { f := 25, fn := Try.f25, rms := [.val [] []], oms := [none, none] }
noncomputable def impl_readAt_R (r : Int) : V := vi r
noncomputable def impl_readAt_O (r : Int) : List (Option V) := [none, none]
noncomputable def impl_readAt_k1 : List Item := posI 2000 3 [false] [.code impl_readAt_c]
noncomputable def impl_readAt_S1 : St := ⟨(bs 21 []), [some []]⟩
noncomputable def impl_readAt_k2 : Option Int :=
  some (-1)
theorem impl_readAt_k2_ok (r : Int) (h : impl_readAt_k2 = some r) : Fin cx impl_readAt_X (impl_readAt_R r) (impl_readAt_O r) impl_readAt_k1 (impl_readAt_S1) :=
  (someD h fun e => (Fin.fin (cx := cx) (X := impl_readAt_X) (res := impl_readAt_R (-1)) (outs := impl_readAt_O (-1)) Try.func25 [[]] [] .nil (by kernel_rfl)).is (congrArg impl_readAt_R e) (congrArg impl_readAt_O e))
noncomputable def impl_readAt_k3 : List Item := posI 2000 2 [] [.code impl_readAt_c]
noncomputable def impl_readAt_S2 (r_ : TRun) (box : Int) (v10 : Int) : St := ⟨(bs 1 (vi box :: (bs 6 (vsl 2 eRead r_.Reads :: (vi (r_.Reads.length : Int) :: (vi v10 :: (bs 10 []))))))), [some []]⟩
noncomputable def impl_readAt_b1 (r_ : TRun) (box : Int) (v10 : Int) : Option (Stp Int Int Unit) :=
  (bif decide (v10 < (r_.Reads.length : Int)) then
 ((idx r_.Reads v10).bind fun read =>
 (bif (read.Box == box) then
 some (Stp.ret v10)
 else
 some (Stp.nxt (w64 (v10 + 1)))))
 else
 some (Stp.brk ()))
theorem impl_readAt_b1_ok (r_ : TRun) (box : Int) (res : V) (outs : List (Option V)) (x1 : Exc Int Unit) (hb1 : ∀ s : Unit, x1 = .brk s → Fin cx impl_readAt_X res outs impl_readAt_k1 (impl_readAt_S1)) (hr1 : ∀ v : Int, x1 = .ret v → (res = impl_readAt_R v ∧ outs = impl_readAt_O v)) (st1 : Stp Int Int Unit) (hc1 : Cont x1 (fun s : Int => Fin cx impl_readAt_X res outs impl_readAt_k3 (impl_readAt_S2 r_ box s)) st1) (v10 : Int) (h : impl_readAt_b1 r_ box v10 = some st1) : Fin cx impl_readAt_X res outs impl_readAt_k3 (impl_readAt_S2 r_ box v10) :=
  (condD h (fun e1 h =>
 (bindD h fun read hread h =>
 (condD h (fun e2 h =>
 (retD h hc1 fun e => (Fin.fin (cx := cx) (X := impl_readAt_X) (res := impl_readAt_R v10) (outs := impl_readAt_O v10) Try.func25 [[(0, { d := some true })], [(1, { a := .row (eRead read) })], [(3, { d := some true })], []] [decide (v10 < (r_.Reads.length : Int)) = true, (0 : Int) ≤ v10, v10 < ((r_.Reads.length : Nat) : Int), (r_.Reads.map eRead)[v10.toNat]? = some (eRead read), (read.Box == box) = true] (.cons e1 (.cons (idx0 hread) (.cons (idx1 hread) (.cons (map_idx hread) (.cons e2 .nil))))) (by kernel_rfl)).is (hr1 _ e).1 (hr1 _ e).2)) (fun e2 h =>
 (nxtD h hc1 fun hI => (Fin.seg [[(0, { d := some true })], [(1, { a := .row (eRead read) })], [(3, { d := some false })], []] [] [1, 8, 9, 10] [] [decide (v10 < (r_.Reads.length : Int)) = true, (0 : Int) ≤ v10, v10 < ((r_.Reads.length : Nat) : Int), (r_.Reads.map eRead)[v10.toNat]? = some (eRead read), (read.Box == box) = false] (.cons e1 (.cons (idx0 hread) (.cons (idx1 hread) (.cons (map_idx hread) (.cons e2 .nil))))) hI (by kernel_rfl))))))) (fun e1 h =>
 (brkD h hc1 fun e => (Fin.seg [[(0, { d := some false })]] [] [] [] [decide (v10 < (r_.Reads.length : Int)) = false] (.cons e1 .nil) (hb1 _ e) (by kernel_rfl)))))
theorem impl_readAt_b1_loop (r_ : TRun) (box : Int) (res : V) (outs : List (Option V)) (x1 : Exc Int Unit) (hb1 : ∀ s : Unit, x1 = .brk s → Fin cx impl_readAt_X res outs impl_readAt_k1 (impl_readAt_S1)) (hr1 : ∀ v : Int, x1 = .ret v → (res = impl_readAt_R v ∧ outs = impl_readAt_O v)) (s : Int) (h : loop (fun s : Int => impl_readAt_b1 r_ box s) s = some x1) : Fin cx impl_readAt_X res outs impl_readAt_k3 (impl_readAt_S2 r_ box s) :=
  loopD (I := fun s : Int => Fin cx impl_readAt_X res outs impl_readAt_k3 (impl_readAt_S2 r_ box s)) h fun s st h hc => impl_readAt_b1_ok r_ box res outs x1 hb1 hr1 st hc s h
noncomputable def impl_readAt (r_ : TRun) (box : Int) : Option Int :=
  ((loop (fun s : Int => impl_readAt_b1 r_ box s) 0).bind fun x => x.go (fun r => some r) fun s => impl_readAt_k2)
theorem impl_readAt_fin (r_ : TRun) (box : Int) (r : Int) (h : impl_readAt r_ box = some r) : Fin cx impl_readAt_X (impl_readAt_R r) (impl_readAt_O r) [.code impl_readAt_c] (startS impl_readAt_X [.agg (eRun r_), vi box]) :=
  (loopJ h fun x hl hr hb => (Fin.seg [[], []] [] [1, 8, 9, 10] [] [] .nil (impl_readAt_b1_loop r_ box _ _ x (fun s e => impl_readAt_k2_ok r (hb s e)) (fun v e => ⟨congrArg impl_readAt_R (Option.some.inj (hr v e)).symm, congrArg impl_readAt_O (Option.some.inj (hr v e)).symm⟩) 0 hl) (by kernel_rfl)))
theorem impl_readAt_ok (r_ : TRun) (box : Int) (r : Int) (h : impl_readAt r_ box = some r) : ACalls cx.P 25 [.agg (eRun r_), vi box] (impl_readAt_R r) (impl_readAt_O r) :=
  ACalls.of (cx := cx) (X := impl_readAt_X) (c := impl_readAt_c) Try.func25 (by kernel_rfl) (by kernel_rfl) (by kernel_rfl) (impl_readAt_fin r_ box r h)


end Go.Proofs.Ytidcofmgigokcaa
