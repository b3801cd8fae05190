/- Functions of the program, and that their calls come to this. -/
import Derived.Test.YthefcgmhjonopaaF2
set_option linter.unusedVariables false
set_option linter.unusedSimpArgs false
namespace Go.Proofs.Ythefcgmhjonopaa
open Go

/-! ### impl_same_Read -/
noncomputable def impl_same_Read_c : Code := bodyOf Try.f65
noncomputable def impl_same_Read_X : Sig := { f := 65, fn := Try.f65, rms := [.val [] []], oms := [none, none] }
noncomputable def impl_same_Read_R (r : Bool) : V := .b r
noncomputable def impl_same_Read_O (r : Bool) : List (Option V) := [none, none]
noncomputable def impl_same_Read_k1 : List Item := posI 2000 4 [false, false] [.code impl_same_Read_c]
noncomputable def impl_same_Read_S1 : St := ⟨(bs 26 []), [some []]⟩
noncomputable def impl_same_Read_k2 : Option Bool :=
  some true
theorem impl_same_Read_k2_ok (r : Bool) (h : impl_same_Read_k2 = some r) : Fin cx impl_same_Read_X (impl_same_Read_R r) (impl_same_Read_O r) impl_same_Read_k1 (impl_same_Read_S1) :=
  (someD h fun e => (Fin.fin (cx := cx) (X := impl_same_Read_X) (res := impl_same_Read_R true) (outs := impl_same_Read_O true) Try.func65 [[]] [] .nil (by kernel_rfl)).is (congrArg impl_same_Read_R e) (congrArg impl_same_Read_O e))
noncomputable def impl_same_Read_k3 : List Item := posI 2000 3 [false] [.code impl_same_Read_c]
noncomputable def impl_same_Read_S2 (a : List TRead) (b : List TRead) (v13 : Int) : St := ⟨(vsl 2 eRead a :: (vsl 2 eRead b :: (bs 10 (vi (a.length : Int) :: (vi v13 :: (bs 12 [])))))), [some []]⟩
noncomputable def impl_same_Read_b1 (a : List TRead) (b : List TRead) (v13 : Int) : Option (Stp Bool Int Unit) :=
  (bif decide (v13 < (a.length : Int)) then
 ((idx a v13).bind fun read =>
 ((idx b v13).bind fun read1 =>
 (bif (!(([read.Box, read.Ver] : List Int) == [read1.Box, read1.Ver])) then
 some (Stp.ret false)
 else
 some (Stp.nxt (w64 (v13 + 1))))))
 else
 some (Stp.brk ()))
theorem impl_same_Read_b1_ok (a : List TRead) (b : List TRead) (res : V) (outs : List (Option V)) (x1 : Exc Bool Unit) (hb1 : ∀ s : Unit, x1 = .brk s → Fin cx impl_same_Read_X res outs impl_same_Read_k1 (impl_same_Read_S1)) (hr1 : ∀ v : Bool, x1 = .ret v → (res = impl_same_Read_R v ∧ outs = impl_same_Read_O v)) (st1 : Stp Bool Int Unit) (hc1 : Cont x1 (fun s : Int => Fin cx impl_same_Read_X res outs impl_same_Read_k3 (impl_same_Read_S2 a b s)) st1) (v13 : Int) (h : impl_same_Read_b1 a b v13 = some st1) : Fin cx impl_same_Read_X res outs impl_same_Read_k3 (impl_same_Read_S2 a b v13) :=
  (condD h (fun e2 h =>
 (bindD h fun read hread h =>
 (bindD h fun read1 hread1 h =>
 (condD h (fun e3 h =>
 (retD h hc1 fun e => (Fin.fin (cx := cx) (X := impl_same_Read_X) (res := impl_same_Read_R false) (outs := impl_same_Read_O false) Try.func65 [[(0, { d := some true })], [], [(2, { a := .row (eRead read) }), (6, { a := .row (eRead read1) }), (8, { d := some true })], []] [decide (v13 < (a.length : Int)) = true, (0 : Int) ≤ v13, v13 < ((a.length : Nat) : Int), (a.map eRead)[v13.toNat]? = some (eRead read), (0 : Int) ≤ v13, v13 < ((b.length : Nat) : Int), (b.map eRead)[v13.toNat]? = some (eRead read1), (!(([read.Box, read.Ver] : List Int) == [read1.Box, read1.Ver])) = true] (.cons e2 (.cons (idx0 hread) (.cons (idx1 hread) (.cons (map_idx hread) (.cons (idx0 hread1) (.cons (idx1 hread1) (.cons (map_idx hread1) (.cons e3 .nil)))))))) (by kernel_rfl)).is (hr1 _ e).1 (hr1 _ e).2)) (fun e3 h =>
 (nxtD h hc1 fun hI => (Fin.seg [[(0, { d := some true })], [], [(2, { a := .row (eRead read) }), (6, { a := .row (eRead read1) }), (8, { d := some false })], []] [] [0, 1, 12, 13] [] [decide (v13 < (a.length : Int)) = true, (0 : Int) ≤ v13, v13 < ((a.length : Nat) : Int), (a.map eRead)[v13.toNat]? = some (eRead read), (0 : Int) ≤ v13, v13 < ((b.length : Nat) : Int), (b.map eRead)[v13.toNat]? = some (eRead read1), (!(([read.Box, read.Ver] : List Int) == [read1.Box, read1.Ver])) = false] (.cons e2 (.cons (idx0 hread) (.cons (idx1 hread) (.cons (map_idx hread) (.cons (idx0 hread1) (.cons (idx1 hread1) (.cons (map_idx hread1) (.cons e3 .nil)))))))) hI (by kernel_rfl)))))))) (fun e2 h =>
 (brkD h hc1 fun e => (Fin.seg [[(0, { d := some false })]] [] [] [] [decide (v13 < (a.length : Int)) = false] (.cons e2 .nil) (hb1 _ e) (by kernel_rfl)))))
theorem impl_same_Read_b1_loop (a : List TRead) (b : List TRead) (res : V) (outs : List (Option V)) (x1 : Exc Bool Unit) (hb1 : ∀ s : Unit, x1 = .brk s → Fin cx impl_same_Read_X res outs impl_same_Read_k1 (impl_same_Read_S1)) (hr1 : ∀ v : Bool, x1 = .ret v → (res = impl_same_Read_R v ∧ outs = impl_same_Read_O v)) (s : Int) (h : loop (fun s : Int => impl_same_Read_b1 a b s) s = some x1) : Fin cx impl_same_Read_X res outs impl_same_Read_k3 (impl_same_Read_S2 a b s) :=
  loopD (I := fun s : Int => Fin cx impl_same_Read_X res outs impl_same_Read_k3 (impl_same_Read_S2 a b s)) h fun s st h hc => impl_same_Read_b1_ok a b res outs x1 hb1 hr1 st hc s h
noncomputable def impl_same_Read (a : List TRead) (b : List TRead) : Option Bool :=
  (bif ((a.length : Int) != (b.length : Int)) then
 some false
 else
 ((loop (fun s : Int => impl_same_Read_b1 a b s) 0).bind fun x => x.go (fun r => some r) fun s => impl_same_Read_k2))
theorem impl_same_Read_fin (a : List TRead) (b : List TRead) (r : Bool) (h : impl_same_Read a b = some r) : Fin cx impl_same_Read_X (impl_same_Read_R r) (impl_same_Read_O r) [.code impl_same_Read_c] (startS impl_same_Read_X [vsl 2 eRead a, vsl 2 eRead b]) :=
  (condD h (fun e1 h =>
 (someD h fun e => (Fin.fin (cx := cx) (X := impl_same_Read_X) (res := impl_same_Read_R false) (outs := impl_same_Read_O false) Try.func65 [[], [(4, { d := some true })], []] [((a.length : Int) != (b.length : Int)) = true] (.cons e1 .nil) (by kernel_rfl)).is (congrArg impl_same_Read_R e) (congrArg impl_same_Read_O e))) (fun e1 h =>
 (loopJ h fun x hl hr hb => (Fin.seg [[], [(4, { d := some false })], []] [] [0, 1, 12, 13] [] [((a.length : Int) != (b.length : Int)) = false] (.cons e1 .nil) (impl_same_Read_b1_loop a b _ _ x (fun s e => impl_same_Read_k2_ok r (hb s e)) (fun v e => ⟨congrArg impl_same_Read_R (Option.some.inj (hr v e)).symm, congrArg impl_same_Read_O (Option.some.inj (hr v e)).symm⟩) 0 hl) (by kernel_rfl)))))
theorem impl_same_Read_ok (a : List TRead) (b : List TRead) (r : Bool) (h : impl_same_Read a b = some r) : ACalls cx.P 65 [vsl 2 eRead a, vsl 2 eRead b] (impl_same_Read_R r) (impl_same_Read_O r) :=
  ACalls.of (cx := cx) (X := impl_same_Read_X) (c := impl_same_Read_c) Try.func65 (by kernel_rfl) (by kernel_rfl) (by kernel_rfl) (impl_same_Read_fin a b r h)

/-! ### impl_same_Put -/
noncomputable def impl_same_Put_c : Code := bodyOf Try.f66
noncomputable def impl_same_Put_X : Sig := { f := 66, fn := Try.f66, rms := [.val [] []], oms := [none, none] }
noncomputable def impl_same_Put_R (r : Bool) : V := .b r
noncomputable def impl_same_Put_O (r : Bool) : List (Option V) := [none, none]
noncomputable def impl_same_Put_k1 : List Item := posI 2000 4 [false, false] [.code impl_same_Put_c]
noncomputable def impl_same_Put_S1 : St := ⟨(bs 26 []), [some []]⟩
noncomputable def impl_same_Put_k2 : Option Bool :=
  some true
theorem impl_same_Put_k2_ok (r : Bool) (h : impl_same_Put_k2 = some r) : Fin cx impl_same_Put_X (impl_same_Put_R r) (impl_same_Put_O r) impl_same_Put_k1 (impl_same_Put_S1) :=
  (someD h fun e => (Fin.fin (cx := cx) (X := impl_same_Put_X) (res := impl_same_Put_R true) (outs := impl_same_Put_O true) Try.func66 [[]] [] .nil (by kernel_rfl)).is (congrArg impl_same_Put_R e) (congrArg impl_same_Put_O e))
noncomputable def impl_same_Put_k3 : List Item := posI 2000 3 [false] [.code impl_same_Put_c]
noncomputable def impl_same_Put_S2 (a : List TPut) (b : List TPut) (v13 : Int) : St := ⟨(vsl 2 ePut a :: (vsl 2 ePut b :: (bs 10 (vi (a.length : Int) :: (vi v13 :: (bs 12 [])))))), [some []]⟩
noncomputable def impl_same_Put_b1 (a : List TPut) (b : List TPut) (v13 : Int) : Option (Stp Bool Int Unit) :=
  (bif decide (v13 < (a.length : Int)) then
 ((idx a v13).bind fun put =>
 ((idx b v13).bind fun put1 =>
 (bif (!(([put.Box, put.Val] : List Int) == [put1.Box, put1.Val])) then
 some (Stp.ret false)
 else
 some (Stp.nxt (w64 (v13 + 1))))))
 else
 some (Stp.brk ()))
theorem impl_same_Put_b1_ok (a : List TPut) (b : List TPut) (res : V) (outs : List (Option V)) (x1 : Exc Bool Unit) (hb1 : ∀ s : Unit, x1 = .brk s → Fin cx impl_same_Put_X res outs impl_same_Put_k1 (impl_same_Put_S1)) (hr1 : ∀ v : Bool, x1 = .ret v → (res = impl_same_Put_R v ∧ outs = impl_same_Put_O v)) (st1 : Stp Bool Int Unit) (hc1 : Cont x1 (fun s : Int => Fin cx impl_same_Put_X res outs impl_same_Put_k3 (impl_same_Put_S2 a b s)) st1) (v13 : Int) (h : impl_same_Put_b1 a b v13 = some st1) : Fin cx impl_same_Put_X res outs impl_same_Put_k3 (impl_same_Put_S2 a b v13) :=
  (condD h (fun e2 h =>
 (bindD h fun put hput h =>
 (bindD h fun put1 hput1 h =>
 (condD h (fun e3 h =>
 (retD h hc1 fun e => (Fin.fin (cx := cx) (X := impl_same_Put_X) (res := impl_same_Put_R false) (outs := impl_same_Put_O false) Try.func66 [[(0, { d := some true })], [], [(2, { a := .row (ePut put) }), (6, { a := .row (ePut put1) }), (8, { d := some true })], []] [decide (v13 < (a.length : Int)) = true, (0 : Int) ≤ v13, v13 < ((a.length : Nat) : Int), (a.map ePut)[v13.toNat]? = some (ePut put), (0 : Int) ≤ v13, v13 < ((b.length : Nat) : Int), (b.map ePut)[v13.toNat]? = some (ePut put1), (!(([put.Box, put.Val] : List Int) == [put1.Box, put1.Val])) = true] (.cons e2 (.cons (idx0 hput) (.cons (idx1 hput) (.cons (map_idx hput) (.cons (idx0 hput1) (.cons (idx1 hput1) (.cons (map_idx hput1) (.cons e3 .nil)))))))) (by kernel_rfl)).is (hr1 _ e).1 (hr1 _ e).2)) (fun e3 h =>
 (nxtD h hc1 fun hI => (Fin.seg [[(0, { d := some true })], [], [(2, { a := .row (ePut put) }), (6, { a := .row (ePut put1) }), (8, { d := some false })], []] [] [0, 1, 12, 13] [] [decide (v13 < (a.length : Int)) = true, (0 : Int) ≤ v13, v13 < ((a.length : Nat) : Int), (a.map ePut)[v13.toNat]? = some (ePut put), (0 : Int) ≤ v13, v13 < ((b.length : Nat) : Int), (b.map ePut)[v13.toNat]? = some (ePut put1), (!(([put.Box, put.Val] : List Int) == [put1.Box, put1.Val])) = false] (.cons e2 (.cons (idx0 hput) (.cons (idx1 hput) (.cons (map_idx hput) (.cons (idx0 hput1) (.cons (idx1 hput1) (.cons (map_idx hput1) (.cons e3 .nil)))))))) hI (by kernel_rfl)))))))) (fun e2 h =>
 (brkD h hc1 fun e => (Fin.seg [[(0, { d := some false })]] [] [] [] [decide (v13 < (a.length : Int)) = false] (.cons e2 .nil) (hb1 _ e) (by kernel_rfl)))))
theorem impl_same_Put_b1_loop (a : List TPut) (b : List TPut) (res : V) (outs : List (Option V)) (x1 : Exc Bool Unit) (hb1 : ∀ s : Unit, x1 = .brk s → Fin cx impl_same_Put_X res outs impl_same_Put_k1 (impl_same_Put_S1)) (hr1 : ∀ v : Bool, x1 = .ret v → (res = impl_same_Put_R v ∧ outs = impl_same_Put_O v)) (s : Int) (h : loop (fun s : Int => impl_same_Put_b1 a b s) s = some x1) : Fin cx impl_same_Put_X res outs impl_same_Put_k3 (impl_same_Put_S2 a b s) :=
  loopD (I := fun s : Int => Fin cx impl_same_Put_X res outs impl_same_Put_k3 (impl_same_Put_S2 a b s)) h fun s st h hc => impl_same_Put_b1_ok a b res outs x1 hb1 hr1 st hc s h
noncomputable def impl_same_Put (a : List TPut) (b : List TPut) : Option Bool :=
  (bif ((a.length : Int) != (b.length : Int)) then
 some false
 else
 ((loop (fun s : Int => impl_same_Put_b1 a b s) 0).bind fun x => x.go (fun r => some r) fun s => impl_same_Put_k2))
theorem impl_same_Put_fin (a : List TPut) (b : List TPut) (r : Bool) (h : impl_same_Put a b = some r) : Fin cx impl_same_Put_X (impl_same_Put_R r) (impl_same_Put_O r) [.code impl_same_Put_c] (startS impl_same_Put_X [vsl 2 ePut a, vsl 2 ePut b]) :=
  (condD h (fun e1 h =>
 (someD h fun e => (Fin.fin (cx := cx) (X := impl_same_Put_X) (res := impl_same_Put_R false) (outs := impl_same_Put_O false) Try.func66 [[], [(4, { d := some true })], []] [((a.length : Int) != (b.length : Int)) = true] (.cons e1 .nil) (by kernel_rfl)).is (congrArg impl_same_Put_R e) (congrArg impl_same_Put_O e))) (fun e1 h =>
 (loopJ h fun x hl hr hb => (Fin.seg [[], [(4, { d := some false })], []] [] [0, 1, 12, 13] [] [((a.length : Int) != (b.length : Int)) = false] (.cons e1 .nil) (impl_same_Put_b1_loop a b _ _ x (fun s e => impl_same_Put_k2_ok r (hb s e)) (fun v e => ⟨congrArg impl_same_Put_R (Option.some.inj (hr v e)).symm, congrArg impl_same_Put_O (Option.some.inj (hr v e)).symm⟩) 0 hl) (by kernel_rfl)))))
theorem impl_same_Put_ok (a : List TPut) (b : List TPut) (r : Bool) (h : impl_same_Put a b = some r) : ACalls cx.P 66 [vsl 2 ePut a, vsl 2 ePut b] (impl_same_Put_R r) (impl_same_Put_O r) :=
  ACalls.of (cx := cx) (X := impl_same_Put_X) (c := impl_same_Put_c) Try.func66 (by kernel_rfl) (by kernel_rfl) (by kernel_rfl) (impl_same_Put_fin a b r h)

/-! ### impl_ExecSame -/
noncomputable def impl_ExecSame_c : Code := bodyOf Try.f60
noncomputable def impl_ExecSame_X : Sig := { f := 60, fn := Try.f60, rms := [.val [] []], oms := [none, none] }
noncomputable def impl_ExecSame_R (r : Bool) : V := .b r
noncomputable def impl_ExecSame_O (r : Bool) : List (Option V) := [none, none]
noncomputable def impl_ExecSame (a : TRun) (b : TRun) : Option Bool :=
  ((impl_same_Read a.Reads b.Reads).bind fun read =>
 (bif read then
 ((impl_same_Put a.Puts b.Puts).bind fun put =>
 (bif put then
 (bif (a.Val == b.Val) then
 some (a.Code == b.Code)
 else
 some false)
 else
 some false))
 else
 some false))
theorem impl_ExecSame_fin (a : TRun) (b : TRun) (r : Bool) (h : impl_ExecSame a b = some r) : Fin cx impl_ExecSame_X (impl_ExecSame_R r) (impl_ExecSame_O r) [.code impl_ExecSame_c] (startS impl_ExecSame_X [.agg (eRun a), .agg (eRun b)]) :=
  (bindD h fun read hread h =>
 (condD h (fun e1 h =>
 (bindD h fun put hput h =>
 (condD h (fun e2 h =>
 (condD h (fun e3 h =>
 (someD h fun e => (Fin.fin (cx := cx) (X := impl_ExecSame_X) (res := impl_ExecSame_R (a.Code == b.Code)) (outs := impl_ExecSame_O (a.Code == b.Code)) Try.func60 [[], [(4, { a := .call [.val [some 2] [], .val [some 2] []] false (impl_same_Read_R read) (impl_same_Read_O read) }), (5, { d := some true }), (10, { a := .call [.val [some 2] [], .val [some 2] []] false (impl_same_Put_R put) (impl_same_Put_O put) }), (12, { d := some true }), (19, { d := some true })]] [ACalls cx.P 65 [vsl 2 eRead a.Reads, vsl 2 eRead b.Reads] (impl_same_Read_R read) (impl_same_Read_O read), read = true, ACalls cx.P 66 [vsl 2 ePut a.Puts, vsl 2 ePut b.Puts] (impl_same_Put_R put) (impl_same_Put_O put), put = true, (a.Val == b.Val) = true] (.cons (impl_same_Read_ok a.Reads b.Reads read hread) (.cons e1 (.cons (impl_same_Put_ok a.Puts b.Puts put hput) (.cons e2 (.cons e3 .nil))))) (by kernel_rfl)).is (congrArg impl_ExecSame_R e) (congrArg impl_ExecSame_O e))) (fun e3 h =>
 (someD h fun e => (Fin.fin (cx := cx) (X := impl_ExecSame_X) (res := impl_ExecSame_R false) (outs := impl_ExecSame_O false) Try.func60 [[], [(4, { a := .call [.val [some 2] [], .val [some 2] []] false (impl_same_Read_R read) (impl_same_Read_O read) }), (5, { d := some true }), (10, { a := .call [.val [some 2] [], .val [some 2] []] false (impl_same_Put_R put) (impl_same_Put_O put) }), (12, { d := some true }), (19, { d := some false })]] [ACalls cx.P 65 [vsl 2 eRead a.Reads, vsl 2 eRead b.Reads] (impl_same_Read_R read) (impl_same_Read_O read), read = true, ACalls cx.P 66 [vsl 2 ePut a.Puts, vsl 2 ePut b.Puts] (impl_same_Put_R put) (impl_same_Put_O put), put = true, (a.Val == b.Val) = false] (.cons (impl_same_Read_ok a.Reads b.Reads read hread) (.cons e1 (.cons (impl_same_Put_ok a.Puts b.Puts put hput) (.cons e2 (.cons e3 .nil))))) (by kernel_rfl)).is (congrArg impl_ExecSame_R e) (congrArg impl_ExecSame_O e))))) (fun e2 h =>
 (someD h fun e => (Fin.fin (cx := cx) (X := impl_ExecSame_X) (res := impl_ExecSame_R false) (outs := impl_ExecSame_O false) Try.func60 [[], [(4, { a := .call [.val [some 2] [], .val [some 2] []] false (impl_same_Read_R read) (impl_same_Read_O read) }), (5, { d := some true }), (10, { a := .call [.val [some 2] [], .val [some 2] []] false (impl_same_Put_R put) (impl_same_Put_O put) }), (12, { d := some false })]] [ACalls cx.P 65 [vsl 2 eRead a.Reads, vsl 2 eRead b.Reads] (impl_same_Read_R read) (impl_same_Read_O read), read = true, ACalls cx.P 66 [vsl 2 ePut a.Puts, vsl 2 ePut b.Puts] (impl_same_Put_R put) (impl_same_Put_O put), put = false] (.cons (impl_same_Read_ok a.Reads b.Reads read hread) (.cons e1 (.cons (impl_same_Put_ok a.Puts b.Puts put hput) (.cons e2 .nil)))) (by kernel_rfl)).is (congrArg impl_ExecSame_R e) (congrArg impl_ExecSame_O e)))))) (fun e1 h =>
 (someD h fun e => (Fin.fin (cx := cx) (X := impl_ExecSame_X) (res := impl_ExecSame_R false) (outs := impl_ExecSame_O false) Try.func60 [[], [(4, { a := .call [.val [some 2] [], .val [some 2] []] false (impl_same_Read_R read) (impl_same_Read_O read) }), (5, { d := some false })]] [ACalls cx.P 65 [vsl 2 eRead a.Reads, vsl 2 eRead b.Reads] (impl_same_Read_R read) (impl_same_Read_O read), read = false] (.cons (impl_same_Read_ok a.Reads b.Reads read hread) (.cons e1 .nil)) (by kernel_rfl)).is (congrArg impl_ExecSame_R e) (congrArg impl_ExecSame_O e)))))
theorem impl_ExecSame_ok (a : TRun) (b : TRun) (r : Bool) (h : impl_ExecSame a b = some r) : ACalls cx.P 60 [.agg (eRun a), .agg (eRun b)] (impl_ExecSame_R r) (impl_ExecSame_O r) :=
  ACalls.of (cx := cx) (X := impl_ExecSame_X) (c := impl_ExecSame_c) Try.func60 (by kernel_rfl) (by kernel_rfl) (by kernel_rfl) (impl_ExecSame_fin a b r h)

/-! ### impl_CertLike -/
noncomputable def impl_CertLike_c : Code := bodyOf Try.f43
noncomputable def impl_CertLike_X : Sig := { f := 43, fn := Try.f43, rms := [.val [] []], oms := [none, none] }
noncomputable def impl_CertLike_R (r : Bool) : V := .b r
noncomputable def impl_CertLike_O (r : Bool) : List (Option V) := [none, none]
noncomputable def impl_CertLike (a : TEntry) (b : TEntry) : Option Bool :=
  (bif (a.None == b.None) then
 (bif (([a.Req.Who, a.Req.Seq] : List Int) == [b.Req.Who, b.Req.Seq]) then
 ((impl_ExecSame a.Run b.Run).bind fun execSame =>
 some execSame)
 else
 some false)
 else
 some false)
theorem impl_CertLike_fin (a : TEntry) (b : TEntry) (r : Bool) (h : impl_CertLike a b = some r) : Fin cx impl_CertLike_X (impl_CertLike_R r) (impl_CertLike_O r) [.code impl_CertLike_c] (startS impl_CertLike_X [.agg (eEntry a), .agg (eEntry b)]) :=
  (condD h (fun e1 h =>
 (condD h (fun e2 h =>
 (bindD h fun execSame hexecSame h =>
 (someD h fun e => (Fin.fin (cx := cx) (X := impl_CertLike_X) (res := impl_CertLike_R execSame) (outs := impl_CertLike_O execSame) Try.func43 [[], [(5, { d := some true }), (12, { d := some true }), (17, { a := .call [.val [some 2, some 2, none, none] [], .val [some 2, some 2, none, none] []] false (impl_ExecSame_R execSame) (impl_ExecSame_O execSame) })]] [(a.None == b.None) = true, (([a.Req.Who, a.Req.Seq] : List Int) == [b.Req.Who, b.Req.Seq]) = true, ACalls cx.P 60 [.agg (eRun a.Run), .agg (eRun b.Run)] (impl_ExecSame_R execSame) (impl_ExecSame_O execSame)] (.cons e1 (.cons e2 (.cons (impl_ExecSame_ok a.Run b.Run execSame hexecSame) .nil))) (by kernel_rfl)).is (congrArg impl_CertLike_R e) (congrArg impl_CertLike_O e)))) (fun e2 h =>
 (someD h fun e => (Fin.fin (cx := cx) (X := impl_CertLike_X) (res := impl_CertLike_R false) (outs := impl_CertLike_O false) Try.func43 [[], [(5, { d := some true }), (12, { d := some false })]] [(a.None == b.None) = true, (([a.Req.Who, a.Req.Seq] : List Int) == [b.Req.Who, b.Req.Seq]) = false] (.cons e1 (.cons e2 .nil)) (by kernel_rfl)).is (congrArg impl_CertLike_R e) (congrArg impl_CertLike_O e))))) (fun e1 h =>
 (someD h fun e => (Fin.fin (cx := cx) (X := impl_CertLike_X) (res := impl_CertLike_R false) (outs := impl_CertLike_O false) Try.func43 [[], [(5, { d := some false })]] [(a.None == b.None) = false] (.cons e1 .nil) (by kernel_rfl)).is (congrArg impl_CertLike_R e) (congrArg impl_CertLike_O e))))
theorem impl_CertLike_ok (a : TEntry) (b : TEntry) (r : Bool) (h : impl_CertLike a b = some r) : ACalls cx.P 43 [.agg (eEntry a), .agg (eEntry b)] (impl_CertLike_R r) (impl_CertLike_O r) :=
  ACalls.of (cx := cx) (X := impl_CertLike_X) (c := impl_CertLike_c) Try.func43 (by kernel_rfl) (by kernel_rfl) (by kernel_rfl) (impl_CertLike_fin a b r h)

/-! ### impl_in -/
noncomputable def impl_in_c : Code := bodyOf Try.f61
noncomputable def impl_in_X : Sig := { f := 61, fn := Try.f61, rms := [.val [] []], oms := [none, none, none] }
noncomputable def impl_in_R (r : Bool) : V := .b r
noncomputable def impl_in_O (r : Bool) : List (Option V) := [none, none, none]
noncomputable def impl_in (n : Int) (low : Int) (high : Int) : Option Bool :=
  (bif decide (n ≥ low) then
 some (decide (n ≤ high))
 else
 some false)
theorem impl_in_fin (n : Int) (low : Int) (high : Int) (r : Bool) (h : impl_in n low high = some r) : Fin cx impl_in_X (impl_in_R r) (impl_in_O r) [.code impl_in_c] (startS impl_in_X [vi n, vi low, vi high]) :=
  (condD h (fun e1 h =>
 (someD h fun e => (Fin.fin (cx := cx) (X := impl_in_X) (res := impl_in_R (decide (n ≤ high))) (outs := impl_in_O (decide (n ≤ high))) Try.func61 [[], [(3, { d := some true })]] [decide (n ≥ low) = true] (.cons e1 .nil) (by kernel_rfl)).is (congrArg impl_in_R e) (congrArg impl_in_O e))) (fun e1 h =>
 (someD h fun e => (Fin.fin (cx := cx) (X := impl_in_X) (res := impl_in_R false) (outs := impl_in_O false) Try.func61 [[], [(3, { d := some false })]] [decide (n ≥ low) = false] (.cons e1 .nil) (by kernel_rfl)).is (congrArg impl_in_R e) (congrArg impl_in_O e))))
theorem impl_in_ok (n : Int) (low : Int) (high : Int) (r : Bool) (h : impl_in n low high = some r) : ACalls cx.P 61 [vi n, vi low, vi high] (impl_in_R r) (impl_in_O r) :=
  ACalls.of (cx := cx) (X := impl_in_X) (c := impl_in_c) Try.func61 (by kernel_rfl) (by kernel_rfl) (by kernel_rfl) (impl_in_fin n low high r h)

/-! ### impl_reqOk -/
noncomputable def impl_reqOk_c : Code := bodyOf Try.f44
noncomputable def impl_reqOk_X : Sig := { f := 44, fn := Try.f44, rms := [.val [] []], oms := [none] }
noncomputable def impl_reqOk_R (r : Bool) : V := .b r
noncomputable def impl_reqOk_O (r : Bool) : List (Option V) := [none]
noncomputable def impl_reqOk (q : TReq) : Option Bool :=
  ((impl_in q.Who 0 2).bind fun in_ =>
 (bif in_ then
 ((impl_in q.Seq 1 1000).bind fun in_1 =>
 some in_1)
 else
 some false))
theorem impl_reqOk_fin (q : TReq) (r : Bool) (h : impl_reqOk q = some r) : Fin cx impl_reqOk_X (impl_reqOk_R r) (impl_reqOk_O r) [.code impl_reqOk_c] (startS impl_reqOk_X [.agg (eReq q)]) :=
  (bindD h fun in_ hin_ h =>
 (condD h (fun e1 h =>
 (bindD h fun in_1 hin_1 h =>
 (someD h fun e => (Fin.fin (cx := cx) (X := impl_reqOk_X) (res := impl_reqOk_R in_1) (outs := impl_reqOk_O in_1) Try.func44 [[], [(2, { a := .call [.val [] [], .val [] [], .val [] []] false (impl_in_R in_) (impl_in_O in_) }), (3, { d := some true }), (6, { a := .call [.val [] [], .val [] [], .val [] []] false (impl_in_R in_1) (impl_in_O in_1) })]] [ACalls cx.P 61 [vi q.Who, vi 0, vi 2] (impl_in_R in_) (impl_in_O in_), in_ = true, ACalls cx.P 61 [vi q.Seq, vi 1, vi 1000] (impl_in_R in_1) (impl_in_O in_1)] (.cons (impl_in_ok q.Who 0 2 in_ hin_) (.cons e1 (.cons (impl_in_ok q.Seq 1 1000 in_1 hin_1) .nil))) (by kernel_rfl)).is (congrArg impl_reqOk_R e) (congrArg impl_reqOk_O e)))) (fun e1 h =>
 (someD h fun e => (Fin.fin (cx := cx) (X := impl_reqOk_X) (res := impl_reqOk_R false) (outs := impl_reqOk_O false) Try.func44 [[], [(2, { a := .call [.val [] [], .val [] [], .val [] []] false (impl_in_R in_) (impl_in_O in_) }), (3, { d := some false })]] [ACalls cx.P 61 [vi q.Who, vi 0, vi 2] (impl_in_R in_) (impl_in_O in_), in_ = false] (.cons (impl_in_ok q.Who 0 2 in_ hin_) (.cons e1 .nil)) (by kernel_rfl)).is (congrArg impl_reqOk_R e) (congrArg impl_reqOk_O e)))))
theorem impl_reqOk_ok (q : TReq) (r : Bool) (h : impl_reqOk q = some r) : ACalls cx.P 44 [.agg (eReq q)] (impl_reqOk_R r) (impl_reqOk_O r) :=
  ACalls.of (cx := cx) (X := impl_reqOk_X) (c := impl_reqOk_c) Try.func44 (by kernel_rfl) (by kernel_rfl) (by kernel_rfl) (impl_reqOk_fin q r h)

/-! ### impl_ExecOk -/
noncomputable def impl_ExecOk_c : Code := bodyOf Try.f45
noncomputable def impl_ExecOk_X : Sig := { f := 45, fn := Try.f45, rms := [.val [] []], oms := [none] }
noncomputable def impl_ExecOk_R (r : Bool) : V := .b r
noncomputable def impl_ExecOk_O (r : Bool) : List (Option V) := [none]
noncomputable def impl_ExecOk_k1 : List Item := posI 2000 2 [false] [.code impl_ExecOk_c]
noncomputable def impl_ExecOk_S1 (r_ : TRun) : St := ⟨(bs 1 (.ptr 1 0 0 :: (bs 98 []))), [some [], some [.var 34 [vsl 2 eRead r_.Reads, vsl 2 ePut r_.Puts, vi r_.Val, vi r_.Code]]]⟩
noncomputable def impl_ExecOk_k2 : List Item := posI 2000 5 [false, false] [.code impl_ExecOk_c]
noncomputable def impl_ExecOk_S2 (r_ : TRun) : St := ⟨(bs 1 (.ptr 1 0 0 :: (bs 2 (.ptr 2 0 0 :: (bs 95 []))))), [some [], some [.var 34 [vsl 2 eRead r_.Reads, vsl 2 ePut r_.Puts, vi r_.Val, vi r_.Code]], some [.arr 104 1 4 ((List.replicate 4 false).map eB)]]⟩
noncomputable def impl_ExecOk_k3 : List Item := posI 2000 7 [false, false, false] [.code impl_ExecOk_c]
noncomputable def impl_ExecOk_S3 : St := ⟨(bs 100 []), [some []]⟩
noncomputable def impl_ExecOk_k4 : Option Bool :=
  some true
theorem impl_ExecOk_k4_ok (r : Bool) (h : impl_ExecOk_k4 = some r) : Fin cx impl_ExecOk_X (impl_ExecOk_R r) (impl_ExecOk_O r) impl_ExecOk_k3 (impl_ExecOk_S3) :=
  (someD h fun e => (Fin.fin (cx := cx) (X := impl_ExecOk_X) (res := impl_ExecOk_R true) (outs := impl_ExecOk_O true) Try.func45 [[]] [] .nil (by kernel_rfl)).is (congrArg impl_ExecOk_R e) (congrArg impl_ExecOk_O e))
noncomputable def impl_ExecOk_k5 : List Item := posI 2000 6 [false, false] [.code impl_ExecOk_c]
noncomputable def impl_ExecOk_S4 (r_ : TRun) (put : List Bool) (v76 : Int) : St := ⟨(bs 4 (.ptr 1 0 0 :: (bs 69 (vsl 2 ePut r_.Puts :: (vi (r_.Puts.length : Int) :: (vi v76 :: (bs 23 []))))))), [some [], some [.arr 104 1 4 (put.map eB)]]⟩
noncomputable def impl_ExecOk_b1 (r_ : TRun) (put : List Bool) (v76 : Int) : Option (Stp Bool ((List Bool) × Int) Unit) :=
  (bif decide (v76 < (r_.Puts.length : Int)) then
 ((idx r_.Puts v76).bind fun put1 =>
 ((impl_in put1.Box 0 3).bind fun in_ =>
 (bif (!in_) then
 some (Stp.ret false)
 else
 ((idx put put1.Box).bind fun y =>
 (need (put1.Box < 4)
 ((bif y then
 some (Stp.ret false)
 else
 ((impl_in put1.Val (-1000000) 1000000).bind fun in_1 =>
 (bif (!in_1) then
 some (Stp.ret false)
 else
 (need (put1.Box < 4)
 (some (Stp.nxt (put.set put1.Box.toNat true, w64 (v76 + 1))))))))))))))
 else
 some (Stp.brk ()))
theorem impl_ExecOk_b1_ok (r_ : TRun) (res : V) (outs : List (Option V)) (x1 : Exc Bool Unit) (hb1 : ∀ s : Unit, x1 = .brk s → Fin cx impl_ExecOk_X res outs impl_ExecOk_k3 (impl_ExecOk_S3)) (hr1 : ∀ v : Bool, x1 = .ret v → (res = impl_ExecOk_R v ∧ outs = impl_ExecOk_O v)) (st1 : Stp Bool ((List Bool) × Int) Unit) (hc1 : Cont x1 (fun s : (List Bool) × Int => Fin cx impl_ExecOk_X res outs impl_ExecOk_k5 (impl_ExecOk_S4 r_ s.1 s.2)) st1) (put : List Bool) (v76 : Int) (h : impl_ExecOk_b1 r_ put v76 = some st1) : Fin cx impl_ExecOk_X res outs impl_ExecOk_k5 (impl_ExecOk_S4 r_ put v76) :=
  (condD h (fun e1 h =>
 (bindD h fun put1 hput1 h =>
 (bindD h fun in_ hin_ h =>
 (condD h (fun e2 h =>
 (retD h hc1 fun e => (Fin.fin (cx := cx) (X := impl_ExecOk_X) (res := impl_ExecOk_R false) (outs := impl_ExecOk_O false) Try.func45 [[(0, { d := some true })], [(0, { a := .row (ePut put1) })], [(2, { a := .call [.val [] [], .val [] [], .val [] []] false (impl_in_R in_) (impl_in_O in_) }), (4, { d := some true })], []] [decide (v76 < (r_.Puts.length : Int)) = true, (0 : Int) ≤ v76, v76 < ((r_.Puts.length : Nat) : Int), (r_.Puts.map ePut)[v76.toNat]? = some (ePut put1), ACalls cx.P 61 [vi put1.Box, vi 0, vi 3] (impl_in_R in_) (impl_in_O in_), (!in_) = true] (.cons e1 (.cons (idx0 hput1) (.cons (idx1 hput1) (.cons (map_idx hput1) (.cons (impl_in_ok put1.Box 0 3 in_ hin_) (.cons e2 .nil)))))) (by kernel_rfl)).is (hr1 _ e).1 (hr1 _ e).2)) (fun e2 h =>
 (bindD h fun y hy h =>
 (needD h fun e3 h =>
 (condD h (fun e4 h =>
 (retD h hc1 fun e => (Fin.fin (cx := cx) (X := impl_ExecOk_X) (res := impl_ExecOk_R false) (outs := impl_ExecOk_O false) Try.func45 [[(0, { d := some true })], [(0, { a := .row (ePut put1) })], [(2, { a := .call [.val [] [], .val [] [], .val [] []] false (impl_in_R in_) (impl_in_O in_) }), (4, { d := some false }), (8, { a := .row (eB y) }), (10, { d := some true })], []] [decide (v76 < (r_.Puts.length : Int)) = true, (0 : Int) ≤ v76, v76 < ((r_.Puts.length : Nat) : Int), (r_.Puts.map ePut)[v76.toNat]? = some (ePut put1), ACalls cx.P 61 [vi put1.Box, vi 0, vi 3] (impl_in_R in_) (impl_in_O in_), (!in_) = false, (0 : Int) ≤ put1.Box, put1.Box < ((4 : Nat) : Int), (put.map eB)[put1.Box.toNat]? = some (eB y), y = true] (.cons e1 (.cons (idx0 hput1) (.cons (idx1 hput1) (.cons (map_idx hput1) (.cons (impl_in_ok put1.Box 0 3 in_ hin_) (.cons e2 (.cons (idx0 hy) (.cons e3 (.cons (map_idx hy) (.cons e4 .nil)))))))))) (by kernel_rfl)).is (hr1 _ e).1 (hr1 _ e).2)) (fun e4 h =>
 (bindD h fun in_1 hin_1 h =>
 (condD h (fun e5 h =>
 (retD h hc1 fun e => (Fin.fin (cx := cx) (X := impl_ExecOk_X) (res := impl_ExecOk_R false) (outs := impl_ExecOk_O false) Try.func45 [[(0, { d := some true })], [(0, { a := .row (ePut put1) })], [(2, { a := .call [.val [] [], .val [] [], .val [] []] false (impl_in_R in_) (impl_in_O in_) }), (4, { d := some false }), (8, { a := .row (eB y) }), (10, { d := some false }), (13, { a := .call [.val [] [], .val [] [], .val [] []] false (impl_in_R in_1) (impl_in_O in_1) }), (15, { d := some true })], []] [decide (v76 < (r_.Puts.length : Int)) = true, (0 : Int) ≤ v76, v76 < ((r_.Puts.length : Nat) : Int), (r_.Puts.map ePut)[v76.toNat]? = some (ePut put1), ACalls cx.P 61 [vi put1.Box, vi 0, vi 3] (impl_in_R in_) (impl_in_O in_), (!in_) = false, (0 : Int) ≤ put1.Box, put1.Box < ((4 : Nat) : Int), (put.map eB)[put1.Box.toNat]? = some (eB y), y = false, ACalls cx.P 61 [vi put1.Val, vi (-1000000), vi 1000000] (impl_in_R in_1) (impl_in_O in_1), (!in_1) = true] (.cons e1 (.cons (idx0 hput1) (.cons (idx1 hput1) (.cons (map_idx hput1) (.cons (impl_in_ok put1.Box 0 3 in_ hin_) (.cons e2 (.cons (idx0 hy) (.cons e3 (.cons (map_idx hy) (.cons e4 (.cons (impl_in_ok put1.Val (-1000000) 1000000 in_1 hin_1) (.cons e5 .nil)))))))))))) (by kernel_rfl)).is (hr1 _ e).1 (hr1 _ e).2)) (fun e5 h =>
 (needD h fun e6 h =>
 (nxtD h hc1 fun hI => (Fin.seg [[(0, { d := some true })], [(0, { a := .row (ePut put1) })], [(2, { a := .call [.val [] [], .val [] [], .val [] []] false (impl_in_R in_) (impl_in_O in_) }), (4, { d := some false }), (8, { a := .row (eB y) }), (10, { d := some false }), (13, { a := .call [.val [] [], .val [] [], .val [] []] false (impl_in_R in_1) (impl_in_O in_1) }), (15, { d := some false })], [(3, { a := .rowck (eB y) [], e := some (.arr 104 1 4 ((put.set put1.Box.toNat true).map eB)) })], []] [] [4, 74, 75, 76] [(1, 0)] [decide (v76 < (r_.Puts.length : Int)) = true, (0 : Int) ≤ v76, v76 < ((r_.Puts.length : Nat) : Int), (r_.Puts.map ePut)[v76.toNat]? = some (ePut put1), ACalls cx.P 61 [vi put1.Box, vi 0, vi 3] (impl_in_R in_) (impl_in_O in_), (!in_) = false, (0 : Int) ≤ put1.Box, put1.Box < ((4 : Nat) : Int), (put.map eB)[put1.Box.toNat]? = some (eB y), y = false, ACalls cx.P 61 [vi put1.Val, vi (-1000000), vi 1000000] (impl_in_R in_1) (impl_in_O in_1), (!in_1) = false, (0 : Int) ≤ put1.Box, put1.Box < ((4 : Nat) : Int), Ent.arr 104 1 4 ((put.map eB).set (put1.Box.toNat) [.b true]) = Ent.arr 104 1 4 ((put.set put1.Box.toNat true).map eB), (put.map eB)[put1.Box.toNat]? = some (eB y)] (.cons e1 (.cons (idx0 hput1) (.cons (idx1 hput1) (.cons (map_idx hput1) (.cons (impl_in_ok put1.Box 0 3 in_ hin_) (.cons e2 (.cons (idx0 hy) (.cons e3 (.cons (map_idx hy) (.cons e4 (.cons (impl_in_ok put1.Val (-1000000) 1000000 in_1 hin_1) (.cons e5 (.cons (idx0 hy) (.cons e6 (.cons (arr_set rfl) (.cons (map_idx hy) .nil)))))))))))))))) hI (by kernel_rfl)))))))))))))))) (fun e1 h =>
 (brkD h hc1 fun e => (Fin.seg [[(0, { d := some false })]] [] [] [] [decide (v76 < (r_.Puts.length : Int)) = false] (.cons e1 .nil) (hb1 _ e) (by kernel_rfl)))))
theorem impl_ExecOk_b1_loop (r_ : TRun) (res : V) (outs : List (Option V)) (x1 : Exc Bool Unit) (hb1 : ∀ s : Unit, x1 = .brk s → Fin cx impl_ExecOk_X res outs impl_ExecOk_k3 (impl_ExecOk_S3)) (hr1 : ∀ v : Bool, x1 = .ret v → (res = impl_ExecOk_R v ∧ outs = impl_ExecOk_O v)) (s : (List Bool) × Int) (h : loop (fun s : (List Bool) × Int => impl_ExecOk_b1 r_ s.1 s.2) s = some x1) : Fin cx impl_ExecOk_X res outs impl_ExecOk_k5 (impl_ExecOk_S4 r_ s.1 s.2) :=
  loopD (I := fun s : (List Bool) × Int => Fin cx impl_ExecOk_X res outs impl_ExecOk_k5 (impl_ExecOk_S4 r_ s.1 s.2)) h fun s st h hc => impl_ExecOk_b1_ok r_ res outs x1 hb1 hr1 st hc s.1 s.2 h
noncomputable def impl_ExecOk_k6 (r_ : TRun) : Option Bool :=
  ((loop (fun s : (List Bool) × Int => impl_ExecOk_b1 r_ s.1 s.2) (List.replicate 4 false, 0)).bind fun x => x.go (fun r => some r) fun s => impl_ExecOk_k4)
theorem impl_ExecOk_k6_ok (r_ : TRun) (r : Bool) (h : impl_ExecOk_k6 r_ = some r) : Fin cx impl_ExecOk_X (impl_ExecOk_R r) (impl_ExecOk_O r) impl_ExecOk_k2 (impl_ExecOk_S2 r_) :=
  (loopJ h fun x hl hr hb => (Fin.seg [[]] [] [4, 74, 75, 76] [(2, 0)] [] .nil (impl_ExecOk_b1_loop r_ _ _ x (fun s e => impl_ExecOk_k4_ok r (hb s e)) (fun v e => ⟨congrArg impl_ExecOk_R (Option.some.inj (hr v e)).symm, congrArg impl_ExecOk_O (Option.some.inj (hr v e)).symm⟩) (List.replicate 4 false, 0) hl) (by kernel_rfl)))
noncomputable def impl_ExecOk_k7 : List Item := posI 2000 4 [false] [.code impl_ExecOk_c]
noncomputable def impl_ExecOk_S5 (r_ : TRun) (read : List Bool) (v49 : Int) : St := ⟨(bs 1 (.ptr 1 0 0 :: (bs 1 (.ptr 2 0 0 :: (.ptr 3 0 0 :: (bs 42 (vsl 2 eRead r_.Reads :: (vi (r_.Reads.length : Int) :: (vi v49 :: (bs 50 [])))))))))), [some [], some [.var 34 [vsl 2 eRead r_.Reads, vsl 2 ePut r_.Puts, vi r_.Val, vi r_.Code]], some [.arr 104 1 4 (read.map eB)], some [.arr 104 1 4 ((List.replicate 4 false).map eB)]]⟩
noncomputable def impl_ExecOk_b2 (r_ : TRun) (read : List Bool) (v49 : Int) : Option (Stp Bool ((List Bool) × Int) Unit) :=
  (bif decide (v49 < (r_.Reads.length : Int)) then
 ((idx r_.Reads v49).bind fun read1 =>
 ((impl_in read1.Box 0 3).bind fun in_2 =>
 (bif (!in_2) then
 some (Stp.ret false)
 else
 ((idx read read1.Box).bind fun y1 =>
 (need (read1.Box < 4)
 ((bif y1 then
 some (Stp.ret false)
 else
 ((impl_in read1.Ver 0 1000000).bind fun in_3 =>
 (bif (!in_3) then
 some (Stp.ret false)
 else
 (need (read1.Box < 4)
 (some (Stp.nxt (read.set read1.Box.toNat true, w64 (v49 + 1))))))))))))))
 else
 some (Stp.brk ()))
theorem impl_ExecOk_b2_ok (r_ : TRun) (res : V) (outs : List (Option V)) (x1 : Exc Bool Unit) (hb1 : ∀ s : Unit, x1 = .brk s → Fin cx impl_ExecOk_X res outs impl_ExecOk_k2 (impl_ExecOk_S2 r_)) (hr1 : ∀ v : Bool, x1 = .ret v → (res = impl_ExecOk_R v ∧ outs = impl_ExecOk_O v)) (st1 : Stp Bool ((List Bool) × Int) Unit) (hc1 : Cont x1 (fun s : (List Bool) × Int => Fin cx impl_ExecOk_X res outs impl_ExecOk_k7 (impl_ExecOk_S5 r_ s.1 s.2)) st1) (read : List Bool) (v49 : Int) (h : impl_ExecOk_b2 r_ read v49 = some st1) : Fin cx impl_ExecOk_X res outs impl_ExecOk_k7 (impl_ExecOk_S5 r_ read v49) :=
  (condD h (fun e7 h =>
 (bindD h fun read1 hread1 h =>
 (bindD h fun in_2 hin_2 h =>
 (condD h (fun e8 h =>
 (retD h hc1 fun e => (Fin.fin (cx := cx) (X := impl_ExecOk_X) (res := impl_ExecOk_R false) (outs := impl_ExecOk_O false) Try.func45 [[(0, { d := some true })], [(0, { a := .row (eRead read1) })], [(2, { a := .call [.val [] [], .val [] [], .val [] []] false (impl_in_R in_2) (impl_in_O in_2) }), (4, { d := some true })], []] [decide (v49 < (r_.Reads.length : Int)) = true, (0 : Int) ≤ v49, v49 < ((r_.Reads.length : Nat) : Int), (r_.Reads.map eRead)[v49.toNat]? = some (eRead read1), ACalls cx.P 61 [vi read1.Box, vi 0, vi 3] (impl_in_R in_2) (impl_in_O in_2), (!in_2) = true] (.cons e7 (.cons (idx0 hread1) (.cons (idx1 hread1) (.cons (map_idx hread1) (.cons (impl_in_ok read1.Box 0 3 in_2 hin_2) (.cons e8 .nil)))))) (by kernel_rfl)).is (hr1 _ e).1 (hr1 _ e).2)) (fun e8 h =>
 (bindD h fun y1 hy1 h =>
 (needD h fun e9 h =>
 (condD h (fun e10 h =>
 (retD h hc1 fun e => (Fin.fin (cx := cx) (X := impl_ExecOk_X) (res := impl_ExecOk_R false) (outs := impl_ExecOk_O false) Try.func45 [[(0, { d := some true })], [(0, { a := .row (eRead read1) })], [(2, { a := .call [.val [] [], .val [] [], .val [] []] false (impl_in_R in_2) (impl_in_O in_2) }), (4, { d := some false }), (8, { a := .row (eB y1) }), (10, { d := some true })], []] [decide (v49 < (r_.Reads.length : Int)) = true, (0 : Int) ≤ v49, v49 < ((r_.Reads.length : Nat) : Int), (r_.Reads.map eRead)[v49.toNat]? = some (eRead read1), ACalls cx.P 61 [vi read1.Box, vi 0, vi 3] (impl_in_R in_2) (impl_in_O in_2), (!in_2) = false, (0 : Int) ≤ read1.Box, read1.Box < ((4 : Nat) : Int), (read.map eB)[read1.Box.toNat]? = some (eB y1), y1 = true] (.cons e7 (.cons (idx0 hread1) (.cons (idx1 hread1) (.cons (map_idx hread1) (.cons (impl_in_ok read1.Box 0 3 in_2 hin_2) (.cons e8 (.cons (idx0 hy1) (.cons e9 (.cons (map_idx hy1) (.cons e10 .nil)))))))))) (by kernel_rfl)).is (hr1 _ e).1 (hr1 _ e).2)) (fun e10 h =>
 (bindD h fun in_3 hin_3 h =>
 (condD h (fun e11 h =>
 (retD h hc1 fun e => (Fin.fin (cx := cx) (X := impl_ExecOk_X) (res := impl_ExecOk_R false) (outs := impl_ExecOk_O false) Try.func45 [[(0, { d := some true })], [(0, { a := .row (eRead read1) })], [(2, { a := .call [.val [] [], .val [] [], .val [] []] false (impl_in_R in_2) (impl_in_O in_2) }), (4, { d := some false }), (8, { a := .row (eB y1) }), (10, { d := some false }), (13, { a := .call [.val [] [], .val [] [], .val [] []] false (impl_in_R in_3) (impl_in_O in_3) }), (15, { d := some true })], []] [decide (v49 < (r_.Reads.length : Int)) = true, (0 : Int) ≤ v49, v49 < ((r_.Reads.length : Nat) : Int), (r_.Reads.map eRead)[v49.toNat]? = some (eRead read1), ACalls cx.P 61 [vi read1.Box, vi 0, vi 3] (impl_in_R in_2) (impl_in_O in_2), (!in_2) = false, (0 : Int) ≤ read1.Box, read1.Box < ((4 : Nat) : Int), (read.map eB)[read1.Box.toNat]? = some (eB y1), y1 = false, ACalls cx.P 61 [vi read1.Ver, vi 0, vi 1000000] (impl_in_R in_3) (impl_in_O in_3), (!in_3) = true] (.cons e7 (.cons (idx0 hread1) (.cons (idx1 hread1) (.cons (map_idx hread1) (.cons (impl_in_ok read1.Box 0 3 in_2 hin_2) (.cons e8 (.cons (idx0 hy1) (.cons e9 (.cons (map_idx hy1) (.cons e10 (.cons (impl_in_ok read1.Ver 0 1000000 in_3 hin_3) (.cons e11 .nil)))))))))))) (by kernel_rfl)).is (hr1 _ e).1 (hr1 _ e).2)) (fun e11 h =>
 (needD h fun e12 h =>
 (nxtD h hc1 fun hI => (Fin.seg [[(0, { d := some true })], [(0, { a := .row (eRead read1) })], [(2, { a := .call [.val [] [], .val [] [], .val [] []] false (impl_in_R in_2) (impl_in_O in_2) }), (4, { d := some false }), (8, { a := .row (eB y1) }), (10, { d := some false }), (13, { a := .call [.val [] [], .val [] [], .val [] []] false (impl_in_R in_3) (impl_in_O in_3) }), (15, { d := some false })], [(3, { a := .rowck (eB y1) [], e := some (.arr 104 1 4 ((read.set read1.Box.toNat true).map eB)) })], []] [] [1, 3, 4, 47, 48, 49] [(1, 0), (2, 0), (3, 0)] [decide (v49 < (r_.Reads.length : Int)) = true, (0 : Int) ≤ v49, v49 < ((r_.Reads.length : Nat) : Int), (r_.Reads.map eRead)[v49.toNat]? = some (eRead read1), ACalls cx.P 61 [vi read1.Box, vi 0, vi 3] (impl_in_R in_2) (impl_in_O in_2), (!in_2) = false, (0 : Int) ≤ read1.Box, read1.Box < ((4 : Nat) : Int), (read.map eB)[read1.Box.toNat]? = some (eB y1), y1 = false, ACalls cx.P 61 [vi read1.Ver, vi 0, vi 1000000] (impl_in_R in_3) (impl_in_O in_3), (!in_3) = false, (0 : Int) ≤ read1.Box, read1.Box < ((4 : Nat) : Int), Ent.arr 104 1 4 ((read.map eB).set (read1.Box.toNat) [.b true]) = Ent.arr 104 1 4 ((read.set read1.Box.toNat true).map eB), (read.map eB)[read1.Box.toNat]? = some (eB y1)] (.cons e7 (.cons (idx0 hread1) (.cons (idx1 hread1) (.cons (map_idx hread1) (.cons (impl_in_ok read1.Box 0 3 in_2 hin_2) (.cons e8 (.cons (idx0 hy1) (.cons e9 (.cons (map_idx hy1) (.cons e10 (.cons (impl_in_ok read1.Ver 0 1000000 in_3 hin_3) (.cons e11 (.cons (idx0 hy1) (.cons e12 (.cons (arr_set rfl) (.cons (map_idx hy1) .nil)))))))))))))))) hI (by kernel_rfl)))))))))))))))) (fun e7 h =>
 (brkD h hc1 fun e => (Fin.seg [[(0, { d := some false })]] [] [1, 4] [(1, 0), (3, 0)] [decide (v49 < (r_.Reads.length : Int)) = false] (.cons e7 .nil) (hb1 _ e) (by kernel_rfl)))))
theorem impl_ExecOk_b2_loop (r_ : TRun) (res : V) (outs : List (Option V)) (x1 : Exc Bool Unit) (hb1 : ∀ s : Unit, x1 = .brk s → Fin cx impl_ExecOk_X res outs impl_ExecOk_k2 (impl_ExecOk_S2 r_)) (hr1 : ∀ v : Bool, x1 = .ret v → (res = impl_ExecOk_R v ∧ outs = impl_ExecOk_O v)) (s : (List Bool) × Int) (h : loop (fun s : (List Bool) × Int => impl_ExecOk_b2 r_ s.1 s.2) s = some x1) : Fin cx impl_ExecOk_X res outs impl_ExecOk_k7 (impl_ExecOk_S5 r_ s.1 s.2) :=
  loopD (I := fun s : (List Bool) × Int => Fin cx impl_ExecOk_X res outs impl_ExecOk_k7 (impl_ExecOk_S5 r_ s.1 s.2)) h fun s st h hc => impl_ExecOk_b2_ok r_ res outs x1 hb1 hr1 st hc s.1 s.2 h
noncomputable def impl_ExecOk_j1 (r_ : TRun) : Option Bool :=
  ((loop (fun s : (List Bool) × Int => impl_ExecOk_b2 r_ s.1 s.2) (List.replicate 4 false, 0)).bind fun x => x.go (fun r => some r) fun s => impl_ExecOk_k6 r_)
theorem impl_ExecOk_j1_ok (r_ : TRun) (r : Bool) (h : impl_ExecOk_j1 r_ = some r) : Fin cx impl_ExecOk_X (impl_ExecOk_R r) (impl_ExecOk_O r) impl_ExecOk_k1 (impl_ExecOk_S1 r_) :=
  (loopJ h fun x hl hr hb => (Fin.seg [[], []] [] [1, 3, 4, 47, 48, 49] [(1, 0), (2, 0), (3, 0)] [(List.replicate 4 ([.b false] : List V)).flatten = [.b false, .b false, .b false, .b false] ∧ ([.b false] : List V).length = 1, (List.replicate 4 ([.b false] : List V)).flatten = [.b false, .b false, .b false, .b false] ∧ ([.b false] : List V).length = 1] (.cons ⟨rfl, rfl⟩ (.cons ⟨rfl, rfl⟩ .nil)) (impl_ExecOk_b2_loop r_ _ _ x (fun s e => impl_ExecOk_k6_ok r_ r (hb s e)) (fun v e => ⟨congrArg impl_ExecOk_R (Option.some.inj (hr v e)).symm, congrArg impl_ExecOk_O (Option.some.inj (hr v e)).symm⟩) (List.replicate 4 false, 0) hl) (by kernel_rfl)))
noncomputable def impl_ExecOk (r_ : TRun) : Option Bool :=
  ((((impl_in r_.Code 0 3).bind fun in_4 =>
 (bif (!in_4) then
 some (Exc.ret false)
 else
 ((impl_in r_.Val (-1000000) 1000000).bind fun in_5 =>
 (bif (!in_5) then
 some (Exc.ret false)
 else
 (bif (r_.Code != 0) then
 (bif (r_.Val != 0) then
 some (Exc.ret false)
 else
 (bif decide ((r_.Puts.length : Int) > 0) then
 some (Exc.ret false)
 else
 (bif (r_.Code == 3) then
 (bif decide ((r_.Reads.length : Int) > 0) then
 some (Exc.ret false)
 else
 some (Exc.brk ()))
 else
 some (Exc.brk ()))))
 else
 (bif (r_.Code == 3) then
 (bif decide ((r_.Reads.length : Int) > 0) then
 some (Exc.ret false)
 else
 some (Exc.brk ()))
 else
 some (Exc.brk ()))))))) : Option (Exc Bool Unit)).bind fun x => x.go some fun j => impl_ExecOk_j1 r_)
theorem impl_ExecOk_fin (r_ : TRun) (r : Bool) (h : impl_ExecOk r_ = some r) : Fin cx impl_ExecOk_X (impl_ExecOk_R r) (impl_ExecOk_O r) [.code impl_ExecOk_c] (startS impl_ExecOk_X [.agg (eRun r_)]) :=
  (joinD (I := fun j : Unit => Fin cx impl_ExecOk_X (impl_ExecOk_R r) (impl_ExecOk_O r) impl_ExecOk_k1 (impl_ExecOk_S1 r_)) h (fun j h => impl_ExecOk_j1_ok r_ r h) (fun x1 h hc1 =>
  (bindD h fun in_4 hin_4 h =>
 (condD h (fun e13 h =>
 (jretD h hc1 fun h => (someD h fun e => (Fin.fin (cx := cx) (X := impl_ExecOk_X) (res := impl_ExecOk_R false) (outs := impl_ExecOk_O false) Try.func45 [[], [(2, { a := .call [.val [] [], .val [] [], .val [] []] false (impl_in_R in_4) (impl_in_O in_4) }), (4, { d := some true })], []] [ACalls cx.P 61 [vi r_.Code, vi 0, vi 3] (impl_in_R in_4) (impl_in_O in_4), (!in_4) = true] (.cons (impl_in_ok r_.Code 0 3 in_4 hin_4) (.cons e13 .nil)) (by kernel_rfl)).is (congrArg impl_ExecOk_R e) (congrArg impl_ExecOk_O e)))) (fun e13 h =>
 (bindD h fun in_5 hin_5 h =>
 (condD h (fun e14 h =>
 (jretD h hc1 fun h => (someD h fun e => (Fin.fin (cx := cx) (X := impl_ExecOk_X) (res := impl_ExecOk_R false) (outs := impl_ExecOk_O false) Try.func45 [[], [(2, { a := .call [.val [] [], .val [] [], .val [] []] false (impl_in_R in_4) (impl_in_O in_4) }), (4, { d := some false }), (7, { a := .call [.val [] [], .val [] [], .val [] []] false (impl_in_R in_5) (impl_in_O in_5) }), (10, { d := some true })], []] [ACalls cx.P 61 [vi r_.Code, vi 0, vi 3] (impl_in_R in_4) (impl_in_O in_4), (!in_4) = false, ACalls cx.P 61 [vi r_.Val, vi (-1000000), vi 1000000] (impl_in_R in_5) (impl_in_O in_5), (!in_5) = true] (.cons (impl_in_ok r_.Code 0 3 in_4 hin_4) (.cons e13 (.cons (impl_in_ok r_.Val (-1000000) 1000000 in_5 hin_5) (.cons e14 .nil)))) (by kernel_rfl)).is (congrArg impl_ExecOk_R e) (congrArg impl_ExecOk_O e)))) (fun e14 h =>
 (condD h (fun e15 h =>
 (condD h (fun e16 h =>
 (jretD h hc1 fun h => (someD h fun e => (Fin.fin (cx := cx) (X := impl_ExecOk_X) (res := impl_ExecOk_R false) (outs := impl_ExecOk_O false) Try.func45 [[], [(2, { a := .call [.val [] [], .val [] [], .val [] []] false (impl_in_R in_4) (impl_in_O in_4) }), (4, { d := some false }), (7, { a := .call [.val [] [], .val [] [], .val [] []] false (impl_in_R in_5) (impl_in_O in_5) }), (10, { d := some false }), (14, { d := some true }), (18, { d := some true })], []] [ACalls cx.P 61 [vi r_.Code, vi 0, vi 3] (impl_in_R in_4) (impl_in_O in_4), (!in_4) = false, ACalls cx.P 61 [vi r_.Val, vi (-1000000), vi 1000000] (impl_in_R in_5) (impl_in_O in_5), (!in_5) = false, (r_.Code != 0) = true, (r_.Val != 0) = true] (.cons (impl_in_ok r_.Code 0 3 in_4 hin_4) (.cons e13 (.cons (impl_in_ok r_.Val (-1000000) 1000000 in_5 hin_5) (.cons e14 (.cons e15 (.cons e16 .nil)))))) (by kernel_rfl)).is (congrArg impl_ExecOk_R e) (congrArg impl_ExecOk_O e)))) (fun e16 h =>
 (condD h (fun e17 h =>
 (jretD h hc1 fun h => (someD h fun e => (Fin.fin (cx := cx) (X := impl_ExecOk_X) (res := impl_ExecOk_R false) (outs := impl_ExecOk_O false) Try.func45 [[], [(2, { a := .call [.val [] [], .val [] [], .val [] []] false (impl_in_R in_4) (impl_in_O in_4) }), (4, { d := some false }), (7, { a := .call [.val [] [], .val [] [], .val [] []] false (impl_in_R in_5) (impl_in_O in_5) }), (10, { d := some false }), (14, { d := some true }), (18, { d := some false }), (26, { d := some true })], []] [ACalls cx.P 61 [vi r_.Code, vi 0, vi 3] (impl_in_R in_4) (impl_in_O in_4), (!in_4) = false, ACalls cx.P 61 [vi r_.Val, vi (-1000000), vi 1000000] (impl_in_R in_5) (impl_in_O in_5), (!in_5) = false, (r_.Code != 0) = true, (r_.Val != 0) = false, decide ((r_.Puts.length : Int) > 0) = true] (.cons (impl_in_ok r_.Code 0 3 in_4 hin_4) (.cons e13 (.cons (impl_in_ok r_.Val (-1000000) 1000000 in_5 hin_5) (.cons e14 (.cons e15 (.cons e16 (.cons e17 .nil))))))) (by kernel_rfl)).is (congrArg impl_ExecOk_R e) (congrArg impl_ExecOk_O e)))) (fun e17 h =>
 (condD h (fun e18 h =>
 (condD h (fun e19 h =>
 (jretD h hc1 fun h => (someD h fun e => (Fin.fin (cx := cx) (X := impl_ExecOk_X) (res := impl_ExecOk_R false) (outs := impl_ExecOk_O false) Try.func45 [[], [(2, { a := .call [.val [] [], .val [] [], .val [] []] false (impl_in_R in_4) (impl_in_O in_4) }), (4, { d := some false }), (7, { a := .call [.val [] [], .val [] [], .val [] []] false (impl_in_R in_5) (impl_in_O in_5) }), (10, { d := some false }), (14, { d := some true }), (18, { d := some false }), (26, { d := some false }), (30, { d := some true }), (36, { d := some true })], []] [ACalls cx.P 61 [vi r_.Code, vi 0, vi 3] (impl_in_R in_4) (impl_in_O in_4), (!in_4) = false, ACalls cx.P 61 [vi r_.Val, vi (-1000000), vi 1000000] (impl_in_R in_5) (impl_in_O in_5), (!in_5) = false, (r_.Code != 0) = true, (r_.Val != 0) = false, decide ((r_.Puts.length : Int) > 0) = false, (r_.Code == 3) = true, decide ((r_.Reads.length : Int) > 0) = true] (.cons (impl_in_ok r_.Code 0 3 in_4 hin_4) (.cons e13 (.cons (impl_in_ok r_.Val (-1000000) 1000000 in_5 hin_5) (.cons e14 (.cons e15 (.cons e16 (.cons e17 (.cons e18 (.cons e19 .nil))))))))) (by kernel_rfl)).is (congrArg impl_ExecOk_R e) (congrArg impl_ExecOk_O e)))) (fun e19 h =>
 (jbrkD h hc1 fun hI => (Fin.seg [[], [(2, { a := .call [.val [] [], .val [] [], .val [] []] false (impl_in_R in_4) (impl_in_O in_4) }), (4, { d := some false }), (7, { a := .call [.val [] [], .val [] [], .val [] []] false (impl_in_R in_5) (impl_in_O in_5) }), (10, { d := some false }), (14, { d := some true }), (18, { d := some false }), (26, { d := some false }), (30, { d := some true }), (36, { d := some false })]] [] [1] [(1, 0)] [ACalls cx.P 61 [vi r_.Code, vi 0, vi 3] (impl_in_R in_4) (impl_in_O in_4), (!in_4) = false, ACalls cx.P 61 [vi r_.Val, vi (-1000000), vi 1000000] (impl_in_R in_5) (impl_in_O in_5), (!in_5) = false, (r_.Code != 0) = true, (r_.Val != 0) = false, decide ((r_.Puts.length : Int) > 0) = false, (r_.Code == 3) = true, decide ((r_.Reads.length : Int) > 0) = false] (.cons (impl_in_ok r_.Code 0 3 in_4 hin_4) (.cons e13 (.cons (impl_in_ok r_.Val (-1000000) 1000000 in_5 hin_5) (.cons e14 (.cons e15 (.cons e16 (.cons e17 (.cons e18 (.cons e19 .nil))))))))) hI (by kernel_rfl)))))) (fun e18 h =>
 (jbrkD h hc1 fun hI => (Fin.seg [[], [(2, { a := .call [.val [] [], .val [] [], .val [] []] false (impl_in_R in_4) (impl_in_O in_4) }), (4, { d := some false }), (7, { a := .call [.val [] [], .val [] [], .val [] []] false (impl_in_R in_5) (impl_in_O in_5) }), (10, { d := some false }), (14, { d := some true }), (18, { d := some false }), (26, { d := some false }), (30, { d := some false })]] [] [1] [(1, 0)] [ACalls cx.P 61 [vi r_.Code, vi 0, vi 3] (impl_in_R in_4) (impl_in_O in_4), (!in_4) = false, ACalls cx.P 61 [vi r_.Val, vi (-1000000), vi 1000000] (impl_in_R in_5) (impl_in_O in_5), (!in_5) = false, (r_.Code != 0) = true, (r_.Val != 0) = false, decide ((r_.Puts.length : Int) > 0) = false, (r_.Code == 3) = false] (.cons (impl_in_ok r_.Code 0 3 in_4 hin_4) (.cons e13 (.cons (impl_in_ok r_.Val (-1000000) 1000000 in_5 hin_5) (.cons e14 (.cons e15 (.cons e16 (.cons e17 (.cons e18 .nil)))))))) hI (by kernel_rfl)))))))))) (fun e15 h =>
 (condD h (fun e20 h =>
 (condD h (fun e21 h =>
 (jretD h hc1 fun h => (someD h fun e => (Fin.fin (cx := cx) (X := impl_ExecOk_X) (res := impl_ExecOk_R false) (outs := impl_ExecOk_O false) Try.func45 [[], [(2, { a := .call [.val [] [], .val [] [], .val [] []] false (impl_in_R in_4) (impl_in_O in_4) }), (4, { d := some false }), (7, { a := .call [.val [] [], .val [] [], .val [] []] false (impl_in_R in_5) (impl_in_O in_5) }), (10, { d := some false }), (14, { d := some false }), (30, { d := some true }), (36, { d := some true })], []] [ACalls cx.P 61 [vi r_.Code, vi 0, vi 3] (impl_in_R in_4) (impl_in_O in_4), (!in_4) = false, ACalls cx.P 61 [vi r_.Val, vi (-1000000), vi 1000000] (impl_in_R in_5) (impl_in_O in_5), (!in_5) = false, (r_.Code != 0) = false, (r_.Code == 3) = true, decide ((r_.Reads.length : Int) > 0) = true] (.cons (impl_in_ok r_.Code 0 3 in_4 hin_4) (.cons e13 (.cons (impl_in_ok r_.Val (-1000000) 1000000 in_5 hin_5) (.cons e14 (.cons e15 (.cons e20 (.cons e21 .nil))))))) (by kernel_rfl)).is (congrArg impl_ExecOk_R e) (congrArg impl_ExecOk_O e)))) (fun e21 h =>
 (jbrkD h hc1 fun hI => (Fin.seg [[], [(2, { a := .call [.val [] [], .val [] [], .val [] []] false (impl_in_R in_4) (impl_in_O in_4) }), (4, { d := some false }), (7, { a := .call [.val [] [], .val [] [], .val [] []] false (impl_in_R in_5) (impl_in_O in_5) }), (10, { d := some false }), (14, { d := some false }), (30, { d := some true }), (36, { d := some false })]] [] [1] [(1, 0)] [ACalls cx.P 61 [vi r_.Code, vi 0, vi 3] (impl_in_R in_4) (impl_in_O in_4), (!in_4) = false, ACalls cx.P 61 [vi r_.Val, vi (-1000000), vi 1000000] (impl_in_R in_5) (impl_in_O in_5), (!in_5) = false, (r_.Code != 0) = false, (r_.Code == 3) = true, decide ((r_.Reads.length : Int) > 0) = false] (.cons (impl_in_ok r_.Code 0 3 in_4 hin_4) (.cons e13 (.cons (impl_in_ok r_.Val (-1000000) 1000000 in_5 hin_5) (.cons e14 (.cons e15 (.cons e20 (.cons e21 .nil))))))) hI (by kernel_rfl)))))) (fun e20 h =>
 (jbrkD h hc1 fun hI => (Fin.seg [[], [(2, { a := .call [.val [] [], .val [] [], .val [] []] false (impl_in_R in_4) (impl_in_O in_4) }), (4, { d := some false }), (7, { a := .call [.val [] [], .val [] [], .val [] []] false (impl_in_R in_5) (impl_in_O in_5) }), (10, { d := some false }), (14, { d := some false }), (30, { d := some false })]] [] [1] [(1, 0)] [ACalls cx.P 61 [vi r_.Code, vi 0, vi 3] (impl_in_R in_4) (impl_in_O in_4), (!in_4) = false, ACalls cx.P 61 [vi r_.Val, vi (-1000000), vi 1000000] (impl_in_R in_5) (impl_in_O in_5), (!in_5) = false, (r_.Code != 0) = false, (r_.Code == 3) = false] (.cons (impl_in_ok r_.Code 0 3 in_4 hin_4) (.cons e13 (.cons (impl_in_ok r_.Val (-1000000) 1000000 in_5 hin_5) (.cons e14 (.cons e15 (.cons e20 .nil)))))) hI (by kernel_rfl)))))))))))))))
theorem impl_ExecOk_ok (r_ : TRun) (r : Bool) (h : impl_ExecOk r_ = some r) : ACalls cx.P 45 [.agg (eRun r_)] (impl_ExecOk_R r) (impl_ExecOk_O r) :=
  ACalls.of (cx := cx) (X := impl_ExecOk_X) (c := impl_ExecOk_c) Try.func45 (by kernel_rfl) (by kernel_rfl) (by kernel_rfl) (impl_ExecOk_fin r_ r h)

/-! ### impl_CertEntry -/
noncomputable def impl_CertEntry_c : Code := bodyOf Try.f24
noncomputable def impl_CertEntry_X : Sig := { f := 24, fn := Try.f24, rms := [.val [] []], oms := [none] }
noncomputable def impl_CertEntry_R (r : Bool) : V := .b r
noncomputable def impl_CertEntry_O (r : Bool) : List (Option V) := [none]
noncomputable def impl_CertEntry (e_ : TEntry) : Option Bool :=
  (bif e_.None then
 ((impl_CertLike e_ (TEntry.mk true (TReq.mk 0 0) (TRun.mk [] [] 0 0))).bind fun certLike =>
 some certLike)
 else
 ((impl_reqOk e_.Req).bind fun reqOk =>
 (bif reqOk then
 ((impl_ExecOk e_.Run).bind fun execOk =>
 (bif execOk then
 some (e_.Run.Code != 3)
 else
 some false))
 else
 some false)))
theorem impl_CertEntry_fin (e_ : TEntry) (r : Bool) (h : impl_CertEntry e_ = some r) : Fin cx impl_CertEntry_X (impl_CertEntry_R r) (impl_CertEntry_O r) [.code impl_CertEntry_c] (startS impl_CertEntry_X [.agg (eEntry e_)]) :=
  (condD h (fun e1 h =>
 (bindD h fun certLike hcertLike h =>
 (someD h fun e => (Fin.fin (cx := cx) (X := impl_CertEntry_X) (res := impl_CertEntry_R certLike) (outs := impl_CertEntry_O certLike) Try.func24 [[], [(1, { d := some true })], [(2, { a := .call [.val [none, none, none, some 2, some 2, none, none] [], .val [none, none, none, some 2, some 2, none, none] []] false (impl_CertLike_R certLike) (impl_CertLike_O certLike) })]] [e_.None = true, ACalls cx.P 43 [.agg (eEntry e_), .agg (eEntry (TEntry.mk true (TReq.mk 0 0) (TRun.mk [] [] 0 0)))] (impl_CertLike_R certLike) (impl_CertLike_O certLike)] (.cons e1 (.cons (impl_CertLike_ok e_ (TEntry.mk true (TReq.mk 0 0) (TRun.mk [] [] 0 0)) certLike hcertLike) .nil)) (by kernel_rfl)).is (congrArg impl_CertEntry_R e) (congrArg impl_CertEntry_O e)))) (fun e1 h =>
 (bindD h fun reqOk hreqOk h =>
 (condD h (fun e2 h =>
 (bindD h fun execOk hexecOk h =>
 (condD h (fun e3 h =>
 (someD h fun e => (Fin.fin (cx := cx) (X := impl_CertEntry_X) (res := impl_CertEntry_R (e_.Run.Code != 3)) (outs := impl_CertEntry_O (e_.Run.Code != 3)) Try.func24 [[], [(1, { d := some false })], [(2, { a := .call [.val [] []] false (impl_reqOk_R reqOk) (impl_reqOk_O reqOk) }), (3, { d := some true }), (6, { a := .call [.val [some 2, some 2, none, none] []] false (impl_ExecOk_R execOk) (impl_ExecOk_O execOk) }), (8, { d := some true })]] [e_.None = false, ACalls cx.P 44 [.agg (eReq e_.Req)] (impl_reqOk_R reqOk) (impl_reqOk_O reqOk), reqOk = true, ACalls cx.P 45 [.agg (eRun e_.Run)] (impl_ExecOk_R execOk) (impl_ExecOk_O execOk), execOk = true] (.cons e1 (.cons (impl_reqOk_ok e_.Req reqOk hreqOk) (.cons e2 (.cons (impl_ExecOk_ok e_.Run execOk hexecOk) (.cons e3 .nil))))) (by kernel_rfl)).is (congrArg impl_CertEntry_R e) (congrArg impl_CertEntry_O e))) (fun e3 h =>
 (someD h fun e => (Fin.fin (cx := cx) (X := impl_CertEntry_X) (res := impl_CertEntry_R false) (outs := impl_CertEntry_O false) Try.func24 [[], [(1, { d := some false })], [(2, { a := .call [.val [] []] false (impl_reqOk_R reqOk) (impl_reqOk_O reqOk) }), (3, { d := some true }), (6, { a := .call [.val [some 2, some 2, none, none] []] false (impl_ExecOk_R execOk) (impl_ExecOk_O execOk) }), (8, { d := some false })]] [e_.None = false, ACalls cx.P 44 [.agg (eReq e_.Req)] (impl_reqOk_R reqOk) (impl_reqOk_O reqOk), reqOk = true, ACalls cx.P 45 [.agg (eRun e_.Run)] (impl_ExecOk_R execOk) (impl_ExecOk_O execOk), execOk = false] (.cons e1 (.cons (impl_reqOk_ok e_.Req reqOk hreqOk) (.cons e2 (.cons (impl_ExecOk_ok e_.Run execOk hexecOk) (.cons e3 .nil))))) (by kernel_rfl)).is (congrArg impl_CertEntry_R e) (congrArg impl_CertEntry_O e)))))) (fun e2 h =>
 (someD h fun e => (Fin.fin (cx := cx) (X := impl_CertEntry_X) (res := impl_CertEntry_R false) (outs := impl_CertEntry_O false) Try.func24 [[], [(1, { d := some false })], [(2, { a := .call [.val [] []] false (impl_reqOk_R reqOk) (impl_reqOk_O reqOk) }), (3, { d := some false })]] [e_.None = false, ACalls cx.P 44 [.agg (eReq e_.Req)] (impl_reqOk_R reqOk) (impl_reqOk_O reqOk), reqOk = false] (.cons e1 (.cons (impl_reqOk_ok e_.Req reqOk hreqOk) (.cons e2 .nil))) (by kernel_rfl)).is (congrArg impl_CertEntry_R e) (congrArg impl_CertEntry_O e)))))))
theorem impl_CertEntry_ok (e_ : TEntry) (r : Bool) (h : impl_CertEntry e_ = some r) : ACalls cx.P 24 [.agg (eEntry e_)] (impl_CertEntry_R r) (impl_CertEntry_O r) :=
  ACalls.of (cx := cx) (X := impl_CertEntry_X) (c := impl_CertEntry_c) Try.func24 (by kernel_rfl) (by kernel_rfl) (by kernel_rfl) (impl_CertEntry_fin e_ r h)

/-! ### impl_listOk -/
noncomputable def impl_listOk_c : Code := bodyOf Try.f10
noncomputable def impl_listOk_X : Sig := { f := 10, fn := Try.f10, rms := [.val [] []], oms := [none] }
noncomputable def impl_listOk_R (r : Bool) : V := .b r
noncomputable def impl_listOk_O (r : Bool) : List (Option V) := [none]
noncomputable def impl_listOk_k1 : List Item := posI 2000 3 [false] [.code impl_listOk_c]
noncomputable def impl_listOk_S1 (list : List TEntry) : St := ⟨(vsl 7 eEntry list :: (bs 17 [])), [some []]⟩
noncomputable def impl_listOk_k2 (list : List TEntry) : Option Bool :=
  some (decide ((list.length : Int) ≤ 40))
theorem impl_listOk_k2_ok (list : List TEntry) (r : Bool) (h : impl_listOk_k2 list = some r) : Fin cx impl_listOk_X (impl_listOk_R r) (impl_listOk_O r) impl_listOk_k1 (impl_listOk_S1 list) :=
  (someD h fun e => (Fin.fin (cx := cx) (X := impl_listOk_X) (res := impl_listOk_R (decide ((list.length : Int) ≤ 40))) (outs := impl_listOk_O (decide ((list.length : Int) ≤ 40))) Try.func10 [[]] [] .nil (by kernel_rfl)).is (congrArg impl_listOk_R e) (congrArg impl_listOk_O e))
noncomputable def impl_listOk_k3 : List Item := posI 2000 2 [] [.code impl_listOk_c]
noncomputable def impl_listOk_S2 (list : List TEntry) (v7 : Int) : St := ⟨(vsl 7 eEntry list :: (bs 4 (vsl 7 eEntry list :: (vi (list.length : Int) :: (vi v7 :: (bs 10 [])))))), [some []]⟩
noncomputable def impl_listOk_b1 (list : List TEntry) (v7 : Int) : Option (Stp Bool Int Unit) :=
  (bif decide (v7 < (list.length : Int)) then
 ((idx list v7).bind fun entry =>
 ((impl_CertEntry entry).bind fun certEntry =>
 (bif (!certEntry) then
 some (Stp.ret false)
 else
 some (Stp.nxt (w64 (v7 + 1))))))
 else
 some (Stp.brk ()))
theorem impl_listOk_b1_ok (list : List TEntry) (res : V) (outs : List (Option V)) (x1 : Exc Bool Unit) (hb1 : ∀ s : Unit, x1 = .brk s → Fin cx impl_listOk_X res outs impl_listOk_k1 (impl_listOk_S1 list)) (hr1 : ∀ v : Bool, x1 = .ret v → (res = impl_listOk_R v ∧ outs = impl_listOk_O v)) (st1 : Stp Bool Int Unit) (hc1 : Cont x1 (fun s : Int => Fin cx impl_listOk_X res outs impl_listOk_k3 (impl_listOk_S2 list s)) st1) (v7 : Int) (h : impl_listOk_b1 list v7 = some st1) : Fin cx impl_listOk_X res outs impl_listOk_k3 (impl_listOk_S2 list v7) :=
  (condD h (fun e1 h =>
 (bindD h fun entry hentry h =>
 (bindD h fun certEntry hcertEntry h =>
 (condD h (fun e2 h =>
 (retD h hc1 fun e => (Fin.fin (cx := cx) (X := impl_listOk_X) (res := impl_listOk_R false) (outs := impl_listOk_O false) Try.func10 [[(0, { d := some true })], [(0, { a := .row (eEntry entry) })], [(1, { a := .call [.val [none, none, none, some 2, some 2, none, none] []] false (impl_CertEntry_R certEntry) (impl_CertEntry_O certEntry) }), (2, { d := some true })], []] [decide (v7 < (list.length : Int)) = true, (0 : Int) ≤ v7, v7 < ((list.length : Nat) : Int), (list.map eEntry)[v7.toNat]? = some (eEntry entry), ACalls cx.P 24 [.agg (eEntry entry)] (impl_CertEntry_R certEntry) (impl_CertEntry_O certEntry), (!certEntry) = true] (.cons e1 (.cons (idx0 hentry) (.cons (idx1 hentry) (.cons (map_idx hentry) (.cons (impl_CertEntry_ok entry certEntry hcertEntry) (.cons e2 .nil)))))) (by kernel_rfl)).is (hr1 _ e).1 (hr1 _ e).2)) (fun e2 h =>
 (nxtD h hc1 fun hI => (Fin.seg [[(0, { d := some true })], [(0, { a := .row (eEntry entry) })], [(1, { a := .call [.val [none, none, none, some 2, some 2, none, none] []] false (impl_CertEntry_R certEntry) (impl_CertEntry_O certEntry) }), (2, { d := some false })], []] [] [0, 5, 6, 7] [] [decide (v7 < (list.length : Int)) = true, (0 : Int) ≤ v7, v7 < ((list.length : Nat) : Int), (list.map eEntry)[v7.toNat]? = some (eEntry entry), ACalls cx.P 24 [.agg (eEntry entry)] (impl_CertEntry_R certEntry) (impl_CertEntry_O certEntry), (!certEntry) = false] (.cons e1 (.cons (idx0 hentry) (.cons (idx1 hentry) (.cons (map_idx hentry) (.cons (impl_CertEntry_ok entry certEntry hcertEntry) (.cons e2 .nil)))))) hI (by kernel_rfl)))))))) (fun e1 h =>
 (brkD h hc1 fun e => (Fin.seg [[(0, { d := some false })]] [] [0] [] [decide (v7 < (list.length : Int)) = false] (.cons e1 .nil) (hb1 _ e) (by kernel_rfl)))))
theorem impl_listOk_b1_loop (list : List TEntry) (res : V) (outs : List (Option V)) (x1 : Exc Bool Unit) (hb1 : ∀ s : Unit, x1 = .brk s → Fin cx impl_listOk_X res outs impl_listOk_k1 (impl_listOk_S1 list)) (hr1 : ∀ v : Bool, x1 = .ret v → (res = impl_listOk_R v ∧ outs = impl_listOk_O v)) (s : Int) (h : loop (fun s : Int => impl_listOk_b1 list s) s = some x1) : Fin cx impl_listOk_X res outs impl_listOk_k3 (impl_listOk_S2 list s) :=
  loopD (I := fun s : Int => Fin cx impl_listOk_X res outs impl_listOk_k3 (impl_listOk_S2 list s)) h fun s st h hc => impl_listOk_b1_ok list res outs x1 hb1 hr1 st hc s h
noncomputable def impl_listOk (list : List TEntry) : Option Bool :=
  ((loop (fun s : Int => impl_listOk_b1 list s) 0).bind fun x => x.go (fun r => some r) fun s => impl_listOk_k2 list)
theorem impl_listOk_fin (list : List TEntry) (r : Bool) (h : impl_listOk list = some r) : Fin cx impl_listOk_X (impl_listOk_R r) (impl_listOk_O r) [.code impl_listOk_c] (startS impl_listOk_X [vsl 7 eEntry list]) :=
  (loopJ h fun x hl hr hb => (Fin.seg [[], []] [] [0, 5, 6, 7] [] [] .nil (impl_listOk_b1_loop list _ _ x (fun s e => impl_listOk_k2_ok list r (hb s e)) (fun v e => ⟨congrArg impl_listOk_R (Option.some.inj (hr v e)).symm, congrArg impl_listOk_O (Option.some.inj (hr v e)).symm⟩) 0 hl) (by kernel_rfl)))
theorem impl_listOk_ok (list : List TEntry) (r : Bool) (h : impl_listOk list = some r) : ACalls cx.P 10 [vsl 7 eEntry list] (impl_listOk_R r) (impl_listOk_O r) :=
  ACalls.of (cx := cx) (X := impl_listOk_X) (c := impl_listOk_c) Try.func10 (by kernel_rfl) (by kernel_rfl) (by kernel_rfl) (impl_listOk_fin list r h)

/-! ### impl_BoxOpen -/
noncomputable def impl_BoxOpen_c : Code := bodyOf Try.f46
noncomputable def impl_BoxOpen_X : Sig := { f := 46, fn := Try.f46, rms := [.val [some 2] []], oms := [] }
noncomputable def impl_BoxOpen_R (r : List TBox) : V := vsl 2 eBox r
noncomputable def impl_BoxOpen_O (r : List TBox) : List (Option V) := []
noncomputable def impl_BoxOpen : Option (List TBox) :=
  (need (0 ≤ (4 : Int) ∧ (4 : Int) * 16 ≤ 140737488355328)
 (some (List.replicate (4 : Int).toNat (TBox.mk 0 0))))
theorem impl_BoxOpen_fin (r : List TBox) (h : impl_BoxOpen  = some r) : Fin cx impl_BoxOpen_X (impl_BoxOpen_R r) (impl_BoxOpen_O r) [.code impl_BoxOpen_c] (startS impl_BoxOpen_X []) :=
  (needD h fun e1 h =>
 (someD h fun e => (Fin.fin (cx := cx) (X := impl_BoxOpen_X) (res := impl_BoxOpen_R (List.replicate (4 : Int).toNat (TBox.mk 0 0))) (outs := impl_BoxOpen_O (List.replicate (4 : Int).toNat (TBox.mk 0 0))) Try.func46 [[], [(0, { e := some (erow 92 2 eBox (List.replicate (4 : Int).toNat (TBox.mk 0 0))), v := some (.own 2 0 2 0 (List.replicate (4 : Int).toNat (TBox.mk 0 0)).length) })]] [V.own 2 0 2 0 (4 : Int).toNat = .own 2 0 2 0 (List.replicate (4 : Int).toNat (TBox.mk 0 0)).length, Ent.row 92 2 (4 : Int).toNat (List.replicate (4 : Int).toNat [vi 0, vi 0]) = erow 92 2 eBox (List.replicate (4 : Int).toNat (TBox.mk 0 0)), (0 : Int) ≤ (4 : Int), (4 : Int) = (4 : Int), (4 : Int) * ((16 : Nat) : Int) ≤ 140737488355328 ∧ 0 < 16, ([vi 0, vi 0] : List V).length = 2, (List.replicate (4 : Int).toNat (TBox.mk 0 0)).length = (List.replicate (4 : Int).toNat (TBox.mk 0 0)).length] (.cons (by simp) (.cons (row_rep rfl) (.cons e1.1 (.cons rfl (.cons ⟨e1.2, by decide⟩ (.cons rfl (.cons rfl .nil))))))) (by kernel_rfl)).is (congrArg impl_BoxOpen_R e) (congrArg impl_BoxOpen_O e)))
theorem impl_BoxOpen_ok (r : List TBox) (h : impl_BoxOpen  = some r) : ACalls cx.P 46 [] (impl_BoxOpen_R r) (impl_BoxOpen_O r) :=
  ACalls.of (cx := cx) (X := impl_BoxOpen_X) (c := impl_BoxOpen_c) Try.func46 (by kernel_rfl) (by kernel_rfl) (by kernel_rfl) (impl_BoxOpen_fin r h)

/-! ### impl_CertOpen -/
noncomputable def impl_CertOpen_c : Code := bodyOf Try.f25
noncomputable def impl_CertOpen_X : Sig := { f := 25, fn := Try.f25, rms := [.val [none, some 2, some 4] []], oms := [] }
noncomputable def impl_CertOpen_R (r : TState) : V := .agg (eState r)
noncomputable def impl_CertOpen_O (r : TState) : List (Option V) := []
noncomputable def impl_CertOpen : Option TState :=
  ((impl_BoxOpen).bind fun boxOpen =>
 some (TState.mk 0 boxOpen []))
theorem impl_CertOpen_fin (r : TState) (h : impl_CertOpen  = some r) : Fin cx impl_CertOpen_X (impl_CertOpen_R r) (impl_CertOpen_O r) [.code impl_CertOpen_c] (startS impl_CertOpen_X []) :=
  (bindD h fun boxOpen hboxOpen h =>
 (someD h fun e => (Fin.fin (cx := cx) (X := impl_CertOpen_X) (res := impl_CertOpen_R (TState.mk 0 boxOpen [])) (outs := impl_CertOpen_O (TState.mk 0 boxOpen [])) Try.func25 [[], [(0, { a := .call [] false (impl_BoxOpen_R boxOpen) (impl_BoxOpen_O boxOpen) })]] [ACalls cx.P 46 [] (impl_BoxOpen_R boxOpen) (impl_BoxOpen_O boxOpen)] (.cons (impl_BoxOpen_ok boxOpen hboxOpen) .nil) (by kernel_rfl)).is (congrArg impl_CertOpen_R e) (congrArg impl_CertOpen_O e)))
theorem impl_CertOpen_ok (r : TState) (h : impl_CertOpen  = some r) : ACalls cx.P 25 [] (impl_CertOpen_R r) (impl_CertOpen_O r) :=
  ACalls.of (cx := cx) (X := impl_CertOpen_X) (c := impl_CertOpen_c) Try.func25 (by kernel_rfl) (by kernel_rfl) (by kernel_rfl) (impl_CertOpen_fin r h)

/-! ### impl_BoxOk -/
noncomputable def impl_BoxOk_c : Code := bodyOf Try.f62
noncomputable def impl_BoxOk_X : Sig := { f := 62, fn := Try.f62, rms := [.val [] []], oms := [none] }
noncomputable def impl_BoxOk_R (r : Bool) : V := .b r
noncomputable def impl_BoxOk_O (r : Bool) : List (Option V) := [none]
noncomputable def impl_BoxOk_k1 : List Item := posI 2000 3 [false] [.code impl_BoxOk_c]
noncomputable def impl_BoxOk_S1 (list : List TBox) : St := ⟨(vsl 2 eBox list :: (bs 24 [])), [some []]⟩
noncomputable def impl_BoxOk_k2 (list : List TBox) : Option Bool :=
  some ((list.length : Int) == 4)
theorem impl_BoxOk_k2_ok (list : List TBox) (r : Bool) (h : impl_BoxOk_k2 list = some r) : Fin cx impl_BoxOk_X (impl_BoxOk_R r) (impl_BoxOk_O r) impl_BoxOk_k1 (impl_BoxOk_S1 list) :=
  (someD h fun e => (Fin.fin (cx := cx) (X := impl_BoxOk_X) (res := impl_BoxOk_R ((list.length : Int) == 4)) (outs := impl_BoxOk_O ((list.length : Int) == 4)) Try.func62 [[]] [] .nil (by kernel_rfl)).is (congrArg impl_BoxOk_R e) (congrArg impl_BoxOk_O e))
noncomputable def impl_BoxOk_k3 : List Item := posI 2000 2 [] [.code impl_BoxOk_c]
noncomputable def impl_BoxOk_S2 (list : List TBox) (v7 : Int) : St := ⟨(vsl 2 eBox list :: (bs 4 (vsl 2 eBox list :: (vi (list.length : Int) :: (vi v7 :: (bs 17 [])))))), [some []]⟩
noncomputable def impl_BoxOk_b1 (list : List TBox) (v7 : Int) : Option (Stp Bool Int Unit) :=
  (bif decide (v7 < (list.length : Int)) then
 ((idx list v7).bind fun box =>
 ((impl_in box.Ver 0 1000000).bind fun in_ =>
 (bif (!in_) then
 some (Stp.ret false)
 else
 ((impl_in box.Val (-1000000) 1000000).bind fun in_1 =>
 (bif (!in_1) then
 some (Stp.ret false)
 else
 some (Stp.nxt (w64 (v7 + 1))))))))
 else
 some (Stp.brk ()))
theorem impl_BoxOk_b1_ok (list : List TBox) (res : V) (outs : List (Option V)) (x1 : Exc Bool Unit) (hb1 : ∀ s : Unit, x1 = .brk s → Fin cx impl_BoxOk_X res outs impl_BoxOk_k1 (impl_BoxOk_S1 list)) (hr1 : ∀ v : Bool, x1 = .ret v → (res = impl_BoxOk_R v ∧ outs = impl_BoxOk_O v)) (st1 : Stp Bool Int Unit) (hc1 : Cont x1 (fun s : Int => Fin cx impl_BoxOk_X res outs impl_BoxOk_k3 (impl_BoxOk_S2 list s)) st1) (v7 : Int) (h : impl_BoxOk_b1 list v7 = some st1) : Fin cx impl_BoxOk_X res outs impl_BoxOk_k3 (impl_BoxOk_S2 list v7) :=
  (condD h (fun e1 h =>
 (bindD h fun box hbox h =>
 (bindD h fun in_ hin_ h =>
 (condD h (fun e2 h =>
 (retD h hc1 fun e => (Fin.fin (cx := cx) (X := impl_BoxOk_X) (res := impl_BoxOk_R false) (outs := impl_BoxOk_O false) Try.func62 [[(0, { d := some true })], [(0, { a := .row (eBox box) })], [(2, { a := .call [.val [] [], .val [] [], .val [] []] false (impl_in_R in_) (impl_in_O in_) }), (4, { d := some true })], []] [decide (v7 < (list.length : Int)) = true, (0 : Int) ≤ v7, v7 < ((list.length : Nat) : Int), (list.map eBox)[v7.toNat]? = some (eBox box), ACalls cx.P 61 [vi box.Ver, vi 0, vi 1000000] (impl_in_R in_) (impl_in_O in_), (!in_) = true] (.cons e1 (.cons (idx0 hbox) (.cons (idx1 hbox) (.cons (map_idx hbox) (.cons (impl_in_ok box.Ver 0 1000000 in_ hin_) (.cons e2 .nil)))))) (by kernel_rfl)).is (hr1 _ e).1 (hr1 _ e).2)) (fun e2 h =>
 (bindD h fun in_1 hin_1 h =>
 (condD h (fun e3 h =>
 (retD h hc1 fun e => (Fin.fin (cx := cx) (X := impl_BoxOk_X) (res := impl_BoxOk_R false) (outs := impl_BoxOk_O false) Try.func62 [[(0, { d := some true })], [(0, { a := .row (eBox box) })], [(2, { a := .call [.val [] [], .val [] [], .val [] []] false (impl_in_R in_) (impl_in_O in_) }), (4, { d := some false }), (7, { a := .call [.val [] [], .val [] [], .val [] []] false (impl_in_R in_1) (impl_in_O in_1) }), (9, { d := some true })], []] [decide (v7 < (list.length : Int)) = true, (0 : Int) ≤ v7, v7 < ((list.length : Nat) : Int), (list.map eBox)[v7.toNat]? = some (eBox box), ACalls cx.P 61 [vi box.Ver, vi 0, vi 1000000] (impl_in_R in_) (impl_in_O in_), (!in_) = false, ACalls cx.P 61 [vi box.Val, vi (-1000000), vi 1000000] (impl_in_R in_1) (impl_in_O in_1), (!in_1) = true] (.cons e1 (.cons (idx0 hbox) (.cons (idx1 hbox) (.cons (map_idx hbox) (.cons (impl_in_ok box.Ver 0 1000000 in_ hin_) (.cons e2 (.cons (impl_in_ok box.Val (-1000000) 1000000 in_1 hin_1) (.cons e3 .nil)))))))) (by kernel_rfl)).is (hr1 _ e).1 (hr1 _ e).2)) (fun e3 h =>
 (nxtD h hc1 fun hI => (Fin.seg [[(0, { d := some true })], [(0, { a := .row (eBox box) })], [(2, { a := .call [.val [] [], .val [] [], .val [] []] false (impl_in_R in_) (impl_in_O in_) }), (4, { d := some false }), (7, { a := .call [.val [] [], .val [] [], .val [] []] false (impl_in_R in_1) (impl_in_O in_1) }), (9, { d := some false })], []] [] [0, 5, 6, 7] [] [decide (v7 < (list.length : Int)) = true, (0 : Int) ≤ v7, v7 < ((list.length : Nat) : Int), (list.map eBox)[v7.toNat]? = some (eBox box), ACalls cx.P 61 [vi box.Ver, vi 0, vi 1000000] (impl_in_R in_) (impl_in_O in_), (!in_) = false, ACalls cx.P 61 [vi box.Val, vi (-1000000), vi 1000000] (impl_in_R in_1) (impl_in_O in_1), (!in_1) = false] (.cons e1 (.cons (idx0 hbox) (.cons (idx1 hbox) (.cons (map_idx hbox) (.cons (impl_in_ok box.Ver 0 1000000 in_ hin_) (.cons e2 (.cons (impl_in_ok box.Val (-1000000) 1000000 in_1 hin_1) (.cons e3 .nil)))))))) hI (by kernel_rfl))))))))))) (fun e1 h =>
 (brkD h hc1 fun e => (Fin.seg [[(0, { d := some false })]] [] [0] [] [decide (v7 < (list.length : Int)) = false] (.cons e1 .nil) (hb1 _ e) (by kernel_rfl)))))
theorem impl_BoxOk_b1_loop (list : List TBox) (res : V) (outs : List (Option V)) (x1 : Exc Bool Unit) (hb1 : ∀ s : Unit, x1 = .brk s → Fin cx impl_BoxOk_X res outs impl_BoxOk_k1 (impl_BoxOk_S1 list)) (hr1 : ∀ v : Bool, x1 = .ret v → (res = impl_BoxOk_R v ∧ outs = impl_BoxOk_O v)) (s : Int) (h : loop (fun s : Int => impl_BoxOk_b1 list s) s = some x1) : Fin cx impl_BoxOk_X res outs impl_BoxOk_k3 (impl_BoxOk_S2 list s) :=
  loopD (I := fun s : Int => Fin cx impl_BoxOk_X res outs impl_BoxOk_k3 (impl_BoxOk_S2 list s)) h fun s st h hc => impl_BoxOk_b1_ok list res outs x1 hb1 hr1 st hc s h
noncomputable def impl_BoxOk (list : List TBox) : Option Bool :=
  ((loop (fun s : Int => impl_BoxOk_b1 list s) 0).bind fun x => x.go (fun r => some r) fun s => impl_BoxOk_k2 list)
theorem impl_BoxOk_fin (list : List TBox) (r : Bool) (h : impl_BoxOk list = some r) : Fin cx impl_BoxOk_X (impl_BoxOk_R r) (impl_BoxOk_O r) [.code impl_BoxOk_c] (startS impl_BoxOk_X [vsl 2 eBox list]) :=
  (loopJ h fun x hl hr hb => (Fin.seg [[], []] [] [0, 5, 6, 7] [] [] .nil (impl_BoxOk_b1_loop list _ _ x (fun s e => impl_BoxOk_k2_ok list r (hb s e)) (fun v e => ⟨congrArg impl_BoxOk_R (Option.some.inj (hr v e)).symm, congrArg impl_BoxOk_O (Option.some.inj (hr v e)).symm⟩) 0 hl) (by kernel_rfl)))
theorem impl_BoxOk_ok (list : List TBox) (r : Bool) (h : impl_BoxOk list = some r) : ACalls cx.P 62 [vsl 2 eBox list] (impl_BoxOk_R r) (impl_BoxOk_O r) :=
  ACalls.of (cx := cx) (X := impl_BoxOk_X) (c := impl_BoxOk_c) Try.func62 (by kernel_rfl) (by kernel_rfl) (by kernel_rfl) (impl_BoxOk_fin list r h)

/-! ### impl_CertOk -/
noncomputable def impl_CertOk_c : Code := bodyOf Try.f47
noncomputable def impl_CertOk_X : Sig := { f := 47, fn := Try.f47, rms := [.val [] []], oms := [none] }
noncomputable def impl_CertOk_R (r : Bool) : V := .b r
noncomputable def impl_CertOk_O (r : Bool) : List (Option V) := [none]
noncomputable def impl_CertOk_k1 : List Item := posI 2000 3 [false] [.code impl_CertOk_c]
noncomputable def impl_CertOk_S1 (s_ : TState) : St := ⟨(bs 1 (.ptr 1 0 0 :: (bs 64 []))), [some [], some [.var 49 [vi s_.At, vsl 2 eBox s_.Boxes, vsl 4 eDone s_.Dones]]]⟩
noncomputable def impl_CertOk_k2 (s_ : TState) : Option Bool :=
  ((impl_in s_.At 0 40).bind fun in_ =>
 (bif in_ then
 ((impl_BoxOk s_.Boxes).bind fun boxOk =>
 some boxOk)
 else
 some false))
theorem impl_CertOk_k2_ok (s_ : TState) (r : Bool) (h : impl_CertOk_k2 s_ = some r) : Fin cx impl_CertOk_X (impl_CertOk_R r) (impl_CertOk_O r) impl_CertOk_k1 (impl_CertOk_S1 s_) :=
  (bindD h fun in_ hin_ h =>
 (condD h (fun e1 h =>
 (bindD h fun boxOk hboxOk h =>
 (someD h fun e => (Fin.fin (cx := cx) (X := impl_CertOk_X) (res := impl_CertOk_R boxOk) (outs := impl_CertOk_O boxOk) Try.func47 [[(2, { a := .call [.val [] [], .val [] [], .val [] []] false (impl_in_R in_) (impl_in_O in_) }), (3, { d := some true }), (6, { a := .call [.val [some 2] []] false (impl_BoxOk_R boxOk) (impl_BoxOk_O boxOk) })]] [ACalls cx.P 61 [vi s_.At, vi 0, vi 40] (impl_in_R in_) (impl_in_O in_), in_ = true, ACalls cx.P 62 [vsl 2 eBox s_.Boxes] (impl_BoxOk_R boxOk) (impl_BoxOk_O boxOk)] (.cons (impl_in_ok s_.At 0 40 in_ hin_) (.cons e1 (.cons (impl_BoxOk_ok s_.Boxes boxOk hboxOk) .nil))) (by kernel_rfl)).is (congrArg impl_CertOk_R e) (congrArg impl_CertOk_O e)))) (fun e1 h =>
 (someD h fun e => (Fin.fin (cx := cx) (X := impl_CertOk_X) (res := impl_CertOk_R false) (outs := impl_CertOk_O false) Try.func47 [[(2, { a := .call [.val [] [], .val [] [], .val [] []] false (impl_in_R in_) (impl_in_O in_) }), (3, { d := some false })]] [ACalls cx.P 61 [vi s_.At, vi 0, vi 40] (impl_in_R in_) (impl_in_O in_), in_ = false] (.cons (impl_in_ok s_.At 0 40 in_ hin_) (.cons e1 .nil)) (by kernel_rfl)).is (congrArg impl_CertOk_R e) (congrArg impl_CertOk_O e)))))
noncomputable def impl_CertOk_k3 : List Item := posI 2000 2 [] [.code impl_CertOk_c]
noncomputable def impl_CertOk_S2 (s_ : TState) (v8 : Int) : St := ⟨(bs 1 (.ptr 1 0 0 :: (bs 4 (vsl 4 eDone s_.Dones :: (vi (s_.Dones.length : Int) :: (vi v8 :: (bs 57 []))))))), [some [], some [.var 49 [vi s_.At, vsl 2 eBox s_.Boxes, vsl 4 eDone s_.Dones]]]⟩
noncomputable def impl_CertOk_k4 : List Item := posI 2000 5 [true, false] [.code impl_CertOk_c]
noncomputable def impl_CertOk_S3 (s_ : TState) (v8 : Int) : St := ⟨(bs 1 (.ptr 1 0 0 :: (bs 4 (vsl 4 eDone s_.Dones :: (vi (s_.Dones.length : Int) :: (vi v8 :: (bs 57 []))))))), [some [], some [.var 49 [vi s_.At, vsl 2 eBox s_.Boxes, vsl 4 eDone s_.Dones]]]⟩
noncomputable def impl_CertOk_j1 (v8 : Int) : Option (Stp Bool Int Unit) :=
  some (Stp.nxt (w64 (v8 + 1)))
theorem impl_CertOk_j1_ok (s_ : TState) (v8 : Int) (res : V) (outs : List (Option V)) (x1 : Exc Bool Unit) (hb1 : ∀ s : Unit, x1 = .brk s → Fin cx impl_CertOk_X res outs impl_CertOk_k1 (impl_CertOk_S1 s_)) (hr1 : ∀ v : Bool, x1 = .ret v → (res = impl_CertOk_R v ∧ outs = impl_CertOk_O v)) (st1 : Stp Bool Int Unit) (hc1 : Cont x1 (fun s : Int => Fin cx impl_CertOk_X res outs impl_CertOk_k3 (impl_CertOk_S2 s_ s)) st1) (h : impl_CertOk_j1 v8 = some st1) : Fin cx impl_CertOk_X res outs impl_CertOk_k4 (impl_CertOk_S3 s_ v8) :=
  (nxtD h hc1 fun hI => (Fin.seg [[]] [] [1, 6, 7, 8] [(1, 0)] [] .nil hI (by kernel_rfl)))
noncomputable def impl_CertOk_b1 (s_ : TState) (v8 : Int) : Option (Stp Bool Int Unit) :=
  (bif decide (v8 < (s_.Dones.length : Int)) then
 ((idx s_.Dones v8).bind fun done =>
 (((bif decide (v8 > 0) then
 ((idx s_.Dones (w64 (v8 - 1))).bind fun done1 =>
 (bif decide (done1.Req.Who ≥ done.Req.Who) then
 some (Exc.ret (Stp.ret false))
 else
 ((impl_reqOk done.Req).bind fun reqOk =>
 (bif (!reqOk) then
 some (Exc.ret (Stp.ret false))
 else
 ((impl_in done.Code 0 2).bind fun in_1 =>
 (bif (!in_1) then
 some (Exc.ret (Stp.ret false))
 else
 ((impl_in done.Val (-1000000) 1000000).bind fun in_2 =>
 (bif (!in_2) then
 some (Exc.ret (Stp.ret false))
 else
 (bif (done.Code != 0) then
 (bif (done.Val != 0) then
 some (Exc.ret (Stp.ret false))
 else
 some (Exc.brk ()))
 else
 some (Exc.brk ()))))))))))
 else
 ((impl_reqOk done.Req).bind fun reqOk1 =>
 (bif (!reqOk1) then
 some (Exc.ret (Stp.ret false))
 else
 ((impl_in done.Code 0 2).bind fun in_3 =>
 (bif (!in_3) then
 some (Exc.ret (Stp.ret false))
 else
 ((impl_in done.Val (-1000000) 1000000).bind fun in_4 =>
 (bif (!in_4) then
 some (Exc.ret (Stp.ret false))
 else
 (bif (done.Code != 0) then
 (bif (done.Val != 0) then
 some (Exc.ret (Stp.ret false))
 else
 some (Exc.brk ()))
 else
 some (Exc.brk ()))))))))) : Option (Exc (Stp Bool Int Unit) Unit)).bind fun x => x.go some fun j => impl_CertOk_j1 v8))
 else
 some (Stp.brk ()))
theorem impl_CertOk_b1_ok (s_ : TState) (res : V) (outs : List (Option V)) (x1 : Exc Bool Unit) (hb1 : ∀ s : Unit, x1 = .brk s → Fin cx impl_CertOk_X res outs impl_CertOk_k1 (impl_CertOk_S1 s_)) (hr1 : ∀ v : Bool, x1 = .ret v → (res = impl_CertOk_R v ∧ outs = impl_CertOk_O v)) (st1 : Stp Bool Int Unit) (hc1 : Cont x1 (fun s : Int => Fin cx impl_CertOk_X res outs impl_CertOk_k3 (impl_CertOk_S2 s_ s)) st1) (v8 : Int) (h : impl_CertOk_b1 s_ v8 = some st1) : Fin cx impl_CertOk_X res outs impl_CertOk_k3 (impl_CertOk_S2 s_ v8) :=
  (condD h (fun e2 h =>
 (bindD h fun done hdone h =>
 (joinD (I := fun j : Unit => Fin cx impl_CertOk_X res outs impl_CertOk_k4 (impl_CertOk_S3 s_ v8)) h (fun j h => impl_CertOk_j1_ok s_ v8 res outs x1 hb1 hr1 st1 hc1 h) (fun x2 h hc2 =>
  (condD h (fun e3 h =>
 (bindD h fun done1 hdone1 h =>
 (condD h (fun e4 h =>
 (jretD h hc2 fun h => (retD h hc1 fun e => (Fin.fin (cx := cx) (X := impl_CertOk_X) (res := impl_CertOk_R false) (outs := impl_CertOk_O false) Try.func47 [[(0, { d := some true })], [(1, { a := .row (eDone done) })], [(2, { d := some true }), (7, { a := .row (eDone done1) }), (16, { d := some true })], []] [decide (v8 < (s_.Dones.length : Int)) = true, (0 : Int) ≤ v8, v8 < ((s_.Dones.length : Nat) : Int), (s_.Dones.map eDone)[v8.toNat]? = some (eDone done), decide (v8 > 0) = true, (0 : Int) ≤ (w64 (v8 - 1)), (w64 (v8 - 1)) < ((s_.Dones.length : Nat) : Int), (s_.Dones.map eDone)[(w64 (v8 - 1)).toNat]? = some (eDone done1), decide (done1.Req.Who ≥ done.Req.Who) = true] (.cons e2 (.cons (idx0 hdone) (.cons (idx1 hdone) (.cons (map_idx hdone) (.cons e3 (.cons (idx0 hdone1) (.cons (idx1 hdone1) (.cons (map_idx hdone1) (.cons e4 .nil))))))))) (by kernel_rfl)).is (hr1 _ e).1 (hr1 _ e).2))) (fun e4 h =>
 (bindD h fun reqOk hreqOk h =>
 (condD h (fun e5 h =>
 (jretD h hc2 fun h => (retD h hc1 fun e => (Fin.fin (cx := cx) (X := impl_CertOk_X) (res := impl_CertOk_R false) (outs := impl_CertOk_O false) Try.func47 [[(0, { d := some true })], [(1, { a := .row (eDone done) })], [(2, { d := some true }), (7, { a := .row (eDone done1) }), (16, { d := some false }), (19, { a := .call [.val [] []] false (impl_reqOk_R reqOk) (impl_reqOk_O reqOk) }), (22, { d := some true })], []] [decide (v8 < (s_.Dones.length : Int)) = true, (0 : Int) ≤ v8, v8 < ((s_.Dones.length : Nat) : Int), (s_.Dones.map eDone)[v8.toNat]? = some (eDone done), decide (v8 > 0) = true, (0 : Int) ≤ (w64 (v8 - 1)), (w64 (v8 - 1)) < ((s_.Dones.length : Nat) : Int), (s_.Dones.map eDone)[(w64 (v8 - 1)).toNat]? = some (eDone done1), decide (done1.Req.Who ≥ done.Req.Who) = false, ACalls cx.P 44 [.agg (eReq done.Req)] (impl_reqOk_R reqOk) (impl_reqOk_O reqOk), (!reqOk) = true] (.cons e2 (.cons (idx0 hdone) (.cons (idx1 hdone) (.cons (map_idx hdone) (.cons e3 (.cons (idx0 hdone1) (.cons (idx1 hdone1) (.cons (map_idx hdone1) (.cons e4 (.cons (impl_reqOk_ok done.Req reqOk hreqOk) (.cons e5 .nil))))))))))) (by kernel_rfl)).is (hr1 _ e).1 (hr1 _ e).2))) (fun e5 h =>
 (bindD h fun in_1 hin_1 h =>
 (condD h (fun e6 h =>
 (jretD h hc2 fun h => (retD h hc1 fun e => (Fin.fin (cx := cx) (X := impl_CertOk_X) (res := impl_CertOk_R false) (outs := impl_CertOk_O false) Try.func47 [[(0, { d := some true })], [(1, { a := .row (eDone done) })], [(2, { d := some true }), (7, { a := .row (eDone done1) }), (16, { d := some false }), (19, { a := .call [.val [] []] false (impl_reqOk_R reqOk) (impl_reqOk_O reqOk) }), (22, { d := some false }), (25, { a := .call [.val [] [], .val [] [], .val [] []] false (impl_in_R in_1) (impl_in_O in_1) }), (28, { d := some true })], []] [decide (v8 < (s_.Dones.length : Int)) = true, (0 : Int) ≤ v8, v8 < ((s_.Dones.length : Nat) : Int), (s_.Dones.map eDone)[v8.toNat]? = some (eDone done), decide (v8 > 0) = true, (0 : Int) ≤ (w64 (v8 - 1)), (w64 (v8 - 1)) < ((s_.Dones.length : Nat) : Int), (s_.Dones.map eDone)[(w64 (v8 - 1)).toNat]? = some (eDone done1), decide (done1.Req.Who ≥ done.Req.Who) = false, ACalls cx.P 44 [.agg (eReq done.Req)] (impl_reqOk_R reqOk) (impl_reqOk_O reqOk), (!reqOk) = false, ACalls cx.P 61 [vi done.Code, vi 0, vi 2] (impl_in_R in_1) (impl_in_O in_1), (!in_1) = true] (.cons e2 (.cons (idx0 hdone) (.cons (idx1 hdone) (.cons (map_idx hdone) (.cons e3 (.cons (idx0 hdone1) (.cons (idx1 hdone1) (.cons (map_idx hdone1) (.cons e4 (.cons (impl_reqOk_ok done.Req reqOk hreqOk) (.cons e5 (.cons (impl_in_ok done.Code 0 2 in_1 hin_1) (.cons e6 .nil))))))))))))) (by kernel_rfl)).is (hr1 _ e).1 (hr1 _ e).2))) (fun e6 h =>
 (bindD h fun in_2 hin_2 h =>
 (condD h (fun e7 h =>
 (jretD h hc2 fun h => (retD h hc1 fun e => (Fin.fin (cx := cx) (X := impl_CertOk_X) (res := impl_CertOk_R false) (outs := impl_CertOk_O false) Try.func47 [[(0, { d := some true })], [(1, { a := .row (eDone done) })], [(2, { d := some true }), (7, { a := .row (eDone done1) }), (16, { d := some false }), (19, { a := .call [.val [] []] false (impl_reqOk_R reqOk) (impl_reqOk_O reqOk) }), (22, { d := some false }), (25, { a := .call [.val [] [], .val [] [], .val [] []] false (impl_in_R in_1) (impl_in_O in_1) }), (28, { d := some false }), (31, { a := .call [.val [] [], .val [] [], .val [] []] false (impl_in_R in_2) (impl_in_O in_2) }), (34, { d := some true })], []] [decide (v8 < (s_.Dones.length : Int)) = true, (0 : Int) ≤ v8, v8 < ((s_.Dones.length : Nat) : Int), (s_.Dones.map eDone)[v8.toNat]? = some (eDone done), decide (v8 > 0) = true, (0 : Int) ≤ (w64 (v8 - 1)), (w64 (v8 - 1)) < ((s_.Dones.length : Nat) : Int), (s_.Dones.map eDone)[(w64 (v8 - 1)).toNat]? = some (eDone done1), decide (done1.Req.Who ≥ done.Req.Who) = false, ACalls cx.P 44 [.agg (eReq done.Req)] (impl_reqOk_R reqOk) (impl_reqOk_O reqOk), (!reqOk) = false, ACalls cx.P 61 [vi done.Code, vi 0, vi 2] (impl_in_R in_1) (impl_in_O in_1), (!in_1) = false, ACalls cx.P 61 [vi done.Val, vi (-1000000), vi 1000000] (impl_in_R in_2) (impl_in_O in_2), (!in_2) = true] (.cons e2 (.cons (idx0 hdone) (.cons (idx1 hdone) (.cons (map_idx hdone) (.cons e3 (.cons (idx0 hdone1) (.cons (idx1 hdone1) (.cons (map_idx hdone1) (.cons e4 (.cons (impl_reqOk_ok done.Req reqOk hreqOk) (.cons e5 (.cons (impl_in_ok done.Code 0 2 in_1 hin_1) (.cons e6 (.cons (impl_in_ok done.Val (-1000000) 1000000 in_2 hin_2) (.cons e7 .nil))))))))))))))) (by kernel_rfl)).is (hr1 _ e).1 (hr1 _ e).2))) (fun e7 h =>
 (condD h (fun e8 h =>
 (condD h (fun e9 h =>
 (jretD h hc2 fun h => (retD h hc1 fun e => (Fin.fin (cx := cx) (X := impl_CertOk_X) (res := impl_CertOk_R false) (outs := impl_CertOk_O false) Try.func47 [[(0, { d := some true })], [(1, { a := .row (eDone done) })], [(2, { d := some true }), (7, { a := .row (eDone done1) }), (16, { d := some false }), (19, { a := .call [.val [] []] false (impl_reqOk_R reqOk) (impl_reqOk_O reqOk) }), (22, { d := some false }), (25, { a := .call [.val [] [], .val [] [], .val [] []] false (impl_in_R in_1) (impl_in_O in_1) }), (28, { d := some false }), (31, { a := .call [.val [] [], .val [] [], .val [] []] false (impl_in_R in_2) (impl_in_O in_2) }), (34, { d := some false }), (38, { d := some true }), (43, { d := some true })], []] [decide (v8 < (s_.Dones.length : Int)) = true, (0 : Int) ≤ v8, v8 < ((s_.Dones.length : Nat) : Int), (s_.Dones.map eDone)[v8.toNat]? = some (eDone done), decide (v8 > 0) = true, (0 : Int) ≤ (w64 (v8 - 1)), (w64 (v8 - 1)) < ((s_.Dones.length : Nat) : Int), (s_.Dones.map eDone)[(w64 (v8 - 1)).toNat]? = some (eDone done1), decide (done1.Req.Who ≥ done.Req.Who) = false, ACalls cx.P 44 [.agg (eReq done.Req)] (impl_reqOk_R reqOk) (impl_reqOk_O reqOk), (!reqOk) = false, ACalls cx.P 61 [vi done.Code, vi 0, vi 2] (impl_in_R in_1) (impl_in_O in_1), (!in_1) = false, ACalls cx.P 61 [vi done.Val, vi (-1000000), vi 1000000] (impl_in_R in_2) (impl_in_O in_2), (!in_2) = false, (done.Code != 0) = true, (done.Val != 0) = true] (.cons e2 (.cons (idx0 hdone) (.cons (idx1 hdone) (.cons (map_idx hdone) (.cons e3 (.cons (idx0 hdone1) (.cons (idx1 hdone1) (.cons (map_idx hdone1) (.cons e4 (.cons (impl_reqOk_ok done.Req reqOk hreqOk) (.cons e5 (.cons (impl_in_ok done.Code 0 2 in_1 hin_1) (.cons e6 (.cons (impl_in_ok done.Val (-1000000) 1000000 in_2 hin_2) (.cons e7 (.cons e8 (.cons e9 .nil))))))))))))))))) (by kernel_rfl)).is (hr1 _ e).1 (hr1 _ e).2))) (fun e9 h =>
 (jbrkD h hc2 fun hI => (Fin.seg [[(0, { d := some true })], [(1, { a := .row (eDone done) })], [(2, { d := some true }), (7, { a := .row (eDone done1) }), (16, { d := some false }), (19, { a := .call [.val [] []] false (impl_reqOk_R reqOk) (impl_reqOk_O reqOk) }), (22, { d := some false }), (25, { a := .call [.val [] [], .val [] [], .val [] []] false (impl_in_R in_1) (impl_in_O in_1) }), (28, { d := some false }), (31, { a := .call [.val [] [], .val [] [], .val [] []] false (impl_in_R in_2) (impl_in_O in_2) }), (34, { d := some false }), (38, { d := some true }), (43, { d := some false })]] [] [1, 6, 7, 8] [(1, 0)] [decide (v8 < (s_.Dones.length : Int)) = true, (0 : Int) ≤ v8, v8 < ((s_.Dones.length : Nat) : Int), (s_.Dones.map eDone)[v8.toNat]? = some (eDone done), decide (v8 > 0) = true, (0 : Int) ≤ (w64 (v8 - 1)), (w64 (v8 - 1)) < ((s_.Dones.length : Nat) : Int), (s_.Dones.map eDone)[(w64 (v8 - 1)).toNat]? = some (eDone done1), decide (done1.Req.Who ≥ done.Req.Who) = false, ACalls cx.P 44 [.agg (eReq done.Req)] (impl_reqOk_R reqOk) (impl_reqOk_O reqOk), (!reqOk) = false, ACalls cx.P 61 [vi done.Code, vi 0, vi 2] (impl_in_R in_1) (impl_in_O in_1), (!in_1) = false, ACalls cx.P 61 [vi done.Val, vi (-1000000), vi 1000000] (impl_in_R in_2) (impl_in_O in_2), (!in_2) = false, (done.Code != 0) = true, (done.Val != 0) = false] (.cons e2 (.cons (idx0 hdone) (.cons (idx1 hdone) (.cons (map_idx hdone) (.cons e3 (.cons (idx0 hdone1) (.cons (idx1 hdone1) (.cons (map_idx hdone1) (.cons e4 (.cons (impl_reqOk_ok done.Req reqOk hreqOk) (.cons e5 (.cons (impl_in_ok done.Code 0 2 in_1 hin_1) (.cons e6 (.cons (impl_in_ok done.Val (-1000000) 1000000 in_2 hin_2) (.cons e7 (.cons e8 (.cons e9 .nil))))))))))))))))) hI (by kernel_rfl)))))) (fun e8 h =>
 (jbrkD h hc2 fun hI => (Fin.seg [[(0, { d := some true })], [(1, { a := .row (eDone done) })], [(2, { d := some true }), (7, { a := .row (eDone done1) }), (16, { d := some false }), (19, { a := .call [.val [] []] false (impl_reqOk_R reqOk) (impl_reqOk_O reqOk) }), (22, { d := some false }), (25, { a := .call [.val [] [], .val [] [], .val [] []] false (impl_in_R in_1) (impl_in_O in_1) }), (28, { d := some false }), (31, { a := .call [.val [] [], .val [] [], .val [] []] false (impl_in_R in_2) (impl_in_O in_2) }), (34, { d := some false }), (38, { d := some false })]] [] [1, 6, 7, 8] [(1, 0)] [decide (v8 < (s_.Dones.length : Int)) = true, (0 : Int) ≤ v8, v8 < ((s_.Dones.length : Nat) : Int), (s_.Dones.map eDone)[v8.toNat]? = some (eDone done), decide (v8 > 0) = true, (0 : Int) ≤ (w64 (v8 - 1)), (w64 (v8 - 1)) < ((s_.Dones.length : Nat) : Int), (s_.Dones.map eDone)[(w64 (v8 - 1)).toNat]? = some (eDone done1), decide (done1.Req.Who ≥ done.Req.Who) = false, ACalls cx.P 44 [.agg (eReq done.Req)] (impl_reqOk_R reqOk) (impl_reqOk_O reqOk), (!reqOk) = false, ACalls cx.P 61 [vi done.Code, vi 0, vi 2] (impl_in_R in_1) (impl_in_O in_1), (!in_1) = false, ACalls cx.P 61 [vi done.Val, vi (-1000000), vi 1000000] (impl_in_R in_2) (impl_in_O in_2), (!in_2) = false, (done.Code != 0) = false] (.cons e2 (.cons (idx0 hdone) (.cons (idx1 hdone) (.cons (map_idx hdone) (.cons e3 (.cons (idx0 hdone1) (.cons (idx1 hdone1) (.cons (map_idx hdone1) (.cons e4 (.cons (impl_reqOk_ok done.Req reqOk hreqOk) (.cons e5 (.cons (impl_in_ok done.Code 0 2 in_1 hin_1) (.cons e6 (.cons (impl_in_ok done.Val (-1000000) 1000000 in_2 hin_2) (.cons e7 (.cons e8 .nil)))))))))))))))) hI (by kernel_rfl)))))))))))))))))) (fun e3 h =>
 (bindD h fun reqOk1 hreqOk1 h =>
 (condD h (fun e10 h =>
 (jretD h hc2 fun h => (retD h hc1 fun e => (Fin.fin (cx := cx) (X := impl_CertOk_X) (res := impl_CertOk_R false) (outs := impl_CertOk_O false) Try.func47 [[(0, { d := some true })], [(1, { a := .row (eDone done) })], [(2, { d := some false }), (19, { a := .call [.val [] []] false (impl_reqOk_R reqOk1) (impl_reqOk_O reqOk1) }), (22, { d := some true })], []] [decide (v8 < (s_.Dones.length : Int)) = true, (0 : Int) ≤ v8, v8 < ((s_.Dones.length : Nat) : Int), (s_.Dones.map eDone)[v8.toNat]? = some (eDone done), decide (v8 > 0) = false, ACalls cx.P 44 [.agg (eReq done.Req)] (impl_reqOk_R reqOk1) (impl_reqOk_O reqOk1), (!reqOk1) = true] (.cons e2 (.cons (idx0 hdone) (.cons (idx1 hdone) (.cons (map_idx hdone) (.cons e3 (.cons (impl_reqOk_ok done.Req reqOk1 hreqOk1) (.cons e10 .nil))))))) (by kernel_rfl)).is (hr1 _ e).1 (hr1 _ e).2))) (fun e10 h =>
 (bindD h fun in_3 hin_3 h =>
 (condD h (fun e11 h =>
 (jretD h hc2 fun h => (retD h hc1 fun e => (Fin.fin (cx := cx) (X := impl_CertOk_X) (res := impl_CertOk_R false) (outs := impl_CertOk_O false) Try.func47 [[(0, { d := some true })], [(1, { a := .row (eDone done) })], [(2, { d := some false }), (19, { a := .call [.val [] []] false (impl_reqOk_R reqOk1) (impl_reqOk_O reqOk1) }), (22, { d := some false }), (25, { a := .call [.val [] [], .val [] [], .val [] []] false (impl_in_R in_3) (impl_in_O in_3) }), (28, { d := some true })], []] [decide (v8 < (s_.Dones.length : Int)) = true, (0 : Int) ≤ v8, v8 < ((s_.Dones.length : Nat) : Int), (s_.Dones.map eDone)[v8.toNat]? = some (eDone done), decide (v8 > 0) = false, ACalls cx.P 44 [.agg (eReq done.Req)] (impl_reqOk_R reqOk1) (impl_reqOk_O reqOk1), (!reqOk1) = false, ACalls cx.P 61 [vi done.Code, vi 0, vi 2] (impl_in_R in_3) (impl_in_O in_3), (!in_3) = true] (.cons e2 (.cons (idx0 hdone) (.cons (idx1 hdone) (.cons (map_idx hdone) (.cons e3 (.cons (impl_reqOk_ok done.Req reqOk1 hreqOk1) (.cons e10 (.cons (impl_in_ok done.Code 0 2 in_3 hin_3) (.cons e11 .nil))))))))) (by kernel_rfl)).is (hr1 _ e).1 (hr1 _ e).2))) (fun e11 h =>
 (bindD h fun in_4 hin_4 h =>
 (condD h (fun e12 h =>
 (jretD h hc2 fun h => (retD h hc1 fun e => (Fin.fin (cx := cx) (X := impl_CertOk_X) (res := impl_CertOk_R false) (outs := impl_CertOk_O false) Try.func47 [[(0, { d := some true })], [(1, { a := .row (eDone done) })], [(2, { d := some false }), (19, { a := .call [.val [] []] false (impl_reqOk_R reqOk1) (impl_reqOk_O reqOk1) }), (22, { d := some false }), (25, { a := .call [.val [] [], .val [] [], .val [] []] false (impl_in_R in_3) (impl_in_O in_3) }), (28, { d := some false }), (31, { a := .call [.val [] [], .val [] [], .val [] []] false (impl_in_R in_4) (impl_in_O in_4) }), (34, { d := some true })], []] [decide (v8 < (s_.Dones.length : Int)) = true, (0 : Int) ≤ v8, v8 < ((s_.Dones.length : Nat) : Int), (s_.Dones.map eDone)[v8.toNat]? = some (eDone done), decide (v8 > 0) = false, ACalls cx.P 44 [.agg (eReq done.Req)] (impl_reqOk_R reqOk1) (impl_reqOk_O reqOk1), (!reqOk1) = false, ACalls cx.P 61 [vi done.Code, vi 0, vi 2] (impl_in_R in_3) (impl_in_O in_3), (!in_3) = false, ACalls cx.P 61 [vi done.Val, vi (-1000000), vi 1000000] (impl_in_R in_4) (impl_in_O in_4), (!in_4) = true] (.cons e2 (.cons (idx0 hdone) (.cons (idx1 hdone) (.cons (map_idx hdone) (.cons e3 (.cons (impl_reqOk_ok done.Req reqOk1 hreqOk1) (.cons e10 (.cons (impl_in_ok done.Code 0 2 in_3 hin_3) (.cons e11 (.cons (impl_in_ok done.Val (-1000000) 1000000 in_4 hin_4) (.cons e12 .nil))))))))))) (by kernel_rfl)).is (hr1 _ e).1 (hr1 _ e).2))) (fun e12 h =>
 (condD h (fun e13 h =>
 (condD h (fun e14 h =>
 (jretD h hc2 fun h => (retD h hc1 fun e => (Fin.fin (cx := cx) (X := impl_CertOk_X) (res := impl_CertOk_R false) (outs := impl_CertOk_O false) Try.func47 [[(0, { d := some true })], [(1, { a := .row (eDone done) })], [(2, { d := some false }), (19, { a := .call [.val [] []] false (impl_reqOk_R reqOk1) (impl_reqOk_O reqOk1) }), (22, { d := some false }), (25, { a := .call [.val [] [], .val [] [], .val [] []] false (impl_in_R in_3) (impl_in_O in_3) }), (28, { d := some false }), (31, { a := .call [.val [] [], .val [] [], .val [] []] false (impl_in_R in_4) (impl_in_O in_4) }), (34, { d := some false }), (38, { d := some true }), (43, { d := some true })], []] [decide (v8 < (s_.Dones.length : Int)) = true, (0 : Int) ≤ v8, v8 < ((s_.Dones.length : Nat) : Int), (s_.Dones.map eDone)[v8.toNat]? = some (eDone done), decide (v8 > 0) = false, ACalls cx.P 44 [.agg (eReq done.Req)] (impl_reqOk_R reqOk1) (impl_reqOk_O reqOk1), (!reqOk1) = false, ACalls cx.P 61 [vi done.Code, vi 0, vi 2] (impl_in_R in_3) (impl_in_O in_3), (!in_3) = false, ACalls cx.P 61 [vi done.Val, vi (-1000000), vi 1000000] (impl_in_R in_4) (impl_in_O in_4), (!in_4) = false, (done.Code != 0) = true, (done.Val != 0) = true] (.cons e2 (.cons (idx0 hdone) (.cons (idx1 hdone) (.cons (map_idx hdone) (.cons e3 (.cons (impl_reqOk_ok done.Req reqOk1 hreqOk1) (.cons e10 (.cons (impl_in_ok done.Code 0 2 in_3 hin_3) (.cons e11 (.cons (impl_in_ok done.Val (-1000000) 1000000 in_4 hin_4) (.cons e12 (.cons e13 (.cons e14 .nil))))))))))))) (by kernel_rfl)).is (hr1 _ e).1 (hr1 _ e).2))) (fun e14 h =>
 (jbrkD h hc2 fun hI => (Fin.seg [[(0, { d := some true })], [(1, { a := .row (eDone done) })], [(2, { d := some false }), (19, { a := .call [.val [] []] false (impl_reqOk_R reqOk1) (impl_reqOk_O reqOk1) }), (22, { d := some false }), (25, { a := .call [.val [] [], .val [] [], .val [] []] false (impl_in_R in_3) (impl_in_O in_3) }), (28, { d := some false }), (31, { a := .call [.val [] [], .val [] [], .val [] []] false (impl_in_R in_4) (impl_in_O in_4) }), (34, { d := some false }), (38, { d := some true }), (43, { d := some false })]] [] [1, 6, 7, 8] [(1, 0)] [decide (v8 < (s_.Dones.length : Int)) = true, (0 : Int) ≤ v8, v8 < ((s_.Dones.length : Nat) : Int), (s_.Dones.map eDone)[v8.toNat]? = some (eDone done), decide (v8 > 0) = false, ACalls cx.P 44 [.agg (eReq done.Req)] (impl_reqOk_R reqOk1) (impl_reqOk_O reqOk1), (!reqOk1) = false, ACalls cx.P 61 [vi done.Code, vi 0, vi 2] (impl_in_R in_3) (impl_in_O in_3), (!in_3) = false, ACalls cx.P 61 [vi done.Val, vi (-1000000), vi 1000000] (impl_in_R in_4) (impl_in_O in_4), (!in_4) = false, (done.Code != 0) = true, (done.Val != 0) = false] (.cons e2 (.cons (idx0 hdone) (.cons (idx1 hdone) (.cons (map_idx hdone) (.cons e3 (.cons (impl_reqOk_ok done.Req reqOk1 hreqOk1) (.cons e10 (.cons (impl_in_ok done.Code 0 2 in_3 hin_3) (.cons e11 (.cons (impl_in_ok done.Val (-1000000) 1000000 in_4 hin_4) (.cons e12 (.cons e13 (.cons e14 .nil))))))))))))) hI (by kernel_rfl)))))) (fun e13 h =>
 (jbrkD h hc2 fun hI => (Fin.seg [[(0, { d := some true })], [(1, { a := .row (eDone done) })], [(2, { d := some false }), (19, { a := .call [.val [] []] false (impl_reqOk_R reqOk1) (impl_reqOk_O reqOk1) }), (22, { d := some false }), (25, { a := .call [.val [] [], .val [] [], .val [] []] false (impl_in_R in_3) (impl_in_O in_3) }), (28, { d := some false }), (31, { a := .call [.val [] [], .val [] [], .val [] []] false (impl_in_R in_4) (impl_in_O in_4) }), (34, { d := some false }), (38, { d := some false })]] [] [1, 6, 7, 8] [(1, 0)] [decide (v8 < (s_.Dones.length : Int)) = true, (0 : Int) ≤ v8, v8 < ((s_.Dones.length : Nat) : Int), (s_.Dones.map eDone)[v8.toNat]? = some (eDone done), decide (v8 > 0) = false, ACalls cx.P 44 [.agg (eReq done.Req)] (impl_reqOk_R reqOk1) (impl_reqOk_O reqOk1), (!reqOk1) = false, ACalls cx.P 61 [vi done.Code, vi 0, vi 2] (impl_in_R in_3) (impl_in_O in_3), (!in_3) = false, ACalls cx.P 61 [vi done.Val, vi (-1000000), vi 1000000] (impl_in_R in_4) (impl_in_O in_4), (!in_4) = false, (done.Code != 0) = false] (.cons e2 (.cons (idx0 hdone) (.cons (idx1 hdone) (.cons (map_idx hdone) (.cons e3 (.cons (impl_reqOk_ok done.Req reqOk1 hreqOk1) (.cons e10 (.cons (impl_in_ok done.Code 0 2 in_3 hin_3) (.cons e11 (.cons (impl_in_ok done.Val (-1000000) 1000000 in_4 hin_4) (.cons e12 (.cons e13 .nil)))))))))))) hI (by kernel_rfl)))))))))))))))))))) (fun e2 h =>
 (brkD h hc1 fun e => (Fin.seg [[(0, { d := some false })]] [] [1] [(1, 0)] [decide (v8 < (s_.Dones.length : Int)) = false] (.cons e2 .nil) (hb1 _ e) (by kernel_rfl)))))
theorem impl_CertOk_b1_loop (s_ : TState) (res : V) (outs : List (Option V)) (x1 : Exc Bool Unit) (hb1 : ∀ s : Unit, x1 = .brk s → Fin cx impl_CertOk_X res outs impl_CertOk_k1 (impl_CertOk_S1 s_)) (hr1 : ∀ v : Bool, x1 = .ret v → (res = impl_CertOk_R v ∧ outs = impl_CertOk_O v)) (s : Int) (h : loop (fun s : Int => impl_CertOk_b1 s_ s) s = some x1) : Fin cx impl_CertOk_X res outs impl_CertOk_k3 (impl_CertOk_S2 s_ s) :=
  loopD (I := fun s : Int => Fin cx impl_CertOk_X res outs impl_CertOk_k3 (impl_CertOk_S2 s_ s)) h fun s st h hc => impl_CertOk_b1_ok s_ res outs x1 hb1 hr1 st hc s h
noncomputable def impl_CertOk (s_ : TState) : Option Bool :=
  ((loop (fun s : Int => impl_CertOk_b1 s_ s) 0).bind fun x => x.go (fun r => some r) fun s => impl_CertOk_k2 s_)
theorem impl_CertOk_fin (s_ : TState) (r : Bool) (h : impl_CertOk s_ = some r) : Fin cx impl_CertOk_X (impl_CertOk_R r) (impl_CertOk_O r) [.code impl_CertOk_c] (startS impl_CertOk_X [.agg (eState s_)]) :=
  (loopJ h fun x hl hr hb => (Fin.seg [[], []] [] [1, 6, 7, 8] [(1, 0)] [] .nil (impl_CertOk_b1_loop s_ _ _ x (fun s e => impl_CertOk_k2_ok s_ r (hb s e)) (fun v e => ⟨congrArg impl_CertOk_R (Option.some.inj (hr v e)).symm, congrArg impl_CertOk_O (Option.some.inj (hr v e)).symm⟩) 0 hl) (by kernel_rfl)))
theorem impl_CertOk_ok (s_ : TState) (r : Bool) (h : impl_CertOk s_ = some r) : ACalls cx.P 47 [.agg (eState s_)] (impl_CertOk_R r) (impl_CertOk_O r) :=
  ACalls.of (cx := cx) (X := impl_CertOk_X) (c := impl_CertOk_c) Try.func47 (by kernel_rfl) (by kernel_rfl) (by kernel_rfl) (impl_CertOk_fin s_ r h)

/-! ### impl_copied_Box -/
noncomputable def impl_copied_Box_c : Code := bodyOf Try.f48
noncomputable def impl_copied_Box_X : Sig := { f := 48, fn := Try.f48, rms := [.val [some 2] [some 92]], oms := [none] }
noncomputable def impl_copied_Box_R (r : List TBox) : V := vosl 92 2 eBox r
noncomputable def impl_copied_Box_O (r : List TBox) : List (Option V) := [none]
noncomputable def impl_copied_Box (list : List TBox) : Option (List TBox) :=
  (bif ((list.length : Int) == 0) then
 some []
 else
 (need (0 ≤ (list.length : Int) ∧ (list.length : Int) * 16 ≤ 140737488355328)
 ((need (list.length = (List.replicate (list.length : Int).toNat (TBox.mk 0 0)).length)
 (some list)))))
theorem impl_copied_Box_fin (list : List TBox) (r : List TBox) (h : impl_copied_Box list = some r) : Fin cx impl_copied_Box_X (impl_copied_Box_R r) (impl_copied_Box_O r) [.code impl_copied_Box_c] (startS impl_copied_Box_X [vsl 2 eBox list]) :=
  (condD h (fun e1 h =>
 (someD h fun e => (Fin.fin (cx := cx) (X := impl_copied_Box_X) (res := impl_copied_Box_R []) (outs := impl_copied_Box_O []) Try.func48 [[], [(2, { d := some true })], []] [((list.length : Int) == 0) = true] (.cons e1 .nil) (by kernel_rfl)).is (congrArg impl_copied_Box_R e) (congrArg impl_copied_Box_O e))) (fun e1 h =>
 (needD h fun e2 h =>
 (needD h fun e3 h =>
 (someD h fun e => (Fin.fin (cx := cx) (X := impl_copied_Box_X) (res := impl_copied_Box_R list) (outs := impl_copied_Box_O list) Try.func48 [[], [(2, { d := some false })], [(2, { e := some (erow 92 2 eBox (List.replicate (list.length : Int).toNat (TBox.mk 0 0))), v := some (.own 7 0 2 0 (List.replicate (list.length : Int).toNat (TBox.mk 0 0)).length) })], [(2, { e := some (erow 92 2 eBox list) })], []] [((list.length : Int) == 0) = false, V.own 7 0 2 0 (list.length : Int).toNat = .own 7 0 2 0 (List.replicate (list.length : Int).toNat (TBox.mk 0 0)).length, Ent.row 92 2 (list.length : Int).toNat (List.replicate (list.length : Int).toNat [vi 0, vi 0]) = erow 92 2 eBox (List.replicate (list.length : Int).toNat (TBox.mk 0 0)), (0 : Int) ≤ (list.length : Int), (list.length : Int) = (list.length : Int), (list.length : Int) * ((16 : Nat) : Int) ≤ 140737488355328 ∧ 0 < 16, ([vi 0, vi 0] : List V).length = 2, Ent.row 92 2 (List.replicate (list.length : Int).toNat (TBox.mk 0 0)).length (list.map eBox) = erow 92 2 eBox list, (List.replicate (list.length : Int).toNat (TBox.mk 0 0)).length = (List.replicate (list.length : Int).toNat (TBox.mk 0 0)).length, list.length = (List.replicate (list.length : Int).toNat (TBox.mk 0 0)).length, (List.replicate (list.length : Int).toNat (TBox.mk 0 0)).length = list.length] (.cons e1 (.cons (by simp) (.cons (row_rep rfl) (.cons e2.1 (.cons rfl (.cons ⟨e2.2, by decide⟩ (.cons rfl (.cons (row_copy e3) (.cons rfl (.cons e3 (.cons (by simp) .nil))))))))))) (by kernel_rfl)).is (congrArg impl_copied_Box_R e) (congrArg impl_copied_Box_O e))))))
theorem impl_copied_Box_ok (list : List TBox) (r : List TBox) (h : impl_copied_Box list = some r) : ACalls cx.P 48 [vsl 2 eBox list] (impl_copied_Box_R r) (impl_copied_Box_O r) :=
  ACalls.of (cx := cx) (X := impl_copied_Box_X) (c := impl_copied_Box_c) Try.func48 (by kernel_rfl) (by kernel_rfl) (by kernel_rfl) (impl_copied_Box_fin list r h)

/-! ### impl_copied_Done -/
noncomputable def impl_copied_Done_c : Code := bodyOf Try.f49
noncomputable def impl_copied_Done_X : Sig := { f := 49, fn := Try.f49, rms := [.val [some 4] []], oms := [none] }
noncomputable def impl_copied_Done_R (r : List TDone) : V := vsl 4 eDone r
noncomputable def impl_copied_Done_O (r : List TDone) : List (Option V) := [none]
noncomputable def impl_copied_Done (list : List TDone) : Option (List TDone) :=
  (bif ((list.length : Int) == 0) then
 some []
 else
 (need (0 ≤ (list.length : Int) ∧ (list.length : Int) * 32 ≤ 140737488355328)
 ((need (list.length = (List.replicate (list.length : Int).toNat (TDone.mk (TReq.mk 0 0) 0 0)).length)
 (some list)))))
theorem impl_copied_Done_fin (list : List TDone) (r : List TDone) (h : impl_copied_Done list = some r) : Fin cx impl_copied_Done_X (impl_copied_Done_R r) (impl_copied_Done_O r) [.code impl_copied_Done_c] (startS impl_copied_Done_X [vsl 4 eDone list]) :=
  (condD h (fun e1 h =>
 (someD h fun e => (Fin.fin (cx := cx) (X := impl_copied_Done_X) (res := impl_copied_Done_R []) (outs := impl_copied_Done_O []) Try.func49 [[], [(2, { d := some true })], []] [((list.length : Int) == 0) = true] (.cons e1 .nil) (by kernel_rfl)).is (congrArg impl_copied_Done_R e) (congrArg impl_copied_Done_O e))) (fun e1 h =>
 (needD h fun e2 h =>
 (needD h fun e3 h =>
 (someD h fun e => (Fin.fin (cx := cx) (X := impl_copied_Done_X) (res := impl_copied_Done_R list) (outs := impl_copied_Done_O list) Try.func49 [[], [(2, { d := some false })], [(2, { e := some (erow 80 4 eDone (List.replicate (list.length : Int).toNat (TDone.mk (TReq.mk 0 0) 0 0))), v := some (.own 7 0 4 0 (List.replicate (list.length : Int).toNat (TDone.mk (TReq.mk 0 0) 0 0)).length) })], [(2, { e := some (erow 80 4 eDone list) })], []] [((list.length : Int) == 0) = false, V.own 7 0 4 0 (list.length : Int).toNat = .own 7 0 4 0 (List.replicate (list.length : Int).toNat (TDone.mk (TReq.mk 0 0) 0 0)).length, Ent.row 80 4 (list.length : Int).toNat (List.replicate (list.length : Int).toNat [vi 0, vi 0, vi 0, vi 0]) = erow 80 4 eDone (List.replicate (list.length : Int).toNat (TDone.mk (TReq.mk 0 0) 0 0)), (0 : Int) ≤ (list.length : Int), (list.length : Int) = (list.length : Int), (list.length : Int) * ((32 : Nat) : Int) ≤ 140737488355328 ∧ 0 < 32, ([vi 0, vi 0, vi 0, vi 0] : List V).length = 4, Ent.row 80 4 (List.replicate (list.length : Int).toNat (TDone.mk (TReq.mk 0 0) 0 0)).length (list.map eDone) = erow 80 4 eDone list, (List.replicate (list.length : Int).toNat (TDone.mk (TReq.mk 0 0) 0 0)).length = (List.replicate (list.length : Int).toNat (TDone.mk (TReq.mk 0 0) 0 0)).length, list.length = (List.replicate (list.length : Int).toNat (TDone.mk (TReq.mk 0 0) 0 0)).length, (List.replicate (list.length : Int).toNat (TDone.mk (TReq.mk 0 0) 0 0)).length = list.length] (.cons e1 (.cons (by simp) (.cons (row_rep rfl) (.cons e2.1 (.cons rfl (.cons ⟨e2.2, by decide⟩ (.cons rfl (.cons (row_copy e3) (.cons rfl (.cons e3 (.cons (by simp) .nil))))))))))) (by kernel_rfl)).is (congrArg impl_copied_Done_R e) (congrArg impl_copied_Done_O e))))))
theorem impl_copied_Done_ok (list : List TDone) (r : List TDone) (h : impl_copied_Done list = some r) : ACalls cx.P 49 [vsl 4 eDone list] (impl_copied_Done_R r) (impl_copied_Done_O r) :=
  ACalls.of (cx := cx) (X := impl_copied_Done_X) (c := impl_copied_Done_c) Try.func49 (by kernel_rfl) (by kernel_rfl) (by kernel_rfl) (impl_copied_Done_fin list r h)

/-! ### impl_ExecFresh -/
noncomputable def impl_ExecFresh_c : Code := bodyOf Try.f50
noncomputable def impl_ExecFresh_X : Sig := { f := 50, fn := Try.f50, rms := [.val [] []], oms := [none, none] }
noncomputable def impl_ExecFresh_R (r : Bool) : V := .b r
noncomputable def impl_ExecFresh_O (r : Bool) : List (Option V) := [none, none]
noncomputable def impl_ExecFresh_k1 : List Item := posI 2000 4 [false, false] [.code impl_ExecFresh_c]
noncomputable def impl_ExecFresh_S1 : St := ⟨(bs 32 []), [some []]⟩
noncomputable def impl_ExecFresh_k2 : Option Bool :=
  some true
theorem impl_ExecFresh_k2_ok (r : Bool) (h : impl_ExecFresh_k2 = some r) : Fin cx impl_ExecFresh_X (impl_ExecFresh_R r) (impl_ExecFresh_O r) impl_ExecFresh_k1 (impl_ExecFresh_S1) :=
  (someD h fun e => (Fin.fin (cx := cx) (X := impl_ExecFresh_X) (res := impl_ExecFresh_R true) (outs := impl_ExecFresh_O true) Try.func50 [[]] [] .nil (by kernel_rfl)).is (congrArg impl_ExecFresh_R e) (congrArg impl_ExecFresh_O e))
noncomputable def impl_ExecFresh_k3 : List Item := posI 2000 3 [false] [.code impl_ExecFresh_c]
noncomputable def impl_ExecFresh_S2 (list : List TBox) (r_ : TRun) (v18 : Int) : St := ⟨(vsl 2 eBox list :: (bs 15 (vsl 2 eRead r_.Reads :: (vi (r_.Reads.length : Int) :: (vi v18 :: (bs 13 [])))))), [some []]⟩
noncomputable def impl_ExecFresh_b1 (list : List TBox) (r_ : TRun) (v18 : Int) : Option (Stp Bool Int Unit) :=
  (bif decide (v18 < (r_.Reads.length : Int)) then
 ((idx r_.Reads v18).bind fun read =>
 ((idx list read.Box).bind fun box =>
 (bif (box.Ver != read.Ver) then
 some (Stp.ret false)
 else
 some (Stp.nxt (w64 (v18 + 1))))))
 else
 some (Stp.brk ()))
theorem impl_ExecFresh_b1_ok (list : List TBox) (r_ : TRun) (res : V) (outs : List (Option V)) (x1 : Exc Bool Unit) (hb1 : ∀ s : Unit, x1 = .brk s → Fin cx impl_ExecFresh_X res outs impl_ExecFresh_k1 (impl_ExecFresh_S1)) (hr1 : ∀ v : Bool, x1 = .ret v → (res = impl_ExecFresh_R v ∧ outs = impl_ExecFresh_O v)) (st1 : Stp Bool Int Unit) (hc1 : Cont x1 (fun s : Int => Fin cx impl_ExecFresh_X res outs impl_ExecFresh_k3 (impl_ExecFresh_S2 list r_ s)) st1) (v18 : Int) (h : impl_ExecFresh_b1 list r_ v18 = some st1) : Fin cx impl_ExecFresh_X res outs impl_ExecFresh_k3 (impl_ExecFresh_S2 list r_ v18) :=
  (condD h (fun e3 h =>
 (bindD h fun read hread h =>
 (bindD h fun box hbox h =>
 (condD h (fun e4 h =>
 (retD h hc1 fun e => (Fin.fin (cx := cx) (X := impl_ExecFresh_X) (res := impl_ExecFresh_R false) (outs := impl_ExecFresh_O false) Try.func50 [[(0, { d := some true })], [(0, { a := .row (eRead read) })], [(3, { a := .row (eBox box) }), (8, { d := some true })], []] [decide (v18 < (r_.Reads.length : Int)) = true, (0 : Int) ≤ v18, v18 < ((r_.Reads.length : Nat) : Int), (r_.Reads.map eRead)[v18.toNat]? = some (eRead read), (0 : Int) ≤ read.Box, read.Box < ((list.length : Nat) : Int), (list.map eBox)[read.Box.toNat]? = some (eBox box), (box.Ver != read.Ver) = true] (.cons e3 (.cons (idx0 hread) (.cons (idx1 hread) (.cons (map_idx hread) (.cons (idx0 hbox) (.cons (idx1 hbox) (.cons (map_idx hbox) (.cons e4 .nil)))))))) (by kernel_rfl)).is (hr1 _ e).1 (hr1 _ e).2)) (fun e4 h =>
 (nxtD h hc1 fun hI => (Fin.seg [[(0, { d := some true })], [(0, { a := .row (eRead read) })], [(3, { a := .row (eBox box) }), (8, { d := some false })], []] [] [0, 16, 17, 18] [] [decide (v18 < (r_.Reads.length : Int)) = true, (0 : Int) ≤ v18, v18 < ((r_.Reads.length : Nat) : Int), (r_.Reads.map eRead)[v18.toNat]? = some (eRead read), (0 : Int) ≤ read.Box, read.Box < ((list.length : Nat) : Int), (list.map eBox)[read.Box.toNat]? = some (eBox box), (box.Ver != read.Ver) = false] (.cons e3 (.cons (idx0 hread) (.cons (idx1 hread) (.cons (map_idx hread) (.cons (idx0 hbox) (.cons (idx1 hbox) (.cons (map_idx hbox) (.cons e4 .nil)))))))) hI (by kernel_rfl)))))))) (fun e3 h =>
 (brkD h hc1 fun e => (Fin.seg [[(0, { d := some false })]] [] [] [] [decide (v18 < (r_.Reads.length : Int)) = false] (.cons e3 .nil) (hb1 _ e) (by kernel_rfl)))))
theorem impl_ExecFresh_b1_loop (list : List TBox) (r_ : TRun) (res : V) (outs : List (Option V)) (x1 : Exc Bool Unit) (hb1 : ∀ s : Unit, x1 = .brk s → Fin cx impl_ExecFresh_X res outs impl_ExecFresh_k1 (impl_ExecFresh_S1)) (hr1 : ∀ v : Bool, x1 = .ret v → (res = impl_ExecFresh_R v ∧ outs = impl_ExecFresh_O v)) (s : Int) (h : loop (fun s : Int => impl_ExecFresh_b1 list r_ s) s = some x1) : Fin cx impl_ExecFresh_X res outs impl_ExecFresh_k3 (impl_ExecFresh_S2 list r_ s) :=
  loopD (I := fun s : Int => Fin cx impl_ExecFresh_X res outs impl_ExecFresh_k3 (impl_ExecFresh_S2 list r_ s)) h fun s st h hc => impl_ExecFresh_b1_ok list r_ res outs x1 hb1 hr1 st hc s h
noncomputable def impl_ExecFresh (list : List TBox) (r_ : TRun) : Option Bool :=
  ((impl_BoxOk list).bind fun boxOk =>
 (bif (!boxOk) then
 some false
 else
 ((impl_ExecOk r_).bind fun execOk =>
 (bif (!execOk) then
 some false
 else
 ((loop (fun s : Int => impl_ExecFresh_b1 list r_ s) 0).bind fun x => x.go (fun r => some r) fun s => impl_ExecFresh_k2)))))
theorem impl_ExecFresh_fin (list : List TBox) (r_ : TRun) (r : Bool) (h : impl_ExecFresh list r_ = some r) : Fin cx impl_ExecFresh_X (impl_ExecFresh_R r) (impl_ExecFresh_O r) [.code impl_ExecFresh_c] (startS impl_ExecFresh_X [vsl 2 eBox list, .agg (eRun r_)]) :=
  (bindD h fun boxOk hboxOk h =>
 (condD h (fun e1 h =>
 (someD h fun e => (Fin.fin (cx := cx) (X := impl_ExecFresh_X) (res := impl_ExecFresh_R false) (outs := impl_ExecFresh_O false) Try.func50 [[], [(1, { a := .call [.val [some 2] []] false (impl_BoxOk_R boxOk) (impl_BoxOk_O boxOk) }), (3, { d := some true })], []] [ACalls cx.P 62 [vsl 2 eBox list] (impl_BoxOk_R boxOk) (impl_BoxOk_O boxOk), (!boxOk) = true] (.cons (impl_BoxOk_ok list boxOk hboxOk) (.cons e1 .nil)) (by kernel_rfl)).is (congrArg impl_ExecFresh_R e) (congrArg impl_ExecFresh_O e))) (fun e1 h =>
 (bindD h fun execOk hexecOk h =>
 (condD h (fun e2 h =>
 (someD h fun e => (Fin.fin (cx := cx) (X := impl_ExecFresh_X) (res := impl_ExecFresh_R false) (outs := impl_ExecFresh_O false) Try.func50 [[], [(1, { a := .call [.val [some 2] []] false (impl_BoxOk_R boxOk) (impl_BoxOk_O boxOk) }), (3, { d := some false }), (5, { a := .call [.val [some 2, some 2, none, none] []] false (impl_ExecOk_R execOk) (impl_ExecOk_O execOk) }), (7, { d := some true })], []] [ACalls cx.P 62 [vsl 2 eBox list] (impl_BoxOk_R boxOk) (impl_BoxOk_O boxOk), (!boxOk) = false, ACalls cx.P 45 [.agg (eRun r_)] (impl_ExecOk_R execOk) (impl_ExecOk_O execOk), (!execOk) = true] (.cons (impl_BoxOk_ok list boxOk hboxOk) (.cons e1 (.cons (impl_ExecOk_ok r_ execOk hexecOk) (.cons e2 .nil)))) (by kernel_rfl)).is (congrArg impl_ExecFresh_R e) (congrArg impl_ExecFresh_O e))) (fun e2 h =>
 (loopJ h fun x hl hr hb => (Fin.seg [[], [(1, { a := .call [.val [some 2] []] false (impl_BoxOk_R boxOk) (impl_BoxOk_O boxOk) }), (3, { d := some false }), (5, { a := .call [.val [some 2, some 2, none, none] []] false (impl_ExecOk_R execOk) (impl_ExecOk_O execOk) }), (7, { d := some false })], []] [] [0, 16, 17, 18] [] [ACalls cx.P 62 [vsl 2 eBox list] (impl_BoxOk_R boxOk) (impl_BoxOk_O boxOk), (!boxOk) = false, ACalls cx.P 45 [.agg (eRun r_)] (impl_ExecOk_R execOk) (impl_ExecOk_O execOk), (!execOk) = false] (.cons (impl_BoxOk_ok list boxOk hboxOk) (.cons e1 (.cons (impl_ExecOk_ok r_ execOk hexecOk) (.cons e2 .nil)))) (impl_ExecFresh_b1_loop list r_ _ _ x (fun s e => impl_ExecFresh_k2_ok r (hb s e)) (fun v e => ⟨congrArg impl_ExecFresh_R (Option.some.inj (hr v e)).symm, congrArg impl_ExecFresh_O (Option.some.inj (hr v e)).symm⟩) 0 hl) (by kernel_rfl)))))))))
theorem impl_ExecFresh_ok (list : List TBox) (r_ : TRun) (r : Bool) (h : impl_ExecFresh list r_ = some r) : ACalls cx.P 50 [vsl 2 eBox list, .agg (eRun r_)] (impl_ExecFresh_R r) (impl_ExecFresh_O r) :=
  ACalls.of (cx := cx) (X := impl_ExecFresh_X) (c := impl_ExecFresh_c) Try.func50 (by kernel_rfl) (by kernel_rfl) (by kernel_rfl) (impl_ExecFresh_fin list r_ r h)

/-! ### impl_ExecDo -/
noncomputable def impl_ExecDo_c : Code := bodyOf Try.f51
noncomputable def impl_ExecDo_X : Sig := { f := 51, fn := Try.f51, rms := [.val [some 2] []], oms := [none, none] }
noncomputable def impl_ExecDo_R (r : List TBox) : V := vsl 2 eBox r
noncomputable def impl_ExecDo_O (r : List TBox) : List (Option V) := [none, none]
noncomputable def impl_ExecDo_k1 : List Item := posI 2000 5 [false, false] [.code impl_ExecDo_c]
noncomputable def impl_ExecDo_S1 (out1 : List TBox) : St := ⟨(bs 5 (.own 1 0 2 0 out1.length :: (bs 36 []))), [some [], some [erow 92 2 eBox out1]]⟩
noncomputable def impl_ExecDo_k2 (out1 : List TBox) : Option (List TBox) :=
  some out1
theorem impl_ExecDo_k2_ok (r : List TBox) (out1 : List TBox) (h : impl_ExecDo_k2 out1 = some r) : Fin cx impl_ExecDo_X (impl_ExecDo_R r) (impl_ExecDo_O r) impl_ExecDo_k1 (impl_ExecDo_S1 out1) :=
  (someD h fun e => (Fin.fin (cx := cx) (X := impl_ExecDo_X) (res := impl_ExecDo_R out1) (outs := impl_ExecDo_O out1) Try.func51 [[]] [out1.length = out1.length] (.cons rfl .nil) (by kernel_rfl)).is (congrArg impl_ExecDo_R e) (congrArg impl_ExecDo_O e))
noncomputable def impl_ExecDo_k3 : List Item := posI 2000 4 [false] [.code impl_ExecDo_c]
noncomputable def impl_ExecDo_S2 (r_ : TRun) (out : List TBox) (v21 : Int) : St := ⟨(bs 5 (.own 1 0 2 0 out.length :: (bs 13 (vsl 2 ePut r_.Puts :: (vi (r_.Puts.length : Int) :: (vi v21 :: (bs 20 []))))))), [some [], some [erow 92 2 eBox out]]⟩
noncomputable def impl_ExecDo_b1 (r_ : TRun) (out : List TBox) (v21 : Int) : Option (Stp (List TBox) ((List TBox) × Int) (List TBox)) :=
  (bif decide (v21 < (r_.Puts.length : Int)) then
 ((idx r_.Puts v21).bind fun put =>
 ((idx out put.Box).bind fun box1 =>
 some (Stp.nxt (out.set put.Box.toNat (TBox.mk (if (w64 (box1.Ver + 1)) < 1000000 then (w64 (box1.Ver + 1)) else 1000000) put.Val), w64 (v21 + 1)))))
 else
 some (Stp.brk out))
theorem impl_ExecDo_b1_ok (r_ : TRun) (res : V) (outs : List (Option V)) (x1 : Exc (List TBox) (List TBox)) (hb1 : ∀ s : List TBox, x1 = .brk s → Fin cx impl_ExecDo_X res outs impl_ExecDo_k1 (impl_ExecDo_S1 s)) (hr1 : ∀ v : List TBox, x1 = .ret v → (res = impl_ExecDo_R v ∧ outs = impl_ExecDo_O v)) (st1 : Stp (List TBox) ((List TBox) × Int) (List TBox)) (hc1 : Cont x1 (fun s : (List TBox) × Int => Fin cx impl_ExecDo_X res outs impl_ExecDo_k3 (impl_ExecDo_S2 r_ s.1 s.2)) st1) (out : List TBox) (v21 : Int) (h : impl_ExecDo_b1 r_ out v21 = some st1) : Fin cx impl_ExecDo_X res outs impl_ExecDo_k3 (impl_ExecDo_S2 r_ out v21) :=
  (condD h (fun e3 h =>
 (bindD h fun put hput h =>
 (bindD h fun box1 hbox1 h =>
 (nxtD h hc1 fun hI => (Fin.seg [[(0, { d := some true })], [(0, { a := .row (ePut put) })], [(8, { a := .row (eBox box1) }), (15, { a := .rowck (eBox box1) [], e := some (erow 92 2 eBox (out.set put.Box.toNat (TBox.mk (if (w64 (box1.Ver + 1)) < 1000000 then (w64 (box1.Ver + 1)) else 1000000) put.Val))) })], []] [.is (.tmp 5) (.own 1 0 2 0 (out.set put.Box.toNat (TBox.mk (if (w64 (box1.Ver + 1)) < 1000000 then (w64 (box1.Ver + 1)) else 1000000) put.Val)).length)] [5, 19, 20, 21] [(1, 0)] [decide (v21 < (r_.Puts.length : Int)) = true, (0 : Int) ≤ v21, v21 < ((r_.Puts.length : Nat) : Int), (r_.Puts.map ePut)[v21.toNat]? = some (ePut put), (0 : Int) ≤ put.Box, put.Box < ((out.length : Nat) : Int), (out.map eBox)[0 + put.Box.toNat]? = some (eBox box1), (0 : Int) ≤ put.Box, put.Box < ((out.length : Nat) : Int), Ent.row 92 2 out.length ((out.map eBox).set (0 + put.Box.toNat) [vi (if (w64 (box1.Ver + 1)) < 1000000 then (w64 (box1.Ver + 1)) else 1000000), vi put.Val]) = erow 92 2 eBox (out.set put.Box.toNat (TBox.mk (if (w64 (box1.Ver + 1)) < 1000000 then (w64 (box1.Ver + 1)) else 1000000) put.Val)), (out.map eBox)[0 + put.Box.toNat]? = some (eBox box1), (.own 1 0 2 0 out.length : V) = .own 1 0 2 0 (out.set put.Box.toNat (TBox.mk (if (w64 (box1.Ver + 1)) < 1000000 then (w64 (box1.Ver + 1)) else 1000000) put.Val)).length] (.cons e3 (.cons (idx0 hput) (.cons (idx1 hput) (.cons (map_idx hput) (.cons (idx0 hbox1) (.cons (idx1 hbox1) (.cons (map_idx0 hbox1) (.cons (idx0 hbox1) (.cons (idx1 hbox1) (.cons (row_set rfl) (.cons (map_idx0 hbox1) (.cons (by simp) .nil)))))))))))) hI (by kernel_rfl)))))) (fun e3 h =>
 (brkD h hc1 fun e => (Fin.seg [[(0, { d := some false })]] [] [5] [(1, 0)] [decide (v21 < (r_.Puts.length : Int)) = false] (.cons e3 .nil) (hb1 _ e) (by kernel_rfl)))))
theorem impl_ExecDo_b1_loop (r_ : TRun) (res : V) (outs : List (Option V)) (x1 : Exc (List TBox) (List TBox)) (hb1 : ∀ s : List TBox, x1 = .brk s → Fin cx impl_ExecDo_X res outs impl_ExecDo_k1 (impl_ExecDo_S1 s)) (hr1 : ∀ v : List TBox, x1 = .ret v → (res = impl_ExecDo_R v ∧ outs = impl_ExecDo_O v)) (s : (List TBox) × Int) (h : loop (fun s : (List TBox) × Int => impl_ExecDo_b1 r_ s.1 s.2) s = some x1) : Fin cx impl_ExecDo_X res outs impl_ExecDo_k3 (impl_ExecDo_S2 r_ s.1 s.2) :=
  loopD (I := fun s : (List TBox) × Int => Fin cx impl_ExecDo_X res outs impl_ExecDo_k3 (impl_ExecDo_S2 r_ s.1 s.2)) h fun s st h hc => impl_ExecDo_b1_ok r_ res outs x1 hb1 hr1 st hc s.1 s.2 h
noncomputable def impl_ExecDo (list : List TBox) (r_ : TRun) : Option (List TBox) :=
  ((impl_BoxOk list).bind fun boxOk =>
 (bif (!boxOk) then
 some []
 else
 ((impl_ExecOk r_).bind fun execOk =>
 (bif (!execOk) then
 some []
 else
 ((impl_copied_Box list).bind fun box =>
 ((loop (fun s : (List TBox) × Int => impl_ExecDo_b1 r_ s.1 s.2) (box, 0)).bind fun x => x.go (fun r => some r) fun s => impl_ExecDo_k2 s))))))
theorem impl_ExecDo_fin (list : List TBox) (r_ : TRun) (r : List TBox) (h : impl_ExecDo list r_ = some r) : Fin cx impl_ExecDo_X (impl_ExecDo_R r) (impl_ExecDo_O r) [.code impl_ExecDo_c] (startS impl_ExecDo_X [vsl 2 eBox list, .agg (eRun r_)]) :=
  (bindD h fun boxOk hboxOk h =>
 (condD h (fun e1 h =>
 (someD h fun e => (Fin.fin (cx := cx) (X := impl_ExecDo_X) (res := impl_ExecDo_R []) (outs := impl_ExecDo_O []) Try.func51 [[], [(1, { a := .call [.val [some 2] []] false (impl_BoxOk_R boxOk) (impl_BoxOk_O boxOk) }), (3, { d := some true })], []] [ACalls cx.P 62 [vsl 2 eBox list] (impl_BoxOk_R boxOk) (impl_BoxOk_O boxOk), (!boxOk) = true] (.cons (impl_BoxOk_ok list boxOk hboxOk) (.cons e1 .nil)) (by kernel_rfl)).is (congrArg impl_ExecDo_R e) (congrArg impl_ExecDo_O e))) (fun e1 h =>
 (bindD h fun execOk hexecOk h =>
 (condD h (fun e2 h =>
 (someD h fun e => (Fin.fin (cx := cx) (X := impl_ExecDo_X) (res := impl_ExecDo_R []) (outs := impl_ExecDo_O []) Try.func51 [[], [(1, { a := .call [.val [some 2] []] false (impl_BoxOk_R boxOk) (impl_BoxOk_O boxOk) }), (3, { d := some false }), (5, { a := .call [.val [some 2, some 2, none, none] []] false (impl_ExecOk_R execOk) (impl_ExecOk_O execOk) }), (7, { d := some true })], []] [ACalls cx.P 62 [vsl 2 eBox list] (impl_BoxOk_R boxOk) (impl_BoxOk_O boxOk), (!boxOk) = false, ACalls cx.P 45 [.agg (eRun r_)] (impl_ExecOk_R execOk) (impl_ExecOk_O execOk), (!execOk) = true] (.cons (impl_BoxOk_ok list boxOk hboxOk) (.cons e1 (.cons (impl_ExecOk_ok r_ execOk hexecOk) (.cons e2 .nil)))) (by kernel_rfl)).is (congrArg impl_ExecDo_R e) (congrArg impl_ExecDo_O e))) (fun e2 h =>
 (bindD h fun box hbox h =>
 (loopJ h fun x hl hr hb => (Fin.seg [[], [(1, { a := .call [.val [some 2] []] false (impl_BoxOk_R boxOk) (impl_BoxOk_O boxOk) }), (3, { d := some false }), (5, { a := .call [.val [some 2, some 2, none, none] []] false (impl_ExecOk_R execOk) (impl_ExecOk_O execOk) }), (7, { d := some false })], [(1, { a := .call [.val [some 2] []] false (impl_copied_Box_R box) (impl_copied_Box_O box) })], []] [] [5, 19, 20, 21] [(12, 0)] [ACalls cx.P 62 [vsl 2 eBox list] (impl_BoxOk_R boxOk) (impl_BoxOk_O boxOk), (!boxOk) = false, ACalls cx.P 45 [.agg (eRun r_)] (impl_ExecOk_R execOk) (impl_ExecOk_O execOk), (!execOk) = false, ACalls cx.P 48 [vsl 2 eBox list] (impl_copied_Box_R box) (impl_copied_Box_O box)] (.cons (impl_BoxOk_ok list boxOk hboxOk) (.cons e1 (.cons (impl_ExecOk_ok r_ execOk hexecOk) (.cons e2 (.cons (impl_copied_Box_ok list box hbox) .nil))))) (impl_ExecDo_b1_loop r_ _ _ x (fun s e => impl_ExecDo_k2_ok r s (hb s e)) (fun v e => ⟨congrArg impl_ExecDo_R (Option.some.inj (hr v e)).symm, congrArg impl_ExecDo_O (Option.some.inj (hr v e)).symm⟩) (box, 0) hl) (by kernel_rfl))))))))))
theorem impl_ExecDo_ok (list : List TBox) (r_ : TRun) (r : List TBox) (h : impl_ExecDo list r_ = some r) : ACalls cx.P 51 [vsl 2 eBox list, .agg (eRun r_)] (impl_ExecDo_R r) (impl_ExecDo_O r) :=
  ACalls.of (cx := cx) (X := impl_ExecDo_X) (c := impl_ExecDo_c) Try.func51 (by kernel_rfl) (by kernel_rfl) (by kernel_rfl) (impl_ExecDo_fin list r_ r h)


end Go.Proofs.Ythefcgmhjonopaa
