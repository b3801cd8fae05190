/- Functions of the program, and that their calls come to this. -/
import Derived.Test.YtdagjdmehagefaaF2
set_option linter.unusedVariables false
set_option linter.unusedSimpArgs false
namespace Go.Proofs.Ytdagjdmehagefaa
open Go

/-! ### spec_DrawHistSwap -/
noncomputable def spec_DrawHistSwap_c : Code := bodyOf Try.f4
noncomputable def spec_DrawHistSwap_X : Sig := { f := 4, fn := Try.f4, rms := [.val [some 7] [], .val [] []], oms := [none] }
noncomputable def spec_DrawHistSwap_R (r : (List TEntry) × Int) : V := .tup [vsl 7 eEntry r.1, vi r.2]
noncomputable def spec_DrawHistSwap_O (r : (List TEntry) × Int) : List (Option V) := [none]
noncomputable def spec_DrawHistSwap (code : List Int) : Option ((List TEntry) × Int) :=
  ((spec_DrawHistAt code).bind fun drawHistAt =>
 some (drawHistAt.1, drawHistAt.2))
theorem spec_DrawHistSwap_fin (code : List Int) (r : (List TEntry) × Int) (h : spec_DrawHistSwap code = some r) : Fin cx spec_DrawHistSwap_X (spec_DrawHistSwap_R r) (spec_DrawHistSwap_O r) [.code spec_DrawHistSwap_c] (startS spec_DrawHistSwap_X [vsl 1 eU8 code]) :=
  (bindD h fun drawHistAt hdrawHistAt h =>
 (someD h fun e => (Fin.fin (cx := cx) (X := spec_DrawHistSwap_X) (res := spec_DrawHistSwap_R (drawHistAt.1, drawHistAt.2)) (outs := spec_DrawHistSwap_O (drawHistAt.1, drawHistAt.2)) Try.func4 [[], [(1, { a := .call [.val [some 1] []] false (spec_DrawHistAt_R drawHistAt) (spec_DrawHistAt_O drawHistAt) })]] [ACalls cx.P 12 [vsl 1 eU8 code] (spec_DrawHistAt_R drawHistAt) (spec_DrawHistAt_O drawHistAt)] (.cons (spec_DrawHistAt_ok code drawHistAt hdrawHistAt) .nil) (by kernel_rfl)).is (congrArg spec_DrawHistSwap_R e) (congrArg spec_DrawHistSwap_O e)))
theorem spec_DrawHistSwap_ok (code : List Int) (r : (List TEntry) × Int) (h : spec_DrawHistSwap code = some r) : ACalls cx.P 4 [vsl 1 eU8 code] (spec_DrawHistSwap_R r) (spec_DrawHistSwap_O r) :=
  ACalls.of (cx := cx) (X := spec_DrawHistSwap_X) (c := spec_DrawHistSwap_c) Try.func4 (by kernel_rfl) (by kernel_rfl) (by kernel_rfl) (spec_DrawHistSwap_fin code r h)

/-! ### impl_same_Read -/
noncomputable def impl_same_Read_c : Code := bodyOf Try.f71
noncomputable def impl_same_Read_X : Sig := { f := 71, fn := Try.f71, rms := [.val [] []], oms := [none, none] }
noncomputable def impl_same_Read_R (r : Bool) : V := .b r
noncomputable def impl_same_Read_O (r : Bool) : List (Option V) := [none, none]
noncomputable def impl_same_Read_k1 : List Item := posI 2000 4 [false, false] [.code impl_same_Read_c]
noncomputable def impl_same_Read_S1 : St := ⟨(bs 26 []), [some []]⟩
noncomputable def impl_same_Read_k2 : Option Bool :=
  some true
theorem impl_same_Read_k2_ok (r : Bool) (h : impl_same_Read_k2 = some r) : Fin cx impl_same_Read_X (impl_same_Read_R r) (impl_same_Read_O r) impl_same_Read_k1 (impl_same_Read_S1) :=
  (someD h fun e => (Fin.fin (cx := cx) (X := impl_same_Read_X) (res := impl_same_Read_R true) (outs := impl_same_Read_O true) Try.func71 [[]] [] .nil (by kernel_rfl)).is (congrArg impl_same_Read_R e) (congrArg impl_same_Read_O e))
noncomputable def impl_same_Read_k3 : List Item := posI 2000 3 [false] [.code impl_same_Read_c]
noncomputable def impl_same_Read_S2 (a : List TRead) (b : List TRead) (v13 : Int) : St := ⟨(vsl 2 eRead a :: (vsl 2 eRead b :: (bs 10 (vi (a.length : Int) :: (vi v13 :: (bs 12 [])))))), [some []]⟩
noncomputable def impl_same_Read_b1 (a : List TRead) (b : List TRead) (v13 : Int) : Option (Stp Bool Int Unit) :=
  (bif decide (v13 < (a.length : Int)) then
 ((idx a v13).bind fun read =>
 ((idx b v13).bind fun read1 =>
 (bif (!(([read.Box, read.Ver] : List Int) == [read1.Box, read1.Ver])) then
 some (Stp.ret false)
 else
 some (Stp.nxt (w64 (v13 + 1))))))
 else
 some (Stp.brk ()))
theorem impl_same_Read_b1_ok (a : List TRead) (b : List TRead) (res : V) (outs : List (Option V)) (x1 : Exc Bool Unit) (hb1 : ∀ s : Unit, x1 = .brk s → Fin cx impl_same_Read_X res outs impl_same_Read_k1 (impl_same_Read_S1)) (hr1 : ∀ v : Bool, x1 = .ret v → (res = impl_same_Read_R v ∧ outs = impl_same_Read_O v)) (st1 : Stp Bool Int Unit) (hc1 : Cont x1 (fun s : Int => Fin cx impl_same_Read_X res outs impl_same_Read_k3 (impl_same_Read_S2 a b s)) st1) (v13 : Int) (h : impl_same_Read_b1 a b v13 = some st1) : Fin cx impl_same_Read_X res outs impl_same_Read_k3 (impl_same_Read_S2 a b v13) :=
  (condD h (fun e2 h =>
 (bindD h fun read hread h =>
 (bindD h fun read1 hread1 h =>
 (condD h (fun e3 h =>
 (retD h hc1 fun e => (Fin.fin (cx := cx) (X := impl_same_Read_X) (res := impl_same_Read_R false) (outs := impl_same_Read_O false) Try.func71 [[(0, { d := some true })], [], [(2, { a := .row (eRead read) }), (6, { a := .row (eRead read1) }), (8, { d := some true })], []] [decide (v13 < (a.length : Int)) = true, (0 : Int) ≤ v13, v13 < ((a.length : Nat) : Int), (a.map eRead)[v13.toNat]? = some (eRead read), (0 : Int) ≤ v13, v13 < ((b.length : Nat) : Int), (b.map eRead)[v13.toNat]? = some (eRead read1), (!(([read.Box, read.Ver] : List Int) == [read1.Box, read1.Ver])) = true] (.cons e2 (.cons (idx0 hread) (.cons (idx1 hread) (.cons (map_idx hread) (.cons (idx0 hread1) (.cons (idx1 hread1) (.cons (map_idx hread1) (.cons e3 .nil)))))))) (by kernel_rfl)).is (hr1 _ e).1 (hr1 _ e).2)) (fun e3 h =>
 (nxtD h hc1 fun hI => (Fin.seg [[(0, { d := some true })], [], [(2, { a := .row (eRead read) }), (6, { a := .row (eRead read1) }), (8, { d := some false })], []] [] [0, 1, 12, 13] [] [decide (v13 < (a.length : Int)) = true, (0 : Int) ≤ v13, v13 < ((a.length : Nat) : Int), (a.map eRead)[v13.toNat]? = some (eRead read), (0 : Int) ≤ v13, v13 < ((b.length : Nat) : Int), (b.map eRead)[v13.toNat]? = some (eRead read1), (!(([read.Box, read.Ver] : List Int) == [read1.Box, read1.Ver])) = false] (.cons e2 (.cons (idx0 hread) (.cons (idx1 hread) (.cons (map_idx hread) (.cons (idx0 hread1) (.cons (idx1 hread1) (.cons (map_idx hread1) (.cons e3 .nil)))))))) hI (by kernel_rfl)))))))) (fun e2 h =>
 (brkD h hc1 fun e => (Fin.seg [[(0, { d := some false })]] [] [] [] [decide (v13 < (a.length : Int)) = false] (.cons e2 .nil) (hb1 _ e) (by kernel_rfl)))))
theorem impl_same_Read_b1_loop (a : List TRead) (b : List TRead) (res : V) (outs : List (Option V)) (x1 : Exc Bool Unit) (hb1 : ∀ s : Unit, x1 = .brk s → Fin cx impl_same_Read_X res outs impl_same_Read_k1 (impl_same_Read_S1)) (hr1 : ∀ v : Bool, x1 = .ret v → (res = impl_same_Read_R v ∧ outs = impl_same_Read_O v)) (s : Int) (h : loop (fun s : Int => impl_same_Read_b1 a b s) s = some x1) : Fin cx impl_same_Read_X res outs impl_same_Read_k3 (impl_same_Read_S2 a b s) :=
  loopD (I := fun s : Int => Fin cx impl_same_Read_X res outs impl_same_Read_k3 (impl_same_Read_S2 a b s)) h fun s st h hc => impl_same_Read_b1_ok a b res outs x1 hb1 hr1 st hc s h
noncomputable def impl_same_Read (a : List TRead) (b : List TRead) : Option Bool :=
  (bif ((a.length : Int) != (b.length : Int)) then
 some false
 else
 ((loop (fun s : Int => impl_same_Read_b1 a b s) 0).bind fun x => x.go (fun r => some r) fun s => impl_same_Read_k2))
theorem impl_same_Read_fin (a : List TRead) (b : List TRead) (r : Bool) (h : impl_same_Read a b = some r) : Fin cx impl_same_Read_X (impl_same_Read_R r) (impl_same_Read_O r) [.code impl_same_Read_c] (startS impl_same_Read_X [vsl 2 eRead a, vsl 2 eRead b]) :=
  (condD h (fun e1 h =>
 (someD h fun e => (Fin.fin (cx := cx) (X := impl_same_Read_X) (res := impl_same_Read_R false) (outs := impl_same_Read_O false) Try.func71 [[], [(4, { d := some true })], []] [((a.length : Int) != (b.length : Int)) = true] (.cons e1 .nil) (by kernel_rfl)).is (congrArg impl_same_Read_R e) (congrArg impl_same_Read_O e))) (fun e1 h =>
 (loopJ h fun x hl hr hb => (Fin.seg [[], [(4, { d := some false })], []] [] [0, 1, 12, 13] [] [((a.length : Int) != (b.length : Int)) = false] (.cons e1 .nil) (impl_same_Read_b1_loop a b _ _ x (fun s e => impl_same_Read_k2_ok r (hb s e)) (fun v e => ⟨congrArg impl_same_Read_R (Option.some.inj (hr v e)).symm, congrArg impl_same_Read_O (Option.some.inj (hr v e)).symm⟩) 0 hl) (by kernel_rfl)))))
theorem impl_same_Read_ok (a : List TRead) (b : List TRead) (r : Bool) (h : impl_same_Read a b = some r) : ACalls cx.P 71 [vsl 2 eRead a, vsl 2 eRead b] (impl_same_Read_R r) (impl_same_Read_O r) :=
  ACalls.of (cx := cx) (X := impl_same_Read_X) (c := impl_same_Read_c) Try.func71 (by kernel_rfl) (by kernel_rfl) (by kernel_rfl) (impl_same_Read_fin a b r h)

/-! ### impl_same_Put -/
noncomputable def impl_same_Put_c : Code := bodyOf Try.f72
noncomputable def impl_same_Put_X : Sig := { f := 72, fn := Try.f72, rms := [.val [] []], oms := [none, none] }
noncomputable def impl_same_Put_R (r : Bool) : V := .b r
noncomputable def impl_same_Put_O (r : Bool) : List (Option V) := [none, none]
noncomputable def impl_same_Put_k1 : List Item := posI 2000 4 [false, false] [.code impl_same_Put_c]
noncomputable def impl_same_Put_S1 : St := ⟨(bs 26 []), [some []]⟩
noncomputable def impl_same_Put_k2 : Option Bool :=
  some true
theorem impl_same_Put_k2_ok (r : Bool) (h : impl_same_Put_k2 = some r) : Fin cx impl_same_Put_X (impl_same_Put_R r) (impl_same_Put_O r) impl_same_Put_k1 (impl_same_Put_S1) :=
  (someD h fun e => (Fin.fin (cx := cx) (X := impl_same_Put_X) (res := impl_same_Put_R true) (outs := impl_same_Put_O true) Try.func72 [[]] [] .nil (by kernel_rfl)).is (congrArg impl_same_Put_R e) (congrArg impl_same_Put_O e))
noncomputable def impl_same_Put_k3 : List Item := posI 2000 3 [false] [.code impl_same_Put_c]
noncomputable def impl_same_Put_S2 (a : List TPut) (b : List TPut) (v13 : Int) : St := ⟨(vsl 2 ePut a :: (vsl 2 ePut b :: (bs 10 (vi (a.length : Int) :: (vi v13 :: (bs 12 [])))))), [some []]⟩
noncomputable def impl_same_Put_b1 (a : List TPut) (b : List TPut) (v13 : Int) : Option (Stp Bool Int Unit) :=
  (bif decide (v13 < (a.length : Int)) then
 ((idx a v13).bind fun put =>
 ((idx b v13).bind fun put1 =>
 (bif (!(([put.Box, put.Val] : List Int) == [put1.Box, put1.Val])) then
 some (Stp.ret false)
 else
 some (Stp.nxt (w64 (v13 + 1))))))
 else
 some (Stp.brk ()))
theorem impl_same_Put_b1_ok (a : List TPut) (b : List TPut) (res : V) (outs : List (Option V)) (x1 : Exc Bool Unit) (hb1 : ∀ s : Unit, x1 = .brk s → Fin cx impl_same_Put_X res outs impl_same_Put_k1 (impl_same_Put_S1)) (hr1 : ∀ v : Bool, x1 = .ret v → (res = impl_same_Put_R v ∧ outs = impl_same_Put_O v)) (st1 : Stp Bool Int Unit) (hc1 : Cont x1 (fun s : Int => Fin cx impl_same_Put_X res outs impl_same_Put_k3 (impl_same_Put_S2 a b s)) st1) (v13 : Int) (h : impl_same_Put_b1 a b v13 = some st1) : Fin cx impl_same_Put_X res outs impl_same_Put_k3 (impl_same_Put_S2 a b v13) :=
  (condD h (fun e2 h =>
 (bindD h fun put hput h =>
 (bindD h fun put1 hput1 h =>
 (condD h (fun e3 h =>
 (retD h hc1 fun e => (Fin.fin (cx := cx) (X := impl_same_Put_X) (res := impl_same_Put_R false) (outs := impl_same_Put_O false) Try.func72 [[(0, { d := some true })], [], [(2, { a := .row (ePut put) }), (6, { a := .row (ePut put1) }), (8, { d := some true })], []] [decide (v13 < (a.length : Int)) = true, (0 : Int) ≤ v13, v13 < ((a.length : Nat) : Int), (a.map ePut)[v13.toNat]? = some (ePut put), (0 : Int) ≤ v13, v13 < ((b.length : Nat) : Int), (b.map ePut)[v13.toNat]? = some (ePut put1), (!(([put.Box, put.Val] : List Int) == [put1.Box, put1.Val])) = true] (.cons e2 (.cons (idx0 hput) (.cons (idx1 hput) (.cons (map_idx hput) (.cons (idx0 hput1) (.cons (idx1 hput1) (.cons (map_idx hput1) (.cons e3 .nil)))))))) (by kernel_rfl)).is (hr1 _ e).1 (hr1 _ e).2)) (fun e3 h =>
 (nxtD h hc1 fun hI => (Fin.seg [[(0, { d := some true })], [], [(2, { a := .row (ePut put) }), (6, { a := .row (ePut put1) }), (8, { d := some false })], []] [] [0, 1, 12, 13] [] [decide (v13 < (a.length : Int)) = true, (0 : Int) ≤ v13, v13 < ((a.length : Nat) : Int), (a.map ePut)[v13.toNat]? = some (ePut put), (0 : Int) ≤ v13, v13 < ((b.length : Nat) : Int), (b.map ePut)[v13.toNat]? = some (ePut put1), (!(([put.Box, put.Val] : List Int) == [put1.Box, put1.Val])) = false] (.cons e2 (.cons (idx0 hput) (.cons (idx1 hput) (.cons (map_idx hput) (.cons (idx0 hput1) (.cons (idx1 hput1) (.cons (map_idx hput1) (.cons e3 .nil)))))))) hI (by kernel_rfl)))))))) (fun e2 h =>
 (brkD h hc1 fun e => (Fin.seg [[(0, { d := some false })]] [] [] [] [decide (v13 < (a.length : Int)) = false] (.cons e2 .nil) (hb1 _ e) (by kernel_rfl)))))
theorem impl_same_Put_b1_loop (a : List TPut) (b : List TPut) (res : V) (outs : List (Option V)) (x1 : Exc Bool Unit) (hb1 : ∀ s : Unit, x1 = .brk s → Fin cx impl_same_Put_X res outs impl_same_Put_k1 (impl_same_Put_S1)) (hr1 : ∀ v : Bool, x1 = .ret v → (res = impl_same_Put_R v ∧ outs = impl_same_Put_O v)) (s : Int) (h : loop (fun s : Int => impl_same_Put_b1 a b s) s = some x1) : Fin cx impl_same_Put_X res outs impl_same_Put_k3 (impl_same_Put_S2 a b s) :=
  loopD (I := fun s : Int => Fin cx impl_same_Put_X res outs impl_same_Put_k3 (impl_same_Put_S2 a b s)) h fun s st h hc => impl_same_Put_b1_ok a b res outs x1 hb1 hr1 st hc s h
noncomputable def impl_same_Put (a : List TPut) (b : List TPut) : Option Bool :=
  (bif ((a.length : Int) != (b.length : Int)) then
 some false
 else
 ((loop (fun s : Int => impl_same_Put_b1 a b s) 0).bind fun x => x.go (fun r => some r) fun s => impl_same_Put_k2))
theorem impl_same_Put_fin (a : List TPut) (b : List TPut) (r : Bool) (h : impl_same_Put a b = some r) : Fin cx impl_same_Put_X (impl_same_Put_R r) (impl_same_Put_O r) [.code impl_same_Put_c] (startS impl_same_Put_X [vsl 2 ePut a, vsl 2 ePut b]) :=
  (condD h (fun e1 h =>
 (someD h fun e => (Fin.fin (cx := cx) (X := impl_same_Put_X) (res := impl_same_Put_R false) (outs := impl_same_Put_O false) Try.func72 [[], [(4, { d := some true })], []] [((a.length : Int) != (b.length : Int)) = true] (.cons e1 .nil) (by kernel_rfl)).is (congrArg impl_same_Put_R e) (congrArg impl_same_Put_O e))) (fun e1 h =>
 (loopJ h fun x hl hr hb => (Fin.seg [[], [(4, { d := some false })], []] [] [0, 1, 12, 13] [] [((a.length : Int) != (b.length : Int)) = false] (.cons e1 .nil) (impl_same_Put_b1_loop a b _ _ x (fun s e => impl_same_Put_k2_ok r (hb s e)) (fun v e => ⟨congrArg impl_same_Put_R (Option.some.inj (hr v e)).symm, congrArg impl_same_Put_O (Option.some.inj (hr v e)).symm⟩) 0 hl) (by kernel_rfl)))))
theorem impl_same_Put_ok (a : List TPut) (b : List TPut) (r : Bool) (h : impl_same_Put a b = some r) : ACalls cx.P 72 [vsl 2 ePut a, vsl 2 ePut b] (impl_same_Put_R r) (impl_same_Put_O r) :=
  ACalls.of (cx := cx) (X := impl_same_Put_X) (c := impl_same_Put_c) Try.func72 (by kernel_rfl) (by kernel_rfl) (by kernel_rfl) (impl_same_Put_fin a b r h)

/-! ### impl_ExecSame -/
noncomputable def impl_ExecSame_c : Code := bodyOf Try.f63
noncomputable def impl_ExecSame_X : Sig := { f := 63, fn := Try.f63, rms := [.val [] []], oms := [none, none] }
noncomputable def impl_ExecSame_R (r : Bool) : V := .b r
noncomputable def impl_ExecSame_O (r : Bool) : List (Option V) := [none, none]
noncomputable def impl_ExecSame (a : TRun) (b : TRun) : Option Bool :=
  ((impl_same_Read a.Reads b.Reads).bind fun read =>
 (bif read then
 ((impl_same_Put a.Puts b.Puts).bind fun put =>
 (bif put then
 (bif (a.Val == b.Val) then
 some (a.Code == b.Code)
 else
 some false)
 else
 some false))
 else
 some false))
theorem impl_ExecSame_fin (a : TRun) (b : TRun) (r : Bool) (h : impl_ExecSame a b = some r) : Fin cx impl_ExecSame_X (impl_ExecSame_R r) (impl_ExecSame_O r) [.code impl_ExecSame_c] (startS impl_ExecSame_X [.agg (eRun a), .agg (eRun b)]) :=
  (bindD h fun read hread h =>
 (condD h (fun e1 h =>
 (bindD h fun put hput h =>
 (condD h (fun e2 h =>
 (condD h (fun e3 h =>
 (someD h fun e => (Fin.fin (cx := cx) (X := impl_ExecSame_X) (res := impl_ExecSame_R (a.Code == b.Code)) (outs := impl_ExecSame_O (a.Code == b.Code)) Try.func63 [[], [(4, { a := .call [.val [some 2] [], .val [some 2] []] false (impl_same_Read_R read) (impl_same_Read_O read) }), (5, { d := some true }), (10, { a := .call [.val [some 2] [], .val [some 2] []] false (impl_same_Put_R put) (impl_same_Put_O put) }), (12, { d := some true }), (19, { d := some true })]] [ACalls cx.P 71 [vsl 2 eRead a.Reads, vsl 2 eRead b.Reads] (impl_same_Read_R read) (impl_same_Read_O read), read = true, ACalls cx.P 72 [vsl 2 ePut a.Puts, vsl 2 ePut b.Puts] (impl_same_Put_R put) (impl_same_Put_O put), put = true, (a.Val == b.Val) = true] (.cons (impl_same_Read_ok a.Reads b.Reads read hread) (.cons e1 (.cons (impl_same_Put_ok a.Puts b.Puts put hput) (.cons e2 (.cons e3 .nil))))) (by kernel_rfl)).is (congrArg impl_ExecSame_R e) (congrArg impl_ExecSame_O e))) (fun e3 h =>
 (someD h fun e => (Fin.fin (cx := cx) (X := impl_ExecSame_X) (res := impl_ExecSame_R false) (outs := impl_ExecSame_O false) Try.func63 [[], [(4, { a := .call [.val [some 2] [], .val [some 2] []] false (impl_same_Read_R read) (impl_same_Read_O read) }), (5, { d := some true }), (10, { a := .call [.val [some 2] [], .val [some 2] []] false (impl_same_Put_R put) (impl_same_Put_O put) }), (12, { d := some true }), (19, { d := some false })]] [ACalls cx.P 71 [vsl 2 eRead a.Reads, vsl 2 eRead b.Reads] (impl_same_Read_R read) (impl_same_Read_O read), read = true, ACalls cx.P 72 [vsl 2 ePut a.Puts, vsl 2 ePut b.Puts] (impl_same_Put_R put) (impl_same_Put_O put), put = true, (a.Val == b.Val) = false] (.cons (impl_same_Read_ok a.Reads b.Reads read hread) (.cons e1 (.cons (impl_same_Put_ok a.Puts b.Puts put hput) (.cons e2 (.cons e3 .nil))))) (by kernel_rfl)).is (congrArg impl_ExecSame_R e) (congrArg impl_ExecSame_O e))))) (fun e2 h =>
 (someD h fun e => (Fin.fin (cx := cx) (X := impl_ExecSame_X) (res := impl_ExecSame_R false) (outs := impl_ExecSame_O false) Try.func63 [[], [(4, { a := .call [.val [some 2] [], .val [some 2] []] false (impl_same_Read_R read) (impl_same_Read_O read) }), (5, { d := some true }), (10, { a := .call [.val [some 2] [], .val [some 2] []] false (impl_same_Put_R put) (impl_same_Put_O put) }), (12, { d := some false })]] [ACalls cx.P 71 [vsl 2 eRead a.Reads, vsl 2 eRead b.Reads] (impl_same_Read_R read) (impl_same_Read_O read), read = true, ACalls cx.P 72 [vsl 2 ePut a.Puts, vsl 2 ePut b.Puts] (impl_same_Put_R put) (impl_same_Put_O put), put = false] (.cons (impl_same_Read_ok a.Reads b.Reads read hread) (.cons e1 (.cons (impl_same_Put_ok a.Puts b.Puts put hput) (.cons e2 .nil)))) (by kernel_rfl)).is (congrArg impl_ExecSame_R e) (congrArg impl_ExecSame_O e)))))) (fun e1 h =>
 (someD h fun e => (Fin.fin (cx := cx) (X := impl_ExecSame_X) (res := impl_ExecSame_R false) (outs := impl_ExecSame_O false) Try.func63 [[], [(4, { a := .call [.val [some 2] [], .val [some 2] []] false (impl_same_Read_R read) (impl_same_Read_O read) }), (5, { d := some false })]] [ACalls cx.P 71 [vsl 2 eRead a.Reads, vsl 2 eRead b.Reads] (impl_same_Read_R read) (impl_same_Read_O read), read = false] (.cons (impl_same_Read_ok a.Reads b.Reads read hread) (.cons e1 .nil)) (by kernel_rfl)).is (congrArg impl_ExecSame_R e) (congrArg impl_ExecSame_O e)))))
theorem impl_ExecSame_ok (a : TRun) (b : TRun) (r : Bool) (h : impl_ExecSame a b = some r) : ACalls cx.P 63 [.agg (eRun a), .agg (eRun b)] (impl_ExecSame_R r) (impl_ExecSame_O r) :=
  ACalls.of (cx := cx) (X := impl_ExecSame_X) (c := impl_ExecSame_c) Try.func63 (by kernel_rfl) (by kernel_rfl) (by kernel_rfl) (impl_ExecSame_fin a b r h)

/-! ### impl_CertLike -/
noncomputable def impl_CertLike_c : Code := bodyOf Try.f40
noncomputable def impl_CertLike_X : Sig := { f := 40, fn := Try.f40, rms := [.val [] []], oms := [none, none] }
noncomputable def impl_CertLike_R (r : Bool) : V := .b r
noncomputable def impl_CertLike_O (r : Bool) : List (Option V) := [none, none]
noncomputable def impl_CertLike (a : TEntry) (b : TEntry) : Option Bool :=
  (bif (a.None == b.None) then
 (bif (([a.Req.Who, a.Req.Seq] : List Int) == [b.Req.Who, b.Req.Seq]) then
 ((impl_ExecSame a.Run b.Run).bind fun execSame =>
 some execSame)
 else
 some false)
 else
 some false)
theorem impl_CertLike_fin (a : TEntry) (b : TEntry) (r : Bool) (h : impl_CertLike a b = some r) : Fin cx impl_CertLike_X (impl_CertLike_R r) (impl_CertLike_O r) [.code impl_CertLike_c] (startS impl_CertLike_X [.agg (eEntry a), .agg (eEntry b)]) :=
  (condD h (fun e1 h =>
 (condD h (fun e2 h =>
 (bindD h fun execSame hexecSame h =>
 (someD h fun e => (Fin.fin (cx := cx) (X := impl_CertLike_X) (res := impl_CertLike_R execSame) (outs := impl_CertLike_O execSame) Try.func40 [[], [(5, { d := some true }), (12, { d := some true }), (17, { a := .call [.val [some 2, some 2, none, none] [], .val [some 2, some 2, none, none] []] false (impl_ExecSame_R execSame) (impl_ExecSame_O execSame) })]] [(a.None == b.None) = true, (([a.Req.Who, a.Req.Seq] : List Int) == [b.Req.Who, b.Req.Seq]) = true, ACalls cx.P 63 [.agg (eRun a.Run), .agg (eRun b.Run)] (impl_ExecSame_R execSame) (impl_ExecSame_O execSame)] (.cons e1 (.cons e2 (.cons (impl_ExecSame_ok a.Run b.Run execSame hexecSame) .nil))) (by kernel_rfl)).is (congrArg impl_CertLike_R e) (congrArg impl_CertLike_O e)))) (fun e2 h =>
 (someD h fun e => (Fin.fin (cx := cx) (X := impl_CertLike_X) (res := impl_CertLike_R false) (outs := impl_CertLike_O false) Try.func40 [[], [(5, { d := some true }), (12, { d := some false })]] [(a.None == b.None) = true, (([a.Req.Who, a.Req.Seq] : List Int) == [b.Req.Who, b.Req.Seq]) = false] (.cons e1 (.cons e2 .nil)) (by kernel_rfl)).is (congrArg impl_CertLike_R e) (congrArg impl_CertLike_O e))))) (fun e1 h =>
 (someD h fun e => (Fin.fin (cx := cx) (X := impl_CertLike_X) (res := impl_CertLike_R false) (outs := impl_CertLike_O false) Try.func40 [[], [(5, { d := some false })]] [(a.None == b.None) = false] (.cons e1 .nil) (by kernel_rfl)).is (congrArg impl_CertLike_R e) (congrArg impl_CertLike_O e))))
theorem impl_CertLike_ok (a : TEntry) (b : TEntry) (r : Bool) (h : impl_CertLike a b = some r) : ACalls cx.P 40 [.agg (eEntry a), .agg (eEntry b)] (impl_CertLike_R r) (impl_CertLike_O r) :=
  ACalls.of (cx := cx) (X := impl_CertLike_X) (c := impl_CertLike_c) Try.func40 (by kernel_rfl) (by kernel_rfl) (by kernel_rfl) (impl_CertLike_fin a b r h)

/-! ### impl_in -/
noncomputable def impl_in_c : Code := bodyOf Try.f14
noncomputable def impl_in_X : Sig := { f := 14, fn := Try.f14, rms := [.val [] []], oms := [none, none, none] }
noncomputable def impl_in_R (r : Bool) : V := .b r
noncomputable def impl_in_O (r : Bool) : List (Option V) := [none, none, none]
noncomputable def impl_in (n : Int) (low : Int) (high : Int) : Option Bool :=
  (bif decide (n ≥ low) then
 some (decide (n ≤ high))
 else
 some false)
theorem impl_in_fin (n : Int) (low : Int) (high : Int) (r : Bool) (h : impl_in n low high = some r) : Fin cx impl_in_X (impl_in_R r) (impl_in_O r) [.code impl_in_c] (startS impl_in_X [vi n, vi low, vi high]) :=
  (condD h (fun e1 h =>
 (someD h fun e => (Fin.fin (cx := cx) (X := impl_in_X) (res := impl_in_R (decide (n ≤ high))) (outs := impl_in_O (decide (n ≤ high))) Try.func14 [[], [(3, { d := some true })]] [decide (n ≥ low) = true] (.cons e1 .nil) (by kernel_rfl)).is (congrArg impl_in_R e) (congrArg impl_in_O e))) (fun e1 h =>
 (someD h fun e => (Fin.fin (cx := cx) (X := impl_in_X) (res := impl_in_R false) (outs := impl_in_O false) Try.func14 [[], [(3, { d := some false })]] [decide (n ≥ low) = false] (.cons e1 .nil) (by kernel_rfl)).is (congrArg impl_in_R e) (congrArg impl_in_O e))))
theorem impl_in_ok (n : Int) (low : Int) (high : Int) (r : Bool) (h : impl_in n low high = some r) : ACalls cx.P 14 [vi n, vi low, vi high] (impl_in_R r) (impl_in_O r) :=
  ACalls.of (cx := cx) (X := impl_in_X) (c := impl_in_c) Try.func14 (by kernel_rfl) (by kernel_rfl) (by kernel_rfl) (impl_in_fin n low high r h)

/-! ### impl_reqOk -/
noncomputable def impl_reqOk_c : Code := bodyOf Try.f41
noncomputable def impl_reqOk_X : Sig := { f := 41, fn := Try.f41, rms := [.val [] []], oms := [none] }
noncomputable def impl_reqOk_R (r : Bool) : V := .b r
noncomputable def impl_reqOk_O (r : Bool) : List (Option V) := [none]
noncomputable def impl_reqOk (q : TReq) : Option Bool :=
  ((impl_in q.Who 0 2).bind fun in_ =>
 (bif in_ then
 ((impl_in q.Seq 1 1000).bind fun in_1 =>
 some in_1)
 else
 some false))
theorem impl_reqOk_fin (q : TReq) (r : Bool) (h : impl_reqOk q = some r) : Fin cx impl_reqOk_X (impl_reqOk_R r) (impl_reqOk_O r) [.code impl_reqOk_c] (startS impl_reqOk_X [.agg (eReq q)]) :=
  (bindD h fun in_ hin_ h =>
 (condD h (fun e1 h =>
 (bindD h fun in_1 hin_1 h =>
 (someD h fun e => (Fin.fin (cx := cx) (X := impl_reqOk_X) (res := impl_reqOk_R in_1) (outs := impl_reqOk_O in_1) Try.func41 [[], [(2, { a := .call [.val [] [], .val [] [], .val [] []] false (impl_in_R in_) (impl_in_O in_) }), (3, { d := some true }), (6, { a := .call [.val [] [], .val [] [], .val [] []] false (impl_in_R in_1) (impl_in_O in_1) })]] [ACalls cx.P 14 [vi q.Who, vi 0, vi 2] (impl_in_R in_) (impl_in_O in_), in_ = true, ACalls cx.P 14 [vi q.Seq, vi 1, vi 1000] (impl_in_R in_1) (impl_in_O in_1)] (.cons (impl_in_ok q.Who 0 2 in_ hin_) (.cons e1 (.cons (impl_in_ok q.Seq 1 1000 in_1 hin_1) .nil))) (by kernel_rfl)).is (congrArg impl_reqOk_R e) (congrArg impl_reqOk_O e)))) (fun e1 h =>
 (someD h fun e => (Fin.fin (cx := cx) (X := impl_reqOk_X) (res := impl_reqOk_R false) (outs := impl_reqOk_O false) Try.func41 [[], [(2, { a := .call [.val [] [], .val [] [], .val [] []] false (impl_in_R in_) (impl_in_O in_) }), (3, { d := some false })]] [ACalls cx.P 14 [vi q.Who, vi 0, vi 2] (impl_in_R in_) (impl_in_O in_), in_ = false] (.cons (impl_in_ok q.Who 0 2 in_ hin_) (.cons e1 .nil)) (by kernel_rfl)).is (congrArg impl_reqOk_R e) (congrArg impl_reqOk_O e)))))
theorem impl_reqOk_ok (q : TReq) (r : Bool) (h : impl_reqOk q = some r) : ACalls cx.P 41 [.agg (eReq q)] (impl_reqOk_R r) (impl_reqOk_O r) :=
  ACalls.of (cx := cx) (X := impl_reqOk_X) (c := impl_reqOk_c) Try.func41 (by kernel_rfl) (by kernel_rfl) (by kernel_rfl) (impl_reqOk_fin q r h)

/-! ### impl_ExecOk -/
noncomputable def impl_ExecOk_c : Code := bodyOf Try.f42
noncomputable def impl_ExecOk_X : Sig := { f := 42, fn := Try.f42, rms := [.val [] []], oms := [none] }
noncomputable def impl_ExecOk_R (r : Bool) : V := .b r
noncomputable def impl_ExecOk_O (r : Bool) : List (Option V) := [none]
noncomputable def impl_ExecOk_k1 : List Item := posI 2000 2 [false] [.code impl_ExecOk_c]
noncomputable def impl_ExecOk_S1 (r_ : TRun) : St := ⟨(bs 1 (.ptr 1 0 0 :: (bs 98 []))), [some [], some [.var 36 [vsl 2 eRead r_.Reads, vsl 2 ePut r_.Puts, vi r_.Val, vi r_.Code]]]⟩
noncomputable def impl_ExecOk_k2 : List Item := posI 2000 5 [false, false] [.code impl_ExecOk_c]
noncomputable def impl_ExecOk_S2 (r_ : TRun) : St := ⟨(bs 1 (.ptr 1 0 0 :: (bs 2 (.ptr 2 0 0 :: (bs 95 []))))), [some [], some [.var 36 [vsl 2 eRead r_.Reads, vsl 2 ePut r_.Puts, vi r_.Val, vi r_.Code]], some [.arr 101 1 4 ((List.replicate 4 false).map eB)]]⟩
noncomputable def impl_ExecOk_k3 : List Item := posI 2000 7 [false, false, false] [.code impl_ExecOk_c]
noncomputable def impl_ExecOk_S3 : St := ⟨(bs 100 []), [some []]⟩
noncomputable def impl_ExecOk_k4 : Option Bool :=
  some true
theorem impl_ExecOk_k4_ok (r : Bool) (h : impl_ExecOk_k4 = some r) : Fin cx impl_ExecOk_X (impl_ExecOk_R r) (impl_ExecOk_O r) impl_ExecOk_k3 (impl_ExecOk_S3) :=
  (someD h fun e => (Fin.fin (cx := cx) (X := impl_ExecOk_X) (res := impl_ExecOk_R true) (outs := impl_ExecOk_O true) Try.func42 [[]] [] .nil (by kernel_rfl)).is (congrArg impl_ExecOk_R e) (congrArg impl_ExecOk_O e))
noncomputable def impl_ExecOk_k5 : List Item := posI 2000 6 [false, false] [.code impl_ExecOk_c]
noncomputable def impl_ExecOk_S4 (r_ : TRun) (put : List Bool) (v76 : Int) : St := ⟨(bs 4 (.ptr 1 0 0 :: (bs 69 (vsl 2 ePut r_.Puts :: (vi (r_.Puts.length : Int) :: (vi v76 :: (bs 23 []))))))), [some [], some [.arr 101 1 4 (put.map eB)]]⟩
noncomputable def impl_ExecOk_b1 (r_ : TRun) (put : List Bool) (v76 : Int) : Option (Stp Bool ((List Bool) × Int) Unit) :=
  (bif decide (v76 < (r_.Puts.length : Int)) then
 ((idx r_.Puts v76).bind fun put1 =>
 ((impl_in put1.Box 0 3).bind fun in_ =>
 (bif (!in_) then
 some (Stp.ret false)
 else
 ((idx put put1.Box).bind fun y =>
 (need (put1.Box < 4)
 ((bif y then
 some (Stp.ret false)
 else
 ((impl_in put1.Val (-1000000) 1000000).bind fun in_1 =>
 (bif (!in_1) then
 some (Stp.ret false)
 else
 (need (put1.Box < 4)
 (some (Stp.nxt (put.set put1.Box.toNat true, w64 (v76 + 1))))))))))))))
 else
 some (Stp.brk ()))
theorem impl_ExecOk_b1_ok (r_ : TRun) (res : V) (outs : List (Option V)) (x1 : Exc Bool Unit) (hb1 : ∀ s : Unit, x1 = .brk s → Fin cx impl_ExecOk_X res outs impl_ExecOk_k3 (impl_ExecOk_S3)) (hr1 : ∀ v : Bool, x1 = .ret v → (res = impl_ExecOk_R v ∧ outs = impl_ExecOk_O v)) (st1 : Stp Bool ((List Bool) × Int) Unit) (hc1 : Cont x1 (fun s : (List Bool) × Int => Fin cx impl_ExecOk_X res outs impl_ExecOk_k5 (impl_ExecOk_S4 r_ s.1 s.2)) st1) (put : List Bool) (v76 : Int) (h : impl_ExecOk_b1 r_ put v76 = some st1) : Fin cx impl_ExecOk_X res outs impl_ExecOk_k5 (impl_ExecOk_S4 r_ put v76) :=
  (condD h (fun e1 h =>
 (bindD h fun put1 hput1 h =>
 (bindD h fun in_ hin_ h =>
 (condD h (fun e2 h =>
 (retD h hc1 fun e => (Fin.fin (cx := cx) (X := impl_ExecOk_X) (res := impl_ExecOk_R false) (outs := impl_ExecOk_O false) Try.func42 [[(0, { d := some true })], [(0, { a := .row (ePut put1) })], [(2, { a := .call [.val [] [], .val [] [], .val [] []] false (impl_in_R in_) (impl_in_O in_) }), (4, { d := some true })], []] [decide (v76 < (r_.Puts.length : Int)) = true, (0 : Int) ≤ v76, v76 < ((r_.Puts.length : Nat) : Int), (r_.Puts.map ePut)[v76.toNat]? = some (ePut put1), ACalls cx.P 14 [vi put1.Box, vi 0, vi 3] (impl_in_R in_) (impl_in_O in_), (!in_) = true] (.cons e1 (.cons (idx0 hput1) (.cons (idx1 hput1) (.cons (map_idx hput1) (.cons (impl_in_ok put1.Box 0 3 in_ hin_) (.cons e2 .nil)))))) (by kernel_rfl)).is (hr1 _ e).1 (hr1 _ e).2)) (fun e2 h =>
 (bindD h fun y hy h =>
 (needD h fun e3 h =>
 (condD h (fun e4 h =>
 (retD h hc1 fun e => (Fin.fin (cx := cx) (X := impl_ExecOk_X) (res := impl_ExecOk_R false) (outs := impl_ExecOk_O false) Try.func42 [[(0, { d := some true })], [(0, { a := .row (ePut put1) })], [(2, { a := .call [.val [] [], .val [] [], .val [] []] false (impl_in_R in_) (impl_in_O in_) }), (4, { d := some false }), (8, { a := .row (eB y) }), (10, { d := some true })], []] [decide (v76 < (r_.Puts.length : Int)) = true, (0 : Int) ≤ v76, v76 < ((r_.Puts.length : Nat) : Int), (r_.Puts.map ePut)[v76.toNat]? = some (ePut put1), ACalls cx.P 14 [vi put1.Box, vi 0, vi 3] (impl_in_R in_) (impl_in_O in_), (!in_) = false, (0 : Int) ≤ put1.Box, put1.Box < ((4 : Nat) : Int), (put.map eB)[put1.Box.toNat]? = some (eB y), y = true] (.cons e1 (.cons (idx0 hput1) (.cons (idx1 hput1) (.cons (map_idx hput1) (.cons (impl_in_ok put1.Box 0 3 in_ hin_) (.cons e2 (.cons (idx0 hy) (.cons e3 (.cons (map_idx hy) (.cons e4 .nil)))))))))) (by kernel_rfl)).is (hr1 _ e).1 (hr1 _ e).2)) (fun e4 h =>
 (bindD h fun in_1 hin_1 h =>
 (condD h (fun e5 h =>
 (retD h hc1 fun e => (Fin.fin (cx := cx) (X := impl_ExecOk_X) (res := impl_ExecOk_R false) (outs := impl_ExecOk_O false) Try.func42 [[(0, { d := some true })], [(0, { a := .row (ePut put1) })], [(2, { a := .call [.val [] [], .val [] [], .val [] []] false (impl_in_R in_) (impl_in_O in_) }), (4, { d := some false }), (8, { a := .row (eB y) }), (10, { d := some false }), (13, { a := .call [.val [] [], .val [] [], .val [] []] false (impl_in_R in_1) (impl_in_O in_1) }), (15, { d := some true })], []] [decide (v76 < (r_.Puts.length : Int)) = true, (0 : Int) ≤ v76, v76 < ((r_.Puts.length : Nat) : Int), (r_.Puts.map ePut)[v76.toNat]? = some (ePut put1), ACalls cx.P 14 [vi put1.Box, vi 0, vi 3] (impl_in_R in_) (impl_in_O in_), (!in_) = false, (0 : Int) ≤ put1.Box, put1.Box < ((4 : Nat) : Int), (put.map eB)[put1.Box.toNat]? = some (eB y), y = false, ACalls cx.P 14 [vi put1.Val, vi (-1000000), vi 1000000] (impl_in_R in_1) (impl_in_O in_1), (!in_1) = true] (.cons e1 (.cons (idx0 hput1) (.cons (idx1 hput1) (.cons (map_idx hput1) (.cons (impl_in_ok put1.Box 0 3 in_ hin_) (.cons e2 (.cons (idx0 hy) (.cons e3 (.cons (map_idx hy) (.cons e4 (.cons (impl_in_ok put1.Val (-1000000) 1000000 in_1 hin_1) (.cons e5 .nil)))))))))))) (by kernel_rfl)).is (hr1 _ e).1 (hr1 _ e).2)) (fun e5 h =>
 (needD h fun e6 h =>
 (nxtD h hc1 fun hI => (Fin.seg [[(0, { d := some true })], [(0, { a := .row (ePut put1) })], [(2, { a := .call [.val [] [], .val [] [], .val [] []] false (impl_in_R in_) (impl_in_O in_) }), (4, { d := some false }), (8, { a := .row (eB y) }), (10, { d := some false }), (13, { a := .call [.val [] [], .val [] [], .val [] []] false (impl_in_R in_1) (impl_in_O in_1) }), (15, { d := some false })], [(3, { a := .rowck (eB y) [], e := some (.arr 101 1 4 ((put.set put1.Box.toNat true).map eB)) })], []] [] [4, 74, 75, 76] [(1, 0)] [decide (v76 < (r_.Puts.length : Int)) = true, (0 : Int) ≤ v76, v76 < ((r_.Puts.length : Nat) : Int), (r_.Puts.map ePut)[v76.toNat]? = some (ePut put1), ACalls cx.P 14 [vi put1.Box, vi 0, vi 3] (impl_in_R in_) (impl_in_O in_), (!in_) = false, (0 : Int) ≤ put1.Box, put1.Box < ((4 : Nat) : Int), (put.map eB)[put1.Box.toNat]? = some (eB y), y = false, ACalls cx.P 14 [vi put1.Val, vi (-1000000), vi 1000000] (impl_in_R in_1) (impl_in_O in_1), (!in_1) = false, (0 : Int) ≤ put1.Box, put1.Box < ((4 : Nat) : Int), Ent.arr 101 1 4 ((put.map eB).set (put1.Box.toNat) [.b true]) = Ent.arr 101 1 4 ((put.set put1.Box.toNat true).map eB), (put.map eB)[put1.Box.toNat]? = some (eB y)] (.cons e1 (.cons (idx0 hput1) (.cons (idx1 hput1) (.cons (map_idx hput1) (.cons (impl_in_ok put1.Box 0 3 in_ hin_) (.cons e2 (.cons (idx0 hy) (.cons e3 (.cons (map_idx hy) (.cons e4 (.cons (impl_in_ok put1.Val (-1000000) 1000000 in_1 hin_1) (.cons e5 (.cons (idx0 hy) (.cons e6 (.cons (arr_set rfl) (.cons (map_idx hy) .nil)))))))))))))))) hI (by kernel_rfl)))))))))))))))) (fun e1 h =>
 (brkD h hc1 fun e => (Fin.seg [[(0, { d := some false })]] [] [] [] [decide (v76 < (r_.Puts.length : Int)) = false] (.cons e1 .nil) (hb1 _ e) (by kernel_rfl)))))
theorem impl_ExecOk_b1_loop (r_ : TRun) (res : V) (outs : List (Option V)) (x1 : Exc Bool Unit) (hb1 : ∀ s : Unit, x1 = .brk s → Fin cx impl_ExecOk_X res outs impl_ExecOk_k3 (impl_ExecOk_S3)) (hr1 : ∀ v : Bool, x1 = .ret v → (res = impl_ExecOk_R v ∧ outs = impl_ExecOk_O v)) (s : (List Bool) × Int) (h : loop (fun s : (List Bool) × Int => impl_ExecOk_b1 r_ s.1 s.2) s = some x1) : Fin cx impl_ExecOk_X res outs impl_ExecOk_k5 (impl_ExecOk_S4 r_ s.1 s.2) :=
  loopD (I := fun s : (List Bool) × Int => Fin cx impl_ExecOk_X res outs impl_ExecOk_k5 (impl_ExecOk_S4 r_ s.1 s.2)) h fun s st h hc => impl_ExecOk_b1_ok r_ res outs x1 hb1 hr1 st hc s.1 s.2 h
noncomputable def impl_ExecOk_k6 (r_ : TRun) : Option Bool :=
  ((loop (fun s : (List Bool) × Int => impl_ExecOk_b1 r_ s.1 s.2) (List.replicate 4 false, 0)).bind fun x => x.go (fun r => some r) fun s => impl_ExecOk_k4)
theorem impl_ExecOk_k6_ok (r_ : TRun) (r : Bool) (h : impl_ExecOk_k6 r_ = some r) : Fin cx impl_ExecOk_X (impl_ExecOk_R r) (impl_ExecOk_O r) impl_ExecOk_k2 (impl_ExecOk_S2 r_) :=
  (loopJ h fun x hl hr hb => (Fin.seg [[]] [] [4, 74, 75, 76] [(2, 0)] [] .nil (impl_ExecOk_b1_loop r_ _ _ x (fun s e => impl_ExecOk_k4_ok r (hb s e)) (fun v e => ⟨congrArg impl_ExecOk_R (Option.some.inj (hr v e)).symm, congrArg impl_ExecOk_O (Option.some.inj (hr v e)).symm⟩) (List.replicate 4 false, 0) hl) (by kernel_rfl)))
noncomputable def impl_ExecOk_k7 : List Item := posI 2000 4 [false] [.code impl_ExecOk_c]
noncomputable def impl_ExecOk_S5 (r_ : TRun) (read : List Bool) (v49 : Int) : St := ⟨(bs 1 (.ptr 1 0 0 :: (bs 1 (.ptr 2 0 0 :: (.ptr 3 0 0 :: (bs 42 (vsl 2 eRead r_.Reads :: (vi (r_.Reads.length : Int) :: (vi v49 :: (bs 50 [])))))))))), [some [], some [.var 36 [vsl 2 eRead r_.Reads, vsl 2 ePut r_.Puts, vi r_.Val, vi r_.Code]], some [.arr 101 1 4 (read.map eB)], some [.arr 101 1 4 ((List.replicate 4 false).map eB)]]⟩
noncomputable def impl_ExecOk_b2 (r_ : TRun) (read : List Bool) (v49 : Int) : Option (Stp Bool ((List Bool) × Int) Unit) :=
  (bif decide (v49 < (r_.Reads.length : Int)) then
 ((idx r_.Reads v49).bind fun read1 =>
 ((impl_in read1.Box 0 3).bind fun in_2 =>
 (bif (!in_2) then
 some (Stp.ret false)
 else
 ((idx read read1.Box).bind fun y1 =>
 (need (read1.Box < 4)
 ((bif y1 then
 some (Stp.ret false)
 else
 ((impl_in read1.Ver 0 1000000).bind fun in_3 =>
 (bif (!in_3) then
 some (Stp.ret false)
 else
 (need (read1.Box < 4)
 (some (Stp.nxt (read.set read1.Box.toNat true, w64 (v49 + 1))))))))))))))
 else
 some (Stp.brk ()))
theorem impl_ExecOk_b2_ok (r_ : TRun) (res : V) (outs : List (Option V)) (x1 : Exc Bool Unit) (hb1 : ∀ s : Unit, x1 = .brk s → Fin cx impl_ExecOk_X res outs impl_ExecOk_k2 (impl_ExecOk_S2 r_)) (hr1 : ∀ v : Bool, x1 = .ret v → (res = impl_ExecOk_R v ∧ outs = impl_ExecOk_O v)) (st1 : Stp Bool ((List Bool) × Int) Unit) (hc1 : Cont x1 (fun s : (List Bool) × Int => Fin cx impl_ExecOk_X res outs impl_ExecOk_k7 (impl_ExecOk_S5 r_ s.1 s.2)) st1) (read : List Bool) (v49 : Int) (h : impl_ExecOk_b2 r_ read v49 = some st1) : Fin cx impl_ExecOk_X res outs impl_ExecOk_k7 (impl_ExecOk_S5 r_ read v49) :=
  (condD h (fun e7 h =>
 (bindD h fun read1 hread1 h =>
 (bindD h fun in_2 hin_2 h =>
 (condD h (fun e8 h =>
 (retD h hc1 fun e => (Fin.fin (cx := cx) (X := impl_ExecOk_X) (res := impl_ExecOk_R false) (outs := impl_ExecOk_O false) Try.func42 [[(0, { d := some true })], [(0, { a := .row (eRead read1) })], [(2, { a := .call [.val [] [], .val [] [], .val [] []] false (impl_in_R in_2) (impl_in_O in_2) }), (4, { d := some true })], []] [decide (v49 < (r_.Reads.length : Int)) = true, (0 : Int) ≤ v49, v49 < ((r_.Reads.length : Nat) : Int), (r_.Reads.map eRead)[v49.toNat]? = some (eRead read1), ACalls cx.P 14 [vi read1.Box, vi 0, vi 3] (impl_in_R in_2) (impl_in_O in_2), (!in_2) = true] (.cons e7 (.cons (idx0 hread1) (.cons (idx1 hread1) (.cons (map_idx hread1) (.cons (impl_in_ok read1.Box 0 3 in_2 hin_2) (.cons e8 .nil)))))) (by kernel_rfl)).is (hr1 _ e).1 (hr1 _ e).2)) (fun e8 h =>
 (bindD h fun y1 hy1 h =>
 (needD h fun e9 h =>
 (condD h (fun e10 h =>
 (retD h hc1 fun e => (Fin.fin (cx := cx) (X := impl_ExecOk_X) (res := impl_ExecOk_R false) (outs := impl_ExecOk_O false) Try.func42 [[(0, { d := some true })], [(0, { a := .row (eRead read1) })], [(2, { a := .call [.val [] [], .val [] [], .val [] []] false (impl_in_R in_2) (impl_in_O in_2) }), (4, { d := some false }), (8, { a := .row (eB y1) }), (10, { d := some true })], []] [decide (v49 < (r_.Reads.length : Int)) = true, (0 : Int) ≤ v49, v49 < ((r_.Reads.length : Nat) : Int), (r_.Reads.map eRead)[v49.toNat]? = some (eRead read1), ACalls cx.P 14 [vi read1.Box, vi 0, vi 3] (impl_in_R in_2) (impl_in_O in_2), (!in_2) = false, (0 : Int) ≤ read1.Box, read1.Box < ((4 : Nat) : Int), (read.map eB)[read1.Box.toNat]? = some (eB y1), y1 = true] (.cons e7 (.cons (idx0 hread1) (.cons (idx1 hread1) (.cons (map_idx hread1) (.cons (impl_in_ok read1.Box 0 3 in_2 hin_2) (.cons e8 (.cons (idx0 hy1) (.cons e9 (.cons (map_idx hy1) (.cons e10 .nil)))))))))) (by kernel_rfl)).is (hr1 _ e).1 (hr1 _ e).2)) (fun e10 h =>
 (bindD h fun in_3 hin_3 h =>
 (condD h (fun e11 h =>
 (retD h hc1 fun e => (Fin.fin (cx := cx) (X := impl_ExecOk_X) (res := impl_ExecOk_R false) (outs := impl_ExecOk_O false) Try.func42 [[(0, { d := some true })], [(0, { a := .row (eRead read1) })], [(2, { a := .call [.val [] [], .val [] [], .val [] []] false (impl_in_R in_2) (impl_in_O in_2) }), (4, { d := some false }), (8, { a := .row (eB y1) }), (10, { d := some false }), (13, { a := .call [.val [] [], .val [] [], .val [] []] false (impl_in_R in_3) (impl_in_O in_3) }), (15, { d := some true })], []] [decide (v49 < (r_.Reads.length : Int)) = true, (0 : Int) ≤ v49, v49 < ((r_.Reads.length : Nat) : Int), (r_.Reads.map eRead)[v49.toNat]? = some (eRead read1), ACalls cx.P 14 [vi read1.Box, vi 0, vi 3] (impl_in_R in_2) (impl_in_O in_2), (!in_2) = false, (0 : Int) ≤ read1.Box, read1.Box < ((4 : Nat) : Int), (read.map eB)[read1.Box.toNat]? = some (eB y1), y1 = false, ACalls cx.P 14 [vi read1.Ver, vi 0, vi 1000000] (impl_in_R in_3) (impl_in_O in_3), (!in_3) = true] (.cons e7 (.cons (idx0 hread1) (.cons (idx1 hread1) (.cons (map_idx hread1) (.cons (impl_in_ok read1.Box 0 3 in_2 hin_2) (.cons e8 (.cons (idx0 hy1) (.cons e9 (.cons (map_idx hy1) (.cons e10 (.cons (impl_in_ok read1.Ver 0 1000000 in_3 hin_3) (.cons e11 .nil)))))))))))) (by kernel_rfl)).is (hr1 _ e).1 (hr1 _ e).2)) (fun e11 h =>
 (needD h fun e12 h =>
 (nxtD h hc1 fun hI => (Fin.seg [[(0, { d := some true })], [(0, { a := .row (eRead read1) })], [(2, { a := .call [.val [] [], .val [] [], .val [] []] false (impl_in_R in_2) (impl_in_O in_2) }), (4, { d := some false }), (8, { a := .row (eB y1) }), (10, { d := some false }), (13, { a := .call [.val [] [], .val [] [], .val [] []] false (impl_in_R in_3) (impl_in_O in_3) }), (15, { d := some false })], [(3, { a := .rowck (eB y1) [], e := some (.arr 101 1 4 ((read.set read1.Box.toNat true).map eB)) })], []] [] [1, 3, 4, 47, 48, 49] [(1, 0), (2, 0), (3, 0)] [decide (v49 < (r_.Reads.length : Int)) = true, (0 : Int) ≤ v49, v49 < ((r_.Reads.length : Nat) : Int), (r_.Reads.map eRead)[v49.toNat]? = some (eRead read1), ACalls cx.P 14 [vi read1.Box, vi 0, vi 3] (impl_in_R in_2) (impl_in_O in_2), (!in_2) = false, (0 : Int) ≤ read1.Box, read1.Box < ((4 : Nat) : Int), (read.map eB)[read1.Box.toNat]? = some (eB y1), y1 = false, ACalls cx.P 14 [vi read1.Ver, vi 0, vi 1000000] (impl_in_R in_3) (impl_in_O in_3), (!in_3) = false, (0 : Int) ≤ read1.Box, read1.Box < ((4 : Nat) : Int), Ent.arr 101 1 4 ((read.map eB).set (read1.Box.toNat) [.b true]) = Ent.arr 101 1 4 ((read.set read1.Box.toNat true).map eB), (read.map eB)[read1.Box.toNat]? = some (eB y1)] (.cons e7 (.cons (idx0 hread1) (.cons (idx1 hread1) (.cons (map_idx hread1) (.cons (impl_in_ok read1.Box 0 3 in_2 hin_2) (.cons e8 (.cons (idx0 hy1) (.cons e9 (.cons (map_idx hy1) (.cons e10 (.cons (impl_in_ok read1.Ver 0 1000000 in_3 hin_3) (.cons e11 (.cons (idx0 hy1) (.cons e12 (.cons (arr_set rfl) (.cons (map_idx hy1) .nil)))))))))))))))) hI (by kernel_rfl)))))))))))))))) (fun e7 h =>
 (brkD h hc1 fun e => (Fin.seg [[(0, { d := some false })]] [] [1, 4] [(1, 0), (3, 0)] [decide (v49 < (r_.Reads.length : Int)) = false] (.cons e7 .nil) (hb1 _ e) (by kernel_rfl)))))
theorem impl_ExecOk_b2_loop (r_ : TRun) (res : V) (outs : List (Option V)) (x1 : Exc Bool Unit) (hb1 : ∀ s : Unit, x1 = .brk s → Fin cx impl_ExecOk_X res outs impl_ExecOk_k2 (impl_ExecOk_S2 r_)) (hr1 : ∀ v : Bool, x1 = .ret v → (res = impl_ExecOk_R v ∧ outs = impl_ExecOk_O v)) (s : (List Bool) × Int) (h : loop (fun s : (List Bool) × Int => impl_ExecOk_b2 r_ s.1 s.2) s = some x1) : Fin cx impl_ExecOk_X res outs impl_ExecOk_k7 (impl_ExecOk_S5 r_ s.1 s.2) :=
  loopD (I := fun s : (List Bool) × Int => Fin cx impl_ExecOk_X res outs impl_ExecOk_k7 (impl_ExecOk_S5 r_ s.1 s.2)) h fun s st h hc => impl_ExecOk_b2_ok r_ res outs x1 hb1 hr1 st hc s.1 s.2 h
noncomputable def impl_ExecOk_j1 (r_ : TRun) : Option Bool :=
  ((loop (fun s : (List Bool) × Int => impl_ExecOk_b2 r_ s.1 s.2) (List.replicate 4 false, 0)).bind fun x => x.go (fun r => some r) fun s => impl_ExecOk_k6 r_)
theorem impl_ExecOk_j1_ok (r_ : TRun) (r : Bool) (h : impl_ExecOk_j1 r_ = some r) : Fin cx impl_ExecOk_X (impl_ExecOk_R r) (impl_ExecOk_O r) impl_ExecOk_k1 (impl_ExecOk_S1 r_) :=
  (loopJ h fun x hl hr hb => (Fin.seg [[], []] [] [1, 3, 4, 47, 48, 49] [(1, 0), (2, 0), (3, 0)] [(List.replicate 4 ([.b false] : List V)).flatten = [.b false, .b false, .b false, .b false] ∧ ([.b false] : List V).length = 1, (List.replicate 4 ([.b false] : List V)).flatten = [.b false, .b false, .b false, .b false] ∧ ([.b false] : List V).length = 1] (.cons ⟨rfl, rfl⟩ (.cons ⟨rfl, rfl⟩ .nil)) (impl_ExecOk_b2_loop r_ _ _ x (fun s e => impl_ExecOk_k6_ok r_ r (hb s e)) (fun v e => ⟨congrArg impl_ExecOk_R (Option.some.inj (hr v e)).symm, congrArg impl_ExecOk_O (Option.some.inj (hr v e)).symm⟩) (List.replicate 4 false, 0) hl) (by kernel_rfl)))
noncomputable def impl_ExecOk (r_ : TRun) : Option Bool :=
  ((((impl_in r_.Code 0 3).bind fun in_4 =>
 (bif (!in_4) then
 some (Exc.ret false)
 else
 ((impl_in r_.Val (-1000000) 1000000).bind fun in_5 =>
 (bif (!in_5) then
 some (Exc.ret false)
 else
 (bif (r_.Code != 0) then
 (bif (r_.Val != 0) then
 some (Exc.ret false)
 else
 (bif decide ((r_.Puts.length : Int) > 0) then
 some (Exc.ret false)
 else
 (bif (r_.Code == 3) then
 (bif decide ((r_.Reads.length : Int) > 0) then
 some (Exc.ret false)
 else
 some (Exc.brk ()))
 else
 some (Exc.brk ()))))
 else
 (bif (r_.Code == 3) then
 (bif decide ((r_.Reads.length : Int) > 0) then
 some (Exc.ret false)
 else
 some (Exc.brk ()))
 else
 some (Exc.brk ()))))))) : Option (Exc Bool Unit)).bind fun x => x.go some fun j => impl_ExecOk_j1 r_)
theorem impl_ExecOk_fin (r_ : TRun) (r : Bool) (h : impl_ExecOk r_ = some r) : Fin cx impl_ExecOk_X (impl_ExecOk_R r) (impl_ExecOk_O r) [.code impl_ExecOk_c] (startS impl_ExecOk_X [.agg (eRun r_)]) :=
  (joinD (I := fun j : Unit => Fin cx impl_ExecOk_X (impl_ExecOk_R r) (impl_ExecOk_O r) impl_ExecOk_k1 (impl_ExecOk_S1 r_)) h (fun j h => impl_ExecOk_j1_ok r_ r h) (fun x1 h hc1 =>
  (bindD h fun in_4 hin_4 h =>
 (condD h (fun e13 h =>
 (jretD h hc1 fun h => (someD h fun e => (Fin.fin (cx := cx) (X := impl_ExecOk_X) (res := impl_ExecOk_R false) (outs := impl_ExecOk_O false) Try.func42 [[], [(2, { a := .call [.val [] [], .val [] [], .val [] []] false (impl_in_R in_4) (impl_in_O in_4) }), (4, { d := some true })], []] [ACalls cx.P 14 [vi r_.Code, vi 0, vi 3] (impl_in_R in_4) (impl_in_O in_4), (!in_4) = true] (.cons (impl_in_ok r_.Code 0 3 in_4 hin_4) (.cons e13 .nil)) (by kernel_rfl)).is (congrArg impl_ExecOk_R e) (congrArg impl_ExecOk_O e)))) (fun e13 h =>
 (bindD h fun in_5 hin_5 h =>
 (condD h (fun e14 h =>
 (jretD h hc1 fun h => (someD h fun e => (Fin.fin (cx := cx) (X := impl_ExecOk_X) (res := impl_ExecOk_R false) (outs := impl_ExecOk_O false) Try.func42 [[], [(2, { a := .call [.val [] [], .val [] [], .val [] []] false (impl_in_R in_4) (impl_in_O in_4) }), (4, { d := some false }), (7, { a := .call [.val [] [], .val [] [], .val [] []] false (impl_in_R in_5) (impl_in_O in_5) }), (10, { d := some true })], []] [ACalls cx.P 14 [vi r_.Code, vi 0, vi 3] (impl_in_R in_4) (impl_in_O in_4), (!in_4) = false, ACalls cx.P 14 [vi r_.Val, vi (-1000000), vi 1000000] (impl_in_R in_5) (impl_in_O in_5), (!in_5) = true] (.cons (impl_in_ok r_.Code 0 3 in_4 hin_4) (.cons e13 (.cons (impl_in_ok r_.Val (-1000000) 1000000 in_5 hin_5) (.cons e14 .nil)))) (by kernel_rfl)).is (congrArg impl_ExecOk_R e) (congrArg impl_ExecOk_O e)))) (fun e14 h =>
 (condD h (fun e15 h =>
 (condD h (fun e16 h =>
 (jretD h hc1 fun h => (someD h fun e => (Fin.fin (cx := cx) (X := impl_ExecOk_X) (res := impl_ExecOk_R false) (outs := impl_ExecOk_O false) Try.func42 [[], [(2, { a := .call [.val [] [], .val [] [], .val [] []] false (impl_in_R in_4) (impl_in_O in_4) }), (4, { d := some false }), (7, { a := .call [.val [] [], .val [] [], .val [] []] false (impl_in_R in_5) (impl_in_O in_5) }), (10, { d := some false }), (14, { d := some true }), (18, { d := some true })], []] [ACalls cx.P 14 [vi r_.Code, vi 0, vi 3] (impl_in_R in_4) (impl_in_O in_4), (!in_4) = false, ACalls cx.P 14 [vi r_.Val, vi (-1000000), vi 1000000] (impl_in_R in_5) (impl_in_O in_5), (!in_5) = false, (r_.Code != 0) = true, (r_.Val != 0) = true] (.cons (impl_in_ok r_.Code 0 3 in_4 hin_4) (.cons e13 (.cons (impl_in_ok r_.Val (-1000000) 1000000 in_5 hin_5) (.cons e14 (.cons e15 (.cons e16 .nil)))))) (by kernel_rfl)).is (congrArg impl_ExecOk_R e) (congrArg impl_ExecOk_O e)))) (fun e16 h =>
 (condD h (fun e17 h =>
 (jretD h hc1 fun h => (someD h fun e => (Fin.fin (cx := cx) (X := impl_ExecOk_X) (res := impl_ExecOk_R false) (outs := impl_ExecOk_O false) Try.func42 [[], [(2, { a := .call [.val [] [], .val [] [], .val [] []] false (impl_in_R in_4) (impl_in_O in_4) }), (4, { d := some false }), (7, { a := .call [.val [] [], .val [] [], .val [] []] false (impl_in_R in_5) (impl_in_O in_5) }), (10, { d := some false }), (14, { d := some true }), (18, { d := some false }), (26, { d := some true })], []] [ACalls cx.P 14 [vi r_.Code, vi 0, vi 3] (impl_in_R in_4) (impl_in_O in_4), (!in_4) = false, ACalls cx.P 14 [vi r_.Val, vi (-1000000), vi 1000000] (impl_in_R in_5) (impl_in_O in_5), (!in_5) = false, (r_.Code != 0) = true, (r_.Val != 0) = false, decide ((r_.Puts.length : Int) > 0) = true] (.cons (impl_in_ok r_.Code 0 3 in_4 hin_4) (.cons e13 (.cons (impl_in_ok r_.Val (-1000000) 1000000 in_5 hin_5) (.cons e14 (.cons e15 (.cons e16 (.cons e17 .nil))))))) (by kernel_rfl)).is (congrArg impl_ExecOk_R e) (congrArg impl_ExecOk_O e)))) (fun e17 h =>
 (condD h (fun e18 h =>
 (condD h (fun e19 h =>
 (jretD h hc1 fun h => (someD h fun e => (Fin.fin (cx := cx) (X := impl_ExecOk_X) (res := impl_ExecOk_R false) (outs := impl_ExecOk_O false) Try.func42 [[], [(2, { a := .call [.val [] [], .val [] [], .val [] []] false (impl_in_R in_4) (impl_in_O in_4) }), (4, { d := some false }), (7, { a := .call [.val [] [], .val [] [], .val [] []] false (impl_in_R in_5) (impl_in_O in_5) }), (10, { d := some false }), (14, { d := some true }), (18, { d := some false }), (26, { d := some false }), (30, { d := some true }), (36, { d := some true })], []] [ACalls cx.P 14 [vi r_.Code, vi 0, vi 3] (impl_in_R in_4) (impl_in_O in_4), (!in_4) = false, ACalls cx.P 14 [vi r_.Val, vi (-1000000), vi 1000000] (impl_in_R in_5) (impl_in_O in_5), (!in_5) = false, (r_.Code != 0) = true, (r_.Val != 0) = false, decide ((r_.Puts.length : Int) > 0) = false, (r_.Code == 3) = true, decide ((r_.Reads.length : Int) > 0) = true] (.cons (impl_in_ok r_.Code 0 3 in_4 hin_4) (.cons e13 (.cons (impl_in_ok r_.Val (-1000000) 1000000 in_5 hin_5) (.cons e14 (.cons e15 (.cons e16 (.cons e17 (.cons e18 (.cons e19 .nil))))))))) (by kernel_rfl)).is (congrArg impl_ExecOk_R e) (congrArg impl_ExecOk_O e)))) (fun e19 h =>
 (jbrkD h hc1 fun hI => (Fin.seg [[], [(2, { a := .call [.val [] [], .val [] [], .val [] []] false (impl_in_R in_4) (impl_in_O in_4) }), (4, { d := some false }), (7, { a := .call [.val [] [], .val [] [], .val [] []] false (impl_in_R in_5) (impl_in_O in_5) }), (10, { d := some false }), (14, { d := some true }), (18, { d := some false }), (26, { d := some false }), (30, { d := some true }), (36, { d := some false })]] [] [1] [(1, 0)] [ACalls cx.P 14 [vi r_.Code, vi 0, vi 3] (impl_in_R in_4) (impl_in_O in_4), (!in_4) = false, ACalls cx.P 14 [vi r_.Val, vi (-1000000), vi 1000000] (impl_in_R in_5) (impl_in_O in_5), (!in_5) = false, (r_.Code != 0) = true, (r_.Val != 0) = false, decide ((r_.Puts.length : Int) > 0) = false, (r_.Code == 3) = true, decide ((r_.Reads.length : Int) > 0) = false] (.cons (impl_in_ok r_.Code 0 3 in_4 hin_4) (.cons e13 (.cons (impl_in_ok r_.Val (-1000000) 1000000 in_5 hin_5) (.cons e14 (.cons e15 (.cons e16 (.cons e17 (.cons e18 (.cons e19 .nil))))))))) hI (by kernel_rfl)))))) (fun e18 h =>
 (jbrkD h hc1 fun hI => (Fin.seg [[], [(2, { a := .call [.val [] [], .val [] [], .val [] []] false (impl_in_R in_4) (impl_in_O in_4) }), (4, { d := some false }), (7, { a := .call [.val [] [], .val [] [], .val [] []] false (impl_in_R in_5) (impl_in_O in_5) }), (10, { d := some false }), (14, { d := some true }), (18, { d := some false }), (26, { d := some false }), (30, { d := some false })]] [] [1] [(1, 0)] [ACalls cx.P 14 [vi r_.Code, vi 0, vi 3] (impl_in_R in_4) (impl_in_O in_4), (!in_4) = false, ACalls cx.P 14 [vi r_.Val, vi (-1000000), vi 1000000] (impl_in_R in_5) (impl_in_O in_5), (!in_5) = false, (r_.Code != 0) = true, (r_.Val != 0) = false, decide ((r_.Puts.length : Int) > 0) = false, (r_.Code == 3) = false] (.cons (impl_in_ok r_.Code 0 3 in_4 hin_4) (.cons e13 (.cons (impl_in_ok r_.Val (-1000000) 1000000 in_5 hin_5) (.cons e14 (.cons e15 (.cons e16 (.cons e17 (.cons e18 .nil)))))))) hI (by kernel_rfl)))))))))) (fun e15 h =>
 (condD h (fun e20 h =>
 (condD h (fun e21 h =>
 (jretD h hc1 fun h => (someD h fun e => (Fin.fin (cx := cx) (X := impl_ExecOk_X) (res := impl_ExecOk_R false) (outs := impl_ExecOk_O false) Try.func42 [[], [(2, { a := .call [.val [] [], .val [] [], .val [] []] false (impl_in_R in_4) (impl_in_O in_4) }), (4, { d := some false }), (7, { a := .call [.val [] [], .val [] [], .val [] []] false (impl_in_R in_5) (impl_in_O in_5) }), (10, { d := some false }), (14, { d := some false }), (30, { d := some true }), (36, { d := some true })], []] [ACalls cx.P 14 [vi r_.Code, vi 0, vi 3] (impl_in_R in_4) (impl_in_O in_4), (!in_4) = false, ACalls cx.P 14 [vi r_.Val, vi (-1000000), vi 1000000] (impl_in_R in_5) (impl_in_O in_5), (!in_5) = false, (r_.Code != 0) = false, (r_.Code == 3) = true, decide ((r_.Reads.length : Int) > 0) = true] (.cons (impl_in_ok r_.Code 0 3 in_4 hin_4) (.cons e13 (.cons (impl_in_ok r_.Val (-1000000) 1000000 in_5 hin_5) (.cons e14 (.cons e15 (.cons e20 (.cons e21 .nil))))))) (by kernel_rfl)).is (congrArg impl_ExecOk_R e) (congrArg impl_ExecOk_O e)))) (fun e21 h =>
 (jbrkD h hc1 fun hI => (Fin.seg [[], [(2, { a := .call [.val [] [], .val [] [], .val [] []] false (impl_in_R in_4) (impl_in_O in_4) }), (4, { d := some false }), (7, { a := .call [.val [] [], .val [] [], .val [] []] false (impl_in_R in_5) (impl_in_O in_5) }), (10, { d := some false }), (14, { d := some false }), (30, { d := some true }), (36, { d := some false })]] [] [1] [(1, 0)] [ACalls cx.P 14 [vi r_.Code, vi 0, vi 3] (impl_in_R in_4) (impl_in_O in_4), (!in_4) = false, ACalls cx.P 14 [vi r_.Val, vi (-1000000), vi 1000000] (impl_in_R in_5) (impl_in_O in_5), (!in_5) = false, (r_.Code != 0) = false, (r_.Code == 3) = true, decide ((r_.Reads.length : Int) > 0) = false] (.cons (impl_in_ok r_.Code 0 3 in_4 hin_4) (.cons e13 (.cons (impl_in_ok r_.Val (-1000000) 1000000 in_5 hin_5) (.cons e14 (.cons e15 (.cons e20 (.cons e21 .nil))))))) hI (by kernel_rfl)))))) (fun e20 h =>
 (jbrkD h hc1 fun hI => (Fin.seg [[], [(2, { a := .call [.val [] [], .val [] [], .val [] []] false (impl_in_R in_4) (impl_in_O in_4) }), (4, { d := some false }), (7, { a := .call [.val [] [], .val [] [], .val [] []] false (impl_in_R in_5) (impl_in_O in_5) }), (10, { d := some false }), (14, { d := some false }), (30, { d := some false })]] [] [1] [(1, 0)] [ACalls cx.P 14 [vi r_.Code, vi 0, vi 3] (impl_in_R in_4) (impl_in_O in_4), (!in_4) = false, ACalls cx.P 14 [vi r_.Val, vi (-1000000), vi 1000000] (impl_in_R in_5) (impl_in_O in_5), (!in_5) = false, (r_.Code != 0) = false, (r_.Code == 3) = false] (.cons (impl_in_ok r_.Code 0 3 in_4 hin_4) (.cons e13 (.cons (impl_in_ok r_.Val (-1000000) 1000000 in_5 hin_5) (.cons e14 (.cons e15 (.cons e20 .nil)))))) hI (by kernel_rfl)))))))))))))))
theorem impl_ExecOk_ok (r_ : TRun) (r : Bool) (h : impl_ExecOk r_ = some r) : ACalls cx.P 42 [.agg (eRun r_)] (impl_ExecOk_R r) (impl_ExecOk_O r) :=
  ACalls.of (cx := cx) (X := impl_ExecOk_X) (c := impl_ExecOk_c) Try.func42 (by kernel_rfl) (by kernel_rfl) (by kernel_rfl) (impl_ExecOk_fin r_ r h)

/-! ### impl_CertEntry -/
noncomputable def impl_CertEntry_c : Code := bodyOf Try.f26
noncomputable def impl_CertEntry_X : Sig := { f := 26, fn := Try.f26, rms := [.val [] []], oms := [none] }
noncomputable def impl_CertEntry_R (r : Bool) : V := .b r
noncomputable def impl_CertEntry_O (r : Bool) : List (Option V) := [none]
noncomputable def impl_CertEntry (e_ : TEntry) : Option Bool :=
  (bif e_.None then
 ((impl_CertLike e_ (TEntry.mk true (TReq.mk 0 0) (TRun.mk [] [] 0 0))).bind fun certLike =>
 some certLike)
 else
 ((impl_reqOk e_.Req).bind fun reqOk =>
 (bif reqOk then
 ((impl_ExecOk e_.Run).bind fun execOk =>
 (bif execOk then
 some (e_.Run.Code != 3)
 else
 some false))
 else
 some false)))
theorem impl_CertEntry_fin (e_ : TEntry) (r : Bool) (h : impl_CertEntry e_ = some r) : Fin cx impl_CertEntry_X (impl_CertEntry_R r) (impl_CertEntry_O r) [.code impl_CertEntry_c] (startS impl_CertEntry_X [.agg (eEntry e_)]) :=
  (condD h (fun e1 h =>
 (bindD h fun certLike hcertLike h =>
 (someD h fun e => (Fin.fin (cx := cx) (X := impl_CertEntry_X) (res := impl_CertEntry_R certLike) (outs := impl_CertEntry_O certLike) Try.func26 [[], [(1, { d := some true })], [(2, { a := .call [.val [none, none, none, some 2, some 2, none, none] [], .val [none, none, none, some 2, some 2, none, none] []] false (impl_CertLike_R certLike) (impl_CertLike_O certLike) })]] [e_.None = true, ACalls cx.P 40 [.agg (eEntry e_), .agg (eEntry (TEntry.mk true (TReq.mk 0 0) (TRun.mk [] [] 0 0)))] (impl_CertLike_R certLike) (impl_CertLike_O certLike)] (.cons e1 (.cons (impl_CertLike_ok e_ (TEntry.mk true (TReq.mk 0 0) (TRun.mk [] [] 0 0)) certLike hcertLike) .nil)) (by kernel_rfl)).is (congrArg impl_CertEntry_R e) (congrArg impl_CertEntry_O e)))) (fun e1 h =>
 (bindD h fun reqOk hreqOk h =>
 (condD h (fun e2 h =>
 (bindD h fun execOk hexecOk h =>
 (condD h (fun e3 h =>
 (someD h fun e => (Fin.fin (cx := cx) (X := impl_CertEntry_X) (res := impl_CertEntry_R (e_.Run.Code != 3)) (outs := impl_CertEntry_O (e_.Run.Code != 3)) Try.func26 [[], [(1, { d := some false })], [(2, { a := .call [.val [] []] false (impl_reqOk_R reqOk) (impl_reqOk_O reqOk) }), (3, { d := some true }), (6, { a := .call [.val [some 2, some 2, none, none] []] false (impl_ExecOk_R execOk) (impl_ExecOk_O execOk) }), (8, { d := some true })]] [e_.None = false, ACalls cx.P 41 [.agg (eReq e_.Req)] (impl_reqOk_R reqOk) (impl_reqOk_O reqOk), reqOk = true, ACalls cx.P 42 [.agg (eRun e_.Run)] (impl_ExecOk_R execOk) (impl_ExecOk_O execOk), execOk = true] (.cons e1 (.cons (impl_reqOk_ok e_.Req reqOk hreqOk) (.cons e2 (.cons (impl_ExecOk_ok e_.Run execOk hexecOk) (.cons e3 .nil))))) (by kernel_rfl)).is (congrArg impl_CertEntry_R e) (congrArg impl_CertEntry_O e))) (fun e3 h =>
 (someD h fun e => (Fin.fin (cx := cx) (X := impl_CertEntry_X) (res := impl_CertEntry_R false) (outs := impl_CertEntry_O false) Try.func26 [[], [(1, { d := some false })], [(2, { a := .call [.val [] []] false (impl_reqOk_R reqOk) (impl_reqOk_O reqOk) }), (3, { d := some true }), (6, { a := .call [.val [some 2, some 2, none, none] []] false (impl_ExecOk_R execOk) (impl_ExecOk_O execOk) }), (8, { d := some false })]] [e_.None = false, ACalls cx.P 41 [.agg (eReq e_.Req)] (impl_reqOk_R reqOk) (impl_reqOk_O reqOk), reqOk = true, ACalls cx.P 42 [.agg (eRun e_.Run)] (impl_ExecOk_R execOk) (impl_ExecOk_O execOk), execOk = false] (.cons e1 (.cons (impl_reqOk_ok e_.Req reqOk hreqOk) (.cons e2 (.cons (impl_ExecOk_ok e_.Run execOk hexecOk) (.cons e3 .nil))))) (by kernel_rfl)).is (congrArg impl_CertEntry_R e) (congrArg impl_CertEntry_O e)))))) (fun e2 h =>
 (someD h fun e => (Fin.fin (cx := cx) (X := impl_CertEntry_X) (res := impl_CertEntry_R false) (outs := impl_CertEntry_O false) Try.func26 [[], [(1, { d := some false })], [(2, { a := .call [.val [] []] false (impl_reqOk_R reqOk) (impl_reqOk_O reqOk) }), (3, { d := some false })]] [e_.None = false, ACalls cx.P 41 [.agg (eReq e_.Req)] (impl_reqOk_R reqOk) (impl_reqOk_O reqOk), reqOk = false] (.cons e1 (.cons (impl_reqOk_ok e_.Req reqOk hreqOk) (.cons e2 .nil))) (by kernel_rfl)).is (congrArg impl_CertEntry_R e) (congrArg impl_CertEntry_O e)))))))
theorem impl_CertEntry_ok (e_ : TEntry) (r : Bool) (h : impl_CertEntry e_ = some r) : ACalls cx.P 26 [.agg (eEntry e_)] (impl_CertEntry_R r) (impl_CertEntry_O r) :=
  ACalls.of (cx := cx) (X := impl_CertEntry_X) (c := impl_CertEntry_c) Try.func26 (by kernel_rfl) (by kernel_rfl) (by kernel_rfl) (impl_CertEntry_fin e_ r h)

/-! ### impl_listOk -/
noncomputable def impl_listOk_c : Code := bodyOf Try.f13
noncomputable def impl_listOk_X : Sig := { f := 13, fn := Try.f13, rms := [.val [] []], oms := [none] }
noncomputable def impl_listOk_R (r : Bool) : V := .b r
noncomputable def impl_listOk_O (r : Bool) : List (Option V) := [none]
noncomputable def impl_listOk_k1 : List Item := posI 2000 3 [false] [.code impl_listOk_c]
noncomputable def impl_listOk_S1 (list : List TEntry) : St := ⟨(vsl 7 eEntry list :: (bs 17 [])), [some []]⟩
noncomputable def impl_listOk_k2 (list : List TEntry) : Option Bool :=
  some (decide ((list.length : Int) ≤ 40))
theorem impl_listOk_k2_ok (list : List TEntry) (r : Bool) (h : impl_listOk_k2 list = some r) : Fin cx impl_listOk_X (impl_listOk_R r) (impl_listOk_O r) impl_listOk_k1 (impl_listOk_S1 list) :=
  (someD h fun e => (Fin.fin (cx := cx) (X := impl_listOk_X) (res := impl_listOk_R (decide ((list.length : Int) ≤ 40))) (outs := impl_listOk_O (decide ((list.length : Int) ≤ 40))) Try.func13 [[]] [] .nil (by kernel_rfl)).is (congrArg impl_listOk_R e) (congrArg impl_listOk_O e))
noncomputable def impl_listOk_k3 : List Item := posI 2000 2 [] [.code impl_listOk_c]
noncomputable def impl_listOk_S2 (list : List TEntry) (v7 : Int) : St := ⟨(vsl 7 eEntry list :: (bs 4 (vsl 7 eEntry list :: (vi (list.length : Int) :: (vi v7 :: (bs 10 [])))))), [some []]⟩
noncomputable def impl_listOk_b1 (list : List TEntry) (v7 : Int) : Option (Stp Bool Int Unit) :=
  (bif decide (v7 < (list.length : Int)) then
 ((idx list v7).bind fun entry =>
 ((impl_CertEntry entry).bind fun certEntry =>
 (bif (!certEntry) then
 some (Stp.ret false)
 else
 some (Stp.nxt (w64 (v7 + 1))))))
 else
 some (Stp.brk ()))
theorem impl_listOk_b1_ok (list : List TEntry) (res : V) (outs : List (Option V)) (x1 : Exc Bool Unit) (hb1 : ∀ s : Unit, x1 = .brk s → Fin cx impl_listOk_X res outs impl_listOk_k1 (impl_listOk_S1 list)) (hr1 : ∀ v : Bool, x1 = .ret v → (res = impl_listOk_R v ∧ outs = impl_listOk_O v)) (st1 : Stp Bool Int Unit) (hc1 : Cont x1 (fun s : Int => Fin cx impl_listOk_X res outs impl_listOk_k3 (impl_listOk_S2 list s)) st1) (v7 : Int) (h : impl_listOk_b1 list v7 = some st1) : Fin cx impl_listOk_X res outs impl_listOk_k3 (impl_listOk_S2 list v7) :=
  (condD h (fun e1 h =>
 (bindD h fun entry hentry h =>
 (bindD h fun certEntry hcertEntry h =>
 (condD h (fun e2 h =>
 (retD h hc1 fun e => (Fin.fin (cx := cx) (X := impl_listOk_X) (res := impl_listOk_R false) (outs := impl_listOk_O false) Try.func13 [[(0, { d := some true })], [(0, { a := .row (eEntry entry) })], [(1, { a := .call [.val [none, none, none, some 2, some 2, none, none] []] false (impl_CertEntry_R certEntry) (impl_CertEntry_O certEntry) }), (2, { d := some true })], []] [decide (v7 < (list.length : Int)) = true, (0 : Int) ≤ v7, v7 < ((list.length : Nat) : Int), (list.map eEntry)[v7.toNat]? = some (eEntry entry), ACalls cx.P 26 [.agg (eEntry entry)] (impl_CertEntry_R certEntry) (impl_CertEntry_O certEntry), (!certEntry) = true] (.cons e1 (.cons (idx0 hentry) (.cons (idx1 hentry) (.cons (map_idx hentry) (.cons (impl_CertEntry_ok entry certEntry hcertEntry) (.cons e2 .nil)))))) (by kernel_rfl)).is (hr1 _ e).1 (hr1 _ e).2)) (fun e2 h =>
 (nxtD h hc1 fun hI => (Fin.seg [[(0, { d := some true })], [(0, { a := .row (eEntry entry) })], [(1, { a := .call [.val [none, none, none, some 2, some 2, none, none] []] false (impl_CertEntry_R certEntry) (impl_CertEntry_O certEntry) }), (2, { d := some false })], []] [] [0, 5, 6, 7] [] [decide (v7 < (list.length : Int)) = true, (0 : Int) ≤ v7, v7 < ((list.length : Nat) : Int), (list.map eEntry)[v7.toNat]? = some (eEntry entry), ACalls cx.P 26 [.agg (eEntry entry)] (impl_CertEntry_R certEntry) (impl_CertEntry_O certEntry), (!certEntry) = false] (.cons e1 (.cons (idx0 hentry) (.cons (idx1 hentry) (.cons (map_idx hentry) (.cons (impl_CertEntry_ok entry certEntry hcertEntry) (.cons e2 .nil)))))) hI (by kernel_rfl)))))))) (fun e1 h =>
 (brkD h hc1 fun e => (Fin.seg [[(0, { d := some false })]] [] [0] [] [decide (v7 < (list.length : Int)) = false] (.cons e1 .nil) (hb1 _ e) (by kernel_rfl)))))
theorem impl_listOk_b1_loop (list : List TEntry) (res : V) (outs : List (Option V)) (x1 : Exc Bool Unit) (hb1 : ∀ s : Unit, x1 = .brk s → Fin cx impl_listOk_X res outs impl_listOk_k1 (impl_listOk_S1 list)) (hr1 : ∀ v : Bool, x1 = .ret v → (res = impl_listOk_R v ∧ outs = impl_listOk_O v)) (s : Int) (h : loop (fun s : Int => impl_listOk_b1 list s) s = some x1) : Fin cx impl_listOk_X res outs impl_listOk_k3 (impl_listOk_S2 list s) :=
  loopD (I := fun s : Int => Fin cx impl_listOk_X res outs impl_listOk_k3 (impl_listOk_S2 list s)) h fun s st h hc => impl_listOk_b1_ok list res outs x1 hb1 hr1 st hc s h
noncomputable def impl_listOk (list : List TEntry) : Option Bool :=
  ((loop (fun s : Int => impl_listOk_b1 list s) 0).bind fun x => x.go (fun r => some r) fun s => impl_listOk_k2 list)
theorem impl_listOk_fin (list : List TEntry) (r : Bool) (h : impl_listOk list = some r) : Fin cx impl_listOk_X (impl_listOk_R r) (impl_listOk_O r) [.code impl_listOk_c] (startS impl_listOk_X [vsl 7 eEntry list]) :=
  (loopJ h fun x hl hr hb => (Fin.seg [[], []] [] [0, 5, 6, 7] [] [] .nil (impl_listOk_b1_loop list _ _ x (fun s e => impl_listOk_k2_ok list r (hb s e)) (fun v e => ⟨congrArg impl_listOk_R (Option.some.inj (hr v e)).symm, congrArg impl_listOk_O (Option.some.inj (hr v e)).symm⟩) 0 hl) (by kernel_rfl)))
theorem impl_listOk_ok (list : List TEntry) (r : Bool) (h : impl_listOk list = some r) : ACalls cx.P 13 [vsl 7 eEntry list] (impl_listOk_R r) (impl_listOk_O r) :=
  ACalls.of (cx := cx) (X := impl_listOk_X) (c := impl_listOk_c) Try.func13 (by kernel_rfl) (by kernel_rfl) (by kernel_rfl) (impl_listOk_fin list r h)

/-! ### impl_putAt -/
noncomputable def impl_putAt_c : Code := bodyOf Try.f27
noncomputable def impl_putAt_X : Sig := { f := 27, fn := Try.f27, rms := [.val [] []], oms := [none, none] }
noncomputable def impl_putAt_R (r : Int) : V := vi r
noncomputable def impl_putAt_O (r : Int) : List (Option V) := [none, none]
noncomputable def impl_putAt_k1 : List Item := posI 2000 3 [false] [.code impl_putAt_c]
noncomputable def impl_putAt_S1 : St := ⟨(bs 21 []), [some []]⟩
noncomputable def impl_putAt_k2 : Option Int :=
  some (-1)
theorem impl_putAt_k2_ok (r : Int) (h : impl_putAt_k2 = some r) : Fin cx impl_putAt_X (impl_putAt_R r) (impl_putAt_O r) impl_putAt_k1 (impl_putAt_S1) :=
  (someD h fun e => (Fin.fin (cx := cx) (X := impl_putAt_X) (res := impl_putAt_R (-1)) (outs := impl_putAt_O (-1)) Try.func27 [[]] [] .nil (by kernel_rfl)).is (congrArg impl_putAt_R e) (congrArg impl_putAt_O e))
noncomputable def impl_putAt_k3 : List Item := posI 2000 2 [] [.code impl_putAt_c]
noncomputable def impl_putAt_S2 (r_ : TRun) (box : Int) (v10 : Int) : St := ⟨(bs 1 (vi box :: (bs 6 (vsl 2 ePut r_.Puts :: (vi (r_.Puts.length : Int) :: (vi v10 :: (bs 10 []))))))), [some []]⟩
noncomputable def impl_putAt_b1 (r_ : TRun) (box : Int) (v10 : Int) : Option (Stp Int Int Unit) :=
  (bif decide (v10 < (r_.Puts.length : Int)) then
 ((idx r_.Puts v10).bind fun put =>
 (bif (put.Box == box) then
 some (Stp.ret v10)
 else
 some (Stp.nxt (w64 (v10 + 1)))))
 else
 some (Stp.brk ()))
theorem impl_putAt_b1_ok (r_ : TRun) (box : Int) (res : V) (outs : List (Option V)) (x1 : Exc Int Unit) (hb1 : ∀ s : Unit, x1 = .brk s → Fin cx impl_putAt_X res outs impl_putAt_k1 (impl_putAt_S1)) (hr1 : ∀ v : Int, x1 = .ret v → (res = impl_putAt_R v ∧ outs = impl_putAt_O v)) (st1 : Stp Int Int Unit) (hc1 : Cont x1 (fun s : Int => Fin cx impl_putAt_X res outs impl_putAt_k3 (impl_putAt_S2 r_ box s)) st1) (v10 : Int) (h : impl_putAt_b1 r_ box v10 = some st1) : Fin cx impl_putAt_X res outs impl_putAt_k3 (impl_putAt_S2 r_ box v10) :=
  (condD h (fun e1 h =>
 (bindD h fun put hput h =>
 (condD h (fun e2 h =>
 (retD h hc1 fun e => (Fin.fin (cx := cx) (X := impl_putAt_X) (res := impl_putAt_R v10) (outs := impl_putAt_O v10) Try.func27 [[(0, { d := some true })], [(1, { a := .row (ePut put) })], [(3, { d := some true })], []] [decide (v10 < (r_.Puts.length : Int)) = true, (0 : Int) ≤ v10, v10 < ((r_.Puts.length : Nat) : Int), (r_.Puts.map ePut)[v10.toNat]? = some (ePut put), (put.Box == box) = true] (.cons e1 (.cons (idx0 hput) (.cons (idx1 hput) (.cons (map_idx hput) (.cons e2 .nil))))) (by kernel_rfl)).is (hr1 _ e).1 (hr1 _ e).2)) (fun e2 h =>
 (nxtD h hc1 fun hI => (Fin.seg [[(0, { d := some true })], [(1, { a := .row (ePut put) })], [(3, { d := some false })], []] [] [1, 8, 9, 10] [] [decide (v10 < (r_.Puts.length : Int)) = true, (0 : Int) ≤ v10, v10 < ((r_.Puts.length : Nat) : Int), (r_.Puts.map ePut)[v10.toNat]? = some (ePut put), (put.Box == box) = false] (.cons e1 (.cons (idx0 hput) (.cons (idx1 hput) (.cons (map_idx hput) (.cons e2 .nil))))) hI (by kernel_rfl))))))) (fun e1 h =>
 (brkD h hc1 fun e => (Fin.seg [[(0, { d := some false })]] [] [] [] [decide (v10 < (r_.Puts.length : Int)) = false] (.cons e1 .nil) (hb1 _ e) (by kernel_rfl)))))
theorem impl_putAt_b1_loop (r_ : TRun) (box : Int) (res : V) (outs : List (Option V)) (x1 : Exc Int Unit) (hb1 : ∀ s : Unit, x1 = .brk s → Fin cx impl_putAt_X res outs impl_putAt_k1 (impl_putAt_S1)) (hr1 : ∀ v : Int, x1 = .ret v → (res = impl_putAt_R v ∧ outs = impl_putAt_O v)) (s : Int) (h : loop (fun s : Int => impl_putAt_b1 r_ box s) s = some x1) : Fin cx impl_putAt_X res outs impl_putAt_k3 (impl_putAt_S2 r_ box s) :=
  loopD (I := fun s : Int => Fin cx impl_putAt_X res outs impl_putAt_k3 (impl_putAt_S2 r_ box s)) h fun s st h hc => impl_putAt_b1_ok r_ box res outs x1 hb1 hr1 st hc s h
noncomputable def impl_putAt (r_ : TRun) (box : Int) : Option Int :=
  ((loop (fun s : Int => impl_putAt_b1 r_ box s) 0).bind fun x => x.go (fun r => some r) fun s => impl_putAt_k2)
theorem impl_putAt_fin (r_ : TRun) (box : Int) (r : Int) (h : impl_putAt r_ box = some r) : Fin cx impl_putAt_X (impl_putAt_R r) (impl_putAt_O r) [.code impl_putAt_c] (startS impl_putAt_X [.agg (eRun r_), vi box]) :=
  (loopJ h fun x hl hr hb => (Fin.seg [[], []] [] [1, 8, 9, 10] [] [] .nil (impl_putAt_b1_loop r_ box _ _ x (fun s e => impl_putAt_k2_ok r (hb s e)) (fun v e => ⟨congrArg impl_putAt_R (Option.some.inj (hr v e)).symm, congrArg impl_putAt_O (Option.some.inj (hr v e)).symm⟩) 0 hl) (by kernel_rfl)))
theorem impl_putAt_ok (r_ : TRun) (box : Int) (r : Int) (h : impl_putAt r_ box = some r) : ACalls cx.P 27 [.agg (eRun r_), vi box] (impl_putAt_R r) (impl_putAt_O r) :=
  ACalls.of (cx := cx) (X := impl_putAt_X) (c := impl_putAt_c) Try.func27 (by kernel_rfl) (by kernel_rfl) (by kernel_rfl) (impl_putAt_fin r_ box r h)

/-! ### impl_readAt -/
noncomputable def impl_readAt_c : Code := bodyOf Try.f28
noncomputable def impl_readAt_X : Sig := { f := 28, fn := Try.f28, rms := [.val [] []], oms := [none, none] }
noncomputable def impl_readAt_R (r : Int) : V := vi r
noncomputable def impl_readAt_O (r : Int) : List (Option V) := [none, none]
noncomputable def impl_readAt_k1 : List Item := posI 2000 3 [false] [.code impl_readAt_c]
noncomputable def impl_readAt_S1 : St := ⟨(bs 21 []), [some []]⟩
noncomputable def impl_readAt_k2 : Option Int :=
  some (-1)
theorem impl_readAt_k2_ok (r : Int) (h : impl_readAt_k2 = some r) : Fin cx impl_readAt_X (impl_readAt_R r) (impl_readAt_O r) impl_readAt_k1 (impl_readAt_S1) :=
  (someD h fun e => (Fin.fin (cx := cx) (X := impl_readAt_X) (res := impl_readAt_R (-1)) (outs := impl_readAt_O (-1)) Try.func28 [[]] [] .nil (by kernel_rfl)).is (congrArg impl_readAt_R e) (congrArg impl_readAt_O e))
noncomputable def impl_readAt_k3 : List Item := posI 2000 2 [] [.code impl_readAt_c]
noncomputable def impl_readAt_S2 (r_ : TRun) (box : Int) (v10 : Int) : St := ⟨(bs 1 (vi box :: (bs 6 (vsl 2 eRead r_.Reads :: (vi (r_.Reads.length : Int) :: (vi v10 :: (bs 10 []))))))), [some []]⟩
noncomputable def impl_readAt_b1 (r_ : TRun) (box : Int) (v10 : Int) : Option (Stp Int Int Unit) :=
  (bif decide (v10 < (r_.Reads.length : Int)) then
 ((idx r_.Reads v10).bind fun read =>
 (bif (read.Box == box) then
 some (Stp.ret v10)
 else
 some (Stp.nxt (w64 (v10 + 1)))))
 else
 some (Stp.brk ()))
theorem impl_readAt_b1_ok (r_ : TRun) (box : Int) (res : V) (outs : List (Option V)) (x1 : Exc Int Unit) (hb1 : ∀ s : Unit, x1 = .brk s → Fin cx impl_readAt_X res outs impl_readAt_k1 (impl_readAt_S1)) (hr1 : ∀ v : Int, x1 = .ret v → (res = impl_readAt_R v ∧ outs = impl_readAt_O v)) (st1 : Stp Int Int Unit) (hc1 : Cont x1 (fun s : Int => Fin cx impl_readAt_X res outs impl_readAt_k3 (impl_readAt_S2 r_ box s)) st1) (v10 : Int) (h : impl_readAt_b1 r_ box v10 = some st1) : Fin cx impl_readAt_X res outs impl_readAt_k3 (impl_readAt_S2 r_ box v10) :=
  (condD h (fun e1 h =>
 (bindD h fun read hread h =>
 (condD h (fun e2 h =>
 (retD h hc1 fun e => (Fin.fin (cx := cx) (X := impl_readAt_X) (res := impl_readAt_R v10) (outs := impl_readAt_O v10) Try.func28 [[(0, { d := some true })], [(1, { a := .row (eRead read) })], [(3, { d := some true })], []] [decide (v10 < (r_.Reads.length : Int)) = true, (0 : Int) ≤ v10, v10 < ((r_.Reads.length : Nat) : Int), (r_.Reads.map eRead)[v10.toNat]? = some (eRead read), (read.Box == box) = true] (.cons e1 (.cons (idx0 hread) (.cons (idx1 hread) (.cons (map_idx hread) (.cons e2 .nil))))) (by kernel_rfl)).is (hr1 _ e).1 (hr1 _ e).2)) (fun e2 h =>
 (nxtD h hc1 fun hI => (Fin.seg [[(0, { d := some true })], [(1, { a := .row (eRead read) })], [(3, { d := some false })], []] [] [1, 8, 9, 10] [] [decide (v10 < (r_.Reads.length : Int)) = true, (0 : Int) ≤ v10, v10 < ((r_.Reads.length : Nat) : Int), (r_.Reads.map eRead)[v10.toNat]? = some (eRead read), (read.Box == box) = false] (.cons e1 (.cons (idx0 hread) (.cons (idx1 hread) (.cons (map_idx hread) (.cons e2 .nil))))) hI (by kernel_rfl))))))) (fun e1 h =>
 (brkD h hc1 fun e => (Fin.seg [[(0, { d := some false })]] [] [] [] [decide (v10 < (r_.Reads.length : Int)) = false] (.cons e1 .nil) (hb1 _ e) (by kernel_rfl)))))
theorem impl_readAt_b1_loop (r_ : TRun) (box : Int) (res : V) (outs : List (Option V)) (x1 : Exc Int Unit) (hb1 : ∀ s : Unit, x1 = .brk s → Fin cx impl_readAt_X res outs impl_readAt_k1 (impl_readAt_S1)) (hr1 : ∀ v : Int, x1 = .ret v → (res = impl_readAt_R v ∧ outs = impl_readAt_O v)) (s : Int) (h : loop (fun s : Int => impl_readAt_b1 r_ box s) s = some x1) : Fin cx impl_readAt_X res outs impl_readAt_k3 (impl_readAt_S2 r_ box s) :=
  loopD (I := fun s : Int => Fin cx impl_readAt_X res outs impl_readAt_k3 (impl_readAt_S2 r_ box s)) h fun s st h hc => impl_readAt_b1_ok r_ box res outs x1 hb1 hr1 st hc s h
noncomputable def impl_readAt (r_ : TRun) (box : Int) : Option Int :=
  ((loop (fun s : Int => impl_readAt_b1 r_ box s) 0).bind fun x => x.go (fun r => some r) fun s => impl_readAt_k2)
theorem impl_readAt_fin (r_ : TRun) (box : Int) (r : Int) (h : impl_readAt r_ box = some r) : Fin cx impl_readAt_X (impl_readAt_R r) (impl_readAt_O r) [.code impl_readAt_c] (startS impl_readAt_X [.agg (eRun r_), vi box]) :=
  (loopJ h fun x hl hr hb => (Fin.seg [[], []] [] [1, 8, 9, 10] [] [] .nil (impl_readAt_b1_loop r_ box _ _ x (fun s e => impl_readAt_k2_ok r (hb s e)) (fun v e => ⟨congrArg impl_readAt_R (Option.some.inj (hr v e)).symm, congrArg impl_readAt_O (Option.some.inj (hr v e)).symm⟩) 0 hl) (by kernel_rfl)))
theorem impl_readAt_ok (r_ : TRun) (box : Int) (r : Int) (h : impl_readAt r_ box = some r) : ACalls cx.P 28 [.agg (eRun r_), vi box] (impl_readAt_R r) (impl_readAt_O r) :=
  ACalls.of (cx := cx) (X := impl_readAt_X) (c := impl_readAt_c) Try.func28 (by kernel_rfl) (by kernel_rfl) (by kernel_rfl) (impl_readAt_fin r_ box r h)

/-! ### impl_clash -/
noncomputable def impl_clash_c : Code := bodyOf Try.f15
noncomputable def impl_clash_X : Sig := { f := 15, fn := Try.f15, rms := [.val [] []], oms := [none, none, none] }
noncomputable def impl_clash_R (r : Bool) : V := .b r
noncomputable def impl_clash_O (r : Bool) : List (Option V) := [none, none, none]
noncomputable def impl_clash (a : TRun) (b : TRun) (box : Int) : Option Bool :=
  ((impl_putAt a box).bind fun putAt =>
 ((impl_putAt b box).bind fun putAt1 =>
 (bif decide (putAt ≥ 0) then
 (bif decide (putAt1 ≥ 0) then
 some true
 else
 (bif decide (putAt ≥ 0) then
 ((impl_readAt b box).bind fun readAt =>
 (bif decide (readAt ≥ 0) then
 some true
 else
 (bif decide (putAt1 ≥ 0) then
 ((impl_readAt a box).bind fun readAt1 =>
 some (decide (readAt1 ≥ 0)))
 else
 some false)))
 else
 (bif decide (putAt1 ≥ 0) then
 ((impl_readAt a box).bind fun readAt2 =>
 some (decide (readAt2 ≥ 0)))
 else
 some false)))
 else
 (bif decide (putAt ≥ 0) then
 ((impl_readAt b box).bind fun readAt3 =>
 (bif decide (readAt3 ≥ 0) then
 some true
 else
 (bif decide (putAt1 ≥ 0) then
 ((impl_readAt a box).bind fun readAt4 =>
 some (decide (readAt4 ≥ 0)))
 else
 some false)))
 else
 (bif decide (putAt1 ≥ 0) then
 ((impl_readAt a box).bind fun readAt5 =>
 some (decide (readAt5 ≥ 0)))
 else
 some false)))))
theorem impl_clash_fin (a : TRun) (b : TRun) (box : Int) (r : Bool) (h : impl_clash a b box = some r) : Fin cx impl_clash_X (impl_clash_R r) (impl_clash_O r) [.code impl_clash_c] (startS impl_clash_X [.agg (eRun a), .agg (eRun b), vi box]) :=
  (bindD h fun putAt hputAt h =>
 (bindD h fun putAt1 hputAt1 h =>
 (condD h (fun e1 h =>
 (condD h (fun e2 h =>
 (someD h fun e => (Fin.fin (cx := cx) (X := impl_clash_X) (res := impl_clash_R true) (outs := impl_clash_O true) Try.func15 [[], [(2, { a := .call [.val [some 2, some 2, none, none] [], .val [] []] false (impl_putAt_R putAt) (impl_putAt_O putAt) }), (6, { a := .call [.val [some 2, some 2, none, none] [], .val [] []] false (impl_putAt_R putAt1) (impl_putAt_O putAt1) })], [(1, { d := some true }), (4, { d := some true })]] [ACalls cx.P 27 [.agg (eRun a), vi box] (impl_putAt_R putAt) (impl_putAt_O putAt), ACalls cx.P 27 [.agg (eRun b), vi box] (impl_putAt_R putAt1) (impl_putAt_O putAt1), decide (putAt ≥ 0) = true, decide (putAt1 ≥ 0) = true] (.cons (impl_putAt_ok a box putAt hputAt) (.cons (impl_putAt_ok b box putAt1 hputAt1) (.cons e1 (.cons e2 .nil)))) (by kernel_rfl)).is (congrArg impl_clash_R e) (congrArg impl_clash_O e))) (fun e2 h =>
 (condD h (fun e3 h =>
 (bindD h fun readAt hreadAt h =>
 (condD h (fun e4 h =>
 (someD h fun e => (Fin.fin (cx := cx) (X := impl_clash_X) (res := impl_clash_R true) (outs := impl_clash_O true) Try.func15 [[], [(2, { a := .call [.val [some 2, some 2, none, none] [], .val [] []] false (impl_putAt_R putAt) (impl_putAt_O putAt) }), (6, { a := .call [.val [some 2, some 2, none, none] [], .val [] []] false (impl_putAt_R putAt1) (impl_putAt_O putAt1) })], [(1, { d := some true }), (4, { d := some false }), (6, { d := some true }), (9, { a := .call [.val [some 2, some 2, none, none] [], .val [] []] false (impl_readAt_R readAt) (impl_readAt_O readAt) }), (13, { d := some true })]] [ACalls cx.P 27 [.agg (eRun a), vi box] (impl_putAt_R putAt) (impl_putAt_O putAt), ACalls cx.P 27 [.agg (eRun b), vi box] (impl_putAt_R putAt1) (impl_putAt_O putAt1), decide (putAt ≥ 0) = true, decide (putAt1 ≥ 0) = false, decide (putAt ≥ 0) = true, ACalls cx.P 28 [.agg (eRun b), vi box] (impl_readAt_R readAt) (impl_readAt_O readAt), decide (readAt ≥ 0) = true] (.cons (impl_putAt_ok a box putAt hputAt) (.cons (impl_putAt_ok b box putAt1 hputAt1) (.cons e1 (.cons e2 (.cons e3 (.cons (impl_readAt_ok b box readAt hreadAt) (.cons e4 .nil))))))) (by kernel_rfl)).is (congrArg impl_clash_R e) (congrArg impl_clash_O e))) (fun e4 h =>
 (condD h (fun e5 h =>
 (bindD h fun readAt1 hreadAt1 h =>
 (someD h fun e => (Fin.fin (cx := cx) (X := impl_clash_X) (res := impl_clash_R (decide (readAt1 ≥ 0))) (outs := impl_clash_O (decide (readAt1 ≥ 0))) Try.func15 [[], [(2, { a := .call [.val [some 2, some 2, none, none] [], .val [] []] false (impl_putAt_R putAt) (impl_putAt_O putAt) }), (6, { a := .call [.val [some 2, some 2, none, none] [], .val [] []] false (impl_putAt_R putAt1) (impl_putAt_O putAt1) })], [(1, { d := some true }), (4, { d := some false }), (6, { d := some true }), (9, { a := .call [.val [some 2, some 2, none, none] [], .val [] []] false (impl_readAt_R readAt) (impl_readAt_O readAt) }), (13, { d := some false }), (15, { d := some true }), (18, { a := .call [.val [some 2, some 2, none, none] [], .val [] []] false (impl_readAt_R readAt1) (impl_readAt_O readAt1) })]] [ACalls cx.P 27 [.agg (eRun a), vi box] (impl_putAt_R putAt) (impl_putAt_O putAt), ACalls cx.P 27 [.agg (eRun b), vi box] (impl_putAt_R putAt1) (impl_putAt_O putAt1), decide (putAt ≥ 0) = true, decide (putAt1 ≥ 0) = false, decide (putAt ≥ 0) = true, ACalls cx.P 28 [.agg (eRun b), vi box] (impl_readAt_R readAt) (impl_readAt_O readAt), decide (readAt ≥ 0) = false, decide (putAt1 ≥ 0) = true, ACalls cx.P 28 [.agg (eRun a), vi box] (impl_readAt_R readAt1) (impl_readAt_O readAt1)] (.cons (impl_putAt_ok a box putAt hputAt) (.cons (impl_putAt_ok b box putAt1 hputAt1) (.cons e1 (.cons e2 (.cons e3 (.cons (impl_readAt_ok b box readAt hreadAt) (.cons e4 (.cons e5 (.cons (impl_readAt_ok a box readAt1 hreadAt1) .nil))))))))) (by kernel_rfl)).is (congrArg impl_clash_R e) (congrArg impl_clash_O e)))) (fun e5 h =>
 (someD h fun e => (Fin.fin (cx := cx) (X := impl_clash_X) (res := impl_clash_R false) (outs := impl_clash_O false) Try.func15 [[], [(2, { a := .call [.val [some 2, some 2, none, none] [], .val [] []] false (impl_putAt_R putAt) (impl_putAt_O putAt) }), (6, { a := .call [.val [some 2, some 2, none, none] [], .val [] []] false (impl_putAt_R putAt1) (impl_putAt_O putAt1) })], [(1, { d := some true }), (4, { d := some false }), (6, { d := some true }), (9, { a := .call [.val [some 2, some 2, none, none] [], .val [] []] false (impl_readAt_R readAt) (impl_readAt_O readAt) }), (13, { d := some false }), (15, { d := some false })]] [ACalls cx.P 27 [.agg (eRun a), vi box] (impl_putAt_R putAt) (impl_putAt_O putAt), ACalls cx.P 27 [.agg (eRun b), vi box] (impl_putAt_R putAt1) (impl_putAt_O putAt1), decide (putAt ≥ 0) = true, decide (putAt1 ≥ 0) = false, decide (putAt ≥ 0) = true, ACalls cx.P 28 [.agg (eRun b), vi box] (impl_readAt_R readAt) (impl_readAt_O readAt), decide (readAt ≥ 0) = false, decide (putAt1 ≥ 0) = false] (.cons (impl_putAt_ok a box putAt hputAt) (.cons (impl_putAt_ok b box putAt1 hputAt1) (.cons e1 (.cons e2 (.cons e3 (.cons (impl_readAt_ok b box readAt hreadAt) (.cons e4 (.cons e5 .nil)))))))) (by kernel_rfl)).is (congrArg impl_clash_R e) (congrArg impl_clash_O e)))))))) (fun e3 h =>
 (condD h (fun e6 h =>
 (bindD h fun readAt2 hreadAt2 h =>
 (someD h fun e => (Fin.fin (cx := cx) (X := impl_clash_X) (res := impl_clash_R (decide (readAt2 ≥ 0))) (outs := impl_clash_O (decide (readAt2 ≥ 0))) Try.func15 [[], [(2, { a := .call [.val [some 2, some 2, none, none] [], .val [] []] false (impl_putAt_R putAt) (impl_putAt_O putAt) }), (6, { a := .call [.val [some 2, some 2, none, none] [], .val [] []] false (impl_putAt_R putAt1) (impl_putAt_O putAt1) })], [(1, { d := some true }), (4, { d := some false }), (6, { d := some false }), (15, { d := some true }), (18, { a := .call [.val [some 2, some 2, none, none] [], .val [] []] false (impl_readAt_R readAt2) (impl_readAt_O readAt2) })]] [ACalls cx.P 27 [.agg (eRun a), vi box] (impl_putAt_R putAt) (impl_putAt_O putAt), ACalls cx.P 27 [.agg (eRun b), vi box] (impl_putAt_R putAt1) (impl_putAt_O putAt1), decide (putAt ≥ 0) = true, decide (putAt1 ≥ 0) = false, decide (putAt ≥ 0) = false, decide (putAt1 ≥ 0) = true, ACalls cx.P 28 [.agg (eRun a), vi box] (impl_readAt_R readAt2) (impl_readAt_O readAt2)] (.cons (impl_putAt_ok a box putAt hputAt) (.cons (impl_putAt_ok b box putAt1 hputAt1) (.cons e1 (.cons e2 (.cons e3 (.cons e6 (.cons (impl_readAt_ok a box readAt2 hreadAt2) .nil))))))) (by kernel_rfl)).is (congrArg impl_clash_R e) (congrArg impl_clash_O e)))) (fun e6 h =>
 (someD h fun e => (Fin.fin (cx := cx) (X := impl_clash_X) (res := impl_clash_R false) (outs := impl_clash_O false) Try.func15 [[], [(2, { a := .call [.val [some 2, some 2, none, none] [], .val [] []] false (impl_putAt_R putAt) (impl_putAt_O putAt) }), (6, { a := .call [.val [some 2, some 2, none, none] [], .val [] []] false (impl_putAt_R putAt1) (impl_putAt_O putAt1) })], [(1, { d := some true }), (4, { d := some false }), (6, { d := some false }), (15, { d := some false })]] [ACalls cx.P 27 [.agg (eRun a), vi box] (impl_putAt_R putAt) (impl_putAt_O putAt), ACalls cx.P 27 [.agg (eRun b), vi box] (impl_putAt_R putAt1) (impl_putAt_O putAt1), decide (putAt ≥ 0) = true, decide (putAt1 ≥ 0) = false, decide (putAt ≥ 0) = false, decide (putAt1 ≥ 0) = false] (.cons (impl_putAt_ok a box putAt hputAt) (.cons (impl_putAt_ok b box putAt1 hputAt1) (.cons e1 (.cons e2 (.cons e3 (.cons e6 .nil)))))) (by kernel_rfl)).is (congrArg impl_clash_R e) (congrArg impl_clash_O e))))))))) (fun e1 h =>
 (condD h (fun e7 h =>
 (bindD h fun readAt3 hreadAt3 h =>
 (condD h (fun e8 h =>
 (someD h fun e => (Fin.fin (cx := cx) (X := impl_clash_X) (res := impl_clash_R true) (outs := impl_clash_O true) Try.func15 [[], [(2, { a := .call [.val [some 2, some 2, none, none] [], .val [] []] false (impl_putAt_R putAt) (impl_putAt_O putAt) }), (6, { a := .call [.val [some 2, some 2, none, none] [], .val [] []] false (impl_putAt_R putAt1) (impl_putAt_O putAt1) })], [(1, { d := some false }), (6, { d := some true }), (9, { a := .call [.val [some 2, some 2, none, none] [], .val [] []] false (impl_readAt_R readAt3) (impl_readAt_O readAt3) }), (13, { d := some true })]] [ACalls cx.P 27 [.agg (eRun a), vi box] (impl_putAt_R putAt) (impl_putAt_O putAt), ACalls cx.P 27 [.agg (eRun b), vi box] (impl_putAt_R putAt1) (impl_putAt_O putAt1), decide (putAt ≥ 0) = false, decide (putAt ≥ 0) = true, ACalls cx.P 28 [.agg (eRun b), vi box] (impl_readAt_R readAt3) (impl_readAt_O readAt3), decide (readAt3 ≥ 0) = true] (.cons (impl_putAt_ok a box putAt hputAt) (.cons (impl_putAt_ok b box putAt1 hputAt1) (.cons e1 (.cons e7 (.cons (impl_readAt_ok b box readAt3 hreadAt3) (.cons e8 .nil)))))) (by kernel_rfl)).is (congrArg impl_clash_R e) (congrArg impl_clash_O e))) (fun e8 h =>
 (condD h (fun e9 h =>
 (bindD h fun readAt4 hreadAt4 h =>
 (someD h fun e => (Fin.fin (cx := cx) (X := impl_clash_X) (res := impl_clash_R (decide (readAt4 ≥ 0))) (outs := impl_clash_O (decide (readAt4 ≥ 0))) Try.func15 [[], [(2, { a := .call [.val [some 2, some 2, none, none] [], .val [] []] false (impl_putAt_R putAt) (impl_putAt_O putAt) }), (6, { a := .call [.val [some 2, some 2, none, none] [], .val [] []] false (impl_putAt_R putAt1) (impl_putAt_O putAt1) })], [(1, { d := some false }), (6, { d := some true }), (9, { a := .call [.val [some 2, some 2, none, none] [], .val [] []] false (impl_readAt_R readAt3) (impl_readAt_O readAt3) }), (13, { d := some false }), (15, { d := some true }), (18, { a := .call [.val [some 2, some 2, none, none] [], .val [] []] false (impl_readAt_R readAt4) (impl_readAt_O readAt4) })]] [ACalls cx.P 27 [.agg (eRun a), vi box] (impl_putAt_R putAt) (impl_putAt_O putAt), ACalls cx.P 27 [.agg (eRun b), vi box] (impl_putAt_R putAt1) (impl_putAt_O putAt1), decide (putAt ≥ 0) = false, decide (putAt ≥ 0) = true, ACalls cx.P 28 [.agg (eRun b), vi box] (impl_readAt_R readAt3) (impl_readAt_O readAt3), decide (readAt3 ≥ 0) = false, decide (putAt1 ≥ 0) = true, ACalls cx.P 28 [.agg (eRun a), vi box] (impl_readAt_R readAt4) (impl_readAt_O readAt4)] (.cons (impl_putAt_ok a box putAt hputAt) (.cons (impl_putAt_ok b box putAt1 hputAt1) (.cons e1 (.cons e7 (.cons (impl_readAt_ok b box readAt3 hreadAt3) (.cons e8 (.cons e9 (.cons (impl_readAt_ok a box readAt4 hreadAt4) .nil)))))))) (by kernel_rfl)).is (congrArg impl_clash_R e) (congrArg impl_clash_O e)))) (fun e9 h =>
 (someD h fun e => (Fin.fin (cx := cx) (X := impl_clash_X) (res := impl_clash_R false) (outs := impl_clash_O false) Try.func15 [[], [(2, { a := .call [.val [some 2, some 2, none, none] [], .val [] []] false (impl_putAt_R putAt) (impl_putAt_O putAt) }), (6, { a := .call [.val [some 2, some 2, none, none] [], .val [] []] false (impl_putAt_R putAt1) (impl_putAt_O putAt1) })], [(1, { d := some false }), (6, { d := some true }), (9, { a := .call [.val [some 2, some 2, none, none] [], .val [] []] false (impl_readAt_R readAt3) (impl_readAt_O readAt3) }), (13, { d := some false }), (15, { d := some false })]] [ACalls cx.P 27 [.agg (eRun a), vi box] (impl_putAt_R putAt) (impl_putAt_O putAt), ACalls cx.P 27 [.agg (eRun b), vi box] (impl_putAt_R putAt1) (impl_putAt_O putAt1), decide (putAt ≥ 0) = false, decide (putAt ≥ 0) = true, ACalls cx.P 28 [.agg (eRun b), vi box] (impl_readAt_R readAt3) (impl_readAt_O readAt3), decide (readAt3 ≥ 0) = false, decide (putAt1 ≥ 0) = false] (.cons (impl_putAt_ok a box putAt hputAt) (.cons (impl_putAt_ok b box putAt1 hputAt1) (.cons e1 (.cons e7 (.cons (impl_readAt_ok b box readAt3 hreadAt3) (.cons e8 (.cons e9 .nil))))))) (by kernel_rfl)).is (congrArg impl_clash_R e) (congrArg impl_clash_O e)))))))) (fun e7 h =>
 (condD h (fun e10 h =>
 (bindD h fun readAt5 hreadAt5 h =>
 (someD h fun e => (Fin.fin (cx := cx) (X := impl_clash_X) (res := impl_clash_R (decide (readAt5 ≥ 0))) (outs := impl_clash_O (decide (readAt5 ≥ 0))) Try.func15 [[], [(2, { a := .call [.val [some 2, some 2, none, none] [], .val [] []] false (impl_putAt_R putAt) (impl_putAt_O putAt) }), (6, { a := .call [.val [some 2, some 2, none, none] [], .val [] []] false (impl_putAt_R putAt1) (impl_putAt_O putAt1) })], [(1, { d := some false }), (6, { d := some false }), (15, { d := some true }), (18, { a := .call [.val [some 2, some 2, none, none] [], .val [] []] false (impl_readAt_R readAt5) (impl_readAt_O readAt5) })]] [ACalls cx.P 27 [.agg (eRun a), vi box] (impl_putAt_R putAt) (impl_putAt_O putAt), ACalls cx.P 27 [.agg (eRun b), vi box] (impl_putAt_R putAt1) (impl_putAt_O putAt1), decide (putAt ≥ 0) = false, decide (putAt ≥ 0) = false, decide (putAt1 ≥ 0) = true, ACalls cx.P 28 [.agg (eRun a), vi box] (impl_readAt_R readAt5) (impl_readAt_O readAt5)] (.cons (impl_putAt_ok a box putAt hputAt) (.cons (impl_putAt_ok b box putAt1 hputAt1) (.cons e1 (.cons e7 (.cons e10 (.cons (impl_readAt_ok a box readAt5 hreadAt5) .nil)))))) (by kernel_rfl)).is (congrArg impl_clash_R e) (congrArg impl_clash_O e)))) (fun e10 h =>
 (someD h fun e => (Fin.fin (cx := cx) (X := impl_clash_X) (res := impl_clash_R false) (outs := impl_clash_O false) Try.func15 [[], [(2, { a := .call [.val [some 2, some 2, none, none] [], .val [] []] false (impl_putAt_R putAt) (impl_putAt_O putAt) }), (6, { a := .call [.val [some 2, some 2, none, none] [], .val [] []] false (impl_putAt_R putAt1) (impl_putAt_O putAt1) })], [(1, { d := some false }), (6, { d := some false }), (15, { d := some false })]] [ACalls cx.P 27 [.agg (eRun a), vi box] (impl_putAt_R putAt) (impl_putAt_O putAt), ACalls cx.P 27 [.agg (eRun b), vi box] (impl_putAt_R putAt1) (impl_putAt_O putAt1), decide (putAt ≥ 0) = false, decide (putAt ≥ 0) = false, decide (putAt1 ≥ 0) = false] (.cons (impl_putAt_ok a box putAt hputAt) (.cons (impl_putAt_ok b box putAt1 hputAt1) (.cons e1 (.cons e7 (.cons e10 .nil))))) (by kernel_rfl)).is (congrArg impl_clash_R e) (congrArg impl_clash_O e))))))))))
theorem impl_clash_ok (a : TRun) (b : TRun) (box : Int) (r : Bool) (h : impl_clash a b box = some r) : ACalls cx.P 15 [.agg (eRun a), .agg (eRun b), vi box] (impl_clash_R r) (impl_clash_O r) :=
  ACalls.of (cx := cx) (X := impl_clash_X) (c := impl_clash_c) Try.func15 (by kernel_rfl) (by kernel_rfl) (by kernel_rfl) (impl_clash_fin a b box r h)

/-! ### impl_HistSwap -/
noncomputable def impl_HistSwap_c : Code := bodyOf Try.f5
noncomputable def impl_HistSwap_X : Sig := { f := 5, fn := Try.f5, rms := [.val [] []], oms := [none, none] }
noncomputable def impl_HistSwap_R (r : Bool) : V := .b r
noncomputable def impl_HistSwap_O (r : Bool) : List (Option V) := [none, none]
noncomputable def impl_HistSwap_k1 : List Item := posI 2000 7 [false, false, false, false] [.code impl_HistSwap_c]
noncomputable def impl_HistSwap_S1 : St := ⟨(bs 51 []), [some []]⟩
noncomputable def impl_HistSwap_k2 : Option Bool :=
  some true
theorem impl_HistSwap_k2_ok (r : Bool) (h : impl_HistSwap_k2 = some r) : Fin cx impl_HistSwap_X (impl_HistSwap_R r) (impl_HistSwap_O r) impl_HistSwap_k1 (impl_HistSwap_S1) :=
  (someD h fun e => (Fin.fin (cx := cx) (X := impl_HistSwap_X) (res := impl_HistSwap_R true) (outs := impl_HistSwap_O true) Try.func5 [[]] [] .nil (by kernel_rfl)).is (congrArg impl_HistSwap_R e) (congrArg impl_HistSwap_O e))
noncomputable def impl_HistSwap_k3 : List Item := posI 2000 6 [false, false, false] [.code impl_HistSwap_c]
noncomputable def impl_HistSwap_S2 (entry : TEntry) (entry1 : TEntry) (box : Int) : St := ⟨(bs 5 (.ptr 1 0 0 :: (.ptr 2 0 0 :: (vi box :: (bs 43 []))))), [some [], some [.var 38 [.b entry.None, vi entry.Req.Who, vi entry.Req.Seq, vsl 2 eRead entry.Run.Reads, vsl 2 ePut entry.Run.Puts, vi entry.Run.Val, vi entry.Run.Code]], some [.var 38 [.b entry1.None, vi entry1.Req.Who, vi entry1.Req.Seq, vsl 2 eRead entry1.Run.Reads, vsl 2 ePut entry1.Run.Puts, vi entry1.Run.Val, vi entry1.Run.Code]]]⟩
noncomputable def impl_HistSwap_b1 (entry : TEntry) (entry1 : TEntry) (box : Int) : Option (Stp Bool Int Unit) :=
  (bif decide (box < 4) then
 ((impl_clash entry.Run entry1.Run box).bind fun clash =>
 (bif clash then
 some (Stp.ret false)
 else
 some (Stp.nxt (w64 (box + 1)))))
 else
 some (Stp.brk ()))
theorem impl_HistSwap_b1_ok (entry : TEntry) (entry1 : TEntry) (res : V) (outs : List (Option V)) (x1 : Exc Bool Unit) (hb1 : ∀ s : Unit, x1 = .brk s → Fin cx impl_HistSwap_X res outs impl_HistSwap_k1 (impl_HistSwap_S1)) (hr1 : ∀ v : Bool, x1 = .ret v → (res = impl_HistSwap_R v ∧ outs = impl_HistSwap_O v)) (st1 : Stp Bool Int Unit) (hc1 : Cont x1 (fun s : Int => Fin cx impl_HistSwap_X res outs impl_HistSwap_k3 (impl_HistSwap_S2 entry entry1 s)) st1) (box : Int) (h : impl_HistSwap_b1 entry entry1 box = some st1) : Fin cx impl_HistSwap_X res outs impl_HistSwap_k3 (impl_HistSwap_S2 entry entry1 box) :=
  (condD h (fun e6 h =>
 (bindD h fun clash hclash h =>
 (condD h (fun e7 h =>
 (retD h hc1 fun e => (Fin.fin (cx := cx) (X := impl_HistSwap_X) (res := impl_HistSwap_R false) (outs := impl_HistSwap_O false) Try.func5 [[(1, { d := some true })], [(5, { a := .call [.val [some 2, some 2, none, none] [], .val [some 2, some 2, none, none] [], .val [] []] false (impl_clash_R clash) (impl_clash_O clash), d := some true })], []] [decide (box < 4) = true, clash = true, ACalls cx.P 15 [.agg (eRun entry.Run), .agg (eRun entry1.Run), vi box] (impl_clash_R clash) (impl_clash_O clash)] (.cons e6 (.cons e7 (.cons (impl_clash_ok entry.Run entry1.Run box clash hclash) .nil))) (by kernel_rfl)).is (hr1 _ e).1 (hr1 _ e).2)) (fun e7 h =>
 (nxtD h hc1 fun hI => (Fin.seg [[(1, { d := some true })], [(5, { a := .call [.val [some 2, some 2, none, none] [], .val [some 2, some 2, none, none] [], .val [] []] false (impl_clash_R clash) (impl_clash_O clash), d := some false })], []] [] [5, 6, 7] [(1, 0), (2, 0)] [decide (box < 4) = true, clash = false, ACalls cx.P 15 [.agg (eRun entry.Run), .agg (eRun entry1.Run), vi box] (impl_clash_R clash) (impl_clash_O clash)] (.cons e6 (.cons e7 (.cons (impl_clash_ok entry.Run entry1.Run box clash hclash) .nil))) hI (by kernel_rfl))))))) (fun e6 h =>
 (brkD h hc1 fun e => (Fin.seg [[(1, { d := some false })]] [] [] [] [decide (box < 4) = false] (.cons e6 .nil) (hb1 _ e) (by kernel_rfl)))))
theorem impl_HistSwap_b1_loop (entry : TEntry) (entry1 : TEntry) (res : V) (outs : List (Option V)) (x1 : Exc Bool Unit) (hb1 : ∀ s : Unit, x1 = .brk s → Fin cx impl_HistSwap_X res outs impl_HistSwap_k1 (impl_HistSwap_S1)) (hr1 : ∀ v : Bool, x1 = .ret v → (res = impl_HistSwap_R v ∧ outs = impl_HistSwap_O v)) (s : Int) (h : loop (fun s : Int => impl_HistSwap_b1 entry entry1 s) s = some x1) : Fin cx impl_HistSwap_X res outs impl_HistSwap_k3 (impl_HistSwap_S2 entry entry1 s) :=
  loopD (I := fun s : Int => Fin cx impl_HistSwap_X res outs impl_HistSwap_k3 (impl_HistSwap_S2 entry entry1 s)) h fun s st h hc => impl_HistSwap_b1_ok entry entry1 res outs x1 hb1 hr1 st hc s h
noncomputable def impl_HistSwap (list : List TEntry) (at_ : Int) : Option Bool :=
  ((impl_listOk list).bind fun listOk =>
 (bif (!listOk) then
 some false
 else
 ((impl_in at_ 0 (w64 ((list.length : Int) - 2))).bind fun in_ =>
 (bif (!in_) then
 some false
 else
 ((idx list at_).bind fun entry =>
 ((idx list (w64 (at_ + 1))).bind fun entry1 =>
 (bif entry.None then
 some true
 else
 (bif entry1.None then
 some true
 else
 (bif (entry.Req.Who == entry1.Req.Who) then
 some false
 else
 ((loop (fun s : Int => impl_HistSwap_b1 entry entry1 s) 0).bind fun x => x.go (fun r => some r) fun s => impl_HistSwap_k2))))))))))
theorem impl_HistSwap_fin (list : List TEntry) (at_ : Int) (r : Bool) (h : impl_HistSwap list at_ = some r) : Fin cx impl_HistSwap_X (impl_HistSwap_R r) (impl_HistSwap_O r) [.code impl_HistSwap_c] (startS impl_HistSwap_X [vsl 7 eEntry list, vi at_]) :=
  (bindD h fun listOk hlistOk h =>
 (condD h (fun e1 h =>
 (someD h fun e => (Fin.fin (cx := cx) (X := impl_HistSwap_X) (res := impl_HistSwap_R false) (outs := impl_HistSwap_O false) Try.func5 [[], [(1, { a := .call [.val [some 7] []] false (impl_listOk_R listOk) (impl_listOk_O listOk) }), (3, { d := some true })], []] [ACalls cx.P 13 [vsl 7 eEntry list] (impl_listOk_R listOk) (impl_listOk_O listOk), (!listOk) = true] (.cons (impl_listOk_ok list listOk hlistOk) (.cons e1 .nil)) (by kernel_rfl)).is (congrArg impl_HistSwap_R e) (congrArg impl_HistSwap_O e))) (fun e1 h =>
 (bindD h fun in_ hin_ h =>
 (condD h (fun e2 h =>
 (someD h fun e => (Fin.fin (cx := cx) (X := impl_HistSwap_X) (res := impl_HistSwap_R false) (outs := impl_HistSwap_O false) Try.func5 [[], [(1, { a := .call [.val [some 7] []] false (impl_listOk_R listOk) (impl_listOk_O listOk) }), (3, { d := some false }), (8, { a := .call [.val [] [], .val [] [], .val [] []] false (impl_in_R in_) (impl_in_O in_) }), (10, { d := some true })], []] [ACalls cx.P 13 [vsl 7 eEntry list] (impl_listOk_R listOk) (impl_listOk_O listOk), (!listOk) = false, ACalls cx.P 14 [vi at_, vi 0, vi (w64 ((list.length : Int) - 2))] (impl_in_R in_) (impl_in_O in_), (!in_) = true] (.cons (impl_listOk_ok list listOk hlistOk) (.cons e1 (.cons (impl_in_ok at_ 0 (w64 ((list.length : Int) - 2)) in_ hin_) (.cons e2 .nil)))) (by kernel_rfl)).is (congrArg impl_HistSwap_R e) (congrArg impl_HistSwap_O e))) (fun e2 h =>
 (bindD h fun entry hentry h =>
 (bindD h fun entry1 hentry1 h =>
 (condD h (fun e3 h =>
 (someD h fun e => (Fin.fin (cx := cx) (X := impl_HistSwap_X) (res := impl_HistSwap_R true) (outs := impl_HistSwap_O true) Try.func5 [[], [(1, { a := .call [.val [some 7] []] false (impl_listOk_R listOk) (impl_listOk_O listOk) }), (3, { d := some false }), (8, { a := .call [.val [] [], .val [] [], .val [] []] false (impl_in_R in_) (impl_in_O in_) }), (10, { d := some false })], [(2, { a := .row (eEntry entry) }), (7, { a := .row (eEntry entry1) })], [(2, { d := some true })], []] [ACalls cx.P 13 [vsl 7 eEntry list] (impl_listOk_R listOk) (impl_listOk_O listOk), (!listOk) = false, ACalls cx.P 14 [vi at_, vi 0, vi (w64 ((list.length : Int) - 2))] (impl_in_R in_) (impl_in_O in_), (!in_) = false, (0 : Int) ≤ at_, at_ < ((list.length : Nat) : Int), (list.map eEntry)[at_.toNat]? = some (eEntry entry), (0 : Int) ≤ (w64 (at_ + 1)), (w64 (at_ + 1)) < ((list.length : Nat) : Int), (list.map eEntry)[(w64 (at_ + 1)).toNat]? = some (eEntry entry1), entry.None = true] (.cons (impl_listOk_ok list listOk hlistOk) (.cons e1 (.cons (impl_in_ok at_ 0 (w64 ((list.length : Int) - 2)) in_ hin_) (.cons e2 (.cons (idx0 hentry) (.cons (idx1 hentry) (.cons (map_idx hentry) (.cons (idx0 hentry1) (.cons (idx1 hentry1) (.cons (map_idx hentry1) (.cons e3 .nil))))))))))) (by kernel_rfl)).is (congrArg impl_HistSwap_R e) (congrArg impl_HistSwap_O e))) (fun e3 h =>
 (condD h (fun e4 h =>
 (someD h fun e => (Fin.fin (cx := cx) (X := impl_HistSwap_X) (res := impl_HistSwap_R true) (outs := impl_HistSwap_O true) Try.func5 [[], [(1, { a := .call [.val [some 7] []] false (impl_listOk_R listOk) (impl_listOk_O listOk) }), (3, { d := some false }), (8, { a := .call [.val [] [], .val [] [], .val [] []] false (impl_in_R in_) (impl_in_O in_) }), (10, { d := some false })], [(2, { a := .row (eEntry entry) }), (7, { a := .row (eEntry entry1) })], [(2, { d := some false }), (5, { d := some true })], []] [ACalls cx.P 13 [vsl 7 eEntry list] (impl_listOk_R listOk) (impl_listOk_O listOk), (!listOk) = false, ACalls cx.P 14 [vi at_, vi 0, vi (w64 ((list.length : Int) - 2))] (impl_in_R in_) (impl_in_O in_), (!in_) = false, (0 : Int) ≤ at_, at_ < ((list.length : Nat) : Int), (list.map eEntry)[at_.toNat]? = some (eEntry entry), (0 : Int) ≤ (w64 (at_ + 1)), (w64 (at_ + 1)) < ((list.length : Nat) : Int), (list.map eEntry)[(w64 (at_ + 1)).toNat]? = some (eEntry entry1), entry.None = false, entry1.None = true] (.cons (impl_listOk_ok list listOk hlistOk) (.cons e1 (.cons (impl_in_ok at_ 0 (w64 ((list.length : Int) - 2)) in_ hin_) (.cons e2 (.cons (idx0 hentry) (.cons (idx1 hentry) (.cons (map_idx hentry) (.cons (idx0 hentry1) (.cons (idx1 hentry1) (.cons (map_idx hentry1) (.cons e3 (.cons e4 .nil)))))))))))) (by kernel_rfl)).is (congrArg impl_HistSwap_R e) (congrArg impl_HistSwap_O e))) (fun e4 h =>
 (condD h (fun e5 h =>
 (someD h fun e => (Fin.fin (cx := cx) (X := impl_HistSwap_X) (res := impl_HistSwap_R false) (outs := impl_HistSwap_O false) Try.func5 [[], [(1, { a := .call [.val [some 7] []] false (impl_listOk_R listOk) (impl_listOk_O listOk) }), (3, { d := some false }), (8, { a := .call [.val [] [], .val [] [], .val [] []] false (impl_in_R in_) (impl_in_O in_) }), (10, { d := some false })], [(2, { a := .row (eEntry entry) }), (7, { a := .row (eEntry entry1) })], [(2, { d := some false }), (5, { d := some false })], [(6, { d := some true })], []] [ACalls cx.P 13 [vsl 7 eEntry list] (impl_listOk_R listOk) (impl_listOk_O listOk), (!listOk) = false, ACalls cx.P 14 [vi at_, vi 0, vi (w64 ((list.length : Int) - 2))] (impl_in_R in_) (impl_in_O in_), (!in_) = false, (0 : Int) ≤ at_, at_ < ((list.length : Nat) : Int), (list.map eEntry)[at_.toNat]? = some (eEntry entry), (0 : Int) ≤ (w64 (at_ + 1)), (w64 (at_ + 1)) < ((list.length : Nat) : Int), (list.map eEntry)[(w64 (at_ + 1)).toNat]? = some (eEntry entry1), entry.None = false, entry1.None = false, (entry.Req.Who == entry1.Req.Who) = true] (.cons (impl_listOk_ok list listOk hlistOk) (.cons e1 (.cons (impl_in_ok at_ 0 (w64 ((list.length : Int) - 2)) in_ hin_) (.cons e2 (.cons (idx0 hentry) (.cons (idx1 hentry) (.cons (map_idx hentry) (.cons (idx0 hentry1) (.cons (idx1 hentry1) (.cons (map_idx hentry1) (.cons e3 (.cons e4 (.cons e5 .nil))))))))))))) (by kernel_rfl)).is (congrArg impl_HistSwap_R e) (congrArg impl_HistSwap_O e))) (fun e5 h =>
 (loopJ h fun x hl hr hb => (Fin.seg [[], [(1, { a := .call [.val [some 7] []] false (impl_listOk_R listOk) (impl_listOk_O listOk) }), (3, { d := some false }), (8, { a := .call [.val [] [], .val [] [], .val [] []] false (impl_in_R in_) (impl_in_O in_) }), (10, { d := some false })], [(2, { a := .row (eEntry entry) }), (7, { a := .row (eEntry entry1) })], [(2, { d := some false }), (5, { d := some false })], [(6, { d := some false })], []] [] [5, 6, 7] [(22, 0), (23, 0)] [ACalls cx.P 13 [vsl 7 eEntry list] (impl_listOk_R listOk) (impl_listOk_O listOk), (!listOk) = false, ACalls cx.P 14 [vi at_, vi 0, vi (w64 ((list.length : Int) - 2))] (impl_in_R in_) (impl_in_O in_), (!in_) = false, (0 : Int) ≤ at_, at_ < ((list.length : Nat) : Int), (list.map eEntry)[at_.toNat]? = some (eEntry entry), (0 : Int) ≤ (w64 (at_ + 1)), (w64 (at_ + 1)) < ((list.length : Nat) : Int), (list.map eEntry)[(w64 (at_ + 1)).toNat]? = some (eEntry entry1), entry.None = false, entry1.None = false, (entry.Req.Who == entry1.Req.Who) = false] (.cons (impl_listOk_ok list listOk hlistOk) (.cons e1 (.cons (impl_in_ok at_ 0 (w64 ((list.length : Int) - 2)) in_ hin_) (.cons e2 (.cons (idx0 hentry) (.cons (idx1 hentry) (.cons (map_idx hentry) (.cons (idx0 hentry1) (.cons (idx1 hentry1) (.cons (map_idx hentry1) (.cons e3 (.cons e4 (.cons e5 .nil))))))))))))) (impl_HistSwap_b1_loop entry entry1 _ _ x (fun s e => impl_HistSwap_k2_ok r (hb s e)) (fun v e => ⟨congrArg impl_HistSwap_R (Option.some.inj (hr v e)).symm, congrArg impl_HistSwap_O (Option.some.inj (hr v e)).symm⟩) 0 hl) (by kernel_rfl)))))))))))))))))
theorem impl_HistSwap_ok (list : List TEntry) (at_ : Int) (r : Bool) (h : impl_HistSwap list at_ = some r) : ACalls cx.P 5 [vsl 7 eEntry list, vi at_] (impl_HistSwap_R r) (impl_HistSwap_O r) :=
  ACalls.of (cx := cx) (X := impl_HistSwap_X) (c := impl_HistSwap_c) Try.func5 (by kernel_rfl) (by kernel_rfl) (by kernel_rfl) (impl_HistSwap_fin list at_ r h)

/-! ### impl_BoxOpen -/
noncomputable def impl_BoxOpen_c : Code := bodyOf Try.f43
noncomputable def impl_BoxOpen_X : Sig := { f := 43, fn := Try.f43, rms := [.val [some 2] []], oms := [] }
noncomputable def impl_BoxOpen_R (r : List TBox) : V := vsl 2 eBox r
noncomputable def impl_BoxOpen_O (r : List TBox) : List (Option V) := []
noncomputable def impl_BoxOpen : Option (List TBox) :=
  (need (0 ≤ (4 : Int) ∧ (4 : Int) * 16 ≤ 140737488355328)
 (some (List.replicate (4 : Int).toNat (TBox.mk 0 0))))
theorem impl_BoxOpen_fin (r : List TBox) (h : impl_BoxOpen  = some r) : Fin cx impl_BoxOpen_X (impl_BoxOpen_R r) (impl_BoxOpen_O r) [.code impl_BoxOpen_c] (startS impl_BoxOpen_X []) :=
  (needD h fun e1 h =>
 (someD h fun e => (Fin.fin (cx := cx) (X := impl_BoxOpen_X) (res := impl_BoxOpen_R (List.replicate (4 : Int).toNat (TBox.mk 0 0))) (outs := impl_BoxOpen_O (List.replicate (4 : Int).toNat (TBox.mk 0 0))) Try.func43 [[], [(0, { e := some (erow 70 2 eBox (List.replicate (4 : Int).toNat (TBox.mk 0 0))), v := some (.own 2 0 2 0 (List.replicate (4 : Int).toNat (TBox.mk 0 0)).length) })]] [V.own 2 0 2 0 (4 : Int).toNat = .own 2 0 2 0 (List.replicate (4 : Int).toNat (TBox.mk 0 0)).length, Ent.row 70 2 (4 : Int).toNat (List.replicate (4 : Int).toNat [vi 0, vi 0]) = erow 70 2 eBox (List.replicate (4 : Int).toNat (TBox.mk 0 0)), (0 : Int) ≤ (4 : Int), (4 : Int) = (4 : Int), (4 : Int) * ((16 : Nat) : Int) ≤ 140737488355328 ∧ 0 < 16, ([vi 0, vi 0] : List V).length = 2, (List.replicate (4 : Int).toNat (TBox.mk 0 0)).length = (List.replicate (4 : Int).toNat (TBox.mk 0 0)).length] (.cons (by simp) (.cons (row_rep rfl) (.cons e1.1 (.cons rfl (.cons ⟨e1.2, by decide⟩ (.cons rfl (.cons rfl .nil))))))) (by kernel_rfl)).is (congrArg impl_BoxOpen_R e) (congrArg impl_BoxOpen_O e)))
theorem impl_BoxOpen_ok (r : List TBox) (h : impl_BoxOpen  = some r) : ACalls cx.P 43 [] (impl_BoxOpen_R r) (impl_BoxOpen_O r) :=
  ACalls.of (cx := cx) (X := impl_BoxOpen_X) (c := impl_BoxOpen_c) Try.func43 (by kernel_rfl) (by kernel_rfl) (by kernel_rfl) (impl_BoxOpen_fin r h)

/-! ### impl_CertOpen -/
noncomputable def impl_CertOpen_c : Code := bodyOf Try.f29
noncomputable def impl_CertOpen_X : Sig := { f := 29, fn := Try.f29, rms := [.val [none, some 2, some 4] []], oms := [] }
noncomputable def impl_CertOpen_R (r : TState) : V := .agg (eState r)
noncomputable def impl_CertOpen_O (r : TState) : List (Option V) := []
noncomputable def impl_CertOpen : Option TState :=
  ((impl_BoxOpen).bind fun boxOpen =>
 some (TState.mk 0 boxOpen []))
theorem impl_CertOpen_fin (r : TState) (h : impl_CertOpen  = some r) : Fin cx impl_CertOpen_X (impl_CertOpen_R r) (impl_CertOpen_O r) [.code impl_CertOpen_c] (startS impl_CertOpen_X []) :=
  (bindD h fun boxOpen hboxOpen h =>
 (someD h fun e => (Fin.fin (cx := cx) (X := impl_CertOpen_X) (res := impl_CertOpen_R (TState.mk 0 boxOpen [])) (outs := impl_CertOpen_O (TState.mk 0 boxOpen [])) Try.func29 [[], [(0, { a := .call [] false (impl_BoxOpen_R boxOpen) (impl_BoxOpen_O boxOpen) })]] [ACalls cx.P 43 [] (impl_BoxOpen_R boxOpen) (impl_BoxOpen_O boxOpen)] (.cons (impl_BoxOpen_ok boxOpen hboxOpen) .nil) (by kernel_rfl)).is (congrArg impl_CertOpen_R e) (congrArg impl_CertOpen_O e)))
theorem impl_CertOpen_ok (r : TState) (h : impl_CertOpen  = some r) : ACalls cx.P 29 [] (impl_CertOpen_R r) (impl_CertOpen_O r) :=
  ACalls.of (cx := cx) (X := impl_CertOpen_X) (c := impl_CertOpen_c) Try.func29 (by kernel_rfl) (by kernel_rfl) (by kernel_rfl) (impl_CertOpen_fin r h)

/-! ### impl_BoxOk -/
noncomputable def impl_BoxOk_c : Code := bodyOf Try.f64
noncomputable def impl_BoxOk_X : Sig := { f := 64, fn := Try.f64, rms := [.val [] []], oms := [none] }
noncomputable def impl_BoxOk_R (r : Bool) : V := .b r
noncomputable def impl_BoxOk_O (r : Bool) : List (Option V) := [none]
noncomputable def impl_BoxOk_k1 : List Item := posI 2000 3 [false] [.code impl_BoxOk_c]
noncomputable def impl_BoxOk_S1 (list : List TBox) : St := ⟨(vsl 2 eBox list :: (bs 24 [])), [some []]⟩
noncomputable def impl_BoxOk_k2 (list : List TBox) : Option Bool :=
  some ((list.length : Int) == 4)
theorem impl_BoxOk_k2_ok (list : List TBox) (r : Bool) (h : impl_BoxOk_k2 list = some r) : Fin cx impl_BoxOk_X (impl_BoxOk_R r) (impl_BoxOk_O r) impl_BoxOk_k1 (impl_BoxOk_S1 list) :=
  (someD h fun e => (Fin.fin (cx := cx) (X := impl_BoxOk_X) (res := impl_BoxOk_R ((list.length : Int) == 4)) (outs := impl_BoxOk_O ((list.length : Int) == 4)) Try.func64 [[]] [] .nil (by kernel_rfl)).is (congrArg impl_BoxOk_R e) (congrArg impl_BoxOk_O e))
noncomputable def impl_BoxOk_k3 : List Item := posI 2000 2 [] [.code impl_BoxOk_c]
noncomputable def impl_BoxOk_S2 (list : List TBox) (v7 : Int) : St := ⟨(vsl 2 eBox list :: (bs 4 (vsl 2 eBox list :: (vi (list.length : Int) :: (vi v7 :: (bs 17 [])))))), [some []]⟩
noncomputable def impl_BoxOk_b1 (list : List TBox) (v7 : Int) : Option (Stp Bool Int Unit) :=
  (bif decide (v7 < (list.length : Int)) then
 ((idx list v7).bind fun box =>
 ((impl_in box.Ver 0 1000000).bind fun in_ =>
 (bif (!in_) then
 some (Stp.ret false)
 else
 ((impl_in box.Val (-1000000) 1000000).bind fun in_1 =>
 (bif (!in_1) then
 some (Stp.ret false)
 else
 some (Stp.nxt (w64 (v7 + 1))))))))
 else
 some (Stp.brk ()))
theorem impl_BoxOk_b1_ok (list : List TBox) (res : V) (outs : List (Option V)) (x1 : Exc Bool Unit) (hb1 : ∀ s : Unit, x1 = .brk s → Fin cx impl_BoxOk_X res outs impl_BoxOk_k1 (impl_BoxOk_S1 list)) (hr1 : ∀ v : Bool, x1 = .ret v → (res = impl_BoxOk_R v ∧ outs = impl_BoxOk_O v)) (st1 : Stp Bool Int Unit) (hc1 : Cont x1 (fun s : Int => Fin cx impl_BoxOk_X res outs impl_BoxOk_k3 (impl_BoxOk_S2 list s)) st1) (v7 : Int) (h : impl_BoxOk_b1 list v7 = some st1) : Fin cx impl_BoxOk_X res outs impl_BoxOk_k3 (impl_BoxOk_S2 list v7) :=
  (condD h (fun e1 h =>
 (bindD h fun box hbox h =>
 (bindD h fun in_ hin_ h =>
 (condD h (fun e2 h =>
 (retD h hc1 fun e => (Fin.fin (cx := cx) (X := impl_BoxOk_X) (res := impl_BoxOk_R false) (outs := impl_BoxOk_O false) Try.func64 [[(0, { d := some true })], [(0, { a := .row (eBox box) })], [(2, { a := .call [.val [] [], .val [] [], .val [] []] false (impl_in_R in_) (impl_in_O in_) }), (4, { d := some true })], []] [decide (v7 < (list.length : Int)) = true, (0 : Int) ≤ v7, v7 < ((list.length : Nat) : Int), (list.map eBox)[v7.toNat]? = some (eBox box), ACalls cx.P 14 [vi box.Ver, vi 0, vi 1000000] (impl_in_R in_) (impl_in_O in_), (!in_) = true] (.cons e1 (.cons (idx0 hbox) (.cons (idx1 hbox) (.cons (map_idx hbox) (.cons (impl_in_ok box.Ver 0 1000000 in_ hin_) (.cons e2 .nil)))))) (by kernel_rfl)).is (hr1 _ e).1 (hr1 _ e).2)) (fun e2 h =>
 (bindD h fun in_1 hin_1 h =>
 (condD h (fun e3 h =>
 (retD h hc1 fun e => (Fin.fin (cx := cx) (X := impl_BoxOk_X) (res := impl_BoxOk_R false) (outs := impl_BoxOk_O false) Try.func64 [[(0, { d := some true })], [(0, { a := .row (eBox box) })], [(2, { a := .call [.val [] [], .val [] [], .val [] []] false (impl_in_R in_) (impl_in_O in_) }), (4, { d := some false }), (7, { a := .call [.val [] [], .val [] [], .val [] []] false (impl_in_R in_1) (impl_in_O in_1) }), (9, { d := some true })], []] [decide (v7 < (list.length : Int)) = true, (0 : Int) ≤ v7, v7 < ((list.length : Nat) : Int), (list.map eBox)[v7.toNat]? = some (eBox box), ACalls cx.P 14 [vi box.Ver, vi 0, vi 1000000] (impl_in_R in_) (impl_in_O in_), (!in_) = false, ACalls cx.P 14 [vi box.Val, vi (-1000000), vi 1000000] (impl_in_R in_1) (impl_in_O in_1), (!in_1) = true] (.cons e1 (.cons (idx0 hbox) (.cons (idx1 hbox) (.cons (map_idx hbox) (.cons (impl_in_ok box.Ver 0 1000000 in_ hin_) (.cons e2 (.cons (impl_in_ok box.Val (-1000000) 1000000 in_1 hin_1) (.cons e3 .nil)))))))) (by kernel_rfl)).is (hr1 _ e).1 (hr1 _ e).2)) (fun e3 h =>
 (nxtD h hc1 fun hI => (Fin.seg [[(0, { d := some true })], [(0, { a := .row (eBox box) })], [(2, { a := .call [.val [] [], .val [] [], .val [] []] false (impl_in_R in_) (impl_in_O in_) }), (4, { d := some false }), (7, { a := .call [.val [] [], .val [] [], .val [] []] false (impl_in_R in_1) (impl_in_O in_1) }), (9, { d := some false })], []] [] [0, 5, 6, 7] [] [decide (v7 < (list.length : Int)) = true, (0 : Int) ≤ v7, v7 < ((list.length : Nat) : Int), (list.map eBox)[v7.toNat]? = some (eBox box), ACalls cx.P 14 [vi box.Ver, vi 0, vi 1000000] (impl_in_R in_) (impl_in_O in_), (!in_) = false, ACalls cx.P 14 [vi box.Val, vi (-1000000), vi 1000000] (impl_in_R in_1) (impl_in_O in_1), (!in_1) = false] (.cons e1 (.cons (idx0 hbox) (.cons (idx1 hbox) (.cons (map_idx hbox) (.cons (impl_in_ok box.Ver 0 1000000 in_ hin_) (.cons e2 (.cons (impl_in_ok box.Val (-1000000) 1000000 in_1 hin_1) (.cons e3 .nil)))))))) hI (by kernel_rfl))))))))))) (fun e1 h =>
 (brkD h hc1 fun e => (Fin.seg [[(0, { d := some false })]] [] [0] [] [decide (v7 < (list.length : Int)) = false] (.cons e1 .nil) (hb1 _ e) (by kernel_rfl)))))
theorem impl_BoxOk_b1_loop (list : List TBox) (res : V) (outs : List (Option V)) (x1 : Exc Bool Unit) (hb1 : ∀ s : Unit, x1 = .brk s → Fin cx impl_BoxOk_X res outs impl_BoxOk_k1 (impl_BoxOk_S1 list)) (hr1 : ∀ v : Bool, x1 = .ret v → (res = impl_BoxOk_R v ∧ outs = impl_BoxOk_O v)) (s : Int) (h : loop (fun s : Int => impl_BoxOk_b1 list s) s = some x1) : Fin cx impl_BoxOk_X res outs impl_BoxOk_k3 (impl_BoxOk_S2 list s) :=
  loopD (I := fun s : Int => Fin cx impl_BoxOk_X res outs impl_BoxOk_k3 (impl_BoxOk_S2 list s)) h fun s st h hc => impl_BoxOk_b1_ok list res outs x1 hb1 hr1 st hc s h
noncomputable def impl_BoxOk (list : List TBox) : Option Bool :=
  ((loop (fun s : Int => impl_BoxOk_b1 list s) 0).bind fun x => x.go (fun r => some r) fun s => impl_BoxOk_k2 list)
theorem impl_BoxOk_fin (list : List TBox) (r : Bool) (h : impl_BoxOk list = some r) : Fin cx impl_BoxOk_X (impl_BoxOk_R r) (impl_BoxOk_O r) [.code impl_BoxOk_c] (startS impl_BoxOk_X [vsl 2 eBox list]) :=
  (loopJ h fun x hl hr hb => (Fin.seg [[], []] [] [0, 5, 6, 7] [] [] .nil (impl_BoxOk_b1_loop list _ _ x (fun s e => impl_BoxOk_k2_ok list r (hb s e)) (fun v e => ⟨congrArg impl_BoxOk_R (Option.some.inj (hr v e)).symm, congrArg impl_BoxOk_O (Option.some.inj (hr v e)).symm⟩) 0 hl) (by kernel_rfl)))
theorem impl_BoxOk_ok (list : List TBox) (r : Bool) (h : impl_BoxOk list = some r) : ACalls cx.P 64 [vsl 2 eBox list] (impl_BoxOk_R r) (impl_BoxOk_O r) :=
  ACalls.of (cx := cx) (X := impl_BoxOk_X) (c := impl_BoxOk_c) Try.func64 (by kernel_rfl) (by kernel_rfl) (by kernel_rfl) (impl_BoxOk_fin list r h)

/-! ### impl_CertOk -/
noncomputable def impl_CertOk_c : Code := bodyOf Try.f44
noncomputable def impl_CertOk_X : Sig := { f := 44, fn := Try.f44, rms := [.val [] []], oms := [none] }
noncomputable def impl_CertOk_R (r : Bool) : V := .b r
noncomputable def impl_CertOk_O (r : Bool) : List (Option V) := [none]
noncomputable def impl_CertOk_k1 : List Item := posI 2000 3 [false] [.code impl_CertOk_c]
noncomputable def impl_CertOk_S1 (s_ : TState) : St := ⟨(bs 1 (.ptr 1 0 0 :: (bs 64 []))), [some [], some [.var 42 [vi s_.At, vsl 2 eBox s_.Boxes, vsl 4 eDone s_.Dones]]]⟩
noncomputable def impl_CertOk_k2 (s_ : TState) : Option Bool :=
  ((impl_in s_.At 0 40).bind fun in_ =>
 (bif in_ then
 ((impl_BoxOk s_.Boxes).bind fun boxOk =>
 some boxOk)
 else
 some false))
theorem impl_CertOk_k2_ok (s_ : TState) (r : Bool) (h : impl_CertOk_k2 s_ = some r) : Fin cx impl_CertOk_X (impl_CertOk_R r) (impl_CertOk_O r) impl_CertOk_k1 (impl_CertOk_S1 s_) :=
  (bindD h fun in_ hin_ h =>
 (condD h (fun e1 h =>
 (bindD h fun boxOk hboxOk h =>
 (someD h fun e => (Fin.fin (cx := cx) (X := impl_CertOk_X) (res := impl_CertOk_R boxOk) (outs := impl_CertOk_O boxOk) Try.func44 [[(2, { a := .call [.val [] [], .val [] [], .val [] []] false (impl_in_R in_) (impl_in_O in_) }), (3, { d := some true }), (6, { a := .call [.val [some 2] []] false (impl_BoxOk_R boxOk) (impl_BoxOk_O boxOk) })]] [ACalls cx.P 14 [vi s_.At, vi 0, vi 40] (impl_in_R in_) (impl_in_O in_), in_ = true, ACalls cx.P 64 [vsl 2 eBox s_.Boxes] (impl_BoxOk_R boxOk) (impl_BoxOk_O boxOk)] (.cons (impl_in_ok s_.At 0 40 in_ hin_) (.cons e1 (.cons (impl_BoxOk_ok s_.Boxes boxOk hboxOk) .nil))) (by kernel_rfl)).is (congrArg impl_CertOk_R e) (congrArg impl_CertOk_O e)))) (fun e1 h =>
 (someD h fun e => (Fin.fin (cx := cx) (X := impl_CertOk_X) (res := impl_CertOk_R false) (outs := impl_CertOk_O false) Try.func44 [[(2, { a := .call [.val [] [], .val [] [], .val [] []] false (impl_in_R in_) (impl_in_O in_) }), (3, { d := some false })]] [ACalls cx.P 14 [vi s_.At, vi 0, vi 40] (impl_in_R in_) (impl_in_O in_), in_ = false] (.cons (impl_in_ok s_.At 0 40 in_ hin_) (.cons e1 .nil)) (by kernel_rfl)).is (congrArg impl_CertOk_R e) (congrArg impl_CertOk_O e)))))
noncomputable def impl_CertOk_k3 : List Item := posI 2000 2 [] [.code impl_CertOk_c]
noncomputable def impl_CertOk_S2 (s_ : TState) (v8 : Int) : St := ⟨(bs 1 (.ptr 1 0 0 :: (bs 4 (vsl 4 eDone s_.Dones :: (vi (s_.Dones.length : Int) :: (vi v8 :: (bs 57 []))))))), [some [], some [.var 42 [vi s_.At, vsl 2 eBox s_.Boxes, vsl 4 eDone s_.Dones]]]⟩
noncomputable def impl_CertOk_k4 : List Item := posI 2000 5 [true, false] [.code impl_CertOk_c]
noncomputable def impl_CertOk_S3 (s_ : TState) (v8 : Int) : St := ⟨(bs 1 (.ptr 1 0 0 :: (bs 4 (vsl 4 eDone s_.Dones :: (vi (s_.Dones.length : Int) :: (vi v8 :: (bs 57 []))))))), [some [], some [.var 42 [vi s_.At, vsl 2 eBox s_.Boxes, vsl 4 eDone s_.Dones]]]⟩
noncomputable def impl_CertOk_j1 (v8 : Int) : Option (Stp Bool Int Unit) :=
  some (Stp.nxt (w64 (v8 + 1)))
theorem impl_CertOk_j1_ok (s_ : TState) (v8 : Int) (res : V) (outs : List (Option V)) (x1 : Exc Bool Unit) (hb1 : ∀ s : Unit, x1 = .brk s → Fin cx impl_CertOk_X res outs impl_CertOk_k1 (impl_CertOk_S1 s_)) (hr1 : ∀ v : Bool, x1 = .ret v → (res = impl_CertOk_R v ∧ outs = impl_CertOk_O v)) (st1 : Stp Bool Int Unit) (hc1 : Cont x1 (fun s : Int => Fin cx impl_CertOk_X res outs impl_CertOk_k3 (impl_CertOk_S2 s_ s)) st1) (h : impl_CertOk_j1 v8 = some st1) : Fin cx impl_CertOk_X res outs impl_CertOk_k4 (impl_CertOk_S3 s_ v8) :=
  (nxtD h hc1 fun hI => (Fin.seg [[]] [] [1, 6, 7, 8] [(1, 0)] [] .nil hI (by kernel_rfl)))
noncomputable def impl_CertOk_b1 (s_ : TState) (v8 : Int) : Option (Stp Bool Int Unit) :=
  (bif decide (v8 < (s_.Dones.length : Int)) then
 ((idx s_.Dones v8).bind fun done =>
 (((bif decide (v8 > 0) then
 ((idx s_.Dones (w64 (v8 - 1))).bind fun done1 =>
 (bif decide (done1.Req.Who ≥ done.Req.Who) then
 some (Exc.ret (Stp.ret false))
 else
 ((impl_reqOk done.Req).bind fun reqOk =>
 (bif (!reqOk) then
 some (Exc.ret (Stp.ret false))
 else
 ((impl_in done.Code 0 2).bind fun in_1 =>
 (bif (!in_1) then
 some (Exc.ret (Stp.ret false))
 else
 ((impl_in done.Val (-1000000) 1000000).bind fun in_2 =>
 (bif (!in_2) then
 some (Exc.ret (Stp.ret false))
 else
 (bif (done.Code != 0) then
 (bif (done.Val != 0) then
 some (Exc.ret (Stp.ret false))
 else
 some (Exc.brk ()))
 else
 some (Exc.brk ()))))))))))
 else
 ((impl_reqOk done.Req).bind fun reqOk1 =>
 (bif (!reqOk1) then
 some (Exc.ret (Stp.ret false))
 else
 ((impl_in done.Code 0 2).bind fun in_3 =>
 (bif (!in_3) then
 some (Exc.ret (Stp.ret false))
 else
 ((impl_in done.Val (-1000000) 1000000).bind fun in_4 =>
 (bif (!in_4) then
 some (Exc.ret (Stp.ret false))
 else
 (bif (done.Code != 0) then
 (bif (done.Val != 0) then
 some (Exc.ret (Stp.ret false))
 else
 some (Exc.brk ()))
 else
 some (Exc.brk ()))))))))) : Option (Exc (Stp Bool Int Unit) Unit)).bind fun x => x.go some fun j => impl_CertOk_j1 v8))
 else
 some (Stp.brk ()))
theorem impl_CertOk_b1_ok (s_ : TState) (res : V) (outs : List (Option V)) (x1 : Exc Bool Unit) (hb1 : ∀ s : Unit, x1 = .brk s → Fin cx impl_CertOk_X res outs impl_CertOk_k1 (impl_CertOk_S1 s_)) (hr1 : ∀ v : Bool, x1 = .ret v → (res = impl_CertOk_R v ∧ outs = impl_CertOk_O v)) (st1 : Stp Bool Int Unit) (hc1 : Cont x1 (fun s : Int => Fin cx impl_CertOk_X res outs impl_CertOk_k3 (impl_CertOk_S2 s_ s)) st1) (v8 : Int) (h : impl_CertOk_b1 s_ v8 = some st1) : Fin cx impl_CertOk_X res outs impl_CertOk_k3 (impl_CertOk_S2 s_ v8) :=
  (condD h (fun e2 h =>
 (bindD h fun done hdone h =>
 (joinD (I := fun j : Unit => Fin cx impl_CertOk_X res outs impl_CertOk_k4 (impl_CertOk_S3 s_ v8)) h (fun j h => impl_CertOk_j1_ok s_ v8 res outs x1 hb1 hr1 st1 hc1 h) (fun x2 h hc2 =>
  (condD h (fun e3 h =>
 (bindD h fun done1 hdone1 h =>
 (condD h (fun e4 h =>
 (jretD h hc2 fun h => (retD h hc1 fun e => (Fin.fin (cx := cx) (X := impl_CertOk_X) (res := impl_CertOk_R false) (outs := impl_CertOk_O false) Try.func44 [[(0, { d := some true })], [(1, { a := .row (eDone done) })], [(2, { d := some true }), (7, { a := .row (eDone done1) }), (16, { d := some true })], []] [decide (v8 < (s_.Dones.length : Int)) = true, (0 : Int) ≤ v8, v8 < ((s_.Dones.length : Nat) : Int), (s_.Dones.map eDone)[v8.toNat]? = some (eDone done), decide (v8 > 0) = true, (0 : Int) ≤ (w64 (v8 - 1)), (w64 (v8 - 1)) < ((s_.Dones.length : Nat) : Int), (s_.Dones.map eDone)[(w64 (v8 - 1)).toNat]? = some (eDone done1), decide (done1.Req.Who ≥ done.Req.Who) = true] (.cons e2 (.cons (idx0 hdone) (.cons (idx1 hdone) (.cons (map_idx hdone) (.cons e3 (.cons (idx0 hdone1) (.cons (idx1 hdone1) (.cons (map_idx hdone1) (.cons e4 .nil))))))))) (by kernel_rfl)).is (hr1 _ e).1 (hr1 _ e).2))) (fun e4 h =>
 (bindD h fun reqOk hreqOk h =>
 (condD h (fun e5 h =>
 (jretD h hc2 fun h => (retD h hc1 fun e => (Fin.fin (cx := cx) (X := impl_CertOk_X) (res := impl_CertOk_R false) (outs := impl_CertOk_O false) Try.func44 [[(0, { d := some true })], [(1, { a := .row (eDone done) })], [(2, { d := some true }), (7, { a := .row (eDone done1) }), (16, { d := some false }), (19, { a := .call [.val [] []] false (impl_reqOk_R reqOk) (impl_reqOk_O reqOk) }), (22, { d := some true })], []] [decide (v8 < (s_.Dones.length : Int)) = true, (0 : Int) ≤ v8, v8 < ((s_.Dones.length : Nat) : Int), (s_.Dones.map eDone)[v8.toNat]? = some (eDone done), decide (v8 > 0) = true, (0 : Int) ≤ (w64 (v8 - 1)), (w64 (v8 - 1)) < ((s_.Dones.length : Nat) : Int), (s_.Dones.map eDone)[(w64 (v8 - 1)).toNat]? = some (eDone done1), decide (done1.Req.Who ≥ done.Req.Who) = false, ACalls cx.P 41 [.agg (eReq done.Req)] (impl_reqOk_R reqOk) (impl_reqOk_O reqOk), (!reqOk) = true] (.cons e2 (.cons (idx0 hdone) (.cons (idx1 hdone) (.cons (map_idx hdone) (.cons e3 (.cons (idx0 hdone1) (.cons (idx1 hdone1) (.cons (map_idx hdone1) (.cons e4 (.cons (impl_reqOk_ok done.Req reqOk hreqOk) (.cons e5 .nil))))))))))) (by kernel_rfl)).is (hr1 _ e).1 (hr1 _ e).2))) (fun e5 h =>
 (bindD h fun in_1 hin_1 h =>
 (condD h (fun e6 h =>
 (jretD h hc2 fun h => (retD h hc1 fun e => (Fin.fin (cx := cx) (X := impl_CertOk_X) (res := impl_CertOk_R false) (outs := impl_CertOk_O false) Try.func44 [[(0, { d := some true })], [(1, { a := .row (eDone done) })], [(2, { d := some true }), (7, { a := .row (eDone done1) }), (16, { d := some false }), (19, { a := .call [.val [] []] false (impl_reqOk_R reqOk) (impl_reqOk_O reqOk) }), (22, { d := some false }), (25, { a := .call [.val [] [], .val [] [], .val [] []] false (impl_in_R in_1) (impl_in_O in_1) }), (28, { d := some true })], []] [decide (v8 < (s_.Dones.length : Int)) = true, (0 : Int) ≤ v8, v8 < ((s_.Dones.length : Nat) : Int), (s_.Dones.map eDone)[v8.toNat]? = some (eDone done), decide (v8 > 0) = true, (0 : Int) ≤ (w64 (v8 - 1)), (w64 (v8 - 1)) < ((s_.Dones.length : Nat) : Int), (s_.Dones.map eDone)[(w64 (v8 - 1)).toNat]? = some (eDone done1), decide (done1.Req.Who ≥ done.Req.Who) = false, ACalls cx.P 41 [.agg (eReq done.Req)] (impl_reqOk_R reqOk) (impl_reqOk_O reqOk), (!reqOk) = false, ACalls cx.P 14 [vi done.Code, vi 0, vi 2] (impl_in_R in_1) (impl_in_O in_1), (!in_1) = true] (.cons e2 (.cons (idx0 hdone) (.cons (idx1 hdone) (.cons (map_idx hdone) (.cons e3 (.cons (idx0 hdone1) (.cons (idx1 hdone1) (.cons (map_idx hdone1) (.cons e4 (.cons (impl_reqOk_ok done.Req reqOk hreqOk) (.cons e5 (.cons (impl_in_ok done.Code 0 2 in_1 hin_1) (.cons e6 .nil))))))))))))) (by kernel_rfl)).is (hr1 _ e).1 (hr1 _ e).2))) (fun e6 h =>
 (bindD h fun in_2 hin_2 h =>
 (condD h (fun e7 h =>
 (jretD h hc2 fun h => (retD h hc1 fun e => (Fin.fin (cx := cx) (X := impl_CertOk_X) (res := impl_CertOk_R false) (outs := impl_CertOk_O false) Try.func44 [[(0, { d := some true })], [(1, { a := .row (eDone done) })], [(2, { d := some true }), (7, { a := .row (eDone done1) }), (16, { d := some false }), (19, { a := .call [.val [] []] false (impl_reqOk_R reqOk) (impl_reqOk_O reqOk) }), (22, { d := some false }), (25, { a := .call [.val [] [], .val [] [], .val [] []] false (impl_in_R in_1) (impl_in_O in_1) }), (28, { d := some false }), (31, { a := .call [.val [] [], .val [] [], .val [] []] false (impl_in_R in_2) (impl_in_O in_2) }), (34, { d := some true })], []] [decide (v8 < (s_.Dones.length : Int)) = true, (0 : Int) ≤ v8, v8 < ((s_.Dones.length : Nat) : Int), (s_.Dones.map eDone)[v8.toNat]? = some (eDone done), decide (v8 > 0) = true, (0 : Int) ≤ (w64 (v8 - 1)), (w64 (v8 - 1)) < ((s_.Dones.length : Nat) : Int), (s_.Dones.map eDone)[(w64 (v8 - 1)).toNat]? = some (eDone done1), decide (done1.Req.Who ≥ done.Req.Who) = false, ACalls cx.P 41 [.agg (eReq done.Req)] (impl_reqOk_R reqOk) (impl_reqOk_O reqOk), (!reqOk) = false, ACalls cx.P 14 [vi done.Code, vi 0, vi 2] (impl_in_R in_1) (impl_in_O in_1), (!in_1) = false, ACalls cx.P 14 [vi done.Val, vi (-1000000), vi 1000000] (impl_in_R in_2) (impl_in_O in_2), (!in_2) = true] (.cons e2 (.cons (idx0 hdone) (.cons (idx1 hdone) (.cons (map_idx hdone) (.cons e3 (.cons (idx0 hdone1) (.cons (idx1 hdone1) (.cons (map_idx hdone1) (.cons e4 (.cons (impl_reqOk_ok done.Req reqOk hreqOk) (.cons e5 (.cons (impl_in_ok done.Code 0 2 in_1 hin_1) (.cons e6 (.cons (impl_in_ok done.Val (-1000000) 1000000 in_2 hin_2) (.cons e7 .nil))))))))))))))) (by kernel_rfl)).is (hr1 _ e).1 (hr1 _ e).2))) (fun e7 h =>
 (condD h (fun e8 h =>
 (condD h (fun e9 h =>
 (jretD h hc2 fun h => (retD h hc1 fun e => (Fin.fin (cx := cx) (X := impl_CertOk_X) (res := impl_CertOk_R false) (outs := impl_CertOk_O false) Try.func44 [[(0, { d := some true })], [(1, { a := .row (eDone done) })], [(2, { d := some true }), (7, { a := .row (eDone done1) }), (16, { d := some false }), (19, { a := .call [.val [] []] false (impl_reqOk_R reqOk) (impl_reqOk_O reqOk) }), (22, { d := some false }), (25, { a := .call [.val [] [], .val [] [], .val [] []] false (impl_in_R in_1) (impl_in_O in_1) }), (28, { d := some false }), (31, { a := .call [.val [] [], .val [] [], .val [] []] false (impl_in_R in_2) (impl_in_O in_2) }), (34, { d := some false }), (38, { d := some true }), (43, { d := some true })], []] [decide (v8 < (s_.Dones.length : Int)) = true, (0 : Int) ≤ v8, v8 < ((s_.Dones.length : Nat) : Int), (s_.Dones.map eDone)[v8.toNat]? = some (eDone done), decide (v8 > 0) = true, (0 : Int) ≤ (w64 (v8 - 1)), (w64 (v8 - 1)) < ((s_.Dones.length : Nat) : Int), (s_.Dones.map eDone)[(w64 (v8 - 1)).toNat]? = some (eDone done1), decide (done1.Req.Who ≥ done.Req.Who) = false, ACalls cx.P 41 [.agg (eReq done.Req)] (impl_reqOk_R reqOk) (impl_reqOk_O reqOk), (!reqOk) = false, ACalls cx.P 14 [vi done.Code, vi 0, vi 2] (impl_in_R in_1) (impl_in_O in_1), (!in_1) = false, ACalls cx.P 14 [vi done.Val, vi (-1000000), vi 1000000] (impl_in_R in_2) (impl_in_O in_2), (!in_2) = false, (done.Code != 0) = true, (done.Val != 0) = true] (.cons e2 (.cons (idx0 hdone) (.cons (idx1 hdone) (.cons (map_idx hdone) (.cons e3 (.cons (idx0 hdone1) (.cons (idx1 hdone1) (.cons (map_idx hdone1) (.cons e4 (.cons (impl_reqOk_ok done.Req reqOk hreqOk) (.cons e5 (.cons (impl_in_ok done.Code 0 2 in_1 hin_1) (.cons e6 (.cons (impl_in_ok done.Val (-1000000) 1000000 in_2 hin_2) (.cons e7 (.cons e8 (.cons e9 .nil))))))))))))))))) (by kernel_rfl)).is (hr1 _ e).1 (hr1 _ e).2))) (fun e9 h =>
 (jbrkD h hc2 fun hI => (Fin.seg [[(0, { d := some true })], [(1, { a := .row (eDone done) })], [(2, { d := some true }), (7, { a := .row (eDone done1) }), (16, { d := some false }), (19, { a := .call [.val [] []] false (impl_reqOk_R reqOk) (impl_reqOk_O reqOk) }), (22, { d := some false }), (25, { a := .call [.val [] [], .val [] [], .val [] []] false (impl_in_R in_1) (impl_in_O in_1) }), (28, { d := some false }), (31, { a := .call [.val [] [], .val [] [], .val [] []] false (impl_in_R in_2) (impl_in_O in_2) }), (34, { d := some false }), (38, { d := some true }), (43, { d := some false })]] [] [1, 6, 7, 8] [(1, 0)] [decide (v8 < (s_.Dones.length : Int)) = true, (0 : Int) ≤ v8, v8 < ((s_.Dones.length : Nat) : Int), (s_.Dones.map eDone)[v8.toNat]? = some (eDone done), decide (v8 > 0) = true, (0 : Int) ≤ (w64 (v8 - 1)), (w64 (v8 - 1)) < ((s_.Dones.length : Nat) : Int), (s_.Dones.map eDone)[(w64 (v8 - 1)).toNat]? = some (eDone done1), decide (done1.Req.Who ≥ done.Req.Who) = false, ACalls cx.P 41 [.agg (eReq done.Req)] (impl_reqOk_R reqOk) (impl_reqOk_O reqOk), (!reqOk) = false, ACalls cx.P 14 [vi done.Code, vi 0, vi 2] (impl_in_R in_1) (impl_in_O in_1), (!in_1) = false, ACalls cx.P 14 [vi done.Val, vi (-1000000), vi 1000000] (impl_in_R in_2) (impl_in_O in_2), (!in_2) = false, (done.Code != 0) = true, (done.Val != 0) = false] (.cons e2 (.cons (idx0 hdone) (.cons (idx1 hdone) (.cons (map_idx hdone) (.cons e3 (.cons (idx0 hdone1) (.cons (idx1 hdone1) (.cons (map_idx hdone1) (.cons e4 (.cons (impl_reqOk_ok done.Req reqOk hreqOk) (.cons e5 (.cons (impl_in_ok done.Code 0 2 in_1 hin_1) (.cons e6 (.cons (impl_in_ok done.Val (-1000000) 1000000 in_2 hin_2) (.cons e7 (.cons e8 (.cons e9 .nil))))))))))))))))) hI (by kernel_rfl)))))) (fun e8 h =>
 (jbrkD h hc2 fun hI => (Fin.seg [[(0, { d := some true })], [(1, { a := .row (eDone done) })], [(2, { d := some true }), (7, { a := .row (eDone done1) }), (16, { d := some false }), (19, { a := .call [.val [] []] false (impl_reqOk_R reqOk) (impl_reqOk_O reqOk) }), (22, { d := some false }), (25, { a := .call [.val [] [], .val [] [], .val [] []] false (impl_in_R in_1) (impl_in_O in_1) }), (28, { d := some false }), (31, { a := .call [.val [] [], .val [] [], .val [] []] false (impl_in_R in_2) (impl_in_O in_2) }), (34, { d := some false }), (38, { d := some false })]] [] [1, 6, 7, 8] [(1, 0)] [decide (v8 < (s_.Dones.length : Int)) = true, (0 : Int) ≤ v8, v8 < ((s_.Dones.length : Nat) : Int), (s_.Dones.map eDone)[v8.toNat]? = some (eDone done), decide (v8 > 0) = true, (0 : Int) ≤ (w64 (v8 - 1)), (w64 (v8 - 1)) < ((s_.Dones.length : Nat) : Int), (s_.Dones.map eDone)[(w64 (v8 - 1)).toNat]? = some (eDone done1), decide (done1.Req.Who ≥ done.Req.Who) = false, ACalls cx.P 41 [.agg (eReq done.Req)] (impl_reqOk_R reqOk) (impl_reqOk_O reqOk), (!reqOk) = false, ACalls cx.P 14 [vi done.Code, vi 0, vi 2] (impl_in_R in_1) (impl_in_O in_1), (!in_1) = false, ACalls cx.P 14 [vi done.Val, vi (-1000000), vi 1000000] (impl_in_R in_2) (impl_in_O in_2), (!in_2) = false, (done.Code != 0) = false] (.cons e2 (.cons (idx0 hdone) (.cons (idx1 hdone) (.cons (map_idx hdone) (.cons e3 (.cons (idx0 hdone1) (.cons (idx1 hdone1) (.cons (map_idx hdone1) (.cons e4 (.cons (impl_reqOk_ok done.Req reqOk hreqOk) (.cons e5 (.cons (impl_in_ok done.Code 0 2 in_1 hin_1) (.cons e6 (.cons (impl_in_ok done.Val (-1000000) 1000000 in_2 hin_2) (.cons e7 (.cons e8 .nil)))))))))))))))) hI (by kernel_rfl)))))))))))))))))) (fun e3 h =>
 (bindD h fun reqOk1 hreqOk1 h =>
 (condD h (fun e10 h =>
 (jretD h hc2 fun h => (retD h hc1 fun e => (Fin.fin (cx := cx) (X := impl_CertOk_X) (res := impl_CertOk_R false) (outs := impl_CertOk_O false) Try.func44 [[(0, { d := some true })], [(1, { a := .row (eDone done) })], [(2, { d := some false }), (19, { a := .call [.val [] []] false (impl_reqOk_R reqOk1) (impl_reqOk_O reqOk1) }), (22, { d := some true })], []] [decide (v8 < (s_.Dones.length : Int)) = true, (0 : Int) ≤ v8, v8 < ((s_.Dones.length : Nat) : Int), (s_.Dones.map eDone)[v8.toNat]? = some (eDone done), decide (v8 > 0) = false, ACalls cx.P 41 [.agg (eReq done.Req)] (impl_reqOk_R reqOk1) (impl_reqOk_O reqOk1), (!reqOk1) = true] (.cons e2 (.cons (idx0 hdone) (.cons (idx1 hdone) (.cons (map_idx hdone) (.cons e3 (.cons (impl_reqOk_ok done.Req reqOk1 hreqOk1) (.cons e10 .nil))))))) (by kernel_rfl)).is (hr1 _ e).1 (hr1 _ e).2))) (fun e10 h =>
 (bindD h fun in_3 hin_3 h =>
 (condD h (fun e11 h =>
 (jretD h hc2 fun h => (retD h hc1 fun e => (Fin.fin (cx := cx) (X := impl_CertOk_X) (res := impl_CertOk_R false) (outs := impl_CertOk_O false) Try.func44 [[(0, { d := some true })], [(1, { a := .row (eDone done) })], [(2, { d := some false }), (19, { a := .call [.val [] []] false (impl_reqOk_R reqOk1) (impl_reqOk_O reqOk1) }), (22, { d := some false }), (25, { a := .call [.val [] [], .val [] [], .val [] []] false (impl_in_R in_3) (impl_in_O in_3) }), (28, { d := some true })], []] [decide (v8 < (s_.Dones.length : Int)) = true, (0 : Int) ≤ v8, v8 < ((s_.Dones.length : Nat) : Int), (s_.Dones.map eDone)[v8.toNat]? = some (eDone done), decide (v8 > 0) = false, ACalls cx.P 41 [.agg (eReq done.Req)] (impl_reqOk_R reqOk1) (impl_reqOk_O reqOk1), (!reqOk1) = false, ACalls cx.P 14 [vi done.Code, vi 0, vi 2] (impl_in_R in_3) (impl_in_O in_3), (!in_3) = true] (.cons e2 (.cons (idx0 hdone) (.cons (idx1 hdone) (.cons (map_idx hdone) (.cons e3 (.cons (impl_reqOk_ok done.Req reqOk1 hreqOk1) (.cons e10 (.cons (impl_in_ok done.Code 0 2 in_3 hin_3) (.cons e11 .nil))))))))) (by kernel_rfl)).is (hr1 _ e).1 (hr1 _ e).2))) (fun e11 h =>
 (bindD h fun in_4 hin_4 h =>
 (condD h (fun e12 h =>
 (jretD h hc2 fun h => (retD h hc1 fun e => (Fin.fin (cx := cx) (X := impl_CertOk_X) (res := impl_CertOk_R false) (outs := impl_CertOk_O false) Try.func44 [[(0, { d := some true })], [(1, { a := .row (eDone done) })], [(2, { d := some false }), (19, { a := .call [.val [] []] false (impl_reqOk_R reqOk1) (impl_reqOk_O reqOk1) }), (22, { d := some false }), (25, { a := .call [.val [] [], .val [] [], .val [] []] false (impl_in_R in_3) (impl_in_O in_3) }), (28, { d := some false }), (31, { a := .call [.val [] [], .val [] [], .val [] []] false (impl_in_R in_4) (impl_in_O in_4) }), (34, { d := some true })], []] [decide (v8 < (s_.Dones.length : Int)) = true, (0 : Int) ≤ v8, v8 < ((s_.Dones.length : Nat) : Int), (s_.Dones.map eDone)[v8.toNat]? = some (eDone done), decide (v8 > 0) = false, ACalls cx.P 41 [.agg (eReq done.Req)] (impl_reqOk_R reqOk1) (impl_reqOk_O reqOk1), (!reqOk1) = false, ACalls cx.P 14 [vi done.Code, vi 0, vi 2] (impl_in_R in_3) (impl_in_O in_3), (!in_3) = false, ACalls cx.P 14 [vi done.Val, vi (-1000000), vi 1000000] (impl_in_R in_4) (impl_in_O in_4), (!in_4) = true] (.cons e2 (.cons (idx0 hdone) (.cons (idx1 hdone) (.cons (map_idx hdone) (.cons e3 (.cons (impl_reqOk_ok done.Req reqOk1 hreqOk1) (.cons e10 (.cons (impl_in_ok done.Code 0 2 in_3 hin_3) (.cons e11 (.cons (impl_in_ok done.Val (-1000000) 1000000 in_4 hin_4) (.cons e12 .nil))))))))))) (by kernel_rfl)).is (hr1 _ e).1 (hr1 _ e).2))) (fun e12 h =>
 (condD h (fun e13 h =>
 (condD h (fun e14 h =>
 (jretD h hc2 fun h => (retD h hc1 fun e => (Fin.fin (cx := cx) (X := impl_CertOk_X) (res := impl_CertOk_R false) (outs := impl_CertOk_O false) Try.func44 [[(0, { d := some true })], [(1, { a := .row (eDone done) })], [(2, { d := some false }), (19, { a := .call [.val [] []] false (impl_reqOk_R reqOk1) (impl_reqOk_O reqOk1) }), (22, { d := some false }), (25, { a := .call [.val [] [], .val [] [], .val [] []] false (impl_in_R in_3) (impl_in_O in_3) }), (28, { d := some false }), (31, { a := .call [.val [] [], .val [] [], .val [] []] false (impl_in_R in_4) (impl_in_O in_4) }), (34, { d := some false }), (38, { d := some true }), (43, { d := some true })], []] [decide (v8 < (s_.Dones.length : Int)) = true, (0 : Int) ≤ v8, v8 < ((s_.Dones.length : Nat) : Int), (s_.Dones.map eDone)[v8.toNat]? = some (eDone done), decide (v8 > 0) = false, ACalls cx.P 41 [.agg (eReq done.Req)] (impl_reqOk_R reqOk1) (impl_reqOk_O reqOk1), (!reqOk1) = false, ACalls cx.P 14 [vi done.Code, vi 0, vi 2] (impl_in_R in_3) (impl_in_O in_3), (!in_3) = false, ACalls cx.P 14 [vi done.Val, vi (-1000000), vi 1000000] (impl_in_R in_4) (impl_in_O in_4), (!in_4) = false, (done.Code != 0) = true, (done.Val != 0) = true] (.cons e2 (.cons (idx0 hdone) (.cons (idx1 hdone) (.cons (map_idx hdone) (.cons e3 (.cons (impl_reqOk_ok done.Req reqOk1 hreqOk1) (.cons e10 (.cons (impl_in_ok done.Code 0 2 in_3 hin_3) (.cons e11 (.cons (impl_in_ok done.Val (-1000000) 1000000 in_4 hin_4) (.cons e12 (.cons e13 (.cons e14 .nil))))))))))))) (by kernel_rfl)).is (hr1 _ e).1 (hr1 _ e).2))) (fun e14 h =>
 (jbrkD h hc2 fun hI => (Fin.seg [[(0, { d := some true })], [(1, { a := .row (eDone done) })], [(2, { d := some false }), (19, { a := .call [.val [] []] false (impl_reqOk_R reqOk1) (impl_reqOk_O reqOk1) }), (22, { d := some false }), (25, { a := .call [.val [] [], .val [] [], .val [] []] false (impl_in_R in_3) (impl_in_O in_3) }), (28, { d := some false }), (31, { a := .call [.val [] [], .val [] [], .val [] []] false (impl_in_R in_4) (impl_in_O in_4) }), (34, { d := some false }), (38, { d := some true }), (43, { d := some false })]] [] [1, 6, 7, 8] [(1, 0)] [decide (v8 < (s_.Dones.length : Int)) = true, (0 : Int) ≤ v8, v8 < ((s_.Dones.length : Nat) : Int), (s_.Dones.map eDone)[v8.toNat]? = some (eDone done), decide (v8 > 0) = false, ACalls cx.P 41 [.agg (eReq done.Req)] (impl_reqOk_R reqOk1) (impl_reqOk_O reqOk1), (!reqOk1) = false, ACalls cx.P 14 [vi done.Code, vi 0, vi 2] (impl_in_R in_3) (impl_in_O in_3), (!in_3) = false, ACalls cx.P 14 [vi done.Val, vi (-1000000), vi 1000000] (impl_in_R in_4) (impl_in_O in_4), (!in_4) = false, (done.Code != 0) = true, (done.Val != 0) = false] (.cons e2 (.cons (idx0 hdone) (.cons (idx1 hdone) (.cons (map_idx hdone) (.cons e3 (.cons (impl_reqOk_ok done.Req reqOk1 hreqOk1) (.cons e10 (.cons (impl_in_ok done.Code 0 2 in_3 hin_3) (.cons e11 (.cons (impl_in_ok done.Val (-1000000) 1000000 in_4 hin_4) (.cons e12 (.cons e13 (.cons e14 .nil))))))))))))) hI (by kernel_rfl)))))) (fun e13 h =>
 (jbrkD h hc2 fun hI => (Fin.seg [[(0, { d := some true })], [(1, { a := .row (eDone done) })], [(2, { d := some false }), (19, { a := .call [.val [] []] false (impl_reqOk_R reqOk1) (impl_reqOk_O reqOk1) }), (22, { d := some false }), (25, { a := .call [.val [] [], .val [] [], .val [] []] false (impl_in_R in_3) (impl_in_O in_3) }), (28, { d := some false }), (31, { a := .call [.val [] [], .val [] [], .val [] []] false (impl_in_R in_4) (impl_in_O in_4) }), (34, { d := some false }), (38, { d := some false })]] [] [1, 6, 7, 8] [(1, 0)] [decide (v8 < (s_.Dones.length : Int)) = true, (0 : Int) ≤ v8, v8 < ((s_.Dones.length : Nat) : Int), (s_.Dones.map eDone)[v8.toNat]? = some (eDone done), decide (v8 > 0) = false, ACalls cx.P 41 [.agg (eReq done.Req)] (impl_reqOk_R reqOk1) (impl_reqOk_O reqOk1), (!reqOk1) = false, ACalls cx.P 14 [vi done.Code, vi 0, vi 2] (impl_in_R in_3) (impl_in_O in_3), (!in_3) = false, ACalls cx.P 14 [vi done.Val, vi (-1000000), vi 1000000] (impl_in_R in_4) (impl_in_O in_4), (!in_4) = false, (done.Code != 0) = false] (.cons e2 (.cons (idx0 hdone) (.cons (idx1 hdone) (.cons (map_idx hdone) (.cons e3 (.cons (impl_reqOk_ok done.Req reqOk1 hreqOk1) (.cons e10 (.cons (impl_in_ok done.Code 0 2 in_3 hin_3) (.cons e11 (.cons (impl_in_ok done.Val (-1000000) 1000000 in_4 hin_4) (.cons e12 (.cons e13 .nil)))))))))))) hI (by kernel_rfl)))))))))))))))))))) (fun e2 h =>
 (brkD h hc1 fun e => (Fin.seg [[(0, { d := some false })]] [] [1] [(1, 0)] [decide (v8 < (s_.Dones.length : Int)) = false] (.cons e2 .nil) (hb1 _ e) (by kernel_rfl)))))
theorem impl_CertOk_b1_loop (s_ : TState) (res : V) (outs : List (Option V)) (x1 : Exc Bool Unit) (hb1 : ∀ s : Unit, x1 = .brk s → Fin cx impl_CertOk_X res outs impl_CertOk_k1 (impl_CertOk_S1 s_)) (hr1 : ∀ v : Bool, x1 = .ret v → (res = impl_CertOk_R v ∧ outs = impl_CertOk_O v)) (s : Int) (h : loop (fun s : Int => impl_CertOk_b1 s_ s) s = some x1) : Fin cx impl_CertOk_X res outs impl_CertOk_k3 (impl_CertOk_S2 s_ s) :=
  loopD (I := fun s : Int => Fin cx impl_CertOk_X res outs impl_CertOk_k3 (impl_CertOk_S2 s_ s)) h fun s st h hc => impl_CertOk_b1_ok s_ res outs x1 hb1 hr1 st hc s h
noncomputable def impl_CertOk (s_ : TState) : Option Bool :=
  ((loop (fun s : Int => impl_CertOk_b1 s_ s) 0).bind fun x => x.go (fun r => some r) fun s => impl_CertOk_k2 s_)
theorem impl_CertOk_fin (s_ : TState) (r : Bool) (h : impl_CertOk s_ = some r) : Fin cx impl_CertOk_X (impl_CertOk_R r) (impl_CertOk_O r) [.code impl_CertOk_c] (startS impl_CertOk_X [.agg (eState s_)]) :=
  (loopJ h fun x hl hr hb => (Fin.seg [[], []] [] [1, 6, 7, 8] [(1, 0)] [] .nil (impl_CertOk_b1_loop s_ _ _ x (fun s e => impl_CertOk_k2_ok s_ r (hb s e)) (fun v e => ⟨congrArg impl_CertOk_R (Option.some.inj (hr v e)).symm, congrArg impl_CertOk_O (Option.some.inj (hr v e)).symm⟩) 0 hl) (by kernel_rfl)))
theorem impl_CertOk_ok (s_ : TState) (r : Bool) (h : impl_CertOk s_ = some r) : ACalls cx.P 44 [.agg (eState s_)] (impl_CertOk_R r) (impl_CertOk_O r) :=
  ACalls.of (cx := cx) (X := impl_CertOk_X) (c := impl_CertOk_c) Try.func44 (by kernel_rfl) (by kernel_rfl) (by kernel_rfl) (impl_CertOk_fin s_ r h)

/-! ### impl_copied_Box -/
noncomputable def impl_copied_Box_c : Code := bodyOf Try.f45
noncomputable def impl_copied_Box_X : Sig := { f := 45, fn := Try.f45, rms := [.val [some 2] [some 70]], oms := [none] }
noncomputable def impl_copied_Box_R (r : List TBox) : V := vosl 70 2 eBox r
noncomputable def impl_copied_Box_O (r : List TBox) : List (Option V) := [none]
noncomputable def impl_copied_Box (list : List TBox) : Option (List TBox) :=
  (bif ((list.length : Int) == 0) then
 some []
 else
 (need (0 ≤ (list.length : Int) ∧ (list.length : Int) * 16 ≤ 140737488355328)
 ((need (list.length = (List.replicate (list.length : Int).toNat (TBox.mk 0 0)).length)
 (some list)))))
theorem impl_copied_Box_fin (list : List TBox) (r : List TBox) (h : impl_copied_Box list = some r) : Fin cx impl_copied_Box_X (impl_copied_Box_R r) (impl_copied_Box_O r) [.code impl_copied_Box_c] (startS impl_copied_Box_X [vsl 2 eBox list]) :=
  (condD h (fun e1 h =>
 (someD h fun e => (Fin.fin (cx := cx) (X := impl_copied_Box_X) (res := impl_copied_Box_R []) (outs := impl_copied_Box_O []) Try.func45 [[], [(2, { d := some true })], []] [((list.length : Int) == 0) = true] (.cons e1 .nil) (by kernel_rfl)).is (congrArg impl_copied_Box_R e) (congrArg impl_copied_Box_O e))) (fun e1 h =>
 (needD h fun e2 h =>
 (needD h fun e3 h =>
 (someD h fun e => (Fin.fin (cx := cx) (X := impl_copied_Box_X) (res := impl_copied_Box_R list) (outs := impl_copied_Box_O list) Try.func45 [[], [(2, { d := some false })], [(2, { e := some (erow 70 2 eBox (List.replicate (list.length : Int).toNat (TBox.mk 0 0))), v := some (.own 7 0 2 0 (List.replicate (list.length : Int).toNat (TBox.mk 0 0)).length) })], [(2, { e := some (erow 70 2 eBox list) })], []] [((list.length : Int) == 0) = false, V.own 7 0 2 0 (list.length : Int).toNat = .own 7 0 2 0 (List.replicate (list.length : Int).toNat (TBox.mk 0 0)).length, Ent.row 70 2 (list.length : Int).toNat (List.replicate (list.length : Int).toNat [vi 0, vi 0]) = erow 70 2 eBox (List.replicate (list.length : Int).toNat (TBox.mk 0 0)), (0 : Int) ≤ (list.length : Int), (list.length : Int) = (list.length : Int), (list.length : Int) * ((16 : Nat) : Int) ≤ 140737488355328 ∧ 0 < 16, ([vi 0, vi 0] : List V).length = 2, Ent.row 70 2 (List.replicate (list.length : Int).toNat (TBox.mk 0 0)).length (list.map eBox) = erow 70 2 eBox list, (List.replicate (list.length : Int).toNat (TBox.mk 0 0)).length = (List.replicate (list.length : Int).toNat (TBox.mk 0 0)).length, list.length = (List.replicate (list.length : Int).toNat (TBox.mk 0 0)).length, (List.replicate (list.length : Int).toNat (TBox.mk 0 0)).length = list.length] (.cons e1 (.cons (by simp) (.cons (row_rep rfl) (.cons e2.1 (.cons rfl (.cons ⟨e2.2, by decide⟩ (.cons rfl (.cons (row_copy e3) (.cons rfl (.cons e3 (.cons (by simp) .nil))))))))))) (by kernel_rfl)).is (congrArg impl_copied_Box_R e) (congrArg impl_copied_Box_O e))))))
theorem impl_copied_Box_ok (list : List TBox) (r : List TBox) (h : impl_copied_Box list = some r) : ACalls cx.P 45 [vsl 2 eBox list] (impl_copied_Box_R r) (impl_copied_Box_O r) :=
  ACalls.of (cx := cx) (X := impl_copied_Box_X) (c := impl_copied_Box_c) Try.func45 (by kernel_rfl) (by kernel_rfl) (by kernel_rfl) (impl_copied_Box_fin list r h)

/-! ### impl_copied_Done -/
noncomputable def impl_copied_Done_c : Code := bodyOf Try.f46
noncomputable def impl_copied_Done_X : Sig := { f := 46, fn := Try.f46, rms := [.val [some 4] []], oms := [none] }
noncomputable def impl_copied_Done_R (r : List TDone) : V := vsl 4 eDone r
noncomputable def impl_copied_Done_O (r : List TDone) : List (Option V) := [none]
noncomputable def impl_copied_Done (list : List TDone) : Option (List TDone) :=
  (bif ((list.length : Int) == 0) then
 some []
 else
 (need (0 ≤ (list.length : Int) ∧ (list.length : Int) * 32 ≤ 140737488355328)
 ((need (list.length = (List.replicate (list.length : Int).toNat (TDone.mk (TReq.mk 0 0) 0 0)).length)
 (some list)))))
theorem impl_copied_Done_fin (list : List TDone) (r : List TDone) (h : impl_copied_Done list = some r) : Fin cx impl_copied_Done_X (impl_copied_Done_R r) (impl_copied_Done_O r) [.code impl_copied_Done_c] (startS impl_copied_Done_X [vsl 4 eDone list]) :=
  (condD h (fun e1 h =>
 (someD h fun e => (Fin.fin (cx := cx) (X := impl_copied_Done_X) (res := impl_copied_Done_R []) (outs := impl_copied_Done_O []) Try.func46 [[], [(2, { d := some true })], []] [((list.length : Int) == 0) = true] (.cons e1 .nil) (by kernel_rfl)).is (congrArg impl_copied_Done_R e) (congrArg impl_copied_Done_O e))) (fun e1 h =>
 (needD h fun e2 h =>
 (needD h fun e3 h =>
 (someD h fun e => (Fin.fin (cx := cx) (X := impl_copied_Done_X) (res := impl_copied_Done_R list) (outs := impl_copied_Done_O list) Try.func46 [[], [(2, { d := some false })], [(2, { e := some (erow 57 4 eDone (List.replicate (list.length : Int).toNat (TDone.mk (TReq.mk 0 0) 0 0))), v := some (.own 7 0 4 0 (List.replicate (list.length : Int).toNat (TDone.mk (TReq.mk 0 0) 0 0)).length) })], [(2, { e := some (erow 57 4 eDone list) })], []] [((list.length : Int) == 0) = false, V.own 7 0 4 0 (list.length : Int).toNat = .own 7 0 4 0 (List.replicate (list.length : Int).toNat (TDone.mk (TReq.mk 0 0) 0 0)).length, Ent.row 57 4 (list.length : Int).toNat (List.replicate (list.length : Int).toNat [vi 0, vi 0, vi 0, vi 0]) = erow 57 4 eDone (List.replicate (list.length : Int).toNat (TDone.mk (TReq.mk 0 0) 0 0)), (0 : Int) ≤ (list.length : Int), (list.length : Int) = (list.length : Int), (list.length : Int) * ((32 : Nat) : Int) ≤ 140737488355328 ∧ 0 < 32, ([vi 0, vi 0, vi 0, vi 0] : List V).length = 4, Ent.row 57 4 (List.replicate (list.length : Int).toNat (TDone.mk (TReq.mk 0 0) 0 0)).length (list.map eDone) = erow 57 4 eDone list, (List.replicate (list.length : Int).toNat (TDone.mk (TReq.mk 0 0) 0 0)).length = (List.replicate (list.length : Int).toNat (TDone.mk (TReq.mk 0 0) 0 0)).length, list.length = (List.replicate (list.length : Int).toNat (TDone.mk (TReq.mk 0 0) 0 0)).length, (List.replicate (list.length : Int).toNat (TDone.mk (TReq.mk 0 0) 0 0)).length = list.length] (.cons e1 (.cons (by simp) (.cons (row_rep rfl) (.cons e2.1 (.cons rfl (.cons ⟨e2.2, by decide⟩ (.cons rfl (.cons (row_copy e3) (.cons rfl (.cons e3 (.cons (by simp) .nil))))))))))) (by kernel_rfl)).is (congrArg impl_copied_Done_R e) (congrArg impl_copied_Done_O e))))))
theorem impl_copied_Done_ok (list : List TDone) (r : List TDone) (h : impl_copied_Done list = some r) : ACalls cx.P 46 [vsl 4 eDone list] (impl_copied_Done_R r) (impl_copied_Done_O r) :=
  ACalls.of (cx := cx) (X := impl_copied_Done_X) (c := impl_copied_Done_c) Try.func46 (by kernel_rfl) (by kernel_rfl) (by kernel_rfl) (impl_copied_Done_fin list r h)


end Go.Proofs.Ytdagjdmehagefaa
