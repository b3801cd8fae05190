/- Functions of the program, and that their calls come to this. -/
import Derived.Test.YtidcofmgigokcaaF4
set_option linter.unusedVariables false
set_option linter.unusedSimpArgs false
namespace Go.Proofs.Ytidcofmgigokcaa
open Go

/-! ### impl_clash -/
noncomputable def impl_clash_c : Code := bodyOf Try.f15
noncomputable def impl_clash_X : Sig := { f := 15, fn := Try.f15, rms := [.val [] []], oms := [none, none, none] }
noncomputable def impl_clash_R (r : Bool) : V := .b r
noncomputable def impl_clash_O (r : Bool) : List (Option V) := [none, none, none]
noncomputable def impl_clash (a : TRun) (b : TRun) (box : Int) : Option Bool :=
  ((impl_putAt a box).bind fun putAt =>
 ((impl_putAt b box).bind fun putAt1 =>
 (bif decide (putAt ≥ 0) then
 (bif decide (putAt1 ≥ 0) then
 some true
 else
 (bif decide (putAt ≥ 0) then
 ((impl_readAt b box).bind fun readAt =>
 (bif decide (readAt ≥ 0) then
 some true
 else
 (bif decide (putAt1 ≥ 0) then
 ((impl_readAt a box).bind fun readAt1 =>
 some (decide (readAt1 ≥ 0)))
 else
 some false)))
 else
 (bif decide (putAt1 ≥ 0) then
 ((impl_readAt a box).bind fun readAt2 =>
 some (decide (readAt2 ≥ 0)))
 else
 some false)))
 else
 (bif decide (putAt ≥ 0) then
 ((impl_readAt b box).bind fun readAt3 =>
 (bif decide (readAt3 ≥ 0) then
 some true
 else
 (bif decide (putAt1 ≥ 0) then
 ((impl_readAt a box).bind fun readAt4 =>
 some (decide (readAt4 ≥ 0)))
 else
 some false)))
 else
 (bif decide (putAt1 ≥ 0) then
 ((impl_readAt a box).bind fun readAt5 =>
 some (decide (readAt5 ≥ 0)))
 else
 some false)))))
theorem impl_clash_fin (a : TRun) (b : TRun) (box : Int) (r : Bool) (h : impl_clash a b box = some r) : Fin cx impl_clash_X (impl_clash_R r) (impl_clash_O r) [.code impl_clash_c] (startS impl_clash_X [.agg (eRun a), .agg (eRun b), vi box]) :=
  (bindD h fun putAt hputAt h =>
 (bindD h fun putAt1 hputAt1 h =>
 (condD h (fun e1 h =>
 (condD h (fun e2 h =>
 (someD h fun e => (Fin.fin (cx := cx) (X := impl_clash_X) (res := impl_clash_R true) (outs := impl_clash_O true) Try.func15 [[], [(2, { a := .call [.val [some 2, some 2, none, none] [], .val [] []] false (impl_putAt_R putAt) (impl_putAt_O putAt) }), (6, { a := .call [.val [some 2, some 2, none, none] [], .val [] []] false (impl_putAt_R putAt1) (impl_putAt_O putAt1) })], [(1, { d := some true }), (4, { d := some true })]] [ACalls cx.P 24 [.agg (eRun a), vi box] (impl_putAt_R putAt) (impl_putAt_O putAt), ACalls cx.P 24 [.agg (eRun b), vi box] (impl_putAt_R putAt1) (impl_putAt_O putAt1), decide (putAt ≥ 0) = true, decide (putAt1 ≥ 0) = true] (.cons (impl_putAt_ok a box putAt hputAt) (.cons (impl_putAt_ok b box putAt1 hputAt1) (.cons e1 (.cons e2 .nil)))) (by kernel_rfl)).is (congrArg impl_clash_R e) (congrArg impl_clash_O e))) (fun e2 h =>
 (condD h (fun e3 h =>
 (bindD h fun readAt hreadAt h =>
 (condD h (fun e4 h =>
 (someD h fun e => (Fin.fin (cx := cx) (X := impl_clash_X) (res := impl_clash_R true) (outs := impl_clash_O true) Try.func15 [[], [(2, { a := .call [.val [some 2, some 2, none, none] [], .val [] []] false (impl_putAt_R putAt) (impl_putAt_O putAt) }), (6, { a := .call [.val [some 2, some 2, none, none] [], .val [] []] false (impl_putAt_R putAt1) (impl_putAt_O putAt1) })], [(1, { d := some true }), (4, { d := some false }), (6, { d := some true }), (9, { a := .call [.val [some 2, some 2, none, none] [], .val [] []] false (impl_readAt_R readAt) (impl_readAt_O readAt) }), (13, { d := some true })]] [ACalls cx.P 24 [.agg (eRun a), vi box] (impl_putAt_R putAt) (impl_putAt_O putAt), ACalls cx.P 24 [.agg (eRun b), vi box] (impl_putAt_R putAt1) (impl_putAt_O putAt1), decide (putAt ≥ 0) = true, decide (putAt1 ≥ 0) = false, decide (putAt ≥ 0) = true, ACalls cx.P 25 [.agg (eRun b), vi box] (impl_readAt_R readAt) (impl_readAt_O readAt), decide (readAt ≥ 0) = true] (.cons (impl_putAt_ok a box putAt hputAt) (.cons (impl_putAt_ok b box putAt1 hputAt1) (.cons e1 (.cons e2 (.cons e3 (.cons (impl_readAt_ok b box readAt hreadAt) (.cons e4 .nil))))))) (by kernel_rfl)).is (congrArg impl_clash_R e) (congrArg impl_clash_O e))) (fun e4 h =>
 (condD h (fun e5 h =>
 (bindD h fun readAt1 hreadAt1 h =>
 (someD h fun e => (Fin.fin (cx := cx) (X := impl_clash_X) (res := impl_clash_R (decide (readAt1 ≥ 0))) (outs := impl_clash_O (decide (readAt1 ≥ 0))) Try.func15 [[], [(2, { a := .call [.val [some 2, some 2, none, none] [], .val [] []] false (impl_putAt_R putAt) (impl_putAt_O putAt) }), (6, { a := .call [.val [some 2, some 2, none, none] [], .val [] []] false (impl_putAt_R putAt1) (impl_putAt_O putAt1) })], [(1, { d := some true }), (4, { d := some false }), (6, { d := some true }), (9, { a := .call [.val [some 2, some 2, none, none] [], .val [] []] false (impl_readAt_R readAt) (impl_readAt_O readAt) }), (13, { d := some false }), (15, { d := some true }), (18, { a := .call [.val [some 2, some 2, none, none] [], .val [] []] false (impl_readAt_R readAt1) (impl_readAt_O readAt1) })]] [ACalls cx.P 24 [.agg (eRun a), vi box] (impl_putAt_R putAt) (impl_putAt_O putAt), ACalls cx.P 24 [.agg (eRun b), vi box] (impl_putAt_R putAt1) (impl_putAt_O putAt1), decide (putAt ≥ 0) = true, decide (putAt1 ≥ 0) = false, decide (putAt ≥ 0) = true, ACalls cx.P 25 [.agg (eRun b), vi box] (impl_readAt_R readAt) (impl_readAt_O readAt), decide (readAt ≥ 0) = false, decide (putAt1 ≥ 0) = true, ACalls cx.P 25 [.agg (eRun a), vi box] (impl_readAt_R readAt1) (impl_readAt_O readAt1)] (.cons (impl_putAt_ok a box putAt hputAt) (.cons (impl_putAt_ok b box putAt1 hputAt1) (.cons e1 (.cons e2 (.cons e3 (.cons (impl_readAt_ok b box readAt hreadAt) (.cons e4 (.cons e5 (.cons (impl_readAt_ok a box readAt1 hreadAt1) .nil))))))))) (by kernel_rfl)).is (congrArg impl_clash_R e) (congrArg impl_clash_O e)))) (fun e5 h =>
 (someD h fun e => (Fin.fin (cx := cx) (X := impl_clash_X) (res := impl_clash_R false) (outs := impl_clash_O false) Try.func15 [[], [(2, { a := .call [.val [some 2, some 2, none, none] [], .val [] []] false (impl_putAt_R putAt) (impl_putAt_O putAt) }), (6, { a := .call [.val [some 2, some 2, none, none] [], .val [] []] false (impl_putAt_R putAt1) (impl_putAt_O putAt1) })], [(1, { d := some true }), (4, { d := some false }), (6, { d := some true }), (9, { a := .call [.val [some 2, some 2, none, none] [], .val [] []] false (impl_readAt_R readAt) (impl_readAt_O readAt) }), (13, { d := some false }), (15, { d := some false })]] [ACalls cx.P 24 [.agg (eRun a), vi box] (impl_putAt_R putAt) (impl_putAt_O putAt), ACalls cx.P 24 [.agg (eRun b), vi box] (impl_putAt_R putAt1) (impl_putAt_O putAt1), decide (putAt ≥ 0) = true, decide (putAt1 ≥ 0) = false, decide (putAt ≥ 0) = true, ACalls cx.P 25 [.agg (eRun b), vi box] (impl_readAt_R readAt) (impl_readAt_O readAt), decide (readAt ≥ 0) = false, decide (putAt1 ≥ 0) = false] (.cons (impl_putAt_ok a box putAt hputAt) (.cons (impl_putAt_ok b box putAt1 hputAt1) (.cons e1 (.cons e2 (.cons e3 (.cons (impl_readAt_ok b box readAt hreadAt) (.cons e4 (.cons e5 .nil)))))))) (by kernel_rfl)).is (congrArg impl_clash_R e) (congrArg impl_clash_O e)))))))) (fun e3 h =>
 (condD h (fun e6 h =>
 (bindD h fun readAt2 hreadAt2 h =>
 (someD h fun e => (Fin.fin (cx := cx) (X := impl_clash_X) (res := impl_clash_R (decide (readAt2 ≥ 0))) (outs := impl_clash_O (decide (readAt2 ≥ 0))) Try.func15 [[], [(2, { a := .call [.val [some 2, some 2, none, none] [], .val [] []] false (impl_putAt_R putAt) (impl_putAt_O putAt) }), (6, { a := .call [.val [some 2, some 2, none, none] [], .val [] []] false (impl_putAt_R putAt1) (impl_putAt_O putAt1) })], [(1, { d := some true }), (4, { d := some false }), (6, { d := some false }), (15, { d := some true }), (18, { a := .call [.val [some 2, some 2, none, none] [], .val [] []] false (impl_readAt_R readAt2) (impl_readAt_O readAt2) })]] [ACalls cx.P 24 [.agg (eRun a), vi box] (impl_putAt_R putAt) (impl_putAt_O putAt), ACalls cx.P 24 [.agg (eRun b), vi box] (impl_putAt_R putAt1) (impl_putAt_O putAt1), decide (putAt ≥ 0) = true, decide (putAt1 ≥ 0) = false, decide (putAt ≥ 0) = false, decide (putAt1 ≥ 0) = true, ACalls cx.P 25 [.agg (eRun a), vi box] (impl_readAt_R readAt2) (impl_readAt_O readAt2)] (.cons (impl_putAt_ok a box putAt hputAt) (.cons (impl_putAt_ok b box putAt1 hputAt1) (.cons e1 (.cons e2 (.cons e3 (.cons e6 (.cons (impl_readAt_ok a box readAt2 hreadAt2) .nil))))))) (by kernel_rfl)).is (congrArg impl_clash_R e) (congrArg impl_clash_O e)))) (fun e6 h =>
 (someD h fun e => (Fin.fin (cx := cx) (X := impl_clash_X) (res := impl_clash_R false) (outs := impl_clash_O false) Try.func15 [[], [(2, { a := .call [.val [some 2, some 2, none, none] [], .val [] []] false (impl_putAt_R putAt) (impl_putAt_O putAt) }), (6, { a := .call [.val [some 2, some 2, none, none] [], .val [] []] false (impl_putAt_R putAt1) (impl_putAt_O putAt1) })], [(1, { d := some true }), (4, { d := some false }), (6, { d := some false }), (15, { d := some false })]] [ACalls cx.P 24 [.agg (eRun a), vi box] (impl_putAt_R putAt) (impl_putAt_O putAt), ACalls cx.P 24 [.agg (eRun b), vi box] (impl_putAt_R putAt1) (impl_putAt_O putAt1), decide (putAt ≥ 0) = true, decide (putAt1 ≥ 0) = false, decide (putAt ≥ 0) = false, decide (putAt1 ≥ 0) = false] (.cons (impl_putAt_ok a box putAt hputAt) (.cons (impl_putAt_ok b box putAt1 hputAt1) (.cons e1 (.cons e2 (.cons e3 (.cons e6 .nil)))))) (by kernel_rfl)).is (congrArg impl_clash_R e) (congrArg impl_clash_O e))))))))) (fun e1 h =>
 (condD h (fun e7 h =>
 (bindD h fun readAt3 hreadAt3 h =>
 (condD h (fun e8 h =>
 (someD h fun e => (Fin.fin (cx := cx) (X := impl_clash_X) (res := impl_clash_R true) (outs := impl_clash_O true) Try.func15 [[], [(2, { a := .call [.val [some 2, some 2, none, none] [], .val [] []] false (impl_putAt_R putAt) (impl_putAt_O putAt) }), (6, { a := .call [.val [some 2, some 2, none, none] [], .val [] []] false (impl_putAt_R putAt1) (impl_putAt_O putAt1) })], [(1, { d := some false }), (6, { d := some true }), (9, { a := .call [.val [some 2, some 2, none, none] [], .val [] []] false (impl_readAt_R readAt3) (impl_readAt_O readAt3) }), (13, { d := some true })]] [ACalls cx.P 24 [.agg (eRun a), vi box] (impl_putAt_R putAt) (impl_putAt_O putAt), ACalls cx.P 24 [.agg (eRun b), vi box] (impl_putAt_R putAt1) (impl_putAt_O putAt1), decide (putAt ≥ 0) = false, decide (putAt ≥ 0) = true, ACalls cx.P 25 [.agg (eRun b), vi box] (impl_readAt_R readAt3) (impl_readAt_O readAt3), decide (readAt3 ≥ 0) = true] (.cons (impl_putAt_ok a box putAt hputAt) (.cons (impl_putAt_ok b box putAt1 hputAt1) (.cons e1 (.cons e7 (.cons (impl_readAt_ok b box readAt3 hreadAt3) (.cons e8 .nil)))))) (by kernel_rfl)).is (congrArg impl_clash_R e) (congrArg impl_clash_O e))) (fun e8 h =>
 (condD h (fun e9 h =>
 (bindD h fun readAt4 hreadAt4 h =>
 (someD h fun e => (Fin.fin (cx := cx) (X := impl_clash_X) (res := impl_clash_R (decide (readAt4 ≥ 0))) (outs := impl_clash_O (decide (readAt4 ≥ 0))) Try.func15 [[], [(2, { a := .call [.val [some 2, some 2, none, none] [], .val [] []] false (impl_putAt_R putAt) (impl_putAt_O putAt) }), (6, { a := .call [.val [some 2, some 2, none, none] [], .val [] []] false (impl_putAt_R putAt1) (impl_putAt_O putAt1) })], [(1, { d := some false }), (6, { d := some true }), (9, { a := .call [.val [some 2, some 2, none, none] [], .val [] []] false (impl_readAt_R readAt3) (impl_readAt_O readAt3) }), (13, { d := some false }), (15, { d := some true }), (18, { a := .call [.val [some 2, some 2, none, none] [], .val [] []] false (impl_readAt_R readAt4) (impl_readAt_O readAt4) })]] [ACalls cx.P 24 [.agg (eRun a), vi box] (impl_putAt_R putAt) (impl_putAt_O putAt), ACalls cx.P 24 [.agg (eRun b), vi box] (impl_putAt_R putAt1) (impl_putAt_O putAt1), decide (putAt ≥ 0) = false, decide (putAt ≥ 0) = true, ACalls cx.P 25 [.agg (eRun b), vi box] (impl_readAt_R readAt3) (impl_readAt_O readAt3), decide (readAt3 ≥ 0) = false, decide (putAt1 ≥ 0) = true, ACalls cx.P 25 [.agg (eRun a), vi box] (impl_readAt_R readAt4) (impl_readAt_O readAt4)] (.cons (impl_putAt_ok a box putAt hputAt) (.cons (impl_putAt_ok b box putAt1 hputAt1) (.cons e1 (.cons e7 (.cons (impl_readAt_ok b box readAt3 hreadAt3) (.cons e8 (.cons e9 (.cons (impl_readAt_ok a box readAt4 hreadAt4) .nil)))))))) (by kernel_rfl)).is (congrArg impl_clash_R e) (congrArg impl_clash_O e)))) (fun e9 h =>
 (someD h fun e => (Fin.fin (cx := cx) (X := impl_clash_X) (res := impl_clash_R false) (outs := impl_clash_O false) Try.func15 [[], [(2, { a := .call [.val [some 2, some 2, none, none] [], .val [] []] false (impl_putAt_R putAt) (impl_putAt_O putAt) }), (6, { a := .call [.val [some 2, some 2, none, none] [], .val [] []] false (impl_putAt_R putAt1) (impl_putAt_O putAt1) })], [(1, { d := some false }), (6, { d := some true }), (9, { a := .call [.val [some 2, some 2, none, none] [], .val [] []] false (impl_readAt_R readAt3) (impl_readAt_O readAt3) }), (13, { d := some false }), (15, { d := some false })]] [ACalls cx.P 24 [.agg (eRun a), vi box] (impl_putAt_R putAt) (impl_putAt_O putAt), ACalls cx.P 24 [.agg (eRun b), vi box] (impl_putAt_R putAt1) (impl_putAt_O putAt1), decide (putAt ≥ 0) = false, decide (putAt ≥ 0) = true, ACalls cx.P 25 [.agg (eRun b), vi box] (impl_readAt_R readAt3) (impl_readAt_O readAt3), decide (readAt3 ≥ 0) = false, decide (putAt1 ≥ 0) = false] (.cons (impl_putAt_ok a box putAt hputAt) (.cons (impl_putAt_ok b box putAt1 hputAt1) (.cons e1 (.cons e7 (.cons (impl_readAt_ok b box readAt3 hreadAt3) (.cons e8 (.cons e9 .nil))))))) (by kernel_rfl)).is (congrArg impl_clash_R e) (congrArg impl_clash_O e)))))))) (fun e7 h =>
 (condD h (fun e10 h =>
 (bindD h fun readAt5 hreadAt5 h =>
 (someD h fun e => (Fin.fin (cx := cx) (X := impl_clash_X) (res := impl_clash_R (decide (readAt5 ≥ 0))) (outs := impl_clash_O (decide (readAt5 ≥ 0))) Try.func15 [[], [(2, { a := .call [.val [some 2, some 2, none, none] [], .val [] []] false (impl_putAt_R putAt) (impl_putAt_O putAt) }), (6, { a := .call [.val [some 2, some 2, none, none] [], .val [] []] false (impl_putAt_R putAt1) (impl_putAt_O putAt1) })], [(1, { d := some false }), (6, { d := some false }), (15, { d := some true }), (18, { a := .call [.val [some 2, some 2, none, none] [], .val [] []] false (impl_readAt_R readAt5) (impl_readAt_O readAt5) })]] [ACalls cx.P 24 [.agg (eRun a), vi box] (impl_putAt_R putAt) (impl_putAt_O putAt), ACalls cx.P 24 [.agg (eRun b), vi box] (impl_putAt_R putAt1) (impl_putAt_O putAt1), decide (putAt ≥ 0) = false, decide (putAt ≥ 0) = false, decide (putAt1 ≥ 0) = true, ACalls cx.P 25 [.agg (eRun a), vi box] (impl_readAt_R readAt5) (impl_readAt_O readAt5)] (.cons (impl_putAt_ok a box putAt hputAt) (.cons (impl_putAt_ok b box putAt1 hputAt1) (.cons e1 (.cons e7 (.cons e10 (.cons (impl_readAt_ok a box readAt5 hreadAt5) .nil)))))) (by kernel_rfl)).is (congrArg impl_clash_R e) (congrArg impl_clash_O e)))) (fun e10 h =>
 (someD h fun e => (Fin.fin (cx := cx) (X := impl_clash_X) (res := impl_clash_R false) (outs := impl_clash_O false) Try.func15 [[], [(2, { a := .call [.val [some 2, some 2, none, none] [], .val [] []] false (impl_putAt_R putAt) (impl_putAt_O putAt) }), (6, { a := .call [.val [some 2, some 2, none, none] [], .val [] []] false (impl_putAt_R putAt1) (impl_putAt_O putAt1) })], [(1, { d := some false }), (6, { d := some false }), (15, { d := some false })]] [ACalls cx.P 24 [.agg (eRun a), vi box] (impl_putAt_R putAt) (impl_putAt_O putAt), ACalls cx.P 24 [.agg (eRun b), vi box] (impl_putAt_R putAt1) (impl_putAt_O putAt1), decide (putAt ≥ 0) = false, decide (putAt ≥ 0) = false, decide (putAt1 ≥ 0) = false] (.cons (impl_putAt_ok a box putAt hputAt) (.cons (impl_putAt_ok b box putAt1 hputAt1) (.cons e1 (.cons e7 (.cons e10 .nil))))) (by kernel_rfl)).is (congrArg impl_clash_R e) (congrArg impl_clash_O e))))))))))
theorem impl_clash_ok (a : TRun) (b : TRun) (box : Int) (r : Bool) (h : impl_clash a b box = some r) : ACalls cx.P 15 [.agg (eRun a), .agg (eRun b), vi box] (impl_clash_R r) (impl_clash_O r) :=
  ACalls.of (cx := cx) (X := impl_clash_X) (c := impl_clash_c) Try.func15 (by kernel_rfl) (by kernel_rfl) (by kernel_rfl) (impl_clash_fin a b box r h)

/-! ### impl_HistSwap -/
noncomputable def impl_HistSwap_c : Code := bodyOf Try.f7
noncomputable def impl_HistSwap_X : Sig := { f := 7, fn := Try.f7, rms := [.val [] []], oms := [none, none] }
noncomputable def impl_HistSwap_R (r : Bool) : V := .b r
noncomputable def impl_HistSwap_O (r : Bool) : List (Option V) := [none, none]
noncomputable def impl_HistSwap_k1 : List Item := posI 2000 7 [false, false, false, false] [.code impl_HistSwap_c]
noncomputable def impl_HistSwap_S1 : St := ⟨(bs 51 []), [some []]⟩
noncomputable def impl_HistSwap_k2 : Option Bool :=
  some true
theorem impl_HistSwap_k2_ok (r : Bool) (h : impl_HistSwap_k2 = some r) : Fin cx impl_HistSwap_X (impl_HistSwap_R r) (impl_HistSwap_O r) impl_HistSwap_k1 (impl_HistSwap_S1) :=
  (someD h fun e => (Fin.fin (cx := cx) (X := impl_HistSwap_X) (res := impl_HistSwap_R true) (outs := impl_HistSwap_O true) Try.func7 [[]] [] .nil (by kernel_rfl)).is (congrArg impl_HistSwap_R e) (congrArg impl_HistSwap_O e))
noncomputable def impl_HistSwap_k3 : List Item := posI 2000 6 [false, false, false] [.code impl_HistSwap_c]
noncomputable def impl_HistSwap_S2 (entry : TEntry) (entry1 : TEntry) (box : Int) : St := ⟨(bs 5 (.ptr 1 0 0 :: (.ptr 2 0 0 :: (vi box :: (bs 43 []))))), [some [], some [.var 45 [.b entry.None, vi entry.Req.Who, vi entry.Req.Seq, vsl 2 eRead entry.Run.Reads, vsl 2 ePut entry.Run.Puts, vi entry.Run.Val, vi entry.Run.Code]], some [.var 45 [.b entry1.None, vi entry1.Req.Who, vi entry1.Req.Seq, vsl 2 eRead entry1.Run.Reads, vsl 2 ePut entry1.Run.Puts, vi entry1.Run.Val, vi entry1.Run.Code]]]⟩
noncomputable def impl_HistSwap_b1 (entry : TEntry) (entry1 : TEntry) (box : Int) : Option (Stp Bool Int Unit) :=
  (bif decide (box < 4) then
 ((impl_clash entry.Run entry1.Run box).bind fun clash =>
 (bif clash then
 some (Stp.ret false)
 else
 some (Stp.nxt (w64 (box + 1)))))
 else
 some (Stp.brk ()))
theorem impl_HistSwap_b1_ok (entry : TEntry) (entry1 : TEntry) (res : V) (outs : List (Option V)) (x1 : Exc Bool Unit) (hb1 : ∀ s : Unit, x1 = .brk s → Fin cx impl_HistSwap_X res outs impl_HistSwap_k1 (impl_HistSwap_S1)) (hr1 : ∀ v : Bool, x1 = .ret v → (res = impl_HistSwap_R v ∧ outs = impl_HistSwap_O v)) (st1 : Stp Bool Int Unit) (hc1 : Cont x1 (fun s : Int => Fin cx impl_HistSwap_X res outs impl_HistSwap_k3 (impl_HistSwap_S2 entry entry1 s)) st1) (box : Int) (h : impl_HistSwap_b1 entry entry1 box = some st1) : Fin cx impl_HistSwap_X res outs impl_HistSwap_k3 (impl_HistSwap_S2 entry entry1 box) :=
  (condD h (fun e6 h =>
 (bindD h fun clash hclash h =>
 (condD h (fun e7 h =>
 (retD h hc1 fun e => (Fin.fin (cx := cx) (X := impl_HistSwap_X) (res := impl_HistSwap_R false) (outs := impl_HistSwap_O false) Try.func7 [[(1, { d := some true })], [(5, { a := .call [.val [some 2, some 2, none, none] [], .val [some 2, some 2, none, none] [], .val [] []] false (impl_clash_R clash) (impl_clash_O clash), d := some true })], []] [decide (box < 4) = true, clash = true, ACalls cx.P 15 [.agg (eRun entry.Run), .agg (eRun entry1.Run), vi box] (impl_clash_R clash) (impl_clash_O clash)] (.cons e6 (.cons e7 (.cons (impl_clash_ok entry.Run entry1.Run box clash hclash) .nil))) (by kernel_rfl)).is (hr1 _ e).1 (hr1 _ e).2)) (fun e7 h =>
 (nxtD h hc1 fun hI => (Fin.seg [[(1, { d := some true })], [(5, { a := .call [.val [some 2, some 2, none, none] [], .val [some 2, some 2, none, none] [], .val [] []] false (impl_clash_R clash) (impl_clash_O clash), d := some false })], []] [] [5, 6, 7] [(1, 0), (2, 0)] [decide (box < 4) = true, clash = false, ACalls cx.P 15 [.agg (eRun entry.Run), .agg (eRun entry1.Run), vi box] (impl_clash_R clash) (impl_clash_O clash)] (.cons e6 (.cons e7 (.cons (impl_clash_ok entry.Run entry1.Run box clash hclash) .nil))) hI (by kernel_rfl))))))) (fun e6 h =>
 (brkD h hc1 fun e => (Fin.seg [[(1, { d := some false })]] [] [] [] [decide (box < 4) = false] (.cons e6 .nil) (hb1 _ e) (by kernel_rfl)))))
theorem impl_HistSwap_b1_loop (entry : TEntry) (entry1 : TEntry) (res : V) (outs : List (Option V)) (x1 : Exc Bool Unit) (hb1 : ∀ s : Unit, x1 = .brk s → Fin cx impl_HistSwap_X res outs impl_HistSwap_k1 (impl_HistSwap_S1)) (hr1 : ∀ v : Bool, x1 = .ret v → (res = impl_HistSwap_R v ∧ outs = impl_HistSwap_O v)) (s : Int) (h : loop (fun s : Int => impl_HistSwap_b1 entry entry1 s) s = some x1) : Fin cx impl_HistSwap_X res outs impl_HistSwap_k3 (impl_HistSwap_S2 entry entry1 s) :=
  loopD (I := fun s : Int => Fin cx impl_HistSwap_X res outs impl_HistSwap_k3 (impl_HistSwap_S2 entry entry1 s)) h fun s st h hc => impl_HistSwap_b1_ok entry entry1 res outs x1 hb1 hr1 st hc s h
noncomputable def impl_HistSwap (list : List TEntry) (at_ : Int) : Option Bool :=
  ((impl_listOk list).bind fun listOk =>
 (bif (!listOk) then
 some false
 else
 ((impl_in at_ 0 (w64 ((list.length : Int) - 2))).bind fun in_ =>
 (bif (!in_) then
 some false
 else
 ((idx list at_).bind fun entry =>
 ((idx list (w64 (at_ + 1))).bind fun entry1 =>
 (bif entry.None then
 some true
 else
 (bif entry1.None then
 some true
 else
 (bif (entry.Req.Who == entry1.Req.Who) then
 some false
 else
 ((loop (fun s : Int => impl_HistSwap_b1 entry entry1 s) 0).bind fun x => x.go (fun r => some r) fun s => impl_HistSwap_k2))))))))))
theorem impl_HistSwap_fin (list : List TEntry) (at_ : Int) (r : Bool) (h : impl_HistSwap list at_ = some r) : Fin cx impl_HistSwap_X (impl_HistSwap_R r) (impl_HistSwap_O r) [.code impl_HistSwap_c] (startS impl_HistSwap_X [vsl 7 eEntry list, vi at_]) :=
  (bindD h fun listOk hlistOk h =>
 (condD h (fun e1 h =>
 (someD h fun e => (Fin.fin (cx := cx) (X := impl_HistSwap_X) (res := impl_HistSwap_R false) (outs := impl_HistSwap_O false) Try.func7 [[], [(1, { a := .call [.val [some 7] []] false (impl_listOk_R listOk) (impl_listOk_O listOk) }), (3, { d := some true })], []] [ACalls cx.P 13 [vsl 7 eEntry list] (impl_listOk_R listOk) (impl_listOk_O listOk), (!listOk) = true] (.cons (impl_listOk_ok list listOk hlistOk) (.cons e1 .nil)) (by kernel_rfl)).is (congrArg impl_HistSwap_R e) (congrArg impl_HistSwap_O e))) (fun e1 h =>
 (bindD h fun in_ hin_ h =>
 (condD h (fun e2 h =>
 (someD h fun e => (Fin.fin (cx := cx) (X := impl_HistSwap_X) (res := impl_HistSwap_R false) (outs := impl_HistSwap_O false) Try.func7 [[], [(1, { a := .call [.val [some 7] []] false (impl_listOk_R listOk) (impl_listOk_O listOk) }), (3, { d := some false }), (8, { a := .call [.val [] [], .val [] [], .val [] []] false (impl_in_R in_) (impl_in_O in_) }), (10, { d := some true })], []] [ACalls cx.P 13 [vsl 7 eEntry list] (impl_listOk_R listOk) (impl_listOk_O listOk), (!listOk) = false, ACalls cx.P 14 [vi at_, vi 0, vi (w64 ((list.length : Int) - 2))] (impl_in_R in_) (impl_in_O in_), (!in_) = true] (.cons (impl_listOk_ok list listOk hlistOk) (.cons e1 (.cons (impl_in_ok at_ 0 (w64 ((list.length : Int) - 2)) in_ hin_) (.cons e2 .nil)))) (by kernel_rfl)).is (congrArg impl_HistSwap_R e) (congrArg impl_HistSwap_O e))) (fun e2 h =>
 (bindD h fun entry hentry h =>
 (bindD h fun entry1 hentry1 h =>
 (condD h (fun e3 h =>
 (someD h fun e => (Fin.fin (cx := cx) (X := impl_HistSwap_X) (res := impl_HistSwap_R true) (outs := impl_HistSwap_O true) Try.func7 [[], [(1, { a := .call [.val [some 7] []] false (impl_listOk_R listOk) (impl_listOk_O listOk) }), (3, { d := some false }), (8, { a := .call [.val [] [], .val [] [], .val [] []] false (impl_in_R in_) (impl_in_O in_) }), (10, { d := some false })], [(2, { a := .row (eEntry entry) }), (7, { a := .row (eEntry entry1) })], [(2, { d := some true })], []] [ACalls cx.P 13 [vsl 7 eEntry list] (impl_listOk_R listOk) (impl_listOk_O listOk), (!listOk) = false, ACalls cx.P 14 [vi at_, vi 0, vi (w64 ((list.length : Int) - 2))] (impl_in_R in_) (impl_in_O in_), (!in_) = false, (0 : Int) ≤ at_, at_ < ((list.length : Nat) : Int), (list.map eEntry)[at_.toNat]? = some (eEntry entry), (0 : Int) ≤ (w64 (at_ + 1)), (w64 (at_ + 1)) < ((list.length : Nat) : Int), (list.map eEntry)[(w64 (at_ + 1)).toNat]? = some (eEntry entry1), entry.None = true] (.cons (impl_listOk_ok list listOk hlistOk) (.cons e1 (.cons (impl_in_ok at_ 0 (w64 ((list.length : Int) - 2)) in_ hin_) (.cons e2 (.cons (idx0 hentry) (.cons (idx1 hentry) (.cons (map_idx hentry) (.cons (idx0 hentry1) (.cons (idx1 hentry1) (.cons (map_idx hentry1) (.cons e3 .nil))))))))))) (by kernel_rfl)).is (congrArg impl_HistSwap_R e) (congrArg impl_HistSwap_O e))) (fun e3 h =>
 (condD h (fun e4 h =>
 (someD h fun e => (Fin.fin (cx := cx) (X := impl_HistSwap_X) (res := impl_HistSwap_R true) (outs := impl_HistSwap_O true) Try.func7 [[], [(1, { a := .call [.val [some 7] []] false (impl_listOk_R listOk) (impl_listOk_O listOk) }), (3, { d := some false }), (8, { a := .call [.val [] [], .val [] [], .val [] []] false (impl_in_R in_) (impl_in_O in_) }), (10, { d := some false })], [(2, { a := .row (eEntry entry) }), (7, { a := .row (eEntry entry1) })], [(2, { d := some false }), (5, { d := some true })], []] [ACalls cx.P 13 [vsl 7 eEntry list] (impl_listOk_R listOk) (impl_listOk_O listOk), (!listOk) = false, ACalls cx.P 14 [vi at_, vi 0, vi (w64 ((list.length : Int) - 2))] (impl_in_R in_) (impl_in_O in_), (!in_) = false, (0 : Int) ≤ at_, at_ < ((list.length : Nat) : Int), (list.map eEntry)[at_.toNat]? = some (eEntry entry), (0 : Int) ≤ (w64 (at_ + 1)), (w64 (at_ + 1)) < ((list.length : Nat) : Int), (list.map eEntry)[(w64 (at_ + 1)).toNat]? = some (eEntry entry1), entry.None = false, entry1.None = true] (.cons (impl_listOk_ok list listOk hlistOk) (.cons e1 (.cons (impl_in_ok at_ 0 (w64 ((list.length : Int) - 2)) in_ hin_) (.cons e2 (.cons (idx0 hentry) (.cons (idx1 hentry) (.cons (map_idx hentry) (.cons (idx0 hentry1) (.cons (idx1 hentry1) (.cons (map_idx hentry1) (.cons e3 (.cons e4 .nil)))))))))))) (by kernel_rfl)).is (congrArg impl_HistSwap_R e) (congrArg impl_HistSwap_O e))) (fun e4 h =>
 (condD h (fun e5 h =>
 (someD h fun e => (Fin.fin (cx := cx) (X := impl_HistSwap_X) (res := impl_HistSwap_R false) (outs := impl_HistSwap_O false) Try.func7 [[], [(1, { a := .call [.val [some 7] []] false (impl_listOk_R listOk) (impl_listOk_O listOk) }), (3, { d := some false }), (8, { a := .call [.val [] [], .val [] [], .val [] []] false (impl_in_R in_) (impl_in_O in_) }), (10, { d := some false })], [(2, { a := .row (eEntry entry) }), (7, { a := .row (eEntry entry1) })], [(2, { d := some false }), (5, { d := some false })], [(6, { d := some true })], []] [ACalls cx.P 13 [vsl 7 eEntry list] (impl_listOk_R listOk) (impl_listOk_O listOk), (!listOk) = false, ACalls cx.P 14 [vi at_, vi 0, vi (w64 ((list.length : Int) - 2))] (impl_in_R in_) (impl_in_O in_), (!in_) = false, (0 : Int) ≤ at_, at_ < ((list.length : Nat) : Int), (list.map eEntry)[at_.toNat]? = some (eEntry entry), (0 : Int) ≤ (w64 (at_ + 1)), (w64 (at_ + 1)) < ((list.length : Nat) : Int), (list.map eEntry)[(w64 (at_ + 1)).toNat]? = some (eEntry entry1), entry.None = false, entry1.None = false, (entry.Req.Who == entry1.Req.Who) = true] (.cons (impl_listOk_ok list listOk hlistOk) (.cons e1 (.cons (impl_in_ok at_ 0 (w64 ((list.length : Int) - 2)) in_ hin_) (.cons e2 (.cons (idx0 hentry) (.cons (idx1 hentry) (.cons (map_idx hentry) (.cons (idx0 hentry1) (.cons (idx1 hentry1) (.cons (map_idx hentry1) (.cons e3 (.cons e4 (.cons e5 .nil))))))))))))) (by kernel_rfl)).is (congrArg impl_HistSwap_R e) (congrArg impl_HistSwap_O e))) (fun e5 h =>
 (loopJ h fun x hl hr hb => (Fin.seg [[], [(1, { a := .call [.val [some 7] []] false (impl_listOk_R listOk) (impl_listOk_O listOk) }), (3, { d := some false }), (8, { a := .call [.val [] [], .val [] [], .val [] []] false (impl_in_R in_) (impl_in_O in_) }), (10, { d := some false })], [(2, { a := .row (eEntry entry) }), (7, { a := .row (eEntry entry1) })], [(2, { d := some false }), (5, { d := some false })], [(6, { d := some false })], []] [] [5, 6, 7] [(22, 0), (23, 0)] [ACalls cx.P 13 [vsl 7 eEntry list] (impl_listOk_R listOk) (impl_listOk_O listOk), (!listOk) = false, ACalls cx.P 14 [vi at_, vi 0, vi (w64 ((list.length : Int) - 2))] (impl_in_R in_) (impl_in_O in_), (!in_) = false, (0 : Int) ≤ at_, at_ < ((list.length : Nat) : Int), (list.map eEntry)[at_.toNat]? = some (eEntry entry), (0 : Int) ≤ (w64 (at_ + 1)), (w64 (at_ + 1)) < ((list.length : Nat) : Int), (list.map eEntry)[(w64 (at_ + 1)).toNat]? = some (eEntry entry1), entry.None = false, entry1.None = false, (entry.Req.Who == entry1.Req.Who) = false] (.cons (impl_listOk_ok list listOk hlistOk) (.cons e1 (.cons (impl_in_ok at_ 0 (w64 ((list.length : Int) - 2)) in_ hin_) (.cons e2 (.cons (idx0 hentry) (.cons (idx1 hentry) (.cons (map_idx hentry) (.cons (idx0 hentry1) (.cons (idx1 hentry1) (.cons (map_idx hentry1) (.cons e3 (.cons e4 (.cons e5 .nil))))))))))))) (impl_HistSwap_b1_loop entry entry1 _ _ x (fun s e => impl_HistSwap_k2_ok r (hb s e)) (fun v e => ⟨congrArg impl_HistSwap_R (Option.some.inj (hr v e)).symm, congrArg impl_HistSwap_O (Option.some.inj (hr v e)).symm⟩) 0 hl) (by kernel_rfl)))))))))))))))))
theorem impl_HistSwap_ok (list : List TEntry) (at_ : Int) (r : Bool) (h : impl_HistSwap list at_ = some r) : ACalls cx.P 7 [vsl 7 eEntry list, vi at_] (impl_HistSwap_R r) (impl_HistSwap_O r) :=
  ACalls.of (cx := cx) (X := impl_HistSwap_X) (c := impl_HistSwap_c) Try.func7 (by kernel_rfl) (by kernel_rfl) (by kernel_rfl) (impl_HistSwap_fin list at_ r h)

/-! ### laws_eqReq -/
noncomputable def laws_eqReq_c : Code := bodyOf Try.f26
noncomputable def laws_eqReq_X : Sig := { f := 26, fn := Try.f26, rms := [.val [] []], oms := [none, none] }
noncomputable def laws_eqReq_R (r : Bool) : V := .b r
noncomputable def laws_eqReq_O (r : Bool) : List (Option V) := [none, none]
noncomputable def laws_eqReq (a : TReq) (b : TReq) : Option Bool :=
  (bif (a.Who != b.Who) then
 some false
 else
 (bif (a.Seq != b.Seq) then
 some false
 else
 some true))
theorem laws_eqReq_fin (a : TReq) (b : TReq) (r : Bool) (h : laws_eqReq a b = some r) : Fin cx laws_eqReq_X (laws_eqReq_R r) (laws_eqReq_O r) [.code laws_eqReq_c] (startS laws_eqReq_X [.agg (eReq a), .agg (eReq b)]) :=
  (condD h (fun e1 h =>
 (someD h fun e => (Fin.fin (cx := cx) (X := laws_eqReq_X) (res := laws_eqReq_R false) (outs := laws_eqReq_O false) Try.func26 [[], [(4, { d := some true })], []] [(a.Who != b.Who) = true] (.cons e1 .nil) (by kernel_rfl)).is (congrArg laws_eqReq_R e) (congrArg laws_eqReq_O e))) (fun e1 h =>
 (condD h (fun e2 h =>
 (someD h fun e => (Fin.fin (cx := cx) (X := laws_eqReq_X) (res := laws_eqReq_R false) (outs := laws_eqReq_O false) Try.func26 [[], [(4, { d := some false })], [(4, { d := some true })], []] [(a.Who != b.Who) = false, (a.Seq != b.Seq) = true] (.cons e1 (.cons e2 .nil)) (by kernel_rfl)).is (congrArg laws_eqReq_R e) (congrArg laws_eqReq_O e))) (fun e2 h =>
 (someD h fun e => (Fin.fin (cx := cx) (X := laws_eqReq_X) (res := laws_eqReq_R true) (outs := laws_eqReq_O true) Try.func26 [[], [(4, { d := some false })], [(4, { d := some false })], []] [(a.Who != b.Who) = false, (a.Seq != b.Seq) = false] (.cons e1 (.cons e2 .nil)) (by kernel_rfl)).is (congrArg laws_eqReq_R e) (congrArg laws_eqReq_O e))))))
theorem laws_eqReq_ok (a : TReq) (b : TReq) (r : Bool) (h : laws_eqReq a b = some r) : ACalls cx.P 26 [.agg (eReq a), .agg (eReq b)] (laws_eqReq_R r) (laws_eqReq_O r) :=
  ACalls.of (cx := cx) (X := laws_eqReq_X) (c := laws_eqReq_c) Try.func26 (by kernel_rfl) (by kernel_rfl) (by kernel_rfl) (laws_eqReq_fin a b r h)

/-! ### laws_eqRead -/
noncomputable def laws_eqRead_c : Code := bodyOf Try.f45
noncomputable def laws_eqRead_X : Sig := { f := 45, fn := Try.f45, rms := [.val [] []], oms := [none, none] }
noncomputable def laws_eqRead_R (r : Bool) : V := .b r
noncomputable def laws_eqRead_O (r : Bool) : List (Option V) := [none, none]
noncomputable def laws_eqRead (a : TRead) (b : TRead) : Option Bool :=
  (bif (a.Box != b.Box) then
 some false
 else
 (bif (a.Ver != b.Ver) then
 some false
 else
 some true))
theorem laws_eqRead_fin (a : TRead) (b : TRead) (r : Bool) (h : laws_eqRead a b = some r) : Fin cx laws_eqRead_X (laws_eqRead_R r) (laws_eqRead_O r) [.code laws_eqRead_c] (startS laws_eqRead_X [.agg (eRead a), .agg (eRead b)]) :=
  (condD h (fun e1 h =>
 (someD h fun e => (Fin.fin (cx := cx) (X := laws_eqRead_X) (res := laws_eqRead_R false) (outs := laws_eqRead_O false) Try.func45 [[], [(4, { d := some true })], []] [(a.Box != b.Box) = true] (.cons e1 .nil) (by kernel_rfl)).is (congrArg laws_eqRead_R e) (congrArg laws_eqRead_O e))) (fun e1 h =>
 (condD h (fun e2 h =>
 (someD h fun e => (Fin.fin (cx := cx) (X := laws_eqRead_X) (res := laws_eqRead_R false) (outs := laws_eqRead_O false) Try.func45 [[], [(4, { d := some false })], [(4, { d := some true })], []] [(a.Box != b.Box) = false, (a.Ver != b.Ver) = true] (.cons e1 (.cons e2 .nil)) (by kernel_rfl)).is (congrArg laws_eqRead_R e) (congrArg laws_eqRead_O e))) (fun e2 h =>
 (someD h fun e => (Fin.fin (cx := cx) (X := laws_eqRead_X) (res := laws_eqRead_R true) (outs := laws_eqRead_O true) Try.func45 [[], [(4, { d := some false })], [(4, { d := some false })], []] [(a.Box != b.Box) = false, (a.Ver != b.Ver) = false] (.cons e1 (.cons e2 .nil)) (by kernel_rfl)).is (congrArg laws_eqRead_R e) (congrArg laws_eqRead_O e))))))
theorem laws_eqRead_ok (a : TRead) (b : TRead) (r : Bool) (h : laws_eqRead a b = some r) : ACalls cx.P 45 [.agg (eRead a), .agg (eRead b)] (laws_eqRead_R r) (laws_eqRead_O r) :=
  ACalls.of (cx := cx) (X := laws_eqRead_X) (c := laws_eqRead_c) Try.func45 (by kernel_rfl) (by kernel_rfl) (by kernel_rfl) (laws_eqRead_fin a b r h)

/-! ### laws_eqReadS -/
noncomputable def laws_eqReadS_c : Code := bodyOf Try.f38
noncomputable def laws_eqReadS_X : Sig := { f := 38, fn := Try.f38, rms := [.val [] []], oms := [none, none] }
noncomputable def laws_eqReadS_R (r : Bool) : V := .b r
noncomputable def laws_eqReadS_O (r : Bool) : List (Option V) := [none, none]
noncomputable def laws_eqReadS_k1 : List Item := posI 2000 4 [false, false] [.code laws_eqReadS_c]
noncomputable def laws_eqReadS_S1 : St := ⟨(bs 27 []), [some []]⟩
noncomputable def laws_eqReadS_k2 : Option Bool :=
  some true
theorem laws_eqReadS_k2_ok (r : Bool) (h : laws_eqReadS_k2 = some r) : Fin cx laws_eqReadS_X (laws_eqReadS_R r) (laws_eqReadS_O r) laws_eqReadS_k1 (laws_eqReadS_S1) :=
  (someD h fun e => (Fin.fin (cx := cx) (X := laws_eqReadS_X) (res := laws_eqReadS_R true) (outs := laws_eqReadS_O true) Try.func38 [[]] [] .nil (by kernel_rfl)).is (congrArg laws_eqReadS_R e) (congrArg laws_eqReadS_O e))
noncomputable def laws_eqReadS_k3 : List Item := posI 2000 3 [false] [.code laws_eqReadS_c]
noncomputable def laws_eqReadS_S2 (a : List TRead) (b : List TRead) (i : Int) : St := ⟨(vsl 2 eRead a :: (vsl 2 eRead b :: (bs 3 (vi i :: (bs 21 []))))), [some []]⟩
noncomputable def laws_eqReadS_b1 (a : List TRead) (b : List TRead) (i : Int) : Option (Stp Bool Int Unit) :=
  (bif decide (i < (a.length : Int)) then
 ((idx a i).bind fun read =>
 ((idx b i).bind fun read1 =>
 ((laws_eqRead read read1).bind fun eqRead =>
 (bif (!eqRead) then
 some (Stp.ret false)
 else
 some (Stp.nxt (w64 (i + 1)))))))
 else
 some (Stp.brk ()))
theorem laws_eqReadS_b1_ok (a : List TRead) (b : List TRead) (res : V) (outs : List (Option V)) (x1 : Exc Bool Unit) (hb1 : ∀ s : Unit, x1 = .brk s → Fin cx laws_eqReadS_X res outs laws_eqReadS_k1 (laws_eqReadS_S1)) (hr1 : ∀ v : Bool, x1 = .ret v → (res = laws_eqReadS_R v ∧ outs = laws_eqReadS_O v)) (st1 : Stp Bool Int Unit) (hc1 : Cont x1 (fun s : Int => Fin cx laws_eqReadS_X res outs laws_eqReadS_k3 (laws_eqReadS_S2 a b s)) st1) (i : Int) (h : laws_eqReadS_b1 a b i = some st1) : Fin cx laws_eqReadS_X res outs laws_eqReadS_k3 (laws_eqReadS_S2 a b i) :=
  (condD h (fun e2 h =>
 (bindD h fun read hread h =>
 (bindD h fun read1 hread1 h =>
 (bindD h fun eqRead heqRead h =>
 (condD h (fun e3 h =>
 (retD h hc1 fun e => (Fin.fin (cx := cx) (X := laws_eqReadS_X) (res := laws_eqReadS_R false) (outs := laws_eqReadS_O false) Try.func38 [[(3, { d := some true })], [(2, { a := .row (eRead read) }), (6, { a := .row (eRead read1) }), (8, { a := .call [.val [] [], .val [] []] false (laws_eqRead_R eqRead) (laws_eqRead_O eqRead) }), (9, { d := some true })], []] [decide (i < (a.length : Int)) = true, (0 : Int) ≤ i, i < ((a.length : Nat) : Int), (a.map eRead)[i.toNat]? = some (eRead read), (0 : Int) ≤ i, i < ((b.length : Nat) : Int), (b.map eRead)[i.toNat]? = some (eRead read1), ACalls cx.P 45 [.agg (eRead read), .agg (eRead read1)] (laws_eqRead_R eqRead) (laws_eqRead_O eqRead), (!eqRead) = true] (.cons e2 (.cons (idx0 hread) (.cons (idx1 hread) (.cons (map_idx hread) (.cons (idx0 hread1) (.cons (idx1 hread1) (.cons (map_idx hread1) (.cons (laws_eqRead_ok read read1 eqRead heqRead) (.cons e3 .nil))))))))) (by kernel_rfl)).is (hr1 _ e).1 (hr1 _ e).2)) (fun e3 h =>
 (nxtD h hc1 fun hI => (Fin.seg [[(3, { d := some true })], [(2, { a := .row (eRead read) }), (6, { a := .row (eRead read1) }), (8, { a := .call [.val [] [], .val [] []] false (laws_eqRead_R eqRead) (laws_eqRead_O eqRead) }), (9, { d := some false })], []] [] [0, 1, 5] [] [decide (i < (a.length : Int)) = true, (0 : Int) ≤ i, i < ((a.length : Nat) : Int), (a.map eRead)[i.toNat]? = some (eRead read), (0 : Int) ≤ i, i < ((b.length : Nat) : Int), (b.map eRead)[i.toNat]? = some (eRead read1), ACalls cx.P 45 [.agg (eRead read), .agg (eRead read1)] (laws_eqRead_R eqRead) (laws_eqRead_O eqRead), (!eqRead) = false] (.cons e2 (.cons (idx0 hread) (.cons (idx1 hread) (.cons (map_idx hread) (.cons (idx0 hread1) (.cons (idx1 hread1) (.cons (map_idx hread1) (.cons (laws_eqRead_ok read read1 eqRead heqRead) (.cons e3 .nil))))))))) hI (by kernel_rfl))))))))) (fun e2 h =>
 (brkD h hc1 fun e => (Fin.seg [[(3, { d := some false })]] [] [] [] [decide (i < (a.length : Int)) = false] (.cons e2 .nil) (hb1 _ e) (by kernel_rfl)))))
theorem laws_eqReadS_b1_loop (a : List TRead) (b : List TRead) (res : V) (outs : List (Option V)) (x1 : Exc Bool Unit) (hb1 : ∀ s : Unit, x1 = .brk s → Fin cx laws_eqReadS_X res outs laws_eqReadS_k1 (laws_eqReadS_S1)) (hr1 : ∀ v : Bool, x1 = .ret v → (res = laws_eqReadS_R v ∧ outs = laws_eqReadS_O v)) (s : Int) (h : loop (fun s : Int => laws_eqReadS_b1 a b s) s = some x1) : Fin cx laws_eqReadS_X res outs laws_eqReadS_k3 (laws_eqReadS_S2 a b s) :=
  loopD (I := fun s : Int => Fin cx laws_eqReadS_X res outs laws_eqReadS_k3 (laws_eqReadS_S2 a b s)) h fun s st h hc => laws_eqReadS_b1_ok a b res outs x1 hb1 hr1 st hc s h
noncomputable def laws_eqReadS (a : List TRead) (b : List TRead) : Option Bool :=
  (bif ((a.length : Int) != (b.length : Int)) then
 some false
 else
 ((loop (fun s : Int => laws_eqReadS_b1 a b s) 0).bind fun x => x.go (fun r => some r) fun s => laws_eqReadS_k2))
theorem laws_eqReadS_fin (a : List TRead) (b : List TRead) (r : Bool) (h : laws_eqReadS a b = some r) : Fin cx laws_eqReadS_X (laws_eqReadS_R r) (laws_eqReadS_O r) [.code laws_eqReadS_c] (startS laws_eqReadS_X [vsl 2 eRead a, vsl 2 eRead b]) :=
  (condD h (fun e1 h =>
 (someD h fun e => (Fin.fin (cx := cx) (X := laws_eqReadS_X) (res := laws_eqReadS_R false) (outs := laws_eqReadS_O false) Try.func38 [[], [(4, { d := some true })], []] [((a.length : Int) != (b.length : Int)) = true] (.cons e1 .nil) (by kernel_rfl)).is (congrArg laws_eqReadS_R e) (congrArg laws_eqReadS_O e))) (fun e1 h =>
 (loopJ h fun x hl hr hb => (Fin.seg [[], [(4, { d := some false })], []] [] [0, 1, 5] [] [((a.length : Int) != (b.length : Int)) = false] (.cons e1 .nil) (laws_eqReadS_b1_loop a b _ _ x (fun s e => laws_eqReadS_k2_ok r (hb s e)) (fun v e => ⟨congrArg laws_eqReadS_R (Option.some.inj (hr v e)).symm, congrArg laws_eqReadS_O (Option.some.inj (hr v e)).symm⟩) 0 hl) (by kernel_rfl)))))
theorem laws_eqReadS_ok (a : List TRead) (b : List TRead) (r : Bool) (h : laws_eqReadS a b = some r) : ACalls cx.P 38 [vsl 2 eRead a, vsl 2 eRead b] (laws_eqReadS_R r) (laws_eqReadS_O r) :=
  ACalls.of (cx := cx) (X := laws_eqReadS_X) (c := laws_eqReadS_c) Try.func38 (by kernel_rfl) (by kernel_rfl) (by kernel_rfl) (laws_eqReadS_fin a b r h)

/-! ### laws_eqPut -/
noncomputable def laws_eqPut_c : Code := bodyOf Try.f46
noncomputable def laws_eqPut_X : Sig := { f := 46, fn := Try.f46, rms := [.val [] []], oms := [none, none] }
noncomputable def laws_eqPut_R (r : Bool) : V := .b r
noncomputable def laws_eqPut_O (r : Bool) : List (Option V) := [none, none]
noncomputable def laws_eqPut (a : TPut) (b : TPut) : Option Bool :=
  (bif (a.Box != b.Box) then
 some false
 else
 (bif (a.Val != b.Val) then
 some false
 else
 some true))
theorem laws_eqPut_fin (a : TPut) (b : TPut) (r : Bool) (h : laws_eqPut a b = some r) : Fin cx laws_eqPut_X (laws_eqPut_R r) (laws_eqPut_O r) [.code laws_eqPut_c] (startS laws_eqPut_X [.agg (ePut a), .agg (ePut b)]) :=
  (condD h (fun e1 h =>
 (someD h fun e => (Fin.fin (cx := cx) (X := laws_eqPut_X) (res := laws_eqPut_R false) (outs := laws_eqPut_O false) Try.func46 [[], [(4, { d := some true })], []] [(a.Box != b.Box) = true] (.cons e1 .nil) (by kernel_rfl)).is (congrArg laws_eqPut_R e) (congrArg laws_eqPut_O e))) (fun e1 h =>
 (condD h (fun e2 h =>
 (someD h fun e => (Fin.fin (cx := cx) (X := laws_eqPut_X) (res := laws_eqPut_R false) (outs := laws_eqPut_O false) Try.func46 [[], [(4, { d := some false })], [(4, { d := some true })], []] [(a.Box != b.Box) = false, (a.Val != b.Val) = true] (.cons e1 (.cons e2 .nil)) (by kernel_rfl)).is (congrArg laws_eqPut_R e) (congrArg laws_eqPut_O e))) (fun e2 h =>
 (someD h fun e => (Fin.fin (cx := cx) (X := laws_eqPut_X) (res := laws_eqPut_R true) (outs := laws_eqPut_O true) Try.func46 [[], [(4, { d := some false })], [(4, { d := some false })], []] [(a.Box != b.Box) = false, (a.Val != b.Val) = false] (.cons e1 (.cons e2 .nil)) (by kernel_rfl)).is (congrArg laws_eqPut_R e) (congrArg laws_eqPut_O e))))))
theorem laws_eqPut_ok (a : TPut) (b : TPut) (r : Bool) (h : laws_eqPut a b = some r) : ACalls cx.P 46 [.agg (ePut a), .agg (ePut b)] (laws_eqPut_R r) (laws_eqPut_O r) :=
  ACalls.of (cx := cx) (X := laws_eqPut_X) (c := laws_eqPut_c) Try.func46 (by kernel_rfl) (by kernel_rfl) (by kernel_rfl) (laws_eqPut_fin a b r h)

/-! ### laws_eqPutS -/
noncomputable def laws_eqPutS_c : Code := bodyOf Try.f39
noncomputable def laws_eqPutS_X : Sig := { f := 39, fn := Try.f39, rms := [.val [] []], oms := [none, none] }
noncomputable def laws_eqPutS_R (r : Bool) : V := .b r
noncomputable def laws_eqPutS_O (r : Bool) : List (Option V) := [none, none]
noncomputable def laws_eqPutS_k1 : List Item := posI 2000 4 [false, false] [.code laws_eqPutS_c]
noncomputable def laws_eqPutS_S1 : St := ⟨(bs 27 []), [some []]⟩
noncomputable def laws_eqPutS_k2 : Option Bool :=
  some true
theorem laws_eqPutS_k2_ok (r : Bool) (h : laws_eqPutS_k2 = some r) : Fin cx laws_eqPutS_X (laws_eqPutS_R r) (laws_eqPutS_O r) laws_eqPutS_k1 (laws_eqPutS_S1) :=
  (someD h fun e => (Fin.fin (cx := cx) (X := laws_eqPutS_X) (res := laws_eqPutS_R true) (outs := laws_eqPutS_O true) Try.func39 [[]] [] .nil (by kernel_rfl)).is (congrArg laws_eqPutS_R e) (congrArg laws_eqPutS_O e))
noncomputable def laws_eqPutS_k3 : List Item := posI 2000 3 [false] [.code laws_eqPutS_c]
noncomputable def laws_eqPutS_S2 (a : List TPut) (b : List TPut) (i : Int) : St := ⟨(vsl 2 ePut a :: (vsl 2 ePut b :: (bs 3 (vi i :: (bs 21 []))))), [some []]⟩
noncomputable def laws_eqPutS_b1 (a : List TPut) (b : List TPut) (i : Int) : Option (Stp Bool Int Unit) :=
  (bif decide (i < (a.length : Int)) then
 ((idx a i).bind fun put =>
 ((idx b i).bind fun put1 =>
 ((laws_eqPut put put1).bind fun eqPut =>
 (bif (!eqPut) then
 some (Stp.ret false)
 else
 some (Stp.nxt (w64 (i + 1)))))))
 else
 some (Stp.brk ()))
theorem laws_eqPutS_b1_ok (a : List TPut) (b : List TPut) (res : V) (outs : List (Option V)) (x1 : Exc Bool Unit) (hb1 : ∀ s : Unit, x1 = .brk s → Fin cx laws_eqPutS_X res outs laws_eqPutS_k1 (laws_eqPutS_S1)) (hr1 : ∀ v : Bool, x1 = .ret v → (res = laws_eqPutS_R v ∧ outs = laws_eqPutS_O v)) (st1 : Stp Bool Int Unit) (hc1 : Cont x1 (fun s : Int => Fin cx laws_eqPutS_X res outs laws_eqPutS_k3 (laws_eqPutS_S2 a b s)) st1) (i : Int) (h : laws_eqPutS_b1 a b i = some st1) : Fin cx laws_eqPutS_X res outs laws_eqPutS_k3 (laws_eqPutS_S2 a b i) :=
  (condD h (fun e2 h =>
 (bindD h fun put hput h =>
 (bindD h fun put1 hput1 h =>
 (bindD h fun eqPut heqPut h =>
 (condD h (fun e3 h =>
 (retD h hc1 fun e => (Fin.fin (cx := cx) (X := laws_eqPutS_X) (res := laws_eqPutS_R false) (outs := laws_eqPutS_O false) Try.func39 [[(3, { d := some true })], [(2, { a := .row (ePut put) }), (6, { a := .row (ePut put1) }), (8, { a := .call [.val [] [], .val [] []] false (laws_eqPut_R eqPut) (laws_eqPut_O eqPut) }), (9, { d := some true })], []] [decide (i < (a.length : Int)) = true, (0 : Int) ≤ i, i < ((a.length : Nat) : Int), (a.map ePut)[i.toNat]? = some (ePut put), (0 : Int) ≤ i, i < ((b.length : Nat) : Int), (b.map ePut)[i.toNat]? = some (ePut put1), ACalls cx.P 46 [.agg (ePut put), .agg (ePut put1)] (laws_eqPut_R eqPut) (laws_eqPut_O eqPut), (!eqPut) = true] (.cons e2 (.cons (idx0 hput) (.cons (idx1 hput) (.cons (map_idx hput) (.cons (idx0 hput1) (.cons (idx1 hput1) (.cons (map_idx hput1) (.cons (laws_eqPut_ok put put1 eqPut heqPut) (.cons e3 .nil))))))))) (by kernel_rfl)).is (hr1 _ e).1 (hr1 _ e).2)) (fun e3 h =>
 (nxtD h hc1 fun hI => (Fin.seg [[(3, { d := some true })], [(2, { a := .row (ePut put) }), (6, { a := .row (ePut put1) }), (8, { a := .call [.val [] [], .val [] []] false (laws_eqPut_R eqPut) (laws_eqPut_O eqPut) }), (9, { d := some false })], []] [] [0, 1, 5] [] [decide (i < (a.length : Int)) = true, (0 : Int) ≤ i, i < ((a.length : Nat) : Int), (a.map ePut)[i.toNat]? = some (ePut put), (0 : Int) ≤ i, i < ((b.length : Nat) : Int), (b.map ePut)[i.toNat]? = some (ePut put1), ACalls cx.P 46 [.agg (ePut put), .agg (ePut put1)] (laws_eqPut_R eqPut) (laws_eqPut_O eqPut), (!eqPut) = false] (.cons e2 (.cons (idx0 hput) (.cons (idx1 hput) (.cons (map_idx hput) (.cons (idx0 hput1) (.cons (idx1 hput1) (.cons (map_idx hput1) (.cons (laws_eqPut_ok put put1 eqPut heqPut) (.cons e3 .nil))))))))) hI (by kernel_rfl))))))))) (fun e2 h =>
 (brkD h hc1 fun e => (Fin.seg [[(3, { d := some false })]] [] [] [] [decide (i < (a.length : Int)) = false] (.cons e2 .nil) (hb1 _ e) (by kernel_rfl)))))
theorem laws_eqPutS_b1_loop (a : List TPut) (b : List TPut) (res : V) (outs : List (Option V)) (x1 : Exc Bool Unit) (hb1 : ∀ s : Unit, x1 = .brk s → Fin cx laws_eqPutS_X res outs laws_eqPutS_k1 (laws_eqPutS_S1)) (hr1 : ∀ v : Bool, x1 = .ret v → (res = laws_eqPutS_R v ∧ outs = laws_eqPutS_O v)) (s : Int) (h : loop (fun s : Int => laws_eqPutS_b1 a b s) s = some x1) : Fin cx laws_eqPutS_X res outs laws_eqPutS_k3 (laws_eqPutS_S2 a b s) :=
  loopD (I := fun s : Int => Fin cx laws_eqPutS_X res outs laws_eqPutS_k3 (laws_eqPutS_S2 a b s)) h fun s st h hc => laws_eqPutS_b1_ok a b res outs x1 hb1 hr1 st hc s h
noncomputable def laws_eqPutS (a : List TPut) (b : List TPut) : Option Bool :=
  (bif ((a.length : Int) != (b.length : Int)) then
 some false
 else
 ((loop (fun s : Int => laws_eqPutS_b1 a b s) 0).bind fun x => x.go (fun r => some r) fun s => laws_eqPutS_k2))
theorem laws_eqPutS_fin (a : List TPut) (b : List TPut) (r : Bool) (h : laws_eqPutS a b = some r) : Fin cx laws_eqPutS_X (laws_eqPutS_R r) (laws_eqPutS_O r) [.code laws_eqPutS_c] (startS laws_eqPutS_X [vsl 2 ePut a, vsl 2 ePut b]) :=
  (condD h (fun e1 h =>
 (someD h fun e => (Fin.fin (cx := cx) (X := laws_eqPutS_X) (res := laws_eqPutS_R false) (outs := laws_eqPutS_O false) Try.func39 [[], [(4, { d := some true })], []] [((a.length : Int) != (b.length : Int)) = true] (.cons e1 .nil) (by kernel_rfl)).is (congrArg laws_eqPutS_R e) (congrArg laws_eqPutS_O e))) (fun e1 h =>
 (loopJ h fun x hl hr hb => (Fin.seg [[], [(4, { d := some false })], []] [] [0, 1, 5] [] [((a.length : Int) != (b.length : Int)) = false] (.cons e1 .nil) (laws_eqPutS_b1_loop a b _ _ x (fun s e => laws_eqPutS_k2_ok r (hb s e)) (fun v e => ⟨congrArg laws_eqPutS_R (Option.some.inj (hr v e)).symm, congrArg laws_eqPutS_O (Option.some.inj (hr v e)).symm⟩) 0 hl) (by kernel_rfl)))))
theorem laws_eqPutS_ok (a : List TPut) (b : List TPut) (r : Bool) (h : laws_eqPutS a b = some r) : ACalls cx.P 39 [vsl 2 ePut a, vsl 2 ePut b] (laws_eqPutS_R r) (laws_eqPutS_O r) :=
  ACalls.of (cx := cx) (X := laws_eqPutS_X) (c := laws_eqPutS_c) Try.func39 (by kernel_rfl) (by kernel_rfl) (by kernel_rfl) (laws_eqPutS_fin a b r h)

/-! ### laws_eqRun -/
noncomputable def laws_eqRun_c : Code := bodyOf Try.f27
noncomputable def laws_eqRun_X : Sig := { f := 27, fn := Try.f27, rms := [.val [] []], oms := [none, none] }
noncomputable def laws_eqRun_R (r : Bool) : V := .b r
noncomputable def laws_eqRun_O (r : Bool) : List (Option V) := [none, none]
noncomputable def laws_eqRun (a : TRun) (b : TRun) : Option Bool :=
  ((laws_eqReadS a.Reads b.Reads).bind fun eqReadS =>
 (bif (!eqReadS) then
 some false
 else
 ((laws_eqPutS a.Puts b.Puts).bind fun eqPutS =>
 (bif (!eqPutS) then
 some false
 else
 (bif (a.Val != b.Val) then
 some false
 else
 (bif (a.Code != b.Code) then
 some false
 else
 some true))))))
theorem laws_eqRun_fin (a : TRun) (b : TRun) (r : Bool) (h : laws_eqRun a b = some r) : Fin cx laws_eqRun_X (laws_eqRun_R r) (laws_eqRun_O r) [.code laws_eqRun_c] (startS laws_eqRun_X [.agg (eRun a), .agg (eRun b)]) :=
  (bindD h fun eqReadS heqReadS h =>
 (condD h (fun e1 h =>
 (someD h fun e => (Fin.fin (cx := cx) (X := laws_eqRun_X) (res := laws_eqRun_R false) (outs := laws_eqRun_O false) Try.func27 [[], [(4, { a := .call [.val [some 2] [], .val [some 2] []] false (laws_eqReadS_R eqReadS) (laws_eqReadS_O eqReadS) }), (5, { d := some true })], []] [ACalls cx.P 38 [vsl 2 eRead a.Reads, vsl 2 eRead b.Reads] (laws_eqReadS_R eqReadS) (laws_eqReadS_O eqReadS), (!eqReadS) = true] (.cons (laws_eqReadS_ok a.Reads b.Reads eqReadS heqReadS) (.cons e1 .nil)) (by kernel_rfl)).is (congrArg laws_eqRun_R e) (congrArg laws_eqRun_O e))) (fun e1 h =>
 (bindD h fun eqPutS heqPutS h =>
 (condD h (fun e2 h =>
 (someD h fun e => (Fin.fin (cx := cx) (X := laws_eqRun_X) (res := laws_eqRun_R false) (outs := laws_eqRun_O false) Try.func27 [[], [(4, { a := .call [.val [some 2] [], .val [some 2] []] false (laws_eqReadS_R eqReadS) (laws_eqReadS_O eqReadS) }), (5, { d := some false })], [(4, { a := .call [.val [some 2] [], .val [some 2] []] false (laws_eqPutS_R eqPutS) (laws_eqPutS_O eqPutS) }), (5, { d := some true })], []] [ACalls cx.P 38 [vsl 2 eRead a.Reads, vsl 2 eRead b.Reads] (laws_eqReadS_R eqReadS) (laws_eqReadS_O eqReadS), (!eqReadS) = false, ACalls cx.P 39 [vsl 2 ePut a.Puts, vsl 2 ePut b.Puts] (laws_eqPutS_R eqPutS) (laws_eqPutS_O eqPutS), (!eqPutS) = true] (.cons (laws_eqReadS_ok a.Reads b.Reads eqReadS heqReadS) (.cons e1 (.cons (laws_eqPutS_ok a.Puts b.Puts eqPutS heqPutS) (.cons e2 .nil)))) (by kernel_rfl)).is (congrArg laws_eqRun_R e) (congrArg laws_eqRun_O e))) (fun e2 h =>
 (condD h (fun e3 h =>
 (someD h fun e => (Fin.fin (cx := cx) (X := laws_eqRun_X) (res := laws_eqRun_R false) (outs := laws_eqRun_O false) Try.func27 [[], [(4, { a := .call [.val [some 2] [], .val [some 2] []] false (laws_eqReadS_R eqReadS) (laws_eqReadS_O eqReadS) }), (5, { d := some false })], [(4, { a := .call [.val [some 2] [], .val [some 2] []] false (laws_eqPutS_R eqPutS) (laws_eqPutS_O eqPutS) }), (5, { d := some false })], [(4, { d := some true })], []] [ACalls cx.P 38 [vsl 2 eRead a.Reads, vsl 2 eRead b.Reads] (laws_eqReadS_R eqReadS) (laws_eqReadS_O eqReadS), (!eqReadS) = false, ACalls cx.P 39 [vsl 2 ePut a.Puts, vsl 2 ePut b.Puts] (laws_eqPutS_R eqPutS) (laws_eqPutS_O eqPutS), (!eqPutS) = false, (a.Val != b.Val) = true] (.cons (laws_eqReadS_ok a.Reads b.Reads eqReadS heqReadS) (.cons e1 (.cons (laws_eqPutS_ok a.Puts b.Puts eqPutS heqPutS) (.cons e2 (.cons e3 .nil))))) (by kernel_rfl)).is (congrArg laws_eqRun_R e) (congrArg laws_eqRun_O e))) (fun e3 h =>
 (condD h (fun e4 h =>
 (someD h fun e => (Fin.fin (cx := cx) (X := laws_eqRun_X) (res := laws_eqRun_R false) (outs := laws_eqRun_O false) Try.func27 [[], [(4, { a := .call [.val [some 2] [], .val [some 2] []] false (laws_eqReadS_R eqReadS) (laws_eqReadS_O eqReadS) }), (5, { d := some false })], [(4, { a := .call [.val [some 2] [], .val [some 2] []] false (laws_eqPutS_R eqPutS) (laws_eqPutS_O eqPutS) }), (5, { d := some false })], [(4, { d := some false })], [(4, { d := some true })], []] [ACalls cx.P 38 [vsl 2 eRead a.Reads, vsl 2 eRead b.Reads] (laws_eqReadS_R eqReadS) (laws_eqReadS_O eqReadS), (!eqReadS) = false, ACalls cx.P 39 [vsl 2 ePut a.Puts, vsl 2 ePut b.Puts] (laws_eqPutS_R eqPutS) (laws_eqPutS_O eqPutS), (!eqPutS) = false, (a.Val != b.Val) = false, (a.Code != b.Code) = true] (.cons (laws_eqReadS_ok a.Reads b.Reads eqReadS heqReadS) (.cons e1 (.cons (laws_eqPutS_ok a.Puts b.Puts eqPutS heqPutS) (.cons e2 (.cons e3 (.cons e4 .nil)))))) (by kernel_rfl)).is (congrArg laws_eqRun_R e) (congrArg laws_eqRun_O e))) (fun e4 h =>
 (someD h fun e => (Fin.fin (cx := cx) (X := laws_eqRun_X) (res := laws_eqRun_R true) (outs := laws_eqRun_O true) Try.func27 [[], [(4, { a := .call [.val [some 2] [], .val [some 2] []] false (laws_eqReadS_R eqReadS) (laws_eqReadS_O eqReadS) }), (5, { d := some false })], [(4, { a := .call [.val [some 2] [], .val [some 2] []] false (laws_eqPutS_R eqPutS) (laws_eqPutS_O eqPutS) }), (5, { d := some false })], [(4, { d := some false })], [(4, { d := some false })], []] [ACalls cx.P 38 [vsl 2 eRead a.Reads, vsl 2 eRead b.Reads] (laws_eqReadS_R eqReadS) (laws_eqReadS_O eqReadS), (!eqReadS) = false, ACalls cx.P 39 [vsl 2 ePut a.Puts, vsl 2 ePut b.Puts] (laws_eqPutS_R eqPutS) (laws_eqPutS_O eqPutS), (!eqPutS) = false, (a.Val != b.Val) = false, (a.Code != b.Code) = false] (.cons (laws_eqReadS_ok a.Reads b.Reads eqReadS heqReadS) (.cons e1 (.cons (laws_eqPutS_ok a.Puts b.Puts eqPutS heqPutS) (.cons e2 (.cons e3 (.cons e4 .nil)))))) (by kernel_rfl)).is (congrArg laws_eqRun_R e) (congrArg laws_eqRun_O e))))))))))))
theorem laws_eqRun_ok (a : TRun) (b : TRun) (r : Bool) (h : laws_eqRun a b = some r) : ACalls cx.P 27 [.agg (eRun a), .agg (eRun b)] (laws_eqRun_R r) (laws_eqRun_O r) :=
  ACalls.of (cx := cx) (X := laws_eqRun_X) (c := laws_eqRun_c) Try.func27 (by kernel_rfl) (by kernel_rfl) (by kernel_rfl) (laws_eqRun_fin a b r h)

/-! ### laws_eqEntry -/
noncomputable def laws_eqEntry_c : Code := bodyOf Try.f16
noncomputable def laws_eqEntry_X : Sig := { f := 16, fn := Try.f16, rms := [.val [] []], oms := [none, none] }
noncomputable def laws_eqEntry_R (r : Bool) : V := .b r
noncomputable def laws_eqEntry_O (r : Bool) : List (Option V) := [none, none]
noncomputable def laws_eqEntry (a : TEntry) (b : TEntry) : Option Bool :=
  (bif (!(a.None == b.None)) then
 some false
 else
 ((laws_eqReq a.Req b.Req).bind fun eqReq =>
 (bif (!eqReq) then
 some false
 else
 ((laws_eqRun a.Run b.Run).bind fun eqRun =>
 (bif (!eqRun) then
 some false
 else
 some true)))))
theorem laws_eqEntry_fin (a : TEntry) (b : TEntry) (r : Bool) (h : laws_eqEntry a b = some r) : Fin cx laws_eqEntry_X (laws_eqEntry_R r) (laws_eqEntry_O r) [.code laws_eqEntry_c] (startS laws_eqEntry_X [.agg (eEntry a), .agg (eEntry b)]) :=
  (condD h (fun e1 h =>
 (someD h fun e => (Fin.fin (cx := cx) (X := laws_eqEntry_X) (res := laws_eqEntry_R false) (outs := laws_eqEntry_O false) Try.func16 [[], [(4, { d := some true })], []] [(!(a.None == b.None)) = true] (.cons e1 .nil) (by kernel_rfl)).is (congrArg laws_eqEntry_R e) (congrArg laws_eqEntry_O e))) (fun e1 h =>
 (bindD h fun eqReq heqReq h =>
 (condD h (fun e2 h =>
 (someD h fun e => (Fin.fin (cx := cx) (X := laws_eqEntry_X) (res := laws_eqEntry_R false) (outs := laws_eqEntry_O false) Try.func16 [[], [(4, { d := some false })], [(4, { a := .call [.val [] [], .val [] []] false (laws_eqReq_R eqReq) (laws_eqReq_O eqReq) }), (5, { d := some true })], []] [(!(a.None == b.None)) = false, ACalls cx.P 26 [.agg (eReq a.Req), .agg (eReq b.Req)] (laws_eqReq_R eqReq) (laws_eqReq_O eqReq), (!eqReq) = true] (.cons e1 (.cons (laws_eqReq_ok a.Req b.Req eqReq heqReq) (.cons e2 .nil))) (by kernel_rfl)).is (congrArg laws_eqEntry_R e) (congrArg laws_eqEntry_O e))) (fun e2 h =>
 (bindD h fun eqRun heqRun h =>
 (condD h (fun e3 h =>
 (someD h fun e => (Fin.fin (cx := cx) (X := laws_eqEntry_X) (res := laws_eqEntry_R false) (outs := laws_eqEntry_O false) Try.func16 [[], [(4, { d := some false })], [(4, { a := .call [.val [] [], .val [] []] false (laws_eqReq_R eqReq) (laws_eqReq_O eqReq) }), (5, { d := some false })], [(4, { a := .call [.val [some 2, some 2, none, none] [], .val [some 2, some 2, none, none] []] false (laws_eqRun_R eqRun) (laws_eqRun_O eqRun) }), (5, { d := some true })], []] [(!(a.None == b.None)) = false, ACalls cx.P 26 [.agg (eReq a.Req), .agg (eReq b.Req)] (laws_eqReq_R eqReq) (laws_eqReq_O eqReq), (!eqReq) = false, ACalls cx.P 27 [.agg (eRun a.Run), .agg (eRun b.Run)] (laws_eqRun_R eqRun) (laws_eqRun_O eqRun), (!eqRun) = true] (.cons e1 (.cons (laws_eqReq_ok a.Req b.Req eqReq heqReq) (.cons e2 (.cons (laws_eqRun_ok a.Run b.Run eqRun heqRun) (.cons e3 .nil))))) (by kernel_rfl)).is (congrArg laws_eqEntry_R e) (congrArg laws_eqEntry_O e))) (fun e3 h =>
 (someD h fun e => (Fin.fin (cx := cx) (X := laws_eqEntry_X) (res := laws_eqEntry_R true) (outs := laws_eqEntry_O true) Try.func16 [[], [(4, { d := some false })], [(4, { a := .call [.val [] [], .val [] []] false (laws_eqReq_R eqReq) (laws_eqReq_O eqReq) }), (5, { d := some false })], [(4, { a := .call [.val [some 2, some 2, none, none] [], .val [some 2, some 2, none, none] []] false (laws_eqRun_R eqRun) (laws_eqRun_O eqRun) }), (5, { d := some false })], []] [(!(a.None == b.None)) = false, ACalls cx.P 26 [.agg (eReq a.Req), .agg (eReq b.Req)] (laws_eqReq_R eqReq) (laws_eqReq_O eqReq), (!eqReq) = false, ACalls cx.P 27 [.agg (eRun a.Run), .agg (eRun b.Run)] (laws_eqRun_R eqRun) (laws_eqRun_O eqRun), (!eqRun) = false] (.cons e1 (.cons (laws_eqReq_ok a.Req b.Req eqReq heqReq) (.cons e2 (.cons (laws_eqRun_ok a.Run b.Run eqRun heqRun) (.cons e3 .nil))))) (by kernel_rfl)).is (congrArg laws_eqEntry_R e) (congrArg laws_eqEntry_O e))))))))))
theorem laws_eqEntry_ok (a : TEntry) (b : TEntry) (r : Bool) (h : laws_eqEntry a b = some r) : ACalls cx.P 16 [.agg (eEntry a), .agg (eEntry b)] (laws_eqEntry_R r) (laws_eqEntry_O r) :=
  ACalls.of (cx := cx) (X := laws_eqEntry_X) (c := laws_eqEntry_c) Try.func16 (by kernel_rfl) (by kernel_rfl) (by kernel_rfl) (laws_eqEntry_fin a b r h)


end Go.Proofs.Ytidcofmgigokcaa
