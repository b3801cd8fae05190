/- Functions of the program, and that their calls come to this. -/
import Derived.Test.YtidcofmgigokcaaF2
set_option linter.unusedVariables false
set_option linter.unusedSimpArgs false
namespace Go.Proofs.Ytidcofmgigokcaa
open Go

/-! ### spec_l13Clash -/
noncomputable def spec_l13Clash_c : Code := bodyOf Try.f11
noncomputable def spec_l13Clash_X : Sig := { f := 11, fn := Try.f11, rms := [.val [] []], oms := [none, none, none] }
noncomputable def spec_l13Clash_R (r : Bool) : V := .b r
noncomputable def spec_l13Clash_O (r : Bool) : List (Option V) := [none, none, none]
noncomputable def spec_l13Clash (a : TRun) (b : TRun) (box : Int) : Option Bool :=
  ((spec_l3At a.Puts box).bind fun l3At =>
 (bif decide (l3At ≥ 0) then
 ((spec_l3At b.Puts box).bind fun l3At1 =>
 (bif decide (l3At1 ≥ 0) then
 some true
 else
 ((spec_l3Saw b.Reads box).bind fun l3Saw =>
 (bif l3Saw then
 some true
 else
 ((spec_l3Saw a.Reads box).bind fun l3Saw1 =>
 (bif l3Saw1 then
 ((spec_l3At b.Puts box).bind fun l3At2 =>
 some (decide (l3At2 ≥ 0)))
 else
 some false))))))
 else
 ((spec_l3Saw a.Reads box).bind fun l3Saw2 =>
 (bif l3Saw2 then
 ((spec_l3At b.Puts box).bind fun l3At3 =>
 some (decide (l3At3 ≥ 0)))
 else
 some false))))
theorem spec_l13Clash_fin (a : TRun) (b : TRun) (box : Int) (r : Bool) (h : spec_l13Clash a b box = some r) : Fin cx spec_l13Clash_X (spec_l13Clash_R r) (spec_l13Clash_O r) [.code spec_l13Clash_c] (startS spec_l13Clash_X [.agg (eRun a), .agg (eRun b), vi box]) :=
  (bindD h fun l3At hl3At h =>
 (condD h (fun e1 h =>
 (bindD h fun l3At1 hl3At1 h =>
 (condD h (fun e2 h =>
 (someD h fun e => (Fin.fin (cx := cx) (X := spec_l13Clash_X) (res := spec_l13Clash_R true) (outs := spec_l13Clash_O true) Try.func11 [[], [(3, { a := .call [.val [some 2] [], .val [] []] false (spec_l3At_R l3At) (spec_l3At_O l3At) }), (5, { d := some true }), (9, { a := .call [.val [some 2] [], .val [] []] false (spec_l3At_R l3At1) (spec_l3At_O l3At1) }), (11, { d := some true })]] [ACalls cx.P 19 [vsl 2 ePut a.Puts, vi box] (spec_l3At_R l3At) (spec_l3At_O l3At), decide (l3At ≥ 0) = true, ACalls cx.P 19 [vsl 2 ePut b.Puts, vi box] (spec_l3At_R l3At1) (spec_l3At_O l3At1), decide (l3At1 ≥ 0) = true] (.cons (spec_l3At_ok a.Puts box l3At hl3At) (.cons e1 (.cons (spec_l3At_ok b.Puts box l3At1 hl3At1) (.cons e2 .nil)))) (by kernel_rfl)).is (congrArg spec_l13Clash_R e) (congrArg spec_l13Clash_O e))) (fun e2 h =>
 (bindD h fun l3Saw hl3Saw h =>
 (condD h (fun e3 h =>
 (someD h fun e => (Fin.fin (cx := cx) (X := spec_l13Clash_X) (res := spec_l13Clash_R true) (outs := spec_l13Clash_O true) Try.func11 [[], [(3, { a := .call [.val [some 2] [], .val [] []] false (spec_l3At_R l3At) (spec_l3At_O l3At) }), (5, { d := some true }), (9, { a := .call [.val [some 2] [], .val [] []] false (spec_l3At_R l3At1) (spec_l3At_O l3At1) }), (11, { d := some false }), (15, { a := .call [.val [some 2] [], .val [] []] false (spec_l3Saw_R l3Saw) (spec_l3Saw_O l3Saw) }), (18, { d := some true })]] [ACalls cx.P 19 [vsl 2 ePut a.Puts, vi box] (spec_l3At_R l3At) (spec_l3At_O l3At), decide (l3At ≥ 0) = true, ACalls cx.P 19 [vsl 2 ePut b.Puts, vi box] (spec_l3At_R l3At1) (spec_l3At_O l3At1), decide (l3At1 ≥ 0) = false, ACalls cx.P 20 [vsl 2 eRead b.Reads, vi box] (spec_l3Saw_R l3Saw) (spec_l3Saw_O l3Saw), l3Saw = true] (.cons (spec_l3At_ok a.Puts box l3At hl3At) (.cons e1 (.cons (spec_l3At_ok b.Puts box l3At1 hl3At1) (.cons e2 (.cons (spec_l3Saw_ok b.Reads box l3Saw hl3Saw) (.cons e3 .nil)))))) (by kernel_rfl)).is (congrArg spec_l13Clash_R e) (congrArg spec_l13Clash_O e))) (fun e3 h =>
 (bindD h fun l3Saw1 hl3Saw1 h =>
 (condD h (fun e4 h =>
 (bindD h fun l3At2 hl3At2 h =>
 (someD h fun e => (Fin.fin (cx := cx) (X := spec_l13Clash_X) (res := spec_l13Clash_R (decide (l3At2 ≥ 0))) (outs := spec_l13Clash_O (decide (l3At2 ≥ 0))) Try.func11 [[], [(3, { a := .call [.val [some 2] [], .val [] []] false (spec_l3At_R l3At) (spec_l3At_O l3At) }), (5, { d := some true }), (9, { a := .call [.val [some 2] [], .val [] []] false (spec_l3At_R l3At1) (spec_l3At_O l3At1) }), (11, { d := some false }), (15, { a := .call [.val [some 2] [], .val [] []] false (spec_l3Saw_R l3Saw) (spec_l3Saw_O l3Saw) }), (18, { d := some false }), (22, { a := .call [.val [some 2] [], .val [] []] false (spec_l3Saw_R l3Saw1) (spec_l3Saw_O l3Saw1) }), (23, { d := some true }), (27, { a := .call [.val [some 2] [], .val [] []] false (spec_l3At_R l3At2) (spec_l3At_O l3At2) })]] [ACalls cx.P 19 [vsl 2 ePut a.Puts, vi box] (spec_l3At_R l3At) (spec_l3At_O l3At), decide (l3At ≥ 0) = true, ACalls cx.P 19 [vsl 2 ePut b.Puts, vi box] (spec_l3At_R l3At1) (spec_l3At_O l3At1), decide (l3At1 ≥ 0) = false, ACalls cx.P 20 [vsl 2 eRead b.Reads, vi box] (spec_l3Saw_R l3Saw) (spec_l3Saw_O l3Saw), l3Saw = false, ACalls cx.P 20 [vsl 2 eRead a.Reads, vi box] (spec_l3Saw_R l3Saw1) (spec_l3Saw_O l3Saw1), l3Saw1 = true, ACalls cx.P 19 [vsl 2 ePut b.Puts, vi box] (spec_l3At_R l3At2) (spec_l3At_O l3At2)] (.cons (spec_l3At_ok a.Puts box l3At hl3At) (.cons e1 (.cons (spec_l3At_ok b.Puts box l3At1 hl3At1) (.cons e2 (.cons (spec_l3Saw_ok b.Reads box l3Saw hl3Saw) (.cons e3 (.cons (spec_l3Saw_ok a.Reads box l3Saw1 hl3Saw1) (.cons e4 (.cons (spec_l3At_ok b.Puts box l3At2 hl3At2) .nil))))))))) (by kernel_rfl)).is (congrArg spec_l13Clash_R e) (congrArg spec_l13Clash_O e)))) (fun e4 h =>
 (someD h fun e => (Fin.fin (cx := cx) (X := spec_l13Clash_X) (res := spec_l13Clash_R false) (outs := spec_l13Clash_O false) Try.func11 [[], [(3, { a := .call [.val [some 2] [], .val [] []] false (spec_l3At_R l3At) (spec_l3At_O l3At) }), (5, { d := some true }), (9, { a := .call [.val [some 2] [], .val [] []] false (spec_l3At_R l3At1) (spec_l3At_O l3At1) }), (11, { d := some false }), (15, { a := .call [.val [some 2] [], .val [] []] false (spec_l3Saw_R l3Saw) (spec_l3Saw_O l3Saw) }), (18, { d := some false }), (22, { a := .call [.val [some 2] [], .val [] []] false (spec_l3Saw_R l3Saw1) (spec_l3Saw_O l3Saw1) }), (23, { d := some false })]] [ACalls cx.P 19 [vsl 2 ePut a.Puts, vi box] (spec_l3At_R l3At) (spec_l3At_O l3At), decide (l3At ≥ 0) = true, ACalls cx.P 19 [vsl 2 ePut b.Puts, vi box] (spec_l3At_R l3At1) (spec_l3At_O l3At1), decide (l3At1 ≥ 0) = false, ACalls cx.P 20 [vsl 2 eRead b.Reads, vi box] (spec_l3Saw_R l3Saw) (spec_l3Saw_O l3Saw), l3Saw = false, ACalls cx.P 20 [vsl 2 eRead a.Reads, vi box] (spec_l3Saw_R l3Saw1) (spec_l3Saw_O l3Saw1), l3Saw1 = false] (.cons (spec_l3At_ok a.Puts box l3At hl3At) (.cons e1 (.cons (spec_l3At_ok b.Puts box l3At1 hl3At1) (.cons e2 (.cons (spec_l3Saw_ok b.Reads box l3Saw hl3Saw) (.cons e3 (.cons (spec_l3Saw_ok a.Reads box l3Saw1 hl3Saw1) (.cons e4 .nil)))))))) (by kernel_rfl)).is (congrArg spec_l13Clash_R e) (congrArg spec_l13Clash_O e)))))))))))) (fun e1 h =>
 (bindD h fun l3Saw2 hl3Saw2 h =>
 (condD h (fun e5 h =>
 (bindD h fun l3At3 hl3At3 h =>
 (someD h fun e => (Fin.fin (cx := cx) (X := spec_l13Clash_X) (res := spec_l13Clash_R (decide (l3At3 ≥ 0))) (outs := spec_l13Clash_O (decide (l3At3 ≥ 0))) Try.func11 [[], [(3, { a := .call [.val [some 2] [], .val [] []] false (spec_l3At_R l3At) (spec_l3At_O l3At) }), (5, { d := some false }), (22, { a := .call [.val [some 2] [], .val [] []] false (spec_l3Saw_R l3Saw2) (spec_l3Saw_O l3Saw2) }), (23, { d := some true }), (27, { a := .call [.val [some 2] [], .val [] []] false (spec_l3At_R l3At3) (spec_l3At_O l3At3) })]] [ACalls cx.P 19 [vsl 2 ePut a.Puts, vi box] (spec_l3At_R l3At) (spec_l3At_O l3At), decide (l3At ≥ 0) = false, ACalls cx.P 20 [vsl 2 eRead a.Reads, vi box] (spec_l3Saw_R l3Saw2) (spec_l3Saw_O l3Saw2), l3Saw2 = true, ACalls cx.P 19 [vsl 2 ePut b.Puts, vi box] (spec_l3At_R l3At3) (spec_l3At_O l3At3)] (.cons (spec_l3At_ok a.Puts box l3At hl3At) (.cons e1 (.cons (spec_l3Saw_ok a.Reads box l3Saw2 hl3Saw2) (.cons e5 (.cons (spec_l3At_ok b.Puts box l3At3 hl3At3) .nil))))) (by kernel_rfl)).is (congrArg spec_l13Clash_R e) (congrArg spec_l13Clash_O e)))) (fun e5 h =>
 (someD h fun e => (Fin.fin (cx := cx) (X := spec_l13Clash_X) (res := spec_l13Clash_R false) (outs := spec_l13Clash_O false) Try.func11 [[], [(3, { a := .call [.val [some 2] [], .val [] []] false (spec_l3At_R l3At) (spec_l3At_O l3At) }), (5, { d := some false }), (22, { a := .call [.val [some 2] [], .val [] []] false (spec_l3Saw_R l3Saw2) (spec_l3Saw_O l3Saw2) }), (23, { d := some false })]] [ACalls cx.P 19 [vsl 2 ePut a.Puts, vi box] (spec_l3At_R l3At) (spec_l3At_O l3At), decide (l3At ≥ 0) = false, ACalls cx.P 20 [vsl 2 eRead a.Reads, vi box] (spec_l3Saw_R l3Saw2) (spec_l3Saw_O l3Saw2), l3Saw2 = false] (.cons (spec_l3At_ok a.Puts box l3At hl3At) (.cons e1 (.cons (spec_l3Saw_ok a.Reads box l3Saw2 hl3Saw2) (.cons e5 .nil)))) (by kernel_rfl)).is (congrArg spec_l13Clash_R e) (congrArg spec_l13Clash_O e))))))))
theorem spec_l13Clash_ok (a : TRun) (b : TRun) (box : Int) (r : Bool) (h : spec_l13Clash a b box = some r) : ACalls cx.P 11 [.agg (eRun a), .agg (eRun b), vi box] (spec_l13Clash_R r) (spec_l13Clash_O r) :=
  ACalls.of (cx := cx) (X := spec_l13Clash_X) (c := spec_l13Clash_c) Try.func11 (by kernel_rfl) (by kernel_rfl) (by kernel_rfl) (spec_l13Clash_fin a b box r h)

/-! ### spec_HistSwap -/
noncomputable def spec_HistSwap_c : Code := bodyOf Try.f5
noncomputable def spec_HistSwap_X : Sig := { f := 5, fn := Try.f5, rms := [.val [] []], oms := [none, none] }
noncomputable def spec_HistSwap_R (r : Bool) : V := .b r
noncomputable def spec_HistSwap_O (r : Bool) : List (Option V) := [none, none]
noncomputable def spec_HistSwap_k1 : List Item := posI 2000 8 [false, false, false, false] [.code spec_HistSwap_c]
noncomputable def spec_HistSwap_S1 : St := ⟨(bs 54 []), [some []]⟩
noncomputable def spec_HistSwap_k2 : Option Bool :=
  some true
theorem spec_HistSwap_k2_ok (r : Bool) (h : spec_HistSwap_k2 = some r) : Fin cx spec_HistSwap_X (spec_HistSwap_R r) (spec_HistSwap_O r) spec_HistSwap_k1 (spec_HistSwap_S1) :=
  (someD h fun e => (Fin.fin (cx := cx) (X := spec_HistSwap_X) (res := spec_HistSwap_R true) (outs := spec_HistSwap_O true) Try.func5 [[]] [] .nil (by kernel_rfl)).is (congrArg spec_HistSwap_R e) (congrArg spec_HistSwap_O e))
noncomputable def spec_HistSwap_k3 : List Item := posI 2000 7 [false, false, false] [.code spec_HistSwap_c]
noncomputable def spec_HistSwap_S2 (entry : TEntry) (entry1 : TEntry) (k : Int) : St := ⟨(bs 5 (.ptr 1 0 0 :: (.ptr 2 0 0 :: (vi k :: (bs 46 []))))), [some [], some [.var 45 [.b entry.None, vi entry.Req.Who, vi entry.Req.Seq, vsl 2 eRead entry.Run.Reads, vsl 2 ePut entry.Run.Puts, vi entry.Run.Val, vi entry.Run.Code]], some [.var 45 [.b entry1.None, vi entry1.Req.Who, vi entry1.Req.Seq, vsl 2 eRead entry1.Run.Reads, vsl 2 ePut entry1.Run.Puts, vi entry1.Run.Val, vi entry1.Run.Code]]]⟩
noncomputable def spec_HistSwap_b1 (entry : TEntry) (entry1 : TEntry) (k : Int) : Option (Stp Bool Int Unit) :=
  (bif decide (k < 4) then
 ((spec_l13Clash entry.Run entry1.Run k).bind fun l13Clash =>
 (bif l13Clash then
 some (Stp.ret false)
 else
 some (Stp.nxt (w64 (k + 1)))))
 else
 some (Stp.brk ()))
theorem spec_HistSwap_b1_ok (entry : TEntry) (entry1 : TEntry) (res : V) (outs : List (Option V)) (x1 : Exc Bool Unit) (hb1 : ∀ s : Unit, x1 = .brk s → Fin cx spec_HistSwap_X res outs spec_HistSwap_k1 (spec_HistSwap_S1)) (hr1 : ∀ v : Bool, x1 = .ret v → (res = spec_HistSwap_R v ∧ outs = spec_HistSwap_O v)) (st1 : Stp Bool Int Unit) (hc1 : Cont x1 (fun s : Int => Fin cx spec_HistSwap_X res outs spec_HistSwap_k3 (spec_HistSwap_S2 entry entry1 s)) st1) (k : Int) (h : spec_HistSwap_b1 entry entry1 k = some st1) : Fin cx spec_HistSwap_X res outs spec_HistSwap_k3 (spec_HistSwap_S2 entry entry1 k) :=
  (condD h (fun e7 h =>
 (bindD h fun l13Clash hl13Clash h =>
 (condD h (fun e8 h =>
 (retD h hc1 fun e => (Fin.fin (cx := cx) (X := spec_HistSwap_X) (res := spec_HistSwap_R false) (outs := spec_HistSwap_O false) Try.func5 [[(1, { d := some true })], [(5, { a := .call [.val [some 2, some 2, none, none] [], .val [some 2, some 2, none, none] [], .val [] []] false (spec_l13Clash_R l13Clash) (spec_l13Clash_O l13Clash), d := some true })], []] [decide (k < 4) = true, l13Clash = true, ACalls cx.P 11 [.agg (eRun entry.Run), .agg (eRun entry1.Run), vi k] (spec_l13Clash_R l13Clash) (spec_l13Clash_O l13Clash)] (.cons e7 (.cons e8 (.cons (spec_l13Clash_ok entry.Run entry1.Run k l13Clash hl13Clash) .nil))) (by kernel_rfl)).is (hr1 _ e).1 (hr1 _ e).2)) (fun e8 h =>
 (nxtD h hc1 fun hI => (Fin.seg [[(1, { d := some true })], [(5, { a := .call [.val [some 2, some 2, none, none] [], .val [some 2, some 2, none, none] [], .val [] []] false (spec_l13Clash_R l13Clash) (spec_l13Clash_O l13Clash), d := some false })], []] [] [5, 6, 7] [(1, 0), (2, 0)] [decide (k < 4) = true, l13Clash = false, ACalls cx.P 11 [.agg (eRun entry.Run), .agg (eRun entry1.Run), vi k] (spec_l13Clash_R l13Clash) (spec_l13Clash_O l13Clash)] (.cons e7 (.cons e8 (.cons (spec_l13Clash_ok entry.Run entry1.Run k l13Clash hl13Clash) .nil))) hI (by kernel_rfl))))))) (fun e7 h =>
 (brkD h hc1 fun e => (Fin.seg [[(1, { d := some false })]] [] [] [] [decide (k < 4) = false] (.cons e7 .nil) (hb1 _ e) (by kernel_rfl)))))
theorem spec_HistSwap_b1_loop (entry : TEntry) (entry1 : TEntry) (res : V) (outs : List (Option V)) (x1 : Exc Bool Unit) (hb1 : ∀ s : Unit, x1 = .brk s → Fin cx spec_HistSwap_X res outs spec_HistSwap_k1 (spec_HistSwap_S1)) (hr1 : ∀ v : Bool, x1 = .ret v → (res = spec_HistSwap_R v ∧ outs = spec_HistSwap_O v)) (s : Int) (h : loop (fun s : Int => spec_HistSwap_b1 entry entry1 s) s = some x1) : Fin cx spec_HistSwap_X res outs spec_HistSwap_k3 (spec_HistSwap_S2 entry entry1 s) :=
  loopD (I := fun s : Int => Fin cx spec_HistSwap_X res outs spec_HistSwap_k3 (spec_HistSwap_S2 entry entry1 s)) h fun s st h hc => spec_HistSwap_b1_ok entry entry1 res outs x1 hb1 hr1 st hc s h
noncomputable def spec_HistSwap (list : List TEntry) (at_ : Int) : Option Bool :=
  ((spec_l8Known list).bind fun l8Known =>
 (bif (!l8Known) then
 some false
 else
 (bif decide (at_ < 0) then
 some false
 else
 (bif decide (at_ ≥ (w64 ((list.length : Int) - 1))) then
 some false
 else
 ((idx list at_).bind fun entry =>
 ((idx list (w64 (at_ + 1))).bind fun entry1 =>
 (bif entry.None then
 some true
 else
 (bif entry1.None then
 some true
 else
 (bif (entry.Req.Who == entry1.Req.Who) then
 some false
 else
 ((loop (fun s : Int => spec_HistSwap_b1 entry entry1 s) 0).bind fun x => x.go (fun r => some r) fun s => spec_HistSwap_k2))))))))))
theorem spec_HistSwap_fin (list : List TEntry) (at_ : Int) (r : Bool) (h : spec_HistSwap list at_ = some r) : Fin cx spec_HistSwap_X (spec_HistSwap_R r) (spec_HistSwap_O r) [.code spec_HistSwap_c] (startS spec_HistSwap_X [vsl 7 eEntry list, vi at_]) :=
  (bindD h fun l8Known hl8Known h =>
 (condD h (fun e1 h =>
 (someD h fun e => (Fin.fin (cx := cx) (X := spec_HistSwap_X) (res := spec_HistSwap_R false) (outs := spec_HistSwap_O false) Try.func5 [[], [(1, { a := .call [.val [some 7] []] false (spec_l8Known_R l8Known) (spec_l8Known_O l8Known) }), (3, { d := some true })], []] [ACalls cx.P 10 [vsl 7 eEntry list] (spec_l8Known_R l8Known) (spec_l8Known_O l8Known), (!l8Known) = true] (.cons (spec_l8Known_ok list l8Known hl8Known) (.cons e1 .nil)) (by kernel_rfl)).is (congrArg spec_HistSwap_R e) (congrArg spec_HistSwap_O e))) (fun e1 h =>
 (condD h (fun e2 h =>
 (someD h fun e => (Fin.fin (cx := cx) (X := spec_HistSwap_X) (res := spec_HistSwap_R false) (outs := spec_HistSwap_O false) Try.func5 [[], [(1, { a := .call [.val [some 7] []] false (spec_l8Known_R l8Known) (spec_l8Known_O l8Known) }), (3, { d := some false }), (7, { d := some true })], []] [ACalls cx.P 10 [vsl 7 eEntry list] (spec_l8Known_R l8Known) (spec_l8Known_O l8Known), (!l8Known) = false, decide (at_ < 0) = true] (.cons (spec_l8Known_ok list l8Known hl8Known) (.cons e1 (.cons e2 .nil))) (by kernel_rfl)).is (congrArg spec_HistSwap_R e) (congrArg spec_HistSwap_O e))) (fun e2 h =>
 (condD h (fun e3 h =>
 (someD h fun e => (Fin.fin (cx := cx) (X := spec_HistSwap_X) (res := spec_HistSwap_R false) (outs := spec_HistSwap_O false) Try.func5 [[], [(1, { a := .call [.val [some 7] []] false (spec_l8Known_R l8Known) (spec_l8Known_O l8Known) }), (3, { d := some false }), (7, { d := some false }), (13, { d := some true })], []] [ACalls cx.P 10 [vsl 7 eEntry list] (spec_l8Known_R l8Known) (spec_l8Known_O l8Known), (!l8Known) = false, decide (at_ < 0) = false, decide (at_ ≥ (w64 ((list.length : Int) - 1))) = true] (.cons (spec_l8Known_ok list l8Known hl8Known) (.cons e1 (.cons e2 (.cons e3 .nil)))) (by kernel_rfl)).is (congrArg spec_HistSwap_R e) (congrArg spec_HistSwap_O e))) (fun e3 h =>
 (bindD h fun entry hentry h =>
 (bindD h fun entry1 hentry1 h =>
 (condD h (fun e4 h =>
 (someD h fun e => (Fin.fin (cx := cx) (X := spec_HistSwap_X) (res := spec_HistSwap_R true) (outs := spec_HistSwap_O true) Try.func5 [[], [(1, { a := .call [.val [some 7] []] false (spec_l8Known_R l8Known) (spec_l8Known_O l8Known) }), (3, { d := some false }), (7, { d := some false }), (13, { d := some false })], [(2, { a := .row (eEntry entry) })], [(3, { a := .row (eEntry entry1) })], [(2, { d := some true })], []] [ACalls cx.P 10 [vsl 7 eEntry list] (spec_l8Known_R l8Known) (spec_l8Known_O l8Known), (!l8Known) = false, decide (at_ < 0) = false, decide (at_ ≥ (w64 ((list.length : Int) - 1))) = false, (0 : Int) ≤ at_, at_ < ((list.length : Nat) : Int), (list.map eEntry)[at_.toNat]? = some (eEntry entry), (0 : Int) ≤ (w64 (at_ + 1)), (w64 (at_ + 1)) < ((list.length : Nat) : Int), (list.map eEntry)[(w64 (at_ + 1)).toNat]? = some (eEntry entry1), entry.None = true] (.cons (spec_l8Known_ok list l8Known hl8Known) (.cons e1 (.cons e2 (.cons e3 (.cons (idx0 hentry) (.cons (idx1 hentry) (.cons (map_idx hentry) (.cons (idx0 hentry1) (.cons (idx1 hentry1) (.cons (map_idx hentry1) (.cons e4 .nil))))))))))) (by kernel_rfl)).is (congrArg spec_HistSwap_R e) (congrArg spec_HistSwap_O e))) (fun e4 h =>
 (condD h (fun e5 h =>
 (someD h fun e => (Fin.fin (cx := cx) (X := spec_HistSwap_X) (res := spec_HistSwap_R true) (outs := spec_HistSwap_O true) Try.func5 [[], [(1, { a := .call [.val [some 7] []] false (spec_l8Known_R l8Known) (spec_l8Known_O l8Known) }), (3, { d := some false }), (7, { d := some false }), (13, { d := some false })], [(2, { a := .row (eEntry entry) })], [(3, { a := .row (eEntry entry1) })], [(2, { d := some false }), (5, { d := some true })], []] [ACalls cx.P 10 [vsl 7 eEntry list] (spec_l8Known_R l8Known) (spec_l8Known_O l8Known), (!l8Known) = false, decide (at_ < 0) = false, decide (at_ ≥ (w64 ((list.length : Int) - 1))) = false, (0 : Int) ≤ at_, at_ < ((list.length : Nat) : Int), (list.map eEntry)[at_.toNat]? = some (eEntry entry), (0 : Int) ≤ (w64 (at_ + 1)), (w64 (at_ + 1)) < ((list.length : Nat) : Int), (list.map eEntry)[(w64 (at_ + 1)).toNat]? = some (eEntry entry1), entry.None = false, entry1.None = true] (.cons (spec_l8Known_ok list l8Known hl8Known) (.cons e1 (.cons e2 (.cons e3 (.cons (idx0 hentry) (.cons (idx1 hentry) (.cons (map_idx hentry) (.cons (idx0 hentry1) (.cons (idx1 hentry1) (.cons (map_idx hentry1) (.cons e4 (.cons e5 .nil)))))))))))) (by kernel_rfl)).is (congrArg spec_HistSwap_R e) (congrArg spec_HistSwap_O e))) (fun e5 h =>
 (condD h (fun e6 h =>
 (someD h fun e => (Fin.fin (cx := cx) (X := spec_HistSwap_X) (res := spec_HistSwap_R false) (outs := spec_HistSwap_O false) Try.func5 [[], [(1, { a := .call [.val [some 7] []] false (spec_l8Known_R l8Known) (spec_l8Known_O l8Known) }), (3, { d := some false }), (7, { d := some false }), (13, { d := some false })], [(2, { a := .row (eEntry entry) })], [(3, { a := .row (eEntry entry1) })], [(2, { d := some false }), (5, { d := some false })], [(6, { d := some true })], []] [ACalls cx.P 10 [vsl 7 eEntry list] (spec_l8Known_R l8Known) (spec_l8Known_O l8Known), (!l8Known) = false, decide (at_ < 0) = false, decide (at_ ≥ (w64 ((list.length : Int) - 1))) = false, (0 : Int) ≤ at_, at_ < ((list.length : Nat) : Int), (list.map eEntry)[at_.toNat]? = some (eEntry entry), (0 : Int) ≤ (w64 (at_ + 1)), (w64 (at_ + 1)) < ((list.length : Nat) : Int), (list.map eEntry)[(w64 (at_ + 1)).toNat]? = some (eEntry entry1), entry.None = false, entry1.None = false, (entry.Req.Who == entry1.Req.Who) = true] (.cons (spec_l8Known_ok list l8Known hl8Known) (.cons e1 (.cons e2 (.cons e3 (.cons (idx0 hentry) (.cons (idx1 hentry) (.cons (map_idx hentry) (.cons (idx0 hentry1) (.cons (idx1 hentry1) (.cons (map_idx hentry1) (.cons e4 (.cons e5 (.cons e6 .nil))))))))))))) (by kernel_rfl)).is (congrArg spec_HistSwap_R e) (congrArg spec_HistSwap_O e))) (fun e6 h =>
 (loopJ h fun x hl hr hb => (Fin.seg [[], [(1, { a := .call [.val [some 7] []] false (spec_l8Known_R l8Known) (spec_l8Known_O l8Known) }), (3, { d := some false }), (7, { d := some false }), (13, { d := some false })], [(2, { a := .row (eEntry entry) })], [(3, { a := .row (eEntry entry1) })], [(2, { d := some false }), (5, { d := some false })], [(6, { d := some false })], []] [] [5, 6, 7] [(20, 0), (27, 0)] [ACalls cx.P 10 [vsl 7 eEntry list] (spec_l8Known_R l8Known) (spec_l8Known_O l8Known), (!l8Known) = false, decide (at_ < 0) = false, decide (at_ ≥ (w64 ((list.length : Int) - 1))) = false, (0 : Int) ≤ at_, at_ < ((list.length : Nat) : Int), (list.map eEntry)[at_.toNat]? = some (eEntry entry), (0 : Int) ≤ (w64 (at_ + 1)), (w64 (at_ + 1)) < ((list.length : Nat) : Int), (list.map eEntry)[(w64 (at_ + 1)).toNat]? = some (eEntry entry1), entry.None = false, entry1.None = false, (entry.Req.Who == entry1.Req.Who) = false] (.cons (spec_l8Known_ok list l8Known hl8Known) (.cons e1 (.cons e2 (.cons e3 (.cons (idx0 hentry) (.cons (idx1 hentry) (.cons (map_idx hentry) (.cons (idx0 hentry1) (.cons (idx1 hentry1) (.cons (map_idx hentry1) (.cons e4 (.cons e5 (.cons e6 .nil))))))))))))) (spec_HistSwap_b1_loop entry entry1 _ _ x (fun s e => spec_HistSwap_k2_ok r (hb s e)) (fun v e => ⟨congrArg spec_HistSwap_R (Option.some.inj (hr v e)).symm, congrArg spec_HistSwap_O (Option.some.inj (hr v e)).symm⟩) 0 hl) (by kernel_rfl))))))))))))))))))
theorem spec_HistSwap_ok (list : List TEntry) (at_ : Int) (r : Bool) (h : spec_HistSwap list at_ = some r) : ACalls cx.P 5 [vsl 7 eEntry list, vi at_] (spec_HistSwap_R r) (spec_HistSwap_O r) :=
  ACalls.of (cx := cx) (X := spec_HistSwap_X) (c := spec_HistSwap_c) Try.func5 (by kernel_rfl) (by kernel_rfl) (by kernel_rfl) (spec_HistSwap_fin list at_ r h)

/-! ### impl_same_Read -/
noncomputable def impl_same_Read_c : Code := bodyOf Try.f47
noncomputable def impl_same_Read_X : Sig := { f := 47, fn := Try.f47, rms := [.val [] []], oms := [none, none] }
noncomputable def impl_same_Read_R (r : Bool) : V := .b r
noncomputable def impl_same_Read_O (r : Bool) : List (Option V) := [none, none]
noncomputable def impl_same_Read_k1 : List Item := posI 2000 4 [false, false] [.code impl_same_Read_c]
noncomputable def impl_same_Read_S1 : St := ⟨(bs 26 []), [some []]⟩
noncomputable def impl_same_Read_k2 : Option Bool :=
  some true
theorem impl_same_Read_k2_ok (r : Bool) (h : impl_same_Read_k2 = some r) : Fin cx impl_same_Read_X (impl_same_Read_R r) (impl_same_Read_O r) impl_same_Read_k1 (impl_same_Read_S1) :=
  (someD h fun e => (Fin.fin (cx := cx) (X := impl_same_Read_X) (res := impl_same_Read_R true) (outs := impl_same_Read_O true) Try.func47 [[]] [] .nil (by kernel_rfl)).is (congrArg impl_same_Read_R e) (congrArg impl_same_Read_O e))
noncomputable def impl_same_Read_k3 : List Item := posI 2000 3 [false] [.code impl_same_Read_c]
noncomputable def impl_same_Read_S2 (a : List TRead) (b : List TRead) (v13 : Int) : St := ⟨(vsl 2 eRead a :: (vsl 2 eRead b :: (bs 10 (vi (a.length : Int) :: (vi v13 :: (bs 12 [])))))), [some []]⟩
noncomputable def impl_same_Read_b1 (a : List TRead) (b : List TRead) (v13 : Int) : Option (Stp Bool Int Unit) :=
  (bif decide (v13 < (a.length : Int)) then
 ((idx a v13).bind fun read =>
 ((idx b v13).bind fun read1 =>
 (bif (!(([read.Box, read.Ver] : List Int) == [read1.Box, read1.Ver])) then
 some (Stp.ret false)
 else
 some (Stp.nxt (w64 (v13 + 1))))))
 else
 some (Stp.brk ()))
theorem impl_same_Read_b1_ok (a : List TRead) (b : List TRead) (res : V) (outs : List (Option V)) (x1 : Exc Bool Unit) (hb1 : ∀ s : Unit, x1 = .brk s → Fin cx impl_same_Read_X res outs impl_same_Read_k1 (impl_same_Read_S1)) (hr1 : ∀ v : Bool, x1 = .ret v → (res = impl_same_Read_R v ∧ outs = impl_same_Read_O v)) (st1 : Stp Bool Int Unit) (hc1 : Cont x1 (fun s : Int => Fin cx impl_same_Read_X res outs impl_same_Read_k3 (impl_same_Read_S2 a b s)) st1) (v13 : Int) (h : impl_same_Read_b1 a b v13 = some st1) : Fin cx impl_same_Read_X res outs impl_same_Read_k3 (impl_same_Read_S2 a b v13) :=
  (condD h (fun e2 h =>
 (bindD h fun read hread h =>
 (bindD h fun read1 hread1 h =>
 (condD h (fun e3 h =>
 (retD h hc1 fun e => (Fin.fin (cx := cx) (X := impl_same_Read_X) (res := impl_same_Read_R false) (outs := impl_same_Read_O false) Try.func47 [[(0, { d := some true })], [], [(2, { a := .row (eRead read) }), (6, { a := .row (eRead read1) }), (8, { d := some true })], []] [decide (v13 < (a.length : Int)) = true, (0 : Int) ≤ v13, v13 < ((a.length : Nat) : Int), (a.map eRead)[v13.toNat]? = some (eRead read), (0 : Int) ≤ v13, v13 < ((b.length : Nat) : Int), (b.map eRead)[v13.toNat]? = some (eRead read1), (!(([read.Box, read.Ver] : List Int) == [read1.Box, read1.Ver])) = true] (.cons e2 (.cons (idx0 hread) (.cons (idx1 hread) (.cons (map_idx hread) (.cons (idx0 hread1) (.cons (idx1 hread1) (.cons (map_idx hread1) (.cons e3 .nil)))))))) (by kernel_rfl)).is (hr1 _ e).1 (hr1 _ e).2)) (fun e3 h =>
 (nxtD h hc1 fun hI => (Fin.seg [[(0, { d := some true })], [], [(2, { a := .row (eRead read) }), (6, { a := .row (eRead read1) }), (8, { d := some false })], []] [] [0, 1, 12, 13] [] [decide (v13 < (a.length : Int)) = true, (0 : Int) ≤ v13, v13 < ((a.length : Nat) : Int), (a.map eRead)[v13.toNat]? = some (eRead read), (0 : Int) ≤ v13, v13 < ((b.length : Nat) : Int), (b.map eRead)[v13.toNat]? = some (eRead read1), (!(([read.Box, read.Ver] : List Int) == [read1.Box, read1.Ver])) = false] (.cons e2 (.cons (idx0 hread) (.cons (idx1 hread) (.cons (map_idx hread) (.cons (idx0 hread1) (.cons (idx1 hread1) (.cons (map_idx hread1) (.cons e3 .nil)))))))) hI (by kernel_rfl)))))))) (fun e2 h =>
 (brkD h hc1 fun e => (Fin.seg [[(0, { d := some false })]] [] [] [] [decide (v13 < (a.length : Int)) = false] (.cons e2 .nil) (hb1 _ e) (by kernel_rfl)))))
theorem impl_same_Read_b1_loop (a : List TRead) (b : List TRead) (res : V) (outs : List (Option V)) (x1 : Exc Bool Unit) (hb1 : ∀ s : Unit, x1 = .brk s → Fin cx impl_same_Read_X res outs impl_same_Read_k1 (impl_same_Read_S1)) (hr1 : ∀ v : Bool, x1 = .ret v → (res = impl_same_Read_R v ∧ outs = impl_same_Read_O v)) (s : Int) (h : loop (fun s : Int => impl_same_Read_b1 a b s) s = some x1) : Fin cx impl_same_Read_X res outs impl_same_Read_k3 (impl_same_Read_S2 a b s) :=
  loopD (I := fun s : Int => Fin cx impl_same_Read_X res outs impl_same_Read_k3 (impl_same_Read_S2 a b s)) h fun s st h hc => impl_same_Read_b1_ok a b res outs x1 hb1 hr1 st hc s h
noncomputable def impl_same_Read (a : List TRead) (b : List TRead) : Option Bool :=
  (bif ((a.length : Int) != (b.length : Int)) then
 some false
 else
 ((loop (fun s : Int => impl_same_Read_b1 a b s) 0).bind fun x => x.go (fun r => some r) fun s => impl_same_Read_k2))
theorem impl_same_Read_fin (a : List TRead) (b : List TRead) (r : Bool) (h : impl_same_Read a b = some r) : Fin cx impl_same_Read_X (impl_same_Read_R r) (impl_same_Read_O r) [.code impl_same_Read_c] (startS impl_same_Read_X [vsl 2 eRead a, vsl 2 eRead b]) :=
  (condD h (fun e1 h =>
 (someD h fun e => (Fin.fin (cx := cx) (X := impl_same_Read_X) (res := impl_same_Read_R false) (outs := impl_same_Read_O false) Try.func47 [[], [(4, { d := some true })], []] [((a.length : Int) != (b.length : Int)) = true] (.cons e1 .nil) (by kernel_rfl)).is (congrArg impl_same_Read_R e) (congrArg impl_same_Read_O e))) (fun e1 h =>
 (loopJ h fun x hl hr hb => (Fin.seg [[], [(4, { d := some false })], []] [] [0, 1, 12, 13] [] [((a.length : Int) != (b.length : Int)) = false] (.cons e1 .nil) (impl_same_Read_b1_loop a b _ _ x (fun s e => impl_same_Read_k2_ok r (hb s e)) (fun v e => ⟨congrArg impl_same_Read_R (Option.some.inj (hr v e)).symm, congrArg impl_same_Read_O (Option.some.inj (hr v e)).symm⟩) 0 hl) (by kernel_rfl)))))
theorem impl_same_Read_ok (a : List TRead) (b : List TRead) (r : Bool) (h : impl_same_Read a b = some r) : ACalls cx.P 47 [vsl 2 eRead a, vsl 2 eRead b] (impl_same_Read_R r) (impl_same_Read_O r) :=
  ACalls.of (cx := cx) (X := impl_same_Read_X) (c := impl_same_Read_c) Try.func47 (by kernel_rfl) (by kernel_rfl) (by kernel_rfl) (impl_same_Read_fin a b r h)

/-! ### impl_same_Put -/
noncomputable def impl_same_Put_c : Code := bodyOf Try.f48
noncomputable def impl_same_Put_X : Sig := { f := 48, fn := Try.f48, rms := [.val [] []], oms := [none, none] }
noncomputable def impl_same_Put_R (r : Bool) : V := .b r
noncomputable def impl_same_Put_O (r : Bool) : List (Option V) := [none, none]
noncomputable def impl_same_Put_k1 : List Item := posI 2000 4 [false, false] [.code impl_same_Put_c]
noncomputable def impl_same_Put_S1 : St := ⟨(bs 26 []), [some []]⟩
noncomputable def impl_same_Put_k2 : Option Bool :=
  some true
theorem impl_same_Put_k2_ok (r : Bool) (h : impl_same_Put_k2 = some r) : Fin cx impl_same_Put_X (impl_same_Put_R r) (impl_same_Put_O r) impl_same_Put_k1 (impl_same_Put_S1) :=
  (someD h fun e => (Fin.fin (cx := cx) (X := impl_same_Put_X) (res := impl_same_Put_R true) (outs := impl_same_Put_O true) Try.func48 [[]] [] .nil (by kernel_rfl)).is (congrArg impl_same_Put_R e) (congrArg impl_same_Put_O e))
noncomputable def impl_same_Put_k3 : List Item := posI 2000 3 [false] [.code impl_same_Put_c]
noncomputable def impl_same_Put_S2 (a : List TPut) (b : List TPut) (v13 : Int) : St := ⟨(vsl 2 ePut a :: (vsl 2 ePut b :: (bs 10 (vi (a.length : Int) :: (vi v13 :: (bs 12 [])))))), [some []]⟩
noncomputable def impl_same_Put_b1 (a : List TPut) (b : List TPut) (v13 : Int) : Option (Stp Bool Int Unit) :=
  (bif decide (v13 < (a.length : Int)) then
 ((idx a v13).bind fun put =>
 ((idx b v13).bind fun put1 =>
 (bif (!(([put.Box, put.Val] : List Int) == [put1.Box, put1.Val])) then
 some (Stp.ret false)
 else
 some (Stp.nxt (w64 (v13 + 1))))))
 else
 some (Stp.brk ()))
theorem impl_same_Put_b1_ok (a : List TPut) (b : List TPut) (res : V) (outs : List (Option V)) (x1 : Exc Bool Unit) (hb1 : ∀ s : Unit, x1 = .brk s → Fin cx impl_same_Put_X res outs impl_same_Put_k1 (impl_same_Put_S1)) (hr1 : ∀ v : Bool, x1 = .ret v → (res = impl_same_Put_R v ∧ outs = impl_same_Put_O v)) (st1 : Stp Bool Int Unit) (hc1 : Cont x1 (fun s : Int => Fin cx impl_same_Put_X res outs impl_same_Put_k3 (impl_same_Put_S2 a b s)) st1) (v13 : Int) (h : impl_same_Put_b1 a b v13 = some st1) : Fin cx impl_same_Put_X res outs impl_same_Put_k3 (impl_same_Put_S2 a b v13) :=
  (condD h (fun e2 h =>
 (bindD h fun put hput h =>
 (bindD h fun put1 hput1 h =>
 (condD h (fun e3 h =>
 (retD h hc1 fun e => (Fin.fin (cx := cx) (X := impl_same_Put_X) (res := impl_same_Put_R false) (outs := impl_same_Put_O false) Try.func48 [[(0, { d := some true })], [], [(2, { a := .row (ePut put) }), (6, { a := .row (ePut put1) }), (8, { d := some true })], []] [decide (v13 < (a.length : Int)) = true, (0 : Int) ≤ v13, v13 < ((a.length : Nat) : Int), (a.map ePut)[v13.toNat]? = some (ePut put), (0 : Int) ≤ v13, v13 < ((b.length : Nat) : Int), (b.map ePut)[v13.toNat]? = some (ePut put1), (!(([put.Box, put.Val] : List Int) == [put1.Box, put1.Val])) = true] (.cons e2 (.cons (idx0 hput) (.cons (idx1 hput) (.cons (map_idx hput) (.cons (idx0 hput1) (.cons (idx1 hput1) (.cons (map_idx hput1) (.cons e3 .nil)))))))) (by kernel_rfl)).is (hr1 _ e).1 (hr1 _ e).2)) (fun e3 h =>
 (nxtD h hc1 fun hI => (Fin.seg [[(0, { d := some true })], [], [(2, { a := .row (ePut put) }), (6, { a := .row (ePut put1) }), (8, { d := some false })], []] [] [0, 1, 12, 13] [] [decide (v13 < (a.length : Int)) = true, (0 : Int) ≤ v13, v13 < ((a.length : Nat) : Int), (a.map ePut)[v13.toNat]? = some (ePut put), (0 : Int) ≤ v13, v13 < ((b.length : Nat) : Int), (b.map ePut)[v13.toNat]? = some (ePut put1), (!(([put.Box, put.Val] : List Int) == [put1.Box, put1.Val])) = false] (.cons e2 (.cons (idx0 hput) (.cons (idx1 hput) (.cons (map_idx hput) (.cons (idx0 hput1) (.cons (idx1 hput1) (.cons (map_idx hput1) (.cons e3 .nil)))))))) hI (by kernel_rfl)))))))) (fun e2 h =>
 (brkD h hc1 fun e => (Fin.seg [[(0, { d := some false })]] [] [] [] [decide (v13 < (a.length : Int)) = false] (.cons e2 .nil) (hb1 _ e) (by kernel_rfl)))))
theorem impl_same_Put_b1_loop (a : List TPut) (b : List TPut) (res : V) (outs : List (Option V)) (x1 : Exc Bool Unit) (hb1 : ∀ s : Unit, x1 = .brk s → Fin cx impl_same_Put_X res outs impl_same_Put_k1 (impl_same_Put_S1)) (hr1 : ∀ v : Bool, x1 = .ret v → (res = impl_same_Put_R v ∧ outs = impl_same_Put_O v)) (s : Int) (h : loop (fun s : Int => impl_same_Put_b1 a b s) s = some x1) : Fin cx impl_same_Put_X res outs impl_same_Put_k3 (impl_same_Put_S2 a b s) :=
  loopD (I := fun s : Int => Fin cx impl_same_Put_X res outs impl_same_Put_k3 (impl_same_Put_S2 a b s)) h fun s st h hc => impl_same_Put_b1_ok a b res outs x1 hb1 hr1 st hc s h
noncomputable def impl_same_Put (a : List TPut) (b : List TPut) : Option Bool :=
  (bif ((a.length : Int) != (b.length : Int)) then
 some false
 else
 ((loop (fun s : Int => impl_same_Put_b1 a b s) 0).bind fun x => x.go (fun r => some r) fun s => impl_same_Put_k2))
theorem impl_same_Put_fin (a : List TPut) (b : List TPut) (r : Bool) (h : impl_same_Put a b = some r) : Fin cx impl_same_Put_X (impl_same_Put_R r) (impl_same_Put_O r) [.code impl_same_Put_c] (startS impl_same_Put_X [vsl 2 ePut a, vsl 2 ePut b]) :=
  (condD h (fun e1 h =>
 (someD h fun e => (Fin.fin (cx := cx) (X := impl_same_Put_X) (res := impl_same_Put_R false) (outs := impl_same_Put_O false) Try.func48 [[], [(4, { d := some true })], []] [((a.length : Int) != (b.length : Int)) = true] (.cons e1 .nil) (by kernel_rfl)).is (congrArg impl_same_Put_R e) (congrArg impl_same_Put_O e))) (fun e1 h =>
 (loopJ h fun x hl hr hb => (Fin.seg [[], [(4, { d := some false })], []] [] [0, 1, 12, 13] [] [((a.length : Int) != (b.length : Int)) = false] (.cons e1 .nil) (impl_same_Put_b1_loop a b _ _ x (fun s e => impl_same_Put_k2_ok r (hb s e)) (fun v e => ⟨congrArg impl_same_Put_R (Option.some.inj (hr v e)).symm, congrArg impl_same_Put_O (Option.some.inj (hr v e)).symm⟩) 0 hl) (by kernel_rfl)))))
theorem impl_same_Put_ok (a : List TPut) (b : List TPut) (r : Bool) (h : impl_same_Put a b = some r) : ACalls cx.P 48 [vsl 2 ePut a, vsl 2 ePut b] (impl_same_Put_R r) (impl_same_Put_O r) :=
  ACalls.of (cx := cx) (X := impl_same_Put_X) (c := impl_same_Put_c) Try.func48 (by kernel_rfl) (by kernel_rfl) (by kernel_rfl) (impl_same_Put_fin a b r h)

/-! ### impl_ExecSame -/
noncomputable def impl_ExecSame_c : Code := bodyOf Try.f44
noncomputable def impl_ExecSame_X : Sig := { f := 44, fn := Try.f44, rms := [.val [] []], oms := [none, none] }
noncomputable def impl_ExecSame_R (r : Bool) : V := .b r
noncomputable def impl_ExecSame_O (r : Bool) : List (Option V) := [none, none]
noncomputable def impl_ExecSame (a : TRun) (b : TRun) : Option Bool :=
  ((impl_same_Read a.Reads b.Reads).bind fun read =>
 (bif read then
 ((impl_same_Put a.Puts b.Puts).bind fun put =>
 (bif put then
 (bif (a.Val == b.Val) then
 some (a.Code == b.Code)
 else
 some false)
 else
 some false))
 else
 some false))
theorem impl_ExecSame_fin (a : TRun) (b : TRun) (r : Bool) (h : impl_ExecSame a b = some r) : Fin cx impl_ExecSame_X (impl_ExecSame_R r) (impl_ExecSame_O r) [.code impl_ExecSame_c] (startS impl_ExecSame_X [.agg (eRun a), .agg (eRun b)]) :=
  (bindD h fun read hread h =>
 (condD h (fun e1 h =>
 (bindD h fun put hput h =>
 (condD h (fun e2 h =>
 (condD h (fun e3 h =>
 (someD h fun e => (Fin.fin (cx := cx) (X := impl_ExecSame_X) (res := impl_ExecSame_R (a.Code == b.Code)) (outs := impl_ExecSame_O (a.Code == b.Code)) Try.func44 [[], [(4, { a := .call [.val [some 2] [], .val [some 2] []] false (impl_same_Read_R read) (impl_same_Read_O read) }), (5, { d := some true }), (10, { a := .call [.val [some 2] [], .val [some 2] []] false (impl_same_Put_R put) (impl_same_Put_O put) }), (12, { d := some true }), (19, { d := some true })]] [ACalls cx.P 47 [vsl 2 eRead a.Reads, vsl 2 eRead b.Reads] (impl_same_Read_R read) (impl_same_Read_O read), read = true, ACalls cx.P 48 [vsl 2 ePut a.Puts, vsl 2 ePut b.Puts] (impl_same_Put_R put) (impl_same_Put_O put), put = true, (a.Val == b.Val) = true] (.cons (impl_same_Read_ok a.Reads b.Reads read hread) (.cons e1 (.cons (impl_same_Put_ok a.Puts b.Puts put hput) (.cons e2 (.cons e3 .nil))))) (by kernel_rfl)).is (congrArg impl_ExecSame_R e) (congrArg impl_ExecSame_O e))) (fun e3 h =>
 (someD h fun e => (Fin.fin (cx := cx) (X := impl_ExecSame_X) (res := impl_ExecSame_R false) (outs := impl_ExecSame_O false) Try.func44 [[], [(4, { a := .call [.val [some 2] [], .val [some 2] []] false (impl_same_Read_R read) (impl_same_Read_O read) }), (5, { d := some true }), (10, { a := .call [.val [some 2] [], .val [some 2] []] false (impl_same_Put_R put) (impl_same_Put_O put) }), (12, { d := some true }), (19, { d := some false })]] [ACalls cx.P 47 [vsl 2 eRead a.Reads, vsl 2 eRead b.Reads] (impl_same_Read_R read) (impl_same_Read_O read), read = true, ACalls cx.P 48 [vsl 2 ePut a.Puts, vsl 2 ePut b.Puts] (impl_same_Put_R put) (impl_same_Put_O put), put = true, (a.Val == b.Val) = false] (.cons (impl_same_Read_ok a.Reads b.Reads read hread) (.cons e1 (.cons (impl_same_Put_ok a.Puts b.Puts put hput) (.cons e2 (.cons e3 .nil))))) (by kernel_rfl)).is (congrArg impl_ExecSame_R e) (congrArg impl_ExecSame_O e))))) (fun e2 h =>
 (someD h fun e => (Fin.fin (cx := cx) (X := impl_ExecSame_X) (res := impl_ExecSame_R false) (outs := impl_ExecSame_O false) Try.func44 [[], [(4, { a := .call [.val [some 2] [], .val [some 2] []] false (impl_same_Read_R read) (impl_same_Read_O read) }), (5, { d := some true }), (10, { a := .call [.val [some 2] [], .val [some 2] []] false (impl_same_Put_R put) (impl_same_Put_O put) }), (12, { d := some false })]] [ACalls cx.P 47 [vsl 2 eRead a.Reads, vsl 2 eRead b.Reads] (impl_same_Read_R read) (impl_same_Read_O read), read = true, ACalls cx.P 48 [vsl 2 ePut a.Puts, vsl 2 ePut b.Puts] (impl_same_Put_R put) (impl_same_Put_O put), put = false] (.cons (impl_same_Read_ok a.Reads b.Reads read hread) (.cons e1 (.cons (impl_same_Put_ok a.Puts b.Puts put hput) (.cons e2 .nil)))) (by kernel_rfl)).is (congrArg impl_ExecSame_R e) (congrArg impl_ExecSame_O e)))))) (fun e1 h =>
 (someD h fun e => (Fin.fin (cx := cx) (X := impl_ExecSame_X) (res := impl_ExecSame_R false) (outs := impl_ExecSame_O false) Try.func44 [[], [(4, { a := .call [.val [some 2] [], .val [some 2] []] false (impl_same_Read_R read) (impl_same_Read_O read) }), (5, { d := some false })]] [ACalls cx.P 47 [vsl 2 eRead a.Reads, vsl 2 eRead b.Reads] (impl_same_Read_R read) (impl_same_Read_O read), read = false] (.cons (impl_same_Read_ok a.Reads b.Reads read hread) (.cons e1 .nil)) (by kernel_rfl)).is (congrArg impl_ExecSame_R e) (congrArg impl_ExecSame_O e)))))
theorem impl_ExecSame_ok (a : TRun) (b : TRun) (r : Bool) (h : impl_ExecSame a b = some r) : ACalls cx.P 44 [.agg (eRun a), .agg (eRun b)] (impl_ExecSame_R r) (impl_ExecSame_O r) :=
  ACalls.of (cx := cx) (X := impl_ExecSame_X) (c := impl_ExecSame_c) Try.func44 (by kernel_rfl) (by kernel_rfl) (by kernel_rfl) (impl_ExecSame_fin a b r h)

/-! ### impl_CertLike -/
noncomputable def impl_CertLike_c : Code := bodyOf Try.f35
noncomputable def impl_CertLike_X : Sig := { f := 35, fn := Try.f35, rms := [.val [] []], oms := [none, none] }
noncomputable def impl_CertLike_R (r : Bool) : V := .b r
noncomputable def impl_CertLike_O (r : Bool) : List (Option V) := [none, none]
noncomputable def impl_CertLike (a : TEntry) (b : TEntry) : Option Bool :=
  (bif (a.None == b.None) then
 (bif (([a.Req.Who, a.Req.Seq] : List Int) == [b.Req.Who, b.Req.Seq]) then
 ((impl_ExecSame a.Run b.Run).bind fun execSame =>
 some execSame)
 else
 some false)
 else
 some false)
theorem impl_CertLike_fin (a : TEntry) (b : TEntry) (r : Bool) (h : impl_CertLike a b = some r) : Fin cx impl_CertLike_X (impl_CertLike_R r) (impl_CertLike_O r) [.code impl_CertLike_c] (startS impl_CertLike_X [.agg (eEntry a), .agg (eEntry b)]) :=
  (condD h (fun e1 h =>
 (condD h (fun e2 h =>
 (bindD h fun execSame hexecSame h =>
 (someD h fun e => (Fin.fin (cx := cx) (X := impl_CertLike_X) (res := impl_CertLike_R execSame) (outs := impl_CertLike_O execSame) Try.func35 [[], [(5, { d := some true }), (12, { d := some true }), (17, { a := .call [.val [some 2, some 2, none, none] [], .val [some 2, some 2, none, none] []] false (impl_ExecSame_R execSame) (impl_ExecSame_O execSame) })]] [(a.None == b.None) = true, (([a.Req.Who, a.Req.Seq] : List Int) == [b.Req.Who, b.Req.Seq]) = true, ACalls cx.P 44 [.agg (eRun a.Run), .agg (eRun b.Run)] (impl_ExecSame_R execSame) (impl_ExecSame_O execSame)] (.cons e1 (.cons e2 (.cons (impl_ExecSame_ok a.Run b.Run execSame hexecSame) .nil))) (by kernel_rfl)).is (congrArg impl_CertLike_R e) (congrArg impl_CertLike_O e)))) (fun e2 h =>
 (someD h fun e => (Fin.fin (cx := cx) (X := impl_CertLike_X) (res := impl_CertLike_R false) (outs := impl_CertLike_O false) Try.func35 [[], [(5, { d := some true }), (12, { d := some false })]] [(a.None == b.None) = true, (([a.Req.Who, a.Req.Seq] : List Int) == [b.Req.Who, b.Req.Seq]) = false] (.cons e1 (.cons e2 .nil)) (by kernel_rfl)).is (congrArg impl_CertLike_R e) (congrArg impl_CertLike_O e))))) (fun e1 h =>
 (someD h fun e => (Fin.fin (cx := cx) (X := impl_CertLike_X) (res := impl_CertLike_R false) (outs := impl_CertLike_O false) Try.func35 [[], [(5, { d := some false })]] [(a.None == b.None) = false] (.cons e1 .nil) (by kernel_rfl)).is (congrArg impl_CertLike_R e) (congrArg impl_CertLike_O e))))
theorem impl_CertLike_ok (a : TEntry) (b : TEntry) (r : Bool) (h : impl_CertLike a b = some r) : ACalls cx.P 35 [.agg (eEntry a), .agg (eEntry b)] (impl_CertLike_R r) (impl_CertLike_O r) :=
  ACalls.of (cx := cx) (X := impl_CertLike_X) (c := impl_CertLike_c) Try.func35 (by kernel_rfl) (by kernel_rfl) (by kernel_rfl) (impl_CertLike_fin a b r h)

/-! ### impl_in -/
noncomputable def impl_in_c : Code := bodyOf Try.f14
noncomputable def impl_in_X : Sig := { f := 14, fn := Try.f14, rms := [.val [] []], oms := [none, none, none] }
noncomputable def impl_in_R (r : Bool) : V := .b r
noncomputable def impl_in_O (r : Bool) : List (Option V) := [none, none, none]
noncomputable def impl_in (n : Int) (low : Int) (high : Int) : Option Bool :=
  (bif decide (n ≥ low) then
 some (decide (n ≤ high))
 else
 some false)
theorem impl_in_fin (n : Int) (low : Int) (high : Int) (r : Bool) (h : impl_in n low high = some r) : Fin cx impl_in_X (impl_in_R r) (impl_in_O r) [.code impl_in_c] (startS impl_in_X [vi n, vi low, vi high]) :=
  (condD h (fun e1 h =>
 (someD h fun e => (Fin.fin (cx := cx) (X := impl_in_X) (res := impl_in_R (decide (n ≤ high))) (outs := impl_in_O (decide (n ≤ high))) Try.func14 [[], [(3, { d := some true })]] [decide (n ≥ low) = true] (.cons e1 .nil) (by kernel_rfl)).is (congrArg impl_in_R e) (congrArg impl_in_O e))) (fun e1 h =>
 (someD h fun e => (Fin.fin (cx := cx) (X := impl_in_X) (res := impl_in_R false) (outs := impl_in_O false) Try.func14 [[], [(3, { d := some false })]] [decide (n ≥ low) = false] (.cons e1 .nil) (by kernel_rfl)).is (congrArg impl_in_R e) (congrArg impl_in_O e))))
theorem impl_in_ok (n : Int) (low : Int) (high : Int) (r : Bool) (h : impl_in n low high = some r) : ACalls cx.P 14 [vi n, vi low, vi high] (impl_in_R r) (impl_in_O r) :=
  ACalls.of (cx := cx) (X := impl_in_X) (c := impl_in_c) Try.func14 (by kernel_rfl) (by kernel_rfl) (by kernel_rfl) (impl_in_fin n low high r h)

/-! ### impl_reqOk -/
noncomputable def impl_reqOk_c : Code := bodyOf Try.f36
noncomputable def impl_reqOk_X : Sig := { f := 36, fn := Try.f36, rms := [.val [] []], oms := [none] }
noncomputable def impl_reqOk_R (r : Bool) : V := .b r
noncomputable def impl_reqOk_O (r : Bool) : List (Option V) := [none]
noncomputable def impl_reqOk (q : TReq) : Option Bool :=
  ((impl_in q.Who 0 2).bind fun in_ =>
 (bif in_ then
 ((impl_in q.Seq 1 1000).bind fun in_1 =>
 some in_1)
 else
 some false))
theorem impl_reqOk_fin (q : TReq) (r : Bool) (h : impl_reqOk q = some r) : Fin cx impl_reqOk_X (impl_reqOk_R r) (impl_reqOk_O r) [.code impl_reqOk_c] (startS impl_reqOk_X [.agg (eReq q)]) :=
  (bindD h fun in_ hin_ h =>
 (condD h (fun e1 h =>
 (bindD h fun in_1 hin_1 h =>
 (someD h fun e => (Fin.fin (cx := cx) (X := impl_reqOk_X) (res := impl_reqOk_R in_1) (outs := impl_reqOk_O in_1) Try.func36 [[], [(2, { a := .call [.val [] [], .val [] [], .val [] []] false (impl_in_R in_) (impl_in_O in_) }), (3, { d := some true }), (6, { a := .call [.val [] [], .val [] [], .val [] []] false (impl_in_R in_1) (impl_in_O in_1) })]] [ACalls cx.P 14 [vi q.Who, vi 0, vi 2] (impl_in_R in_) (impl_in_O in_), in_ = true, ACalls cx.P 14 [vi q.Seq, vi 1, vi 1000] (impl_in_R in_1) (impl_in_O in_1)] (.cons (impl_in_ok q.Who 0 2 in_ hin_) (.cons e1 (.cons (impl_in_ok q.Seq 1 1000 in_1 hin_1) .nil))) (by kernel_rfl)).is (congrArg impl_reqOk_R e) (congrArg impl_reqOk_O e)))) (fun e1 h =>
 (someD h fun e => (Fin.fin (cx := cx) (X := impl_reqOk_X) (res := impl_reqOk_R false) (outs := impl_reqOk_O false) Try.func36 [[], [(2, { a := .call [.val [] [], .val [] [], .val [] []] false (impl_in_R in_) (impl_in_O in_) }), (3, { d := some false })]] [ACalls cx.P 14 [vi q.Who, vi 0, vi 2] (impl_in_R in_) (impl_in_O in_), in_ = false] (.cons (impl_in_ok q.Who 0 2 in_ hin_) (.cons e1 .nil)) (by kernel_rfl)).is (congrArg impl_reqOk_R e) (congrArg impl_reqOk_O e)))))
theorem impl_reqOk_ok (q : TReq) (r : Bool) (h : impl_reqOk q = some r) : ACalls cx.P 36 [.agg (eReq q)] (impl_reqOk_R r) (impl_reqOk_O r) :=
  ACalls.of (cx := cx) (X := impl_reqOk_X) (c := impl_reqOk_c) Try.func36 (by kernel_rfl) (by kernel_rfl) (by kernel_rfl) (impl_reqOk_fin q r h)


end Go.Proofs.Ytidcofmgigokcaa
