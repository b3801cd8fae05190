/- Functions of the program, and that their calls come to this. -/
import Derived.Test.YtidcofmgigokcaaTy
set_option linter.unusedVariables false
set_option linter.unusedSimpArgs false
namespace Go.Proofs.Ytidcofmgigokcaa
open Go

/-! ### laws_szReadS -/
noncomputable def laws_szReadS_c : Code := bodyOf Try.f28
noncomputable def laws_szReadS_X : Sig := { f := 28, fn := Try.f28, rms := [.val [] []], oms := [none, none] }
noncomputable def laws_szReadS_R (r : Int) : V := vi r
noncomputable def laws_szReadS_O (r : Int) : List (Option V) := [none, none]
noncomputable def laws_szReadS (a : List TRead) (left : Int) : Option Int :=
  (bif decide ((w64 (left - (a.length : Int))) < 0) then
 some (-1)
 else
 some (w64 (left - (a.length : Int))))
theorem laws_szReadS_fin (a : List TRead) (left : Int) (r : Int) (h : laws_szReadS a left = some r) : Fin cx laws_szReadS_X (laws_szReadS_R r) (laws_szReadS_O r) [.code laws_szReadS_c] (startS laws_szReadS_X [vsl 2 eRead a, vi left]) :=
  (condD h (fun e1 h =>
 (someD h fun e => (Fin.fin (cx := cx) (X := laws_szReadS_X) (res := laws_szReadS_R (-1)) (outs := laws_szReadS_O (-1)) Try.func28 [[], [], [(1, { d := some true })], []] [decide ((w64 (left - (a.length : Int))) < 0) = true] (.cons e1 .nil) (by kernel_rfl)).is (congrArg laws_szReadS_R e) (congrArg laws_szReadS_O e))) (fun e1 h =>
 (someD h fun e => (Fin.fin (cx := cx) (X := laws_szReadS_X) (res := laws_szReadS_R (w64 (left - (a.length : Int)))) (outs := laws_szReadS_O (w64 (left - (a.length : Int)))) Try.func28 [[], [], [(1, { d := some false })], []] [decide ((w64 (left - (a.length : Int))) < 0) = false] (.cons e1 .nil) (by kernel_rfl)).is (congrArg laws_szReadS_R e) (congrArg laws_szReadS_O e))))
theorem laws_szReadS_ok (a : List TRead) (left : Int) (r : Int) (h : laws_szReadS a left = some r) : ACalls cx.P 28 [vsl 2 eRead a, vi left] (laws_szReadS_R r) (laws_szReadS_O r) :=
  ACalls.of (cx := cx) (X := laws_szReadS_X) (c := laws_szReadS_c) Try.func28 (by kernel_rfl) (by kernel_rfl) (by kernel_rfl) (laws_szReadS_fin a left r h)

/-! ### laws_szPutS -/
noncomputable def laws_szPutS_c : Code := bodyOf Try.f29
noncomputable def laws_szPutS_X : Sig := { f := 29, fn := Try.f29, rms := [.val [] []], oms := [none, none] }
noncomputable def laws_szPutS_R (r : Int) : V := vi r
noncomputable def laws_szPutS_O (r : Int) : List (Option V) := [none, none]
noncomputable def laws_szPutS (a : List TPut) (left : Int) : Option Int :=
  (bif decide ((w64 (left - (a.length : Int))) < 0) then
 some (-1)
 else
 some (w64 (left - (a.length : Int))))
theorem laws_szPutS_fin (a : List TPut) (left : Int) (r : Int) (h : laws_szPutS a left = some r) : Fin cx laws_szPutS_X (laws_szPutS_R r) (laws_szPutS_O r) [.code laws_szPutS_c] (startS laws_szPutS_X [vsl 2 ePut a, vi left]) :=
  (condD h (fun e1 h =>
 (someD h fun e => (Fin.fin (cx := cx) (X := laws_szPutS_X) (res := laws_szPutS_R (-1)) (outs := laws_szPutS_O (-1)) Try.func29 [[], [], [(1, { d := some true })], []] [decide ((w64 (left - (a.length : Int))) < 0) = true] (.cons e1 .nil) (by kernel_rfl)).is (congrArg laws_szPutS_R e) (congrArg laws_szPutS_O e))) (fun e1 h =>
 (someD h fun e => (Fin.fin (cx := cx) (X := laws_szPutS_X) (res := laws_szPutS_R (w64 (left - (a.length : Int)))) (outs := laws_szPutS_O (w64 (left - (a.length : Int)))) Try.func29 [[], [], [(1, { d := some false })], []] [decide ((w64 (left - (a.length : Int))) < 0) = false] (.cons e1 .nil) (by kernel_rfl)).is (congrArg laws_szPutS_R e) (congrArg laws_szPutS_O e))))
theorem laws_szPutS_ok (a : List TPut) (left : Int) (r : Int) (h : laws_szPutS a left = some r) : ACalls cx.P 29 [vsl 2 ePut a, vi left] (laws_szPutS_R r) (laws_szPutS_O r) :=
  ACalls.of (cx := cx) (X := laws_szPutS_X) (c := laws_szPutS_c) Try.func29 (by kernel_rfl) (by kernel_rfl) (by kernel_rfl) (laws_szPutS_fin a left r h)

/-! ### laws_szRun -/
noncomputable def laws_szRun_c : Code := bodyOf Try.f17
noncomputable def laws_szRun_X : Sig := { f := 17, fn := Try.f17, rms := [.val [] []], oms := [none, none] }
noncomputable def laws_szRun_R (r : Int) : V := vi r
noncomputable def laws_szRun_O (r : Int) : List (Option V) := [none, none]
noncomputable def laws_szRun (a : TRun) (left : Int) : Option Int :=
  ((laws_szReadS a.Reads left).bind fun szReadS =>
 (bif decide (szReadS < 0) then
 some (-1)
 else
 ((laws_szPutS a.Puts szReadS).bind fun szPutS =>
 (bif decide (szPutS < 0) then
 some (-1)
 else
 some szPutS))))
theorem laws_szRun_fin (a : TRun) (left : Int) (r : Int) (h : laws_szRun a left = some r) : Fin cx laws_szRun_X (laws_szRun_R r) (laws_szRun_O r) [.code laws_szRun_c] (startS laws_szRun_X [.agg (eRun a), vi left]) :=
  (bindD h fun szReadS hszReadS h =>
 (condD h (fun e1 h =>
 (someD h fun e => (Fin.fin (cx := cx) (X := laws_szRun_X) (res := laws_szRun_R (-1)) (outs := laws_szRun_O (-1)) Try.func17 [[], [(3, { a := .call [.val [some 2] [], .val [] []] false (laws_szReadS_R szReadS) (laws_szReadS_O szReadS) })], [(1, { d := some true })], []] [ACalls cx.P 28 [vsl 2 eRead a.Reads, vi left] (laws_szReadS_R szReadS) (laws_szReadS_O szReadS), decide (szReadS < 0) = true] (.cons (laws_szReadS_ok a.Reads left szReadS hszReadS) (.cons e1 .nil)) (by kernel_rfl)).is (congrArg laws_szRun_R e) (congrArg laws_szRun_O e))) (fun e1 h =>
 (bindD h fun szPutS hszPutS h =>
 (condD h (fun e2 h =>
 (someD h fun e => (Fin.fin (cx := cx) (X := laws_szRun_X) (res := laws_szRun_R (-1)) (outs := laws_szRun_O (-1)) Try.func17 [[], [(3, { a := .call [.val [some 2] [], .val [] []] false (laws_szReadS_R szReadS) (laws_szReadS_O szReadS) })], [(1, { d := some false })], [(3, { a := .call [.val [some 2] [], .val [] []] false (laws_szPutS_R szPutS) (laws_szPutS_O szPutS) })], [(1, { d := some true })], []] [ACalls cx.P 28 [vsl 2 eRead a.Reads, vi left] (laws_szReadS_R szReadS) (laws_szReadS_O szReadS), decide (szReadS < 0) = false, ACalls cx.P 29 [vsl 2 ePut a.Puts, vi szReadS] (laws_szPutS_R szPutS) (laws_szPutS_O szPutS), decide (szPutS < 0) = true] (.cons (laws_szReadS_ok a.Reads left szReadS hszReadS) (.cons e1 (.cons (laws_szPutS_ok a.Puts szReadS szPutS hszPutS) (.cons e2 .nil)))) (by kernel_rfl)).is (congrArg laws_szRun_R e) (congrArg laws_szRun_O e))) (fun e2 h =>
 (someD h fun e => (Fin.fin (cx := cx) (X := laws_szRun_X) (res := laws_szRun_R szPutS) (outs := laws_szRun_O szPutS) Try.func17 [[], [(3, { a := .call [.val [some 2] [], .val [] []] false (laws_szReadS_R szReadS) (laws_szReadS_O szReadS) })], [(1, { d := some false })], [(3, { a := .call [.val [some 2] [], .val [] []] false (laws_szPutS_R szPutS) (laws_szPutS_O szPutS) })], [(1, { d := some false })], []] [ACalls cx.P 28 [vsl 2 eRead a.Reads, vi left] (laws_szReadS_R szReadS) (laws_szReadS_O szReadS), decide (szReadS < 0) = false, ACalls cx.P 29 [vsl 2 ePut a.Puts, vi szReadS] (laws_szPutS_R szPutS) (laws_szPutS_O szPutS), decide (szPutS < 0) = false] (.cons (laws_szReadS_ok a.Reads left szReadS hszReadS) (.cons e1 (.cons (laws_szPutS_ok a.Puts szReadS szPutS hszPutS) (.cons e2 .nil)))) (by kernel_rfl)).is (congrArg laws_szRun_R e) (congrArg laws_szRun_O e))))))))
theorem laws_szRun_ok (a : TRun) (left : Int) (r : Int) (h : laws_szRun a left = some r) : ACalls cx.P 17 [.agg (eRun a), vi left] (laws_szRun_R r) (laws_szRun_O r) :=
  ACalls.of (cx := cx) (X := laws_szRun_X) (c := laws_szRun_c) Try.func17 (by kernel_rfl) (by kernel_rfl) (by kernel_rfl) (laws_szRun_fin a left r h)

/-! ### laws_szEntry -/
noncomputable def laws_szEntry_c : Code := bodyOf Try.f9
noncomputable def laws_szEntry_X : Sig := { f := 9, fn := Try.f9, rms := [.val [] []], oms := [none, none] }
noncomputable def laws_szEntry_R (r : Int) : V := vi r
noncomputable def laws_szEntry_O (r : Int) : List (Option V) := [none, none]
noncomputable def laws_szEntry (a : TEntry) (left : Int) : Option Int :=
  ((laws_szRun a.Run left).bind fun szRun =>
 (bif decide (szRun < 0) then
 some (-1)
 else
 some szRun))
theorem laws_szEntry_fin (a : TEntry) (left : Int) (r : Int) (h : laws_szEntry a left = some r) : Fin cx laws_szEntry_X (laws_szEntry_R r) (laws_szEntry_O r) [.code laws_szEntry_c] (startS laws_szEntry_X [.agg (eEntry a), vi left]) :=
  (bindD h fun szRun hszRun h =>
 (condD h (fun e1 h =>
 (someD h fun e => (Fin.fin (cx := cx) (X := laws_szEntry_X) (res := laws_szEntry_R (-1)) (outs := laws_szEntry_O (-1)) Try.func9 [[], [(3, { a := .call [.val [some 2, some 2, none, none] [], .val [] []] false (laws_szRun_R szRun) (laws_szRun_O szRun) })], [(1, { d := some true })], []] [ACalls cx.P 17 [.agg (eRun a.Run), vi left] (laws_szRun_R szRun) (laws_szRun_O szRun), decide (szRun < 0) = true] (.cons (laws_szRun_ok a.Run left szRun hszRun) (.cons e1 .nil)) (by kernel_rfl)).is (congrArg laws_szEntry_R e) (congrArg laws_szEntry_O e))) (fun e1 h =>
 (someD h fun e => (Fin.fin (cx := cx) (X := laws_szEntry_X) (res := laws_szEntry_R szRun) (outs := laws_szEntry_O szRun) Try.func9 [[], [(3, { a := .call [.val [some 2, some 2, none, none] [], .val [] []] false (laws_szRun_R szRun) (laws_szRun_O szRun) })], [(1, { d := some false })], []] [ACalls cx.P 17 [.agg (eRun a.Run), vi left] (laws_szRun_R szRun) (laws_szRun_O szRun), decide (szRun < 0) = false] (.cons (laws_szRun_ok a.Run left szRun hszRun) (.cons e1 .nil)) (by kernel_rfl)).is (congrArg laws_szEntry_R e) (congrArg laws_szEntry_O e)))))
theorem laws_szEntry_ok (a : TEntry) (left : Int) (r : Int) (h : laws_szEntry a left = some r) : ACalls cx.P 9 [.agg (eEntry a), vi left] (laws_szEntry_R r) (laws_szEntry_O r) :=
  ACalls.of (cx := cx) (X := laws_szEntry_X) (c := laws_szEntry_c) Try.func9 (by kernel_rfl) (by kernel_rfl) (by kernel_rfl) (laws_szEntry_fin a left r h)

/-! ### laws_szEntryS -/
noncomputable def laws_szEntryS_c : Code := bodyOf Try.f4
noncomputable def laws_szEntryS_X : Sig := { f := 4, fn := Try.f4, rms := [.val [] []], oms := [none, none] }
noncomputable def laws_szEntryS_R (r : Int) : V := vi r
noncomputable def laws_szEntryS_O (r : Int) : List (Option V) := [none, none]
noncomputable def laws_szEntryS_k1 : List Item := posI 2000 5 [false, false] [.code laws_szEntryS_c]
noncomputable def laws_szEntryS_S1 (left2 : Int) : St := ⟨(bs 1 (vi left2 :: (bs 25 []))), [some []]⟩
noncomputable def laws_szEntryS_k2 (left2 : Int) : Option Int :=
  some left2
theorem laws_szEntryS_k2_ok (r : Int) (left2 : Int) (h : laws_szEntryS_k2 left2 = some r) : Fin cx laws_szEntryS_X (laws_szEntryS_R r) (laws_szEntryS_O r) laws_szEntryS_k1 (laws_szEntryS_S1 left2) :=
  (someD h fun e => (Fin.fin (cx := cx) (X := laws_szEntryS_X) (res := laws_szEntryS_R left2) (outs := laws_szEntryS_O left2) Try.func4 [[]] [] .nil (by kernel_rfl)).is (congrArg laws_szEntryS_R e) (congrArg laws_szEntryS_O e))
noncomputable def laws_szEntryS_k3 : List Item := posI 2000 4 [false] [.code laws_szEntryS_c]
noncomputable def laws_szEntryS_S2 (a : List TEntry) (left1 : Int) (i : Int) : St := ⟨(vsl 7 eEntry a :: (vi left1 :: (bs 3 (vi i :: (bs 21 []))))), [some []]⟩
noncomputable def laws_szEntryS_b1 (a : List TEntry) (left1 : Int) (i : Int) : Option (Stp Int (Int × Int) Int) :=
  (bif decide (i < (a.length : Int)) then
 ((idx a i).bind fun entry =>
 ((laws_szEntry entry left1).bind fun szEntry =>
 (bif decide (szEntry < 0) then
 some (Stp.ret (-1))
 else
 some (Stp.nxt (szEntry, w64 (i + 1))))))
 else
 some (Stp.brk left1))
theorem laws_szEntryS_b1_ok (a : List TEntry) (res : V) (outs : List (Option V)) (x1 : Exc Int Int) (hb1 : ∀ s : Int, x1 = .brk s → Fin cx laws_szEntryS_X res outs laws_szEntryS_k1 (laws_szEntryS_S1 s)) (hr1 : ∀ v : Int, x1 = .ret v → (res = laws_szEntryS_R v ∧ outs = laws_szEntryS_O v)) (st1 : Stp Int (Int × Int) Int) (hc1 : Cont x1 (fun s : Int × Int => Fin cx laws_szEntryS_X res outs laws_szEntryS_k3 (laws_szEntryS_S2 a s.1 s.2)) st1) (left1 : Int) (i : Int) (h : laws_szEntryS_b1 a left1 i = some st1) : Fin cx laws_szEntryS_X res outs laws_szEntryS_k3 (laws_szEntryS_S2 a left1 i) :=
  (condD h (fun e2 h =>
 (bindD h fun entry hentry h =>
 (bindD h fun szEntry hszEntry h =>
 (condD h (fun e3 h =>
 (retD h hc1 fun e => (Fin.fin (cx := cx) (X := laws_szEntryS_X) (res := laws_szEntryS_R (-1)) (outs := laws_szEntryS_O (-1)) Try.func4 [[(3, { d := some true })], [(2, { a := .row (eEntry entry) }), (5, { a := .call [.val [none, none, none, some 2, some 2, none, none] [], .val [] []] false (laws_szEntry_R szEntry) (laws_szEntry_O szEntry) })], [(1, { d := some true })], []] [decide (i < (a.length : Int)) = true, (0 : Int) ≤ i, i < ((a.length : Nat) : Int), (a.map eEntry)[i.toNat]? = some (eEntry entry), ACalls cx.P 9 [.agg (eEntry entry), vi left1] (laws_szEntry_R szEntry) (laws_szEntry_O szEntry), decide (szEntry < 0) = true] (.cons e2 (.cons (idx0 hentry) (.cons (idx1 hentry) (.cons (map_idx hentry) (.cons (laws_szEntry_ok entry left1 szEntry hszEntry) (.cons e3 .nil)))))) (by kernel_rfl)).is (hr1 _ e).1 (hr1 _ e).2)) (fun e3 h =>
 (nxtD h hc1 fun hI => (Fin.seg [[(3, { d := some true })], [(2, { a := .row (eEntry entry) }), (5, { a := .call [.val [none, none, none, some 2, some 2, none, none] [], .val [] []] false (laws_szEntry_R szEntry) (laws_szEntry_O szEntry) })], [(1, { d := some false })], []] [] [0, 1, 5] [] [decide (i < (a.length : Int)) = true, (0 : Int) ≤ i, i < ((a.length : Nat) : Int), (a.map eEntry)[i.toNat]? = some (eEntry entry), ACalls cx.P 9 [.agg (eEntry entry), vi left1] (laws_szEntry_R szEntry) (laws_szEntry_O szEntry), decide (szEntry < 0) = false] (.cons e2 (.cons (idx0 hentry) (.cons (idx1 hentry) (.cons (map_idx hentry) (.cons (laws_szEntry_ok entry left1 szEntry hszEntry) (.cons e3 .nil)))))) hI (by kernel_rfl)))))))) (fun e2 h =>
 (brkD h hc1 fun e => (Fin.seg [[(3, { d := some false })]] [] [1] [] [decide (i < (a.length : Int)) = false] (.cons e2 .nil) (hb1 _ e) (by kernel_rfl)))))
theorem laws_szEntryS_b1_loop (a : List TEntry) (res : V) (outs : List (Option V)) (x1 : Exc Int Int) (hb1 : ∀ s : Int, x1 = .brk s → Fin cx laws_szEntryS_X res outs laws_szEntryS_k1 (laws_szEntryS_S1 s)) (hr1 : ∀ v : Int, x1 = .ret v → (res = laws_szEntryS_R v ∧ outs = laws_szEntryS_O v)) (s : Int × Int) (h : loop (fun s : Int × Int => laws_szEntryS_b1 a s.1 s.2) s = some x1) : Fin cx laws_szEntryS_X res outs laws_szEntryS_k3 (laws_szEntryS_S2 a s.1 s.2) :=
  loopD (I := fun s : Int × Int => Fin cx laws_szEntryS_X res outs laws_szEntryS_k3 (laws_szEntryS_S2 a s.1 s.2)) h fun s st h hc => laws_szEntryS_b1_ok a res outs x1 hb1 hr1 st hc s.1 s.2 h
noncomputable def laws_szEntryS (a : List TEntry) (left : Int) : Option Int :=
  (bif decide ((w64 (left - (a.length : Int))) < 0) then
 some (-1)
 else
 ((loop (fun s : Int × Int => laws_szEntryS_b1 a s.1 s.2) (w64 (left - (a.length : Int)), 0)).bind fun x => x.go (fun r => some r) fun s => laws_szEntryS_k2 s))
theorem laws_szEntryS_fin (a : List TEntry) (left : Int) (r : Int) (h : laws_szEntryS a left = some r) : Fin cx laws_szEntryS_X (laws_szEntryS_R r) (laws_szEntryS_O r) [.code laws_szEntryS_c] (startS laws_szEntryS_X [vsl 7 eEntry a, vi left]) :=
  (condD h (fun e1 h =>
 (someD h fun e => (Fin.fin (cx := cx) (X := laws_szEntryS_X) (res := laws_szEntryS_R (-1)) (outs := laws_szEntryS_O (-1)) Try.func4 [[], [], [(1, { d := some true })], []] [decide ((w64 (left - (a.length : Int))) < 0) = true] (.cons e1 .nil) (by kernel_rfl)).is (congrArg laws_szEntryS_R e) (congrArg laws_szEntryS_O e))) (fun e1 h =>
 (loopJ h fun x hl hr hb => (Fin.seg [[], [], [(1, { d := some false })], []] [] [0, 1, 5] [] [decide ((w64 (left - (a.length : Int))) < 0) = false] (.cons e1 .nil) (laws_szEntryS_b1_loop a _ _ x (fun s e => laws_szEntryS_k2_ok r s (hb s e)) (fun v e => ⟨congrArg laws_szEntryS_R (Option.some.inj (hr v e)).symm, congrArg laws_szEntryS_O (Option.some.inj (hr v e)).symm⟩) (w64 (left - (a.length : Int)), 0) hl) (by kernel_rfl)))))
theorem laws_szEntryS_ok (a : List TEntry) (left : Int) (r : Int) (h : laws_szEntryS a left = some r) : ACalls cx.P 4 [vsl 7 eEntry a, vi left] (laws_szEntryS_R r) (laws_szEntryS_O r) :=
  ACalls.of (cx := cx) (X := laws_szEntryS_X) (c := laws_szEntryS_c) Try.func4 (by kernel_rfl) (by kernel_rfl) (by kernel_rfl) (laws_szEntryS_fin a left r h)

/-! ### laws_toReq -/
noncomputable def laws_toReq_c : Code := bodyOf Try.f21
noncomputable def laws_toReq_X : Sig := { f := 21, fn := Try.f21, rms := [.val [] []], oms := [none] }
noncomputable def laws_toReq_R (r : TReq) : V := .agg (eReq r)
noncomputable def laws_toReq_O (r : TReq) : List (Option V) := [none]
noncomputable def laws_toReq (a : TReq) : Option TReq :=
  some a
theorem laws_toReq_fin (a : TReq) (r : TReq) (h : laws_toReq a = some r) : Fin cx laws_toReq_X (laws_toReq_R r) (laws_toReq_O r) [.code laws_toReq_c] (startS laws_toReq_X [.agg (eReq a)]) :=
  (someD h fun e => (Fin.fin (cx := cx) (X := laws_toReq_X) (res := laws_toReq_R a) (outs := laws_toReq_O a) Try.func21 [[], [], [], [], []] [] .nil (by kernel_rfl)).is (congrArg laws_toReq_R e) (congrArg laws_toReq_O e))
theorem laws_toReq_ok (a : TReq) (r : TReq) (h : laws_toReq a = some r) : ACalls cx.P 21 [.agg (eReq a)] (laws_toReq_R r) (laws_toReq_O r) :=
  ACalls.of (cx := cx) (X := laws_toReq_X) (c := laws_toReq_c) Try.func21 (by kernel_rfl) (by kernel_rfl) (by kernel_rfl) (laws_toReq_fin a r h)

/-! ### laws_toRead -/
noncomputable def laws_toRead_c : Code := bodyOf Try.f42
noncomputable def laws_toRead_X : Sig := { f := 42, fn := Try.f42, rms := [.val [] []], oms := [none] }
noncomputable def laws_toRead_R (r : TRead) : V := .agg (eRead r)
noncomputable def laws_toRead_O (r : TRead) : List (Option V) := [none]
noncomputable def laws_toRead (a : TRead) : Option TRead :=
  some a
theorem laws_toRead_fin (a : TRead) (r : TRead) (h : laws_toRead a = some r) : Fin cx laws_toRead_X (laws_toRead_R r) (laws_toRead_O r) [.code laws_toRead_c] (startS laws_toRead_X [.agg (eRead a)]) :=
  (someD h fun e => (Fin.fin (cx := cx) (X := laws_toRead_X) (res := laws_toRead_R a) (outs := laws_toRead_O a) Try.func42 [[], [], [], [], []] [] .nil (by kernel_rfl)).is (congrArg laws_toRead_R e) (congrArg laws_toRead_O e))
theorem laws_toRead_ok (a : TRead) (r : TRead) (h : laws_toRead a = some r) : ACalls cx.P 42 [.agg (eRead a)] (laws_toRead_R r) (laws_toRead_O r) :=
  ACalls.of (cx := cx) (X := laws_toRead_X) (c := laws_toRead_c) Try.func42 (by kernel_rfl) (by kernel_rfl) (by kernel_rfl) (laws_toRead_fin a r h)

/-! ### laws_toReadS -/
noncomputable def laws_toReadS_c : Code := bodyOf Try.f33
noncomputable def laws_toReadS_X : Sig := { f := 33, fn := Try.f33, rms := [.val [some 2] []], oms := [none] }
noncomputable def laws_toReadS_R (r : List TRead) : V := vsl 2 eRead r
noncomputable def laws_toReadS_O (r : List TRead) : List (Option V) := [none]
noncomputable def laws_toReadS_k1 : List Item := posI 2000 4 [false] [.code laws_toReadS_c]
noncomputable def laws_toReadS_S1 (out1 : List TRead) : St := ⟨(bs 3 (.own 1 0 2 0 out1.length :: (bs 19 []))), [some [], some [erow 66 2 eRead out1]]⟩
noncomputable def laws_toReadS_k2 (out1 : List TRead) : Option (List TRead) :=
  some out1
theorem laws_toReadS_k2_ok (r : List TRead) (out1 : List TRead) (h : laws_toReadS_k2 out1 = some r) : Fin cx laws_toReadS_X (laws_toReadS_R r) (laws_toReadS_O r) laws_toReadS_k1 (laws_toReadS_S1 out1) :=
  (someD h fun e => (Fin.fin (cx := cx) (X := laws_toReadS_X) (res := laws_toReadS_R out1) (outs := laws_toReadS_O out1) Try.func33 [[]] [out1.length = out1.length] (.cons rfl .nil) (by kernel_rfl)).is (congrArg laws_toReadS_R e) (congrArg laws_toReadS_O e))
noncomputable def laws_toReadS_k3 : List Item := posI 2000 3 [] [.code laws_toReadS_c]
noncomputable def laws_toReadS_S2 (a : List TRead) (out : List TRead) (i : Int) : St := ⟨(vsl 2 eRead a :: (bs 2 (.own 1 0 2 0 out.length :: (vi i :: (bs 18 []))))), [some [], some [erow 66 2 eRead out]]⟩
noncomputable def laws_toReadS_b1 (a : List TRead) (out : List TRead) (i : Int) : Option (Stp (List TRead) ((List TRead) × Int) (List TRead)) :=
  (bif decide (i < (a.length : Int)) then
 ((idx a i).bind fun read =>
 ((laws_toRead read).bind fun toRead =>
 ((idx out i).bind fun read1 =>
 some (Stp.nxt (out.set i.toNat toRead, w64 (i + 1))))))
 else
 some (Stp.brk out))
theorem laws_toReadS_b1_ok (a : List TRead) (res : V) (outs : List (Option V)) (x1 : Exc (List TRead) (List TRead)) (hb1 : ∀ s : List TRead, x1 = .brk s → Fin cx laws_toReadS_X res outs laws_toReadS_k1 (laws_toReadS_S1 s)) (hr1 : ∀ v : List TRead, x1 = .ret v → (res = laws_toReadS_R v ∧ outs = laws_toReadS_O v)) (st1 : Stp (List TRead) ((List TRead) × Int) (List TRead)) (hc1 : Cont x1 (fun s : (List TRead) × Int => Fin cx laws_toReadS_X res outs laws_toReadS_k3 (laws_toReadS_S2 a s.1 s.2)) st1) (out : List TRead) (i : Int) (h : laws_toReadS_b1 a out i = some st1) : Fin cx laws_toReadS_X res outs laws_toReadS_k3 (laws_toReadS_S2 a out i) :=
  (condD h (fun e2 h =>
 (bindD h fun read hread h =>
 (bindD h fun toRead htoRead h =>
 (bindD h fun read1 hread1 h =>
 (nxtD h hc1 fun hI => (Fin.seg [[(3, { d := some true })], [(4, { a := .row (eRead read) }), (6, { a := .call [.val [] []] false (laws_toRead_R toRead) (laws_toRead_O toRead) }), (8, { a := .rowck (eRead read1) [], e := some (erow 66 2 eRead (out.set i.toNat toRead)) })], []] [.is (.tmp 3) (.own 1 0 2 0 (out.set i.toNat toRead).length)] [0, 3, 4] [(1, 0)] [decide (i < (a.length : Int)) = true, (0 : Int) ≤ i, i < ((a.length : Nat) : Int), (a.map eRead)[i.toNat]? = some (eRead read), ACalls cx.P 42 [.agg (eRead read)] (laws_toRead_R toRead) (laws_toRead_O toRead), (0 : Int) ≤ i, i < ((out.length : Nat) : Int), Ent.row 66 2 out.length ((out.map eRead).set (0 + i.toNat) [vi toRead.Box, vi toRead.Ver]) = erow 66 2 eRead (out.set i.toNat toRead), (out.map eRead)[0 + i.toNat]? = some (eRead read1), (.own 1 0 2 0 out.length : V) = .own 1 0 2 0 (out.set i.toNat toRead).length] (.cons e2 (.cons (idx0 hread) (.cons (idx1 hread) (.cons (map_idx hread) (.cons (laws_toRead_ok read toRead htoRead) (.cons (idx0 hread1) (.cons (idx1 hread1) (.cons (row_set rfl) (.cons (map_idx0 hread1) (.cons (by simp) .nil)))))))))) hI (by kernel_rfl))))))) (fun e2 h =>
 (brkD h hc1 fun e => (Fin.seg [[(3, { d := some false })]] [] [3] [(1, 0)] [decide (i < (a.length : Int)) = false] (.cons e2 .nil) (hb1 _ e) (by kernel_rfl)))))
theorem laws_toReadS_b1_loop (a : List TRead) (res : V) (outs : List (Option V)) (x1 : Exc (List TRead) (List TRead)) (hb1 : ∀ s : List TRead, x1 = .brk s → Fin cx laws_toReadS_X res outs laws_toReadS_k1 (laws_toReadS_S1 s)) (hr1 : ∀ v : List TRead, x1 = .ret v → (res = laws_toReadS_R v ∧ outs = laws_toReadS_O v)) (s : (List TRead) × Int) (h : loop (fun s : (List TRead) × Int => laws_toReadS_b1 a s.1 s.2) s = some x1) : Fin cx laws_toReadS_X res outs laws_toReadS_k3 (laws_toReadS_S2 a s.1 s.2) :=
  loopD (I := fun s : (List TRead) × Int => Fin cx laws_toReadS_X res outs laws_toReadS_k3 (laws_toReadS_S2 a s.1 s.2)) h fun s st h hc => laws_toReadS_b1_ok a res outs x1 hb1 hr1 st hc s.1 s.2 h
noncomputable def laws_toReadS (a : List TRead) : Option (List TRead) :=
  (need (0 ≤ (a.length : Int) ∧ (a.length : Int) * 16 ≤ 140737488355328)
 (((loop (fun s : (List TRead) × Int => laws_toReadS_b1 a s.1 s.2) (List.replicate (a.length : Int).toNat (TRead.mk 0 0), 0)).bind fun x => x.go (fun r => some r) fun s => laws_toReadS_k2 s)))
theorem laws_toReadS_fin (a : List TRead) (r : List TRead) (h : laws_toReadS a = some r) : Fin cx laws_toReadS_X (laws_toReadS_R r) (laws_toReadS_O r) [.code laws_toReadS_c] (startS laws_toReadS_X [vsl 2 eRead a]) :=
  (needD h fun e1 h =>
 (loopJ h fun x hl hr hb => (Fin.seg [[], [(2, { e := some (erow 66 2 eRead (List.replicate (a.length : Int).toNat (TRead.mk 0 0))), v := some (.own 4 0 2 0 (List.replicate (a.length : Int).toNat (TRead.mk 0 0)).length) })], []] [] [0, 3, 4] [(4, 0)] [V.own 4 0 2 0 (a.length : Int).toNat = .own 4 0 2 0 (List.replicate (a.length : Int).toNat (TRead.mk 0 0)).length, Ent.row 66 2 (a.length : Int).toNat (List.replicate (a.length : Int).toNat [vi 0, vi 0]) = erow 66 2 eRead (List.replicate (a.length : Int).toNat (TRead.mk 0 0)), (0 : Int) ≤ (a.length : Int), (a.length : Int) = (a.length : Int), (a.length : Int) * ((16 : Nat) : Int) ≤ 140737488355328 ∧ 0 < 16, ([vi 0, vi 0] : List V).length = 2] (.cons (by simp) (.cons (row_rep rfl) (.cons e1.1 (.cons rfl (.cons ⟨e1.2, by decide⟩ (.cons rfl .nil)))))) (laws_toReadS_b1_loop a _ _ x (fun s e => laws_toReadS_k2_ok r s (hb s e)) (fun v e => ⟨congrArg laws_toReadS_R (Option.some.inj (hr v e)).symm, congrArg laws_toReadS_O (Option.some.inj (hr v e)).symm⟩) (List.replicate (a.length : Int).toNat (TRead.mk 0 0), 0) hl) (by kernel_rfl))))
theorem laws_toReadS_ok (a : List TRead) (r : List TRead) (h : laws_toReadS a = some r) : ACalls cx.P 33 [vsl 2 eRead a] (laws_toReadS_R r) (laws_toReadS_O r) :=
  ACalls.of (cx := cx) (X := laws_toReadS_X) (c := laws_toReadS_c) Try.func33 (by kernel_rfl) (by kernel_rfl) (by kernel_rfl) (laws_toReadS_fin a r h)

/-! ### laws_toPut -/
noncomputable def laws_toPut_c : Code := bodyOf Try.f43
noncomputable def laws_toPut_X : Sig := { f := 43, fn := Try.f43, rms := [.val [] []], oms := [none] }
noncomputable def laws_toPut_R (r : TPut) : V := .agg (ePut r)
noncomputable def laws_toPut_O (r : TPut) : List (Option V) := [none]
noncomputable def laws_toPut (a : TPut) : Option TPut :=
  some a
theorem laws_toPut_fin (a : TPut) (r : TPut) (h : laws_toPut a = some r) : Fin cx laws_toPut_X (laws_toPut_R r) (laws_toPut_O r) [.code laws_toPut_c] (startS laws_toPut_X [.agg (ePut a)]) :=
  (someD h fun e => (Fin.fin (cx := cx) (X := laws_toPut_X) (res := laws_toPut_R a) (outs := laws_toPut_O a) Try.func43 [[], [], [], [], []] [] .nil (by kernel_rfl)).is (congrArg laws_toPut_R e) (congrArg laws_toPut_O e))
theorem laws_toPut_ok (a : TPut) (r : TPut) (h : laws_toPut a = some r) : ACalls cx.P 43 [.agg (ePut a)] (laws_toPut_R r) (laws_toPut_O r) :=
  ACalls.of (cx := cx) (X := laws_toPut_X) (c := laws_toPut_c) Try.func43 (by kernel_rfl) (by kernel_rfl) (by kernel_rfl) (laws_toPut_fin a r h)

/-! ### laws_toPutS -/
noncomputable def laws_toPutS_c : Code := bodyOf Try.f34
noncomputable def laws_toPutS_X : Sig := { f := 34, fn := Try.f34, rms := [.val [some 2] []], oms := [none] }
noncomputable def laws_toPutS_R (r : List TPut) : V := vsl 2 ePut r
noncomputable def laws_toPutS_O (r : List TPut) : List (Option V) := [none]
noncomputable def laws_toPutS_k1 : List Item := posI 2000 4 [false] [.code laws_toPutS_c]
noncomputable def laws_toPutS_S1 (out1 : List TPut) : St := ⟨(bs 3 (.own 1 0 2 0 out1.length :: (bs 19 []))), [some [], some [erow 64 2 ePut out1]]⟩
noncomputable def laws_toPutS_k2 (out1 : List TPut) : Option (List TPut) :=
  some out1
theorem laws_toPutS_k2_ok (r : List TPut) (out1 : List TPut) (h : laws_toPutS_k2 out1 = some r) : Fin cx laws_toPutS_X (laws_toPutS_R r) (laws_toPutS_O r) laws_toPutS_k1 (laws_toPutS_S1 out1) :=
  (someD h fun e => (Fin.fin (cx := cx) (X := laws_toPutS_X) (res := laws_toPutS_R out1) (outs := laws_toPutS_O out1) Try.func34 [[]] [out1.length = out1.length] (.cons rfl .nil) (by kernel_rfl)).is (congrArg laws_toPutS_R e) (congrArg laws_toPutS_O e))
noncomputable def laws_toPutS_k3 : List Item := posI 2000 3 [] [.code laws_toPutS_c]
noncomputable def laws_toPutS_S2 (a : List TPut) (out : List TPut) (i : Int) : St := ⟨(vsl 2 ePut a :: (bs 2 (.own 1 0 2 0 out.length :: (vi i :: (bs 18 []))))), [some [], some [erow 64 2 ePut out]]⟩
noncomputable def laws_toPutS_b1 (a : List TPut) (out : List TPut) (i : Int) : Option (Stp (List TPut) ((List TPut) × Int) (List TPut)) :=
  (bif decide (i < (a.length : Int)) then
 ((idx a i).bind fun put =>
 ((laws_toPut put).bind fun toPut =>
 ((idx out i).bind fun put1 =>
 some (Stp.nxt (out.set i.toNat toPut, w64 (i + 1))))))
 else
 some (Stp.brk out))
theorem laws_toPutS_b1_ok (a : List TPut) (res : V) (outs : List (Option V)) (x1 : Exc (List TPut) (List TPut)) (hb1 : ∀ s : List TPut, x1 = .brk s → Fin cx laws_toPutS_X res outs laws_toPutS_k1 (laws_toPutS_S1 s)) (hr1 : ∀ v : List TPut, x1 = .ret v → (res = laws_toPutS_R v ∧ outs = laws_toPutS_O v)) (st1 : Stp (List TPut) ((List TPut) × Int) (List TPut)) (hc1 : Cont x1 (fun s : (List TPut) × Int => Fin cx laws_toPutS_X res outs laws_toPutS_k3 (laws_toPutS_S2 a s.1 s.2)) st1) (out : List TPut) (i : Int) (h : laws_toPutS_b1 a out i = some st1) : Fin cx laws_toPutS_X res outs laws_toPutS_k3 (laws_toPutS_S2 a out i) :=
  (condD h (fun e2 h =>
 (bindD h fun put hput h =>
 (bindD h fun toPut htoPut h =>
 (bindD h fun put1 hput1 h =>
 (nxtD h hc1 fun hI => (Fin.seg [[(3, { d := some true })], [(4, { a := .row (ePut put) }), (6, { a := .call [.val [] []] false (laws_toPut_R toPut) (laws_toPut_O toPut) }), (8, { a := .rowck (ePut put1) [], e := some (erow 64 2 ePut (out.set i.toNat toPut)) })], []] [.is (.tmp 3) (.own 1 0 2 0 (out.set i.toNat toPut).length)] [0, 3, 4] [(1, 0)] [decide (i < (a.length : Int)) = true, (0 : Int) ≤ i, i < ((a.length : Nat) : Int), (a.map ePut)[i.toNat]? = some (ePut put), ACalls cx.P 43 [.agg (ePut put)] (laws_toPut_R toPut) (laws_toPut_O toPut), (0 : Int) ≤ i, i < ((out.length : Nat) : Int), Ent.row 64 2 out.length ((out.map ePut).set (0 + i.toNat) [vi toPut.Box, vi toPut.Val]) = erow 64 2 ePut (out.set i.toNat toPut), (out.map ePut)[0 + i.toNat]? = some (ePut put1), (.own 1 0 2 0 out.length : V) = .own 1 0 2 0 (out.set i.toNat toPut).length] (.cons e2 (.cons (idx0 hput) (.cons (idx1 hput) (.cons (map_idx hput) (.cons (laws_toPut_ok put toPut htoPut) (.cons (idx0 hput1) (.cons (idx1 hput1) (.cons (row_set rfl) (.cons (map_idx0 hput1) (.cons (by simp) .nil)))))))))) hI (by kernel_rfl))))))) (fun e2 h =>
 (brkD h hc1 fun e => (Fin.seg [[(3, { d := some false })]] [] [3] [(1, 0)] [decide (i < (a.length : Int)) = false] (.cons e2 .nil) (hb1 _ e) (by kernel_rfl)))))
theorem laws_toPutS_b1_loop (a : List TPut) (res : V) (outs : List (Option V)) (x1 : Exc (List TPut) (List TPut)) (hb1 : ∀ s : List TPut, x1 = .brk s → Fin cx laws_toPutS_X res outs laws_toPutS_k1 (laws_toPutS_S1 s)) (hr1 : ∀ v : List TPut, x1 = .ret v → (res = laws_toPutS_R v ∧ outs = laws_toPutS_O v)) (s : (List TPut) × Int) (h : loop (fun s : (List TPut) × Int => laws_toPutS_b1 a s.1 s.2) s = some x1) : Fin cx laws_toPutS_X res outs laws_toPutS_k3 (laws_toPutS_S2 a s.1 s.2) :=
  loopD (I := fun s : (List TPut) × Int => Fin cx laws_toPutS_X res outs laws_toPutS_k3 (laws_toPutS_S2 a s.1 s.2)) h fun s st h hc => laws_toPutS_b1_ok a res outs x1 hb1 hr1 st hc s.1 s.2 h
noncomputable def laws_toPutS (a : List TPut) : Option (List TPut) :=
  (need (0 ≤ (a.length : Int) ∧ (a.length : Int) * 16 ≤ 140737488355328)
 (((loop (fun s : (List TPut) × Int => laws_toPutS_b1 a s.1 s.2) (List.replicate (a.length : Int).toNat (TPut.mk 0 0), 0)).bind fun x => x.go (fun r => some r) fun s => laws_toPutS_k2 s)))
theorem laws_toPutS_fin (a : List TPut) (r : List TPut) (h : laws_toPutS a = some r) : Fin cx laws_toPutS_X (laws_toPutS_R r) (laws_toPutS_O r) [.code laws_toPutS_c] (startS laws_toPutS_X [vsl 2 ePut a]) :=
  (needD h fun e1 h =>
 (loopJ h fun x hl hr hb => (Fin.seg [[], [(2, { e := some (erow 64 2 ePut (List.replicate (a.length : Int).toNat (TPut.mk 0 0))), v := some (.own 4 0 2 0 (List.replicate (a.length : Int).toNat (TPut.mk 0 0)).length) })], []] [] [0, 3, 4] [(4, 0)] [V.own 4 0 2 0 (a.length : Int).toNat = .own 4 0 2 0 (List.replicate (a.length : Int).toNat (TPut.mk 0 0)).length, Ent.row 64 2 (a.length : Int).toNat (List.replicate (a.length : Int).toNat [vi 0, vi 0]) = erow 64 2 ePut (List.replicate (a.length : Int).toNat (TPut.mk 0 0)), (0 : Int) ≤ (a.length : Int), (a.length : Int) = (a.length : Int), (a.length : Int) * ((16 : Nat) : Int) ≤ 140737488355328 ∧ 0 < 16, ([vi 0, vi 0] : List V).length = 2] (.cons (by simp) (.cons (row_rep rfl) (.cons e1.1 (.cons rfl (.cons ⟨e1.2, by decide⟩ (.cons rfl .nil)))))) (laws_toPutS_b1_loop a _ _ x (fun s e => laws_toPutS_k2_ok r s (hb s e)) (fun v e => ⟨congrArg laws_toPutS_R (Option.some.inj (hr v e)).symm, congrArg laws_toPutS_O (Option.some.inj (hr v e)).symm⟩) (List.replicate (a.length : Int).toNat (TPut.mk 0 0), 0) hl) (by kernel_rfl))))
theorem laws_toPutS_ok (a : List TPut) (r : List TPut) (h : laws_toPutS a = some r) : ACalls cx.P 34 [vsl 2 ePut a] (laws_toPutS_R r) (laws_toPutS_O r) :=
  ACalls.of (cx := cx) (X := laws_toPutS_X) (c := laws_toPutS_c) Try.func34 (by kernel_rfl) (by kernel_rfl) (by kernel_rfl) (laws_toPutS_fin a r h)

/-! ### laws_toRun -/
noncomputable def laws_toRun_c : Code := bodyOf Try.f22
noncomputable def laws_toRun_X : Sig := { f := 22, fn := Try.f22, rms := [.val [some 2, some 2, none, none] []], oms := [none] }
noncomputable def laws_toRun_R (r : TRun) : V := .agg (eRun r)
noncomputable def laws_toRun_O (r : TRun) : List (Option V) := [none]
noncomputable def laws_toRun (a : TRun) : Option TRun :=
  ((laws_toReadS a.Reads).bind fun toReadS =>
 ((laws_toPutS a.Puts).bind fun toPutS =>
 some (TRun.mk toReadS toPutS a.Val a.Code)))
theorem laws_toRun_fin (a : TRun) (r : TRun) (h : laws_toRun a = some r) : Fin cx laws_toRun_X (laws_toRun_R r) (laws_toRun_O r) [.code laws_toRun_c] (startS laws_toRun_X [.agg (eRun a)]) :=
  (bindD h fun toReadS htoReadS h =>
 (bindD h fun toPutS htoPutS h =>
 (someD h fun e => (Fin.fin (cx := cx) (X := laws_toRun_X) (res := laws_toRun_R (TRun.mk toReadS toPutS a.Val a.Code)) (outs := laws_toRun_O (TRun.mk toReadS toPutS a.Val a.Code)) Try.func22 [[], [], [(2, { a := .call [.val [some 2] []] false (laws_toReadS_R toReadS) (laws_toReadS_O toReadS) })], [(2, { a := .call [.val [some 2] []] false (laws_toPutS_R toPutS) (laws_toPutS_O toPutS) })], [], [], []] [ACalls cx.P 33 [vsl 2 eRead a.Reads] (laws_toReadS_R toReadS) (laws_toReadS_O toReadS), ACalls cx.P 34 [vsl 2 ePut a.Puts] (laws_toPutS_R toPutS) (laws_toPutS_O toPutS)] (.cons (laws_toReadS_ok a.Reads toReadS htoReadS) (.cons (laws_toPutS_ok a.Puts toPutS htoPutS) .nil)) (by kernel_rfl)).is (congrArg laws_toRun_R e) (congrArg laws_toRun_O e))))
theorem laws_toRun_ok (a : TRun) (r : TRun) (h : laws_toRun a = some r) : ACalls cx.P 22 [.agg (eRun a)] (laws_toRun_R r) (laws_toRun_O r) :=
  ACalls.of (cx := cx) (X := laws_toRun_X) (c := laws_toRun_c) Try.func22 (by kernel_rfl) (by kernel_rfl) (by kernel_rfl) (laws_toRun_fin a r h)

/-! ### laws_toEntry -/
noncomputable def laws_toEntry_c : Code := bodyOf Try.f12
noncomputable def laws_toEntry_X : Sig := { f := 12, fn := Try.f12, rms := [.val [none, none, none, some 2, some 2, none, none] []], oms := [none] }
noncomputable def laws_toEntry_R (r : TEntry) : V := .agg (eEntry r)
noncomputable def laws_toEntry_O (r : TEntry) : List (Option V) := [none]
noncomputable def laws_toEntry (a : TEntry) : Option TEntry :=
  ((laws_toReq a.Req).bind fun toReq =>
 ((laws_toRun a.Run).bind fun toRun =>
 some (TEntry.mk a.None toReq toRun)))
theorem laws_toEntry_fin (a : TEntry) (r : TEntry) (h : laws_toEntry a = some r) : Fin cx laws_toEntry_X (laws_toEntry_R r) (laws_toEntry_O r) [.code laws_toEntry_c] (startS laws_toEntry_X [.agg (eEntry a)]) :=
  (bindD h fun toReq htoReq h =>
 (bindD h fun toRun htoRun h =>
 (someD h fun e => (Fin.fin (cx := cx) (X := laws_toEntry_X) (res := laws_toEntry_R (TEntry.mk a.None toReq toRun)) (outs := laws_toEntry_O (TEntry.mk a.None toReq toRun)) Try.func12 [[], [], [], [(2, { a := .call [.val [] []] false (laws_toReq_R toReq) (laws_toReq_O toReq) })], [(2, { a := .call [.val [some 2, some 2, none, none] []] false (laws_toRun_R toRun) (laws_toRun_O toRun) })], []] [ACalls cx.P 21 [.agg (eReq a.Req)] (laws_toReq_R toReq) (laws_toReq_O toReq), ACalls cx.P 22 [.agg (eRun a.Run)] (laws_toRun_R toRun) (laws_toRun_O toRun)] (.cons (laws_toReq_ok a.Req toReq htoReq) (.cons (laws_toRun_ok a.Run toRun htoRun) .nil)) (by kernel_rfl)).is (congrArg laws_toEntry_R e) (congrArg laws_toEntry_O e))))
theorem laws_toEntry_ok (a : TEntry) (r : TEntry) (h : laws_toEntry a = some r) : ACalls cx.P 12 [.agg (eEntry a)] (laws_toEntry_R r) (laws_toEntry_O r) :=
  ACalls.of (cx := cx) (X := laws_toEntry_X) (c := laws_toEntry_c) Try.func12 (by kernel_rfl) (by kernel_rfl) (by kernel_rfl) (laws_toEntry_fin a r h)

/-! ### laws_toEntryS -/
noncomputable def laws_toEntryS_c : Code := bodyOf Try.f6
noncomputable def laws_toEntryS_X : Sig := { f := 6, fn := Try.f6, rms := [.val [some 7] []], oms := [none] }
noncomputable def laws_toEntryS_R (r : List TEntry) : V := vsl 7 eEntry r
noncomputable def laws_toEntryS_O (r : List TEntry) : List (Option V) := [none]
noncomputable def laws_toEntryS_k1 : List Item := posI 2000 4 [false] [.code laws_toEntryS_c]
noncomputable def laws_toEntryS_S1 (out1 : List TEntry) : St := ⟨(bs 3 (.own 1 0 7 0 out1.length :: (bs 19 []))), [some [], some [erow 45 7 eEntry out1]]⟩
noncomputable def laws_toEntryS_k2 (out1 : List TEntry) : Option (List TEntry) :=
  some out1
theorem laws_toEntryS_k2_ok (r : List TEntry) (out1 : List TEntry) (h : laws_toEntryS_k2 out1 = some r) : Fin cx laws_toEntryS_X (laws_toEntryS_R r) (laws_toEntryS_O r) laws_toEntryS_k1 (laws_toEntryS_S1 out1) :=
  (someD h fun e => (Fin.fin (cx := cx) (X := laws_toEntryS_X) (res := laws_toEntryS_R out1) (outs := laws_toEntryS_O out1) Try.func6 [[]] [out1.length = out1.length] (.cons rfl .nil) (by kernel_rfl)).is (congrArg laws_toEntryS_R e) (congrArg laws_toEntryS_O e))
noncomputable def laws_toEntryS_k3 : List Item := posI 2000 3 [] [.code laws_toEntryS_c]
noncomputable def laws_toEntryS_S2 (a : List TEntry) (out : List TEntry) (i : Int) : St := ⟨(vsl 7 eEntry a :: (bs 2 (.own 1 0 7 0 out.length :: (vi i :: (bs 18 []))))), [some [], some [erow 45 7 eEntry out]]⟩
noncomputable def laws_toEntryS_b1 (a : List TEntry) (out : List TEntry) (i : Int) : Option (Stp (List TEntry) ((List TEntry) × Int) (List TEntry)) :=
  (bif decide (i < (a.length : Int)) then
 ((idx a i).bind fun entry =>
 ((laws_toEntry entry).bind fun toEntry =>
 ((idx out i).bind fun entry1 =>
 some (Stp.nxt (out.set i.toNat toEntry, w64 (i + 1))))))
 else
 some (Stp.brk out))
theorem laws_toEntryS_b1_ok (a : List TEntry) (res : V) (outs : List (Option V)) (x1 : Exc (List TEntry) (List TEntry)) (hb1 : ∀ s : List TEntry, x1 = .brk s → Fin cx laws_toEntryS_X res outs laws_toEntryS_k1 (laws_toEntryS_S1 s)) (hr1 : ∀ v : List TEntry, x1 = .ret v → (res = laws_toEntryS_R v ∧ outs = laws_toEntryS_O v)) (st1 : Stp (List TEntry) ((List TEntry) × Int) (List TEntry)) (hc1 : Cont x1 (fun s : (List TEntry) × Int => Fin cx laws_toEntryS_X res outs laws_toEntryS_k3 (laws_toEntryS_S2 a s.1 s.2)) st1) (out : List TEntry) (i : Int) (h : laws_toEntryS_b1 a out i = some st1) : Fin cx laws_toEntryS_X res outs laws_toEntryS_k3 (laws_toEntryS_S2 a out i) :=
  (condD h (fun e2 h =>
 (bindD h fun entry hentry h =>
 (bindD h fun toEntry htoEntry h =>
 (bindD h fun entry1 hentry1 h =>
 (nxtD h hc1 fun hI => (Fin.seg [[(3, { d := some true })], [(4, { a := .row (eEntry entry) }), (6, { a := .call [.val [none, none, none, some 2, some 2, none, none] []] false (laws_toEntry_R toEntry) (laws_toEntry_O toEntry) }), (8, { a := .rowck (eEntry entry1) [none, none, none, some 2, some 2, none, none], e := some (erow 45 7 eEntry (out.set i.toNat toEntry)) })], []] [.is (.tmp 3) (.own 1 0 7 0 (out.set i.toNat toEntry).length)] [0, 3, 4] [(1, 0)] [decide (i < (a.length : Int)) = true, (0 : Int) ≤ i, i < ((a.length : Nat) : Int), (a.map eEntry)[i.toNat]? = some (eEntry entry), ACalls cx.P 12 [.agg (eEntry entry)] (laws_toEntry_R toEntry) (laws_toEntry_O toEntry), (0 : Int) ≤ i, i < ((out.length : Nat) : Int), Ent.row 45 7 out.length ((out.map eEntry).set (0 + i.toNat) [.b toEntry.None, vi toEntry.Req.Who, vi toEntry.Req.Seq, vsl 2 eRead toEntry.Run.Reads, vsl 2 ePut toEntry.Run.Puts, vi toEntry.Run.Val, vi toEntry.Run.Code]) = erow 45 7 eEntry (out.set i.toNat toEntry), (out.map eEntry)[0 + i.toNat]? = some (eEntry entry1), (.own 1 0 7 0 out.length : V) = .own 1 0 7 0 (out.set i.toNat toEntry).length] (.cons e2 (.cons (idx0 hentry) (.cons (idx1 hentry) (.cons (map_idx hentry) (.cons (laws_toEntry_ok entry toEntry htoEntry) (.cons (idx0 hentry1) (.cons (idx1 hentry1) (.cons (row_set rfl) (.cons (map_idx0 hentry1) (.cons (by simp) .nil)))))))))) hI (by kernel_rfl))))))) (fun e2 h =>
 (brkD h hc1 fun e => (Fin.seg [[(3, { d := some false })]] [] [3] [(1, 0)] [decide (i < (a.length : Int)) = false] (.cons e2 .nil) (hb1 _ e) (by kernel_rfl)))))
theorem laws_toEntryS_b1_loop (a : List TEntry) (res : V) (outs : List (Option V)) (x1 : Exc (List TEntry) (List TEntry)) (hb1 : ∀ s : List TEntry, x1 = .brk s → Fin cx laws_toEntryS_X res outs laws_toEntryS_k1 (laws_toEntryS_S1 s)) (hr1 : ∀ v : List TEntry, x1 = .ret v → (res = laws_toEntryS_R v ∧ outs = laws_toEntryS_O v)) (s : (List TEntry) × Int) (h : loop (fun s : (List TEntry) × Int => laws_toEntryS_b1 a s.1 s.2) s = some x1) : Fin cx laws_toEntryS_X res outs laws_toEntryS_k3 (laws_toEntryS_S2 a s.1 s.2) :=
  loopD (I := fun s : (List TEntry) × Int => Fin cx laws_toEntryS_X res outs laws_toEntryS_k3 (laws_toEntryS_S2 a s.1 s.2)) h fun s st h hc => laws_toEntryS_b1_ok a res outs x1 hb1 hr1 st hc s.1 s.2 h
noncomputable def laws_toEntryS (a : List TEntry) : Option (List TEntry) :=
  (need (0 ≤ (a.length : Int) ∧ (a.length : Int) * 88 ≤ 140737488355328)
 (((loop (fun s : (List TEntry) × Int => laws_toEntryS_b1 a s.1 s.2) (List.replicate (a.length : Int).toNat (TEntry.mk false (TReq.mk 0 0) (TRun.mk [] [] 0 0)), 0)).bind fun x => x.go (fun r => some r) fun s => laws_toEntryS_k2 s)))
theorem laws_toEntryS_fin (a : List TEntry) (r : List TEntry) (h : laws_toEntryS a = some r) : Fin cx laws_toEntryS_X (laws_toEntryS_R r) (laws_toEntryS_O r) [.code laws_toEntryS_c] (startS laws_toEntryS_X [vsl 7 eEntry a]) :=
  (needD h fun e1 h =>
 (loopJ h fun x hl hr hb => (Fin.seg [[], [(2, { a := .ck [none, none, none, some 2, some 2, none, none], e := some (erow 45 7 eEntry (List.replicate (a.length : Int).toNat (TEntry.mk false (TReq.mk 0 0) (TRun.mk [] [] 0 0)))), v := some (.own 4 0 7 0 (List.replicate (a.length : Int).toNat (TEntry.mk false (TReq.mk 0 0) (TRun.mk [] [] 0 0))).length) })], []] [] [0, 3, 4] [(4, 0)] [V.own 4 0 7 0 (a.length : Int).toNat = .own 4 0 7 0 (List.replicate (a.length : Int).toNat (TEntry.mk false (TReq.mk 0 0) (TRun.mk [] [] 0 0))).length, Ent.row 45 7 (a.length : Int).toNat (List.replicate (a.length : Int).toNat [.b false, vi 0, vi 0, .sl 2 0 [], .sl 2 0 [], vi 0, vi 0]) = erow 45 7 eEntry (List.replicate (a.length : Int).toNat (TEntry.mk false (TReq.mk 0 0) (TRun.mk [] [] 0 0))), (0 : Int) ≤ (a.length : Int), (a.length : Int) = (a.length : Int), (a.length : Int) * ((88 : Nat) : Int) ≤ 140737488355328 ∧ 0 < 88, ([.b false, vi 0, vi 0, .nil, .nil, vi 0, vi 0] : List V).length = 7] (.cons (by simp) (.cons (row_rep rfl) (.cons e1.1 (.cons rfl (.cons ⟨e1.2, by decide⟩ (.cons rfl .nil)))))) (laws_toEntryS_b1_loop a _ _ x (fun s e => laws_toEntryS_k2_ok r s (hb s e)) (fun v e => ⟨congrArg laws_toEntryS_R (Option.some.inj (hr v e)).symm, congrArg laws_toEntryS_O (Option.some.inj (hr v e)).symm⟩) (List.replicate (a.length : Int).toNat (TEntry.mk false (TReq.mk 0 0) (TRun.mk [] [] 0 0)), 0) hl) (by kernel_rfl))))
theorem laws_toEntryS_ok (a : List TEntry) (r : List TEntry) (h : laws_toEntryS a = some r) : ACalls cx.P 6 [vsl 7 eEntry a] (laws_toEntryS_R r) (laws_toEntryS_O r) :=
  ACalls.of (cx := cx) (X := laws_toEntryS_X) (c := laws_toEntryS_c) Try.func6 (by kernel_rfl) (by kernel_rfl) (by kernel_rfl) (laws_toEntryS_fin a r h)

/-! ### spec_ExecSame -/
noncomputable def spec_ExecSame_c : Code := bodyOf Try.f30
noncomputable def spec_ExecSame_X : Sig := { f := 30, fn := Try.f30, rms := [.val [] []], oms := [none, none] }
noncomputable def spec_ExecSame_R (r : Bool) : V := .b r
noncomputable def spec_ExecSame_O (r : Bool) : List (Option V) := [none, none]
noncomputable def spec_ExecSame_k1 : List Item := posI 2000 4 [false, false] [.code spec_ExecSame_c]
noncomputable def spec_ExecSame_S1 (a : TRun) (b : TRun) : St := ⟨(bs 2 (.ptr 1 0 0 :: (.ptr 2 0 0 :: (bs 69 [])))), [some [], some [.var 43 [vsl 2 eRead a.Reads, vsl 2 ePut a.Puts, vi a.Val, vi a.Code]], some [.var 43 [vsl 2 eRead b.Reads, vsl 2 ePut b.Puts, vi b.Val, vi b.Code]]]⟩
noncomputable def spec_ExecSame_k2 : List Item := posI 2000 6 [false, false, false] [.code spec_ExecSame_c]
noncomputable def spec_ExecSame_S2 : St := ⟨(bs 73 []), [some []]⟩
noncomputable def spec_ExecSame_k3 : Option Bool :=
  some true
theorem spec_ExecSame_k3_ok (r : Bool) (h : spec_ExecSame_k3 = some r) : Fin cx spec_ExecSame_X (spec_ExecSame_R r) (spec_ExecSame_O r) spec_ExecSame_k2 (spec_ExecSame_S2) :=
  (someD h fun e => (Fin.fin (cx := cx) (X := spec_ExecSame_X) (res := spec_ExecSame_R true) (outs := spec_ExecSame_O true) Try.func30 [[]] [] .nil (by kernel_rfl)).is (congrArg spec_ExecSame_R e) (congrArg spec_ExecSame_O e))
noncomputable def spec_ExecSame_k4 : List Item := posI 2000 5 [false, false] [.code spec_ExecSame_c]
noncomputable def spec_ExecSame_S3 (a : TRun) (b : TRun) (i1 : Int) : St := ⟨(bs 2 (.ptr 1 0 0 :: (.ptr 2 0 0 :: (bs 2 (vi i1 :: (bs 66 [])))))), [some [], some [.var 43 [vsl 2 eRead a.Reads, vsl 2 ePut a.Puts, vi a.Val, vi a.Code]], some [.var 43 [vsl 2 eRead b.Reads, vsl 2 ePut b.Puts, vi b.Val, vi b.Code]]]⟩
noncomputable def spec_ExecSame_b1 (a : TRun) (b : TRun) (i1 : Int) : Option (Stp Bool Int Unit) :=
  (bif decide (i1 < (a.Puts.length : Int)) then
 ((idx a.Puts i1).bind fun put =>
 ((idx b.Puts i1).bind fun put1 =>
 (bif (!(([put.Box, put.Val] : List Int) == [put1.Box, put1.Val])) then
 some (Stp.ret false)
 else
 some (Stp.nxt (w64 (i1 + 1))))))
 else
 some (Stp.brk ()))
theorem spec_ExecSame_b1_ok (a : TRun) (b : TRun) (res : V) (outs : List (Option V)) (x1 : Exc Bool Unit) (hb1 : ∀ s : Unit, x1 = .brk s → Fin cx spec_ExecSame_X res outs spec_ExecSame_k2 (spec_ExecSame_S2)) (hr1 : ∀ v : Bool, x1 = .ret v → (res = spec_ExecSame_R v ∧ outs = spec_ExecSame_O v)) (st1 : Stp Bool Int Unit) (hc1 : Cont x1 (fun s : Int => Fin cx spec_ExecSame_X res outs spec_ExecSame_k4 (spec_ExecSame_S3 a b s)) st1) (i1 : Int) (h : spec_ExecSame_b1 a b i1 = some st1) : Fin cx spec_ExecSame_X res outs spec_ExecSame_k4 (spec_ExecSame_S3 a b i1) :=
  (condD h (fun e5 h =>
 (bindD h fun put hput h =>
 (bindD h fun put1 hput1 h =>
 (condD h (fun e6 h =>
 (retD h hc1 fun e => (Fin.fin (cx := cx) (X := spec_ExecSame_X) (res := spec_ExecSame_R false) (outs := spec_ExecSame_O false) Try.func30 [[(4, { d := some true })], [(3, { a := .row (ePut put) }), (8, { a := .row (ePut put1) }), (10, { d := some true })], []] [decide (i1 < (a.Puts.length : Int)) = true, (0 : Int) ≤ i1, i1 < ((a.Puts.length : Nat) : Int), (a.Puts.map ePut)[i1.toNat]? = some (ePut put), (0 : Int) ≤ i1, i1 < ((b.Puts.length : Nat) : Int), (b.Puts.map ePut)[i1.toNat]? = some (ePut put1), (!(([put.Box, put.Val] : List Int) == [put1.Box, put1.Val])) = true] (.cons e5 (.cons (idx0 hput) (.cons (idx1 hput) (.cons (map_idx hput) (.cons (idx0 hput1) (.cons (idx1 hput1) (.cons (map_idx hput1) (.cons e6 .nil)))))))) (by kernel_rfl)).is (hr1 _ e).1 (hr1 _ e).2)) (fun e6 h =>
 (nxtD h hc1 fun hI => (Fin.seg [[(4, { d := some true })], [(3, { a := .row (ePut put) }), (8, { a := .row (ePut put1) }), (10, { d := some false })], []] [] [2, 3, 6] [(1, 0), (2, 0)] [decide (i1 < (a.Puts.length : Int)) = true, (0 : Int) ≤ i1, i1 < ((a.Puts.length : Nat) : Int), (a.Puts.map ePut)[i1.toNat]? = some (ePut put), (0 : Int) ≤ i1, i1 < ((b.Puts.length : Nat) : Int), (b.Puts.map ePut)[i1.toNat]? = some (ePut put1), (!(([put.Box, put.Val] : List Int) == [put1.Box, put1.Val])) = false] (.cons e5 (.cons (idx0 hput) (.cons (idx1 hput) (.cons (map_idx hput) (.cons (idx0 hput1) (.cons (idx1 hput1) (.cons (map_idx hput1) (.cons e6 .nil)))))))) hI (by kernel_rfl)))))))) (fun e5 h =>
 (brkD h hc1 fun e => (Fin.seg [[(4, { d := some false })]] [] [] [] [decide (i1 < (a.Puts.length : Int)) = false] (.cons e5 .nil) (hb1 _ e) (by kernel_rfl)))))
theorem spec_ExecSame_b1_loop (a : TRun) (b : TRun) (res : V) (outs : List (Option V)) (x1 : Exc Bool Unit) (hb1 : ∀ s : Unit, x1 = .brk s → Fin cx spec_ExecSame_X res outs spec_ExecSame_k2 (spec_ExecSame_S2)) (hr1 : ∀ v : Bool, x1 = .ret v → (res = spec_ExecSame_R v ∧ outs = spec_ExecSame_O v)) (s : Int) (h : loop (fun s : Int => spec_ExecSame_b1 a b s) s = some x1) : Fin cx spec_ExecSame_X res outs spec_ExecSame_k4 (spec_ExecSame_S3 a b s) :=
  loopD (I := fun s : Int => Fin cx spec_ExecSame_X res outs spec_ExecSame_k4 (spec_ExecSame_S3 a b s)) h fun s st h hc => spec_ExecSame_b1_ok a b res outs x1 hb1 hr1 st hc s h
noncomputable def spec_ExecSame_k5 (a : TRun) (b : TRun) : Option Bool :=
  ((loop (fun s : Int => spec_ExecSame_b1 a b s) 0).bind fun x => x.go (fun r => some r) fun s => spec_ExecSame_k3)
theorem spec_ExecSame_k5_ok (a : TRun) (b : TRun) (r : Bool) (h : spec_ExecSame_k5 a b = some r) : Fin cx spec_ExecSame_X (spec_ExecSame_R r) (spec_ExecSame_O r) spec_ExecSame_k1 (spec_ExecSame_S1 a b) :=
  (loopJ h fun x hl hr hb => (Fin.seg [[]] [] [2, 3, 6] [(1, 0), (2, 0)] [] .nil (spec_ExecSame_b1_loop a b _ _ x (fun s e => spec_ExecSame_k3_ok r (hb s e)) (fun v e => ⟨congrArg spec_ExecSame_R (Option.some.inj (hr v e)).symm, congrArg spec_ExecSame_O (Option.some.inj (hr v e)).symm⟩) 0 hl) (by kernel_rfl)))
noncomputable def spec_ExecSame_k6 : List Item := posI 2000 3 [false] [.code spec_ExecSame_c]
noncomputable def spec_ExecSame_S4 (a : TRun) (b : TRun) (i : Int) : St := ⟨(bs 2 (.ptr 1 0 0 :: (.ptr 2 0 0 :: (bs 1 (vi i :: (bs 67 [])))))), [some [], some [.var 43 [vsl 2 eRead a.Reads, vsl 2 ePut a.Puts, vi a.Val, vi a.Code]], some [.var 43 [vsl 2 eRead b.Reads, vsl 2 ePut b.Puts, vi b.Val, vi b.Code]]]⟩
noncomputable def spec_ExecSame_b2 (a : TRun) (b : TRun) (i : Int) : Option (Stp Bool Int Unit) :=
  (bif decide (i < (a.Reads.length : Int)) then
 ((idx a.Reads i).bind fun read =>
 ((idx b.Reads i).bind fun read1 =>
 (bif (!(([read.Box, read.Ver] : List Int) == [read1.Box, read1.Ver])) then
 some (Stp.ret false)
 else
 some (Stp.nxt (w64 (i + 1))))))
 else
 some (Stp.brk ()))
theorem spec_ExecSame_b2_ok (a : TRun) (b : TRun) (res : V) (outs : List (Option V)) (x1 : Exc Bool Unit) (hb1 : ∀ s : Unit, x1 = .brk s → Fin cx spec_ExecSame_X res outs spec_ExecSame_k1 (spec_ExecSame_S1 a b)) (hr1 : ∀ v : Bool, x1 = .ret v → (res = spec_ExecSame_R v ∧ outs = spec_ExecSame_O v)) (st1 : Stp Bool Int Unit) (hc1 : Cont x1 (fun s : Int => Fin cx spec_ExecSame_X res outs spec_ExecSame_k6 (spec_ExecSame_S4 a b s)) st1) (i : Int) (h : spec_ExecSame_b2 a b i = some st1) : Fin cx spec_ExecSame_X res outs spec_ExecSame_k6 (spec_ExecSame_S4 a b i) :=
  (condD h (fun e7 h =>
 (bindD h fun read hread h =>
 (bindD h fun read1 hread1 h =>
 (condD h (fun e8 h =>
 (retD h hc1 fun e => (Fin.fin (cx := cx) (X := spec_ExecSame_X) (res := spec_ExecSame_R false) (outs := spec_ExecSame_O false) Try.func30 [[(4, { d := some true })], [(3, { a := .row (eRead read) }), (8, { a := .row (eRead read1) }), (10, { d := some true })], []] [decide (i < (a.Reads.length : Int)) = true, (0 : Int) ≤ i, i < ((a.Reads.length : Nat) : Int), (a.Reads.map eRead)[i.toNat]? = some (eRead read), (0 : Int) ≤ i, i < ((b.Reads.length : Nat) : Int), (b.Reads.map eRead)[i.toNat]? = some (eRead read1), (!(([read.Box, read.Ver] : List Int) == [read1.Box, read1.Ver])) = true] (.cons e7 (.cons (idx0 hread) (.cons (idx1 hread) (.cons (map_idx hread) (.cons (idx0 hread1) (.cons (idx1 hread1) (.cons (map_idx hread1) (.cons e8 .nil)))))))) (by kernel_rfl)).is (hr1 _ e).1 (hr1 _ e).2)) (fun e8 h =>
 (nxtD h hc1 fun hI => (Fin.seg [[(4, { d := some true })], [(3, { a := .row (eRead read) }), (8, { a := .row (eRead read1) }), (10, { d := some false })], []] [] [2, 3, 5] [(1, 0), (2, 0)] [decide (i < (a.Reads.length : Int)) = true, (0 : Int) ≤ i, i < ((a.Reads.length : Nat) : Int), (a.Reads.map eRead)[i.toNat]? = some (eRead read), (0 : Int) ≤ i, i < ((b.Reads.length : Nat) : Int), (b.Reads.map eRead)[i.toNat]? = some (eRead read1), (!(([read.Box, read.Ver] : List Int) == [read1.Box, read1.Ver])) = false] (.cons e7 (.cons (idx0 hread) (.cons (idx1 hread) (.cons (map_idx hread) (.cons (idx0 hread1) (.cons (idx1 hread1) (.cons (map_idx hread1) (.cons e8 .nil)))))))) hI (by kernel_rfl)))))))) (fun e7 h =>
 (brkD h hc1 fun e => (Fin.seg [[(4, { d := some false })]] [] [2, 3] [(1, 0), (2, 0)] [decide (i < (a.Reads.length : Int)) = false] (.cons e7 .nil) (hb1 _ e) (by kernel_rfl)))))
theorem spec_ExecSame_b2_loop (a : TRun) (b : TRun) (res : V) (outs : List (Option V)) (x1 : Exc Bool Unit) (hb1 : ∀ s : Unit, x1 = .brk s → Fin cx spec_ExecSame_X res outs spec_ExecSame_k1 (spec_ExecSame_S1 a b)) (hr1 : ∀ v : Bool, x1 = .ret v → (res = spec_ExecSame_R v ∧ outs = spec_ExecSame_O v)) (s : Int) (h : loop (fun s : Int => spec_ExecSame_b2 a b s) s = some x1) : Fin cx spec_ExecSame_X res outs spec_ExecSame_k6 (spec_ExecSame_S4 a b s) :=
  loopD (I := fun s : Int => Fin cx spec_ExecSame_X res outs spec_ExecSame_k6 (spec_ExecSame_S4 a b s)) h fun s st h hc => spec_ExecSame_b2_ok a b res outs x1 hb1 hr1 st hc s h
noncomputable def spec_ExecSame (a : TRun) (b : TRun) : Option Bool :=
  (bif (a.Val != b.Val) then
 some false
 else
 (bif (a.Code != b.Code) then
 some false
 else
 (bif ((a.Reads.length : Int) != (b.Reads.length : Int)) then
 some false
 else
 (bif ((a.Puts.length : Int) != (b.Puts.length : Int)) then
 some false
 else
 ((loop (fun s : Int => spec_ExecSame_b2 a b s) 0).bind fun x => x.go (fun r => some r) fun s => spec_ExecSame_k5 a b)))))
theorem spec_ExecSame_fin (a : TRun) (b : TRun) (r : Bool) (h : spec_ExecSame a b = some r) : Fin cx spec_ExecSame_X (spec_ExecSame_R r) (spec_ExecSame_O r) [.code spec_ExecSame_c] (startS spec_ExecSame_X [.agg (eRun a), .agg (eRun b)]) :=
  (condD h (fun e1 h =>
 (someD h fun e => (Fin.fin (cx := cx) (X := spec_ExecSame_X) (res := spec_ExecSame_R false) (outs := spec_ExecSame_O false) Try.func30 [[], [(5, { d := some true })], []] [(a.Val != b.Val) = true] (.cons e1 .nil) (by kernel_rfl)).is (congrArg spec_ExecSame_R e) (congrArg spec_ExecSame_O e))) (fun e1 h =>
 (condD h (fun e2 h =>
 (someD h fun e => (Fin.fin (cx := cx) (X := spec_ExecSame_X) (res := spec_ExecSame_R false) (outs := spec_ExecSame_O false) Try.func30 [[], [(5, { d := some false }), (12, { d := some true })], []] [(a.Val != b.Val) = false, (a.Code != b.Code) = true] (.cons e1 (.cons e2 .nil)) (by kernel_rfl)).is (congrArg spec_ExecSame_R e) (congrArg spec_ExecSame_O e))) (fun e2 h =>
 (condD h (fun e3 h =>
 (someD h fun e => (Fin.fin (cx := cx) (X := spec_ExecSame_X) (res := spec_ExecSame_R false) (outs := spec_ExecSame_O false) Try.func30 [[], [(5, { d := some false }), (12, { d := some false }), (21, { d := some true })], []] [(a.Val != b.Val) = false, (a.Code != b.Code) = false, ((a.Reads.length : Int) != (b.Reads.length : Int)) = true] (.cons e1 (.cons e2 (.cons e3 .nil))) (by kernel_rfl)).is (congrArg spec_ExecSame_R e) (congrArg spec_ExecSame_O e))) (fun e3 h =>
 (condD h (fun e4 h =>
 (someD h fun e => (Fin.fin (cx := cx) (X := spec_ExecSame_X) (res := spec_ExecSame_R false) (outs := spec_ExecSame_O false) Try.func30 [[], [(5, { d := some false }), (12, { d := some false }), (21, { d := some false }), (29, { d := some true })], []] [(a.Val != b.Val) = false, (a.Code != b.Code) = false, ((a.Reads.length : Int) != (b.Reads.length : Int)) = false, ((a.Puts.length : Int) != (b.Puts.length : Int)) = true] (.cons e1 (.cons e2 (.cons e3 (.cons e4 .nil)))) (by kernel_rfl)).is (congrArg spec_ExecSame_R e) (congrArg spec_ExecSame_O e))) (fun e4 h =>
 (loopJ h fun x hl hr hb => (Fin.seg [[], [(5, { d := some false }), (12, { d := some false }), (21, { d := some false }), (29, { d := some false })], []] [] [2, 3, 5] [(1, 0), (2, 0)] [(a.Val != b.Val) = false, (a.Code != b.Code) = false, ((a.Reads.length : Int) != (b.Reads.length : Int)) = false, ((a.Puts.length : Int) != (b.Puts.length : Int)) = false] (.cons e1 (.cons e2 (.cons e3 (.cons e4 .nil)))) (spec_ExecSame_b2_loop a b _ _ x (fun s e => spec_ExecSame_k5_ok a b r (hb s e)) (fun v e => ⟨congrArg spec_ExecSame_R (Option.some.inj (hr v e)).symm, congrArg spec_ExecSame_O (Option.some.inj (hr v e)).symm⟩) 0 hl) (by kernel_rfl)))))))))))
theorem spec_ExecSame_ok (a : TRun) (b : TRun) (r : Bool) (h : spec_ExecSame a b = some r) : ACalls cx.P 30 [.agg (eRun a), .agg (eRun b)] (spec_ExecSame_R r) (spec_ExecSame_O r) :=
  ACalls.of (cx := cx) (X := spec_ExecSame_X) (c := spec_ExecSame_c) Try.func30 (by kernel_rfl) (by kernel_rfl) (by kernel_rfl) (spec_ExecSame_fin a b r h)

/-! ### spec_l5Req -/
noncomputable def spec_l5Req_c : Code := bodyOf Try.f31
noncomputable def spec_l5Req_X : Sig := { f := 31, fn := Try.f31, rms := [.val [] []], oms := [none] }
noncomputable def spec_l5Req_R (r : Bool) : V := .b r
noncomputable def spec_l5Req_O (r : Bool) : List (Option V) := [none]
noncomputable def spec_l5Req (q : TReq) : Option Bool :=
  (bif decide (q.Who ≥ 0) then
 (bif decide (q.Who < 3) then
 (bif decide (q.Seq ≥ 1) then
 some (decide (q.Seq ≤ 1000))
 else
 some false)
 else
 some false)
 else
 some false)
theorem spec_l5Req_fin (q : TReq) (r : Bool) (h : spec_l5Req q = some r) : Fin cx spec_l5Req_X (spec_l5Req_R r) (spec_l5Req_O r) [.code spec_l5Req_c] (startS spec_l5Req_X [.agg (eReq q)]) :=
  (condD h (fun e1 h =>
 (condD h (fun e2 h =>
 (condD h (fun e3 h =>
 (someD h fun e => (Fin.fin (cx := cx) (X := spec_l5Req_X) (res := spec_l5Req_R (decide (q.Seq ≤ 1000))) (outs := spec_l5Req_O (decide (q.Seq ≤ 1000))) Try.func31 [[], [(3, { d := some true }), (8, { d := some true }), (13, { d := some true })]] [decide (q.Who ≥ 0) = true, decide (q.Who < 3) = true, decide (q.Seq ≥ 1) = true] (.cons e1 (.cons e2 (.cons e3 .nil))) (by kernel_rfl)).is (congrArg spec_l5Req_R e) (congrArg spec_l5Req_O e))) (fun e3 h =>
 (someD h fun e => (Fin.fin (cx := cx) (X := spec_l5Req_X) (res := spec_l5Req_R false) (outs := spec_l5Req_O false) Try.func31 [[], [(3, { d := some true }), (8, { d := some true }), (13, { d := some false })]] [decide (q.Who ≥ 0) = true, decide (q.Who < 3) = true, decide (q.Seq ≥ 1) = false] (.cons e1 (.cons e2 (.cons e3 .nil))) (by kernel_rfl)).is (congrArg spec_l5Req_R e) (congrArg spec_l5Req_O e))))) (fun e2 h =>
 (someD h fun e => (Fin.fin (cx := cx) (X := spec_l5Req_X) (res := spec_l5Req_R false) (outs := spec_l5Req_O false) Try.func31 [[], [(3, { d := some true }), (8, { d := some false })]] [decide (q.Who ≥ 0) = true, decide (q.Who < 3) = false] (.cons e1 (.cons e2 .nil)) (by kernel_rfl)).is (congrArg spec_l5Req_R e) (congrArg spec_l5Req_O e))))) (fun e1 h =>
 (someD h fun e => (Fin.fin (cx := cx) (X := spec_l5Req_X) (res := spec_l5Req_R false) (outs := spec_l5Req_O false) Try.func31 [[], [(3, { d := some false })]] [decide (q.Who ≥ 0) = false] (.cons e1 .nil) (by kernel_rfl)).is (congrArg spec_l5Req_R e) (congrArg spec_l5Req_O e))))
theorem spec_l5Req_ok (q : TReq) (r : Bool) (h : spec_l5Req q = some r) : ACalls cx.P 31 [.agg (eReq q)] (spec_l5Req_R r) (spec_l5Req_O r) :=
  ACalls.of (cx := cx) (X := spec_l5Req_X) (c := spec_l5Req_c) Try.func31 (by kernel_rfl) (by kernel_rfl) (by kernel_rfl) (spec_l5Req_fin q r h)


end Go.Proofs.Ytidcofmgigokcaa
