/- Functions of the program, and that their calls come to this. -/
import Derived.Test.YtoghkllkjjpgkaaTy
set_option linter.unusedVariables false
set_option linter.unusedSimpArgs false
namespace Go.Proofs.Ytoghkllkjjpgkaa
open Go

/-! ### laws_szReadS -/
noncomputable def laws_szReadS_c : Code := bodyOf Try.f29
noncomputable def laws_szReadS_X : Sig := { f := 29, fn := Try.f29, rms := [.val [] []], oms := [none, none] }
noncomputable def laws_szReadS_R (r : Int) : V := vi r
noncomputable def laws_szReadS_O (r : Int) : List (Option V) := [none, none]
noncomputable def laws_szReadS (a : List TRead) (left : Int) : Option Int :=
  (bif decide ((w64 (left - (a.length : Int))) < 0) then
 some (-1)
 else
 some (w64 (left - (a.length : Int))))
theorem laws_szReadS_fin (a : List TRead) (left : Int) (r : Int) (h : laws_szReadS a left = some r) : Fin cx laws_szReadS_X (laws_szReadS_R r) (laws_szReadS_O r) [.code laws_szReadS_c] (startS laws_szReadS_X [vsl 2 eRead a, vi left]) :=
  (condD h (fun e1 h =>
 (someD h fun e => (Fin.fin (cx := cx) (X := laws_szReadS_X) (res := laws_szReadS_R (-1)) (outs := laws_szReadS_O (-1)) Try.func29 [[], [], [(1, { d := some true })], []] [decide ((w64 (left - (a.length : Int))) < 0) = true] (.cons e1 .nil) (by kernel_rfl)).is (congrArg laws_szReadS_R e) (congrArg laws_szReadS_O e))) (fun e1 h =>
 (someD h fun e => (Fin.fin (cx := cx) (X := laws_szReadS_X) (res := laws_szReadS_R (w64 (left - (a.length : Int)))) (outs := laws_szReadS_O (w64 (left - (a.length : Int)))) Try.func29 [[], [], [(1, { d := some false })], []] [decide ((w64 (left - (a.length : Int))) < 0) = false] (.cons e1 .nil) (by kernel_rfl)).is (congrArg laws_szReadS_R e) (congrArg laws_szReadS_O e))))
theorem laws_szReadS_ok (a : List TRead) (left : Int) (r : Int) (h : laws_szReadS a left = some r) : ACalls cx.P 29 [vsl 2 eRead a, vi left] (laws_szReadS_R r) (laws_szReadS_O r) :=
  ACalls.of (cx := cx) (X := laws_szReadS_X) (c := laws_szReadS_c) Try.func29 (by kernel_rfl) (by kernel_rfl) (by kernel_rfl) (laws_szReadS_fin a left r h)

/-! ### laws_szPutS -/
noncomputable def laws_szPutS_c : Code := bodyOf Try.f30
noncomputable def laws_szPutS_X : Sig := { f := 30, fn := Try.f30, rms := [.val [] []], oms := [none, none] }
noncomputable def laws_szPutS_R (r : Int) : V := vi r
noncomputable def laws_szPutS_O (r : Int) : List (Option V) := [none, none]
noncomputable def laws_szPutS (a : List TPut) (left : Int) : Option Int :=
  (bif decide ((w64 (left - (a.length : Int))) < 0) then
 some (-1)
 else
 some (w64 (left - (a.length : Int))))
theorem laws_szPutS_fin (a : List TPut) (left : Int) (r : Int) (h : laws_szPutS a left = some r) : Fin cx laws_szPutS_X (laws_szPutS_R r) (laws_szPutS_O r) [.code laws_szPutS_c] (startS laws_szPutS_X [vsl 2 ePut a, vi left]) :=
  (condD h (fun e1 h =>
 (someD h fun e => (Fin.fin (cx := cx) (X := laws_szPutS_X) (res := laws_szPutS_R (-1)) (outs := laws_szPutS_O (-1)) Try.func30 [[], [], [(1, { d := some true })], []] [decide ((w64 (left - (a.length : Int))) < 0) = true] (.cons e1 .nil) (by kernel_rfl)).is (congrArg laws_szPutS_R e) (congrArg laws_szPutS_O e))) (fun e1 h =>
 (someD h fun e => (Fin.fin (cx := cx) (X := laws_szPutS_X) (res := laws_szPutS_R (w64 (left - (a.length : Int)))) (outs := laws_szPutS_O (w64 (left - (a.length : Int)))) Try.func30 [[], [], [(1, { d := some false })], []] [decide ((w64 (left - (a.length : Int))) < 0) = false] (.cons e1 .nil) (by kernel_rfl)).is (congrArg laws_szPutS_R e) (congrArg laws_szPutS_O e))))
theorem laws_szPutS_ok (a : List TPut) (left : Int) (r : Int) (h : laws_szPutS a left = some r) : ACalls cx.P 30 [vsl 2 ePut a, vi left] (laws_szPutS_R r) (laws_szPutS_O r) :=
  ACalls.of (cx := cx) (X := laws_szPutS_X) (c := laws_szPutS_c) Try.func30 (by kernel_rfl) (by kernel_rfl) (by kernel_rfl) (laws_szPutS_fin a left r h)

/-! ### laws_szRun -/
noncomputable def laws_szRun_c : Code := bodyOf Try.f18
noncomputable def laws_szRun_X : Sig := { f := 18, fn := Try.f18, rms := [.val [] []], oms := [none, none] }
noncomputable def laws_szRun_R (r : Int) : V := vi r
noncomputable def laws_szRun_O (r : Int) : List (Option V) := [none, none]
noncomputable def laws_szRun (a : TRun) (left : Int) : Option Int :=
  ((laws_szReadS a.Reads left).bind fun szReadS =>
 (bif decide (szReadS < 0) then
 some (-1)
 else
 ((laws_szPutS a.Puts szReadS).bind fun szPutS =>
 (bif decide (szPutS < 0) then
 some (-1)
 else
 some szPutS))))
theorem laws_szRun_fin (a : TRun) (left : Int) (r : Int) (h : laws_szRun a left = some r) : Fin cx laws_szRun_X (laws_szRun_R r) (laws_szRun_O r) [.code laws_szRun_c] (startS laws_szRun_X [.agg (eRun a), vi left]) :=
  (bindD h fun szReadS hszReadS h =>
 (condD h (fun e1 h =>
 (someD h fun e => (Fin.fin (cx := cx) (X := laws_szRun_X) (res := laws_szRun_R (-1)) (outs := laws_szRun_O (-1)) Try.func18 [[], [(3, { a := .call [.val [some 2] [], .val [] []] false (laws_szReadS_R szReadS) (laws_szReadS_O szReadS) })], [(1, { d := some true })], []] [ACalls cx.P 29 [vsl 2 eRead a.Reads, vi left] (laws_szReadS_R szReadS) (laws_szReadS_O szReadS), decide (szReadS < 0) = true] (.cons (laws_szReadS_ok a.Reads left szReadS hszReadS) (.cons e1 .nil)) (by kernel_rfl)).is (congrArg laws_szRun_R e) (congrArg laws_szRun_O e))) (fun e1 h =>
 (bindD h fun szPutS hszPutS h =>
 (condD h (fun e2 h =>
 (someD h fun e => (Fin.fin (cx := cx) (X := laws_szRun_X) (res := laws_szRun_R (-1)) (outs := laws_szRun_O (-1)) Try.func18 [[], [(3, { a := .call [.val [some 2] [], .val [] []] false (laws_szReadS_R szReadS) (laws_szReadS_O szReadS) })], [(1, { d := some false })], [(3, { a := .call [.val [some 2] [], .val [] []] false (laws_szPutS_R szPutS) (laws_szPutS_O szPutS) })], [(1, { d := some true })], []] [ACalls cx.P 29 [vsl 2 eRead a.Reads, vi left] (laws_szReadS_R szReadS) (laws_szReadS_O szReadS), decide (szReadS < 0) = false, ACalls cx.P 30 [vsl 2 ePut a.Puts, vi szReadS] (laws_szPutS_R szPutS) (laws_szPutS_O szPutS), decide (szPutS < 0) = true] (.cons (laws_szReadS_ok a.Reads left szReadS hszReadS) (.cons e1 (.cons (laws_szPutS_ok a.Puts szReadS szPutS hszPutS) (.cons e2 .nil)))) (by kernel_rfl)).is (congrArg laws_szRun_R e) (congrArg laws_szRun_O e))) (fun e2 h =>
 (someD h fun e => (Fin.fin (cx := cx) (X := laws_szRun_X) (res := laws_szRun_R szPutS) (outs := laws_szRun_O szPutS) Try.func18 [[], [(3, { a := .call [.val [some 2] [], .val [] []] false (laws_szReadS_R szReadS) (laws_szReadS_O szReadS) })], [(1, { d := some false })], [(3, { a := .call [.val [some 2] [], .val [] []] false (laws_szPutS_R szPutS) (laws_szPutS_O szPutS) })], [(1, { d := some false })], []] [ACalls cx.P 29 [vsl 2 eRead a.Reads, vi left] (laws_szReadS_R szReadS) (laws_szReadS_O szReadS), decide (szReadS < 0) = false, ACalls cx.P 30 [vsl 2 ePut a.Puts, vi szReadS] (laws_szPutS_R szPutS) (laws_szPutS_O szPutS), decide (szPutS < 0) = false] (.cons (laws_szReadS_ok a.Reads left szReadS hszReadS) (.cons e1 (.cons (laws_szPutS_ok a.Puts szReadS szPutS hszPutS) (.cons e2 .nil)))) (by kernel_rfl)).is (congrArg laws_szRun_R e) (congrArg laws_szRun_O e))))))))
theorem laws_szRun_ok (a : TRun) (left : Int) (r : Int) (h : laws_szRun a left = some r) : ACalls cx.P 18 [.agg (eRun a), vi left] (laws_szRun_R r) (laws_szRun_O r) :=
  ACalls.of (cx := cx) (X := laws_szRun_X) (c := laws_szRun_c) Try.func18 (by kernel_rfl) (by kernel_rfl) (by kernel_rfl) (laws_szRun_fin a left r h)

/-! ### laws_szEntry -/
noncomputable def laws_szEntry_c : Code := bodyOf Try.f9
noncomputable def laws_szEntry_X : Sig := { f := 9, fn := Try.f9, rms := [.val [] []], oms := [none, none] }
noncomputable def laws_szEntry_R (r : Int) : V := vi r
noncomputable def laws_szEntry_O (r : Int) : List (Option V) := [none, none]
noncomputable def laws_szEntry (a : TEntry) (left : Int) : Option Int :=
  ((laws_szRun a.Run left).bind fun szRun =>
 (bif decide (szRun < 0) then
 some (-1)
 else
 some szRun))
theorem laws_szEntry_fin (a : TEntry) (left : Int) (r : Int) (h : laws_szEntry a left = some r) : Fin cx laws_szEntry_X (laws_szEntry_R r) (laws_szEntry_O r) [.code laws_szEntry_c] (startS laws_szEntry_X [.agg (eEntry a), vi left]) :=
  (bindD h fun szRun hszRun h =>
 (condD h (fun e1 h =>
 (someD h fun e => (Fin.fin (cx := cx) (X := laws_szEntry_X) (res := laws_szEntry_R (-1)) (outs := laws_szEntry_O (-1)) Try.func9 [[], [(3, { a := .call [.val [some 2, some 2, none, none] [], .val [] []] false (laws_szRun_R szRun) (laws_szRun_O szRun) })], [(1, { d := some true })], []] [ACalls cx.P 18 [.agg (eRun a.Run), vi left] (laws_szRun_R szRun) (laws_szRun_O szRun), decide (szRun < 0) = true] (.cons (laws_szRun_ok a.Run left szRun hszRun) (.cons e1 .nil)) (by kernel_rfl)).is (congrArg laws_szEntry_R e) (congrArg laws_szEntry_O e))) (fun e1 h =>
 (someD h fun e => (Fin.fin (cx := cx) (X := laws_szEntry_X) (res := laws_szEntry_R szRun) (outs := laws_szEntry_O szRun) Try.func9 [[], [(3, { a := .call [.val [some 2, some 2, none, none] [], .val [] []] false (laws_szRun_R szRun) (laws_szRun_O szRun) })], [(1, { d := some false })], []] [ACalls cx.P 18 [.agg (eRun a.Run), vi left] (laws_szRun_R szRun) (laws_szRun_O szRun), decide (szRun < 0) = false] (.cons (laws_szRun_ok a.Run left szRun hszRun) (.cons e1 .nil)) (by kernel_rfl)).is (congrArg laws_szEntry_R e) (congrArg laws_szEntry_O e)))))
theorem laws_szEntry_ok (a : TEntry) (left : Int) (r : Int) (h : laws_szEntry a left = some r) : ACalls cx.P 9 [.agg (eEntry a), vi left] (laws_szEntry_R r) (laws_szEntry_O r) :=
  ACalls.of (cx := cx) (X := laws_szEntry_X) (c := laws_szEntry_c) Try.func9 (by kernel_rfl) (by kernel_rfl) (by kernel_rfl) (laws_szEntry_fin a left r h)

/-! ### laws_szEntryS -/
noncomputable def laws_szEntryS_c : Code := bodyOf Try.f4
noncomputable def laws_szEntryS_X : Sig := { f := 4, fn := Try.f4, rms := [.val [] []], oms := [none, none] }
noncomputable def laws_szEntryS_R (r : Int) : V := vi r
noncomputable def laws_szEntryS_O (r : Int) : List (Option V) := [none, none]
noncomputable def laws_szEntryS_k1 : List Item := posI 2000 5 [false, false] [.code laws_szEntryS_c]
noncomputable def laws_szEntryS_S1 (left2 : Int) : St := ⟨(bs 1 (vi left2 :: (bs 25 []))), [some []]⟩
noncomputable def laws_szEntryS_k2 (left2 : Int) : Option Int :=
  some left2
theorem laws_szEntryS_k2_ok (r : Int) (left2 : Int) (h : laws_szEntryS_k2 left2 = some r) : Fin cx laws_szEntryS_X (laws_szEntryS_R r) (laws_szEntryS_O r) laws_szEntryS_k1 (laws_szEntryS_S1 left2) :=
  (someD h fun e => (Fin.fin (cx := cx) (X := laws_szEntryS_X) (res := laws_szEntryS_R left2) (outs := laws_szEntryS_O left2) Try.func4 [[]] [] .nil (by kernel_rfl)).is (congrArg laws_szEntryS_R e) (congrArg laws_szEntryS_O e))
noncomputable def laws_szEntryS_k3 : List Item := posI 2000 4 [false] [.code laws_szEntryS_c]
noncomputable def laws_szEntryS_S2 (a : List TEntry) (left1 : Int) (i : Int) : St := ⟨(vsl 7 eEntry a :: (vi left1 :: (bs 3 (vi i :: (bs 21 []))))), [some []]⟩
noncomputable def laws_szEntryS_b1 (a : List TEntry) (left1 : Int) (i : Int) : Option (Stp Int (Int × Int) Int) :=
  (bif decide (i < (a.length : Int)) then
 ((idx a i).bind fun entry =>
 ((laws_szEntry entry left1).bind fun szEntry =>
 (bif decide (szEntry < 0) then
 some (Stp.ret (-1))
 else
 some (Stp.nxt (szEntry, w64 (i + 1))))))
 else
 some (Stp.brk left1))
theorem laws_szEntryS_b1_ok (a : List TEntry) (res : V) (outs : List (Option V)) (x1 : Exc Int Int) (hb1 : ∀ s : Int, x1 = .brk s → Fin cx laws_szEntryS_X res outs laws_szEntryS_k1 (laws_szEntryS_S1 s)) (hr1 : ∀ v : Int, x1 = .ret v → (res = laws_szEntryS_R v ∧ outs = laws_szEntryS_O v)) (st1 : Stp Int (Int × Int) Int) (hc1 : Cont x1 (fun s : Int × Int => Fin cx laws_szEntryS_X res outs laws_szEntryS_k3 (laws_szEntryS_S2 a s.1 s.2)) st1) (left1 : Int) (i : Int) (h : laws_szEntryS_b1 a left1 i = some st1) : Fin cx laws_szEntryS_X res outs laws_szEntryS_k3 (laws_szEntryS_S2 a left1 i) :=
  (condD h (fun e2 h =>
 (bindD h fun entry hentry h =>
 (bindD h fun szEntry hszEntry h =>
 (condD h (fun e3 h =>
 (retD h hc1 fun e => (Fin.fin (cx := cx) (X := laws_szEntryS_X) (res := laws_szEntryS_R (-1)) (outs := laws_szEntryS_O (-1)) Try.func4 [[(3, { d := some true })], [(2, { a := .row (eEntry entry) }), (5, { a := .call [.val [none, none, none, some 2, some 2, none, none] [], .val [] []] false (laws_szEntry_R szEntry) (laws_szEntry_O szEntry) })], [(1, { d := some true })], []] [decide (i < (a.length : Int)) = true, (0 : Int) ≤ i, i < ((a.length : Nat) : Int), (a.map eEntry)[i.toNat]? = some (eEntry entry), ACalls cx.P 9 [.agg (eEntry entry), vi left1] (laws_szEntry_R szEntry) (laws_szEntry_O szEntry), decide (szEntry < 0) = true] (.cons e2 (.cons (idx0 hentry) (.cons (idx1 hentry) (.cons (map_idx hentry) (.cons (laws_szEntry_ok entry left1 szEntry hszEntry) (.cons e3 .nil)))))) (by kernel_rfl)).is (hr1 _ e).1 (hr1 _ e).2)) (fun e3 h =>
 (nxtD h hc1 fun hI => (Fin.seg [[(3, { d := some true })], [(2, { a := .row (eEntry entry) }), (5, { a := .call [.val [none, none, none, some 2, some 2, none, none] [], .val [] []] false (laws_szEntry_R szEntry) (laws_szEntry_O szEntry) })], [(1, { d := some false })], []] [] [0, 1, 5] [] [decide (i < (a.length : Int)) = true, (0 : Int) ≤ i, i < ((a.length : Nat) : Int), (a.map eEntry)[i.toNat]? = some (eEntry entry), ACalls cx.P 9 [.agg (eEntry entry), vi left1] (laws_szEntry_R szEntry) (laws_szEntry_O szEntry), decide (szEntry < 0) = false] (.cons e2 (.cons (idx0 hentry) (.cons (idx1 hentry) (.cons (map_idx hentry) (.cons (laws_szEntry_ok entry left1 szEntry hszEntry) (.cons e3 .nil)))))) hI (by kernel_rfl)))))))) (fun e2 h =>
 (brkD h hc1 fun e => (Fin.seg [[(3, { d := some false })]] [] [1] [] [decide (i < (a.length : Int)) = false] (.cons e2 .nil) (hb1 _ e) (by kernel_rfl)))))
theorem laws_szEntryS_b1_loop (a : List TEntry) (res : V) (outs : List (Option V)) (x1 : Exc Int Int) (hb1 : ∀ s : Int, x1 = .brk s → Fin cx laws_szEntryS_X res outs laws_szEntryS_k1 (laws_szEntryS_S1 s)) (hr1 : ∀ v : Int, x1 = .ret v → (res = laws_szEntryS_R v ∧ outs = laws_szEntryS_O v)) (s : Int × Int) (h : loop (fun s : Int × Int => laws_szEntryS_b1 a s.1 s.2) s = some x1) : Fin cx laws_szEntryS_X res outs laws_szEntryS_k3 (laws_szEntryS_S2 a s.1 s.2) :=
  loopD (I := fun s : Int × Int => Fin cx laws_szEntryS_X res outs laws_szEntryS_k3 (laws_szEntryS_S2 a s.1 s.2)) h fun s st h hc => laws_szEntryS_b1_ok a res outs x1 hb1 hr1 st hc s.1 s.2 h
noncomputable def laws_szEntryS (a : List TEntry) (left : Int) : Option Int :=
  (bif decide ((w64 (left - (a.length : Int))) < 0) then
 some (-1)
 else
 ((loop (fun s : Int × Int => laws_szEntryS_b1 a s.1 s.2) (w64 (left - (a.length : Int)), 0)).bind fun x => x.go (fun r => some r) fun s => laws_szEntryS_k2 s))
theorem laws_szEntryS_fin (a : List TEntry) (left : Int) (r : Int) (h : laws_szEntryS a left = some r) : Fin cx laws_szEntryS_X (laws_szEntryS_R r) (laws_szEntryS_O r) [.code laws_szEntryS_c] (startS laws_szEntryS_X [vsl 7 eEntry a, vi left]) :=
  (condD h (fun e1 h =>
 (someD h fun e => (Fin.fin (cx := cx) (X := laws_szEntryS_X) (res := laws_szEntryS_R (-1)) (outs := laws_szEntryS_O (-1)) Try.func4 [[], [], [(1, { d := some true })], []] [decide ((w64 (left - (a.length : Int))) < 0) = true] (.cons e1 .nil) (by kernel_rfl)).is (congrArg laws_szEntryS_R e) (congrArg laws_szEntryS_O e))) (fun e1 h =>
 (loopJ h fun x hl hr hb => (Fin.seg [[], [], [(1, { d := some false })], []] [] [0, 1, 5] [] [decide ((w64 (left - (a.length : Int))) < 0) = false] (.cons e1 .nil) (laws_szEntryS_b1_loop a _ _ x (fun s e => laws_szEntryS_k2_ok r s (hb s e)) (fun v e => ⟨congrArg laws_szEntryS_R (Option.some.inj (hr v e)).symm, congrArg laws_szEntryS_O (Option.some.inj (hr v e)).symm⟩) (w64 (left - (a.length : Int)), 0) hl) (by kernel_rfl)))))
theorem laws_szEntryS_ok (a : List TEntry) (left : Int) (r : Int) (h : laws_szEntryS a left = some r) : ACalls cx.P 4 [vsl 7 eEntry a, vi left] (laws_szEntryS_R r) (laws_szEntryS_O r) :=
  ACalls.of (cx := cx) (X := laws_szEntryS_X) (c := laws_szEntryS_c) Try.func4 (by kernel_rfl) (by kernel_rfl) (by kernel_rfl) (laws_szEntryS_fin a left r h)

/-! ### laws_toReq -/
noncomputable def laws_toReq_c : Code := bodyOf Try.f22
noncomputable def laws_toReq_X : Sig := { f := 22, fn := Try.f22, rms := [.val [] []], oms := [none] }
noncomputable def laws_toReq_R (r : TReq) : V := .agg (eReq r)
noncomputable def laws_toReq_O (r : TReq) : List (Option V) := [none]
noncomputable def laws_toReq (a : TReq) : Option TReq :=
  some a
theorem laws_toReq_fin (a : TReq) (r : TReq) (h : laws_toReq a = some r) : Fin cx laws_toReq_X (laws_toReq_R r) (laws_toReq_O r) [.code laws_toReq_c] (startS laws_toReq_X [.agg (eReq a)]) :=
  (someD h fun e => (Fin.fin (cx := cx) (X := laws_toReq_X) (res := laws_toReq_R a) (outs := laws_toReq_O a) Try.func22 [[], [], [], [], []] [] .nil (by kernel_rfl)).is (congrArg laws_toReq_R e) (congrArg laws_toReq_O e))
theorem laws_toReq_ok (a : TReq) (r : TReq) (h : laws_toReq a = some r) : ACalls cx.P 22 [.agg (eReq a)] (laws_toReq_R r) (laws_toReq_O r) :=
  ACalls.of (cx := cx) (X := laws_toReq_X) (c := laws_toReq_c) Try.func22 (by kernel_rfl) (by kernel_rfl) (by kernel_rfl) (laws_toReq_fin a r h)

/-! ### laws_toRead -/
noncomputable def laws_toRead_c : Code := bodyOf Try.f57
noncomputable def laws_toRead_X : Sig := { f := 57, fn := Try.f57, rms := [.val [] []], oms := [none] }
noncomputable def laws_toRead_R (r : TRead) : V := .agg (eRead r)
noncomputable def laws_toRead_O (r : TRead) : List (Option V) := [none]
noncomputable def laws_toRead (a : TRead) : Option TRead :=
  some a
theorem laws_toRead_fin (a : TRead) (r : TRead) (h : laws_toRead a = some r) : Fin cx laws_toRead_X (laws_toRead_R r) (laws_toRead_O r) [.code laws_toRead_c] (startS laws_toRead_X [.agg (eRead a)]) :=
  (someD h fun e => (Fin.fin (cx := cx) (X := laws_toRead_X) (res := laws_toRead_R a) (outs := laws_toRead_O a) Try.func57 [[], [], [], [], []] [] .nil (by kernel_rfl)).is (congrArg laws_toRead_R e) (congrArg laws_toRead_O e))
theorem laws_toRead_ok (a : TRead) (r : TRead) (h : laws_toRead a = some r) : ACalls cx.P 57 [.agg (eRead a)] (laws_toRead_R r) (laws_toRead_O r) :=
  ACalls.of (cx := cx) (X := laws_toRead_X) (c := laws_toRead_c) Try.func57 (by kernel_rfl) (by kernel_rfl) (by kernel_rfl) (laws_toRead_fin a r h)

/-! ### laws_toReadS -/
noncomputable def laws_toReadS_c : Code := bodyOf Try.f39
noncomputable def laws_toReadS_X : Sig := { f := 39, fn := Try.f39, rms := [.val [some 2] []], oms := [none] }
noncomputable def laws_toReadS_R (r : List TRead) : V := vsl 2 eRead r
noncomputable def laws_toReadS_O (r : List TRead) : List (Option V) := [none]
noncomputable def laws_toReadS_k1 : List Item := posI 2000 4 [false] [.code laws_toReadS_c]
noncomputable def laws_toReadS_S1 (out1 : List TRead) : St := ⟨(bs 3 (.own 1 0 2 0 out1.length :: (bs 19 []))), [some [], some [erow 91 2 eRead out1]]⟩
noncomputable def laws_toReadS_k2 (out1 : List TRead) : Option (List TRead) :=
  some out1
theorem laws_toReadS_k2_ok (r : List TRead) (out1 : List TRead) (h : laws_toReadS_k2 out1 = some r) : Fin cx laws_toReadS_X (laws_toReadS_R r) (laws_toReadS_O r) laws_toReadS_k1 (laws_toReadS_S1 out1) :=
  (someD h fun e => (Fin.fin (cx := cx) (X := laws_toReadS_X) (res := laws_toReadS_R out1) (outs := laws_toReadS_O out1) Try.func39 [[]] [out1.length = out1.length] (.cons rfl .nil) (by kernel_rfl)).is (congrArg laws_toReadS_R e) (congrArg laws_toReadS_O e))
noncomputable def laws_toReadS_k3 : List Item := posI 2000 3 [] [.code laws_toReadS_c]
noncomputable def laws_toReadS_S2 (a : List TRead) (out : List TRead) (i : Int) : St := ⟨(vsl 2 eRead a :: (bs 2 (.own 1 0 2 0 out.length :: (vi i :: (bs 18 []))))), [some [], some [erow 91 2 eRead out]]⟩
noncomputable def laws_toReadS_b1 (a : List TRead) (out : List TRead) (i : Int) : Option (Stp (List TRead) ((List TRead) × Int) (List TRead)) :=
  (bif decide (i < (a.length : Int)) then
 ((idx a i).bind fun read =>
 ((laws_toRead read).bind fun toRead =>
 ((idx out i).bind fun read1 =>
 some (Stp.nxt (out.set i.toNat toRead, w64 (i + 1))))))
 else
 some (Stp.brk out))
theorem laws_toReadS_b1_ok (a : List TRead) (res : V) (outs : List (Option V)) (x1 : Exc (List TRead) (List TRead)) (hb1 : ∀ s : List TRead, x1 = .brk s → Fin cx laws_toReadS_X res outs laws_toReadS_k1 (laws_toReadS_S1 s)) (hr1 : ∀ v : List TRead, x1 = .ret v → (res = laws_toReadS_R v ∧ outs = laws_toReadS_O v)) (st1 : Stp (List TRead) ((List TRead) × Int) (List TRead)) (hc1 : Cont x1 (fun s : (List TRead) × Int => Fin cx laws_toReadS_X res outs laws_toReadS_k3 (laws_toReadS_S2 a s.1 s.2)) st1) (out : List TRead) (i : Int) (h : laws_toReadS_b1 a out i = some st1) : Fin cx laws_toReadS_X res outs laws_toReadS_k3 (laws_toReadS_S2 a out i) :=
  (condD h (fun e2 h =>
 (bindD h fun read hread h =>
 (bindD h fun toRead htoRead h =>
 (bindD h fun read1 hread1 h =>
 (nxtD h hc1 fun hI => (Fin.seg [[(3, { d := some true })], [(4, { a := .row (eRead read) }), (6, { a := .call [.val [] []] false (laws_toRead_R toRead) (laws_toRead_O toRead) }), (8, { a := .rowck (eRead read1) [], e := some (erow 91 2 eRead (out.set i.toNat toRead)) })], []] [.is (.tmp 3) (.own 1 0 2 0 (out.set i.toNat toRead).length)] [0, 3, 4] [(1, 0)] [decide (i < (a.length : Int)) = true, (0 : Int) ≤ i, i < ((a.length : Nat) : Int), (a.map eRead)[i.toNat]? = some (eRead read), ACalls cx.P 57 [.agg (eRead read)] (laws_toRead_R toRead) (laws_toRead_O toRead), (0 : Int) ≤ i, i < ((out.length : Nat) : Int), Ent.row 91 2 out.length ((out.map eRead).set (0 + i.toNat) [vi toRead.Box, vi toRead.Ver]) = erow 91 2 eRead (out.set i.toNat toRead), (out.map eRead)[0 + i.toNat]? = some (eRead read1), (.own 1 0 2 0 out.length : V) = .own 1 0 2 0 (out.set i.toNat toRead).length] (.cons e2 (.cons (idx0 hread) (.cons (idx1 hread) (.cons (map_idx hread) (.cons (laws_toRead_ok read toRead htoRead) (.cons (idx0 hread1) (.cons (idx1 hread1) (.cons (row_set rfl) (.cons (map_idx0 hread1) (.cons (by simp) .nil)))))))))) hI (by kernel_rfl))))))) (fun e2 h =>
 (brkD h hc1 fun e => (Fin.seg [[(3, { d := some false })]] [] [3] [(1, 0)] [decide (i < (a.length : Int)) = false] (.cons e2 .nil) (hb1 _ e) (by kernel_rfl)))))
theorem laws_toReadS_b1_loop (a : List TRead) (res : V) (outs : List (Option V)) (x1 : Exc (List TRead) (List TRead)) (hb1 : ∀ s : List TRead, x1 = .brk s → Fin cx laws_toReadS_X res outs laws_toReadS_k1 (laws_toReadS_S1 s)) (hr1 : ∀ v : List TRead, x1 = .ret v → (res = laws_toReadS_R v ∧ outs = laws_toReadS_O v)) (s : (List TRead) × Int) (h : loop (fun s : (List TRead) × Int => laws_toReadS_b1 a s.1 s.2) s = some x1) : Fin cx laws_toReadS_X res outs laws_toReadS_k3 (laws_toReadS_S2 a s.1 s.2) :=
  loopD (I := fun s : (List TRead) × Int => Fin cx laws_toReadS_X res outs laws_toReadS_k3 (laws_toReadS_S2 a s.1 s.2)) h fun s st h hc => laws_toReadS_b1_ok a res outs x1 hb1 hr1 st hc s.1 s.2 h
noncomputable def laws_toReadS (a : List TRead) : Option (List TRead) :=
  (need (0 ≤ (a.length : Int) ∧ (a.length : Int) * 16 ≤ 140737488355328)
 (((loop (fun s : (List TRead) × Int => laws_toReadS_b1 a s.1 s.2) (List.replicate (a.length : Int).toNat (TRead.mk 0 0), 0)).bind fun x => x.go (fun r => some r) fun s => laws_toReadS_k2 s)))
theorem laws_toReadS_fin (a : List TRead) (r : List TRead) (h : laws_toReadS a = some r) : Fin cx laws_toReadS_X (laws_toReadS_R r) (laws_toReadS_O r) [.code laws_toReadS_c] (startS laws_toReadS_X [vsl 2 eRead a]) :=
  (needD h fun e1 h =>
 (loopJ h fun x hl hr hb => (Fin.seg [[], [(2, { e := some (erow 91 2 eRead (List.replicate (a.length : Int).toNat (TRead.mk 0 0))), v := some (.own 4 0 2 0 (List.replicate (a.length : Int).toNat (TRead.mk 0 0)).length) })], []] [] [0, 3, 4] [(4, 0)] [V.own 4 0 2 0 (a.length : Int).toNat = .own 4 0 2 0 (List.replicate (a.length : Int).toNat (TRead.mk 0 0)).length, Ent.row 91 2 (a.length : Int).toNat (List.replicate (a.length : Int).toNat [vi 0, vi 0]) = erow 91 2 eRead (List.replicate (a.length : Int).toNat (TRead.mk 0 0)), (0 : Int) ≤ (a.length : Int), (a.length : Int) = (a.length : Int), (a.length : Int) * ((16 : Nat) : Int) ≤ 140737488355328 ∧ 0 < 16, ([vi 0, vi 0] : List V).length = 2] (.cons (by simp) (.cons (row_rep rfl) (.cons e1.1 (.cons rfl (.cons ⟨e1.2, by decide⟩ (.cons rfl .nil)))))) (laws_toReadS_b1_loop a _ _ x (fun s e => laws_toReadS_k2_ok r s (hb s e)) (fun v e => ⟨congrArg laws_toReadS_R (Option.some.inj (hr v e)).symm, congrArg laws_toReadS_O (Option.some.inj (hr v e)).symm⟩) (List.replicate (a.length : Int).toNat (TRead.mk 0 0), 0) hl) (by kernel_rfl))))
theorem laws_toReadS_ok (a : List TRead) (r : List TRead) (h : laws_toReadS a = some r) : ACalls cx.P 39 [vsl 2 eRead a] (laws_toReadS_R r) (laws_toReadS_O r) :=
  ACalls.of (cx := cx) (X := laws_toReadS_X) (c := laws_toReadS_c) Try.func39 (by kernel_rfl) (by kernel_rfl) (by kernel_rfl) (laws_toReadS_fin a r h)

/-! ### laws_toPut -/
noncomputable def laws_toPut_c : Code := bodyOf Try.f58
noncomputable def laws_toPut_X : Sig := { f := 58, fn := Try.f58, rms := [.val [] []], oms := [none] }
noncomputable def laws_toPut_R (r : TPut) : V := .agg (ePut r)
noncomputable def laws_toPut_O (r : TPut) : List (Option V) := [none]
noncomputable def laws_toPut (a : TPut) : Option TPut :=
  some a
theorem laws_toPut_fin (a : TPut) (r : TPut) (h : laws_toPut a = some r) : Fin cx laws_toPut_X (laws_toPut_R r) (laws_toPut_O r) [.code laws_toPut_c] (startS laws_toPut_X [.agg (ePut a)]) :=
  (someD h fun e => (Fin.fin (cx := cx) (X := laws_toPut_X) (res := laws_toPut_R a) (outs := laws_toPut_O a) Try.func58 [[], [], [], [], []] [] .nil (by kernel_rfl)).is (congrArg laws_toPut_R e) (congrArg laws_toPut_O e))
theorem laws_toPut_ok (a : TPut) (r : TPut) (h : laws_toPut a = some r) : ACalls cx.P 58 [.agg (ePut a)] (laws_toPut_R r) (laws_toPut_O r) :=
  ACalls.of (cx := cx) (X := laws_toPut_X) (c := laws_toPut_c) Try.func58 (by kernel_rfl) (by kernel_rfl) (by kernel_rfl) (laws_toPut_fin a r h)

/-! ### laws_toPutS -/
noncomputable def laws_toPutS_c : Code := bodyOf Try.f40
noncomputable def laws_toPutS_X : Sig := { f := 40, fn := Try.f40, rms := [.val [some 2] []], oms := [none] }
noncomputable def laws_toPutS_R (r : List TPut) : V := vsl 2 ePut r
noncomputable def laws_toPutS_O (r : List TPut) : List (Option V) := [none]
noncomputable def laws_toPutS_k1 : List Item := posI 2000 4 [false] [.code laws_toPutS_c]
noncomputable def laws_toPutS_S1 (out1 : List TPut) : St := ⟨(bs 3 (.own 1 0 2 0 out1.length :: (bs 19 []))), [some [], some [erow 64 2 ePut out1]]⟩
noncomputable def laws_toPutS_k2 (out1 : List TPut) : Option (List TPut) :=
  some out1
theorem laws_toPutS_k2_ok (r : List TPut) (out1 : List TPut) (h : laws_toPutS_k2 out1 = some r) : Fin cx laws_toPutS_X (laws_toPutS_R r) (laws_toPutS_O r) laws_toPutS_k1 (laws_toPutS_S1 out1) :=
  (someD h fun e => (Fin.fin (cx := cx) (X := laws_toPutS_X) (res := laws_toPutS_R out1) (outs := laws_toPutS_O out1) Try.func40 [[]] [out1.length = out1.length] (.cons rfl .nil) (by kernel_rfl)).is (congrArg laws_toPutS_R e) (congrArg laws_toPutS_O e))
noncomputable def laws_toPutS_k3 : List Item := posI 2000 3 [] [.code laws_toPutS_c]
noncomputable def laws_toPutS_S2 (a : List TPut) (out : List TPut) (i : Int) : St := ⟨(vsl 2 ePut a :: (bs 2 (.own 1 0 2 0 out.length :: (vi i :: (bs 18 []))))), [some [], some [erow 64 2 ePut out]]⟩
noncomputable def laws_toPutS_b1 (a : List TPut) (out : List TPut) (i : Int) : Option (Stp (List TPut) ((List TPut) × Int) (List TPut)) :=
  (bif decide (i < (a.length : Int)) then
 ((idx a i).bind fun put =>
 ((laws_toPut put).bind fun toPut =>
 ((idx out i).bind fun put1 =>
 some (Stp.nxt (out.set i.toNat toPut, w64 (i + 1))))))
 else
 some (Stp.brk out))
theorem laws_toPutS_b1_ok (a : List TPut) (res : V) (outs : List (Option V)) (x1 : Exc (List TPut) (List TPut)) (hb1 : ∀ s : List TPut, x1 = .brk s → Fin cx laws_toPutS_X res outs laws_toPutS_k1 (laws_toPutS_S1 s)) (hr1 : ∀ v : List TPut, x1 = .ret v → (res = laws_toPutS_R v ∧ outs = laws_toPutS_O v)) (st1 : Stp (List TPut) ((List TPut) × Int) (List TPut)) (hc1 : Cont x1 (fun s : (List TPut) × Int => Fin cx laws_toPutS_X res outs laws_toPutS_k3 (laws_toPutS_S2 a s.1 s.2)) st1) (out : List TPut) (i : Int) (h : laws_toPutS_b1 a out i = some st1) : Fin cx laws_toPutS_X res outs laws_toPutS_k3 (laws_toPutS_S2 a out i) :=
  (condD h (fun e2 h =>
 (bindD h fun put hput h =>
 (bindD h fun toPut htoPut h =>
 (bindD h fun put1 hput1 h =>
 (nxtD h hc1 fun hI => (Fin.seg [[(3, { d := some true })], [(4, { a := .row (ePut put) }), (6, { a := .call [.val [] []] false (laws_toPut_R toPut) (laws_toPut_O toPut) }), (8, { a := .rowck (ePut put1) [], e := some (erow 64 2 ePut (out.set i.toNat toPut)) })], []] [.is (.tmp 3) (.own 1 0 2 0 (out.set i.toNat toPut).length)] [0, 3, 4] [(1, 0)] [decide (i < (a.length : Int)) = true, (0 : Int) ≤ i, i < ((a.length : Nat) : Int), (a.map ePut)[i.toNat]? = some (ePut put), ACalls cx.P 58 [.agg (ePut put)] (laws_toPut_R toPut) (laws_toPut_O toPut), (0 : Int) ≤ i, i < ((out.length : Nat) : Int), Ent.row 64 2 out.length ((out.map ePut).set (0 + i.toNat) [vi toPut.Box, vi toPut.Val]) = erow 64 2 ePut (out.set i.toNat toPut), (out.map ePut)[0 + i.toNat]? = some (ePut put1), (.own 1 0 2 0 out.length : V) = .own 1 0 2 0 (out.set i.toNat toPut).length] (.cons e2 (.cons (idx0 hput) (.cons (idx1 hput) (.cons (map_idx hput) (.cons (laws_toPut_ok put toPut htoPut) (.cons (idx0 hput1) (.cons (idx1 hput1) (.cons (row_set rfl) (.cons (map_idx0 hput1) (.cons (by simp) .nil)))))))))) hI (by kernel_rfl))))))) (fun e2 h =>
 (brkD h hc1 fun e => (Fin.seg [[(3, { d := some false })]] [] [3] [(1, 0)] [decide (i < (a.length : Int)) = false] (.cons e2 .nil) (hb1 _ e) (by kernel_rfl)))))
theorem laws_toPutS_b1_loop (a : List TPut) (res : V) (outs : List (Option V)) (x1 : Exc (List TPut) (List TPut)) (hb1 : ∀ s : List TPut, x1 = .brk s → Fin cx laws_toPutS_X res outs laws_toPutS_k1 (laws_toPutS_S1 s)) (hr1 : ∀ v : List TPut, x1 = .ret v → (res = laws_toPutS_R v ∧ outs = laws_toPutS_O v)) (s : (List TPut) × Int) (h : loop (fun s : (List TPut) × Int => laws_toPutS_b1 a s.1 s.2) s = some x1) : Fin cx laws_toPutS_X res outs laws_toPutS_k3 (laws_toPutS_S2 a s.1 s.2) :=
  loopD (I := fun s : (List TPut) × Int => Fin cx laws_toPutS_X res outs laws_toPutS_k3 (laws_toPutS_S2 a s.1 s.2)) h fun s st h hc => laws_toPutS_b1_ok a res outs x1 hb1 hr1 st hc s.1 s.2 h
noncomputable def laws_toPutS (a : List TPut) : Option (List TPut) :=
  (need (0 ≤ (a.length : Int) ∧ (a.length : Int) * 16 ≤ 140737488355328)
 (((loop (fun s : (List TPut) × Int => laws_toPutS_b1 a s.1 s.2) (List.replicate (a.length : Int).toNat (TPut.mk 0 0), 0)).bind fun x => x.go (fun r => some r) fun s => laws_toPutS_k2 s)))
theorem laws_toPutS_fin (a : List TPut) (r : List TPut) (h : laws_toPutS a = some r) : Fin cx laws_toPutS_X (laws_toPutS_R r) (laws_toPutS_O r) [.code laws_toPutS_c] (startS laws_toPutS_X [vsl 2 ePut a]) :=
  (needD h fun e1 h =>
 (loopJ h fun x hl hr hb => (Fin.seg [[], [(2, { e := some (erow 64 2 ePut (List.replicate (a.length : Int).toNat (TPut.mk 0 0))), v := some (.own 4 0 2 0 (List.replicate (a.length : Int).toNat (TPut.mk 0 0)).length) })], []] [] [0, 3, 4] [(4, 0)] [V.own 4 0 2 0 (a.length : Int).toNat = .own 4 0 2 0 (List.replicate (a.length : Int).toNat (TPut.mk 0 0)).length, Ent.row 64 2 (a.length : Int).toNat (List.replicate (a.length : Int).toNat [vi 0, vi 0]) = erow 64 2 ePut (List.replicate (a.length : Int).toNat (TPut.mk 0 0)), (0 : Int) ≤ (a.length : Int), (a.length : Int) = (a.length : Int), (a.length : Int) * ((16 : Nat) : Int) ≤ 140737488355328 ∧ 0 < 16, ([vi 0, vi 0] : List V).length = 2] (.cons (by simp) (.cons (row_rep rfl) (.cons e1.1 (.cons rfl (.cons ⟨e1.2, by decide⟩ (.cons rfl .nil)))))) (laws_toPutS_b1_loop a _ _ x (fun s e => laws_toPutS_k2_ok r s (hb s e)) (fun v e => ⟨congrArg laws_toPutS_R (Option.some.inj (hr v e)).symm, congrArg laws_toPutS_O (Option.some.inj (hr v e)).symm⟩) (List.replicate (a.length : Int).toNat (TPut.mk 0 0), 0) hl) (by kernel_rfl))))
theorem laws_toPutS_ok (a : List TPut) (r : List TPut) (h : laws_toPutS a = some r) : ACalls cx.P 40 [vsl 2 ePut a] (laws_toPutS_R r) (laws_toPutS_O r) :=
  ACalls.of (cx := cx) (X := laws_toPutS_X) (c := laws_toPutS_c) Try.func40 (by kernel_rfl) (by kernel_rfl) (by kernel_rfl) (laws_toPutS_fin a r h)

/-! ### laws_toRun -/
noncomputable def laws_toRun_c : Code := bodyOf Try.f23
noncomputable def laws_toRun_X : Sig := { f := 23, fn := Try.f23, rms := [.val [some 2, some 2, none, none] []], oms := [none] }
noncomputable def laws_toRun_R (r : TRun) : V := .agg (eRun r)
noncomputable def laws_toRun_O (r : TRun) : List (Option V) := [none]
noncomputable def laws_toRun (a : TRun) : Option TRun :=
  ((laws_toReadS a.Reads).bind fun toReadS =>
 ((laws_toPutS a.Puts).bind fun toPutS =>
 some (TRun.mk toReadS toPutS a.Val a.Code)))
theorem laws_toRun_fin (a : TRun) (r : TRun) (h : laws_toRun a = some r) : Fin cx laws_toRun_X (laws_toRun_R r) (laws_toRun_O r) [.code laws_toRun_c] (startS laws_toRun_X [.agg (eRun a)]) :=
  (bindD h fun toReadS htoReadS h =>
 (bindD h fun toPutS htoPutS h =>
 (someD h fun e => (Fin.fin (cx := cx) (X := laws_toRun_X) (res := laws_toRun_R (TRun.mk toReadS toPutS a.Val a.Code)) (outs := laws_toRun_O (TRun.mk toReadS toPutS a.Val a.Code)) Try.func23 [[], [], [(2, { a := .call [.val [some 2] []] false (laws_toReadS_R toReadS) (laws_toReadS_O toReadS) })], [(2, { a := .call [.val [some 2] []] false (laws_toPutS_R toPutS) (laws_toPutS_O toPutS) })], [], [], []] [ACalls cx.P 39 [vsl 2 eRead a.Reads] (laws_toReadS_R toReadS) (laws_toReadS_O toReadS), ACalls cx.P 40 [vsl 2 ePut a.Puts] (laws_toPutS_R toPutS) (laws_toPutS_O toPutS)] (.cons (laws_toReadS_ok a.Reads toReadS htoReadS) (.cons (laws_toPutS_ok a.Puts toPutS htoPutS) .nil)) (by kernel_rfl)).is (congrArg laws_toRun_R e) (congrArg laws_toRun_O e))))
theorem laws_toRun_ok (a : TRun) (r : TRun) (h : laws_toRun a = some r) : ACalls cx.P 23 [.agg (eRun a)] (laws_toRun_R r) (laws_toRun_O r) :=
  ACalls.of (cx := cx) (X := laws_toRun_X) (c := laws_toRun_c) Try.func23 (by kernel_rfl) (by kernel_rfl) (by kernel_rfl) (laws_toRun_fin a r h)

/-! ### laws_toEntry -/
noncomputable def laws_toEntry_c : Code := bodyOf Try.f13
noncomputable def laws_toEntry_X : Sig := { f := 13, fn := Try.f13, rms := [.val [none, none, none, some 2, some 2, none, none] []], oms := [none] }
noncomputable def laws_toEntry_R (r : TEntry) : V := .agg (eEntry r)
noncomputable def laws_toEntry_O (r : TEntry) : List (Option V) := [none]
noncomputable def laws_toEntry (a : TEntry) : Option TEntry :=
  ((laws_toReq a.Req).bind fun toReq =>
 ((laws_toRun a.Run).bind fun toRun =>
 some (TEntry.mk a.None toReq toRun)))
theorem laws_toEntry_fin (a : TEntry) (r : TEntry) (h : laws_toEntry a = some r) : Fin cx laws_toEntry_X (laws_toEntry_R r) (laws_toEntry_O r) [.code laws_toEntry_c] (startS laws_toEntry_X [.agg (eEntry a)]) :=
  (bindD h fun toReq htoReq h =>
 (bindD h fun toRun htoRun h =>
 (someD h fun e => (Fin.fin (cx := cx) (X := laws_toEntry_X) (res := laws_toEntry_R (TEntry.mk a.None toReq toRun)) (outs := laws_toEntry_O (TEntry.mk a.None toReq toRun)) Try.func13 [[], [], [], [(2, { a := .call [.val [] []] false (laws_toReq_R toReq) (laws_toReq_O toReq) })], [(2, { a := .call [.val [some 2, some 2, none, none] []] false (laws_toRun_R toRun) (laws_toRun_O toRun) })], []] [ACalls cx.P 22 [.agg (eReq a.Req)] (laws_toReq_R toReq) (laws_toReq_O toReq), ACalls cx.P 23 [.agg (eRun a.Run)] (laws_toRun_R toRun) (laws_toRun_O toRun)] (.cons (laws_toReq_ok a.Req toReq htoReq) (.cons (laws_toRun_ok a.Run toRun htoRun) .nil)) (by kernel_rfl)).is (congrArg laws_toEntry_R e) (congrArg laws_toEntry_O e))))
theorem laws_toEntry_ok (a : TEntry) (r : TEntry) (h : laws_toEntry a = some r) : ACalls cx.P 13 [.agg (eEntry a)] (laws_toEntry_R r) (laws_toEntry_O r) :=
  ACalls.of (cx := cx) (X := laws_toEntry_X) (c := laws_toEntry_c) Try.func13 (by kernel_rfl) (by kernel_rfl) (by kernel_rfl) (laws_toEntry_fin a r h)

/-! ### laws_toEntryS -/
noncomputable def laws_toEntryS_c : Code := bodyOf Try.f6
noncomputable def laws_toEntryS_X : Sig := { f := 6, fn := Try.f6, rms := [.val [some 7] []], oms := [none] }
noncomputable def laws_toEntryS_R (r : List TEntry) : V := vsl 7 eEntry r
noncomputable def laws_toEntryS_O (r : List TEntry) : List (Option V) := [none]
noncomputable def laws_toEntryS_k1 : List Item := posI 2000 4 [false] [.code laws_toEntryS_c]
noncomputable def laws_toEntryS_S1 (out1 : List TEntry) : St := ⟨(bs 3 (.own 1 0 7 0 out1.length :: (bs 19 []))), [some [], some [erow 48 7 eEntry out1]]⟩
noncomputable def laws_toEntryS_k2 (out1 : List TEntry) : Option (List TEntry) :=
  some out1
theorem laws_toEntryS_k2_ok (r : List TEntry) (out1 : List TEntry) (h : laws_toEntryS_k2 out1 = some r) : Fin cx laws_toEntryS_X (laws_toEntryS_R r) (laws_toEntryS_O r) laws_toEntryS_k1 (laws_toEntryS_S1 out1) :=
  (someD h fun e => (Fin.fin (cx := cx) (X := laws_toEntryS_X) (res := laws_toEntryS_R out1) (outs := laws_toEntryS_O out1) Try.func6 [[]] [out1.length = out1.length] (.cons rfl .nil) (by kernel_rfl)).is (congrArg laws_toEntryS_R e) (congrArg laws_toEntryS_O e))
noncomputable def laws_toEntryS_k3 : List Item := posI 2000 3 [] [.code laws_toEntryS_c]
noncomputable def laws_toEntryS_S2 (a : List TEntry) (out : List TEntry) (i : Int) : St := ⟨(vsl 7 eEntry a :: (bs 2 (.own 1 0 7 0 out.length :: (vi i :: (bs 18 []))))), [some [], some [erow 48 7 eEntry out]]⟩
noncomputable def laws_toEntryS_b1 (a : List TEntry) (out : List TEntry) (i : Int) : Option (Stp (List TEntry) ((List TEntry) × Int) (List TEntry)) :=
  (bif decide (i < (a.length : Int)) then
 ((idx a i).bind fun entry =>
 ((laws_toEntry entry).bind fun toEntry =>
 ((idx out i).bind fun entry1 =>
 some (Stp.nxt (out.set i.toNat toEntry, w64 (i + 1))))))
 else
 some (Stp.brk out))
theorem laws_toEntryS_b1_ok (a : List TEntry) (res : V) (outs : List (Option V)) (x1 : Exc (List TEntry) (List TEntry)) (hb1 : ∀ s : List TEntry, x1 = .brk s → Fin cx laws_toEntryS_X res outs laws_toEntryS_k1 (laws_toEntryS_S1 s)) (hr1 : ∀ v : List TEntry, x1 = .ret v → (res = laws_toEntryS_R v ∧ outs = laws_toEntryS_O v)) (st1 : Stp (List TEntry) ((List TEntry) × Int) (List TEntry)) (hc1 : Cont x1 (fun s : (List TEntry) × Int => Fin cx laws_toEntryS_X res outs laws_toEntryS_k3 (laws_toEntryS_S2 a s.1 s.2)) st1) (out : List TEntry) (i : Int) (h : laws_toEntryS_b1 a out i = some st1) : Fin cx laws_toEntryS_X res outs laws_toEntryS_k3 (laws_toEntryS_S2 a out i) :=
  (condD h (fun e2 h =>
 (bindD h fun entry hentry h =>
 (bindD h fun toEntry htoEntry h =>
 (bindD h fun entry1 hentry1 h =>
 (nxtD h hc1 fun hI => (Fin.seg [[(3, { d := some true })], [(4, { a := .row (eEntry entry) }), (6, { a := .call [.val [none, none, none, some 2, some 2, none, none] []] false (laws_toEntry_R toEntry) (laws_toEntry_O toEntry) }), (8, { a := .rowck (eEntry entry1) [none, none, none, some 2, some 2, none, none], e := some (erow 48 7 eEntry (out.set i.toNat toEntry)) })], []] [.is (.tmp 3) (.own 1 0 7 0 (out.set i.toNat toEntry).length)] [0, 3, 4] [(1, 0)] [decide (i < (a.length : Int)) = true, (0 : Int) ≤ i, i < ((a.length : Nat) : Int), (a.map eEntry)[i.toNat]? = some (eEntry entry), ACalls cx.P 13 [.agg (eEntry entry)] (laws_toEntry_R toEntry) (laws_toEntry_O toEntry), (0 : Int) ≤ i, i < ((out.length : Nat) : Int), Ent.row 48 7 out.length ((out.map eEntry).set (0 + i.toNat) [.b toEntry.None, vi toEntry.Req.Who, vi toEntry.Req.Seq, vsl 2 eRead toEntry.Run.Reads, vsl 2 ePut toEntry.Run.Puts, vi toEntry.Run.Val, vi toEntry.Run.Code]) = erow 48 7 eEntry (out.set i.toNat toEntry), (out.map eEntry)[0 + i.toNat]? = some (eEntry entry1), (.own 1 0 7 0 out.length : V) = .own 1 0 7 0 (out.set i.toNat toEntry).length] (.cons e2 (.cons (idx0 hentry) (.cons (idx1 hentry) (.cons (map_idx hentry) (.cons (laws_toEntry_ok entry toEntry htoEntry) (.cons (idx0 hentry1) (.cons (idx1 hentry1) (.cons (row_set rfl) (.cons (map_idx0 hentry1) (.cons (by simp) .nil)))))))))) hI (by kernel_rfl))))))) (fun e2 h =>
 (brkD h hc1 fun e => (Fin.seg [[(3, { d := some false })]] [] [3] [(1, 0)] [decide (i < (a.length : Int)) = false] (.cons e2 .nil) (hb1 _ e) (by kernel_rfl)))))
theorem laws_toEntryS_b1_loop (a : List TEntry) (res : V) (outs : List (Option V)) (x1 : Exc (List TEntry) (List TEntry)) (hb1 : ∀ s : List TEntry, x1 = .brk s → Fin cx laws_toEntryS_X res outs laws_toEntryS_k1 (laws_toEntryS_S1 s)) (hr1 : ∀ v : List TEntry, x1 = .ret v → (res = laws_toEntryS_R v ∧ outs = laws_toEntryS_O v)) (s : (List TEntry) × Int) (h : loop (fun s : (List TEntry) × Int => laws_toEntryS_b1 a s.1 s.2) s = some x1) : Fin cx laws_toEntryS_X res outs laws_toEntryS_k3 (laws_toEntryS_S2 a s.1 s.2) :=
  loopD (I := fun s : (List TEntry) × Int => Fin cx laws_toEntryS_X res outs laws_toEntryS_k3 (laws_toEntryS_S2 a s.1 s.2)) h fun s st h hc => laws_toEntryS_b1_ok a res outs x1 hb1 hr1 st hc s.1 s.2 h
noncomputable def laws_toEntryS (a : List TEntry) : Option (List TEntry) :=
  (need (0 ≤ (a.length : Int) ∧ (a.length : Int) * 88 ≤ 140737488355328)
 (((loop (fun s : (List TEntry) × Int => laws_toEntryS_b1 a s.1 s.2) (List.replicate (a.length : Int).toNat (TEntry.mk false (TReq.mk 0 0) (TRun.mk [] [] 0 0)), 0)).bind fun x => x.go (fun r => some r) fun s => laws_toEntryS_k2 s)))
theorem laws_toEntryS_fin (a : List TEntry) (r : List TEntry) (h : laws_toEntryS a = some r) : Fin cx laws_toEntryS_X (laws_toEntryS_R r) (laws_toEntryS_O r) [.code laws_toEntryS_c] (startS laws_toEntryS_X [vsl 7 eEntry a]) :=
  (needD h fun e1 h =>
 (loopJ h fun x hl hr hb => (Fin.seg [[], [(2, { a := .ck [none, none, none, some 2, some 2, none, none], e := some (erow 48 7 eEntry (List.replicate (a.length : Int).toNat (TEntry.mk false (TReq.mk 0 0) (TRun.mk [] [] 0 0)))), v := some (.own 4 0 7 0 (List.replicate (a.length : Int).toNat (TEntry.mk false (TReq.mk 0 0) (TRun.mk [] [] 0 0))).length) })], []] [] [0, 3, 4] [(4, 0)] [V.own 4 0 7 0 (a.length : Int).toNat = .own 4 0 7 0 (List.replicate (a.length : Int).toNat (TEntry.mk false (TReq.mk 0 0) (TRun.mk [] [] 0 0))).length, Ent.row 48 7 (a.length : Int).toNat (List.replicate (a.length : Int).toNat [.b false, vi 0, vi 0, .sl 2 0 [], .sl 2 0 [], vi 0, vi 0]) = erow 48 7 eEntry (List.replicate (a.length : Int).toNat (TEntry.mk false (TReq.mk 0 0) (TRun.mk [] [] 0 0))), (0 : Int) ≤ (a.length : Int), (a.length : Int) = (a.length : Int), (a.length : Int) * ((88 : Nat) : Int) ≤ 140737488355328 ∧ 0 < 88, ([.b false, vi 0, vi 0, .nil, .nil, vi 0, vi 0] : List V).length = 7] (.cons (by simp) (.cons (row_rep rfl) (.cons e1.1 (.cons rfl (.cons ⟨e1.2, by decide⟩ (.cons rfl .nil)))))) (laws_toEntryS_b1_loop a _ _ x (fun s e => laws_toEntryS_k2_ok r s (hb s e)) (fun v e => ⟨congrArg laws_toEntryS_R (Option.some.inj (hr v e)).symm, congrArg laws_toEntryS_O (Option.some.inj (hr v e)).symm⟩) (List.replicate (a.length : Int).toNat (TEntry.mk false (TReq.mk 0 0) (TRun.mk [] [] 0 0)), 0) hl) (by kernel_rfl))))
theorem laws_toEntryS_ok (a : List TEntry) (r : List TEntry) (h : laws_toEntryS a = some r) : ACalls cx.P 6 [vsl 7 eEntry a] (laws_toEntryS_R r) (laws_toEntryS_O r) :=
  ACalls.of (cx := cx) (X := laws_toEntryS_X) (c := laws_toEntryS_c) Try.func6 (by kernel_rfl) (by kernel_rfl) (by kernel_rfl) (laws_toEntryS_fin a r h)

/-! ### spec_ExecSame -/
noncomputable def spec_ExecSame_c : Code := bodyOf Try.f31
noncomputable def spec_ExecSame_X : Sig := { f := 31, fn := Try.f31, rms := [.val [] []], oms := [none, none] }
noncomputable def spec_ExecSame_R (r : Bool) : V := .b r
noncomputable def spec_ExecSame_O (r : Bool) : List (Option V) := [none, none]
noncomputable def spec_ExecSame_k1 : List Item := posI 2000 4 [false, false] [.code spec_ExecSame_c]
noncomputable def spec_ExecSame_S1 (a : TRun) (b : TRun) : St := ⟨(bs 2 (.ptr 1 0 0 :: (.ptr 2 0 0 :: (bs 69 [])))), [some [], some [.var 45 [vsl 2 eRead a.Reads, vsl 2 ePut a.Puts, vi a.Val, vi a.Code]], some [.var 45 [vsl 2 eRead b.Reads, vsl 2 ePut b.Puts, vi b.Val, vi b.Code]]]⟩
noncomputable def spec_ExecSame_k2 : List Item := posI 2000 6 [false, false, false] [.code spec_ExecSame_c]
noncomputable def spec_ExecSame_S2 : St := ⟨(bs 73 []), [some []]⟩
noncomputable def spec_ExecSame_k3 : Option Bool :=
  some true
theorem spec_ExecSame_k3_ok (r : Bool) (h : spec_ExecSame_k3 = some r) : Fin cx spec_ExecSame_X (spec_ExecSame_R r) (spec_ExecSame_O r) spec_ExecSame_k2 (spec_ExecSame_S2) :=
  (someD h fun e => (Fin.fin (cx := cx) (X := spec_ExecSame_X) (res := spec_ExecSame_R true) (outs := spec_ExecSame_O true) Try.func31 [[]] [] .nil (by kernel_rfl)).is (congrArg spec_ExecSame_R e) (congrArg spec_ExecSame_O e))
noncomputable def spec_ExecSame_k4 : List Item := posI 2000 5 [false, false] [.code spec_ExecSame_c]
noncomputable def spec_ExecSame_S3 (a : TRun) (b : TRun) (i1 : Int) : St := ⟨(bs 2 (.ptr 1 0 0 :: (.ptr 2 0 0 :: (bs 2 (vi i1 :: (bs 66 [])))))), [some [], some [.var 45 [vsl 2 eRead a.Reads, vsl 2 ePut a.Puts, vi a.Val, vi a.Code]], some [.var 45 [vsl 2 eRead b.Reads, vsl 2 ePut b.Puts, vi b.Val, vi b.Code]]]⟩
noncomputable def spec_ExecSame_b1 (a : TRun) (b : TRun) (i1 : Int) : Option (Stp Bool Int Unit) :=
  (bif decide (i1 < (a.Puts.length : Int)) then
 ((idx a.Puts i1).bind fun put =>
 ((idx b.Puts i1).bind fun put1 =>
 (bif (!(([put.Box, put.Val] : List Int) == [put1.Box, put1.Val])) then
 some (Stp.ret false)
 else
 some (Stp.nxt (w64 (i1 + 1))))))
 else
 some (Stp.brk ()))
theorem spec_ExecSame_b1_ok (a : TRun) (b : TRun) (res : V) (outs : List (Option V)) (x1 : Exc Bool Unit) (hb1 : ∀ s : Unit, x1 = .brk s → Fin cx spec_ExecSame_X res outs spec_ExecSame_k2 (spec_ExecSame_S2)) (hr1 : ∀ v : Bool, x1 = .ret v → (res = spec_ExecSame_R v ∧ outs = spec_ExecSame_O v)) (st1 : Stp Bool Int Unit) (hc1 : Cont x1 (fun s : Int => Fin cx spec_ExecSame_X res outs spec_ExecSame_k4 (spec_ExecSame_S3 a b s)) st1) (i1 : Int) (h : spec_ExecSame_b1 a b i1 = some st1) : Fin cx spec_ExecSame_X res outs spec_ExecSame_k4 (spec_ExecSame_S3 a b i1) :=
  (condD h (fun e5 h =>
 (bindD h fun put hput h =>
 (bindD h fun put1 hput1 h =>
 (condD h (fun e6 h =>
 (retD h hc1 fun e => (Fin.fin (cx := cx) (X := spec_ExecSame_X) (res := spec_ExecSame_R false) (outs := spec_ExecSame_O false) Try.func31 [[(4, { d := some true })], [(3, { a := .row (ePut put) }), (8, { a := .row (ePut put1) }), (10, { d := some true })], []] [decide (i1 < (a.Puts.length : Int)) = true, (0 : Int) ≤ i1, i1 < ((a.Puts.length : Nat) : Int), (a.Puts.map ePut)[i1.toNat]? = some (ePut put), (0 : Int) ≤ i1, i1 < ((b.Puts.length : Nat) : Int), (b.Puts.map ePut)[i1.toNat]? = some (ePut put1), (!(([put.Box, put.Val] : List Int) == [put1.Box, put1.Val])) = true] (.cons e5 (.cons (idx0 hput) (.cons (idx1 hput) (.cons (map_idx hput) (.cons (idx0 hput1) (.cons (idx1 hput1) (.cons (map_idx hput1) (.cons e6 .nil)))))))) (by kernel_rfl)).is (hr1 _ e).1 (hr1 _ e).2)) (fun e6 h =>
 (nxtD h hc1 fun hI => (Fin.seg [[(4, { d := some true })], [(3, { a := .row (ePut put) }), (8, { a := .row (ePut put1) }), (10, { d := some false })], []] [] [2, 3, 6] [(1, 0), (2, 0)] [decide (i1 < (a.Puts.length : Int)) = true, (0 : Int) ≤ i1, i1 < ((a.Puts.length : Nat) : Int), (a.Puts.map ePut)[i1.toNat]? = some (ePut put), (0 : Int) ≤ i1, i1 < ((b.Puts.length : Nat) : Int), (b.Puts.map ePut)[i1.toNat]? = some (ePut put1), (!(([put.Box, put.Val] : List Int) == [put1.Box, put1.Val])) = false] (.cons e5 (.cons (idx0 hput) (.cons (idx1 hput) (.cons (map_idx hput) (.cons (idx0 hput1) (.cons (idx1 hput1) (.cons (map_idx hput1) (.cons e6 .nil)))))))) hI (by kernel_rfl)))))))) (fun e5 h =>
 (brkD h hc1 fun e => (Fin.seg [[(4, { d := some false })]] [] [] [] [decide (i1 < (a.Puts.length : Int)) = false] (.cons e5 .nil) (hb1 _ e) (by kernel_rfl)))))
theorem spec_ExecSame_b1_loop (a : TRun) (b : TRun) (res : V) (outs : List (Option V)) (x1 : Exc Bool Unit) (hb1 : ∀ s : Unit, x1 = .brk s → Fin cx spec_ExecSame_X res outs spec_ExecSame_k2 (spec_ExecSame_S2)) (hr1 : ∀ v : Bool, x1 = .ret v → (res = spec_ExecSame_R v ∧ outs = spec_ExecSame_O v)) (s : Int) (h : loop (fun s : Int => spec_ExecSame_b1 a b s) s = some x1) : Fin cx spec_ExecSame_X res outs spec_ExecSame_k4 (spec_ExecSame_S3 a b s) :=
  loopD (I := fun s : Int => Fin cx spec_ExecSame_X res outs spec_ExecSame_k4 (spec_ExecSame_S3 a b s)) h fun s st h hc => spec_ExecSame_b1_ok a b res outs x1 hb1 hr1 st hc s h
noncomputable def spec_ExecSame_k5 (a : TRun) (b : TRun) : Option Bool :=
  ((loop (fun s : Int => spec_ExecSame_b1 a b s) 0).bind fun x => x.go (fun r => some r) fun s => spec_ExecSame_k3)
theorem spec_ExecSame_k5_ok (a : TRun) (b : TRun) (r : Bool) (h : spec_ExecSame_k5 a b = some r) : Fin cx spec_ExecSame_X (spec_ExecSame_R r) (spec_ExecSame_O r) spec_ExecSame_k1 (spec_ExecSame_S1 a b) :=
  (loopJ h fun x hl hr hb => (Fin.seg [[]] [] [2, 3, 6] [(1, 0), (2, 0)] [] .nil (spec_ExecSame_b1_loop a b _ _ x (fun s e => spec_ExecSame_k3_ok r (hb s e)) (fun v e => ⟨congrArg spec_ExecSame_R (Option.some.inj (hr v e)).symm, congrArg spec_ExecSame_O (Option.some.inj (hr v e)).symm⟩) 0 hl) (by kernel_rfl)))
noncomputable def spec_ExecSame_k6 : List Item := posI 2000 3 [false] [.code spec_ExecSame_c]
noncomputable def spec_ExecSame_S4 (a : TRun) (b : TRun) (i : Int) : St := ⟨(bs 2 (.ptr 1 0 0 :: (.ptr 2 0 0 :: (bs 1 (vi i :: (bs 67 [])))))), [some [], some [.var 45 [vsl 2 eRead a.Reads, vsl 2 ePut a.Puts, vi a.Val, vi a.Code]], some [.var 45 [vsl 2 eRead b.Reads, vsl 2 ePut b.Puts, vi b.Val, vi b.Code]]]⟩
noncomputable def spec_ExecSame_b2 (a : TRun) (b : TRun) (i : Int) : Option (Stp Bool Int Unit) :=
  (bif decide (i < (a.Reads.length : Int)) then
 ((idx a.Reads i).bind fun read =>
 ((idx b.Reads i).bind fun read1 =>
 (bif (!(([read.Box, read.Ver] : List Int) == [read1.Box, read1.Ver])) then
 some (Stp.ret false)
 else
 some (Stp.nxt (w64 (i + 1))))))
 else
 some (Stp.brk ()))
theorem spec_ExecSame_b2_ok (a : TRun) (b : TRun) (res : V) (outs : List (Option V)) (x1 : Exc Bool Unit) (hb1 : ∀ s : Unit, x1 = .brk s → Fin cx spec_ExecSame_X res outs spec_ExecSame_k1 (spec_ExecSame_S1 a b)) (hr1 : ∀ v : Bool, x1 = .ret v → (res = spec_ExecSame_R v ∧ outs = spec_ExecSame_O v)) (st1 : Stp Bool Int Unit) (hc1 : Cont x1 (fun s : Int => Fin cx spec_ExecSame_X res outs spec_ExecSame_k6 (spec_ExecSame_S4 a b s)) st1) (i : Int) (h : spec_ExecSame_b2 a b i = some st1) : Fin cx spec_ExecSame_X res outs spec_ExecSame_k6 (spec_ExecSame_S4 a b i) :=
  (condD h (fun e7 h =>
 (bindD h fun read hread h =>
 (bindD h fun read1 hread1 h =>
 (condD h (fun e8 h =>
 (retD h hc1 fun e => (Fin.fin (cx := cx) (X := spec_ExecSame_X) (res := spec_ExecSame_R false) (outs := spec_ExecSame_O false) Try.func31 [[(4, { d := some true })], [(3, { a := .row (eRead read) }), (8, { a := .row (eRead read1) }), (10, { d := some true })], []] [decide (i < (a.Reads.length : Int)) = true, (0 : Int) ≤ i, i < ((a.Reads.length : Nat) : Int), (a.Reads.map eRead)[i.toNat]? = some (eRead read), (0 : Int) ≤ i, i < ((b.Reads.length : Nat) : Int), (b.Reads.map eRead)[i.toNat]? = some (eRead read1), (!(([read.Box, read.Ver] : List Int) == [read1.Box, read1.Ver])) = true] (.cons e7 (.cons (idx0 hread) (.cons (idx1 hread) (.cons (map_idx hread) (.cons (idx0 hread1) (.cons (idx1 hread1) (.cons (map_idx hread1) (.cons e8 .nil)))))))) (by kernel_rfl)).is (hr1 _ e).1 (hr1 _ e).2)) (fun e8 h =>
 (nxtD h hc1 fun hI => (Fin.seg [[(4, { d := some true })], [(3, { a := .row (eRead read) }), (8, { a := .row (eRead read1) }), (10, { d := some false })], []] [] [2, 3, 5] [(1, 0), (2, 0)] [decide (i < (a.Reads.length : Int)) = true, (0 : Int) ≤ i, i < ((a.Reads.length : Nat) : Int), (a.Reads.map eRead)[i.toNat]? = some (eRead read), (0 : Int) ≤ i, i < ((b.Reads.length : Nat) : Int), (b.Reads.map eRead)[i.toNat]? = some (eRead read1), (!(([read.Box, read.Ver] : List Int) == [read1.Box, read1.Ver])) = false] (.cons e7 (.cons (idx0 hread) (.cons (idx1 hread) (.cons (map_idx hread) (.cons (idx0 hread1) (.cons (idx1 hread1) (.cons (map_idx hread1) (.cons e8 .nil)))))))) hI (by kernel_rfl)))))))) (fun e7 h =>
 (brkD h hc1 fun e => (Fin.seg [[(4, { d := some false })]] [] [2, 3] [(1, 0), (2, 0)] [decide (i < (a.Reads.length : Int)) = false] (.cons e7 .nil) (hb1 _ e) (by kernel_rfl)))))
theorem spec_ExecSame_b2_loop (a : TRun) (b : TRun) (res : V) (outs : List (Option V)) (x1 : Exc Bool Unit) (hb1 : ∀ s : Unit, x1 = .brk s → Fin cx spec_ExecSame_X res outs spec_ExecSame_k1 (spec_ExecSame_S1 a b)) (hr1 : ∀ v : Bool, x1 = .ret v → (res = spec_ExecSame_R v ∧ outs = spec_ExecSame_O v)) (s : Int) (h : loop (fun s : Int => spec_ExecSame_b2 a b s) s = some x1) : Fin cx spec_ExecSame_X res outs spec_ExecSame_k6 (spec_ExecSame_S4 a b s) :=
  loopD (I := fun s : Int => Fin cx spec_ExecSame_X res outs spec_ExecSame_k6 (spec_ExecSame_S4 a b s)) h fun s st h hc => spec_ExecSame_b2_ok a b res outs x1 hb1 hr1 st hc s h
noncomputable def spec_ExecSame (a : TRun) (b : TRun) : Option Bool :=
  (bif (a.Val != b.Val) then
 some false
 else
 (bif (a.Code != b.Code) then
 some false
 else
 (bif ((a.Reads.length : Int) != (b.Reads.length : Int)) then
 some false
 else
 (bif ((a.Puts.length : Int) != (b.Puts.length : Int)) then
 some false
 else
 ((loop (fun s : Int => spec_ExecSame_b2 a b s) 0).bind fun x => x.go (fun r => some r) fun s => spec_ExecSame_k5 a b)))))
theorem spec_ExecSame_fin (a : TRun) (b : TRun) (r : Bool) (h : spec_ExecSame a b = some r) : Fin cx spec_ExecSame_X (spec_ExecSame_R r) (spec_ExecSame_O r) [.code spec_ExecSame_c] (startS spec_ExecSame_X [.agg (eRun a), .agg (eRun b)]) :=
  (condD h (fun e1 h =>
 (someD h fun e => (Fin.fin (cx := cx) (X := spec_ExecSame_X) (res := spec_ExecSame_R false) (outs := spec_ExecSame_O false) Try.func31 [[], [(5, { d := some true })], []] [(a.Val != b.Val) = true] (.cons e1 .nil) (by kernel_rfl)).is (congrArg spec_ExecSame_R e) (congrArg spec_ExecSame_O e))) (fun e1 h =>
 (condD h (fun e2 h =>
 (someD h fun e => (Fin.fin (cx := cx) (X := spec_ExecSame_X) (res := spec_ExecSame_R false) (outs := spec_ExecSame_O false) Try.func31 [[], [(5, { d := some false }), (12, { d := some true })], []] [(a.Val != b.Val) = false, (a.Code != b.Code) = true] (.cons e1 (.cons e2 .nil)) (by kernel_rfl)).is (congrArg spec_ExecSame_R e) (congrArg spec_ExecSame_O e))) (fun e2 h =>
 (condD h (fun e3 h =>
 (someD h fun e => (Fin.fin (cx := cx) (X := spec_ExecSame_X) (res := spec_ExecSame_R false) (outs := spec_ExecSame_O false) Try.func31 [[], [(5, { d := some false }), (12, { d := some false }), (21, { d := some true })], []] [(a.Val != b.Val) = false, (a.Code != b.Code) = false, ((a.Reads.length : Int) != (b.Reads.length : Int)) = true] (.cons e1 (.cons e2 (.cons e3 .nil))) (by kernel_rfl)).is (congrArg spec_ExecSame_R e) (congrArg spec_ExecSame_O e))) (fun e3 h =>
 (condD h (fun e4 h =>
 (someD h fun e => (Fin.fin (cx := cx) (X := spec_ExecSame_X) (res := spec_ExecSame_R false) (outs := spec_ExecSame_O false) Try.func31 [[], [(5, { d := some false }), (12, { d := some false }), (21, { d := some false }), (29, { d := some true })], []] [(a.Val != b.Val) = false, (a.Code != b.Code) = false, ((a.Reads.length : Int) != (b.Reads.length : Int)) = false, ((a.Puts.length : Int) != (b.Puts.length : Int)) = true] (.cons e1 (.cons e2 (.cons e3 (.cons e4 .nil)))) (by kernel_rfl)).is (congrArg spec_ExecSame_R e) (congrArg spec_ExecSame_O e))) (fun e4 h =>
 (loopJ h fun x hl hr hb => (Fin.seg [[], [(5, { d := some false }), (12, { d := some false }), (21, { d := some false }), (29, { d := some false })], []] [] [2, 3, 5] [(1, 0), (2, 0)] [(a.Val != b.Val) = false, (a.Code != b.Code) = false, ((a.Reads.length : Int) != (b.Reads.length : Int)) = false, ((a.Puts.length : Int) != (b.Puts.length : Int)) = false] (.cons e1 (.cons e2 (.cons e3 (.cons e4 .nil)))) (spec_ExecSame_b2_loop a b _ _ x (fun s e => spec_ExecSame_k5_ok a b r (hb s e)) (fun v e => ⟨congrArg spec_ExecSame_R (Option.some.inj (hr v e)).symm, congrArg spec_ExecSame_O (Option.some.inj (hr v e)).symm⟩) 0 hl) (by kernel_rfl)))))))))))
theorem spec_ExecSame_ok (a : TRun) (b : TRun) (r : Bool) (h : spec_ExecSame a b = some r) : ACalls cx.P 31 [.agg (eRun a), .agg (eRun b)] (spec_ExecSame_R r) (spec_ExecSame_O r) :=
  ACalls.of (cx := cx) (X := spec_ExecSame_X) (c := spec_ExecSame_c) Try.func31 (by kernel_rfl) (by kernel_rfl) (by kernel_rfl) (spec_ExecSame_fin a b r h)

/-! ### spec_l5Req -/
noncomputable def spec_l5Req_c : Code := bodyOf Try.f32
noncomputable def spec_l5Req_X : Sig := { f := 32, fn := Try.f32, rms := [.val [] []], oms := [none] }
noncomputable def spec_l5Req_R (r : Bool) : V := .b r
noncomputable def spec_l5Req_O (r : Bool) : List (Option V) := [none]
noncomputable def spec_l5Req (q : TReq) : Option Bool :=
  (bif decide (q.Who ≥ 0) then
 (bif decide (q.Who < 3) then
 (bif decide (q.Seq ≥ 1) then
 some (decide (q.Seq ≤ 1000))
 else
 some false)
 else
 some false)
 else
 some false)
theorem spec_l5Req_fin (q : TReq) (r : Bool) (h : spec_l5Req q = some r) : Fin cx spec_l5Req_X (spec_l5Req_R r) (spec_l5Req_O r) [.code spec_l5Req_c] (startS spec_l5Req_X [.agg (eReq q)]) :=
  (condD h (fun e1 h =>
 (condD h (fun e2 h =>
 (condD h (fun e3 h =>
 (someD h fun e => (Fin.fin (cx := cx) (X := spec_l5Req_X) (res := spec_l5Req_R (decide (q.Seq ≤ 1000))) (outs := spec_l5Req_O (decide (q.Seq ≤ 1000))) Try.func32 [[], [(3, { d := some true }), (8, { d := some true }), (13, { d := some true })]] [decide (q.Who ≥ 0) = true, decide (q.Who < 3) = true, decide (q.Seq ≥ 1) = true] (.cons e1 (.cons e2 (.cons e3 .nil))) (by kernel_rfl)).is (congrArg spec_l5Req_R e) (congrArg spec_l5Req_O e))) (fun e3 h =>
 (someD h fun e => (Fin.fin (cx := cx) (X := spec_l5Req_X) (res := spec_l5Req_R false) (outs := spec_l5Req_O false) Try.func32 [[], [(3, { d := some true }), (8, { d := some true }), (13, { d := some false })]] [decide (q.Who ≥ 0) = true, decide (q.Who < 3) = true, decide (q.Seq ≥ 1) = false] (.cons e1 (.cons e2 (.cons e3 .nil))) (by kernel_rfl)).is (congrArg spec_l5Req_R e) (congrArg spec_l5Req_O e))))) (fun e2 h =>
 (someD h fun e => (Fin.fin (cx := cx) (X := spec_l5Req_X) (res := spec_l5Req_R false) (outs := spec_l5Req_O false) Try.func32 [[], [(3, { d := some true }), (8, { d := some false })]] [decide (q.Who ≥ 0) = true, decide (q.Who < 3) = false] (.cons e1 (.cons e2 .nil)) (by kernel_rfl)).is (congrArg spec_l5Req_R e) (congrArg spec_l5Req_O e))))) (fun e1 h =>
 (someD h fun e => (Fin.fin (cx := cx) (X := spec_l5Req_X) (res := spec_l5Req_R false) (outs := spec_l5Req_O false) Try.func32 [[], [(3, { d := some false })]] [decide (q.Who ≥ 0) = false] (.cons e1 .nil) (by kernel_rfl)).is (congrArg spec_l5Req_R e) (congrArg spec_l5Req_O e))))
theorem spec_l5Req_ok (q : TReq) (r : Bool) (h : spec_l5Req q = some r) : ACalls cx.P 32 [.agg (eReq q)] (spec_l5Req_R r) (spec_l5Req_O r) :=
  ACalls.of (cx := cx) (X := spec_l5Req_X) (c := spec_l5Req_c) Try.func32 (by kernel_rfl) (by kernel_rfl) (by kernel_rfl) (spec_l5Req_fin q r h)

/-! ### spec_l1Num -/
noncomputable def spec_l1Num_c : Code := bodyOf Try.f52
noncomputable def spec_l1Num_X : Sig := { f := 52, fn := Try.f52, rms := [.val [] []], oms := [none] }
noncomputable def spec_l1Num_R (r : Bool) : V := .b r
noncomputable def spec_l1Num_O (r : Bool) : List (Option V) := [none]
noncomputable def spec_l1Num (n : Int) : Option Bool :=
  (bif decide (n ≥ (-1000000)) then
 some (decide (n ≤ 1000000))
 else
 some false)
theorem spec_l1Num_fin (n : Int) (r : Bool) (h : spec_l1Num n = some r) : Fin cx spec_l1Num_X (spec_l1Num_R r) (spec_l1Num_O r) [.code spec_l1Num_c] (startS spec_l1Num_X [vi n]) :=
  (condD h (fun e1 h =>
 (someD h fun e => (Fin.fin (cx := cx) (X := spec_l1Num_X) (res := spec_l1Num_R (decide (n ≤ 1000000))) (outs := spec_l1Num_O (decide (n ≤ 1000000))) Try.func52 [[], [(2, { d := some true })]] [decide (n ≥ (-1000000)) = true] (.cons e1 .nil) (by kernel_rfl)).is (congrArg spec_l1Num_R e) (congrArg spec_l1Num_O e))) (fun e1 h =>
 (someD h fun e => (Fin.fin (cx := cx) (X := spec_l1Num_X) (res := spec_l1Num_R false) (outs := spec_l1Num_O false) Try.func52 [[], [(2, { d := some false })]] [decide (n ≥ (-1000000)) = false] (.cons e1 .nil) (by kernel_rfl)).is (congrArg spec_l1Num_R e) (congrArg spec_l1Num_O e))))
theorem spec_l1Num_ok (n : Int) (r : Bool) (h : spec_l1Num n = some r) : ACalls cx.P 52 [vi n] (spec_l1Num_R r) (spec_l1Num_O r) :=
  ACalls.of (cx := cx) (X := spec_l1Num_X) (c := spec_l1Num_c) Try.func52 (by kernel_rfl) (by kernel_rfl) (by kernel_rfl) (spec_l1Num_fin n r h)

/-! ### spec_l2Box -/
noncomputable def spec_l2Box_c : Code := bodyOf Try.f53
noncomputable def spec_l2Box_X : Sig := { f := 53, fn := Try.f53, rms := [.val [] []], oms := [none] }
noncomputable def spec_l2Box_R (r : Bool) : V := .b r
noncomputable def spec_l2Box_O (r : Bool) : List (Option V) := [none]
noncomputable def spec_l2Box (n : Int) : Option Bool :=
  (bif decide (n ≥ 0) then
 some (decide (n < 4))
 else
 some false)
theorem spec_l2Box_fin (n : Int) (r : Bool) (h : spec_l2Box n = some r) : Fin cx spec_l2Box_X (spec_l2Box_R r) (spec_l2Box_O r) [.code spec_l2Box_c] (startS spec_l2Box_X [vi n]) :=
  (condD h (fun e1 h =>
 (someD h fun e => (Fin.fin (cx := cx) (X := spec_l2Box_X) (res := spec_l2Box_R (decide (n < 4))) (outs := spec_l2Box_O (decide (n < 4))) Try.func53 [[], [(2, { d := some true })]] [decide (n ≥ 0) = true] (.cons e1 .nil) (by kernel_rfl)).is (congrArg spec_l2Box_R e) (congrArg spec_l2Box_O e))) (fun e1 h =>
 (someD h fun e => (Fin.fin (cx := cx) (X := spec_l2Box_X) (res := spec_l2Box_R false) (outs := spec_l2Box_O false) Try.func53 [[], [(2, { d := some false })]] [decide (n ≥ 0) = false] (.cons e1 .nil) (by kernel_rfl)).is (congrArg spec_l2Box_R e) (congrArg spec_l2Box_O e))))
theorem spec_l2Box_ok (n : Int) (r : Bool) (h : spec_l2Box n = some r) : ACalls cx.P 53 [vi n] (spec_l2Box_R r) (spec_l2Box_O r) :=
  ACalls.of (cx := cx) (X := spec_l2Box_X) (c := spec_l2Box_c) Try.func53 (by kernel_rfl) (by kernel_rfl) (by kernel_rfl) (spec_l2Box_fin n r h)

/-! ### spec_l3Saw -/
noncomputable def spec_l3Saw_c : Code := bodyOf Try.f54
noncomputable def spec_l3Saw_X : Sig := { f := 54, fn := Try.f54, rms := [.val [] []], oms := [none, none] }
noncomputable def spec_l3Saw_R (r : Bool) : V := .b r
noncomputable def spec_l3Saw_O (r : Bool) : List (Option V) := [none, none]
noncomputable def spec_l3Saw_k1 : List Item := posI 2000 3 [false] [.code spec_l3Saw_c]
noncomputable def spec_l3Saw_S1 : St := ⟨(bs 19 []), [some []]⟩
noncomputable def spec_l3Saw_k2 : Option Bool :=
  some false
theorem spec_l3Saw_k2_ok (r : Bool) (h : spec_l3Saw_k2 = some r) : Fin cx spec_l3Saw_X (spec_l3Saw_R r) (spec_l3Saw_O r) spec_l3Saw_k1 (spec_l3Saw_S1) :=
  (someD h fun e => (Fin.fin (cx := cx) (X := spec_l3Saw_X) (res := spec_l3Saw_R false) (outs := spec_l3Saw_O false) Try.func54 [[]] [] .nil (by kernel_rfl)).is (congrArg spec_l3Saw_R e) (congrArg spec_l3Saw_O e))
noncomputable def spec_l3Saw_k3 : List Item := posI 2000 2 [] [.code spec_l3Saw_c]
noncomputable def spec_l3Saw_S2 (list : List TRead) (box : Int) (i : Int) : St := ⟨(vsl 2 eRead list :: (vi box :: (bs 3 (vi i :: (bs 13 []))))), [some []]⟩
noncomputable def spec_l3Saw_b1 (list : List TRead) (box : Int) (i : Int) : Option (Stp Bool Int Unit) :=
  (bif decide (i < (list.length : Int)) then
 ((idx list i).bind fun read =>
 (bif (read.Box == box) then
 some (Stp.ret true)
 else
 some (Stp.nxt (w64 (i + 1)))))
 else
 some (Stp.brk ()))
theorem spec_l3Saw_b1_ok (list : List TRead) (box : Int) (res : V) (outs : List (Option V)) (x1 : Exc Bool Unit) (hb1 : ∀ s : Unit, x1 = .brk s → Fin cx spec_l3Saw_X res outs spec_l3Saw_k1 (spec_l3Saw_S1)) (hr1 : ∀ v : Bool, x1 = .ret v → (res = spec_l3Saw_R v ∧ outs = spec_l3Saw_O v)) (st1 : Stp Bool Int Unit) (hc1 : Cont x1 (fun s : Int => Fin cx spec_l3Saw_X res outs spec_l3Saw_k3 (spec_l3Saw_S2 list box s)) st1) (i : Int) (h : spec_l3Saw_b1 list box i = some st1) : Fin cx spec_l3Saw_X res outs spec_l3Saw_k3 (spec_l3Saw_S2 list box i) :=
  (condD h (fun e1 h =>
 (bindD h fun read hread h =>
 (condD h (fun e2 h =>
 (retD h hc1 fun e => (Fin.fin (cx := cx) (X := spec_l3Saw_X) (res := spec_l3Saw_R true) (outs := spec_l3Saw_O true) Try.func54 [[(3, { d := some true })], [(2, { a := .row (eRead read) }), (6, { d := some true })], []] [decide (i < (list.length : Int)) = true, (0 : Int) ≤ i, i < ((list.length : Nat) : Int), (list.map eRead)[i.toNat]? = some (eRead read), (read.Box == box) = true] (.cons e1 (.cons (idx0 hread) (.cons (idx1 hread) (.cons (map_idx hread) (.cons e2 .nil))))) (by kernel_rfl)).is (hr1 _ e).1 (hr1 _ e).2)) (fun e2 h =>
 (nxtD h hc1 fun hI => (Fin.seg [[(3, { d := some true })], [(2, { a := .row (eRead read) }), (6, { d := some false })], []] [] [0, 1, 5] [] [decide (i < (list.length : Int)) = true, (0 : Int) ≤ i, i < ((list.length : Nat) : Int), (list.map eRead)[i.toNat]? = some (eRead read), (read.Box == box) = false] (.cons e1 (.cons (idx0 hread) (.cons (idx1 hread) (.cons (map_idx hread) (.cons e2 .nil))))) hI (by kernel_rfl))))))) (fun e1 h =>
 (brkD h hc1 fun e => (Fin.seg [[(3, { d := some false })]] [] [] [] [decide (i < (list.length : Int)) = false] (.cons e1 .nil) (hb1 _ e) (by kernel_rfl)))))
theorem spec_l3Saw_b1_loop (list : List TRead) (box : Int) (res : V) (outs : List (Option V)) (x1 : Exc Bool Unit) (hb1 : ∀ s : Unit, x1 = .brk s → Fin cx spec_l3Saw_X res outs spec_l3Saw_k1 (spec_l3Saw_S1)) (hr1 : ∀ v : Bool, x1 = .ret v → (res = spec_l3Saw_R v ∧ outs = spec_l3Saw_O v)) (s : Int) (h : loop (fun s : Int => spec_l3Saw_b1 list box s) s = some x1) : Fin cx spec_l3Saw_X res outs spec_l3Saw_k3 (spec_l3Saw_S2 list box s) :=
  loopD (I := fun s : Int => Fin cx spec_l3Saw_X res outs spec_l3Saw_k3 (spec_l3Saw_S2 list box s)) h fun s st h hc => spec_l3Saw_b1_ok list box res outs x1 hb1 hr1 st hc s h
noncomputable def spec_l3Saw (list : List TRead) (box : Int) : Option Bool :=
  ((loop (fun s : Int => spec_l3Saw_b1 list box s) 0).bind fun x => x.go (fun r => some r) fun s => spec_l3Saw_k2)
theorem spec_l3Saw_fin (list : List TRead) (box : Int) (r : Bool) (h : spec_l3Saw list box = some r) : Fin cx spec_l3Saw_X (spec_l3Saw_R r) (spec_l3Saw_O r) [.code spec_l3Saw_c] (startS spec_l3Saw_X [vsl 2 eRead list, vi box]) :=
  (loopJ h fun x hl hr hb => (Fin.seg [[], []] [] [0, 1, 5] [] [] .nil (spec_l3Saw_b1_loop list box _ _ x (fun s e => spec_l3Saw_k2_ok r (hb s e)) (fun v e => ⟨congrArg spec_l3Saw_R (Option.some.inj (hr v e)).symm, congrArg spec_l3Saw_O (Option.some.inj (hr v e)).symm⟩) 0 hl) (by kernel_rfl)))
theorem spec_l3Saw_ok (list : List TRead) (box : Int) (r : Bool) (h : spec_l3Saw list box = some r) : ACalls cx.P 54 [vsl 2 eRead list, vi box] (spec_l3Saw_R r) (spec_l3Saw_O r) :=
  ACalls.of (cx := cx) (X := spec_l3Saw_X) (c := spec_l3Saw_c) Try.func54 (by kernel_rfl) (by kernel_rfl) (by kernel_rfl) (spec_l3Saw_fin list box r h)

/-! ### spec_l3At -/
noncomputable def spec_l3At_c : Code := bodyOf Try.f12
noncomputable def spec_l3At_X : Sig := { f := 12, fn := Try.f12, rms := [.val [] []], oms := [none, none] }
noncomputable def spec_l3At_R (r : Int) : V := vi r
noncomputable def spec_l3At_O (r : Int) : List (Option V) := [none, none]
noncomputable def spec_l3At_k1 : List Item := posI 2000 3 [false] [.code spec_l3At_c]
noncomputable def spec_l3At_S1 : St := ⟨(bs 20 []), [some []]⟩
noncomputable def spec_l3At_k2 : Option Int :=
  some (-1)
theorem spec_l3At_k2_ok (r : Int) (h : spec_l3At_k2 = some r) : Fin cx spec_l3At_X (spec_l3At_R r) (spec_l3At_O r) spec_l3At_k1 (spec_l3At_S1) :=
  (someD h fun e => (Fin.fin (cx := cx) (X := spec_l3At_X) (res := spec_l3At_R (-1)) (outs := spec_l3At_O (-1)) Try.func12 [[]] [] .nil (by kernel_rfl)).is (congrArg spec_l3At_R e) (congrArg spec_l3At_O e))
noncomputable def spec_l3At_k3 : List Item := posI 2000 2 [] [.code spec_l3At_c]
noncomputable def spec_l3At_S2 (list : List TPut) (box : Int) (i : Int) : St := ⟨(vsl 2 ePut list :: (vi box :: (bs 3 (vi i :: (bs 14 []))))), [some []]⟩
noncomputable def spec_l3At_b1 (list : List TPut) (box : Int) (i : Int) : Option (Stp Int Int Unit) :=
  (bif decide (i < (list.length : Int)) then
 ((idx list i).bind fun put =>
 (bif (put.Box == box) then
 some (Stp.ret i)
 else
 some (Stp.nxt (w64 (i + 1)))))
 else
 some (Stp.brk ()))
theorem spec_l3At_b1_ok (list : List TPut) (box : Int) (res : V) (outs : List (Option V)) (x1 : Exc Int Unit) (hb1 : ∀ s : Unit, x1 = .brk s → Fin cx spec_l3At_X res outs spec_l3At_k1 (spec_l3At_S1)) (hr1 : ∀ v : Int, x1 = .ret v → (res = spec_l3At_R v ∧ outs = spec_l3At_O v)) (st1 : Stp Int Int Unit) (hc1 : Cont x1 (fun s : Int => Fin cx spec_l3At_X res outs spec_l3At_k3 (spec_l3At_S2 list box s)) st1) (i : Int) (h : spec_l3At_b1 list box i = some st1) : Fin cx spec_l3At_X res outs spec_l3At_k3 (spec_l3At_S2 list box i) :=
  (condD h (fun e1 h =>
 (bindD h fun put hput h =>
 (condD h (fun e2 h =>
 (retD h hc1 fun e => (Fin.fin (cx := cx) (X := spec_l3At_X) (res := spec_l3At_R i) (outs := spec_l3At_O i) Try.func12 [[(3, { d := some true })], [(2, { a := .row (ePut put) }), (6, { d := some true })], []] [decide (i < (list.length : Int)) = true, (0 : Int) ≤ i, i < ((list.length : Nat) : Int), (list.map ePut)[i.toNat]? = some (ePut put), (put.Box == box) = true] (.cons e1 (.cons (idx0 hput) (.cons (idx1 hput) (.cons (map_idx hput) (.cons e2 .nil))))) (by kernel_rfl)).is (hr1 _ e).1 (hr1 _ e).2)) (fun e2 h =>
 (nxtD h hc1 fun hI => (Fin.seg [[(3, { d := some true })], [(2, { a := .row (ePut put) }), (6, { d := some false })], []] [] [0, 1, 5] [] [decide (i < (list.length : Int)) = true, (0 : Int) ≤ i, i < ((list.length : Nat) : Int), (list.map ePut)[i.toNat]? = some (ePut put), (put.Box == box) = false] (.cons e1 (.cons (idx0 hput) (.cons (idx1 hput) (.cons (map_idx hput) (.cons e2 .nil))))) hI (by kernel_rfl))))))) (fun e1 h =>
 (brkD h hc1 fun e => (Fin.seg [[(3, { d := some false })]] [] [] [] [decide (i < (list.length : Int)) = false] (.cons e1 .nil) (hb1 _ e) (by kernel_rfl)))))
theorem spec_l3At_b1_loop (list : List TPut) (box : Int) (res : V) (outs : List (Option V)) (x1 : Exc Int Unit) (hb1 : ∀ s : Unit, x1 = .brk s → Fin cx spec_l3At_X res outs spec_l3At_k1 (spec_l3At_S1)) (hr1 : ∀ v : Int, x1 = .ret v → (res = spec_l3At_R v ∧ outs = spec_l3At_O v)) (s : Int) (h : loop (fun s : Int => spec_l3At_b1 list box s) s = some x1) : Fin cx spec_l3At_X res outs spec_l3At_k3 (spec_l3At_S2 list box s) :=
  loopD (I := fun s : Int => Fin cx spec_l3At_X res outs spec_l3At_k3 (spec_l3At_S2 list box s)) h fun s st h hc => spec_l3At_b1_ok list box res outs x1 hb1 hr1 st hc s h
noncomputable def spec_l3At (list : List TPut) (box : Int) : Option Int :=
  ((loop (fun s : Int => spec_l3At_b1 list box s) 0).bind fun x => x.go (fun r => some r) fun s => spec_l3At_k2)
theorem spec_l3At_fin (list : List TPut) (box : Int) (r : Int) (h : spec_l3At list box = some r) : Fin cx spec_l3At_X (spec_l3At_R r) (spec_l3At_O r) [.code spec_l3At_c] (startS spec_l3At_X [vsl 2 ePut list, vi box]) :=
  (loopJ h fun x hl hr hb => (Fin.seg [[], []] [] [0, 1, 5] [] [] .nil (spec_l3At_b1_loop list box _ _ x (fun s e => spec_l3At_k2_ok r (hb s e)) (fun v e => ⟨congrArg spec_l3At_R (Option.some.inj (hr v e)).symm, congrArg spec_l3At_O (Option.some.inj (hr v e)).symm⟩) 0 hl) (by kernel_rfl)))
theorem spec_l3At_ok (list : List TPut) (box : Int) (r : Int) (h : spec_l3At list box = some r) : ACalls cx.P 12 [vsl 2 ePut list, vi box] (spec_l3At_R r) (spec_l3At_O r) :=
  ACalls.of (cx := cx) (X := spec_l3At_X) (c := spec_l3At_c) Try.func12 (by kernel_rfl) (by kernel_rfl) (by kernel_rfl) (spec_l3At_fin list box r h)

/-! ### spec_ExecOk -/
noncomputable def spec_ExecOk_c : Code := bodyOf Try.f33
noncomputable def spec_ExecOk_X : Sig := { f := 33, fn := Try.f33, rms := [.val [] []], oms := [none] }
noncomputable def spec_ExecOk_R (r : Bool) : V := .b r
noncomputable def spec_ExecOk_O (r : Bool) : List (Option V) := [none]
noncomputable def spec_ExecOk_k1 : List Item := posI 2000 2 [false] [.code spec_ExecOk_c]
noncomputable def spec_ExecOk_S1 (r_ : TRun) : St := ⟨(bs 1 (.ptr 1 0 0 :: (bs 129 []))), [some [], some [.var 45 [vsl 2 eRead r_.Reads, vsl 2 ePut r_.Puts, vi r_.Val, vi r_.Code]]]⟩
noncomputable def spec_ExecOk_k2 : List Item := posI 2000 4 [false, false] [.code spec_ExecOk_c]
noncomputable def spec_ExecOk_S2 (r_ : TRun) : St := ⟨(bs 1 (.ptr 1 0 0 :: (bs 129 []))), [some [], some [.var 45 [vsl 2 eRead r_.Reads, vsl 2 ePut r_.Puts, vi r_.Val, vi r_.Code]]]⟩
noncomputable def spec_ExecOk_k3 : List Item := posI 2000 6 [false, false, false] [.code spec_ExecOk_c]
noncomputable def spec_ExecOk_S3 : St := ⟨(bs 131 []), [some []]⟩
noncomputable def spec_ExecOk_k4 : Option Bool :=
  some true
theorem spec_ExecOk_k4_ok (r : Bool) (h : spec_ExecOk_k4 = some r) : Fin cx spec_ExecOk_X (spec_ExecOk_R r) (spec_ExecOk_O r) spec_ExecOk_k3 (spec_ExecOk_S3) :=
  (someD h fun e => (Fin.fin (cx := cx) (X := spec_ExecOk_X) (res := spec_ExecOk_R true) (outs := spec_ExecOk_O true) Try.func33 [[]] [] .nil (by kernel_rfl)).is (congrArg spec_ExecOk_R e) (congrArg spec_ExecOk_O e))
noncomputable def spec_ExecOk_k5 : List Item := posI 2000 5 [false, false] [.code spec_ExecOk_c]
noncomputable def spec_ExecOk_S4 (r_ : TRun) (i1 : Int) : St := ⟨(bs 1 (.ptr 1 0 0 :: (bs 2 (vi i1 :: (bs 126 []))))), [some [], some [.var 45 [vsl 2 eRead r_.Reads, vsl 2 ePut r_.Puts, vi r_.Val, vi r_.Code]]]⟩
noncomputable def spec_ExecOk_b1 (r_ : TRun) (i1 : Int) : Option (Stp Bool Int Unit) :=
  (bif decide (i1 < (r_.Puts.length : Int)) then
 ((idx r_.Puts i1).bind fun put =>
 ((spec_l2Box put.Box).bind fun l2Box =>
 (bif (!l2Box) then
 some (Stp.ret false)
 else
 ((spec_l1Num put.Val).bind fun l1Num =>
 (bif (!l1Num) then
 some (Stp.ret false)
 else
 (need ((0 : Int) ≤ i1 ∧ i1 ≤ (r_.Puts.length : Int))
 (((spec_l3At ((r_.Puts.drop 0).take (i1.toNat - 0)) put.Box).bind fun l3At =>
 (bif decide (l3At ≥ 0) then
 some (Stp.ret false)
 else
 some (Stp.nxt (w64 (i1 + 1))))))))))))
 else
 some (Stp.brk ()))
theorem spec_ExecOk_b1_ok (r_ : TRun) (res : V) (outs : List (Option V)) (x1 : Exc Bool Unit) (hb1 : ∀ s : Unit, x1 = .brk s → Fin cx spec_ExecOk_X res outs spec_ExecOk_k3 (spec_ExecOk_S3)) (hr1 : ∀ v : Bool, x1 = .ret v → (res = spec_ExecOk_R v ∧ outs = spec_ExecOk_O v)) (st1 : Stp Bool Int Unit) (hc1 : Cont x1 (fun s : Int => Fin cx spec_ExecOk_X res outs spec_ExecOk_k5 (spec_ExecOk_S4 r_ s)) st1) (i1 : Int) (h : spec_ExecOk_b1 r_ i1 = some st1) : Fin cx spec_ExecOk_X res outs spec_ExecOk_k5 (spec_ExecOk_S4 r_ i1) :=
  (condD h (fun e1 h =>
 (bindD h fun put hput h =>
 (bindD h fun l2Box hl2Box h =>
 (condD h (fun e2 h =>
 (retD h hc1 fun e => (Fin.fin (cx := cx) (X := spec_ExecOk_X) (res := spec_ExecOk_R false) (outs := spec_ExecOk_O false) Try.func33 [[(4, { d := some true })], [(3, { a := .row (ePut put) }), (6, { a := .call [.val [] []] false (spec_l2Box_R l2Box) (spec_l2Box_O l2Box) }), (8, { d := some true })], []] [decide (i1 < (r_.Puts.length : Int)) = true, (0 : Int) ≤ i1, i1 < ((r_.Puts.length : Nat) : Int), (r_.Puts.map ePut)[i1.toNat]? = some (ePut put), ACalls cx.P 53 [vi put.Box] (spec_l2Box_R l2Box) (spec_l2Box_O l2Box), (!l2Box) = true] (.cons e1 (.cons (idx0 hput) (.cons (idx1 hput) (.cons (map_idx hput) (.cons (spec_l2Box_ok put.Box l2Box hl2Box) (.cons e2 .nil)))))) (by kernel_rfl)).is (hr1 _ e).1 (hr1 _ e).2)) (fun e2 h =>
 (bindD h fun l1Num hl1Num h =>
 (condD h (fun e3 h =>
 (retD h hc1 fun e => (Fin.fin (cx := cx) (X := spec_ExecOk_X) (res := spec_ExecOk_R false) (outs := spec_ExecOk_O false) Try.func33 [[(4, { d := some true })], [(3, { a := .row (ePut put) }), (6, { a := .call [.val [] []] false (spec_l2Box_R l2Box) (spec_l2Box_O l2Box) }), (8, { d := some false }), (12, { a := .row (ePut put) }), (15, { a := .call [.val [] []] false (spec_l1Num_R l1Num) (spec_l1Num_O l1Num) }), (18, { d := some true })], []] [decide (i1 < (r_.Puts.length : Int)) = true, (0 : Int) ≤ i1, i1 < ((r_.Puts.length : Nat) : Int), (r_.Puts.map ePut)[i1.toNat]? = some (ePut put), ACalls cx.P 53 [vi put.Box] (spec_l2Box_R l2Box) (spec_l2Box_O l2Box), (!l2Box) = false, (0 : Int) ≤ i1, i1 < ((r_.Puts.length : Nat) : Int), (r_.Puts.map ePut)[i1.toNat]? = some (ePut put), ACalls cx.P 52 [vi put.Val] (spec_l1Num_R l1Num) (spec_l1Num_O l1Num), (!l1Num) = true] (.cons e1 (.cons (idx0 hput) (.cons (idx1 hput) (.cons (map_idx hput) (.cons (spec_l2Box_ok put.Box l2Box hl2Box) (.cons e2 (.cons (idx0 hput) (.cons (idx1 hput) (.cons (map_idx hput) (.cons (spec_l1Num_ok put.Val l1Num hl1Num) (.cons e3 .nil))))))))))) (by kernel_rfl)).is (hr1 _ e).1 (hr1 _ e).2)) (fun e3 h =>
 (needD h fun e4 h =>
 (bindD h fun l3At hl3At h =>
 (condD h (fun e5 h =>
 (retD h hc1 fun e => (Fin.fin (cx := cx) (X := spec_ExecOk_X) (res := spec_ExecOk_R false) (outs := spec_ExecOk_O false) Try.func33 [[(4, { d := some true })], [(3, { a := .row (ePut put) }), (6, { a := .call [.val [] []] false (spec_l2Box_R l2Box) (spec_l2Box_O l2Box) }), (8, { d := some false }), (12, { a := .row (ePut put) }), (15, { a := .call [.val [] []] false (spec_l1Num_R l1Num) (spec_l1Num_O l1Num) }), (18, { d := some false }), (22, { v := some (vsl 2 ePut ((r_.Puts.drop 0).take (i1.toNat - 0))) }), (26, { a := .row (ePut put) }), (29, { a := .call [.val [some 2] [], .val [] []] false (spec_l3At_R l3At) (spec_l3At_O l3At) }), (31, { d := some true })], []] [decide (i1 < (r_.Puts.length : Int)) = true, (0 : Int) ≤ i1, i1 < ((r_.Puts.length : Nat) : Int), (r_.Puts.map ePut)[i1.toNat]? = some (ePut put), ACalls cx.P 53 [vi put.Box] (spec_l2Box_R l2Box) (spec_l2Box_O l2Box), (!l2Box) = false, (0 : Int) ≤ i1, i1 < ((r_.Puts.length : Nat) : Int), (r_.Puts.map ePut)[i1.toNat]? = some (ePut put), ACalls cx.P 52 [vi put.Val] (spec_l1Num_R l1Num) (spec_l1Num_O l1Num), (!l1Num) = false, V.sl 2 (i1.toNat - 0) (((r_.Puts.map ePut).drop 0).take (i1.toNat - 0)) = vsl 2 ePut ((r_.Puts.drop 0).take (i1.toNat - 0)), (0 : Int) ≤ i1, i1 ≤ ((r_.Puts.length : Nat) : Int), (0 : Int) ≤ i1, i1 < ((r_.Puts.length : Nat) : Int), (r_.Puts.map ePut)[i1.toNat]? = some (ePut put), ACalls cx.P 12 [vsl 2 ePut ((r_.Puts.drop 0).take (i1.toNat - 0)), vi put.Box] (spec_l3At_R l3At) (spec_l3At_O l3At), decide (l3At ≥ 0) = true] (.cons e1 (.cons (idx0 hput) (.cons (idx1 hput) (.cons (map_idx hput) (.cons (spec_l2Box_ok put.Box l2Box hl2Box) (.cons e2 (.cons (idx0 hput) (.cons (idx1 hput) (.cons (map_idx hput) (.cons (spec_l1Num_ok put.Val l1Num hl1Num) (.cons e3 (.cons (sl_h e4) (.cons e4.1 (.cons e4.2 (.cons (idx0 hput) (.cons (idx1 hput) (.cons (map_idx hput) (.cons (spec_l3At_ok ((r_.Puts.drop 0).take (i1.toNat - 0)) put.Box l3At hl3At) (.cons e5 .nil))))))))))))))))))) (by kernel_rfl)).is (hr1 _ e).1 (hr1 _ e).2)) (fun e5 h =>
 (nxtD h hc1 fun hI => (Fin.seg [[(4, { d := some true })], [(3, { a := .row (ePut put) }), (6, { a := .call [.val [] []] false (spec_l2Box_R l2Box) (spec_l2Box_O l2Box) }), (8, { d := some false }), (12, { a := .row (ePut put) }), (15, { a := .call [.val [] []] false (spec_l1Num_R l1Num) (spec_l1Num_O l1Num) }), (18, { d := some false }), (22, { v := some (vsl 2 ePut ((r_.Puts.drop 0).take (i1.toNat - 0))) }), (26, { a := .row (ePut put) }), (29, { a := .call [.val [some 2] [], .val [] []] false (spec_l3At_R l3At) (spec_l3At_O l3At) }), (31, { d := some false })], []] [] [1, 4] [(1, 0)] [decide (i1 < (r_.Puts.length : Int)) = true, (0 : Int) ≤ i1, i1 < ((r_.Puts.length : Nat) : Int), (r_.Puts.map ePut)[i1.toNat]? = some (ePut put), ACalls cx.P 53 [vi put.Box] (spec_l2Box_R l2Box) (spec_l2Box_O l2Box), (!l2Box) = false, (0 : Int) ≤ i1, i1 < ((r_.Puts.length : Nat) : Int), (r_.Puts.map ePut)[i1.toNat]? = some (ePut put), ACalls cx.P 52 [vi put.Val] (spec_l1Num_R l1Num) (spec_l1Num_O l1Num), (!l1Num) = false, V.sl 2 (i1.toNat - 0) (((r_.Puts.map ePut).drop 0).take (i1.toNat - 0)) = vsl 2 ePut ((r_.Puts.drop 0).take (i1.toNat - 0)), (0 : Int) ≤ i1, i1 ≤ ((r_.Puts.length : Nat) : Int), (0 : Int) ≤ i1, i1 < ((r_.Puts.length : Nat) : Int), (r_.Puts.map ePut)[i1.toNat]? = some (ePut put), ACalls cx.P 12 [vsl 2 ePut ((r_.Puts.drop 0).take (i1.toNat - 0)), vi put.Box] (spec_l3At_R l3At) (spec_l3At_O l3At), decide (l3At ≥ 0) = false] (.cons e1 (.cons (idx0 hput) (.cons (idx1 hput) (.cons (map_idx hput) (.cons (spec_l2Box_ok put.Box l2Box hl2Box) (.cons e2 (.cons (idx0 hput) (.cons (idx1 hput) (.cons (map_idx hput) (.cons (spec_l1Num_ok put.Val l1Num hl1Num) (.cons e3 (.cons (sl_h e4) (.cons e4.1 (.cons e4.2 (.cons (idx0 hput) (.cons (idx1 hput) (.cons (map_idx hput) (.cons (spec_l3At_ok ((r_.Puts.drop 0).take (i1.toNat - 0)) put.Box l3At hl3At) (.cons e5 .nil))))))))))))))))))) hI (by kernel_rfl))))))))))))))) (fun e1 h =>
 (brkD h hc1 fun e => (Fin.seg [[(4, { d := some false })]] [] [] [] [decide (i1 < (r_.Puts.length : Int)) = false] (.cons e1 .nil) (hb1 _ e) (by kernel_rfl)))))
theorem spec_ExecOk_b1_loop (r_ : TRun) (res : V) (outs : List (Option V)) (x1 : Exc Bool Unit) (hb1 : ∀ s : Unit, x1 = .brk s → Fin cx spec_ExecOk_X res outs spec_ExecOk_k3 (spec_ExecOk_S3)) (hr1 : ∀ v : Bool, x1 = .ret v → (res = spec_ExecOk_R v ∧ outs = spec_ExecOk_O v)) (s : Int) (h : loop (fun s : Int => spec_ExecOk_b1 r_ s) s = some x1) : Fin cx spec_ExecOk_X res outs spec_ExecOk_k5 (spec_ExecOk_S4 r_ s) :=
  loopD (I := fun s : Int => Fin cx spec_ExecOk_X res outs spec_ExecOk_k5 (spec_ExecOk_S4 r_ s)) h fun s st h hc => spec_ExecOk_b1_ok r_ res outs x1 hb1 hr1 st hc s h
noncomputable def spec_ExecOk_k6 (r_ : TRun) : Option Bool :=
  ((loop (fun s : Int => spec_ExecOk_b1 r_ s) 0).bind fun x => x.go (fun r => some r) fun s => spec_ExecOk_k4)
theorem spec_ExecOk_k6_ok (r_ : TRun) (r : Bool) (h : spec_ExecOk_k6 r_ = some r) : Fin cx spec_ExecOk_X (spec_ExecOk_R r) (spec_ExecOk_O r) spec_ExecOk_k2 (spec_ExecOk_S2 r_) :=
  (loopJ h fun x hl hr hb => (Fin.seg [[]] [] [1, 4] [(1, 0)] [] .nil (spec_ExecOk_b1_loop r_ _ _ x (fun s e => spec_ExecOk_k4_ok r (hb s e)) (fun v e => ⟨congrArg spec_ExecOk_R (Option.some.inj (hr v e)).symm, congrArg spec_ExecOk_O (Option.some.inj (hr v e)).symm⟩) 0 hl) (by kernel_rfl)))
noncomputable def spec_ExecOk_k7 : List Item := posI 2000 3 [false] [.code spec_ExecOk_c]
noncomputable def spec_ExecOk_S5 (r_ : TRun) (i : Int) : St := ⟨(bs 1 (.ptr 1 0 0 :: (bs 1 (vi i :: (bs 127 []))))), [some [], some [.var 45 [vsl 2 eRead r_.Reads, vsl 2 ePut r_.Puts, vi r_.Val, vi r_.Code]]]⟩
noncomputable def spec_ExecOk_b2 (r_ : TRun) (i : Int) : Option (Stp Bool Int Unit) :=
  (bif decide (i < (r_.Reads.length : Int)) then
 ((idx r_.Reads i).bind fun read =>
 ((spec_l2Box read.Box).bind fun l2Box1 =>
 (bif (!l2Box1) then
 some (Stp.ret false)
 else
 (bif decide (read.Ver < 0) then
 some (Stp.ret false)
 else
 (bif decide (read.Ver > 1000000) then
 some (Stp.ret false)
 else
 (need ((0 : Int) ≤ i ∧ i ≤ (r_.Reads.length : Int))
 (((spec_l3Saw ((r_.Reads.drop 0).take (i.toNat - 0)) read.Box).bind fun l3Saw =>
 (bif l3Saw then
 some (Stp.ret false)
 else
 some (Stp.nxt (w64 (i + 1))))))))))))
 else
 some (Stp.brk ()))
theorem spec_ExecOk_b2_ok (r_ : TRun) (res : V) (outs : List (Option V)) (x1 : Exc Bool Unit) (hb1 : ∀ s : Unit, x1 = .brk s → Fin cx spec_ExecOk_X res outs spec_ExecOk_k2 (spec_ExecOk_S2 r_)) (hr1 : ∀ v : Bool, x1 = .ret v → (res = spec_ExecOk_R v ∧ outs = spec_ExecOk_O v)) (st1 : Stp Bool Int Unit) (hc1 : Cont x1 (fun s : Int => Fin cx spec_ExecOk_X res outs spec_ExecOk_k7 (spec_ExecOk_S5 r_ s)) st1) (i : Int) (h : spec_ExecOk_b2 r_ i = some st1) : Fin cx spec_ExecOk_X res outs spec_ExecOk_k7 (spec_ExecOk_S5 r_ i) :=
  (condD h (fun e6 h =>
 (bindD h fun read hread h =>
 (bindD h fun l2Box1 hl2Box1 h =>
 (condD h (fun e7 h =>
 (retD h hc1 fun e => (Fin.fin (cx := cx) (X := spec_ExecOk_X) (res := spec_ExecOk_R false) (outs := spec_ExecOk_O false) Try.func33 [[(4, { d := some true })], [(3, { a := .row (eRead read) }), (6, { a := .call [.val [] []] false (spec_l2Box_R l2Box1) (spec_l2Box_O l2Box1) }), (8, { d := some true })], []] [decide (i < (r_.Reads.length : Int)) = true, (0 : Int) ≤ i, i < ((r_.Reads.length : Nat) : Int), (r_.Reads.map eRead)[i.toNat]? = some (eRead read), ACalls cx.P 53 [vi read.Box] (spec_l2Box_R l2Box1) (spec_l2Box_O l2Box1), (!l2Box1) = true] (.cons e6 (.cons (idx0 hread) (.cons (idx1 hread) (.cons (map_idx hread) (.cons (spec_l2Box_ok read.Box l2Box1 hl2Box1) (.cons e7 .nil)))))) (by kernel_rfl)).is (hr1 _ e).1 (hr1 _ e).2)) (fun e7 h =>
 (condD h (fun e8 h =>
 (retD h hc1 fun e => (Fin.fin (cx := cx) (X := spec_ExecOk_X) (res := spec_ExecOk_R false) (outs := spec_ExecOk_O false) Try.func33 [[(4, { d := some true })], [(3, { a := .row (eRead read) }), (6, { a := .call [.val [] []] false (spec_l2Box_R l2Box1) (spec_l2Box_O l2Box1) }), (8, { d := some false }), (12, { a := .row (eRead read) }), (17, { d := some true })], []] [decide (i < (r_.Reads.length : Int)) = true, (0 : Int) ≤ i, i < ((r_.Reads.length : Nat) : Int), (r_.Reads.map eRead)[i.toNat]? = some (eRead read), ACalls cx.P 53 [vi read.Box] (spec_l2Box_R l2Box1) (spec_l2Box_O l2Box1), (!l2Box1) = false, (0 : Int) ≤ i, i < ((r_.Reads.length : Nat) : Int), (r_.Reads.map eRead)[i.toNat]? = some (eRead read), decide (read.Ver < 0) = true] (.cons e6 (.cons (idx0 hread) (.cons (idx1 hread) (.cons (map_idx hread) (.cons (spec_l2Box_ok read.Box l2Box1 hl2Box1) (.cons e7 (.cons (idx0 hread) (.cons (idx1 hread) (.cons (map_idx hread) (.cons e8 .nil)))))))))) (by kernel_rfl)).is (hr1 _ e).1 (hr1 _ e).2)) (fun e8 h =>
 (condD h (fun e9 h =>
 (retD h hc1 fun e => (Fin.fin (cx := cx) (X := spec_ExecOk_X) (res := spec_ExecOk_R false) (outs := spec_ExecOk_O false) Try.func33 [[(4, { d := some true })], [(3, { a := .row (eRead read) }), (6, { a := .call [.val [] []] false (spec_l2Box_R l2Box1) (spec_l2Box_O l2Box1) }), (8, { d := some false }), (12, { a := .row (eRead read) }), (17, { d := some false }), (21, { a := .row (eRead read) }), (26, { d := some true })], []] [decide (i < (r_.Reads.length : Int)) = true, (0 : Int) ≤ i, i < ((r_.Reads.length : Nat) : Int), (r_.Reads.map eRead)[i.toNat]? = some (eRead read), ACalls cx.P 53 [vi read.Box] (spec_l2Box_R l2Box1) (spec_l2Box_O l2Box1), (!l2Box1) = false, (0 : Int) ≤ i, i < ((r_.Reads.length : Nat) : Int), (r_.Reads.map eRead)[i.toNat]? = some (eRead read), decide (read.Ver < 0) = false, (0 : Int) ≤ i, i < ((r_.Reads.length : Nat) : Int), (r_.Reads.map eRead)[i.toNat]? = some (eRead read), decide (read.Ver > 1000000) = true] (.cons e6 (.cons (idx0 hread) (.cons (idx1 hread) (.cons (map_idx hread) (.cons (spec_l2Box_ok read.Box l2Box1 hl2Box1) (.cons e7 (.cons (idx0 hread) (.cons (idx1 hread) (.cons (map_idx hread) (.cons e8 (.cons (idx0 hread) (.cons (idx1 hread) (.cons (map_idx hread) (.cons e9 .nil)))))))))))))) (by kernel_rfl)).is (hr1 _ e).1 (hr1 _ e).2)) (fun e9 h =>
 (needD h fun e10 h =>
 (bindD h fun l3Saw hl3Saw h =>
 (condD h (fun e11 h =>
 (retD h hc1 fun e => (Fin.fin (cx := cx) (X := spec_ExecOk_X) (res := spec_ExecOk_R false) (outs := spec_ExecOk_O false) Try.func33 [[(4, { d := some true })], [(3, { a := .row (eRead read) }), (6, { a := .call [.val [] []] false (spec_l2Box_R l2Box1) (spec_l2Box_O l2Box1) }), (8, { d := some false }), (12, { a := .row (eRead read) }), (17, { d := some false }), (21, { a := .row (eRead read) }), (26, { d := some false }), (30, { v := some (vsl 2 eRead ((r_.Reads.drop 0).take (i.toNat - 0))) }), (34, { a := .row (eRead read) }), (37, { a := .call [.val [some 2] [], .val [] []] false (spec_l3Saw_R l3Saw) (spec_l3Saw_O l3Saw) }), (38, { d := some true })], []] [decide (i < (r_.Reads.length : Int)) = true, (0 : Int) ≤ i, i < ((r_.Reads.length : Nat) : Int), (r_.Reads.map eRead)[i.toNat]? = some (eRead read), ACalls cx.P 53 [vi read.Box] (spec_l2Box_R l2Box1) (spec_l2Box_O l2Box1), (!l2Box1) = false, (0 : Int) ≤ i, i < ((r_.Reads.length : Nat) : Int), (r_.Reads.map eRead)[i.toNat]? = some (eRead read), decide (read.Ver < 0) = false, (0 : Int) ≤ i, i < ((r_.Reads.length : Nat) : Int), (r_.Reads.map eRead)[i.toNat]? = some (eRead read), decide (read.Ver > 1000000) = false, V.sl 2 (i.toNat - 0) (((r_.Reads.map eRead).drop 0).take (i.toNat - 0)) = vsl 2 eRead ((r_.Reads.drop 0).take (i.toNat - 0)), (0 : Int) ≤ i, i ≤ ((r_.Reads.length : Nat) : Int), (0 : Int) ≤ i, i < ((r_.Reads.length : Nat) : Int), (r_.Reads.map eRead)[i.toNat]? = some (eRead read), ACalls cx.P 54 [vsl 2 eRead ((r_.Reads.drop 0).take (i.toNat - 0)), vi read.Box] (spec_l3Saw_R l3Saw) (spec_l3Saw_O l3Saw), l3Saw = true] (.cons e6 (.cons (idx0 hread) (.cons (idx1 hread) (.cons (map_idx hread) (.cons (spec_l2Box_ok read.Box l2Box1 hl2Box1) (.cons e7 (.cons (idx0 hread) (.cons (idx1 hread) (.cons (map_idx hread) (.cons e8 (.cons (idx0 hread) (.cons (idx1 hread) (.cons (map_idx hread) (.cons e9 (.cons (sl_h e10) (.cons e10.1 (.cons e10.2 (.cons (idx0 hread) (.cons (idx1 hread) (.cons (map_idx hread) (.cons (spec_l3Saw_ok ((r_.Reads.drop 0).take (i.toNat - 0)) read.Box l3Saw hl3Saw) (.cons e11 .nil)))))))))))))))))))))) (by kernel_rfl)).is (hr1 _ e).1 (hr1 _ e).2)) (fun e11 h =>
 (nxtD h hc1 fun hI => (Fin.seg [[(4, { d := some true })], [(3, { a := .row (eRead read) }), (6, { a := .call [.val [] []] false (spec_l2Box_R l2Box1) (spec_l2Box_O l2Box1) }), (8, { d := some false }), (12, { a := .row (eRead read) }), (17, { d := some false }), (21, { a := .row (eRead read) }), (26, { d := some false }), (30, { v := some (vsl 2 eRead ((r_.Reads.drop 0).take (i.toNat - 0))) }), (34, { a := .row (eRead read) }), (37, { a := .call [.val [some 2] [], .val [] []] false (spec_l3Saw_R l3Saw) (spec_l3Saw_O l3Saw) }), (38, { d := some false })], []] [] [1, 3] [(1, 0)] [decide (i < (r_.Reads.length : Int)) = true, (0 : Int) ≤ i, i < ((r_.Reads.length : Nat) : Int), (r_.Reads.map eRead)[i.toNat]? = some (eRead read), ACalls cx.P 53 [vi read.Box] (spec_l2Box_R l2Box1) (spec_l2Box_O l2Box1), (!l2Box1) = false, (0 : Int) ≤ i, i < ((r_.Reads.length : Nat) : Int), (r_.Reads.map eRead)[i.toNat]? = some (eRead read), decide (read.Ver < 0) = false, (0 : Int) ≤ i, i < ((r_.Reads.length : Nat) : Int), (r_.Reads.map eRead)[i.toNat]? = some (eRead read), decide (read.Ver > 1000000) = false, V.sl 2 (i.toNat - 0) (((r_.Reads.map eRead).drop 0).take (i.toNat - 0)) = vsl 2 eRead ((r_.Reads.drop 0).take (i.toNat - 0)), (0 : Int) ≤ i, i ≤ ((r_.Reads.length : Nat) : Int), (0 : Int) ≤ i, i < ((r_.Reads.length : Nat) : Int), (r_.Reads.map eRead)[i.toNat]? = some (eRead read), ACalls cx.P 54 [vsl 2 eRead ((r_.Reads.drop 0).take (i.toNat - 0)), vi read.Box] (spec_l3Saw_R l3Saw) (spec_l3Saw_O l3Saw), l3Saw = false] (.cons e6 (.cons (idx0 hread) (.cons (idx1 hread) (.cons (map_idx hread) (.cons (spec_l2Box_ok read.Box l2Box1 hl2Box1) (.cons e7 (.cons (idx0 hread) (.cons (idx1 hread) (.cons (map_idx hread) (.cons e8 (.cons (idx0 hread) (.cons (idx1 hread) (.cons (map_idx hread) (.cons e9 (.cons (sl_h e10) (.cons e10.1 (.cons e10.2 (.cons (idx0 hread) (.cons (idx1 hread) (.cons (map_idx hread) (.cons (spec_l3Saw_ok ((r_.Reads.drop 0).take (i.toNat - 0)) read.Box l3Saw hl3Saw) (.cons e11 .nil)))))))))))))))))))))) hI (by kernel_rfl)))))))))))))))) (fun e6 h =>
 (brkD h hc1 fun e => (Fin.seg [[(4, { d := some false })]] [] [1] [(1, 0)] [decide (i < (r_.Reads.length : Int)) = false] (.cons e6 .nil) (hb1 _ e) (by kernel_rfl)))))
theorem spec_ExecOk_b2_loop (r_ : TRun) (res : V) (outs : List (Option V)) (x1 : Exc Bool Unit) (hb1 : ∀ s : Unit, x1 = .brk s → Fin cx spec_ExecOk_X res outs spec_ExecOk_k2 (spec_ExecOk_S2 r_)) (hr1 : ∀ v : Bool, x1 = .ret v → (res = spec_ExecOk_R v ∧ outs = spec_ExecOk_O v)) (s : Int) (h : loop (fun s : Int => spec_ExecOk_b2 r_ s) s = some x1) : Fin cx spec_ExecOk_X res outs spec_ExecOk_k7 (spec_ExecOk_S5 r_ s) :=
  loopD (I := fun s : Int => Fin cx spec_ExecOk_X res outs spec_ExecOk_k7 (spec_ExecOk_S5 r_ s)) h fun s st h hc => spec_ExecOk_b2_ok r_ res outs x1 hb1 hr1 st hc s h
noncomputable def spec_ExecOk_j1 (r_ : TRun) : Option Bool :=
  ((loop (fun s : Int => spec_ExecOk_b2 r_ s) 0).bind fun x => x.go (fun r => some r) fun s => spec_ExecOk_k6 r_)
theorem spec_ExecOk_j1_ok (r_ : TRun) (r : Bool) (h : spec_ExecOk_j1 r_ = some r) : Fin cx spec_ExecOk_X (spec_ExecOk_R r) (spec_ExecOk_O r) spec_ExecOk_k1 (spec_ExecOk_S1 r_) :=
  (loopJ h fun x hl hr hb => (Fin.seg [[]] [] [1, 3] [(1, 0)] [] .nil (spec_ExecOk_b2_loop r_ _ _ x (fun s e => spec_ExecOk_k6_ok r_ r (hb s e)) (fun v e => ⟨congrArg spec_ExecOk_R (Option.some.inj (hr v e)).symm, congrArg spec_ExecOk_O (Option.some.inj (hr v e)).symm⟩) 0 hl) (by kernel_rfl)))
noncomputable def spec_ExecOk (r_ : TRun) : Option Bool :=
  (((bif decide (r_.Code < 0) then
 some (Exc.ret false)
 else
 (bif decide (r_.Code > 3) then
 some (Exc.ret false)
 else
 ((spec_l1Num r_.Val).bind fun l1Num1 =>
 (bif (!l1Num1) then
 some (Exc.ret false)
 else
 (bif (r_.Code != 0) then
 (bif (r_.Val != 0) then
 some (Exc.ret false)
 else
 (bif decide ((r_.Puts.length : Int) > 0) then
 some (Exc.ret false)
 else
 (bif (r_.Code == 3) then
 (bif decide ((r_.Reads.length : Int) > 0) then
 some (Exc.ret false)
 else
 some (Exc.brk ()))
 else
 some (Exc.brk ()))))
 else
 (bif (r_.Code == 3) then
 (bif decide ((r_.Reads.length : Int) > 0) then
 some (Exc.ret false)
 else
 some (Exc.brk ()))
 else
 some (Exc.brk ()))))))) : Option (Exc Bool Unit)).bind fun x => x.go some fun j => spec_ExecOk_j1 r_)
theorem spec_ExecOk_fin (r_ : TRun) (r : Bool) (h : spec_ExecOk r_ = some r) : Fin cx spec_ExecOk_X (spec_ExecOk_R r) (spec_ExecOk_O r) [.code spec_ExecOk_c] (startS spec_ExecOk_X [.agg (eRun r_)]) :=
  (joinD (I := fun j : Unit => Fin cx spec_ExecOk_X (spec_ExecOk_R r) (spec_ExecOk_O r) spec_ExecOk_k1 (spec_ExecOk_S1 r_)) h (fun j h => spec_ExecOk_j1_ok r_ r h) (fun x1 h hc1 =>
  (condD h (fun e12 h =>
 (jretD h hc1 fun h => (someD h fun e => (Fin.fin (cx := cx) (X := spec_ExecOk_X) (res := spec_ExecOk_R false) (outs := spec_ExecOk_O false) Try.func33 [[], [(3, { d := some true })], []] [decide (r_.Code < 0) = true] (.cons e12 .nil) (by kernel_rfl)).is (congrArg spec_ExecOk_R e) (congrArg spec_ExecOk_O e)))) (fun e12 h =>
 (condD h (fun e13 h =>
 (jretD h hc1 fun h => (someD h fun e => (Fin.fin (cx := cx) (X := spec_ExecOk_X) (res := spec_ExecOk_R false) (outs := spec_ExecOk_O false) Try.func33 [[], [(3, { d := some false }), (8, { d := some true })], []] [decide (r_.Code < 0) = false, decide (r_.Code > 3) = true] (.cons e12 (.cons e13 .nil)) (by kernel_rfl)).is (congrArg spec_ExecOk_R e) (congrArg spec_ExecOk_O e)))) (fun e13 h =>
 (bindD h fun l1Num1 hl1Num1 h =>
 (condD h (fun e14 h =>
 (jretD h hc1 fun h => (someD h fun e => (Fin.fin (cx := cx) (X := spec_ExecOk_X) (res := spec_ExecOk_R false) (outs := spec_ExecOk_O false) Try.func33 [[], [(3, { d := some false }), (8, { d := some false }), (11, { a := .call [.val [] []] false (spec_l1Num_R l1Num1) (spec_l1Num_O l1Num1) }), (14, { d := some true })], []] [decide (r_.Code < 0) = false, decide (r_.Code > 3) = false, ACalls cx.P 52 [vi r_.Val] (spec_l1Num_R l1Num1) (spec_l1Num_O l1Num1), (!l1Num1) = true] (.cons e12 (.cons e13 (.cons (spec_l1Num_ok r_.Val l1Num1 hl1Num1) (.cons e14 .nil)))) (by kernel_rfl)).is (congrArg spec_ExecOk_R e) (congrArg spec_ExecOk_O e)))) (fun e14 h =>
 (condD h (fun e15 h =>
 (condD h (fun e16 h =>
 (jretD h hc1 fun h => (someD h fun e => (Fin.fin (cx := cx) (X := spec_ExecOk_X) (res := spec_ExecOk_R false) (outs := spec_ExecOk_O false) Try.func33 [[], [(3, { d := some false }), (8, { d := some false }), (11, { a := .call [.val [] []] false (spec_l1Num_R l1Num1) (spec_l1Num_O l1Num1) }), (14, { d := some false }), (18, { d := some true }), (22, { d := some true })], []] [decide (r_.Code < 0) = false, decide (r_.Code > 3) = false, ACalls cx.P 52 [vi r_.Val] (spec_l1Num_R l1Num1) (spec_l1Num_O l1Num1), (!l1Num1) = false, (r_.Code != 0) = true, (r_.Val != 0) = true] (.cons e12 (.cons e13 (.cons (spec_l1Num_ok r_.Val l1Num1 hl1Num1) (.cons e14 (.cons e15 (.cons e16 .nil)))))) (by kernel_rfl)).is (congrArg spec_ExecOk_R e) (congrArg spec_ExecOk_O e)))) (fun e16 h =>
 (condD h (fun e17 h =>
 (jretD h hc1 fun h => (someD h fun e => (Fin.fin (cx := cx) (X := spec_ExecOk_X) (res := spec_ExecOk_R false) (outs := spec_ExecOk_O false) Try.func33 [[], [(3, { d := some false }), (8, { d := some false }), (11, { a := .call [.val [] []] false (spec_l1Num_R l1Num1) (spec_l1Num_O l1Num1) }), (14, { d := some false }), (18, { d := some true }), (22, { d := some false }), (30, { d := some true })], []] [decide (r_.Code < 0) = false, decide (r_.Code > 3) = false, ACalls cx.P 52 [vi r_.Val] (spec_l1Num_R l1Num1) (spec_l1Num_O l1Num1), (!l1Num1) = false, (r_.Code != 0) = true, (r_.Val != 0) = false, decide ((r_.Puts.length : Int) > 0) = true] (.cons e12 (.cons e13 (.cons (spec_l1Num_ok r_.Val l1Num1 hl1Num1) (.cons e14 (.cons e15 (.cons e16 (.cons e17 .nil))))))) (by kernel_rfl)).is (congrArg spec_ExecOk_R e) (congrArg spec_ExecOk_O e)))) (fun e17 h =>
 (condD h (fun e18 h =>
 (condD h (fun e19 h =>
 (jretD h hc1 fun h => (someD h fun e => (Fin.fin (cx := cx) (X := spec_ExecOk_X) (res := spec_ExecOk_R false) (outs := spec_ExecOk_O false) Try.func33 [[], [(3, { d := some false }), (8, { d := some false }), (11, { a := .call [.val [] []] false (spec_l1Num_R l1Num1) (spec_l1Num_O l1Num1) }), (14, { d := some false }), (18, { d := some true }), (22, { d := some false }), (30, { d := some false }), (34, { d := some true }), (40, { d := some true })], []] [decide (r_.Code < 0) = false, decide (r_.Code > 3) = false, ACalls cx.P 52 [vi r_.Val] (spec_l1Num_R l1Num1) (spec_l1Num_O l1Num1), (!l1Num1) = false, (r_.Code != 0) = true, (r_.Val != 0) = false, decide ((r_.Puts.length : Int) > 0) = false, (r_.Code == 3) = true, decide ((r_.Reads.length : Int) > 0) = true] (.cons e12 (.cons e13 (.cons (spec_l1Num_ok r_.Val l1Num1 hl1Num1) (.cons e14 (.cons e15 (.cons e16 (.cons e17 (.cons e18 (.cons e19 .nil))))))))) (by kernel_rfl)).is (congrArg spec_ExecOk_R e) (congrArg spec_ExecOk_O e)))) (fun e19 h =>
 (jbrkD h hc1 fun hI => (Fin.seg [[], [(3, { d := some false }), (8, { d := some false }), (11, { a := .call [.val [] []] false (spec_l1Num_R l1Num1) (spec_l1Num_O l1Num1) }), (14, { d := some false }), (18, { d := some true }), (22, { d := some false }), (30, { d := some false }), (34, { d := some true }), (40, { d := some false })]] [] [1] [(1, 0)] [decide (r_.Code < 0) = false, decide (r_.Code > 3) = false, ACalls cx.P 52 [vi r_.Val] (spec_l1Num_R l1Num1) (spec_l1Num_O l1Num1), (!l1Num1) = false, (r_.Code != 0) = true, (r_.Val != 0) = false, decide ((r_.Puts.length : Int) > 0) = false, (r_.Code == 3) = true, decide ((r_.Reads.length : Int) > 0) = false] (.cons e12 (.cons e13 (.cons (spec_l1Num_ok r_.Val l1Num1 hl1Num1) (.cons e14 (.cons e15 (.cons e16 (.cons e17 (.cons e18 (.cons e19 .nil))))))))) hI (by kernel_rfl)))))) (fun e18 h =>
 (jbrkD h hc1 fun hI => (Fin.seg [[], [(3, { d := some false }), (8, { d := some false }), (11, { a := .call [.val [] []] false (spec_l1Num_R l1Num1) (spec_l1Num_O l1Num1) }), (14, { d := some false }), (18, { d := some true }), (22, { d := some false }), (30, { d := some false }), (34, { d := some false })]] [] [1] [(1, 0)] [decide (r_.Code < 0) = false, decide (r_.Code > 3) = false, ACalls cx.P 52 [vi r_.Val] (spec_l1Num_R l1Num1) (spec_l1Num_O l1Num1), (!l1Num1) = false, (r_.Code != 0) = true, (r_.Val != 0) = false, decide ((r_.Puts.length : Int) > 0) = false, (r_.Code == 3) = false] (.cons e12 (.cons e13 (.cons (spec_l1Num_ok r_.Val l1Num1 hl1Num1) (.cons e14 (.cons e15 (.cons e16 (.cons e17 (.cons e18 .nil)))))))) hI (by kernel_rfl)))))))))) (fun e15 h =>
 (condD h (fun e20 h =>
 (condD h (fun e21 h =>
 (jretD h hc1 fun h => (someD h fun e => (Fin.fin (cx := cx) (X := spec_ExecOk_X) (res := spec_ExecOk_R false) (outs := spec_ExecOk_O false) Try.func33 [[], [(3, { d := some false }), (8, { d := some false }), (11, { a := .call [.val [] []] false (spec_l1Num_R l1Num1) (spec_l1Num_O l1Num1) }), (14, { d := some false }), (18, { d := some false }), (34, { d := some true }), (40, { d := some true })], []] [decide (r_.Code < 0) = false, decide (r_.Code > 3) = false, ACalls cx.P 52 [vi r_.Val] (spec_l1Num_R l1Num1) (spec_l1Num_O l1Num1), (!l1Num1) = false, (r_.Code != 0) = false, (r_.Code == 3) = true, decide ((r_.Reads.length : Int) > 0) = true] (.cons e12 (.cons e13 (.cons (spec_l1Num_ok r_.Val l1Num1 hl1Num1) (.cons e14 (.cons e15 (.cons e20 (.cons e21 .nil))))))) (by kernel_rfl)).is (congrArg spec_ExecOk_R e) (congrArg spec_ExecOk_O e)))) (fun e21 h =>
 (jbrkD h hc1 fun hI => (Fin.seg [[], [(3, { d := some false }), (8, { d := some false }), (11, { a := .call [.val [] []] false (spec_l1Num_R l1Num1) (spec_l1Num_O l1Num1) }), (14, { d := some false }), (18, { d := some false }), (34, { d := some true }), (40, { d := some false })]] [] [1] [(1, 0)] [decide (r_.Code < 0) = false, decide (r_.Code > 3) = false, ACalls cx.P 52 [vi r_.Val] (spec_l1Num_R l1Num1) (spec_l1Num_O l1Num1), (!l1Num1) = false, (r_.Code != 0) = false, (r_.Code == 3) = true, decide ((r_.Reads.length : Int) > 0) = false] (.cons e12 (.cons e13 (.cons (spec_l1Num_ok r_.Val l1Num1 hl1Num1) (.cons e14 (.cons e15 (.cons e20 (.cons e21 .nil))))))) hI (by kernel_rfl)))))) (fun e20 h =>
 (jbrkD h hc1 fun hI => (Fin.seg [[], [(3, { d := some false }), (8, { d := some false }), (11, { a := .call [.val [] []] false (spec_l1Num_R l1Num1) (spec_l1Num_O l1Num1) }), (14, { d := some false }), (18, { d := some false }), (34, { d := some false })]] [] [1] [(1, 0)] [decide (r_.Code < 0) = false, decide (r_.Code > 3) = false, ACalls cx.P 52 [vi r_.Val] (spec_l1Num_R l1Num1) (spec_l1Num_O l1Num1), (!l1Num1) = false, (r_.Code != 0) = false, (r_.Code == 3) = false] (.cons e12 (.cons e13 (.cons (spec_l1Num_ok r_.Val l1Num1 hl1Num1) (.cons e14 (.cons e15 (.cons e20 .nil)))))) hI (by kernel_rfl))))))))))))))))
theorem spec_ExecOk_ok (r_ : TRun) (r : Bool) (h : spec_ExecOk r_ = some r) : ACalls cx.P 33 [.agg (eRun r_)] (spec_ExecOk_R r) (spec_ExecOk_O r) :=
  ACalls.of (cx := cx) (X := spec_ExecOk_X) (c := spec_ExecOk_c) Try.func33 (by kernel_rfl) (by kernel_rfl) (by kernel_rfl) (spec_ExecOk_fin r_ r h)

/-! ### spec_CertEntry -/
noncomputable def spec_CertEntry_c : Code := bodyOf Try.f19
noncomputable def spec_CertEntry_X : Sig := { f := 19, fn := Try.f19, rms := [.val [] []], oms := [none] }
noncomputable def spec_CertEntry_R (r : Bool) : V := .b r
noncomputable def spec_CertEntry_O (r : Bool) : List (Option V) := [none]
noncomputable def spec_CertEntry (e_ : TEntry) : Option Bool :=
  (bif e_.None then
 (bif (([e_.Req.Who, e_.Req.Seq] : List Int) == [0, 0]) then
 ((spec_ExecSame e_.Run (TRun.mk [] [] 0 0)).bind fun execSame =>
 some execSame)
 else
 some false)
 else
 ((spec_l5Req e_.Req).bind fun l5Req =>
 (bif l5Req then
 ((spec_ExecOk e_.Run).bind fun execOk =>
 (bif execOk then
 some (e_.Run.Code != 3)
 else
 some false))
 else
 some false)))
theorem spec_CertEntry_fin (e_ : TEntry) (r : Bool) (h : spec_CertEntry e_ = some r) : Fin cx spec_CertEntry_X (spec_CertEntry_R r) (spec_CertEntry_O r) [.code spec_CertEntry_c] (startS spec_CertEntry_X [.agg (eEntry e_)]) :=
  (condD h (fun e1 h =>
 (condD h (fun e2 h =>
 (bindD h fun execSame hexecSame h =>
 (someD h fun e => (Fin.fin (cx := cx) (X := spec_CertEntry_X) (res := spec_CertEntry_R execSame) (outs := spec_CertEntry_O execSame) Try.func19 [[], [(1, { d := some true })], [(4, { d := some true }), (8, { a := .call [.val [some 2, some 2, none, none] [], .val [some 2, some 2, none, none] []] false (spec_ExecSame_R execSame) (spec_ExecSame_O execSame) })]] [e_.None = true, (([e_.Req.Who, e_.Req.Seq] : List Int) == [0, 0]) = true, ACalls cx.P 31 [.agg (eRun e_.Run), .agg (eRun (TRun.mk [] [] 0 0))] (spec_ExecSame_R execSame) (spec_ExecSame_O execSame)] (.cons e1 (.cons e2 (.cons (spec_ExecSame_ok e_.Run (TRun.mk [] [] 0 0) execSame hexecSame) .nil))) (by kernel_rfl)).is (congrArg spec_CertEntry_R e) (congrArg spec_CertEntry_O e)))) (fun e2 h =>
 (someD h fun e => (Fin.fin (cx := cx) (X := spec_CertEntry_X) (res := spec_CertEntry_R false) (outs := spec_CertEntry_O false) Try.func19 [[], [(1, { d := some true })], [(4, { d := some false })]] [e_.None = true, (([e_.Req.Who, e_.Req.Seq] : List Int) == [0, 0]) = false] (.cons e1 (.cons e2 .nil)) (by kernel_rfl)).is (congrArg spec_CertEntry_R e) (congrArg spec_CertEntry_O e))))) (fun e1 h =>
 (bindD h fun l5Req hl5Req h =>
 (condD h (fun e3 h =>
 (bindD h fun execOk hexecOk h =>
 (condD h (fun e4 h =>
 (someD h fun e => (Fin.fin (cx := cx) (X := spec_CertEntry_X) (res := spec_CertEntry_R (e_.Run.Code != 3)) (outs := spec_CertEntry_O (e_.Run.Code != 3)) Try.func19 [[], [(1, { d := some false })], [(2, { a := .call [.val [] []] false (spec_l5Req_R l5Req) (spec_l5Req_O l5Req) }), (3, { d := some true }), (6, { a := .call [.val [some 2, some 2, none, none] []] false (spec_ExecOk_R execOk) (spec_ExecOk_O execOk) }), (8, { d := some true })]] [e_.None = false, ACalls cx.P 32 [.agg (eReq e_.Req)] (spec_l5Req_R l5Req) (spec_l5Req_O l5Req), l5Req = true, ACalls cx.P 33 [.agg (eRun e_.Run)] (spec_ExecOk_R execOk) (spec_ExecOk_O execOk), execOk = true] (.cons e1 (.cons (spec_l5Req_ok e_.Req l5Req hl5Req) (.cons e3 (.cons (spec_ExecOk_ok e_.Run execOk hexecOk) (.cons e4 .nil))))) (by kernel_rfl)).is (congrArg spec_CertEntry_R e) (congrArg spec_CertEntry_O e))) (fun e4 h =>
 (someD h fun e => (Fin.fin (cx := cx) (X := spec_CertEntry_X) (res := spec_CertEntry_R false) (outs := spec_CertEntry_O false) Try.func19 [[], [(1, { d := some false })], [(2, { a := .call [.val [] []] false (spec_l5Req_R l5Req) (spec_l5Req_O l5Req) }), (3, { d := some true }), (6, { a := .call [.val [some 2, some 2, none, none] []] false (spec_ExecOk_R execOk) (spec_ExecOk_O execOk) }), (8, { d := some false })]] [e_.None = false, ACalls cx.P 32 [.agg (eReq e_.Req)] (spec_l5Req_R l5Req) (spec_l5Req_O l5Req), l5Req = true, ACalls cx.P 33 [.agg (eRun e_.Run)] (spec_ExecOk_R execOk) (spec_ExecOk_O execOk), execOk = false] (.cons e1 (.cons (spec_l5Req_ok e_.Req l5Req hl5Req) (.cons e3 (.cons (spec_ExecOk_ok e_.Run execOk hexecOk) (.cons e4 .nil))))) (by kernel_rfl)).is (congrArg spec_CertEntry_R e) (congrArg spec_CertEntry_O e)))))) (fun e3 h =>
 (someD h fun e => (Fin.fin (cx := cx) (X := spec_CertEntry_X) (res := spec_CertEntry_R false) (outs := spec_CertEntry_O false) Try.func19 [[], [(1, { d := some false })], [(2, { a := .call [.val [] []] false (spec_l5Req_R l5Req) (spec_l5Req_O l5Req) }), (3, { d := some false })]] [e_.None = false, ACalls cx.P 32 [.agg (eReq e_.Req)] (spec_l5Req_R l5Req) (spec_l5Req_O l5Req), l5Req = false] (.cons e1 (.cons (spec_l5Req_ok e_.Req l5Req hl5Req) (.cons e3 .nil))) (by kernel_rfl)).is (congrArg spec_CertEntry_R e) (congrArg spec_CertEntry_O e)))))))
theorem spec_CertEntry_ok (e_ : TEntry) (r : Bool) (h : spec_CertEntry e_ = some r) : ACalls cx.P 19 [.agg (eEntry e_)] (spec_CertEntry_R r) (spec_CertEntry_O r) :=
  ACalls.of (cx := cx) (X := spec_CertEntry_X) (c := spec_CertEntry_c) Try.func19 (by kernel_rfl) (by kernel_rfl) (by kernel_rfl) (spec_CertEntry_fin e_ r h)

/-! ### spec_l8Known -/
noncomputable def spec_l8Known_c : Code := bodyOf Try.f10
noncomputable def spec_l8Known_X : Sig := { f := 10, fn := Try.f10, rms := [.val [] []], oms := [none] }
noncomputable def spec_l8Known_R (r : Bool) : V := .b r
noncomputable def spec_l8Known_O (r : Bool) : List (Option V) := [none]
noncomputable def spec_l8Known_k1 : List Item := posI 2000 4 [false, false] [.code spec_l8Known_c]
noncomputable def spec_l8Known_S1 : St := ⟨(bs 19 []), [some []]⟩
noncomputable def spec_l8Known_k2 : Option Bool :=
  some true
theorem spec_l8Known_k2_ok (r : Bool) (h : spec_l8Known_k2 = some r) : Fin cx spec_l8Known_X (spec_l8Known_R r) (spec_l8Known_O r) spec_l8Known_k1 (spec_l8Known_S1) :=
  (someD h fun e => (Fin.fin (cx := cx) (X := spec_l8Known_X) (res := spec_l8Known_R true) (outs := spec_l8Known_O true) Try.func10 [[]] [] .nil (by kernel_rfl)).is (congrArg spec_l8Known_R e) (congrArg spec_l8Known_O e))
noncomputable def spec_l8Known_k3 : List Item := posI 2000 3 [false] [.code spec_l8Known_c]
noncomputable def spec_l8Known_S2 (list : List TEntry) (i : Int) : St := ⟨(vsl 7 eEntry list :: (bs 2 (vi i :: (bs 15 [])))), [some []]⟩
noncomputable def spec_l8Known_b1 (list : List TEntry) (i : Int) : Option (Stp Bool Int Unit) :=
  (bif decide (i < (list.length : Int)) then
 ((idx list i).bind fun entry =>
 ((spec_CertEntry entry).bind fun certEntry =>
 (bif (!certEntry) then
 some (Stp.ret false)
 else
 some (Stp.nxt (w64 (i + 1))))))
 else
 some (Stp.brk ()))
theorem spec_l8Known_b1_ok (list : List TEntry) (res : V) (outs : List (Option V)) (x1 : Exc Bool Unit) (hb1 : ∀ s : Unit, x1 = .brk s → Fin cx spec_l8Known_X res outs spec_l8Known_k1 (spec_l8Known_S1)) (hr1 : ∀ v : Bool, x1 = .ret v → (res = spec_l8Known_R v ∧ outs = spec_l8Known_O v)) (st1 : Stp Bool Int Unit) (hc1 : Cont x1 (fun s : Int => Fin cx spec_l8Known_X res outs spec_l8Known_k3 (spec_l8Known_S2 list s)) st1) (i : Int) (h : spec_l8Known_b1 list i = some st1) : Fin cx spec_l8Known_X res outs spec_l8Known_k3 (spec_l8Known_S2 list i) :=
  (condD h (fun e2 h =>
 (bindD h fun entry hentry h =>
 (bindD h fun certEntry hcertEntry h =>
 (condD h (fun e3 h =>
 (retD h hc1 fun e => (Fin.fin (cx := cx) (X := spec_l8Known_X) (res := spec_l8Known_R false) (outs := spec_l8Known_O false) Try.func10 [[(3, { d := some true })], [(2, { a := .row (eEntry entry) }), (4, { a := .call [.val [none, none, none, some 2, some 2, none, none] []] false (spec_CertEntry_R certEntry) (spec_CertEntry_O certEntry) }), (5, { d := some true })], []] [decide (i < (list.length : Int)) = true, (0 : Int) ≤ i, i < ((list.length : Nat) : Int), (list.map eEntry)[i.toNat]? = some (eEntry entry), ACalls cx.P 19 [.agg (eEntry entry)] (spec_CertEntry_R certEntry) (spec_CertEntry_O certEntry), (!certEntry) = true] (.cons e2 (.cons (idx0 hentry) (.cons (idx1 hentry) (.cons (map_idx hentry) (.cons (spec_CertEntry_ok entry certEntry hcertEntry) (.cons e3 .nil)))))) (by kernel_rfl)).is (hr1 _ e).1 (hr1 _ e).2)) (fun e3 h =>
 (nxtD h hc1 fun hI => (Fin.seg [[(3, { d := some true })], [(2, { a := .row (eEntry entry) }), (4, { a := .call [.val [none, none, none, some 2, some 2, none, none] []] false (spec_CertEntry_R certEntry) (spec_CertEntry_O certEntry) }), (5, { d := some false })], []] [] [0, 3] [] [decide (i < (list.length : Int)) = true, (0 : Int) ≤ i, i < ((list.length : Nat) : Int), (list.map eEntry)[i.toNat]? = some (eEntry entry), ACalls cx.P 19 [.agg (eEntry entry)] (spec_CertEntry_R certEntry) (spec_CertEntry_O certEntry), (!certEntry) = false] (.cons e2 (.cons (idx0 hentry) (.cons (idx1 hentry) (.cons (map_idx hentry) (.cons (spec_CertEntry_ok entry certEntry hcertEntry) (.cons e3 .nil)))))) hI (by kernel_rfl)))))))) (fun e2 h =>
 (brkD h hc1 fun e => (Fin.seg [[(3, { d := some false })]] [] [] [] [decide (i < (list.length : Int)) = false] (.cons e2 .nil) (hb1 _ e) (by kernel_rfl)))))
theorem spec_l8Known_b1_loop (list : List TEntry) (res : V) (outs : List (Option V)) (x1 : Exc Bool Unit) (hb1 : ∀ s : Unit, x1 = .brk s → Fin cx spec_l8Known_X res outs spec_l8Known_k1 (spec_l8Known_S1)) (hr1 : ∀ v : Bool, x1 = .ret v → (res = spec_l8Known_R v ∧ outs = spec_l8Known_O v)) (s : Int) (h : loop (fun s : Int => spec_l8Known_b1 list s) s = some x1) : Fin cx spec_l8Known_X res outs spec_l8Known_k3 (spec_l8Known_S2 list s) :=
  loopD (I := fun s : Int => Fin cx spec_l8Known_X res outs spec_l8Known_k3 (spec_l8Known_S2 list s)) h fun s st h hc => spec_l8Known_b1_ok list res outs x1 hb1 hr1 st hc s h
noncomputable def spec_l8Known (list : List TEntry) : Option Bool :=
  (bif decide ((list.length : Int) > 40) then
 some false
 else
 ((loop (fun s : Int => spec_l8Known_b1 list s) 0).bind fun x => x.go (fun r => some r) fun s => spec_l8Known_k2))
theorem spec_l8Known_fin (list : List TEntry) (r : Bool) (h : spec_l8Known list = some r) : Fin cx spec_l8Known_X (spec_l8Known_R r) (spec_l8Known_O r) [.code spec_l8Known_c] (startS spec_l8Known_X [vsl 7 eEntry list]) :=
  (condD h (fun e1 h =>
 (someD h fun e => (Fin.fin (cx := cx) (X := spec_l8Known_X) (res := spec_l8Known_R false) (outs := spec_l8Known_O false) Try.func10 [[], [(2, { d := some true })], []] [decide ((list.length : Int) > 40) = true] (.cons e1 .nil) (by kernel_rfl)).is (congrArg spec_l8Known_R e) (congrArg spec_l8Known_O e))) (fun e1 h =>
 (loopJ h fun x hl hr hb => (Fin.seg [[], [(2, { d := some false })], []] [] [0, 3] [] [decide ((list.length : Int) > 40) = false] (.cons e1 .nil) (spec_l8Known_b1_loop list _ _ x (fun s e => spec_l8Known_k2_ok r (hb s e)) (fun v e => ⟨congrArg spec_l8Known_R (Option.some.inj (hr v e)).symm, congrArg spec_l8Known_O (Option.some.inj (hr v e)).symm⟩) 0 hl) (by kernel_rfl)))))
theorem spec_l8Known_ok (list : List TEntry) (r : Bool) (h : spec_l8Known list = some r) : ACalls cx.P 10 [vsl 7 eEntry list] (spec_l8Known_R r) (spec_l8Known_O r) :=
  ACalls.of (cx := cx) (X := spec_l8Known_X) (c := spec_l8Known_c) Try.func10 (by kernel_rfl) (by kernel_rfl) (by kernel_rfl) (spec_l8Known_fin list r h)

/-! ### spec_BoxOpen -/
noncomputable def spec_BoxOpen_c : Code := bodyOf Try.f34
noncomputable def spec_BoxOpen_X : Sig := { f := 34, fn := Try.f34, rms := [.val [some 2] [some 86]], oms := [] }
noncomputable def spec_BoxOpen_R (r : List TBox) : V := vosl 86 2 eBox r
noncomputable def spec_BoxOpen_O (r : List TBox) : List (Option V) := []
noncomputable def spec_BoxOpen : Option (List TBox) :=
  (need (0 ≤ (4 : Int) ∧ (4 : Int) * 16 ≤ 140737488355328)
 (some (List.replicate (4 : Int).toNat (TBox.mk 0 0))))
theorem spec_BoxOpen_fin (r : List TBox) (h : spec_BoxOpen  = some r) : Fin cx spec_BoxOpen_X (spec_BoxOpen_R r) (spec_BoxOpen_O r) [.code spec_BoxOpen_c] (startS spec_BoxOpen_X []) :=
  (needD h fun e1 h =>
 (someD h fun e => (Fin.fin (cx := cx) (X := spec_BoxOpen_X) (res := spec_BoxOpen_R (List.replicate (4 : Int).toNat (TBox.mk 0 0))) (outs := spec_BoxOpen_O (List.replicate (4 : Int).toNat (TBox.mk 0 0))) Try.func34 [[], [(0, { e := some (erow 86 2 eBox (List.replicate (4 : Int).toNat (TBox.mk 0 0))), v := some (.own 2 0 2 0 (List.replicate (4 : Int).toNat (TBox.mk 0 0)).length) })]] [V.own 2 0 2 0 (4 : Int).toNat = .own 2 0 2 0 (List.replicate (4 : Int).toNat (TBox.mk 0 0)).length, Ent.row 86 2 (4 : Int).toNat (List.replicate (4 : Int).toNat [vi 0, vi 0]) = erow 86 2 eBox (List.replicate (4 : Int).toNat (TBox.mk 0 0)), (0 : Int) ≤ (4 : Int), (4 : Int) = (4 : Int), (4 : Int) * ((16 : Nat) : Int) ≤ 140737488355328 ∧ 0 < 16, ([vi 0, vi 0] : List V).length = 2, (List.replicate (4 : Int).toNat (TBox.mk 0 0)).length = (List.replicate (4 : Int).toNat (TBox.mk 0 0)).length] (.cons (by simp) (.cons (row_rep rfl) (.cons e1.1 (.cons rfl (.cons ⟨e1.2, by decide⟩ (.cons rfl (.cons rfl .nil))))))) (by kernel_rfl)).is (congrArg spec_BoxOpen_R e) (congrArg spec_BoxOpen_O e)))
theorem spec_BoxOpen_ok (r : List TBox) (h : spec_BoxOpen  = some r) : ACalls cx.P 34 [] (spec_BoxOpen_R r) (spec_BoxOpen_O r) :=
  ACalls.of (cx := cx) (X := spec_BoxOpen_X) (c := spec_BoxOpen_c) Try.func34 (by kernel_rfl) (by kernel_rfl) (by kernel_rfl) (spec_BoxOpen_fin r h)

/-! ### spec_CertOpen -/
noncomputable def spec_CertOpen_c : Code := bodyOf Try.f20
noncomputable def spec_CertOpen_X : Sig := { f := 20, fn := Try.f20, rms := [.val [none, some 2, some 4] [none, some 86, none]], oms := [] }
noncomputable def spec_CertOpen_R (r : TState) : V := .agg [vi r.At, vosl 86 2 eBox r.Boxes, vsl 4 eDone r.Dones]
noncomputable def spec_CertOpen_O (r : TState) : List (Option V) := []
noncomputable def spec_CertOpen : Option TState :=
  ((spec_BoxOpen).bind fun boxOpen =>
 some (TState.mk 0 boxOpen []))
theorem spec_CertOpen_fin (r : TState) (h : spec_CertOpen  = some r) : Fin cx spec_CertOpen_X (spec_CertOpen_R r) (spec_CertOpen_O r) [.code spec_CertOpen_c] (startS spec_CertOpen_X []) :=
  (bindD h fun boxOpen hboxOpen h =>
 (someD h fun e => (Fin.fin (cx := cx) (X := spec_CertOpen_X) (res := spec_CertOpen_R (TState.mk 0 boxOpen [])) (outs := spec_CertOpen_O (TState.mk 0 boxOpen [])) Try.func20 [[], [(0, { a := .call [] false (spec_BoxOpen_R boxOpen) (spec_BoxOpen_O boxOpen) })]] [ACalls cx.P 34 [] (spec_BoxOpen_R boxOpen) (spec_BoxOpen_O boxOpen), boxOpen.length = boxOpen.length] (.cons (spec_BoxOpen_ok boxOpen hboxOpen) (.cons rfl .nil)) (by kernel_rfl)).is (congrArg spec_CertOpen_R e) (congrArg spec_CertOpen_O e)))
theorem spec_CertOpen_ok (r : TState) (h : spec_CertOpen  = some r) : ACalls cx.P 20 [] (spec_CertOpen_R r) (spec_CertOpen_O r) :=
  ACalls.of (cx := cx) (X := spec_CertOpen_X) (c := spec_CertOpen_c) Try.func20 (by kernel_rfl) (by kernel_rfl) (by kernel_rfl) (spec_CertOpen_fin r h)

/-! ### spec_l5Last -/
noncomputable def spec_l5Last_c : Code := bodyOf Try.f35
noncomputable def spec_l5Last_X : Sig := { f := 35, fn := Try.f35, rms := [.val [] [], .val [] []], oms := [none, none] }
noncomputable def spec_l5Last_R (r : TDone × Bool) : V := .tup [.agg (eDone r.1), .b r.2]
noncomputable def spec_l5Last_O (r : TDone × Bool) : List (Option V) := [none, none]
noncomputable def spec_l5Last_k1 : List Item := posI 2000 3 [false] [.code spec_l5Last_c]
noncomputable def spec_l5Last_S1 : St := ⟨(bs 4 (.ptr 1 0 0 :: (bs 24 []))), [some [], some [.var 75 [vi 0, vi 0, vi 0, vi 0]]]⟩
noncomputable def spec_l5Last_k2 : Option (TDone × Bool) :=
  some ((TDone.mk (TReq.mk 0 0) 0 0), false)
theorem spec_l5Last_k2_ok (r : TDone × Bool) (h : spec_l5Last_k2 = some r) : Fin cx spec_l5Last_X (spec_l5Last_R r) (spec_l5Last_O r) spec_l5Last_k1 (spec_l5Last_S1) :=
  (someD h fun e => (Fin.fin (cx := cx) (X := spec_l5Last_X) (res := spec_l5Last_R ((TDone.mk (TReq.mk 0 0) 0 0), false)) (outs := spec_l5Last_O ((TDone.mk (TReq.mk 0 0) 0 0), false)) Try.func35 [[]] [] .nil (by kernel_rfl)).is (congrArg spec_l5Last_R e) (congrArg spec_l5Last_O e))
noncomputable def spec_l5Last_k3 : List Item := posI 2000 2 [] [.code spec_l5Last_c]
noncomputable def spec_l5Last_S2 (s_ : TState) (who : Int) (i : Int) : St := ⟨(bs 1 (vi who :: (.ptr 1 0 0 :: (bs 1 (.ptr 2 0 0 :: (bs 1 (vi i :: (bs 22 [])))))))), [some [], some [.var 53 [vi s_.At, vsl 2 eBox s_.Boxes, vsl 4 eDone s_.Dones]], some [.var 75 [vi 0, vi 0, vi 0, vi 0]]]⟩
noncomputable def spec_l5Last_b1 (s_ : TState) (who : Int) (i : Int) : Option (Stp (TDone × Bool) Int Unit) :=
  (bif decide (i < (s_.Dones.length : Int)) then
 ((idx s_.Dones i).bind fun done =>
 (bif (done.Req.Who == who) then
 some (Stp.ret (done, true))
 else
 some (Stp.nxt (w64 (i + 1)))))
 else
 some (Stp.brk ()))
theorem spec_l5Last_b1_ok (s_ : TState) (who : Int) (res : V) (outs : List (Option V)) (x1 : Exc (TDone × Bool) Unit) (hb1 : ∀ s : Unit, x1 = .brk s → Fin cx spec_l5Last_X res outs spec_l5Last_k1 (spec_l5Last_S1)) (hr1 : ∀ v : TDone × Bool, x1 = .ret v → (res = spec_l5Last_R v ∧ outs = spec_l5Last_O v)) (st1 : Stp (TDone × Bool) Int Unit) (hc1 : Cont x1 (fun s : Int => Fin cx spec_l5Last_X res outs spec_l5Last_k3 (spec_l5Last_S2 s_ who s)) st1) (i : Int) (h : spec_l5Last_b1 s_ who i = some st1) : Fin cx spec_l5Last_X res outs spec_l5Last_k3 (spec_l5Last_S2 s_ who i) :=
  (condD h (fun e1 h =>
 (bindD h fun done hdone h =>
 (condD h (fun e2 h =>
 (retD h hc1 fun e => (Fin.fin (cx := cx) (X := spec_l5Last_X) (res := spec_l5Last_R (done, true)) (outs := spec_l5Last_O (done, true)) Try.func35 [[(4, { d := some true })], [(3, { a := .row (eDone done) }), (8, { d := some true })], [(3, { a := .row (eDone done) })]] [decide (i < (s_.Dones.length : Int)) = true, (0 : Int) ≤ i, i < ((s_.Dones.length : Nat) : Int), (s_.Dones.map eDone)[i.toNat]? = some (eDone done), (done.Req.Who == who) = true, (0 : Int) ≤ i, i < ((s_.Dones.length : Nat) : Int), (s_.Dones.map eDone)[i.toNat]? = some (eDone done)] (.cons e1 (.cons (idx0 hdone) (.cons (idx1 hdone) (.cons (map_idx hdone) (.cons e2 (.cons (idx0 hdone) (.cons (idx1 hdone) (.cons (map_idx hdone) .nil)))))))) (by kernel_rfl)).is (hr1 _ e).1 (hr1 _ e).2)) (fun e2 h =>
 (nxtD h hc1 fun hI => (Fin.seg [[(4, { d := some true })], [(3, { a := .row (eDone done) }), (8, { d := some false })], []] [] [1, 2, 4, 6] [(1, 0), (2, 0)] [decide (i < (s_.Dones.length : Int)) = true, (0 : Int) ≤ i, i < ((s_.Dones.length : Nat) : Int), (s_.Dones.map eDone)[i.toNat]? = some (eDone done), (done.Req.Who == who) = false] (.cons e1 (.cons (idx0 hdone) (.cons (idx1 hdone) (.cons (map_idx hdone) (.cons e2 .nil))))) hI (by kernel_rfl))))))) (fun e1 h =>
 (brkD h hc1 fun e => (Fin.seg [[(4, { d := some false })]] [] [4] [(2, 0)] [decide (i < (s_.Dones.length : Int)) = false] (.cons e1 .nil) (hb1 _ e) (by kernel_rfl)))))
theorem spec_l5Last_b1_loop (s_ : TState) (who : Int) (res : V) (outs : List (Option V)) (x1 : Exc (TDone × Bool) Unit) (hb1 : ∀ s : Unit, x1 = .brk s → Fin cx spec_l5Last_X res outs spec_l5Last_k1 (spec_l5Last_S1)) (hr1 : ∀ v : TDone × Bool, x1 = .ret v → (res = spec_l5Last_R v ∧ outs = spec_l5Last_O v)) (s : Int) (h : loop (fun s : Int => spec_l5Last_b1 s_ who s) s = some x1) : Fin cx spec_l5Last_X res outs spec_l5Last_k3 (spec_l5Last_S2 s_ who s) :=
  loopD (I := fun s : Int => Fin cx spec_l5Last_X res outs spec_l5Last_k3 (spec_l5Last_S2 s_ who s)) h fun s st h hc => spec_l5Last_b1_ok s_ who res outs x1 hb1 hr1 st hc s h
noncomputable def spec_l5Last (s_ : TState) (who : Int) : Option (TDone × Bool) :=
  ((loop (fun s : Int => spec_l5Last_b1 s_ who s) 0).bind fun x => x.go (fun r => some r) fun s => spec_l5Last_k2)
theorem spec_l5Last_fin (s_ : TState) (who : Int) (r : TDone × Bool) (h : spec_l5Last s_ who = some r) : Fin cx spec_l5Last_X (spec_l5Last_R r) (spec_l5Last_O r) [.code spec_l5Last_c] (startS spec_l5Last_X [.agg (eState s_), vi who]) :=
  (loopJ h fun x hl hr hb => (Fin.seg [[], []] [] [1, 2, 4, 6] [(1, 0), (2, 0)] [] .nil (spec_l5Last_b1_loop s_ who _ _ x (fun s e => spec_l5Last_k2_ok r (hb s e)) (fun v e => ⟨congrArg spec_l5Last_R (Option.some.inj (hr v e)).symm, congrArg spec_l5Last_O (Option.some.inj (hr v e)).symm⟩) 0 hl) (by kernel_rfl)))
theorem spec_l5Last_ok (s_ : TState) (who : Int) (r : TDone × Bool) (h : spec_l5Last s_ who = some r) : ACalls cx.P 35 [.agg (eState s_), vi who] (spec_l5Last_R r) (spec_l5Last_O r) :=
  ACalls.of (cx := cx) (X := spec_l5Last_X) (c := spec_l5Last_c) Try.func35 (by kernel_rfl) (by kernel_rfl) (by kernel_rfl) (spec_l5Last_fin s_ who r h)

/-! ### spec_BoxOk -/
noncomputable def spec_BoxOk_c : Code := bodyOf Try.f55
noncomputable def spec_BoxOk_X : Sig := { f := 55, fn := Try.f55, rms := [.val [] []], oms := [none] }
noncomputable def spec_BoxOk_R (r : Bool) : V := .b r
noncomputable def spec_BoxOk_O (r : Bool) : List (Option V) := [none]
noncomputable def spec_BoxOk_k1 : List Item := posI 2000 4 [false, false] [.code spec_BoxOk_c]
noncomputable def spec_BoxOk_S1 : St := ⟨(bs 36 []), [some []]⟩
noncomputable def spec_BoxOk_k2 : Option Bool :=
  some true
theorem spec_BoxOk_k2_ok (r : Bool) (h : spec_BoxOk_k2 = some r) : Fin cx spec_BoxOk_X (spec_BoxOk_R r) (spec_BoxOk_O r) spec_BoxOk_k1 (spec_BoxOk_S1) :=
  (someD h fun e => (Fin.fin (cx := cx) (X := spec_BoxOk_X) (res := spec_BoxOk_R true) (outs := spec_BoxOk_O true) Try.func55 [[]] [] .nil (by kernel_rfl)).is (congrArg spec_BoxOk_R e) (congrArg spec_BoxOk_O e))
noncomputable def spec_BoxOk_k3 : List Item := posI 2000 3 [false] [.code spec_BoxOk_c]
noncomputable def spec_BoxOk_S2 (list : List TBox) (i : Int) : St := ⟨(vsl 2 eBox list :: (bs 2 (vi i :: (bs 32 [])))), [some []]⟩
noncomputable def spec_BoxOk_b1 (list : List TBox) (i : Int) : Option (Stp Bool Int Unit) :=
  (bif decide (i < (list.length : Int)) then
 ((idx list i).bind fun box =>
 (bif decide (box.Ver < 0) then
 some (Stp.ret false)
 else
 (bif decide (box.Ver > 1000000) then
 some (Stp.ret false)
 else
 ((spec_l1Num box.Val).bind fun l1Num =>
 (bif (!l1Num) then
 some (Stp.ret false)
 else
 some (Stp.nxt (w64 (i + 1))))))))
 else
 some (Stp.brk ()))
theorem spec_BoxOk_b1_ok (list : List TBox) (res : V) (outs : List (Option V)) (x1 : Exc Bool Unit) (hb1 : ∀ s : Unit, x1 = .brk s → Fin cx spec_BoxOk_X res outs spec_BoxOk_k1 (spec_BoxOk_S1)) (hr1 : ∀ v : Bool, x1 = .ret v → (res = spec_BoxOk_R v ∧ outs = spec_BoxOk_O v)) (st1 : Stp Bool Int Unit) (hc1 : Cont x1 (fun s : Int => Fin cx spec_BoxOk_X res outs spec_BoxOk_k3 (spec_BoxOk_S2 list s)) st1) (i : Int) (h : spec_BoxOk_b1 list i = some st1) : Fin cx spec_BoxOk_X res outs spec_BoxOk_k3 (spec_BoxOk_S2 list i) :=
  (condD h (fun e2 h =>
 (bindD h fun box hbox h =>
 (condD h (fun e3 h =>
 (retD h hc1 fun e => (Fin.fin (cx := cx) (X := spec_BoxOk_X) (res := spec_BoxOk_R false) (outs := spec_BoxOk_O false) Try.func55 [[(3, { d := some true })], [(2, { a := .row (eBox box) }), (6, { d := some true })], []] [decide (i < (list.length : Int)) = true, (0 : Int) ≤ i, i < ((list.length : Nat) : Int), (list.map eBox)[i.toNat]? = some (eBox box), decide (box.Ver < 0) = true] (.cons e2 (.cons (idx0 hbox) (.cons (idx1 hbox) (.cons (map_idx hbox) (.cons e3 .nil))))) (by kernel_rfl)).is (hr1 _ e).1 (hr1 _ e).2)) (fun e3 h =>
 (condD h (fun e4 h =>
 (retD h hc1 fun e => (Fin.fin (cx := cx) (X := spec_BoxOk_X) (res := spec_BoxOk_R false) (outs := spec_BoxOk_O false) Try.func55 [[(3, { d := some true })], [(2, { a := .row (eBox box) }), (6, { d := some false }), (9, { a := .row (eBox box) }), (14, { d := some true })], []] [decide (i < (list.length : Int)) = true, (0 : Int) ≤ i, i < ((list.length : Nat) : Int), (list.map eBox)[i.toNat]? = some (eBox box), decide (box.Ver < 0) = false, (0 : Int) ≤ i, i < ((list.length : Nat) : Int), (list.map eBox)[i.toNat]? = some (eBox box), decide (box.Ver > 1000000) = true] (.cons e2 (.cons (idx0 hbox) (.cons (idx1 hbox) (.cons (map_idx hbox) (.cons e3 (.cons (idx0 hbox) (.cons (idx1 hbox) (.cons (map_idx hbox) (.cons e4 .nil))))))))) (by kernel_rfl)).is (hr1 _ e).1 (hr1 _ e).2)) (fun e4 h =>
 (bindD h fun l1Num hl1Num h =>
 (condD h (fun e5 h =>
 (retD h hc1 fun e => (Fin.fin (cx := cx) (X := spec_BoxOk_X) (res := spec_BoxOk_R false) (outs := spec_BoxOk_O false) Try.func55 [[(3, { d := some true })], [(2, { a := .row (eBox box) }), (6, { d := some false }), (9, { a := .row (eBox box) }), (14, { d := some false }), (17, { a := .row (eBox box) }), (20, { a := .call [.val [] []] false (spec_l1Num_R l1Num) (spec_l1Num_O l1Num) }), (22, { d := some true })], []] [decide (i < (list.length : Int)) = true, (0 : Int) ≤ i, i < ((list.length : Nat) : Int), (list.map eBox)[i.toNat]? = some (eBox box), decide (box.Ver < 0) = false, (0 : Int) ≤ i, i < ((list.length : Nat) : Int), (list.map eBox)[i.toNat]? = some (eBox box), decide (box.Ver > 1000000) = false, (0 : Int) ≤ i, i < ((list.length : Nat) : Int), (list.map eBox)[i.toNat]? = some (eBox box), ACalls cx.P 52 [vi box.Val] (spec_l1Num_R l1Num) (spec_l1Num_O l1Num), (!l1Num) = true] (.cons e2 (.cons (idx0 hbox) (.cons (idx1 hbox) (.cons (map_idx hbox) (.cons e3 (.cons (idx0 hbox) (.cons (idx1 hbox) (.cons (map_idx hbox) (.cons e4 (.cons (idx0 hbox) (.cons (idx1 hbox) (.cons (map_idx hbox) (.cons (spec_l1Num_ok box.Val l1Num hl1Num) (.cons e5 .nil)))))))))))))) (by kernel_rfl)).is (hr1 _ e).1 (hr1 _ e).2)) (fun e5 h =>
 (nxtD h hc1 fun hI => (Fin.seg [[(3, { d := some true })], [(2, { a := .row (eBox box) }), (6, { d := some false }), (9, { a := .row (eBox box) }), (14, { d := some false }), (17, { a := .row (eBox box) }), (20, { a := .call [.val [] []] false (spec_l1Num_R l1Num) (spec_l1Num_O l1Num) }), (22, { d := some false })], []] [] [0, 3] [] [decide (i < (list.length : Int)) = true, (0 : Int) ≤ i, i < ((list.length : Nat) : Int), (list.map eBox)[i.toNat]? = some (eBox box), decide (box.Ver < 0) = false, (0 : Int) ≤ i, i < ((list.length : Nat) : Int), (list.map eBox)[i.toNat]? = some (eBox box), decide (box.Ver > 1000000) = false, (0 : Int) ≤ i, i < ((list.length : Nat) : Int), (list.map eBox)[i.toNat]? = some (eBox box), ACalls cx.P 52 [vi box.Val] (spec_l1Num_R l1Num) (spec_l1Num_O l1Num), (!l1Num) = false] (.cons e2 (.cons (idx0 hbox) (.cons (idx1 hbox) (.cons (map_idx hbox) (.cons e3 (.cons (idx0 hbox) (.cons (idx1 hbox) (.cons (map_idx hbox) (.cons e4 (.cons (idx0 hbox) (.cons (idx1 hbox) (.cons (map_idx hbox) (.cons (spec_l1Num_ok box.Val l1Num hl1Num) (.cons e5 .nil)))))))))))))) hI (by kernel_rfl)))))))))))) (fun e2 h =>
 (brkD h hc1 fun e => (Fin.seg [[(3, { d := some false })]] [] [] [] [decide (i < (list.length : Int)) = false] (.cons e2 .nil) (hb1 _ e) (by kernel_rfl)))))
theorem spec_BoxOk_b1_loop (list : List TBox) (res : V) (outs : List (Option V)) (x1 : Exc Bool Unit) (hb1 : ∀ s : Unit, x1 = .brk s → Fin cx spec_BoxOk_X res outs spec_BoxOk_k1 (spec_BoxOk_S1)) (hr1 : ∀ v : Bool, x1 = .ret v → (res = spec_BoxOk_R v ∧ outs = spec_BoxOk_O v)) (s : Int) (h : loop (fun s : Int => spec_BoxOk_b1 list s) s = some x1) : Fin cx spec_BoxOk_X res outs spec_BoxOk_k3 (spec_BoxOk_S2 list s) :=
  loopD (I := fun s : Int => Fin cx spec_BoxOk_X res outs spec_BoxOk_k3 (spec_BoxOk_S2 list s)) h fun s st h hc => spec_BoxOk_b1_ok list res outs x1 hb1 hr1 st hc s h
noncomputable def spec_BoxOk (list : List TBox) : Option Bool :=
  (bif ((list.length : Int) != 4) then
 some false
 else
 ((loop (fun s : Int => spec_BoxOk_b1 list s) 0).bind fun x => x.go (fun r => some r) fun s => spec_BoxOk_k2))
theorem spec_BoxOk_fin (list : List TBox) (r : Bool) (h : spec_BoxOk list = some r) : Fin cx spec_BoxOk_X (spec_BoxOk_R r) (spec_BoxOk_O r) [.code spec_BoxOk_c] (startS spec_BoxOk_X [vsl 2 eBox list]) :=
  (condD h (fun e1 h =>
 (someD h fun e => (Fin.fin (cx := cx) (X := spec_BoxOk_X) (res := spec_BoxOk_R false) (outs := spec_BoxOk_O false) Try.func55 [[], [(2, { d := some true })], []] [((list.length : Int) != 4) = true] (.cons e1 .nil) (by kernel_rfl)).is (congrArg spec_BoxOk_R e) (congrArg spec_BoxOk_O e))) (fun e1 h =>
 (loopJ h fun x hl hr hb => (Fin.seg [[], [(2, { d := some false })], []] [] [0, 3] [] [((list.length : Int) != 4) = false] (.cons e1 .nil) (spec_BoxOk_b1_loop list _ _ x (fun s e => spec_BoxOk_k2_ok r (hb s e)) (fun v e => ⟨congrArg spec_BoxOk_R (Option.some.inj (hr v e)).symm, congrArg spec_BoxOk_O (Option.some.inj (hr v e)).symm⟩) 0 hl) (by kernel_rfl)))))
theorem spec_BoxOk_ok (list : List TBox) (r : Bool) (h : spec_BoxOk list = some r) : ACalls cx.P 55 [vsl 2 eBox list] (spec_BoxOk_R r) (spec_BoxOk_O r) :=
  ACalls.of (cx := cx) (X := spec_BoxOk_X) (c := spec_BoxOk_c) Try.func55 (by kernel_rfl) (by kernel_rfl) (by kernel_rfl) (spec_BoxOk_fin list r h)

/-! ### spec_ExecFresh -/
noncomputable def spec_ExecFresh_c : Code := bodyOf Try.f36
noncomputable def spec_ExecFresh_X : Sig := { f := 36, fn := Try.f36, rms := [.val [] []], oms := [none, none] }
noncomputable def spec_ExecFresh_R (r : Bool) : V := .b r
noncomputable def spec_ExecFresh_O (r : Bool) : List (Option V) := [none, none]
noncomputable def spec_ExecFresh_k1 : List Item := posI 2000 4 [false, false] [.code spec_ExecFresh_c]
noncomputable def spec_ExecFresh_S1 : St := ⟨(bs 38 []), [some []]⟩
noncomputable def spec_ExecFresh_k2 : Option Bool :=
  some true
theorem spec_ExecFresh_k2_ok (r : Bool) (h : spec_ExecFresh_k2 = some r) : Fin cx spec_ExecFresh_X (spec_ExecFresh_R r) (spec_ExecFresh_O r) spec_ExecFresh_k1 (spec_ExecFresh_S1) :=
  (someD h fun e => (Fin.fin (cx := cx) (X := spec_ExecFresh_X) (res := spec_ExecFresh_R true) (outs := spec_ExecFresh_O true) Try.func36 [[]] [] .nil (by kernel_rfl)).is (congrArg spec_ExecFresh_R e) (congrArg spec_ExecFresh_O e))
noncomputable def spec_ExecFresh_k3 : List Item := posI 2000 3 [false] [.code spec_ExecFresh_c]
noncomputable def spec_ExecFresh_S2 (list : List TBox) (r_ : TRun) (i : Int) : St := ⟨(vsl 2 eBox list :: (bs 2 (.ptr 1 0 0 :: (bs 1 (vi i :: (bs 32 [])))))), [some [], some [.var 45 [vsl 2 eRead r_.Reads, vsl 2 ePut r_.Puts, vi r_.Val, vi r_.Code]]]⟩
noncomputable def spec_ExecFresh_b1 (list : List TBox) (r_ : TRun) (i : Int) : Option (Stp Bool Int Unit) :=
  (bif decide (i < (r_.Reads.length : Int)) then
 ((idx r_.Reads i).bind fun read =>
 ((idx list read.Box).bind fun box =>
 (bif (box.Ver != read.Ver) then
 some (Stp.ret false)
 else
 some (Stp.nxt (w64 (i + 1))))))
 else
 some (Stp.brk ()))
theorem spec_ExecFresh_b1_ok (list : List TBox) (r_ : TRun) (res : V) (outs : List (Option V)) (x1 : Exc Bool Unit) (hb1 : ∀ s : Unit, x1 = .brk s → Fin cx spec_ExecFresh_X res outs spec_ExecFresh_k1 (spec_ExecFresh_S1)) (hr1 : ∀ v : Bool, x1 = .ret v → (res = spec_ExecFresh_R v ∧ outs = spec_ExecFresh_O v)) (st1 : Stp Bool Int Unit) (hc1 : Cont x1 (fun s : Int => Fin cx spec_ExecFresh_X res outs spec_ExecFresh_k3 (spec_ExecFresh_S2 list r_ s)) st1) (i : Int) (h : spec_ExecFresh_b1 list r_ i = some st1) : Fin cx spec_ExecFresh_X res outs spec_ExecFresh_k3 (spec_ExecFresh_S2 list r_ i) :=
  (condD h (fun e3 h =>
 (bindD h fun read hread h =>
 (bindD h fun box hbox h =>
 (condD h (fun e4 h =>
 (retD h hc1 fun e => (Fin.fin (cx := cx) (X := spec_ExecFresh_X) (res := spec_ExecFresh_R false) (outs := spec_ExecFresh_O false) Try.func36 [[(4, { d := some true })], [(4, { a := .row (eRead read) }), (7, { a := .row (eBox box) }), (13, { a := .row (eRead read) }), (16, { d := some true })], []] [decide (i < (r_.Reads.length : Int)) = true, (0 : Int) ≤ i, i < ((r_.Reads.length : Nat) : Int), (r_.Reads.map eRead)[i.toNat]? = some (eRead read), (0 : Int) ≤ read.Box, read.Box < ((list.length : Nat) : Int), (list.map eBox)[read.Box.toNat]? = some (eBox box), (0 : Int) ≤ i, i < ((r_.Reads.length : Nat) : Int), (r_.Reads.map eRead)[i.toNat]? = some (eRead read), (box.Ver != read.Ver) = true] (.cons e3 (.cons (idx0 hread) (.cons (idx1 hread) (.cons (map_idx hread) (.cons (idx0 hbox) (.cons (idx1 hbox) (.cons (map_idx hbox) (.cons (idx0 hread) (.cons (idx1 hread) (.cons (map_idx hread) (.cons e4 .nil))))))))))) (by kernel_rfl)).is (hr1 _ e).1 (hr1 _ e).2)) (fun e4 h =>
 (nxtD h hc1 fun hI => (Fin.seg [[(4, { d := some true })], [(4, { a := .row (eRead read) }), (7, { a := .row (eBox box) }), (13, { a := .row (eRead read) }), (16, { d := some false })], []] [] [0, 3, 5] [(1, 0)] [decide (i < (r_.Reads.length : Int)) = true, (0 : Int) ≤ i, i < ((r_.Reads.length : Nat) : Int), (r_.Reads.map eRead)[i.toNat]? = some (eRead read), (0 : Int) ≤ read.Box, read.Box < ((list.length : Nat) : Int), (list.map eBox)[read.Box.toNat]? = some (eBox box), (0 : Int) ≤ i, i < ((r_.Reads.length : Nat) : Int), (r_.Reads.map eRead)[i.toNat]? = some (eRead read), (box.Ver != read.Ver) = false] (.cons e3 (.cons (idx0 hread) (.cons (idx1 hread) (.cons (map_idx hread) (.cons (idx0 hbox) (.cons (idx1 hbox) (.cons (map_idx hbox) (.cons (idx0 hread) (.cons (idx1 hread) (.cons (map_idx hread) (.cons e4 .nil))))))))))) hI (by kernel_rfl)))))))) (fun e3 h =>
 (brkD h hc1 fun e => (Fin.seg [[(4, { d := some false })]] [] [] [] [decide (i < (r_.Reads.length : Int)) = false] (.cons e3 .nil) (hb1 _ e) (by kernel_rfl)))))
theorem spec_ExecFresh_b1_loop (list : List TBox) (r_ : TRun) (res : V) (outs : List (Option V)) (x1 : Exc Bool Unit) (hb1 : ∀ s : Unit, x1 = .brk s → Fin cx spec_ExecFresh_X res outs spec_ExecFresh_k1 (spec_ExecFresh_S1)) (hr1 : ∀ v : Bool, x1 = .ret v → (res = spec_ExecFresh_R v ∧ outs = spec_ExecFresh_O v)) (s : Int) (h : loop (fun s : Int => spec_ExecFresh_b1 list r_ s) s = some x1) : Fin cx spec_ExecFresh_X res outs spec_ExecFresh_k3 (spec_ExecFresh_S2 list r_ s) :=
  loopD (I := fun s : Int => Fin cx spec_ExecFresh_X res outs spec_ExecFresh_k3 (spec_ExecFresh_S2 list r_ s)) h fun s st h hc => spec_ExecFresh_b1_ok list r_ res outs x1 hb1 hr1 st hc s h
noncomputable def spec_ExecFresh (list : List TBox) (r_ : TRun) : Option Bool :=
  ((spec_BoxOk list).bind fun boxOk =>
 (bif (!boxOk) then
 some false
 else
 ((spec_ExecOk r_).bind fun execOk =>
 (bif (!execOk) then
 some false
 else
 ((loop (fun s : Int => spec_ExecFresh_b1 list r_ s) 0).bind fun x => x.go (fun r => some r) fun s => spec_ExecFresh_k2)))))
theorem spec_ExecFresh_fin (list : List TBox) (r_ : TRun) (r : Bool) (h : spec_ExecFresh list r_ = some r) : Fin cx spec_ExecFresh_X (spec_ExecFresh_R r) (spec_ExecFresh_O r) [.code spec_ExecFresh_c] (startS spec_ExecFresh_X [vsl 2 eBox list, .agg (eRun r_)]) :=
  (bindD h fun boxOk hboxOk h =>
 (condD h (fun e1 h =>
 (someD h fun e => (Fin.fin (cx := cx) (X := spec_ExecFresh_X) (res := spec_ExecFresh_R false) (outs := spec_ExecFresh_O false) Try.func36 [[], [(1, { a := .call [.val [some 2] []] false (spec_BoxOk_R boxOk) (spec_BoxOk_O boxOk) }), (3, { d := some true })], []] [ACalls cx.P 55 [vsl 2 eBox list] (spec_BoxOk_R boxOk) (spec_BoxOk_O boxOk), (!boxOk) = true] (.cons (spec_BoxOk_ok list boxOk hboxOk) (.cons e1 .nil)) (by kernel_rfl)).is (congrArg spec_ExecFresh_R e) (congrArg spec_ExecFresh_O e))) (fun e1 h =>
 (bindD h fun execOk hexecOk h =>
 (condD h (fun e2 h =>
 (someD h fun e => (Fin.fin (cx := cx) (X := spec_ExecFresh_X) (res := spec_ExecFresh_R false) (outs := spec_ExecFresh_O false) Try.func36 [[], [(1, { a := .call [.val [some 2] []] false (spec_BoxOk_R boxOk) (spec_BoxOk_O boxOk) }), (3, { d := some false }), (5, { a := .call [.val [some 2, some 2, none, none] []] false (spec_ExecOk_R execOk) (spec_ExecOk_O execOk) }), (7, { d := some true })], []] [ACalls cx.P 55 [vsl 2 eBox list] (spec_BoxOk_R boxOk) (spec_BoxOk_O boxOk), (!boxOk) = false, ACalls cx.P 33 [.agg (eRun r_)] (spec_ExecOk_R execOk) (spec_ExecOk_O execOk), (!execOk) = true] (.cons (spec_BoxOk_ok list boxOk hboxOk) (.cons e1 (.cons (spec_ExecOk_ok r_ execOk hexecOk) (.cons e2 .nil)))) (by kernel_rfl)).is (congrArg spec_ExecFresh_R e) (congrArg spec_ExecFresh_O e))) (fun e2 h =>
 (loopJ h fun x hl hr hb => (Fin.seg [[], [(1, { a := .call [.val [some 2] []] false (spec_BoxOk_R boxOk) (spec_BoxOk_O boxOk) }), (3, { d := some false }), (5, { a := .call [.val [some 2, some 2, none, none] []] false (spec_ExecOk_R execOk) (spec_ExecOk_O execOk) }), (7, { d := some false })], []] [] [0, 3, 5] [(1, 0)] [ACalls cx.P 55 [vsl 2 eBox list] (spec_BoxOk_R boxOk) (spec_BoxOk_O boxOk), (!boxOk) = false, ACalls cx.P 33 [.agg (eRun r_)] (spec_ExecOk_R execOk) (spec_ExecOk_O execOk), (!execOk) = false] (.cons (spec_BoxOk_ok list boxOk hboxOk) (.cons e1 (.cons (spec_ExecOk_ok r_ execOk hexecOk) (.cons e2 .nil)))) (spec_ExecFresh_b1_loop list r_ _ _ x (fun s e => spec_ExecFresh_k2_ok r (hb s e)) (fun v e => ⟨congrArg spec_ExecFresh_R (Option.some.inj (hr v e)).symm, congrArg spec_ExecFresh_O (Option.some.inj (hr v e)).symm⟩) 0 hl) (by kernel_rfl)))))))))
theorem spec_ExecFresh_ok (list : List TBox) (r_ : TRun) (r : Bool) (h : spec_ExecFresh list r_ = some r) : ACalls cx.P 36 [vsl 2 eBox list, .agg (eRun r_)] (spec_ExecFresh_R r) (spec_ExecFresh_O r) :=
  ACalls.of (cx := cx) (X := spec_ExecFresh_X) (c := spec_ExecFresh_c) Try.func36 (by kernel_rfl) (by kernel_rfl) (by kernel_rfl) (spec_ExecFresh_fin list r_ r h)

/-! ### spec_l1Min -/
noncomputable def spec_l1Min_c : Code := bodyOf Try.f56
noncomputable def spec_l1Min_X : Sig := { f := 56, fn := Try.f56, rms := [.val [] []], oms := [none, none] }
noncomputable def spec_l1Min_R (r : Int) : V := vi r
noncomputable def spec_l1Min_O (r : Int) : List (Option V) := [none, none]
noncomputable def spec_l1Min (a : Int) (b : Int) : Option Int :=
  (bif decide (a < b) then
 some a
 else
 some b)
theorem spec_l1Min_fin (a : Int) (b : Int) (r : Int) (h : spec_l1Min a b = some r) : Fin cx spec_l1Min_X (spec_l1Min_R r) (spec_l1Min_O r) [.code spec_l1Min_c] (startS spec_l1Min_X [vi a, vi b]) :=
  (condD h (fun e1 h =>
 (someD h fun e => (Fin.fin (cx := cx) (X := spec_l1Min_X) (res := spec_l1Min_R a) (outs := spec_l1Min_O a) Try.func56 [[], [(2, { d := some true })], []] [decide (a < b) = true] (.cons e1 .nil) (by kernel_rfl)).is (congrArg spec_l1Min_R e) (congrArg spec_l1Min_O e))) (fun e1 h =>
 (someD h fun e => (Fin.fin (cx := cx) (X := spec_l1Min_X) (res := spec_l1Min_R b) (outs := spec_l1Min_O b) Try.func56 [[], [(2, { d := some false })], []] [decide (a < b) = false] (.cons e1 .nil) (by kernel_rfl)).is (congrArg spec_l1Min_R e) (congrArg spec_l1Min_O e))))
theorem spec_l1Min_ok (a : Int) (b : Int) (r : Int) (h : spec_l1Min a b = some r) : ACalls cx.P 56 [vi a, vi b] (spec_l1Min_R r) (spec_l1Min_O r) :=
  ACalls.of (cx := cx) (X := spec_l1Min_X) (c := spec_l1Min_c) Try.func56 (by kernel_rfl) (by kernel_rfl) (by kernel_rfl) (spec_l1Min_fin a b r h)

/-! ### spec_l3Do -/
noncomputable def spec_l3Do_c : Code := bodyOf Try.f37
noncomputable def spec_l3Do_X : Sig := { f := 37, fn := Try.f37, rms := [.val [some 2] [some 86]], oms := [none, none] }
noncomputable def spec_l3Do_R (r : List TBox) : V := vosl 86 2 eBox r
noncomputable def spec_l3Do_O (r : List TBox) : List (Option V) := [none, none]
noncomputable def spec_l3Do_k1 : List Item := posI 2000 3 [false] [.code spec_l3Do_c]
noncomputable def spec_l3Do_S1 (list2 : List TBox) : St := ⟨(.own 0 0 2 0 list2.length :: (bs 37 [])), [some [erow 86 2 eBox list2]]⟩
noncomputable def spec_l3Do_k2 (list2 : List TBox) : Option (List TBox) :=
  some list2
theorem spec_l3Do_k2_ok (r : List TBox) (list2 : List TBox) (h : spec_l3Do_k2 list2 = some r) : Fin cx spec_l3Do_X (spec_l3Do_R r) (spec_l3Do_O r) spec_l3Do_k1 (spec_l3Do_S1 list2) :=
  (someD h fun e => (Fin.fin (cx := cx) (X := spec_l3Do_X) (res := spec_l3Do_R list2) (outs := spec_l3Do_O list2) Try.func37 [[]] [list2.length = list2.length] (.cons rfl .nil) (by kernel_rfl)).is (congrArg spec_l3Do_R e) (congrArg spec_l3Do_O e))
noncomputable def spec_l3Do_k3 : List Item := posI 2000 2 [] [.code spec_l3Do_c]
noncomputable def spec_l3Do_S2 (r_ : TRun) (list1 : List TBox) (i : Int) : St := ⟨(.own 0 0 2 0 list1.length :: (bs 2 (.ptr 1 0 0 :: (bs 1 (vi i :: (bs 32 [])))))), [some [erow 86 2 eBox list1], some [.var 45 [vsl 2 eRead r_.Reads, vsl 2 ePut r_.Puts, vi r_.Val, vi r_.Code]]]⟩
noncomputable def spec_l3Do_b1 (r_ : TRun) (list1 : List TBox) (i : Int) : Option (Stp (List TBox) ((List TBox) × Int) (List TBox)) :=
  (bif decide (i < (r_.Puts.length : Int)) then
 ((idx r_.Puts i).bind fun put =>
 ((idx list1 put.Box).bind fun box =>
 ((spec_l1Min 1000000 (w64 (box.Ver + 1))).bind fun l1Min =>
 some (Stp.nxt (list1.set put.Box.toNat (TBox.mk l1Min put.Val), w64 (i + 1))))))
 else
 some (Stp.brk list1))
theorem spec_l3Do_b1_ok (r_ : TRun) (res : V) (outs : List (Option V)) (x1 : Exc (List TBox) (List TBox)) (hb1 : ∀ s : List TBox, x1 = .brk s → Fin cx spec_l3Do_X res outs spec_l3Do_k1 (spec_l3Do_S1 s)) (hr1 : ∀ v : List TBox, x1 = .ret v → (res = spec_l3Do_R v ∧ outs = spec_l3Do_O v)) (st1 : Stp (List TBox) ((List TBox) × Int) (List TBox)) (hc1 : Cont x1 (fun s : (List TBox) × Int => Fin cx spec_l3Do_X res outs spec_l3Do_k3 (spec_l3Do_S2 r_ s.1 s.2)) st1) (list1 : List TBox) (i : Int) (h : spec_l3Do_b1 r_ list1 i = some st1) : Fin cx spec_l3Do_X res outs spec_l3Do_k3 (spec_l3Do_S2 r_ list1 i) :=
  (condD h (fun e1 h =>
 (bindD h fun put hput h =>
 (bindD h fun box hbox h =>
 (bindD h fun l1Min hl1Min h =>
 (nxtD h hc1 fun hI => (Fin.seg [[(4, { d := some true })], [(3, { a := .row (ePut put) })], [(6, { a := .row (eBox box) }), (8, { a := .call [.val [] [], .val [] []] false (spec_l1Min_R l1Min) (spec_l1Min_O l1Min) }), (12, { a := .row (ePut put) }), (17, { a := .rowck (eBox box) [], e := some (erow 86 2 eBox (list1.set put.Box.toNat (TBox.mk l1Min put.Val))) })], []] [.is (.tmp 0) (.own 0 0 2 0 (list1.set put.Box.toNat (TBox.mk l1Min put.Val)).length)] [0, 3, 5] [(1, 0)] [decide (i < (r_.Puts.length : Int)) = true, (0 : Int) ≤ i, i < ((r_.Puts.length : Nat) : Int), (r_.Puts.map ePut)[i.toNat]? = some (ePut put), (0 : Int) ≤ put.Box, put.Box < ((list1.length : Nat) : Int), (list1.map eBox)[0 + put.Box.toNat]? = some (eBox box), ACalls cx.P 56 [vi 1000000, vi (w64 (box.Ver + 1))] (spec_l1Min_R l1Min) (spec_l1Min_O l1Min), (0 : Int) ≤ i, i < ((r_.Puts.length : Nat) : Int), (r_.Puts.map ePut)[i.toNat]? = some (ePut put), (0 : Int) ≤ put.Box, put.Box < ((list1.length : Nat) : Int), Ent.row 86 2 list1.length ((list1.map eBox).set (0 + put.Box.toNat) [vi l1Min, vi put.Val]) = erow 86 2 eBox (list1.set put.Box.toNat (TBox.mk l1Min put.Val)), (list1.map eBox)[0 + put.Box.toNat]? = some (eBox box), (.own 0 0 2 0 list1.length : V) = .own 0 0 2 0 (list1.set put.Box.toNat (TBox.mk l1Min put.Val)).length] (.cons e1 (.cons (idx0 hput) (.cons (idx1 hput) (.cons (map_idx hput) (.cons (idx0 hbox) (.cons (idx1 hbox) (.cons (map_idx0 hbox) (.cons (spec_l1Min_ok 1000000 (w64 (box.Ver + 1)) l1Min hl1Min) (.cons (idx0 hput) (.cons (idx1 hput) (.cons (map_idx hput) (.cons (idx0 hbox) (.cons (idx1 hbox) (.cons (row_set rfl) (.cons (map_idx0 hbox) (.cons (by simp) .nil)))))))))))))))) hI (by kernel_rfl))))))) (fun e1 h =>
 (brkD h hc1 fun e => (Fin.seg [[(4, { d := some false })]] [] [0] [] [decide (i < (r_.Puts.length : Int)) = false] (.cons e1 .nil) (hb1 _ e) (by kernel_rfl)))))
theorem spec_l3Do_b1_loop (r_ : TRun) (res : V) (outs : List (Option V)) (x1 : Exc (List TBox) (List TBox)) (hb1 : ∀ s : List TBox, x1 = .brk s → Fin cx spec_l3Do_X res outs spec_l3Do_k1 (spec_l3Do_S1 s)) (hr1 : ∀ v : List TBox, x1 = .ret v → (res = spec_l3Do_R v ∧ outs = spec_l3Do_O v)) (s : (List TBox) × Int) (h : loop (fun s : (List TBox) × Int => spec_l3Do_b1 r_ s.1 s.2) s = some x1) : Fin cx spec_l3Do_X res outs spec_l3Do_k3 (spec_l3Do_S2 r_ s.1 s.2) :=
  loopD (I := fun s : (List TBox) × Int => Fin cx spec_l3Do_X res outs spec_l3Do_k3 (spec_l3Do_S2 r_ s.1 s.2)) h fun s st h hc => spec_l3Do_b1_ok r_ res outs x1 hb1 hr1 st hc s.1 s.2 h
noncomputable def spec_l3Do (list : List TBox) (r_ : TRun) : Option (List TBox) :=
  ((loop (fun s : (List TBox) × Int => spec_l3Do_b1 r_ s.1 s.2) (list, 0)).bind fun x => x.go (fun r => some r) fun s => spec_l3Do_k2 s)
theorem spec_l3Do_fin (list : List TBox) (r_ : TRun) (r : List TBox) (h : spec_l3Do list r_ = some r) : Fin cx spec_l3Do_X (spec_l3Do_R r) (spec_l3Do_O r) [.code spec_l3Do_c] (startS spec_l3Do_X [vosl 86 2 eBox list, .agg (eRun r_)]) :=
  (loopJ h fun x hl hr hb => (Fin.seg [[], []] [] [0, 3, 5] [(1, 0)] [] .nil (spec_l3Do_b1_loop r_ _ _ x (fun s e => spec_l3Do_k2_ok r s (hb s e)) (fun v e => ⟨congrArg spec_l3Do_R (Option.some.inj (hr v e)).symm, congrArg spec_l3Do_O (Option.some.inj (hr v e)).symm⟩) (list, 0) hl) (by kernel_rfl)))
theorem spec_l3Do_ok (list : List TBox) (r_ : TRun) (r : List TBox) (h : spec_l3Do list r_ = some r) : ACalls cx.P 37 [vosl 86 2 eBox list, .agg (eRun r_)] (spec_l3Do_R r) (spec_l3Do_O r) :=
  ACalls.of (cx := cx) (X := spec_l3Do_X) (c := spec_l3Do_c) Try.func37 (by kernel_rfl) (by kernel_rfl) (by kernel_rfl) (spec_l3Do_fin list r_ r h)


end Go.Proofs.Ytoghkllkjjpgkaa
