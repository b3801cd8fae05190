/- Functions of the program, and that their calls come to this. -/
import Derived.Test.YtpiaaeggofnphaaTy
set_option linter.unusedVariables false
set_option linter.unusedSimpArgs false
namespace Go.Proofs.Ytpiaaeggofnphaa
open Go

/-! ### laws_szReadS -/
noncomputable def laws_szReadS_c : Code := bodyOf Try.f34
noncomputable def laws_szReadS_X : Sig := { f := 34, fn := Try.f34, rms := [.val [] []], oms := [none, none] }
noncomputable def laws_szReadS_R (r : Int) : V := vi r
noncomputable def laws_szReadS_O (r : Int) : List (Option V) := [none, none]
noncomputable def laws_szReadS_t (i : Nat) (fr : Bool) (r : Int) : Nat × Tell := (i, { a := .call [.val [some 2] [], .val [] []] fr (laws_szReadS_R r) (laws_szReadS_O r) })
noncomputable def laws_szReadS (a : List TRead) (left : Int) : Option Int :=
  (bif decide ((w64 (left - (a.length : Int))) < 0) then
 some (-1)
 else
 some (w64 (left - (a.length : Int))))
theorem laws_szReadS_ok {a : List TRead} {left : Int} (r : Int) (h : laws_szReadS a left = some r) : ACalls cx.P 34 [vsl 2 eRead a, vi left] (laws_szReadS_R r) (laws_szReadS_O r) :=
  ACalls.of (cx := cx) (X := laws_szReadS_X) (c := laws_szReadS_c) Try.func34 (by kernel_rfl) (by kernel_rfl) (by kernel_rfl) (P0 <|
 rg3 <| cdD 1 h (fun h =>
 rg <| fe Try.func34 h) (fun h =>
 rg <| fe Try.func34 h))

/-! ### laws_szPutS -/
noncomputable def laws_szPutS_c : Code := bodyOf Try.f35
noncomputable def laws_szPutS_X : Sig := { f := 35, fn := Try.f35, rms := [.val [] []], oms := [none, none] }
noncomputable def laws_szPutS_R (r : Int) : V := vi r
noncomputable def laws_szPutS_O (r : Int) : List (Option V) := [none, none]
noncomputable def laws_szPutS_t (i : Nat) (fr : Bool) (r : Int) : Nat × Tell := (i, { a := .call [.val [some 2] [], .val [] []] fr (laws_szPutS_R r) (laws_szPutS_O r) })
noncomputable def laws_szPutS (a : List TPut) (left : Int) : Option Int :=
  (bif decide ((w64 (left - (a.length : Int))) < 0) then
 some (-1)
 else
 some (w64 (left - (a.length : Int))))
theorem laws_szPutS_ok {a : List TPut} {left : Int} (r : Int) (h : laws_szPutS a left = some r) : ACalls cx.P 35 [vsl 2 ePut a, vi left] (laws_szPutS_R r) (laws_szPutS_O r) :=
  ACalls.of (cx := cx) (X := laws_szPutS_X) (c := laws_szPutS_c) Try.func35 (by kernel_rfl) (by kernel_rfl) (by kernel_rfl) (P0 <|
 rg3 <| cdD 1 h (fun h =>
 rg <| fe Try.func35 h) (fun h =>
 rg <| fe Try.func35 h))

/-! ### laws_szRun -/
noncomputable def laws_szRun_c : Code := bodyOf Try.f24
noncomputable def laws_szRun_X : Sig := { f := 24, fn := Try.f24, rms := [.val [] []], oms := [none, none] }
noncomputable def laws_szRun_R (r : Int) : V := vi r
noncomputable def laws_szRun_O (r : Int) : List (Option V) := [none, none]
noncomputable def laws_szRun_t (i : Nat) (fr : Bool) (r : Int) : Nat × Tell := (i, { a := .call [.val ck39 [], .val [] []] fr (laws_szRun_R r) (laws_szRun_O r) })
noncomputable def laws_szRun (a : TRun) (left : Int) : Option Int :=
  ((laws_szReadS a.Reads left).bind fun szReadS =>
 (bif decide (szReadS < 0) then
 some (-1)
 else
 ((laws_szPutS a.Puts szReadS).bind fun szPutS =>
 (bif decide (szPutS < 0) then
 some (-1)
 else
 some szPutS))))
theorem laws_szRun_ok {a : TRun} {left : Int} (r : Int) (h : laws_szRun a left = some r) : ACalls cx.P 24 [.agg (eRun a), vi left] (laws_szRun_R r) (laws_szRun_O r) :=
  ACalls.of (cx := cx) (X := laws_szRun_X) (c := laws_szRun_c) Try.func24 (by kernel_rfl) (by kernel_rfl) (by kernel_rfl) (P0 <|
 rg2 <| cb laws_szReadS_t laws_szReadS_ok 3 false h fun szReadS h =>
 rg <| cdD 1 h (fun h =>
 rg <| fe Try.func24 h) (fun h =>
 rg <| cb laws_szPutS_t laws_szPutS_ok 3 false h fun szPutS h =>
 rg <| cdD 1 h (fun h =>
 rg <| fe Try.func24 h) (fun h =>
 rg <| fe Try.func24 h)))

/-! ### laws_szEntry -/
noncomputable def laws_szEntry_c : Code := bodyOf Try.f13
noncomputable def laws_szEntry_X : Sig := { f := 13, fn := Try.f13, rms := [.val [] []], oms := [none, none] }
noncomputable def laws_szEntry_R (r : Int) : V := vi r
noncomputable def laws_szEntry_O (r : Int) : List (Option V) := [none, none]
noncomputable def laws_szEntry_t (i : Nat) (fr : Bool) (r : Int) : Nat × Tell := (i, { a := .call [.val ck41 [], .val [] []] fr (laws_szEntry_R r) (laws_szEntry_O r) })
noncomputable def laws_szEntry (a : TEntry) (left : Int) : Option Int :=
  ((laws_szRun a.Run left).bind fun szRun =>
 (bif decide (szRun < 0) then
 some (-1)
 else
 some szRun))
theorem laws_szEntry_ok {a : TEntry} {left : Int} (r : Int) (h : laws_szEntry a left = some r) : ACalls cx.P 13 [.agg (eEntry a), vi left] (laws_szEntry_R r) (laws_szEntry_O r) :=
  ACalls.of (cx := cx) (X := laws_szEntry_X) (c := laws_szEntry_c) Try.func13 (by kernel_rfl) (by kernel_rfl) (by kernel_rfl) (P0 <|
 rg2 <| cb laws_szRun_t laws_szRun_ok 3 false h fun szRun h =>
 rg <| cdD 1 h (fun h =>
 rg <| fe Try.func13 h) (fun h =>
 rg <| fe Try.func13 h))

/-! ### laws_szEntryS -/
noncomputable def laws_szEntryS_c : Code := bodyOf Try.f4
noncomputable def laws_szEntryS_X : Sig := { f := 4, fn := Try.f4, rms := [.val [] []], oms := [none, none] }
noncomputable def laws_szEntryS_R (r : Int) : V := vi r
noncomputable def laws_szEntryS_O (r : Int) : List (Option V) := [none, none]
noncomputable def laws_szEntryS_t (i : Nat) (fr : Bool) (r : Int) : Nat × Tell := (i, { a := .call [.val [some 7] [], .val [] []] fr (laws_szEntryS_R r) (laws_szEntryS_O r) })
noncomputable def laws_szEntryS_k1 : List Item := posI 2000 5 [false, false] [.code laws_szEntryS_c]
noncomputable def laws_szEntryS_S1 (left2 : Int) : St := ⟨(bs 1 (vi left2 :: (bs 25 []))), [some []]⟩
noncomputable def laws_szEntryS_k2 (left2 : Int) : Option Int :=
  some left2
theorem laws_szEntryS_k2_ok (r : Int) (left2 : Int) (h : laws_szEntryS_k2 left2 = some r) : Fin cx laws_szEntryS_X (laws_szEntryS_R r) (laws_szEntryS_O r) laws_szEntryS_k1 (laws_szEntryS_S1 left2) :=
  P0 <|
 rg <| fe Try.func4 h
noncomputable def laws_szEntryS_k3 : List Item := posI 2000 4 [false] [.code laws_szEntryS_c]
noncomputable def laws_szEntryS_S2 (a : List TEntry) (left1 : Int) (i : Int) : St := ⟨(vsl 7 eEntry a :: (vi left1 :: (bs 3 (vi i :: (bs 21 []))))), [some []]⟩
noncomputable def laws_szEntryS_b1 (a : List TEntry) (left1 : Int) (i : Int) : Option (Stp Int (Int × Int) Int) :=
  (bif decide (i < (a.length : Int)) then
 ((idx a i).bind fun entry =>
 ((laws_szEntry entry left1).bind fun szEntry =>
 (bif decide (szEntry < 0) then
 some (Stp.ret (-1))
 else
 some (Stp.nxt (szEntry, w64 (i + 1))))))
 else
 some (Stp.brk left1))
theorem laws_szEntryS_b1_ok (a : List TEntry) (res : V) (outs : List (Option V)) (x1 : Exc Int Int) (hb1 : HB cx laws_szEntryS_X res outs x1 laws_szEntryS_k1 laws_szEntryS_S1) (hr1 : HR res outs x1 laws_szEntryS_R laws_szEntryS_O) (st1 : Stp Int (Int × Int) Int) (hc1 : Cont x1 (fun s : Int × Int => Fin cx laws_szEntryS_X res outs laws_szEntryS_k3 (laws_szEntryS_S2 a s.1 s.2)) st1) (left1 : Int) (i : Int) (h : laws_szEntryS_b1 a left1 i = some st1) : Fin cx laws_szEntryS_X res outs laws_szEntryS_k3 (laws_szEntryS_S2 a left1 i) :=
  P0 <|
 rg <| cdD 3 h (fun h =>
 rg <| ixS eEntry 2 h fun entry hentry h =>
 cb laws_szEntry_t laws_szEntry_ok 5 false h fun szEntry h =>
 rg <| cdD 1 h (fun h =>
 rg <| (retD h hc1 fun e => fn0 Try.func4 (hr1 _ e))) (fun h =>
 rg <| (nxtD h hc1 fun hI => sg [] [0, 1, 5] [] hI))) (fun h =>
 (brkD h hc1 fun e => sg [] [1] [] (hb1 _ e)))
noncomputable def laws_szEntryS (a : List TEntry) (left : Int) : Option Int :=
  (bif decide ((w64 (left - (a.length : Int))) < 0) then
 some (-1)
 else
 ((loop (fun s : Int × Int => laws_szEntryS_b1 a s.1 s.2) (w64 (left - (a.length : Int)), 0)).bind fun x => x.go (fun r => some r) fun s => laws_szEntryS_k2 s))
theorem laws_szEntryS_ok {a : List TEntry} {left : Int} (r : Int) (h : laws_szEntryS a left = some r) : ACalls cx.P 4 [vsl 7 eEntry a, vi left] (laws_szEntryS_R r) (laws_szEntryS_O r) :=
  ACalls.of (cx := cx) (X := laws_szEntryS_X) (c := laws_szEntryS_c) Try.func4 (by kernel_rfl) (by kernel_rfl) (by kernel_rfl) (P0 <|
 rg3 <| cdD 1 h (fun h =>
 rg <| fe Try.func4 h) (fun h =>
 rg <| loopJ h fun x hl hr hb => sg [] [0, 1, 5] [] (loopD (I := fun s : Int × Int => Fin cx laws_szEntryS_X (laws_szEntryS_R r) (laws_szEntryS_O r) laws_szEntryS_k3 (laws_szEntryS_S2 a s.1 s.2)) hl fun s st h hc => laws_szEntryS_b1_ok a _ _ x (fun s e => laws_szEntryS_k2_ok r s (hb s e)) (fun v e => ⟨congrArg laws_szEntryS_R (Option.some.inj (hr v e)).symm, congrArg laws_szEntryS_O (Option.some.inj (hr v e)).symm⟩) st hc s.1 s.2 h)))

/-! ### laws_toReq -/
noncomputable def laws_toReq_c : Code := bodyOf Try.f28
noncomputable def laws_toReq_X : Sig := { f := 28, fn := Try.f28, rms := [.val [] []], oms := [none] }
noncomputable def laws_toReq_R (r : TReq) : V := .agg (eReq r)
noncomputable def laws_toReq_O (r : TReq) : List (Option V) := [none]
noncomputable def laws_toReq_t (i : Nat) (fr : Bool) (r : TReq) : Nat × Tell := (i, { a := .call [.val [] []] fr (laws_toReq_R r) (laws_toReq_O r) })
noncomputable def laws_toReq (a : TReq) : Option TReq :=
  some a
theorem laws_toReq_ok {a : TReq} (r : TReq) (h : laws_toReq a = some r) : ACalls cx.P 28 [.agg (eReq a)] (laws_toReq_R r) (laws_toReq_O r) :=
  ACalls.of (cx := cx) (X := laws_toReq_X) (c := laws_toReq_c) Try.func28 (by kernel_rfl) (by kernel_rfl) (by kernel_rfl) (P0 <|
 rg4 <| rg <| fe Try.func28 h)

/-! ### laws_toRead -/
noncomputable def laws_toRead_c : Code := bodyOf Try.f59
noncomputable def laws_toRead_X : Sig := { f := 59, fn := Try.f59, rms := [.val [] []], oms := [none] }
noncomputable def laws_toRead_R (r : TRead) : V := .agg (eRead r)
noncomputable def laws_toRead_O (r : TRead) : List (Option V) := [none]
noncomputable def laws_toRead_t (i : Nat) (fr : Bool) (r : TRead) : Nat × Tell := (i, { a := .call [.val [] []] fr (laws_toRead_R r) (laws_toRead_O r) })
noncomputable def laws_toRead (a : TRead) : Option TRead :=
  some a
theorem laws_toRead_ok {a : TRead} (r : TRead) (h : laws_toRead a = some r) : ACalls cx.P 59 [.agg (eRead a)] (laws_toRead_R r) (laws_toRead_O r) :=
  ACalls.of (cx := cx) (X := laws_toRead_X) (c := laws_toRead_c) Try.func59 (by kernel_rfl) (by kernel_rfl) (by kernel_rfl) (P0 <|
 rg4 <| rg <| fe Try.func59 h)

/-! ### laws_toReadS -/
noncomputable def laws_toReadS_c : Code := bodyOf Try.f44
noncomputable def laws_toReadS_X : Sig := { f := 44, fn := Try.f44, rms := [.val [some 2] [some 75]], oms := [none] }
noncomputable def laws_toReadS_R (r : List TRead) : V := vosl 75 2 eRead r
noncomputable def laws_toReadS_O (r : List TRead) : List (Option V) := [none]
noncomputable def laws_toReadS_t (i : Nat) (fr : Bool) (r : List TRead) : Nat × Tell := (i, { a := .call [.val [some 2] []] fr (laws_toReadS_R r) (laws_toReadS_O r) })
noncomputable def laws_toReadS_k1 : List Item := posI 2000 4 [false] [.code laws_toReadS_c]
noncomputable def laws_toReadS_S1 (out1 : List TRead) : St := ⟨(bs 3 (.own 1 0 2 0 out1.length :: (bs 19 []))), [some [], some [erow 75 2 eRead out1]]⟩
noncomputable def laws_toReadS_k2 (out1 : List TRead) : Option (List TRead) :=
  some out1
theorem laws_toReadS_k2_ok (r : List TRead) (out1 : List TRead) (h : laws_toReadS_k2 out1 = some r) : Fin cx laws_toReadS_X (laws_toReadS_R r) (laws_toReadS_O r) laws_toReadS_k1 (laws_toReadS_S1 out1) :=
  P0 <|
 rg <| om (out1.length = out1.length) rfl <| fe Try.func44 h
noncomputable def laws_toReadS_k3 : List Item := posI 2000 3 [] [.code laws_toReadS_c]
noncomputable def laws_toReadS_S2 (a : List TRead) (out : List TRead) (i : Int) : St := ⟨(vsl 2 eRead a :: (bs 2 (.own 1 0 2 0 out.length :: (vi i :: (bs 18 []))))), [some [], some [erow 75 2 eRead out]]⟩
noncomputable def laws_toReadS_b1 (a : List TRead) (out : List TRead) (i : Int) : Option (Stp (List TRead) ((List TRead) × Int) (List TRead)) :=
  (bif decide (i < (a.length : Int)) then
 ((idx a i).bind fun read =>
 ((laws_toRead read).bind fun toRead =>
 ((idx out i).bind fun read1 =>
 some (Stp.nxt (out.set i.toNat toRead, w64 (i + 1))))))
 else
 some (Stp.brk out))
theorem laws_toReadS_b1_ok (a : List TRead) (res : V) (outs : List (Option V)) (x1 : Exc (List TRead) (List TRead)) (hb1 : HB cx laws_toReadS_X res outs x1 laws_toReadS_k1 laws_toReadS_S1) (hr1 : HR res outs x1 laws_toReadS_R laws_toReadS_O) (st1 : Stp (List TRead) ((List TRead) × Int) (List TRead)) (hc1 : Cont x1 (fun s : (List TRead) × Int => Fin cx laws_toReadS_X res outs laws_toReadS_k3 (laws_toReadS_S2 a s.1 s.2)) st1) (out : List TRead) (i : Int) (h : laws_toReadS_b1 a out i = some st1) : Fin cx laws_toReadS_X res outs laws_toReadS_k3 (laws_toReadS_S2 a out i) :=
  P0 <|
 rg <| cdD 3 h (fun h =>
 rg <| ixS eRead 4 h fun read hread h =>
 cb laws_toRead_t laws_toRead_ok 6 false h fun toRead h =>
 bindD h fun read1 hread1 h =>
 ixB hread1 <| stR 75 2 eRead 8 [] toRead hread1 <| rg <| (nxtD h hc1 fun hI => om ((.own 1 0 2 0 out.length : V) = .own 1 0 2 0 (out.set i.toNat toRead).length) (by simp) <| sg [.is (.tmp 3) (.own 1 0 2 0 (out.set i.toNat toRead).length)] [0, 3, 4] [(1, 0)] hI)) (fun h =>
 (brkD h hc1 fun e => sg [] [3] [(1, 0)] (hb1 _ e)))
noncomputable def laws_toReadS (a : List TRead) : Option (List TRead) :=
  (need (0 ≤ (a.length : Int) ∧ (a.length : Int) * 16 ≤ 140737488355328)
 (((loop (fun s : (List TRead) × Int => laws_toReadS_b1 a s.1 s.2) (List.replicate (a.length : Int).toNat (TRead.mk 0 0), 0)).bind fun x => x.go (fun r => some r) fun s => laws_toReadS_k2 s)))
theorem laws_toReadS_ok {a : List TRead} (r : List TRead) (h : laws_toReadS a = some r) : ACalls cx.P 44 [vsl 2 eRead a] (laws_toReadS_R r) (laws_toReadS_O r) :=
  ACalls.of (cx := cx) (X := laws_toReadS_X) (c := laws_toReadS_c) Try.func44 (by kernel_rfl) (by kernel_rfl) (by kernel_rfl) (P0 <|
 rg2 <| needD h fun e1 h =>
 mkS 2 4 75 2 16 eRead (TRead.mk 0 0) ti75 (.none) e1 (by decide) (by rfl) <| rg <| loopJ h fun x hl hr hb => sg [] [0, 3, 4] [(4, 0)] (loopD (I := fun s : (List TRead) × Int => Fin cx laws_toReadS_X (laws_toReadS_R r) (laws_toReadS_O r) laws_toReadS_k3 (laws_toReadS_S2 a s.1 s.2)) hl fun s st h hc => laws_toReadS_b1_ok a _ _ x (fun s e => laws_toReadS_k2_ok r s (hb s e)) (fun v e => ⟨congrArg laws_toReadS_R (Option.some.inj (hr v e)).symm, congrArg laws_toReadS_O (Option.some.inj (hr v e)).symm⟩) st hc s.1 s.2 h))

/-! ### laws_toPut -/
noncomputable def laws_toPut_c : Code := bodyOf Try.f60
noncomputable def laws_toPut_X : Sig := { f := 60, fn := Try.f60, rms := [.val [] []], oms := [none] }
noncomputable def laws_toPut_R (r : TPut) : V := .agg (ePut r)
noncomputable def laws_toPut_O (r : TPut) : List (Option V) := [none]
noncomputable def laws_toPut_t (i : Nat) (fr : Bool) (r : TPut) : Nat × Tell := (i, { a := .call [.val [] []] fr (laws_toPut_R r) (laws_toPut_O r) })
noncomputable def laws_toPut (a : TPut) : Option TPut :=
  some a
theorem laws_toPut_ok {a : TPut} (r : TPut) (h : laws_toPut a = some r) : ACalls cx.P 60 [.agg (ePut a)] (laws_toPut_R r) (laws_toPut_O r) :=
  ACalls.of (cx := cx) (X := laws_toPut_X) (c := laws_toPut_c) Try.func60 (by kernel_rfl) (by kernel_rfl) (by kernel_rfl) (P0 <|
 rg4 <| rg <| fe Try.func60 h)

/-! ### laws_toPutS -/
noncomputable def laws_toPutS_c : Code := bodyOf Try.f45
noncomputable def laws_toPutS_X : Sig := { f := 45, fn := Try.f45, rms := [.val [some 2] [some 77]], oms := [none] }
noncomputable def laws_toPutS_R (r : List TPut) : V := vosl 77 2 ePut r
noncomputable def laws_toPutS_O (r : List TPut) : List (Option V) := [none]
noncomputable def laws_toPutS_t (i : Nat) (fr : Bool) (r : List TPut) : Nat × Tell := (i, { a := .call [.val [some 2] []] fr (laws_toPutS_R r) (laws_toPutS_O r) })
noncomputable def laws_toPutS_k1 : List Item := posI 2000 4 [false] [.code laws_toPutS_c]
noncomputable def laws_toPutS_S1 (out1 : List TPut) : St := ⟨(bs 3 (.own 1 0 2 0 out1.length :: (bs 19 []))), [some [], some [erow 77 2 ePut out1]]⟩
noncomputable def laws_toPutS_k2 (out1 : List TPut) : Option (List TPut) :=
  some out1
theorem laws_toPutS_k2_ok (r : List TPut) (out1 : List TPut) (h : laws_toPutS_k2 out1 = some r) : Fin cx laws_toPutS_X (laws_toPutS_R r) (laws_toPutS_O r) laws_toPutS_k1 (laws_toPutS_S1 out1) :=
  P0 <|
 rg <| om (out1.length = out1.length) rfl <| fe Try.func45 h
noncomputable def laws_toPutS_k3 : List Item := posI 2000 3 [] [.code laws_toPutS_c]
noncomputable def laws_toPutS_S2 (a : List TPut) (out : List TPut) (i : Int) : St := ⟨(vsl 2 ePut a :: (bs 2 (.own 1 0 2 0 out.length :: (vi i :: (bs 18 []))))), [some [], some [erow 77 2 ePut out]]⟩
noncomputable def laws_toPutS_b1 (a : List TPut) (out : List TPut) (i : Int) : Option (Stp (List TPut) ((List TPut) × Int) (List TPut)) :=
  (bif decide (i < (a.length : Int)) then
 ((idx a i).bind fun put =>
 ((laws_toPut put).bind fun toPut =>
 ((idx out i).bind fun put1 =>
 some (Stp.nxt (out.set i.toNat toPut, w64 (i + 1))))))
 else
 some (Stp.brk out))
theorem laws_toPutS_b1_ok (a : List TPut) (res : V) (outs : List (Option V)) (x1 : Exc (List TPut) (List TPut)) (hb1 : HB cx laws_toPutS_X res outs x1 laws_toPutS_k1 laws_toPutS_S1) (hr1 : HR res outs x1 laws_toPutS_R laws_toPutS_O) (st1 : Stp (List TPut) ((List TPut) × Int) (List TPut)) (hc1 : Cont x1 (fun s : (List TPut) × Int => Fin cx laws_toPutS_X res outs laws_toPutS_k3 (laws_toPutS_S2 a s.1 s.2)) st1) (out : List TPut) (i : Int) (h : laws_toPutS_b1 a out i = some st1) : Fin cx laws_toPutS_X res outs laws_toPutS_k3 (laws_toPutS_S2 a out i) :=
  P0 <|
 rg <| cdD 3 h (fun h =>
 rg <| ixS ePut 4 h fun put hput h =>
 cb laws_toPut_t laws_toPut_ok 6 false h fun toPut h =>
 bindD h fun put1 hput1 h =>
 ixB hput1 <| stR 77 2 ePut 8 [] toPut hput1 <| rg <| (nxtD h hc1 fun hI => om ((.own 1 0 2 0 out.length : V) = .own 1 0 2 0 (out.set i.toNat toPut).length) (by simp) <| sg [.is (.tmp 3) (.own 1 0 2 0 (out.set i.toNat toPut).length)] [0, 3, 4] [(1, 0)] hI)) (fun h =>
 (brkD h hc1 fun e => sg [] [3] [(1, 0)] (hb1 _ e)))
noncomputable def laws_toPutS (a : List TPut) : Option (List TPut) :=
  (need (0 ≤ (a.length : Int) ∧ (a.length : Int) * 16 ≤ 140737488355328)
 (((loop (fun s : (List TPut) × Int => laws_toPutS_b1 a s.1 s.2) (List.replicate (a.length : Int).toNat (TPut.mk 0 0), 0)).bind fun x => x.go (fun r => some r) fun s => laws_toPutS_k2 s)))
theorem laws_toPutS_ok {a : List TPut} (r : List TPut) (h : laws_toPutS a = some r) : ACalls cx.P 45 [vsl 2 ePut a] (laws_toPutS_R r) (laws_toPutS_O r) :=
  ACalls.of (cx := cx) (X := laws_toPutS_X) (c := laws_toPutS_c) Try.func45 (by kernel_rfl) (by kernel_rfl) (by kernel_rfl) (P0 <|
 rg2 <| needD h fun e1 h =>
 mkS 2 4 77 2 16 ePut (TPut.mk 0 0) ti77 (.none) e1 (by decide) (by rfl) <| rg <| loopJ h fun x hl hr hb => sg [] [0, 3, 4] [(4, 0)] (loopD (I := fun s : (List TPut) × Int => Fin cx laws_toPutS_X (laws_toPutS_R r) (laws_toPutS_O r) laws_toPutS_k3 (laws_toPutS_S2 a s.1 s.2)) hl fun s st h hc => laws_toPutS_b1_ok a _ _ x (fun s e => laws_toPutS_k2_ok r s (hb s e)) (fun v e => ⟨congrArg laws_toPutS_R (Option.some.inj (hr v e)).symm, congrArg laws_toPutS_O (Option.some.inj (hr v e)).symm⟩) st hc s.1 s.2 h))

/-! ### laws_toRun -/
noncomputable def laws_toRun_c : Code := bodyOf Try.f29
noncomputable def laws_toRun_X : Sig := { f := 29, fn := Try.f29, rms := [.val ck51 [some 75, some 77, none, none]], oms := [none] }
noncomputable def laws_toRun_R (r : TRun) : V := .agg [vosl 75 2 eRead r.Reads, vosl 77 2 ePut r.Puts, vi r.Val, vi r.Code]
noncomputable def laws_toRun_O (r : TRun) : List (Option V) := [none]
noncomputable def laws_toRun_t (i : Nat) (fr : Bool) (r : TRun) : Nat × Tell := (i, { a := .call [.val ck39 []] fr (laws_toRun_R r) (laws_toRun_O r) })
noncomputable def laws_toRun (a : TRun) : Option TRun :=
  ((laws_toReadS a.Reads).bind fun toReadS =>
 ((laws_toPutS a.Puts).bind fun toPutS =>
 some (TRun.mk toReadS toPutS a.Val a.Code)))
theorem laws_toRun_ok {a : TRun} (r : TRun) (h : laws_toRun a = some r) : ACalls cx.P 29 [.agg (eRun a)] (laws_toRun_R r) (laws_toRun_O r) :=
  ACalls.of (cx := cx) (X := laws_toRun_X) (c := laws_toRun_c) Try.func29 (by kernel_rfl) (by kernel_rfl) (by kernel_rfl) (P0 <|
 rg3 <| cb laws_toReadS_t laws_toReadS_ok 2 false h fun toReadS h =>
 rg <| cb laws_toPutS_t laws_toPutS_ok 2 false h fun toPutS h =>
 rg3 <| om (toReadS.length = toReadS.length) rfl <| om (toPutS.length = toPutS.length) rfl <| fe Try.func29 h)

/-! ### laws_toEntry -/
noncomputable def laws_toEntry_c : Code := bodyOf Try.f16
noncomputable def laws_toEntry_X : Sig := { f := 16, fn := Try.f16, rms := [.val ck53 [none, none, none, some 75, some 77, none, none]], oms := [none] }
noncomputable def laws_toEntry_R (r : TEntry) : V := .agg [.b r.None, vi r.Req.Who, vi r.Req.Seq, vosl 75 2 eRead r.Run.Reads, vosl 77 2 ePut r.Run.Puts, vi r.Run.Val, vi r.Run.Code]
noncomputable def laws_toEntry_O (r : TEntry) : List (Option V) := [none]
noncomputable def laws_toEntry_t (i : Nat) (fr : Bool) (r : TEntry) : Nat × Tell := (i, { a := .call [.val ck41 []] fr (laws_toEntry_R r) (laws_toEntry_O r) })
noncomputable def laws_toEntry (a : TEntry) : Option TEntry :=
  ((laws_toReq a.Req).bind fun toReq =>
 ((laws_toRun a.Run).bind fun toRun =>
 some (TEntry.mk a.None toReq toRun)))
theorem laws_toEntry_ok {a : TEntry} (r : TEntry) (h : laws_toEntry a = some r) : ACalls cx.P 16 [.agg (eEntry a)] (laws_toEntry_R r) (laws_toEntry_O r) :=
  ACalls.of (cx := cx) (X := laws_toEntry_X) (c := laws_toEntry_c) Try.func16 (by kernel_rfl) (by kernel_rfl) (by kernel_rfl) (P0 <|
 rg4 <| cb laws_toReq_t laws_toReq_ok 2 false h fun toReq h =>
 rg <| cb laws_toRun_t laws_toRun_ok 2 false h fun toRun h =>
 rg <| om (toRun.Reads.length = toRun.Reads.length) rfl <| om (toRun.Puts.length = toRun.Puts.length) rfl <| fe Try.func16 h)

/-! ### laws_toEntryS -/
noncomputable def laws_toEntryS_c : Code := bodyOf Try.f6
noncomputable def laws_toEntryS_X : Sig := { f := 6, fn := Try.f6, rms := [.val [some 7] [some 1000053]], oms := [none] }
noncomputable def laws_toEntryS_R (r : List TEntry) : V := vdsl 53 7 eEntry_1 r
noncomputable def laws_toEntryS_O (r : List TEntry) : List (Option V) := [none]
noncomputable def laws_toEntryS_t (i : Nat) (fr : Bool) (r : List TEntry) : Nat × Tell := (i, { a := .call [.val [some 7] []] fr (laws_toEntryS_R r) (laws_toEntryS_O r) })
noncomputable def laws_toEntryS_k1 : List Item := posI 2000 4 [false] [.code laws_toEntryS_c]
noncomputable def laws_toEntryS_S1 (out1 : List TEntry) : St := ⟨(bs 3 (.own 1 0 7 0 out1.length :: (bs 19 []))), [some [], some [edeep 53 7 eEntry_1 out1]]⟩
noncomputable def laws_toEntryS_k2 (out1 : List TEntry) : Option (List TEntry) :=
  some out1
theorem laws_toEntryS_k2_ok (r : List TEntry) (out1 : List TEntry) (h : laws_toEntryS_k2 out1 = some r) : Fin cx laws_toEntryS_X (laws_toEntryS_R r) (laws_toEntryS_O r) laws_toEntryS_k1 (laws_toEntryS_S1 out1) :=
  P0 <|
 rg <| om (out1.length = out1.length) rfl <| fe Try.func6 h
noncomputable def laws_toEntryS_k3 : List Item := posI 2000 3 [] [.code laws_toEntryS_c]
noncomputable def laws_toEntryS_S2 (a : List TEntry) (out : List TEntry) (i : Int) : St := ⟨(vsl 7 eEntry a :: (bs 2 (.own 1 0 7 0 out.length :: (vi i :: (bs 18 []))))), [some [], some [edeep 53 7 eEntry_1 out]]⟩
noncomputable def laws_toEntryS_b1 (a : List TEntry) (out : List TEntry) (i : Int) : Option (Stp (List TEntry) ((List TEntry) × Int) (List TEntry)) :=
  (bif decide (i < (a.length : Int)) then
 ((idx a i).bind fun entry =>
 ((laws_toEntry entry).bind fun toEntry =>
 ((idx out i).bind fun entry1 =>
 some (Stp.nxt (out.set i.toNat toEntry, w64 (i + 1))))))
 else
 some (Stp.brk out))
theorem laws_toEntryS_b1_ok (a : List TEntry) (res : V) (outs : List (Option V)) (x1 : Exc (List TEntry) (List TEntry)) (hb1 : HB cx laws_toEntryS_X res outs x1 laws_toEntryS_k1 laws_toEntryS_S1) (hr1 : HR res outs x1 laws_toEntryS_R laws_toEntryS_O) (st1 : Stp (List TEntry) ((List TEntry) × Int) (List TEntry)) (hc1 : Cont x1 (fun s : (List TEntry) × Int => Fin cx laws_toEntryS_X res outs laws_toEntryS_k3 (laws_toEntryS_S2 a s.1 s.2)) st1) (out : List TEntry) (i : Int) (h : laws_toEntryS_b1 a out i = some st1) : Fin cx laws_toEntryS_X res outs laws_toEntryS_k3 (laws_toEntryS_S2 a out i) :=
  P0 <|
 rg <| cdD 3 h (fun h =>
 rg <| ixS eEntry 4 h fun entry hentry h =>
 cb laws_toEntry_t laws_toEntry_ok 6 false h fun toEntry h =>
 bindD h fun entry1 hentry1 h =>
 ixB hentry1 <| om (Ent.deep false 53 7 out.length ((out.map eEntry_1).set (0 + i.toNat) [.b toEntry.None, vi toEntry.Req.Who, vi toEntry.Req.Seq, vosl 75 2 eRead toEntry.Run.Reads, vosl 77 2 ePut toEntry.Run.Puts, vi toEntry.Run.Val, vi toEntry.Run.Code]) = edeep 53 7 eEntry_1 (out.set i.toNat toEntry)) (deep_set0 rfl) <| ob (map_idx0 (enc := eEntry_1) hentry1) <| om (toEntry.Run.Reads.length = toEntry.Run.Reads.length) rfl <| om (toEntry.Run.Puts.length = toEntry.Run.Puts.length) rfl <| tl (8, { a := .dst (eEntry_1 entry1) [none, none, none, some 2, some 2, none, none] [none, none, none, some 75, some 77, none, none], e := some (edeep 53 7 eEntry_1 (out.set i.toNat toEntry)) }) <| rg <| (nxtD h hc1 fun hI => om ((.own 1 0 7 0 out.length : V) = .own 1 0 7 0 (out.set i.toNat toEntry).length) (by simp) <| sg [.is (.tmp 3) (.own 1 0 7 0 (out.set i.toNat toEntry).length)] [0, 3, 4] [(1, 0)] hI)) (fun h =>
 (brkD h hc1 fun e => sg [] [3] [(1, 0)] (hb1 _ e)))
noncomputable def laws_toEntryS (a : List TEntry) : Option (List TEntry) :=
  (need (0 ≤ (a.length : Int) ∧ (a.length : Int) * 88 ≤ 140737488355328)
 (((loop (fun s : (List TEntry) × Int => laws_toEntryS_b1 a s.1 s.2) (List.replicate (a.length : Int).toNat (TEntry.mk false (TReq.mk 0 0) (TRun.mk [] [] 0 0)), 0)).bind fun x => x.go (fun r => some r) fun s => laws_toEntryS_k2 s)))
theorem laws_toEntryS_ok {a : List TEntry} (r : List TEntry) (h : laws_toEntryS a = some r) : ACalls cx.P 6 [vsl 7 eEntry a] (laws_toEntryS_R r) (laws_toEntryS_O r) :=
  ACalls.of (cx := cx) (X := laws_toEntryS_X) (c := laws_toEntryS_c) Try.func6 (by kernel_rfl) (by kernel_rfl) (by kernel_rfl) (P0 <|
 rg2 <| needD h fun e1 h =>
 om (V.own 4 0 7 0 (a.length : Int).toNat = .own 4 0 7 0 (List.replicate (a.length : Int).toNat (TEntry.mk false (TReq.mk 0 0) (TRun.mk [] [] 0 0))).length) (by simp) <| om (Ent.deep false 53 7 (a.length : Int).toNat (List.replicate (a.length : Int).toNat [.b false, vi 0, vi 0, .osl 75 2 0 [], .osl 77 2 0 [], vi 0, vi 0]) = edeep 53 7 eEntry_1 (List.replicate (a.length : Int).toNat (TEntry.mk false (TReq.mk 0 0) (TRun.mk [] [] 0 0)))) (deep_rep rfl) <| ob e1.1 <| om ((a.length : Int) = (a.length : Int)) rfl <| om ((a.length : Int) * ((88 : Nat) : Int) ≤ 140737488355328 ∧ 0 < 88) ⟨e1.2, by decide⟩ <| om (([.b false, vi 0, vi 0, .nil, .nil, vi 0, vi 0] : List V).length = 7) rfl <| tl (2, { a := .dck [none, none, none, some 2, some 2, none, none] [none, none, none, some 75, some 77, none, none], e := some (edeep 53 7 eEntry_1 (List.replicate (a.length : Int).toNat (TEntry.mk false (TReq.mk 0 0) (TRun.mk [] [] 0 0)))), v := some (.own 4 0 7 0 (List.replicate (a.length : Int).toNat (TEntry.mk false (TReq.mk 0 0) (TRun.mk [] [] 0 0))).length) }) <| rg <| loopJ h fun x hl hr hb => sg [] [0, 3, 4] [(4, 0)] (loopD (I := fun s : (List TEntry) × Int => Fin cx laws_toEntryS_X (laws_toEntryS_R r) (laws_toEntryS_O r) laws_toEntryS_k3 (laws_toEntryS_S2 a s.1 s.2)) hl fun s st h hc => laws_toEntryS_b1_ok a _ _ x (fun s e => laws_toEntryS_k2_ok r s (hb s e)) (fun v e => ⟨congrArg laws_toEntryS_R (Option.some.inj (hr v e)).symm, congrArg laws_toEntryS_O (Option.some.inj (hr v e)).symm⟩) st hc s.1 s.2 h))

/-! ### spec_ExecSame -/
noncomputable def spec_ExecSame_c : Code := bodyOf Try.f36
noncomputable def spec_ExecSame_X : Sig := { f := 36, fn := Try.f36, rms := [.val [] []], oms := [none, none] }
noncomputable def spec_ExecSame_R (r : Bool) : V := .b r
noncomputable def spec_ExecSame_O (r : Bool) : List (Option V) := [none, none]
noncomputable def spec_ExecSame_t (i : Nat) (fr : Bool) (r : Bool) : Nat × Tell := (i, { a := .call [.val ck51 [], .val ck51 []] fr (spec_ExecSame_R r) (spec_ExecSame_O r) })
noncomputable def spec_ExecSame_k1 : List Item := posI 2000 4 [false, false] [.code spec_ExecSame_c]
noncomputable def spec_ExecSame_S1 (a : TRun) (b : TRun) : St := ⟨(bs 2 (.ptr 1 0 0 :: (.ptr 2 0 0 :: (bs 69 [])))), [some [], some [.var 51 [vsl 2 eRead a.Reads, vsl 2 ePut a.Puts, vi a.Val, vi a.Code]], some [.var 51 [vsl 2 eRead b.Reads, vsl 2 ePut b.Puts, vi b.Val, vi b.Code]]]⟩
noncomputable def spec_ExecSame_k2 : List Item := posI 2000 6 [false, false, false] [.code spec_ExecSame_c]
noncomputable def spec_ExecSame_S2 : St := ⟨(bs 73 []), [some []]⟩
noncomputable def spec_ExecSame_k3 : Option Bool :=
  some true
theorem spec_ExecSame_k3_ok (r : Bool) (h : spec_ExecSame_k3 = some r) : Fin cx spec_ExecSame_X (spec_ExecSame_R r) (spec_ExecSame_O r) spec_ExecSame_k2 (spec_ExecSame_S2) :=
  P0 <|
 rg <| fe Try.func36 h
noncomputable def spec_ExecSame_k4 : List Item := posI 2000 5 [false, false] [.code spec_ExecSame_c]
noncomputable def spec_ExecSame_S3 (a : TRun) (b : TRun) (i1 : Int) : St := ⟨(bs 2 (.ptr 1 0 0 :: (.ptr 2 0 0 :: (bs 2 (vi i1 :: (bs 66 [])))))), [some [], some [.var 51 [vsl 2 eRead a.Reads, vsl 2 ePut a.Puts, vi a.Val, vi a.Code]], some [.var 51 [vsl 2 eRead b.Reads, vsl 2 ePut b.Puts, vi b.Val, vi b.Code]]]⟩
noncomputable def spec_ExecSame_b1 (a : TRun) (b : TRun) (i1 : Int) : Option (Stp Bool Int Unit) :=
  (bif decide (i1 < (a.Puts.length : Int)) then
 ((idx a.Puts i1).bind fun put =>
 ((idx b.Puts i1).bind fun put1 =>
 (bif (!(([put.Box, put.Val] : List Int) == [put1.Box, put1.Val])) then
 some (Stp.ret false)
 else
 some (Stp.nxt (w64 (i1 + 1))))))
 else
 some (Stp.brk ()))
theorem spec_ExecSame_b1_ok (a : TRun) (b : TRun) (res : V) (outs : List (Option V)) (x1 : Exc Bool Unit) (hb1 : HB cx spec_ExecSame_X res outs x1 spec_ExecSame_k2 (fun s => spec_ExecSame_S2)) (hr1 : HR res outs x1 spec_ExecSame_R spec_ExecSame_O) (st1 : Stp Bool Int Unit) (hc1 : Cont x1 (fun s : Int => Fin cx spec_ExecSame_X res outs spec_ExecSame_k4 (spec_ExecSame_S3 a b s)) st1) (i1 : Int) (h : spec_ExecSame_b1 a b i1 = some st1) : Fin cx spec_ExecSame_X res outs spec_ExecSame_k4 (spec_ExecSame_S3 a b i1) :=
  P0 <|
 rg <| cdD 4 h (fun h =>
 rg <| ixS ePut 3 h fun put hput h =>
 ixS ePut 8 h fun put1 hput1 h =>
 cdD 10 h (fun h =>
 rg <| (retD h hc1 fun e => fn0 Try.func36 (hr1 _ e))) (fun h =>
 rg <| (nxtD h hc1 fun hI => sg [] [2, 3, 6] [(1, 0), (2, 0)] hI))) (fun h =>
 (brkD h hc1 fun e => sg [] [] [] (hb1 _ e)))
noncomputable def spec_ExecSame_k5 (a : TRun) (b : TRun) : Option Bool :=
  ((loop (fun s : Int => spec_ExecSame_b1 a b s) 0).bind fun x => x.go (fun r => some r) fun s => spec_ExecSame_k3)
theorem spec_ExecSame_k5_ok (a : TRun) (b : TRun) (r : Bool) (h : spec_ExecSame_k5 a b = some r) : Fin cx spec_ExecSame_X (spec_ExecSame_R r) (spec_ExecSame_O r) spec_ExecSame_k1 (spec_ExecSame_S1 a b) :=
  P0 <|
 rg <| loopJ h fun x hl hr hb => sg [] [2, 3, 6] [(1, 0), (2, 0)] (loopD (I := fun s : Int => Fin cx spec_ExecSame_X (spec_ExecSame_R r) (spec_ExecSame_O r) spec_ExecSame_k4 (spec_ExecSame_S3 a b s)) hl fun s st h hc => spec_ExecSame_b1_ok a b _ _ x (fun s e => spec_ExecSame_k3_ok r (hb s e)) (fun v e => ⟨congrArg spec_ExecSame_R (Option.some.inj (hr v e)).symm, congrArg spec_ExecSame_O (Option.some.inj (hr v e)).symm⟩) st hc s h)
noncomputable def spec_ExecSame_k6 : List Item := posI 2000 3 [false] [.code spec_ExecSame_c]
noncomputable def spec_ExecSame_S4 (a : TRun) (b : TRun) (i : Int) : St := ⟨(bs 2 (.ptr 1 0 0 :: (.ptr 2 0 0 :: (bs 1 (vi i :: (bs 67 [])))))), [some [], some [.var 51 [vsl 2 eRead a.Reads, vsl 2 ePut a.Puts, vi a.Val, vi a.Code]], some [.var 51 [vsl 2 eRead b.Reads, vsl 2 ePut b.Puts, vi b.Val, vi b.Code]]]⟩
noncomputable def spec_ExecSame_b2 (a : TRun) (b : TRun) (i : Int) : Option (Stp Bool Int Unit) :=
  (bif decide (i < (a.Reads.length : Int)) then
 ((idx a.Reads i).bind fun read =>
 ((idx b.Reads i).bind fun read1 =>
 (bif (!(([read.Box, read.Ver] : List Int) == [read1.Box, read1.Ver])) then
 some (Stp.ret false)
 else
 some (Stp.nxt (w64 (i + 1))))))
 else
 some (Stp.brk ()))
theorem spec_ExecSame_b2_ok (a : TRun) (b : TRun) (res : V) (outs : List (Option V)) (x1 : Exc Bool Unit) (hb1 : HB cx spec_ExecSame_X res outs x1 spec_ExecSame_k1 (fun s => spec_ExecSame_S1 a b)) (hr1 : HR res outs x1 spec_ExecSame_R spec_ExecSame_O) (st1 : Stp Bool Int Unit) (hc1 : Cont x1 (fun s : Int => Fin cx spec_ExecSame_X res outs spec_ExecSame_k6 (spec_ExecSame_S4 a b s)) st1) (i : Int) (h : spec_ExecSame_b2 a b i = some st1) : Fin cx spec_ExecSame_X res outs spec_ExecSame_k6 (spec_ExecSame_S4 a b i) :=
  P0 <|
 rg <| cdD 4 h (fun h =>
 rg <| ixS eRead 3 h fun read hread h =>
 ixS eRead 8 h fun read1 hread1 h =>
 cdD 10 h (fun h =>
 rg <| (retD h hc1 fun e => fn0 Try.func36 (hr1 _ e))) (fun h =>
 rg <| (nxtD h hc1 fun hI => sg [] [2, 3, 5] [(1, 0), (2, 0)] hI))) (fun h =>
 (brkD h hc1 fun e => sg [] [2, 3] [(1, 0), (2, 0)] (hb1 _ e)))
noncomputable def spec_ExecSame (a : TRun) (b : TRun) : Option Bool :=
  (bif (a.Val != b.Val) then
 some false
 else
 (bif (a.Code != b.Code) then
 some false
 else
 (bif ((a.Reads.length : Int) != (b.Reads.length : Int)) then
 some false
 else
 (bif ((a.Puts.length : Int) != (b.Puts.length : Int)) then
 some false
 else
 ((loop (fun s : Int => spec_ExecSame_b2 a b s) 0).bind fun x => x.go (fun r => some r) fun s => spec_ExecSame_k5 a b)))))
theorem spec_ExecSame_ok {a : TRun} {b : TRun} (r : Bool) (h : spec_ExecSame a b = some r) : ACalls cx.P 36 [.agg (eRun a), .agg (eRun b)] (spec_ExecSame_R r) (spec_ExecSame_O r) :=
  ACalls.of (cx := cx) (X := spec_ExecSame_X) (c := spec_ExecSame_c) Try.func36 (by kernel_rfl) (by kernel_rfl) (by kernel_rfl) (P0 <|
 rg2 <| cdD 5 h (fun h =>
 rg <| fe Try.func36 h) (fun h =>
 cdD 12 h (fun h =>
 rg <| fe Try.func36 h) (fun h =>
 cdD 21 h (fun h =>
 rg <| fe Try.func36 h) (fun h =>
 cdD 29 h (fun h =>
 rg <| fe Try.func36 h) (fun h =>
 rg <| loopJ h fun x hl hr hb => sg [] [2, 3, 5] [(1, 0), (2, 0)] (loopD (I := fun s : Int => Fin cx spec_ExecSame_X (spec_ExecSame_R r) (spec_ExecSame_O r) spec_ExecSame_k6 (spec_ExecSame_S4 a b s)) hl fun s st h hc => spec_ExecSame_b2_ok a b _ _ x (fun s e => spec_ExecSame_k5_ok a b r (hb s e)) (fun v e => ⟨congrArg spec_ExecSame_R (Option.some.inj (hr v e)).symm, congrArg spec_ExecSame_O (Option.some.inj (hr v e)).symm⟩) st hc s h))))))

/-! ### spec_l5Req -/
noncomputable def spec_l5Req_c : Code := bodyOf Try.f37
noncomputable def spec_l5Req_X : Sig := { f := 37, fn := Try.f37, rms := [.val [] []], oms := [none] }
noncomputable def spec_l5Req_R (r : Bool) : V := .b r
noncomputable def spec_l5Req_O (r : Bool) : List (Option V) := [none]
noncomputable def spec_l5Req_t (i : Nat) (fr : Bool) (r : Bool) : Nat × Tell := (i, { a := .call [.val [] []] fr (spec_l5Req_R r) (spec_l5Req_O r) })
noncomputable def spec_l5Req (q : TReq) : Option Bool :=
  (bif decide (q.Who ≥ 0) then
 (bif decide (q.Who < 3) then
 (bif decide (q.Seq ≥ 1) then
 some (decide (q.Seq ≤ 1000))
 else
 some false)
 else
 some false)
 else
 some false)
theorem spec_l5Req_ok {q : TReq} (r : Bool) (h : spec_l5Req q = some r) : ACalls cx.P 37 [.agg (eReq q)] (spec_l5Req_R r) (spec_l5Req_O r) :=
  ACalls.of (cx := cx) (X := spec_l5Req_X) (c := spec_l5Req_c) Try.func37 (by kernel_rfl) (by kernel_rfl) (by kernel_rfl) (P0 <|
 rg2 <| cdD 3 h (fun h =>
 cdD 8 h (fun h =>
 cdD 13 h (fun h =>
 fe Try.func37 h) (fun h =>
 fe Try.func37 h)) (fun h =>
 fe Try.func37 h)) (fun h =>
 fe Try.func37 h))

/-! ### spec_l1Num -/
noncomputable def spec_l1Num_c : Code := bodyOf Try.f53
noncomputable def spec_l1Num_X : Sig := { f := 53, fn := Try.f53, rms := [.val [] []], oms := [none] }
noncomputable def spec_l1Num_R (r : Bool) : V := .b r
noncomputable def spec_l1Num_O (r : Bool) : List (Option V) := [none]
noncomputable def spec_l1Num_t (i : Nat) (fr : Bool) (r : Bool) : Nat × Tell := (i, { a := .call [.val [] []] fr (spec_l1Num_R r) (spec_l1Num_O r) })
noncomputable def spec_l1Num (n : Int) : Option Bool :=
  (bif decide (n ≥ (-1000000)) then
 some (decide (n ≤ 1000000))
 else
 some false)
theorem spec_l1Num_ok {n : Int} (r : Bool) (h : spec_l1Num n = some r) : ACalls cx.P 53 [vi n] (spec_l1Num_R r) (spec_l1Num_O r) :=
  ACalls.of (cx := cx) (X := spec_l1Num_X) (c := spec_l1Num_c) Try.func53 (by kernel_rfl) (by kernel_rfl) (by kernel_rfl) (P0 <|
 rg2 <| cdD 2 h (fun h =>
 fe Try.func53 h) (fun h =>
 fe Try.func53 h))

/-! ### spec_l2Box -/
noncomputable def spec_l2Box_c : Code := bodyOf Try.f54
noncomputable def spec_l2Box_X : Sig := { f := 54, fn := Try.f54, rms := [.val [] []], oms := [none] }
noncomputable def spec_l2Box_R (r : Bool) : V := .b r
noncomputable def spec_l2Box_O (r : Bool) : List (Option V) := [none]
noncomputable def spec_l2Box_t (i : Nat) (fr : Bool) (r : Bool) : Nat × Tell := (i, { a := .call [.val [] []] fr (spec_l2Box_R r) (spec_l2Box_O r) })
noncomputable def spec_l2Box (n : Int) : Option Bool :=
  (bif decide (n ≥ 0) then
 some (decide (n < 4))
 else
 some false)
theorem spec_l2Box_ok {n : Int} (r : Bool) (h : spec_l2Box n = some r) : ACalls cx.P 54 [vi n] (spec_l2Box_R r) (spec_l2Box_O r) :=
  ACalls.of (cx := cx) (X := spec_l2Box_X) (c := spec_l2Box_c) Try.func54 (by kernel_rfl) (by kernel_rfl) (by kernel_rfl) (P0 <|
 rg2 <| cdD 2 h (fun h =>
 fe Try.func54 h) (fun h =>
 fe Try.func54 h))

/-! ### spec_l3Saw -/
noncomputable def spec_l3Saw_c : Code := bodyOf Try.f55
noncomputable def spec_l3Saw_X : Sig := { f := 55, fn := Try.f55, rms := [.val [] []], oms := [none, none] }
noncomputable def spec_l3Saw_R (r : Bool) : V := .b r
noncomputable def spec_l3Saw_O (r : Bool) : List (Option V) := [none, none]
noncomputable def spec_l3Saw_t (i : Nat) (fr : Bool) (r : Bool) : Nat × Tell := (i, { a := .call [.val [some 2] [], .val [] []] fr (spec_l3Saw_R r) (spec_l3Saw_O r) })
noncomputable def spec_l3Saw_k1 : List Item := posI 2000 3 [false] [.code spec_l3Saw_c]
noncomputable def spec_l3Saw_S1 : St := ⟨(bs 19 []), [some []]⟩
noncomputable def spec_l3Saw_k2 : Option Bool :=
  some false
theorem spec_l3Saw_k2_ok (r : Bool) (h : spec_l3Saw_k2 = some r) : Fin cx spec_l3Saw_X (spec_l3Saw_R r) (spec_l3Saw_O r) spec_l3Saw_k1 (spec_l3Saw_S1) :=
  P0 <|
 rg <| fe Try.func55 h
noncomputable def spec_l3Saw_k3 : List Item := posI 2000 2 [] [.code spec_l3Saw_c]
noncomputable def spec_l3Saw_S2 (list : List TRead) (box : Int) (i : Int) : St := ⟨(vsl 2 eRead list :: (vi box :: (bs 3 (vi i :: (bs 13 []))))), [some []]⟩
noncomputable def spec_l3Saw_b1 (list : List TRead) (box : Int) (i : Int) : Option (Stp Bool Int Unit) :=
  (bif decide (i < (list.length : Int)) then
 ((idx list i).bind fun read =>
 (bif (read.Box == box) then
 some (Stp.ret true)
 else
 some (Stp.nxt (w64 (i + 1)))))
 else
 some (Stp.brk ()))
theorem spec_l3Saw_b1_ok (list : List TRead) (box : Int) (res : V) (outs : List (Option V)) (x1 : Exc Bool Unit) (hb1 : HB cx spec_l3Saw_X res outs x1 spec_l3Saw_k1 (fun s => spec_l3Saw_S1)) (hr1 : HR res outs x1 spec_l3Saw_R spec_l3Saw_O) (st1 : Stp Bool Int Unit) (hc1 : Cont x1 (fun s : Int => Fin cx spec_l3Saw_X res outs spec_l3Saw_k3 (spec_l3Saw_S2 list box s)) st1) (i : Int) (h : spec_l3Saw_b1 list box i = some st1) : Fin cx spec_l3Saw_X res outs spec_l3Saw_k3 (spec_l3Saw_S2 list box i) :=
  P0 <|
 rg <| cdD 3 h (fun h =>
 rg <| ixS eRead 2 h fun read hread h =>
 cdD 6 h (fun h =>
 rg <| (retD h hc1 fun e => fn0 Try.func55 (hr1 _ e))) (fun h =>
 rg <| (nxtD h hc1 fun hI => sg [] [0, 1, 5] [] hI))) (fun h =>
 (brkD h hc1 fun e => sg [] [] [] (hb1 _ e)))
noncomputable def spec_l3Saw (list : List TRead) (box : Int) : Option Bool :=
  ((loop (fun s : Int => spec_l3Saw_b1 list box s) 0).bind fun x => x.go (fun r => some r) fun s => spec_l3Saw_k2)
theorem spec_l3Saw_ok {list : List TRead} {box : Int} (r : Bool) (h : spec_l3Saw list box = some r) : ACalls cx.P 55 [vsl 2 eRead list, vi box] (spec_l3Saw_R r) (spec_l3Saw_O r) :=
  ACalls.of (cx := cx) (X := spec_l3Saw_X) (c := spec_l3Saw_c) Try.func55 (by kernel_rfl) (by kernel_rfl) (by kernel_rfl) (P0 <|
 rg2 <| loopJ h fun x hl hr hb => sg [] [0, 1, 5] [] (loopD (I := fun s : Int => Fin cx spec_l3Saw_X (spec_l3Saw_R r) (spec_l3Saw_O r) spec_l3Saw_k3 (spec_l3Saw_S2 list box s)) hl fun s st h hc => spec_l3Saw_b1_ok list box _ _ x (fun s e => spec_l3Saw_k2_ok r (hb s e)) (fun v e => ⟨congrArg spec_l3Saw_R (Option.some.inj (hr v e)).symm, congrArg spec_l3Saw_O (Option.some.inj (hr v e)).symm⟩) st hc s h))

/-! ### spec_l3At -/
noncomputable def spec_l3At_c : Code := bodyOf Try.f56
noncomputable def spec_l3At_X : Sig := { f := 56, fn := Try.f56, rms := [.val [] []], oms := [none, none] }
noncomputable def spec_l3At_R (r : Int) : V := vi r
noncomputable def spec_l3At_O (r : Int) : List (Option V) := [none, none]
noncomputable def spec_l3At_t (i : Nat) (fr : Bool) (r : Int) : Nat × Tell := (i, { a := .call [.val [some 2] [], .val [] []] fr (spec_l3At_R r) (spec_l3At_O r) })
noncomputable def spec_l3At_k1 : List Item := posI 2000 3 [false] [.code spec_l3At_c]
noncomputable def spec_l3At_S1 : St := ⟨(bs 20 []), [some []]⟩
noncomputable def spec_l3At_k2 : Option Int :=
  some (-1)
theorem spec_l3At_k2_ok (r : Int) (h : spec_l3At_k2 = some r) : Fin cx spec_l3At_X (spec_l3At_R r) (spec_l3At_O r) spec_l3At_k1 (spec_l3At_S1) :=
  P0 <|
 rg <| fe Try.func56 h
noncomputable def spec_l3At_k3 : List Item := posI 2000 2 [] [.code spec_l3At_c]
noncomputable def spec_l3At_S2 (list : List TPut) (box : Int) (i : Int) : St := ⟨(vsl 2 ePut list :: (vi box :: (bs 3 (vi i :: (bs 14 []))))), [some []]⟩
noncomputable def spec_l3At_b1 (list : List TPut) (box : Int) (i : Int) : Option (Stp Int Int Unit) :=
  (bif decide (i < (list.length : Int)) then
 ((idx list i).bind fun put =>
 (bif (put.Box == box) then
 some (Stp.ret i)
 else
 some (Stp.nxt (w64 (i + 1)))))
 else
 some (Stp.brk ()))
theorem spec_l3At_b1_ok (list : List TPut) (box : Int) (res : V) (outs : List (Option V)) (x1 : Exc Int Unit) (hb1 : HB cx spec_l3At_X res outs x1 spec_l3At_k1 (fun s => spec_l3At_S1)) (hr1 : HR res outs x1 spec_l3At_R spec_l3At_O) (st1 : Stp Int Int Unit) (hc1 : Cont x1 (fun s : Int => Fin cx spec_l3At_X res outs spec_l3At_k3 (spec_l3At_S2 list box s)) st1) (i : Int) (h : spec_l3At_b1 list box i = some st1) : Fin cx spec_l3At_X res outs spec_l3At_k3 (spec_l3At_S2 list box i) :=
  P0 <|
 rg <| cdD 3 h (fun h =>
 rg <| ixS ePut 2 h fun put hput h =>
 cdD 6 h (fun h =>
 rg <| (retD h hc1 fun e => fn0 Try.func56 (hr1 _ e))) (fun h =>
 rg <| (nxtD h hc1 fun hI => sg [] [0, 1, 5] [] hI))) (fun h =>
 (brkD h hc1 fun e => sg [] [] [] (hb1 _ e)))
noncomputable def spec_l3At (list : List TPut) (box : Int) : Option Int :=
  ((loop (fun s : Int => spec_l3At_b1 list box s) 0).bind fun x => x.go (fun r => some r) fun s => spec_l3At_k2)
theorem spec_l3At_ok {list : List TPut} {box : Int} (r : Int) (h : spec_l3At list box = some r) : ACalls cx.P 56 [vsl 2 ePut list, vi box] (spec_l3At_R r) (spec_l3At_O r) :=
  ACalls.of (cx := cx) (X := spec_l3At_X) (c := spec_l3At_c) Try.func56 (by kernel_rfl) (by kernel_rfl) (by kernel_rfl) (P0 <|
 rg2 <| loopJ h fun x hl hr hb => sg [] [0, 1, 5] [] (loopD (I := fun s : Int => Fin cx spec_l3At_X (spec_l3At_R r) (spec_l3At_O r) spec_l3At_k3 (spec_l3At_S2 list box s)) hl fun s st h hc => spec_l3At_b1_ok list box _ _ x (fun s e => spec_l3At_k2_ok r (hb s e)) (fun v e => ⟨congrArg spec_l3At_R (Option.some.inj (hr v e)).symm, congrArg spec_l3At_O (Option.some.inj (hr v e)).symm⟩) st hc s h))

/-! ### spec_ExecOk -/
noncomputable def spec_ExecOk_c : Code := bodyOf Try.f38
noncomputable def spec_ExecOk_X : Sig := { f := 38, fn := Try.f38, rms := [.val [] []], oms := [none] }
noncomputable def spec_ExecOk_R (r : Bool) : V := .b r
noncomputable def spec_ExecOk_O (r : Bool) : List (Option V) := [none]
noncomputable def spec_ExecOk_t (i : Nat) (fr : Bool) (r : Bool) : Nat × Tell := (i, { a := .call [.val ck51 []] fr (spec_ExecOk_R r) (spec_ExecOk_O r) })
noncomputable def spec_ExecOk_k1 : List Item := posI 2000 2 [false] [.code spec_ExecOk_c]
noncomputable def spec_ExecOk_S1 (r_ : TRun) : St := ⟨(bs 1 (.ptr 1 0 0 :: (bs 129 []))), [some [], some [.var 51 [vsl 2 eRead r_.Reads, vsl 2 ePut r_.Puts, vi r_.Val, vi r_.Code]]]⟩
noncomputable def spec_ExecOk_k2 : List Item := posI 2000 4 [false, false] [.code spec_ExecOk_c]
noncomputable def spec_ExecOk_S2 (r_ : TRun) : St := ⟨(bs 1 (.ptr 1 0 0 :: (bs 129 []))), [some [], some [.var 51 [vsl 2 eRead r_.Reads, vsl 2 ePut r_.Puts, vi r_.Val, vi r_.Code]]]⟩
noncomputable def spec_ExecOk_k3 : List Item := posI 2000 6 [false, false, false] [.code spec_ExecOk_c]
noncomputable def spec_ExecOk_S3 : St := ⟨(bs 131 []), [some []]⟩
noncomputable def spec_ExecOk_k4 : Option Bool :=
  some true
theorem spec_ExecOk_k4_ok (r : Bool) (h : spec_ExecOk_k4 = some r) : Fin cx spec_ExecOk_X (spec_ExecOk_R r) (spec_ExecOk_O r) spec_ExecOk_k3 (spec_ExecOk_S3) :=
  P0 <|
 rg <| fe Try.func38 h
noncomputable def spec_ExecOk_k5 : List Item := posI 2000 5 [false, false] [.code spec_ExecOk_c]
noncomputable def spec_ExecOk_S4 (r_ : TRun) (i1 : Int) : St := ⟨(bs 1 (.ptr 1 0 0 :: (bs 2 (vi i1 :: (bs 126 []))))), [some [], some [.var 51 [vsl 2 eRead r_.Reads, vsl 2 ePut r_.Puts, vi r_.Val, vi r_.Code]]]⟩
noncomputable def spec_ExecOk_b1 (r_ : TRun) (i1 : Int) : Option (Stp Bool Int Unit) :=
  (bif decide (i1 < (r_.Puts.length : Int)) then
 ((idx r_.Puts i1).bind fun put =>
 ((spec_l2Box put.Box).bind fun l2Box =>
 (bif (!l2Box) then
 some (Stp.ret false)
 else
 ((spec_l1Num put.Val).bind fun l1Num =>
 (bif (!l1Num) then
 some (Stp.ret false)
 else
 (need ((0 : Int) ≤ i1 ∧ i1 ≤ (r_.Puts.length : Int))
 (((spec_l3At ((r_.Puts.drop 0).take (i1.toNat - 0)) put.Box).bind fun l3At =>
 (bif decide (l3At ≥ 0) then
 some (Stp.ret false)
 else
 some (Stp.nxt (w64 (i1 + 1))))))))))))
 else
 some (Stp.brk ()))
theorem spec_ExecOk_b1_ok (r_ : TRun) (res : V) (outs : List (Option V)) (x1 : Exc Bool Unit) (hb1 : HB cx spec_ExecOk_X res outs x1 spec_ExecOk_k3 (fun s => spec_ExecOk_S3)) (hr1 : HR res outs x1 spec_ExecOk_R spec_ExecOk_O) (st1 : Stp Bool Int Unit) (hc1 : Cont x1 (fun s : Int => Fin cx spec_ExecOk_X res outs spec_ExecOk_k5 (spec_ExecOk_S4 r_ s)) st1) (i1 : Int) (h : spec_ExecOk_b1 r_ i1 = some st1) : Fin cx spec_ExecOk_X res outs spec_ExecOk_k5 (spec_ExecOk_S4 r_ i1) :=
  P0 <|
 rg <| cdD 4 h (fun h =>
 rg <| ixS ePut 3 h fun put hput h =>
 cb spec_l2Box_t spec_l2Box_ok 6 false h fun l2Box h =>
 cdD 8 h (fun h =>
 rg <| (retD h hc1 fun e => fn0 Try.func38 (hr1 _ e))) (fun h =>
 ixR ePut 12 hput <| cb spec_l1Num_t spec_l1Num_ok 15 false h fun l1Num h =>
 cdD 18 h (fun h =>
 rg <| (retD h hc1 fun e => fn0 Try.func38 (hr1 _ e))) (fun h =>
 needD h fun e1 h =>
 om (V.sl 2 (i1.toNat - 0) (((r_.Puts.map ePut).drop 0).take (i1.toNat - 0)) = vsl 2 ePut ((r_.Puts.drop 0).take (i1.toNat - 0))) (sl_h e1) <| ob e1.1 <| ob e1.2 <| tl (22, { v := some (vsl 2 ePut ((r_.Puts.drop 0).take (i1.toNat - 0))) }) <| ixR ePut 26 hput <| cb spec_l3At_t spec_l3At_ok 29 false h fun l3At h =>
 cdD 31 h (fun h =>
 rg <| (retD h hc1 fun e => fn0 Try.func38 (hr1 _ e))) (fun h =>
 rg <| (nxtD h hc1 fun hI => sg [] [1, 4] [(1, 0)] hI))))) (fun h =>
 (brkD h hc1 fun e => sg [] [] [] (hb1 _ e)))
noncomputable def spec_ExecOk_k6 (r_ : TRun) : Option Bool :=
  ((loop (fun s : Int => spec_ExecOk_b1 r_ s) 0).bind fun x => x.go (fun r => some r) fun s => spec_ExecOk_k4)
theorem spec_ExecOk_k6_ok (r_ : TRun) (r : Bool) (h : spec_ExecOk_k6 r_ = some r) : Fin cx spec_ExecOk_X (spec_ExecOk_R r) (spec_ExecOk_O r) spec_ExecOk_k2 (spec_ExecOk_S2 r_) :=
  P0 <|
 rg <| loopJ h fun x hl hr hb => sg [] [1, 4] [(1, 0)] (loopD (I := fun s : Int => Fin cx spec_ExecOk_X (spec_ExecOk_R r) (spec_ExecOk_O r) spec_ExecOk_k5 (spec_ExecOk_S4 r_ s)) hl fun s st h hc => spec_ExecOk_b1_ok r_ _ _ x (fun s e => spec_ExecOk_k4_ok r (hb s e)) (fun v e => ⟨congrArg spec_ExecOk_R (Option.some.inj (hr v e)).symm, congrArg spec_ExecOk_O (Option.some.inj (hr v e)).symm⟩) st hc s h)
noncomputable def spec_ExecOk_k7 : List Item := posI 2000 3 [false] [.code spec_ExecOk_c]
noncomputable def spec_ExecOk_S5 (r_ : TRun) (i : Int) : St := ⟨(bs 1 (.ptr 1 0 0 :: (bs 1 (vi i :: (bs 127 []))))), [some [], some [.var 51 [vsl 2 eRead r_.Reads, vsl 2 ePut r_.Puts, vi r_.Val, vi r_.Code]]]⟩
noncomputable def spec_ExecOk_b2 (r_ : TRun) (i : Int) : Option (Stp Bool Int Unit) :=
  (bif decide (i < (r_.Reads.length : Int)) then
 ((idx r_.Reads i).bind fun read =>
 ((spec_l2Box read.Box).bind fun l2Box1 =>
 (bif (!l2Box1) then
 some (Stp.ret false)
 else
 (bif decide (read.Ver < 0) then
 some (Stp.ret false)
 else
 (bif decide (read.Ver > 1000000) then
 some (Stp.ret false)
 else
 (need ((0 : Int) ≤ i ∧ i ≤ (r_.Reads.length : Int))
 (((spec_l3Saw ((r_.Reads.drop 0).take (i.toNat - 0)) read.Box).bind fun l3Saw =>
 (bif l3Saw then
 some (Stp.ret false)
 else
 some (Stp.nxt (w64 (i + 1))))))))))))
 else
 some (Stp.brk ()))
theorem spec_ExecOk_b2_ok (r_ : TRun) (res : V) (outs : List (Option V)) (x1 : Exc Bool Unit) (hb1 : HB cx spec_ExecOk_X res outs x1 spec_ExecOk_k2 (fun s => spec_ExecOk_S2 r_)) (hr1 : HR res outs x1 spec_ExecOk_R spec_ExecOk_O) (st1 : Stp Bool Int Unit) (hc1 : Cont x1 (fun s : Int => Fin cx spec_ExecOk_X res outs spec_ExecOk_k7 (spec_ExecOk_S5 r_ s)) st1) (i : Int) (h : spec_ExecOk_b2 r_ i = some st1) : Fin cx spec_ExecOk_X res outs spec_ExecOk_k7 (spec_ExecOk_S5 r_ i) :=
  P0 <|
 rg <| cdD 4 h (fun h =>
 rg <| ixS eRead 3 h fun read hread h =>
 cb spec_l2Box_t spec_l2Box_ok 6 false h fun l2Box1 h =>
 cdD 8 h (fun h =>
 rg <| (retD h hc1 fun e => fn0 Try.func38 (hr1 _ e))) (fun h =>
 ixR eRead 12 hread <| cdD 17 h (fun h =>
 rg <| (retD h hc1 fun e => fn0 Try.func38 (hr1 _ e))) (fun h =>
 ixR eRead 21 hread <| cdD 26 h (fun h =>
 rg <| (retD h hc1 fun e => fn0 Try.func38 (hr1 _ e))) (fun h =>
 needD h fun e2 h =>
 om (V.sl 2 (i.toNat - 0) (((r_.Reads.map eRead).drop 0).take (i.toNat - 0)) = vsl 2 eRead ((r_.Reads.drop 0).take (i.toNat - 0))) (sl_h e2) <| ob e2.1 <| ob e2.2 <| tl (30, { v := some (vsl 2 eRead ((r_.Reads.drop 0).take (i.toNat - 0))) }) <| ixR eRead 34 hread <| cb spec_l3Saw_t spec_l3Saw_ok 37 false h fun l3Saw h =>
 cdD 38 h (fun h =>
 rg <| (retD h hc1 fun e => fn0 Try.func38 (hr1 _ e))) (fun h =>
 rg <| (nxtD h hc1 fun hI => sg [] [1, 3] [(1, 0)] hI)))))) (fun h =>
 (brkD h hc1 fun e => sg [] [1] [(1, 0)] (hb1 _ e)))
noncomputable def spec_ExecOk_j1 (r_ : TRun) : Option Bool :=
  ((loop (fun s : Int => spec_ExecOk_b2 r_ s) 0).bind fun x => x.go (fun r => some r) fun s => spec_ExecOk_k6 r_)
theorem spec_ExecOk_j1_ok (r_ : TRun) (r : Bool) (h : spec_ExecOk_j1 r_ = some r) : Fin cx spec_ExecOk_X (spec_ExecOk_R r) (spec_ExecOk_O r) spec_ExecOk_k1 (spec_ExecOk_S1 r_) :=
  P0 <|
 rg <| loopJ h fun x hl hr hb => sg [] [1, 3] [(1, 0)] (loopD (I := fun s : Int => Fin cx spec_ExecOk_X (spec_ExecOk_R r) (spec_ExecOk_O r) spec_ExecOk_k7 (spec_ExecOk_S5 r_ s)) hl fun s st h hc => spec_ExecOk_b2_ok r_ _ _ x (fun s e => spec_ExecOk_k6_ok r_ r (hb s e)) (fun v e => ⟨congrArg spec_ExecOk_R (Option.some.inj (hr v e)).symm, congrArg spec_ExecOk_O (Option.some.inj (hr v e)).symm⟩) st hc s h)
noncomputable def spec_ExecOk (r_ : TRun) : Option Bool :=
  (((bif decide (r_.Code < 0) then
 some (Exc.ret false)
 else
 (bif decide (r_.Code > 3) then
 some (Exc.ret false)
 else
 ((spec_l1Num r_.Val).bind fun l1Num1 =>
 (bif (!l1Num1) then
 some (Exc.ret false)
 else
 (bif (r_.Code != 0) then
 (bif (r_.Val != 0) then
 some (Exc.ret false)
 else
 (bif decide ((r_.Puts.length : Int) > 0) then
 some (Exc.ret false)
 else
 (bif (r_.Code == 3) then
 (bif decide ((r_.Reads.length : Int) > 0) then
 some (Exc.ret false)
 else
 some (Exc.brk ()))
 else
 some (Exc.brk ()))))
 else
 (bif (r_.Code == 3) then
 (bif decide ((r_.Reads.length : Int) > 0) then
 some (Exc.ret false)
 else
 some (Exc.brk ()))
 else
 some (Exc.brk ()))))))) : Option (Exc Bool Unit)).bind fun x => x.go some fun j => spec_ExecOk_j1 r_)
theorem spec_ExecOk_ok {r_ : TRun} (r : Bool) (h : spec_ExecOk r_ = some r) : ACalls cx.P 38 [.agg (eRun r_)] (spec_ExecOk_R r) (spec_ExecOk_O r) :=
  ACalls.of (cx := cx) (X := spec_ExecOk_X) (c := spec_ExecOk_c) Try.func38 (by kernel_rfl) (by kernel_rfl) (by kernel_rfl) (P0 <|
 rg <| joinD (I := fun j : Unit => Fin cx spec_ExecOk_X (spec_ExecOk_R r) (spec_ExecOk_O r) spec_ExecOk_k1 (spec_ExecOk_S1 r_)) h (fun j h => spec_ExecOk_j1_ok r_ r h) (fun x1 h hc1 =>
  rg <| cdD 3 h (fun h =>
 rg <| (jretD h hc1 fun h => fe Try.func38 h)) (fun h =>
 cdD 8 h (fun h =>
 rg <| (jretD h hc1 fun h => fe Try.func38 h)) (fun h =>
 cb spec_l1Num_t spec_l1Num_ok 11 false h fun l1Num1 h =>
 cdD 14 h (fun h =>
 rg <| (jretD h hc1 fun h => fe Try.func38 h)) (fun h =>
 cdD 18 h (fun h =>
 cdD 22 h (fun h =>
 rg <| (jretD h hc1 fun h => fe Try.func38 h)) (fun h =>
 cdD 30 h (fun h =>
 rg <| (jretD h hc1 fun h => fe Try.func38 h)) (fun h =>
 cdD 34 h (fun h =>
 cdD 40 h (fun h =>
 rg <| (jretD h hc1 fun h => fe Try.func38 h)) (fun h =>
 (jbrkD h hc1 fun hI => sg [] [1] [(1, 0)] hI))) (fun h =>
 (jbrkD h hc1 fun hI => sg [] [1] [(1, 0)] hI))))) (fun h =>
 cdD 34 h (fun h =>
 cdD 40 h (fun h =>
 rg <| (jretD h hc1 fun h => fe Try.func38 h)) (fun h =>
 (jbrkD h hc1 fun hI => sg [] [1] [(1, 0)] hI))) (fun h =>
 (jbrkD h hc1 fun hI => sg [] [1] [(1, 0)] hI))))))))

/-! ### spec_CertEntry -/
noncomputable def spec_CertEntry_c : Code := bodyOf Try.f25
noncomputable def spec_CertEntry_X : Sig := { f := 25, fn := Try.f25, rms := [.val [] []], oms := [none] }
noncomputable def spec_CertEntry_R (r : Bool) : V := .b r
noncomputable def spec_CertEntry_O (r : Bool) : List (Option V) := [none]
noncomputable def spec_CertEntry_t (i : Nat) (fr : Bool) (r : Bool) : Nat × Tell := (i, { a := .call [.val ck53 []] fr (spec_CertEntry_R r) (spec_CertEntry_O r) })
noncomputable def spec_CertEntry (e_ : TEntry) : Option Bool :=
  (bif e_.None then
 (bif (([e_.Req.Who, e_.Req.Seq] : List Int) == [0, 0]) then
 ((spec_ExecSame e_.Run (TRun.mk [] [] 0 0)).bind fun execSame =>
 some execSame)
 else
 some false)
 else
 ((spec_l5Req e_.Req).bind fun l5Req =>
 (bif l5Req then
 ((spec_ExecOk e_.Run).bind fun execOk =>
 (bif execOk then
 some (e_.Run.Code != 3)
 else
 some false))
 else
 some false)))
theorem spec_CertEntry_ok {e_ : TEntry} (r : Bool) (h : spec_CertEntry e_ = some r) : ACalls cx.P 25 [.agg (eEntry e_)] (spec_CertEntry_R r) (spec_CertEntry_O r) :=
  ACalls.of (cx := cx) (X := spec_CertEntry_X) (c := spec_CertEntry_c) Try.func25 (by kernel_rfl) (by kernel_rfl) (by kernel_rfl) (P0 <|
 rg2 <| cdD 1 h (fun h =>
 rg <| cdD 4 h (fun h =>
 cb spec_ExecSame_t spec_ExecSame_ok 8 false h fun execSame h =>
 fe Try.func25 h) (fun h =>
 fe Try.func25 h)) (fun h =>
 rg <| cb spec_l5Req_t spec_l5Req_ok 2 false h fun l5Req h =>
 cdD 3 h (fun h =>
 cb spec_ExecOk_t spec_ExecOk_ok 6 false h fun execOk h =>
 cdD 8 h (fun h =>
 fe Try.func25 h) (fun h =>
 fe Try.func25 h)) (fun h =>
 fe Try.func25 h)))

/-! ### spec_l8Known -/
noncomputable def spec_l8Known_c : Code := bodyOf Try.f14
noncomputable def spec_l8Known_X : Sig := { f := 14, fn := Try.f14, rms := [.val [] []], oms := [none] }
noncomputable def spec_l8Known_R (r : Bool) : V := .b r
noncomputable def spec_l8Known_O (r : Bool) : List (Option V) := [none]
noncomputable def spec_l8Known_t (i : Nat) (fr : Bool) (r : Bool) : Nat × Tell := (i, { a := .call [.val [some 7] []] fr (spec_l8Known_R r) (spec_l8Known_O r) })
noncomputable def spec_l8Known_k1 : List Item := posI 2000 4 [false, false] [.code spec_l8Known_c]
noncomputable def spec_l8Known_S1 : St := ⟨(bs 19 []), [some []]⟩
noncomputable def spec_l8Known_k2 : Option Bool :=
  some true
theorem spec_l8Known_k2_ok (r : Bool) (h : spec_l8Known_k2 = some r) : Fin cx spec_l8Known_X (spec_l8Known_R r) (spec_l8Known_O r) spec_l8Known_k1 (spec_l8Known_S1) :=
  P0 <|
 rg <| fe Try.func14 h
noncomputable def spec_l8Known_k3 : List Item := posI 2000 3 [false] [.code spec_l8Known_c]
noncomputable def spec_l8Known_S2 (list : List TEntry) (i : Int) : St := ⟨(vsl 7 eEntry list :: (bs 2 (vi i :: (bs 15 [])))), [some []]⟩
noncomputable def spec_l8Known_b1 (list : List TEntry) (i : Int) : Option (Stp Bool Int Unit) :=
  (bif decide (i < (list.length : Int)) then
 ((idx list i).bind fun entry =>
 ((spec_CertEntry entry).bind fun certEntry =>
 (bif (!certEntry) then
 some (Stp.ret false)
 else
 some (Stp.nxt (w64 (i + 1))))))
 else
 some (Stp.brk ()))
theorem spec_l8Known_b1_ok (list : List TEntry) (res : V) (outs : List (Option V)) (x1 : Exc Bool Unit) (hb1 : HB cx spec_l8Known_X res outs x1 spec_l8Known_k1 (fun s => spec_l8Known_S1)) (hr1 : HR res outs x1 spec_l8Known_R spec_l8Known_O) (st1 : Stp Bool Int Unit) (hc1 : Cont x1 (fun s : Int => Fin cx spec_l8Known_X res outs spec_l8Known_k3 (spec_l8Known_S2 list s)) st1) (i : Int) (h : spec_l8Known_b1 list i = some st1) : Fin cx spec_l8Known_X res outs spec_l8Known_k3 (spec_l8Known_S2 list i) :=
  P0 <|
 rg <| cdD 3 h (fun h =>
 rg <| ixS eEntry 2 h fun entry hentry h =>
 cb spec_CertEntry_t spec_CertEntry_ok 4 false h fun certEntry h =>
 cdD 5 h (fun h =>
 rg <| (retD h hc1 fun e => fn0 Try.func14 (hr1 _ e))) (fun h =>
 rg <| (nxtD h hc1 fun hI => sg [] [0, 3] [] hI))) (fun h =>
 (brkD h hc1 fun e => sg [] [] [] (hb1 _ e)))
noncomputable def spec_l8Known (list : List TEntry) : Option Bool :=
  (bif decide ((list.length : Int) > 40) then
 some false
 else
 ((loop (fun s : Int => spec_l8Known_b1 list s) 0).bind fun x => x.go (fun r => some r) fun s => spec_l8Known_k2))
theorem spec_l8Known_ok {list : List TEntry} (r : Bool) (h : spec_l8Known list = some r) : ACalls cx.P 14 [vsl 7 eEntry list] (spec_l8Known_R r) (spec_l8Known_O r) :=
  ACalls.of (cx := cx) (X := spec_l8Known_X) (c := spec_l8Known_c) Try.func14 (by kernel_rfl) (by kernel_rfl) (by kernel_rfl) (P0 <|
 rg2 <| cdD 2 h (fun h =>
 rg <| fe Try.func14 h) (fun h =>
 rg <| loopJ h fun x hl hr hb => sg [] [0, 3] [] (loopD (I := fun s : Int => Fin cx spec_l8Known_X (spec_l8Known_R r) (spec_l8Known_O r) spec_l8Known_k3 (spec_l8Known_S2 list s)) hl fun s st h hc => spec_l8Known_b1_ok list _ _ x (fun s e => spec_l8Known_k2_ok r (hb s e)) (fun v e => ⟨congrArg spec_l8Known_R (Option.some.inj (hr v e)).symm, congrArg spec_l8Known_O (Option.some.inj (hr v e)).symm⟩) st hc s h)))

/-! ### spec_BoxOpen -/
noncomputable def spec_BoxOpen_c : Code := bodyOf Try.f39
noncomputable def spec_BoxOpen_X : Sig := { f := 39, fn := Try.f39, rms := [.val [some 2] [some 58]], oms := [] }
noncomputable def spec_BoxOpen_R (r : List TBox) : V := vosl 58 2 eBox r
noncomputable def spec_BoxOpen_O (r : List TBox) : List (Option V) := []
noncomputable def spec_BoxOpen_t (i : Nat) (fr : Bool) (r : List TBox) : Nat × Tell := (i, { a := .call [] fr (spec_BoxOpen_R r) (spec_BoxOpen_O r) })
noncomputable def spec_BoxOpen : Option (List TBox) :=
  (need (0 ≤ (4 : Int) ∧ (4 : Int) * 16 ≤ 140737488355328)
 (some (List.replicate (4 : Int).toNat (TBox.mk 0 0))))
theorem spec_BoxOpen_ok (r : List TBox) (h : spec_BoxOpen = some r) : ACalls cx.P 39 [] (spec_BoxOpen_R r) (spec_BoxOpen_O r) :=
  ACalls.of (cx := cx) (X := spec_BoxOpen_X) (c := spec_BoxOpen_c) Try.func39 (by kernel_rfl) (by kernel_rfl) (by kernel_rfl) (P0 <|
 rg2 <| needD h fun e1 h =>
 mkS 0 2 58 2 16 eBox (TBox.mk 0 0) ti58 (.none) e1 (by decide) (by rfl) <| om ((List.replicate (4 : Int).toNat (TBox.mk 0 0)).length = (List.replicate (4 : Int).toNat (TBox.mk 0 0)).length) rfl <| fe Try.func39 h)

/-! ### spec_CertOpen -/
noncomputable def spec_CertOpen_c : Code := bodyOf Try.f26
noncomputable def spec_CertOpen_X : Sig := { f := 26, fn := Try.f26, rms := [.val [none, some 2, some 4] [none, some 58, none]], oms := [] }
noncomputable def spec_CertOpen_R (r : TState) : V := .agg [vi r.At, vosl 58 2 eBox r.Boxes, vsl 4 eDone r.Dones]
noncomputable def spec_CertOpen_O (r : TState) : List (Option V) := []
noncomputable def spec_CertOpen_t (i : Nat) (fr : Bool) (r : TState) : Nat × Tell := (i, { a := .call [] fr (spec_CertOpen_R r) (spec_CertOpen_O r) })
noncomputable def spec_CertOpen : Option TState :=
  ((spec_BoxOpen).bind fun boxOpen =>
 some (TState.mk 0 boxOpen []))
theorem spec_CertOpen_ok (r : TState) (h : spec_CertOpen = some r) : ACalls cx.P 26 [] (spec_CertOpen_R r) (spec_CertOpen_O r) :=
  ACalls.of (cx := cx) (X := spec_CertOpen_X) (c := spec_CertOpen_c) Try.func26 (by kernel_rfl) (by kernel_rfl) (by kernel_rfl) (P0 <|
 rg2 <| cb spec_BoxOpen_t spec_BoxOpen_ok 0 false h fun boxOpen h =>
 om (boxOpen.length = boxOpen.length) rfl <| fe Try.func26 h)

/-! ### spec_l5Last -/
noncomputable def spec_l5Last_c : Code := bodyOf Try.f40
noncomputable def spec_l5Last_X : Sig := { f := 40, fn := Try.f40, rms := [.val [] [], .val [] []], oms := [none, none] }
noncomputable def spec_l5Last_R (r : TDone × Bool) : V := .tup [.agg (eDone r.1), .b r.2]
noncomputable def spec_l5Last_O (r : TDone × Bool) : List (Option V) := [none, none]
noncomputable def spec_l5Last_t (i : Nat) (fr : Bool) (r : TDone × Bool) : Nat × Tell := (i, { a := .call [.val [none, some 2, some 4] [], .val [] []] fr (spec_l5Last_R r) (spec_l5Last_O r) })
noncomputable def spec_l5Last_k1 : List Item := posI 2000 3 [false] [.code spec_l5Last_c]
noncomputable def spec_l5Last_S1 : St := ⟨(bs 4 (.ptr 1 0 0 :: (bs 24 []))), [some [], some [.var 84 [vi 0, vi 0, vi 0, vi 0]]]⟩
noncomputable def spec_l5Last_k2 : Option (TDone × Bool) :=
  some ((TDone.mk (TReq.mk 0 0) 0 0), false)
theorem spec_l5Last_k2_ok (r : TDone × Bool) (h : spec_l5Last_k2 = some r) : Fin cx spec_l5Last_X (spec_l5Last_R r) (spec_l5Last_O r) spec_l5Last_k1 (spec_l5Last_S1) :=
  P0 <|
 rg <| fe Try.func40 h
noncomputable def spec_l5Last_k3 : List Item := posI 2000 2 [] [.code spec_l5Last_c]
noncomputable def spec_l5Last_S2 (s_ : TState) (who : Int) (i : Int) : St := ⟨(bs 1 (vi who :: (.ptr 1 0 0 :: (bs 1 (.ptr 2 0 0 :: (bs 1 (vi i :: (bs 22 [])))))))), [some [], some [.var 45 [vi s_.At, vsl 2 eBox s_.Boxes, vsl 4 eDone s_.Dones]], some [.var 84 [vi 0, vi 0, vi 0, vi 0]]]⟩
noncomputable def spec_l5Last_b1 (s_ : TState) (who : Int) (i : Int) : Option (Stp (TDone × Bool) Int Unit) :=
  (bif decide (i < (s_.Dones.length : Int)) then
 ((idx s_.Dones i).bind fun done =>
 (bif (done.Req.Who == who) then
 some (Stp.ret (done, true))
 else
 some (Stp.nxt (w64 (i + 1)))))
 else
 some (Stp.brk ()))
theorem spec_l5Last_b1_ok (s_ : TState) (who : Int) (res : V) (outs : List (Option V)) (x1 : Exc (TDone × Bool) Unit) (hb1 : HB cx spec_l5Last_X res outs x1 spec_l5Last_k1 (fun s => spec_l5Last_S1)) (hr1 : HR res outs x1 spec_l5Last_R spec_l5Last_O) (st1 : Stp (TDone × Bool) Int Unit) (hc1 : Cont x1 (fun s : Int => Fin cx spec_l5Last_X res outs spec_l5Last_k3 (spec_l5Last_S2 s_ who s)) st1) (i : Int) (h : spec_l5Last_b1 s_ who i = some st1) : Fin cx spec_l5Last_X res outs spec_l5Last_k3 (spec_l5Last_S2 s_ who i) :=
  P0 <|
 rg <| cdD 4 h (fun h =>
 rg <| ixS eDone 3 h fun done hdone h =>
 cdD 8 h (fun h =>
 rg <| ixR eDone 3 hdone <| (retD h hc1 fun e => fn0 Try.func40 (hr1 _ e))) (fun h =>
 rg <| (nxtD h hc1 fun hI => sg [] [1, 2, 4, 6] [(1, 0), (2, 0)] hI))) (fun h =>
 (brkD h hc1 fun e => sg [] [4] [(2, 0)] (hb1 _ e)))
noncomputable def spec_l5Last (s_ : TState) (who : Int) : Option (TDone × Bool) :=
  ((loop (fun s : Int => spec_l5Last_b1 s_ who s) 0).bind fun x => x.go (fun r => some r) fun s => spec_l5Last_k2)
theorem spec_l5Last_ok {s_ : TState} {who : Int} (r : TDone × Bool) (h : spec_l5Last s_ who = some r) : ACalls cx.P 40 [.agg (eState s_), vi who] (spec_l5Last_R r) (spec_l5Last_O r) :=
  ACalls.of (cx := cx) (X := spec_l5Last_X) (c := spec_l5Last_c) Try.func40 (by kernel_rfl) (by kernel_rfl) (by kernel_rfl) (P0 <|
 rg2 <| loopJ h fun x hl hr hb => sg [] [1, 2, 4, 6] [(1, 0), (2, 0)] (loopD (I := fun s : Int => Fin cx spec_l5Last_X (spec_l5Last_R r) (spec_l5Last_O r) spec_l5Last_k3 (spec_l5Last_S2 s_ who s)) hl fun s st h hc => spec_l5Last_b1_ok s_ who _ _ x (fun s e => spec_l5Last_k2_ok r (hb s e)) (fun v e => ⟨congrArg spec_l5Last_R (Option.some.inj (hr v e)).symm, congrArg spec_l5Last_O (Option.some.inj (hr v e)).symm⟩) st hc s h))

/-! ### spec_BoxOk -/
noncomputable def spec_BoxOk_c : Code := bodyOf Try.f57
noncomputable def spec_BoxOk_X : Sig := { f := 57, fn := Try.f57, rms := [.val [] []], oms := [none] }
noncomputable def spec_BoxOk_R (r : Bool) : V := .b r
noncomputable def spec_BoxOk_O (r : Bool) : List (Option V) := [none]
noncomputable def spec_BoxOk_t (i : Nat) (fr : Bool) (r : Bool) : Nat × Tell := (i, { a := .call [.val [some 2] []] fr (spec_BoxOk_R r) (spec_BoxOk_O r) })
noncomputable def spec_BoxOk_k1 : List Item := posI 2000 4 [false, false] [.code spec_BoxOk_c]
noncomputable def spec_BoxOk_S1 : St := ⟨(bs 36 []), [some []]⟩
noncomputable def spec_BoxOk_k2 : Option Bool :=
  some true
theorem spec_BoxOk_k2_ok (r : Bool) (h : spec_BoxOk_k2 = some r) : Fin cx spec_BoxOk_X (spec_BoxOk_R r) (spec_BoxOk_O r) spec_BoxOk_k1 (spec_BoxOk_S1) :=
  P0 <|
 rg <| fe Try.func57 h
noncomputable def spec_BoxOk_k3 : List Item := posI 2000 3 [false] [.code spec_BoxOk_c]
noncomputable def spec_BoxOk_S2 (list : List TBox) (i : Int) : St := ⟨(vsl 2 eBox list :: (bs 2 (vi i :: (bs 32 [])))), [some []]⟩
noncomputable def spec_BoxOk_b1 (list : List TBox) (i : Int) : Option (Stp Bool Int Unit) :=
  (bif decide (i < (list.length : Int)) then
 ((idx list i).bind fun box =>
 (bif decide (box.Ver < 0) then
 some (Stp.ret false)
 else
 (bif decide (box.Ver > 1000000) then
 some (Stp.ret false)
 else
 ((spec_l1Num box.Val).bind fun l1Num =>
 (bif (!l1Num) then
 some (Stp.ret false)
 else
 some (Stp.nxt (w64 (i + 1))))))))
 else
 some (Stp.brk ()))
theorem spec_BoxOk_b1_ok (list : List TBox) (res : V) (outs : List (Option V)) (x1 : Exc Bool Unit) (hb1 : HB cx spec_BoxOk_X res outs x1 spec_BoxOk_k1 (fun s => spec_BoxOk_S1)) (hr1 : HR res outs x1 spec_BoxOk_R spec_BoxOk_O) (st1 : Stp Bool Int Unit) (hc1 : Cont x1 (fun s : Int => Fin cx spec_BoxOk_X res outs spec_BoxOk_k3 (spec_BoxOk_S2 list s)) st1) (i : Int) (h : spec_BoxOk_b1 list i = some st1) : Fin cx spec_BoxOk_X res outs spec_BoxOk_k3 (spec_BoxOk_S2 list i) :=
  P0 <|
 rg <| cdD 3 h (fun h =>
 rg <| ixS eBox 2 h fun box hbox h =>
 cdD 6 h (fun h =>
 rg <| (retD h hc1 fun e => fn0 Try.func57 (hr1 _ e))) (fun h =>
 ixR eBox 9 hbox <| cdD 14 h (fun h =>
 rg <| (retD h hc1 fun e => fn0 Try.func57 (hr1 _ e))) (fun h =>
 ixR eBox 17 hbox <| cb spec_l1Num_t spec_l1Num_ok 20 false h fun l1Num h =>
 cdD 22 h (fun h =>
 rg <| (retD h hc1 fun e => fn0 Try.func57 (hr1 _ e))) (fun h =>
 rg <| (nxtD h hc1 fun hI => sg [] [0, 3] [] hI))))) (fun h =>
 (brkD h hc1 fun e => sg [] [] [] (hb1 _ e)))
noncomputable def spec_BoxOk (list : List TBox) : Option Bool :=
  (bif ((list.length : Int) != 4) then
 some false
 else
 ((loop (fun s : Int => spec_BoxOk_b1 list s) 0).bind fun x => x.go (fun r => some r) fun s => spec_BoxOk_k2))
theorem spec_BoxOk_ok {list : List TBox} (r : Bool) (h : spec_BoxOk list = some r) : ACalls cx.P 57 [vsl 2 eBox list] (spec_BoxOk_R r) (spec_BoxOk_O r) :=
  ACalls.of (cx := cx) (X := spec_BoxOk_X) (c := spec_BoxOk_c) Try.func57 (by kernel_rfl) (by kernel_rfl) (by kernel_rfl) (P0 <|
 rg2 <| cdD 2 h (fun h =>
 rg <| fe Try.func57 h) (fun h =>
 rg <| loopJ h fun x hl hr hb => sg [] [0, 3] [] (loopD (I := fun s : Int => Fin cx spec_BoxOk_X (spec_BoxOk_R r) (spec_BoxOk_O r) spec_BoxOk_k3 (spec_BoxOk_S2 list s)) hl fun s st h hc => spec_BoxOk_b1_ok list _ _ x (fun s e => spec_BoxOk_k2_ok r (hb s e)) (fun v e => ⟨congrArg spec_BoxOk_R (Option.some.inj (hr v e)).symm, congrArg spec_BoxOk_O (Option.some.inj (hr v e)).symm⟩) st hc s h)))

/-! ### spec_ExecFresh -/
noncomputable def spec_ExecFresh_c : Code := bodyOf Try.f41
noncomputable def spec_ExecFresh_X : Sig := { f := 41, fn := Try.f41, rms := [.val [] []], oms := [none, none] }
noncomputable def spec_ExecFresh_R (r : Bool) : V := .b r
noncomputable def spec_ExecFresh_O (r : Bool) : List (Option V) := [none, none]
noncomputable def spec_ExecFresh_t (i : Nat) (fr : Bool) (r : Bool) : Nat × Tell := (i, { a := .call [.val [some 2] [], .val ck51 []] fr (spec_ExecFresh_R r) (spec_ExecFresh_O r) })
noncomputable def spec_ExecFresh_k1 : List Item := posI 2000 4 [false, false] [.code spec_ExecFresh_c]
noncomputable def spec_ExecFresh_S1 : St := ⟨(bs 38 []), [some []]⟩
noncomputable def spec_ExecFresh_k2 : Option Bool :=
  some true
theorem spec_ExecFresh_k2_ok (r : Bool) (h : spec_ExecFresh_k2 = some r) : Fin cx spec_ExecFresh_X (spec_ExecFresh_R r) (spec_ExecFresh_O r) spec_ExecFresh_k1 (spec_ExecFresh_S1) :=
  P0 <|
 rg <| fe Try.func41 h
noncomputable def spec_ExecFresh_k3 : List Item := posI 2000 3 [false] [.code spec_ExecFresh_c]
noncomputable def spec_ExecFresh_S2 (list : List TBox) (r_ : TRun) (i : Int) : St := ⟨(vsl 2 eBox list :: (bs 2 (.ptr 1 0 0 :: (bs 1 (vi i :: (bs 32 [])))))), [some [], some [.var 51 [vsl 2 eRead r_.Reads, vsl 2 ePut r_.Puts, vi r_.Val, vi r_.Code]]]⟩
noncomputable def spec_ExecFresh_b1 (list : List TBox) (r_ : TRun) (i : Int) : Option (Stp Bool Int Unit) :=
  (bif decide (i < (r_.Reads.length : Int)) then
 ((idx r_.Reads i).bind fun read =>
 ((idx list read.Box).bind fun box =>
 (bif (box.Ver != read.Ver) then
 some (Stp.ret false)
 else
 some (Stp.nxt (w64 (i + 1))))))
 else
 some (Stp.brk ()))
theorem spec_ExecFresh_b1_ok (list : List TBox) (r_ : TRun) (res : V) (outs : List (Option V)) (x1 : Exc Bool Unit) (hb1 : HB cx spec_ExecFresh_X res outs x1 spec_ExecFresh_k1 (fun s => spec_ExecFresh_S1)) (hr1 : HR res outs x1 spec_ExecFresh_R spec_ExecFresh_O) (st1 : Stp Bool Int Unit) (hc1 : Cont x1 (fun s : Int => Fin cx spec_ExecFresh_X res outs spec_ExecFresh_k3 (spec_ExecFresh_S2 list r_ s)) st1) (i : Int) (h : spec_ExecFresh_b1 list r_ i = some st1) : Fin cx spec_ExecFresh_X res outs spec_ExecFresh_k3 (spec_ExecFresh_S2 list r_ i) :=
  P0 <|
 rg <| cdD 4 h (fun h =>
 rg <| ixS eRead 4 h fun read hread h =>
 ixS eBox 7 h fun box hbox h =>
 ixR eRead 13 hread <| cdD 16 h (fun h =>
 rg <| (retD h hc1 fun e => fn0 Try.func41 (hr1 _ e))) (fun h =>
 rg <| (nxtD h hc1 fun hI => sg [] [0, 3, 5] [(1, 0)] hI))) (fun h =>
 (brkD h hc1 fun e => sg [] [] [] (hb1 _ e)))
noncomputable def spec_ExecFresh (list : List TBox) (r_ : TRun) : Option Bool :=
  ((spec_BoxOk list).bind fun boxOk =>
 (bif (!boxOk) then
 some false
 else
 ((spec_ExecOk r_).bind fun execOk =>
 (bif (!execOk) then
 some false
 else
 ((loop (fun s : Int => spec_ExecFresh_b1 list r_ s) 0).bind fun x => x.go (fun r => some r) fun s => spec_ExecFresh_k2)))))
theorem spec_ExecFresh_ok {list : List TBox} {r_ : TRun} (r : Bool) (h : spec_ExecFresh list r_ = some r) : ACalls cx.P 41 [vsl 2 eBox list, .agg (eRun r_)] (spec_ExecFresh_R r) (spec_ExecFresh_O r) :=
  ACalls.of (cx := cx) (X := spec_ExecFresh_X) (c := spec_ExecFresh_c) Try.func41 (by kernel_rfl) (by kernel_rfl) (by kernel_rfl) (P0 <|
 rg2 <| cb spec_BoxOk_t spec_BoxOk_ok 1 false h fun boxOk h =>
 cdD 3 h (fun h =>
 rg <| fe Try.func41 h) (fun h =>
 cb spec_ExecOk_t spec_ExecOk_ok 5 false h fun execOk h =>
 cdD 7 h (fun h =>
 rg <| fe Try.func41 h) (fun h =>
 rg <| loopJ h fun x hl hr hb => sg [] [0, 3, 5] [(1, 0)] (loopD (I := fun s : Int => Fin cx spec_ExecFresh_X (spec_ExecFresh_R r) (spec_ExecFresh_O r) spec_ExecFresh_k3 (spec_ExecFresh_S2 list r_ s)) hl fun s st h hc => spec_ExecFresh_b1_ok list r_ _ _ x (fun s e => spec_ExecFresh_k2_ok r (hb s e)) (fun v e => ⟨congrArg spec_ExecFresh_R (Option.some.inj (hr v e)).symm, congrArg spec_ExecFresh_O (Option.some.inj (hr v e)).symm⟩) st hc s h))))

/-! ### spec_l1Min -/
noncomputable def spec_l1Min_c : Code := bodyOf Try.f58
noncomputable def spec_l1Min_X : Sig := { f := 58, fn := Try.f58, rms := [.val [] []], oms := [none, none] }
noncomputable def spec_l1Min_R (r : Int) : V := vi r
noncomputable def spec_l1Min_O (r : Int) : List (Option V) := [none, none]
noncomputable def spec_l1Min_t (i : Nat) (fr : Bool) (r : Int) : Nat × Tell := (i, { a := .call [.val [] [], .val [] []] fr (spec_l1Min_R r) (spec_l1Min_O r) })
noncomputable def spec_l1Min (a : Int) (b : Int) : Option Int :=
  (bif decide (a < b) then
 some a
 else
 some b)
theorem spec_l1Min_ok {a : Int} {b : Int} (r : Int) (h : spec_l1Min a b = some r) : ACalls cx.P 58 [vi a, vi b] (spec_l1Min_R r) (spec_l1Min_O r) :=
  ACalls.of (cx := cx) (X := spec_l1Min_X) (c := spec_l1Min_c) Try.func58 (by kernel_rfl) (by kernel_rfl) (by kernel_rfl) (P0 <|
 rg2 <| cdD 2 h (fun h =>
 rg <| fe Try.func58 h) (fun h =>
 rg <| fe Try.func58 h))

/-! ### spec_l3Do -/
noncomputable def spec_l3Do_c : Code := bodyOf Try.f42
noncomputable def spec_l3Do_X : Sig := { f := 42, fn := Try.f42, rms := [.val [some 2] [some 58]], oms := [none, none] }
noncomputable def spec_l3Do_R (r : List TBox) : V := vosl 58 2 eBox r
noncomputable def spec_l3Do_O (r : List TBox) : List (Option V) := [none, none]
noncomputable def spec_l3Do_t (i : Nat) (fr : Bool) (r : List TBox) : Nat × Tell := (i, { a := .call [.val [some 2] [some 58], .val ck51 []] fr (spec_l3Do_R r) (spec_l3Do_O r) })
noncomputable def spec_l3Do_k1 : List Item := posI 2000 3 [false] [.code spec_l3Do_c]
noncomputable def spec_l3Do_S1 (list2 : List TBox) : St := ⟨(.own 0 0 2 0 list2.length :: (bs 37 [])), [some [erow 58 2 eBox list2]]⟩
noncomputable def spec_l3Do_k2 (list2 : List TBox) : Option (List TBox) :=
  some list2
theorem spec_l3Do_k2_ok (r : List TBox) (list2 : List TBox) (h : spec_l3Do_k2 list2 = some r) : Fin cx spec_l3Do_X (spec_l3Do_R r) (spec_l3Do_O r) spec_l3Do_k1 (spec_l3Do_S1 list2) :=
  P0 <|
 rg <| om (list2.length = list2.length) rfl <| fe Try.func42 h
noncomputable def spec_l3Do_k3 : List Item := posI 2000 2 [] [.code spec_l3Do_c]
noncomputable def spec_l3Do_S2 (r_ : TRun) (list1 : List TBox) (i : Int) : St := ⟨(.own 0 0 2 0 list1.length :: (bs 2 (.ptr 1 0 0 :: (bs 1 (vi i :: (bs 32 [])))))), [some [erow 58 2 eBox list1], some [.var 51 [vsl 2 eRead r_.Reads, vsl 2 ePut r_.Puts, vi r_.Val, vi r_.Code]]]⟩
noncomputable def spec_l3Do_b1 (r_ : TRun) (list1 : List TBox) (i : Int) : Option (Stp (List TBox) ((List TBox) × Int) (List TBox)) :=
  (bif decide (i < (r_.Puts.length : Int)) then
 ((idx r_.Puts i).bind fun put =>
 ((idx list1 put.Box).bind fun box =>
 ((spec_l1Min 1000000 (w64 (box.Ver + 1))).bind fun l1Min =>
 some (Stp.nxt (list1.set put.Box.toNat (TBox.mk l1Min put.Val), w64 (i + 1))))))
 else
 some (Stp.brk list1))
theorem spec_l3Do_b1_ok (r_ : TRun) (res : V) (outs : List (Option V)) (x1 : Exc (List TBox) (List TBox)) (hb1 : HB cx spec_l3Do_X res outs x1 spec_l3Do_k1 spec_l3Do_S1) (hr1 : HR res outs x1 spec_l3Do_R spec_l3Do_O) (st1 : Stp (List TBox) ((List TBox) × Int) (List TBox)) (hc1 : Cont x1 (fun s : (List TBox) × Int => Fin cx spec_l3Do_X res outs spec_l3Do_k3 (spec_l3Do_S2 r_ s.1 s.2)) st1) (list1 : List TBox) (i : Int) (h : spec_l3Do_b1 r_ list1 i = some st1) : Fin cx spec_l3Do_X res outs spec_l3Do_k3 (spec_l3Do_S2 r_ list1 i) :=
  P0 <|
 rg <| cdD 4 h (fun h =>
 rg <| ixS ePut 3 h fun put hput h =>
 rg <| bindD h fun box hbox h =>
 ixB hbox <| ldR eBox 6 hbox <| cb spec_l1Min_t spec_l1Min_ok 8 false h fun l1Min h =>
 ixR ePut 12 hput <| ixB hbox <| stR 58 2 eBox 17 [] (TBox.mk l1Min put.Val) hbox <| rg <| (nxtD h hc1 fun hI => om ((.own 0 0 2 0 list1.length : V) = .own 0 0 2 0 (list1.set put.Box.toNat (TBox.mk l1Min put.Val)).length) (by simp) <| sg [.is (.tmp 0) (.own 0 0 2 0 (list1.set put.Box.toNat (TBox.mk l1Min put.Val)).length)] [0, 3, 5] [(1, 0)] hI)) (fun h =>
 (brkD h hc1 fun e => sg [] [0] [] (hb1 _ e)))
noncomputable def spec_l3Do (list : List TBox) (r_ : TRun) : Option (List TBox) :=
  ((loop (fun s : (List TBox) × Int => spec_l3Do_b1 r_ s.1 s.2) (list, 0)).bind fun x => x.go (fun r => some r) fun s => spec_l3Do_k2 s)
theorem spec_l3Do_ok {list : List TBox} {r_ : TRun} (r : List TBox) (h : spec_l3Do list r_ = some r) : ACalls cx.P 42 [vosl 58 2 eBox list, .agg (eRun r_)] (spec_l3Do_R r) (spec_l3Do_O r) :=
  ACalls.of (cx := cx) (X := spec_l3Do_X) (c := spec_l3Do_c) Try.func42 (by kernel_rfl) (by kernel_rfl) (by kernel_rfl) (P0 <|
 rg2 <| loopJ h fun x hl hr hb => sg [] [0, 3, 5] [(1, 0)] (loopD (I := fun s : (List TBox) × Int => Fin cx spec_l3Do_X (spec_l3Do_R r) (spec_l3Do_O r) spec_l3Do_k3 (spec_l3Do_S2 r_ s.1 s.2)) hl fun s st h hc => spec_l3Do_b1_ok r_ _ _ x (fun s e => spec_l3Do_k2_ok r s (hb s e)) (fun v e => ⟨congrArg spec_l3Do_R (Option.some.inj (hr v e)).symm, congrArg spec_l3Do_O (Option.some.inj (hr v e)).symm⟩) st hc s.1 s.2 h))

/-! ### spec_l5Put -/
noncomputable def spec_l5Put_c : Code := bodyOf Try.f43
noncomputable def spec_l5Put_X : Sig := { f := 43, fn := Try.f43, rms := [.val [some 4] []], oms := [none, none] }
noncomputable def spec_l5Put_R (r : List TDone) : V := vsl 4 eDone r
noncomputable def spec_l5Put_O (r : List TDone) : List (Option V) := [none, none]
noncomputable def spec_l5Put_t (i : Nat) (fr : Bool) (r : List TDone) : Nat × Tell := (i, { a := .call [.val [some 4] [], .val [] []] fr (spec_l5Put_R r) (spec_l5Put_O r) })
noncomputable def spec_l5Put_k1 : List Item := posI 2000 5 [false] [.code spec_l5Put_c]
noncomputable def spec_l5Put_S1 (d : TDone) (out1 : List TDone) (in_1 : Bool) : St := ⟨(bs 3 (.ptr 1 0 0 :: (bs 1 (.own 2 0 4 0 out1.length :: (.b in_1 :: (bs 50 [])))))), [some [], some [.var 84 [vi d.Req.Who, vi d.Req.Seq, vi d.Code, vi d.Val]], some [erow 84 4 eDone out1]]⟩
noncomputable def spec_l5Put_k2 : List Item := posI 2000 7 [false, true] [.code spec_l5Put_c]
noncomputable def spec_l5Put_S2 (out2 : List TDone) : St := ⟨(bs 5 (.own 1 0 4 0 out2.length :: (bs 51 []))), [some [], some [erow 84 4 eDone out2]]⟩
noncomputable def spec_l5Put_j1 (out2 : List TDone) : Option (List TDone) :=
  some out2
theorem spec_l5Put_j1_ok (r : List TDone) (out2 : List TDone) (h : spec_l5Put_j1 out2 = some r) : Fin cx spec_l5Put_X (spec_l5Put_R r) (spec_l5Put_O r) spec_l5Put_k2 (spec_l5Put_S2 out2) :=
  P0 <|
 rg <| om (out2.length = out2.length) rfl <| fe Try.func43 h
noncomputable def spec_l5Put_k3 (d : TDone) (out1 : List TDone) (in_1 : Bool) : Option (List TDone) :=
  (((bif (!in_1) then
 (need ((out1.length + 1) * 32 ≤ 140737488355328)
 (some (Exc.brk (out1 ++ [d]))))
 else
 some (Exc.brk out1)) : Option (Exc (List TDone) (List TDone))).bind fun x => x.go some fun j => spec_l5Put_j1 j)
theorem spec_l5Put_k3_ok (d : TDone) (r : List TDone) (out1 : List TDone) (in_1 : Bool) (h : spec_l5Put_k3 d out1 in_1 = some r) : Fin cx spec_l5Put_X (spec_l5Put_R r) (spec_l5Put_O r) spec_l5Put_k1 (spec_l5Put_S1 d out1 in_1) :=
  P0 <|
 joinD (I := fun j : List TDone => Fin cx spec_l5Put_X (spec_l5Put_R r) (spec_l5Put_O r) spec_l5Put_k2 (spec_l5Put_S2 j)) h (fun j h => spec_l5Put_j1_ok r j h) (fun x1 h hc1 =>
  rg <| cdD 1 h (fun h =>
 rg <| tl (2, { a := .ck [] }) <| needD h fun e1 h =>
 apS 3 8 84 4 32 eDone out1 d e1 <| om (1 = [d].length) (by rfl) <| (jbrkD h hc1 fun hI => sg [] [5] [(8, 0)] hI)) (fun h =>
 (jbrkD h hc1 fun hI => sg [] [5] [(2, 0)] hI)))
noncomputable def spec_l5Put_k4 : List Item := posI 2000 4 [] [.code spec_l5Put_c]
noncomputable def spec_l5Put_S3 (list : List TDone) (d : TDone) (out : List TDone) (in_ : Bool) (i : Int) : St := ⟨(vsl 4 eDone list :: (bs 2 (.ptr 1 0 0 :: (bs 1 (.own 2 0 4 0 out.length :: (.b in_ :: (vi i :: (bs 49 [])))))))), [some [], some [.var 84 [vi d.Req.Who, vi d.Req.Seq, vi d.Code, vi d.Val]], some [erow 84 4 eDone out]]⟩
noncomputable def spec_l5Put_k5 : List Item := posI 2000 8 [true, true] [.code spec_l5Put_c]
noncomputable def spec_l5Put_S4 (list : List TDone) (d : TDone) (i : Int) (out3 : List TDone) (in_2 : Bool) : St := ⟨(vsl 4 eDone list :: (bs 2 (.ptr 1 0 0 :: (bs 1 (.own 2 0 4 0 out3.length :: (.b in_2 :: (vi i :: (bs 49 [])))))))), [some [], some [.var 84 [vi d.Req.Who, vi d.Req.Seq, vi d.Code, vi d.Val]], some [erow 84 4 eDone out3]]⟩
noncomputable def spec_l5Put_k6 : List Item := posI 2000 10 [true, true, true] [.code spec_l5Put_c]
noncomputable def spec_l5Put_S5 (list : List TDone) (d : TDone) (i : Int) (in_2 : Bool) (out4 : List TDone) : St := ⟨(vsl 4 eDone list :: (bs 2 (.ptr 1 0 0 :: (bs 1 (.own 2 0 4 0 out4.length :: (.b in_2 :: (vi i :: (bs 49 [])))))))), [some [], some [.var 84 [vi d.Req.Who, vi d.Req.Seq, vi d.Code, vi d.Val]], some [erow 84 4 eDone out4]]⟩
noncomputable def spec_l5Put_j2 (i : Int) (in_2 : Bool) (out4 : List TDone) : Option (Stp (List TDone) ((List TDone) × Bool × Int) ((List TDone) × Bool)) :=
  some (Stp.nxt (out4, in_2, w64 (i + 1)))
theorem spec_l5Put_j2_ok (list : List TDone) (d : TDone) (i : Int) (in_2 : Bool) (res : V) (outs : List (Option V)) (x1 : Exc (List TDone) ((List TDone) × Bool)) (hb1 : HB cx spec_l5Put_X res outs x1 spec_l5Put_k1 (fun s => spec_l5Put_S1 d s.1 s.2)) (hr1 : HR res outs x1 spec_l5Put_R spec_l5Put_O) (st1 : Stp (List TDone) ((List TDone) × Bool × Int) ((List TDone) × Bool)) (hc1 : Cont x1 (fun s : (List TDone) × Bool × Int => Fin cx spec_l5Put_X res outs spec_l5Put_k4 (spec_l5Put_S3 list d s.1 s.2.1 s.2.2)) st1) (out4 : List TDone) (h : spec_l5Put_j2 i in_2 out4 = some st1) : Fin cx spec_l5Put_X res outs spec_l5Put_k6 (spec_l5Put_S5 list d i in_2 out4) :=
  P0 <|
 rg <| (nxtD h hc1 fun hI => sg [] [0, 3, 5, 6, 7] [(1, 0), (2, 0)] hI)
noncomputable def spec_l5Put_j3 (list : List TDone) (d : TDone) (i : Int) (out3 : List TDone) (in_2 : Bool) : Option (Stp (List TDone) ((List TDone) × Bool × Int) ((List TDone) × Bool)) :=
  ((((idx list i).bind fun done =>
 (bif (done.Req.Who != d.Req.Who) then
 (need ((out3.length + 1) * 32 ≤ 140737488355328)
 (some (Exc.brk (out3 ++ [done]))))
 else
 some (Exc.brk out3))) : Option (Exc (Stp (List TDone) ((List TDone) × Bool × Int) ((List TDone) × Bool)) (List TDone))).bind fun x => x.go some fun j => spec_l5Put_j2 i in_2 j)
theorem spec_l5Put_j3_ok (list : List TDone) (d : TDone) (i : Int) (res : V) (outs : List (Option V)) (x1 : Exc (List TDone) ((List TDone) × Bool)) (hb1 : HB cx spec_l5Put_X res outs x1 spec_l5Put_k1 (fun s => spec_l5Put_S1 d s.1 s.2)) (hr1 : HR res outs x1 spec_l5Put_R spec_l5Put_O) (st1 : Stp (List TDone) ((List TDone) × Bool × Int) ((List TDone) × Bool)) (hc1 : Cont x1 (fun s : (List TDone) × Bool × Int => Fin cx spec_l5Put_X res outs spec_l5Put_k4 (spec_l5Put_S3 list d s.1 s.2.1 s.2.2)) st1) (out3 : List TDone) (in_2 : Bool) (h : spec_l5Put_j3 list d i out3 in_2 = some st1) : Fin cx spec_l5Put_X res outs spec_l5Put_k5 (spec_l5Put_S4 list d i out3 in_2) :=
  P0 <|
 joinD (I := fun j : List TDone => Fin cx spec_l5Put_X res outs spec_l5Put_k6 (spec_l5Put_S5 list d i in_2 j)) h (fun j h => spec_l5Put_j2_ok list d i in_2 res outs x1 hb1 hr1 st1 hc1 j h) (fun x2 h hc2 =>
  rg <| ixS eDone 2 h fun done hdone h =>
 cdD 9 h (fun h =>
 rg <| ixR eDone 3 hdone <| tl (5, { a := .ck [] }) <| needD h fun e2 h =>
 apS 6 19 84 4 32 eDone out3 done e2 <| om (1 = [done].length) (by rfl) <| (jbrkD h hc2 fun hI => sg [] [0, 3, 5, 6, 7] [(1, 0), (19, 0)] hI)) (fun h =>
 (jbrkD h hc2 fun hI => sg [] [0, 3, 5, 6, 7] [(1, 0), (2, 0)] hI)))
noncomputable def spec_l5Put_b1 (list : List TDone) (d : TDone) (out : List TDone) (in_ : Bool) (i : Int) : Option (Stp (List TDone) ((List TDone) × Bool × Int) ((List TDone) × Bool)) :=
  (bif decide (i < (list.length : Int)) then
 (((bif (!in_) then
 ((idx list i).bind fun done1 =>
 (bif decide (done1.Req.Who ≥ d.Req.Who) then
 (need ((out.length + 1) * 32 ≤ 140737488355328)
 (some (Exc.brk (out ++ [d], true))))
 else
 some (Exc.brk (out, in_))))
 else
 some (Exc.brk (out, in_))) : Option (Exc (Stp (List TDone) ((List TDone) × Bool × Int) ((List TDone) × Bool)) ((List TDone) × Bool))).bind fun x => x.go some fun j => spec_l5Put_j3 list d i j.1 j.2)
 else
 some (Stp.brk (out, in_)))
theorem spec_l5Put_b1_ok (list : List TDone) (d : TDone) (res : V) (outs : List (Option V)) (x1 : Exc (List TDone) ((List TDone) × Bool)) (hb1 : HB cx spec_l5Put_X res outs x1 spec_l5Put_k1 (fun s => spec_l5Put_S1 d s.1 s.2)) (hr1 : HR res outs x1 spec_l5Put_R spec_l5Put_O) (st1 : Stp (List TDone) ((List TDone) × Bool × Int) ((List TDone) × Bool)) (hc1 : Cont x1 (fun s : (List TDone) × Bool × Int => Fin cx spec_l5Put_X res outs spec_l5Put_k4 (spec_l5Put_S3 list d s.1 s.2.1 s.2.2)) st1) (out : List TDone) (in_ : Bool) (i : Int) (h : spec_l5Put_b1 list d out in_ i = some st1) : Fin cx spec_l5Put_X res outs spec_l5Put_k4 (spec_l5Put_S3 list d out in_ i) :=
  P0 <|
 rg <| cdD 3 h (fun h =>
 joinD (I := fun j : (List TDone) × Bool => Fin cx spec_l5Put_X res outs spec_l5Put_k5 (spec_l5Put_S4 list d i j.1 j.2)) h (fun j h => spec_l5Put_j3_ok list d i res outs x1 hb1 hr1 st1 hc1 j.1 j.2 h) (fun x2 h hc2 =>
  rg <| cdD 2 h (fun h =>
 ixS eDone 5 h fun done1 hdone1 h =>
 cdD 13 h (fun h =>
 rg <| tl (2, { a := .ck [] }) <| needD h fun e3 h =>
 apS 3 24 84 4 32 eDone out d e3 <| om (1 = [d].length) (by rfl) <| rg <| (jbrkD h hc2 fun hI => sg [] [0, 3, 5, 6, 7] [(1, 0), (24, 0)] hI)) (fun h =>
 (jbrkD h hc2 fun hI => sg [] [0, 3, 5, 6, 7] [(1, 0), (2, 0)] hI))) (fun h =>
 (jbrkD h hc2 fun hI => sg [] [0, 3, 5, 6, 7] [(1, 0), (2, 0)] hI)))) (fun h =>
 (brkD h hc1 fun e => sg [] [3, 5, 6] [(1, 0), (2, 0)] (hb1 _ e)))
noncomputable def spec_l5Put (list : List TDone) (d : TDone) : Option (List TDone) :=
  ((loop (fun s : (List TDone) × Bool × Int => spec_l5Put_b1 list d s.1 s.2.1 s.2.2) (([] : List TDone), false, 0)).bind fun x => x.go (fun r => some r) fun s => spec_l5Put_k3 d s.1 s.2)
theorem spec_l5Put_ok {list : List TDone} {d : TDone} (r : List TDone) (h : spec_l5Put list d = some r) : ACalls cx.P 43 [vsl 4 eDone list, .agg (eDone d)] (spec_l5Put_R r) (spec_l5Put_O r) :=
  ACalls.of (cx := cx) (X := spec_l5Put_X) (c := spec_l5Put_c) Try.func43 (by kernel_rfl) (by kernel_rfl) (by kernel_rfl) (P0 <|
 rg2 <| tl (0, { a := .ck [] }) <| rg2 <| loopJ h fun x hl hr hb => om ((.own 3 0 4 0 0 : V) = .own 3 0 4 0 ([] : List TDone).length) (by simp) <| sg [.is (.tmp 5) (.own 3 0 4 0 ([] : List TDone).length)] [0, 3, 5, 6, 7] [(1, 0), (3, 0)] (loopD (I := fun s : (List TDone) × Bool × Int => Fin cx spec_l5Put_X (spec_l5Put_R r) (spec_l5Put_O r) spec_l5Put_k4 (spec_l5Put_S3 list d s.1 s.2.1 s.2.2)) hl fun s st h hc => spec_l5Put_b1_ok list d _ _ x (fun s e => spec_l5Put_k3_ok d r s.1 s.2 (hb s e)) (fun v e => ⟨congrArg spec_l5Put_R (Option.some.inj (hr v e)).symm, congrArg spec_l5Put_O (Option.some.inj (hr v e)).symm⟩) st hc s.1 s.2.1 s.2.2 h))

/-! ### spec_l5Apply -/
noncomputable def spec_l5Apply_c : Code := bodyOf Try.f27
noncomputable def spec_l5Apply_X : Sig := { f := 27, fn := Try.f27, rms := [.val [none, some 2, some 4] [none, some 58, none], .val [] []], oms := [none, none] }
noncomputable def spec_l5Apply_R (r : TState × Int) : V := .tup [.agg [vi r.1.At, vosl 58 2 eBox r.1.Boxes, vsl 4 eDone r.1.Dones], vi r.2]
noncomputable def spec_l5Apply_O (r : TState × Int) : List (Option V) := [none, none]
noncomputable def spec_l5Apply_t (i : Nat) (fr : Bool) (r : TState × Int) : Nat × Tell := (i, { a := .call [.val [none, some 2, some 4] [none, some 58, none], .val ck53 []] fr (spec_l5Apply_R r) (spec_l5Apply_O r) })
noncomputable def spec_l5Apply_k1 : List Item := posI 2000 6 [false, false, false] [.code spec_l5Apply_c]
noncomputable def spec_l5Apply_S1 (s_ : TState) (e_ : TEntry) : St := ⟨(bs 2 (.ptr 1 0 0 :: (.ptr 2 0 0 :: (.ptr 3 0 0 :: (bs 78 []))))), [some [erow 58 2 eBox s_.Boxes], some [.var 45 [vi (w64 (s_.At + 1)), .own 0 0 2 0 s_.Boxes.length, vsl 4 eDone s_.Dones]], some [.var 53 [.b e_.None, vi e_.Req.Who, vi e_.Req.Seq, vsl 2 eRead e_.Run.Reads, vsl 2 ePut e_.Run.Puts, vi e_.Run.Val, vi e_.Run.Code]], some [.var 45 [vi 0, .nil, .nil]]]⟩
noncomputable def spec_l5Apply_k2 : List Item := posI 2000 9 [false, false, false, true] [.code spec_l5Apply_c]
noncomputable def spec_l5Apply_S2 (s_ : TState) (e_ : TEntry) (dCode : Int) : St := ⟨(bs 2 (.ptr 1 0 0 :: (.ptr 2 0 0 :: (.ptr 3 0 0 :: (bs 3 (.ptr 4 0 0 :: (bs 74 []))))))), [some [erow 58 2 eBox s_.Boxes], some [.var 45 [vi (w64 (s_.At + 1)), .own 0 0 2 0 s_.Boxes.length, vsl 4 eDone s_.Dones]], some [.var 53 [.b e_.None, vi e_.Req.Who, vi e_.Req.Seq, vsl 2 eRead e_.Run.Reads, vsl 2 ePut e_.Run.Puts, vi e_.Run.Val, vi e_.Run.Code]], some [.var 45 [vi 0, .nil, .nil]], some [.var 84 [vi e_.Req.Who, vi e_.Req.Seq, vi dCode, vi 0]]]⟩
noncomputable def spec_l5Apply_k3 : List Item := posI 2000 13 [false, false, false, true, true] [.code spec_l5Apply_c]
noncomputable def spec_l5Apply_S3 (s_ : TState) (d : TDone) (Boxes : List TBox) : St := ⟨(bs 2 (.ptr 1 0 0 :: (bs 1 (.ptr 3 0 0 :: (bs 3 (.ptr 4 0 0 :: (bs 74 []))))))), [some [.dead], some [.var 45 [vi (w64 (s_.At + 1)), .own 2 0 2 0 Boxes.length, vsl 4 eDone s_.Dones]], some [erow 58 2 eBox Boxes], some [.var 45 [vi 0, .nil, .nil]], some [.var 84 [vi d.Req.Who, vi d.Req.Seq, vi d.Code, vi d.Val]]]⟩
noncomputable def spec_l5Apply_j1 (s_ : TState) (d : TDone) (Boxes : List TBox) : Option (TState × Int) :=
  ((spec_l5Put s_.Dones d).bind fun l5Put =>
 some ((TState.mk (w64 (s_.At + 1)) Boxes l5Put), d.Code))
theorem spec_l5Apply_j1_ok (s_ : TState) (r : TState × Int) (d : TDone) (Boxes : List TBox) (h : spec_l5Apply_j1 s_ d Boxes = some r) : Fin cx spec_l5Apply_X (spec_l5Apply_R r) (spec_l5Apply_O r) spec_l5Apply_k3 (spec_l5Apply_S3 s_ d Boxes) :=
  P0 <|
 rg <| cb spec_l5Put_t spec_l5Put_ok 3 false h fun l5Put h =>
 rg <| om (Boxes.length = Boxes.length) rfl <| fe Try.func27 h
noncomputable def spec_l5Apply_j2 (s_ : TState) (e_ : TEntry) (dCode : Int) : Option (TState × Int) :=
  (((bif (dCode == 2) then
 (bif (e_.Run.Code == 0) then
 ((spec_l3Do s_.Boxes e_.Run).bind fun l3Do =>
 some (Exc.brk ((TDone.mk e_.Req 0 e_.Run.Val), l3Do)))
 else
 some (Exc.brk ((TDone.mk e_.Req dCode 0), s_.Boxes)))
 else
 some (Exc.brk ((TDone.mk e_.Req dCode 0), s_.Boxes))) : Option (Exc (TState × Int) (TDone × List TBox))).bind fun x => x.go some fun j => spec_l5Apply_j1 s_ j.1 j.2)
theorem spec_l5Apply_j2_ok (s_ : TState) (e_ : TEntry) (r : TState × Int) (dCode : Int) (h : spec_l5Apply_j2 s_ e_ dCode = some r) : Fin cx spec_l5Apply_X (spec_l5Apply_R r) (spec_l5Apply_O r) spec_l5Apply_k2 (spec_l5Apply_S2 s_ e_ dCode) :=
  P0 <|
 joinD (I := fun j : TDone × List TBox => Fin cx spec_l5Apply_X (spec_l5Apply_R r) (spec_l5Apply_O r) spec_l5Apply_k3 (spec_l5Apply_S3 s_ j.1 j.2)) h (fun j h => spec_l5Apply_j1_ok s_ r j.1 j.2 h) (fun x1 h hc1 =>
  rg <| cdD 3 h (fun h =>
 cdD 8 h (fun h =>
 rg3 <| cb spec_l3Do_t spec_l3Do_ok 4 false h fun l3Do h =>
 om (s_.Boxes.length = s_.Boxes.length) rfl <| (jbrkD h hc1 fun hI => sg [] [2, 4, 8] [(1, 0), (25, 0), (3, 0), (4, 0)] hI)) (fun h =>
 (jbrkD h hc1 fun hI => sg [] [2, 4, 8] [(1, 0), (0, 0), (3, 0), (4, 0)] hI))) (fun h =>
 (jbrkD h hc1 fun hI => sg [] [2, 4, 8] [(1, 0), (0, 0), (3, 0), (4, 0)] hI)))
noncomputable def spec_l5Apply_j3 (s_ : TState) (e_ : TEntry) : Option (TState × Int) :=
  ((((spec_ExecFresh s_.Boxes e_.Run).bind fun execFresh =>
 (bif execFresh then
 some (Exc.brk 2)
 else
 some (Exc.brk 1))) : Option (Exc (TState × Int) Int)).bind fun x => x.go some fun j => spec_l5Apply_j2 s_ e_ j)
theorem spec_l5Apply_j3_ok (s_ : TState) (e_ : TEntry) (r : TState × Int) (h : spec_l5Apply_j3 s_ e_ = some r) : Fin cx spec_l5Apply_X (spec_l5Apply_R r) (spec_l5Apply_O r) spec_l5Apply_k1 (spec_l5Apply_S1 s_ e_) :=
  P0 <|
 rg <| joinD (I := fun j : Int => Fin cx spec_l5Apply_X (spec_l5Apply_R r) (spec_l5Apply_O r) spec_l5Apply_k2 (spec_l5Apply_S2 s_ e_ j)) h (fun j h => spec_l5Apply_j2_ok s_ e_ r j h) (fun x1 h hc1 =>
  rg <| cbE spec_ExecFresh_t spec_ExecFresh_ok h fun execFresh hexecFresh h =>
 cdT (spec_ExecFresh_t 4 true execFresh) h (fun _ h =>
 ob hexecFresh <| om (ScalR (spec_ExecFresh_R execFresh) ∧ ScalO (spec_ExecFresh_O execFresh)) ⟨rfl, scalO_none 2⟩ <| om (s_.Boxes.length = s_.Boxes.length) rfl <| rg <| (jbrkD h hc1 fun hI => sg [] [2, 3, 4, 8] [(1, 0), (2, 0), (3, 0), (7, 0)] hI)) (fun _ h =>
 ob hexecFresh <| om (ScalR (spec_ExecFresh_R execFresh) ∧ ScalO (spec_ExecFresh_O execFresh)) ⟨rfl, scalO_none 2⟩ <| om (s_.Boxes.length = s_.Boxes.length) rfl <| (jbrkD h hc1 fun hI => sg [] [2, 3, 4, 8] [(1, 0), (2, 0), (3, 0), (7, 0)] hI)))
noncomputable def spec_l5Apply (s_ : TState) (e_ : TEntry) : Option (TState × Int) :=
  (bif e_.None then
 some ((TState.mk (w64 (s_.At + 1)) s_.Boxes s_.Dones), 5)
 else
 ((spec_l5Last (TState.mk (w64 (s_.At + 1)) s_.Boxes s_.Dones) e_.Req.Who).bind fun l5Last =>
 (((bif l5Last.2 then
 (bif (([l5Last.1.Req.Who, l5Last.1.Req.Seq] : List Int) == [e_.Req.Who, e_.Req.Seq]) then
 some (Exc.ret ((TState.mk (w64 (s_.At + 1)) s_.Boxes s_.Dones), 3))
 else
 (bif l5Last.2 then
 (bif decide (l5Last.1.Req.Seq > e_.Req.Seq) then
 some (Exc.ret ((TState.mk (w64 (s_.At + 1)) s_.Boxes s_.Dones), 4))
 else
 some (Exc.brk ()))
 else
 some (Exc.brk ())))
 else
 (bif l5Last.2 then
 (bif decide (l5Last.1.Req.Seq > e_.Req.Seq) then
 some (Exc.ret ((TState.mk (w64 (s_.At + 1)) s_.Boxes s_.Dones), 4))
 else
 some (Exc.brk ()))
 else
 some (Exc.brk ()))) : Option (Exc (TState × Int) Unit)).bind fun x => x.go some fun j => spec_l5Apply_j3 s_ e_)))
theorem spec_l5Apply_ok {s_ : TState} {e_ : TEntry} (r : TState × Int) (h : spec_l5Apply s_ e_ = some r) : ACalls cx.P 27 [.agg [vi s_.At, vosl 58 2 eBox s_.Boxes, vsl 4 eDone s_.Dones], .agg (eEntry e_)] (spec_l5Apply_R r) (spec_l5Apply_O r) :=
  ACalls.of (cx := cx) (X := spec_l5Apply_X) (c := spec_l5Apply_c) Try.func27 (by kernel_rfl) (by kernel_rfl) (by kernel_rfl) (P0 <|
 rg3 <| cdD 1 h (fun h =>
 rg <| om (s_.Boxes.length = s_.Boxes.length) rfl <| fe Try.func27 h) (fun h =>
 rg <| cb spec_l5Last_t spec_l5Last_ok 4 true h fun l5Last h =>
 om (ScalR (spec_l5Last_R l5Last) ∧ ScalO (spec_l5Last_O l5Last)) ⟨(by simp [spec_l5Last_R, ScalR, ScalA, ScalC, V.simple, vi, vosl, eB, eDone, eI, eReq]), scalO_none 2⟩ <| om (s_.Boxes.length = s_.Boxes.length) rfl <| joinD (I := fun j : Unit => Fin cx spec_l5Apply_X (spec_l5Apply_R r) (spec_l5Apply_O r) spec_l5Apply_k1 (spec_l5Apply_S1 s_ e_)) h (fun j h => spec_l5Apply_j3_ok s_ e_ r h) (fun x1 h hc1 =>
  rg <| cdD 1 h (fun h =>
 cdD 8 h (fun h =>
 rg <| (jretD h hc1 fun h => om (s_.Boxes.length = s_.Boxes.length) rfl <| fe Try.func27 h)) (fun h =>
 rg <| cdD 1 h (fun h =>
 cdD 10 h (fun h =>
 rg <| (jretD h hc1 fun h => om (s_.Boxes.length = s_.Boxes.length) rfl <| fe Try.func27 h)) (fun h =>
 (jbrkD h hc1 fun hI => sg [] [2, 3, 4] [(1, 0), (2, 0), (3, 0)] hI))) (fun h =>
 (jbrkD h hc1 fun hI => sg [] [2, 3, 4] [(1, 0), (2, 0), (3, 0)] hI)))) (fun h =>
 rg <| cdD 1 h (fun h =>
 cdD 10 h (fun h =>
 rg <| (jretD h hc1 fun h => om (s_.Boxes.length = s_.Boxes.length) rfl <| fe Try.func27 h)) (fun h =>
 (jbrkD h hc1 fun hI => sg [] [2, 3, 4] [(1, 0), (2, 0), (3, 0)] hI))) (fun h =>
 (jbrkD h hc1 fun hI => sg [] [2, 3, 4] [(1, 0), (2, 0), (3, 0)] hI))))))

/-! ### spec_CertFold -/
noncomputable def spec_CertFold_c : Code := bodyOf Try.f15
noncomputable def spec_CertFold_X : Sig := { f := 15, fn := Try.f15, rms := [.val [none, some 2, some 4] [none, some 58, none]], oms := [none] }
noncomputable def spec_CertFold_R (r : TState) : V := .agg [vi r.At, vosl 58 2 eBox r.Boxes, vsl 4 eDone r.Dones]
noncomputable def spec_CertFold_O (r : TState) : List (Option V) := [none]
noncomputable def spec_CertFold_t (i : Nat) (fr : Bool) (r : TState) : Nat × Tell := (i, { a := .call [.val [some 7] []] fr (spec_CertFold_R r) (spec_CertFold_O r) })
noncomputable def spec_CertFold_k1 : List Item := posI 2000 5 [false, false] [.code spec_CertFold_c]
noncomputable def spec_CertFold_S1 (Boxes1 : List TBox) (sAt1 : Int) (sDones1 : List TDone) : St := ⟨(bs 2 (.ptr 1 0 0 :: (.ptr 2 0 0 :: (bs 32 [])))), [some [], some [.var 45 [vi 0, .nil, .nil]], some [.var 45 [vi sAt1, .own 3 0 2 0 Boxes1.length, vsl 4 eDone sDones1]], some [erow 58 2 eBox Boxes1]]⟩
noncomputable def spec_CertFold_k2 (Boxes1 : List TBox) (sAt1 : Int) (sDones1 : List TDone) : Option TState :=
  some (TState.mk sAt1 Boxes1 sDones1)
theorem spec_CertFold_k2_ok (r : TState) (Boxes1 : List TBox) (sAt1 : Int) (sDones1 : List TDone) (h : spec_CertFold_k2 Boxes1 sAt1 sDones1 = some r) : Fin cx spec_CertFold_X (spec_CertFold_R r) (spec_CertFold_O r) spec_CertFold_k1 (spec_CertFold_S1 Boxes1 sAt1 sDones1) :=
  P0 <|
 rg <| om (Boxes1.length = Boxes1.length) rfl <| fe Try.func15 h
noncomputable def spec_CertFold_k3 : List Item := posI 2000 4 [false] [.code spec_CertFold_c]
noncomputable def spec_CertFold_S2 (list : List TEntry) (Boxes : List TBox) (i : Int) (sAt : Int) (sDones : List TDone) : St := ⟨(vsl 7 eEntry list :: (bs 1 (.ptr 1 0 0 :: (.ptr 2 0 0 :: (vi i :: (bs 31 [])))))), [some [], some [.var 45 [vi 0, .nil, .nil]], some [.var 45 [vi sAt, .own 3 0 2 0 Boxes.length, vsl 4 eDone sDones]], some [erow 58 2 eBox Boxes]]⟩
noncomputable def spec_CertFold_b1 (list : List TEntry) (Boxes : List TBox) (i : Int) (sAt : Int) (sDones : List TDone) : Option (Stp TState ((List TBox) × Int × Int × List TDone) ((List TBox) × Int × List TDone)) :=
  (bif decide (i < (list.length : Int)) then
 ((idx list i).bind fun entry =>
 ((spec_CertEntry entry).bind fun certEntry =>
 (bif (!certEntry) then
 some (Stp.ret (TState.mk 0 [] []))
 else
 ((spec_l5Apply (TState.mk sAt Boxes sDones) entry).bind fun l5Apply =>
 some (Stp.nxt (l5Apply.1.Boxes, w64 (i + 1), l5Apply.1.At, l5Apply.1.Dones))))))
 else
 some (Stp.brk (Boxes, sAt, sDones)))
theorem spec_CertFold_b1_ok (list : List TEntry) (res : V) (outs : List (Option V)) (x1 : Exc TState ((List TBox) × Int × List TDone)) (hb1 : HB cx spec_CertFold_X res outs x1 spec_CertFold_k1 (fun s => spec_CertFold_S1 s.1 s.2.1 s.2.2)) (hr1 : HR res outs x1 spec_CertFold_R spec_CertFold_O) (st1 : Stp TState ((List TBox) × Int × Int × List TDone) ((List TBox) × Int × List TDone)) (hc1 : Cont x1 (fun s : (List TBox) × Int × Int × List TDone => Fin cx spec_CertFold_X res outs spec_CertFold_k3 (spec_CertFold_S2 list s.1 s.2.1 s.2.2.1 s.2.2.2)) st1) (Boxes : List TBox) (i : Int) (sAt : Int) (sDones : List TDone) (h : spec_CertFold_b1 list Boxes i sAt sDones = some st1) : Fin cx spec_CertFold_X res outs spec_CertFold_k3 (spec_CertFold_S2 list Boxes i sAt sDones) :=
  P0 <|
 rg <| cdD 3 h (fun h =>
 rg <| ixS eEntry 2 h fun entry hentry h =>
 cb spec_CertEntry_t spec_CertEntry_ok 4 false h fun certEntry h =>
 cdD 5 h (fun h =>
 rg <| (retD h hc1 fun e => fn0 Try.func15 (hr1 _ e))) (fun h =>
 rg <| ixR eEntry 3 hentry <| cb spec_l5Apply_t spec_l5Apply_ok 5 false h fun l5Apply h =>
 om (Boxes.length = Boxes.length) rfl <| rg2 <| (nxtD h hc1 fun hI => sg [] [0, 2, 3, 4] [(1, 0), (2, 0), (19, 0)] hI))) (fun h =>
 (brkD h hc1 fun e => sg [] [2, 3] [(1, 0), (2, 0), (3, 0)] (hb1 _ e)))
noncomputable def spec_CertFold (list : List TEntry) : Option TState :=
  ((spec_CertOpen).bind fun certOpen =>
 (bif decide ((list.length : Int) > 40) then
 some (TState.mk 0 [] [])
 else
 ((loop (fun s : (List TBox) × Int × Int × List TDone => spec_CertFold_b1 list s.1 s.2.1 s.2.2.1 s.2.2.2) (certOpen.Boxes, 0, certOpen.At, certOpen.Dones)).bind fun x => x.go (fun r => some r) fun s => spec_CertFold_k2 s.1 s.2.1 s.2.2)))
theorem spec_CertFold_ok {list : List TEntry} (r : TState) (h : spec_CertFold list = some r) : ACalls cx.P 15 [vsl 7 eEntry list] (spec_CertFold_R r) (spec_CertFold_O r) :=
  ACalls.of (cx := cx) (X := spec_CertFold_X) (c := spec_CertFold_c) Try.func15 (by kernel_rfl) (by kernel_rfl) (by kernel_rfl) (P0 <|
 rg2 <| cb spec_CertOpen_t spec_CertOpen_ok 0 false h fun certOpen h =>
 rg <| cdD 2 h (fun h =>
 rg <| fe Try.func15 h) (fun h =>
 rg <| loopJ h fun x hl hr hb => sg [] [0, 2, 3, 4] [(1, 0), (3, 0), (2, 0)] (loopD (I := fun s : (List TBox) × Int × Int × List TDone => Fin cx spec_CertFold_X (spec_CertFold_R r) (spec_CertFold_O r) spec_CertFold_k3 (spec_CertFold_S2 list s.1 s.2.1 s.2.2.1 s.2.2.2)) hl fun s st h hc => spec_CertFold_b1_ok list _ _ x (fun s e => spec_CertFold_k2_ok r s.1 s.2.1 s.2.2 (hb s e)) (fun v e => ⟨congrArg spec_CertFold_R (Option.some.inj (hr v e)).symm, congrArg spec_CertFold_O (Option.some.inj (hr v e)).symm⟩) st hc s.1 s.2.1 s.2.2.1 s.2.2.2 h)))

/-! ### spec_HistAt -/
noncomputable def spec_HistAt_c : Code := bodyOf Try.f5
noncomputable def spec_HistAt_X : Sig := { f := 5, fn := Try.f5, rms := [.val [some 2] [some 58]], oms := [none, none] }
noncomputable def spec_HistAt_R (r : List TBox) : V := vosl 58 2 eBox r
noncomputable def spec_HistAt_O (r : List TBox) : List (Option V) := [none, none]
noncomputable def spec_HistAt_t (i : Nat) (fr : Bool) (r : List TBox) : Nat × Tell := (i, { a := .call [.val [some 7] [], .val [] []] fr (spec_HistAt_R r) (spec_HistAt_O r) })
noncomputable def spec_HistAt (list : List TEntry) (n : Int) : Option (List TBox) :=
  (bif decide (n < 0) then
 some ([] : List TBox)
 else
 (bif decide (n > (list.length : Int)) then
 some ([] : List TBox)
 else
 ((spec_l8Known list).bind fun l8Known =>
 (bif (!l8Known) then
 some ([] : List TBox)
 else
 (need ((0 : Int) ≤ n ∧ n ≤ (list.length : Int))
 (((spec_CertFold ((list.drop 0).take (n.toNat - 0))).bind fun certFold =>
 some certFold.Boxes)))))))
theorem spec_HistAt_ok {list : List TEntry} {n : Int} (r : List TBox) (h : spec_HistAt list n = some r) : ACalls cx.P 5 [vsl 7 eEntry list, vi n] (spec_HistAt_R r) (spec_HistAt_O r) :=
  ACalls.of (cx := cx) (X := spec_HistAt_X) (c := spec_HistAt_c) Try.func5 (by kernel_rfl) (by kernel_rfl) (by kernel_rfl) (P0 <|
 rg2 <| cdD 2 h (fun h =>
 rg <| tl (0, { a := .ck [] }) <| om (0 = ([] : List TBox).length) (by simp) <| fe Try.func5 h) (fun h =>
 cdD 8 h (fun h =>
 rg <| tl (0, { a := .ck [] }) <| om (0 = ([] : List TBox).length) (by simp) <| fe Try.func5 h) (fun h =>
 cb spec_l8Known_t spec_l8Known_ok 10 false h fun l8Known h =>
 cdD 12 h (fun h =>
 rg <| tl (0, { a := .ck [] }) <| om (0 = ([] : List TBox).length) (by simp) <| fe Try.func5 h) (fun h =>
 rg <| needD h fun e1 h =>
 om (V.sl 7 (n.toNat - 0) (((list.map eEntry).drop 0).take (n.toNat - 0)) = vsl 7 eEntry ((list.drop 0).take (n.toNat - 0))) (sl_h e1) <| ob e1.1 <| ob e1.2 <| tl (2, { v := some (vsl 7 eEntry ((list.drop 0).take (n.toNat - 0))) }) <| cb spec_CertFold_t spec_CertFold_ok 3 false h fun certFold h =>
 om (certFold.Boxes.length = certFold.Boxes.length) rfl <| fe Try.func5 h))))

/-! ### impl_same_Read -/
noncomputable def impl_same_Read_c : Code := bodyOf Try.f70
noncomputable def impl_same_Read_X : Sig := { f := 70, fn := Try.f70, rms := [.val [] []], oms := [none, none] }
noncomputable def impl_same_Read_R (r : Bool) : V := .b r
noncomputable def impl_same_Read_O (r : Bool) : List (Option V) := [none, none]
noncomputable def impl_same_Read_t (i : Nat) (fr : Bool) (r : Bool) : Nat × Tell := (i, { a := .call [.val [some 2] [], .val [some 2] []] fr (impl_same_Read_R r) (impl_same_Read_O r) })
noncomputable def impl_same_Read_k1 : List Item := posI 2000 4 [false, false] [.code impl_same_Read_c]
noncomputable def impl_same_Read_S1 : St := ⟨(bs 26 []), [some []]⟩
noncomputable def impl_same_Read_k2 : Option Bool :=
  some true
theorem impl_same_Read_k2_ok (r : Bool) (h : impl_same_Read_k2 = some r) : Fin cx impl_same_Read_X (impl_same_Read_R r) (impl_same_Read_O r) impl_same_Read_k1 (impl_same_Read_S1) :=
  P0 <|
 rg <| fe Try.func70 h
noncomputable def impl_same_Read_k3 : List Item := posI 2000 3 [false] [.code impl_same_Read_c]
noncomputable def impl_same_Read_S2 (a : List TRead) (b : List TRead) (v13 : Int) : St := ⟨(vsl 2 eRead a :: (vsl 2 eRead b :: (bs 10 (vi (a.length : Int) :: (vi v13 :: (bs 12 [])))))), [some []]⟩
noncomputable def impl_same_Read_b1 (a : List TRead) (b : List TRead) (v13 : Int) : Option (Stp Bool Int Unit) :=
  (bif decide (v13 < (a.length : Int)) then
 ((idx a v13).bind fun read =>
 ((idx b v13).bind fun read1 =>
 (bif (!(([read.Box, read.Ver] : List Int) == [read1.Box, read1.Ver])) then
 some (Stp.ret false)
 else
 some (Stp.nxt (w64 (v13 + 1))))))
 else
 some (Stp.brk ()))
theorem impl_same_Read_b1_ok (a : List TRead) (b : List TRead) (res : V) (outs : List (Option V)) (x1 : Exc Bool Unit) (hb1 : HB cx impl_same_Read_X res outs x1 impl_same_Read_k1 (fun s => impl_same_Read_S1)) (hr1 : HR res outs x1 impl_same_Read_R impl_same_Read_O) (st1 : Stp Bool Int Unit) (hc1 : Cont x1 (fun s : Int => Fin cx impl_same_Read_X res outs impl_same_Read_k3 (impl_same_Read_S2 a b s)) st1) (v13 : Int) (h : impl_same_Read_b1 a b v13 = some st1) : Fin cx impl_same_Read_X res outs impl_same_Read_k3 (impl_same_Read_S2 a b v13) :=
  P0 <|
 rg <| cdD 0 h (fun h =>
 rg2 <| ixS eRead 2 h fun read hread h =>
 ixS eRead 6 h fun read1 hread1 h =>
 cdD 8 h (fun h =>
 rg <| (retD h hc1 fun e => fn0 Try.func70 (hr1 _ e))) (fun h =>
 rg <| (nxtD h hc1 fun hI => sg [] [0, 1, 12, 13] [] hI))) (fun h =>
 (brkD h hc1 fun e => sg [] [] [] (hb1 _ e)))
noncomputable def impl_same_Read (a : List TRead) (b : List TRead) : Option Bool :=
  (bif ((a.length : Int) != (b.length : Int)) then
 some false
 else
 ((loop (fun s : Int => impl_same_Read_b1 a b s) 0).bind fun x => x.go (fun r => some r) fun s => impl_same_Read_k2))
theorem impl_same_Read_ok {a : List TRead} {b : List TRead} (r : Bool) (h : impl_same_Read a b = some r) : ACalls cx.P 70 [vsl 2 eRead a, vsl 2 eRead b] (impl_same_Read_R r) (impl_same_Read_O r) :=
  ACalls.of (cx := cx) (X := impl_same_Read_X) (c := impl_same_Read_c) Try.func70 (by kernel_rfl) (by kernel_rfl) (by kernel_rfl) (P0 <|
 rg2 <| cdD 4 h (fun h =>
 rg <| fe Try.func70 h) (fun h =>
 rg <| loopJ h fun x hl hr hb => sg [] [0, 1, 12, 13] [] (loopD (I := fun s : Int => Fin cx impl_same_Read_X (impl_same_Read_R r) (impl_same_Read_O r) impl_same_Read_k3 (impl_same_Read_S2 a b s)) hl fun s st h hc => impl_same_Read_b1_ok a b _ _ x (fun s e => impl_same_Read_k2_ok r (hb s e)) (fun v e => ⟨congrArg impl_same_Read_R (Option.some.inj (hr v e)).symm, congrArg impl_same_Read_O (Option.some.inj (hr v e)).symm⟩) st hc s h)))

/-! ### impl_same_Put -/
noncomputable def impl_same_Put_c : Code := bodyOf Try.f71
noncomputable def impl_same_Put_X : Sig := { f := 71, fn := Try.f71, rms := [.val [] []], oms := [none, none] }
noncomputable def impl_same_Put_R (r : Bool) : V := .b r
noncomputable def impl_same_Put_O (r : Bool) : List (Option V) := [none, none]
noncomputable def impl_same_Put_t (i : Nat) (fr : Bool) (r : Bool) : Nat × Tell := (i, { a := .call [.val [some 2] [], .val [some 2] []] fr (impl_same_Put_R r) (impl_same_Put_O r) })
noncomputable def impl_same_Put_k1 : List Item := posI 2000 4 [false, false] [.code impl_same_Put_c]
noncomputable def impl_same_Put_S1 : St := ⟨(bs 26 []), [some []]⟩
noncomputable def impl_same_Put_k2 : Option Bool :=
  some true
theorem impl_same_Put_k2_ok (r : Bool) (h : impl_same_Put_k2 = some r) : Fin cx impl_same_Put_X (impl_same_Put_R r) (impl_same_Put_O r) impl_same_Put_k1 (impl_same_Put_S1) :=
  P0 <|
 rg <| fe Try.func71 h
noncomputable def impl_same_Put_k3 : List Item := posI 2000 3 [false] [.code impl_same_Put_c]
noncomputable def impl_same_Put_S2 (a : List TPut) (b : List TPut) (v13 : Int) : St := ⟨(vsl 2 ePut a :: (vsl 2 ePut b :: (bs 10 (vi (a.length : Int) :: (vi v13 :: (bs 12 [])))))), [some []]⟩
noncomputable def impl_same_Put_b1 (a : List TPut) (b : List TPut) (v13 : Int) : Option (Stp Bool Int Unit) :=
  (bif decide (v13 < (a.length : Int)) then
 ((idx a v13).bind fun put =>
 ((idx b v13).bind fun put1 =>
 (bif (!(([put.Box, put.Val] : List Int) == [put1.Box, put1.Val])) then
 some (Stp.ret false)
 else
 some (Stp.nxt (w64 (v13 + 1))))))
 else
 some (Stp.brk ()))
theorem impl_same_Put_b1_ok (a : List TPut) (b : List TPut) (res : V) (outs : List (Option V)) (x1 : Exc Bool Unit) (hb1 : HB cx impl_same_Put_X res outs x1 impl_same_Put_k1 (fun s => impl_same_Put_S1)) (hr1 : HR res outs x1 impl_same_Put_R impl_same_Put_O) (st1 : Stp Bool Int Unit) (hc1 : Cont x1 (fun s : Int => Fin cx impl_same_Put_X res outs impl_same_Put_k3 (impl_same_Put_S2 a b s)) st1) (v13 : Int) (h : impl_same_Put_b1 a b v13 = some st1) : Fin cx impl_same_Put_X res outs impl_same_Put_k3 (impl_same_Put_S2 a b v13) :=
  P0 <|
 rg <| cdD 0 h (fun h =>
 rg2 <| ixS ePut 2 h fun put hput h =>
 ixS ePut 6 h fun put1 hput1 h =>
 cdD 8 h (fun h =>
 rg <| (retD h hc1 fun e => fn0 Try.func71 (hr1 _ e))) (fun h =>
 rg <| (nxtD h hc1 fun hI => sg [] [0, 1, 12, 13] [] hI))) (fun h =>
 (brkD h hc1 fun e => sg [] [] [] (hb1 _ e)))
noncomputable def impl_same_Put (a : List TPut) (b : List TPut) : Option Bool :=
  (bif ((a.length : Int) != (b.length : Int)) then
 some false
 else
 ((loop (fun s : Int => impl_same_Put_b1 a b s) 0).bind fun x => x.go (fun r => some r) fun s => impl_same_Put_k2))
theorem impl_same_Put_ok {a : List TPut} {b : List TPut} (r : Bool) (h : impl_same_Put a b = some r) : ACalls cx.P 71 [vsl 2 ePut a, vsl 2 ePut b] (impl_same_Put_R r) (impl_same_Put_O r) :=
  ACalls.of (cx := cx) (X := impl_same_Put_X) (c := impl_same_Put_c) Try.func71 (by kernel_rfl) (by kernel_rfl) (by kernel_rfl) (P0 <|
 rg2 <| cdD 4 h (fun h =>
 rg <| fe Try.func71 h) (fun h =>
 rg <| loopJ h fun x hl hr hb => sg [] [0, 1, 12, 13] [] (loopD (I := fun s : Int => Fin cx impl_same_Put_X (impl_same_Put_R r) (impl_same_Put_O r) impl_same_Put_k3 (impl_same_Put_S2 a b s)) hl fun s st h hc => impl_same_Put_b1_ok a b _ _ x (fun s e => impl_same_Put_k2_ok r (hb s e)) (fun v e => ⟨congrArg impl_same_Put_R (Option.some.inj (hr v e)).symm, congrArg impl_same_Put_O (Option.some.inj (hr v e)).symm⟩) st hc s h)))

/-! ### impl_ExecSame -/
noncomputable def impl_ExecSame_c : Code := bodyOf Try.f61
noncomputable def impl_ExecSame_X : Sig := { f := 61, fn := Try.f61, rms := [.val [] []], oms := [none, none] }
noncomputable def impl_ExecSame_R (r : Bool) : V := .b r
noncomputable def impl_ExecSame_O (r : Bool) : List (Option V) := [none, none]
noncomputable def impl_ExecSame_t (i : Nat) (fr : Bool) (r : Bool) : Nat × Tell := (i, { a := .call [.val ck51 [], .val ck51 []] fr (impl_ExecSame_R r) (impl_ExecSame_O r) })
noncomputable def impl_ExecSame (a : TRun) (b : TRun) : Option Bool :=
  ((impl_same_Read a.Reads b.Reads).bind fun read =>
 (bif read then
 ((impl_same_Put a.Puts b.Puts).bind fun put =>
 (bif put then
 (bif (a.Val == b.Val) then
 some (a.Code == b.Code)
 else
 some false)
 else
 some false))
 else
 some false))
theorem impl_ExecSame_ok {a : TRun} {b : TRun} (r : Bool) (h : impl_ExecSame a b = some r) : ACalls cx.P 61 [.agg (eRun a), .agg (eRun b)] (impl_ExecSame_R r) (impl_ExecSame_O r) :=
  ACalls.of (cx := cx) (X := impl_ExecSame_X) (c := impl_ExecSame_c) Try.func61 (by kernel_rfl) (by kernel_rfl) (by kernel_rfl) (P0 <|
 rg2 <| cb impl_same_Read_t impl_same_Read_ok 4 false h fun read h =>
 cdD 5 h (fun h =>
 cb impl_same_Put_t impl_same_Put_ok 10 false h fun put h =>
 cdD 12 h (fun h =>
 cdD 19 h (fun h =>
 fe Try.func61 h) (fun h =>
 fe Try.func61 h)) (fun h =>
 fe Try.func61 h)) (fun h =>
 fe Try.func61 h))

/-! ### impl_CertLike -/
noncomputable def impl_CertLike_c : Code := bodyOf Try.f46
noncomputable def impl_CertLike_X : Sig := { f := 46, fn := Try.f46, rms := [.val [] []], oms := [none, none] }
noncomputable def impl_CertLike_R (r : Bool) : V := .b r
noncomputable def impl_CertLike_O (r : Bool) : List (Option V) := [none, none]
noncomputable def impl_CertLike_t (i : Nat) (fr : Bool) (r : Bool) : Nat × Tell := (i, { a := .call [.val ck53 [], .val ck53 []] fr (impl_CertLike_R r) (impl_CertLike_O r) })
noncomputable def impl_CertLike (a : TEntry) (b : TEntry) : Option Bool :=
  (bif (a.None == b.None) then
 (bif (([a.Req.Who, a.Req.Seq] : List Int) == [b.Req.Who, b.Req.Seq]) then
 ((impl_ExecSame a.Run b.Run).bind fun execSame =>
 some execSame)
 else
 some false)
 else
 some false)
theorem impl_CertLike_ok {a : TEntry} {b : TEntry} (r : Bool) (h : impl_CertLike a b = some r) : ACalls cx.P 46 [.agg (eEntry a), .agg (eEntry b)] (impl_CertLike_R r) (impl_CertLike_O r) :=
  ACalls.of (cx := cx) (X := impl_CertLike_X) (c := impl_CertLike_c) Try.func46 (by kernel_rfl) (by kernel_rfl) (by kernel_rfl) (P0 <|
 rg2 <| cdD 5 h (fun h =>
 cdD 12 h (fun h =>
 cb impl_ExecSame_t impl_ExecSame_ok 17 false h fun execSame h =>
 fe Try.func46 h) (fun h =>
 fe Try.func46 h)) (fun h =>
 fe Try.func46 h))

/-! ### impl_in -/
noncomputable def impl_in_c : Code := bodyOf Try.f18
noncomputable def impl_in_X : Sig := { f := 18, fn := Try.f18, rms := [.val [] []], oms := [none, none, none] }
noncomputable def impl_in_R (r : Bool) : V := .b r
noncomputable def impl_in_O (r : Bool) : List (Option V) := [none, none, none]
noncomputable def impl_in_t (i : Nat) (fr : Bool) (r : Bool) : Nat × Tell := (i, { a := .call [.val [] [], .val [] [], .val [] []] fr (impl_in_R r) (impl_in_O r) })
noncomputable def impl_in (n : Int) (low : Int) (high : Int) : Option Bool :=
  (bif decide (n ≥ low) then
 some (decide (n ≤ high))
 else
 some false)
theorem impl_in_ok {n : Int} {low : Int} {high : Int} (r : Bool) (h : impl_in n low high = some r) : ACalls cx.P 18 [vi n, vi low, vi high] (impl_in_R r) (impl_in_O r) :=
  ACalls.of (cx := cx) (X := impl_in_X) (c := impl_in_c) Try.func18 (by kernel_rfl) (by kernel_rfl) (by kernel_rfl) (P0 <|
 rg2 <| cdD 3 h (fun h =>
 fe Try.func18 h) (fun h =>
 fe Try.func18 h))

/-! ### impl_reqOk -/
noncomputable def impl_reqOk_c : Code := bodyOf Try.f47
noncomputable def impl_reqOk_X : Sig := { f := 47, fn := Try.f47, rms := [.val [] []], oms := [none] }
noncomputable def impl_reqOk_R (r : Bool) : V := .b r
noncomputable def impl_reqOk_O (r : Bool) : List (Option V) := [none]
noncomputable def impl_reqOk_t (i : Nat) (fr : Bool) (r : Bool) : Nat × Tell := (i, { a := .call [.val [] []] fr (impl_reqOk_R r) (impl_reqOk_O r) })
noncomputable def impl_reqOk (q : TReq) : Option Bool :=
  ((impl_in q.Who 0 2).bind fun in_ =>
 (bif in_ then
 ((impl_in q.Seq 1 1000).bind fun in_1 =>
 some in_1)
 else
 some false))
theorem impl_reqOk_ok {q : TReq} (r : Bool) (h : impl_reqOk q = some r) : ACalls cx.P 47 [.agg (eReq q)] (impl_reqOk_R r) (impl_reqOk_O r) :=
  ACalls.of (cx := cx) (X := impl_reqOk_X) (c := impl_reqOk_c) Try.func47 (by kernel_rfl) (by kernel_rfl) (by kernel_rfl) (P0 <|
 rg2 <| cb impl_in_t impl_in_ok 2 false h fun in_ h =>
 cdD 3 h (fun h =>
 cb impl_in_t impl_in_ok 6 false h fun in_1 h =>
 fe Try.func47 h) (fun h =>
 fe Try.func47 h))

/-! ### impl_ExecOk -/
noncomputable def impl_ExecOk_c : Code := bodyOf Try.f48
noncomputable def impl_ExecOk_X : Sig := { f := 48, fn := Try.f48, rms := [.val [] []], oms := [none] }
noncomputable def impl_ExecOk_R (r : Bool) : V := .b r
noncomputable def impl_ExecOk_O (r : Bool) : List (Option V) := [none]
noncomputable def impl_ExecOk_t (i : Nat) (fr : Bool) (r : Bool) : Nat × Tell := (i, { a := .call [.val ck51 []] fr (impl_ExecOk_R r) (impl_ExecOk_O r) })
noncomputable def impl_ExecOk_k1 : List Item := posI 2000 2 [false] [.code impl_ExecOk_c]
noncomputable def impl_ExecOk_S1 (r_ : TRun) : St := ⟨(bs 1 (.ptr 1 0 0 :: (bs 98 []))), [some [], some [.var 51 [vsl 2 eRead r_.Reads, vsl 2 ePut r_.Puts, vi r_.Val, vi r_.Code]]]⟩
noncomputable def impl_ExecOk_k2 : List Item := posI 2000 5 [false, false] [.code impl_ExecOk_c]
noncomputable def impl_ExecOk_S2 (r_ : TRun) : St := ⟨(bs 1 (.ptr 1 0 0 :: (bs 2 (.ptr 2 0 0 :: (bs 95 []))))), [some [], some [.var 51 [vsl 2 eRead r_.Reads, vsl 2 ePut r_.Puts, vi r_.Val, vi r_.Code]], some [.arr 102 1 4 ((List.replicate 4 false).map eB)]]⟩
noncomputable def impl_ExecOk_k3 : List Item := posI 2000 7 [false, false, false] [.code impl_ExecOk_c]
noncomputable def impl_ExecOk_S3 : St := ⟨(bs 100 []), [some []]⟩
noncomputable def impl_ExecOk_k4 : Option Bool :=
  some true
theorem impl_ExecOk_k4_ok (r : Bool) (h : impl_ExecOk_k4 = some r) : Fin cx impl_ExecOk_X (impl_ExecOk_R r) (impl_ExecOk_O r) impl_ExecOk_k3 (impl_ExecOk_S3) :=
  P0 <|
 rg <| fe Try.func48 h
noncomputable def impl_ExecOk_k5 : List Item := posI 2000 6 [false, false] [.code impl_ExecOk_c]
noncomputable def impl_ExecOk_S4 (r_ : TRun) (put : List Bool) (v76 : Int) : St := ⟨(bs 4 (.ptr 1 0 0 :: (bs 69 (vsl 2 ePut r_.Puts :: (vi (r_.Puts.length : Int) :: (vi v76 :: (bs 23 []))))))), [some [], some [.arr 102 1 4 (put.map eB)]]⟩
noncomputable def impl_ExecOk_b1 (r_ : TRun) (put : List Bool) (v76 : Int) : Option (Stp Bool ((List Bool) × Int) Unit) :=
  (bif decide (v76 < (r_.Puts.length : Int)) then
 ((idx r_.Puts v76).bind fun put1 =>
 ((impl_in put1.Box 0 3).bind fun in_ =>
 (bif (!in_) then
 some (Stp.ret false)
 else
 ((idx put put1.Box).bind fun y =>
 (need (put1.Box < 4)
 ((bif y then
 some (Stp.ret false)
 else
 ((impl_in put1.Val (-1000000) 1000000).bind fun in_1 =>
 (bif (!in_1) then
 some (Stp.ret false)
 else
 (need (put1.Box < 4)
 (some (Stp.nxt (put.set put1.Box.toNat true, w64 (v76 + 1))))))))))))))
 else
 some (Stp.brk ()))
theorem impl_ExecOk_b1_ok (r_ : TRun) (res : V) (outs : List (Option V)) (x1 : Exc Bool Unit) (hb1 : HB cx impl_ExecOk_X res outs x1 impl_ExecOk_k3 (fun s => impl_ExecOk_S3)) (hr1 : HR res outs x1 impl_ExecOk_R impl_ExecOk_O) (st1 : Stp Bool ((List Bool) × Int) Unit) (hc1 : Cont x1 (fun s : (List Bool) × Int => Fin cx impl_ExecOk_X res outs impl_ExecOk_k5 (impl_ExecOk_S4 r_ s.1 s.2)) st1) (put : List Bool) (v76 : Int) (h : impl_ExecOk_b1 r_ put v76 = some st1) : Fin cx impl_ExecOk_X res outs impl_ExecOk_k5 (impl_ExecOk_S4 r_ put v76) :=
  P0 <|
 rg <| cdD 0 h (fun h =>
 rg <| ixS ePut 0 h fun put1 hput1 h =>
 rg <| cb impl_in_t impl_in_ok 2 false h fun in_ h =>
 cdD 4 h (fun h =>
 rg <| (retD h hc1 fun e => fn0 Try.func48 (hr1 _ e))) (fun h =>
 bindD h fun y hy h =>
 needD h fun e1 h =>
 ob (idx0 hy) <| ob e1 <| ob (map_idx (enc := eB) hy) <| tl (tr 8 (eB y)) <| cdD 10 h (fun h =>
 rg <| (retD h hc1 fun e => fn0 Try.func48 (hr1 _ e))) (fun h =>
 cb impl_in_t impl_in_ok 13 false h fun in_1 h =>
 cdD 15 h (fun h =>
 rg <| (retD h hc1 fun e => fn0 Try.func48 (hr1 _ e))) (fun h =>
 rg <| needD h fun e2 h =>
 ob (idx0 hy) <| ob e2 <| om (Ent.arr 102 1 4 ((put.map eB).set (put1.Box.toNat) [.b true]) = Ent.arr 102 1 4 ((put.set put1.Box.toNat true).map eB)) (arr_set rfl) <| ob (map_idx (enc := eB) hy) <| tl (3, { a := .rowck (eB y) [], e := some (.arr 102 1 4 ((put.set put1.Box.toNat true).map eB)) }) <| rg <| (nxtD h hc1 fun hI => sg [] [4, 74, 75, 76] [(1, 0)] hI))))) (fun h =>
 (brkD h hc1 fun e => sg [] [] [] (hb1 _ e)))
noncomputable def impl_ExecOk_k6 (r_ : TRun) : Option Bool :=
  ((loop (fun s : (List Bool) × Int => impl_ExecOk_b1 r_ s.1 s.2) (List.replicate 4 false, 0)).bind fun x => x.go (fun r => some r) fun s => impl_ExecOk_k4)
theorem impl_ExecOk_k6_ok (r_ : TRun) (r : Bool) (h : impl_ExecOk_k6 r_ = some r) : Fin cx impl_ExecOk_X (impl_ExecOk_R r) (impl_ExecOk_O r) impl_ExecOk_k2 (impl_ExecOk_S2 r_) :=
  P0 <|
 rg <| loopJ h fun x hl hr hb => sg [] [4, 74, 75, 76] [(2, 0)] (loopD (I := fun s : (List Bool) × Int => Fin cx impl_ExecOk_X (impl_ExecOk_R r) (impl_ExecOk_O r) impl_ExecOk_k5 (impl_ExecOk_S4 r_ s.1 s.2)) hl fun s st h hc => impl_ExecOk_b1_ok r_ _ _ x (fun s e => impl_ExecOk_k4_ok r (hb s e)) (fun v e => ⟨congrArg impl_ExecOk_R (Option.some.inj (hr v e)).symm, congrArg impl_ExecOk_O (Option.some.inj (hr v e)).symm⟩) st hc s.1 s.2 h)
noncomputable def impl_ExecOk_k7 : List Item := posI 2000 4 [false] [.code impl_ExecOk_c]
noncomputable def impl_ExecOk_S5 (r_ : TRun) (read : List Bool) (v49 : Int) : St := ⟨(bs 1 (.ptr 1 0 0 :: (bs 1 (.ptr 2 0 0 :: (.ptr 3 0 0 :: (bs 42 (vsl 2 eRead r_.Reads :: (vi (r_.Reads.length : Int) :: (vi v49 :: (bs 50 [])))))))))), [some [], some [.var 51 [vsl 2 eRead r_.Reads, vsl 2 ePut r_.Puts, vi r_.Val, vi r_.Code]], some [.arr 102 1 4 (read.map eB)], some [.arr 102 1 4 ((List.replicate 4 false).map eB)]]⟩
noncomputable def impl_ExecOk_b2 (r_ : TRun) (read : List Bool) (v49 : Int) : Option (Stp Bool ((List Bool) × Int) Unit) :=
  (bif decide (v49 < (r_.Reads.length : Int)) then
 ((idx r_.Reads v49).bind fun read1 =>
 ((impl_in read1.Box 0 3).bind fun in_2 =>
 (bif (!in_2) then
 some (Stp.ret false)
 else
 ((idx read read1.Box).bind fun y1 =>
 (need (read1.Box < 4)
 ((bif y1 then
 some (Stp.ret false)
 else
 ((impl_in read1.Ver 0 1000000).bind fun in_3 =>
 (bif (!in_3) then
 some (Stp.ret false)
 else
 (need (read1.Box < 4)
 (some (Stp.nxt (read.set read1.Box.toNat true, w64 (v49 + 1))))))))))))))
 else
 some (Stp.brk ()))
theorem impl_ExecOk_b2_ok (r_ : TRun) (res : V) (outs : List (Option V)) (x1 : Exc Bool Unit) (hb1 : HB cx impl_ExecOk_X res outs x1 impl_ExecOk_k2 (fun s => impl_ExecOk_S2 r_)) (hr1 : HR res outs x1 impl_ExecOk_R impl_ExecOk_O) (st1 : Stp Bool ((List Bool) × Int) Unit) (hc1 : Cont x1 (fun s : (List Bool) × Int => Fin cx impl_ExecOk_X res outs impl_ExecOk_k7 (impl_ExecOk_S5 r_ s.1 s.2)) st1) (read : List Bool) (v49 : Int) (h : impl_ExecOk_b2 r_ read v49 = some st1) : Fin cx impl_ExecOk_X res outs impl_ExecOk_k7 (impl_ExecOk_S5 r_ read v49) :=
  P0 <|
 rg <| cdD 0 h (fun h =>
 rg <| ixS eRead 0 h fun read1 hread1 h =>
 rg <| cb impl_in_t impl_in_ok 2 false h fun in_2 h =>
 cdD 4 h (fun h =>
 rg <| (retD h hc1 fun e => fn0 Try.func48 (hr1 _ e))) (fun h =>
 bindD h fun y1 hy1 h =>
 needD h fun e3 h =>
 ob (idx0 hy1) <| ob e3 <| ob (map_idx (enc := eB) hy1) <| tl (tr 8 (eB y1)) <| cdD 10 h (fun h =>
 rg <| (retD h hc1 fun e => fn0 Try.func48 (hr1 _ e))) (fun h =>
 cb impl_in_t impl_in_ok 13 false h fun in_3 h =>
 cdD 15 h (fun h =>
 rg <| (retD h hc1 fun e => fn0 Try.func48 (hr1 _ e))) (fun h =>
 rg <| needD h fun e4 h =>
 ob (idx0 hy1) <| ob e4 <| om (Ent.arr 102 1 4 ((read.map eB).set (read1.Box.toNat) [.b true]) = Ent.arr 102 1 4 ((read.set read1.Box.toNat true).map eB)) (arr_set rfl) <| ob (map_idx (enc := eB) hy1) <| tl (3, { a := .rowck (eB y1) [], e := some (.arr 102 1 4 ((read.set read1.Box.toNat true).map eB)) }) <| rg <| (nxtD h hc1 fun hI => sg [] [1, 3, 4, 47, 48, 49] [(1, 0), (2, 0), (3, 0)] hI))))) (fun h =>
 (brkD h hc1 fun e => sg [] [1, 4] [(1, 0), (3, 0)] (hb1 _ e)))
noncomputable def impl_ExecOk_j1 (r_ : TRun) : Option Bool :=
  ((loop (fun s : (List Bool) × Int => impl_ExecOk_b2 r_ s.1 s.2) (List.replicate 4 false, 0)).bind fun x => x.go (fun r => some r) fun s => impl_ExecOk_k6 r_)
theorem impl_ExecOk_j1_ok (r_ : TRun) (r : Bool) (h : impl_ExecOk_j1 r_ = some r) : Fin cx impl_ExecOk_X (impl_ExecOk_R r) (impl_ExecOk_O r) impl_ExecOk_k1 (impl_ExecOk_S1 r_) :=
  P0 <|
 rg <| om ((List.replicate 4 ([.b false] : List V)).flatten = [.b false, .b false, .b false, .b false] ∧ ([.b false] : List V).length = 1) ⟨rfl, rfl⟩ <| om ((List.replicate 4 ([.b false] : List V)).flatten = [.b false, .b false, .b false, .b false] ∧ ([.b false] : List V).length = 1) ⟨rfl, rfl⟩ <| rg <| loopJ h fun x hl hr hb => sg [] [1, 3, 4, 47, 48, 49] [(1, 0), (2, 0), (3, 0)] (loopD (I := fun s : (List Bool) × Int => Fin cx impl_ExecOk_X (impl_ExecOk_R r) (impl_ExecOk_O r) impl_ExecOk_k7 (impl_ExecOk_S5 r_ s.1 s.2)) hl fun s st h hc => impl_ExecOk_b2_ok r_ _ _ x (fun s e => impl_ExecOk_k6_ok r_ r (hb s e)) (fun v e => ⟨congrArg impl_ExecOk_R (Option.some.inj (hr v e)).symm, congrArg impl_ExecOk_O (Option.some.inj (hr v e)).symm⟩) st hc s.1 s.2 h)
noncomputable def impl_ExecOk (r_ : TRun) : Option Bool :=
  ((((impl_in r_.Code 0 3).bind fun in_4 =>
 (bif (!in_4) then
 some (Exc.ret false)
 else
 ((impl_in r_.Val (-1000000) 1000000).bind fun in_5 =>
 (bif (!in_5) then
 some (Exc.ret false)
 else
 (bif (r_.Code != 0) then
 (bif (r_.Val != 0) then
 some (Exc.ret false)
 else
 (bif decide ((r_.Puts.length : Int) > 0) then
 some (Exc.ret false)
 else
 (bif (r_.Code == 3) then
 (bif decide ((r_.Reads.length : Int) > 0) then
 some (Exc.ret false)
 else
 some (Exc.brk ()))
 else
 some (Exc.brk ()))))
 else
 (bif (r_.Code == 3) then
 (bif decide ((r_.Reads.length : Int) > 0) then
 some (Exc.ret false)
 else
 some (Exc.brk ()))
 else
 some (Exc.brk ()))))))) : Option (Exc Bool Unit)).bind fun x => x.go some fun j => impl_ExecOk_j1 r_)
theorem impl_ExecOk_ok {r_ : TRun} (r : Bool) (h : impl_ExecOk r_ = some r) : ACalls cx.P 48 [.agg (eRun r_)] (impl_ExecOk_R r) (impl_ExecOk_O r) :=
  ACalls.of (cx := cx) (X := impl_ExecOk_X) (c := impl_ExecOk_c) Try.func48 (by kernel_rfl) (by kernel_rfl) (by kernel_rfl) (P0 <|
 rg <| joinD (I := fun j : Unit => Fin cx impl_ExecOk_X (impl_ExecOk_R r) (impl_ExecOk_O r) impl_ExecOk_k1 (impl_ExecOk_S1 r_)) h (fun j h => impl_ExecOk_j1_ok r_ r h) (fun x1 h hc1 =>
  rg <| cb impl_in_t impl_in_ok 2 false h fun in_4 h =>
 cdD 4 h (fun h =>
 rg <| (jretD h hc1 fun h => fe Try.func48 h)) (fun h =>
 cb impl_in_t impl_in_ok 7 false h fun in_5 h =>
 cdD 10 h (fun h =>
 rg <| (jretD h hc1 fun h => fe Try.func48 h)) (fun h =>
 cdD 14 h (fun h =>
 cdD 18 h (fun h =>
 rg <| (jretD h hc1 fun h => fe Try.func48 h)) (fun h =>
 cdD 26 h (fun h =>
 rg <| (jretD h hc1 fun h => fe Try.func48 h)) (fun h =>
 cdD 30 h (fun h =>
 cdD 36 h (fun h =>
 rg <| (jretD h hc1 fun h => fe Try.func48 h)) (fun h =>
 (jbrkD h hc1 fun hI => sg [] [1] [(1, 0)] hI))) (fun h =>
 (jbrkD h hc1 fun hI => sg [] [1] [(1, 0)] hI))))) (fun h =>
 cdD 30 h (fun h =>
 cdD 36 h (fun h =>
 rg <| (jretD h hc1 fun h => fe Try.func48 h)) (fun h =>
 (jbrkD h hc1 fun hI => sg [] [1] [(1, 0)] hI))) (fun h =>
 (jbrkD h hc1 fun hI => sg [] [1] [(1, 0)] hI)))))))

/-! ### impl_CertEntry -/
noncomputable def impl_CertEntry_c : Code := bodyOf Try.f30
noncomputable def impl_CertEntry_X : Sig := { f := 30, fn := Try.f30, rms := [.val [] []], oms := [none] }
noncomputable def impl_CertEntry_R (r : Bool) : V := .b r
noncomputable def impl_CertEntry_O (r : Bool) : List (Option V) := [none]
noncomputable def impl_CertEntry_t (i : Nat) (fr : Bool) (r : Bool) : Nat × Tell := (i, { a := .call [.val ck53 []] fr (impl_CertEntry_R r) (impl_CertEntry_O r) })
noncomputable def impl_CertEntry (e_ : TEntry) : Option Bool :=
  (bif e_.None then
 ((impl_CertLike e_ (TEntry.mk true (TReq.mk 0 0) (TRun.mk [] [] 0 0))).bind fun certLike =>
 some certLike)
 else
 ((impl_reqOk e_.Req).bind fun reqOk =>
 (bif reqOk then
 ((impl_ExecOk e_.Run).bind fun execOk =>
 (bif execOk then
 some (e_.Run.Code != 3)
 else
 some false))
 else
 some false)))
theorem impl_CertEntry_ok {e_ : TEntry} (r : Bool) (h : impl_CertEntry e_ = some r) : ACalls cx.P 30 [.agg (eEntry e_)] (impl_CertEntry_R r) (impl_CertEntry_O r) :=
  ACalls.of (cx := cx) (X := impl_CertEntry_X) (c := impl_CertEntry_c) Try.func30 (by kernel_rfl) (by kernel_rfl) (by kernel_rfl) (P0 <|
 rg2 <| cdD 1 h (fun h =>
 rg <| cb impl_CertLike_t impl_CertLike_ok 2 false h fun certLike h =>
 fe Try.func30 h) (fun h =>
 rg <| cb impl_reqOk_t impl_reqOk_ok 2 false h fun reqOk h =>
 cdD 3 h (fun h =>
 cb impl_ExecOk_t impl_ExecOk_ok 6 false h fun execOk h =>
 cdD 8 h (fun h =>
 fe Try.func30 h) (fun h =>
 fe Try.func30 h)) (fun h =>
 fe Try.func30 h)))

/-! ### impl_listOk -/
noncomputable def impl_listOk_c : Code := bodyOf Try.f17
noncomputable def impl_listOk_X : Sig := { f := 17, fn := Try.f17, rms := [.val [] []], oms := [none] }
noncomputable def impl_listOk_R (r : Bool) : V := .b r
noncomputable def impl_listOk_O (r : Bool) : List (Option V) := [none]
noncomputable def impl_listOk_t (i : Nat) (fr : Bool) (r : Bool) : Nat × Tell := (i, { a := .call [.val [some 7] []] fr (impl_listOk_R r) (impl_listOk_O r) })
noncomputable def impl_listOk_k1 : List Item := posI 2000 3 [false] [.code impl_listOk_c]
noncomputable def impl_listOk_S1 (list : List TEntry) : St := ⟨(vsl 7 eEntry list :: (bs 17 [])), [some []]⟩
noncomputable def impl_listOk_k2 (list : List TEntry) : Option Bool :=
  some (decide ((list.length : Int) ≤ 40))
theorem impl_listOk_k2_ok (list : List TEntry) (r : Bool) (h : impl_listOk_k2 list = some r) : Fin cx impl_listOk_X (impl_listOk_R r) (impl_listOk_O r) impl_listOk_k1 (impl_listOk_S1 list) :=
  P0 <|
 rg <| fe Try.func17 h
noncomputable def impl_listOk_k3 : List Item := posI 2000 2 [] [.code impl_listOk_c]
noncomputable def impl_listOk_S2 (list : List TEntry) (v7 : Int) : St := ⟨(vsl 7 eEntry list :: (bs 4 (vsl 7 eEntry list :: (vi (list.length : Int) :: (vi v7 :: (bs 10 [])))))), [some []]⟩
noncomputable def impl_listOk_b1 (list : List TEntry) (v7 : Int) : Option (Stp Bool Int Unit) :=
  (bif decide (v7 < (list.length : Int)) then
 ((idx list v7).bind fun entry =>
 ((impl_CertEntry entry).bind fun certEntry =>
 (bif (!certEntry) then
 some (Stp.ret false)
 else
 some (Stp.nxt (w64 (v7 + 1))))))
 else
 some (Stp.brk ()))
theorem impl_listOk_b1_ok (list : List TEntry) (res : V) (outs : List (Option V)) (x1 : Exc Bool Unit) (hb1 : HB cx impl_listOk_X res outs x1 impl_listOk_k1 (fun s => impl_listOk_S1 list)) (hr1 : HR res outs x1 impl_listOk_R impl_listOk_O) (st1 : Stp Bool Int Unit) (hc1 : Cont x1 (fun s : Int => Fin cx impl_listOk_X res outs impl_listOk_k3 (impl_listOk_S2 list s)) st1) (v7 : Int) (h : impl_listOk_b1 list v7 = some st1) : Fin cx impl_listOk_X res outs impl_listOk_k3 (impl_listOk_S2 list v7) :=
  P0 <|
 rg <| cdD 0 h (fun h =>
 rg <| ixS eEntry 0 h fun entry hentry h =>
 rg <| cb impl_CertEntry_t impl_CertEntry_ok 1 false h fun certEntry h =>
 cdD 2 h (fun h =>
 rg <| (retD h hc1 fun e => fn0 Try.func17 (hr1 _ e))) (fun h =>
 rg <| (nxtD h hc1 fun hI => sg [] [0, 5, 6, 7] [] hI))) (fun h =>
 (brkD h hc1 fun e => sg [] [0] [] (hb1 _ e)))
noncomputable def impl_listOk (list : List TEntry) : Option Bool :=
  ((loop (fun s : Int => impl_listOk_b1 list s) 0).bind fun x => x.go (fun r => some r) fun s => impl_listOk_k2 list)
theorem impl_listOk_ok {list : List TEntry} (r : Bool) (h : impl_listOk list = some r) : ACalls cx.P 17 [vsl 7 eEntry list] (impl_listOk_R r) (impl_listOk_O r) :=
  ACalls.of (cx := cx) (X := impl_listOk_X) (c := impl_listOk_c) Try.func17 (by kernel_rfl) (by kernel_rfl) (by kernel_rfl) (P0 <|
 rg2 <| loopJ h fun x hl hr hb => sg [] [0, 5, 6, 7] [] (loopD (I := fun s : Int => Fin cx impl_listOk_X (impl_listOk_R r) (impl_listOk_O r) impl_listOk_k3 (impl_listOk_S2 list s)) hl fun s st h hc => impl_listOk_b1_ok list _ _ x (fun s e => impl_listOk_k2_ok list r (hb s e)) (fun v e => ⟨congrArg impl_listOk_R (Option.some.inj (hr v e)).symm, congrArg impl_listOk_O (Option.some.inj (hr v e)).symm⟩) st hc s h))

/-! ### impl_BoxOpen -/
noncomputable def impl_BoxOpen_c : Code := bodyOf Try.f62
noncomputable def impl_BoxOpen_X : Sig := { f := 62, fn := Try.f62, rms := [.val [some 2] [some 58]], oms := [] }
noncomputable def impl_BoxOpen_R (r : List TBox) : V := vosl 58 2 eBox r
noncomputable def impl_BoxOpen_O (r : List TBox) : List (Option V) := []
noncomputable def impl_BoxOpen_t (i : Nat) (fr : Bool) (r : List TBox) : Nat × Tell := (i, { a := .call [] fr (impl_BoxOpen_R r) (impl_BoxOpen_O r) })
noncomputable def impl_BoxOpen : Option (List TBox) :=
  (need (0 ≤ (4 : Int) ∧ (4 : Int) * 16 ≤ 140737488355328)
 (some (List.replicate (4 : Int).toNat (TBox.mk 0 0))))
theorem impl_BoxOpen_ok (r : List TBox) (h : impl_BoxOpen = some r) : ACalls cx.P 62 [] (impl_BoxOpen_R r) (impl_BoxOpen_O r) :=
  ACalls.of (cx := cx) (X := impl_BoxOpen_X) (c := impl_BoxOpen_c) Try.func62 (by kernel_rfl) (by kernel_rfl) (by kernel_rfl) (P0 <|
 rg2 <| needD h fun e1 h =>
 mkS 0 2 58 2 16 eBox (TBox.mk 0 0) ti58 (.none) e1 (by decide) (by rfl) <| om ((List.replicate (4 : Int).toNat (TBox.mk 0 0)).length = (List.replicate (4 : Int).toNat (TBox.mk 0 0)).length) rfl <| fe Try.func62 h)

/-! ### impl_CertOpen -/
noncomputable def impl_CertOpen_c : Code := bodyOf Try.f49
noncomputable def impl_CertOpen_X : Sig := { f := 49, fn := Try.f49, rms := [.val [none, some 2, some 4] [none, some 58, none]], oms := [] }
noncomputable def impl_CertOpen_R (r : TState) : V := .agg [vi r.At, vosl 58 2 eBox r.Boxes, vsl 4 eDone r.Dones]
noncomputable def impl_CertOpen_O (r : TState) : List (Option V) := []
noncomputable def impl_CertOpen_t (i : Nat) (fr : Bool) (r : TState) : Nat × Tell := (i, { a := .call [] fr (impl_CertOpen_R r) (impl_CertOpen_O r) })
noncomputable def impl_CertOpen : Option TState :=
  ((impl_BoxOpen).bind fun boxOpen =>
 some (TState.mk 0 boxOpen []))
theorem impl_CertOpen_ok (r : TState) (h : impl_CertOpen = some r) : ACalls cx.P 49 [] (impl_CertOpen_R r) (impl_CertOpen_O r) :=
  ACalls.of (cx := cx) (X := impl_CertOpen_X) (c := impl_CertOpen_c) Try.func49 (by kernel_rfl) (by kernel_rfl) (by kernel_rfl) (P0 <|
 rg2 <| cb impl_BoxOpen_t impl_BoxOpen_ok 0 false h fun boxOpen h =>
 om (boxOpen.length = boxOpen.length) rfl <| fe Try.func49 h)

/-! ### impl_BoxOk -/
noncomputable def impl_BoxOk_c : Code := bodyOf Try.f72
noncomputable def impl_BoxOk_X : Sig := { f := 72, fn := Try.f72, rms := [.val [] []], oms := [none] }
noncomputable def impl_BoxOk_R (r : Bool) : V := .b r
noncomputable def impl_BoxOk_O (r : Bool) : List (Option V) := [none]
noncomputable def impl_BoxOk_t (i : Nat) (fr : Bool) (r : Bool) : Nat × Tell := (i, { a := .call [.val [some 2] []] fr (impl_BoxOk_R r) (impl_BoxOk_O r) })
noncomputable def impl_BoxOk_k1 : List Item := posI 2000 3 [false] [.code impl_BoxOk_c]
noncomputable def impl_BoxOk_S1 (list : List TBox) : St := ⟨(vsl 2 eBox list :: (bs 24 [])), [some []]⟩
noncomputable def impl_BoxOk_k2 (list : List TBox) : Option Bool :=
  some ((list.length : Int) == 4)
theorem impl_BoxOk_k2_ok (list : List TBox) (r : Bool) (h : impl_BoxOk_k2 list = some r) : Fin cx impl_BoxOk_X (impl_BoxOk_R r) (impl_BoxOk_O r) impl_BoxOk_k1 (impl_BoxOk_S1 list) :=
  P0 <|
 rg <| fe Try.func72 h
noncomputable def impl_BoxOk_k3 : List Item := posI 2000 2 [] [.code impl_BoxOk_c]
noncomputable def impl_BoxOk_S2 (list : List TBox) (v7 : Int) : St := ⟨(vsl 2 eBox list :: (bs 4 (vsl 2 eBox list :: (vi (list.length : Int) :: (vi v7 :: (bs 17 [])))))), [some []]⟩
noncomputable def impl_BoxOk_b1 (list : List TBox) (v7 : Int) : Option (Stp Bool Int Unit) :=
  (bif decide (v7 < (list.length : Int)) then
 ((idx list v7).bind fun box =>
 ((impl_in box.Ver 0 1000000).bind fun in_ =>
 (bif (!in_) then
 some (Stp.ret false)
 else
 ((impl_in box.Val (-1000000) 1000000).bind fun in_1 =>
 (bif (!in_1) then
 some (Stp.ret false)
 else
 some (Stp.nxt (w64 (v7 + 1))))))))
 else
 some (Stp.brk ()))
theorem impl_BoxOk_b1_ok (list : List TBox) (res : V) (outs : List (Option V)) (x1 : Exc Bool Unit) (hb1 : HB cx impl_BoxOk_X res outs x1 impl_BoxOk_k1 (fun s => impl_BoxOk_S1 list)) (hr1 : HR res outs x1 impl_BoxOk_R impl_BoxOk_O) (st1 : Stp Bool Int Unit) (hc1 : Cont x1 (fun s : Int => Fin cx impl_BoxOk_X res outs impl_BoxOk_k3 (impl_BoxOk_S2 list s)) st1) (v7 : Int) (h : impl_BoxOk_b1 list v7 = some st1) : Fin cx impl_BoxOk_X res outs impl_BoxOk_k3 (impl_BoxOk_S2 list v7) :=
  P0 <|
 rg <| cdD 0 h (fun h =>
 rg <| ixS eBox 0 h fun box hbox h =>
 rg <| cb impl_in_t impl_in_ok 2 false h fun in_ h =>
 cdD 4 h (fun h =>
 rg <| (retD h hc1 fun e => fn0 Try.func72 (hr1 _ e))) (fun h =>
 cb impl_in_t impl_in_ok 7 false h fun in_1 h =>
 cdD 9 h (fun h =>
 rg <| (retD h hc1 fun e => fn0 Try.func72 (hr1 _ e))) (fun h =>
 rg <| (nxtD h hc1 fun hI => sg [] [0, 5, 6, 7] [] hI)))) (fun h =>
 (brkD h hc1 fun e => sg [] [0] [] (hb1 _ e)))
noncomputable def impl_BoxOk (list : List TBox) : Option Bool :=
  ((loop (fun s : Int => impl_BoxOk_b1 list s) 0).bind fun x => x.go (fun r => some r) fun s => impl_BoxOk_k2 list)
theorem impl_BoxOk_ok {list : List TBox} (r : Bool) (h : impl_BoxOk list = some r) : ACalls cx.P 72 [vsl 2 eBox list] (impl_BoxOk_R r) (impl_BoxOk_O r) :=
  ACalls.of (cx := cx) (X := impl_BoxOk_X) (c := impl_BoxOk_c) Try.func72 (by kernel_rfl) (by kernel_rfl) (by kernel_rfl) (P0 <|
 rg2 <| loopJ h fun x hl hr hb => sg [] [0, 5, 6, 7] [] (loopD (I := fun s : Int => Fin cx impl_BoxOk_X (impl_BoxOk_R r) (impl_BoxOk_O r) impl_BoxOk_k3 (impl_BoxOk_S2 list s)) hl fun s st h hc => impl_BoxOk_b1_ok list _ _ x (fun s e => impl_BoxOk_k2_ok list r (hb s e)) (fun v e => ⟨congrArg impl_BoxOk_R (Option.some.inj (hr v e)).symm, congrArg impl_BoxOk_O (Option.some.inj (hr v e)).symm⟩) st hc s h))

/-! ### impl_CertOk -/
noncomputable def impl_CertOk_c : Code := bodyOf Try.f63
noncomputable def impl_CertOk_X : Sig := { f := 63, fn := Try.f63, rms := [.val [] []], oms := [none] }
noncomputable def impl_CertOk_R (r : Bool) : V := .b r
noncomputable def impl_CertOk_O (r : Bool) : List (Option V) := [none]
noncomputable def impl_CertOk_t (i : Nat) (fr : Bool) (r : Bool) : Nat × Tell := (i, { a := .call [.val [none, some 2, some 4] []] fr (impl_CertOk_R r) (impl_CertOk_O r) })
noncomputable def impl_CertOk_k1 : List Item := posI 2000 3 [false] [.code impl_CertOk_c]
noncomputable def impl_CertOk_S1 (s_ : TState) : St := ⟨(bs 1 (.ptr 1 0 0 :: (bs 64 []))), [some [], some [.var 45 [vi s_.At, vsl 2 eBox s_.Boxes, vsl 4 eDone s_.Dones]]]⟩
noncomputable def impl_CertOk_k2 (s_ : TState) : Option Bool :=
  ((impl_in s_.At 0 40).bind fun in_ =>
 (bif in_ then
 ((impl_BoxOk s_.Boxes).bind fun boxOk =>
 some boxOk)
 else
 some false))
theorem impl_CertOk_k2_ok (s_ : TState) (r : Bool) (h : impl_CertOk_k2 s_ = some r) : Fin cx impl_CertOk_X (impl_CertOk_R r) (impl_CertOk_O r) impl_CertOk_k1 (impl_CertOk_S1 s_) :=
  P0 <|
 rg <| cb impl_in_t impl_in_ok 2 false h fun in_ h =>
 cdD 3 h (fun h =>
 cb impl_BoxOk_t impl_BoxOk_ok 6 false h fun boxOk h =>
 fe Try.func63 h) (fun h =>
 fe Try.func63 h)
noncomputable def impl_CertOk_k3 : List Item := posI 2000 2 [] [.code impl_CertOk_c]
noncomputable def impl_CertOk_S2 (s_ : TState) (v8 : Int) : St := ⟨(bs 1 (.ptr 1 0 0 :: (bs 4 (vsl 4 eDone s_.Dones :: (vi (s_.Dones.length : Int) :: (vi v8 :: (bs 57 []))))))), [some [], some [.var 45 [vi s_.At, vsl 2 eBox s_.Boxes, vsl 4 eDone s_.Dones]]]⟩
noncomputable def impl_CertOk_k4 : List Item := posI 2000 5 [true, false] [.code impl_CertOk_c]
noncomputable def impl_CertOk_S3 (s_ : TState) (v8 : Int) : St := ⟨(bs 1 (.ptr 1 0 0 :: (bs 4 (vsl 4 eDone s_.Dones :: (vi (s_.Dones.length : Int) :: (vi v8 :: (bs 57 []))))))), [some [], some [.var 45 [vi s_.At, vsl 2 eBox s_.Boxes, vsl 4 eDone s_.Dones]]]⟩
noncomputable def impl_CertOk_j1 (v8 : Int) : Option (Stp Bool Int Unit) :=
  some (Stp.nxt (w64 (v8 + 1)))
theorem impl_CertOk_j1_ok (s_ : TState) (v8 : Int) (res : V) (outs : List (Option V)) (x1 : Exc Bool Unit) (hb1 : HB cx impl_CertOk_X res outs x1 impl_CertOk_k1 (fun s => impl_CertOk_S1 s_)) (hr1 : HR res outs x1 impl_CertOk_R impl_CertOk_O) (st1 : Stp Bool Int Unit) (hc1 : Cont x1 (fun s : Int => Fin cx impl_CertOk_X res outs impl_CertOk_k3 (impl_CertOk_S2 s_ s)) st1) (h : impl_CertOk_j1 v8 = some st1) : Fin cx impl_CertOk_X res outs impl_CertOk_k4 (impl_CertOk_S3 s_ v8) :=
  P0 <|
 rg <| (nxtD h hc1 fun hI => sg [] [1, 6, 7, 8] [(1, 0)] hI)
noncomputable def impl_CertOk_b1 (s_ : TState) (v8 : Int) : Option (Stp Bool Int Unit) :=
  (bif decide (v8 < (s_.Dones.length : Int)) then
 ((idx s_.Dones v8).bind fun done =>
 (((bif decide (v8 > 0) then
 ((idx s_.Dones (w64 (v8 - 1))).bind fun done1 =>
 (bif decide (done1.Req.Who ≥ done.Req.Who) then
 some (Exc.ret (Stp.ret false))
 else
 ((impl_reqOk done.Req).bind fun reqOk =>
 (bif (!reqOk) then
 some (Exc.ret (Stp.ret false))
 else
 ((impl_in done.Code 0 2).bind fun in_1 =>
 (bif (!in_1) then
 some (Exc.ret (Stp.ret false))
 else
 ((impl_in done.Val (-1000000) 1000000).bind fun in_2 =>
 (bif (!in_2) then
 some (Exc.ret (Stp.ret false))
 else
 (bif (done.Code != 0) then
 (bif (done.Val != 0) then
 some (Exc.ret (Stp.ret false))
 else
 some (Exc.brk ()))
 else
 some (Exc.brk ()))))))))))
 else
 ((impl_reqOk done.Req).bind fun reqOk1 =>
 (bif (!reqOk1) then
 some (Exc.ret (Stp.ret false))
 else
 ((impl_in done.Code 0 2).bind fun in_3 =>
 (bif (!in_3) then
 some (Exc.ret (Stp.ret false))
 else
 ((impl_in done.Val (-1000000) 1000000).bind fun in_4 =>
 (bif (!in_4) then
 some (Exc.ret (Stp.ret false))
 else
 (bif (done.Code != 0) then
 (bif (done.Val != 0) then
 some (Exc.ret (Stp.ret false))
 else
 some (Exc.brk ()))
 else
 some (Exc.brk ()))))))))) : Option (Exc (Stp Bool Int Unit) Unit)).bind fun x => x.go some fun j => impl_CertOk_j1 v8))
 else
 some (Stp.brk ()))
set_option maxRecDepth 20000 in
theorem impl_CertOk_b1_ok (s_ : TState) (res : V) (outs : List (Option V)) (x1 : Exc Bool Unit) (hb1 : HB cx impl_CertOk_X res outs x1 impl_CertOk_k1 (fun s => impl_CertOk_S1 s_)) (hr1 : HR res outs x1 impl_CertOk_R impl_CertOk_O) (st1 : Stp Bool Int Unit) (hc1 : Cont x1 (fun s : Int => Fin cx impl_CertOk_X res outs impl_CertOk_k3 (impl_CertOk_S2 s_ s)) st1) (v8 : Int) (h : impl_CertOk_b1 s_ v8 = some st1) : Fin cx impl_CertOk_X res outs impl_CertOk_k3 (impl_CertOk_S2 s_ v8) :=
  P0 <|
 rg <| cdD 0 h (fun h =>
 rg <| ixS eDone 1 h fun done hdone h =>
 joinD (I := fun j : Unit => Fin cx impl_CertOk_X res outs impl_CertOk_k4 (impl_CertOk_S3 s_ v8)) h (fun j h => impl_CertOk_j1_ok s_ v8 res outs x1 hb1 hr1 st1 hc1 h) (fun x2 h hc2 =>
  rg <| cdD 2 h (fun h =>
 ixS eDone 7 h fun done1 hdone1 h =>
 cdD 16 h (fun h =>
 rg <| (jretD h hc2 fun h => (retD h hc1 fun e => fn0 Try.func63 (hr1 _ e)))) (fun h =>
 cb impl_reqOk_t impl_reqOk_ok 19 false h fun reqOk h =>
 cdD 22 h (fun h =>
 rg <| (jretD h hc2 fun h => (retD h hc1 fun e => fn0 Try.func63 (hr1 _ e)))) (fun h =>
 cb impl_in_t impl_in_ok 25 false h fun in_1 h =>
 cdD 28 h (fun h =>
 rg <| (jretD h hc2 fun h => (retD h hc1 fun e => fn0 Try.func63 (hr1 _ e)))) (fun h =>
 cb impl_in_t impl_in_ok 31 false h fun in_2 h =>
 cdD 34 h (fun h =>
 rg <| (jretD h hc2 fun h => (retD h hc1 fun e => fn0 Try.func63 (hr1 _ e)))) (fun h =>
 cdD 38 h (fun h =>
 cdD 43 h (fun h =>
 rg <| (jretD h hc2 fun h => (retD h hc1 fun e => fn0 Try.func63 (hr1 _ e)))) (fun h =>
 (jbrkD h hc2 fun hI => sg [] [1, 6, 7, 8] [(1, 0)] hI))) (fun h =>
 (jbrkD h hc2 fun hI => sg [] [1, 6, 7, 8] [(1, 0)] hI))))))) (fun h =>
 cb impl_reqOk_t impl_reqOk_ok 19 false h fun reqOk1 h =>
 cdD 22 h (fun h =>
 rg <| (jretD h hc2 fun h => (retD h hc1 fun e => fn0 Try.func63 (hr1 _ e)))) (fun h =>
 cb impl_in_t impl_in_ok 25 false h fun in_3 h =>
 cdD 28 h (fun h =>
 rg <| (jretD h hc2 fun h => (retD h hc1 fun e => fn0 Try.func63 (hr1 _ e)))) (fun h =>
 cb impl_in_t impl_in_ok 31 false h fun in_4 h =>
 cdD 34 h (fun h =>
 rg <| (jretD h hc2 fun h => (retD h hc1 fun e => fn0 Try.func63 (hr1 _ e)))) (fun h =>
 cdD 38 h (fun h =>
 cdD 43 h (fun h =>
 rg <| (jretD h hc2 fun h => (retD h hc1 fun e => fn0 Try.func63 (hr1 _ e)))) (fun h =>
 (jbrkD h hc2 fun hI => sg [] [1, 6, 7, 8] [(1, 0)] hI))) (fun h =>
 (jbrkD h hc2 fun hI => sg [] [1, 6, 7, 8] [(1, 0)] hI)))))))) (fun h =>
 (brkD h hc1 fun e => sg [] [1] [(1, 0)] (hb1 _ e)))
noncomputable def impl_CertOk (s_ : TState) : Option Bool :=
  ((loop (fun s : Int => impl_CertOk_b1 s_ s) 0).bind fun x => x.go (fun r => some r) fun s => impl_CertOk_k2 s_)
theorem impl_CertOk_ok {s_ : TState} (r : Bool) (h : impl_CertOk s_ = some r) : ACalls cx.P 63 [.agg (eState s_)] (impl_CertOk_R r) (impl_CertOk_O r) :=
  ACalls.of (cx := cx) (X := impl_CertOk_X) (c := impl_CertOk_c) Try.func63 (by kernel_rfl) (by kernel_rfl) (by kernel_rfl) (P0 <|
 rg2 <| loopJ h fun x hl hr hb => sg [] [1, 6, 7, 8] [(1, 0)] (loopD (I := fun s : Int => Fin cx impl_CertOk_X (impl_CertOk_R r) (impl_CertOk_O r) impl_CertOk_k3 (impl_CertOk_S2 s_ s)) hl fun s st h hc => impl_CertOk_b1_ok s_ _ _ x (fun s e => impl_CertOk_k2_ok s_ r (hb s e)) (fun v e => ⟨congrArg impl_CertOk_R (Option.some.inj (hr v e)).symm, congrArg impl_CertOk_O (Option.some.inj (hr v e)).symm⟩) st hc s h))

/-! ### impl_copied_Box -/
noncomputable def impl_copied_Box_c : Code := bodyOf Try.f64
noncomputable def impl_copied_Box_X : Sig := { f := 64, fn := Try.f64, rms := [.val [some 2] [some 58]], oms := [none] }
noncomputable def impl_copied_Box_R (r : List TBox) : V := vosl 58 2 eBox r
noncomputable def impl_copied_Box_O (r : List TBox) : List (Option V) := [none]
noncomputable def impl_copied_Box_t (i : Nat) (fr : Bool) (r : List TBox) : Nat × Tell := (i, { a := .call [.val [some 2] []] fr (impl_copied_Box_R r) (impl_copied_Box_O r) })
noncomputable def impl_copied_Box (list : List TBox) : Option (List TBox) :=
  (bif ((list.length : Int) == 0) then
 some []
 else
 (need (0 ≤ (list.length : Int) ∧ (list.length : Int) * 16 ≤ 140737488355328)
 ((need (list.length = (List.replicate (list.length : Int).toNat (TBox.mk 0 0)).length)
 (some list)))))
theorem impl_copied_Box_ok {list : List TBox} (r : List TBox) (h : impl_copied_Box list = some r) : ACalls cx.P 64 [vsl 2 eBox list] (impl_copied_Box_R r) (impl_copied_Box_O r) :=
  ACalls.of (cx := cx) (X := impl_copied_Box_X) (c := impl_copied_Box_c) Try.func64 (by kernel_rfl) (by kernel_rfl) (by kernel_rfl) (P0 <|
 rg2 <| cdD 2 h (fun h =>
 rg <| fe Try.func64 h) (fun h =>
 rg <| needD h fun e1 h =>
 mkS 2 7 58 2 16 eBox (TBox.mk 0 0) ti58 (.none) e1 (by decide) (by rfl) <| rg <| needD h fun e2 h =>
 om (Ent.row 58 2 (List.replicate (list.length : Int).toNat (TBox.mk 0 0)).length (list.map eBox) = erow 58 2 eBox list) (row_copy e2) <| om ((List.replicate (list.length : Int).toNat (TBox.mk 0 0)).length = (List.replicate (list.length : Int).toNat (TBox.mk 0 0)).length) rfl <| ob e2 <| tl (2, { e := some (erow 58 2 eBox list) }) <| rg <| om ((List.replicate (list.length : Int).toNat (TBox.mk 0 0)).length = list.length) (by simp) <| fe Try.func64 h))

/-! ### impl_copied_Done -/
noncomputable def impl_copied_Done_c : Code := bodyOf Try.f65
noncomputable def impl_copied_Done_X : Sig := { f := 65, fn := Try.f65, rms := [.val [some 4] []], oms := [none] }
noncomputable def impl_copied_Done_R (r : List TDone) : V := vsl 4 eDone r
noncomputable def impl_copied_Done_O (r : List TDone) : List (Option V) := [none]
noncomputable def impl_copied_Done_t (i : Nat) (fr : Bool) (r : List TDone) : Nat × Tell := (i, { a := .call [.val [some 4] []] fr (impl_copied_Done_R r) (impl_copied_Done_O r) })
noncomputable def impl_copied_Done (list : List TDone) : Option (List TDone) :=
  (bif ((list.length : Int) == 0) then
 some []
 else
 (need (0 ≤ (list.length : Int) ∧ (list.length : Int) * 32 ≤ 140737488355328)
 ((need (list.length = (List.replicate (list.length : Int).toNat (TDone.mk (TReq.mk 0 0) 0 0)).length)
 (some list)))))
theorem impl_copied_Done_ok {list : List TDone} (r : List TDone) (h : impl_copied_Done list = some r) : ACalls cx.P 65 [vsl 4 eDone list] (impl_copied_Done_R r) (impl_copied_Done_O r) :=
  ACalls.of (cx := cx) (X := impl_copied_Done_X) (c := impl_copied_Done_c) Try.func65 (by kernel_rfl) (by kernel_rfl) (by kernel_rfl) (P0 <|
 rg2 <| cdD 2 h (fun h =>
 rg <| fe Try.func65 h) (fun h =>
 rg <| needD h fun e1 h =>
 mkS 2 7 84 4 32 eDone (TDone.mk (TReq.mk 0 0) 0 0) ti84 (.none) e1 (by decide) (by rfl) <| rg <| needD h fun e2 h =>
 om (Ent.row 84 4 (List.replicate (list.length : Int).toNat (TDone.mk (TReq.mk 0 0) 0 0)).length (list.map eDone) = erow 84 4 eDone list) (row_copy e2) <| om ((List.replicate (list.length : Int).toNat (TDone.mk (TReq.mk 0 0) 0 0)).length = (List.replicate (list.length : Int).toNat (TDone.mk (TReq.mk 0 0) 0 0)).length) rfl <| ob e2 <| tl (2, { e := some (erow 84 4 eDone list) }) <| rg <| om ((List.replicate (list.length : Int).toNat (TDone.mk (TReq.mk 0 0) 0 0)).length = list.length) (by simp) <| fe Try.func65 h))


end Go.Proofs.Ytpiaaeggofnphaa
