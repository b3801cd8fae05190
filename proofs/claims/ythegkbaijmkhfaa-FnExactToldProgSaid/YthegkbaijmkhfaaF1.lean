/- Functions of the program, and that their calls come to this. -/
import Derived.Test.YthegkbaijmkhfaaTy
set_option linter.unusedVariables false
set_option linter.unusedSimpArgs false
namespace Go.Proofs.Ythegkbaijmkhfaa
open Go

/-! ### laws_szReadS -/
noncomputable def laws_szReadS_c : Code := bodyOf Try.f73
noncomputable def laws_szReadS_X : Sig := { f := 73, fn := Try.f73, rms := [.val [] []], oms := [none, none] }
noncomputable def laws_szReadS_R (r : Int) : V := vi r
noncomputable def laws_szReadS_O (r : Int) : List (Option V) := [none, none]
noncomputable def laws_szReadS_t (i : Nat) (fr : Bool) (r : Int) : Nat × Tell := (i, { a := .call [.val [some 2] [], .val [] []] fr (laws_szReadS_R r) (laws_szReadS_O r) })
noncomputable def laws_szReadS (a : List TRead) (left : Int) : Option Int :=
  (bif decide ((w64 (left - (a.length : Int))) < 0) then
 some (-1)
 else
 some (w64 (left - (a.length : Int))))
theorem laws_szReadS_ok {a : List TRead} {left : Int} (r : Int) (h : laws_szReadS a left = some r) : ACalls cx.P 73 [vsl 2 eRead a, vi left] (laws_szReadS_R r) (laws_szReadS_O r) :=
  ACalls.of (cx := cx) (X := laws_szReadS_X) (c := laws_szReadS_c) Try.func73 (by kernel_rfl) (by kernel_rfl) (by kernel_rfl) (P0 <|
 rg3 <| cdD 1 h (fun h =>
 rg <| fe Try.func73 h) (fun h =>
 rg <| fe Try.func73 h))

/-! ### laws_szPutS -/
noncomputable def laws_szPutS_c : Code := bodyOf Try.f74
noncomputable def laws_szPutS_X : Sig := { f := 74, fn := Try.f74, rms := [.val [] []], oms := [none, none] }
noncomputable def laws_szPutS_R (r : Int) : V := vi r
noncomputable def laws_szPutS_O (r : Int) : List (Option V) := [none, none]
noncomputable def laws_szPutS_t (i : Nat) (fr : Bool) (r : Int) : Nat × Tell := (i, { a := .call [.val [some 2] [], .val [] []] fr (laws_szPutS_R r) (laws_szPutS_O r) })
noncomputable def laws_szPutS (a : List TPut) (left : Int) : Option Int :=
  (bif decide ((w64 (left - (a.length : Int))) < 0) then
 some (-1)
 else
 some (w64 (left - (a.length : Int))))
theorem laws_szPutS_ok {a : List TPut} {left : Int} (r : Int) (h : laws_szPutS a left = some r) : ACalls cx.P 74 [vsl 2 ePut a, vi left] (laws_szPutS_R r) (laws_szPutS_O r) :=
  ACalls.of (cx := cx) (X := laws_szPutS_X) (c := laws_szPutS_c) Try.func74 (by kernel_rfl) (by kernel_rfl) (by kernel_rfl) (P0 <|
 rg3 <| cdD 1 h (fun h =>
 rg <| fe Try.func74 h) (fun h =>
 rg <| fe Try.func74 h))

/-! ### laws_szRun -/
noncomputable def laws_szRun_c : Code := bodyOf Try.f67
noncomputable def laws_szRun_X : Sig := { f := 67, fn := Try.f67, rms := [.val [] []], oms := [none, none] }
noncomputable def laws_szRun_R (r : Int) : V := vi r
noncomputable def laws_szRun_O (r : Int) : List (Option V) := [none, none]
noncomputable def laws_szRun_t (i : Nat) (fr : Bool) (r : Int) : Nat × Tell := (i, { a := .call [.val ck79 [], .val [] []] fr (laws_szRun_R r) (laws_szRun_O r) })
noncomputable def laws_szRun (a : TRun) (left : Int) : Option Int :=
  ((laws_szReadS a.Reads left).bind fun szReadS =>
 (bif decide (szReadS < 0) then
 some (-1)
 else
 ((laws_szPutS a.Puts szReadS).bind fun szPutS =>
 (bif decide (szPutS < 0) then
 some (-1)
 else
 some szPutS))))
theorem laws_szRun_ok {a : TRun} {left : Int} (r : Int) (h : laws_szRun a left = some r) : ACalls cx.P 67 [.agg (eRun a), vi left] (laws_szRun_R r) (laws_szRun_O r) :=
  ACalls.of (cx := cx) (X := laws_szRun_X) (c := laws_szRun_c) Try.func67 (by kernel_rfl) (by kernel_rfl) (by kernel_rfl) (P0 <|
 rg2 <| cb laws_szReadS_t laws_szReadS_ok 3 false h fun szReadS h =>
 rg <| cdD 1 h (fun h =>
 rg <| fe Try.func67 h) (fun h =>
 rg <| cb laws_szPutS_t laws_szPutS_ok 3 false h fun szPutS h =>
 rg <| cdD 1 h (fun h =>
 rg <| fe Try.func67 h) (fun h =>
 rg <| fe Try.func67 h)))

/-! ### laws_szEntry -/
noncomputable def laws_szEntry_c : Code := bodyOf Try.f52
noncomputable def laws_szEntry_X : Sig := { f := 52, fn := Try.f52, rms := [.val [] []], oms := [none, none] }
noncomputable def laws_szEntry_R (r : Int) : V := vi r
noncomputable def laws_szEntry_O (r : Int) : List (Option V) := [none, none]
noncomputable def laws_szEntry_t (i : Nat) (fr : Bool) (r : Int) : Nat × Tell := (i, { a := .call [.val ck81 [], .val [] []] fr (laws_szEntry_R r) (laws_szEntry_O r) })
noncomputable def laws_szEntry (a : TEntry) (left : Int) : Option Int :=
  ((laws_szRun a.Run left).bind fun szRun =>
 (bif decide (szRun < 0) then
 some (-1)
 else
 some szRun))
theorem laws_szEntry_ok {a : TEntry} {left : Int} (r : Int) (h : laws_szEntry a left = some r) : ACalls cx.P 52 [.agg (eEntry a), vi left] (laws_szEntry_R r) (laws_szEntry_O r) :=
  ACalls.of (cx := cx) (X := laws_szEntry_X) (c := laws_szEntry_c) Try.func52 (by kernel_rfl) (by kernel_rfl) (by kernel_rfl) (P0 <|
 rg2 <| cb laws_szRun_t laws_szRun_ok 3 false h fun szRun h =>
 rg <| cdD 1 h (fun h =>
 rg <| fe Try.func52 h) (fun h =>
 rg <| fe Try.func52 h))

/-! ### laws_szVote -/
noncomputable def laws_szVote_c : Code := bodyOf Try.f66
noncomputable def laws_szVote_X : Sig := { f := 66, fn := Try.f66, rms := [.val [] []], oms := [none, none] }
noncomputable def laws_szVote_R (r : Int) : V := vi r
noncomputable def laws_szVote_O (r : Int) : List (Option V) := [none, none]
noncomputable def laws_szVote_t (i : Nat) (fr : Bool) (r : Int) : Nat × Tell := (i, { a := .call [.val ck147 [], .val [] []] fr (laws_szVote_R r) (laws_szVote_O r) })
noncomputable def laws_szVote (a : TVote) (left : Int) : Option Int :=
  ((laws_szEntry a.Entry left).bind fun szEntry =>
 (bif decide (szEntry < 0) then
 some (-1)
 else
 some szEntry))
theorem laws_szVote_ok {a : TVote} {left : Int} (r : Int) (h : laws_szVote a left = some r) : ACalls cx.P 66 [.agg (eVote a), vi left] (laws_szVote_R r) (laws_szVote_O r) :=
  ACalls.of (cx := cx) (X := laws_szVote_X) (c := laws_szVote_c) Try.func66 (by kernel_rfl) (by kernel_rfl) (by kernel_rfl) (P0 <|
 rg2 <| cb laws_szEntry_t laws_szEntry_ok 3 false h fun szEntry h =>
 rg <| cdD 1 h (fun h =>
 rg <| fe Try.func66 h) (fun h =>
 rg <| fe Try.func66 h))

/-! ### laws_szVoteS -/
noncomputable def laws_szVoteS_c : Code := bodyOf Try.f51
noncomputable def laws_szVoteS_X : Sig := { f := 51, fn := Try.f51, rms := [.val [] []], oms := [none, none] }
noncomputable def laws_szVoteS_R (r : Int) : V := vi r
noncomputable def laws_szVoteS_O (r : Int) : List (Option V) := [none, none]
noncomputable def laws_szVoteS_t (i : Nat) (fr : Bool) (r : Int) : Nat × Tell := (i, { a := .call [.val [some 8] [], .val [] []] fr (laws_szVoteS_R r) (laws_szVoteS_O r) })
noncomputable def laws_szVoteS_k1 : List Item := posI 2000 5 [false, false] [.code laws_szVoteS_c]
noncomputable def laws_szVoteS_S1 (left2 : Int) : St := ⟨(bs 1 (vi left2 :: (bs 25 []))), [some []]⟩
noncomputable def laws_szVoteS_k2 (left2 : Int) : Option Int :=
  some left2
theorem laws_szVoteS_k2_ok (r : Int) (left2 : Int) (h : laws_szVoteS_k2 left2 = some r) : Fin cx laws_szVoteS_X (laws_szVoteS_R r) (laws_szVoteS_O r) laws_szVoteS_k1 (laws_szVoteS_S1 left2) :=
  P0 <|
 rg <| fe Try.func51 h
noncomputable def laws_szVoteS_k3 : List Item := posI 2000 4 [false] [.code laws_szVoteS_c]
noncomputable def laws_szVoteS_S2 (a : List TVote) (left1 : Int) (i : Int) : St := ⟨(vsl 8 eVote a :: (vi left1 :: (bs 3 (vi i :: (bs 21 []))))), [some []]⟩
noncomputable def laws_szVoteS_b1 (a : List TVote) (left1 : Int) (i : Int) : Option (Stp Int (Int × Int) Int) :=
  (bif decide (i < (a.length : Int)) then
 ((idx a i).bind fun vote =>
 ((laws_szVote vote left1).bind fun szVote =>
 (bif decide (szVote < 0) then
 some (Stp.ret (-1))
 else
 some (Stp.nxt (szVote, w64 (i + 1))))))
 else
 some (Stp.brk left1))
theorem laws_szVoteS_b1_ok (a : List TVote) (res : V) (outs : List (Option V)) (x1 : Exc Int Int) (hb1 : HB cx laws_szVoteS_X res outs x1 laws_szVoteS_k1 laws_szVoteS_S1) (hr1 : HR res outs x1 laws_szVoteS_R laws_szVoteS_O) (st1 : Stp Int (Int × Int) Int) (hc1 : Cont x1 (fun s : Int × Int => Fin cx laws_szVoteS_X res outs laws_szVoteS_k3 (laws_szVoteS_S2 a s.1 s.2)) st1) (left1 : Int) (i : Int) (h : laws_szVoteS_b1 a left1 i = some st1) : Fin cx laws_szVoteS_X res outs laws_szVoteS_k3 (laws_szVoteS_S2 a left1 i) :=
  P0 <|
 rg <| cdD 3 h (fun h =>
 rg <| ixS eVote 2 h fun vote hvote h =>
 cb laws_szVote_t laws_szVote_ok 5 false h fun szVote h =>
 rg <| cdD 1 h (fun h =>
 rg <| (retD h hc1 fun e => fn0 Try.func51 (hr1 _ e))) (fun h =>
 rg <| (nxtD h hc1 fun hI => sg [] [0, 1, 5] [] hI))) (fun h =>
 (brkD h hc1 fun e => sg [] [1] [] (hb1 _ e)))
noncomputable def laws_szVoteS (a : List TVote) (left : Int) : Option Int :=
  (bif decide ((w64 (left - (a.length : Int))) < 0) then
 some (-1)
 else
 ((loop (fun s : Int × Int => laws_szVoteS_b1 a s.1 s.2) (w64 (left - (a.length : Int)), 0)).bind fun x => x.go (fun r => some r) fun s => laws_szVoteS_k2 s))
theorem laws_szVoteS_ok {a : List TVote} {left : Int} (r : Int) (h : laws_szVoteS a left = some r) : ACalls cx.P 51 [vsl 8 eVote a, vi left] (laws_szVoteS_R r) (laws_szVoteS_O r) :=
  ACalls.of (cx := cx) (X := laws_szVoteS_X) (c := laws_szVoteS_c) Try.func51 (by kernel_rfl) (by kernel_rfl) (by kernel_rfl) (P0 <|
 rg3 <| cdD 1 h (fun h =>
 rg <| fe Try.func51 h) (fun h =>
 rg <| loopJ h fun x hl hr hb => sg [] [0, 1, 5] [] (loopD (I := fun s : Int × Int => Fin cx laws_szVoteS_X (laws_szVoteS_R r) (laws_szVoteS_O r) laws_szVoteS_k3 (laws_szVoteS_S2 a s.1 s.2)) hl fun s st h hc => laws_szVoteS_b1_ok a _ _ x (fun s e => laws_szVoteS_k2_ok r s (hb s e)) (fun v e => ⟨congrArg laws_szVoteS_R (Option.some.inj (hr v e)).symm, congrArg laws_szVoteS_O (Option.some.inj (hr v e)).symm⟩) st hc s.1 s.2 h)))

/-! ### laws_szAcc -/
noncomputable def laws_szAcc_c : Code := bodyOf Try.f48
noncomputable def laws_szAcc_X : Sig := { f := 48, fn := Try.f48, rms := [.val [] []], oms := [none, none] }
noncomputable def laws_szAcc_R (r : Int) : V := vi r
noncomputable def laws_szAcc_O (r : Int) : List (Option V) := [none, none]
noncomputable def laws_szAcc_t (i : Nat) (fr : Bool) (r : Int) : Nat × Tell := (i, { a := .call [.val [none, some 8] [], .val [] []] fr (laws_szAcc_R r) (laws_szAcc_O r) })
noncomputable def laws_szAcc (a : TAcc) (left : Int) : Option Int :=
  ((laws_szVoteS a.Votes left).bind fun szVoteS =>
 (bif decide (szVoteS < 0) then
 some (-1)
 else
 some szVoteS))
theorem laws_szAcc_ok {a : TAcc} {left : Int} (r : Int) (h : laws_szAcc a left = some r) : ACalls cx.P 48 [.agg (eAcc a), vi left] (laws_szAcc_R r) (laws_szAcc_O r) :=
  ACalls.of (cx := cx) (X := laws_szAcc_X) (c := laws_szAcc_c) Try.func48 (by kernel_rfl) (by kernel_rfl) (by kernel_rfl) (P0 <|
 rg2 <| cb laws_szVoteS_t laws_szVoteS_ok 3 false h fun szVoteS h =>
 rg <| cdD 1 h (fun h =>
 rg <| fe Try.func48 h) (fun h =>
 rg <| fe Try.func48 h))

/-! ### laws_szEntryS -/
noncomputable def laws_szEntryS_c : Code := bodyOf Try.f49
noncomputable def laws_szEntryS_X : Sig := { f := 49, fn := Try.f49, rms := [.val [] []], oms := [none, none] }
noncomputable def laws_szEntryS_R (r : Int) : V := vi r
noncomputable def laws_szEntryS_O (r : Int) : List (Option V) := [none, none]
noncomputable def laws_szEntryS_t (i : Nat) (fr : Bool) (r : Int) : Nat × Tell := (i, { a := .call [.val [some 7] [], .val [] []] fr (laws_szEntryS_R r) (laws_szEntryS_O r) })
noncomputable def laws_szEntryS_k1 : List Item := posI 2000 5 [false, false] [.code laws_szEntryS_c]
noncomputable def laws_szEntryS_S1 (left2 : Int) : St := ⟨(bs 1 (vi left2 :: (bs 25 []))), [some []]⟩
noncomputable def laws_szEntryS_k2 (left2 : Int) : Option Int :=
  some left2
theorem laws_szEntryS_k2_ok (r : Int) (left2 : Int) (h : laws_szEntryS_k2 left2 = some r) : Fin cx laws_szEntryS_X (laws_szEntryS_R r) (laws_szEntryS_O r) laws_szEntryS_k1 (laws_szEntryS_S1 left2) :=
  P0 <|
 rg <| fe Try.func49 h
noncomputable def laws_szEntryS_k3 : List Item := posI 2000 4 [false] [.code laws_szEntryS_c]
noncomputable def laws_szEntryS_S2 (a : List TEntry) (left1 : Int) (i : Int) : St := ⟨(vsl 7 eEntry a :: (vi left1 :: (bs 3 (vi i :: (bs 21 []))))), [some []]⟩
noncomputable def laws_szEntryS_b1 (a : List TEntry) (left1 : Int) (i : Int) : Option (Stp Int (Int × Int) Int) :=
  (bif decide (i < (a.length : Int)) then
 ((idx a i).bind fun entry =>
 ((laws_szEntry entry left1).bind fun szEntry =>
 (bif decide (szEntry < 0) then
 some (Stp.ret (-1))
 else
 some (Stp.nxt (szEntry, w64 (i + 1))))))
 else
 some (Stp.brk left1))
theorem laws_szEntryS_b1_ok (a : List TEntry) (res : V) (outs : List (Option V)) (x1 : Exc Int Int) (hb1 : HB cx laws_szEntryS_X res outs x1 laws_szEntryS_k1 laws_szEntryS_S1) (hr1 : HR res outs x1 laws_szEntryS_R laws_szEntryS_O) (st1 : Stp Int (Int × Int) Int) (hc1 : Cont x1 (fun s : Int × Int => Fin cx laws_szEntryS_X res outs laws_szEntryS_k3 (laws_szEntryS_S2 a s.1 s.2)) st1) (left1 : Int) (i : Int) (h : laws_szEntryS_b1 a left1 i = some st1) : Fin cx laws_szEntryS_X res outs laws_szEntryS_k3 (laws_szEntryS_S2 a left1 i) :=
  P0 <|
 rg <| cdD 3 h (fun h =>
 rg <| ixS eEntry 2 h fun entry hentry h =>
 cb laws_szEntry_t laws_szEntry_ok 5 false h fun szEntry h =>
 rg <| cdD 1 h (fun h =>
 rg <| (retD h hc1 fun e => fn0 Try.func49 (hr1 _ e))) (fun h =>
 rg <| (nxtD h hc1 fun hI => sg [] [0, 1, 5] [] hI))) (fun h =>
 (brkD h hc1 fun e => sg [] [1] [] (hb1 _ e)))
noncomputable def laws_szEntryS (a : List TEntry) (left : Int) : Option Int :=
  (bif decide ((w64 (left - (a.length : Int))) < 0) then
 some (-1)
 else
 ((loop (fun s : Int × Int => laws_szEntryS_b1 a s.1 s.2) (w64 (left - (a.length : Int)), 0)).bind fun x => x.go (fun r => some r) fun s => laws_szEntryS_k2 s))
theorem laws_szEntryS_ok {a : List TEntry} {left : Int} (r : Int) (h : laws_szEntryS a left = some r) : ACalls cx.P 49 [vsl 7 eEntry a, vi left] (laws_szEntryS_R r) (laws_szEntryS_O r) :=
  ACalls.of (cx := cx) (X := laws_szEntryS_X) (c := laws_szEntryS_c) Try.func49 (by kernel_rfl) (by kernel_rfl) (by kernel_rfl) (P0 <|
 rg3 <| cdD 1 h (fun h =>
 rg <| fe Try.func49 h) (fun h =>
 rg <| loopJ h fun x hl hr hb => sg [] [0, 1, 5] [] (loopD (I := fun s : Int × Int => Fin cx laws_szEntryS_X (laws_szEntryS_R r) (laws_szEntryS_O r) laws_szEntryS_k3 (laws_szEntryS_S2 a s.1 s.2)) hl fun s st h hc => laws_szEntryS_b1_ok a _ _ x (fun s e => laws_szEntryS_k2_ok r s (hb s e)) (fun v e => ⟨congrArg laws_szEntryS_R (Option.some.inj (hr v e)).symm, congrArg laws_szEntryS_O (Option.some.inj (hr v e)).symm⟩) st hc s.1 s.2 h)))

/-! ### laws_szBoolS -/
noncomputable def laws_szBoolS_c : Code := bodyOf Try.f50
noncomputable def laws_szBoolS_X : Sig := { f := 50, fn := Try.f50, rms := [.val [] []], oms := [none, none] }
noncomputable def laws_szBoolS_R (r : Int) : V := vi r
noncomputable def laws_szBoolS_O (r : Int) : List (Option V) := [none, none]
noncomputable def laws_szBoolS_t (i : Nat) (fr : Bool) (r : Int) : Nat × Tell := (i, { a := .call [.val [some 1] [], .val [] []] fr (laws_szBoolS_R r) (laws_szBoolS_O r) })
noncomputable def laws_szBoolS (a : List Bool) (left : Int) : Option Int :=
  (bif decide ((w64 (left - (a.length : Int))) < 0) then
 some (-1)
 else
 some (w64 (left - (a.length : Int))))
theorem laws_szBoolS_ok {a : List Bool} {left : Int} (r : Int) (h : laws_szBoolS a left = some r) : ACalls cx.P 50 [vsl 1 eB a, vi left] (laws_szBoolS_R r) (laws_szBoolS_O r) :=
  ACalls.of (cx := cx) (X := laws_szBoolS_X) (c := laws_szBoolS_c) Try.func50 (by kernel_rfl) (by kernel_rfl) (by kernel_rfl) (P0 <|
 rg3 <| cdD 1 h (fun h =>
 rg <| fe Try.func50 h) (fun h =>
 rg <| fe Try.func50 h))

/-! ### laws_szInsS -/
noncomputable def laws_szInsS_c : Code := bodyOf Try.f53
noncomputable def laws_szInsS_X : Sig := { f := 53, fn := Try.f53, rms := [.val [] []], oms := [none, none] }
noncomputable def laws_szInsS_R (r : Int) : V := vi r
noncomputable def laws_szInsS_O (r : Int) : List (Option V) := [none, none]
noncomputable def laws_szInsS_t (i : Nat) (fr : Bool) (r : Int) : Nat × Tell := (i, { a := .call [.val [some 4] [], .val [] []] fr (laws_szInsS_R r) (laws_szInsS_O r) })
noncomputable def laws_szInsS (a : List TIns) (left : Int) : Option Int :=
  (bif decide ((w64 (left - (a.length : Int))) < 0) then
 some (-1)
 else
 some (w64 (left - (a.length : Int))))
theorem laws_szInsS_ok {a : List TIns} {left : Int} (r : Int) (h : laws_szInsS a left = some r) : ACalls cx.P 53 [vsl 4 eIns a, vi left] (laws_szInsS_R r) (laws_szInsS_O r) :=
  ACalls.of (cx := cx) (X := laws_szInsS_X) (c := laws_szInsS_c) Try.func53 (by kernel_rfl) (by kernel_rfl) (by kernel_rfl) (P0 <|
 rg3 <| cdD 1 h (fun h =>
 rg <| fe Try.func53 h) (fun h =>
 rg <| fe Try.func53 h))

/-! ### laws_szNode -/
noncomputable def laws_szNode_c : Code := bodyOf Try.f32
noncomputable def laws_szNode_X : Sig := { f := 32, fn := Try.f32, rms := [.val [] []], oms := [none, none] }
noncomputable def laws_szNode_R (r : Int) : V := vi r
noncomputable def laws_szNode_O (r : Int) : List (Option V) := [none, none]
noncomputable def laws_szNode_t (i : Nat) (fr : Bool) (r : Int) : Nat × Tell := (i, { a := .call [.val ck84 [], .val [] []] fr (laws_szNode_R r) (laws_szNode_O r) })
noncomputable def laws_szNode (a : TNode) (left : Int) : Option Int :=
  ((laws_szAcc a.Acc left).bind fun szAcc =>
 (bif decide (szAcc < 0) then
 some (-1)
 else
 ((laws_szEntryS a.Known szAcc).bind fun szEntryS =>
 (bif decide (szEntryS < 0) then
 some (-1)
 else
 ((laws_szBoolS a.From szEntryS).bind fun szBoolS =>
 (bif decide (szBoolS < 0) then
 some (-1)
 else
 ((laws_szVoteS a.Best szBoolS).bind fun szVoteS =>
 (bif decide (szVoteS < 0) then
 some (-1)
 else
 ((laws_szEntry a.Cur szVoteS).bind fun szEntry =>
 (bif decide (szEntry < 0) then
 some (-1)
 else
 ((laws_szBoolS a.Votes szEntry).bind fun szBoolS1 =>
 (bif decide (szBoolS1 < 0) then
 some (-1)
 else
 ((laws_szInsS a.Prog szBoolS1).bind fun szInsS =>
 (bif decide (szInsS < 0) then
 some (-1)
 else
 ((laws_szEntry a.Want szInsS).bind fun szEntry1 =>
 (bif decide (szEntry1 < 0) then
 some (-1)
 else
 ((laws_szEntryS a.Queue szEntry1).bind fun szEntryS1 =>
 (bif decide (szEntryS1 < 0) then
 some (-1)
 else
 some szEntryS1))))))))))))))))))
theorem laws_szNode_ok {a : TNode} {left : Int} (r : Int) (h : laws_szNode a left = some r) : ACalls cx.P 32 [.agg (eNode a), vi left] (laws_szNode_R r) (laws_szNode_O r) :=
  ACalls.of (cx := cx) (X := laws_szNode_X) (c := laws_szNode_c) Try.func32 (by kernel_rfl) (by kernel_rfl) (by kernel_rfl) (P0 <|
 rg2 <| cb laws_szAcc_t laws_szAcc_ok 3 false h fun szAcc h =>
 rg <| cdD 1 h (fun h =>
 rg <| fe Try.func32 h) (fun h =>
 rg <| cb laws_szEntryS_t laws_szEntryS_ok 3 false h fun szEntryS h =>
 rg <| cdD 1 h (fun h =>
 rg <| fe Try.func32 h) (fun h =>
 rg <| cb laws_szBoolS_t laws_szBoolS_ok 3 false h fun szBoolS h =>
 rg <| cdD 1 h (fun h =>
 rg <| fe Try.func32 h) (fun h =>
 rg <| cb laws_szVoteS_t laws_szVoteS_ok 3 false h fun szVoteS h =>
 rg <| cdD 1 h (fun h =>
 rg <| fe Try.func32 h) (fun h =>
 rg <| cb laws_szEntry_t laws_szEntry_ok 3 false h fun szEntry h =>
 rg <| cdD 1 h (fun h =>
 rg <| fe Try.func32 h) (fun h =>
 rg <| cb laws_szBoolS_t laws_szBoolS_ok 3 false h fun szBoolS1 h =>
 rg <| cdD 1 h (fun h =>
 rg <| fe Try.func32 h) (fun h =>
 rg <| cb laws_szInsS_t laws_szInsS_ok 3 false h fun szInsS h =>
 rg <| cdD 1 h (fun h =>
 rg <| fe Try.func32 h) (fun h =>
 rg <| cb laws_szEntry_t laws_szEntry_ok 3 false h fun szEntry1 h =>
 rg <| cdD 1 h (fun h =>
 rg <| fe Try.func32 h) (fun h =>
 rg <| cb laws_szEntryS_t laws_szEntryS_ok 3 false h fun szEntryS1 h =>
 rg <| cdD 1 h (fun h =>
 rg <| fe Try.func32 h) (fun h =>
 rg <| fe Try.func32 h))))))))))

/-! ### laws_szNodeS -/
noncomputable def laws_szNodeS_c : Code := bodyOf Try.f14
noncomputable def laws_szNodeS_X : Sig := { f := 14, fn := Try.f14, rms := [.val [] []], oms := [none, none] }
noncomputable def laws_szNodeS_R (r : Int) : V := vi r
noncomputable def laws_szNodeS_O (r : Int) : List (Option V) := [none, none]
noncomputable def laws_szNodeS_t (i : Nat) (fr : Bool) (r : Int) : Nat × Tell := (i, { a := .call [.val [some 27] [], .val [] []] fr (laws_szNodeS_R r) (laws_szNodeS_O r) })
noncomputable def laws_szNodeS_k1 : List Item := posI 2000 5 [false, false] [.code laws_szNodeS_c]
noncomputable def laws_szNodeS_S1 (left2 : Int) : St := ⟨(bs 1 (vi left2 :: (bs 25 []))), [some []]⟩
noncomputable def laws_szNodeS_k2 (left2 : Int) : Option Int :=
  some left2
theorem laws_szNodeS_k2_ok (r : Int) (left2 : Int) (h : laws_szNodeS_k2 left2 = some r) : Fin cx laws_szNodeS_X (laws_szNodeS_R r) (laws_szNodeS_O r) laws_szNodeS_k1 (laws_szNodeS_S1 left2) :=
  P0 <|
 rg <| fe Try.func14 h
noncomputable def laws_szNodeS_k3 : List Item := posI 2000 4 [false] [.code laws_szNodeS_c]
noncomputable def laws_szNodeS_S2 (a : List TNode) (left1 : Int) (i : Int) : St := ⟨(vsl 27 eNode a :: (vi left1 :: (bs 3 (vi i :: (bs 21 []))))), [some []]⟩
noncomputable def laws_szNodeS_b1 (a : List TNode) (left1 : Int) (i : Int) : Option (Stp Int (Int × Int) Int) :=
  (bif decide (i < (a.length : Int)) then
 ((idx a i).bind fun node =>
 ((laws_szNode node left1).bind fun szNode =>
 (bif decide (szNode < 0) then
 some (Stp.ret (-1))
 else
 some (Stp.nxt (szNode, w64 (i + 1))))))
 else
 some (Stp.brk left1))
theorem laws_szNodeS_b1_ok (a : List TNode) (res : V) (outs : List (Option V)) (x1 : Exc Int Int) (hb1 : HB cx laws_szNodeS_X res outs x1 laws_szNodeS_k1 laws_szNodeS_S1) (hr1 : HR res outs x1 laws_szNodeS_R laws_szNodeS_O) (st1 : Stp Int (Int × Int) Int) (hc1 : Cont x1 (fun s : Int × Int => Fin cx laws_szNodeS_X res outs laws_szNodeS_k3 (laws_szNodeS_S2 a s.1 s.2)) st1) (left1 : Int) (i : Int) (h : laws_szNodeS_b1 a left1 i = some st1) : Fin cx laws_szNodeS_X res outs laws_szNodeS_k3 (laws_szNodeS_S2 a left1 i) :=
  P0 <|
 rg <| cdD 3 h (fun h =>
 rg <| ixS eNode 2 h fun node hnode h =>
 cb laws_szNode_t laws_szNode_ok 5 false h fun szNode h =>
 rg <| cdD 1 h (fun h =>
 rg <| (retD h hc1 fun e => fn0 Try.func14 (hr1 _ e))) (fun h =>
 rg <| (nxtD h hc1 fun hI => sg [] [0, 1, 5] [] hI))) (fun h =>
 (brkD h hc1 fun e => sg [] [1] [] (hb1 _ e)))
noncomputable def laws_szNodeS (a : List TNode) (left : Int) : Option Int :=
  (bif decide ((w64 (left - (a.length : Int))) < 0) then
 some (-1)
 else
 ((loop (fun s : Int × Int => laws_szNodeS_b1 a s.1 s.2) (w64 (left - (a.length : Int)), 0)).bind fun x => x.go (fun r => some r) fun s => laws_szNodeS_k2 s))
theorem laws_szNodeS_ok {a : List TNode} {left : Int} (r : Int) (h : laws_szNodeS a left = some r) : ACalls cx.P 14 [vsl 27 eNode a, vi left] (laws_szNodeS_R r) (laws_szNodeS_O r) :=
  ACalls.of (cx := cx) (X := laws_szNodeS_X) (c := laws_szNodeS_c) Try.func14 (by kernel_rfl) (by kernel_rfl) (by kernel_rfl) (P0 <|
 rg3 <| cdD 1 h (fun h =>
 rg <| fe Try.func14 h) (fun h =>
 rg <| loopJ h fun x hl hr hb => sg [] [0, 1, 5] [] (loopD (I := fun s : Int × Int => Fin cx laws_szNodeS_X (laws_szNodeS_R r) (laws_szNodeS_O r) laws_szNodeS_k3 (laws_szNodeS_S2 a s.1 s.2)) hl fun s st h hc => laws_szNodeS_b1_ok a _ _ x (fun s e => laws_szNodeS_k2_ok r s (hb s e)) (fun v e => ⟨congrArg laws_szNodeS_R (Option.some.inj (hr v e)).symm, congrArg laws_szNodeS_O (Option.some.inj (hr v e)).symm⟩) st hc s.1 s.2 h)))

/-! ### laws_szMsg -/
noncomputable def laws_szMsg_c : Code := bodyOf Try.f33
noncomputable def laws_szMsg_X : Sig := { f := 33, fn := Try.f33, rms := [.val [] []], oms := [none, none] }
noncomputable def laws_szMsg_R (r : Int) : V := vi r
noncomputable def laws_szMsg_O (r : Int) : List (Option V) := [none, none]
noncomputable def laws_szMsg_t (i : Nat) (fr : Bool) (r : Int) : Nat × Tell := (i, { a := .call [.val ck87 [], .val [] []] fr (laws_szMsg_R r) (laws_szMsg_O r) })
noncomputable def laws_szMsg (a : TMsg) (left : Int) : Option Int :=
  ((laws_szEntry a.Entry left).bind fun szEntry =>
 (bif decide (szEntry < 0) then
 some (-1)
 else
 ((laws_szVoteS a.Votes szEntry).bind fun szVoteS =>
 (bif decide (szVoteS < 0) then
 some (-1)
 else
 some szVoteS))))
theorem laws_szMsg_ok {a : TMsg} {left : Int} (r : Int) (h : laws_szMsg a left = some r) : ACalls cx.P 33 [.agg (eMsg a), vi left] (laws_szMsg_R r) (laws_szMsg_O r) :=
  ACalls.of (cx := cx) (X := laws_szMsg_X) (c := laws_szMsg_c) Try.func33 (by kernel_rfl) (by kernel_rfl) (by kernel_rfl) (P0 <|
 rg2 <| cb laws_szEntry_t laws_szEntry_ok 3 false h fun szEntry h =>
 rg <| cdD 1 h (fun h =>
 rg <| fe Try.func33 h) (fun h =>
 rg <| cb laws_szVoteS_t laws_szVoteS_ok 3 false h fun szVoteS h =>
 rg <| cdD 1 h (fun h =>
 rg <| fe Try.func33 h) (fun h =>
 rg <| fe Try.func33 h)))

/-! ### laws_szMsgS -/
noncomputable def laws_szMsgS_c : Code := bodyOf Try.f15
noncomputable def laws_szMsgS_X : Sig := { f := 15, fn := Try.f15, rms := [.val [] []], oms := [none, none] }
noncomputable def laws_szMsgS_R (r : Int) : V := vi r
noncomputable def laws_szMsgS_O (r : Int) : List (Option V) := [none, none]
noncomputable def laws_szMsgS_t (i : Nat) (fr : Bool) (r : Int) : Nat × Tell := (i, { a := .call [.val [some 13] [], .val [] []] fr (laws_szMsgS_R r) (laws_szMsgS_O r) })
noncomputable def laws_szMsgS_k1 : List Item := posI 2000 5 [false, false] [.code laws_szMsgS_c]
noncomputable def laws_szMsgS_S1 (left2 : Int) : St := ⟨(bs 1 (vi left2 :: (bs 25 []))), [some []]⟩
noncomputable def laws_szMsgS_k2 (left2 : Int) : Option Int :=
  some left2
theorem laws_szMsgS_k2_ok (r : Int) (left2 : Int) (h : laws_szMsgS_k2 left2 = some r) : Fin cx laws_szMsgS_X (laws_szMsgS_R r) (laws_szMsgS_O r) laws_szMsgS_k1 (laws_szMsgS_S1 left2) :=
  P0 <|
 rg <| fe Try.func15 h
noncomputable def laws_szMsgS_k3 : List Item := posI 2000 4 [false] [.code laws_szMsgS_c]
noncomputable def laws_szMsgS_S2 (a : List TMsg) (left1 : Int) (i : Int) : St := ⟨(vsl 13 eMsg a :: (vi left1 :: (bs 3 (vi i :: (bs 21 []))))), [some []]⟩
noncomputable def laws_szMsgS_b1 (a : List TMsg) (left1 : Int) (i : Int) : Option (Stp Int (Int × Int) Int) :=
  (bif decide (i < (a.length : Int)) then
 ((idx a i).bind fun msg =>
 ((laws_szMsg msg left1).bind fun szMsg =>
 (bif decide (szMsg < 0) then
 some (Stp.ret (-1))
 else
 some (Stp.nxt (szMsg, w64 (i + 1))))))
 else
 some (Stp.brk left1))
theorem laws_szMsgS_b1_ok (a : List TMsg) (res : V) (outs : List (Option V)) (x1 : Exc Int Int) (hb1 : HB cx laws_szMsgS_X res outs x1 laws_szMsgS_k1 laws_szMsgS_S1) (hr1 : HR res outs x1 laws_szMsgS_R laws_szMsgS_O) (st1 : Stp Int (Int × Int) Int) (hc1 : Cont x1 (fun s : Int × Int => Fin cx laws_szMsgS_X res outs laws_szMsgS_k3 (laws_szMsgS_S2 a s.1 s.2)) st1) (left1 : Int) (i : Int) (h : laws_szMsgS_b1 a left1 i = some st1) : Fin cx laws_szMsgS_X res outs laws_szMsgS_k3 (laws_szMsgS_S2 a left1 i) :=
  P0 <|
 rg <| cdD 3 h (fun h =>
 rg <| ixS eMsg 2 h fun msg hmsg h =>
 cb laws_szMsg_t laws_szMsg_ok 5 false h fun szMsg h =>
 rg <| cdD 1 h (fun h =>
 rg <| (retD h hc1 fun e => fn0 Try.func15 (hr1 _ e))) (fun h =>
 rg <| (nxtD h hc1 fun hI => sg [] [0, 1, 5] [] hI))) (fun h =>
 (brkD h hc1 fun e => sg [] [1] [] (hb1 _ e)))
noncomputable def laws_szMsgS (a : List TMsg) (left : Int) : Option Int :=
  (bif decide ((w64 (left - (a.length : Int))) < 0) then
 some (-1)
 else
 ((loop (fun s : Int × Int => laws_szMsgS_b1 a s.1 s.2) (w64 (left - (a.length : Int)), 0)).bind fun x => x.go (fun r => some r) fun s => laws_szMsgS_k2 s))
theorem laws_szMsgS_ok {a : List TMsg} {left : Int} (r : Int) (h : laws_szMsgS a left = some r) : ACalls cx.P 15 [vsl 13 eMsg a, vi left] (laws_szMsgS_R r) (laws_szMsgS_O r) :=
  ACalls.of (cx := cx) (X := laws_szMsgS_X) (c := laws_szMsgS_c) Try.func15 (by kernel_rfl) (by kernel_rfl) (by kernel_rfl) (P0 <|
 rg3 <| cdD 1 h (fun h =>
 rg <| fe Try.func15 h) (fun h =>
 rg <| loopJ h fun x hl hr hb => sg [] [0, 1, 5] [] (loopD (I := fun s : Int × Int => Fin cx laws_szMsgS_X (laws_szMsgS_R r) (laws_szMsgS_O r) laws_szMsgS_k3 (laws_szMsgS_S2 a s.1 s.2)) hl fun s st h hc => laws_szMsgS_b1_ok a _ _ x (fun s e => laws_szMsgS_k2_ok r s (hb s e)) (fun v e => ⟨congrArg laws_szMsgS_R (Option.some.inj (hr v e)).symm, congrArg laws_szMsgS_O (Option.some.inj (hr v e)).symm⟩) st hc s.1 s.2 h)))

/-! ### laws_szAsked -/
noncomputable def laws_szAsked_c : Code := bodyOf Try.f34
noncomputable def laws_szAsked_X : Sig := { f := 34, fn := Try.f34, rms := [.val [] []], oms := [none, none] }
noncomputable def laws_szAsked_R (r : Int) : V := vi r
noncomputable def laws_szAsked_O (r : Int) : List (Option V) := [none, none]
noncomputable def laws_szAsked_t (i : Nat) (fr : Bool) (r : Int) : Nat × Tell := (i, { a := .call [.val [none, none, some 4] [], .val [] []] fr (laws_szAsked_R r) (laws_szAsked_O r) })
noncomputable def laws_szAsked (a : TAsked) (left : Int) : Option Int :=
  ((laws_szInsS a.Prog left).bind fun szInsS =>
 (bif decide (szInsS < 0) then
 some (-1)
 else
 some szInsS))
theorem laws_szAsked_ok {a : TAsked} {left : Int} (r : Int) (h : laws_szAsked a left = some r) : ACalls cx.P 34 [.agg (eAsked a), vi left] (laws_szAsked_R r) (laws_szAsked_O r) :=
  ACalls.of (cx := cx) (X := laws_szAsked_X) (c := laws_szAsked_c) Try.func34 (by kernel_rfl) (by kernel_rfl) (by kernel_rfl) (P0 <|
 rg2 <| cb laws_szInsS_t laws_szInsS_ok 3 false h fun szInsS h =>
 rg <| cdD 1 h (fun h =>
 rg <| fe Try.func34 h) (fun h =>
 rg <| fe Try.func34 h))

/-! ### laws_szAskedS -/
noncomputable def laws_szAskedS_c : Code := bodyOf Try.f16
noncomputable def laws_szAskedS_X : Sig := { f := 16, fn := Try.f16, rms := [.val [] []], oms := [none, none] }
noncomputable def laws_szAskedS_R (r : Int) : V := vi r
noncomputable def laws_szAskedS_O (r : Int) : List (Option V) := [none, none]
noncomputable def laws_szAskedS_t (i : Nat) (fr : Bool) (r : Int) : Nat × Tell := (i, { a := .call [.val [some 3] [], .val [] []] fr (laws_szAskedS_R r) (laws_szAskedS_O r) })
noncomputable def laws_szAskedS_k1 : List Item := posI 2000 5 [false, false] [.code laws_szAskedS_c]
noncomputable def laws_szAskedS_S1 (left2 : Int) : St := ⟨(bs 1 (vi left2 :: (bs 25 []))), [some []]⟩
noncomputable def laws_szAskedS_k2 (left2 : Int) : Option Int :=
  some left2
theorem laws_szAskedS_k2_ok (r : Int) (left2 : Int) (h : laws_szAskedS_k2 left2 = some r) : Fin cx laws_szAskedS_X (laws_szAskedS_R r) (laws_szAskedS_O r) laws_szAskedS_k1 (laws_szAskedS_S1 left2) :=
  P0 <|
 rg <| fe Try.func16 h
noncomputable def laws_szAskedS_k3 : List Item := posI 2000 4 [false] [.code laws_szAskedS_c]
noncomputable def laws_szAskedS_S2 (a : List TAsked) (left1 : Int) (i : Int) : St := ⟨(vsl 3 eAsked a :: (vi left1 :: (bs 3 (vi i :: (bs 21 []))))), [some []]⟩
noncomputable def laws_szAskedS_b1 (a : List TAsked) (left1 : Int) (i : Int) : Option (Stp Int (Int × Int) Int) :=
  (bif decide (i < (a.length : Int)) then
 ((idx a i).bind fun asked =>
 ((laws_szAsked asked left1).bind fun szAsked =>
 (bif decide (szAsked < 0) then
 some (Stp.ret (-1))
 else
 some (Stp.nxt (szAsked, w64 (i + 1))))))
 else
 some (Stp.brk left1))
theorem laws_szAskedS_b1_ok (a : List TAsked) (res : V) (outs : List (Option V)) (x1 : Exc Int Int) (hb1 : HB cx laws_szAskedS_X res outs x1 laws_szAskedS_k1 laws_szAskedS_S1) (hr1 : HR res outs x1 laws_szAskedS_R laws_szAskedS_O) (st1 : Stp Int (Int × Int) Int) (hc1 : Cont x1 (fun s : Int × Int => Fin cx laws_szAskedS_X res outs laws_szAskedS_k3 (laws_szAskedS_S2 a s.1 s.2)) st1) (left1 : Int) (i : Int) (h : laws_szAskedS_b1 a left1 i = some st1) : Fin cx laws_szAskedS_X res outs laws_szAskedS_k3 (laws_szAskedS_S2 a left1 i) :=
  P0 <|
 rg <| cdD 3 h (fun h =>
 rg <| ixS eAsked 2 h fun asked hasked h =>
 cb laws_szAsked_t laws_szAsked_ok 5 false h fun szAsked h =>
 rg <| cdD 1 h (fun h =>
 rg <| (retD h hc1 fun e => fn0 Try.func16 (hr1 _ e))) (fun h =>
 rg <| (nxtD h hc1 fun hI => sg [] [0, 1, 5] [] hI))) (fun h =>
 (brkD h hc1 fun e => sg [] [1] [] (hb1 _ e)))
noncomputable def laws_szAskedS (a : List TAsked) (left : Int) : Option Int :=
  (bif decide ((w64 (left - (a.length : Int))) < 0) then
 some (-1)
 else
 ((loop (fun s : Int × Int => laws_szAskedS_b1 a s.1 s.2) (w64 (left - (a.length : Int)), 0)).bind fun x => x.go (fun r => some r) fun s => laws_szAskedS_k2 s))
theorem laws_szAskedS_ok {a : List TAsked} {left : Int} (r : Int) (h : laws_szAskedS a left = some r) : ACalls cx.P 16 [vsl 3 eAsked a, vi left] (laws_szAskedS_R r) (laws_szAskedS_O r) :=
  ACalls.of (cx := cx) (X := laws_szAskedS_X) (c := laws_szAskedS_c) Try.func16 (by kernel_rfl) (by kernel_rfl) (by kernel_rfl) (P0 <|
 rg3 <| cdD 1 h (fun h =>
 rg <| fe Try.func16 h) (fun h =>
 rg <| loopJ h fun x hl hr hb => sg [] [0, 1, 5] [] (loopD (I := fun s : Int × Int => Fin cx laws_szAskedS_X (laws_szAskedS_R r) (laws_szAskedS_O r) laws_szAskedS_k3 (laws_szAskedS_S2 a s.1 s.2)) hl fun s st h hc => laws_szAskedS_b1_ok a _ _ x (fun s e => laws_szAskedS_k2_ok r s (hb s e)) (fun v e => ⟨congrArg laws_szAskedS_R (Option.some.inj (hr v e)).symm, congrArg laws_szAskedS_O (Option.some.inj (hr v e)).symm⟩) st hc s.1 s.2 h)))

/-! ### laws_szToldS -/
noncomputable def laws_szToldS_c : Code := bodyOf Try.f17
noncomputable def laws_szToldS_X : Sig := { f := 17, fn := Try.f17, rms := [.val [] []], oms := [none, none] }
noncomputable def laws_szToldS_R (r : Int) : V := vi r
noncomputable def laws_szToldS_O (r : Int) : List (Option V) := [none, none]
noncomputable def laws_szToldS_t (i : Nat) (fr : Bool) (r : Int) : Nat × Tell := (i, { a := .call [.val [some 5] [], .val [] []] fr (laws_szToldS_R r) (laws_szToldS_O r) })
noncomputable def laws_szToldS (a : List TTold) (left : Int) : Option Int :=
  (bif decide ((w64 (left - (a.length : Int))) < 0) then
 some (-1)
 else
 some (w64 (left - (a.length : Int))))
theorem laws_szToldS_ok {a : List TTold} {left : Int} (r : Int) (h : laws_szToldS a left = some r) : ACalls cx.P 17 [vsl 5 eTold a, vi left] (laws_szToldS_R r) (laws_szToldS_O r) :=
  ACalls.of (cx := cx) (X := laws_szToldS_X) (c := laws_szToldS_c) Try.func17 (by kernel_rfl) (by kernel_rfl) (by kernel_rfl) (P0 <|
 rg3 <| cdD 1 h (fun h =>
 rg <| fe Try.func17 h) (fun h =>
 rg <| fe Try.func17 h))

/-! ### laws_szWorld -/
noncomputable def laws_szWorld_c : Code := bodyOf Try.f4
noncomputable def laws_szWorld_X : Sig := { f := 4, fn := Try.f4, rms := [.val [] []], oms := [none, none] }
noncomputable def laws_szWorld_R (r : Int) : V := vi r
noncomputable def laws_szWorld_O (r : Int) : List (Option V) := [none, none]
noncomputable def laws_szWorld_t (i : Nat) (fr : Bool) (r : Int) : Nat × Tell := (i, { a := .call [.val ck27 [], .val [] []] fr (laws_szWorld_R r) (laws_szWorld_O r) })
noncomputable def laws_szWorld (a : TWorld) (left : Int) : Option Int :=
  ((laws_szNodeS a.Nodes left).bind fun szNodeS =>
 (bif decide (szNodeS < 0) then
 some (-1)
 else
 ((laws_szMsgS a.Net szNodeS).bind fun szMsgS =>
 (bif decide (szMsgS < 0) then
 some (-1)
 else
 ((laws_szAskedS a.Asked szMsgS).bind fun szAskedS =>
 (bif decide (szAskedS < 0) then
 some (-1)
 else
 ((laws_szToldS a.Told szAskedS).bind fun szToldS =>
 (bif decide (szToldS < 0) then
 some (-1)
 else
 some szToldS))))))))
theorem laws_szWorld_ok {a : TWorld} {left : Int} (r : Int) (h : laws_szWorld a left = some r) : ACalls cx.P 4 [.agg (eWorld a), vi left] (laws_szWorld_R r) (laws_szWorld_O r) :=
  ACalls.of (cx := cx) (X := laws_szWorld_X) (c := laws_szWorld_c) Try.func4 (by kernel_rfl) (by kernel_rfl) (by kernel_rfl) (P0 <|
 rg2 <| cb laws_szNodeS_t laws_szNodeS_ok 3 false h fun szNodeS h =>
 rg <| cdD 1 h (fun h =>
 rg <| fe Try.func4 h) (fun h =>
 rg <| cb laws_szMsgS_t laws_szMsgS_ok 3 false h fun szMsgS h =>
 rg <| cdD 1 h (fun h =>
 rg <| fe Try.func4 h) (fun h =>
 rg <| cb laws_szAskedS_t laws_szAskedS_ok 3 false h fun szAskedS h =>
 rg <| cdD 1 h (fun h =>
 rg <| fe Try.func4 h) (fun h =>
 rg <| cb laws_szToldS_t laws_szToldS_ok 3 false h fun szToldS h =>
 rg <| cdD 1 h (fun h =>
 rg <| fe Try.func4 h) (fun h =>
 rg <| fe Try.func4 h)))))

/-! ### laws_toReq -/
noncomputable def laws_toReq_c : Code := bodyOf Try.f7
noncomputable def laws_toReq_X : Sig := { f := 7, fn := Try.f7, rms := [.val [] []], oms := [none] }
noncomputable def laws_toReq_R (r : TReq) : V := .agg (eReq r)
noncomputable def laws_toReq_O (r : TReq) : List (Option V) := [none]
noncomputable def laws_toReq_t (i : Nat) (fr : Bool) (r : TReq) : Nat × Tell := (i, { a := .call [.val [] []] fr (laws_toReq_R r) (laws_toReq_O r) })
noncomputable def laws_toReq (a : TReq) : Option TReq :=
  some a
theorem laws_toReq_ok {a : TReq} (r : TReq) (h : laws_toReq a = some r) : ACalls cx.P 7 [.agg (eReq a)] (laws_toReq_R r) (laws_toReq_O r) :=
  ACalls.of (cx := cx) (X := laws_toReq_X) (c := laws_toReq_c) Try.func7 (by kernel_rfl) (by kernel_rfl) (by kernel_rfl) (P0 <|
 rg4 <| rg <| fe Try.func7 h)

/-! ### laws_toRead -/
noncomputable def laws_toRead_c : Code := bodyOf Try.f79
noncomputable def laws_toRead_X : Sig := { f := 79, fn := Try.f79, rms := [.val [] []], oms := [none] }
noncomputable def laws_toRead_R (r : TRead) : V := .agg (eRead r)
noncomputable def laws_toRead_O (r : TRead) : List (Option V) := [none]
noncomputable def laws_toRead_t (i : Nat) (fr : Bool) (r : TRead) : Nat × Tell := (i, { a := .call [.val [] []] fr (laws_toRead_R r) (laws_toRead_O r) })
noncomputable def laws_toRead (a : TRead) : Option TRead :=
  some a
theorem laws_toRead_ok {a : TRead} (r : TRead) (h : laws_toRead a = some r) : ACalls cx.P 79 [.agg (eRead a)] (laws_toRead_R r) (laws_toRead_O r) :=
  ACalls.of (cx := cx) (X := laws_toRead_X) (c := laws_toRead_c) Try.func79 (by kernel_rfl) (by kernel_rfl) (by kernel_rfl) (P0 <|
 rg4 <| rg <| fe Try.func79 h)

/-! ### laws_toReadS -/
noncomputable def laws_toReadS_c : Code := bodyOf Try.f75
noncomputable def laws_toReadS_X : Sig := { f := 75, fn := Try.f75, rms := [.val [some 2] [some 142]], oms := [none] }
noncomputable def laws_toReadS_R (r : List TRead) : V := vosl 142 2 eRead r
noncomputable def laws_toReadS_O (r : List TRead) : List (Option V) := [none]
noncomputable def laws_toReadS_t (i : Nat) (fr : Bool) (r : List TRead) : Nat × Tell := (i, { a := .call [.val [some 2] []] fr (laws_toReadS_R r) (laws_toReadS_O r) })
noncomputable def laws_toReadS_k1 : List Item := posI 2000 4 [false] [.code laws_toReadS_c]
noncomputable def laws_toReadS_S1 (out1 : List TRead) : St := ⟨(bs 3 (.own 1 0 2 0 out1.length :: (bs 19 []))), [some [], some [erow 142 2 eRead out1]]⟩
noncomputable def laws_toReadS_k2 (out1 : List TRead) : Option (List TRead) :=
  some out1
theorem laws_toReadS_k2_ok (r : List TRead) (out1 : List TRead) (h : laws_toReadS_k2 out1 = some r) : Fin cx laws_toReadS_X (laws_toReadS_R r) (laws_toReadS_O r) laws_toReadS_k1 (laws_toReadS_S1 out1) :=
  P0 <|
 rg <| om (out1.length = out1.length) rfl <| fe Try.func75 h
noncomputable def laws_toReadS_k3 : List Item := posI 2000 3 [] [.code laws_toReadS_c]
noncomputable def laws_toReadS_S2 (a : List TRead) (out : List TRead) (i : Int) : St := ⟨(vsl 2 eRead a :: (bs 2 (.own 1 0 2 0 out.length :: (vi i :: (bs 18 []))))), [some [], some [erow 142 2 eRead out]]⟩
noncomputable def laws_toReadS_b1 (a : List TRead) (out : List TRead) (i : Int) : Option (Stp (List TRead) ((List TRead) × Int) (List TRead)) :=
  (bif decide (i < (a.length : Int)) then
 ((idx a i).bind fun read =>
 ((laws_toRead read).bind fun toRead =>
 ((idx out i).bind fun read1 =>
 some (Stp.nxt (out.set i.toNat toRead, w64 (i + 1))))))
 else
 some (Stp.brk out))
theorem laws_toReadS_b1_ok (a : List TRead) (res : V) (outs : List (Option V)) (x1 : Exc (List TRead) (List TRead)) (hb1 : HB cx laws_toReadS_X res outs x1 laws_toReadS_k1 laws_toReadS_S1) (hr1 : HR res outs x1 laws_toReadS_R laws_toReadS_O) (st1 : Stp (List TRead) ((List TRead) × Int) (List TRead)) (hc1 : Cont x1 (fun s : (List TRead) × Int => Fin cx laws_toReadS_X res outs laws_toReadS_k3 (laws_toReadS_S2 a s.1 s.2)) st1) (out : List TRead) (i : Int) (h : laws_toReadS_b1 a out i = some st1) : Fin cx laws_toReadS_X res outs laws_toReadS_k3 (laws_toReadS_S2 a out i) :=
  P0 <|
 rg <| cdD 3 h (fun h =>
 rg <| ixS eRead 4 h fun read hread h =>
 cb laws_toRead_t laws_toRead_ok 6 false h fun toRead h =>
 bindD h fun read1 hread1 h =>
 ixB hread1 <| stR 142 2 eRead 8 [] toRead hread1 <| rg <| (nxtD h hc1 fun hI => om ((.own 1 0 2 0 out.length : V) = .own 1 0 2 0 (out.set i.toNat toRead).length) (by simp) <| sg [.is (.tmp 3) (.own 1 0 2 0 (out.set i.toNat toRead).length)] [0, 3, 4] [(1, 0)] hI)) (fun h =>
 (brkD h hc1 fun e => sg [] [3] [(1, 0)] (hb1 _ e)))
noncomputable def laws_toReadS (a : List TRead) : Option (List TRead) :=
  (need (0 ≤ (a.length : Int) ∧ (a.length : Int) * 16 ≤ 140737488355328)
 (((loop (fun s : (List TRead) × Int => laws_toReadS_b1 a s.1 s.2) (List.replicate (a.length : Int).toNat (TRead.mk 0 0), 0)).bind fun x => x.go (fun r => some r) fun s => laws_toReadS_k2 s)))
theorem laws_toReadS_ok {a : List TRead} (r : List TRead) (h : laws_toReadS a = some r) : ACalls cx.P 75 [vsl 2 eRead a] (laws_toReadS_R r) (laws_toReadS_O r) :=
  ACalls.of (cx := cx) (X := laws_toReadS_X) (c := laws_toReadS_c) Try.func75 (by kernel_rfl) (by kernel_rfl) (by kernel_rfl) (P0 <|
 rg2 <| needD h fun e1 h =>
 mkS 2 4 142 2 16 eRead (TRead.mk 0 0) ti142 (.none) e1 (by decide) (by rfl) <| rg <| loopJ h fun x hl hr hb => sg [] [0, 3, 4] [(4, 0)] (loopD (I := fun s : (List TRead) × Int => Fin cx laws_toReadS_X (laws_toReadS_R r) (laws_toReadS_O r) laws_toReadS_k3 (laws_toReadS_S2 a s.1 s.2)) hl fun s st h hc => laws_toReadS_b1_ok a _ _ x (fun s e => laws_toReadS_k2_ok r s (hb s e)) (fun v e => ⟨congrArg laws_toReadS_R (Option.some.inj (hr v e)).symm, congrArg laws_toReadS_O (Option.some.inj (hr v e)).symm⟩) st hc s.1 s.2 h))

/-! ### laws_toPut -/
noncomputable def laws_toPut_c : Code := bodyOf Try.f80
noncomputable def laws_toPut_X : Sig := { f := 80, fn := Try.f80, rms := [.val [] []], oms := [none] }
noncomputable def laws_toPut_R (r : TPut) : V := .agg (ePut r)
noncomputable def laws_toPut_O (r : TPut) : List (Option V) := [none]
noncomputable def laws_toPut_t (i : Nat) (fr : Bool) (r : TPut) : Nat × Tell := (i, { a := .call [.val [] []] fr (laws_toPut_R r) (laws_toPut_O r) })
noncomputable def laws_toPut (a : TPut) : Option TPut :=
  some a
theorem laws_toPut_ok {a : TPut} (r : TPut) (h : laws_toPut a = some r) : ACalls cx.P 80 [.agg (ePut a)] (laws_toPut_R r) (laws_toPut_O r) :=
  ACalls.of (cx := cx) (X := laws_toPut_X) (c := laws_toPut_c) Try.func80 (by kernel_rfl) (by kernel_rfl) (by kernel_rfl) (P0 <|
 rg4 <| rg <| fe Try.func80 h)

/-! ### laws_toPutS -/
noncomputable def laws_toPutS_c : Code := bodyOf Try.f76
noncomputable def laws_toPutS_X : Sig := { f := 76, fn := Try.f76, rms := [.val [some 2] [some 144]], oms := [none] }
noncomputable def laws_toPutS_R (r : List TPut) : V := vosl 144 2 ePut r
noncomputable def laws_toPutS_O (r : List TPut) : List (Option V) := [none]
noncomputable def laws_toPutS_t (i : Nat) (fr : Bool) (r : List TPut) : Nat × Tell := (i, { a := .call [.val [some 2] []] fr (laws_toPutS_R r) (laws_toPutS_O r) })
noncomputable def laws_toPutS_k1 : List Item := posI 2000 4 [false] [.code laws_toPutS_c]
noncomputable def laws_toPutS_S1 (out1 : List TPut) : St := ⟨(bs 3 (.own 1 0 2 0 out1.length :: (bs 19 []))), [some [], some [erow 144 2 ePut out1]]⟩
noncomputable def laws_toPutS_k2 (out1 : List TPut) : Option (List TPut) :=
  some out1
theorem laws_toPutS_k2_ok (r : List TPut) (out1 : List TPut) (h : laws_toPutS_k2 out1 = some r) : Fin cx laws_toPutS_X (laws_toPutS_R r) (laws_toPutS_O r) laws_toPutS_k1 (laws_toPutS_S1 out1) :=
  P0 <|
 rg <| om (out1.length = out1.length) rfl <| fe Try.func76 h
noncomputable def laws_toPutS_k3 : List Item := posI 2000 3 [] [.code laws_toPutS_c]
noncomputable def laws_toPutS_S2 (a : List TPut) (out : List TPut) (i : Int) : St := ⟨(vsl 2 ePut a :: (bs 2 (.own 1 0 2 0 out.length :: (vi i :: (bs 18 []))))), [some [], some [erow 144 2 ePut out]]⟩
noncomputable def laws_toPutS_b1 (a : List TPut) (out : List TPut) (i : Int) : Option (Stp (List TPut) ((List TPut) × Int) (List TPut)) :=
  (bif decide (i < (a.length : Int)) then
 ((idx a i).bind fun put =>
 ((laws_toPut put).bind fun toPut =>
 ((idx out i).bind fun put1 =>
 some (Stp.nxt (out.set i.toNat toPut, w64 (i + 1))))))
 else
 some (Stp.brk out))
theorem laws_toPutS_b1_ok (a : List TPut) (res : V) (outs : List (Option V)) (x1 : Exc (List TPut) (List TPut)) (hb1 : HB cx laws_toPutS_X res outs x1 laws_toPutS_k1 laws_toPutS_S1) (hr1 : HR res outs x1 laws_toPutS_R laws_toPutS_O) (st1 : Stp (List TPut) ((List TPut) × Int) (List TPut)) (hc1 : Cont x1 (fun s : (List TPut) × Int => Fin cx laws_toPutS_X res outs laws_toPutS_k3 (laws_toPutS_S2 a s.1 s.2)) st1) (out : List TPut) (i : Int) (h : laws_toPutS_b1 a out i = some st1) : Fin cx laws_toPutS_X res outs laws_toPutS_k3 (laws_toPutS_S2 a out i) :=
  P0 <|
 rg <| cdD 3 h (fun h =>
 rg <| ixS ePut 4 h fun put hput h =>
 cb laws_toPut_t laws_toPut_ok 6 false h fun toPut h =>
 bindD h fun put1 hput1 h =>
 ixB hput1 <| stR 144 2 ePut 8 [] toPut hput1 <| rg <| (nxtD h hc1 fun hI => om ((.own 1 0 2 0 out.length : V) = .own 1 0 2 0 (out.set i.toNat toPut).length) (by simp) <| sg [.is (.tmp 3) (.own 1 0 2 0 (out.set i.toNat toPut).length)] [0, 3, 4] [(1, 0)] hI)) (fun h =>
 (brkD h hc1 fun e => sg [] [3] [(1, 0)] (hb1 _ e)))
noncomputable def laws_toPutS (a : List TPut) : Option (List TPut) :=
  (need (0 ≤ (a.length : Int) ∧ (a.length : Int) * 16 ≤ 140737488355328)
 (((loop (fun s : (List TPut) × Int => laws_toPutS_b1 a s.1 s.2) (List.replicate (a.length : Int).toNat (TPut.mk 0 0), 0)).bind fun x => x.go (fun r => some r) fun s => laws_toPutS_k2 s)))
theorem laws_toPutS_ok {a : List TPut} (r : List TPut) (h : laws_toPutS a = some r) : ACalls cx.P 76 [vsl 2 ePut a] (laws_toPutS_R r) (laws_toPutS_O r) :=
  ACalls.of (cx := cx) (X := laws_toPutS_X) (c := laws_toPutS_c) Try.func76 (by kernel_rfl) (by kernel_rfl) (by kernel_rfl) (P0 <|
 rg2 <| needD h fun e1 h =>
 mkS 2 4 144 2 16 ePut (TPut.mk 0 0) ti144 (.none) e1 (by decide) (by rfl) <| rg <| loopJ h fun x hl hr hb => sg [] [0, 3, 4] [(4, 0)] (loopD (I := fun s : (List TPut) × Int => Fin cx laws_toPutS_X (laws_toPutS_R r) (laws_toPutS_O r) laws_toPutS_k3 (laws_toPutS_S2 a s.1 s.2)) hl fun s st h hc => laws_toPutS_b1_ok a _ _ x (fun s e => laws_toPutS_k2_ok r s (hb s e)) (fun v e => ⟨congrArg laws_toPutS_R (Option.some.inj (hr v e)).symm, congrArg laws_toPutS_O (Option.some.inj (hr v e)).symm⟩) st hc s.1 s.2 h))

/-! ### laws_toRun -/
noncomputable def laws_toRun_c : Code := bodyOf Try.f69
noncomputable def laws_toRun_X : Sig := { f := 69, fn := Try.f69, rms := [.val ck98 [some 142, some 144, none, none]], oms := [none] }
noncomputable def laws_toRun_R (r : TRun) : V := .agg [vosl 142 2 eRead r.Reads, vosl 144 2 ePut r.Puts, vi r.Val, vi r.Code]
noncomputable def laws_toRun_O (r : TRun) : List (Option V) := [none]
noncomputable def laws_toRun_t (i : Nat) (fr : Bool) (r : TRun) : Nat × Tell := (i, { a := .call [.val ck79 []] fr (laws_toRun_R r) (laws_toRun_O r) })
noncomputable def laws_toRun (a : TRun) : Option TRun :=
  ((laws_toReadS a.Reads).bind fun toReadS =>
 ((laws_toPutS a.Puts).bind fun toPutS =>
 some (TRun.mk toReadS toPutS a.Val a.Code)))
theorem laws_toRun_ok {a : TRun} (r : TRun) (h : laws_toRun a = some r) : ACalls cx.P 69 [.agg (eRun a)] (laws_toRun_R r) (laws_toRun_O r) :=
  ACalls.of (cx := cx) (X := laws_toRun_X) (c := laws_toRun_c) Try.func69 (by kernel_rfl) (by kernel_rfl) (by kernel_rfl) (P0 <|
 rg3 <| cb laws_toReadS_t laws_toReadS_ok 2 false h fun toReadS h =>
 rg <| cb laws_toPutS_t laws_toPutS_ok 2 false h fun toPutS h =>
 rg3 <| om (toReadS.length = toReadS.length) rfl <| om (toPutS.length = toPutS.length) rfl <| fe Try.func69 h)

/-! ### laws_toEntry -/
noncomputable def laws_toEntry_c : Code := bodyOf Try.f58
noncomputable def laws_toEntry_X : Sig := { f := 58, fn := Try.f58, rms := [.val ck100 [none, none, none, some 142, some 144, none, none]], oms := [none] }
noncomputable def laws_toEntry_R (r : TEntry) : V := .agg [.b r.None, vi r.Req.Who, vi r.Req.Seq, vosl 142 2 eRead r.Run.Reads, vosl 144 2 ePut r.Run.Puts, vi r.Run.Val, vi r.Run.Code]
noncomputable def laws_toEntry_O (r : TEntry) : List (Option V) := [none]
noncomputable def laws_toEntry_t (i : Nat) (fr : Bool) (r : TEntry) : Nat × Tell := (i, { a := .call [.val ck81 []] fr (laws_toEntry_R r) (laws_toEntry_O r) })
noncomputable def laws_toEntry (a : TEntry) : Option TEntry :=
  ((laws_toReq a.Req).bind fun toReq =>
 ((laws_toRun a.Run).bind fun toRun =>
 some (TEntry.mk a.None toReq toRun)))
theorem laws_toEntry_ok {a : TEntry} (r : TEntry) (h : laws_toEntry a = some r) : ACalls cx.P 58 [.agg (eEntry a)] (laws_toEntry_R r) (laws_toEntry_O r) :=
  ACalls.of (cx := cx) (X := laws_toEntry_X) (c := laws_toEntry_c) Try.func58 (by kernel_rfl) (by kernel_rfl) (by kernel_rfl) (P0 <|
 rg4 <| cb laws_toReq_t laws_toReq_ok 2 false h fun toReq h =>
 rg <| cb laws_toRun_t laws_toRun_ok 2 false h fun toRun h =>
 rg <| om (toRun.Reads.length = toRun.Reads.length) rfl <| om (toRun.Puts.length = toRun.Puts.length) rfl <| fe Try.func58 h)

/-! ### laws_toVote -/
noncomputable def laws_toVote_c : Code := bodyOf Try.f68
noncomputable def laws_toVote_X : Sig := { f := 68, fn := Try.f68, rms := [.val ck140 [none, none, none, none, some 142, some 144, none, none]], oms := [none] }
noncomputable def laws_toVote_R (r : TVote) : V := .agg [vi r.Bal, .b r.Entry.None, vi r.Entry.Req.Who, vi r.Entry.Req.Seq, vosl 142 2 eRead r.Entry.Run.Reads, vosl 144 2 ePut r.Entry.Run.Puts, vi r.Entry.Run.Val, vi r.Entry.Run.Code]
noncomputable def laws_toVote_O (r : TVote) : List (Option V) := [none]
noncomputable def laws_toVote_t (i : Nat) (fr : Bool) (r : TVote) : Nat × Tell := (i, { a := .call [.val ck147 []] fr (laws_toVote_R r) (laws_toVote_O r) })
noncomputable def laws_toVote (a : TVote) : Option TVote :=
  ((laws_toEntry a.Entry).bind fun toEntry =>
 some (TVote.mk a.Bal toEntry))
theorem laws_toVote_ok {a : TVote} (r : TVote) (h : laws_toVote a = some r) : ACalls cx.P 68 [.agg (eVote a)] (laws_toVote_R r) (laws_toVote_O r) :=
  ACalls.of (cx := cx) (X := laws_toVote_X) (c := laws_toVote_c) Try.func68 (by kernel_rfl) (by kernel_rfl) (by kernel_rfl) (P0 <|
 rg4 <| cb laws_toEntry_t laws_toEntry_ok 2 false h fun toEntry h =>
 rg <| om (toEntry.Run.Reads.length = toEntry.Run.Reads.length) rfl <| om (toEntry.Run.Puts.length = toEntry.Run.Puts.length) rfl <| fe Try.func68 h)

/-! ### laws_toVoteS -/
noncomputable def laws_toVoteS_c : Code := bodyOf Try.f57
noncomputable def laws_toVoteS_X : Sig := { f := 57, fn := Try.f57, rms := [.val [some 8] [some 1000140]], oms := [none] }
noncomputable def laws_toVoteS_R (r : List TVote) : V := vdsl 140 8 eVote_1 r
noncomputable def laws_toVoteS_O (r : List TVote) : List (Option V) := [none]
noncomputable def laws_toVoteS_t (i : Nat) (fr : Bool) (r : List TVote) : Nat × Tell := (i, { a := .call [.val [some 8] []] fr (laws_toVoteS_R r) (laws_toVoteS_O r) })
noncomputable def laws_toVoteS_k1 : List Item := posI 2000 4 [false] [.code laws_toVoteS_c]
noncomputable def laws_toVoteS_S1 (out1 : List TVote) : St := ⟨(bs 3 (.own 1 0 8 0 out1.length :: (bs 19 []))), [some [], some [edeep 140 8 eVote_1 out1]]⟩
noncomputable def laws_toVoteS_k2 (out1 : List TVote) : Option (List TVote) :=
  some out1
theorem laws_toVoteS_k2_ok (r : List TVote) (out1 : List TVote) (h : laws_toVoteS_k2 out1 = some r) : Fin cx laws_toVoteS_X (laws_toVoteS_R r) (laws_toVoteS_O r) laws_toVoteS_k1 (laws_toVoteS_S1 out1) :=
  P0 <|
 rg <| om (out1.length = out1.length) rfl <| fe Try.func57 h
noncomputable def laws_toVoteS_k3 : List Item := posI 2000 3 [] [.code laws_toVoteS_c]
noncomputable def laws_toVoteS_S2 (a : List TVote) (out : List TVote) (i : Int) : St := ⟨(vsl 8 eVote a :: (bs 2 (.own 1 0 8 0 out.length :: (vi i :: (bs 18 []))))), [some [], some [edeep 140 8 eVote_1 out]]⟩
noncomputable def laws_toVoteS_r1 (toVote : TVote) : List V := [vi toVote.Bal, .b toVote.Entry.None, vi toVote.Entry.Req.Who, vi toVote.Entry.Req.Seq, vosl 142 2 eRead toVote.Entry.Run.Reads, vosl 144 2 ePut toVote.Entry.Run.Puts, vi toVote.Entry.Run.Val, vi toVote.Entry.Run.Code]
noncomputable def laws_toVoteS_b1 (a : List TVote) (out : List TVote) (i : Int) : Option (Stp (List TVote) ((List TVote) × Int) (List TVote)) :=
  (bif decide (i < (a.length : Int)) then
 ((idx a i).bind fun vote =>
 ((laws_toVote vote).bind fun toVote =>
 ((idx out i).bind fun vote1 =>
 some (Stp.nxt (out.set i.toNat toVote, w64 (i + 1))))))
 else
 some (Stp.brk out))
theorem laws_toVoteS_b1_ok (a : List TVote) (res : V) (outs : List (Option V)) (x1 : Exc (List TVote) (List TVote)) (hb1 : HB cx laws_toVoteS_X res outs x1 laws_toVoteS_k1 laws_toVoteS_S1) (hr1 : HR res outs x1 laws_toVoteS_R laws_toVoteS_O) (st1 : Stp (List TVote) ((List TVote) × Int) (List TVote)) (hc1 : Cont x1 (fun s : (List TVote) × Int => Fin cx laws_toVoteS_X res outs laws_toVoteS_k3 (laws_toVoteS_S2 a s.1 s.2)) st1) (out : List TVote) (i : Int) (h : laws_toVoteS_b1 a out i = some st1) : Fin cx laws_toVoteS_X res outs laws_toVoteS_k3 (laws_toVoteS_S2 a out i) :=
  P0 <|
 rg <| cdD 3 h (fun h =>
 rg <| ixS eVote 4 h fun vote hvote h =>
 cb laws_toVote_t laws_toVote_ok 6 false h fun toVote h =>
 bindD h fun vote1 hvote1 h =>
 ixB hvote1 <| om (Ent.deep false 140 8 out.length ((out.map eVote_1).set (0 + i.toNat) (laws_toVoteS_r1 toVote)) = edeep 140 8 eVote_1 (out.set i.toNat toVote)) (deep_set0 rfl) <| ob (map_idx0 (enc := eVote_1) hvote1) <| om (toVote.Entry.Run.Reads.length = toVote.Entry.Run.Reads.length) rfl <| om (toVote.Entry.Run.Puts.length = toVote.Entry.Run.Puts.length) rfl <| tl (8, { a := .dst (eVote_1 vote1) [none, none, none, none, some 2, some 2, none, none] [none, none, none, none, some 142, some 144, none, none], e := some (edeep 140 8 eVote_1 (out.set i.toNat toVote)) }) <| rg <| (nxtD h hc1 fun hI => om ((.own 1 0 8 0 out.length : V) = .own 1 0 8 0 (out.set i.toNat toVote).length) (by simp) <| sg [.is (.tmp 3) (.own 1 0 8 0 (out.set i.toNat toVote).length)] [0, 3, 4] [(1, 0)] hI)) (fun h =>
 (brkD h hc1 fun e => sg [] [3] [(1, 0)] (hb1 _ e)))
noncomputable def laws_toVoteS (a : List TVote) : Option (List TVote) :=
  (need (0 ≤ (a.length : Int) ∧ (a.length : Int) * 96 ≤ 140737488355328)
 (((loop (fun s : (List TVote) × Int => laws_toVoteS_b1 a s.1 s.2) (List.replicate (a.length : Int).toNat (TVote.mk 0 (TEntry.mk false (TReq.mk 0 0) (TRun.mk [] [] 0 0))), 0)).bind fun x => x.go (fun r => some r) fun s => laws_toVoteS_k2 s)))
theorem laws_toVoteS_ok {a : List TVote} (r : List TVote) (h : laws_toVoteS a = some r) : ACalls cx.P 57 [vsl 8 eVote a] (laws_toVoteS_R r) (laws_toVoteS_O r) :=
  ACalls.of (cx := cx) (X := laws_toVoteS_X) (c := laws_toVoteS_c) Try.func57 (by kernel_rfl) (by kernel_rfl) (by kernel_rfl) (P0 <|
 rg2 <| needD h fun e1 h =>
 om (V.own 4 0 8 0 (a.length : Int).toNat = .own 4 0 8 0 (List.replicate (a.length : Int).toNat (TVote.mk 0 (TEntry.mk false (TReq.mk 0 0) (TRun.mk [] [] 0 0)))).length) (by simp) <| om (Ent.deep false 140 8 (a.length : Int).toNat (List.replicate (a.length : Int).toNat [vi 0, .b false, vi 0, vi 0, .osl 142 2 0 [], .osl 144 2 0 [], vi 0, vi 0]) = edeep 140 8 eVote_1 (List.replicate (a.length : Int).toNat (TVote.mk 0 (TEntry.mk false (TReq.mk 0 0) (TRun.mk [] [] 0 0))))) (deep_rep rfl) <| ob e1.1 <| om ((a.length : Int) = (a.length : Int)) rfl <| om ((a.length : Int) * ((96 : Nat) : Int) ≤ 140737488355328 ∧ 0 < 96) ⟨e1.2, by decide⟩ <| om (([vi 0, .b false, vi 0, vi 0, .nil, .nil, vi 0, vi 0] : List V).length = 8) rfl <| tl (2, { a := .dck [none, none, none, none, some 2, some 2, none, none] [none, none, none, none, some 142, some 144, none, none], e := some (edeep 140 8 eVote_1 (List.replicate (a.length : Int).toNat (TVote.mk 0 (TEntry.mk false (TReq.mk 0 0) (TRun.mk [] [] 0 0))))), v := some (.own 4 0 8 0 (List.replicate (a.length : Int).toNat (TVote.mk 0 (TEntry.mk false (TReq.mk 0 0) (TRun.mk [] [] 0 0)))).length) }) <| rg <| loopJ h fun x hl hr hb => sg [] [0, 3, 4] [(4, 0)] (loopD (I := fun s : (List TVote) × Int => Fin cx laws_toVoteS_X (laws_toVoteS_R r) (laws_toVoteS_O r) laws_toVoteS_k3 (laws_toVoteS_S2 a s.1 s.2)) hl fun s st h hc => laws_toVoteS_b1_ok a _ _ x (fun s e => laws_toVoteS_k2_ok r s (hb s e)) (fun v e => ⟨congrArg laws_toVoteS_R (Option.some.inj (hr v e)).symm, congrArg laws_toVoteS_O (Option.some.inj (hr v e)).symm⟩) st hc s.1 s.2 h))

/-! ### laws_toAcc -/
noncomputable def laws_toAcc_c : Code := bodyOf Try.f54
noncomputable def laws_toAcc_X : Sig := { f := 54, fn := Try.f54, rms := [.val [none, some 8] [none, some 1000140]], oms := [none] }
noncomputable def laws_toAcc_R (r : TAcc) : V := .agg [vi r.Promised, vdsl 140 8 eVote_1 r.Votes]
noncomputable def laws_toAcc_O (r : TAcc) : List (Option V) := [none]
noncomputable def laws_toAcc_t (i : Nat) (fr : Bool) (r : TAcc) : Nat × Tell := (i, { a := .call [.val [none, some 8] []] fr (laws_toAcc_R r) (laws_toAcc_O r) })
noncomputable def laws_toAcc (a : TAcc) : Option TAcc :=
  ((laws_toVoteS a.Votes).bind fun toVoteS =>
 some (TAcc.mk a.Promised toVoteS))
theorem laws_toAcc_ok {a : TAcc} (r : TAcc) (h : laws_toAcc a = some r) : ACalls cx.P 54 [.agg (eAcc a)] (laws_toAcc_R r) (laws_toAcc_O r) :=
  ACalls.of (cx := cx) (X := laws_toAcc_X) (c := laws_toAcc_c) Try.func54 (by kernel_rfl) (by kernel_rfl) (by kernel_rfl) (P0 <|
 rg4 <| cb laws_toVoteS_t laws_toVoteS_ok 2 false h fun toVoteS h =>
 rg <| om (toVoteS.length = toVoteS.length) rfl <| fe Try.func54 h)

/-! ### laws_toEntryS -/
noncomputable def laws_toEntryS_c : Code := bodyOf Try.f55
noncomputable def laws_toEntryS_X : Sig := { f := 55, fn := Try.f55, rms := [.val [some 7] [some 1000100]], oms := [none] }
noncomputable def laws_toEntryS_R (r : List TEntry) : V := vdsl 100 7 eEntry_1 r
noncomputable def laws_toEntryS_O (r : List TEntry) : List (Option V) := [none]
noncomputable def laws_toEntryS_t (i : Nat) (fr : Bool) (r : List TEntry) : Nat × Tell := (i, { a := .call [.val [some 7] []] fr (laws_toEntryS_R r) (laws_toEntryS_O r) })
noncomputable def laws_toEntryS_k1 : List Item := posI 2000 4 [false] [.code laws_toEntryS_c]
noncomputable def laws_toEntryS_S1 (out1 : List TEntry) : St := ⟨(bs 3 (.own 1 0 7 0 out1.length :: (bs 19 []))), [some [], some [edeep 100 7 eEntry_1 out1]]⟩
noncomputable def laws_toEntryS_k2 (out1 : List TEntry) : Option (List TEntry) :=
  some out1
theorem laws_toEntryS_k2_ok (r : List TEntry) (out1 : List TEntry) (h : laws_toEntryS_k2 out1 = some r) : Fin cx laws_toEntryS_X (laws_toEntryS_R r) (laws_toEntryS_O r) laws_toEntryS_k1 (laws_toEntryS_S1 out1) :=
  P0 <|
 rg <| om (out1.length = out1.length) rfl <| fe Try.func55 h
noncomputable def laws_toEntryS_k3 : List Item := posI 2000 3 [] [.code laws_toEntryS_c]
noncomputable def laws_toEntryS_S2 (a : List TEntry) (out : List TEntry) (i : Int) : St := ⟨(vsl 7 eEntry a :: (bs 2 (.own 1 0 7 0 out.length :: (vi i :: (bs 18 []))))), [some [], some [edeep 100 7 eEntry_1 out]]⟩
noncomputable def laws_toEntryS_r1 (toEntry : TEntry) : List V := [.b toEntry.None, vi toEntry.Req.Who, vi toEntry.Req.Seq, vosl 142 2 eRead toEntry.Run.Reads, vosl 144 2 ePut toEntry.Run.Puts, vi toEntry.Run.Val, vi toEntry.Run.Code]
noncomputable def laws_toEntryS_b1 (a : List TEntry) (out : List TEntry) (i : Int) : Option (Stp (List TEntry) ((List TEntry) × Int) (List TEntry)) :=
  (bif decide (i < (a.length : Int)) then
 ((idx a i).bind fun entry =>
 ((laws_toEntry entry).bind fun toEntry =>
 ((idx out i).bind fun entry1 =>
 some (Stp.nxt (out.set i.toNat toEntry, w64 (i + 1))))))
 else
 some (Stp.brk out))
theorem laws_toEntryS_b1_ok (a : List TEntry) (res : V) (outs : List (Option V)) (x1 : Exc (List TEntry) (List TEntry)) (hb1 : HB cx laws_toEntryS_X res outs x1 laws_toEntryS_k1 laws_toEntryS_S1) (hr1 : HR res outs x1 laws_toEntryS_R laws_toEntryS_O) (st1 : Stp (List TEntry) ((List TEntry) × Int) (List TEntry)) (hc1 : Cont x1 (fun s : (List TEntry) × Int => Fin cx laws_toEntryS_X res outs laws_toEntryS_k3 (laws_toEntryS_S2 a s.1 s.2)) st1) (out : List TEntry) (i : Int) (h : laws_toEntryS_b1 a out i = some st1) : Fin cx laws_toEntryS_X res outs laws_toEntryS_k3 (laws_toEntryS_S2 a out i) :=
  P0 <|
 rg <| cdD 3 h (fun h =>
 rg <| ixS eEntry 4 h fun entry hentry h =>
 cb laws_toEntry_t laws_toEntry_ok 6 false h fun toEntry h =>
 bindD h fun entry1 hentry1 h =>
 ixB hentry1 <| om (Ent.deep false 100 7 out.length ((out.map eEntry_1).set (0 + i.toNat) (laws_toEntryS_r1 toEntry)) = edeep 100 7 eEntry_1 (out.set i.toNat toEntry)) (deep_set0 rfl) <| ob (map_idx0 (enc := eEntry_1) hentry1) <| om (toEntry.Run.Reads.length = toEntry.Run.Reads.length) rfl <| om (toEntry.Run.Puts.length = toEntry.Run.Puts.length) rfl <| tl (8, { a := .dst (eEntry_1 entry1) [none, none, none, some 2, some 2, none, none] [none, none, none, some 142, some 144, none, none], e := some (edeep 100 7 eEntry_1 (out.set i.toNat toEntry)) }) <| rg <| (nxtD h hc1 fun hI => om ((.own 1 0 7 0 out.length : V) = .own 1 0 7 0 (out.set i.toNat toEntry).length) (by simp) <| sg [.is (.tmp 3) (.own 1 0 7 0 (out.set i.toNat toEntry).length)] [0, 3, 4] [(1, 0)] hI)) (fun h =>
 (brkD h hc1 fun e => sg [] [3] [(1, 0)] (hb1 _ e)))
noncomputable def laws_toEntryS (a : List TEntry) : Option (List TEntry) :=
  (need (0 ≤ (a.length : Int) ∧ (a.length : Int) * 88 ≤ 140737488355328)
 (((loop (fun s : (List TEntry) × Int => laws_toEntryS_b1 a s.1 s.2) (List.replicate (a.length : Int).toNat (TEntry.mk false (TReq.mk 0 0) (TRun.mk [] [] 0 0)), 0)).bind fun x => x.go (fun r => some r) fun s => laws_toEntryS_k2 s)))
theorem laws_toEntryS_ok {a : List TEntry} (r : List TEntry) (h : laws_toEntryS a = some r) : ACalls cx.P 55 [vsl 7 eEntry a] (laws_toEntryS_R r) (laws_toEntryS_O r) :=
  ACalls.of (cx := cx) (X := laws_toEntryS_X) (c := laws_toEntryS_c) Try.func55 (by kernel_rfl) (by kernel_rfl) (by kernel_rfl) (P0 <|
 rg2 <| needD h fun e1 h =>
 om (V.own 4 0 7 0 (a.length : Int).toNat = .own 4 0 7 0 (List.replicate (a.length : Int).toNat (TEntry.mk false (TReq.mk 0 0) (TRun.mk [] [] 0 0))).length) (by simp) <| om (Ent.deep false 100 7 (a.length : Int).toNat (List.replicate (a.length : Int).toNat [.b false, vi 0, vi 0, .osl 142 2 0 [], .osl 144 2 0 [], vi 0, vi 0]) = edeep 100 7 eEntry_1 (List.replicate (a.length : Int).toNat (TEntry.mk false (TReq.mk 0 0) (TRun.mk [] [] 0 0)))) (deep_rep rfl) <| ob e1.1 <| om ((a.length : Int) = (a.length : Int)) rfl <| om ((a.length : Int) * ((88 : Nat) : Int) ≤ 140737488355328 ∧ 0 < 88) ⟨e1.2, by decide⟩ <| om (([.b false, vi 0, vi 0, .nil, .nil, vi 0, vi 0] : List V).length = 7) rfl <| tl (2, { a := .dck [none, none, none, some 2, some 2, none, none] [none, none, none, some 142, some 144, none, none], e := some (edeep 100 7 eEntry_1 (List.replicate (a.length : Int).toNat (TEntry.mk false (TReq.mk 0 0) (TRun.mk [] [] 0 0)))), v := some (.own 4 0 7 0 (List.replicate (a.length : Int).toNat (TEntry.mk false (TReq.mk 0 0) (TRun.mk [] [] 0 0))).length) }) <| rg <| loopJ h fun x hl hr hb => sg [] [0, 3, 4] [(4, 0)] (loopD (I := fun s : (List TEntry) × Int => Fin cx laws_toEntryS_X (laws_toEntryS_R r) (laws_toEntryS_O r) laws_toEntryS_k3 (laws_toEntryS_S2 a s.1 s.2)) hl fun s st h hc => laws_toEntryS_b1_ok a _ _ x (fun s e => laws_toEntryS_k2_ok r s (hb s e)) (fun v e => ⟨congrArg laws_toEntryS_R (Option.some.inj (hr v e)).symm, congrArg laws_toEntryS_O (Option.some.inj (hr v e)).symm⟩) st hc s.1 s.2 h))

/-! ### laws_toBoolS -/
noncomputable def laws_toBoolS_c : Code := bodyOf Try.f56
noncomputable def laws_toBoolS_X : Sig := { f := 56, fn := Try.f56, rms := [.val [some 1] [some 4]], oms := [none] }
noncomputable def laws_toBoolS_R (r : List Bool) : V := vosl 4 1 eB r
noncomputable def laws_toBoolS_O (r : List Bool) : List (Option V) := [none]
noncomputable def laws_toBoolS_t (i : Nat) (fr : Bool) (r : List Bool) : Nat × Tell := (i, { a := .call [.val [some 1] []] fr (laws_toBoolS_R r) (laws_toBoolS_O r) })
noncomputable def laws_toBoolS_k1 : List Item := posI 2000 4 [false] [.code laws_toBoolS_c]
noncomputable def laws_toBoolS_S1 (out1 : List Bool) : St := ⟨(bs 3 (.own 1 0 1 0 out1.length :: (bs 18 []))), [some [], some [erow 4 1 eB out1]]⟩
noncomputable def laws_toBoolS_k2 (out1 : List Bool) : Option (List Bool) :=
  some out1
theorem laws_toBoolS_k2_ok (r : List Bool) (out1 : List Bool) (h : laws_toBoolS_k2 out1 = some r) : Fin cx laws_toBoolS_X (laws_toBoolS_R r) (laws_toBoolS_O r) laws_toBoolS_k1 (laws_toBoolS_S1 out1) :=
  P0 <|
 rg <| om (out1.length = out1.length) rfl <| fe Try.func56 h
noncomputable def laws_toBoolS_k3 : List Item := posI 2000 3 [] [.code laws_toBoolS_c]
noncomputable def laws_toBoolS_S2 (a : List Bool) (out : List Bool) (i : Int) : St := ⟨(vsl 1 eB a :: (bs 2 (.own 1 0 1 0 out.length :: (vi i :: (bs 17 []))))), [some [], some [erow 4 1 eB out]]⟩
noncomputable def laws_toBoolS_b1 (a : List Bool) (out : List Bool) (i : Int) : Option (Stp (List Bool) ((List Bool) × Int) (List Bool)) :=
  (bif decide (i < (a.length : Int)) then
 ((idx a i).bind fun y =>
 ((idx out i).bind fun y1 =>
 some (Stp.nxt (out.set i.toNat y, w64 (i + 1)))))
 else
 some (Stp.brk out))
theorem laws_toBoolS_b1_ok (a : List Bool) (res : V) (outs : List (Option V)) (x1 : Exc (List Bool) (List Bool)) (hb1 : HB cx laws_toBoolS_X res outs x1 laws_toBoolS_k1 laws_toBoolS_S1) (hr1 : HR res outs x1 laws_toBoolS_R laws_toBoolS_O) (st1 : Stp (List Bool) ((List Bool) × Int) (List Bool)) (hc1 : Cont x1 (fun s : (List Bool) × Int => Fin cx laws_toBoolS_X res outs laws_toBoolS_k3 (laws_toBoolS_S2 a s.1 s.2)) st1) (out : List Bool) (i : Int) (h : laws_toBoolS_b1 a out i = some st1) : Fin cx laws_toBoolS_X res outs laws_toBoolS_k3 (laws_toBoolS_S2 a out i) :=
  P0 <|
 rg <| cdD 3 h (fun h =>
 rg <| ixS eB 4 h fun y hy h =>
 bindD h fun y1 hy1 h =>
 ixB hy1 <| stR 4 1 eB 7 [] y hy1 <| rg <| (nxtD h hc1 fun hI => om ((.own 1 0 1 0 out.length : V) = .own 1 0 1 0 (out.set i.toNat y).length) (by simp) <| sg [.is (.tmp 3) (.own 1 0 1 0 (out.set i.toNat y).length)] [0, 3, 4] [(1, 0)] hI)) (fun h =>
 (brkD h hc1 fun e => sg [] [3] [(1, 0)] (hb1 _ e)))
noncomputable def laws_toBoolS (a : List Bool) : Option (List Bool) :=
  (need (0 ≤ (a.length : Int) ∧ (a.length : Int) * 1 ≤ 140737488355328)
 (((loop (fun s : (List Bool) × Int => laws_toBoolS_b1 a s.1 s.2) (List.replicate (a.length : Int).toNat false, 0)).bind fun x => x.go (fun r => some r) fun s => laws_toBoolS_k2 s)))
theorem laws_toBoolS_ok {a : List Bool} (r : List Bool) (h : laws_toBoolS a = some r) : ACalls cx.P 56 [vsl 1 eB a] (laws_toBoolS_R r) (laws_toBoolS_O r) :=
  ACalls.of (cx := cx) (X := laws_toBoolS_X) (c := laws_toBoolS_c) Try.func56 (by kernel_rfl) (by kernel_rfl) (by kernel_rfl) (P0 <|
 rg2 <| needD h fun e1 h =>
 mkS 2 4 4 1 1 eB false ti4 (.none) e1 (by decide) (by rfl) <| rg <| loopJ h fun x hl hr hb => sg [] [0, 3, 4] [(4, 0)] (loopD (I := fun s : (List Bool) × Int => Fin cx laws_toBoolS_X (laws_toBoolS_R r) (laws_toBoolS_O r) laws_toBoolS_k3 (laws_toBoolS_S2 a s.1 s.2)) hl fun s st h hc => laws_toBoolS_b1_ok a _ _ x (fun s e => laws_toBoolS_k2_ok r s (hb s e)) (fun v e => ⟨congrArg laws_toBoolS_R (Option.some.inj (hr v e)).symm, congrArg laws_toBoolS_O (Option.some.inj (hr v e)).symm⟩) st hc s.1 s.2 h))

/-! ### laws_toIns -/
noncomputable def laws_toIns_c : Code := bodyOf Try.f70
noncomputable def laws_toIns_X : Sig := { f := 70, fn := Try.f70, rms := [.val [] []], oms := [none] }
noncomputable def laws_toIns_R (r : TIns) : V := .agg (eIns r)
noncomputable def laws_toIns_O (r : TIns) : List (Option V) := [none]
noncomputable def laws_toIns_t (i : Nat) (fr : Bool) (r : TIns) : Nat × Tell := (i, { a := .call [.val [] []] fr (laws_toIns_R r) (laws_toIns_O r) })
noncomputable def laws_toIns (a : TIns) : Option TIns :=
  some a
theorem laws_toIns_ok {a : TIns} (r : TIns) (h : laws_toIns a = some r) : ACalls cx.P 70 [.agg (eIns a)] (laws_toIns_R r) (laws_toIns_O r) :=
  ACalls.of (cx := cx) (X := laws_toIns_X) (c := laws_toIns_c) Try.func70 (by kernel_rfl) (by kernel_rfl) (by kernel_rfl) (P0 <|
 rg4 <| rg3 <| fe Try.func70 h)

/-! ### laws_toInsS -/
noncomputable def laws_toInsS_c : Code := bodyOf Try.f59
noncomputable def laws_toInsS_X : Sig := { f := 59, fn := Try.f59, rms := [.val [some 4] [some 60]], oms := [none] }
noncomputable def laws_toInsS_R (r : List TIns) : V := vosl 60 4 eIns r
noncomputable def laws_toInsS_O (r : List TIns) : List (Option V) := [none]
noncomputable def laws_toInsS_t (i : Nat) (fr : Bool) (r : List TIns) : Nat × Tell := (i, { a := .call [.val [some 4] []] fr (laws_toInsS_R r) (laws_toInsS_O r) })
noncomputable def laws_toInsS_k1 : List Item := posI 2000 4 [false] [.code laws_toInsS_c]
noncomputable def laws_toInsS_S1 (out1 : List TIns) : St := ⟨(bs 3 (.own 1 0 4 0 out1.length :: (bs 19 []))), [some [], some [erow 60 4 eIns out1]]⟩
noncomputable def laws_toInsS_k2 (out1 : List TIns) : Option (List TIns) :=
  some out1
theorem laws_toInsS_k2_ok (r : List TIns) (out1 : List TIns) (h : laws_toInsS_k2 out1 = some r) : Fin cx laws_toInsS_X (laws_toInsS_R r) (laws_toInsS_O r) laws_toInsS_k1 (laws_toInsS_S1 out1) :=
  P0 <|
 rg <| om (out1.length = out1.length) rfl <| fe Try.func59 h
noncomputable def laws_toInsS_k3 : List Item := posI 2000 3 [] [.code laws_toInsS_c]
noncomputable def laws_toInsS_S2 (a : List TIns) (out : List TIns) (i : Int) : St := ⟨(vsl 4 eIns a :: (bs 2 (.own 1 0 4 0 out.length :: (vi i :: (bs 18 []))))), [some [], some [erow 60 4 eIns out]]⟩
noncomputable def laws_toInsS_b1 (a : List TIns) (out : List TIns) (i : Int) : Option (Stp (List TIns) ((List TIns) × Int) (List TIns)) :=
  (bif decide (i < (a.length : Int)) then
 ((idx a i).bind fun ins =>
 ((laws_toIns ins).bind fun toIns =>
 ((idx out i).bind fun ins1 =>
 some (Stp.nxt (out.set i.toNat toIns, w64 (i + 1))))))
 else
 some (Stp.brk out))
theorem laws_toInsS_b1_ok (a : List TIns) (res : V) (outs : List (Option V)) (x1 : Exc (List TIns) (List TIns)) (hb1 : HB cx laws_toInsS_X res outs x1 laws_toInsS_k1 laws_toInsS_S1) (hr1 : HR res outs x1 laws_toInsS_R laws_toInsS_O) (st1 : Stp (List TIns) ((List TIns) × Int) (List TIns)) (hc1 : Cont x1 (fun s : (List TIns) × Int => Fin cx laws_toInsS_X res outs laws_toInsS_k3 (laws_toInsS_S2 a s.1 s.2)) st1) (out : List TIns) (i : Int) (h : laws_toInsS_b1 a out i = some st1) : Fin cx laws_toInsS_X res outs laws_toInsS_k3 (laws_toInsS_S2 a out i) :=
  P0 <|
 rg <| cdD 3 h (fun h =>
 rg <| ixS eIns 4 h fun ins hins h =>
 cb laws_toIns_t laws_toIns_ok 6 false h fun toIns h =>
 bindD h fun ins1 hins1 h =>
 ixB hins1 <| stR 60 4 eIns 8 [] toIns hins1 <| rg <| (nxtD h hc1 fun hI => om ((.own 1 0 4 0 out.length : V) = .own 1 0 4 0 (out.set i.toNat toIns).length) (by simp) <| sg [.is (.tmp 3) (.own 1 0 4 0 (out.set i.toNat toIns).length)] [0, 3, 4] [(1, 0)] hI)) (fun h =>
 (brkD h hc1 fun e => sg [] [3] [(1, 0)] (hb1 _ e)))
noncomputable def laws_toInsS (a : List TIns) : Option (List TIns) :=
  (need (0 ≤ (a.length : Int) ∧ (a.length : Int) * 32 ≤ 140737488355328)
 (((loop (fun s : (List TIns) × Int => laws_toInsS_b1 a s.1 s.2) (List.replicate (a.length : Int).toNat (TIns.mk 0 0 0 0), 0)).bind fun x => x.go (fun r => some r) fun s => laws_toInsS_k2 s)))
theorem laws_toInsS_ok {a : List TIns} (r : List TIns) (h : laws_toInsS a = some r) : ACalls cx.P 59 [vsl 4 eIns a] (laws_toInsS_R r) (laws_toInsS_O r) :=
  ACalls.of (cx := cx) (X := laws_toInsS_X) (c := laws_toInsS_c) Try.func59 (by kernel_rfl) (by kernel_rfl) (by kernel_rfl) (P0 <|
 rg2 <| needD h fun e1 h =>
 mkS 2 4 60 4 32 eIns (TIns.mk 0 0 0 0) ti60 (.none) e1 (by decide) (by rfl) <| rg <| loopJ h fun x hl hr hb => sg [] [0, 3, 4] [(4, 0)] (loopD (I := fun s : (List TIns) × Int => Fin cx laws_toInsS_X (laws_toInsS_R r) (laws_toInsS_O r) laws_toInsS_k3 (laws_toInsS_S2 a s.1 s.2)) hl fun s st h hc => laws_toInsS_b1_ok a _ _ x (fun s e => laws_toInsS_k2_ok r s (hb s e)) (fun v e => ⟨congrArg laws_toInsS_R (Option.some.inj (hr v e)).symm, congrArg laws_toInsS_O (Option.some.inj (hr v e)).symm⟩) st hc s.1 s.2 h))

/-! ### laws_toNode -/
noncomputable def laws_toNode_c : Code := bodyOf Try.f35
noncomputable def laws_toNode_X : Sig := { f := 35, fn := Try.f35, rms := [.val ck102 [none, none, some 1000140, some 1000100, none, none, none, some 4, some 1000140, none, none, none, some 142, some 144, none, none, some 4, none, some 60, none, none, none, some 142, some 144, none, none, some 1000100]], oms := [none] }
noncomputable def laws_toNode_R (r : TNode) : V := .agg [vi r.Id, vi r.Acc.Promised, vdsl 140 8 eVote_1 r.Acc.Votes, vdsl 100 7 eEntry_1 r.Known, vi r.Seq, vi r.Phase, vi r.Bal, vosl 4 1 eB r.From, vdsl 140 8 eVote_1 r.Best, .b r.Cur.None, vi r.Cur.Req.Who, vi r.Cur.Req.Seq, vosl 142 2 eRead r.Cur.Run.Reads, vosl 144 2 ePut r.Cur.Run.Puts, vi r.Cur.Run.Val, vi r.Cur.Run.Code, vosl 4 1 eB r.Votes, .b r.Busy, vosl 60 4 eIns r.Prog, .b r.Want.None, vi r.Want.Req.Who, vi r.Want.Req.Seq, vosl 142 2 eRead r.Want.Run.Reads, vosl 144 2 ePut r.Want.Run.Puts, vi r.Want.Run.Val, vi r.Want.Run.Code, vdsl 100 7 eEntry_1 r.Queue]
noncomputable def laws_toNode_O (r : TNode) : List (Option V) := [none]
noncomputable def laws_toNode_t (i : Nat) (fr : Bool) (r : TNode) : Nat × Tell := (i, { a := .call [.val ck84 []] fr (laws_toNode_R r) (laws_toNode_O r) })
noncomputable def laws_toNode (a : TNode) : Option TNode :=
  ((laws_toAcc a.Acc).bind fun toAcc =>
 ((laws_toEntryS a.Known).bind fun toEntryS =>
 ((laws_toBoolS a.From).bind fun toBoolS =>
 ((laws_toVoteS a.Best).bind fun toVoteS =>
 ((laws_toEntry a.Cur).bind fun toEntry =>
 ((laws_toBoolS a.Votes).bind fun toBoolS1 =>
 ((laws_toInsS a.Prog).bind fun toInsS =>
 ((laws_toEntry a.Want).bind fun toEntry1 =>
 ((laws_toEntryS a.Queue).bind fun toEntryS1 =>
 some (TNode.mk a.Id toAcc toEntryS a.Seq a.Phase a.Bal toBoolS toVoteS toEntry toBoolS1 a.Busy toInsS toEntry1 toEntryS1))))))))))
theorem laws_toNode_ok {a : TNode} (r : TNode) (h : laws_toNode a = some r) : ACalls cx.P 35 [.agg (eNode a)] (laws_toNode_R r) (laws_toNode_O r) :=
  ACalls.of (cx := cx) (X := laws_toNode_X) (c := laws_toNode_c) Try.func35 (by kernel_rfl) (by kernel_rfl) (by kernel_rfl) (P0 <|
 rg4 <| cb laws_toAcc_t laws_toAcc_ok 2 false h fun toAcc h =>
 rg <| cb laws_toEntryS_t laws_toEntryS_ok 2 false h fun toEntryS h =>
 rg4 <| cb laws_toBoolS_t laws_toBoolS_ok 2 false h fun toBoolS h =>
 rg <| cb laws_toVoteS_t laws_toVoteS_ok 2 false h fun toVoteS h =>
 rg <| cb laws_toEntry_t laws_toEntry_ok 2 false h fun toEntry h =>
 rg <| cb laws_toBoolS_t laws_toBoolS_ok 2 false h fun toBoolS1 h =>
 rg2 <| cb laws_toInsS_t laws_toInsS_ok 2 false h fun toInsS h =>
 rg <| cb laws_toEntry_t laws_toEntry_ok 2 false h fun toEntry1 h =>
 rg <| cb laws_toEntryS_t laws_toEntryS_ok 2 false h fun toEntryS1 h =>
 rg <| om (toAcc.Votes.length = toAcc.Votes.length) rfl <| om (toEntryS.length = toEntryS.length) rfl <| om (toBoolS.length = toBoolS.length) rfl <| om (toVoteS.length = toVoteS.length) rfl <| om (toEntry.Run.Reads.length = toEntry.Run.Reads.length) rfl <| om (toEntry.Run.Puts.length = toEntry.Run.Puts.length) rfl <| om (toBoolS1.length = toBoolS1.length) rfl <| om (toInsS.length = toInsS.length) rfl <| om (toEntry1.Run.Reads.length = toEntry1.Run.Reads.length) rfl <| om (toEntry1.Run.Puts.length = toEntry1.Run.Puts.length) rfl <| om (toEntryS1.length = toEntryS1.length) rfl <| fe Try.func35 h)

/-! ### laws_toNodeS -/
noncomputable def laws_toNodeS_c : Code := bodyOf Try.f18
noncomputable def laws_toNodeS_X : Sig := { f := 18, fn := Try.f18, rms := [.val [some 27] [some 1000102]], oms := [none] }
noncomputable def laws_toNodeS_R (r : List TNode) : V := vdsl 102 27 eNode_2 r
noncomputable def laws_toNodeS_O (r : List TNode) : List (Option V) := [none]
noncomputable def laws_toNodeS_t (i : Nat) (fr : Bool) (r : List TNode) : Nat × Tell := (i, { a := .call [.val [some 27] []] fr (laws_toNodeS_R r) (laws_toNodeS_O r) })
noncomputable def laws_toNodeS_k1 : List Item := posI 2000 4 [false] [.code laws_toNodeS_c]
noncomputable def laws_toNodeS_S1 (out1 : List TNode) : St := ⟨(bs 3 (.own 1 0 27 0 out1.length :: (bs 19 []))), [some [], some [edeep 102 27 eNode_2 out1]]⟩
noncomputable def laws_toNodeS_k2 (out1 : List TNode) : Option (List TNode) :=
  some out1
theorem laws_toNodeS_k2_ok (r : List TNode) (out1 : List TNode) (h : laws_toNodeS_k2 out1 = some r) : Fin cx laws_toNodeS_X (laws_toNodeS_R r) (laws_toNodeS_O r) laws_toNodeS_k1 (laws_toNodeS_S1 out1) :=
  P0 <|
 rg <| om (out1.length = out1.length) rfl <| fe Try.func18 h
noncomputable def laws_toNodeS_k3 : List Item := posI 2000 3 [] [.code laws_toNodeS_c]
noncomputable def laws_toNodeS_S2 (a : List TNode) (out : List TNode) (i : Int) : St := ⟨(vsl 27 eNode a :: (bs 2 (.own 1 0 27 0 out.length :: (vi i :: (bs 18 []))))), [some [], some [edeep 102 27 eNode_2 out]]⟩
noncomputable def laws_toNodeS_r1 (toNode : TNode) : List V := [vi toNode.Id, vi toNode.Acc.Promised, vdsl 140 8 eVote_1 toNode.Acc.Votes, vdsl 100 7 eEntry_1 toNode.Known, vi toNode.Seq, vi toNode.Phase, vi toNode.Bal, vosl 4 1 eB toNode.From, vdsl 140 8 eVote_1 toNode.Best, .b toNode.Cur.None, vi toNode.Cur.Req.Who, vi toNode.Cur.Req.Seq, vosl 142 2 eRead toNode.Cur.Run.Reads, vosl 144 2 ePut toNode.Cur.Run.Puts, vi toNode.Cur.Run.Val, vi toNode.Cur.Run.Code, vosl 4 1 eB toNode.Votes, .b toNode.Busy, vosl 60 4 eIns toNode.Prog, .b toNode.Want.None, vi toNode.Want.Req.Who, vi toNode.Want.Req.Seq, vosl 142 2 eRead toNode.Want.Run.Reads, vosl 144 2 ePut toNode.Want.Run.Puts, vi toNode.Want.Run.Val, vi toNode.Want.Run.Code, vdsl 100 7 eEntry_1 toNode.Queue]
noncomputable def laws_toNodeS_b1 (a : List TNode) (out : List TNode) (i : Int) : Option (Stp (List TNode) ((List TNode) × Int) (List TNode)) :=
  (bif decide (i < (a.length : Int)) then
 ((idx a i).bind fun node =>
 ((laws_toNode node).bind fun toNode =>
 ((idx out i).bind fun node1 =>
 some (Stp.nxt (out.set i.toNat toNode, w64 (i + 1))))))
 else
 some (Stp.brk out))
set_option maxRecDepth 20000 in
theorem laws_toNodeS_b1_ok (a : List TNode) (res : V) (outs : List (Option V)) (x1 : Exc (List TNode) (List TNode)) (hb1 : HB cx laws_toNodeS_X res outs x1 laws_toNodeS_k1 laws_toNodeS_S1) (hr1 : HR res outs x1 laws_toNodeS_R laws_toNodeS_O) (st1 : Stp (List TNode) ((List TNode) × Int) (List TNode)) (hc1 : Cont x1 (fun s : (List TNode) × Int => Fin cx laws_toNodeS_X res outs laws_toNodeS_k3 (laws_toNodeS_S2 a s.1 s.2)) st1) (out : List TNode) (i : Int) (h : laws_toNodeS_b1 a out i = some st1) : Fin cx laws_toNodeS_X res outs laws_toNodeS_k3 (laws_toNodeS_S2 a out i) :=
  P0 <|
 rg <| cdD 3 h (fun h =>
 rg <| ixS eNode 4 h fun node hnode h =>
 cb laws_toNode_t laws_toNode_ok 6 false h fun toNode h =>
 bindD h fun node1 hnode1 h =>
 ixB hnode1 <| om (Ent.deep false 102 27 out.length ((out.map eNode_2).set (0 + i.toNat) (laws_toNodeS_r1 toNode)) = edeep 102 27 eNode_2 (out.set i.toNat toNode)) (deep_set0 rfl) <| ob (map_idx0 (enc := eNode_2) hnode1) <| om (toNode.Acc.Votes.length = toNode.Acc.Votes.length) rfl <| om (toNode.Known.length = toNode.Known.length) rfl <| om (toNode.From.length = toNode.From.length) rfl <| om (toNode.Best.length = toNode.Best.length) rfl <| om (toNode.Cur.Run.Reads.length = toNode.Cur.Run.Reads.length) rfl <| om (toNode.Cur.Run.Puts.length = toNode.Cur.Run.Puts.length) rfl <| om (toNode.Votes.length = toNode.Votes.length) rfl <| om (toNode.Prog.length = toNode.Prog.length) rfl <| om (toNode.Want.Run.Reads.length = toNode.Want.Run.Reads.length) rfl <| om (toNode.Want.Run.Puts.length = toNode.Want.Run.Puts.length) rfl <| om (toNode.Queue.length = toNode.Queue.length) rfl <| tl (8, { a := .dst (eNode_2 node1) [none, none, some 8, some 7, none, none, none, some 1, some 8, none, none, none, some 2, some 2, none, none, some 1, none, some 4, none, none, none, some 2, some 2, none, none, some 7] [none, none, some 1000140, some 1000100, none, none, none, some 4, some 1000140, none, none, none, some 142, some 144, none, none, some 4, none, some 60, none, none, none, some 142, some 144, none, none, some 1000100], e := some (edeep 102 27 eNode_2 (out.set i.toNat toNode)) }) <| rg <| (nxtD h hc1 fun hI => om ((.own 1 0 27 0 out.length : V) = .own 1 0 27 0 (out.set i.toNat toNode).length) (by simp) <| sg [.is (.tmp 3) (.own 1 0 27 0 (out.set i.toNat toNode).length)] [0, 3, 4] [(1, 0)] hI)) (fun h =>
 (brkD h hc1 fun e => sg [] [3] [(1, 0)] (hb1 _ e)))
noncomputable def laws_toNodeS (a : List TNode) : Option (List TNode) :=
  (need (0 ≤ (a.length : Int) ∧ (a.length : Int) * 392 ≤ 140737488355328)
 (((loop (fun s : (List TNode) × Int => laws_toNodeS_b1 a s.1 s.2) (List.replicate (a.length : Int).toNat (TNode.mk 0 (TAcc.mk 0 []) [] 0 0 0 [] [] (TEntry.mk false (TReq.mk 0 0) (TRun.mk [] [] 0 0)) [] false [] (TEntry.mk false (TReq.mk 0 0) (TRun.mk [] [] 0 0)) []), 0)).bind fun x => x.go (fun r => some r) fun s => laws_toNodeS_k2 s)))
set_option maxRecDepth 20000 in
theorem laws_toNodeS_ok {a : List TNode} (r : List TNode) (h : laws_toNodeS a = some r) : ACalls cx.P 18 [vsl 27 eNode a] (laws_toNodeS_R r) (laws_toNodeS_O r) :=
  ACalls.of (cx := cx) (X := laws_toNodeS_X) (c := laws_toNodeS_c) Try.func18 (by kernel_rfl) (by kernel_rfl) (by kernel_rfl) (P0 <|
 rg2 <| needD h fun e1 h =>
 om (V.own 4 0 27 0 (a.length : Int).toNat = .own 4 0 27 0 (List.replicate (a.length : Int).toNat (TNode.mk 0 (TAcc.mk 0 []) [] 0 0 0 [] [] (TEntry.mk false (TReq.mk 0 0) (TRun.mk [] [] 0 0)) [] false [] (TEntry.mk false (TReq.mk 0 0) (TRun.mk [] [] 0 0)) [])).length) (by simp) <| om (Ent.deep false 102 27 (a.length : Int).toNat (List.replicate (a.length : Int).toNat [vi 0, vi 0, .dsl 140 8 0 [], .dsl 100 7 0 [], vi 0, vi 0, vi 0, .osl 4 1 0 [], .dsl 140 8 0 [], .b false, vi 0, vi 0, .osl 142 2 0 [], .osl 144 2 0 [], vi 0, vi 0, .osl 4 1 0 [], .b false, .osl 60 4 0 [], .b false, vi 0, vi 0, .osl 142 2 0 [], .osl 144 2 0 [], vi 0, vi 0, .dsl 100 7 0 []]) = edeep 102 27 eNode_2 (List.replicate (a.length : Int).toNat (TNode.mk 0 (TAcc.mk 0 []) [] 0 0 0 [] [] (TEntry.mk false (TReq.mk 0 0) (TRun.mk [] [] 0 0)) [] false [] (TEntry.mk false (TReq.mk 0 0) (TRun.mk [] [] 0 0)) []))) (deep_rep rfl) <| ob e1.1 <| om ((a.length : Int) = (a.length : Int)) rfl <| om ((a.length : Int) * ((392 : Nat) : Int) ≤ 140737488355328 ∧ 0 < 392) ⟨e1.2, by decide⟩ <| om (([vi 0, vi 0, .nil, .nil, vi 0, vi 0, vi 0, .nil, .nil, .b false, vi 0, vi 0, .nil, .nil, vi 0, vi 0, .nil, .b false, .nil, .b false, vi 0, vi 0, .nil, .nil, vi 0, vi 0, .nil] : List V).length = 27) rfl <| tl (2, { a := .dck [none, none, some 8, some 7, none, none, none, some 1, some 8, none, none, none, some 2, some 2, none, none, some 1, none, some 4, none, none, none, some 2, some 2, none, none, some 7] [none, none, some 1000140, some 1000100, none, none, none, some 4, some 1000140, none, none, none, some 142, some 144, none, none, some 4, none, some 60, none, none, none, some 142, some 144, none, none, some 1000100], e := some (edeep 102 27 eNode_2 (List.replicate (a.length : Int).toNat (TNode.mk 0 (TAcc.mk 0 []) [] 0 0 0 [] [] (TEntry.mk false (TReq.mk 0 0) (TRun.mk [] [] 0 0)) [] false [] (TEntry.mk false (TReq.mk 0 0) (TRun.mk [] [] 0 0)) []))), v := some (.own 4 0 27 0 (List.replicate (a.length : Int).toNat (TNode.mk 0 (TAcc.mk 0 []) [] 0 0 0 [] [] (TEntry.mk false (TReq.mk 0 0) (TRun.mk [] [] 0 0)) [] false [] (TEntry.mk false (TReq.mk 0 0) (TRun.mk [] [] 0 0)) [])).length) }) <| rg <| loopJ h fun x hl hr hb => sg [] [0, 3, 4] [(4, 0)] (loopD (I := fun s : (List TNode) × Int => Fin cx laws_toNodeS_X (laws_toNodeS_R r) (laws_toNodeS_O r) laws_toNodeS_k3 (laws_toNodeS_S2 a s.1 s.2)) hl fun s st h hc => laws_toNodeS_b1_ok a _ _ x (fun s e => laws_toNodeS_k2_ok r s (hb s e)) (fun v e => ⟨congrArg laws_toNodeS_R (Option.some.inj (hr v e)).symm, congrArg laws_toNodeS_O (Option.some.inj (hr v e)).symm⟩) st hc s.1 s.2 h))

/-! ### laws_toMsg -/
noncomputable def laws_toMsg_c : Code := bodyOf Try.f36
noncomputable def laws_toMsg_X : Sig := { f := 36, fn := Try.f36, rms := [.val ck105 [none, none, none, none, none, none, none, none, some 142, some 144, none, none, some 1000140]], oms := [none] }
noncomputable def laws_toMsg_R (r : TMsg) : V := .agg [vi r.Kind, vi r.From, vi r.To, vi r.Bal, vi r.Slot, .b r.Entry.None, vi r.Entry.Req.Who, vi r.Entry.Req.Seq, vosl 142 2 eRead r.Entry.Run.Reads, vosl 144 2 ePut r.Entry.Run.Puts, vi r.Entry.Run.Val, vi r.Entry.Run.Code, vdsl 140 8 eVote_1 r.Votes]
noncomputable def laws_toMsg_O (r : TMsg) : List (Option V) := [none]
noncomputable def laws_toMsg_t (i : Nat) (fr : Bool) (r : TMsg) : Nat × Tell := (i, { a := .call [.val ck87 []] fr (laws_toMsg_R r) (laws_toMsg_O r) })
noncomputable def laws_toMsg (a : TMsg) : Option TMsg :=
  ((laws_toEntry a.Entry).bind fun toEntry =>
 ((laws_toVoteS a.Votes).bind fun toVoteS =>
 some (TMsg.mk a.Kind a.From a.To a.Bal a.Slot toEntry toVoteS)))
theorem laws_toMsg_ok {a : TMsg} (r : TMsg) (h : laws_toMsg a = some r) : ACalls cx.P 36 [.agg (eMsg a)] (laws_toMsg_R r) (laws_toMsg_O r) :=
  ACalls.of (cx := cx) (X := laws_toMsg_X) (c := laws_toMsg_c) Try.func36 (by kernel_rfl) (by kernel_rfl) (by kernel_rfl) (P0 <|
 rg4 <| rg4 <| cb laws_toEntry_t laws_toEntry_ok 2 false h fun toEntry h =>
 rg <| cb laws_toVoteS_t laws_toVoteS_ok 2 false h fun toVoteS h =>
 rg <| om (toEntry.Run.Reads.length = toEntry.Run.Reads.length) rfl <| om (toEntry.Run.Puts.length = toEntry.Run.Puts.length) rfl <| om (toVoteS.length = toVoteS.length) rfl <| fe Try.func36 h)

/-! ### laws_toMsgS -/
noncomputable def laws_toMsgS_c : Code := bodyOf Try.f19
noncomputable def laws_toMsgS_X : Sig := { f := 19, fn := Try.f19, rms := [.val [some 13] [some 1000105]], oms := [none] }
noncomputable def laws_toMsgS_R (r : List TMsg) : V := vdsl 105 13 eMsg_2 r
noncomputable def laws_toMsgS_O (r : List TMsg) : List (Option V) := [none]
noncomputable def laws_toMsgS_t (i : Nat) (fr : Bool) (r : List TMsg) : Nat × Tell := (i, { a := .call [.val [some 13] []] fr (laws_toMsgS_R r) (laws_toMsgS_O r) })
noncomputable def laws_toMsgS_k1 : List Item := posI 2000 4 [false] [.code laws_toMsgS_c]
noncomputable def laws_toMsgS_S1 (out1 : List TMsg) : St := ⟨(bs 3 (.own 1 0 13 0 out1.length :: (bs 19 []))), [some [], some [edeep 105 13 eMsg_2 out1]]⟩
noncomputable def laws_toMsgS_k2 (out1 : List TMsg) : Option (List TMsg) :=
  some out1
theorem laws_toMsgS_k2_ok (r : List TMsg) (out1 : List TMsg) (h : laws_toMsgS_k2 out1 = some r) : Fin cx laws_toMsgS_X (laws_toMsgS_R r) (laws_toMsgS_O r) laws_toMsgS_k1 (laws_toMsgS_S1 out1) :=
  P0 <|
 rg <| om (out1.length = out1.length) rfl <| fe Try.func19 h
noncomputable def laws_toMsgS_k3 : List Item := posI 2000 3 [] [.code laws_toMsgS_c]
noncomputable def laws_toMsgS_S2 (a : List TMsg) (out : List TMsg) (i : Int) : St := ⟨(vsl 13 eMsg a :: (bs 2 (.own 1 0 13 0 out.length :: (vi i :: (bs 18 []))))), [some [], some [edeep 105 13 eMsg_2 out]]⟩
noncomputable def laws_toMsgS_r1 (toMsg : TMsg) : List V := [vi toMsg.Kind, vi toMsg.From, vi toMsg.To, vi toMsg.Bal, vi toMsg.Slot, .b toMsg.Entry.None, vi toMsg.Entry.Req.Who, vi toMsg.Entry.Req.Seq, vosl 142 2 eRead toMsg.Entry.Run.Reads, vosl 144 2 ePut toMsg.Entry.Run.Puts, vi toMsg.Entry.Run.Val, vi toMsg.Entry.Run.Code, vdsl 140 8 eVote_1 toMsg.Votes]
noncomputable def laws_toMsgS_b1 (a : List TMsg) (out : List TMsg) (i : Int) : Option (Stp (List TMsg) ((List TMsg) × Int) (List TMsg)) :=
  (bif decide (i < (a.length : Int)) then
 ((idx a i).bind fun msg =>
 ((laws_toMsg msg).bind fun toMsg =>
 ((idx out i).bind fun msg1 =>
 some (Stp.nxt (out.set i.toNat toMsg, w64 (i + 1))))))
 else
 some (Stp.brk out))
theorem laws_toMsgS_b1_ok (a : List TMsg) (res : V) (outs : List (Option V)) (x1 : Exc (List TMsg) (List TMsg)) (hb1 : HB cx laws_toMsgS_X res outs x1 laws_toMsgS_k1 laws_toMsgS_S1) (hr1 : HR res outs x1 laws_toMsgS_R laws_toMsgS_O) (st1 : Stp (List TMsg) ((List TMsg) × Int) (List TMsg)) (hc1 : Cont x1 (fun s : (List TMsg) × Int => Fin cx laws_toMsgS_X res outs laws_toMsgS_k3 (laws_toMsgS_S2 a s.1 s.2)) st1) (out : List TMsg) (i : Int) (h : laws_toMsgS_b1 a out i = some st1) : Fin cx laws_toMsgS_X res outs laws_toMsgS_k3 (laws_toMsgS_S2 a out i) :=
  P0 <|
 rg <| cdD 3 h (fun h =>
 rg <| ixS eMsg 4 h fun msg hmsg h =>
 cb laws_toMsg_t laws_toMsg_ok 6 false h fun toMsg h =>
 bindD h fun msg1 hmsg1 h =>
 ixB hmsg1 <| om (Ent.deep false 105 13 out.length ((out.map eMsg_2).set (0 + i.toNat) (laws_toMsgS_r1 toMsg)) = edeep 105 13 eMsg_2 (out.set i.toNat toMsg)) (deep_set0 rfl) <| ob (map_idx0 (enc := eMsg_2) hmsg1) <| om (toMsg.Entry.Run.Reads.length = toMsg.Entry.Run.Reads.length) rfl <| om (toMsg.Entry.Run.Puts.length = toMsg.Entry.Run.Puts.length) rfl <| om (toMsg.Votes.length = toMsg.Votes.length) rfl <| tl (8, { a := .dst (eMsg_2 msg1) [none, none, none, none, none, none, none, none, some 2, some 2, none, none, some 8] [none, none, none, none, none, none, none, none, some 142, some 144, none, none, some 1000140], e := some (edeep 105 13 eMsg_2 (out.set i.toNat toMsg)) }) <| rg <| (nxtD h hc1 fun hI => om ((.own 1 0 13 0 out.length : V) = .own 1 0 13 0 (out.set i.toNat toMsg).length) (by simp) <| sg [.is (.tmp 3) (.own 1 0 13 0 (out.set i.toNat toMsg).length)] [0, 3, 4] [(1, 0)] hI)) (fun h =>
 (brkD h hc1 fun e => sg [] [3] [(1, 0)] (hb1 _ e)))
noncomputable def laws_toMsgS (a : List TMsg) : Option (List TMsg) :=
  (need (0 ≤ (a.length : Int) ∧ (a.length : Int) * 152 ≤ 140737488355328)
 (((loop (fun s : (List TMsg) × Int => laws_toMsgS_b1 a s.1 s.2) (List.replicate (a.length : Int).toNat (TMsg.mk 0 0 0 0 0 (TEntry.mk false (TReq.mk 0 0) (TRun.mk [] [] 0 0)) []), 0)).bind fun x => x.go (fun r => some r) fun s => laws_toMsgS_k2 s)))
set_option maxRecDepth 20000 in
theorem laws_toMsgS_ok {a : List TMsg} (r : List TMsg) (h : laws_toMsgS a = some r) : ACalls cx.P 19 [vsl 13 eMsg a] (laws_toMsgS_R r) (laws_toMsgS_O r) :=
  ACalls.of (cx := cx) (X := laws_toMsgS_X) (c := laws_toMsgS_c) Try.func19 (by kernel_rfl) (by kernel_rfl) (by kernel_rfl) (P0 <|
 rg2 <| needD h fun e1 h =>
 om (V.own 4 0 13 0 (a.length : Int).toNat = .own 4 0 13 0 (List.replicate (a.length : Int).toNat (TMsg.mk 0 0 0 0 0 (TEntry.mk false (TReq.mk 0 0) (TRun.mk [] [] 0 0)) [])).length) (by simp) <| om (Ent.deep false 105 13 (a.length : Int).toNat (List.replicate (a.length : Int).toNat [vi 0, vi 0, vi 0, vi 0, vi 0, .b false, vi 0, vi 0, .osl 142 2 0 [], .osl 144 2 0 [], vi 0, vi 0, .dsl 140 8 0 []]) = edeep 105 13 eMsg_2 (List.replicate (a.length : Int).toNat (TMsg.mk 0 0 0 0 0 (TEntry.mk false (TReq.mk 0 0) (TRun.mk [] [] 0 0)) []))) (deep_rep rfl) <| ob e1.1 <| om ((a.length : Int) = (a.length : Int)) rfl <| om ((a.length : Int) * ((152 : Nat) : Int) ≤ 140737488355328 ∧ 0 < 152) ⟨e1.2, by decide⟩ <| om (([vi 0, vi 0, vi 0, vi 0, vi 0, .b false, vi 0, vi 0, .nil, .nil, vi 0, vi 0, .nil] : List V).length = 13) rfl <| tl (2, { a := .dck [none, none, none, none, none, none, none, none, some 2, some 2, none, none, some 8] [none, none, none, none, none, none, none, none, some 142, some 144, none, none, some 1000140], e := some (edeep 105 13 eMsg_2 (List.replicate (a.length : Int).toNat (TMsg.mk 0 0 0 0 0 (TEntry.mk false (TReq.mk 0 0) (TRun.mk [] [] 0 0)) []))), v := some (.own 4 0 13 0 (List.replicate (a.length : Int).toNat (TMsg.mk 0 0 0 0 0 (TEntry.mk false (TReq.mk 0 0) (TRun.mk [] [] 0 0)) [])).length) }) <| rg <| loopJ h fun x hl hr hb => sg [] [0, 3, 4] [(4, 0)] (loopD (I := fun s : (List TMsg) × Int => Fin cx laws_toMsgS_X (laws_toMsgS_R r) (laws_toMsgS_O r) laws_toMsgS_k3 (laws_toMsgS_S2 a s.1 s.2)) hl fun s st h hc => laws_toMsgS_b1_ok a _ _ x (fun s e => laws_toMsgS_k2_ok r s (hb s e)) (fun v e => ⟨congrArg laws_toMsgS_R (Option.some.inj (hr v e)).symm, congrArg laws_toMsgS_O (Option.some.inj (hr v e)).symm⟩) st hc s.1 s.2 h))

/-! ### laws_toAsked -/
noncomputable def laws_toAsked_c : Code := bodyOf Try.f37
noncomputable def laws_toAsked_X : Sig := { f := 37, fn := Try.f37, rms := [.val [none, none, some 4] [none, none, some 60]], oms := [none] }
noncomputable def laws_toAsked_R (r : TAsked) : V := .agg [vi r.Req.Who, vi r.Req.Seq, vosl 60 4 eIns r.Prog]
noncomputable def laws_toAsked_O (r : TAsked) : List (Option V) := [none]
noncomputable def laws_toAsked_t (i : Nat) (fr : Bool) (r : TAsked) : Nat × Tell := (i, { a := .call [.val [none, none, some 4] []] fr (laws_toAsked_R r) (laws_toAsked_O r) })
noncomputable def laws_toAsked (a : TAsked) : Option TAsked :=
  ((laws_toReq a.Req).bind fun toReq =>
 ((laws_toInsS a.Prog).bind fun toInsS =>
 some (TAsked.mk toReq toInsS)))
theorem laws_toAsked_ok {a : TAsked} (r : TAsked) (h : laws_toAsked a = some r) : ACalls cx.P 37 [.agg (eAsked a)] (laws_toAsked_R r) (laws_toAsked_O r) :=
  ACalls.of (cx := cx) (X := laws_toAsked_X) (c := laws_toAsked_c) Try.func37 (by kernel_rfl) (by kernel_rfl) (by kernel_rfl) (P0 <|
 rg3 <| cb laws_toReq_t laws_toReq_ok 2 false h fun toReq h =>
 rg <| cb laws_toInsS_t laws_toInsS_ok 2 false h fun toInsS h =>
 rg <| om (toInsS.length = toInsS.length) rfl <| fe Try.func37 h)

/-! ### laws_toAskedS -/
noncomputable def laws_toAskedS_c : Code := bodyOf Try.f20
noncomputable def laws_toAskedS_X : Sig := { f := 20, fn := Try.f20, rms := [.val [some 3] [some 1000053]], oms := [none] }
noncomputable def laws_toAskedS_R (r : List TAsked) : V := vdsl 53 3 eAsked_1 r
noncomputable def laws_toAskedS_O (r : List TAsked) : List (Option V) := [none]
noncomputable def laws_toAskedS_t (i : Nat) (fr : Bool) (r : List TAsked) : Nat × Tell := (i, { a := .call [.val [some 3] []] fr (laws_toAskedS_R r) (laws_toAskedS_O r) })
noncomputable def laws_toAskedS_k1 : List Item := posI 2000 4 [false] [.code laws_toAskedS_c]
noncomputable def laws_toAskedS_S1 (out1 : List TAsked) : St := ⟨(bs 3 (.own 1 0 3 0 out1.length :: (bs 19 []))), [some [], some [edeep 53 3 eAsked_1 out1]]⟩
noncomputable def laws_toAskedS_k2 (out1 : List TAsked) : Option (List TAsked) :=
  some out1
theorem laws_toAskedS_k2_ok (r : List TAsked) (out1 : List TAsked) (h : laws_toAskedS_k2 out1 = some r) : Fin cx laws_toAskedS_X (laws_toAskedS_R r) (laws_toAskedS_O r) laws_toAskedS_k1 (laws_toAskedS_S1 out1) :=
  P0 <|
 rg <| om (out1.length = out1.length) rfl <| fe Try.func20 h
noncomputable def laws_toAskedS_k3 : List Item := posI 2000 3 [] [.code laws_toAskedS_c]
noncomputable def laws_toAskedS_S2 (a : List TAsked) (out : List TAsked) (i : Int) : St := ⟨(vsl 3 eAsked a :: (bs 2 (.own 1 0 3 0 out.length :: (vi i :: (bs 18 []))))), [some [], some [edeep 53 3 eAsked_1 out]]⟩
noncomputable def laws_toAskedS_b1 (a : List TAsked) (out : List TAsked) (i : Int) : Option (Stp (List TAsked) ((List TAsked) × Int) (List TAsked)) :=
  (bif decide (i < (a.length : Int)) then
 ((idx a i).bind fun asked =>
 ((laws_toAsked asked).bind fun toAsked =>
 ((idx out i).bind fun asked1 =>
 some (Stp.nxt (out.set i.toNat toAsked, w64 (i + 1))))))
 else
 some (Stp.brk out))
theorem laws_toAskedS_b1_ok (a : List TAsked) (res : V) (outs : List (Option V)) (x1 : Exc (List TAsked) (List TAsked)) (hb1 : HB cx laws_toAskedS_X res outs x1 laws_toAskedS_k1 laws_toAskedS_S1) (hr1 : HR res outs x1 laws_toAskedS_R laws_toAskedS_O) (st1 : Stp (List TAsked) ((List TAsked) × Int) (List TAsked)) (hc1 : Cont x1 (fun s : (List TAsked) × Int => Fin cx laws_toAskedS_X res outs laws_toAskedS_k3 (laws_toAskedS_S2 a s.1 s.2)) st1) (out : List TAsked) (i : Int) (h : laws_toAskedS_b1 a out i = some st1) : Fin cx laws_toAskedS_X res outs laws_toAskedS_k3 (laws_toAskedS_S2 a out i) :=
  P0 <|
 rg <| cdD 3 h (fun h =>
 rg <| ixS eAsked 4 h fun asked hasked h =>
 cb laws_toAsked_t laws_toAsked_ok 6 false h fun toAsked h =>
 bindD h fun asked1 hasked1 h =>
 ixB hasked1 <| om (Ent.deep false 53 3 out.length ((out.map eAsked_1).set (0 + i.toNat) [vi toAsked.Req.Who, vi toAsked.Req.Seq, vosl 60 4 eIns toAsked.Prog]) = edeep 53 3 eAsked_1 (out.set i.toNat toAsked)) (deep_set0 rfl) <| ob (map_idx0 (enc := eAsked_1) hasked1) <| om (toAsked.Prog.length = toAsked.Prog.length) rfl <| tl (8, { a := .dst (eAsked_1 asked1) [none, none, some 4] [none, none, some 60], e := some (edeep 53 3 eAsked_1 (out.set i.toNat toAsked)) }) <| rg <| (nxtD h hc1 fun hI => om ((.own 1 0 3 0 out.length : V) = .own 1 0 3 0 (out.set i.toNat toAsked).length) (by simp) <| sg [.is (.tmp 3) (.own 1 0 3 0 (out.set i.toNat toAsked).length)] [0, 3, 4] [(1, 0)] hI)) (fun h =>
 (brkD h hc1 fun e => sg [] [3] [(1, 0)] (hb1 _ e)))
noncomputable def laws_toAskedS (a : List TAsked) : Option (List TAsked) :=
  (need (0 ≤ (a.length : Int) ∧ (a.length : Int) * 40 ≤ 140737488355328)
 (((loop (fun s : (List TAsked) × Int => laws_toAskedS_b1 a s.1 s.2) (List.replicate (a.length : Int).toNat (TAsked.mk (TReq.mk 0 0) []), 0)).bind fun x => x.go (fun r => some r) fun s => laws_toAskedS_k2 s)))
theorem laws_toAskedS_ok {a : List TAsked} (r : List TAsked) (h : laws_toAskedS a = some r) : ACalls cx.P 20 [vsl 3 eAsked a] (laws_toAskedS_R r) (laws_toAskedS_O r) :=
  ACalls.of (cx := cx) (X := laws_toAskedS_X) (c := laws_toAskedS_c) Try.func20 (by kernel_rfl) (by kernel_rfl) (by kernel_rfl) (P0 <|
 rg2 <| needD h fun e1 h =>
 om (V.own 4 0 3 0 (a.length : Int).toNat = .own 4 0 3 0 (List.replicate (a.length : Int).toNat (TAsked.mk (TReq.mk 0 0) [])).length) (by simp) <| om (Ent.deep false 53 3 (a.length : Int).toNat (List.replicate (a.length : Int).toNat [vi 0, vi 0, .osl 60 4 0 []]) = edeep 53 3 eAsked_1 (List.replicate (a.length : Int).toNat (TAsked.mk (TReq.mk 0 0) []))) (deep_rep rfl) <| ob e1.1 <| om ((a.length : Int) = (a.length : Int)) rfl <| om ((a.length : Int) * ((40 : Nat) : Int) ≤ 140737488355328 ∧ 0 < 40) ⟨e1.2, by decide⟩ <| om (([vi 0, vi 0, .nil] : List V).length = 3) rfl <| tl (2, { a := .dck [none, none, some 4] [none, none, some 60], e := some (edeep 53 3 eAsked_1 (List.replicate (a.length : Int).toNat (TAsked.mk (TReq.mk 0 0) []))), v := some (.own 4 0 3 0 (List.replicate (a.length : Int).toNat (TAsked.mk (TReq.mk 0 0) [])).length) }) <| rg <| loopJ h fun x hl hr hb => sg [] [0, 3, 4] [(4, 0)] (loopD (I := fun s : (List TAsked) × Int => Fin cx laws_toAskedS_X (laws_toAskedS_R r) (laws_toAskedS_O r) laws_toAskedS_k3 (laws_toAskedS_S2 a s.1 s.2)) hl fun s st h hc => laws_toAskedS_b1_ok a _ _ x (fun s e => laws_toAskedS_k2_ok r s (hb s e)) (fun v e => ⟨congrArg laws_toAskedS_R (Option.some.inj (hr v e)).symm, congrArg laws_toAskedS_O (Option.some.inj (hr v e)).symm⟩) st hc s.1 s.2 h))

/-! ### laws_toTold -/
noncomputable def laws_toTold_c : Code := bodyOf Try.f38
noncomputable def laws_toTold_X : Sig := { f := 38, fn := Try.f38, rms := [.val [] []], oms := [none] }
noncomputable def laws_toTold_R (r : TTold) : V := .agg (eTold r)
noncomputable def laws_toTold_O (r : TTold) : List (Option V) := [none]
noncomputable def laws_toTold_t (i : Nat) (fr : Bool) (r : TTold) : Nat × Tell := (i, { a := .call [.val [] []] fr (laws_toTold_R r) (laws_toTold_O r) })
noncomputable def laws_toTold (a : TTold) : Option TTold :=
  ((laws_toReq a.Req).bind fun toReq =>
 some (TTold.mk a.Node toReq a.Code a.Val))
theorem laws_toTold_ok {a : TTold} (r : TTold) (h : laws_toTold a = some r) : ACalls cx.P 38 [.agg (eTold a)] (laws_toTold_R r) (laws_toTold_O r) :=
  ACalls.of (cx := cx) (X := laws_toTold_X) (c := laws_toTold_c) Try.func38 (by kernel_rfl) (by kernel_rfl) (by kernel_rfl) (P0 <|
 rg4 <| cb laws_toReq_t laws_toReq_ok 2 false h fun toReq h =>
 rg3 <| fe Try.func38 h)

/-! ### laws_toToldS -/
noncomputable def laws_toToldS_c : Code := bodyOf Try.f21
noncomputable def laws_toToldS_X : Sig := { f := 21, fn := Try.f21, rms := [.val [some 5] [some 109]], oms := [none] }
noncomputable def laws_toToldS_R (r : List TTold) : V := vosl 109 5 eTold r
noncomputable def laws_toToldS_O (r : List TTold) : List (Option V) := [none]
noncomputable def laws_toToldS_t (i : Nat) (fr : Bool) (r : List TTold) : Nat × Tell := (i, { a := .call [.val [some 5] []] fr (laws_toToldS_R r) (laws_toToldS_O r) })
noncomputable def laws_toToldS_k1 : List Item := posI 2000 4 [false] [.code laws_toToldS_c]
noncomputable def laws_toToldS_S1 (out1 : List TTold) : St := ⟨(bs 3 (.own 1 0 5 0 out1.length :: (bs 19 []))), [some [], some [erow 109 5 eTold out1]]⟩
noncomputable def laws_toToldS_k2 (out1 : List TTold) : Option (List TTold) :=
  some out1
theorem laws_toToldS_k2_ok (r : List TTold) (out1 : List TTold) (h : laws_toToldS_k2 out1 = some r) : Fin cx laws_toToldS_X (laws_toToldS_R r) (laws_toToldS_O r) laws_toToldS_k1 (laws_toToldS_S1 out1) :=
  P0 <|
 rg <| om (out1.length = out1.length) rfl <| fe Try.func21 h
noncomputable def laws_toToldS_k3 : List Item := posI 2000 3 [] [.code laws_toToldS_c]
noncomputable def laws_toToldS_S2 (a : List TTold) (out : List TTold) (i : Int) : St := ⟨(vsl 5 eTold a :: (bs 2 (.own 1 0 5 0 out.length :: (vi i :: (bs 18 []))))), [some [], some [erow 109 5 eTold out]]⟩
noncomputable def laws_toToldS_b1 (a : List TTold) (out : List TTold) (i : Int) : Option (Stp (List TTold) ((List TTold) × Int) (List TTold)) :=
  (bif decide (i < (a.length : Int)) then
 ((idx a i).bind fun told =>
 ((laws_toTold told).bind fun toTold =>
 ((idx out i).bind fun told1 =>
 some (Stp.nxt (out.set i.toNat toTold, w64 (i + 1))))))
 else
 some (Stp.brk out))
theorem laws_toToldS_b1_ok (a : List TTold) (res : V) (outs : List (Option V)) (x1 : Exc (List TTold) (List TTold)) (hb1 : HB cx laws_toToldS_X res outs x1 laws_toToldS_k1 laws_toToldS_S1) (hr1 : HR res outs x1 laws_toToldS_R laws_toToldS_O) (st1 : Stp (List TTold) ((List TTold) × Int) (List TTold)) (hc1 : Cont x1 (fun s : (List TTold) × Int => Fin cx laws_toToldS_X res outs laws_toToldS_k3 (laws_toToldS_S2 a s.1 s.2)) st1) (out : List TTold) (i : Int) (h : laws_toToldS_b1 a out i = some st1) : Fin cx laws_toToldS_X res outs laws_toToldS_k3 (laws_toToldS_S2 a out i) :=
  P0 <|
 rg <| cdD 3 h (fun h =>
 rg <| ixS eTold 4 h fun told htold h =>
 cb laws_toTold_t laws_toTold_ok 6 false h fun toTold h =>
 bindD h fun told1 htold1 h =>
 ixB htold1 <| stR 109 5 eTold 8 [] toTold htold1 <| rg <| (nxtD h hc1 fun hI => om ((.own 1 0 5 0 out.length : V) = .own 1 0 5 0 (out.set i.toNat toTold).length) (by simp) <| sg [.is (.tmp 3) (.own 1 0 5 0 (out.set i.toNat toTold).length)] [0, 3, 4] [(1, 0)] hI)) (fun h =>
 (brkD h hc1 fun e => sg [] [3] [(1, 0)] (hb1 _ e)))
noncomputable def laws_toToldS (a : List TTold) : Option (List TTold) :=
  (need (0 ≤ (a.length : Int) ∧ (a.length : Int) * 40 ≤ 140737488355328)
 (((loop (fun s : (List TTold) × Int => laws_toToldS_b1 a s.1 s.2) (List.replicate (a.length : Int).toNat (TTold.mk 0 (TReq.mk 0 0) 0 0), 0)).bind fun x => x.go (fun r => some r) fun s => laws_toToldS_k2 s)))
theorem laws_toToldS_ok {a : List TTold} (r : List TTold) (h : laws_toToldS a = some r) : ACalls cx.P 21 [vsl 5 eTold a] (laws_toToldS_R r) (laws_toToldS_O r) :=
  ACalls.of (cx := cx) (X := laws_toToldS_X) (c := laws_toToldS_c) Try.func21 (by kernel_rfl) (by kernel_rfl) (by kernel_rfl) (P0 <|
 rg2 <| needD h fun e1 h =>
 mkS 2 4 109 5 40 eTold (TTold.mk 0 (TReq.mk 0 0) 0 0) ti109 (.none) e1 (by decide) (by rfl) <| rg <| loopJ h fun x hl hr hb => sg [] [0, 3, 4] [(4, 0)] (loopD (I := fun s : (List TTold) × Int => Fin cx laws_toToldS_X (laws_toToldS_R r) (laws_toToldS_O r) laws_toToldS_k3 (laws_toToldS_S2 a s.1 s.2)) hl fun s st h hc => laws_toToldS_b1_ok a _ _ x (fun s e => laws_toToldS_k2_ok r s (hb s e)) (fun v e => ⟨congrArg laws_toToldS_R (Option.some.inj (hr v e)).symm, congrArg laws_toToldS_O (Option.some.inj (hr v e)).symm⟩) st hc s.1 s.2 h))

/-! ### laws_toWorld -/
noncomputable def laws_toWorld_c : Code := bodyOf Try.f6
noncomputable def laws_toWorld_X : Sig := { f := 6, fn := Try.f6, rms := [.val ck39 [some 1000102, some 1000105, some 1000053, some 109]], oms := [none] }
noncomputable def laws_toWorld_R (r : TWorld) : V := .agg [vdsl 102 27 eNode_2 r.Nodes, vdsl 105 13 eMsg_2 r.Net, vdsl 53 3 eAsked_1 r.Asked, vosl 109 5 eTold r.Told]
noncomputable def laws_toWorld_O (r : TWorld) : List (Option V) := [none]
noncomputable def laws_toWorld_t (i : Nat) (fr : Bool) (r : TWorld) : Nat × Tell := (i, { a := .call [.val ck27 []] fr (laws_toWorld_R r) (laws_toWorld_O r) })
noncomputable def laws_toWorld (a : TWorld) : Option TWorld :=
  ((laws_toNodeS a.Nodes).bind fun toNodeS =>
 ((laws_toMsgS a.Net).bind fun toMsgS =>
 ((laws_toAskedS a.Asked).bind fun toAskedS =>
 ((laws_toToldS a.Told).bind fun toToldS =>
 some (TWorld.mk toNodeS toMsgS toAskedS toToldS)))))
theorem laws_toWorld_ok {a : TWorld} (r : TWorld) (h : laws_toWorld a = some r) : ACalls cx.P 6 [.agg (eWorld a)] (laws_toWorld_R r) (laws_toWorld_O r) :=
  ACalls.of (cx := cx) (X := laws_toWorld_X) (c := laws_toWorld_c) Try.func6 (by kernel_rfl) (by kernel_rfl) (by kernel_rfl) (P0 <|
 rg3 <| cb laws_toNodeS_t laws_toNodeS_ok 2 false h fun toNodeS h =>
 rg <| cb laws_toMsgS_t laws_toMsgS_ok 2 false h fun toMsgS h =>
 rg <| cb laws_toAskedS_t laws_toAskedS_ok 2 false h fun toAskedS h =>
 rg <| cb laws_toToldS_t laws_toToldS_ok 2 false h fun toToldS h =>
 rg <| om (toNodeS.length = toNodeS.length) rfl <| om (toMsgS.length = toMsgS.length) rfl <| om (toAskedS.length = toAskedS.length) rfl <| om (toToldS.length = toToldS.length) rfl <| fe Try.func6 h)

/-! ### spec_ToldProg -/
noncomputable def spec_ToldProg_c : Code := bodyOf Try.f5
noncomputable def spec_ToldProg_X : Sig := { f := 5, fn := Try.f5, rms := [.val [some 4] [some 60], .val [] []], oms := [none, none] }
noncomputable def spec_ToldProg_R (r : (List TIns) × Bool) : V := .tup [vosl 60 4 eIns r.1, .b r.2]
noncomputable def spec_ToldProg_O (r : (List TIns) × Bool) : List (Option V) := [none, none]
noncomputable def spec_ToldProg_t (i : Nat) (fr : Bool) (r : (List TIns) × Bool) : Nat × Tell := (i, { a := .call [.val ck39 [], .val [] []] fr (spec_ToldProg_R r) (spec_ToldProg_O r) })
noncomputable def spec_ToldProg_k1 : List Item := posI 2000 3 [false] [.code spec_ToldProg_c]
noncomputable def spec_ToldProg_S1 : St := ⟨(bs 30 []), [some []]⟩
noncomputable def spec_ToldProg_k2 : Option ((List TIns) × Bool) :=
  some ([], false)
theorem spec_ToldProg_k2_ok (r : (List TIns) × Bool) (h : spec_ToldProg_k2 = some r) : Fin cx spec_ToldProg_X (spec_ToldProg_R r) (spec_ToldProg_O r) spec_ToldProg_k1 (spec_ToldProg_S1) :=
  P0 <|
 rg <| fe Try.func5 h
noncomputable def spec_ToldProg_k3 : List Item := posI 2000 2 [] [.code spec_ToldProg_c]
noncomputable def spec_ToldProg_S2 (w : TWorld) (q : TReq) (i : Int) : St := ⟨(bs 2 (.ptr 1 0 0 :: (.ptr 2 0 0 :: (bs 2 (vi i :: (bs 23 [])))))), [some [], some [.var 39 [vsl 27 eNode w.Nodes, vsl 13 eMsg w.Net, vsl 3 eAsked w.Asked, vsl 5 eTold w.Told]], some [.var 41 [vi q.Who, vi q.Seq]]]⟩
noncomputable def spec_ToldProg_b1 (w : TWorld) (q : TReq) (i : Int) : Option (Stp ((List TIns) × Bool) Int Unit) :=
  (bif decide (i < (w.Asked.length : Int)) then
 ((idx w.Asked i).bind fun asked =>
 (bif (([asked.Req.Who, asked.Req.Seq] : List Int) == [q.Who, q.Seq]) then
 (need ((([] : List TIns).length + asked.Prog.length) * 32 ≤ 140737488355328)
 (some (Stp.ret (([] : List TIns) ++ asked.Prog, true))))
 else
 some (Stp.nxt (w64 (i + 1)))))
 else
 some (Stp.brk ()))
theorem spec_ToldProg_b1_ok (w : TWorld) (q : TReq) (res : V) (outs : List (Option V)) (x1 : Exc ((List TIns) × Bool) Unit) (hb1 : HB cx spec_ToldProg_X res outs x1 spec_ToldProg_k1 (fun s => spec_ToldProg_S1)) (hr1 : HR res outs x1 spec_ToldProg_R spec_ToldProg_O) (st1 : Stp ((List TIns) × Bool) Int Unit) (hc1 : Cont x1 (fun s : Int => Fin cx spec_ToldProg_X res outs spec_ToldProg_k3 (spec_ToldProg_S2 w q s)) st1) (i : Int) (h : spec_ToldProg_b1 w q i = some st1) : Fin cx spec_ToldProg_X res outs spec_ToldProg_k3 (spec_ToldProg_S2 w q i) :=
  P0 <|
 rg <| cdD 4 h (fun h =>
 rg <| ixS eAsked 3 h fun asked hasked h =>
 cdD 7 h (fun h =>
 rg <| tl (0, { a := .ck [] }) <| ixR eAsked 4 hasked <| needD h fun e1 h =>
 om (V.own 23 0 4 0 (([] : List TIns).length + asked.Prog.length) = .own 23 0 4 0 (([] : List TIns) ++ asked.Prog).length) (by first | exact congrArg (V.own 23 0 4 0) List.length_append.symm | simp) <| om (Ent.row 60 4 (([] : List TIns).length + asked.Prog.length) (([] : List TIns).map eIns ++ asked.Prog.map eIns) = erow 60 4 eIns (([] : List TIns) ++ asked.Prog)) (by first | exact row_apps rfl rfl | simp [erow]) <| om (0 = ([] : List TIns).length) (by rfl) <| ob e1 <| tl (7, { v := some (.own 23 0 4 0 (([] : List TIns) ++ asked.Prog).length), e := some (erow 60 4 eIns (([] : List TIns) ++ asked.Prog)) }) <| (retD h hc1 fun e => om ((([] : List TIns) ++ asked.Prog).length = (([] : List TIns) ++ asked.Prog).length) rfl <| fn0 Try.func5 (hr1 _ e))) (fun h =>
 rg <| (nxtD h hc1 fun hI => sg [] [2, 3, 6] [(1, 0), (2, 0)] hI))) (fun h =>
 (brkD h hc1 fun e => sg [] [] [] (hb1 _ e)))
noncomputable def spec_ToldProg (w : TWorld) (q : TReq) : Option ((List TIns) × Bool) :=
  ((loop (fun s : Int => spec_ToldProg_b1 w q s) 0).bind fun x => x.go (fun r => some r) fun s => spec_ToldProg_k2)
theorem spec_ToldProg_ok {w : TWorld} {q : TReq} (r : (List TIns) × Bool) (h : spec_ToldProg w q = some r) : ACalls cx.P 5 [.agg (eWorld w), .agg (eReq q)] (spec_ToldProg_R r) (spec_ToldProg_O r) :=
  ACalls.of (cx := cx) (X := spec_ToldProg_X) (c := spec_ToldProg_c) Try.func5 (by kernel_rfl) (by kernel_rfl) (by kernel_rfl) (P0 <|
 rg2 <| loopJ h fun x hl hr hb => sg [] [2, 3, 6] [(1, 0), (2, 0)] (loopD (I := fun s : Int => Fin cx spec_ToldProg_X (spec_ToldProg_R r) (spec_ToldProg_O r) spec_ToldProg_k3 (spec_ToldProg_S2 w q s)) hl fun s st h hc => spec_ToldProg_b1_ok w q _ _ x (fun s e => spec_ToldProg_k2_ok r (hb s e)) (fun v e => ⟨congrArg spec_ToldProg_R (Option.some.inj (hr v e)).symm, congrArg spec_ToldProg_O (Option.some.inj (hr v e)).symm⟩) st hc s h))

/-! ### impl_copied_Ins -/
noncomputable def impl_copied_Ins_c : Code := bodyOf Try.f22
noncomputable def impl_copied_Ins_X : Sig := { f := 22, fn := Try.f22, rms := [.val [some 4] [some 60]], oms := [none] }
noncomputable def impl_copied_Ins_R (r : List TIns) : V := vosl 60 4 eIns r
noncomputable def impl_copied_Ins_O (r : List TIns) : List (Option V) := [none]
noncomputable def impl_copied_Ins_t (i : Nat) (fr : Bool) (r : List TIns) : Nat × Tell := (i, { a := .call [.val [some 4] []] fr (impl_copied_Ins_R r) (impl_copied_Ins_O r) })
noncomputable def impl_copied_Ins (list : List TIns) : Option (List TIns) :=
  (bif ((list.length : Int) == 0) then
 some []
 else
 (need (0 ≤ (list.length : Int) ∧ (list.length : Int) * 32 ≤ 140737488355328)
 ((need (list.length = (List.replicate (list.length : Int).toNat (TIns.mk 0 0 0 0)).length)
 (some list)))))
theorem impl_copied_Ins_ok {list : List TIns} (r : List TIns) (h : impl_copied_Ins list = some r) : ACalls cx.P 22 [vsl 4 eIns list] (impl_copied_Ins_R r) (impl_copied_Ins_O r) :=
  ACalls.of (cx := cx) (X := impl_copied_Ins_X) (c := impl_copied_Ins_c) Try.func22 (by kernel_rfl) (by kernel_rfl) (by kernel_rfl) (P0 <|
 rg2 <| cdD 2 h (fun h =>
 rg <| fe Try.func22 h) (fun h =>
 rg <| needD h fun e1 h =>
 mkS 2 7 60 4 32 eIns (TIns.mk 0 0 0 0) ti60 (.none) e1 (by decide) (by rfl) <| rg <| needD h fun e2 h =>
 om (Ent.row 60 4 (List.replicate (list.length : Int).toNat (TIns.mk 0 0 0 0)).length (list.map eIns) = erow 60 4 eIns list) (row_copy e2) <| om ((List.replicate (list.length : Int).toNat (TIns.mk 0 0 0 0)).length = (List.replicate (list.length : Int).toNat (TIns.mk 0 0 0 0)).length) rfl <| ob e2 <| tl (2, { e := some (erow 60 4 eIns list) }) <| rg <| om ((List.replicate (list.length : Int).toNat (TIns.mk 0 0 0 0)).length = list.length) (by simp) <| fe Try.func22 h))

/-! ### impl_ToldProg -/
noncomputable def impl_ToldProg_c : Code := bodyOf Try.f8
noncomputable def impl_ToldProg_X : Sig := { f := 8, fn := Try.f8, rms := [.val [some 4] [some 60], .val [] []], oms := [none, none] }
noncomputable def impl_ToldProg_R (r : (List TIns) × Bool) : V := .tup [vosl 60 4 eIns r.1, .b r.2]
noncomputable def impl_ToldProg_O (r : (List TIns) × Bool) : List (Option V) := [none, none]
noncomputable def impl_ToldProg_t (i : Nat) (fr : Bool) (r : (List TIns) × Bool) : Nat × Tell := (i, { a := .call [.val ck39 [], .val [] []] fr (impl_ToldProg_R r) (impl_ToldProg_O r) })
noncomputable def impl_ToldProg_k1 : List Item := posI 2000 3 [false] [.code impl_ToldProg_c]
noncomputable def impl_ToldProg_S1 : St := ⟨(bs 23 []), [some []]⟩
noncomputable def impl_ToldProg_k2 : Option ((List TIns) × Bool) :=
  some ([], false)
theorem impl_ToldProg_k2_ok (r : (List TIns) × Bool) (h : impl_ToldProg_k2 = some r) : Fin cx impl_ToldProg_X (impl_ToldProg_R r) (impl_ToldProg_O r) impl_ToldProg_k1 (impl_ToldProg_S1) :=
  P0 <|
 rg <| fe Try.func8 h
noncomputable def impl_ToldProg_k3 : List Item := posI 2000 2 [] [.code impl_ToldProg_c]
noncomputable def impl_ToldProg_S2 (w : TWorld) (q : TReq) (v11 : Int) : St := ⟨(bs 3 (.ptr 1 0 0 :: (bs 5 (vsl 3 eAsked w.Asked :: (vi (w.Asked.length : Int) :: (vi v11 :: (bs 11 []))))))), [some [], some [.var 41 [vi q.Who, vi q.Seq]]]⟩
noncomputable def impl_ToldProg_b1 (w : TWorld) (q : TReq) (v11 : Int) : Option (Stp ((List TIns) × Bool) Int Unit) :=
  (bif decide (v11 < (w.Asked.length : Int)) then
 ((idx w.Asked v11).bind fun asked =>
 (bif (([asked.Req.Who, asked.Req.Seq] : List Int) == [q.Who, q.Seq]) then
 ((impl_copied_Ins asked.Prog).bind fun ins =>
 some (Stp.ret (ins, true)))
 else
 some (Stp.nxt (w64 (v11 + 1)))))
 else
 some (Stp.brk ()))
theorem impl_ToldProg_b1_ok (w : TWorld) (q : TReq) (res : V) (outs : List (Option V)) (x1 : Exc ((List TIns) × Bool) Unit) (hb1 : HB cx impl_ToldProg_X res outs x1 impl_ToldProg_k1 (fun s => impl_ToldProg_S1)) (hr1 : HR res outs x1 impl_ToldProg_R impl_ToldProg_O) (st1 : Stp ((List TIns) × Bool) Int Unit) (hc1 : Cont x1 (fun s : Int => Fin cx impl_ToldProg_X res outs impl_ToldProg_k3 (impl_ToldProg_S2 w q s)) st1) (v11 : Int) (h : impl_ToldProg_b1 w q v11 = some st1) : Fin cx impl_ToldProg_X res outs impl_ToldProg_k3 (impl_ToldProg_S2 w q v11) :=
  P0 <|
 rg <| cdD 0 h (fun h =>
 rg <| ixS eAsked 0 h fun asked hasked h =>
 rg <| cdD 3 h (fun h =>
 rg <| cb impl_copied_Ins_t impl_copied_Ins_ok 2 false h fun ins h =>
 (retD h hc1 fun e => om (ins.length = ins.length) rfl <| fn0 Try.func8 (hr1 _ e))) (fun h =>
 rg <| (nxtD h hc1 fun hI => sg [] [3, 9, 10, 11] [(1, 0)] hI))) (fun h =>
 (brkD h hc1 fun e => sg [] [] [] (hb1 _ e)))
noncomputable def impl_ToldProg (w : TWorld) (q : TReq) : Option ((List TIns) × Bool) :=
  ((loop (fun s : Int => impl_ToldProg_b1 w q s) 0).bind fun x => x.go (fun r => some r) fun s => impl_ToldProg_k2)
theorem impl_ToldProg_ok {w : TWorld} {q : TReq} (r : (List TIns) × Bool) (h : impl_ToldProg w q = some r) : ACalls cx.P 8 [.agg (eWorld w), .agg (eReq q)] (impl_ToldProg_R r) (impl_ToldProg_O r) :=
  ACalls.of (cx := cx) (X := impl_ToldProg_X) (c := impl_ToldProg_c) Try.func8 (by kernel_rfl) (by kernel_rfl) (by kernel_rfl) (P0 <|
 rg2 <| loopJ h fun x hl hr hb => sg [] [3, 9, 10, 11] [(2, 0)] (loopD (I := fun s : Int => Fin cx impl_ToldProg_X (impl_ToldProg_R r) (impl_ToldProg_O r) impl_ToldProg_k3 (impl_ToldProg_S2 w q s)) hl fun s st h hc => impl_ToldProg_b1_ok w q _ _ x (fun s e => impl_ToldProg_k2_ok r (hb s e)) (fun v e => ⟨congrArg impl_ToldProg_R (Option.some.inj (hr v e)).symm, congrArg impl_ToldProg_O (Option.some.inj (hr v e)).symm⟩) st hc s h))

/-! ### laws_eqIns -/
noncomputable def laws_eqIns_c : Code := bodyOf Try.f23
noncomputable def laws_eqIns_X : Sig := { f := 23, fn := Try.f23, rms := [.val [] []], oms := [none, none] }
noncomputable def laws_eqIns_R (r : Bool) : V := .b r
noncomputable def laws_eqIns_O (r : Bool) : List (Option V) := [none, none]
noncomputable def laws_eqIns_t (i : Nat) (fr : Bool) (r : Bool) : Nat × Tell := (i, { a := .call [.val [] [], .val [] []] fr (laws_eqIns_R r) (laws_eqIns_O r) })
noncomputable def laws_eqIns (a : TIns) (b : TIns) : Option Bool :=
  (bif (a.Kind != b.Kind) then
 some false
 else
 (bif (a.A != b.A) then
 some false
 else
 (bif (a.B != b.B) then
 some false
 else
 (bif (a.N != b.N) then
 some false
 else
 some true))))
theorem laws_eqIns_ok {a : TIns} {b : TIns} (r : Bool) (h : laws_eqIns a b = some r) : ACalls cx.P 23 [.agg (eIns a), .agg (eIns b)] (laws_eqIns_R r) (laws_eqIns_O r) :=
  ACalls.of (cx := cx) (X := laws_eqIns_X) (c := laws_eqIns_c) Try.func23 (by kernel_rfl) (by kernel_rfl) (by kernel_rfl) (P0 <|
 rg2 <| cdD 4 h (fun h =>
 rg <| fe Try.func23 h) (fun h =>
 rg <| cdD 4 h (fun h =>
 rg <| fe Try.func23 h) (fun h =>
 rg <| cdD 4 h (fun h =>
 rg <| fe Try.func23 h) (fun h =>
 rg <| cdD 4 h (fun h =>
 rg <| fe Try.func23 h) (fun h =>
 rg <| fe Try.func23 h)))))

/-! ### laws_eqInsS -/
noncomputable def laws_eqInsS_c : Code := bodyOf Try.f9
noncomputable def laws_eqInsS_X : Sig := { f := 9, fn := Try.f9, rms := [.val [] []], oms := [none, none] }
noncomputable def laws_eqInsS_R (r : Bool) : V := .b r
noncomputable def laws_eqInsS_O (r : Bool) : List (Option V) := [none, none]
noncomputable def laws_eqInsS_t (i : Nat) (fr : Bool) (r : Bool) : Nat × Tell := (i, { a := .call [.val [some 4] [], .val [some 4] []] fr (laws_eqInsS_R r) (laws_eqInsS_O r) })
noncomputable def laws_eqInsS_k1 : List Item := posI 2000 4 [false, false] [.code laws_eqInsS_c]
noncomputable def laws_eqInsS_S1 : St := ⟨(bs 27 []), [some []]⟩
noncomputable def laws_eqInsS_k2 : Option Bool :=
  some true
theorem laws_eqInsS_k2_ok (r : Bool) (h : laws_eqInsS_k2 = some r) : Fin cx laws_eqInsS_X (laws_eqInsS_R r) (laws_eqInsS_O r) laws_eqInsS_k1 (laws_eqInsS_S1) :=
  P0 <|
 rg <| fe Try.func9 h
noncomputable def laws_eqInsS_k3 : List Item := posI 2000 3 [false] [.code laws_eqInsS_c]
noncomputable def laws_eqInsS_S2 (a : List TIns) (b : List TIns) (i : Int) : St := ⟨(vsl 4 eIns a :: (vsl 4 eIns b :: (bs 3 (vi i :: (bs 21 []))))), [some []]⟩
noncomputable def laws_eqInsS_b1 (a : List TIns) (b : List TIns) (i : Int) : Option (Stp Bool Int Unit) :=
  (bif decide (i < (a.length : Int)) then
 ((idx a i).bind fun ins =>
 ((idx b i).bind fun ins1 =>
 ((laws_eqIns ins ins1).bind fun eqIns =>
 (bif (!eqIns) then
 some (Stp.ret false)
 else
 some (Stp.nxt (w64 (i + 1)))))))
 else
 some (Stp.brk ()))
theorem laws_eqInsS_b1_ok (a : List TIns) (b : List TIns) (res : V) (outs : List (Option V)) (x1 : Exc Bool Unit) (hb1 : HB cx laws_eqInsS_X res outs x1 laws_eqInsS_k1 (fun s => laws_eqInsS_S1)) (hr1 : HR res outs x1 laws_eqInsS_R laws_eqInsS_O) (st1 : Stp Bool Int Unit) (hc1 : Cont x1 (fun s : Int => Fin cx laws_eqInsS_X res outs laws_eqInsS_k3 (laws_eqInsS_S2 a b s)) st1) (i : Int) (h : laws_eqInsS_b1 a b i = some st1) : Fin cx laws_eqInsS_X res outs laws_eqInsS_k3 (laws_eqInsS_S2 a b i) :=
  P0 <|
 rg <| cdD 3 h (fun h =>
 rg <| ixS eIns 2 h fun ins hins h =>
 ixS eIns 6 h fun ins1 hins1 h =>
 cb laws_eqIns_t laws_eqIns_ok 8 false h fun eqIns h =>
 cdD 9 h (fun h =>
 rg <| (retD h hc1 fun e => fn0 Try.func9 (hr1 _ e))) (fun h =>
 rg <| (nxtD h hc1 fun hI => sg [] [0, 1, 5] [] hI))) (fun h =>
 (brkD h hc1 fun e => sg [] [] [] (hb1 _ e)))
noncomputable def laws_eqInsS (a : List TIns) (b : List TIns) : Option Bool :=
  (bif ((a.length : Int) != (b.length : Int)) then
 some false
 else
 ((loop (fun s : Int => laws_eqInsS_b1 a b s) 0).bind fun x => x.go (fun r => some r) fun s => laws_eqInsS_k2))
theorem laws_eqInsS_ok {a : List TIns} {b : List TIns} (r : Bool) (h : laws_eqInsS a b = some r) : ACalls cx.P 9 [vsl 4 eIns a, vsl 4 eIns b] (laws_eqInsS_R r) (laws_eqInsS_O r) :=
  ACalls.of (cx := cx) (X := laws_eqInsS_X) (c := laws_eqInsS_c) Try.func9 (by kernel_rfl) (by kernel_rfl) (by kernel_rfl) (P0 <|
 rg2 <| cdD 4 h (fun h =>
 rg <| fe Try.func9 h) (fun h =>
 rg <| loopJ h fun x hl hr hb => sg [] [0, 1, 5] [] (loopD (I := fun s : Int => Fin cx laws_eqInsS_X (laws_eqInsS_R r) (laws_eqInsS_O r) laws_eqInsS_k3 (laws_eqInsS_S2 a b s)) hl fun s st h hc => laws_eqInsS_b1_ok a b _ _ x (fun s e => laws_eqInsS_k2_ok r (hb s e)) (fun v e => ⟨congrArg laws_eqInsS_R (Option.some.inj (hr v e)).symm, congrArg laws_eqInsS_O (Option.some.inj (hr v e)).symm⟩) st hc s h)))

/-! ### laws_eqReq -/
noncomputable def laws_eqReq_c : Code := bodyOf Try.f65
noncomputable def laws_eqReq_X : Sig := { f := 65, fn := Try.f65, rms := [.val [] []], oms := [none, none] }
noncomputable def laws_eqReq_R (r : Bool) : V := .b r
noncomputable def laws_eqReq_O (r : Bool) : List (Option V) := [none, none]
noncomputable def laws_eqReq_t (i : Nat) (fr : Bool) (r : Bool) : Nat × Tell := (i, { a := .call [.val [] [], .val [] []] fr (laws_eqReq_R r) (laws_eqReq_O r) })
noncomputable def laws_eqReq (a : TReq) (b : TReq) : Option Bool :=
  (bif (a.Who != b.Who) then
 some false
 else
 (bif (a.Seq != b.Seq) then
 some false
 else
 some true))
theorem laws_eqReq_ok {a : TReq} {b : TReq} (r : Bool) (h : laws_eqReq a b = some r) : ACalls cx.P 65 [.agg (eReq a), .agg (eReq b)] (laws_eqReq_R r) (laws_eqReq_O r) :=
  ACalls.of (cx := cx) (X := laws_eqReq_X) (c := laws_eqReq_c) Try.func65 (by kernel_rfl) (by kernel_rfl) (by kernel_rfl) (P0 <|
 rg2 <| cdD 4 h (fun h =>
 rg <| fe Try.func65 h) (fun h =>
 rg <| cdD 4 h (fun h =>
 rg <| fe Try.func65 h) (fun h =>
 rg <| fe Try.func65 h)))

/-! ### laws_eqRead -/
noncomputable def laws_eqRead_c : Code := bodyOf Try.f81
noncomputable def laws_eqRead_X : Sig := { f := 81, fn := Try.f81, rms := [.val [] []], oms := [none, none] }
noncomputable def laws_eqRead_R (r : Bool) : V := .b r
noncomputable def laws_eqRead_O (r : Bool) : List (Option V) := [none, none]
noncomputable def laws_eqRead_t (i : Nat) (fr : Bool) (r : Bool) : Nat × Tell := (i, { a := .call [.val [] [], .val [] []] fr (laws_eqRead_R r) (laws_eqRead_O r) })
noncomputable def laws_eqRead (a : TRead) (b : TRead) : Option Bool :=
  (bif (a.Box != b.Box) then
 some false
 else
 (bif (a.Ver != b.Ver) then
 some false
 else
 some true))
theorem laws_eqRead_ok {a : TRead} {b : TRead} (r : Bool) (h : laws_eqRead a b = some r) : ACalls cx.P 81 [.agg (eRead a), .agg (eRead b)] (laws_eqRead_R r) (laws_eqRead_O r) :=
  ACalls.of (cx := cx) (X := laws_eqRead_X) (c := laws_eqRead_c) Try.func81 (by kernel_rfl) (by kernel_rfl) (by kernel_rfl) (P0 <|
 rg2 <| cdD 4 h (fun h =>
 rg <| fe Try.func81 h) (fun h =>
 rg <| cdD 4 h (fun h =>
 rg <| fe Try.func81 h) (fun h =>
 rg <| fe Try.func81 h)))

/-! ### laws_eqReadS -/
noncomputable def laws_eqReadS_c : Code := bodyOf Try.f77
noncomputable def laws_eqReadS_X : Sig := { f := 77, fn := Try.f77, rms := [.val [] []], oms := [none, none] }
noncomputable def laws_eqReadS_R (r : Bool) : V := .b r
noncomputable def laws_eqReadS_O (r : Bool) : List (Option V) := [none, none]
noncomputable def laws_eqReadS_t (i : Nat) (fr : Bool) (r : Bool) : Nat × Tell := (i, { a := .call [.val [some 2] [], .val [some 2] []] fr (laws_eqReadS_R r) (laws_eqReadS_O r) })
noncomputable def laws_eqReadS_k1 : List Item := posI 2000 4 [false, false] [.code laws_eqReadS_c]
noncomputable def laws_eqReadS_S1 : St := ⟨(bs 27 []), [some []]⟩
noncomputable def laws_eqReadS_k2 : Option Bool :=
  some true
theorem laws_eqReadS_k2_ok (r : Bool) (h : laws_eqReadS_k2 = some r) : Fin cx laws_eqReadS_X (laws_eqReadS_R r) (laws_eqReadS_O r) laws_eqReadS_k1 (laws_eqReadS_S1) :=
  P0 <|
 rg <| fe Try.func77 h
noncomputable def laws_eqReadS_k3 : List Item := posI 2000 3 [false] [.code laws_eqReadS_c]
noncomputable def laws_eqReadS_S2 (a : List TRead) (b : List TRead) (i : Int) : St := ⟨(vsl 2 eRead a :: (vsl 2 eRead b :: (bs 3 (vi i :: (bs 21 []))))), [some []]⟩
noncomputable def laws_eqReadS_b1 (a : List TRead) (b : List TRead) (i : Int) : Option (Stp Bool Int Unit) :=
  (bif decide (i < (a.length : Int)) then
 ((idx a i).bind fun read =>
 ((idx b i).bind fun read1 =>
 ((laws_eqRead read read1).bind fun eqRead =>
 (bif (!eqRead) then
 some (Stp.ret false)
 else
 some (Stp.nxt (w64 (i + 1)))))))
 else
 some (Stp.brk ()))
theorem laws_eqReadS_b1_ok (a : List TRead) (b : List TRead) (res : V) (outs : List (Option V)) (x1 : Exc Bool Unit) (hb1 : HB cx laws_eqReadS_X res outs x1 laws_eqReadS_k1 (fun s => laws_eqReadS_S1)) (hr1 : HR res outs x1 laws_eqReadS_R laws_eqReadS_O) (st1 : Stp Bool Int Unit) (hc1 : Cont x1 (fun s : Int => Fin cx laws_eqReadS_X res outs laws_eqReadS_k3 (laws_eqReadS_S2 a b s)) st1) (i : Int) (h : laws_eqReadS_b1 a b i = some st1) : Fin cx laws_eqReadS_X res outs laws_eqReadS_k3 (laws_eqReadS_S2 a b i) :=
  P0 <|
 rg <| cdD 3 h (fun h =>
 rg <| ixS eRead 2 h fun read hread h =>
 ixS eRead 6 h fun read1 hread1 h =>
 cb laws_eqRead_t laws_eqRead_ok 8 false h fun eqRead h =>
 cdD 9 h (fun h =>
 rg <| (retD h hc1 fun e => fn0 Try.func77 (hr1 _ e))) (fun h =>
 rg <| (nxtD h hc1 fun hI => sg [] [0, 1, 5] [] hI))) (fun h =>
 (brkD h hc1 fun e => sg [] [] [] (hb1 _ e)))
noncomputable def laws_eqReadS (a : List TRead) (b : List TRead) : Option Bool :=
  (bif ((a.length : Int) != (b.length : Int)) then
 some false
 else
 ((loop (fun s : Int => laws_eqReadS_b1 a b s) 0).bind fun x => x.go (fun r => some r) fun s => laws_eqReadS_k2))
theorem laws_eqReadS_ok {a : List TRead} {b : List TRead} (r : Bool) (h : laws_eqReadS a b = some r) : ACalls cx.P 77 [vsl 2 eRead a, vsl 2 eRead b] (laws_eqReadS_R r) (laws_eqReadS_O r) :=
  ACalls.of (cx := cx) (X := laws_eqReadS_X) (c := laws_eqReadS_c) Try.func77 (by kernel_rfl) (by kernel_rfl) (by kernel_rfl) (P0 <|
 rg2 <| cdD 4 h (fun h =>
 rg <| fe Try.func77 h) (fun h =>
 rg <| loopJ h fun x hl hr hb => sg [] [0, 1, 5] [] (loopD (I := fun s : Int => Fin cx laws_eqReadS_X (laws_eqReadS_R r) (laws_eqReadS_O r) laws_eqReadS_k3 (laws_eqReadS_S2 a b s)) hl fun s st h hc => laws_eqReadS_b1_ok a b _ _ x (fun s e => laws_eqReadS_k2_ok r (hb s e)) (fun v e => ⟨congrArg laws_eqReadS_R (Option.some.inj (hr v e)).symm, congrArg laws_eqReadS_O (Option.some.inj (hr v e)).symm⟩) st hc s h)))

/-! ### laws_eqPut -/
noncomputable def laws_eqPut_c : Code := bodyOf Try.f82
noncomputable def laws_eqPut_X : Sig := { f := 82, fn := Try.f82, rms := [.val [] []], oms := [none, none] }
noncomputable def laws_eqPut_R (r : Bool) : V := .b r
noncomputable def laws_eqPut_O (r : Bool) : List (Option V) := [none, none]
noncomputable def laws_eqPut_t (i : Nat) (fr : Bool) (r : Bool) : Nat × Tell := (i, { a := .call [.val [] [], .val [] []] fr (laws_eqPut_R r) (laws_eqPut_O r) })
noncomputable def laws_eqPut (a : TPut) (b : TPut) : Option Bool :=
  (bif (a.Box != b.Box) then
 some false
 else
 (bif (a.Val != b.Val) then
 some false
 else
 some true))
theorem laws_eqPut_ok {a : TPut} {b : TPut} (r : Bool) (h : laws_eqPut a b = some r) : ACalls cx.P 82 [.agg (ePut a), .agg (ePut b)] (laws_eqPut_R r) (laws_eqPut_O r) :=
  ACalls.of (cx := cx) (X := laws_eqPut_X) (c := laws_eqPut_c) Try.func82 (by kernel_rfl) (by kernel_rfl) (by kernel_rfl) (P0 <|
 rg2 <| cdD 4 h (fun h =>
 rg <| fe Try.func82 h) (fun h =>
 rg <| cdD 4 h (fun h =>
 rg <| fe Try.func82 h) (fun h =>
 rg <| fe Try.func82 h)))

/-! ### laws_eqPutS -/
noncomputable def laws_eqPutS_c : Code := bodyOf Try.f78
noncomputable def laws_eqPutS_X : Sig := { f := 78, fn := Try.f78, rms := [.val [] []], oms := [none, none] }
noncomputable def laws_eqPutS_R (r : Bool) : V := .b r
noncomputable def laws_eqPutS_O (r : Bool) : List (Option V) := [none, none]
noncomputable def laws_eqPutS_t (i : Nat) (fr : Bool) (r : Bool) : Nat × Tell := (i, { a := .call [.val [some 2] [], .val [some 2] []] fr (laws_eqPutS_R r) (laws_eqPutS_O r) })
noncomputable def laws_eqPutS_k1 : List Item := posI 2000 4 [false, false] [.code laws_eqPutS_c]
noncomputable def laws_eqPutS_S1 : St := ⟨(bs 27 []), [some []]⟩
noncomputable def laws_eqPutS_k2 : Option Bool :=
  some true
theorem laws_eqPutS_k2_ok (r : Bool) (h : laws_eqPutS_k2 = some r) : Fin cx laws_eqPutS_X (laws_eqPutS_R r) (laws_eqPutS_O r) laws_eqPutS_k1 (laws_eqPutS_S1) :=
  P0 <|
 rg <| fe Try.func78 h
noncomputable def laws_eqPutS_k3 : List Item := posI 2000 3 [false] [.code laws_eqPutS_c]
noncomputable def laws_eqPutS_S2 (a : List TPut) (b : List TPut) (i : Int) : St := ⟨(vsl 2 ePut a :: (vsl 2 ePut b :: (bs 3 (vi i :: (bs 21 []))))), [some []]⟩
noncomputable def laws_eqPutS_b1 (a : List TPut) (b : List TPut) (i : Int) : Option (Stp Bool Int Unit) :=
  (bif decide (i < (a.length : Int)) then
 ((idx a i).bind fun put =>
 ((idx b i).bind fun put1 =>
 ((laws_eqPut put put1).bind fun eqPut =>
 (bif (!eqPut) then
 some (Stp.ret false)
 else
 some (Stp.nxt (w64 (i + 1)))))))
 else
 some (Stp.brk ()))
theorem laws_eqPutS_b1_ok (a : List TPut) (b : List TPut) (res : V) (outs : List (Option V)) (x1 : Exc Bool Unit) (hb1 : HB cx laws_eqPutS_X res outs x1 laws_eqPutS_k1 (fun s => laws_eqPutS_S1)) (hr1 : HR res outs x1 laws_eqPutS_R laws_eqPutS_O) (st1 : Stp Bool Int Unit) (hc1 : Cont x1 (fun s : Int => Fin cx laws_eqPutS_X res outs laws_eqPutS_k3 (laws_eqPutS_S2 a b s)) st1) (i : Int) (h : laws_eqPutS_b1 a b i = some st1) : Fin cx laws_eqPutS_X res outs laws_eqPutS_k3 (laws_eqPutS_S2 a b i) :=
  P0 <|
 rg <| cdD 3 h (fun h =>
 rg <| ixS ePut 2 h fun put hput h =>
 ixS ePut 6 h fun put1 hput1 h =>
 cb laws_eqPut_t laws_eqPut_ok 8 false h fun eqPut h =>
 cdD 9 h (fun h =>
 rg <| (retD h hc1 fun e => fn0 Try.func78 (hr1 _ e))) (fun h =>
 rg <| (nxtD h hc1 fun hI => sg [] [0, 1, 5] [] hI))) (fun h =>
 (brkD h hc1 fun e => sg [] [] [] (hb1 _ e)))
noncomputable def laws_eqPutS (a : List TPut) (b : List TPut) : Option Bool :=
  (bif ((a.length : Int) != (b.length : Int)) then
 some false
 else
 ((loop (fun s : Int => laws_eqPutS_b1 a b s) 0).bind fun x => x.go (fun r => some r) fun s => laws_eqPutS_k2))
theorem laws_eqPutS_ok {a : List TPut} {b : List TPut} (r : Bool) (h : laws_eqPutS a b = some r) : ACalls cx.P 78 [vsl 2 ePut a, vsl 2 ePut b] (laws_eqPutS_R r) (laws_eqPutS_O r) :=
  ACalls.of (cx := cx) (X := laws_eqPutS_X) (c := laws_eqPutS_c) Try.func78 (by kernel_rfl) (by kernel_rfl) (by kernel_rfl) (P0 <|
 rg2 <| cdD 4 h (fun h =>
 rg <| fe Try.func78 h) (fun h =>
 rg <| loopJ h fun x hl hr hb => sg [] [0, 1, 5] [] (loopD (I := fun s : Int => Fin cx laws_eqPutS_X (laws_eqPutS_R r) (laws_eqPutS_O r) laws_eqPutS_k3 (laws_eqPutS_S2 a b s)) hl fun s st h hc => laws_eqPutS_b1_ok a b _ _ x (fun s e => laws_eqPutS_k2_ok r (hb s e)) (fun v e => ⟨congrArg laws_eqPutS_R (Option.some.inj (hr v e)).symm, congrArg laws_eqPutS_O (Option.some.inj (hr v e)).symm⟩) st hc s h)))

/-! ### laws_eqRun -/
noncomputable def laws_eqRun_c : Code := bodyOf Try.f72
noncomputable def laws_eqRun_X : Sig := { f := 72, fn := Try.f72, rms := [.val [] []], oms := [none, none] }
noncomputable def laws_eqRun_R (r : Bool) : V := .b r
noncomputable def laws_eqRun_O (r : Bool) : List (Option V) := [none, none]
noncomputable def laws_eqRun_t (i : Nat) (fr : Bool) (r : Bool) : Nat × Tell := (i, { a := .call [.val ck98 [], .val ck98 []] fr (laws_eqRun_R r) (laws_eqRun_O r) })
noncomputable def laws_eqRun (a : TRun) (b : TRun) : Option Bool :=
  ((laws_eqReadS a.Reads b.Reads).bind fun eqReadS =>
 (bif (!eqReadS) then
 some false
 else
 ((laws_eqPutS a.Puts b.Puts).bind fun eqPutS =>
 (bif (!eqPutS) then
 some false
 else
 (bif (a.Val != b.Val) then
 some false
 else
 (bif (a.Code != b.Code) then
 some false
 else
 some true))))))
theorem laws_eqRun_ok {a : TRun} {b : TRun} (r : Bool) (h : laws_eqRun a b = some r) : ACalls cx.P 72 [.agg (eRun a), .agg (eRun b)] (laws_eqRun_R r) (laws_eqRun_O r) :=
  ACalls.of (cx := cx) (X := laws_eqRun_X) (c := laws_eqRun_c) Try.func72 (by kernel_rfl) (by kernel_rfl) (by kernel_rfl) (P0 <|
 rg2 <| cb laws_eqReadS_t laws_eqReadS_ok 4 false h fun eqReadS h =>
 cdD 5 h (fun h =>
 rg <| fe Try.func72 h) (fun h =>
 rg <| cb laws_eqPutS_t laws_eqPutS_ok 4 false h fun eqPutS h =>
 cdD 5 h (fun h =>
 rg <| fe Try.func72 h) (fun h =>
 rg <| cdD 4 h (fun h =>
 rg <| fe Try.func72 h) (fun h =>
 rg <| cdD 4 h (fun h =>
 rg <| fe Try.func72 h) (fun h =>
 rg <| fe Try.func72 h)))))

/-! ### laws_eqEntry -/
noncomputable def laws_eqEntry_c : Code := bodyOf Try.f64
noncomputable def laws_eqEntry_X : Sig := { f := 64, fn := Try.f64, rms := [.val [] []], oms := [none, none] }
noncomputable def laws_eqEntry_R (r : Bool) : V := .b r
noncomputable def laws_eqEntry_O (r : Bool) : List (Option V) := [none, none]
noncomputable def laws_eqEntry_t (i : Nat) (fr : Bool) (r : Bool) : Nat × Tell := (i, { a := .call [.val ck100 [], .val ck100 []] fr (laws_eqEntry_R r) (laws_eqEntry_O r) })
noncomputable def laws_eqEntry (a : TEntry) (b : TEntry) : Option Bool :=
  (bif (!(a.None == b.None)) then
 some false
 else
 ((laws_eqReq a.Req b.Req).bind fun eqReq =>
 (bif (!eqReq) then
 some false
 else
 ((laws_eqRun a.Run b.Run).bind fun eqRun =>
 (bif (!eqRun) then
 some false
 else
 some true)))))
theorem laws_eqEntry_ok {a : TEntry} {b : TEntry} (r : Bool) (h : laws_eqEntry a b = some r) : ACalls cx.P 64 [.agg (eEntry a), .agg (eEntry b)] (laws_eqEntry_R r) (laws_eqEntry_O r) :=
  ACalls.of (cx := cx) (X := laws_eqEntry_X) (c := laws_eqEntry_c) Try.func64 (by kernel_rfl) (by kernel_rfl) (by kernel_rfl) (P0 <|
 rg2 <| cdD 4 h (fun h =>
 rg <| fe Try.func64 h) (fun h =>
 rg <| cb laws_eqReq_t laws_eqReq_ok 4 false h fun eqReq h =>
 cdD 5 h (fun h =>
 rg <| fe Try.func64 h) (fun h =>
 rg <| cb laws_eqRun_t laws_eqRun_ok 4 false h fun eqRun h =>
 cdD 5 h (fun h =>
 rg <| fe Try.func64 h) (fun h =>
 rg <| fe Try.func64 h))))

/-! ### laws_eqVote -/
noncomputable def laws_eqVote_c : Code := bodyOf Try.f71
noncomputable def laws_eqVote_X : Sig := { f := 71, fn := Try.f71, rms := [.val [] []], oms := [none, none] }
noncomputable def laws_eqVote_R (r : Bool) : V := .b r
noncomputable def laws_eqVote_O (r : Bool) : List (Option V) := [none, none]
noncomputable def laws_eqVote_t (i : Nat) (fr : Bool) (r : Bool) : Nat × Tell := (i, { a := .call [.val ck140 [], .val ck140 []] fr (laws_eqVote_R r) (laws_eqVote_O r) })
noncomputable def laws_eqVote (a : TVote) (b : TVote) : Option Bool :=
  (bif (a.Bal != b.Bal) then
 some false
 else
 ((laws_eqEntry a.Entry b.Entry).bind fun eqEntry =>
 (bif (!eqEntry) then
 some false
 else
 some true)))
theorem laws_eqVote_ok {a : TVote} {b : TVote} (r : Bool) (h : laws_eqVote a b = some r) : ACalls cx.P 71 [.agg (eVote a), .agg (eVote b)] (laws_eqVote_R r) (laws_eqVote_O r) :=
  ACalls.of (cx := cx) (X := laws_eqVote_X) (c := laws_eqVote_c) Try.func71 (by kernel_rfl) (by kernel_rfl) (by kernel_rfl) (P0 <|
 rg2 <| cdD 4 h (fun h =>
 rg <| fe Try.func71 h) (fun h =>
 rg <| cb laws_eqEntry_t laws_eqEntry_ok 4 false h fun eqEntry h =>
 cdD 5 h (fun h =>
 rg <| fe Try.func71 h) (fun h =>
 rg <| fe Try.func71 h)))

/-! ### laws_eqVoteS -/
noncomputable def laws_eqVoteS_c : Code := bodyOf Try.f63
noncomputable def laws_eqVoteS_X : Sig := { f := 63, fn := Try.f63, rms := [.val [] []], oms := [none, none] }
noncomputable def laws_eqVoteS_R (r : Bool) : V := .b r
noncomputable def laws_eqVoteS_O (r : Bool) : List (Option V) := [none, none]
noncomputable def laws_eqVoteS_t (i : Nat) (fr : Bool) (r : Bool) : Nat × Tell := (i, { a := .call [.val [some 8] [], .val [some 8] []] fr (laws_eqVoteS_R r) (laws_eqVoteS_O r) })
noncomputable def laws_eqVoteS_k1 : List Item := posI 2000 4 [false, false] [.code laws_eqVoteS_c]
noncomputable def laws_eqVoteS_S1 : St := ⟨(bs 27 []), [some []]⟩
noncomputable def laws_eqVoteS_k2 : Option Bool :=
  some true
theorem laws_eqVoteS_k2_ok (r : Bool) (h : laws_eqVoteS_k2 = some r) : Fin cx laws_eqVoteS_X (laws_eqVoteS_R r) (laws_eqVoteS_O r) laws_eqVoteS_k1 (laws_eqVoteS_S1) :=
  P0 <|
 rg <| fe Try.func63 h
noncomputable def laws_eqVoteS_k3 : List Item := posI 2000 3 [false] [.code laws_eqVoteS_c]
noncomputable def laws_eqVoteS_S2 (a : List TVote) (b : List TVote) (i : Int) : St := ⟨(vsl 8 eVote a :: (vsl 8 eVote b :: (bs 3 (vi i :: (bs 21 []))))), [some []]⟩
noncomputable def laws_eqVoteS_b1 (a : List TVote) (b : List TVote) (i : Int) : Option (Stp Bool Int Unit) :=
  (bif decide (i < (a.length : Int)) then
 ((idx a i).bind fun vote =>
 ((idx b i).bind fun vote1 =>
 ((laws_eqVote vote vote1).bind fun eqVote =>
 (bif (!eqVote) then
 some (Stp.ret false)
 else
 some (Stp.nxt (w64 (i + 1)))))))
 else
 some (Stp.brk ()))
theorem laws_eqVoteS_b1_ok (a : List TVote) (b : List TVote) (res : V) (outs : List (Option V)) (x1 : Exc Bool Unit) (hb1 : HB cx laws_eqVoteS_X res outs x1 laws_eqVoteS_k1 (fun s => laws_eqVoteS_S1)) (hr1 : HR res outs x1 laws_eqVoteS_R laws_eqVoteS_O) (st1 : Stp Bool Int Unit) (hc1 : Cont x1 (fun s : Int => Fin cx laws_eqVoteS_X res outs laws_eqVoteS_k3 (laws_eqVoteS_S2 a b s)) st1) (i : Int) (h : laws_eqVoteS_b1 a b i = some st1) : Fin cx laws_eqVoteS_X res outs laws_eqVoteS_k3 (laws_eqVoteS_S2 a b i) :=
  P0 <|
 rg <| cdD 3 h (fun h =>
 rg <| ixS eVote 2 h fun vote hvote h =>
 ixS eVote 6 h fun vote1 hvote1 h =>
 cb laws_eqVote_t laws_eqVote_ok 8 false h fun eqVote h =>
 cdD 9 h (fun h =>
 rg <| (retD h hc1 fun e => fn0 Try.func63 (hr1 _ e))) (fun h =>
 rg <| (nxtD h hc1 fun hI => sg [] [0, 1, 5] [] hI))) (fun h =>
 (brkD h hc1 fun e => sg [] [] [] (hb1 _ e)))
noncomputable def laws_eqVoteS (a : List TVote) (b : List TVote) : Option Bool :=
  (bif ((a.length : Int) != (b.length : Int)) then
 some false
 else
 ((loop (fun s : Int => laws_eqVoteS_b1 a b s) 0).bind fun x => x.go (fun r => some r) fun s => laws_eqVoteS_k2))
theorem laws_eqVoteS_ok {a : List TVote} {b : List TVote} (r : Bool) (h : laws_eqVoteS a b = some r) : ACalls cx.P 63 [vsl 8 eVote a, vsl 8 eVote b] (laws_eqVoteS_R r) (laws_eqVoteS_O r) :=
  ACalls.of (cx := cx) (X := laws_eqVoteS_X) (c := laws_eqVoteS_c) Try.func63 (by kernel_rfl) (by kernel_rfl) (by kernel_rfl) (P0 <|
 rg2 <| cdD 4 h (fun h =>
 rg <| fe Try.func63 h) (fun h =>
 rg <| loopJ h fun x hl hr hb => sg [] [0, 1, 5] [] (loopD (I := fun s : Int => Fin cx laws_eqVoteS_X (laws_eqVoteS_R r) (laws_eqVoteS_O r) laws_eqVoteS_k3 (laws_eqVoteS_S2 a b s)) hl fun s st h hc => laws_eqVoteS_b1_ok a b _ _ x (fun s e => laws_eqVoteS_k2_ok r (hb s e)) (fun v e => ⟨congrArg laws_eqVoteS_R (Option.some.inj (hr v e)).symm, congrArg laws_eqVoteS_O (Option.some.inj (hr v e)).symm⟩) st hc s h)))

/-! ### laws_eqAcc -/
noncomputable def laws_eqAcc_c : Code := bodyOf Try.f60
noncomputable def laws_eqAcc_X : Sig := { f := 60, fn := Try.f60, rms := [.val [] []], oms := [none, none] }
noncomputable def laws_eqAcc_R (r : Bool) : V := .b r
noncomputable def laws_eqAcc_O (r : Bool) : List (Option V) := [none, none]
noncomputable def laws_eqAcc_t (i : Nat) (fr : Bool) (r : Bool) : Nat × Tell := (i, { a := .call [.val [none, some 8] [], .val [none, some 8] []] fr (laws_eqAcc_R r) (laws_eqAcc_O r) })
noncomputable def laws_eqAcc (a : TAcc) (b : TAcc) : Option Bool :=
  (bif (a.Promised != b.Promised) then
 some false
 else
 ((laws_eqVoteS a.Votes b.Votes).bind fun eqVoteS =>
 (bif (!eqVoteS) then
 some false
 else
 some true)))
theorem laws_eqAcc_ok {a : TAcc} {b : TAcc} (r : Bool) (h : laws_eqAcc a b = some r) : ACalls cx.P 60 [.agg (eAcc a), .agg (eAcc b)] (laws_eqAcc_R r) (laws_eqAcc_O r) :=
  ACalls.of (cx := cx) (X := laws_eqAcc_X) (c := laws_eqAcc_c) Try.func60 (by kernel_rfl) (by kernel_rfl) (by kernel_rfl) (P0 <|
 rg2 <| cdD 4 h (fun h =>
 rg <| fe Try.func60 h) (fun h =>
 rg <| cb laws_eqVoteS_t laws_eqVoteS_ok 4 false h fun eqVoteS h =>
 cdD 5 h (fun h =>
 rg <| fe Try.func60 h) (fun h =>
 rg <| fe Try.func60 h)))

/-! ### laws_eqEntryS -/
noncomputable def laws_eqEntryS_c : Code := bodyOf Try.f61
noncomputable def laws_eqEntryS_X : Sig := { f := 61, fn := Try.f61, rms := [.val [] []], oms := [none, none] }
noncomputable def laws_eqEntryS_R (r : Bool) : V := .b r
noncomputable def laws_eqEntryS_O (r : Bool) : List (Option V) := [none, none]
noncomputable def laws_eqEntryS_t (i : Nat) (fr : Bool) (r : Bool) : Nat × Tell := (i, { a := .call [.val [some 7] [], .val [some 7] []] fr (laws_eqEntryS_R r) (laws_eqEntryS_O r) })
noncomputable def laws_eqEntryS_k1 : List Item := posI 2000 4 [false, false] [.code laws_eqEntryS_c]
noncomputable def laws_eqEntryS_S1 : St := ⟨(bs 27 []), [some []]⟩
noncomputable def laws_eqEntryS_k2 : Option Bool :=
  some true
theorem laws_eqEntryS_k2_ok (r : Bool) (h : laws_eqEntryS_k2 = some r) : Fin cx laws_eqEntryS_X (laws_eqEntryS_R r) (laws_eqEntryS_O r) laws_eqEntryS_k1 (laws_eqEntryS_S1) :=
  P0 <|
 rg <| fe Try.func61 h
noncomputable def laws_eqEntryS_k3 : List Item := posI 2000 3 [false] [.code laws_eqEntryS_c]
noncomputable def laws_eqEntryS_S2 (a : List TEntry) (b : List TEntry) (i : Int) : St := ⟨(vsl 7 eEntry a :: (vsl 7 eEntry b :: (bs 3 (vi i :: (bs 21 []))))), [some []]⟩
noncomputable def laws_eqEntryS_b1 (a : List TEntry) (b : List TEntry) (i : Int) : Option (Stp Bool Int Unit) :=
  (bif decide (i < (a.length : Int)) then
 ((idx a i).bind fun entry =>
 ((idx b i).bind fun entry1 =>
 ((laws_eqEntry entry entry1).bind fun eqEntry =>
 (bif (!eqEntry) then
 some (Stp.ret false)
 else
 some (Stp.nxt (w64 (i + 1)))))))
 else
 some (Stp.brk ()))
theorem laws_eqEntryS_b1_ok (a : List TEntry) (b : List TEntry) (res : V) (outs : List (Option V)) (x1 : Exc Bool Unit) (hb1 : HB cx laws_eqEntryS_X res outs x1 laws_eqEntryS_k1 (fun s => laws_eqEntryS_S1)) (hr1 : HR res outs x1 laws_eqEntryS_R laws_eqEntryS_O) (st1 : Stp Bool Int Unit) (hc1 : Cont x1 (fun s : Int => Fin cx laws_eqEntryS_X res outs laws_eqEntryS_k3 (laws_eqEntryS_S2 a b s)) st1) (i : Int) (h : laws_eqEntryS_b1 a b i = some st1) : Fin cx laws_eqEntryS_X res outs laws_eqEntryS_k3 (laws_eqEntryS_S2 a b i) :=
  P0 <|
 rg <| cdD 3 h (fun h =>
 rg <| ixS eEntry 2 h fun entry hentry h =>
 ixS eEntry 6 h fun entry1 hentry1 h =>
 cb laws_eqEntry_t laws_eqEntry_ok 8 false h fun eqEntry h =>
 cdD 9 h (fun h =>
 rg <| (retD h hc1 fun e => fn0 Try.func61 (hr1 _ e))) (fun h =>
 rg <| (nxtD h hc1 fun hI => sg [] [0, 1, 5] [] hI))) (fun h =>
 (brkD h hc1 fun e => sg [] [] [] (hb1 _ e)))
noncomputable def laws_eqEntryS (a : List TEntry) (b : List TEntry) : Option Bool :=
  (bif ((a.length : Int) != (b.length : Int)) then
 some false
 else
 ((loop (fun s : Int => laws_eqEntryS_b1 a b s) 0).bind fun x => x.go (fun r => some r) fun s => laws_eqEntryS_k2))
theorem laws_eqEntryS_ok {a : List TEntry} {b : List TEntry} (r : Bool) (h : laws_eqEntryS a b = some r) : ACalls cx.P 61 [vsl 7 eEntry a, vsl 7 eEntry b] (laws_eqEntryS_R r) (laws_eqEntryS_O r) :=
  ACalls.of (cx := cx) (X := laws_eqEntryS_X) (c := laws_eqEntryS_c) Try.func61 (by kernel_rfl) (by kernel_rfl) (by kernel_rfl) (P0 <|
 rg2 <| cdD 4 h (fun h =>
 rg <| fe Try.func61 h) (fun h =>
 rg <| loopJ h fun x hl hr hb => sg [] [0, 1, 5] [] (loopD (I := fun s : Int => Fin cx laws_eqEntryS_X (laws_eqEntryS_R r) (laws_eqEntryS_O r) laws_eqEntryS_k3 (laws_eqEntryS_S2 a b s)) hl fun s st h hc => laws_eqEntryS_b1_ok a b _ _ x (fun s e => laws_eqEntryS_k2_ok r (hb s e)) (fun v e => ⟨congrArg laws_eqEntryS_R (Option.some.inj (hr v e)).symm, congrArg laws_eqEntryS_O (Option.some.inj (hr v e)).symm⟩) st hc s h)))

/-! ### laws_eqBoolS -/
noncomputable def laws_eqBoolS_c : Code := bodyOf Try.f62
noncomputable def laws_eqBoolS_X : Sig := { f := 62, fn := Try.f62, rms := [.val [] []], oms := [none, none] }
noncomputable def laws_eqBoolS_R (r : Bool) : V := .b r
noncomputable def laws_eqBoolS_O (r : Bool) : List (Option V) := [none, none]
noncomputable def laws_eqBoolS_t (i : Nat) (fr : Bool) (r : Bool) : Nat × Tell := (i, { a := .call [.val [some 1] [], .val [some 1] []] fr (laws_eqBoolS_R r) (laws_eqBoolS_O r) })
noncomputable def laws_eqBoolS_k1 : List Item := posI 2000 4 [false, false] [.code laws_eqBoolS_c]
noncomputable def laws_eqBoolS_S1 : St := ⟨(bs 26 []), [some []]⟩
noncomputable def laws_eqBoolS_k2 : Option Bool :=
  some true
theorem laws_eqBoolS_k2_ok (r : Bool) (h : laws_eqBoolS_k2 = some r) : Fin cx laws_eqBoolS_X (laws_eqBoolS_R r) (laws_eqBoolS_O r) laws_eqBoolS_k1 (laws_eqBoolS_S1) :=
  P0 <|
 rg <| fe Try.func62 h
noncomputable def laws_eqBoolS_k3 : List Item := posI 2000 3 [false] [.code laws_eqBoolS_c]
noncomputable def laws_eqBoolS_S2 (a : List Bool) (b : List Bool) (i : Int) : St := ⟨(vsl 1 eB a :: (vsl 1 eB b :: (bs 3 (vi i :: (bs 20 []))))), [some []]⟩
noncomputable def laws_eqBoolS_b1 (a : List Bool) (b : List Bool) (i : Int) : Option (Stp Bool Int Unit) :=
  (bif decide (i < (a.length : Int)) then
 ((idx a i).bind fun y =>
 ((idx b i).bind fun y1 =>
 (bif (!(y == y1)) then
 some (Stp.ret false)
 else
 some (Stp.nxt (w64 (i + 1))))))
 else
 some (Stp.brk ()))
theorem laws_eqBoolS_b1_ok (a : List Bool) (b : List Bool) (res : V) (outs : List (Option V)) (x1 : Exc Bool Unit) (hb1 : HB cx laws_eqBoolS_X res outs x1 laws_eqBoolS_k1 (fun s => laws_eqBoolS_S1)) (hr1 : HR res outs x1 laws_eqBoolS_R laws_eqBoolS_O) (st1 : Stp Bool Int Unit) (hc1 : Cont x1 (fun s : Int => Fin cx laws_eqBoolS_X res outs laws_eqBoolS_k3 (laws_eqBoolS_S2 a b s)) st1) (i : Int) (h : laws_eqBoolS_b1 a b i = some st1) : Fin cx laws_eqBoolS_X res outs laws_eqBoolS_k3 (laws_eqBoolS_S2 a b i) :=
  P0 <|
 rg <| cdD 3 h (fun h =>
 rg <| ixS eB 2 h fun y hy h =>
 ixS eB 6 h fun y1 hy1 h =>
 cdD 8 h (fun h =>
 rg <| (retD h hc1 fun e => fn0 Try.func62 (hr1 _ e))) (fun h =>
 rg <| (nxtD h hc1 fun hI => sg [] [0, 1, 5] [] hI))) (fun h =>
 (brkD h hc1 fun e => sg [] [] [] (hb1 _ e)))
noncomputable def laws_eqBoolS (a : List Bool) (b : List Bool) : Option Bool :=
  (bif ((a.length : Int) != (b.length : Int)) then
 some false
 else
 ((loop (fun s : Int => laws_eqBoolS_b1 a b s) 0).bind fun x => x.go (fun r => some r) fun s => laws_eqBoolS_k2))
theorem laws_eqBoolS_ok {a : List Bool} {b : List Bool} (r : Bool) (h : laws_eqBoolS a b = some r) : ACalls cx.P 62 [vsl 1 eB a, vsl 1 eB b] (laws_eqBoolS_R r) (laws_eqBoolS_O r) :=
  ACalls.of (cx := cx) (X := laws_eqBoolS_X) (c := laws_eqBoolS_c) Try.func62 (by kernel_rfl) (by kernel_rfl) (by kernel_rfl) (P0 <|
 rg2 <| cdD 4 h (fun h =>
 rg <| fe Try.func62 h) (fun h =>
 rg <| loopJ h fun x hl hr hb => sg [] [0, 1, 5] [] (loopD (I := fun s : Int => Fin cx laws_eqBoolS_X (laws_eqBoolS_R r) (laws_eqBoolS_O r) laws_eqBoolS_k3 (laws_eqBoolS_S2 a b s)) hl fun s st h hc => laws_eqBoolS_b1_ok a b _ _ x (fun s e => laws_eqBoolS_k2_ok r (hb s e)) (fun v e => ⟨congrArg laws_eqBoolS_R (Option.some.inj (hr v e)).symm, congrArg laws_eqBoolS_O (Option.some.inj (hr v e)).symm⟩) st hc s h)))

/-! ### laws_eqNode -/
noncomputable def laws_eqNode_c : Code := bodyOf Try.f39
noncomputable def laws_eqNode_X : Sig := { f := 39, fn := Try.f39, rms := [.val [] []], oms := [none, none] }
noncomputable def laws_eqNode_R (r : Bool) : V := .b r
noncomputable def laws_eqNode_O (r : Bool) : List (Option V) := [none, none]
noncomputable def laws_eqNode_t (i : Nat) (fr : Bool) (r : Bool) : Nat × Tell := (i, { a := .call [.val ck102 [], .val ck102 []] fr (laws_eqNode_R r) (laws_eqNode_O r) })
noncomputable def laws_eqNode (a : TNode) (b : TNode) : Option Bool :=
  (bif (a.Id != b.Id) then
 some false
 else
 ((laws_eqAcc a.Acc b.Acc).bind fun eqAcc =>
 (bif (!eqAcc) then
 some false
 else
 ((laws_eqEntryS a.Known b.Known).bind fun eqEntryS =>
 (bif (!eqEntryS) then
 some false
 else
 (bif (a.Seq != b.Seq) then
 some false
 else
 (bif (a.Phase != b.Phase) then
 some false
 else
 (bif (a.Bal != b.Bal) then
 some false
 else
 ((laws_eqBoolS a.From b.From).bind fun eqBoolS =>
 (bif (!eqBoolS) then
 some false
 else
 ((laws_eqVoteS a.Best b.Best).bind fun eqVoteS =>
 (bif (!eqVoteS) then
 some false
 else
 ((laws_eqEntry a.Cur b.Cur).bind fun eqEntry =>
 (bif (!eqEntry) then
 some false
 else
 ((laws_eqBoolS a.Votes b.Votes).bind fun eqBoolS1 =>
 (bif (!eqBoolS1) then
 some false
 else
 (bif (!(a.Busy == b.Busy)) then
 some false
 else
 ((laws_eqInsS a.Prog b.Prog).bind fun eqInsS =>
 (bif (!eqInsS) then
 some false
 else
 ((laws_eqEntry a.Want b.Want).bind fun eqEntry1 =>
 (bif (!eqEntry1) then
 some false
 else
 ((laws_eqEntryS a.Queue b.Queue).bind fun eqEntryS1 =>
 (bif (!eqEntryS1) then
 some false
 else
 some true)))))))))))))))))))))))
theorem laws_eqNode_ok {a : TNode} {b : TNode} (r : Bool) (h : laws_eqNode a b = some r) : ACalls cx.P 39 [.agg (eNode a), .agg (eNode b)] (laws_eqNode_R r) (laws_eqNode_O r) :=
  ACalls.of (cx := cx) (X := laws_eqNode_X) (c := laws_eqNode_c) Try.func39 (by kernel_rfl) (by kernel_rfl) (by kernel_rfl) (P0 <|
 rg2 <| cdD 4 h (fun h =>
 rg <| fe Try.func39 h) (fun h =>
 rg <| cb laws_eqAcc_t laws_eqAcc_ok 4 false h fun eqAcc h =>
 cdD 5 h (fun h =>
 rg <| fe Try.func39 h) (fun h =>
 rg <| cb laws_eqEntryS_t laws_eqEntryS_ok 4 false h fun eqEntryS h =>
 cdD 5 h (fun h =>
 rg <| fe Try.func39 h) (fun h =>
 rg <| cdD 4 h (fun h =>
 rg <| fe Try.func39 h) (fun h =>
 rg <| cdD 4 h (fun h =>
 rg <| fe Try.func39 h) (fun h =>
 rg <| cdD 4 h (fun h =>
 rg <| fe Try.func39 h) (fun h =>
 rg <| cb laws_eqBoolS_t laws_eqBoolS_ok 4 false h fun eqBoolS h =>
 cdD 5 h (fun h =>
 rg <| fe Try.func39 h) (fun h =>
 rg <| cb laws_eqVoteS_t laws_eqVoteS_ok 4 false h fun eqVoteS h =>
 cdD 5 h (fun h =>
 rg <| fe Try.func39 h) (fun h =>
 rg <| cb laws_eqEntry_t laws_eqEntry_ok 4 false h fun eqEntry h =>
 cdD 5 h (fun h =>
 rg <| fe Try.func39 h) (fun h =>
 rg <| cb laws_eqBoolS_t laws_eqBoolS_ok 4 false h fun eqBoolS1 h =>
 cdD 5 h (fun h =>
 rg <| fe Try.func39 h) (fun h =>
 rg <| cdD 4 h (fun h =>
 rg <| fe Try.func39 h) (fun h =>
 rg <| cb laws_eqInsS_t laws_eqInsS_ok 4 false h fun eqInsS h =>
 cdD 5 h (fun h =>
 rg <| fe Try.func39 h) (fun h =>
 rg <| cb laws_eqEntry_t laws_eqEntry_ok 4 false h fun eqEntry1 h =>
 cdD 5 h (fun h =>
 rg <| fe Try.func39 h) (fun h =>
 rg <| cb laws_eqEntryS_t laws_eqEntryS_ok 4 false h fun eqEntryS1 h =>
 cdD 5 h (fun h =>
 rg <| fe Try.func39 h) (fun h =>
 rg <| fe Try.func39 h)))))))))))))))


end Go.Proofs.Ythegkbaijmkhfaa
