/- Functions of the program, and that their calls come to this. -/
import Derived.Test.YtggngdffdglolaaGreatTy
set_option linter.unusedVariables false
set_option linter.unusedSimpArgs false
namespace Go.Proofs.YtggngdffdglolaaGreat
open Go

/-! ### laws_szReadS -/
noncomputable def laws_szReadS_c : Code := bodyOf Tryz.f159
noncomputable def laws_szReadS_X : Sig := { f := 159, fn := Tryz.f159, rms := [.val [] []], oms := [none, none] }
noncomputable def laws_szReadS_R (r : Int) : V := vi r
noncomputable def laws_szReadS_O (r : Int) : List (Option V) := [none, none]
noncomputable def laws_szReadS_t (i : Nat) (fr : Bool) (r : Int) : Nat × Tell := (i, { a := .call [.val [some 2] [], .val [] []] fr (laws_szReadS_R r) (laws_szReadS_O r) })
noncomputable def laws_szReadS (a : List TRead) (left : Int) : Option Int :=
  (bif decide ((w64 (left - (a.length : Int))) < 0) then
 some (-1)
 else
 some (w64 (left - (a.length : Int))))
theorem laws_szReadS_ok {a : List TRead} {left : Int} (r : Int) (h : laws_szReadS a left = some r) : ACalls cx.P 159 [vsl 2 eRead a, vi left] (laws_szReadS_R r) (laws_szReadS_O r) :=
  ACalls.of (cx := cx) (X := laws_szReadS_X) (c := laws_szReadS_c) Tryz.func159 (by kernel_rfl) (by kernel_rfl) (by kernel_rfl) (P0 <|
 rg3 <| cdD 1 h (fun h =>
 rg <| fe Tryz.func159 h) (fun h =>
 rg <| fe Tryz.func159 h))

/-! ### laws_szPutS -/
noncomputable def laws_szPutS_c : Code := bodyOf Tryz.f160
noncomputable def laws_szPutS_X : Sig := { f := 160, fn := Tryz.f160, rms := [.val [] []], oms := [none, none] }
noncomputable def laws_szPutS_R (r : Int) : V := vi r
noncomputable def laws_szPutS_O (r : Int) : List (Option V) := [none, none]
noncomputable def laws_szPutS_t (i : Nat) (fr : Bool) (r : Int) : Nat × Tell := (i, { a := .call [.val [some 2] [], .val [] []] fr (laws_szPutS_R r) (laws_szPutS_O r) })
noncomputable def laws_szPutS (a : List TPut) (left : Int) : Option Int :=
  (bif decide ((w64 (left - (a.length : Int))) < 0) then
 some (-1)
 else
 some (w64 (left - (a.length : Int))))
theorem laws_szPutS_ok {a : List TPut} {left : Int} (r : Int) (h : laws_szPutS a left = some r) : ACalls cx.P 160 [vsl 2 ePut a, vi left] (laws_szPutS_R r) (laws_szPutS_O r) :=
  ACalls.of (cx := cx) (X := laws_szPutS_X) (c := laws_szPutS_c) Tryz.func160 (by kernel_rfl) (by kernel_rfl) (by kernel_rfl) (P0 <|
 rg3 <| cdD 1 h (fun h =>
 rg <| fe Tryz.func160 h) (fun h =>
 rg <| fe Tryz.func160 h))

/-! ### laws_szRun -/
noncomputable def laws_szRun_c : Code := bodyOf Tryz.f128
noncomputable def laws_szRun_X : Sig := { f := 128, fn := Tryz.f128, rms := [.val [] []], oms := [none, none] }
noncomputable def laws_szRun_R (r : Int) : V := vi r
noncomputable def laws_szRun_O (r : Int) : List (Option V) := [none, none]
noncomputable def laws_szRun_t (i : Nat) (fr : Bool) (r : Int) : Nat × Tell := (i, { a := .call [.val ck90 [], .val [] []] fr (laws_szRun_R r) (laws_szRun_O r) })
noncomputable def laws_szRun (a : TRun) (left : Int) : Option Int :=
  ((laws_szReadS a.Reads left).bind fun szReadS =>
 (bif decide (szReadS < 0) then
 some (-1)
 else
 ((laws_szPutS a.Puts szReadS).bind fun szPutS =>
 (bif decide (szPutS < 0) then
 some (-1)
 else
 some szPutS))))
theorem laws_szRun_ok {a : TRun} {left : Int} (r : Int) (h : laws_szRun a left = some r) : ACalls cx.P 128 [.agg (eRun a), vi left] (laws_szRun_R r) (laws_szRun_O r) :=
  ACalls.of (cx := cx) (X := laws_szRun_X) (c := laws_szRun_c) Tryz.func128 (by kernel_rfl) (by kernel_rfl) (by kernel_rfl) (P0 <|
 rg2 <| cb laws_szReadS_t laws_szReadS_ok 3 false h fun szReadS h =>
 rg <| cdD 1 h (fun h =>
 rg <| fe Tryz.func128 h) (fun h =>
 rg <| cb laws_szPutS_t laws_szPutS_ok 3 false h fun szPutS h =>
 rg <| cdD 1 h (fun h =>
 rg <| fe Tryz.func128 h) (fun h =>
 rg <| fe Tryz.func128 h)))

/-! ### laws_szEntry -/
noncomputable def laws_szEntry_c : Code := bodyOf Tryz.f83
noncomputable def laws_szEntry_X : Sig := { f := 83, fn := Tryz.f83, rms := [.val [] []], oms := [none, none] }
noncomputable def laws_szEntry_R (r : Int) : V := vi r
noncomputable def laws_szEntry_O (r : Int) : List (Option V) := [none, none]
noncomputable def laws_szEntry_t (i : Nat) (fr : Bool) (r : Int) : Nat × Tell := (i, { a := .call [.val ck92 [], .val [] []] fr (laws_szEntry_R r) (laws_szEntry_O r) })
noncomputable def laws_szEntry (a : TEntry) (left : Int) : Option Int :=
  ((laws_szRun a.Run left).bind fun szRun =>
 (bif decide (szRun < 0) then
 some (-1)
 else
 some szRun))
theorem laws_szEntry_ok {a : TEntry} {left : Int} (r : Int) (h : laws_szEntry a left = some r) : ACalls cx.P 83 [.agg (eEntry a), vi left] (laws_szEntry_R r) (laws_szEntry_O r) :=
  ACalls.of (cx := cx) (X := laws_szEntry_X) (c := laws_szEntry_c) Tryz.func83 (by kernel_rfl) (by kernel_rfl) (by kernel_rfl) (P0 <|
 rg2 <| cb laws_szRun_t laws_szRun_ok 3 false h fun szRun h =>
 rg <| cdD 1 h (fun h =>
 rg <| fe Tryz.func83 h) (fun h =>
 rg <| fe Tryz.func83 h))

/-! ### laws_szVote -/
noncomputable def laws_szVote_c : Code := bodyOf Tryz.f127
noncomputable def laws_szVote_X : Sig := { f := 127, fn := Tryz.f127, rms := [.val [] []], oms := [none, none] }
noncomputable def laws_szVote_R (r : Int) : V := vi r
noncomputable def laws_szVote_O (r : Int) : List (Option V) := [none, none]
noncomputable def laws_szVote_t (i : Nat) (fr : Bool) (r : Int) : Nat × Tell := (i, { a := .call [.val ck185 [], .val [] []] fr (laws_szVote_R r) (laws_szVote_O r) })
noncomputable def laws_szVote (a : TVote) (left : Int) : Option Int :=
  ((laws_szEntry a.Entry left).bind fun szEntry =>
 (bif decide (szEntry < 0) then
 some (-1)
 else
 some szEntry))
theorem laws_szVote_ok {a : TVote} {left : Int} (r : Int) (h : laws_szVote a left = some r) : ACalls cx.P 127 [.agg (eVote a), vi left] (laws_szVote_R r) (laws_szVote_O r) :=
  ACalls.of (cx := cx) (X := laws_szVote_X) (c := laws_szVote_c) Tryz.func127 (by kernel_rfl) (by kernel_rfl) (by kernel_rfl) (P0 <|
 rg2 <| cb laws_szEntry_t laws_szEntry_ok 3 false h fun szEntry h =>
 rg <| cdD 1 h (fun h =>
 rg <| fe Tryz.func127 h) (fun h =>
 rg <| fe Tryz.func127 h))

/-! ### laws_szVoteS -/
noncomputable def laws_szVoteS_c : Code := bodyOf Tryz.f82
noncomputable def laws_szVoteS_X : Sig := { f := 82, fn := Tryz.f82, rms := [.val [] []], oms := [none, none] }
noncomputable def laws_szVoteS_R (r : Int) : V := vi r
noncomputable def laws_szVoteS_O (r : Int) : List (Option V) := [none, none]
noncomputable def laws_szVoteS_t (i : Nat) (fr : Bool) (r : Int) : Nat × Tell := (i, { a := .call [.val [some 8] [], .val [] []] fr (laws_szVoteS_R r) (laws_szVoteS_O r) })
noncomputable def laws_szVoteS_k1 : List Item := posI 2000 5 [false, false] [.code laws_szVoteS_c]
noncomputable def laws_szVoteS_S1 (left2 : Int) : St := ⟨(bs 1 (vi left2 :: (bs 25 []))), [some []]⟩
noncomputable def laws_szVoteS_k2 (left2 : Int) : Option Int :=
  some left2
theorem laws_szVoteS_k2_ok (r : Int) (left2 : Int) (h : laws_szVoteS_k2 left2 = some r) : Fin cx laws_szVoteS_X (laws_szVoteS_R r) (laws_szVoteS_O r) laws_szVoteS_k1 (laws_szVoteS_S1 left2) :=
  P0 <|
 rg <| fe Tryz.func82 h
noncomputable def laws_szVoteS_k3 : List Item := posI 2000 4 [false] [.code laws_szVoteS_c]
noncomputable def laws_szVoteS_S2 (a : List TVote) (left1 : Int) (i : Int) : St := ⟨(vsl 8 eVote a :: (vi left1 :: (bs 3 (vi i :: (bs 21 []))))), [some []]⟩
noncomputable def laws_szVoteS_b1 (a : List TVote) (left1 : Int) (i : Int) : Option (Stp Int (Int × Int) Int) :=
  (bif decide (i < (a.length : Int)) then
 ((idx a i).bind fun vote =>
 ((laws_szVote vote left1).bind fun szVote =>
 (bif decide (szVote < 0) then
 some (Stp.ret (-1))
 else
 some (Stp.nxt (szVote, w64 (i + 1))))))
 else
 some (Stp.brk left1))
theorem laws_szVoteS_b1_ok (a : List TVote) (res : V) (outs : List (Option V)) (x1 : Exc Int Int) (hb1 : HB cx laws_szVoteS_X res outs x1 laws_szVoteS_k1 laws_szVoteS_S1) (hr1 : HR res outs x1 laws_szVoteS_R laws_szVoteS_O) (st1 : Stp Int (Int × Int) Int) (hc1 : Cont x1 (fun s : Int × Int => Fin cx laws_szVoteS_X res outs laws_szVoteS_k3 (laws_szVoteS_S2 a s.1 s.2)) st1) (left1 : Int) (i : Int) (h : laws_szVoteS_b1 a left1 i = some st1) : Fin cx laws_szVoteS_X res outs laws_szVoteS_k3 (laws_szVoteS_S2 a left1 i) :=
  P0 <|
 rg <| cdD 3 h (fun h =>
 rg <| ixS eVote 2 h fun vote hvote h =>
 cb laws_szVote_t laws_szVote_ok 5 false h fun szVote h =>
 rg <| cdD 1 h (fun h =>
 rg <| (retD h hc1 fun e => fn0 Tryz.func82 (hr1 _ e))) (fun h =>
 rg <| (nxtD h hc1 fun hI => sg [] [0, 1, 5] [] hI))) (fun h =>
 (brkD h hc1 fun e => sg [] [1] [] (hb1 _ e)))
noncomputable def laws_szVoteS (a : List TVote) (left : Int) : Option Int :=
  (bif decide ((w64 (left - (a.length : Int))) < 0) then
 some (-1)
 else
 ((loop (fun s : Int × Int => laws_szVoteS_b1 a s.1 s.2) (w64 (left - (a.length : Int)), 0)).bind fun x => x.go (fun r => some r) fun s => laws_szVoteS_k2 s))
theorem laws_szVoteS_ok {a : List TVote} {left : Int} (r : Int) (h : laws_szVoteS a left = some r) : ACalls cx.P 82 [vsl 8 eVote a, vi left] (laws_szVoteS_R r) (laws_szVoteS_O r) :=
  ACalls.of (cx := cx) (X := laws_szVoteS_X) (c := laws_szVoteS_c) Tryz.func82 (by kernel_rfl) (by kernel_rfl) (by kernel_rfl) (P0 <|
 rg3 <| cdD 1 h (fun h =>
 rg <| fe Tryz.func82 h) (fun h =>
 rg <| loopJ h fun x hl hr hb => sg [] [0, 1, 5] [] (loopD (I := fun s : Int × Int => Fin cx laws_szVoteS_X (laws_szVoteS_R r) (laws_szVoteS_O r) laws_szVoteS_k3 (laws_szVoteS_S2 a s.1 s.2)) hl fun s st h hc => laws_szVoteS_b1_ok a _ _ x (fun s e => laws_szVoteS_k2_ok r s (hb s e)) (fun v e => ⟨congrArg laws_szVoteS_R (Option.some.inj (hr v e)).symm, congrArg laws_szVoteS_O (Option.some.inj (hr v e)).symm⟩) st hc s.1 s.2 h)))

/-! ### laws_szAcc -/
noncomputable def laws_szAcc_c : Code := bodyOf Tryz.f79
noncomputable def laws_szAcc_X : Sig := { f := 79, fn := Tryz.f79, rms := [.val [] []], oms := [none, none] }
noncomputable def laws_szAcc_R (r : Int) : V := vi r
noncomputable def laws_szAcc_O (r : Int) : List (Option V) := [none, none]
noncomputable def laws_szAcc_t (i : Nat) (fr : Bool) (r : Int) : Nat × Tell := (i, { a := .call [.val [none, some 8] [], .val [] []] fr (laws_szAcc_R r) (laws_szAcc_O r) })
noncomputable def laws_szAcc (a : TAcc) (left : Int) : Option Int :=
  ((laws_szVoteS a.Votes left).bind fun szVoteS =>
 (bif decide (szVoteS < 0) then
 some (-1)
 else
 some szVoteS))
theorem laws_szAcc_ok {a : TAcc} {left : Int} (r : Int) (h : laws_szAcc a left = some r) : ACalls cx.P 79 [.agg (eAcc a), vi left] (laws_szAcc_R r) (laws_szAcc_O r) :=
  ACalls.of (cx := cx) (X := laws_szAcc_X) (c := laws_szAcc_c) Tryz.func79 (by kernel_rfl) (by kernel_rfl) (by kernel_rfl) (P0 <|
 rg2 <| cb laws_szVoteS_t laws_szVoteS_ok 3 false h fun szVoteS h =>
 rg <| cdD 1 h (fun h =>
 rg <| fe Tryz.func79 h) (fun h =>
 rg <| fe Tryz.func79 h))

/-! ### laws_szEntryS -/
noncomputable def laws_szEntryS_c : Code := bodyOf Tryz.f80
noncomputable def laws_szEntryS_X : Sig := { f := 80, fn := Tryz.f80, rms := [.val [] []], oms := [none, none] }
noncomputable def laws_szEntryS_R (r : Int) : V := vi r
noncomputable def laws_szEntryS_O (r : Int) : List (Option V) := [none, none]
noncomputable def laws_szEntryS_t (i : Nat) (fr : Bool) (r : Int) : Nat × Tell := (i, { a := .call [.val [some 7] [], .val [] []] fr (laws_szEntryS_R r) (laws_szEntryS_O r) })
noncomputable def laws_szEntryS_k1 : List Item := posI 2000 5 [false, false] [.code laws_szEntryS_c]
noncomputable def laws_szEntryS_S1 (left2 : Int) : St := ⟨(bs 1 (vi left2 :: (bs 25 []))), [some []]⟩
noncomputable def laws_szEntryS_k2 (left2 : Int) : Option Int :=
  some left2
theorem laws_szEntryS_k2_ok (r : Int) (left2 : Int) (h : laws_szEntryS_k2 left2 = some r) : Fin cx laws_szEntryS_X (laws_szEntryS_R r) (laws_szEntryS_O r) laws_szEntryS_k1 (laws_szEntryS_S1 left2) :=
  P0 <|
 rg <| fe Tryz.func80 h
noncomputable def laws_szEntryS_k3 : List Item := posI 2000 4 [false] [.code laws_szEntryS_c]
noncomputable def laws_szEntryS_S2 (a : List TEntry) (left1 : Int) (i : Int) : St := ⟨(vsl 7 eEntry a :: (vi left1 :: (bs 3 (vi i :: (bs 21 []))))), [some []]⟩
noncomputable def laws_szEntryS_b1 (a : List TEntry) (left1 : Int) (i : Int) : Option (Stp Int (Int × Int) Int) :=
  (bif decide (i < (a.length : Int)) then
 ((idx a i).bind fun entry =>
 ((laws_szEntry entry left1).bind fun szEntry =>
 (bif decide (szEntry < 0) then
 some (Stp.ret (-1))
 else
 some (Stp.nxt (szEntry, w64 (i + 1))))))
 else
 some (Stp.brk left1))
theorem laws_szEntryS_b1_ok (a : List TEntry) (res : V) (outs : List (Option V)) (x1 : Exc Int Int) (hb1 : HB cx laws_szEntryS_X res outs x1 laws_szEntryS_k1 laws_szEntryS_S1) (hr1 : HR res outs x1 laws_szEntryS_R laws_szEntryS_O) (st1 : Stp Int (Int × Int) Int) (hc1 : Cont x1 (fun s : Int × Int => Fin cx laws_szEntryS_X res outs laws_szEntryS_k3 (laws_szEntryS_S2 a s.1 s.2)) st1) (left1 : Int) (i : Int) (h : laws_szEntryS_b1 a left1 i = some st1) : Fin cx laws_szEntryS_X res outs laws_szEntryS_k3 (laws_szEntryS_S2 a left1 i) :=
  P0 <|
 rg <| cdD 3 h (fun h =>
 rg <| ixS eEntry 2 h fun entry hentry h =>
 cb laws_szEntry_t laws_szEntry_ok 5 false h fun szEntry h =>
 rg <| cdD 1 h (fun h =>
 rg <| (retD h hc1 fun e => fn0 Tryz.func80 (hr1 _ e))) (fun h =>
 rg <| (nxtD h hc1 fun hI => sg [] [0, 1, 5] [] hI))) (fun h =>
 (brkD h hc1 fun e => sg [] [1] [] (hb1 _ e)))
noncomputable def laws_szEntryS (a : List TEntry) (left : Int) : Option Int :=
  (bif decide ((w64 (left - (a.length : Int))) < 0) then
 some (-1)
 else
 ((loop (fun s : Int × Int => laws_szEntryS_b1 a s.1 s.2) (w64 (left - (a.length : Int)), 0)).bind fun x => x.go (fun r => some r) fun s => laws_szEntryS_k2 s))
theorem laws_szEntryS_ok {a : List TEntry} {left : Int} (r : Int) (h : laws_szEntryS a left = some r) : ACalls cx.P 80 [vsl 7 eEntry a, vi left] (laws_szEntryS_R r) (laws_szEntryS_O r) :=
  ACalls.of (cx := cx) (X := laws_szEntryS_X) (c := laws_szEntryS_c) Tryz.func80 (by kernel_rfl) (by kernel_rfl) (by kernel_rfl) (P0 <|
 rg3 <| cdD 1 h (fun h =>
 rg <| fe Tryz.func80 h) (fun h =>
 rg <| loopJ h fun x hl hr hb => sg [] [0, 1, 5] [] (loopD (I := fun s : Int × Int => Fin cx laws_szEntryS_X (laws_szEntryS_R r) (laws_szEntryS_O r) laws_szEntryS_k3 (laws_szEntryS_S2 a s.1 s.2)) hl fun s st h hc => laws_szEntryS_b1_ok a _ _ x (fun s e => laws_szEntryS_k2_ok r s (hb s e)) (fun v e => ⟨congrArg laws_szEntryS_R (Option.some.inj (hr v e)).symm, congrArg laws_szEntryS_O (Option.some.inj (hr v e)).symm⟩) st hc s.1 s.2 h)))

/-! ### laws_szBoolS -/
noncomputable def laws_szBoolS_c : Code := bodyOf Tryz.f81
noncomputable def laws_szBoolS_X : Sig := { f := 81, fn := Tryz.f81, rms := [.val [] []], oms := [none, none] }
noncomputable def laws_szBoolS_R (r : Int) : V := vi r
noncomputable def laws_szBoolS_O (r : Int) : List (Option V) := [none, none]
noncomputable def laws_szBoolS_t (i : Nat) (fr : Bool) (r : Int) : Nat × Tell := (i, { a := .call [.val [some 1] [], .val [] []] fr (laws_szBoolS_R r) (laws_szBoolS_O r) })
noncomputable def laws_szBoolS (a : List Bool) (left : Int) : Option Int :=
  (bif decide ((w64 (left - (a.length : Int))) < 0) then
 some (-1)
 else
 some (w64 (left - (a.length : Int))))
theorem laws_szBoolS_ok {a : List Bool} {left : Int} (r : Int) (h : laws_szBoolS a left = some r) : ACalls cx.P 81 [vsl 1 eB a, vi left] (laws_szBoolS_R r) (laws_szBoolS_O r) :=
  ACalls.of (cx := cx) (X := laws_szBoolS_X) (c := laws_szBoolS_c) Tryz.func81 (by kernel_rfl) (by kernel_rfl) (by kernel_rfl) (P0 <|
 rg3 <| cdD 1 h (fun h =>
 rg <| fe Tryz.func81 h) (fun h =>
 rg <| fe Tryz.func81 h))

/-! ### laws_szInsS -/
noncomputable def laws_szInsS_c : Code := bodyOf Tryz.f84
noncomputable def laws_szInsS_X : Sig := { f := 84, fn := Tryz.f84, rms := [.val [] []], oms := [none, none] }
noncomputable def laws_szInsS_R (r : Int) : V := vi r
noncomputable def laws_szInsS_O (r : Int) : List (Option V) := [none, none]
noncomputable def laws_szInsS_t (i : Nat) (fr : Bool) (r : Int) : Nat × Tell := (i, { a := .call [.val [some 4] [], .val [] []] fr (laws_szInsS_R r) (laws_szInsS_O r) })
noncomputable def laws_szInsS (a : List TIns) (left : Int) : Option Int :=
  (bif decide ((w64 (left - (a.length : Int))) < 0) then
 some (-1)
 else
 some (w64 (left - (a.length : Int))))
theorem laws_szInsS_ok {a : List TIns} {left : Int} (r : Int) (h : laws_szInsS a left = some r) : ACalls cx.P 84 [vsl 4 eIns a, vi left] (laws_szInsS_R r) (laws_szInsS_O r) :=
  ACalls.of (cx := cx) (X := laws_szInsS_X) (c := laws_szInsS_c) Tryz.func84 (by kernel_rfl) (by kernel_rfl) (by kernel_rfl) (P0 <|
 rg3 <| cdD 1 h (fun h =>
 rg <| fe Tryz.func84 h) (fun h =>
 rg <| fe Tryz.func84 h))

/-! ### laws_szNode -/
noncomputable def laws_szNode_c : Code := bodyOf Tryz.f39
noncomputable def laws_szNode_X : Sig := { f := 39, fn := Tryz.f39, rms := [.val [] []], oms := [none, none] }
noncomputable def laws_szNode_R (r : Int) : V := vi r
noncomputable def laws_szNode_O (r : Int) : List (Option V) := [none, none]
noncomputable def laws_szNode_t (i : Nat) (fr : Bool) (r : Int) : Nat × Tell := (i, { a := .call [.val ck95 [], .val [] []] fr (laws_szNode_R r) (laws_szNode_O r) })
noncomputable def laws_szNode (a : TNode) (left : Int) : Option Int :=
  ((laws_szAcc a.Acc left).bind fun szAcc =>
 (bif decide (szAcc < 0) then
 some (-1)
 else
 ((laws_szEntryS a.Known szAcc).bind fun szEntryS =>
 (bif decide (szEntryS < 0) then
 some (-1)
 else
 ((laws_szBoolS a.From szEntryS).bind fun szBoolS =>
 (bif decide (szBoolS < 0) then
 some (-1)
 else
 ((laws_szVoteS a.Best szBoolS).bind fun szVoteS =>
 (bif decide (szVoteS < 0) then
 some (-1)
 else
 ((laws_szEntry a.Cur szVoteS).bind fun szEntry =>
 (bif decide (szEntry < 0) then
 some (-1)
 else
 ((laws_szBoolS a.Votes szEntry).bind fun szBoolS1 =>
 (bif decide (szBoolS1 < 0) then
 some (-1)
 else
 ((laws_szInsS a.Prog szBoolS1).bind fun szInsS =>
 (bif decide (szInsS < 0) then
 some (-1)
 else
 ((laws_szEntry a.Want szInsS).bind fun szEntry1 =>
 (bif decide (szEntry1 < 0) then
 some (-1)
 else
 ((laws_szEntryS a.Queue szEntry1).bind fun szEntryS1 =>
 (bif decide (szEntryS1 < 0) then
 some (-1)
 else
 some szEntryS1))))))))))))))))))
theorem laws_szNode_ok {a : TNode} {left : Int} (r : Int) (h : laws_szNode a left = some r) : ACalls cx.P 39 [.agg (eNode a), vi left] (laws_szNode_R r) (laws_szNode_O r) :=
  ACalls.of (cx := cx) (X := laws_szNode_X) (c := laws_szNode_c) Tryz.func39 (by kernel_rfl) (by kernel_rfl) (by kernel_rfl) (P0 <|
 rg2 <| cb laws_szAcc_t laws_szAcc_ok 3 false h fun szAcc h =>
 rg <| cdD 1 h (fun h =>
 rg <| fe Tryz.func39 h) (fun h =>
 rg <| cb laws_szEntryS_t laws_szEntryS_ok 3 false h fun szEntryS h =>
 rg <| cdD 1 h (fun h =>
 rg <| fe Tryz.func39 h) (fun h =>
 rg <| cb laws_szBoolS_t laws_szBoolS_ok 3 false h fun szBoolS h =>
 rg <| cdD 1 h (fun h =>
 rg <| fe Tryz.func39 h) (fun h =>
 rg <| cb laws_szVoteS_t laws_szVoteS_ok 3 false h fun szVoteS h =>
 rg <| cdD 1 h (fun h =>
 rg <| fe Tryz.func39 h) (fun h =>
 rg <| cb laws_szEntry_t laws_szEntry_ok 3 false h fun szEntry h =>
 rg <| cdD 1 h (fun h =>
 rg <| fe Tryz.func39 h) (fun h =>
 rg <| cb laws_szBoolS_t laws_szBoolS_ok 3 false h fun szBoolS1 h =>
 rg <| cdD 1 h (fun h =>
 rg <| fe Tryz.func39 h) (fun h =>
 rg <| cb laws_szInsS_t laws_szInsS_ok 3 false h fun szInsS h =>
 rg <| cdD 1 h (fun h =>
 rg <| fe Tryz.func39 h) (fun h =>
 rg <| cb laws_szEntry_t laws_szEntry_ok 3 false h fun szEntry1 h =>
 rg <| cdD 1 h (fun h =>
 rg <| fe Tryz.func39 h) (fun h =>
 rg <| cb laws_szEntryS_t laws_szEntryS_ok 3 false h fun szEntryS1 h =>
 rg <| cdD 1 h (fun h =>
 rg <| fe Tryz.func39 h) (fun h =>
 rg <| fe Tryz.func39 h))))))))))

/-! ### laws_szNodeS -/
noncomputable def laws_szNodeS_c : Code := bodyOf Tryz.f9
noncomputable def laws_szNodeS_X : Sig := { f := 9, fn := Tryz.f9, rms := [.val [] []], oms := [none, none] }
noncomputable def laws_szNodeS_R (r : Int) : V := vi r
noncomputable def laws_szNodeS_O (r : Int) : List (Option V) := [none, none]
noncomputable def laws_szNodeS_t (i : Nat) (fr : Bool) (r : Int) : Nat × Tell := (i, { a := .call [.val [some 27] [], .val [] []] fr (laws_szNodeS_R r) (laws_szNodeS_O r) })
noncomputable def laws_szNodeS_k1 : List Item := posI 2000 5 [false, false] [.code laws_szNodeS_c]
noncomputable def laws_szNodeS_S1 (left2 : Int) : St := ⟨(bs 1 (vi left2 :: (bs 25 []))), [some []]⟩
noncomputable def laws_szNodeS_k2 (left2 : Int) : Option Int :=
  some left2
theorem laws_szNodeS_k2_ok (r : Int) (left2 : Int) (h : laws_szNodeS_k2 left2 = some r) : Fin cx laws_szNodeS_X (laws_szNodeS_R r) (laws_szNodeS_O r) laws_szNodeS_k1 (laws_szNodeS_S1 left2) :=
  P0 <|
 rg <| fe Tryz.func9 h
noncomputable def laws_szNodeS_k3 : List Item := posI 2000 4 [false] [.code laws_szNodeS_c]
noncomputable def laws_szNodeS_S2 (a : List TNode) (left1 : Int) (i : Int) : St := ⟨(vsl 27 eNode a :: (vi left1 :: (bs 3 (vi i :: (bs 21 []))))), [some []]⟩
noncomputable def laws_szNodeS_b1 (a : List TNode) (left1 : Int) (i : Int) : Option (Stp Int (Int × Int) Int) :=
  (bif decide (i < (a.length : Int)) then
 ((idx a i).bind fun node =>
 ((laws_szNode node left1).bind fun szNode =>
 (bif decide (szNode < 0) then
 some (Stp.ret (-1))
 else
 some (Stp.nxt (szNode, w64 (i + 1))))))
 else
 some (Stp.brk left1))
theorem laws_szNodeS_b1_ok (a : List TNode) (res : V) (outs : List (Option V)) (x1 : Exc Int Int) (hb1 : HB cx laws_szNodeS_X res outs x1 laws_szNodeS_k1 laws_szNodeS_S1) (hr1 : HR res outs x1 laws_szNodeS_R laws_szNodeS_O) (st1 : Stp Int (Int × Int) Int) (hc1 : Cont x1 (fun s : Int × Int => Fin cx laws_szNodeS_X res outs laws_szNodeS_k3 (laws_szNodeS_S2 a s.1 s.2)) st1) (left1 : Int) (i : Int) (h : laws_szNodeS_b1 a left1 i = some st1) : Fin cx laws_szNodeS_X res outs laws_szNodeS_k3 (laws_szNodeS_S2 a left1 i) :=
  P0 <|
 rg <| cdD 3 h (fun h =>
 rg <| ixS eNode 2 h fun node hnode h =>
 cb laws_szNode_t laws_szNode_ok 5 false h fun szNode h =>
 rg <| cdD 1 h (fun h =>
 rg <| (retD h hc1 fun e => fn0 Tryz.func9 (hr1 _ e))) (fun h =>
 rg <| (nxtD h hc1 fun hI => sg [] [0, 1, 5] [] hI))) (fun h =>
 (brkD h hc1 fun e => sg [] [1] [] (hb1 _ e)))
noncomputable def laws_szNodeS (a : List TNode) (left : Int) : Option Int :=
  (bif decide ((w64 (left - (a.length : Int))) < 0) then
 some (-1)
 else
 ((loop (fun s : Int × Int => laws_szNodeS_b1 a s.1 s.2) (w64 (left - (a.length : Int)), 0)).bind fun x => x.go (fun r => some r) fun s => laws_szNodeS_k2 s))
theorem laws_szNodeS_ok {a : List TNode} {left : Int} (r : Int) (h : laws_szNodeS a left = some r) : ACalls cx.P 9 [vsl 27 eNode a, vi left] (laws_szNodeS_R r) (laws_szNodeS_O r) :=
  ACalls.of (cx := cx) (X := laws_szNodeS_X) (c := laws_szNodeS_c) Tryz.func9 (by kernel_rfl) (by kernel_rfl) (by kernel_rfl) (P0 <|
 rg3 <| cdD 1 h (fun h =>
 rg <| fe Tryz.func9 h) (fun h =>
 rg <| loopJ h fun x hl hr hb => sg [] [0, 1, 5] [] (loopD (I := fun s : Int × Int => Fin cx laws_szNodeS_X (laws_szNodeS_R r) (laws_szNodeS_O r) laws_szNodeS_k3 (laws_szNodeS_S2 a s.1 s.2)) hl fun s st h hc => laws_szNodeS_b1_ok a _ _ x (fun s e => laws_szNodeS_k2_ok r s (hb s e)) (fun v e => ⟨congrArg laws_szNodeS_R (Option.some.inj (hr v e)).symm, congrArg laws_szNodeS_O (Option.some.inj (hr v e)).symm⟩) st hc s.1 s.2 h)))

/-! ### laws_szMsg -/
noncomputable def laws_szMsg_c : Code := bodyOf Tryz.f40
noncomputable def laws_szMsg_X : Sig := { f := 40, fn := Tryz.f40, rms := [.val [] []], oms := [none, none] }
noncomputable def laws_szMsg_R (r : Int) : V := vi r
noncomputable def laws_szMsg_O (r : Int) : List (Option V) := [none, none]
noncomputable def laws_szMsg_t (i : Nat) (fr : Bool) (r : Int) : Nat × Tell := (i, { a := .call [.val ck98 [], .val [] []] fr (laws_szMsg_R r) (laws_szMsg_O r) })
noncomputable def laws_szMsg (a : TMsg) (left : Int) : Option Int :=
  ((laws_szEntry a.Entry left).bind fun szEntry =>
 (bif decide (szEntry < 0) then
 some (-1)
 else
 ((laws_szVoteS a.Votes szEntry).bind fun szVoteS =>
 (bif decide (szVoteS < 0) then
 some (-1)
 else
 some szVoteS))))
theorem laws_szMsg_ok {a : TMsg} {left : Int} (r : Int) (h : laws_szMsg a left = some r) : ACalls cx.P 40 [.agg (eMsg a), vi left] (laws_szMsg_R r) (laws_szMsg_O r) :=
  ACalls.of (cx := cx) (X := laws_szMsg_X) (c := laws_szMsg_c) Tryz.func40 (by kernel_rfl) (by kernel_rfl) (by kernel_rfl) (P0 <|
 rg2 <| cb laws_szEntry_t laws_szEntry_ok 3 false h fun szEntry h =>
 rg <| cdD 1 h (fun h =>
 rg <| fe Tryz.func40 h) (fun h =>
 rg <| cb laws_szVoteS_t laws_szVoteS_ok 3 false h fun szVoteS h =>
 rg <| cdD 1 h (fun h =>
 rg <| fe Tryz.func40 h) (fun h =>
 rg <| fe Tryz.func40 h)))

/-! ### laws_szMsgS -/
noncomputable def laws_szMsgS_c : Code := bodyOf Tryz.f10
noncomputable def laws_szMsgS_X : Sig := { f := 10, fn := Tryz.f10, rms := [.val [] []], oms := [none, none] }
noncomputable def laws_szMsgS_R (r : Int) : V := vi r
noncomputable def laws_szMsgS_O (r : Int) : List (Option V) := [none, none]
noncomputable def laws_szMsgS_t (i : Nat) (fr : Bool) (r : Int) : Nat × Tell := (i, { a := .call [.val [some 13] [], .val [] []] fr (laws_szMsgS_R r) (laws_szMsgS_O r) })
noncomputable def laws_szMsgS_k1 : List Item := posI 2000 5 [false, false] [.code laws_szMsgS_c]
noncomputable def laws_szMsgS_S1 (left2 : Int) : St := ⟨(bs 1 (vi left2 :: (bs 25 []))), [some []]⟩
noncomputable def laws_szMsgS_k2 (left2 : Int) : Option Int :=
  some left2
theorem laws_szMsgS_k2_ok (r : Int) (left2 : Int) (h : laws_szMsgS_k2 left2 = some r) : Fin cx laws_szMsgS_X (laws_szMsgS_R r) (laws_szMsgS_O r) laws_szMsgS_k1 (laws_szMsgS_S1 left2) :=
  P0 <|
 rg <| fe Tryz.func10 h
noncomputable def laws_szMsgS_k3 : List Item := posI 2000 4 [false] [.code laws_szMsgS_c]
noncomputable def laws_szMsgS_S2 (a : List TMsg) (left1 : Int) (i : Int) : St := ⟨(vsl 13 eMsg a :: (vi left1 :: (bs 3 (vi i :: (bs 21 []))))), [some []]⟩
noncomputable def laws_szMsgS_b1 (a : List TMsg) (left1 : Int) (i : Int) : Option (Stp Int (Int × Int) Int) :=
  (bif decide (i < (a.length : Int)) then
 ((idx a i).bind fun msg =>
 ((laws_szMsg msg left1).bind fun szMsg =>
 (bif decide (szMsg < 0) then
 some (Stp.ret (-1))
 else
 some (Stp.nxt (szMsg, w64 (i + 1))))))
 else
 some (Stp.brk left1))
theorem laws_szMsgS_b1_ok (a : List TMsg) (res : V) (outs : List (Option V)) (x1 : Exc Int Int) (hb1 : HB cx laws_szMsgS_X res outs x1 laws_szMsgS_k1 laws_szMsgS_S1) (hr1 : HR res outs x1 laws_szMsgS_R laws_szMsgS_O) (st1 : Stp Int (Int × Int) Int) (hc1 : Cont x1 (fun s : Int × Int => Fin cx laws_szMsgS_X res outs laws_szMsgS_k3 (laws_szMsgS_S2 a s.1 s.2)) st1) (left1 : Int) (i : Int) (h : laws_szMsgS_b1 a left1 i = some st1) : Fin cx laws_szMsgS_X res outs laws_szMsgS_k3 (laws_szMsgS_S2 a left1 i) :=
  P0 <|
 rg <| cdD 3 h (fun h =>
 rg <| ixS eMsg 2 h fun msg hmsg h =>
 cb laws_szMsg_t laws_szMsg_ok 5 false h fun szMsg h =>
 rg <| cdD 1 h (fun h =>
 rg <| (retD h hc1 fun e => fn0 Tryz.func10 (hr1 _ e))) (fun h =>
 rg <| (nxtD h hc1 fun hI => sg [] [0, 1, 5] [] hI))) (fun h =>
 (brkD h hc1 fun e => sg [] [1] [] (hb1 _ e)))
noncomputable def laws_szMsgS (a : List TMsg) (left : Int) : Option Int :=
  (bif decide ((w64 (left - (a.length : Int))) < 0) then
 some (-1)
 else
 ((loop (fun s : Int × Int => laws_szMsgS_b1 a s.1 s.2) (w64 (left - (a.length : Int)), 0)).bind fun x => x.go (fun r => some r) fun s => laws_szMsgS_k2 s))
theorem laws_szMsgS_ok {a : List TMsg} {left : Int} (r : Int) (h : laws_szMsgS a left = some r) : ACalls cx.P 10 [vsl 13 eMsg a, vi left] (laws_szMsgS_R r) (laws_szMsgS_O r) :=
  ACalls.of (cx := cx) (X := laws_szMsgS_X) (c := laws_szMsgS_c) Tryz.func10 (by kernel_rfl) (by kernel_rfl) (by kernel_rfl) (P0 <|
 rg3 <| cdD 1 h (fun h =>
 rg <| fe Tryz.func10 h) (fun h =>
 rg <| loopJ h fun x hl hr hb => sg [] [0, 1, 5] [] (loopD (I := fun s : Int × Int => Fin cx laws_szMsgS_X (laws_szMsgS_R r) (laws_szMsgS_O r) laws_szMsgS_k3 (laws_szMsgS_S2 a s.1 s.2)) hl fun s st h hc => laws_szMsgS_b1_ok a _ _ x (fun s e => laws_szMsgS_k2_ok r s (hb s e)) (fun v e => ⟨congrArg laws_szMsgS_R (Option.some.inj (hr v e)).symm, congrArg laws_szMsgS_O (Option.some.inj (hr v e)).symm⟩) st hc s.1 s.2 h)))

/-! ### laws_szAsked -/
noncomputable def laws_szAsked_c : Code := bodyOf Tryz.f41
noncomputable def laws_szAsked_X : Sig := { f := 41, fn := Tryz.f41, rms := [.val [] []], oms := [none, none] }
noncomputable def laws_szAsked_R (r : Int) : V := vi r
noncomputable def laws_szAsked_O (r : Int) : List (Option V) := [none, none]
noncomputable def laws_szAsked_t (i : Nat) (fr : Bool) (r : Int) : Nat × Tell := (i, { a := .call [.val [none, none, some 4] [], .val [] []] fr (laws_szAsked_R r) (laws_szAsked_O r) })
noncomputable def laws_szAsked (a : TAsked) (left : Int) : Option Int :=
  ((laws_szInsS a.Prog left).bind fun szInsS =>
 (bif decide (szInsS < 0) then
 some (-1)
 else
 some szInsS))
theorem laws_szAsked_ok {a : TAsked} {left : Int} (r : Int) (h : laws_szAsked a left = some r) : ACalls cx.P 41 [.agg (eAsked a), vi left] (laws_szAsked_R r) (laws_szAsked_O r) :=
  ACalls.of (cx := cx) (X := laws_szAsked_X) (c := laws_szAsked_c) Tryz.func41 (by kernel_rfl) (by kernel_rfl) (by kernel_rfl) (P0 <|
 rg2 <| cb laws_szInsS_t laws_szInsS_ok 3 false h fun szInsS h =>
 rg <| cdD 1 h (fun h =>
 rg <| fe Tryz.func41 h) (fun h =>
 rg <| fe Tryz.func41 h))

/-! ### laws_szAskedS -/
noncomputable def laws_szAskedS_c : Code := bodyOf Tryz.f11
noncomputable def laws_szAskedS_X : Sig := { f := 11, fn := Tryz.f11, rms := [.val [] []], oms := [none, none] }
noncomputable def laws_szAskedS_R (r : Int) : V := vi r
noncomputable def laws_szAskedS_O (r : Int) : List (Option V) := [none, none]
noncomputable def laws_szAskedS_t (i : Nat) (fr : Bool) (r : Int) : Nat × Tell := (i, { a := .call [.val [some 3] [], .val [] []] fr (laws_szAskedS_R r) (laws_szAskedS_O r) })
noncomputable def laws_szAskedS_k1 : List Item := posI 2000 5 [false, false] [.code laws_szAskedS_c]
noncomputable def laws_szAskedS_S1 (left2 : Int) : St := ⟨(bs 1 (vi left2 :: (bs 25 []))), [some []]⟩
noncomputable def laws_szAskedS_k2 (left2 : Int) : Option Int :=
  some left2
theorem laws_szAskedS_k2_ok (r : Int) (left2 : Int) (h : laws_szAskedS_k2 left2 = some r) : Fin cx laws_szAskedS_X (laws_szAskedS_R r) (laws_szAskedS_O r) laws_szAskedS_k1 (laws_szAskedS_S1 left2) :=
  P0 <|
 rg <| fe Tryz.func11 h
noncomputable def laws_szAskedS_k3 : List Item := posI 2000 4 [false] [.code laws_szAskedS_c]
noncomputable def laws_szAskedS_S2 (a : List TAsked) (left1 : Int) (i : Int) : St := ⟨(vsl 3 eAsked a :: (vi left1 :: (bs 3 (vi i :: (bs 21 []))))), [some []]⟩
noncomputable def laws_szAskedS_b1 (a : List TAsked) (left1 : Int) (i : Int) : Option (Stp Int (Int × Int) Int) :=
  (bif decide (i < (a.length : Int)) then
 ((idx a i).bind fun asked =>
 ((laws_szAsked asked left1).bind fun szAsked =>
 (bif decide (szAsked < 0) then
 some (Stp.ret (-1))
 else
 some (Stp.nxt (szAsked, w64 (i + 1))))))
 else
 some (Stp.brk left1))
theorem laws_szAskedS_b1_ok (a : List TAsked) (res : V) (outs : List (Option V)) (x1 : Exc Int Int) (hb1 : HB cx laws_szAskedS_X res outs x1 laws_szAskedS_k1 laws_szAskedS_S1) (hr1 : HR res outs x1 laws_szAskedS_R laws_szAskedS_O) (st1 : Stp Int (Int × Int) Int) (hc1 : Cont x1 (fun s : Int × Int => Fin cx laws_szAskedS_X res outs laws_szAskedS_k3 (laws_szAskedS_S2 a s.1 s.2)) st1) (left1 : Int) (i : Int) (h : laws_szAskedS_b1 a left1 i = some st1) : Fin cx laws_szAskedS_X res outs laws_szAskedS_k3 (laws_szAskedS_S2 a left1 i) :=
  P0 <|
 rg <| cdD 3 h (fun h =>
 rg <| ixS eAsked 2 h fun asked hasked h =>
 cb laws_szAsked_t laws_szAsked_ok 5 false h fun szAsked h =>
 rg <| cdD 1 h (fun h =>
 rg <| (retD h hc1 fun e => fn0 Tryz.func11 (hr1 _ e))) (fun h =>
 rg <| (nxtD h hc1 fun hI => sg [] [0, 1, 5] [] hI))) (fun h =>
 (brkD h hc1 fun e => sg [] [1] [] (hb1 _ e)))
noncomputable def laws_szAskedS (a : List TAsked) (left : Int) : Option Int :=
  (bif decide ((w64 (left - (a.length : Int))) < 0) then
 some (-1)
 else
 ((loop (fun s : Int × Int => laws_szAskedS_b1 a s.1 s.2) (w64 (left - (a.length : Int)), 0)).bind fun x => x.go (fun r => some r) fun s => laws_szAskedS_k2 s))
theorem laws_szAskedS_ok {a : List TAsked} {left : Int} (r : Int) (h : laws_szAskedS a left = some r) : ACalls cx.P 11 [vsl 3 eAsked a, vi left] (laws_szAskedS_R r) (laws_szAskedS_O r) :=
  ACalls.of (cx := cx) (X := laws_szAskedS_X) (c := laws_szAskedS_c) Tryz.func11 (by kernel_rfl) (by kernel_rfl) (by kernel_rfl) (P0 <|
 rg3 <| cdD 1 h (fun h =>
 rg <| fe Tryz.func11 h) (fun h =>
 rg <| loopJ h fun x hl hr hb => sg [] [0, 1, 5] [] (loopD (I := fun s : Int × Int => Fin cx laws_szAskedS_X (laws_szAskedS_R r) (laws_szAskedS_O r) laws_szAskedS_k3 (laws_szAskedS_S2 a s.1 s.2)) hl fun s st h hc => laws_szAskedS_b1_ok a _ _ x (fun s e => laws_szAskedS_k2_ok r s (hb s e)) (fun v e => ⟨congrArg laws_szAskedS_R (Option.some.inj (hr v e)).symm, congrArg laws_szAskedS_O (Option.some.inj (hr v e)).symm⟩) st hc s.1 s.2 h)))

/-! ### laws_szToldS -/
noncomputable def laws_szToldS_c : Code := bodyOf Tryz.f12
noncomputable def laws_szToldS_X : Sig := { f := 12, fn := Tryz.f12, rms := [.val [] []], oms := [none, none] }
noncomputable def laws_szToldS_R (r : Int) : V := vi r
noncomputable def laws_szToldS_O (r : Int) : List (Option V) := [none, none]
noncomputable def laws_szToldS_t (i : Nat) (fr : Bool) (r : Int) : Nat × Tell := (i, { a := .call [.val [some 5] [], .val [] []] fr (laws_szToldS_R r) (laws_szToldS_O r) })
noncomputable def laws_szToldS (a : List TTold) (left : Int) : Option Int :=
  (bif decide ((w64 (left - (a.length : Int))) < 0) then
 some (-1)
 else
 some (w64 (left - (a.length : Int))))
theorem laws_szToldS_ok {a : List TTold} {left : Int} (r : Int) (h : laws_szToldS a left = some r) : ACalls cx.P 12 [vsl 5 eTold a, vi left] (laws_szToldS_R r) (laws_szToldS_O r) :=
  ACalls.of (cx := cx) (X := laws_szToldS_X) (c := laws_szToldS_c) Tryz.func12 (by kernel_rfl) (by kernel_rfl) (by kernel_rfl) (P0 <|
 rg3 <| cdD 1 h (fun h =>
 rg <| fe Tryz.func12 h) (fun h =>
 rg <| fe Tryz.func12 h))

/-! ### laws_szWorld -/
noncomputable def laws_szWorld_c : Code := bodyOf Tryz.f4
noncomputable def laws_szWorld_X : Sig := { f := 4, fn := Tryz.f4, rms := [.val [] []], oms := [none, none] }
noncomputable def laws_szWorld_R (r : Int) : V := vi r
noncomputable def laws_szWorld_O (r : Int) : List (Option V) := [none, none]
noncomputable def laws_szWorld_t (i : Nat) (fr : Bool) (r : Int) : Nat × Tell := (i, { a := .call [.val ck27 [], .val [] []] fr (laws_szWorld_R r) (laws_szWorld_O r) })
noncomputable def laws_szWorld (a : TWorld) (left : Int) : Option Int :=
  ((laws_szNodeS a.Nodes left).bind fun szNodeS =>
 (bif decide (szNodeS < 0) then
 some (-1)
 else
 ((laws_szMsgS a.Net szNodeS).bind fun szMsgS =>
 (bif decide (szMsgS < 0) then
 some (-1)
 else
 ((laws_szAskedS a.Asked szMsgS).bind fun szAskedS =>
 (bif decide (szAskedS < 0) then
 some (-1)
 else
 ((laws_szToldS a.Told szAskedS).bind fun szToldS =>
 (bif decide (szToldS < 0) then
 some (-1)
 else
 some szToldS))))))))
theorem laws_szWorld_ok {a : TWorld} {left : Int} (r : Int) (h : laws_szWorld a left = some r) : ACalls cx.P 4 [.agg (eWorld a), vi left] (laws_szWorld_R r) (laws_szWorld_O r) :=
  ACalls.of (cx := cx) (X := laws_szWorld_X) (c := laws_szWorld_c) Tryz.func4 (by kernel_rfl) (by kernel_rfl) (by kernel_rfl) (P0 <|
 rg2 <| cb laws_szNodeS_t laws_szNodeS_ok 3 false h fun szNodeS h =>
 rg <| cdD 1 h (fun h =>
 rg <| fe Tryz.func4 h) (fun h =>
 rg <| cb laws_szMsgS_t laws_szMsgS_ok 3 false h fun szMsgS h =>
 rg <| cdD 1 h (fun h =>
 rg <| fe Tryz.func4 h) (fun h =>
 rg <| cb laws_szAskedS_t laws_szAskedS_ok 3 false h fun szAskedS h =>
 rg <| cdD 1 h (fun h =>
 rg <| fe Tryz.func4 h) (fun h =>
 rg <| cb laws_szToldS_t laws_szToldS_ok 3 false h fun szToldS h =>
 rg <| cdD 1 h (fun h =>
 rg <| fe Tryz.func4 h) (fun h =>
 rg <| fe Tryz.func4 h)))))

/-! ### laws_toReq -/
noncomputable def laws_toReq_c : Code := bodyOf Tryz.f107
noncomputable def laws_toReq_X : Sig := { f := 107, fn := Tryz.f107, rms := [.val [] []], oms := [none] }
noncomputable def laws_toReq_R (r : TReq) : V := .agg (eReq r)
noncomputable def laws_toReq_O (r : TReq) : List (Option V) := [none]
noncomputable def laws_toReq_t (i : Nat) (fr : Bool) (r : TReq) : Nat × Tell := (i, { a := .call [.val [] []] fr (laws_toReq_R r) (laws_toReq_O r) })
noncomputable def laws_toReq (a : TReq) : Option TReq :=
  some a
theorem laws_toReq_ok {a : TReq} (r : TReq) (h : laws_toReq a = some r) : ACalls cx.P 107 [.agg (eReq a)] (laws_toReq_R r) (laws_toReq_O r) :=
  ACalls.of (cx := cx) (X := laws_toReq_X) (c := laws_toReq_c) Tryz.func107 (by kernel_rfl) (by kernel_rfl) (by kernel_rfl) (P0 <|
 rg4 <| rg <| fe Tryz.func107 h)

/-! ### laws_toRead -/
noncomputable def laws_toRead_c : Code := bodyOf Tryz.f169
noncomputable def laws_toRead_X : Sig := { f := 169, fn := Tryz.f169, rms := [.val [] []], oms := [none] }
noncomputable def laws_toRead_R (r : TRead) : V := .agg (eRead r)
noncomputable def laws_toRead_O (r : TRead) : List (Option V) := [none]
noncomputable def laws_toRead_t (i : Nat) (fr : Bool) (r : TRead) : Nat × Tell := (i, { a := .call [.val [] []] fr (laws_toRead_R r) (laws_toRead_O r) })
noncomputable def laws_toRead (a : TRead) : Option TRead :=
  some a
theorem laws_toRead_ok {a : TRead} (r : TRead) (h : laws_toRead a = some r) : ACalls cx.P 169 [.agg (eRead a)] (laws_toRead_R r) (laws_toRead_O r) :=
  ACalls.of (cx := cx) (X := laws_toRead_X) (c := laws_toRead_c) Tryz.func169 (by kernel_rfl) (by kernel_rfl) (by kernel_rfl) (P0 <|
 rg4 <| rg <| fe Tryz.func169 h)

/-! ### laws_toReadS -/
noncomputable def laws_toReadS_c : Code := bodyOf Tryz.f163
noncomputable def laws_toReadS_X : Sig := { f := 163, fn := Tryz.f163, rms := [.val [some 2] []], oms := [none] }
noncomputable def laws_toReadS_R (r : List TRead) : V := vsl 2 eRead r
noncomputable def laws_toReadS_O (r : List TRead) : List (Option V) := [none]
noncomputable def laws_toReadS_t (i : Nat) (fr : Bool) (r : List TRead) : Nat × Tell := (i, { a := .call [.val [some 2] []] fr (laws_toReadS_R r) (laws_toReadS_O r) })
noncomputable def laws_toReadS_k1 : List Item := posI 2000 4 [false] [.code laws_toReadS_c]
noncomputable def laws_toReadS_S1 (out1 : List TRead) : St := ⟨(bs 3 (.own 1 0 2 0 out1.length :: (bs 19 []))), [some [], some [erow 193 2 eRead out1]]⟩
noncomputable def laws_toReadS_k2 (out1 : List TRead) : Option (List TRead) :=
  some out1
theorem laws_toReadS_k2_ok (r : List TRead) (out1 : List TRead) (h : laws_toReadS_k2 out1 = some r) : Fin cx laws_toReadS_X (laws_toReadS_R r) (laws_toReadS_O r) laws_toReadS_k1 (laws_toReadS_S1 out1) :=
  P0 <|
 rg <| om (out1.length = out1.length) rfl <| fe Tryz.func163 h
noncomputable def laws_toReadS_k3 : List Item := posI 2000 3 [] [.code laws_toReadS_c]
noncomputable def laws_toReadS_S2 (a : List TRead) (out : List TRead) (i : Int) : St := ⟨(vsl 2 eRead a :: (bs 2 (.own 1 0 2 0 out.length :: (vi i :: (bs 18 []))))), [some [], some [erow 193 2 eRead out]]⟩
noncomputable def laws_toReadS_b1 (a : List TRead) (out : List TRead) (i : Int) : Option (Stp (List TRead) ((List TRead) × Int) (List TRead)) :=
  (bif decide (i < (a.length : Int)) then
 ((idx a i).bind fun read =>
 ((laws_toRead read).bind fun toRead =>
 ((idx out i).bind fun read1 =>
 some (Stp.nxt (out.set i.toNat toRead, w64 (i + 1))))))
 else
 some (Stp.brk out))
theorem laws_toReadS_b1_ok (a : List TRead) (res : V) (outs : List (Option V)) (x1 : Exc (List TRead) (List TRead)) (hb1 : HB cx laws_toReadS_X res outs x1 laws_toReadS_k1 laws_toReadS_S1) (hr1 : HR res outs x1 laws_toReadS_R laws_toReadS_O) (st1 : Stp (List TRead) ((List TRead) × Int) (List TRead)) (hc1 : Cont x1 (fun s : (List TRead) × Int => Fin cx laws_toReadS_X res outs laws_toReadS_k3 (laws_toReadS_S2 a s.1 s.2)) st1) (out : List TRead) (i : Int) (h : laws_toReadS_b1 a out i = some st1) : Fin cx laws_toReadS_X res outs laws_toReadS_k3 (laws_toReadS_S2 a out i) :=
  P0 <|
 rg <| cdD 3 h (fun h =>
 rg <| ixS eRead 4 h fun read hread h =>
 cb laws_toRead_t laws_toRead_ok 6 false h fun toRead h =>
 bindD h fun read1 hread1 h =>
 ixB hread1 <| stR 193 2 eRead 8 [] toRead hread1 <| rg <| (nxtD h hc1 fun hI => om ((.own 1 0 2 0 out.length : V) = .own 1 0 2 0 (out.set i.toNat toRead).length) (by simp) <| sg [.is (.tmp 3) (.own 1 0 2 0 (out.set i.toNat toRead).length)] [0, 3, 4] [(1, 0)] hI)) (fun h =>
 (brkD h hc1 fun e => sg [] [3] [(1, 0)] (hb1 _ e)))
noncomputable def laws_toReadS (a : List TRead) : Option (List TRead) :=
  (need (0 ≤ (a.length : Int) ∧ (a.length : Int) * 16 ≤ 140737488355328)
 (((loop (fun s : (List TRead) × Int => laws_toReadS_b1 a s.1 s.2) (List.replicate (a.length : Int).toNat (TRead.mk 0 0), 0)).bind fun x => x.go (fun r => some r) fun s => laws_toReadS_k2 s)))
theorem laws_toReadS_ok {a : List TRead} (r : List TRead) (h : laws_toReadS a = some r) : ACalls cx.P 163 [vsl 2 eRead a] (laws_toReadS_R r) (laws_toReadS_O r) :=
  ACalls.of (cx := cx) (X := laws_toReadS_X) (c := laws_toReadS_c) Tryz.func163 (by kernel_rfl) (by kernel_rfl) (by kernel_rfl) (P0 <|
 rg2 <| needD h fun e1 h =>
 mkS 2 4 193 2 16 eRead (TRead.mk 0 0) ti193 (.none) e1 (by decide) (by rfl) <| rg <| loopJ h fun x hl hr hb => sg [] [0, 3, 4] [(4, 0)] (loopD (I := fun s : (List TRead) × Int => Fin cx laws_toReadS_X (laws_toReadS_R r) (laws_toReadS_O r) laws_toReadS_k3 (laws_toReadS_S2 a s.1 s.2)) hl fun s st h hc => laws_toReadS_b1_ok a _ _ x (fun s e => laws_toReadS_k2_ok r s (hb s e)) (fun v e => ⟨congrArg laws_toReadS_R (Option.some.inj (hr v e)).symm, congrArg laws_toReadS_O (Option.some.inj (hr v e)).symm⟩) st hc s.1 s.2 h))

/-! ### laws_toPut -/
noncomputable def laws_toPut_c : Code := bodyOf Tryz.f170
noncomputable def laws_toPut_X : Sig := { f := 170, fn := Tryz.f170, rms := [.val [] []], oms := [none] }
noncomputable def laws_toPut_R (r : TPut) : V := .agg (ePut r)
noncomputable def laws_toPut_O (r : TPut) : List (Option V) := [none]
noncomputable def laws_toPut_t (i : Nat) (fr : Bool) (r : TPut) : Nat × Tell := (i, { a := .call [.val [] []] fr (laws_toPut_R r) (laws_toPut_O r) })
noncomputable def laws_toPut (a : TPut) : Option TPut :=
  some a
theorem laws_toPut_ok {a : TPut} (r : TPut) (h : laws_toPut a = some r) : ACalls cx.P 170 [.agg (ePut a)] (laws_toPut_R r) (laws_toPut_O r) :=
  ACalls.of (cx := cx) (X := laws_toPut_X) (c := laws_toPut_c) Tryz.func170 (by kernel_rfl) (by kernel_rfl) (by kernel_rfl) (P0 <|
 rg4 <| rg <| fe Tryz.func170 h)

/-! ### laws_toPutS -/
noncomputable def laws_toPutS_c : Code := bodyOf Tryz.f164
noncomputable def laws_toPutS_X : Sig := { f := 164, fn := Tryz.f164, rms := [.val [some 2] []], oms := [none] }
noncomputable def laws_toPutS_R (r : List TPut) : V := vsl 2 ePut r
noncomputable def laws_toPutS_O (r : List TPut) : List (Option V) := [none]
noncomputable def laws_toPutS_t (i : Nat) (fr : Bool) (r : List TPut) : Nat × Tell := (i, { a := .call [.val [some 2] []] fr (laws_toPutS_R r) (laws_toPutS_O r) })
noncomputable def laws_toPutS_k1 : List Item := posI 2000 4 [false] [.code laws_toPutS_c]
noncomputable def laws_toPutS_S1 (out1 : List TPut) : St := ⟨(bs 3 (.own 1 0 2 0 out1.length :: (bs 19 []))), [some [], some [erow 195 2 ePut out1]]⟩
noncomputable def laws_toPutS_k2 (out1 : List TPut) : Option (List TPut) :=
  some out1
theorem laws_toPutS_k2_ok (r : List TPut) (out1 : List TPut) (h : laws_toPutS_k2 out1 = some r) : Fin cx laws_toPutS_X (laws_toPutS_R r) (laws_toPutS_O r) laws_toPutS_k1 (laws_toPutS_S1 out1) :=
  P0 <|
 rg <| om (out1.length = out1.length) rfl <| fe Tryz.func164 h
noncomputable def laws_toPutS_k3 : List Item := posI 2000 3 [] [.code laws_toPutS_c]
noncomputable def laws_toPutS_S2 (a : List TPut) (out : List TPut) (i : Int) : St := ⟨(vsl 2 ePut a :: (bs 2 (.own 1 0 2 0 out.length :: (vi i :: (bs 18 []))))), [some [], some [erow 195 2 ePut out]]⟩
noncomputable def laws_toPutS_b1 (a : List TPut) (out : List TPut) (i : Int) : Option (Stp (List TPut) ((List TPut) × Int) (List TPut)) :=
  (bif decide (i < (a.length : Int)) then
 ((idx a i).bind fun put =>
 ((laws_toPut put).bind fun toPut =>
 ((idx out i).bind fun put1 =>
 some (Stp.nxt (out.set i.toNat toPut, w64 (i + 1))))))
 else
 some (Stp.brk out))
theorem laws_toPutS_b1_ok (a : List TPut) (res : V) (outs : List (Option V)) (x1 : Exc (List TPut) (List TPut)) (hb1 : HB cx laws_toPutS_X res outs x1 laws_toPutS_k1 laws_toPutS_S1) (hr1 : HR res outs x1 laws_toPutS_R laws_toPutS_O) (st1 : Stp (List TPut) ((List TPut) × Int) (List TPut)) (hc1 : Cont x1 (fun s : (List TPut) × Int => Fin cx laws_toPutS_X res outs laws_toPutS_k3 (laws_toPutS_S2 a s.1 s.2)) st1) (out : List TPut) (i : Int) (h : laws_toPutS_b1 a out i = some st1) : Fin cx laws_toPutS_X res outs laws_toPutS_k3 (laws_toPutS_S2 a out i) :=
  P0 <|
 rg <| cdD 3 h (fun h =>
 rg <| ixS ePut 4 h fun put hput h =>
 cb laws_toPut_t laws_toPut_ok 6 false h fun toPut h =>
 bindD h fun put1 hput1 h =>
 ixB hput1 <| stR 195 2 ePut 8 [] toPut hput1 <| rg <| (nxtD h hc1 fun hI => om ((.own 1 0 2 0 out.length : V) = .own 1 0 2 0 (out.set i.toNat toPut).length) (by simp) <| sg [.is (.tmp 3) (.own 1 0 2 0 (out.set i.toNat toPut).length)] [0, 3, 4] [(1, 0)] hI)) (fun h =>
 (brkD h hc1 fun e => sg [] [3] [(1, 0)] (hb1 _ e)))
noncomputable def laws_toPutS (a : List TPut) : Option (List TPut) :=
  (need (0 ≤ (a.length : Int) ∧ (a.length : Int) * 16 ≤ 140737488355328)
 (((loop (fun s : (List TPut) × Int => laws_toPutS_b1 a s.1 s.2) (List.replicate (a.length : Int).toNat (TPut.mk 0 0), 0)).bind fun x => x.go (fun r => some r) fun s => laws_toPutS_k2 s)))
theorem laws_toPutS_ok {a : List TPut} (r : List TPut) (h : laws_toPutS a = some r) : ACalls cx.P 164 [vsl 2 ePut a] (laws_toPutS_R r) (laws_toPutS_O r) :=
  ACalls.of (cx := cx) (X := laws_toPutS_X) (c := laws_toPutS_c) Tryz.func164 (by kernel_rfl) (by kernel_rfl) (by kernel_rfl) (P0 <|
 rg2 <| needD h fun e1 h =>
 mkS 2 4 195 2 16 ePut (TPut.mk 0 0) ti195 (.none) e1 (by decide) (by rfl) <| rg <| loopJ h fun x hl hr hb => sg [] [0, 3, 4] [(4, 0)] (loopD (I := fun s : (List TPut) × Int => Fin cx laws_toPutS_X (laws_toPutS_R r) (laws_toPutS_O r) laws_toPutS_k3 (laws_toPutS_S2 a s.1 s.2)) hl fun s st h hc => laws_toPutS_b1_ok a _ _ x (fun s e => laws_toPutS_k2_ok r s (hb s e)) (fun v e => ⟨congrArg laws_toPutS_R (Option.some.inj (hr v e)).symm, congrArg laws_toPutS_O (Option.some.inj (hr v e)).symm⟩) st hc s.1 s.2 h))

/-! ### laws_toRun -/
noncomputable def laws_toRun_c : Code := bodyOf Tryz.f139
noncomputable def laws_toRun_X : Sig := { f := 139, fn := Tryz.f139, rms := [.val ck73 []], oms := [none] }
noncomputable def laws_toRun_R (r : TRun) : V := .agg (eRun r)
noncomputable def laws_toRun_O (r : TRun) : List (Option V) := [none]
noncomputable def laws_toRun_t (i : Nat) (fr : Bool) (r : TRun) : Nat × Tell := (i, { a := .call [.val ck90 []] fr (laws_toRun_R r) (laws_toRun_O r) })
noncomputable def laws_toRun (a : TRun) : Option TRun :=
  ((laws_toReadS a.Reads).bind fun toReadS =>
 ((laws_toPutS a.Puts).bind fun toPutS =>
 some (TRun.mk toReadS toPutS a.Val a.Code)))
theorem laws_toRun_ok {a : TRun} (r : TRun) (h : laws_toRun a = some r) : ACalls cx.P 139 [.agg (eRun a)] (laws_toRun_R r) (laws_toRun_O r) :=
  ACalls.of (cx := cx) (X := laws_toRun_X) (c := laws_toRun_c) Tryz.func139 (by kernel_rfl) (by kernel_rfl) (by kernel_rfl) (P0 <|
 rg3 <| cb laws_toReadS_t laws_toReadS_ok 2 false h fun toReadS h =>
 rg <| cb laws_toPutS_t laws_toPutS_ok 2 false h fun toPutS h =>
 rg3 <| fe Tryz.func139 h)

/-! ### laws_toEntry -/
noncomputable def laws_toEntry_c : Code := bodyOf Tryz.f105
noncomputable def laws_toEntry_X : Sig := { f := 105, fn := Tryz.f105, rms := [.val ck75 []], oms := [none] }
noncomputable def laws_toEntry_R (r : TEntry) : V := .agg (eEntry r)
noncomputable def laws_toEntry_O (r : TEntry) : List (Option V) := [none]
noncomputable def laws_toEntry_t (i : Nat) (fr : Bool) (r : TEntry) : Nat × Tell := (i, { a := .call [.val ck92 []] fr (laws_toEntry_R r) (laws_toEntry_O r) })
noncomputable def laws_toEntry (a : TEntry) : Option TEntry :=
  ((laws_toReq a.Req).bind fun toReq =>
 ((laws_toRun a.Run).bind fun toRun =>
 some (TEntry.mk a.None toReq toRun)))
theorem laws_toEntry_ok {a : TEntry} (r : TEntry) (h : laws_toEntry a = some r) : ACalls cx.P 105 [.agg (eEntry a)] (laws_toEntry_R r) (laws_toEntry_O r) :=
  ACalls.of (cx := cx) (X := laws_toEntry_X) (c := laws_toEntry_c) Tryz.func105 (by kernel_rfl) (by kernel_rfl) (by kernel_rfl) (P0 <|
 rg4 <| cb laws_toReq_t laws_toReq_ok 2 false h fun toReq h =>
 rg <| cb laws_toRun_t laws_toRun_ok 2 false h fun toRun h =>
 rg <| fe Tryz.func105 h)

/-! ### laws_toVote -/
noncomputable def laws_toVote_c : Code := bodyOf Tryz.f138
noncomputable def laws_toVote_X : Sig := { f := 138, fn := Tryz.f138, rms := [.val ck188 []], oms := [none] }
noncomputable def laws_toVote_R (r : TVote) : V := .agg (eVote r)
noncomputable def laws_toVote_O (r : TVote) : List (Option V) := [none]
noncomputable def laws_toVote_t (i : Nat) (fr : Bool) (r : TVote) : Nat × Tell := (i, { a := .call [.val ck185 []] fr (laws_toVote_R r) (laws_toVote_O r) })
noncomputable def laws_toVote (a : TVote) : Option TVote :=
  ((laws_toEntry a.Entry).bind fun toEntry =>
 some (TVote.mk a.Bal toEntry))
theorem laws_toVote_ok {a : TVote} (r : TVote) (h : laws_toVote a = some r) : ACalls cx.P 138 [.agg (eVote a)] (laws_toVote_R r) (laws_toVote_O r) :=
  ACalls.of (cx := cx) (X := laws_toVote_X) (c := laws_toVote_c) Tryz.func138 (by kernel_rfl) (by kernel_rfl) (by kernel_rfl) (P0 <|
 rg4 <| cb laws_toEntry_t laws_toEntry_ok 2 false h fun toEntry h =>
 rg <| fe Tryz.func138 h)

/-! ### laws_toVoteS -/
noncomputable def laws_toVoteS_c : Code := bodyOf Tryz.f104
noncomputable def laws_toVoteS_X : Sig := { f := 104, fn := Tryz.f104, rms := [.val [some 8] []], oms := [none] }
noncomputable def laws_toVoteS_R (r : List TVote) : V := vsl 8 eVote r
noncomputable def laws_toVoteS_O (r : List TVote) : List (Option V) := [none]
noncomputable def laws_toVoteS_t (i : Nat) (fr : Bool) (r : List TVote) : Nat × Tell := (i, { a := .call [.val [some 8] []] fr (laws_toVoteS_R r) (laws_toVoteS_O r) })
noncomputable def laws_toVoteS_k1 : List Item := posI 2000 4 [false] [.code laws_toVoteS_c]
noncomputable def laws_toVoteS_S1 (out1 : List TVote) : St := ⟨(bs 3 (.own 1 0 8 0 out1.length :: (bs 19 []))), [some [], some [erow 188 8 eVote out1]]⟩
noncomputable def laws_toVoteS_k2 (out1 : List TVote) : Option (List TVote) :=
  some out1
theorem laws_toVoteS_k2_ok (r : List TVote) (out1 : List TVote) (h : laws_toVoteS_k2 out1 = some r) : Fin cx laws_toVoteS_X (laws_toVoteS_R r) (laws_toVoteS_O r) laws_toVoteS_k1 (laws_toVoteS_S1 out1) :=
  P0 <|
 rg <| om (out1.length = out1.length) rfl <| fe Tryz.func104 h
noncomputable def laws_toVoteS_k3 : List Item := posI 2000 3 [] [.code laws_toVoteS_c]
noncomputable def laws_toVoteS_S2 (a : List TVote) (out : List TVote) (i : Int) : St := ⟨(vsl 8 eVote a :: (bs 2 (.own 1 0 8 0 out.length :: (vi i :: (bs 18 []))))), [some [], some [erow 188 8 eVote out]]⟩
noncomputable def laws_toVoteS_b1 (a : List TVote) (out : List TVote) (i : Int) : Option (Stp (List TVote) ((List TVote) × Int) (List TVote)) :=
  (bif decide (i < (a.length : Int)) then
 ((idx a i).bind fun vote =>
 ((laws_toVote vote).bind fun toVote =>
 ((idx out i).bind fun vote1 =>
 some (Stp.nxt (out.set i.toNat toVote, w64 (i + 1))))))
 else
 some (Stp.brk out))
theorem laws_toVoteS_b1_ok (a : List TVote) (res : V) (outs : List (Option V)) (x1 : Exc (List TVote) (List TVote)) (hb1 : HB cx laws_toVoteS_X res outs x1 laws_toVoteS_k1 laws_toVoteS_S1) (hr1 : HR res outs x1 laws_toVoteS_R laws_toVoteS_O) (st1 : Stp (List TVote) ((List TVote) × Int) (List TVote)) (hc1 : Cont x1 (fun s : (List TVote) × Int => Fin cx laws_toVoteS_X res outs laws_toVoteS_k3 (laws_toVoteS_S2 a s.1 s.2)) st1) (out : List TVote) (i : Int) (h : laws_toVoteS_b1 a out i = some st1) : Fin cx laws_toVoteS_X res outs laws_toVoteS_k3 (laws_toVoteS_S2 a out i) :=
  P0 <|
 rg <| cdD 3 h (fun h =>
 rg <| ixS eVote 4 h fun vote hvote h =>
 cb laws_toVote_t laws_toVote_ok 6 false h fun toVote h =>
 bindD h fun vote1 hvote1 h =>
 ixB hvote1 <| stR 188 8 eVote 8 ck188 toVote hvote1 <| rg <| (nxtD h hc1 fun hI => om ((.own 1 0 8 0 out.length : V) = .own 1 0 8 0 (out.set i.toNat toVote).length) (by simp) <| sg [.is (.tmp 3) (.own 1 0 8 0 (out.set i.toNat toVote).length)] [0, 3, 4] [(1, 0)] hI)) (fun h =>
 (brkD h hc1 fun e => sg [] [3] [(1, 0)] (hb1 _ e)))
noncomputable def laws_toVoteS (a : List TVote) : Option (List TVote) :=
  (need (0 ≤ (a.length : Int) ∧ (a.length : Int) * 96 ≤ 140737488355328)
 (((loop (fun s : (List TVote) × Int => laws_toVoteS_b1 a s.1 s.2) (List.replicate (a.length : Int).toNat (TVote.mk 0 (TEntry.mk false (TReq.mk 0 0) (TRun.mk [] [] 0 0))), 0)).bind fun x => x.go (fun r => some r) fun s => laws_toVoteS_k2 s)))
theorem laws_toVoteS_ok {a : List TVote} (r : List TVote) (h : laws_toVoteS a = some r) : ACalls cx.P 104 [vsl 8 eVote a] (laws_toVoteS_R r) (laws_toVoteS_O r) :=
  ACalls.of (cx := cx) (X := laws_toVoteS_X) (c := laws_toVoteS_c) Tryz.func104 (by kernel_rfl) (by kernel_rfl) (by kernel_rfl) (P0 <|
 rg2 <| needD h fun e1 h =>
 mkS 2 4 188 8 96 eVote (TVote.mk 0 (TEntry.mk false (TReq.mk 0 0) (TRun.mk [] [] 0 0))) ti188 (.ck ck188) e1 (by decide) (by rfl) <| rg <| loopJ h fun x hl hr hb => sg [] [0, 3, 4] [(4, 0)] (loopD (I := fun s : (List TVote) × Int => Fin cx laws_toVoteS_X (laws_toVoteS_R r) (laws_toVoteS_O r) laws_toVoteS_k3 (laws_toVoteS_S2 a s.1 s.2)) hl fun s st h hc => laws_toVoteS_b1_ok a _ _ x (fun s e => laws_toVoteS_k2_ok r s (hb s e)) (fun v e => ⟨congrArg laws_toVoteS_R (Option.some.inj (hr v e)).symm, congrArg laws_toVoteS_O (Option.some.inj (hr v e)).symm⟩) st hc s.1 s.2 h))

/-! ### laws_toAcc -/
noncomputable def laws_toAcc_c : Code := bodyOf Tryz.f101
noncomputable def laws_toAcc_X : Sig := { f := 101, fn := Tryz.f101, rms := [.val [none, some 8] []], oms := [none] }
noncomputable def laws_toAcc_R (r : TAcc) : V := .agg (eAcc r)
noncomputable def laws_toAcc_O (r : TAcc) : List (Option V) := [none]
noncomputable def laws_toAcc_t (i : Nat) (fr : Bool) (r : TAcc) : Nat × Tell := (i, { a := .call [.val [none, some 8] []] fr (laws_toAcc_R r) (laws_toAcc_O r) })
noncomputable def laws_toAcc (a : TAcc) : Option TAcc :=
  ((laws_toVoteS a.Votes).bind fun toVoteS =>
 some (TAcc.mk a.Promised toVoteS))
theorem laws_toAcc_ok {a : TAcc} (r : TAcc) (h : laws_toAcc a = some r) : ACalls cx.P 101 [.agg (eAcc a)] (laws_toAcc_R r) (laws_toAcc_O r) :=
  ACalls.of (cx := cx) (X := laws_toAcc_X) (c := laws_toAcc_c) Tryz.func101 (by kernel_rfl) (by kernel_rfl) (by kernel_rfl) (P0 <|
 rg4 <| cb laws_toVoteS_t laws_toVoteS_ok 2 false h fun toVoteS h =>
 rg <| fe Tryz.func101 h)

/-! ### laws_toEntryS -/
noncomputable def laws_toEntryS_c : Code := bodyOf Tryz.f102
noncomputable def laws_toEntryS_X : Sig := { f := 102, fn := Tryz.f102, rms := [.val [some 7] []], oms := [none] }
noncomputable def laws_toEntryS_R (r : List TEntry) : V := vsl 7 eEntry r
noncomputable def laws_toEntryS_O (r : List TEntry) : List (Option V) := [none]
noncomputable def laws_toEntryS_t (i : Nat) (fr : Bool) (r : List TEntry) : Nat × Tell := (i, { a := .call [.val [some 7] []] fr (laws_toEntryS_R r) (laws_toEntryS_O r) })
noncomputable def laws_toEntryS_k1 : List Item := posI 2000 4 [false] [.code laws_toEntryS_c]
noncomputable def laws_toEntryS_S1 (out1 : List TEntry) : St := ⟨(bs 3 (.own 1 0 7 0 out1.length :: (bs 19 []))), [some [], some [erow 75 7 eEntry out1]]⟩
noncomputable def laws_toEntryS_k2 (out1 : List TEntry) : Option (List TEntry) :=
  some out1
theorem laws_toEntryS_k2_ok (r : List TEntry) (out1 : List TEntry) (h : laws_toEntryS_k2 out1 = some r) : Fin cx laws_toEntryS_X (laws_toEntryS_R r) (laws_toEntryS_O r) laws_toEntryS_k1 (laws_toEntryS_S1 out1) :=
  P0 <|
 rg <| om (out1.length = out1.length) rfl <| fe Tryz.func102 h
noncomputable def laws_toEntryS_k3 : List Item := posI 2000 3 [] [.code laws_toEntryS_c]
noncomputable def laws_toEntryS_S2 (a : List TEntry) (out : List TEntry) (i : Int) : St := ⟨(vsl 7 eEntry a :: (bs 2 (.own 1 0 7 0 out.length :: (vi i :: (bs 18 []))))), [some [], some [erow 75 7 eEntry out]]⟩
noncomputable def laws_toEntryS_b1 (a : List TEntry) (out : List TEntry) (i : Int) : Option (Stp (List TEntry) ((List TEntry) × Int) (List TEntry)) :=
  (bif decide (i < (a.length : Int)) then
 ((idx a i).bind fun entry =>
 ((laws_toEntry entry).bind fun toEntry =>
 ((idx out i).bind fun entry1 =>
 some (Stp.nxt (out.set i.toNat toEntry, w64 (i + 1))))))
 else
 some (Stp.brk out))
theorem laws_toEntryS_b1_ok (a : List TEntry) (res : V) (outs : List (Option V)) (x1 : Exc (List TEntry) (List TEntry)) (hb1 : HB cx laws_toEntryS_X res outs x1 laws_toEntryS_k1 laws_toEntryS_S1) (hr1 : HR res outs x1 laws_toEntryS_R laws_toEntryS_O) (st1 : Stp (List TEntry) ((List TEntry) × Int) (List TEntry)) (hc1 : Cont x1 (fun s : (List TEntry) × Int => Fin cx laws_toEntryS_X res outs laws_toEntryS_k3 (laws_toEntryS_S2 a s.1 s.2)) st1) (out : List TEntry) (i : Int) (h : laws_toEntryS_b1 a out i = some st1) : Fin cx laws_toEntryS_X res outs laws_toEntryS_k3 (laws_toEntryS_S2 a out i) :=
  P0 <|
 rg <| cdD 3 h (fun h =>
 rg <| ixS eEntry 4 h fun entry hentry h =>
 cb laws_toEntry_t laws_toEntry_ok 6 false h fun toEntry h =>
 bindD h fun entry1 hentry1 h =>
 ixB hentry1 <| stR 75 7 eEntry 8 ck75 toEntry hentry1 <| rg <| (nxtD h hc1 fun hI => om ((.own 1 0 7 0 out.length : V) = .own 1 0 7 0 (out.set i.toNat toEntry).length) (by simp) <| sg [.is (.tmp 3) (.own 1 0 7 0 (out.set i.toNat toEntry).length)] [0, 3, 4] [(1, 0)] hI)) (fun h =>
 (brkD h hc1 fun e => sg [] [3] [(1, 0)] (hb1 _ e)))
noncomputable def laws_toEntryS (a : List TEntry) : Option (List TEntry) :=
  (need (0 ≤ (a.length : Int) ∧ (a.length : Int) * 88 ≤ 140737488355328)
 (((loop (fun s : (List TEntry) × Int => laws_toEntryS_b1 a s.1 s.2) (List.replicate (a.length : Int).toNat (TEntry.mk false (TReq.mk 0 0) (TRun.mk [] [] 0 0)), 0)).bind fun x => x.go (fun r => some r) fun s => laws_toEntryS_k2 s)))
theorem laws_toEntryS_ok {a : List TEntry} (r : List TEntry) (h : laws_toEntryS a = some r) : ACalls cx.P 102 [vsl 7 eEntry a] (laws_toEntryS_R r) (laws_toEntryS_O r) :=
  ACalls.of (cx := cx) (X := laws_toEntryS_X) (c := laws_toEntryS_c) Tryz.func102 (by kernel_rfl) (by kernel_rfl) (by kernel_rfl) (P0 <|
 rg2 <| needD h fun e1 h =>
 mkS 2 4 75 7 88 eEntry (TEntry.mk false (TReq.mk 0 0) (TRun.mk [] [] 0 0)) ti75 (.ck ck75) e1 (by decide) (by rfl) <| rg <| loopJ h fun x hl hr hb => sg [] [0, 3, 4] [(4, 0)] (loopD (I := fun s : (List TEntry) × Int => Fin cx laws_toEntryS_X (laws_toEntryS_R r) (laws_toEntryS_O r) laws_toEntryS_k3 (laws_toEntryS_S2 a s.1 s.2)) hl fun s st h hc => laws_toEntryS_b1_ok a _ _ x (fun s e => laws_toEntryS_k2_ok r s (hb s e)) (fun v e => ⟨congrArg laws_toEntryS_R (Option.some.inj (hr v e)).symm, congrArg laws_toEntryS_O (Option.some.inj (hr v e)).symm⟩) st hc s.1 s.2 h))

/-! ### laws_toBoolS -/
noncomputable def laws_toBoolS_c : Code := bodyOf Tryz.f103
noncomputable def laws_toBoolS_X : Sig := { f := 103, fn := Tryz.f103, rms := [.val [some 1] []], oms := [none] }
noncomputable def laws_toBoolS_R (r : List Bool) : V := vsl 1 eB r
noncomputable def laws_toBoolS_O (r : List Bool) : List (Option V) := [none]
noncomputable def laws_toBoolS_t (i : Nat) (fr : Bool) (r : List Bool) : Nat × Tell := (i, { a := .call [.val [some 1] []] fr (laws_toBoolS_R r) (laws_toBoolS_O r) })
noncomputable def laws_toBoolS_k1 : List Item := posI 2000 4 [false] [.code laws_toBoolS_c]
noncomputable def laws_toBoolS_S1 (out1 : List Bool) : St := ⟨(bs 3 (.own 1 0 1 0 out1.length :: (bs 18 []))), [some [], some [erow 4 1 eB out1]]⟩
noncomputable def laws_toBoolS_k2 (out1 : List Bool) : Option (List Bool) :=
  some out1
theorem laws_toBoolS_k2_ok (r : List Bool) (out1 : List Bool) (h : laws_toBoolS_k2 out1 = some r) : Fin cx laws_toBoolS_X (laws_toBoolS_R r) (laws_toBoolS_O r) laws_toBoolS_k1 (laws_toBoolS_S1 out1) :=
  P0 <|
 rg <| om (out1.length = out1.length) rfl <| fe Tryz.func103 h
noncomputable def laws_toBoolS_k3 : List Item := posI 2000 3 [] [.code laws_toBoolS_c]
noncomputable def laws_toBoolS_S2 (a : List Bool) (out : List Bool) (i : Int) : St := ⟨(vsl 1 eB a :: (bs 2 (.own 1 0 1 0 out.length :: (vi i :: (bs 17 []))))), [some [], some [erow 4 1 eB out]]⟩
noncomputable def laws_toBoolS_b1 (a : List Bool) (out : List Bool) (i : Int) : Option (Stp (List Bool) ((List Bool) × Int) (List Bool)) :=
  (bif decide (i < (a.length : Int)) then
 ((idx a i).bind fun y =>
 ((idx out i).bind fun y1 =>
 some (Stp.nxt (out.set i.toNat y, w64 (i + 1)))))
 else
 some (Stp.brk out))
theorem laws_toBoolS_b1_ok (a : List Bool) (res : V) (outs : List (Option V)) (x1 : Exc (List Bool) (List Bool)) (hb1 : HB cx laws_toBoolS_X res outs x1 laws_toBoolS_k1 laws_toBoolS_S1) (hr1 : HR res outs x1 laws_toBoolS_R laws_toBoolS_O) (st1 : Stp (List Bool) ((List Bool) × Int) (List Bool)) (hc1 : Cont x1 (fun s : (List Bool) × Int => Fin cx laws_toBoolS_X res outs laws_toBoolS_k3 (laws_toBoolS_S2 a s.1 s.2)) st1) (out : List Bool) (i : Int) (h : laws_toBoolS_b1 a out i = some st1) : Fin cx laws_toBoolS_X res outs laws_toBoolS_k3 (laws_toBoolS_S2 a out i) :=
  P0 <|
 rg <| cdD 3 h (fun h =>
 rg <| ixS eB 4 h fun y hy h =>
 bindD h fun y1 hy1 h =>
 ixB hy1 <| stR 4 1 eB 7 [] y hy1 <| rg <| (nxtD h hc1 fun hI => om ((.own 1 0 1 0 out.length : V) = .own 1 0 1 0 (out.set i.toNat y).length) (by simp) <| sg [.is (.tmp 3) (.own 1 0 1 0 (out.set i.toNat y).length)] [0, 3, 4] [(1, 0)] hI)) (fun h =>
 (brkD h hc1 fun e => sg [] [3] [(1, 0)] (hb1 _ e)))
noncomputable def laws_toBoolS (a : List Bool) : Option (List Bool) :=
  (need (0 ≤ (a.length : Int) ∧ (a.length : Int) * 1 ≤ 140737488355328)
 (((loop (fun s : (List Bool) × Int => laws_toBoolS_b1 a s.1 s.2) (List.replicate (a.length : Int).toNat false, 0)).bind fun x => x.go (fun r => some r) fun s => laws_toBoolS_k2 s)))
theorem laws_toBoolS_ok {a : List Bool} (r : List Bool) (h : laws_toBoolS a = some r) : ACalls cx.P 103 [vsl 1 eB a] (laws_toBoolS_R r) (laws_toBoolS_O r) :=
  ACalls.of (cx := cx) (X := laws_toBoolS_X) (c := laws_toBoolS_c) Tryz.func103 (by kernel_rfl) (by kernel_rfl) (by kernel_rfl) (P0 <|
 rg2 <| needD h fun e1 h =>
 mkS 2 4 4 1 1 eB false ti4 (.none) e1 (by decide) (by rfl) <| rg <| loopJ h fun x hl hr hb => sg [] [0, 3, 4] [(4, 0)] (loopD (I := fun s : (List Bool) × Int => Fin cx laws_toBoolS_X (laws_toBoolS_R r) (laws_toBoolS_O r) laws_toBoolS_k3 (laws_toBoolS_S2 a s.1 s.2)) hl fun s st h hc => laws_toBoolS_b1_ok a _ _ x (fun s e => laws_toBoolS_k2_ok r s (hb s e)) (fun v e => ⟨congrArg laws_toBoolS_R (Option.some.inj (hr v e)).symm, congrArg laws_toBoolS_O (Option.some.inj (hr v e)).symm⟩) st hc s.1 s.2 h))

/-! ### laws_toIns -/
noncomputable def laws_toIns_c : Code := bodyOf Tryz.f140
noncomputable def laws_toIns_X : Sig := { f := 140, fn := Tryz.f140, rms := [.val [] []], oms := [none] }
noncomputable def laws_toIns_R (r : TIns) : V := .agg (eIns r)
noncomputable def laws_toIns_O (r : TIns) : List (Option V) := [none]
noncomputable def laws_toIns_t (i : Nat) (fr : Bool) (r : TIns) : Nat × Tell := (i, { a := .call [.val [] []] fr (laws_toIns_R r) (laws_toIns_O r) })
noncomputable def laws_toIns (a : TIns) : Option TIns :=
  some a
theorem laws_toIns_ok {a : TIns} (r : TIns) (h : laws_toIns a = some r) : ACalls cx.P 140 [.agg (eIns a)] (laws_toIns_R r) (laws_toIns_O r) :=
  ACalls.of (cx := cx) (X := laws_toIns_X) (c := laws_toIns_c) Tryz.func140 (by kernel_rfl) (by kernel_rfl) (by kernel_rfl) (P0 <|
 rg4 <| rg3 <| fe Tryz.func140 h)

/-! ### laws_toInsS -/
noncomputable def laws_toInsS_c : Code := bodyOf Tryz.f106
noncomputable def laws_toInsS_X : Sig := { f := 106, fn := Tryz.f106, rms := [.val [some 4] []], oms := [none] }
noncomputable def laws_toInsS_R (r : List TIns) : V := vsl 4 eIns r
noncomputable def laws_toInsS_O (r : List TIns) : List (Option V) := [none]
noncomputable def laws_toInsS_t (i : Nat) (fr : Bool) (r : List TIns) : Nat × Tell := (i, { a := .call [.val [some 4] []] fr (laws_toInsS_R r) (laws_toInsS_O r) })
noncomputable def laws_toInsS_k1 : List Item := posI 2000 4 [false] [.code laws_toInsS_c]
noncomputable def laws_toInsS_S1 (out1 : List TIns) : St := ⟨(bs 3 (.own 1 0 4 0 out1.length :: (bs 19 []))), [some [], some [erow 142 4 eIns out1]]⟩
noncomputable def laws_toInsS_k2 (out1 : List TIns) : Option (List TIns) :=
  some out1
theorem laws_toInsS_k2_ok (r : List TIns) (out1 : List TIns) (h : laws_toInsS_k2 out1 = some r) : Fin cx laws_toInsS_X (laws_toInsS_R r) (laws_toInsS_O r) laws_toInsS_k1 (laws_toInsS_S1 out1) :=
  P0 <|
 rg <| om (out1.length = out1.length) rfl <| fe Tryz.func106 h
noncomputable def laws_toInsS_k3 : List Item := posI 2000 3 [] [.code laws_toInsS_c]
noncomputable def laws_toInsS_S2 (a : List TIns) (out : List TIns) (i : Int) : St := ⟨(vsl 4 eIns a :: (bs 2 (.own 1 0 4 0 out.length :: (vi i :: (bs 18 []))))), [some [], some [erow 142 4 eIns out]]⟩
noncomputable def laws_toInsS_b1 (a : List TIns) (out : List TIns) (i : Int) : Option (Stp (List TIns) ((List TIns) × Int) (List TIns)) :=
  (bif decide (i < (a.length : Int)) then
 ((idx a i).bind fun ins =>
 ((laws_toIns ins).bind fun toIns =>
 ((idx out i).bind fun ins1 =>
 some (Stp.nxt (out.set i.toNat toIns, w64 (i + 1))))))
 else
 some (Stp.brk out))
theorem laws_toInsS_b1_ok (a : List TIns) (res : V) (outs : List (Option V)) (x1 : Exc (List TIns) (List TIns)) (hb1 : HB cx laws_toInsS_X res outs x1 laws_toInsS_k1 laws_toInsS_S1) (hr1 : HR res outs x1 laws_toInsS_R laws_toInsS_O) (st1 : Stp (List TIns) ((List TIns) × Int) (List TIns)) (hc1 : Cont x1 (fun s : (List TIns) × Int => Fin cx laws_toInsS_X res outs laws_toInsS_k3 (laws_toInsS_S2 a s.1 s.2)) st1) (out : List TIns) (i : Int) (h : laws_toInsS_b1 a out i = some st1) : Fin cx laws_toInsS_X res outs laws_toInsS_k3 (laws_toInsS_S2 a out i) :=
  P0 <|
 rg <| cdD 3 h (fun h =>
 rg <| ixS eIns 4 h fun ins hins h =>
 cb laws_toIns_t laws_toIns_ok 6 false h fun toIns h =>
 bindD h fun ins1 hins1 h =>
 ixB hins1 <| stR 142 4 eIns 8 [] toIns hins1 <| rg <| (nxtD h hc1 fun hI => om ((.own 1 0 4 0 out.length : V) = .own 1 0 4 0 (out.set i.toNat toIns).length) (by simp) <| sg [.is (.tmp 3) (.own 1 0 4 0 (out.set i.toNat toIns).length)] [0, 3, 4] [(1, 0)] hI)) (fun h =>
 (brkD h hc1 fun e => sg [] [3] [(1, 0)] (hb1 _ e)))
noncomputable def laws_toInsS (a : List TIns) : Option (List TIns) :=
  (need (0 ≤ (a.length : Int) ∧ (a.length : Int) * 32 ≤ 140737488355328)
 (((loop (fun s : (List TIns) × Int => laws_toInsS_b1 a s.1 s.2) (List.replicate (a.length : Int).toNat (TIns.mk 0 0 0 0), 0)).bind fun x => x.go (fun r => some r) fun s => laws_toInsS_k2 s)))
theorem laws_toInsS_ok {a : List TIns} (r : List TIns) (h : laws_toInsS a = some r) : ACalls cx.P 106 [vsl 4 eIns a] (laws_toInsS_R r) (laws_toInsS_O r) :=
  ACalls.of (cx := cx) (X := laws_toInsS_X) (c := laws_toInsS_c) Tryz.func106 (by kernel_rfl) (by kernel_rfl) (by kernel_rfl) (P0 <|
 rg2 <| needD h fun e1 h =>
 mkS 2 4 142 4 32 eIns (TIns.mk 0 0 0 0) ti142 (.none) e1 (by decide) (by rfl) <| rg <| loopJ h fun x hl hr hb => sg [] [0, 3, 4] [(4, 0)] (loopD (I := fun s : (List TIns) × Int => Fin cx laws_toInsS_X (laws_toInsS_R r) (laws_toInsS_O r) laws_toInsS_k3 (laws_toInsS_S2 a s.1 s.2)) hl fun s st h hc => laws_toInsS_b1_ok a _ _ x (fun s e => laws_toInsS_k2_ok r s (hb s e)) (fun v e => ⟨congrArg laws_toInsS_R (Option.some.inj (hr v e)).symm, congrArg laws_toInsS_O (Option.some.inj (hr v e)).symm⟩) st hc s.1 s.2 h))

/-! ### laws_toNode -/
noncomputable def laws_toNode_c : Code := bodyOf Tryz.f56
noncomputable def laws_toNode_X : Sig := { f := 56, fn := Tryz.f56, rms := [.val ck106 []], oms := [none] }
noncomputable def laws_toNode_R (r : TNode) : V := .agg (eNode r)
noncomputable def laws_toNode_O (r : TNode) : List (Option V) := [none]
noncomputable def laws_toNode_t (i : Nat) (fr : Bool) (r : TNode) : Nat × Tell := (i, { a := .call [.val ck95 []] fr (laws_toNode_R r) (laws_toNode_O r) })
noncomputable def laws_toNode (a : TNode) : Option TNode :=
  ((laws_toAcc a.Acc).bind fun toAcc =>
 ((laws_toEntryS a.Known).bind fun toEntryS =>
 ((laws_toBoolS a.From).bind fun toBoolS =>
 ((laws_toVoteS a.Best).bind fun toVoteS =>
 ((laws_toEntry a.Cur).bind fun toEntry =>
 ((laws_toBoolS a.Votes).bind fun toBoolS1 =>
 ((laws_toInsS a.Prog).bind fun toInsS =>
 ((laws_toEntry a.Want).bind fun toEntry1 =>
 ((laws_toEntryS a.Queue).bind fun toEntryS1 =>
 some (TNode.mk a.Id toAcc toEntryS a.Seq a.Phase a.Bal toBoolS toVoteS toEntry toBoolS1 a.Busy toInsS toEntry1 toEntryS1))))))))))
theorem laws_toNode_ok {a : TNode} (r : TNode) (h : laws_toNode a = some r) : ACalls cx.P 56 [.agg (eNode a)] (laws_toNode_R r) (laws_toNode_O r) :=
  ACalls.of (cx := cx) (X := laws_toNode_X) (c := laws_toNode_c) Tryz.func56 (by kernel_rfl) (by kernel_rfl) (by kernel_rfl) (P0 <|
 rg4 <| cb laws_toAcc_t laws_toAcc_ok 2 false h fun toAcc h =>
 rg <| cb laws_toEntryS_t laws_toEntryS_ok 2 false h fun toEntryS h =>
 rg4 <| cb laws_toBoolS_t laws_toBoolS_ok 2 false h fun toBoolS h =>
 rg <| cb laws_toVoteS_t laws_toVoteS_ok 2 false h fun toVoteS h =>
 rg <| cb laws_toEntry_t laws_toEntry_ok 2 false h fun toEntry h =>
 rg <| cb laws_toBoolS_t laws_toBoolS_ok 2 false h fun toBoolS1 h =>
 rg2 <| cb laws_toInsS_t laws_toInsS_ok 2 false h fun toInsS h =>
 rg <| cb laws_toEntry_t laws_toEntry_ok 2 false h fun toEntry1 h =>
 rg <| cb laws_toEntryS_t laws_toEntryS_ok 2 false h fun toEntryS1 h =>
 rg <| fe Tryz.func56 h)

/-! ### laws_toNodeS -/
noncomputable def laws_toNodeS_c : Code := bodyOf Tryz.f22
noncomputable def laws_toNodeS_X : Sig := { f := 22, fn := Tryz.f22, rms := [.val [some 27] []], oms := [none] }
noncomputable def laws_toNodeS_R (r : List TNode) : V := vsl 27 eNode r
noncomputable def laws_toNodeS_O (r : List TNode) : List (Option V) := [none]
noncomputable def laws_toNodeS_t (i : Nat) (fr : Bool) (r : List TNode) : Nat × Tell := (i, { a := .call [.val [some 27] []] fr (laws_toNodeS_R r) (laws_toNodeS_O r) })
noncomputable def laws_toNodeS_k1 : List Item := posI 2000 4 [false] [.code laws_toNodeS_c]
noncomputable def laws_toNodeS_S1 (out1 : List TNode) : St := ⟨(bs 3 (.own 1 0 27 0 out1.length :: (bs 19 []))), [some [], some [erow 106 27 eNode out1]]⟩
noncomputable def laws_toNodeS_k2 (out1 : List TNode) : Option (List TNode) :=
  some out1
theorem laws_toNodeS_k2_ok (r : List TNode) (out1 : List TNode) (h : laws_toNodeS_k2 out1 = some r) : Fin cx laws_toNodeS_X (laws_toNodeS_R r) (laws_toNodeS_O r) laws_toNodeS_k1 (laws_toNodeS_S1 out1) :=
  P0 <|
 rg <| om (out1.length = out1.length) rfl <| fe Tryz.func22 h
noncomputable def laws_toNodeS_k3 : List Item := posI 2000 3 [] [.code laws_toNodeS_c]
noncomputable def laws_toNodeS_S2 (a : List TNode) (out : List TNode) (i : Int) : St := ⟨(vsl 27 eNode a :: (bs 2 (.own 1 0 27 0 out.length :: (vi i :: (bs 18 []))))), [some [], some [erow 106 27 eNode out]]⟩
noncomputable def laws_toNodeS_b1 (a : List TNode) (out : List TNode) (i : Int) : Option (Stp (List TNode) ((List TNode) × Int) (List TNode)) :=
  (bif decide (i < (a.length : Int)) then
 ((idx a i).bind fun node =>
 ((laws_toNode node).bind fun toNode =>
 ((idx out i).bind fun node1 =>
 some (Stp.nxt (out.set i.toNat toNode, w64 (i + 1))))))
 else
 some (Stp.brk out))
theorem laws_toNodeS_b1_ok (a : List TNode) (res : V) (outs : List (Option V)) (x1 : Exc (List TNode) (List TNode)) (hb1 : HB cx laws_toNodeS_X res outs x1 laws_toNodeS_k1 laws_toNodeS_S1) (hr1 : HR res outs x1 laws_toNodeS_R laws_toNodeS_O) (st1 : Stp (List TNode) ((List TNode) × Int) (List TNode)) (hc1 : Cont x1 (fun s : (List TNode) × Int => Fin cx laws_toNodeS_X res outs laws_toNodeS_k3 (laws_toNodeS_S2 a s.1 s.2)) st1) (out : List TNode) (i : Int) (h : laws_toNodeS_b1 a out i = some st1) : Fin cx laws_toNodeS_X res outs laws_toNodeS_k3 (laws_toNodeS_S2 a out i) :=
  P0 <|
 rg <| cdD 3 h (fun h =>
 rg <| ixS eNode 4 h fun node hnode h =>
 cb laws_toNode_t laws_toNode_ok 6 false h fun toNode h =>
 bindD h fun node1 hnode1 h =>
 ixB hnode1 <| stR 106 27 eNode 8 ck106 toNode hnode1 <| rg <| (nxtD h hc1 fun hI => om ((.own 1 0 27 0 out.length : V) = .own 1 0 27 0 (out.set i.toNat toNode).length) (by simp) <| sg [.is (.tmp 3) (.own 1 0 27 0 (out.set i.toNat toNode).length)] [0, 3, 4] [(1, 0)] hI)) (fun h =>
 (brkD h hc1 fun e => sg [] [3] [(1, 0)] (hb1 _ e)))
noncomputable def laws_toNodeS (a : List TNode) : Option (List TNode) :=
  (need (0 ≤ (a.length : Int) ∧ (a.length : Int) * 392 ≤ 140737488355328)
 (((loop (fun s : (List TNode) × Int => laws_toNodeS_b1 a s.1 s.2) (List.replicate (a.length : Int).toNat (TNode.mk 0 (TAcc.mk 0 []) [] 0 0 0 [] [] (TEntry.mk false (TReq.mk 0 0) (TRun.mk [] [] 0 0)) [] false [] (TEntry.mk false (TReq.mk 0 0) (TRun.mk [] [] 0 0)) []), 0)).bind fun x => x.go (fun r => some r) fun s => laws_toNodeS_k2 s)))
theorem laws_toNodeS_ok {a : List TNode} (r : List TNode) (h : laws_toNodeS a = some r) : ACalls cx.P 22 [vsl 27 eNode a] (laws_toNodeS_R r) (laws_toNodeS_O r) :=
  ACalls.of (cx := cx) (X := laws_toNodeS_X) (c := laws_toNodeS_c) Tryz.func22 (by kernel_rfl) (by kernel_rfl) (by kernel_rfl) (P0 <|
 rg2 <| needD h fun e1 h =>
 mkS 2 4 106 27 392 eNode (TNode.mk 0 (TAcc.mk 0 []) [] 0 0 0 [] [] (TEntry.mk false (TReq.mk 0 0) (TRun.mk [] [] 0 0)) [] false [] (TEntry.mk false (TReq.mk 0 0) (TRun.mk [] [] 0 0)) []) ti106 (.ck ck106) e1 (by decide) (by rfl) <| rg <| loopJ h fun x hl hr hb => sg [] [0, 3, 4] [(4, 0)] (loopD (I := fun s : (List TNode) × Int => Fin cx laws_toNodeS_X (laws_toNodeS_R r) (laws_toNodeS_O r) laws_toNodeS_k3 (laws_toNodeS_S2 a s.1 s.2)) hl fun s st h hc => laws_toNodeS_b1_ok a _ _ x (fun s e => laws_toNodeS_k2_ok r s (hb s e)) (fun v e => ⟨congrArg laws_toNodeS_R (Option.some.inj (hr v e)).symm, congrArg laws_toNodeS_O (Option.some.inj (hr v e)).symm⟩) st hc s.1 s.2 h))

/-! ### laws_toMsg -/
noncomputable def laws_toMsg_c : Code := bodyOf Tryz.f57
noncomputable def laws_toMsg_X : Sig := { f := 57, fn := Tryz.f57, rms := [.val ck110 []], oms := [none] }
noncomputable def laws_toMsg_R (r : TMsg) : V := .agg (eMsg r)
noncomputable def laws_toMsg_O (r : TMsg) : List (Option V) := [none]
noncomputable def laws_toMsg_t (i : Nat) (fr : Bool) (r : TMsg) : Nat × Tell := (i, { a := .call [.val ck98 []] fr (laws_toMsg_R r) (laws_toMsg_O r) })
noncomputable def laws_toMsg (a : TMsg) : Option TMsg :=
  ((laws_toEntry a.Entry).bind fun toEntry =>
 ((laws_toVoteS a.Votes).bind fun toVoteS =>
 some (TMsg.mk a.Kind a.From a.To a.Bal a.Slot toEntry toVoteS)))
theorem laws_toMsg_ok {a : TMsg} (r : TMsg) (h : laws_toMsg a = some r) : ACalls cx.P 57 [.agg (eMsg a)] (laws_toMsg_R r) (laws_toMsg_O r) :=
  ACalls.of (cx := cx) (X := laws_toMsg_X) (c := laws_toMsg_c) Tryz.func57 (by kernel_rfl) (by kernel_rfl) (by kernel_rfl) (P0 <|
 rg4 <| rg4 <| cb laws_toEntry_t laws_toEntry_ok 2 false h fun toEntry h =>
 rg <| cb laws_toVoteS_t laws_toVoteS_ok 2 false h fun toVoteS h =>
 rg <| fe Tryz.func57 h)

/-! ### laws_toMsgS -/
noncomputable def laws_toMsgS_c : Code := bodyOf Tryz.f23
noncomputable def laws_toMsgS_X : Sig := { f := 23, fn := Tryz.f23, rms := [.val [some 13] []], oms := [none] }
noncomputable def laws_toMsgS_R (r : List TMsg) : V := vsl 13 eMsg r
noncomputable def laws_toMsgS_O (r : List TMsg) : List (Option V) := [none]
noncomputable def laws_toMsgS_t (i : Nat) (fr : Bool) (r : List TMsg) : Nat × Tell := (i, { a := .call [.val [some 13] []] fr (laws_toMsgS_R r) (laws_toMsgS_O r) })
noncomputable def laws_toMsgS_k1 : List Item := posI 2000 4 [false] [.code laws_toMsgS_c]
noncomputable def laws_toMsgS_S1 (out1 : List TMsg) : St := ⟨(bs 3 (.own 1 0 13 0 out1.length :: (bs 19 []))), [some [], some [erow 110 13 eMsg out1]]⟩
noncomputable def laws_toMsgS_k2 (out1 : List TMsg) : Option (List TMsg) :=
  some out1
theorem laws_toMsgS_k2_ok (r : List TMsg) (out1 : List TMsg) (h : laws_toMsgS_k2 out1 = some r) : Fin cx laws_toMsgS_X (laws_toMsgS_R r) (laws_toMsgS_O r) laws_toMsgS_k1 (laws_toMsgS_S1 out1) :=
  P0 <|
 rg <| om (out1.length = out1.length) rfl <| fe Tryz.func23 h
noncomputable def laws_toMsgS_k3 : List Item := posI 2000 3 [] [.code laws_toMsgS_c]
noncomputable def laws_toMsgS_S2 (a : List TMsg) (out : List TMsg) (i : Int) : St := ⟨(vsl 13 eMsg a :: (bs 2 (.own 1 0 13 0 out.length :: (vi i :: (bs 18 []))))), [some [], some [erow 110 13 eMsg out]]⟩
noncomputable def laws_toMsgS_b1 (a : List TMsg) (out : List TMsg) (i : Int) : Option (Stp (List TMsg) ((List TMsg) × Int) (List TMsg)) :=
  (bif decide (i < (a.length : Int)) then
 ((idx a i).bind fun msg =>
 ((laws_toMsg msg).bind fun toMsg =>
 ((idx out i).bind fun msg1 =>
 some (Stp.nxt (out.set i.toNat toMsg, w64 (i + 1))))))
 else
 some (Stp.brk out))
theorem laws_toMsgS_b1_ok (a : List TMsg) (res : V) (outs : List (Option V)) (x1 : Exc (List TMsg) (List TMsg)) (hb1 : HB cx laws_toMsgS_X res outs x1 laws_toMsgS_k1 laws_toMsgS_S1) (hr1 : HR res outs x1 laws_toMsgS_R laws_toMsgS_O) (st1 : Stp (List TMsg) ((List TMsg) × Int) (List TMsg)) (hc1 : Cont x1 (fun s : (List TMsg) × Int => Fin cx laws_toMsgS_X res outs laws_toMsgS_k3 (laws_toMsgS_S2 a s.1 s.2)) st1) (out : List TMsg) (i : Int) (h : laws_toMsgS_b1 a out i = some st1) : Fin cx laws_toMsgS_X res outs laws_toMsgS_k3 (laws_toMsgS_S2 a out i) :=
  P0 <|
 rg <| cdD 3 h (fun h =>
 rg <| ixS eMsg 4 h fun msg hmsg h =>
 cb laws_toMsg_t laws_toMsg_ok 6 false h fun toMsg h =>
 bindD h fun msg1 hmsg1 h =>
 ixB hmsg1 <| stR 110 13 eMsg 8 ck110 toMsg hmsg1 <| rg <| (nxtD h hc1 fun hI => om ((.own 1 0 13 0 out.length : V) = .own 1 0 13 0 (out.set i.toNat toMsg).length) (by simp) <| sg [.is (.tmp 3) (.own 1 0 13 0 (out.set i.toNat toMsg).length)] [0, 3, 4] [(1, 0)] hI)) (fun h =>
 (brkD h hc1 fun e => sg [] [3] [(1, 0)] (hb1 _ e)))
noncomputable def laws_toMsgS (a : List TMsg) : Option (List TMsg) :=
  (need (0 ≤ (a.length : Int) ∧ (a.length : Int) * 152 ≤ 140737488355328)
 (((loop (fun s : (List TMsg) × Int => laws_toMsgS_b1 a s.1 s.2) (List.replicate (a.length : Int).toNat (TMsg.mk 0 0 0 0 0 (TEntry.mk false (TReq.mk 0 0) (TRun.mk [] [] 0 0)) []), 0)).bind fun x => x.go (fun r => some r) fun s => laws_toMsgS_k2 s)))
theorem laws_toMsgS_ok {a : List TMsg} (r : List TMsg) (h : laws_toMsgS a = some r) : ACalls cx.P 23 [vsl 13 eMsg a] (laws_toMsgS_R r) (laws_toMsgS_O r) :=
  ACalls.of (cx := cx) (X := laws_toMsgS_X) (c := laws_toMsgS_c) Tryz.func23 (by kernel_rfl) (by kernel_rfl) (by kernel_rfl) (P0 <|
 rg2 <| needD h fun e1 h =>
 mkS 2 4 110 13 152 eMsg (TMsg.mk 0 0 0 0 0 (TEntry.mk false (TReq.mk 0 0) (TRun.mk [] [] 0 0)) []) ti110 (.ck ck110) e1 (by decide) (by rfl) <| rg <| loopJ h fun x hl hr hb => sg [] [0, 3, 4] [(4, 0)] (loopD (I := fun s : (List TMsg) × Int => Fin cx laws_toMsgS_X (laws_toMsgS_R r) (laws_toMsgS_O r) laws_toMsgS_k3 (laws_toMsgS_S2 a s.1 s.2)) hl fun s st h hc => laws_toMsgS_b1_ok a _ _ x (fun s e => laws_toMsgS_k2_ok r s (hb s e)) (fun v e => ⟨congrArg laws_toMsgS_R (Option.some.inj (hr v e)).symm, congrArg laws_toMsgS_O (Option.some.inj (hr v e)).symm⟩) st hc s.1 s.2 h))

/-! ### laws_toAsked -/
noncomputable def laws_toAsked_c : Code := bodyOf Tryz.f58
noncomputable def laws_toAsked_X : Sig := { f := 58, fn := Tryz.f58, rms := [.val [none, none, some 4] []], oms := [none] }
noncomputable def laws_toAsked_R (r : TAsked) : V := .agg (eAsked r)
noncomputable def laws_toAsked_O (r : TAsked) : List (Option V) := [none]
noncomputable def laws_toAsked_t (i : Nat) (fr : Bool) (r : TAsked) : Nat × Tell := (i, { a := .call [.val [none, none, some 4] []] fr (laws_toAsked_R r) (laws_toAsked_O r) })
noncomputable def laws_toAsked (a : TAsked) : Option TAsked :=
  ((laws_toReq a.Req).bind fun toReq =>
 ((laws_toInsS a.Prog).bind fun toInsS =>
 some (TAsked.mk toReq toInsS)))
theorem laws_toAsked_ok {a : TAsked} (r : TAsked) (h : laws_toAsked a = some r) : ACalls cx.P 58 [.agg (eAsked a)] (laws_toAsked_R r) (laws_toAsked_O r) :=
  ACalls.of (cx := cx) (X := laws_toAsked_X) (c := laws_toAsked_c) Tryz.func58 (by kernel_rfl) (by kernel_rfl) (by kernel_rfl) (P0 <|
 rg3 <| cb laws_toReq_t laws_toReq_ok 2 false h fun toReq h =>
 rg <| cb laws_toInsS_t laws_toInsS_ok 2 false h fun toInsS h =>
 rg <| fe Tryz.func58 h)

/-! ### laws_toAskedS -/
noncomputable def laws_toAskedS_c : Code := bodyOf Tryz.f24
noncomputable def laws_toAskedS_X : Sig := { f := 24, fn := Tryz.f24, rms := [.val [some 3] []], oms := [none] }
noncomputable def laws_toAskedS_R (r : List TAsked) : V := vsl 3 eAsked r
noncomputable def laws_toAskedS_O (r : List TAsked) : List (Option V) := [none]
noncomputable def laws_toAskedS_t (i : Nat) (fr : Bool) (r : List TAsked) : Nat × Tell := (i, { a := .call [.val [some 3] []] fr (laws_toAskedS_R r) (laws_toAskedS_O r) })
noncomputable def laws_toAskedS_k1 : List Item := posI 2000 4 [false] [.code laws_toAskedS_c]
noncomputable def laws_toAskedS_S1 (out1 : List TAsked) : St := ⟨(bs 3 (.own 1 0 3 0 out1.length :: (bs 19 []))), [some [], some [erow 113 3 eAsked out1]]⟩
noncomputable def laws_toAskedS_k2 (out1 : List TAsked) : Option (List TAsked) :=
  some out1
theorem laws_toAskedS_k2_ok (r : List TAsked) (out1 : List TAsked) (h : laws_toAskedS_k2 out1 = some r) : Fin cx laws_toAskedS_X (laws_toAskedS_R r) (laws_toAskedS_O r) laws_toAskedS_k1 (laws_toAskedS_S1 out1) :=
  P0 <|
 rg <| om (out1.length = out1.length) rfl <| fe Tryz.func24 h
noncomputable def laws_toAskedS_k3 : List Item := posI 2000 3 [] [.code laws_toAskedS_c]
noncomputable def laws_toAskedS_S2 (a : List TAsked) (out : List TAsked) (i : Int) : St := ⟨(vsl 3 eAsked a :: (bs 2 (.own 1 0 3 0 out.length :: (vi i :: (bs 18 []))))), [some [], some [erow 113 3 eAsked out]]⟩
noncomputable def laws_toAskedS_b1 (a : List TAsked) (out : List TAsked) (i : Int) : Option (Stp (List TAsked) ((List TAsked) × Int) (List TAsked)) :=
  (bif decide (i < (a.length : Int)) then
 ((idx a i).bind fun asked =>
 ((laws_toAsked asked).bind fun toAsked =>
 ((idx out i).bind fun asked1 =>
 some (Stp.nxt (out.set i.toNat toAsked, w64 (i + 1))))))
 else
 some (Stp.brk out))
theorem laws_toAskedS_b1_ok (a : List TAsked) (res : V) (outs : List (Option V)) (x1 : Exc (List TAsked) (List TAsked)) (hb1 : HB cx laws_toAskedS_X res outs x1 laws_toAskedS_k1 laws_toAskedS_S1) (hr1 : HR res outs x1 laws_toAskedS_R laws_toAskedS_O) (st1 : Stp (List TAsked) ((List TAsked) × Int) (List TAsked)) (hc1 : Cont x1 (fun s : (List TAsked) × Int => Fin cx laws_toAskedS_X res outs laws_toAskedS_k3 (laws_toAskedS_S2 a s.1 s.2)) st1) (out : List TAsked) (i : Int) (h : laws_toAskedS_b1 a out i = some st1) : Fin cx laws_toAskedS_X res outs laws_toAskedS_k3 (laws_toAskedS_S2 a out i) :=
  P0 <|
 rg <| cdD 3 h (fun h =>
 rg <| ixS eAsked 4 h fun asked hasked h =>
 cb laws_toAsked_t laws_toAsked_ok 6 false h fun toAsked h =>
 bindD h fun asked1 hasked1 h =>
 ixB hasked1 <| stR 113 3 eAsked 8 [none, none, some 4] toAsked hasked1 <| rg <| (nxtD h hc1 fun hI => om ((.own 1 0 3 0 out.length : V) = .own 1 0 3 0 (out.set i.toNat toAsked).length) (by simp) <| sg [.is (.tmp 3) (.own 1 0 3 0 (out.set i.toNat toAsked).length)] [0, 3, 4] [(1, 0)] hI)) (fun h =>
 (brkD h hc1 fun e => sg [] [3] [(1, 0)] (hb1 _ e)))
noncomputable def laws_toAskedS (a : List TAsked) : Option (List TAsked) :=
  (need (0 ≤ (a.length : Int) ∧ (a.length : Int) * 40 ≤ 140737488355328)
 (((loop (fun s : (List TAsked) × Int => laws_toAskedS_b1 a s.1 s.2) (List.replicate (a.length : Int).toNat (TAsked.mk (TReq.mk 0 0) []), 0)).bind fun x => x.go (fun r => some r) fun s => laws_toAskedS_k2 s)))
theorem laws_toAskedS_ok {a : List TAsked} (r : List TAsked) (h : laws_toAskedS a = some r) : ACalls cx.P 24 [vsl 3 eAsked a] (laws_toAskedS_R r) (laws_toAskedS_O r) :=
  ACalls.of (cx := cx) (X := laws_toAskedS_X) (c := laws_toAskedS_c) Tryz.func24 (by kernel_rfl) (by kernel_rfl) (by kernel_rfl) (P0 <|
 rg2 <| needD h fun e1 h =>
 mkS 2 4 113 3 40 eAsked (TAsked.mk (TReq.mk 0 0) []) ti113 (.ck [none, none, some 4]) e1 (by decide) (by rfl) <| rg <| loopJ h fun x hl hr hb => sg [] [0, 3, 4] [(4, 0)] (loopD (I := fun s : (List TAsked) × Int => Fin cx laws_toAskedS_X (laws_toAskedS_R r) (laws_toAskedS_O r) laws_toAskedS_k3 (laws_toAskedS_S2 a s.1 s.2)) hl fun s st h hc => laws_toAskedS_b1_ok a _ _ x (fun s e => laws_toAskedS_k2_ok r s (hb s e)) (fun v e => ⟨congrArg laws_toAskedS_R (Option.some.inj (hr v e)).symm, congrArg laws_toAskedS_O (Option.some.inj (hr v e)).symm⟩) st hc s.1 s.2 h))

/-! ### laws_toTold -/
noncomputable def laws_toTold_c : Code := bodyOf Tryz.f59
noncomputable def laws_toTold_X : Sig := { f := 59, fn := Tryz.f59, rms := [.val [] []], oms := [none] }
noncomputable def laws_toTold_R (r : TTold) : V := .agg (eTold r)
noncomputable def laws_toTold_O (r : TTold) : List (Option V) := [none]
noncomputable def laws_toTold_t (i : Nat) (fr : Bool) (r : TTold) : Nat × Tell := (i, { a := .call [.val [] []] fr (laws_toTold_R r) (laws_toTold_O r) })
noncomputable def laws_toTold (a : TTold) : Option TTold :=
  ((laws_toReq a.Req).bind fun toReq =>
 some (TTold.mk a.Node toReq a.Code a.Val))
theorem laws_toTold_ok {a : TTold} (r : TTold) (h : laws_toTold a = some r) : ACalls cx.P 59 [.agg (eTold a)] (laws_toTold_R r) (laws_toTold_O r) :=
  ACalls.of (cx := cx) (X := laws_toTold_X) (c := laws_toTold_c) Tryz.func59 (by kernel_rfl) (by kernel_rfl) (by kernel_rfl) (P0 <|
 rg4 <| cb laws_toReq_t laws_toReq_ok 2 false h fun toReq h =>
 rg3 <| fe Tryz.func59 h)

/-! ### laws_toToldS -/
noncomputable def laws_toToldS_c : Code := bodyOf Tryz.f25
noncomputable def laws_toToldS_X : Sig := { f := 25, fn := Tryz.f25, rms := [.val [some 5] []], oms := [none] }
noncomputable def laws_toToldS_R (r : List TTold) : V := vsl 5 eTold r
noncomputable def laws_toToldS_O (r : List TTold) : List (Option V) := [none]
noncomputable def laws_toToldS_t (i : Nat) (fr : Bool) (r : List TTold) : Nat × Tell := (i, { a := .call [.val [some 5] []] fr (laws_toToldS_R r) (laws_toToldS_O r) })
noncomputable def laws_toToldS_k1 : List Item := posI 2000 4 [false] [.code laws_toToldS_c]
noncomputable def laws_toToldS_S1 (out1 : List TTold) : St := ⟨(bs 3 (.own 1 0 5 0 out1.length :: (bs 19 []))), [some [], some [erow 117 5 eTold out1]]⟩
noncomputable def laws_toToldS_k2 (out1 : List TTold) : Option (List TTold) :=
  some out1
theorem laws_toToldS_k2_ok (r : List TTold) (out1 : List TTold) (h : laws_toToldS_k2 out1 = some r) : Fin cx laws_toToldS_X (laws_toToldS_R r) (laws_toToldS_O r) laws_toToldS_k1 (laws_toToldS_S1 out1) :=
  P0 <|
 rg <| om (out1.length = out1.length) rfl <| fe Tryz.func25 h
noncomputable def laws_toToldS_k3 : List Item := posI 2000 3 [] [.code laws_toToldS_c]
noncomputable def laws_toToldS_S2 (a : List TTold) (out : List TTold) (i : Int) : St := ⟨(vsl 5 eTold a :: (bs 2 (.own 1 0 5 0 out.length :: (vi i :: (bs 18 []))))), [some [], some [erow 117 5 eTold out]]⟩
noncomputable def laws_toToldS_b1 (a : List TTold) (out : List TTold) (i : Int) : Option (Stp (List TTold) ((List TTold) × Int) (List TTold)) :=
  (bif decide (i < (a.length : Int)) then
 ((idx a i).bind fun told =>
 ((laws_toTold told).bind fun toTold =>
 ((idx out i).bind fun told1 =>
 some (Stp.nxt (out.set i.toNat toTold, w64 (i + 1))))))
 else
 some (Stp.brk out))
theorem laws_toToldS_b1_ok (a : List TTold) (res : V) (outs : List (Option V)) (x1 : Exc (List TTold) (List TTold)) (hb1 : HB cx laws_toToldS_X res outs x1 laws_toToldS_k1 laws_toToldS_S1) (hr1 : HR res outs x1 laws_toToldS_R laws_toToldS_O) (st1 : Stp (List TTold) ((List TTold) × Int) (List TTold)) (hc1 : Cont x1 (fun s : (List TTold) × Int => Fin cx laws_toToldS_X res outs laws_toToldS_k3 (laws_toToldS_S2 a s.1 s.2)) st1) (out : List TTold) (i : Int) (h : laws_toToldS_b1 a out i = some st1) : Fin cx laws_toToldS_X res outs laws_toToldS_k3 (laws_toToldS_S2 a out i) :=
  P0 <|
 rg <| cdD 3 h (fun h =>
 rg <| ixS eTold 4 h fun told htold h =>
 cb laws_toTold_t laws_toTold_ok 6 false h fun toTold h =>
 bindD h fun told1 htold1 h =>
 ixB htold1 <| stR 117 5 eTold 8 [] toTold htold1 <| rg <| (nxtD h hc1 fun hI => om ((.own 1 0 5 0 out.length : V) = .own 1 0 5 0 (out.set i.toNat toTold).length) (by simp) <| sg [.is (.tmp 3) (.own 1 0 5 0 (out.set i.toNat toTold).length)] [0, 3, 4] [(1, 0)] hI)) (fun h =>
 (brkD h hc1 fun e => sg [] [3] [(1, 0)] (hb1 _ e)))
noncomputable def laws_toToldS (a : List TTold) : Option (List TTold) :=
  (need (0 ≤ (a.length : Int) ∧ (a.length : Int) * 40 ≤ 140737488355328)
 (((loop (fun s : (List TTold) × Int => laws_toToldS_b1 a s.1 s.2) (List.replicate (a.length : Int).toNat (TTold.mk 0 (TReq.mk 0 0) 0 0), 0)).bind fun x => x.go (fun r => some r) fun s => laws_toToldS_k2 s)))
theorem laws_toToldS_ok {a : List TTold} (r : List TTold) (h : laws_toToldS a = some r) : ACalls cx.P 25 [vsl 5 eTold a] (laws_toToldS_R r) (laws_toToldS_O r) :=
  ACalls.of (cx := cx) (X := laws_toToldS_X) (c := laws_toToldS_c) Tryz.func25 (by kernel_rfl) (by kernel_rfl) (by kernel_rfl) (P0 <|
 rg2 <| needD h fun e1 h =>
 mkS 2 4 117 5 40 eTold (TTold.mk 0 (TReq.mk 0 0) 0 0) ti117 (.none) e1 (by decide) (by rfl) <| rg <| loopJ h fun x hl hr hb => sg [] [0, 3, 4] [(4, 0)] (loopD (I := fun s : (List TTold) × Int => Fin cx laws_toToldS_X (laws_toToldS_R r) (laws_toToldS_O r) laws_toToldS_k3 (laws_toToldS_S2 a s.1 s.2)) hl fun s st h hc => laws_toToldS_b1_ok a _ _ x (fun s e => laws_toToldS_k2_ok r s (hb s e)) (fun v e => ⟨congrArg laws_toToldS_R (Option.some.inj (hr v e)).symm, congrArg laws_toToldS_O (Option.some.inj (hr v e)).symm⟩) st hc s.1 s.2 h))

/-! ### laws_toWorld -/
noncomputable def laws_toWorld_c : Code := bodyOf Tryz.f6
noncomputable def laws_toWorld_X : Sig := { f := 6, fn := Tryz.f6, rms := [.val ck35 []], oms := [none] }
noncomputable def laws_toWorld_R (r : TWorld) : V := .agg (eWorld r)
noncomputable def laws_toWorld_O (r : TWorld) : List (Option V) := [none]
noncomputable def laws_toWorld_t (i : Nat) (fr : Bool) (r : TWorld) : Nat × Tell := (i, { a := .call [.val ck27 []] fr (laws_toWorld_R r) (laws_toWorld_O r) })
noncomputable def laws_toWorld (a : TWorld) : Option TWorld :=
  ((laws_toNodeS a.Nodes).bind fun toNodeS =>
 ((laws_toMsgS a.Net).bind fun toMsgS =>
 ((laws_toAskedS a.Asked).bind fun toAskedS =>
 ((laws_toToldS a.Told).bind fun toToldS =>
 some (TWorld.mk toNodeS toMsgS toAskedS toToldS)))))
theorem laws_toWorld_ok {a : TWorld} (r : TWorld) (h : laws_toWorld a = some r) : ACalls cx.P 6 [.agg (eWorld a)] (laws_toWorld_R r) (laws_toWorld_O r) :=
  ACalls.of (cx := cx) (X := laws_toWorld_X) (c := laws_toWorld_c) Tryz.func6 (by kernel_rfl) (by kernel_rfl) (by kernel_rfl) (P0 <|
 rg3 <| cb laws_toNodeS_t laws_toNodeS_ok 2 false h fun toNodeS h =>
 rg <| cb laws_toMsgS_t laws_toMsgS_ok 2 false h fun toMsgS h =>
 rg <| cb laws_toAskedS_t laws_toAskedS_ok 2 false h fun toAskedS h =>
 rg <| cb laws_toToldS_t laws_toToldS_ok 2 false h fun toToldS h =>
 rg <| fe Tryz.func6 h)

/-! ### spec_ExecSame -/
noncomputable def spec_ExecSame_c : Code := bodyOf Tryz.f99
noncomputable def spec_ExecSame_X : Sig := { f := 99, fn := Tryz.f99, rms := [.val [] []], oms := [none, none] }
noncomputable def spec_ExecSame_R (r : Bool) : V := .b r
noncomputable def spec_ExecSame_O (r : Bool) : List (Option V) := [none, none]
noncomputable def spec_ExecSame_t (i : Nat) (fr : Bool) (r : Bool) : Nat × Tell := (i, { a := .call [.val ck73 [], .val ck73 []] fr (spec_ExecSame_R r) (spec_ExecSame_O r) })
noncomputable def spec_ExecSame_k1 : List Item := posI 2000 4 [false, false] [.code spec_ExecSame_c]
noncomputable def spec_ExecSame_S1 (a : TRun) (b : TRun) : St := ⟨(bs 2 (.ptr 1 0 0 :: (.ptr 2 0 0 :: (bs 69 [])))), [some [], some [.var 73 [vsl 2 eRead a.Reads, vsl 2 ePut a.Puts, vi a.Val, vi a.Code]], some [.var 73 [vsl 2 eRead b.Reads, vsl 2 ePut b.Puts, vi b.Val, vi b.Code]]]⟩
noncomputable def spec_ExecSame_k2 : List Item := posI 2000 6 [false, false, false] [.code spec_ExecSame_c]
noncomputable def spec_ExecSame_S2 : St := ⟨(bs 73 []), [some []]⟩
noncomputable def spec_ExecSame_k3 : Option Bool :=
  some true
theorem spec_ExecSame_k3_ok (r : Bool) (h : spec_ExecSame_k3 = some r) : Fin cx spec_ExecSame_X (spec_ExecSame_R r) (spec_ExecSame_O r) spec_ExecSame_k2 (spec_ExecSame_S2) :=
  P0 <|
 rg <| fe Tryz.func99 h
noncomputable def spec_ExecSame_k4 : List Item := posI 2000 5 [false, false] [.code spec_ExecSame_c]
noncomputable def spec_ExecSame_S3 (a : TRun) (b : TRun) (i1 : Int) : St := ⟨(bs 2 (.ptr 1 0 0 :: (.ptr 2 0 0 :: (bs 2 (vi i1 :: (bs 66 [])))))), [some [], some [.var 73 [vsl 2 eRead a.Reads, vsl 2 ePut a.Puts, vi a.Val, vi a.Code]], some [.var 73 [vsl 2 eRead b.Reads, vsl 2 ePut b.Puts, vi b.Val, vi b.Code]]]⟩
noncomputable def spec_ExecSame_b1 (a : TRun) (b : TRun) (i1 : Int) : Option (Stp Bool Int Unit) :=
  (bif decide (i1 < (a.Puts.length : Int)) then
 ((idx a.Puts i1).bind fun put =>
 ((idx b.Puts i1).bind fun put1 =>
 (bif (!(([put.Box, put.Val] : List Int) == [put1.Box, put1.Val])) then
 some (Stp.ret false)
 else
 some (Stp.nxt (w64 (i1 + 1))))))
 else
 some (Stp.brk ()))
theorem spec_ExecSame_b1_ok (a : TRun) (b : TRun) (res : V) (outs : List (Option V)) (x1 : Exc Bool Unit) (hb1 : HB cx spec_ExecSame_X res outs x1 spec_ExecSame_k2 (fun s => spec_ExecSame_S2)) (hr1 : HR res outs x1 spec_ExecSame_R spec_ExecSame_O) (st1 : Stp Bool Int Unit) (hc1 : Cont x1 (fun s : Int => Fin cx spec_ExecSame_X res outs spec_ExecSame_k4 (spec_ExecSame_S3 a b s)) st1) (i1 : Int) (h : spec_ExecSame_b1 a b i1 = some st1) : Fin cx spec_ExecSame_X res outs spec_ExecSame_k4 (spec_ExecSame_S3 a b i1) :=
  P0 <|
 rg <| cdD 4 h (fun h =>
 rg <| ixS ePut 3 h fun put hput h =>
 ixS ePut 8 h fun put1 hput1 h =>
 cdD 10 h (fun h =>
 rg <| (retD h hc1 fun e => fn0 Tryz.func99 (hr1 _ e))) (fun h =>
 rg <| (nxtD h hc1 fun hI => sg [] [2, 3, 6] [(1, 0), (2, 0)] hI))) (fun h =>
 (brkD h hc1 fun e => sg [] [] [] (hb1 _ e)))
noncomputable def spec_ExecSame_k5 (a : TRun) (b : TRun) : Option Bool :=
  ((loop (fun s : Int => spec_ExecSame_b1 a b s) 0).bind fun x => x.go (fun r => some r) fun s => spec_ExecSame_k3)
theorem spec_ExecSame_k5_ok (a : TRun) (b : TRun) (r : Bool) (h : spec_ExecSame_k5 a b = some r) : Fin cx spec_ExecSame_X (spec_ExecSame_R r) (spec_ExecSame_O r) spec_ExecSame_k1 (spec_ExecSame_S1 a b) :=
  P0 <|
 rg <| loopJ h fun x hl hr hb => sg [] [2, 3, 6] [(1, 0), (2, 0)] (loopD (I := fun s : Int => Fin cx spec_ExecSame_X (spec_ExecSame_R r) (spec_ExecSame_O r) spec_ExecSame_k4 (spec_ExecSame_S3 a b s)) hl fun s st h hc => spec_ExecSame_b1_ok a b _ _ x (fun s e => spec_ExecSame_k3_ok r (hb s e)) (fun v e => ⟨congrArg spec_ExecSame_R (Option.some.inj (hr v e)).symm, congrArg spec_ExecSame_O (Option.some.inj (hr v e)).symm⟩) st hc s h)
noncomputable def spec_ExecSame_k6 : List Item := posI 2000 3 [false] [.code spec_ExecSame_c]
noncomputable def spec_ExecSame_S4 (a : TRun) (b : TRun) (i : Int) : St := ⟨(bs 2 (.ptr 1 0 0 :: (.ptr 2 0 0 :: (bs 1 (vi i :: (bs 67 [])))))), [some [], some [.var 73 [vsl 2 eRead a.Reads, vsl 2 ePut a.Puts, vi a.Val, vi a.Code]], some [.var 73 [vsl 2 eRead b.Reads, vsl 2 ePut b.Puts, vi b.Val, vi b.Code]]]⟩
noncomputable def spec_ExecSame_b2 (a : TRun) (b : TRun) (i : Int) : Option (Stp Bool Int Unit) :=
  (bif decide (i < (a.Reads.length : Int)) then
 ((idx a.Reads i).bind fun read =>
 ((idx b.Reads i).bind fun read1 =>
 (bif (!(([read.Box, read.Ver] : List Int) == [read1.Box, read1.Ver])) then
 some (Stp.ret false)
 else
 some (Stp.nxt (w64 (i + 1))))))
 else
 some (Stp.brk ()))
theorem spec_ExecSame_b2_ok (a : TRun) (b : TRun) (res : V) (outs : List (Option V)) (x1 : Exc Bool Unit) (hb1 : HB cx spec_ExecSame_X res outs x1 spec_ExecSame_k1 (fun s => spec_ExecSame_S1 a b)) (hr1 : HR res outs x1 spec_ExecSame_R spec_ExecSame_O) (st1 : Stp Bool Int Unit) (hc1 : Cont x1 (fun s : Int => Fin cx spec_ExecSame_X res outs spec_ExecSame_k6 (spec_ExecSame_S4 a b s)) st1) (i : Int) (h : spec_ExecSame_b2 a b i = some st1) : Fin cx spec_ExecSame_X res outs spec_ExecSame_k6 (spec_ExecSame_S4 a b i) :=
  P0 <|
 rg <| cdD 4 h (fun h =>
 rg <| ixS eRead 3 h fun read hread h =>
 ixS eRead 8 h fun read1 hread1 h =>
 cdD 10 h (fun h =>
 rg <| (retD h hc1 fun e => fn0 Tryz.func99 (hr1 _ e))) (fun h =>
 rg <| (nxtD h hc1 fun hI => sg [] [2, 3, 5] [(1, 0), (2, 0)] hI))) (fun h =>
 (brkD h hc1 fun e => sg [] [2, 3] [(1, 0), (2, 0)] (hb1 _ e)))
noncomputable def spec_ExecSame (a : TRun) (b : TRun) : Option Bool :=
  (bif (a.Val != b.Val) then
 some false
 else
 (bif (a.Code != b.Code) then
 some false
 else
 (bif ((a.Reads.length : Int) != (b.Reads.length : Int)) then
 some false
 else
 (bif ((a.Puts.length : Int) != (b.Puts.length : Int)) then
 some false
 else
 ((loop (fun s : Int => spec_ExecSame_b2 a b s) 0).bind fun x => x.go (fun r => some r) fun s => spec_ExecSame_k5 a b)))))
theorem spec_ExecSame_ok {a : TRun} {b : TRun} (r : Bool) (h : spec_ExecSame a b = some r) : ACalls cx.P 99 [.agg (eRun a), .agg (eRun b)] (spec_ExecSame_R r) (spec_ExecSame_O r) :=
  ACalls.of (cx := cx) (X := spec_ExecSame_X) (c := spec_ExecSame_c) Tryz.func99 (by kernel_rfl) (by kernel_rfl) (by kernel_rfl) (P0 <|
 rg2 <| cdD 5 h (fun h =>
 rg <| fe Tryz.func99 h) (fun h =>
 cdD 12 h (fun h =>
 rg <| fe Tryz.func99 h) (fun h =>
 cdD 21 h (fun h =>
 rg <| fe Tryz.func99 h) (fun h =>
 cdD 29 h (fun h =>
 rg <| fe Tryz.func99 h) (fun h =>
 rg <| loopJ h fun x hl hr hb => sg [] [2, 3, 5] [(1, 0), (2, 0)] (loopD (I := fun s : Int => Fin cx spec_ExecSame_X (spec_ExecSame_R r) (spec_ExecSame_O r) spec_ExecSame_k6 (spec_ExecSame_S4 a b s)) hl fun s st h hc => spec_ExecSame_b2_ok a b _ _ x (fun s e => spec_ExecSame_k5_ok a b r (hb s e)) (fun v e => ⟨congrArg spec_ExecSame_R (Option.some.inj (hr v e)).symm, congrArg spec_ExecSame_O (Option.some.inj (hr v e)).symm⟩) st hc s h))))))

/-! ### spec_l6Bal -/
noncomputable def spec_l6Bal_c : Code := bodyOf Tryz.f89
noncomputable def spec_l6Bal_X : Sig := { f := 89, fn := Tryz.f89, rms := [.val [] []], oms := [none] }
noncomputable def spec_l6Bal_R (r : Bool) : V := .b r
noncomputable def spec_l6Bal_O (r : Bool) : List (Option V) := [none]
noncomputable def spec_l6Bal_t (i : Nat) (fr : Bool) (r : Bool) : Nat × Tell := (i, { a := .call [.val [] []] fr (spec_l6Bal_R r) (spec_l6Bal_O r) })
noncomputable def spec_l6Bal (n : Int) : Option Bool :=
  (bif decide (n ≥ 1) then
 some (decide (n ≤ 3000))
 else
 some false)
theorem spec_l6Bal_ok {n : Int} (r : Bool) (h : spec_l6Bal n = some r) : ACalls cx.P 89 [vi n] (spec_l6Bal_R r) (spec_l6Bal_O r) :=
  ACalls.of (cx := cx) (X := spec_l6Bal_X) (c := spec_l6Bal_c) Tryz.func89 (by kernel_rfl) (by kernel_rfl) (by kernel_rfl) (P0 <|
 rg2 <| cdD 2 h (fun h =>
 fe Tryz.func89 h) (fun h =>
 fe Tryz.func89 h))

/-! ### spec_l5Req -/
noncomputable def spec_l5Req_c : Code := bodyOf Tryz.f44
noncomputable def spec_l5Req_X : Sig := { f := 44, fn := Tryz.f44, rms := [.val [] []], oms := [none] }
noncomputable def spec_l5Req_R (r : Bool) : V := .b r
noncomputable def spec_l5Req_O (r : Bool) : List (Option V) := [none]
noncomputable def spec_l5Req_t (i : Nat) (fr : Bool) (r : Bool) : Nat × Tell := (i, { a := .call [.val [] []] fr (spec_l5Req_R r) (spec_l5Req_O r) })
noncomputable def spec_l5Req (q : TReq) : Option Bool :=
  (bif decide (q.Who ≥ 0) then
 (bif decide (q.Who < 3) then
 (bif decide (q.Seq ≥ 1) then
 some (decide (q.Seq ≤ 1000))
 else
 some false)
 else
 some false)
 else
 some false)
theorem spec_l5Req_ok {q : TReq} (r : Bool) (h : spec_l5Req q = some r) : ACalls cx.P 44 [.agg (eReq q)] (spec_l5Req_R r) (spec_l5Req_O r) :=
  ACalls.of (cx := cx) (X := spec_l5Req_X) (c := spec_l5Req_c) Tryz.func44 (by kernel_rfl) (by kernel_rfl) (by kernel_rfl) (P0 <|
 rg2 <| cdD 3 h (fun h =>
 cdD 8 h (fun h =>
 cdD 13 h (fun h =>
 fe Tryz.func44 h) (fun h =>
 fe Tryz.func44 h)) (fun h =>
 fe Tryz.func44 h)) (fun h =>
 fe Tryz.func44 h))

/-! ### spec_l1Num -/
noncomputable def spec_l1Num_c : Code := bodyOf Tryz.f92
noncomputable def spec_l1Num_X : Sig := { f := 92, fn := Tryz.f92, rms := [.val [] []], oms := [none] }
noncomputable def spec_l1Num_R (r : Bool) : V := .b r
noncomputable def spec_l1Num_O (r : Bool) : List (Option V) := [none]
noncomputable def spec_l1Num_t (i : Nat) (fr : Bool) (r : Bool) : Nat × Tell := (i, { a := .call [.val [] []] fr (spec_l1Num_R r) (spec_l1Num_O r) })
noncomputable def spec_l1Num (n : Int) : Option Bool :=
  (bif decide (n ≥ (-1000000)) then
 some (decide (n ≤ 1000000))
 else
 some false)
theorem spec_l1Num_ok {n : Int} (r : Bool) (h : spec_l1Num n = some r) : ACalls cx.P 92 [vi n] (spec_l1Num_R r) (spec_l1Num_O r) :=
  ACalls.of (cx := cx) (X := spec_l1Num_X) (c := spec_l1Num_c) Tryz.func92 (by kernel_rfl) (by kernel_rfl) (by kernel_rfl) (P0 <|
 rg2 <| cdD 2 h (fun h =>
 fe Tryz.func92 h) (fun h =>
 fe Tryz.func92 h))

/-! ### spec_l2Box -/
noncomputable def spec_l2Box_c : Code := bodyOf Tryz.f132
noncomputable def spec_l2Box_X : Sig := { f := 132, fn := Tryz.f132, rms := [.val [] []], oms := [none] }
noncomputable def spec_l2Box_R (r : Bool) : V := .b r
noncomputable def spec_l2Box_O (r : Bool) : List (Option V) := [none]
noncomputable def spec_l2Box_t (i : Nat) (fr : Bool) (r : Bool) : Nat × Tell := (i, { a := .call [.val [] []] fr (spec_l2Box_R r) (spec_l2Box_O r) })
noncomputable def spec_l2Box (n : Int) : Option Bool :=
  (bif decide (n ≥ 0) then
 some (decide (n < 4))
 else
 some false)
theorem spec_l2Box_ok {n : Int} (r : Bool) (h : spec_l2Box n = some r) : ACalls cx.P 132 [vi n] (spec_l2Box_R r) (spec_l2Box_O r) :=
  ACalls.of (cx := cx) (X := spec_l2Box_X) (c := spec_l2Box_c) Tryz.func132 (by kernel_rfl) (by kernel_rfl) (by kernel_rfl) (P0 <|
 rg2 <| cdD 2 h (fun h =>
 fe Tryz.func132 h) (fun h =>
 fe Tryz.func132 h))

/-! ### spec_l3Saw -/
noncomputable def spec_l3Saw_c : Code := bodyOf Tryz.f136
noncomputable def spec_l3Saw_X : Sig := { f := 136, fn := Tryz.f136, rms := [.val [] []], oms := [none, none] }
noncomputable def spec_l3Saw_R (r : Bool) : V := .b r
noncomputable def spec_l3Saw_O (r : Bool) : List (Option V) := [none, none]
noncomputable def spec_l3Saw_t (i : Nat) (fr : Bool) (r : Bool) : Nat × Tell := (i, { a := .call [.val [some 2] [], .val [] []] fr (spec_l3Saw_R r) (spec_l3Saw_O r) })
noncomputable def spec_l3Saw_k1 : List Item := posI 2000 3 [false] [.code spec_l3Saw_c]
noncomputable def spec_l3Saw_S1 : St := ⟨(bs 19 []), [some []]⟩
noncomputable def spec_l3Saw_k2 : Option Bool :=
  some false
theorem spec_l3Saw_k2_ok (r : Bool) (h : spec_l3Saw_k2 = some r) : Fin cx spec_l3Saw_X (spec_l3Saw_R r) (spec_l3Saw_O r) spec_l3Saw_k1 (spec_l3Saw_S1) :=
  P0 <|
 rg <| fe Tryz.func136 h
noncomputable def spec_l3Saw_k3 : List Item := posI 2000 2 [] [.code spec_l3Saw_c]
noncomputable def spec_l3Saw_S2 (list : List TRead) (box : Int) (i : Int) : St := ⟨(vsl 2 eRead list :: (vi box :: (bs 3 (vi i :: (bs 13 []))))), [some []]⟩
noncomputable def spec_l3Saw_b1 (list : List TRead) (box : Int) (i : Int) : Option (Stp Bool Int Unit) :=
  (bif decide (i < (list.length : Int)) then
 ((idx list i).bind fun read =>
 (bif (read.Box == box) then
 some (Stp.ret true)
 else
 some (Stp.nxt (w64 (i + 1)))))
 else
 some (Stp.brk ()))
theorem spec_l3Saw_b1_ok (list : List TRead) (box : Int) (res : V) (outs : List (Option V)) (x1 : Exc Bool Unit) (hb1 : HB cx spec_l3Saw_X res outs x1 spec_l3Saw_k1 (fun s => spec_l3Saw_S1)) (hr1 : HR res outs x1 spec_l3Saw_R spec_l3Saw_O) (st1 : Stp Bool Int Unit) (hc1 : Cont x1 (fun s : Int => Fin cx spec_l3Saw_X res outs spec_l3Saw_k3 (spec_l3Saw_S2 list box s)) st1) (i : Int) (h : spec_l3Saw_b1 list box i = some st1) : Fin cx spec_l3Saw_X res outs spec_l3Saw_k3 (spec_l3Saw_S2 list box i) :=
  P0 <|
 rg <| cdD 3 h (fun h =>
 rg <| ixS eRead 2 h fun read hread h =>
 cdD 6 h (fun h =>
 rg <| (retD h hc1 fun e => fn0 Tryz.func136 (hr1 _ e))) (fun h =>
 rg <| (nxtD h hc1 fun hI => sg [] [0, 1, 5] [] hI))) (fun h =>
 (brkD h hc1 fun e => sg [] [] [] (hb1 _ e)))
noncomputable def spec_l3Saw (list : List TRead) (box : Int) : Option Bool :=
  ((loop (fun s : Int => spec_l3Saw_b1 list box s) 0).bind fun x => x.go (fun r => some r) fun s => spec_l3Saw_k2)
theorem spec_l3Saw_ok {list : List TRead} {box : Int} (r : Bool) (h : spec_l3Saw list box = some r) : ACalls cx.P 136 [vsl 2 eRead list, vi box] (spec_l3Saw_R r) (spec_l3Saw_O r) :=
  ACalls.of (cx := cx) (X := spec_l3Saw_X) (c := spec_l3Saw_c) Tryz.func136 (by kernel_rfl) (by kernel_rfl) (by kernel_rfl) (P0 <|
 rg2 <| loopJ h fun x hl hr hb => sg [] [0, 1, 5] [] (loopD (I := fun s : Int => Fin cx spec_l3Saw_X (spec_l3Saw_R r) (spec_l3Saw_O r) spec_l3Saw_k3 (spec_l3Saw_S2 list box s)) hl fun s st h hc => spec_l3Saw_b1_ok list box _ _ x (fun s e => spec_l3Saw_k2_ok r (hb s e)) (fun v e => ⟨congrArg spec_l3Saw_R (Option.some.inj (hr v e)).symm, congrArg spec_l3Saw_O (Option.some.inj (hr v e)).symm⟩) st hc s h))

/-! ### spec_l3At -/
noncomputable def spec_l3At_c : Code := bodyOf Tryz.f137
noncomputable def spec_l3At_X : Sig := { f := 137, fn := Tryz.f137, rms := [.val [] []], oms := [none, none] }
noncomputable def spec_l3At_R (r : Int) : V := vi r
noncomputable def spec_l3At_O (r : Int) : List (Option V) := [none, none]
noncomputable def spec_l3At_t (i : Nat) (fr : Bool) (r : Int) : Nat × Tell := (i, { a := .call [.val [some 2] [], .val [] []] fr (spec_l3At_R r) (spec_l3At_O r) })
noncomputable def spec_l3At_k1 : List Item := posI 2000 3 [false] [.code spec_l3At_c]
noncomputable def spec_l3At_S1 : St := ⟨(bs 20 []), [some []]⟩
noncomputable def spec_l3At_k2 : Option Int :=
  some (-1)
theorem spec_l3At_k2_ok (r : Int) (h : spec_l3At_k2 = some r) : Fin cx spec_l3At_X (spec_l3At_R r) (spec_l3At_O r) spec_l3At_k1 (spec_l3At_S1) :=
  P0 <|
 rg <| fe Tryz.func137 h
noncomputable def spec_l3At_k3 : List Item := posI 2000 2 [] [.code spec_l3At_c]
noncomputable def spec_l3At_S2 (list : List TPut) (box : Int) (i : Int) : St := ⟨(vsl 2 ePut list :: (vi box :: (bs 3 (vi i :: (bs 14 []))))), [some []]⟩
noncomputable def spec_l3At_b1 (list : List TPut) (box : Int) (i : Int) : Option (Stp Int Int Unit) :=
  (bif decide (i < (list.length : Int)) then
 ((idx list i).bind fun put =>
 (bif (put.Box == box) then
 some (Stp.ret i)
 else
 some (Stp.nxt (w64 (i + 1)))))
 else
 some (Stp.brk ()))
theorem spec_l3At_b1_ok (list : List TPut) (box : Int) (res : V) (outs : List (Option V)) (x1 : Exc Int Unit) (hb1 : HB cx spec_l3At_X res outs x1 spec_l3At_k1 (fun s => spec_l3At_S1)) (hr1 : HR res outs x1 spec_l3At_R spec_l3At_O) (st1 : Stp Int Int Unit) (hc1 : Cont x1 (fun s : Int => Fin cx spec_l3At_X res outs spec_l3At_k3 (spec_l3At_S2 list box s)) st1) (i : Int) (h : spec_l3At_b1 list box i = some st1) : Fin cx spec_l3At_X res outs spec_l3At_k3 (spec_l3At_S2 list box i) :=
  P0 <|
 rg <| cdD 3 h (fun h =>
 rg <| ixS ePut 2 h fun put hput h =>
 cdD 6 h (fun h =>
 rg <| (retD h hc1 fun e => fn0 Tryz.func137 (hr1 _ e))) (fun h =>
 rg <| (nxtD h hc1 fun hI => sg [] [0, 1, 5] [] hI))) (fun h =>
 (brkD h hc1 fun e => sg [] [] [] (hb1 _ e)))
noncomputable def spec_l3At (list : List TPut) (box : Int) : Option Int :=
  ((loop (fun s : Int => spec_l3At_b1 list box s) 0).bind fun x => x.go (fun r => some r) fun s => spec_l3At_k2)
theorem spec_l3At_ok {list : List TPut} {box : Int} (r : Int) (h : spec_l3At list box = some r) : ACalls cx.P 137 [vsl 2 ePut list, vi box] (spec_l3At_R r) (spec_l3At_O r) :=
  ACalls.of (cx := cx) (X := spec_l3At_X) (c := spec_l3At_c) Tryz.func137 (by kernel_rfl) (by kernel_rfl) (by kernel_rfl) (P0 <|
 rg2 <| loopJ h fun x hl hr hb => sg [] [0, 1, 5] [] (loopD (I := fun s : Int => Fin cx spec_l3At_X (spec_l3At_R r) (spec_l3At_O r) spec_l3At_k3 (spec_l3At_S2 list box s)) hl fun s st h hc => spec_l3At_b1_ok list box _ _ x (fun s e => spec_l3At_k2_ok r (hb s e)) (fun v e => ⟨congrArg spec_l3At_R (Option.some.inj (hr v e)).symm, congrArg spec_l3At_O (Option.some.inj (hr v e)).symm⟩) st hc s h))

/-! ### spec_ExecOk -/
noncomputable def spec_ExecOk_c : Code := bodyOf Tryz.f100
noncomputable def spec_ExecOk_X : Sig := { f := 100, fn := Tryz.f100, rms := [.val [] []], oms := [none] }
noncomputable def spec_ExecOk_R (r : Bool) : V := .b r
noncomputable def spec_ExecOk_O (r : Bool) : List (Option V) := [none]
noncomputable def spec_ExecOk_t (i : Nat) (fr : Bool) (r : Bool) : Nat × Tell := (i, { a := .call [.val ck73 []] fr (spec_ExecOk_R r) (spec_ExecOk_O r) })
noncomputable def spec_ExecOk_k1 : List Item := posI 2000 2 [false] [.code spec_ExecOk_c]
noncomputable def spec_ExecOk_S1 (r_ : TRun) : St := ⟨(bs 1 (.ptr 1 0 0 :: (bs 129 []))), [some [], some [.var 73 [vsl 2 eRead r_.Reads, vsl 2 ePut r_.Puts, vi r_.Val, vi r_.Code]]]⟩
noncomputable def spec_ExecOk_k2 : List Item := posI 2000 4 [false, false] [.code spec_ExecOk_c]
noncomputable def spec_ExecOk_S2 (r_ : TRun) : St := ⟨(bs 1 (.ptr 1 0 0 :: (bs 129 []))), [some [], some [.var 73 [vsl 2 eRead r_.Reads, vsl 2 ePut r_.Puts, vi r_.Val, vi r_.Code]]]⟩
noncomputable def spec_ExecOk_k3 : List Item := posI 2000 6 [false, false, false] [.code spec_ExecOk_c]
noncomputable def spec_ExecOk_S3 : St := ⟨(bs 131 []), [some []]⟩
noncomputable def spec_ExecOk_k4 : Option Bool :=
  some true
theorem spec_ExecOk_k4_ok (r : Bool) (h : spec_ExecOk_k4 = some r) : Fin cx spec_ExecOk_X (spec_ExecOk_R r) (spec_ExecOk_O r) spec_ExecOk_k3 (spec_ExecOk_S3) :=
  P0 <|
 rg <| fe Tryz.func100 h
noncomputable def spec_ExecOk_k5 : List Item := posI 2000 5 [false, false] [.code spec_ExecOk_c]
noncomputable def spec_ExecOk_S4 (r_ : TRun) (i1 : Int) : St := ⟨(bs 1 (.ptr 1 0 0 :: (bs 2 (vi i1 :: (bs 126 []))))), [some [], some [.var 73 [vsl 2 eRead r_.Reads, vsl 2 ePut r_.Puts, vi r_.Val, vi r_.Code]]]⟩
noncomputable def spec_ExecOk_b1 (r_ : TRun) (i1 : Int) : Option (Stp Bool Int Unit) :=
  (bif decide (i1 < (r_.Puts.length : Int)) then
 ((idx r_.Puts i1).bind fun put =>
 ((spec_l2Box put.Box).bind fun l2Box =>
 (bif (!l2Box) then
 some (Stp.ret false)
 else
 ((spec_l1Num put.Val).bind fun l1Num =>
 (bif (!l1Num) then
 some (Stp.ret false)
 else
 (need ((0 : Int) ≤ i1 ∧ i1 ≤ (r_.Puts.length : Int))
 (((spec_l3At ((r_.Puts.drop 0).take (i1.toNat - 0)) put.Box).bind fun l3At =>
 (bif decide (l3At ≥ 0) then
 some (Stp.ret false)
 else
 some (Stp.nxt (w64 (i1 + 1))))))))))))
 else
 some (Stp.brk ()))
theorem spec_ExecOk_b1_ok (r_ : TRun) (res : V) (outs : List (Option V)) (x1 : Exc Bool Unit) (hb1 : HB cx spec_ExecOk_X res outs x1 spec_ExecOk_k3 (fun s => spec_ExecOk_S3)) (hr1 : HR res outs x1 spec_ExecOk_R spec_ExecOk_O) (st1 : Stp Bool Int Unit) (hc1 : Cont x1 (fun s : Int => Fin cx spec_ExecOk_X res outs spec_ExecOk_k5 (spec_ExecOk_S4 r_ s)) st1) (i1 : Int) (h : spec_ExecOk_b1 r_ i1 = some st1) : Fin cx spec_ExecOk_X res outs spec_ExecOk_k5 (spec_ExecOk_S4 r_ i1) :=
  P0 <|
 rg <| cdD 4 h (fun h =>
 rg <| ixS ePut 3 h fun put hput h =>
 cb spec_l2Box_t spec_l2Box_ok 6 false h fun l2Box h =>
 cdD 8 h (fun h =>
 rg <| (retD h hc1 fun e => fn0 Tryz.func100 (hr1 _ e))) (fun h =>
 ixR ePut 12 hput <| cb spec_l1Num_t spec_l1Num_ok 15 false h fun l1Num h =>
 cdD 18 h (fun h =>
 rg <| (retD h hc1 fun e => fn0 Tryz.func100 (hr1 _ e))) (fun h =>
 needD h fun e1 h =>
 om (V.sl 2 (i1.toNat - 0) (((r_.Puts.map ePut).drop 0).take (i1.toNat - 0)) = vsl 2 ePut ((r_.Puts.drop 0).take (i1.toNat - 0))) (sl_h e1) <| ob e1.1 <| ob e1.2 <| tl (22, { v := some (vsl 2 ePut ((r_.Puts.drop 0).take (i1.toNat - 0))) }) <| ixR ePut 26 hput <| cb spec_l3At_t spec_l3At_ok 29 false h fun l3At h =>
 cdD 31 h (fun h =>
 rg <| (retD h hc1 fun e => fn0 Tryz.func100 (hr1 _ e))) (fun h =>
 rg <| (nxtD h hc1 fun hI => sg [] [1, 4] [(1, 0)] hI))))) (fun h =>
 (brkD h hc1 fun e => sg [] [] [] (hb1 _ e)))
noncomputable def spec_ExecOk_k6 (r_ : TRun) : Option Bool :=
  ((loop (fun s : Int => spec_ExecOk_b1 r_ s) 0).bind fun x => x.go (fun r => some r) fun s => spec_ExecOk_k4)
theorem spec_ExecOk_k6_ok (r_ : TRun) (r : Bool) (h : spec_ExecOk_k6 r_ = some r) : Fin cx spec_ExecOk_X (spec_ExecOk_R r) (spec_ExecOk_O r) spec_ExecOk_k2 (spec_ExecOk_S2 r_) :=
  P0 <|
 rg <| loopJ h fun x hl hr hb => sg [] [1, 4] [(1, 0)] (loopD (I := fun s : Int => Fin cx spec_ExecOk_X (spec_ExecOk_R r) (spec_ExecOk_O r) spec_ExecOk_k5 (spec_ExecOk_S4 r_ s)) hl fun s st h hc => spec_ExecOk_b1_ok r_ _ _ x (fun s e => spec_ExecOk_k4_ok r (hb s e)) (fun v e => ⟨congrArg spec_ExecOk_R (Option.some.inj (hr v e)).symm, congrArg spec_ExecOk_O (Option.some.inj (hr v e)).symm⟩) st hc s h)
noncomputable def spec_ExecOk_k7 : List Item := posI 2000 3 [false] [.code spec_ExecOk_c]
noncomputable def spec_ExecOk_S5 (r_ : TRun) (i : Int) : St := ⟨(bs 1 (.ptr 1 0 0 :: (bs 1 (vi i :: (bs 127 []))))), [some [], some [.var 73 [vsl 2 eRead r_.Reads, vsl 2 ePut r_.Puts, vi r_.Val, vi r_.Code]]]⟩
noncomputable def spec_ExecOk_b2 (r_ : TRun) (i : Int) : Option (Stp Bool Int Unit) :=
  (bif decide (i < (r_.Reads.length : Int)) then
 ((idx r_.Reads i).bind fun read =>
 ((spec_l2Box read.Box).bind fun l2Box1 =>
 (bif (!l2Box1) then
 some (Stp.ret false)
 else
 (bif decide (read.Ver < 0) then
 some (Stp.ret false)
 else
 (bif decide (read.Ver > 1000000) then
 some (Stp.ret false)
 else
 (need ((0 : Int) ≤ i ∧ i ≤ (r_.Reads.length : Int))
 (((spec_l3Saw ((r_.Reads.drop 0).take (i.toNat - 0)) read.Box).bind fun l3Saw =>
 (bif l3Saw then
 some (Stp.ret false)
 else
 some (Stp.nxt (w64 (i + 1))))))))))))
 else
 some (Stp.brk ()))
theorem spec_ExecOk_b2_ok (r_ : TRun) (res : V) (outs : List (Option V)) (x1 : Exc Bool Unit) (hb1 : HB cx spec_ExecOk_X res outs x1 spec_ExecOk_k2 (fun s => spec_ExecOk_S2 r_)) (hr1 : HR res outs x1 spec_ExecOk_R spec_ExecOk_O) (st1 : Stp Bool Int Unit) (hc1 : Cont x1 (fun s : Int => Fin cx spec_ExecOk_X res outs spec_ExecOk_k7 (spec_ExecOk_S5 r_ s)) st1) (i : Int) (h : spec_ExecOk_b2 r_ i = some st1) : Fin cx spec_ExecOk_X res outs spec_ExecOk_k7 (spec_ExecOk_S5 r_ i) :=
  P0 <|
 rg <| cdD 4 h (fun h =>
 rg <| ixS eRead 3 h fun read hread h =>
 cb spec_l2Box_t spec_l2Box_ok 6 false h fun l2Box1 h =>
 cdD 8 h (fun h =>
 rg <| (retD h hc1 fun e => fn0 Tryz.func100 (hr1 _ e))) (fun h =>
 ixR eRead 12 hread <| cdD 17 h (fun h =>
 rg <| (retD h hc1 fun e => fn0 Tryz.func100 (hr1 _ e))) (fun h =>
 ixR eRead 21 hread <| cdD 26 h (fun h =>
 rg <| (retD h hc1 fun e => fn0 Tryz.func100 (hr1 _ e))) (fun h =>
 needD h fun e2 h =>
 om (V.sl 2 (i.toNat - 0) (((r_.Reads.map eRead).drop 0).take (i.toNat - 0)) = vsl 2 eRead ((r_.Reads.drop 0).take (i.toNat - 0))) (sl_h e2) <| ob e2.1 <| ob e2.2 <| tl (30, { v := some (vsl 2 eRead ((r_.Reads.drop 0).take (i.toNat - 0))) }) <| ixR eRead 34 hread <| cb spec_l3Saw_t spec_l3Saw_ok 37 false h fun l3Saw h =>
 cdD 38 h (fun h =>
 rg <| (retD h hc1 fun e => fn0 Tryz.func100 (hr1 _ e))) (fun h =>
 rg <| (nxtD h hc1 fun hI => sg [] [1, 3] [(1, 0)] hI)))))) (fun h =>
 (brkD h hc1 fun e => sg [] [1] [(1, 0)] (hb1 _ e)))
noncomputable def spec_ExecOk_j1 (r_ : TRun) : Option Bool :=
  ((loop (fun s : Int => spec_ExecOk_b2 r_ s) 0).bind fun x => x.go (fun r => some r) fun s => spec_ExecOk_k6 r_)
theorem spec_ExecOk_j1_ok (r_ : TRun) (r : Bool) (h : spec_ExecOk_j1 r_ = some r) : Fin cx spec_ExecOk_X (spec_ExecOk_R r) (spec_ExecOk_O r) spec_ExecOk_k1 (spec_ExecOk_S1 r_) :=
  P0 <|
 rg <| loopJ h fun x hl hr hb => sg [] [1, 3] [(1, 0)] (loopD (I := fun s : Int => Fin cx spec_ExecOk_X (spec_ExecOk_R r) (spec_ExecOk_O r) spec_ExecOk_k7 (spec_ExecOk_S5 r_ s)) hl fun s st h hc => spec_ExecOk_b2_ok r_ _ _ x (fun s e => spec_ExecOk_k6_ok r_ r (hb s e)) (fun v e => ⟨congrArg spec_ExecOk_R (Option.some.inj (hr v e)).symm, congrArg spec_ExecOk_O (Option.some.inj (hr v e)).symm⟩) st hc s h)
noncomputable def spec_ExecOk (r_ : TRun) : Option Bool :=
  (((bif decide (r_.Code < 0) then
 some (Exc.ret false)
 else
 (bif decide (r_.Code > 3) then
 some (Exc.ret false)
 else
 ((spec_l1Num r_.Val).bind fun l1Num1 =>
 (bif (!l1Num1) then
 some (Exc.ret false)
 else
 (bif (r_.Code != 0) then
 (bif (r_.Val != 0) then
 some (Exc.ret false)
 else
 (bif decide ((r_.Puts.length : Int) > 0) then
 some (Exc.ret false)
 else
 (bif (r_.Code == 3) then
 (bif decide ((r_.Reads.length : Int) > 0) then
 some (Exc.ret false)
 else
 some (Exc.brk ()))
 else
 some (Exc.brk ()))))
 else
 (bif (r_.Code == 3) then
 (bif decide ((r_.Reads.length : Int) > 0) then
 some (Exc.ret false)
 else
 some (Exc.brk ()))
 else
 some (Exc.brk ()))))))) : Option (Exc Bool Unit)).bind fun x => x.go some fun j => spec_ExecOk_j1 r_)
theorem spec_ExecOk_ok {r_ : TRun} (r : Bool) (h : spec_ExecOk r_ = some r) : ACalls cx.P 100 [.agg (eRun r_)] (spec_ExecOk_R r) (spec_ExecOk_O r) :=
  ACalls.of (cx := cx) (X := spec_ExecOk_X) (c := spec_ExecOk_c) Tryz.func100 (by kernel_rfl) (by kernel_rfl) (by kernel_rfl) (P0 <|
 rg <| joinD (I := fun j : Unit => Fin cx spec_ExecOk_X (spec_ExecOk_R r) (spec_ExecOk_O r) spec_ExecOk_k1 (spec_ExecOk_S1 r_)) h (fun j h => spec_ExecOk_j1_ok r_ r h) (fun x1 h hc1 =>
  rg <| cdD 3 h (fun h =>
 rg <| (jretD h hc1 fun h => fe Tryz.func100 h)) (fun h =>
 cdD 8 h (fun h =>
 rg <| (jretD h hc1 fun h => fe Tryz.func100 h)) (fun h =>
 cb spec_l1Num_t spec_l1Num_ok 11 false h fun l1Num1 h =>
 cdD 14 h (fun h =>
 rg <| (jretD h hc1 fun h => fe Tryz.func100 h)) (fun h =>
 cdD 18 h (fun h =>
 cdD 22 h (fun h =>
 rg <| (jretD h hc1 fun h => fe Tryz.func100 h)) (fun h =>
 cdD 30 h (fun h =>
 rg <| (jretD h hc1 fun h => fe Tryz.func100 h)) (fun h =>
 cdD 34 h (fun h =>
 cdD 40 h (fun h =>
 rg <| (jretD h hc1 fun h => fe Tryz.func100 h)) (fun h =>
 (jbrkD h hc1 fun hI => sg [] [1] [(1, 0)] hI))) (fun h =>
 (jbrkD h hc1 fun hI => sg [] [1] [(1, 0)] hI))))) (fun h =>
 cdD 34 h (fun h =>
 cdD 40 h (fun h =>
 rg <| (jretD h hc1 fun h => fe Tryz.func100 h)) (fun h =>
 (jbrkD h hc1 fun hI => sg [] [1] [(1, 0)] hI))) (fun h =>
 (jbrkD h hc1 fun hI => sg [] [1] [(1, 0)] hI))))))))

/-! ### spec_CertEntry -/
noncomputable def spec_CertEntry_c : Code := bodyOf Tryz.f55
noncomputable def spec_CertEntry_X : Sig := { f := 55, fn := Tryz.f55, rms := [.val [] []], oms := [none] }
noncomputable def spec_CertEntry_R (r : Bool) : V := .b r
noncomputable def spec_CertEntry_O (r : Bool) : List (Option V) := [none]
noncomputable def spec_CertEntry_t (i : Nat) (fr : Bool) (r : Bool) : Nat × Tell := (i, { a := .call [.val ck75 []] fr (spec_CertEntry_R r) (spec_CertEntry_O r) })
noncomputable def spec_CertEntry (e_ : TEntry) : Option Bool :=
  (bif e_.None then
 (bif (([e_.Req.Who, e_.Req.Seq] : List Int) == [0, 0]) then
 ((spec_ExecSame e_.Run (TRun.mk [] [] 0 0)).bind fun execSame =>
 some execSame)
 else
 some false)
 else
 ((spec_l5Req e_.Req).bind fun l5Req =>
 (bif l5Req then
 ((spec_ExecOk e_.Run).bind fun execOk =>
 (bif execOk then
 some (e_.Run.Code != 3)
 else
 some false))
 else
 some false)))
theorem spec_CertEntry_ok {e_ : TEntry} (r : Bool) (h : spec_CertEntry e_ = some r) : ACalls cx.P 55 [.agg (eEntry e_)] (spec_CertEntry_R r) (spec_CertEntry_O r) :=
  ACalls.of (cx := cx) (X := spec_CertEntry_X) (c := spec_CertEntry_c) Tryz.func55 (by kernel_rfl) (by kernel_rfl) (by kernel_rfl) (P0 <|
 rg2 <| cdD 1 h (fun h =>
 rg <| cdD 4 h (fun h =>
 cb spec_ExecSame_t spec_ExecSame_ok 8 false h fun execSame h =>
 fe Tryz.func55 h) (fun h =>
 fe Tryz.func55 h)) (fun h =>
 rg <| cb spec_l5Req_t spec_l5Req_ok 2 false h fun l5Req h =>
 cdD 3 h (fun h =>
 cb spec_ExecOk_t spec_ExecOk_ok 6 false h fun execOk h =>
 cdD 8 h (fun h =>
 fe Tryz.func55 h) (fun h =>
 fe Tryz.func55 h)) (fun h =>
 fe Tryz.func55 h)))

/-! ### spec_l6Vote -/
noncomputable def spec_l6Vote_c : Code := bodyOf Tryz.f130
noncomputable def spec_l6Vote_X : Sig := { f := 130, fn := Tryz.f130, rms := [.val [] []], oms := [none] }
noncomputable def spec_l6Vote_R (r : Bool) : V := .b r
noncomputable def spec_l6Vote_O (r : Bool) : List (Option V) := [none]
noncomputable def spec_l6Vote_t (i : Nat) (fr : Bool) (r : Bool) : Nat × Tell := (i, { a := .call [.val ck188 []] fr (spec_l6Vote_R r) (spec_l6Vote_O r) })
noncomputable def spec_l6Vote (v_ : TVote) : Option Bool :=
  (bif (v_.Bal == 0) then
 (bif (!v_.Entry.None) then
 (bif (([v_.Entry.Req.Who, v_.Entry.Req.Seq] : List Int) == [0, 0]) then
 ((spec_ExecSame v_.Entry.Run (TRun.mk [] [] 0 0)).bind fun execSame =>
 some execSame)
 else
 some false)
 else
 some false)
 else
 ((spec_l6Bal v_.Bal).bind fun l6Bal =>
 (bif l6Bal then
 ((spec_CertEntry v_.Entry).bind fun certEntry =>
 some certEntry)
 else
 some false)))
theorem spec_l6Vote_ok {v_ : TVote} (r : Bool) (h : spec_l6Vote v_ = some r) : ACalls cx.P 130 [.agg (eVote v_)] (spec_l6Vote_R r) (spec_l6Vote_O r) :=
  ACalls.of (cx := cx) (X := spec_l6Vote_X) (c := spec_l6Vote_c) Tryz.func130 (by kernel_rfl) (by kernel_rfl) (by kernel_rfl) (P0 <|
 rg2 <| cdD 2 h (fun h =>
 rg <| cdD 4 h (fun h =>
 cdD 11 h (fun h =>
 cb spec_ExecSame_t spec_ExecSame_ok 16 false h fun execSame h =>
 fe Tryz.func130 h) (fun h =>
 fe Tryz.func130 h)) (fun h =>
 fe Tryz.func130 h)) (fun h =>
 rg <| cb spec_l6Bal_t spec_l6Bal_ok 2 false h fun l6Bal h =>
 cdD 3 h (fun h =>
 cb spec_CertEntry_t spec_CertEntry_ok 6 false h fun certEntry h =>
 fe Tryz.func130 h) (fun h =>
 fe Tryz.func130 h)))

/-! ### spec_l6Votes -/
noncomputable def spec_l6Votes_c : Code := bodyOf Tryz.f90
noncomputable def spec_l6Votes_X : Sig := { f := 90, fn := Tryz.f90, rms := [.val [] []], oms := [none] }
noncomputable def spec_l6Votes_R (r : Bool) : V := .b r
noncomputable def spec_l6Votes_O (r : Bool) : List (Option V) := [none]
noncomputable def spec_l6Votes_t (i : Nat) (fr : Bool) (r : Bool) : Nat × Tell := (i, { a := .call [.val [some 8] []] fr (spec_l6Votes_R r) (spec_l6Votes_O r) })
noncomputable def spec_l6Votes_k1 : List Item := posI 2000 4 [false, false] [.code spec_l6Votes_c]
noncomputable def spec_l6Votes_S1 : St := ⟨(bs 19 []), [some []]⟩
noncomputable def spec_l6Votes_k2 : Option Bool :=
  some true
theorem spec_l6Votes_k2_ok (r : Bool) (h : spec_l6Votes_k2 = some r) : Fin cx spec_l6Votes_X (spec_l6Votes_R r) (spec_l6Votes_O r) spec_l6Votes_k1 (spec_l6Votes_S1) :=
  P0 <|
 rg <| fe Tryz.func90 h
noncomputable def spec_l6Votes_k3 : List Item := posI 2000 3 [false] [.code spec_l6Votes_c]
noncomputable def spec_l6Votes_S2 (list : List TVote) (i : Int) : St := ⟨(vsl 8 eVote list :: (bs 2 (vi i :: (bs 15 [])))), [some []]⟩
noncomputable def spec_l6Votes_b1 (list : List TVote) (i : Int) : Option (Stp Bool Int Unit) :=
  (bif decide (i < (list.length : Int)) then
 ((idx list i).bind fun vote =>
 ((spec_l6Vote vote).bind fun l6Vote =>
 (bif (!l6Vote) then
 some (Stp.ret false)
 else
 some (Stp.nxt (w64 (i + 1))))))
 else
 some (Stp.brk ()))
theorem spec_l6Votes_b1_ok (list : List TVote) (res : V) (outs : List (Option V)) (x1 : Exc Bool Unit) (hb1 : HB cx spec_l6Votes_X res outs x1 spec_l6Votes_k1 (fun s => spec_l6Votes_S1)) (hr1 : HR res outs x1 spec_l6Votes_R spec_l6Votes_O) (st1 : Stp Bool Int Unit) (hc1 : Cont x1 (fun s : Int => Fin cx spec_l6Votes_X res outs spec_l6Votes_k3 (spec_l6Votes_S2 list s)) st1) (i : Int) (h : spec_l6Votes_b1 list i = some st1) : Fin cx spec_l6Votes_X res outs spec_l6Votes_k3 (spec_l6Votes_S2 list i) :=
  P0 <|
 rg <| cdD 3 h (fun h =>
 rg <| ixS eVote 2 h fun vote hvote h =>
 cb spec_l6Vote_t spec_l6Vote_ok 4 false h fun l6Vote h =>
 cdD 5 h (fun h =>
 rg <| (retD h hc1 fun e => fn0 Tryz.func90 (hr1 _ e))) (fun h =>
 rg <| (nxtD h hc1 fun hI => sg [] [0, 3] [] hI))) (fun h =>
 (brkD h hc1 fun e => sg [] [] [] (hb1 _ e)))
noncomputable def spec_l6Votes (list : List TVote) : Option Bool :=
  (bif decide ((list.length : Int) > 40) then
 some false
 else
 ((loop (fun s : Int => spec_l6Votes_b1 list s) 0).bind fun x => x.go (fun r => some r) fun s => spec_l6Votes_k2))
theorem spec_l6Votes_ok {list : List TVote} (r : Bool) (h : spec_l6Votes list = some r) : ACalls cx.P 90 [vsl 8 eVote list] (spec_l6Votes_R r) (spec_l6Votes_O r) :=
  ACalls.of (cx := cx) (X := spec_l6Votes_X) (c := spec_l6Votes_c) Tryz.func90 (by kernel_rfl) (by kernel_rfl) (by kernel_rfl) (P0 <|
 rg2 <| cdD 2 h (fun h =>
 rg <| fe Tryz.func90 h) (fun h =>
 rg <| loopJ h fun x hl hr hb => sg [] [0, 3] [] (loopD (I := fun s : Int => Fin cx spec_l6Votes_X (spec_l6Votes_R r) (spec_l6Votes_O r) spec_l6Votes_k3 (spec_l6Votes_S2 list s)) hl fun s st h hc => spec_l6Votes_b1_ok list _ _ x (fun s e => spec_l6Votes_k2_ok r (hb s e)) (fun v e => ⟨congrArg spec_l6Votes_R (Option.some.inj (hr v e)).symm, congrArg spec_l6Votes_O (Option.some.inj (hr v e)).symm⟩) st hc s h)))

/-! ### spec_AccOk -/
noncomputable def spec_AccOk_c : Code := bodyOf Tryz.f85
noncomputable def spec_AccOk_X : Sig := { f := 85, fn := Tryz.f85, rms := [.val [] []], oms := [none] }
noncomputable def spec_AccOk_R (r : Bool) : V := .b r
noncomputable def spec_AccOk_O (r : Bool) : List (Option V) := [none]
noncomputable def spec_AccOk_t (i : Nat) (fr : Bool) (r : Bool) : Nat × Tell := (i, { a := .call [.val [none, some 8] []] fr (spec_AccOk_R r) (spec_AccOk_O r) })
noncomputable def spec_AccOk_k1 : List Item := posI 2000 4 [false, false] [.code spec_AccOk_c]
noncomputable def spec_AccOk_S1 : St := ⟨(bs 34 []), [some []]⟩
noncomputable def spec_AccOk_k2 : Option Bool :=
  some true
theorem spec_AccOk_k2_ok (r : Bool) (h : spec_AccOk_k2 = some r) : Fin cx spec_AccOk_X (spec_AccOk_R r) (spec_AccOk_O r) spec_AccOk_k1 (spec_AccOk_S1) :=
  P0 <|
 rg <| fe Tryz.func85 h
noncomputable def spec_AccOk_k3 : List Item := posI 2000 3 [false] [.code spec_AccOk_c]
noncomputable def spec_AccOk_S2 (a : TAcc) (i : Int) : St := ⟨(bs 1 (.ptr 1 0 0 :: (bs 1 (vi i :: (bs 30 []))))), [some [], some [.var 104 [vi a.Promised, vsl 8 eVote a.Votes]]]⟩
noncomputable def spec_AccOk_b1 (a : TAcc) (i : Int) : Option (Stp Bool Int Unit) :=
  (bif decide (i < (a.Votes.length : Int)) then
 ((idx a.Votes i).bind fun vote =>
 (bif decide (vote.Bal > a.Promised) then
 some (Stp.ret false)
 else
 some (Stp.nxt (w64 (i + 1)))))
 else
 some (Stp.brk ()))
theorem spec_AccOk_b1_ok (a : TAcc) (res : V) (outs : List (Option V)) (x1 : Exc Bool Unit) (hb1 : HB cx spec_AccOk_X res outs x1 spec_AccOk_k1 (fun s => spec_AccOk_S1)) (hr1 : HR res outs x1 spec_AccOk_R spec_AccOk_O) (st1 : Stp Bool Int Unit) (hc1 : Cont x1 (fun s : Int => Fin cx spec_AccOk_X res outs spec_AccOk_k3 (spec_AccOk_S2 a s)) st1) (i : Int) (h : spec_AccOk_b1 a i = some st1) : Fin cx spec_AccOk_X res outs spec_AccOk_k3 (spec_AccOk_S2 a i) :=
  P0 <|
 rg <| cdD 4 h (fun h =>
 rg <| ixS eVote 3 h fun vote hvote h =>
 cdD 8 h (fun h =>
 rg <| (retD h hc1 fun e => fn0 Tryz.func85 (hr1 _ e))) (fun h =>
 rg <| (nxtD h hc1 fun hI => sg [] [1, 3] [(1, 0)] hI))) (fun h =>
 (brkD h hc1 fun e => sg [] [] [] (hb1 _ e)))
noncomputable def spec_AccOk (a : TAcc) : Option Bool :=
  (bif decide (a.Promised < 0) then
 some false
 else
 (bif decide (a.Promised > 3000) then
 some false
 else
 ((spec_l6Votes a.Votes).bind fun l6Votes =>
 (bif (!l6Votes) then
 some false
 else
 ((loop (fun s : Int => spec_AccOk_b1 a s) 0).bind fun x => x.go (fun r => some r) fun s => spec_AccOk_k2)))))
theorem spec_AccOk_ok {a : TAcc} (r : Bool) (h : spec_AccOk a = some r) : ACalls cx.P 85 [.agg (eAcc a)] (spec_AccOk_R r) (spec_AccOk_O r) :=
  ACalls.of (cx := cx) (X := spec_AccOk_X) (c := spec_AccOk_c) Tryz.func85 (by kernel_rfl) (by kernel_rfl) (by kernel_rfl) (P0 <|
 rg2 <| cdD 3 h (fun h =>
 rg <| fe Tryz.func85 h) (fun h =>
 cdD 8 h (fun h =>
 rg <| fe Tryz.func85 h) (fun h =>
 cb spec_l6Votes_t spec_l6Votes_ok 11 false h fun l6Votes h =>
 cdD 13 h (fun h =>
 rg <| fe Tryz.func85 h) (fun h =>
 rg <| loopJ h fun x hl hr hb => sg [] [1, 3] [(1, 0)] (loopD (I := fun s : Int => Fin cx spec_AccOk_X (spec_AccOk_R r) (spec_AccOk_O r) spec_AccOk_k3 (spec_AccOk_S2 a s)) hl fun s st h hc => spec_AccOk_b1_ok a _ _ x (fun s e => spec_AccOk_k2_ok r (hb s e)) (fun v e => ⟨congrArg spec_AccOk_R (Option.some.inj (hr v e)).symm, congrArg spec_AccOk_O (Option.some.inj (hr v e)).symm⟩) st hc s h)))))

/-! ### spec_l8Known -/
noncomputable def spec_l8Known_c : Code := bodyOf Tryz.f48
noncomputable def spec_l8Known_X : Sig := { f := 48, fn := Tryz.f48, rms := [.val [] []], oms := [none] }
noncomputable def spec_l8Known_R (r : Bool) : V := .b r
noncomputable def spec_l8Known_O (r : Bool) : List (Option V) := [none]
noncomputable def spec_l8Known_t (i : Nat) (fr : Bool) (r : Bool) : Nat × Tell := (i, { a := .call [.val [some 7] []] fr (spec_l8Known_R r) (spec_l8Known_O r) })
noncomputable def spec_l8Known_k1 : List Item := posI 2000 4 [false, false] [.code spec_l8Known_c]
noncomputable def spec_l8Known_S1 : St := ⟨(bs 19 []), [some []]⟩
noncomputable def spec_l8Known_k2 : Option Bool :=
  some true
theorem spec_l8Known_k2_ok (r : Bool) (h : spec_l8Known_k2 = some r) : Fin cx spec_l8Known_X (spec_l8Known_R r) (spec_l8Known_O r) spec_l8Known_k1 (spec_l8Known_S1) :=
  P0 <|
 rg <| fe Tryz.func48 h
noncomputable def spec_l8Known_k3 : List Item := posI 2000 3 [false] [.code spec_l8Known_c]
noncomputable def spec_l8Known_S2 (list : List TEntry) (i : Int) : St := ⟨(vsl 7 eEntry list :: (bs 2 (vi i :: (bs 15 [])))), [some []]⟩
noncomputable def spec_l8Known_b1 (list : List TEntry) (i : Int) : Option (Stp Bool Int Unit) :=
  (bif decide (i < (list.length : Int)) then
 ((idx list i).bind fun entry =>
 ((spec_CertEntry entry).bind fun certEntry =>
 (bif (!certEntry) then
 some (Stp.ret false)
 else
 some (Stp.nxt (w64 (i + 1))))))
 else
 some (Stp.brk ()))
theorem spec_l8Known_b1_ok (list : List TEntry) (res : V) (outs : List (Option V)) (x1 : Exc Bool Unit) (hb1 : HB cx spec_l8Known_X res outs x1 spec_l8Known_k1 (fun s => spec_l8Known_S1)) (hr1 : HR res outs x1 spec_l8Known_R spec_l8Known_O) (st1 : Stp Bool Int Unit) (hc1 : Cont x1 (fun s : Int => Fin cx spec_l8Known_X res outs spec_l8Known_k3 (spec_l8Known_S2 list s)) st1) (i : Int) (h : spec_l8Known_b1 list i = some st1) : Fin cx spec_l8Known_X res outs spec_l8Known_k3 (spec_l8Known_S2 list i) :=
  P0 <|
 rg <| cdD 3 h (fun h =>
 rg <| ixS eEntry 2 h fun entry hentry h =>
 cb spec_CertEntry_t spec_CertEntry_ok 4 false h fun certEntry h =>
 cdD 5 h (fun h =>
 rg <| (retD h hc1 fun e => fn0 Tryz.func48 (hr1 _ e))) (fun h =>
 rg <| (nxtD h hc1 fun hI => sg [] [0, 3] [] hI))) (fun h =>
 (brkD h hc1 fun e => sg [] [] [] (hb1 _ e)))
noncomputable def spec_l8Known (list : List TEntry) : Option Bool :=
  (bif decide ((list.length : Int) > 40) then
 some false
 else
 ((loop (fun s : Int => spec_l8Known_b1 list s) 0).bind fun x => x.go (fun r => some r) fun s => spec_l8Known_k2))
theorem spec_l8Known_ok {list : List TEntry} (r : Bool) (h : spec_l8Known list = some r) : ACalls cx.P 48 [vsl 7 eEntry list] (spec_l8Known_R r) (spec_l8Known_O r) :=
  ACalls.of (cx := cx) (X := spec_l8Known_X) (c := spec_l8Known_c) Tryz.func48 (by kernel_rfl) (by kernel_rfl) (by kernel_rfl) (P0 <|
 rg2 <| cdD 2 h (fun h =>
 rg <| fe Tryz.func48 h) (fun h =>
 rg <| loopJ h fun x hl hr hb => sg [] [0, 3] [] (loopD (I := fun s : Int => Fin cx spec_l8Known_X (spec_l8Known_R r) (spec_l8Known_O r) spec_l8Known_k3 (spec_l8Known_S2 list s)) hl fun s st h hc => spec_l8Known_b1_ok list _ _ x (fun s e => spec_l8Known_k2_ok r (hb s e)) (fun v e => ⟨congrArg spec_l8Known_R (Option.some.inj (hr v e)).symm, congrArg spec_l8Known_O (Option.some.inj (hr v e)).symm⟩) st hc s h)))

/-! ### spec_l7None -/
noncomputable def spec_l7None_c : Code := bodyOf Tryz.f88
noncomputable def spec_l7None_X : Sig := { f := 88, fn := Tryz.f88, rms := [.val [] []], oms := [none] }
noncomputable def spec_l7None_R (r : Bool) : V := .b r
noncomputable def spec_l7None_O (r : Bool) : List (Option V) := [none]
noncomputable def spec_l7None_t (i : Nat) (fr : Bool) (r : Bool) : Nat × Tell := (i, { a := .call [.val ck75 []] fr (spec_l7None_R r) (spec_l7None_O r) })
noncomputable def spec_l7None (e_ : TEntry) : Option Bool :=
  (bif (!e_.None) then
 (bif (([e_.Req.Who, e_.Req.Seq] : List Int) == [0, 0]) then
 ((spec_ExecSame e_.Run (TRun.mk [] [] 0 0)).bind fun execSame =>
 some execSame)
 else
 some false)
 else
 some false)
theorem spec_l7None_ok {e_ : TEntry} (r : Bool) (h : spec_l7None e_ = some r) : ACalls cx.P 88 [.agg (eEntry e_)] (spec_l7None_R r) (spec_l7None_O r) :=
  ACalls.of (cx := cx) (X := spec_l7None_X) (c := spec_l7None_c) Tryz.func88 (by kernel_rfl) (by kernel_rfl) (by kernel_rfl) (P0 <|
 rg2 <| cdD 3 h (fun h =>
 cdD 9 h (fun h =>
 cb spec_ExecSame_t spec_ExecSame_ok 13 false h fun execSame h =>
 fe Tryz.func88 h) (fun h =>
 fe Tryz.func88 h)) (fun h =>
 fe Tryz.func88 h))

/-! ### spec_AccOwner -/
noncomputable def spec_AccOwner_c : Code := bodyOf Tryz.f129
noncomputable def spec_AccOwner_X : Sig := { f := 129, fn := Tryz.f129, rms := [.val [] []], oms := [none] }
noncomputable def spec_AccOwner_R (r : Int) : V := vi r
noncomputable def spec_AccOwner_O (r : Int) : List (Option V) := [none]
noncomputable def spec_AccOwner_t (i : Nat) (fr : Bool) (r : Int) : Nat × Tell := (i, { a := .call [.val [] []] fr (spec_AccOwner_R r) (spec_AccOwner_O r) })
noncomputable def spec_AccOwner (bal : Int) : Option Int :=
  ((spec_l6Bal bal).bind fun l6Bal =>
 (bif (!l6Bal) then
 some (-1)
 else
 some (Int.tmod bal 3)))
theorem spec_AccOwner_ok {bal : Int} (r : Int) (h : spec_AccOwner bal = some r) : ACalls cx.P 129 [vi bal] (spec_AccOwner_R r) (spec_AccOwner_O r) :=
  ACalls.of (cx := cx) (X := spec_AccOwner_X) (c := spec_AccOwner_c) Tryz.func129 (by kernel_rfl) (by kernel_rfl) (by kernel_rfl) (P0 <|
 rg2 <| cb spec_l6Bal_t spec_l6Bal_ok 1 false h fun l6Bal h =>
 cdD 2 h (fun h =>
 rg <| fe Tryz.func129 h) (fun h =>
 rg <| om (3 ≠ (0 : Int)) (by decide) <| fe Tryz.func129 h))

/-! ### spec_l8Lead -/
noncomputable def spec_l8Lead_c : Code := bodyOf Tryz.f86
noncomputable def spec_l8Lead_X : Sig := { f := 86, fn := Tryz.f86, rms := [.val [] []], oms := [none] }
noncomputable def spec_l8Lead_R (r : Bool) : V := .b r
noncomputable def spec_l8Lead_O (r : Bool) : List (Option V) := [none]
noncomputable def spec_l8Lead_t (i : Nat) (fr : Bool) (r : Bool) : Nat × Tell := (i, { a := .call [.val ck106 []] fr (spec_l8Lead_R r) (spec_l8Lead_O r) })
noncomputable def spec_l8Lead (n : TNode) : Option Bool :=
  (bif (n.Phase == 0) then
 (bif (n.Bal == 0) then
 (bif ((n.From.length : Int) == 0) then
 (bif ((n.Best.length : Int) == 0) then
 ((spec_l7None n.Cur).bind fun l7None =>
 (bif l7None then
 some ((n.Votes.length : Int) == 0)
 else
 some false))
 else
 some false)
 else
 some false)
 else
 some false)
 else
 (bif (n.Phase == 1) then
 ((spec_l6Bal n.Bal).bind fun l6Bal =>
 (bif l6Bal then
 (bif decide (n.Bal ≤ n.Acc.Promised) then
 ((spec_AccOwner n.Bal).bind fun accOwner =>
 (bif (accOwner == n.Id) then
 (bif ((n.From.length : Int) == 3) then
 ((idx n.From n.Id).bind fun y =>
 (bif y then
 ((spec_l6Votes n.Best).bind fun l6Votes =>
 (bif l6Votes then
 ((spec_l7None n.Cur).bind fun l7None1 =>
 (bif l7None1 then
 some ((n.Votes.length : Int) == 0)
 else
 some false))
 else
 some false))
 else
 some false))
 else
 some false)
 else
 some false))
 else
 some false)
 else
 some false))
 else
 (bif (n.Phase == 2) then
 ((spec_l6Bal n.Bal).bind fun l6Bal1 =>
 (bif (!l6Bal1) then
 some false
 else
 (bif decide (n.Bal > n.Acc.Promised) then
 some false
 else
 ((spec_AccOwner n.Bal).bind fun accOwner1 =>
 (bif (accOwner1 != n.Id) then
 some false
 else
 (bif ((n.From.length : Int) != 0) then
 some false
 else
 ((spec_l6Votes n.Best).bind fun l6Votes1 =>
 (bif (!l6Votes1) then
 some false
 else
 (bif (n.Phase == 2) then
 ((spec_l7None n.Cur).bind fun l7None2 =>
 (bif l7None2 then
 some ((n.Votes.length : Int) == 0)
 else
 some false))
 else
 ((spec_CertEntry n.Cur).bind fun certEntry =>
 (bif certEntry then
 (bif ((n.Votes.length : Int) == 3) then
 ((idx n.Votes n.Id).bind fun y1 =>
 (bif y1 then
 some (decide ((n.Known.length : Int) < 40))
 else
 some false))
 else
 some false)
 else
 some false)))))))))))
 else
 (bif (n.Phase == 3) then
 ((spec_l6Bal n.Bal).bind fun l6Bal2 =>
 (bif (!l6Bal2) then
 some false
 else
 (bif decide (n.Bal > n.Acc.Promised) then
 some false
 else
 ((spec_AccOwner n.Bal).bind fun accOwner2 =>
 (bif (accOwner2 != n.Id) then
 some false
 else
 (bif ((n.From.length : Int) != 0) then
 some false
 else
 ((spec_l6Votes n.Best).bind fun l6Votes2 =>
 (bif (!l6Votes2) then
 some false
 else
 (bif (n.Phase == 2) then
 ((spec_l7None n.Cur).bind fun l7None3 =>
 (bif l7None3 then
 some ((n.Votes.length : Int) == 0)
 else
 some false))
 else
 ((spec_CertEntry n.Cur).bind fun certEntry1 =>
 (bif certEntry1 then
 (bif ((n.Votes.length : Int) == 3) then
 ((idx n.Votes n.Id).bind fun y2 =>
 (bif y2 then
 some (decide ((n.Known.length : Int) < 40))
 else
 some false))
 else
 some false)
 else
 some false)))))))))))
 else
 some false))))
set_option maxRecDepth 20000 in
theorem spec_l8Lead_ok {n : TNode} (r : Bool) (h : spec_l8Lead n = some r) : ACalls cx.P 86 [.agg (eNode n)] (spec_l8Lead_R r) (spec_l8Lead_O r) :=
  ACalls.of (cx := cx) (X := spec_l8Lead_X) (c := spec_l8Lead_c) Tryz.func86 (by kernel_rfl) (by kernel_rfl) (by kernel_rfl) (P0 <|
 rg3 <| cdD 1 h (fun h =>
 rg <| cdD 3 h (fun h =>
 cdD 9 h (fun h =>
 cdD 15 h (fun h =>
 cb spec_l7None_t spec_l7None_ok 18 false h fun l7None h =>
 cdD 20 h (fun h =>
 fe Tryz.func86 h) (fun h =>
 fe Tryz.func86 h)) (fun h =>
 fe Tryz.func86 h)) (fun h =>
 fe Tryz.func86 h)) (fun h =>
 fe Tryz.func86 h)) (fun h =>
 rg <| cdD 1 h (fun h =>
 rg <| cb spec_l6Bal_t spec_l6Bal_ok 2 false h fun l6Bal h =>
 cdD 3 h (fun h =>
 cdD 11 h (fun h =>
 cb spec_AccOwner_t spec_AccOwner_ok 14 false h fun accOwner h =>
 cdD 19 h (fun h =>
 cdD 25 h (fun h =>
 ixS eB 30 h fun y hy h =>
 cdD 33 h (fun h =>
 cb spec_l6Votes_t spec_l6Votes_ok 36 false h fun l6Votes h =>
 cdD 38 h (fun h =>
 cb spec_l7None_t spec_l7None_ok 41 false h fun l7None1 h =>
 cdD 43 h (fun h =>
 fe Tryz.func86 h) (fun h =>
 fe Tryz.func86 h)) (fun h =>
 fe Tryz.func86 h)) (fun h =>
 fe Tryz.func86 h)) (fun h =>
 fe Tryz.func86 h)) (fun h =>
 fe Tryz.func86 h)) (fun h =>
 fe Tryz.func86 h)) (fun h =>
 fe Tryz.func86 h)) (fun h =>
 rg <| cdD 1 h (fun h =>
 rg <| cb spec_l6Bal_t spec_l6Bal_ok 2 false h fun l6Bal1 h =>
 cdD 4 h (fun h =>
 rg <| fe Tryz.func86 h) (fun h =>
 cdD 12 h (fun h =>
 rg <| fe Tryz.func86 h) (fun h =>
 cb spec_AccOwner_t spec_AccOwner_ok 15 false h fun accOwner1 h =>
 cdD 20 h (fun h =>
 rg <| fe Tryz.func86 h) (fun h =>
 cdD 26 h (fun h =>
 rg <| fe Tryz.func86 h) (fun h =>
 cb spec_l6Votes_t spec_l6Votes_ok 29 false h fun l6Votes1 h =>
 cdD 31 h (fun h =>
 rg <| fe Tryz.func86 h) (fun h =>
 rg <| cdD 2 h (fun h =>
 rg <| cb spec_l7None_t spec_l7None_ok 2 false h fun l7None2 h =>
 cdD 3 h (fun h =>
 fe Tryz.func86 h) (fun h =>
 fe Tryz.func86 h)) (fun h =>
 rg <| cb spec_CertEntry_t spec_CertEntry_ok 2 false h fun certEntry h =>
 cdD 3 h (fun h =>
 cdD 9 h (fun h =>
 ixS eB 14 h fun y1 hy1 h =>
 cdD 17 h (fun h =>
 fe Tryz.func86 h) (fun h =>
 fe Tryz.func86 h)) (fun h =>
 fe Tryz.func86 h)) (fun h =>
 fe Tryz.func86 h)))))))) (fun h =>
 rg <| cdD 1 h (fun h =>
 rg <| cb spec_l6Bal_t spec_l6Bal_ok 2 false h fun l6Bal2 h =>
 cdD 4 h (fun h =>
 rg <| fe Tryz.func86 h) (fun h =>
 cdD 12 h (fun h =>
 rg <| fe Tryz.func86 h) (fun h =>
 cb spec_AccOwner_t spec_AccOwner_ok 15 false h fun accOwner2 h =>
 cdD 20 h (fun h =>
 rg <| fe Tryz.func86 h) (fun h =>
 cdD 26 h (fun h =>
 rg <| fe Tryz.func86 h) (fun h =>
 cb spec_l6Votes_t spec_l6Votes_ok 29 false h fun l6Votes2 h =>
 cdD 31 h (fun h =>
 rg <| fe Tryz.func86 h) (fun h =>
 rg <| cdD 2 h (fun h =>
 rg <| cb spec_l7None_t spec_l7None_ok 2 false h fun l7None3 h =>
 cdD 3 h (fun h =>
 fe Tryz.func86 h) (fun h =>
 fe Tryz.func86 h)) (fun h =>
 rg <| cb spec_CertEntry_t spec_CertEntry_ok 2 false h fun certEntry1 h =>
 cdD 3 h (fun h =>
 cdD 9 h (fun h =>
 ixS eB 14 h fun y2 hy2 h =>
 cdD 17 h (fun h =>
 fe Tryz.func86 h) (fun h =>
 fe Tryz.func86 h)) (fun h =>
 fe Tryz.func86 h)) (fun h =>
 fe Tryz.func86 h)))))))) (fun h =>
 rg <| fe Tryz.func86 h)))))

/-! ### spec_l2Reg -/
noncomputable def spec_l2Reg_c : Code := bodyOf Tryz.f131
noncomputable def spec_l2Reg_X : Sig := { f := 131, fn := Tryz.f131, rms := [.val [] []], oms := [none] }
noncomputable def spec_l2Reg_R (r : Bool) : V := .b r
noncomputable def spec_l2Reg_O (r : Bool) : List (Option V) := [none]
noncomputable def spec_l2Reg_t (i : Nat) (fr : Bool) (r : Bool) : Nat × Tell := (i, { a := .call [.val [] []] fr (spec_l2Reg_R r) (spec_l2Reg_O r) })
noncomputable def spec_l2Reg (n : Int) : Option Bool :=
  (bif decide (n ≥ 0) then
 some (decide (n < 4))
 else
 some false)
theorem spec_l2Reg_ok {n : Int} (r : Bool) (h : spec_l2Reg n = some r) : ACalls cx.P 131 [vi n] (spec_l2Reg_R r) (spec_l2Reg_O r) :=
  ACalls.of (cx := cx) (X := spec_l2Reg_X) (c := spec_l2Reg_c) Tryz.func131 (by kernel_rfl) (by kernel_rfl) (by kernel_rfl) (P0 <|
 rg2 <| cdD 2 h (fun h =>
 fe Tryz.func131 h) (fun h =>
 fe Tryz.func131 h))

/-! ### spec_l2Ins -/
noncomputable def spec_l2Ins_c : Code := bodyOf Tryz.f91
noncomputable def spec_l2Ins_X : Sig := { f := 91, fn := Tryz.f91, rms := [.val [] []], oms := [none] }
noncomputable def spec_l2Ins_R (r : Bool) : V := .b r
noncomputable def spec_l2Ins_O (r : Bool) : List (Option V) := [none]
noncomputable def spec_l2Ins_t (i : Nat) (fr : Bool) (r : Bool) : Nat × Tell := (i, { a := .call [.val [] []] fr (spec_l2Ins_R r) (spec_l2Ins_O r) })
noncomputable def spec_l2Ins (i : TIns) : Option Bool :=
  (bif (i.Kind == 1) then
 ((spec_l2Reg i.A).bind fun l2Reg =>
 (bif l2Reg then
 ((spec_l2Box i.B).bind fun l2Box =>
 (bif l2Box then
 some (i.N == 0)
 else
 some false))
 else
 some false))
 else
 (bif (i.Kind == 2) then
 ((spec_l2Box i.A).bind fun l2Box1 =>
 (bif l2Box1 then
 ((spec_l2Reg i.B).bind fun l2Reg1 =>
 (bif l2Reg1 then
 some (i.N == 0)
 else
 some false))
 else
 some false))
 else
 (bif (i.Kind == 3) then
 ((spec_l2Reg i.A).bind fun l2Reg2 =>
 (bif l2Reg2 then
 (bif (i.B == 0) then
 ((spec_l1Num i.N).bind fun l1Num =>
 some l1Num)
 else
 some false)
 else
 some false))
 else
 (bif (i.Kind == 4) then
 ((spec_l2Reg i.A).bind fun l2Reg3 =>
 (bif l2Reg3 then
 ((spec_l2Reg i.B).bind fun l2Reg4 =>
 (bif l2Reg4 then
 some (i.N == 0)
 else
 some false))
 else
 some false))
 else
 (bif (i.Kind == 5) then
 ((spec_l2Reg i.A).bind fun l2Reg5 =>
 (bif l2Reg5 then
 ((spec_l2Reg i.B).bind fun l2Reg6 =>
 (bif l2Reg6 then
 some (i.N == 0)
 else
 some false))
 else
 some false))
 else
 (bif (i.Kind == 6) then
 ((spec_l2Reg i.A).bind fun l2Reg7 =>
 (bif l2Reg7 then
 ((spec_l2Reg i.B).bind fun l2Reg8 =>
 (bif l2Reg8 then
 (bif decide (i.N ≥ 1) then
 some (decide (i.N ≤ 10))
 else
 some false)
 else
 some false))
 else
 some false))
 else
 (bif (i.Kind == 7) then
 (bif (i.A == 0) then
 (bif (i.B == 0) then
 some (i.N == 0)
 else
 some false)
 else
 some false)
 else
 some false)))))))
set_option maxRecDepth 20000 in
theorem spec_l2Ins_ok {i : TIns} (r : Bool) (h : spec_l2Ins i = some r) : ACalls cx.P 91 [.agg (eIns i)] (spec_l2Ins_R r) (spec_l2Ins_O r) :=
  ACalls.of (cx := cx) (X := spec_l2Ins_X) (c := spec_l2Ins_c) Tryz.func91 (by kernel_rfl) (by kernel_rfl) (by kernel_rfl) (P0 <|
 rg3 <| cdD 1 h (fun h =>
 rg <| cb spec_l2Reg_t spec_l2Reg_ok 2 false h fun l2Reg h =>
 cdD 3 h (fun h =>
 cb spec_l2Box_t spec_l2Box_ok 6 false h fun l2Box h =>
 cdD 8 h (fun h =>
 fe Tryz.func91 h) (fun h =>
 fe Tryz.func91 h)) (fun h =>
 fe Tryz.func91 h)) (fun h =>
 rg <| cdD 1 h (fun h =>
 rg <| cb spec_l2Box_t spec_l2Box_ok 2 false h fun l2Box1 h =>
 cdD 3 h (fun h =>
 cb spec_l2Reg_t spec_l2Reg_ok 6 false h fun l2Reg1 h =>
 cdD 8 h (fun h =>
 fe Tryz.func91 h) (fun h =>
 fe Tryz.func91 h)) (fun h =>
 fe Tryz.func91 h)) (fun h =>
 rg <| cdD 1 h (fun h =>
 rg <| cb spec_l2Reg_t spec_l2Reg_ok 2 false h fun l2Reg2 h =>
 cdD 3 h (fun h =>
 cdD 8 h (fun h =>
 cb spec_l1Num_t spec_l1Num_ok 11 false h fun l1Num h =>
 fe Tryz.func91 h) (fun h =>
 fe Tryz.func91 h)) (fun h =>
 fe Tryz.func91 h)) (fun h =>
 rg <| cdD 1 h (fun h =>
 rg <| cb spec_l2Reg_t spec_l2Reg_ok 2 false h fun l2Reg3 h =>
 cdD 3 h (fun h =>
 cb spec_l2Reg_t spec_l2Reg_ok 6 false h fun l2Reg4 h =>
 cdD 8 h (fun h =>
 fe Tryz.func91 h) (fun h =>
 fe Tryz.func91 h)) (fun h =>
 fe Tryz.func91 h)) (fun h =>
 rg <| cdD 1 h (fun h =>
 rg <| cb spec_l2Reg_t spec_l2Reg_ok 2 false h fun l2Reg5 h =>
 cdD 3 h (fun h =>
 cb spec_l2Reg_t spec_l2Reg_ok 6 false h fun l2Reg6 h =>
 cdD 8 h (fun h =>
 fe Tryz.func91 h) (fun h =>
 fe Tryz.func91 h)) (fun h =>
 fe Tryz.func91 h)) (fun h =>
 rg <| cdD 1 h (fun h =>
 rg <| cb spec_l2Reg_t spec_l2Reg_ok 2 false h fun l2Reg7 h =>
 cdD 3 h (fun h =>
 cb spec_l2Reg_t spec_l2Reg_ok 6 false h fun l2Reg8 h =>
 cdD 8 h (fun h =>
 cdD 13 h (fun h =>
 fe Tryz.func91 h) (fun h =>
 fe Tryz.func91 h)) (fun h =>
 fe Tryz.func91 h)) (fun h =>
 fe Tryz.func91 h)) (fun h =>
 rg <| cdD 1 h (fun h =>
 rg <| cdD 3 h (fun h =>
 cdD 8 h (fun h =>
 fe Tryz.func91 h) (fun h =>
 fe Tryz.func91 h)) (fun h =>
 fe Tryz.func91 h)) (fun h =>
 rg <| fe Tryz.func91 h))))))))

/-! ### spec_ProgOk -/
noncomputable def spec_ProgOk_c : Code := bodyOf Tryz.f45
noncomputable def spec_ProgOk_X : Sig := { f := 45, fn := Tryz.f45, rms := [.val [] []], oms := [none] }
noncomputable def spec_ProgOk_R (r : Bool) : V := .b r
noncomputable def spec_ProgOk_O (r : Bool) : List (Option V) := [none]
noncomputable def spec_ProgOk_t (i : Nat) (fr : Bool) (r : Bool) : Nat × Tell := (i, { a := .call [.val [some 4] []] fr (spec_ProgOk_R r) (spec_ProgOk_O r) })
noncomputable def spec_ProgOk_k1 : List Item := posI 2000 4 [false, false] [.code spec_ProgOk_c]
noncomputable def spec_ProgOk_S1 : St := ⟨(bs 19 []), [some []]⟩
noncomputable def spec_ProgOk_k2 : Option Bool :=
  some true
theorem spec_ProgOk_k2_ok (r : Bool) (h : spec_ProgOk_k2 = some r) : Fin cx spec_ProgOk_X (spec_ProgOk_R r) (spec_ProgOk_O r) spec_ProgOk_k1 (spec_ProgOk_S1) :=
  P0 <|
 rg <| fe Tryz.func45 h
noncomputable def spec_ProgOk_k3 : List Item := posI 2000 3 [false] [.code spec_ProgOk_c]
noncomputable def spec_ProgOk_S2 (list : List TIns) (i : Int) : St := ⟨(vsl 4 eIns list :: (bs 2 (vi i :: (bs 15 [])))), [some []]⟩
noncomputable def spec_ProgOk_b1 (list : List TIns) (i : Int) : Option (Stp Bool Int Unit) :=
  (bif decide (i < (list.length : Int)) then
 ((idx list i).bind fun ins =>
 ((spec_l2Ins ins).bind fun l2Ins =>
 (bif (!l2Ins) then
 some (Stp.ret false)
 else
 some (Stp.nxt (w64 (i + 1))))))
 else
 some (Stp.brk ()))
theorem spec_ProgOk_b1_ok (list : List TIns) (res : V) (outs : List (Option V)) (x1 : Exc Bool Unit) (hb1 : HB cx spec_ProgOk_X res outs x1 spec_ProgOk_k1 (fun s => spec_ProgOk_S1)) (hr1 : HR res outs x1 spec_ProgOk_R spec_ProgOk_O) (st1 : Stp Bool Int Unit) (hc1 : Cont x1 (fun s : Int => Fin cx spec_ProgOk_X res outs spec_ProgOk_k3 (spec_ProgOk_S2 list s)) st1) (i : Int) (h : spec_ProgOk_b1 list i = some st1) : Fin cx spec_ProgOk_X res outs spec_ProgOk_k3 (spec_ProgOk_S2 list i) :=
  P0 <|
 rg <| cdD 3 h (fun h =>
 rg <| ixS eIns 2 h fun ins hins h =>
 cb spec_l2Ins_t spec_l2Ins_ok 4 false h fun l2Ins h =>
 cdD 5 h (fun h =>
 rg <| (retD h hc1 fun e => fn0 Tryz.func45 (hr1 _ e))) (fun h =>
 rg <| (nxtD h hc1 fun hI => sg [] [0, 3] [] hI))) (fun h =>
 (brkD h hc1 fun e => sg [] [] [] (hb1 _ e)))
noncomputable def spec_ProgOk (list : List TIns) : Option Bool :=
  (bif decide ((list.length : Int) > 10) then
 some false
 else
 ((loop (fun s : Int => spec_ProgOk_b1 list s) 0).bind fun x => x.go (fun r => some r) fun s => spec_ProgOk_k2))
theorem spec_ProgOk_ok {list : List TIns} (r : Bool) (h : spec_ProgOk list = some r) : ACalls cx.P 45 [vsl 4 eIns list] (spec_ProgOk_R r) (spec_ProgOk_O r) :=
  ACalls.of (cx := cx) (X := spec_ProgOk_X) (c := spec_ProgOk_c) Tryz.func45 (by kernel_rfl) (by kernel_rfl) (by kernel_rfl) (P0 <|
 rg2 <| cdD 2 h (fun h =>
 rg <| fe Tryz.func45 h) (fun h =>
 rg <| loopJ h fun x hl hr hb => sg [] [0, 3] [] (loopD (I := fun s : Int => Fin cx spec_ProgOk_X (spec_ProgOk_R r) (spec_ProgOk_O r) spec_ProgOk_k3 (spec_ProgOk_S2 list s)) hl fun s st h hc => spec_ProgOk_b1_ok list _ _ x (fun s e => spec_ProgOk_k2_ok r (hb s e)) (fun v e => ⟨congrArg spec_ProgOk_R (Option.some.inj (hr v e)).symm, congrArg spec_ProgOk_O (Option.some.inj (hr v e)).symm⟩) st hc s h)))

/-! ### spec_l8Wants -/
noncomputable def spec_l8Wants_c : Code := bodyOf Tryz.f87
noncomputable def spec_l8Wants_X : Sig := { f := 87, fn := Tryz.f87, rms := [.val [] []], oms := [none] }
noncomputable def spec_l8Wants_R (r : Bool) : V := .b r
noncomputable def spec_l8Wants_O (r : Bool) : List (Option V) := [none]
noncomputable def spec_l8Wants_t (i : Nat) (fr : Bool) (r : Bool) : Nat × Tell := (i, { a := .call [.val ck106 []] fr (spec_l8Wants_R r) (spec_l8Wants_O r) })
noncomputable def spec_l8Wants (n : TNode) : Option Bool :=
  (bif (!n.Busy) then
 (bif ((n.Prog.length : Int) == 0) then
 ((spec_l7None n.Want).bind fun l7None =>
 some l7None)
 else
 some false)
 else
 ((spec_ProgOk n.Prog).bind fun progOk =>
 (bif progOk then
 ((spec_CertEntry n.Want).bind fun certEntry =>
 (bif certEntry then
 (bif (!n.Want.None) then
 some (([n.Want.Req.Who, n.Want.Req.Seq] : List Int) == [n.Id, n.Seq])
 else
 some false)
 else
 some false))
 else
 some false)))
theorem spec_l8Wants_ok {n : TNode} (r : Bool) (h : spec_l8Wants n = some r) : ACalls cx.P 87 [.agg (eNode n)] (spec_l8Wants_R r) (spec_l8Wants_O r) :=
  ACalls.of (cx := cx) (X := spec_l8Wants_X) (c := spec_l8Wants_c) Tryz.func87 (by kernel_rfl) (by kernel_rfl) (by kernel_rfl) (P0 <|
 rg2 <| cdD 2 h (fun h =>
 rg <| cdD 4 h (fun h =>
 cb spec_l7None_t spec_l7None_ok 7 false h fun l7None h =>
 fe Tryz.func87 h) (fun h =>
 fe Tryz.func87 h)) (fun h =>
 rg <| cb spec_ProgOk_t spec_ProgOk_ok 2 false h fun progOk h =>
 cdD 3 h (fun h =>
 cb spec_CertEntry_t spec_CertEntry_ok 6 false h fun certEntry h =>
 cdD 8 h (fun h =>
 cdD 14 h (fun h =>
 fe Tryz.func87 h) (fun h =>
 fe Tryz.func87 h)) (fun h =>
 fe Tryz.func87 h)) (fun h =>
 fe Tryz.func87 h)))


end Go.Proofs.YtggngdffdglolaaGreat
