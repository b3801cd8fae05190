/- Functions of the program, and that their calls come to this. -/
import Derived.Test.YtepcemfgeeoleaaGreatF2
set_option linter.unusedVariables false
set_option linter.unusedSimpArgs false
namespace Go.Proofs.YtepcemfgeeoleaaGreat
open Go

/-! ### laws_eqEntryS -/
noncomputable def laws_eqEntryS_c : Code := bodyOf Tryz.f82
noncomputable def laws_eqEntryS_X : Sig := { f := 82, fn := Tryz.f82, rms := [.val [] []], oms := [none, none] }
noncomputable def laws_eqEntryS_R (r : Bool) : V := .b r
noncomputable def laws_eqEntryS_O (r : Bool) : List (Option V) := [none, none]
noncomputable def laws_eqEntryS_t (i : Nat) (fr : Bool) (r : Bool) : Nat × Tell := (i, { a := .call [.val [some 7] [], .val [some 7] []] fr (laws_eqEntryS_R r) (laws_eqEntryS_O r) })
noncomputable def laws_eqEntryS_k1 : List Item := posI 2000 4 [false, false] [.code laws_eqEntryS_c]
noncomputable def laws_eqEntryS_S1 : St := ⟨(bs 27 []), [some []]⟩
noncomputable def laws_eqEntryS_k2 : Option Bool :=
  some true
theorem laws_eqEntryS_k2_ok (r : Bool) (h : laws_eqEntryS_k2 = some r) : Fin cx laws_eqEntryS_X (laws_eqEntryS_R r) (laws_eqEntryS_O r) laws_eqEntryS_k1 (laws_eqEntryS_S1) :=
  P0 <|
 rg <| fe Tryz.func82 h
noncomputable def laws_eqEntryS_k3 : List Item := posI 2000 3 [false] [.code laws_eqEntryS_c]
noncomputable def laws_eqEntryS_S2 (a : List TEntry) (b : List TEntry) (i : Int) : St := ⟨(vsl 7 eEntry a :: (vsl 7 eEntry b :: (bs 3 (vi i :: (bs 21 []))))), [some []]⟩
noncomputable def laws_eqEntryS_b1 (a : List TEntry) (b : List TEntry) (i : Int) : Option (Stp Bool Int Unit) :=
  (bif decide (i < (a.length : Int)) then
 ((idx a i).bind fun entry =>
 ((idx b i).bind fun entry1 =>
 ((laws_eqEntry entry entry1).bind fun eqEntry =>
 (bif (!eqEntry) then
 some (Stp.ret false)
 else
 some (Stp.nxt (w64 (i + 1)))))))
 else
 some (Stp.brk ()))
theorem laws_eqEntryS_b1_ok (a : List TEntry) (b : List TEntry) (res : V) (outs : List (Option V)) (x1 : Exc Bool Unit) (hb1 : HB cx laws_eqEntryS_X res outs x1 laws_eqEntryS_k1 (fun s => laws_eqEntryS_S1)) (hr1 : HR res outs x1 laws_eqEntryS_R laws_eqEntryS_O) (st1 : Stp Bool Int Unit) (hc1 : Cont x1 (fun s : Int => Fin cx laws_eqEntryS_X res outs laws_eqEntryS_k3 (laws_eqEntryS_S2 a b s)) st1) (i : Int) (h : laws_eqEntryS_b1 a b i = some st1) : Fin cx laws_eqEntryS_X res outs laws_eqEntryS_k3 (laws_eqEntryS_S2 a b i) :=
  P0 <|
 rg <| cdD 3 h (fun h =>
 rg <| ixS eEntry 2 h fun entry hentry h =>
 ixS eEntry 6 h fun entry1 hentry1 h =>
 cb laws_eqEntry_t laws_eqEntry_ok 8 false h fun eqEntry h =>
 cdD 9 h (fun h =>
 rg <| (retD h hc1 fun e => fn0 Tryz.func82 (hr1 _ e))) (fun h =>
 rg <| (nxtD h hc1 fun hI => sg [] [0, 1, 5] [] hI))) (fun h =>
 (brkD h hc1 fun e => sg [] [] [] (hb1 _ e)))
noncomputable def laws_eqEntryS (a : List TEntry) (b : List TEntry) : Option Bool :=
  (bif ((a.length : Int) != (b.length : Int)) then
 some false
 else
 ((loop (fun s : Int => laws_eqEntryS_b1 a b s) 0).bind fun x => x.go (fun r => some r) fun s => laws_eqEntryS_k2))
theorem laws_eqEntryS_ok {a : List TEntry} {b : List TEntry} (r : Bool) (h : laws_eqEntryS a b = some r) : ACalls cx.P 82 [vsl 7 eEntry a, vsl 7 eEntry b] (laws_eqEntryS_R r) (laws_eqEntryS_O r) :=
  ACalls.of (cx := cx) (X := laws_eqEntryS_X) (c := laws_eqEntryS_c) Tryz.func82 (by kernel_rfl) (by kernel_rfl) (by kernel_rfl) (P0 <|
 rg2 <| cdD 4 h (fun h =>
 rg <| fe Tryz.func82 h) (fun h =>
 rg <| loopJ h fun x hl hr hb => sg [] [0, 1, 5] [] (loopD (I := fun s : Int => Fin cx laws_eqEntryS_X (laws_eqEntryS_R r) (laws_eqEntryS_O r) laws_eqEntryS_k3 (laws_eqEntryS_S2 a b s)) hl fun s st h hc => laws_eqEntryS_b1_ok a b _ _ x (fun s e => laws_eqEntryS_k2_ok r (hb s e)) (fun v e => ⟨congrArg laws_eqEntryS_R (Option.some.inj (hr v e)).symm, congrArg laws_eqEntryS_O (Option.some.inj (hr v e)).symm⟩) st hc s h)))

/-! ### laws_eqBoolS -/
noncomputable def laws_eqBoolS_c : Code := bodyOf Tryz.f83
noncomputable def laws_eqBoolS_X : Sig := { f := 83, fn := Tryz.f83, rms := [.val [] []], oms := [none, none] }
noncomputable def laws_eqBoolS_R (r : Bool) : V := .b r
noncomputable def laws_eqBoolS_O (r : Bool) : List (Option V) := [none, none]
noncomputable def laws_eqBoolS_t (i : Nat) (fr : Bool) (r : Bool) : Nat × Tell := (i, { a := .call [.val [some 1] [], .val [some 1] []] fr (laws_eqBoolS_R r) (laws_eqBoolS_O r) })
noncomputable def laws_eqBoolS_k1 : List Item := posI 2000 4 [false, false] [.code laws_eqBoolS_c]
noncomputable def laws_eqBoolS_S1 : St := ⟨(bs 26 []), [some []]⟩
noncomputable def laws_eqBoolS_k2 : Option Bool :=
  some true
theorem laws_eqBoolS_k2_ok (r : Bool) (h : laws_eqBoolS_k2 = some r) : Fin cx laws_eqBoolS_X (laws_eqBoolS_R r) (laws_eqBoolS_O r) laws_eqBoolS_k1 (laws_eqBoolS_S1) :=
  P0 <|
 rg <| fe Tryz.func83 h
noncomputable def laws_eqBoolS_k3 : List Item := posI 2000 3 [false] [.code laws_eqBoolS_c]
noncomputable def laws_eqBoolS_S2 (a : List Bool) (b : List Bool) (i : Int) : St := ⟨(vsl 1 eB a :: (vsl 1 eB b :: (bs 3 (vi i :: (bs 20 []))))), [some []]⟩
noncomputable def laws_eqBoolS_b1 (a : List Bool) (b : List Bool) (i : Int) : Option (Stp Bool Int Unit) :=
  (bif decide (i < (a.length : Int)) then
 ((idx a i).bind fun y =>
 ((idx b i).bind fun y1 =>
 (bif (!(y == y1)) then
 some (Stp.ret false)
 else
 some (Stp.nxt (w64 (i + 1))))))
 else
 some (Stp.brk ()))
theorem laws_eqBoolS_b1_ok (a : List Bool) (b : List Bool) (res : V) (outs : List (Option V)) (x1 : Exc Bool Unit) (hb1 : HB cx laws_eqBoolS_X res outs x1 laws_eqBoolS_k1 (fun s => laws_eqBoolS_S1)) (hr1 : HR res outs x1 laws_eqBoolS_R laws_eqBoolS_O) (st1 : Stp Bool Int Unit) (hc1 : Cont x1 (fun s : Int => Fin cx laws_eqBoolS_X res outs laws_eqBoolS_k3 (laws_eqBoolS_S2 a b s)) st1) (i : Int) (h : laws_eqBoolS_b1 a b i = some st1) : Fin cx laws_eqBoolS_X res outs laws_eqBoolS_k3 (laws_eqBoolS_S2 a b i) :=
  P0 <|
 rg <| cdD 3 h (fun h =>
 rg <| ixS eB 2 h fun y hy h =>
 ixS eB 6 h fun y1 hy1 h =>
 cdD 8 h (fun h =>
 rg <| (retD h hc1 fun e => fn0 Tryz.func83 (hr1 _ e))) (fun h =>
 rg <| (nxtD h hc1 fun hI => sg [] [0, 1, 5] [] hI))) (fun h =>
 (brkD h hc1 fun e => sg [] [] [] (hb1 _ e)))
noncomputable def laws_eqBoolS (a : List Bool) (b : List Bool) : Option Bool :=
  (bif ((a.length : Int) != (b.length : Int)) then
 some false
 else
 ((loop (fun s : Int => laws_eqBoolS_b1 a b s) 0).bind fun x => x.go (fun r => some r) fun s => laws_eqBoolS_k2))
theorem laws_eqBoolS_ok {a : List Bool} {b : List Bool} (r : Bool) (h : laws_eqBoolS a b = some r) : ACalls cx.P 83 [vsl 1 eB a, vsl 1 eB b] (laws_eqBoolS_R r) (laws_eqBoolS_O r) :=
  ACalls.of (cx := cx) (X := laws_eqBoolS_X) (c := laws_eqBoolS_c) Tryz.func83 (by kernel_rfl) (by kernel_rfl) (by kernel_rfl) (P0 <|
 rg2 <| cdD 4 h (fun h =>
 rg <| fe Tryz.func83 h) (fun h =>
 rg <| loopJ h fun x hl hr hb => sg [] [0, 1, 5] [] (loopD (I := fun s : Int => Fin cx laws_eqBoolS_X (laws_eqBoolS_R r) (laws_eqBoolS_O r) laws_eqBoolS_k3 (laws_eqBoolS_S2 a b s)) hl fun s st h hc => laws_eqBoolS_b1_ok a b _ _ x (fun s e => laws_eqBoolS_k2_ok r (hb s e)) (fun v e => ⟨congrArg laws_eqBoolS_R (Option.some.inj (hr v e)).symm, congrArg laws_eqBoolS_O (Option.some.inj (hr v e)).symm⟩) st hc s h)))

/-! ### laws_eqIns -/
noncomputable def laws_eqIns_c : Code := bodyOf Tryz.f106
noncomputable def laws_eqIns_X : Sig := { f := 106, fn := Tryz.f106, rms := [.val [] []], oms := [none, none] }
noncomputable def laws_eqIns_R (r : Bool) : V := .b r
noncomputable def laws_eqIns_O (r : Bool) : List (Option V) := [none, none]
noncomputable def laws_eqIns_t (i : Nat) (fr : Bool) (r : Bool) : Nat × Tell := (i, { a := .call [.val [] [], .val [] []] fr (laws_eqIns_R r) (laws_eqIns_O r) })
noncomputable def laws_eqIns (a : TIns) (b : TIns) : Option Bool :=
  (bif (a.Kind != b.Kind) then
 some false
 else
 (bif (a.A != b.A) then
 some false
 else
 (bif (a.B != b.B) then
 some false
 else
 (bif (a.N != b.N) then
 some false
 else
 some true))))
theorem laws_eqIns_ok {a : TIns} {b : TIns} (r : Bool) (h : laws_eqIns a b = some r) : ACalls cx.P 106 [.agg (eIns a), .agg (eIns b)] (laws_eqIns_R r) (laws_eqIns_O r) :=
  ACalls.of (cx := cx) (X := laws_eqIns_X) (c := laws_eqIns_c) Tryz.func106 (by kernel_rfl) (by kernel_rfl) (by kernel_rfl) (P0 <|
 rg2 <| cdD 4 h (fun h =>
 rg <| fe Tryz.func106 h) (fun h =>
 rg <| cdD 4 h (fun h =>
 rg <| fe Tryz.func106 h) (fun h =>
 rg <| cdD 4 h (fun h =>
 rg <| fe Tryz.func106 h) (fun h =>
 rg <| cdD 4 h (fun h =>
 rg <| fe Tryz.func106 h) (fun h =>
 rg <| fe Tryz.func106 h)))))

/-! ### laws_eqInsS -/
noncomputable def laws_eqInsS_c : Code := bodyOf Tryz.f86
noncomputable def laws_eqInsS_X : Sig := { f := 86, fn := Tryz.f86, rms := [.val [] []], oms := [none, none] }
noncomputable def laws_eqInsS_R (r : Bool) : V := .b r
noncomputable def laws_eqInsS_O (r : Bool) : List (Option V) := [none, none]
noncomputable def laws_eqInsS_t (i : Nat) (fr : Bool) (r : Bool) : Nat × Tell := (i, { a := .call [.val [some 4] [], .val [some 4] []] fr (laws_eqInsS_R r) (laws_eqInsS_O r) })
noncomputable def laws_eqInsS_k1 : List Item := posI 2000 4 [false, false] [.code laws_eqInsS_c]
noncomputable def laws_eqInsS_S1 : St := ⟨(bs 27 []), [some []]⟩
noncomputable def laws_eqInsS_k2 : Option Bool :=
  some true
theorem laws_eqInsS_k2_ok (r : Bool) (h : laws_eqInsS_k2 = some r) : Fin cx laws_eqInsS_X (laws_eqInsS_R r) (laws_eqInsS_O r) laws_eqInsS_k1 (laws_eqInsS_S1) :=
  P0 <|
 rg <| fe Tryz.func86 h
noncomputable def laws_eqInsS_k3 : List Item := posI 2000 3 [false] [.code laws_eqInsS_c]
noncomputable def laws_eqInsS_S2 (a : List TIns) (b : List TIns) (i : Int) : St := ⟨(vsl 4 eIns a :: (vsl 4 eIns b :: (bs 3 (vi i :: (bs 21 []))))), [some []]⟩
noncomputable def laws_eqInsS_b1 (a : List TIns) (b : List TIns) (i : Int) : Option (Stp Bool Int Unit) :=
  (bif decide (i < (a.length : Int)) then
 ((idx a i).bind fun ins =>
 ((idx b i).bind fun ins1 =>
 ((laws_eqIns ins ins1).bind fun eqIns =>
 (bif (!eqIns) then
 some (Stp.ret false)
 else
 some (Stp.nxt (w64 (i + 1)))))))
 else
 some (Stp.brk ()))
theorem laws_eqInsS_b1_ok (a : List TIns) (b : List TIns) (res : V) (outs : List (Option V)) (x1 : Exc Bool Unit) (hb1 : HB cx laws_eqInsS_X res outs x1 laws_eqInsS_k1 (fun s => laws_eqInsS_S1)) (hr1 : HR res outs x1 laws_eqInsS_R laws_eqInsS_O) (st1 : Stp Bool Int Unit) (hc1 : Cont x1 (fun s : Int => Fin cx laws_eqInsS_X res outs laws_eqInsS_k3 (laws_eqInsS_S2 a b s)) st1) (i : Int) (h : laws_eqInsS_b1 a b i = some st1) : Fin cx laws_eqInsS_X res outs laws_eqInsS_k3 (laws_eqInsS_S2 a b i) :=
  P0 <|
 rg <| cdD 3 h (fun h =>
 rg <| ixS eIns 2 h fun ins hins h =>
 ixS eIns 6 h fun ins1 hins1 h =>
 cb laws_eqIns_t laws_eqIns_ok 8 false h fun eqIns h =>
 cdD 9 h (fun h =>
 rg <| (retD h hc1 fun e => fn0 Tryz.func86 (hr1 _ e))) (fun h =>
 rg <| (nxtD h hc1 fun hI => sg [] [0, 1, 5] [] hI))) (fun h =>
 (brkD h hc1 fun e => sg [] [] [] (hb1 _ e)))
noncomputable def laws_eqInsS (a : List TIns) (b : List TIns) : Option Bool :=
  (bif ((a.length : Int) != (b.length : Int)) then
 some false
 else
 ((loop (fun s : Int => laws_eqInsS_b1 a b s) 0).bind fun x => x.go (fun r => some r) fun s => laws_eqInsS_k2))
theorem laws_eqInsS_ok {a : List TIns} {b : List TIns} (r : Bool) (h : laws_eqInsS a b = some r) : ACalls cx.P 86 [vsl 4 eIns a, vsl 4 eIns b] (laws_eqInsS_R r) (laws_eqInsS_O r) :=
  ACalls.of (cx := cx) (X := laws_eqInsS_X) (c := laws_eqInsS_c) Tryz.func86 (by kernel_rfl) (by kernel_rfl) (by kernel_rfl) (P0 <|
 rg2 <| cdD 4 h (fun h =>
 rg <| fe Tryz.func86 h) (fun h =>
 rg <| loopJ h fun x hl hr hb => sg [] [0, 1, 5] [] (loopD (I := fun s : Int => Fin cx laws_eqInsS_X (laws_eqInsS_R r) (laws_eqInsS_O r) laws_eqInsS_k3 (laws_eqInsS_S2 a b s)) hl fun s st h hc => laws_eqInsS_b1_ok a b _ _ x (fun s e => laws_eqInsS_k2_ok r (hb s e)) (fun v e => ⟨congrArg laws_eqInsS_R (Option.some.inj (hr v e)).symm, congrArg laws_eqInsS_O (Option.some.inj (hr v e)).symm⟩) st hc s h)))

/-! ### laws_eqNode -/
noncomputable def laws_eqNode_c : Code := bodyOf Tryz.f45
noncomputable def laws_eqNode_X : Sig := { f := 45, fn := Tryz.f45, rms := [.val [] []], oms := [none, none] }
noncomputable def laws_eqNode_R (r : Bool) : V := .b r
noncomputable def laws_eqNode_O (r : Bool) : List (Option V) := [none, none]
noncomputable def laws_eqNode_t (i : Nat) (fr : Bool) (r : Bool) : Nat × Tell := (i, { a := .call [.val ck59 [], .val ck59 []] fr (laws_eqNode_R r) (laws_eqNode_O r) })
noncomputable def laws_eqNode (a : TNode) (b : TNode) : Option Bool :=
  (bif (a.Id != b.Id) then
 some false
 else
 ((laws_eqAcc a.Acc b.Acc).bind fun eqAcc =>
 (bif (!eqAcc) then
 some false
 else
 ((laws_eqEntryS a.Known b.Known).bind fun eqEntryS =>
 (bif (!eqEntryS) then
 some false
 else
 (bif (a.Seq != b.Seq) then
 some false
 else
 (bif (a.Phase != b.Phase) then
 some false
 else
 (bif (a.Bal != b.Bal) then
 some false
 else
 ((laws_eqBoolS a.From b.From).bind fun eqBoolS =>
 (bif (!eqBoolS) then
 some false
 else
 ((laws_eqVoteS a.Best b.Best).bind fun eqVoteS =>
 (bif (!eqVoteS) then
 some false
 else
 ((laws_eqEntry a.Cur b.Cur).bind fun eqEntry =>
 (bif (!eqEntry) then
 some false
 else
 ((laws_eqBoolS a.Votes b.Votes).bind fun eqBoolS1 =>
 (bif (!eqBoolS1) then
 some false
 else
 (bif (!(a.Busy == b.Busy)) then
 some false
 else
 ((laws_eqInsS a.Prog b.Prog).bind fun eqInsS =>
 (bif (!eqInsS) then
 some false
 else
 ((laws_eqEntry a.Want b.Want).bind fun eqEntry1 =>
 (bif (!eqEntry1) then
 some false
 else
 ((laws_eqEntryS a.Queue b.Queue).bind fun eqEntryS1 =>
 (bif (!eqEntryS1) then
 some false
 else
 some true)))))))))))))))))))))))
theorem laws_eqNode_ok {a : TNode} {b : TNode} (r : Bool) (h : laws_eqNode a b = some r) : ACalls cx.P 45 [.agg (eNode a), .agg (eNode b)] (laws_eqNode_R r) (laws_eqNode_O r) :=
  ACalls.of (cx := cx) (X := laws_eqNode_X) (c := laws_eqNode_c) Tryz.func45 (by kernel_rfl) (by kernel_rfl) (by kernel_rfl) (P0 <|
 rg2 <| cdD 4 h (fun h =>
 rg <| fe Tryz.func45 h) (fun h =>
 rg <| cb laws_eqAcc_t laws_eqAcc_ok 4 false h fun eqAcc h =>
 cdD 5 h (fun h =>
 rg <| fe Tryz.func45 h) (fun h =>
 rg <| cb laws_eqEntryS_t laws_eqEntryS_ok 4 false h fun eqEntryS h =>
 cdD 5 h (fun h =>
 rg <| fe Tryz.func45 h) (fun h =>
 rg <| cdD 4 h (fun h =>
 rg <| fe Tryz.func45 h) (fun h =>
 rg <| cdD 4 h (fun h =>
 rg <| fe Tryz.func45 h) (fun h =>
 rg <| cdD 4 h (fun h =>
 rg <| fe Tryz.func45 h) (fun h =>
 rg <| cb laws_eqBoolS_t laws_eqBoolS_ok 4 false h fun eqBoolS h =>
 cdD 5 h (fun h =>
 rg <| fe Tryz.func45 h) (fun h =>
 rg <| cb laws_eqVoteS_t laws_eqVoteS_ok 4 false h fun eqVoteS h =>
 cdD 5 h (fun h =>
 rg <| fe Tryz.func45 h) (fun h =>
 rg <| cb laws_eqEntry_t laws_eqEntry_ok 4 false h fun eqEntry h =>
 cdD 5 h (fun h =>
 rg <| fe Tryz.func45 h) (fun h =>
 rg <| cb laws_eqBoolS_t laws_eqBoolS_ok 4 false h fun eqBoolS1 h =>
 cdD 5 h (fun h =>
 rg <| fe Tryz.func45 h) (fun h =>
 rg <| cdD 4 h (fun h =>
 rg <| fe Tryz.func45 h) (fun h =>
 rg <| cb laws_eqInsS_t laws_eqInsS_ok 4 false h fun eqInsS h =>
 cdD 5 h (fun h =>
 rg <| fe Tryz.func45 h) (fun h =>
 rg <| cb laws_eqEntry_t laws_eqEntry_ok 4 false h fun eqEntry1 h =>
 cdD 5 h (fun h =>
 rg <| fe Tryz.func45 h) (fun h =>
 rg <| cb laws_eqEntryS_t laws_eqEntryS_ok 4 false h fun eqEntryS1 h =>
 cdD 5 h (fun h =>
 rg <| fe Tryz.func45 h) (fun h =>
 rg <| fe Tryz.func45 h)))))))))))))))

/-! ### laws_eqNodeS -/
noncomputable def laws_eqNodeS_c : Code := bodyOf Tryz.f21
noncomputable def laws_eqNodeS_X : Sig := { f := 21, fn := Tryz.f21, rms := [.val [] []], oms := [none, none] }
noncomputable def laws_eqNodeS_R (r : Bool) : V := .b r
noncomputable def laws_eqNodeS_O (r : Bool) : List (Option V) := [none, none]
noncomputable def laws_eqNodeS_t (i : Nat) (fr : Bool) (r : Bool) : Nat × Tell := (i, { a := .call [.val [some 27] [], .val [some 27] []] fr (laws_eqNodeS_R r) (laws_eqNodeS_O r) })
noncomputable def laws_eqNodeS_k1 : List Item := posI 2000 4 [false, false] [.code laws_eqNodeS_c]
noncomputable def laws_eqNodeS_S1 : St := ⟨(bs 27 []), [some []]⟩
noncomputable def laws_eqNodeS_k2 : Option Bool :=
  some true
theorem laws_eqNodeS_k2_ok (r : Bool) (h : laws_eqNodeS_k2 = some r) : Fin cx laws_eqNodeS_X (laws_eqNodeS_R r) (laws_eqNodeS_O r) laws_eqNodeS_k1 (laws_eqNodeS_S1) :=
  P0 <|
 rg <| fe Tryz.func21 h
noncomputable def laws_eqNodeS_k3 : List Item := posI 2000 3 [false] [.code laws_eqNodeS_c]
noncomputable def laws_eqNodeS_S2 (a : List TNode) (b : List TNode) (i : Int) : St := ⟨(vsl 27 eNode a :: (vsl 27 eNode b :: (bs 3 (vi i :: (bs 21 []))))), [some []]⟩
noncomputable def laws_eqNodeS_b1 (a : List TNode) (b : List TNode) (i : Int) : Option (Stp Bool Int Unit) :=
  (bif decide (i < (a.length : Int)) then
 ((idx a i).bind fun node =>
 ((idx b i).bind fun node1 =>
 ((laws_eqNode node node1).bind fun eqNode =>
 (bif (!eqNode) then
 some (Stp.ret false)
 else
 some (Stp.nxt (w64 (i + 1)))))))
 else
 some (Stp.brk ()))
theorem laws_eqNodeS_b1_ok (a : List TNode) (b : List TNode) (res : V) (outs : List (Option V)) (x1 : Exc Bool Unit) (hb1 : HB cx laws_eqNodeS_X res outs x1 laws_eqNodeS_k1 (fun s => laws_eqNodeS_S1)) (hr1 : HR res outs x1 laws_eqNodeS_R laws_eqNodeS_O) (st1 : Stp Bool Int Unit) (hc1 : Cont x1 (fun s : Int => Fin cx laws_eqNodeS_X res outs laws_eqNodeS_k3 (laws_eqNodeS_S2 a b s)) st1) (i : Int) (h : laws_eqNodeS_b1 a b i = some st1) : Fin cx laws_eqNodeS_X res outs laws_eqNodeS_k3 (laws_eqNodeS_S2 a b i) :=
  P0 <|
 rg <| cdD 3 h (fun h =>
 rg <| ixS eNode 2 h fun node hnode h =>
 ixS eNode 6 h fun node1 hnode1 h =>
 cb laws_eqNode_t laws_eqNode_ok 8 false h fun eqNode h =>
 cdD 9 h (fun h =>
 rg <| (retD h hc1 fun e => fn0 Tryz.func21 (hr1 _ e))) (fun h =>
 rg <| (nxtD h hc1 fun hI => sg [] [0, 1, 5] [] hI))) (fun h =>
 (brkD h hc1 fun e => sg [] [] [] (hb1 _ e)))
noncomputable def laws_eqNodeS (a : List TNode) (b : List TNode) : Option Bool :=
  (bif ((a.length : Int) != (b.length : Int)) then
 some false
 else
 ((loop (fun s : Int => laws_eqNodeS_b1 a b s) 0).bind fun x => x.go (fun r => some r) fun s => laws_eqNodeS_k2))
theorem laws_eqNodeS_ok {a : List TNode} {b : List TNode} (r : Bool) (h : laws_eqNodeS a b = some r) : ACalls cx.P 21 [vsl 27 eNode a, vsl 27 eNode b] (laws_eqNodeS_R r) (laws_eqNodeS_O r) :=
  ACalls.of (cx := cx) (X := laws_eqNodeS_X) (c := laws_eqNodeS_c) Tryz.func21 (by kernel_rfl) (by kernel_rfl) (by kernel_rfl) (P0 <|
 rg2 <| cdD 4 h (fun h =>
 rg <| fe Tryz.func21 h) (fun h =>
 rg <| loopJ h fun x hl hr hb => sg [] [0, 1, 5] [] (loopD (I := fun s : Int => Fin cx laws_eqNodeS_X (laws_eqNodeS_R r) (laws_eqNodeS_O r) laws_eqNodeS_k3 (laws_eqNodeS_S2 a b s)) hl fun s st h hc => laws_eqNodeS_b1_ok a b _ _ x (fun s e => laws_eqNodeS_k2_ok r (hb s e)) (fun v e => ⟨congrArg laws_eqNodeS_R (Option.some.inj (hr v e)).symm, congrArg laws_eqNodeS_O (Option.some.inj (hr v e)).symm⟩) st hc s h)))

/-! ### laws_eqMsg -/
noncomputable def laws_eqMsg_c : Code := bodyOf Tryz.f46
noncomputable def laws_eqMsg_X : Sig := { f := 46, fn := Tryz.f46, rms := [.val [] []], oms := [none, none] }
noncomputable def laws_eqMsg_R (r : Bool) : V := .b r
noncomputable def laws_eqMsg_O (r : Bool) : List (Option V) := [none, none]
noncomputable def laws_eqMsg_t (i : Nat) (fr : Bool) (r : Bool) : Nat × Tell := (i, { a := .call [.val ck94 [], .val ck94 []] fr (laws_eqMsg_R r) (laws_eqMsg_O r) })
noncomputable def laws_eqMsg (a : TMsg) (b : TMsg) : Option Bool :=
  (bif (a.Kind != b.Kind) then
 some false
 else
 (bif (a.From != b.From) then
 some false
 else
 (bif (a.To != b.To) then
 some false
 else
 (bif (a.Bal != b.Bal) then
 some false
 else
 (bif (a.Slot != b.Slot) then
 some false
 else
 ((laws_eqEntry a.Entry b.Entry).bind fun eqEntry =>
 (bif (!eqEntry) then
 some false
 else
 ((laws_eqVoteS a.Votes b.Votes).bind fun eqVoteS =>
 (bif (!eqVoteS) then
 some false
 else
 some true)))))))))
theorem laws_eqMsg_ok {a : TMsg} {b : TMsg} (r : Bool) (h : laws_eqMsg a b = some r) : ACalls cx.P 46 [.agg (eMsg a), .agg (eMsg b)] (laws_eqMsg_R r) (laws_eqMsg_O r) :=
  ACalls.of (cx := cx) (X := laws_eqMsg_X) (c := laws_eqMsg_c) Tryz.func46 (by kernel_rfl) (by kernel_rfl) (by kernel_rfl) (P0 <|
 rg2 <| cdD 4 h (fun h =>
 rg <| fe Tryz.func46 h) (fun h =>
 rg <| cdD 4 h (fun h =>
 rg <| fe Tryz.func46 h) (fun h =>
 rg <| cdD 4 h (fun h =>
 rg <| fe Tryz.func46 h) (fun h =>
 rg <| cdD 4 h (fun h =>
 rg <| fe Tryz.func46 h) (fun h =>
 rg <| cdD 4 h (fun h =>
 rg <| fe Tryz.func46 h) (fun h =>
 rg <| cb laws_eqEntry_t laws_eqEntry_ok 4 false h fun eqEntry h =>
 cdD 5 h (fun h =>
 rg <| fe Tryz.func46 h) (fun h =>
 rg <| cb laws_eqVoteS_t laws_eqVoteS_ok 4 false h fun eqVoteS h =>
 cdD 5 h (fun h =>
 rg <| fe Tryz.func46 h) (fun h =>
 rg <| fe Tryz.func46 h))))))))

/-! ### laws_eqMsgS -/
noncomputable def laws_eqMsgS_c : Code := bodyOf Tryz.f22
noncomputable def laws_eqMsgS_X : Sig := { f := 22, fn := Tryz.f22, rms := [.val [] []], oms := [none, none] }
noncomputable def laws_eqMsgS_R (r : Bool) : V := .b r
noncomputable def laws_eqMsgS_O (r : Bool) : List (Option V) := [none, none]
noncomputable def laws_eqMsgS_t (i : Nat) (fr : Bool) (r : Bool) : Nat × Tell := (i, { a := .call [.val [some 13] [], .val [some 13] []] fr (laws_eqMsgS_R r) (laws_eqMsgS_O r) })
noncomputable def laws_eqMsgS_k1 : List Item := posI 2000 4 [false, false] [.code laws_eqMsgS_c]
noncomputable def laws_eqMsgS_S1 : St := ⟨(bs 27 []), [some []]⟩
noncomputable def laws_eqMsgS_k2 : Option Bool :=
  some true
theorem laws_eqMsgS_k2_ok (r : Bool) (h : laws_eqMsgS_k2 = some r) : Fin cx laws_eqMsgS_X (laws_eqMsgS_R r) (laws_eqMsgS_O r) laws_eqMsgS_k1 (laws_eqMsgS_S1) :=
  P0 <|
 rg <| fe Tryz.func22 h
noncomputable def laws_eqMsgS_k3 : List Item := posI 2000 3 [false] [.code laws_eqMsgS_c]
noncomputable def laws_eqMsgS_S2 (a : List TMsg) (b : List TMsg) (i : Int) : St := ⟨(vsl 13 eMsg a :: (vsl 13 eMsg b :: (bs 3 (vi i :: (bs 21 []))))), [some []]⟩
noncomputable def laws_eqMsgS_b1 (a : List TMsg) (b : List TMsg) (i : Int) : Option (Stp Bool Int Unit) :=
  (bif decide (i < (a.length : Int)) then
 ((idx a i).bind fun msg =>
 ((idx b i).bind fun msg1 =>
 ((laws_eqMsg msg msg1).bind fun eqMsg =>
 (bif (!eqMsg) then
 some (Stp.ret false)
 else
 some (Stp.nxt (w64 (i + 1)))))))
 else
 some (Stp.brk ()))
theorem laws_eqMsgS_b1_ok (a : List TMsg) (b : List TMsg) (res : V) (outs : List (Option V)) (x1 : Exc Bool Unit) (hb1 : HB cx laws_eqMsgS_X res outs x1 laws_eqMsgS_k1 (fun s => laws_eqMsgS_S1)) (hr1 : HR res outs x1 laws_eqMsgS_R laws_eqMsgS_O) (st1 : Stp Bool Int Unit) (hc1 : Cont x1 (fun s : Int => Fin cx laws_eqMsgS_X res outs laws_eqMsgS_k3 (laws_eqMsgS_S2 a b s)) st1) (i : Int) (h : laws_eqMsgS_b1 a b i = some st1) : Fin cx laws_eqMsgS_X res outs laws_eqMsgS_k3 (laws_eqMsgS_S2 a b i) :=
  P0 <|
 rg <| cdD 3 h (fun h =>
 rg <| ixS eMsg 2 h fun msg hmsg h =>
 ixS eMsg 6 h fun msg1 hmsg1 h =>
 cb laws_eqMsg_t laws_eqMsg_ok 8 false h fun eqMsg h =>
 cdD 9 h (fun h =>
 rg <| (retD h hc1 fun e => fn0 Tryz.func22 (hr1 _ e))) (fun h =>
 rg <| (nxtD h hc1 fun hI => sg [] [0, 1, 5] [] hI))) (fun h =>
 (brkD h hc1 fun e => sg [] [] [] (hb1 _ e)))
noncomputable def laws_eqMsgS (a : List TMsg) (b : List TMsg) : Option Bool :=
  (bif ((a.length : Int) != (b.length : Int)) then
 some false
 else
 ((loop (fun s : Int => laws_eqMsgS_b1 a b s) 0).bind fun x => x.go (fun r => some r) fun s => laws_eqMsgS_k2))
theorem laws_eqMsgS_ok {a : List TMsg} {b : List TMsg} (r : Bool) (h : laws_eqMsgS a b = some r) : ACalls cx.P 22 [vsl 13 eMsg a, vsl 13 eMsg b] (laws_eqMsgS_R r) (laws_eqMsgS_O r) :=
  ACalls.of (cx := cx) (X := laws_eqMsgS_X) (c := laws_eqMsgS_c) Tryz.func22 (by kernel_rfl) (by kernel_rfl) (by kernel_rfl) (P0 <|
 rg2 <| cdD 4 h (fun h =>
 rg <| fe Tryz.func22 h) (fun h =>
 rg <| loopJ h fun x hl hr hb => sg [] [0, 1, 5] [] (loopD (I := fun s : Int => Fin cx laws_eqMsgS_X (laws_eqMsgS_R r) (laws_eqMsgS_O r) laws_eqMsgS_k3 (laws_eqMsgS_S2 a b s)) hl fun s st h hc => laws_eqMsgS_b1_ok a b _ _ x (fun s e => laws_eqMsgS_k2_ok r (hb s e)) (fun v e => ⟨congrArg laws_eqMsgS_R (Option.some.inj (hr v e)).symm, congrArg laws_eqMsgS_O (Option.some.inj (hr v e)).symm⟩) st hc s h)))

/-! ### laws_eqAsked -/
noncomputable def laws_eqAsked_c : Code := bodyOf Tryz.f47
noncomputable def laws_eqAsked_X : Sig := { f := 47, fn := Tryz.f47, rms := [.val [] []], oms := [none, none] }
noncomputable def laws_eqAsked_R (r : Bool) : V := .b r
noncomputable def laws_eqAsked_O (r : Bool) : List (Option V) := [none, none]
noncomputable def laws_eqAsked_t (i : Nat) (fr : Bool) (r : Bool) : Nat × Tell := (i, { a := .call [.val [none, none, some 4] [], .val [none, none, some 4] []] fr (laws_eqAsked_R r) (laws_eqAsked_O r) })
noncomputable def laws_eqAsked (a : TAsked) (b : TAsked) : Option Bool :=
  ((laws_eqReq a.Req b.Req).bind fun eqReq =>
 (bif (!eqReq) then
 some false
 else
 ((laws_eqInsS a.Prog b.Prog).bind fun eqInsS =>
 (bif (!eqInsS) then
 some false
 else
 some true))))
theorem laws_eqAsked_ok {a : TAsked} {b : TAsked} (r : Bool) (h : laws_eqAsked a b = some r) : ACalls cx.P 47 [.agg (eAsked a), .agg (eAsked b)] (laws_eqAsked_R r) (laws_eqAsked_O r) :=
  ACalls.of (cx := cx) (X := laws_eqAsked_X) (c := laws_eqAsked_c) Tryz.func47 (by kernel_rfl) (by kernel_rfl) (by kernel_rfl) (P0 <|
 rg2 <| cb laws_eqReq_t laws_eqReq_ok 4 false h fun eqReq h =>
 cdD 5 h (fun h =>
 rg <| fe Tryz.func47 h) (fun h =>
 rg <| cb laws_eqInsS_t laws_eqInsS_ok 4 false h fun eqInsS h =>
 cdD 5 h (fun h =>
 rg <| fe Tryz.func47 h) (fun h =>
 rg <| fe Tryz.func47 h)))

/-! ### laws_eqAskedS -/
noncomputable def laws_eqAskedS_c : Code := bodyOf Tryz.f23
noncomputable def laws_eqAskedS_X : Sig := { f := 23, fn := Tryz.f23, rms := [.val [] []], oms := [none, none] }
noncomputable def laws_eqAskedS_R (r : Bool) : V := .b r
noncomputable def laws_eqAskedS_O (r : Bool) : List (Option V) := [none, none]
noncomputable def laws_eqAskedS_t (i : Nat) (fr : Bool) (r : Bool) : Nat × Tell := (i, { a := .call [.val [some 3] [], .val [some 3] []] fr (laws_eqAskedS_R r) (laws_eqAskedS_O r) })
noncomputable def laws_eqAskedS_k1 : List Item := posI 2000 4 [false, false] [.code laws_eqAskedS_c]
noncomputable def laws_eqAskedS_S1 : St := ⟨(bs 27 []), [some []]⟩
noncomputable def laws_eqAskedS_k2 : Option Bool :=
  some true
theorem laws_eqAskedS_k2_ok (r : Bool) (h : laws_eqAskedS_k2 = some r) : Fin cx laws_eqAskedS_X (laws_eqAskedS_R r) (laws_eqAskedS_O r) laws_eqAskedS_k1 (laws_eqAskedS_S1) :=
  P0 <|
 rg <| fe Tryz.func23 h
noncomputable def laws_eqAskedS_k3 : List Item := posI 2000 3 [false] [.code laws_eqAskedS_c]
noncomputable def laws_eqAskedS_S2 (a : List TAsked) (b : List TAsked) (i : Int) : St := ⟨(vsl 3 eAsked a :: (vsl 3 eAsked b :: (bs 3 (vi i :: (bs 21 []))))), [some []]⟩
noncomputable def laws_eqAskedS_b1 (a : List TAsked) (b : List TAsked) (i : Int) : Option (Stp Bool Int Unit) :=
  (bif decide (i < (a.length : Int)) then
 ((idx a i).bind fun asked =>
 ((idx b i).bind fun asked1 =>
 ((laws_eqAsked asked asked1).bind fun eqAsked =>
 (bif (!eqAsked) then
 some (Stp.ret false)
 else
 some (Stp.nxt (w64 (i + 1)))))))
 else
 some (Stp.brk ()))
theorem laws_eqAskedS_b1_ok (a : List TAsked) (b : List TAsked) (res : V) (outs : List (Option V)) (x1 : Exc Bool Unit) (hb1 : HB cx laws_eqAskedS_X res outs x1 laws_eqAskedS_k1 (fun s => laws_eqAskedS_S1)) (hr1 : HR res outs x1 laws_eqAskedS_R laws_eqAskedS_O) (st1 : Stp Bool Int Unit) (hc1 : Cont x1 (fun s : Int => Fin cx laws_eqAskedS_X res outs laws_eqAskedS_k3 (laws_eqAskedS_S2 a b s)) st1) (i : Int) (h : laws_eqAskedS_b1 a b i = some st1) : Fin cx laws_eqAskedS_X res outs laws_eqAskedS_k3 (laws_eqAskedS_S2 a b i) :=
  P0 <|
 rg <| cdD 3 h (fun h =>
 rg <| ixS eAsked 2 h fun asked hasked h =>
 ixS eAsked 6 h fun asked1 hasked1 h =>
 cb laws_eqAsked_t laws_eqAsked_ok 8 false h fun eqAsked h =>
 cdD 9 h (fun h =>
 rg <| (retD h hc1 fun e => fn0 Tryz.func23 (hr1 _ e))) (fun h =>
 rg <| (nxtD h hc1 fun hI => sg [] [0, 1, 5] [] hI))) (fun h =>
 (brkD h hc1 fun e => sg [] [] [] (hb1 _ e)))
noncomputable def laws_eqAskedS (a : List TAsked) (b : List TAsked) : Option Bool :=
  (bif ((a.length : Int) != (b.length : Int)) then
 some false
 else
 ((loop (fun s : Int => laws_eqAskedS_b1 a b s) 0).bind fun x => x.go (fun r => some r) fun s => laws_eqAskedS_k2))
theorem laws_eqAskedS_ok {a : List TAsked} {b : List TAsked} (r : Bool) (h : laws_eqAskedS a b = some r) : ACalls cx.P 23 [vsl 3 eAsked a, vsl 3 eAsked b] (laws_eqAskedS_R r) (laws_eqAskedS_O r) :=
  ACalls.of (cx := cx) (X := laws_eqAskedS_X) (c := laws_eqAskedS_c) Tryz.func23 (by kernel_rfl) (by kernel_rfl) (by kernel_rfl) (P0 <|
 rg2 <| cdD 4 h (fun h =>
 rg <| fe Tryz.func23 h) (fun h =>
 rg <| loopJ h fun x hl hr hb => sg [] [0, 1, 5] [] (loopD (I := fun s : Int => Fin cx laws_eqAskedS_X (laws_eqAskedS_R r) (laws_eqAskedS_O r) laws_eqAskedS_k3 (laws_eqAskedS_S2 a b s)) hl fun s st h hc => laws_eqAskedS_b1_ok a b _ _ x (fun s e => laws_eqAskedS_k2_ok r (hb s e)) (fun v e => ⟨congrArg laws_eqAskedS_R (Option.some.inj (hr v e)).symm, congrArg laws_eqAskedS_O (Option.some.inj (hr v e)).symm⟩) st hc s h)))

/-! ### laws_eqTold -/
noncomputable def laws_eqTold_c : Code := bodyOf Tryz.f48
noncomputable def laws_eqTold_X : Sig := { f := 48, fn := Tryz.f48, rms := [.val [] []], oms := [none, none] }
noncomputable def laws_eqTold_R (r : Bool) : V := .b r
noncomputable def laws_eqTold_O (r : Bool) : List (Option V) := [none, none]
noncomputable def laws_eqTold_t (i : Nat) (fr : Bool) (r : Bool) : Nat × Tell := (i, { a := .call [.val [] [], .val [] []] fr (laws_eqTold_R r) (laws_eqTold_O r) })
noncomputable def laws_eqTold (a : TTold) (b : TTold) : Option Bool :=
  (bif (a.Node != b.Node) then
 some false
 else
 ((laws_eqReq a.Req b.Req).bind fun eqReq =>
 (bif (!eqReq) then
 some false
 else
 (bif (a.Code != b.Code) then
 some false
 else
 (bif (a.Val != b.Val) then
 some false
 else
 some true)))))
theorem laws_eqTold_ok {a : TTold} {b : TTold} (r : Bool) (h : laws_eqTold a b = some r) : ACalls cx.P 48 [.agg (eTold a), .agg (eTold b)] (laws_eqTold_R r) (laws_eqTold_O r) :=
  ACalls.of (cx := cx) (X := laws_eqTold_X) (c := laws_eqTold_c) Tryz.func48 (by kernel_rfl) (by kernel_rfl) (by kernel_rfl) (P0 <|
 rg2 <| cdD 4 h (fun h =>
 rg <| fe Tryz.func48 h) (fun h =>
 rg <| cb laws_eqReq_t laws_eqReq_ok 4 false h fun eqReq h =>
 cdD 5 h (fun h =>
 rg <| fe Tryz.func48 h) (fun h =>
 rg <| cdD 4 h (fun h =>
 rg <| fe Tryz.func48 h) (fun h =>
 rg <| cdD 4 h (fun h =>
 rg <| fe Tryz.func48 h) (fun h =>
 rg <| fe Tryz.func48 h)))))

/-! ### laws_eqToldS -/
noncomputable def laws_eqToldS_c : Code := bodyOf Tryz.f24
noncomputable def laws_eqToldS_X : Sig := { f := 24, fn := Tryz.f24, rms := [.val [] []], oms := [none, none] }
noncomputable def laws_eqToldS_R (r : Bool) : V := .b r
noncomputable def laws_eqToldS_O (r : Bool) : List (Option V) := [none, none]
noncomputable def laws_eqToldS_t (i : Nat) (fr : Bool) (r : Bool) : Nat × Tell := (i, { a := .call [.val [some 5] [], .val [some 5] []] fr (laws_eqToldS_R r) (laws_eqToldS_O r) })
noncomputable def laws_eqToldS_k1 : List Item := posI 2000 4 [false, false] [.code laws_eqToldS_c]
noncomputable def laws_eqToldS_S1 : St := ⟨(bs 27 []), [some []]⟩
noncomputable def laws_eqToldS_k2 : Option Bool :=
  some true
theorem laws_eqToldS_k2_ok (r : Bool) (h : laws_eqToldS_k2 = some r) : Fin cx laws_eqToldS_X (laws_eqToldS_R r) (laws_eqToldS_O r) laws_eqToldS_k1 (laws_eqToldS_S1) :=
  P0 <|
 rg <| fe Tryz.func24 h
noncomputable def laws_eqToldS_k3 : List Item := posI 2000 3 [false] [.code laws_eqToldS_c]
noncomputable def laws_eqToldS_S2 (a : List TTold) (b : List TTold) (i : Int) : St := ⟨(vsl 5 eTold a :: (vsl 5 eTold b :: (bs 3 (vi i :: (bs 21 []))))), [some []]⟩
noncomputable def laws_eqToldS_b1 (a : List TTold) (b : List TTold) (i : Int) : Option (Stp Bool Int Unit) :=
  (bif decide (i < (a.length : Int)) then
 ((idx a i).bind fun told =>
 ((idx b i).bind fun told1 =>
 ((laws_eqTold told told1).bind fun eqTold =>
 (bif (!eqTold) then
 some (Stp.ret false)
 else
 some (Stp.nxt (w64 (i + 1)))))))
 else
 some (Stp.brk ()))
theorem laws_eqToldS_b1_ok (a : List TTold) (b : List TTold) (res : V) (outs : List (Option V)) (x1 : Exc Bool Unit) (hb1 : HB cx laws_eqToldS_X res outs x1 laws_eqToldS_k1 (fun s => laws_eqToldS_S1)) (hr1 : HR res outs x1 laws_eqToldS_R laws_eqToldS_O) (st1 : Stp Bool Int Unit) (hc1 : Cont x1 (fun s : Int => Fin cx laws_eqToldS_X res outs laws_eqToldS_k3 (laws_eqToldS_S2 a b s)) st1) (i : Int) (h : laws_eqToldS_b1 a b i = some st1) : Fin cx laws_eqToldS_X res outs laws_eqToldS_k3 (laws_eqToldS_S2 a b i) :=
  P0 <|
 rg <| cdD 3 h (fun h =>
 rg <| ixS eTold 2 h fun told htold h =>
 ixS eTold 6 h fun told1 htold1 h =>
 cb laws_eqTold_t laws_eqTold_ok 8 false h fun eqTold h =>
 cdD 9 h (fun h =>
 rg <| (retD h hc1 fun e => fn0 Tryz.func24 (hr1 _ e))) (fun h =>
 rg <| (nxtD h hc1 fun hI => sg [] [0, 1, 5] [] hI))) (fun h =>
 (brkD h hc1 fun e => sg [] [] [] (hb1 _ e)))
noncomputable def laws_eqToldS (a : List TTold) (b : List TTold) : Option Bool :=
  (bif ((a.length : Int) != (b.length : Int)) then
 some false
 else
 ((loop (fun s : Int => laws_eqToldS_b1 a b s) 0).bind fun x => x.go (fun r => some r) fun s => laws_eqToldS_k2))
theorem laws_eqToldS_ok {a : List TTold} {b : List TTold} (r : Bool) (h : laws_eqToldS a b = some r) : ACalls cx.P 24 [vsl 5 eTold a, vsl 5 eTold b] (laws_eqToldS_R r) (laws_eqToldS_O r) :=
  ACalls.of (cx := cx) (X := laws_eqToldS_X) (c := laws_eqToldS_c) Tryz.func24 (by kernel_rfl) (by kernel_rfl) (by kernel_rfl) (P0 <|
 rg2 <| cdD 4 h (fun h =>
 rg <| fe Tryz.func24 h) (fun h =>
 rg <| loopJ h fun x hl hr hb => sg [] [0, 1, 5] [] (loopD (I := fun s : Int => Fin cx laws_eqToldS_X (laws_eqToldS_R r) (laws_eqToldS_O r) laws_eqToldS_k3 (laws_eqToldS_S2 a b s)) hl fun s st h hc => laws_eqToldS_b1_ok a b _ _ x (fun s e => laws_eqToldS_k2_ok r (hb s e)) (fun v e => ⟨congrArg laws_eqToldS_R (Option.some.inj (hr v e)).symm, congrArg laws_eqToldS_O (Option.some.inj (hr v e)).symm⟩) st hc s h)))

/-! ### laws_eqWorld -/
noncomputable def laws_eqWorld_c : Code := bodyOf Tryz.f8
noncomputable def laws_eqWorld_X : Sig := { f := 8, fn := Tryz.f8, rms := [.val [] []], oms := [none, none] }
noncomputable def laws_eqWorld_R (r : Bool) : V := .b r
noncomputable def laws_eqWorld_O (r : Bool) : List (Option V) := [none, none]
noncomputable def laws_eqWorld_t (i : Nat) (fr : Bool) (r : Bool) : Nat × Tell := (i, { a := .call [.val ck35 [], .val ck35 []] fr (laws_eqWorld_R r) (laws_eqWorld_O r) })
noncomputable def laws_eqWorld (a : TWorld) (b : TWorld) : Option Bool :=
  ((laws_eqNodeS a.Nodes b.Nodes).bind fun eqNodeS =>
 (bif (!eqNodeS) then
 some false
 else
 ((laws_eqMsgS a.Net b.Net).bind fun eqMsgS =>
 (bif (!eqMsgS) then
 some false
 else
 ((laws_eqAskedS a.Asked b.Asked).bind fun eqAskedS =>
 (bif (!eqAskedS) then
 some false
 else
 ((laws_eqToldS a.Told b.Told).bind fun eqToldS =>
 (bif (!eqToldS) then
 some false
 else
 some true))))))))
theorem laws_eqWorld_ok {a : TWorld} {b : TWorld} (r : Bool) (h : laws_eqWorld a b = some r) : ACalls cx.P 8 [.agg (eWorld a), .agg (eWorld b)] (laws_eqWorld_R r) (laws_eqWorld_O r) :=
  ACalls.of (cx := cx) (X := laws_eqWorld_X) (c := laws_eqWorld_c) Tryz.func8 (by kernel_rfl) (by kernel_rfl) (by kernel_rfl) (P0 <|
 rg2 <| cb laws_eqNodeS_t laws_eqNodeS_ok 4 false h fun eqNodeS h =>
 cdD 5 h (fun h =>
 rg <| fe Tryz.func8 h) (fun h =>
 rg <| cb laws_eqMsgS_t laws_eqMsgS_ok 4 false h fun eqMsgS h =>
 cdD 5 h (fun h =>
 rg <| fe Tryz.func8 h) (fun h =>
 rg <| cb laws_eqAskedS_t laws_eqAskedS_ok 4 false h fun eqAskedS h =>
 cdD 5 h (fun h =>
 rg <| fe Tryz.func8 h) (fun h =>
 rg <| cb laws_eqToldS_t laws_eqToldS_ok 4 false h fun eqToldS h =>
 cdD 5 h (fun h =>
 rg <| fe Tryz.func8 h) (fun h =>
 rg <| fe Tryz.func8 h)))))

/-! ### laws_FnExactVowLeads -/
noncomputable def laws_FnExactVowLeads_c : Code := bodyOf Tryz.f3
noncomputable def laws_FnExactVowLeads_X : Sig := { f := 3, fn := Tryz.f3, rms := [.val [] []], oms := [none] }
noncomputable def laws_FnExactVowLeads_R (r : Bool) : V := .b r
noncomputable def laws_FnExactVowLeads_O (r : Bool) : List (Option V) := [none]
noncomputable def laws_FnExactVowLeads_t (i : Nat) (fr : Bool) (r : Bool) : Nat × Tell := (i, { a := .call [.val ck27 []] fr (laws_FnExactVowLeads_R r) (laws_FnExactVowLeads_O r) })
noncomputable def laws_FnExactVowLeads (aW : TWorld) : Option Bool :=
  ((laws_szWorld aW 1048576).bind fun szWorld =>
 (bif decide (szWorld < 0) then
 some true
 else
 ((laws_toWorld aW).bind fun toWorld =>
 ((spec_VowLeads toWorld).bind fun vowLeads =>
 ((laws_toWorld aW).bind fun toWorld1 =>
 ((impl_VowLeads toWorld1).bind fun vowLeads1 =>
 (bif (!(vowLeads1 == vowLeads)) then
 some false
 else
 ((laws_toWorld aW).bind fun toWorld2 =>
 ((laws_eqWorld toWorld1 toWorld2).bind fun eqWorld =>
 (bif (!eqWorld) then
 some false
 else
 some true))))))))))
theorem laws_FnExactVowLeads_ok {aW : TWorld} (r : Bool) (h : laws_FnExactVowLeads aW = some r) : ACalls cx.P 3 [.agg (eWorld aW)] (laws_FnExactVowLeads_R r) (laws_FnExactVowLeads_O r) :=
  ACalls.of (cx := cx) (X := laws_FnExactVowLeads_X) (c := laws_FnExactVowLeads_c) Tryz.func3 (by kernel_rfl) (by kernel_rfl) (by kernel_rfl) (P0 <|
 rg3 <| cb laws_szWorld_t laws_szWorld_ok 2 false h fun szWorld h =>
 rg <| cdD 1 h (fun h =>
 rg <| fe Tryz.func3 h) (fun h =>
 rg <| cb laws_toWorld_t laws_toWorld_ok 1 false h fun toWorld h =>
 cb spec_VowLeads_t spec_VowLeads_ok 2 false h fun vowLeads h =>
 rg <| cb laws_toWorld_t laws_toWorld_ok 1 false h fun toWorld1 h =>
 rg <| cb impl_VowLeads_t impl_VowLeads_ok 1 false h fun vowLeads1 h =>
 rg <| cdD 2 h (fun h =>
 rg <| fe Tryz.func3 h) (fun h =>
 rg <| cb laws_toWorld_t laws_toWorld_ok 2 false h fun toWorld2 h =>
 cb laws_eqWorld_t laws_eqWorld_ok 3 false h fun eqWorld h =>
 cdD 4 h (fun h =>
 rg <| fe Tryz.func3 h) (fun h =>
 rg <| fe Tryz.func3 h))))


end Go.Proofs.YtepcemfgeeoleaaGreat
