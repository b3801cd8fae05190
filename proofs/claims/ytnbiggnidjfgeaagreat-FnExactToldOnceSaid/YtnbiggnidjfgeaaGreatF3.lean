/- Functions of the program, and that their calls come to this. -/
import Derived.Test.YtnbiggnidjfgeaaGreatF2
set_option linter.unusedVariables false
set_option linter.unusedSimpArgs false
namespace Go.Proofs.YtnbiggnidjfgeaaGreat
open Go

/-! ### laws_eqNodeS -/
noncomputable def laws_eqNodeS_c : Code := bodyOf Tryz.f19
noncomputable def laws_eqNodeS_X : Sig := { f := 19, fn := Tryz.f19, rms := [.val [] []], oms := [none, none] }
noncomputable def laws_eqNodeS_R (r : Bool) : V := .b r
noncomputable def laws_eqNodeS_O (r : Bool) : List (Option V) := [none, none]
noncomputable def laws_eqNodeS_t (i : Nat) (fr : Bool) (r : Bool) : Nat × Tell := (i, { a := .call [.val [some 27] [], .val [some 27] []] fr (laws_eqNodeS_R r) (laws_eqNodeS_O r) })
noncomputable def laws_eqNodeS_k1 : List Item := posI 2000 4 [false, false] [.code laws_eqNodeS_c]
noncomputable def laws_eqNodeS_S1 : St := ⟨(bs 27 []), [some []]⟩
noncomputable def laws_eqNodeS_k2 : Option Bool :=
  some true
theorem laws_eqNodeS_k2_ok (r : Bool) (h : laws_eqNodeS_k2 = some r) : Fin cx laws_eqNodeS_X (laws_eqNodeS_R r) (laws_eqNodeS_O r) laws_eqNodeS_k1 (laws_eqNodeS_S1) :=
  P0 <|
 rg <| fe Tryz.func19 h
noncomputable def laws_eqNodeS_k3 : List Item := posI 2000 3 [false] [.code laws_eqNodeS_c]
noncomputable def laws_eqNodeS_S2 (a : List TNode) (b : List TNode) (i : Int) : St := ⟨(vsl 27 eNode a :: (vsl 27 eNode b :: (bs 3 (vi i :: (bs 21 []))))), [some []]⟩
noncomputable def laws_eqNodeS_b1 (a : List TNode) (b : List TNode) (i : Int) : Option (Stp Bool Int Unit) :=
  (bif decide (i < (a.length : Int)) then
 ((idx a i).bind fun node =>
 ((idx b i).bind fun node1 =>
 ((laws_eqNode node node1).bind fun eqNode =>
 (bif (!eqNode) then
 some (Stp.ret false)
 else
 some (Stp.nxt (w64 (i + 1)))))))
 else
 some (Stp.brk ()))
theorem laws_eqNodeS_b1_ok (a : List TNode) (b : List TNode) (res : V) (outs : List (Option V)) (x1 : Exc Bool Unit) (hb1 : HB cx laws_eqNodeS_X res outs x1 laws_eqNodeS_k1 (fun s => laws_eqNodeS_S1)) (hr1 : HR res outs x1 laws_eqNodeS_R laws_eqNodeS_O) (st1 : Stp Bool Int Unit) (hc1 : Cont x1 (fun s : Int => Fin cx laws_eqNodeS_X res outs laws_eqNodeS_k3 (laws_eqNodeS_S2 a b s)) st1) (i : Int) (h : laws_eqNodeS_b1 a b i = some st1) : Fin cx laws_eqNodeS_X res outs laws_eqNodeS_k3 (laws_eqNodeS_S2 a b i) :=
  P0 <|
 rg <| cdD 3 h (fun h =>
 rg <| ixS eNode 2 h fun node hnode h =>
 ixS eNode 6 h fun node1 hnode1 h =>
 cb laws_eqNode_t laws_eqNode_ok 8 false h fun eqNode h =>
 cdD 9 h (fun h =>
 rg <| (retD h hc1 fun e => fn0 Tryz.func19 (hr1 _ e))) (fun h =>
 rg <| (nxtD h hc1 fun hI => sg [] [0, 1, 5] [] hI))) (fun h =>
 (brkD h hc1 fun e => sg [] [] [] (hb1 _ e)))
noncomputable def laws_eqNodeS (a : List TNode) (b : List TNode) : Option Bool :=
  (bif ((a.length : Int) != (b.length : Int)) then
 some false
 else
 ((loop (fun s : Int => laws_eqNodeS_b1 a b s) 0).bind fun x => x.go (fun r => some r) fun s => laws_eqNodeS_k2))
theorem laws_eqNodeS_ok {a : List TNode} {b : List TNode} (r : Bool) (h : laws_eqNodeS a b = some r) : ACalls cx.P 19 [vsl 27 eNode a, vsl 27 eNode b] (laws_eqNodeS_R r) (laws_eqNodeS_O r) :=
  ACalls.of (cx := cx) (X := laws_eqNodeS_X) (c := laws_eqNodeS_c) Tryz.func19 (by kernel_rfl) (by kernel_rfl) (by kernel_rfl) (P0 <|
 rg2 <| cdD 4 h (fun h =>
 rg <| fe Tryz.func19 h) (fun h =>
 rg <| loopJ h fun x hl hr hb => sg [] [0, 1, 5] [] (loopD (I := fun s : Int => Fin cx laws_eqNodeS_X (laws_eqNodeS_R r) (laws_eqNodeS_O r) laws_eqNodeS_k3 (laws_eqNodeS_S2 a b s)) hl fun s st h hc => laws_eqNodeS_b1_ok a b _ _ x (fun s e => laws_eqNodeS_k2_ok r (hb s e)) (fun v e => ⟨congrArg laws_eqNodeS_R (Option.some.inj (hr v e)).symm, congrArg laws_eqNodeS_O (Option.some.inj (hr v e)).symm⟩) st hc s h)))

/-! ### laws_eqMsg -/
noncomputable def laws_eqMsg_c : Code := bodyOf Tryz.f41
noncomputable def laws_eqMsg_X : Sig := { f := 41, fn := Tryz.f41, rms := [.val [] []], oms := [none, none] }
noncomputable def laws_eqMsg_R (r : Bool) : V := .b r
noncomputable def laws_eqMsg_O (r : Bool) : List (Option V) := [none, none]
noncomputable def laws_eqMsg_t (i : Nat) (fr : Bool) (r : Bool) : Nat × Tell := (i, { a := .call [.val ck94 [], .val ck94 []] fr (laws_eqMsg_R r) (laws_eqMsg_O r) })
noncomputable def laws_eqMsg (a : TMsg) (b : TMsg) : Option Bool :=
  (bif (a.Kind != b.Kind) then
 some false
 else
 (bif (a.From != b.From) then
 some false
 else
 (bif (a.To != b.To) then
 some false
 else
 (bif (a.Bal != b.Bal) then
 some false
 else
 (bif (a.Slot != b.Slot) then
 some false
 else
 ((laws_eqEntry a.Entry b.Entry).bind fun eqEntry =>
 (bif (!eqEntry) then
 some false
 else
 ((laws_eqVoteS a.Votes b.Votes).bind fun eqVoteS =>
 (bif (!eqVoteS) then
 some false
 else
 some true)))))))))
theorem laws_eqMsg_ok {a : TMsg} {b : TMsg} (r : Bool) (h : laws_eqMsg a b = some r) : ACalls cx.P 41 [.agg (eMsg a), .agg (eMsg b)] (laws_eqMsg_R r) (laws_eqMsg_O r) :=
  ACalls.of (cx := cx) (X := laws_eqMsg_X) (c := laws_eqMsg_c) Tryz.func41 (by kernel_rfl) (by kernel_rfl) (by kernel_rfl) (P0 <|
 rg2 <| cdD 4 h (fun h =>
 rg <| fe Tryz.func41 h) (fun h =>
 rg <| cdD 4 h (fun h =>
 rg <| fe Tryz.func41 h) (fun h =>
 rg <| cdD 4 h (fun h =>
 rg <| fe Tryz.func41 h) (fun h =>
 rg <| cdD 4 h (fun h =>
 rg <| fe Tryz.func41 h) (fun h =>
 rg <| cdD 4 h (fun h =>
 rg <| fe Tryz.func41 h) (fun h =>
 rg <| cb laws_eqEntry_t laws_eqEntry_ok 4 false h fun eqEntry h =>
 cdD 5 h (fun h =>
 rg <| fe Tryz.func41 h) (fun h =>
 rg <| cb laws_eqVoteS_t laws_eqVoteS_ok 4 false h fun eqVoteS h =>
 cdD 5 h (fun h =>
 rg <| fe Tryz.func41 h) (fun h =>
 rg <| fe Tryz.func41 h))))))))

/-! ### laws_eqMsgS -/
noncomputable def laws_eqMsgS_c : Code := bodyOf Tryz.f20
noncomputable def laws_eqMsgS_X : Sig := { f := 20, fn := Tryz.f20, rms := [.val [] []], oms := [none, none] }
noncomputable def laws_eqMsgS_R (r : Bool) : V := .b r
noncomputable def laws_eqMsgS_O (r : Bool) : List (Option V) := [none, none]
noncomputable def laws_eqMsgS_t (i : Nat) (fr : Bool) (r : Bool) : Nat × Tell := (i, { a := .call [.val [some 13] [], .val [some 13] []] fr (laws_eqMsgS_R r) (laws_eqMsgS_O r) })
noncomputable def laws_eqMsgS_k1 : List Item := posI 2000 4 [false, false] [.code laws_eqMsgS_c]
noncomputable def laws_eqMsgS_S1 : St := ⟨(bs 27 []), [some []]⟩
noncomputable def laws_eqMsgS_k2 : Option Bool :=
  some true
theorem laws_eqMsgS_k2_ok (r : Bool) (h : laws_eqMsgS_k2 = some r) : Fin cx laws_eqMsgS_X (laws_eqMsgS_R r) (laws_eqMsgS_O r) laws_eqMsgS_k1 (laws_eqMsgS_S1) :=
  P0 <|
 rg <| fe Tryz.func20 h
noncomputable def laws_eqMsgS_k3 : List Item := posI 2000 3 [false] [.code laws_eqMsgS_c]
noncomputable def laws_eqMsgS_S2 (a : List TMsg) (b : List TMsg) (i : Int) : St := ⟨(vsl 13 eMsg a :: (vsl 13 eMsg b :: (bs 3 (vi i :: (bs 21 []))))), [some []]⟩
noncomputable def laws_eqMsgS_b1 (a : List TMsg) (b : List TMsg) (i : Int) : Option (Stp Bool Int Unit) :=
  (bif decide (i < (a.length : Int)) then
 ((idx a i).bind fun msg =>
 ((idx b i).bind fun msg1 =>
 ((laws_eqMsg msg msg1).bind fun eqMsg =>
 (bif (!eqMsg) then
 some (Stp.ret false)
 else
 some (Stp.nxt (w64 (i + 1)))))))
 else
 some (Stp.brk ()))
theorem laws_eqMsgS_b1_ok (a : List TMsg) (b : List TMsg) (res : V) (outs : List (Option V)) (x1 : Exc Bool Unit) (hb1 : HB cx laws_eqMsgS_X res outs x1 laws_eqMsgS_k1 (fun s => laws_eqMsgS_S1)) (hr1 : HR res outs x1 laws_eqMsgS_R laws_eqMsgS_O) (st1 : Stp Bool Int Unit) (hc1 : Cont x1 (fun s : Int => Fin cx laws_eqMsgS_X res outs laws_eqMsgS_k3 (laws_eqMsgS_S2 a b s)) st1) (i : Int) (h : laws_eqMsgS_b1 a b i = some st1) : Fin cx laws_eqMsgS_X res outs laws_eqMsgS_k3 (laws_eqMsgS_S2 a b i) :=
  P0 <|
 rg <| cdD 3 h (fun h =>
 rg <| ixS eMsg 2 h fun msg hmsg h =>
 ixS eMsg 6 h fun msg1 hmsg1 h =>
 cb laws_eqMsg_t laws_eqMsg_ok 8 false h fun eqMsg h =>
 cdD 9 h (fun h =>
 rg <| (retD h hc1 fun e => fn0 Tryz.func20 (hr1 _ e))) (fun h =>
 rg <| (nxtD h hc1 fun hI => sg [] [0, 1, 5] [] hI))) (fun h =>
 (brkD h hc1 fun e => sg [] [] [] (hb1 _ e)))
noncomputable def laws_eqMsgS (a : List TMsg) (b : List TMsg) : Option Bool :=
  (bif ((a.length : Int) != (b.length : Int)) then
 some false
 else
 ((loop (fun s : Int => laws_eqMsgS_b1 a b s) 0).bind fun x => x.go (fun r => some r) fun s => laws_eqMsgS_k2))
theorem laws_eqMsgS_ok {a : List TMsg} {b : List TMsg} (r : Bool) (h : laws_eqMsgS a b = some r) : ACalls cx.P 20 [vsl 13 eMsg a, vsl 13 eMsg b] (laws_eqMsgS_R r) (laws_eqMsgS_O r) :=
  ACalls.of (cx := cx) (X := laws_eqMsgS_X) (c := laws_eqMsgS_c) Tryz.func20 (by kernel_rfl) (by kernel_rfl) (by kernel_rfl) (P0 <|
 rg2 <| cdD 4 h (fun h =>
 rg <| fe Tryz.func20 h) (fun h =>
 rg <| loopJ h fun x hl hr hb => sg [] [0, 1, 5] [] (loopD (I := fun s : Int => Fin cx laws_eqMsgS_X (laws_eqMsgS_R r) (laws_eqMsgS_O r) laws_eqMsgS_k3 (laws_eqMsgS_S2 a b s)) hl fun s st h hc => laws_eqMsgS_b1_ok a b _ _ x (fun s e => laws_eqMsgS_k2_ok r (hb s e)) (fun v e => ⟨congrArg laws_eqMsgS_R (Option.some.inj (hr v e)).symm, congrArg laws_eqMsgS_O (Option.some.inj (hr v e)).symm⟩) st hc s h)))

/-! ### laws_eqAsked -/
noncomputable def laws_eqAsked_c : Code := bodyOf Tryz.f42
noncomputable def laws_eqAsked_X : Sig := { f := 42, fn := Tryz.f42, rms := [.val [] []], oms := [none, none] }
noncomputable def laws_eqAsked_R (r : Bool) : V := .b r
noncomputable def laws_eqAsked_O (r : Bool) : List (Option V) := [none, none]
noncomputable def laws_eqAsked_t (i : Nat) (fr : Bool) (r : Bool) : Nat × Tell := (i, { a := .call [.val [none, none, some 4] [], .val [none, none, some 4] []] fr (laws_eqAsked_R r) (laws_eqAsked_O r) })
noncomputable def laws_eqAsked (a : TAsked) (b : TAsked) : Option Bool :=
  ((laws_eqReq a.Req b.Req).bind fun eqReq =>
 (bif (!eqReq) then
 some false
 else
 ((laws_eqInsS a.Prog b.Prog).bind fun eqInsS =>
 (bif (!eqInsS) then
 some false
 else
 some true))))
theorem laws_eqAsked_ok {a : TAsked} {b : TAsked} (r : Bool) (h : laws_eqAsked a b = some r) : ACalls cx.P 42 [.agg (eAsked a), .agg (eAsked b)] (laws_eqAsked_R r) (laws_eqAsked_O r) :=
  ACalls.of (cx := cx) (X := laws_eqAsked_X) (c := laws_eqAsked_c) Tryz.func42 (by kernel_rfl) (by kernel_rfl) (by kernel_rfl) (P0 <|
 rg2 <| cb laws_eqReq_t laws_eqReq_ok 4 false h fun eqReq h =>
 cdD 5 h (fun h =>
 rg <| fe Tryz.func42 h) (fun h =>
 rg <| cb laws_eqInsS_t laws_eqInsS_ok 4 false h fun eqInsS h =>
 cdD 5 h (fun h =>
 rg <| fe Tryz.func42 h) (fun h =>
 rg <| fe Tryz.func42 h)))

/-! ### laws_eqAskedS -/
noncomputable def laws_eqAskedS_c : Code := bodyOf Tryz.f21
noncomputable def laws_eqAskedS_X : Sig := { f := 21, fn := Tryz.f21, rms := [.val [] []], oms := [none, none] }
noncomputable def laws_eqAskedS_R (r : Bool) : V := .b r
noncomputable def laws_eqAskedS_O (r : Bool) : List (Option V) := [none, none]
noncomputable def laws_eqAskedS_t (i : Nat) (fr : Bool) (r : Bool) : Nat × Tell := (i, { a := .call [.val [some 3] [], .val [some 3] []] fr (laws_eqAskedS_R r) (laws_eqAskedS_O r) })
noncomputable def laws_eqAskedS_k1 : List Item := posI 2000 4 [false, false] [.code laws_eqAskedS_c]
noncomputable def laws_eqAskedS_S1 : St := ⟨(bs 27 []), [some []]⟩
noncomputable def laws_eqAskedS_k2 : Option Bool :=
  some true
theorem laws_eqAskedS_k2_ok (r : Bool) (h : laws_eqAskedS_k2 = some r) : Fin cx laws_eqAskedS_X (laws_eqAskedS_R r) (laws_eqAskedS_O r) laws_eqAskedS_k1 (laws_eqAskedS_S1) :=
  P0 <|
 rg <| fe Tryz.func21 h
noncomputable def laws_eqAskedS_k3 : List Item := posI 2000 3 [false] [.code laws_eqAskedS_c]
noncomputable def laws_eqAskedS_S2 (a : List TAsked) (b : List TAsked) (i : Int) : St := ⟨(vsl 3 eAsked a :: (vsl 3 eAsked b :: (bs 3 (vi i :: (bs 21 []))))), [some []]⟩
noncomputable def laws_eqAskedS_b1 (a : List TAsked) (b : List TAsked) (i : Int) : Option (Stp Bool Int Unit) :=
  (bif decide (i < (a.length : Int)) then
 ((idx a i).bind fun asked =>
 ((idx b i).bind fun asked1 =>
 ((laws_eqAsked asked asked1).bind fun eqAsked =>
 (bif (!eqAsked) then
 some (Stp.ret false)
 else
 some (Stp.nxt (w64 (i + 1)))))))
 else
 some (Stp.brk ()))
theorem laws_eqAskedS_b1_ok (a : List TAsked) (b : List TAsked) (res : V) (outs : List (Option V)) (x1 : Exc Bool Unit) (hb1 : HB cx laws_eqAskedS_X res outs x1 laws_eqAskedS_k1 (fun s => laws_eqAskedS_S1)) (hr1 : HR res outs x1 laws_eqAskedS_R laws_eqAskedS_O) (st1 : Stp Bool Int Unit) (hc1 : Cont x1 (fun s : Int => Fin cx laws_eqAskedS_X res outs laws_eqAskedS_k3 (laws_eqAskedS_S2 a b s)) st1) (i : Int) (h : laws_eqAskedS_b1 a b i = some st1) : Fin cx laws_eqAskedS_X res outs laws_eqAskedS_k3 (laws_eqAskedS_S2 a b i) :=
  P0 <|
 rg <| cdD 3 h (fun h =>
 rg <| ixS eAsked 2 h fun asked hasked h =>
 ixS eAsked 6 h fun asked1 hasked1 h =>
 cb laws_eqAsked_t laws_eqAsked_ok 8 false h fun eqAsked h =>
 cdD 9 h (fun h =>
 rg <| (retD h hc1 fun e => fn0 Tryz.func21 (hr1 _ e))) (fun h =>
 rg <| (nxtD h hc1 fun hI => sg [] [0, 1, 5] [] hI))) (fun h =>
 (brkD h hc1 fun e => sg [] [] [] (hb1 _ e)))
noncomputable def laws_eqAskedS (a : List TAsked) (b : List TAsked) : Option Bool :=
  (bif ((a.length : Int) != (b.length : Int)) then
 some false
 else
 ((loop (fun s : Int => laws_eqAskedS_b1 a b s) 0).bind fun x => x.go (fun r => some r) fun s => laws_eqAskedS_k2))
theorem laws_eqAskedS_ok {a : List TAsked} {b : List TAsked} (r : Bool) (h : laws_eqAskedS a b = some r) : ACalls cx.P 21 [vsl 3 eAsked a, vsl 3 eAsked b] (laws_eqAskedS_R r) (laws_eqAskedS_O r) :=
  ACalls.of (cx := cx) (X := laws_eqAskedS_X) (c := laws_eqAskedS_c) Tryz.func21 (by kernel_rfl) (by kernel_rfl) (by kernel_rfl) (P0 <|
 rg2 <| cdD 4 h (fun h =>
 rg <| fe Tryz.func21 h) (fun h =>
 rg <| loopJ h fun x hl hr hb => sg [] [0, 1, 5] [] (loopD (I := fun s : Int => Fin cx laws_eqAskedS_X (laws_eqAskedS_R r) (laws_eqAskedS_O r) laws_eqAskedS_k3 (laws_eqAskedS_S2 a b s)) hl fun s st h hc => laws_eqAskedS_b1_ok a b _ _ x (fun s e => laws_eqAskedS_k2_ok r (hb s e)) (fun v e => ⟨congrArg laws_eqAskedS_R (Option.some.inj (hr v e)).symm, congrArg laws_eqAskedS_O (Option.some.inj (hr v e)).symm⟩) st hc s h)))

/-! ### laws_eqTold -/
noncomputable def laws_eqTold_c : Code := bodyOf Tryz.f43
noncomputable def laws_eqTold_X : Sig := { f := 43, fn := Tryz.f43, rms := [.val [] []], oms := [none, none] }
noncomputable def laws_eqTold_R (r : Bool) : V := .b r
noncomputable def laws_eqTold_O (r : Bool) : List (Option V) := [none, none]
noncomputable def laws_eqTold_t (i : Nat) (fr : Bool) (r : Bool) : Nat × Tell := (i, { a := .call [.val [] [], .val [] []] fr (laws_eqTold_R r) (laws_eqTold_O r) })
noncomputable def laws_eqTold (a : TTold) (b : TTold) : Option Bool :=
  (bif (a.Node != b.Node) then
 some false
 else
 ((laws_eqReq a.Req b.Req).bind fun eqReq =>
 (bif (!eqReq) then
 some false
 else
 (bif (a.Code != b.Code) then
 some false
 else
 (bif (a.Val != b.Val) then
 some false
 else
 some true)))))
theorem laws_eqTold_ok {a : TTold} {b : TTold} (r : Bool) (h : laws_eqTold a b = some r) : ACalls cx.P 43 [.agg (eTold a), .agg (eTold b)] (laws_eqTold_R r) (laws_eqTold_O r) :=
  ACalls.of (cx := cx) (X := laws_eqTold_X) (c := laws_eqTold_c) Tryz.func43 (by kernel_rfl) (by kernel_rfl) (by kernel_rfl) (P0 <|
 rg2 <| cdD 4 h (fun h =>
 rg <| fe Tryz.func43 h) (fun h =>
 rg <| cb laws_eqReq_t laws_eqReq_ok 4 false h fun eqReq h =>
 cdD 5 h (fun h =>
 rg <| fe Tryz.func43 h) (fun h =>
 rg <| cdD 4 h (fun h =>
 rg <| fe Tryz.func43 h) (fun h =>
 rg <| cdD 4 h (fun h =>
 rg <| fe Tryz.func43 h) (fun h =>
 rg <| fe Tryz.func43 h)))))

/-! ### laws_eqToldS -/
noncomputable def laws_eqToldS_c : Code := bodyOf Tryz.f22
noncomputable def laws_eqToldS_X : Sig := { f := 22, fn := Tryz.f22, rms := [.val [] []], oms := [none, none] }
noncomputable def laws_eqToldS_R (r : Bool) : V := .b r
noncomputable def laws_eqToldS_O (r : Bool) : List (Option V) := [none, none]
noncomputable def laws_eqToldS_t (i : Nat) (fr : Bool) (r : Bool) : Nat × Tell := (i, { a := .call [.val [some 5] [], .val [some 5] []] fr (laws_eqToldS_R r) (laws_eqToldS_O r) })
noncomputable def laws_eqToldS_k1 : List Item := posI 2000 4 [false, false] [.code laws_eqToldS_c]
noncomputable def laws_eqToldS_S1 : St := ⟨(bs 27 []), [some []]⟩
noncomputable def laws_eqToldS_k2 : Option Bool :=
  some true
theorem laws_eqToldS_k2_ok (r : Bool) (h : laws_eqToldS_k2 = some r) : Fin cx laws_eqToldS_X (laws_eqToldS_R r) (laws_eqToldS_O r) laws_eqToldS_k1 (laws_eqToldS_S1) :=
  P0 <|
 rg <| fe Tryz.func22 h
noncomputable def laws_eqToldS_k3 : List Item := posI 2000 3 [false] [.code laws_eqToldS_c]
noncomputable def laws_eqToldS_S2 (a : List TTold) (b : List TTold) (i : Int) : St := ⟨(vsl 5 eTold a :: (vsl 5 eTold b :: (bs 3 (vi i :: (bs 21 []))))), [some []]⟩
noncomputable def laws_eqToldS_b1 (a : List TTold) (b : List TTold) (i : Int) : Option (Stp Bool Int Unit) :=
  (bif decide (i < (a.length : Int)) then
 ((idx a i).bind fun told =>
 ((idx b i).bind fun told1 =>
 ((laws_eqTold told told1).bind fun eqTold =>
 (bif (!eqTold) then
 some (Stp.ret false)
 else
 some (Stp.nxt (w64 (i + 1)))))))
 else
 some (Stp.brk ()))
theorem laws_eqToldS_b1_ok (a : List TTold) (b : List TTold) (res : V) (outs : List (Option V)) (x1 : Exc Bool Unit) (hb1 : HB cx laws_eqToldS_X res outs x1 laws_eqToldS_k1 (fun s => laws_eqToldS_S1)) (hr1 : HR res outs x1 laws_eqToldS_R laws_eqToldS_O) (st1 : Stp Bool Int Unit) (hc1 : Cont x1 (fun s : Int => Fin cx laws_eqToldS_X res outs laws_eqToldS_k3 (laws_eqToldS_S2 a b s)) st1) (i : Int) (h : laws_eqToldS_b1 a b i = some st1) : Fin cx laws_eqToldS_X res outs laws_eqToldS_k3 (laws_eqToldS_S2 a b i) :=
  P0 <|
 rg <| cdD 3 h (fun h =>
 rg <| ixS eTold 2 h fun told htold h =>
 ixS eTold 6 h fun told1 htold1 h =>
 cb laws_eqTold_t laws_eqTold_ok 8 false h fun eqTold h =>
 cdD 9 h (fun h =>
 rg <| (retD h hc1 fun e => fn0 Tryz.func22 (hr1 _ e))) (fun h =>
 rg <| (nxtD h hc1 fun hI => sg [] [0, 1, 5] [] hI))) (fun h =>
 (brkD h hc1 fun e => sg [] [] [] (hb1 _ e)))
noncomputable def laws_eqToldS (a : List TTold) (b : List TTold) : Option Bool :=
  (bif ((a.length : Int) != (b.length : Int)) then
 some false
 else
 ((loop (fun s : Int => laws_eqToldS_b1 a b s) 0).bind fun x => x.go (fun r => some r) fun s => laws_eqToldS_k2))
theorem laws_eqToldS_ok {a : List TTold} {b : List TTold} (r : Bool) (h : laws_eqToldS a b = some r) : ACalls cx.P 22 [vsl 5 eTold a, vsl 5 eTold b] (laws_eqToldS_R r) (laws_eqToldS_O r) :=
  ACalls.of (cx := cx) (X := laws_eqToldS_X) (c := laws_eqToldS_c) Tryz.func22 (by kernel_rfl) (by kernel_rfl) (by kernel_rfl) (P0 <|
 rg2 <| cdD 4 h (fun h =>
 rg <| fe Tryz.func22 h) (fun h =>
 rg <| loopJ h fun x hl hr hb => sg [] [0, 1, 5] [] (loopD (I := fun s : Int => Fin cx laws_eqToldS_X (laws_eqToldS_R r) (laws_eqToldS_O r) laws_eqToldS_k3 (laws_eqToldS_S2 a b s)) hl fun s st h hc => laws_eqToldS_b1_ok a b _ _ x (fun s e => laws_eqToldS_k2_ok r (hb s e)) (fun v e => ⟨congrArg laws_eqToldS_R (Option.some.inj (hr v e)).symm, congrArg laws_eqToldS_O (Option.some.inj (hr v e)).symm⟩) st hc s h)))

/-! ### laws_eqWorld -/
noncomputable def laws_eqWorld_c : Code := bodyOf Tryz.f8
noncomputable def laws_eqWorld_X : Sig := { f := 8, fn := Tryz.f8, rms := [.val [] []], oms := [none, none] }
noncomputable def laws_eqWorld_R (r : Bool) : V := .b r
noncomputable def laws_eqWorld_O (r : Bool) : List (Option V) := [none, none]
noncomputable def laws_eqWorld_t (i : Nat) (fr : Bool) (r : Bool) : Nat × Tell := (i, { a := .call [.val ck35 [], .val ck35 []] fr (laws_eqWorld_R r) (laws_eqWorld_O r) })
noncomputable def laws_eqWorld (a : TWorld) (b : TWorld) : Option Bool :=
  ((laws_eqNodeS a.Nodes b.Nodes).bind fun eqNodeS =>
 (bif (!eqNodeS) then
 some false
 else
 ((laws_eqMsgS a.Net b.Net).bind fun eqMsgS =>
 (bif (!eqMsgS) then
 some false
 else
 ((laws_eqAskedS a.Asked b.Asked).bind fun eqAskedS =>
 (bif (!eqAskedS) then
 some false
 else
 ((laws_eqToldS a.Told b.Told).bind fun eqToldS =>
 (bif (!eqToldS) then
 some false
 else
 some true))))))))
theorem laws_eqWorld_ok {a : TWorld} {b : TWorld} (r : Bool) (h : laws_eqWorld a b = some r) : ACalls cx.P 8 [.agg (eWorld a), .agg (eWorld b)] (laws_eqWorld_R r) (laws_eqWorld_O r) :=
  ACalls.of (cx := cx) (X := laws_eqWorld_X) (c := laws_eqWorld_c) Tryz.func8 (by kernel_rfl) (by kernel_rfl) (by kernel_rfl) (P0 <|
 rg2 <| cb laws_eqNodeS_t laws_eqNodeS_ok 4 false h fun eqNodeS h =>
 cdD 5 h (fun h =>
 rg <| fe Tryz.func8 h) (fun h =>
 rg <| cb laws_eqMsgS_t laws_eqMsgS_ok 4 false h fun eqMsgS h =>
 cdD 5 h (fun h =>
 rg <| fe Tryz.func8 h) (fun h =>
 rg <| cb laws_eqAskedS_t laws_eqAskedS_ok 4 false h fun eqAskedS h =>
 cdD 5 h (fun h =>
 rg <| fe Tryz.func8 h) (fun h =>
 rg <| cb laws_eqToldS_t laws_eqToldS_ok 4 false h fun eqToldS h =>
 cdD 5 h (fun h =>
 rg <| fe Tryz.func8 h) (fun h =>
 rg <| fe Tryz.func8 h)))))

/-! ### laws_FnExactToldOnce -/
noncomputable def laws_FnExactToldOnce_c : Code := bodyOf Tryz.f3
noncomputable def laws_FnExactToldOnce_X : Sig := { f := 3, fn := Tryz.f3, rms := [.val [] []], oms := [none] }
noncomputable def laws_FnExactToldOnce_R (r : Bool) : V := .b r
noncomputable def laws_FnExactToldOnce_O (r : Bool) : List (Option V) := [none]
noncomputable def laws_FnExactToldOnce_t (i : Nat) (fr : Bool) (r : Bool) : Nat × Tell := (i, { a := .call [.val ck27 []] fr (laws_FnExactToldOnce_R r) (laws_FnExactToldOnce_O r) })
noncomputable def laws_FnExactToldOnce (aW : TWorld) : Option Bool :=
  ((laws_szWorld aW 1048576).bind fun szWorld =>
 (bif decide (szWorld < 0) then
 some true
 else
 ((laws_toWorld aW).bind fun toWorld =>
 ((spec_ToldOnce toWorld).bind fun toldOnce =>
 ((laws_toWorld aW).bind fun toWorld1 =>
 ((impl_ToldOnce toWorld1).bind fun toldOnce1 =>
 (bif (!(toldOnce1 == toldOnce)) then
 some false
 else
 ((laws_toWorld aW).bind fun toWorld2 =>
 ((laws_eqWorld toWorld1 toWorld2).bind fun eqWorld =>
 (bif (!eqWorld) then
 some false
 else
 some true))))))))))
theorem laws_FnExactToldOnce_ok {aW : TWorld} (r : Bool) (h : laws_FnExactToldOnce aW = some r) : ACalls cx.P 3 [.agg (eWorld aW)] (laws_FnExactToldOnce_R r) (laws_FnExactToldOnce_O r) :=
  ACalls.of (cx := cx) (X := laws_FnExactToldOnce_X) (c := laws_FnExactToldOnce_c) Tryz.func3 (by kernel_rfl) (by kernel_rfl) (by kernel_rfl) (P0 <|
 rg3 <| cb laws_szWorld_t laws_szWorld_ok 2 false h fun szWorld h =>
 rg <| cdD 1 h (fun h =>
 rg <| fe Tryz.func3 h) (fun h =>
 rg <| cb laws_toWorld_t laws_toWorld_ok 1 false h fun toWorld h =>
 cb spec_ToldOnce_t spec_ToldOnce_ok 2 false h fun toldOnce h =>
 rg <| cb laws_toWorld_t laws_toWorld_ok 1 false h fun toWorld1 h =>
 rg <| cb impl_ToldOnce_t impl_ToldOnce_ok 1 false h fun toldOnce1 h =>
 rg <| cdD 2 h (fun h =>
 rg <| fe Tryz.func3 h) (fun h =>
 rg <| cb laws_toWorld_t laws_toWorld_ok 2 false h fun toWorld2 h =>
 cb laws_eqWorld_t laws_eqWorld_ok 3 false h fun eqWorld h =>
 cdD 4 h (fun h =>
 rg <| fe Tryz.func3 h) (fun h =>
 rg <| fe Tryz.func3 h))))


end Go.Proofs.YtnbiggnidjfgeaaGreat
