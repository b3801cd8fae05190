/- Functions of the program, and that their calls come to this. -/
import Derived.Test.YthegkbaijmkhfaaF1
set_option linter.unusedVariables false
set_option linter.unusedSimpArgs false
namespace Go.Proofs.Ythegkbaijmkhfaa
open Go

/-! ### laws_eqNodeS -/
noncomputable def laws_eqNodeS_c : Code := bodyOf Try.f24
noncomputable def laws_eqNodeS_X : Sig := { f := 24, fn := Try.f24, rms := [.val [] []], oms := [none, none] }
noncomputable def laws_eqNodeS_R (r : Bool) : V := .b r
noncomputable def laws_eqNodeS_O (r : Bool) : List (Option V) := [none, none]
noncomputable def laws_eqNodeS_t (i : Nat) (fr : Bool) (r : Bool) : Nat × Tell := (i, { a := .call [.val [some 27] [], .val [some 27] []] fr (laws_eqNodeS_R r) (laws_eqNodeS_O r) })
noncomputable def laws_eqNodeS_k1 : List Item := posI 2000 4 [false, false] [.code laws_eqNodeS_c]
noncomputable def laws_eqNodeS_S1 : St := ⟨(bs 27 []), [some []]⟩
noncomputable def laws_eqNodeS_k2 : Option Bool :=
  some true
theorem laws_eqNodeS_k2_ok (r : Bool) (h : laws_eqNodeS_k2 = some r) : Fin cx laws_eqNodeS_X (laws_eqNodeS_R r) (laws_eqNodeS_O r) laws_eqNodeS_k1 (laws_eqNodeS_S1) :=
  P0 <|
 rg <| fe Try.func24 h
noncomputable def laws_eqNodeS_k3 : List Item := posI 2000 3 [false] [.code laws_eqNodeS_c]
noncomputable def laws_eqNodeS_S2 (a : List TNode) (b : List TNode) (i : Int) : St := ⟨(vsl 27 eNode a :: (vsl 27 eNode b :: (bs 3 (vi i :: (bs 21 []))))), [some []]⟩
noncomputable def laws_eqNodeS_b1 (a : List TNode) (b : List TNode) (i : Int) : Option (Stp Bool Int Unit) :=
  (bif decide (i < (a.length : Int)) then
 ((idx a i).bind fun node =>
 ((idx b i).bind fun node1 =>
 ((laws_eqNode node node1).bind fun eqNode =>
 (bif (!eqNode) then
 some (Stp.ret false)
 else
 some (Stp.nxt (w64 (i + 1)))))))
 else
 some (Stp.brk ()))
theorem laws_eqNodeS_b1_ok (a : List TNode) (b : List TNode) (res : V) (outs : List (Option V)) (x1 : Exc Bool Unit) (hb1 : HB cx laws_eqNodeS_X res outs x1 laws_eqNodeS_k1 (fun s => laws_eqNodeS_S1)) (hr1 : HR res outs x1 laws_eqNodeS_R laws_eqNodeS_O) (st1 : Stp Bool Int Unit) (hc1 : Cont x1 (fun s : Int => Fin cx laws_eqNodeS_X res outs laws_eqNodeS_k3 (laws_eqNodeS_S2 a b s)) st1) (i : Int) (h : laws_eqNodeS_b1 a b i = some st1) : Fin cx laws_eqNodeS_X res outs laws_eqNodeS_k3 (laws_eqNodeS_S2 a b i) :=
  P0 <|
 rg <| cdD 3 h (fun h =>
 rg <| ixS eNode 2 h fun node hnode h =>
 ixS eNode 6 h fun node1 hnode1 h =>
 cb laws_eqNode_t laws_eqNode_ok 8 false h fun eqNode h =>
 cdD 9 h (fun h =>
 rg <| (retD h hc1 fun e => fn0 Try.func24 (hr1 _ e))) (fun h =>
 rg <| (nxtD h hc1 fun hI => sg [] [0, 1, 5] [] hI))) (fun h =>
 (brkD h hc1 fun e => sg [] [] [] (hb1 _ e)))
noncomputable def laws_eqNodeS (a : List TNode) (b : List TNode) : Option Bool :=
  (bif ((a.length : Int) != (b.length : Int)) then
 some false
 else
 ((loop (fun s : Int => laws_eqNodeS_b1 a b s) 0).bind fun x => x.go (fun r => some r) fun s => laws_eqNodeS_k2))
theorem laws_eqNodeS_ok {a : List TNode} {b : List TNode} (r : Bool) (h : laws_eqNodeS a b = some r) : ACalls cx.P 24 [vsl 27 eNode a, vsl 27 eNode b] (laws_eqNodeS_R r) (laws_eqNodeS_O r) :=
  ACalls.of (cx := cx) (X := laws_eqNodeS_X) (c := laws_eqNodeS_c) Try.func24 (by kernel_rfl) (by kernel_rfl) (by kernel_rfl) (P0 <|
 rg2 <| cdD 4 h (fun h =>
 rg <| fe Try.func24 h) (fun h =>
 rg <| loopJ h fun x hl hr hb => sg [] [0, 1, 5] [] (loopD (I := fun s : Int => Fin cx laws_eqNodeS_X (laws_eqNodeS_R r) (laws_eqNodeS_O r) laws_eqNodeS_k3 (laws_eqNodeS_S2 a b s)) hl fun s st h hc => laws_eqNodeS_b1_ok a b _ _ x (fun s e => laws_eqNodeS_k2_ok r (hb s e)) (fun v e => ⟨congrArg laws_eqNodeS_R (Option.some.inj (hr v e)).symm, congrArg laws_eqNodeS_O (Option.some.inj (hr v e)).symm⟩) st hc s h)))

/-! ### laws_eqMsg -/
noncomputable def laws_eqMsg_c : Code := bodyOf Try.f40
noncomputable def laws_eqMsg_X : Sig := { f := 40, fn := Try.f40, rms := [.val [] []], oms := [none, none] }
noncomputable def laws_eqMsg_R (r : Bool) : V := .b r
noncomputable def laws_eqMsg_O (r : Bool) : List (Option V) := [none, none]
noncomputable def laws_eqMsg_t (i : Nat) (fr : Bool) (r : Bool) : Nat × Tell := (i, { a := .call [.val ck105 [], .val ck105 []] fr (laws_eqMsg_R r) (laws_eqMsg_O r) })
noncomputable def laws_eqMsg (a : TMsg) (b : TMsg) : Option Bool :=
  (bif (a.Kind != b.Kind) then
 some false
 else
 (bif (a.From != b.From) then
 some false
 else
 (bif (a.To != b.To) then
 some false
 else
 (bif (a.Bal != b.Bal) then
 some false
 else
 (bif (a.Slot != b.Slot) then
 some false
 else
 ((laws_eqEntry a.Entry b.Entry).bind fun eqEntry =>
 (bif (!eqEntry) then
 some false
 else
 ((laws_eqVoteS a.Votes b.Votes).bind fun eqVoteS =>
 (bif (!eqVoteS) then
 some false
 else
 some true)))))))))
theorem laws_eqMsg_ok {a : TMsg} {b : TMsg} (r : Bool) (h : laws_eqMsg a b = some r) : ACalls cx.P 40 [.agg (eMsg a), .agg (eMsg b)] (laws_eqMsg_R r) (laws_eqMsg_O r) :=
  ACalls.of (cx := cx) (X := laws_eqMsg_X) (c := laws_eqMsg_c) Try.func40 (by kernel_rfl) (by kernel_rfl) (by kernel_rfl) (P0 <|
 rg2 <| cdD 4 h (fun h =>
 rg <| fe Try.func40 h) (fun h =>
 rg <| cdD 4 h (fun h =>
 rg <| fe Try.func40 h) (fun h =>
 rg <| cdD 4 h (fun h =>
 rg <| fe Try.func40 h) (fun h =>
 rg <| cdD 4 h (fun h =>
 rg <| fe Try.func40 h) (fun h =>
 rg <| cdD 4 h (fun h =>
 rg <| fe Try.func40 h) (fun h =>
 rg <| cb laws_eqEntry_t laws_eqEntry_ok 4 false h fun eqEntry h =>
 cdD 5 h (fun h =>
 rg <| fe Try.func40 h) (fun h =>
 rg <| cb laws_eqVoteS_t laws_eqVoteS_ok 4 false h fun eqVoteS h =>
 cdD 5 h (fun h =>
 rg <| fe Try.func40 h) (fun h =>
 rg <| fe Try.func40 h))))))))

/-! ### laws_eqMsgS -/
noncomputable def laws_eqMsgS_c : Code := bodyOf Try.f25
noncomputable def laws_eqMsgS_X : Sig := { f := 25, fn := Try.f25, rms := [.val [] []], oms := [none, none] }
noncomputable def laws_eqMsgS_R (r : Bool) : V := .b r
noncomputable def laws_eqMsgS_O (r : Bool) : List (Option V) := [none, none]
noncomputable def laws_eqMsgS_t (i : Nat) (fr : Bool) (r : Bool) : Nat × Tell := (i, { a := .call [.val [some 13] [], .val [some 13] []] fr (laws_eqMsgS_R r) (laws_eqMsgS_O r) })
noncomputable def laws_eqMsgS_k1 : List Item := posI 2000 4 [false, false] [.code laws_eqMsgS_c]
noncomputable def laws_eqMsgS_S1 : St := ⟨(bs 27 []), [some []]⟩
noncomputable def laws_eqMsgS_k2 : Option Bool :=
  some true
theorem laws_eqMsgS_k2_ok (r : Bool) (h : laws_eqMsgS_k2 = some r) : Fin cx laws_eqMsgS_X (laws_eqMsgS_R r) (laws_eqMsgS_O r) laws_eqMsgS_k1 (laws_eqMsgS_S1) :=
  P0 <|
 rg <| fe Try.func25 h
noncomputable def laws_eqMsgS_k3 : List Item := posI 2000 3 [false] [.code laws_eqMsgS_c]
noncomputable def laws_eqMsgS_S2 (a : List TMsg) (b : List TMsg) (i : Int) : St := ⟨(vsl 13 eMsg a :: (vsl 13 eMsg b :: (bs 3 (vi i :: (bs 21 []))))), [some []]⟩
noncomputable def laws_eqMsgS_b1 (a : List TMsg) (b : List TMsg) (i : Int) : Option (Stp Bool Int Unit) :=
  (bif decide (i < (a.length : Int)) then
 ((idx a i).bind fun msg =>
 ((idx b i).bind fun msg1 =>
 ((laws_eqMsg msg msg1).bind fun eqMsg =>
 (bif (!eqMsg) then
 some (Stp.ret false)
 else
 some (Stp.nxt (w64 (i + 1)))))))
 else
 some (Stp.brk ()))
theorem laws_eqMsgS_b1_ok (a : List TMsg) (b : List TMsg) (res : V) (outs : List (Option V)) (x1 : Exc Bool Unit) (hb1 : HB cx laws_eqMsgS_X res outs x1 laws_eqMsgS_k1 (fun s => laws_eqMsgS_S1)) (hr1 : HR res outs x1 laws_eqMsgS_R laws_eqMsgS_O) (st1 : Stp Bool Int Unit) (hc1 : Cont x1 (fun s : Int => Fin cx laws_eqMsgS_X res outs laws_eqMsgS_k3 (laws_eqMsgS_S2 a b s)) st1) (i : Int) (h : laws_eqMsgS_b1 a b i = some st1) : Fin cx laws_eqMsgS_X res outs laws_eqMsgS_k3 (laws_eqMsgS_S2 a b i) :=
  P0 <|
 rg <| cdD 3 h (fun h =>
 rg <| ixS eMsg 2 h fun msg hmsg h =>
 ixS eMsg 6 h fun msg1 hmsg1 h =>
 cb laws_eqMsg_t laws_eqMsg_ok 8 false h fun eqMsg h =>
 cdD 9 h (fun h =>
 rg <| (retD h hc1 fun e => fn0 Try.func25 (hr1 _ e))) (fun h =>
 rg <| (nxtD h hc1 fun hI => sg [] [0, 1, 5] [] hI))) (fun h =>
 (brkD h hc1 fun e => sg [] [] [] (hb1 _ e)))
noncomputable def laws_eqMsgS (a : List TMsg) (b : List TMsg) : Option Bool :=
  (bif ((a.length : Int) != (b.length : Int)) then
 some false
 else
 ((loop (fun s : Int => laws_eqMsgS_b1 a b s) 0).bind fun x => x.go (fun r => some r) fun s => laws_eqMsgS_k2))
theorem laws_eqMsgS_ok {a : List TMsg} {b : List TMsg} (r : Bool) (h : laws_eqMsgS a b = some r) : ACalls cx.P 25 [vsl 13 eMsg a, vsl 13 eMsg b] (laws_eqMsgS_R r) (laws_eqMsgS_O r) :=
  ACalls.of (cx := cx) (X := laws_eqMsgS_X) (c := laws_eqMsgS_c) Try.func25 (by kernel_rfl) (by kernel_rfl) (by kernel_rfl) (P0 <|
 rg2 <| cdD 4 h (fun h =>
 rg <| fe Try.func25 h) (fun h =>
 rg <| loopJ h fun x hl hr hb => sg [] [0, 1, 5] [] (loopD (I := fun s : Int => Fin cx laws_eqMsgS_X (laws_eqMsgS_R r) (laws_eqMsgS_O r) laws_eqMsgS_k3 (laws_eqMsgS_S2 a b s)) hl fun s st h hc => laws_eqMsgS_b1_ok a b _ _ x (fun s e => laws_eqMsgS_k2_ok r (hb s e)) (fun v e => ⟨congrArg laws_eqMsgS_R (Option.some.inj (hr v e)).symm, congrArg laws_eqMsgS_O (Option.some.inj (hr v e)).symm⟩) st hc s h)))

/-! ### laws_eqAsked -/
noncomputable def laws_eqAsked_c : Code := bodyOf Try.f41
noncomputable def laws_eqAsked_X : Sig := { f := 41, fn := Try.f41, rms := [.val [] []], oms := [none, none] }
noncomputable def laws_eqAsked_R (r : Bool) : V := .b r
noncomputable def laws_eqAsked_O (r : Bool) : List (Option V) := [none, none]
noncomputable def laws_eqAsked_t (i : Nat) (fr : Bool) (r : Bool) : Nat × Tell := (i, { a := .call [.val [none, none, some 4] [], .val [none, none, some 4] []] fr (laws_eqAsked_R r) (laws_eqAsked_O r) })
noncomputable def laws_eqAsked (a : TAsked) (b : TAsked) : Option Bool :=
  ((laws_eqReq a.Req b.Req).bind fun eqReq =>
 (bif (!eqReq) then
 some false
 else
 ((laws_eqInsS a.Prog b.Prog).bind fun eqInsS =>
 (bif (!eqInsS) then
 some false
 else
 some true))))
theorem laws_eqAsked_ok {a : TAsked} {b : TAsked} (r : Bool) (h : laws_eqAsked a b = some r) : ACalls cx.P 41 [.agg (eAsked a), .agg (eAsked b)] (laws_eqAsked_R r) (laws_eqAsked_O r) :=
  ACalls.of (cx := cx) (X := laws_eqAsked_X) (c := laws_eqAsked_c) Try.func41 (by kernel_rfl) (by kernel_rfl) (by kernel_rfl) (P0 <|
 rg2 <| cb laws_eqReq_t laws_eqReq_ok 4 false h fun eqReq h =>
 cdD 5 h (fun h =>
 rg <| fe Try.func41 h) (fun h =>
 rg <| cb laws_eqInsS_t laws_eqInsS_ok 4 false h fun eqInsS h =>
 cdD 5 h (fun h =>
 rg <| fe Try.func41 h) (fun h =>
 rg <| fe Try.func41 h)))

/-! ### laws_eqAskedS -/
noncomputable def laws_eqAskedS_c : Code := bodyOf Try.f26
noncomputable def laws_eqAskedS_X : Sig := { f := 26, fn := Try.f26, rms := [.val [] []], oms := [none, none] }
noncomputable def laws_eqAskedS_R (r : Bool) : V := .b r
noncomputable def laws_eqAskedS_O (r : Bool) : List (Option V) := [none, none]
noncomputable def laws_eqAskedS_t (i : Nat) (fr : Bool) (r : Bool) : Nat × Tell := (i, { a := .call [.val [some 3] [], .val [some 3] []] fr (laws_eqAskedS_R r) (laws_eqAskedS_O r) })
noncomputable def laws_eqAskedS_k1 : List Item := posI 2000 4 [false, false] [.code laws_eqAskedS_c]
noncomputable def laws_eqAskedS_S1 : St := ⟨(bs 27 []), [some []]⟩
noncomputable def laws_eqAskedS_k2 : Option Bool :=
  some true
theorem laws_eqAskedS_k2_ok (r : Bool) (h : laws_eqAskedS_k2 = some r) : Fin cx laws_eqAskedS_X (laws_eqAskedS_R r) (laws_eqAskedS_O r) laws_eqAskedS_k1 (laws_eqAskedS_S1) :=
  P0 <|
 rg <| fe Try.func26 h
noncomputable def laws_eqAskedS_k3 : List Item := posI 2000 3 [false] [.code laws_eqAskedS_c]
noncomputable def laws_eqAskedS_S2 (a : List TAsked) (b : List TAsked) (i : Int) : St := ⟨(vsl 3 eAsked a :: (vsl 3 eAsked b :: (bs 3 (vi i :: (bs 21 []))))), [some []]⟩
noncomputable def laws_eqAskedS_b1 (a : List TAsked) (b : List TAsked) (i : Int) : Option (Stp Bool Int Unit) :=
  (bif decide (i < (a.length : Int)) then
 ((idx a i).bind fun asked =>
 ((idx b i).bind fun asked1 =>
 ((laws_eqAsked asked asked1).bind fun eqAsked =>
 (bif (!eqAsked) then
 some (Stp.ret false)
 else
 some (Stp.nxt (w64 (i + 1)))))))
 else
 some (Stp.brk ()))
theorem laws_eqAskedS_b1_ok (a : List TAsked) (b : List TAsked) (res : V) (outs : List (Option V)) (x1 : Exc Bool Unit) (hb1 : HB cx laws_eqAskedS_X res outs x1 laws_eqAskedS_k1 (fun s => laws_eqAskedS_S1)) (hr1 : HR res outs x1 laws_eqAskedS_R laws_eqAskedS_O) (st1 : Stp Bool Int Unit) (hc1 : Cont x1 (fun s : Int => Fin cx laws_eqAskedS_X res outs laws_eqAskedS_k3 (laws_eqAskedS_S2 a b s)) st1) (i : Int) (h : laws_eqAskedS_b1 a b i = some st1) : Fin cx laws_eqAskedS_X res outs laws_eqAskedS_k3 (laws_eqAskedS_S2 a b i) :=
  P0 <|
 rg <| cdD 3 h (fun h =>
 rg <| ixS eAsked 2 h fun asked hasked h =>
 ixS eAsked 6 h fun asked1 hasked1 h =>
 cb laws_eqAsked_t laws_eqAsked_ok 8 false h fun eqAsked h =>
 cdD 9 h (fun h =>
 rg <| (retD h hc1 fun e => fn0 Try.func26 (hr1 _ e))) (fun h =>
 rg <| (nxtD h hc1 fun hI => sg [] [0, 1, 5] [] hI))) (fun h =>
 (brkD h hc1 fun e => sg [] [] [] (hb1 _ e)))
noncomputable def laws_eqAskedS (a : List TAsked) (b : List TAsked) : Option Bool :=
  (bif ((a.length : Int) != (b.length : Int)) then
 some false
 else
 ((loop (fun s : Int => laws_eqAskedS_b1 a b s) 0).bind fun x => x.go (fun r => some r) fun s => laws_eqAskedS_k2))
theorem laws_eqAskedS_ok {a : List TAsked} {b : List TAsked} (r : Bool) (h : laws_eqAskedS a b = some r) : ACalls cx.P 26 [vsl 3 eAsked a, vsl 3 eAsked b] (laws_eqAskedS_R r) (laws_eqAskedS_O r) :=
  ACalls.of (cx := cx) (X := laws_eqAskedS_X) (c := laws_eqAskedS_c) Try.func26 (by kernel_rfl) (by kernel_rfl) (by kernel_rfl) (P0 <|
 rg2 <| cdD 4 h (fun h =>
 rg <| fe Try.func26 h) (fun h =>
 rg <| loopJ h fun x hl hr hb => sg [] [0, 1, 5] [] (loopD (I := fun s : Int => Fin cx laws_eqAskedS_X (laws_eqAskedS_R r) (laws_eqAskedS_O r) laws_eqAskedS_k3 (laws_eqAskedS_S2 a b s)) hl fun s st h hc => laws_eqAskedS_b1_ok a b _ _ x (fun s e => laws_eqAskedS_k2_ok r (hb s e)) (fun v e => ⟨congrArg laws_eqAskedS_R (Option.some.inj (hr v e)).symm, congrArg laws_eqAskedS_O (Option.some.inj (hr v e)).symm⟩) st hc s h)))

/-! ### laws_eqTold -/
noncomputable def laws_eqTold_c : Code := bodyOf Try.f42
noncomputable def laws_eqTold_X : Sig := { f := 42, fn := Try.f42, rms := [.val [] []], oms := [none, none] }
noncomputable def laws_eqTold_R (r : Bool) : V := .b r
noncomputable def laws_eqTold_O (r : Bool) : List (Option V) := [none, none]
noncomputable def laws_eqTold_t (i : Nat) (fr : Bool) (r : Bool) : Nat × Tell := (i, { a := .call [.val [] [], .val [] []] fr (laws_eqTold_R r) (laws_eqTold_O r) })
noncomputable def laws_eqTold (a : TTold) (b : TTold) : Option Bool :=
  (bif (a.Node != b.Node) then
 some false
 else
 ((laws_eqReq a.Req b.Req).bind fun eqReq =>
 (bif (!eqReq) then
 some false
 else
 (bif (a.Code != b.Code) then
 some false
 else
 (bif (a.Val != b.Val) then
 some false
 else
 some true)))))
theorem laws_eqTold_ok {a : TTold} {b : TTold} (r : Bool) (h : laws_eqTold a b = some r) : ACalls cx.P 42 [.agg (eTold a), .agg (eTold b)] (laws_eqTold_R r) (laws_eqTold_O r) :=
  ACalls.of (cx := cx) (X := laws_eqTold_X) (c := laws_eqTold_c) Try.func42 (by kernel_rfl) (by kernel_rfl) (by kernel_rfl) (P0 <|
 rg2 <| cdD 4 h (fun h =>
 rg <| fe Try.func42 h) (fun h =>
 rg <| cb laws_eqReq_t laws_eqReq_ok 4 false h fun eqReq h =>
 cdD 5 h (fun h =>
 rg <| fe Try.func42 h) (fun h =>
 rg <| cdD 4 h (fun h =>
 rg <| fe Try.func42 h) (fun h =>
 rg <| cdD 4 h (fun h =>
 rg <| fe Try.func42 h) (fun h =>
 rg <| fe Try.func42 h)))))

/-! ### laws_eqToldS -/
noncomputable def laws_eqToldS_c : Code := bodyOf Try.f27
noncomputable def laws_eqToldS_X : Sig := { f := 27, fn := Try.f27, rms := [.val [] []], oms := [none, none] }
noncomputable def laws_eqToldS_R (r : Bool) : V := .b r
noncomputable def laws_eqToldS_O (r : Bool) : List (Option V) := [none, none]
noncomputable def laws_eqToldS_t (i : Nat) (fr : Bool) (r : Bool) : Nat × Tell := (i, { a := .call [.val [some 5] [], .val [some 5] []] fr (laws_eqToldS_R r) (laws_eqToldS_O r) })
noncomputable def laws_eqToldS_k1 : List Item := posI 2000 4 [false, false] [.code laws_eqToldS_c]
noncomputable def laws_eqToldS_S1 : St := ⟨(bs 27 []), [some []]⟩
noncomputable def laws_eqToldS_k2 : Option Bool :=
  some true
theorem laws_eqToldS_k2_ok (r : Bool) (h : laws_eqToldS_k2 = some r) : Fin cx laws_eqToldS_X (laws_eqToldS_R r) (laws_eqToldS_O r) laws_eqToldS_k1 (laws_eqToldS_S1) :=
  P0 <|
 rg <| fe Try.func27 h
noncomputable def laws_eqToldS_k3 : List Item := posI 2000 3 [false] [.code laws_eqToldS_c]
noncomputable def laws_eqToldS_S2 (a : List TTold) (b : List TTold) (i : Int) : St := ⟨(vsl 5 eTold a :: (vsl 5 eTold b :: (bs 3 (vi i :: (bs 21 []))))), [some []]⟩
noncomputable def laws_eqToldS_b1 (a : List TTold) (b : List TTold) (i : Int) : Option (Stp Bool Int Unit) :=
  (bif decide (i < (a.length : Int)) then
 ((idx a i).bind fun told =>
 ((idx b i).bind fun told1 =>
 ((laws_eqTold told told1).bind fun eqTold =>
 (bif (!eqTold) then
 some (Stp.ret false)
 else
 some (Stp.nxt (w64 (i + 1)))))))
 else
 some (Stp.brk ()))
theorem laws_eqToldS_b1_ok (a : List TTold) (b : List TTold) (res : V) (outs : List (Option V)) (x1 : Exc Bool Unit) (hb1 : HB cx laws_eqToldS_X res outs x1 laws_eqToldS_k1 (fun s => laws_eqToldS_S1)) (hr1 : HR res outs x1 laws_eqToldS_R laws_eqToldS_O) (st1 : Stp Bool Int Unit) (hc1 : Cont x1 (fun s : Int => Fin cx laws_eqToldS_X res outs laws_eqToldS_k3 (laws_eqToldS_S2 a b s)) st1) (i : Int) (h : laws_eqToldS_b1 a b i = some st1) : Fin cx laws_eqToldS_X res outs laws_eqToldS_k3 (laws_eqToldS_S2 a b i) :=
  P0 <|
 rg <| cdD 3 h (fun h =>
 rg <| ixS eTold 2 h fun told htold h =>
 ixS eTold 6 h fun told1 htold1 h =>
 cb laws_eqTold_t laws_eqTold_ok 8 false h fun eqTold h =>
 cdD 9 h (fun h =>
 rg <| (retD h hc1 fun e => fn0 Try.func27 (hr1 _ e))) (fun h =>
 rg <| (nxtD h hc1 fun hI => sg [] [0, 1, 5] [] hI))) (fun h =>
 (brkD h hc1 fun e => sg [] [] [] (hb1 _ e)))
noncomputable def laws_eqToldS (a : List TTold) (b : List TTold) : Option Bool :=
  (bif ((a.length : Int) != (b.length : Int)) then
 some false
 else
 ((loop (fun s : Int => laws_eqToldS_b1 a b s) 0).bind fun x => x.go (fun r => some r) fun s => laws_eqToldS_k2))
theorem laws_eqToldS_ok {a : List TTold} {b : List TTold} (r : Bool) (h : laws_eqToldS a b = some r) : ACalls cx.P 27 [vsl 5 eTold a, vsl 5 eTold b] (laws_eqToldS_R r) (laws_eqToldS_O r) :=
  ACalls.of (cx := cx) (X := laws_eqToldS_X) (c := laws_eqToldS_c) Try.func27 (by kernel_rfl) (by kernel_rfl) (by kernel_rfl) (P0 <|
 rg2 <| cdD 4 h (fun h =>
 rg <| fe Try.func27 h) (fun h =>
 rg <| loopJ h fun x hl hr hb => sg [] [0, 1, 5] [] (loopD (I := fun s : Int => Fin cx laws_eqToldS_X (laws_eqToldS_R r) (laws_eqToldS_O r) laws_eqToldS_k3 (laws_eqToldS_S2 a b s)) hl fun s st h hc => laws_eqToldS_b1_ok a b _ _ x (fun s e => laws_eqToldS_k2_ok r (hb s e)) (fun v e => ⟨congrArg laws_eqToldS_R (Option.some.inj (hr v e)).symm, congrArg laws_eqToldS_O (Option.some.inj (hr v e)).symm⟩) st hc s h)))

/-! ### laws_eqWorld -/
noncomputable def laws_eqWorld_c : Code := bodyOf Try.f10
noncomputable def laws_eqWorld_X : Sig := { f := 10, fn := Try.f10, rms := [.val [] []], oms := [none, none] }
noncomputable def laws_eqWorld_R (r : Bool) : V := .b r
noncomputable def laws_eqWorld_O (r : Bool) : List (Option V) := [none, none]
noncomputable def laws_eqWorld_t (i : Nat) (fr : Bool) (r : Bool) : Nat × Tell := (i, { a := .call [.val ck39 [], .val ck39 []] fr (laws_eqWorld_R r) (laws_eqWorld_O r) })
noncomputable def laws_eqWorld (a : TWorld) (b : TWorld) : Option Bool :=
  ((laws_eqNodeS a.Nodes b.Nodes).bind fun eqNodeS =>
 (bif (!eqNodeS) then
 some false
 else
 ((laws_eqMsgS a.Net b.Net).bind fun eqMsgS =>
 (bif (!eqMsgS) then
 some false
 else
 ((laws_eqAskedS a.Asked b.Asked).bind fun eqAskedS =>
 (bif (!eqAskedS) then
 some false
 else
 ((laws_eqToldS a.Told b.Told).bind fun eqToldS =>
 (bif (!eqToldS) then
 some false
 else
 some true))))))))
theorem laws_eqWorld_ok {a : TWorld} {b : TWorld} (r : Bool) (h : laws_eqWorld a b = some r) : ACalls cx.P 10 [.agg (eWorld a), .agg (eWorld b)] (laws_eqWorld_R r) (laws_eqWorld_O r) :=
  ACalls.of (cx := cx) (X := laws_eqWorld_X) (c := laws_eqWorld_c) Try.func10 (by kernel_rfl) (by kernel_rfl) (by kernel_rfl) (P0 <|
 rg2 <| cb laws_eqNodeS_t laws_eqNodeS_ok 4 false h fun eqNodeS h =>
 cdD 5 h (fun h =>
 rg <| fe Try.func10 h) (fun h =>
 rg <| cb laws_eqMsgS_t laws_eqMsgS_ok 4 false h fun eqMsgS h =>
 cdD 5 h (fun h =>
 rg <| fe Try.func10 h) (fun h =>
 rg <| cb laws_eqAskedS_t laws_eqAskedS_ok 4 false h fun eqAskedS h =>
 cdD 5 h (fun h =>
 rg <| fe Try.func10 h) (fun h =>
 rg <| cb laws_eqToldS_t laws_eqToldS_ok 4 false h fun eqToldS h =>
 cdD 5 h (fun h =>
 rg <| fe Try.func10 h) (fun h =>
 rg <| fe Try.func10 h)))))

/-! ### laws_markReadS -/
noncomputable def laws_markReadS_c : Code := bodyOf Try.f46
noncomputable def laws_markReadS_X : Sig := { f := 46, fn := Try.f46, rms := [.val [] []], oms := [some (0, .row), none] }
noncomputable def laws_markReadS_R (r : Int × List TRead) : V := vi r.1
noncomputable def laws_markReadS_O (r : Int × List TRead) : List (Option V) := [some (vosl 142 2 eRead r.2), none]
noncomputable def laws_markReadS_t (i : Nat) (fr : Bool) (r : Int × List TRead) : Nat × Tell := (i, { a := .call [.row, .val [] []] fr (laws_markReadS_R r) (laws_markReadS_O r) })
noncomputable def laws_markReadS_k1 : List Item := posI 2000 3 [false] [.code laws_markReadS_c]
noncomputable def laws_markReadS_S1 (w : List TRead) (k2 : Int) : St := ⟨(bs 1 (vi k2 :: (bs 25 []))), [some [erow 142 2 eRead w]]⟩
noncomputable def laws_markReadS_k2 (w : List TRead) (k2 : Int) : Option (Int × List TRead) :=
  some (k2, w)
theorem laws_markReadS_k2_ok (r : Int × List TRead) (w : List TRead) (k2 : Int) (h : laws_markReadS_k2 w k2 = some r) : Fin cx laws_markReadS_X (laws_markReadS_R r) (laws_markReadS_O r) laws_markReadS_k1 (laws_markReadS_S1 w k2) :=
  P0 <|
 rg <| om (w.length = w.length) rfl <| fe Try.func46 h
noncomputable def laws_markReadS_k3 : List Item := posI 2000 2 [] [.code laws_markReadS_c]
noncomputable def laws_markReadS_S2 (a1 : List TRead) (k1 : Int) (i : Int) : St := ⟨(.own 0 0 2 0 a1.length :: (vi k1 :: (bs 3 (vi i :: (bs 21 []))))), [some [erow 142 2 eRead a1]]⟩
noncomputable def laws_markReadS_b1 (a1 : List TRead) (k1 : Int) (i : Int) : Option (Stp (Int × List TRead) ((List TRead) × Int × Int) ((List TRead) × Int)) :=
  (bif decide (i < (a1.length : Int)) then
 ((idx a1 i).bind fun read =>
 ((idx (a1.set i.toNat (TRead.mk k1 read.Ver)) i).bind fun read1 =>
 some (Stp.nxt ((a1.set i.toNat (TRead.mk k1 read.Ver)).set i.toNat (TRead.mk read1.Box (w64 (k1 + 1))), w64 ((w64 (k1 + 1)) + 1), w64 (i + 1)))))
 else
 some (Stp.brk (a1, k1)))
theorem laws_markReadS_b1_ok (res : V) (outs : List (Option V)) (x1 : Exc (Int × List TRead) ((List TRead) × Int)) (hb1 : HB cx laws_markReadS_X res outs x1 laws_markReadS_k1 (fun s => laws_markReadS_S1 s.1 s.2)) (hr1 : HR res outs x1 laws_markReadS_R laws_markReadS_O) (st1 : Stp (Int × List TRead) ((List TRead) × Int × Int) ((List TRead) × Int)) (hc1 : Cont x1 (fun s : (List TRead) × Int × Int => Fin cx laws_markReadS_X res outs laws_markReadS_k3 (laws_markReadS_S2 s.1 s.2.1 s.2.2)) st1) (a1 : List TRead) (k1 : Int) (i : Int) (h : laws_markReadS_b1 a1 k1 i = some st1) : Fin cx laws_markReadS_X res outs laws_markReadS_k3 (laws_markReadS_S2 a1 k1 i) :=
  P0 <|
 rg <| cdD 3 h (fun h =>
 rg <| bindD h fun read hread h =>
 ixB hread <| stR 142 2 eRead 5 [] (TRead.mk k1 read.Ver) hread <| rg2 <| bindD h fun read1 hread1 h =>
 ob (idx0 hread1) <| om (i < ((a1.length : Nat) : Int)) (by simpa using idx1 hread1) <| stR 142 2 eRead 5 [] (TRead.mk read1.Box (w64 (k1 + 1))) hread1 <| rg2 <| (nxtD h hc1 fun hI => om ((.own 0 0 2 0 a1.length : V) = .own 0 0 2 0 ((a1.set i.toNat (TRead.mk k1 read.Ver)).set i.toNat (TRead.mk read1.Box (w64 (k1 + 1)))).length) (by simp) <| sg [.is (.tmp 0) (.own 0 0 2 0 ((a1.set i.toNat (TRead.mk k1 read.Ver)).set i.toNat (TRead.mk read1.Box (w64 (k1 + 1)))).length)] [0, 1, 5] [] hI)) (fun h =>
 (brkD h hc1 fun e => sg [] [1] [] (hb1 _ e)))
noncomputable def laws_markReadS (a : List TRead) (k : Int) : Option (Int × List TRead) :=
  ((loop (fun s : (List TRead) × Int × Int => laws_markReadS_b1 s.1 s.2.1 s.2.2) (a, k, 0)).bind fun x => x.go (fun r => some r) fun s => laws_markReadS_k2 s.1 s.2)
theorem laws_markReadS_ok {a : List TRead} {k : Int} (r : Int × List TRead) (h : laws_markReadS a k = some r) : ACalls cx.P 46 [vosl 142 2 eRead a, vi k] (laws_markReadS_R r) (laws_markReadS_O r) :=
  ACalls.of (cx := cx) (X := laws_markReadS_X) (c := laws_markReadS_c) Try.func46 (by kernel_rfl) (by kernel_rfl) (by kernel_rfl) (P0 <|
 rg2 <| loopJ h fun x hl hr hb => sg [] [0, 1, 5] [] (loopD (I := fun s : (List TRead) × Int × Int => Fin cx laws_markReadS_X (laws_markReadS_R r) (laws_markReadS_O r) laws_markReadS_k3 (laws_markReadS_S2 s.1 s.2.1 s.2.2)) hl fun s st h hc => laws_markReadS_b1_ok _ _ x (fun s e => laws_markReadS_k2_ok r s.1 s.2 (hb s e)) (fun v e => ⟨congrArg laws_markReadS_R (Option.some.inj (hr v e)).symm, congrArg laws_markReadS_O (Option.some.inj (hr v e)).symm⟩) st hc s.1 s.2.1 s.2.2 h))

/-! ### laws_markPutS -/
noncomputable def laws_markPutS_c : Code := bodyOf Try.f47
noncomputable def laws_markPutS_X : Sig := { f := 47, fn := Try.f47, rms := [.val [] []], oms := [some (0, .row), none] }
noncomputable def laws_markPutS_R (r : Int × List TPut) : V := vi r.1
noncomputable def laws_markPutS_O (r : Int × List TPut) : List (Option V) := [some (vosl 144 2 ePut r.2), none]
noncomputable def laws_markPutS_t (i : Nat) (fr : Bool) (r : Int × List TPut) : Nat × Tell := (i, { a := .call [.row, .val [] []] fr (laws_markPutS_R r) (laws_markPutS_O r) })
noncomputable def laws_markPutS_k1 : List Item := posI 2000 3 [false] [.code laws_markPutS_c]
noncomputable def laws_markPutS_S1 (w : List TPut) (k2 : Int) : St := ⟨(bs 1 (vi k2 :: (bs 25 []))), [some [erow 144 2 ePut w]]⟩
noncomputable def laws_markPutS_k2 (w : List TPut) (k2 : Int) : Option (Int × List TPut) :=
  some (k2, w)
theorem laws_markPutS_k2_ok (r : Int × List TPut) (w : List TPut) (k2 : Int) (h : laws_markPutS_k2 w k2 = some r) : Fin cx laws_markPutS_X (laws_markPutS_R r) (laws_markPutS_O r) laws_markPutS_k1 (laws_markPutS_S1 w k2) :=
  P0 <|
 rg <| om (w.length = w.length) rfl <| fe Try.func47 h
noncomputable def laws_markPutS_k3 : List Item := posI 2000 2 [] [.code laws_markPutS_c]
noncomputable def laws_markPutS_S2 (a1 : List TPut) (k1 : Int) (i : Int) : St := ⟨(.own 0 0 2 0 a1.length :: (vi k1 :: (bs 3 (vi i :: (bs 21 []))))), [some [erow 144 2 ePut a1]]⟩
noncomputable def laws_markPutS_b1 (a1 : List TPut) (k1 : Int) (i : Int) : Option (Stp (Int × List TPut) ((List TPut) × Int × Int) ((List TPut) × Int)) :=
  (bif decide (i < (a1.length : Int)) then
 ((idx a1 i).bind fun put =>
 ((idx (a1.set i.toNat (TPut.mk k1 put.Val)) i).bind fun put1 =>
 some (Stp.nxt ((a1.set i.toNat (TPut.mk k1 put.Val)).set i.toNat (TPut.mk put1.Box (w64 (k1 + 1))), w64 ((w64 (k1 + 1)) + 1), w64 (i + 1)))))
 else
 some (Stp.brk (a1, k1)))
theorem laws_markPutS_b1_ok (res : V) (outs : List (Option V)) (x1 : Exc (Int × List TPut) ((List TPut) × Int)) (hb1 : HB cx laws_markPutS_X res outs x1 laws_markPutS_k1 (fun s => laws_markPutS_S1 s.1 s.2)) (hr1 : HR res outs x1 laws_markPutS_R laws_markPutS_O) (st1 : Stp (Int × List TPut) ((List TPut) × Int × Int) ((List TPut) × Int)) (hc1 : Cont x1 (fun s : (List TPut) × Int × Int => Fin cx laws_markPutS_X res outs laws_markPutS_k3 (laws_markPutS_S2 s.1 s.2.1 s.2.2)) st1) (a1 : List TPut) (k1 : Int) (i : Int) (h : laws_markPutS_b1 a1 k1 i = some st1) : Fin cx laws_markPutS_X res outs laws_markPutS_k3 (laws_markPutS_S2 a1 k1 i) :=
  P0 <|
 rg <| cdD 3 h (fun h =>
 rg <| bindD h fun put hput h =>
 ixB hput <| stR 144 2 ePut 5 [] (TPut.mk k1 put.Val) hput <| rg2 <| bindD h fun put1 hput1 h =>
 ob (idx0 hput1) <| om (i < ((a1.length : Nat) : Int)) (by simpa using idx1 hput1) <| stR 144 2 ePut 5 [] (TPut.mk put1.Box (w64 (k1 + 1))) hput1 <| rg2 <| (nxtD h hc1 fun hI => om ((.own 0 0 2 0 a1.length : V) = .own 0 0 2 0 ((a1.set i.toNat (TPut.mk k1 put.Val)).set i.toNat (TPut.mk put1.Box (w64 (k1 + 1)))).length) (by simp) <| sg [.is (.tmp 0) (.own 0 0 2 0 ((a1.set i.toNat (TPut.mk k1 put.Val)).set i.toNat (TPut.mk put1.Box (w64 (k1 + 1)))).length)] [0, 1, 5] [] hI)) (fun h =>
 (brkD h hc1 fun e => sg [] [1] [] (hb1 _ e)))
noncomputable def laws_markPutS (a : List TPut) (k : Int) : Option (Int × List TPut) :=
  ((loop (fun s : (List TPut) × Int × Int => laws_markPutS_b1 s.1 s.2.1 s.2.2) (a, k, 0)).bind fun x => x.go (fun r => some r) fun s => laws_markPutS_k2 s.1 s.2)
theorem laws_markPutS_ok {a : List TPut} {k : Int} (r : Int × List TPut) (h : laws_markPutS a k = some r) : ACalls cx.P 47 [vosl 144 2 ePut a, vi k] (laws_markPutS_R r) (laws_markPutS_O r) :=
  ACalls.of (cx := cx) (X := laws_markPutS_X) (c := laws_markPutS_c) Try.func47 (by kernel_rfl) (by kernel_rfl) (by kernel_rfl) (P0 <|
 rg2 <| loopJ h fun x hl hr hb => sg [] [0, 1, 5] [] (loopD (I := fun s : (List TPut) × Int × Int => Fin cx laws_markPutS_X (laws_markPutS_R r) (laws_markPutS_O r) laws_markPutS_k3 (laws_markPutS_S2 s.1 s.2.1 s.2.2)) hl fun s st h hc => laws_markPutS_b1_ok _ _ x (fun s e => laws_markPutS_k2_ok r s.1 s.2 (hb s e)) (fun v e => ⟨congrArg laws_markPutS_R (Option.some.inj (hr v e)).symm, congrArg laws_markPutS_O (Option.some.inj (hr v e)).symm⟩) st hc s.1 s.2.1 s.2.2 h))

/-! ### laws_markVoteS -/
noncomputable def laws_markVoteS_c : Code := bodyOf Try.f43
noncomputable def laws_markVoteS_X : Sig := { f := 43, fn := Try.f43, rms := [.val [] []], oms := [some (0, .row), none] }
noncomputable def laws_markVoteS_R (r : Int × List TVote) : V := vi r.1
noncomputable def laws_markVoteS_O (r : Int × List TVote) : List (Option V) := [some (vdsl 140 8 eVote_1 r.2), none]
noncomputable def laws_markVoteS_t (i : Nat) (fr : Bool) (r : Int × List TVote) : Nat × Tell := (i, { a := .call [.row, .val [] []] fr (laws_markVoteS_R r) (laws_markVoteS_O r) })
noncomputable def laws_markVoteS_k1 : List Item := posI 2000 3 [false] [.code laws_markVoteS_c]
noncomputable def laws_markVoteS_S1 (w : List TVote) (k2 : Int) : St := ⟨(bs 1 (vi k2 :: (bs 82 []))), [some [edeep 140 8 eVote_1 w]]⟩
noncomputable def laws_markVoteS_k2 (w : List TVote) (k2 : Int) : Option (Int × List TVote) :=
  some (k2, w)
theorem laws_markVoteS_k2_ok (r : Int × List TVote) (w : List TVote) (k2 : Int) (h : laws_markVoteS_k2 w k2 = some r) : Fin cx laws_markVoteS_X (laws_markVoteS_R r) (laws_markVoteS_O r) laws_markVoteS_k1 (laws_markVoteS_S1 w k2) :=
  P0 <|
 rg <| om (w.length = w.length) rfl <| fe Try.func43 h
noncomputable def laws_markVoteS_k3 : List Item := posI 2000 2 [] [.code laws_markVoteS_c]
noncomputable def laws_markVoteS_S2 (a1 : List TVote) (k1 : Int) (i : Int) : St := ⟨(.own 0 0 8 0 a1.length :: (vi k1 :: (bs 3 (vi i :: (bs 78 []))))), [some [edeep 140 8 eVote_1 a1]]⟩
noncomputable def laws_markVoteS_r1 (k1 : Int) (vote : TVote) : List V := [vi k1, .b vote.Entry.None, vi vote.Entry.Req.Who, vi vote.Entry.Req.Seq, vosl 142 2 eRead vote.Entry.Run.Reads, vosl 144 2 ePut vote.Entry.Run.Puts, vi vote.Entry.Run.Val, vi vote.Entry.Run.Code]
noncomputable def laws_markVoteS_r2 (k1 : Int) (vote1 : TVote) : List V := [vi vote1.Bal, .b ((Int.tmod (w64 (k1 + 1)) 3) == 0), vi vote1.Entry.Req.Who, vi vote1.Entry.Req.Seq, vosl 142 2 eRead vote1.Entry.Run.Reads, vosl 144 2 ePut vote1.Entry.Run.Puts, vi vote1.Entry.Run.Val, vi vote1.Entry.Run.Code]
noncomputable def laws_markVoteS_r3 (k1 : Int) (vote2 : TVote) : List V := [vi vote2.Bal, .b vote2.Entry.None, vi (w64 ((w64 (k1 + 1)) + 1)), vi vote2.Entry.Req.Seq, vosl 142 2 eRead vote2.Entry.Run.Reads, vosl 144 2 ePut vote2.Entry.Run.Puts, vi vote2.Entry.Run.Val, vi vote2.Entry.Run.Code]
noncomputable def laws_markVoteS_r4 (k1 : Int) (vote3 : TVote) : List V := [vi vote3.Bal, .b vote3.Entry.None, vi vote3.Entry.Req.Who, vi (w64 ((w64 ((w64 (k1 + 1)) + 1)) + 1)), vosl 142 2 eRead vote3.Entry.Run.Reads, vosl 144 2 ePut vote3.Entry.Run.Puts, vi vote3.Entry.Run.Val, vi vote3.Entry.Run.Code]
noncomputable def laws_markVoteS_r5 (vote4 : TVote) : List V := [vi vote4.Bal, .b vote4.Entry.None, vi vote4.Entry.Req.Who, vi vote4.Entry.Req.Seq, .own 54 0 2 0 vote4.Entry.Run.Reads.length, vosl 144 2 ePut vote4.Entry.Run.Puts, vi vote4.Entry.Run.Val, vi vote4.Entry.Run.Code]
noncomputable def laws_markVoteS_r6 (vote4 : TVote) : List V := [vi vote4.Bal, .b vote4.Entry.None, vi vote4.Entry.Req.Who, vi vote4.Entry.Req.Seq, .own 54 0 2 0 vote4.Entry.Run.Reads.length, .own 64 0 2 0 vote4.Entry.Run.Puts.length, vi vote4.Entry.Run.Val, vi vote4.Entry.Run.Code]
noncomputable def laws_markVoteS_r7 (vote4 : TVote) (markPutS : Int × List TPut) : List V := [vi vote4.Bal, .b vote4.Entry.None, vi vote4.Entry.Req.Who, vi vote4.Entry.Req.Seq, .own 54 0 2 0 vote4.Entry.Run.Reads.length, .own 64 0 2 0 vote4.Entry.Run.Puts.length, vi markPutS.1, vi vote4.Entry.Run.Code]
noncomputable def laws_markVoteS_r8 (vote4 : TVote) (markPutS : Int × List TPut) : List V := [vi vote4.Bal, .b vote4.Entry.None, vi vote4.Entry.Req.Who, vi vote4.Entry.Req.Seq, .own 54 0 2 0 vote4.Entry.Run.Reads.length, .own 64 0 2 0 vote4.Entry.Run.Puts.length, vi markPutS.1, vi (w64 (markPutS.1 + 1))]
noncomputable def laws_markVoteS_r9 (vote4 : TVote) (markReadS : Int × List TRead) (markPutS : Int × List TPut) : List V := [vi vote4.Bal, .b vote4.Entry.None, vi vote4.Entry.Req.Who, vi vote4.Entry.Req.Seq, vosl 142 2 eRead markReadS.2, .own 64 0 2 0 vote4.Entry.Run.Puts.length, vi markPutS.1, vi (w64 (markPutS.1 + 1))]
noncomputable def laws_markVoteS_r10 (vote4 : TVote) (markReadS : Int × List TRead) (markPutS : Int × List TPut) : List V := [vi vote4.Bal, .b vote4.Entry.None, vi vote4.Entry.Req.Who, vi vote4.Entry.Req.Seq, vosl 142 2 eRead markReadS.2, vosl 144 2 ePut markPutS.2, vi markPutS.1, vi (w64 (markPutS.1 + 1))]
noncomputable def laws_markVoteS_b1 (a1 : List TVote) (k1 : Int) (i : Int) : Option (Stp (Int × List TVote) ((List TVote) × Int × Int) ((List TVote) × Int)) :=
  (bif decide (i < (a1.length : Int)) then
 ((idx a1 i).bind fun vote =>
 ((idx (a1.set i.toNat (TVote.mk k1 vote.Entry)) i).bind fun vote1 =>
 ((idx ((a1.set i.toNat (TVote.mk k1 vote.Entry)).set i.toNat (TVote.mk vote1.Bal (TEntry.mk ((Int.tmod (w64 (k1 + 1)) 3) == 0) vote1.Entry.Req vote1.Entry.Run))) i).bind fun vote2 =>
 ((idx (((a1.set i.toNat (TVote.mk k1 vote.Entry)).set i.toNat (TVote.mk vote1.Bal (TEntry.mk ((Int.tmod (w64 (k1 + 1)) 3) == 0) vote1.Entry.Req vote1.Entry.Run))).set i.toNat (TVote.mk vote2.Bal (TEntry.mk vote2.Entry.None (TReq.mk (w64 ((w64 (k1 + 1)) + 1)) vote2.Entry.Req.Seq) vote2.Entry.Run))) i).bind fun vote3 =>
 ((idx ((((a1.set i.toNat (TVote.mk k1 vote.Entry)).set i.toNat (TVote.mk vote1.Bal (TEntry.mk ((Int.tmod (w64 (k1 + 1)) 3) == 0) vote1.Entry.Req vote1.Entry.Run))).set i.toNat (TVote.mk vote2.Bal (TEntry.mk vote2.Entry.None (TReq.mk (w64 ((w64 (k1 + 1)) + 1)) vote2.Entry.Req.Seq) vote2.Entry.Run))).set i.toNat (TVote.mk vote3.Bal (TEntry.mk vote3.Entry.None (TReq.mk vote3.Entry.Req.Who (w64 ((w64 ((w64 (k1 + 1)) + 1)) + 1))) vote3.Entry.Run))) i).bind fun vote4 =>
 ((laws_markReadS vote4.Entry.Run.Reads (w64 ((w64 ((w64 ((w64 (k1 + 1)) + 1)) + 1)) + 1))).bind fun markReadS =>
 (need (vote4.Entry.Run.Reads.length = markReadS.2.length)
 (((laws_markPutS vote4.Entry.Run.Puts markReadS.1).bind fun markPutS =>
 (need (vote4.Entry.Run.Puts.length = markPutS.2.length)
 (some (Stp.nxt (((((a1.set i.toNat (TVote.mk k1 vote.Entry)).set i.toNat (TVote.mk vote1.Bal (TEntry.mk ((Int.tmod (w64 (k1 + 1)) 3) == 0) vote1.Entry.Req vote1.Entry.Run))).set i.toNat (TVote.mk vote2.Bal (TEntry.mk vote2.Entry.None (TReq.mk (w64 ((w64 (k1 + 1)) + 1)) vote2.Entry.Req.Seq) vote2.Entry.Run))).set i.toNat (TVote.mk vote3.Bal (TEntry.mk vote3.Entry.None (TReq.mk vote3.Entry.Req.Who (w64 ((w64 ((w64 (k1 + 1)) + 1)) + 1))) vote3.Entry.Run))).set i.toNat (TVote.mk vote4.Bal (TEntry.mk vote4.Entry.None vote4.Entry.Req (TRun.mk markReadS.2 markPutS.2 markPutS.1 (w64 (markPutS.1 + 1))))), w64 ((w64 (markPutS.1 + 1)) + 1), w64 (i + 1))))))))))))))
 else
 some (Stp.brk (a1, k1)))
set_option maxRecDepth 20000 in
theorem laws_markVoteS_b1_ok (res : V) (outs : List (Option V)) (x1 : Exc (Int × List TVote) ((List TVote) × Int)) (hb1 : HB cx laws_markVoteS_X res outs x1 laws_markVoteS_k1 (fun s => laws_markVoteS_S1 s.1 s.2)) (hr1 : HR res outs x1 laws_markVoteS_R laws_markVoteS_O) (st1 : Stp (Int × List TVote) ((List TVote) × Int × Int) ((List TVote) × Int)) (hc1 : Cont x1 (fun s : (List TVote) × Int × Int => Fin cx laws_markVoteS_X res outs laws_markVoteS_k3 (laws_markVoteS_S2 s.1 s.2.1 s.2.2)) st1) (a1 : List TVote) (k1 : Int) (i : Int) (h : laws_markVoteS_b1 a1 k1 i = some st1) : Fin cx laws_markVoteS_X res outs laws_markVoteS_k3 (laws_markVoteS_S2 a1 k1 i) :=
  P0 <|
 rg <| cdD 3 h (fun h =>
 rg <| bindD h fun vote hvote h =>
 ixB hvote <| om (Ent.deep false 140 8 a1.length ((a1.map eVote_1).set (0 + i.toNat) (laws_markVoteS_r1 k1 vote)) = edeep 140 8 eVote_1 (a1.set i.toNat (TVote.mk k1 vote.Entry))) (deep_set0 rfl) <| ob (map_idx0 (enc := eVote_1) hvote) <| tl (5, { a := .dst (eVote_1 vote) [none] [none], e := some (edeep 140 8 eVote_1 (a1.set i.toNat (TVote.mk k1 vote.Entry))) }) <| rg2 <| om (3 ≠ (0 : Int)) (by decide) <| bindD h fun vote1 hvote1 h =>
 ob (idx0 hvote1) <| om (i < ((a1.length : Nat) : Int)) (by simpa using idx1 hvote1) <| om (Ent.deep false 140 8 (a1.set i.toNat (TVote.mk k1 vote.Entry)).length (((a1.set i.toNat (TVote.mk k1 vote.Entry)).map eVote_1).set (0 + i.toNat) (laws_markVoteS_r2 k1 vote1)) = edeep 140 8 eVote_1 ((a1.set i.toNat (TVote.mk k1 vote.Entry)).set i.toNat (TVote.mk vote1.Bal (TEntry.mk ((Int.tmod (w64 (k1 + 1)) 3) == 0) vote1.Entry.Req vote1.Entry.Run)))) (deep_set0 rfl) <| ob (map_idx0 (enc := eVote_1) hvote1) <| tl (8, { a := .dst (eVote_1 vote1) [none] [none], e := some (edeep 140 8 eVote_1 ((a1.set i.toNat (TVote.mk k1 vote.Entry)).set i.toNat (TVote.mk vote1.Bal (TEntry.mk ((Int.tmod (w64 (k1 + 1)) 3) == 0) vote1.Entry.Req vote1.Entry.Run)))) }) <| rg2 <| bindD h fun vote2 hvote2 h =>
 ob (idx0 hvote2) <| om (i < ((a1.length : Nat) : Int)) (by simpa using idx1 hvote2) <| om (Ent.deep false 140 8 ((a1.set i.toNat (TVote.mk k1 vote.Entry)).set i.toNat (TVote.mk vote1.Bal (TEntry.mk ((Int.tmod (w64 (k1 + 1)) 3) == 0) vote1.Entry.Req vote1.Entry.Run))).length ((((a1.set i.toNat (TVote.mk k1 vote.Entry)).set i.toNat (TVote.mk vote1.Bal (TEntry.mk ((Int.tmod (w64 (k1 + 1)) 3) == 0) vote1.Entry.Req vote1.Entry.Run))).map eVote_1).set (0 + i.toNat) (laws_markVoteS_r3 k1 vote2)) = edeep 140 8 eVote_1 (((a1.set i.toNat (TVote.mk k1 vote.Entry)).set i.toNat (TVote.mk vote1.Bal (TEntry.mk ((Int.tmod (w64 (k1 + 1)) 3) == 0) vote1.Entry.Req vote1.Entry.Run))).set i.toNat (TVote.mk vote2.Bal (TEntry.mk vote2.Entry.None (TReq.mk (w64 ((w64 (k1 + 1)) + 1)) vote2.Entry.Req.Seq) vote2.Entry.Run)))) (deep_set0 rfl) <| ob (map_idx0 (enc := eVote_1) hvote2) <| tl (7, { a := .dst (eVote_1 vote2) [none] [none], e := some (edeep 140 8 eVote_1 (((a1.set i.toNat (TVote.mk k1 vote.Entry)).set i.toNat (TVote.mk vote1.Bal (TEntry.mk ((Int.tmod (w64 (k1 + 1)) 3) == 0) vote1.Entry.Req vote1.Entry.Run))).set i.toNat (TVote.mk vote2.Bal (TEntry.mk vote2.Entry.None (TReq.mk (w64 ((w64 (k1 + 1)) + 1)) vote2.Entry.Req.Seq) vote2.Entry.Run)))) }) <| rg2 <| bindD h fun vote3 hvote3 h =>
 ob (idx0 hvote3) <| om (i < ((a1.length : Nat) : Int)) (by simpa using idx1 hvote3) <| om (Ent.deep false 140 8 (((a1.set i.toNat (TVote.mk k1 vote.Entry)).set i.toNat (TVote.mk vote1.Bal (TEntry.mk ((Int.tmod (w64 (k1 + 1)) 3) == 0) vote1.Entry.Req vote1.Entry.Run))).set i.toNat (TVote.mk vote2.Bal (TEntry.mk vote2.Entry.None (TReq.mk (w64 ((w64 (k1 + 1)) + 1)) vote2.Entry.Req.Seq) vote2.Entry.Run))).length (((((a1.set i.toNat (TVote.mk k1 vote.Entry)).set i.toNat (TVote.mk vote1.Bal (TEntry.mk ((Int.tmod (w64 (k1 + 1)) 3) == 0) vote1.Entry.Req vote1.Entry.Run))).set i.toNat (TVote.mk vote2.Bal (TEntry.mk vote2.Entry.None (TReq.mk (w64 ((w64 (k1 + 1)) + 1)) vote2.Entry.Req.Seq) vote2.Entry.Run))).map eVote_1).set (0 + i.toNat) (laws_markVoteS_r4 k1 vote3)) = edeep 140 8 eVote_1 ((((a1.set i.toNat (TVote.mk k1 vote.Entry)).set i.toNat (TVote.mk vote1.Bal (TEntry.mk ((Int.tmod (w64 (k1 + 1)) 3) == 0) vote1.Entry.Req vote1.Entry.Run))).set i.toNat (TVote.mk vote2.Bal (TEntry.mk vote2.Entry.None (TReq.mk (w64 ((w64 (k1 + 1)) + 1)) vote2.Entry.Req.Seq) vote2.Entry.Run))).set i.toNat (TVote.mk vote3.Bal (TEntry.mk vote3.Entry.None (TReq.mk vote3.Entry.Req.Who (w64 ((w64 ((w64 (k1 + 1)) + 1)) + 1))) vote3.Entry.Run)))) (deep_set0 rfl) <| ob (map_idx0 (enc := eVote_1) hvote3) <| tl (7, { a := .dst (eVote_1 vote3) [none] [none], e := some (edeep 140 8 eVote_1 ((((a1.set i.toNat (TVote.mk k1 vote.Entry)).set i.toNat (TVote.mk vote1.Bal (TEntry.mk ((Int.tmod (w64 (k1 + 1)) 3) == 0) vote1.Entry.Req vote1.Entry.Run))).set i.toNat (TVote.mk vote2.Bal (TEntry.mk vote2.Entry.None (TReq.mk (w64 ((w64 (k1 + 1)) + 1)) vote2.Entry.Req.Seq) vote2.Entry.Run))).set i.toNat (TVote.mk vote3.Bal (TEntry.mk vote3.Entry.None (TReq.mk vote3.Entry.Req.Who (w64 ((w64 ((w64 (k1 + 1)) + 1)) + 1))) vote3.Entry.Run)))) }) <| rg2 <| bindD h fun vote4 hvote4 h =>
 ob (idx0 hvote4) <| om (i < ((a1.length : Nat) : Int)) (by simpa using idx1 hvote4) <| ob (map_idx0 (enc := eVote_1) hvote4) <| tl (6, { a := .drow (eVote_1 vote4) }) <| cb laws_markReadS_t laws_markReadS_ok 8 false h fun markReadS h =>
 needD h fun e1 h =>
 om (vote4.Entry.Run.Reads.length = vote4.Entry.Run.Reads.length) rfl <| rg <| ob (idx0 hvote4) <| om (i < ((a1.length : Nat) : Int)) (by simpa [e1] using idx1 hvote4) <| om (((((((a1.set i.toNat (TVote.mk k1 vote.Entry)).set i.toNat (TVote.mk vote1.Bal (TEntry.mk ((Int.tmod (w64 (k1 + 1)) 3) == 0) vote1.Entry.Req vote1.Entry.Run))).set i.toNat (TVote.mk vote2.Bal (TEntry.mk vote2.Entry.None (TReq.mk (w64 ((w64 (k1 + 1)) + 1)) vote2.Entry.Req.Seq) vote2.Entry.Run))).set i.toNat (TVote.mk vote3.Bal (TEntry.mk vote3.Entry.None (TReq.mk vote3.Entry.Req.Who (w64 ((w64 ((w64 (k1 + 1)) + 1)) + 1))) vote3.Entry.Run))).map eVote_1).set (0 + i.toNat) (laws_markVoteS_r5 vote4))[0 + i.toNat]? = some (laws_markVoteS_r5 vote4)) (set_get (map_lt0 hvote4)) <| tl (6, { a := .drow (laws_markVoteS_r5 vote4) }) <| cb laws_markPutS_t laws_markPutS_ok 8 false h fun markPutS h =>
 needD h fun e2 h =>
 om (vote4.Entry.Run.Puts.length = vote4.Entry.Run.Puts.length) rfl <| rg <| ob (idx0 hvote4) <| om (i < ((a1.length : Nat) : Int)) (by simpa [e1, e2] using idx1 hvote4) <| om (Ent.deep true 140 8 ((((a1.set i.toNat (TVote.mk k1 vote.Entry)).set i.toNat (TVote.mk vote1.Bal (TEntry.mk ((Int.tmod (w64 (k1 + 1)) 3) == 0) vote1.Entry.Req vote1.Entry.Run))).set i.toNat (TVote.mk vote2.Bal (TEntry.mk vote2.Entry.None (TReq.mk (w64 ((w64 (k1 + 1)) + 1)) vote2.Entry.Req.Seq) vote2.Entry.Run))).set i.toNat (TVote.mk vote3.Bal (TEntry.mk vote3.Entry.None (TReq.mk vote3.Entry.Req.Who (w64 ((w64 ((w64 (k1 + 1)) + 1)) + 1))) vote3.Entry.Run))).length ((((((((a1.set i.toNat (TVote.mk k1 vote.Entry)).set i.toNat (TVote.mk vote1.Bal (TEntry.mk ((Int.tmod (w64 (k1 + 1)) 3) == 0) vote1.Entry.Req vote1.Entry.Run))).set i.toNat (TVote.mk vote2.Bal (TEntry.mk vote2.Entry.None (TReq.mk (w64 ((w64 (k1 + 1)) + 1)) vote2.Entry.Req.Seq) vote2.Entry.Run))).set i.toNat (TVote.mk vote3.Bal (TEntry.mk vote3.Entry.None (TReq.mk vote3.Entry.Req.Who (w64 ((w64 ((w64 (k1 + 1)) + 1)) + 1))) vote3.Entry.Run))).map eVote_1).set (0 + i.toNat) (laws_markVoteS_r5 vote4)).set (0 + i.toNat) (laws_markVoteS_r6 vote4)).set (0 + i.toNat) (laws_markVoteS_r7 vote4 markPutS)) = Ent.deep true 140 8 ((((a1.set i.toNat (TVote.mk k1 vote.Entry)).set i.toNat (TVote.mk vote1.Bal (TEntry.mk ((Int.tmod (w64 (k1 + 1)) 3) == 0) vote1.Entry.Req vote1.Entry.Run))).set i.toNat (TVote.mk vote2.Bal (TEntry.mk vote2.Entry.None (TReq.mk (w64 ((w64 (k1 + 1)) + 1)) vote2.Entry.Req.Seq) vote2.Entry.Run))).set i.toNat (TVote.mk vote3.Bal (TEntry.mk vote3.Entry.None (TReq.mk vote3.Entry.Req.Who (w64 ((w64 ((w64 (k1 + 1)) + 1)) + 1))) vote3.Entry.Run))).length ((((((a1.set i.toNat (TVote.mk k1 vote.Entry)).set i.toNat (TVote.mk vote1.Bal (TEntry.mk ((Int.tmod (w64 (k1 + 1)) 3) == 0) vote1.Entry.Req vote1.Entry.Run))).set i.toNat (TVote.mk vote2.Bal (TEntry.mk vote2.Entry.None (TReq.mk (w64 ((w64 (k1 + 1)) + 1)) vote2.Entry.Req.Seq) vote2.Entry.Run))).set i.toNat (TVote.mk vote3.Bal (TEntry.mk vote3.Entry.None (TReq.mk vote3.Entry.Req.Who (w64 ((w64 ((w64 (k1 + 1)) + 1)) + 1))) vote3.Entry.Run))).map eVote_1).set (0 + i.toNat) (laws_markVoteS_r7 vote4 markPutS))) (by simp only [List.set_set]) <| om ((((((((a1.set i.toNat (TVote.mk k1 vote.Entry)).set i.toNat (TVote.mk vote1.Bal (TEntry.mk ((Int.tmod (w64 (k1 + 1)) 3) == 0) vote1.Entry.Req vote1.Entry.Run))).set i.toNat (TVote.mk vote2.Bal (TEntry.mk vote2.Entry.None (TReq.mk (w64 ((w64 (k1 + 1)) + 1)) vote2.Entry.Req.Seq) vote2.Entry.Run))).set i.toNat (TVote.mk vote3.Bal (TEntry.mk vote3.Entry.None (TReq.mk vote3.Entry.Req.Who (w64 ((w64 ((w64 (k1 + 1)) + 1)) + 1))) vote3.Entry.Run))).map eVote_1).set (0 + i.toNat) (laws_markVoteS_r5 vote4)).set (0 + i.toNat) (laws_markVoteS_r6 vote4))[0 + i.toNat]? = some (laws_markVoteS_r6 vote4)) (set_get (lt_set (map_lt0 hvote4))) <| tl (7, { a := .dst (laws_markVoteS_r6 vote4) [none] [none], e := some (.deep true 140 8 ((((a1.set i.toNat (TVote.mk k1 vote.Entry)).set i.toNat (TVote.mk vote1.Bal (TEntry.mk ((Int.tmod (w64 (k1 + 1)) 3) == 0) vote1.Entry.Req vote1.Entry.Run))).set i.toNat (TVote.mk vote2.Bal (TEntry.mk vote2.Entry.None (TReq.mk (w64 ((w64 (k1 + 1)) + 1)) vote2.Entry.Req.Seq) vote2.Entry.Run))).set i.toNat (TVote.mk vote3.Bal (TEntry.mk vote3.Entry.None (TReq.mk vote3.Entry.Req.Who (w64 ((w64 ((w64 (k1 + 1)) + 1)) + 1))) vote3.Entry.Run))).length ((((((a1.set i.toNat (TVote.mk k1 vote.Entry)).set i.toNat (TVote.mk vote1.Bal (TEntry.mk ((Int.tmod (w64 (k1 + 1)) 3) == 0) vote1.Entry.Req vote1.Entry.Run))).set i.toNat (TVote.mk vote2.Bal (TEntry.mk vote2.Entry.None (TReq.mk (w64 ((w64 (k1 + 1)) + 1)) vote2.Entry.Req.Seq) vote2.Entry.Run))).set i.toNat (TVote.mk vote3.Bal (TEntry.mk vote3.Entry.None (TReq.mk vote3.Entry.Req.Who (w64 ((w64 ((w64 (k1 + 1)) + 1)) + 1))) vote3.Entry.Run))).map eVote_1).set (0 + i.toNat) (laws_markVoteS_r7 vote4 markPutS))) }) <| rg2 <| ob (idx0 hvote4) <| om (i < ((a1.length : Nat) : Int)) (by simpa [e1, e2] using idx1 hvote4) <| om (Ent.deep true 140 8 ((((a1.set i.toNat (TVote.mk k1 vote.Entry)).set i.toNat (TVote.mk vote1.Bal (TEntry.mk ((Int.tmod (w64 (k1 + 1)) 3) == 0) vote1.Entry.Req vote1.Entry.Run))).set i.toNat (TVote.mk vote2.Bal (TEntry.mk vote2.Entry.None (TReq.mk (w64 ((w64 (k1 + 1)) + 1)) vote2.Entry.Req.Seq) vote2.Entry.Run))).set i.toNat (TVote.mk vote3.Bal (TEntry.mk vote3.Entry.None (TReq.mk vote3.Entry.Req.Who (w64 ((w64 ((w64 (k1 + 1)) + 1)) + 1))) vote3.Entry.Run))).length (((((((a1.set i.toNat (TVote.mk k1 vote.Entry)).set i.toNat (TVote.mk vote1.Bal (TEntry.mk ((Int.tmod (w64 (k1 + 1)) 3) == 0) vote1.Entry.Req vote1.Entry.Run))).set i.toNat (TVote.mk vote2.Bal (TEntry.mk vote2.Entry.None (TReq.mk (w64 ((w64 (k1 + 1)) + 1)) vote2.Entry.Req.Seq) vote2.Entry.Run))).set i.toNat (TVote.mk vote3.Bal (TEntry.mk vote3.Entry.None (TReq.mk vote3.Entry.Req.Who (w64 ((w64 ((w64 (k1 + 1)) + 1)) + 1))) vote3.Entry.Run))).map eVote_1).set (0 + i.toNat) (laws_markVoteS_r7 vote4 markPutS)).set (0 + i.toNat) (laws_markVoteS_r8 vote4 markPutS)) = Ent.deep true 140 8 ((((a1.set i.toNat (TVote.mk k1 vote.Entry)).set i.toNat (TVote.mk vote1.Bal (TEntry.mk ((Int.tmod (w64 (k1 + 1)) 3) == 0) vote1.Entry.Req vote1.Entry.Run))).set i.toNat (TVote.mk vote2.Bal (TEntry.mk vote2.Entry.None (TReq.mk (w64 ((w64 (k1 + 1)) + 1)) vote2.Entry.Req.Seq) vote2.Entry.Run))).set i.toNat (TVote.mk vote3.Bal (TEntry.mk vote3.Entry.None (TReq.mk vote3.Entry.Req.Who (w64 ((w64 ((w64 (k1 + 1)) + 1)) + 1))) vote3.Entry.Run))).length ((((((a1.set i.toNat (TVote.mk k1 vote.Entry)).set i.toNat (TVote.mk vote1.Bal (TEntry.mk ((Int.tmod (w64 (k1 + 1)) 3) == 0) vote1.Entry.Req vote1.Entry.Run))).set i.toNat (TVote.mk vote2.Bal (TEntry.mk vote2.Entry.None (TReq.mk (w64 ((w64 (k1 + 1)) + 1)) vote2.Entry.Req.Seq) vote2.Entry.Run))).set i.toNat (TVote.mk vote3.Bal (TEntry.mk vote3.Entry.None (TReq.mk vote3.Entry.Req.Who (w64 ((w64 ((w64 (k1 + 1)) + 1)) + 1))) vote3.Entry.Run))).map eVote_1).set (0 + i.toNat) (laws_markVoteS_r8 vote4 markPutS))) (by simp only [List.set_set]) <| om (((((((a1.set i.toNat (TVote.mk k1 vote.Entry)).set i.toNat (TVote.mk vote1.Bal (TEntry.mk ((Int.tmod (w64 (k1 + 1)) 3) == 0) vote1.Entry.Req vote1.Entry.Run))).set i.toNat (TVote.mk vote2.Bal (TEntry.mk vote2.Entry.None (TReq.mk (w64 ((w64 (k1 + 1)) + 1)) vote2.Entry.Req.Seq) vote2.Entry.Run))).set i.toNat (TVote.mk vote3.Bal (TEntry.mk vote3.Entry.None (TReq.mk vote3.Entry.Req.Who (w64 ((w64 ((w64 (k1 + 1)) + 1)) + 1))) vote3.Entry.Run))).map eVote_1).set (0 + i.toNat) (laws_markVoteS_r7 vote4 markPutS))[0 + i.toNat]? = some (laws_markVoteS_r7 vote4 markPutS)) (set_get (map_lt0 hvote4)) <| tl (7, { a := .dst (laws_markVoteS_r7 vote4 markPutS) [none] [none], e := some (.deep true 140 8 ((((a1.set i.toNat (TVote.mk k1 vote.Entry)).set i.toNat (TVote.mk vote1.Bal (TEntry.mk ((Int.tmod (w64 (k1 + 1)) 3) == 0) vote1.Entry.Req vote1.Entry.Run))).set i.toNat (TVote.mk vote2.Bal (TEntry.mk vote2.Entry.None (TReq.mk (w64 ((w64 (k1 + 1)) + 1)) vote2.Entry.Req.Seq) vote2.Entry.Run))).set i.toNat (TVote.mk vote3.Bal (TEntry.mk vote3.Entry.None (TReq.mk vote3.Entry.Req.Who (w64 ((w64 ((w64 (k1 + 1)) + 1)) + 1))) vote3.Entry.Run))).length ((((((a1.set i.toNat (TVote.mk k1 vote.Entry)).set i.toNat (TVote.mk vote1.Bal (TEntry.mk ((Int.tmod (w64 (k1 + 1)) 3) == 0) vote1.Entry.Req vote1.Entry.Run))).set i.toNat (TVote.mk vote2.Bal (TEntry.mk vote2.Entry.None (TReq.mk (w64 ((w64 (k1 + 1)) + 1)) vote2.Entry.Req.Seq) vote2.Entry.Run))).set i.toNat (TVote.mk vote3.Bal (TEntry.mk vote3.Entry.None (TReq.mk vote3.Entry.Req.Who (w64 ((w64 ((w64 (k1 + 1)) + 1)) + 1))) vote3.Entry.Run))).map eVote_1).set (0 + i.toNat) (laws_markVoteS_r8 vote4 markPutS))) }) <| rg2 <| (nxtD h hc1 fun hI => om (((((((a1.set i.toNat (TVote.mk k1 vote.Entry)).set i.toNat (TVote.mk vote1.Bal (TEntry.mk ((Int.tmod (w64 (k1 + 1)) 3) == 0) vote1.Entry.Req vote1.Entry.Run))).set i.toNat (TVote.mk vote2.Bal (TEntry.mk vote2.Entry.None (TReq.mk (w64 ((w64 (k1 + 1)) + 1)) vote2.Entry.Req.Seq) vote2.Entry.Run))).set i.toNat (TVote.mk vote3.Bal (TEntry.mk vote3.Entry.None (TReq.mk vote3.Entry.Req.Who (w64 ((w64 ((w64 (k1 + 1)) + 1)) + 1))) vote3.Entry.Run))).map eVote_1).set (0 + i.toNat) (laws_markVoteS_r8 vote4 markPutS))[0 + i.toNat]? = some (laws_markVoteS_r8 vote4 markPutS)) (set_get (map_lt0 hvote4)) <| om (vote4.Entry.Run.Reads.length = markReadS.2.length) (by first | (simp; done) | (simp [e1, e2]; done)) <| om ((((((((a1.set i.toNat (TVote.mk k1 vote.Entry)).set i.toNat (TVote.mk vote1.Bal (TEntry.mk ((Int.tmod (w64 (k1 + 1)) 3) == 0) vote1.Entry.Req vote1.Entry.Run))).set i.toNat (TVote.mk vote2.Bal (TEntry.mk vote2.Entry.None (TReq.mk (w64 ((w64 (k1 + 1)) + 1)) vote2.Entry.Req.Seq) vote2.Entry.Run))).set i.toNat (TVote.mk vote3.Bal (TEntry.mk vote3.Entry.None (TReq.mk vote3.Entry.Req.Who (w64 ((w64 ((w64 (k1 + 1)) + 1)) + 1))) vote3.Entry.Run))).map eVote_1).set (0 + i.toNat) (laws_markVoteS_r8 vote4 markPutS)).set (0 + i.toNat) (laws_markVoteS_r9 vote4 markReadS markPutS))[0 + i.toNat]? = some (laws_markVoteS_r9 vote4 markReadS markPutS)) (set_get (lt_set (map_lt0 hvote4))) <| om (vote4.Entry.Run.Puts.length = markPutS.2.length) (by first | (simp; done) | (simp [e1, e2]; done)) <| om ((((((((a1.set i.toNat (TVote.mk k1 vote.Entry)).set i.toNat (TVote.mk vote1.Bal (TEntry.mk ((Int.tmod (w64 (k1 + 1)) 3) == 0) vote1.Entry.Req vote1.Entry.Run))).set i.toNat (TVote.mk vote2.Bal (TEntry.mk vote2.Entry.None (TReq.mk (w64 ((w64 (k1 + 1)) + 1)) vote2.Entry.Req.Seq) vote2.Entry.Run))).set i.toNat (TVote.mk vote3.Bal (TEntry.mk vote3.Entry.None (TReq.mk vote3.Entry.Req.Who (w64 ((w64 ((w64 (k1 + 1)) + 1)) + 1))) vote3.Entry.Run))).map eVote_1).set (0 + i.toNat) (laws_markVoteS_r8 vote4 markPutS)).set (0 + i.toNat) (laws_markVoteS_r9 vote4 markReadS markPutS)).set (0 + i.toNat) (laws_markVoteS_r10 vote4 markReadS markPutS) = (((((a1.set i.toNat (TVote.mk k1 vote.Entry)).set i.toNat (TVote.mk vote1.Bal (TEntry.mk ((Int.tmod (w64 (k1 + 1)) 3) == 0) vote1.Entry.Req vote1.Entry.Run))).set i.toNat (TVote.mk vote2.Bal (TEntry.mk vote2.Entry.None (TReq.mk (w64 ((w64 (k1 + 1)) + 1)) vote2.Entry.Req.Seq) vote2.Entry.Run))).set i.toNat (TVote.mk vote3.Bal (TEntry.mk vote3.Entry.None (TReq.mk vote3.Entry.Req.Who (w64 ((w64 ((w64 (k1 + 1)) + 1)) + 1))) vote3.Entry.Run))).set i.toNat (TVote.mk vote4.Bal (TEntry.mk vote4.Entry.None vote4.Entry.Req (TRun.mk markReadS.2 markPutS.2 markPutS.1 (w64 (markPutS.1 + 1)))))).map eVote_1) (shut_more (shut_more (shut_set0 rfl))) <| om (NoRef ((((((a1.set i.toNat (TVote.mk k1 vote.Entry)).set i.toNat (TVote.mk vote1.Bal (TEntry.mk ((Int.tmod (w64 (k1 + 1)) 3) == 0) vote1.Entry.Req vote1.Entry.Run))).set i.toNat (TVote.mk vote2.Bal (TEntry.mk vote2.Entry.None (TReq.mk (w64 ((w64 (k1 + 1)) + 1)) vote2.Entry.Req.Seq) vote2.Entry.Run))).set i.toNat (TVote.mk vote3.Bal (TEntry.mk vote3.Entry.None (TReq.mk vote3.Entry.Req.Who (w64 ((w64 ((w64 (k1 + 1)) + 1)) + 1))) vote3.Entry.Run))).set i.toNat (TVote.mk vote4.Bal (TEntry.mk vote4.Entry.None vote4.Entry.Req (TRun.mk markReadS.2 markPutS.2 markPutS.1 (w64 (markPutS.1 + 1)))))).map eVote_1)) (NoRef.map eVote_1_nr _) <| om (((((a1.set i.toNat (TVote.mk k1 vote.Entry)).set i.toNat (TVote.mk vote1.Bal (TEntry.mk ((Int.tmod (w64 (k1 + 1)) 3) == 0) vote1.Entry.Req vote1.Entry.Run))).set i.toNat (TVote.mk vote2.Bal (TEntry.mk vote2.Entry.None (TReq.mk (w64 ((w64 (k1 + 1)) + 1)) vote2.Entry.Req.Seq) vote2.Entry.Run))).set i.toNat (TVote.mk vote3.Bal (TEntry.mk vote3.Entry.None (TReq.mk vote3.Entry.Req.Who (w64 ((w64 ((w64 (k1 + 1)) + 1)) + 1))) vote3.Entry.Run))).length = (((((a1.set i.toNat (TVote.mk k1 vote.Entry)).set i.toNat (TVote.mk vote1.Bal (TEntry.mk ((Int.tmod (w64 (k1 + 1)) 3) == 0) vote1.Entry.Req vote1.Entry.Run))).set i.toNat (TVote.mk vote2.Bal (TEntry.mk vote2.Entry.None (TReq.mk (w64 ((w64 (k1 + 1)) + 1)) vote2.Entry.Req.Seq) vote2.Entry.Run))).set i.toNat (TVote.mk vote3.Bal (TEntry.mk vote3.Entry.None (TReq.mk vote3.Entry.Req.Who (w64 ((w64 ((w64 (k1 + 1)) + 1)) + 1))) vote3.Entry.Run))).set i.toNat (TVote.mk vote4.Bal (TEntry.mk vote4.Entry.None vote4.Entry.Req (TRun.mk markReadS.2 markPutS.2 markPutS.1 (w64 (markPutS.1 + 1)))))).length) (by simp) <| om ((.own 0 0 8 0 a1.length : V) = .own 0 0 8 0 (((((a1.set i.toNat (TVote.mk k1 vote.Entry)).set i.toNat (TVote.mk vote1.Bal (TEntry.mk ((Int.tmod (w64 (k1 + 1)) 3) == 0) vote1.Entry.Req vote1.Entry.Run))).set i.toNat (TVote.mk vote2.Bal (TEntry.mk vote2.Entry.None (TReq.mk (w64 ((w64 (k1 + 1)) + 1)) vote2.Entry.Req.Seq) vote2.Entry.Run))).set i.toNat (TVote.mk vote3.Bal (TEntry.mk vote3.Entry.None (TReq.mk vote3.Entry.Req.Who (w64 ((w64 ((w64 (k1 + 1)) + 1)) + 1))) vote3.Entry.Run))).set i.toNat (TVote.mk vote4.Bal (TEntry.mk vote4.Entry.None vote4.Entry.Req (TRun.mk markReadS.2 markPutS.2 markPutS.1 (w64 (markPutS.1 + 1)))))).length) (by first | (simp; done) | (simp [e1, e2]; done)) <| sg [.plug 0 0 (0 + i.toNat) 4 (laws_markVoteS_r8 vote4 markPutS) 142, .plug 0 0 (0 + i.toNat) 5 (laws_markVoteS_r9 vote4 markReadS markPutS) 144, .shut 0 0 (((((a1.set i.toNat (TVote.mk k1 vote.Entry)).set i.toNat (TVote.mk vote1.Bal (TEntry.mk ((Int.tmod (w64 (k1 + 1)) 3) == 0) vote1.Entry.Req vote1.Entry.Run))).set i.toNat (TVote.mk vote2.Bal (TEntry.mk vote2.Entry.None (TReq.mk (w64 ((w64 (k1 + 1)) + 1)) vote2.Entry.Req.Seq) vote2.Entry.Run))).set i.toNat (TVote.mk vote3.Bal (TEntry.mk vote3.Entry.None (TReq.mk vote3.Entry.Req.Who (w64 ((w64 ((w64 (k1 + 1)) + 1)) + 1))) vote3.Entry.Run))).set i.toNat (TVote.mk vote4.Bal (TEntry.mk vote4.Entry.None vote4.Entry.Req (TRun.mk markReadS.2 markPutS.2 markPutS.1 (w64 (markPutS.1 + 1)))))).length ((((((a1.set i.toNat (TVote.mk k1 vote.Entry)).set i.toNat (TVote.mk vote1.Bal (TEntry.mk ((Int.tmod (w64 (k1 + 1)) 3) == 0) vote1.Entry.Req vote1.Entry.Run))).set i.toNat (TVote.mk vote2.Bal (TEntry.mk vote2.Entry.None (TReq.mk (w64 ((w64 (k1 + 1)) + 1)) vote2.Entry.Req.Seq) vote2.Entry.Run))).set i.toNat (TVote.mk vote3.Bal (TEntry.mk vote3.Entry.None (TReq.mk vote3.Entry.Req.Who (w64 ((w64 ((w64 (k1 + 1)) + 1)) + 1))) vote3.Entry.Run))).set i.toNat (TVote.mk vote4.Bal (TEntry.mk vote4.Entry.None vote4.Entry.Req (TRun.mk markReadS.2 markPutS.2 markPutS.1 (w64 (markPutS.1 + 1)))))).map eVote_1), .is (.tmp 0) (.own 0 0 8 0 (((((a1.set i.toNat (TVote.mk k1 vote.Entry)).set i.toNat (TVote.mk vote1.Bal (TEntry.mk ((Int.tmod (w64 (k1 + 1)) 3) == 0) vote1.Entry.Req vote1.Entry.Run))).set i.toNat (TVote.mk vote2.Bal (TEntry.mk vote2.Entry.None (TReq.mk (w64 ((w64 (k1 + 1)) + 1)) vote2.Entry.Req.Seq) vote2.Entry.Run))).set i.toNat (TVote.mk vote3.Bal (TEntry.mk vote3.Entry.None (TReq.mk vote3.Entry.Req.Who (w64 ((w64 ((w64 (k1 + 1)) + 1)) + 1))) vote3.Entry.Run))).set i.toNat (TVote.mk vote4.Bal (TEntry.mk vote4.Entry.None vote4.Entry.Req (TRun.mk markReadS.2 markPutS.2 markPutS.1 (w64 (markPutS.1 + 1)))))).length)] [0, 1, 5] [] hI)) (fun h =>
 (brkD h hc1 fun e => sg [] [1] [] (hb1 _ e)))
noncomputable def laws_markVoteS (a : List TVote) (k : Int) : Option (Int × List TVote) :=
  ((loop (fun s : (List TVote) × Int × Int => laws_markVoteS_b1 s.1 s.2.1 s.2.2) (a, k, 0)).bind fun x => x.go (fun r => some r) fun s => laws_markVoteS_k2 s.1 s.2)
theorem laws_markVoteS_ok {a : List TVote} {k : Int} (r : Int × List TVote) (h : laws_markVoteS a k = some r) : ACalls cx.P 43 [vdsl 140 8 eVote_1 a, vi k] (laws_markVoteS_R r) (laws_markVoteS_O r) :=
  ACalls.of (cx := cx) (X := laws_markVoteS_X) (c := laws_markVoteS_c) Try.func43 (by kernel_rfl) (by kernel_rfl) (by kernel_rfl) (P0 <|
 rg2 <| loopJ h fun x hl hr hb => sg [] [0, 1, 5] [] (loopD (I := fun s : (List TVote) × Int × Int => Fin cx laws_markVoteS_X (laws_markVoteS_R r) (laws_markVoteS_O r) laws_markVoteS_k3 (laws_markVoteS_S2 s.1 s.2.1 s.2.2)) hl fun s st h hc => laws_markVoteS_b1_ok _ _ x (fun s e => laws_markVoteS_k2_ok r s.1 s.2 (hb s e)) (fun v e => ⟨congrArg laws_markVoteS_R (Option.some.inj (hr v e)).symm, congrArg laws_markVoteS_O (Option.some.inj (hr v e)).symm⟩) st hc s.1 s.2.1 s.2.2 h))

/-! ### laws_markEntryS -/
noncomputable def laws_markEntryS_c : Code := bodyOf Try.f44
noncomputable def laws_markEntryS_X : Sig := { f := 44, fn := Try.f44, rms := [.val [] []], oms := [some (0, .row), none] }
noncomputable def laws_markEntryS_R (r : Int × List TEntry) : V := vi r.1
noncomputable def laws_markEntryS_O (r : Int × List TEntry) : List (Option V) := [some (vdsl 100 7 eEntry_1 r.2), none]
noncomputable def laws_markEntryS_t (i : Nat) (fr : Bool) (r : Int × List TEntry) : Nat × Tell := (i, { a := .call [.row, .val [] []] fr (laws_markEntryS_R r) (laws_markEntryS_O r) })
noncomputable def laws_markEntryS_k1 : List Item := posI 2000 3 [false] [.code laws_markEntryS_c]
noncomputable def laws_markEntryS_S1 (w : List TEntry) (k2 : Int) : St := ⟨(bs 1 (vi k2 :: (bs 68 []))), [some [edeep 100 7 eEntry_1 w]]⟩
noncomputable def laws_markEntryS_k2 (w : List TEntry) (k2 : Int) : Option (Int × List TEntry) :=
  some (k2, w)
theorem laws_markEntryS_k2_ok (r : Int × List TEntry) (w : List TEntry) (k2 : Int) (h : laws_markEntryS_k2 w k2 = some r) : Fin cx laws_markEntryS_X (laws_markEntryS_R r) (laws_markEntryS_O r) laws_markEntryS_k1 (laws_markEntryS_S1 w k2) :=
  P0 <|
 rg <| om (w.length = w.length) rfl <| fe Try.func44 h
noncomputable def laws_markEntryS_k3 : List Item := posI 2000 2 [] [.code laws_markEntryS_c]
noncomputable def laws_markEntryS_S2 (a1 : List TEntry) (k1 : Int) (i : Int) : St := ⟨(.own 0 0 7 0 a1.length :: (vi k1 :: (bs 3 (vi i :: (bs 64 []))))), [some [edeep 100 7 eEntry_1 a1]]⟩
noncomputable def laws_markEntryS_r1 (k1 : Int) (entry : TEntry) : List V := [.b ((Int.tmod k1 3) == 0), vi entry.Req.Who, vi entry.Req.Seq, vosl 142 2 eRead entry.Run.Reads, vosl 144 2 ePut entry.Run.Puts, vi entry.Run.Val, vi entry.Run.Code]
noncomputable def laws_markEntryS_r2 (k1 : Int) (entry1 : TEntry) : List V := [.b entry1.None, vi (w64 (k1 + 1)), vi entry1.Req.Seq, vosl 142 2 eRead entry1.Run.Reads, vosl 144 2 ePut entry1.Run.Puts, vi entry1.Run.Val, vi entry1.Run.Code]
noncomputable def laws_markEntryS_r3 (k1 : Int) (entry2 : TEntry) : List V := [.b entry2.None, vi entry2.Req.Who, vi (w64 ((w64 (k1 + 1)) + 1)), vosl 142 2 eRead entry2.Run.Reads, vosl 144 2 ePut entry2.Run.Puts, vi entry2.Run.Val, vi entry2.Run.Code]
noncomputable def laws_markEntryS_r4 (entry3 : TEntry) : List V := [.b entry3.None, vi entry3.Req.Who, vi entry3.Req.Seq, .own 41 0 2 0 entry3.Run.Reads.length, vosl 144 2 ePut entry3.Run.Puts, vi entry3.Run.Val, vi entry3.Run.Code]
noncomputable def laws_markEntryS_r5 (entry3 : TEntry) : List V := [.b entry3.None, vi entry3.Req.Who, vi entry3.Req.Seq, .own 41 0 2 0 entry3.Run.Reads.length, .own 50 0 2 0 entry3.Run.Puts.length, vi entry3.Run.Val, vi entry3.Run.Code]
noncomputable def laws_markEntryS_r6 (entry3 : TEntry) (markPutS : Int × List TPut) : List V := [.b entry3.None, vi entry3.Req.Who, vi entry3.Req.Seq, .own 41 0 2 0 entry3.Run.Reads.length, .own 50 0 2 0 entry3.Run.Puts.length, vi markPutS.1, vi entry3.Run.Code]
noncomputable def laws_markEntryS_r7 (entry3 : TEntry) (markPutS : Int × List TPut) : List V := [.b entry3.None, vi entry3.Req.Who, vi entry3.Req.Seq, .own 41 0 2 0 entry3.Run.Reads.length, .own 50 0 2 0 entry3.Run.Puts.length, vi markPutS.1, vi (w64 (markPutS.1 + 1))]
noncomputable def laws_markEntryS_r8 (entry3 : TEntry) (markReadS : Int × List TRead) (markPutS : Int × List TPut) : List V := [.b entry3.None, vi entry3.Req.Who, vi entry3.Req.Seq, vosl 142 2 eRead markReadS.2, .own 50 0 2 0 entry3.Run.Puts.length, vi markPutS.1, vi (w64 (markPutS.1 + 1))]
noncomputable def laws_markEntryS_r9 (entry3 : TEntry) (markReadS : Int × List TRead) (markPutS : Int × List TPut) : List V := [.b entry3.None, vi entry3.Req.Who, vi entry3.Req.Seq, vosl 142 2 eRead markReadS.2, vosl 144 2 ePut markPutS.2, vi markPutS.1, vi (w64 (markPutS.1 + 1))]
noncomputable def laws_markEntryS_b1 (a1 : List TEntry) (k1 : Int) (i : Int) : Option (Stp (Int × List TEntry) ((List TEntry) × Int × Int) ((List TEntry) × Int)) :=
  (bif decide (i < (a1.length : Int)) then
 ((idx a1 i).bind fun entry =>
 ((idx (a1.set i.toNat (TEntry.mk ((Int.tmod k1 3) == 0) entry.Req entry.Run)) i).bind fun entry1 =>
 ((idx ((a1.set i.toNat (TEntry.mk ((Int.tmod k1 3) == 0) entry.Req entry.Run)).set i.toNat (TEntry.mk entry1.None (TReq.mk (w64 (k1 + 1)) entry1.Req.Seq) entry1.Run)) i).bind fun entry2 =>
 ((idx (((a1.set i.toNat (TEntry.mk ((Int.tmod k1 3) == 0) entry.Req entry.Run)).set i.toNat (TEntry.mk entry1.None (TReq.mk (w64 (k1 + 1)) entry1.Req.Seq) entry1.Run)).set i.toNat (TEntry.mk entry2.None (TReq.mk entry2.Req.Who (w64 ((w64 (k1 + 1)) + 1))) entry2.Run)) i).bind fun entry3 =>
 ((laws_markReadS entry3.Run.Reads (w64 ((w64 ((w64 (k1 + 1)) + 1)) + 1))).bind fun markReadS =>
 (need (entry3.Run.Reads.length = markReadS.2.length)
 (((laws_markPutS entry3.Run.Puts markReadS.1).bind fun markPutS =>
 (need (entry3.Run.Puts.length = markPutS.2.length)
 (some (Stp.nxt ((((a1.set i.toNat (TEntry.mk ((Int.tmod k1 3) == 0) entry.Req entry.Run)).set i.toNat (TEntry.mk entry1.None (TReq.mk (w64 (k1 + 1)) entry1.Req.Seq) entry1.Run)).set i.toNat (TEntry.mk entry2.None (TReq.mk entry2.Req.Who (w64 ((w64 (k1 + 1)) + 1))) entry2.Run)).set i.toNat (TEntry.mk entry3.None entry3.Req (TRun.mk markReadS.2 markPutS.2 markPutS.1 (w64 (markPutS.1 + 1)))), w64 ((w64 (markPutS.1 + 1)) + 1), w64 (i + 1)))))))))))))
 else
 some (Stp.brk (a1, k1)))
set_option maxRecDepth 20000 in
theorem laws_markEntryS_b1_ok (res : V) (outs : List (Option V)) (x1 : Exc (Int × List TEntry) ((List TEntry) × Int)) (hb1 : HB cx laws_markEntryS_X res outs x1 laws_markEntryS_k1 (fun s => laws_markEntryS_S1 s.1 s.2)) (hr1 : HR res outs x1 laws_markEntryS_R laws_markEntryS_O) (st1 : Stp (Int × List TEntry) ((List TEntry) × Int × Int) ((List TEntry) × Int)) (hc1 : Cont x1 (fun s : (List TEntry) × Int × Int => Fin cx laws_markEntryS_X res outs laws_markEntryS_k3 (laws_markEntryS_S2 s.1 s.2.1 s.2.2)) st1) (a1 : List TEntry) (k1 : Int) (i : Int) (h : laws_markEntryS_b1 a1 k1 i = some st1) : Fin cx laws_markEntryS_X res outs laws_markEntryS_k3 (laws_markEntryS_S2 a1 k1 i) :=
  P0 <|
 rg <| cdD 3 h (fun h =>
 rg <| om (3 ≠ (0 : Int)) (by decide) <| bindD h fun entry hentry h =>
 ixB hentry <| om (Ent.deep false 100 7 a1.length ((a1.map eEntry_1).set (0 + i.toNat) (laws_markEntryS_r1 k1 entry)) = edeep 100 7 eEntry_1 (a1.set i.toNat (TEntry.mk ((Int.tmod k1 3) == 0) entry.Req entry.Run))) (deep_set0 rfl) <| ob (map_idx0 (enc := eEntry_1) hentry) <| tl (7, { a := .dst (eEntry_1 entry) [none] [none], e := some (edeep 100 7 eEntry_1 (a1.set i.toNat (TEntry.mk ((Int.tmod k1 3) == 0) entry.Req entry.Run))) }) <| rg2 <| bindD h fun entry1 hentry1 h =>
 ob (idx0 hentry1) <| om (i < ((a1.length : Nat) : Int)) (by simpa using idx1 hentry1) <| om (Ent.deep false 100 7 (a1.set i.toNat (TEntry.mk ((Int.tmod k1 3) == 0) entry.Req entry.Run)).length (((a1.set i.toNat (TEntry.mk ((Int.tmod k1 3) == 0) entry.Req entry.Run)).map eEntry_1).set (0 + i.toNat) (laws_markEntryS_r2 k1 entry1)) = edeep 100 7 eEntry_1 ((a1.set i.toNat (TEntry.mk ((Int.tmod k1 3) == 0) entry.Req entry.Run)).set i.toNat (TEntry.mk entry1.None (TReq.mk (w64 (k1 + 1)) entry1.Req.Seq) entry1.Run))) (deep_set0 rfl) <| ob (map_idx0 (enc := eEntry_1) hentry1) <| tl (6, { a := .dst (eEntry_1 entry1) [none] [none], e := some (edeep 100 7 eEntry_1 ((a1.set i.toNat (TEntry.mk ((Int.tmod k1 3) == 0) entry.Req entry.Run)).set i.toNat (TEntry.mk entry1.None (TReq.mk (w64 (k1 + 1)) entry1.Req.Seq) entry1.Run))) }) <| rg2 <| bindD h fun entry2 hentry2 h =>
 ob (idx0 hentry2) <| om (i < ((a1.length : Nat) : Int)) (by simpa using idx1 hentry2) <| om (Ent.deep false 100 7 ((a1.set i.toNat (TEntry.mk ((Int.tmod k1 3) == 0) entry.Req entry.Run)).set i.toNat (TEntry.mk entry1.None (TReq.mk (w64 (k1 + 1)) entry1.Req.Seq) entry1.Run)).length ((((a1.set i.toNat (TEntry.mk ((Int.tmod k1 3) == 0) entry.Req entry.Run)).set i.toNat (TEntry.mk entry1.None (TReq.mk (w64 (k1 + 1)) entry1.Req.Seq) entry1.Run)).map eEntry_1).set (0 + i.toNat) (laws_markEntryS_r3 k1 entry2)) = edeep 100 7 eEntry_1 (((a1.set i.toNat (TEntry.mk ((Int.tmod k1 3) == 0) entry.Req entry.Run)).set i.toNat (TEntry.mk entry1.None (TReq.mk (w64 (k1 + 1)) entry1.Req.Seq) entry1.Run)).set i.toNat (TEntry.mk entry2.None (TReq.mk entry2.Req.Who (w64 ((w64 (k1 + 1)) + 1))) entry2.Run))) (deep_set0 rfl) <| ob (map_idx0 (enc := eEntry_1) hentry2) <| tl (6, { a := .dst (eEntry_1 entry2) [none] [none], e := some (edeep 100 7 eEntry_1 (((a1.set i.toNat (TEntry.mk ((Int.tmod k1 3) == 0) entry.Req entry.Run)).set i.toNat (TEntry.mk entry1.None (TReq.mk (w64 (k1 + 1)) entry1.Req.Seq) entry1.Run)).set i.toNat (TEntry.mk entry2.None (TReq.mk entry2.Req.Who (w64 ((w64 (k1 + 1)) + 1))) entry2.Run))) }) <| rg2 <| bindD h fun entry3 hentry3 h =>
 ob (idx0 hentry3) <| om (i < ((a1.length : Nat) : Int)) (by simpa using idx1 hentry3) <| ob (map_idx0 (enc := eEntry_1) hentry3) <| tl (5, { a := .drow (eEntry_1 entry3) }) <| cb laws_markReadS_t laws_markReadS_ok 7 false h fun markReadS h =>
 needD h fun e1 h =>
 om (entry3.Run.Reads.length = entry3.Run.Reads.length) rfl <| rg <| ob (idx0 hentry3) <| om (i < ((a1.length : Nat) : Int)) (by simpa [e1] using idx1 hentry3) <| om ((((((a1.set i.toNat (TEntry.mk ((Int.tmod k1 3) == 0) entry.Req entry.Run)).set i.toNat (TEntry.mk entry1.None (TReq.mk (w64 (k1 + 1)) entry1.Req.Seq) entry1.Run)).set i.toNat (TEntry.mk entry2.None (TReq.mk entry2.Req.Who (w64 ((w64 (k1 + 1)) + 1))) entry2.Run)).map eEntry_1).set (0 + i.toNat) (laws_markEntryS_r4 entry3))[0 + i.toNat]? = some (laws_markEntryS_r4 entry3)) (set_get (map_lt0 hentry3)) <| tl (5, { a := .drow (laws_markEntryS_r4 entry3) }) <| cb laws_markPutS_t laws_markPutS_ok 7 false h fun markPutS h =>
 needD h fun e2 h =>
 om (entry3.Run.Puts.length = entry3.Run.Puts.length) rfl <| rg <| ob (idx0 hentry3) <| om (i < ((a1.length : Nat) : Int)) (by simpa [e1, e2] using idx1 hentry3) <| om (Ent.deep true 100 7 (((a1.set i.toNat (TEntry.mk ((Int.tmod k1 3) == 0) entry.Req entry.Run)).set i.toNat (TEntry.mk entry1.None (TReq.mk (w64 (k1 + 1)) entry1.Req.Seq) entry1.Run)).set i.toNat (TEntry.mk entry2.None (TReq.mk entry2.Req.Who (w64 ((w64 (k1 + 1)) + 1))) entry2.Run)).length (((((((a1.set i.toNat (TEntry.mk ((Int.tmod k1 3) == 0) entry.Req entry.Run)).set i.toNat (TEntry.mk entry1.None (TReq.mk (w64 (k1 + 1)) entry1.Req.Seq) entry1.Run)).set i.toNat (TEntry.mk entry2.None (TReq.mk entry2.Req.Who (w64 ((w64 (k1 + 1)) + 1))) entry2.Run)).map eEntry_1).set (0 + i.toNat) (laws_markEntryS_r4 entry3)).set (0 + i.toNat) (laws_markEntryS_r5 entry3)).set (0 + i.toNat) (laws_markEntryS_r6 entry3 markPutS)) = Ent.deep true 100 7 (((a1.set i.toNat (TEntry.mk ((Int.tmod k1 3) == 0) entry.Req entry.Run)).set i.toNat (TEntry.mk entry1.None (TReq.mk (w64 (k1 + 1)) entry1.Req.Seq) entry1.Run)).set i.toNat (TEntry.mk entry2.None (TReq.mk entry2.Req.Who (w64 ((w64 (k1 + 1)) + 1))) entry2.Run)).length (((((a1.set i.toNat (TEntry.mk ((Int.tmod k1 3) == 0) entry.Req entry.Run)).set i.toNat (TEntry.mk entry1.None (TReq.mk (w64 (k1 + 1)) entry1.Req.Seq) entry1.Run)).set i.toNat (TEntry.mk entry2.None (TReq.mk entry2.Req.Who (w64 ((w64 (k1 + 1)) + 1))) entry2.Run)).map eEntry_1).set (0 + i.toNat) (laws_markEntryS_r6 entry3 markPutS))) (by simp only [List.set_set]) <| om (((((((a1.set i.toNat (TEntry.mk ((Int.tmod k1 3) == 0) entry.Req entry.Run)).set i.toNat (TEntry.mk entry1.None (TReq.mk (w64 (k1 + 1)) entry1.Req.Seq) entry1.Run)).set i.toNat (TEntry.mk entry2.None (TReq.mk entry2.Req.Who (w64 ((w64 (k1 + 1)) + 1))) entry2.Run)).map eEntry_1).set (0 + i.toNat) (laws_markEntryS_r4 entry3)).set (0 + i.toNat) (laws_markEntryS_r5 entry3))[0 + i.toNat]? = some (laws_markEntryS_r5 entry3)) (set_get (lt_set (map_lt0 hentry3))) <| tl (6, { a := .dst (laws_markEntryS_r5 entry3) [none] [none], e := some (.deep true 100 7 (((a1.set i.toNat (TEntry.mk ((Int.tmod k1 3) == 0) entry.Req entry.Run)).set i.toNat (TEntry.mk entry1.None (TReq.mk (w64 (k1 + 1)) entry1.Req.Seq) entry1.Run)).set i.toNat (TEntry.mk entry2.None (TReq.mk entry2.Req.Who (w64 ((w64 (k1 + 1)) + 1))) entry2.Run)).length (((((a1.set i.toNat (TEntry.mk ((Int.tmod k1 3) == 0) entry.Req entry.Run)).set i.toNat (TEntry.mk entry1.None (TReq.mk (w64 (k1 + 1)) entry1.Req.Seq) entry1.Run)).set i.toNat (TEntry.mk entry2.None (TReq.mk entry2.Req.Who (w64 ((w64 (k1 + 1)) + 1))) entry2.Run)).map eEntry_1).set (0 + i.toNat) (laws_markEntryS_r6 entry3 markPutS))) }) <| rg2 <| ob (idx0 hentry3) <| om (i < ((a1.length : Nat) : Int)) (by simpa [e1, e2] using idx1 hentry3) <| om (Ent.deep true 100 7 (((a1.set i.toNat (TEntry.mk ((Int.tmod k1 3) == 0) entry.Req entry.Run)).set i.toNat (TEntry.mk entry1.None (TReq.mk (w64 (k1 + 1)) entry1.Req.Seq) entry1.Run)).set i.toNat (TEntry.mk entry2.None (TReq.mk entry2.Req.Who (w64 ((w64 (k1 + 1)) + 1))) entry2.Run)).length ((((((a1.set i.toNat (TEntry.mk ((Int.tmod k1 3) == 0) entry.Req entry.Run)).set i.toNat (TEntry.mk entry1.None (TReq.mk (w64 (k1 + 1)) entry1.Req.Seq) entry1.Run)).set i.toNat (TEntry.mk entry2.None (TReq.mk entry2.Req.Who (w64 ((w64 (k1 + 1)) + 1))) entry2.Run)).map eEntry_1).set (0 + i.toNat) (laws_markEntryS_r6 entry3 markPutS)).set (0 + i.toNat) (laws_markEntryS_r7 entry3 markPutS)) = Ent.deep true 100 7 (((a1.set i.toNat (TEntry.mk ((Int.tmod k1 3) == 0) entry.Req entry.Run)).set i.toNat (TEntry.mk entry1.None (TReq.mk (w64 (k1 + 1)) entry1.Req.Seq) entry1.Run)).set i.toNat (TEntry.mk entry2.None (TReq.mk entry2.Req.Who (w64 ((w64 (k1 + 1)) + 1))) entry2.Run)).length (((((a1.set i.toNat (TEntry.mk ((Int.tmod k1 3) == 0) entry.Req entry.Run)).set i.toNat (TEntry.mk entry1.None (TReq.mk (w64 (k1 + 1)) entry1.Req.Seq) entry1.Run)).set i.toNat (TEntry.mk entry2.None (TReq.mk entry2.Req.Who (w64 ((w64 (k1 + 1)) + 1))) entry2.Run)).map eEntry_1).set (0 + i.toNat) (laws_markEntryS_r7 entry3 markPutS))) (by simp only [List.set_set]) <| om ((((((a1.set i.toNat (TEntry.mk ((Int.tmod k1 3) == 0) entry.Req entry.Run)).set i.toNat (TEntry.mk entry1.None (TReq.mk (w64 (k1 + 1)) entry1.Req.Seq) entry1.Run)).set i.toNat (TEntry.mk entry2.None (TReq.mk entry2.Req.Who (w64 ((w64 (k1 + 1)) + 1))) entry2.Run)).map eEntry_1).set (0 + i.toNat) (laws_markEntryS_r6 entry3 markPutS))[0 + i.toNat]? = some (laws_markEntryS_r6 entry3 markPutS)) (set_get (map_lt0 hentry3)) <| tl (6, { a := .dst (laws_markEntryS_r6 entry3 markPutS) [none] [none], e := some (.deep true 100 7 (((a1.set i.toNat (TEntry.mk ((Int.tmod k1 3) == 0) entry.Req entry.Run)).set i.toNat (TEntry.mk entry1.None (TReq.mk (w64 (k1 + 1)) entry1.Req.Seq) entry1.Run)).set i.toNat (TEntry.mk entry2.None (TReq.mk entry2.Req.Who (w64 ((w64 (k1 + 1)) + 1))) entry2.Run)).length (((((a1.set i.toNat (TEntry.mk ((Int.tmod k1 3) == 0) entry.Req entry.Run)).set i.toNat (TEntry.mk entry1.None (TReq.mk (w64 (k1 + 1)) entry1.Req.Seq) entry1.Run)).set i.toNat (TEntry.mk entry2.None (TReq.mk entry2.Req.Who (w64 ((w64 (k1 + 1)) + 1))) entry2.Run)).map eEntry_1).set (0 + i.toNat) (laws_markEntryS_r7 entry3 markPutS))) }) <| rg2 <| (nxtD h hc1 fun hI => om ((((((a1.set i.toNat (TEntry.mk ((Int.tmod k1 3) == 0) entry.Req entry.Run)).set i.toNat (TEntry.mk entry1.None (TReq.mk (w64 (k1 + 1)) entry1.Req.Seq) entry1.Run)).set i.toNat (TEntry.mk entry2.None (TReq.mk entry2.Req.Who (w64 ((w64 (k1 + 1)) + 1))) entry2.Run)).map eEntry_1).set (0 + i.toNat) (laws_markEntryS_r7 entry3 markPutS))[0 + i.toNat]? = some (laws_markEntryS_r7 entry3 markPutS)) (set_get (map_lt0 hentry3)) <| om (entry3.Run.Reads.length = markReadS.2.length) (by first | (simp; done) | (simp [e1, e2]; done)) <| om (((((((a1.set i.toNat (TEntry.mk ((Int.tmod k1 3) == 0) entry.Req entry.Run)).set i.toNat (TEntry.mk entry1.None (TReq.mk (w64 (k1 + 1)) entry1.Req.Seq) entry1.Run)).set i.toNat (TEntry.mk entry2.None (TReq.mk entry2.Req.Who (w64 ((w64 (k1 + 1)) + 1))) entry2.Run)).map eEntry_1).set (0 + i.toNat) (laws_markEntryS_r7 entry3 markPutS)).set (0 + i.toNat) (laws_markEntryS_r8 entry3 markReadS markPutS))[0 + i.toNat]? = some (laws_markEntryS_r8 entry3 markReadS markPutS)) (set_get (lt_set (map_lt0 hentry3))) <| om (entry3.Run.Puts.length = markPutS.2.length) (by first | (simp; done) | (simp [e1, e2]; done)) <| om (((((((a1.set i.toNat (TEntry.mk ((Int.tmod k1 3) == 0) entry.Req entry.Run)).set i.toNat (TEntry.mk entry1.None (TReq.mk (w64 (k1 + 1)) entry1.Req.Seq) entry1.Run)).set i.toNat (TEntry.mk entry2.None (TReq.mk entry2.Req.Who (w64 ((w64 (k1 + 1)) + 1))) entry2.Run)).map eEntry_1).set (0 + i.toNat) (laws_markEntryS_r7 entry3 markPutS)).set (0 + i.toNat) (laws_markEntryS_r8 entry3 markReadS markPutS)).set (0 + i.toNat) (laws_markEntryS_r9 entry3 markReadS markPutS) = ((((a1.set i.toNat (TEntry.mk ((Int.tmod k1 3) == 0) entry.Req entry.Run)).set i.toNat (TEntry.mk entry1.None (TReq.mk (w64 (k1 + 1)) entry1.Req.Seq) entry1.Run)).set i.toNat (TEntry.mk entry2.None (TReq.mk entry2.Req.Who (w64 ((w64 (k1 + 1)) + 1))) entry2.Run)).set i.toNat (TEntry.mk entry3.None entry3.Req (TRun.mk markReadS.2 markPutS.2 markPutS.1 (w64 (markPutS.1 + 1))))).map eEntry_1) (shut_more (shut_more (shut_set0 rfl))) <| om (NoRef (((((a1.set i.toNat (TEntry.mk ((Int.tmod k1 3) == 0) entry.Req entry.Run)).set i.toNat (TEntry.mk entry1.None (TReq.mk (w64 (k1 + 1)) entry1.Req.Seq) entry1.Run)).set i.toNat (TEntry.mk entry2.None (TReq.mk entry2.Req.Who (w64 ((w64 (k1 + 1)) + 1))) entry2.Run)).set i.toNat (TEntry.mk entry3.None entry3.Req (TRun.mk markReadS.2 markPutS.2 markPutS.1 (w64 (markPutS.1 + 1))))).map eEntry_1)) (NoRef.map eEntry_1_nr _) <| om ((((a1.set i.toNat (TEntry.mk ((Int.tmod k1 3) == 0) entry.Req entry.Run)).set i.toNat (TEntry.mk entry1.None (TReq.mk (w64 (k1 + 1)) entry1.Req.Seq) entry1.Run)).set i.toNat (TEntry.mk entry2.None (TReq.mk entry2.Req.Who (w64 ((w64 (k1 + 1)) + 1))) entry2.Run)).length = ((((a1.set i.toNat (TEntry.mk ((Int.tmod k1 3) == 0) entry.Req entry.Run)).set i.toNat (TEntry.mk entry1.None (TReq.mk (w64 (k1 + 1)) entry1.Req.Seq) entry1.Run)).set i.toNat (TEntry.mk entry2.None (TReq.mk entry2.Req.Who (w64 ((w64 (k1 + 1)) + 1))) entry2.Run)).set i.toNat (TEntry.mk entry3.None entry3.Req (TRun.mk markReadS.2 markPutS.2 markPutS.1 (w64 (markPutS.1 + 1))))).length) (by simp) <| om ((.own 0 0 7 0 a1.length : V) = .own 0 0 7 0 ((((a1.set i.toNat (TEntry.mk ((Int.tmod k1 3) == 0) entry.Req entry.Run)).set i.toNat (TEntry.mk entry1.None (TReq.mk (w64 (k1 + 1)) entry1.Req.Seq) entry1.Run)).set i.toNat (TEntry.mk entry2.None (TReq.mk entry2.Req.Who (w64 ((w64 (k1 + 1)) + 1))) entry2.Run)).set i.toNat (TEntry.mk entry3.None entry3.Req (TRun.mk markReadS.2 markPutS.2 markPutS.1 (w64 (markPutS.1 + 1))))).length) (by first | (simp; done) | (simp [e1, e2]; done)) <| sg [.plug 0 0 (0 + i.toNat) 3 (laws_markEntryS_r7 entry3 markPutS) 142, .plug 0 0 (0 + i.toNat) 4 (laws_markEntryS_r8 entry3 markReadS markPutS) 144, .shut 0 0 ((((a1.set i.toNat (TEntry.mk ((Int.tmod k1 3) == 0) entry.Req entry.Run)).set i.toNat (TEntry.mk entry1.None (TReq.mk (w64 (k1 + 1)) entry1.Req.Seq) entry1.Run)).set i.toNat (TEntry.mk entry2.None (TReq.mk entry2.Req.Who (w64 ((w64 (k1 + 1)) + 1))) entry2.Run)).set i.toNat (TEntry.mk entry3.None entry3.Req (TRun.mk markReadS.2 markPutS.2 markPutS.1 (w64 (markPutS.1 + 1))))).length (((((a1.set i.toNat (TEntry.mk ((Int.tmod k1 3) == 0) entry.Req entry.Run)).set i.toNat (TEntry.mk entry1.None (TReq.mk (w64 (k1 + 1)) entry1.Req.Seq) entry1.Run)).set i.toNat (TEntry.mk entry2.None (TReq.mk entry2.Req.Who (w64 ((w64 (k1 + 1)) + 1))) entry2.Run)).set i.toNat (TEntry.mk entry3.None entry3.Req (TRun.mk markReadS.2 markPutS.2 markPutS.1 (w64 (markPutS.1 + 1))))).map eEntry_1), .is (.tmp 0) (.own 0 0 7 0 ((((a1.set i.toNat (TEntry.mk ((Int.tmod k1 3) == 0) entry.Req entry.Run)).set i.toNat (TEntry.mk entry1.None (TReq.mk (w64 (k1 + 1)) entry1.Req.Seq) entry1.Run)).set i.toNat (TEntry.mk entry2.None (TReq.mk entry2.Req.Who (w64 ((w64 (k1 + 1)) + 1))) entry2.Run)).set i.toNat (TEntry.mk entry3.None entry3.Req (TRun.mk markReadS.2 markPutS.2 markPutS.1 (w64 (markPutS.1 + 1))))).length)] [0, 1, 5] [] hI)) (fun h =>
 (brkD h hc1 fun e => sg [] [1] [] (hb1 _ e)))
noncomputable def laws_markEntryS (a : List TEntry) (k : Int) : Option (Int × List TEntry) :=
  ((loop (fun s : (List TEntry) × Int × Int => laws_markEntryS_b1 s.1 s.2.1 s.2.2) (a, k, 0)).bind fun x => x.go (fun r => some r) fun s => laws_markEntryS_k2 s.1 s.2)
theorem laws_markEntryS_ok {a : List TEntry} {k : Int} (r : Int × List TEntry) (h : laws_markEntryS a k = some r) : ACalls cx.P 44 [vdsl 100 7 eEntry_1 a, vi k] (laws_markEntryS_R r) (laws_markEntryS_O r) :=
  ACalls.of (cx := cx) (X := laws_markEntryS_X) (c := laws_markEntryS_c) Try.func44 (by kernel_rfl) (by kernel_rfl) (by kernel_rfl) (P0 <|
 rg2 <| loopJ h fun x hl hr hb => sg [] [0, 1, 5] [] (loopD (I := fun s : (List TEntry) × Int × Int => Fin cx laws_markEntryS_X (laws_markEntryS_R r) (laws_markEntryS_O r) laws_markEntryS_k3 (laws_markEntryS_S2 s.1 s.2.1 s.2.2)) hl fun s st h hc => laws_markEntryS_b1_ok _ _ x (fun s e => laws_markEntryS_k2_ok r s.1 s.2 (hb s e)) (fun v e => ⟨congrArg laws_markEntryS_R (Option.some.inj (hr v e)).symm, congrArg laws_markEntryS_O (Option.some.inj (hr v e)).symm⟩) st hc s.1 s.2.1 s.2.2 h))

/-! ### laws_markBoolS -/
noncomputable def laws_markBoolS_c : Code := bodyOf Try.f45
noncomputable def laws_markBoolS_X : Sig := { f := 45, fn := Try.f45, rms := [.val [] []], oms := [some (0, .row), none] }
noncomputable def laws_markBoolS_R (r : Int × List Bool) : V := vi r.1
noncomputable def laws_markBoolS_O (r : Int × List Bool) : List (Option V) := [some (vosl 4 1 eB r.2), none]
noncomputable def laws_markBoolS_t (i : Nat) (fr : Bool) (r : Int × List Bool) : Nat × Tell := (i, { a := .call [.row, .val [] []] fr (laws_markBoolS_R r) (laws_markBoolS_O r) })
noncomputable def laws_markBoolS_k1 : List Item := posI 2000 3 [false] [.code laws_markBoolS_c]
noncomputable def laws_markBoolS_S1 (w : List Bool) (k2 : Int) : St := ⟨(bs 1 (vi k2 :: (bs 19 []))), [some [erow 4 1 eB w]]⟩
noncomputable def laws_markBoolS_k2 (w : List Bool) (k2 : Int) : Option (Int × List Bool) :=
  some (k2, w)
theorem laws_markBoolS_k2_ok (r : Int × List Bool) (w : List Bool) (k2 : Int) (h : laws_markBoolS_k2 w k2 = some r) : Fin cx laws_markBoolS_X (laws_markBoolS_R r) (laws_markBoolS_O r) laws_markBoolS_k1 (laws_markBoolS_S1 w k2) :=
  P0 <|
 rg <| om (w.length = w.length) rfl <| fe Try.func45 h
noncomputable def laws_markBoolS_k3 : List Item := posI 2000 2 [] [.code laws_markBoolS_c]
noncomputable def laws_markBoolS_S2 (a1 : List Bool) (k1 : Int) (i : Int) : St := ⟨(.own 0 0 1 0 a1.length :: (vi k1 :: (bs 3 (vi i :: (bs 15 []))))), [some [erow 4 1 eB a1]]⟩
noncomputable def laws_markBoolS_b1 (a1 : List Bool) (k1 : Int) (i : Int) : Option (Stp (Int × List Bool) ((List Bool) × Int × Int) ((List Bool) × Int)) :=
  (bif decide (i < (a1.length : Int)) then
 ((idx a1 i).bind fun y =>
 some (Stp.nxt (a1.set i.toNat ((Int.tmod k1 3) == 0), w64 (k1 + 1), w64 (i + 1))))
 else
 some (Stp.brk (a1, k1)))
theorem laws_markBoolS_b1_ok (res : V) (outs : List (Option V)) (x1 : Exc (Int × List Bool) ((List Bool) × Int)) (hb1 : HB cx laws_markBoolS_X res outs x1 laws_markBoolS_k1 (fun s => laws_markBoolS_S1 s.1 s.2)) (hr1 : HR res outs x1 laws_markBoolS_R laws_markBoolS_O) (st1 : Stp (Int × List Bool) ((List Bool) × Int × Int) ((List Bool) × Int)) (hc1 : Cont x1 (fun s : (List Bool) × Int × Int => Fin cx laws_markBoolS_X res outs laws_markBoolS_k3 (laws_markBoolS_S2 s.1 s.2.1 s.2.2)) st1) (a1 : List Bool) (k1 : Int) (i : Int) (h : laws_markBoolS_b1 a1 k1 i = some st1) : Fin cx laws_markBoolS_X res outs laws_markBoolS_k3 (laws_markBoolS_S2 a1 k1 i) :=
  P0 <|
 rg <| cdD 3 h (fun h =>
 rg <| om (3 ≠ (0 : Int)) (by decide) <| bindD h fun y hy h =>
 ixB hy <| stR 4 1 eB 6 [] ((Int.tmod k1 3) == 0) hy <| rg2 <| (nxtD h hc1 fun hI => om ((.own 0 0 1 0 a1.length : V) = .own 0 0 1 0 (a1.set i.toNat ((Int.tmod k1 3) == 0)).length) (by simp) <| sg [.is (.tmp 0) (.own 0 0 1 0 (a1.set i.toNat ((Int.tmod k1 3) == 0)).length)] [0, 1, 5] [] hI)) (fun h =>
 (brkD h hc1 fun e => sg [] [1] [] (hb1 _ e)))
noncomputable def laws_markBoolS (a : List Bool) (k : Int) : Option (Int × List Bool) :=
  ((loop (fun s : (List Bool) × Int × Int => laws_markBoolS_b1 s.1 s.2.1 s.2.2) (a, k, 0)).bind fun x => x.go (fun r => some r) fun s => laws_markBoolS_k2 s.1 s.2)
theorem laws_markBoolS_ok {a : List Bool} {k : Int} (r : Int × List Bool) (h : laws_markBoolS a k = some r) : ACalls cx.P 45 [vosl 4 1 eB a, vi k] (laws_markBoolS_R r) (laws_markBoolS_O r) :=
  ACalls.of (cx := cx) (X := laws_markBoolS_X) (c := laws_markBoolS_c) Try.func45 (by kernel_rfl) (by kernel_rfl) (by kernel_rfl) (P0 <|
 rg2 <| loopJ h fun x hl hr hb => sg [] [0, 1, 5] [] (loopD (I := fun s : (List Bool) × Int × Int => Fin cx laws_markBoolS_X (laws_markBoolS_R r) (laws_markBoolS_O r) laws_markBoolS_k3 (laws_markBoolS_S2 s.1 s.2.1 s.2.2)) hl fun s st h hc => laws_markBoolS_b1_ok _ _ x (fun s e => laws_markBoolS_k2_ok r s.1 s.2 (hb s e)) (fun v e => ⟨congrArg laws_markBoolS_R (Option.some.inj (hr v e)).symm, congrArg laws_markBoolS_O (Option.some.inj (hr v e)).symm⟩) st hc s.1 s.2.1 s.2.2 h))

/-! ### laws_markInsS -/
noncomputable def laws_markInsS_c : Code := bodyOf Try.f12
noncomputable def laws_markInsS_X : Sig := { f := 12, fn := Try.f12, rms := [.val [] []], oms := [some (0, .row), none] }
noncomputable def laws_markInsS_R (r : Int × List TIns) : V := vi r.1
noncomputable def laws_markInsS_O (r : Int × List TIns) : List (Option V) := [some (vosl 60 4 eIns r.2), none]
noncomputable def laws_markInsS_t (i : Nat) (fr : Bool) (r : Int × List TIns) : Nat × Tell := (i, { a := .call [.row, .val [] []] fr (laws_markInsS_R r) (laws_markInsS_O r) })
noncomputable def laws_markInsS_k1 : List Item := posI 2000 3 [false] [.code laws_markInsS_c]
noncomputable def laws_markInsS_S1 (w : List TIns) (k2 : Int) : St := ⟨(bs 1 (vi k2 :: (bs 39 []))), [some [erow 60 4 eIns w]]⟩
noncomputable def laws_markInsS_k2 (w : List TIns) (k2 : Int) : Option (Int × List TIns) :=
  some (k2, w)
theorem laws_markInsS_k2_ok (r : Int × List TIns) (w : List TIns) (k2 : Int) (h : laws_markInsS_k2 w k2 = some r) : Fin cx laws_markInsS_X (laws_markInsS_R r) (laws_markInsS_O r) laws_markInsS_k1 (laws_markInsS_S1 w k2) :=
  P0 <|
 rg <| om (w.length = w.length) rfl <| fe Try.func12 h
noncomputable def laws_markInsS_k3 : List Item := posI 2000 2 [] [.code laws_markInsS_c]
noncomputable def laws_markInsS_S2 (a1 : List TIns) (k1 : Int) (i : Int) : St := ⟨(.own 0 0 4 0 a1.length :: (vi k1 :: (bs 3 (vi i :: (bs 35 []))))), [some [erow 60 4 eIns a1]]⟩
noncomputable def laws_markInsS_b1 (a1 : List TIns) (k1 : Int) (i : Int) : Option (Stp (Int × List TIns) ((List TIns) × Int × Int) ((List TIns) × Int)) :=
  (bif decide (i < (a1.length : Int)) then
 ((idx a1 i).bind fun ins =>
 ((idx (a1.set i.toNat (TIns.mk k1 ins.A ins.B ins.N)) i).bind fun ins1 =>
 ((idx ((a1.set i.toNat (TIns.mk k1 ins.A ins.B ins.N)).set i.toNat (TIns.mk ins1.Kind (w64 (k1 + 1)) ins1.B ins1.N)) i).bind fun ins2 =>
 ((idx (((a1.set i.toNat (TIns.mk k1 ins.A ins.B ins.N)).set i.toNat (TIns.mk ins1.Kind (w64 (k1 + 1)) ins1.B ins1.N)).set i.toNat (TIns.mk ins2.Kind ins2.A (w64 ((w64 (k1 + 1)) + 1)) ins2.N)) i).bind fun ins3 =>
 some (Stp.nxt ((((a1.set i.toNat (TIns.mk k1 ins.A ins.B ins.N)).set i.toNat (TIns.mk ins1.Kind (w64 (k1 + 1)) ins1.B ins1.N)).set i.toNat (TIns.mk ins2.Kind ins2.A (w64 ((w64 (k1 + 1)) + 1)) ins2.N)).set i.toNat (TIns.mk ins3.Kind ins3.A ins3.B (w64 ((w64 ((w64 (k1 + 1)) + 1)) + 1))), w64 ((w64 ((w64 ((w64 (k1 + 1)) + 1)) + 1)) + 1), w64 (i + 1)))))))
 else
 some (Stp.brk (a1, k1)))
set_option maxRecDepth 20000 in
theorem laws_markInsS_b1_ok (res : V) (outs : List (Option V)) (x1 : Exc (Int × List TIns) ((List TIns) × Int)) (hb1 : HB cx laws_markInsS_X res outs x1 laws_markInsS_k1 (fun s => laws_markInsS_S1 s.1 s.2)) (hr1 : HR res outs x1 laws_markInsS_R laws_markInsS_O) (st1 : Stp (Int × List TIns) ((List TIns) × Int × Int) ((List TIns) × Int)) (hc1 : Cont x1 (fun s : (List TIns) × Int × Int => Fin cx laws_markInsS_X res outs laws_markInsS_k3 (laws_markInsS_S2 s.1 s.2.1 s.2.2)) st1) (a1 : List TIns) (k1 : Int) (i : Int) (h : laws_markInsS_b1 a1 k1 i = some st1) : Fin cx laws_markInsS_X res outs laws_markInsS_k3 (laws_markInsS_S2 a1 k1 i) :=
  P0 <|
 rg <| cdD 3 h (fun h =>
 rg <| bindD h fun ins hins h =>
 ixB hins <| stR 60 4 eIns 5 [] (TIns.mk k1 ins.A ins.B ins.N) hins <| rg2 <| bindD h fun ins1 hins1 h =>
 ob (idx0 hins1) <| om (i < ((a1.length : Nat) : Int)) (by simpa using idx1 hins1) <| stR 60 4 eIns 5 [] (TIns.mk ins1.Kind (w64 (k1 + 1)) ins1.B ins1.N) hins1 <| rg2 <| bindD h fun ins2 hins2 h =>
 ob (idx0 hins2) <| om (i < ((a1.length : Nat) : Int)) (by simpa using idx1 hins2) <| stR 60 4 eIns 5 [] (TIns.mk ins2.Kind ins2.A (w64 ((w64 (k1 + 1)) + 1)) ins2.N) hins2 <| rg2 <| bindD h fun ins3 hins3 h =>
 ob (idx0 hins3) <| om (i < ((a1.length : Nat) : Int)) (by simpa using idx1 hins3) <| stR 60 4 eIns 5 [] (TIns.mk ins3.Kind ins3.A ins3.B (w64 ((w64 ((w64 (k1 + 1)) + 1)) + 1))) hins3 <| rg2 <| (nxtD h hc1 fun hI => om ((.own 0 0 4 0 a1.length : V) = .own 0 0 4 0 ((((a1.set i.toNat (TIns.mk k1 ins.A ins.B ins.N)).set i.toNat (TIns.mk ins1.Kind (w64 (k1 + 1)) ins1.B ins1.N)).set i.toNat (TIns.mk ins2.Kind ins2.A (w64 ((w64 (k1 + 1)) + 1)) ins2.N)).set i.toNat (TIns.mk ins3.Kind ins3.A ins3.B (w64 ((w64 ((w64 (k1 + 1)) + 1)) + 1)))).length) (by simp) <| sg [.is (.tmp 0) (.own 0 0 4 0 ((((a1.set i.toNat (TIns.mk k1 ins.A ins.B ins.N)).set i.toNat (TIns.mk ins1.Kind (w64 (k1 + 1)) ins1.B ins1.N)).set i.toNat (TIns.mk ins2.Kind ins2.A (w64 ((w64 (k1 + 1)) + 1)) ins2.N)).set i.toNat (TIns.mk ins3.Kind ins3.A ins3.B (w64 ((w64 ((w64 (k1 + 1)) + 1)) + 1)))).length)] [0, 1, 5] [] hI)) (fun h =>
 (brkD h hc1 fun e => sg [] [1] [] (hb1 _ e)))
noncomputable def laws_markInsS (a : List TIns) (k : Int) : Option (Int × List TIns) :=
  ((loop (fun s : (List TIns) × Int × Int => laws_markInsS_b1 s.1 s.2.1 s.2.2) (a, k, 0)).bind fun x => x.go (fun r => some r) fun s => laws_markInsS_k2 s.1 s.2)
theorem laws_markInsS_ok {a : List TIns} {k : Int} (r : Int × List TIns) (h : laws_markInsS a k = some r) : ACalls cx.P 12 [vosl 60 4 eIns a, vi k] (laws_markInsS_R r) (laws_markInsS_O r) :=
  ACalls.of (cx := cx) (X := laws_markInsS_X) (c := laws_markInsS_c) Try.func12 (by kernel_rfl) (by kernel_rfl) (by kernel_rfl) (P0 <|
 rg2 <| loopJ h fun x hl hr hb => sg [] [0, 1, 5] [] (loopD (I := fun s : (List TIns) × Int × Int => Fin cx laws_markInsS_X (laws_markInsS_R r) (laws_markInsS_O r) laws_markInsS_k3 (laws_markInsS_S2 s.1 s.2.1 s.2.2)) hl fun s st h hc => laws_markInsS_b1_ok _ _ x (fun s e => laws_markInsS_k2_ok r s.1 s.2 (hb s e)) (fun v e => ⟨congrArg laws_markInsS_R (Option.some.inj (hr v e)).symm, congrArg laws_markInsS_O (Option.some.inj (hr v e)).symm⟩) st hc s.1 s.2.1 s.2.2 h))


end Go.Proofs.Ythegkbaijmkhfaa
