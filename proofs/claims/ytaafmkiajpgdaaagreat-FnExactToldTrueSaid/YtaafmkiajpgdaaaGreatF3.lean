/- Functions of the program, and that their calls come to this. -/
import Derived.Test.YtaafmkiajpgdaaaGreatF2
set_option linter.unusedVariables false
set_option linter.unusedSimpArgs false
namespace Go.Proofs.YtaafmkiajpgdaaaGreat
open Go

/-! ### impl_NodeOk -/
noncomputable def impl_NodeOk_c : Code := bodyOf Tryz.f44
noncomputable def impl_NodeOk_X : Sig := { f := 44, fn := Tryz.f44, rms := [.val [] []], oms := [none] }
noncomputable def impl_NodeOk_R (r : Bool) : V := .b r
noncomputable def impl_NodeOk_O (r : Bool) : List (Option V) := [none]
noncomputable def impl_NodeOk_t (i : Nat) (fr : Bool) (r : Bool) : Nat × Tell := (i, { a := .call [.val ck100 []] fr (impl_NodeOk_R r) (impl_NodeOk_O r) })
noncomputable def impl_NodeOk_k1 : List Item := posI 2000 4 [false, false] [.code impl_NodeOk_c]
noncomputable def impl_NodeOk_S1 (n : TNode) : St := ⟨(bs 1 (.ptr 1 0 0 :: (bs 87 []))), [some [], some [.var 100 [vi n.Id, vi n.Acc.Promised, vsl 8 eVote n.Acc.Votes, vsl 7 eEntry n.Known, vi n.Seq, vi n.Phase, vi n.Bal, vsl 1 eB n.From, vsl 8 eVote n.Best, .b n.Cur.None, vi n.Cur.Req.Who, vi n.Cur.Req.Seq, vsl 2 eRead n.Cur.Run.Reads, vsl 2 ePut n.Cur.Run.Puts, vi n.Cur.Run.Val, vi n.Cur.Run.Code, vsl 1 eB n.Votes, .b n.Busy, vsl 4 eIns n.Prog, .b n.Want.None, vi n.Want.Req.Who, vi n.Want.Req.Seq, vsl 2 eRead n.Want.Run.Reads, vsl 2 ePut n.Want.Run.Puts, vi n.Want.Run.Val, vi n.Want.Run.Code, vsl 7 eEntry n.Queue]]]⟩
noncomputable def impl_NodeOk_k2 : List Item := posI 2000 6 [false, false, true, false] [.code impl_NodeOk_c]
noncomputable def impl_NodeOk_S2 (n : TNode) : St := ⟨(bs 1 (.ptr 1 0 0 :: (bs 87 []))), [some [], some [.var 100 [vi n.Id, vi n.Acc.Promised, vsl 8 eVote n.Acc.Votes, vsl 7 eEntry n.Known, vi n.Seq, vi n.Phase, vi n.Bal, vsl 1 eB n.From, vsl 8 eVote n.Best, .b n.Cur.None, vi n.Cur.Req.Who, vi n.Cur.Req.Seq, vsl 2 eRead n.Cur.Run.Reads, vsl 2 ePut n.Cur.Run.Puts, vi n.Cur.Run.Val, vi n.Cur.Run.Code, vsl 1 eB n.Votes, .b n.Busy, vsl 4 eIns n.Prog, .b n.Want.None, vi n.Want.Req.Who, vi n.Want.Req.Seq, vsl 2 eRead n.Want.Run.Reads, vsl 2 ePut n.Want.Run.Puts, vi n.Want.Run.Val, vi n.Want.Run.Code, vsl 7 eEntry n.Queue]]]⟩
noncomputable def impl_NodeOk_j1 (n : TNode) : Option Bool :=
  ((impl_leadOk n).bind fun leadOk =>
 some leadOk)
theorem impl_NodeOk_j1_ok (n : TNode) (r : Bool) (h : impl_NodeOk_j1 n = some r) : Fin cx impl_NodeOk_X (impl_NodeOk_R r) (impl_NodeOk_O r) impl_NodeOk_k2 (impl_NodeOk_S2 n) :=
  P0 <|
 rg <| cb impl_leadOk_t impl_leadOk_ok 1 false h fun leadOk h =>
 fe Tryz.func44 h
noncomputable def impl_NodeOk_k3 (n : TNode) : Option Bool :=
  (((bif n.Busy then
 ((impl_ProgOk n.Prog).bind fun progOk =>
 (bif (!progOk) then
 some (Exc.ret false)
 else
 ((impl_CertEntry n.Want).bind fun certEntry =>
 (bif (!certEntry) then
 some (Exc.ret false)
 else
 (bif n.Want.None then
 some (Exc.ret false)
 else
 (bif (!(([n.Want.Req.Who, n.Want.Req.Seq] : List Int) == [n.Id, n.Seq])) then
 some (Exc.ret false)
 else
 some (Exc.brk ())))))))
 else
 (bif decide ((n.Prog.length : Int) > 0) then
 some (Exc.ret false)
 else
 ((impl_CertLike n.Want (TEntry.mk false (TReq.mk 0 0) (TRun.mk [] [] 0 0))).bind fun certLike =>
 (bif (!certLike) then
 some (Exc.ret false)
 else
 some (Exc.brk ()))))) : Option (Exc Bool Unit)).bind fun x => x.go some fun j => impl_NodeOk_j1 n)
theorem impl_NodeOk_k3_ok (n : TNode) (r : Bool) (h : impl_NodeOk_k3 n = some r) : Fin cx impl_NodeOk_X (impl_NodeOk_R r) (impl_NodeOk_O r) impl_NodeOk_k1 (impl_NodeOk_S1 n) :=
  P0 <|
 joinD (I := fun j : Unit => Fin cx impl_NodeOk_X (impl_NodeOk_R r) (impl_NodeOk_O r) impl_NodeOk_k2 (impl_NodeOk_S2 n)) h (fun j h => impl_NodeOk_j1_ok n r h) (fun x1 h hc1 =>
  rg <| cdD 1 h (fun h =>
 rg <| cb impl_ProgOk_t impl_ProgOk_ok 2 false h fun progOk h =>
 cdD 4 h (fun h =>
 rg <| (jretD h hc1 fun h => fe Tryz.func44 h)) (fun h =>
 cb impl_CertEntry_t impl_CertEntry_ok 7 false h fun certEntry h =>
 cdD 10 h (fun h =>
 rg <| (jretD h hc1 fun h => fe Tryz.func44 h)) (fun h =>
 cdD 15 h (fun h =>
 rg <| (jretD h hc1 fun h => fe Tryz.func44 h)) (fun h =>
 cdD 25 h (fun h =>
 rg <| (jretD h hc1 fun h => fe Tryz.func44 h)) (fun h =>
 (jbrkD h hc1 fun hI => sg [] [1] [(1, 0)] hI)))))) (fun h =>
 rg <| cdD 4 h (fun h =>
 rg <| (jretD h hc1 fun h => fe Tryz.func44 h)) (fun h =>
 cb impl_CertLike_t impl_CertLike_ok 8 false h fun certLike h =>
 cdD 10 h (fun h =>
 rg <| (jretD h hc1 fun h => fe Tryz.func44 h)) (fun h =>
 (jbrkD h hc1 fun hI => sg [] [1] [(1, 0)] hI)))))
noncomputable def impl_NodeOk_k4 : List Item := posI 2000 3 [false] [.code impl_NodeOk_c]
noncomputable def impl_NodeOk_S3 (n : TNode) (v36 : Int) : St := ⟨(bs 1 (.ptr 1 0 0 :: (bs 32 (vsl 7 eEntry n.Queue :: (vi (n.Queue.length : Int) :: (vi v36 :: (bs 52 []))))))), [some [], some [.var 100 [vi n.Id, vi n.Acc.Promised, vsl 8 eVote n.Acc.Votes, vsl 7 eEntry n.Known, vi n.Seq, vi n.Phase, vi n.Bal, vsl 1 eB n.From, vsl 8 eVote n.Best, .b n.Cur.None, vi n.Cur.Req.Who, vi n.Cur.Req.Seq, vsl 2 eRead n.Cur.Run.Reads, vsl 2 ePut n.Cur.Run.Puts, vi n.Cur.Run.Val, vi n.Cur.Run.Code, vsl 1 eB n.Votes, .b n.Busy, vsl 4 eIns n.Prog, .b n.Want.None, vi n.Want.Req.Who, vi n.Want.Req.Seq, vsl 2 eRead n.Want.Run.Reads, vsl 2 ePut n.Want.Run.Puts, vi n.Want.Run.Val, vi n.Want.Run.Code, vsl 7 eEntry n.Queue]]]⟩
noncomputable def impl_NodeOk_b1 (n : TNode) (v36 : Int) : Option (Stp Bool Int Unit) :=
  (bif decide (v36 < (n.Queue.length : Int)) then
 ((idx n.Queue v36).bind fun entry =>
 ((impl_CertEntry entry).bind fun certEntry1 =>
 (bif (!certEntry1) then
 some (Stp.ret false)
 else
 (bif entry.None then
 some (Stp.ret false)
 else
 some (Stp.nxt (w64 (v36 + 1)))))))
 else
 some (Stp.brk ()))
theorem impl_NodeOk_b1_ok (n : TNode) (res : V) (outs : List (Option V)) (x1 : Exc Bool Unit) (hb1 : HB cx impl_NodeOk_X res outs x1 impl_NodeOk_k1 (fun s => impl_NodeOk_S1 n)) (hr1 : HR res outs x1 impl_NodeOk_R impl_NodeOk_O) (st1 : Stp Bool Int Unit) (hc1 : Cont x1 (fun s : Int => Fin cx impl_NodeOk_X res outs impl_NodeOk_k4 (impl_NodeOk_S3 n s)) st1) (v36 : Int) (h : impl_NodeOk_b1 n v36 = some st1) : Fin cx impl_NodeOk_X res outs impl_NodeOk_k4 (impl_NodeOk_S3 n v36) :=
  P0 <|
 rg <| cdD 0 h (fun h =>
 rg <| ixS eEntry 0 h fun entry hentry h =>
 rg <| cb impl_CertEntry_t impl_CertEntry_ok 1 false h fun certEntry1 h =>
 cdD 3 h (fun h =>
 rg <| (retD h hc1 fun e => fn0 Tryz.func44 (hr1 _ e))) (fun h =>
 cdD 6 h (fun h =>
 rg <| (retD h hc1 fun e => fn0 Tryz.func44 (hr1 _ e))) (fun h =>
 rg <| (nxtD h hc1 fun hI => sg [] [1, 34, 35, 36] [(1, 0)] hI)))) (fun h =>
 (brkD h hc1 fun e => sg [] [1] [(1, 0)] (hb1 _ e)))
noncomputable def impl_NodeOk (n : TNode) : Option Bool :=
  ((impl_in n.Id 0 2).bind fun in_ =>
 (bif (!in_) then
 some false
 else
 ((impl_AccOk n.Acc).bind fun accOk =>
 (bif (!accOk) then
 some false
 else
 ((impl_listOk n.Known).bind fun listOk =>
 (bif (!listOk) then
 some false
 else
 ((impl_in n.Seq 0 1000).bind fun in_1 =>
 (bif (!in_1) then
 some false
 else
 (bif decide ((n.Queue.length : Int) > 4) then
 some false
 else
 ((loop (fun s : Int => impl_NodeOk_b1 n s) 0).bind fun x => x.go (fun r => some r) fun s => impl_NodeOk_k3 n))))))))))
theorem impl_NodeOk_ok {n : TNode} (r : Bool) (h : impl_NodeOk n = some r) : ACalls cx.P 44 [.agg (eNode n)] (impl_NodeOk_R r) (impl_NodeOk_O r) :=
  ACalls.of (cx := cx) (X := impl_NodeOk_X) (c := impl_NodeOk_c) Tryz.func44 (by kernel_rfl) (by kernel_rfl) (by kernel_rfl) (P0 <|
 rg2 <| cb impl_in_t impl_in_ok 2 false h fun in_ h =>
 cdD 4 h (fun h =>
 rg <| fe Tryz.func44 h) (fun h =>
 cb impl_AccOk_t impl_AccOk_ok 7 false h fun accOk h =>
 cdD 10 h (fun h =>
 rg <| fe Tryz.func44 h) (fun h =>
 cb impl_listOk_t impl_listOk_ok 13 false h fun listOk h =>
 cdD 16 h (fun h =>
 rg <| fe Tryz.func44 h) (fun h =>
 cb impl_in_t impl_in_ok 19 false h fun in_1 h =>
 cdD 22 h (fun h =>
 rg <| fe Tryz.func44 h) (fun h =>
 cdD 27 h (fun h =>
 rg <| fe Tryz.func44 h) (fun h =>
 rg <| loopJ h fun x hl hr hb => sg [] [1, 34, 35, 36] [(1, 0)] (loopD (I := fun s : Int => Fin cx impl_NodeOk_X (impl_NodeOk_R r) (impl_NodeOk_O r) impl_NodeOk_k4 (impl_NodeOk_S3 n s)) hl fun s st h hc => impl_NodeOk_b1_ok n _ _ x (fun s e => impl_NodeOk_k3_ok n r (hb s e)) (fun v e => ⟨congrArg impl_NodeOk_R (Option.some.inj (hr v e)).symm, congrArg impl_NodeOk_O (Option.some.inj (hr v e)).symm⟩) st hc s h)))))))

/-! ### impl_MsgOk -/
noncomputable def impl_MsgOk_c : Code := bodyOf Tryz.f45
noncomputable def impl_MsgOk_X : Sig := { f := 45, fn := Tryz.f45, rms := [.val [] []], oms := [none] }
noncomputable def impl_MsgOk_R (r : Bool) : V := .b r
noncomputable def impl_MsgOk_O (r : Bool) : List (Option V) := [none]
noncomputable def impl_MsgOk_t (i : Nat) (fr : Bool) (r : Bool) : Nat × Tell := (i, { a := .call [.val ck104 []] fr (impl_MsgOk_R r) (impl_MsgOk_O r) })
noncomputable def impl_MsgOk (m : TMsg) : Option Bool :=
  ((impl_in m.From 0 2).bind fun in_ =>
 (bif (!in_) then
 some false
 else
 ((impl_in m.To 0 2).bind fun in_1 =>
 (bif (!in_1) then
 some false
 else
 (bif (m.From == m.To) then
 some false
 else
 ((impl_in m.Slot 0 40).bind fun in_2 =>
 (bif (!in_2) then
 some false
 else
 ((impl_in m.Bal 1 3000).bind fun in_3 =>
 ((impl_CertLike m.Entry (TEntry.mk false (TReq.mk 0 0) (TRun.mk [] [] 0 0))).bind fun certLike =>
 (bif (m.Kind == 1) then
 (bif in_3 then
 (bif certLike then
 some ((m.Votes.length : Int) == 0)
 else
 some false)
 else
 some false)
 else
 (bif (m.Kind == 4) then
 (bif in_3 then
 (bif certLike then
 some ((m.Votes.length : Int) == 0)
 else
 some false)
 else
 some false)
 else
 (bif (m.Kind == 2) then
 (bif in_3 then
 (bif certLike then
 ((impl_votesOk m.Votes).bind fun votesOk =>
 (bif votesOk then
 some (decide ((w64 (m.Slot + (m.Votes.length : Int))) ≤ 40))
 else
 some false))
 else
 some false)
 else
 some false)
 else
 (bif (m.Kind == 3) then
 (bif in_3 then
 (bif decide (m.Slot < 40) then
 ((impl_CertEntry m.Entry).bind fun certEntry =>
 (bif certEntry then
 some ((m.Votes.length : Int) == 0)
 else
 some false))
 else
 some false)
 else
 some false)
 else
 (bif (m.Kind == 5) then
 (bif (m.Bal == 0) then
 (bif decide (m.Slot < 40) then
 ((impl_CertEntry m.Entry).bind fun certEntry1 =>
 (bif certEntry1 then
 some ((m.Votes.length : Int) == 0)
 else
 some false))
 else
 some false)
 else
 some false)
 else
 (bif (m.Kind == 6) then
 (bif in_3 then
 (bif (m.Slot == 0) then
 (bif certLike then
 some ((m.Votes.length : Int) == 0)
 else
 some false)
 else
 some false)
 else
 some false)
 else
 (bif (m.Kind == 7) then
 (bif (m.Bal == 0) then
 (bif (m.Slot == 0) then
 ((impl_CertEntry m.Entry).bind fun certEntry2 =>
 (bif certEntry2 then
 (bif (!m.Entry.None) then
 some ((m.Votes.length : Int) == 0)
 else
 some false)
 else
 some false))
 else
 some false)
 else
 some false)
 else
 (bif (m.Kind == 8) then
 (bif (m.Bal == 0) then
 (bif certLike then
 some ((m.Votes.length : Int) == 0)
 else
 some false)
 else
 some false)
 else
 some false)))))))))))))))))
set_option maxRecDepth 20000 in
theorem impl_MsgOk_ok {m : TMsg} (r : Bool) (h : impl_MsgOk m = some r) : ACalls cx.P 45 [.agg (eMsg m)] (impl_MsgOk_R r) (impl_MsgOk_O r) :=
  ACalls.of (cx := cx) (X := impl_MsgOk_X) (c := impl_MsgOk_c) Tryz.func45 (by kernel_rfl) (by kernel_rfl) (by kernel_rfl) (P0 <|
 rg2 <| cb impl_in_t impl_in_ok 2 false h fun in_ h =>
 cdD 4 h (fun h =>
 rg <| fe Tryz.func45 h) (fun h =>
 cb impl_in_t impl_in_ok 7 false h fun in_1 h =>
 cdD 10 h (fun h =>
 rg <| fe Tryz.func45 h) (fun h =>
 cdD 17 h (fun h =>
 rg <| fe Tryz.func45 h) (fun h =>
 cb impl_in_t impl_in_ok 20 false h fun in_2 h =>
 cdD 22 h (fun h =>
 rg <| fe Tryz.func45 h) (fun h =>
 rg <| cb impl_in_t impl_in_ok 2 false h fun in_3 h =>
 rg <| cb impl_CertLike_t impl_CertLike_ok 3 false h fun certLike h =>
 rg3 <| cdD 1 h (fun h =>
 rg <| cdD 1 h (fun h =>
 cdD 4 h (fun h =>
 fe Tryz.func45 h) (fun h =>
 fe Tryz.func45 h)) (fun h =>
 fe Tryz.func45 h)) (fun h =>
 rg <| cdD 1 h (fun h =>
 rg <| cdD 1 h (fun h =>
 cdD 4 h (fun h =>
 fe Tryz.func45 h) (fun h =>
 fe Tryz.func45 h)) (fun h =>
 fe Tryz.func45 h)) (fun h =>
 rg <| cdD 1 h (fun h =>
 rg <| cdD 1 h (fun h =>
 cdD 4 h (fun h =>
 cb impl_votesOk_t impl_votesOk_ok 7 false h fun votesOk h =>
 cdD 9 h (fun h =>
 fe Tryz.func45 h) (fun h =>
 fe Tryz.func45 h)) (fun h =>
 fe Tryz.func45 h)) (fun h =>
 fe Tryz.func45 h)) (fun h =>
 rg <| cdD 1 h (fun h =>
 rg <| cdD 1 h (fun h =>
 cdD 6 h (fun h =>
 cb impl_CertEntry_t impl_CertEntry_ok 9 false h fun certEntry h =>
 cdD 11 h (fun h =>
 fe Tryz.func45 h) (fun h =>
 fe Tryz.func45 h)) (fun h =>
 fe Tryz.func45 h)) (fun h =>
 fe Tryz.func45 h)) (fun h =>
 rg <| cdD 1 h (fun h =>
 rg <| cdD 3 h (fun h =>
 cdD 8 h (fun h =>
 cb impl_CertEntry_t impl_CertEntry_ok 11 false h fun certEntry1 h =>
 cdD 13 h (fun h =>
 fe Tryz.func45 h) (fun h =>
 fe Tryz.func45 h)) (fun h =>
 fe Tryz.func45 h)) (fun h =>
 fe Tryz.func45 h)) (fun h =>
 rg <| cdD 1 h (fun h =>
 rg <| cdD 1 h (fun h =>
 cdD 6 h (fun h =>
 cdD 9 h (fun h =>
 fe Tryz.func45 h) (fun h =>
 fe Tryz.func45 h)) (fun h =>
 fe Tryz.func45 h)) (fun h =>
 fe Tryz.func45 h)) (fun h =>
 rg <| cdD 1 h (fun h =>
 rg <| cdD 3 h (fun h =>
 cdD 8 h (fun h =>
 cb impl_CertEntry_t impl_CertEntry_ok 11 false h fun certEntry2 h =>
 cdD 13 h (fun h =>
 cdD 19 h (fun h =>
 fe Tryz.func45 h) (fun h =>
 fe Tryz.func45 h)) (fun h =>
 fe Tryz.func45 h)) (fun h =>
 fe Tryz.func45 h)) (fun h =>
 fe Tryz.func45 h)) (fun h =>
 rg <| cdD 1 h (fun h =>
 rg <| cdD 3 h (fun h =>
 cdD 6 h (fun h =>
 fe Tryz.func45 h) (fun h =>
 fe Tryz.func45 h)) (fun h =>
 fe Tryz.func45 h)) (fun h =>
 rg <| fe Tryz.func45 h)))))))))))))

/-! ### impl_WorldOk -/
noncomputable def impl_WorldOk_c : Code := bodyOf Tryz.f21
noncomputable def impl_WorldOk_X : Sig := { f := 21, fn := Tryz.f21, rms := [.val [] []], oms := [none] }
noncomputable def impl_WorldOk_R (r : Bool) : V := .b r
noncomputable def impl_WorldOk_O (r : Bool) : List (Option V) := [none]
noncomputable def impl_WorldOk_t (i : Nat) (fr : Bool) (r : Bool) : Nat × Tell := (i, { a := .call [.val ck35 []] fr (impl_WorldOk_R r) (impl_WorldOk_O r) })
noncomputable def impl_WorldOk_k1 : List Item := posI 2000 4 [false, false] [.code impl_WorldOk_c]
noncomputable def impl_WorldOk_S1 (w : TWorld) : St := ⟨(bs 1 (.ptr 1 0 0 :: (bs 116 []))), [some [], some [.var 35 [vsl 27 eNode w.Nodes, vsl 13 eMsg w.Net, vsl 3 eAsked w.Asked, vsl 5 eTold w.Told]]]⟩
noncomputable def impl_WorldOk_k2 : List Item := posI 2000 6 [false, false, false] [.code impl_WorldOk_c]
noncomputable def impl_WorldOk_S2 (w : TWorld) : St := ⟨(bs 1 (.ptr 1 0 0 :: (bs 116 []))), [some [], some [.var 35 [vsl 27 eNode w.Nodes, vsl 13 eMsg w.Net, vsl 3 eAsked w.Asked, vsl 5 eTold w.Told]]]⟩
noncomputable def impl_WorldOk_k3 : List Item := posI 2000 8 [false, false, false, false] [.code impl_WorldOk_c]
noncomputable def impl_WorldOk_S3 (w : TWorld) : St := ⟨(bs 1 (.ptr 1 0 0 :: (bs 116 []))), [some [], some [.var 35 [vsl 27 eNode w.Nodes, vsl 13 eMsg w.Net, vsl 3 eAsked w.Asked, vsl 5 eTold w.Told]]]⟩
noncomputable def impl_WorldOk_k4 : List Item := posI 2000 10 [false, false, false, false, false] [.code impl_WorldOk_c]
noncomputable def impl_WorldOk_S4 : St := ⟨(bs 118 []), [some []]⟩
noncomputable def impl_WorldOk_k5 : Option Bool :=
  some true
theorem impl_WorldOk_k5_ok (r : Bool) (h : impl_WorldOk_k5 = some r) : Fin cx impl_WorldOk_X (impl_WorldOk_R r) (impl_WorldOk_O r) impl_WorldOk_k4 (impl_WorldOk_S4) :=
  P0 <|
 rg <| fe Tryz.func21 h
noncomputable def impl_WorldOk_k6 : List Item := posI 2000 9 [false, false, false, false] [.code impl_WorldOk_c]
noncomputable def impl_WorldOk_S5 (w : TWorld) (v83 : Int) : St := ⟨(bs 81 (vsl 5 eTold w.Told :: (vi (w.Told.length : Int) :: (vi v83 :: (bs 34 []))))), [some []]⟩
noncomputable def impl_WorldOk_b1 (w : TWorld) (v83 : Int) : Option (Stp Bool Int Unit) :=
  (bif decide (v83 < (w.Told.length : Int)) then
 ((idx w.Told v83).bind fun told =>
 ((impl_in told.Node 0 2).bind fun in_ =>
 (bif (!in_) then
 some (Stp.ret false)
 else
 ((impl_reqOk told.Req).bind fun reqOk =>
 (bif (!reqOk) then
 some (Stp.ret false)
 else
 (bif (told.Req.Who != told.Node) then
 some (Stp.ret false)
 else
 ((impl_in told.Code 0 4).bind fun in_1 =>
 (bif (!in_1) then
 some (Stp.ret false)
 else
 ((impl_in told.Val (-1000000) 1000000).bind fun in_2 =>
 (bif (!in_2) then
 some (Stp.ret false)
 else
 some (Stp.nxt (w64 (v83 + 1)))))))))))))
 else
 some (Stp.brk ()))
theorem impl_WorldOk_b1_ok (w : TWorld) (res : V) (outs : List (Option V)) (x1 : Exc Bool Unit) (hb1 : HB cx impl_WorldOk_X res outs x1 impl_WorldOk_k4 (fun s => impl_WorldOk_S4)) (hr1 : HR res outs x1 impl_WorldOk_R impl_WorldOk_O) (st1 : Stp Bool Int Unit) (hc1 : Cont x1 (fun s : Int => Fin cx impl_WorldOk_X res outs impl_WorldOk_k6 (impl_WorldOk_S5 w s)) st1) (v83 : Int) (h : impl_WorldOk_b1 w v83 = some st1) : Fin cx impl_WorldOk_X res outs impl_WorldOk_k6 (impl_WorldOk_S5 w v83) :=
  P0 <|
 rg <| cdD 0 h (fun h =>
 rg <| ixS eTold 0 h fun told htold h =>
 rg <| cb impl_in_t impl_in_ok 2 false h fun in_ h =>
 cdD 4 h (fun h =>
 rg <| (retD h hc1 fun e => fn0 Tryz.func21 (hr1 _ e))) (fun h =>
 cb impl_reqOk_t impl_reqOk_ok 7 false h fun reqOk h =>
 cdD 10 h (fun h =>
 rg <| (retD h hc1 fun e => fn0 Tryz.func21 (hr1 _ e))) (fun h =>
 cdD 18 h (fun h =>
 rg <| (retD h hc1 fun e => fn0 Tryz.func21 (hr1 _ e))) (fun h =>
 cb impl_in_t impl_in_ok 21 false h fun in_1 h =>
 cdD 24 h (fun h =>
 rg <| (retD h hc1 fun e => fn0 Tryz.func21 (hr1 _ e))) (fun h =>
 cb impl_in_t impl_in_ok 27 false h fun in_2 h =>
 cdD 29 h (fun h =>
 rg <| (retD h hc1 fun e => fn0 Tryz.func21 (hr1 _ e))) (fun h =>
 rg <| (nxtD h hc1 fun hI => sg [] [81, 82, 83] [] hI))))))) (fun h =>
 (brkD h hc1 fun e => sg [] [] [] (hb1 _ e)))
noncomputable def impl_WorldOk_k7 (w : TWorld) : Option Bool :=
  ((loop (fun s : Int => impl_WorldOk_b1 w s) 0).bind fun x => x.go (fun r => some r) fun s => impl_WorldOk_k5)
theorem impl_WorldOk_k7_ok (w : TWorld) (r : Bool) (h : impl_WorldOk_k7 w = some r) : Fin cx impl_WorldOk_X (impl_WorldOk_R r) (impl_WorldOk_O r) impl_WorldOk_k3 (impl_WorldOk_S3 w) :=
  P0 <|
 rg <| loopJ h fun x hl hr hb => sg [] [81, 82, 83] [] (loopD (I := fun s : Int => Fin cx impl_WorldOk_X (impl_WorldOk_R r) (impl_WorldOk_O r) impl_WorldOk_k6 (impl_WorldOk_S5 w s)) hl fun s st h hc => impl_WorldOk_b1_ok w _ _ x (fun s e => impl_WorldOk_k5_ok r (hb s e)) (fun v e => ⟨congrArg impl_WorldOk_R (Option.some.inj (hr v e)).symm, congrArg impl_WorldOk_O (Option.some.inj (hr v e)).symm⟩) st hc s h)
noncomputable def impl_WorldOk_k8 : List Item := posI 2000 7 [false, false, false] [.code impl_WorldOk_c]
noncomputable def impl_WorldOk_S6 (w : TWorld) (v65 : Int) : St := ⟨(bs 1 (.ptr 1 0 0 :: (bs 61 (vsl 3 eAsked w.Asked :: (vi (w.Asked.length : Int) :: (vi v65 :: (bs 52 []))))))), [some [], some [.var 35 [vsl 27 eNode w.Nodes, vsl 13 eMsg w.Net, vsl 3 eAsked w.Asked, vsl 5 eTold w.Told]]]⟩
noncomputable def impl_WorldOk_b2 (w : TWorld) (v65 : Int) : Option (Stp Bool Int Unit) :=
  (bif decide (v65 < (w.Asked.length : Int)) then
 ((idx w.Asked v65).bind fun asked =>
 ((impl_reqOk asked.Req).bind fun reqOk1 =>
 (bif (!reqOk1) then
 some (Stp.ret false)
 else
 ((impl_ProgOk asked.Prog).bind fun progOk =>
 (bif (!progOk) then
 some (Stp.ret false)
 else
 some (Stp.nxt (w64 (v65 + 1))))))))
 else
 some (Stp.brk ()))
theorem impl_WorldOk_b2_ok (w : TWorld) (res : V) (outs : List (Option V)) (x1 : Exc Bool Unit) (hb1 : HB cx impl_WorldOk_X res outs x1 impl_WorldOk_k3 (fun s => impl_WorldOk_S3 w)) (hr1 : HR res outs x1 impl_WorldOk_R impl_WorldOk_O) (st1 : Stp Bool Int Unit) (hc1 : Cont x1 (fun s : Int => Fin cx impl_WorldOk_X res outs impl_WorldOk_k8 (impl_WorldOk_S6 w s)) st1) (v65 : Int) (h : impl_WorldOk_b2 w v65 = some st1) : Fin cx impl_WorldOk_X res outs impl_WorldOk_k8 (impl_WorldOk_S6 w v65) :=
  P0 <|
 rg <| cdD 0 h (fun h =>
 rg <| ixS eAsked 0 h fun asked hasked h =>
 rg <| cb impl_reqOk_t impl_reqOk_ok 2 false h fun reqOk1 h =>
 cdD 4 h (fun h =>
 rg <| (retD h hc1 fun e => fn0 Tryz.func21 (hr1 _ e))) (fun h =>
 cb impl_ProgOk_t impl_ProgOk_ok 7 false h fun progOk h =>
 cdD 9 h (fun h =>
 rg <| (retD h hc1 fun e => fn0 Tryz.func21 (hr1 _ e))) (fun h =>
 rg <| (nxtD h hc1 fun hI => sg [] [1, 63, 64, 65] [(1, 0)] hI)))) (fun h =>
 (brkD h hc1 fun e => sg [] [1] [(1, 0)] (hb1 _ e)))
noncomputable def impl_WorldOk_k9 (w : TWorld) : Option Bool :=
  ((loop (fun s : Int => impl_WorldOk_b2 w s) 0).bind fun x => x.go (fun r => some r) fun s => impl_WorldOk_k7 w)
theorem impl_WorldOk_k9_ok (w : TWorld) (r : Bool) (h : impl_WorldOk_k9 w = some r) : Fin cx impl_WorldOk_X (impl_WorldOk_R r) (impl_WorldOk_O r) impl_WorldOk_k2 (impl_WorldOk_S2 w) :=
  P0 <|
 rg <| loopJ h fun x hl hr hb => sg [] [1, 63, 64, 65] [(1, 0)] (loopD (I := fun s : Int => Fin cx impl_WorldOk_X (impl_WorldOk_R r) (impl_WorldOk_O r) impl_WorldOk_k8 (impl_WorldOk_S6 w s)) hl fun s st h hc => impl_WorldOk_b2_ok w _ _ x (fun s e => impl_WorldOk_k7_ok w r (hb s e)) (fun v e => ⟨congrArg impl_WorldOk_R (Option.some.inj (hr v e)).symm, congrArg impl_WorldOk_O (Option.some.inj (hr v e)).symm⟩) st hc s h)
noncomputable def impl_WorldOk_k10 : List Item := posI 2000 5 [false, false] [.code impl_WorldOk_c]
noncomputable def impl_WorldOk_S7 (w : TWorld) (v54 : Int) : St := ⟨(bs 1 (.ptr 1 0 0 :: (bs 50 (vsl 13 eMsg w.Net :: (vi (w.Net.length : Int) :: (vi v54 :: (bs 63 []))))))), [some [], some [.var 35 [vsl 27 eNode w.Nodes, vsl 13 eMsg w.Net, vsl 3 eAsked w.Asked, vsl 5 eTold w.Told]]]⟩
noncomputable def impl_WorldOk_b3 (w : TWorld) (v54 : Int) : Option (Stp Bool Int Unit) :=
  (bif decide (v54 < (w.Net.length : Int)) then
 ((idx w.Net v54).bind fun msg =>
 ((impl_MsgOk msg).bind fun msgOk =>
 (bif (!msgOk) then
 some (Stp.ret false)
 else
 some (Stp.nxt (w64 (v54 + 1))))))
 else
 some (Stp.brk ()))
theorem impl_WorldOk_b3_ok (w : TWorld) (res : V) (outs : List (Option V)) (x1 : Exc Bool Unit) (hb1 : HB cx impl_WorldOk_X res outs x1 impl_WorldOk_k2 (fun s => impl_WorldOk_S2 w)) (hr1 : HR res outs x1 impl_WorldOk_R impl_WorldOk_O) (st1 : Stp Bool Int Unit) (hc1 : Cont x1 (fun s : Int => Fin cx impl_WorldOk_X res outs impl_WorldOk_k10 (impl_WorldOk_S7 w s)) st1) (v54 : Int) (h : impl_WorldOk_b3 w v54 = some st1) : Fin cx impl_WorldOk_X res outs impl_WorldOk_k10 (impl_WorldOk_S7 w v54) :=
  P0 <|
 rg <| cdD 0 h (fun h =>
 rg <| ixS eMsg 0 h fun msg hmsg h =>
 rg <| cb impl_MsgOk_t impl_MsgOk_ok 1 false h fun msgOk h =>
 cdD 2 h (fun h =>
 rg <| (retD h hc1 fun e => fn0 Tryz.func21 (hr1 _ e))) (fun h =>
 rg <| (nxtD h hc1 fun hI => sg [] [1, 52, 53, 54] [(1, 0)] hI))) (fun h =>
 (brkD h hc1 fun e => sg [] [1] [(1, 0)] (hb1 _ e)))
noncomputable def impl_WorldOk_k11 (w : TWorld) : Option Bool :=
  ((loop (fun s : Int => impl_WorldOk_b3 w s) 0).bind fun x => x.go (fun r => some r) fun s => impl_WorldOk_k9 w)
theorem impl_WorldOk_k11_ok (w : TWorld) (r : Bool) (h : impl_WorldOk_k11 w = some r) : Fin cx impl_WorldOk_X (impl_WorldOk_R r) (impl_WorldOk_O r) impl_WorldOk_k1 (impl_WorldOk_S1 w) :=
  P0 <|
 rg <| loopJ h fun x hl hr hb => sg [] [1, 52, 53, 54] [(1, 0)] (loopD (I := fun s : Int => Fin cx impl_WorldOk_X (impl_WorldOk_R r) (impl_WorldOk_O r) impl_WorldOk_k10 (impl_WorldOk_S7 w s)) hl fun s st h hc => impl_WorldOk_b3_ok w _ _ x (fun s e => impl_WorldOk_k9_ok w r (hb s e)) (fun v e => ⟨congrArg impl_WorldOk_R (Option.some.inj (hr v e)).symm, congrArg impl_WorldOk_O (Option.some.inj (hr v e)).symm⟩) st hc s h)
noncomputable def impl_WorldOk_k12 : List Item := posI 2000 3 [false] [.code impl_WorldOk_c]
noncomputable def impl_WorldOk_S8 (w : TWorld) (v36 : Int) : St := ⟨(bs 1 (.ptr 1 0 0 :: (bs 32 (vsl 27 eNode w.Nodes :: (vi (w.Nodes.length : Int) :: (vi v36 :: (bs 81 []))))))), [some [], some [.var 35 [vsl 27 eNode w.Nodes, vsl 13 eMsg w.Net, vsl 3 eAsked w.Asked, vsl 5 eTold w.Told]]]⟩
noncomputable def impl_WorldOk_b4 (w : TWorld) (v36 : Int) : Option (Stp Bool Int Unit) :=
  (bif decide (v36 < (w.Nodes.length : Int)) then
 ((idx w.Nodes v36).bind fun node =>
 (bif (node.Id != v36) then
 some (Stp.ret false)
 else
 ((impl_NodeOk node).bind fun nodeOk =>
 (bif (!nodeOk) then
 some (Stp.ret false)
 else
 some (Stp.nxt (w64 (v36 + 1)))))))
 else
 some (Stp.brk ()))
theorem impl_WorldOk_b4_ok (w : TWorld) (res : V) (outs : List (Option V)) (x1 : Exc Bool Unit) (hb1 : HB cx impl_WorldOk_X res outs x1 impl_WorldOk_k1 (fun s => impl_WorldOk_S1 w)) (hr1 : HR res outs x1 impl_WorldOk_R impl_WorldOk_O) (st1 : Stp Bool Int Unit) (hc1 : Cont x1 (fun s : Int => Fin cx impl_WorldOk_X res outs impl_WorldOk_k12 (impl_WorldOk_S8 w s)) st1) (v36 : Int) (h : impl_WorldOk_b4 w v36 = some st1) : Fin cx impl_WorldOk_X res outs impl_WorldOk_k12 (impl_WorldOk_S8 w v36) :=
  P0 <|
 rg <| cdD 0 h (fun h =>
 rg <| ixS eNode 1 h fun node hnode h =>
 rg <| cdD 4 h (fun h =>
 rg <| (retD h hc1 fun e => fn0 Tryz.func21 (hr1 _ e))) (fun h =>
 cb impl_NodeOk_t impl_NodeOk_ok 6 false h fun nodeOk h =>
 cdD 8 h (fun h =>
 rg <| (retD h hc1 fun e => fn0 Tryz.func21 (hr1 _ e))) (fun h =>
 rg <| (nxtD h hc1 fun hI => sg [] [1, 34, 35, 36] [(1, 0)] hI)))) (fun h =>
 (brkD h hc1 fun e => sg [] [1] [(1, 0)] (hb1 _ e)))
noncomputable def impl_WorldOk (w : TWorld) : Option Bool :=
  (bif ((w.Nodes.length : Int) != 3) then
 some false
 else
 (bif decide ((w.Net.length : Int) > 40) then
 some false
 else
 (bif decide ((w.Asked.length : Int) > 60) then
 some false
 else
 (bif decide ((w.Told.length : Int) > 60) then
 some false
 else
 ((loop (fun s : Int => impl_WorldOk_b4 w s) 0).bind fun x => x.go (fun r => some r) fun s => impl_WorldOk_k11 w)))))
theorem impl_WorldOk_ok {w : TWorld} (r : Bool) (h : impl_WorldOk w = some r) : ACalls cx.P 21 [.agg (eWorld w)] (impl_WorldOk_R r) (impl_WorldOk_O r) :=
  ACalls.of (cx := cx) (X := impl_WorldOk_X) (c := impl_WorldOk_c) Tryz.func21 (by kernel_rfl) (by kernel_rfl) (by kernel_rfl) (P0 <|
 rg2 <| cdD 4 h (fun h =>
 rg <| fe Tryz.func21 h) (fun h =>
 cdD 10 h (fun h =>
 rg <| fe Tryz.func21 h) (fun h =>
 cdD 16 h (fun h =>
 rg <| fe Tryz.func21 h) (fun h =>
 cdD 21 h (fun h =>
 rg <| fe Tryz.func21 h) (fun h =>
 rg <| loopJ h fun x hl hr hb => sg [] [1, 34, 35, 36] [(1, 0)] (loopD (I := fun s : Int => Fin cx impl_WorldOk_X (impl_WorldOk_R r) (impl_WorldOk_O r) impl_WorldOk_k12 (impl_WorldOk_S8 w s)) hl fun s st h hc => impl_WorldOk_b4_ok w _ _ x (fun s e => impl_WorldOk_k11_ok w r (hb s e)) (fun v e => ⟨congrArg impl_WorldOk_R (Option.some.inj (hr v e)).symm, congrArg impl_WorldOk_O (Option.some.inj (hr v e)).symm⟩) st hc s h))))))

/-! ### impl_copied_Entry -/
noncomputable def impl_copied_Entry_c : Code := bodyOf Tryz.f92
noncomputable def impl_copied_Entry_X : Sig := { f := 92, fn := Tryz.f92, rms := [.val [some 7] [some 68]], oms := [none] }
noncomputable def impl_copied_Entry_R (r : List TEntry) : V := vosl 68 7 eEntry r
noncomputable def impl_copied_Entry_O (r : List TEntry) : List (Option V) := [none]
noncomputable def impl_copied_Entry_t (i : Nat) (fr : Bool) (r : List TEntry) : Nat × Tell := (i, { a := .call [.val [some 7] []] fr (impl_copied_Entry_R r) (impl_copied_Entry_O r) })
noncomputable def impl_copied_Entry (list : List TEntry) : Option (List TEntry) :=
  (bif ((list.length : Int) == 0) then
 some []
 else
 (need (0 ≤ (list.length : Int) ∧ (list.length : Int) * 88 ≤ 140737488355328)
 ((need (list.length = (List.replicate (list.length : Int).toNat (TEntry.mk false (TReq.mk 0 0) (TRun.mk [] [] 0 0))).length)
 (some list)))))
theorem impl_copied_Entry_ok {list : List TEntry} (r : List TEntry) (h : impl_copied_Entry list = some r) : ACalls cx.P 92 [vsl 7 eEntry list] (impl_copied_Entry_R r) (impl_copied_Entry_O r) :=
  ACalls.of (cx := cx) (X := impl_copied_Entry_X) (c := impl_copied_Entry_c) Tryz.func92 (by kernel_rfl) (by kernel_rfl) (by kernel_rfl) (P0 <|
 rg2 <| cdD 2 h (fun h =>
 rg <| fe Tryz.func92 h) (fun h =>
 rg <| needD h fun e1 h =>
 mkS 2 7 68 7 88 eEntry (TEntry.mk false (TReq.mk 0 0) (TRun.mk [] [] 0 0)) ti68 (.ck ck68) e1 (by decide) (by rfl) <| rg <| needD h fun e2 h =>
 om (Ent.row 68 7 (List.replicate (list.length : Int).toNat (TEntry.mk false (TReq.mk 0 0) (TRun.mk [] [] 0 0))).length (list.map eEntry) = erow 68 7 eEntry list) (row_copy e2) <| om ((List.replicate (list.length : Int).toNat (TEntry.mk false (TReq.mk 0 0) (TRun.mk [] [] 0 0))).length = (List.replicate (list.length : Int).toNat (TEntry.mk false (TReq.mk 0 0) (TRun.mk [] [] 0 0))).length) rfl <| ob e2 <| tl (2, { e := some (erow 68 7 eEntry list) }) <| rg <| om ((List.replicate (list.length : Int).toNat (TEntry.mk false (TReq.mk 0 0) (TRun.mk [] [] 0 0))).length = list.length) (by simp) <| fe Tryz.func92 h))

/-! ### impl_copied_Read -/
noncomputable def impl_copied_Read_c : Code := bodyOf Tryz.f141
noncomputable def impl_copied_Read_X : Sig := { f := 141, fn := Tryz.f141, rms := [.val [some 2] []], oms := [none] }
noncomputable def impl_copied_Read_R (r : List TRead) : V := vsl 2 eRead r
noncomputable def impl_copied_Read_O (r : List TRead) : List (Option V) := [none]
noncomputable def impl_copied_Read_t (i : Nat) (fr : Bool) (r : List TRead) : Nat × Tell := (i, { a := .call [.val [some 2] []] fr (impl_copied_Read_R r) (impl_copied_Read_O r) })
noncomputable def impl_copied_Read (list : List TRead) : Option (List TRead) :=
  (bif ((list.length : Int) == 0) then
 some []
 else
 (need (0 ≤ (list.length : Int) ∧ (list.length : Int) * 16 ≤ 140737488355328)
 ((need (list.length = (List.replicate (list.length : Int).toNat (TRead.mk 0 0)).length)
 (some list)))))
theorem impl_copied_Read_ok {list : List TRead} (r : List TRead) (h : impl_copied_Read list = some r) : ACalls cx.P 141 [vsl 2 eRead list] (impl_copied_Read_R r) (impl_copied_Read_O r) :=
  ACalls.of (cx := cx) (X := impl_copied_Read_X) (c := impl_copied_Read_c) Tryz.func141 (by kernel_rfl) (by kernel_rfl) (by kernel_rfl) (P0 <|
 rg2 <| cdD 2 h (fun h =>
 rg <| fe Tryz.func141 h) (fun h =>
 rg <| needD h fun e1 h =>
 mkS 2 7 180 2 16 eRead (TRead.mk 0 0) ti180 (.none) e1 (by decide) (by rfl) <| rg <| needD h fun e2 h =>
 om (Ent.row 180 2 (List.replicate (list.length : Int).toNat (TRead.mk 0 0)).length (list.map eRead) = erow 180 2 eRead list) (row_copy e2) <| om ((List.replicate (list.length : Int).toNat (TRead.mk 0 0)).length = (List.replicate (list.length : Int).toNat (TRead.mk 0 0)).length) rfl <| ob e2 <| tl (2, { e := some (erow 180 2 eRead list) }) <| rg <| om ((List.replicate (list.length : Int).toNat (TRead.mk 0 0)).length = list.length) (by simp) <| fe Tryz.func141 h))

/-! ### impl_copied_Put -/
noncomputable def impl_copied_Put_c : Code := bodyOf Tryz.f142
noncomputable def impl_copied_Put_X : Sig := { f := 142, fn := Tryz.f142, rms := [.val [some 2] []], oms := [none] }
noncomputable def impl_copied_Put_R (r : List TPut) : V := vsl 2 ePut r
noncomputable def impl_copied_Put_O (r : List TPut) : List (Option V) := [none]
noncomputable def impl_copied_Put_t (i : Nat) (fr : Bool) (r : List TPut) : Nat × Tell := (i, { a := .call [.val [some 2] []] fr (impl_copied_Put_R r) (impl_copied_Put_O r) })
noncomputable def impl_copied_Put (list : List TPut) : Option (List TPut) :=
  (bif ((list.length : Int) == 0) then
 some []
 else
 (need (0 ≤ (list.length : Int) ∧ (list.length : Int) * 16 ≤ 140737488355328)
 ((need (list.length = (List.replicate (list.length : Int).toNat (TPut.mk 0 0)).length)
 (some list)))))
theorem impl_copied_Put_ok {list : List TPut} (r : List TPut) (h : impl_copied_Put list = some r) : ACalls cx.P 142 [vsl 2 ePut list] (impl_copied_Put_R r) (impl_copied_Put_O r) :=
  ACalls.of (cx := cx) (X := impl_copied_Put_X) (c := impl_copied_Put_c) Tryz.func142 (by kernel_rfl) (by kernel_rfl) (by kernel_rfl) (P0 <|
 rg2 <| cdD 2 h (fun h =>
 rg <| fe Tryz.func142 h) (fun h =>
 rg <| needD h fun e1 h =>
 mkS 2 7 182 2 16 ePut (TPut.mk 0 0) ti182 (.none) e1 (by decide) (by rfl) <| rg <| needD h fun e2 h =>
 om (Ent.row 182 2 (List.replicate (list.length : Int).toNat (TPut.mk 0 0)).length (list.map ePut) = erow 182 2 ePut list) (row_copy e2) <| om ((List.replicate (list.length : Int).toNat (TPut.mk 0 0)).length = (List.replicate (list.length : Int).toNat (TPut.mk 0 0)).length) rfl <| ob e2 <| tl (2, { e := some (erow 182 2 ePut list) }) <| rg <| om ((List.replicate (list.length : Int).toNat (TPut.mk 0 0)).length = list.length) (by simp) <| fe Tryz.func142 h))

/-! ### impl_runCopy -/
noncomputable def impl_runCopy_c : Code := bodyOf Tryz.f128
noncomputable def impl_runCopy_X : Sig := { f := 128, fn := Tryz.f128, rms := [.val ck66 []], oms := [none] }
noncomputable def impl_runCopy_R (r : TRun) : V := .agg (eRun r)
noncomputable def impl_runCopy_O (r : TRun) : List (Option V) := [none]
noncomputable def impl_runCopy_t (i : Nat) (fr : Bool) (r : TRun) : Nat × Tell := (i, { a := .call [.val ck66 []] fr (impl_runCopy_R r) (impl_runCopy_O r) })
noncomputable def impl_runCopy (r_ : TRun) : Option TRun :=
  ((impl_copied_Read r_.Reads).bind fun read =>
 ((impl_copied_Put r_.Puts).bind fun put =>
 some (TRun.mk read put r_.Val r_.Code)))
theorem impl_runCopy_ok {r_ : TRun} (r : TRun) (h : impl_runCopy r_ = some r) : ACalls cx.P 128 [.agg (eRun r_)] (impl_runCopy_R r) (impl_runCopy_O r) :=
  ACalls.of (cx := cx) (X := impl_runCopy_X) (c := impl_runCopy_c) Tryz.func128 (by kernel_rfl) (by kernel_rfl) (by kernel_rfl) (P0 <|
 rg2 <| cb impl_copied_Read_t impl_copied_Read_ok 2 false h fun read h =>
 cb impl_copied_Put_t impl_copied_Put_ok 5 false h fun put h =>
 fe Tryz.func128 h)

/-! ### impl_entryCopy -/
noncomputable def impl_entryCopy_c : Code := bodyOf Tryz.f93
noncomputable def impl_entryCopy_X : Sig := { f := 93, fn := Tryz.f93, rms := [.val ck68 []], oms := [none] }
noncomputable def impl_entryCopy_R (r : TEntry) : V := .agg (eEntry r)
noncomputable def impl_entryCopy_O (r : TEntry) : List (Option V) := [none]
noncomputable def impl_entryCopy_t (i : Nat) (fr : Bool) (r : TEntry) : Nat × Tell := (i, { a := .call [.val ck68 []] fr (impl_entryCopy_R r) (impl_entryCopy_O r) })
noncomputable def impl_entryCopy (e_ : TEntry) : Option TEntry :=
  ((impl_runCopy e_.Run).bind fun runCopy =>
 some (TEntry.mk e_.None e_.Req runCopy))
theorem impl_entryCopy_ok {e_ : TEntry} (r : TEntry) (h : impl_entryCopy e_ = some r) : ACalls cx.P 93 [.agg (eEntry e_)] (impl_entryCopy_R r) (impl_entryCopy_O r) :=
  ACalls.of (cx := cx) (X := impl_entryCopy_X) (c := impl_entryCopy_c) Tryz.func93 (by kernel_rfl) (by kernel_rfl) (by kernel_rfl) (P0 <|
 rg2 <| cb impl_runCopy_t impl_runCopy_ok 6 false h fun runCopy h =>
 fe Tryz.func93 h)

/-! ### impl_entriesCopy -/
noncomputable def impl_entriesCopy_c : Code := bodyOf Tryz.f49
noncomputable def impl_entriesCopy_X : Sig := { f := 49, fn := Tryz.f49, rms := [.val [some 7] []], oms := [none] }
noncomputable def impl_entriesCopy_R (r : List TEntry) : V := vsl 7 eEntry r
noncomputable def impl_entriesCopy_O (r : List TEntry) : List (Option V) := [none]
noncomputable def impl_entriesCopy_t (i : Nat) (fr : Bool) (r : List TEntry) : Nat × Tell := (i, { a := .call [.val [some 7] []] fr (impl_entriesCopy_R r) (impl_entriesCopy_O r) })
noncomputable def impl_entriesCopy_k1 : List Item := posI 2000 4 [false] [.code impl_entriesCopy_c]
noncomputable def impl_entriesCopy_S1 (out1 : List TEntry) : St := ⟨(bs 3 (.own 1 0 7 0 out1.length :: (bs 18 []))), [some [], some [erow 68 7 eEntry out1]]⟩
noncomputable def impl_entriesCopy_k2 (out1 : List TEntry) : Option (List TEntry) :=
  some out1
theorem impl_entriesCopy_k2_ok (r : List TEntry) (out1 : List TEntry) (h : impl_entriesCopy_k2 out1 = some r) : Fin cx impl_entriesCopy_X (impl_entriesCopy_R r) (impl_entriesCopy_O r) impl_entriesCopy_k1 (impl_entriesCopy_S1 out1) :=
  P0 <|
 rg <| om (out1.length = out1.length) rfl <| fe Tryz.func49 h
noncomputable def impl_entriesCopy_k3 : List Item := posI 2000 3 [] [.code impl_entriesCopy_c]
noncomputable def impl_entriesCopy_S2 (entry : List TEntry) (out : List TEntry) (v9 : Int) : St := ⟨(bs 3 (.own 1 0 7 0 out.length :: (bs 4 (vi (entry.length : Int) :: (vi v9 :: (bs 12 [])))))), [some [], some [erow 68 7 eEntry out]]⟩
noncomputable def impl_entriesCopy_b1 (entry : List TEntry) (out : List TEntry) (v9 : Int) : Option (Stp (List TEntry) ((List TEntry) × Int) (List TEntry)) :=
  (bif decide (v9 < (entry.length : Int)) then
 ((idx out v9).bind fun entry1 =>
 ((impl_entryCopy entry1).bind fun entryCopy =>
 some (Stp.nxt (out.set v9.toNat entryCopy, w64 (v9 + 1)))))
 else
 some (Stp.brk out))
theorem impl_entriesCopy_b1_ok (entry : List TEntry) (res : V) (outs : List (Option V)) (x1 : Exc (List TEntry) (List TEntry)) (hb1 : HB cx impl_entriesCopy_X res outs x1 impl_entriesCopy_k1 impl_entriesCopy_S1) (hr1 : HR res outs x1 impl_entriesCopy_R impl_entriesCopy_O) (st1 : Stp (List TEntry) ((List TEntry) × Int) (List TEntry)) (hc1 : Cont x1 (fun s : (List TEntry) × Int => Fin cx impl_entriesCopy_X res outs impl_entriesCopy_k3 (impl_entriesCopy_S2 entry s.1 s.2)) st1) (out : List TEntry) (v9 : Int) (h : impl_entriesCopy_b1 entry out v9 = some st1) : Fin cx impl_entriesCopy_X res outs impl_entriesCopy_k3 (impl_entriesCopy_S2 entry out v9) :=
  P0 <|
 rg <| cdD 0 h (fun h =>
 rg2 <| bindD h fun entry1 hentry1 h =>
 ixB hentry1 <| ldR eEntry 5 hentry1 <| cb impl_entryCopy_t impl_entryCopy_ok 6 false h fun entryCopy h =>
 ixB hentry1 <| stR 68 7 eEntry 8 ck68 entryCopy hentry1 <| rg <| (nxtD h hc1 fun hI => om ((.own 1 0 7 0 out.length : V) = .own 1 0 7 0 (out.set v9.toNat entryCopy).length) (by simp) <| sg [.is (.tmp 3) (.own 1 0 7 0 (out.set v9.toNat entryCopy).length)] [3, 8, 9] [(1, 0)] hI)) (fun h =>
 (brkD h hc1 fun e => sg [] [3] [(1, 0)] (hb1 _ e)))
noncomputable def impl_entriesCopy (list : List TEntry) : Option (List TEntry) :=
  ((impl_copied_Entry list).bind fun entry =>
 ((loop (fun s : (List TEntry) × Int => impl_entriesCopy_b1 entry s.1 s.2) (entry, 0)).bind fun x => x.go (fun r => some r) fun s => impl_entriesCopy_k2 s))
theorem impl_entriesCopy_ok {list : List TEntry} (r : List TEntry) (h : impl_entriesCopy list = some r) : ACalls cx.P 49 [vsl 7 eEntry list] (impl_entriesCopy_R r) (impl_entriesCopy_O r) :=
  ACalls.of (cx := cx) (X := impl_entriesCopy_X) (c := impl_entriesCopy_c) Tryz.func49 (by kernel_rfl) (by kernel_rfl) (by kernel_rfl) (P0 <|
 rg2 <| cb impl_copied_Entry_t impl_copied_Entry_ok 1 false h fun entry h =>
 rg <| loopJ h fun x hl hr hb => sg [] [3, 8, 9] [(3, 0)] (loopD (I := fun s : (List TEntry) × Int => Fin cx impl_entriesCopy_X (impl_entriesCopy_R r) (impl_entriesCopy_O r) impl_entriesCopy_k3 (impl_entriesCopy_S2 entry s.1 s.2)) hl fun s st h hc => impl_entriesCopy_b1_ok entry _ _ x (fun s e => impl_entriesCopy_k2_ok r s (hb s e)) (fun v e => ⟨congrArg impl_entriesCopy_R (Option.some.inj (hr v e)).symm, congrArg impl_entriesCopy_O (Option.some.inj (hr v e)).symm⟩) st hc s.1 s.2 h))

/-! ### impl_WorldLog -/
noncomputable def impl_WorldLog_c : Code := bodyOf Tryz.f22
noncomputable def impl_WorldLog_X : Sig := { f := 22, fn := Tryz.f22, rms := [.val [some 7] []], oms := [none] }
noncomputable def impl_WorldLog_R (r : List TEntry) : V := vsl 7 eEntry r
noncomputable def impl_WorldLog_O (r : List TEntry) : List (Option V) := [none]
noncomputable def impl_WorldLog_t (i : Nat) (fr : Bool) (r : List TEntry) : Nat × Tell := (i, { a := .call [.val ck35 []] fr (impl_WorldLog_R r) (impl_WorldLog_O r) })
noncomputable def impl_WorldLog_k1 : List Item := posI 2000 4 [false] [.code impl_WorldLog_c]
noncomputable def impl_WorldLog_S1 (w : TWorld) (best1 : Int) : St := ⟨(bs 1 (.ptr 1 0 0 :: (bs 1 (vi best1 :: (bs 36 []))))), [some [], some [.var 35 [vsl 27 eNode w.Nodes, vsl 13 eMsg w.Net, vsl 3 eAsked w.Asked, vsl 5 eTold w.Told]]]⟩
noncomputable def impl_WorldLog_k2 (w : TWorld) (best1 : Int) : Option (List TEntry) :=
  (bif decide (best1 < 0) then
 some []
 else
 ((idx w.Nodes best1).bind fun node =>
 ((impl_entriesCopy node.Known).bind fun entriesCopy =>
 some entriesCopy)))
theorem impl_WorldLog_k2_ok (w : TWorld) (r : List TEntry) (best1 : Int) (h : impl_WorldLog_k2 w best1 = some r) : Fin cx impl_WorldLog_X (impl_WorldLog_R r) (impl_WorldLog_O r) impl_WorldLog_k1 (impl_WorldLog_S1 w best1) :=
  P0 <|
 rg <| cdD 1 h (fun h =>
 rg <| fe Tryz.func22 h) (fun h =>
 rg <| ixS eNode 3 h fun node hnode h =>
 cb impl_entriesCopy_t impl_entriesCopy_ok 6 false h fun entriesCopy h =>
 fe Tryz.func22 h)
noncomputable def impl_WorldLog_k3 : List Item := posI 2000 3 [] [.code impl_WorldLog_c]
noncomputable def impl_WorldLog_S2 (w : TWorld) (best : Int) (v9 : Int) : St := ⟨(bs 1 (.ptr 1 0 0 :: (bs 1 (vi best :: (bs 3 (vsl 27 eNode w.Nodes :: (vi (w.Nodes.length : Int) :: (vi v9 :: (bs 30 []))))))))), [some [], some [.var 35 [vsl 27 eNode w.Nodes, vsl 13 eMsg w.Net, vsl 3 eAsked w.Asked, vsl 5 eTold w.Told]]]⟩
noncomputable def impl_WorldLog_k4 : List Item := posI 2000 7 [true, true] [.code impl_WorldLog_c]
noncomputable def impl_WorldLog_S3 (w : TWorld) (v9 : Int) (best2 : Int) : St := ⟨(bs 1 (.ptr 1 0 0 :: (bs 1 (vi best2 :: (bs 3 (vsl 27 eNode w.Nodes :: (vi (w.Nodes.length : Int) :: (vi v9 :: (bs 30 []))))))))), [some [], some [.var 35 [vsl 27 eNode w.Nodes, vsl 13 eMsg w.Net, vsl 3 eAsked w.Asked, vsl 5 eTold w.Told]]]⟩
noncomputable def impl_WorldLog_j1 (v9 : Int) (best2 : Int) : Option (Stp (List TEntry) (Int × Int) Int) :=
  some (Stp.nxt (best2, w64 (v9 + 1)))
theorem impl_WorldLog_j1_ok (w : TWorld) (v9 : Int) (res : V) (outs : List (Option V)) (x1 : Exc (List TEntry) Int) (hb1 : HB cx impl_WorldLog_X res outs x1 impl_WorldLog_k1 (impl_WorldLog_S1 w)) (hr1 : HR res outs x1 impl_WorldLog_R impl_WorldLog_O) (st1 : Stp (List TEntry) (Int × Int) Int) (hc1 : Cont x1 (fun s : Int × Int => Fin cx impl_WorldLog_X res outs impl_WorldLog_k3 (impl_WorldLog_S2 w s.1 s.2)) st1) (best2 : Int) (h : impl_WorldLog_j1 v9 best2 = some st1) : Fin cx impl_WorldLog_X res outs impl_WorldLog_k4 (impl_WorldLog_S3 w v9 best2) :=
  P0 <|
 rg <| (nxtD h hc1 fun hI => sg [] [1, 3, 7, 8, 9] [(1, 0)] hI)
noncomputable def impl_WorldLog_b1 (w : TWorld) (best : Int) (v9 : Int) : Option (Stp (List TEntry) (Int × Int) Int) :=
  (bif decide (v9 < (w.Nodes.length : Int)) then
 ((idx w.Nodes v9).bind fun node1 =>
 (((bif decide (best < 0) then
 some (Exc.brk v9)
 else
 ((idx w.Nodes best).bind fun node2 =>
 (bif decide ((node1.Known.length : Int) > (node2.Known.length : Int)) then
 some (Exc.brk v9)
 else
 some (Exc.brk best)))) : Option (Exc (Stp (List TEntry) (Int × Int) Int) Int)).bind fun x => x.go some fun j => impl_WorldLog_j1 v9 j))
 else
 some (Stp.brk best))
theorem impl_WorldLog_b1_ok (w : TWorld) (res : V) (outs : List (Option V)) (x1 : Exc (List TEntry) Int) (hb1 : HB cx impl_WorldLog_X res outs x1 impl_WorldLog_k1 (impl_WorldLog_S1 w)) (hr1 : HR res outs x1 impl_WorldLog_R impl_WorldLog_O) (st1 : Stp (List TEntry) (Int × Int) Int) (hc1 : Cont x1 (fun s : Int × Int => Fin cx impl_WorldLog_X res outs impl_WorldLog_k3 (impl_WorldLog_S2 w s.1 s.2)) st1) (best : Int) (v9 : Int) (h : impl_WorldLog_b1 w best v9 = some st1) : Fin cx impl_WorldLog_X res outs impl_WorldLog_k3 (impl_WorldLog_S2 w best v9) :=
  P0 <|
 rg <| cdD 0 h (fun h =>
 rg <| ixS eNode 1 h fun node1 hnode1 h =>
 joinD (I := fun j : Int => Fin cx impl_WorldLog_X res outs impl_WorldLog_k4 (impl_WorldLog_S3 w v9 j)) h (fun j h => impl_WorldLog_j1_ok w v9 res outs x1 hb1 hr1 st1 hc1 j h) (fun x2 h hc2 =>
  rg <| cdD 2 h (fun h =>
 rg <| (jbrkD h hc2 fun hI => sg [] [1, 3, 7, 8, 9] [(1, 0)] hI)) (fun h =>
 ixS eNode 9 h fun node2 hnode2 h =>
 cdD 14 h (fun h =>
 rg <| (jbrkD h hc2 fun hI => sg [] [1, 3, 7, 8, 9] [(1, 0)] hI)) (fun h =>
 (jbrkD h hc2 fun hI => sg [] [1, 3, 7, 8, 9] [(1, 0)] hI))))) (fun h =>
 (brkD h hc1 fun e => sg [] [1, 3] [(1, 0)] (hb1 _ e)))
noncomputable def impl_WorldLog (w : TWorld) : Option (List TEntry) :=
  ((loop (fun s : Int × Int => impl_WorldLog_b1 w s.1 s.2) ((-1), 0)).bind fun x => x.go (fun r => some r) fun s => impl_WorldLog_k2 w s)
theorem impl_WorldLog_ok {w : TWorld} (r : List TEntry) (h : impl_WorldLog w = some r) : ACalls cx.P 22 [.agg (eWorld w)] (impl_WorldLog_R r) (impl_WorldLog_O r) :=
  ACalls.of (cx := cx) (X := impl_WorldLog_X) (c := impl_WorldLog_c) Tryz.func22 (by kernel_rfl) (by kernel_rfl) (by kernel_rfl) (P0 <|
 rg3 <| loopJ h fun x hl hr hb => sg [] [1, 3, 7, 8, 9] [(1, 0)] (loopD (I := fun s : Int × Int => Fin cx impl_WorldLog_X (impl_WorldLog_R r) (impl_WorldLog_O r) impl_WorldLog_k3 (impl_WorldLog_S2 w s.1 s.2)) hl fun s st h hc => impl_WorldLog_b1_ok w _ _ x (fun s e => impl_WorldLog_k2_ok w r s (hb s e)) (fun v e => ⟨congrArg impl_WorldLog_R (Option.some.inj (hr v e)).symm, congrArg impl_WorldLog_O (Option.some.inj (hr v e)).symm⟩) st hc s.1 s.2 h))

/-! ### impl_BoxOpen -/
noncomputable def impl_BoxOpen_c : Code := bodyOf Tryz.f94
noncomputable def impl_BoxOpen_X : Sig := { f := 94, fn := Tryz.f94, rms := [.val [some 2] []], oms := [] }
noncomputable def impl_BoxOpen_R (r : List TBox) : V := vsl 2 eBox r
noncomputable def impl_BoxOpen_O (r : List TBox) : List (Option V) := []
noncomputable def impl_BoxOpen_t (i : Nat) (fr : Bool) (r : List TBox) : Nat × Tell := (i, { a := .call [] fr (impl_BoxOpen_R r) (impl_BoxOpen_O r) })
noncomputable def impl_BoxOpen : Option (List TBox) :=
  (need (0 ≤ (4 : Int) ∧ (4 : Int) * 16 ≤ 140737488355328)
 (some (List.replicate (4 : Int).toNat (TBox.mk 0 0))))
theorem impl_BoxOpen_ok (r : List TBox) (h : impl_BoxOpen = some r) : ACalls cx.P 94 [] (impl_BoxOpen_R r) (impl_BoxOpen_O r) :=
  ACalls.of (cx := cx) (X := impl_BoxOpen_X) (c := impl_BoxOpen_c) Tryz.func94 (by kernel_rfl) (by kernel_rfl) (by kernel_rfl) (P0 <|
 rg2 <| needD h fun e1 h =>
 mkS 0 2 159 2 16 eBox (TBox.mk 0 0) ti159 (.none) e1 (by decide) (by rfl) <| om ((List.replicate (4 : Int).toNat (TBox.mk 0 0)).length = (List.replicate (4 : Int).toNat (TBox.mk 0 0)).length) rfl <| fe Tryz.func94 h)

/-! ### impl_CertOpen -/
noncomputable def impl_CertOpen_c : Code := bodyOf Tryz.f50
noncomputable def impl_CertOpen_X : Sig := { f := 50, fn := Tryz.f50, rms := [.val [none, some 2, some 4] []], oms := [] }
noncomputable def impl_CertOpen_R (r : TState) : V := .agg (eState r)
noncomputable def impl_CertOpen_O (r : TState) : List (Option V) := []
noncomputable def impl_CertOpen_t (i : Nat) (fr : Bool) (r : TState) : Nat × Tell := (i, { a := .call [] fr (impl_CertOpen_R r) (impl_CertOpen_O r) })
noncomputable def impl_CertOpen : Option TState :=
  ((impl_BoxOpen).bind fun boxOpen =>
 some (TState.mk 0 boxOpen []))
theorem impl_CertOpen_ok (r : TState) (h : impl_CertOpen = some r) : ACalls cx.P 50 [] (impl_CertOpen_R r) (impl_CertOpen_O r) :=
  ACalls.of (cx := cx) (X := impl_CertOpen_X) (c := impl_CertOpen_c) Tryz.func50 (by kernel_rfl) (by kernel_rfl) (by kernel_rfl) (P0 <|
 rg2 <| cb impl_BoxOpen_t impl_BoxOpen_ok 0 false h fun boxOpen h =>
 fe Tryz.func50 h)

/-! ### impl_BoxOk -/
noncomputable def impl_BoxOk_c : Code := bodyOf Tryz.f129
noncomputable def impl_BoxOk_X : Sig := { f := 129, fn := Tryz.f129, rms := [.val [] []], oms := [none] }
noncomputable def impl_BoxOk_R (r : Bool) : V := .b r
noncomputable def impl_BoxOk_O (r : Bool) : List (Option V) := [none]
noncomputable def impl_BoxOk_t (i : Nat) (fr : Bool) (r : Bool) : Nat × Tell := (i, { a := .call [.val [some 2] []] fr (impl_BoxOk_R r) (impl_BoxOk_O r) })
noncomputable def impl_BoxOk_k1 : List Item := posI 2000 3 [false] [.code impl_BoxOk_c]
noncomputable def impl_BoxOk_S1 (list : List TBox) : St := ⟨(vsl 2 eBox list :: (bs 24 [])), [some []]⟩
noncomputable def impl_BoxOk_k2 (list : List TBox) : Option Bool :=
  some ((list.length : Int) == 4)
theorem impl_BoxOk_k2_ok (list : List TBox) (r : Bool) (h : impl_BoxOk_k2 list = some r) : Fin cx impl_BoxOk_X (impl_BoxOk_R r) (impl_BoxOk_O r) impl_BoxOk_k1 (impl_BoxOk_S1 list) :=
  P0 <|
 rg <| fe Tryz.func129 h
noncomputable def impl_BoxOk_k3 : List Item := posI 2000 2 [] [.code impl_BoxOk_c]
noncomputable def impl_BoxOk_S2 (list : List TBox) (v7 : Int) : St := ⟨(vsl 2 eBox list :: (bs 4 (vsl 2 eBox list :: (vi (list.length : Int) :: (vi v7 :: (bs 17 [])))))), [some []]⟩
noncomputable def impl_BoxOk_b1 (list : List TBox) (v7 : Int) : Option (Stp Bool Int Unit) :=
  (bif decide (v7 < (list.length : Int)) then
 ((idx list v7).bind fun box =>
 ((impl_in box.Ver 0 1000000).bind fun in_ =>
 (bif (!in_) then
 some (Stp.ret false)
 else
 ((impl_in box.Val (-1000000) 1000000).bind fun in_1 =>
 (bif (!in_1) then
 some (Stp.ret false)
 else
 some (Stp.nxt (w64 (v7 + 1))))))))
 else
 some (Stp.brk ()))
theorem impl_BoxOk_b1_ok (list : List TBox) (res : V) (outs : List (Option V)) (x1 : Exc Bool Unit) (hb1 : HB cx impl_BoxOk_X res outs x1 impl_BoxOk_k1 (fun s => impl_BoxOk_S1 list)) (hr1 : HR res outs x1 impl_BoxOk_R impl_BoxOk_O) (st1 : Stp Bool Int Unit) (hc1 : Cont x1 (fun s : Int => Fin cx impl_BoxOk_X res outs impl_BoxOk_k3 (impl_BoxOk_S2 list s)) st1) (v7 : Int) (h : impl_BoxOk_b1 list v7 = some st1) : Fin cx impl_BoxOk_X res outs impl_BoxOk_k3 (impl_BoxOk_S2 list v7) :=
  P0 <|
 rg <| cdD 0 h (fun h =>
 rg <| ixS eBox 0 h fun box hbox h =>
 rg <| cb impl_in_t impl_in_ok 2 false h fun in_ h =>
 cdD 4 h (fun h =>
 rg <| (retD h hc1 fun e => fn0 Tryz.func129 (hr1 _ e))) (fun h =>
 cb impl_in_t impl_in_ok 7 false h fun in_1 h =>
 cdD 9 h (fun h =>
 rg <| (retD h hc1 fun e => fn0 Tryz.func129 (hr1 _ e))) (fun h =>
 rg <| (nxtD h hc1 fun hI => sg [] [0, 5, 6, 7] [] hI)))) (fun h =>
 (brkD h hc1 fun e => sg [] [0] [] (hb1 _ e)))
noncomputable def impl_BoxOk (list : List TBox) : Option Bool :=
  ((loop (fun s : Int => impl_BoxOk_b1 list s) 0).bind fun x => x.go (fun r => some r) fun s => impl_BoxOk_k2 list)
theorem impl_BoxOk_ok {list : List TBox} (r : Bool) (h : impl_BoxOk list = some r) : ACalls cx.P 129 [vsl 2 eBox list] (impl_BoxOk_R r) (impl_BoxOk_O r) :=
  ACalls.of (cx := cx) (X := impl_BoxOk_X) (c := impl_BoxOk_c) Tryz.func129 (by kernel_rfl) (by kernel_rfl) (by kernel_rfl) (P0 <|
 rg2 <| loopJ h fun x hl hr hb => sg [] [0, 5, 6, 7] [] (loopD (I := fun s : Int => Fin cx impl_BoxOk_X (impl_BoxOk_R r) (impl_BoxOk_O r) impl_BoxOk_k3 (impl_BoxOk_S2 list s)) hl fun s st h hc => impl_BoxOk_b1_ok list _ _ x (fun s e => impl_BoxOk_k2_ok list r (hb s e)) (fun v e => ⟨congrArg impl_BoxOk_R (Option.some.inj (hr v e)).symm, congrArg impl_BoxOk_O (Option.some.inj (hr v e)).symm⟩) st hc s h))

/-! ### impl_CertOk -/
noncomputable def impl_CertOk_c : Code := bodyOf Tryz.f95
noncomputable def impl_CertOk_X : Sig := { f := 95, fn := Tryz.f95, rms := [.val [] []], oms := [none] }
noncomputable def impl_CertOk_R (r : Bool) : V := .b r
noncomputable def impl_CertOk_O (r : Bool) : List (Option V) := [none]
noncomputable def impl_CertOk_t (i : Nat) (fr : Bool) (r : Bool) : Nat × Tell := (i, { a := .call [.val [none, some 2, some 4] []] fr (impl_CertOk_R r) (impl_CertOk_O r) })
noncomputable def impl_CertOk_k1 : List Item := posI 2000 3 [false] [.code impl_CertOk_c]
noncomputable def impl_CertOk_S1 (s_ : TState) : St := ⟨(bs 1 (.ptr 1 0 0 :: (bs 64 []))), [some [], some [.var 59 [vi s_.At, vsl 2 eBox s_.Boxes, vsl 4 eDone s_.Dones]]]⟩
noncomputable def impl_CertOk_k2 (s_ : TState) : Option Bool :=
  ((impl_in s_.At 0 40).bind fun in_ =>
 (bif in_ then
 ((impl_BoxOk s_.Boxes).bind fun boxOk =>
 some boxOk)
 else
 some false))
theorem impl_CertOk_k2_ok (s_ : TState) (r : Bool) (h : impl_CertOk_k2 s_ = some r) : Fin cx impl_CertOk_X (impl_CertOk_R r) (impl_CertOk_O r) impl_CertOk_k1 (impl_CertOk_S1 s_) :=
  P0 <|
 rg <| cb impl_in_t impl_in_ok 2 false h fun in_ h =>
 cdD 3 h (fun h =>
 cb impl_BoxOk_t impl_BoxOk_ok 6 false h fun boxOk h =>
 fe Tryz.func95 h) (fun h =>
 fe Tryz.func95 h)
noncomputable def impl_CertOk_k3 : List Item := posI 2000 2 [] [.code impl_CertOk_c]
noncomputable def impl_CertOk_S2 (s_ : TState) (v8 : Int) : St := ⟨(bs 1 (.ptr 1 0 0 :: (bs 4 (vsl 4 eDone s_.Dones :: (vi (s_.Dones.length : Int) :: (vi v8 :: (bs 57 []))))))), [some [], some [.var 59 [vi s_.At, vsl 2 eBox s_.Boxes, vsl 4 eDone s_.Dones]]]⟩
noncomputable def impl_CertOk_k4 : List Item := posI 2000 5 [true, false] [.code impl_CertOk_c]
noncomputable def impl_CertOk_S3 (s_ : TState) (v8 : Int) : St := ⟨(bs 1 (.ptr 1 0 0 :: (bs 4 (vsl 4 eDone s_.Dones :: (vi (s_.Dones.length : Int) :: (vi v8 :: (bs 57 []))))))), [some [], some [.var 59 [vi s_.At, vsl 2 eBox s_.Boxes, vsl 4 eDone s_.Dones]]]⟩
noncomputable def impl_CertOk_j1 (v8 : Int) : Option (Stp Bool Int Unit) :=
  some (Stp.nxt (w64 (v8 + 1)))
theorem impl_CertOk_j1_ok (s_ : TState) (v8 : Int) (res : V) (outs : List (Option V)) (x1 : Exc Bool Unit) (hb1 : HB cx impl_CertOk_X res outs x1 impl_CertOk_k1 (fun s => impl_CertOk_S1 s_)) (hr1 : HR res outs x1 impl_CertOk_R impl_CertOk_O) (st1 : Stp Bool Int Unit) (hc1 : Cont x1 (fun s : Int => Fin cx impl_CertOk_X res outs impl_CertOk_k3 (impl_CertOk_S2 s_ s)) st1) (h : impl_CertOk_j1 v8 = some st1) : Fin cx impl_CertOk_X res outs impl_CertOk_k4 (impl_CertOk_S3 s_ v8) :=
  P0 <|
 rg <| (nxtD h hc1 fun hI => sg [] [1, 6, 7, 8] [(1, 0)] hI)
noncomputable def impl_CertOk_b1 (s_ : TState) (v8 : Int) : Option (Stp Bool Int Unit) :=
  (bif decide (v8 < (s_.Dones.length : Int)) then
 ((idx s_.Dones v8).bind fun done =>
 (((bif decide (v8 > 0) then
 ((idx s_.Dones (w64 (v8 - 1))).bind fun done1 =>
 (bif decide (done1.Req.Who ≥ done.Req.Who) then
 some (Exc.ret (Stp.ret false))
 else
 ((impl_reqOk done.Req).bind fun reqOk =>
 (bif (!reqOk) then
 some (Exc.ret (Stp.ret false))
 else
 ((impl_in done.Code 0 2).bind fun in_1 =>
 (bif (!in_1) then
 some (Exc.ret (Stp.ret false))
 else
 ((impl_in done.Val (-1000000) 1000000).bind fun in_2 =>
 (bif (!in_2) then
 some (Exc.ret (Stp.ret false))
 else
 (bif (done.Code != 0) then
 (bif (done.Val != 0) then
 some (Exc.ret (Stp.ret false))
 else
 some (Exc.brk ()))
 else
 some (Exc.brk ()))))))))))
 else
 ((impl_reqOk done.Req).bind fun reqOk1 =>
 (bif (!reqOk1) then
 some (Exc.ret (Stp.ret false))
 else
 ((impl_in done.Code 0 2).bind fun in_3 =>
 (bif (!in_3) then
 some (Exc.ret (Stp.ret false))
 else
 ((impl_in done.Val (-1000000) 1000000).bind fun in_4 =>
 (bif (!in_4) then
 some (Exc.ret (Stp.ret false))
 else
 (bif (done.Code != 0) then
 (bif (done.Val != 0) then
 some (Exc.ret (Stp.ret false))
 else
 some (Exc.brk ()))
 else
 some (Exc.brk ()))))))))) : Option (Exc (Stp Bool Int Unit) Unit)).bind fun x => x.go some fun j => impl_CertOk_j1 v8))
 else
 some (Stp.brk ()))
set_option maxRecDepth 20000 in
theorem impl_CertOk_b1_ok (s_ : TState) (res : V) (outs : List (Option V)) (x1 : Exc Bool Unit) (hb1 : HB cx impl_CertOk_X res outs x1 impl_CertOk_k1 (fun s => impl_CertOk_S1 s_)) (hr1 : HR res outs x1 impl_CertOk_R impl_CertOk_O) (st1 : Stp Bool Int Unit) (hc1 : Cont x1 (fun s : Int => Fin cx impl_CertOk_X res outs impl_CertOk_k3 (impl_CertOk_S2 s_ s)) st1) (v8 : Int) (h : impl_CertOk_b1 s_ v8 = some st1) : Fin cx impl_CertOk_X res outs impl_CertOk_k3 (impl_CertOk_S2 s_ v8) :=
  P0 <|
 rg <| cdD 0 h (fun h =>
 rg <| ixS eDone 1 h fun done hdone h =>
 joinD (I := fun j : Unit => Fin cx impl_CertOk_X res outs impl_CertOk_k4 (impl_CertOk_S3 s_ v8)) h (fun j h => impl_CertOk_j1_ok s_ v8 res outs x1 hb1 hr1 st1 hc1 h) (fun x2 h hc2 =>
  rg <| cdD 2 h (fun h =>
 ixS eDone 7 h fun done1 hdone1 h =>
 cdD 16 h (fun h =>
 rg <| (jretD h hc2 fun h => (retD h hc1 fun e => fn0 Tryz.func95 (hr1 _ e)))) (fun h =>
 cb impl_reqOk_t impl_reqOk_ok 19 false h fun reqOk h =>
 cdD 22 h (fun h =>
 rg <| (jretD h hc2 fun h => (retD h hc1 fun e => fn0 Tryz.func95 (hr1 _ e)))) (fun h =>
 cb impl_in_t impl_in_ok 25 false h fun in_1 h =>
 cdD 28 h (fun h =>
 rg <| (jretD h hc2 fun h => (retD h hc1 fun e => fn0 Tryz.func95 (hr1 _ e)))) (fun h =>
 cb impl_in_t impl_in_ok 31 false h fun in_2 h =>
 cdD 34 h (fun h =>
 rg <| (jretD h hc2 fun h => (retD h hc1 fun e => fn0 Tryz.func95 (hr1 _ e)))) (fun h =>
 cdD 38 h (fun h =>
 cdD 43 h (fun h =>
 rg <| (jretD h hc2 fun h => (retD h hc1 fun e => fn0 Tryz.func95 (hr1 _ e)))) (fun h =>
 (jbrkD h hc2 fun hI => sg [] [1, 6, 7, 8] [(1, 0)] hI))) (fun h =>
 (jbrkD h hc2 fun hI => sg [] [1, 6, 7, 8] [(1, 0)] hI))))))) (fun h =>
 cb impl_reqOk_t impl_reqOk_ok 19 false h fun reqOk1 h =>
 cdD 22 h (fun h =>
 rg <| (jretD h hc2 fun h => (retD h hc1 fun e => fn0 Tryz.func95 (hr1 _ e)))) (fun h =>
 cb impl_in_t impl_in_ok 25 false h fun in_3 h =>
 cdD 28 h (fun h =>
 rg <| (jretD h hc2 fun h => (retD h hc1 fun e => fn0 Tryz.func95 (hr1 _ e)))) (fun h =>
 cb impl_in_t impl_in_ok 31 false h fun in_4 h =>
 cdD 34 h (fun h =>
 rg <| (jretD h hc2 fun h => (retD h hc1 fun e => fn0 Tryz.func95 (hr1 _ e)))) (fun h =>
 cdD 38 h (fun h =>
 cdD 43 h (fun h =>
 rg <| (jretD h hc2 fun h => (retD h hc1 fun e => fn0 Tryz.func95 (hr1 _ e)))) (fun h =>
 (jbrkD h hc2 fun hI => sg [] [1, 6, 7, 8] [(1, 0)] hI))) (fun h =>
 (jbrkD h hc2 fun hI => sg [] [1, 6, 7, 8] [(1, 0)] hI)))))))) (fun h =>
 (brkD h hc1 fun e => sg [] [1] [(1, 0)] (hb1 _ e)))
noncomputable def impl_CertOk (s_ : TState) : Option Bool :=
  ((loop (fun s : Int => impl_CertOk_b1 s_ s) 0).bind fun x => x.go (fun r => some r) fun s => impl_CertOk_k2 s_)
theorem impl_CertOk_ok {s_ : TState} (r : Bool) (h : impl_CertOk s_ = some r) : ACalls cx.P 95 [.agg (eState s_)] (impl_CertOk_R r) (impl_CertOk_O r) :=
  ACalls.of (cx := cx) (X := impl_CertOk_X) (c := impl_CertOk_c) Tryz.func95 (by kernel_rfl) (by kernel_rfl) (by kernel_rfl) (P0 <|
 rg2 <| loopJ h fun x hl hr hb => sg [] [1, 6, 7, 8] [(1, 0)] (loopD (I := fun s : Int => Fin cx impl_CertOk_X (impl_CertOk_R r) (impl_CertOk_O r) impl_CertOk_k3 (impl_CertOk_S2 s_ s)) hl fun s st h hc => impl_CertOk_b1_ok s_ _ _ x (fun s e => impl_CertOk_k2_ok s_ r (hb s e)) (fun v e => ⟨congrArg impl_CertOk_R (Option.some.inj (hr v e)).symm, congrArg impl_CertOk_O (Option.some.inj (hr v e)).symm⟩) st hc s h))

/-! ### impl_copied_Box -/
noncomputable def impl_copied_Box_c : Code := bodyOf Tryz.f96
noncomputable def impl_copied_Box_X : Sig := { f := 96, fn := Tryz.f96, rms := [.val [some 2] [some 159]], oms := [none] }
noncomputable def impl_copied_Box_R (r : List TBox) : V := vosl 159 2 eBox r
noncomputable def impl_copied_Box_O (r : List TBox) : List (Option V) := [none]
noncomputable def impl_copied_Box_t (i : Nat) (fr : Bool) (r : List TBox) : Nat × Tell := (i, { a := .call [.val [some 2] []] fr (impl_copied_Box_R r) (impl_copied_Box_O r) })
noncomputable def impl_copied_Box (list : List TBox) : Option (List TBox) :=
  (bif ((list.length : Int) == 0) then
 some []
 else
 (need (0 ≤ (list.length : Int) ∧ (list.length : Int) * 16 ≤ 140737488355328)
 ((need (list.length = (List.replicate (list.length : Int).toNat (TBox.mk 0 0)).length)
 (some list)))))
theorem impl_copied_Box_ok {list : List TBox} (r : List TBox) (h : impl_copied_Box list = some r) : ACalls cx.P 96 [vsl 2 eBox list] (impl_copied_Box_R r) (impl_copied_Box_O r) :=
  ACalls.of (cx := cx) (X := impl_copied_Box_X) (c := impl_copied_Box_c) Tryz.func96 (by kernel_rfl) (by kernel_rfl) (by kernel_rfl) (P0 <|
 rg2 <| cdD 2 h (fun h =>
 rg <| fe Tryz.func96 h) (fun h =>
 rg <| needD h fun e1 h =>
 mkS 2 7 159 2 16 eBox (TBox.mk 0 0) ti159 (.none) e1 (by decide) (by rfl) <| rg <| needD h fun e2 h =>
 om (Ent.row 159 2 (List.replicate (list.length : Int).toNat (TBox.mk 0 0)).length (list.map eBox) = erow 159 2 eBox list) (row_copy e2) <| om ((List.replicate (list.length : Int).toNat (TBox.mk 0 0)).length = (List.replicate (list.length : Int).toNat (TBox.mk 0 0)).length) rfl <| ob e2 <| tl (2, { e := some (erow 159 2 eBox list) }) <| rg <| om ((List.replicate (list.length : Int).toNat (TBox.mk 0 0)).length = list.length) (by simp) <| fe Tryz.func96 h))

/-! ### impl_copied_Done -/
noncomputable def impl_copied_Done_c : Code := bodyOf Tryz.f97
noncomputable def impl_copied_Done_X : Sig := { f := 97, fn := Tryz.f97, rms := [.val [some 4] []], oms := [none] }
noncomputable def impl_copied_Done_R (r : List TDone) : V := vsl 4 eDone r
noncomputable def impl_copied_Done_O (r : List TDone) : List (Option V) := [none]
noncomputable def impl_copied_Done_t (i : Nat) (fr : Bool) (r : List TDone) : Nat × Tell := (i, { a := .call [.val [some 4] []] fr (impl_copied_Done_R r) (impl_copied_Done_O r) })
noncomputable def impl_copied_Done (list : List TDone) : Option (List TDone) :=
  (bif ((list.length : Int) == 0) then
 some []
 else
 (need (0 ≤ (list.length : Int) ∧ (list.length : Int) * 32 ≤ 140737488355328)
 ((need (list.length = (List.replicate (list.length : Int).toNat (TDone.mk (TReq.mk 0 0) 0 0)).length)
 (some list)))))
theorem impl_copied_Done_ok {list : List TDone} (r : List TDone) (h : impl_copied_Done list = some r) : ACalls cx.P 97 [vsl 4 eDone list] (impl_copied_Done_R r) (impl_copied_Done_O r) :=
  ACalls.of (cx := cx) (X := impl_copied_Done_X) (c := impl_copied_Done_c) Tryz.func97 (by kernel_rfl) (by kernel_rfl) (by kernel_rfl) (P0 <|
 rg2 <| cdD 2 h (fun h =>
 rg <| fe Tryz.func97 h) (fun h =>
 rg <| needD h fun e1 h =>
 mkS 2 7 142 4 32 eDone (TDone.mk (TReq.mk 0 0) 0 0) ti142 (.none) e1 (by decide) (by rfl) <| rg <| needD h fun e2 h =>
 om (Ent.row 142 4 (List.replicate (list.length : Int).toNat (TDone.mk (TReq.mk 0 0) 0 0)).length (list.map eDone) = erow 142 4 eDone list) (row_copy e2) <| om ((List.replicate (list.length : Int).toNat (TDone.mk (TReq.mk 0 0) 0 0)).length = (List.replicate (list.length : Int).toNat (TDone.mk (TReq.mk 0 0) 0 0)).length) rfl <| ob e2 <| tl (2, { e := some (erow 142 4 eDone list) }) <| rg <| om ((List.replicate (list.length : Int).toNat (TDone.mk (TReq.mk 0 0) 0 0)).length = list.length) (by simp) <| fe Tryz.func97 h))

/-! ### impl_ExecFresh -/
noncomputable def impl_ExecFresh_c : Code := bodyOf Tryz.f98
noncomputable def impl_ExecFresh_X : Sig := { f := 98, fn := Tryz.f98, rms := [.val [] []], oms := [none, none] }
noncomputable def impl_ExecFresh_R (r : Bool) : V := .b r
noncomputable def impl_ExecFresh_O (r : Bool) : List (Option V) := [none, none]
noncomputable def impl_ExecFresh_t (i : Nat) (fr : Bool) (r : Bool) : Nat × Tell := (i, { a := .call [.val [some 2] [], .val ck66 []] fr (impl_ExecFresh_R r) (impl_ExecFresh_O r) })
noncomputable def impl_ExecFresh_k1 : List Item := posI 2000 4 [false, false] [.code impl_ExecFresh_c]
noncomputable def impl_ExecFresh_S1 : St := ⟨(bs 32 []), [some []]⟩
noncomputable def impl_ExecFresh_k2 : Option Bool :=
  some true
theorem impl_ExecFresh_k2_ok (r : Bool) (h : impl_ExecFresh_k2 = some r) : Fin cx impl_ExecFresh_X (impl_ExecFresh_R r) (impl_ExecFresh_O r) impl_ExecFresh_k1 (impl_ExecFresh_S1) :=
  P0 <|
 rg <| fe Tryz.func98 h
noncomputable def impl_ExecFresh_k3 : List Item := posI 2000 3 [false] [.code impl_ExecFresh_c]
noncomputable def impl_ExecFresh_S2 (list : List TBox) (r_ : TRun) (v18 : Int) : St := ⟨(vsl 2 eBox list :: (bs 15 (vsl 2 eRead r_.Reads :: (vi (r_.Reads.length : Int) :: (vi v18 :: (bs 13 [])))))), [some []]⟩
noncomputable def impl_ExecFresh_b1 (list : List TBox) (r_ : TRun) (v18 : Int) : Option (Stp Bool Int Unit) :=
  (bif decide (v18 < (r_.Reads.length : Int)) then
 ((idx r_.Reads v18).bind fun read =>
 ((idx list read.Box).bind fun box =>
 (bif (box.Ver != read.Ver) then
 some (Stp.ret false)
 else
 some (Stp.nxt (w64 (v18 + 1))))))
 else
 some (Stp.brk ()))
theorem impl_ExecFresh_b1_ok (list : List TBox) (r_ : TRun) (res : V) (outs : List (Option V)) (x1 : Exc Bool Unit) (hb1 : HB cx impl_ExecFresh_X res outs x1 impl_ExecFresh_k1 (fun s => impl_ExecFresh_S1)) (hr1 : HR res outs x1 impl_ExecFresh_R impl_ExecFresh_O) (st1 : Stp Bool Int Unit) (hc1 : Cont x1 (fun s : Int => Fin cx impl_ExecFresh_X res outs impl_ExecFresh_k3 (impl_ExecFresh_S2 list r_ s)) st1) (v18 : Int) (h : impl_ExecFresh_b1 list r_ v18 = some st1) : Fin cx impl_ExecFresh_X res outs impl_ExecFresh_k3 (impl_ExecFresh_S2 list r_ v18) :=
  P0 <|
 rg <| cdD 0 h (fun h =>
 rg <| ixS eRead 0 h fun read hread h =>
 rg <| ixS eBox 3 h fun box hbox h =>
 cdD 8 h (fun h =>
 rg <| (retD h hc1 fun e => fn0 Tryz.func98 (hr1 _ e))) (fun h =>
 rg <| (nxtD h hc1 fun hI => sg [] [0, 16, 17, 18] [] hI))) (fun h =>
 (brkD h hc1 fun e => sg [] [] [] (hb1 _ e)))
noncomputable def impl_ExecFresh (list : List TBox) (r_ : TRun) : Option Bool :=
  ((impl_BoxOk list).bind fun boxOk =>
 (bif (!boxOk) then
 some false
 else
 ((impl_ExecOk r_).bind fun execOk =>
 (bif (!execOk) then
 some false
 else
 ((loop (fun s : Int => impl_ExecFresh_b1 list r_ s) 0).bind fun x => x.go (fun r => some r) fun s => impl_ExecFresh_k2)))))
theorem impl_ExecFresh_ok {list : List TBox} {r_ : TRun} (r : Bool) (h : impl_ExecFresh list r_ = some r) : ACalls cx.P 98 [vsl 2 eBox list, .agg (eRun r_)] (impl_ExecFresh_R r) (impl_ExecFresh_O r) :=
  ACalls.of (cx := cx) (X := impl_ExecFresh_X) (c := impl_ExecFresh_c) Tryz.func98 (by kernel_rfl) (by kernel_rfl) (by kernel_rfl) (P0 <|
 rg2 <| cb impl_BoxOk_t impl_BoxOk_ok 1 false h fun boxOk h =>
 cdD 3 h (fun h =>
 rg <| fe Tryz.func98 h) (fun h =>
 cb impl_ExecOk_t impl_ExecOk_ok 5 false h fun execOk h =>
 cdD 7 h (fun h =>
 rg <| fe Tryz.func98 h) (fun h =>
 rg <| loopJ h fun x hl hr hb => sg [] [0, 16, 17, 18] [] (loopD (I := fun s : Int => Fin cx impl_ExecFresh_X (impl_ExecFresh_R r) (impl_ExecFresh_O r) impl_ExecFresh_k3 (impl_ExecFresh_S2 list r_ s)) hl fun s st h hc => impl_ExecFresh_b1_ok list r_ _ _ x (fun s e => impl_ExecFresh_k2_ok r (hb s e)) (fun v e => ⟨congrArg impl_ExecFresh_R (Option.some.inj (hr v e)).symm, congrArg impl_ExecFresh_O (Option.some.inj (hr v e)).symm⟩) st hc s h))))

/-! ### impl_ExecDo -/
noncomputable def impl_ExecDo_c : Code := bodyOf Tryz.f99
noncomputable def impl_ExecDo_X : Sig := { f := 99, fn := Tryz.f99, rms := [.val [some 2] []], oms := [none, none] }
noncomputable def impl_ExecDo_R (r : List TBox) : V := vsl 2 eBox r
noncomputable def impl_ExecDo_O (r : List TBox) : List (Option V) := [none, none]
noncomputable def impl_ExecDo_t (i : Nat) (fr : Bool) (r : List TBox) : Nat × Tell := (i, { a := .call [.val [some 2] [], .val ck66 []] fr (impl_ExecDo_R r) (impl_ExecDo_O r) })
noncomputable def impl_ExecDo_k1 : List Item := posI 2000 5 [false, false] [.code impl_ExecDo_c]
noncomputable def impl_ExecDo_S1 (out1 : List TBox) : St := ⟨(bs 5 (.own 1 0 2 0 out1.length :: (bs 36 []))), [some [], some [erow 159 2 eBox out1]]⟩
noncomputable def impl_ExecDo_k2 (out1 : List TBox) : Option (List TBox) :=
  some out1
theorem impl_ExecDo_k2_ok (r : List TBox) (out1 : List TBox) (h : impl_ExecDo_k2 out1 = some r) : Fin cx impl_ExecDo_X (impl_ExecDo_R r) (impl_ExecDo_O r) impl_ExecDo_k1 (impl_ExecDo_S1 out1) :=
  P0 <|
 rg <| om (out1.length = out1.length) rfl <| fe Tryz.func99 h
noncomputable def impl_ExecDo_k3 : List Item := posI 2000 4 [false] [.code impl_ExecDo_c]
noncomputable def impl_ExecDo_S2 (r_ : TRun) (out : List TBox) (v21 : Int) : St := ⟨(bs 5 (.own 1 0 2 0 out.length :: (bs 13 (vsl 2 ePut r_.Puts :: (vi (r_.Puts.length : Int) :: (vi v21 :: (bs 20 []))))))), [some [], some [erow 159 2 eBox out]]⟩
noncomputable def impl_ExecDo_b1 (r_ : TRun) (out : List TBox) (v21 : Int) : Option (Stp (List TBox) ((List TBox) × Int) (List TBox)) :=
  (bif decide (v21 < (r_.Puts.length : Int)) then
 ((idx r_.Puts v21).bind fun put =>
 ((idx out put.Box).bind fun box1 =>
 some (Stp.nxt (out.set put.Box.toNat (TBox.mk (if (w64 (box1.Ver + 1)) < 1000000 then (w64 (box1.Ver + 1)) else 1000000) put.Val), w64 (v21 + 1)))))
 else
 some (Stp.brk out))
theorem impl_ExecDo_b1_ok (r_ : TRun) (res : V) (outs : List (Option V)) (x1 : Exc (List TBox) (List TBox)) (hb1 : HB cx impl_ExecDo_X res outs x1 impl_ExecDo_k1 impl_ExecDo_S1) (hr1 : HR res outs x1 impl_ExecDo_R impl_ExecDo_O) (st1 : Stp (List TBox) ((List TBox) × Int) (List TBox)) (hc1 : Cont x1 (fun s : (List TBox) × Int => Fin cx impl_ExecDo_X res outs impl_ExecDo_k3 (impl_ExecDo_S2 r_ s.1 s.2)) st1) (out : List TBox) (v21 : Int) (h : impl_ExecDo_b1 r_ out v21 = some st1) : Fin cx impl_ExecDo_X res outs impl_ExecDo_k3 (impl_ExecDo_S2 r_ out v21) :=
  P0 <|
 rg <| cdD 0 h (fun h =>
 rg <| ixS ePut 0 h fun put hput h =>
 rg <| bindD h fun box1 hbox1 h =>
 ixB hbox1 <| ldR eBox 8 hbox1 <| ixB hbox1 <| stR 159 2 eBox 15 [] (TBox.mk (if (w64 (box1.Ver + 1)) < 1000000 then (w64 (box1.Ver + 1)) else 1000000) put.Val) hbox1 <| rg <| (nxtD h hc1 fun hI => om ((.own 1 0 2 0 out.length : V) = .own 1 0 2 0 (out.set put.Box.toNat (TBox.mk (if (w64 (box1.Ver + 1)) < 1000000 then (w64 (box1.Ver + 1)) else 1000000) put.Val)).length) (by simp) <| sg [.is (.tmp 5) (.own 1 0 2 0 (out.set put.Box.toNat (TBox.mk (if (w64 (box1.Ver + 1)) < 1000000 then (w64 (box1.Ver + 1)) else 1000000) put.Val)).length)] [5, 19, 20, 21] [(1, 0)] hI)) (fun h =>
 (brkD h hc1 fun e => sg [] [5] [(1, 0)] (hb1 _ e)))
noncomputable def impl_ExecDo (list : List TBox) (r_ : TRun) : Option (List TBox) :=
  ((impl_BoxOk list).bind fun boxOk =>
 (bif (!boxOk) then
 some []
 else
 ((impl_ExecOk r_).bind fun execOk =>
 (bif (!execOk) then
 some []
 else
 ((impl_copied_Box list).bind fun box =>
 ((loop (fun s : (List TBox) × Int => impl_ExecDo_b1 r_ s.1 s.2) (box, 0)).bind fun x => x.go (fun r => some r) fun s => impl_ExecDo_k2 s))))))
theorem impl_ExecDo_ok {list : List TBox} {r_ : TRun} (r : List TBox) (h : impl_ExecDo list r_ = some r) : ACalls cx.P 99 [vsl 2 eBox list, .agg (eRun r_)] (impl_ExecDo_R r) (impl_ExecDo_O r) :=
  ACalls.of (cx := cx) (X := impl_ExecDo_X) (c := impl_ExecDo_c) Tryz.func99 (by kernel_rfl) (by kernel_rfl) (by kernel_rfl) (P0 <|
 rg2 <| cb impl_BoxOk_t impl_BoxOk_ok 1 false h fun boxOk h =>
 cdD 3 h (fun h =>
 rg <| fe Tryz.func99 h) (fun h =>
 cb impl_ExecOk_t impl_ExecOk_ok 5 false h fun execOk h =>
 cdD 7 h (fun h =>
 rg <| fe Tryz.func99 h) (fun h =>
 rg <| cb impl_copied_Box_t impl_copied_Box_ok 1 false h fun box h =>
 rg <| loopJ h fun x hl hr hb => sg [] [5, 19, 20, 21] [(12, 0)] (loopD (I := fun s : (List TBox) × Int => Fin cx impl_ExecDo_X (impl_ExecDo_R r) (impl_ExecDo_O r) impl_ExecDo_k3 (impl_ExecDo_S2 r_ s.1 s.2)) hl fun s st h hc => impl_ExecDo_b1_ok r_ _ _ x (fun s e => impl_ExecDo_k2_ok r s (hb s e)) (fun v e => ⟨congrArg impl_ExecDo_R (Option.some.inj (hr v e)).symm, congrArg impl_ExecDo_O (Option.some.inj (hr v e)).symm⟩) st hc s.1 s.2 h))))

/-! ### impl_CertApply -/
noncomputable def impl_CertApply_c : Code := bodyOf Tryz.f51
noncomputable def impl_CertApply_X : Sig := { f := 51, fn := Tryz.f51, rms := [.val [none, some 2, some 4] [], .val [] []], oms := [none, none] }
noncomputable def impl_CertApply_R (r : TState × Int) : V := .tup [.agg (eState r.1), vi r.2]
noncomputable def impl_CertApply_O (r : TState × Int) : List (Option V) := [none, none]
noncomputable def impl_CertApply_t (i : Nat) (fr : Bool) (r : TState × Int) : Nat × Tell := (i, { a := .call [.val [none, some 2, some 4] [], .val ck68 []] fr (impl_CertApply_R r) (impl_CertApply_O r) })
noncomputable def impl_CertApply_k1 : List Item := posI 2000 6 [false, false, false] [.code impl_CertApply_c]
noncomputable def impl_CertApply_S1 (s_ : TState) (e_ : TEntry) (box : List TBox) : St := ⟨(bs 2 (.ptr 1 0 0 :: (.ptr 2 0 0 :: (.ptr 3 0 0 :: (bs 1 (.ptr 4 0 0 :: (bs 145 []))))))), [some [], some [.var 59 [vi s_.At, vsl 2 eBox s_.Boxes, vsl 4 eDone s_.Dones]], some [.var 68 [.b e_.None, vi e_.Req.Who, vi e_.Req.Seq, vsl 2 eRead e_.Run.Reads, vsl 2 ePut e_.Run.Puts, vi e_.Run.Val, vi e_.Run.Code]], some [.var 59 [vi 0, .nil, .nil]], some [.var 59 [vi (w64 (s_.At + 1)), .own 5 0 2 0 box.length, .nil]], some [erow 159 2 eBox box]]⟩
noncomputable def impl_CertApply_k2 : List Item := posI 2000 9 [false, false, false, true] [.code impl_CertApply_c]
noncomputable def impl_CertApply_S2 (s_ : TState) (own : TDone) (outBoxes : List TBox) : St := ⟨(bs 2 (.ptr 1 0 0 :: (bs 1 (.ptr 2 0 0 :: (bs 1 (.ptr 3 0 0 :: (bs 2 (.ptr 4 0 0 :: (bs 142 []))))))))), [some [], some [.var 59 [vi s_.At, vsl 2 eBox s_.Boxes, vsl 4 eDone s_.Dones]], some [.var 59 [vi 0, .nil, .nil]], some [.var 59 [vi (w64 (s_.At + 1)), vsl 2 eBox outBoxes, .nil]], some [.var 142 [vi own.Req.Who, vi own.Req.Seq, vi own.Code, vi own.Val]]]⟩
noncomputable def impl_CertApply_k3 : List Item := posI 2000 13 [false, false, false, true, false] [.code impl_CertApply_c]
noncomputable def impl_CertApply_S3 (s_ : TState) (own : TDone) (outBoxes : List TBox) (dones1 : List TDone) (put1 : Bool) : St := ⟨(bs 4 (.ptr 1 0 0 :: (bs 1 (.ptr 2 0 0 :: (bs 2 (.ptr 3 0 0 :: (.own 4 0 4 0 dones1.length :: (.b put1 :: (bs 140 []))))))))), [some [], some [.var 59 [vi 0, .nil, .nil]], some [.var 59 [vi (w64 (s_.At + 1)), vsl 2 eBox outBoxes, .nil]], some [.var 142 [vi own.Req.Who, vi own.Req.Seq, vi own.Code, vi own.Val]], some [erow 142 4 eDone dones1]]⟩
noncomputable def impl_CertApply_k4 : List Item := posI 2000 15 [false, false, false, true, false, true] [.code impl_CertApply_c]
noncomputable def impl_CertApply_S4 (s_ : TState) (own : TDone) (outBoxes : List TBox) (dones2 : List TDone) : St := ⟨(bs 4 (.ptr 1 0 0 :: (bs 1 (.ptr 2 0 0 :: (bs 2 (.ptr 3 0 0 :: (.own 4 0 4 0 dones2.length :: (bs 141 [])))))))), [some [], some [.var 59 [vi 0, .nil, .nil]], some [.var 59 [vi (w64 (s_.At + 1)), vsl 2 eBox outBoxes, .nil]], some [.var 142 [vi own.Req.Who, vi own.Req.Seq, vi own.Code, vi own.Val]], some [erow 142 4 eDone dones2]]⟩
noncomputable def impl_CertApply_j1 (s_ : TState) (own : TDone) (outBoxes : List TBox) (dones2 : List TDone) : Option (TState × Int) :=
  ((impl_copied_Done dones2).bind fun done1 =>
 some ((TState.mk (w64 (s_.At + 1)) outBoxes done1), own.Code))
theorem impl_CertApply_j1_ok (s_ : TState) (own : TDone) (outBoxes : List TBox) (r : TState × Int) (dones2 : List TDone) (h : impl_CertApply_j1 s_ own outBoxes dones2 = some r) : Fin cx impl_CertApply_X (impl_CertApply_R r) (impl_CertApply_O r) impl_CertApply_k4 (impl_CertApply_S4 s_ own outBoxes dones2) :=
  P0 <|
 rg <| cb impl_copied_Done_t impl_copied_Done_ok 1 false h fun done1 h =>
 om (dones2.length = dones2.length) rfl <| rg <| fe Tryz.func51 h
noncomputable def impl_CertApply_k5 (s_ : TState) (own : TDone) (outBoxes : List TBox) (dones1 : List TDone) (put1 : Bool) : Option (TState × Int) :=
  (((bif (!put1) then
 (need ((dones1.length + 1) * 32 ≤ 140737488355328)
 (some (Exc.brk (dones1 ++ [own]))))
 else
 some (Exc.brk dones1)) : Option (Exc (TState × Int) (List TDone))).bind fun x => x.go some fun j => impl_CertApply_j1 s_ own outBoxes j)
theorem impl_CertApply_k5_ok (s_ : TState) (own : TDone) (outBoxes : List TBox) (r : TState × Int) (dones1 : List TDone) (put1 : Bool) (h : impl_CertApply_k5 s_ own outBoxes dones1 put1 = some r) : Fin cx impl_CertApply_X (impl_CertApply_R r) (impl_CertApply_O r) impl_CertApply_k3 (impl_CertApply_S3 s_ own outBoxes dones1 put1) :=
  P0 <|
 joinD (I := fun j : List TDone => Fin cx impl_CertApply_X (impl_CertApply_R r) (impl_CertApply_O r) impl_CertApply_k4 (impl_CertApply_S4 s_ own outBoxes j)) h (fun j h => impl_CertApply_j1_ok s_ own outBoxes r j h) (fun x1 h hc1 =>
  rg <| cdD 1 h (fun h =>
 rg <| tl (2, { a := .ck [] }) <| needD h fun e1 h =>
 apS 3 10 142 4 32 eDone dones1 own e1 <| om (1 = [own].length) (by rfl) <| (jbrkD h hc1 fun hI => sg [] [4, 6, 9, 10] [(1, 0), (2, 0), (3, 0), (10, 0)] hI)) (fun h =>
 (jbrkD h hc1 fun hI => sg [] [4, 6, 9, 10] [(1, 0), (2, 0), (3, 0), (4, 0)] hI)))
noncomputable def impl_CertApply_k6 : List Item := posI 2000 12 [false, false, false, true] [.code impl_CertApply_c]
noncomputable def impl_CertApply_S5 (s_ : TState) (own : TDone) (outBoxes : List TBox) (dones : List TDone) (v109 : Int) (put : Bool) : St := ⟨(bs 4 (.ptr 1 0 0 :: (bs 1 (.ptr 2 0 0 :: (bs 2 (.ptr 3 0 0 :: (.own 4 0 4 0 dones.length :: (.b put :: (bs 95 (vsl 4 eDone s_.Dones :: (vi (s_.Dones.length : Int) :: (vi v109 :: (bs 42 []))))))))))))), [some [], some [.var 59 [vi 0, .nil, .nil]], some [.var 59 [vi (w64 (s_.At + 1)), vsl 2 eBox outBoxes, .nil]], some [.var 142 [vi own.Req.Who, vi own.Req.Seq, vi own.Code, vi own.Val]], some [erow 142 4 eDone dones]]⟩
noncomputable def impl_CertApply_k7 : List Item := posI 2000 17 [false, false, false, true, true, true] [.code impl_CertApply_c]
noncomputable def impl_CertApply_S6 (s_ : TState) (own : TDone) (outBoxes : List TBox) (v109 : Int) (done2 : TDone) (dones3 : List TDone) (put2 : Bool) : St := ⟨(bs 4 (.ptr 1 0 0 :: (bs 1 (.ptr 2 0 0 :: (bs 2 (.ptr 3 0 0 :: (.own 4 0 4 0 dones3.length :: (.b put2 :: (bs 1 (.ptr 5 0 0 :: (bs 93 (vsl 4 eDone s_.Dones :: (vi (s_.Dones.length : Int) :: (vi v109 :: (bs 42 []))))))))))))))), [some [], some [.var 59 [vi 0, .nil, .nil]], some [.var 59 [vi (w64 (s_.At + 1)), vsl 2 eBox outBoxes, .nil]], some [.var 142 [vi own.Req.Who, vi own.Req.Seq, vi own.Code, vi own.Val]], some [erow 142 4 eDone dones3], some [.var 142 [vi done2.Req.Who, vi done2.Req.Seq, vi done2.Code, vi done2.Val]]]⟩
noncomputable def impl_CertApply_k8 : List Item := posI 2000 19 [false, false, false, true, true, true, true] [.code impl_CertApply_c]
noncomputable def impl_CertApply_S7 (s_ : TState) (own : TDone) (outBoxes : List TBox) (v109 : Int) (put2 : Bool) (dones4 : List TDone) : St := ⟨(bs 4 (.ptr 1 0 0 :: (bs 1 (.ptr 2 0 0 :: (bs 2 (.ptr 3 0 0 :: (.own 4 0 4 0 dones4.length :: (.b put2 :: (bs 95 (vsl 4 eDone s_.Dones :: (vi (s_.Dones.length : Int) :: (vi v109 :: (bs 42 []))))))))))))), [some [], some [.var 59 [vi 0, .nil, .nil]], some [.var 59 [vi (w64 (s_.At + 1)), vsl 2 eBox outBoxes, .nil]], some [.var 142 [vi own.Req.Who, vi own.Req.Seq, vi own.Code, vi own.Val]], some [erow 142 4 eDone dones4]]⟩
noncomputable def impl_CertApply_j2 (v109 : Int) (put2 : Bool) (dones4 : List TDone) : Option (Stp (TState × Int) ((List TDone) × Int × Bool) ((List TDone) × Bool)) :=
  some (Stp.nxt (dones4, w64 (v109 + 1), put2))
theorem impl_CertApply_j2_ok (s_ : TState) (own : TDone) (outBoxes : List TBox) (v109 : Int) (put2 : Bool) (res : V) (outs : List (Option V)) (x1 : Exc (TState × Int) ((List TDone) × Bool)) (hb1 : HB cx impl_CertApply_X res outs x1 impl_CertApply_k3 (fun s => impl_CertApply_S3 s_ own outBoxes s.1 s.2)) (hr1 : HR res outs x1 impl_CertApply_R impl_CertApply_O) (st1 : Stp (TState × Int) ((List TDone) × Int × Bool) ((List TDone) × Bool)) (hc1 : Cont x1 (fun s : (List TDone) × Int × Bool => Fin cx impl_CertApply_X res outs impl_CertApply_k6 (impl_CertApply_S5 s_ own outBoxes s.1 s.2.1 s.2.2)) st1) (dones4 : List TDone) (h : impl_CertApply_j2 v109 put2 dones4 = some st1) : Fin cx impl_CertApply_X res outs impl_CertApply_k8 (impl_CertApply_S7 s_ own outBoxes v109 put2 dones4) :=
  P0 <|
 rg <| (nxtD h hc1 fun hI => sg [] [4, 6, 9, 10, 11, 107, 108, 109] [(1, 0), (2, 0), (3, 0), (4, 0)] hI)
noncomputable def impl_CertApply_j3 (own : TDone) (v109 : Int) (done2 : TDone) (dones3 : List TDone) (put2 : Bool) : Option (Stp (TState × Int) ((List TDone) × Int × Bool) ((List TDone) × Bool)) :=
  (((bif (done2.Req.Who != own.Req.Who) then
 (need ((dones3.length + 1) * 32 ≤ 140737488355328)
 (some (Exc.brk (dones3 ++ [done2]))))
 else
 some (Exc.brk dones3)) : Option (Exc (Stp (TState × Int) ((List TDone) × Int × Bool) ((List TDone) × Bool)) (List TDone))).bind fun x => x.go some fun j => impl_CertApply_j2 v109 put2 j)
theorem impl_CertApply_j3_ok (s_ : TState) (own : TDone) (outBoxes : List TBox) (v109 : Int) (done2 : TDone) (res : V) (outs : List (Option V)) (x1 : Exc (TState × Int) ((List TDone) × Bool)) (hb1 : HB cx impl_CertApply_X res outs x1 impl_CertApply_k3 (fun s => impl_CertApply_S3 s_ own outBoxes s.1 s.2)) (hr1 : HR res outs x1 impl_CertApply_R impl_CertApply_O) (st1 : Stp (TState × Int) ((List TDone) × Int × Bool) ((List TDone) × Bool)) (hc1 : Cont x1 (fun s : (List TDone) × Int × Bool => Fin cx impl_CertApply_X res outs impl_CertApply_k6 (impl_CertApply_S5 s_ own outBoxes s.1 s.2.1 s.2.2)) st1) (dones3 : List TDone) (put2 : Bool) (h : impl_CertApply_j3 own v109 done2 dones3 put2 = some st1) : Fin cx impl_CertApply_X res outs impl_CertApply_k7 (impl_CertApply_S6 s_ own outBoxes v109 done2 dones3 put2) :=
  P0 <|
 joinD (I := fun j : List TDone => Fin cx impl_CertApply_X res outs impl_CertApply_k8 (impl_CertApply_S7 s_ own outBoxes v109 put2 j)) h (fun j h => impl_CertApply_j2_ok s_ own outBoxes v109 put2 res outs x1 hb1 hr1 st1 hc1 j h) (fun x2 h hc2 =>
  rg <| cdD 6 h (fun h =>
 rg <| tl (2, { a := .ck [] }) <| needD h fun e2 h =>
 apS 3 16 142 4 32 eDone dones3 done2 e2 <| om (1 = [done2].length) (by rfl) <| (jbrkD h hc2 fun hI => sg [] [4, 6, 9, 10, 11, 107, 108, 109] [(1, 0), (2, 0), (3, 0), (16, 0)] hI)) (fun h =>
 (jbrkD h hc2 fun hI => sg [] [4, 6, 9, 10, 11, 107, 108, 109] [(1, 0), (2, 0), (3, 0), (4, 0)] hI)))
noncomputable def impl_CertApply_b1 (s_ : TState) (own : TDone) (dones : List TDone) (v109 : Int) (put : Bool) : Option (Stp (TState × Int) ((List TDone) × Int × Bool) ((List TDone) × Bool)) :=
  (bif decide (v109 < (s_.Dones.length : Int)) then
 ((idx s_.Dones v109).bind fun done2 =>
 (((bif (!put) then
 (bif decide (done2.Req.Who ≥ own.Req.Who) then
 (need ((dones.length + 1) * 32 ≤ 140737488355328)
 (some (Exc.brk (dones ++ [own], true))))
 else
 some (Exc.brk (dones, put)))
 else
 some (Exc.brk (dones, put))) : Option (Exc (Stp (TState × Int) ((List TDone) × Int × Bool) ((List TDone) × Bool)) ((List TDone) × Bool))).bind fun x => x.go some fun j => impl_CertApply_j3 own v109 done2 j.1 j.2))
 else
 some (Stp.brk (dones, put)))
theorem impl_CertApply_b1_ok (s_ : TState) (own : TDone) (outBoxes : List TBox) (res : V) (outs : List (Option V)) (x1 : Exc (TState × Int) ((List TDone) × Bool)) (hb1 : HB cx impl_CertApply_X res outs x1 impl_CertApply_k3 (fun s => impl_CertApply_S3 s_ own outBoxes s.1 s.2)) (hr1 : HR res outs x1 impl_CertApply_R impl_CertApply_O) (st1 : Stp (TState × Int) ((List TDone) × Int × Bool) ((List TDone) × Bool)) (hc1 : Cont x1 (fun s : (List TDone) × Int × Bool => Fin cx impl_CertApply_X res outs impl_CertApply_k6 (impl_CertApply_S5 s_ own outBoxes s.1 s.2.1 s.2.2)) st1) (dones : List TDone) (v109 : Int) (put : Bool) (h : impl_CertApply_b1 s_ own dones v109 put = some st1) : Fin cx impl_CertApply_X res outs impl_CertApply_k6 (impl_CertApply_S5 s_ own outBoxes dones v109 put) :=
  P0 <|
 rg <| cdD 0 h (fun h =>
 rg <| ixS eDone 0 h fun done2 hdone2 h =>
 joinD (I := fun j : (List TDone) × Bool => Fin cx impl_CertApply_X res outs impl_CertApply_k7 (impl_CertApply_S6 s_ own outBoxes v109 done2 j.1 j.2)) h (fun j h => impl_CertApply_j3_ok s_ own outBoxes v109 done2 res outs x1 hb1 hr1 st1 hc1 j.1 j.2 h) (fun x2 h hc2 =>
  rg <| cdD 2 h (fun h =>
 cdD 10 h (fun h =>
 rg <| tl (2, { a := .ck [] }) <| needD h fun e3 h =>
 apS 3 24 142 4 32 eDone dones own e3 <| om (1 = [own].length) (by rfl) <| rg <| (jbrkD h hc2 fun hI => sg [] [4, 6, 9, 10, 11, 13, 107, 108, 109] [(1, 0), (2, 0), (3, 0), (24, 0), (8, 0)] hI)) (fun h =>
 (jbrkD h hc2 fun hI => sg [] [4, 6, 9, 10, 11, 13, 107, 108, 109] [(1, 0), (2, 0), (3, 0), (4, 0), (8, 0)] hI))) (fun h =>
 (jbrkD h hc2 fun hI => sg [] [4, 6, 9, 10, 11, 13, 107, 108, 109] [(1, 0), (2, 0), (3, 0), (4, 0), (8, 0)] hI)))) (fun h =>
 (brkD h hc1 fun e => sg [] [4, 6, 9, 10, 11] [(1, 0), (2, 0), (3, 0), (4, 0)] (hb1 _ e)))
noncomputable def impl_CertApply_j4 (s_ : TState) (own : TDone) (outBoxes : List TBox) : Option (TState × Int) :=
  ((loop (fun s : (List TDone) × Int × Bool => impl_CertApply_b1 s_ own s.1 s.2.1 s.2.2) ([], 0, false)).bind fun x => x.go (fun r => some r) fun s => impl_CertApply_k5 s_ own outBoxes s.1 s.2)
theorem impl_CertApply_j4_ok (s_ : TState) (r : TState × Int) (own : TDone) (outBoxes : List TBox) (h : impl_CertApply_j4 s_ own outBoxes = some r) : Fin cx impl_CertApply_X (impl_CertApply_R r) (impl_CertApply_O r) impl_CertApply_k2 (impl_CertApply_S2 s_ own outBoxes) :=
  P0 <|
 rg3 <| loopJ h fun x hl hr hb => sg [.own (.tmp 10) 142 4] [4, 6, 9, 10, 11, 107, 108, 109] [(2, 0), (3, 0), (4, 0), (11, 0)] (loopD (I := fun s : (List TDone) × Int × Bool => Fin cx impl_CertApply_X (impl_CertApply_R r) (impl_CertApply_O r) impl_CertApply_k6 (impl_CertApply_S5 s_ own outBoxes s.1 s.2.1 s.2.2)) hl fun s st h hc => impl_CertApply_b1_ok s_ own outBoxes _ _ x (fun s e => impl_CertApply_k5_ok s_ own outBoxes r s.1 s.2 (hb s e)) (fun v e => ⟨congrArg impl_CertApply_R (Option.some.inj (hr v e)).symm, congrArg impl_CertApply_O (Option.some.inj (hr v e)).symm⟩) st hc s.1 s.2.1 s.2.2 h)
noncomputable def impl_CertApply_k9 (s_ : TState) (e_ : TEntry) (box : List TBox) : Option (TState × Int) :=
  ((((impl_ExecFresh s_.Boxes e_.Run).bind fun execFresh =>
 (bif (!execFresh) then
 some (Exc.brk ((TDone.mk e_.Req 1 0), box))
 else
 (bif (e_.Run.Code != 0) then
 some (Exc.brk ((TDone.mk e_.Req 2 0), box))
 else
 ((impl_ExecDo s_.Boxes e_.Run).bind fun execDo =>
 some (Exc.brk ((TDone.mk e_.Req 0 e_.Run.Val), execDo)))))) : Option (Exc (TState × Int) (TDone × List TBox))).bind fun x => x.go some fun j => impl_CertApply_j4 s_ j.1 j.2)
theorem impl_CertApply_k9_ok (s_ : TState) (e_ : TEntry) (box : List TBox) (r : TState × Int) (h : impl_CertApply_k9 s_ e_ box = some r) : Fin cx impl_CertApply_X (impl_CertApply_R r) (impl_CertApply_O r) impl_CertApply_k1 (impl_CertApply_S1 s_ e_ box) :=
  P0 <|
 rg <| joinD (I := fun j : TDone × List TBox => Fin cx impl_CertApply_X (impl_CertApply_R r) (impl_CertApply_O r) impl_CertApply_k2 (impl_CertApply_S2 s_ j.1 j.2)) h (fun j h => impl_CertApply_j4_ok s_ r j.1 j.2 h) (fun x1 h hc1 =>
  rg <| cb impl_ExecFresh_t impl_ExecFresh_ok 4 false h fun execFresh h =>
 cdD 6 h (fun h =>
 rg <| (jbrkD h hc1 fun hI => om (box.length = box.length) rfl <| sg [.frz (.cell 4 0 1) (none)] [2, 4, 6, 9] [(1, 0), (3, 0), (4, 0), (9, 0)] hI)) (fun h =>
 rg <| cdD 4 h (fun h =>
 rg <| (jbrkD h hc1 fun hI => om (box.length = box.length) rfl <| sg [.frz (.cell 4 0 1) (none)] [2, 4, 6, 9] [(1, 0), (3, 0), (4, 0), (9, 0)] hI)) (fun h =>
 rg2 <| cb impl_ExecDo_t impl_ExecDo_ok 4 false h fun execDo h =>
 (jbrkD h hc1 fun hI => sg [] [2, 4, 6, 9] [(1, 0), (3, 0), (4, 0), (9, 0)] hI))))
noncomputable def impl_CertApply_k10 : List Item := posI 2000 5 [false, false] [.code impl_CertApply_c]
noncomputable def impl_CertApply_S8 (s_ : TState) (e_ : TEntry) (box : List TBox) (v45 : Int) : St := ⟨(bs 2 (.ptr 1 0 0 :: (.ptr 2 0 0 :: (.ptr 3 0 0 :: (bs 1 (.ptr 4 0 0 :: (bs 36 (vsl 4 eDone s_.Dones :: (vi (s_.Dones.length : Int) :: (vi v45 :: (bs 106 []))))))))))), [some [], some [.var 59 [vi s_.At, vsl 2 eBox s_.Boxes, vsl 4 eDone s_.Dones]], some [.var 68 [.b e_.None, vi e_.Req.Who, vi e_.Req.Seq, vsl 2 eRead e_.Run.Reads, vsl 2 ePut e_.Run.Puts, vi e_.Run.Val, vi e_.Run.Code]], some [.var 59 [vi 0, .nil, .nil]], some [.var 59 [vi (w64 (s_.At + 1)), .own 5 0 2 0 box.length, .nil]], some [erow 159 2 eBox box]]⟩
noncomputable def impl_CertApply_k11 : List Item := posI 2000 8 [false, false, true, false] [.code impl_CertApply_c]
noncomputable def impl_CertApply_S9 (s_ : TState) (e_ : TEntry) (box : List TBox) (v45 : Int) : St := ⟨(bs 2 (.ptr 1 0 0 :: (.ptr 2 0 0 :: (.ptr 3 0 0 :: (bs 1 (.ptr 4 0 0 :: (bs 36 (vsl 4 eDone s_.Dones :: (vi (s_.Dones.length : Int) :: (vi v45 :: (bs 106 []))))))))))), [some [], some [.var 59 [vi s_.At, vsl 2 eBox s_.Boxes, vsl 4 eDone s_.Dones]], some [.var 68 [.b e_.None, vi e_.Req.Who, vi e_.Req.Seq, vsl 2 eRead e_.Run.Reads, vsl 2 ePut e_.Run.Puts, vi e_.Run.Val, vi e_.Run.Code]], some [.var 59 [vi 0, .nil, .nil]], some [.var 59 [vi (w64 (s_.At + 1)), .own 5 0 2 0 box.length, .nil]], some [erow 159 2 eBox box]]⟩
noncomputable def impl_CertApply_j5 (v45 : Int) : Option (Stp (TState × Int) Int Unit) :=
  some (Stp.nxt (w64 (v45 + 1)))
theorem impl_CertApply_j5_ok (s_ : TState) (e_ : TEntry) (box : List TBox) (v45 : Int) (res : V) (outs : List (Option V)) (x1 : Exc (TState × Int) Unit) (hb1 : HB cx impl_CertApply_X res outs x1 impl_CertApply_k1 (fun s => impl_CertApply_S1 s_ e_ box)) (hr1 : HR res outs x1 impl_CertApply_R impl_CertApply_O) (st1 : Stp (TState × Int) Int Unit) (hc1 : Cont x1 (fun s : Int => Fin cx impl_CertApply_X res outs impl_CertApply_k10 (impl_CertApply_S8 s_ e_ box s)) st1) (h : impl_CertApply_j5 v45 = some st1) : Fin cx impl_CertApply_X res outs impl_CertApply_k11 (impl_CertApply_S9 s_ e_ box v45) :=
  P0 <|
 rg <| (nxtD h hc1 fun hI => sg [] [2, 3, 4, 6, 43, 44, 45] [(1, 0), (2, 0), (3, 0), (4, 0), (5, 0)] hI)
noncomputable def impl_CertApply_b2 (s_ : TState) (e_ : TEntry) (box : List TBox) (v45 : Int) : Option (Stp (TState × Int) Int Unit) :=
  (bif decide (v45 < (s_.Dones.length : Int)) then
 ((idx s_.Dones v45).bind fun done3 =>
 (((bif (done3.Req.Who == e_.Req.Who) then
 (bif decide (done3.Req.Seq ≥ e_.Req.Seq) then
 ((impl_copied_Done s_.Dones).bind fun done4 =>
 (bif (done3.Req.Seq == e_.Req.Seq) then
 some (Exc.ret (Stp.ret ((TState.mk (w64 (s_.At + 1)) box done4), 3)))
 else
 some (Exc.ret (Stp.ret ((TState.mk (w64 (s_.At + 1)) box done4), 4)))))
 else
 some (Exc.brk ()))
 else
 some (Exc.brk ())) : Option (Exc (Stp (TState × Int) Int Unit) Unit)).bind fun x => x.go some fun j => impl_CertApply_j5 v45))
 else
 some (Stp.brk ()))
theorem impl_CertApply_b2_ok (s_ : TState) (e_ : TEntry) (box : List TBox) (res : V) (outs : List (Option V)) (x1 : Exc (TState × Int) Unit) (hb1 : HB cx impl_CertApply_X res outs x1 impl_CertApply_k1 (fun s => impl_CertApply_S1 s_ e_ box)) (hr1 : HR res outs x1 impl_CertApply_R impl_CertApply_O) (st1 : Stp (TState × Int) Int Unit) (hc1 : Cont x1 (fun s : Int => Fin cx impl_CertApply_X res outs impl_CertApply_k10 (impl_CertApply_S8 s_ e_ box s)) st1) (v45 : Int) (h : impl_CertApply_b2 s_ e_ box v45 = some st1) : Fin cx impl_CertApply_X res outs impl_CertApply_k10 (impl_CertApply_S8 s_ e_ box v45) :=
  P0 <|
 rg <| cdD 0 h (fun h =>
 rg <| ixS eDone 0 h fun done3 hdone3 h =>
 joinD (I := fun j : Unit => Fin cx impl_CertApply_X res outs impl_CertApply_k11 (impl_CertApply_S9 s_ e_ box v45)) h (fun j h => impl_CertApply_j5_ok s_ e_ box v45 res outs x1 hb1 hr1 st1 hc1 h) (fun x2 h hc2 =>
  rg <| cdD 7 h (fun h =>
 cdD 15 h (fun h =>
 rg <| cb impl_copied_Done_t impl_copied_Done_ok 2 false h fun done4 h =>
 rg <| cdD 6 h (fun h =>
 rg <| (jretD h hc2 fun h => (retD h hc1 fun e => om (box.length = box.length) rfl <| fn0 Tryz.func51 (hr1 _ e)))) (fun h =>
 rg <| (jretD h hc2 fun h => (retD h hc1 fun e => om (box.length = box.length) rfl <| fn0 Tryz.func51 (hr1 _ e))))) (fun h =>
 (jbrkD h hc2 fun hI => sg [] [2, 3, 4, 6, 43, 44, 45] [(1, 0), (2, 0), (3, 0), (4, 0), (5, 0)] hI))) (fun h =>
 (jbrkD h hc2 fun hI => sg [] [2, 3, 4, 6, 43, 44, 45] [(1, 0), (2, 0), (3, 0), (4, 0), (5, 0)] hI)))) (fun h =>
 (brkD h hc1 fun e => sg [] [2, 3, 4, 6] [(1, 0), (2, 0), (3, 0), (4, 0), (5, 0)] (hb1 _ e)))
noncomputable def impl_CertApply (s_ : TState) (e_ : TEntry) : Option (TState × Int) :=
  ((impl_CertOk s_).bind fun certOk =>
 (bif (!certOk) then
 some ((TState.mk 0 [] []), (-1))
 else
 ((impl_CertEntry e_).bind fun certEntry =>
 (bif (!certEntry) then
 some ((TState.mk 0 [] []), (-1))
 else
 (bif (s_.At == 40) then
 some ((TState.mk 0 [] []), (-1))
 else
 ((impl_copied_Box s_.Boxes).bind fun box =>
 (bif e_.None then
 ((impl_copied_Done s_.Dones).bind fun done =>
 some ((TState.mk (w64 (s_.At + 1)) box done), 5))
 else
 ((loop (fun s : Int => impl_CertApply_b2 s_ e_ box s) 0).bind fun x => x.go (fun r => some r) fun s => impl_CertApply_k9 s_ e_ box))))))))
theorem impl_CertApply_ok {s_ : TState} {e_ : TEntry} (r : TState × Int) (h : impl_CertApply s_ e_ = some r) : ACalls cx.P 51 [.agg (eState s_), .agg (eEntry e_)] (impl_CertApply_R r) (impl_CertApply_O r) :=
  ACalls.of (cx := cx) (X := impl_CertApply_X) (c := impl_CertApply_c) Tryz.func51 (by kernel_rfl) (by kernel_rfl) (by kernel_rfl) (P0 <|
 rg2 <| cb impl_CertOk_t impl_CertOk_ok 1 false h fun certOk h =>
 cdD 3 h (fun h =>
 rg <| fe Tryz.func51 h) (fun h =>
 cb impl_CertEntry_t impl_CertEntry_ok 5 false h fun certEntry h =>
 cdD 8 h (fun h =>
 rg <| fe Tryz.func51 h) (fun h =>
 cdD 12 h (fun h =>
 rg <| fe Tryz.func51 h) (fun h =>
 rg <| cb impl_copied_Box_t impl_copied_Box_ok 5 false h fun box h =>
 rg <| cdD 1 h (fun h =>
 rg <| cb impl_copied_Done_t impl_copied_Done_ok 2 false h fun done h =>
 rg <| om (box.length = box.length) rfl <| fe Tryz.func51 h) (fun h =>
 rg <| loopJ h fun x hl hr hb => sg [] [2, 3, 4, 6, 43, 44, 45] [(1, 0), (2, 0), (3, 0), (25, 0), (23, 0)] (loopD (I := fun s : Int => Fin cx impl_CertApply_X (impl_CertApply_R r) (impl_CertApply_O r) impl_CertApply_k10 (impl_CertApply_S8 s_ e_ box s)) hl fun s st h hc => impl_CertApply_b2_ok s_ e_ box _ _ x (fun s e => impl_CertApply_k9_ok s_ e_ box r (hb s e)) (fun v e => ⟨congrArg impl_CertApply_R (Option.some.inj (hr v e)).symm, congrArg impl_CertApply_O (Option.some.inj (hr v e)).symm⟩) st hc s h))))))

/-! ### impl_folded -/
noncomputable def impl_folded_c : Code := bodyOf Tryz.f23
noncomputable def impl_folded_X : Sig := { f := 23, fn := Tryz.f23, rms := [.val [none, some 2, some 4] [], .val [some 1] []], oms := [none] }
noncomputable def impl_folded_R (r : TState × List Int) : V := .tup [.agg (eState r.1), vsl 1 eI r.2]
noncomputable def impl_folded_O (r : TState × List Int) : List (Option V) := [none]
noncomputable def impl_folded_t (i : Nat) (fr : Bool) (r : TState × List Int) : Nat × Tell := (i, { a := .call [.val [some 7] []] fr (impl_folded_R r) (impl_folded_O r) })
noncomputable def impl_folded_k1 : List Item := posI 2000 5 [false] [.code impl_folded_c]
noncomputable def impl_folded_S1 (s_1 : TState) (codes1 : List Int) : St := ⟨(bs 2 (.ptr 1 0 0 :: (bs 1 (.ptr 2 0 0 :: (.own 3 0 1 0 codes1.length :: (bs 25 [])))))), [some [], some [.var 59 [vi 0, .nil, .nil]], some [.var 59 [vi s_1.At, vsl 2 eBox s_1.Boxes, vsl 4 eDone s_1.Dones]], some [erow 3 1 eI codes1]]⟩
noncomputable def impl_folded_k2 (s_1 : TState) (codes1 : List Int) : Option (TState × List Int) :=
  some (s_1, codes1)
theorem impl_folded_k2_ok (r : TState × List Int) (s_1 : TState) (codes1 : List Int) (h : impl_folded_k2 s_1 codes1 = some r) : Fin cx impl_folded_X (impl_folded_R r) (impl_folded_O r) impl_folded_k1 (impl_folded_S1 s_1 codes1) :=
  P0 <|
 rg <| om (codes1.length = codes1.length) rfl <| fe Tryz.func23 h
noncomputable def impl_folded_k3 : List Item := posI 2000 4 [] [.code impl_folded_c]
noncomputable def impl_folded_S2 (list : List TEntry) (s_ : TState) (codes : List Int) (v13 : Int) : St := ⟨(bs 2 (.ptr 1 0 0 :: (bs 1 (.ptr 2 0 0 :: (.own 3 0 1 0 codes.length :: (bs 5 (vsl 7 eEntry list :: (vi (list.length : Int) :: (vi v13 :: (bs 17 [])))))))))), [some [], some [.var 59 [vi 0, .nil, .nil]], some [.var 59 [vi s_.At, vsl 2 eBox s_.Boxes, vsl 4 eDone s_.Dones]], some [erow 3 1 eI codes]]⟩
noncomputable def impl_folded_b1 (list : List TEntry) (s_ : TState) (codes : List Int) (v13 : Int) : Option (Stp (TState × List Int) (TState × (List Int) × Int) (TState × List Int)) :=
  (bif decide (v13 < (list.length : Int)) then
 ((idx list v13).bind fun entry =>
 ((impl_CertApply s_ entry).bind fun certApply =>
 (need ((codes.length + 1) * 8 ≤ 140737488355328)
 (some (Stp.nxt (certApply.1, codes ++ [certApply.2], w64 (v13 + 1)))))))
 else
 some (Stp.brk (s_, codes)))
theorem impl_folded_b1_ok (list : List TEntry) (res : V) (outs : List (Option V)) (x1 : Exc (TState × List Int) (TState × List Int)) (hb1 : HB cx impl_folded_X res outs x1 impl_folded_k1 (fun s => impl_folded_S1 s.1 s.2)) (hr1 : HR res outs x1 impl_folded_R impl_folded_O) (st1 : Stp (TState × List Int) (TState × (List Int) × Int) (TState × List Int)) (hc1 : Cont x1 (fun s : TState × (List Int) × Int => Fin cx impl_folded_X res outs impl_folded_k3 (impl_folded_S2 list s.1 s.2.1 s.2.2)) st1) (s_ : TState) (codes : List Int) (v13 : Int) (h : impl_folded_b1 list s_ codes v13 = some st1) : Fin cx impl_folded_X res outs impl_folded_k3 (impl_folded_S2 list s_ codes v13) :=
  P0 <|
 rg <| cdD 0 h (fun h =>
 rg <| ixS eEntry 0 h fun entry hentry h =>
 rg <| cb impl_CertApply_t impl_CertApply_ok 2 false h fun certApply h =>
 rg2 <| tl (2, { a := .ck [] }) <| needD h fun e1 h =>
 apS 3 23 3 1 8 eI codes certApply.2 e1 <| om (1 = [certApply.2].length) (by rfl) <| rg <| (nxtD h hc1 fun hI => sg [] [2, 4, 5, 11, 12, 13] [(1, 0), (2, 0), (23, 0)] hI)) (fun h =>
 (brkD h hc1 fun e => sg [] [2, 4, 5] [(1, 0), (2, 0), (3, 0)] (hb1 _ e)))
noncomputable def impl_folded (list : List TEntry) : Option (TState × List Int) :=
  ((impl_CertOpen).bind fun certOpen =>
 ((loop (fun s : TState × (List Int) × Int => impl_folded_b1 list s.1 s.2.1 s.2.2) (certOpen, [], 0)).bind fun x => x.go (fun r => some r) fun s => impl_folded_k2 s.1 s.2))
theorem impl_folded_ok {list : List TEntry} (r : TState × List Int) (h : impl_folded list = some r) : ACalls cx.P 23 [vsl 7 eEntry list] (impl_folded_R r) (impl_folded_O r) :=
  ACalls.of (cx := cx) (X := impl_folded_X) (c := impl_folded_c) Tryz.func23 (by kernel_rfl) (by kernel_rfl) (by kernel_rfl) (P0 <|
 rg2 <| cb impl_CertOpen_t impl_CertOpen_ok 0 false h fun certOpen h =>
 rg2 <| loopJ h fun x hl hr hb => sg [.own (.tmp 5) 3 1] [2, 4, 5, 11, 12, 13] [(1, 0), (4, 0), (10, 0)] (loopD (I := fun s : TState × (List Int) × Int => Fin cx impl_folded_X (impl_folded_R r) (impl_folded_O r) impl_folded_k3 (impl_folded_S2 list s.1 s.2.1 s.2.2)) hl fun s st h hc => impl_folded_b1_ok list _ _ x (fun s e => impl_folded_k2_ok r s.1 s.2 (hb s e)) (fun v e => ⟨congrArg impl_folded_R (Option.some.inj (hr v e)).symm, congrArg impl_folded_O (Option.some.inj (hr v e)).symm⟩) st hc s.1 s.2.1 s.2.2 h))

/-! ### impl_first -/
noncomputable def impl_first_c : Code := bodyOf Tryz.f24
noncomputable def impl_first_X : Sig := { f := 24, fn := Tryz.f24, rms := [.val [] []], oms := [none, none] }
noncomputable def impl_first_R (r : Int) : V := vi r
noncomputable def impl_first_O (r : Int) : List (Option V) := [none, none]
noncomputable def impl_first_t (i : Nat) (fr : Bool) (r : Int) : Nat × Tell := (i, { a := .call [.val [some 7] [], .val [] []] fr (impl_first_R r) (impl_first_O r) })
noncomputable def impl_first_k1 : List Item := posI 2000 3 [false] [.code impl_first_c]
noncomputable def impl_first_S1 : St := ⟨(bs 25 []), [some []]⟩
noncomputable def impl_first_k2 : Option Int :=
  some (-1)
theorem impl_first_k2_ok (r : Int) (h : impl_first_k2 = some r) : Fin cx impl_first_X (impl_first_R r) (impl_first_O r) impl_first_k1 (impl_first_S1) :=
  P0 <|
 rg <| fe Tryz.func24 h
noncomputable def impl_first_k3 : List Item := posI 2000 2 [] [.code impl_first_c]
noncomputable def impl_first_S2 (list : List TEntry) (q : TReq) (v9 : Int) : St := ⟨(bs 3 (.ptr 1 0 0 :: (bs 3 (vsl 7 eEntry list :: (vi (list.length : Int) :: (vi v9 :: (bs 15 []))))))), [some [], some [.var 46 [vi q.Who, vi q.Seq]]]⟩
noncomputable def impl_first_k4 : List Item := posI 2000 5 [true, false] [.code impl_first_c]
noncomputable def impl_first_S3 (list : List TEntry) (q : TReq) (v9 : Int) : St := ⟨(bs 3 (.ptr 1 0 0 :: (bs 3 (vsl 7 eEntry list :: (vi (list.length : Int) :: (vi v9 :: (bs 15 []))))))), [some [], some [.var 46 [vi q.Who, vi q.Seq]]]⟩
noncomputable def impl_first_j1 (v9 : Int) : Option (Stp Int Int Unit) :=
  some (Stp.nxt (w64 (v9 + 1)))
theorem impl_first_j1_ok (list : List TEntry) (q : TReq) (v9 : Int) (res : V) (outs : List (Option V)) (x1 : Exc Int Unit) (hb1 : HB cx impl_first_X res outs x1 impl_first_k1 (fun s => impl_first_S1)) (hr1 : HR res outs x1 impl_first_R impl_first_O) (st1 : Stp Int Int Unit) (hc1 : Cont x1 (fun s : Int => Fin cx impl_first_X res outs impl_first_k3 (impl_first_S2 list q s)) st1) (h : impl_first_j1 v9 = some st1) : Fin cx impl_first_X res outs impl_first_k4 (impl_first_S3 list q v9) :=
  P0 <|
 rg <| (nxtD h hc1 fun hI => sg [] [3, 7, 8, 9] [(1, 0)] hI)
noncomputable def impl_first_b1 (list : List TEntry) (q : TReq) (v9 : Int) : Option (Stp Int Int Unit) :=
  (bif decide (v9 < (list.length : Int)) then
 ((idx list v9).bind fun entry =>
 (((bif (!entry.None) then
 (bif (([entry.Req.Who, entry.Req.Seq] : List Int) == [q.Who, q.Seq]) then
 some (Exc.ret (Stp.ret v9))
 else
 some (Exc.brk ()))
 else
 some (Exc.brk ())) : Option (Exc (Stp Int Int Unit) Unit)).bind fun x => x.go some fun j => impl_first_j1 v9))
 else
 some (Stp.brk ()))
theorem impl_first_b1_ok (list : List TEntry) (q : TReq) (res : V) (outs : List (Option V)) (x1 : Exc Int Unit) (hb1 : HB cx impl_first_X res outs x1 impl_first_k1 (fun s => impl_first_S1)) (hr1 : HR res outs x1 impl_first_R impl_first_O) (st1 : Stp Int Int Unit) (hc1 : Cont x1 (fun s : Int => Fin cx impl_first_X res outs impl_first_k3 (impl_first_S2 list q s)) st1) (v9 : Int) (h : impl_first_b1 list q v9 = some st1) : Fin cx impl_first_X res outs impl_first_k3 (impl_first_S2 list q v9) :=
  P0 <|
 rg <| cdD 0 h (fun h =>
 rg <| ixS eEntry 1 h fun entry hentry h =>
 joinD (I := fun j : Unit => Fin cx impl_first_X res outs impl_first_k4 (impl_first_S3 list q v9)) h (fun j h => impl_first_j1_ok list q v9 res outs x1 hb1 hr1 st1 hc1 h) (fun x2 h hc2 =>
  rg <| cdD 3 h (fun h =>
 cdD 8 h (fun h =>
 rg <| (jretD h hc2 fun h => (retD h hc1 fun e => fn0 Tryz.func24 (hr1 _ e)))) (fun h =>
 (jbrkD h hc2 fun hI => sg [] [3, 7, 8, 9] [(1, 0)] hI))) (fun h =>
 (jbrkD h hc2 fun hI => sg [] [3, 7, 8, 9] [(1, 0)] hI)))) (fun h =>
 (brkD h hc1 fun e => sg [] [] [] (hb1 _ e)))
noncomputable def impl_first (list : List TEntry) (q : TReq) : Option Int :=
  ((loop (fun s : Int => impl_first_b1 list q s) 0).bind fun x => x.go (fun r => some r) fun s => impl_first_k2)
theorem impl_first_ok {list : List TEntry} {q : TReq} (r : Int) (h : impl_first list q = some r) : ACalls cx.P 24 [vsl 7 eEntry list, .agg (eReq q)] (impl_first_R r) (impl_first_O r) :=
  ACalls.of (cx := cx) (X := impl_first_X) (c := impl_first_c) Tryz.func24 (by kernel_rfl) (by kernel_rfl) (by kernel_rfl) (P0 <|
 rg2 <| loopJ h fun x hl hr hb => sg [] [3, 7, 8, 9] [(1, 0)] (loopD (I := fun s : Int => Fin cx impl_first_X (impl_first_R r) (impl_first_O r) impl_first_k3 (impl_first_S2 list q s)) hl fun s st h hc => impl_first_b1_ok list q _ _ x (fun s e => impl_first_k2_ok r (hb s e)) (fun v e => ⟨congrArg impl_first_R (Option.some.inj (hr v e)).symm, congrArg impl_first_O (Option.some.inj (hr v e)).symm⟩) st hc s h))

/-! ### impl_ToldTrue -/
noncomputable def impl_ToldTrue_c : Code := bodyOf Tryz.f7
noncomputable def impl_ToldTrue_X : Sig := { f := 7, fn := Tryz.f7, rms := [.val [] []], oms := [none] }
noncomputable def impl_ToldTrue_R (r : Bool) : V := .b r
noncomputable def impl_ToldTrue_O (r : Bool) : List (Option V) := [none]
noncomputable def impl_ToldTrue_t (i : Nat) (fr : Bool) (r : Bool) : Nat × Tell := (i, { a := .call [.val ck35 []] fr (impl_ToldTrue_R r) (impl_ToldTrue_O r) })
noncomputable def impl_ToldTrue_k1 : List Item := posI 2000 6 [false, false] [.code impl_ToldTrue_c]
noncomputable def impl_ToldTrue_S1 : St := ⟨(bs 56 []), [some []]⟩
noncomputable def impl_ToldTrue_k2 : Option Bool :=
  some true
theorem impl_ToldTrue_k2_ok (r : Bool) (h : impl_ToldTrue_k2 = some r) : Fin cx impl_ToldTrue_X (impl_ToldTrue_R r) (impl_ToldTrue_O r) impl_ToldTrue_k1 (impl_ToldTrue_S1) :=
  P0 <|
 rg <| fe Tryz.func7 h
noncomputable def impl_ToldTrue_k3 : List Item := posI 2000 5 [false] [.code impl_ToldTrue_c]
noncomputable def impl_ToldTrue_S2 (w : TWorld) (worldLog : List TEntry) (folded : TState × List Int) (v23 : Int) : St := ⟨(bs 3 (vsl 7 eEntry worldLog :: (bs 1 (vsl 1 eI folded.2 :: (bs 15 (vsl 5 eTold w.Told :: (vi (w.Told.length : Int) :: (vi v23 :: (bs 32 []))))))))), [some []]⟩
noncomputable def impl_ToldTrue_k4 : List Item := posI 2000 12 [false, true, false, true] [.code impl_ToldTrue_c]
noncomputable def impl_ToldTrue_S3 (w : TWorld) (worldLog : List TEntry) (folded : TState × List Int) (v23 : Int) (told : TTold) (val : Int) : St := ⟨(bs 3 (vsl 7 eEntry worldLog :: (bs 1 (vsl 1 eI folded.2 :: (bs 1 (.ptr 1 0 0 :: (bs 1 (vi val :: (bs 11 (vsl 5 eTold w.Told :: (vi (w.Told.length : Int) :: (vi v23 :: (bs 32 []))))))))))))), [some [], some [.var 48 [vi told.Node, vi told.Req.Who, vi told.Req.Seq, vi told.Code, vi told.Val]]]⟩
noncomputable def impl_ToldTrue_j1 (v23 : Int) (told : TTold) (val : Int) : Option (Stp Bool Int Unit) :=
  (bif (told.Val != val) then
 some (Stp.ret false)
 else
 some (Stp.nxt (w64 (v23 + 1))))
theorem impl_ToldTrue_j1_ok (w : TWorld) (worldLog : List TEntry) (folded : TState × List Int) (v23 : Int) (told : TTold) (res : V) (outs : List (Option V)) (x1 : Exc Bool Unit) (hb1 : HB cx impl_ToldTrue_X res outs x1 impl_ToldTrue_k1 (fun s => impl_ToldTrue_S1)) (hr1 : HR res outs x1 impl_ToldTrue_R impl_ToldTrue_O) (st1 : Stp Bool Int Unit) (hc1 : Cont x1 (fun s : Int => Fin cx impl_ToldTrue_X res outs impl_ToldTrue_k3 (impl_ToldTrue_S2 w worldLog folded s)) st1) (val : Int) (h : impl_ToldTrue_j1 v23 told val = some st1) : Fin cx impl_ToldTrue_X res outs impl_ToldTrue_k4 (impl_ToldTrue_S3 w worldLog folded v23 told val) :=
  P0 <|
 rg <| cdD 3 h (fun h =>
 rg <| (retD h hc1 fun e => fn0 Tryz.func7 (hr1 _ e))) (fun h =>
 rg <| (nxtD h hc1 fun hI => sg [] [3, 5, 21, 22, 23] [] hI))
noncomputable def impl_ToldTrue_b1 (w : TWorld) (worldLog : List TEntry) (folded : TState × List Int) (v23 : Int) : Option (Stp Bool Int Unit) :=
  (bif decide (v23 < (w.Told.length : Int)) then
 ((idx w.Told v23).bind fun told =>
 ((impl_first worldLog told.Req).bind fun first =>
 (bif decide (first < 0) then
 some (Stp.ret false)
 else
 ((idx folded.2 first).bind fun y =>
 (bif (y != told.Code) then
 some (Stp.ret false)
 else
 (((bif (told.Code == 0) then
 ((idx worldLog first).bind fun entry =>
 some (Exc.brk entry.Run.Val))
 else
 some (Exc.brk 0)) : Option (Exc (Stp Bool Int Unit) Int)).bind fun x => x.go some fun j => impl_ToldTrue_j1 v23 told j))))))
 else
 some (Stp.brk ()))
theorem impl_ToldTrue_b1_ok (w : TWorld) (worldLog : List TEntry) (folded : TState × List Int) (res : V) (outs : List (Option V)) (x1 : Exc Bool Unit) (hb1 : HB cx impl_ToldTrue_X res outs x1 impl_ToldTrue_k1 (fun s => impl_ToldTrue_S1)) (hr1 : HR res outs x1 impl_ToldTrue_R impl_ToldTrue_O) (st1 : Stp Bool Int Unit) (hc1 : Cont x1 (fun s : Int => Fin cx impl_ToldTrue_X res outs impl_ToldTrue_k3 (impl_ToldTrue_S2 w worldLog folded s)) st1) (v23 : Int) (h : impl_ToldTrue_b1 w worldLog folded v23 = some st1) : Fin cx impl_ToldTrue_X res outs impl_ToldTrue_k3 (impl_ToldTrue_S2 w worldLog folded v23) :=
  P0 <|
 rg <| cdD 0 h (fun h =>
 rg <| ixS eTold 0 h fun told htold h =>
 rg <| cb impl_first_t impl_first_ok 3 false h fun first h =>
 rg <| cdD 2 h (fun h =>
 rg <| (retD h hc1 fun e => fn0 Tryz.func7 (hr1 _ e))) (fun h =>
 ixS eI 5 h fun y hy h =>
 cdD 10 h (fun h =>
 rg <| (retD h hc1 fun e => fn0 Tryz.func7 (hr1 _ e))) (fun h =>
 rg <| joinD (I := fun j : Int => Fin cx impl_ToldTrue_X res outs impl_ToldTrue_k4 (impl_ToldTrue_S3 w worldLog folded v23 told j)) h (fun j h => impl_ToldTrue_j1_ok w worldLog folded v23 told res outs x1 hb1 hr1 st1 hc1 j h) (fun x2 h hc2 =>
  rg <| cdD 2 h (fun h =>
 rg <| ixS eEntry 2 h fun entry hentry h =>
 (jbrkD h hc2 fun hI => sg [] [3, 5, 7, 9, 21, 22, 23] [(4, 0)] hI)) (fun h =>
 (jbrkD h hc2 fun hI => sg [] [3, 5, 7, 9, 21, 22, 23] [(4, 0)] hI)))))) (fun h =>
 (brkD h hc1 fun e => sg [] [] [] (hb1 _ e)))
noncomputable def impl_ToldTrue (w : TWorld) : Option Bool :=
  ((impl_WorldOk w).bind fun worldOk =>
 (bif (!worldOk) then
 some false
 else
 ((impl_WorldLog w).bind fun worldLog =>
 ((impl_folded worldLog).bind fun folded =>
 ((loop (fun s : Int => impl_ToldTrue_b1 w worldLog folded s) 0).bind fun x => x.go (fun r => some r) fun s => impl_ToldTrue_k2)))))
theorem impl_ToldTrue_ok {w : TWorld} (r : Bool) (h : impl_ToldTrue w = some r) : ACalls cx.P 7 [.agg (eWorld w)] (impl_ToldTrue_R r) (impl_ToldTrue_O r) :=
  ACalls.of (cx := cx) (X := impl_ToldTrue_X) (c := impl_ToldTrue_c) Tryz.func7 (by kernel_rfl) (by kernel_rfl) (by kernel_rfl) (P0 <|
 rg2 <| cb impl_WorldOk_t impl_WorldOk_ok 1 false h fun worldOk h =>
 cdD 2 h (fun h =>
 rg <| fe Tryz.func7 h) (fun h =>
 rg <| cb impl_WorldLog_t impl_WorldLog_ok 1 false h fun worldLog h =>
 rg <| cb impl_folded_t impl_folded_ok 1 false h fun folded h =>
 rg <| loopJ h fun x hl hr hb => sg [] [3, 5, 21, 22, 23] [] (loopD (I := fun s : Int => Fin cx impl_ToldTrue_X (impl_ToldTrue_R r) (impl_ToldTrue_O r) impl_ToldTrue_k3 (impl_ToldTrue_S2 w worldLog folded s)) hl fun s st h hc => impl_ToldTrue_b1_ok w worldLog folded _ _ x (fun s e => impl_ToldTrue_k2_ok r (hb s e)) (fun v e => ⟨congrArg impl_ToldTrue_R (Option.some.inj (hr v e)).symm, congrArg impl_ToldTrue_O (Option.some.inj (hr v e)).symm⟩) st hc s h)))

/-! ### laws_eqReq -/
noncomputable def laws_eqReq_c : Code := bodyOf Tryz.f106
noncomputable def laws_eqReq_X : Sig := { f := 106, fn := Tryz.f106, rms := [.val [] []], oms := [none, none] }
noncomputable def laws_eqReq_R (r : Bool) : V := .b r
noncomputable def laws_eqReq_O (r : Bool) : List (Option V) := [none, none]
noncomputable def laws_eqReq_t (i : Nat) (fr : Bool) (r : Bool) : Nat × Tell := (i, { a := .call [.val [] [], .val [] []] fr (laws_eqReq_R r) (laws_eqReq_O r) })
noncomputable def laws_eqReq (a : TReq) (b : TReq) : Option Bool :=
  (bif (a.Who != b.Who) then
 some false
 else
 (bif (a.Seq != b.Seq) then
 some false
 else
 some true))
theorem laws_eqReq_ok {a : TReq} {b : TReq} (r : Bool) (h : laws_eqReq a b = some r) : ACalls cx.P 106 [.agg (eReq a), .agg (eReq b)] (laws_eqReq_R r) (laws_eqReq_O r) :=
  ACalls.of (cx := cx) (X := laws_eqReq_X) (c := laws_eqReq_c) Tryz.func106 (by kernel_rfl) (by kernel_rfl) (by kernel_rfl) (P0 <|
 rg2 <| cdD 4 h (fun h =>
 rg <| fe Tryz.func106 h) (fun h =>
 rg <| cdD 4 h (fun h =>
 rg <| fe Tryz.func106 h) (fun h =>
 rg <| fe Tryz.func106 h)))

/-! ### laws_eqRead -/
noncomputable def laws_eqRead_c : Code := bodyOf Tryz.f147
noncomputable def laws_eqRead_X : Sig := { f := 147, fn := Tryz.f147, rms := [.val [] []], oms := [none, none] }
noncomputable def laws_eqRead_R (r : Bool) : V := .b r
noncomputable def laws_eqRead_O (r : Bool) : List (Option V) := [none, none]
noncomputable def laws_eqRead_t (i : Nat) (fr : Bool) (r : Bool) : Nat × Tell := (i, { a := .call [.val [] [], .val [] []] fr (laws_eqRead_R r) (laws_eqRead_O r) })
noncomputable def laws_eqRead (a : TRead) (b : TRead) : Option Bool :=
  (bif (a.Box != b.Box) then
 some false
 else
 (bif (a.Ver != b.Ver) then
 some false
 else
 some true))
theorem laws_eqRead_ok {a : TRead} {b : TRead} (r : Bool) (h : laws_eqRead a b = some r) : ACalls cx.P 147 [.agg (eRead a), .agg (eRead b)] (laws_eqRead_R r) (laws_eqRead_O r) :=
  ACalls.of (cx := cx) (X := laws_eqRead_X) (c := laws_eqRead_c) Tryz.func147 (by kernel_rfl) (by kernel_rfl) (by kernel_rfl) (P0 <|
 rg2 <| cdD 4 h (fun h =>
 rg <| fe Tryz.func147 h) (fun h =>
 rg <| cdD 4 h (fun h =>
 rg <| fe Tryz.func147 h) (fun h =>
 rg <| fe Tryz.func147 h)))

/-! ### laws_eqReadS -/
noncomputable def laws_eqReadS_c : Code := bodyOf Tryz.f143
noncomputable def laws_eqReadS_X : Sig := { f := 143, fn := Tryz.f143, rms := [.val [] []], oms := [none, none] }
noncomputable def laws_eqReadS_R (r : Bool) : V := .b r
noncomputable def laws_eqReadS_O (r : Bool) : List (Option V) := [none, none]
noncomputable def laws_eqReadS_t (i : Nat) (fr : Bool) (r : Bool) : Nat × Tell := (i, { a := .call [.val [some 2] [], .val [some 2] []] fr (laws_eqReadS_R r) (laws_eqReadS_O r) })
noncomputable def laws_eqReadS_k1 : List Item := posI 2000 4 [false, false] [.code laws_eqReadS_c]
noncomputable def laws_eqReadS_S1 : St := ⟨(bs 27 []), [some []]⟩
noncomputable def laws_eqReadS_k2 : Option Bool :=
  some true
theorem laws_eqReadS_k2_ok (r : Bool) (h : laws_eqReadS_k2 = some r) : Fin cx laws_eqReadS_X (laws_eqReadS_R r) (laws_eqReadS_O r) laws_eqReadS_k1 (laws_eqReadS_S1) :=
  P0 <|
 rg <| fe Tryz.func143 h
noncomputable def laws_eqReadS_k3 : List Item := posI 2000 3 [false] [.code laws_eqReadS_c]
noncomputable def laws_eqReadS_S2 (a : List TRead) (b : List TRead) (i : Int) : St := ⟨(vsl 2 eRead a :: (vsl 2 eRead b :: (bs 3 (vi i :: (bs 21 []))))), [some []]⟩
noncomputable def laws_eqReadS_b1 (a : List TRead) (b : List TRead) (i : Int) : Option (Stp Bool Int Unit) :=
  (bif decide (i < (a.length : Int)) then
 ((idx a i).bind fun read =>
 ((idx b i).bind fun read1 =>
 ((laws_eqRead read read1).bind fun eqRead =>
 (bif (!eqRead) then
 some (Stp.ret false)
 else
 some (Stp.nxt (w64 (i + 1)))))))
 else
 some (Stp.brk ()))
theorem laws_eqReadS_b1_ok (a : List TRead) (b : List TRead) (res : V) (outs : List (Option V)) (x1 : Exc Bool Unit) (hb1 : HB cx laws_eqReadS_X res outs x1 laws_eqReadS_k1 (fun s => laws_eqReadS_S1)) (hr1 : HR res outs x1 laws_eqReadS_R laws_eqReadS_O) (st1 : Stp Bool Int Unit) (hc1 : Cont x1 (fun s : Int => Fin cx laws_eqReadS_X res outs laws_eqReadS_k3 (laws_eqReadS_S2 a b s)) st1) (i : Int) (h : laws_eqReadS_b1 a b i = some st1) : Fin cx laws_eqReadS_X res outs laws_eqReadS_k3 (laws_eqReadS_S2 a b i) :=
  P0 <|
 rg <| cdD 3 h (fun h =>
 rg <| ixS eRead 2 h fun read hread h =>
 ixS eRead 6 h fun read1 hread1 h =>
 cb laws_eqRead_t laws_eqRead_ok 8 false h fun eqRead h =>
 cdD 9 h (fun h =>
 rg <| (retD h hc1 fun e => fn0 Tryz.func143 (hr1 _ e))) (fun h =>
 rg <| (nxtD h hc1 fun hI => sg [] [0, 1, 5] [] hI))) (fun h =>
 (brkD h hc1 fun e => sg [] [] [] (hb1 _ e)))
noncomputable def laws_eqReadS (a : List TRead) (b : List TRead) : Option Bool :=
  (bif ((a.length : Int) != (b.length : Int)) then
 some false
 else
 ((loop (fun s : Int => laws_eqReadS_b1 a b s) 0).bind fun x => x.go (fun r => some r) fun s => laws_eqReadS_k2))
theorem laws_eqReadS_ok {a : List TRead} {b : List TRead} (r : Bool) (h : laws_eqReadS a b = some r) : ACalls cx.P 143 [vsl 2 eRead a, vsl 2 eRead b] (laws_eqReadS_R r) (laws_eqReadS_O r) :=
  ACalls.of (cx := cx) (X := laws_eqReadS_X) (c := laws_eqReadS_c) Tryz.func143 (by kernel_rfl) (by kernel_rfl) (by kernel_rfl) (P0 <|
 rg2 <| cdD 4 h (fun h =>
 rg <| fe Tryz.func143 h) (fun h =>
 rg <| loopJ h fun x hl hr hb => sg [] [0, 1, 5] [] (loopD (I := fun s : Int => Fin cx laws_eqReadS_X (laws_eqReadS_R r) (laws_eqReadS_O r) laws_eqReadS_k3 (laws_eqReadS_S2 a b s)) hl fun s st h hc => laws_eqReadS_b1_ok a b _ _ x (fun s e => laws_eqReadS_k2_ok r (hb s e)) (fun v e => ⟨congrArg laws_eqReadS_R (Option.some.inj (hr v e)).symm, congrArg laws_eqReadS_O (Option.some.inj (hr v e)).symm⟩) st hc s h)))

/-! ### laws_eqPut -/
noncomputable def laws_eqPut_c : Code := bodyOf Tryz.f148
noncomputable def laws_eqPut_X : Sig := { f := 148, fn := Tryz.f148, rms := [.val [] []], oms := [none, none] }
noncomputable def laws_eqPut_R (r : Bool) : V := .b r
noncomputable def laws_eqPut_O (r : Bool) : List (Option V) := [none, none]
noncomputable def laws_eqPut_t (i : Nat) (fr : Bool) (r : Bool) : Nat × Tell := (i, { a := .call [.val [] [], .val [] []] fr (laws_eqPut_R r) (laws_eqPut_O r) })
noncomputable def laws_eqPut (a : TPut) (b : TPut) : Option Bool :=
  (bif (a.Box != b.Box) then
 some false
 else
 (bif (a.Val != b.Val) then
 some false
 else
 some true))
theorem laws_eqPut_ok {a : TPut} {b : TPut} (r : Bool) (h : laws_eqPut a b = some r) : ACalls cx.P 148 [.agg (ePut a), .agg (ePut b)] (laws_eqPut_R r) (laws_eqPut_O r) :=
  ACalls.of (cx := cx) (X := laws_eqPut_X) (c := laws_eqPut_c) Tryz.func148 (by kernel_rfl) (by kernel_rfl) (by kernel_rfl) (P0 <|
 rg2 <| cdD 4 h (fun h =>
 rg <| fe Tryz.func148 h) (fun h =>
 rg <| cdD 4 h (fun h =>
 rg <| fe Tryz.func148 h) (fun h =>
 rg <| fe Tryz.func148 h)))

/-! ### laws_eqPutS -/
noncomputable def laws_eqPutS_c : Code := bodyOf Tryz.f144
noncomputable def laws_eqPutS_X : Sig := { f := 144, fn := Tryz.f144, rms := [.val [] []], oms := [none, none] }
noncomputable def laws_eqPutS_R (r : Bool) : V := .b r
noncomputable def laws_eqPutS_O (r : Bool) : List (Option V) := [none, none]
noncomputable def laws_eqPutS_t (i : Nat) (fr : Bool) (r : Bool) : Nat × Tell := (i, { a := .call [.val [some 2] [], .val [some 2] []] fr (laws_eqPutS_R r) (laws_eqPutS_O r) })
noncomputable def laws_eqPutS_k1 : List Item := posI 2000 4 [false, false] [.code laws_eqPutS_c]
noncomputable def laws_eqPutS_S1 : St := ⟨(bs 27 []), [some []]⟩
noncomputable def laws_eqPutS_k2 : Option Bool :=
  some true
theorem laws_eqPutS_k2_ok (r : Bool) (h : laws_eqPutS_k2 = some r) : Fin cx laws_eqPutS_X (laws_eqPutS_R r) (laws_eqPutS_O r) laws_eqPutS_k1 (laws_eqPutS_S1) :=
  P0 <|
 rg <| fe Tryz.func144 h
noncomputable def laws_eqPutS_k3 : List Item := posI 2000 3 [false] [.code laws_eqPutS_c]
noncomputable def laws_eqPutS_S2 (a : List TPut) (b : List TPut) (i : Int) : St := ⟨(vsl 2 ePut a :: (vsl 2 ePut b :: (bs 3 (vi i :: (bs 21 []))))), [some []]⟩
noncomputable def laws_eqPutS_b1 (a : List TPut) (b : List TPut) (i : Int) : Option (Stp Bool Int Unit) :=
  (bif decide (i < (a.length : Int)) then
 ((idx a i).bind fun put =>
 ((idx b i).bind fun put1 =>
 ((laws_eqPut put put1).bind fun eqPut =>
 (bif (!eqPut) then
 some (Stp.ret false)
 else
 some (Stp.nxt (w64 (i + 1)))))))
 else
 some (Stp.brk ()))
theorem laws_eqPutS_b1_ok (a : List TPut) (b : List TPut) (res : V) (outs : List (Option V)) (x1 : Exc Bool Unit) (hb1 : HB cx laws_eqPutS_X res outs x1 laws_eqPutS_k1 (fun s => laws_eqPutS_S1)) (hr1 : HR res outs x1 laws_eqPutS_R laws_eqPutS_O) (st1 : Stp Bool Int Unit) (hc1 : Cont x1 (fun s : Int => Fin cx laws_eqPutS_X res outs laws_eqPutS_k3 (laws_eqPutS_S2 a b s)) st1) (i : Int) (h : laws_eqPutS_b1 a b i = some st1) : Fin cx laws_eqPutS_X res outs laws_eqPutS_k3 (laws_eqPutS_S2 a b i) :=
  P0 <|
 rg <| cdD 3 h (fun h =>
 rg <| ixS ePut 2 h fun put hput h =>
 ixS ePut 6 h fun put1 hput1 h =>
 cb laws_eqPut_t laws_eqPut_ok 8 false h fun eqPut h =>
 cdD 9 h (fun h =>
 rg <| (retD h hc1 fun e => fn0 Tryz.func144 (hr1 _ e))) (fun h =>
 rg <| (nxtD h hc1 fun hI => sg [] [0, 1, 5] [] hI))) (fun h =>
 (brkD h hc1 fun e => sg [] [] [] (hb1 _ e)))
noncomputable def laws_eqPutS (a : List TPut) (b : List TPut) : Option Bool :=
  (bif ((a.length : Int) != (b.length : Int)) then
 some false
 else
 ((loop (fun s : Int => laws_eqPutS_b1 a b s) 0).bind fun x => x.go (fun r => some r) fun s => laws_eqPutS_k2))
theorem laws_eqPutS_ok {a : List TPut} {b : List TPut} (r : Bool) (h : laws_eqPutS a b = some r) : ACalls cx.P 144 [vsl 2 ePut a, vsl 2 ePut b] (laws_eqPutS_R r) (laws_eqPutS_O r) :=
  ACalls.of (cx := cx) (X := laws_eqPutS_X) (c := laws_eqPutS_c) Tryz.func144 (by kernel_rfl) (by kernel_rfl) (by kernel_rfl) (P0 <|
 rg2 <| cdD 4 h (fun h =>
 rg <| fe Tryz.func144 h) (fun h =>
 rg <| loopJ h fun x hl hr hb => sg [] [0, 1, 5] [] (loopD (I := fun s : Int => Fin cx laws_eqPutS_X (laws_eqPutS_R r) (laws_eqPutS_O r) laws_eqPutS_k3 (laws_eqPutS_S2 a b s)) hl fun s st h hc => laws_eqPutS_b1_ok a b _ _ x (fun s e => laws_eqPutS_k2_ok r (hb s e)) (fun v e => ⟨congrArg laws_eqPutS_R (Option.some.inj (hr v e)).symm, congrArg laws_eqPutS_O (Option.some.inj (hr v e)).symm⟩) st hc s h)))

/-! ### laws_eqRun -/
noncomputable def laws_eqRun_c : Code := bodyOf Tryz.f131
noncomputable def laws_eqRun_X : Sig := { f := 131, fn := Tryz.f131, rms := [.val [] []], oms := [none, none] }
noncomputable def laws_eqRun_R (r : Bool) : V := .b r
noncomputable def laws_eqRun_O (r : Bool) : List (Option V) := [none, none]
noncomputable def laws_eqRun_t (i : Nat) (fr : Bool) (r : Bool) : Nat × Tell := (i, { a := .call [.val ck66 [], .val ck66 []] fr (laws_eqRun_R r) (laws_eqRun_O r) })
noncomputable def laws_eqRun (a : TRun) (b : TRun) : Option Bool :=
  ((laws_eqReadS a.Reads b.Reads).bind fun eqReadS =>
 (bif (!eqReadS) then
 some false
 else
 ((laws_eqPutS a.Puts b.Puts).bind fun eqPutS =>
 (bif (!eqPutS) then
 some false
 else
 (bif (a.Val != b.Val) then
 some false
 else
 (bif (a.Code != b.Code) then
 some false
 else
 some true))))))
theorem laws_eqRun_ok {a : TRun} {b : TRun} (r : Bool) (h : laws_eqRun a b = some r) : ACalls cx.P 131 [.agg (eRun a), .agg (eRun b)] (laws_eqRun_R r) (laws_eqRun_O r) :=
  ACalls.of (cx := cx) (X := laws_eqRun_X) (c := laws_eqRun_c) Tryz.func131 (by kernel_rfl) (by kernel_rfl) (by kernel_rfl) (P0 <|
 rg2 <| cb laws_eqReadS_t laws_eqReadS_ok 4 false h fun eqReadS h =>
 cdD 5 h (fun h =>
 rg <| fe Tryz.func131 h) (fun h =>
 rg <| cb laws_eqPutS_t laws_eqPutS_ok 4 false h fun eqPutS h =>
 cdD 5 h (fun h =>
 rg <| fe Tryz.func131 h) (fun h =>
 rg <| cdD 4 h (fun h =>
 rg <| fe Tryz.func131 h) (fun h =>
 rg <| cdD 4 h (fun h =>
 rg <| fe Tryz.func131 h) (fun h =>
 rg <| fe Tryz.func131 h)))))

/-! ### laws_eqEntry -/
noncomputable def laws_eqEntry_c : Code := bodyOf Tryz.f104
noncomputable def laws_eqEntry_X : Sig := { f := 104, fn := Tryz.f104, rms := [.val [] []], oms := [none, none] }
noncomputable def laws_eqEntry_R (r : Bool) : V := .b r
noncomputable def laws_eqEntry_O (r : Bool) : List (Option V) := [none, none]
noncomputable def laws_eqEntry_t (i : Nat) (fr : Bool) (r : Bool) : Nat × Tell := (i, { a := .call [.val ck68 [], .val ck68 []] fr (laws_eqEntry_R r) (laws_eqEntry_O r) })
noncomputable def laws_eqEntry (a : TEntry) (b : TEntry) : Option Bool :=
  (bif (!(a.None == b.None)) then
 some false
 else
 ((laws_eqReq a.Req b.Req).bind fun eqReq =>
 (bif (!eqReq) then
 some false
 else
 ((laws_eqRun a.Run b.Run).bind fun eqRun =>
 (bif (!eqRun) then
 some false
 else
 some true)))))
theorem laws_eqEntry_ok {a : TEntry} {b : TEntry} (r : Bool) (h : laws_eqEntry a b = some r) : ACalls cx.P 104 [.agg (eEntry a), .agg (eEntry b)] (laws_eqEntry_R r) (laws_eqEntry_O r) :=
  ACalls.of (cx := cx) (X := laws_eqEntry_X) (c := laws_eqEntry_c) Tryz.func104 (by kernel_rfl) (by kernel_rfl) (by kernel_rfl) (P0 <|
 rg2 <| cdD 4 h (fun h =>
 rg <| fe Tryz.func104 h) (fun h =>
 rg <| cb laws_eqReq_t laws_eqReq_ok 4 false h fun eqReq h =>
 cdD 5 h (fun h =>
 rg <| fe Tryz.func104 h) (fun h =>
 rg <| cb laws_eqRun_t laws_eqRun_ok 4 false h fun eqRun h =>
 cdD 5 h (fun h =>
 rg <| fe Tryz.func104 h) (fun h =>
 rg <| fe Tryz.func104 h))))

/-! ### laws_eqVote -/
noncomputable def laws_eqVote_c : Code := bodyOf Tryz.f130
noncomputable def laws_eqVote_X : Sig := { f := 130, fn := Tryz.f130, rms := [.val [] []], oms := [none, none] }
noncomputable def laws_eqVote_R (r : Bool) : V := .b r
noncomputable def laws_eqVote_O (r : Bool) : List (Option V) := [none, none]
noncomputable def laws_eqVote_t (i : Nat) (fr : Bool) (r : Bool) : Nat × Tell := (i, { a := .call [.val ck172 [], .val ck172 []] fr (laws_eqVote_R r) (laws_eqVote_O r) })
noncomputable def laws_eqVote (a : TVote) (b : TVote) : Option Bool :=
  (bif (a.Bal != b.Bal) then
 some false
 else
 ((laws_eqEntry a.Entry b.Entry).bind fun eqEntry =>
 (bif (!eqEntry) then
 some false
 else
 some true)))
theorem laws_eqVote_ok {a : TVote} {b : TVote} (r : Bool) (h : laws_eqVote a b = some r) : ACalls cx.P 130 [.agg (eVote a), .agg (eVote b)] (laws_eqVote_R r) (laws_eqVote_O r) :=
  ACalls.of (cx := cx) (X := laws_eqVote_X) (c := laws_eqVote_c) Tryz.func130 (by kernel_rfl) (by kernel_rfl) (by kernel_rfl) (P0 <|
 rg2 <| cdD 4 h (fun h =>
 rg <| fe Tryz.func130 h) (fun h =>
 rg <| cb laws_eqEntry_t laws_eqEntry_ok 4 false h fun eqEntry h =>
 cdD 5 h (fun h =>
 rg <| fe Tryz.func130 h) (fun h =>
 rg <| fe Tryz.func130 h)))

/-! ### laws_eqVoteS -/
noncomputable def laws_eqVoteS_c : Code := bodyOf Tryz.f103
noncomputable def laws_eqVoteS_X : Sig := { f := 103, fn := Tryz.f103, rms := [.val [] []], oms := [none, none] }
noncomputable def laws_eqVoteS_R (r : Bool) : V := .b r
noncomputable def laws_eqVoteS_O (r : Bool) : List (Option V) := [none, none]
noncomputable def laws_eqVoteS_t (i : Nat) (fr : Bool) (r : Bool) : Nat × Tell := (i, { a := .call [.val [some 8] [], .val [some 8] []] fr (laws_eqVoteS_R r) (laws_eqVoteS_O r) })
noncomputable def laws_eqVoteS_k1 : List Item := posI 2000 4 [false, false] [.code laws_eqVoteS_c]
noncomputable def laws_eqVoteS_S1 : St := ⟨(bs 27 []), [some []]⟩
noncomputable def laws_eqVoteS_k2 : Option Bool :=
  some true
theorem laws_eqVoteS_k2_ok (r : Bool) (h : laws_eqVoteS_k2 = some r) : Fin cx laws_eqVoteS_X (laws_eqVoteS_R r) (laws_eqVoteS_O r) laws_eqVoteS_k1 (laws_eqVoteS_S1) :=
  P0 <|
 rg <| fe Tryz.func103 h
noncomputable def laws_eqVoteS_k3 : List Item := posI 2000 3 [false] [.code laws_eqVoteS_c]
noncomputable def laws_eqVoteS_S2 (a : List TVote) (b : List TVote) (i : Int) : St := ⟨(vsl 8 eVote a :: (vsl 8 eVote b :: (bs 3 (vi i :: (bs 21 []))))), [some []]⟩
noncomputable def laws_eqVoteS_b1 (a : List TVote) (b : List TVote) (i : Int) : Option (Stp Bool Int Unit) :=
  (bif decide (i < (a.length : Int)) then
 ((idx a i).bind fun vote =>
 ((idx b i).bind fun vote1 =>
 ((laws_eqVote vote vote1).bind fun eqVote =>
 (bif (!eqVote) then
 some (Stp.ret false)
 else
 some (Stp.nxt (w64 (i + 1)))))))
 else
 some (Stp.brk ()))
theorem laws_eqVoteS_b1_ok (a : List TVote) (b : List TVote) (res : V) (outs : List (Option V)) (x1 : Exc Bool Unit) (hb1 : HB cx laws_eqVoteS_X res outs x1 laws_eqVoteS_k1 (fun s => laws_eqVoteS_S1)) (hr1 : HR res outs x1 laws_eqVoteS_R laws_eqVoteS_O) (st1 : Stp Bool Int Unit) (hc1 : Cont x1 (fun s : Int => Fin cx laws_eqVoteS_X res outs laws_eqVoteS_k3 (laws_eqVoteS_S2 a b s)) st1) (i : Int) (h : laws_eqVoteS_b1 a b i = some st1) : Fin cx laws_eqVoteS_X res outs laws_eqVoteS_k3 (laws_eqVoteS_S2 a b i) :=
  P0 <|
 rg <| cdD 3 h (fun h =>
 rg <| ixS eVote 2 h fun vote hvote h =>
 ixS eVote 6 h fun vote1 hvote1 h =>
 cb laws_eqVote_t laws_eqVote_ok 8 false h fun eqVote h =>
 cdD 9 h (fun h =>
 rg <| (retD h hc1 fun e => fn0 Tryz.func103 (hr1 _ e))) (fun h =>
 rg <| (nxtD h hc1 fun hI => sg [] [0, 1, 5] [] hI))) (fun h =>
 (brkD h hc1 fun e => sg [] [] [] (hb1 _ e)))
noncomputable def laws_eqVoteS (a : List TVote) (b : List TVote) : Option Bool :=
  (bif ((a.length : Int) != (b.length : Int)) then
 some false
 else
 ((loop (fun s : Int => laws_eqVoteS_b1 a b s) 0).bind fun x => x.go (fun r => some r) fun s => laws_eqVoteS_k2))
theorem laws_eqVoteS_ok {a : List TVote} {b : List TVote} (r : Bool) (h : laws_eqVoteS a b = some r) : ACalls cx.P 103 [vsl 8 eVote a, vsl 8 eVote b] (laws_eqVoteS_R r) (laws_eqVoteS_O r) :=
  ACalls.of (cx := cx) (X := laws_eqVoteS_X) (c := laws_eqVoteS_c) Tryz.func103 (by kernel_rfl) (by kernel_rfl) (by kernel_rfl) (P0 <|
 rg2 <| cdD 4 h (fun h =>
 rg <| fe Tryz.func103 h) (fun h =>
 rg <| loopJ h fun x hl hr hb => sg [] [0, 1, 5] [] (loopD (I := fun s : Int => Fin cx laws_eqVoteS_X (laws_eqVoteS_R r) (laws_eqVoteS_O r) laws_eqVoteS_k3 (laws_eqVoteS_S2 a b s)) hl fun s st h hc => laws_eqVoteS_b1_ok a b _ _ x (fun s e => laws_eqVoteS_k2_ok r (hb s e)) (fun v e => ⟨congrArg laws_eqVoteS_R (Option.some.inj (hr v e)).symm, congrArg laws_eqVoteS_O (Option.some.inj (hr v e)).symm⟩) st hc s h)))

/-! ### laws_eqAcc -/
noncomputable def laws_eqAcc_c : Code := bodyOf Tryz.f100
noncomputable def laws_eqAcc_X : Sig := { f := 100, fn := Tryz.f100, rms := [.val [] []], oms := [none, none] }
noncomputable def laws_eqAcc_R (r : Bool) : V := .b r
noncomputable def laws_eqAcc_O (r : Bool) : List (Option V) := [none, none]
noncomputable def laws_eqAcc_t (i : Nat) (fr : Bool) (r : Bool) : Nat × Tell := (i, { a := .call [.val [none, some 8] [], .val [none, some 8] []] fr (laws_eqAcc_R r) (laws_eqAcc_O r) })
noncomputable def laws_eqAcc (a : TAcc) (b : TAcc) : Option Bool :=
  (bif (a.Promised != b.Promised) then
 some false
 else
 ((laws_eqVoteS a.Votes b.Votes).bind fun eqVoteS =>
 (bif (!eqVoteS) then
 some false
 else
 some true)))
theorem laws_eqAcc_ok {a : TAcc} {b : TAcc} (r : Bool) (h : laws_eqAcc a b = some r) : ACalls cx.P 100 [.agg (eAcc a), .agg (eAcc b)] (laws_eqAcc_R r) (laws_eqAcc_O r) :=
  ACalls.of (cx := cx) (X := laws_eqAcc_X) (c := laws_eqAcc_c) Tryz.func100 (by kernel_rfl) (by kernel_rfl) (by kernel_rfl) (P0 <|
 rg2 <| cdD 4 h (fun h =>
 rg <| fe Tryz.func100 h) (fun h =>
 rg <| cb laws_eqVoteS_t laws_eqVoteS_ok 4 false h fun eqVoteS h =>
 cdD 5 h (fun h =>
 rg <| fe Tryz.func100 h) (fun h =>
 rg <| fe Tryz.func100 h)))

/-! ### laws_eqEntryS -/
noncomputable def laws_eqEntryS_c : Code := bodyOf Tryz.f101
noncomputable def laws_eqEntryS_X : Sig := { f := 101, fn := Tryz.f101, rms := [.val [] []], oms := [none, none] }
noncomputable def laws_eqEntryS_R (r : Bool) : V := .b r
noncomputable def laws_eqEntryS_O (r : Bool) : List (Option V) := [none, none]
noncomputable def laws_eqEntryS_t (i : Nat) (fr : Bool) (r : Bool) : Nat × Tell := (i, { a := .call [.val [some 7] [], .val [some 7] []] fr (laws_eqEntryS_R r) (laws_eqEntryS_O r) })
noncomputable def laws_eqEntryS_k1 : List Item := posI 2000 4 [false, false] [.code laws_eqEntryS_c]
noncomputable def laws_eqEntryS_S1 : St := ⟨(bs 27 []), [some []]⟩
noncomputable def laws_eqEntryS_k2 : Option Bool :=
  some true
theorem laws_eqEntryS_k2_ok (r : Bool) (h : laws_eqEntryS_k2 = some r) : Fin cx laws_eqEntryS_X (laws_eqEntryS_R r) (laws_eqEntryS_O r) laws_eqEntryS_k1 (laws_eqEntryS_S1) :=
  P0 <|
 rg <| fe Tryz.func101 h
noncomputable def laws_eqEntryS_k3 : List Item := posI 2000 3 [false] [.code laws_eqEntryS_c]
noncomputable def laws_eqEntryS_S2 (a : List TEntry) (b : List TEntry) (i : Int) : St := ⟨(vsl 7 eEntry a :: (vsl 7 eEntry b :: (bs 3 (vi i :: (bs 21 []))))), [some []]⟩
noncomputable def laws_eqEntryS_b1 (a : List TEntry) (b : List TEntry) (i : Int) : Option (Stp Bool Int Unit) :=
  (bif decide (i < (a.length : Int)) then
 ((idx a i).bind fun entry =>
 ((idx b i).bind fun entry1 =>
 ((laws_eqEntry entry entry1).bind fun eqEntry =>
 (bif (!eqEntry) then
 some (Stp.ret false)
 else
 some (Stp.nxt (w64 (i + 1)))))))
 else
 some (Stp.brk ()))
theorem laws_eqEntryS_b1_ok (a : List TEntry) (b : List TEntry) (res : V) (outs : List (Option V)) (x1 : Exc Bool Unit) (hb1 : HB cx laws_eqEntryS_X res outs x1 laws_eqEntryS_k1 (fun s => laws_eqEntryS_S1)) (hr1 : HR res outs x1 laws_eqEntryS_R laws_eqEntryS_O) (st1 : Stp Bool Int Unit) (hc1 : Cont x1 (fun s : Int => Fin cx laws_eqEntryS_X res outs laws_eqEntryS_k3 (laws_eqEntryS_S2 a b s)) st1) (i : Int) (h : laws_eqEntryS_b1 a b i = some st1) : Fin cx laws_eqEntryS_X res outs laws_eqEntryS_k3 (laws_eqEntryS_S2 a b i) :=
  P0 <|
 rg <| cdD 3 h (fun h =>
 rg <| ixS eEntry 2 h fun entry hentry h =>
 ixS eEntry 6 h fun entry1 hentry1 h =>
 cb laws_eqEntry_t laws_eqEntry_ok 8 false h fun eqEntry h =>
 cdD 9 h (fun h =>
 rg <| (retD h hc1 fun e => fn0 Tryz.func101 (hr1 _ e))) (fun h =>
 rg <| (nxtD h hc1 fun hI => sg [] [0, 1, 5] [] hI))) (fun h =>
 (brkD h hc1 fun e => sg [] [] [] (hb1 _ e)))
noncomputable def laws_eqEntryS (a : List TEntry) (b : List TEntry) : Option Bool :=
  (bif ((a.length : Int) != (b.length : Int)) then
 some false
 else
 ((loop (fun s : Int => laws_eqEntryS_b1 a b s) 0).bind fun x => x.go (fun r => some r) fun s => laws_eqEntryS_k2))
theorem laws_eqEntryS_ok {a : List TEntry} {b : List TEntry} (r : Bool) (h : laws_eqEntryS a b = some r) : ACalls cx.P 101 [vsl 7 eEntry a, vsl 7 eEntry b] (laws_eqEntryS_R r) (laws_eqEntryS_O r) :=
  ACalls.of (cx := cx) (X := laws_eqEntryS_X) (c := laws_eqEntryS_c) Tryz.func101 (by kernel_rfl) (by kernel_rfl) (by kernel_rfl) (P0 <|
 rg2 <| cdD 4 h (fun h =>
 rg <| fe Tryz.func101 h) (fun h =>
 rg <| loopJ h fun x hl hr hb => sg [] [0, 1, 5] [] (loopD (I := fun s : Int => Fin cx laws_eqEntryS_X (laws_eqEntryS_R r) (laws_eqEntryS_O r) laws_eqEntryS_k3 (laws_eqEntryS_S2 a b s)) hl fun s st h hc => laws_eqEntryS_b1_ok a b _ _ x (fun s e => laws_eqEntryS_k2_ok r (hb s e)) (fun v e => ⟨congrArg laws_eqEntryS_R (Option.some.inj (hr v e)).symm, congrArg laws_eqEntryS_O (Option.some.inj (hr v e)).symm⟩) st hc s h)))

/-! ### laws_eqBoolS -/
noncomputable def laws_eqBoolS_c : Code := bodyOf Tryz.f102
noncomputable def laws_eqBoolS_X : Sig := { f := 102, fn := Tryz.f102, rms := [.val [] []], oms := [none, none] }
noncomputable def laws_eqBoolS_R (r : Bool) : V := .b r
noncomputable def laws_eqBoolS_O (r : Bool) : List (Option V) := [none, none]
noncomputable def laws_eqBoolS_t (i : Nat) (fr : Bool) (r : Bool) : Nat × Tell := (i, { a := .call [.val [some 1] [], .val [some 1] []] fr (laws_eqBoolS_R r) (laws_eqBoolS_O r) })
noncomputable def laws_eqBoolS_k1 : List Item := posI 2000 4 [false, false] [.code laws_eqBoolS_c]
noncomputable def laws_eqBoolS_S1 : St := ⟨(bs 26 []), [some []]⟩
noncomputable def laws_eqBoolS_k2 : Option Bool :=
  some true
theorem laws_eqBoolS_k2_ok (r : Bool) (h : laws_eqBoolS_k2 = some r) : Fin cx laws_eqBoolS_X (laws_eqBoolS_R r) (laws_eqBoolS_O r) laws_eqBoolS_k1 (laws_eqBoolS_S1) :=
  P0 <|
 rg <| fe Tryz.func102 h
noncomputable def laws_eqBoolS_k3 : List Item := posI 2000 3 [false] [.code laws_eqBoolS_c]
noncomputable def laws_eqBoolS_S2 (a : List Bool) (b : List Bool) (i : Int) : St := ⟨(vsl 1 eB a :: (vsl 1 eB b :: (bs 3 (vi i :: (bs 20 []))))), [some []]⟩
noncomputable def laws_eqBoolS_b1 (a : List Bool) (b : List Bool) (i : Int) : Option (Stp Bool Int Unit) :=
  (bif decide (i < (a.length : Int)) then
 ((idx a i).bind fun y =>
 ((idx b i).bind fun y1 =>
 (bif (!(y == y1)) then
 some (Stp.ret false)
 else
 some (Stp.nxt (w64 (i + 1))))))
 else
 some (Stp.brk ()))
theorem laws_eqBoolS_b1_ok (a : List Bool) (b : List Bool) (res : V) (outs : List (Option V)) (x1 : Exc Bool Unit) (hb1 : HB cx laws_eqBoolS_X res outs x1 laws_eqBoolS_k1 (fun s => laws_eqBoolS_S1)) (hr1 : HR res outs x1 laws_eqBoolS_R laws_eqBoolS_O) (st1 : Stp Bool Int Unit) (hc1 : Cont x1 (fun s : Int => Fin cx laws_eqBoolS_X res outs laws_eqBoolS_k3 (laws_eqBoolS_S2 a b s)) st1) (i : Int) (h : laws_eqBoolS_b1 a b i = some st1) : Fin cx laws_eqBoolS_X res outs laws_eqBoolS_k3 (laws_eqBoolS_S2 a b i) :=
  P0 <|
 rg <| cdD 3 h (fun h =>
 rg <| ixS eB 2 h fun y hy h =>
 ixS eB 6 h fun y1 hy1 h =>
 cdD 8 h (fun h =>
 rg <| (retD h hc1 fun e => fn0 Tryz.func102 (hr1 _ e))) (fun h =>
 rg <| (nxtD h hc1 fun hI => sg [] [0, 1, 5] [] hI))) (fun h =>
 (brkD h hc1 fun e => sg [] [] [] (hb1 _ e)))
noncomputable def laws_eqBoolS (a : List Bool) (b : List Bool) : Option Bool :=
  (bif ((a.length : Int) != (b.length : Int)) then
 some false
 else
 ((loop (fun s : Int => laws_eqBoolS_b1 a b s) 0).bind fun x => x.go (fun r => some r) fun s => laws_eqBoolS_k2))
theorem laws_eqBoolS_ok {a : List Bool} {b : List Bool} (r : Bool) (h : laws_eqBoolS a b = some r) : ACalls cx.P 102 [vsl 1 eB a, vsl 1 eB b] (laws_eqBoolS_R r) (laws_eqBoolS_O r) :=
  ACalls.of (cx := cx) (X := laws_eqBoolS_X) (c := laws_eqBoolS_c) Tryz.func102 (by kernel_rfl) (by kernel_rfl) (by kernel_rfl) (P0 <|
 rg2 <| cdD 4 h (fun h =>
 rg <| fe Tryz.func102 h) (fun h =>
 rg <| loopJ h fun x hl hr hb => sg [] [0, 1, 5] [] (loopD (I := fun s : Int => Fin cx laws_eqBoolS_X (laws_eqBoolS_R r) (laws_eqBoolS_O r) laws_eqBoolS_k3 (laws_eqBoolS_S2 a b s)) hl fun s st h hc => laws_eqBoolS_b1_ok a b _ _ x (fun s e => laws_eqBoolS_k2_ok r (hb s e)) (fun v e => ⟨congrArg laws_eqBoolS_R (Option.some.inj (hr v e)).symm, congrArg laws_eqBoolS_O (Option.some.inj (hr v e)).symm⟩) st hc s h)))

/-! ### laws_eqIns -/
noncomputable def laws_eqIns_c : Code := bodyOf Tryz.f132
noncomputable def laws_eqIns_X : Sig := { f := 132, fn := Tryz.f132, rms := [.val [] []], oms := [none, none] }
noncomputable def laws_eqIns_R (r : Bool) : V := .b r
noncomputable def laws_eqIns_O (r : Bool) : List (Option V) := [none, none]
noncomputable def laws_eqIns_t (i : Nat) (fr : Bool) (r : Bool) : Nat × Tell := (i, { a := .call [.val [] [], .val [] []] fr (laws_eqIns_R r) (laws_eqIns_O r) })
noncomputable def laws_eqIns (a : TIns) (b : TIns) : Option Bool :=
  (bif (a.Kind != b.Kind) then
 some false
 else
 (bif (a.A != b.A) then
 some false
 else
 (bif (a.B != b.B) then
 some false
 else
 (bif (a.N != b.N) then
 some false
 else
 some true))))
theorem laws_eqIns_ok {a : TIns} {b : TIns} (r : Bool) (h : laws_eqIns a b = some r) : ACalls cx.P 132 [.agg (eIns a), .agg (eIns b)] (laws_eqIns_R r) (laws_eqIns_O r) :=
  ACalls.of (cx := cx) (X := laws_eqIns_X) (c := laws_eqIns_c) Tryz.func132 (by kernel_rfl) (by kernel_rfl) (by kernel_rfl) (P0 <|
 rg2 <| cdD 4 h (fun h =>
 rg <| fe Tryz.func132 h) (fun h =>
 rg <| cdD 4 h (fun h =>
 rg <| fe Tryz.func132 h) (fun h =>
 rg <| cdD 4 h (fun h =>
 rg <| fe Tryz.func132 h) (fun h =>
 rg <| cdD 4 h (fun h =>
 rg <| fe Tryz.func132 h) (fun h =>
 rg <| fe Tryz.func132 h)))))

/-! ### laws_eqInsS -/
noncomputable def laws_eqInsS_c : Code := bodyOf Tryz.f105
noncomputable def laws_eqInsS_X : Sig := { f := 105, fn := Tryz.f105, rms := [.val [] []], oms := [none, none] }
noncomputable def laws_eqInsS_R (r : Bool) : V := .b r
noncomputable def laws_eqInsS_O (r : Bool) : List (Option V) := [none, none]
noncomputable def laws_eqInsS_t (i : Nat) (fr : Bool) (r : Bool) : Nat × Tell := (i, { a := .call [.val [some 4] [], .val [some 4] []] fr (laws_eqInsS_R r) (laws_eqInsS_O r) })
noncomputable def laws_eqInsS_k1 : List Item := posI 2000 4 [false, false] [.code laws_eqInsS_c]
noncomputable def laws_eqInsS_S1 : St := ⟨(bs 27 []), [some []]⟩
noncomputable def laws_eqInsS_k2 : Option Bool :=
  some true
theorem laws_eqInsS_k2_ok (r : Bool) (h : laws_eqInsS_k2 = some r) : Fin cx laws_eqInsS_X (laws_eqInsS_R r) (laws_eqInsS_O r) laws_eqInsS_k1 (laws_eqInsS_S1) :=
  P0 <|
 rg <| fe Tryz.func105 h
noncomputable def laws_eqInsS_k3 : List Item := posI 2000 3 [false] [.code laws_eqInsS_c]
noncomputable def laws_eqInsS_S2 (a : List TIns) (b : List TIns) (i : Int) : St := ⟨(vsl 4 eIns a :: (vsl 4 eIns b :: (bs 3 (vi i :: (bs 21 []))))), [some []]⟩
noncomputable def laws_eqInsS_b1 (a : List TIns) (b : List TIns) (i : Int) : Option (Stp Bool Int Unit) :=
  (bif decide (i < (a.length : Int)) then
 ((idx a i).bind fun ins =>
 ((idx b i).bind fun ins1 =>
 ((laws_eqIns ins ins1).bind fun eqIns =>
 (bif (!eqIns) then
 some (Stp.ret false)
 else
 some (Stp.nxt (w64 (i + 1)))))))
 else
 some (Stp.brk ()))
theorem laws_eqInsS_b1_ok (a : List TIns) (b : List TIns) (res : V) (outs : List (Option V)) (x1 : Exc Bool Unit) (hb1 : HB cx laws_eqInsS_X res outs x1 laws_eqInsS_k1 (fun s => laws_eqInsS_S1)) (hr1 : HR res outs x1 laws_eqInsS_R laws_eqInsS_O) (st1 : Stp Bool Int Unit) (hc1 : Cont x1 (fun s : Int => Fin cx laws_eqInsS_X res outs laws_eqInsS_k3 (laws_eqInsS_S2 a b s)) st1) (i : Int) (h : laws_eqInsS_b1 a b i = some st1) : Fin cx laws_eqInsS_X res outs laws_eqInsS_k3 (laws_eqInsS_S2 a b i) :=
  P0 <|
 rg <| cdD 3 h (fun h =>
 rg <| ixS eIns 2 h fun ins hins h =>
 ixS eIns 6 h fun ins1 hins1 h =>
 cb laws_eqIns_t laws_eqIns_ok 8 false h fun eqIns h =>
 cdD 9 h (fun h =>
 rg <| (retD h hc1 fun e => fn0 Tryz.func105 (hr1 _ e))) (fun h =>
 rg <| (nxtD h hc1 fun hI => sg [] [0, 1, 5] [] hI))) (fun h =>
 (brkD h hc1 fun e => sg [] [] [] (hb1 _ e)))
noncomputable def laws_eqInsS (a : List TIns) (b : List TIns) : Option Bool :=
  (bif ((a.length : Int) != (b.length : Int)) then
 some false
 else
 ((loop (fun s : Int => laws_eqInsS_b1 a b s) 0).bind fun x => x.go (fun r => some r) fun s => laws_eqInsS_k2))
theorem laws_eqInsS_ok {a : List TIns} {b : List TIns} (r : Bool) (h : laws_eqInsS a b = some r) : ACalls cx.P 105 [vsl 4 eIns a, vsl 4 eIns b] (laws_eqInsS_R r) (laws_eqInsS_O r) :=
  ACalls.of (cx := cx) (X := laws_eqInsS_X) (c := laws_eqInsS_c) Tryz.func105 (by kernel_rfl) (by kernel_rfl) (by kernel_rfl) (P0 <|
 rg2 <| cdD 4 h (fun h =>
 rg <| fe Tryz.func105 h) (fun h =>
 rg <| loopJ h fun x hl hr hb => sg [] [0, 1, 5] [] (loopD (I := fun s : Int => Fin cx laws_eqInsS_X (laws_eqInsS_R r) (laws_eqInsS_O r) laws_eqInsS_k3 (laws_eqInsS_S2 a b s)) hl fun s st h hc => laws_eqInsS_b1_ok a b _ _ x (fun s e => laws_eqInsS_k2_ok r (hb s e)) (fun v e => ⟨congrArg laws_eqInsS_R (Option.some.inj (hr v e)).symm, congrArg laws_eqInsS_O (Option.some.inj (hr v e)).symm⟩) st hc s h)))

/-! ### laws_eqNode -/
noncomputable def laws_eqNode_c : Code := bodyOf Tryz.f52
noncomputable def laws_eqNode_X : Sig := { f := 52, fn := Tryz.f52, rms := [.val [] []], oms := [none, none] }
noncomputable def laws_eqNode_R (r : Bool) : V := .b r
noncomputable def laws_eqNode_O (r : Bool) : List (Option V) := [none, none]
noncomputable def laws_eqNode_t (i : Nat) (fr : Bool) (r : Bool) : Nat × Tell := (i, { a := .call [.val ck100 [], .val ck100 []] fr (laws_eqNode_R r) (laws_eqNode_O r) })
noncomputable def laws_eqNode (a : TNode) (b : TNode) : Option Bool :=
  (bif (a.Id != b.Id) then
 some false
 else
 ((laws_eqAcc a.Acc b.Acc).bind fun eqAcc =>
 (bif (!eqAcc) then
 some false
 else
 ((laws_eqEntryS a.Known b.Known).bind fun eqEntryS =>
 (bif (!eqEntryS) then
 some false
 else
 (bif (a.Seq != b.Seq) then
 some false
 else
 (bif (a.Phase != b.Phase) then
 some false
 else
 (bif (a.Bal != b.Bal) then
 some false
 else
 ((laws_eqBoolS a.From b.From).bind fun eqBoolS =>
 (bif (!eqBoolS) then
 some false
 else
 ((laws_eqVoteS a.Best b.Best).bind fun eqVoteS =>
 (bif (!eqVoteS) then
 some false
 else
 ((laws_eqEntry a.Cur b.Cur).bind fun eqEntry =>
 (bif (!eqEntry) then
 some false
 else
 ((laws_eqBoolS a.Votes b.Votes).bind fun eqBoolS1 =>
 (bif (!eqBoolS1) then
 some false
 else
 (bif (!(a.Busy == b.Busy)) then
 some false
 else
 ((laws_eqInsS a.Prog b.Prog).bind fun eqInsS =>
 (bif (!eqInsS) then
 some false
 else
 ((laws_eqEntry a.Want b.Want).bind fun eqEntry1 =>
 (bif (!eqEntry1) then
 some false
 else
 ((laws_eqEntryS a.Queue b.Queue).bind fun eqEntryS1 =>
 (bif (!eqEntryS1) then
 some false
 else
 some true)))))))))))))))))))))))
theorem laws_eqNode_ok {a : TNode} {b : TNode} (r : Bool) (h : laws_eqNode a b = some r) : ACalls cx.P 52 [.agg (eNode a), .agg (eNode b)] (laws_eqNode_R r) (laws_eqNode_O r) :=
  ACalls.of (cx := cx) (X := laws_eqNode_X) (c := laws_eqNode_c) Tryz.func52 (by kernel_rfl) (by kernel_rfl) (by kernel_rfl) (P0 <|
 rg2 <| cdD 4 h (fun h =>
 rg <| fe Tryz.func52 h) (fun h =>
 rg <| cb laws_eqAcc_t laws_eqAcc_ok 4 false h fun eqAcc h =>
 cdD 5 h (fun h =>
 rg <| fe Tryz.func52 h) (fun h =>
 rg <| cb laws_eqEntryS_t laws_eqEntryS_ok 4 false h fun eqEntryS h =>
 cdD 5 h (fun h =>
 rg <| fe Tryz.func52 h) (fun h =>
 rg <| cdD 4 h (fun h =>
 rg <| fe Tryz.func52 h) (fun h =>
 rg <| cdD 4 h (fun h =>
 rg <| fe Tryz.func52 h) (fun h =>
 rg <| cdD 4 h (fun h =>
 rg <| fe Tryz.func52 h) (fun h =>
 rg <| cb laws_eqBoolS_t laws_eqBoolS_ok 4 false h fun eqBoolS h =>
 cdD 5 h (fun h =>
 rg <| fe Tryz.func52 h) (fun h =>
 rg <| cb laws_eqVoteS_t laws_eqVoteS_ok 4 false h fun eqVoteS h =>
 cdD 5 h (fun h =>
 rg <| fe Tryz.func52 h) (fun h =>
 rg <| cb laws_eqEntry_t laws_eqEntry_ok 4 false h fun eqEntry h =>
 cdD 5 h (fun h =>
 rg <| fe Tryz.func52 h) (fun h =>
 rg <| cb laws_eqBoolS_t laws_eqBoolS_ok 4 false h fun eqBoolS1 h =>
 cdD 5 h (fun h =>
 rg <| fe Tryz.func52 h) (fun h =>
 rg <| cdD 4 h (fun h =>
 rg <| fe Tryz.func52 h) (fun h =>
 rg <| cb laws_eqInsS_t laws_eqInsS_ok 4 false h fun eqInsS h =>
 cdD 5 h (fun h =>
 rg <| fe Tryz.func52 h) (fun h =>
 rg <| cb laws_eqEntry_t laws_eqEntry_ok 4 false h fun eqEntry1 h =>
 cdD 5 h (fun h =>
 rg <| fe Tryz.func52 h) (fun h =>
 rg <| cb laws_eqEntryS_t laws_eqEntryS_ok 4 false h fun eqEntryS1 h =>
 cdD 5 h (fun h =>
 rg <| fe Tryz.func52 h) (fun h =>
 rg <| fe Tryz.func52 h)))))))))))))))

/-! ### laws_eqNodeS -/
noncomputable def laws_eqNodeS_c : Code := bodyOf Tryz.f25
noncomputable def laws_eqNodeS_X : Sig := { f := 25, fn := Tryz.f25, rms := [.val [] []], oms := [none, none] }
noncomputable def laws_eqNodeS_R (r : Bool) : V := .b r
noncomputable def laws_eqNodeS_O (r : Bool) : List (Option V) := [none, none]
noncomputable def laws_eqNodeS_t (i : Nat) (fr : Bool) (r : Bool) : Nat × Tell := (i, { a := .call [.val [some 27] [], .val [some 27] []] fr (laws_eqNodeS_R r) (laws_eqNodeS_O r) })
noncomputable def laws_eqNodeS_k1 : List Item := posI 2000 4 [false, false] [.code laws_eqNodeS_c]
noncomputable def laws_eqNodeS_S1 : St := ⟨(bs 27 []), [some []]⟩
noncomputable def laws_eqNodeS_k2 : Option Bool :=
  some true
theorem laws_eqNodeS_k2_ok (r : Bool) (h : laws_eqNodeS_k2 = some r) : Fin cx laws_eqNodeS_X (laws_eqNodeS_R r) (laws_eqNodeS_O r) laws_eqNodeS_k1 (laws_eqNodeS_S1) :=
  P0 <|
 rg <| fe Tryz.func25 h
noncomputable def laws_eqNodeS_k3 : List Item := posI 2000 3 [false] [.code laws_eqNodeS_c]
noncomputable def laws_eqNodeS_S2 (a : List TNode) (b : List TNode) (i : Int) : St := ⟨(vsl 27 eNode a :: (vsl 27 eNode b :: (bs 3 (vi i :: (bs 21 []))))), [some []]⟩
noncomputable def laws_eqNodeS_b1 (a : List TNode) (b : List TNode) (i : Int) : Option (Stp Bool Int Unit) :=
  (bif decide (i < (a.length : Int)) then
 ((idx a i).bind fun node =>
 ((idx b i).bind fun node1 =>
 ((laws_eqNode node node1).bind fun eqNode =>
 (bif (!eqNode) then
 some (Stp.ret false)
 else
 some (Stp.nxt (w64 (i + 1)))))))
 else
 some (Stp.brk ()))
theorem laws_eqNodeS_b1_ok (a : List TNode) (b : List TNode) (res : V) (outs : List (Option V)) (x1 : Exc Bool Unit) (hb1 : HB cx laws_eqNodeS_X res outs x1 laws_eqNodeS_k1 (fun s => laws_eqNodeS_S1)) (hr1 : HR res outs x1 laws_eqNodeS_R laws_eqNodeS_O) (st1 : Stp Bool Int Unit) (hc1 : Cont x1 (fun s : Int => Fin cx laws_eqNodeS_X res outs laws_eqNodeS_k3 (laws_eqNodeS_S2 a b s)) st1) (i : Int) (h : laws_eqNodeS_b1 a b i = some st1) : Fin cx laws_eqNodeS_X res outs laws_eqNodeS_k3 (laws_eqNodeS_S2 a b i) :=
  P0 <|
 rg <| cdD 3 h (fun h =>
 rg <| ixS eNode 2 h fun node hnode h =>
 ixS eNode 6 h fun node1 hnode1 h =>
 cb laws_eqNode_t laws_eqNode_ok 8 false h fun eqNode h =>
 cdD 9 h (fun h =>
 rg <| (retD h hc1 fun e => fn0 Tryz.func25 (hr1 _ e))) (fun h =>
 rg <| (nxtD h hc1 fun hI => sg [] [0, 1, 5] [] hI))) (fun h =>
 (brkD h hc1 fun e => sg [] [] [] (hb1 _ e)))
noncomputable def laws_eqNodeS (a : List TNode) (b : List TNode) : Option Bool :=
  (bif ((a.length : Int) != (b.length : Int)) then
 some false
 else
 ((loop (fun s : Int => laws_eqNodeS_b1 a b s) 0).bind fun x => x.go (fun r => some r) fun s => laws_eqNodeS_k2))
theorem laws_eqNodeS_ok {a : List TNode} {b : List TNode} (r : Bool) (h : laws_eqNodeS a b = some r) : ACalls cx.P 25 [vsl 27 eNode a, vsl 27 eNode b] (laws_eqNodeS_R r) (laws_eqNodeS_O r) :=
  ACalls.of (cx := cx) (X := laws_eqNodeS_X) (c := laws_eqNodeS_c) Tryz.func25 (by kernel_rfl) (by kernel_rfl) (by kernel_rfl) (P0 <|
 rg2 <| cdD 4 h (fun h =>
 rg <| fe Tryz.func25 h) (fun h =>
 rg <| loopJ h fun x hl hr hb => sg [] [0, 1, 5] [] (loopD (I := fun s : Int => Fin cx laws_eqNodeS_X (laws_eqNodeS_R r) (laws_eqNodeS_O r) laws_eqNodeS_k3 (laws_eqNodeS_S2 a b s)) hl fun s st h hc => laws_eqNodeS_b1_ok a b _ _ x (fun s e => laws_eqNodeS_k2_ok r (hb s e)) (fun v e => ⟨congrArg laws_eqNodeS_R (Option.some.inj (hr v e)).symm, congrArg laws_eqNodeS_O (Option.some.inj (hr v e)).symm⟩) st hc s h)))

/-! ### laws_eqMsg -/
noncomputable def laws_eqMsg_c : Code := bodyOf Tryz.f53
noncomputable def laws_eqMsg_X : Sig := { f := 53, fn := Tryz.f53, rms := [.val [] []], oms := [none, none] }
noncomputable def laws_eqMsg_R (r : Bool) : V := .b r
noncomputable def laws_eqMsg_O (r : Bool) : List (Option V) := [none, none]
noncomputable def laws_eqMsg_t (i : Nat) (fr : Bool) (r : Bool) : Nat × Tell := (i, { a := .call [.val ck104 [], .val ck104 []] fr (laws_eqMsg_R r) (laws_eqMsg_O r) })
noncomputable def laws_eqMsg (a : TMsg) (b : TMsg) : Option Bool :=
  (bif (a.Kind != b.Kind) then
 some false
 else
 (bif (a.From != b.From) then
 some false
 else
 (bif (a.To != b.To) then
 some false
 else
 (bif (a.Bal != b.Bal) then
 some false
 else
 (bif (a.Slot != b.Slot) then
 some false
 else
 ((laws_eqEntry a.Entry b.Entry).bind fun eqEntry =>
 (bif (!eqEntry) then
 some false
 else
 ((laws_eqVoteS a.Votes b.Votes).bind fun eqVoteS =>
 (bif (!eqVoteS) then
 some false
 else
 some true)))))))))
theorem laws_eqMsg_ok {a : TMsg} {b : TMsg} (r : Bool) (h : laws_eqMsg a b = some r) : ACalls cx.P 53 [.agg (eMsg a), .agg (eMsg b)] (laws_eqMsg_R r) (laws_eqMsg_O r) :=
  ACalls.of (cx := cx) (X := laws_eqMsg_X) (c := laws_eqMsg_c) Tryz.func53 (by kernel_rfl) (by kernel_rfl) (by kernel_rfl) (P0 <|
 rg2 <| cdD 4 h (fun h =>
 rg <| fe Tryz.func53 h) (fun h =>
 rg <| cdD 4 h (fun h =>
 rg <| fe Tryz.func53 h) (fun h =>
 rg <| cdD 4 h (fun h =>
 rg <| fe Tryz.func53 h) (fun h =>
 rg <| cdD 4 h (fun h =>
 rg <| fe Tryz.func53 h) (fun h =>
 rg <| cdD 4 h (fun h =>
 rg <| fe Tryz.func53 h) (fun h =>
 rg <| cb laws_eqEntry_t laws_eqEntry_ok 4 false h fun eqEntry h =>
 cdD 5 h (fun h =>
 rg <| fe Tryz.func53 h) (fun h =>
 rg <| cb laws_eqVoteS_t laws_eqVoteS_ok 4 false h fun eqVoteS h =>
 cdD 5 h (fun h =>
 rg <| fe Tryz.func53 h) (fun h =>
 rg <| fe Tryz.func53 h))))))))


end Go.Proofs.YtaafmkiajpgdaaaGreat
