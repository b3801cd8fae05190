/- Functions of the program, and that their calls come to this. -/
import Derived.Test.YtggngdffdglolaaGreatF1
set_option linter.unusedVariables false
set_option linter.unusedSimpArgs false
namespace Go.Proofs.YtggngdffdglolaaGreat
open Go

/-! ### spec_NodeOk -/
noncomputable def spec_NodeOk_c : Code := bodyOf Tryz.f42
noncomputable def spec_NodeOk_X : Sig := { f := 42, fn := Tryz.f42, rms := [.val [] []], oms := [none] }
noncomputable def spec_NodeOk_R (r : Bool) : V := .b r
noncomputable def spec_NodeOk_O (r : Bool) : List (Option V) := [none]
noncomputable def spec_NodeOk_t (i : Nat) (fr : Bool) (r : Bool) : Nat × Tell := (i, { a := .call [.val ck106 []] fr (spec_NodeOk_R r) (spec_NodeOk_O r) })
noncomputable def spec_NodeOk_k1 : List Item := posI 2000 4 [false, false] [.code spec_NodeOk_c]
noncomputable def spec_NodeOk_S1 : St := ⟨(bs 72 []), [some []]⟩
noncomputable def spec_NodeOk_k2 : Option Bool :=
  some true
theorem spec_NodeOk_k2_ok (r : Bool) (h : spec_NodeOk_k2 = some r) : Fin cx spec_NodeOk_X (spec_NodeOk_R r) (spec_NodeOk_O r) spec_NodeOk_k1 (spec_NodeOk_S1) :=
  P0 <|
 rg <| fe Tryz.func42 h
noncomputable def spec_NodeOk_k3 : List Item := posI 2000 3 [false] [.code spec_NodeOk_c]
noncomputable def spec_NodeOk_S2 (n : TNode) (i : Int) : St := ⟨(bs 1 (.ptr 1 0 0 :: (bs 1 (vi i :: (bs 68 []))))), [some [], some [.var 106 [vi n.Id, vi n.Acc.Promised, vsl 8 eVote n.Acc.Votes, vsl 7 eEntry n.Known, vi n.Seq, vi n.Phase, vi n.Bal, vsl 1 eB n.From, vsl 8 eVote n.Best, .b n.Cur.None, vi n.Cur.Req.Who, vi n.Cur.Req.Seq, vsl 2 eRead n.Cur.Run.Reads, vsl 2 ePut n.Cur.Run.Puts, vi n.Cur.Run.Val, vi n.Cur.Run.Code, vsl 1 eB n.Votes, .b n.Busy, vsl 4 eIns n.Prog, .b n.Want.None, vi n.Want.Req.Who, vi n.Want.Req.Seq, vsl 2 eRead n.Want.Run.Reads, vsl 2 ePut n.Want.Run.Puts, vi n.Want.Run.Val, vi n.Want.Run.Code, vsl 7 eEntry n.Queue]]]⟩
noncomputable def spec_NodeOk_b1 (n : TNode) (i : Int) : Option (Stp Bool Int Unit) :=
  (bif decide (i < (n.Queue.length : Int)) then
 ((idx n.Queue i).bind fun entry =>
 ((spec_CertEntry entry).bind fun certEntry =>
 (bif (!certEntry) then
 some (Stp.ret false)
 else
 (bif entry.None then
 some (Stp.ret false)
 else
 some (Stp.nxt (w64 (i + 1)))))))
 else
 some (Stp.brk ()))
theorem spec_NodeOk_b1_ok (n : TNode) (res : V) (outs : List (Option V)) (x1 : Exc Bool Unit) (hb1 : HB cx spec_NodeOk_X res outs x1 spec_NodeOk_k1 (fun s => spec_NodeOk_S1)) (hr1 : HR res outs x1 spec_NodeOk_R spec_NodeOk_O) (st1 : Stp Bool Int Unit) (hc1 : Cont x1 (fun s : Int => Fin cx spec_NodeOk_X res outs spec_NodeOk_k3 (spec_NodeOk_S2 n s)) st1) (i : Int) (h : spec_NodeOk_b1 n i = some st1) : Fin cx spec_NodeOk_X res outs spec_NodeOk_k3 (spec_NodeOk_S2 n i) :=
  P0 <|
 rg <| cdD 4 h (fun h =>
 rg <| ixS eEntry 3 h fun entry hentry h =>
 cb spec_CertEntry_t spec_CertEntry_ok 5 false h fun certEntry h =>
 cdD 7 h (fun h =>
 rg <| (retD h hc1 fun e => fn0 Tryz.func42 (hr1 _ e))) (fun h =>
 ixR eEntry 11 hentry <| cdD 14 h (fun h =>
 rg <| (retD h hc1 fun e => fn0 Tryz.func42 (hr1 _ e))) (fun h =>
 rg <| (nxtD h hc1 fun hI => sg [] [1, 3] [(1, 0)] hI)))) (fun h =>
 (brkD h hc1 fun e => sg [] [] [] (hb1 _ e)))
noncomputable def spec_NodeOk (n : TNode) : Option Bool :=
  (bif decide (n.Id < 0) then
 some false
 else
 (bif decide (n.Id ≥ 3) then
 some false
 else
 ((spec_AccOk n.Acc).bind fun accOk =>
 (bif (!accOk) then
 some false
 else
 ((spec_l8Known n.Known).bind fun l8Known =>
 (bif (!l8Known) then
 some false
 else
 (bif decide (n.Seq < 0) then
 some false
 else
 (bif decide (n.Seq > 1000) then
 some false
 else
 (bif decide ((n.Queue.length : Int) > 4) then
 some false
 else
 ((spec_l8Lead n).bind fun l8Lead =>
 (bif (!l8Lead) then
 some false
 else
 ((spec_l8Wants n).bind fun l8Wants =>
 (bif (!l8Wants) then
 some false
 else
 ((loop (fun s : Int => spec_NodeOk_b1 n s) 0).bind fun x => x.go (fun r => some r) fun s => spec_NodeOk_k2))))))))))))))
theorem spec_NodeOk_ok {n : TNode} (r : Bool) (h : spec_NodeOk n = some r) : ACalls cx.P 42 [.agg (eNode n)] (spec_NodeOk_R r) (spec_NodeOk_O r) :=
  ACalls.of (cx := cx) (X := spec_NodeOk_X) (c := spec_NodeOk_c) Tryz.func42 (by kernel_rfl) (by kernel_rfl) (by kernel_rfl) (P0 <|
 rg2 <| cdD 3 h (fun h =>
 rg <| fe Tryz.func42 h) (fun h =>
 cdD 8 h (fun h =>
 rg <| fe Tryz.func42 h) (fun h =>
 cb spec_AccOk_t spec_AccOk_ok 11 false h fun accOk h =>
 cdD 14 h (fun h =>
 rg <| fe Tryz.func42 h) (fun h =>
 cb spec_l8Known_t spec_l8Known_ok 17 false h fun l8Known h =>
 cdD 20 h (fun h =>
 rg <| fe Tryz.func42 h) (fun h =>
 cdD 25 h (fun h =>
 rg <| fe Tryz.func42 h) (fun h =>
 cdD 30 h (fun h =>
 rg <| fe Tryz.func42 h) (fun h =>
 cdD 36 h (fun h =>
 rg <| fe Tryz.func42 h) (fun h =>
 cb spec_l8Lead_t spec_l8Lead_ok 38 false h fun l8Lead h =>
 cdD 41 h (fun h =>
 rg <| fe Tryz.func42 h) (fun h =>
 cb spec_l8Wants_t spec_l8Wants_ok 43 false h fun l8Wants h =>
 cdD 45 h (fun h =>
 rg <| fe Tryz.func42 h) (fun h =>
 rg <| loopJ h fun x hl hr hb => sg [] [1, 3] [(1, 0)] (loopD (I := fun s : Int => Fin cx spec_NodeOk_X (spec_NodeOk_R r) (spec_NodeOk_O r) spec_NodeOk_k3 (spec_NodeOk_S2 n s)) hl fun s st h hc => spec_NodeOk_b1_ok n _ _ x (fun s e => spec_NodeOk_k2_ok r (hb s e)) (fun v e => ⟨congrArg spec_NodeOk_R (Option.some.inj (hr v e)).symm, congrArg spec_NodeOk_O (Option.some.inj (hr v e)).symm⟩) st hc s h)))))))))))

/-! ### spec_MsgOk -/
noncomputable def spec_MsgOk_c : Code := bodyOf Tryz.f43
noncomputable def spec_MsgOk_X : Sig := { f := 43, fn := Tryz.f43, rms := [.val [] []], oms := [none] }
noncomputable def spec_MsgOk_R (r : Bool) : V := .b r
noncomputable def spec_MsgOk_O (r : Bool) : List (Option V) := [none]
noncomputable def spec_MsgOk_t (i : Nat) (fr : Bool) (r : Bool) : Nat × Tell := (i, { a := .call [.val ck110 []] fr (spec_MsgOk_R r) (spec_MsgOk_O r) })
noncomputable def spec_MsgOk_k1 : List Item := posI 2000 2 [false] [.code spec_MsgOk_c]
noncomputable def spec_MsgOk_S1 (m : TMsg) : St := ⟨(bs 1 (.ptr 1 0 0 :: (bs 158 []))), [some [], some [.var 110 [vi m.Kind, vi m.From, vi m.To, vi m.Bal, vi m.Slot, .b m.Entry.None, vi m.Entry.Req.Who, vi m.Entry.Req.Seq, vsl 2 eRead m.Entry.Run.Reads, vsl 2 ePut m.Entry.Run.Puts, vi m.Entry.Run.Val, vi m.Entry.Run.Code, vsl 8 eVote m.Votes]]]⟩
noncomputable def spec_MsgOk_k2 : List Item := posI 2000 4 [false] [.code spec_MsgOk_c]
noncomputable def spec_MsgOk_S2 (m : TMsg) (l7None : Bool) (right : Bool) : St := ⟨(bs 1 (.ptr 1 0 0 :: (bs 1 (.b l7None :: (.b right :: (bs 155 [])))))), [some [], some [.var 110 [vi m.Kind, vi m.From, vi m.To, vi m.Bal, vi m.Slot, .b m.Entry.None, vi m.Entry.Req.Who, vi m.Entry.Req.Seq, vsl 2 eRead m.Entry.Run.Reads, vsl 2 ePut m.Entry.Run.Puts, vi m.Entry.Run.Val, vi m.Entry.Run.Code, vsl 8 eVote m.Votes]]]⟩
noncomputable def spec_MsgOk_j1 (m : TMsg) (l7None : Bool) (right : Bool) : Option Bool :=
  (bif (m.Kind == 1) then
 ((spec_l6Bal m.Bal).bind fun l6Bal =>
 (bif l6Bal then
 some l7None
 else
 some false))
 else
 (bif (m.Kind == 2) then
 ((spec_l6Bal m.Bal).bind fun l6Bal1 =>
 (bif l6Bal1 then
 (bif l7None then
 ((spec_l6Votes m.Votes).bind fun l6Votes =>
 (bif l6Votes then
 some (decide ((w64 (m.Slot + (m.Votes.length : Int))) ≤ 40))
 else
 some false))
 else
 some false)
 else
 some false))
 else
 (bif (m.Kind == 3) then
 ((spec_l6Bal m.Bal).bind fun l6Bal2 =>
 (bif l6Bal2 then
 some right
 else
 some false))
 else
 (bif (m.Kind == 4) then
 ((spec_l6Bal m.Bal).bind fun l6Bal3 =>
 (bif l6Bal3 then
 some l7None
 else
 some false))
 else
 (bif (m.Kind == 5) then
 (bif (m.Bal == 0) then
 some right
 else
 some false)
 else
 (bif (m.Kind == 6) then
 ((spec_l6Bal m.Bal).bind fun l6Bal4 =>
 (bif l6Bal4 then
 (bif l7None then
 some (m.Slot == 0)
 else
 some false)
 else
 some false))
 else
 (bif (m.Kind == 7) then
 (bif (m.Bal == 0) then
 (bif (m.Slot == 0) then
 ((spec_CertEntry m.Entry).bind fun certEntry =>
 (bif certEntry then
 some (!m.Entry.None)
 else
 some false))
 else
 some false)
 else
 some false)
 else
 (bif (m.Kind == 8) then
 (bif (m.Bal == 0) then
 some l7None
 else
 some false)
 else
 some false))))))))
theorem spec_MsgOk_j1_ok (m : TMsg) (l7None : Bool) (r : Bool) (right : Bool) (h : spec_MsgOk_j1 m l7None right = some r) : Fin cx spec_MsgOk_X (spec_MsgOk_R r) (spec_MsgOk_O r) spec_MsgOk_k2 (spec_MsgOk_S2 m l7None right) :=
  P0 <|
 rg2 <| cdD 1 h (fun h =>
 rg <| cb spec_l6Bal_t spec_l6Bal_ok 2 false h fun l6Bal h =>
 cdD 3 h (fun h =>
 fe Tryz.func43 h) (fun h =>
 fe Tryz.func43 h)) (fun h =>
 rg <| cdD 1 h (fun h =>
 rg <| cb spec_l6Bal_t spec_l6Bal_ok 2 false h fun l6Bal1 h =>
 cdD 3 h (fun h =>
 cdD 6 h (fun h =>
 cb spec_l6Votes_t spec_l6Votes_ok 9 false h fun l6Votes h =>
 cdD 11 h (fun h =>
 fe Tryz.func43 h) (fun h =>
 fe Tryz.func43 h)) (fun h =>
 fe Tryz.func43 h)) (fun h =>
 fe Tryz.func43 h)) (fun h =>
 rg <| cdD 1 h (fun h =>
 rg <| cb spec_l6Bal_t spec_l6Bal_ok 2 false h fun l6Bal2 h =>
 cdD 3 h (fun h =>
 fe Tryz.func43 h) (fun h =>
 fe Tryz.func43 h)) (fun h =>
 rg <| cdD 1 h (fun h =>
 rg <| cb spec_l6Bal_t spec_l6Bal_ok 2 false h fun l6Bal3 h =>
 cdD 3 h (fun h =>
 fe Tryz.func43 h) (fun h =>
 fe Tryz.func43 h)) (fun h =>
 rg <| cdD 1 h (fun h =>
 rg <| cdD 3 h (fun h =>
 fe Tryz.func43 h) (fun h =>
 fe Tryz.func43 h)) (fun h =>
 rg <| cdD 1 h (fun h =>
 rg <| cb spec_l6Bal_t spec_l6Bal_ok 2 false h fun l6Bal4 h =>
 cdD 3 h (fun h =>
 cdD 6 h (fun h =>
 fe Tryz.func43 h) (fun h =>
 fe Tryz.func43 h)) (fun h =>
 fe Tryz.func43 h)) (fun h =>
 rg <| cdD 1 h (fun h =>
 rg <| cdD 3 h (fun h =>
 cdD 8 h (fun h =>
 cb spec_CertEntry_t spec_CertEntry_ok 11 false h fun certEntry h =>
 cdD 13 h (fun h =>
 fe Tryz.func43 h) (fun h =>
 fe Tryz.func43 h)) (fun h =>
 fe Tryz.func43 h)) (fun h =>
 fe Tryz.func43 h)) (fun h =>
 rg <| cdD 1 h (fun h =>
 rg <| cdD 3 h (fun h =>
 fe Tryz.func43 h) (fun h =>
 fe Tryz.func43 h)) (fun h =>
 rg <| fe Tryz.func43 h))))))))
noncomputable def spec_MsgOk_j2 (m : TMsg) : Option Bool :=
  ((spec_l7None m.Entry).bind fun l7None =>
 ((((spec_CertEntry m.Entry).bind fun certEntry1 =>
 (bif certEntry1 then
 some (Exc.brk (decide (m.Slot < 40)))
 else
 some (Exc.brk false))) : Option (Exc Bool Bool)).bind fun x => x.go some fun j => spec_MsgOk_j1 m l7None j))
theorem spec_MsgOk_j2_ok (m : TMsg) (r : Bool) (h : spec_MsgOk_j2 m = some r) : Fin cx spec_MsgOk_X (spec_MsgOk_R r) (spec_MsgOk_O r) spec_MsgOk_k1 (spec_MsgOk_S1 m) :=
  P0 <|
 rg <| cb spec_l7None_t spec_l7None_ok 2 false h fun l7None h =>
 joinD (I := fun j : Bool => Fin cx spec_MsgOk_X (spec_MsgOk_R r) (spec_MsgOk_O r) spec_MsgOk_k2 (spec_MsgOk_S2 m l7None j)) h (fun j h => spec_MsgOk_j1_ok m l7None r j h) (fun x1 h hc1 =>
  rg <| cb spec_CertEntry_t spec_CertEntry_ok 2 false h fun certEntry1 h =>
 cdD 3 h (fun h =>
 (jbrkD h hc1 fun hI => sg [] [1, 3, 4] [(1, 0)] hI)) (fun h =>
 (jbrkD h hc1 fun hI => sg [] [1, 3, 4] [(1, 0)] hI)))
noncomputable def spec_MsgOk (m : TMsg) : Option Bool :=
  (((bif decide (m.From < 0) then
 some (Exc.ret false)
 else
 (bif decide (m.From ≥ 3) then
 some (Exc.ret false)
 else
 (bif decide (m.To < 0) then
 some (Exc.ret false)
 else
 (bif decide (m.To ≥ 3) then
 some (Exc.ret false)
 else
 (bif (m.From == m.To) then
 some (Exc.ret false)
 else
 (bif decide (m.Slot < 0) then
 some (Exc.ret false)
 else
 (bif decide (m.Slot > 40) then
 some (Exc.ret false)
 else
 (bif (m.Kind != 2) then
 (bif decide ((m.Votes.length : Int) > 0) then
 some (Exc.ret false)
 else
 some (Exc.brk ()))
 else
 some (Exc.brk ()))))))))) : Option (Exc Bool Unit)).bind fun x => x.go some fun j => spec_MsgOk_j2 m)
theorem spec_MsgOk_ok {m : TMsg} (r : Bool) (h : spec_MsgOk m = some r) : ACalls cx.P 43 [.agg (eMsg m)] (spec_MsgOk_R r) (spec_MsgOk_O r) :=
  ACalls.of (cx := cx) (X := spec_MsgOk_X) (c := spec_MsgOk_c) Tryz.func43 (by kernel_rfl) (by kernel_rfl) (by kernel_rfl) (P0 <|
 rg <| joinD (I := fun j : Unit => Fin cx spec_MsgOk_X (spec_MsgOk_R r) (spec_MsgOk_O r) spec_MsgOk_k1 (spec_MsgOk_S1 m)) h (fun j h => spec_MsgOk_j2_ok m r h) (fun x1 h hc1 =>
  rg <| cdD 3 h (fun h =>
 rg <| (jretD h hc1 fun h => fe Tryz.func43 h)) (fun h =>
 cdD 8 h (fun h =>
 rg <| (jretD h hc1 fun h => fe Tryz.func43 h)) (fun h =>
 cdD 13 h (fun h =>
 rg <| (jretD h hc1 fun h => fe Tryz.func43 h)) (fun h =>
 cdD 18 h (fun h =>
 rg <| (jretD h hc1 fun h => fe Tryz.func43 h)) (fun h =>
 cdD 25 h (fun h =>
 rg <| (jretD h hc1 fun h => fe Tryz.func43 h)) (fun h =>
 cdD 30 h (fun h =>
 rg <| (jretD h hc1 fun h => fe Tryz.func43 h)) (fun h =>
 cdD 35 h (fun h =>
 rg <| (jretD h hc1 fun h => fe Tryz.func43 h)) (fun h =>
 cdD 39 h (fun h =>
 cdD 45 h (fun h =>
 rg <| (jretD h hc1 fun h => fe Tryz.func43 h)) (fun h =>
 (jbrkD h hc1 fun hI => sg [] [1] [(1, 0)] hI))) (fun h =>
 (jbrkD h hc1 fun hI => sg [] [1] [(1, 0)] hI)))))))))))

/-! ### spec_l9Told -/
noncomputable def spec_l9Told_c : Code := bodyOf Tryz.f46
noncomputable def spec_l9Told_X : Sig := { f := 46, fn := Tryz.f46, rms := [.val [] []], oms := [none] }
noncomputable def spec_l9Told_R (r : Bool) : V := .b r
noncomputable def spec_l9Told_O (r : Bool) : List (Option V) := [none]
noncomputable def spec_l9Told_t (i : Nat) (fr : Bool) (r : Bool) : Nat × Tell := (i, { a := .call [.val [] []] fr (spec_l9Told_R r) (spec_l9Told_O r) })
noncomputable def spec_l9Told (a : TTold) : Option Bool :=
  (bif decide (a.Node ≥ 0) then
 (bif decide (a.Node < 3) then
 ((spec_l5Req a.Req).bind fun l5Req =>
 (bif l5Req then
 (bif (a.Req.Who == a.Node) then
 (bif decide (a.Code ≥ 0) then
 (bif decide (a.Code ≤ 4) then
 ((spec_l1Num a.Val).bind fun l1Num =>
 some l1Num)
 else
 some false)
 else
 some false)
 else
 some false)
 else
 some false))
 else
 some false)
 else
 some false)
theorem spec_l9Told_ok {a : TTold} (r : Bool) (h : spec_l9Told a = some r) : ACalls cx.P 46 [.agg (eTold a)] (spec_l9Told_R r) (spec_l9Told_O r) :=
  ACalls.of (cx := cx) (X := spec_l9Told_X) (c := spec_l9Told_c) Tryz.func46 (by kernel_rfl) (by kernel_rfl) (by kernel_rfl) (P0 <|
 rg2 <| cdD 3 h (fun h =>
 cdD 8 h (fun h =>
 cb spec_l5Req_t spec_l5Req_ok 11 false h fun l5Req h =>
 cdD 13 h (fun h =>
 cdD 21 h (fun h =>
 cdD 26 h (fun h =>
 cdD 31 h (fun h =>
 cb spec_l1Num_t spec_l1Num_ok 34 false h fun l1Num h =>
 fe Tryz.func46 h) (fun h =>
 fe Tryz.func46 h)) (fun h =>
 fe Tryz.func46 h)) (fun h =>
 fe Tryz.func46 h)) (fun h =>
 fe Tryz.func46 h)) (fun h =>
 fe Tryz.func46 h)) (fun h =>
 fe Tryz.func46 h))

/-! ### spec_WorldOk -/
noncomputable def spec_WorldOk_c : Code := bodyOf Tryz.f13
noncomputable def spec_WorldOk_X : Sig := { f := 13, fn := Tryz.f13, rms := [.val [] []], oms := [none] }
noncomputable def spec_WorldOk_R (r : Bool) : V := .b r
noncomputable def spec_WorldOk_O (r : Bool) : List (Option V) := [none]
noncomputable def spec_WorldOk_t (i : Nat) (fr : Bool) (r : Bool) : Nat × Tell := (i, { a := .call [.val ck35 []] fr (spec_WorldOk_R r) (spec_WorldOk_O r) })
noncomputable def spec_WorldOk_k1 : List Item := posI 2000 4 [false, false] [.code spec_WorldOk_c]
noncomputable def spec_WorldOk_S1 (w : TWorld) : St := ⟨(bs 1 (.ptr 1 0 0 :: (bs 104 []))), [some [], some [.var 35 [vsl 27 eNode w.Nodes, vsl 13 eMsg w.Net, vsl 3 eAsked w.Asked, vsl 5 eTold w.Told]]]⟩
noncomputable def spec_WorldOk_k2 : List Item := posI 2000 6 [false, false, false] [.code spec_WorldOk_c]
noncomputable def spec_WorldOk_S2 (w : TWorld) : St := ⟨(bs 1 (.ptr 1 0 0 :: (bs 104 []))), [some [], some [.var 35 [vsl 27 eNode w.Nodes, vsl 13 eMsg w.Net, vsl 3 eAsked w.Asked, vsl 5 eTold w.Told]]]⟩
noncomputable def spec_WorldOk_k3 : List Item := posI 2000 8 [false, false, false, false] [.code spec_WorldOk_c]
noncomputable def spec_WorldOk_S3 (w : TWorld) : St := ⟨(bs 1 (.ptr 1 0 0 :: (bs 104 []))), [some [], some [.var 35 [vsl 27 eNode w.Nodes, vsl 13 eMsg w.Net, vsl 3 eAsked w.Asked, vsl 5 eTold w.Told]]]⟩
noncomputable def spec_WorldOk_k4 : List Item := posI 2000 10 [false, false, false, false, false] [.code spec_WorldOk_c]
noncomputable def spec_WorldOk_S4 : St := ⟨(bs 106 []), [some []]⟩
noncomputable def spec_WorldOk_k5 : Option Bool :=
  some true
theorem spec_WorldOk_k5_ok (r : Bool) (h : spec_WorldOk_k5 = some r) : Fin cx spec_WorldOk_X (spec_WorldOk_R r) (spec_WorldOk_O r) spec_WorldOk_k4 (spec_WorldOk_S4) :=
  P0 <|
 rg <| fe Tryz.func13 h
noncomputable def spec_WorldOk_k6 : List Item := posI 2000 9 [false, false, false, false] [.code spec_WorldOk_c]
noncomputable def spec_WorldOk_S5 (w : TWorld) (i3 : Int) : St := ⟨(bs 1 (.ptr 1 0 0 :: (bs 4 (vi i3 :: (bs 99 []))))), [some [], some [.var 35 [vsl 27 eNode w.Nodes, vsl 13 eMsg w.Net, vsl 3 eAsked w.Asked, vsl 5 eTold w.Told]]]⟩
noncomputable def spec_WorldOk_b1 (w : TWorld) (i3 : Int) : Option (Stp Bool Int Unit) :=
  (bif decide (i3 < (w.Told.length : Int)) then
 ((idx w.Told i3).bind fun told =>
 ((spec_l9Told told).bind fun l9Told =>
 (bif (!l9Told) then
 some (Stp.ret false)
 else
 some (Stp.nxt (w64 (i3 + 1))))))
 else
 some (Stp.brk ()))
theorem spec_WorldOk_b1_ok (w : TWorld) (res : V) (outs : List (Option V)) (x1 : Exc Bool Unit) (hb1 : HB cx spec_WorldOk_X res outs x1 spec_WorldOk_k4 (fun s => spec_WorldOk_S4)) (hr1 : HR res outs x1 spec_WorldOk_R spec_WorldOk_O) (st1 : Stp Bool Int Unit) (hc1 : Cont x1 (fun s : Int => Fin cx spec_WorldOk_X res outs spec_WorldOk_k6 (spec_WorldOk_S5 w s)) st1) (i3 : Int) (h : spec_WorldOk_b1 w i3 = some st1) : Fin cx spec_WorldOk_X res outs spec_WorldOk_k6 (spec_WorldOk_S5 w i3) :=
  P0 <|
 rg <| cdD 4 h (fun h =>
 rg <| ixS eTold 3 h fun told htold h =>
 cb spec_l9Told_t spec_l9Told_ok 5 false h fun l9Told h =>
 cdD 6 h (fun h =>
 rg <| (retD h hc1 fun e => fn0 Tryz.func13 (hr1 _ e))) (fun h =>
 rg <| (nxtD h hc1 fun hI => sg [] [1, 6] [(1, 0)] hI))) (fun h =>
 (brkD h hc1 fun e => sg [] [] [] (hb1 _ e)))
noncomputable def spec_WorldOk_k7 (w : TWorld) : Option Bool :=
  ((loop (fun s : Int => spec_WorldOk_b1 w s) 0).bind fun x => x.go (fun r => some r) fun s => spec_WorldOk_k5)
theorem spec_WorldOk_k7_ok (w : TWorld) (r : Bool) (h : spec_WorldOk_k7 w = some r) : Fin cx spec_WorldOk_X (spec_WorldOk_R r) (spec_WorldOk_O r) spec_WorldOk_k3 (spec_WorldOk_S3 w) :=
  P0 <|
 rg <| loopJ h fun x hl hr hb => sg [] [1, 6] [(1, 0)] (loopD (I := fun s : Int => Fin cx spec_WorldOk_X (spec_WorldOk_R r) (spec_WorldOk_O r) spec_WorldOk_k6 (spec_WorldOk_S5 w s)) hl fun s st h hc => spec_WorldOk_b1_ok w _ _ x (fun s e => spec_WorldOk_k5_ok r (hb s e)) (fun v e => ⟨congrArg spec_WorldOk_R (Option.some.inj (hr v e)).symm, congrArg spec_WorldOk_O (Option.some.inj (hr v e)).symm⟩) st hc s h)
noncomputable def spec_WorldOk_k8 : List Item := posI 2000 7 [false, false, false] [.code spec_WorldOk_c]
noncomputable def spec_WorldOk_S6 (w : TWorld) (i2 : Int) : St := ⟨(bs 1 (.ptr 1 0 0 :: (bs 3 (vi i2 :: (bs 100 []))))), [some [], some [.var 35 [vsl 27 eNode w.Nodes, vsl 13 eMsg w.Net, vsl 3 eAsked w.Asked, vsl 5 eTold w.Told]]]⟩
noncomputable def spec_WorldOk_b2 (w : TWorld) (i2 : Int) : Option (Stp Bool Int Unit) :=
  (bif decide (i2 < (w.Asked.length : Int)) then
 ((idx w.Asked i2).bind fun asked =>
 ((spec_l5Req asked.Req).bind fun l5Req =>
 (bif (!l5Req) then
 some (Stp.ret false)
 else
 ((spec_ProgOk asked.Prog).bind fun progOk =>
 (bif (!progOk) then
 some (Stp.ret false)
 else
 some (Stp.nxt (w64 (i2 + 1))))))))
 else
 some (Stp.brk ()))
theorem spec_WorldOk_b2_ok (w : TWorld) (res : V) (outs : List (Option V)) (x1 : Exc Bool Unit) (hb1 : HB cx spec_WorldOk_X res outs x1 spec_WorldOk_k3 (fun s => spec_WorldOk_S3 w)) (hr1 : HR res outs x1 spec_WorldOk_R spec_WorldOk_O) (st1 : Stp Bool Int Unit) (hc1 : Cont x1 (fun s : Int => Fin cx spec_WorldOk_X res outs spec_WorldOk_k8 (spec_WorldOk_S6 w s)) st1) (i2 : Int) (h : spec_WorldOk_b2 w i2 = some st1) : Fin cx spec_WorldOk_X res outs spec_WorldOk_k8 (spec_WorldOk_S6 w i2) :=
  P0 <|
 rg <| cdD 4 h (fun h =>
 rg <| ixS eAsked 3 h fun asked hasked h =>
 cb spec_l5Req_t spec_l5Req_ok 6 false h fun l5Req h =>
 cdD 8 h (fun h =>
 rg <| (retD h hc1 fun e => fn0 Tryz.func13 (hr1 _ e))) (fun h =>
 ixR eAsked 12 hasked <| cb spec_ProgOk_t spec_ProgOk_ok 15 false h fun progOk h =>
 cdD 17 h (fun h =>
 rg <| (retD h hc1 fun e => fn0 Tryz.func13 (hr1 _ e))) (fun h =>
 rg <| (nxtD h hc1 fun hI => sg [] [1, 5] [(1, 0)] hI)))) (fun h =>
 (brkD h hc1 fun e => sg [] [1] [(1, 0)] (hb1 _ e)))
noncomputable def spec_WorldOk_k9 (w : TWorld) : Option Bool :=
  ((loop (fun s : Int => spec_WorldOk_b2 w s) 0).bind fun x => x.go (fun r => some r) fun s => spec_WorldOk_k7 w)
theorem spec_WorldOk_k9_ok (w : TWorld) (r : Bool) (h : spec_WorldOk_k9 w = some r) : Fin cx spec_WorldOk_X (spec_WorldOk_R r) (spec_WorldOk_O r) spec_WorldOk_k2 (spec_WorldOk_S2 w) :=
  P0 <|
 rg <| loopJ h fun x hl hr hb => sg [] [1, 5] [(1, 0)] (loopD (I := fun s : Int => Fin cx spec_WorldOk_X (spec_WorldOk_R r) (spec_WorldOk_O r) spec_WorldOk_k8 (spec_WorldOk_S6 w s)) hl fun s st h hc => spec_WorldOk_b2_ok w _ _ x (fun s e => spec_WorldOk_k7_ok w r (hb s e)) (fun v e => ⟨congrArg spec_WorldOk_R (Option.some.inj (hr v e)).symm, congrArg spec_WorldOk_O (Option.some.inj (hr v e)).symm⟩) st hc s h)
noncomputable def spec_WorldOk_k10 : List Item := posI 2000 5 [false, false] [.code spec_WorldOk_c]
noncomputable def spec_WorldOk_S7 (w : TWorld) (i1 : Int) : St := ⟨(bs 1 (.ptr 1 0 0 :: (bs 2 (vi i1 :: (bs 101 []))))), [some [], some [.var 35 [vsl 27 eNode w.Nodes, vsl 13 eMsg w.Net, vsl 3 eAsked w.Asked, vsl 5 eTold w.Told]]]⟩
noncomputable def spec_WorldOk_b3 (w : TWorld) (i1 : Int) : Option (Stp Bool Int Unit) :=
  (bif decide (i1 < (w.Net.length : Int)) then
 ((idx w.Net i1).bind fun msg =>
 ((spec_MsgOk msg).bind fun msgOk =>
 (bif (!msgOk) then
 some (Stp.ret false)
 else
 some (Stp.nxt (w64 (i1 + 1))))))
 else
 some (Stp.brk ()))
theorem spec_WorldOk_b3_ok (w : TWorld) (res : V) (outs : List (Option V)) (x1 : Exc Bool Unit) (hb1 : HB cx spec_WorldOk_X res outs x1 spec_WorldOk_k2 (fun s => spec_WorldOk_S2 w)) (hr1 : HR res outs x1 spec_WorldOk_R spec_WorldOk_O) (st1 : Stp Bool Int Unit) (hc1 : Cont x1 (fun s : Int => Fin cx spec_WorldOk_X res outs spec_WorldOk_k10 (spec_WorldOk_S7 w s)) st1) (i1 : Int) (h : spec_WorldOk_b3 w i1 = some st1) : Fin cx spec_WorldOk_X res outs spec_WorldOk_k10 (spec_WorldOk_S7 w i1) :=
  P0 <|
 rg <| cdD 4 h (fun h =>
 rg <| ixS eMsg 3 h fun msg hmsg h =>
 cb spec_MsgOk_t spec_MsgOk_ok 5 false h fun msgOk h =>
 cdD 6 h (fun h =>
 rg <| (retD h hc1 fun e => fn0 Tryz.func13 (hr1 _ e))) (fun h =>
 rg <| (nxtD h hc1 fun hI => sg [] [1, 4] [(1, 0)] hI))) (fun h =>
 (brkD h hc1 fun e => sg [] [1] [(1, 0)] (hb1 _ e)))
noncomputable def spec_WorldOk_k11 (w : TWorld) : Option Bool :=
  ((loop (fun s : Int => spec_WorldOk_b3 w s) 0).bind fun x => x.go (fun r => some r) fun s => spec_WorldOk_k9 w)
theorem spec_WorldOk_k11_ok (w : TWorld) (r : Bool) (h : spec_WorldOk_k11 w = some r) : Fin cx spec_WorldOk_X (spec_WorldOk_R r) (spec_WorldOk_O r) spec_WorldOk_k1 (spec_WorldOk_S1 w) :=
  P0 <|
 rg <| loopJ h fun x hl hr hb => sg [] [1, 4] [(1, 0)] (loopD (I := fun s : Int => Fin cx spec_WorldOk_X (spec_WorldOk_R r) (spec_WorldOk_O r) spec_WorldOk_k10 (spec_WorldOk_S7 w s)) hl fun s st h hc => spec_WorldOk_b3_ok w _ _ x (fun s e => spec_WorldOk_k9_ok w r (hb s e)) (fun v e => ⟨congrArg spec_WorldOk_R (Option.some.inj (hr v e)).symm, congrArg spec_WorldOk_O (Option.some.inj (hr v e)).symm⟩) st hc s h)
noncomputable def spec_WorldOk_k12 : List Item := posI 2000 3 [false] [.code spec_WorldOk_c]
noncomputable def spec_WorldOk_S8 (w : TWorld) (i : Int) : St := ⟨(bs 1 (.ptr 1 0 0 :: (bs 1 (vi i :: (bs 102 []))))), [some [], some [.var 35 [vsl 27 eNode w.Nodes, vsl 13 eMsg w.Net, vsl 3 eAsked w.Asked, vsl 5 eTold w.Told]]]⟩
noncomputable def spec_WorldOk_b4 (w : TWorld) (i : Int) : Option (Stp Bool Int Unit) :=
  (bif decide (i < (w.Nodes.length : Int)) then
 ((idx w.Nodes i).bind fun node =>
 (bif (node.Id != i) then
 some (Stp.ret false)
 else
 ((spec_NodeOk node).bind fun nodeOk =>
 (bif (!nodeOk) then
 some (Stp.ret false)
 else
 some (Stp.nxt (w64 (i + 1)))))))
 else
 some (Stp.brk ()))
theorem spec_WorldOk_b4_ok (w : TWorld) (res : V) (outs : List (Option V)) (x1 : Exc Bool Unit) (hb1 : HB cx spec_WorldOk_X res outs x1 spec_WorldOk_k1 (fun s => spec_WorldOk_S1 w)) (hr1 : HR res outs x1 spec_WorldOk_R spec_WorldOk_O) (st1 : Stp Bool Int Unit) (hc1 : Cont x1 (fun s : Int => Fin cx spec_WorldOk_X res outs spec_WorldOk_k12 (spec_WorldOk_S8 w s)) st1) (i : Int) (h : spec_WorldOk_b4 w i = some st1) : Fin cx spec_WorldOk_X res outs spec_WorldOk_k12 (spec_WorldOk_S8 w i) :=
  P0 <|
 rg <| cdD 4 h (fun h =>
 rg <| ixS eNode 3 h fun node hnode h =>
 cdD 8 h (fun h =>
 rg <| (retD h hc1 fun e => fn0 Tryz.func13 (hr1 _ e))) (fun h =>
 ixR eNode 12 hnode <| cb spec_NodeOk_t spec_NodeOk_ok 14 false h fun nodeOk h =>
 cdD 16 h (fun h =>
 rg <| (retD h hc1 fun e => fn0 Tryz.func13 (hr1 _ e))) (fun h =>
 rg <| (nxtD h hc1 fun hI => sg [] [1, 3] [(1, 0)] hI)))) (fun h =>
 (brkD h hc1 fun e => sg [] [1] [(1, 0)] (hb1 _ e)))
noncomputable def spec_WorldOk (w : TWorld) : Option Bool :=
  (bif ((w.Nodes.length : Int) != 3) then
 some false
 else
 (bif decide ((w.Net.length : Int) > 40) then
 some false
 else
 (bif decide ((w.Asked.length : Int) > 60) then
 some false
 else
 (bif decide ((w.Told.length : Int) > 60) then
 some false
 else
 ((loop (fun s : Int => spec_WorldOk_b4 w s) 0).bind fun x => x.go (fun r => some r) fun s => spec_WorldOk_k11 w)))))
theorem spec_WorldOk_ok {w : TWorld} (r : Bool) (h : spec_WorldOk w = some r) : ACalls cx.P 13 [.agg (eWorld w)] (spec_WorldOk_R r) (spec_WorldOk_O r) :=
  ACalls.of (cx := cx) (X := spec_WorldOk_X) (c := spec_WorldOk_c) Tryz.func13 (by kernel_rfl) (by kernel_rfl) (by kernel_rfl) (P0 <|
 rg2 <| cdD 4 h (fun h =>
 rg <| fe Tryz.func13 h) (fun h =>
 cdD 10 h (fun h =>
 rg <| fe Tryz.func13 h) (fun h =>
 cdD 16 h (fun h =>
 rg <| fe Tryz.func13 h) (fun h =>
 cdD 21 h (fun h =>
 rg <| fe Tryz.func13 h) (fun h =>
 rg <| loopJ h fun x hl hr hb => sg [] [1, 3] [(1, 0)] (loopD (I := fun s : Int => Fin cx spec_WorldOk_X (spec_WorldOk_R r) (spec_WorldOk_O r) spec_WorldOk_k12 (spec_WorldOk_S8 w s)) hl fun s st h hc => spec_WorldOk_b4_ok w _ _ x (fun s e => spec_WorldOk_k11_ok w r (hb s e)) (fun v e => ⟨congrArg spec_WorldOk_R (Option.some.inj (hr v e)).symm, congrArg spec_WorldOk_O (Option.some.inj (hr v e)).symm⟩) st hc s h))))))

/-! ### spec_l3Copy -/
noncomputable def spec_l3Copy_c : Code := bodyOf Tryz.f133
noncomputable def spec_l3Copy_X : Sig := { f := 133, fn := Tryz.f133, rms := [.val ck73 []], oms := [none] }
noncomputable def spec_l3Copy_R (r : TRun) : V := .agg (eRun r)
noncomputable def spec_l3Copy_O (r : TRun) : List (Option V) := [none]
noncomputable def spec_l3Copy_t (i : Nat) (fr : Bool) (r : TRun) : Nat × Tell := (i, { a := .call [.val ck73 []] fr (spec_l3Copy_R r) (spec_l3Copy_O r) })
noncomputable def spec_l3Copy (r_ : TRun) : Option TRun :=
  (need ((([] : List TRead).length + r_.Reads.length) * 16 ≤ 140737488355328)
 ((need ((([] : List TPut).length + r_.Puts.length) * 16 ≤ 140737488355328)
 (some (TRun.mk (([] : List TRead) ++ r_.Reads) (([] : List TPut) ++ r_.Puts) r_.Val r_.Code)))))
theorem spec_l3Copy_ok {r_ : TRun} (r : TRun) (h : spec_l3Copy r_ = some r) : ACalls cx.P 133 [.agg (eRun r_)] (spec_l3Copy_R r) (spec_l3Copy_O r) :=
  ACalls.of (cx := cx) (X := spec_l3Copy_X) (c := spec_l3Copy_c) Tryz.func133 (by kernel_rfl) (by kernel_rfl) (by kernel_rfl) (P0 <|
 rg2 <| tl (0, { a := .ck [] }) <| needD h fun e1 h =>
 om (V.own 6 0 2 0 (([] : List TRead).length + r_.Reads.length) = .own 6 0 2 0 (([] : List TRead) ++ r_.Reads).length) (by first | exact congrArg (V.own 6 0 2 0) List.length_append.symm | simp) <| om (Ent.row 193 2 (([] : List TRead).length + r_.Reads.length) (([] : List TRead).map eRead ++ r_.Reads.map eRead) = erow 193 2 eRead (([] : List TRead) ++ r_.Reads)) (by first | exact row_apps rfl rfl | simp [erow]) <| om (0 = ([] : List TRead).length) (by rfl) <| ob e1 <| tl (3, { v := some (.own 6 0 2 0 (([] : List TRead) ++ r_.Reads).length), e := some (erow 193 2 eRead (([] : List TRead) ++ r_.Reads)) }) <| tl (4, { a := .ck [] }) <| needD h fun e2 h =>
 om (V.own 10 0 2 0 (([] : List TPut).length + r_.Puts.length) = .own 10 0 2 0 (([] : List TPut) ++ r_.Puts).length) (by first | exact congrArg (V.own 10 0 2 0) List.length_append.symm | simp) <| om (Ent.row 195 2 (([] : List TPut).length + r_.Puts.length) (([] : List TPut).map ePut ++ r_.Puts.map ePut) = erow 195 2 ePut (([] : List TPut) ++ r_.Puts)) (by first | exact row_apps rfl rfl | simp [erow]) <| om (0 = ([] : List TPut).length) (by rfl) <| ob e2 <| tl (7, { v := some (.own 10 0 2 0 (([] : List TPut) ++ r_.Puts).length), e := some (erow 195 2 ePut (([] : List TPut) ++ r_.Puts)) }) <| om ((([] : List TRead) ++ r_.Reads).length = (([] : List TRead) ++ r_.Reads).length) rfl <| om ((([] : List TPut) ++ r_.Puts).length = (([] : List TPut) ++ r_.Puts).length) rfl <| fe Tryz.func133 h)

/-! ### spec_l5Entry -/
noncomputable def spec_l5Entry_c : Code := bodyOf Tryz.f93
noncomputable def spec_l5Entry_X : Sig := { f := 93, fn := Tryz.f93, rms := [.val ck75 []], oms := [none] }
noncomputable def spec_l5Entry_R (r : TEntry) : V := .agg (eEntry r)
noncomputable def spec_l5Entry_O (r : TEntry) : List (Option V) := [none]
noncomputable def spec_l5Entry_t (i : Nat) (fr : Bool) (r : TEntry) : Nat × Tell := (i, { a := .call [.val ck75 []] fr (spec_l5Entry_R r) (spec_l5Entry_O r) })
noncomputable def spec_l5Entry (e_ : TEntry) : Option TEntry :=
  ((spec_l3Copy e_.Run).bind fun l3Copy =>
 some (TEntry.mk e_.None e_.Req l3Copy))
theorem spec_l5Entry_ok {e_ : TEntry} (r : TEntry) (h : spec_l5Entry e_ = some r) : ACalls cx.P 93 [.agg (eEntry e_)] (spec_l5Entry_R r) (spec_l5Entry_O r) :=
  ACalls.of (cx := cx) (X := spec_l5Entry_X) (c := spec_l5Entry_c) Tryz.func93 (by kernel_rfl) (by kernel_rfl) (by kernel_rfl) (P0 <|
 rg2 <| cb spec_l3Copy_t spec_l3Copy_ok 6 false h fun l3Copy h =>
 fe Tryz.func93 h)

/-! ### spec_l8Entries -/
noncomputable def spec_l8Entries_c : Code := bodyOf Tryz.f47
noncomputable def spec_l8Entries_X : Sig := { f := 47, fn := Tryz.f47, rms := [.val [some 7] []], oms := [none] }
noncomputable def spec_l8Entries_R (r : List TEntry) : V := vsl 7 eEntry r
noncomputable def spec_l8Entries_O (r : List TEntry) : List (Option V) := [none]
noncomputable def spec_l8Entries_t (i : Nat) (fr : Bool) (r : List TEntry) : Nat × Tell := (i, { a := .call [.val [some 7] []] fr (spec_l8Entries_R r) (spec_l8Entries_O r) })
noncomputable def spec_l8Entries_k1 : List Item := posI 2000 4 [false] [.code spec_l8Entries_c]
noncomputable def spec_l8Entries_S1 (out1 : List TEntry) : St := ⟨(bs 3 (.own 1 0 7 0 out1.length :: (bs 17 []))), [some [], some [erow 75 7 eEntry out1]]⟩
noncomputable def spec_l8Entries_k2 (out1 : List TEntry) : Option (List TEntry) :=
  some out1
theorem spec_l8Entries_k2_ok (r : List TEntry) (out1 : List TEntry) (h : spec_l8Entries_k2 out1 = some r) : Fin cx spec_l8Entries_X (spec_l8Entries_R r) (spec_l8Entries_O r) spec_l8Entries_k1 (spec_l8Entries_S1 out1) :=
  P0 <|
 rg <| om (out1.length = out1.length) rfl <| fe Tryz.func47 h
noncomputable def spec_l8Entries_k3 : List Item := posI 2000 3 [] [.code spec_l8Entries_c]
noncomputable def spec_l8Entries_S2 (list : List TEntry) (out : List TEntry) (i : Int) : St := ⟨(vsl 7 eEntry list :: (bs 2 (.own 1 0 7 0 out.length :: (vi i :: (bs 16 []))))), [some [], some [erow 75 7 eEntry out]]⟩
noncomputable def spec_l8Entries_b1 (list : List TEntry) (out : List TEntry) (i : Int) : Option (Stp (List TEntry) ((List TEntry) × Int) (List TEntry)) :=
  (bif decide (i < (list.length : Int)) then
 ((idx list i).bind fun entry =>
 ((spec_l5Entry entry).bind fun l5Entry =>
 (need ((out.length + 1) * 88 ≤ 140737488355328)
 (some (Stp.nxt (out ++ [l5Entry], w64 (i + 1)))))))
 else
 some (Stp.brk out))
theorem spec_l8Entries_b1_ok (list : List TEntry) (res : V) (outs : List (Option V)) (x1 : Exc (List TEntry) (List TEntry)) (hb1 : HB cx spec_l8Entries_X res outs x1 spec_l8Entries_k1 spec_l8Entries_S1) (hr1 : HR res outs x1 spec_l8Entries_R spec_l8Entries_O) (st1 : Stp (List TEntry) ((List TEntry) × Int) (List TEntry)) (hc1 : Cont x1 (fun s : (List TEntry) × Int => Fin cx spec_l8Entries_X res outs spec_l8Entries_k3 (spec_l8Entries_S2 list s.1 s.2)) st1) (out : List TEntry) (i : Int) (h : spec_l8Entries_b1 list out i = some st1) : Fin cx spec_l8Entries_X res outs spec_l8Entries_k3 (spec_l8Entries_S2 list out i) :=
  P0 <|
 rg <| cdD 3 h (fun h =>
 rg <| ixS eEntry 3 h fun entry hentry h =>
 cb spec_l5Entry_t spec_l5Entry_ok 5 false h fun l5Entry h =>
 tl (6, { a := .ck ck75 }) <| needD h fun e1 h =>
 apS 7 13 75 7 88 eEntry out l5Entry e1 <| om (1 = [l5Entry].length) (by rfl) <| rg <| (nxtD h hc1 fun hI => sg [] [0, 3, 4] [(13, 0)] hI)) (fun h =>
 (brkD h hc1 fun e => sg [] [3] [(1, 0)] (hb1 _ e)))
noncomputable def spec_l8Entries (list : List TEntry) : Option (List TEntry) :=
  ((loop (fun s : (List TEntry) × Int => spec_l8Entries_b1 list s.1 s.2) (([] : List TEntry), 0)).bind fun x => x.go (fun r => some r) fun s => spec_l8Entries_k2 s)
theorem spec_l8Entries_ok {list : List TEntry} (r : List TEntry) (h : spec_l8Entries list = some r) : ACalls cx.P 47 [vsl 7 eEntry list] (spec_l8Entries_R r) (spec_l8Entries_O r) :=
  ACalls.of (cx := cx) (X := spec_l8Entries_X) (c := spec_l8Entries_c) Tryz.func47 (by kernel_rfl) (by kernel_rfl) (by kernel_rfl) (P0 <|
 rg2 <| tl (0, { a := .ck ck75 }) <| rg <| loopJ h fun x hl hr hb => om ((.own 2 0 7 0 0 : V) = .own 2 0 7 0 ([] : List TEntry).length) (by simp) <| sg [.is (.tmp 3) (.own 2 0 7 0 ([] : List TEntry).length)] [0, 3, 4] [(2, 0)] (loopD (I := fun s : (List TEntry) × Int => Fin cx spec_l8Entries_X (spec_l8Entries_R r) (spec_l8Entries_O r) spec_l8Entries_k3 (spec_l8Entries_S2 list s.1 s.2)) hl fun s st h hc => spec_l8Entries_b1_ok list _ _ x (fun s e => spec_l8Entries_k2_ok r s (hb s e)) (fun v e => ⟨congrArg spec_l8Entries_R (Option.some.inj (hr v e)).symm, congrArg spec_l8Entries_O (Option.some.inj (hr v e)).symm⟩) st hc s.1 s.2 h))

/-! ### spec_WorldLog -/
noncomputable def spec_WorldLog_c : Code := bodyOf Tryz.f14
noncomputable def spec_WorldLog_X : Sig := { f := 14, fn := Tryz.f14, rms := [.val [some 7] []], oms := [none] }
noncomputable def spec_WorldLog_R (r : List TEntry) : V := vsl 7 eEntry r
noncomputable def spec_WorldLog_O (r : List TEntry) : List (Option V) := [none]
noncomputable def spec_WorldLog_t (i : Nat) (fr : Bool) (r : List TEntry) : Nat × Tell := (i, { a := .call [.val ck35 []] fr (spec_WorldLog_R r) (spec_WorldLog_O r) })
noncomputable def spec_WorldLog_k1 : List Item := posI 2000 4 [false] [.code spec_WorldLog_c]
noncomputable def spec_WorldLog_S1 (w : TWorld) (best1 : Int) : St := ⟨(bs 1 (.ptr 1 0 0 :: (bs 1 (vi best1 :: (bs 36 []))))), [some [], some [.var 35 [vsl 27 eNode w.Nodes, vsl 13 eMsg w.Net, vsl 3 eAsked w.Asked, vsl 5 eTold w.Told]]]⟩
noncomputable def spec_WorldLog_k2 (w : TWorld) (best1 : Int) : Option (List TEntry) :=
  (bif ((w.Nodes.length : Int) == 0) then
 some ([] : List TEntry)
 else
 ((idx w.Nodes best1).bind fun node =>
 ((spec_l8Entries node.Known).bind fun l8Entries =>
 some l8Entries)))
theorem spec_WorldLog_k2_ok (w : TWorld) (r : List TEntry) (best1 : Int) (h : spec_WorldLog_k2 w best1 = some r) : Fin cx spec_WorldLog_X (spec_WorldLog_R r) (spec_WorldLog_O r) spec_WorldLog_k1 (spec_WorldLog_S1 w best1) :=
  P0 <|
 rg <| cdD 3 h (fun h =>
 rg <| tl (0, { a := .ck ck75 }) <| om (0 = ([] : List TEntry).length) (by simp) <| fe Tryz.func14 h) (fun h =>
 rg <| ixS eNode 3 h fun node hnode h =>
 cb spec_l8Entries_t spec_l8Entries_ok 6 false h fun l8Entries h =>
 fe Tryz.func14 h)
noncomputable def spec_WorldLog_k3 : List Item := posI 2000 3 [] [.code spec_WorldLog_c]
noncomputable def spec_WorldLog_S2 (w : TWorld) (best : Int) (i : Int) : St := ⟨(bs 1 (.ptr 1 0 0 :: (bs 1 (vi best :: (vi i :: (bs 35 [])))))), [some [], some [.var 35 [vsl 27 eNode w.Nodes, vsl 13 eMsg w.Net, vsl 3 eAsked w.Asked, vsl 5 eTold w.Told]]]⟩
noncomputable def spec_WorldLog_k4 : List Item := posI 2000 6 [true, true] [.code spec_WorldLog_c]
noncomputable def spec_WorldLog_S3 (w : TWorld) (i : Int) (best2 : Int) : St := ⟨(bs 1 (.ptr 1 0 0 :: (bs 1 (vi best2 :: (vi i :: (bs 35 [])))))), [some [], some [.var 35 [vsl 27 eNode w.Nodes, vsl 13 eMsg w.Net, vsl 3 eAsked w.Asked, vsl 5 eTold w.Told]]]⟩
noncomputable def spec_WorldLog_j1 (i : Int) (best2 : Int) : Option (Stp (List TEntry) (Int × Int) Int) :=
  some (Stp.nxt (best2, w64 (i + 1)))
theorem spec_WorldLog_j1_ok (w : TWorld) (i : Int) (res : V) (outs : List (Option V)) (x1 : Exc (List TEntry) Int) (hb1 : HB cx spec_WorldLog_X res outs x1 spec_WorldLog_k1 (spec_WorldLog_S1 w)) (hr1 : HR res outs x1 spec_WorldLog_R spec_WorldLog_O) (st1 : Stp (List TEntry) (Int × Int) Int) (hc1 : Cont x1 (fun s : Int × Int => Fin cx spec_WorldLog_X res outs spec_WorldLog_k3 (spec_WorldLog_S2 w s.1 s.2)) st1) (best2 : Int) (h : spec_WorldLog_j1 i best2 = some st1) : Fin cx spec_WorldLog_X res outs spec_WorldLog_k4 (spec_WorldLog_S3 w i best2) :=
  P0 <|
 rg <| (nxtD h hc1 fun hI => sg [] [1, 3, 4] [(1, 0)] hI)
noncomputable def spec_WorldLog_b1 (w : TWorld) (best : Int) (i : Int) : Option (Stp (List TEntry) (Int × Int) Int) :=
  (bif decide (i < (w.Nodes.length : Int)) then
 ((((idx w.Nodes i).bind fun node1 =>
 ((idx w.Nodes best).bind fun node2 =>
 (bif decide ((node1.Known.length : Int) > (node2.Known.length : Int)) then
 some (Exc.brk i)
 else
 some (Exc.brk best)))) : Option (Exc (Stp (List TEntry) (Int × Int) Int) Int)).bind fun x => x.go some fun j => spec_WorldLog_j1 i j)
 else
 some (Stp.brk best))
theorem spec_WorldLog_b1_ok (w : TWorld) (res : V) (outs : List (Option V)) (x1 : Exc (List TEntry) Int) (hb1 : HB cx spec_WorldLog_X res outs x1 spec_WorldLog_k1 (spec_WorldLog_S1 w)) (hr1 : HR res outs x1 spec_WorldLog_R spec_WorldLog_O) (st1 : Stp (List TEntry) (Int × Int) Int) (hc1 : Cont x1 (fun s : Int × Int => Fin cx spec_WorldLog_X res outs spec_WorldLog_k3 (spec_WorldLog_S2 w s.1 s.2)) st1) (best : Int) (i : Int) (h : spec_WorldLog_b1 w best i = some st1) : Fin cx spec_WorldLog_X res outs spec_WorldLog_k3 (spec_WorldLog_S2 w best i) :=
  P0 <|
 rg <| cdD 4 h (fun h =>
 joinD (I := fun j : Int => Fin cx spec_WorldLog_X res outs spec_WorldLog_k4 (spec_WorldLog_S3 w i j)) h (fun j h => spec_WorldLog_j1_ok w i res outs x1 hb1 hr1 st1 hc1 j h) (fun x2 h hc2 =>
  rg <| ixS eNode 3 h fun node1 hnode1 h =>
 ixS eNode 10 h fun node2 hnode2 h =>
 cdD 14 h (fun h =>
 rg <| (jbrkD h hc2 fun hI => sg [] [1, 3, 4] [(1, 0)] hI)) (fun h =>
 (jbrkD h hc2 fun hI => sg [] [1, 3, 4] [(1, 0)] hI)))) (fun h =>
 (brkD h hc1 fun e => sg [] [1, 3] [(1, 0)] (hb1 _ e)))
noncomputable def spec_WorldLog (w : TWorld) : Option (List TEntry) :=
  ((loop (fun s : Int × Int => spec_WorldLog_b1 w s.1 s.2) (0, 0)).bind fun x => x.go (fun r => some r) fun s => spec_WorldLog_k2 w s)
theorem spec_WorldLog_ok {w : TWorld} (r : List TEntry) (h : spec_WorldLog w = some r) : ACalls cx.P 14 [.agg (eWorld w)] (spec_WorldLog_R r) (spec_WorldLog_O r) :=
  ACalls.of (cx := cx) (X := spec_WorldLog_X) (c := spec_WorldLog_c) Tryz.func14 (by kernel_rfl) (by kernel_rfl) (by kernel_rfl) (P0 <|
 rg3 <| loopJ h fun x hl hr hb => sg [] [1, 3, 4] [(1, 0)] (loopD (I := fun s : Int × Int => Fin cx spec_WorldLog_X (spec_WorldLog_R r) (spec_WorldLog_O r) spec_WorldLog_k3 (spec_WorldLog_S2 w s.1 s.2)) hl fun s st h hc => spec_WorldLog_b1_ok w _ _ x (fun s e => spec_WorldLog_k2_ok w r s (hb s e)) (fun v e => ⟨congrArg spec_WorldLog_R (Option.some.inj (hr v e)).symm, congrArg spec_WorldLog_O (Option.some.inj (hr v e)).symm⟩) st hc s.1 s.2 h))

/-! ### spec_BoxOpen -/
noncomputable def spec_BoxOpen_c : Code := bodyOf Tryz.f18
noncomputable def spec_BoxOpen_X : Sig := { f := 18, fn := Tryz.f18, rms := [.val [some 2] [some 128]], oms := [] }
noncomputable def spec_BoxOpen_R (r : List TBox) : V := vosl 128 2 eBox r
noncomputable def spec_BoxOpen_O (r : List TBox) : List (Option V) := []
noncomputable def spec_BoxOpen_t (i : Nat) (fr : Bool) (r : List TBox) : Nat × Tell := (i, { a := .call [] fr (spec_BoxOpen_R r) (spec_BoxOpen_O r) })
noncomputable def spec_BoxOpen : Option (List TBox) :=
  (need (0 ≤ (4 : Int) ∧ (4 : Int) * 16 ≤ 140737488355328)
 (some (List.replicate (4 : Int).toNat (TBox.mk 0 0))))
theorem spec_BoxOpen_ok (r : List TBox) (h : spec_BoxOpen = some r) : ACalls cx.P 18 [] (spec_BoxOpen_R r) (spec_BoxOpen_O r) :=
  ACalls.of (cx := cx) (X := spec_BoxOpen_X) (c := spec_BoxOpen_c) Tryz.func18 (by kernel_rfl) (by kernel_rfl) (by kernel_rfl) (P0 <|
 rg2 <| needD h fun e1 h =>
 mkS 0 2 128 2 16 eBox (TBox.mk 0 0) ti128 (.none) e1 (by decide) (by rfl) <| om ((List.replicate (4 : Int).toNat (TBox.mk 0 0)).length = (List.replicate (4 : Int).toNat (TBox.mk 0 0)).length) rfl <| fe Tryz.func18 h)

/-! ### spec_CertOpen -/
noncomputable def spec_CertOpen_c : Code := bodyOf Tryz.f49
noncomputable def spec_CertOpen_X : Sig := { f := 49, fn := Tryz.f49, rms := [.val [none, some 2, some 4] [none, some 128, none]], oms := [] }
noncomputable def spec_CertOpen_R (r : TState) : V := .agg [vi r.At, vosl 128 2 eBox r.Boxes, vsl 4 eDone r.Dones]
noncomputable def spec_CertOpen_O (r : TState) : List (Option V) := []
noncomputable def spec_CertOpen_t (i : Nat) (fr : Bool) (r : TState) : Nat × Tell := (i, { a := .call [] fr (spec_CertOpen_R r) (spec_CertOpen_O r) })
noncomputable def spec_CertOpen : Option TState :=
  ((spec_BoxOpen).bind fun boxOpen =>
 some (TState.mk 0 boxOpen []))
theorem spec_CertOpen_ok (r : TState) (h : spec_CertOpen = some r) : ACalls cx.P 49 [] (spec_CertOpen_R r) (spec_CertOpen_O r) :=
  ACalls.of (cx := cx) (X := spec_CertOpen_X) (c := spec_CertOpen_c) Tryz.func49 (by kernel_rfl) (by kernel_rfl) (by kernel_rfl) (P0 <|
 rg2 <| cb spec_BoxOpen_t spec_BoxOpen_ok 0 false h fun boxOpen h =>
 om (boxOpen.length = boxOpen.length) rfl <| fe Tryz.func49 h)

/-! ### spec_l5Last -/
noncomputable def spec_l5Last_c : Code := bodyOf Tryz.f94
noncomputable def spec_l5Last_X : Sig := { f := 94, fn := Tryz.f94, rms := [.val [] [], .val [] []], oms := [none, none] }
noncomputable def spec_l5Last_R (r : TDone × Bool) : V := .tup [.agg (eDone r.1), .b r.2]
noncomputable def spec_l5Last_O (r : TDone × Bool) : List (Option V) := [none, none]
noncomputable def spec_l5Last_t (i : Nat) (fr : Bool) (r : TDone × Bool) : Nat × Tell := (i, { a := .call [.val [none, some 2, some 4] [], .val [] []] fr (spec_l5Last_R r) (spec_l5Last_O r) })
noncomputable def spec_l5Last_k1 : List Item := posI 2000 3 [false] [.code spec_l5Last_c]
noncomputable def spec_l5Last_S1 : St := ⟨(bs 4 (.ptr 1 0 0 :: (bs 24 []))), [some [], some [.var 160 [vi 0, vi 0, vi 0, vi 0]]]⟩
noncomputable def spec_l5Last_k2 : Option (TDone × Bool) :=
  some ((TDone.mk (TReq.mk 0 0) 0 0), false)
theorem spec_l5Last_k2_ok (r : TDone × Bool) (h : spec_l5Last_k2 = some r) : Fin cx spec_l5Last_X (spec_l5Last_R r) (spec_l5Last_O r) spec_l5Last_k1 (spec_l5Last_S1) :=
  P0 <|
 rg <| fe Tryz.func94 h
noncomputable def spec_l5Last_k3 : List Item := posI 2000 2 [] [.code spec_l5Last_c]
noncomputable def spec_l5Last_S2 (s_ : TState) (who : Int) (i : Int) : St := ⟨(bs 1 (vi who :: (.ptr 1 0 0 :: (bs 1 (.ptr 2 0 0 :: (bs 1 (vi i :: (bs 22 [])))))))), [some [], some [.var 58 [vi s_.At, vsl 2 eBox s_.Boxes, vsl 4 eDone s_.Dones]], some [.var 160 [vi 0, vi 0, vi 0, vi 0]]]⟩
noncomputable def spec_l5Last_b1 (s_ : TState) (who : Int) (i : Int) : Option (Stp (TDone × Bool) Int Unit) :=
  (bif decide (i < (s_.Dones.length : Int)) then
 ((idx s_.Dones i).bind fun done =>
 (bif (done.Req.Who == who) then
 some (Stp.ret (done, true))
 else
 some (Stp.nxt (w64 (i + 1)))))
 else
 some (Stp.brk ()))
theorem spec_l5Last_b1_ok (s_ : TState) (who : Int) (res : V) (outs : List (Option V)) (x1 : Exc (TDone × Bool) Unit) (hb1 : HB cx spec_l5Last_X res outs x1 spec_l5Last_k1 (fun s => spec_l5Last_S1)) (hr1 : HR res outs x1 spec_l5Last_R spec_l5Last_O) (st1 : Stp (TDone × Bool) Int Unit) (hc1 : Cont x1 (fun s : Int => Fin cx spec_l5Last_X res outs spec_l5Last_k3 (spec_l5Last_S2 s_ who s)) st1) (i : Int) (h : spec_l5Last_b1 s_ who i = some st1) : Fin cx spec_l5Last_X res outs spec_l5Last_k3 (spec_l5Last_S2 s_ who i) :=
  P0 <|
 rg <| cdD 4 h (fun h =>
 rg <| ixS eDone 3 h fun done hdone h =>
 cdD 8 h (fun h =>
 rg <| ixR eDone 3 hdone <| (retD h hc1 fun e => fn0 Tryz.func94 (hr1 _ e))) (fun h =>
 rg <| (nxtD h hc1 fun hI => sg [] [1, 2, 4, 6] [(1, 0), (2, 0)] hI))) (fun h =>
 (brkD h hc1 fun e => sg [] [4] [(2, 0)] (hb1 _ e)))
noncomputable def spec_l5Last (s_ : TState) (who : Int) : Option (TDone × Bool) :=
  ((loop (fun s : Int => spec_l5Last_b1 s_ who s) 0).bind fun x => x.go (fun r => some r) fun s => spec_l5Last_k2)
theorem spec_l5Last_ok {s_ : TState} {who : Int} (r : TDone × Bool) (h : spec_l5Last s_ who = some r) : ACalls cx.P 94 [.agg (eState s_), vi who] (spec_l5Last_R r) (spec_l5Last_O r) :=
  ACalls.of (cx := cx) (X := spec_l5Last_X) (c := spec_l5Last_c) Tryz.func94 (by kernel_rfl) (by kernel_rfl) (by kernel_rfl) (P0 <|
 rg2 <| loopJ h fun x hl hr hb => sg [] [1, 2, 4, 6] [(1, 0), (2, 0)] (loopD (I := fun s : Int => Fin cx spec_l5Last_X (spec_l5Last_R r) (spec_l5Last_O r) spec_l5Last_k3 (spec_l5Last_S2 s_ who s)) hl fun s st h hc => spec_l5Last_b1_ok s_ who _ _ x (fun s e => spec_l5Last_k2_ok r (hb s e)) (fun v e => ⟨congrArg spec_l5Last_R (Option.some.inj (hr v e)).symm, congrArg spec_l5Last_O (Option.some.inj (hr v e)).symm⟩) st hc s h))

/-! ### spec_BoxOk -/
noncomputable def spec_BoxOk_c : Code := bodyOf Tryz.f52
noncomputable def spec_BoxOk_X : Sig := { f := 52, fn := Tryz.f52, rms := [.val [] []], oms := [none] }
noncomputable def spec_BoxOk_R (r : Bool) : V := .b r
noncomputable def spec_BoxOk_O (r : Bool) : List (Option V) := [none]
noncomputable def spec_BoxOk_t (i : Nat) (fr : Bool) (r : Bool) : Nat × Tell := (i, { a := .call [.val [some 2] []] fr (spec_BoxOk_R r) (spec_BoxOk_O r) })
noncomputable def spec_BoxOk_k1 : List Item := posI 2000 4 [false, false] [.code spec_BoxOk_c]
noncomputable def spec_BoxOk_S1 : St := ⟨(bs 36 []), [some []]⟩
noncomputable def spec_BoxOk_k2 : Option Bool :=
  some true
theorem spec_BoxOk_k2_ok (r : Bool) (h : spec_BoxOk_k2 = some r) : Fin cx spec_BoxOk_X (spec_BoxOk_R r) (spec_BoxOk_O r) spec_BoxOk_k1 (spec_BoxOk_S1) :=
  P0 <|
 rg <| fe Tryz.func52 h
noncomputable def spec_BoxOk_k3 : List Item := posI 2000 3 [false] [.code spec_BoxOk_c]
noncomputable def spec_BoxOk_S2 (list : List TBox) (i : Int) : St := ⟨(vsl 2 eBox list :: (bs 2 (vi i :: (bs 32 [])))), [some []]⟩
noncomputable def spec_BoxOk_b1 (list : List TBox) (i : Int) : Option (Stp Bool Int Unit) :=
  (bif decide (i < (list.length : Int)) then
 ((idx list i).bind fun box =>
 (bif decide (box.Ver < 0) then
 some (Stp.ret false)
 else
 (bif decide (box.Ver > 1000000) then
 some (Stp.ret false)
 else
 ((spec_l1Num box.Val).bind fun l1Num =>
 (bif (!l1Num) then
 some (Stp.ret false)
 else
 some (Stp.nxt (w64 (i + 1))))))))
 else
 some (Stp.brk ()))
theorem spec_BoxOk_b1_ok (list : List TBox) (res : V) (outs : List (Option V)) (x1 : Exc Bool Unit) (hb1 : HB cx spec_BoxOk_X res outs x1 spec_BoxOk_k1 (fun s => spec_BoxOk_S1)) (hr1 : HR res outs x1 spec_BoxOk_R spec_BoxOk_O) (st1 : Stp Bool Int Unit) (hc1 : Cont x1 (fun s : Int => Fin cx spec_BoxOk_X res outs spec_BoxOk_k3 (spec_BoxOk_S2 list s)) st1) (i : Int) (h : spec_BoxOk_b1 list i = some st1) : Fin cx spec_BoxOk_X res outs spec_BoxOk_k3 (spec_BoxOk_S2 list i) :=
  P0 <|
 rg <| cdD 3 h (fun h =>
 rg <| ixS eBox 2 h fun box hbox h =>
 cdD 6 h (fun h =>
 rg <| (retD h hc1 fun e => fn0 Tryz.func52 (hr1 _ e))) (fun h =>
 ixR eBox 9 hbox <| cdD 14 h (fun h =>
 rg <| (retD h hc1 fun e => fn0 Tryz.func52 (hr1 _ e))) (fun h =>
 ixR eBox 17 hbox <| cb spec_l1Num_t spec_l1Num_ok 20 false h fun l1Num h =>
 cdD 22 h (fun h =>
 rg <| (retD h hc1 fun e => fn0 Tryz.func52 (hr1 _ e))) (fun h =>
 rg <| (nxtD h hc1 fun hI => sg [] [0, 3] [] hI))))) (fun h =>
 (brkD h hc1 fun e => sg [] [] [] (hb1 _ e)))
noncomputable def spec_BoxOk (list : List TBox) : Option Bool :=
  (bif ((list.length : Int) != 4) then
 some false
 else
 ((loop (fun s : Int => spec_BoxOk_b1 list s) 0).bind fun x => x.go (fun r => some r) fun s => spec_BoxOk_k2))
theorem spec_BoxOk_ok {list : List TBox} (r : Bool) (h : spec_BoxOk list = some r) : ACalls cx.P 52 [vsl 2 eBox list] (spec_BoxOk_R r) (spec_BoxOk_O r) :=
  ACalls.of (cx := cx) (X := spec_BoxOk_X) (c := spec_BoxOk_c) Tryz.func52 (by kernel_rfl) (by kernel_rfl) (by kernel_rfl) (P0 <|
 rg2 <| cdD 2 h (fun h =>
 rg <| fe Tryz.func52 h) (fun h =>
 rg <| loopJ h fun x hl hr hb => sg [] [0, 3] [] (loopD (I := fun s : Int => Fin cx spec_BoxOk_X (spec_BoxOk_R r) (spec_BoxOk_O r) spec_BoxOk_k3 (spec_BoxOk_S2 list s)) hl fun s st h hc => spec_BoxOk_b1_ok list _ _ x (fun s e => spec_BoxOk_k2_ok r (hb s e)) (fun v e => ⟨congrArg spec_BoxOk_R (Option.some.inj (hr v e)).symm, congrArg spec_BoxOk_O (Option.some.inj (hr v e)).symm⟩) st hc s h)))

/-! ### spec_ExecFresh -/
noncomputable def spec_ExecFresh_c : Code := bodyOf Tryz.f95
noncomputable def spec_ExecFresh_X : Sig := { f := 95, fn := Tryz.f95, rms := [.val [] []], oms := [none, none] }
noncomputable def spec_ExecFresh_R (r : Bool) : V := .b r
noncomputable def spec_ExecFresh_O (r : Bool) : List (Option V) := [none, none]
noncomputable def spec_ExecFresh_t (i : Nat) (fr : Bool) (r : Bool) : Nat × Tell := (i, { a := .call [.val [some 2] [], .val ck73 []] fr (spec_ExecFresh_R r) (spec_ExecFresh_O r) })
noncomputable def spec_ExecFresh_k1 : List Item := posI 2000 4 [false, false] [.code spec_ExecFresh_c]
noncomputable def spec_ExecFresh_S1 : St := ⟨(bs 38 []), [some []]⟩
noncomputable def spec_ExecFresh_k2 : Option Bool :=
  some true
theorem spec_ExecFresh_k2_ok (r : Bool) (h : spec_ExecFresh_k2 = some r) : Fin cx spec_ExecFresh_X (spec_ExecFresh_R r) (spec_ExecFresh_O r) spec_ExecFresh_k1 (spec_ExecFresh_S1) :=
  P0 <|
 rg <| fe Tryz.func95 h
noncomputable def spec_ExecFresh_k3 : List Item := posI 2000 3 [false] [.code spec_ExecFresh_c]
noncomputable def spec_ExecFresh_S2 (list : List TBox) (r_ : TRun) (i : Int) : St := ⟨(vsl 2 eBox list :: (bs 2 (.ptr 1 0 0 :: (bs 1 (vi i :: (bs 32 [])))))), [some [], some [.var 73 [vsl 2 eRead r_.Reads, vsl 2 ePut r_.Puts, vi r_.Val, vi r_.Code]]]⟩
noncomputable def spec_ExecFresh_b1 (list : List TBox) (r_ : TRun) (i : Int) : Option (Stp Bool Int Unit) :=
  (bif decide (i < (r_.Reads.length : Int)) then
 ((idx r_.Reads i).bind fun read =>
 ((idx list read.Box).bind fun box =>
 (bif (box.Ver != read.Ver) then
 some (Stp.ret false)
 else
 some (Stp.nxt (w64 (i + 1))))))
 else
 some (Stp.brk ()))
theorem spec_ExecFresh_b1_ok (list : List TBox) (r_ : TRun) (res : V) (outs : List (Option V)) (x1 : Exc Bool Unit) (hb1 : HB cx spec_ExecFresh_X res outs x1 spec_ExecFresh_k1 (fun s => spec_ExecFresh_S1)) (hr1 : HR res outs x1 spec_ExecFresh_R spec_ExecFresh_O) (st1 : Stp Bool Int Unit) (hc1 : Cont x1 (fun s : Int => Fin cx spec_ExecFresh_X res outs spec_ExecFresh_k3 (spec_ExecFresh_S2 list r_ s)) st1) (i : Int) (h : spec_ExecFresh_b1 list r_ i = some st1) : Fin cx spec_ExecFresh_X res outs spec_ExecFresh_k3 (spec_ExecFresh_S2 list r_ i) :=
  P0 <|
 rg <| cdD 4 h (fun h =>
 rg <| ixS eRead 4 h fun read hread h =>
 ixS eBox 7 h fun box hbox h =>
 ixR eRead 13 hread <| cdD 16 h (fun h =>
 rg <| (retD h hc1 fun e => fn0 Tryz.func95 (hr1 _ e))) (fun h =>
 rg <| (nxtD h hc1 fun hI => sg [] [0, 3, 5] [(1, 0)] hI))) (fun h =>
 (brkD h hc1 fun e => sg [] [] [] (hb1 _ e)))
noncomputable def spec_ExecFresh (list : List TBox) (r_ : TRun) : Option Bool :=
  ((spec_BoxOk list).bind fun boxOk =>
 (bif (!boxOk) then
 some false
 else
 ((spec_ExecOk r_).bind fun execOk =>
 (bif (!execOk) then
 some false
 else
 ((loop (fun s : Int => spec_ExecFresh_b1 list r_ s) 0).bind fun x => x.go (fun r => some r) fun s => spec_ExecFresh_k2)))))
theorem spec_ExecFresh_ok {list : List TBox} {r_ : TRun} (r : Bool) (h : spec_ExecFresh list r_ = some r) : ACalls cx.P 95 [vsl 2 eBox list, .agg (eRun r_)] (spec_ExecFresh_R r) (spec_ExecFresh_O r) :=
  ACalls.of (cx := cx) (X := spec_ExecFresh_X) (c := spec_ExecFresh_c) Tryz.func95 (by kernel_rfl) (by kernel_rfl) (by kernel_rfl) (P0 <|
 rg2 <| cb spec_BoxOk_t spec_BoxOk_ok 1 false h fun boxOk h =>
 cdD 3 h (fun h =>
 rg <| fe Tryz.func95 h) (fun h =>
 cb spec_ExecOk_t spec_ExecOk_ok 5 false h fun execOk h =>
 cdD 7 h (fun h =>
 rg <| fe Tryz.func95 h) (fun h =>
 rg <| loopJ h fun x hl hr hb => sg [] [0, 3, 5] [(1, 0)] (loopD (I := fun s : Int => Fin cx spec_ExecFresh_X (spec_ExecFresh_R r) (spec_ExecFresh_O r) spec_ExecFresh_k3 (spec_ExecFresh_S2 list r_ s)) hl fun s st h hc => spec_ExecFresh_b1_ok list r_ _ _ x (fun s e => spec_ExecFresh_k2_ok r (hb s e)) (fun v e => ⟨congrArg spec_ExecFresh_R (Option.some.inj (hr v e)).symm, congrArg spec_ExecFresh_O (Option.some.inj (hr v e)).symm⟩) st hc s h))))

/-! ### spec_l1Min -/
noncomputable def spec_l1Min_c : Code := bodyOf Tryz.f134
noncomputable def spec_l1Min_X : Sig := { f := 134, fn := Tryz.f134, rms := [.val [] []], oms := [none, none] }
noncomputable def spec_l1Min_R (r : Int) : V := vi r
noncomputable def spec_l1Min_O (r : Int) : List (Option V) := [none, none]
noncomputable def spec_l1Min_t (i : Nat) (fr : Bool) (r : Int) : Nat × Tell := (i, { a := .call [.val [] [], .val [] []] fr (spec_l1Min_R r) (spec_l1Min_O r) })
noncomputable def spec_l1Min (a : Int) (b : Int) : Option Int :=
  (bif decide (a < b) then
 some a
 else
 some b)
theorem spec_l1Min_ok {a : Int} {b : Int} (r : Int) (h : spec_l1Min a b = some r) : ACalls cx.P 134 [vi a, vi b] (spec_l1Min_R r) (spec_l1Min_O r) :=
  ACalls.of (cx := cx) (X := spec_l1Min_X) (c := spec_l1Min_c) Tryz.func134 (by kernel_rfl) (by kernel_rfl) (by kernel_rfl) (P0 <|
 rg2 <| cdD 2 h (fun h =>
 rg <| fe Tryz.func134 h) (fun h =>
 rg <| fe Tryz.func134 h))

/-! ### spec_l3Do -/
noncomputable def spec_l3Do_c : Code := bodyOf Tryz.f96
noncomputable def spec_l3Do_X : Sig := { f := 96, fn := Tryz.f96, rms := [.val [some 2] [some 128]], oms := [none, none] }
noncomputable def spec_l3Do_R (r : List TBox) : V := vosl 128 2 eBox r
noncomputable def spec_l3Do_O (r : List TBox) : List (Option V) := [none, none]
noncomputable def spec_l3Do_t (i : Nat) (fr : Bool) (r : List TBox) : Nat × Tell := (i, { a := .call [.val [some 2] [some 128], .val ck73 []] fr (spec_l3Do_R r) (spec_l3Do_O r) })
noncomputable def spec_l3Do_k1 : List Item := posI 2000 3 [false] [.code spec_l3Do_c]
noncomputable def spec_l3Do_S1 (list2 : List TBox) : St := ⟨(.own 0 0 2 0 list2.length :: (bs 37 [])), [some [erow 128 2 eBox list2]]⟩
noncomputable def spec_l3Do_k2 (list2 : List TBox) : Option (List TBox) :=
  some list2
theorem spec_l3Do_k2_ok (r : List TBox) (list2 : List TBox) (h : spec_l3Do_k2 list2 = some r) : Fin cx spec_l3Do_X (spec_l3Do_R r) (spec_l3Do_O r) spec_l3Do_k1 (spec_l3Do_S1 list2) :=
  P0 <|
 rg <| om (list2.length = list2.length) rfl <| fe Tryz.func96 h
noncomputable def spec_l3Do_k3 : List Item := posI 2000 2 [] [.code spec_l3Do_c]
noncomputable def spec_l3Do_S2 (r_ : TRun) (list1 : List TBox) (i : Int) : St := ⟨(.own 0 0 2 0 list1.length :: (bs 2 (.ptr 1 0 0 :: (bs 1 (vi i :: (bs 32 [])))))), [some [erow 128 2 eBox list1], some [.var 73 [vsl 2 eRead r_.Reads, vsl 2 ePut r_.Puts, vi r_.Val, vi r_.Code]]]⟩
noncomputable def spec_l3Do_b1 (r_ : TRun) (list1 : List TBox) (i : Int) : Option (Stp (List TBox) ((List TBox) × Int) (List TBox)) :=
  (bif decide (i < (r_.Puts.length : Int)) then
 ((idx r_.Puts i).bind fun put =>
 ((idx list1 put.Box).bind fun box =>
 ((spec_l1Min 1000000 (w64 (box.Ver + 1))).bind fun l1Min =>
 some (Stp.nxt (list1.set put.Box.toNat (TBox.mk l1Min put.Val), w64 (i + 1))))))
 else
 some (Stp.brk list1))
theorem spec_l3Do_b1_ok (r_ : TRun) (res : V) (outs : List (Option V)) (x1 : Exc (List TBox) (List TBox)) (hb1 : HB cx spec_l3Do_X res outs x1 spec_l3Do_k1 spec_l3Do_S1) (hr1 : HR res outs x1 spec_l3Do_R spec_l3Do_O) (st1 : Stp (List TBox) ((List TBox) × Int) (List TBox)) (hc1 : Cont x1 (fun s : (List TBox) × Int => Fin cx spec_l3Do_X res outs spec_l3Do_k3 (spec_l3Do_S2 r_ s.1 s.2)) st1) (list1 : List TBox) (i : Int) (h : spec_l3Do_b1 r_ list1 i = some st1) : Fin cx spec_l3Do_X res outs spec_l3Do_k3 (spec_l3Do_S2 r_ list1 i) :=
  P0 <|
 rg <| cdD 4 h (fun h =>
 rg <| ixS ePut 3 h fun put hput h =>
 rg <| bindD h fun box hbox h =>
 ixB hbox <| ldR eBox 6 hbox <| cb spec_l1Min_t spec_l1Min_ok 8 false h fun l1Min h =>
 ixR ePut 12 hput <| ixB hbox <| stR 128 2 eBox 17 [] (TBox.mk l1Min put.Val) hbox <| rg <| (nxtD h hc1 fun hI => om ((.own 0 0 2 0 list1.length : V) = .own 0 0 2 0 (list1.set put.Box.toNat (TBox.mk l1Min put.Val)).length) (by simp) <| sg [.is (.tmp 0) (.own 0 0 2 0 (list1.set put.Box.toNat (TBox.mk l1Min put.Val)).length)] [0, 3, 5] [(1, 0)] hI)) (fun h =>
 (brkD h hc1 fun e => sg [] [0] [] (hb1 _ e)))
noncomputable def spec_l3Do (list : List TBox) (r_ : TRun) : Option (List TBox) :=
  ((loop (fun s : (List TBox) × Int => spec_l3Do_b1 r_ s.1 s.2) (list, 0)).bind fun x => x.go (fun r => some r) fun s => spec_l3Do_k2 s)
theorem spec_l3Do_ok {list : List TBox} {r_ : TRun} (r : List TBox) (h : spec_l3Do list r_ = some r) : ACalls cx.P 96 [vosl 128 2 eBox list, .agg (eRun r_)] (spec_l3Do_R r) (spec_l3Do_O r) :=
  ACalls.of (cx := cx) (X := spec_l3Do_X) (c := spec_l3Do_c) Tryz.func96 (by kernel_rfl) (by kernel_rfl) (by kernel_rfl) (P0 <|
 rg2 <| loopJ h fun x hl hr hb => sg [] [0, 3, 5] [(1, 0)] (loopD (I := fun s : (List TBox) × Int => Fin cx spec_l3Do_X (spec_l3Do_R r) (spec_l3Do_O r) spec_l3Do_k3 (spec_l3Do_S2 r_ s.1 s.2)) hl fun s st h hc => spec_l3Do_b1_ok r_ _ _ x (fun s e => spec_l3Do_k2_ok r s (hb s e)) (fun v e => ⟨congrArg spec_l3Do_R (Option.some.inj (hr v e)).symm, congrArg spec_l3Do_O (Option.some.inj (hr v e)).symm⟩) st hc s.1 s.2 h))

/-! ### spec_l5Put -/
noncomputable def spec_l5Put_c : Code := bodyOf Tryz.f97
noncomputable def spec_l5Put_X : Sig := { f := 97, fn := Tryz.f97, rms := [.val [some 4] []], oms := [none, none] }
noncomputable def spec_l5Put_R (r : List TDone) : V := vsl 4 eDone r
noncomputable def spec_l5Put_O (r : List TDone) : List (Option V) := [none, none]
noncomputable def spec_l5Put_t (i : Nat) (fr : Bool) (r : List TDone) : Nat × Tell := (i, { a := .call [.val [some 4] [], .val [] []] fr (spec_l5Put_R r) (spec_l5Put_O r) })
noncomputable def spec_l5Put_k1 : List Item := posI 2000 5 [false] [.code spec_l5Put_c]
noncomputable def spec_l5Put_S1 (d : TDone) (out1 : List TDone) (in_1 : Bool) : St := ⟨(bs 3 (.ptr 1 0 0 :: (bs 1 (.own 2 0 4 0 out1.length :: (.b in_1 :: (bs 50 [])))))), [some [], some [.var 160 [vi d.Req.Who, vi d.Req.Seq, vi d.Code, vi d.Val]], some [erow 160 4 eDone out1]]⟩
noncomputable def spec_l5Put_k2 : List Item := posI 2000 7 [false, true] [.code spec_l5Put_c]
noncomputable def spec_l5Put_S2 (out2 : List TDone) : St := ⟨(bs 5 (.own 1 0 4 0 out2.length :: (bs 51 []))), [some [], some [erow 160 4 eDone out2]]⟩
noncomputable def spec_l5Put_j1 (out2 : List TDone) : Option (List TDone) :=
  some out2
theorem spec_l5Put_j1_ok (r : List TDone) (out2 : List TDone) (h : spec_l5Put_j1 out2 = some r) : Fin cx spec_l5Put_X (spec_l5Put_R r) (spec_l5Put_O r) spec_l5Put_k2 (spec_l5Put_S2 out2) :=
  P0 <|
 rg <| om (out2.length = out2.length) rfl <| fe Tryz.func97 h
noncomputable def spec_l5Put_k3 (d : TDone) (out1 : List TDone) (in_1 : Bool) : Option (List TDone) :=
  (((bif (!in_1) then
 (need ((out1.length + 1) * 32 ≤ 140737488355328)
 (some (Exc.brk (out1 ++ [d]))))
 else
 some (Exc.brk out1)) : Option (Exc (List TDone) (List TDone))).bind fun x => x.go some fun j => spec_l5Put_j1 j)
theorem spec_l5Put_k3_ok (d : TDone) (r : List TDone) (out1 : List TDone) (in_1 : Bool) (h : spec_l5Put_k3 d out1 in_1 = some r) : Fin cx spec_l5Put_X (spec_l5Put_R r) (spec_l5Put_O r) spec_l5Put_k1 (spec_l5Put_S1 d out1 in_1) :=
  P0 <|
 joinD (I := fun j : List TDone => Fin cx spec_l5Put_X (spec_l5Put_R r) (spec_l5Put_O r) spec_l5Put_k2 (spec_l5Put_S2 j)) h (fun j h => spec_l5Put_j1_ok r j h) (fun x1 h hc1 =>
  rg <| cdD 1 h (fun h =>
 rg <| tl (2, { a := .ck [] }) <| needD h fun e1 h =>
 apS 3 8 160 4 32 eDone out1 d e1 <| om (1 = [d].length) (by rfl) <| (jbrkD h hc1 fun hI => sg [] [5] [(8, 0)] hI)) (fun h =>
 (jbrkD h hc1 fun hI => sg [] [5] [(2, 0)] hI)))
noncomputable def spec_l5Put_k4 : List Item := posI 2000 4 [] [.code spec_l5Put_c]
noncomputable def spec_l5Put_S3 (list : List TDone) (d : TDone) (out : List TDone) (in_ : Bool) (i : Int) : St := ⟨(vsl 4 eDone list :: (bs 2 (.ptr 1 0 0 :: (bs 1 (.own 2 0 4 0 out.length :: (.b in_ :: (vi i :: (bs 49 [])))))))), [some [], some [.var 160 [vi d.Req.Who, vi d.Req.Seq, vi d.Code, vi d.Val]], some [erow 160 4 eDone out]]⟩
noncomputable def spec_l5Put_k5 : List Item := posI 2000 8 [true, true] [.code spec_l5Put_c]
noncomputable def spec_l5Put_S4 (list : List TDone) (d : TDone) (i : Int) (out3 : List TDone) (in_2 : Bool) : St := ⟨(vsl 4 eDone list :: (bs 2 (.ptr 1 0 0 :: (bs 1 (.own 2 0 4 0 out3.length :: (.b in_2 :: (vi i :: (bs 49 [])))))))), [some [], some [.var 160 [vi d.Req.Who, vi d.Req.Seq, vi d.Code, vi d.Val]], some [erow 160 4 eDone out3]]⟩
noncomputable def spec_l5Put_k6 : List Item := posI 2000 10 [true, true, true] [.code spec_l5Put_c]
noncomputable def spec_l5Put_S5 (list : List TDone) (d : TDone) (i : Int) (in_2 : Bool) (out4 : List TDone) : St := ⟨(vsl 4 eDone list :: (bs 2 (.ptr 1 0 0 :: (bs 1 (.own 2 0 4 0 out4.length :: (.b in_2 :: (vi i :: (bs 49 [])))))))), [some [], some [.var 160 [vi d.Req.Who, vi d.Req.Seq, vi d.Code, vi d.Val]], some [erow 160 4 eDone out4]]⟩
noncomputable def spec_l5Put_j2 (i : Int) (in_2 : Bool) (out4 : List TDone) : Option (Stp (List TDone) ((List TDone) × Bool × Int) ((List TDone) × Bool)) :=
  some (Stp.nxt (out4, in_2, w64 (i + 1)))
theorem spec_l5Put_j2_ok (list : List TDone) (d : TDone) (i : Int) (in_2 : Bool) (res : V) (outs : List (Option V)) (x1 : Exc (List TDone) ((List TDone) × Bool)) (hb1 : HB cx spec_l5Put_X res outs x1 spec_l5Put_k1 (fun s => spec_l5Put_S1 d s.1 s.2)) (hr1 : HR res outs x1 spec_l5Put_R spec_l5Put_O) (st1 : Stp (List TDone) ((List TDone) × Bool × Int) ((List TDone) × Bool)) (hc1 : Cont x1 (fun s : (List TDone) × Bool × Int => Fin cx spec_l5Put_X res outs spec_l5Put_k4 (spec_l5Put_S3 list d s.1 s.2.1 s.2.2)) st1) (out4 : List TDone) (h : spec_l5Put_j2 i in_2 out4 = some st1) : Fin cx spec_l5Put_X res outs spec_l5Put_k6 (spec_l5Put_S5 list d i in_2 out4) :=
  P0 <|
 rg <| (nxtD h hc1 fun hI => sg [] [0, 3, 5, 6, 7] [(1, 0), (2, 0)] hI)
noncomputable def spec_l5Put_j3 (list : List TDone) (d : TDone) (i : Int) (out3 : List TDone) (in_2 : Bool) : Option (Stp (List TDone) ((List TDone) × Bool × Int) ((List TDone) × Bool)) :=
  ((((idx list i).bind fun done =>
 (bif (done.Req.Who != d.Req.Who) then
 (need ((out3.length + 1) * 32 ≤ 140737488355328)
 (some (Exc.brk (out3 ++ [done]))))
 else
 some (Exc.brk out3))) : Option (Exc (Stp (List TDone) ((List TDone) × Bool × Int) ((List TDone) × Bool)) (List TDone))).bind fun x => x.go some fun j => spec_l5Put_j2 i in_2 j)
theorem spec_l5Put_j3_ok (list : List TDone) (d : TDone) (i : Int) (res : V) (outs : List (Option V)) (x1 : Exc (List TDone) ((List TDone) × Bool)) (hb1 : HB cx spec_l5Put_X res outs x1 spec_l5Put_k1 (fun s => spec_l5Put_S1 d s.1 s.2)) (hr1 : HR res outs x1 spec_l5Put_R spec_l5Put_O) (st1 : Stp (List TDone) ((List TDone) × Bool × Int) ((List TDone) × Bool)) (hc1 : Cont x1 (fun s : (List TDone) × Bool × Int => Fin cx spec_l5Put_X res outs spec_l5Put_k4 (spec_l5Put_S3 list d s.1 s.2.1 s.2.2)) st1) (out3 : List TDone) (in_2 : Bool) (h : spec_l5Put_j3 list d i out3 in_2 = some st1) : Fin cx spec_l5Put_X res outs spec_l5Put_k5 (spec_l5Put_S4 list d i out3 in_2) :=
  P0 <|
 joinD (I := fun j : List TDone => Fin cx spec_l5Put_X res outs spec_l5Put_k6 (spec_l5Put_S5 list d i in_2 j)) h (fun j h => spec_l5Put_j2_ok list d i in_2 res outs x1 hb1 hr1 st1 hc1 j h) (fun x2 h hc2 =>
  rg <| ixS eDone 2 h fun done hdone h =>
 cdD 9 h (fun h =>
 rg <| ixR eDone 3 hdone <| tl (5, { a := .ck [] }) <| needD h fun e2 h =>
 apS 6 19 160 4 32 eDone out3 done e2 <| om (1 = [done].length) (by rfl) <| (jbrkD h hc2 fun hI => sg [] [0, 3, 5, 6, 7] [(1, 0), (19, 0)] hI)) (fun h =>
 (jbrkD h hc2 fun hI => sg [] [0, 3, 5, 6, 7] [(1, 0), (2, 0)] hI)))
noncomputable def spec_l5Put_b1 (list : List TDone) (d : TDone) (out : List TDone) (in_ : Bool) (i : Int) : Option (Stp (List TDone) ((List TDone) × Bool × Int) ((List TDone) × Bool)) :=
  (bif decide (i < (list.length : Int)) then
 (((bif (!in_) then
 ((idx list i).bind fun done1 =>
 (bif decide (done1.Req.Who ≥ d.Req.Who) then
 (need ((out.length + 1) * 32 ≤ 140737488355328)
 (some (Exc.brk (out ++ [d], true))))
 else
 some (Exc.brk (out, in_))))
 else
 some (Exc.brk (out, in_))) : Option (Exc (Stp (List TDone) ((List TDone) × Bool × Int) ((List TDone) × Bool)) ((List TDone) × Bool))).bind fun x => x.go some fun j => spec_l5Put_j3 list d i j.1 j.2)
 else
 some (Stp.brk (out, in_)))
theorem spec_l5Put_b1_ok (list : List TDone) (d : TDone) (res : V) (outs : List (Option V)) (x1 : Exc (List TDone) ((List TDone) × Bool)) (hb1 : HB cx spec_l5Put_X res outs x1 spec_l5Put_k1 (fun s => spec_l5Put_S1 d s.1 s.2)) (hr1 : HR res outs x1 spec_l5Put_R spec_l5Put_O) (st1 : Stp (List TDone) ((List TDone) × Bool × Int) ((List TDone) × Bool)) (hc1 : Cont x1 (fun s : (List TDone) × Bool × Int => Fin cx spec_l5Put_X res outs spec_l5Put_k4 (spec_l5Put_S3 list d s.1 s.2.1 s.2.2)) st1) (out : List TDone) (in_ : Bool) (i : Int) (h : spec_l5Put_b1 list d out in_ i = some st1) : Fin cx spec_l5Put_X res outs spec_l5Put_k4 (spec_l5Put_S3 list d out in_ i) :=
  P0 <|
 rg <| cdD 3 h (fun h =>
 joinD (I := fun j : (List TDone) × Bool => Fin cx spec_l5Put_X res outs spec_l5Put_k5 (spec_l5Put_S4 list d i j.1 j.2)) h (fun j h => spec_l5Put_j3_ok list d i res outs x1 hb1 hr1 st1 hc1 j.1 j.2 h) (fun x2 h hc2 =>
  rg <| cdD 2 h (fun h =>
 ixS eDone 5 h fun done1 hdone1 h =>
 cdD 13 h (fun h =>
 rg <| tl (2, { a := .ck [] }) <| needD h fun e3 h =>
 apS 3 24 160 4 32 eDone out d e3 <| om (1 = [d].length) (by rfl) <| rg <| (jbrkD h hc2 fun hI => sg [] [0, 3, 5, 6, 7] [(1, 0), (24, 0)] hI)) (fun h =>
 (jbrkD h hc2 fun hI => sg [] [0, 3, 5, 6, 7] [(1, 0), (2, 0)] hI))) (fun h =>
 (jbrkD h hc2 fun hI => sg [] [0, 3, 5, 6, 7] [(1, 0), (2, 0)] hI)))) (fun h =>
 (brkD h hc1 fun e => sg [] [3, 5, 6] [(1, 0), (2, 0)] (hb1 _ e)))
noncomputable def spec_l5Put (list : List TDone) (d : TDone) : Option (List TDone) :=
  ((loop (fun s : (List TDone) × Bool × Int => spec_l5Put_b1 list d s.1 s.2.1 s.2.2) (([] : List TDone), false, 0)).bind fun x => x.go (fun r => some r) fun s => spec_l5Put_k3 d s.1 s.2)
theorem spec_l5Put_ok {list : List TDone} {d : TDone} (r : List TDone) (h : spec_l5Put list d = some r) : ACalls cx.P 97 [vsl 4 eDone list, .agg (eDone d)] (spec_l5Put_R r) (spec_l5Put_O r) :=
  ACalls.of (cx := cx) (X := spec_l5Put_X) (c := spec_l5Put_c) Tryz.func97 (by kernel_rfl) (by kernel_rfl) (by kernel_rfl) (P0 <|
 rg2 <| tl (0, { a := .ck [] }) <| rg2 <| loopJ h fun x hl hr hb => om ((.own 3 0 4 0 0 : V) = .own 3 0 4 0 ([] : List TDone).length) (by simp) <| sg [.is (.tmp 5) (.own 3 0 4 0 ([] : List TDone).length)] [0, 3, 5, 6, 7] [(1, 0), (3, 0)] (loopD (I := fun s : (List TDone) × Bool × Int => Fin cx spec_l5Put_X (spec_l5Put_R r) (spec_l5Put_O r) spec_l5Put_k4 (spec_l5Put_S3 list d s.1 s.2.1 s.2.2)) hl fun s st h hc => spec_l5Put_b1_ok list d _ _ x (fun s e => spec_l5Put_k3_ok d r s.1 s.2 (hb s e)) (fun v e => ⟨congrArg spec_l5Put_R (Option.some.inj (hr v e)).symm, congrArg spec_l5Put_O (Option.some.inj (hr v e)).symm⟩) st hc s.1 s.2.1 s.2.2 h))

/-! ### spec_l5Apply -/
noncomputable def spec_l5Apply_c : Code := bodyOf Tryz.f50
noncomputable def spec_l5Apply_X : Sig := { f := 50, fn := Tryz.f50, rms := [.val [none, some 2, some 4] [none, some 128, none], .val [] []], oms := [none, none] }
noncomputable def spec_l5Apply_R (r : TState × Int) : V := .tup [.agg [vi r.1.At, vosl 128 2 eBox r.1.Boxes, vsl 4 eDone r.1.Dones], vi r.2]
noncomputable def spec_l5Apply_O (r : TState × Int) : List (Option V) := [none, none]
noncomputable def spec_l5Apply_t (i : Nat) (fr : Bool) (r : TState × Int) : Nat × Tell := (i, { a := .call [.val [none, some 2, some 4] [none, some 128, none], .val ck75 []] fr (spec_l5Apply_R r) (spec_l5Apply_O r) })
noncomputable def spec_l5Apply_k1 : List Item := posI 2000 6 [false, false, false] [.code spec_l5Apply_c]
noncomputable def spec_l5Apply_S1 (s_ : TState) (e_ : TEntry) : St := ⟨(bs 2 (.ptr 1 0 0 :: (.ptr 2 0 0 :: (.ptr 3 0 0 :: (bs 78 []))))), [some [erow 128 2 eBox s_.Boxes], some [.var 58 [vi (w64 (s_.At + 1)), .own 0 0 2 0 s_.Boxes.length, vsl 4 eDone s_.Dones]], some [.var 75 [.b e_.None, vi e_.Req.Who, vi e_.Req.Seq, vsl 2 eRead e_.Run.Reads, vsl 2 ePut e_.Run.Puts, vi e_.Run.Val, vi e_.Run.Code]], some [.var 58 [vi 0, .nil, .nil]]]⟩
noncomputable def spec_l5Apply_k2 : List Item := posI 2000 9 [false, false, false, true] [.code spec_l5Apply_c]
noncomputable def spec_l5Apply_S2 (s_ : TState) (e_ : TEntry) (dCode : Int) : St := ⟨(bs 2 (.ptr 1 0 0 :: (.ptr 2 0 0 :: (.ptr 3 0 0 :: (bs 3 (.ptr 4 0 0 :: (bs 74 []))))))), [some [erow 128 2 eBox s_.Boxes], some [.var 58 [vi (w64 (s_.At + 1)), .own 0 0 2 0 s_.Boxes.length, vsl 4 eDone s_.Dones]], some [.var 75 [.b e_.None, vi e_.Req.Who, vi e_.Req.Seq, vsl 2 eRead e_.Run.Reads, vsl 2 ePut e_.Run.Puts, vi e_.Run.Val, vi e_.Run.Code]], some [.var 58 [vi 0, .nil, .nil]], some [.var 160 [vi e_.Req.Who, vi e_.Req.Seq, vi dCode, vi 0]]]⟩
noncomputable def spec_l5Apply_k3 : List Item := posI 2000 13 [false, false, false, true, true] [.code spec_l5Apply_c]
noncomputable def spec_l5Apply_S3 (s_ : TState) (d : TDone) (Boxes : List TBox) : St := ⟨(bs 2 (.ptr 1 0 0 :: (bs 1 (.ptr 3 0 0 :: (bs 3 (.ptr 4 0 0 :: (bs 74 []))))))), [some [.dead], some [.var 58 [vi (w64 (s_.At + 1)), .own 2 0 2 0 Boxes.length, vsl 4 eDone s_.Dones]], some [erow 128 2 eBox Boxes], some [.var 58 [vi 0, .nil, .nil]], some [.var 160 [vi d.Req.Who, vi d.Req.Seq, vi d.Code, vi d.Val]]]⟩
noncomputable def spec_l5Apply_j1 (s_ : TState) (d : TDone) (Boxes : List TBox) : Option (TState × Int) :=
  ((spec_l5Put s_.Dones d).bind fun l5Put =>
 some ((TState.mk (w64 (s_.At + 1)) Boxes l5Put), d.Code))
theorem spec_l5Apply_j1_ok (s_ : TState) (r : TState × Int) (d : TDone) (Boxes : List TBox) (h : spec_l5Apply_j1 s_ d Boxes = some r) : Fin cx spec_l5Apply_X (spec_l5Apply_R r) (spec_l5Apply_O r) spec_l5Apply_k3 (spec_l5Apply_S3 s_ d Boxes) :=
  P0 <|
 rg <| cb spec_l5Put_t spec_l5Put_ok 3 false h fun l5Put h =>
 rg <| om (Boxes.length = Boxes.length) rfl <| fe Tryz.func50 h
noncomputable def spec_l5Apply_j2 (s_ : TState) (e_ : TEntry) (dCode : Int) : Option (TState × Int) :=
  (((bif (dCode == 2) then
 (bif (e_.Run.Code == 0) then
 ((spec_l3Do s_.Boxes e_.Run).bind fun l3Do =>
 some (Exc.brk ((TDone.mk e_.Req 0 e_.Run.Val), l3Do)))
 else
 some (Exc.brk ((TDone.mk e_.Req dCode 0), s_.Boxes)))
 else
 some (Exc.brk ((TDone.mk e_.Req dCode 0), s_.Boxes))) : Option (Exc (TState × Int) (TDone × List TBox))).bind fun x => x.go some fun j => spec_l5Apply_j1 s_ j.1 j.2)
theorem spec_l5Apply_j2_ok (s_ : TState) (e_ : TEntry) (r : TState × Int) (dCode : Int) (h : spec_l5Apply_j2 s_ e_ dCode = some r) : Fin cx spec_l5Apply_X (spec_l5Apply_R r) (spec_l5Apply_O r) spec_l5Apply_k2 (spec_l5Apply_S2 s_ e_ dCode) :=
  P0 <|
 joinD (I := fun j : TDone × List TBox => Fin cx spec_l5Apply_X (spec_l5Apply_R r) (spec_l5Apply_O r) spec_l5Apply_k3 (spec_l5Apply_S3 s_ j.1 j.2)) h (fun j h => spec_l5Apply_j1_ok s_ r j.1 j.2 h) (fun x1 h hc1 =>
  rg <| cdD 3 h (fun h =>
 cdD 8 h (fun h =>
 rg3 <| cb spec_l3Do_t spec_l3Do_ok 4 false h fun l3Do h =>
 om (s_.Boxes.length = s_.Boxes.length) rfl <| (jbrkD h hc1 fun hI => sg [] [2, 4, 8] [(1, 0), (25, 0), (3, 0), (4, 0)] hI)) (fun h =>
 (jbrkD h hc1 fun hI => sg [] [2, 4, 8] [(1, 0), (0, 0), (3, 0), (4, 0)] hI))) (fun h =>
 (jbrkD h hc1 fun hI => sg [] [2, 4, 8] [(1, 0), (0, 0), (3, 0), (4, 0)] hI)))
noncomputable def spec_l5Apply_j3 (s_ : TState) (e_ : TEntry) : Option (TState × Int) :=
  ((((spec_ExecFresh s_.Boxes e_.Run).bind fun execFresh =>
 (bif execFresh then
 some (Exc.brk 2)
 else
 some (Exc.brk 1))) : Option (Exc (TState × Int) Int)).bind fun x => x.go some fun j => spec_l5Apply_j2 s_ e_ j)
theorem spec_l5Apply_j3_ok (s_ : TState) (e_ : TEntry) (r : TState × Int) (h : spec_l5Apply_j3 s_ e_ = some r) : Fin cx spec_l5Apply_X (spec_l5Apply_R r) (spec_l5Apply_O r) spec_l5Apply_k1 (spec_l5Apply_S1 s_ e_) :=
  P0 <|
 rg <| joinD (I := fun j : Int => Fin cx spec_l5Apply_X (spec_l5Apply_R r) (spec_l5Apply_O r) spec_l5Apply_k2 (spec_l5Apply_S2 s_ e_ j)) h (fun j h => spec_l5Apply_j2_ok s_ e_ r j h) (fun x1 h hc1 =>
  rg <| cbE spec_ExecFresh_t spec_ExecFresh_ok h fun execFresh hexecFresh h =>
 cdT (spec_ExecFresh_t 4 true execFresh) h (fun _ h =>
 ob hexecFresh <| om (ScalR (spec_ExecFresh_R execFresh) ∧ ScalO (spec_ExecFresh_O execFresh)) ⟨rfl, scalO_none 2⟩ <| om (s_.Boxes.length = s_.Boxes.length) rfl <| rg <| (jbrkD h hc1 fun hI => sg [] [2, 3, 4, 8] [(1, 0), (2, 0), (3, 0), (7, 0)] hI)) (fun _ h =>
 ob hexecFresh <| om (ScalR (spec_ExecFresh_R execFresh) ∧ ScalO (spec_ExecFresh_O execFresh)) ⟨rfl, scalO_none 2⟩ <| om (s_.Boxes.length = s_.Boxes.length) rfl <| (jbrkD h hc1 fun hI => sg [] [2, 3, 4, 8] [(1, 0), (2, 0), (3, 0), (7, 0)] hI)))
noncomputable def spec_l5Apply (s_ : TState) (e_ : TEntry) : Option (TState × Int) :=
  (bif e_.None then
 some ((TState.mk (w64 (s_.At + 1)) s_.Boxes s_.Dones), 5)
 else
 ((spec_l5Last (TState.mk (w64 (s_.At + 1)) s_.Boxes s_.Dones) e_.Req.Who).bind fun l5Last =>
 (((bif l5Last.2 then
 (bif (([l5Last.1.Req.Who, l5Last.1.Req.Seq] : List Int) == [e_.Req.Who, e_.Req.Seq]) then
 some (Exc.ret ((TState.mk (w64 (s_.At + 1)) s_.Boxes s_.Dones), 3))
 else
 (bif l5Last.2 then
 (bif decide (l5Last.1.Req.Seq > e_.Req.Seq) then
 some (Exc.ret ((TState.mk (w64 (s_.At + 1)) s_.Boxes s_.Dones), 4))
 else
 some (Exc.brk ()))
 else
 some (Exc.brk ())))
 else
 (bif l5Last.2 then
 (bif decide (l5Last.1.Req.Seq > e_.Req.Seq) then
 some (Exc.ret ((TState.mk (w64 (s_.At + 1)) s_.Boxes s_.Dones), 4))
 else
 some (Exc.brk ()))
 else
 some (Exc.brk ()))) : Option (Exc (TState × Int) Unit)).bind fun x => x.go some fun j => spec_l5Apply_j3 s_ e_)))
theorem spec_l5Apply_ok {s_ : TState} {e_ : TEntry} (r : TState × Int) (h : spec_l5Apply s_ e_ = some r) : ACalls cx.P 50 [.agg [vi s_.At, vosl 128 2 eBox s_.Boxes, vsl 4 eDone s_.Dones], .agg (eEntry e_)] (spec_l5Apply_R r) (spec_l5Apply_O r) :=
  ACalls.of (cx := cx) (X := spec_l5Apply_X) (c := spec_l5Apply_c) Tryz.func50 (by kernel_rfl) (by kernel_rfl) (by kernel_rfl) (P0 <|
 rg3 <| cdD 1 h (fun h =>
 rg <| om (s_.Boxes.length = s_.Boxes.length) rfl <| fe Tryz.func50 h) (fun h =>
 rg <| cb spec_l5Last_t spec_l5Last_ok 4 true h fun l5Last h =>
 om (ScalR (spec_l5Last_R l5Last) ∧ ScalO (spec_l5Last_O l5Last)) ⟨(by simp [spec_l5Last_R, ScalR, ScalA, ScalC, V.simple, vi, vosl, eB, eDone, eI, eReq]), scalO_none 2⟩ <| om (s_.Boxes.length = s_.Boxes.length) rfl <| joinD (I := fun j : Unit => Fin cx spec_l5Apply_X (spec_l5Apply_R r) (spec_l5Apply_O r) spec_l5Apply_k1 (spec_l5Apply_S1 s_ e_)) h (fun j h => spec_l5Apply_j3_ok s_ e_ r h) (fun x1 h hc1 =>
  rg <| cdD 1 h (fun h =>
 cdD 8 h (fun h =>
 rg <| (jretD h hc1 fun h => om (s_.Boxes.length = s_.Boxes.length) rfl <| fe Tryz.func50 h)) (fun h =>
 rg <| cdD 1 h (fun h =>
 cdD 10 h (fun h =>
 rg <| (jretD h hc1 fun h => om (s_.Boxes.length = s_.Boxes.length) rfl <| fe Tryz.func50 h)) (fun h =>
 (jbrkD h hc1 fun hI => sg [] [2, 3, 4] [(1, 0), (2, 0), (3, 0)] hI))) (fun h =>
 (jbrkD h hc1 fun hI => sg [] [2, 3, 4] [(1, 0), (2, 0), (3, 0)] hI)))) (fun h =>
 rg <| cdD 1 h (fun h =>
 cdD 10 h (fun h =>
 rg <| (jretD h hc1 fun h => om (s_.Boxes.length = s_.Boxes.length) rfl <| fe Tryz.func50 h)) (fun h =>
 (jbrkD h hc1 fun hI => sg [] [2, 3, 4] [(1, 0), (2, 0), (3, 0)] hI))) (fun h =>
 (jbrkD h hc1 fun hI => sg [] [2, 3, 4] [(1, 0), (2, 0), (3, 0)] hI))))))

/-! ### spec_ToldDone -/
noncomputable def spec_ToldDone_c : Code := bodyOf Tryz.f15
noncomputable def spec_ToldDone_X : Sig := { f := 15, fn := Tryz.f15, rms := [.val [some 2] []], oms := [none] }
noncomputable def spec_ToldDone_R (r : List TReq) : V := vsl 2 eReq r
noncomputable def spec_ToldDone_O (r : List TReq) : List (Option V) := [none]
noncomputable def spec_ToldDone_t (i : Nat) (fr : Bool) (r : List TReq) : Nat × Tell := (i, { a := .call [.val [some 7] []] fr (spec_ToldDone_R r) (spec_ToldDone_O r) })
noncomputable def spec_ToldDone_k1 : List Item := posI 2000 6 [false, false] [.code spec_ToldDone_c]
noncomputable def spec_ToldDone_S1 (out1 : List TReq) : St := ⟨(bs 3 (.own 1 0 2 0 out1.length :: (bs 37 []))), [some [], some [erow 62 2 eReq out1]]⟩
noncomputable def spec_ToldDone_k2 (out1 : List TReq) : Option (List TReq) :=
  some out1
theorem spec_ToldDone_k2_ok (r : List TReq) (out1 : List TReq) (h : spec_ToldDone_k2 out1 = some r) : Fin cx spec_ToldDone_X (spec_ToldDone_R r) (spec_ToldDone_O r) spec_ToldDone_k1 (spec_ToldDone_S1 out1) :=
  P0 <|
 rg <| om (out1.length = out1.length) rfl <| fe Tryz.func15 h
noncomputable def spec_ToldDone_k3 : List Item := posI 2000 5 [false] [.code spec_ToldDone_c]
noncomputable def spec_ToldDone_S2 (list : List TEntry) (out : List TReq) (Boxes : List TBox) (i : Int) (sAt : Int) (sDones : List TDone) : St := ⟨(vsl 7 eEntry list :: (bs 2 (.own 1 0 2 0 out.length :: (.ptr 2 0 0 :: (vi i :: (bs 35 [])))))), [some [], some [erow 62 2 eReq out], some [.var 58 [vi sAt, .own 3 0 2 0 Boxes.length, vsl 4 eDone sDones]], some [erow 128 2 eBox Boxes]]⟩
noncomputable def spec_ToldDone_k4 : List Item := posI 2000 10 [false, true, true] [.code spec_ToldDone_c]
noncomputable def spec_ToldDone_S3 (list : List TEntry) (i : Int) (l5Apply : TState × Int) (out2 : List TReq) : St := ⟨(vsl 7 eEntry list :: (bs 2 (.own 1 0 2 0 out2.length :: (.ptr 2 0 0 :: (vi i :: (bs 35 [])))))), [some [], some [erow 62 2 eReq out2], some [.var 58 [vi l5Apply.1.At, .own 3 0 2 0 l5Apply.1.Boxes.length, vsl 4 eDone l5Apply.1.Dones]], some [erow 128 2 eBox l5Apply.1.Boxes]]⟩
noncomputable def spec_ToldDone_j1 (i : Int) (l5Apply : TState × Int) (out2 : List TReq) : Option (Stp (List TReq) ((List TReq) × (List TBox) × Int × Int × List TDone) (List TReq)) :=
  some (Stp.nxt (out2, l5Apply.1.Boxes, w64 (i + 1), l5Apply.1.At, l5Apply.1.Dones))
theorem spec_ToldDone_j1_ok (list : List TEntry) (i : Int) (l5Apply : TState × Int) (res : V) (outs : List (Option V)) (x1 : Exc (List TReq) (List TReq)) (hb1 : HB cx spec_ToldDone_X res outs x1 spec_ToldDone_k1 spec_ToldDone_S1) (hr1 : HR res outs x1 spec_ToldDone_R spec_ToldDone_O) (st1 : Stp (List TReq) ((List TReq) × (List TBox) × Int × Int × List TDone) (List TReq)) (hc1 : Cont x1 (fun s : (List TReq) × (List TBox) × Int × Int × List TDone => Fin cx spec_ToldDone_X res outs spec_ToldDone_k3 (spec_ToldDone_S2 list s.1 s.2.1 s.2.2.1 s.2.2.2.1 s.2.2.2.2)) st1) (out2 : List TReq) (h : spec_ToldDone_j1 i l5Apply out2 = some st1) : Fin cx spec_ToldDone_X res outs spec_ToldDone_k4 (spec_ToldDone_S3 list i l5Apply out2) :=
  P0 <|
 rg <| (nxtD h hc1 fun hI => sg [] [0, 3, 4, 5] [(1, 0), (2, 0), (3, 0)] hI)
noncomputable def spec_ToldDone_b1 (list : List TEntry) (out : List TReq) (Boxes : List TBox) (i : Int) (sAt : Int) (sDones : List TDone) : Option (Stp (List TReq) ((List TReq) × (List TBox) × Int × Int × List TDone) (List TReq)) :=
  (bif decide (i < (list.length : Int)) then
 ((idx list i).bind fun entry =>
 ((spec_l5Apply (TState.mk sAt Boxes sDones) entry).bind fun l5Apply =>
 (((bif (l5Apply.2 == 0) then
 (need ((out.length + 1) * 16 ≤ 140737488355328)
 (some (Exc.brk (out ++ [entry.Req]))))
 else
 some (Exc.brk out)) : Option (Exc (Stp (List TReq) ((List TReq) × (List TBox) × Int × Int × List TDone) (List TReq)) (List TReq))).bind fun x => x.go some fun j => spec_ToldDone_j1 i l5Apply j)))
 else
 some (Stp.brk out))
theorem spec_ToldDone_b1_ok (list : List TEntry) (res : V) (outs : List (Option V)) (x1 : Exc (List TReq) (List TReq)) (hb1 : HB cx spec_ToldDone_X res outs x1 spec_ToldDone_k1 spec_ToldDone_S1) (hr1 : HR res outs x1 spec_ToldDone_R spec_ToldDone_O) (st1 : Stp (List TReq) ((List TReq) × (List TBox) × Int × Int × List TDone) (List TReq)) (hc1 : Cont x1 (fun s : (List TReq) × (List TBox) × Int × Int × List TDone => Fin cx spec_ToldDone_X res outs spec_ToldDone_k3 (spec_ToldDone_S2 list s.1 s.2.1 s.2.2.1 s.2.2.2.1 s.2.2.2.2)) st1) (out : List TReq) (Boxes : List TBox) (i : Int) (sAt : Int) (sDones : List TDone) (h : spec_ToldDone_b1 list out Boxes i sAt sDones = some st1) : Fin cx spec_ToldDone_X res outs spec_ToldDone_k3 (spec_ToldDone_S2 list out Boxes i sAt sDones) :=
  P0 <|
 rg <| cdD 3 h (fun h =>
 rg <| ixS eEntry 3 h fun entry hentry h =>
 cb spec_l5Apply_t spec_l5Apply_ok 5 false h fun l5Apply h =>
 om (Boxes.length = Boxes.length) rfl <| rg <| joinD (I := fun j : List TReq => Fin cx spec_ToldDone_X res outs spec_ToldDone_k4 (spec_ToldDone_S3 list i l5Apply j)) h (fun j h => spec_ToldDone_j1_ok list i l5Apply res outs x1 hb1 hr1 st1 hc1 j h) (fun x2 h hc2 =>
  rg <| cdD 1 h (fun h =>
 rg <| ixR eEntry 3 hentry <| tl (6, { a := .ck [] }) <| needD h fun e1 h =>
 apS 7 31 62 2 16 eReq out entry.Req e1 <| om (1 = [entry.Req].length) (by rfl) <| (jbrkD h hc2 fun hI => sg [] [0, 3, 4, 5] [(31, 0), (2, 0), (13, 0)] hI)) (fun h =>
 (jbrkD h hc2 fun hI => sg [] [0, 3, 4, 5] [(1, 0), (2, 0), (13, 0)] hI)))) (fun h =>
 (brkD h hc1 fun e => sg [] [3] [(1, 0)] (hb1 _ e)))
noncomputable def spec_ToldDone (list : List TEntry) : Option (List TReq) :=
  ((spec_l8Known list).bind fun l8Known =>
 (bif (!l8Known) then
 some ([] : List TReq)
 else
 ((spec_CertOpen).bind fun certOpen =>
 ((loop (fun s : (List TReq) × (List TBox) × Int × Int × List TDone => spec_ToldDone_b1 list s.1 s.2.1 s.2.2.1 s.2.2.2.1 s.2.2.2.2) (([] : List TReq), certOpen.Boxes, 0, certOpen.At, certOpen.Dones)).bind fun x => x.go (fun r => some r) fun s => spec_ToldDone_k2 s))))
theorem spec_ToldDone_ok {list : List TEntry} (r : List TReq) (h : spec_ToldDone list = some r) : ACalls cx.P 15 [vsl 7 eEntry list] (spec_ToldDone_R r) (spec_ToldDone_O r) :=
  ACalls.of (cx := cx) (X := spec_ToldDone_X) (c := spec_ToldDone_c) Tryz.func15 (by kernel_rfl) (by kernel_rfl) (by kernel_rfl) (P0 <|
 rg2 <| tl (0, { a := .ck [] }) <| rg <| cb spec_l8Known_t spec_l8Known_ok 1 false h fun l8Known h =>
 cdD 2 h (fun h =>
 rg <| om (0 = ([] : List TReq).length) (by simp) <| fe Tryz.func15 h) (fun h =>
 rg <| cb spec_CertOpen_t spec_CertOpen_ok 0 false h fun certOpen h =>
 rg <| loopJ h fun x hl hr hb => om ((.own 2 0 2 0 0 : V) = .own 2 0 2 0 ([] : List TReq).length) (by simp) <| sg [.is (.tmp 3) (.own 2 0 2 0 ([] : List TReq).length)] [0, 3, 4, 5] [(2, 0), (8, 0), (7, 0)] (loopD (I := fun s : (List TReq) × (List TBox) × Int × Int × List TDone => Fin cx spec_ToldDone_X (spec_ToldDone_R r) (spec_ToldDone_O r) spec_ToldDone_k3 (spec_ToldDone_S2 list s.1 s.2.1 s.2.2.1 s.2.2.2.1 s.2.2.2.2)) hl fun s st h hc => spec_ToldDone_b1_ok list _ _ x (fun s e => spec_ToldDone_k2_ok r s (hb s e)) (fun v e => ⟨congrArg spec_ToldDone_R (Option.some.inj (hr v e)).symm, congrArg spec_ToldDone_O (Option.some.inj (hr v e)).symm⟩) st hc s.1 s.2.1 s.2.2.1 s.2.2.2.1 s.2.2.2.2 h)))

/-! ### spec_ToldProg -/
noncomputable def spec_ToldProg_c : Code := bodyOf Tryz.f51
noncomputable def spec_ToldProg_X : Sig := { f := 51, fn := Tryz.f51, rms := [.val [some 4] [], .val [] []], oms := [none, none] }
noncomputable def spec_ToldProg_R (r : (List TIns) × Bool) : V := .tup [vsl 4 eIns r.1, .b r.2]
noncomputable def spec_ToldProg_O (r : (List TIns) × Bool) : List (Option V) := [none, none]
noncomputable def spec_ToldProg_t (i : Nat) (fr : Bool) (r : (List TIns) × Bool) : Nat × Tell := (i, { a := .call [.val ck35 [], .val [] []] fr (spec_ToldProg_R r) (spec_ToldProg_O r) })
noncomputable def spec_ToldProg_k1 : List Item := posI 2000 3 [false] [.code spec_ToldProg_c]
noncomputable def spec_ToldProg_S1 : St := ⟨(bs 30 []), [some []]⟩
noncomputable def spec_ToldProg_k2 : Option ((List TIns) × Bool) :=
  some ([], false)
theorem spec_ToldProg_k2_ok (r : (List TIns) × Bool) (h : spec_ToldProg_k2 = some r) : Fin cx spec_ToldProg_X (spec_ToldProg_R r) (spec_ToldProg_O r) spec_ToldProg_k1 (spec_ToldProg_S1) :=
  P0 <|
 rg <| fe Tryz.func51 h
noncomputable def spec_ToldProg_k3 : List Item := posI 2000 2 [] [.code spec_ToldProg_c]
noncomputable def spec_ToldProg_S2 (w : TWorld) (q : TReq) (i : Int) : St := ⟨(bs 2 (.ptr 1 0 0 :: (.ptr 2 0 0 :: (bs 2 (vi i :: (bs 23 [])))))), [some [], some [.var 35 [vsl 27 eNode w.Nodes, vsl 13 eMsg w.Net, vsl 3 eAsked w.Asked, vsl 5 eTold w.Told]], some [.var 62 [vi q.Who, vi q.Seq]]]⟩
noncomputable def spec_ToldProg_b1 (w : TWorld) (q : TReq) (i : Int) : Option (Stp ((List TIns) × Bool) Int Unit) :=
  (bif decide (i < (w.Asked.length : Int)) then
 ((idx w.Asked i).bind fun asked =>
 (bif (([asked.Req.Who, asked.Req.Seq] : List Int) == [q.Who, q.Seq]) then
 (need ((([] : List TIns).length + asked.Prog.length) * 32 ≤ 140737488355328)
 (some (Stp.ret (([] : List TIns) ++ asked.Prog, true))))
 else
 some (Stp.nxt (w64 (i + 1)))))
 else
 some (Stp.brk ()))
theorem spec_ToldProg_b1_ok (w : TWorld) (q : TReq) (res : V) (outs : List (Option V)) (x1 : Exc ((List TIns) × Bool) Unit) (hb1 : HB cx spec_ToldProg_X res outs x1 spec_ToldProg_k1 (fun s => spec_ToldProg_S1)) (hr1 : HR res outs x1 spec_ToldProg_R spec_ToldProg_O) (st1 : Stp ((List TIns) × Bool) Int Unit) (hc1 : Cont x1 (fun s : Int => Fin cx spec_ToldProg_X res outs spec_ToldProg_k3 (spec_ToldProg_S2 w q s)) st1) (i : Int) (h : spec_ToldProg_b1 w q i = some st1) : Fin cx spec_ToldProg_X res outs spec_ToldProg_k3 (spec_ToldProg_S2 w q i) :=
  P0 <|
 rg <| cdD 4 h (fun h =>
 rg <| ixS eAsked 3 h fun asked hasked h =>
 cdD 7 h (fun h =>
 rg <| tl (0, { a := .ck [] }) <| ixR eAsked 4 hasked <| needD h fun e1 h =>
 om (V.own 23 0 4 0 (([] : List TIns).length + asked.Prog.length) = .own 23 0 4 0 (([] : List TIns) ++ asked.Prog).length) (by first | exact congrArg (V.own 23 0 4 0) List.length_append.symm | simp) <| om (Ent.row 142 4 (([] : List TIns).length + asked.Prog.length) (([] : List TIns).map eIns ++ asked.Prog.map eIns) = erow 142 4 eIns (([] : List TIns) ++ asked.Prog)) (by first | exact row_apps rfl rfl | simp [erow]) <| om (0 = ([] : List TIns).length) (by rfl) <| ob e1 <| tl (7, { v := some (.own 23 0 4 0 (([] : List TIns) ++ asked.Prog).length), e := some (erow 142 4 eIns (([] : List TIns) ++ asked.Prog)) }) <| (retD h hc1 fun e => om ((([] : List TIns) ++ asked.Prog).length = (([] : List TIns) ++ asked.Prog).length) rfl <| fn0 Tryz.func51 (hr1 _ e))) (fun h =>
 rg <| (nxtD h hc1 fun hI => sg [] [2, 3, 6] [(1, 0), (2, 0)] hI))) (fun h =>
 (brkD h hc1 fun e => sg [] [] [] (hb1 _ e)))
noncomputable def spec_ToldProg (w : TWorld) (q : TReq) : Option ((List TIns) × Bool) :=
  ((loop (fun s : Int => spec_ToldProg_b1 w q s) 0).bind fun x => x.go (fun r => some r) fun s => spec_ToldProg_k2)
theorem spec_ToldProg_ok {w : TWorld} {q : TReq} (r : (List TIns) × Bool) (h : spec_ToldProg w q = some r) : ACalls cx.P 51 [.agg (eWorld w), .agg (eReq q)] (spec_ToldProg_R r) (spec_ToldProg_O r) :=
  ACalls.of (cx := cx) (X := spec_ToldProg_X) (c := spec_ToldProg_c) Tryz.func51 (by kernel_rfl) (by kernel_rfl) (by kernel_rfl) (P0 <|
 rg2 <| loopJ h fun x hl hr hb => sg [] [2, 3, 6] [(1, 0), (2, 0)] (loopD (I := fun s : Int => Fin cx spec_ToldProg_X (spec_ToldProg_R r) (spec_ToldProg_O r) spec_ToldProg_k3 (spec_ToldProg_S2 w q s)) hl fun s st h hc => spec_ToldProg_b1_ok w q _ _ x (fun s e => spec_ToldProg_k2_ok r (hb s e)) (fun v e => ⟨congrArg spec_ToldProg_R (Option.some.inj (hr v e)).symm, congrArg spec_ToldProg_O (Option.some.inj (hr v e)).symm⟩) st hc s h))

/-! ### spec_l10Progs -/
noncomputable def spec_l10Progs_c : Code := bodyOf Tryz.f16
noncomputable def spec_l10Progs_X : Sig := { f := 16, fn := Tryz.f16, rms := [.val [some 1] [], .val [] []], oms := [none, none] }
noncomputable def spec_l10Progs_R (r : (List (List TIns)) × Bool) : V := .tup [vsl 1 eInsS r.1, .b r.2]
noncomputable def spec_l10Progs_O (r : (List (List TIns)) × Bool) : List (Option V) := [none, none]
noncomputable def spec_l10Progs_t (i : Nat) (fr : Bool) (r : (List (List TIns)) × Bool) : Nat × Tell := (i, { a := .call [.val ck35 [], .val [some 2] []] fr (spec_l10Progs_R r) (spec_l10Progs_O r) })
noncomputable def spec_l10Progs_k1 : List Item := posI 2000 4 [false] [.code spec_l10Progs_c]
noncomputable def spec_l10Progs_S1 (out1 : List (List TIns)) : St := ⟨(bs 6 (.own 1 0 1 0 out1.length :: (bs 26 []))), [some [], some [erow 67 1 eInsS out1]]⟩
noncomputable def spec_l10Progs_k2 (out1 : List (List TIns)) : Option ((List (List TIns)) × Bool) :=
  some (out1, true)
theorem spec_l10Progs_k2_ok (r : (List (List TIns)) × Bool) (out1 : List (List TIns)) (h : spec_l10Progs_k2 out1 = some r) : Fin cx spec_l10Progs_X (spec_l10Progs_R r) (spec_l10Progs_O r) spec_l10Progs_k1 (spec_l10Progs_S1 out1) :=
  P0 <|
 rg <| om (out1.length = out1.length) rfl <| fe Tryz.func16 h
noncomputable def spec_l10Progs_k3 : List Item := posI 2000 3 [] [.code spec_l10Progs_c]
noncomputable def spec_l10Progs_S2 (w : TWorld) (list : List TReq) (out : List (List TIns)) (i : Int) : St := ⟨(bs 1 (vsl 2 eReq list :: (.ptr 1 0 0 :: (bs 3 (.own 2 0 1 0 out.length :: (vi i :: (bs 25 []))))))), [some [], some [.var 35 [vsl 27 eNode w.Nodes, vsl 13 eMsg w.Net, vsl 3 eAsked w.Asked, vsl 5 eTold w.Told]], some [erow 67 1 eInsS out]]⟩
noncomputable def spec_l10Progs_b1 (w : TWorld) (list : List TReq) (out : List (List TIns)) (i : Int) : Option (Stp ((List (List TIns)) × Bool) ((List (List TIns)) × Int) (List (List TIns))) :=
  (bif decide (i < (list.length : Int)) then
 ((idx list i).bind fun req =>
 ((spec_ToldProg w req).bind fun toldProg =>
 (bif (!toldProg.2) then
 some (Stp.ret ([], false))
 else
 (need ((out.length + 1) * 24 ≤ 140737488355328)
 (some (Stp.nxt (out ++ [toldProg.1], w64 (i + 1))))))))
 else
 some (Stp.brk out))
theorem spec_l10Progs_b1_ok (w : TWorld) (list : List TReq) (res : V) (outs : List (Option V)) (x1 : Exc ((List (List TIns)) × Bool) (List (List TIns))) (hb1 : HB cx spec_l10Progs_X res outs x1 spec_l10Progs_k1 spec_l10Progs_S1) (hr1 : HR res outs x1 spec_l10Progs_R spec_l10Progs_O) (st1 : Stp ((List (List TIns)) × Bool) ((List (List TIns)) × Int) (List (List TIns))) (hc1 : Cont x1 (fun s : (List (List TIns)) × Int => Fin cx spec_l10Progs_X res outs spec_l10Progs_k3 (spec_l10Progs_S2 w list s.1 s.2)) st1) (out : List (List TIns)) (i : Int) (h : spec_l10Progs_b1 w list out i = some st1) : Fin cx spec_l10Progs_X res outs spec_l10Progs_k3 (spec_l10Progs_S2 w list out i) :=
  P0 <|
 rg <| cdD 3 h (fun h =>
 rg <| ixS eReq 3 h fun req hreq h =>
 cb spec_ToldProg_t spec_ToldProg_ok 5 false h fun toldProg h =>
 rg <| cdD 1 h (fun h =>
 rg <| (retD h hc1 fun e => fn0 Tryz.func16 (hr1 _ e))) (fun h =>
 rg <| tl (2, { a := .ck [some 4] }) <| needD h fun e1 h =>
 apS 3 23 67 1 24 eInsS out toldProg.1 e1 <| om (1 = [toldProg.1].length) (by rfl) <| rg <| (nxtD h hc1 fun hI => sg [] [1, 2, 6, 7] [(1, 0), (23, 0)] hI))) (fun h =>
 (brkD h hc1 fun e => sg [] [6] [(2, 0)] (hb1 _ e)))
noncomputable def spec_l10Progs (w : TWorld) (list : List TReq) : Option ((List (List TIns)) × Bool) :=
  ((loop (fun s : (List (List TIns)) × Int => spec_l10Progs_b1 w list s.1 s.2) (([] : List (List TIns)), 0)).bind fun x => x.go (fun r => some r) fun s => spec_l10Progs_k2 s)
theorem spec_l10Progs_ok {w : TWorld} {list : List TReq} (r : (List (List TIns)) × Bool) (h : spec_l10Progs w list = some r) : ACalls cx.P 16 [.agg (eWorld w), vsl 2 eReq list] (spec_l10Progs_R r) (spec_l10Progs_O r) :=
  ACalls.of (cx := cx) (X := spec_l10Progs_X) (c := spec_l10Progs_c) Tryz.func16 (by kernel_rfl) (by kernel_rfl) (by kernel_rfl) (P0 <|
 rg2 <| tl (0, { a := .ck [some 4] }) <| rg <| loopJ h fun x hl hr hb => om ((.own 4 0 1 0 0 : V) = .own 4 0 1 0 ([] : List (List TIns)).length) (by simp) <| sg [.is (.tmp 6) (.own 4 0 1 0 ([] : List (List TIns)).length)] [1, 2, 6, 7] [(1, 0), (4, 0)] (loopD (I := fun s : (List (List TIns)) × Int => Fin cx spec_l10Progs_X (spec_l10Progs_R r) (spec_l10Progs_O r) spec_l10Progs_k3 (spec_l10Progs_S2 w list s.1 s.2)) hl fun s st h hc => spec_l10Progs_b1_ok w list _ _ x (fun s e => spec_l10Progs_k2_ok r s (hb s e)) (fun v e => ⟨congrArg spec_l10Progs_R (Option.some.inj (hr v e)).symm, congrArg spec_l10Progs_O (Option.some.inj (hr v e)).symm⟩) st hc s.1 s.2 h))

/-! ### spec_l1Copy -/
noncomputable def spec_l1Copy_c : Code := bodyOf Tryz.f53
noncomputable def spec_l1Copy_X : Sig := { f := 53, fn := Tryz.f53, rms := [.val [some 2] [some 128]], oms := [none] }
noncomputable def spec_l1Copy_R (r : List TBox) : V := vosl 128 2 eBox r
noncomputable def spec_l1Copy_O (r : List TBox) : List (Option V) := [none]
noncomputable def spec_l1Copy_t (i : Nat) (fr : Bool) (r : List TBox) : Nat × Tell := (i, { a := .call [.val [some 2] []] fr (spec_l1Copy_R r) (spec_l1Copy_O r) })
noncomputable def spec_l1Copy (list : List TBox) : Option (List TBox) :=
  (need ((([] : List TBox).length + list.length) * 16 ≤ 140737488355328)
 (some (([] : List TBox) ++ list)))
theorem spec_l1Copy_ok {list : List TBox} (r : List TBox) (h : spec_l1Copy list = some r) : ACalls cx.P 53 [vsl 2 eBox list] (spec_l1Copy_R r) (spec_l1Copy_O r) :=
  ACalls.of (cx := cx) (X := spec_l1Copy_X) (c := spec_l1Copy_c) Tryz.func53 (by kernel_rfl) (by kernel_rfl) (by kernel_rfl) (P0 <|
 rg2 <| tl (0, { a := .ck [] }) <| needD h fun e1 h =>
 om (V.own 4 0 2 0 (([] : List TBox).length + list.length) = .own 4 0 2 0 (([] : List TBox) ++ list).length) (by first | exact congrArg (V.own 4 0 2 0) List.length_append.symm | simp) <| om (Ent.row 128 2 (([] : List TBox).length + list.length) (([] : List TBox).map eBox ++ list.map eBox) = erow 128 2 eBox (([] : List TBox) ++ list)) (by first | exact row_apps rfl rfl | simp [erow]) <| om (0 = ([] : List TBox).length) (by rfl) <| ob e1 <| tl (2, { v := some (.own 4 0 2 0 (([] : List TBox) ++ list).length), e := some (erow 128 2 eBox (([] : List TBox) ++ list)) }) <| om ((([] : List TBox) ++ list).length = (([] : List TBox) ++ list).length) rfl <| fe Tryz.func53 h)

/-! ### spec_l3Look -/
noncomputable def spec_l3Look_c : Code := bodyOf Tryz.f161
noncomputable def spec_l3Look_X : Sig := { f := 161, fn := Tryz.f161, rms := [.val [] [], .val ck73 [some 193, some 195, none, none]], oms := [none, none, none] }
noncomputable def spec_l3Look_R (r : Int × TRun) : V := .tup [vi r.1, .agg [vosl 193 2 eRead r.2.Reads, vosl 195 2 ePut r.2.Puts, vi r.2.Val, vi r.2.Code]]
noncomputable def spec_l3Look_O (r : Int × TRun) : List (Option V) := [none, none, none]
noncomputable def spec_l3Look_t (i : Nat) (fr : Bool) (r : Int × TRun) : Nat × Tell := (i, { a := .call [.val [some 2] [], .val [some 2, some 2, none, none] [some 193, some 195, none, none], .val [] []] fr (spec_l3Look_R r) (spec_l3Look_O r) })
noncomputable def spec_l3Look_k1 : List Item := posI 2000 5 [false, true] [.code spec_l3Look_c]
noncomputable def spec_l3Look_S1 (list : List TBox) (r_ : TRun) (box : Int) (Reads : List TRead) : St := ⟨(vsl 2 eBox list :: (bs 1 (vi box :: (bs 1 (.ptr 1 0 0 :: (bs 2 (.ptr 3 0 0 :: (bs 37 [])))))))), [some [.dead, erow 195 2 ePut r_.Puts], some [.var 73 [.own 2 0 2 0 Reads.length, .own 0 1 2 0 r_.Puts.length, vi r_.Val, vi r_.Code]], some [erow 193 2 eRead Reads], some [.var 73 [.nil, .nil, vi 0, vi 0]]]⟩
noncomputable def spec_l3Look_j1 (list : List TBox) (r_ : TRun) (box : Int) (Reads : List TRead) : Option (Int × TRun) :=
  ((idx list box).bind fun box1 =>
 some (box1.Val, (TRun.mk Reads r_.Puts r_.Val r_.Code)))
theorem spec_l3Look_j1_ok (list : List TBox) (r_ : TRun) (box : Int) (r : Int × TRun) (Reads : List TRead) (h : spec_l3Look_j1 list r_ box Reads = some r) : Fin cx spec_l3Look_X (spec_l3Look_R r) (spec_l3Look_O r) spec_l3Look_k1 (spec_l3Look_S1 list r_ box Reads) :=
  P0 <|
 rg <| ixS eBox 2 h fun box1 hbox1 h =>
 om (Reads.length = Reads.length) rfl <| om (r_.Puts.length = r_.Puts.length) rfl <| fe Tryz.func161 h
noncomputable def spec_l3Look (list : List TBox) (r_ : TRun) (box : Int) : Option (Int × TRun) :=
  ((spec_l3At r_.Puts box).bind fun l3At =>
 (bif decide (l3At ≥ 0) then
 ((idx r_.Puts l3At).bind fun put =>
 some (put.Val, r_))
 else
 ((((spec_l3Saw r_.Reads box).bind fun l3Saw =>
 (bif (!l3Saw) then
 ((idx list box).bind fun box2 =>
 (need ((r_.Reads.length + 1) * 16 ≤ 140737488355328)
 (some (Exc.brk (r_.Reads ++ [(TRead.mk box box2.Ver)])))))
 else
 some (Exc.brk r_.Reads))) : Option (Exc (Int × TRun) (List TRead))).bind fun x => x.go some fun j => spec_l3Look_j1 list r_ box j)))
theorem spec_l3Look_ok {list : List TBox} {r_ : TRun} {box : Int} (r : Int × TRun) (h : spec_l3Look list r_ box = some r) : ACalls cx.P 161 [vsl 2 eBox list, .agg [vosl 193 2 eRead r_.Reads, vosl 195 2 ePut r_.Puts, vi r_.Val, vi r_.Code], vi box] (spec_l3Look_R r) (spec_l3Look_O r) :=
  ACalls.of (cx := cx) (X := spec_l3Look_X) (c := spec_l3Look_c) Tryz.func161 (by kernel_rfl) (by kernel_rfl) (by kernel_rfl) (P0 <|
 rg2 <| cb spec_l3At_t spec_l3At_ok 3 true h fun l3At h =>
 om (ScalR (spec_l3At_R l3At) ∧ ScalO (spec_l3At_O l3At)) ⟨rfl, scalO_none 2⟩ <| om (r_.Puts.length = r_.Puts.length) rfl <| rg <| cdD 1 h (fun h =>
 rg <| bindD h fun put hput h =>
 ixB hput <| ldR ePut 5 hput <| om (r_.Reads.length = r_.Reads.length) rfl <| om (r_.Puts.length = r_.Puts.length) rfl <| fe Tryz.func161 h) (fun h =>
 joinD (I := fun j : List TRead => Fin cx spec_l3Look_X (spec_l3Look_R r) (spec_l3Look_O r) spec_l3Look_k1 (spec_l3Look_S1 list r_ box j)) h (fun j h => spec_l3Look_j1_ok list r_ box r j h) (fun x1 h hc1 =>
  rg <| cb spec_l3Saw_t spec_l3Saw_ok 3 true h fun l3Saw h =>
 om (ScalR (spec_l3Saw_R l3Saw) ∧ ScalO (spec_l3Saw_O l3Saw)) ⟨rfl, scalO_none 2⟩ <| om (r_.Reads.length = r_.Reads.length) rfl <| cdD 4 h (fun h =>
 rg <| ixS eBox 5 h fun box2 hbox2 h =>
 tl (9, { a := .ck [] }) <| needD h fun e1 h =>
 apS 10 26 193 2 16 eRead r_.Reads (TRead.mk box box2.Ver) e1 <| om (1 = [(TRead.mk box box2.Ver)].length) (by rfl) <| (jbrkD h hc1 fun hI => sg [] [0, 2, 4, 7] [(1, 0), (26, 0), (3, 0)] hI)) (fun h =>
 (jbrkD h hc1 fun hI => sg [] [0, 2, 4, 7] [(1, 0), (0, 0), (3, 0)] hI)))))

/-! ### spec_l3Put -/
noncomputable def spec_l3Put_c : Code := bodyOf Tryz.f162
noncomputable def spec_l3Put_X : Sig := { f := 162, fn := Tryz.f162, rms := [.val ck73 [some 193, some 195, none, none]], oms := [none, none, none] }
noncomputable def spec_l3Put_R (r : TRun) : V := .agg [vosl 193 2 eRead r.Reads, vosl 195 2 ePut r.Puts, vi r.Val, vi r.Code]
noncomputable def spec_l3Put_O (r : TRun) : List (Option V) := [none, none, none]
noncomputable def spec_l3Put_t (i : Nat) (fr : Bool) (r : TRun) : Nat × Tell := (i, { a := .call [.val [some 2, some 2, none, none] [some 193, some 195, none, none], .val [] [], .val [] []] fr (spec_l3Put_R r) (spec_l3Put_O r) })
noncomputable def spec_l3Put (r_ : TRun) (box : Int) (val : Int) : Option TRun :=
  ((spec_l3At r_.Puts box).bind fun l3At =>
 (bif decide (l3At ≥ 0) then
 ((idx r_.Puts l3At).bind fun put =>
 some (TRun.mk r_.Reads (r_.Puts.set l3At.toNat (TPut.mk put.Box val)) r_.Val r_.Code))
 else
 (need ((r_.Puts.length + 1) * 16 ≤ 140737488355328)
 (some (TRun.mk r_.Reads (r_.Puts ++ [(TPut.mk box val)]) r_.Val r_.Code)))))
theorem spec_l3Put_ok {r_ : TRun} {box : Int} {val : Int} (r : TRun) (h : spec_l3Put r_ box val = some r) : ACalls cx.P 162 [.agg [vosl 193 2 eRead r_.Reads, vosl 195 2 ePut r_.Puts, vi r_.Val, vi r_.Code], vi box, vi val] (spec_l3Put_R r) (spec_l3Put_O r) :=
  ACalls.of (cx := cx) (X := spec_l3Put_X) (c := spec_l3Put_c) Tryz.func162 (by kernel_rfl) (by kernel_rfl) (by kernel_rfl) (P0 <|
 rg2 <| cb spec_l3At_t spec_l3At_ok 3 true h fun l3At h =>
 om (ScalR (spec_l3At_R l3At) ∧ ScalO (spec_l3At_O l3At)) ⟨rfl, scalO_none 2⟩ <| om (r_.Puts.length = r_.Puts.length) rfl <| rg <| cdD 1 h (fun h =>
 rg <| bindD h fun put hput h =>
 ixB hput <| stR 195 2 ePut 6 [] (TPut.mk put.Box val) hput <| rg <| om (r_.Reads.length = r_.Reads.length) rfl <| om (r_.Puts.length = (r_.Puts.set l3At.toNat (TPut.mk put.Box val)).length) (by simp) <| fe Tryz.func162 h) (fun h =>
 rg <| tl (5, { a := .ck [] }) <| needD h fun e1 h =>
 apS 6 16 195 2 16 ePut r_.Puts (TPut.mk box val) e1 <| om (1 = [(TPut.mk box val)].length) (by rfl) <| rg <| om (r_.Reads.length = r_.Reads.length) rfl <| om ((r_.Puts ++ [(TPut.mk box val)]).length = (r_.Puts ++ [(TPut.mk box val)]).length) rfl <| fe Tryz.func162 h))

/-! ### spec_l3Step -/
noncomputable def spec_l3Step_c : Code := bodyOf Tryz.f135
noncomputable def spec_l3Step_X : Sig := { f := 135, fn := Tryz.f135, rms := [.val ck73 [some 193, some 195, none, none]], oms := [none, none, some (2, .row), none] }
noncomputable def spec_l3Step_R (r : TRun × List Int) : V := .agg [vosl 193 2 eRead r.1.Reads, vosl 195 2 ePut r.1.Puts, vi r.1.Val, vi r.1.Code]
noncomputable def spec_l3Step_O (r : TRun × List Int) : List (Option V) := [none, none, some (vosl 3 1 eI r.2), none]
noncomputable def spec_l3Step_t (i : Nat) (fr : Bool) (r : TRun × List Int) : Nat × Tell := (i, { a := .call [.val [some 2] [], .val [some 2, some 2, none, none] [some 193, some 195, none, none], .row, .val [] []] fr (spec_l3Step_R r) (spec_l3Step_O r) })
noncomputable def spec_l3Step_k1 : List Item := posI 2000 6 [true] [.code spec_l3Step_c]
noncomputable def spec_l3Step_S1 (i : TIns) (regs1 : List Int) (Reads : List TRead) (Puts : List TPut) (rVal : Int) (rCode : Int) : St := ⟨(bs 2 (.own 0 2 1 0 regs1.length :: (bs 2 (.ptr 1 0 0 :: (bs 1 (.ptr 4 0 0 :: (.ptr 5 0 0 :: (bs 90 [])))))))), [some [.dead, .dead, erow 3 1 eI regs1], some [.var 73 [.own 2 0 2 0 Reads.length, .own 3 0 2 0 Puts.length, vi rVal, vi rCode]], some [erow 193 2 eRead Reads], some [erow 195 2 ePut Puts], some [.var 142 [vi i.Kind, vi i.A, vi i.B, vi i.N]], some [.var 73 [.nil, .nil, vi 0, vi 0]]]⟩
noncomputable def spec_l3Step_k2 : List Item := posI 2000 8 [true, true] [.code spec_l3Step_c]
noncomputable def spec_l3Step_S2 (regs1 : List Int) (Reads : List TRead) (Puts : List TPut) (rVal : Int) (rCode1 : Int) : St := ⟨(bs 5 (.ptr 1 0 0 :: (bs 2 (.ptr 4 0 0 :: (bs 90 []))))), [some [.dead, .dead, erow 3 1 eI regs1], some [.var 73 [.own 2 0 2 0 Reads.length, .own 3 0 2 0 Puts.length, vi rVal, vi rCode1]], some [erow 193 2 eRead Reads], some [erow 195 2 ePut Puts], some [.var 73 [.nil, .nil, vi 0, vi 0]]]⟩
noncomputable def spec_l3Step_j1 (regs1 : List Int) (Reads : List TRead) (Puts : List TPut) (rVal : Int) (rCode1 : Int) : Option (TRun × List Int) :=
  some ((TRun.mk Reads Puts rVal rCode1), regs1)
theorem spec_l3Step_j1_ok (regs1 : List Int) (Reads : List TRead) (Puts : List TPut) (rVal : Int) (r : TRun × List Int) (rCode1 : Int) (h : spec_l3Step_j1 regs1 Reads Puts rVal rCode1 = some r) : Fin cx spec_l3Step_X (spec_l3Step_R r) (spec_l3Step_O r) spec_l3Step_k2 (spec_l3Step_S2 regs1 Reads Puts rVal rCode1) :=
  P0 <|
 rg <| om (Reads.length = Reads.length) rfl <| om (Puts.length = Puts.length) rfl <| om (regs1.length = regs1.length) rfl <| fe Tryz.func135 h
noncomputable def spec_l3Step_j2 (i : TIns) (regs1 : List Int) (Reads : List TRead) (Puts : List TPut) (rVal : Int) (rCode : Int) : Option (TRun × List Int) :=
  (((bif (i.Kind != 2) then
 ((idx regs1 i.A).bind fun y =>
 ((spec_l1Num y).bind fun l1Num =>
 (bif (!l1Num) then
 some (Exc.brk 2)
 else
 some (Exc.brk rCode))))
 else
 some (Exc.brk rCode)) : Option (Exc (TRun × List Int) Int)).bind fun x => x.go some fun j => spec_l3Step_j1 regs1 Reads Puts rVal j)
theorem spec_l3Step_j2_ok (i : TIns) (r : TRun × List Int) (regs1 : List Int) (Reads : List TRead) (Puts : List TPut) (rVal : Int) (rCode : Int) (h : spec_l3Step_j2 i regs1 Reads Puts rVal rCode = some r) : Fin cx spec_l3Step_X (spec_l3Step_R r) (spec_l3Step_O r) spec_l3Step_k1 (spec_l3Step_S1 i regs1 Reads Puts rVal rCode) :=
  P0 <|
 joinD (I := fun j : Int => Fin cx spec_l3Step_X (spec_l3Step_R r) (spec_l3Step_O r) spec_l3Step_k2 (spec_l3Step_S2 regs1 Reads Puts rVal j)) h (fun j h => spec_l3Step_j1_ok regs1 Reads Puts rVal r j h) (fun x1 h hc1 =>
  rg <| cdD 3 h (fun h =>
 bindD h fun y hy h =>
 ixB hy <| ldR eI 8 hy <| cb spec_l1Num_t spec_l1Num_ok 9 false h fun l1Num h =>
 cdD 11 h (fun h =>
 rg <| (jbrkD h hc1 fun hI => sg [] [5, 8] [(1, 0), (2, 0), (3, 0), (5, 0)] hI)) (fun h =>
 (jbrkD h hc1 fun hI => sg [] [5, 8] [(1, 0), (2, 0), (3, 0), (5, 0)] hI))) (fun h =>
 (jbrkD h hc1 fun hI => sg [] [5, 8] [(1, 0), (2, 0), (3, 0), (5, 0)] hI)))
noncomputable def spec_l3Step (list : List TBox) (r_ : TRun) (regs : List Int) (i : TIns) : Option (TRun × List Int) :=
  (((bif (i.Kind == 1) then
 ((spec_l3Look list r_ i.B).bind fun l3Look =>
 ((idx regs i.A).bind fun y1 =>
 some (Exc.brk (regs.set i.A.toNat l3Look.1, l3Look.2.Reads, l3Look.2.Puts, l3Look.2.Val, l3Look.2.Code))))
 else
 (bif (i.Kind == 2) then
 ((idx regs i.B).bind fun y2 =>
 ((spec_l3Put r_ i.A y2).bind fun l3Put =>
 some (Exc.brk (regs, l3Put.Reads, l3Put.Puts, l3Put.Val, l3Put.Code))))
 else
 (bif (i.Kind == 3) then
 ((idx regs i.A).bind fun y3 =>
 some (Exc.brk (regs.set i.A.toNat i.N, r_.Reads, r_.Puts, r_.Val, r_.Code)))
 else
 (bif (i.Kind == 4) then
 ((idx regs i.A).bind fun y4 =>
 ((idx regs i.B).bind fun y5 =>
 some (Exc.brk (regs.set i.A.toNat (w64 (y4 + y5)), r_.Reads, r_.Puts, r_.Val, r_.Code))))
 else
 (bif (i.Kind == 5) then
 ((idx regs i.A).bind fun y6 =>
 ((idx regs i.B).bind fun y7 =>
 some (Exc.brk (regs.set i.A.toNat (w64 (y6 - y7)), r_.Reads, r_.Puts, r_.Val, r_.Code))))
 else
 (bif (i.Kind == 7) then
 some (Exc.brk (regs, r_.Reads, r_.Puts, r_.Val, 1))
 else
 some (Exc.brk (regs, r_.Reads, r_.Puts, r_.Val, r_.Code)))))))) : Option (Exc (TRun × List Int) ((List Int) × (List TRead) × (List TPut) × Int × Int))).bind fun x => x.go some fun j => spec_l3Step_j2 i j.1 j.2.1 j.2.2.1 j.2.2.2.1 j.2.2.2.2)
set_option maxRecDepth 20000 in
theorem spec_l3Step_ok {list : List TBox} {r_ : TRun} {regs : List Int} {i : TIns} (r : TRun × List Int) (h : spec_l3Step list r_ regs i = some r) : ACalls cx.P 135 [vsl 2 eBox list, .agg [vosl 193 2 eRead r_.Reads, vosl 195 2 ePut r_.Puts, vi r_.Val, vi r_.Code], vosl 3 1 eI regs, .agg (eIns i)] (spec_l3Step_R r) (spec_l3Step_O r) :=
  ACalls.of (cx := cx) (X := spec_l3Step_X) (c := spec_l3Step_c) Tryz.func135 (by kernel_rfl) (by kernel_rfl) (by kernel_rfl) (P0 <|
 rg2 <| joinD (I := fun j : (List Int) × (List TRead) × (List TPut) × Int × Int => Fin cx spec_l3Step_X (spec_l3Step_R r) (spec_l3Step_O r) spec_l3Step_k1 (spec_l3Step_S1 i j.1 j.2.1 j.2.2.1 j.2.2.2.1 j.2.2.2.2)) h (fun j h => spec_l3Step_j2_ok i r j.1 j.2.1 j.2.2.1 j.2.2.2.1 j.2.2.2.2 h) (fun x1 h hc1 =>
  rg <| cdD 1 h (fun h =>
 rg <| cb spec_l3Look_t spec_l3Look_ok 4 false h fun l3Look h =>
 om (r_.Reads.length = r_.Reads.length) rfl <| om (r_.Puts.length = r_.Puts.length) rfl <| rg <| bindD h fun y1 hy1 h =>
 ixB hy1 <| stR 3 1 eI 5 [] l3Look.1 hy1 <| rg <| (jbrkD h hc1 fun hI => om ((.own 0 2 1 0 regs.length : V) = .own 0 2 1 0 (regs.set i.A.toNat l3Look.1).length) (by simp) <| sg [.is (.tmp 2) (.own 0 2 1 0 (regs.set i.A.toNat l3Look.1).length)] [2, 5, 7, 8] [(1, 0), (12, 0), (12, 1), (2, 0), (3, 0)] hI)) (fun h =>
 rg <| cdD 1 h (fun h =>
 rg <| bindD h fun y2 hy2 h =>
 ixB hy2 <| ldR eI 7 hy2 <| cb spec_l3Put_t spec_l3Put_ok 8 false h fun l3Put h =>
 om (r_.Reads.length = r_.Reads.length) rfl <| om (r_.Puts.length = r_.Puts.length) rfl <| (jbrkD h hc1 fun hI => sg [] [2, 5, 7, 8] [(1, 0), (18, 0), (18, 1), (2, 0), (3, 0)] hI)) (fun h =>
 rg <| cdD 1 h (fun h =>
 rg <| bindD h fun y3 hy3 h =>
 ixB hy3 <| stR 3 1 eI 6 [] i.N hy3 <| (jbrkD h hc1 fun hI => om ((.own 0 2 1 0 regs.length : V) = .own 0 2 1 0 (regs.set i.A.toNat i.N).length) (by simp) <| sg [.is (.tmp 2) (.own 0 2 1 0 (regs.set i.A.toNat i.N).length)] [2, 5, 7, 8] [(1, 0), (0, 0), (0, 1), (2, 0), (3, 0)] hI)) (fun h =>
 rg <| cdD 1 h (fun h =>
 rg <| bindD h fun y4 hy4 h =>
 ixB hy4 <| ldR eI 7 hy4 <| bindD h fun y5 hy5 h =>
 ixB hy5 <| ldR eI 12 hy5 <| ixB hy4 <| stR 3 1 eI 15 [] (w64 (y4 + y5)) hy4 <| (jbrkD h hc1 fun hI => om ((.own 0 2 1 0 regs.length : V) = .own 0 2 1 0 (regs.set i.A.toNat (w64 (y4 + y5))).length) (by simp) <| sg [.is (.tmp 2) (.own 0 2 1 0 (regs.set i.A.toNat (w64 (y4 + y5))).length)] [2, 5, 7, 8] [(1, 0), (0, 0), (0, 1), (2, 0), (3, 0)] hI)) (fun h =>
 rg <| cdD 1 h (fun h =>
 rg <| bindD h fun y6 hy6 h =>
 ixB hy6 <| ldR eI 7 hy6 <| bindD h fun y7 hy7 h =>
 ixB hy7 <| ldR eI 12 hy7 <| ixB hy6 <| stR 3 1 eI 15 [] (w64 (y6 - y7)) hy6 <| (jbrkD h hc1 fun hI => om ((.own 0 2 1 0 regs.length : V) = .own 0 2 1 0 (regs.set i.A.toNat (w64 (y6 - y7))).length) (by simp) <| sg [.is (.tmp 2) (.own 0 2 1 0 (regs.set i.A.toNat (w64 (y6 - y7))).length)] [2, 5, 7, 8] [(1, 0), (0, 0), (0, 1), (2, 0), (3, 0)] hI)) (fun h =>
 rg <| cdD 1 h (fun h =>
 rg <| (jbrkD h hc1 fun hI => sg [] [2, 5, 7, 8] [(1, 0), (0, 0), (0, 1), (2, 0), (3, 0)] hI)) (fun h =>
 (jbrkD h hc1 fun hI => sg [] [2, 5, 7, 8] [(1, 0), (0, 0), (0, 1), (2, 0), (3, 0)] hI)))))))))

/-! ### spec_ExecRun -/
noncomputable def spec_ExecRun_c : Code := bodyOf Tryz.f98
noncomputable def spec_ExecRun_X : Sig := { f := 98, fn := Tryz.f98, rms := [.val ck73 [some 193, some 195, none, none]], oms := [none, none] }
noncomputable def spec_ExecRun_R (r : TRun) : V := .agg [vosl 193 2 eRead r.Reads, vosl 195 2 ePut r.Puts, vi r.Val, vi r.Code]
noncomputable def spec_ExecRun_O (r : TRun) : List (Option V) := [none, none]
noncomputable def spec_ExecRun_t (i : Nat) (fr : Bool) (r : TRun) : Nat × Tell := (i, { a := .call [.val [some 2] [], .val [some 4] []] fr (spec_ExecRun_R r) (spec_ExecRun_O r) })
noncomputable def spec_ExecRun_k1 : List Item := posI 2000 6 [false, false] [.code spec_ExecRun_c]
noncomputable def spec_ExecRun_S1 (Reads1 : List TRead) (Puts1 : List TPut) (regs1 : List Int) (rVal1 : Int) (rCode1 : Int) : St := ⟨(bs 4 (.ptr 1 0 0 :: (.ptr 2 0 0 :: (.own 5 0 1 0 regs1.length :: (bs 61 []))))), [some [], some [.var 73 [.nil, .nil, vi 0, vi 0]], some [.var 73 [.own 3 0 2 0 Reads1.length, .own 4 0 2 0 Puts1.length, vi rVal1, vi rCode1]], some [erow 193 2 eRead Reads1], some [erow 195 2 ePut Puts1], some [erow 3 1 eI regs1]]⟩
noncomputable def spec_ExecRun_k2 (Reads1 : List TRead) (Puts1 : List TPut) (regs1 : List Int) (rVal1 : Int) (rCode1 : Int) : Option TRun :=
  (bif (rCode1 != 0) then
 some (TRun.mk Reads1 [] rVal1 rCode1)
 else
 ((idx regs1 0).bind fun y =>
 some (TRun.mk Reads1 Puts1 y rCode1)))
theorem spec_ExecRun_k2_ok (r : TRun) (Reads1 : List TRead) (Puts1 : List TPut) (regs1 : List Int) (rVal1 : Int) (rCode1 : Int) (h : spec_ExecRun_k2 Reads1 Puts1 regs1 rVal1 rCode1 = some r) : Fin cx spec_ExecRun_X (spec_ExecRun_R r) (spec_ExecRun_O r) spec_ExecRun_k1 (spec_ExecRun_S1 Reads1 Puts1 regs1 rVal1 rCode1) :=
  P0 <|
 rg <| cdD 2 h (fun h =>
 rg2 <| om (Reads1.length = Reads1.length) rfl <| fe Tryz.func98 h) (fun h =>
 rg <| bindD h fun y hy h =>
 ixB hy <| ldR eI 2 hy <| rg <| om (Reads1.length = Reads1.length) rfl <| om (Puts1.length = Puts1.length) rfl <| fe Tryz.func98 h)
noncomputable def spec_ExecRun_k3 : List Item := posI 2000 5 [false] [.code spec_ExecRun_c]
noncomputable def spec_ExecRun_S2 (list : List TBox) (prog : List TIns) (regs : List Int) (Reads : List TRead) (Puts : List TPut) (k : Int) (rVal : Int) (rCode : Int) : St := ⟨(vsl 2 eBox list :: (vsl 4 eIns prog :: (bs 2 (.ptr 1 0 0 :: (.ptr 2 0 0 :: (.own 3 0 1 0 regs.length :: (vi k :: (bs 60 [])))))))), [some [], some [.var 73 [.nil, .nil, vi 0, vi 0]], some [.var 73 [.own 4 0 2 0 Reads.length, .own 5 0 2 0 Puts.length, vi rVal, vi rCode]], some [erow 3 1 eI regs], some [erow 193 2 eRead Reads], some [erow 195 2 ePut Puts]]⟩
noncomputable def spec_ExecRun_k4 : List Item := posI 2000 10 [false, true, true, true] [.code spec_ExecRun_c]
noncomputable def spec_ExecRun_S3 (list : List TBox) (prog : List TIns) (regs : List Int) (Reads : List TRead) (Puts : List TPut) (rVal : Int) (rCode : Int) (k1 : Int) : St := ⟨(vsl 2 eBox list :: (vsl 4 eIns prog :: (bs 2 (.ptr 1 0 0 :: (.ptr 2 0 0 :: (.own 5 0 1 0 regs.length :: (vi k1 :: (bs 60 [])))))))), [some [], some [.var 73 [.nil, .nil, vi 0, vi 0]], some [.var 73 [.own 3 0 2 0 Reads.length, .own 4 0 2 0 Puts.length, vi rVal, vi rCode]], some [erow 193 2 eRead Reads], some [erow 195 2 ePut Puts], some [erow 3 1 eI regs]]⟩
noncomputable def spec_ExecRun_j1 (regs : List Int) (Reads : List TRead) (Puts : List TPut) (rVal : Int) (rCode : Int) (k1 : Int) : Option (Stp TRun ((List Int) × (List TRead) × (List TPut) × Int × Int × Int) ((List TRead) × (List TPut) × (List Int) × Int × Int)) :=
  some (Stp.nxt (regs, Reads, Puts, w64 (k1 + 1), rVal, rCode))
theorem spec_ExecRun_j1_ok (list : List TBox) (prog : List TIns) (regs : List Int) (Reads : List TRead) (Puts : List TPut) (rVal : Int) (rCode : Int) (res : V) (outs : List (Option V)) (x1 : Exc TRun ((List TRead) × (List TPut) × (List Int) × Int × Int)) (hb1 : HB cx spec_ExecRun_X res outs x1 spec_ExecRun_k1 (fun s => spec_ExecRun_S1 s.1 s.2.1 s.2.2.1 s.2.2.2.1 s.2.2.2.2)) (hr1 : HR res outs x1 spec_ExecRun_R spec_ExecRun_O) (st1 : Stp TRun ((List Int) × (List TRead) × (List TPut) × Int × Int × Int) ((List TRead) × (List TPut) × (List Int) × Int × Int)) (hc1 : Cont x1 (fun s : (List Int) × (List TRead) × (List TPut) × Int × Int × Int => Fin cx spec_ExecRun_X res outs spec_ExecRun_k3 (spec_ExecRun_S2 list prog s.1 s.2.1 s.2.2.1 s.2.2.2.1 s.2.2.2.2.1 s.2.2.2.2.2)) st1) (k1 : Int) (h : spec_ExecRun_j1 regs Reads Puts rVal rCode k1 = some st1) : Fin cx spec_ExecRun_X res outs spec_ExecRun_k4 (spec_ExecRun_S3 list prog regs Reads Puts rVal rCode k1) :=
  P0 <|
 rg <| (nxtD h hc1 fun hI => sg [] [0, 1, 4, 5, 6, 7] [(1, 0), (2, 0), (5, 0), (3, 0), (4, 0)] hI)
noncomputable def spec_ExecRun_b1 (list : List TBox) (prog : List TIns) (regs : List Int) (Reads : List TRead) (Puts : List TPut) (k : Int) (rVal : Int) (rCode : Int) : Option (Stp TRun ((List Int) × (List TRead) × (List TPut) × Int × Int × Int) ((List TRead) × (List TPut) × (List Int) × Int × Int)) :=
  (bif decide (k < (prog.length : Int)) then
 (bif (rCode == 0) then
 ((idx prog k).bind fun ins =>
 (bif (ins.Kind == 6) then
 ((((idx regs ins.A).bind fun y1 =>
 ((idx regs ins.B).bind fun y2 =>
 (bif decide (y1 < y2) then
 some (Exc.brk (w64 (k + ins.N)))
 else
 some (Exc.brk k)))) : Option (Exc (Stp TRun ((List Int) × (List TRead) × (List TPut) × Int × Int × Int) ((List TRead) × (List TPut) × (List Int) × Int × Int)) Int)).bind fun x => x.go some fun j => spec_ExecRun_j1 regs Reads Puts rVal rCode j)
 else
 ((spec_l3Step list (TRun.mk Reads Puts rVal rCode) regs ins).bind fun l3Step =>
 (need (regs.length = l3Step.2.length)
 (some (Stp.nxt (l3Step.2, l3Step.1.Reads, l3Step.1.Puts, w64 (k + 1), l3Step.1.Val, l3Step.1.Code)))))))
 else
 some (Stp.brk (Reads, Puts, regs, rVal, rCode)))
 else
 some (Stp.brk (Reads, Puts, regs, rVal, rCode)))
set_option maxRecDepth 20000 in
theorem spec_ExecRun_b1_ok (list : List TBox) (prog : List TIns) (res : V) (outs : List (Option V)) (x1 : Exc TRun ((List TRead) × (List TPut) × (List Int) × Int × Int)) (hb1 : HB cx spec_ExecRun_X res outs x1 spec_ExecRun_k1 (fun s => spec_ExecRun_S1 s.1 s.2.1 s.2.2.1 s.2.2.2.1 s.2.2.2.2)) (hr1 : HR res outs x1 spec_ExecRun_R spec_ExecRun_O) (st1 : Stp TRun ((List Int) × (List TRead) × (List TPut) × Int × Int × Int) ((List TRead) × (List TPut) × (List Int) × Int × Int)) (hc1 : Cont x1 (fun s : (List Int) × (List TRead) × (List TPut) × Int × Int × Int => Fin cx spec_ExecRun_X res outs spec_ExecRun_k3 (spec_ExecRun_S2 list prog s.1 s.2.1 s.2.2.1 s.2.2.2.1 s.2.2.2.2.1 s.2.2.2.2.2)) st1) (regs : List Int) (Reads : List TRead) (Puts : List TPut) (k : Int) (rVal : Int) (rCode : Int) (h : spec_ExecRun_b1 list prog regs Reads Puts k rVal rCode = some st1) : Fin cx spec_ExecRun_X res outs spec_ExecRun_k3 (spec_ExecRun_S2 list prog regs Reads Puts k rVal rCode) :=
  P0 <|
 rg <| cdD 4 h (fun h =>
 cdD 8 h (fun h =>
 rg <| ixS eIns 2 h fun ins hins h =>
 rg <| cdD 2 h (fun h =>
 joinD (I := fun j : Int => Fin cx spec_ExecRun_X res outs spec_ExecRun_k4 (spec_ExecRun_S3 list prog regs Reads Puts rVal rCode j)) h (fun j h => spec_ExecRun_j1_ok list prog regs Reads Puts rVal rCode res outs x1 hb1 hr1 st1 hc1 j h) (fun x2 h hc2 =>
  rg <| bindD h fun y1 hy1 h =>
 ixB hy1 <| ldR eI 4 hy1 <| bindD h fun y2 hy2 h =>
 ixB hy2 <| ldR eI 9 hy2 <| cdD 10 h (fun h =>
 rg <| (jbrkD h hc2 fun hI => sg [] [0, 1, 4, 5, 6, 7] [(1, 0), (2, 0), (4, 0), (5, 0), (3, 0)] hI)) (fun h =>
 (jbrkD h hc2 fun hI => sg [] [0, 1, 4, 5, 6, 7] [(1, 0), (2, 0), (4, 0), (5, 0), (3, 0)] hI)))) (fun h =>
 rg <| cb spec_l3Step_t spec_l3Step_ok 4 false h fun l3Step h =>
 needD h fun e2 h =>
 om (Reads.length = Reads.length) rfl <| om (Puts.length = Puts.length) rfl <| om (regs.length = regs.length) rfl <| rg <| (nxtD h hc1 fun hI => om ((.own 3 0 1 0 regs.length : V) = .own 3 0 1 0 l3Step.2.length) (by first | (simp; done) | (simp [e2]; done)) <| sg [.is (.tmp 6) (.own 3 0 1 0 l3Step.2.length)] [0, 1, 4, 5, 6, 7] [(1, 0), (2, 0), (3, 0), (28, 0), (28, 1)] hI))) (fun h =>
 (brkD h hc1 fun e => sg [] [4, 5, 6] [(1, 0), (2, 0), (4, 0), (5, 0), (3, 0)] (hb1 _ e)))) (fun h =>
 (brkD h hc1 fun e => sg [] [4, 5, 6] [(1, 0), (2, 0), (4, 0), (5, 0), (3, 0)] (hb1 _ e)))
noncomputable def spec_ExecRun (list : List TBox) (prog : List TIns) : Option TRun :=
  ((spec_BoxOk list).bind fun boxOk =>
 (bif (!boxOk) then
 some (TRun.mk [] [] 0 3)
 else
 ((spec_ProgOk prog).bind fun progOk =>
 (bif (!progOk) then
 some (TRun.mk [] [] 0 3)
 else
 (need (0 ≤ (4 : Int) ∧ (4 : Int) * 8 ≤ 140737488355328)
 (((loop (fun s : (List Int) × (List TRead) × (List TPut) × Int × Int × Int => spec_ExecRun_b1 list prog s.1 s.2.1 s.2.2.1 s.2.2.2.1 s.2.2.2.2.1 s.2.2.2.2.2) (List.replicate (4 : Int).toNat (0 : Int), [], [], 0, 0, 0)).bind fun x => x.go (fun r => some r) fun s => spec_ExecRun_k2 s.1 s.2.1 s.2.2.1 s.2.2.2.1 s.2.2.2.2)))))))
theorem spec_ExecRun_ok {list : List TBox} {prog : List TIns} (r : TRun) (h : spec_ExecRun list prog = some r) : ACalls cx.P 98 [vsl 2 eBox list, vsl 4 eIns prog] (spec_ExecRun_R r) (spec_ExecRun_O r) :=
  ACalls.of (cx := cx) (X := spec_ExecRun_X) (c := spec_ExecRun_c) Tryz.func98 (by kernel_rfl) (by kernel_rfl) (by kernel_rfl) (P0 <|
 rg2 <| cb spec_BoxOk_t spec_BoxOk_ok 1 false h fun boxOk h =>
 cdD 3 h (fun h =>
 rg <| fe Tryz.func98 h) (fun h =>
 cb spec_ProgOk_t spec_ProgOk_ok 5 false h fun progOk h =>
 cdD 7 h (fun h =>
 rg <| fe Tryz.func98 h) (fun h =>
 rg2 <| needD h fun e1 h =>
 mkS 0 13 3 1 8 eI (0 : Int) ti3 (.none) e1 (by decide) (by rfl) <| rg <| loopJ h fun x hl hr hb => sg [.own (.cell 11 0 0) 193 2, .own (.cell 11 0 1) 195 2] [0, 1, 4, 5, 6, 7] [(1, 0), (11, 0), (13, 0), (16, 0), (17, 0)] (loopD (I := fun s : (List Int) × (List TRead) × (List TPut) × Int × Int × Int => Fin cx spec_ExecRun_X (spec_ExecRun_R r) (spec_ExecRun_O r) spec_ExecRun_k3 (spec_ExecRun_S2 list prog s.1 s.2.1 s.2.2.1 s.2.2.2.1 s.2.2.2.2.1 s.2.2.2.2.2)) hl fun s st h hc => spec_ExecRun_b1_ok list prog _ _ x (fun s e => spec_ExecRun_k2_ok r s.1 s.2.1 s.2.2.1 s.2.2.2.1 s.2.2.2.2 (hb s e)) (fun v e => ⟨congrArg spec_ExecRun_R (Option.some.inj (hr v e)).symm, congrArg spec_ExecRun_O (Option.some.inj (hr v e)).symm⟩) st hc s.1 s.2.1 s.2.2.1 s.2.2.2.1 s.2.2.2.2.1 s.2.2.2.2.2 h))))

/-! ### spec_SerialOne -/
noncomputable def spec_SerialOne_c : Code := bodyOf Tryz.f54
noncomputable def spec_SerialOne_X : Sig := { f := 54, fn := Tryz.f54, rms := [.val [some 2] [], .val [] [], .val [] []], oms := [none, none] }
noncomputable def spec_SerialOne_R (r : (List TBox) × Int × Int) : V := .tup [vsl 2 eBox r.1, vi r.2.1, vi r.2.2]
noncomputable def spec_SerialOne_O (r : (List TBox) × Int × Int) : List (Option V) := [none, none]
noncomputable def spec_SerialOne_t (i : Nat) (fr : Bool) (r : (List TBox) × Int × Int) : Nat × Tell := (i, { a := .call [.val [some 2] [], .val [some 4] []] fr (spec_SerialOne_R r) (spec_SerialOne_O r) })
noncomputable def spec_SerialOne (list : List TBox) (prog : List TIns) : Option ((List TBox) × Int × Int) :=
  ((spec_ExecRun list prog).bind fun execRun =>
 (bif (execRun.Code == 3) then
 some (([] : List TBox), 0, 3)
 else
 ((spec_l1Copy list).bind fun l1Copy =>
 ((spec_l3Do l1Copy execRun).bind fun l3Do =>
 some (l3Do, execRun.Val, execRun.Code)))))
theorem spec_SerialOne_ok {list : List TBox} {prog : List TIns} (r : (List TBox) × Int × Int) (h : spec_SerialOne list prog = some r) : ACalls cx.P 54 [vsl 2 eBox list, vsl 4 eIns prog] (spec_SerialOne_R r) (spec_SerialOne_O r) :=
  ACalls.of (cx := cx) (X := spec_SerialOne_X) (c := spec_SerialOne_c) Tryz.func54 (by kernel_rfl) (by kernel_rfl) (by kernel_rfl) (P0 <|
 rg2 <| cb spec_ExecRun_t spec_ExecRun_ok 2 false h fun execRun h =>
 rg <| cdD 2 h (fun h =>
 rg <| tl (0, { a := .ck [] }) <| om (0 = ([] : List TBox).length) (by simp) <| fe Tryz.func54 h) (fun h =>
 rg <| cb spec_l1Copy_t spec_l1Copy_ok 1 false h fun l1Copy h =>
 cb spec_l3Do_t spec_l3Do_ok 3 true h fun l3Do h =>
 om (ScalR (spec_l3Do_R l3Do) ∧ ScalO (spec_l3Do_O l3Do)) ⟨(by simp [spec_l3Do_R, ScalR, ScalA, ScalC, V.simple, vi, vosl, eBox, eI]), scalO_none 2⟩ <| om (l1Copy.length = l1Copy.length) rfl <| om (execRun.Reads.length = execRun.Reads.length) rfl <| om (execRun.Puts.length = execRun.Puts.length) rfl <| om (l3Do.length = l3Do.length) rfl <| fe Tryz.func54 h))

/-! ### spec_SerialAll -/
noncomputable def spec_SerialAll_c : Code := bodyOf Tryz.f17
noncomputable def spec_SerialAll_X : Sig := { f := 17, fn := Tryz.f17, rms := [.val [some 2] [], .val [some 1] []], oms := [none, none] }
noncomputable def spec_SerialAll_R (r : (List TBox) × List Int) : V := .tup [vsl 2 eBox r.1, vsl 1 eI r.2]
noncomputable def spec_SerialAll_O (r : (List TBox) × List Int) : List (Option V) := [none, none]
noncomputable def spec_SerialAll_t (i : Nat) (fr : Bool) (r : (List TBox) × List Int) : Nat × Tell := (i, { a := .call [.val [some 2] [], .val [some 1] []] fr (spec_SerialAll_R r) (spec_SerialAll_O r) })
noncomputable def spec_SerialAll_k1 : List Item := posI 2000 6 [false, false] [.code spec_SerialAll_c]
noncomputable def spec_SerialAll_S1 (out1 : List Int) (x_1 : List TBox) : St := ⟨(bs 6 (.own 1 0 1 0 out1.length :: (vsl 2 eBox x_1 :: (bs 44 [])))), [some [], some [erow 3 1 eI out1]]⟩
noncomputable def spec_SerialAll_k2 (out1 : List Int) (x_1 : List TBox) : Option ((List TBox) × List Int) :=
  some (x_1, out1)
theorem spec_SerialAll_k2_ok (r : (List TBox) × List Int) (out1 : List Int) (x_1 : List TBox) (h : spec_SerialAll_k2 out1 x_1 = some r) : Fin cx spec_SerialAll_X (spec_SerialAll_R r) (spec_SerialAll_O r) spec_SerialAll_k1 (spec_SerialAll_S1 out1 x_1) :=
  P0 <|
 rg <| om (out1.length = out1.length) rfl <| fe Tryz.func17 h
noncomputable def spec_SerialAll_k3 : List Item := posI 2000 5 [false] [.code spec_SerialAll_c]
noncomputable def spec_SerialAll_S2 (progs : List (List TIns)) (out : List Int) (x_ : List TBox) (i : Int) : St := ⟨(bs 1 (vsl 1 eInsS progs :: (bs 4 (.own 1 0 1 0 out.length :: (vsl 2 eBox x_ :: (vi i :: (bs 43 []))))))), [some [], some [erow 3 1 eI out]]⟩
noncomputable def spec_SerialAll_b1 (progs : List (List TIns)) (out : List Int) (x_ : List TBox) (i : Int) : Option (Stp ((List TBox) × List Int) ((List Int) × (List TBox) × Int) ((List Int) × List TBox)) :=
  (bif decide (i < (progs.length : Int)) then
 ((idx progs i).bind fun y =>
 ((spec_SerialOne x_ y).bind fun serialOne =>
 (bif (serialOne.2.2 == 3) then
 some (Stp.ret (([] : List TBox), ([] : List Int)))
 else
 (need ((out.length + 1) * 8 ≤ 140737488355328)
 (some (Stp.nxt (out ++ [serialOne.2.1], serialOne.1, w64 (i + 1))))))))
 else
 some (Stp.brk (out, x_)))
theorem spec_SerialAll_b1_ok (progs : List (List TIns)) (res : V) (outs : List (Option V)) (x1 : Exc ((List TBox) × List Int) ((List Int) × List TBox)) (hb1 : HB cx spec_SerialAll_X res outs x1 spec_SerialAll_k1 (fun s => spec_SerialAll_S1 s.1 s.2)) (hr1 : HR res outs x1 spec_SerialAll_R spec_SerialAll_O) (st1 : Stp ((List TBox) × List Int) ((List Int) × (List TBox) × Int) ((List Int) × List TBox)) (hc1 : Cont x1 (fun s : (List Int) × (List TBox) × Int => Fin cx spec_SerialAll_X res outs spec_SerialAll_k3 (spec_SerialAll_S2 progs s.1 s.2.1 s.2.2)) st1) (out : List Int) (x_ : List TBox) (i : Int) (h : spec_SerialAll_b1 progs out x_ i = some st1) : Fin cx spec_SerialAll_X res outs spec_SerialAll_k3 (spec_SerialAll_S2 progs out x_ i) :=
  P0 <|
 rg <| cdD 3 h (fun h =>
 rg <| ixS eInsS 3 h fun y hy h =>
 cb spec_SerialOne_t spec_SerialOne_ok 5 false h fun serialOne h =>
 rg <| cdD 1 h (fun h =>
 rg <| tl (0, { a := .ck [] }) <| tl (1, { a := .ck [] }) <| (retD h hc1 fun e => om (0 = ([] : List TBox).length) (by simp) <| om (0 = ([] : List Int).length) (by simp) <| fn0 Tryz.func17 (hr1 _ e))) (fun h =>
 rg2 <| tl (2, { a := .ck [] }) <| needD h fun e1 h =>
 apS 3 26 3 1 8 eI out serialOne.2.1 e1 <| om (1 = [serialOne.2.1].length) (by rfl) <| rg <| (nxtD h hc1 fun hI => sg [] [1, 6, 7, 8] [(26, 0)] hI))) (fun h =>
 (brkD h hc1 fun e => sg [] [6, 7] [(1, 0)] (hb1 _ e)))
noncomputable def spec_SerialAll (list : List TBox) (progs : List (List TIns)) : Option ((List TBox) × List Int) :=
  ((spec_BoxOk list).bind fun boxOk =>
 (bif (!boxOk) then
 some (([] : List TBox), ([] : List Int))
 else
 (bif decide ((progs.length : Int) > 100) then
 some (([] : List TBox), ([] : List Int))
 else
 ((spec_l1Copy list).bind fun l1Copy =>
 ((loop (fun s : (List Int) × (List TBox) × Int => spec_SerialAll_b1 progs s.1 s.2.1 s.2.2) (([] : List Int), l1Copy, 0)).bind fun x => x.go (fun r => some r) fun s => spec_SerialAll_k2 s.1 s.2)))))
theorem spec_SerialAll_ok {list : List TBox} {progs : List (List TIns)} (r : (List TBox) × List Int) (h : spec_SerialAll list progs = some r) : ACalls cx.P 17 [vsl 2 eBox list, vsl 1 eInsS progs] (spec_SerialAll_R r) (spec_SerialAll_O r) :=
  ACalls.of (cx := cx) (X := spec_SerialAll_X) (c := spec_SerialAll_c) Tryz.func17 (by kernel_rfl) (by kernel_rfl) (by kernel_rfl) (P0 <|
 rg2 <| cb spec_BoxOk_t spec_BoxOk_ok 1 false h fun boxOk h =>
 cdD 3 h (fun h =>
 rg <| tl (0, { a := .ck [] }) <| tl (1, { a := .ck [] }) <| om (0 = ([] : List TBox).length) (by simp) <| om (0 = ([] : List Int).length) (by simp) <| fe Tryz.func17 h) (fun h =>
 cdD 7 h (fun h =>
 rg <| tl (0, { a := .ck [] }) <| tl (1, { a := .ck [] }) <| om (0 = ([] : List TBox).length) (by simp) <| om (0 = ([] : List Int).length) (by simp) <| fe Tryz.func17 h) (fun h =>
 rg <| tl (0, { a := .ck [] }) <| rg <| cb spec_l1Copy_t spec_l1Copy_ok 1 false h fun l1Copy h =>
 rg <| loopJ h fun x hl hr hb => om (l1Copy.length = l1Copy.length) rfl <| om ((.own 11 0 1 0 0 : V) = .own 11 0 1 0 ([] : List Int).length) (by simp) <| sg [.frz (.tmp 7) (none), .is (.tmp 6) (.own 11 0 1 0 ([] : List Int).length)] [1, 6, 7, 8] [(11, 0)] (loopD (I := fun s : (List Int) × (List TBox) × Int => Fin cx spec_SerialAll_X (spec_SerialAll_R r) (spec_SerialAll_O r) spec_SerialAll_k3 (spec_SerialAll_S2 progs s.1 s.2.1 s.2.2)) hl fun s st h hc => spec_SerialAll_b1_ok progs _ _ x (fun s e => spec_SerialAll_k2_ok r s.1 s.2 (hb s e)) (fun v e => ⟨congrArg spec_SerialAll_R (Option.some.inj (hr v e)).symm, congrArg spec_SerialAll_O (Option.some.inj (hr v e)).symm⟩) st hc s.1 s.2.1 s.2.2 h))))

/-! ### spec_CertFold -/
noncomputable def spec_CertFold_c : Code := bodyOf Tryz.f20
noncomputable def spec_CertFold_X : Sig := { f := 20, fn := Tryz.f20, rms := [.val [none, some 2, some 4] []], oms := [none] }
noncomputable def spec_CertFold_R (r : TState) : V := .agg (eState r)
noncomputable def spec_CertFold_O (r : TState) : List (Option V) := [none]
noncomputable def spec_CertFold_t (i : Nat) (fr : Bool) (r : TState) : Nat × Tell := (i, { a := .call [.val [some 7] []] fr (spec_CertFold_R r) (spec_CertFold_O r) })
noncomputable def spec_CertFold_k1 : List Item := posI 2000 5 [false, false] [.code spec_CertFold_c]
noncomputable def spec_CertFold_S1 (Boxes1 : List TBox) (sAt1 : Int) (sDones1 : List TDone) : St := ⟨(bs 2 (.ptr 1 0 0 :: (.ptr 2 0 0 :: (bs 32 [])))), [some [], some [.var 58 [vi 0, .nil, .nil]], some [.var 58 [vi sAt1, .own 3 0 2 0 Boxes1.length, vsl 4 eDone sDones1]], some [erow 128 2 eBox Boxes1]]⟩
noncomputable def spec_CertFold_k2 (Boxes1 : List TBox) (sAt1 : Int) (sDones1 : List TDone) : Option TState :=
  some (TState.mk sAt1 Boxes1 sDones1)
theorem spec_CertFold_k2_ok (r : TState) (Boxes1 : List TBox) (sAt1 : Int) (sDones1 : List TDone) (h : spec_CertFold_k2 Boxes1 sAt1 sDones1 = some r) : Fin cx spec_CertFold_X (spec_CertFold_R r) (spec_CertFold_O r) spec_CertFold_k1 (spec_CertFold_S1 Boxes1 sAt1 sDones1) :=
  P0 <|
 rg <| om (Boxes1.length = Boxes1.length) rfl <| fe Tryz.func20 h
noncomputable def spec_CertFold_k3 : List Item := posI 2000 4 [false] [.code spec_CertFold_c]
noncomputable def spec_CertFold_S2 (list : List TEntry) (Boxes : List TBox) (i : Int) (sAt : Int) (sDones : List TDone) : St := ⟨(vsl 7 eEntry list :: (bs 1 (.ptr 1 0 0 :: (.ptr 2 0 0 :: (vi i :: (bs 31 [])))))), [some [], some [.var 58 [vi 0, .nil, .nil]], some [.var 58 [vi sAt, .own 3 0 2 0 Boxes.length, vsl 4 eDone sDones]], some [erow 128 2 eBox Boxes]]⟩
noncomputable def spec_CertFold_b1 (list : List TEntry) (Boxes : List TBox) (i : Int) (sAt : Int) (sDones : List TDone) : Option (Stp TState ((List TBox) × Int × Int × List TDone) ((List TBox) × Int × List TDone)) :=
  (bif decide (i < (list.length : Int)) then
 ((idx list i).bind fun entry =>
 ((spec_CertEntry entry).bind fun certEntry =>
 (bif (!certEntry) then
 some (Stp.ret (TState.mk 0 [] []))
 else
 ((spec_l5Apply (TState.mk sAt Boxes sDones) entry).bind fun l5Apply =>
 some (Stp.nxt (l5Apply.1.Boxes, w64 (i + 1), l5Apply.1.At, l5Apply.1.Dones))))))
 else
 some (Stp.brk (Boxes, sAt, sDones)))
theorem spec_CertFold_b1_ok (list : List TEntry) (res : V) (outs : List (Option V)) (x1 : Exc TState ((List TBox) × Int × List TDone)) (hb1 : HB cx spec_CertFold_X res outs x1 spec_CertFold_k1 (fun s => spec_CertFold_S1 s.1 s.2.1 s.2.2)) (hr1 : HR res outs x1 spec_CertFold_R spec_CertFold_O) (st1 : Stp TState ((List TBox) × Int × Int × List TDone) ((List TBox) × Int × List TDone)) (hc1 : Cont x1 (fun s : (List TBox) × Int × Int × List TDone => Fin cx spec_CertFold_X res outs spec_CertFold_k3 (spec_CertFold_S2 list s.1 s.2.1 s.2.2.1 s.2.2.2)) st1) (Boxes : List TBox) (i : Int) (sAt : Int) (sDones : List TDone) (h : spec_CertFold_b1 list Boxes i sAt sDones = some st1) : Fin cx spec_CertFold_X res outs spec_CertFold_k3 (spec_CertFold_S2 list Boxes i sAt sDones) :=
  P0 <|
 rg <| cdD 3 h (fun h =>
 rg <| ixS eEntry 2 h fun entry hentry h =>
 cb spec_CertEntry_t spec_CertEntry_ok 4 false h fun certEntry h =>
 cdD 5 h (fun h =>
 rg <| (retD h hc1 fun e => fn0 Tryz.func20 (hr1 _ e))) (fun h =>
 rg <| ixR eEntry 3 hentry <| cb spec_l5Apply_t spec_l5Apply_ok 5 false h fun l5Apply h =>
 om (Boxes.length = Boxes.length) rfl <| rg2 <| (nxtD h hc1 fun hI => sg [] [0, 2, 3, 4] [(1, 0), (2, 0), (19, 0)] hI))) (fun h =>
 (brkD h hc1 fun e => sg [] [2, 3] [(1, 0), (2, 0), (3, 0)] (hb1 _ e)))
noncomputable def spec_CertFold (list : List TEntry) : Option TState :=
  ((spec_CertOpen).bind fun certOpen =>
 (bif decide ((list.length : Int) > 40) then
 some (TState.mk 0 [] [])
 else
 ((loop (fun s : (List TBox) × Int × Int × List TDone => spec_CertFold_b1 list s.1 s.2.1 s.2.2.1 s.2.2.2) (certOpen.Boxes, 0, certOpen.At, certOpen.Dones)).bind fun x => x.go (fun r => some r) fun s => spec_CertFold_k2 s.1 s.2.1 s.2.2)))
theorem spec_CertFold_ok {list : List TEntry} (r : TState) (h : spec_CertFold list = some r) : ACalls cx.P 20 [vsl 7 eEntry list] (spec_CertFold_R r) (spec_CertFold_O r) :=
  ACalls.of (cx := cx) (X := spec_CertFold_X) (c := spec_CertFold_c) Tryz.func20 (by kernel_rfl) (by kernel_rfl) (by kernel_rfl) (P0 <|
 rg2 <| cb spec_CertOpen_t spec_CertOpen_ok 0 false h fun certOpen h =>
 rg <| cdD 2 h (fun h =>
 rg <| fe Tryz.func20 h) (fun h =>
 rg <| loopJ h fun x hl hr hb => sg [] [0, 2, 3, 4] [(1, 0), (3, 0), (2, 0)] (loopD (I := fun s : (List TBox) × Int × Int × List TDone => Fin cx spec_CertFold_X (spec_CertFold_R r) (spec_CertFold_O r) spec_CertFold_k3 (spec_CertFold_S2 list s.1 s.2.1 s.2.2.1 s.2.2.2)) hl fun s st h hc => spec_CertFold_b1_ok list _ _ x (fun s e => spec_CertFold_k2_ok r s.1 s.2.1 s.2.2 (hb s e)) (fun v e => ⟨congrArg spec_CertFold_R (Option.some.inj (hr v e)).symm, congrArg spec_CertFold_O (Option.some.inj (hr v e)).symm⟩) st hc s.1 s.2.1 s.2.2.1 s.2.2.2 h)))

/-! ### spec_BoxSame -/
noncomputable def spec_BoxSame_c : Code := bodyOf Tryz.f19
noncomputable def spec_BoxSame_X : Sig := { f := 19, fn := Tryz.f19, rms := [.val [] []], oms := [none, none] }
noncomputable def spec_BoxSame_R (r : Bool) : V := .b r
noncomputable def spec_BoxSame_O (r : Bool) : List (Option V) := [none, none]
noncomputable def spec_BoxSame_t (i : Nat) (fr : Bool) (r : Bool) : Nat × Tell := (i, { a := .call [.val [some 2] [], .val [some 2] []] fr (spec_BoxSame_R r) (spec_BoxSame_O r) })
noncomputable def spec_BoxSame_k1 : List Item := posI 2000 4 [false, false] [.code spec_BoxSame_c]
noncomputable def spec_BoxSame_S1 : St := ⟨(bs 26 []), [some []]⟩
noncomputable def spec_BoxSame_k2 : Option Bool :=
  some true
theorem spec_BoxSame_k2_ok (r : Bool) (h : spec_BoxSame_k2 = some r) : Fin cx spec_BoxSame_X (spec_BoxSame_R r) (spec_BoxSame_O r) spec_BoxSame_k1 (spec_BoxSame_S1) :=
  P0 <|
 rg <| fe Tryz.func19 h
noncomputable def spec_BoxSame_k3 : List Item := posI 2000 3 [false] [.code spec_BoxSame_c]
noncomputable def spec_BoxSame_S2 (a : List TBox) (b : List TBox) (i : Int) : St := ⟨(vsl 2 eBox a :: (vsl 2 eBox b :: (bs 3 (vi i :: (bs 20 []))))), [some []]⟩
noncomputable def spec_BoxSame_b1 (a : List TBox) (b : List TBox) (i : Int) : Option (Stp Bool Int Unit) :=
  (bif decide (i < (a.length : Int)) then
 ((idx a i).bind fun box =>
 ((idx b i).bind fun box1 =>
 (bif (!(([box.Ver, box.Val] : List Int) == [box1.Ver, box1.Val])) then
 some (Stp.ret false)
 else
 some (Stp.nxt (w64 (i + 1))))))
 else
 some (Stp.brk ()))
theorem spec_BoxSame_b1_ok (a : List TBox) (b : List TBox) (res : V) (outs : List (Option V)) (x1 : Exc Bool Unit) (hb1 : HB cx spec_BoxSame_X res outs x1 spec_BoxSame_k1 (fun s => spec_BoxSame_S1)) (hr1 : HR res outs x1 spec_BoxSame_R spec_BoxSame_O) (st1 : Stp Bool Int Unit) (hc1 : Cont x1 (fun s : Int => Fin cx spec_BoxSame_X res outs spec_BoxSame_k3 (spec_BoxSame_S2 a b s)) st1) (i : Int) (h : spec_BoxSame_b1 a b i = some st1) : Fin cx spec_BoxSame_X res outs spec_BoxSame_k3 (spec_BoxSame_S2 a b i) :=
  P0 <|
 rg <| cdD 3 h (fun h =>
 rg <| ixS eBox 2 h fun box hbox h =>
 ixS eBox 6 h fun box1 hbox1 h =>
 cdD 8 h (fun h =>
 rg <| (retD h hc1 fun e => fn0 Tryz.func19 (hr1 _ e))) (fun h =>
 rg <| (nxtD h hc1 fun hI => sg [] [0, 1, 5] [] hI))) (fun h =>
 (brkD h hc1 fun e => sg [] [] [] (hb1 _ e)))
noncomputable def spec_BoxSame (a : List TBox) (b : List TBox) : Option Bool :=
  (bif ((a.length : Int) != (b.length : Int)) then
 some false
 else
 ((loop (fun s : Int => spec_BoxSame_b1 a b s) 0).bind fun x => x.go (fun r => some r) fun s => spec_BoxSame_k2))
theorem spec_BoxSame_ok {a : List TBox} {b : List TBox} (r : Bool) (h : spec_BoxSame a b = some r) : ACalls cx.P 19 [vsl 2 eBox a, vsl 2 eBox b] (spec_BoxSame_R r) (spec_BoxSame_O r) :=
  ACalls.of (cx := cx) (X := spec_BoxSame_X) (c := spec_BoxSame_c) Tryz.func19 (by kernel_rfl) (by kernel_rfl) (by kernel_rfl) (P0 <|
 rg2 <| cdD 4 h (fun h =>
 rg <| fe Tryz.func19 h) (fun h =>
 rg <| loopJ h fun x hl hr hb => sg [] [0, 1, 5] [] (loopD (I := fun s : Int => Fin cx spec_BoxSame_X (spec_BoxSame_R r) (spec_BoxSame_O r) spec_BoxSame_k3 (spec_BoxSame_S2 a b s)) hl fun s st h hc => spec_BoxSame_b1_ok a b _ _ x (fun s e => spec_BoxSame_k2_ok r (hb s e)) (fun v e => ⟨congrArg spec_BoxSame_R (Option.some.inj (hr v e)).symm, congrArg spec_BoxSame_O (Option.some.inj (hr v e)).symm⟩) st hc s h)))

/-! ### spec_l10Val -/
noncomputable def spec_l10Val_c : Code := bodyOf Tryz.f21
noncomputable def spec_l10Val_X : Sig := { f := 21, fn := Tryz.f21, rms := [.val [] []], oms := [none, none] }
noncomputable def spec_l10Val_R (r : Int) : V := vi r
noncomputable def spec_l10Val_O (r : Int) : List (Option V) := [none, none]
noncomputable def spec_l10Val_t (i : Nat) (fr : Bool) (r : Int) : Nat × Tell := (i, { a := .call [.val [some 7] [], .val [] []] fr (spec_l10Val_R r) (spec_l10Val_O r) })
noncomputable def spec_l10Val_k1 : List Item := posI 2000 3 [false] [.code spec_l10Val_c]
noncomputable def spec_l10Val_S1 : St := ⟨(bs 33 []), [some []]⟩
noncomputable def spec_l10Val_k2 : Option Int :=
  some 0
theorem spec_l10Val_k2_ok (r : Int) (h : spec_l10Val_k2 = some r) : Fin cx spec_l10Val_X (spec_l10Val_R r) (spec_l10Val_O r) spec_l10Val_k1 (spec_l10Val_S1) :=
  P0 <|
 rg <| fe Tryz.func21 h
noncomputable def spec_l10Val_k3 : List Item := posI 2000 2 [] [.code spec_l10Val_c]
noncomputable def spec_l10Val_S2 (list : List TEntry) (q : TReq) (i : Int) : St := ⟨(vsl 7 eEntry list :: (bs 2 (.ptr 1 0 0 :: (bs 1 (vi i :: (bs 27 [])))))), [some [], some [.var 62 [vi q.Who, vi q.Seq]]]⟩
noncomputable def spec_l10Val_k4 : List Item := posI 2000 4 [true, false] [.code spec_l10Val_c]
noncomputable def spec_l10Val_S3 (list : List TEntry) (q : TReq) (i : Int) : St := ⟨(vsl 7 eEntry list :: (bs 2 (.ptr 1 0 0 :: (bs 1 (vi i :: (bs 27 [])))))), [some [], some [.var 62 [vi q.Who, vi q.Seq]]]⟩
noncomputable def spec_l10Val_j1 (i : Int) : Option (Stp Int Int Unit) :=
  some (Stp.nxt (w64 (i + 1)))
theorem spec_l10Val_j1_ok (list : List TEntry) (q : TReq) (i : Int) (res : V) (outs : List (Option V)) (x1 : Exc Int Unit) (hb1 : HB cx spec_l10Val_X res outs x1 spec_l10Val_k1 (fun s => spec_l10Val_S1)) (hr1 : HR res outs x1 spec_l10Val_R spec_l10Val_O) (st1 : Stp Int Int Unit) (hc1 : Cont x1 (fun s : Int => Fin cx spec_l10Val_X res outs spec_l10Val_k3 (spec_l10Val_S2 list q s)) st1) (h : spec_l10Val_j1 i = some st1) : Fin cx spec_l10Val_X res outs spec_l10Val_k4 (spec_l10Val_S3 list q i) :=
  P0 <|
 rg <| (nxtD h hc1 fun hI => sg [] [0, 3, 5] [(1, 0)] hI)
noncomputable def spec_l10Val_b1 (list : List TEntry) (q : TReq) (i : Int) : Option (Stp Int Int Unit) :=
  (bif decide (i < (list.length : Int)) then
 ((((idx list i).bind fun entry =>
 (bif (!entry.None) then
 (bif (([entry.Req.Who, entry.Req.Seq] : List Int) == [q.Who, q.Seq]) then
 some (Exc.ret (Stp.ret entry.Run.Val))
 else
 some (Exc.brk ()))
 else
 some (Exc.brk ()))) : Option (Exc (Stp Int Int Unit) Unit)).bind fun x => x.go some fun j => spec_l10Val_j1 i)
 else
 some (Stp.brk ()))
theorem spec_l10Val_b1_ok (list : List TEntry) (q : TReq) (res : V) (outs : List (Option V)) (x1 : Exc Int Unit) (hb1 : HB cx spec_l10Val_X res outs x1 spec_l10Val_k1 (fun s => spec_l10Val_S1)) (hr1 : HR res outs x1 spec_l10Val_R spec_l10Val_O) (st1 : Stp Int Int Unit) (hc1 : Cont x1 (fun s : Int => Fin cx spec_l10Val_X res outs spec_l10Val_k3 (spec_l10Val_S2 list q s)) st1) (i : Int) (h : spec_l10Val_b1 list q i = some st1) : Fin cx spec_l10Val_X res outs spec_l10Val_k3 (spec_l10Val_S2 list q i) :=
  P0 <|
 rg <| cdD 3 h (fun h =>
 joinD (I := fun j : Unit => Fin cx spec_l10Val_X res outs spec_l10Val_k4 (spec_l10Val_S3 list q i)) h (fun j h => spec_l10Val_j1_ok list q i res outs x1 hb1 hr1 st1 hc1 h) (fun x2 h hc2 =>
  rg <| ixS eEntry 2 h fun entry hentry h =>
 cdD 6 h (fun h =>
 ixR eEntry 9 hentry <| cdD 14 h (fun h =>
 rg <| ixR eEntry 2 hentry <| (jretD h hc2 fun h => (retD h hc1 fun e => fn0 Tryz.func21 (hr1 _ e)))) (fun h =>
 (jbrkD h hc2 fun hI => sg [] [0, 3, 5] [(1, 0)] hI))) (fun h =>
 (jbrkD h hc2 fun hI => sg [] [0, 3, 5] [(1, 0)] hI)))) (fun h =>
 (brkD h hc1 fun e => sg [] [] [] (hb1 _ e)))
noncomputable def spec_l10Val (list : List TEntry) (q : TReq) : Option Int :=
  ((loop (fun s : Int => spec_l10Val_b1 list q s) 0).bind fun x => x.go (fun r => some r) fun s => spec_l10Val_k2)
theorem spec_l10Val_ok {list : List TEntry} {q : TReq} (r : Int) (h : spec_l10Val list q = some r) : ACalls cx.P 21 [vsl 7 eEntry list, .agg (eReq q)] (spec_l10Val_R r) (spec_l10Val_O r) :=
  ACalls.of (cx := cx) (X := spec_l10Val_X) (c := spec_l10Val_c) Tryz.func21 (by kernel_rfl) (by kernel_rfl) (by kernel_rfl) (P0 <|
 rg2 <| loopJ h fun x hl hr hb => sg [] [0, 3, 5] [(1, 0)] (loopD (I := fun s : Int => Fin cx spec_l10Val_X (spec_l10Val_R r) (spec_l10Val_O r) spec_l10Val_k3 (spec_l10Val_S2 list q s)) hl fun s st h hc => spec_l10Val_b1_ok list q _ _ x (fun s e => spec_l10Val_k2_ok r (hb s e)) (fun v e => ⟨congrArg spec_l10Val_R (Option.some.inj (hr v e)).symm, congrArg spec_l10Val_O (Option.some.inj (hr v e)).symm⟩) st hc s h))

/-! ### spec_ToldAlone -/
noncomputable def spec_ToldAlone_c : Code := bodyOf Tryz.f5
noncomputable def spec_ToldAlone_X : Sig := { f := 5, fn := Tryz.f5, rms := [.val [] []], oms := [none] }
noncomputable def spec_ToldAlone_R (r : Bool) : V := .b r
noncomputable def spec_ToldAlone_O (r : Bool) : List (Option V) := [none]
noncomputable def spec_ToldAlone_t (i : Nat) (fr : Bool) (r : Bool) : Nat × Tell := (i, { a := .call [.val ck35 []] fr (spec_ToldAlone_R r) (spec_ToldAlone_O r) })
noncomputable def spec_ToldAlone_k1 : List Item := posI 2000 10 [false, false, false, false] [.code spec_ToldAlone_c]
noncomputable def spec_ToldAlone_S1 : St := ⟨(bs 61 []), [some []]⟩
noncomputable def spec_ToldAlone_k2 : Option Bool :=
  some true
theorem spec_ToldAlone_k2_ok (r : Bool) (h : spec_ToldAlone_k2 = some r) : Fin cx spec_ToldAlone_X (spec_ToldAlone_R r) (spec_ToldAlone_O r) spec_ToldAlone_k1 (spec_ToldAlone_S1) :=
  P0 <|
 rg <| fe Tryz.func5 h
noncomputable def spec_ToldAlone_k3 : List Item := posI 2000 9 [false, false, false] [.code spec_ToldAlone_c]
noncomputable def spec_ToldAlone_S2 (worldLog : List TEntry) (toldDone : List TReq) (serialAll : (List TBox) × List Int) (i : Int) : St := ⟨(bs 3 (vsl 7 eEntry worldLog :: (vsl 2 eReq toldDone :: (bs 3 (vsl 1 eI serialAll.2 :: (vi i :: (bs 51 []))))))), [some []]⟩
noncomputable def spec_ToldAlone_b1 (worldLog : List TEntry) (toldDone : List TReq) (serialAll : (List TBox) × List Int) (i : Int) : Option (Stp Bool Int Unit) :=
  (bif decide (i < (toldDone.length : Int)) then
 ((idx serialAll.2 i).bind fun y =>
 ((idx toldDone i).bind fun req =>
 ((spec_l10Val worldLog req).bind fun l10Val =>
 (bif (y != l10Val) then
 some (Stp.ret false)
 else
 some (Stp.nxt (w64 (i + 1)))))))
 else
 some (Stp.brk ()))
theorem spec_ToldAlone_b1_ok (worldLog : List TEntry) (toldDone : List TReq) (serialAll : (List TBox) × List Int) (res : V) (outs : List (Option V)) (x1 : Exc Bool Unit) (hb1 : HB cx spec_ToldAlone_X res outs x1 spec_ToldAlone_k1 (fun s => spec_ToldAlone_S1)) (hr1 : HR res outs x1 spec_ToldAlone_R spec_ToldAlone_O) (st1 : Stp Bool Int Unit) (hc1 : Cont x1 (fun s : Int => Fin cx spec_ToldAlone_X res outs spec_ToldAlone_k3 (spec_ToldAlone_S2 worldLog toldDone serialAll s)) st1) (i : Int) (h : spec_ToldAlone_b1 worldLog toldDone serialAll i = some st1) : Fin cx spec_ToldAlone_X res outs spec_ToldAlone_k3 (spec_ToldAlone_S2 worldLog toldDone serialAll i) :=
  P0 <|
 rg <| cdD 3 h (fun h =>
 rg <| ixS eI 2 h fun y hy h =>
 ixS eReq 7 h fun req hreq h =>
 cb spec_l10Val_t spec_l10Val_ok 9 false h fun l10Val h =>
 cdD 10 h (fun h =>
 rg <| (retD h hc1 fun e => fn0 Tryz.func5 (hr1 _ e))) (fun h =>
 rg <| (nxtD h hc1 fun hI => sg [] [3, 4, 8, 9] [] hI))) (fun h =>
 (brkD h hc1 fun e => sg [] [] [] (hb1 _ e)))
noncomputable def spec_ToldAlone (w : TWorld) : Option Bool :=
  ((spec_WorldOk w).bind fun worldOk =>
 (bif (!worldOk) then
 some false
 else
 ((spec_WorldLog w).bind fun worldLog =>
 ((spec_ToldDone worldLog).bind fun toldDone =>
 ((spec_l10Progs w toldDone).bind fun l10Progs =>
 (bif (!l10Progs.2) then
 some false
 else
 ((spec_BoxOpen).bind fun boxOpen =>
 ((spec_SerialAll boxOpen l10Progs.1).bind fun serialAll =>
 (bif ((serialAll.2.length : Int) != (toldDone.length : Int)) then
 some false
 else
 ((spec_CertFold worldLog).bind fun certFold =>
 ((spec_BoxSame serialAll.1 certFold.Boxes).bind fun boxSame =>
 (bif (!boxSame) then
 some false
 else
 ((loop (fun s : Int => spec_ToldAlone_b1 worldLog toldDone serialAll s) 0).bind fun x => x.go (fun r => some r) fun s => spec_ToldAlone_k2)))))))))))))
theorem spec_ToldAlone_ok {w : TWorld} (r : Bool) (h : spec_ToldAlone w = some r) : ACalls cx.P 5 [.agg (eWorld w)] (spec_ToldAlone_R r) (spec_ToldAlone_O r) :=
  ACalls.of (cx := cx) (X := spec_ToldAlone_X) (c := spec_ToldAlone_c) Tryz.func5 (by kernel_rfl) (by kernel_rfl) (by kernel_rfl) (P0 <|
 rg2 <| cb spec_WorldOk_t spec_WorldOk_ok 1 false h fun worldOk h =>
 cdD 2 h (fun h =>
 rg <| fe Tryz.func5 h) (fun h =>
 rg <| cb spec_WorldLog_t spec_WorldLog_ok 1 false h fun worldLog h =>
 rg <| cb spec_ToldDone_t spec_ToldDone_ok 1 false h fun toldDone h =>
 rg <| cb spec_l10Progs_t spec_l10Progs_ok 2 false h fun l10Progs h =>
 rg <| cdD 1 h (fun h =>
 rg <| fe Tryz.func5 h) (fun h =>
 rg <| cb spec_BoxOpen_t spec_BoxOpen_ok 0 false h fun boxOpen h =>
 cb spec_SerialAll_t spec_SerialAll_ok 2 false h fun serialAll h =>
 om (boxOpen.length = boxOpen.length) rfl <| rg <| cdD 5 h (fun h =>
 rg <| fe Tryz.func5 h) (fun h =>
 cb spec_CertFold_t spec_CertFold_ok 8 false h fun certFold h =>
 cb spec_BoxSame_t spec_BoxSame_ok 10 false h fun boxSame h =>
 cdD 12 h (fun h =>
 rg <| fe Tryz.func5 h) (fun h =>
 rg <| loopJ h fun x hl hr hb => sg [] [3, 4, 8, 9] [] (loopD (I := fun s : Int => Fin cx spec_ToldAlone_X (spec_ToldAlone_R r) (spec_ToldAlone_O r) spec_ToldAlone_k3 (spec_ToldAlone_S2 worldLog toldDone serialAll s)) hl fun s st h hc => spec_ToldAlone_b1_ok worldLog toldDone serialAll _ _ x (fun s e => spec_ToldAlone_k2_ok r (hb s e)) (fun v e => ⟨congrArg spec_ToldAlone_R (Option.some.inj (hr v e)).symm, congrArg spec_ToldAlone_O (Option.some.inj (hr v e)).symm⟩) st hc s h))))))

/-! ### impl_in -/
noncomputable def impl_in_c : Code := bodyOf Tryz.f64
noncomputable def impl_in_X : Sig := { f := 64, fn := Tryz.f64, rms := [.val [] []], oms := [none, none, none] }
noncomputable def impl_in_R (r : Bool) : V := .b r
noncomputable def impl_in_O (r : Bool) : List (Option V) := [none, none, none]
noncomputable def impl_in_t (i : Nat) (fr : Bool) (r : Bool) : Nat × Tell := (i, { a := .call [.val [] [], .val [] [], .val [] []] fr (impl_in_R r) (impl_in_O r) })
noncomputable def impl_in (n : Int) (low : Int) (high : Int) : Option Bool :=
  (bif decide (n ≥ low) then
 some (decide (n ≤ high))
 else
 some false)
theorem impl_in_ok {n : Int} {low : Int} {high : Int} (r : Bool) (h : impl_in n low high = some r) : ACalls cx.P 64 [vi n, vi low, vi high] (impl_in_R r) (impl_in_O r) :=
  ACalls.of (cx := cx) (X := impl_in_X) (c := impl_in_c) Tryz.func64 (by kernel_rfl) (by kernel_rfl) (by kernel_rfl) (P0 <|
 rg2 <| cdD 3 h (fun h =>
 fe Tryz.func64 h) (fun h =>
 fe Tryz.func64 h))


end Go.Proofs.YtggngdffdglolaaGreat
