/- Functions of the program, and that their calls come to this. -/
import Derived.Test.YtnbiggnidjfgeaaGreatF1
set_option linter.unusedVariables false
set_option linter.unusedSimpArgs false
namespace Go.Proofs.YtnbiggnidjfgeaaGreat
open Go

/-! ### spec_NodeOk -/
noncomputable def spec_NodeOk_c : Code := bodyOf Tryz.f26
noncomputable def spec_NodeOk_X : Sig := { f := 26, fn := Tryz.f26, rms := [.val [] []], oms := [none] }
noncomputable def spec_NodeOk_R (r : Bool) : V := .b r
noncomputable def spec_NodeOk_O (r : Bool) : List (Option V) := [none]
noncomputable def spec_NodeOk_t (i : Nat) (fr : Bool) (r : Bool) : Nat × Tell := (i, { a := .call [.val ck90 []] fr (spec_NodeOk_R r) (spec_NodeOk_O r) })
noncomputable def spec_NodeOk_k1 : List Item := posI 2000 4 [false, false] [.code spec_NodeOk_c]
noncomputable def spec_NodeOk_S1 : St := ⟨(bs 72 []), [some []]⟩
noncomputable def spec_NodeOk_k2 : Option Bool :=
  some true
theorem spec_NodeOk_k2_ok (r : Bool) (h : spec_NodeOk_k2 = some r) : Fin cx spec_NodeOk_X (spec_NodeOk_R r) (spec_NodeOk_O r) spec_NodeOk_k1 (spec_NodeOk_S1) :=
  P0 <|
 rg <| fe Tryz.func26 h
noncomputable def spec_NodeOk_k3 : List Item := posI 2000 3 [false] [.code spec_NodeOk_c]
noncomputable def spec_NodeOk_S2 (n : TNode) (i : Int) : St := ⟨(bs 1 (.ptr 1 0 0 :: (bs 1 (vi i :: (bs 68 []))))), [some [], some [.var 90 [vi n.Id, vi n.Acc.Promised, vsl 8 eVote n.Acc.Votes, vsl 7 eEntry n.Known, vi n.Seq, vi n.Phase, vi n.Bal, vsl 1 eB n.From, vsl 8 eVote n.Best, .b n.Cur.None, vi n.Cur.Req.Who, vi n.Cur.Req.Seq, vsl 2 eRead n.Cur.Run.Reads, vsl 2 ePut n.Cur.Run.Puts, vi n.Cur.Run.Val, vi n.Cur.Run.Code, vsl 1 eB n.Votes, .b n.Busy, vsl 4 eIns n.Prog, .b n.Want.None, vi n.Want.Req.Who, vi n.Want.Req.Seq, vsl 2 eRead n.Want.Run.Reads, vsl 2 ePut n.Want.Run.Puts, vi n.Want.Run.Val, vi n.Want.Run.Code, vsl 7 eEntry n.Queue]]]⟩
noncomputable def spec_NodeOk_b1 (n : TNode) (i : Int) : Option (Stp Bool Int Unit) :=
  (bif decide (i < (n.Queue.length : Int)) then
 ((idx n.Queue i).bind fun entry =>
 ((spec_CertEntry entry).bind fun certEntry =>
 (bif (!certEntry) then
 some (Stp.ret false)
 else
 (bif entry.None then
 some (Stp.ret false)
 else
 some (Stp.nxt (w64 (i + 1)))))))
 else
 some (Stp.brk ()))
theorem spec_NodeOk_b1_ok (n : TNode) (res : V) (outs : List (Option V)) (x1 : Exc Bool Unit) (hb1 : HB cx spec_NodeOk_X res outs x1 spec_NodeOk_k1 (fun s => spec_NodeOk_S1)) (hr1 : HR res outs x1 spec_NodeOk_R spec_NodeOk_O) (st1 : Stp Bool Int Unit) (hc1 : Cont x1 (fun s : Int => Fin cx spec_NodeOk_X res outs spec_NodeOk_k3 (spec_NodeOk_S2 n s)) st1) (i : Int) (h : spec_NodeOk_b1 n i = some st1) : Fin cx spec_NodeOk_X res outs spec_NodeOk_k3 (spec_NodeOk_S2 n i) :=
  P0 <|
 rg <| cdD 4 h (fun h =>
 rg <| ixS eEntry 3 h fun entry hentry h =>
 cb spec_CertEntry_t spec_CertEntry_ok 5 false h fun certEntry h =>
 cdD 7 h (fun h =>
 rg <| (retD h hc1 fun e => fn0 Tryz.func26 (hr1 _ e))) (fun h =>
 ixR eEntry 11 hentry <| cdD 14 h (fun h =>
 rg <| (retD h hc1 fun e => fn0 Tryz.func26 (hr1 _ e))) (fun h =>
 rg <| (nxtD h hc1 fun hI => sg [] [1, 3] [(1, 0)] hI)))) (fun h =>
 (brkD h hc1 fun e => sg [] [] [] (hb1 _ e)))
noncomputable def spec_NodeOk (n : TNode) : Option Bool :=
  (bif decide (n.Id < 0) then
 some false
 else
 (bif decide (n.Id ≥ 3) then
 some false
 else
 ((spec_AccOk n.Acc).bind fun accOk =>
 (bif (!accOk) then
 some false
 else
 ((spec_l8Known n.Known).bind fun l8Known =>
 (bif (!l8Known) then
 some false
 else
 (bif decide (n.Seq < 0) then
 some false
 else
 (bif decide (n.Seq > 1000) then
 some false
 else
 (bif decide ((n.Queue.length : Int) > 4) then
 some false
 else
 ((spec_l8Lead n).bind fun l8Lead =>
 (bif (!l8Lead) then
 some false
 else
 ((spec_l8Wants n).bind fun l8Wants =>
 (bif (!l8Wants) then
 some false
 else
 ((loop (fun s : Int => spec_NodeOk_b1 n s) 0).bind fun x => x.go (fun r => some r) fun s => spec_NodeOk_k2))))))))))))))
theorem spec_NodeOk_ok {n : TNode} (r : Bool) (h : spec_NodeOk n = some r) : ACalls cx.P 26 [.agg (eNode n)] (spec_NodeOk_R r) (spec_NodeOk_O r) :=
  ACalls.of (cx := cx) (X := spec_NodeOk_X) (c := spec_NodeOk_c) Tryz.func26 (by kernel_rfl) (by kernel_rfl) (by kernel_rfl) (P0 <|
 rg2 <| cdD 3 h (fun h =>
 rg <| fe Tryz.func26 h) (fun h =>
 cdD 8 h (fun h =>
 rg <| fe Tryz.func26 h) (fun h =>
 cb spec_AccOk_t spec_AccOk_ok 11 false h fun accOk h =>
 cdD 14 h (fun h =>
 rg <| fe Tryz.func26 h) (fun h =>
 cb spec_l8Known_t spec_l8Known_ok 17 false h fun l8Known h =>
 cdD 20 h (fun h =>
 rg <| fe Tryz.func26 h) (fun h =>
 cdD 25 h (fun h =>
 rg <| fe Tryz.func26 h) (fun h =>
 cdD 30 h (fun h =>
 rg <| fe Tryz.func26 h) (fun h =>
 cdD 36 h (fun h =>
 rg <| fe Tryz.func26 h) (fun h =>
 cb spec_l8Lead_t spec_l8Lead_ok 38 false h fun l8Lead h =>
 cdD 41 h (fun h =>
 rg <| fe Tryz.func26 h) (fun h =>
 cb spec_l8Wants_t spec_l8Wants_ok 43 false h fun l8Wants h =>
 cdD 45 h (fun h =>
 rg <| fe Tryz.func26 h) (fun h =>
 rg <| loopJ h fun x hl hr hb => sg [] [1, 3] [(1, 0)] (loopD (I := fun s : Int => Fin cx spec_NodeOk_X (spec_NodeOk_R r) (spec_NodeOk_O r) spec_NodeOk_k3 (spec_NodeOk_S2 n s)) hl fun s st h hc => spec_NodeOk_b1_ok n _ _ x (fun s e => spec_NodeOk_k2_ok r (hb s e)) (fun v e => ⟨congrArg spec_NodeOk_R (Option.some.inj (hr v e)).symm, congrArg spec_NodeOk_O (Option.some.inj (hr v e)).symm⟩) st hc s h)))))))))))

/-! ### spec_MsgOk -/
noncomputable def spec_MsgOk_c : Code := bodyOf Tryz.f27
noncomputable def spec_MsgOk_X : Sig := { f := 27, fn := Tryz.f27, rms := [.val [] []], oms := [none] }
noncomputable def spec_MsgOk_R (r : Bool) : V := .b r
noncomputable def spec_MsgOk_O (r : Bool) : List (Option V) := [none]
noncomputable def spec_MsgOk_t (i : Nat) (fr : Bool) (r : Bool) : Nat × Tell := (i, { a := .call [.val ck94 []] fr (spec_MsgOk_R r) (spec_MsgOk_O r) })
noncomputable def spec_MsgOk_k1 : List Item := posI 2000 2 [false] [.code spec_MsgOk_c]
noncomputable def spec_MsgOk_S1 (m : TMsg) : St := ⟨(bs 1 (.ptr 1 0 0 :: (bs 158 []))), [some [], some [.var 94 [vi m.Kind, vi m.From, vi m.To, vi m.Bal, vi m.Slot, .b m.Entry.None, vi m.Entry.Req.Who, vi m.Entry.Req.Seq, vsl 2 eRead m.Entry.Run.Reads, vsl 2 ePut m.Entry.Run.Puts, vi m.Entry.Run.Val, vi m.Entry.Run.Code, vsl 8 eVote m.Votes]]]⟩
noncomputable def spec_MsgOk_k2 : List Item := posI 2000 4 [false] [.code spec_MsgOk_c]
noncomputable def spec_MsgOk_S2 (m : TMsg) (l7None : Bool) (right : Bool) : St := ⟨(bs 1 (.ptr 1 0 0 :: (bs 1 (.b l7None :: (.b right :: (bs 155 [])))))), [some [], some [.var 94 [vi m.Kind, vi m.From, vi m.To, vi m.Bal, vi m.Slot, .b m.Entry.None, vi m.Entry.Req.Who, vi m.Entry.Req.Seq, vsl 2 eRead m.Entry.Run.Reads, vsl 2 ePut m.Entry.Run.Puts, vi m.Entry.Run.Val, vi m.Entry.Run.Code, vsl 8 eVote m.Votes]]]⟩
noncomputable def spec_MsgOk_j1 (m : TMsg) (l7None : Bool) (right : Bool) : Option Bool :=
  (bif (m.Kind == 1) then
 ((spec_l6Bal m.Bal).bind fun l6Bal =>
 (bif l6Bal then
 some l7None
 else
 some false))
 else
 (bif (m.Kind == 2) then
 ((spec_l6Bal m.Bal).bind fun l6Bal1 =>
 (bif l6Bal1 then
 (bif l7None then
 ((spec_l6Votes m.Votes).bind fun l6Votes =>
 (bif l6Votes then
 some (decide ((w64 (m.Slot + (m.Votes.length : Int))) ≤ 40))
 else
 some false))
 else
 some false)
 else
 some false))
 else
 (bif (m.Kind == 3) then
 ((spec_l6Bal m.Bal).bind fun l6Bal2 =>
 (bif l6Bal2 then
 some right
 else
 some false))
 else
 (bif (m.Kind == 4) then
 ((spec_l6Bal m.Bal).bind fun l6Bal3 =>
 (bif l6Bal3 then
 some l7None
 else
 some false))
 else
 (bif (m.Kind == 5) then
 (bif (m.Bal == 0) then
 some right
 else
 some false)
 else
 (bif (m.Kind == 6) then
 ((spec_l6Bal m.Bal).bind fun l6Bal4 =>
 (bif l6Bal4 then
 (bif l7None then
 some (m.Slot == 0)
 else
 some false)
 else
 some false))
 else
 (bif (m.Kind == 7) then
 (bif (m.Bal == 0) then
 (bif (m.Slot == 0) then
 ((spec_CertEntry m.Entry).bind fun certEntry =>
 (bif certEntry then
 some (!m.Entry.None)
 else
 some false))
 else
 some false)
 else
 some false)
 else
 (bif (m.Kind == 8) then
 (bif (m.Bal == 0) then
 some l7None
 else
 some false)
 else
 some false))))))))
theorem spec_MsgOk_j1_ok (m : TMsg) (l7None : Bool) (r : Bool) (right : Bool) (h : spec_MsgOk_j1 m l7None right = some r) : Fin cx spec_MsgOk_X (spec_MsgOk_R r) (spec_MsgOk_O r) spec_MsgOk_k2 (spec_MsgOk_S2 m l7None right) :=
  P0 <|
 rg2 <| cdD 1 h (fun h =>
 rg <| cb spec_l6Bal_t spec_l6Bal_ok 2 false h fun l6Bal h =>
 cdD 3 h (fun h =>
 fe Tryz.func27 h) (fun h =>
 fe Tryz.func27 h)) (fun h =>
 rg <| cdD 1 h (fun h =>
 rg <| cb spec_l6Bal_t spec_l6Bal_ok 2 false h fun l6Bal1 h =>
 cdD 3 h (fun h =>
 cdD 6 h (fun h =>
 cb spec_l6Votes_t spec_l6Votes_ok 9 false h fun l6Votes h =>
 cdD 11 h (fun h =>
 fe Tryz.func27 h) (fun h =>
 fe Tryz.func27 h)) (fun h =>
 fe Tryz.func27 h)) (fun h =>
 fe Tryz.func27 h)) (fun h =>
 rg <| cdD 1 h (fun h =>
 rg <| cb spec_l6Bal_t spec_l6Bal_ok 2 false h fun l6Bal2 h =>
 cdD 3 h (fun h =>
 fe Tryz.func27 h) (fun h =>
 fe Tryz.func27 h)) (fun h =>
 rg <| cdD 1 h (fun h =>
 rg <| cb spec_l6Bal_t spec_l6Bal_ok 2 false h fun l6Bal3 h =>
 cdD 3 h (fun h =>
 fe Tryz.func27 h) (fun h =>
 fe Tryz.func27 h)) (fun h =>
 rg <| cdD 1 h (fun h =>
 rg <| cdD 3 h (fun h =>
 fe Tryz.func27 h) (fun h =>
 fe Tryz.func27 h)) (fun h =>
 rg <| cdD 1 h (fun h =>
 rg <| cb spec_l6Bal_t spec_l6Bal_ok 2 false h fun l6Bal4 h =>
 cdD 3 h (fun h =>
 cdD 6 h (fun h =>
 fe Tryz.func27 h) (fun h =>
 fe Tryz.func27 h)) (fun h =>
 fe Tryz.func27 h)) (fun h =>
 rg <| cdD 1 h (fun h =>
 rg <| cdD 3 h (fun h =>
 cdD 8 h (fun h =>
 cb spec_CertEntry_t spec_CertEntry_ok 11 false h fun certEntry h =>
 cdD 13 h (fun h =>
 fe Tryz.func27 h) (fun h =>
 fe Tryz.func27 h)) (fun h =>
 fe Tryz.func27 h)) (fun h =>
 fe Tryz.func27 h)) (fun h =>
 rg <| cdD 1 h (fun h =>
 rg <| cdD 3 h (fun h =>
 fe Tryz.func27 h) (fun h =>
 fe Tryz.func27 h)) (fun h =>
 rg <| fe Tryz.func27 h))))))))
noncomputable def spec_MsgOk_j2 (m : TMsg) : Option Bool :=
  ((spec_l7None m.Entry).bind fun l7None =>
 ((((spec_CertEntry m.Entry).bind fun certEntry1 =>
 (bif certEntry1 then
 some (Exc.brk (decide (m.Slot < 40)))
 else
 some (Exc.brk false))) : Option (Exc Bool Bool)).bind fun x => x.go some fun j => spec_MsgOk_j1 m l7None j))
theorem spec_MsgOk_j2_ok (m : TMsg) (r : Bool) (h : spec_MsgOk_j2 m = some r) : Fin cx spec_MsgOk_X (spec_MsgOk_R r) (spec_MsgOk_O r) spec_MsgOk_k1 (spec_MsgOk_S1 m) :=
  P0 <|
 rg <| cb spec_l7None_t spec_l7None_ok 2 false h fun l7None h =>
 joinD (I := fun j : Bool => Fin cx spec_MsgOk_X (spec_MsgOk_R r) (spec_MsgOk_O r) spec_MsgOk_k2 (spec_MsgOk_S2 m l7None j)) h (fun j h => spec_MsgOk_j1_ok m l7None r j h) (fun x1 h hc1 =>
  rg <| cb spec_CertEntry_t spec_CertEntry_ok 2 false h fun certEntry1 h =>
 cdD 3 h (fun h =>
 (jbrkD h hc1 fun hI => sg [] [1, 3, 4] [(1, 0)] hI)) (fun h =>
 (jbrkD h hc1 fun hI => sg [] [1, 3, 4] [(1, 0)] hI)))
noncomputable def spec_MsgOk (m : TMsg) : Option Bool :=
  (((bif decide (m.From < 0) then
 some (Exc.ret false)
 else
 (bif decide (m.From ≥ 3) then
 some (Exc.ret false)
 else
 (bif decide (m.To < 0) then
 some (Exc.ret false)
 else
 (bif decide (m.To ≥ 3) then
 some (Exc.ret false)
 else
 (bif (m.From == m.To) then
 some (Exc.ret false)
 else
 (bif decide (m.Slot < 0) then
 some (Exc.ret false)
 else
 (bif decide (m.Slot > 40) then
 some (Exc.ret false)
 else
 (bif (m.Kind != 2) then
 (bif decide ((m.Votes.length : Int) > 0) then
 some (Exc.ret false)
 else
 some (Exc.brk ()))
 else
 some (Exc.brk ()))))))))) : Option (Exc Bool Unit)).bind fun x => x.go some fun j => spec_MsgOk_j2 m)
theorem spec_MsgOk_ok {m : TMsg} (r : Bool) (h : spec_MsgOk m = some r) : ACalls cx.P 27 [.agg (eMsg m)] (spec_MsgOk_R r) (spec_MsgOk_O r) :=
  ACalls.of (cx := cx) (X := spec_MsgOk_X) (c := spec_MsgOk_c) Tryz.func27 (by kernel_rfl) (by kernel_rfl) (by kernel_rfl) (P0 <|
 rg <| joinD (I := fun j : Unit => Fin cx spec_MsgOk_X (spec_MsgOk_R r) (spec_MsgOk_O r) spec_MsgOk_k1 (spec_MsgOk_S1 m)) h (fun j h => spec_MsgOk_j2_ok m r h) (fun x1 h hc1 =>
  rg <| cdD 3 h (fun h =>
 rg <| (jretD h hc1 fun h => fe Tryz.func27 h)) (fun h =>
 cdD 8 h (fun h =>
 rg <| (jretD h hc1 fun h => fe Tryz.func27 h)) (fun h =>
 cdD 13 h (fun h =>
 rg <| (jretD h hc1 fun h => fe Tryz.func27 h)) (fun h =>
 cdD 18 h (fun h =>
 rg <| (jretD h hc1 fun h => fe Tryz.func27 h)) (fun h =>
 cdD 25 h (fun h =>
 rg <| (jretD h hc1 fun h => fe Tryz.func27 h)) (fun h =>
 cdD 30 h (fun h =>
 rg <| (jretD h hc1 fun h => fe Tryz.func27 h)) (fun h =>
 cdD 35 h (fun h =>
 rg <| (jretD h hc1 fun h => fe Tryz.func27 h)) (fun h =>
 cdD 39 h (fun h =>
 cdD 45 h (fun h =>
 rg <| (jretD h hc1 fun h => fe Tryz.func27 h)) (fun h =>
 (jbrkD h hc1 fun hI => sg [] [1] [(1, 0)] hI))) (fun h =>
 (jbrkD h hc1 fun hI => sg [] [1] [(1, 0)] hI)))))))))))

/-! ### spec_l9Told -/
noncomputable def spec_l9Told_c : Code := bodyOf Tryz.f30
noncomputable def spec_l9Told_X : Sig := { f := 30, fn := Tryz.f30, rms := [.val [] []], oms := [none] }
noncomputable def spec_l9Told_R (r : Bool) : V := .b r
noncomputable def spec_l9Told_O (r : Bool) : List (Option V) := [none]
noncomputable def spec_l9Told_t (i : Nat) (fr : Bool) (r : Bool) : Nat × Tell := (i, { a := .call [.val [] []] fr (spec_l9Told_R r) (spec_l9Told_O r) })
noncomputable def spec_l9Told (a : TTold) : Option Bool :=
  (bif decide (a.Node ≥ 0) then
 (bif decide (a.Node < 3) then
 ((spec_l5Req a.Req).bind fun l5Req =>
 (bif l5Req then
 (bif (a.Req.Who == a.Node) then
 (bif decide (a.Code ≥ 0) then
 (bif decide (a.Code ≤ 4) then
 ((spec_l1Num a.Val).bind fun l1Num =>
 some l1Num)
 else
 some false)
 else
 some false)
 else
 some false)
 else
 some false))
 else
 some false)
 else
 some false)
theorem spec_l9Told_ok {a : TTold} (r : Bool) (h : spec_l9Told a = some r) : ACalls cx.P 30 [.agg (eTold a)] (spec_l9Told_R r) (spec_l9Told_O r) :=
  ACalls.of (cx := cx) (X := spec_l9Told_X) (c := spec_l9Told_c) Tryz.func30 (by kernel_rfl) (by kernel_rfl) (by kernel_rfl) (P0 <|
 rg2 <| cdD 3 h (fun h =>
 cdD 8 h (fun h =>
 cb spec_l5Req_t spec_l5Req_ok 11 false h fun l5Req h =>
 cdD 13 h (fun h =>
 cdD 21 h (fun h =>
 cdD 26 h (fun h =>
 cdD 31 h (fun h =>
 cb spec_l1Num_t spec_l1Num_ok 34 false h fun l1Num h =>
 fe Tryz.func30 h) (fun h =>
 fe Tryz.func30 h)) (fun h =>
 fe Tryz.func30 h)) (fun h =>
 fe Tryz.func30 h)) (fun h =>
 fe Tryz.func30 h)) (fun h =>
 fe Tryz.func30 h)) (fun h =>
 fe Tryz.func30 h))

/-! ### spec_WorldOk -/
noncomputable def spec_WorldOk_c : Code := bodyOf Tryz.f13
noncomputable def spec_WorldOk_X : Sig := { f := 13, fn := Tryz.f13, rms := [.val [] []], oms := [none] }
noncomputable def spec_WorldOk_R (r : Bool) : V := .b r
noncomputable def spec_WorldOk_O (r : Bool) : List (Option V) := [none]
noncomputable def spec_WorldOk_t (i : Nat) (fr : Bool) (r : Bool) : Nat × Tell := (i, { a := .call [.val ck35 []] fr (spec_WorldOk_R r) (spec_WorldOk_O r) })
noncomputable def spec_WorldOk_k1 : List Item := posI 2000 4 [false, false] [.code spec_WorldOk_c]
noncomputable def spec_WorldOk_S1 (w : TWorld) : St := ⟨(bs 1 (.ptr 1 0 0 :: (bs 104 []))), [some [], some [.var 35 [vsl 27 eNode w.Nodes, vsl 13 eMsg w.Net, vsl 3 eAsked w.Asked, vsl 5 eTold w.Told]]]⟩
noncomputable def spec_WorldOk_k2 : List Item := posI 2000 6 [false, false, false] [.code spec_WorldOk_c]
noncomputable def spec_WorldOk_S2 (w : TWorld) : St := ⟨(bs 1 (.ptr 1 0 0 :: (bs 104 []))), [some [], some [.var 35 [vsl 27 eNode w.Nodes, vsl 13 eMsg w.Net, vsl 3 eAsked w.Asked, vsl 5 eTold w.Told]]]⟩
noncomputable def spec_WorldOk_k3 : List Item := posI 2000 8 [false, false, false, false] [.code spec_WorldOk_c]
noncomputable def spec_WorldOk_S3 (w : TWorld) : St := ⟨(bs 1 (.ptr 1 0 0 :: (bs 104 []))), [some [], some [.var 35 [vsl 27 eNode w.Nodes, vsl 13 eMsg w.Net, vsl 3 eAsked w.Asked, vsl 5 eTold w.Told]]]⟩
noncomputable def spec_WorldOk_k4 : List Item := posI 2000 10 [false, false, false, false, false] [.code spec_WorldOk_c]
noncomputable def spec_WorldOk_S4 : St := ⟨(bs 106 []), [some []]⟩
noncomputable def spec_WorldOk_k5 : Option Bool :=
  some true
theorem spec_WorldOk_k5_ok (r : Bool) (h : spec_WorldOk_k5 = some r) : Fin cx spec_WorldOk_X (spec_WorldOk_R r) (spec_WorldOk_O r) spec_WorldOk_k4 (spec_WorldOk_S4) :=
  P0 <|
 rg <| fe Tryz.func13 h
noncomputable def spec_WorldOk_k6 : List Item := posI 2000 9 [false, false, false, false] [.code spec_WorldOk_c]
noncomputable def spec_WorldOk_S5 (w : TWorld) (i3 : Int) : St := ⟨(bs 1 (.ptr 1 0 0 :: (bs 4 (vi i3 :: (bs 99 []))))), [some [], some [.var 35 [vsl 27 eNode w.Nodes, vsl 13 eMsg w.Net, vsl 3 eAsked w.Asked, vsl 5 eTold w.Told]]]⟩
noncomputable def spec_WorldOk_b1 (w : TWorld) (i3 : Int) : Option (Stp Bool Int Unit) :=
  (bif decide (i3 < (w.Told.length : Int)) then
 ((idx w.Told i3).bind fun told =>
 ((spec_l9Told told).bind fun l9Told =>
 (bif (!l9Told) then
 some (Stp.ret false)
 else
 some (Stp.nxt (w64 (i3 + 1))))))
 else
 some (Stp.brk ()))
theorem spec_WorldOk_b1_ok (w : TWorld) (res : V) (outs : List (Option V)) (x1 : Exc Bool Unit) (hb1 : HB cx spec_WorldOk_X res outs x1 spec_WorldOk_k4 (fun s => spec_WorldOk_S4)) (hr1 : HR res outs x1 spec_WorldOk_R spec_WorldOk_O) (st1 : Stp Bool Int Unit) (hc1 : Cont x1 (fun s : Int => Fin cx spec_WorldOk_X res outs spec_WorldOk_k6 (spec_WorldOk_S5 w s)) st1) (i3 : Int) (h : spec_WorldOk_b1 w i3 = some st1) : Fin cx spec_WorldOk_X res outs spec_WorldOk_k6 (spec_WorldOk_S5 w i3) :=
  P0 <|
 rg <| cdD 4 h (fun h =>
 rg <| ixS eTold 3 h fun told htold h =>
 cb spec_l9Told_t spec_l9Told_ok 5 false h fun l9Told h =>
 cdD 6 h (fun h =>
 rg <| (retD h hc1 fun e => fn0 Tryz.func13 (hr1 _ e))) (fun h =>
 rg <| (nxtD h hc1 fun hI => sg [] [1, 6] [(1, 0)] hI))) (fun h =>
 (brkD h hc1 fun e => sg [] [] [] (hb1 _ e)))
noncomputable def spec_WorldOk_k7 (w : TWorld) : Option Bool :=
  ((loop (fun s : Int => spec_WorldOk_b1 w s) 0).bind fun x => x.go (fun r => some r) fun s => spec_WorldOk_k5)
theorem spec_WorldOk_k7_ok (w : TWorld) (r : Bool) (h : spec_WorldOk_k7 w = some r) : Fin cx spec_WorldOk_X (spec_WorldOk_R r) (spec_WorldOk_O r) spec_WorldOk_k3 (spec_WorldOk_S3 w) :=
  P0 <|
 rg <| loopJ h fun x hl hr hb => sg [] [1, 6] [(1, 0)] (loopD (I := fun s : Int => Fin cx spec_WorldOk_X (spec_WorldOk_R r) (spec_WorldOk_O r) spec_WorldOk_k6 (spec_WorldOk_S5 w s)) hl fun s st h hc => spec_WorldOk_b1_ok w _ _ x (fun s e => spec_WorldOk_k5_ok r (hb s e)) (fun v e => ⟨congrArg spec_WorldOk_R (Option.some.inj (hr v e)).symm, congrArg spec_WorldOk_O (Option.some.inj (hr v e)).symm⟩) st hc s h)
noncomputable def spec_WorldOk_k8 : List Item := posI 2000 7 [false, false, false] [.code spec_WorldOk_c]
noncomputable def spec_WorldOk_S6 (w : TWorld) (i2 : Int) : St := ⟨(bs 1 (.ptr 1 0 0 :: (bs 3 (vi i2 :: (bs 100 []))))), [some [], some [.var 35 [vsl 27 eNode w.Nodes, vsl 13 eMsg w.Net, vsl 3 eAsked w.Asked, vsl 5 eTold w.Told]]]⟩
noncomputable def spec_WorldOk_b2 (w : TWorld) (i2 : Int) : Option (Stp Bool Int Unit) :=
  (bif decide (i2 < (w.Asked.length : Int)) then
 ((idx w.Asked i2).bind fun asked =>
 ((spec_l5Req asked.Req).bind fun l5Req =>
 (bif (!l5Req) then
 some (Stp.ret false)
 else
 ((spec_ProgOk asked.Prog).bind fun progOk =>
 (bif (!progOk) then
 some (Stp.ret false)
 else
 some (Stp.nxt (w64 (i2 + 1))))))))
 else
 some (Stp.brk ()))
theorem spec_WorldOk_b2_ok (w : TWorld) (res : V) (outs : List (Option V)) (x1 : Exc Bool Unit) (hb1 : HB cx spec_WorldOk_X res outs x1 spec_WorldOk_k3 (fun s => spec_WorldOk_S3 w)) (hr1 : HR res outs x1 spec_WorldOk_R spec_WorldOk_O) (st1 : Stp Bool Int Unit) (hc1 : Cont x1 (fun s : Int => Fin cx spec_WorldOk_X res outs spec_WorldOk_k8 (spec_WorldOk_S6 w s)) st1) (i2 : Int) (h : spec_WorldOk_b2 w i2 = some st1) : Fin cx spec_WorldOk_X res outs spec_WorldOk_k8 (spec_WorldOk_S6 w i2) :=
  P0 <|
 rg <| cdD 4 h (fun h =>
 rg <| ixS eAsked 3 h fun asked hasked h =>
 cb spec_l5Req_t spec_l5Req_ok 6 false h fun l5Req h =>
 cdD 8 h (fun h =>
 rg <| (retD h hc1 fun e => fn0 Tryz.func13 (hr1 _ e))) (fun h =>
 ixR eAsked 12 hasked <| cb spec_ProgOk_t spec_ProgOk_ok 15 false h fun progOk h =>
 cdD 17 h (fun h =>
 rg <| (retD h hc1 fun e => fn0 Tryz.func13 (hr1 _ e))) (fun h =>
 rg <| (nxtD h hc1 fun hI => sg [] [1, 5] [(1, 0)] hI)))) (fun h =>
 (brkD h hc1 fun e => sg [] [1] [(1, 0)] (hb1 _ e)))
noncomputable def spec_WorldOk_k9 (w : TWorld) : Option Bool :=
  ((loop (fun s : Int => spec_WorldOk_b2 w s) 0).bind fun x => x.go (fun r => some r) fun s => spec_WorldOk_k7 w)
theorem spec_WorldOk_k9_ok (w : TWorld) (r : Bool) (h : spec_WorldOk_k9 w = some r) : Fin cx spec_WorldOk_X (spec_WorldOk_R r) (spec_WorldOk_O r) spec_WorldOk_k2 (spec_WorldOk_S2 w) :=
  P0 <|
 rg <| loopJ h fun x hl hr hb => sg [] [1, 5] [(1, 0)] (loopD (I := fun s : Int => Fin cx spec_WorldOk_X (spec_WorldOk_R r) (spec_WorldOk_O r) spec_WorldOk_k8 (spec_WorldOk_S6 w s)) hl fun s st h hc => spec_WorldOk_b2_ok w _ _ x (fun s e => spec_WorldOk_k7_ok w r (hb s e)) (fun v e => ⟨congrArg spec_WorldOk_R (Option.some.inj (hr v e)).symm, congrArg spec_WorldOk_O (Option.some.inj (hr v e)).symm⟩) st hc s h)
noncomputable def spec_WorldOk_k10 : List Item := posI 2000 5 [false, false] [.code spec_WorldOk_c]
noncomputable def spec_WorldOk_S7 (w : TWorld) (i1 : Int) : St := ⟨(bs 1 (.ptr 1 0 0 :: (bs 2 (vi i1 :: (bs 101 []))))), [some [], some [.var 35 [vsl 27 eNode w.Nodes, vsl 13 eMsg w.Net, vsl 3 eAsked w.Asked, vsl 5 eTold w.Told]]]⟩
noncomputable def spec_WorldOk_b3 (w : TWorld) (i1 : Int) : Option (Stp Bool Int Unit) :=
  (bif decide (i1 < (w.Net.length : Int)) then
 ((idx w.Net i1).bind fun msg =>
 ((spec_MsgOk msg).bind fun msgOk =>
 (bif (!msgOk) then
 some (Stp.ret false)
 else
 some (Stp.nxt (w64 (i1 + 1))))))
 else
 some (Stp.brk ()))
theorem spec_WorldOk_b3_ok (w : TWorld) (res : V) (outs : List (Option V)) (x1 : Exc Bool Unit) (hb1 : HB cx spec_WorldOk_X res outs x1 spec_WorldOk_k2 (fun s => spec_WorldOk_S2 w)) (hr1 : HR res outs x1 spec_WorldOk_R spec_WorldOk_O) (st1 : Stp Bool Int Unit) (hc1 : Cont x1 (fun s : Int => Fin cx spec_WorldOk_X res outs spec_WorldOk_k10 (spec_WorldOk_S7 w s)) st1) (i1 : Int) (h : spec_WorldOk_b3 w i1 = some st1) : Fin cx spec_WorldOk_X res outs spec_WorldOk_k10 (spec_WorldOk_S7 w i1) :=
  P0 <|
 rg <| cdD 4 h (fun h =>
 rg <| ixS eMsg 3 h fun msg hmsg h =>
 cb spec_MsgOk_t spec_MsgOk_ok 5 false h fun msgOk h =>
 cdD 6 h (fun h =>
 rg <| (retD h hc1 fun e => fn0 Tryz.func13 (hr1 _ e))) (fun h =>
 rg <| (nxtD h hc1 fun hI => sg [] [1, 4] [(1, 0)] hI))) (fun h =>
 (brkD h hc1 fun e => sg [] [1] [(1, 0)] (hb1 _ e)))
noncomputable def spec_WorldOk_k11 (w : TWorld) : Option Bool :=
  ((loop (fun s : Int => spec_WorldOk_b3 w s) 0).bind fun x => x.go (fun r => some r) fun s => spec_WorldOk_k9 w)
theorem spec_WorldOk_k11_ok (w : TWorld) (r : Bool) (h : spec_WorldOk_k11 w = some r) : Fin cx spec_WorldOk_X (spec_WorldOk_R r) (spec_WorldOk_O r) spec_WorldOk_k1 (spec_WorldOk_S1 w) :=
  P0 <|
 rg <| loopJ h fun x hl hr hb => sg [] [1, 4] [(1, 0)] (loopD (I := fun s : Int => Fin cx spec_WorldOk_X (spec_WorldOk_R r) (spec_WorldOk_O r) spec_WorldOk_k10 (spec_WorldOk_S7 w s)) hl fun s st h hc => spec_WorldOk_b3_ok w _ _ x (fun s e => spec_WorldOk_k9_ok w r (hb s e)) (fun v e => ⟨congrArg spec_WorldOk_R (Option.some.inj (hr v e)).symm, congrArg spec_WorldOk_O (Option.some.inj (hr v e)).symm⟩) st hc s h)
noncomputable def spec_WorldOk_k12 : List Item := posI 2000 3 [false] [.code spec_WorldOk_c]
noncomputable def spec_WorldOk_S8 (w : TWorld) (i : Int) : St := ⟨(bs 1 (.ptr 1 0 0 :: (bs 1 (vi i :: (bs 102 []))))), [some [], some [.var 35 [vsl 27 eNode w.Nodes, vsl 13 eMsg w.Net, vsl 3 eAsked w.Asked, vsl 5 eTold w.Told]]]⟩
noncomputable def spec_WorldOk_b4 (w : TWorld) (i : Int) : Option (Stp Bool Int Unit) :=
  (bif decide (i < (w.Nodes.length : Int)) then
 ((idx w.Nodes i).bind fun node =>
 (bif (node.Id != i) then
 some (Stp.ret false)
 else
 ((spec_NodeOk node).bind fun nodeOk =>
 (bif (!nodeOk) then
 some (Stp.ret false)
 else
 some (Stp.nxt (w64 (i + 1)))))))
 else
 some (Stp.brk ()))
theorem spec_WorldOk_b4_ok (w : TWorld) (res : V) (outs : List (Option V)) (x1 : Exc Bool Unit) (hb1 : HB cx spec_WorldOk_X res outs x1 spec_WorldOk_k1 (fun s => spec_WorldOk_S1 w)) (hr1 : HR res outs x1 spec_WorldOk_R spec_WorldOk_O) (st1 : Stp Bool Int Unit) (hc1 : Cont x1 (fun s : Int => Fin cx spec_WorldOk_X res outs spec_WorldOk_k12 (spec_WorldOk_S8 w s)) st1) (i : Int) (h : spec_WorldOk_b4 w i = some st1) : Fin cx spec_WorldOk_X res outs spec_WorldOk_k12 (spec_WorldOk_S8 w i) :=
  P0 <|
 rg <| cdD 4 h (fun h =>
 rg <| ixS eNode 3 h fun node hnode h =>
 cdD 8 h (fun h =>
 rg <| (retD h hc1 fun e => fn0 Tryz.func13 (hr1 _ e))) (fun h =>
 ixR eNode 12 hnode <| cb spec_NodeOk_t spec_NodeOk_ok 14 false h fun nodeOk h =>
 cdD 16 h (fun h =>
 rg <| (retD h hc1 fun e => fn0 Tryz.func13 (hr1 _ e))) (fun h =>
 rg <| (nxtD h hc1 fun hI => sg [] [1, 3] [(1, 0)] hI)))) (fun h =>
 (brkD h hc1 fun e => sg [] [1] [(1, 0)] (hb1 _ e)))
noncomputable def spec_WorldOk (w : TWorld) : Option Bool :=
  (bif ((w.Nodes.length : Int) != 3) then
 some false
 else
 (bif decide ((w.Net.length : Int) > 40) then
 some false
 else
 (bif decide ((w.Asked.length : Int) > 60) then
 some false
 else
 (bif decide ((w.Told.length : Int) > 60) then
 some false
 else
 ((loop (fun s : Int => spec_WorldOk_b4 w s) 0).bind fun x => x.go (fun r => some r) fun s => spec_WorldOk_k11 w)))))
theorem spec_WorldOk_ok {w : TWorld} (r : Bool) (h : spec_WorldOk w = some r) : ACalls cx.P 13 [.agg (eWorld w)] (spec_WorldOk_R r) (spec_WorldOk_O r) :=
  ACalls.of (cx := cx) (X := spec_WorldOk_X) (c := spec_WorldOk_c) Tryz.func13 (by kernel_rfl) (by kernel_rfl) (by kernel_rfl) (P0 <|
 rg2 <| cdD 4 h (fun h =>
 rg <| fe Tryz.func13 h) (fun h =>
 cdD 10 h (fun h =>
 rg <| fe Tryz.func13 h) (fun h =>
 cdD 16 h (fun h =>
 rg <| fe Tryz.func13 h) (fun h =>
 cdD 21 h (fun h =>
 rg <| fe Tryz.func13 h) (fun h =>
 rg <| loopJ h fun x hl hr hb => sg [] [1, 3] [(1, 0)] (loopD (I := fun s : Int => Fin cx spec_WorldOk_X (spec_WorldOk_R r) (spec_WorldOk_O r) spec_WorldOk_k12 (spec_WorldOk_S8 w s)) hl fun s st h hc => spec_WorldOk_b4_ok w _ _ x (fun s e => spec_WorldOk_k11_ok w r (hb s e)) (fun v e => ⟨congrArg spec_WorldOk_R (Option.some.inj (hr v e)).symm, congrArg spec_WorldOk_O (Option.some.inj (hr v e)).symm⟩) st hc s h))))))

/-! ### spec_ToldOnce -/
noncomputable def spec_ToldOnce_c : Code := bodyOf Tryz.f5
noncomputable def spec_ToldOnce_X : Sig := { f := 5, fn := Tryz.f5, rms := [.val [] []], oms := [none] }
noncomputable def spec_ToldOnce_R (r : Bool) : V := .b r
noncomputable def spec_ToldOnce_O (r : Bool) : List (Option V) := [none]
noncomputable def spec_ToldOnce_t (i : Nat) (fr : Bool) (r : Bool) : Nat × Tell := (i, { a := .call [.val ck35 []] fr (spec_ToldOnce_R r) (spec_ToldOnce_O r) })
noncomputable def spec_ToldOnce_k1 : List Item := posI 2000 3 [false] [.code spec_ToldOnce_c]
noncomputable def spec_ToldOnce_S1 (w : TWorld) : St := ⟨(bs 1 (.ptr 1 0 0 :: (bs 30 []))), [some [], some [.var 35 [vsl 27 eNode w.Nodes, vsl 13 eMsg w.Net, vsl 3 eAsked w.Asked, vsl 5 eTold w.Told]]]⟩
noncomputable def spec_ToldOnce_k2 (w : TWorld) : Option Bool :=
  ((spec_WorldOk w).bind fun worldOk =>
 some worldOk)
theorem spec_ToldOnce_k2_ok (w : TWorld) (r : Bool) (h : spec_ToldOnce_k2 w = some r) : Fin cx spec_ToldOnce_X (spec_ToldOnce_R r) (spec_ToldOnce_O r) spec_ToldOnce_k1 (spec_ToldOnce_S1 w) :=
  P0 <|
 rg <| cb spec_WorldOk_t spec_WorldOk_ok 1 false h fun worldOk h =>
 fe Tryz.func5 h
noncomputable def spec_ToldOnce_k3 : List Item := posI 2000 2 [] [.code spec_ToldOnce_c]
noncomputable def spec_ToldOnce_S2 (w : TWorld) (i : Int) : St := ⟨(bs 1 (.ptr 1 0 0 :: (bs 1 (vi i :: (bs 28 []))))), [some [], some [.var 35 [vsl 27 eNode w.Nodes, vsl 13 eMsg w.Net, vsl 3 eAsked w.Asked, vsl 5 eTold w.Told]]]⟩
noncomputable def spec_ToldOnce_k4 : List Item := posI 2000 5 [true, false] [.code spec_ToldOnce_c]
noncomputable def spec_ToldOnce_S3 (w : TWorld) (i : Int) : St := ⟨(bs 1 (.ptr 1 0 0 :: (bs 1 (vi i :: (bs 28 []))))), [some [], some [.var 35 [vsl 27 eNode w.Nodes, vsl 13 eMsg w.Net, vsl 3 eAsked w.Asked, vsl 5 eTold w.Told]]]⟩
noncomputable def spec_ToldOnce_k5 (i : Int) : Option (Stp Bool Int Unit) :=
  some (Stp.nxt (w64 (i + 1)))
theorem spec_ToldOnce_k5_ok (w : TWorld) (i : Int) (res : V) (outs : List (Option V)) (x1 : Exc Bool Unit) (hb1 : HB cx spec_ToldOnce_X res outs x1 spec_ToldOnce_k1 (fun s => spec_ToldOnce_S1 w)) (hr1 : HR res outs x1 spec_ToldOnce_R spec_ToldOnce_O) (st1 : Stp Bool Int Unit) (hc1 : Cont x1 (fun s : Int => Fin cx spec_ToldOnce_X res outs spec_ToldOnce_k3 (spec_ToldOnce_S2 w s)) st1) (h : spec_ToldOnce_k5 i = some st1) : Fin cx spec_ToldOnce_X res outs spec_ToldOnce_k4 (spec_ToldOnce_S3 w i) :=
  P0 <|
 rg <| (nxtD h hc1 fun hI => sg [] [1, 3] [(1, 0)] hI)
noncomputable def spec_ToldOnce_k6 : List Item := posI 2000 4 [true] [.code spec_ToldOnce_c]
noncomputable def spec_ToldOnce_S4 (w : TWorld) (i : Int) (k : Int) : St := ⟨(bs 1 (.ptr 1 0 0 :: (bs 1 (vi i :: (vi k :: (bs 27 [])))))), [some [], some [.var 35 [vsl 27 eNode w.Nodes, vsl 13 eMsg w.Net, vsl 3 eAsked w.Asked, vsl 5 eTold w.Told]]]⟩
noncomputable def spec_ToldOnce_b1 (w : TWorld) (i : Int) (k : Int) : Option (Stp Bool Int Unit) :=
  (bif decide (k < i) then
 ((idx w.Told k).bind fun told =>
 ((idx w.Told i).bind fun told1 =>
 (bif (([told.Req.Who, told.Req.Seq] : List Int) == [told1.Req.Who, told1.Req.Seq]) then
 some (Stp.ret false)
 else
 some (Stp.nxt (w64 (k + 1))))))
 else
 some (Stp.brk ()))
theorem spec_ToldOnce_b1_ok (w : TWorld) (i : Int) (res : V) (outs : List (Option V)) (x2 : Exc Bool Unit) (hb2 : HB cx spec_ToldOnce_X res outs x2 spec_ToldOnce_k4 (fun s => spec_ToldOnce_S3 w i)) (hr2 : HR res outs x2 spec_ToldOnce_R spec_ToldOnce_O) (st2 : Stp Bool Int Unit) (hc2 : Cont x2 (fun s : Int => Fin cx spec_ToldOnce_X res outs spec_ToldOnce_k6 (spec_ToldOnce_S4 w i s)) st2) (k : Int) (h : spec_ToldOnce_b1 w i k = some st2) : Fin cx spec_ToldOnce_X res outs spec_ToldOnce_k6 (spec_ToldOnce_S4 w i k) :=
  P0 <|
 rg <| cdD 2 h (fun h =>
 rg <| ixS eTold 3 h fun told htold h =>
 ixS eTold 9 h fun told1 htold1 h =>
 cdD 12 h (fun h =>
 rg <| (retD h hc2 fun e => fn0 Tryz.func5 (hr2 _ e))) (fun h =>
 rg <| (nxtD h hc2 fun hI => sg [] [1, 3, 4] [(1, 0)] hI))) (fun h =>
 (brkD h hc2 fun e => sg [] [1, 3] [(1, 0)] (hb2 _ e)))
noncomputable def spec_ToldOnce_b2 (w : TWorld) (i : Int) : Option (Stp Bool Int Unit) :=
  (bif decide (i < (w.Told.length : Int)) then
 ((loop (fun s : Int => spec_ToldOnce_b1 w i s) 0).bind fun x => x.go (fun r => some (Stp.ret r)) fun s => spec_ToldOnce_k5 i)
 else
 some (Stp.brk ()))
theorem spec_ToldOnce_b2_ok (w : TWorld) (res : V) (outs : List (Option V)) (x1 : Exc Bool Unit) (hb1 : HB cx spec_ToldOnce_X res outs x1 spec_ToldOnce_k1 (fun s => spec_ToldOnce_S1 w)) (hr1 : HR res outs x1 spec_ToldOnce_R spec_ToldOnce_O) (st1 : Stp Bool Int Unit) (hc1 : Cont x1 (fun s : Int => Fin cx spec_ToldOnce_X res outs spec_ToldOnce_k3 (spec_ToldOnce_S2 w s)) st1) (i : Int) (h : spec_ToldOnce_b2 w i = some st1) : Fin cx spec_ToldOnce_X res outs spec_ToldOnce_k3 (spec_ToldOnce_S2 w i) :=
  P0 <|
 rg <| cdD 4 h (fun h =>
 rg <| loopJ h fun x hl hr hb => sg [] [1, 3, 4] [(1, 0)] (loopD (I := fun s : Int => Fin cx spec_ToldOnce_X res outs spec_ToldOnce_k6 (spec_ToldOnce_S4 w i s)) hl fun s st h hc => spec_ToldOnce_b1_ok w i _ _ x (fun s e => spec_ToldOnce_k5_ok w i res outs x1 hb1 hr1 st1 hc1 (hb s e)) (fun v e => (hr1 _ (retC (hr v e) hc1))) st hc s h)) (fun h =>
 (brkD h hc1 fun e => sg [] [1] [(1, 0)] (hb1 _ e)))
noncomputable def spec_ToldOnce (w : TWorld) : Option Bool :=
  ((loop (fun s : Int => spec_ToldOnce_b2 w s) 0).bind fun x => x.go (fun r => some r) fun s => spec_ToldOnce_k2 w)
theorem spec_ToldOnce_ok {w : TWorld} (r : Bool) (h : spec_ToldOnce w = some r) : ACalls cx.P 5 [.agg (eWorld w)] (spec_ToldOnce_R r) (spec_ToldOnce_O r) :=
  ACalls.of (cx := cx) (X := spec_ToldOnce_X) (c := spec_ToldOnce_c) Tryz.func5 (by kernel_rfl) (by kernel_rfl) (by kernel_rfl) (P0 <|
 rg2 <| loopJ h fun x hl hr hb => sg [] [1, 3] [(1, 0)] (loopD (I := fun s : Int => Fin cx spec_ToldOnce_X (spec_ToldOnce_R r) (spec_ToldOnce_O r) spec_ToldOnce_k3 (spec_ToldOnce_S2 w s)) hl fun s st h hc => spec_ToldOnce_b2_ok w _ _ x (fun s e => spec_ToldOnce_k2_ok w r (hb s e)) (fun v e => ⟨congrArg spec_ToldOnce_R (Option.some.inj (hr v e)).symm, congrArg spec_ToldOnce_O (Option.some.inj (hr v e)).symm⟩) st hc s h))

/-! ### impl_in -/
noncomputable def impl_in_c : Code := bodyOf Tryz.f39
noncomputable def impl_in_X : Sig := { f := 39, fn := Tryz.f39, rms := [.val [] []], oms := [none, none, none] }
noncomputable def impl_in_R (r : Bool) : V := .b r
noncomputable def impl_in_O (r : Bool) : List (Option V) := [none, none, none]
noncomputable def impl_in_t (i : Nat) (fr : Bool) (r : Bool) : Nat × Tell := (i, { a := .call [.val [] [], .val [] [], .val [] []] fr (impl_in_R r) (impl_in_O r) })
noncomputable def impl_in (n : Int) (low : Int) (high : Int) : Option Bool :=
  (bif decide (n ≥ low) then
 some (decide (n ≤ high))
 else
 some false)
theorem impl_in_ok {n : Int} {low : Int} {high : Int} (r : Bool) (h : impl_in n low high = some r) : ACalls cx.P 39 [vi n, vi low, vi high] (impl_in_R r) (impl_in_O r) :=
  ACalls.of (cx := cx) (X := impl_in_X) (c := impl_in_c) Tryz.func39 (by kernel_rfl) (by kernel_rfl) (by kernel_rfl) (P0 <|
 rg2 <| cdD 3 h (fun h =>
 fe Tryz.func39 h) (fun h =>
 fe Tryz.func39 h))

/-! ### impl_same_Read -/
noncomputable def impl_same_Read_c : Code := bodyOf Tryz.f108
noncomputable def impl_same_Read_X : Sig := { f := 108, fn := Tryz.f108, rms := [.val [] []], oms := [none, none] }
noncomputable def impl_same_Read_R (r : Bool) : V := .b r
noncomputable def impl_same_Read_O (r : Bool) : List (Option V) := [none, none]
noncomputable def impl_same_Read_t (i : Nat) (fr : Bool) (r : Bool) : Nat × Tell := (i, { a := .call [.val [some 2] [], .val [some 2] []] fr (impl_same_Read_R r) (impl_same_Read_O r) })
noncomputable def impl_same_Read_k1 : List Item := posI 2000 4 [false, false] [.code impl_same_Read_c]
noncomputable def impl_same_Read_S1 : St := ⟨(bs 26 []), [some []]⟩
noncomputable def impl_same_Read_k2 : Option Bool :=
  some true
theorem impl_same_Read_k2_ok (r : Bool) (h : impl_same_Read_k2 = some r) : Fin cx impl_same_Read_X (impl_same_Read_R r) (impl_same_Read_O r) impl_same_Read_k1 (impl_same_Read_S1) :=
  P0 <|
 rg <| fe Tryz.func108 h
noncomputable def impl_same_Read_k3 : List Item := posI 2000 3 [false] [.code impl_same_Read_c]
noncomputable def impl_same_Read_S2 (a : List TRead) (b : List TRead) (v13 : Int) : St := ⟨(vsl 2 eRead a :: (vsl 2 eRead b :: (bs 10 (vi (a.length : Int) :: (vi v13 :: (bs 12 [])))))), [some []]⟩
noncomputable def impl_same_Read_b1 (a : List TRead) (b : List TRead) (v13 : Int) : Option (Stp Bool Int Unit) :=
  (bif decide (v13 < (a.length : Int)) then
 ((idx a v13).bind fun read =>
 ((idx b v13).bind fun read1 =>
 (bif (!(([read.Box, read.Ver] : List Int) == [read1.Box, read1.Ver])) then
 some (Stp.ret false)
 else
 some (Stp.nxt (w64 (v13 + 1))))))
 else
 some (Stp.brk ()))
theorem impl_same_Read_b1_ok (a : List TRead) (b : List TRead) (res : V) (outs : List (Option V)) (x1 : Exc Bool Unit) (hb1 : HB cx impl_same_Read_X res outs x1 impl_same_Read_k1 (fun s => impl_same_Read_S1)) (hr1 : HR res outs x1 impl_same_Read_R impl_same_Read_O) (st1 : Stp Bool Int Unit) (hc1 : Cont x1 (fun s : Int => Fin cx impl_same_Read_X res outs impl_same_Read_k3 (impl_same_Read_S2 a b s)) st1) (v13 : Int) (h : impl_same_Read_b1 a b v13 = some st1) : Fin cx impl_same_Read_X res outs impl_same_Read_k3 (impl_same_Read_S2 a b v13) :=
  P0 <|
 rg <| cdD 0 h (fun h =>
 rg2 <| ixS eRead 2 h fun read hread h =>
 ixS eRead 6 h fun read1 hread1 h =>
 cdD 8 h (fun h =>
 rg <| (retD h hc1 fun e => fn0 Tryz.func108 (hr1 _ e))) (fun h =>
 rg <| (nxtD h hc1 fun hI => sg [] [0, 1, 12, 13] [] hI))) (fun h =>
 (brkD h hc1 fun e => sg [] [] [] (hb1 _ e)))
noncomputable def impl_same_Read (a : List TRead) (b : List TRead) : Option Bool :=
  (bif ((a.length : Int) != (b.length : Int)) then
 some false
 else
 ((loop (fun s : Int => impl_same_Read_b1 a b s) 0).bind fun x => x.go (fun r => some r) fun s => impl_same_Read_k2))
theorem impl_same_Read_ok {a : List TRead} {b : List TRead} (r : Bool) (h : impl_same_Read a b = some r) : ACalls cx.P 108 [vsl 2 eRead a, vsl 2 eRead b] (impl_same_Read_R r) (impl_same_Read_O r) :=
  ACalls.of (cx := cx) (X := impl_same_Read_X) (c := impl_same_Read_c) Tryz.func108 (by kernel_rfl) (by kernel_rfl) (by kernel_rfl) (P0 <|
 rg2 <| cdD 4 h (fun h =>
 rg <| fe Tryz.func108 h) (fun h =>
 rg <| loopJ h fun x hl hr hb => sg [] [0, 1, 12, 13] [] (loopD (I := fun s : Int => Fin cx impl_same_Read_X (impl_same_Read_R r) (impl_same_Read_O r) impl_same_Read_k3 (impl_same_Read_S2 a b s)) hl fun s st h hc => impl_same_Read_b1_ok a b _ _ x (fun s e => impl_same_Read_k2_ok r (hb s e)) (fun v e => ⟨congrArg impl_same_Read_R (Option.some.inj (hr v e)).symm, congrArg impl_same_Read_O (Option.some.inj (hr v e)).symm⟩) st hc s h)))

/-! ### impl_same_Put -/
noncomputable def impl_same_Put_c : Code := bodyOf Tryz.f109
noncomputable def impl_same_Put_X : Sig := { f := 109, fn := Tryz.f109, rms := [.val [] []], oms := [none, none] }
noncomputable def impl_same_Put_R (r : Bool) : V := .b r
noncomputable def impl_same_Put_O (r : Bool) : List (Option V) := [none, none]
noncomputable def impl_same_Put_t (i : Nat) (fr : Bool) (r : Bool) : Nat × Tell := (i, { a := .call [.val [some 2] [], .val [some 2] []] fr (impl_same_Put_R r) (impl_same_Put_O r) })
noncomputable def impl_same_Put_k1 : List Item := posI 2000 4 [false, false] [.code impl_same_Put_c]
noncomputable def impl_same_Put_S1 : St := ⟨(bs 26 []), [some []]⟩
noncomputable def impl_same_Put_k2 : Option Bool :=
  some true
theorem impl_same_Put_k2_ok (r : Bool) (h : impl_same_Put_k2 = some r) : Fin cx impl_same_Put_X (impl_same_Put_R r) (impl_same_Put_O r) impl_same_Put_k1 (impl_same_Put_S1) :=
  P0 <|
 rg <| fe Tryz.func109 h
noncomputable def impl_same_Put_k3 : List Item := posI 2000 3 [false] [.code impl_same_Put_c]
noncomputable def impl_same_Put_S2 (a : List TPut) (b : List TPut) (v13 : Int) : St := ⟨(vsl 2 ePut a :: (vsl 2 ePut b :: (bs 10 (vi (a.length : Int) :: (vi v13 :: (bs 12 [])))))), [some []]⟩
noncomputable def impl_same_Put_b1 (a : List TPut) (b : List TPut) (v13 : Int) : Option (Stp Bool Int Unit) :=
  (bif decide (v13 < (a.length : Int)) then
 ((idx a v13).bind fun put =>
 ((idx b v13).bind fun put1 =>
 (bif (!(([put.Box, put.Val] : List Int) == [put1.Box, put1.Val])) then
 some (Stp.ret false)
 else
 some (Stp.nxt (w64 (v13 + 1))))))
 else
 some (Stp.brk ()))
theorem impl_same_Put_b1_ok (a : List TPut) (b : List TPut) (res : V) (outs : List (Option V)) (x1 : Exc Bool Unit) (hb1 : HB cx impl_same_Put_X res outs x1 impl_same_Put_k1 (fun s => impl_same_Put_S1)) (hr1 : HR res outs x1 impl_same_Put_R impl_same_Put_O) (st1 : Stp Bool Int Unit) (hc1 : Cont x1 (fun s : Int => Fin cx impl_same_Put_X res outs impl_same_Put_k3 (impl_same_Put_S2 a b s)) st1) (v13 : Int) (h : impl_same_Put_b1 a b v13 = some st1) : Fin cx impl_same_Put_X res outs impl_same_Put_k3 (impl_same_Put_S2 a b v13) :=
  P0 <|
 rg <| cdD 0 h (fun h =>
 rg2 <| ixS ePut 2 h fun put hput h =>
 ixS ePut 6 h fun put1 hput1 h =>
 cdD 8 h (fun h =>
 rg <| (retD h hc1 fun e => fn0 Tryz.func109 (hr1 _ e))) (fun h =>
 rg <| (nxtD h hc1 fun hI => sg [] [0, 1, 12, 13] [] hI))) (fun h =>
 (brkD h hc1 fun e => sg [] [] [] (hb1 _ e)))
noncomputable def impl_same_Put (a : List TPut) (b : List TPut) : Option Bool :=
  (bif ((a.length : Int) != (b.length : Int)) then
 some false
 else
 ((loop (fun s : Int => impl_same_Put_b1 a b s) 0).bind fun x => x.go (fun r => some r) fun s => impl_same_Put_k2))
theorem impl_same_Put_ok {a : List TPut} {b : List TPut} (r : Bool) (h : impl_same_Put a b = some r) : ACalls cx.P 109 [vsl 2 ePut a, vsl 2 ePut b] (impl_same_Put_R r) (impl_same_Put_O r) :=
  ACalls.of (cx := cx) (X := impl_same_Put_X) (c := impl_same_Put_c) Tryz.func109 (by kernel_rfl) (by kernel_rfl) (by kernel_rfl) (P0 <|
 rg2 <| cdD 4 h (fun h =>
 rg <| fe Tryz.func109 h) (fun h =>
 rg <| loopJ h fun x hl hr hb => sg [] [0, 1, 12, 13] [] (loopD (I := fun s : Int => Fin cx impl_same_Put_X (impl_same_Put_R r) (impl_same_Put_O r) impl_same_Put_k3 (impl_same_Put_S2 a b s)) hl fun s st h hc => impl_same_Put_b1_ok a b _ _ x (fun s e => impl_same_Put_k2_ok r (hb s e)) (fun v e => ⟨congrArg impl_same_Put_R (Option.some.inj (hr v e)).symm, congrArg impl_same_Put_O (Option.some.inj (hr v e)).symm⟩) st hc s h)))

/-! ### impl_ExecSame -/
noncomputable def impl_ExecSame_c : Code := bodyOf Tryz.f93
noncomputable def impl_ExecSame_X : Sig := { f := 93, fn := Tryz.f93, rms := [.val [] []], oms := [none, none] }
noncomputable def impl_ExecSame_R (r : Bool) : V := .b r
noncomputable def impl_ExecSame_O (r : Bool) : List (Option V) := [none, none]
noncomputable def impl_ExecSame_t (i : Nat) (fr : Bool) (r : Bool) : Nat × Tell := (i, { a := .call [.val ck85 [], .val ck85 []] fr (impl_ExecSame_R r) (impl_ExecSame_O r) })
noncomputable def impl_ExecSame (a : TRun) (b : TRun) : Option Bool :=
  ((impl_same_Read a.Reads b.Reads).bind fun read =>
 (bif read then
 ((impl_same_Put a.Puts b.Puts).bind fun put =>
 (bif put then
 (bif (a.Val == b.Val) then
 some (a.Code == b.Code)
 else
 some false)
 else
 some false))
 else
 some false))
theorem impl_ExecSame_ok {a : TRun} {b : TRun} (r : Bool) (h : impl_ExecSame a b = some r) : ACalls cx.P 93 [.agg (eRun a), .agg (eRun b)] (impl_ExecSame_R r) (impl_ExecSame_O r) :=
  ACalls.of (cx := cx) (X := impl_ExecSame_X) (c := impl_ExecSame_c) Tryz.func93 (by kernel_rfl) (by kernel_rfl) (by kernel_rfl) (P0 <|
 rg2 <| cb impl_same_Read_t impl_same_Read_ok 4 false h fun read h =>
 cdD 5 h (fun h =>
 cb impl_same_Put_t impl_same_Put_ok 10 false h fun put h =>
 cdD 12 h (fun h =>
 cdD 19 h (fun h =>
 fe Tryz.func93 h) (fun h =>
 fe Tryz.func93 h)) (fun h =>
 fe Tryz.func93 h)) (fun h =>
 fe Tryz.func93 h))

/-! ### impl_CertLike -/
noncomputable def impl_CertLike_c : Code := bodyOf Tryz.f70
noncomputable def impl_CertLike_X : Sig := { f := 70, fn := Tryz.f70, rms := [.val [] []], oms := [none, none] }
noncomputable def impl_CertLike_R (r : Bool) : V := .b r
noncomputable def impl_CertLike_O (r : Bool) : List (Option V) := [none, none]
noncomputable def impl_CertLike_t (i : Nat) (fr : Bool) (r : Bool) : Nat × Tell := (i, { a := .call [.val ck87 [], .val ck87 []] fr (impl_CertLike_R r) (impl_CertLike_O r) })
noncomputable def impl_CertLike (a : TEntry) (b : TEntry) : Option Bool :=
  (bif (a.None == b.None) then
 (bif (([a.Req.Who, a.Req.Seq] : List Int) == [b.Req.Who, b.Req.Seq]) then
 ((impl_ExecSame a.Run b.Run).bind fun execSame =>
 some execSame)
 else
 some false)
 else
 some false)
theorem impl_CertLike_ok {a : TEntry} {b : TEntry} (r : Bool) (h : impl_CertLike a b = some r) : ACalls cx.P 70 [.agg (eEntry a), .agg (eEntry b)] (impl_CertLike_R r) (impl_CertLike_O r) :=
  ACalls.of (cx := cx) (X := impl_CertLike_X) (c := impl_CertLike_c) Tryz.func70 (by kernel_rfl) (by kernel_rfl) (by kernel_rfl) (P0 <|
 rg2 <| cdD 5 h (fun h =>
 cdD 12 h (fun h =>
 cb impl_ExecSame_t impl_ExecSame_ok 17 false h fun execSame h =>
 fe Tryz.func70 h) (fun h =>
 fe Tryz.func70 h)) (fun h =>
 fe Tryz.func70 h))

/-! ### impl_reqOk -/
noncomputable def impl_reqOk_c : Code := bodyOf Tryz.f37
noncomputable def impl_reqOk_X : Sig := { f := 37, fn := Tryz.f37, rms := [.val [] []], oms := [none] }
noncomputable def impl_reqOk_R (r : Bool) : V := .b r
noncomputable def impl_reqOk_O (r : Bool) : List (Option V) := [none]
noncomputable def impl_reqOk_t (i : Nat) (fr : Bool) (r : Bool) : Nat × Tell := (i, { a := .call [.val [] []] fr (impl_reqOk_R r) (impl_reqOk_O r) })
noncomputable def impl_reqOk (q : TReq) : Option Bool :=
  ((impl_in q.Who 0 2).bind fun in_ =>
 (bif in_ then
 ((impl_in q.Seq 1 1000).bind fun in_1 =>
 some in_1)
 else
 some false))
theorem impl_reqOk_ok {q : TReq} (r : Bool) (h : impl_reqOk q = some r) : ACalls cx.P 37 [.agg (eReq q)] (impl_reqOk_R r) (impl_reqOk_O r) :=
  ACalls.of (cx := cx) (X := impl_reqOk_X) (c := impl_reqOk_c) Tryz.func37 (by kernel_rfl) (by kernel_rfl) (by kernel_rfl) (P0 <|
 rg2 <| cb impl_in_t impl_in_ok 2 false h fun in_ h =>
 cdD 3 h (fun h =>
 cb impl_in_t impl_in_ok 6 false h fun in_1 h =>
 fe Tryz.func37 h) (fun h =>
 fe Tryz.func37 h))

/-! ### impl_ExecOk -/
noncomputable def impl_ExecOk_c : Code := bodyOf Tryz.f92
noncomputable def impl_ExecOk_X : Sig := { f := 92, fn := Tryz.f92, rms := [.val [] []], oms := [none] }
noncomputable def impl_ExecOk_R (r : Bool) : V := .b r
noncomputable def impl_ExecOk_O (r : Bool) : List (Option V) := [none]
noncomputable def impl_ExecOk_t (i : Nat) (fr : Bool) (r : Bool) : Nat × Tell := (i, { a := .call [.val ck85 []] fr (impl_ExecOk_R r) (impl_ExecOk_O r) })
noncomputable def impl_ExecOk_k1 : List Item := posI 2000 2 [false] [.code impl_ExecOk_c]
noncomputable def impl_ExecOk_S1 (r_ : TRun) : St := ⟨(bs 1 (.ptr 1 0 0 :: (bs 98 []))), [some [], some [.var 85 [vsl 2 eRead r_.Reads, vsl 2 ePut r_.Puts, vi r_.Val, vi r_.Code]]]⟩
noncomputable def impl_ExecOk_k2 : List Item := posI 2000 5 [false, false] [.code impl_ExecOk_c]
noncomputable def impl_ExecOk_S2 (r_ : TRun) : St := ⟨(bs 1 (.ptr 1 0 0 :: (bs 2 (.ptr 2 0 0 :: (bs 95 []))))), [some [], some [.var 85 [vsl 2 eRead r_.Reads, vsl 2 ePut r_.Puts, vi r_.Val, vi r_.Code]], some [.arr 166 1 4 ((List.replicate 4 false).map eB)]]⟩
noncomputable def impl_ExecOk_k3 : List Item := posI 2000 7 [false, false, false] [.code impl_ExecOk_c]
noncomputable def impl_ExecOk_S3 : St := ⟨(bs 100 []), [some []]⟩
noncomputable def impl_ExecOk_k4 : Option Bool :=
  some true
theorem impl_ExecOk_k4_ok (r : Bool) (h : impl_ExecOk_k4 = some r) : Fin cx impl_ExecOk_X (impl_ExecOk_R r) (impl_ExecOk_O r) impl_ExecOk_k3 (impl_ExecOk_S3) :=
  P0 <|
 rg <| fe Tryz.func92 h
noncomputable def impl_ExecOk_k5 : List Item := posI 2000 6 [false, false] [.code impl_ExecOk_c]
noncomputable def impl_ExecOk_S4 (r_ : TRun) (put : List Bool) (v76 : Int) : St := ⟨(bs 4 (.ptr 1 0 0 :: (bs 69 (vsl 2 ePut r_.Puts :: (vi (r_.Puts.length : Int) :: (vi v76 :: (bs 23 []))))))), [some [], some [.arr 166 1 4 (put.map eB)]]⟩
noncomputable def impl_ExecOk_b1 (r_ : TRun) (put : List Bool) (v76 : Int) : Option (Stp Bool ((List Bool) × Int) Unit) :=
  (bif decide (v76 < (r_.Puts.length : Int)) then
 ((idx r_.Puts v76).bind fun put1 =>
 ((impl_in put1.Box 0 3).bind fun in_ =>
 (bif (!in_) then
 some (Stp.ret false)
 else
 ((idx put put1.Box).bind fun y =>
 (need (put1.Box < 4)
 ((bif y then
 some (Stp.ret false)
 else
 ((impl_in put1.Val (-1000000) 1000000).bind fun in_1 =>
 (bif (!in_1) then
 some (Stp.ret false)
 else
 (need (put1.Box < 4)
 (some (Stp.nxt (put.set put1.Box.toNat true, w64 (v76 + 1))))))))))))))
 else
 some (Stp.brk ()))
theorem impl_ExecOk_b1_ok (r_ : TRun) (res : V) (outs : List (Option V)) (x1 : Exc Bool Unit) (hb1 : HB cx impl_ExecOk_X res outs x1 impl_ExecOk_k3 (fun s => impl_ExecOk_S3)) (hr1 : HR res outs x1 impl_ExecOk_R impl_ExecOk_O) (st1 : Stp Bool ((List Bool) × Int) Unit) (hc1 : Cont x1 (fun s : (List Bool) × Int => Fin cx impl_ExecOk_X res outs impl_ExecOk_k5 (impl_ExecOk_S4 r_ s.1 s.2)) st1) (put : List Bool) (v76 : Int) (h : impl_ExecOk_b1 r_ put v76 = some st1) : Fin cx impl_ExecOk_X res outs impl_ExecOk_k5 (impl_ExecOk_S4 r_ put v76) :=
  P0 <|
 rg <| cdD 0 h (fun h =>
 rg <| ixS ePut 0 h fun put1 hput1 h =>
 rg <| cb impl_in_t impl_in_ok 2 false h fun in_ h =>
 cdD 4 h (fun h =>
 rg <| (retD h hc1 fun e => fn0 Tryz.func92 (hr1 _ e))) (fun h =>
 bindD h fun y hy h =>
 needD h fun e1 h =>
 ob (idx0 hy) <| ob e1 <| ob (map_idx (enc := eB) hy) <| tl (tr 8 (eB y)) <| cdD 10 h (fun h =>
 rg <| (retD h hc1 fun e => fn0 Tryz.func92 (hr1 _ e))) (fun h =>
 cb impl_in_t impl_in_ok 13 false h fun in_1 h =>
 cdD 15 h (fun h =>
 rg <| (retD h hc1 fun e => fn0 Tryz.func92 (hr1 _ e))) (fun h =>
 rg <| needD h fun e2 h =>
 ob (idx0 hy) <| ob e2 <| om (Ent.arr 166 1 4 ((put.map eB).set (put1.Box.toNat) [.b true]) = Ent.arr 166 1 4 ((put.set put1.Box.toNat true).map eB)) (arr_set rfl) <| ob (map_idx (enc := eB) hy) <| tl (3, { a := .rowck (eB y) [], e := some (.arr 166 1 4 ((put.set put1.Box.toNat true).map eB)) }) <| rg <| (nxtD h hc1 fun hI => sg [] [4, 74, 75, 76] [(1, 0)] hI))))) (fun h =>
 (brkD h hc1 fun e => sg [] [] [] (hb1 _ e)))
noncomputable def impl_ExecOk_k6 (r_ : TRun) : Option Bool :=
  ((loop (fun s : (List Bool) × Int => impl_ExecOk_b1 r_ s.1 s.2) (List.replicate 4 false, 0)).bind fun x => x.go (fun r => some r) fun s => impl_ExecOk_k4)
theorem impl_ExecOk_k6_ok (r_ : TRun) (r : Bool) (h : impl_ExecOk_k6 r_ = some r) : Fin cx impl_ExecOk_X (impl_ExecOk_R r) (impl_ExecOk_O r) impl_ExecOk_k2 (impl_ExecOk_S2 r_) :=
  P0 <|
 rg <| loopJ h fun x hl hr hb => sg [] [4, 74, 75, 76] [(2, 0)] (loopD (I := fun s : (List Bool) × Int => Fin cx impl_ExecOk_X (impl_ExecOk_R r) (impl_ExecOk_O r) impl_ExecOk_k5 (impl_ExecOk_S4 r_ s.1 s.2)) hl fun s st h hc => impl_ExecOk_b1_ok r_ _ _ x (fun s e => impl_ExecOk_k4_ok r (hb s e)) (fun v e => ⟨congrArg impl_ExecOk_R (Option.some.inj (hr v e)).symm, congrArg impl_ExecOk_O (Option.some.inj (hr v e)).symm⟩) st hc s.1 s.2 h)
noncomputable def impl_ExecOk_k7 : List Item := posI 2000 4 [false] [.code impl_ExecOk_c]
noncomputable def impl_ExecOk_S5 (r_ : TRun) (read : List Bool) (v49 : Int) : St := ⟨(bs 1 (.ptr 1 0 0 :: (bs 1 (.ptr 2 0 0 :: (.ptr 3 0 0 :: (bs 42 (vsl 2 eRead r_.Reads :: (vi (r_.Reads.length : Int) :: (vi v49 :: (bs 50 [])))))))))), [some [], some [.var 85 [vsl 2 eRead r_.Reads, vsl 2 ePut r_.Puts, vi r_.Val, vi r_.Code]], some [.arr 166 1 4 (read.map eB)], some [.arr 166 1 4 ((List.replicate 4 false).map eB)]]⟩
noncomputable def impl_ExecOk_b2 (r_ : TRun) (read : List Bool) (v49 : Int) : Option (Stp Bool ((List Bool) × Int) Unit) :=
  (bif decide (v49 < (r_.Reads.length : Int)) then
 ((idx r_.Reads v49).bind fun read1 =>
 ((impl_in read1.Box 0 3).bind fun in_2 =>
 (bif (!in_2) then
 some (Stp.ret false)
 else
 ((idx read read1.Box).bind fun y1 =>
 (need (read1.Box < 4)
 ((bif y1 then
 some (Stp.ret false)
 else
 ((impl_in read1.Ver 0 1000000).bind fun in_3 =>
 (bif (!in_3) then
 some (Stp.ret false)
 else
 (need (read1.Box < 4)
 (some (Stp.nxt (read.set read1.Box.toNat true, w64 (v49 + 1))))))))))))))
 else
 some (Stp.brk ()))
theorem impl_ExecOk_b2_ok (r_ : TRun) (res : V) (outs : List (Option V)) (x1 : Exc Bool Unit) (hb1 : HB cx impl_ExecOk_X res outs x1 impl_ExecOk_k2 (fun s => impl_ExecOk_S2 r_)) (hr1 : HR res outs x1 impl_ExecOk_R impl_ExecOk_O) (st1 : Stp Bool ((List Bool) × Int) Unit) (hc1 : Cont x1 (fun s : (List Bool) × Int => Fin cx impl_ExecOk_X res outs impl_ExecOk_k7 (impl_ExecOk_S5 r_ s.1 s.2)) st1) (read : List Bool) (v49 : Int) (h : impl_ExecOk_b2 r_ read v49 = some st1) : Fin cx impl_ExecOk_X res outs impl_ExecOk_k7 (impl_ExecOk_S5 r_ read v49) :=
  P0 <|
 rg <| cdD 0 h (fun h =>
 rg <| ixS eRead 0 h fun read1 hread1 h =>
 rg <| cb impl_in_t impl_in_ok 2 false h fun in_2 h =>
 cdD 4 h (fun h =>
 rg <| (retD h hc1 fun e => fn0 Tryz.func92 (hr1 _ e))) (fun h =>
 bindD h fun y1 hy1 h =>
 needD h fun e3 h =>
 ob (idx0 hy1) <| ob e3 <| ob (map_idx (enc := eB) hy1) <| tl (tr 8 (eB y1)) <| cdD 10 h (fun h =>
 rg <| (retD h hc1 fun e => fn0 Tryz.func92 (hr1 _ e))) (fun h =>
 cb impl_in_t impl_in_ok 13 false h fun in_3 h =>
 cdD 15 h (fun h =>
 rg <| (retD h hc1 fun e => fn0 Tryz.func92 (hr1 _ e))) (fun h =>
 rg <| needD h fun e4 h =>
 ob (idx0 hy1) <| ob e4 <| om (Ent.arr 166 1 4 ((read.map eB).set (read1.Box.toNat) [.b true]) = Ent.arr 166 1 4 ((read.set read1.Box.toNat true).map eB)) (arr_set rfl) <| ob (map_idx (enc := eB) hy1) <| tl (3, { a := .rowck (eB y1) [], e := some (.arr 166 1 4 ((read.set read1.Box.toNat true).map eB)) }) <| rg <| (nxtD h hc1 fun hI => sg [] [1, 3, 4, 47, 48, 49] [(1, 0), (2, 0), (3, 0)] hI))))) (fun h =>
 (brkD h hc1 fun e => sg [] [1, 4] [(1, 0), (3, 0)] (hb1 _ e)))
noncomputable def impl_ExecOk_j1 (r_ : TRun) : Option Bool :=
  ((loop (fun s : (List Bool) × Int => impl_ExecOk_b2 r_ s.1 s.2) (List.replicate 4 false, 0)).bind fun x => x.go (fun r => some r) fun s => impl_ExecOk_k6 r_)
theorem impl_ExecOk_j1_ok (r_ : TRun) (r : Bool) (h : impl_ExecOk_j1 r_ = some r) : Fin cx impl_ExecOk_X (impl_ExecOk_R r) (impl_ExecOk_O r) impl_ExecOk_k1 (impl_ExecOk_S1 r_) :=
  P0 <|
 rg <| om ((List.replicate 4 ([.b false] : List V)).flatten = [.b false, .b false, .b false, .b false] ∧ ([.b false] : List V).length = 1) ⟨rfl, rfl⟩ <| om ((List.replicate 4 ([.b false] : List V)).flatten = [.b false, .b false, .b false, .b false] ∧ ([.b false] : List V).length = 1) ⟨rfl, rfl⟩ <| rg <| loopJ h fun x hl hr hb => sg [] [1, 3, 4, 47, 48, 49] [(1, 0), (2, 0), (3, 0)] (loopD (I := fun s : (List Bool) × Int => Fin cx impl_ExecOk_X (impl_ExecOk_R r) (impl_ExecOk_O r) impl_ExecOk_k7 (impl_ExecOk_S5 r_ s.1 s.2)) hl fun s st h hc => impl_ExecOk_b2_ok r_ _ _ x (fun s e => impl_ExecOk_k6_ok r_ r (hb s e)) (fun v e => ⟨congrArg impl_ExecOk_R (Option.some.inj (hr v e)).symm, congrArg impl_ExecOk_O (Option.some.inj (hr v e)).symm⟩) st hc s.1 s.2 h)
noncomputable def impl_ExecOk (r_ : TRun) : Option Bool :=
  ((((impl_in r_.Code 0 3).bind fun in_4 =>
 (bif (!in_4) then
 some (Exc.ret false)
 else
 ((impl_in r_.Val (-1000000) 1000000).bind fun in_5 =>
 (bif (!in_5) then
 some (Exc.ret false)
 else
 (bif (r_.Code != 0) then
 (bif (r_.Val != 0) then
 some (Exc.ret false)
 else
 (bif decide ((r_.Puts.length : Int) > 0) then
 some (Exc.ret false)
 else
 (bif (r_.Code == 3) then
 (bif decide ((r_.Reads.length : Int) > 0) then
 some (Exc.ret false)
 else
 some (Exc.brk ()))
 else
 some (Exc.brk ()))))
 else
 (bif (r_.Code == 3) then
 (bif decide ((r_.Reads.length : Int) > 0) then
 some (Exc.ret false)
 else
 some (Exc.brk ()))
 else
 some (Exc.brk ()))))))) : Option (Exc Bool Unit)).bind fun x => x.go some fun j => impl_ExecOk_j1 r_)
theorem impl_ExecOk_ok {r_ : TRun} (r : Bool) (h : impl_ExecOk r_ = some r) : ACalls cx.P 92 [.agg (eRun r_)] (impl_ExecOk_R r) (impl_ExecOk_O r) :=
  ACalls.of (cx := cx) (X := impl_ExecOk_X) (c := impl_ExecOk_c) Tryz.func92 (by kernel_rfl) (by kernel_rfl) (by kernel_rfl) (P0 <|
 rg <| joinD (I := fun j : Unit => Fin cx impl_ExecOk_X (impl_ExecOk_R r) (impl_ExecOk_O r) impl_ExecOk_k1 (impl_ExecOk_S1 r_)) h (fun j h => impl_ExecOk_j1_ok r_ r h) (fun x1 h hc1 =>
  rg <| cb impl_in_t impl_in_ok 2 false h fun in_4 h =>
 cdD 4 h (fun h =>
 rg <| (jretD h hc1 fun h => fe Tryz.func92 h)) (fun h =>
 cb impl_in_t impl_in_ok 7 false h fun in_5 h =>
 cdD 10 h (fun h =>
 rg <| (jretD h hc1 fun h => fe Tryz.func92 h)) (fun h =>
 cdD 14 h (fun h =>
 cdD 18 h (fun h =>
 rg <| (jretD h hc1 fun h => fe Tryz.func92 h)) (fun h =>
 cdD 26 h (fun h =>
 rg <| (jretD h hc1 fun h => fe Tryz.func92 h)) (fun h =>
 cdD 30 h (fun h =>
 cdD 36 h (fun h =>
 rg <| (jretD h hc1 fun h => fe Tryz.func92 h)) (fun h =>
 (jbrkD h hc1 fun hI => sg [] [1] [(1, 0)] hI))) (fun h =>
 (jbrkD h hc1 fun hI => sg [] [1] [(1, 0)] hI))))) (fun h =>
 cdD 30 h (fun h =>
 cdD 36 h (fun h =>
 rg <| (jretD h hc1 fun h => fe Tryz.func92 h)) (fun h =>
 (jbrkD h hc1 fun hI => sg [] [1] [(1, 0)] hI))) (fun h =>
 (jbrkD h hc1 fun hI => sg [] [1] [(1, 0)] hI)))))))

/-! ### impl_CertEntry -/
noncomputable def impl_CertEntry_c : Code := bodyOf Tryz.f69
noncomputable def impl_CertEntry_X : Sig := { f := 69, fn := Tryz.f69, rms := [.val [] []], oms := [none] }
noncomputable def impl_CertEntry_R (r : Bool) : V := .b r
noncomputable def impl_CertEntry_O (r : Bool) : List (Option V) := [none]
noncomputable def impl_CertEntry_t (i : Nat) (fr : Bool) (r : Bool) : Nat × Tell := (i, { a := .call [.val ck87 []] fr (impl_CertEntry_R r) (impl_CertEntry_O r) })
noncomputable def impl_CertEntry (e_ : TEntry) : Option Bool :=
  (bif e_.None then
 ((impl_CertLike e_ (TEntry.mk true (TReq.mk 0 0) (TRun.mk [] [] 0 0))).bind fun certLike =>
 some certLike)
 else
 ((impl_reqOk e_.Req).bind fun reqOk =>
 (bif reqOk then
 ((impl_ExecOk e_.Run).bind fun execOk =>
 (bif execOk then
 some (e_.Run.Code != 3)
 else
 some false))
 else
 some false)))
theorem impl_CertEntry_ok {e_ : TEntry} (r : Bool) (h : impl_CertEntry e_ = some r) : ACalls cx.P 69 [.agg (eEntry e_)] (impl_CertEntry_R r) (impl_CertEntry_O r) :=
  ACalls.of (cx := cx) (X := impl_CertEntry_X) (c := impl_CertEntry_c) Tryz.func69 (by kernel_rfl) (by kernel_rfl) (by kernel_rfl) (P0 <|
 rg2 <| cdD 1 h (fun h =>
 rg <| cb impl_CertLike_t impl_CertLike_ok 2 false h fun certLike h =>
 fe Tryz.func69 h) (fun h =>
 rg <| cb impl_reqOk_t impl_reqOk_ok 2 false h fun reqOk h =>
 cdD 3 h (fun h =>
 cb impl_ExecOk_t impl_ExecOk_ok 6 false h fun execOk h =>
 cdD 8 h (fun h =>
 fe Tryz.func69 h) (fun h =>
 fe Tryz.func69 h)) (fun h =>
 fe Tryz.func69 h)))

/-! ### impl_voteOk -/
noncomputable def impl_voteOk_c : Code := bodyOf Tryz.f96
noncomputable def impl_voteOk_X : Sig := { f := 96, fn := Tryz.f96, rms := [.val [] []], oms := [none] }
noncomputable def impl_voteOk_R (r : Bool) : V := .b r
noncomputable def impl_voteOk_O (r : Bool) : List (Option V) := [none]
noncomputable def impl_voteOk_t (i : Nat) (fr : Bool) (r : Bool) : Nat × Tell := (i, { a := .call [.val ck144 []] fr (impl_voteOk_R r) (impl_voteOk_O r) })
noncomputable def impl_voteOk (v_ : TVote) : Option Bool :=
  (bif (v_.Bal == 0) then
 ((impl_CertLike v_.Entry (TEntry.mk false (TReq.mk 0 0) (TRun.mk [] [] 0 0))).bind fun certLike =>
 some certLike)
 else
 ((impl_in v_.Bal 1 3000).bind fun in_ =>
 (bif in_ then
 ((impl_CertEntry v_.Entry).bind fun certEntry =>
 some certEntry)
 else
 some false)))
theorem impl_voteOk_ok {v_ : TVote} (r : Bool) (h : impl_voteOk v_ = some r) : ACalls cx.P 96 [.agg (eVote v_)] (impl_voteOk_R r) (impl_voteOk_O r) :=
  ACalls.of (cx := cx) (X := impl_voteOk_X) (c := impl_voteOk_c) Tryz.func96 (by kernel_rfl) (by kernel_rfl) (by kernel_rfl) (P0 <|
 rg2 <| cdD 2 h (fun h =>
 rg <| cb impl_CertLike_t impl_CertLike_ok 3 false h fun certLike h =>
 fe Tryz.func96 h) (fun h =>
 rg <| cb impl_in_t impl_in_ok 2 false h fun in_ h =>
 cdD 3 h (fun h =>
 cb impl_CertEntry_t impl_CertEntry_ok 6 false h fun certEntry h =>
 fe Tryz.func96 h) (fun h =>
 fe Tryz.func96 h)))

/-! ### impl_votesOk -/
noncomputable def impl_votesOk_c : Code := bodyOf Tryz.f72
noncomputable def impl_votesOk_X : Sig := { f := 72, fn := Tryz.f72, rms := [.val [] []], oms := [none] }
noncomputable def impl_votesOk_R (r : Bool) : V := .b r
noncomputable def impl_votesOk_O (r : Bool) : List (Option V) := [none]
noncomputable def impl_votesOk_t (i : Nat) (fr : Bool) (r : Bool) : Nat × Tell := (i, { a := .call [.val [some 8] []] fr (impl_votesOk_R r) (impl_votesOk_O r) })
noncomputable def impl_votesOk_k1 : List Item := posI 2000 3 [false] [.code impl_votesOk_c]
noncomputable def impl_votesOk_S1 (list : List TVote) : St := ⟨(vsl 8 eVote list :: (bs 17 [])), [some []]⟩
noncomputable def impl_votesOk_k2 (list : List TVote) : Option Bool :=
  some (decide ((list.length : Int) ≤ 40))
theorem impl_votesOk_k2_ok (list : List TVote) (r : Bool) (h : impl_votesOk_k2 list = some r) : Fin cx impl_votesOk_X (impl_votesOk_R r) (impl_votesOk_O r) impl_votesOk_k1 (impl_votesOk_S1 list) :=
  P0 <|
 rg <| fe Tryz.func72 h
noncomputable def impl_votesOk_k3 : List Item := posI 2000 2 [] [.code impl_votesOk_c]
noncomputable def impl_votesOk_S2 (list : List TVote) (v7 : Int) : St := ⟨(vsl 8 eVote list :: (bs 4 (vsl 8 eVote list :: (vi (list.length : Int) :: (vi v7 :: (bs 10 [])))))), [some []]⟩
noncomputable def impl_votesOk_b1 (list : List TVote) (v7 : Int) : Option (Stp Bool Int Unit) :=
  (bif decide (v7 < (list.length : Int)) then
 ((idx list v7).bind fun vote =>
 ((impl_voteOk vote).bind fun voteOk =>
 (bif (!voteOk) then
 some (Stp.ret false)
 else
 some (Stp.nxt (w64 (v7 + 1))))))
 else
 some (Stp.brk ()))
theorem impl_votesOk_b1_ok (list : List TVote) (res : V) (outs : List (Option V)) (x1 : Exc Bool Unit) (hb1 : HB cx impl_votesOk_X res outs x1 impl_votesOk_k1 (fun s => impl_votesOk_S1 list)) (hr1 : HR res outs x1 impl_votesOk_R impl_votesOk_O) (st1 : Stp Bool Int Unit) (hc1 : Cont x1 (fun s : Int => Fin cx impl_votesOk_X res outs impl_votesOk_k3 (impl_votesOk_S2 list s)) st1) (v7 : Int) (h : impl_votesOk_b1 list v7 = some st1) : Fin cx impl_votesOk_X res outs impl_votesOk_k3 (impl_votesOk_S2 list v7) :=
  P0 <|
 rg <| cdD 0 h (fun h =>
 rg <| ixS eVote 0 h fun vote hvote h =>
 rg <| cb impl_voteOk_t impl_voteOk_ok 1 false h fun voteOk h =>
 cdD 2 h (fun h =>
 rg <| (retD h hc1 fun e => fn0 Tryz.func72 (hr1 _ e))) (fun h =>
 rg <| (nxtD h hc1 fun hI => sg [] [0, 5, 6, 7] [] hI))) (fun h =>
 (brkD h hc1 fun e => sg [] [0] [] (hb1 _ e)))
noncomputable def impl_votesOk (list : List TVote) : Option Bool :=
  ((loop (fun s : Int => impl_votesOk_b1 list s) 0).bind fun x => x.go (fun r => some r) fun s => impl_votesOk_k2 list)
theorem impl_votesOk_ok {list : List TVote} (r : Bool) (h : impl_votesOk list = some r) : ACalls cx.P 72 [vsl 8 eVote list] (impl_votesOk_R r) (impl_votesOk_O r) :=
  ACalls.of (cx := cx) (X := impl_votesOk_X) (c := impl_votesOk_c) Tryz.func72 (by kernel_rfl) (by kernel_rfl) (by kernel_rfl) (P0 <|
 rg2 <| loopJ h fun x hl hr hb => sg [] [0, 5, 6, 7] [] (loopD (I := fun s : Int => Fin cx impl_votesOk_X (impl_votesOk_R r) (impl_votesOk_O r) impl_votesOk_k3 (impl_votesOk_S2 list s)) hl fun s st h hc => impl_votesOk_b1_ok list _ _ x (fun s e => impl_votesOk_k2_ok list r (hb s e)) (fun v e => ⟨congrArg impl_votesOk_R (Option.some.inj (hr v e)).symm, congrArg impl_votesOk_O (Option.some.inj (hr v e)).symm⟩) st hc s h))

/-! ### impl_AccOk -/
noncomputable def impl_AccOk_c : Code := bodyOf Tryz.f67
noncomputable def impl_AccOk_X : Sig := { f := 67, fn := Tryz.f67, rms := [.val [] []], oms := [none] }
noncomputable def impl_AccOk_R (r : Bool) : V := .b r
noncomputable def impl_AccOk_O (r : Bool) : List (Option V) := [none]
noncomputable def impl_AccOk_t (i : Nat) (fr : Bool) (r : Bool) : Nat × Tell := (i, { a := .call [.val [none, some 8] []] fr (impl_AccOk_R r) (impl_AccOk_O r) })
noncomputable def impl_AccOk_k1 : List Item := posI 2000 3 [false] [.code impl_AccOk_c]
noncomputable def impl_AccOk_S1 (a : TAcc) : St := ⟨(bs 1 (.ptr 1 0 0 :: (bs 24 []))), [some [], some [.var 80 [vi a.Promised, vsl 8 eVote a.Votes]]]⟩
noncomputable def impl_AccOk_k2 (a : TAcc) : Option Bool :=
  ((impl_in a.Promised 0 3000).bind fun in_ =>
 (bif in_ then
 ((impl_votesOk a.Votes).bind fun votesOk =>
 some votesOk)
 else
 some false))
theorem impl_AccOk_k2_ok (a : TAcc) (r : Bool) (h : impl_AccOk_k2 a = some r) : Fin cx impl_AccOk_X (impl_AccOk_R r) (impl_AccOk_O r) impl_AccOk_k1 (impl_AccOk_S1 a) :=
  P0 <|
 rg <| cb impl_in_t impl_in_ok 2 false h fun in_ h =>
 cdD 3 h (fun h =>
 cb impl_votesOk_t impl_votesOk_ok 6 false h fun votesOk h =>
 fe Tryz.func67 h) (fun h =>
 fe Tryz.func67 h)
noncomputable def impl_AccOk_k3 : List Item := posI 2000 2 [] [.code impl_AccOk_c]
noncomputable def impl_AccOk_S2 (a : TAcc) (v8 : Int) : St := ⟨(bs 1 (.ptr 1 0 0 :: (bs 4 (vsl 8 eVote a.Votes :: (vi (a.Votes.length : Int) :: (vi v8 :: (bs 17 []))))))), [some [], some [.var 80 [vi a.Promised, vsl 8 eVote a.Votes]]]⟩
noncomputable def impl_AccOk_b1 (a : TAcc) (v8 : Int) : Option (Stp Bool Int Unit) :=
  (bif decide (v8 < (a.Votes.length : Int)) then
 ((idx a.Votes v8).bind fun vote =>
 (bif decide (vote.Bal > a.Promised) then
 some (Stp.ret false)
 else
 some (Stp.nxt (w64 (v8 + 1)))))
 else
 some (Stp.brk ()))
theorem impl_AccOk_b1_ok (a : TAcc) (res : V) (outs : List (Option V)) (x1 : Exc Bool Unit) (hb1 : HB cx impl_AccOk_X res outs x1 impl_AccOk_k1 (fun s => impl_AccOk_S1 a)) (hr1 : HR res outs x1 impl_AccOk_R impl_AccOk_O) (st1 : Stp Bool Int Unit) (hc1 : Cont x1 (fun s : Int => Fin cx impl_AccOk_X res outs impl_AccOk_k3 (impl_AccOk_S2 a s)) st1) (v8 : Int) (h : impl_AccOk_b1 a v8 = some st1) : Fin cx impl_AccOk_X res outs impl_AccOk_k3 (impl_AccOk_S2 a v8) :=
  P0 <|
 rg <| cdD 0 h (fun h =>
 rg <| ixS eVote 0 h fun vote hvote h =>
 rg <| cdD 4 h (fun h =>
 rg <| (retD h hc1 fun e => fn0 Tryz.func67 (hr1 _ e))) (fun h =>
 rg <| (nxtD h hc1 fun hI => sg [] [1, 6, 7, 8] [(1, 0)] hI))) (fun h =>
 (brkD h hc1 fun e => sg [] [1] [(1, 0)] (hb1 _ e)))
noncomputable def impl_AccOk (a : TAcc) : Option Bool :=
  ((loop (fun s : Int => impl_AccOk_b1 a s) 0).bind fun x => x.go (fun r => some r) fun s => impl_AccOk_k2 a)
theorem impl_AccOk_ok {a : TAcc} (r : Bool) (h : impl_AccOk a = some r) : ACalls cx.P 67 [.agg (eAcc a)] (impl_AccOk_R r) (impl_AccOk_O r) :=
  ACalls.of (cx := cx) (X := impl_AccOk_X) (c := impl_AccOk_c) Tryz.func67 (by kernel_rfl) (by kernel_rfl) (by kernel_rfl) (P0 <|
 rg2 <| loopJ h fun x hl hr hb => sg [] [1, 6, 7, 8] [(1, 0)] (loopD (I := fun s : Int => Fin cx impl_AccOk_X (impl_AccOk_R r) (impl_AccOk_O r) impl_AccOk_k3 (impl_AccOk_S2 a s)) hl fun s st h hc => impl_AccOk_b1_ok a _ _ x (fun s e => impl_AccOk_k2_ok a r (hb s e)) (fun v e => ⟨congrArg impl_AccOk_R (Option.some.inj (hr v e)).symm, congrArg impl_AccOk_O (Option.some.inj (hr v e)).symm⟩) st hc s h))

/-! ### impl_listOk -/
noncomputable def impl_listOk_c : Code := bodyOf Tryz.f68
noncomputable def impl_listOk_X : Sig := { f := 68, fn := Tryz.f68, rms := [.val [] []], oms := [none] }
noncomputable def impl_listOk_R (r : Bool) : V := .b r
noncomputable def impl_listOk_O (r : Bool) : List (Option V) := [none]
noncomputable def impl_listOk_t (i : Nat) (fr : Bool) (r : Bool) : Nat × Tell := (i, { a := .call [.val [some 7] []] fr (impl_listOk_R r) (impl_listOk_O r) })
noncomputable def impl_listOk_k1 : List Item := posI 2000 3 [false] [.code impl_listOk_c]
noncomputable def impl_listOk_S1 (list : List TEntry) : St := ⟨(vsl 7 eEntry list :: (bs 17 [])), [some []]⟩
noncomputable def impl_listOk_k2 (list : List TEntry) : Option Bool :=
  some (decide ((list.length : Int) ≤ 40))
theorem impl_listOk_k2_ok (list : List TEntry) (r : Bool) (h : impl_listOk_k2 list = some r) : Fin cx impl_listOk_X (impl_listOk_R r) (impl_listOk_O r) impl_listOk_k1 (impl_listOk_S1 list) :=
  P0 <|
 rg <| fe Tryz.func68 h
noncomputable def impl_listOk_k3 : List Item := posI 2000 2 [] [.code impl_listOk_c]
noncomputable def impl_listOk_S2 (list : List TEntry) (v7 : Int) : St := ⟨(vsl 7 eEntry list :: (bs 4 (vsl 7 eEntry list :: (vi (list.length : Int) :: (vi v7 :: (bs 10 [])))))), [some []]⟩
noncomputable def impl_listOk_b1 (list : List TEntry) (v7 : Int) : Option (Stp Bool Int Unit) :=
  (bif decide (v7 < (list.length : Int)) then
 ((idx list v7).bind fun entry =>
 ((impl_CertEntry entry).bind fun certEntry =>
 (bif (!certEntry) then
 some (Stp.ret false)
 else
 some (Stp.nxt (w64 (v7 + 1))))))
 else
 some (Stp.brk ()))
theorem impl_listOk_b1_ok (list : List TEntry) (res : V) (outs : List (Option V)) (x1 : Exc Bool Unit) (hb1 : HB cx impl_listOk_X res outs x1 impl_listOk_k1 (fun s => impl_listOk_S1 list)) (hr1 : HR res outs x1 impl_listOk_R impl_listOk_O) (st1 : Stp Bool Int Unit) (hc1 : Cont x1 (fun s : Int => Fin cx impl_listOk_X res outs impl_listOk_k3 (impl_listOk_S2 list s)) st1) (v7 : Int) (h : impl_listOk_b1 list v7 = some st1) : Fin cx impl_listOk_X res outs impl_listOk_k3 (impl_listOk_S2 list v7) :=
  P0 <|
 rg <| cdD 0 h (fun h =>
 rg <| ixS eEntry 0 h fun entry hentry h =>
 rg <| cb impl_CertEntry_t impl_CertEntry_ok 1 false h fun certEntry h =>
 cdD 2 h (fun h =>
 rg <| (retD h hc1 fun e => fn0 Tryz.func68 (hr1 _ e))) (fun h =>
 rg <| (nxtD h hc1 fun hI => sg [] [0, 5, 6, 7] [] hI))) (fun h =>
 (brkD h hc1 fun e => sg [] [0] [] (hb1 _ e)))
noncomputable def impl_listOk (list : List TEntry) : Option Bool :=
  ((loop (fun s : Int => impl_listOk_b1 list s) 0).bind fun x => x.go (fun r => some r) fun s => impl_listOk_k2 list)
theorem impl_listOk_ok {list : List TEntry} (r : Bool) (h : impl_listOk list = some r) : ACalls cx.P 68 [vsl 7 eEntry list] (impl_listOk_R r) (impl_listOk_O r) :=
  ACalls.of (cx := cx) (X := impl_listOk_X) (c := impl_listOk_c) Tryz.func68 (by kernel_rfl) (by kernel_rfl) (by kernel_rfl) (P0 <|
 rg2 <| loopJ h fun x hl hr hb => sg [] [0, 5, 6, 7] [] (loopD (I := fun s : Int => Fin cx impl_listOk_X (impl_listOk_R r) (impl_listOk_O r) impl_listOk_k3 (impl_listOk_S2 list s)) hl fun s st h hc => impl_listOk_b1_ok list _ _ x (fun s e => impl_listOk_k2_ok list r (hb s e)) (fun v e => ⟨congrArg impl_listOk_R (Option.some.inj (hr v e)).symm, congrArg impl_listOk_O (Option.some.inj (hr v e)).symm⟩) st hc s h))

/-! ### impl_insOk_c1 -/
noncomputable def impl_insOk_c1_c : Code := bodyOf Tryz.f97
noncomputable def impl_insOk_c1_X : Sig := { f := 97, fn := Tryz.f97, rms := [.val [] []], oms := [none] }
noncomputable def impl_insOk_c1_R (r : Bool) : V := .b r
noncomputable def impl_insOk_c1_O (r : Bool) : List (Option V) := [none]
noncomputable def impl_insOk_c1_t (i : Nat) (fr : Bool) (r : Bool) : Nat × Tell := (i, { a := .call [.val [] []] fr (impl_insOk_c1_R r) (impl_insOk_c1_O r) })
noncomputable def impl_insOk_c1 (n : Int) : Option Bool :=
  ((impl_in n 0 3).bind fun in_ =>
 some in_)
theorem impl_insOk_c1_ok {n : Int} (r : Bool) (h : impl_insOk_c1 n = some r) : ACalls cx.P 97 [vi n] (impl_insOk_c1_R r) (impl_insOk_c1_O r) :=
  ACalls.of (cx := cx) (X := impl_insOk_c1_X) (c := impl_insOk_c1_c) Tryz.func97 (by kernel_rfl) (by kernel_rfl) (by kernel_rfl) (P0 <|
 rg2 <| cb impl_in_t impl_in_ok 1 false h fun in_ h =>
 fe Tryz.func97 h)

/-! ### impl_insOk_c2 -/
noncomputable def impl_insOk_c2_c : Code := bodyOf Tryz.f98
noncomputable def impl_insOk_c2_X : Sig := { f := 98, fn := Tryz.f98, rms := [.val [] []], oms := [none] }
noncomputable def impl_insOk_c2_R (r : Bool) : V := .b r
noncomputable def impl_insOk_c2_O (r : Bool) : List (Option V) := [none]
noncomputable def impl_insOk_c2_t (i : Nat) (fr : Bool) (r : Bool) : Nat × Tell := (i, { a := .call [.val [] []] fr (impl_insOk_c2_R r) (impl_insOk_c2_O r) })
noncomputable def impl_insOk_c2 (n : Int) : Option Bool :=
  ((impl_in n 0 3).bind fun in_ =>
 some in_)
theorem impl_insOk_c2_ok {n : Int} (r : Bool) (h : impl_insOk_c2 n = some r) : ACalls cx.P 98 [vi n] (impl_insOk_c2_R r) (impl_insOk_c2_O r) :=
  ACalls.of (cx := cx) (X := impl_insOk_c2_X) (c := impl_insOk_c2_c) Tryz.func98 (by kernel_rfl) (by kernel_rfl) (by kernel_rfl) (P0 <|
 rg2 <| cb impl_in_t impl_in_ok 1 false h fun in_ h =>
 fe Tryz.func98 h)

/-! ### impl_insOk -/
noncomputable def impl_insOk_c : Code := bodyOf Tryz.f73
noncomputable def impl_insOk_X : Sig := { f := 73, fn := Tryz.f73, rms := [.val [] []], oms := [none] }
noncomputable def impl_insOk_R (r : Bool) : V := .b r
noncomputable def impl_insOk_O (r : Bool) : List (Option V) := [none]
noncomputable def impl_insOk_t (i : Nat) (fr : Bool) (r : Bool) : Nat × Tell := (i, { a := .call [.val [] []] fr (impl_insOk_R r) (impl_insOk_O r) })
noncomputable def impl_insOk (x_ : TIns) : Option Bool :=
  (bif (x_.Kind == 1) then
 ((impl_insOk_c1 x_.A).bind fun c1 =>
 (bif c1 then
 ((impl_insOk_c2 x_.B).bind fun c2 =>
 (bif c2 then
 some (x_.N == 0)
 else
 some false))
 else
 some false))
 else
 (bif (x_.Kind == 2) then
 ((impl_insOk_c2 x_.A).bind fun c21 =>
 (bif c21 then
 ((impl_insOk_c1 x_.B).bind fun c11 =>
 (bif c11 then
 some (x_.N == 0)
 else
 some false))
 else
 some false))
 else
 (bif (x_.Kind == 3) then
 ((impl_insOk_c1 x_.A).bind fun c12 =>
 (bif c12 then
 (bif (x_.B == 0) then
 ((impl_in x_.N (-1000000) 1000000).bind fun in_ =>
 some in_)
 else
 some false)
 else
 some false))
 else
 (bif (x_.Kind == 4) then
 ((impl_insOk_c1 x_.A).bind fun c13 =>
 (bif c13 then
 ((impl_insOk_c1 x_.B).bind fun c14 =>
 (bif c14 then
 some (x_.N == 0)
 else
 some false))
 else
 some false))
 else
 (bif (x_.Kind == 5) then
 ((impl_insOk_c1 x_.A).bind fun c15 =>
 (bif c15 then
 ((impl_insOk_c1 x_.B).bind fun c16 =>
 (bif c16 then
 some (x_.N == 0)
 else
 some false))
 else
 some false))
 else
 (bif (x_.Kind == 6) then
 ((impl_insOk_c1 x_.A).bind fun c17 =>
 (bif c17 then
 ((impl_insOk_c1 x_.B).bind fun c18 =>
 (bif c18 then
 ((impl_in x_.N 1 10).bind fun in_1 =>
 some in_1)
 else
 some false))
 else
 some false))
 else
 (bif (x_.Kind == 7) then
 (bif (x_.A == 0) then
 (bif (x_.B == 0) then
 some (x_.N == 0)
 else
 some false)
 else
 some false)
 else
 some false)))))))
set_option maxRecDepth 20000 in
theorem impl_insOk_ok {x_ : TIns} (r : Bool) (h : impl_insOk x_ = some r) : ACalls cx.P 73 [.agg (eIns x_)] (impl_insOk_R r) (impl_insOk_O r) :=
  ACalls.of (cx := cx) (X := impl_insOk_X) (c := impl_insOk_c) Tryz.func73 (by kernel_rfl) (by kernel_rfl) (by kernel_rfl) (P0 <|
 rg4 <| rg <| cdD 1 h (fun h =>
 rg <| cb impl_insOk_c1_t impl_insOk_c1_ok 3 false h fun c1 h =>
 cdD 4 h (fun h =>
 cb impl_insOk_c2_t impl_insOk_c2_ok 8 false h fun c2 h =>
 cdD 10 h (fun h =>
 fe Tryz.func73 h) (fun h =>
 fe Tryz.func73 h)) (fun h =>
 fe Tryz.func73 h)) (fun h =>
 rg <| cdD 1 h (fun h =>
 rg <| cb impl_insOk_c2_t impl_insOk_c2_ok 3 false h fun c21 h =>
 cdD 4 h (fun h =>
 cb impl_insOk_c1_t impl_insOk_c1_ok 8 false h fun c11 h =>
 cdD 10 h (fun h =>
 fe Tryz.func73 h) (fun h =>
 fe Tryz.func73 h)) (fun h =>
 fe Tryz.func73 h)) (fun h =>
 rg <| cdD 1 h (fun h =>
 rg <| cb impl_insOk_c1_t impl_insOk_c1_ok 3 false h fun c12 h =>
 cdD 4 h (fun h =>
 cdD 9 h (fun h =>
 cb impl_in_t impl_in_ok 12 false h fun in_ h =>
 fe Tryz.func73 h) (fun h =>
 fe Tryz.func73 h)) (fun h =>
 fe Tryz.func73 h)) (fun h =>
 rg <| cdD 1 h (fun h =>
 rg <| cb impl_insOk_c1_t impl_insOk_c1_ok 3 false h fun c13 h =>
 cdD 4 h (fun h =>
 cb impl_insOk_c1_t impl_insOk_c1_ok 8 false h fun c14 h =>
 cdD 10 h (fun h =>
 fe Tryz.func73 h) (fun h =>
 fe Tryz.func73 h)) (fun h =>
 fe Tryz.func73 h)) (fun h =>
 rg <| cdD 1 h (fun h =>
 rg <| cb impl_insOk_c1_t impl_insOk_c1_ok 3 false h fun c15 h =>
 cdD 4 h (fun h =>
 cb impl_insOk_c1_t impl_insOk_c1_ok 8 false h fun c16 h =>
 cdD 10 h (fun h =>
 fe Tryz.func73 h) (fun h =>
 fe Tryz.func73 h)) (fun h =>
 fe Tryz.func73 h)) (fun h =>
 rg <| cdD 1 h (fun h =>
 rg <| cb impl_insOk_c1_t impl_insOk_c1_ok 3 false h fun c17 h =>
 cdD 4 h (fun h =>
 cb impl_insOk_c1_t impl_insOk_c1_ok 8 false h fun c18 h =>
 cdD 10 h (fun h =>
 cb impl_in_t impl_in_ok 13 false h fun in_1 h =>
 fe Tryz.func73 h) (fun h =>
 fe Tryz.func73 h)) (fun h =>
 fe Tryz.func73 h)) (fun h =>
 rg <| cdD 1 h (fun h =>
 rg <| cdD 3 h (fun h =>
 cdD 8 h (fun h =>
 fe Tryz.func73 h) (fun h =>
 fe Tryz.func73 h)) (fun h =>
 fe Tryz.func73 h)) (fun h =>
 rg <| fe Tryz.func73 h))))))))

/-! ### impl_ProgOk -/
noncomputable def impl_ProgOk_c : Code := bodyOf Tryz.f38
noncomputable def impl_ProgOk_X : Sig := { f := 38, fn := Tryz.f38, rms := [.val [] []], oms := [none] }
noncomputable def impl_ProgOk_R (r : Bool) : V := .b r
noncomputable def impl_ProgOk_O (r : Bool) : List (Option V) := [none]
noncomputable def impl_ProgOk_t (i : Nat) (fr : Bool) (r : Bool) : Nat × Tell := (i, { a := .call [.val [some 4] []] fr (impl_ProgOk_R r) (impl_ProgOk_O r) })
noncomputable def impl_ProgOk_k1 : List Item := posI 2000 3 [false] [.code impl_ProgOk_c]
noncomputable def impl_ProgOk_S1 (list : List TIns) : St := ⟨(vsl 4 eIns list :: (bs 17 [])), [some []]⟩
noncomputable def impl_ProgOk_k2 (list : List TIns) : Option Bool :=
  some (decide ((list.length : Int) ≤ 10))
theorem impl_ProgOk_k2_ok (list : List TIns) (r : Bool) (h : impl_ProgOk_k2 list = some r) : Fin cx impl_ProgOk_X (impl_ProgOk_R r) (impl_ProgOk_O r) impl_ProgOk_k1 (impl_ProgOk_S1 list) :=
  P0 <|
 rg <| fe Tryz.func38 h
noncomputable def impl_ProgOk_k3 : List Item := posI 2000 2 [] [.code impl_ProgOk_c]
noncomputable def impl_ProgOk_S2 (list : List TIns) (v7 : Int) : St := ⟨(vsl 4 eIns list :: (bs 4 (vsl 4 eIns list :: (vi (list.length : Int) :: (vi v7 :: (bs 10 [])))))), [some []]⟩
noncomputable def impl_ProgOk_b1 (list : List TIns) (v7 : Int) : Option (Stp Bool Int Unit) :=
  (bif decide (v7 < (list.length : Int)) then
 ((idx list v7).bind fun ins =>
 ((impl_insOk ins).bind fun insOk =>
 (bif (!insOk) then
 some (Stp.ret false)
 else
 some (Stp.nxt (w64 (v7 + 1))))))
 else
 some (Stp.brk ()))
theorem impl_ProgOk_b1_ok (list : List TIns) (res : V) (outs : List (Option V)) (x1 : Exc Bool Unit) (hb1 : HB cx impl_ProgOk_X res outs x1 impl_ProgOk_k1 (fun s => impl_ProgOk_S1 list)) (hr1 : HR res outs x1 impl_ProgOk_R impl_ProgOk_O) (st1 : Stp Bool Int Unit) (hc1 : Cont x1 (fun s : Int => Fin cx impl_ProgOk_X res outs impl_ProgOk_k3 (impl_ProgOk_S2 list s)) st1) (v7 : Int) (h : impl_ProgOk_b1 list v7 = some st1) : Fin cx impl_ProgOk_X res outs impl_ProgOk_k3 (impl_ProgOk_S2 list v7) :=
  P0 <|
 rg <| cdD 0 h (fun h =>
 rg <| ixS eIns 0 h fun ins hins h =>
 rg <| cb impl_insOk_t impl_insOk_ok 1 false h fun insOk h =>
 cdD 2 h (fun h =>
 rg <| (retD h hc1 fun e => fn0 Tryz.func38 (hr1 _ e))) (fun h =>
 rg <| (nxtD h hc1 fun hI => sg [] [0, 5, 6, 7] [] hI))) (fun h =>
 (brkD h hc1 fun e => sg [] [0] [] (hb1 _ e)))
noncomputable def impl_ProgOk (list : List TIns) : Option Bool :=
  ((loop (fun s : Int => impl_ProgOk_b1 list s) 0).bind fun x => x.go (fun r => some r) fun s => impl_ProgOk_k2 list)
theorem impl_ProgOk_ok {list : List TIns} (r : Bool) (h : impl_ProgOk list = some r) : ACalls cx.P 38 [vsl 4 eIns list] (impl_ProgOk_R r) (impl_ProgOk_O r) :=
  ACalls.of (cx := cx) (X := impl_ProgOk_X) (c := impl_ProgOk_c) Tryz.func38 (by kernel_rfl) (by kernel_rfl) (by kernel_rfl) (P0 <|
 rg2 <| loopJ h fun x hl hr hb => sg [] [0, 5, 6, 7] [] (loopD (I := fun s : Int => Fin cx impl_ProgOk_X (impl_ProgOk_R r) (impl_ProgOk_O r) impl_ProgOk_k3 (impl_ProgOk_S2 list s)) hl fun s st h hc => impl_ProgOk_b1_ok list _ _ x (fun s e => impl_ProgOk_k2_ok list r (hb s e)) (fun v e => ⟨congrArg impl_ProgOk_R (Option.some.inj (hr v e)).symm, congrArg impl_ProgOk_O (Option.some.inj (hr v e)).symm⟩) st hc s h))

/-! ### impl_AccOwner -/
noncomputable def impl_AccOwner_c : Code := bodyOf Tryz.f94
noncomputable def impl_AccOwner_X : Sig := { f := 94, fn := Tryz.f94, rms := [.val [] []], oms := [none] }
noncomputable def impl_AccOwner_R (r : Int) : V := vi r
noncomputable def impl_AccOwner_O (r : Int) : List (Option V) := [none]
noncomputable def impl_AccOwner_t (i : Nat) (fr : Bool) (r : Int) : Nat × Tell := (i, { a := .call [.val [] []] fr (impl_AccOwner_R r) (impl_AccOwner_O r) })
noncomputable def impl_AccOwner (bal : Int) : Option Int :=
  ((impl_in bal 1 3000).bind fun in_ =>
 (bif (!in_) then
 some (-1)
 else
 some (Int.tmod bal 3)))
theorem impl_AccOwner_ok {bal : Int} (r : Int) (h : impl_AccOwner bal = some r) : ACalls cx.P 94 [vi bal] (impl_AccOwner_R r) (impl_AccOwner_O r) :=
  ACalls.of (cx := cx) (X := impl_AccOwner_X) (c := impl_AccOwner_c) Tryz.func94 (by kernel_rfl) (by kernel_rfl) (by kernel_rfl) (P0 <|
 rg2 <| cb impl_in_t impl_in_ok 1 false h fun in_ h =>
 cdD 2 h (fun h =>
 rg <| fe Tryz.func94 h) (fun h =>
 rg <| om (3 ≠ (0 : Int)) (by decide) <| fe Tryz.func94 h))

/-! ### impl_marksOk -/
noncomputable def impl_marksOk_c : Code := bodyOf Tryz.f95
noncomputable def impl_marksOk_X : Sig := { f := 95, fn := Tryz.f95, rms := [.val [] []], oms := [none, none] }
noncomputable def impl_marksOk_R (r : Bool) : V := .b r
noncomputable def impl_marksOk_O (r : Bool) : List (Option V) := [none, none]
noncomputable def impl_marksOk_t (i : Nat) (fr : Bool) (r : Bool) : Nat × Tell := (i, { a := .call [.val [some 1] [], .val [] []] fr (impl_marksOk_R r) (impl_marksOk_O r) })
noncomputable def impl_marksOk (list : List Bool) (id : Int) : Option Bool :=
  (bif ((list.length : Int) == 3) then
 ((idx list id).bind fun y =>
 some y)
 else
 some false)
theorem impl_marksOk_ok {list : List Bool} {id : Int} (r : Bool) (h : impl_marksOk list id = some r) : ACalls cx.P 95 [vsl 1 eB list, vi id] (impl_marksOk_R r) (impl_marksOk_O r) :=
  ACalls.of (cx := cx) (X := impl_marksOk_X) (c := impl_marksOk_c) Tryz.func95 (by kernel_rfl) (by kernel_rfl) (by kernel_rfl) (P0 <|
 rg2 <| cdD 3 h (fun h =>
 ixS eB 6 h fun y hy h =>
 fe Tryz.func95 h) (fun h =>
 fe Tryz.func95 h))

/-! ### impl_leadOk -/
noncomputable def impl_leadOk_c : Code := bodyOf Tryz.f71
noncomputable def impl_leadOk_X : Sig := { f := 71, fn := Tryz.f71, rms := [.val [] []], oms := [none] }
noncomputable def impl_leadOk_R (r : Bool) : V := .b r
noncomputable def impl_leadOk_O (r : Bool) : List (Option V) := [none]
noncomputable def impl_leadOk_t (i : Nat) (fr : Bool) (r : Bool) : Nat × Tell := (i, { a := .call [.val ck90 []] fr (impl_leadOk_R r) (impl_leadOk_O r) })
noncomputable def impl_leadOk_k1 : List Item := posI 2000 2 [] [.code impl_leadOk_c]
noncomputable def impl_leadOk_S1 (n : TNode) (noCur : Bool) : St := ⟨(bs 1 (.ptr 1 0 0 :: (bs 1 (.b noCur :: (bs 92 []))))), [some [], some [.var 90 [vi n.Id, vi n.Acc.Promised, vsl 8 eVote n.Acc.Votes, vsl 7 eEntry n.Known, vi n.Seq, vi n.Phase, vi n.Bal, vsl 1 eB n.From, vsl 8 eVote n.Best, .b n.Cur.None, vi n.Cur.Req.Who, vi n.Cur.Req.Seq, vsl 2 eRead n.Cur.Run.Reads, vsl 2 ePut n.Cur.Run.Puts, vi n.Cur.Run.Val, vi n.Cur.Run.Code, vsl 1 eB n.Votes, .b n.Busy, vsl 4 eIns n.Prog, .b n.Want.None, vi n.Want.Req.Who, vi n.Want.Req.Seq, vsl 2 eRead n.Want.Run.Reads, vsl 2 ePut n.Want.Run.Puts, vi n.Want.Run.Val, vi n.Want.Run.Code, vsl 7 eEntry n.Queue]]]⟩
noncomputable def impl_leadOk_j1 (n : TNode) (noCur : Bool) : Option Bool :=
  (bif (n.Phase == 0) then
 (bif (n.Bal == 0) then
 (bif ((n.From.length : Int) == 0) then
 (bif ((n.Best.length : Int) == 0) then
 some noCur
 else
 some false)
 else
 some false)
 else
 some false)
 else
 ((impl_AccOwner n.Bal).bind fun accOwner =>
 (bif (accOwner != n.Id) then
 some false
 else
 (bif decide (n.Bal > n.Acc.Promised) then
 some false
 else
 ((impl_votesOk n.Best).bind fun votesOk =>
 (bif (!votesOk) then
 some false
 else
 (bif (n.Phase == 1) then
 ((impl_marksOk n.From n.Id).bind fun marksOk =>
 (bif marksOk then
 some noCur
 else
 some false))
 else
 (bif (n.Phase == 2) then
 (bif ((n.From.length : Int) == 0) then
 some noCur
 else
 some false)
 else
 (bif (n.Phase == 3) then
 (bif ((n.From.length : Int) == 0) then
 ((impl_CertEntry n.Cur).bind fun certEntry =>
 (bif certEntry then
 ((impl_marksOk n.Votes n.Id).bind fun marksOk1 =>
 (bif marksOk1 then
 some (decide ((n.Known.length : Int) < 40))
 else
 some false))
 else
 some false))
 else
 some false)
 else
 some false)))))))))
theorem impl_leadOk_j1_ok (n : TNode) (r : Bool) (noCur : Bool) (h : impl_leadOk_j1 n noCur = some r) : Fin cx impl_leadOk_X (impl_leadOk_R r) (impl_leadOk_O r) impl_leadOk_k1 (impl_leadOk_S1 n noCur) :=
  P0 <|
 rg2 <| cdD 2 h (fun h =>
 rg <| cdD 3 h (fun h =>
 cdD 6 h (fun h =>
 cdD 12 h (fun h =>
 fe Tryz.func71 h) (fun h =>
 fe Tryz.func71 h)) (fun h =>
 fe Tryz.func71 h)) (fun h =>
 fe Tryz.func71 h)) (fun h =>
 rg <| cb impl_AccOwner_t impl_AccOwner_ok 2 false h fun accOwner h =>
 cdD 6 h (fun h =>
 rg <| fe Tryz.func71 h) (fun h =>
 cdD 14 h (fun h =>
 rg <| fe Tryz.func71 h) (fun h =>
 cb impl_votesOk_t impl_votesOk_ok 17 false h fun votesOk h =>
 cdD 19 h (fun h =>
 rg <| fe Tryz.func71 h) (fun h =>
 rg2 <| cdD 1 h (fun h =>
 rg <| cb impl_marksOk_t impl_marksOk_ok 4 false h fun marksOk h =>
 cdD 5 h (fun h =>
 fe Tryz.func71 h) (fun h =>
 fe Tryz.func71 h)) (fun h =>
 rg <| cdD 1 h (fun h =>
 rg <| cdD 1 h (fun h =>
 fe Tryz.func71 h) (fun h =>
 fe Tryz.func71 h)) (fun h =>
 rg <| cdD 1 h (fun h =>
 rg <| cdD 1 h (fun h =>
 cb impl_CertEntry_t impl_CertEntry_ok 4 false h fun certEntry h =>
 cdD 6 h (fun h =>
 cb impl_marksOk_t impl_marksOk_ok 11 false h fun marksOk1 h =>
 cdD 13 h (fun h =>
 fe Tryz.func71 h) (fun h =>
 fe Tryz.func71 h)) (fun h =>
 fe Tryz.func71 h)) (fun h =>
 fe Tryz.func71 h)) (fun h =>
 rg <| fe Tryz.func71 h)))))))
noncomputable def impl_leadOk (n : TNode) : Option Bool :=
  ((((impl_CertLike n.Cur (TEntry.mk false (TReq.mk 0 0) (TRun.mk [] [] 0 0))).bind fun certLike =>
 (bif certLike then
 some (Exc.brk ((n.Votes.length : Int) == 0))
 else
 some (Exc.brk false))) : Option (Exc Bool Bool)).bind fun x => x.go some fun j => impl_leadOk_j1 n j)
theorem impl_leadOk_ok {n : TNode} (r : Bool) (h : impl_leadOk n = some r) : ACalls cx.P 71 [.agg (eNode n)] (impl_leadOk_R r) (impl_leadOk_O r) :=
  ACalls.of (cx := cx) (X := impl_leadOk_X) (c := impl_leadOk_c) Tryz.func71 (by kernel_rfl) (by kernel_rfl) (by kernel_rfl) (P0 <|
 rg <| joinD (I := fun j : Bool => Fin cx impl_leadOk_X (impl_leadOk_R r) (impl_leadOk_O r) impl_leadOk_k1 (impl_leadOk_S1 n j)) h (fun j h => impl_leadOk_j1_ok n r j h) (fun x1 h hc1 =>
  rg <| cb impl_CertLike_t impl_CertLike_ok 3 false h fun certLike h =>
 cdD 4 h (fun h =>
 (jbrkD h hc1 fun hI => sg [] [1, 3] [(1, 0)] hI)) (fun h =>
 (jbrkD h hc1 fun hI => sg [] [1, 3] [(1, 0)] hI))))

/-! ### impl_NodeOk -/
noncomputable def impl_NodeOk_c : Code := bodyOf Tryz.f35
noncomputable def impl_NodeOk_X : Sig := { f := 35, fn := Tryz.f35, rms := [.val [] []], oms := [none] }
noncomputable def impl_NodeOk_R (r : Bool) : V := .b r
noncomputable def impl_NodeOk_O (r : Bool) : List (Option V) := [none]
noncomputable def impl_NodeOk_t (i : Nat) (fr : Bool) (r : Bool) : Nat × Tell := (i, { a := .call [.val ck90 []] fr (impl_NodeOk_R r) (impl_NodeOk_O r) })
noncomputable def impl_NodeOk_k1 : List Item := posI 2000 4 [false, false] [.code impl_NodeOk_c]
noncomputable def impl_NodeOk_S1 (n : TNode) : St := ⟨(bs 1 (.ptr 1 0 0 :: (bs 87 []))), [some [], some [.var 90 [vi n.Id, vi n.Acc.Promised, vsl 8 eVote n.Acc.Votes, vsl 7 eEntry n.Known, vi n.Seq, vi n.Phase, vi n.Bal, vsl 1 eB n.From, vsl 8 eVote n.Best, .b n.Cur.None, vi n.Cur.Req.Who, vi n.Cur.Req.Seq, vsl 2 eRead n.Cur.Run.Reads, vsl 2 ePut n.Cur.Run.Puts, vi n.Cur.Run.Val, vi n.Cur.Run.Code, vsl 1 eB n.Votes, .b n.Busy, vsl 4 eIns n.Prog, .b n.Want.None, vi n.Want.Req.Who, vi n.Want.Req.Seq, vsl 2 eRead n.Want.Run.Reads, vsl 2 ePut n.Want.Run.Puts, vi n.Want.Run.Val, vi n.Want.Run.Code, vsl 7 eEntry n.Queue]]]⟩
noncomputable def impl_NodeOk_k2 : List Item := posI 2000 6 [false, false, true, false] [.code impl_NodeOk_c]
noncomputable def impl_NodeOk_S2 (n : TNode) : St := ⟨(bs 1 (.ptr 1 0 0 :: (bs 87 []))), [some [], some [.var 90 [vi n.Id, vi n.Acc.Promised, vsl 8 eVote n.Acc.Votes, vsl 7 eEntry n.Known, vi n.Seq, vi n.Phase, vi n.Bal, vsl 1 eB n.From, vsl 8 eVote n.Best, .b n.Cur.None, vi n.Cur.Req.Who, vi n.Cur.Req.Seq, vsl 2 eRead n.Cur.Run.Reads, vsl 2 ePut n.Cur.Run.Puts, vi n.Cur.Run.Val, vi n.Cur.Run.Code, vsl 1 eB n.Votes, .b n.Busy, vsl 4 eIns n.Prog, .b n.Want.None, vi n.Want.Req.Who, vi n.Want.Req.Seq, vsl 2 eRead n.Want.Run.Reads, vsl 2 ePut n.Want.Run.Puts, vi n.Want.Run.Val, vi n.Want.Run.Code, vsl 7 eEntry n.Queue]]]⟩
noncomputable def impl_NodeOk_j1 (n : TNode) : Option Bool :=
  ((impl_leadOk n).bind fun leadOk =>
 some leadOk)
theorem impl_NodeOk_j1_ok (n : TNode) (r : Bool) (h : impl_NodeOk_j1 n = some r) : Fin cx impl_NodeOk_X (impl_NodeOk_R r) (impl_NodeOk_O r) impl_NodeOk_k2 (impl_NodeOk_S2 n) :=
  P0 <|
 rg <| cb impl_leadOk_t impl_leadOk_ok 1 false h fun leadOk h =>
 fe Tryz.func35 h
noncomputable def impl_NodeOk_k3 (n : TNode) : Option Bool :=
  (((bif n.Busy then
 ((impl_ProgOk n.Prog).bind fun progOk =>
 (bif (!progOk) then
 some (Exc.ret false)
 else
 ((impl_CertEntry n.Want).bind fun certEntry =>
 (bif (!certEntry) then
 some (Exc.ret false)
 else
 (bif n.Want.None then
 some (Exc.ret false)
 else
 (bif (!(([n.Want.Req.Who, n.Want.Req.Seq] : List Int) == [n.Id, n.Seq])) then
 some (Exc.ret false)
 else
 some (Exc.brk ())))))))
 else
 (bif decide ((n.Prog.length : Int) > 0) then
 some (Exc.ret false)
 else
 ((impl_CertLike n.Want (TEntry.mk false (TReq.mk 0 0) (TRun.mk [] [] 0 0))).bind fun certLike =>
 (bif (!certLike) then
 some (Exc.ret false)
 else
 some (Exc.brk ()))))) : Option (Exc Bool Unit)).bind fun x => x.go some fun j => impl_NodeOk_j1 n)
theorem impl_NodeOk_k3_ok (n : TNode) (r : Bool) (h : impl_NodeOk_k3 n = some r) : Fin cx impl_NodeOk_X (impl_NodeOk_R r) (impl_NodeOk_O r) impl_NodeOk_k1 (impl_NodeOk_S1 n) :=
  P0 <|
 joinD (I := fun j : Unit => Fin cx impl_NodeOk_X (impl_NodeOk_R r) (impl_NodeOk_O r) impl_NodeOk_k2 (impl_NodeOk_S2 n)) h (fun j h => impl_NodeOk_j1_ok n r h) (fun x1 h hc1 =>
  rg <| cdD 1 h (fun h =>
 rg <| cb impl_ProgOk_t impl_ProgOk_ok 2 false h fun progOk h =>
 cdD 4 h (fun h =>
 rg <| (jretD h hc1 fun h => fe Tryz.func35 h)) (fun h =>
 cb impl_CertEntry_t impl_CertEntry_ok 7 false h fun certEntry h =>
 cdD 10 h (fun h =>
 rg <| (jretD h hc1 fun h => fe Tryz.func35 h)) (fun h =>
 cdD 15 h (fun h =>
 rg <| (jretD h hc1 fun h => fe Tryz.func35 h)) (fun h =>
 cdD 25 h (fun h =>
 rg <| (jretD h hc1 fun h => fe Tryz.func35 h)) (fun h =>
 (jbrkD h hc1 fun hI => sg [] [1] [(1, 0)] hI)))))) (fun h =>
 rg <| cdD 4 h (fun h =>
 rg <| (jretD h hc1 fun h => fe Tryz.func35 h)) (fun h =>
 cb impl_CertLike_t impl_CertLike_ok 8 false h fun certLike h =>
 cdD 10 h (fun h =>
 rg <| (jretD h hc1 fun h => fe Tryz.func35 h)) (fun h =>
 (jbrkD h hc1 fun hI => sg [] [1] [(1, 0)] hI)))))
noncomputable def impl_NodeOk_k4 : List Item := posI 2000 3 [false] [.code impl_NodeOk_c]
noncomputable def impl_NodeOk_S3 (n : TNode) (v36 : Int) : St := ⟨(bs 1 (.ptr 1 0 0 :: (bs 32 (vsl 7 eEntry n.Queue :: (vi (n.Queue.length : Int) :: (vi v36 :: (bs 52 []))))))), [some [], some [.var 90 [vi n.Id, vi n.Acc.Promised, vsl 8 eVote n.Acc.Votes, vsl 7 eEntry n.Known, vi n.Seq, vi n.Phase, vi n.Bal, vsl 1 eB n.From, vsl 8 eVote n.Best, .b n.Cur.None, vi n.Cur.Req.Who, vi n.Cur.Req.Seq, vsl 2 eRead n.Cur.Run.Reads, vsl 2 ePut n.Cur.Run.Puts, vi n.Cur.Run.Val, vi n.Cur.Run.Code, vsl 1 eB n.Votes, .b n.Busy, vsl 4 eIns n.Prog, .b n.Want.None, vi n.Want.Req.Who, vi n.Want.Req.Seq, vsl 2 eRead n.Want.Run.Reads, vsl 2 ePut n.Want.Run.Puts, vi n.Want.Run.Val, vi n.Want.Run.Code, vsl 7 eEntry n.Queue]]]⟩
noncomputable def impl_NodeOk_b1 (n : TNode) (v36 : Int) : Option (Stp Bool Int Unit) :=
  (bif decide (v36 < (n.Queue.length : Int)) then
 ((idx n.Queue v36).bind fun entry =>
 ((impl_CertEntry entry).bind fun certEntry1 =>
 (bif (!certEntry1) then
 some (Stp.ret false)
 else
 (bif entry.None then
 some (Stp.ret false)
 else
 some (Stp.nxt (w64 (v36 + 1)))))))
 else
 some (Stp.brk ()))
theorem impl_NodeOk_b1_ok (n : TNode) (res : V) (outs : List (Option V)) (x1 : Exc Bool Unit) (hb1 : HB cx impl_NodeOk_X res outs x1 impl_NodeOk_k1 (fun s => impl_NodeOk_S1 n)) (hr1 : HR res outs x1 impl_NodeOk_R impl_NodeOk_O) (st1 : Stp Bool Int Unit) (hc1 : Cont x1 (fun s : Int => Fin cx impl_NodeOk_X res outs impl_NodeOk_k4 (impl_NodeOk_S3 n s)) st1) (v36 : Int) (h : impl_NodeOk_b1 n v36 = some st1) : Fin cx impl_NodeOk_X res outs impl_NodeOk_k4 (impl_NodeOk_S3 n v36) :=
  P0 <|
 rg <| cdD 0 h (fun h =>
 rg <| ixS eEntry 0 h fun entry hentry h =>
 rg <| cb impl_CertEntry_t impl_CertEntry_ok 1 false h fun certEntry1 h =>
 cdD 3 h (fun h =>
 rg <| (retD h hc1 fun e => fn0 Tryz.func35 (hr1 _ e))) (fun h =>
 cdD 6 h (fun h =>
 rg <| (retD h hc1 fun e => fn0 Tryz.func35 (hr1 _ e))) (fun h =>
 rg <| (nxtD h hc1 fun hI => sg [] [1, 34, 35, 36] [(1, 0)] hI)))) (fun h =>
 (brkD h hc1 fun e => sg [] [1] [(1, 0)] (hb1 _ e)))
noncomputable def impl_NodeOk (n : TNode) : Option Bool :=
  ((impl_in n.Id 0 2).bind fun in_ =>
 (bif (!in_) then
 some false
 else
 ((impl_AccOk n.Acc).bind fun accOk =>
 (bif (!accOk) then
 some false
 else
 ((impl_listOk n.Known).bind fun listOk =>
 (bif (!listOk) then
 some false
 else
 ((impl_in n.Seq 0 1000).bind fun in_1 =>
 (bif (!in_1) then
 some false
 else
 (bif decide ((n.Queue.length : Int) > 4) then
 some false
 else
 ((loop (fun s : Int => impl_NodeOk_b1 n s) 0).bind fun x => x.go (fun r => some r) fun s => impl_NodeOk_k3 n))))))))))
theorem impl_NodeOk_ok {n : TNode} (r : Bool) (h : impl_NodeOk n = some r) : ACalls cx.P 35 [.agg (eNode n)] (impl_NodeOk_R r) (impl_NodeOk_O r) :=
  ACalls.of (cx := cx) (X := impl_NodeOk_X) (c := impl_NodeOk_c) Tryz.func35 (by kernel_rfl) (by kernel_rfl) (by kernel_rfl) (P0 <|
 rg2 <| cb impl_in_t impl_in_ok 2 false h fun in_ h =>
 cdD 4 h (fun h =>
 rg <| fe Tryz.func35 h) (fun h =>
 cb impl_AccOk_t impl_AccOk_ok 7 false h fun accOk h =>
 cdD 10 h (fun h =>
 rg <| fe Tryz.func35 h) (fun h =>
 cb impl_listOk_t impl_listOk_ok 13 false h fun listOk h =>
 cdD 16 h (fun h =>
 rg <| fe Tryz.func35 h) (fun h =>
 cb impl_in_t impl_in_ok 19 false h fun in_1 h =>
 cdD 22 h (fun h =>
 rg <| fe Tryz.func35 h) (fun h =>
 cdD 27 h (fun h =>
 rg <| fe Tryz.func35 h) (fun h =>
 rg <| loopJ h fun x hl hr hb => sg [] [1, 34, 35, 36] [(1, 0)] (loopD (I := fun s : Int => Fin cx impl_NodeOk_X (impl_NodeOk_R r) (impl_NodeOk_O r) impl_NodeOk_k4 (impl_NodeOk_S3 n s)) hl fun s st h hc => impl_NodeOk_b1_ok n _ _ x (fun s e => impl_NodeOk_k3_ok n r (hb s e)) (fun v e => ⟨congrArg impl_NodeOk_R (Option.some.inj (hr v e)).symm, congrArg impl_NodeOk_O (Option.some.inj (hr v e)).symm⟩) st hc s h)))))))

/-! ### impl_MsgOk -/
noncomputable def impl_MsgOk_c : Code := bodyOf Tryz.f36
noncomputable def impl_MsgOk_X : Sig := { f := 36, fn := Tryz.f36, rms := [.val [] []], oms := [none] }
noncomputable def impl_MsgOk_R (r : Bool) : V := .b r
noncomputable def impl_MsgOk_O (r : Bool) : List (Option V) := [none]
noncomputable def impl_MsgOk_t (i : Nat) (fr : Bool) (r : Bool) : Nat × Tell := (i, { a := .call [.val ck94 []] fr (impl_MsgOk_R r) (impl_MsgOk_O r) })
noncomputable def impl_MsgOk (m : TMsg) : Option Bool :=
  ((impl_in m.From 0 2).bind fun in_ =>
 (bif (!in_) then
 some false
 else
 ((impl_in m.To 0 2).bind fun in_1 =>
 (bif (!in_1) then
 some false
 else
 (bif (m.From == m.To) then
 some false
 else
 ((impl_in m.Slot 0 40).bind fun in_2 =>
 (bif (!in_2) then
 some false
 else
 ((impl_in m.Bal 1 3000).bind fun in_3 =>
 ((impl_CertLike m.Entry (TEntry.mk false (TReq.mk 0 0) (TRun.mk [] [] 0 0))).bind fun certLike =>
 (bif (m.Kind == 1) then
 (bif in_3 then
 (bif certLike then
 some ((m.Votes.length : Int) == 0)
 else
 some false)
 else
 some false)
 else
 (bif (m.Kind == 4) then
 (bif in_3 then
 (bif certLike then
 some ((m.Votes.length : Int) == 0)
 else
 some false)
 else
 some false)
 else
 (bif (m.Kind == 2) then
 (bif in_3 then
 (bif certLike then
 ((impl_votesOk m.Votes).bind fun votesOk =>
 (bif votesOk then
 some (decide ((w64 (m.Slot + (m.Votes.length : Int))) ≤ 40))
 else
 some false))
 else
 some false)
 else
 some false)
 else
 (bif (m.Kind == 3) then
 (bif in_3 then
 (bif decide (m.Slot < 40) then
 ((impl_CertEntry m.Entry).bind fun certEntry =>
 (bif certEntry then
 some ((m.Votes.length : Int) == 0)
 else
 some false))
 else
 some false)
 else
 some false)
 else
 (bif (m.Kind == 5) then
 (bif (m.Bal == 0) then
 (bif decide (m.Slot < 40) then
 ((impl_CertEntry m.Entry).bind fun certEntry1 =>
 (bif certEntry1 then
 some ((m.Votes.length : Int) == 0)
 else
 some false))
 else
 some false)
 else
 some false)
 else
 (bif (m.Kind == 6) then
 (bif in_3 then
 (bif (m.Slot == 0) then
 (bif certLike then
 some ((m.Votes.length : Int) == 0)
 else
 some false)
 else
 some false)
 else
 some false)
 else
 (bif (m.Kind == 7) then
 (bif (m.Bal == 0) then
 (bif (m.Slot == 0) then
 ((impl_CertEntry m.Entry).bind fun certEntry2 =>
 (bif certEntry2 then
 (bif (!m.Entry.None) then
 some ((m.Votes.length : Int) == 0)
 else
 some false)
 else
 some false))
 else
 some false)
 else
 some false)
 else
 (bif (m.Kind == 8) then
 (bif (m.Bal == 0) then
 (bif certLike then
 some ((m.Votes.length : Int) == 0)
 else
 some false)
 else
 some false)
 else
 some false)))))))))))))))))
set_option maxRecDepth 20000 in
theorem impl_MsgOk_ok {m : TMsg} (r : Bool) (h : impl_MsgOk m = some r) : ACalls cx.P 36 [.agg (eMsg m)] (impl_MsgOk_R r) (impl_MsgOk_O r) :=
  ACalls.of (cx := cx) (X := impl_MsgOk_X) (c := impl_MsgOk_c) Tryz.func36 (by kernel_rfl) (by kernel_rfl) (by kernel_rfl) (P0 <|
 rg2 <| cb impl_in_t impl_in_ok 2 false h fun in_ h =>
 cdD 4 h (fun h =>
 rg <| fe Tryz.func36 h) (fun h =>
 cb impl_in_t impl_in_ok 7 false h fun in_1 h =>
 cdD 10 h (fun h =>
 rg <| fe Tryz.func36 h) (fun h =>
 cdD 17 h (fun h =>
 rg <| fe Tryz.func36 h) (fun h =>
 cb impl_in_t impl_in_ok 20 false h fun in_2 h =>
 cdD 22 h (fun h =>
 rg <| fe Tryz.func36 h) (fun h =>
 rg <| cb impl_in_t impl_in_ok 2 false h fun in_3 h =>
 rg <| cb impl_CertLike_t impl_CertLike_ok 3 false h fun certLike h =>
 rg3 <| cdD 1 h (fun h =>
 rg <| cdD 1 h (fun h =>
 cdD 4 h (fun h =>
 fe Tryz.func36 h) (fun h =>
 fe Tryz.func36 h)) (fun h =>
 fe Tryz.func36 h)) (fun h =>
 rg <| cdD 1 h (fun h =>
 rg <| cdD 1 h (fun h =>
 cdD 4 h (fun h =>
 fe Tryz.func36 h) (fun h =>
 fe Tryz.func36 h)) (fun h =>
 fe Tryz.func36 h)) (fun h =>
 rg <| cdD 1 h (fun h =>
 rg <| cdD 1 h (fun h =>
 cdD 4 h (fun h =>
 cb impl_votesOk_t impl_votesOk_ok 7 false h fun votesOk h =>
 cdD 9 h (fun h =>
 fe Tryz.func36 h) (fun h =>
 fe Tryz.func36 h)) (fun h =>
 fe Tryz.func36 h)) (fun h =>
 fe Tryz.func36 h)) (fun h =>
 rg <| cdD 1 h (fun h =>
 rg <| cdD 1 h (fun h =>
 cdD 6 h (fun h =>
 cb impl_CertEntry_t impl_CertEntry_ok 9 false h fun certEntry h =>
 cdD 11 h (fun h =>
 fe Tryz.func36 h) (fun h =>
 fe Tryz.func36 h)) (fun h =>
 fe Tryz.func36 h)) (fun h =>
 fe Tryz.func36 h)) (fun h =>
 rg <| cdD 1 h (fun h =>
 rg <| cdD 3 h (fun h =>
 cdD 8 h (fun h =>
 cb impl_CertEntry_t impl_CertEntry_ok 11 false h fun certEntry1 h =>
 cdD 13 h (fun h =>
 fe Tryz.func36 h) (fun h =>
 fe Tryz.func36 h)) (fun h =>
 fe Tryz.func36 h)) (fun h =>
 fe Tryz.func36 h)) (fun h =>
 rg <| cdD 1 h (fun h =>
 rg <| cdD 1 h (fun h =>
 cdD 6 h (fun h =>
 cdD 9 h (fun h =>
 fe Tryz.func36 h) (fun h =>
 fe Tryz.func36 h)) (fun h =>
 fe Tryz.func36 h)) (fun h =>
 fe Tryz.func36 h)) (fun h =>
 rg <| cdD 1 h (fun h =>
 rg <| cdD 3 h (fun h =>
 cdD 8 h (fun h =>
 cb impl_CertEntry_t impl_CertEntry_ok 11 false h fun certEntry2 h =>
 cdD 13 h (fun h =>
 cdD 19 h (fun h =>
 fe Tryz.func36 h) (fun h =>
 fe Tryz.func36 h)) (fun h =>
 fe Tryz.func36 h)) (fun h =>
 fe Tryz.func36 h)) (fun h =>
 fe Tryz.func36 h)) (fun h =>
 rg <| cdD 1 h (fun h =>
 rg <| cdD 3 h (fun h =>
 cdD 6 h (fun h =>
 fe Tryz.func36 h) (fun h =>
 fe Tryz.func36 h)) (fun h =>
 fe Tryz.func36 h)) (fun h =>
 rg <| fe Tryz.func36 h)))))))))))))

/-! ### impl_WorldOk -/
noncomputable def impl_WorldOk_c : Code := bodyOf Tryz.f18
noncomputable def impl_WorldOk_X : Sig := { f := 18, fn := Tryz.f18, rms := [.val [] []], oms := [none] }
noncomputable def impl_WorldOk_R (r : Bool) : V := .b r
noncomputable def impl_WorldOk_O (r : Bool) : List (Option V) := [none]
noncomputable def impl_WorldOk_t (i : Nat) (fr : Bool) (r : Bool) : Nat × Tell := (i, { a := .call [.val ck35 []] fr (impl_WorldOk_R r) (impl_WorldOk_O r) })
noncomputable def impl_WorldOk_k1 : List Item := posI 2000 4 [false, false] [.code impl_WorldOk_c]
noncomputable def impl_WorldOk_S1 (w : TWorld) : St := ⟨(bs 1 (.ptr 1 0 0 :: (bs 116 []))), [some [], some [.var 35 [vsl 27 eNode w.Nodes, vsl 13 eMsg w.Net, vsl 3 eAsked w.Asked, vsl 5 eTold w.Told]]]⟩
noncomputable def impl_WorldOk_k2 : List Item := posI 2000 6 [false, false, false] [.code impl_WorldOk_c]
noncomputable def impl_WorldOk_S2 (w : TWorld) : St := ⟨(bs 1 (.ptr 1 0 0 :: (bs 116 []))), [some [], some [.var 35 [vsl 27 eNode w.Nodes, vsl 13 eMsg w.Net, vsl 3 eAsked w.Asked, vsl 5 eTold w.Told]]]⟩
noncomputable def impl_WorldOk_k3 : List Item := posI 2000 8 [false, false, false, false] [.code impl_WorldOk_c]
noncomputable def impl_WorldOk_S3 (w : TWorld) : St := ⟨(bs 1 (.ptr 1 0 0 :: (bs 116 []))), [some [], some [.var 35 [vsl 27 eNode w.Nodes, vsl 13 eMsg w.Net, vsl 3 eAsked w.Asked, vsl 5 eTold w.Told]]]⟩
noncomputable def impl_WorldOk_k4 : List Item := posI 2000 10 [false, false, false, false, false] [.code impl_WorldOk_c]
noncomputable def impl_WorldOk_S4 : St := ⟨(bs 118 []), [some []]⟩
noncomputable def impl_WorldOk_k5 : Option Bool :=
  some true
theorem impl_WorldOk_k5_ok (r : Bool) (h : impl_WorldOk_k5 = some r) : Fin cx impl_WorldOk_X (impl_WorldOk_R r) (impl_WorldOk_O r) impl_WorldOk_k4 (impl_WorldOk_S4) :=
  P0 <|
 rg <| fe Tryz.func18 h
noncomputable def impl_WorldOk_k6 : List Item := posI 2000 9 [false, false, false, false] [.code impl_WorldOk_c]
noncomputable def impl_WorldOk_S5 (w : TWorld) (v83 : Int) : St := ⟨(bs 81 (vsl 5 eTold w.Told :: (vi (w.Told.length : Int) :: (vi v83 :: (bs 34 []))))), [some []]⟩
noncomputable def impl_WorldOk_b1 (w : TWorld) (v83 : Int) : Option (Stp Bool Int Unit) :=
  (bif decide (v83 < (w.Told.length : Int)) then
 ((idx w.Told v83).bind fun told =>
 ((impl_in told.Node 0 2).bind fun in_ =>
 (bif (!in_) then
 some (Stp.ret false)
 else
 ((impl_reqOk told.Req).bind fun reqOk =>
 (bif (!reqOk) then
 some (Stp.ret false)
 else
 (bif (told.Req.Who != told.Node) then
 some (Stp.ret false)
 else
 ((impl_in told.Code 0 4).bind fun in_1 =>
 (bif (!in_1) then
 some (Stp.ret false)
 else
 ((impl_in told.Val (-1000000) 1000000).bind fun in_2 =>
 (bif (!in_2) then
 some (Stp.ret false)
 else
 some (Stp.nxt (w64 (v83 + 1)))))))))))))
 else
 some (Stp.brk ()))
theorem impl_WorldOk_b1_ok (w : TWorld) (res : V) (outs : List (Option V)) (x1 : Exc Bool Unit) (hb1 : HB cx impl_WorldOk_X res outs x1 impl_WorldOk_k4 (fun s => impl_WorldOk_S4)) (hr1 : HR res outs x1 impl_WorldOk_R impl_WorldOk_O) (st1 : Stp Bool Int Unit) (hc1 : Cont x1 (fun s : Int => Fin cx impl_WorldOk_X res outs impl_WorldOk_k6 (impl_WorldOk_S5 w s)) st1) (v83 : Int) (h : impl_WorldOk_b1 w v83 = some st1) : Fin cx impl_WorldOk_X res outs impl_WorldOk_k6 (impl_WorldOk_S5 w v83) :=
  P0 <|
 rg <| cdD 0 h (fun h =>
 rg <| ixS eTold 0 h fun told htold h =>
 rg <| cb impl_in_t impl_in_ok 2 false h fun in_ h =>
 cdD 4 h (fun h =>
 rg <| (retD h hc1 fun e => fn0 Tryz.func18 (hr1 _ e))) (fun h =>
 cb impl_reqOk_t impl_reqOk_ok 7 false h fun reqOk h =>
 cdD 10 h (fun h =>
 rg <| (retD h hc1 fun e => fn0 Tryz.func18 (hr1 _ e))) (fun h =>
 cdD 18 h (fun h =>
 rg <| (retD h hc1 fun e => fn0 Tryz.func18 (hr1 _ e))) (fun h =>
 cb impl_in_t impl_in_ok 21 false h fun in_1 h =>
 cdD 24 h (fun h =>
 rg <| (retD h hc1 fun e => fn0 Tryz.func18 (hr1 _ e))) (fun h =>
 cb impl_in_t impl_in_ok 27 false h fun in_2 h =>
 cdD 29 h (fun h =>
 rg <| (retD h hc1 fun e => fn0 Tryz.func18 (hr1 _ e))) (fun h =>
 rg <| (nxtD h hc1 fun hI => sg [] [81, 82, 83] [] hI))))))) (fun h =>
 (brkD h hc1 fun e => sg [] [] [] (hb1 _ e)))
noncomputable def impl_WorldOk_k7 (w : TWorld) : Option Bool :=
  ((loop (fun s : Int => impl_WorldOk_b1 w s) 0).bind fun x => x.go (fun r => some r) fun s => impl_WorldOk_k5)
theorem impl_WorldOk_k7_ok (w : TWorld) (r : Bool) (h : impl_WorldOk_k7 w = some r) : Fin cx impl_WorldOk_X (impl_WorldOk_R r) (impl_WorldOk_O r) impl_WorldOk_k3 (impl_WorldOk_S3 w) :=
  P0 <|
 rg <| loopJ h fun x hl hr hb => sg [] [81, 82, 83] [] (loopD (I := fun s : Int => Fin cx impl_WorldOk_X (impl_WorldOk_R r) (impl_WorldOk_O r) impl_WorldOk_k6 (impl_WorldOk_S5 w s)) hl fun s st h hc => impl_WorldOk_b1_ok w _ _ x (fun s e => impl_WorldOk_k5_ok r (hb s e)) (fun v e => ⟨congrArg impl_WorldOk_R (Option.some.inj (hr v e)).symm, congrArg impl_WorldOk_O (Option.some.inj (hr v e)).symm⟩) st hc s h)
noncomputable def impl_WorldOk_k8 : List Item := posI 2000 7 [false, false, false] [.code impl_WorldOk_c]
noncomputable def impl_WorldOk_S6 (w : TWorld) (v65 : Int) : St := ⟨(bs 1 (.ptr 1 0 0 :: (bs 61 (vsl 3 eAsked w.Asked :: (vi (w.Asked.length : Int) :: (vi v65 :: (bs 52 []))))))), [some [], some [.var 35 [vsl 27 eNode w.Nodes, vsl 13 eMsg w.Net, vsl 3 eAsked w.Asked, vsl 5 eTold w.Told]]]⟩
noncomputable def impl_WorldOk_b2 (w : TWorld) (v65 : Int) : Option (Stp Bool Int Unit) :=
  (bif decide (v65 < (w.Asked.length : Int)) then
 ((idx w.Asked v65).bind fun asked =>
 ((impl_reqOk asked.Req).bind fun reqOk1 =>
 (bif (!reqOk1) then
 some (Stp.ret false)
 else
 ((impl_ProgOk asked.Prog).bind fun progOk =>
 (bif (!progOk) then
 some (Stp.ret false)
 else
 some (Stp.nxt (w64 (v65 + 1))))))))
 else
 some (Stp.brk ()))
theorem impl_WorldOk_b2_ok (w : TWorld) (res : V) (outs : List (Option V)) (x1 : Exc Bool Unit) (hb1 : HB cx impl_WorldOk_X res outs x1 impl_WorldOk_k3 (fun s => impl_WorldOk_S3 w)) (hr1 : HR res outs x1 impl_WorldOk_R impl_WorldOk_O) (st1 : Stp Bool Int Unit) (hc1 : Cont x1 (fun s : Int => Fin cx impl_WorldOk_X res outs impl_WorldOk_k8 (impl_WorldOk_S6 w s)) st1) (v65 : Int) (h : impl_WorldOk_b2 w v65 = some st1) : Fin cx impl_WorldOk_X res outs impl_WorldOk_k8 (impl_WorldOk_S6 w v65) :=
  P0 <|
 rg <| cdD 0 h (fun h =>
 rg <| ixS eAsked 0 h fun asked hasked h =>
 rg <| cb impl_reqOk_t impl_reqOk_ok 2 false h fun reqOk1 h =>
 cdD 4 h (fun h =>
 rg <| (retD h hc1 fun e => fn0 Tryz.func18 (hr1 _ e))) (fun h =>
 cb impl_ProgOk_t impl_ProgOk_ok 7 false h fun progOk h =>
 cdD 9 h (fun h =>
 rg <| (retD h hc1 fun e => fn0 Tryz.func18 (hr1 _ e))) (fun h =>
 rg <| (nxtD h hc1 fun hI => sg [] [1, 63, 64, 65] [(1, 0)] hI)))) (fun h =>
 (brkD h hc1 fun e => sg [] [1] [(1, 0)] (hb1 _ e)))
noncomputable def impl_WorldOk_k9 (w : TWorld) : Option Bool :=
  ((loop (fun s : Int => impl_WorldOk_b2 w s) 0).bind fun x => x.go (fun r => some r) fun s => impl_WorldOk_k7 w)
theorem impl_WorldOk_k9_ok (w : TWorld) (r : Bool) (h : impl_WorldOk_k9 w = some r) : Fin cx impl_WorldOk_X (impl_WorldOk_R r) (impl_WorldOk_O r) impl_WorldOk_k2 (impl_WorldOk_S2 w) :=
  P0 <|
 rg <| loopJ h fun x hl hr hb => sg [] [1, 63, 64, 65] [(1, 0)] (loopD (I := fun s : Int => Fin cx impl_WorldOk_X (impl_WorldOk_R r) (impl_WorldOk_O r) impl_WorldOk_k8 (impl_WorldOk_S6 w s)) hl fun s st h hc => impl_WorldOk_b2_ok w _ _ x (fun s e => impl_WorldOk_k7_ok w r (hb s e)) (fun v e => ⟨congrArg impl_WorldOk_R (Option.some.inj (hr v e)).symm, congrArg impl_WorldOk_O (Option.some.inj (hr v e)).symm⟩) st hc s h)
noncomputable def impl_WorldOk_k10 : List Item := posI 2000 5 [false, false] [.code impl_WorldOk_c]
noncomputable def impl_WorldOk_S7 (w : TWorld) (v54 : Int) : St := ⟨(bs 1 (.ptr 1 0 0 :: (bs 50 (vsl 13 eMsg w.Net :: (vi (w.Net.length : Int) :: (vi v54 :: (bs 63 []))))))), [some [], some [.var 35 [vsl 27 eNode w.Nodes, vsl 13 eMsg w.Net, vsl 3 eAsked w.Asked, vsl 5 eTold w.Told]]]⟩
noncomputable def impl_WorldOk_b3 (w : TWorld) (v54 : Int) : Option (Stp Bool Int Unit) :=
  (bif decide (v54 < (w.Net.length : Int)) then
 ((idx w.Net v54).bind fun msg =>
 ((impl_MsgOk msg).bind fun msgOk =>
 (bif (!msgOk) then
 some (Stp.ret false)
 else
 some (Stp.nxt (w64 (v54 + 1))))))
 else
 some (Stp.brk ()))
theorem impl_WorldOk_b3_ok (w : TWorld) (res : V) (outs : List (Option V)) (x1 : Exc Bool Unit) (hb1 : HB cx impl_WorldOk_X res outs x1 impl_WorldOk_k2 (fun s => impl_WorldOk_S2 w)) (hr1 : HR res outs x1 impl_WorldOk_R impl_WorldOk_O) (st1 : Stp Bool Int Unit) (hc1 : Cont x1 (fun s : Int => Fin cx impl_WorldOk_X res outs impl_WorldOk_k10 (impl_WorldOk_S7 w s)) st1) (v54 : Int) (h : impl_WorldOk_b3 w v54 = some st1) : Fin cx impl_WorldOk_X res outs impl_WorldOk_k10 (impl_WorldOk_S7 w v54) :=
  P0 <|
 rg <| cdD 0 h (fun h =>
 rg <| ixS eMsg 0 h fun msg hmsg h =>
 rg <| cb impl_MsgOk_t impl_MsgOk_ok 1 false h fun msgOk h =>
 cdD 2 h (fun h =>
 rg <| (retD h hc1 fun e => fn0 Tryz.func18 (hr1 _ e))) (fun h =>
 rg <| (nxtD h hc1 fun hI => sg [] [1, 52, 53, 54] [(1, 0)] hI))) (fun h =>
 (brkD h hc1 fun e => sg [] [1] [(1, 0)] (hb1 _ e)))
noncomputable def impl_WorldOk_k11 (w : TWorld) : Option Bool :=
  ((loop (fun s : Int => impl_WorldOk_b3 w s) 0).bind fun x => x.go (fun r => some r) fun s => impl_WorldOk_k9 w)
theorem impl_WorldOk_k11_ok (w : TWorld) (r : Bool) (h : impl_WorldOk_k11 w = some r) : Fin cx impl_WorldOk_X (impl_WorldOk_R r) (impl_WorldOk_O r) impl_WorldOk_k1 (impl_WorldOk_S1 w) :=
  P0 <|
 rg <| loopJ h fun x hl hr hb => sg [] [1, 52, 53, 54] [(1, 0)] (loopD (I := fun s : Int => Fin cx impl_WorldOk_X (impl_WorldOk_R r) (impl_WorldOk_O r) impl_WorldOk_k10 (impl_WorldOk_S7 w s)) hl fun s st h hc => impl_WorldOk_b3_ok w _ _ x (fun s e => impl_WorldOk_k9_ok w r (hb s e)) (fun v e => ⟨congrArg impl_WorldOk_R (Option.some.inj (hr v e)).symm, congrArg impl_WorldOk_O (Option.some.inj (hr v e)).symm⟩) st hc s h)
noncomputable def impl_WorldOk_k12 : List Item := posI 2000 3 [false] [.code impl_WorldOk_c]
noncomputable def impl_WorldOk_S8 (w : TWorld) (v36 : Int) : St := ⟨(bs 1 (.ptr 1 0 0 :: (bs 32 (vsl 27 eNode w.Nodes :: (vi (w.Nodes.length : Int) :: (vi v36 :: (bs 81 []))))))), [some [], some [.var 35 [vsl 27 eNode w.Nodes, vsl 13 eMsg w.Net, vsl 3 eAsked w.Asked, vsl 5 eTold w.Told]]]⟩
noncomputable def impl_WorldOk_b4 (w : TWorld) (v36 : Int) : Option (Stp Bool Int Unit) :=
  (bif decide (v36 < (w.Nodes.length : Int)) then
 ((idx w.Nodes v36).bind fun node =>
 (bif (node.Id != v36) then
 some (Stp.ret false)
 else
 ((impl_NodeOk node).bind fun nodeOk =>
 (bif (!nodeOk) then
 some (Stp.ret false)
 else
 some (Stp.nxt (w64 (v36 + 1)))))))
 else
 some (Stp.brk ()))
theorem impl_WorldOk_b4_ok (w : TWorld) (res : V) (outs : List (Option V)) (x1 : Exc Bool Unit) (hb1 : HB cx impl_WorldOk_X res outs x1 impl_WorldOk_k1 (fun s => impl_WorldOk_S1 w)) (hr1 : HR res outs x1 impl_WorldOk_R impl_WorldOk_O) (st1 : Stp Bool Int Unit) (hc1 : Cont x1 (fun s : Int => Fin cx impl_WorldOk_X res outs impl_WorldOk_k12 (impl_WorldOk_S8 w s)) st1) (v36 : Int) (h : impl_WorldOk_b4 w v36 = some st1) : Fin cx impl_WorldOk_X res outs impl_WorldOk_k12 (impl_WorldOk_S8 w v36) :=
  P0 <|
 rg <| cdD 0 h (fun h =>
 rg <| ixS eNode 1 h fun node hnode h =>
 rg <| cdD 4 h (fun h =>
 rg <| (retD h hc1 fun e => fn0 Tryz.func18 (hr1 _ e))) (fun h =>
 cb impl_NodeOk_t impl_NodeOk_ok 6 false h fun nodeOk h =>
 cdD 8 h (fun h =>
 rg <| (retD h hc1 fun e => fn0 Tryz.func18 (hr1 _ e))) (fun h =>
 rg <| (nxtD h hc1 fun hI => sg [] [1, 34, 35, 36] [(1, 0)] hI)))) (fun h =>
 (brkD h hc1 fun e => sg [] [1] [(1, 0)] (hb1 _ e)))
noncomputable def impl_WorldOk (w : TWorld) : Option Bool :=
  (bif ((w.Nodes.length : Int) != 3) then
 some false
 else
 (bif decide ((w.Net.length : Int) > 40) then
 some false
 else
 (bif decide ((w.Asked.length : Int) > 60) then
 some false
 else
 (bif decide ((w.Told.length : Int) > 60) then
 some false
 else
 ((loop (fun s : Int => impl_WorldOk_b4 w s) 0).bind fun x => x.go (fun r => some r) fun s => impl_WorldOk_k11 w)))))
theorem impl_WorldOk_ok {w : TWorld} (r : Bool) (h : impl_WorldOk w = some r) : ACalls cx.P 18 [.agg (eWorld w)] (impl_WorldOk_R r) (impl_WorldOk_O r) :=
  ACalls.of (cx := cx) (X := impl_WorldOk_X) (c := impl_WorldOk_c) Tryz.func18 (by kernel_rfl) (by kernel_rfl) (by kernel_rfl) (P0 <|
 rg2 <| cdD 4 h (fun h =>
 rg <| fe Tryz.func18 h) (fun h =>
 cdD 10 h (fun h =>
 rg <| fe Tryz.func18 h) (fun h =>
 cdD 16 h (fun h =>
 rg <| fe Tryz.func18 h) (fun h =>
 cdD 21 h (fun h =>
 rg <| fe Tryz.func18 h) (fun h =>
 rg <| loopJ h fun x hl hr hb => sg [] [1, 34, 35, 36] [(1, 0)] (loopD (I := fun s : Int => Fin cx impl_WorldOk_X (impl_WorldOk_R r) (impl_WorldOk_O r) impl_WorldOk_k12 (impl_WorldOk_S8 w s)) hl fun s st h hc => impl_WorldOk_b4_ok w _ _ x (fun s e => impl_WorldOk_k11_ok w r (hb s e)) (fun v e => ⟨congrArg impl_WorldOk_R (Option.some.inj (hr v e)).symm, congrArg impl_WorldOk_O (Option.some.inj (hr v e)).symm⟩) st hc s h))))))

/-! ### impl_ToldOnce -/
noncomputable def impl_ToldOnce_c : Code := bodyOf Tryz.f7
noncomputable def impl_ToldOnce_X : Sig := { f := 7, fn := Tryz.f7, rms := [.val [] []], oms := [none] }
noncomputable def impl_ToldOnce_R (r : Bool) : V := .b r
noncomputable def impl_ToldOnce_O (r : Bool) : List (Option V) := [none]
noncomputable def impl_ToldOnce_t (i : Nat) (fr : Bool) (r : Bool) : Nat × Tell := (i, { a := .call [.val ck35 []] fr (impl_ToldOnce_R r) (impl_ToldOnce_O r) })
noncomputable def impl_ToldOnce_k1 : List Item := posI 2000 5 [false, false] [.code impl_ToldOnce_c]
noncomputable def impl_ToldOnce_S1 : St := ⟨(bs 25 []), [some []]⟩
noncomputable def impl_ToldOnce_k2 : Option Bool :=
  some true
theorem impl_ToldOnce_k2_ok (r : Bool) (h : impl_ToldOnce_k2 = some r) : Fin cx impl_ToldOnce_X (impl_ToldOnce_R r) (impl_ToldOnce_O r) impl_ToldOnce_k1 (impl_ToldOnce_S1) :=
  P0 <|
 rg <| fe Tryz.func7 h
noncomputable def impl_ToldOnce_k3 : List Item := posI 2000 4 [false] [.code impl_ToldOnce_c]
noncomputable def impl_ToldOnce_S2 (w : TWorld) (w1 : List TReq) (v13 : Int) : St := ⟨(bs 3 (.mp 1 0 :: (bs 7 (vsl 5 eTold w.Told :: (vi (w.Told.length : Int) :: (vi v13 :: (bs 11 []))))))), [some [], some [.map 51 2 (w1.map fun x => (kReq x, .b true))]]⟩
noncomputable def impl_ToldOnce_b1 (w : TWorld) (w1 : List TReq) (v13 : Int) : Option (Stp Bool ((List TReq) × Int) Unit) :=
  (bif decide (v13 < (w.Told.length : Int)) then
 ((idx w.Told v13).bind fun told =>
 (bif (w1.any fun x => kReq told.Req == kReq x) then
 some (Stp.ret false)
 else
 some (Stp.nxt (madd kReq w1 told.Req, w64 (v13 + 1)))))
 else
 some (Stp.brk ()))
theorem impl_ToldOnce_b1_ok (w : TWorld) (res : V) (outs : List (Option V)) (x1 : Exc Bool Unit) (hb1 : HB cx impl_ToldOnce_X res outs x1 impl_ToldOnce_k1 (fun s => impl_ToldOnce_S1)) (hr1 : HR res outs x1 impl_ToldOnce_R impl_ToldOnce_O) (st1 : Stp Bool ((List TReq) × Int) Unit) (hc1 : Cont x1 (fun s : (List TReq) × Int => Fin cx impl_ToldOnce_X res outs impl_ToldOnce_k3 (impl_ToldOnce_S2 w s.1 s.2)) st1) (w1 : List TReq) (v13 : Int) (h : impl_ToldOnce_b1 w w1 v13 = some st1) : Fin cx impl_ToldOnce_X res outs impl_ToldOnce_k3 (impl_ToldOnce_S2 w w1 v13) :=
  P0 <|
 rg <| cdD 0 h (fun h =>
 rg <| ixS eTold 0 h fun told htold h =>
 rg <| cdT (3, { v := some (.b (w1.any fun x => kReq told.Req == kReq x)) }) h (fun _ h =>
 om (mget (w1.map fun x => (kReq x, .b true)) (kReq told.Req) (.b false) = .b (w1.any fun x => kReq told.Req == kReq x)) (mget_set kReq _ _) <| rg <| (retD h hc1 fun e => fn0 Tryz.func7 (hr1 _ e))) (fun _ h =>
 om (mget (w1.map fun x => (kReq x, .b true)) (kReq told.Req) (.b false) = .b (w1.any fun x => kReq told.Req == kReq x)) (mget_set kReq _ _) <| rg <| om (Ent.map 51 2 (mput (w1.map fun x => (kReq x, .b true)) (kReq told.Req) (.b true)) = .map 51 2 ((madd kReq w1 told.Req).map fun x => (kReq x, .b true))) (congrArg (Ent.map 51 2) (mput_set kReq _ _)) <| tl (3, { e := some (.map 51 2 ((madd kReq w1 told.Req).map fun x => (kReq x, .b true))) }) <| rg <| (nxtD h hc1 fun hI => sg [] [3, 11, 12, 13] [(1, 0)] hI))) (fun h =>
 (brkD h hc1 fun e => sg [] [] [] (hb1 _ e)))
noncomputable def impl_ToldOnce (w : TWorld) : Option Bool :=
  ((impl_WorldOk w).bind fun worldOk =>
 (bif (!worldOk) then
 some false
 else
 ((loop (fun s : (List TReq) × Int => impl_ToldOnce_b1 w s.1 s.2) (([] : List TReq), 0)).bind fun x => x.go (fun r => some r) fun s => impl_ToldOnce_k2)))
theorem impl_ToldOnce_ok {w : TWorld} (r : Bool) (h : impl_ToldOnce w = some r) : ACalls cx.P 7 [.agg (eWorld w)] (impl_ToldOnce_R r) (impl_ToldOnce_O r) :=
  ACalls.of (cx := cx) (X := impl_ToldOnce_X) (c := impl_ToldOnce_c) Tryz.func7 (by kernel_rfl) (by kernel_rfl) (by kernel_rfl) (P0 <|
 rg2 <| cb impl_WorldOk_t impl_WorldOk_ok 1 false h fun worldOk h =>
 cdD 2 h (fun h =>
 rg <| fe Tryz.func7 h) (fun h =>
 rg2 <| loopJ h fun x hl hr hb => sg [] [3, 11, 12, 13] [(6, 0)] (loopD (I := fun s : (List TReq) × Int => Fin cx impl_ToldOnce_X (impl_ToldOnce_R r) (impl_ToldOnce_O r) impl_ToldOnce_k3 (impl_ToldOnce_S2 w s.1 s.2)) hl fun s st h hc => impl_ToldOnce_b1_ok w _ _ x (fun s e => impl_ToldOnce_k2_ok r (hb s e)) (fun v e => ⟨congrArg impl_ToldOnce_R (Option.some.inj (hr v e)).symm, congrArg impl_ToldOnce_O (Option.some.inj (hr v e)).symm⟩) st hc s.1 s.2 h)))

/-! ### laws_eqReq -/
noncomputable def laws_eqReq_c : Code := bodyOf Tryz.f80
noncomputable def laws_eqReq_X : Sig := { f := 80, fn := Tryz.f80, rms := [.val [] []], oms := [none, none] }
noncomputable def laws_eqReq_R (r : Bool) : V := .b r
noncomputable def laws_eqReq_O (r : Bool) : List (Option V) := [none, none]
noncomputable def laws_eqReq_t (i : Nat) (fr : Bool) (r : Bool) : Nat × Tell := (i, { a := .call [.val [] [], .val [] []] fr (laws_eqReq_R r) (laws_eqReq_O r) })
noncomputable def laws_eqReq (a : TReq) (b : TReq) : Option Bool :=
  (bif (a.Who != b.Who) then
 some false
 else
 (bif (a.Seq != b.Seq) then
 some false
 else
 some true))
theorem laws_eqReq_ok {a : TReq} {b : TReq} (r : Bool) (h : laws_eqReq a b = some r) : ACalls cx.P 80 [.agg (eReq a), .agg (eReq b)] (laws_eqReq_R r) (laws_eqReq_O r) :=
  ACalls.of (cx := cx) (X := laws_eqReq_X) (c := laws_eqReq_c) Tryz.func80 (by kernel_rfl) (by kernel_rfl) (by kernel_rfl) (P0 <|
 rg2 <| cdD 4 h (fun h =>
 rg <| fe Tryz.func80 h) (fun h =>
 rg <| cdD 4 h (fun h =>
 rg <| fe Tryz.func80 h) (fun h =>
 rg <| fe Tryz.func80 h)))

/-! ### laws_eqRead -/
noncomputable def laws_eqRead_c : Code := bodyOf Tryz.f114
noncomputable def laws_eqRead_X : Sig := { f := 114, fn := Tryz.f114, rms := [.val [] []], oms := [none, none] }
noncomputable def laws_eqRead_R (r : Bool) : V := .b r
noncomputable def laws_eqRead_O (r : Bool) : List (Option V) := [none, none]
noncomputable def laws_eqRead_t (i : Nat) (fr : Bool) (r : Bool) : Nat × Tell := (i, { a := .call [.val [] [], .val [] []] fr (laws_eqRead_R r) (laws_eqRead_O r) })
noncomputable def laws_eqRead (a : TRead) (b : TRead) : Option Bool :=
  (bif (a.Box != b.Box) then
 some false
 else
 (bif (a.Ver != b.Ver) then
 some false
 else
 some true))
theorem laws_eqRead_ok {a : TRead} {b : TRead} (r : Bool) (h : laws_eqRead a b = some r) : ACalls cx.P 114 [.agg (eRead a), .agg (eRead b)] (laws_eqRead_R r) (laws_eqRead_O r) :=
  ACalls.of (cx := cx) (X := laws_eqRead_X) (c := laws_eqRead_c) Tryz.func114 (by kernel_rfl) (by kernel_rfl) (by kernel_rfl) (P0 <|
 rg2 <| cdD 4 h (fun h =>
 rg <| fe Tryz.func114 h) (fun h =>
 rg <| cdD 4 h (fun h =>
 rg <| fe Tryz.func114 h) (fun h =>
 rg <| fe Tryz.func114 h)))

/-! ### laws_eqReadS -/
noncomputable def laws_eqReadS_c : Code := bodyOf Tryz.f110
noncomputable def laws_eqReadS_X : Sig := { f := 110, fn := Tryz.f110, rms := [.val [] []], oms := [none, none] }
noncomputable def laws_eqReadS_R (r : Bool) : V := .b r
noncomputable def laws_eqReadS_O (r : Bool) : List (Option V) := [none, none]
noncomputable def laws_eqReadS_t (i : Nat) (fr : Bool) (r : Bool) : Nat × Tell := (i, { a := .call [.val [some 2] [], .val [some 2] []] fr (laws_eqReadS_R r) (laws_eqReadS_O r) })
noncomputable def laws_eqReadS_k1 : List Item := posI 2000 4 [false, false] [.code laws_eqReadS_c]
noncomputable def laws_eqReadS_S1 : St := ⟨(bs 27 []), [some []]⟩
noncomputable def laws_eqReadS_k2 : Option Bool :=
  some true
theorem laws_eqReadS_k2_ok (r : Bool) (h : laws_eqReadS_k2 = some r) : Fin cx laws_eqReadS_X (laws_eqReadS_R r) (laws_eqReadS_O r) laws_eqReadS_k1 (laws_eqReadS_S1) :=
  P0 <|
 rg <| fe Tryz.func110 h
noncomputable def laws_eqReadS_k3 : List Item := posI 2000 3 [false] [.code laws_eqReadS_c]
noncomputable def laws_eqReadS_S2 (a : List TRead) (b : List TRead) (i : Int) : St := ⟨(vsl 2 eRead a :: (vsl 2 eRead b :: (bs 3 (vi i :: (bs 21 []))))), [some []]⟩
noncomputable def laws_eqReadS_b1 (a : List TRead) (b : List TRead) (i : Int) : Option (Stp Bool Int Unit) :=
  (bif decide (i < (a.length : Int)) then
 ((idx a i).bind fun read =>
 ((idx b i).bind fun read1 =>
 ((laws_eqRead read read1).bind fun eqRead =>
 (bif (!eqRead) then
 some (Stp.ret false)
 else
 some (Stp.nxt (w64 (i + 1)))))))
 else
 some (Stp.brk ()))
theorem laws_eqReadS_b1_ok (a : List TRead) (b : List TRead) (res : V) (outs : List (Option V)) (x1 : Exc Bool Unit) (hb1 : HB cx laws_eqReadS_X res outs x1 laws_eqReadS_k1 (fun s => laws_eqReadS_S1)) (hr1 : HR res outs x1 laws_eqReadS_R laws_eqReadS_O) (st1 : Stp Bool Int Unit) (hc1 : Cont x1 (fun s : Int => Fin cx laws_eqReadS_X res outs laws_eqReadS_k3 (laws_eqReadS_S2 a b s)) st1) (i : Int) (h : laws_eqReadS_b1 a b i = some st1) : Fin cx laws_eqReadS_X res outs laws_eqReadS_k3 (laws_eqReadS_S2 a b i) :=
  P0 <|
 rg <| cdD 3 h (fun h =>
 rg <| ixS eRead 2 h fun read hread h =>
 ixS eRead 6 h fun read1 hread1 h =>
 cb laws_eqRead_t laws_eqRead_ok 8 false h fun eqRead h =>
 cdD 9 h (fun h =>
 rg <| (retD h hc1 fun e => fn0 Tryz.func110 (hr1 _ e))) (fun h =>
 rg <| (nxtD h hc1 fun hI => sg [] [0, 1, 5] [] hI))) (fun h =>
 (brkD h hc1 fun e => sg [] [] [] (hb1 _ e)))
noncomputable def laws_eqReadS (a : List TRead) (b : List TRead) : Option Bool :=
  (bif ((a.length : Int) != (b.length : Int)) then
 some false
 else
 ((loop (fun s : Int => laws_eqReadS_b1 a b s) 0).bind fun x => x.go (fun r => some r) fun s => laws_eqReadS_k2))
theorem laws_eqReadS_ok {a : List TRead} {b : List TRead} (r : Bool) (h : laws_eqReadS a b = some r) : ACalls cx.P 110 [vsl 2 eRead a, vsl 2 eRead b] (laws_eqReadS_R r) (laws_eqReadS_O r) :=
  ACalls.of (cx := cx) (X := laws_eqReadS_X) (c := laws_eqReadS_c) Tryz.func110 (by kernel_rfl) (by kernel_rfl) (by kernel_rfl) (P0 <|
 rg2 <| cdD 4 h (fun h =>
 rg <| fe Tryz.func110 h) (fun h =>
 rg <| loopJ h fun x hl hr hb => sg [] [0, 1, 5] [] (loopD (I := fun s : Int => Fin cx laws_eqReadS_X (laws_eqReadS_R r) (laws_eqReadS_O r) laws_eqReadS_k3 (laws_eqReadS_S2 a b s)) hl fun s st h hc => laws_eqReadS_b1_ok a b _ _ x (fun s e => laws_eqReadS_k2_ok r (hb s e)) (fun v e => ⟨congrArg laws_eqReadS_R (Option.some.inj (hr v e)).symm, congrArg laws_eqReadS_O (Option.some.inj (hr v e)).symm⟩) st hc s h)))

/-! ### laws_eqPut -/
noncomputable def laws_eqPut_c : Code := bodyOf Tryz.f115
noncomputable def laws_eqPut_X : Sig := { f := 115, fn := Tryz.f115, rms := [.val [] []], oms := [none, none] }
noncomputable def laws_eqPut_R (r : Bool) : V := .b r
noncomputable def laws_eqPut_O (r : Bool) : List (Option V) := [none, none]
noncomputable def laws_eqPut_t (i : Nat) (fr : Bool) (r : Bool) : Nat × Tell := (i, { a := .call [.val [] [], .val [] []] fr (laws_eqPut_R r) (laws_eqPut_O r) })
noncomputable def laws_eqPut (a : TPut) (b : TPut) : Option Bool :=
  (bif (a.Box != b.Box) then
 some false
 else
 (bif (a.Val != b.Val) then
 some false
 else
 some true))
theorem laws_eqPut_ok {a : TPut} {b : TPut} (r : Bool) (h : laws_eqPut a b = some r) : ACalls cx.P 115 [.agg (ePut a), .agg (ePut b)] (laws_eqPut_R r) (laws_eqPut_O r) :=
  ACalls.of (cx := cx) (X := laws_eqPut_X) (c := laws_eqPut_c) Tryz.func115 (by kernel_rfl) (by kernel_rfl) (by kernel_rfl) (P0 <|
 rg2 <| cdD 4 h (fun h =>
 rg <| fe Tryz.func115 h) (fun h =>
 rg <| cdD 4 h (fun h =>
 rg <| fe Tryz.func115 h) (fun h =>
 rg <| fe Tryz.func115 h)))

/-! ### laws_eqPutS -/
noncomputable def laws_eqPutS_c : Code := bodyOf Tryz.f111
noncomputable def laws_eqPutS_X : Sig := { f := 111, fn := Tryz.f111, rms := [.val [] []], oms := [none, none] }
noncomputable def laws_eqPutS_R (r : Bool) : V := .b r
noncomputable def laws_eqPutS_O (r : Bool) : List (Option V) := [none, none]
noncomputable def laws_eqPutS_t (i : Nat) (fr : Bool) (r : Bool) : Nat × Tell := (i, { a := .call [.val [some 2] [], .val [some 2] []] fr (laws_eqPutS_R r) (laws_eqPutS_O r) })
noncomputable def laws_eqPutS_k1 : List Item := posI 2000 4 [false, false] [.code laws_eqPutS_c]
noncomputable def laws_eqPutS_S1 : St := ⟨(bs 27 []), [some []]⟩
noncomputable def laws_eqPutS_k2 : Option Bool :=
  some true
theorem laws_eqPutS_k2_ok (r : Bool) (h : laws_eqPutS_k2 = some r) : Fin cx laws_eqPutS_X (laws_eqPutS_R r) (laws_eqPutS_O r) laws_eqPutS_k1 (laws_eqPutS_S1) :=
  P0 <|
 rg <| fe Tryz.func111 h
noncomputable def laws_eqPutS_k3 : List Item := posI 2000 3 [false] [.code laws_eqPutS_c]
noncomputable def laws_eqPutS_S2 (a : List TPut) (b : List TPut) (i : Int) : St := ⟨(vsl 2 ePut a :: (vsl 2 ePut b :: (bs 3 (vi i :: (bs 21 []))))), [some []]⟩
noncomputable def laws_eqPutS_b1 (a : List TPut) (b : List TPut) (i : Int) : Option (Stp Bool Int Unit) :=
  (bif decide (i < (a.length : Int)) then
 ((idx a i).bind fun put =>
 ((idx b i).bind fun put1 =>
 ((laws_eqPut put put1).bind fun eqPut =>
 (bif (!eqPut) then
 some (Stp.ret false)
 else
 some (Stp.nxt (w64 (i + 1)))))))
 else
 some (Stp.brk ()))
theorem laws_eqPutS_b1_ok (a : List TPut) (b : List TPut) (res : V) (outs : List (Option V)) (x1 : Exc Bool Unit) (hb1 : HB cx laws_eqPutS_X res outs x1 laws_eqPutS_k1 (fun s => laws_eqPutS_S1)) (hr1 : HR res outs x1 laws_eqPutS_R laws_eqPutS_O) (st1 : Stp Bool Int Unit) (hc1 : Cont x1 (fun s : Int => Fin cx laws_eqPutS_X res outs laws_eqPutS_k3 (laws_eqPutS_S2 a b s)) st1) (i : Int) (h : laws_eqPutS_b1 a b i = some st1) : Fin cx laws_eqPutS_X res outs laws_eqPutS_k3 (laws_eqPutS_S2 a b i) :=
  P0 <|
 rg <| cdD 3 h (fun h =>
 rg <| ixS ePut 2 h fun put hput h =>
 ixS ePut 6 h fun put1 hput1 h =>
 cb laws_eqPut_t laws_eqPut_ok 8 false h fun eqPut h =>
 cdD 9 h (fun h =>
 rg <| (retD h hc1 fun e => fn0 Tryz.func111 (hr1 _ e))) (fun h =>
 rg <| (nxtD h hc1 fun hI => sg [] [0, 1, 5] [] hI))) (fun h =>
 (brkD h hc1 fun e => sg [] [] [] (hb1 _ e)))
noncomputable def laws_eqPutS (a : List TPut) (b : List TPut) : Option Bool :=
  (bif ((a.length : Int) != (b.length : Int)) then
 some false
 else
 ((loop (fun s : Int => laws_eqPutS_b1 a b s) 0).bind fun x => x.go (fun r => some r) fun s => laws_eqPutS_k2))
theorem laws_eqPutS_ok {a : List TPut} {b : List TPut} (r : Bool) (h : laws_eqPutS a b = some r) : ACalls cx.P 111 [vsl 2 ePut a, vsl 2 ePut b] (laws_eqPutS_R r) (laws_eqPutS_O r) :=
  ACalls.of (cx := cx) (X := laws_eqPutS_X) (c := laws_eqPutS_c) Tryz.func111 (by kernel_rfl) (by kernel_rfl) (by kernel_rfl) (P0 <|
 rg2 <| cdD 4 h (fun h =>
 rg <| fe Tryz.func111 h) (fun h =>
 rg <| loopJ h fun x hl hr hb => sg [] [0, 1, 5] [] (loopD (I := fun s : Int => Fin cx laws_eqPutS_X (laws_eqPutS_R r) (laws_eqPutS_O r) laws_eqPutS_k3 (laws_eqPutS_S2 a b s)) hl fun s st h hc => laws_eqPutS_b1_ok a b _ _ x (fun s e => laws_eqPutS_k2_ok r (hb s e)) (fun v e => ⟨congrArg laws_eqPutS_R (Option.some.inj (hr v e)).symm, congrArg laws_eqPutS_O (Option.some.inj (hr v e)).symm⟩) st hc s h)))

/-! ### laws_eqRun -/
noncomputable def laws_eqRun_c : Code := bodyOf Tryz.f100
noncomputable def laws_eqRun_X : Sig := { f := 100, fn := Tryz.f100, rms := [.val [] []], oms := [none, none] }
noncomputable def laws_eqRun_R (r : Bool) : V := .b r
noncomputable def laws_eqRun_O (r : Bool) : List (Option V) := [none, none]
noncomputable def laws_eqRun_t (i : Nat) (fr : Bool) (r : Bool) : Nat × Tell := (i, { a := .call [.val ck85 [], .val ck85 []] fr (laws_eqRun_R r) (laws_eqRun_O r) })
noncomputable def laws_eqRun (a : TRun) (b : TRun) : Option Bool :=
  ((laws_eqReadS a.Reads b.Reads).bind fun eqReadS =>
 (bif (!eqReadS) then
 some false
 else
 ((laws_eqPutS a.Puts b.Puts).bind fun eqPutS =>
 (bif (!eqPutS) then
 some false
 else
 (bif (a.Val != b.Val) then
 some false
 else
 (bif (a.Code != b.Code) then
 some false
 else
 some true))))))
theorem laws_eqRun_ok {a : TRun} {b : TRun} (r : Bool) (h : laws_eqRun a b = some r) : ACalls cx.P 100 [.agg (eRun a), .agg (eRun b)] (laws_eqRun_R r) (laws_eqRun_O r) :=
  ACalls.of (cx := cx) (X := laws_eqRun_X) (c := laws_eqRun_c) Tryz.func100 (by kernel_rfl) (by kernel_rfl) (by kernel_rfl) (P0 <|
 rg2 <| cb laws_eqReadS_t laws_eqReadS_ok 4 false h fun eqReadS h =>
 cdD 5 h (fun h =>
 rg <| fe Tryz.func100 h) (fun h =>
 rg <| cb laws_eqPutS_t laws_eqPutS_ok 4 false h fun eqPutS h =>
 cdD 5 h (fun h =>
 rg <| fe Tryz.func100 h) (fun h =>
 rg <| cdD 4 h (fun h =>
 rg <| fe Tryz.func100 h) (fun h =>
 rg <| cdD 4 h (fun h =>
 rg <| fe Tryz.func100 h) (fun h =>
 rg <| fe Tryz.func100 h)))))

/-! ### laws_eqEntry -/
noncomputable def laws_eqEntry_c : Code := bodyOf Tryz.f78
noncomputable def laws_eqEntry_X : Sig := { f := 78, fn := Tryz.f78, rms := [.val [] []], oms := [none, none] }
noncomputable def laws_eqEntry_R (r : Bool) : V := .b r
noncomputable def laws_eqEntry_O (r : Bool) : List (Option V) := [none, none]
noncomputable def laws_eqEntry_t (i : Nat) (fr : Bool) (r : Bool) : Nat × Tell := (i, { a := .call [.val ck87 [], .val ck87 []] fr (laws_eqEntry_R r) (laws_eqEntry_O r) })
noncomputable def laws_eqEntry (a : TEntry) (b : TEntry) : Option Bool :=
  (bif (!(a.None == b.None)) then
 some false
 else
 ((laws_eqReq a.Req b.Req).bind fun eqReq =>
 (bif (!eqReq) then
 some false
 else
 ((laws_eqRun a.Run b.Run).bind fun eqRun =>
 (bif (!eqRun) then
 some false
 else
 some true)))))
theorem laws_eqEntry_ok {a : TEntry} {b : TEntry} (r : Bool) (h : laws_eqEntry a b = some r) : ACalls cx.P 78 [.agg (eEntry a), .agg (eEntry b)] (laws_eqEntry_R r) (laws_eqEntry_O r) :=
  ACalls.of (cx := cx) (X := laws_eqEntry_X) (c := laws_eqEntry_c) Tryz.func78 (by kernel_rfl) (by kernel_rfl) (by kernel_rfl) (P0 <|
 rg2 <| cdD 4 h (fun h =>
 rg <| fe Tryz.func78 h) (fun h =>
 rg <| cb laws_eqReq_t laws_eqReq_ok 4 false h fun eqReq h =>
 cdD 5 h (fun h =>
 rg <| fe Tryz.func78 h) (fun h =>
 rg <| cb laws_eqRun_t laws_eqRun_ok 4 false h fun eqRun h =>
 cdD 5 h (fun h =>
 rg <| fe Tryz.func78 h) (fun h =>
 rg <| fe Tryz.func78 h))))

/-! ### laws_eqVote -/
noncomputable def laws_eqVote_c : Code := bodyOf Tryz.f99
noncomputable def laws_eqVote_X : Sig := { f := 99, fn := Tryz.f99, rms := [.val [] []], oms := [none, none] }
noncomputable def laws_eqVote_R (r : Bool) : V := .b r
noncomputable def laws_eqVote_O (r : Bool) : List (Option V) := [none, none]
noncomputable def laws_eqVote_t (i : Nat) (fr : Bool) (r : Bool) : Nat × Tell := (i, { a := .call [.val ck144 [], .val ck144 []] fr (laws_eqVote_R r) (laws_eqVote_O r) })
noncomputable def laws_eqVote (a : TVote) (b : TVote) : Option Bool :=
  (bif (a.Bal != b.Bal) then
 some false
 else
 ((laws_eqEntry a.Entry b.Entry).bind fun eqEntry =>
 (bif (!eqEntry) then
 some false
 else
 some true)))
theorem laws_eqVote_ok {a : TVote} {b : TVote} (r : Bool) (h : laws_eqVote a b = some r) : ACalls cx.P 99 [.agg (eVote a), .agg (eVote b)] (laws_eqVote_R r) (laws_eqVote_O r) :=
  ACalls.of (cx := cx) (X := laws_eqVote_X) (c := laws_eqVote_c) Tryz.func99 (by kernel_rfl) (by kernel_rfl) (by kernel_rfl) (P0 <|
 rg2 <| cdD 4 h (fun h =>
 rg <| fe Tryz.func99 h) (fun h =>
 rg <| cb laws_eqEntry_t laws_eqEntry_ok 4 false h fun eqEntry h =>
 cdD 5 h (fun h =>
 rg <| fe Tryz.func99 h) (fun h =>
 rg <| fe Tryz.func99 h)))

/-! ### laws_eqVoteS -/
noncomputable def laws_eqVoteS_c : Code := bodyOf Tryz.f77
noncomputable def laws_eqVoteS_X : Sig := { f := 77, fn := Tryz.f77, rms := [.val [] []], oms := [none, none] }
noncomputable def laws_eqVoteS_R (r : Bool) : V := .b r
noncomputable def laws_eqVoteS_O (r : Bool) : List (Option V) := [none, none]
noncomputable def laws_eqVoteS_t (i : Nat) (fr : Bool) (r : Bool) : Nat × Tell := (i, { a := .call [.val [some 8] [], .val [some 8] []] fr (laws_eqVoteS_R r) (laws_eqVoteS_O r) })
noncomputable def laws_eqVoteS_k1 : List Item := posI 2000 4 [false, false] [.code laws_eqVoteS_c]
noncomputable def laws_eqVoteS_S1 : St := ⟨(bs 27 []), [some []]⟩
noncomputable def laws_eqVoteS_k2 : Option Bool :=
  some true
theorem laws_eqVoteS_k2_ok (r : Bool) (h : laws_eqVoteS_k2 = some r) : Fin cx laws_eqVoteS_X (laws_eqVoteS_R r) (laws_eqVoteS_O r) laws_eqVoteS_k1 (laws_eqVoteS_S1) :=
  P0 <|
 rg <| fe Tryz.func77 h
noncomputable def laws_eqVoteS_k3 : List Item := posI 2000 3 [false] [.code laws_eqVoteS_c]
noncomputable def laws_eqVoteS_S2 (a : List TVote) (b : List TVote) (i : Int) : St := ⟨(vsl 8 eVote a :: (vsl 8 eVote b :: (bs 3 (vi i :: (bs 21 []))))), [some []]⟩
noncomputable def laws_eqVoteS_b1 (a : List TVote) (b : List TVote) (i : Int) : Option (Stp Bool Int Unit) :=
  (bif decide (i < (a.length : Int)) then
 ((idx a i).bind fun vote =>
 ((idx b i).bind fun vote1 =>
 ((laws_eqVote vote vote1).bind fun eqVote =>
 (bif (!eqVote) then
 some (Stp.ret false)
 else
 some (Stp.nxt (w64 (i + 1)))))))
 else
 some (Stp.brk ()))
theorem laws_eqVoteS_b1_ok (a : List TVote) (b : List TVote) (res : V) (outs : List (Option V)) (x1 : Exc Bool Unit) (hb1 : HB cx laws_eqVoteS_X res outs x1 laws_eqVoteS_k1 (fun s => laws_eqVoteS_S1)) (hr1 : HR res outs x1 laws_eqVoteS_R laws_eqVoteS_O) (st1 : Stp Bool Int Unit) (hc1 : Cont x1 (fun s : Int => Fin cx laws_eqVoteS_X res outs laws_eqVoteS_k3 (laws_eqVoteS_S2 a b s)) st1) (i : Int) (h : laws_eqVoteS_b1 a b i = some st1) : Fin cx laws_eqVoteS_X res outs laws_eqVoteS_k3 (laws_eqVoteS_S2 a b i) :=
  P0 <|
 rg <| cdD 3 h (fun h =>
 rg <| ixS eVote 2 h fun vote hvote h =>
 ixS eVote 6 h fun vote1 hvote1 h =>
 cb laws_eqVote_t laws_eqVote_ok 8 false h fun eqVote h =>
 cdD 9 h (fun h =>
 rg <| (retD h hc1 fun e => fn0 Tryz.func77 (hr1 _ e))) (fun h =>
 rg <| (nxtD h hc1 fun hI => sg [] [0, 1, 5] [] hI))) (fun h =>
 (brkD h hc1 fun e => sg [] [] [] (hb1 _ e)))
noncomputable def laws_eqVoteS (a : List TVote) (b : List TVote) : Option Bool :=
  (bif ((a.length : Int) != (b.length : Int)) then
 some false
 else
 ((loop (fun s : Int => laws_eqVoteS_b1 a b s) 0).bind fun x => x.go (fun r => some r) fun s => laws_eqVoteS_k2))
theorem laws_eqVoteS_ok {a : List TVote} {b : List TVote} (r : Bool) (h : laws_eqVoteS a b = some r) : ACalls cx.P 77 [vsl 8 eVote a, vsl 8 eVote b] (laws_eqVoteS_R r) (laws_eqVoteS_O r) :=
  ACalls.of (cx := cx) (X := laws_eqVoteS_X) (c := laws_eqVoteS_c) Tryz.func77 (by kernel_rfl) (by kernel_rfl) (by kernel_rfl) (P0 <|
 rg2 <| cdD 4 h (fun h =>
 rg <| fe Tryz.func77 h) (fun h =>
 rg <| loopJ h fun x hl hr hb => sg [] [0, 1, 5] [] (loopD (I := fun s : Int => Fin cx laws_eqVoteS_X (laws_eqVoteS_R r) (laws_eqVoteS_O r) laws_eqVoteS_k3 (laws_eqVoteS_S2 a b s)) hl fun s st h hc => laws_eqVoteS_b1_ok a b _ _ x (fun s e => laws_eqVoteS_k2_ok r (hb s e)) (fun v e => ⟨congrArg laws_eqVoteS_R (Option.some.inj (hr v e)).symm, congrArg laws_eqVoteS_O (Option.some.inj (hr v e)).symm⟩) st hc s h)))

/-! ### laws_eqAcc -/
noncomputable def laws_eqAcc_c : Code := bodyOf Tryz.f74
noncomputable def laws_eqAcc_X : Sig := { f := 74, fn := Tryz.f74, rms := [.val [] []], oms := [none, none] }
noncomputable def laws_eqAcc_R (r : Bool) : V := .b r
noncomputable def laws_eqAcc_O (r : Bool) : List (Option V) := [none, none]
noncomputable def laws_eqAcc_t (i : Nat) (fr : Bool) (r : Bool) : Nat × Tell := (i, { a := .call [.val [none, some 8] [], .val [none, some 8] []] fr (laws_eqAcc_R r) (laws_eqAcc_O r) })
noncomputable def laws_eqAcc (a : TAcc) (b : TAcc) : Option Bool :=
  (bif (a.Promised != b.Promised) then
 some false
 else
 ((laws_eqVoteS a.Votes b.Votes).bind fun eqVoteS =>
 (bif (!eqVoteS) then
 some false
 else
 some true)))
theorem laws_eqAcc_ok {a : TAcc} {b : TAcc} (r : Bool) (h : laws_eqAcc a b = some r) : ACalls cx.P 74 [.agg (eAcc a), .agg (eAcc b)] (laws_eqAcc_R r) (laws_eqAcc_O r) :=
  ACalls.of (cx := cx) (X := laws_eqAcc_X) (c := laws_eqAcc_c) Tryz.func74 (by kernel_rfl) (by kernel_rfl) (by kernel_rfl) (P0 <|
 rg2 <| cdD 4 h (fun h =>
 rg <| fe Tryz.func74 h) (fun h =>
 rg <| cb laws_eqVoteS_t laws_eqVoteS_ok 4 false h fun eqVoteS h =>
 cdD 5 h (fun h =>
 rg <| fe Tryz.func74 h) (fun h =>
 rg <| fe Tryz.func74 h)))

/-! ### laws_eqEntryS -/
noncomputable def laws_eqEntryS_c : Code := bodyOf Tryz.f75
noncomputable def laws_eqEntryS_X : Sig := { f := 75, fn := Tryz.f75, rms := [.val [] []], oms := [none, none] }
noncomputable def laws_eqEntryS_R (r : Bool) : V := .b r
noncomputable def laws_eqEntryS_O (r : Bool) : List (Option V) := [none, none]
noncomputable def laws_eqEntryS_t (i : Nat) (fr : Bool) (r : Bool) : Nat × Tell := (i, { a := .call [.val [some 7] [], .val [some 7] []] fr (laws_eqEntryS_R r) (laws_eqEntryS_O r) })
noncomputable def laws_eqEntryS_k1 : List Item := posI 2000 4 [false, false] [.code laws_eqEntryS_c]
noncomputable def laws_eqEntryS_S1 : St := ⟨(bs 27 []), [some []]⟩
noncomputable def laws_eqEntryS_k2 : Option Bool :=
  some true
theorem laws_eqEntryS_k2_ok (r : Bool) (h : laws_eqEntryS_k2 = some r) : Fin cx laws_eqEntryS_X (laws_eqEntryS_R r) (laws_eqEntryS_O r) laws_eqEntryS_k1 (laws_eqEntryS_S1) :=
  P0 <|
 rg <| fe Tryz.func75 h
noncomputable def laws_eqEntryS_k3 : List Item := posI 2000 3 [false] [.code laws_eqEntryS_c]
noncomputable def laws_eqEntryS_S2 (a : List TEntry) (b : List TEntry) (i : Int) : St := ⟨(vsl 7 eEntry a :: (vsl 7 eEntry b :: (bs 3 (vi i :: (bs 21 []))))), [some []]⟩
noncomputable def laws_eqEntryS_b1 (a : List TEntry) (b : List TEntry) (i : Int) : Option (Stp Bool Int Unit) :=
  (bif decide (i < (a.length : Int)) then
 ((idx a i).bind fun entry =>
 ((idx b i).bind fun entry1 =>
 ((laws_eqEntry entry entry1).bind fun eqEntry =>
 (bif (!eqEntry) then
 some (Stp.ret false)
 else
 some (Stp.nxt (w64 (i + 1)))))))
 else
 some (Stp.brk ()))
theorem laws_eqEntryS_b1_ok (a : List TEntry) (b : List TEntry) (res : V) (outs : List (Option V)) (x1 : Exc Bool Unit) (hb1 : HB cx laws_eqEntryS_X res outs x1 laws_eqEntryS_k1 (fun s => laws_eqEntryS_S1)) (hr1 : HR res outs x1 laws_eqEntryS_R laws_eqEntryS_O) (st1 : Stp Bool Int Unit) (hc1 : Cont x1 (fun s : Int => Fin cx laws_eqEntryS_X res outs laws_eqEntryS_k3 (laws_eqEntryS_S2 a b s)) st1) (i : Int) (h : laws_eqEntryS_b1 a b i = some st1) : Fin cx laws_eqEntryS_X res outs laws_eqEntryS_k3 (laws_eqEntryS_S2 a b i) :=
  P0 <|
 rg <| cdD 3 h (fun h =>
 rg <| ixS eEntry 2 h fun entry hentry h =>
 ixS eEntry 6 h fun entry1 hentry1 h =>
 cb laws_eqEntry_t laws_eqEntry_ok 8 false h fun eqEntry h =>
 cdD 9 h (fun h =>
 rg <| (retD h hc1 fun e => fn0 Tryz.func75 (hr1 _ e))) (fun h =>
 rg <| (nxtD h hc1 fun hI => sg [] [0, 1, 5] [] hI))) (fun h =>
 (brkD h hc1 fun e => sg [] [] [] (hb1 _ e)))
noncomputable def laws_eqEntryS (a : List TEntry) (b : List TEntry) : Option Bool :=
  (bif ((a.length : Int) != (b.length : Int)) then
 some false
 else
 ((loop (fun s : Int => laws_eqEntryS_b1 a b s) 0).bind fun x => x.go (fun r => some r) fun s => laws_eqEntryS_k2))
theorem laws_eqEntryS_ok {a : List TEntry} {b : List TEntry} (r : Bool) (h : laws_eqEntryS a b = some r) : ACalls cx.P 75 [vsl 7 eEntry a, vsl 7 eEntry b] (laws_eqEntryS_R r) (laws_eqEntryS_O r) :=
  ACalls.of (cx := cx) (X := laws_eqEntryS_X) (c := laws_eqEntryS_c) Tryz.func75 (by kernel_rfl) (by kernel_rfl) (by kernel_rfl) (P0 <|
 rg2 <| cdD 4 h (fun h =>
 rg <| fe Tryz.func75 h) (fun h =>
 rg <| loopJ h fun x hl hr hb => sg [] [0, 1, 5] [] (loopD (I := fun s : Int => Fin cx laws_eqEntryS_X (laws_eqEntryS_R r) (laws_eqEntryS_O r) laws_eqEntryS_k3 (laws_eqEntryS_S2 a b s)) hl fun s st h hc => laws_eqEntryS_b1_ok a b _ _ x (fun s e => laws_eqEntryS_k2_ok r (hb s e)) (fun v e => ⟨congrArg laws_eqEntryS_R (Option.some.inj (hr v e)).symm, congrArg laws_eqEntryS_O (Option.some.inj (hr v e)).symm⟩) st hc s h)))

/-! ### laws_eqBoolS -/
noncomputable def laws_eqBoolS_c : Code := bodyOf Tryz.f76
noncomputable def laws_eqBoolS_X : Sig := { f := 76, fn := Tryz.f76, rms := [.val [] []], oms := [none, none] }
noncomputable def laws_eqBoolS_R (r : Bool) : V := .b r
noncomputable def laws_eqBoolS_O (r : Bool) : List (Option V) := [none, none]
noncomputable def laws_eqBoolS_t (i : Nat) (fr : Bool) (r : Bool) : Nat × Tell := (i, { a := .call [.val [some 1] [], .val [some 1] []] fr (laws_eqBoolS_R r) (laws_eqBoolS_O r) })
noncomputable def laws_eqBoolS_k1 : List Item := posI 2000 4 [false, false] [.code laws_eqBoolS_c]
noncomputable def laws_eqBoolS_S1 : St := ⟨(bs 26 []), [some []]⟩
noncomputable def laws_eqBoolS_k2 : Option Bool :=
  some true
theorem laws_eqBoolS_k2_ok (r : Bool) (h : laws_eqBoolS_k2 = some r) : Fin cx laws_eqBoolS_X (laws_eqBoolS_R r) (laws_eqBoolS_O r) laws_eqBoolS_k1 (laws_eqBoolS_S1) :=
  P0 <|
 rg <| fe Tryz.func76 h
noncomputable def laws_eqBoolS_k3 : List Item := posI 2000 3 [false] [.code laws_eqBoolS_c]
noncomputable def laws_eqBoolS_S2 (a : List Bool) (b : List Bool) (i : Int) : St := ⟨(vsl 1 eB a :: (vsl 1 eB b :: (bs 3 (vi i :: (bs 20 []))))), [some []]⟩
noncomputable def laws_eqBoolS_b1 (a : List Bool) (b : List Bool) (i : Int) : Option (Stp Bool Int Unit) :=
  (bif decide (i < (a.length : Int)) then
 ((idx a i).bind fun y =>
 ((idx b i).bind fun y1 =>
 (bif (!(y == y1)) then
 some (Stp.ret false)
 else
 some (Stp.nxt (w64 (i + 1))))))
 else
 some (Stp.brk ()))
theorem laws_eqBoolS_b1_ok (a : List Bool) (b : List Bool) (res : V) (outs : List (Option V)) (x1 : Exc Bool Unit) (hb1 : HB cx laws_eqBoolS_X res outs x1 laws_eqBoolS_k1 (fun s => laws_eqBoolS_S1)) (hr1 : HR res outs x1 laws_eqBoolS_R laws_eqBoolS_O) (st1 : Stp Bool Int Unit) (hc1 : Cont x1 (fun s : Int => Fin cx laws_eqBoolS_X res outs laws_eqBoolS_k3 (laws_eqBoolS_S2 a b s)) st1) (i : Int) (h : laws_eqBoolS_b1 a b i = some st1) : Fin cx laws_eqBoolS_X res outs laws_eqBoolS_k3 (laws_eqBoolS_S2 a b i) :=
  P0 <|
 rg <| cdD 3 h (fun h =>
 rg <| ixS eB 2 h fun y hy h =>
 ixS eB 6 h fun y1 hy1 h =>
 cdD 8 h (fun h =>
 rg <| (retD h hc1 fun e => fn0 Tryz.func76 (hr1 _ e))) (fun h =>
 rg <| (nxtD h hc1 fun hI => sg [] [0, 1, 5] [] hI))) (fun h =>
 (brkD h hc1 fun e => sg [] [] [] (hb1 _ e)))
noncomputable def laws_eqBoolS (a : List Bool) (b : List Bool) : Option Bool :=
  (bif ((a.length : Int) != (b.length : Int)) then
 some false
 else
 ((loop (fun s : Int => laws_eqBoolS_b1 a b s) 0).bind fun x => x.go (fun r => some r) fun s => laws_eqBoolS_k2))
theorem laws_eqBoolS_ok {a : List Bool} {b : List Bool} (r : Bool) (h : laws_eqBoolS a b = some r) : ACalls cx.P 76 [vsl 1 eB a, vsl 1 eB b] (laws_eqBoolS_R r) (laws_eqBoolS_O r) :=
  ACalls.of (cx := cx) (X := laws_eqBoolS_X) (c := laws_eqBoolS_c) Tryz.func76 (by kernel_rfl) (by kernel_rfl) (by kernel_rfl) (P0 <|
 rg2 <| cdD 4 h (fun h =>
 rg <| fe Tryz.func76 h) (fun h =>
 rg <| loopJ h fun x hl hr hb => sg [] [0, 1, 5] [] (loopD (I := fun s : Int => Fin cx laws_eqBoolS_X (laws_eqBoolS_R r) (laws_eqBoolS_O r) laws_eqBoolS_k3 (laws_eqBoolS_S2 a b s)) hl fun s st h hc => laws_eqBoolS_b1_ok a b _ _ x (fun s e => laws_eqBoolS_k2_ok r (hb s e)) (fun v e => ⟨congrArg laws_eqBoolS_R (Option.some.inj (hr v e)).symm, congrArg laws_eqBoolS_O (Option.some.inj (hr v e)).symm⟩) st hc s h)))

/-! ### laws_eqIns -/
noncomputable def laws_eqIns_c : Code := bodyOf Tryz.f101
noncomputable def laws_eqIns_X : Sig := { f := 101, fn := Tryz.f101, rms := [.val [] []], oms := [none, none] }
noncomputable def laws_eqIns_R (r : Bool) : V := .b r
noncomputable def laws_eqIns_O (r : Bool) : List (Option V) := [none, none]
noncomputable def laws_eqIns_t (i : Nat) (fr : Bool) (r : Bool) : Nat × Tell := (i, { a := .call [.val [] [], .val [] []] fr (laws_eqIns_R r) (laws_eqIns_O r) })
noncomputable def laws_eqIns (a : TIns) (b : TIns) : Option Bool :=
  (bif (a.Kind != b.Kind) then
 some false
 else
 (bif (a.A != b.A) then
 some false
 else
 (bif (a.B != b.B) then
 some false
 else
 (bif (a.N != b.N) then
 some false
 else
 some true))))
theorem laws_eqIns_ok {a : TIns} {b : TIns} (r : Bool) (h : laws_eqIns a b = some r) : ACalls cx.P 101 [.agg (eIns a), .agg (eIns b)] (laws_eqIns_R r) (laws_eqIns_O r) :=
  ACalls.of (cx := cx) (X := laws_eqIns_X) (c := laws_eqIns_c) Tryz.func101 (by kernel_rfl) (by kernel_rfl) (by kernel_rfl) (P0 <|
 rg2 <| cdD 4 h (fun h =>
 rg <| fe Tryz.func101 h) (fun h =>
 rg <| cdD 4 h (fun h =>
 rg <| fe Tryz.func101 h) (fun h =>
 rg <| cdD 4 h (fun h =>
 rg <| fe Tryz.func101 h) (fun h =>
 rg <| cdD 4 h (fun h =>
 rg <| fe Tryz.func101 h) (fun h =>
 rg <| fe Tryz.func101 h)))))

/-! ### laws_eqInsS -/
noncomputable def laws_eqInsS_c : Code := bodyOf Tryz.f79
noncomputable def laws_eqInsS_X : Sig := { f := 79, fn := Tryz.f79, rms := [.val [] []], oms := [none, none] }
noncomputable def laws_eqInsS_R (r : Bool) : V := .b r
noncomputable def laws_eqInsS_O (r : Bool) : List (Option V) := [none, none]
noncomputable def laws_eqInsS_t (i : Nat) (fr : Bool) (r : Bool) : Nat × Tell := (i, { a := .call [.val [some 4] [], .val [some 4] []] fr (laws_eqInsS_R r) (laws_eqInsS_O r) })
noncomputable def laws_eqInsS_k1 : List Item := posI 2000 4 [false, false] [.code laws_eqInsS_c]
noncomputable def laws_eqInsS_S1 : St := ⟨(bs 27 []), [some []]⟩
noncomputable def laws_eqInsS_k2 : Option Bool :=
  some true
theorem laws_eqInsS_k2_ok (r : Bool) (h : laws_eqInsS_k2 = some r) : Fin cx laws_eqInsS_X (laws_eqInsS_R r) (laws_eqInsS_O r) laws_eqInsS_k1 (laws_eqInsS_S1) :=
  P0 <|
 rg <| fe Tryz.func79 h
noncomputable def laws_eqInsS_k3 : List Item := posI 2000 3 [false] [.code laws_eqInsS_c]
noncomputable def laws_eqInsS_S2 (a : List TIns) (b : List TIns) (i : Int) : St := ⟨(vsl 4 eIns a :: (vsl 4 eIns b :: (bs 3 (vi i :: (bs 21 []))))), [some []]⟩
noncomputable def laws_eqInsS_b1 (a : List TIns) (b : List TIns) (i : Int) : Option (Stp Bool Int Unit) :=
  (bif decide (i < (a.length : Int)) then
 ((idx a i).bind fun ins =>
 ((idx b i).bind fun ins1 =>
 ((laws_eqIns ins ins1).bind fun eqIns =>
 (bif (!eqIns) then
 some (Stp.ret false)
 else
 some (Stp.nxt (w64 (i + 1)))))))
 else
 some (Stp.brk ()))
theorem laws_eqInsS_b1_ok (a : List TIns) (b : List TIns) (res : V) (outs : List (Option V)) (x1 : Exc Bool Unit) (hb1 : HB cx laws_eqInsS_X res outs x1 laws_eqInsS_k1 (fun s => laws_eqInsS_S1)) (hr1 : HR res outs x1 laws_eqInsS_R laws_eqInsS_O) (st1 : Stp Bool Int Unit) (hc1 : Cont x1 (fun s : Int => Fin cx laws_eqInsS_X res outs laws_eqInsS_k3 (laws_eqInsS_S2 a b s)) st1) (i : Int) (h : laws_eqInsS_b1 a b i = some st1) : Fin cx laws_eqInsS_X res outs laws_eqInsS_k3 (laws_eqInsS_S2 a b i) :=
  P0 <|
 rg <| cdD 3 h (fun h =>
 rg <| ixS eIns 2 h fun ins hins h =>
 ixS eIns 6 h fun ins1 hins1 h =>
 cb laws_eqIns_t laws_eqIns_ok 8 false h fun eqIns h =>
 cdD 9 h (fun h =>
 rg <| (retD h hc1 fun e => fn0 Tryz.func79 (hr1 _ e))) (fun h =>
 rg <| (nxtD h hc1 fun hI => sg [] [0, 1, 5] [] hI))) (fun h =>
 (brkD h hc1 fun e => sg [] [] [] (hb1 _ e)))
noncomputable def laws_eqInsS (a : List TIns) (b : List TIns) : Option Bool :=
  (bif ((a.length : Int) != (b.length : Int)) then
 some false
 else
 ((loop (fun s : Int => laws_eqInsS_b1 a b s) 0).bind fun x => x.go (fun r => some r) fun s => laws_eqInsS_k2))
theorem laws_eqInsS_ok {a : List TIns} {b : List TIns} (r : Bool) (h : laws_eqInsS a b = some r) : ACalls cx.P 79 [vsl 4 eIns a, vsl 4 eIns b] (laws_eqInsS_R r) (laws_eqInsS_O r) :=
  ACalls.of (cx := cx) (X := laws_eqInsS_X) (c := laws_eqInsS_c) Tryz.func79 (by kernel_rfl) (by kernel_rfl) (by kernel_rfl) (P0 <|
 rg2 <| cdD 4 h (fun h =>
 rg <| fe Tryz.func79 h) (fun h =>
 rg <| loopJ h fun x hl hr hb => sg [] [0, 1, 5] [] (loopD (I := fun s : Int => Fin cx laws_eqInsS_X (laws_eqInsS_R r) (laws_eqInsS_O r) laws_eqInsS_k3 (laws_eqInsS_S2 a b s)) hl fun s st h hc => laws_eqInsS_b1_ok a b _ _ x (fun s e => laws_eqInsS_k2_ok r (hb s e)) (fun v e => ⟨congrArg laws_eqInsS_R (Option.some.inj (hr v e)).symm, congrArg laws_eqInsS_O (Option.some.inj (hr v e)).symm⟩) st hc s h)))

/-! ### laws_eqNode -/
noncomputable def laws_eqNode_c : Code := bodyOf Tryz.f40
noncomputable def laws_eqNode_X : Sig := { f := 40, fn := Tryz.f40, rms := [.val [] []], oms := [none, none] }
noncomputable def laws_eqNode_R (r : Bool) : V := .b r
noncomputable def laws_eqNode_O (r : Bool) : List (Option V) := [none, none]
noncomputable def laws_eqNode_t (i : Nat) (fr : Bool) (r : Bool) : Nat × Tell := (i, { a := .call [.val ck90 [], .val ck90 []] fr (laws_eqNode_R r) (laws_eqNode_O r) })
noncomputable def laws_eqNode (a : TNode) (b : TNode) : Option Bool :=
  (bif (a.Id != b.Id) then
 some false
 else
 ((laws_eqAcc a.Acc b.Acc).bind fun eqAcc =>
 (bif (!eqAcc) then
 some false
 else
 ((laws_eqEntryS a.Known b.Known).bind fun eqEntryS =>
 (bif (!eqEntryS) then
 some false
 else
 (bif (a.Seq != b.Seq) then
 some false
 else
 (bif (a.Phase != b.Phase) then
 some false
 else
 (bif (a.Bal != b.Bal) then
 some false
 else
 ((laws_eqBoolS a.From b.From).bind fun eqBoolS =>
 (bif (!eqBoolS) then
 some false
 else
 ((laws_eqVoteS a.Best b.Best).bind fun eqVoteS =>
 (bif (!eqVoteS) then
 some false
 else
 ((laws_eqEntry a.Cur b.Cur).bind fun eqEntry =>
 (bif (!eqEntry) then
 some false
 else
 ((laws_eqBoolS a.Votes b.Votes).bind fun eqBoolS1 =>
 (bif (!eqBoolS1) then
 some false
 else
 (bif (!(a.Busy == b.Busy)) then
 some false
 else
 ((laws_eqInsS a.Prog b.Prog).bind fun eqInsS =>
 (bif (!eqInsS) then
 some false
 else
 ((laws_eqEntry a.Want b.Want).bind fun eqEntry1 =>
 (bif (!eqEntry1) then
 some false
 else
 ((laws_eqEntryS a.Queue b.Queue).bind fun eqEntryS1 =>
 (bif (!eqEntryS1) then
 some false
 else
 some true)))))))))))))))))))))))
theorem laws_eqNode_ok {a : TNode} {b : TNode} (r : Bool) (h : laws_eqNode a b = some r) : ACalls cx.P 40 [.agg (eNode a), .agg (eNode b)] (laws_eqNode_R r) (laws_eqNode_O r) :=
  ACalls.of (cx := cx) (X := laws_eqNode_X) (c := laws_eqNode_c) Tryz.func40 (by kernel_rfl) (by kernel_rfl) (by kernel_rfl) (P0 <|
 rg2 <| cdD 4 h (fun h =>
 rg <| fe Tryz.func40 h) (fun h =>
 rg <| cb laws_eqAcc_t laws_eqAcc_ok 4 false h fun eqAcc h =>
 cdD 5 h (fun h =>
 rg <| fe Tryz.func40 h) (fun h =>
 rg <| cb laws_eqEntryS_t laws_eqEntryS_ok 4 false h fun eqEntryS h =>
 cdD 5 h (fun h =>
 rg <| fe Tryz.func40 h) (fun h =>
 rg <| cdD 4 h (fun h =>
 rg <| fe Tryz.func40 h) (fun h =>
 rg <| cdD 4 h (fun h =>
 rg <| fe Tryz.func40 h) (fun h =>
 rg <| cdD 4 h (fun h =>
 rg <| fe Tryz.func40 h) (fun h =>
 rg <| cb laws_eqBoolS_t laws_eqBoolS_ok 4 false h fun eqBoolS h =>
 cdD 5 h (fun h =>
 rg <| fe Tryz.func40 h) (fun h =>
 rg <| cb laws_eqVoteS_t laws_eqVoteS_ok 4 false h fun eqVoteS h =>
 cdD 5 h (fun h =>
 rg <| fe Tryz.func40 h) (fun h =>
 rg <| cb laws_eqEntry_t laws_eqEntry_ok 4 false h fun eqEntry h =>
 cdD 5 h (fun h =>
 rg <| fe Tryz.func40 h) (fun h =>
 rg <| cb laws_eqBoolS_t laws_eqBoolS_ok 4 false h fun eqBoolS1 h =>
 cdD 5 h (fun h =>
 rg <| fe Tryz.func40 h) (fun h =>
 rg <| cdD 4 h (fun h =>
 rg <| fe Tryz.func40 h) (fun h =>
 rg <| cb laws_eqInsS_t laws_eqInsS_ok 4 false h fun eqInsS h =>
 cdD 5 h (fun h =>
 rg <| fe Tryz.func40 h) (fun h =>
 rg <| cb laws_eqEntry_t laws_eqEntry_ok 4 false h fun eqEntry1 h =>
 cdD 5 h (fun h =>
 rg <| fe Tryz.func40 h) (fun h =>
 rg <| cb laws_eqEntryS_t laws_eqEntryS_ok 4 false h fun eqEntryS1 h =>
 cdD 5 h (fun h =>
 rg <| fe Tryz.func40 h) (fun h =>
 rg <| fe Tryz.func40 h)))))))))))))))


end Go.Proofs.YtnbiggnidjfgeaaGreat
