/- Functions of the program, and that their calls come to this. -/
import Derived.Test.YtaafmkiajpgdaaaGreatF1
set_option linter.unusedVariables false
set_option linter.unusedSimpArgs false
namespace Go.Proofs.YtaafmkiajpgdaaaGreat
open Go

/-! ### spec_NodeOk -/
noncomputable def spec_NodeOk_c : Code := bodyOf Tryz.f32
noncomputable def spec_NodeOk_X : Sig := { f := 32, fn := Tryz.f32, rms := [.val [] []], oms := [none] }
noncomputable def spec_NodeOk_R (r : Bool) : V := .b r
noncomputable def spec_NodeOk_O (r : Bool) : List (Option V) := [none]
noncomputable def spec_NodeOk_t (i : Nat) (fr : Bool) (r : Bool) : Nat × Tell := (i, { a := .call [.val ck100 []] fr (spec_NodeOk_R r) (spec_NodeOk_O r) })
noncomputable def spec_NodeOk_k1 : List Item := posI 2000 4 [false, false] [.code spec_NodeOk_c]
noncomputable def spec_NodeOk_S1 : St := ⟨(bs 72 []), [some []]⟩
noncomputable def spec_NodeOk_k2 : Option Bool :=
  some true
theorem spec_NodeOk_k2_ok (r : Bool) (h : spec_NodeOk_k2 = some r) : Fin cx spec_NodeOk_X (spec_NodeOk_R r) (spec_NodeOk_O r) spec_NodeOk_k1 (spec_NodeOk_S1) :=
  P0 <|
 rg <| fe Tryz.func32 h
noncomputable def spec_NodeOk_k3 : List Item := posI 2000 3 [false] [.code spec_NodeOk_c]
noncomputable def spec_NodeOk_S2 (n : TNode) (i : Int) : St := ⟨(bs 1 (.ptr 1 0 0 :: (bs 1 (vi i :: (bs 68 []))))), [some [], some [.var 100 [vi n.Id, vi n.Acc.Promised, vsl 8 eVote n.Acc.Votes, vsl 7 eEntry n.Known, vi n.Seq, vi n.Phase, vi n.Bal, vsl 1 eB n.From, vsl 8 eVote n.Best, .b n.Cur.None, vi n.Cur.Req.Who, vi n.Cur.Req.Seq, vsl 2 eRead n.Cur.Run.Reads, vsl 2 ePut n.Cur.Run.Puts, vi n.Cur.Run.Val, vi n.Cur.Run.Code, vsl 1 eB n.Votes, .b n.Busy, vsl 4 eIns n.Prog, .b n.Want.None, vi n.Want.Req.Who, vi n.Want.Req.Seq, vsl 2 eRead n.Want.Run.Reads, vsl 2 ePut n.Want.Run.Puts, vi n.Want.Run.Val, vi n.Want.Run.Code, vsl 7 eEntry n.Queue]]]⟩
noncomputable def spec_NodeOk_b1 (n : TNode) (i : Int) : Option (Stp Bool Int Unit) :=
  (bif decide (i < (n.Queue.length : Int)) then
 ((idx n.Queue i).bind fun entry =>
 ((spec_CertEntry entry).bind fun certEntry =>
 (bif (!certEntry) then
 some (Stp.ret false)
 else
 (bif entry.None then
 some (Stp.ret false)
 else
 some (Stp.nxt (w64 (i + 1)))))))
 else
 some (Stp.brk ()))
theorem spec_NodeOk_b1_ok (n : TNode) (res : V) (outs : List (Option V)) (x1 : Exc Bool Unit) (hb1 : HB cx spec_NodeOk_X res outs x1 spec_NodeOk_k1 (fun s => spec_NodeOk_S1)) (hr1 : HR res outs x1 spec_NodeOk_R spec_NodeOk_O) (st1 : Stp Bool Int Unit) (hc1 : Cont x1 (fun s : Int => Fin cx spec_NodeOk_X res outs spec_NodeOk_k3 (spec_NodeOk_S2 n s)) st1) (i : Int) (h : spec_NodeOk_b1 n i = some st1) : Fin cx spec_NodeOk_X res outs spec_NodeOk_k3 (spec_NodeOk_S2 n i) :=
  P0 <|
 rg <| cdD 4 h (fun h =>
 rg <| ixS eEntry 3 h fun entry hentry h =>
 cb spec_CertEntry_t spec_CertEntry_ok 5 false h fun certEntry h =>
 cdD 7 h (fun h =>
 rg <| (retD h hc1 fun e => fn0 Tryz.func32 (hr1 _ e))) (fun h =>
 ixR eEntry 11 hentry <| cdD 14 h (fun h =>
 rg <| (retD h hc1 fun e => fn0 Tryz.func32 (hr1 _ e))) (fun h =>
 rg <| (nxtD h hc1 fun hI => sg [] [1, 3] [(1, 0)] hI)))) (fun h =>
 (brkD h hc1 fun e => sg [] [] [] (hb1 _ e)))
noncomputable def spec_NodeOk (n : TNode) : Option Bool :=
  (bif decide (n.Id < 0) then
 some false
 else
 (bif decide (n.Id ≥ 3) then
 some false
 else
 ((spec_AccOk n.Acc).bind fun accOk =>
 (bif (!accOk) then
 some false
 else
 ((spec_l8Known n.Known).bind fun l8Known =>
 (bif (!l8Known) then
 some false
 else
 (bif decide (n.Seq < 0) then
 some false
 else
 (bif decide (n.Seq > 1000) then
 some false
 else
 (bif decide ((n.Queue.length : Int) > 4) then
 some false
 else
 ((spec_l8Lead n).bind fun l8Lead =>
 (bif (!l8Lead) then
 some false
 else
 ((spec_l8Wants n).bind fun l8Wants =>
 (bif (!l8Wants) then
 some false
 else
 ((loop (fun s : Int => spec_NodeOk_b1 n s) 0).bind fun x => x.go (fun r => some r) fun s => spec_NodeOk_k2))))))))))))))
theorem spec_NodeOk_ok {n : TNode} (r : Bool) (h : spec_NodeOk n = some r) : ACalls cx.P 32 [.agg (eNode n)] (spec_NodeOk_R r) (spec_NodeOk_O r) :=
  ACalls.of (cx := cx) (X := spec_NodeOk_X) (c := spec_NodeOk_c) Tryz.func32 (by kernel_rfl) (by kernel_rfl) (by kernel_rfl) (P0 <|
 rg2 <| cdD 3 h (fun h =>
 rg <| fe Tryz.func32 h) (fun h =>
 cdD 8 h (fun h =>
 rg <| fe Tryz.func32 h) (fun h =>
 cb spec_AccOk_t spec_AccOk_ok 11 false h fun accOk h =>
 cdD 14 h (fun h =>
 rg <| fe Tryz.func32 h) (fun h =>
 cb spec_l8Known_t spec_l8Known_ok 17 false h fun l8Known h =>
 cdD 20 h (fun h =>
 rg <| fe Tryz.func32 h) (fun h =>
 cdD 25 h (fun h =>
 rg <| fe Tryz.func32 h) (fun h =>
 cdD 30 h (fun h =>
 rg <| fe Tryz.func32 h) (fun h =>
 cdD 36 h (fun h =>
 rg <| fe Tryz.func32 h) (fun h =>
 cb spec_l8Lead_t spec_l8Lead_ok 38 false h fun l8Lead h =>
 cdD 41 h (fun h =>
 rg <| fe Tryz.func32 h) (fun h =>
 cb spec_l8Wants_t spec_l8Wants_ok 43 false h fun l8Wants h =>
 cdD 45 h (fun h =>
 rg <| fe Tryz.func32 h) (fun h =>
 rg <| loopJ h fun x hl hr hb => sg [] [1, 3] [(1, 0)] (loopD (I := fun s : Int => Fin cx spec_NodeOk_X (spec_NodeOk_R r) (spec_NodeOk_O r) spec_NodeOk_k3 (spec_NodeOk_S2 n s)) hl fun s st h hc => spec_NodeOk_b1_ok n _ _ x (fun s e => spec_NodeOk_k2_ok r (hb s e)) (fun v e => ⟨congrArg spec_NodeOk_R (Option.some.inj (hr v e)).symm, congrArg spec_NodeOk_O (Option.some.inj (hr v e)).symm⟩) st hc s h)))))))))))

/-! ### spec_MsgOk -/
noncomputable def spec_MsgOk_c : Code := bodyOf Tryz.f33
noncomputable def spec_MsgOk_X : Sig := { f := 33, fn := Tryz.f33, rms := [.val [] []], oms := [none] }
noncomputable def spec_MsgOk_R (r : Bool) : V := .b r
noncomputable def spec_MsgOk_O (r : Bool) : List (Option V) := [none]
noncomputable def spec_MsgOk_t (i : Nat) (fr : Bool) (r : Bool) : Nat × Tell := (i, { a := .call [.val ck104 []] fr (spec_MsgOk_R r) (spec_MsgOk_O r) })
noncomputable def spec_MsgOk_k1 : List Item := posI 2000 2 [false] [.code spec_MsgOk_c]
noncomputable def spec_MsgOk_S1 (m : TMsg) : St := ⟨(bs 1 (.ptr 1 0 0 :: (bs 158 []))), [some [], some [.var 104 [vi m.Kind, vi m.From, vi m.To, vi m.Bal, vi m.Slot, .b m.Entry.None, vi m.Entry.Req.Who, vi m.Entry.Req.Seq, vsl 2 eRead m.Entry.Run.Reads, vsl 2 ePut m.Entry.Run.Puts, vi m.Entry.Run.Val, vi m.Entry.Run.Code, vsl 8 eVote m.Votes]]]⟩
noncomputable def spec_MsgOk_k2 : List Item := posI 2000 4 [false] [.code spec_MsgOk_c]
noncomputable def spec_MsgOk_S2 (m : TMsg) (l7None : Bool) (right : Bool) : St := ⟨(bs 1 (.ptr 1 0 0 :: (bs 1 (.b l7None :: (.b right :: (bs 155 [])))))), [some [], some [.var 104 [vi m.Kind, vi m.From, vi m.To, vi m.Bal, vi m.Slot, .b m.Entry.None, vi m.Entry.Req.Who, vi m.Entry.Req.Seq, vsl 2 eRead m.Entry.Run.Reads, vsl 2 ePut m.Entry.Run.Puts, vi m.Entry.Run.Val, vi m.Entry.Run.Code, vsl 8 eVote m.Votes]]]⟩
noncomputable def spec_MsgOk_j1 (m : TMsg) (l7None : Bool) (right : Bool) : Option Bool :=
  (bif (m.Kind == 1) then
 ((spec_l6Bal m.Bal).bind fun l6Bal =>
 (bif l6Bal then
 some l7None
 else
 some false))
 else
 (bif (m.Kind == 2) then
 ((spec_l6Bal m.Bal).bind fun l6Bal1 =>
 (bif l6Bal1 then
 (bif l7None then
 ((spec_l6Votes m.Votes).bind fun l6Votes =>
 (bif l6Votes then
 some (decide ((w64 (m.Slot + (m.Votes.length : Int))) ≤ 40))
 else
 some false))
 else
 some false)
 else
 some false))
 else
 (bif (m.Kind == 3) then
 ((spec_l6Bal m.Bal).bind fun l6Bal2 =>
 (bif l6Bal2 then
 some right
 else
 some false))
 else
 (bif (m.Kind == 4) then
 ((spec_l6Bal m.Bal).bind fun l6Bal3 =>
 (bif l6Bal3 then
 some l7None
 else
 some false))
 else
 (bif (m.Kind == 5) then
 (bif (m.Bal == 0) then
 some right
 else
 some false)
 else
 (bif (m.Kind == 6) then
 ((spec_l6Bal m.Bal).bind fun l6Bal4 =>
 (bif l6Bal4 then
 (bif l7None then
 some (m.Slot == 0)
 else
 some false)
 else
 some false))
 else
 (bif (m.Kind == 7) then
 (bif (m.Bal == 0) then
 (bif (m.Slot == 0) then
 ((spec_CertEntry m.Entry).bind fun certEntry =>
 (bif certEntry then
 some (!m.Entry.None)
 else
 some false))
 else
 some false)
 else
 some false)
 else
 (bif (m.Kind == 8) then
 (bif (m.Bal == 0) then
 some l7None
 else
 some false)
 else
 some false))))))))
theorem spec_MsgOk_j1_ok (m : TMsg) (l7None : Bool) (r : Bool) (right : Bool) (h : spec_MsgOk_j1 m l7None right = some r) : Fin cx spec_MsgOk_X (spec_MsgOk_R r) (spec_MsgOk_O r) spec_MsgOk_k2 (spec_MsgOk_S2 m l7None right) :=
  P0 <|
 rg2 <| cdD 1 h (fun h =>
 rg <| cb spec_l6Bal_t spec_l6Bal_ok 2 false h fun l6Bal h =>
 cdD 3 h (fun h =>
 fe Tryz.func33 h) (fun h =>
 fe Tryz.func33 h)) (fun h =>
 rg <| cdD 1 h (fun h =>
 rg <| cb spec_l6Bal_t spec_l6Bal_ok 2 false h fun l6Bal1 h =>
 cdD 3 h (fun h =>
 cdD 6 h (fun h =>
 cb spec_l6Votes_t spec_l6Votes_ok 9 false h fun l6Votes h =>
 cdD 11 h (fun h =>
 fe Tryz.func33 h) (fun h =>
 fe Tryz.func33 h)) (fun h =>
 fe Tryz.func33 h)) (fun h =>
 fe Tryz.func33 h)) (fun h =>
 rg <| cdD 1 h (fun h =>
 rg <| cb spec_l6Bal_t spec_l6Bal_ok 2 false h fun l6Bal2 h =>
 cdD 3 h (fun h =>
 fe Tryz.func33 h) (fun h =>
 fe Tryz.func33 h)) (fun h =>
 rg <| cdD 1 h (fun h =>
 rg <| cb spec_l6Bal_t spec_l6Bal_ok 2 false h fun l6Bal3 h =>
 cdD 3 h (fun h =>
 fe Tryz.func33 h) (fun h =>
 fe Tryz.func33 h)) (fun h =>
 rg <| cdD 1 h (fun h =>
 rg <| cdD 3 h (fun h =>
 fe Tryz.func33 h) (fun h =>
 fe Tryz.func33 h)) (fun h =>
 rg <| cdD 1 h (fun h =>
 rg <| cb spec_l6Bal_t spec_l6Bal_ok 2 false h fun l6Bal4 h =>
 cdD 3 h (fun h =>
 cdD 6 h (fun h =>
 fe Tryz.func33 h) (fun h =>
 fe Tryz.func33 h)) (fun h =>
 fe Tryz.func33 h)) (fun h =>
 rg <| cdD 1 h (fun h =>
 rg <| cdD 3 h (fun h =>
 cdD 8 h (fun h =>
 cb spec_CertEntry_t spec_CertEntry_ok 11 false h fun certEntry h =>
 cdD 13 h (fun h =>
 fe Tryz.func33 h) (fun h =>
 fe Tryz.func33 h)) (fun h =>
 fe Tryz.func33 h)) (fun h =>
 fe Tryz.func33 h)) (fun h =>
 rg <| cdD 1 h (fun h =>
 rg <| cdD 3 h (fun h =>
 fe Tryz.func33 h) (fun h =>
 fe Tryz.func33 h)) (fun h =>
 rg <| fe Tryz.func33 h))))))))
noncomputable def spec_MsgOk_j2 (m : TMsg) : Option Bool :=
  ((spec_l7None m.Entry).bind fun l7None =>
 ((((spec_CertEntry m.Entry).bind fun certEntry1 =>
 (bif certEntry1 then
 some (Exc.brk (decide (m.Slot < 40)))
 else
 some (Exc.brk false))) : Option (Exc Bool Bool)).bind fun x => x.go some fun j => spec_MsgOk_j1 m l7None j))
theorem spec_MsgOk_j2_ok (m : TMsg) (r : Bool) (h : spec_MsgOk_j2 m = some r) : Fin cx spec_MsgOk_X (spec_MsgOk_R r) (spec_MsgOk_O r) spec_MsgOk_k1 (spec_MsgOk_S1 m) :=
  P0 <|
 rg <| cb spec_l7None_t spec_l7None_ok 2 false h fun l7None h =>
 joinD (I := fun j : Bool => Fin cx spec_MsgOk_X (spec_MsgOk_R r) (spec_MsgOk_O r) spec_MsgOk_k2 (spec_MsgOk_S2 m l7None j)) h (fun j h => spec_MsgOk_j1_ok m l7None r j h) (fun x1 h hc1 =>
  rg <| cb spec_CertEntry_t spec_CertEntry_ok 2 false h fun certEntry1 h =>
 cdD 3 h (fun h =>
 (jbrkD h hc1 fun hI => sg [] [1, 3, 4] [(1, 0)] hI)) (fun h =>
 (jbrkD h hc1 fun hI => sg [] [1, 3, 4] [(1, 0)] hI)))
noncomputable def spec_MsgOk (m : TMsg) : Option Bool :=
  (((bif decide (m.From < 0) then
 some (Exc.ret false)
 else
 (bif decide (m.From ≥ 3) then
 some (Exc.ret false)
 else
 (bif decide (m.To < 0) then
 some (Exc.ret false)
 else
 (bif decide (m.To ≥ 3) then
 some (Exc.ret false)
 else
 (bif (m.From == m.To) then
 some (Exc.ret false)
 else
 (bif decide (m.Slot < 0) then
 some (Exc.ret false)
 else
 (bif decide (m.Slot > 40) then
 some (Exc.ret false)
 else
 (bif (m.Kind != 2) then
 (bif decide ((m.Votes.length : Int) > 0) then
 some (Exc.ret false)
 else
 some (Exc.brk ()))
 else
 some (Exc.brk ()))))))))) : Option (Exc Bool Unit)).bind fun x => x.go some fun j => spec_MsgOk_j2 m)
theorem spec_MsgOk_ok {m : TMsg} (r : Bool) (h : spec_MsgOk m = some r) : ACalls cx.P 33 [.agg (eMsg m)] (spec_MsgOk_R r) (spec_MsgOk_O r) :=
  ACalls.of (cx := cx) (X := spec_MsgOk_X) (c := spec_MsgOk_c) Tryz.func33 (by kernel_rfl) (by kernel_rfl) (by kernel_rfl) (P0 <|
 rg <| joinD (I := fun j : Unit => Fin cx spec_MsgOk_X (spec_MsgOk_R r) (spec_MsgOk_O r) spec_MsgOk_k1 (spec_MsgOk_S1 m)) h (fun j h => spec_MsgOk_j2_ok m r h) (fun x1 h hc1 =>
  rg <| cdD 3 h (fun h =>
 rg <| (jretD h hc1 fun h => fe Tryz.func33 h)) (fun h =>
 cdD 8 h (fun h =>
 rg <| (jretD h hc1 fun h => fe Tryz.func33 h)) (fun h =>
 cdD 13 h (fun h =>
 rg <| (jretD h hc1 fun h => fe Tryz.func33 h)) (fun h =>
 cdD 18 h (fun h =>
 rg <| (jretD h hc1 fun h => fe Tryz.func33 h)) (fun h =>
 cdD 25 h (fun h =>
 rg <| (jretD h hc1 fun h => fe Tryz.func33 h)) (fun h =>
 cdD 30 h (fun h =>
 rg <| (jretD h hc1 fun h => fe Tryz.func33 h)) (fun h =>
 cdD 35 h (fun h =>
 rg <| (jretD h hc1 fun h => fe Tryz.func33 h)) (fun h =>
 cdD 39 h (fun h =>
 cdD 45 h (fun h =>
 rg <| (jretD h hc1 fun h => fe Tryz.func33 h)) (fun h =>
 (jbrkD h hc1 fun hI => sg [] [1] [(1, 0)] hI))) (fun h =>
 (jbrkD h hc1 fun hI => sg [] [1] [(1, 0)] hI)))))))))))

/-! ### spec_l9Told -/
noncomputable def spec_l9Told_c : Code := bodyOf Tryz.f36
noncomputable def spec_l9Told_X : Sig := { f := 36, fn := Tryz.f36, rms := [.val [] []], oms := [none] }
noncomputable def spec_l9Told_R (r : Bool) : V := .b r
noncomputable def spec_l9Told_O (r : Bool) : List (Option V) := [none]
noncomputable def spec_l9Told_t (i : Nat) (fr : Bool) (r : Bool) : Nat × Tell := (i, { a := .call [.val [] []] fr (spec_l9Told_R r) (spec_l9Told_O r) })
noncomputable def spec_l9Told (a : TTold) : Option Bool :=
  (bif decide (a.Node ≥ 0) then
 (bif decide (a.Node < 3) then
 ((spec_l5Req a.Req).bind fun l5Req =>
 (bif l5Req then
 (bif (a.Req.Who == a.Node) then
 (bif decide (a.Code ≥ 0) then
 (bif decide (a.Code ≤ 4) then
 ((spec_l1Num a.Val).bind fun l1Num =>
 some l1Num)
 else
 some false)
 else
 some false)
 else
 some false)
 else
 some false))
 else
 some false)
 else
 some false)
theorem spec_l9Told_ok {a : TTold} (r : Bool) (h : spec_l9Told a = some r) : ACalls cx.P 36 [.agg (eTold a)] (spec_l9Told_R r) (spec_l9Told_O r) :=
  ACalls.of (cx := cx) (X := spec_l9Told_X) (c := spec_l9Told_c) Tryz.func36 (by kernel_rfl) (by kernel_rfl) (by kernel_rfl) (P0 <|
 rg2 <| cdD 3 h (fun h =>
 cdD 8 h (fun h =>
 cb spec_l5Req_t spec_l5Req_ok 11 false h fun l5Req h =>
 cdD 13 h (fun h =>
 cdD 21 h (fun h =>
 cdD 26 h (fun h =>
 cdD 31 h (fun h =>
 cb spec_l1Num_t spec_l1Num_ok 34 false h fun l1Num h =>
 fe Tryz.func36 h) (fun h =>
 fe Tryz.func36 h)) (fun h =>
 fe Tryz.func36 h)) (fun h =>
 fe Tryz.func36 h)) (fun h =>
 fe Tryz.func36 h)) (fun h =>
 fe Tryz.func36 h)) (fun h =>
 fe Tryz.func36 h))

/-! ### spec_WorldOk -/
noncomputable def spec_WorldOk_c : Code := bodyOf Tryz.f13
noncomputable def spec_WorldOk_X : Sig := { f := 13, fn := Tryz.f13, rms := [.val [] []], oms := [none] }
noncomputable def spec_WorldOk_R (r : Bool) : V := .b r
noncomputable def spec_WorldOk_O (r : Bool) : List (Option V) := [none]
noncomputable def spec_WorldOk_t (i : Nat) (fr : Bool) (r : Bool) : Nat × Tell := (i, { a := .call [.val ck35 []] fr (spec_WorldOk_R r) (spec_WorldOk_O r) })
noncomputable def spec_WorldOk_k1 : List Item := posI 2000 4 [false, false] [.code spec_WorldOk_c]
noncomputable def spec_WorldOk_S1 (w : TWorld) : St := ⟨(bs 1 (.ptr 1 0 0 :: (bs 104 []))), [some [], some [.var 35 [vsl 27 eNode w.Nodes, vsl 13 eMsg w.Net, vsl 3 eAsked w.Asked, vsl 5 eTold w.Told]]]⟩
noncomputable def spec_WorldOk_k2 : List Item := posI 2000 6 [false, false, false] [.code spec_WorldOk_c]
noncomputable def spec_WorldOk_S2 (w : TWorld) : St := ⟨(bs 1 (.ptr 1 0 0 :: (bs 104 []))), [some [], some [.var 35 [vsl 27 eNode w.Nodes, vsl 13 eMsg w.Net, vsl 3 eAsked w.Asked, vsl 5 eTold w.Told]]]⟩
noncomputable def spec_WorldOk_k3 : List Item := posI 2000 8 [false, false, false, false] [.code spec_WorldOk_c]
noncomputable def spec_WorldOk_S3 (w : TWorld) : St := ⟨(bs 1 (.ptr 1 0 0 :: (bs 104 []))), [some [], some [.var 35 [vsl 27 eNode w.Nodes, vsl 13 eMsg w.Net, vsl 3 eAsked w.Asked, vsl 5 eTold w.Told]]]⟩
noncomputable def spec_WorldOk_k4 : List Item := posI 2000 10 [false, false, false, false, false] [.code spec_WorldOk_c]
noncomputable def spec_WorldOk_S4 : St := ⟨(bs 106 []), [some []]⟩
noncomputable def spec_WorldOk_k5 : Option Bool :=
  some true
theorem spec_WorldOk_k5_ok (r : Bool) (h : spec_WorldOk_k5 = some r) : Fin cx spec_WorldOk_X (spec_WorldOk_R r) (spec_WorldOk_O r) spec_WorldOk_k4 (spec_WorldOk_S4) :=
  P0 <|
 rg <| fe Tryz.func13 h
noncomputable def spec_WorldOk_k6 : List Item := posI 2000 9 [false, false, false, false] [.code spec_WorldOk_c]
noncomputable def spec_WorldOk_S5 (w : TWorld) (i3 : Int) : St := ⟨(bs 1 (.ptr 1 0 0 :: (bs 4 (vi i3 :: (bs 99 []))))), [some [], some [.var 35 [vsl 27 eNode w.Nodes, vsl 13 eMsg w.Net, vsl 3 eAsked w.Asked, vsl 5 eTold w.Told]]]⟩
noncomputable def spec_WorldOk_b1 (w : TWorld) (i3 : Int) : Option (Stp Bool Int Unit) :=
  (bif decide (i3 < (w.Told.length : Int)) then
 ((idx w.Told i3).bind fun told =>
 ((spec_l9Told told).bind fun l9Told =>
 (bif (!l9Told) then
 some (Stp.ret false)
 else
 some (Stp.nxt (w64 (i3 + 1))))))
 else
 some (Stp.brk ()))
theorem spec_WorldOk_b1_ok (w : TWorld) (res : V) (outs : List (Option V)) (x1 : Exc Bool Unit) (hb1 : HB cx spec_WorldOk_X res outs x1 spec_WorldOk_k4 (fun s => spec_WorldOk_S4)) (hr1 : HR res outs x1 spec_WorldOk_R spec_WorldOk_O) (st1 : Stp Bool Int Unit) (hc1 : Cont x1 (fun s : Int => Fin cx spec_WorldOk_X res outs spec_WorldOk_k6 (spec_WorldOk_S5 w s)) st1) (i3 : Int) (h : spec_WorldOk_b1 w i3 = some st1) : Fin cx spec_WorldOk_X res outs spec_WorldOk_k6 (spec_WorldOk_S5 w i3) :=
  P0 <|
 rg <| cdD 4 h (fun h =>
 rg <| ixS eTold 3 h fun told htold h =>
 cb spec_l9Told_t spec_l9Told_ok 5 false h fun l9Told h =>
 cdD 6 h (fun h =>
 rg <| (retD h hc1 fun e => fn0 Tryz.func13 (hr1 _ e))) (fun h =>
 rg <| (nxtD h hc1 fun hI => sg [] [1, 6] [(1, 0)] hI))) (fun h =>
 (brkD h hc1 fun e => sg [] [] [] (hb1 _ e)))
noncomputable def spec_WorldOk_k7 (w : TWorld) : Option Bool :=
  ((loop (fun s : Int => spec_WorldOk_b1 w s) 0).bind fun x => x.go (fun r => some r) fun s => spec_WorldOk_k5)
theorem spec_WorldOk_k7_ok (w : TWorld) (r : Bool) (h : spec_WorldOk_k7 w = some r) : Fin cx spec_WorldOk_X (spec_WorldOk_R r) (spec_WorldOk_O r) spec_WorldOk_k3 (spec_WorldOk_S3 w) :=
  P0 <|
 rg <| loopJ h fun x hl hr hb => sg [] [1, 6] [(1, 0)] (loopD (I := fun s : Int => Fin cx spec_WorldOk_X (spec_WorldOk_R r) (spec_WorldOk_O r) spec_WorldOk_k6 (spec_WorldOk_S5 w s)) hl fun s st h hc => spec_WorldOk_b1_ok w _ _ x (fun s e => spec_WorldOk_k5_ok r (hb s e)) (fun v e => ⟨congrArg spec_WorldOk_R (Option.some.inj (hr v e)).symm, congrArg spec_WorldOk_O (Option.some.inj (hr v e)).symm⟩) st hc s h)
noncomputable def spec_WorldOk_k8 : List Item := posI 2000 7 [false, false, false] [.code spec_WorldOk_c]
noncomputable def spec_WorldOk_S6 (w : TWorld) (i2 : Int) : St := ⟨(bs 1 (.ptr 1 0 0 :: (bs 3 (vi i2 :: (bs 100 []))))), [some [], some [.var 35 [vsl 27 eNode w.Nodes, vsl 13 eMsg w.Net, vsl 3 eAsked w.Asked, vsl 5 eTold w.Told]]]⟩
noncomputable def spec_WorldOk_b2 (w : TWorld) (i2 : Int) : Option (Stp Bool Int Unit) :=
  (bif decide (i2 < (w.Asked.length : Int)) then
 ((idx w.Asked i2).bind fun asked =>
 ((spec_l5Req asked.Req).bind fun l5Req =>
 (bif (!l5Req) then
 some (Stp.ret false)
 else
 ((spec_ProgOk asked.Prog).bind fun progOk =>
 (bif (!progOk) then
 some (Stp.ret false)
 else
 some (Stp.nxt (w64 (i2 + 1))))))))
 else
 some (Stp.brk ()))
theorem spec_WorldOk_b2_ok (w : TWorld) (res : V) (outs : List (Option V)) (x1 : Exc Bool Unit) (hb1 : HB cx spec_WorldOk_X res outs x1 spec_WorldOk_k3 (fun s => spec_WorldOk_S3 w)) (hr1 : HR res outs x1 spec_WorldOk_R spec_WorldOk_O) (st1 : Stp Bool Int Unit) (hc1 : Cont x1 (fun s : Int => Fin cx spec_WorldOk_X res outs spec_WorldOk_k8 (spec_WorldOk_S6 w s)) st1) (i2 : Int) (h : spec_WorldOk_b2 w i2 = some st1) : Fin cx spec_WorldOk_X res outs spec_WorldOk_k8 (spec_WorldOk_S6 w i2) :=
  P0 <|
 rg <| cdD 4 h (fun h =>
 rg <| ixS eAsked 3 h fun asked hasked h =>
 cb spec_l5Req_t spec_l5Req_ok 6 false h fun l5Req h =>
 cdD 8 h (fun h =>
 rg <| (retD h hc1 fun e => fn0 Tryz.func13 (hr1 _ e))) (fun h =>
 ixR eAsked 12 hasked <| cb spec_ProgOk_t spec_ProgOk_ok 15 false h fun progOk h =>
 cdD 17 h (fun h =>
 rg <| (retD h hc1 fun e => fn0 Tryz.func13 (hr1 _ e))) (fun h =>
 rg <| (nxtD h hc1 fun hI => sg [] [1, 5] [(1, 0)] hI)))) (fun h =>
 (brkD h hc1 fun e => sg [] [1] [(1, 0)] (hb1 _ e)))
noncomputable def spec_WorldOk_k9 (w : TWorld) : Option Bool :=
  ((loop (fun s : Int => spec_WorldOk_b2 w s) 0).bind fun x => x.go (fun r => some r) fun s => spec_WorldOk_k7 w)
theorem spec_WorldOk_k9_ok (w : TWorld) (r : Bool) (h : spec_WorldOk_k9 w = some r) : Fin cx spec_WorldOk_X (spec_WorldOk_R r) (spec_WorldOk_O r) spec_WorldOk_k2 (spec_WorldOk_S2 w) :=
  P0 <|
 rg <| loopJ h fun x hl hr hb => sg [] [1, 5] [(1, 0)] (loopD (I := fun s : Int => Fin cx spec_WorldOk_X (spec_WorldOk_R r) (spec_WorldOk_O r) spec_WorldOk_k8 (spec_WorldOk_S6 w s)) hl fun s st h hc => spec_WorldOk_b2_ok w _ _ x (fun s e => spec_WorldOk_k7_ok w r (hb s e)) (fun v e => ⟨congrArg spec_WorldOk_R (Option.some.inj (hr v e)).symm, congrArg spec_WorldOk_O (Option.some.inj (hr v e)).symm⟩) st hc s h)
noncomputable def spec_WorldOk_k10 : List Item := posI 2000 5 [false, false] [.code spec_WorldOk_c]
noncomputable def spec_WorldOk_S7 (w : TWorld) (i1 : Int) : St := ⟨(bs 1 (.ptr 1 0 0 :: (bs 2 (vi i1 :: (bs 101 []))))), [some [], some [.var 35 [vsl 27 eNode w.Nodes, vsl 13 eMsg w.Net, vsl 3 eAsked w.Asked, vsl 5 eTold w.Told]]]⟩
noncomputable def spec_WorldOk_b3 (w : TWorld) (i1 : Int) : Option (Stp Bool Int Unit) :=
  (bif decide (i1 < (w.Net.length : Int)) then
 ((idx w.Net i1).bind fun msg =>
 ((spec_MsgOk msg).bind fun msgOk =>
 (bif (!msgOk) then
 some (Stp.ret false)
 else
 some (Stp.nxt (w64 (i1 + 1))))))
 else
 some (Stp.brk ()))
theorem spec_WorldOk_b3_ok (w : TWorld) (res : V) (outs : List (Option V)) (x1 : Exc Bool Unit) (hb1 : HB cx spec_WorldOk_X res outs x1 spec_WorldOk_k2 (fun s => spec_WorldOk_S2 w)) (hr1 : HR res outs x1 spec_WorldOk_R spec_WorldOk_O) (st1 : Stp Bool Int Unit) (hc1 : Cont x1 (fun s : Int => Fin cx spec_WorldOk_X res outs spec_WorldOk_k10 (spec_WorldOk_S7 w s)) st1) (i1 : Int) (h : spec_WorldOk_b3 w i1 = some st1) : Fin cx spec_WorldOk_X res outs spec_WorldOk_k10 (spec_WorldOk_S7 w i1) :=
  P0 <|
 rg <| cdD 4 h (fun h =>
 rg <| ixS eMsg 3 h fun msg hmsg h =>
 cb spec_MsgOk_t spec_MsgOk_ok 5 false h fun msgOk h =>
 cdD 6 h (fun h =>
 rg <| (retD h hc1 fun e => fn0 Tryz.func13 (hr1 _ e))) (fun h =>
 rg <| (nxtD h hc1 fun hI => sg [] [1, 4] [(1, 0)] hI))) (fun h =>
 (brkD h hc1 fun e => sg [] [1] [(1, 0)] (hb1 _ e)))
noncomputable def spec_WorldOk_k11 (w : TWorld) : Option Bool :=
  ((loop (fun s : Int => spec_WorldOk_b3 w s) 0).bind fun x => x.go (fun r => some r) fun s => spec_WorldOk_k9 w)
theorem spec_WorldOk_k11_ok (w : TWorld) (r : Bool) (h : spec_WorldOk_k11 w = some r) : Fin cx spec_WorldOk_X (spec_WorldOk_R r) (spec_WorldOk_O r) spec_WorldOk_k1 (spec_WorldOk_S1 w) :=
  P0 <|
 rg <| loopJ h fun x hl hr hb => sg [] [1, 4] [(1, 0)] (loopD (I := fun s : Int => Fin cx spec_WorldOk_X (spec_WorldOk_R r) (spec_WorldOk_O r) spec_WorldOk_k10 (spec_WorldOk_S7 w s)) hl fun s st h hc => spec_WorldOk_b3_ok w _ _ x (fun s e => spec_WorldOk_k9_ok w r (hb s e)) (fun v e => ⟨congrArg spec_WorldOk_R (Option.some.inj (hr v e)).symm, congrArg spec_WorldOk_O (Option.some.inj (hr v e)).symm⟩) st hc s h)
noncomputable def spec_WorldOk_k12 : List Item := posI 2000 3 [false] [.code spec_WorldOk_c]
noncomputable def spec_WorldOk_S8 (w : TWorld) (i : Int) : St := ⟨(bs 1 (.ptr 1 0 0 :: (bs 1 (vi i :: (bs 102 []))))), [some [], some [.var 35 [vsl 27 eNode w.Nodes, vsl 13 eMsg w.Net, vsl 3 eAsked w.Asked, vsl 5 eTold w.Told]]]⟩
noncomputable def spec_WorldOk_b4 (w : TWorld) (i : Int) : Option (Stp Bool Int Unit) :=
  (bif decide (i < (w.Nodes.length : Int)) then
 ((idx w.Nodes i).bind fun node =>
 (bif (node.Id != i) then
 some (Stp.ret false)
 else
 ((spec_NodeOk node).bind fun nodeOk =>
 (bif (!nodeOk) then
 some (Stp.ret false)
 else
 some (Stp.nxt (w64 (i + 1)))))))
 else
 some (Stp.brk ()))
theorem spec_WorldOk_b4_ok (w : TWorld) (res : V) (outs : List (Option V)) (x1 : Exc Bool Unit) (hb1 : HB cx spec_WorldOk_X res outs x1 spec_WorldOk_k1 (fun s => spec_WorldOk_S1 w)) (hr1 : HR res outs x1 spec_WorldOk_R spec_WorldOk_O) (st1 : Stp Bool Int Unit) (hc1 : Cont x1 (fun s : Int => Fin cx spec_WorldOk_X res outs spec_WorldOk_k12 (spec_WorldOk_S8 w s)) st1) (i : Int) (h : spec_WorldOk_b4 w i = some st1) : Fin cx spec_WorldOk_X res outs spec_WorldOk_k12 (spec_WorldOk_S8 w i) :=
  P0 <|
 rg <| cdD 4 h (fun h =>
 rg <| ixS eNode 3 h fun node hnode h =>
 cdD 8 h (fun h =>
 rg <| (retD h hc1 fun e => fn0 Tryz.func13 (hr1 _ e))) (fun h =>
 ixR eNode 12 hnode <| cb spec_NodeOk_t spec_NodeOk_ok 14 false h fun nodeOk h =>
 cdD 16 h (fun h =>
 rg <| (retD h hc1 fun e => fn0 Tryz.func13 (hr1 _ e))) (fun h =>
 rg <| (nxtD h hc1 fun hI => sg [] [1, 3] [(1, 0)] hI)))) (fun h =>
 (brkD h hc1 fun e => sg [] [1] [(1, 0)] (hb1 _ e)))
noncomputable def spec_WorldOk (w : TWorld) : Option Bool :=
  (bif ((w.Nodes.length : Int) != 3) then
 some false
 else
 (bif decide ((w.Net.length : Int) > 40) then
 some false
 else
 (bif decide ((w.Asked.length : Int) > 60) then
 some false
 else
 (bif decide ((w.Told.length : Int) > 60) then
 some false
 else
 ((loop (fun s : Int => spec_WorldOk_b4 w s) 0).bind fun x => x.go (fun r => some r) fun s => spec_WorldOk_k11 w)))))
theorem spec_WorldOk_ok {w : TWorld} (r : Bool) (h : spec_WorldOk w = some r) : ACalls cx.P 13 [.agg (eWorld w)] (spec_WorldOk_R r) (spec_WorldOk_O r) :=
  ACalls.of (cx := cx) (X := spec_WorldOk_X) (c := spec_WorldOk_c) Tryz.func13 (by kernel_rfl) (by kernel_rfl) (by kernel_rfl) (P0 <|
 rg2 <| cdD 4 h (fun h =>
 rg <| fe Tryz.func13 h) (fun h =>
 cdD 10 h (fun h =>
 rg <| fe Tryz.func13 h) (fun h =>
 cdD 16 h (fun h =>
 rg <| fe Tryz.func13 h) (fun h =>
 cdD 21 h (fun h =>
 rg <| fe Tryz.func13 h) (fun h =>
 rg <| loopJ h fun x hl hr hb => sg [] [1, 3] [(1, 0)] (loopD (I := fun s : Int => Fin cx spec_WorldOk_X (spec_WorldOk_R r) (spec_WorldOk_O r) spec_WorldOk_k12 (spec_WorldOk_S8 w s)) hl fun s st h hc => spec_WorldOk_b4_ok w _ _ x (fun s e => spec_WorldOk_k11_ok w r (hb s e)) (fun v e => ⟨congrArg spec_WorldOk_R (Option.some.inj (hr v e)).symm, congrArg spec_WorldOk_O (Option.some.inj (hr v e)).symm⟩) st hc s h))))))

/-! ### spec_l3Copy -/
noncomputable def spec_l3Copy_c : Code := bodyOf Tryz.f115
noncomputable def spec_l3Copy_X : Sig := { f := 115, fn := Tryz.f115, rms := [.val ck66 []], oms := [none] }
noncomputable def spec_l3Copy_R (r : TRun) : V := .agg (eRun r)
noncomputable def spec_l3Copy_O (r : TRun) : List (Option V) := [none]
noncomputable def spec_l3Copy_t (i : Nat) (fr : Bool) (r : TRun) : Nat × Tell := (i, { a := .call [.val ck66 []] fr (spec_l3Copy_R r) (spec_l3Copy_O r) })
noncomputable def spec_l3Copy (r_ : TRun) : Option TRun :=
  (need ((([] : List TRead).length + r_.Reads.length) * 16 ≤ 140737488355328)
 ((need ((([] : List TPut).length + r_.Puts.length) * 16 ≤ 140737488355328)
 (some (TRun.mk (([] : List TRead) ++ r_.Reads) (([] : List TPut) ++ r_.Puts) r_.Val r_.Code)))))
theorem spec_l3Copy_ok {r_ : TRun} (r : TRun) (h : spec_l3Copy r_ = some r) : ACalls cx.P 115 [.agg (eRun r_)] (spec_l3Copy_R r) (spec_l3Copy_O r) :=
  ACalls.of (cx := cx) (X := spec_l3Copy_X) (c := spec_l3Copy_c) Tryz.func115 (by kernel_rfl) (by kernel_rfl) (by kernel_rfl) (P0 <|
 rg2 <| tl (0, { a := .ck [] }) <| needD h fun e1 h =>
 om (V.own 6 0 2 0 (([] : List TRead).length + r_.Reads.length) = .own 6 0 2 0 (([] : List TRead) ++ r_.Reads).length) (by first | exact congrArg (V.own 6 0 2 0) List.length_append.symm | simp) <| om (Ent.row 180 2 (([] : List TRead).length + r_.Reads.length) (([] : List TRead).map eRead ++ r_.Reads.map eRead) = erow 180 2 eRead (([] : List TRead) ++ r_.Reads)) (by first | exact row_apps rfl rfl | simp [erow]) <| om (0 = ([] : List TRead).length) (by rfl) <| ob e1 <| tl (3, { v := some (.own 6 0 2 0 (([] : List TRead) ++ r_.Reads).length), e := some (erow 180 2 eRead (([] : List TRead) ++ r_.Reads)) }) <| tl (4, { a := .ck [] }) <| needD h fun e2 h =>
 om (V.own 10 0 2 0 (([] : List TPut).length + r_.Puts.length) = .own 10 0 2 0 (([] : List TPut) ++ r_.Puts).length) (by first | exact congrArg (V.own 10 0 2 0) List.length_append.symm | simp) <| om (Ent.row 182 2 (([] : List TPut).length + r_.Puts.length) (([] : List TPut).map ePut ++ r_.Puts.map ePut) = erow 182 2 ePut (([] : List TPut) ++ r_.Puts)) (by first | exact row_apps rfl rfl | simp [erow]) <| om (0 = ([] : List TPut).length) (by rfl) <| ob e2 <| tl (7, { v := some (.own 10 0 2 0 (([] : List TPut) ++ r_.Puts).length), e := some (erow 182 2 ePut (([] : List TPut) ++ r_.Puts)) }) <| om ((([] : List TRead) ++ r_.Reads).length = (([] : List TRead) ++ r_.Reads).length) rfl <| om ((([] : List TPut) ++ r_.Puts).length = (([] : List TPut) ++ r_.Puts).length) rfl <| fe Tryz.func115 h)

/-! ### spec_l5Entry -/
noncomputable def spec_l5Entry_c : Code := bodyOf Tryz.f72
noncomputable def spec_l5Entry_X : Sig := { f := 72, fn := Tryz.f72, rms := [.val ck68 []], oms := [none] }
noncomputable def spec_l5Entry_R (r : TEntry) : V := .agg (eEntry r)
noncomputable def spec_l5Entry_O (r : TEntry) : List (Option V) := [none]
noncomputable def spec_l5Entry_t (i : Nat) (fr : Bool) (r : TEntry) : Nat × Tell := (i, { a := .call [.val ck68 []] fr (spec_l5Entry_R r) (spec_l5Entry_O r) })
noncomputable def spec_l5Entry (e_ : TEntry) : Option TEntry :=
  ((spec_l3Copy e_.Run).bind fun l3Copy =>
 some (TEntry.mk e_.None e_.Req l3Copy))
theorem spec_l5Entry_ok {e_ : TEntry} (r : TEntry) (h : spec_l5Entry e_ = some r) : ACalls cx.P 72 [.agg (eEntry e_)] (spec_l5Entry_R r) (spec_l5Entry_O r) :=
  ACalls.of (cx := cx) (X := spec_l5Entry_X) (c := spec_l5Entry_c) Tryz.func72 (by kernel_rfl) (by kernel_rfl) (by kernel_rfl) (P0 <|
 rg2 <| cb spec_l3Copy_t spec_l3Copy_ok 6 false h fun l3Copy h =>
 fe Tryz.func72 h)

/-! ### spec_l8Entries -/
noncomputable def spec_l8Entries_c : Code := bodyOf Tryz.f37
noncomputable def spec_l8Entries_X : Sig := { f := 37, fn := Tryz.f37, rms := [.val [some 7] []], oms := [none] }
noncomputable def spec_l8Entries_R (r : List TEntry) : V := vsl 7 eEntry r
noncomputable def spec_l8Entries_O (r : List TEntry) : List (Option V) := [none]
noncomputable def spec_l8Entries_t (i : Nat) (fr : Bool) (r : List TEntry) : Nat × Tell := (i, { a := .call [.val [some 7] []] fr (spec_l8Entries_R r) (spec_l8Entries_O r) })
noncomputable def spec_l8Entries_k1 : List Item := posI 2000 4 [false] [.code spec_l8Entries_c]
noncomputable def spec_l8Entries_S1 (out1 : List TEntry) : St := ⟨(bs 3 (.own 1 0 7 0 out1.length :: (bs 17 []))), [some [], some [erow 68 7 eEntry out1]]⟩
noncomputable def spec_l8Entries_k2 (out1 : List TEntry) : Option (List TEntry) :=
  some out1
theorem spec_l8Entries_k2_ok (r : List TEntry) (out1 : List TEntry) (h : spec_l8Entries_k2 out1 = some r) : Fin cx spec_l8Entries_X (spec_l8Entries_R r) (spec_l8Entries_O r) spec_l8Entries_k1 (spec_l8Entries_S1 out1) :=
  P0 <|
 rg <| om (out1.length = out1.length) rfl <| fe Tryz.func37 h
noncomputable def spec_l8Entries_k3 : List Item := posI 2000 3 [] [.code spec_l8Entries_c]
noncomputable def spec_l8Entries_S2 (list : List TEntry) (out : List TEntry) (i : Int) : St := ⟨(vsl 7 eEntry list :: (bs 2 (.own 1 0 7 0 out.length :: (vi i :: (bs 16 []))))), [some [], some [erow 68 7 eEntry out]]⟩
noncomputable def spec_l8Entries_b1 (list : List TEntry) (out : List TEntry) (i : Int) : Option (Stp (List TEntry) ((List TEntry) × Int) (List TEntry)) :=
  (bif decide (i < (list.length : Int)) then
 ((idx list i).bind fun entry =>
 ((spec_l5Entry entry).bind fun l5Entry =>
 (need ((out.length + 1) * 88 ≤ 140737488355328)
 (some (Stp.nxt (out ++ [l5Entry], w64 (i + 1)))))))
 else
 some (Stp.brk out))
theorem spec_l8Entries_b1_ok (list : List TEntry) (res : V) (outs : List (Option V)) (x1 : Exc (List TEntry) (List TEntry)) (hb1 : HB cx spec_l8Entries_X res outs x1 spec_l8Entries_k1 spec_l8Entries_S1) (hr1 : HR res outs x1 spec_l8Entries_R spec_l8Entries_O) (st1 : Stp (List TEntry) ((List TEntry) × Int) (List TEntry)) (hc1 : Cont x1 (fun s : (List TEntry) × Int => Fin cx spec_l8Entries_X res outs spec_l8Entries_k3 (spec_l8Entries_S2 list s.1 s.2)) st1) (out : List TEntry) (i : Int) (h : spec_l8Entries_b1 list out i = some st1) : Fin cx spec_l8Entries_X res outs spec_l8Entries_k3 (spec_l8Entries_S2 list out i) :=
  P0 <|
 rg <| cdD 3 h (fun h =>
 rg <| ixS eEntry 3 h fun entry hentry h =>
 cb spec_l5Entry_t spec_l5Entry_ok 5 false h fun l5Entry h =>
 tl (6, { a := .ck ck68 }) <| needD h fun e1 h =>
 apS 7 13 68 7 88 eEntry out l5Entry e1 <| om (1 = [l5Entry].length) (by rfl) <| rg <| (nxtD h hc1 fun hI => sg [] [0, 3, 4] [(13, 0)] hI)) (fun h =>
 (brkD h hc1 fun e => sg [] [3] [(1, 0)] (hb1 _ e)))
noncomputable def spec_l8Entries (list : List TEntry) : Option (List TEntry) :=
  ((loop (fun s : (List TEntry) × Int => spec_l8Entries_b1 list s.1 s.2) (([] : List TEntry), 0)).bind fun x => x.go (fun r => some r) fun s => spec_l8Entries_k2 s)
theorem spec_l8Entries_ok {list : List TEntry} (r : List TEntry) (h : spec_l8Entries list = some r) : ACalls cx.P 37 [vsl 7 eEntry list] (spec_l8Entries_R r) (spec_l8Entries_O r) :=
  ACalls.of (cx := cx) (X := spec_l8Entries_X) (c := spec_l8Entries_c) Tryz.func37 (by kernel_rfl) (by kernel_rfl) (by kernel_rfl) (P0 <|
 rg2 <| tl (0, { a := .ck ck68 }) <| rg <| loopJ h fun x hl hr hb => om ((.own 2 0 7 0 0 : V) = .own 2 0 7 0 ([] : List TEntry).length) (by simp) <| sg [.is (.tmp 3) (.own 2 0 7 0 ([] : List TEntry).length)] [0, 3, 4] [(2, 0)] (loopD (I := fun s : (List TEntry) × Int => Fin cx spec_l8Entries_X (spec_l8Entries_R r) (spec_l8Entries_O r) spec_l8Entries_k3 (spec_l8Entries_S2 list s.1 s.2)) hl fun s st h hc => spec_l8Entries_b1_ok list _ _ x (fun s e => spec_l8Entries_k2_ok r s (hb s e)) (fun v e => ⟨congrArg spec_l8Entries_R (Option.some.inj (hr v e)).symm, congrArg spec_l8Entries_O (Option.some.inj (hr v e)).symm⟩) st hc s.1 s.2 h))

/-! ### spec_WorldLog -/
noncomputable def spec_WorldLog_c : Code := bodyOf Tryz.f14
noncomputable def spec_WorldLog_X : Sig := { f := 14, fn := Tryz.f14, rms := [.val [some 7] []], oms := [none] }
noncomputable def spec_WorldLog_R (r : List TEntry) : V := vsl 7 eEntry r
noncomputable def spec_WorldLog_O (r : List TEntry) : List (Option V) := [none]
noncomputable def spec_WorldLog_t (i : Nat) (fr : Bool) (r : List TEntry) : Nat × Tell := (i, { a := .call [.val ck35 []] fr (spec_WorldLog_R r) (spec_WorldLog_O r) })
noncomputable def spec_WorldLog_k1 : List Item := posI 2000 4 [false] [.code spec_WorldLog_c]
noncomputable def spec_WorldLog_S1 (w : TWorld) (best1 : Int) : St := ⟨(bs 1 (.ptr 1 0 0 :: (bs 1 (vi best1 :: (bs 36 []))))), [some [], some [.var 35 [vsl 27 eNode w.Nodes, vsl 13 eMsg w.Net, vsl 3 eAsked w.Asked, vsl 5 eTold w.Told]]]⟩
noncomputable def spec_WorldLog_k2 (w : TWorld) (best1 : Int) : Option (List TEntry) :=
  (bif ((w.Nodes.length : Int) == 0) then
 some ([] : List TEntry)
 else
 ((idx w.Nodes best1).bind fun node =>
 ((spec_l8Entries node.Known).bind fun l8Entries =>
 some l8Entries)))
theorem spec_WorldLog_k2_ok (w : TWorld) (r : List TEntry) (best1 : Int) (h : spec_WorldLog_k2 w best1 = some r) : Fin cx spec_WorldLog_X (spec_WorldLog_R r) (spec_WorldLog_O r) spec_WorldLog_k1 (spec_WorldLog_S1 w best1) :=
  P0 <|
 rg <| cdD 3 h (fun h =>
 rg <| tl (0, { a := .ck ck68 }) <| om (0 = ([] : List TEntry).length) (by simp) <| fe Tryz.func14 h) (fun h =>
 rg <| ixS eNode 3 h fun node hnode h =>
 cb spec_l8Entries_t spec_l8Entries_ok 6 false h fun l8Entries h =>
 fe Tryz.func14 h)
noncomputable def spec_WorldLog_k3 : List Item := posI 2000 3 [] [.code spec_WorldLog_c]
noncomputable def spec_WorldLog_S2 (w : TWorld) (best : Int) (i : Int) : St := ⟨(bs 1 (.ptr 1 0 0 :: (bs 1 (vi best :: (vi i :: (bs 35 [])))))), [some [], some [.var 35 [vsl 27 eNode w.Nodes, vsl 13 eMsg w.Net, vsl 3 eAsked w.Asked, vsl 5 eTold w.Told]]]⟩
noncomputable def spec_WorldLog_k4 : List Item := posI 2000 6 [true, true] [.code spec_WorldLog_c]
noncomputable def spec_WorldLog_S3 (w : TWorld) (i : Int) (best2 : Int) : St := ⟨(bs 1 (.ptr 1 0 0 :: (bs 1 (vi best2 :: (vi i :: (bs 35 [])))))), [some [], some [.var 35 [vsl 27 eNode w.Nodes, vsl 13 eMsg w.Net, vsl 3 eAsked w.Asked, vsl 5 eTold w.Told]]]⟩
noncomputable def spec_WorldLog_j1 (i : Int) (best2 : Int) : Option (Stp (List TEntry) (Int × Int) Int) :=
  some (Stp.nxt (best2, w64 (i + 1)))
theorem spec_WorldLog_j1_ok (w : TWorld) (i : Int) (res : V) (outs : List (Option V)) (x1 : Exc (List TEntry) Int) (hb1 : HB cx spec_WorldLog_X res outs x1 spec_WorldLog_k1 (spec_WorldLog_S1 w)) (hr1 : HR res outs x1 spec_WorldLog_R spec_WorldLog_O) (st1 : Stp (List TEntry) (Int × Int) Int) (hc1 : Cont x1 (fun s : Int × Int => Fin cx spec_WorldLog_X res outs spec_WorldLog_k3 (spec_WorldLog_S2 w s.1 s.2)) st1) (best2 : Int) (h : spec_WorldLog_j1 i best2 = some st1) : Fin cx spec_WorldLog_X res outs spec_WorldLog_k4 (spec_WorldLog_S3 w i best2) :=
  P0 <|
 rg <| (nxtD h hc1 fun hI => sg [] [1, 3, 4] [(1, 0)] hI)
noncomputable def spec_WorldLog_b1 (w : TWorld) (best : Int) (i : Int) : Option (Stp (List TEntry) (Int × Int) Int) :=
  (bif decide (i < (w.Nodes.length : Int)) then
 ((((idx w.Nodes i).bind fun node1 =>
 ((idx w.Nodes best).bind fun node2 =>
 (bif decide ((node1.Known.length : Int) > (node2.Known.length : Int)) then
 some (Exc.brk i)
 else
 some (Exc.brk best)))) : Option (Exc (Stp (List TEntry) (Int × Int) Int) Int)).bind fun x => x.go some fun j => spec_WorldLog_j1 i j)
 else
 some (Stp.brk best))
theorem spec_WorldLog_b1_ok (w : TWorld) (res : V) (outs : List (Option V)) (x1 : Exc (List TEntry) Int) (hb1 : HB cx spec_WorldLog_X res outs x1 spec_WorldLog_k1 (spec_WorldLog_S1 w)) (hr1 : HR res outs x1 spec_WorldLog_R spec_WorldLog_O) (st1 : Stp (List TEntry) (Int × Int) Int) (hc1 : Cont x1 (fun s : Int × Int => Fin cx spec_WorldLog_X res outs spec_WorldLog_k3 (spec_WorldLog_S2 w s.1 s.2)) st1) (best : Int) (i : Int) (h : spec_WorldLog_b1 w best i = some st1) : Fin cx spec_WorldLog_X res outs spec_WorldLog_k3 (spec_WorldLog_S2 w best i) :=
  P0 <|
 rg <| cdD 4 h (fun h =>
 joinD (I := fun j : Int => Fin cx spec_WorldLog_X res outs spec_WorldLog_k4 (spec_WorldLog_S3 w i j)) h (fun j h => spec_WorldLog_j1_ok w i res outs x1 hb1 hr1 st1 hc1 j h) (fun x2 h hc2 =>
  rg <| ixS eNode 3 h fun node1 hnode1 h =>
 ixS eNode 10 h fun node2 hnode2 h =>
 cdD 14 h (fun h =>
 rg <| (jbrkD h hc2 fun hI => sg [] [1, 3, 4] [(1, 0)] hI)) (fun h =>
 (jbrkD h hc2 fun hI => sg [] [1, 3, 4] [(1, 0)] hI)))) (fun h =>
 (brkD h hc1 fun e => sg [] [1, 3] [(1, 0)] (hb1 _ e)))
noncomputable def spec_WorldLog (w : TWorld) : Option (List TEntry) :=
  ((loop (fun s : Int × Int => spec_WorldLog_b1 w s.1 s.2) (0, 0)).bind fun x => x.go (fun r => some r) fun s => spec_WorldLog_k2 w s)
theorem spec_WorldLog_ok {w : TWorld} (r : List TEntry) (h : spec_WorldLog w = some r) : ACalls cx.P 14 [.agg (eWorld w)] (spec_WorldLog_R r) (spec_WorldLog_O r) :=
  ACalls.of (cx := cx) (X := spec_WorldLog_X) (c := spec_WorldLog_c) Tryz.func14 (by kernel_rfl) (by kernel_rfl) (by kernel_rfl) (P0 <|
 rg3 <| loopJ h fun x hl hr hb => sg [] [1, 3, 4] [(1, 0)] (loopD (I := fun s : Int × Int => Fin cx spec_WorldLog_X (spec_WorldLog_R r) (spec_WorldLog_O r) spec_WorldLog_k3 (spec_WorldLog_S2 w s.1 s.2)) hl fun s st h hc => spec_WorldLog_b1_ok w _ _ x (fun s e => spec_WorldLog_k2_ok w r s (hb s e)) (fun v e => ⟨congrArg spec_WorldLog_R (Option.some.inj (hr v e)).symm, congrArg spec_WorldLog_O (Option.some.inj (hr v e)).symm⟩) st hc s.1 s.2 h))

/-! ### spec_BoxOpen -/
noncomputable def spec_BoxOpen_c : Code := bodyOf Tryz.f73
noncomputable def spec_BoxOpen_X : Sig := { f := 73, fn := Tryz.f73, rms := [.val [some 2] [some 159]], oms := [] }
noncomputable def spec_BoxOpen_R (r : List TBox) : V := vosl 159 2 eBox r
noncomputable def spec_BoxOpen_O (r : List TBox) : List (Option V) := []
noncomputable def spec_BoxOpen_t (i : Nat) (fr : Bool) (r : List TBox) : Nat × Tell := (i, { a := .call [] fr (spec_BoxOpen_R r) (spec_BoxOpen_O r) })
noncomputable def spec_BoxOpen : Option (List TBox) :=
  (need (0 ≤ (4 : Int) ∧ (4 : Int) * 16 ≤ 140737488355328)
 (some (List.replicate (4 : Int).toNat (TBox.mk 0 0))))
theorem spec_BoxOpen_ok (r : List TBox) (h : spec_BoxOpen = some r) : ACalls cx.P 73 [] (spec_BoxOpen_R r) (spec_BoxOpen_O r) :=
  ACalls.of (cx := cx) (X := spec_BoxOpen_X) (c := spec_BoxOpen_c) Tryz.func73 (by kernel_rfl) (by kernel_rfl) (by kernel_rfl) (P0 <|
 rg2 <| needD h fun e1 h =>
 mkS 0 2 159 2 16 eBox (TBox.mk 0 0) ti159 (.none) e1 (by decide) (by rfl) <| om ((List.replicate (4 : Int).toNat (TBox.mk 0 0)).length = (List.replicate (4 : Int).toNat (TBox.mk 0 0)).length) rfl <| fe Tryz.func73 h)

/-! ### spec_CertOpen -/
noncomputable def spec_CertOpen_c : Code := bodyOf Tryz.f38
noncomputable def spec_CertOpen_X : Sig := { f := 38, fn := Tryz.f38, rms := [.val [none, some 2, some 4] [none, some 159, none]], oms := [] }
noncomputable def spec_CertOpen_R (r : TState) : V := .agg [vi r.At, vosl 159 2 eBox r.Boxes, vsl 4 eDone r.Dones]
noncomputable def spec_CertOpen_O (r : TState) : List (Option V) := []
noncomputable def spec_CertOpen_t (i : Nat) (fr : Bool) (r : TState) : Nat × Tell := (i, { a := .call [] fr (spec_CertOpen_R r) (spec_CertOpen_O r) })
noncomputable def spec_CertOpen : Option TState :=
  ((spec_BoxOpen).bind fun boxOpen =>
 some (TState.mk 0 boxOpen []))
theorem spec_CertOpen_ok (r : TState) (h : spec_CertOpen = some r) : ACalls cx.P 38 [] (spec_CertOpen_R r) (spec_CertOpen_O r) :=
  ACalls.of (cx := cx) (X := spec_CertOpen_X) (c := spec_CertOpen_c) Tryz.func38 (by kernel_rfl) (by kernel_rfl) (by kernel_rfl) (P0 <|
 rg2 <| cb spec_BoxOpen_t spec_BoxOpen_ok 0 false h fun boxOpen h =>
 om (boxOpen.length = boxOpen.length) rfl <| fe Tryz.func38 h)

/-! ### spec_l5Last -/
noncomputable def spec_l5Last_c : Code := bodyOf Tryz.f74
noncomputable def spec_l5Last_X : Sig := { f := 74, fn := Tryz.f74, rms := [.val [] [], .val [] []], oms := [none, none] }
noncomputable def spec_l5Last_R (r : TDone × Bool) : V := .tup [.agg (eDone r.1), .b r.2]
noncomputable def spec_l5Last_O (r : TDone × Bool) : List (Option V) := [none, none]
noncomputable def spec_l5Last_t (i : Nat) (fr : Bool) (r : TDone × Bool) : Nat × Tell := (i, { a := .call [.val [none, some 2, some 4] [], .val [] []] fr (spec_l5Last_R r) (spec_l5Last_O r) })
noncomputable def spec_l5Last_k1 : List Item := posI 2000 3 [false] [.code spec_l5Last_c]
noncomputable def spec_l5Last_S1 : St := ⟨(bs 4 (.ptr 1 0 0 :: (bs 24 []))), [some [], some [.var 142 [vi 0, vi 0, vi 0, vi 0]]]⟩
noncomputable def spec_l5Last_k2 : Option (TDone × Bool) :=
  some ((TDone.mk (TReq.mk 0 0) 0 0), false)
theorem spec_l5Last_k2_ok (r : TDone × Bool) (h : spec_l5Last_k2 = some r) : Fin cx spec_l5Last_X (spec_l5Last_R r) (spec_l5Last_O r) spec_l5Last_k1 (spec_l5Last_S1) :=
  P0 <|
 rg <| fe Tryz.func74 h
noncomputable def spec_l5Last_k3 : List Item := posI 2000 2 [] [.code spec_l5Last_c]
noncomputable def spec_l5Last_S2 (s_ : TState) (who : Int) (i : Int) : St := ⟨(bs 1 (vi who :: (.ptr 1 0 0 :: (bs 1 (.ptr 2 0 0 :: (bs 1 (vi i :: (bs 22 [])))))))), [some [], some [.var 59 [vi s_.At, vsl 2 eBox s_.Boxes, vsl 4 eDone s_.Dones]], some [.var 142 [vi 0, vi 0, vi 0, vi 0]]]⟩
noncomputable def spec_l5Last_b1 (s_ : TState) (who : Int) (i : Int) : Option (Stp (TDone × Bool) Int Unit) :=
  (bif decide (i < (s_.Dones.length : Int)) then
 ((idx s_.Dones i).bind fun done =>
 (bif (done.Req.Who == who) then
 some (Stp.ret (done, true))
 else
 some (Stp.nxt (w64 (i + 1)))))
 else
 some (Stp.brk ()))
theorem spec_l5Last_b1_ok (s_ : TState) (who : Int) (res : V) (outs : List (Option V)) (x1 : Exc (TDone × Bool) Unit) (hb1 : HB cx spec_l5Last_X res outs x1 spec_l5Last_k1 (fun s => spec_l5Last_S1)) (hr1 : HR res outs x1 spec_l5Last_R spec_l5Last_O) (st1 : Stp (TDone × Bool) Int Unit) (hc1 : Cont x1 (fun s : Int => Fin cx spec_l5Last_X res outs spec_l5Last_k3 (spec_l5Last_S2 s_ who s)) st1) (i : Int) (h : spec_l5Last_b1 s_ who i = some st1) : Fin cx spec_l5Last_X res outs spec_l5Last_k3 (spec_l5Last_S2 s_ who i) :=
  P0 <|
 rg <| cdD 4 h (fun h =>
 rg <| ixS eDone 3 h fun done hdone h =>
 cdD 8 h (fun h =>
 rg <| ixR eDone 3 hdone <| (retD h hc1 fun e => fn0 Tryz.func74 (hr1 _ e))) (fun h =>
 rg <| (nxtD h hc1 fun hI => sg [] [1, 2, 4, 6] [(1, 0), (2, 0)] hI))) (fun h =>
 (brkD h hc1 fun e => sg [] [4] [(2, 0)] (hb1 _ e)))
noncomputable def spec_l5Last (s_ : TState) (who : Int) : Option (TDone × Bool) :=
  ((loop (fun s : Int => spec_l5Last_b1 s_ who s) 0).bind fun x => x.go (fun r => some r) fun s => spec_l5Last_k2)
theorem spec_l5Last_ok {s_ : TState} {who : Int} (r : TDone × Bool) (h : spec_l5Last s_ who = some r) : ACalls cx.P 74 [.agg (eState s_), vi who] (spec_l5Last_R r) (spec_l5Last_O r) :=
  ACalls.of (cx := cx) (X := spec_l5Last_X) (c := spec_l5Last_c) Tryz.func74 (by kernel_rfl) (by kernel_rfl) (by kernel_rfl) (P0 <|
 rg2 <| loopJ h fun x hl hr hb => sg [] [1, 2, 4, 6] [(1, 0), (2, 0)] (loopD (I := fun s : Int => Fin cx spec_l5Last_X (spec_l5Last_R r) (spec_l5Last_O r) spec_l5Last_k3 (spec_l5Last_S2 s_ who s)) hl fun s st h hc => spec_l5Last_b1_ok s_ who _ _ x (fun s e => spec_l5Last_k2_ok r (hb s e)) (fun v e => ⟨congrArg spec_l5Last_R (Option.some.inj (hr v e)).symm, congrArg spec_l5Last_O (Option.some.inj (hr v e)).symm⟩) st hc s h))

/-! ### spec_BoxOk -/
noncomputable def spec_BoxOk_c : Code := bodyOf Tryz.f116
noncomputable def spec_BoxOk_X : Sig := { f := 116, fn := Tryz.f116, rms := [.val [] []], oms := [none] }
noncomputable def spec_BoxOk_R (r : Bool) : V := .b r
noncomputable def spec_BoxOk_O (r : Bool) : List (Option V) := [none]
noncomputable def spec_BoxOk_t (i : Nat) (fr : Bool) (r : Bool) : Nat × Tell := (i, { a := .call [.val [some 2] []] fr (spec_BoxOk_R r) (spec_BoxOk_O r) })
noncomputable def spec_BoxOk_k1 : List Item := posI 2000 4 [false, false] [.code spec_BoxOk_c]
noncomputable def spec_BoxOk_S1 : St := ⟨(bs 36 []), [some []]⟩
noncomputable def spec_BoxOk_k2 : Option Bool :=
  some true
theorem spec_BoxOk_k2_ok (r : Bool) (h : spec_BoxOk_k2 = some r) : Fin cx spec_BoxOk_X (spec_BoxOk_R r) (spec_BoxOk_O r) spec_BoxOk_k1 (spec_BoxOk_S1) :=
  P0 <|
 rg <| fe Tryz.func116 h
noncomputable def spec_BoxOk_k3 : List Item := posI 2000 3 [false] [.code spec_BoxOk_c]
noncomputable def spec_BoxOk_S2 (list : List TBox) (i : Int) : St := ⟨(vsl 2 eBox list :: (bs 2 (vi i :: (bs 32 [])))), [some []]⟩
noncomputable def spec_BoxOk_b1 (list : List TBox) (i : Int) : Option (Stp Bool Int Unit) :=
  (bif decide (i < (list.length : Int)) then
 ((idx list i).bind fun box =>
 (bif decide (box.Ver < 0) then
 some (Stp.ret false)
 else
 (bif decide (box.Ver > 1000000) then
 some (Stp.ret false)
 else
 ((spec_l1Num box.Val).bind fun l1Num =>
 (bif (!l1Num) then
 some (Stp.ret false)
 else
 some (Stp.nxt (w64 (i + 1))))))))
 else
 some (Stp.brk ()))
theorem spec_BoxOk_b1_ok (list : List TBox) (res : V) (outs : List (Option V)) (x1 : Exc Bool Unit) (hb1 : HB cx spec_BoxOk_X res outs x1 spec_BoxOk_k1 (fun s => spec_BoxOk_S1)) (hr1 : HR res outs x1 spec_BoxOk_R spec_BoxOk_O) (st1 : Stp Bool Int Unit) (hc1 : Cont x1 (fun s : Int => Fin cx spec_BoxOk_X res outs spec_BoxOk_k3 (spec_BoxOk_S2 list s)) st1) (i : Int) (h : spec_BoxOk_b1 list i = some st1) : Fin cx spec_BoxOk_X res outs spec_BoxOk_k3 (spec_BoxOk_S2 list i) :=
  P0 <|
 rg <| cdD 3 h (fun h =>
 rg <| ixS eBox 2 h fun box hbox h =>
 cdD 6 h (fun h =>
 rg <| (retD h hc1 fun e => fn0 Tryz.func116 (hr1 _ e))) (fun h =>
 ixR eBox 9 hbox <| cdD 14 h (fun h =>
 rg <| (retD h hc1 fun e => fn0 Tryz.func116 (hr1 _ e))) (fun h =>
 ixR eBox 17 hbox <| cb spec_l1Num_t spec_l1Num_ok 20 false h fun l1Num h =>
 cdD 22 h (fun h =>
 rg <| (retD h hc1 fun e => fn0 Tryz.func116 (hr1 _ e))) (fun h =>
 rg <| (nxtD h hc1 fun hI => sg [] [0, 3] [] hI))))) (fun h =>
 (brkD h hc1 fun e => sg [] [] [] (hb1 _ e)))
noncomputable def spec_BoxOk (list : List TBox) : Option Bool :=
  (bif ((list.length : Int) != 4) then
 some false
 else
 ((loop (fun s : Int => spec_BoxOk_b1 list s) 0).bind fun x => x.go (fun r => some r) fun s => spec_BoxOk_k2))
theorem spec_BoxOk_ok {list : List TBox} (r : Bool) (h : spec_BoxOk list = some r) : ACalls cx.P 116 [vsl 2 eBox list] (spec_BoxOk_R r) (spec_BoxOk_O r) :=
  ACalls.of (cx := cx) (X := spec_BoxOk_X) (c := spec_BoxOk_c) Tryz.func116 (by kernel_rfl) (by kernel_rfl) (by kernel_rfl) (P0 <|
 rg2 <| cdD 2 h (fun h =>
 rg <| fe Tryz.func116 h) (fun h =>
 rg <| loopJ h fun x hl hr hb => sg [] [0, 3] [] (loopD (I := fun s : Int => Fin cx spec_BoxOk_X (spec_BoxOk_R r) (spec_BoxOk_O r) spec_BoxOk_k3 (spec_BoxOk_S2 list s)) hl fun s st h hc => spec_BoxOk_b1_ok list _ _ x (fun s e => spec_BoxOk_k2_ok r (hb s e)) (fun v e => ⟨congrArg spec_BoxOk_R (Option.some.inj (hr v e)).symm, congrArg spec_BoxOk_O (Option.some.inj (hr v e)).symm⟩) st hc s h)))

/-! ### spec_ExecFresh -/
noncomputable def spec_ExecFresh_c : Code := bodyOf Tryz.f75
noncomputable def spec_ExecFresh_X : Sig := { f := 75, fn := Tryz.f75, rms := [.val [] []], oms := [none, none] }
noncomputable def spec_ExecFresh_R (r : Bool) : V := .b r
noncomputable def spec_ExecFresh_O (r : Bool) : List (Option V) := [none, none]
noncomputable def spec_ExecFresh_t (i : Nat) (fr : Bool) (r : Bool) : Nat × Tell := (i, { a := .call [.val [some 2] [], .val ck66 []] fr (spec_ExecFresh_R r) (spec_ExecFresh_O r) })
noncomputable def spec_ExecFresh_k1 : List Item := posI 2000 4 [false, false] [.code spec_ExecFresh_c]
noncomputable def spec_ExecFresh_S1 : St := ⟨(bs 38 []), [some []]⟩
noncomputable def spec_ExecFresh_k2 : Option Bool :=
  some true
theorem spec_ExecFresh_k2_ok (r : Bool) (h : spec_ExecFresh_k2 = some r) : Fin cx spec_ExecFresh_X (spec_ExecFresh_R r) (spec_ExecFresh_O r) spec_ExecFresh_k1 (spec_ExecFresh_S1) :=
  P0 <|
 rg <| fe Tryz.func75 h
noncomputable def spec_ExecFresh_k3 : List Item := posI 2000 3 [false] [.code spec_ExecFresh_c]
noncomputable def spec_ExecFresh_S2 (list : List TBox) (r_ : TRun) (i : Int) : St := ⟨(vsl 2 eBox list :: (bs 2 (.ptr 1 0 0 :: (bs 1 (vi i :: (bs 32 [])))))), [some [], some [.var 66 [vsl 2 eRead r_.Reads, vsl 2 ePut r_.Puts, vi r_.Val, vi r_.Code]]]⟩
noncomputable def spec_ExecFresh_b1 (list : List TBox) (r_ : TRun) (i : Int) : Option (Stp Bool Int Unit) :=
  (bif decide (i < (r_.Reads.length : Int)) then
 ((idx r_.Reads i).bind fun read =>
 ((idx list read.Box).bind fun box =>
 (bif (box.Ver != read.Ver) then
 some (Stp.ret false)
 else
 some (Stp.nxt (w64 (i + 1))))))
 else
 some (Stp.brk ()))
theorem spec_ExecFresh_b1_ok (list : List TBox) (r_ : TRun) (res : V) (outs : List (Option V)) (x1 : Exc Bool Unit) (hb1 : HB cx spec_ExecFresh_X res outs x1 spec_ExecFresh_k1 (fun s => spec_ExecFresh_S1)) (hr1 : HR res outs x1 spec_ExecFresh_R spec_ExecFresh_O) (st1 : Stp Bool Int Unit) (hc1 : Cont x1 (fun s : Int => Fin cx spec_ExecFresh_X res outs spec_ExecFresh_k3 (spec_ExecFresh_S2 list r_ s)) st1) (i : Int) (h : spec_ExecFresh_b1 list r_ i = some st1) : Fin cx spec_ExecFresh_X res outs spec_ExecFresh_k3 (spec_ExecFresh_S2 list r_ i) :=
  P0 <|
 rg <| cdD 4 h (fun h =>
 rg <| ixS eRead 4 h fun read hread h =>
 ixS eBox 7 h fun box hbox h =>
 ixR eRead 13 hread <| cdD 16 h (fun h =>
 rg <| (retD h hc1 fun e => fn0 Tryz.func75 (hr1 _ e))) (fun h =>
 rg <| (nxtD h hc1 fun hI => sg [] [0, 3, 5] [(1, 0)] hI))) (fun h =>
 (brkD h hc1 fun e => sg [] [] [] (hb1 _ e)))
noncomputable def spec_ExecFresh (list : List TBox) (r_ : TRun) : Option Bool :=
  ((spec_BoxOk list).bind fun boxOk =>
 (bif (!boxOk) then
 some false
 else
 ((spec_ExecOk r_).bind fun execOk =>
 (bif (!execOk) then
 some false
 else
 ((loop (fun s : Int => spec_ExecFresh_b1 list r_ s) 0).bind fun x => x.go (fun r => some r) fun s => spec_ExecFresh_k2)))))
theorem spec_ExecFresh_ok {list : List TBox} {r_ : TRun} (r : Bool) (h : spec_ExecFresh list r_ = some r) : ACalls cx.P 75 [vsl 2 eBox list, .agg (eRun r_)] (spec_ExecFresh_R r) (spec_ExecFresh_O r) :=
  ACalls.of (cx := cx) (X := spec_ExecFresh_X) (c := spec_ExecFresh_c) Tryz.func75 (by kernel_rfl) (by kernel_rfl) (by kernel_rfl) (P0 <|
 rg2 <| cb spec_BoxOk_t spec_BoxOk_ok 1 false h fun boxOk h =>
 cdD 3 h (fun h =>
 rg <| fe Tryz.func75 h) (fun h =>
 cb spec_ExecOk_t spec_ExecOk_ok 5 false h fun execOk h =>
 cdD 7 h (fun h =>
 rg <| fe Tryz.func75 h) (fun h =>
 rg <| loopJ h fun x hl hr hb => sg [] [0, 3, 5] [(1, 0)] (loopD (I := fun s : Int => Fin cx spec_ExecFresh_X (spec_ExecFresh_R r) (spec_ExecFresh_O r) spec_ExecFresh_k3 (spec_ExecFresh_S2 list r_ s)) hl fun s st h hc => spec_ExecFresh_b1_ok list r_ _ _ x (fun s e => spec_ExecFresh_k2_ok r (hb s e)) (fun v e => ⟨congrArg spec_ExecFresh_R (Option.some.inj (hr v e)).symm, congrArg spec_ExecFresh_O (Option.some.inj (hr v e)).symm⟩) st hc s h))))

/-! ### spec_l1Min -/
noncomputable def spec_l1Min_c : Code := bodyOf Tryz.f117
noncomputable def spec_l1Min_X : Sig := { f := 117, fn := Tryz.f117, rms := [.val [] []], oms := [none, none] }
noncomputable def spec_l1Min_R (r : Int) : V := vi r
noncomputable def spec_l1Min_O (r : Int) : List (Option V) := [none, none]
noncomputable def spec_l1Min_t (i : Nat) (fr : Bool) (r : Int) : Nat × Tell := (i, { a := .call [.val [] [], .val [] []] fr (spec_l1Min_R r) (spec_l1Min_O r) })
noncomputable def spec_l1Min (a : Int) (b : Int) : Option Int :=
  (bif decide (a < b) then
 some a
 else
 some b)
theorem spec_l1Min_ok {a : Int} {b : Int} (r : Int) (h : spec_l1Min a b = some r) : ACalls cx.P 117 [vi a, vi b] (spec_l1Min_R r) (spec_l1Min_O r) :=
  ACalls.of (cx := cx) (X := spec_l1Min_X) (c := spec_l1Min_c) Tryz.func117 (by kernel_rfl) (by kernel_rfl) (by kernel_rfl) (P0 <|
 rg2 <| cdD 2 h (fun h =>
 rg <| fe Tryz.func117 h) (fun h =>
 rg <| fe Tryz.func117 h))

/-! ### spec_l3Do -/
noncomputable def spec_l3Do_c : Code := bodyOf Tryz.f76
noncomputable def spec_l3Do_X : Sig := { f := 76, fn := Tryz.f76, rms := [.val [some 2] [some 159]], oms := [none, none] }
noncomputable def spec_l3Do_R (r : List TBox) : V := vosl 159 2 eBox r
noncomputable def spec_l3Do_O (r : List TBox) : List (Option V) := [none, none]
noncomputable def spec_l3Do_t (i : Nat) (fr : Bool) (r : List TBox) : Nat × Tell := (i, { a := .call [.val [some 2] [some 159], .val ck66 []] fr (spec_l3Do_R r) (spec_l3Do_O r) })
noncomputable def spec_l3Do_k1 : List Item := posI 2000 3 [false] [.code spec_l3Do_c]
noncomputable def spec_l3Do_S1 (list2 : List TBox) : St := ⟨(.own 0 0 2 0 list2.length :: (bs 37 [])), [some [erow 159 2 eBox list2]]⟩
noncomputable def spec_l3Do_k2 (list2 : List TBox) : Option (List TBox) :=
  some list2
theorem spec_l3Do_k2_ok (r : List TBox) (list2 : List TBox) (h : spec_l3Do_k2 list2 = some r) : Fin cx spec_l3Do_X (spec_l3Do_R r) (spec_l3Do_O r) spec_l3Do_k1 (spec_l3Do_S1 list2) :=
  P0 <|
 rg <| om (list2.length = list2.length) rfl <| fe Tryz.func76 h
noncomputable def spec_l3Do_k3 : List Item := posI 2000 2 [] [.code spec_l3Do_c]
noncomputable def spec_l3Do_S2 (r_ : TRun) (list1 : List TBox) (i : Int) : St := ⟨(.own 0 0 2 0 list1.length :: (bs 2 (.ptr 1 0 0 :: (bs 1 (vi i :: (bs 32 [])))))), [some [erow 159 2 eBox list1], some [.var 66 [vsl 2 eRead r_.Reads, vsl 2 ePut r_.Puts, vi r_.Val, vi r_.Code]]]⟩
noncomputable def spec_l3Do_b1 (r_ : TRun) (list1 : List TBox) (i : Int) : Option (Stp (List TBox) ((List TBox) × Int) (List TBox)) :=
  (bif decide (i < (r_.Puts.length : Int)) then
 ((idx r_.Puts i).bind fun put =>
 ((idx list1 put.Box).bind fun box =>
 ((spec_l1Min 1000000 (w64 (box.Ver + 1))).bind fun l1Min =>
 some (Stp.nxt (list1.set put.Box.toNat (TBox.mk l1Min put.Val), w64 (i + 1))))))
 else
 some (Stp.brk list1))
theorem spec_l3Do_b1_ok (r_ : TRun) (res : V) (outs : List (Option V)) (x1 : Exc (List TBox) (List TBox)) (hb1 : HB cx spec_l3Do_X res outs x1 spec_l3Do_k1 spec_l3Do_S1) (hr1 : HR res outs x1 spec_l3Do_R spec_l3Do_O) (st1 : Stp (List TBox) ((List TBox) × Int) (List TBox)) (hc1 : Cont x1 (fun s : (List TBox) × Int => Fin cx spec_l3Do_X res outs spec_l3Do_k3 (spec_l3Do_S2 r_ s.1 s.2)) st1) (list1 : List TBox) (i : Int) (h : spec_l3Do_b1 r_ list1 i = some st1) : Fin cx spec_l3Do_X res outs spec_l3Do_k3 (spec_l3Do_S2 r_ list1 i) :=
  P0 <|
 rg <| cdD 4 h (fun h =>
 rg <| ixS ePut 3 h fun put hput h =>
 rg <| bindD h fun box hbox h =>
 ixB hbox <| ldR eBox 6 hbox <| cb spec_l1Min_t spec_l1Min_ok 8 false h fun l1Min h =>
 ixR ePut 12 hput <| ixB hbox <| stR 159 2 eBox 17 [] (TBox.mk l1Min put.Val) hbox <| rg <| (nxtD h hc1 fun hI => om ((.own 0 0 2 0 list1.length : V) = .own 0 0 2 0 (list1.set put.Box.toNat (TBox.mk l1Min put.Val)).length) (by simp) <| sg [.is (.tmp 0) (.own 0 0 2 0 (list1.set put.Box.toNat (TBox.mk l1Min put.Val)).length)] [0, 3, 5] [(1, 0)] hI)) (fun h =>
 (brkD h hc1 fun e => sg [] [0] [] (hb1 _ e)))
noncomputable def spec_l3Do (list : List TBox) (r_ : TRun) : Option (List TBox) :=
  ((loop (fun s : (List TBox) × Int => spec_l3Do_b1 r_ s.1 s.2) (list, 0)).bind fun x => x.go (fun r => some r) fun s => spec_l3Do_k2 s)
theorem spec_l3Do_ok {list : List TBox} {r_ : TRun} (r : List TBox) (h : spec_l3Do list r_ = some r) : ACalls cx.P 76 [vosl 159 2 eBox list, .agg (eRun r_)] (spec_l3Do_R r) (spec_l3Do_O r) :=
  ACalls.of (cx := cx) (X := spec_l3Do_X) (c := spec_l3Do_c) Tryz.func76 (by kernel_rfl) (by kernel_rfl) (by kernel_rfl) (P0 <|
 rg2 <| loopJ h fun x hl hr hb => sg [] [0, 3, 5] [(1, 0)] (loopD (I := fun s : (List TBox) × Int => Fin cx spec_l3Do_X (spec_l3Do_R r) (spec_l3Do_O r) spec_l3Do_k3 (spec_l3Do_S2 r_ s.1 s.2)) hl fun s st h hc => spec_l3Do_b1_ok r_ _ _ x (fun s e => spec_l3Do_k2_ok r s (hb s e)) (fun v e => ⟨congrArg spec_l3Do_R (Option.some.inj (hr v e)).symm, congrArg spec_l3Do_O (Option.some.inj (hr v e)).symm⟩) st hc s.1 s.2 h))

/-! ### spec_l5Put -/
noncomputable def spec_l5Put_c : Code := bodyOf Tryz.f77
noncomputable def spec_l5Put_X : Sig := { f := 77, fn := Tryz.f77, rms := [.val [some 4] []], oms := [none, none] }
noncomputable def spec_l5Put_R (r : List TDone) : V := vsl 4 eDone r
noncomputable def spec_l5Put_O (r : List TDone) : List (Option V) := [none, none]
noncomputable def spec_l5Put_t (i : Nat) (fr : Bool) (r : List TDone) : Nat × Tell := (i, { a := .call [.val [some 4] [], .val [] []] fr (spec_l5Put_R r) (spec_l5Put_O r) })
noncomputable def spec_l5Put_k1 : List Item := posI 2000 5 [false] [.code spec_l5Put_c]
noncomputable def spec_l5Put_S1 (d : TDone) (out1 : List TDone) (in_1 : Bool) : St := ⟨(bs 3 (.ptr 1 0 0 :: (bs 1 (.own 2 0 4 0 out1.length :: (.b in_1 :: (bs 50 [])))))), [some [], some [.var 142 [vi d.Req.Who, vi d.Req.Seq, vi d.Code, vi d.Val]], some [erow 142 4 eDone out1]]⟩
noncomputable def spec_l5Put_k2 : List Item := posI 2000 7 [false, true] [.code spec_l5Put_c]
noncomputable def spec_l5Put_S2 (out2 : List TDone) : St := ⟨(bs 5 (.own 1 0 4 0 out2.length :: (bs 51 []))), [some [], some [erow 142 4 eDone out2]]⟩
noncomputable def spec_l5Put_j1 (out2 : List TDone) : Option (List TDone) :=
  some out2
theorem spec_l5Put_j1_ok (r : List TDone) (out2 : List TDone) (h : spec_l5Put_j1 out2 = some r) : Fin cx spec_l5Put_X (spec_l5Put_R r) (spec_l5Put_O r) spec_l5Put_k2 (spec_l5Put_S2 out2) :=
  P0 <|
 rg <| om (out2.length = out2.length) rfl <| fe Tryz.func77 h
noncomputable def spec_l5Put_k3 (d : TDone) (out1 : List TDone) (in_1 : Bool) : Option (List TDone) :=
  (((bif (!in_1) then
 (need ((out1.length + 1) * 32 ≤ 140737488355328)
 (some (Exc.brk (out1 ++ [d]))))
 else
 some (Exc.brk out1)) : Option (Exc (List TDone) (List TDone))).bind fun x => x.go some fun j => spec_l5Put_j1 j)
theorem spec_l5Put_k3_ok (d : TDone) (r : List TDone) (out1 : List TDone) (in_1 : Bool) (h : spec_l5Put_k3 d out1 in_1 = some r) : Fin cx spec_l5Put_X (spec_l5Put_R r) (spec_l5Put_O r) spec_l5Put_k1 (spec_l5Put_S1 d out1 in_1) :=
  P0 <|
 joinD (I := fun j : List TDone => Fin cx spec_l5Put_X (spec_l5Put_R r) (spec_l5Put_O r) spec_l5Put_k2 (spec_l5Put_S2 j)) h (fun j h => spec_l5Put_j1_ok r j h) (fun x1 h hc1 =>
  rg <| cdD 1 h (fun h =>
 rg <| tl (2, { a := .ck [] }) <| needD h fun e1 h =>
 apS 3 8 142 4 32 eDone out1 d e1 <| om (1 = [d].length) (by rfl) <| (jbrkD h hc1 fun hI => sg [] [5] [(8, 0)] hI)) (fun h =>
 (jbrkD h hc1 fun hI => sg [] [5] [(2, 0)] hI)))
noncomputable def spec_l5Put_k4 : List Item := posI 2000 4 [] [.code spec_l5Put_c]
noncomputable def spec_l5Put_S3 (list : List TDone) (d : TDone) (out : List TDone) (in_ : Bool) (i : Int) : St := ⟨(vsl 4 eDone list :: (bs 2 (.ptr 1 0 0 :: (bs 1 (.own 2 0 4 0 out.length :: (.b in_ :: (vi i :: (bs 49 [])))))))), [some [], some [.var 142 [vi d.Req.Who, vi d.Req.Seq, vi d.Code, vi d.Val]], some [erow 142 4 eDone out]]⟩
noncomputable def spec_l5Put_k5 : List Item := posI 2000 8 [true, true] [.code spec_l5Put_c]
noncomputable def spec_l5Put_S4 (list : List TDone) (d : TDone) (i : Int) (out3 : List TDone) (in_2 : Bool) : St := ⟨(vsl 4 eDone list :: (bs 2 (.ptr 1 0 0 :: (bs 1 (.own 2 0 4 0 out3.length :: (.b in_2 :: (vi i :: (bs 49 [])))))))), [some [], some [.var 142 [vi d.Req.Who, vi d.Req.Seq, vi d.Code, vi d.Val]], some [erow 142 4 eDone out3]]⟩
noncomputable def spec_l5Put_k6 : List Item := posI 2000 10 [true, true, true] [.code spec_l5Put_c]
noncomputable def spec_l5Put_S5 (list : List TDone) (d : TDone) (i : Int) (in_2 : Bool) (out4 : List TDone) : St := ⟨(vsl 4 eDone list :: (bs 2 (.ptr 1 0 0 :: (bs 1 (.own 2 0 4 0 out4.length :: (.b in_2 :: (vi i :: (bs 49 [])))))))), [some [], some [.var 142 [vi d.Req.Who, vi d.Req.Seq, vi d.Code, vi d.Val]], some [erow 142 4 eDone out4]]⟩
noncomputable def spec_l5Put_j2 (i : Int) (in_2 : Bool) (out4 : List TDone) : Option (Stp (List TDone) ((List TDone) × Bool × Int) ((List TDone) × Bool)) :=
  some (Stp.nxt (out4, in_2, w64 (i + 1)))
theorem spec_l5Put_j2_ok (list : List TDone) (d : TDone) (i : Int) (in_2 : Bool) (res : V) (outs : List (Option V)) (x1 : Exc (List TDone) ((List TDone) × Bool)) (hb1 : HB cx spec_l5Put_X res outs x1 spec_l5Put_k1 (fun s => spec_l5Put_S1 d s.1 s.2)) (hr1 : HR res outs x1 spec_l5Put_R spec_l5Put_O) (st1 : Stp (List TDone) ((List TDone) × Bool × Int) ((List TDone) × Bool)) (hc1 : Cont x1 (fun s : (List TDone) × Bool × Int => Fin cx spec_l5Put_X res outs spec_l5Put_k4 (spec_l5Put_S3 list d s.1 s.2.1 s.2.2)) st1) (out4 : List TDone) (h : spec_l5Put_j2 i in_2 out4 = some st1) : Fin cx spec_l5Put_X res outs spec_l5Put_k6 (spec_l5Put_S5 list d i in_2 out4) :=
  P0 <|
 rg <| (nxtD h hc1 fun hI => sg [] [0, 3, 5, 6, 7] [(1, 0), (2, 0)] hI)
noncomputable def spec_l5Put_j3 (list : List TDone) (d : TDone) (i : Int) (out3 : List TDone) (in_2 : Bool) : Option (Stp (List TDone) ((List TDone) × Bool × Int) ((List TDone) × Bool)) :=
  ((((idx list i).bind fun done =>
 (bif (done.Req.Who != d.Req.Who) then
 (need ((out3.length + 1) * 32 ≤ 140737488355328)
 (some (Exc.brk (out3 ++ [done]))))
 else
 some (Exc.brk out3))) : Option (Exc (Stp (List TDone) ((List TDone) × Bool × Int) ((List TDone) × Bool)) (List TDone))).bind fun x => x.go some fun j => spec_l5Put_j2 i in_2 j)
theorem spec_l5Put_j3_ok (list : List TDone) (d : TDone) (i : Int) (res : V) (outs : List (Option V)) (x1 : Exc (List TDone) ((List TDone) × Bool)) (hb1 : HB cx spec_l5Put_X res outs x1 spec_l5Put_k1 (fun s => spec_l5Put_S1 d s.1 s.2)) (hr1 : HR res outs x1 spec_l5Put_R spec_l5Put_O) (st1 : Stp (List TDone) ((List TDone) × Bool × Int) ((List TDone) × Bool)) (hc1 : Cont x1 (fun s : (List TDone) × Bool × Int => Fin cx spec_l5Put_X res outs spec_l5Put_k4 (spec_l5Put_S3 list d s.1 s.2.1 s.2.2)) st1) (out3 : List TDone) (in_2 : Bool) (h : spec_l5Put_j3 list d i out3 in_2 = some st1) : Fin cx spec_l5Put_X res outs spec_l5Put_k5 (spec_l5Put_S4 list d i out3 in_2) :=
  P0 <|
 joinD (I := fun j : List TDone => Fin cx spec_l5Put_X res outs spec_l5Put_k6 (spec_l5Put_S5 list d i in_2 j)) h (fun j h => spec_l5Put_j2_ok list d i in_2 res outs x1 hb1 hr1 st1 hc1 j h) (fun x2 h hc2 =>
  rg <| ixS eDone 2 h fun done hdone h =>
 cdD 9 h (fun h =>
 rg <| ixR eDone 3 hdone <| tl (5, { a := .ck [] }) <| needD h fun e2 h =>
 apS 6 19 142 4 32 eDone out3 done e2 <| om (1 = [done].length) (by rfl) <| (jbrkD h hc2 fun hI => sg [] [0, 3, 5, 6, 7] [(1, 0), (19, 0)] hI)) (fun h =>
 (jbrkD h hc2 fun hI => sg [] [0, 3, 5, 6, 7] [(1, 0), (2, 0)] hI)))
noncomputable def spec_l5Put_b1 (list : List TDone) (d : TDone) (out : List TDone) (in_ : Bool) (i : Int) : Option (Stp (List TDone) ((List TDone) × Bool × Int) ((List TDone) × Bool)) :=
  (bif decide (i < (list.length : Int)) then
 (((bif (!in_) then
 ((idx list i).bind fun done1 =>
 (bif decide (done1.Req.Who ≥ d.Req.Who) then
 (need ((out.length + 1) * 32 ≤ 140737488355328)
 (some (Exc.brk (out ++ [d], true))))
 else
 some (Exc.brk (out, in_))))
 else
 some (Exc.brk (out, in_))) : Option (Exc (Stp (List TDone) ((List TDone) × Bool × Int) ((List TDone) × Bool)) ((List TDone) × Bool))).bind fun x => x.go some fun j => spec_l5Put_j3 list d i j.1 j.2)
 else
 some (Stp.brk (out, in_)))
theorem spec_l5Put_b1_ok (list : List TDone) (d : TDone) (res : V) (outs : List (Option V)) (x1 : Exc (List TDone) ((List TDone) × Bool)) (hb1 : HB cx spec_l5Put_X res outs x1 spec_l5Put_k1 (fun s => spec_l5Put_S1 d s.1 s.2)) (hr1 : HR res outs x1 spec_l5Put_R spec_l5Put_O) (st1 : Stp (List TDone) ((List TDone) × Bool × Int) ((List TDone) × Bool)) (hc1 : Cont x1 (fun s : (List TDone) × Bool × Int => Fin cx spec_l5Put_X res outs spec_l5Put_k4 (spec_l5Put_S3 list d s.1 s.2.1 s.2.2)) st1) (out : List TDone) (in_ : Bool) (i : Int) (h : spec_l5Put_b1 list d out in_ i = some st1) : Fin cx spec_l5Put_X res outs spec_l5Put_k4 (spec_l5Put_S3 list d out in_ i) :=
  P0 <|
 rg <| cdD 3 h (fun h =>
 joinD (I := fun j : (List TDone) × Bool => Fin cx spec_l5Put_X res outs spec_l5Put_k5 (spec_l5Put_S4 list d i j.1 j.2)) h (fun j h => spec_l5Put_j3_ok list d i res outs x1 hb1 hr1 st1 hc1 j.1 j.2 h) (fun x2 h hc2 =>
  rg <| cdD 2 h (fun h =>
 ixS eDone 5 h fun done1 hdone1 h =>
 cdD 13 h (fun h =>
 rg <| tl (2, { a := .ck [] }) <| needD h fun e3 h =>
 apS 3 24 142 4 32 eDone out d e3 <| om (1 = [d].length) (by rfl) <| rg <| (jbrkD h hc2 fun hI => sg [] [0, 3, 5, 6, 7] [(1, 0), (24, 0)] hI)) (fun h =>
 (jbrkD h hc2 fun hI => sg [] [0, 3, 5, 6, 7] [(1, 0), (2, 0)] hI))) (fun h =>
 (jbrkD h hc2 fun hI => sg [] [0, 3, 5, 6, 7] [(1, 0), (2, 0)] hI)))) (fun h =>
 (brkD h hc1 fun e => sg [] [3, 5, 6] [(1, 0), (2, 0)] (hb1 _ e)))
noncomputable def spec_l5Put (list : List TDone) (d : TDone) : Option (List TDone) :=
  ((loop (fun s : (List TDone) × Bool × Int => spec_l5Put_b1 list d s.1 s.2.1 s.2.2) (([] : List TDone), false, 0)).bind fun x => x.go (fun r => some r) fun s => spec_l5Put_k3 d s.1 s.2)
theorem spec_l5Put_ok {list : List TDone} {d : TDone} (r : List TDone) (h : spec_l5Put list d = some r) : ACalls cx.P 77 [vsl 4 eDone list, .agg (eDone d)] (spec_l5Put_R r) (spec_l5Put_O r) :=
  ACalls.of (cx := cx) (X := spec_l5Put_X) (c := spec_l5Put_c) Tryz.func77 (by kernel_rfl) (by kernel_rfl) (by kernel_rfl) (P0 <|
 rg2 <| tl (0, { a := .ck [] }) <| rg2 <| loopJ h fun x hl hr hb => om ((.own 3 0 4 0 0 : V) = .own 3 0 4 0 ([] : List TDone).length) (by simp) <| sg [.is (.tmp 5) (.own 3 0 4 0 ([] : List TDone).length)] [0, 3, 5, 6, 7] [(1, 0), (3, 0)] (loopD (I := fun s : (List TDone) × Bool × Int => Fin cx spec_l5Put_X (spec_l5Put_R r) (spec_l5Put_O r) spec_l5Put_k4 (spec_l5Put_S3 list d s.1 s.2.1 s.2.2)) hl fun s st h hc => spec_l5Put_b1_ok list d _ _ x (fun s e => spec_l5Put_k3_ok d r s.1 s.2 (hb s e)) (fun v e => ⟨congrArg spec_l5Put_R (Option.some.inj (hr v e)).symm, congrArg spec_l5Put_O (Option.some.inj (hr v e)).symm⟩) st hc s.1 s.2.1 s.2.2 h))

/-! ### spec_l5Apply -/
noncomputable def spec_l5Apply_c : Code := bodyOf Tryz.f39
noncomputable def spec_l5Apply_X : Sig := { f := 39, fn := Tryz.f39, rms := [.val [none, some 2, some 4] [none, some 159, none], .val [] []], oms := [none, none] }
noncomputable def spec_l5Apply_R (r : TState × Int) : V := .tup [.agg [vi r.1.At, vosl 159 2 eBox r.1.Boxes, vsl 4 eDone r.1.Dones], vi r.2]
noncomputable def spec_l5Apply_O (r : TState × Int) : List (Option V) := [none, none]
noncomputable def spec_l5Apply_t (i : Nat) (fr : Bool) (r : TState × Int) : Nat × Tell := (i, { a := .call [.val [none, some 2, some 4] [none, some 159, none], .val ck68 []] fr (spec_l5Apply_R r) (spec_l5Apply_O r) })
noncomputable def spec_l5Apply_k1 : List Item := posI 2000 6 [false, false, false] [.code spec_l5Apply_c]
noncomputable def spec_l5Apply_S1 (s_ : TState) (e_ : TEntry) : St := ⟨(bs 2 (.ptr 1 0 0 :: (.ptr 2 0 0 :: (.ptr 3 0 0 :: (bs 78 []))))), [some [erow 159 2 eBox s_.Boxes], some [.var 59 [vi (w64 (s_.At + 1)), .own 0 0 2 0 s_.Boxes.length, vsl 4 eDone s_.Dones]], some [.var 68 [.b e_.None, vi e_.Req.Who, vi e_.Req.Seq, vsl 2 eRead e_.Run.Reads, vsl 2 ePut e_.Run.Puts, vi e_.Run.Val, vi e_.Run.Code]], some [.var 59 [vi 0, .nil, .nil]]]⟩
noncomputable def spec_l5Apply_k2 : List Item := posI 2000 9 [false, false, false, true] [.code spec_l5Apply_c]
noncomputable def spec_l5Apply_S2 (s_ : TState) (e_ : TEntry) (dCode : Int) : St := ⟨(bs 2 (.ptr 1 0 0 :: (.ptr 2 0 0 :: (.ptr 3 0 0 :: (bs 3 (.ptr 4 0 0 :: (bs 74 []))))))), [some [erow 159 2 eBox s_.Boxes], some [.var 59 [vi (w64 (s_.At + 1)), .own 0 0 2 0 s_.Boxes.length, vsl 4 eDone s_.Dones]], some [.var 68 [.b e_.None, vi e_.Req.Who, vi e_.Req.Seq, vsl 2 eRead e_.Run.Reads, vsl 2 ePut e_.Run.Puts, vi e_.Run.Val, vi e_.Run.Code]], some [.var 59 [vi 0, .nil, .nil]], some [.var 142 [vi e_.Req.Who, vi e_.Req.Seq, vi dCode, vi 0]]]⟩
noncomputable def spec_l5Apply_k3 : List Item := posI 2000 13 [false, false, false, true, true] [.code spec_l5Apply_c]
noncomputable def spec_l5Apply_S3 (s_ : TState) (d : TDone) (Boxes : List TBox) : St := ⟨(bs 2 (.ptr 1 0 0 :: (bs 1 (.ptr 3 0 0 :: (bs 3 (.ptr 4 0 0 :: (bs 74 []))))))), [some [.dead], some [.var 59 [vi (w64 (s_.At + 1)), .own 2 0 2 0 Boxes.length, vsl 4 eDone s_.Dones]], some [erow 159 2 eBox Boxes], some [.var 59 [vi 0, .nil, .nil]], some [.var 142 [vi d.Req.Who, vi d.Req.Seq, vi d.Code, vi d.Val]]]⟩
noncomputable def spec_l5Apply_j1 (s_ : TState) (d : TDone) (Boxes : List TBox) : Option (TState × Int) :=
  ((spec_l5Put s_.Dones d).bind fun l5Put =>
 some ((TState.mk (w64 (s_.At + 1)) Boxes l5Put), d.Code))
theorem spec_l5Apply_j1_ok (s_ : TState) (r : TState × Int) (d : TDone) (Boxes : List TBox) (h : spec_l5Apply_j1 s_ d Boxes = some r) : Fin cx spec_l5Apply_X (spec_l5Apply_R r) (spec_l5Apply_O r) spec_l5Apply_k3 (spec_l5Apply_S3 s_ d Boxes) :=
  P0 <|
 rg <| cb spec_l5Put_t spec_l5Put_ok 3 false h fun l5Put h =>
 rg <| om (Boxes.length = Boxes.length) rfl <| fe Tryz.func39 h
noncomputable def spec_l5Apply_j2 (s_ : TState) (e_ : TEntry) (dCode : Int) : Option (TState × Int) :=
  (((bif (dCode == 2) then
 (bif (e_.Run.Code == 0) then
 ((spec_l3Do s_.Boxes e_.Run).bind fun l3Do =>
 some (Exc.brk ((TDone.mk e_.Req 0 e_.Run.Val), l3Do)))
 else
 some (Exc.brk ((TDone.mk e_.Req dCode 0), s_.Boxes)))
 else
 some (Exc.brk ((TDone.mk e_.Req dCode 0), s_.Boxes))) : Option (Exc (TState × Int) (TDone × List TBox))).bind fun x => x.go some fun j => spec_l5Apply_j1 s_ j.1 j.2)
theorem spec_l5Apply_j2_ok (s_ : TState) (e_ : TEntry) (r : TState × Int) (dCode : Int) (h : spec_l5Apply_j2 s_ e_ dCode = some r) : Fin cx spec_l5Apply_X (spec_l5Apply_R r) (spec_l5Apply_O r) spec_l5Apply_k2 (spec_l5Apply_S2 s_ e_ dCode) :=
  P0 <|
 joinD (I := fun j : TDone × List TBox => Fin cx spec_l5Apply_X (spec_l5Apply_R r) (spec_l5Apply_O r) spec_l5Apply_k3 (spec_l5Apply_S3 s_ j.1 j.2)) h (fun j h => spec_l5Apply_j1_ok s_ r j.1 j.2 h) (fun x1 h hc1 =>
  rg <| cdD 3 h (fun h =>
 cdD 8 h (fun h =>
 rg3 <| cb spec_l3Do_t spec_l3Do_ok 4 false h fun l3Do h =>
 om (s_.Boxes.length = s_.Boxes.length) rfl <| (jbrkD h hc1 fun hI => sg [] [2, 4, 8] [(1, 0), (25, 0), (3, 0), (4, 0)] hI)) (fun h =>
 (jbrkD h hc1 fun hI => sg [] [2, 4, 8] [(1, 0), (0, 0), (3, 0), (4, 0)] hI))) (fun h =>
 (jbrkD h hc1 fun hI => sg [] [2, 4, 8] [(1, 0), (0, 0), (3, 0), (4, 0)] hI)))
noncomputable def spec_l5Apply_j3 (s_ : TState) (e_ : TEntry) : Option (TState × Int) :=
  ((((spec_ExecFresh s_.Boxes e_.Run).bind fun execFresh =>
 (bif execFresh then
 some (Exc.brk 2)
 else
 some (Exc.brk 1))) : Option (Exc (TState × Int) Int)).bind fun x => x.go some fun j => spec_l5Apply_j2 s_ e_ j)
theorem spec_l5Apply_j3_ok (s_ : TState) (e_ : TEntry) (r : TState × Int) (h : spec_l5Apply_j3 s_ e_ = some r) : Fin cx spec_l5Apply_X (spec_l5Apply_R r) (spec_l5Apply_O r) spec_l5Apply_k1 (spec_l5Apply_S1 s_ e_) :=
  P0 <|
 rg <| joinD (I := fun j : Int => Fin cx spec_l5Apply_X (spec_l5Apply_R r) (spec_l5Apply_O r) spec_l5Apply_k2 (spec_l5Apply_S2 s_ e_ j)) h (fun j h => spec_l5Apply_j2_ok s_ e_ r j h) (fun x1 h hc1 =>
  rg <| cbE spec_ExecFresh_t spec_ExecFresh_ok h fun execFresh hexecFresh h =>
 cdT (spec_ExecFresh_t 4 true execFresh) h (fun _ h =>
 ob hexecFresh <| om (ScalR (spec_ExecFresh_R execFresh) ∧ ScalO (spec_ExecFresh_O execFresh)) ⟨rfl, scalO_none 2⟩ <| om (s_.Boxes.length = s_.Boxes.length) rfl <| rg <| (jbrkD h hc1 fun hI => sg [] [2, 3, 4, 8] [(1, 0), (2, 0), (3, 0), (7, 0)] hI)) (fun _ h =>
 ob hexecFresh <| om (ScalR (spec_ExecFresh_R execFresh) ∧ ScalO (spec_ExecFresh_O execFresh)) ⟨rfl, scalO_none 2⟩ <| om (s_.Boxes.length = s_.Boxes.length) rfl <| (jbrkD h hc1 fun hI => sg [] [2, 3, 4, 8] [(1, 0), (2, 0), (3, 0), (7, 0)] hI)))
noncomputable def spec_l5Apply (s_ : TState) (e_ : TEntry) : Option (TState × Int) :=
  (bif e_.None then
 some ((TState.mk (w64 (s_.At + 1)) s_.Boxes s_.Dones), 5)
 else
 ((spec_l5Last (TState.mk (w64 (s_.At + 1)) s_.Boxes s_.Dones) e_.Req.Who).bind fun l5Last =>
 (((bif l5Last.2 then
 (bif (([l5Last.1.Req.Who, l5Last.1.Req.Seq] : List Int) == [e_.Req.Who, e_.Req.Seq]) then
 some (Exc.ret ((TState.mk (w64 (s_.At + 1)) s_.Boxes s_.Dones), 3))
 else
 (bif l5Last.2 then
 (bif decide (l5Last.1.Req.Seq > e_.Req.Seq) then
 some (Exc.ret ((TState.mk (w64 (s_.At + 1)) s_.Boxes s_.Dones), 4))
 else
 some (Exc.brk ()))
 else
 some (Exc.brk ())))
 else
 (bif l5Last.2 then
 (bif decide (l5Last.1.Req.Seq > e_.Req.Seq) then
 some (Exc.ret ((TState.mk (w64 (s_.At + 1)) s_.Boxes s_.Dones), 4))
 else
 some (Exc.brk ()))
 else
 some (Exc.brk ()))) : Option (Exc (TState × Int) Unit)).bind fun x => x.go some fun j => spec_l5Apply_j3 s_ e_)))
theorem spec_l5Apply_ok {s_ : TState} {e_ : TEntry} (r : TState × Int) (h : spec_l5Apply s_ e_ = some r) : ACalls cx.P 39 [.agg [vi s_.At, vosl 159 2 eBox s_.Boxes, vsl 4 eDone s_.Dones], .agg (eEntry e_)] (spec_l5Apply_R r) (spec_l5Apply_O r) :=
  ACalls.of (cx := cx) (X := spec_l5Apply_X) (c := spec_l5Apply_c) Tryz.func39 (by kernel_rfl) (by kernel_rfl) (by kernel_rfl) (P0 <|
 rg3 <| cdD 1 h (fun h =>
 rg <| om (s_.Boxes.length = s_.Boxes.length) rfl <| fe Tryz.func39 h) (fun h =>
 rg <| cb spec_l5Last_t spec_l5Last_ok 4 true h fun l5Last h =>
 om (ScalR (spec_l5Last_R l5Last) ∧ ScalO (spec_l5Last_O l5Last)) ⟨(by simp [spec_l5Last_R, ScalR, ScalA, ScalC, V.simple, vi, vosl, eB, eDone, eI, eReq]), scalO_none 2⟩ <| om (s_.Boxes.length = s_.Boxes.length) rfl <| joinD (I := fun j : Unit => Fin cx spec_l5Apply_X (spec_l5Apply_R r) (spec_l5Apply_O r) spec_l5Apply_k1 (spec_l5Apply_S1 s_ e_)) h (fun j h => spec_l5Apply_j3_ok s_ e_ r h) (fun x1 h hc1 =>
  rg <| cdD 1 h (fun h =>
 cdD 8 h (fun h =>
 rg <| (jretD h hc1 fun h => om (s_.Boxes.length = s_.Boxes.length) rfl <| fe Tryz.func39 h)) (fun h =>
 rg <| cdD 1 h (fun h =>
 cdD 10 h (fun h =>
 rg <| (jretD h hc1 fun h => om (s_.Boxes.length = s_.Boxes.length) rfl <| fe Tryz.func39 h)) (fun h =>
 (jbrkD h hc1 fun hI => sg [] [2, 3, 4] [(1, 0), (2, 0), (3, 0)] hI))) (fun h =>
 (jbrkD h hc1 fun hI => sg [] [2, 3, 4] [(1, 0), (2, 0), (3, 0)] hI)))) (fun h =>
 rg <| cdD 1 h (fun h =>
 cdD 10 h (fun h =>
 rg <| (jretD h hc1 fun h => om (s_.Boxes.length = s_.Boxes.length) rfl <| fe Tryz.func39 h)) (fun h =>
 (jbrkD h hc1 fun hI => sg [] [2, 3, 4] [(1, 0), (2, 0), (3, 0)] hI))) (fun h =>
 (jbrkD h hc1 fun hI => sg [] [2, 3, 4] [(1, 0), (2, 0), (3, 0)] hI))))))

/-! ### spec_l10Code -/
noncomputable def spec_l10Code_c : Code := bodyOf Tryz.f15
noncomputable def spec_l10Code_X : Sig := { f := 15, fn := Tryz.f15, rms := [.val [] [], .val [] []], oms := [none, none] }
noncomputable def spec_l10Code_R (r : Int × Bool) : V := .tup [vi r.1, .b r.2]
noncomputable def spec_l10Code_O (r : Int × Bool) : List (Option V) := [none, none]
noncomputable def spec_l10Code_t (i : Nat) (fr : Bool) (r : Int × Bool) : Nat × Tell := (i, { a := .call [.val [some 7] [], .val [] []] fr (spec_l10Code_R r) (spec_l10Code_O r) })
noncomputable def spec_l10Code_k1 : List Item := posI 2000 4 [false] [.code spec_l10Code_c]
noncomputable def spec_l10Code_S1 : St := ⟨(bs 43 []), [some []]⟩
noncomputable def spec_l10Code_k2 : Option (Int × Bool) :=
  some (0, false)
theorem spec_l10Code_k2_ok (r : Int × Bool) (h : spec_l10Code_k2 = some r) : Fin cx spec_l10Code_X (spec_l10Code_R r) (spec_l10Code_O r) spec_l10Code_k1 (spec_l10Code_S1) :=
  P0 <|
 rg <| fe Tryz.func15 h
noncomputable def spec_l10Code_k3 : List Item := posI 2000 3 [] [.code spec_l10Code_c]
noncomputable def spec_l10Code_S2 (list : List TEntry) (q : TReq) (Boxes : List TBox) (i : Int) (sAt : Int) (sDones : List TDone) : St := ⟨(vsl 7 eEntry list :: (bs 2 (.ptr 1 0 0 :: (bs 2 (.ptr 2 0 0 :: (vi i :: (bs 35 []))))))), [some [], some [.var 46 [vi q.Who, vi q.Seq]], some [.var 59 [vi sAt, .own 3 0 2 0 Boxes.length, vsl 4 eDone sDones]], some [erow 159 2 eBox Boxes]]⟩
noncomputable def spec_l10Code_k4 : List Item := posI 2000 7 [true, false] [.code spec_l10Code_c]
noncomputable def spec_l10Code_S3 (list : List TEntry) (q : TReq) (i : Int) (l5Apply : TState × Int) : St := ⟨(vsl 7 eEntry list :: (bs 2 (.ptr 1 0 0 :: (bs 2 (.ptr 2 0 0 :: (vi i :: (bs 35 []))))))), [some [], some [.var 46 [vi q.Who, vi q.Seq]], some [.var 59 [vi l5Apply.1.At, .own 3 0 2 0 l5Apply.1.Boxes.length, vsl 4 eDone l5Apply.1.Dones]], some [erow 159 2 eBox l5Apply.1.Boxes]]⟩
noncomputable def spec_l10Code_j1 (i : Int) (l5Apply : TState × Int) : Option (Stp (Int × Bool) ((List TBox) × Int × Int × List TDone) Unit) :=
  some (Stp.nxt (l5Apply.1.Boxes, w64 (i + 1), l5Apply.1.At, l5Apply.1.Dones))
theorem spec_l10Code_j1_ok (list : List TEntry) (q : TReq) (i : Int) (l5Apply : TState × Int) (res : V) (outs : List (Option V)) (x1 : Exc (Int × Bool) Unit) (hb1 : HB cx spec_l10Code_X res outs x1 spec_l10Code_k1 (fun s => spec_l10Code_S1)) (hr1 : HR res outs x1 spec_l10Code_R spec_l10Code_O) (st1 : Stp (Int × Bool) ((List TBox) × Int × Int × List TDone) Unit) (hc1 : Cont x1 (fun s : (List TBox) × Int × Int × List TDone => Fin cx spec_l10Code_X res outs spec_l10Code_k3 (spec_l10Code_S2 list q s.1 s.2.1 s.2.2.1 s.2.2.2)) st1) (h : spec_l10Code_j1 i l5Apply = some st1) : Fin cx spec_l10Code_X res outs spec_l10Code_k4 (spec_l10Code_S3 list q i l5Apply) :=
  P0 <|
 rg <| (nxtD h hc1 fun hI => sg [] [0, 3, 6, 7] [(1, 0), (2, 0), (3, 0)] hI)
noncomputable def spec_l10Code_b1 (list : List TEntry) (q : TReq) (Boxes : List TBox) (i : Int) (sAt : Int) (sDones : List TDone) : Option (Stp (Int × Bool) ((List TBox) × Int × Int × List TDone) Unit) :=
  (bif decide (i < (list.length : Int)) then
 ((idx list i).bind fun entry =>
 ((spec_l5Apply (TState.mk sAt Boxes sDones) entry).bind fun l5Apply =>
 (((bif (!entry.None) then
 (bif (([entry.Req.Who, entry.Req.Seq] : List Int) == [q.Who, q.Seq]) then
 some (Exc.ret (Stp.ret (l5Apply.2, true)))
 else
 some (Exc.brk ()))
 else
 some (Exc.brk ())) : Option (Exc (Stp (Int × Bool) ((List TBox) × Int × Int × List TDone) Unit) Unit)).bind fun x => x.go some fun j => spec_l10Code_j1 i l5Apply)))
 else
 some (Stp.brk ()))
theorem spec_l10Code_b1_ok (list : List TEntry) (q : TReq) (res : V) (outs : List (Option V)) (x1 : Exc (Int × Bool) Unit) (hb1 : HB cx spec_l10Code_X res outs x1 spec_l10Code_k1 (fun s => spec_l10Code_S1)) (hr1 : HR res outs x1 spec_l10Code_R spec_l10Code_O) (st1 : Stp (Int × Bool) ((List TBox) × Int × Int × List TDone) Unit) (hc1 : Cont x1 (fun s : (List TBox) × Int × Int × List TDone => Fin cx spec_l10Code_X res outs spec_l10Code_k3 (spec_l10Code_S2 list q s.1 s.2.1 s.2.2.1 s.2.2.2)) st1) (Boxes : List TBox) (i : Int) (sAt : Int) (sDones : List TDone) (h : spec_l10Code_b1 list q Boxes i sAt sDones = some st1) : Fin cx spec_l10Code_X res outs spec_l10Code_k3 (spec_l10Code_S2 list q Boxes i sAt sDones) :=
  P0 <|
 rg <| cdD 3 h (fun h =>
 rg <| ixS eEntry 3 h fun entry hentry h =>
 cb spec_l5Apply_t spec_l5Apply_ok 5 false h fun l5Apply h =>
 om (Boxes.length = Boxes.length) rfl <| rg <| joinD (I := fun j : Unit => Fin cx spec_l10Code_X res outs spec_l10Code_k4 (spec_l10Code_S3 list q i l5Apply)) h (fun j h => spec_l10Code_j1_ok list q i l5Apply res outs x1 hb1 hr1 st1 hc1 h) (fun x2 h hc2 =>
  rg <| ixR eEntry 2 hentry <| cdD 6 h (fun h =>
 ixR eEntry 9 hentry <| cdD 14 h (fun h =>
 rg <| (jretD h hc2 fun h => (retD h hc1 fun e => fn0 Tryz.func15 (hr1 _ e)))) (fun h =>
 (jbrkD h hc2 fun hI => sg [] [0, 3, 6, 7] [(1, 0), (2, 0), (13, 0)] hI))) (fun h =>
 (jbrkD h hc2 fun hI => sg [] [0, 3, 6, 7] [(1, 0), (2, 0), (13, 0)] hI)))) (fun h =>
 (brkD h hc1 fun e => sg [] [] [] (hb1 _ e)))
noncomputable def spec_l10Code (list : List TEntry) (q : TReq) : Option (Int × Bool) :=
  ((spec_CertOpen).bind fun certOpen =>
 ((loop (fun s : (List TBox) × Int × Int × List TDone => spec_l10Code_b1 list q s.1 s.2.1 s.2.2.1 s.2.2.2) (certOpen.Boxes, 0, certOpen.At, certOpen.Dones)).bind fun x => x.go (fun r => some r) fun s => spec_l10Code_k2))
theorem spec_l10Code_ok {list : List TEntry} {q : TReq} (r : Int × Bool) (h : spec_l10Code list q = some r) : ACalls cx.P 15 [vsl 7 eEntry list, .agg (eReq q)] (spec_l10Code_R r) (spec_l10Code_O r) :=
  ACalls.of (cx := cx) (X := spec_l10Code_X) (c := spec_l10Code_c) Tryz.func15 (by kernel_rfl) (by kernel_rfl) (by kernel_rfl) (P0 <|
 rg2 <| cb spec_CertOpen_t spec_CertOpen_ok 0 false h fun certOpen h =>
 rg <| loopJ h fun x hl hr hb => sg [] [0, 3, 6, 7] [(1, 0), (5, 0), (4, 0)] (loopD (I := fun s : (List TBox) × Int × Int × List TDone => Fin cx spec_l10Code_X (spec_l10Code_R r) (spec_l10Code_O r) spec_l10Code_k3 (spec_l10Code_S2 list q s.1 s.2.1 s.2.2.1 s.2.2.2)) hl fun s st h hc => spec_l10Code_b1_ok list q _ _ x (fun s e => spec_l10Code_k2_ok r (hb s e)) (fun v e => ⟨congrArg spec_l10Code_R (Option.some.inj (hr v e)).symm, congrArg spec_l10Code_O (Option.some.inj (hr v e)).symm⟩) st hc s.1 s.2.1 s.2.2.1 s.2.2.2 h))

/-! ### spec_l10Val -/
noncomputable def spec_l10Val_c : Code := bodyOf Tryz.f16
noncomputable def spec_l10Val_X : Sig := { f := 16, fn := Tryz.f16, rms := [.val [] []], oms := [none, none] }
noncomputable def spec_l10Val_R (r : Int) : V := vi r
noncomputable def spec_l10Val_O (r : Int) : List (Option V) := [none, none]
noncomputable def spec_l10Val_t (i : Nat) (fr : Bool) (r : Int) : Nat × Tell := (i, { a := .call [.val [some 7] [], .val [] []] fr (spec_l10Val_R r) (spec_l10Val_O r) })
noncomputable def spec_l10Val_k1 : List Item := posI 2000 3 [false] [.code spec_l10Val_c]
noncomputable def spec_l10Val_S1 : St := ⟨(bs 33 []), [some []]⟩
noncomputable def spec_l10Val_k2 : Option Int :=
  some 0
theorem spec_l10Val_k2_ok (r : Int) (h : spec_l10Val_k2 = some r) : Fin cx spec_l10Val_X (spec_l10Val_R r) (spec_l10Val_O r) spec_l10Val_k1 (spec_l10Val_S1) :=
  P0 <|
 rg <| fe Tryz.func16 h
noncomputable def spec_l10Val_k3 : List Item := posI 2000 2 [] [.code spec_l10Val_c]
noncomputable def spec_l10Val_S2 (list : List TEntry) (q : TReq) (i : Int) : St := ⟨(vsl 7 eEntry list :: (bs 2 (.ptr 1 0 0 :: (bs 1 (vi i :: (bs 27 [])))))), [some [], some [.var 46 [vi q.Who, vi q.Seq]]]⟩
noncomputable def spec_l10Val_k4 : List Item := posI 2000 4 [true, false] [.code spec_l10Val_c]
noncomputable def spec_l10Val_S3 (list : List TEntry) (q : TReq) (i : Int) : St := ⟨(vsl 7 eEntry list :: (bs 2 (.ptr 1 0 0 :: (bs 1 (vi i :: (bs 27 [])))))), [some [], some [.var 46 [vi q.Who, vi q.Seq]]]⟩
noncomputable def spec_l10Val_j1 (i : Int) : Option (Stp Int Int Unit) :=
  some (Stp.nxt (w64 (i + 1)))
theorem spec_l10Val_j1_ok (list : List TEntry) (q : TReq) (i : Int) (res : V) (outs : List (Option V)) (x1 : Exc Int Unit) (hb1 : HB cx spec_l10Val_X res outs x1 spec_l10Val_k1 (fun s => spec_l10Val_S1)) (hr1 : HR res outs x1 spec_l10Val_R spec_l10Val_O) (st1 : Stp Int Int Unit) (hc1 : Cont x1 (fun s : Int => Fin cx spec_l10Val_X res outs spec_l10Val_k3 (spec_l10Val_S2 list q s)) st1) (h : spec_l10Val_j1 i = some st1) : Fin cx spec_l10Val_X res outs spec_l10Val_k4 (spec_l10Val_S3 list q i) :=
  P0 <|
 rg <| (nxtD h hc1 fun hI => sg [] [0, 3, 5] [(1, 0)] hI)
noncomputable def spec_l10Val_b1 (list : List TEntry) (q : TReq) (i : Int) : Option (Stp Int Int Unit) :=
  (bif decide (i < (list.length : Int)) then
 ((((idx list i).bind fun entry =>
 (bif (!entry.None) then
 (bif (([entry.Req.Who, entry.Req.Seq] : List Int) == [q.Who, q.Seq]) then
 some (Exc.ret (Stp.ret entry.Run.Val))
 else
 some (Exc.brk ()))
 else
 some (Exc.brk ()))) : Option (Exc (Stp Int Int Unit) Unit)).bind fun x => x.go some fun j => spec_l10Val_j1 i)
 else
 some (Stp.brk ()))
theorem spec_l10Val_b1_ok (list : List TEntry) (q : TReq) (res : V) (outs : List (Option V)) (x1 : Exc Int Unit) (hb1 : HB cx spec_l10Val_X res outs x1 spec_l10Val_k1 (fun s => spec_l10Val_S1)) (hr1 : HR res outs x1 spec_l10Val_R spec_l10Val_O) (st1 : Stp Int Int Unit) (hc1 : Cont x1 (fun s : Int => Fin cx spec_l10Val_X res outs spec_l10Val_k3 (spec_l10Val_S2 list q s)) st1) (i : Int) (h : spec_l10Val_b1 list q i = some st1) : Fin cx spec_l10Val_X res outs spec_l10Val_k3 (spec_l10Val_S2 list q i) :=
  P0 <|
 rg <| cdD 3 h (fun h =>
 joinD (I := fun j : Unit => Fin cx spec_l10Val_X res outs spec_l10Val_k4 (spec_l10Val_S3 list q i)) h (fun j h => spec_l10Val_j1_ok list q i res outs x1 hb1 hr1 st1 hc1 h) (fun x2 h hc2 =>
  rg <| ixS eEntry 2 h fun entry hentry h =>
 cdD 6 h (fun h =>
 ixR eEntry 9 hentry <| cdD 14 h (fun h =>
 rg <| ixR eEntry 2 hentry <| (jretD h hc2 fun h => (retD h hc1 fun e => fn0 Tryz.func16 (hr1 _ e)))) (fun h =>
 (jbrkD h hc2 fun hI => sg [] [0, 3, 5] [(1, 0)] hI))) (fun h =>
 (jbrkD h hc2 fun hI => sg [] [0, 3, 5] [(1, 0)] hI)))) (fun h =>
 (brkD h hc1 fun e => sg [] [] [] (hb1 _ e)))
noncomputable def spec_l10Val (list : List TEntry) (q : TReq) : Option Int :=
  ((loop (fun s : Int => spec_l10Val_b1 list q s) 0).bind fun x => x.go (fun r => some r) fun s => spec_l10Val_k2)
theorem spec_l10Val_ok {list : List TEntry} {q : TReq} (r : Int) (h : spec_l10Val list q = some r) : ACalls cx.P 16 [vsl 7 eEntry list, .agg (eReq q)] (spec_l10Val_R r) (spec_l10Val_O r) :=
  ACalls.of (cx := cx) (X := spec_l10Val_X) (c := spec_l10Val_c) Tryz.func16 (by kernel_rfl) (by kernel_rfl) (by kernel_rfl) (P0 <|
 rg2 <| loopJ h fun x hl hr hb => sg [] [0, 3, 5] [(1, 0)] (loopD (I := fun s : Int => Fin cx spec_l10Val_X (spec_l10Val_R r) (spec_l10Val_O r) spec_l10Val_k3 (spec_l10Val_S2 list q s)) hl fun s st h hc => spec_l10Val_b1_ok list q _ _ x (fun s e => spec_l10Val_k2_ok r (hb s e)) (fun v e => ⟨congrArg spec_l10Val_R (Option.some.inj (hr v e)).symm, congrArg spec_l10Val_O (Option.some.inj (hr v e)).symm⟩) st hc s h))

/-! ### spec_ToldTrue -/
noncomputable def spec_ToldTrue_c : Code := bodyOf Tryz.f5
noncomputable def spec_ToldTrue_X : Sig := { f := 5, fn := Tryz.f5, rms := [.val [] []], oms := [none] }
noncomputable def spec_ToldTrue_R (r : Bool) : V := .b r
noncomputable def spec_ToldTrue_O (r : Bool) : List (Option V) := [none]
noncomputable def spec_ToldTrue_t (i : Nat) (fr : Bool) (r : Bool) : Nat × Tell := (i, { a := .call [.val ck35 []] fr (spec_ToldTrue_R r) (spec_ToldTrue_O r) })
noncomputable def spec_ToldTrue_k1 : List Item := posI 2000 5 [false, false] [.code spec_ToldTrue_c]
noncomputable def spec_ToldTrue_S1 : St := ⟨(bs 53 []), [some []]⟩
noncomputable def spec_ToldTrue_k2 : Option Bool :=
  some true
theorem spec_ToldTrue_k2_ok (r : Bool) (h : spec_ToldTrue_k2 = some r) : Fin cx spec_ToldTrue_X (spec_ToldTrue_R r) (spec_ToldTrue_O r) spec_ToldTrue_k1 (spec_ToldTrue_S1) :=
  P0 <|
 rg <| fe Tryz.func5 h
noncomputable def spec_ToldTrue_k3 : List Item := posI 2000 4 [false] [.code spec_ToldTrue_c]
noncomputable def spec_ToldTrue_S2 (w : TWorld) (worldLog : List TEntry) (i : Int) : St := ⟨(bs 1 (.ptr 1 0 0 :: (bs 1 (vsl 7 eEntry worldLog :: (vi i :: (bs 48 [])))))), [some [], some [.var 35 [vsl 27 eNode w.Nodes, vsl 13 eMsg w.Net, vsl 3 eAsked w.Asked, vsl 5 eTold w.Told]]]⟩
noncomputable def spec_ToldTrue_k4 : List Item := posI 2000 10 [false, true, true] [.code spec_ToldTrue_c]
noncomputable def spec_ToldTrue_S3 (w : TWorld) (worldLog : List TEntry) (i : Int) (told : TTold) (l10Code : Int × Bool) (v_ : Int) : St := ⟨(bs 1 (.ptr 1 0 0 :: (bs 1 (vsl 7 eEntry worldLog :: (vi i :: (.ptr 2 0 0 :: (vi l10Code.1 :: (.b l10Code.2 :: (vi v_ :: (bs 44 [])))))))))), [some [], some [.var 35 [vsl 27 eNode w.Nodes, vsl 13 eMsg w.Net, vsl 3 eAsked w.Asked, vsl 5 eTold w.Told]], some [.var 48 [vi told.Node, vi told.Req.Who, vi told.Req.Seq, vi told.Code, vi told.Val]]]⟩
noncomputable def spec_ToldTrue_j1 (i : Int) (told : TTold) (l10Code : Int × Bool) (v_ : Int) : Option (Stp Bool Int Unit) :=
  (bif (!l10Code.2) then
 some (Stp.ret false)
 else
 (bif (l10Code.1 != told.Code) then
 some (Stp.ret false)
 else
 (bif (v_ != told.Val) then
 some (Stp.ret false)
 else
 some (Stp.nxt (w64 (i + 1))))))
theorem spec_ToldTrue_j1_ok (w : TWorld) (worldLog : List TEntry) (i : Int) (told : TTold) (l10Code : Int × Bool) (res : V) (outs : List (Option V)) (x1 : Exc Bool Unit) (hb1 : HB cx spec_ToldTrue_X res outs x1 spec_ToldTrue_k1 (fun s => spec_ToldTrue_S1)) (hr1 : HR res outs x1 spec_ToldTrue_R spec_ToldTrue_O) (st1 : Stp Bool Int Unit) (hc1 : Cont x1 (fun s : Int => Fin cx spec_ToldTrue_X res outs spec_ToldTrue_k3 (spec_ToldTrue_S2 w worldLog s)) st1) (v_ : Int) (h : spec_ToldTrue_j1 i told l10Code v_ = some st1) : Fin cx spec_ToldTrue_X res outs spec_ToldTrue_k4 (spec_ToldTrue_S3 w worldLog i told l10Code v_) :=
  P0 <|
 rg <| cdD 2 h (fun h =>
 rg <| (retD h hc1 fun e => fn0 Tryz.func5 (hr1 _ e))) (fun h =>
 cdD 8 h (fun h =>
 rg <| (retD h hc1 fun e => fn0 Tryz.func5 (hr1 _ e))) (fun h =>
 cdD 13 h (fun h =>
 rg <| (retD h hc1 fun e => fn0 Tryz.func5 (hr1 _ e))) (fun h =>
 rg <| (nxtD h hc1 fun hI => sg [] [1, 3, 4] [(1, 0)] hI))))
noncomputable def spec_ToldTrue_b1 (w : TWorld) (worldLog : List TEntry) (i : Int) : Option (Stp Bool Int Unit) :=
  (bif decide (i < (w.Told.length : Int)) then
 ((idx w.Told i).bind fun told =>
 ((spec_l10Code worldLog told.Req).bind fun l10Code =>
 (((bif (l10Code.1 == 0) then
 ((spec_l10Val worldLog told.Req).bind fun l10Val =>
 some (Exc.brk l10Val))
 else
 some (Exc.brk 0)) : Option (Exc (Stp Bool Int Unit) Int)).bind fun x => x.go some fun j => spec_ToldTrue_j1 i told l10Code j)))
 else
 some (Stp.brk ()))
theorem spec_ToldTrue_b1_ok (w : TWorld) (worldLog : List TEntry) (res : V) (outs : List (Option V)) (x1 : Exc Bool Unit) (hb1 : HB cx spec_ToldTrue_X res outs x1 spec_ToldTrue_k1 (fun s => spec_ToldTrue_S1)) (hr1 : HR res outs x1 spec_ToldTrue_R spec_ToldTrue_O) (st1 : Stp Bool Int Unit) (hc1 : Cont x1 (fun s : Int => Fin cx spec_ToldTrue_X res outs spec_ToldTrue_k3 (spec_ToldTrue_S2 w worldLog s)) st1) (i : Int) (h : spec_ToldTrue_b1 w worldLog i = some st1) : Fin cx spec_ToldTrue_X res outs spec_ToldTrue_k3 (spec_ToldTrue_S2 w worldLog i) :=
  P0 <|
 rg <| cdD 4 h (fun h =>
 rg <| ixS eTold 3 h fun told htold h =>
 rg <| cb spec_l10Code_t spec_l10Code_ok 3 false h fun l10Code h =>
 rg <| joinD (I := fun j : Int => Fin cx spec_ToldTrue_X res outs spec_ToldTrue_k4 (spec_ToldTrue_S3 w worldLog i told l10Code j)) h (fun j h => spec_ToldTrue_j1_ok w worldLog i told l10Code res outs x1 hb1 hr1 st1 hc1 j h) (fun x2 h hc2 =>
  rg <| cdD 1 h (fun h =>
 rg <| cb spec_l10Val_t spec_l10Val_ok 3 false h fun l10Val h =>
 (jbrkD h hc2 fun hI => sg [] [1, 3, 4, 5, 6, 7, 8] [(1, 0), (12, 0)] hI)) (fun h =>
 (jbrkD h hc2 fun hI => sg [] [1, 3, 4, 5, 6, 7, 8] [(1, 0), (12, 0)] hI)))) (fun h =>
 (brkD h hc1 fun e => sg [] [] [] (hb1 _ e)))
noncomputable def spec_ToldTrue (w : TWorld) : Option Bool :=
  ((spec_WorldOk w).bind fun worldOk =>
 (bif (!worldOk) then
 some false
 else
 ((spec_WorldLog w).bind fun worldLog =>
 ((loop (fun s : Int => spec_ToldTrue_b1 w worldLog s) 0).bind fun x => x.go (fun r => some r) fun s => spec_ToldTrue_k2))))
theorem spec_ToldTrue_ok {w : TWorld} (r : Bool) (h : spec_ToldTrue w = some r) : ACalls cx.P 5 [.agg (eWorld w)] (spec_ToldTrue_R r) (spec_ToldTrue_O r) :=
  ACalls.of (cx := cx) (X := spec_ToldTrue_X) (c := spec_ToldTrue_c) Tryz.func5 (by kernel_rfl) (by kernel_rfl) (by kernel_rfl) (P0 <|
 rg2 <| cb spec_WorldOk_t spec_WorldOk_ok 1 false h fun worldOk h =>
 cdD 2 h (fun h =>
 rg <| fe Tryz.func5 h) (fun h =>
 rg <| cb spec_WorldLog_t spec_WorldLog_ok 1 false h fun worldLog h =>
 rg <| loopJ h fun x hl hr hb => sg [] [1, 3, 4] [(1, 0)] (loopD (I := fun s : Int => Fin cx spec_ToldTrue_X (spec_ToldTrue_R r) (spec_ToldTrue_O r) spec_ToldTrue_k3 (spec_ToldTrue_S2 w worldLog s)) hl fun s st h hc => spec_ToldTrue_b1_ok w worldLog _ _ x (fun s e => spec_ToldTrue_k2_ok r (hb s e)) (fun v e => ⟨congrArg spec_ToldTrue_R (Option.some.inj (hr v e)).symm, congrArg spec_ToldTrue_O (Option.some.inj (hr v e)).symm⟩) st hc s h)))

/-! ### impl_in -/
noncomputable def impl_in_c : Code := bodyOf Tryz.f48
noncomputable def impl_in_X : Sig := { f := 48, fn := Tryz.f48, rms := [.val [] []], oms := [none, none, none] }
noncomputable def impl_in_R (r : Bool) : V := .b r
noncomputable def impl_in_O (r : Bool) : List (Option V) := [none, none, none]
noncomputable def impl_in_t (i : Nat) (fr : Bool) (r : Bool) : Nat × Tell := (i, { a := .call [.val [] [], .val [] [], .val [] []] fr (impl_in_R r) (impl_in_O r) })
noncomputable def impl_in (n : Int) (low : Int) (high : Int) : Option Bool :=
  (bif decide (n ≥ low) then
 some (decide (n ≤ high))
 else
 some false)
theorem impl_in_ok {n : Int} {low : Int} {high : Int} (r : Bool) (h : impl_in n low high = some r) : ACalls cx.P 48 [vi n, vi low, vi high] (impl_in_R r) (impl_in_O r) :=
  ACalls.of (cx := cx) (X := impl_in_X) (c := impl_in_c) Tryz.func48 (by kernel_rfl) (by kernel_rfl) (by kernel_rfl) (P0 <|
 rg2 <| cdD 3 h (fun h =>
 fe Tryz.func48 h) (fun h =>
 fe Tryz.func48 h))

/-! ### impl_same_Read -/
noncomputable def impl_same_Read_c : Code := bodyOf Tryz.f139
noncomputable def impl_same_Read_X : Sig := { f := 139, fn := Tryz.f139, rms := [.val [] []], oms := [none, none] }
noncomputable def impl_same_Read_R (r : Bool) : V := .b r
noncomputable def impl_same_Read_O (r : Bool) : List (Option V) := [none, none]
noncomputable def impl_same_Read_t (i : Nat) (fr : Bool) (r : Bool) : Nat × Tell := (i, { a := .call [.val [some 2] [], .val [some 2] []] fr (impl_same_Read_R r) (impl_same_Read_O r) })
noncomputable def impl_same_Read_k1 : List Item := posI 2000 4 [false, false] [.code impl_same_Read_c]
noncomputable def impl_same_Read_S1 : St := ⟨(bs 26 []), [some []]⟩
noncomputable def impl_same_Read_k2 : Option Bool :=
  some true
theorem impl_same_Read_k2_ok (r : Bool) (h : impl_same_Read_k2 = some r) : Fin cx impl_same_Read_X (impl_same_Read_R r) (impl_same_Read_O r) impl_same_Read_k1 (impl_same_Read_S1) :=
  P0 <|
 rg <| fe Tryz.func139 h
noncomputable def impl_same_Read_k3 : List Item := posI 2000 3 [false] [.code impl_same_Read_c]
noncomputable def impl_same_Read_S2 (a : List TRead) (b : List TRead) (v13 : Int) : St := ⟨(vsl 2 eRead a :: (vsl 2 eRead b :: (bs 10 (vi (a.length : Int) :: (vi v13 :: (bs 12 [])))))), [some []]⟩
noncomputable def impl_same_Read_b1 (a : List TRead) (b : List TRead) (v13 : Int) : Option (Stp Bool Int Unit) :=
  (bif decide (v13 < (a.length : Int)) then
 ((idx a v13).bind fun read =>
 ((idx b v13).bind fun read1 =>
 (bif (!(([read.Box, read.Ver] : List Int) == [read1.Box, read1.Ver])) then
 some (Stp.ret false)
 else
 some (Stp.nxt (w64 (v13 + 1))))))
 else
 some (Stp.brk ()))
theorem impl_same_Read_b1_ok (a : List TRead) (b : List TRead) (res : V) (outs : List (Option V)) (x1 : Exc Bool Unit) (hb1 : HB cx impl_same_Read_X res outs x1 impl_same_Read_k1 (fun s => impl_same_Read_S1)) (hr1 : HR res outs x1 impl_same_Read_R impl_same_Read_O) (st1 : Stp Bool Int Unit) (hc1 : Cont x1 (fun s : Int => Fin cx impl_same_Read_X res outs impl_same_Read_k3 (impl_same_Read_S2 a b s)) st1) (v13 : Int) (h : impl_same_Read_b1 a b v13 = some st1) : Fin cx impl_same_Read_X res outs impl_same_Read_k3 (impl_same_Read_S2 a b v13) :=
  P0 <|
 rg <| cdD 0 h (fun h =>
 rg2 <| ixS eRead 2 h fun read hread h =>
 ixS eRead 6 h fun read1 hread1 h =>
 cdD 8 h (fun h =>
 rg <| (retD h hc1 fun e => fn0 Tryz.func139 (hr1 _ e))) (fun h =>
 rg <| (nxtD h hc1 fun hI => sg [] [0, 1, 12, 13] [] hI))) (fun h =>
 (brkD h hc1 fun e => sg [] [] [] (hb1 _ e)))
noncomputable def impl_same_Read (a : List TRead) (b : List TRead) : Option Bool :=
  (bif ((a.length : Int) != (b.length : Int)) then
 some false
 else
 ((loop (fun s : Int => impl_same_Read_b1 a b s) 0).bind fun x => x.go (fun r => some r) fun s => impl_same_Read_k2))
theorem impl_same_Read_ok {a : List TRead} {b : List TRead} (r : Bool) (h : impl_same_Read a b = some r) : ACalls cx.P 139 [vsl 2 eRead a, vsl 2 eRead b] (impl_same_Read_R r) (impl_same_Read_O r) :=
  ACalls.of (cx := cx) (X := impl_same_Read_X) (c := impl_same_Read_c) Tryz.func139 (by kernel_rfl) (by kernel_rfl) (by kernel_rfl) (P0 <|
 rg2 <| cdD 4 h (fun h =>
 rg <| fe Tryz.func139 h) (fun h =>
 rg <| loopJ h fun x hl hr hb => sg [] [0, 1, 12, 13] [] (loopD (I := fun s : Int => Fin cx impl_same_Read_X (impl_same_Read_R r) (impl_same_Read_O r) impl_same_Read_k3 (impl_same_Read_S2 a b s)) hl fun s st h hc => impl_same_Read_b1_ok a b _ _ x (fun s e => impl_same_Read_k2_ok r (hb s e)) (fun v e => ⟨congrArg impl_same_Read_R (Option.some.inj (hr v e)).symm, congrArg impl_same_Read_O (Option.some.inj (hr v e)).symm⟩) st hc s h)))

/-! ### impl_same_Put -/
noncomputable def impl_same_Put_c : Code := bodyOf Tryz.f140
noncomputable def impl_same_Put_X : Sig := { f := 140, fn := Tryz.f140, rms := [.val [] []], oms := [none, none] }
noncomputable def impl_same_Put_R (r : Bool) : V := .b r
noncomputable def impl_same_Put_O (r : Bool) : List (Option V) := [none, none]
noncomputable def impl_same_Put_t (i : Nat) (fr : Bool) (r : Bool) : Nat × Tell := (i, { a := .call [.val [some 2] [], .val [some 2] []] fr (impl_same_Put_R r) (impl_same_Put_O r) })
noncomputable def impl_same_Put_k1 : List Item := posI 2000 4 [false, false] [.code impl_same_Put_c]
noncomputable def impl_same_Put_S1 : St := ⟨(bs 26 []), [some []]⟩
noncomputable def impl_same_Put_k2 : Option Bool :=
  some true
theorem impl_same_Put_k2_ok (r : Bool) (h : impl_same_Put_k2 = some r) : Fin cx impl_same_Put_X (impl_same_Put_R r) (impl_same_Put_O r) impl_same_Put_k1 (impl_same_Put_S1) :=
  P0 <|
 rg <| fe Tryz.func140 h
noncomputable def impl_same_Put_k3 : List Item := posI 2000 3 [false] [.code impl_same_Put_c]
noncomputable def impl_same_Put_S2 (a : List TPut) (b : List TPut) (v13 : Int) : St := ⟨(vsl 2 ePut a :: (vsl 2 ePut b :: (bs 10 (vi (a.length : Int) :: (vi v13 :: (bs 12 [])))))), [some []]⟩
noncomputable def impl_same_Put_b1 (a : List TPut) (b : List TPut) (v13 : Int) : Option (Stp Bool Int Unit) :=
  (bif decide (v13 < (a.length : Int)) then
 ((idx a v13).bind fun put =>
 ((idx b v13).bind fun put1 =>
 (bif (!(([put.Box, put.Val] : List Int) == [put1.Box, put1.Val])) then
 some (Stp.ret false)
 else
 some (Stp.nxt (w64 (v13 + 1))))))
 else
 some (Stp.brk ()))
theorem impl_same_Put_b1_ok (a : List TPut) (b : List TPut) (res : V) (outs : List (Option V)) (x1 : Exc Bool Unit) (hb1 : HB cx impl_same_Put_X res outs x1 impl_same_Put_k1 (fun s => impl_same_Put_S1)) (hr1 : HR res outs x1 impl_same_Put_R impl_same_Put_O) (st1 : Stp Bool Int Unit) (hc1 : Cont x1 (fun s : Int => Fin cx impl_same_Put_X res outs impl_same_Put_k3 (impl_same_Put_S2 a b s)) st1) (v13 : Int) (h : impl_same_Put_b1 a b v13 = some st1) : Fin cx impl_same_Put_X res outs impl_same_Put_k3 (impl_same_Put_S2 a b v13) :=
  P0 <|
 rg <| cdD 0 h (fun h =>
 rg2 <| ixS ePut 2 h fun put hput h =>
 ixS ePut 6 h fun put1 hput1 h =>
 cdD 8 h (fun h =>
 rg <| (retD h hc1 fun e => fn0 Tryz.func140 (hr1 _ e))) (fun h =>
 rg <| (nxtD h hc1 fun hI => sg [] [0, 1, 12, 13] [] hI))) (fun h =>
 (brkD h hc1 fun e => sg [] [] [] (hb1 _ e)))
noncomputable def impl_same_Put (a : List TPut) (b : List TPut) : Option Bool :=
  (bif ((a.length : Int) != (b.length : Int)) then
 some false
 else
 ((loop (fun s : Int => impl_same_Put_b1 a b s) 0).bind fun x => x.go (fun r => some r) fun s => impl_same_Put_k2))
theorem impl_same_Put_ok {a : List TPut} {b : List TPut} (r : Bool) (h : impl_same_Put a b = some r) : ACalls cx.P 140 [vsl 2 ePut a, vsl 2 ePut b] (impl_same_Put_R r) (impl_same_Put_O r) :=
  ACalls.of (cx := cx) (X := impl_same_Put_X) (c := impl_same_Put_c) Tryz.func140 (by kernel_rfl) (by kernel_rfl) (by kernel_rfl) (P0 <|
 rg2 <| cdD 4 h (fun h =>
 rg <| fe Tryz.func140 h) (fun h =>
 rg <| loopJ h fun x hl hr hb => sg [] [0, 1, 12, 13] [] (loopD (I := fun s : Int => Fin cx impl_same_Put_X (impl_same_Put_R r) (impl_same_Put_O r) impl_same_Put_k3 (impl_same_Put_S2 a b s)) hl fun s st h hc => impl_same_Put_b1_ok a b _ _ x (fun s e => impl_same_Put_k2_ok r (hb s e)) (fun v e => ⟨congrArg impl_same_Put_R (Option.some.inj (hr v e)).symm, congrArg impl_same_Put_O (Option.some.inj (hr v e)).symm⟩) st hc s h)))

/-! ### impl_ExecSame -/
noncomputable def impl_ExecSame_c : Code := bodyOf Tryz.f122
noncomputable def impl_ExecSame_X : Sig := { f := 122, fn := Tryz.f122, rms := [.val [] []], oms := [none, none] }
noncomputable def impl_ExecSame_R (r : Bool) : V := .b r
noncomputable def impl_ExecSame_O (r : Bool) : List (Option V) := [none, none]
noncomputable def impl_ExecSame_t (i : Nat) (fr : Bool) (r : Bool) : Nat × Tell := (i, { a := .call [.val ck66 [], .val ck66 []] fr (impl_ExecSame_R r) (impl_ExecSame_O r) })
noncomputable def impl_ExecSame (a : TRun) (b : TRun) : Option Bool :=
  ((impl_same_Read a.Reads b.Reads).bind fun read =>
 (bif read then
 ((impl_same_Put a.Puts b.Puts).bind fun put =>
 (bif put then
 (bif (a.Val == b.Val) then
 some (a.Code == b.Code)
 else
 some false)
 else
 some false))
 else
 some false))
theorem impl_ExecSame_ok {a : TRun} {b : TRun} (r : Bool) (h : impl_ExecSame a b = some r) : ACalls cx.P 122 [.agg (eRun a), .agg (eRun b)] (impl_ExecSame_R r) (impl_ExecSame_O r) :=
  ACalls.of (cx := cx) (X := impl_ExecSame_X) (c := impl_ExecSame_c) Tryz.func122 (by kernel_rfl) (by kernel_rfl) (by kernel_rfl) (P0 <|
 rg2 <| cb impl_same_Read_t impl_same_Read_ok 4 false h fun read h =>
 cdD 5 h (fun h =>
 cb impl_same_Put_t impl_same_Put_ok 10 false h fun put h =>
 cdD 12 h (fun h =>
 cdD 19 h (fun h =>
 fe Tryz.func122 h) (fun h =>
 fe Tryz.func122 h)) (fun h =>
 fe Tryz.func122 h)) (fun h =>
 fe Tryz.func122 h))

/-! ### impl_CertLike -/
noncomputable def impl_CertLike_c : Code := bodyOf Tryz.f88
noncomputable def impl_CertLike_X : Sig := { f := 88, fn := Tryz.f88, rms := [.val [] []], oms := [none, none] }
noncomputable def impl_CertLike_R (r : Bool) : V := .b r
noncomputable def impl_CertLike_O (r : Bool) : List (Option V) := [none, none]
noncomputable def impl_CertLike_t (i : Nat) (fr : Bool) (r : Bool) : Nat × Tell := (i, { a := .call [.val ck68 [], .val ck68 []] fr (impl_CertLike_R r) (impl_CertLike_O r) })
noncomputable def impl_CertLike (a : TEntry) (b : TEntry) : Option Bool :=
  (bif (a.None == b.None) then
 (bif (([a.Req.Who, a.Req.Seq] : List Int) == [b.Req.Who, b.Req.Seq]) then
 ((impl_ExecSame a.Run b.Run).bind fun execSame =>
 some execSame)
 else
 some false)
 else
 some false)
theorem impl_CertLike_ok {a : TEntry} {b : TEntry} (r : Bool) (h : impl_CertLike a b = some r) : ACalls cx.P 88 [.agg (eEntry a), .agg (eEntry b)] (impl_CertLike_R r) (impl_CertLike_O r) :=
  ACalls.of (cx := cx) (X := impl_CertLike_X) (c := impl_CertLike_c) Tryz.func88 (by kernel_rfl) (by kernel_rfl) (by kernel_rfl) (P0 <|
 rg2 <| cdD 5 h (fun h =>
 cdD 12 h (fun h =>
 cb impl_ExecSame_t impl_ExecSame_ok 17 false h fun execSame h =>
 fe Tryz.func88 h) (fun h =>
 fe Tryz.func88 h)) (fun h =>
 fe Tryz.func88 h))

/-! ### impl_reqOk -/
noncomputable def impl_reqOk_c : Code := bodyOf Tryz.f46
noncomputable def impl_reqOk_X : Sig := { f := 46, fn := Tryz.f46, rms := [.val [] []], oms := [none] }
noncomputable def impl_reqOk_R (r : Bool) : V := .b r
noncomputable def impl_reqOk_O (r : Bool) : List (Option V) := [none]
noncomputable def impl_reqOk_t (i : Nat) (fr : Bool) (r : Bool) : Nat × Tell := (i, { a := .call [.val [] []] fr (impl_reqOk_R r) (impl_reqOk_O r) })
noncomputable def impl_reqOk (q : TReq) : Option Bool :=
  ((impl_in q.Who 0 2).bind fun in_ =>
 (bif in_ then
 ((impl_in q.Seq 1 1000).bind fun in_1 =>
 some in_1)
 else
 some false))
theorem impl_reqOk_ok {q : TReq} (r : Bool) (h : impl_reqOk q = some r) : ACalls cx.P 46 [.agg (eReq q)] (impl_reqOk_R r) (impl_reqOk_O r) :=
  ACalls.of (cx := cx) (X := impl_reqOk_X) (c := impl_reqOk_c) Tryz.func46 (by kernel_rfl) (by kernel_rfl) (by kernel_rfl) (P0 <|
 rg2 <| cb impl_in_t impl_in_ok 2 false h fun in_ h =>
 cdD 3 h (fun h =>
 cb impl_in_t impl_in_ok 6 false h fun in_1 h =>
 fe Tryz.func46 h) (fun h =>
 fe Tryz.func46 h))

/-! ### impl_ExecOk -/
noncomputable def impl_ExecOk_c : Code := bodyOf Tryz.f121
noncomputable def impl_ExecOk_X : Sig := { f := 121, fn := Tryz.f121, rms := [.val [] []], oms := [none] }
noncomputable def impl_ExecOk_R (r : Bool) : V := .b r
noncomputable def impl_ExecOk_O (r : Bool) : List (Option V) := [none]
noncomputable def impl_ExecOk_t (i : Nat) (fr : Bool) (r : Bool) : Nat × Tell := (i, { a := .call [.val ck66 []] fr (impl_ExecOk_R r) (impl_ExecOk_O r) })
noncomputable def impl_ExecOk_k1 : List Item := posI 2000 2 [false] [.code impl_ExecOk_c]
noncomputable def impl_ExecOk_S1 (r_ : TRun) : St := ⟨(bs 1 (.ptr 1 0 0 :: (bs 98 []))), [some [], some [.var 66 [vsl 2 eRead r_.Reads, vsl 2 ePut r_.Puts, vi r_.Val, vi r_.Code]]]⟩
noncomputable def impl_ExecOk_k2 : List Item := posI 2000 5 [false, false] [.code impl_ExecOk_c]
noncomputable def impl_ExecOk_S2 (r_ : TRun) : St := ⟨(bs 1 (.ptr 1 0 0 :: (bs 2 (.ptr 2 0 0 :: (bs 95 []))))), [some [], some [.var 66 [vsl 2 eRead r_.Reads, vsl 2 ePut r_.Puts, vi r_.Val, vi r_.Code]], some [.arr 197 1 4 ((List.replicate 4 false).map eB)]]⟩
noncomputable def impl_ExecOk_k3 : List Item := posI 2000 7 [false, false, false] [.code impl_ExecOk_c]
noncomputable def impl_ExecOk_S3 : St := ⟨(bs 100 []), [some []]⟩
noncomputable def impl_ExecOk_k4 : Option Bool :=
  some true
theorem impl_ExecOk_k4_ok (r : Bool) (h : impl_ExecOk_k4 = some r) : Fin cx impl_ExecOk_X (impl_ExecOk_R r) (impl_ExecOk_O r) impl_ExecOk_k3 (impl_ExecOk_S3) :=
  P0 <|
 rg <| fe Tryz.func121 h
noncomputable def impl_ExecOk_k5 : List Item := posI 2000 6 [false, false] [.code impl_ExecOk_c]
noncomputable def impl_ExecOk_S4 (r_ : TRun) (put : List Bool) (v76 : Int) : St := ⟨(bs 4 (.ptr 1 0 0 :: (bs 69 (vsl 2 ePut r_.Puts :: (vi (r_.Puts.length : Int) :: (vi v76 :: (bs 23 []))))))), [some [], some [.arr 197 1 4 (put.map eB)]]⟩
noncomputable def impl_ExecOk_b1 (r_ : TRun) (put : List Bool) (v76 : Int) : Option (Stp Bool ((List Bool) × Int) Unit) :=
  (bif decide (v76 < (r_.Puts.length : Int)) then
 ((idx r_.Puts v76).bind fun put1 =>
 ((impl_in put1.Box 0 3).bind fun in_ =>
 (bif (!in_) then
 some (Stp.ret false)
 else
 ((idx put put1.Box).bind fun y =>
 (need (put1.Box < 4)
 ((bif y then
 some (Stp.ret false)
 else
 ((impl_in put1.Val (-1000000) 1000000).bind fun in_1 =>
 (bif (!in_1) then
 some (Stp.ret false)
 else
 (need (put1.Box < 4)
 (some (Stp.nxt (put.set put1.Box.toNat true, w64 (v76 + 1))))))))))))))
 else
 some (Stp.brk ()))
theorem impl_ExecOk_b1_ok (r_ : TRun) (res : V) (outs : List (Option V)) (x1 : Exc Bool Unit) (hb1 : HB cx impl_ExecOk_X res outs x1 impl_ExecOk_k3 (fun s => impl_ExecOk_S3)) (hr1 : HR res outs x1 impl_ExecOk_R impl_ExecOk_O) (st1 : Stp Bool ((List Bool) × Int) Unit) (hc1 : Cont x1 (fun s : (List Bool) × Int => Fin cx impl_ExecOk_X res outs impl_ExecOk_k5 (impl_ExecOk_S4 r_ s.1 s.2)) st1) (put : List Bool) (v76 : Int) (h : impl_ExecOk_b1 r_ put v76 = some st1) : Fin cx impl_ExecOk_X res outs impl_ExecOk_k5 (impl_ExecOk_S4 r_ put v76) :=
  P0 <|
 rg <| cdD 0 h (fun h =>
 rg <| ixS ePut 0 h fun put1 hput1 h =>
 rg <| cb impl_in_t impl_in_ok 2 false h fun in_ h =>
 cdD 4 h (fun h =>
 rg <| (retD h hc1 fun e => fn0 Tryz.func121 (hr1 _ e))) (fun h =>
 bindD h fun y hy h =>
 needD h fun e1 h =>
 ob (idx0 hy) <| ob e1 <| ob (map_idx (enc := eB) hy) <| tl (tr 8 (eB y)) <| cdD 10 h (fun h =>
 rg <| (retD h hc1 fun e => fn0 Tryz.func121 (hr1 _ e))) (fun h =>
 cb impl_in_t impl_in_ok 13 false h fun in_1 h =>
 cdD 15 h (fun h =>
 rg <| (retD h hc1 fun e => fn0 Tryz.func121 (hr1 _ e))) (fun h =>
 rg <| needD h fun e2 h =>
 ob (idx0 hy) <| ob e2 <| om (Ent.arr 197 1 4 ((put.map eB).set (put1.Box.toNat) [.b true]) = Ent.arr 197 1 4 ((put.set put1.Box.toNat true).map eB)) (arr_set rfl) <| ob (map_idx (enc := eB) hy) <| tl (3, { a := .rowck (eB y) [], e := some (.arr 197 1 4 ((put.set put1.Box.toNat true).map eB)) }) <| rg <| (nxtD h hc1 fun hI => sg [] [4, 74, 75, 76] [(1, 0)] hI))))) (fun h =>
 (brkD h hc1 fun e => sg [] [] [] (hb1 _ e)))
noncomputable def impl_ExecOk_k6 (r_ : TRun) : Option Bool :=
  ((loop (fun s : (List Bool) × Int => impl_ExecOk_b1 r_ s.1 s.2) (List.replicate 4 false, 0)).bind fun x => x.go (fun r => some r) fun s => impl_ExecOk_k4)
theorem impl_ExecOk_k6_ok (r_ : TRun) (r : Bool) (h : impl_ExecOk_k6 r_ = some r) : Fin cx impl_ExecOk_X (impl_ExecOk_R r) (impl_ExecOk_O r) impl_ExecOk_k2 (impl_ExecOk_S2 r_) :=
  P0 <|
 rg <| loopJ h fun x hl hr hb => sg [] [4, 74, 75, 76] [(2, 0)] (loopD (I := fun s : (List Bool) × Int => Fin cx impl_ExecOk_X (impl_ExecOk_R r) (impl_ExecOk_O r) impl_ExecOk_k5 (impl_ExecOk_S4 r_ s.1 s.2)) hl fun s st h hc => impl_ExecOk_b1_ok r_ _ _ x (fun s e => impl_ExecOk_k4_ok r (hb s e)) (fun v e => ⟨congrArg impl_ExecOk_R (Option.some.inj (hr v e)).symm, congrArg impl_ExecOk_O (Option.some.inj (hr v e)).symm⟩) st hc s.1 s.2 h)
noncomputable def impl_ExecOk_k7 : List Item := posI 2000 4 [false] [.code impl_ExecOk_c]
noncomputable def impl_ExecOk_S5 (r_ : TRun) (read : List Bool) (v49 : Int) : St := ⟨(bs 1 (.ptr 1 0 0 :: (bs 1 (.ptr 2 0 0 :: (.ptr 3 0 0 :: (bs 42 (vsl 2 eRead r_.Reads :: (vi (r_.Reads.length : Int) :: (vi v49 :: (bs 50 [])))))))))), [some [], some [.var 66 [vsl 2 eRead r_.Reads, vsl 2 ePut r_.Puts, vi r_.Val, vi r_.Code]], some [.arr 197 1 4 (read.map eB)], some [.arr 197 1 4 ((List.replicate 4 false).map eB)]]⟩
noncomputable def impl_ExecOk_b2 (r_ : TRun) (read : List Bool) (v49 : Int) : Option (Stp Bool ((List Bool) × Int) Unit) :=
  (bif decide (v49 < (r_.Reads.length : Int)) then
 ((idx r_.Reads v49).bind fun read1 =>
 ((impl_in read1.Box 0 3).bind fun in_2 =>
 (bif (!in_2) then
 some (Stp.ret false)
 else
 ((idx read read1.Box).bind fun y1 =>
 (need (read1.Box < 4)
 ((bif y1 then
 some (Stp.ret false)
 else
 ((impl_in read1.Ver 0 1000000).bind fun in_3 =>
 (bif (!in_3) then
 some (Stp.ret false)
 else
 (need (read1.Box < 4)
 (some (Stp.nxt (read.set read1.Box.toNat true, w64 (v49 + 1))))))))))))))
 else
 some (Stp.brk ()))
theorem impl_ExecOk_b2_ok (r_ : TRun) (res : V) (outs : List (Option V)) (x1 : Exc Bool Unit) (hb1 : HB cx impl_ExecOk_X res outs x1 impl_ExecOk_k2 (fun s => impl_ExecOk_S2 r_)) (hr1 : HR res outs x1 impl_ExecOk_R impl_ExecOk_O) (st1 : Stp Bool ((List Bool) × Int) Unit) (hc1 : Cont x1 (fun s : (List Bool) × Int => Fin cx impl_ExecOk_X res outs impl_ExecOk_k7 (impl_ExecOk_S5 r_ s.1 s.2)) st1) (read : List Bool) (v49 : Int) (h : impl_ExecOk_b2 r_ read v49 = some st1) : Fin cx impl_ExecOk_X res outs impl_ExecOk_k7 (impl_ExecOk_S5 r_ read v49) :=
  P0 <|
 rg <| cdD 0 h (fun h =>
 rg <| ixS eRead 0 h fun read1 hread1 h =>
 rg <| cb impl_in_t impl_in_ok 2 false h fun in_2 h =>
 cdD 4 h (fun h =>
 rg <| (retD h hc1 fun e => fn0 Tryz.func121 (hr1 _ e))) (fun h =>
 bindD h fun y1 hy1 h =>
 needD h fun e3 h =>
 ob (idx0 hy1) <| ob e3 <| ob (map_idx (enc := eB) hy1) <| tl (tr 8 (eB y1)) <| cdD 10 h (fun h =>
 rg <| (retD h hc1 fun e => fn0 Tryz.func121 (hr1 _ e))) (fun h =>
 cb impl_in_t impl_in_ok 13 false h fun in_3 h =>
 cdD 15 h (fun h =>
 rg <| (retD h hc1 fun e => fn0 Tryz.func121 (hr1 _ e))) (fun h =>
 rg <| needD h fun e4 h =>
 ob (idx0 hy1) <| ob e4 <| om (Ent.arr 197 1 4 ((read.map eB).set (read1.Box.toNat) [.b true]) = Ent.arr 197 1 4 ((read.set read1.Box.toNat true).map eB)) (arr_set rfl) <| ob (map_idx (enc := eB) hy1) <| tl (3, { a := .rowck (eB y1) [], e := some (.arr 197 1 4 ((read.set read1.Box.toNat true).map eB)) }) <| rg <| (nxtD h hc1 fun hI => sg [] [1, 3, 4, 47, 48, 49] [(1, 0), (2, 0), (3, 0)] hI))))) (fun h =>
 (brkD h hc1 fun e => sg [] [1, 4] [(1, 0), (3, 0)] (hb1 _ e)))
noncomputable def impl_ExecOk_j1 (r_ : TRun) : Option Bool :=
  ((loop (fun s : (List Bool) × Int => impl_ExecOk_b2 r_ s.1 s.2) (List.replicate 4 false, 0)).bind fun x => x.go (fun r => some r) fun s => impl_ExecOk_k6 r_)
theorem impl_ExecOk_j1_ok (r_ : TRun) (r : Bool) (h : impl_ExecOk_j1 r_ = some r) : Fin cx impl_ExecOk_X (impl_ExecOk_R r) (impl_ExecOk_O r) impl_ExecOk_k1 (impl_ExecOk_S1 r_) :=
  P0 <|
 rg <| om ((List.replicate 4 ([.b false] : List V)).flatten = [.b false, .b false, .b false, .b false] ∧ ([.b false] : List V).length = 1) ⟨rfl, rfl⟩ <| om ((List.replicate 4 ([.b false] : List V)).flatten = [.b false, .b false, .b false, .b false] ∧ ([.b false] : List V).length = 1) ⟨rfl, rfl⟩ <| rg <| loopJ h fun x hl hr hb => sg [] [1, 3, 4, 47, 48, 49] [(1, 0), (2, 0), (3, 0)] (loopD (I := fun s : (List Bool) × Int => Fin cx impl_ExecOk_X (impl_ExecOk_R r) (impl_ExecOk_O r) impl_ExecOk_k7 (impl_ExecOk_S5 r_ s.1 s.2)) hl fun s st h hc => impl_ExecOk_b2_ok r_ _ _ x (fun s e => impl_ExecOk_k6_ok r_ r (hb s e)) (fun v e => ⟨congrArg impl_ExecOk_R (Option.some.inj (hr v e)).symm, congrArg impl_ExecOk_O (Option.some.inj (hr v e)).symm⟩) st hc s.1 s.2 h)
noncomputable def impl_ExecOk (r_ : TRun) : Option Bool :=
  ((((impl_in r_.Code 0 3).bind fun in_4 =>
 (bif (!in_4) then
 some (Exc.ret false)
 else
 ((impl_in r_.Val (-1000000) 1000000).bind fun in_5 =>
 (bif (!in_5) then
 some (Exc.ret false)
 else
 (bif (r_.Code != 0) then
 (bif (r_.Val != 0) then
 some (Exc.ret false)
 else
 (bif decide ((r_.Puts.length : Int) > 0) then
 some (Exc.ret false)
 else
 (bif (r_.Code == 3) then
 (bif decide ((r_.Reads.length : Int) > 0) then
 some (Exc.ret false)
 else
 some (Exc.brk ()))
 else
 some (Exc.brk ()))))
 else
 (bif (r_.Code == 3) then
 (bif decide ((r_.Reads.length : Int) > 0) then
 some (Exc.ret false)
 else
 some (Exc.brk ()))
 else
 some (Exc.brk ()))))))) : Option (Exc Bool Unit)).bind fun x => x.go some fun j => impl_ExecOk_j1 r_)
theorem impl_ExecOk_ok {r_ : TRun} (r : Bool) (h : impl_ExecOk r_ = some r) : ACalls cx.P 121 [.agg (eRun r_)] (impl_ExecOk_R r) (impl_ExecOk_O r) :=
  ACalls.of (cx := cx) (X := impl_ExecOk_X) (c := impl_ExecOk_c) Tryz.func121 (by kernel_rfl) (by kernel_rfl) (by kernel_rfl) (P0 <|
 rg <| joinD (I := fun j : Unit => Fin cx impl_ExecOk_X (impl_ExecOk_R r) (impl_ExecOk_O r) impl_ExecOk_k1 (impl_ExecOk_S1 r_)) h (fun j h => impl_ExecOk_j1_ok r_ r h) (fun x1 h hc1 =>
  rg <| cb impl_in_t impl_in_ok 2 false h fun in_4 h =>
 cdD 4 h (fun h =>
 rg <| (jretD h hc1 fun h => fe Tryz.func121 h)) (fun h =>
 cb impl_in_t impl_in_ok 7 false h fun in_5 h =>
 cdD 10 h (fun h =>
 rg <| (jretD h hc1 fun h => fe Tryz.func121 h)) (fun h =>
 cdD 14 h (fun h =>
 cdD 18 h (fun h =>
 rg <| (jretD h hc1 fun h => fe Tryz.func121 h)) (fun h =>
 cdD 26 h (fun h =>
 rg <| (jretD h hc1 fun h => fe Tryz.func121 h)) (fun h =>
 cdD 30 h (fun h =>
 cdD 36 h (fun h =>
 rg <| (jretD h hc1 fun h => fe Tryz.func121 h)) (fun h =>
 (jbrkD h hc1 fun hI => sg [] [1] [(1, 0)] hI))) (fun h =>
 (jbrkD h hc1 fun hI => sg [] [1] [(1, 0)] hI))))) (fun h =>
 cdD 30 h (fun h =>
 cdD 36 h (fun h =>
 rg <| (jretD h hc1 fun h => fe Tryz.func121 h)) (fun h =>
 (jbrkD h hc1 fun hI => sg [] [1] [(1, 0)] hI))) (fun h =>
 (jbrkD h hc1 fun hI => sg [] [1] [(1, 0)] hI)))))))

/-! ### impl_CertEntry -/
noncomputable def impl_CertEntry_c : Code := bodyOf Tryz.f87
noncomputable def impl_CertEntry_X : Sig := { f := 87, fn := Tryz.f87, rms := [.val [] []], oms := [none] }
noncomputable def impl_CertEntry_R (r : Bool) : V := .b r
noncomputable def impl_CertEntry_O (r : Bool) : List (Option V) := [none]
noncomputable def impl_CertEntry_t (i : Nat) (fr : Bool) (r : Bool) : Nat × Tell := (i, { a := .call [.val ck68 []] fr (impl_CertEntry_R r) (impl_CertEntry_O r) })
noncomputable def impl_CertEntry (e_ : TEntry) : Option Bool :=
  (bif e_.None then
 ((impl_CertLike e_ (TEntry.mk true (TReq.mk 0 0) (TRun.mk [] [] 0 0))).bind fun certLike =>
 some certLike)
 else
 ((impl_reqOk e_.Req).bind fun reqOk =>
 (bif reqOk then
 ((impl_ExecOk e_.Run).bind fun execOk =>
 (bif execOk then
 some (e_.Run.Code != 3)
 else
 some false))
 else
 some false)))
theorem impl_CertEntry_ok {e_ : TEntry} (r : Bool) (h : impl_CertEntry e_ = some r) : ACalls cx.P 87 [.agg (eEntry e_)] (impl_CertEntry_R r) (impl_CertEntry_O r) :=
  ACalls.of (cx := cx) (X := impl_CertEntry_X) (c := impl_CertEntry_c) Tryz.func87 (by kernel_rfl) (by kernel_rfl) (by kernel_rfl) (P0 <|
 rg2 <| cdD 1 h (fun h =>
 rg <| cb impl_CertLike_t impl_CertLike_ok 2 false h fun certLike h =>
 fe Tryz.func87 h) (fun h =>
 rg <| cb impl_reqOk_t impl_reqOk_ok 2 false h fun reqOk h =>
 cdD 3 h (fun h =>
 cb impl_ExecOk_t impl_ExecOk_ok 6 false h fun execOk h =>
 cdD 8 h (fun h =>
 fe Tryz.func87 h) (fun h =>
 fe Tryz.func87 h)) (fun h =>
 fe Tryz.func87 h)))

/-! ### impl_voteOk -/
noncomputable def impl_voteOk_c : Code := bodyOf Tryz.f125
noncomputable def impl_voteOk_X : Sig := { f := 125, fn := Tryz.f125, rms := [.val [] []], oms := [none] }
noncomputable def impl_voteOk_R (r : Bool) : V := .b r
noncomputable def impl_voteOk_O (r : Bool) : List (Option V) := [none]
noncomputable def impl_voteOk_t (i : Nat) (fr : Bool) (r : Bool) : Nat × Tell := (i, { a := .call [.val ck172 []] fr (impl_voteOk_R r) (impl_voteOk_O r) })
noncomputable def impl_voteOk (v_ : TVote) : Option Bool :=
  (bif (v_.Bal == 0) then
 ((impl_CertLike v_.Entry (TEntry.mk false (TReq.mk 0 0) (TRun.mk [] [] 0 0))).bind fun certLike =>
 some certLike)
 else
 ((impl_in v_.Bal 1 3000).bind fun in_ =>
 (bif in_ then
 ((impl_CertEntry v_.Entry).bind fun certEntry =>
 some certEntry)
 else
 some false)))
theorem impl_voteOk_ok {v_ : TVote} (r : Bool) (h : impl_voteOk v_ = some r) : ACalls cx.P 125 [.agg (eVote v_)] (impl_voteOk_R r) (impl_voteOk_O r) :=
  ACalls.of (cx := cx) (X := impl_voteOk_X) (c := impl_voteOk_c) Tryz.func125 (by kernel_rfl) (by kernel_rfl) (by kernel_rfl) (P0 <|
 rg2 <| cdD 2 h (fun h =>
 rg <| cb impl_CertLike_t impl_CertLike_ok 3 false h fun certLike h =>
 fe Tryz.func125 h) (fun h =>
 rg <| cb impl_in_t impl_in_ok 2 false h fun in_ h =>
 cdD 3 h (fun h =>
 cb impl_CertEntry_t impl_CertEntry_ok 6 false h fun certEntry h =>
 fe Tryz.func125 h) (fun h =>
 fe Tryz.func125 h)))

/-! ### impl_votesOk -/
noncomputable def impl_votesOk_c : Code := bodyOf Tryz.f90
noncomputable def impl_votesOk_X : Sig := { f := 90, fn := Tryz.f90, rms := [.val [] []], oms := [none] }
noncomputable def impl_votesOk_R (r : Bool) : V := .b r
noncomputable def impl_votesOk_O (r : Bool) : List (Option V) := [none]
noncomputable def impl_votesOk_t (i : Nat) (fr : Bool) (r : Bool) : Nat × Tell := (i, { a := .call [.val [some 8] []] fr (impl_votesOk_R r) (impl_votesOk_O r) })
noncomputable def impl_votesOk_k1 : List Item := posI 2000 3 [false] [.code impl_votesOk_c]
noncomputable def impl_votesOk_S1 (list : List TVote) : St := ⟨(vsl 8 eVote list :: (bs 17 [])), [some []]⟩
noncomputable def impl_votesOk_k2 (list : List TVote) : Option Bool :=
  some (decide ((list.length : Int) ≤ 40))
theorem impl_votesOk_k2_ok (list : List TVote) (r : Bool) (h : impl_votesOk_k2 list = some r) : Fin cx impl_votesOk_X (impl_votesOk_R r) (impl_votesOk_O r) impl_votesOk_k1 (impl_votesOk_S1 list) :=
  P0 <|
 rg <| fe Tryz.func90 h
noncomputable def impl_votesOk_k3 : List Item := posI 2000 2 [] [.code impl_votesOk_c]
noncomputable def impl_votesOk_S2 (list : List TVote) (v7 : Int) : St := ⟨(vsl 8 eVote list :: (bs 4 (vsl 8 eVote list :: (vi (list.length : Int) :: (vi v7 :: (bs 10 [])))))), [some []]⟩
noncomputable def impl_votesOk_b1 (list : List TVote) (v7 : Int) : Option (Stp Bool Int Unit) :=
  (bif decide (v7 < (list.length : Int)) then
 ((idx list v7).bind fun vote =>
 ((impl_voteOk vote).bind fun voteOk =>
 (bif (!voteOk) then
 some (Stp.ret false)
 else
 some (Stp.nxt (w64 (v7 + 1))))))
 else
 some (Stp.brk ()))
theorem impl_votesOk_b1_ok (list : List TVote) (res : V) (outs : List (Option V)) (x1 : Exc Bool Unit) (hb1 : HB cx impl_votesOk_X res outs x1 impl_votesOk_k1 (fun s => impl_votesOk_S1 list)) (hr1 : HR res outs x1 impl_votesOk_R impl_votesOk_O) (st1 : Stp Bool Int Unit) (hc1 : Cont x1 (fun s : Int => Fin cx impl_votesOk_X res outs impl_votesOk_k3 (impl_votesOk_S2 list s)) st1) (v7 : Int) (h : impl_votesOk_b1 list v7 = some st1) : Fin cx impl_votesOk_X res outs impl_votesOk_k3 (impl_votesOk_S2 list v7) :=
  P0 <|
 rg <| cdD 0 h (fun h =>
 rg <| ixS eVote 0 h fun vote hvote h =>
 rg <| cb impl_voteOk_t impl_voteOk_ok 1 false h fun voteOk h =>
 cdD 2 h (fun h =>
 rg <| (retD h hc1 fun e => fn0 Tryz.func90 (hr1 _ e))) (fun h =>
 rg <| (nxtD h hc1 fun hI => sg [] [0, 5, 6, 7] [] hI))) (fun h =>
 (brkD h hc1 fun e => sg [] [0] [] (hb1 _ e)))
noncomputable def impl_votesOk (list : List TVote) : Option Bool :=
  ((loop (fun s : Int => impl_votesOk_b1 list s) 0).bind fun x => x.go (fun r => some r) fun s => impl_votesOk_k2 list)
theorem impl_votesOk_ok {list : List TVote} (r : Bool) (h : impl_votesOk list = some r) : ACalls cx.P 90 [vsl 8 eVote list] (impl_votesOk_R r) (impl_votesOk_O r) :=
  ACalls.of (cx := cx) (X := impl_votesOk_X) (c := impl_votesOk_c) Tryz.func90 (by kernel_rfl) (by kernel_rfl) (by kernel_rfl) (P0 <|
 rg2 <| loopJ h fun x hl hr hb => sg [] [0, 5, 6, 7] [] (loopD (I := fun s : Int => Fin cx impl_votesOk_X (impl_votesOk_R r) (impl_votesOk_O r) impl_votesOk_k3 (impl_votesOk_S2 list s)) hl fun s st h hc => impl_votesOk_b1_ok list _ _ x (fun s e => impl_votesOk_k2_ok list r (hb s e)) (fun v e => ⟨congrArg impl_votesOk_R (Option.some.inj (hr v e)).symm, congrArg impl_votesOk_O (Option.some.inj (hr v e)).symm⟩) st hc s h))

/-! ### impl_AccOk -/
noncomputable def impl_AccOk_c : Code := bodyOf Tryz.f85
noncomputable def impl_AccOk_X : Sig := { f := 85, fn := Tryz.f85, rms := [.val [] []], oms := [none] }
noncomputable def impl_AccOk_R (r : Bool) : V := .b r
noncomputable def impl_AccOk_O (r : Bool) : List (Option V) := [none]
noncomputable def impl_AccOk_t (i : Nat) (fr : Bool) (r : Bool) : Nat × Tell := (i, { a := .call [.val [none, some 8] []] fr (impl_AccOk_R r) (impl_AccOk_O r) })
noncomputable def impl_AccOk_k1 : List Item := posI 2000 3 [false] [.code impl_AccOk_c]
noncomputable def impl_AccOk_S1 (a : TAcc) : St := ⟨(bs 1 (.ptr 1 0 0 :: (bs 24 []))), [some [], some [.var 97 [vi a.Promised, vsl 8 eVote a.Votes]]]⟩
noncomputable def impl_AccOk_k2 (a : TAcc) : Option Bool :=
  ((impl_in a.Promised 0 3000).bind fun in_ =>
 (bif in_ then
 ((impl_votesOk a.Votes).bind fun votesOk =>
 some votesOk)
 else
 some false))
theorem impl_AccOk_k2_ok (a : TAcc) (r : Bool) (h : impl_AccOk_k2 a = some r) : Fin cx impl_AccOk_X (impl_AccOk_R r) (impl_AccOk_O r) impl_AccOk_k1 (impl_AccOk_S1 a) :=
  P0 <|
 rg <| cb impl_in_t impl_in_ok 2 false h fun in_ h =>
 cdD 3 h (fun h =>
 cb impl_votesOk_t impl_votesOk_ok 6 false h fun votesOk h =>
 fe Tryz.func85 h) (fun h =>
 fe Tryz.func85 h)
noncomputable def impl_AccOk_k3 : List Item := posI 2000 2 [] [.code impl_AccOk_c]
noncomputable def impl_AccOk_S2 (a : TAcc) (v8 : Int) : St := ⟨(bs 1 (.ptr 1 0 0 :: (bs 4 (vsl 8 eVote a.Votes :: (vi (a.Votes.length : Int) :: (vi v8 :: (bs 17 []))))))), [some [], some [.var 97 [vi a.Promised, vsl 8 eVote a.Votes]]]⟩
noncomputable def impl_AccOk_b1 (a : TAcc) (v8 : Int) : Option (Stp Bool Int Unit) :=
  (bif decide (v8 < (a.Votes.length : Int)) then
 ((idx a.Votes v8).bind fun vote =>
 (bif decide (vote.Bal > a.Promised) then
 some (Stp.ret false)
 else
 some (Stp.nxt (w64 (v8 + 1)))))
 else
 some (Stp.brk ()))
theorem impl_AccOk_b1_ok (a : TAcc) (res : V) (outs : List (Option V)) (x1 : Exc Bool Unit) (hb1 : HB cx impl_AccOk_X res outs x1 impl_AccOk_k1 (fun s => impl_AccOk_S1 a)) (hr1 : HR res outs x1 impl_AccOk_R impl_AccOk_O) (st1 : Stp Bool Int Unit) (hc1 : Cont x1 (fun s : Int => Fin cx impl_AccOk_X res outs impl_AccOk_k3 (impl_AccOk_S2 a s)) st1) (v8 : Int) (h : impl_AccOk_b1 a v8 = some st1) : Fin cx impl_AccOk_X res outs impl_AccOk_k3 (impl_AccOk_S2 a v8) :=
  P0 <|
 rg <| cdD 0 h (fun h =>
 rg <| ixS eVote 0 h fun vote hvote h =>
 rg <| cdD 4 h (fun h =>
 rg <| (retD h hc1 fun e => fn0 Tryz.func85 (hr1 _ e))) (fun h =>
 rg <| (nxtD h hc1 fun hI => sg [] [1, 6, 7, 8] [(1, 0)] hI))) (fun h =>
 (brkD h hc1 fun e => sg [] [1] [(1, 0)] (hb1 _ e)))
noncomputable def impl_AccOk (a : TAcc) : Option Bool :=
  ((loop (fun s : Int => impl_AccOk_b1 a s) 0).bind fun x => x.go (fun r => some r) fun s => impl_AccOk_k2 a)
theorem impl_AccOk_ok {a : TAcc} (r : Bool) (h : impl_AccOk a = some r) : ACalls cx.P 85 [.agg (eAcc a)] (impl_AccOk_R r) (impl_AccOk_O r) :=
  ACalls.of (cx := cx) (X := impl_AccOk_X) (c := impl_AccOk_c) Tryz.func85 (by kernel_rfl) (by kernel_rfl) (by kernel_rfl) (P0 <|
 rg2 <| loopJ h fun x hl hr hb => sg [] [1, 6, 7, 8] [(1, 0)] (loopD (I := fun s : Int => Fin cx impl_AccOk_X (impl_AccOk_R r) (impl_AccOk_O r) impl_AccOk_k3 (impl_AccOk_S2 a s)) hl fun s st h hc => impl_AccOk_b1_ok a _ _ x (fun s e => impl_AccOk_k2_ok a r (hb s e)) (fun v e => ⟨congrArg impl_AccOk_R (Option.some.inj (hr v e)).symm, congrArg impl_AccOk_O (Option.some.inj (hr v e)).symm⟩) st hc s h))

/-! ### impl_listOk -/
noncomputable def impl_listOk_c : Code := bodyOf Tryz.f86
noncomputable def impl_listOk_X : Sig := { f := 86, fn := Tryz.f86, rms := [.val [] []], oms := [none] }
noncomputable def impl_listOk_R (r : Bool) : V := .b r
noncomputable def impl_listOk_O (r : Bool) : List (Option V) := [none]
noncomputable def impl_listOk_t (i : Nat) (fr : Bool) (r : Bool) : Nat × Tell := (i, { a := .call [.val [some 7] []] fr (impl_listOk_R r) (impl_listOk_O r) })
noncomputable def impl_listOk_k1 : List Item := posI 2000 3 [false] [.code impl_listOk_c]
noncomputable def impl_listOk_S1 (list : List TEntry) : St := ⟨(vsl 7 eEntry list :: (bs 17 [])), [some []]⟩
noncomputable def impl_listOk_k2 (list : List TEntry) : Option Bool :=
  some (decide ((list.length : Int) ≤ 40))
theorem impl_listOk_k2_ok (list : List TEntry) (r : Bool) (h : impl_listOk_k2 list = some r) : Fin cx impl_listOk_X (impl_listOk_R r) (impl_listOk_O r) impl_listOk_k1 (impl_listOk_S1 list) :=
  P0 <|
 rg <| fe Tryz.func86 h
noncomputable def impl_listOk_k3 : List Item := posI 2000 2 [] [.code impl_listOk_c]
noncomputable def impl_listOk_S2 (list : List TEntry) (v7 : Int) : St := ⟨(vsl 7 eEntry list :: (bs 4 (vsl 7 eEntry list :: (vi (list.length : Int) :: (vi v7 :: (bs 10 [])))))), [some []]⟩
noncomputable def impl_listOk_b1 (list : List TEntry) (v7 : Int) : Option (Stp Bool Int Unit) :=
  (bif decide (v7 < (list.length : Int)) then
 ((idx list v7).bind fun entry =>
 ((impl_CertEntry entry).bind fun certEntry =>
 (bif (!certEntry) then
 some (Stp.ret false)
 else
 some (Stp.nxt (w64 (v7 + 1))))))
 else
 some (Stp.brk ()))
theorem impl_listOk_b1_ok (list : List TEntry) (res : V) (outs : List (Option V)) (x1 : Exc Bool Unit) (hb1 : HB cx impl_listOk_X res outs x1 impl_listOk_k1 (fun s => impl_listOk_S1 list)) (hr1 : HR res outs x1 impl_listOk_R impl_listOk_O) (st1 : Stp Bool Int Unit) (hc1 : Cont x1 (fun s : Int => Fin cx impl_listOk_X res outs impl_listOk_k3 (impl_listOk_S2 list s)) st1) (v7 : Int) (h : impl_listOk_b1 list v7 = some st1) : Fin cx impl_listOk_X res outs impl_listOk_k3 (impl_listOk_S2 list v7) :=
  P0 <|
 rg <| cdD 0 h (fun h =>
 rg <| ixS eEntry 0 h fun entry hentry h =>
 rg <| cb impl_CertEntry_t impl_CertEntry_ok 1 false h fun certEntry h =>
 cdD 2 h (fun h =>
 rg <| (retD h hc1 fun e => fn0 Tryz.func86 (hr1 _ e))) (fun h =>
 rg <| (nxtD h hc1 fun hI => sg [] [0, 5, 6, 7] [] hI))) (fun h =>
 (brkD h hc1 fun e => sg [] [0] [] (hb1 _ e)))
noncomputable def impl_listOk (list : List TEntry) : Option Bool :=
  ((loop (fun s : Int => impl_listOk_b1 list s) 0).bind fun x => x.go (fun r => some r) fun s => impl_listOk_k2 list)
theorem impl_listOk_ok {list : List TEntry} (r : Bool) (h : impl_listOk list = some r) : ACalls cx.P 86 [vsl 7 eEntry list] (impl_listOk_R r) (impl_listOk_O r) :=
  ACalls.of (cx := cx) (X := impl_listOk_X) (c := impl_listOk_c) Tryz.func86 (by kernel_rfl) (by kernel_rfl) (by kernel_rfl) (P0 <|
 rg2 <| loopJ h fun x hl hr hb => sg [] [0, 5, 6, 7] [] (loopD (I := fun s : Int => Fin cx impl_listOk_X (impl_listOk_R r) (impl_listOk_O r) impl_listOk_k3 (impl_listOk_S2 list s)) hl fun s st h hc => impl_listOk_b1_ok list _ _ x (fun s e => impl_listOk_k2_ok list r (hb s e)) (fun v e => ⟨congrArg impl_listOk_R (Option.some.inj (hr v e)).symm, congrArg impl_listOk_O (Option.some.inj (hr v e)).symm⟩) st hc s h))

/-! ### impl_insOk_c1 -/
noncomputable def impl_insOk_c1_c : Code := bodyOf Tryz.f126
noncomputable def impl_insOk_c1_X : Sig := { f := 126, fn := Tryz.f126, rms := [.val [] []], oms := [none] }
noncomputable def impl_insOk_c1_R (r : Bool) : V := .b r
noncomputable def impl_insOk_c1_O (r : Bool) : List (Option V) := [none]
noncomputable def impl_insOk_c1_t (i : Nat) (fr : Bool) (r : Bool) : Nat × Tell := (i, { a := .call [.val [] []] fr (impl_insOk_c1_R r) (impl_insOk_c1_O r) })
noncomputable def impl_insOk_c1 (n : Int) : Option Bool :=
  ((impl_in n 0 3).bind fun in_ =>
 some in_)
theorem impl_insOk_c1_ok {n : Int} (r : Bool) (h : impl_insOk_c1 n = some r) : ACalls cx.P 126 [vi n] (impl_insOk_c1_R r) (impl_insOk_c1_O r) :=
  ACalls.of (cx := cx) (X := impl_insOk_c1_X) (c := impl_insOk_c1_c) Tryz.func126 (by kernel_rfl) (by kernel_rfl) (by kernel_rfl) (P0 <|
 rg2 <| cb impl_in_t impl_in_ok 1 false h fun in_ h =>
 fe Tryz.func126 h)

/-! ### impl_insOk_c2 -/
noncomputable def impl_insOk_c2_c : Code := bodyOf Tryz.f127
noncomputable def impl_insOk_c2_X : Sig := { f := 127, fn := Tryz.f127, rms := [.val [] []], oms := [none] }
noncomputable def impl_insOk_c2_R (r : Bool) : V := .b r
noncomputable def impl_insOk_c2_O (r : Bool) : List (Option V) := [none]
noncomputable def impl_insOk_c2_t (i : Nat) (fr : Bool) (r : Bool) : Nat × Tell := (i, { a := .call [.val [] []] fr (impl_insOk_c2_R r) (impl_insOk_c2_O r) })
noncomputable def impl_insOk_c2 (n : Int) : Option Bool :=
  ((impl_in n 0 3).bind fun in_ =>
 some in_)
theorem impl_insOk_c2_ok {n : Int} (r : Bool) (h : impl_insOk_c2 n = some r) : ACalls cx.P 127 [vi n] (impl_insOk_c2_R r) (impl_insOk_c2_O r) :=
  ACalls.of (cx := cx) (X := impl_insOk_c2_X) (c := impl_insOk_c2_c) Tryz.func127 (by kernel_rfl) (by kernel_rfl) (by kernel_rfl) (P0 <|
 rg2 <| cb impl_in_t impl_in_ok 1 false h fun in_ h =>
 fe Tryz.func127 h)

/-! ### impl_insOk -/
noncomputable def impl_insOk_c : Code := bodyOf Tryz.f91
noncomputable def impl_insOk_X : Sig := { f := 91, fn := Tryz.f91, rms := [.val [] []], oms := [none] }
noncomputable def impl_insOk_R (r : Bool) : V := .b r
noncomputable def impl_insOk_O (r : Bool) : List (Option V) := [none]
noncomputable def impl_insOk_t (i : Nat) (fr : Bool) (r : Bool) : Nat × Tell := (i, { a := .call [.val [] []] fr (impl_insOk_R r) (impl_insOk_O r) })
noncomputable def impl_insOk (x_ : TIns) : Option Bool :=
  (bif (x_.Kind == 1) then
 ((impl_insOk_c1 x_.A).bind fun c1 =>
 (bif c1 then
 ((impl_insOk_c2 x_.B).bind fun c2 =>
 (bif c2 then
 some (x_.N == 0)
 else
 some false))
 else
 some false))
 else
 (bif (x_.Kind == 2) then
 ((impl_insOk_c2 x_.A).bind fun c21 =>
 (bif c21 then
 ((impl_insOk_c1 x_.B).bind fun c11 =>
 (bif c11 then
 some (x_.N == 0)
 else
 some false))
 else
 some false))
 else
 (bif (x_.Kind == 3) then
 ((impl_insOk_c1 x_.A).bind fun c12 =>
 (bif c12 then
 (bif (x_.B == 0) then
 ((impl_in x_.N (-1000000) 1000000).bind fun in_ =>
 some in_)
 else
 some false)
 else
 some false))
 else
 (bif (x_.Kind == 4) then
 ((impl_insOk_c1 x_.A).bind fun c13 =>
 (bif c13 then
 ((impl_insOk_c1 x_.B).bind fun c14 =>
 (bif c14 then
 some (x_.N == 0)
 else
 some false))
 else
 some false))
 else
 (bif (x_.Kind == 5) then
 ((impl_insOk_c1 x_.A).bind fun c15 =>
 (bif c15 then
 ((impl_insOk_c1 x_.B).bind fun c16 =>
 (bif c16 then
 some (x_.N == 0)
 else
 some false))
 else
 some false))
 else
 (bif (x_.Kind == 6) then
 ((impl_insOk_c1 x_.A).bind fun c17 =>
 (bif c17 then
 ((impl_insOk_c1 x_.B).bind fun c18 =>
 (bif c18 then
 ((impl_in x_.N 1 10).bind fun in_1 =>
 some in_1)
 else
 some false))
 else
 some false))
 else
 (bif (x_.Kind == 7) then
 (bif (x_.A == 0) then
 (bif (x_.B == 0) then
 some (x_.N == 0)
 else
 some false)
 else
 some false)
 else
 some false)))))))
set_option maxRecDepth 20000 in
theorem impl_insOk_ok {x_ : TIns} (r : Bool) (h : impl_insOk x_ = some r) : ACalls cx.P 91 [.agg (eIns x_)] (impl_insOk_R r) (impl_insOk_O r) :=
  ACalls.of (cx := cx) (X := impl_insOk_X) (c := impl_insOk_c) Tryz.func91 (by kernel_rfl) (by kernel_rfl) (by kernel_rfl) (P0 <|
 rg4 <| rg <| cdD 1 h (fun h =>
 rg <| cb impl_insOk_c1_t impl_insOk_c1_ok 3 false h fun c1 h =>
 cdD 4 h (fun h =>
 cb impl_insOk_c2_t impl_insOk_c2_ok 8 false h fun c2 h =>
 cdD 10 h (fun h =>
 fe Tryz.func91 h) (fun h =>
 fe Tryz.func91 h)) (fun h =>
 fe Tryz.func91 h)) (fun h =>
 rg <| cdD 1 h (fun h =>
 rg <| cb impl_insOk_c2_t impl_insOk_c2_ok 3 false h fun c21 h =>
 cdD 4 h (fun h =>
 cb impl_insOk_c1_t impl_insOk_c1_ok 8 false h fun c11 h =>
 cdD 10 h (fun h =>
 fe Tryz.func91 h) (fun h =>
 fe Tryz.func91 h)) (fun h =>
 fe Tryz.func91 h)) (fun h =>
 rg <| cdD 1 h (fun h =>
 rg <| cb impl_insOk_c1_t impl_insOk_c1_ok 3 false h fun c12 h =>
 cdD 4 h (fun h =>
 cdD 9 h (fun h =>
 cb impl_in_t impl_in_ok 12 false h fun in_ h =>
 fe Tryz.func91 h) (fun h =>
 fe Tryz.func91 h)) (fun h =>
 fe Tryz.func91 h)) (fun h =>
 rg <| cdD 1 h (fun h =>
 rg <| cb impl_insOk_c1_t impl_insOk_c1_ok 3 false h fun c13 h =>
 cdD 4 h (fun h =>
 cb impl_insOk_c1_t impl_insOk_c1_ok 8 false h fun c14 h =>
 cdD 10 h (fun h =>
 fe Tryz.func91 h) (fun h =>
 fe Tryz.func91 h)) (fun h =>
 fe Tryz.func91 h)) (fun h =>
 rg <| cdD 1 h (fun h =>
 rg <| cb impl_insOk_c1_t impl_insOk_c1_ok 3 false h fun c15 h =>
 cdD 4 h (fun h =>
 cb impl_insOk_c1_t impl_insOk_c1_ok 8 false h fun c16 h =>
 cdD 10 h (fun h =>
 fe Tryz.func91 h) (fun h =>
 fe Tryz.func91 h)) (fun h =>
 fe Tryz.func91 h)) (fun h =>
 rg <| cdD 1 h (fun h =>
 rg <| cb impl_insOk_c1_t impl_insOk_c1_ok 3 false h fun c17 h =>
 cdD 4 h (fun h =>
 cb impl_insOk_c1_t impl_insOk_c1_ok 8 false h fun c18 h =>
 cdD 10 h (fun h =>
 cb impl_in_t impl_in_ok 13 false h fun in_1 h =>
 fe Tryz.func91 h) (fun h =>
 fe Tryz.func91 h)) (fun h =>
 fe Tryz.func91 h)) (fun h =>
 rg <| cdD 1 h (fun h =>
 rg <| cdD 3 h (fun h =>
 cdD 8 h (fun h =>
 fe Tryz.func91 h) (fun h =>
 fe Tryz.func91 h)) (fun h =>
 fe Tryz.func91 h)) (fun h =>
 rg <| fe Tryz.func91 h))))))))

/-! ### impl_ProgOk -/
noncomputable def impl_ProgOk_c : Code := bodyOf Tryz.f47
noncomputable def impl_ProgOk_X : Sig := { f := 47, fn := Tryz.f47, rms := [.val [] []], oms := [none] }
noncomputable def impl_ProgOk_R (r : Bool) : V := .b r
noncomputable def impl_ProgOk_O (r : Bool) : List (Option V) := [none]
noncomputable def impl_ProgOk_t (i : Nat) (fr : Bool) (r : Bool) : Nat × Tell := (i, { a := .call [.val [some 4] []] fr (impl_ProgOk_R r) (impl_ProgOk_O r) })
noncomputable def impl_ProgOk_k1 : List Item := posI 2000 3 [false] [.code impl_ProgOk_c]
noncomputable def impl_ProgOk_S1 (list : List TIns) : St := ⟨(vsl 4 eIns list :: (bs 17 [])), [some []]⟩
noncomputable def impl_ProgOk_k2 (list : List TIns) : Option Bool :=
  some (decide ((list.length : Int) ≤ 10))
theorem impl_ProgOk_k2_ok (list : List TIns) (r : Bool) (h : impl_ProgOk_k2 list = some r) : Fin cx impl_ProgOk_X (impl_ProgOk_R r) (impl_ProgOk_O r) impl_ProgOk_k1 (impl_ProgOk_S1 list) :=
  P0 <|
 rg <| fe Tryz.func47 h
noncomputable def impl_ProgOk_k3 : List Item := posI 2000 2 [] [.code impl_ProgOk_c]
noncomputable def impl_ProgOk_S2 (list : List TIns) (v7 : Int) : St := ⟨(vsl 4 eIns list :: (bs 4 (vsl 4 eIns list :: (vi (list.length : Int) :: (vi v7 :: (bs 10 [])))))), [some []]⟩
noncomputable def impl_ProgOk_b1 (list : List TIns) (v7 : Int) : Option (Stp Bool Int Unit) :=
  (bif decide (v7 < (list.length : Int)) then
 ((idx list v7).bind fun ins =>
 ((impl_insOk ins).bind fun insOk =>
 (bif (!insOk) then
 some (Stp.ret false)
 else
 some (Stp.nxt (w64 (v7 + 1))))))
 else
 some (Stp.brk ()))
theorem impl_ProgOk_b1_ok (list : List TIns) (res : V) (outs : List (Option V)) (x1 : Exc Bool Unit) (hb1 : HB cx impl_ProgOk_X res outs x1 impl_ProgOk_k1 (fun s => impl_ProgOk_S1 list)) (hr1 : HR res outs x1 impl_ProgOk_R impl_ProgOk_O) (st1 : Stp Bool Int Unit) (hc1 : Cont x1 (fun s : Int => Fin cx impl_ProgOk_X res outs impl_ProgOk_k3 (impl_ProgOk_S2 list s)) st1) (v7 : Int) (h : impl_ProgOk_b1 list v7 = some st1) : Fin cx impl_ProgOk_X res outs impl_ProgOk_k3 (impl_ProgOk_S2 list v7) :=
  P0 <|
 rg <| cdD 0 h (fun h =>
 rg <| ixS eIns 0 h fun ins hins h =>
 rg <| cb impl_insOk_t impl_insOk_ok 1 false h fun insOk h =>
 cdD 2 h (fun h =>
 rg <| (retD h hc1 fun e => fn0 Tryz.func47 (hr1 _ e))) (fun h =>
 rg <| (nxtD h hc1 fun hI => sg [] [0, 5, 6, 7] [] hI))) (fun h =>
 (brkD h hc1 fun e => sg [] [0] [] (hb1 _ e)))
noncomputable def impl_ProgOk (list : List TIns) : Option Bool :=
  ((loop (fun s : Int => impl_ProgOk_b1 list s) 0).bind fun x => x.go (fun r => some r) fun s => impl_ProgOk_k2 list)
theorem impl_ProgOk_ok {list : List TIns} (r : Bool) (h : impl_ProgOk list = some r) : ACalls cx.P 47 [vsl 4 eIns list] (impl_ProgOk_R r) (impl_ProgOk_O r) :=
  ACalls.of (cx := cx) (X := impl_ProgOk_X) (c := impl_ProgOk_c) Tryz.func47 (by kernel_rfl) (by kernel_rfl) (by kernel_rfl) (P0 <|
 rg2 <| loopJ h fun x hl hr hb => sg [] [0, 5, 6, 7] [] (loopD (I := fun s : Int => Fin cx impl_ProgOk_X (impl_ProgOk_R r) (impl_ProgOk_O r) impl_ProgOk_k3 (impl_ProgOk_S2 list s)) hl fun s st h hc => impl_ProgOk_b1_ok list _ _ x (fun s e => impl_ProgOk_k2_ok list r (hb s e)) (fun v e => ⟨congrArg impl_ProgOk_R (Option.some.inj (hr v e)).symm, congrArg impl_ProgOk_O (Option.some.inj (hr v e)).symm⟩) st hc s h))

/-! ### impl_AccOwner -/
noncomputable def impl_AccOwner_c : Code := bodyOf Tryz.f123
noncomputable def impl_AccOwner_X : Sig := { f := 123, fn := Tryz.f123, rms := [.val [] []], oms := [none] }
noncomputable def impl_AccOwner_R (r : Int) : V := vi r
noncomputable def impl_AccOwner_O (r : Int) : List (Option V) := [none]
noncomputable def impl_AccOwner_t (i : Nat) (fr : Bool) (r : Int) : Nat × Tell := (i, { a := .call [.val [] []] fr (impl_AccOwner_R r) (impl_AccOwner_O r) })
noncomputable def impl_AccOwner (bal : Int) : Option Int :=
  ((impl_in bal 1 3000).bind fun in_ =>
 (bif (!in_) then
 some (-1)
 else
 some (Int.tmod bal 3)))
theorem impl_AccOwner_ok {bal : Int} (r : Int) (h : impl_AccOwner bal = some r) : ACalls cx.P 123 [vi bal] (impl_AccOwner_R r) (impl_AccOwner_O r) :=
  ACalls.of (cx := cx) (X := impl_AccOwner_X) (c := impl_AccOwner_c) Tryz.func123 (by kernel_rfl) (by kernel_rfl) (by kernel_rfl) (P0 <|
 rg2 <| cb impl_in_t impl_in_ok 1 false h fun in_ h =>
 cdD 2 h (fun h =>
 rg <| fe Tryz.func123 h) (fun h =>
 rg <| om (3 ≠ (0 : Int)) (by decide) <| fe Tryz.func123 h))

/-! ### impl_marksOk -/
noncomputable def impl_marksOk_c : Code := bodyOf Tryz.f124
noncomputable def impl_marksOk_X : Sig := { f := 124, fn := Tryz.f124, rms := [.val [] []], oms := [none, none] }
noncomputable def impl_marksOk_R (r : Bool) : V := .b r
noncomputable def impl_marksOk_O (r : Bool) : List (Option V) := [none, none]
noncomputable def impl_marksOk_t (i : Nat) (fr : Bool) (r : Bool) : Nat × Tell := (i, { a := .call [.val [some 1] [], .val [] []] fr (impl_marksOk_R r) (impl_marksOk_O r) })
noncomputable def impl_marksOk (list : List Bool) (id : Int) : Option Bool :=
  (bif ((list.length : Int) == 3) then
 ((idx list id).bind fun y =>
 some y)
 else
 some false)
theorem impl_marksOk_ok {list : List Bool} {id : Int} (r : Bool) (h : impl_marksOk list id = some r) : ACalls cx.P 124 [vsl 1 eB list, vi id] (impl_marksOk_R r) (impl_marksOk_O r) :=
  ACalls.of (cx := cx) (X := impl_marksOk_X) (c := impl_marksOk_c) Tryz.func124 (by kernel_rfl) (by kernel_rfl) (by kernel_rfl) (P0 <|
 rg2 <| cdD 3 h (fun h =>
 ixS eB 6 h fun y hy h =>
 fe Tryz.func124 h) (fun h =>
 fe Tryz.func124 h))

/-! ### impl_leadOk -/
noncomputable def impl_leadOk_c : Code := bodyOf Tryz.f89
noncomputable def impl_leadOk_X : Sig := { f := 89, fn := Tryz.f89, rms := [.val [] []], oms := [none] }
noncomputable def impl_leadOk_R (r : Bool) : V := .b r
noncomputable def impl_leadOk_O (r : Bool) : List (Option V) := [none]
noncomputable def impl_leadOk_t (i : Nat) (fr : Bool) (r : Bool) : Nat × Tell := (i, { a := .call [.val ck100 []] fr (impl_leadOk_R r) (impl_leadOk_O r) })
noncomputable def impl_leadOk_k1 : List Item := posI 2000 2 [] [.code impl_leadOk_c]
noncomputable def impl_leadOk_S1 (n : TNode) (noCur : Bool) : St := ⟨(bs 1 (.ptr 1 0 0 :: (bs 1 (.b noCur :: (bs 92 []))))), [some [], some [.var 100 [vi n.Id, vi n.Acc.Promised, vsl 8 eVote n.Acc.Votes, vsl 7 eEntry n.Known, vi n.Seq, vi n.Phase, vi n.Bal, vsl 1 eB n.From, vsl 8 eVote n.Best, .b n.Cur.None, vi n.Cur.Req.Who, vi n.Cur.Req.Seq, vsl 2 eRead n.Cur.Run.Reads, vsl 2 ePut n.Cur.Run.Puts, vi n.Cur.Run.Val, vi n.Cur.Run.Code, vsl 1 eB n.Votes, .b n.Busy, vsl 4 eIns n.Prog, .b n.Want.None, vi n.Want.Req.Who, vi n.Want.Req.Seq, vsl 2 eRead n.Want.Run.Reads, vsl 2 ePut n.Want.Run.Puts, vi n.Want.Run.Val, vi n.Want.Run.Code, vsl 7 eEntry n.Queue]]]⟩
noncomputable def impl_leadOk_j1 (n : TNode) (noCur : Bool) : Option Bool :=
  (bif (n.Phase == 0) then
 (bif (n.Bal == 0) then
 (bif ((n.From.length : Int) == 0) then
 (bif ((n.Best.length : Int) == 0) then
 some noCur
 else
 some false)
 else
 some false)
 else
 some false)
 else
 ((impl_AccOwner n.Bal).bind fun accOwner =>
 (bif (accOwner != n.Id) then
 some false
 else
 (bif decide (n.Bal > n.Acc.Promised) then
 some false
 else
 ((impl_votesOk n.Best).bind fun votesOk =>
 (bif (!votesOk) then
 some false
 else
 (bif (n.Phase == 1) then
 ((impl_marksOk n.From n.Id).bind fun marksOk =>
 (bif marksOk then
 some noCur
 else
 some false))
 else
 (bif (n.Phase == 2) then
 (bif ((n.From.length : Int) == 0) then
 some noCur
 else
 some false)
 else
 (bif (n.Phase == 3) then
 (bif ((n.From.length : Int) == 0) then
 ((impl_CertEntry n.Cur).bind fun certEntry =>
 (bif certEntry then
 ((impl_marksOk n.Votes n.Id).bind fun marksOk1 =>
 (bif marksOk1 then
 some (decide ((n.Known.length : Int) < 40))
 else
 some false))
 else
 some false))
 else
 some false)
 else
 some false)))))))))
theorem impl_leadOk_j1_ok (n : TNode) (r : Bool) (noCur : Bool) (h : impl_leadOk_j1 n noCur = some r) : Fin cx impl_leadOk_X (impl_leadOk_R r) (impl_leadOk_O r) impl_leadOk_k1 (impl_leadOk_S1 n noCur) :=
  P0 <|
 rg2 <| cdD 2 h (fun h =>
 rg <| cdD 3 h (fun h =>
 cdD 6 h (fun h =>
 cdD 12 h (fun h =>
 fe Tryz.func89 h) (fun h =>
 fe Tryz.func89 h)) (fun h =>
 fe Tryz.func89 h)) (fun h =>
 fe Tryz.func89 h)) (fun h =>
 rg <| cb impl_AccOwner_t impl_AccOwner_ok 2 false h fun accOwner h =>
 cdD 6 h (fun h =>
 rg <| fe Tryz.func89 h) (fun h =>
 cdD 14 h (fun h =>
 rg <| fe Tryz.func89 h) (fun h =>
 cb impl_votesOk_t impl_votesOk_ok 17 false h fun votesOk h =>
 cdD 19 h (fun h =>
 rg <| fe Tryz.func89 h) (fun h =>
 rg2 <| cdD 1 h (fun h =>
 rg <| cb impl_marksOk_t impl_marksOk_ok 4 false h fun marksOk h =>
 cdD 5 h (fun h =>
 fe Tryz.func89 h) (fun h =>
 fe Tryz.func89 h)) (fun h =>
 rg <| cdD 1 h (fun h =>
 rg <| cdD 1 h (fun h =>
 fe Tryz.func89 h) (fun h =>
 fe Tryz.func89 h)) (fun h =>
 rg <| cdD 1 h (fun h =>
 rg <| cdD 1 h (fun h =>
 cb impl_CertEntry_t impl_CertEntry_ok 4 false h fun certEntry h =>
 cdD 6 h (fun h =>
 cb impl_marksOk_t impl_marksOk_ok 11 false h fun marksOk1 h =>
 cdD 13 h (fun h =>
 fe Tryz.func89 h) (fun h =>
 fe Tryz.func89 h)) (fun h =>
 fe Tryz.func89 h)) (fun h =>
 fe Tryz.func89 h)) (fun h =>
 rg <| fe Tryz.func89 h)))))))
noncomputable def impl_leadOk (n : TNode) : Option Bool :=
  ((((impl_CertLike n.Cur (TEntry.mk false (TReq.mk 0 0) (TRun.mk [] [] 0 0))).bind fun certLike =>
 (bif certLike then
 some (Exc.brk ((n.Votes.length : Int) == 0))
 else
 some (Exc.brk false))) : Option (Exc Bool Bool)).bind fun x => x.go some fun j => impl_leadOk_j1 n j)
theorem impl_leadOk_ok {n : TNode} (r : Bool) (h : impl_leadOk n = some r) : ACalls cx.P 89 [.agg (eNode n)] (impl_leadOk_R r) (impl_leadOk_O r) :=
  ACalls.of (cx := cx) (X := impl_leadOk_X) (c := impl_leadOk_c) Tryz.func89 (by kernel_rfl) (by kernel_rfl) (by kernel_rfl) (P0 <|
 rg <| joinD (I := fun j : Bool => Fin cx impl_leadOk_X (impl_leadOk_R r) (impl_leadOk_O r) impl_leadOk_k1 (impl_leadOk_S1 n j)) h (fun j h => impl_leadOk_j1_ok n r j h) (fun x1 h hc1 =>
  rg <| cb impl_CertLike_t impl_CertLike_ok 3 false h fun certLike h =>
 cdD 4 h (fun h =>
 (jbrkD h hc1 fun hI => sg [] [1, 3] [(1, 0)] hI)) (fun h =>
 (jbrkD h hc1 fun hI => sg [] [1, 3] [(1, 0)] hI))))


end Go.Proofs.YtaafmkiajpgdaaaGreat
