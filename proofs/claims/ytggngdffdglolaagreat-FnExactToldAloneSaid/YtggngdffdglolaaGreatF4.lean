/- Functions of the program, and that their calls come to this. -/
import Derived.Test.YtggngdffdglolaaGreatF3
set_option linter.unusedVariables false
set_option linter.unusedSimpArgs false
namespace Go.Proofs.YtggngdffdglolaaGreat
open Go

/-! ### impl_ToldDone -/
noncomputable def impl_ToldDone_c : Code := bodyOf Tryz.f28
noncomputable def impl_ToldDone_X : Sig := { f := 28, fn := Tryz.f28, rms := [.val [some 2] []], oms := [none] }
noncomputable def impl_ToldDone_R (r : List TReq) : V := vsl 2 eReq r
noncomputable def impl_ToldDone_O (r : List TReq) : List (Option V) := [none]
noncomputable def impl_ToldDone_t (i : Nat) (fr : Bool) (r : List TReq) : Nat × Tell := (i, { a := .call [.val [some 7] []] fr (impl_ToldDone_R r) (impl_ToldDone_O r) })
noncomputable def impl_ToldDone_k1 : List Item := posI 2000 6 [false, false] [.code impl_ToldDone_c]
noncomputable def impl_ToldDone_S1 (out1 : List TReq) : St := ⟨(bs 5 (.own 1 0 2 0 out1.length :: (bs 30 []))), [some [], some [erow 62 2 eReq out1]]⟩
noncomputable def impl_ToldDone_k2 (out1 : List TReq) : Option (List TReq) :=
  ((impl_copied_Req out1).bind fun req =>
 some req)
theorem impl_ToldDone_k2_ok (r : List TReq) (out1 : List TReq) (h : impl_ToldDone_k2 out1 = some r) : Fin cx impl_ToldDone_X (impl_ToldDone_R r) (impl_ToldDone_O r) impl_ToldDone_k1 (impl_ToldDone_S1 out1) :=
  P0 <|
 rg <| cb impl_copied_Req_t impl_copied_Req_ok 1 false h fun req h =>
 om (out1.length = out1.length) rfl <| fe Tryz.func28 h
noncomputable def impl_ToldDone_k3 : List Item := posI 2000 5 [false] [.code impl_ToldDone_c]
noncomputable def impl_ToldDone_S2 (list : List TEntry) (folded : TState × List Int) (out : List TReq) (v18 : Int) : St := ⟨(bs 4 (vsl 1 eI folded.2 :: (.own 1 0 2 0 out.length :: (bs 10 (vsl 7 eEntry list :: (vi (list.length : Int) :: (vi v18 :: (bs 17 [])))))))), [some [], some [erow 62 2 eReq out]]⟩
noncomputable def impl_ToldDone_k4 : List Item := posI 2000 9 [false, true, true] [.code impl_ToldDone_c]
noncomputable def impl_ToldDone_S3 (list : List TEntry) (folded : TState × List Int) (v18 : Int) (out2 : List TReq) : St := ⟨(bs 4 (vsl 1 eI folded.2 :: (.own 1 0 2 0 out2.length :: (bs 10 (vsl 7 eEntry list :: (vi (list.length : Int) :: (vi v18 :: (bs 17 [])))))))), [some [], some [erow 62 2 eReq out2]]⟩
noncomputable def impl_ToldDone_j1 (v18 : Int) (out2 : List TReq) : Option (Stp (List TReq) ((List TReq) × Int) (List TReq)) :=
  some (Stp.nxt (out2, w64 (v18 + 1)))
theorem impl_ToldDone_j1_ok (list : List TEntry) (folded : TState × List Int) (v18 : Int) (res : V) (outs : List (Option V)) (x1 : Exc (List TReq) (List TReq)) (hb1 : HB cx impl_ToldDone_X res outs x1 impl_ToldDone_k1 impl_ToldDone_S1) (hr1 : HR res outs x1 impl_ToldDone_R impl_ToldDone_O) (st1 : Stp (List TReq) ((List TReq) × Int) (List TReq)) (hc1 : Cont x1 (fun s : (List TReq) × Int => Fin cx impl_ToldDone_X res outs impl_ToldDone_k3 (impl_ToldDone_S2 list folded s.1 s.2)) st1) (out2 : List TReq) (h : impl_ToldDone_j1 v18 out2 = some st1) : Fin cx impl_ToldDone_X res outs impl_ToldDone_k4 (impl_ToldDone_S3 list folded v18 out2) :=
  P0 <|
 rg <| (nxtD h hc1 fun hI => sg [] [4, 5, 16, 17, 18] [(1, 0)] hI)
noncomputable def impl_ToldDone_b1 (list : List TEntry) (folded : TState × List Int) (out : List TReq) (v18 : Int) : Option (Stp (List TReq) ((List TReq) × Int) (List TReq)) :=
  (bif decide (v18 < (list.length : Int)) then
 ((idx list v18).bind fun entry =>
 ((((idx folded.2 v18).bind fun y =>
 (bif (y == 0) then
 (need ((out.length + 1) * 16 ≤ 140737488355328)
 (some (Exc.brk (out ++ [entry.Req]))))
 else
 some (Exc.brk out))) : Option (Exc (Stp (List TReq) ((List TReq) × Int) (List TReq)) (List TReq))).bind fun x => x.go some fun j => impl_ToldDone_j1 v18 j))
 else
 some (Stp.brk out))
theorem impl_ToldDone_b1_ok (list : List TEntry) (folded : TState × List Int) (res : V) (outs : List (Option V)) (x1 : Exc (List TReq) (List TReq)) (hb1 : HB cx impl_ToldDone_X res outs x1 impl_ToldDone_k1 impl_ToldDone_S1) (hr1 : HR res outs x1 impl_ToldDone_R impl_ToldDone_O) (st1 : Stp (List TReq) ((List TReq) × Int) (List TReq)) (hc1 : Cont x1 (fun s : (List TReq) × Int => Fin cx impl_ToldDone_X res outs impl_ToldDone_k3 (impl_ToldDone_S2 list folded s.1 s.2)) st1) (out : List TReq) (v18 : Int) (h : impl_ToldDone_b1 list folded out v18 = some st1) : Fin cx impl_ToldDone_X res outs impl_ToldDone_k3 (impl_ToldDone_S2 list folded out v18) :=
  P0 <|
 rg <| cdD 0 h (fun h =>
 rg <| ixS eEntry 1 h fun entry hentry h =>
 joinD (I := fun j : List TReq => Fin cx impl_ToldDone_X res outs impl_ToldDone_k4 (impl_ToldDone_S3 list folded v18 j)) h (fun j h => impl_ToldDone_j1_ok list folded v18 res outs x1 hb1 hr1 st1 hc1 j h) (fun x2 h hc2 =>
  rg <| ixS eI 2 h fun y hy h =>
 cdD 4 h (fun h =>
 rg <| tl (3, { a := .ck [] }) <| needD h fun e1 h =>
 apS 4 18 62 2 16 eReq out entry.Req e1 <| om (1 = [entry.Req].length) (by rfl) <| (jbrkD h hc2 fun hI => sg [] [4, 5, 16, 17, 18] [(18, 0)] hI)) (fun h =>
 (jbrkD h hc2 fun hI => sg [] [4, 5, 16, 17, 18] [(1, 0)] hI)))) (fun h =>
 (brkD h hc1 fun e => sg [] [5] [(1, 0)] (hb1 _ e)))
noncomputable def impl_ToldDone (list : List TEntry) : Option (List TReq) :=
  ((impl_listOk list).bind fun listOk =>
 (bif (!listOk) then
 some []
 else
 ((impl_folded list).bind fun folded =>
 ((loop (fun s : (List TReq) × Int => impl_ToldDone_b1 list folded s.1 s.2) ([], 0)).bind fun x => x.go (fun r => some r) fun s => impl_ToldDone_k2 s))))
theorem impl_ToldDone_ok {list : List TEntry} (r : List TReq) (h : impl_ToldDone list = some r) : ACalls cx.P 28 [vsl 7 eEntry list] (impl_ToldDone_R r) (impl_ToldDone_O r) :=
  ACalls.of (cx := cx) (X := impl_ToldDone_X) (c := impl_ToldDone_c) Tryz.func28 (by kernel_rfl) (by kernel_rfl) (by kernel_rfl) (P0 <|
 rg2 <| cb impl_listOk_t impl_listOk_ok 1 false h fun listOk h =>
 cdD 2 h (fun h =>
 rg <| fe Tryz.func28 h) (fun h =>
 rg <| cb impl_folded_t impl_folded_ok 1 false h fun folded h =>
 rg2 <| loopJ h fun x hl hr hb => sg [.own (.tmp 5) 62 2] [4, 5, 16, 17, 18] [(17, 0)] (loopD (I := fun s : (List TReq) × Int => Fin cx impl_ToldDone_X (impl_ToldDone_R r) (impl_ToldDone_O r) impl_ToldDone_k3 (impl_ToldDone_S2 list folded s.1 s.2)) hl fun s st h hc => impl_ToldDone_b1_ok list folded _ _ x (fun s e => impl_ToldDone_k2_ok r s (hb s e)) (fun v e => ⟨congrArg impl_ToldDone_R (Option.some.inj (hr v e)).symm, congrArg impl_ToldDone_O (Option.some.inj (hr v e)).symm⟩) st hc s.1 s.2 h)))

/-! ### impl_copied_Ins -/
noncomputable def impl_copied_Ins_c : Code := bodyOf Tryz.f69
noncomputable def impl_copied_Ins_X : Sig := { f := 69, fn := Tryz.f69, rms := [.val [some 4] []], oms := [none] }
noncomputable def impl_copied_Ins_R (r : List TIns) : V := vsl 4 eIns r
noncomputable def impl_copied_Ins_O (r : List TIns) : List (Option V) := [none]
noncomputable def impl_copied_Ins_t (i : Nat) (fr : Bool) (r : List TIns) : Nat × Tell := (i, { a := .call [.val [some 4] []] fr (impl_copied_Ins_R r) (impl_copied_Ins_O r) })
noncomputable def impl_copied_Ins (list : List TIns) : Option (List TIns) :=
  (bif ((list.length : Int) == 0) then
 some []
 else
 (need (0 ≤ (list.length : Int) ∧ (list.length : Int) * 32 ≤ 140737488355328)
 ((need (list.length = (List.replicate (list.length : Int).toNat (TIns.mk 0 0 0 0)).length)
 (some list)))))
theorem impl_copied_Ins_ok {list : List TIns} (r : List TIns) (h : impl_copied_Ins list = some r) : ACalls cx.P 69 [vsl 4 eIns list] (impl_copied_Ins_R r) (impl_copied_Ins_O r) :=
  ACalls.of (cx := cx) (X := impl_copied_Ins_X) (c := impl_copied_Ins_c) Tryz.func69 (by kernel_rfl) (by kernel_rfl) (by kernel_rfl) (P0 <|
 rg2 <| cdD 2 h (fun h =>
 rg <| fe Tryz.func69 h) (fun h =>
 rg <| needD h fun e1 h =>
 mkS 2 7 142 4 32 eIns (TIns.mk 0 0 0 0) ti142 (.none) e1 (by decide) (by rfl) <| rg <| needD h fun e2 h =>
 om (Ent.row 142 4 (List.replicate (list.length : Int).toNat (TIns.mk 0 0 0 0)).length (list.map eIns) = erow 142 4 eIns list) (row_copy e2) <| om ((List.replicate (list.length : Int).toNat (TIns.mk 0 0 0 0)).length = (List.replicate (list.length : Int).toNat (TIns.mk 0 0 0 0)).length) rfl <| ob e2 <| tl (2, { e := some (erow 142 4 eIns list) }) <| rg <| om ((List.replicate (list.length : Int).toNat (TIns.mk 0 0 0 0)).length = list.length) (by simp) <| fe Tryz.func69 h))

/-! ### impl_ToldProg -/
noncomputable def impl_ToldProg_c : Code := bodyOf Tryz.f29
noncomputable def impl_ToldProg_X : Sig := { f := 29, fn := Tryz.f29, rms := [.val [some 4] [], .val [] []], oms := [none, none] }
noncomputable def impl_ToldProg_R (r : (List TIns) × Bool) : V := .tup [vsl 4 eIns r.1, .b r.2]
noncomputable def impl_ToldProg_O (r : (List TIns) × Bool) : List (Option V) := [none, none]
noncomputable def impl_ToldProg_t (i : Nat) (fr : Bool) (r : (List TIns) × Bool) : Nat × Tell := (i, { a := .call [.val ck35 [], .val [] []] fr (impl_ToldProg_R r) (impl_ToldProg_O r) })
noncomputable def impl_ToldProg_k1 : List Item := posI 2000 3 [false] [.code impl_ToldProg_c]
noncomputable def impl_ToldProg_S1 : St := ⟨(bs 23 []), [some []]⟩
noncomputable def impl_ToldProg_k2 : Option ((List TIns) × Bool) :=
  some ([], false)
theorem impl_ToldProg_k2_ok (r : (List TIns) × Bool) (h : impl_ToldProg_k2 = some r) : Fin cx impl_ToldProg_X (impl_ToldProg_R r) (impl_ToldProg_O r) impl_ToldProg_k1 (impl_ToldProg_S1) :=
  P0 <|
 rg <| fe Tryz.func29 h
noncomputable def impl_ToldProg_k3 : List Item := posI 2000 2 [] [.code impl_ToldProg_c]
noncomputable def impl_ToldProg_S2 (w : TWorld) (q : TReq) (v11 : Int) : St := ⟨(bs 3 (.ptr 1 0 0 :: (bs 5 (vsl 3 eAsked w.Asked :: (vi (w.Asked.length : Int) :: (vi v11 :: (bs 11 []))))))), [some [], some [.var 62 [vi q.Who, vi q.Seq]]]⟩
noncomputable def impl_ToldProg_b1 (w : TWorld) (q : TReq) (v11 : Int) : Option (Stp ((List TIns) × Bool) Int Unit) :=
  (bif decide (v11 < (w.Asked.length : Int)) then
 ((idx w.Asked v11).bind fun asked =>
 (bif (([asked.Req.Who, asked.Req.Seq] : List Int) == [q.Who, q.Seq]) then
 ((impl_copied_Ins asked.Prog).bind fun ins =>
 some (Stp.ret (ins, true)))
 else
 some (Stp.nxt (w64 (v11 + 1)))))
 else
 some (Stp.brk ()))
theorem impl_ToldProg_b1_ok (w : TWorld) (q : TReq) (res : V) (outs : List (Option V)) (x1 : Exc ((List TIns) × Bool) Unit) (hb1 : HB cx impl_ToldProg_X res outs x1 impl_ToldProg_k1 (fun s => impl_ToldProg_S1)) (hr1 : HR res outs x1 impl_ToldProg_R impl_ToldProg_O) (st1 : Stp ((List TIns) × Bool) Int Unit) (hc1 : Cont x1 (fun s : Int => Fin cx impl_ToldProg_X res outs impl_ToldProg_k3 (impl_ToldProg_S2 w q s)) st1) (v11 : Int) (h : impl_ToldProg_b1 w q v11 = some st1) : Fin cx impl_ToldProg_X res outs impl_ToldProg_k3 (impl_ToldProg_S2 w q v11) :=
  P0 <|
 rg <| cdD 0 h (fun h =>
 rg <| ixS eAsked 0 h fun asked hasked h =>
 rg <| cdD 3 h (fun h =>
 rg <| cb impl_copied_Ins_t impl_copied_Ins_ok 2 false h fun ins h =>
 (retD h hc1 fun e => fn0 Tryz.func29 (hr1 _ e))) (fun h =>
 rg <| (nxtD h hc1 fun hI => sg [] [3, 9, 10, 11] [(1, 0)] hI))) (fun h =>
 (brkD h hc1 fun e => sg [] [] [] (hb1 _ e)))
noncomputable def impl_ToldProg (w : TWorld) (q : TReq) : Option ((List TIns) × Bool) :=
  ((loop (fun s : Int => impl_ToldProg_b1 w q s) 0).bind fun x => x.go (fun r => some r) fun s => impl_ToldProg_k2)
theorem impl_ToldProg_ok {w : TWorld} {q : TReq} (r : (List TIns) × Bool) (h : impl_ToldProg w q = some r) : ACalls cx.P 29 [.agg (eWorld w), .agg (eReq q)] (impl_ToldProg_R r) (impl_ToldProg_O r) :=
  ACalls.of (cx := cx) (X := impl_ToldProg_X) (c := impl_ToldProg_c) Tryz.func29 (by kernel_rfl) (by kernel_rfl) (by kernel_rfl) (P0 <|
 rg2 <| loopJ h fun x hl hr hb => sg [] [3, 9, 10, 11] [(2, 0)] (loopD (I := fun s : Int => Fin cx impl_ToldProg_X (impl_ToldProg_R r) (impl_ToldProg_O r) impl_ToldProg_k3 (impl_ToldProg_S2 w q s)) hl fun s st h hc => impl_ToldProg_b1_ok w q _ _ x (fun s e => impl_ToldProg_k2_ok r (hb s e)) (fun v e => ⟨congrArg impl_ToldProg_R (Option.some.inj (hr v e)).symm, congrArg impl_ToldProg_O (Option.some.inj (hr v e)).symm⟩) st hc s h))

/-! ### impl_putAt -/
noncomputable def impl_putAt_c : Code := bodyOf Tryz.f152
noncomputable def impl_putAt_X : Sig := { f := 152, fn := Tryz.f152, rms := [.val [] []], oms := [none, none] }
noncomputable def impl_putAt_R (r : Int) : V := vi r
noncomputable def impl_putAt_O (r : Int) : List (Option V) := [none, none]
noncomputable def impl_putAt_t (i : Nat) (fr : Bool) (r : Int) : Nat × Tell := (i, { a := .call [.val ck73 [], .val [] []] fr (impl_putAt_R r) (impl_putAt_O r) })
noncomputable def impl_putAt_k1 : List Item := posI 2000 3 [false] [.code impl_putAt_c]
noncomputable def impl_putAt_S1 : St := ⟨(bs 21 []), [some []]⟩
noncomputable def impl_putAt_k2 : Option Int :=
  some (-1)
theorem impl_putAt_k2_ok (r : Int) (h : impl_putAt_k2 = some r) : Fin cx impl_putAt_X (impl_putAt_R r) (impl_putAt_O r) impl_putAt_k1 (impl_putAt_S1) :=
  P0 <|
 rg <| fe Tryz.func152 h
noncomputable def impl_putAt_k3 : List Item := posI 2000 2 [] [.code impl_putAt_c]
noncomputable def impl_putAt_S2 (r_ : TRun) (box : Int) (v10 : Int) : St := ⟨(bs 1 (vi box :: (bs 6 (vsl 2 ePut r_.Puts :: (vi (r_.Puts.length : Int) :: (vi v10 :: (bs 10 []))))))), [some []]⟩
noncomputable def impl_putAt_b1 (r_ : TRun) (box : Int) (v10 : Int) : Option (Stp Int Int Unit) :=
  (bif decide (v10 < (r_.Puts.length : Int)) then
 ((idx r_.Puts v10).bind fun put =>
 (bif (put.Box == box) then
 some (Stp.ret v10)
 else
 some (Stp.nxt (w64 (v10 + 1)))))
 else
 some (Stp.brk ()))
theorem impl_putAt_b1_ok (r_ : TRun) (box : Int) (res : V) (outs : List (Option V)) (x1 : Exc Int Unit) (hb1 : HB cx impl_putAt_X res outs x1 impl_putAt_k1 (fun s => impl_putAt_S1)) (hr1 : HR res outs x1 impl_putAt_R impl_putAt_O) (st1 : Stp Int Int Unit) (hc1 : Cont x1 (fun s : Int => Fin cx impl_putAt_X res outs impl_putAt_k3 (impl_putAt_S2 r_ box s)) st1) (v10 : Int) (h : impl_putAt_b1 r_ box v10 = some st1) : Fin cx impl_putAt_X res outs impl_putAt_k3 (impl_putAt_S2 r_ box v10) :=
  P0 <|
 rg <| cdD 0 h (fun h =>
 rg <| ixS ePut 1 h fun put hput h =>
 rg <| cdD 3 h (fun h =>
 rg <| (retD h hc1 fun e => fn0 Tryz.func152 (hr1 _ e))) (fun h =>
 rg <| (nxtD h hc1 fun hI => sg [] [1, 8, 9, 10] [] hI))) (fun h =>
 (brkD h hc1 fun e => sg [] [] [] (hb1 _ e)))
noncomputable def impl_putAt (r_ : TRun) (box : Int) : Option Int :=
  ((loop (fun s : Int => impl_putAt_b1 r_ box s) 0).bind fun x => x.go (fun r => some r) fun s => impl_putAt_k2)
theorem impl_putAt_ok {r_ : TRun} {box : Int} (r : Int) (h : impl_putAt r_ box = some r) : ACalls cx.P 152 [.agg (eRun r_), vi box] (impl_putAt_R r) (impl_putAt_O r) :=
  ACalls.of (cx := cx) (X := impl_putAt_X) (c := impl_putAt_c) Tryz.func152 (by kernel_rfl) (by kernel_rfl) (by kernel_rfl) (P0 <|
 rg2 <| loopJ h fun x hl hr hb => sg [] [1, 8, 9, 10] [] (loopD (I := fun s : Int => Fin cx impl_putAt_X (impl_putAt_R r) (impl_putAt_O r) impl_putAt_k3 (impl_putAt_S2 r_ box s)) hl fun s st h hc => impl_putAt_b1_ok r_ box _ _ x (fun s e => impl_putAt_k2_ok r (hb s e)) (fun v e => ⟨congrArg impl_putAt_R (Option.some.inj (hr v e)).symm, congrArg impl_putAt_O (Option.some.inj (hr v e)).symm⟩) st hc s h))

/-! ### impl_readAt -/
noncomputable def impl_readAt_c : Code := bodyOf Tryz.f153
noncomputable def impl_readAt_X : Sig := { f := 153, fn := Tryz.f153, rms := [.val [] []], oms := [none, none] }
noncomputable def impl_readAt_R (r : Int) : V := vi r
noncomputable def impl_readAt_O (r : Int) : List (Option V) := [none, none]
noncomputable def impl_readAt_t (i : Nat) (fr : Bool) (r : Int) : Nat × Tell := (i, { a := .call [.val ck73 [], .val [] []] fr (impl_readAt_R r) (impl_readAt_O r) })
noncomputable def impl_readAt_k1 : List Item := posI 2000 3 [false] [.code impl_readAt_c]
noncomputable def impl_readAt_S1 : St := ⟨(bs 21 []), [some []]⟩
noncomputable def impl_readAt_k2 : Option Int :=
  some (-1)
theorem impl_readAt_k2_ok (r : Int) (h : impl_readAt_k2 = some r) : Fin cx impl_readAt_X (impl_readAt_R r) (impl_readAt_O r) impl_readAt_k1 (impl_readAt_S1) :=
  P0 <|
 rg <| fe Tryz.func153 h
noncomputable def impl_readAt_k3 : List Item := posI 2000 2 [] [.code impl_readAt_c]
noncomputable def impl_readAt_S2 (r_ : TRun) (box : Int) (v10 : Int) : St := ⟨(bs 1 (vi box :: (bs 6 (vsl 2 eRead r_.Reads :: (vi (r_.Reads.length : Int) :: (vi v10 :: (bs 10 []))))))), [some []]⟩
noncomputable def impl_readAt_b1 (r_ : TRun) (box : Int) (v10 : Int) : Option (Stp Int Int Unit) :=
  (bif decide (v10 < (r_.Reads.length : Int)) then
 ((idx r_.Reads v10).bind fun read =>
 (bif (read.Box == box) then
 some (Stp.ret v10)
 else
 some (Stp.nxt (w64 (v10 + 1)))))
 else
 some (Stp.brk ()))
theorem impl_readAt_b1_ok (r_ : TRun) (box : Int) (res : V) (outs : List (Option V)) (x1 : Exc Int Unit) (hb1 : HB cx impl_readAt_X res outs x1 impl_readAt_k1 (fun s => impl_readAt_S1)) (hr1 : HR res outs x1 impl_readAt_R impl_readAt_O) (st1 : Stp Int Int Unit) (hc1 : Cont x1 (fun s : Int => Fin cx impl_readAt_X res outs impl_readAt_k3 (impl_readAt_S2 r_ box s)) st1) (v10 : Int) (h : impl_readAt_b1 r_ box v10 = some st1) : Fin cx impl_readAt_X res outs impl_readAt_k3 (impl_readAt_S2 r_ box v10) :=
  P0 <|
 rg <| cdD 0 h (fun h =>
 rg <| ixS eRead 1 h fun read hread h =>
 rg <| cdD 3 h (fun h =>
 rg <| (retD h hc1 fun e => fn0 Tryz.func153 (hr1 _ e))) (fun h =>
 rg <| (nxtD h hc1 fun hI => sg [] [1, 8, 9, 10] [] hI))) (fun h =>
 (brkD h hc1 fun e => sg [] [] [] (hb1 _ e)))
noncomputable def impl_readAt (r_ : TRun) (box : Int) : Option Int :=
  ((loop (fun s : Int => impl_readAt_b1 r_ box s) 0).bind fun x => x.go (fun r => some r) fun s => impl_readAt_k2)
theorem impl_readAt_ok {r_ : TRun} {box : Int} (r : Int) (h : impl_readAt r_ box = some r) : ACalls cx.P 153 [.agg (eRun r_), vi box] (impl_readAt_R r) (impl_readAt_O r) :=
  ACalls.of (cx := cx) (X := impl_readAt_X) (c := impl_readAt_c) Tryz.func153 (by kernel_rfl) (by kernel_rfl) (by kernel_rfl) (P0 <|
 rg2 <| loopJ h fun x hl hr hb => sg [] [1, 8, 9, 10] [] (loopD (I := fun s : Int => Fin cx impl_readAt_X (impl_readAt_R r) (impl_readAt_O r) impl_readAt_k3 (impl_readAt_S2 r_ box s)) hl fun s st h hc => impl_readAt_b1_ok r_ box _ _ x (fun s e => impl_readAt_k2_ok r (hb s e)) (fun v e => ⟨congrArg impl_readAt_R (Option.some.inj (hr v e)).symm, congrArg impl_readAt_O (Option.some.inj (hr v e)).symm⟩) st hc s h))

/-! ### impl_ExecRun -/
noncomputable def impl_ExecRun_c : Code := bodyOf Tryz.f118
noncomputable def impl_ExecRun_X : Sig := { f := 118, fn := Tryz.f118, rms := [.val ck73 []], oms := [none, none] }
noncomputable def impl_ExecRun_R (r : TRun) : V := .agg (eRun r)
noncomputable def impl_ExecRun_O (r : TRun) : List (Option V) := [none, none]
noncomputable def impl_ExecRun_t (i : Nat) (fr : Bool) (r : TRun) : Nat × Tell := (i, { a := .call [.val [some 2] [], .val [some 4] []] fr (impl_ExecRun_R r) (impl_ExecRun_O r) })
noncomputable def impl_ExecRun_k1 : List Item := posI 2000 6 [false, false] [.code impl_ExecRun_c]
noncomputable def impl_ExecRun_S1 (Reads2 : List TRead) (Puts2 : List TPut) (regs1 : List Int) (Reads3 : List TRead) (Puts3 : List TPut) : St := ⟨(bs 4 (.ptr 1 0 0 :: (.ptr 4 0 0 :: (.ptr 5 0 0 :: (bs 175 []))))), [some [], some [.var 73 [.own 2 0 2 0 Reads2.length, .own 3 0 2 0 Puts2.length, vi 0, vi 0]], some [erow 193 2 eRead Reads2], some [erow 195 2 ePut Puts2], some [.arr 207 1 4 (regs1.map eI)], some [.var 73 [.own 6 0 2 0 Reads3.length, .own 7 0 2 0 Puts3.length, vi 0, vi 0]], some [erow 193 2 eRead Reads3], some [erow 195 2 ePut Puts3]]⟩
noncomputable def impl_ExecRun_k2 (Reads2 : List TRead) (Puts2 : List TPut) (regs1 : List Int) (Reads3 : List TRead) (Puts3 : List TPut) : Option TRun :=
  ((impl_copied_Read Reads3).bind fun read =>
 ((impl_copied_Put Puts3).bind fun put =>
 ((idx regs1 0).bind fun y =>
 (need ((0 : Int) < 4)
 (some (TRun.mk read put y 0))))))
theorem impl_ExecRun_k2_ok (r : TRun) (Reads2 : List TRead) (Puts2 : List TPut) (regs1 : List Int) (Reads3 : List TRead) (Puts3 : List TPut) (h : impl_ExecRun_k2 Reads2 Puts2 regs1 Reads3 Puts3 = some r) : Fin cx impl_ExecRun_X (impl_ExecRun_R r) (impl_ExecRun_O r) impl_ExecRun_k1 (impl_ExecRun_S1 Reads2 Puts2 regs1 Reads3 Puts3) :=
  P0 <|
 rg <| cb impl_copied_Read_t impl_copied_Read_ok 2 false h fun read h =>
 om (Reads3.length = Reads3.length) rfl <| cb impl_copied_Put_t impl_copied_Put_ok 5 false h fun put h =>
 om (Puts3.length = Puts3.length) rfl <| bindD h fun y hy h =>
 needD h fun e1 h =>
 ob (idx0 hy) <| ob e1 <| ob (map_idx (enc := eI) hy) <| tl (tr 7 (eI y)) <| fe Tryz.func118 h
noncomputable def impl_ExecRun_k3 : List Item := posI 2000 5 [false] [.code impl_ExecRun_c]
noncomputable def impl_ExecRun_S2 (list : List TBox) (prog : List TIns) (regs : List Int) (Reads : List TRead) (Puts : List TPut) (Reads1 : List TRead) (Puts1 : List TPut) (at_ : Int) : St := ⟨(vsl 2 eBox list :: (vsl 4 eIns prog :: (bs 2 (.ptr 1 0 0 :: (.ptr 2 0 0 :: (.ptr 3 0 0 :: (vi at_ :: (bs 174 [])))))))), [some [], some [.var 73 [.own 4 0 2 0 Reads.length, .own 5 0 2 0 Puts.length, vi 0, vi 0]], some [.arr 207 1 4 (regs.map eI)], some [.var 73 [.own 6 0 2 0 Reads1.length, .own 7 0 2 0 Puts1.length, vi 0, vi 0]], some [erow 193 2 eRead Reads], some [erow 195 2 ePut Puts], some [erow 193 2 eRead Reads1], some [erow 195 2 ePut Puts1]]⟩
noncomputable def impl_ExecRun_k4 : List Item := posI 2000 14 [false, true, true, true, false] [.code impl_ExecRun_c]
noncomputable def impl_ExecRun_S3 (list : List TBox) (prog : List TIns) (regs : List Int) (Reads : List TRead) (Puts : List TPut) (Reads1 : List TRead) (Puts1 : List TPut) (at_ : Int) (ins : TIns) (put1 : TPut) : St := ⟨(vsl 2 eBox list :: (vsl 4 eIns prog :: (bs 2 (.ptr 1 0 0 :: (.ptr 4 0 0 :: (.ptr 5 0 0 :: (vi at_ :: (bs 174 [])))))))), [some [], some [.var 73 [.own 2 0 2 0 Reads.length, .own 3 0 2 0 Puts.length, vi 0, vi 0]], some [erow 193 2 eRead Reads], some [erow 195 2 ePut Puts], some [.arr 207 1 4 ((regs.set ins.A.toNat put1.Val).map eI)], some [.var 73 [.own 6 0 2 0 Reads1.length, .own 7 0 2 0 Puts1.length, vi 0, vi 0]], some [erow 193 2 eRead Reads1], some [erow 195 2 ePut Puts1]]⟩
noncomputable def impl_ExecRun_k5 (regs : List Int) (Reads : List TRead) (Puts : List TPut) (Reads1 : List TRead) (Puts1 : List TPut) (at_ : Int) (ins : TIns) (put1 : TPut) : Option (Stp TRun ((List Int) × (List TRead) × (List TPut) × (List TRead) × (List TPut) × Int) ((List TRead) × (List TPut) × (List Int) × (List TRead) × List TPut)) :=
  some (Stp.nxt (regs.set ins.A.toNat put1.Val, Reads, Puts, Reads1, Puts1, w64 (at_ + 1)))
theorem impl_ExecRun_k5_ok (list : List TBox) (prog : List TIns) (regs : List Int) (Reads : List TRead) (Puts : List TPut) (Reads1 : List TRead) (Puts1 : List TPut) (at_ : Int) (ins : TIns) (put1 : TPut) (res : V) (outs : List (Option V)) (x1 : Exc TRun ((List TRead) × (List TPut) × (List Int) × (List TRead) × List TPut)) (hb1 : HB cx impl_ExecRun_X res outs x1 impl_ExecRun_k1 (fun s => impl_ExecRun_S1 s.1 s.2.1 s.2.2.1 s.2.2.2.1 s.2.2.2.2)) (hr1 : HR res outs x1 impl_ExecRun_R impl_ExecRun_O) (st1 : Stp TRun ((List Int) × (List TRead) × (List TPut) × (List TRead) × (List TPut) × Int) ((List TRead) × (List TPut) × (List Int) × (List TRead) × List TPut)) (hc1 : Cont x1 (fun s : (List Int) × (List TRead) × (List TPut) × (List TRead) × (List TPut) × Int => Fin cx impl_ExecRun_X res outs impl_ExecRun_k3 (impl_ExecRun_S2 list prog s.1 s.2.1 s.2.2.1 s.2.2.2.1 s.2.2.2.2.1 s.2.2.2.2.2)) st1) (h : impl_ExecRun_k5 regs Reads Puts Reads1 Puts1 at_ ins put1 = some st1) : Fin cx impl_ExecRun_X res outs impl_ExecRun_k4 (impl_ExecRun_S3 list prog regs Reads Puts Reads1 Puts1 at_ ins put1) :=
  P0 <|
 rg <| (nxtD h hc1 fun hI => sg [] [0, 1, 4, 5, 6, 7] [(1, 0), (4, 0), (5, 0), (2, 0), (3, 0), (6, 0), (7, 0)] hI)
noncomputable def impl_ExecRun_k6 : List Item := posI 2000 13 [false, true, true, true] [.code impl_ExecRun_c]
noncomputable def impl_ExecRun_S4 (list : List TBox) (prog : List TIns) (regs : List Int) (Reads : List TRead) (Puts : List TPut) (Reads1 : List TRead) (Puts1 : List TPut) (at_ : Int) (ins : TIns) (put1 : TPut) (v162 : Int) : St := ⟨(vsl 2 eBox list :: (vsl 4 eIns prog :: (bs 2 (.ptr 1 0 0 :: (.ptr 4 0 0 :: (.ptr 5 0 0 :: (vi at_ :: (bs 153 (.agg ((regs.set ins.A.toNat put1.Val).map eI).flatten :: (vi v162 :: (bs 19 []))))))))))), [some [], some [.var 73 [.own 2 0 2 0 Reads.length, .own 3 0 2 0 Puts.length, vi 0, vi 0]], some [erow 193 2 eRead Reads], some [erow 195 2 ePut Puts], some [.arr 207 1 4 ((regs.set ins.A.toNat put1.Val).map eI)], some [.var 73 [.own 6 0 2 0 Reads1.length, .own 7 0 2 0 Puts1.length, vi 0, vi 0]], some [erow 193 2 eRead Reads1], some [erow 195 2 ePut Puts1]]⟩
noncomputable def impl_ExecRun_b1 (regs : List Int) (Reads1 : List TRead) (ins : TIns) (put1 : TPut) (v162 : Int) : Option (Stp TRun Int Unit) :=
  (bif decide (v162 < 4) then
 ((idx (regs.set ins.A.toNat put1.Val) v162).bind fun y2 =>
 (need (v162 < 4)
 (((impl_in y2 (-1000000) 1000000).bind fun in_ =>
 (bif (!in_) then
 ((impl_copied_Read Reads1).bind fun read1 =>
 some (Stp.ret (TRun.mk read1 [] 0 2)))
 else
 some (Stp.nxt (w64 (v162 + 1))))))))
 else
 some (Stp.brk ()))
theorem impl_ExecRun_b1_ok (list : List TBox) (prog : List TIns) (regs : List Int) (Reads : List TRead) (Puts : List TPut) (Reads1 : List TRead) (Puts1 : List TPut) (at_ : Int) (ins : TIns) (put1 : TPut) (res : V) (outs : List (Option V)) (x2 : Exc TRun Unit) (hb2 : HB cx impl_ExecRun_X res outs x2 impl_ExecRun_k4 (fun s => impl_ExecRun_S3 list prog regs Reads Puts Reads1 Puts1 at_ ins put1)) (hr2 : HR res outs x2 impl_ExecRun_R impl_ExecRun_O) (st2 : Stp TRun Int Unit) (hc2 : Cont x2 (fun s : Int => Fin cx impl_ExecRun_X res outs impl_ExecRun_k6 (impl_ExecRun_S4 list prog regs Reads Puts Reads1 Puts1 at_ ins put1 s)) st2) (v162 : Int) (h : impl_ExecRun_b1 regs Reads1 ins put1 v162 = some st2) : Fin cx impl_ExecRun_X res outs impl_ExecRun_k6 (impl_ExecRun_S4 list prog regs Reads Puts Reads1 Puts1 at_ ins put1 v162) :=
  P0 <|
 rg <| cdD 0 h (fun h =>
 rg <| bindD h fun y2 hy2 h =>
 needD h fun e3 h =>
 ob (idx0 hy2) <| ob e3 <| om (((regs.set ins.A.toNat put1.Val).map eI).flatten[v162.toNat]? = some (vi y2)) (flat_idx (fun _ => rfl) hy2) <| tl (0, { a := .val (vi y2) }) <| rg <| cb impl_in_t impl_in_ok 1 false h fun in_ h =>
 cdD 2 h (fun h =>
 rg <| cb impl_copied_Read_t impl_copied_Read_ok 2 false h fun read1 h =>
 om (Reads1.length = Reads1.length) rfl <| (retD h hc2 fun e => fn0 Tryz.func118 (hr2 _ e))) (fun h =>
 rg <| (nxtD h hc2 fun hI => om (V.agg (((regs.set ins.A.toNat put1.Val).map eI).flatten.map (renC [(1, 0), (2, 0), (3, 0), (4, 0), (5, 0), (6, 0), (7, 0)])) = .agg ((regs.set ins.A.toNat put1.Val).map eI).flatten) (congrArg V.agg (ren_flat (fun _ => rfl) _)) <| sgT [] [0, 1, 4, 5, 6, 7, 161, 162] [(1, 0), (2, 0), (3, 0), (4, 0), (5, 0), (6, 0), (7, 0)] [(161, .agg ((regs.set ins.A.toNat put1.Val).map eI).flatten)] hI))) (fun h =>
 (brkD h hc2 fun e => sg [] [0, 1, 4, 5, 6, 7] [(1, 0), (2, 0), (3, 0), (4, 0), (5, 0), (6, 0), (7, 0)] (hb2 _ e)))
noncomputable def impl_ExecRun_k7 : List Item := posI 2000 13 [false, true, true, false, true] [.code impl_ExecRun_c]
noncomputable def impl_ExecRun_S5 (list : List TBox) (prog : List TIns) (regs : List Int) (Reads : List TRead) (Puts : List TPut) (Puts1 : List TPut) (at_ : Int) (ins : TIns) (Reads4 : List TRead) : St := ⟨(vsl 2 eBox list :: (vsl 4 eIns prog :: (bs 2 (.ptr 1 0 0 :: (.ptr 4 0 0 :: (.ptr 5 0 0 :: (vi at_ :: (.ptr 8 0 0 :: (bs 173 []))))))))), [some [], some [.var 73 [.own 2 0 2 0 Reads.length, .own 3 0 2 0 Puts.length, vi 0, vi 0]], some [erow 193 2 eRead Reads], some [erow 195 2 ePut Puts], some [.arr 207 1 4 (regs.map eI)], some [.var 73 [.own 6 0 2 0 Reads4.length, .own 7 0 2 0 Puts1.length, vi 0, vi 0]], some [erow 193 2 eRead Reads4], some [erow 195 2 ePut Puts1], some [.var 142 [vi ins.Kind, vi ins.A, vi ins.B, vi ins.N]]]⟩
noncomputable def impl_ExecRun_k8 : List Item := posI 2000 16 [false, true, true, false, true, false] [.code impl_ExecRun_c]
noncomputable def impl_ExecRun_S6 (list : List TBox) (prog : List TIns) (regs : List Int) (Reads : List TRead) (Puts : List TPut) (Puts1 : List TPut) (at_ : Int) (ins : TIns) (Reads4 : List TRead) (box : TBox) : St := ⟨(vsl 2 eBox list :: (vsl 4 eIns prog :: (bs 2 (.ptr 1 0 0 :: (.ptr 4 0 0 :: (.ptr 5 0 0 :: (vi at_ :: (bs 174 [])))))))), [some [], some [.var 73 [.own 2 0 2 0 Reads.length, .own 3 0 2 0 Puts.length, vi 0, vi 0]], some [erow 193 2 eRead Reads], some [erow 195 2 ePut Puts], some [.arr 207 1 4 ((regs.set ins.A.toNat box.Val).map eI)], some [.var 73 [.own 6 0 2 0 Reads4.length, .own 7 0 2 0 Puts1.length, vi 0, vi 0]], some [erow 193 2 eRead Reads4], some [erow 195 2 ePut Puts1]]⟩
noncomputable def impl_ExecRun_k9 (regs : List Int) (Reads : List TRead) (Puts : List TPut) (Puts1 : List TPut) (at_ : Int) (ins : TIns) (Reads4 : List TRead) (box : TBox) : Option (Stp TRun ((List Int) × (List TRead) × (List TPut) × (List TRead) × (List TPut) × Int) ((List TRead) × (List TPut) × (List Int) × (List TRead) × List TPut)) :=
  some (Stp.nxt (regs.set ins.A.toNat box.Val, Reads, Puts, Reads4, Puts1, w64 (at_ + 1)))
theorem impl_ExecRun_k9_ok (list : List TBox) (prog : List TIns) (regs : List Int) (Reads : List TRead) (Puts : List TPut) (Puts1 : List TPut) (at_ : Int) (ins : TIns) (Reads4 : List TRead) (box : TBox) (res : V) (outs : List (Option V)) (x1 : Exc TRun ((List TRead) × (List TPut) × (List Int) × (List TRead) × List TPut)) (hb1 : HB cx impl_ExecRun_X res outs x1 impl_ExecRun_k1 (fun s => impl_ExecRun_S1 s.1 s.2.1 s.2.2.1 s.2.2.2.1 s.2.2.2.2)) (hr1 : HR res outs x1 impl_ExecRun_R impl_ExecRun_O) (st1 : Stp TRun ((List Int) × (List TRead) × (List TPut) × (List TRead) × (List TPut) × Int) ((List TRead) × (List TPut) × (List Int) × (List TRead) × List TPut)) (hc1 : Cont x1 (fun s : (List Int) × (List TRead) × (List TPut) × (List TRead) × (List TPut) × Int => Fin cx impl_ExecRun_X res outs impl_ExecRun_k3 (impl_ExecRun_S2 list prog s.1 s.2.1 s.2.2.1 s.2.2.2.1 s.2.2.2.2.1 s.2.2.2.2.2)) st1) (h : impl_ExecRun_k9 regs Reads Puts Puts1 at_ ins Reads4 box = some st1) : Fin cx impl_ExecRun_X res outs impl_ExecRun_k8 (impl_ExecRun_S6 list prog regs Reads Puts Puts1 at_ ins Reads4 box) :=
  P0 <|
 rg <| (nxtD h hc1 fun hI => sg [] [0, 1, 4, 5, 6, 7] [(1, 0), (4, 0), (5, 0), (2, 0), (3, 0), (6, 0), (7, 0)] hI)
noncomputable def impl_ExecRun_k10 : List Item := posI 2000 15 [false, true, true, false, true] [.code impl_ExecRun_c]
noncomputable def impl_ExecRun_S7 (list : List TBox) (prog : List TIns) (regs : List Int) (Reads : List TRead) (Puts : List TPut) (Puts1 : List TPut) (at_ : Int) (ins : TIns) (Reads4 : List TRead) (box : TBox) (v1621 : Int) : St := ⟨(vsl 2 eBox list :: (vsl 4 eIns prog :: (bs 2 (.ptr 1 0 0 :: (.ptr 4 0 0 :: (.ptr 5 0 0 :: (vi at_ :: (bs 153 (.agg ((regs.set ins.A.toNat box.Val).map eI).flatten :: (vi v1621 :: (bs 19 []))))))))))), [some [], some [.var 73 [.own 2 0 2 0 Reads.length, .own 3 0 2 0 Puts.length, vi 0, vi 0]], some [erow 193 2 eRead Reads], some [erow 195 2 ePut Puts], some [.arr 207 1 4 ((regs.set ins.A.toNat box.Val).map eI)], some [.var 73 [.own 6 0 2 0 Reads4.length, .own 7 0 2 0 Puts1.length, vi 0, vi 0]], some [erow 193 2 eRead Reads4], some [erow 195 2 ePut Puts1]]⟩
noncomputable def impl_ExecRun_b2 (regs : List Int) (ins : TIns) (Reads4 : List TRead) (box : TBox) (v1621 : Int) : Option (Stp TRun Int Unit) :=
  (bif decide (v1621 < 4) then
 ((idx (regs.set ins.A.toNat box.Val) v1621).bind fun y4 =>
 (need (v1621 < 4)
 (((impl_in y4 (-1000000) 1000000).bind fun in_1 =>
 (bif (!in_1) then
 ((impl_copied_Read Reads4).bind fun read2 =>
 some (Stp.ret (TRun.mk read2 [] 0 2)))
 else
 some (Stp.nxt (w64 (v1621 + 1))))))))
 else
 some (Stp.brk ()))
theorem impl_ExecRun_b2_ok (list : List TBox) (prog : List TIns) (regs : List Int) (Reads : List TRead) (Puts : List TPut) (Puts1 : List TPut) (at_ : Int) (ins : TIns) (Reads4 : List TRead) (box : TBox) (res : V) (outs : List (Option V)) (x2 : Exc TRun Unit) (hb2 : HB cx impl_ExecRun_X res outs x2 impl_ExecRun_k8 (fun s => impl_ExecRun_S6 list prog regs Reads Puts Puts1 at_ ins Reads4 box)) (hr2 : HR res outs x2 impl_ExecRun_R impl_ExecRun_O) (st2 : Stp TRun Int Unit) (hc2 : Cont x2 (fun s : Int => Fin cx impl_ExecRun_X res outs impl_ExecRun_k10 (impl_ExecRun_S7 list prog regs Reads Puts Puts1 at_ ins Reads4 box s)) st2) (v1621 : Int) (h : impl_ExecRun_b2 regs ins Reads4 box v1621 = some st2) : Fin cx impl_ExecRun_X res outs impl_ExecRun_k10 (impl_ExecRun_S7 list prog regs Reads Puts Puts1 at_ ins Reads4 box v1621) :=
  P0 <|
 rg <| cdD 0 h (fun h =>
 rg <| bindD h fun y4 hy4 h =>
 needD h fun e5 h =>
 ob (idx0 hy4) <| ob e5 <| om (((regs.set ins.A.toNat box.Val).map eI).flatten[v1621.toNat]? = some (vi y4)) (flat_idx (fun _ => rfl) hy4) <| tl (0, { a := .val (vi y4) }) <| rg <| cb impl_in_t impl_in_ok 1 false h fun in_1 h =>
 cdD 2 h (fun h =>
 rg <| cb impl_copied_Read_t impl_copied_Read_ok 2 false h fun read2 h =>
 om (Reads4.length = Reads4.length) rfl <| (retD h hc2 fun e => fn0 Tryz.func118 (hr2 _ e))) (fun h =>
 rg <| (nxtD h hc2 fun hI => om (V.agg (((regs.set ins.A.toNat box.Val).map eI).flatten.map (renC [(1, 0), (2, 0), (3, 0), (4, 0), (5, 0), (6, 0), (7, 0)])) = .agg ((regs.set ins.A.toNat box.Val).map eI).flatten) (congrArg V.agg (ren_flat (fun _ => rfl) _)) <| sgT [] [0, 1, 4, 5, 6, 7, 161, 162] [(1, 0), (2, 0), (3, 0), (4, 0), (5, 0), (6, 0), (7, 0)] [(161, .agg ((regs.set ins.A.toNat box.Val).map eI).flatten)] hI))) (fun h =>
 (brkD h hc2 fun e => sg [] [0, 1, 4, 5, 6, 7] [(1, 0), (2, 0), (3, 0), (4, 0), (5, 0), (6, 0), (7, 0)] (hb2 _ e)))
noncomputable def impl_ExecRun_j1 (list : List TBox) (regs : List Int) (Reads : List TRead) (Puts : List TPut) (Puts1 : List TPut) (at_ : Int) (ins : TIns) (Reads4 : List TRead) : Option (Stp TRun ((List Int) × (List TRead) × (List TPut) × (List TRead) × (List TPut) × Int) ((List TRead) × (List TPut) × (List Int) × (List TRead) × List TPut)) :=
  ((idx list ins.B).bind fun box =>
 ((idx regs ins.A).bind fun y3 =>
 (need (ins.A < 4)
 (((loop (fun s : Int => impl_ExecRun_b2 regs ins Reads4 box s) 0).bind fun x => x.go (fun r => some (Stp.ret r)) fun s => impl_ExecRun_k9 regs Reads Puts Puts1 at_ ins Reads4 box)))))
set_option maxRecDepth 20000 in
theorem impl_ExecRun_j1_ok (list : List TBox) (prog : List TIns) (regs : List Int) (Reads : List TRead) (Puts : List TPut) (Puts1 : List TPut) (at_ : Int) (ins : TIns) (res : V) (outs : List (Option V)) (x1 : Exc TRun ((List TRead) × (List TPut) × (List Int) × (List TRead) × List TPut)) (hb1 : HB cx impl_ExecRun_X res outs x1 impl_ExecRun_k1 (fun s => impl_ExecRun_S1 s.1 s.2.1 s.2.2.1 s.2.2.2.1 s.2.2.2.2)) (hr1 : HR res outs x1 impl_ExecRun_R impl_ExecRun_O) (st1 : Stp TRun ((List Int) × (List TRead) × (List TPut) × (List TRead) × (List TPut) × Int) ((List TRead) × (List TPut) × (List Int) × (List TRead) × List TPut)) (hc1 : Cont x1 (fun s : (List Int) × (List TRead) × (List TPut) × (List TRead) × (List TPut) × Int => Fin cx impl_ExecRun_X res outs impl_ExecRun_k3 (impl_ExecRun_S2 list prog s.1 s.2.1 s.2.2.1 s.2.2.2.1 s.2.2.2.2.1 s.2.2.2.2.2)) st1) (Reads4 : List TRead) (h : impl_ExecRun_j1 list regs Reads Puts Puts1 at_ ins Reads4 = some st1) : Fin cx impl_ExecRun_X res outs impl_ExecRun_k7 (impl_ExecRun_S5 list prog regs Reads Puts Puts1 at_ ins Reads4) :=
  P0 <|
 rg <| ixS eBox 5 h fun box hbox h =>
 bindD h fun y3 hy3 h =>
 needD h fun e4 h =>
 ob (idx0 hy3) <| ob e4 <| om (Ent.arr 207 1 4 ((regs.map eI).set (ins.A.toNat) [vi box.Val]) = Ent.arr 207 1 4 ((regs.set ins.A.toNat box.Val).map eI)) (arr_set rfl) <| ob (map_idx (enc := eI) hy3) <| tl (9, { a := .rowck (eI y3) [], e := some (.arr 207 1 4 ((regs.set ins.A.toNat box.Val).map eI)) }) <| rg <| om (4 * 1 = 4) rfl <| loopJ h fun x hl hr hb => om (V.agg (((regs.set ins.A.toNat box.Val).map eI).flatten.map (renC [(1, 0), (2, 0), (3, 0), (4, 0), (5, 0), (6, 0), (7, 0)])) = .agg ((regs.set ins.A.toNat box.Val).map eI).flatten) (congrArg V.agg (ren_flat (fun _ => rfl) _)) <| sgT [] [0, 1, 4, 5, 6, 7, 161, 162] [(1, 0), (2, 0), (3, 0), (4, 0), (5, 0), (6, 0), (7, 0)] [(161, .agg ((regs.set ins.A.toNat box.Val).map eI).flatten)] (loopD (I := fun s : Int => Fin cx impl_ExecRun_X res outs impl_ExecRun_k10 (impl_ExecRun_S7 list prog regs Reads Puts Puts1 at_ ins Reads4 box s)) hl fun s st h hc => impl_ExecRun_b2_ok list prog regs Reads Puts Puts1 at_ ins Reads4 box _ _ x (fun s e => impl_ExecRun_k9_ok list prog regs Reads Puts Puts1 at_ ins Reads4 box res outs x1 hb1 hr1 st1 hc1 (hb s e)) (fun v e => (hr1 _ (retC (hr v e) hc1))) st hc s h)
noncomputable def impl_ExecRun_k11 : List Item := posI 2000 13 [false, true, false, true, true] [.code impl_ExecRun_c]
noncomputable def impl_ExecRun_S8 (list : List TBox) (prog : List TIns) (Reads : List TRead) (Puts : List TPut) (Reads1 : List TRead) (regs2 : List Int) (Puts4 : List TPut) (at_1 : Int) : St := ⟨(vsl 2 eBox list :: (vsl 4 eIns prog :: (bs 2 (.ptr 1 0 0 :: (.ptr 4 0 0 :: (.ptr 5 0 0 :: (vi at_1 :: (bs 174 [])))))))), [some [], some [.var 73 [.own 2 0 2 0 Reads.length, .own 3 0 2 0 Puts.length, vi 0, vi 0]], some [erow 193 2 eRead Reads], some [erow 195 2 ePut Puts], some [.arr 207 1 4 (regs2.map eI)], some [.var 73 [.own 6 0 2 0 Reads1.length, .own 7 0 2 0 Puts4.length, vi 0, vi 0]], some [erow 193 2 eRead Reads1], some [erow 195 2 ePut Puts4]]⟩
noncomputable def impl_ExecRun_k12 : List Item := posI 2000 15 [false, true, false, true, true, false] [.code impl_ExecRun_c]
noncomputable def impl_ExecRun_S9 (list : List TBox) (prog : List TIns) (Reads : List TRead) (Puts : List TPut) (Reads1 : List TRead) (regs2 : List Int) (Puts4 : List TPut) (at_1 : Int) : St := ⟨(vsl 2 eBox list :: (vsl 4 eIns prog :: (bs 2 (.ptr 1 0 0 :: (.ptr 4 0 0 :: (.ptr 5 0 0 :: (vi at_1 :: (bs 174 [])))))))), [some [], some [.var 73 [.own 2 0 2 0 Reads.length, .own 3 0 2 0 Puts.length, vi 0, vi 0]], some [erow 193 2 eRead Reads], some [erow 195 2 ePut Puts], some [.arr 207 1 4 (regs2.map eI)], some [.var 73 [.own 6 0 2 0 Reads1.length, .own 7 0 2 0 Puts4.length, vi 0, vi 0]], some [erow 193 2 eRead Reads1], some [erow 195 2 ePut Puts4]]⟩
noncomputable def impl_ExecRun_k13 (Reads : List TRead) (Puts : List TPut) (Reads1 : List TRead) (regs2 : List Int) (Puts4 : List TPut) (at_1 : Int) : Option (Stp TRun ((List Int) × (List TRead) × (List TPut) × (List TRead) × (List TPut) × Int) ((List TRead) × (List TPut) × (List Int) × (List TRead) × List TPut)) :=
  some (Stp.nxt (regs2, Reads, Puts, Reads1, Puts4, w64 (at_1 + 1)))
theorem impl_ExecRun_k13_ok (list : List TBox) (prog : List TIns) (Reads : List TRead) (Puts : List TPut) (Reads1 : List TRead) (regs2 : List Int) (Puts4 : List TPut) (at_1 : Int) (res : V) (outs : List (Option V)) (x1 : Exc TRun ((List TRead) × (List TPut) × (List Int) × (List TRead) × List TPut)) (hb1 : HB cx impl_ExecRun_X res outs x1 impl_ExecRun_k1 (fun s => impl_ExecRun_S1 s.1 s.2.1 s.2.2.1 s.2.2.2.1 s.2.2.2.2)) (hr1 : HR res outs x1 impl_ExecRun_R impl_ExecRun_O) (st1 : Stp TRun ((List Int) × (List TRead) × (List TPut) × (List TRead) × (List TPut) × Int) ((List TRead) × (List TPut) × (List Int) × (List TRead) × List TPut)) (hc1 : Cont x1 (fun s : (List Int) × (List TRead) × (List TPut) × (List TRead) × (List TPut) × Int => Fin cx impl_ExecRun_X res outs impl_ExecRun_k3 (impl_ExecRun_S2 list prog s.1 s.2.1 s.2.2.1 s.2.2.2.1 s.2.2.2.2.1 s.2.2.2.2.2)) st1) (h : impl_ExecRun_k13 Reads Puts Reads1 regs2 Puts4 at_1 = some st1) : Fin cx impl_ExecRun_X res outs impl_ExecRun_k12 (impl_ExecRun_S9 list prog Reads Puts Reads1 regs2 Puts4 at_1) :=
  P0 <|
 rg <| (nxtD h hc1 fun hI => sg [] [0, 1, 4, 5, 6, 7] [(1, 0), (4, 0), (5, 0), (2, 0), (3, 0), (6, 0), (7, 0)] hI)
noncomputable def impl_ExecRun_k14 : List Item := posI 2000 14 [false, true, false, true, true] [.code impl_ExecRun_c]
noncomputable def impl_ExecRun_S10 (list : List TBox) (prog : List TIns) (Reads : List TRead) (Puts : List TPut) (Reads1 : List TRead) (regs2 : List Int) (Puts4 : List TPut) (at_1 : Int) (v1622 : Int) : St := ⟨(vsl 2 eBox list :: (vsl 4 eIns prog :: (bs 2 (.ptr 1 0 0 :: (.ptr 4 0 0 :: (.ptr 5 0 0 :: (vi at_1 :: (bs 153 (.agg (regs2.map eI).flatten :: (vi v1622 :: (bs 19 []))))))))))), [some [], some [.var 73 [.own 2 0 2 0 Reads.length, .own 3 0 2 0 Puts.length, vi 0, vi 0]], some [erow 193 2 eRead Reads], some [erow 195 2 ePut Puts], some [.arr 207 1 4 (regs2.map eI)], some [.var 73 [.own 6 0 2 0 Reads1.length, .own 7 0 2 0 Puts4.length, vi 0, vi 0]], some [erow 193 2 eRead Reads1], some [erow 195 2 ePut Puts4]]⟩
noncomputable def impl_ExecRun_b3 (Reads1 : List TRead) (regs2 : List Int) (v1622 : Int) : Option (Stp TRun Int Unit) :=
  (bif decide (v1622 < 4) then
 ((idx regs2 v1622).bind fun y5 =>
 (need (v1622 < 4)
 (((impl_in y5 (-1000000) 1000000).bind fun in_2 =>
 (bif (!in_2) then
 ((impl_copied_Read Reads1).bind fun read3 =>
 some (Stp.ret (TRun.mk read3 [] 0 2)))
 else
 some (Stp.nxt (w64 (v1622 + 1))))))))
 else
 some (Stp.brk ()))
theorem impl_ExecRun_b3_ok (list : List TBox) (prog : List TIns) (Reads : List TRead) (Puts : List TPut) (Reads1 : List TRead) (regs2 : List Int) (Puts4 : List TPut) (at_1 : Int) (res : V) (outs : List (Option V)) (x2 : Exc TRun Unit) (hb2 : HB cx impl_ExecRun_X res outs x2 impl_ExecRun_k12 (fun s => impl_ExecRun_S9 list prog Reads Puts Reads1 regs2 Puts4 at_1)) (hr2 : HR res outs x2 impl_ExecRun_R impl_ExecRun_O) (st2 : Stp TRun Int Unit) (hc2 : Cont x2 (fun s : Int => Fin cx impl_ExecRun_X res outs impl_ExecRun_k14 (impl_ExecRun_S10 list prog Reads Puts Reads1 regs2 Puts4 at_1 s)) st2) (v1622 : Int) (h : impl_ExecRun_b3 Reads1 regs2 v1622 = some st2) : Fin cx impl_ExecRun_X res outs impl_ExecRun_k14 (impl_ExecRun_S10 list prog Reads Puts Reads1 regs2 Puts4 at_1 v1622) :=
  P0 <|
 rg <| cdD 0 h (fun h =>
 rg <| bindD h fun y5 hy5 h =>
 needD h fun e7 h =>
 ob (idx0 hy5) <| ob e7 <| om ((regs2.map eI).flatten[v1622.toNat]? = some (vi y5)) (flat_idx (fun _ => rfl) hy5) <| tl (0, { a := .val (vi y5) }) <| rg <| cb impl_in_t impl_in_ok 1 false h fun in_2 h =>
 cdD 2 h (fun h =>
 rg <| cb impl_copied_Read_t impl_copied_Read_ok 2 false h fun read3 h =>
 om (Reads1.length = Reads1.length) rfl <| (retD h hc2 fun e => fn0 Tryz.func118 (hr2 _ e))) (fun h =>
 rg <| (nxtD h hc2 fun hI => om (V.agg ((regs2.map eI).flatten.map (renC [(1, 0), (2, 0), (3, 0), (4, 0), (5, 0), (6, 0), (7, 0)])) = .agg (regs2.map eI).flatten) (congrArg V.agg (ren_flat (fun _ => rfl) _)) <| sgT [] [0, 1, 4, 5, 6, 7, 161, 162] [(1, 0), (2, 0), (3, 0), (4, 0), (5, 0), (6, 0), (7, 0)] [(161, .agg (regs2.map eI).flatten)] hI))) (fun h =>
 (brkD h hc2 fun e => sg [] [0, 1, 4, 5, 6, 7] [(1, 0), (2, 0), (3, 0), (4, 0), (5, 0), (6, 0), (7, 0)] (hb2 _ e)))
noncomputable def impl_ExecRun_j2 (Reads : List TRead) (Puts : List TPut) (Reads1 : List TRead) (regs2 : List Int) (Puts4 : List TPut) (at_1 : Int) : Option (Stp TRun ((List Int) × (List TRead) × (List TPut) × (List TRead) × (List TPut) × Int) ((List TRead) × (List TPut) × (List Int) × (List TRead) × List TPut)) :=
  ((loop (fun s : Int => impl_ExecRun_b3 Reads1 regs2 s) 0).bind fun x => x.go (fun r => some (Stp.ret r)) fun s => impl_ExecRun_k13 Reads Puts Reads1 regs2 Puts4 at_1)
theorem impl_ExecRun_j2_ok (list : List TBox) (prog : List TIns) (Reads : List TRead) (Puts : List TPut) (Reads1 : List TRead) (res : V) (outs : List (Option V)) (x1 : Exc TRun ((List TRead) × (List TPut) × (List Int) × (List TRead) × List TPut)) (hb1 : HB cx impl_ExecRun_X res outs x1 impl_ExecRun_k1 (fun s => impl_ExecRun_S1 s.1 s.2.1 s.2.2.1 s.2.2.2.1 s.2.2.2.2)) (hr1 : HR res outs x1 impl_ExecRun_R impl_ExecRun_O) (st1 : Stp TRun ((List Int) × (List TRead) × (List TPut) × (List TRead) × (List TPut) × Int) ((List TRead) × (List TPut) × (List Int) × (List TRead) × List TPut)) (hc1 : Cont x1 (fun s : (List Int) × (List TRead) × (List TPut) × (List TRead) × (List TPut) × Int => Fin cx impl_ExecRun_X res outs impl_ExecRun_k3 (impl_ExecRun_S2 list prog s.1 s.2.1 s.2.2.1 s.2.2.2.1 s.2.2.2.2.1 s.2.2.2.2.2)) st1) (regs2 : List Int) (Puts4 : List TPut) (at_1 : Int) (h : impl_ExecRun_j2 Reads Puts Reads1 regs2 Puts4 at_1 = some st1) : Fin cx impl_ExecRun_X res outs impl_ExecRun_k11 (impl_ExecRun_S8 list prog Reads Puts Reads1 regs2 Puts4 at_1) :=
  P0 <|
 rg <| om (4 * 1 = 4) rfl <| loopJ h fun x hl hr hb => om (V.agg ((regs2.map eI).flatten.map (renC [(1, 0), (2, 0), (3, 0), (4, 0), (5, 0), (6, 0), (7, 0)])) = .agg (regs2.map eI).flatten) (congrArg V.agg (ren_flat (fun _ => rfl) _)) <| sgT [] [0, 1, 4, 5, 6, 7, 161, 162] [(1, 0), (2, 0), (3, 0), (4, 0), (5, 0), (6, 0), (7, 0)] [(161, .agg (regs2.map eI).flatten)] (loopD (I := fun s : Int => Fin cx impl_ExecRun_X res outs impl_ExecRun_k14 (impl_ExecRun_S10 list prog Reads Puts Reads1 regs2 Puts4 at_1 s)) hl fun s st h hc => impl_ExecRun_b3_ok list prog Reads Puts Reads1 regs2 Puts4 at_1 _ _ x (fun s e => impl_ExecRun_k13_ok list prog Reads Puts Reads1 regs2 Puts4 at_1 res outs x1 hb1 hr1 st1 hc1 (hb s e)) (fun v e => (hr1 _ (retC (hr v e) hc1))) st hc s h)
noncomputable def impl_ExecRun_b4 (list : List TBox) (prog : List TIns) (regs : List Int) (Reads : List TRead) (Puts : List TPut) (Reads1 : List TRead) (Puts1 : List TPut) (at_ : Int) : Option (Stp TRun ((List Int) × (List TRead) × (List TPut) × (List TRead) × (List TPut) × Int) ((List TRead) × (List TPut) × (List Int) × (List TRead) × List TPut)) :=
  (bif decide (at_ < (prog.length : Int)) then
 ((idx prog at_).bind fun ins =>
 (bif (ins.Kind == 1) then
 ((impl_putAt (TRun.mk Reads1 Puts1 0 0) ins.B).bind fun putAt =>
 (bif decide (putAt ≥ 0) then
 ((idx Puts1 putAt).bind fun put1 =>
 ((idx regs ins.A).bind fun y1 =>
 (need (ins.A < 4)
 (((loop (fun s : Int => impl_ExecRun_b1 regs Reads1 ins put1 s) 0).bind fun x => x.go (fun r => some (Stp.ret r)) fun s => impl_ExecRun_k5 regs Reads Puts Reads1 Puts1 at_ ins put1)))))
 else
 ((((impl_readAt (TRun.mk Reads1 Puts1 0 0) ins.B).bind fun readAt =>
 (bif decide (readAt < 0) then
 ((idx list ins.B).bind fun box1 =>
 (need ((Reads1.length + 1) * 16 ≤ 140737488355328)
 (some (Exc.brk (Reads1 ++ [(TRead.mk ins.B box1.Ver)])))))
 else
 some (Exc.brk Reads1))) : Option (Exc (Stp TRun ((List Int) × (List TRead) × (List TPut) × (List TRead) × (List TPut) × Int) ((List TRead) × (List TPut) × (List Int) × (List TRead) × List TPut)) (List TRead))).bind fun x => x.go some fun j => impl_ExecRun_j1 list regs Reads Puts Puts1 at_ ins j)))
 else
 (((bif (ins.Kind == 2) then
 ((impl_putAt (TRun.mk Reads1 Puts1 0 0) ins.A).bind fun putAt1 =>
 (bif decide (putAt1 ≥ 0) then
 ((idx regs ins.B).bind fun y6 =>
 (need (ins.B < 4)
 (((idx Puts1 putAt1).bind fun put2 =>
 some (Exc.brk (regs, Puts1.set putAt1.toNat (TPut.mk put2.Box y6), at_))))))
 else
 ((idx regs ins.B).bind fun y7 =>
 (need (ins.B < 4)
 ((need ((Puts1.length + 1) * 16 ≤ 140737488355328)
 (some (Exc.brk (regs, Puts1 ++ [(TPut.mk ins.A y7)], at_)))))))))
 else
 (bif (ins.Kind == 3) then
 ((idx regs ins.A).bind fun y8 =>
 (need (ins.A < 4)
 (some (Exc.brk (regs.set ins.A.toNat ins.N, Puts1, at_)))))
 else
 (bif (ins.Kind == 4) then
 ((idx regs ins.A).bind fun y9 =>
 (need (ins.A < 4)
 (((idx regs ins.B).bind fun y10 =>
 (need (ins.B < 4)
 ((need (ins.A < 4)
 (some (Exc.brk (regs.set ins.A.toNat (w64 (y9 + y10)), Puts1, at_))))))))))
 else
 (bif (ins.Kind == 5) then
 ((idx regs ins.A).bind fun y11 =>
 (need (ins.A < 4)
 (((idx regs ins.B).bind fun y12 =>
 (need (ins.B < 4)
 ((need (ins.A < 4)
 (some (Exc.brk (regs.set ins.A.toNat (w64 (y11 - y12)), Puts1, at_))))))))))
 else
 (bif (ins.Kind == 6) then
 ((idx regs ins.A).bind fun y13 =>
 (need (ins.A < 4)
 (((idx regs ins.B).bind fun y14 =>
 (need (ins.B < 4)
 ((bif decide (y13 < y14) then
 some (Exc.brk (regs, Puts1, w64 (at_ + ins.N)))
 else
 some (Exc.brk (regs, Puts1, at_)))))))))
 else
 (bif (ins.Kind == 7) then
 ((impl_copied_Read Reads1).bind fun read4 =>
 some (Exc.ret (Stp.ret (TRun.mk read4 [] 0 1))))
 else
 some (Exc.brk (regs, Puts1, at_)))))))) : Option (Exc (Stp TRun ((List Int) × (List TRead) × (List TPut) × (List TRead) × (List TPut) × Int) ((List TRead) × (List TPut) × (List Int) × (List TRead) × List TPut)) ((List Int) × (List TPut) × Int))).bind fun x => x.go some fun j => impl_ExecRun_j2 Reads Puts Reads1 j.1 j.2.1 j.2.2)))
 else
 some (Stp.brk (Reads, Puts, regs, Reads1, Puts1)))
set_option maxRecDepth 20000 in
theorem impl_ExecRun_b4_ok (list : List TBox) (prog : List TIns) (res : V) (outs : List (Option V)) (x1 : Exc TRun ((List TRead) × (List TPut) × (List Int) × (List TRead) × List TPut)) (hb1 : HB cx impl_ExecRun_X res outs x1 impl_ExecRun_k1 (fun s => impl_ExecRun_S1 s.1 s.2.1 s.2.2.1 s.2.2.2.1 s.2.2.2.2)) (hr1 : HR res outs x1 impl_ExecRun_R impl_ExecRun_O) (st1 : Stp TRun ((List Int) × (List TRead) × (List TPut) × (List TRead) × (List TPut) × Int) ((List TRead) × (List TPut) × (List Int) × (List TRead) × List TPut)) (hc1 : Cont x1 (fun s : (List Int) × (List TRead) × (List TPut) × (List TRead) × (List TPut) × Int => Fin cx impl_ExecRun_X res outs impl_ExecRun_k3 (impl_ExecRun_S2 list prog s.1 s.2.1 s.2.2.1 s.2.2.2.1 s.2.2.2.2.1 s.2.2.2.2.2)) st1) (regs : List Int) (Reads : List TRead) (Puts : List TPut) (Reads1 : List TRead) (Puts1 : List TPut) (at_ : Int) (h : impl_ExecRun_b4 list prog regs Reads Puts Reads1 Puts1 at_ = some st1) : Fin cx impl_ExecRun_X res outs impl_ExecRun_k3 (impl_ExecRun_S2 list prog regs Reads Puts Reads1 Puts1 at_) :=
  P0 <|
 rg <| cdD 3 h (fun h =>
 rg <| ixS eIns 2 h fun ins hins h =>
 rg2 <| cdD 1 h (fun h =>
 rg <| cb impl_putAt_t impl_putAt_ok 3 true h fun putAt h =>
 om (ScalR (impl_putAt_R putAt) ∧ ScalO (impl_putAt_O putAt)) ⟨rfl, scalO_none 2⟩ <| om (Reads1.length = Reads1.length) rfl <| om (Puts1.length = Puts1.length) rfl <| rg <| cdD 1 h (fun h =>
 rg <| bindD h fun put1 hput1 h =>
 ixB hput1 <| ldR ePut 7 hput1 <| bindD h fun y1 hy1 h =>
 needD h fun e2 h =>
 ob (idx0 hy1) <| ob e2 <| om (Ent.arr 207 1 4 ((regs.map eI).set (ins.A.toNat) [vi put1.Val]) = Ent.arr 207 1 4 ((regs.set ins.A.toNat put1.Val).map eI)) (arr_set rfl) <| ob (map_idx (enc := eI) hy1) <| tl (9, { a := .rowck (eI y1) [], e := some (.arr 207 1 4 ((regs.set ins.A.toNat put1.Val).map eI)) }) <| rg <| om (4 * 1 = 4) rfl <| loopJ h fun x hl hr hb => om (V.agg (((regs.set ins.A.toNat put1.Val).map eI).flatten.map (renC [(1, 0), (4, 0), (5, 0), (2, 0), (3, 0), (6, 0), (7, 0)])) = .agg ((regs.set ins.A.toNat put1.Val).map eI).flatten) (congrArg V.agg (ren_flat (fun _ => rfl) _)) <| sgT [] [0, 1, 4, 5, 6, 7, 161, 162] [(1, 0), (4, 0), (5, 0), (2, 0), (3, 0), (6, 0), (7, 0)] [(161, .agg ((regs.set ins.A.toNat put1.Val).map eI).flatten)] (loopD (I := fun s : Int => Fin cx impl_ExecRun_X res outs impl_ExecRun_k6 (impl_ExecRun_S4 list prog regs Reads Puts Reads1 Puts1 at_ ins put1 s)) hl fun s st h hc => impl_ExecRun_b1_ok list prog regs Reads Puts Reads1 Puts1 at_ ins put1 _ _ x (fun s e => impl_ExecRun_k5_ok list prog regs Reads Puts Reads1 Puts1 at_ ins put1 res outs x1 hb1 hr1 st1 hc1 (hb s e)) (fun v e => (hr1 _ (retC (hr v e) hc1))) st hc s h)) (fun h =>
 joinD (I := fun j : List TRead => Fin cx impl_ExecRun_X res outs impl_ExecRun_k7 (impl_ExecRun_S5 list prog regs Reads Puts Puts1 at_ ins j)) h (fun j h => impl_ExecRun_j1_ok list prog regs Reads Puts Puts1 at_ ins res outs x1 hb1 hr1 st1 hc1 j h) (fun x2 h hc2 =>
  rg <| cb impl_readAt_t impl_readAt_ok 3 true h fun readAt h =>
 om (ScalR (impl_readAt_R readAt) ∧ ScalO (impl_readAt_O readAt)) ⟨rfl, scalO_none 2⟩ <| om (Reads1.length = Reads1.length) rfl <| om (Puts1.length = Puts1.length) rfl <| cdD 4 h (fun h =>
 rg <| ixS eBox 7 h fun box1 hbox1 h =>
 tl (11, { a := .ck [] }) <| needD h fun e6 h =>
 apS 12 46 193 2 16 eRead Reads1 (TRead.mk ins.B box1.Ver) e6 <| om (1 = [(TRead.mk ins.B box1.Ver)].length) (by rfl) <| (jbrkD h hc2 fun hI => sg [] [0, 1, 4, 5, 6, 7, 8] [(1, 0), (4, 0), (5, 0), (2, 0), (3, 0), (46, 0), (7, 0), (16, 0)] hI)) (fun h =>
 (jbrkD h hc2 fun hI => sg [] [0, 1, 4, 5, 6, 7, 8] [(1, 0), (4, 0), (5, 0), (2, 0), (3, 0), (6, 0), (7, 0), (16, 0)] hI))))) (fun h =>
 joinD (I := fun j : (List Int) × (List TPut) × Int => Fin cx impl_ExecRun_X res outs impl_ExecRun_k11 (impl_ExecRun_S8 list prog Reads Puts Reads1 j.1 j.2.1 j.2.2)) h (fun j h => impl_ExecRun_j2_ok list prog Reads Puts Reads1 res outs x1 hb1 hr1 st1 hc1 j.1 j.2.1 j.2.2 h) (fun x2 h hc2 =>
  rg <| cdD 1 h (fun h =>
 rg <| cb impl_putAt_t impl_putAt_ok 3 true h fun putAt1 h =>
 om (ScalR (impl_putAt_R putAt1) ∧ ScalO (impl_putAt_O putAt1)) ⟨rfl, scalO_none 2⟩ <| om (Reads1.length = Reads1.length) rfl <| om (Puts1.length = Puts1.length) rfl <| rg <| cdD 1 h (fun h =>
 rg <| bindD h fun y6 hy6 h =>
 needD h fun e8 h =>
 ob (idx0 hy6) <| ob e8 <| ob (map_idx (enc := eI) hy6) <| tl (tr 6 (eI y6)) <| bindD h fun put2 hput2 h =>
 ixB hput2 <| stR 195 2 ePut 9 [] (TPut.mk put2.Box y6) hput2 <| (jbrkD h hc2 fun hI => om ((.own 7 0 2 0 Puts1.length : V) = .own 7 0 2 0 (Puts1.set putAt1.toNat (TPut.mk put2.Box y6)).length) (by simp) <| sg [.is (.cell 3 0 1) (.own 7 0 2 0 (Puts1.set putAt1.toNat (TPut.mk put2.Box y6)).length)] [0, 1, 4, 5, 6, 7] [(1, 0), (4, 0), (5, 0), (2, 0), (3, 0), (6, 0), (7, 0)] hI)) (fun h =>
 rg <| bindD h fun y7 hy7 h =>
 needD h fun e9 h =>
 ob (idx0 hy7) <| ob e9 <| ob (map_idx (enc := eI) hy7) <| tl (tr 7 (eI y7)) <| tl (9, { a := .ck [] }) <| needD h fun e10 h =>
 apS 10 41 195 2 16 ePut Puts1 (TPut.mk ins.A y7) e10 <| om (1 = [(TPut.mk ins.A y7)].length) (by rfl) <| (jbrkD h hc2 fun hI => sg [] [0, 1, 4, 5, 6, 7] [(1, 0), (4, 0), (5, 0), (2, 0), (3, 0), (6, 0), (41, 0)] hI))) (fun h =>
 rg <| cdD 1 h (fun h =>
 rg <| bindD h fun y8 hy8 h =>
 needD h fun e11 h =>
 ob (idx0 hy8) <| ob e11 <| om (Ent.arr 207 1 4 ((regs.map eI).set (ins.A.toNat) [vi ins.N]) = Ent.arr 207 1 4 ((regs.set ins.A.toNat ins.N).map eI)) (arr_set rfl) <| ob (map_idx (enc := eI) hy8) <| tl (5, { a := .rowck (eI y8) [], e := some (.arr 207 1 4 ((regs.set ins.A.toNat ins.N).map eI)) }) <| (jbrkD h hc2 fun hI => sg [] [0, 1, 4, 5, 6, 7] [(1, 0), (4, 0), (5, 0), (2, 0), (3, 0), (6, 0), (7, 0)] hI)) (fun h =>
 rg <| cdD 1 h (fun h =>
 rg <| bindD h fun y9 hy9 h =>
 needD h fun e12 h =>
 ob (idx0 hy9) <| ob e12 <| ob (map_idx (enc := eI) hy9) <| tl (tr 3 (eI y9)) <| bindD h fun y10 hy10 h =>
 needD h fun e13 h =>
 ob (idx0 hy10) <| ob e13 <| ob (map_idx (enc := eI) hy10) <| tl (tr 7 (eI y10)) <| needD h fun e14 h =>
 ob (idx0 hy9) <| ob e14 <| om (Ent.arr 207 1 4 ((regs.map eI).set (ins.A.toNat) [vi (w64 (y9 + y10))]) = Ent.arr 207 1 4 ((regs.set ins.A.toNat (w64 (y9 + y10))).map eI)) (arr_set rfl) <| ob (map_idx (enc := eI) hy9) <| tl (10, { a := .rowck (eI y9) [], e := some (.arr 207 1 4 ((regs.set ins.A.toNat (w64 (y9 + y10))).map eI)) }) <| (jbrkD h hc2 fun hI => sg [] [0, 1, 4, 5, 6, 7] [(1, 0), (4, 0), (5, 0), (2, 0), (3, 0), (6, 0), (7, 0)] hI)) (fun h =>
 rg <| cdD 1 h (fun h =>
 rg <| bindD h fun y11 hy11 h =>
 needD h fun e15 h =>
 ob (idx0 hy11) <| ob e15 <| ob (map_idx (enc := eI) hy11) <| tl (tr 3 (eI y11)) <| bindD h fun y12 hy12 h =>
 needD h fun e16 h =>
 ob (idx0 hy12) <| ob e16 <| ob (map_idx (enc := eI) hy12) <| tl (tr 7 (eI y12)) <| needD h fun e17 h =>
 ob (idx0 hy11) <| ob e17 <| om (Ent.arr 207 1 4 ((regs.map eI).set (ins.A.toNat) [vi (w64 (y11 - y12))]) = Ent.arr 207 1 4 ((regs.set ins.A.toNat (w64 (y11 - y12))).map eI)) (arr_set rfl) <| ob (map_idx (enc := eI) hy11) <| tl (10, { a := .rowck (eI y11) [], e := some (.arr 207 1 4 ((regs.set ins.A.toNat (w64 (y11 - y12))).map eI)) }) <| (jbrkD h hc2 fun hI => sg [] [0, 1, 4, 5, 6, 7] [(1, 0), (4, 0), (5, 0), (2, 0), (3, 0), (6, 0), (7, 0)] hI)) (fun h =>
 rg <| cdD 1 h (fun h =>
 rg <| bindD h fun y13 hy13 h =>
 needD h fun e18 h =>
 ob (idx0 hy13) <| ob e18 <| ob (map_idx (enc := eI) hy13) <| tl (tr 3 (eI y13)) <| bindD h fun y14 hy14 h =>
 needD h fun e19 h =>
 ob (idx0 hy14) <| ob e19 <| ob (map_idx (enc := eI) hy14) <| tl (tr 7 (eI y14)) <| cdD 8 h (fun h =>
 rg <| (jbrkD h hc2 fun hI => sg [] [0, 1, 4, 5, 6, 7] [(1, 0), (4, 0), (5, 0), (2, 0), (3, 0), (6, 0), (7, 0)] hI)) (fun h =>
 (jbrkD h hc2 fun hI => sg [] [0, 1, 4, 5, 6, 7] [(1, 0), (4, 0), (5, 0), (2, 0), (3, 0), (6, 0), (7, 0)] hI))) (fun h =>
 rg <| cdD 1 h (fun h =>
 rg <| cb impl_copied_Read_t impl_copied_Read_ok 2 false h fun read4 h =>
 om (Reads1.length = Reads1.length) rfl <| (jretD h hc2 fun h => (retD h hc1 fun e => fn0 Tryz.func118 (hr1 _ e)))) (fun h =>
 (jbrkD h hc2 fun hI => sg [] [0, 1, 4, 5, 6, 7] [(1, 0), (4, 0), (5, 0), (2, 0), (3, 0), (6, 0), (7, 0)] hI)))))))))) (fun h =>
 (brkD h hc1 fun e => sg [] [4, 5, 6] [(1, 0), (4, 0), (5, 0), (2, 0), (3, 0), (6, 0), (7, 0)] (hb1 _ e)))
noncomputable def impl_ExecRun (list : List TBox) (prog : List TIns) : Option TRun :=
  ((impl_BoxOk list).bind fun boxOk =>
 (bif (!boxOk) then
 some (TRun.mk [] [] 0 3)
 else
 ((impl_ProgOk prog).bind fun progOk =>
 (bif (!progOk) then
 some (TRun.mk [] [] 0 3)
 else
 ((loop (fun s : (List Int) × (List TRead) × (List TPut) × (List TRead) × (List TPut) × Int => impl_ExecRun_b4 list prog s.1 s.2.1 s.2.2.1 s.2.2.2.1 s.2.2.2.2.1 s.2.2.2.2.2) (List.replicate 4 (0 : Int), [], [], [], [], 0)).bind fun x => x.go (fun r => some r) fun s => impl_ExecRun_k2 s.1 s.2.1 s.2.2.1 s.2.2.2.1 s.2.2.2.2)))))
theorem impl_ExecRun_ok {list : List TBox} {prog : List TIns} (r : TRun) (h : impl_ExecRun list prog = some r) : ACalls cx.P 118 [vsl 2 eBox list, vsl 4 eIns prog] (impl_ExecRun_R r) (impl_ExecRun_O r) :=
  ACalls.of (cx := cx) (X := impl_ExecRun_X) (c := impl_ExecRun_c) Tryz.func118 (by kernel_rfl) (by kernel_rfl) (by kernel_rfl) (P0 <|
 rg2 <| cb impl_BoxOk_t impl_BoxOk_ok 1 false h fun boxOk h =>
 cdD 3 h (fun h =>
 rg <| fe Tryz.func118 h) (fun h =>
 cb impl_ProgOk_t impl_ProgOk_ok 5 false h fun progOk h =>
 cdD 7 h (fun h =>
 rg <| fe Tryz.func118 h) (fun h =>
 rg <| om ((List.replicate 4 ([vi 0] : List V)).flatten = [vi 0, vi 0, vi 0, vi 0] ∧ ([vi 0] : List V).length = 1) ⟨rfl, rfl⟩ <| rg2 <| loopJ h fun x hl hr hb => sg [.own (.cell 1 0 0) 193 2, .own (.cell 1 0 1) 195 2, .own (.cell 12 0 0) 193 2, .own (.cell 12 0 1) 195 2] [0, 1, 4, 5, 6, 7] [(1, 0), (10, 0), (12, 0), (15, 0), (16, 0), (17, 0), (18, 0)] (loopD (I := fun s : (List Int) × (List TRead) × (List TPut) × (List TRead) × (List TPut) × Int => Fin cx impl_ExecRun_X (impl_ExecRun_R r) (impl_ExecRun_O r) impl_ExecRun_k3 (impl_ExecRun_S2 list prog s.1 s.2.1 s.2.2.1 s.2.2.2.1 s.2.2.2.2.1 s.2.2.2.2.2)) hl fun s st h hc => impl_ExecRun_b4_ok list prog _ _ x (fun s e => impl_ExecRun_k2_ok r s.1 s.2.1 s.2.2.1 s.2.2.2.1 s.2.2.2.2 (hb s e)) (fun v e => ⟨congrArg impl_ExecRun_R (Option.some.inj (hr v e)).symm, congrArg impl_ExecRun_O (Option.some.inj (hr v e)).symm⟩) st hc s.1 s.2.1 s.2.2.1 s.2.2.2.1 s.2.2.2.2.1 s.2.2.2.2.2 h))))

/-! ### impl_SerialOne -/
noncomputable def impl_SerialOne_c : Code := bodyOf Tryz.f72
noncomputable def impl_SerialOne_X : Sig := { f := 72, fn := Tryz.f72, rms := [.val [some 2] [], .val [] [], .val [] []], oms := [none, none] }
noncomputable def impl_SerialOne_R (r : (List TBox) × Int × Int) : V := .tup [vsl 2 eBox r.1, vi r.2.1, vi r.2.2]
noncomputable def impl_SerialOne_O (r : (List TBox) × Int × Int) : List (Option V) := [none, none]
noncomputable def impl_SerialOne_t (i : Nat) (fr : Bool) (r : (List TBox) × Int × Int) : Nat × Tell := (i, { a := .call [.val [some 2] [], .val [some 4] []] fr (impl_SerialOne_R r) (impl_SerialOne_O r) })
noncomputable def impl_SerialOne (list : List TBox) (prog : List TIns) : Option ((List TBox) × Int × Int) :=
  ((impl_ExecRun list prog).bind fun execRun =>
 (bif (execRun.Code == 3) then
 some ([], 0, 3)
 else
 ((impl_ExecDo list execRun).bind fun execDo =>
 some (execDo, execRun.Val, execRun.Code))))
theorem impl_SerialOne_ok {list : List TBox} {prog : List TIns} (r : (List TBox) × Int × Int) (h : impl_SerialOne list prog = some r) : ACalls cx.P 72 [vsl 2 eBox list, vsl 4 eIns prog] (impl_SerialOne_R r) (impl_SerialOne_O r) :=
  ACalls.of (cx := cx) (X := impl_SerialOne_X) (c := impl_SerialOne_c) Tryz.func72 (by kernel_rfl) (by kernel_rfl) (by kernel_rfl) (P0 <|
 rg2 <| cb impl_ExecRun_t impl_ExecRun_ok 2 false h fun execRun h =>
 rg <| cdD 2 h (fun h =>
 rg <| fe Tryz.func72 h) (fun h =>
 rg <| cb impl_ExecDo_t impl_ExecDo_ok 2 false h fun execDo h =>
 fe Tryz.func72 h))

/-! ### impl_copied_int -/
noncomputable def impl_copied_int_c : Code := bodyOf Tryz.f73
noncomputable def impl_copied_int_X : Sig := { f := 73, fn := Tryz.f73, rms := [.val [some 1] []], oms := [none] }
noncomputable def impl_copied_int_R (r : List Int) : V := vsl 1 eI r
noncomputable def impl_copied_int_O (r : List Int) : List (Option V) := [none]
noncomputable def impl_copied_int_t (i : Nat) (fr : Bool) (r : List Int) : Nat × Tell := (i, { a := .call [.val [some 1] []] fr (impl_copied_int_R r) (impl_copied_int_O r) })
noncomputable def impl_copied_int (list : List Int) : Option (List Int) :=
  (bif ((list.length : Int) == 0) then
 some []
 else
 (need (0 ≤ (list.length : Int) ∧ (list.length : Int) * 8 ≤ 140737488355328)
 ((need (list.length = (List.replicate (list.length : Int).toNat (0 : Int)).length)
 (some list)))))
theorem impl_copied_int_ok {list : List Int} (r : List Int) (h : impl_copied_int list = some r) : ACalls cx.P 73 [vsl 1 eI list] (impl_copied_int_R r) (impl_copied_int_O r) :=
  ACalls.of (cx := cx) (X := impl_copied_int_X) (c := impl_copied_int_c) Tryz.func73 (by kernel_rfl) (by kernel_rfl) (by kernel_rfl) (P0 <|
 rg2 <| cdD 2 h (fun h =>
 rg <| fe Tryz.func73 h) (fun h =>
 rg <| needD h fun e1 h =>
 mkS 2 7 3 1 8 eI (0 : Int) ti3 (.none) e1 (by decide) (by rfl) <| rg <| needD h fun e2 h =>
 om (Ent.row 3 1 (List.replicate (list.length : Int).toNat (0 : Int)).length (list.map eI) = erow 3 1 eI list) (row_copy e2) <| om ((List.replicate (list.length : Int).toNat (0 : Int)).length = (List.replicate (list.length : Int).toNat (0 : Int)).length) rfl <| ob e2 <| tl (2, { e := some (erow 3 1 eI list) }) <| rg <| om ((List.replicate (list.length : Int).toNat (0 : Int)).length = list.length) (by simp) <| fe Tryz.func73 h))

/-! ### impl_SerialAll -/
noncomputable def impl_SerialAll_c : Code := bodyOf Tryz.f30
noncomputable def impl_SerialAll_X : Sig := { f := 30, fn := Tryz.f30, rms := [.val [some 2] [], .val [some 1] []], oms := [none, none] }
noncomputable def impl_SerialAll_R (r : (List TBox) × List Int) : V := .tup [vsl 2 eBox r.1, vsl 1 eI r.2]
noncomputable def impl_SerialAll_O (r : (List TBox) × List Int) : List (Option V) := [none, none]
noncomputable def impl_SerialAll_t (i : Nat) (fr : Bool) (r : (List TBox) × List Int) : Nat × Tell := (i, { a := .call [.val [some 2] [], .val [some 1] []] fr (impl_SerialAll_R r) (impl_SerialAll_O r) })
noncomputable def impl_SerialAll_k1 : List Item := posI 2000 6 [false, false] [.code impl_SerialAll_c]
noncomputable def impl_SerialAll_S1 (vals1 : List Int) (now1 : List TBox) : St := ⟨(bs 6 (vsl 2 eBox now1 :: (.own 1 0 1 0 vals1.length :: (bs 39 [])))), [some [], some [erow 3 1 eI vals1]]⟩
noncomputable def impl_SerialAll_k2 (vals1 : List Int) (now1 : List TBox) : Option ((List TBox) × List Int) :=
  ((impl_copied_int vals1).bind fun int =>
 some (now1, int))
theorem impl_SerialAll_k2_ok (r : (List TBox) × List Int) (vals1 : List Int) (now1 : List TBox) (h : impl_SerialAll_k2 vals1 now1 = some r) : Fin cx impl_SerialAll_X (impl_SerialAll_R r) (impl_SerialAll_O r) impl_SerialAll_k1 (impl_SerialAll_S1 vals1 now1) :=
  P0 <|
 rg <| cb impl_copied_int_t impl_copied_int_ok 2 false h fun int h =>
 om (vals1.length = vals1.length) rfl <| fe Tryz.func30 h
noncomputable def impl_SerialAll_k3 : List Item := posI 2000 5 [false] [.code impl_SerialAll_c]
noncomputable def impl_SerialAll_S2 (progs : List (List TIns)) (vals : List Int) (v25 : Int) (now : List TBox) : St := ⟨(bs 6 (vsl 2 eBox now :: (.own 1 0 1 0 vals.length :: (bs 15 (vsl 1 eInsS progs :: (vi (progs.length : Int) :: (vi v25 :: (bs 21 [])))))))), [some [], some [erow 3 1 eI vals]]⟩
noncomputable def impl_SerialAll_b1 (progs : List (List TIns)) (vals : List Int) (v25 : Int) (now : List TBox) : Option (Stp ((List TBox) × List Int) ((List Int) × Int × List TBox) ((List Int) × List TBox)) :=
  (bif decide (v25 < (progs.length : Int)) then
 ((idx progs v25).bind fun y =>
 ((impl_SerialOne now y).bind fun serialOne =>
 (bif (serialOne.2.2 == 3) then
 some (Stp.ret ([], []))
 else
 (need ((vals.length + 1) * 8 ≤ 140737488355328)
 (some (Stp.nxt (vals ++ [serialOne.2.1], w64 (v25 + 1), serialOne.1)))))))
 else
 some (Stp.brk (vals, now)))
theorem impl_SerialAll_b1_ok (progs : List (List TIns)) (res : V) (outs : List (Option V)) (x1 : Exc ((List TBox) × List Int) ((List Int) × List TBox)) (hb1 : HB cx impl_SerialAll_X res outs x1 impl_SerialAll_k1 (fun s => impl_SerialAll_S1 s.1 s.2)) (hr1 : HR res outs x1 impl_SerialAll_R impl_SerialAll_O) (st1 : Stp ((List TBox) × List Int) ((List Int) × Int × List TBox) ((List Int) × List TBox)) (hc1 : Cont x1 (fun s : (List Int) × Int × List TBox => Fin cx impl_SerialAll_X res outs impl_SerialAll_k3 (impl_SerialAll_S2 progs s.1 s.2.1 s.2.2)) st1) (vals : List Int) (v25 : Int) (now : List TBox) (h : impl_SerialAll_b1 progs vals v25 now = some st1) : Fin cx impl_SerialAll_X res outs impl_SerialAll_k3 (impl_SerialAll_S2 progs vals v25 now) :=
  P0 <|
 rg <| cdD 0 h (fun h =>
 rg <| ixS eInsS 0 h fun y hy h =>
 rg <| cb impl_SerialOne_t impl_SerialOne_ok 2 false h fun serialOne h =>
 rg <| cdD 1 h (fun h =>
 rg <| (retD h hc1 fun e => fn0 Tryz.func30 (hr1 _ e))) (fun h =>
 rg2 <| tl (2, { a := .ck [] }) <| needD h fun e1 h =>
 apS 3 23 3 1 8 eI vals serialOne.2.1 e1 <| om (1 = [serialOne.2.1].length) (by rfl) <| rg <| (nxtD h hc1 fun hI => sg [] [6, 7, 23, 24, 25] [(23, 0)] hI))) (fun h =>
 (brkD h hc1 fun e => sg [] [6, 7] [(1, 0)] (hb1 _ e)))
noncomputable def impl_SerialAll (list : List TBox) (progs : List (List TIns)) : Option ((List TBox) × List Int) :=
  ((impl_BoxOk list).bind fun boxOk =>
 (bif (!boxOk) then
 some ([], [])
 else
 (bif decide ((progs.length : Int) > 100) then
 some ([], [])
 else
 ((impl_copied_Box list).bind fun box =>
 ((loop (fun s : (List Int) × Int × List TBox => impl_SerialAll_b1 progs s.1 s.2.1 s.2.2) ([], 0, box)).bind fun x => x.go (fun r => some r) fun s => impl_SerialAll_k2 s.1 s.2)))))
theorem impl_SerialAll_ok {list : List TBox} {progs : List (List TIns)} (r : (List TBox) × List Int) (h : impl_SerialAll list progs = some r) : ACalls cx.P 30 [vsl 2 eBox list, vsl 1 eInsS progs] (impl_SerialAll_R r) (impl_SerialAll_O r) :=
  ACalls.of (cx := cx) (X := impl_SerialAll_X) (c := impl_SerialAll_c) Tryz.func30 (by kernel_rfl) (by kernel_rfl) (by kernel_rfl) (P0 <|
 rg2 <| cb impl_BoxOk_t impl_BoxOk_ok 1 false h fun boxOk h =>
 cdD 3 h (fun h =>
 rg <| fe Tryz.func30 h) (fun h =>
 cdD 7 h (fun h =>
 rg <| fe Tryz.func30 h) (fun h =>
 rg <| cb impl_copied_Box_t impl_copied_Box_ok 1 false h fun box h =>
 rg2 <| loopJ h fun x hl hr hb => om (box.length = box.length) rfl <| sg [.frz (.tmp 6) (none), .own (.tmp 7) 3 1] [6, 7, 23, 24, 25] [(18, 0)] (loopD (I := fun s : (List Int) × Int × List TBox => Fin cx impl_SerialAll_X (impl_SerialAll_R r) (impl_SerialAll_O r) impl_SerialAll_k3 (impl_SerialAll_S2 progs s.1 s.2.1 s.2.2)) hl fun s st h hc => impl_SerialAll_b1_ok progs _ _ x (fun s e => impl_SerialAll_k2_ok r s.1 s.2 (hb s e)) (fun v e => ⟨congrArg impl_SerialAll_R (Option.some.inj (hr v e)).symm, congrArg impl_SerialAll_O (Option.some.inj (hr v e)).symm⟩) st hc s.1 s.2.1 s.2.2 h))))

/-! ### impl_CertFold -/
noncomputable def impl_CertFold_c : Code := bodyOf Tryz.f33
noncomputable def impl_CertFold_X : Sig := { f := 33, fn := Tryz.f33, rms := [.val [none, some 2, some 4] []], oms := [none] }
noncomputable def impl_CertFold_R (r : TState) : V := .agg (eState r)
noncomputable def impl_CertFold_O (r : TState) : List (Option V) := [none]
noncomputable def impl_CertFold_t (i : Nat) (fr : Bool) (r : TState) : Nat × Tell := (i, { a := .call [.val [some 7] []] fr (impl_CertFold_R r) (impl_CertFold_O r) })
noncomputable def impl_CertFold (list : List TEntry) : Option TState :=
  ((impl_listOk list).bind fun listOk =>
 (bif (!listOk) then
 some (TState.mk 0 [] [])
 else
 ((impl_folded list).bind fun folded =>
 some folded.1)))
theorem impl_CertFold_ok {list : List TEntry} (r : TState) (h : impl_CertFold list = some r) : ACalls cx.P 33 [vsl 7 eEntry list] (impl_CertFold_R r) (impl_CertFold_O r) :=
  ACalls.of (cx := cx) (X := impl_CertFold_X) (c := impl_CertFold_c) Tryz.func33 (by kernel_rfl) (by kernel_rfl) (by kernel_rfl) (P0 <|
 rg2 <| cb impl_listOk_t impl_listOk_ok 1 false h fun listOk h =>
 cdD 2 h (fun h =>
 rg <| fe Tryz.func33 h) (fun h =>
 rg <| cb impl_folded_t impl_folded_ok 1 false h fun folded h =>
 rg <| fe Tryz.func33 h))

/-! ### impl_same_Box -/
noncomputable def impl_same_Box_c : Code := bodyOf Tryz.f74
noncomputable def impl_same_Box_X : Sig := { f := 74, fn := Tryz.f74, rms := [.val [] []], oms := [none, none] }
noncomputable def impl_same_Box_R (r : Bool) : V := .b r
noncomputable def impl_same_Box_O (r : Bool) : List (Option V) := [none, none]
noncomputable def impl_same_Box_t (i : Nat) (fr : Bool) (r : Bool) : Nat × Tell := (i, { a := .call [.val [some 2] [], .val [some 2] []] fr (impl_same_Box_R r) (impl_same_Box_O r) })
noncomputable def impl_same_Box_k1 : List Item := posI 2000 4 [false, false] [.code impl_same_Box_c]
noncomputable def impl_same_Box_S1 : St := ⟨(bs 26 []), [some []]⟩
noncomputable def impl_same_Box_k2 : Option Bool :=
  some true
theorem impl_same_Box_k2_ok (r : Bool) (h : impl_same_Box_k2 = some r) : Fin cx impl_same_Box_X (impl_same_Box_R r) (impl_same_Box_O r) impl_same_Box_k1 (impl_same_Box_S1) :=
  P0 <|
 rg <| fe Tryz.func74 h
noncomputable def impl_same_Box_k3 : List Item := posI 2000 3 [false] [.code impl_same_Box_c]
noncomputable def impl_same_Box_S2 (a : List TBox) (b : List TBox) (v13 : Int) : St := ⟨(vsl 2 eBox a :: (vsl 2 eBox b :: (bs 10 (vi (a.length : Int) :: (vi v13 :: (bs 12 [])))))), [some []]⟩
noncomputable def impl_same_Box_b1 (a : List TBox) (b : List TBox) (v13 : Int) : Option (Stp Bool Int Unit) :=
  (bif decide (v13 < (a.length : Int)) then
 ((idx a v13).bind fun box =>
 ((idx b v13).bind fun box1 =>
 (bif (!(([box.Ver, box.Val] : List Int) == [box1.Ver, box1.Val])) then
 some (Stp.ret false)
 else
 some (Stp.nxt (w64 (v13 + 1))))))
 else
 some (Stp.brk ()))
theorem impl_same_Box_b1_ok (a : List TBox) (b : List TBox) (res : V) (outs : List (Option V)) (x1 : Exc Bool Unit) (hb1 : HB cx impl_same_Box_X res outs x1 impl_same_Box_k1 (fun s => impl_same_Box_S1)) (hr1 : HR res outs x1 impl_same_Box_R impl_same_Box_O) (st1 : Stp Bool Int Unit) (hc1 : Cont x1 (fun s : Int => Fin cx impl_same_Box_X res outs impl_same_Box_k3 (impl_same_Box_S2 a b s)) st1) (v13 : Int) (h : impl_same_Box_b1 a b v13 = some st1) : Fin cx impl_same_Box_X res outs impl_same_Box_k3 (impl_same_Box_S2 a b v13) :=
  P0 <|
 rg <| cdD 0 h (fun h =>
 rg2 <| ixS eBox 2 h fun box hbox h =>
 ixS eBox 6 h fun box1 hbox1 h =>
 cdD 8 h (fun h =>
 rg <| (retD h hc1 fun e => fn0 Tryz.func74 (hr1 _ e))) (fun h =>
 rg <| (nxtD h hc1 fun hI => sg [] [0, 1, 12, 13] [] hI))) (fun h =>
 (brkD h hc1 fun e => sg [] [] [] (hb1 _ e)))
noncomputable def impl_same_Box (a : List TBox) (b : List TBox) : Option Bool :=
  (bif ((a.length : Int) != (b.length : Int)) then
 some false
 else
 ((loop (fun s : Int => impl_same_Box_b1 a b s) 0).bind fun x => x.go (fun r => some r) fun s => impl_same_Box_k2))
theorem impl_same_Box_ok {a : List TBox} {b : List TBox} (r : Bool) (h : impl_same_Box a b = some r) : ACalls cx.P 74 [vsl 2 eBox a, vsl 2 eBox b] (impl_same_Box_R r) (impl_same_Box_O r) :=
  ACalls.of (cx := cx) (X := impl_same_Box_X) (c := impl_same_Box_c) Tryz.func74 (by kernel_rfl) (by kernel_rfl) (by kernel_rfl) (P0 <|
 rg2 <| cdD 4 h (fun h =>
 rg <| fe Tryz.func74 h) (fun h =>
 rg <| loopJ h fun x hl hr hb => sg [] [0, 1, 12, 13] [] (loopD (I := fun s : Int => Fin cx impl_same_Box_X (impl_same_Box_R r) (impl_same_Box_O r) impl_same_Box_k3 (impl_same_Box_S2 a b s)) hl fun s st h hc => impl_same_Box_b1_ok a b _ _ x (fun s e => impl_same_Box_k2_ok r (hb s e)) (fun v e => ⟨congrArg impl_same_Box_R (Option.some.inj (hr v e)).symm, congrArg impl_same_Box_O (Option.some.inj (hr v e)).symm⟩) st hc s h)))

/-! ### impl_BoxSame -/
noncomputable def impl_BoxSame_c : Code := bodyOf Tryz.f32
noncomputable def impl_BoxSame_X : Sig := { f := 32, fn := Tryz.f32, rms := [.val [] []], oms := [none, none] }
noncomputable def impl_BoxSame_R (r : Bool) : V := .b r
noncomputable def impl_BoxSame_O (r : Bool) : List (Option V) := [none, none]
noncomputable def impl_BoxSame_t (i : Nat) (fr : Bool) (r : Bool) : Nat × Tell := (i, { a := .call [.val [some 2] [], .val [some 2] []] fr (impl_BoxSame_R r) (impl_BoxSame_O r) })
noncomputable def impl_BoxSame (a : List TBox) (b : List TBox) : Option Bool :=
  ((impl_same_Box a b).bind fun box =>
 some box)
theorem impl_BoxSame_ok {a : List TBox} {b : List TBox} (r : Bool) (h : impl_BoxSame a b = some r) : ACalls cx.P 32 [vsl 2 eBox a, vsl 2 eBox b] (impl_BoxSame_R r) (impl_BoxSame_O r) :=
  ACalls.of (cx := cx) (X := impl_BoxSame_X) (c := impl_BoxSame_c) Tryz.func32 (by kernel_rfl) (by kernel_rfl) (by kernel_rfl) (P0 <|
 rg2 <| cb impl_same_Box_t impl_same_Box_ok 2 false h fun box h =>
 fe Tryz.func32 h)

/-! ### impl_first -/
noncomputable def impl_first_c : Code := bodyOf Tryz.f34
noncomputable def impl_first_X : Sig := { f := 34, fn := Tryz.f34, rms := [.val [] []], oms := [none, none] }
noncomputable def impl_first_R (r : Int) : V := vi r
noncomputable def impl_first_O (r : Int) : List (Option V) := [none, none]
noncomputable def impl_first_t (i : Nat) (fr : Bool) (r : Int) : Nat × Tell := (i, { a := .call [.val [some 7] [], .val [] []] fr (impl_first_R r) (impl_first_O r) })
noncomputable def impl_first_k1 : List Item := posI 2000 3 [false] [.code impl_first_c]
noncomputable def impl_first_S1 : St := ⟨(bs 25 []), [some []]⟩
noncomputable def impl_first_k2 : Option Int :=
  some (-1)
theorem impl_first_k2_ok (r : Int) (h : impl_first_k2 = some r) : Fin cx impl_first_X (impl_first_R r) (impl_first_O r) impl_first_k1 (impl_first_S1) :=
  P0 <|
 rg <| fe Tryz.func34 h
noncomputable def impl_first_k3 : List Item := posI 2000 2 [] [.code impl_first_c]
noncomputable def impl_first_S2 (list : List TEntry) (q : TReq) (v9 : Int) : St := ⟨(bs 3 (.ptr 1 0 0 :: (bs 3 (vsl 7 eEntry list :: (vi (list.length : Int) :: (vi v9 :: (bs 15 []))))))), [some [], some [.var 62 [vi q.Who, vi q.Seq]]]⟩
noncomputable def impl_first_k4 : List Item := posI 2000 5 [true, false] [.code impl_first_c]
noncomputable def impl_first_S3 (list : List TEntry) (q : TReq) (v9 : Int) : St := ⟨(bs 3 (.ptr 1 0 0 :: (bs 3 (vsl 7 eEntry list :: (vi (list.length : Int) :: (vi v9 :: (bs 15 []))))))), [some [], some [.var 62 [vi q.Who, vi q.Seq]]]⟩
noncomputable def impl_first_j1 (v9 : Int) : Option (Stp Int Int Unit) :=
  some (Stp.nxt (w64 (v9 + 1)))
theorem impl_first_j1_ok (list : List TEntry) (q : TReq) (v9 : Int) (res : V) (outs : List (Option V)) (x1 : Exc Int Unit) (hb1 : HB cx impl_first_X res outs x1 impl_first_k1 (fun s => impl_first_S1)) (hr1 : HR res outs x1 impl_first_R impl_first_O) (st1 : Stp Int Int Unit) (hc1 : Cont x1 (fun s : Int => Fin cx impl_first_X res outs impl_first_k3 (impl_first_S2 list q s)) st1) (h : impl_first_j1 v9 = some st1) : Fin cx impl_first_X res outs impl_first_k4 (impl_first_S3 list q v9) :=
  P0 <|
 rg <| (nxtD h hc1 fun hI => sg [] [3, 7, 8, 9] [(1, 0)] hI)
noncomputable def impl_first_b1 (list : List TEntry) (q : TReq) (v9 : Int) : Option (Stp Int Int Unit) :=
  (bif decide (v9 < (list.length : Int)) then
 ((idx list v9).bind fun entry =>
 (((bif (!entry.None) then
 (bif (([entry.Req.Who, entry.Req.Seq] : List Int) == [q.Who, q.Seq]) then
 some (Exc.ret (Stp.ret v9))
 else
 some (Exc.brk ()))
 else
 some (Exc.brk ())) : Option (Exc (Stp Int Int Unit) Unit)).bind fun x => x.go some fun j => impl_first_j1 v9))
 else
 some (Stp.brk ()))
theorem impl_first_b1_ok (list : List TEntry) (q : TReq) (res : V) (outs : List (Option V)) (x1 : Exc Int Unit) (hb1 : HB cx impl_first_X res outs x1 impl_first_k1 (fun s => impl_first_S1)) (hr1 : HR res outs x1 impl_first_R impl_first_O) (st1 : Stp Int Int Unit) (hc1 : Cont x1 (fun s : Int => Fin cx impl_first_X res outs impl_first_k3 (impl_first_S2 list q s)) st1) (v9 : Int) (h : impl_first_b1 list q v9 = some st1) : Fin cx impl_first_X res outs impl_first_k3 (impl_first_S2 list q v9) :=
  P0 <|
 rg <| cdD 0 h (fun h =>
 rg <| ixS eEntry 1 h fun entry hentry h =>
 joinD (I := fun j : Unit => Fin cx impl_first_X res outs impl_first_k4 (impl_first_S3 list q v9)) h (fun j h => impl_first_j1_ok list q v9 res outs x1 hb1 hr1 st1 hc1 h) (fun x2 h hc2 =>
  rg <| cdD 3 h (fun h =>
 cdD 8 h (fun h =>
 rg <| (jretD h hc2 fun h => (retD h hc1 fun e => fn0 Tryz.func34 (hr1 _ e)))) (fun h =>
 (jbrkD h hc2 fun hI => sg [] [3, 7, 8, 9] [(1, 0)] hI))) (fun h =>
 (jbrkD h hc2 fun hI => sg [] [3, 7, 8, 9] [(1, 0)] hI)))) (fun h =>
 (brkD h hc1 fun e => sg [] [] [] (hb1 _ e)))
noncomputable def impl_first (list : List TEntry) (q : TReq) : Option Int :=
  ((loop (fun s : Int => impl_first_b1 list q s) 0).bind fun x => x.go (fun r => some r) fun s => impl_first_k2)
theorem impl_first_ok {list : List TEntry} {q : TReq} (r : Int) (h : impl_first list q = some r) : ACalls cx.P 34 [vsl 7 eEntry list, .agg (eReq q)] (impl_first_R r) (impl_first_O r) :=
  ACalls.of (cx := cx) (X := impl_first_X) (c := impl_first_c) Tryz.func34 (by kernel_rfl) (by kernel_rfl) (by kernel_rfl) (P0 <|
 rg2 <| loopJ h fun x hl hr hb => sg [] [3, 7, 8, 9] [(1, 0)] (loopD (I := fun s : Int => Fin cx impl_first_X (impl_first_R r) (impl_first_O r) impl_first_k3 (impl_first_S2 list q s)) hl fun s st h hc => impl_first_b1_ok list q _ _ x (fun s e => impl_first_k2_ok r (hb s e)) (fun v e => ⟨congrArg impl_first_R (Option.some.inj (hr v e)).symm, congrArg impl_first_O (Option.some.inj (hr v e)).symm⟩) st hc s h))

/-! ### impl_ToldAlone -/
noncomputable def impl_ToldAlone_c : Code := bodyOf Tryz.f7
noncomputable def impl_ToldAlone_X : Sig := { f := 7, fn := Tryz.f7, rms := [.val [] []], oms := [none] }
noncomputable def impl_ToldAlone_R (r : Bool) : V := .b r
noncomputable def impl_ToldAlone_O (r : Bool) : List (Option V) := [none]
noncomputable def impl_ToldAlone_t (i : Nat) (fr : Bool) (r : Bool) : Nat × Tell := (i, { a := .call [.val ck35 []] fr (impl_ToldAlone_R r) (impl_ToldAlone_O r) })
noncomputable def impl_ToldAlone_k1 : List Item := posI 2000 7 [false, false] [.code impl_ToldAlone_c]
noncomputable def impl_ToldAlone_S1 (worldLog : List TEntry) (toldDone : List TReq) (progs1 : List (List TIns)) : St := ⟨(bs 3 (vsl 7 eEntry worldLog :: (vsl 2 eReq toldDone :: (.own 1 0 1 0 progs1.length :: (bs 74 []))))), [some [], some [erow 67 1 eInsS progs1]]⟩
noncomputable def impl_ToldAlone_k2 : List Item := posI 2000 11 [false, false, false, false] [.code impl_ToldAlone_c]
noncomputable def impl_ToldAlone_S2 : St := ⟨(bs 80 []), [some []]⟩
noncomputable def impl_ToldAlone_k3 : Option Bool :=
  some true
theorem impl_ToldAlone_k3_ok (r : Bool) (h : impl_ToldAlone_k3 = some r) : Fin cx impl_ToldAlone_X (impl_ToldAlone_R r) (impl_ToldAlone_O r) impl_ToldAlone_k2 (impl_ToldAlone_S2) :=
  P0 <|
 rg <| fe Tryz.func7 h
noncomputable def impl_ToldAlone_k4 : List Item := posI 2000 10 [false, false, false] [.code impl_ToldAlone_c]
noncomputable def impl_ToldAlone_S3 (worldLog : List TEntry) (toldDone : List TReq) (serialAll : (List TBox) × List Int) (v61 : Int) : St := ⟨(bs 3 (vsl 7 eEntry worldLog :: (bs 7 (vsl 1 eI serialAll.2 :: (bs 47 (vsl 2 eReq toldDone :: (vi (toldDone.length : Int) :: (vi v61 :: (bs 18 []))))))))), [some []]⟩
noncomputable def impl_ToldAlone_b1 (worldLog : List TEntry) (toldDone : List TReq) (serialAll : (List TBox) × List Int) (v61 : Int) : Option (Stp Bool Int Unit) :=
  (bif decide (v61 < (toldDone.length : Int)) then
 ((idx toldDone v61).bind fun req =>
 ((idx serialAll.2 v61).bind fun y =>
 ((impl_first worldLog req).bind fun first =>
 ((idx worldLog first).bind fun entry =>
 (bif (y != entry.Run.Val) then
 some (Stp.ret false)
 else
 some (Stp.nxt (w64 (v61 + 1))))))))
 else
 some (Stp.brk ()))
theorem impl_ToldAlone_b1_ok (worldLog : List TEntry) (toldDone : List TReq) (serialAll : (List TBox) × List Int) (res : V) (outs : List (Option V)) (x1 : Exc Bool Unit) (hb1 : HB cx impl_ToldAlone_X res outs x1 impl_ToldAlone_k2 (fun s => impl_ToldAlone_S2)) (hr1 : HR res outs x1 impl_ToldAlone_R impl_ToldAlone_O) (st1 : Stp Bool Int Unit) (hc1 : Cont x1 (fun s : Int => Fin cx impl_ToldAlone_X res outs impl_ToldAlone_k4 (impl_ToldAlone_S3 worldLog toldDone serialAll s)) st1) (v61 : Int) (h : impl_ToldAlone_b1 worldLog toldDone serialAll v61 = some st1) : Fin cx impl_ToldAlone_X res outs impl_ToldAlone_k4 (impl_ToldAlone_S3 worldLog toldDone serialAll v61) :=
  P0 <|
 rg <| cdD 0 h (fun h =>
 rg <| ixS eReq 1 h fun req hreq h =>
 rg <| ixS eI 2 h fun y hy h =>
 cb impl_first_t impl_first_ok 7 false h fun first h =>
 ixS eEntry 8 h fun entry hentry h =>
 cdD 12 h (fun h =>
 rg <| (retD h hc1 fun e => fn0 Tryz.func7 (hr1 _ e))) (fun h =>
 rg <| (nxtD h hc1 fun hI => sg [] [3, 11, 59, 60, 61] [] hI))) (fun h =>
 (brkD h hc1 fun e => sg [] [] [] (hb1 _ e)))
noncomputable def impl_ToldAlone_k5 (worldLog : List TEntry) (toldDone : List TReq) (progs1 : List (List TIns)) : Option Bool :=
  ((impl_BoxOpen).bind fun boxOpen =>
 ((impl_SerialAll boxOpen progs1).bind fun serialAll =>
 ((impl_CertFold worldLog).bind fun certFold =>
 ((impl_BoxSame serialAll.1 certFold.Boxes).bind fun boxSame =>
 (bif (!boxSame) then
 some false
 else
 (bif ((serialAll.2.length : Int) != (toldDone.length : Int)) then
 some false
 else
 ((loop (fun s : Int => impl_ToldAlone_b1 worldLog toldDone serialAll s) 0).bind fun x => x.go (fun r => some r) fun s => impl_ToldAlone_k3)))))))
theorem impl_ToldAlone_k5_ok (worldLog : List TEntry) (toldDone : List TReq) (r : Bool) (progs1 : List (List TIns)) (h : impl_ToldAlone_k5 worldLog toldDone progs1 = some r) : Fin cx impl_ToldAlone_X (impl_ToldAlone_R r) (impl_ToldAlone_O r) impl_ToldAlone_k1 (impl_ToldAlone_S1 worldLog toldDone progs1) :=
  P0 <|
 rg <| cb impl_BoxOpen_t impl_BoxOpen_ok 0 false h fun boxOpen h =>
 cb impl_SerialAll_t impl_SerialAll_ok 2 false h fun serialAll h =>
 om (progs1.length = progs1.length) rfl <| rg <| cb impl_CertFold_t impl_CertFold_ok 2 false h fun certFold h =>
 cb impl_BoxSame_t impl_BoxSame_ok 4 false h fun boxSame h =>
 cdD 6 h (fun h =>
 rg <| fe Tryz.func7 h) (fun h =>
 cdD 12 h (fun h =>
 rg <| fe Tryz.func7 h) (fun h =>
 rg <| loopJ h fun x hl hr hb => sg [] [3, 11, 59, 60, 61] [] (loopD (I := fun s : Int => Fin cx impl_ToldAlone_X (impl_ToldAlone_R r) (impl_ToldAlone_O r) impl_ToldAlone_k4 (impl_ToldAlone_S3 worldLog toldDone serialAll s)) hl fun s st h hc => impl_ToldAlone_b1_ok worldLog toldDone serialAll _ _ x (fun s e => impl_ToldAlone_k3_ok r (hb s e)) (fun v e => ⟨congrArg impl_ToldAlone_R (Option.some.inj (hr v e)).symm, congrArg impl_ToldAlone_O (Option.some.inj (hr v e)).symm⟩) st hc s h)))
noncomputable def impl_ToldAlone_k6 : List Item := posI 2000 6 [false] [.code impl_ToldAlone_c]
noncomputable def impl_ToldAlone_S4 (w : TWorld) (worldLog : List TEntry) (toldDone : List TReq) (progs : List (List TIns)) (v23 : Int) : St := ⟨(bs 1 (.ptr 1 0 0 :: (bs 1 (vsl 7 eEntry worldLog :: (vsl 2 eReq toldDone :: (.own 2 0 1 0 progs.length :: (bs 15 (vsl 2 eReq toldDone :: (vi (toldDone.length : Int) :: (vi v23 :: (bs 56 []))))))))))), [some [], some [.var 35 [vsl 27 eNode w.Nodes, vsl 13 eMsg w.Net, vsl 3 eAsked w.Asked, vsl 5 eTold w.Told]], some [erow 67 1 eInsS progs]]⟩
noncomputable def impl_ToldAlone_b2 (w : TWorld) (toldDone : List TReq) (progs : List (List TIns)) (v23 : Int) : Option (Stp Bool ((List (List TIns)) × Int) (List (List TIns))) :=
  (bif decide (v23 < (toldDone.length : Int)) then
 ((idx toldDone v23).bind fun req1 =>
 ((impl_ToldProg w req1).bind fun toldProg =>
 (bif (!toldProg.2) then
 some (Stp.ret false)
 else
 (need ((progs.length + 1) * 24 ≤ 140737488355328)
 (some (Stp.nxt (progs ++ [toldProg.1], w64 (v23 + 1))))))))
 else
 some (Stp.brk progs))
theorem impl_ToldAlone_b2_ok (w : TWorld) (worldLog : List TEntry) (toldDone : List TReq) (res : V) (outs : List (Option V)) (x1 : Exc Bool (List (List TIns))) (hb1 : HB cx impl_ToldAlone_X res outs x1 impl_ToldAlone_k1 (impl_ToldAlone_S1 worldLog toldDone)) (hr1 : HR res outs x1 impl_ToldAlone_R impl_ToldAlone_O) (st1 : Stp Bool ((List (List TIns)) × Int) (List (List TIns))) (hc1 : Cont x1 (fun s : (List (List TIns)) × Int => Fin cx impl_ToldAlone_X res outs impl_ToldAlone_k6 (impl_ToldAlone_S4 w worldLog toldDone s.1 s.2)) st1) (progs : List (List TIns)) (v23 : Int) (h : impl_ToldAlone_b2 w toldDone progs v23 = some st1) : Fin cx impl_ToldAlone_X res outs impl_ToldAlone_k6 (impl_ToldAlone_S4 w worldLog toldDone progs v23) :=
  P0 <|
 rg <| cdD 0 h (fun h =>
 rg <| ixS eReq 0 h fun req1 hreq1 h =>
 rg <| cb impl_ToldProg_t impl_ToldProg_ok 2 false h fun toldProg h =>
 rg <| cdD 1 h (fun h =>
 rg <| (retD h hc1 fun e => fn0 Tryz.func7 (hr1 _ e))) (fun h =>
 rg <| tl (2, { a := .ck [some 4] }) <| needD h fun e1 h =>
 apS 3 21 67 1 24 eInsS progs toldProg.1 e1 <| om (1 = [toldProg.1].length) (by rfl) <| rg <| (nxtD h hc1 fun hI => sg [] [1, 3, 4, 5, 21, 22, 23] [(1, 0), (21, 0)] hI))) (fun h =>
 (brkD h hc1 fun e => sg [] [3, 4, 5] [(2, 0)] (hb1 _ e)))
noncomputable def impl_ToldAlone (w : TWorld) : Option Bool :=
  ((impl_WorldOk w).bind fun worldOk =>
 (bif (!worldOk) then
 some false
 else
 ((impl_WorldLog w).bind fun worldLog =>
 ((impl_ToldDone worldLog).bind fun toldDone =>
 ((loop (fun s : (List (List TIns)) × Int => impl_ToldAlone_b2 w toldDone s.1 s.2) ([], 0)).bind fun x => x.go (fun r => some r) fun s => impl_ToldAlone_k5 worldLog toldDone s)))))
theorem impl_ToldAlone_ok {w : TWorld} (r : Bool) (h : impl_ToldAlone w = some r) : ACalls cx.P 7 [.agg (eWorld w)] (impl_ToldAlone_R r) (impl_ToldAlone_O r) :=
  ACalls.of (cx := cx) (X := impl_ToldAlone_X) (c := impl_ToldAlone_c) Tryz.func7 (by kernel_rfl) (by kernel_rfl) (by kernel_rfl) (P0 <|
 rg2 <| cb impl_WorldOk_t impl_WorldOk_ok 1 false h fun worldOk h =>
 cdD 2 h (fun h =>
 rg <| fe Tryz.func7 h) (fun h =>
 rg <| cb impl_WorldLog_t impl_WorldLog_ok 1 false h fun worldLog h =>
 rg <| cb impl_ToldDone_t impl_ToldDone_ok 1 false h fun toldDone h =>
 rg2 <| loopJ h fun x hl hr hb => sg [.own (.tmp 5) 67 1] [1, 3, 4, 5, 21, 22, 23] [(1, 0), (16, 0)] (loopD (I := fun s : (List (List TIns)) × Int => Fin cx impl_ToldAlone_X (impl_ToldAlone_R r) (impl_ToldAlone_O r) impl_ToldAlone_k6 (impl_ToldAlone_S4 w worldLog toldDone s.1 s.2)) hl fun s st h hc => impl_ToldAlone_b2_ok w worldLog toldDone _ _ x (fun s e => impl_ToldAlone_k5_ok worldLog toldDone r s (hb s e)) (fun v e => ⟨congrArg impl_ToldAlone_R (Option.some.inj (hr v e)).symm, congrArg impl_ToldAlone_O (Option.some.inj (hr v e)).symm⟩) st hc s.1 s.2 h)))

/-! ### laws_eqReq -/
noncomputable def laws_eqReq_c : Code := bodyOf Tryz.f126
noncomputable def laws_eqReq_X : Sig := { f := 126, fn := Tryz.f126, rms := [.val [] []], oms := [none, none] }
noncomputable def laws_eqReq_R (r : Bool) : V := .b r
noncomputable def laws_eqReq_O (r : Bool) : List (Option V) := [none, none]
noncomputable def laws_eqReq_t (i : Nat) (fr : Bool) (r : Bool) : Nat × Tell := (i, { a := .call [.val [] [], .val [] []] fr (laws_eqReq_R r) (laws_eqReq_O r) })
noncomputable def laws_eqReq (a : TReq) (b : TReq) : Option Bool :=
  (bif (a.Who != b.Who) then
 some false
 else
 (bif (a.Seq != b.Seq) then
 some false
 else
 some true))
theorem laws_eqReq_ok {a : TReq} {b : TReq} (r : Bool) (h : laws_eqReq a b = some r) : ACalls cx.P 126 [.agg (eReq a), .agg (eReq b)] (laws_eqReq_R r) (laws_eqReq_O r) :=
  ACalls.of (cx := cx) (X := laws_eqReq_X) (c := laws_eqReq_c) Tryz.func126 (by kernel_rfl) (by kernel_rfl) (by kernel_rfl) (P0 <|
 rg2 <| cdD 4 h (fun h =>
 rg <| fe Tryz.func126 h) (fun h =>
 rg <| cdD 4 h (fun h =>
 rg <| fe Tryz.func126 h) (fun h =>
 rg <| fe Tryz.func126 h)))

/-! ### laws_eqRead -/
noncomputable def laws_eqRead_c : Code := bodyOf Tryz.f171
noncomputable def laws_eqRead_X : Sig := { f := 171, fn := Tryz.f171, rms := [.val [] []], oms := [none, none] }
noncomputable def laws_eqRead_R (r : Bool) : V := .b r
noncomputable def laws_eqRead_O (r : Bool) : List (Option V) := [none, none]
noncomputable def laws_eqRead_t (i : Nat) (fr : Bool) (r : Bool) : Nat × Tell := (i, { a := .call [.val [] [], .val [] []] fr (laws_eqRead_R r) (laws_eqRead_O r) })
noncomputable def laws_eqRead (a : TRead) (b : TRead) : Option Bool :=
  (bif (a.Box != b.Box) then
 some false
 else
 (bif (a.Ver != b.Ver) then
 some false
 else
 some true))
theorem laws_eqRead_ok {a : TRead} {b : TRead} (r : Bool) (h : laws_eqRead a b = some r) : ACalls cx.P 171 [.agg (eRead a), .agg (eRead b)] (laws_eqRead_R r) (laws_eqRead_O r) :=
  ACalls.of (cx := cx) (X := laws_eqRead_X) (c := laws_eqRead_c) Tryz.func171 (by kernel_rfl) (by kernel_rfl) (by kernel_rfl) (P0 <|
 rg2 <| cdD 4 h (fun h =>
 rg <| fe Tryz.func171 h) (fun h =>
 rg <| cdD 4 h (fun h =>
 rg <| fe Tryz.func171 h) (fun h =>
 rg <| fe Tryz.func171 h)))

/-! ### laws_eqReadS -/
noncomputable def laws_eqReadS_c : Code := bodyOf Tryz.f167
noncomputable def laws_eqReadS_X : Sig := { f := 167, fn := Tryz.f167, rms := [.val [] []], oms := [none, none] }
noncomputable def laws_eqReadS_R (r : Bool) : V := .b r
noncomputable def laws_eqReadS_O (r : Bool) : List (Option V) := [none, none]
noncomputable def laws_eqReadS_t (i : Nat) (fr : Bool) (r : Bool) : Nat × Tell := (i, { a := .call [.val [some 2] [], .val [some 2] []] fr (laws_eqReadS_R r) (laws_eqReadS_O r) })
noncomputable def laws_eqReadS_k1 : List Item := posI 2000 4 [false, false] [.code laws_eqReadS_c]
noncomputable def laws_eqReadS_S1 : St := ⟨(bs 27 []), [some []]⟩
noncomputable def laws_eqReadS_k2 : Option Bool :=
  some true
theorem laws_eqReadS_k2_ok (r : Bool) (h : laws_eqReadS_k2 = some r) : Fin cx laws_eqReadS_X (laws_eqReadS_R r) (laws_eqReadS_O r) laws_eqReadS_k1 (laws_eqReadS_S1) :=
  P0 <|
 rg <| fe Tryz.func167 h
noncomputable def laws_eqReadS_k3 : List Item := posI 2000 3 [false] [.code laws_eqReadS_c]
noncomputable def laws_eqReadS_S2 (a : List TRead) (b : List TRead) (i : Int) : St := ⟨(vsl 2 eRead a :: (vsl 2 eRead b :: (bs 3 (vi i :: (bs 21 []))))), [some []]⟩
noncomputable def laws_eqReadS_b1 (a : List TRead) (b : List TRead) (i : Int) : Option (Stp Bool Int Unit) :=
  (bif decide (i < (a.length : Int)) then
 ((idx a i).bind fun read =>
 ((idx b i).bind fun read1 =>
 ((laws_eqRead read read1).bind fun eqRead =>
 (bif (!eqRead) then
 some (Stp.ret false)
 else
 some (Stp.nxt (w64 (i + 1)))))))
 else
 some (Stp.brk ()))
theorem laws_eqReadS_b1_ok (a : List TRead) (b : List TRead) (res : V) (outs : List (Option V)) (x1 : Exc Bool Unit) (hb1 : HB cx laws_eqReadS_X res outs x1 laws_eqReadS_k1 (fun s => laws_eqReadS_S1)) (hr1 : HR res outs x1 laws_eqReadS_R laws_eqReadS_O) (st1 : Stp Bool Int Unit) (hc1 : Cont x1 (fun s : Int => Fin cx laws_eqReadS_X res outs laws_eqReadS_k3 (laws_eqReadS_S2 a b s)) st1) (i : Int) (h : laws_eqReadS_b1 a b i = some st1) : Fin cx laws_eqReadS_X res outs laws_eqReadS_k3 (laws_eqReadS_S2 a b i) :=
  P0 <|
 rg <| cdD 3 h (fun h =>
 rg <| ixS eRead 2 h fun read hread h =>
 ixS eRead 6 h fun read1 hread1 h =>
 cb laws_eqRead_t laws_eqRead_ok 8 false h fun eqRead h =>
 cdD 9 h (fun h =>
 rg <| (retD h hc1 fun e => fn0 Tryz.func167 (hr1 _ e))) (fun h =>
 rg <| (nxtD h hc1 fun hI => sg [] [0, 1, 5] [] hI))) (fun h =>
 (brkD h hc1 fun e => sg [] [] [] (hb1 _ e)))
noncomputable def laws_eqReadS (a : List TRead) (b : List TRead) : Option Bool :=
  (bif ((a.length : Int) != (b.length : Int)) then
 some false
 else
 ((loop (fun s : Int => laws_eqReadS_b1 a b s) 0).bind fun x => x.go (fun r => some r) fun s => laws_eqReadS_k2))
theorem laws_eqReadS_ok {a : List TRead} {b : List TRead} (r : Bool) (h : laws_eqReadS a b = some r) : ACalls cx.P 167 [vsl 2 eRead a, vsl 2 eRead b] (laws_eqReadS_R r) (laws_eqReadS_O r) :=
  ACalls.of (cx := cx) (X := laws_eqReadS_X) (c := laws_eqReadS_c) Tryz.func167 (by kernel_rfl) (by kernel_rfl) (by kernel_rfl) (P0 <|
 rg2 <| cdD 4 h (fun h =>
 rg <| fe Tryz.func167 h) (fun h =>
 rg <| loopJ h fun x hl hr hb => sg [] [0, 1, 5] [] (loopD (I := fun s : Int => Fin cx laws_eqReadS_X (laws_eqReadS_R r) (laws_eqReadS_O r) laws_eqReadS_k3 (laws_eqReadS_S2 a b s)) hl fun s st h hc => laws_eqReadS_b1_ok a b _ _ x (fun s e => laws_eqReadS_k2_ok r (hb s e)) (fun v e => ⟨congrArg laws_eqReadS_R (Option.some.inj (hr v e)).symm, congrArg laws_eqReadS_O (Option.some.inj (hr v e)).symm⟩) st hc s h)))

/-! ### laws_eqPut -/
noncomputable def laws_eqPut_c : Code := bodyOf Tryz.f172
noncomputable def laws_eqPut_X : Sig := { f := 172, fn := Tryz.f172, rms := [.val [] []], oms := [none, none] }
noncomputable def laws_eqPut_R (r : Bool) : V := .b r
noncomputable def laws_eqPut_O (r : Bool) : List (Option V) := [none, none]
noncomputable def laws_eqPut_t (i : Nat) (fr : Bool) (r : Bool) : Nat × Tell := (i, { a := .call [.val [] [], .val [] []] fr (laws_eqPut_R r) (laws_eqPut_O r) })
noncomputable def laws_eqPut (a : TPut) (b : TPut) : Option Bool :=
  (bif (a.Box != b.Box) then
 some false
 else
 (bif (a.Val != b.Val) then
 some false
 else
 some true))
theorem laws_eqPut_ok {a : TPut} {b : TPut} (r : Bool) (h : laws_eqPut a b = some r) : ACalls cx.P 172 [.agg (ePut a), .agg (ePut b)] (laws_eqPut_R r) (laws_eqPut_O r) :=
  ACalls.of (cx := cx) (X := laws_eqPut_X) (c := laws_eqPut_c) Tryz.func172 (by kernel_rfl) (by kernel_rfl) (by kernel_rfl) (P0 <|
 rg2 <| cdD 4 h (fun h =>
 rg <| fe Tryz.func172 h) (fun h =>
 rg <| cdD 4 h (fun h =>
 rg <| fe Tryz.func172 h) (fun h =>
 rg <| fe Tryz.func172 h)))

/-! ### laws_eqPutS -/
noncomputable def laws_eqPutS_c : Code := bodyOf Tryz.f168
noncomputable def laws_eqPutS_X : Sig := { f := 168, fn := Tryz.f168, rms := [.val [] []], oms := [none, none] }
noncomputable def laws_eqPutS_R (r : Bool) : V := .b r
noncomputable def laws_eqPutS_O (r : Bool) : List (Option V) := [none, none]
noncomputable def laws_eqPutS_t (i : Nat) (fr : Bool) (r : Bool) : Nat × Tell := (i, { a := .call [.val [some 2] [], .val [some 2] []] fr (laws_eqPutS_R r) (laws_eqPutS_O r) })
noncomputable def laws_eqPutS_k1 : List Item := posI 2000 4 [false, false] [.code laws_eqPutS_c]
noncomputable def laws_eqPutS_S1 : St := ⟨(bs 27 []), [some []]⟩
noncomputable def laws_eqPutS_k2 : Option Bool :=
  some true
theorem laws_eqPutS_k2_ok (r : Bool) (h : laws_eqPutS_k2 = some r) : Fin cx laws_eqPutS_X (laws_eqPutS_R r) (laws_eqPutS_O r) laws_eqPutS_k1 (laws_eqPutS_S1) :=
  P0 <|
 rg <| fe Tryz.func168 h
noncomputable def laws_eqPutS_k3 : List Item := posI 2000 3 [false] [.code laws_eqPutS_c]
noncomputable def laws_eqPutS_S2 (a : List TPut) (b : List TPut) (i : Int) : St := ⟨(vsl 2 ePut a :: (vsl 2 ePut b :: (bs 3 (vi i :: (bs 21 []))))), [some []]⟩
noncomputable def laws_eqPutS_b1 (a : List TPut) (b : List TPut) (i : Int) : Option (Stp Bool Int Unit) :=
  (bif decide (i < (a.length : Int)) then
 ((idx a i).bind fun put =>
 ((idx b i).bind fun put1 =>
 ((laws_eqPut put put1).bind fun eqPut =>
 (bif (!eqPut) then
 some (Stp.ret false)
 else
 some (Stp.nxt (w64 (i + 1)))))))
 else
 some (Stp.brk ()))
theorem laws_eqPutS_b1_ok (a : List TPut) (b : List TPut) (res : V) (outs : List (Option V)) (x1 : Exc Bool Unit) (hb1 : HB cx laws_eqPutS_X res outs x1 laws_eqPutS_k1 (fun s => laws_eqPutS_S1)) (hr1 : HR res outs x1 laws_eqPutS_R laws_eqPutS_O) (st1 : Stp Bool Int Unit) (hc1 : Cont x1 (fun s : Int => Fin cx laws_eqPutS_X res outs laws_eqPutS_k3 (laws_eqPutS_S2 a b s)) st1) (i : Int) (h : laws_eqPutS_b1 a b i = some st1) : Fin cx laws_eqPutS_X res outs laws_eqPutS_k3 (laws_eqPutS_S2 a b i) :=
  P0 <|
 rg <| cdD 3 h (fun h =>
 rg <| ixS ePut 2 h fun put hput h =>
 ixS ePut 6 h fun put1 hput1 h =>
 cb laws_eqPut_t laws_eqPut_ok 8 false h fun eqPut h =>
 cdD 9 h (fun h =>
 rg <| (retD h hc1 fun e => fn0 Tryz.func168 (hr1 _ e))) (fun h =>
 rg <| (nxtD h hc1 fun hI => sg [] [0, 1, 5] [] hI))) (fun h =>
 (brkD h hc1 fun e => sg [] [] [] (hb1 _ e)))
noncomputable def laws_eqPutS (a : List TPut) (b : List TPut) : Option Bool :=
  (bif ((a.length : Int) != (b.length : Int)) then
 some false
 else
 ((loop (fun s : Int => laws_eqPutS_b1 a b s) 0).bind fun x => x.go (fun r => some r) fun s => laws_eqPutS_k2))
theorem laws_eqPutS_ok {a : List TPut} {b : List TPut} (r : Bool) (h : laws_eqPutS a b = some r) : ACalls cx.P 168 [vsl 2 ePut a, vsl 2 ePut b] (laws_eqPutS_R r) (laws_eqPutS_O r) :=
  ACalls.of (cx := cx) (X := laws_eqPutS_X) (c := laws_eqPutS_c) Tryz.func168 (by kernel_rfl) (by kernel_rfl) (by kernel_rfl) (P0 <|
 rg2 <| cdD 4 h (fun h =>
 rg <| fe Tryz.func168 h) (fun h =>
 rg <| loopJ h fun x hl hr hb => sg [] [0, 1, 5] [] (loopD (I := fun s : Int => Fin cx laws_eqPutS_X (laws_eqPutS_R r) (laws_eqPutS_O r) laws_eqPutS_k3 (laws_eqPutS_S2 a b s)) hl fun s st h hc => laws_eqPutS_b1_ok a b _ _ x (fun s e => laws_eqPutS_k2_ok r (hb s e)) (fun v e => ⟨congrArg laws_eqPutS_R (Option.some.inj (hr v e)).symm, congrArg laws_eqPutS_O (Option.some.inj (hr v e)).symm⟩) st hc s h)))

/-! ### laws_eqRun -/
noncomputable def laws_eqRun_c : Code := bodyOf Tryz.f157
noncomputable def laws_eqRun_X : Sig := { f := 157, fn := Tryz.f157, rms := [.val [] []], oms := [none, none] }
noncomputable def laws_eqRun_R (r : Bool) : V := .b r
noncomputable def laws_eqRun_O (r : Bool) : List (Option V) := [none, none]
noncomputable def laws_eqRun_t (i : Nat) (fr : Bool) (r : Bool) : Nat × Tell := (i, { a := .call [.val ck73 [], .val ck73 []] fr (laws_eqRun_R r) (laws_eqRun_O r) })
noncomputable def laws_eqRun (a : TRun) (b : TRun) : Option Bool :=
  ((laws_eqReadS a.Reads b.Reads).bind fun eqReadS =>
 (bif (!eqReadS) then
 some false
 else
 ((laws_eqPutS a.Puts b.Puts).bind fun eqPutS =>
 (bif (!eqPutS) then
 some false
 else
 (bif (a.Val != b.Val) then
 some false
 else
 (bif (a.Code != b.Code) then
 some false
 else
 some true))))))
theorem laws_eqRun_ok {a : TRun} {b : TRun} (r : Bool) (h : laws_eqRun a b = some r) : ACalls cx.P 157 [.agg (eRun a), .agg (eRun b)] (laws_eqRun_R r) (laws_eqRun_O r) :=
  ACalls.of (cx := cx) (X := laws_eqRun_X) (c := laws_eqRun_c) Tryz.func157 (by kernel_rfl) (by kernel_rfl) (by kernel_rfl) (P0 <|
 rg2 <| cb laws_eqReadS_t laws_eqReadS_ok 4 false h fun eqReadS h =>
 cdD 5 h (fun h =>
 rg <| fe Tryz.func157 h) (fun h =>
 rg <| cb laws_eqPutS_t laws_eqPutS_ok 4 false h fun eqPutS h =>
 cdD 5 h (fun h =>
 rg <| fe Tryz.func157 h) (fun h =>
 rg <| cdD 4 h (fun h =>
 rg <| fe Tryz.func157 h) (fun h =>
 rg <| cdD 4 h (fun h =>
 rg <| fe Tryz.func157 h) (fun h =>
 rg <| fe Tryz.func157 h)))))

/-! ### laws_eqEntry -/
noncomputable def laws_eqEntry_c : Code := bodyOf Tryz.f124
noncomputable def laws_eqEntry_X : Sig := { f := 124, fn := Tryz.f124, rms := [.val [] []], oms := [none, none] }
noncomputable def laws_eqEntry_R (r : Bool) : V := .b r
noncomputable def laws_eqEntry_O (r : Bool) : List (Option V) := [none, none]
noncomputable def laws_eqEntry_t (i : Nat) (fr : Bool) (r : Bool) : Nat × Tell := (i, { a := .call [.val ck75 [], .val ck75 []] fr (laws_eqEntry_R r) (laws_eqEntry_O r) })
noncomputable def laws_eqEntry (a : TEntry) (b : TEntry) : Option Bool :=
  (bif (!(a.None == b.None)) then
 some false
 else
 ((laws_eqReq a.Req b.Req).bind fun eqReq =>
 (bif (!eqReq) then
 some false
 else
 ((laws_eqRun a.Run b.Run).bind fun eqRun =>
 (bif (!eqRun) then
 some false
 else
 some true)))))
theorem laws_eqEntry_ok {a : TEntry} {b : TEntry} (r : Bool) (h : laws_eqEntry a b = some r) : ACalls cx.P 124 [.agg (eEntry a), .agg (eEntry b)] (laws_eqEntry_R r) (laws_eqEntry_O r) :=
  ACalls.of (cx := cx) (X := laws_eqEntry_X) (c := laws_eqEntry_c) Tryz.func124 (by kernel_rfl) (by kernel_rfl) (by kernel_rfl) (P0 <|
 rg2 <| cdD 4 h (fun h =>
 rg <| fe Tryz.func124 h) (fun h =>
 rg <| cb laws_eqReq_t laws_eqReq_ok 4 false h fun eqReq h =>
 cdD 5 h (fun h =>
 rg <| fe Tryz.func124 h) (fun h =>
 rg <| cb laws_eqRun_t laws_eqRun_ok 4 false h fun eqRun h =>
 cdD 5 h (fun h =>
 rg <| fe Tryz.func124 h) (fun h =>
 rg <| fe Tryz.func124 h))))

/-! ### laws_eqVote -/
noncomputable def laws_eqVote_c : Code := bodyOf Tryz.f156
noncomputable def laws_eqVote_X : Sig := { f := 156, fn := Tryz.f156, rms := [.val [] []], oms := [none, none] }
noncomputable def laws_eqVote_R (r : Bool) : V := .b r
noncomputable def laws_eqVote_O (r : Bool) : List (Option V) := [none, none]
noncomputable def laws_eqVote_t (i : Nat) (fr : Bool) (r : Bool) : Nat × Tell := (i, { a := .call [.val ck188 [], .val ck188 []] fr (laws_eqVote_R r) (laws_eqVote_O r) })
noncomputable def laws_eqVote (a : TVote) (b : TVote) : Option Bool :=
  (bif (a.Bal != b.Bal) then
 some false
 else
 ((laws_eqEntry a.Entry b.Entry).bind fun eqEntry =>
 (bif (!eqEntry) then
 some false
 else
 some true)))
theorem laws_eqVote_ok {a : TVote} {b : TVote} (r : Bool) (h : laws_eqVote a b = some r) : ACalls cx.P 156 [.agg (eVote a), .agg (eVote b)] (laws_eqVote_R r) (laws_eqVote_O r) :=
  ACalls.of (cx := cx) (X := laws_eqVote_X) (c := laws_eqVote_c) Tryz.func156 (by kernel_rfl) (by kernel_rfl) (by kernel_rfl) (P0 <|
 rg2 <| cdD 4 h (fun h =>
 rg <| fe Tryz.func156 h) (fun h =>
 rg <| cb laws_eqEntry_t laws_eqEntry_ok 4 false h fun eqEntry h =>
 cdD 5 h (fun h =>
 rg <| fe Tryz.func156 h) (fun h =>
 rg <| fe Tryz.func156 h)))

/-! ### laws_eqVoteS -/
noncomputable def laws_eqVoteS_c : Code := bodyOf Tryz.f123
noncomputable def laws_eqVoteS_X : Sig := { f := 123, fn := Tryz.f123, rms := [.val [] []], oms := [none, none] }
noncomputable def laws_eqVoteS_R (r : Bool) : V := .b r
noncomputable def laws_eqVoteS_O (r : Bool) : List (Option V) := [none, none]
noncomputable def laws_eqVoteS_t (i : Nat) (fr : Bool) (r : Bool) : Nat × Tell := (i, { a := .call [.val [some 8] [], .val [some 8] []] fr (laws_eqVoteS_R r) (laws_eqVoteS_O r) })
noncomputable def laws_eqVoteS_k1 : List Item := posI 2000 4 [false, false] [.code laws_eqVoteS_c]
noncomputable def laws_eqVoteS_S1 : St := ⟨(bs 27 []), [some []]⟩
noncomputable def laws_eqVoteS_k2 : Option Bool :=
  some true
theorem laws_eqVoteS_k2_ok (r : Bool) (h : laws_eqVoteS_k2 = some r) : Fin cx laws_eqVoteS_X (laws_eqVoteS_R r) (laws_eqVoteS_O r) laws_eqVoteS_k1 (laws_eqVoteS_S1) :=
  P0 <|
 rg <| fe Tryz.func123 h
noncomputable def laws_eqVoteS_k3 : List Item := posI 2000 3 [false] [.code laws_eqVoteS_c]
noncomputable def laws_eqVoteS_S2 (a : List TVote) (b : List TVote) (i : Int) : St := ⟨(vsl 8 eVote a :: (vsl 8 eVote b :: (bs 3 (vi i :: (bs 21 []))))), [some []]⟩
noncomputable def laws_eqVoteS_b1 (a : List TVote) (b : List TVote) (i : Int) : Option (Stp Bool Int Unit) :=
  (bif decide (i < (a.length : Int)) then
 ((idx a i).bind fun vote =>
 ((idx b i).bind fun vote1 =>
 ((laws_eqVote vote vote1).bind fun eqVote =>
 (bif (!eqVote) then
 some (Stp.ret false)
 else
 some (Stp.nxt (w64 (i + 1)))))))
 else
 some (Stp.brk ()))
theorem laws_eqVoteS_b1_ok (a : List TVote) (b : List TVote) (res : V) (outs : List (Option V)) (x1 : Exc Bool Unit) (hb1 : HB cx laws_eqVoteS_X res outs x1 laws_eqVoteS_k1 (fun s => laws_eqVoteS_S1)) (hr1 : HR res outs x1 laws_eqVoteS_R laws_eqVoteS_O) (st1 : Stp Bool Int Unit) (hc1 : Cont x1 (fun s : Int => Fin cx laws_eqVoteS_X res outs laws_eqVoteS_k3 (laws_eqVoteS_S2 a b s)) st1) (i : Int) (h : laws_eqVoteS_b1 a b i = some st1) : Fin cx laws_eqVoteS_X res outs laws_eqVoteS_k3 (laws_eqVoteS_S2 a b i) :=
  P0 <|
 rg <| cdD 3 h (fun h =>
 rg <| ixS eVote 2 h fun vote hvote h =>
 ixS eVote 6 h fun vote1 hvote1 h =>
 cb laws_eqVote_t laws_eqVote_ok 8 false h fun eqVote h =>
 cdD 9 h (fun h =>
 rg <| (retD h hc1 fun e => fn0 Tryz.func123 (hr1 _ e))) (fun h =>
 rg <| (nxtD h hc1 fun hI => sg [] [0, 1, 5] [] hI))) (fun h =>
 (brkD h hc1 fun e => sg [] [] [] (hb1 _ e)))
noncomputable def laws_eqVoteS (a : List TVote) (b : List TVote) : Option Bool :=
  (bif ((a.length : Int) != (b.length : Int)) then
 some false
 else
 ((loop (fun s : Int => laws_eqVoteS_b1 a b s) 0).bind fun x => x.go (fun r => some r) fun s => laws_eqVoteS_k2))
theorem laws_eqVoteS_ok {a : List TVote} {b : List TVote} (r : Bool) (h : laws_eqVoteS a b = some r) : ACalls cx.P 123 [vsl 8 eVote a, vsl 8 eVote b] (laws_eqVoteS_R r) (laws_eqVoteS_O r) :=
  ACalls.of (cx := cx) (X := laws_eqVoteS_X) (c := laws_eqVoteS_c) Tryz.func123 (by kernel_rfl) (by kernel_rfl) (by kernel_rfl) (P0 <|
 rg2 <| cdD 4 h (fun h =>
 rg <| fe Tryz.func123 h) (fun h =>
 rg <| loopJ h fun x hl hr hb => sg [] [0, 1, 5] [] (loopD (I := fun s : Int => Fin cx laws_eqVoteS_X (laws_eqVoteS_R r) (laws_eqVoteS_O r) laws_eqVoteS_k3 (laws_eqVoteS_S2 a b s)) hl fun s st h hc => laws_eqVoteS_b1_ok a b _ _ x (fun s e => laws_eqVoteS_k2_ok r (hb s e)) (fun v e => ⟨congrArg laws_eqVoteS_R (Option.some.inj (hr v e)).symm, congrArg laws_eqVoteS_O (Option.some.inj (hr v e)).symm⟩) st hc s h)))

/-! ### laws_eqAcc -/
noncomputable def laws_eqAcc_c : Code := bodyOf Tryz.f120
noncomputable def laws_eqAcc_X : Sig := { f := 120, fn := Tryz.f120, rms := [.val [] []], oms := [none, none] }
noncomputable def laws_eqAcc_R (r : Bool) : V := .b r
noncomputable def laws_eqAcc_O (r : Bool) : List (Option V) := [none, none]
noncomputable def laws_eqAcc_t (i : Nat) (fr : Bool) (r : Bool) : Nat × Tell := (i, { a := .call [.val [none, some 8] [], .val [none, some 8] []] fr (laws_eqAcc_R r) (laws_eqAcc_O r) })
noncomputable def laws_eqAcc (a : TAcc) (b : TAcc) : Option Bool :=
  (bif (a.Promised != b.Promised) then
 some false
 else
 ((laws_eqVoteS a.Votes b.Votes).bind fun eqVoteS =>
 (bif (!eqVoteS) then
 some false
 else
 some true)))
theorem laws_eqAcc_ok {a : TAcc} {b : TAcc} (r : Bool) (h : laws_eqAcc a b = some r) : ACalls cx.P 120 [.agg (eAcc a), .agg (eAcc b)] (laws_eqAcc_R r) (laws_eqAcc_O r) :=
  ACalls.of (cx := cx) (X := laws_eqAcc_X) (c := laws_eqAcc_c) Tryz.func120 (by kernel_rfl) (by kernel_rfl) (by kernel_rfl) (P0 <|
 rg2 <| cdD 4 h (fun h =>
 rg <| fe Tryz.func120 h) (fun h =>
 rg <| cb laws_eqVoteS_t laws_eqVoteS_ok 4 false h fun eqVoteS h =>
 cdD 5 h (fun h =>
 rg <| fe Tryz.func120 h) (fun h =>
 rg <| fe Tryz.func120 h)))

/-! ### laws_eqEntryS -/
noncomputable def laws_eqEntryS_c : Code := bodyOf Tryz.f121
noncomputable def laws_eqEntryS_X : Sig := { f := 121, fn := Tryz.f121, rms := [.val [] []], oms := [none, none] }
noncomputable def laws_eqEntryS_R (r : Bool) : V := .b r
noncomputable def laws_eqEntryS_O (r : Bool) : List (Option V) := [none, none]
noncomputable def laws_eqEntryS_t (i : Nat) (fr : Bool) (r : Bool) : Nat × Tell := (i, { a := .call [.val [some 7] [], .val [some 7] []] fr (laws_eqEntryS_R r) (laws_eqEntryS_O r) })
noncomputable def laws_eqEntryS_k1 : List Item := posI 2000 4 [false, false] [.code laws_eqEntryS_c]
noncomputable def laws_eqEntryS_S1 : St := ⟨(bs 27 []), [some []]⟩
noncomputable def laws_eqEntryS_k2 : Option Bool :=
  some true
theorem laws_eqEntryS_k2_ok (r : Bool) (h : laws_eqEntryS_k2 = some r) : Fin cx laws_eqEntryS_X (laws_eqEntryS_R r) (laws_eqEntryS_O r) laws_eqEntryS_k1 (laws_eqEntryS_S1) :=
  P0 <|
 rg <| fe Tryz.func121 h
noncomputable def laws_eqEntryS_k3 : List Item := posI 2000 3 [false] [.code laws_eqEntryS_c]
noncomputable def laws_eqEntryS_S2 (a : List TEntry) (b : List TEntry) (i : Int) : St := ⟨(vsl 7 eEntry a :: (vsl 7 eEntry b :: (bs 3 (vi i :: (bs 21 []))))), [some []]⟩
noncomputable def laws_eqEntryS_b1 (a : List TEntry) (b : List TEntry) (i : Int) : Option (Stp Bool Int Unit) :=
  (bif decide (i < (a.length : Int)) then
 ((idx a i).bind fun entry =>
 ((idx b i).bind fun entry1 =>
 ((laws_eqEntry entry entry1).bind fun eqEntry =>
 (bif (!eqEntry) then
 some (Stp.ret false)
 else
 some (Stp.nxt (w64 (i + 1)))))))
 else
 some (Stp.brk ()))
theorem laws_eqEntryS_b1_ok (a : List TEntry) (b : List TEntry) (res : V) (outs : List (Option V)) (x1 : Exc Bool Unit) (hb1 : HB cx laws_eqEntryS_X res outs x1 laws_eqEntryS_k1 (fun s => laws_eqEntryS_S1)) (hr1 : HR res outs x1 laws_eqEntryS_R laws_eqEntryS_O) (st1 : Stp Bool Int Unit) (hc1 : Cont x1 (fun s : Int => Fin cx laws_eqEntryS_X res outs laws_eqEntryS_k3 (laws_eqEntryS_S2 a b s)) st1) (i : Int) (h : laws_eqEntryS_b1 a b i = some st1) : Fin cx laws_eqEntryS_X res outs laws_eqEntryS_k3 (laws_eqEntryS_S2 a b i) :=
  P0 <|
 rg <| cdD 3 h (fun h =>
 rg <| ixS eEntry 2 h fun entry hentry h =>
 ixS eEntry 6 h fun entry1 hentry1 h =>
 cb laws_eqEntry_t laws_eqEntry_ok 8 false h fun eqEntry h =>
 cdD 9 h (fun h =>
 rg <| (retD h hc1 fun e => fn0 Tryz.func121 (hr1 _ e))) (fun h =>
 rg <| (nxtD h hc1 fun hI => sg [] [0, 1, 5] [] hI))) (fun h =>
 (brkD h hc1 fun e => sg [] [] [] (hb1 _ e)))
noncomputable def laws_eqEntryS (a : List TEntry) (b : List TEntry) : Option Bool :=
  (bif ((a.length : Int) != (b.length : Int)) then
 some false
 else
 ((loop (fun s : Int => laws_eqEntryS_b1 a b s) 0).bind fun x => x.go (fun r => some r) fun s => laws_eqEntryS_k2))
theorem laws_eqEntryS_ok {a : List TEntry} {b : List TEntry} (r : Bool) (h : laws_eqEntryS a b = some r) : ACalls cx.P 121 [vsl 7 eEntry a, vsl 7 eEntry b] (laws_eqEntryS_R r) (laws_eqEntryS_O r) :=
  ACalls.of (cx := cx) (X := laws_eqEntryS_X) (c := laws_eqEntryS_c) Tryz.func121 (by kernel_rfl) (by kernel_rfl) (by kernel_rfl) (P0 <|
 rg2 <| cdD 4 h (fun h =>
 rg <| fe Tryz.func121 h) (fun h =>
 rg <| loopJ h fun x hl hr hb => sg [] [0, 1, 5] [] (loopD (I := fun s : Int => Fin cx laws_eqEntryS_X (laws_eqEntryS_R r) (laws_eqEntryS_O r) laws_eqEntryS_k3 (laws_eqEntryS_S2 a b s)) hl fun s st h hc => laws_eqEntryS_b1_ok a b _ _ x (fun s e => laws_eqEntryS_k2_ok r (hb s e)) (fun v e => ⟨congrArg laws_eqEntryS_R (Option.some.inj (hr v e)).symm, congrArg laws_eqEntryS_O (Option.some.inj (hr v e)).symm⟩) st hc s h)))

/-! ### laws_eqBoolS -/
noncomputable def laws_eqBoolS_c : Code := bodyOf Tryz.f122
noncomputable def laws_eqBoolS_X : Sig := { f := 122, fn := Tryz.f122, rms := [.val [] []], oms := [none, none] }
noncomputable def laws_eqBoolS_R (r : Bool) : V := .b r
noncomputable def laws_eqBoolS_O (r : Bool) : List (Option V) := [none, none]
noncomputable def laws_eqBoolS_t (i : Nat) (fr : Bool) (r : Bool) : Nat × Tell := (i, { a := .call [.val [some 1] [], .val [some 1] []] fr (laws_eqBoolS_R r) (laws_eqBoolS_O r) })
noncomputable def laws_eqBoolS_k1 : List Item := posI 2000 4 [false, false] [.code laws_eqBoolS_c]
noncomputable def laws_eqBoolS_S1 : St := ⟨(bs 26 []), [some []]⟩
noncomputable def laws_eqBoolS_k2 : Option Bool :=
  some true
theorem laws_eqBoolS_k2_ok (r : Bool) (h : laws_eqBoolS_k2 = some r) : Fin cx laws_eqBoolS_X (laws_eqBoolS_R r) (laws_eqBoolS_O r) laws_eqBoolS_k1 (laws_eqBoolS_S1) :=
  P0 <|
 rg <| fe Tryz.func122 h
noncomputable def laws_eqBoolS_k3 : List Item := posI 2000 3 [false] [.code laws_eqBoolS_c]
noncomputable def laws_eqBoolS_S2 (a : List Bool) (b : List Bool) (i : Int) : St := ⟨(vsl 1 eB a :: (vsl 1 eB b :: (bs 3 (vi i :: (bs 20 []))))), [some []]⟩
noncomputable def laws_eqBoolS_b1 (a : List Bool) (b : List Bool) (i : Int) : Option (Stp Bool Int Unit) :=
  (bif decide (i < (a.length : Int)) then
 ((idx a i).bind fun y =>
 ((idx b i).bind fun y1 =>
 (bif (!(y == y1)) then
 some (Stp.ret false)
 else
 some (Stp.nxt (w64 (i + 1))))))
 else
 some (Stp.brk ()))
theorem laws_eqBoolS_b1_ok (a : List Bool) (b : List Bool) (res : V) (outs : List (Option V)) (x1 : Exc Bool Unit) (hb1 : HB cx laws_eqBoolS_X res outs x1 laws_eqBoolS_k1 (fun s => laws_eqBoolS_S1)) (hr1 : HR res outs x1 laws_eqBoolS_R laws_eqBoolS_O) (st1 : Stp Bool Int Unit) (hc1 : Cont x1 (fun s : Int => Fin cx laws_eqBoolS_X res outs laws_eqBoolS_k3 (laws_eqBoolS_S2 a b s)) st1) (i : Int) (h : laws_eqBoolS_b1 a b i = some st1) : Fin cx laws_eqBoolS_X res outs laws_eqBoolS_k3 (laws_eqBoolS_S2 a b i) :=
  P0 <|
 rg <| cdD 3 h (fun h =>
 rg <| ixS eB 2 h fun y hy h =>
 ixS eB 6 h fun y1 hy1 h =>
 cdD 8 h (fun h =>
 rg <| (retD h hc1 fun e => fn0 Tryz.func122 (hr1 _ e))) (fun h =>
 rg <| (nxtD h hc1 fun hI => sg [] [0, 1, 5] [] hI))) (fun h =>
 (brkD h hc1 fun e => sg [] [] [] (hb1 _ e)))
noncomputable def laws_eqBoolS (a : List Bool) (b : List Bool) : Option Bool :=
  (bif ((a.length : Int) != (b.length : Int)) then
 some false
 else
 ((loop (fun s : Int => laws_eqBoolS_b1 a b s) 0).bind fun x => x.go (fun r => some r) fun s => laws_eqBoolS_k2))
theorem laws_eqBoolS_ok {a : List Bool} {b : List Bool} (r : Bool) (h : laws_eqBoolS a b = some r) : ACalls cx.P 122 [vsl 1 eB a, vsl 1 eB b] (laws_eqBoolS_R r) (laws_eqBoolS_O r) :=
  ACalls.of (cx := cx) (X := laws_eqBoolS_X) (c := laws_eqBoolS_c) Tryz.func122 (by kernel_rfl) (by kernel_rfl) (by kernel_rfl) (P0 <|
 rg2 <| cdD 4 h (fun h =>
 rg <| fe Tryz.func122 h) (fun h =>
 rg <| loopJ h fun x hl hr hb => sg [] [0, 1, 5] [] (loopD (I := fun s : Int => Fin cx laws_eqBoolS_X (laws_eqBoolS_R r) (laws_eqBoolS_O r) laws_eqBoolS_k3 (laws_eqBoolS_S2 a b s)) hl fun s st h hc => laws_eqBoolS_b1_ok a b _ _ x (fun s e => laws_eqBoolS_k2_ok r (hb s e)) (fun v e => ⟨congrArg laws_eqBoolS_R (Option.some.inj (hr v e)).symm, congrArg laws_eqBoolS_O (Option.some.inj (hr v e)).symm⟩) st hc s h)))

/-! ### laws_eqIns -/
noncomputable def laws_eqIns_c : Code := bodyOf Tryz.f158
noncomputable def laws_eqIns_X : Sig := { f := 158, fn := Tryz.f158, rms := [.val [] []], oms := [none, none] }
noncomputable def laws_eqIns_R (r : Bool) : V := .b r
noncomputable def laws_eqIns_O (r : Bool) : List (Option V) := [none, none]
noncomputable def laws_eqIns_t (i : Nat) (fr : Bool) (r : Bool) : Nat × Tell := (i, { a := .call [.val [] [], .val [] []] fr (laws_eqIns_R r) (laws_eqIns_O r) })
noncomputable def laws_eqIns (a : TIns) (b : TIns) : Option Bool :=
  (bif (a.Kind != b.Kind) then
 some false
 else
 (bif (a.A != b.A) then
 some false
 else
 (bif (a.B != b.B) then
 some false
 else
 (bif (a.N != b.N) then
 some false
 else
 some true))))
theorem laws_eqIns_ok {a : TIns} {b : TIns} (r : Bool) (h : laws_eqIns a b = some r) : ACalls cx.P 158 [.agg (eIns a), .agg (eIns b)] (laws_eqIns_R r) (laws_eqIns_O r) :=
  ACalls.of (cx := cx) (X := laws_eqIns_X) (c := laws_eqIns_c) Tryz.func158 (by kernel_rfl) (by kernel_rfl) (by kernel_rfl) (P0 <|
 rg2 <| cdD 4 h (fun h =>
 rg <| fe Tryz.func158 h) (fun h =>
 rg <| cdD 4 h (fun h =>
 rg <| fe Tryz.func158 h) (fun h =>
 rg <| cdD 4 h (fun h =>
 rg <| fe Tryz.func158 h) (fun h =>
 rg <| cdD 4 h (fun h =>
 rg <| fe Tryz.func158 h) (fun h =>
 rg <| fe Tryz.func158 h)))))

/-! ### laws_eqInsS -/
noncomputable def laws_eqInsS_c : Code := bodyOf Tryz.f125
noncomputable def laws_eqInsS_X : Sig := { f := 125, fn := Tryz.f125, rms := [.val [] []], oms := [none, none] }
noncomputable def laws_eqInsS_R (r : Bool) : V := .b r
noncomputable def laws_eqInsS_O (r : Bool) : List (Option V) := [none, none]
noncomputable def laws_eqInsS_t (i : Nat) (fr : Bool) (r : Bool) : Nat × Tell := (i, { a := .call [.val [some 4] [], .val [some 4] []] fr (laws_eqInsS_R r) (laws_eqInsS_O r) })
noncomputable def laws_eqInsS_k1 : List Item := posI 2000 4 [false, false] [.code laws_eqInsS_c]
noncomputable def laws_eqInsS_S1 : St := ⟨(bs 27 []), [some []]⟩
noncomputable def laws_eqInsS_k2 : Option Bool :=
  some true
theorem laws_eqInsS_k2_ok (r : Bool) (h : laws_eqInsS_k2 = some r) : Fin cx laws_eqInsS_X (laws_eqInsS_R r) (laws_eqInsS_O r) laws_eqInsS_k1 (laws_eqInsS_S1) :=
  P0 <|
 rg <| fe Tryz.func125 h
noncomputable def laws_eqInsS_k3 : List Item := posI 2000 3 [false] [.code laws_eqInsS_c]
noncomputable def laws_eqInsS_S2 (a : List TIns) (b : List TIns) (i : Int) : St := ⟨(vsl 4 eIns a :: (vsl 4 eIns b :: (bs 3 (vi i :: (bs 21 []))))), [some []]⟩
noncomputable def laws_eqInsS_b1 (a : List TIns) (b : List TIns) (i : Int) : Option (Stp Bool Int Unit) :=
  (bif decide (i < (a.length : Int)) then
 ((idx a i).bind fun ins =>
 ((idx b i).bind fun ins1 =>
 ((laws_eqIns ins ins1).bind fun eqIns =>
 (bif (!eqIns) then
 some (Stp.ret false)
 else
 some (Stp.nxt (w64 (i + 1)))))))
 else
 some (Stp.brk ()))
theorem laws_eqInsS_b1_ok (a : List TIns) (b : List TIns) (res : V) (outs : List (Option V)) (x1 : Exc Bool Unit) (hb1 : HB cx laws_eqInsS_X res outs x1 laws_eqInsS_k1 (fun s => laws_eqInsS_S1)) (hr1 : HR res outs x1 laws_eqInsS_R laws_eqInsS_O) (st1 : Stp Bool Int Unit) (hc1 : Cont x1 (fun s : Int => Fin cx laws_eqInsS_X res outs laws_eqInsS_k3 (laws_eqInsS_S2 a b s)) st1) (i : Int) (h : laws_eqInsS_b1 a b i = some st1) : Fin cx laws_eqInsS_X res outs laws_eqInsS_k3 (laws_eqInsS_S2 a b i) :=
  P0 <|
 rg <| cdD 3 h (fun h =>
 rg <| ixS eIns 2 h fun ins hins h =>
 ixS eIns 6 h fun ins1 hins1 h =>
 cb laws_eqIns_t laws_eqIns_ok 8 false h fun eqIns h =>
 cdD 9 h (fun h =>
 rg <| (retD h hc1 fun e => fn0 Tryz.func125 (hr1 _ e))) (fun h =>
 rg <| (nxtD h hc1 fun hI => sg [] [0, 1, 5] [] hI))) (fun h =>
 (brkD h hc1 fun e => sg [] [] [] (hb1 _ e)))
noncomputable def laws_eqInsS (a : List TIns) (b : List TIns) : Option Bool :=
  (bif ((a.length : Int) != (b.length : Int)) then
 some false
 else
 ((loop (fun s : Int => laws_eqInsS_b1 a b s) 0).bind fun x => x.go (fun r => some r) fun s => laws_eqInsS_k2))
theorem laws_eqInsS_ok {a : List TIns} {b : List TIns} (r : Bool) (h : laws_eqInsS a b = some r) : ACalls cx.P 125 [vsl 4 eIns a, vsl 4 eIns b] (laws_eqInsS_R r) (laws_eqInsS_O r) :=
  ACalls.of (cx := cx) (X := laws_eqInsS_X) (c := laws_eqInsS_c) Tryz.func125 (by kernel_rfl) (by kernel_rfl) (by kernel_rfl) (P0 <|
 rg2 <| cdD 4 h (fun h =>
 rg <| fe Tryz.func125 h) (fun h =>
 rg <| loopJ h fun x hl hr hb => sg [] [0, 1, 5] [] (loopD (I := fun s : Int => Fin cx laws_eqInsS_X (laws_eqInsS_R r) (laws_eqInsS_O r) laws_eqInsS_k3 (laws_eqInsS_S2 a b s)) hl fun s st h hc => laws_eqInsS_b1_ok a b _ _ x (fun s e => laws_eqInsS_k2_ok r (hb s e)) (fun v e => ⟨congrArg laws_eqInsS_R (Option.some.inj (hr v e)).symm, congrArg laws_eqInsS_O (Option.some.inj (hr v e)).symm⟩) st hc s h)))

/-! ### laws_eqNode -/
noncomputable def laws_eqNode_c : Code := bodyOf Tryz.f75
noncomputable def laws_eqNode_X : Sig := { f := 75, fn := Tryz.f75, rms := [.val [] []], oms := [none, none] }
noncomputable def laws_eqNode_R (r : Bool) : V := .b r
noncomputable def laws_eqNode_O (r : Bool) : List (Option V) := [none, none]
noncomputable def laws_eqNode_t (i : Nat) (fr : Bool) (r : Bool) : Nat × Tell := (i, { a := .call [.val ck106 [], .val ck106 []] fr (laws_eqNode_R r) (laws_eqNode_O r) })
noncomputable def laws_eqNode (a : TNode) (b : TNode) : Option Bool :=
  (bif (a.Id != b.Id) then
 some false
 else
 ((laws_eqAcc a.Acc b.Acc).bind fun eqAcc =>
 (bif (!eqAcc) then
 some false
 else
 ((laws_eqEntryS a.Known b.Known).bind fun eqEntryS =>
 (bif (!eqEntryS) then
 some false
 else
 (bif (a.Seq != b.Seq) then
 some false
 else
 (bif (a.Phase != b.Phase) then
 some false
 else
 (bif (a.Bal != b.Bal) then
 some false
 else
 ((laws_eqBoolS a.From b.From).bind fun eqBoolS =>
 (bif (!eqBoolS) then
 some false
 else
 ((laws_eqVoteS a.Best b.Best).bind fun eqVoteS =>
 (bif (!eqVoteS) then
 some false
 else
 ((laws_eqEntry a.Cur b.Cur).bind fun eqEntry =>
 (bif (!eqEntry) then
 some false
 else
 ((laws_eqBoolS a.Votes b.Votes).bind fun eqBoolS1 =>
 (bif (!eqBoolS1) then
 some false
 else
 (bif (!(a.Busy == b.Busy)) then
 some false
 else
 ((laws_eqInsS a.Prog b.Prog).bind fun eqInsS =>
 (bif (!eqInsS) then
 some false
 else
 ((laws_eqEntry a.Want b.Want).bind fun eqEntry1 =>
 (bif (!eqEntry1) then
 some false
 else
 ((laws_eqEntryS a.Queue b.Queue).bind fun eqEntryS1 =>
 (bif (!eqEntryS1) then
 some false
 else
 some true)))))))))))))))))))))))
theorem laws_eqNode_ok {a : TNode} {b : TNode} (r : Bool) (h : laws_eqNode a b = some r) : ACalls cx.P 75 [.agg (eNode a), .agg (eNode b)] (laws_eqNode_R r) (laws_eqNode_O r) :=
  ACalls.of (cx := cx) (X := laws_eqNode_X) (c := laws_eqNode_c) Tryz.func75 (by kernel_rfl) (by kernel_rfl) (by kernel_rfl) (P0 <|
 rg2 <| cdD 4 h (fun h =>
 rg <| fe Tryz.func75 h) (fun h =>
 rg <| cb laws_eqAcc_t laws_eqAcc_ok 4 false h fun eqAcc h =>
 cdD 5 h (fun h =>
 rg <| fe Tryz.func75 h) (fun h =>
 rg <| cb laws_eqEntryS_t laws_eqEntryS_ok 4 false h fun eqEntryS h =>
 cdD 5 h (fun h =>
 rg <| fe Tryz.func75 h) (fun h =>
 rg <| cdD 4 h (fun h =>
 rg <| fe Tryz.func75 h) (fun h =>
 rg <| cdD 4 h (fun h =>
 rg <| fe Tryz.func75 h) (fun h =>
 rg <| cdD 4 h (fun h =>
 rg <| fe Tryz.func75 h) (fun h =>
 rg <| cb laws_eqBoolS_t laws_eqBoolS_ok 4 false h fun eqBoolS h =>
 cdD 5 h (fun h =>
 rg <| fe Tryz.func75 h) (fun h =>
 rg <| cb laws_eqVoteS_t laws_eqVoteS_ok 4 false h fun eqVoteS h =>
 cdD 5 h (fun h =>
 rg <| fe Tryz.func75 h) (fun h =>
 rg <| cb laws_eqEntry_t laws_eqEntry_ok 4 false h fun eqEntry h =>
 cdD 5 h (fun h =>
 rg <| fe Tryz.func75 h) (fun h =>
 rg <| cb laws_eqBoolS_t laws_eqBoolS_ok 4 false h fun eqBoolS1 h =>
 cdD 5 h (fun h =>
 rg <| fe Tryz.func75 h) (fun h =>
 rg <| cdD 4 h (fun h =>
 rg <| fe Tryz.func75 h) (fun h =>
 rg <| cb laws_eqInsS_t laws_eqInsS_ok 4 false h fun eqInsS h =>
 cdD 5 h (fun h =>
 rg <| fe Tryz.func75 h) (fun h =>
 rg <| cb laws_eqEntry_t laws_eqEntry_ok 4 false h fun eqEntry1 h =>
 cdD 5 h (fun h =>
 rg <| fe Tryz.func75 h) (fun h =>
 rg <| cb laws_eqEntryS_t laws_eqEntryS_ok 4 false h fun eqEntryS1 h =>
 cdD 5 h (fun h =>
 rg <| fe Tryz.func75 h) (fun h =>
 rg <| fe Tryz.func75 h)))))))))))))))

/-! ### laws_eqNodeS -/
noncomputable def laws_eqNodeS_c : Code := bodyOf Tryz.f35
noncomputable def laws_eqNodeS_X : Sig := { f := 35, fn := Tryz.f35, rms := [.val [] []], oms := [none, none] }
noncomputable def laws_eqNodeS_R (r : Bool) : V := .b r
noncomputable def laws_eqNodeS_O (r : Bool) : List (Option V) := [none, none]
noncomputable def laws_eqNodeS_t (i : Nat) (fr : Bool) (r : Bool) : Nat × Tell := (i, { a := .call [.val [some 27] [], .val [some 27] []] fr (laws_eqNodeS_R r) (laws_eqNodeS_O r) })
noncomputable def laws_eqNodeS_k1 : List Item := posI 2000 4 [false, false] [.code laws_eqNodeS_c]
noncomputable def laws_eqNodeS_S1 : St := ⟨(bs 27 []), [some []]⟩
noncomputable def laws_eqNodeS_k2 : Option Bool :=
  some true
theorem laws_eqNodeS_k2_ok (r : Bool) (h : laws_eqNodeS_k2 = some r) : Fin cx laws_eqNodeS_X (laws_eqNodeS_R r) (laws_eqNodeS_O r) laws_eqNodeS_k1 (laws_eqNodeS_S1) :=
  P0 <|
 rg <| fe Tryz.func35 h
noncomputable def laws_eqNodeS_k3 : List Item := posI 2000 3 [false] [.code laws_eqNodeS_c]
noncomputable def laws_eqNodeS_S2 (a : List TNode) (b : List TNode) (i : Int) : St := ⟨(vsl 27 eNode a :: (vsl 27 eNode b :: (bs 3 (vi i :: (bs 21 []))))), [some []]⟩
noncomputable def laws_eqNodeS_b1 (a : List TNode) (b : List TNode) (i : Int) : Option (Stp Bool Int Unit) :=
  (bif decide (i < (a.length : Int)) then
 ((idx a i).bind fun node =>
 ((idx b i).bind fun node1 =>
 ((laws_eqNode node node1).bind fun eqNode =>
 (bif (!eqNode) then
 some (Stp.ret false)
 else
 some (Stp.nxt (w64 (i + 1)))))))
 else
 some (Stp.brk ()))
theorem laws_eqNodeS_b1_ok (a : List TNode) (b : List TNode) (res : V) (outs : List (Option V)) (x1 : Exc Bool Unit) (hb1 : HB cx laws_eqNodeS_X res outs x1 laws_eqNodeS_k1 (fun s => laws_eqNodeS_S1)) (hr1 : HR res outs x1 laws_eqNodeS_R laws_eqNodeS_O) (st1 : Stp Bool Int Unit) (hc1 : Cont x1 (fun s : Int => Fin cx laws_eqNodeS_X res outs laws_eqNodeS_k3 (laws_eqNodeS_S2 a b s)) st1) (i : Int) (h : laws_eqNodeS_b1 a b i = some st1) : Fin cx laws_eqNodeS_X res outs laws_eqNodeS_k3 (laws_eqNodeS_S2 a b i) :=
  P0 <|
 rg <| cdD 3 h (fun h =>
 rg <| ixS eNode 2 h fun node hnode h =>
 ixS eNode 6 h fun node1 hnode1 h =>
 cb laws_eqNode_t laws_eqNode_ok 8 false h fun eqNode h =>
 cdD 9 h (fun h =>
 rg <| (retD h hc1 fun e => fn0 Tryz.func35 (hr1 _ e))) (fun h =>
 rg <| (nxtD h hc1 fun hI => sg [] [0, 1, 5] [] hI))) (fun h =>
 (brkD h hc1 fun e => sg [] [] [] (hb1 _ e)))
noncomputable def laws_eqNodeS (a : List TNode) (b : List TNode) : Option Bool :=
  (bif ((a.length : Int) != (b.length : Int)) then
 some false
 else
 ((loop (fun s : Int => laws_eqNodeS_b1 a b s) 0).bind fun x => x.go (fun r => some r) fun s => laws_eqNodeS_k2))
theorem laws_eqNodeS_ok {a : List TNode} {b : List TNode} (r : Bool) (h : laws_eqNodeS a b = some r) : ACalls cx.P 35 [vsl 27 eNode a, vsl 27 eNode b] (laws_eqNodeS_R r) (laws_eqNodeS_O r) :=
  ACalls.of (cx := cx) (X := laws_eqNodeS_X) (c := laws_eqNodeS_c) Tryz.func35 (by kernel_rfl) (by kernel_rfl) (by kernel_rfl) (P0 <|
 rg2 <| cdD 4 h (fun h =>
 rg <| fe Tryz.func35 h) (fun h =>
 rg <| loopJ h fun x hl hr hb => sg [] [0, 1, 5] [] (loopD (I := fun s : Int => Fin cx laws_eqNodeS_X (laws_eqNodeS_R r) (laws_eqNodeS_O r) laws_eqNodeS_k3 (laws_eqNodeS_S2 a b s)) hl fun s st h hc => laws_eqNodeS_b1_ok a b _ _ x (fun s e => laws_eqNodeS_k2_ok r (hb s e)) (fun v e => ⟨congrArg laws_eqNodeS_R (Option.some.inj (hr v e)).symm, congrArg laws_eqNodeS_O (Option.some.inj (hr v e)).symm⟩) st hc s h)))

/-! ### laws_eqMsg -/
noncomputable def laws_eqMsg_c : Code := bodyOf Tryz.f76
noncomputable def laws_eqMsg_X : Sig := { f := 76, fn := Tryz.f76, rms := [.val [] []], oms := [none, none] }
noncomputable def laws_eqMsg_R (r : Bool) : V := .b r
noncomputable def laws_eqMsg_O (r : Bool) : List (Option V) := [none, none]
noncomputable def laws_eqMsg_t (i : Nat) (fr : Bool) (r : Bool) : Nat × Tell := (i, { a := .call [.val ck110 [], .val ck110 []] fr (laws_eqMsg_R r) (laws_eqMsg_O r) })
noncomputable def laws_eqMsg (a : TMsg) (b : TMsg) : Option Bool :=
  (bif (a.Kind != b.Kind) then
 some false
 else
 (bif (a.From != b.From) then
 some false
 else
 (bif (a.To != b.To) then
 some false
 else
 (bif (a.Bal != b.Bal) then
 some false
 else
 (bif (a.Slot != b.Slot) then
 some false
 else
 ((laws_eqEntry a.Entry b.Entry).bind fun eqEntry =>
 (bif (!eqEntry) then
 some false
 else
 ((laws_eqVoteS a.Votes b.Votes).bind fun eqVoteS =>
 (bif (!eqVoteS) then
 some false
 else
 some true)))))))))
theorem laws_eqMsg_ok {a : TMsg} {b : TMsg} (r : Bool) (h : laws_eqMsg a b = some r) : ACalls cx.P 76 [.agg (eMsg a), .agg (eMsg b)] (laws_eqMsg_R r) (laws_eqMsg_O r) :=
  ACalls.of (cx := cx) (X := laws_eqMsg_X) (c := laws_eqMsg_c) Tryz.func76 (by kernel_rfl) (by kernel_rfl) (by kernel_rfl) (P0 <|
 rg2 <| cdD 4 h (fun h =>
 rg <| fe Tryz.func76 h) (fun h =>
 rg <| cdD 4 h (fun h =>
 rg <| fe Tryz.func76 h) (fun h =>
 rg <| cdD 4 h (fun h =>
 rg <| fe Tryz.func76 h) (fun h =>
 rg <| cdD 4 h (fun h =>
 rg <| fe Tryz.func76 h) (fun h =>
 rg <| cdD 4 h (fun h =>
 rg <| fe Tryz.func76 h) (fun h =>
 rg <| cb laws_eqEntry_t laws_eqEntry_ok 4 false h fun eqEntry h =>
 cdD 5 h (fun h =>
 rg <| fe Tryz.func76 h) (fun h =>
 rg <| cb laws_eqVoteS_t laws_eqVoteS_ok 4 false h fun eqVoteS h =>
 cdD 5 h (fun h =>
 rg <| fe Tryz.func76 h) (fun h =>
 rg <| fe Tryz.func76 h))))))))

/-! ### laws_eqMsgS -/
noncomputable def laws_eqMsgS_c : Code := bodyOf Tryz.f36
noncomputable def laws_eqMsgS_X : Sig := { f := 36, fn := Tryz.f36, rms := [.val [] []], oms := [none, none] }
noncomputable def laws_eqMsgS_R (r : Bool) : V := .b r
noncomputable def laws_eqMsgS_O (r : Bool) : List (Option V) := [none, none]
noncomputable def laws_eqMsgS_t (i : Nat) (fr : Bool) (r : Bool) : Nat × Tell := (i, { a := .call [.val [some 13] [], .val [some 13] []] fr (laws_eqMsgS_R r) (laws_eqMsgS_O r) })
noncomputable def laws_eqMsgS_k1 : List Item := posI 2000 4 [false, false] [.code laws_eqMsgS_c]
noncomputable def laws_eqMsgS_S1 : St := ⟨(bs 27 []), [some []]⟩
noncomputable def laws_eqMsgS_k2 : Option Bool :=
  some true
theorem laws_eqMsgS_k2_ok (r : Bool) (h : laws_eqMsgS_k2 = some r) : Fin cx laws_eqMsgS_X (laws_eqMsgS_R r) (laws_eqMsgS_O r) laws_eqMsgS_k1 (laws_eqMsgS_S1) :=
  P0 <|
 rg <| fe Tryz.func36 h
noncomputable def laws_eqMsgS_k3 : List Item := posI 2000 3 [false] [.code laws_eqMsgS_c]
noncomputable def laws_eqMsgS_S2 (a : List TMsg) (b : List TMsg) (i : Int) : St := ⟨(vsl 13 eMsg a :: (vsl 13 eMsg b :: (bs 3 (vi i :: (bs 21 []))))), [some []]⟩
noncomputable def laws_eqMsgS_b1 (a : List TMsg) (b : List TMsg) (i : Int) : Option (Stp Bool Int Unit) :=
  (bif decide (i < (a.length : Int)) then
 ((idx a i).bind fun msg =>
 ((idx b i).bind fun msg1 =>
 ((laws_eqMsg msg msg1).bind fun eqMsg =>
 (bif (!eqMsg) then
 some (Stp.ret false)
 else
 some (Stp.nxt (w64 (i + 1)))))))
 else
 some (Stp.brk ()))
theorem laws_eqMsgS_b1_ok (a : List TMsg) (b : List TMsg) (res : V) (outs : List (Option V)) (x1 : Exc Bool Unit) (hb1 : HB cx laws_eqMsgS_X res outs x1 laws_eqMsgS_k1 (fun s => laws_eqMsgS_S1)) (hr1 : HR res outs x1 laws_eqMsgS_R laws_eqMsgS_O) (st1 : Stp Bool Int Unit) (hc1 : Cont x1 (fun s : Int => Fin cx laws_eqMsgS_X res outs laws_eqMsgS_k3 (laws_eqMsgS_S2 a b s)) st1) (i : Int) (h : laws_eqMsgS_b1 a b i = some st1) : Fin cx laws_eqMsgS_X res outs laws_eqMsgS_k3 (laws_eqMsgS_S2 a b i) :=
  P0 <|
 rg <| cdD 3 h (fun h =>
 rg <| ixS eMsg 2 h fun msg hmsg h =>
 ixS eMsg 6 h fun msg1 hmsg1 h =>
 cb laws_eqMsg_t laws_eqMsg_ok 8 false h fun eqMsg h =>
 cdD 9 h (fun h =>
 rg <| (retD h hc1 fun e => fn0 Tryz.func36 (hr1 _ e))) (fun h =>
 rg <| (nxtD h hc1 fun hI => sg [] [0, 1, 5] [] hI))) (fun h =>
 (brkD h hc1 fun e => sg [] [] [] (hb1 _ e)))
noncomputable def laws_eqMsgS (a : List TMsg) (b : List TMsg) : Option Bool :=
  (bif ((a.length : Int) != (b.length : Int)) then
 some false
 else
 ((loop (fun s : Int => laws_eqMsgS_b1 a b s) 0).bind fun x => x.go (fun r => some r) fun s => laws_eqMsgS_k2))
theorem laws_eqMsgS_ok {a : List TMsg} {b : List TMsg} (r : Bool) (h : laws_eqMsgS a b = some r) : ACalls cx.P 36 [vsl 13 eMsg a, vsl 13 eMsg b] (laws_eqMsgS_R r) (laws_eqMsgS_O r) :=
  ACalls.of (cx := cx) (X := laws_eqMsgS_X) (c := laws_eqMsgS_c) Tryz.func36 (by kernel_rfl) (by kernel_rfl) (by kernel_rfl) (P0 <|
 rg2 <| cdD 4 h (fun h =>
 rg <| fe Tryz.func36 h) (fun h =>
 rg <| loopJ h fun x hl hr hb => sg [] [0, 1, 5] [] (loopD (I := fun s : Int => Fin cx laws_eqMsgS_X (laws_eqMsgS_R r) (laws_eqMsgS_O r) laws_eqMsgS_k3 (laws_eqMsgS_S2 a b s)) hl fun s st h hc => laws_eqMsgS_b1_ok a b _ _ x (fun s e => laws_eqMsgS_k2_ok r (hb s e)) (fun v e => ⟨congrArg laws_eqMsgS_R (Option.some.inj (hr v e)).symm, congrArg laws_eqMsgS_O (Option.some.inj (hr v e)).symm⟩) st hc s h)))

/-! ### laws_eqAsked -/
noncomputable def laws_eqAsked_c : Code := bodyOf Tryz.f77
noncomputable def laws_eqAsked_X : Sig := { f := 77, fn := Tryz.f77, rms := [.val [] []], oms := [none, none] }
noncomputable def laws_eqAsked_R (r : Bool) : V := .b r
noncomputable def laws_eqAsked_O (r : Bool) : List (Option V) := [none, none]
noncomputable def laws_eqAsked_t (i : Nat) (fr : Bool) (r : Bool) : Nat × Tell := (i, { a := .call [.val [none, none, some 4] [], .val [none, none, some 4] []] fr (laws_eqAsked_R r) (laws_eqAsked_O r) })
noncomputable def laws_eqAsked (a : TAsked) (b : TAsked) : Option Bool :=
  ((laws_eqReq a.Req b.Req).bind fun eqReq =>
 (bif (!eqReq) then
 some false
 else
 ((laws_eqInsS a.Prog b.Prog).bind fun eqInsS =>
 (bif (!eqInsS) then
 some false
 else
 some true))))
theorem laws_eqAsked_ok {a : TAsked} {b : TAsked} (r : Bool) (h : laws_eqAsked a b = some r) : ACalls cx.P 77 [.agg (eAsked a), .agg (eAsked b)] (laws_eqAsked_R r) (laws_eqAsked_O r) :=
  ACalls.of (cx := cx) (X := laws_eqAsked_X) (c := laws_eqAsked_c) Tryz.func77 (by kernel_rfl) (by kernel_rfl) (by kernel_rfl) (P0 <|
 rg2 <| cb laws_eqReq_t laws_eqReq_ok 4 false h fun eqReq h =>
 cdD 5 h (fun h =>
 rg <| fe Tryz.func77 h) (fun h =>
 rg <| cb laws_eqInsS_t laws_eqInsS_ok 4 false h fun eqInsS h =>
 cdD 5 h (fun h =>
 rg <| fe Tryz.func77 h) (fun h =>
 rg <| fe Tryz.func77 h)))

/-! ### laws_eqAskedS -/
noncomputable def laws_eqAskedS_c : Code := bodyOf Tryz.f37
noncomputable def laws_eqAskedS_X : Sig := { f := 37, fn := Tryz.f37, rms := [.val [] []], oms := [none, none] }
noncomputable def laws_eqAskedS_R (r : Bool) : V := .b r
noncomputable def laws_eqAskedS_O (r : Bool) : List (Option V) := [none, none]
noncomputable def laws_eqAskedS_t (i : Nat) (fr : Bool) (r : Bool) : Nat × Tell := (i, { a := .call [.val [some 3] [], .val [some 3] []] fr (laws_eqAskedS_R r) (laws_eqAskedS_O r) })
noncomputable def laws_eqAskedS_k1 : List Item := posI 2000 4 [false, false] [.code laws_eqAskedS_c]
noncomputable def laws_eqAskedS_S1 : St := ⟨(bs 27 []), [some []]⟩
noncomputable def laws_eqAskedS_k2 : Option Bool :=
  some true
theorem laws_eqAskedS_k2_ok (r : Bool) (h : laws_eqAskedS_k2 = some r) : Fin cx laws_eqAskedS_X (laws_eqAskedS_R r) (laws_eqAskedS_O r) laws_eqAskedS_k1 (laws_eqAskedS_S1) :=
  P0 <|
 rg <| fe Tryz.func37 h
noncomputable def laws_eqAskedS_k3 : List Item := posI 2000 3 [false] [.code laws_eqAskedS_c]
noncomputable def laws_eqAskedS_S2 (a : List TAsked) (b : List TAsked) (i : Int) : St := ⟨(vsl 3 eAsked a :: (vsl 3 eAsked b :: (bs 3 (vi i :: (bs 21 []))))), [some []]⟩
noncomputable def laws_eqAskedS_b1 (a : List TAsked) (b : List TAsked) (i : Int) : Option (Stp Bool Int Unit) :=
  (bif decide (i < (a.length : Int)) then
 ((idx a i).bind fun asked =>
 ((idx b i).bind fun asked1 =>
 ((laws_eqAsked asked asked1).bind fun eqAsked =>
 (bif (!eqAsked) then
 some (Stp.ret false)
 else
 some (Stp.nxt (w64 (i + 1)))))))
 else
 some (Stp.brk ()))
theorem laws_eqAskedS_b1_ok (a : List TAsked) (b : List TAsked) (res : V) (outs : List (Option V)) (x1 : Exc Bool Unit) (hb1 : HB cx laws_eqAskedS_X res outs x1 laws_eqAskedS_k1 (fun s => laws_eqAskedS_S1)) (hr1 : HR res outs x1 laws_eqAskedS_R laws_eqAskedS_O) (st1 : Stp Bool Int Unit) (hc1 : Cont x1 (fun s : Int => Fin cx laws_eqAskedS_X res outs laws_eqAskedS_k3 (laws_eqAskedS_S2 a b s)) st1) (i : Int) (h : laws_eqAskedS_b1 a b i = some st1) : Fin cx laws_eqAskedS_X res outs laws_eqAskedS_k3 (laws_eqAskedS_S2 a b i) :=
  P0 <|
 rg <| cdD 3 h (fun h =>
 rg <| ixS eAsked 2 h fun asked hasked h =>
 ixS eAsked 6 h fun asked1 hasked1 h =>
 cb laws_eqAsked_t laws_eqAsked_ok 8 false h fun eqAsked h =>
 cdD 9 h (fun h =>
 rg <| (retD h hc1 fun e => fn0 Tryz.func37 (hr1 _ e))) (fun h =>
 rg <| (nxtD h hc1 fun hI => sg [] [0, 1, 5] [] hI))) (fun h =>
 (brkD h hc1 fun e => sg [] [] [] (hb1 _ e)))
noncomputable def laws_eqAskedS (a : List TAsked) (b : List TAsked) : Option Bool :=
  (bif ((a.length : Int) != (b.length : Int)) then
 some false
 else
 ((loop (fun s : Int => laws_eqAskedS_b1 a b s) 0).bind fun x => x.go (fun r => some r) fun s => laws_eqAskedS_k2))
theorem laws_eqAskedS_ok {a : List TAsked} {b : List TAsked} (r : Bool) (h : laws_eqAskedS a b = some r) : ACalls cx.P 37 [vsl 3 eAsked a, vsl 3 eAsked b] (laws_eqAskedS_R r) (laws_eqAskedS_O r) :=
  ACalls.of (cx := cx) (X := laws_eqAskedS_X) (c := laws_eqAskedS_c) Tryz.func37 (by kernel_rfl) (by kernel_rfl) (by kernel_rfl) (P0 <|
 rg2 <| cdD 4 h (fun h =>
 rg <| fe Tryz.func37 h) (fun h =>
 rg <| loopJ h fun x hl hr hb => sg [] [0, 1, 5] [] (loopD (I := fun s : Int => Fin cx laws_eqAskedS_X (laws_eqAskedS_R r) (laws_eqAskedS_O r) laws_eqAskedS_k3 (laws_eqAskedS_S2 a b s)) hl fun s st h hc => laws_eqAskedS_b1_ok a b _ _ x (fun s e => laws_eqAskedS_k2_ok r (hb s e)) (fun v e => ⟨congrArg laws_eqAskedS_R (Option.some.inj (hr v e)).symm, congrArg laws_eqAskedS_O (Option.some.inj (hr v e)).symm⟩) st hc s h)))

/-! ### laws_eqTold -/
noncomputable def laws_eqTold_c : Code := bodyOf Tryz.f78
noncomputable def laws_eqTold_X : Sig := { f := 78, fn := Tryz.f78, rms := [.val [] []], oms := [none, none] }
noncomputable def laws_eqTold_R (r : Bool) : V := .b r
noncomputable def laws_eqTold_O (r : Bool) : List (Option V) := [none, none]
noncomputable def laws_eqTold_t (i : Nat) (fr : Bool) (r : Bool) : Nat × Tell := (i, { a := .call [.val [] [], .val [] []] fr (laws_eqTold_R r) (laws_eqTold_O r) })
noncomputable def laws_eqTold (a : TTold) (b : TTold) : Option Bool :=
  (bif (a.Node != b.Node) then
 some false
 else
 ((laws_eqReq a.Req b.Req).bind fun eqReq =>
 (bif (!eqReq) then
 some false
 else
 (bif (a.Code != b.Code) then
 some false
 else
 (bif (a.Val != b.Val) then
 some false
 else
 some true)))))
theorem laws_eqTold_ok {a : TTold} {b : TTold} (r : Bool) (h : laws_eqTold a b = some r) : ACalls cx.P 78 [.agg (eTold a), .agg (eTold b)] (laws_eqTold_R r) (laws_eqTold_O r) :=
  ACalls.of (cx := cx) (X := laws_eqTold_X) (c := laws_eqTold_c) Tryz.func78 (by kernel_rfl) (by kernel_rfl) (by kernel_rfl) (P0 <|
 rg2 <| cdD 4 h (fun h =>
 rg <| fe Tryz.func78 h) (fun h =>
 rg <| cb laws_eqReq_t laws_eqReq_ok 4 false h fun eqReq h =>
 cdD 5 h (fun h =>
 rg <| fe Tryz.func78 h) (fun h =>
 rg <| cdD 4 h (fun h =>
 rg <| fe Tryz.func78 h) (fun h =>
 rg <| cdD 4 h (fun h =>
 rg <| fe Tryz.func78 h) (fun h =>
 rg <| fe Tryz.func78 h)))))

/-! ### laws_eqToldS -/
noncomputable def laws_eqToldS_c : Code := bodyOf Tryz.f38
noncomputable def laws_eqToldS_X : Sig := { f := 38, fn := Tryz.f38, rms := [.val [] []], oms := [none, none] }
noncomputable def laws_eqToldS_R (r : Bool) : V := .b r
noncomputable def laws_eqToldS_O (r : Bool) : List (Option V) := [none, none]
noncomputable def laws_eqToldS_t (i : Nat) (fr : Bool) (r : Bool) : Nat × Tell := (i, { a := .call [.val [some 5] [], .val [some 5] []] fr (laws_eqToldS_R r) (laws_eqToldS_O r) })
noncomputable def laws_eqToldS_k1 : List Item := posI 2000 4 [false, false] [.code laws_eqToldS_c]
noncomputable def laws_eqToldS_S1 : St := ⟨(bs 27 []), [some []]⟩
noncomputable def laws_eqToldS_k2 : Option Bool :=
  some true
theorem laws_eqToldS_k2_ok (r : Bool) (h : laws_eqToldS_k2 = some r) : Fin cx laws_eqToldS_X (laws_eqToldS_R r) (laws_eqToldS_O r) laws_eqToldS_k1 (laws_eqToldS_S1) :=
  P0 <|
 rg <| fe Tryz.func38 h
noncomputable def laws_eqToldS_k3 : List Item := posI 2000 3 [false] [.code laws_eqToldS_c]
noncomputable def laws_eqToldS_S2 (a : List TTold) (b : List TTold) (i : Int) : St := ⟨(vsl 5 eTold a :: (vsl 5 eTold b :: (bs 3 (vi i :: (bs 21 []))))), [some []]⟩
noncomputable def laws_eqToldS_b1 (a : List TTold) (b : List TTold) (i : Int) : Option (Stp Bool Int Unit) :=
  (bif decide (i < (a.length : Int)) then
 ((idx a i).bind fun told =>
 ((idx b i).bind fun told1 =>
 ((laws_eqTold told told1).bind fun eqTold =>
 (bif (!eqTold) then
 some (Stp.ret false)
 else
 some (Stp.nxt (w64 (i + 1)))))))
 else
 some (Stp.brk ()))
theorem laws_eqToldS_b1_ok (a : List TTold) (b : List TTold) (res : V) (outs : List (Option V)) (x1 : Exc Bool Unit) (hb1 : HB cx laws_eqToldS_X res outs x1 laws_eqToldS_k1 (fun s => laws_eqToldS_S1)) (hr1 : HR res outs x1 laws_eqToldS_R laws_eqToldS_O) (st1 : Stp Bool Int Unit) (hc1 : Cont x1 (fun s : Int => Fin cx laws_eqToldS_X res outs laws_eqToldS_k3 (laws_eqToldS_S2 a b s)) st1) (i : Int) (h : laws_eqToldS_b1 a b i = some st1) : Fin cx laws_eqToldS_X res outs laws_eqToldS_k3 (laws_eqToldS_S2 a b i) :=
  P0 <|
 rg <| cdD 3 h (fun h =>
 rg <| ixS eTold 2 h fun told htold h =>
 ixS eTold 6 h fun told1 htold1 h =>
 cb laws_eqTold_t laws_eqTold_ok 8 false h fun eqTold h =>
 cdD 9 h (fun h =>
 rg <| (retD h hc1 fun e => fn0 Tryz.func38 (hr1 _ e))) (fun h =>
 rg <| (nxtD h hc1 fun hI => sg [] [0, 1, 5] [] hI))) (fun h =>
 (brkD h hc1 fun e => sg [] [] [] (hb1 _ e)))
noncomputable def laws_eqToldS (a : List TTold) (b : List TTold) : Option Bool :=
  (bif ((a.length : Int) != (b.length : Int)) then
 some false
 else
 ((loop (fun s : Int => laws_eqToldS_b1 a b s) 0).bind fun x => x.go (fun r => some r) fun s => laws_eqToldS_k2))
theorem laws_eqToldS_ok {a : List TTold} {b : List TTold} (r : Bool) (h : laws_eqToldS a b = some r) : ACalls cx.P 38 [vsl 5 eTold a, vsl 5 eTold b] (laws_eqToldS_R r) (laws_eqToldS_O r) :=
  ACalls.of (cx := cx) (X := laws_eqToldS_X) (c := laws_eqToldS_c) Tryz.func38 (by kernel_rfl) (by kernel_rfl) (by kernel_rfl) (P0 <|
 rg2 <| cdD 4 h (fun h =>
 rg <| fe Tryz.func38 h) (fun h =>
 rg <| loopJ h fun x hl hr hb => sg [] [0, 1, 5] [] (loopD (I := fun s : Int => Fin cx laws_eqToldS_X (laws_eqToldS_R r) (laws_eqToldS_O r) laws_eqToldS_k3 (laws_eqToldS_S2 a b s)) hl fun s st h hc => laws_eqToldS_b1_ok a b _ _ x (fun s e => laws_eqToldS_k2_ok r (hb s e)) (fun v e => ⟨congrArg laws_eqToldS_R (Option.some.inj (hr v e)).symm, congrArg laws_eqToldS_O (Option.some.inj (hr v e)).symm⟩) st hc s h)))

/-! ### laws_eqWorld -/
noncomputable def laws_eqWorld_c : Code := bodyOf Tryz.f8
noncomputable def laws_eqWorld_X : Sig := { f := 8, fn := Tryz.f8, rms := [.val [] []], oms := [none, none] }
noncomputable def laws_eqWorld_R (r : Bool) : V := .b r
noncomputable def laws_eqWorld_O (r : Bool) : List (Option V) := [none, none]
noncomputable def laws_eqWorld_t (i : Nat) (fr : Bool) (r : Bool) : Nat × Tell := (i, { a := .call [.val ck35 [], .val ck35 []] fr (laws_eqWorld_R r) (laws_eqWorld_O r) })
noncomputable def laws_eqWorld (a : TWorld) (b : TWorld) : Option Bool :=
  ((laws_eqNodeS a.Nodes b.Nodes).bind fun eqNodeS =>
 (bif (!eqNodeS) then
 some false
 else
 ((laws_eqMsgS a.Net b.Net).bind fun eqMsgS =>
 (bif (!eqMsgS) then
 some false
 else
 ((laws_eqAskedS a.Asked b.Asked).bind fun eqAskedS =>
 (bif (!eqAskedS) then
 some false
 else
 ((laws_eqToldS a.Told b.Told).bind fun eqToldS =>
 (bif (!eqToldS) then
 some false
 else
 some true))))))))
theorem laws_eqWorld_ok {a : TWorld} {b : TWorld} (r : Bool) (h : laws_eqWorld a b = some r) : ACalls cx.P 8 [.agg (eWorld a), .agg (eWorld b)] (laws_eqWorld_R r) (laws_eqWorld_O r) :=
  ACalls.of (cx := cx) (X := laws_eqWorld_X) (c := laws_eqWorld_c) Tryz.func8 (by kernel_rfl) (by kernel_rfl) (by kernel_rfl) (P0 <|
 rg2 <| cb laws_eqNodeS_t laws_eqNodeS_ok 4 false h fun eqNodeS h =>
 cdD 5 h (fun h =>
 rg <| fe Tryz.func8 h) (fun h =>
 rg <| cb laws_eqMsgS_t laws_eqMsgS_ok 4 false h fun eqMsgS h =>
 cdD 5 h (fun h =>
 rg <| fe Tryz.func8 h) (fun h =>
 rg <| cb laws_eqAskedS_t laws_eqAskedS_ok 4 false h fun eqAskedS h =>
 cdD 5 h (fun h =>
 rg <| fe Tryz.func8 h) (fun h =>
 rg <| cb laws_eqToldS_t laws_eqToldS_ok 4 false h fun eqToldS h =>
 cdD 5 h (fun h =>
 rg <| fe Tryz.func8 h) (fun h =>
 rg <| fe Tryz.func8 h)))))

/-! ### laws_FnExactToldAlone -/
noncomputable def laws_FnExactToldAlone_c : Code := bodyOf Tryz.f3
noncomputable def laws_FnExactToldAlone_X : Sig := { f := 3, fn := Tryz.f3, rms := [.val [] []], oms := [none] }
noncomputable def laws_FnExactToldAlone_R (r : Bool) : V := .b r
noncomputable def laws_FnExactToldAlone_O (r : Bool) : List (Option V) := [none]
noncomputable def laws_FnExactToldAlone_t (i : Nat) (fr : Bool) (r : Bool) : Nat × Tell := (i, { a := .call [.val ck27 []] fr (laws_FnExactToldAlone_R r) (laws_FnExactToldAlone_O r) })
noncomputable def laws_FnExactToldAlone (aW : TWorld) : Option Bool :=
  ((laws_szWorld aW 1048576).bind fun szWorld =>
 (bif decide (szWorld < 0) then
 some true
 else
 ((laws_toWorld aW).bind fun toWorld =>
 ((spec_ToldAlone toWorld).bind fun toldAlone =>
 ((laws_toWorld aW).bind fun toWorld1 =>
 ((impl_ToldAlone toWorld1).bind fun toldAlone1 =>
 (bif (!(toldAlone1 == toldAlone)) then
 some false
 else
 ((laws_toWorld aW).bind fun toWorld2 =>
 ((laws_eqWorld toWorld1 toWorld2).bind fun eqWorld =>
 (bif (!eqWorld) then
 some false
 else
 some true))))))))))
theorem laws_FnExactToldAlone_ok {aW : TWorld} (r : Bool) (h : laws_FnExactToldAlone aW = some r) : ACalls cx.P 3 [.agg (eWorld aW)] (laws_FnExactToldAlone_R r) (laws_FnExactToldAlone_O r) :=
  ACalls.of (cx := cx) (X := laws_FnExactToldAlone_X) (c := laws_FnExactToldAlone_c) Tryz.func3 (by kernel_rfl) (by kernel_rfl) (by kernel_rfl) (P0 <|
 rg3 <| cb laws_szWorld_t laws_szWorld_ok 2 false h fun szWorld h =>
 rg <| cdD 1 h (fun h =>
 rg <| fe Tryz.func3 h) (fun h =>
 rg <| cb laws_toWorld_t laws_toWorld_ok 1 false h fun toWorld h =>
 cb spec_ToldAlone_t spec_ToldAlone_ok 2 false h fun toldAlone h =>
 rg <| cb laws_toWorld_t laws_toWorld_ok 1 false h fun toWorld1 h =>
 rg <| cb impl_ToldAlone_t impl_ToldAlone_ok 1 false h fun toldAlone1 h =>
 rg <| cdD 2 h (fun h =>
 rg <| fe Tryz.func3 h) (fun h =>
 rg <| cb laws_toWorld_t laws_toWorld_ok 2 false h fun toWorld2 h =>
 cb laws_eqWorld_t laws_eqWorld_ok 3 false h fun eqWorld h =>
 cdD 4 h (fun h =>
 rg <| fe Tryz.func3 h) (fun h =>
 rg <| fe Tryz.func3 h))))


end Go.Proofs.YtggngdffdglolaaGreat
