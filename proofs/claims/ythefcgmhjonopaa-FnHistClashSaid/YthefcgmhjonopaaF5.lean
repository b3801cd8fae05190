/- Functions of the program, and that their calls come to this. -/
import Derived.Test.YthefcgmhjonopaaF4
set_option linter.unusedVariables false
set_option linter.unusedSimpArgs false
namespace Go.Proofs.Ythefcgmhjonopaa
open Go

/-! ### impl_ToldDone -/
noncomputable def impl_ToldDone_c : Code := bodyOf Try.f7
noncomputable def impl_ToldDone_X : Sig := { f := 7, fn := Try.f7, rms := [.val [some 2] []], oms := [none] }
noncomputable def impl_ToldDone_R (r : List TReq) : V := vsl 2 eReq r
noncomputable def impl_ToldDone_O (r : List TReq) : List (Option V) := [none]
noncomputable def impl_ToldDone_k1 : List Item := posI 2000 6 [false, false] [.code impl_ToldDone_c]
noncomputable def impl_ToldDone_S1 (out1 : List TReq) : St := ⟨(bs 5 (.own 1 0 2 0 out1.length :: (bs 30 []))), [some [], some [erow 30 2 eReq out1]]⟩
noncomputable def impl_ToldDone_k2 (out1 : List TReq) : Option (List TReq) :=
  ((impl_copied_Req out1).bind fun req =>
 some req)
theorem impl_ToldDone_k2_ok (r : List TReq) (out1 : List TReq) (h : impl_ToldDone_k2 out1 = some r) : Fin cx impl_ToldDone_X (impl_ToldDone_R r) (impl_ToldDone_O r) impl_ToldDone_k1 (impl_ToldDone_S1 out1) :=
  (bindD h fun req hreq h =>
 (someD h fun e => (Fin.fin (cx := cx) (X := impl_ToldDone_X) (res := impl_ToldDone_R req) (outs := impl_ToldDone_O req) Try.func7 [[(1, { a := .call [.val [some 2] []] false (impl_copied_Req_R req) (impl_copied_Req_O req) })]] [ACalls cx.P 17 [vsl 2 eReq out1] (impl_copied_Req_R req) (impl_copied_Req_O req), out1.length = out1.length] (.cons (impl_copied_Req_ok out1 req hreq) (.cons rfl .nil)) (by kernel_rfl)).is (congrArg impl_ToldDone_R e) (congrArg impl_ToldDone_O e)))
noncomputable def impl_ToldDone_k3 : List Item := posI 2000 5 [false] [.code impl_ToldDone_c]
noncomputable def impl_ToldDone_S2 (list : List TEntry) (folded : TState × List Int) (out : List TReq) (v18 : Int) : St := ⟨(bs 4 (vsl 1 eI folded.2 :: (.own 1 0 2 0 out.length :: (bs 10 (vsl 7 eEntry list :: (vi (list.length : Int) :: (vi v18 :: (bs 17 [])))))))), [some [], some [erow 30 2 eReq out]]⟩
noncomputable def impl_ToldDone_k4 : List Item := posI 2000 9 [false, true, true] [.code impl_ToldDone_c]
noncomputable def impl_ToldDone_S3 (list : List TEntry) (folded : TState × List Int) (v18 : Int) (out2 : List TReq) : St := ⟨(bs 4 (vsl 1 eI folded.2 :: (.own 1 0 2 0 out2.length :: (bs 10 (vsl 7 eEntry list :: (vi (list.length : Int) :: (vi v18 :: (bs 17 [])))))))), [some [], some [erow 30 2 eReq out2]]⟩
noncomputable def impl_ToldDone_j1 (v18 : Int) (out2 : List TReq) : Option (Stp (List TReq) ((List TReq) × Int) (List TReq)) :=
  some (Stp.nxt (out2, w64 (v18 + 1)))
theorem impl_ToldDone_j1_ok (list : List TEntry) (folded : TState × List Int) (v18 : Int) (res : V) (outs : List (Option V)) (x1 : Exc (List TReq) (List TReq)) (hb1 : ∀ s : List TReq, x1 = .brk s → Fin cx impl_ToldDone_X res outs impl_ToldDone_k1 (impl_ToldDone_S1 s)) (hr1 : ∀ v : List TReq, x1 = .ret v → (res = impl_ToldDone_R v ∧ outs = impl_ToldDone_O v)) (st1 : Stp (List TReq) ((List TReq) × Int) (List TReq)) (hc1 : Cont x1 (fun s : (List TReq) × Int => Fin cx impl_ToldDone_X res outs impl_ToldDone_k3 (impl_ToldDone_S2 list folded s.1 s.2)) st1) (out2 : List TReq) (h : impl_ToldDone_j1 v18 out2 = some st1) : Fin cx impl_ToldDone_X res outs impl_ToldDone_k4 (impl_ToldDone_S3 list folded v18 out2) :=
  (nxtD h hc1 fun hI => (Fin.seg [[]] [] [4, 5, 16, 17, 18] [(1, 0)] [] .nil hI (by kernel_rfl)))
noncomputable def impl_ToldDone_b1 (list : List TEntry) (folded : TState × List Int) (out : List TReq) (v18 : Int) : Option (Stp (List TReq) ((List TReq) × Int) (List TReq)) :=
  (bif decide (v18 < (list.length : Int)) then
 ((idx list v18).bind fun entry =>
 ((((idx folded.2 v18).bind fun y =>
 (bif (y == 0) then
 (need ((out.length + 1) * 16 ≤ 140737488355328)
 (some (Exc.brk (out ++ [entry.Req]))))
 else
 some (Exc.brk out))) : Option (Exc (Stp (List TReq) ((List TReq) × Int) (List TReq)) (List TReq))).bind fun x => x.go some fun j => impl_ToldDone_j1 v18 j))
 else
 some (Stp.brk out))
theorem impl_ToldDone_b1_ok (list : List TEntry) (folded : TState × List Int) (res : V) (outs : List (Option V)) (x1 : Exc (List TReq) (List TReq)) (hb1 : ∀ s : List TReq, x1 = .brk s → Fin cx impl_ToldDone_X res outs impl_ToldDone_k1 (impl_ToldDone_S1 s)) (hr1 : ∀ v : List TReq, x1 = .ret v → (res = impl_ToldDone_R v ∧ outs = impl_ToldDone_O v)) (st1 : Stp (List TReq) ((List TReq) × Int) (List TReq)) (hc1 : Cont x1 (fun s : (List TReq) × Int => Fin cx impl_ToldDone_X res outs impl_ToldDone_k3 (impl_ToldDone_S2 list folded s.1 s.2)) st1) (out : List TReq) (v18 : Int) (h : impl_ToldDone_b1 list folded out v18 = some st1) : Fin cx impl_ToldDone_X res outs impl_ToldDone_k3 (impl_ToldDone_S2 list folded out v18) :=
  (condD h (fun e2 h =>
 (bindD h fun entry hentry h =>
 (joinD (I := fun j : List TReq => Fin cx impl_ToldDone_X res outs impl_ToldDone_k4 (impl_ToldDone_S3 list folded v18 j)) h (fun j h => impl_ToldDone_j1_ok list folded v18 res outs x1 hb1 hr1 st1 hc1 j h) (fun x2 h hc2 =>
  (bindD h fun y hy h =>
 (condD h (fun e3 h =>
 (needD h fun e4 h =>
 (jbrkD h hc2 fun hI => (Fin.seg [[(0, { d := some true })], [(1, { a := .row (eEntry entry) })], [(2, { a := .row (eI y) }), (4, { d := some true })], [(3, { a := .ck [] }), (4, { v := some (.own 18 0 2 0 (out ++ [entry.Req]).length), e := some (erow 30 2 eReq (out ++ [entry.Req])) })]] [] [4, 5, 16, 17, 18] [(18, 0)] [decide (v18 < (list.length : Int)) = true, (0 : Int) ≤ v18, v18 < ((list.length : Nat) : Int), (list.map eEntry)[v18.toNat]? = some (eEntry entry), (0 : Int) ≤ v18, v18 < ((folded.2.length : Nat) : Int), (folded.2.map eI)[v18.toNat]? = some (eI y), (y == 0) = true, V.own 18 0 2 0 (out.length + 1) = .own 18 0 2 0 (out ++ [entry.Req]).length, Ent.row 30 2 (out.length + 1) (out.map eReq ++ [eReq entry.Req]) = erow 30 2 eReq (out ++ [entry.Req]), out.length = out.length, (out.length + 1) * 16 ≤ 140737488355328, 1 = [entry.Req].length] (.cons e2 (.cons (idx0 hentry) (.cons (idx1 hentry) (.cons (map_idx hentry) (.cons (idx0 hy) (.cons (idx1 hy) (.cons (map_idx hy) (.cons e3 (.cons (by first | exact congrArg (V.own 18 0 2 0) List.length_append.symm | simp) (.cons (row_app rfl) (.cons rfl (.cons e4 (.cons (by rfl) .nil))))))))))))) hI (by kernel_rfl))))) (fun e3 h =>
 (jbrkD h hc2 fun hI => (Fin.seg [[(0, { d := some true })], [(1, { a := .row (eEntry entry) })], [(2, { a := .row (eI y) }), (4, { d := some false })]] [] [4, 5, 16, 17, 18] [(1, 0)] [decide (v18 < (list.length : Int)) = true, (0 : Int) ≤ v18, v18 < ((list.length : Nat) : Int), (list.map eEntry)[v18.toNat]? = some (eEntry entry), (0 : Int) ≤ v18, v18 < ((folded.2.length : Nat) : Int), (folded.2.map eI)[v18.toNat]? = some (eI y), (y == 0) = false] (.cons e2 (.cons (idx0 hentry) (.cons (idx1 hentry) (.cons (map_idx hentry) (.cons (idx0 hy) (.cons (idx1 hy) (.cons (map_idx hy) (.cons e3 .nil)))))))) hI (by kernel_rfl)))))))))) (fun e2 h =>
 (brkD h hc1 fun e => (Fin.seg [[(0, { d := some false })]] [] [5] [(1, 0)] [decide (v18 < (list.length : Int)) = false] (.cons e2 .nil) (hb1 _ e) (by kernel_rfl)))))
theorem impl_ToldDone_b1_loop (list : List TEntry) (folded : TState × List Int) (res : V) (outs : List (Option V)) (x1 : Exc (List TReq) (List TReq)) (hb1 : ∀ s : List TReq, x1 = .brk s → Fin cx impl_ToldDone_X res outs impl_ToldDone_k1 (impl_ToldDone_S1 s)) (hr1 : ∀ v : List TReq, x1 = .ret v → (res = impl_ToldDone_R v ∧ outs = impl_ToldDone_O v)) (s : (List TReq) × Int) (h : loop (fun s : (List TReq) × Int => impl_ToldDone_b1 list folded s.1 s.2) s = some x1) : Fin cx impl_ToldDone_X res outs impl_ToldDone_k3 (impl_ToldDone_S2 list folded s.1 s.2) :=
  loopD (I := fun s : (List TReq) × Int => Fin cx impl_ToldDone_X res outs impl_ToldDone_k3 (impl_ToldDone_S2 list folded s.1 s.2)) h fun s st h hc => impl_ToldDone_b1_ok list folded res outs x1 hb1 hr1 st hc s.1 s.2 h
noncomputable def impl_ToldDone (list : List TEntry) : Option (List TReq) :=
  ((impl_listOk list).bind fun listOk =>
 (bif (!listOk) then
 some []
 else
 ((impl_folded list).bind fun folded =>
 ((loop (fun s : (List TReq) × Int => impl_ToldDone_b1 list folded s.1 s.2) ([], 0)).bind fun x => x.go (fun r => some r) fun s => impl_ToldDone_k2 s))))
theorem impl_ToldDone_fin (list : List TEntry) (r : List TReq) (h : impl_ToldDone list = some r) : Fin cx impl_ToldDone_X (impl_ToldDone_R r) (impl_ToldDone_O r) [.code impl_ToldDone_c] (startS impl_ToldDone_X [vsl 7 eEntry list]) :=
  (bindD h fun listOk hlistOk h =>
 (condD h (fun e1 h =>
 (someD h fun e => (Fin.fin (cx := cx) (X := impl_ToldDone_X) (res := impl_ToldDone_R []) (outs := impl_ToldDone_O []) Try.func7 [[], [(1, { a := .call [.val [some 7] []] false (impl_listOk_R listOk) (impl_listOk_O listOk) }), (2, { d := some true })], []] [ACalls cx.P 10 [vsl 7 eEntry list] (impl_listOk_R listOk) (impl_listOk_O listOk), (!listOk) = true] (.cons (impl_listOk_ok list listOk hlistOk) (.cons e1 .nil)) (by kernel_rfl)).is (congrArg impl_ToldDone_R e) (congrArg impl_ToldDone_O e))) (fun e1 h =>
 (bindD h fun folded hfolded h =>
 (loopJ h fun x hl hr hb => (Fin.seg [[], [(1, { a := .call [.val [some 7] []] false (impl_listOk_R listOk) (impl_listOk_O listOk) }), (2, { d := some false })], [(1, { a := .call [.val [some 7] []] false (impl_folded_R folded) (impl_folded_O folded) })], [], []] [.own (.tmp 5) 30 2] [4, 5, 16, 17, 18] [(17, 0)] [ACalls cx.P 10 [vsl 7 eEntry list] (impl_listOk_R listOk) (impl_listOk_O listOk), (!listOk) = false, ACalls cx.P 11 [vsl 7 eEntry list] (impl_folded_R folded) (impl_folded_O folded)] (.cons (impl_listOk_ok list listOk hlistOk) (.cons e1 (.cons (impl_folded_ok list folded hfolded) .nil))) (impl_ToldDone_b1_loop list folded _ _ x (fun s e => impl_ToldDone_k2_ok r s (hb s e)) (fun v e => ⟨congrArg impl_ToldDone_R (Option.some.inj (hr v e)).symm, congrArg impl_ToldDone_O (Option.some.inj (hr v e)).symm⟩) ([], 0) hl) (by kernel_rfl)))))))
theorem impl_ToldDone_ok (list : List TEntry) (r : List TReq) (h : impl_ToldDone list = some r) : ACalls cx.P 7 [vsl 7 eEntry list] (impl_ToldDone_R r) (impl_ToldDone_O r) :=
  ACalls.of (cx := cx) (X := impl_ToldDone_X) (c := impl_ToldDone_c) Try.func7 (by kernel_rfl) (by kernel_rfl) (by kernel_rfl) (impl_ToldDone_fin list r h)

/-! ### laws_FnHistClash -/
noncomputable def laws_FnHistClash_c : Code := bodyOf Try.f3
noncomputable def laws_FnHistClash_X : Sig := { f := 3, fn := Try.f3, rms := [.val [] []], oms := [none] }
noncomputable def laws_FnHistClash_R (r : Bool) : V := .b r
noncomputable def laws_FnHistClash_O (r : Bool) : List (Option V) := [none]
noncomputable def laws_FnHistClash_k1 : List Item := posI 2000 8 [false, false, false] [.code laws_FnHistClash_c]
noncomputable def laws_FnHistClash_S1 (histClashes : List TClash) (toldDone : List TReq) : St := ⟨(bs 4 (vsl 3 eClash histClashes :: (vsl 2 eReq toldDone :: (bs 154 [])))), [some []]⟩
noncomputable def laws_FnHistClash_k2 (histClashes : List TClash) (toldDone : List TReq) : Option Bool :=
  (bif decide ((toldDone.length : Int) > 1) then
 some true
 else
 some ((histClashes.length : Int) == 0))
theorem laws_FnHistClash_k2_ok (histClashes : List TClash) (toldDone : List TReq) (r : Bool) (h : laws_FnHistClash_k2 histClashes toldDone = some r) : Fin cx laws_FnHistClash_X (laws_FnHistClash_R r) (laws_FnHistClash_O r) laws_FnHistClash_k1 (laws_FnHistClash_S1 histClashes toldDone) :=
  (condD h (fun e3 h =>
 (someD h fun e => (Fin.fin (cx := cx) (X := laws_FnHistClash_X) (res := laws_FnHistClash_R true) (outs := laws_FnHistClash_O true) Try.func3 [[(3, { d := some true })]] [decide ((toldDone.length : Int) > 1) = true] (.cons e3 .nil) (by kernel_rfl)).is (congrArg laws_FnHistClash_R e) (congrArg laws_FnHistClash_O e))) (fun e3 h =>
 (someD h fun e => (Fin.fin (cx := cx) (X := laws_FnHistClash_X) (res := laws_FnHistClash_R ((histClashes.length : Int) == 0)) (outs := laws_FnHistClash_O ((histClashes.length : Int) == 0)) Try.func3 [[(3, { d := some false })]] [decide ((toldDone.length : Int) > 1) = false] (.cons e3 .nil) (by kernel_rfl)).is (congrArg laws_FnHistClash_R e) (congrArg laws_FnHistClash_O e))))
noncomputable def laws_FnHistClash_k3 : List Item := posI 2000 7 [false, false] [.code laws_FnHistClash_c]
noncomputable def laws_FnHistClash_S2 (drawHistClashes : List TEntry) (histClashes : List TClash) (toldDone : List TReq) (i : Int) : St := ⟨(bs 3 (vsl 7 eEntry drawHistClashes :: (vsl 3 eClash histClashes :: (vsl 2 eReq toldDone :: (vi i :: (bs 153 [])))))), [some []]⟩
noncomputable def laws_FnHistClash_k4 : List Item := posI 2000 14 [false, false, true, false] [.code laws_FnHistClash_c]
noncomputable def laws_FnHistClash_S3 (drawHistClashes : List TEntry) (histClashes : List TClash) (toldDone : List TReq) (i : Int) (entry : TEntry) (entry1 : TEntry) (q1 : Bool) (p1 : Bool) : St := ⟨(bs 3 (vsl 7 eEntry drawHistClashes :: (vsl 3 eClash histClashes :: (vsl 2 eReq toldDone :: (vi i :: (.ptr 1 0 0 :: (.ptr 2 0 0 :: (.b p1 :: (.b q1 :: (bs 149 [])))))))))), [some [], some [.var 36 [.b entry.None, vi entry.Req.Who, vi entry.Req.Seq, vsl 2 eRead entry.Run.Reads, vsl 2 ePut entry.Run.Puts, vi entry.Run.Val, vi entry.Run.Code]], some [.var 36 [.b entry1.None, vi entry1.Req.Who, vi entry1.Req.Seq, vsl 2 eRead entry1.Run.Reads, vsl 2 ePut entry1.Run.Puts, vi entry1.Run.Val, vi entry1.Run.Code]]]⟩
noncomputable def laws_FnHistClash_k5 : List Item := posI 2000 17 [false, false, true, false, false] [.code laws_FnHistClash_c]
noncomputable def laws_FnHistClash_S4 (drawHistClashes : List TEntry) (histClashes : List TClash) (toldDone : List TReq) (i : Int) (entry1 : TEntry) (q1 : Bool) (p1 : Bool) (puts1 : Bool) : St := ⟨(bs 3 (vsl 7 eEntry drawHistClashes :: (vsl 3 eClash histClashes :: (vsl 2 eReq toldDone :: (vi i :: (bs 1 (.ptr 1 0 0 :: (.b p1 :: (.b q1 :: (bs 1 (.b puts1 :: (bs 147 [])))))))))))), [some [], some [.var 36 [.b entry1.None, vi entry1.Req.Who, vi entry1.Req.Seq, vsl 2 eRead entry1.Run.Reads, vsl 2 ePut entry1.Run.Puts, vi entry1.Run.Val, vi entry1.Run.Code]]]⟩
noncomputable def laws_FnHistClash_k6 : List Item := posI 2000 19 [false, false, true, false, false, false] [.code laws_FnHistClash_c]
noncomputable def laws_FnHistClash_S5 (drawHistClashes : List TEntry) (histClashes : List TClash) (toldDone : List TReq) (i : Int) (q1 : Bool) (p1 : Bool) (puts3 : Bool) : St := ⟨(bs 3 (vsl 7 eEntry drawHistClashes :: (vsl 3 eClash histClashes :: (vsl 2 eReq toldDone :: (vi i :: (bs 2 (.b p1 :: (.b q1 :: (bs 1 (.b puts3 :: (bs 147 []))))))))))), [some []]⟩
noncomputable def laws_FnHistClash_k7 : List Item := posI 2000 20 [false, false, true, false, false, false, false] [.code laws_FnHistClash_c]
noncomputable def laws_FnHistClash_S6 (drawHistClashes : List TEntry) (histClashes : List TClash) (toldDone : List TReq) (i : Int) : St := ⟨(bs 3 (vsl 7 eEntry drawHistClashes :: (vsl 3 eClash histClashes :: (vsl 2 eReq toldDone :: (vi i :: (bs 153 [])))))), [some []]⟩
noncomputable def laws_FnHistClash_j1 (i : Int) : Option (Stp Bool Int Unit) :=
  some (Stp.nxt (w64 (i + 1)))
theorem laws_FnHistClash_j1_ok (drawHistClashes : List TEntry) (histClashes : List TClash) (toldDone : List TReq) (i : Int) (res : V) (outs : List (Option V)) (x1 : Exc Bool Unit) (hb1 : ∀ s : Unit, x1 = .brk s → Fin cx laws_FnHistClash_X res outs laws_FnHistClash_k1 (laws_FnHistClash_S1 histClashes toldDone)) (hr1 : ∀ v : Bool, x1 = .ret v → (res = laws_FnHistClash_R v ∧ outs = laws_FnHistClash_O v)) (st1 : Stp Bool Int Unit) (hc1 : Cont x1 (fun s : Int => Fin cx laws_FnHistClash_X res outs laws_FnHistClash_k3 (laws_FnHistClash_S2 drawHistClashes histClashes toldDone s)) st1) (h : laws_FnHistClash_j1 i = some st1) : Fin cx laws_FnHistClash_X res outs laws_FnHistClash_k7 (laws_FnHistClash_S6 drawHistClashes histClashes toldDone i) :=
  (nxtD h hc1 fun hI => (Fin.seg [[]] [] [3, 4, 5, 6] [] [] .nil hI (by kernel_rfl)))
noncomputable def laws_FnHistClash_k8 (histClashes : List TClash) (i : Int) (q1 : Bool) (p1 : Bool) (puts3 : Bool) : Option (Stp Bool Int Unit) :=
  (((bif (!p1) then
 some (Exc.ret (Stp.ret false))
 else
 (bif (!q1) then
 some (Exc.ret (Stp.ret false))
 else
 (bif (!puts3) then
 some (Exc.ret (Stp.ret false))
 else
 (bif decide (i > 0) then
 ((idx histClashes i).bind fun clash1 =>
 ((idx histClashes (w64 (i - 1))).bind fun clash2 =>
 (bif (([clash1.First, clash1.Last, clash1.Box] : List Int) == [clash2.First, clash2.Last, clash2.Box]) then
 some (Exc.ret (Stp.ret false))
 else
 some (Exc.brk ()))))
 else
 some (Exc.brk ()))))) : Option (Exc (Stp Bool Int Unit) Unit)).bind fun x => x.go some fun j => laws_FnHistClash_j1 i)
theorem laws_FnHistClash_k8_ok (drawHistClashes : List TEntry) (histClashes : List TClash) (toldDone : List TReq) (i : Int) (q1 : Bool) (p1 : Bool) (res : V) (outs : List (Option V)) (x1 : Exc Bool Unit) (hb1 : ∀ s : Unit, x1 = .brk s → Fin cx laws_FnHistClash_X res outs laws_FnHistClash_k1 (laws_FnHistClash_S1 histClashes toldDone)) (hr1 : ∀ v : Bool, x1 = .ret v → (res = laws_FnHistClash_R v ∧ outs = laws_FnHistClash_O v)) (st1 : Stp Bool Int Unit) (hc1 : Cont x1 (fun s : Int => Fin cx laws_FnHistClash_X res outs laws_FnHistClash_k3 (laws_FnHistClash_S2 drawHistClashes histClashes toldDone s)) st1) (puts3 : Bool) (h : laws_FnHistClash_k8 histClashes i q1 p1 puts3 = some st1) : Fin cx laws_FnHistClash_X res outs laws_FnHistClash_k6 (laws_FnHistClash_S5 drawHistClashes histClashes toldDone i q1 p1 puts3) :=
  (joinD (I := fun j : Unit => Fin cx laws_FnHistClash_X res outs laws_FnHistClash_k7 (laws_FnHistClash_S6 drawHistClashes histClashes toldDone i)) h (fun j h => laws_FnHistClash_j1_ok drawHistClashes histClashes toldDone i res outs x1 hb1 hr1 st1 hc1 h) (fun x2 h hc2 =>
  (condD h (fun e5 h =>
 (jretD h hc2 fun h => (retD h hc1 fun e => (Fin.fin (cx := cx) (X := laws_FnHistClash_X) (res := laws_FnHistClash_R false) (outs := laws_FnHistClash_O false) Try.func3 [[(2, { d := some true })], []] [(!p1) = true] (.cons e5 .nil) (by kernel_rfl)).is (hr1 _ e).1 (hr1 _ e).2))) (fun e5 h =>
 (condD h (fun e6 h =>
 (jretD h hc2 fun h => (retD h hc1 fun e => (Fin.fin (cx := cx) (X := laws_FnHistClash_X) (res := laws_FnHistClash_R false) (outs := laws_FnHistClash_O false) Try.func3 [[(2, { d := some false }), (6, { d := some true })], []] [(!p1) = false, (!q1) = true] (.cons e5 (.cons e6 .nil)) (by kernel_rfl)).is (hr1 _ e).1 (hr1 _ e).2))) (fun e6 h =>
 (condD h (fun e7 h =>
 (jretD h hc2 fun h => (retD h hc1 fun e => (Fin.fin (cx := cx) (X := laws_FnHistClash_X) (res := laws_FnHistClash_R false) (outs := laws_FnHistClash_O false) Try.func3 [[(2, { d := some false }), (6, { d := some false }), (10, { d := some true })], []] [(!p1) = false, (!q1) = false, (!puts3) = true] (.cons e5 (.cons e6 (.cons e7 .nil))) (by kernel_rfl)).is (hr1 _ e).1 (hr1 _ e).2))) (fun e7 h =>
 (condD h (fun e8 h =>
 (bindD h fun clash1 hclash1 h =>
 (bindD h fun clash2 hclash2 h =>
 (condD h (fun e9 h =>
 (jretD h hc2 fun h => (retD h hc1 fun e => (Fin.fin (cx := cx) (X := laws_FnHistClash_X) (res := laws_FnHistClash_R false) (outs := laws_FnHistClash_O false) Try.func3 [[(2, { d := some false }), (6, { d := some false }), (10, { d := some false }), (13, { d := some true }), (16, { a := .row (eClash clash1) }), (21, { a := .row (eClash clash2) }), (25, { d := some true })], []] [(!p1) = false, (!q1) = false, (!puts3) = false, decide (i > 0) = true, (0 : Int) ≤ i, i < ((histClashes.length : Nat) : Int), (histClashes.map eClash)[i.toNat]? = some (eClash clash1), (0 : Int) ≤ (w64 (i - 1)), (w64 (i - 1)) < ((histClashes.length : Nat) : Int), (histClashes.map eClash)[(w64 (i - 1)).toNat]? = some (eClash clash2), (([clash1.First, clash1.Last, clash1.Box] : List Int) == [clash2.First, clash2.Last, clash2.Box]) = true] (.cons e5 (.cons e6 (.cons e7 (.cons e8 (.cons (idx0 hclash1) (.cons (idx1 hclash1) (.cons (map_idx hclash1) (.cons (idx0 hclash2) (.cons (idx1 hclash2) (.cons (map_idx hclash2) (.cons e9 .nil))))))))))) (by kernel_rfl)).is (hr1 _ e).1 (hr1 _ e).2))) (fun e9 h =>
 (jbrkD h hc2 fun hI => (Fin.seg [[(2, { d := some false }), (6, { d := some false }), (10, { d := some false }), (13, { d := some true }), (16, { a := .row (eClash clash1) }), (21, { a := .row (eClash clash2) }), (25, { d := some false })]] [] [3, 4, 5, 6] [] [(!p1) = false, (!q1) = false, (!puts3) = false, decide (i > 0) = true, (0 : Int) ≤ i, i < ((histClashes.length : Nat) : Int), (histClashes.map eClash)[i.toNat]? = some (eClash clash1), (0 : Int) ≤ (w64 (i - 1)), (w64 (i - 1)) < ((histClashes.length : Nat) : Int), (histClashes.map eClash)[(w64 (i - 1)).toNat]? = some (eClash clash2), (([clash1.First, clash1.Last, clash1.Box] : List Int) == [clash2.First, clash2.Last, clash2.Box]) = false] (.cons e5 (.cons e6 (.cons e7 (.cons e8 (.cons (idx0 hclash1) (.cons (idx1 hclash1) (.cons (map_idx hclash1) (.cons (idx0 hclash2) (.cons (idx1 hclash2) (.cons (map_idx hclash2) (.cons e9 .nil))))))))))) hI (by kernel_rfl)))))))) (fun e8 h =>
 (jbrkD h hc2 fun hI => (Fin.seg [[(2, { d := some false }), (6, { d := some false }), (10, { d := some false }), (13, { d := some false })]] [] [3, 4, 5, 6] [] [(!p1) = false, (!q1) = false, (!puts3) = false, decide (i > 0) = false] (.cons e5 (.cons e6 (.cons e7 (.cons e8 .nil)))) hI (by kernel_rfl)))))))))))))
noncomputable def laws_FnHistClash_k9 : List Item := posI 2000 18 [false, false, true, false, false] [.code laws_FnHistClash_c]
noncomputable def laws_FnHistClash_S7 (drawHistClashes : List TEntry) (histClashes : List TClash) (toldDone : List TReq) (i : Int) (entry1 : TEntry) (q1 : Bool) (p1 : Bool) (puts2 : Bool) (k2 : Int) : St := ⟨(bs 3 (vsl 7 eEntry drawHistClashes :: (vsl 3 eClash histClashes :: (vsl 2 eReq toldDone :: (vi i :: (bs 1 (.ptr 1 0 0 :: (.b p1 :: (.b q1 :: (bs 1 (.b puts2 :: (bs 1 (vi k2 :: (bs 145 [])))))))))))))), [some [], some [.var 36 [.b entry1.None, vi entry1.Req.Who, vi entry1.Req.Seq, vsl 2 eRead entry1.Run.Reads, vsl 2 ePut entry1.Run.Puts, vi entry1.Run.Val, vi entry1.Run.Code]]]⟩
noncomputable def laws_FnHistClash_k10 : List Item := posI 2000 20 [false, false, true, false, false, true] [.code laws_FnHistClash_c]
noncomputable def laws_FnHistClash_S8 (drawHistClashes : List TEntry) (histClashes : List TClash) (toldDone : List TReq) (i : Int) (entry1 : TEntry) (q1 : Bool) (p1 : Bool) (k2 : Int) (puts4 : Bool) : St := ⟨(bs 3 (vsl 7 eEntry drawHistClashes :: (vsl 3 eClash histClashes :: (vsl 2 eReq toldDone :: (vi i :: (bs 1 (.ptr 1 0 0 :: (.b p1 :: (.b q1 :: (bs 1 (.b puts4 :: (bs 1 (vi k2 :: (bs 145 [])))))))))))))), [some [], some [.var 36 [.b entry1.None, vi entry1.Req.Who, vi entry1.Req.Seq, vsl 2 eRead entry1.Run.Reads, vsl 2 ePut entry1.Run.Puts, vi entry1.Run.Val, vi entry1.Run.Code]]]⟩
noncomputable def laws_FnHistClash_j2 (k2 : Int) (puts4 : Bool) : Option (Stp Bool (Bool × Int) Bool) :=
  some (Stp.nxt (puts4, w64 (k2 + 1)))
theorem laws_FnHistClash_j2_ok (drawHistClashes : List TEntry) (histClashes : List TClash) (toldDone : List TReq) (i : Int) (entry1 : TEntry) (q1 : Bool) (p1 : Bool) (k2 : Int) (res : V) (outs : List (Option V)) (x2 : Exc Bool Bool) (hb2 : ∀ s : Bool, x2 = .brk s → Fin cx laws_FnHistClash_X res outs laws_FnHistClash_k6 (laws_FnHistClash_S5 drawHistClashes histClashes toldDone i q1 p1 s)) (hr2 : ∀ v : Bool, x2 = .ret v → (res = laws_FnHistClash_R v ∧ outs = laws_FnHistClash_O v)) (st2 : Stp Bool (Bool × Int) Bool) (hc2 : Cont x2 (fun s : Bool × Int => Fin cx laws_FnHistClash_X res outs laws_FnHistClash_k9 (laws_FnHistClash_S7 drawHistClashes histClashes toldDone i entry1 q1 p1 s.1 s.2)) st2) (puts4 : Bool) (h : laws_FnHistClash_j2 k2 puts4 = some st2) : Fin cx laws_FnHistClash_X res outs laws_FnHistClash_k10 (laws_FnHistClash_S8 drawHistClashes histClashes toldDone i entry1 q1 p1 k2 puts4) :=
  (nxtD h hc2 fun hI => (Fin.seg [[]] [] [3, 4, 5, 6, 8, 9, 10, 12, 14] [(1, 0)] [] .nil hI (by kernel_rfl)))
noncomputable def laws_FnHistClash_b1 (histClashes : List TClash) (i : Int) (entry1 : TEntry) (puts2 : Bool) (k2 : Int) : Option (Stp Bool (Bool × Int) Bool) :=
  (bif decide (k2 < (entry1.Run.Puts.length : Int)) then
 (((bif puts2 then
 some (Exc.brk true)
 else
 ((idx entry1.Run.Puts k2).bind fun put =>
 ((idx histClashes i).bind fun clash3 =>
 some (Exc.brk (put.Box == clash3.Box))))) : Option (Exc (Stp Bool (Bool × Int) Bool) Bool)).bind fun x => x.go some fun j => laws_FnHistClash_j2 k2 j)
 else
 some (Stp.brk puts2))
theorem laws_FnHistClash_b1_ok (drawHistClashes : List TEntry) (histClashes : List TClash) (toldDone : List TReq) (i : Int) (entry1 : TEntry) (q1 : Bool) (p1 : Bool) (res : V) (outs : List (Option V)) (x2 : Exc Bool Bool) (hb2 : ∀ s : Bool, x2 = .brk s → Fin cx laws_FnHistClash_X res outs laws_FnHistClash_k6 (laws_FnHistClash_S5 drawHistClashes histClashes toldDone i q1 p1 s)) (hr2 : ∀ v : Bool, x2 = .ret v → (res = laws_FnHistClash_R v ∧ outs = laws_FnHistClash_O v)) (st2 : Stp Bool (Bool × Int) Bool) (hc2 : Cont x2 (fun s : Bool × Int => Fin cx laws_FnHistClash_X res outs laws_FnHistClash_k9 (laws_FnHistClash_S7 drawHistClashes histClashes toldDone i entry1 q1 p1 s.1 s.2)) st2) (puts2 : Bool) (k2 : Int) (h : laws_FnHistClash_b1 histClashes i entry1 puts2 k2 = some st2) : Fin cx laws_FnHistClash_X res outs laws_FnHistClash_k9 (laws_FnHistClash_S7 drawHistClashes histClashes toldDone i entry1 q1 p1 puts2 k2) :=
  (condD h (fun e10 h =>
 (joinD (I := fun j : Bool => Fin cx laws_FnHistClash_X res outs laws_FnHistClash_k10 (laws_FnHistClash_S8 drawHistClashes histClashes toldDone i entry1 q1 p1 k2 j)) h (fun j h => laws_FnHistClash_j2_ok drawHistClashes histClashes toldDone i entry1 q1 p1 k2 res outs x2 hb2 hr2 st2 hc2 j h) (fun x3 h hc3 =>
  (condD h (fun e11 h =>
 (jbrkD h hc3 fun hI => (Fin.seg [[(5, { d := some true })], [(1, { d := some true })]] [] [3, 4, 5, 6, 8, 9, 10, 12, 14] [(1, 0)] [decide (k2 < (entry1.Run.Puts.length : Int)) = true, puts2 = true] (.cons e10 (.cons e11 .nil)) hI (by kernel_rfl)))) (fun e11 h =>
 (bindD h fun put hput h =>
 (bindD h fun clash3 hclash3 h =>
 (jbrkD h hc3 fun hI => (Fin.seg [[(5, { d := some true })], [(1, { d := some false }), (6, { a := .row (ePut put) }), (11, { a := .row (eClash clash3) })]] [] [3, 4, 5, 6, 8, 9, 10, 12, 14] [(1, 0)] [decide (k2 < (entry1.Run.Puts.length : Int)) = true, puts2 = false, (0 : Int) ≤ k2, k2 < ((entry1.Run.Puts.length : Nat) : Int), (entry1.Run.Puts.map ePut)[k2.toNat]? = some (ePut put), (0 : Int) ≤ i, i < ((histClashes.length : Nat) : Int), (histClashes.map eClash)[i.toNat]? = some (eClash clash3)] (.cons e10 (.cons e11 (.cons (idx0 hput) (.cons (idx1 hput) (.cons (map_idx hput) (.cons (idx0 hclash3) (.cons (idx1 hclash3) (.cons (map_idx hclash3) .nil)))))))) hI (by kernel_rfl)))))))))) (fun e10 h =>
 (brkD h hc2 fun e => (Fin.seg [[(5, { d := some false })]] [] [3, 4, 5, 6, 9, 10, 12] [] [decide (k2 < (entry1.Run.Puts.length : Int)) = false] (.cons e10 .nil) (hb2 _ e) (by kernel_rfl)))))
theorem laws_FnHistClash_b1_loop (drawHistClashes : List TEntry) (histClashes : List TClash) (toldDone : List TReq) (i : Int) (entry1 : TEntry) (q1 : Bool) (p1 : Bool) (res : V) (outs : List (Option V)) (x2 : Exc Bool Bool) (hb2 : ∀ s : Bool, x2 = .brk s → Fin cx laws_FnHistClash_X res outs laws_FnHistClash_k6 (laws_FnHistClash_S5 drawHistClashes histClashes toldDone i q1 p1 s)) (hr2 : ∀ v : Bool, x2 = .ret v → (res = laws_FnHistClash_R v ∧ outs = laws_FnHistClash_O v)) (s : Bool × Int) (h : loop (fun s : Bool × Int => laws_FnHistClash_b1 histClashes i entry1 s.1 s.2) s = some x2) : Fin cx laws_FnHistClash_X res outs laws_FnHistClash_k9 (laws_FnHistClash_S7 drawHistClashes histClashes toldDone i entry1 q1 p1 s.1 s.2) :=
  loopD (I := fun s : Bool × Int => Fin cx laws_FnHistClash_X res outs laws_FnHistClash_k9 (laws_FnHistClash_S7 drawHistClashes histClashes toldDone i entry1 q1 p1 s.1 s.2)) h fun s st h hc => laws_FnHistClash_b1_ok drawHistClashes histClashes toldDone i entry1 q1 p1 res outs x2 hb2 hr2 st hc s.1 s.2 h
noncomputable def laws_FnHistClash_k11 (histClashes : List TClash) (i : Int) (entry1 : TEntry) (q1 : Bool) (p1 : Bool) (puts1 : Bool) : Option (Stp Bool Int Unit) :=
  ((loop (fun s : Bool × Int => laws_FnHistClash_b1 histClashes i entry1 s.1 s.2) (puts1, 0)).bind fun x => x.go (fun r => some (Stp.ret r)) fun s => laws_FnHistClash_k8 histClashes i q1 p1 s)
theorem laws_FnHistClash_k11_ok (drawHistClashes : List TEntry) (histClashes : List TClash) (toldDone : List TReq) (i : Int) (entry1 : TEntry) (q1 : Bool) (p1 : Bool) (res : V) (outs : List (Option V)) (x1 : Exc Bool Unit) (hb1 : ∀ s : Unit, x1 = .brk s → Fin cx laws_FnHistClash_X res outs laws_FnHistClash_k1 (laws_FnHistClash_S1 histClashes toldDone)) (hr1 : ∀ v : Bool, x1 = .ret v → (res = laws_FnHistClash_R v ∧ outs = laws_FnHistClash_O v)) (st1 : Stp Bool Int Unit) (hc1 : Cont x1 (fun s : Int => Fin cx laws_FnHistClash_X res outs laws_FnHistClash_k3 (laws_FnHistClash_S2 drawHistClashes histClashes toldDone s)) st1) (puts1 : Bool) (h : laws_FnHistClash_k11 histClashes i entry1 q1 p1 puts1 = some st1) : Fin cx laws_FnHistClash_X res outs laws_FnHistClash_k5 (laws_FnHistClash_S4 drawHistClashes histClashes toldDone i entry1 q1 p1 puts1) :=
  (loopJ h fun x hl hr hb => (Fin.seg [[]] [] [3, 4, 5, 6, 8, 9, 10, 12, 14] [(1, 0)] [] .nil (laws_FnHistClash_b1_loop drawHistClashes histClashes toldDone i entry1 q1 p1 _ _ x (fun s e => laws_FnHistClash_k8_ok drawHistClashes histClashes toldDone i q1 p1 res outs x1 hb1 hr1 st1 hc1 s (hb s e)) (fun v e => (hr1 _ (retC (hr v e) hc1))) (puts1, 0) hl) (by kernel_rfl)))
noncomputable def laws_FnHistClash_k12 : List Item := posI 2000 16 [false, false, true, false] [.code laws_FnHistClash_c]
noncomputable def laws_FnHistClash_S9 (drawHistClashes : List TEntry) (histClashes : List TClash) (toldDone : List TReq) (i : Int) (entry : TEntry) (entry1 : TEntry) (q1 : Bool) (p1 : Bool) (puts : Bool) (k1 : Int) : St := ⟨(bs 3 (vsl 7 eEntry drawHistClashes :: (vsl 3 eClash histClashes :: (vsl 2 eReq toldDone :: (vi i :: (.ptr 1 0 0 :: (.ptr 2 0 0 :: (.b p1 :: (.b q1 :: (bs 1 (.b puts :: (vi k1 :: (bs 146 []))))))))))))), [some [], some [.var 36 [.b entry.None, vi entry.Req.Who, vi entry.Req.Seq, vsl 2 eRead entry.Run.Reads, vsl 2 ePut entry.Run.Puts, vi entry.Run.Val, vi entry.Run.Code]], some [.var 36 [.b entry1.None, vi entry1.Req.Who, vi entry1.Req.Seq, vsl 2 eRead entry1.Run.Reads, vsl 2 ePut entry1.Run.Puts, vi entry1.Run.Val, vi entry1.Run.Code]]]⟩
noncomputable def laws_FnHistClash_b2 (histClashes : List TClash) (i : Int) (entry : TEntry) (puts : Bool) (k1 : Int) : Option (Stp Bool (Bool × Int) Bool) :=
  (bif decide (k1 < (entry.Run.Puts.length : Int)) then
 (bif puts then
 some (Stp.nxt (true, w64 (k1 + 1)))
 else
 ((idx entry.Run.Puts k1).bind fun put1 =>
 ((idx histClashes i).bind fun clash4 =>
 some (Stp.nxt ((put1.Box == clash4.Box), w64 (k1 + 1))))))
 else
 some (Stp.brk puts))
theorem laws_FnHistClash_b2_ok (drawHistClashes : List TEntry) (histClashes : List TClash) (toldDone : List TReq) (i : Int) (entry : TEntry) (entry1 : TEntry) (q1 : Bool) (p1 : Bool) (res : V) (outs : List (Option V)) (x2 : Exc Bool Bool) (hb2 : ∀ s : Bool, x2 = .brk s → Fin cx laws_FnHistClash_X res outs laws_FnHistClash_k5 (laws_FnHistClash_S4 drawHistClashes histClashes toldDone i entry1 q1 p1 s)) (hr2 : ∀ v : Bool, x2 = .ret v → (res = laws_FnHistClash_R v ∧ outs = laws_FnHistClash_O v)) (st2 : Stp Bool (Bool × Int) Bool) (hc2 : Cont x2 (fun s : Bool × Int => Fin cx laws_FnHistClash_X res outs laws_FnHistClash_k12 (laws_FnHistClash_S9 drawHistClashes histClashes toldDone i entry entry1 q1 p1 s.1 s.2)) st2) (puts : Bool) (k1 : Int) (h : laws_FnHistClash_b2 histClashes i entry puts k1 = some st2) : Fin cx laws_FnHistClash_X res outs laws_FnHistClash_k12 (laws_FnHistClash_S9 drawHistClashes histClashes toldDone i entry entry1 q1 p1 puts k1) :=
  (condD h (fun e12 h =>
 (condD h (fun e13 h =>
 (nxtD h hc2 fun hI => (Fin.seg [[(5, { d := some true })], [(1, { d := some true })], []] [] [3, 4, 5, 6, 7, 8, 9, 10, 12, 13] [(1, 0), (2, 0)] [decide (k1 < (entry.Run.Puts.length : Int)) = true, puts = true] (.cons e12 (.cons e13 .nil)) hI (by kernel_rfl)))) (fun e13 h =>
 (bindD h fun put1 hput1 h =>
 (bindD h fun clash4 hclash4 h =>
 (nxtD h hc2 fun hI => (Fin.seg [[(5, { d := some true })], [(1, { d := some false }), (6, { a := .row (ePut put1) }), (11, { a := .row (eClash clash4) })], []] [] [3, 4, 5, 6, 7, 8, 9, 10, 12, 13] [(1, 0), (2, 0)] [decide (k1 < (entry.Run.Puts.length : Int)) = true, puts = false, (0 : Int) ≤ k1, k1 < ((entry.Run.Puts.length : Nat) : Int), (entry.Run.Puts.map ePut)[k1.toNat]? = some (ePut put1), (0 : Int) ≤ i, i < ((histClashes.length : Nat) : Int), (histClashes.map eClash)[i.toNat]? = some (eClash clash4)] (.cons e12 (.cons e13 (.cons (idx0 hput1) (.cons (idx1 hput1) (.cons (map_idx hput1) (.cons (idx0 hclash4) (.cons (idx1 hclash4) (.cons (map_idx hclash4) .nil)))))))) hI (by kernel_rfl)))))))) (fun e12 h =>
 (brkD h hc2 fun e => (Fin.seg [[(5, { d := some false })]] [] [3, 4, 5, 6, 8, 9, 10, 12] [(2, 0)] [decide (k1 < (entry.Run.Puts.length : Int)) = false] (.cons e12 .nil) (hb2 _ e) (by kernel_rfl)))))
theorem laws_FnHistClash_b2_loop (drawHistClashes : List TEntry) (histClashes : List TClash) (toldDone : List TReq) (i : Int) (entry : TEntry) (entry1 : TEntry) (q1 : Bool) (p1 : Bool) (res : V) (outs : List (Option V)) (x2 : Exc Bool Bool) (hb2 : ∀ s : Bool, x2 = .brk s → Fin cx laws_FnHistClash_X res outs laws_FnHistClash_k5 (laws_FnHistClash_S4 drawHistClashes histClashes toldDone i entry1 q1 p1 s)) (hr2 : ∀ v : Bool, x2 = .ret v → (res = laws_FnHistClash_R v ∧ outs = laws_FnHistClash_O v)) (s : Bool × Int) (h : loop (fun s : Bool × Int => laws_FnHistClash_b2 histClashes i entry s.1 s.2) s = some x2) : Fin cx laws_FnHistClash_X res outs laws_FnHistClash_k12 (laws_FnHistClash_S9 drawHistClashes histClashes toldDone i entry entry1 q1 p1 s.1 s.2) :=
  loopD (I := fun s : Bool × Int => Fin cx laws_FnHistClash_X res outs laws_FnHistClash_k12 (laws_FnHistClash_S9 drawHistClashes histClashes toldDone i entry entry1 q1 p1 s.1 s.2)) h fun s st h hc => laws_FnHistClash_b2_ok drawHistClashes histClashes toldDone i entry entry1 q1 p1 res outs x2 hb2 hr2 st hc s.1 s.2 h
noncomputable def laws_FnHistClash_k13 (histClashes : List TClash) (i : Int) (entry : TEntry) (entry1 : TEntry) (q1 : Bool) (p1 : Bool) : Option (Stp Bool Int Unit) :=
  ((loop (fun s : Bool × Int => laws_FnHistClash_b2 histClashes i entry s.1 s.2) (false, 0)).bind fun x => x.go (fun r => some (Stp.ret r)) fun s => laws_FnHistClash_k11 histClashes i entry1 q1 p1 s)
theorem laws_FnHistClash_k13_ok (drawHistClashes : List TEntry) (histClashes : List TClash) (toldDone : List TReq) (i : Int) (entry : TEntry) (entry1 : TEntry) (res : V) (outs : List (Option V)) (x1 : Exc Bool Unit) (hb1 : ∀ s : Unit, x1 = .brk s → Fin cx laws_FnHistClash_X res outs laws_FnHistClash_k1 (laws_FnHistClash_S1 histClashes toldDone)) (hr1 : ∀ v : Bool, x1 = .ret v → (res = laws_FnHistClash_R v ∧ outs = laws_FnHistClash_O v)) (st1 : Stp Bool Int Unit) (hc1 : Cont x1 (fun s : Int => Fin cx laws_FnHistClash_X res outs laws_FnHistClash_k3 (laws_FnHistClash_S2 drawHistClashes histClashes toldDone s)) st1) (q1 : Bool) (p1 : Bool) (h : laws_FnHistClash_k13 histClashes i entry entry1 q1 p1 = some st1) : Fin cx laws_FnHistClash_X res outs laws_FnHistClash_k4 (laws_FnHistClash_S3 drawHistClashes histClashes toldDone i entry entry1 q1 p1) :=
  (loopJ h fun x hl hr hb => (Fin.seg [[], []] [] [3, 4, 5, 6, 7, 8, 9, 10, 12, 13] [(1, 0), (2, 0)] [] .nil (laws_FnHistClash_b2_loop drawHistClashes histClashes toldDone i entry entry1 q1 p1 _ _ x (fun s e => laws_FnHistClash_k11_ok drawHistClashes histClashes toldDone i entry1 q1 p1 res outs x1 hb1 hr1 st1 hc1 s (hb s e)) (fun v e => (hr1 _ (retC (hr v e) hc1))) (false, 0) hl) (by kernel_rfl)))
noncomputable def laws_FnHistClash_k14 : List Item := posI 2000 13 [false, false, true] [.code laws_FnHistClash_c]
noncomputable def laws_FnHistClash_S10 (drawHistClashes : List TEntry) (histClashes : List TClash) (toldDone : List TReq) (i : Int) (entry : TEntry) (entry1 : TEntry) (q : Bool) (k : Int) (p : Bool) : St := ⟨(bs 3 (vsl 7 eEntry drawHistClashes :: (vsl 3 eClash histClashes :: (vsl 2 eReq toldDone :: (vi i :: (.ptr 1 0 0 :: (.ptr 2 0 0 :: (.b p :: (.b q :: (vi k :: (bs 148 []))))))))))), [some [], some [.var 36 [.b entry.None, vi entry.Req.Who, vi entry.Req.Seq, vsl 2 eRead entry.Run.Reads, vsl 2 ePut entry.Run.Puts, vi entry.Run.Val, vi entry.Run.Code]], some [.var 36 [.b entry1.None, vi entry1.Req.Who, vi entry1.Req.Seq, vsl 2 eRead entry1.Run.Reads, vsl 2 ePut entry1.Run.Puts, vi entry1.Run.Val, vi entry1.Run.Code]]]⟩
noncomputable def laws_FnHistClash_b3 (toldDone : List TReq) (entry : TEntry) (entry1 : TEntry) (q : Bool) (k : Int) (p : Bool) : Option (Stp Bool (Bool × Int × Bool) (Bool × Bool)) :=
  (bif decide (k < (toldDone.length : Int)) then
 (bif p then
 (bif q then
 some (Stp.nxt (true, w64 (k + 1), true))
 else
 ((idx toldDone k).bind fun req =>
 some (Stp.nxt ((([req.Who, req.Seq] : List Int) == [entry1.Req.Who, entry1.Req.Seq]), w64 (k + 1), true))))
 else
 ((idx toldDone k).bind fun req1 =>
 (bif q then
 some (Stp.nxt (true, w64 (k + 1), (([req1.Who, req1.Seq] : List Int) == [entry.Req.Who, entry.Req.Seq])))
 else
 some (Stp.nxt ((([req1.Who, req1.Seq] : List Int) == [entry1.Req.Who, entry1.Req.Seq]), w64 (k + 1), (([req1.Who, req1.Seq] : List Int) == [entry.Req.Who, entry.Req.Seq]))))))
 else
 some (Stp.brk (q, p)))
theorem laws_FnHistClash_b3_ok (drawHistClashes : List TEntry) (histClashes : List TClash) (toldDone : List TReq) (i : Int) (entry : TEntry) (entry1 : TEntry) (res : V) (outs : List (Option V)) (x2 : Exc Bool (Bool × Bool)) (hb2 : ∀ s : Bool × Bool, x2 = .brk s → Fin cx laws_FnHistClash_X res outs laws_FnHistClash_k4 (laws_FnHistClash_S3 drawHistClashes histClashes toldDone i entry entry1 s.1 s.2)) (hr2 : ∀ v : Bool, x2 = .ret v → (res = laws_FnHistClash_R v ∧ outs = laws_FnHistClash_O v)) (st2 : Stp Bool (Bool × Int × Bool) (Bool × Bool)) (hc2 : Cont x2 (fun s : Bool × Int × Bool => Fin cx laws_FnHistClash_X res outs laws_FnHistClash_k14 (laws_FnHistClash_S10 drawHistClashes histClashes toldDone i entry entry1 s.1 s.2.1 s.2.2)) st2) (q : Bool) (k : Int) (p : Bool) (h : laws_FnHistClash_b3 toldDone entry entry1 q k p = some st2) : Fin cx laws_FnHistClash_X res outs laws_FnHistClash_k14 (laws_FnHistClash_S10 drawHistClashes histClashes toldDone i entry entry1 q k p) :=
  (condD h (fun e14 h =>
 (condD h (fun e15 h =>
 (condD h (fun e16 h =>
 (nxtD h hc2 fun hI => (Fin.seg [[(3, { d := some true })], [(1, { d := some true })], [(1, { d := some true })], []] [] [3, 4, 5, 6, 7, 8, 9, 10, 11] [(1, 0), (2, 0)] [decide (k < (toldDone.length : Int)) = true, p = true, q = true] (.cons e14 (.cons e15 (.cons e16 .nil))) hI (by kernel_rfl)))) (fun e16 h =>
 (bindD h fun req hreq h =>
 (nxtD h hc2 fun hI => (Fin.seg [[(3, { d := some true })], [(1, { d := some true })], [(1, { d := some false }), (4, { a := .row (eReq req) })], []] [] [3, 4, 5, 6, 7, 8, 9, 10, 11] [(1, 0), (2, 0)] [decide (k < (toldDone.length : Int)) = true, p = true, q = false, (0 : Int) ≤ k, k < ((toldDone.length : Nat) : Int), (toldDone.map eReq)[k.toNat]? = some (eReq req)] (.cons e14 (.cons e15 (.cons e16 (.cons (idx0 hreq) (.cons (idx1 hreq) (.cons (map_idx hreq) .nil)))))) hI (by kernel_rfl))))))) (fun e15 h =>
 (bindD h fun req1 hreq1 h =>
 (condD h (fun e17 h =>
 (nxtD h hc2 fun hI => (Fin.seg [[(3, { d := some true })], [(1, { d := some false }), (4, { a := .row (eReq req1) })], [(1, { d := some true })], []] [] [3, 4, 5, 6, 7, 8, 9, 10, 11] [(1, 0), (2, 0)] [decide (k < (toldDone.length : Int)) = true, p = false, (0 : Int) ≤ k, k < ((toldDone.length : Nat) : Int), (toldDone.map eReq)[k.toNat]? = some (eReq req1), q = true] (.cons e14 (.cons e15 (.cons (idx0 hreq1) (.cons (idx1 hreq1) (.cons (map_idx hreq1) (.cons e17 .nil)))))) hI (by kernel_rfl)))) (fun e17 h =>
 (nxtD h hc2 fun hI => (Fin.seg [[(3, { d := some true })], [(1, { d := some false }), (4, { a := .row (eReq req1) })], [(1, { d := some false }), (4, { a := .row (eReq req1) })], []] [] [3, 4, 5, 6, 7, 8, 9, 10, 11] [(1, 0), (2, 0)] [decide (k < (toldDone.length : Int)) = true, p = false, (0 : Int) ≤ k, k < ((toldDone.length : Nat) : Int), (toldDone.map eReq)[k.toNat]? = some (eReq req1), q = false, (0 : Int) ≤ k, k < ((toldDone.length : Nat) : Int), (toldDone.map eReq)[k.toNat]? = some (eReq req1)] (.cons e14 (.cons e15 (.cons (idx0 hreq1) (.cons (idx1 hreq1) (.cons (map_idx hreq1) (.cons e17 (.cons (idx0 hreq1) (.cons (idx1 hreq1) (.cons (map_idx hreq1) .nil))))))))) hI (by kernel_rfl))))))))) (fun e14 h =>
 (brkD h hc2 fun e => (Fin.seg [[(3, { d := some false })]] [] [3, 4, 5, 6, 7, 8, 9, 10] [(1, 0), (2, 0)] [decide (k < (toldDone.length : Int)) = false] (.cons e14 .nil) (hb2 _ e) (by kernel_rfl)))))
theorem laws_FnHistClash_b3_loop (drawHistClashes : List TEntry) (histClashes : List TClash) (toldDone : List TReq) (i : Int) (entry : TEntry) (entry1 : TEntry) (res : V) (outs : List (Option V)) (x2 : Exc Bool (Bool × Bool)) (hb2 : ∀ s : Bool × Bool, x2 = .brk s → Fin cx laws_FnHistClash_X res outs laws_FnHistClash_k4 (laws_FnHistClash_S3 drawHistClashes histClashes toldDone i entry entry1 s.1 s.2)) (hr2 : ∀ v : Bool, x2 = .ret v → (res = laws_FnHistClash_R v ∧ outs = laws_FnHistClash_O v)) (s : Bool × Int × Bool) (h : loop (fun s : Bool × Int × Bool => laws_FnHistClash_b3 toldDone entry entry1 s.1 s.2.1 s.2.2) s = some x2) : Fin cx laws_FnHistClash_X res outs laws_FnHistClash_k14 (laws_FnHistClash_S10 drawHistClashes histClashes toldDone i entry entry1 s.1 s.2.1 s.2.2) :=
  loopD (I := fun s : Bool × Int × Bool => Fin cx laws_FnHistClash_X res outs laws_FnHistClash_k14 (laws_FnHistClash_S10 drawHistClashes histClashes toldDone i entry entry1 s.1 s.2.1 s.2.2)) h fun s st h hc => laws_FnHistClash_b3_ok drawHistClashes histClashes toldDone i entry entry1 res outs x2 hb2 hr2 st hc s.1 s.2.1 s.2.2 h
noncomputable def laws_FnHistClash_b4 (drawHistClashes : List TEntry) (histClashes : List TClash) (toldDone : List TReq) (i : Int) : Option (Stp Bool Int Unit) :=
  (bif decide (i < (histClashes.length : Int)) then
 ((idx histClashes i).bind fun clash =>
 ((idx drawHistClashes clash.First).bind fun entry =>
 ((idx drawHistClashes clash.Last).bind fun entry1 =>
 ((loop (fun s : Bool × Int × Bool => laws_FnHistClash_b3 toldDone entry entry1 s.1 s.2.1 s.2.2) (false, 0, false)).bind fun x => x.go (fun r => some (Stp.ret r)) fun s => laws_FnHistClash_k13 histClashes i entry entry1 s.1 s.2))))
 else
 some (Stp.brk ()))
theorem laws_FnHistClash_b4_ok (drawHistClashes : List TEntry) (histClashes : List TClash) (toldDone : List TReq) (res : V) (outs : List (Option V)) (x1 : Exc Bool Unit) (hb1 : ∀ s : Unit, x1 = .brk s → Fin cx laws_FnHistClash_X res outs laws_FnHistClash_k1 (laws_FnHistClash_S1 histClashes toldDone)) (hr1 : ∀ v : Bool, x1 = .ret v → (res = laws_FnHistClash_R v ∧ outs = laws_FnHistClash_O v)) (st1 : Stp Bool Int Unit) (hc1 : Cont x1 (fun s : Int => Fin cx laws_FnHistClash_X res outs laws_FnHistClash_k3 (laws_FnHistClash_S2 drawHistClashes histClashes toldDone s)) st1) (i : Int) (h : laws_FnHistClash_b4 drawHistClashes histClashes toldDone i = some st1) : Fin cx laws_FnHistClash_X res outs laws_FnHistClash_k3 (laws_FnHistClash_S2 drawHistClashes histClashes toldDone i) :=
  (condD h (fun e4 h =>
 (bindD h fun clash hclash h =>
 (bindD h fun entry hentry h =>
 (bindD h fun entry1 hentry1 h =>
 (loopJ h fun x hl hr hb => (Fin.seg [[(3, { d := some true })], [(3, { a := .row (eClash clash) }), (6, { a := .row (eEntry entry) })], [(3, { a := .row (eClash clash) }), (6, { a := .row (eEntry entry1) })], [], [], []] [] [3, 4, 5, 6, 7, 8, 9, 10, 11] [(13, 0), (23, 0)] [decide (i < (histClashes.length : Int)) = true, (0 : Int) ≤ i, i < ((histClashes.length : Nat) : Int), (histClashes.map eClash)[i.toNat]? = some (eClash clash), (0 : Int) ≤ clash.First, clash.First < ((drawHistClashes.length : Nat) : Int), (drawHistClashes.map eEntry)[clash.First.toNat]? = some (eEntry entry), (0 : Int) ≤ i, i < ((histClashes.length : Nat) : Int), (histClashes.map eClash)[i.toNat]? = some (eClash clash), (0 : Int) ≤ clash.Last, clash.Last < ((drawHistClashes.length : Nat) : Int), (drawHistClashes.map eEntry)[clash.Last.toNat]? = some (eEntry entry1)] (.cons e4 (.cons (idx0 hclash) (.cons (idx1 hclash) (.cons (map_idx hclash) (.cons (idx0 hentry) (.cons (idx1 hentry) (.cons (map_idx hentry) (.cons (idx0 hclash) (.cons (idx1 hclash) (.cons (map_idx hclash) (.cons (idx0 hentry1) (.cons (idx1 hentry1) (.cons (map_idx hentry1) .nil))))))))))))) (laws_FnHistClash_b3_loop drawHistClashes histClashes toldDone i entry entry1 _ _ x (fun s e => laws_FnHistClash_k13_ok drawHistClashes histClashes toldDone i entry entry1 res outs x1 hb1 hr1 st1 hc1 s.1 s.2 (hb s e)) (fun v e => (hr1 _ (retC (hr v e) hc1))) (false, 0, false) hl) (by kernel_rfl))))))) (fun e4 h =>
 (brkD h hc1 fun e => (Fin.seg [[(3, { d := some false })]] [] [4, 5] [] [decide (i < (histClashes.length : Int)) = false] (.cons e4 .nil) (hb1 _ e) (by kernel_rfl)))))
theorem laws_FnHistClash_b4_loop (drawHistClashes : List TEntry) (histClashes : List TClash) (toldDone : List TReq) (res : V) (outs : List (Option V)) (x1 : Exc Bool Unit) (hb1 : ∀ s : Unit, x1 = .brk s → Fin cx laws_FnHistClash_X res outs laws_FnHistClash_k1 (laws_FnHistClash_S1 histClashes toldDone)) (hr1 : ∀ v : Bool, x1 = .ret v → (res = laws_FnHistClash_R v ∧ outs = laws_FnHistClash_O v)) (s : Int) (h : loop (fun s : Int => laws_FnHistClash_b4 drawHistClashes histClashes toldDone s) s = some x1) : Fin cx laws_FnHistClash_X res outs laws_FnHistClash_k3 (laws_FnHistClash_S2 drawHistClashes histClashes toldDone s) :=
  loopD (I := fun s : Int => Fin cx laws_FnHistClash_X res outs laws_FnHistClash_k3 (laws_FnHistClash_S2 drawHistClashes histClashes toldDone s)) h fun s st h hc => laws_FnHistClash_b4_ok drawHistClashes histClashes toldDone res outs x1 hb1 hr1 st hc s h
noncomputable def laws_FnHistClash (code : List Int) : Option Bool :=
  (bif decide ((code.length : Int) > 1048576) then
 some true
 else
 ((spec_DrawHistClashes code).bind fun drawHistClashes =>
 ((impl_HistClashes drawHistClashes).bind fun histClashes =>
 ((spec_HistClashes drawHistClashes).bind fun histClashes1 =>
 (bif ((histClashes.length : Int) != (histClashes1.length : Int)) then
 some false
 else
 ((impl_ToldDone drawHistClashes).bind fun toldDone =>
 ((loop (fun s : Int => laws_FnHistClash_b4 drawHistClashes histClashes toldDone s) 0).bind fun x => x.go (fun r => some r) fun s => laws_FnHistClash_k2 histClashes toldDone)))))))
theorem laws_FnHistClash_fin (code : List Int) (r : Bool) (h : laws_FnHistClash code = some r) : Fin cx laws_FnHistClash_X (laws_FnHistClash_R r) (laws_FnHistClash_O r) [.code laws_FnHistClash_c] (startS laws_FnHistClash_X [vsl 1 eU8 code]) :=
  (condD h (fun e1 h =>
 (someD h fun e => (Fin.fin (cx := cx) (X := laws_FnHistClash_X) (res := laws_FnHistClash_R true) (outs := laws_FnHistClash_O true) Try.func3 [[], [(2, { d := some true })], []] [decide ((code.length : Int) > 1048576) = true] (.cons e1 .nil) (by kernel_rfl)).is (congrArg laws_FnHistClash_R e) (congrArg laws_FnHistClash_O e))) (fun e1 h =>
 (bindD h fun drawHistClashes hdrawHistClashes h =>
 (bindD h fun histClashes hhistClashes h =>
 (bindD h fun histClashes1 hhistClashes1 h =>
 (condD h (fun e2 h =>
 (someD h fun e => (Fin.fin (cx := cx) (X := laws_FnHistClash_X) (res := laws_FnHistClash_R false) (outs := laws_FnHistClash_O false) Try.func3 [[], [(2, { d := some false })], [(1, { a := .call [.val [some 1] []] false (spec_DrawHistClashes_R drawHistClashes) (spec_DrawHistClashes_O drawHistClashes) })], [(1, { a := .call [.val [some 7] []] false (impl_HistClashes_R histClashes) (impl_HistClashes_O histClashes) })], [(3, { a := .call [.val [some 7] []] false (spec_HistClashes_R histClashes1) (spec_HistClashes_O histClashes1) }), (5, { d := some true })], []] [decide ((code.length : Int) > 1048576) = false, ACalls cx.P 4 [vsl 1 eU8 code] (spec_DrawHistClashes_R drawHistClashes) (spec_DrawHistClashes_O drawHistClashes), ACalls cx.P 5 [vsl 7 eEntry drawHistClashes] (impl_HistClashes_R histClashes) (impl_HistClashes_O histClashes), ACalls cx.P 6 [vsl 7 eEntry drawHistClashes] (spec_HistClashes_R histClashes1) (spec_HistClashes_O histClashes1), ((histClashes.length : Int) != (histClashes1.length : Int)) = true] (.cons e1 (.cons (spec_DrawHistClashes_ok code drawHistClashes hdrawHistClashes) (.cons (impl_HistClashes_ok drawHistClashes histClashes hhistClashes) (.cons (spec_HistClashes_ok drawHistClashes histClashes1 hhistClashes1) (.cons e2 .nil))))) (by kernel_rfl)).is (congrArg laws_FnHistClash_R e) (congrArg laws_FnHistClash_O e))) (fun e2 h =>
 (bindD h fun toldDone htoldDone h =>
 (loopJ h fun x hl hr hb => (Fin.seg [[], [(2, { d := some false })], [(1, { a := .call [.val [some 1] []] false (spec_DrawHistClashes_R drawHistClashes) (spec_DrawHistClashes_O drawHistClashes) })], [(1, { a := .call [.val [some 7] []] false (impl_HistClashes_R histClashes) (impl_HistClashes_O histClashes) })], [(3, { a := .call [.val [some 7] []] false (spec_HistClashes_R histClashes1) (spec_HistClashes_O histClashes1) }), (5, { d := some false })], [(1, { a := .call [.val [some 7] []] false (impl_ToldDone_R toldDone) (impl_ToldDone_O toldDone) })], []] [] [3, 4, 5, 6] [] [decide ((code.length : Int) > 1048576) = false, ACalls cx.P 4 [vsl 1 eU8 code] (spec_DrawHistClashes_R drawHistClashes) (spec_DrawHistClashes_O drawHistClashes), ACalls cx.P 5 [vsl 7 eEntry drawHistClashes] (impl_HistClashes_R histClashes) (impl_HistClashes_O histClashes), ACalls cx.P 6 [vsl 7 eEntry drawHistClashes] (spec_HistClashes_R histClashes1) (spec_HistClashes_O histClashes1), ((histClashes.length : Int) != (histClashes1.length : Int)) = false, ACalls cx.P 7 [vsl 7 eEntry drawHistClashes] (impl_ToldDone_R toldDone) (impl_ToldDone_O toldDone)] (.cons e1 (.cons (spec_DrawHistClashes_ok code drawHistClashes hdrawHistClashes) (.cons (impl_HistClashes_ok drawHistClashes histClashes hhistClashes) (.cons (spec_HistClashes_ok drawHistClashes histClashes1 hhistClashes1) (.cons e2 (.cons (impl_ToldDone_ok drawHistClashes toldDone htoldDone) .nil)))))) (laws_FnHistClash_b4_loop drawHistClashes histClashes toldDone _ _ x (fun s e => laws_FnHistClash_k2_ok histClashes toldDone r (hb s e)) (fun v e => ⟨congrArg laws_FnHistClash_R (Option.some.inj (hr v e)).symm, congrArg laws_FnHistClash_O (Option.some.inj (hr v e)).symm⟩) 0 hl) (by kernel_rfl)))))))))))
theorem laws_FnHistClash_ok (code : List Int) (r : Bool) (h : laws_FnHistClash code = some r) : ACalls cx.P 3 [vsl 1 eU8 code] (laws_FnHistClash_R r) (laws_FnHistClash_O r) :=
  ACalls.of (cx := cx) (X := laws_FnHistClash_X) (c := laws_FnHistClash_c) Try.func3 (by kernel_rfl) (by kernel_rfl) (by kernel_rfl) (laws_FnHistClash_fin code r h)


end Go.Proofs.Ythefcgmhjonopaa
