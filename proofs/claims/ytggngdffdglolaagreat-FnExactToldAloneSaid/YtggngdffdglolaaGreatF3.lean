/- Functions of the program, and that their calls come to this. -/
import Derived.Test.YtggngdffdglolaaGreatF2
set_option linter.unusedVariables false
set_option linter.unusedSimpArgs false
namespace Go.Proofs.YtggngdffdglolaaGreat
open Go

/-! ### impl_same_Read -/
noncomputable def impl_same_Read_c : Code := bodyOf Tryz.f165
noncomputable def impl_same_Read_X : Sig := { f := 165, fn := Tryz.f165, rms := [.val [] []], oms := [none, none] }
noncomputable def impl_same_Read_R (r : Bool) : V := .b r
noncomputable def impl_same_Read_O (r : Bool) : List (Option V) := [none, none]
noncomputable def impl_same_Read_t (i : Nat) (fr : Bool) (r : Bool) : Nat × Tell := (i, { a := .call [.val [some 2] [], .val [some 2] []] fr (impl_same_Read_R r) (impl_same_Read_O r) })
noncomputable def impl_same_Read_k1 : List Item := posI 2000 4 [false, false] [.code impl_same_Read_c]
noncomputable def impl_same_Read_S1 : St := ⟨(bs 26 []), [some []]⟩
noncomputable def impl_same_Read_k2 : Option Bool :=
  some true
theorem impl_same_Read_k2_ok (r : Bool) (h : impl_same_Read_k2 = some r) : Fin cx impl_same_Read_X (impl_same_Read_R r) (impl_same_Read_O r) impl_same_Read_k1 (impl_same_Read_S1) :=
  P0 <|
 rg <| fe Tryz.func165 h
noncomputable def impl_same_Read_k3 : List Item := posI 2000 3 [false] [.code impl_same_Read_c]
noncomputable def impl_same_Read_S2 (a : List TRead) (b : List TRead) (v13 : Int) : St := ⟨(vsl 2 eRead a :: (vsl 2 eRead b :: (bs 10 (vi (a.length : Int) :: (vi v13 :: (bs 12 [])))))), [some []]⟩
noncomputable def impl_same_Read_b1 (a : List TRead) (b : List TRead) (v13 : Int) : Option (Stp Bool Int Unit) :=
  (bif decide (v13 < (a.length : Int)) then
 ((idx a v13).bind fun read =>
 ((idx b v13).bind fun read1 =>
 (bif (!(([read.Box, read.Ver] : List Int) == [read1.Box, read1.Ver])) then
 some (Stp.ret false)
 else
 some (Stp.nxt (w64 (v13 + 1))))))
 else
 some (Stp.brk ()))
theorem impl_same_Read_b1_ok (a : List TRead) (b : List TRead) (res : V) (outs : List (Option V)) (x1 : Exc Bool Unit) (hb1 : HB cx impl_same_Read_X res outs x1 impl_same_Read_k1 (fun s => impl_same_Read_S1)) (hr1 : HR res outs x1 impl_same_Read_R impl_same_Read_O) (st1 : Stp Bool Int Unit) (hc1 : Cont x1 (fun s : Int => Fin cx impl_same_Read_X res outs impl_same_Read_k3 (impl_same_Read_S2 a b s)) st1) (v13 : Int) (h : impl_same_Read_b1 a b v13 = some st1) : Fin cx impl_same_Read_X res outs impl_same_Read_k3 (impl_same_Read_S2 a b v13) :=
  P0 <|
 rg <| cdD 0 h (fun h =>
 rg2 <| ixS eRead 2 h fun read hread h =>
 ixS eRead 6 h fun read1 hread1 h =>
 cdD 8 h (fun h =>
 rg <| (retD h hc1 fun e => fn0 Tryz.func165 (hr1 _ e))) (fun h =>
 rg <| (nxtD h hc1 fun hI => sg [] [0, 1, 12, 13] [] hI))) (fun h =>
 (brkD h hc1 fun e => sg [] [] [] (hb1 _ e)))
noncomputable def impl_same_Read (a : List TRead) (b : List TRead) : Option Bool :=
  (bif ((a.length : Int) != (b.length : Int)) then
 some false
 else
 ((loop (fun s : Int => impl_same_Read_b1 a b s) 0).bind fun x => x.go (fun r => some r) fun s => impl_same_Read_k2))
theorem impl_same_Read_ok {a : List TRead} {b : List TRead} (r : Bool) (h : impl_same_Read a b = some r) : ACalls cx.P 165 [vsl 2 eRead a, vsl 2 eRead b] (impl_same_Read_R r) (impl_same_Read_O r) :=
  ACalls.of (cx := cx) (X := impl_same_Read_X) (c := impl_same_Read_c) Tryz.func165 (by kernel_rfl) (by kernel_rfl) (by kernel_rfl) (P0 <|
 rg2 <| cdD 4 h (fun h =>
 rg <| fe Tryz.func165 h) (fun h =>
 rg <| loopJ h fun x hl hr hb => sg [] [0, 1, 12, 13] [] (loopD (I := fun s : Int => Fin cx impl_same_Read_X (impl_same_Read_R r) (impl_same_Read_O r) impl_same_Read_k3 (impl_same_Read_S2 a b s)) hl fun s st h hc => impl_same_Read_b1_ok a b _ _ x (fun s e => impl_same_Read_k2_ok r (hb s e)) (fun v e => ⟨congrArg impl_same_Read_R (Option.some.inj (hr v e)).symm, congrArg impl_same_Read_O (Option.some.inj (hr v e)).symm⟩) st hc s h)))

/-! ### impl_same_Put -/
noncomputable def impl_same_Put_c : Code := bodyOf Tryz.f166
noncomputable def impl_same_Put_X : Sig := { f := 166, fn := Tryz.f166, rms := [.val [] []], oms := [none, none] }
noncomputable def impl_same_Put_R (r : Bool) : V := .b r
noncomputable def impl_same_Put_O (r : Bool) : List (Option V) := [none, none]
noncomputable def impl_same_Put_t (i : Nat) (fr : Bool) (r : Bool) : Nat × Tell := (i, { a := .call [.val [some 2] [], .val [some 2] []] fr (impl_same_Put_R r) (impl_same_Put_O r) })
noncomputable def impl_same_Put_k1 : List Item := posI 2000 4 [false, false] [.code impl_same_Put_c]
noncomputable def impl_same_Put_S1 : St := ⟨(bs 26 []), [some []]⟩
noncomputable def impl_same_Put_k2 : Option Bool :=
  some true
theorem impl_same_Put_k2_ok (r : Bool) (h : impl_same_Put_k2 = some r) : Fin cx impl_same_Put_X (impl_same_Put_R r) (impl_same_Put_O r) impl_same_Put_k1 (impl_same_Put_S1) :=
  P0 <|
 rg <| fe Tryz.func166 h
noncomputable def impl_same_Put_k3 : List Item := posI 2000 3 [false] [.code impl_same_Put_c]
noncomputable def impl_same_Put_S2 (a : List TPut) (b : List TPut) (v13 : Int) : St := ⟨(vsl 2 ePut a :: (vsl 2 ePut b :: (bs 10 (vi (a.length : Int) :: (vi v13 :: (bs 12 [])))))), [some []]⟩
noncomputable def impl_same_Put_b1 (a : List TPut) (b : List TPut) (v13 : Int) : Option (Stp Bool Int Unit) :=
  (bif decide (v13 < (a.length : Int)) then
 ((idx a v13).bind fun put =>
 ((idx b v13).bind fun put1 =>
 (bif (!(([put.Box, put.Val] : List Int) == [put1.Box, put1.Val])) then
 some (Stp.ret false)
 else
 some (Stp.nxt (w64 (v13 + 1))))))
 else
 some (Stp.brk ()))
theorem impl_same_Put_b1_ok (a : List TPut) (b : List TPut) (res : V) (outs : List (Option V)) (x1 : Exc Bool Unit) (hb1 : HB cx impl_same_Put_X res outs x1 impl_same_Put_k1 (fun s => impl_same_Put_S1)) (hr1 : HR res outs x1 impl_same_Put_R impl_same_Put_O) (st1 : Stp Bool Int Unit) (hc1 : Cont x1 (fun s : Int => Fin cx impl_same_Put_X res outs impl_same_Put_k3 (impl_same_Put_S2 a b s)) st1) (v13 : Int) (h : impl_same_Put_b1 a b v13 = some st1) : Fin cx impl_same_Put_X res outs impl_same_Put_k3 (impl_same_Put_S2 a b v13) :=
  P0 <|
 rg <| cdD 0 h (fun h =>
 rg2 <| ixS ePut 2 h fun put hput h =>
 ixS ePut 6 h fun put1 hput1 h =>
 cdD 8 h (fun h =>
 rg <| (retD h hc1 fun e => fn0 Tryz.func166 (hr1 _ e))) (fun h =>
 rg <| (nxtD h hc1 fun hI => sg [] [0, 1, 12, 13] [] hI))) (fun h =>
 (brkD h hc1 fun e => sg [] [] [] (hb1 _ e)))
noncomputable def impl_same_Put (a : List TPut) (b : List TPut) : Option Bool :=
  (bif ((a.length : Int) != (b.length : Int)) then
 some false
 else
 ((loop (fun s : Int => impl_same_Put_b1 a b s) 0).bind fun x => x.go (fun r => some r) fun s => impl_same_Put_k2))
theorem impl_same_Put_ok {a : List TPut} {b : List TPut} (r : Bool) (h : impl_same_Put a b = some r) : ACalls cx.P 166 [vsl 2 ePut a, vsl 2 ePut b] (impl_same_Put_R r) (impl_same_Put_O r) :=
  ACalls.of (cx := cx) (X := impl_same_Put_X) (c := impl_same_Put_c) Tryz.func166 (by kernel_rfl) (by kernel_rfl) (by kernel_rfl) (P0 <|
 rg2 <| cdD 4 h (fun h =>
 rg <| fe Tryz.func166 h) (fun h =>
 rg <| loopJ h fun x hl hr hb => sg [] [0, 1, 12, 13] [] (loopD (I := fun s : Int => Fin cx impl_same_Put_X (impl_same_Put_R r) (impl_same_Put_O r) impl_same_Put_k3 (impl_same_Put_S2 a b s)) hl fun s st h hc => impl_same_Put_b1_ok a b _ _ x (fun s e => impl_same_Put_k2_ok r (hb s e)) (fun v e => ⟨congrArg impl_same_Put_R (Option.some.inj (hr v e)).symm, congrArg impl_same_Put_O (Option.some.inj (hr v e)).symm⟩) st hc s h)))

/-! ### impl_ExecSame -/
noncomputable def impl_ExecSame_c : Code := bodyOf Tryz.f142
noncomputable def impl_ExecSame_X : Sig := { f := 142, fn := Tryz.f142, rms := [.val [] []], oms := [none, none] }
noncomputable def impl_ExecSame_R (r : Bool) : V := .b r
noncomputable def impl_ExecSame_O (r : Bool) : List (Option V) := [none, none]
noncomputable def impl_ExecSame_t (i : Nat) (fr : Bool) (r : Bool) : Nat × Tell := (i, { a := .call [.val ck73 [], .val ck73 []] fr (impl_ExecSame_R r) (impl_ExecSame_O r) })
noncomputable def impl_ExecSame (a : TRun) (b : TRun) : Option Bool :=
  ((impl_same_Read a.Reads b.Reads).bind fun read =>
 (bif read then
 ((impl_same_Put a.Puts b.Puts).bind fun put =>
 (bif put then
 (bif (a.Val == b.Val) then
 some (a.Code == b.Code)
 else
 some false)
 else
 some false))
 else
 some false))
theorem impl_ExecSame_ok {a : TRun} {b : TRun} (r : Bool) (h : impl_ExecSame a b = some r) : ACalls cx.P 142 [.agg (eRun a), .agg (eRun b)] (impl_ExecSame_R r) (impl_ExecSame_O r) :=
  ACalls.of (cx := cx) (X := impl_ExecSame_X) (c := impl_ExecSame_c) Tryz.func142 (by kernel_rfl) (by kernel_rfl) (by kernel_rfl) (P0 <|
 rg2 <| cb impl_same_Read_t impl_same_Read_ok 4 false h fun read h =>
 cdD 5 h (fun h =>
 cb impl_same_Put_t impl_same_Put_ok 10 false h fun put h =>
 cdD 12 h (fun h =>
 cdD 19 h (fun h =>
 fe Tryz.func142 h) (fun h =>
 fe Tryz.func142 h)) (fun h =>
 fe Tryz.func142 h)) (fun h =>
 fe Tryz.func142 h))

/-! ### impl_CertLike -/
noncomputable def impl_CertLike_c : Code := bodyOf Tryz.f110
noncomputable def impl_CertLike_X : Sig := { f := 110, fn := Tryz.f110, rms := [.val [] []], oms := [none, none] }
noncomputable def impl_CertLike_R (r : Bool) : V := .b r
noncomputable def impl_CertLike_O (r : Bool) : List (Option V) := [none, none]
noncomputable def impl_CertLike_t (i : Nat) (fr : Bool) (r : Bool) : Nat × Tell := (i, { a := .call [.val ck75 [], .val ck75 []] fr (impl_CertLike_R r) (impl_CertLike_O r) })
noncomputable def impl_CertLike (a : TEntry) (b : TEntry) : Option Bool :=
  (bif (a.None == b.None) then
 (bif (([a.Req.Who, a.Req.Seq] : List Int) == [b.Req.Who, b.Req.Seq]) then
 ((impl_ExecSame a.Run b.Run).bind fun execSame =>
 some execSame)
 else
 some false)
 else
 some false)
theorem impl_CertLike_ok {a : TEntry} {b : TEntry} (r : Bool) (h : impl_CertLike a b = some r) : ACalls cx.P 110 [.agg (eEntry a), .agg (eEntry b)] (impl_CertLike_R r) (impl_CertLike_O r) :=
  ACalls.of (cx := cx) (X := impl_CertLike_X) (c := impl_CertLike_c) Tryz.func110 (by kernel_rfl) (by kernel_rfl) (by kernel_rfl) (P0 <|
 rg2 <| cdD 5 h (fun h =>
 cdD 12 h (fun h =>
 cb impl_ExecSame_t impl_ExecSame_ok 17 false h fun execSame h =>
 fe Tryz.func110 h) (fun h =>
 fe Tryz.func110 h)) (fun h =>
 fe Tryz.func110 h))

/-! ### impl_reqOk -/
noncomputable def impl_reqOk_c : Code := bodyOf Tryz.f62
noncomputable def impl_reqOk_X : Sig := { f := 62, fn := Tryz.f62, rms := [.val [] []], oms := [none] }
noncomputable def impl_reqOk_R (r : Bool) : V := .b r
noncomputable def impl_reqOk_O (r : Bool) : List (Option V) := [none]
noncomputable def impl_reqOk_t (i : Nat) (fr : Bool) (r : Bool) : Nat × Tell := (i, { a := .call [.val [] []] fr (impl_reqOk_R r) (impl_reqOk_O r) })
noncomputable def impl_reqOk (q : TReq) : Option Bool :=
  ((impl_in q.Who 0 2).bind fun in_ =>
 (bif in_ then
 ((impl_in q.Seq 1 1000).bind fun in_1 =>
 some in_1)
 else
 some false))
theorem impl_reqOk_ok {q : TReq} (r : Bool) (h : impl_reqOk q = some r) : ACalls cx.P 62 [.agg (eReq q)] (impl_reqOk_R r) (impl_reqOk_O r) :=
  ACalls.of (cx := cx) (X := impl_reqOk_X) (c := impl_reqOk_c) Tryz.func62 (by kernel_rfl) (by kernel_rfl) (by kernel_rfl) (P0 <|
 rg2 <| cb impl_in_t impl_in_ok 2 false h fun in_ h =>
 cdD 3 h (fun h =>
 cb impl_in_t impl_in_ok 6 false h fun in_1 h =>
 fe Tryz.func62 h) (fun h =>
 fe Tryz.func62 h))

/-! ### impl_ExecOk -/
noncomputable def impl_ExecOk_c : Code := bodyOf Tryz.f141
noncomputable def impl_ExecOk_X : Sig := { f := 141, fn := Tryz.f141, rms := [.val [] []], oms := [none] }
noncomputable def impl_ExecOk_R (r : Bool) : V := .b r
noncomputable def impl_ExecOk_O (r : Bool) : List (Option V) := [none]
noncomputable def impl_ExecOk_t (i : Nat) (fr : Bool) (r : Bool) : Nat × Tell := (i, { a := .call [.val ck73 []] fr (impl_ExecOk_R r) (impl_ExecOk_O r) })
noncomputable def impl_ExecOk_k1 : List Item := posI 2000 2 [false] [.code impl_ExecOk_c]
noncomputable def impl_ExecOk_S1 (r_ : TRun) : St := ⟨(bs 1 (.ptr 1 0 0 :: (bs 98 []))), [some [], some [.var 73 [vsl 2 eRead r_.Reads, vsl 2 ePut r_.Puts, vi r_.Val, vi r_.Code]]]⟩
noncomputable def impl_ExecOk_k2 : List Item := posI 2000 5 [false, false] [.code impl_ExecOk_c]
noncomputable def impl_ExecOk_S2 (r_ : TRun) : St := ⟨(bs 1 (.ptr 1 0 0 :: (bs 2 (.ptr 2 0 0 :: (bs 95 []))))), [some [], some [.var 73 [vsl 2 eRead r_.Reads, vsl 2 ePut r_.Puts, vi r_.Val, vi r_.Code]], some [.arr 220 1 4 ((List.replicate 4 false).map eB)]]⟩
noncomputable def impl_ExecOk_k3 : List Item := posI 2000 7 [false, false, false] [.code impl_ExecOk_c]
noncomputable def impl_ExecOk_S3 : St := ⟨(bs 100 []), [some []]⟩
noncomputable def impl_ExecOk_k4 : Option Bool :=
  some true
theorem impl_ExecOk_k4_ok (r : Bool) (h : impl_ExecOk_k4 = some r) : Fin cx impl_ExecOk_X (impl_ExecOk_R r) (impl_ExecOk_O r) impl_ExecOk_k3 (impl_ExecOk_S3) :=
  P0 <|
 rg <| fe Tryz.func141 h
noncomputable def impl_ExecOk_k5 : List Item := posI 2000 6 [false, false] [.code impl_ExecOk_c]
noncomputable def impl_ExecOk_S4 (r_ : TRun) (put : List Bool) (v76 : Int) : St := ⟨(bs 4 (.ptr 1 0 0 :: (bs 69 (vsl 2 ePut r_.Puts :: (vi (r_.Puts.length : Int) :: (vi v76 :: (bs 23 []))))))), [some [], some [.arr 220 1 4 (put.map eB)]]⟩
noncomputable def impl_ExecOk_b1 (r_ : TRun) (put : List Bool) (v76 : Int) : Option (Stp Bool ((List Bool) × Int) Unit) :=
  (bif decide (v76 < (r_.Puts.length : Int)) then
 ((idx r_.Puts v76).bind fun put1 =>
 ((impl_in put1.Box 0 3).bind fun in_ =>
 (bif (!in_) then
 some (Stp.ret false)
 else
 ((idx put put1.Box).bind fun y =>
 (need (put1.Box < 4)
 ((bif y then
 some (Stp.ret false)
 else
 ((impl_in put1.Val (-1000000) 1000000).bind fun in_1 =>
 (bif (!in_1) then
 some (Stp.ret false)
 else
 (need (put1.Box < 4)
 (some (Stp.nxt (put.set put1.Box.toNat true, w64 (v76 + 1))))))))))))))
 else
 some (Stp.brk ()))
theorem impl_ExecOk_b1_ok (r_ : TRun) (res : V) (outs : List (Option V)) (x1 : Exc Bool Unit) (hb1 : HB cx impl_ExecOk_X res outs x1 impl_ExecOk_k3 (fun s => impl_ExecOk_S3)) (hr1 : HR res outs x1 impl_ExecOk_R impl_ExecOk_O) (st1 : Stp Bool ((List Bool) × Int) Unit) (hc1 : Cont x1 (fun s : (List Bool) × Int => Fin cx impl_ExecOk_X res outs impl_ExecOk_k5 (impl_ExecOk_S4 r_ s.1 s.2)) st1) (put : List Bool) (v76 : Int) (h : impl_ExecOk_b1 r_ put v76 = some st1) : Fin cx impl_ExecOk_X res outs impl_ExecOk_k5 (impl_ExecOk_S4 r_ put v76) :=
  P0 <|
 rg <| cdD 0 h (fun h =>
 rg <| ixS ePut 0 h fun put1 hput1 h =>
 rg <| cb impl_in_t impl_in_ok 2 false h fun in_ h =>
 cdD 4 h (fun h =>
 rg <| (retD h hc1 fun e => fn0 Tryz.func141 (hr1 _ e))) (fun h =>
 bindD h fun y hy h =>
 needD h fun e1 h =>
 ob (idx0 hy) <| ob e1 <| ob (map_idx (enc := eB) hy) <| tl (tr 8 (eB y)) <| cdD 10 h (fun h =>
 rg <| (retD h hc1 fun e => fn0 Tryz.func141 (hr1 _ e))) (fun h =>
 cb impl_in_t impl_in_ok 13 false h fun in_1 h =>
 cdD 15 h (fun h =>
 rg <| (retD h hc1 fun e => fn0 Tryz.func141 (hr1 _ e))) (fun h =>
 rg <| needD h fun e2 h =>
 ob (idx0 hy) <| ob e2 <| om (Ent.arr 220 1 4 ((put.map eB).set (put1.Box.toNat) [.b true]) = Ent.arr 220 1 4 ((put.set put1.Box.toNat true).map eB)) (arr_set rfl) <| ob (map_idx (enc := eB) hy) <| tl (3, { a := .rowck (eB y) [], e := some (.arr 220 1 4 ((put.set put1.Box.toNat true).map eB)) }) <| rg <| (nxtD h hc1 fun hI => sg [] [4, 74, 75, 76] [(1, 0)] hI))))) (fun h =>
 (brkD h hc1 fun e => sg [] [] [] (hb1 _ e)))
noncomputable def impl_ExecOk_k6 (r_ : TRun) : Option Bool :=
  ((loop (fun s : (List Bool) × Int => impl_ExecOk_b1 r_ s.1 s.2) (List.replicate 4 false, 0)).bind fun x => x.go (fun r => some r) fun s => impl_ExecOk_k4)
theorem impl_ExecOk_k6_ok (r_ : TRun) (r : Bool) (h : impl_ExecOk_k6 r_ = some r) : Fin cx impl_ExecOk_X (impl_ExecOk_R r) (impl_ExecOk_O r) impl_ExecOk_k2 (impl_ExecOk_S2 r_) :=
  P0 <|
 rg <| loopJ h fun x hl hr hb => sg [] [4, 74, 75, 76] [(2, 0)] (loopD (I := fun s : (List Bool) × Int => Fin cx impl_ExecOk_X (impl_ExecOk_R r) (impl_ExecOk_O r) impl_ExecOk_k5 (impl_ExecOk_S4 r_ s.1 s.2)) hl fun s st h hc => impl_ExecOk_b1_ok r_ _ _ x (fun s e => impl_ExecOk_k4_ok r (hb s e)) (fun v e => ⟨congrArg impl_ExecOk_R (Option.some.inj (hr v e)).symm, congrArg impl_ExecOk_O (Option.some.inj (hr v e)).symm⟩) st hc s.1 s.2 h)
noncomputable def impl_ExecOk_k7 : List Item := posI 2000 4 [false] [.code impl_ExecOk_c]
noncomputable def impl_ExecOk_S5 (r_ : TRun) (read : List Bool) (v49 : Int) : St := ⟨(bs 1 (.ptr 1 0 0 :: (bs 1 (.ptr 2 0 0 :: (.ptr 3 0 0 :: (bs 42 (vsl 2 eRead r_.Reads :: (vi (r_.Reads.length : Int) :: (vi v49 :: (bs 50 [])))))))))), [some [], some [.var 73 [vsl 2 eRead r_.Reads, vsl 2 ePut r_.Puts, vi r_.Val, vi r_.Code]], some [.arr 220 1 4 (read.map eB)], some [.arr 220 1 4 ((List.replicate 4 false).map eB)]]⟩
noncomputable def impl_ExecOk_b2 (r_ : TRun) (read : List Bool) (v49 : Int) : Option (Stp Bool ((List Bool) × Int) Unit) :=
  (bif decide (v49 < (r_.Reads.length : Int)) then
 ((idx r_.Reads v49).bind fun read1 =>
 ((impl_in read1.Box 0 3).bind fun in_2 =>
 (bif (!in_2) then
 some (Stp.ret false)
 else
 ((idx read read1.Box).bind fun y1 =>
 (need (read1.Box < 4)
 ((bif y1 then
 some (Stp.ret false)
 else
 ((impl_in read1.Ver 0 1000000).bind fun in_3 =>
 (bif (!in_3) then
 some (Stp.ret false)
 else
 (need (read1.Box < 4)
 (some (Stp.nxt (read.set read1.Box.toNat true, w64 (v49 + 1))))))))))))))
 else
 some (Stp.brk ()))
theorem impl_ExecOk_b2_ok (r_ : TRun) (res : V) (outs : List (Option V)) (x1 : Exc Bool Unit) (hb1 : HB cx impl_ExecOk_X res outs x1 impl_ExecOk_k2 (fun s => impl_ExecOk_S2 r_)) (hr1 : HR res outs x1 impl_ExecOk_R impl_ExecOk_O) (st1 : Stp Bool ((List Bool) × Int) Unit) (hc1 : Cont x1 (fun s : (List Bool) × Int => Fin cx impl_ExecOk_X res outs impl_ExecOk_k7 (impl_ExecOk_S5 r_ s.1 s.2)) st1) (read : List Bool) (v49 : Int) (h : impl_ExecOk_b2 r_ read v49 = some st1) : Fin cx impl_ExecOk_X res outs impl_ExecOk_k7 (impl_ExecOk_S5 r_ read v49) :=
  P0 <|
 rg <| cdD 0 h (fun h =>
 rg <| ixS eRead 0 h fun read1 hread1 h =>
 rg <| cb impl_in_t impl_in_ok 2 false h fun in_2 h =>
 cdD 4 h (fun h =>
 rg <| (retD h hc1 fun e => fn0 Tryz.func141 (hr1 _ e))) (fun h =>
 bindD h fun y1 hy1 h =>
 needD h fun e3 h =>
 ob (idx0 hy1) <| ob e3 <| ob (map_idx (enc := eB) hy1) <| tl (tr 8 (eB y1)) <| cdD 10 h (fun h =>
 rg <| (retD h hc1 fun e => fn0 Tryz.func141 (hr1 _ e))) (fun h =>
 cb impl_in_t impl_in_ok 13 false h fun in_3 h =>
 cdD 15 h (fun h =>
 rg <| (retD h hc1 fun e => fn0 Tryz.func141 (hr1 _ e))) (fun h =>
 rg <| needD h fun e4 h =>
 ob (idx0 hy1) <| ob e4 <| om (Ent.arr 220 1 4 ((read.map eB).set (read1.Box.toNat) [.b true]) = Ent.arr 220 1 4 ((read.set read1.Box.toNat true).map eB)) (arr_set rfl) <| ob (map_idx (enc := eB) hy1) <| tl (3, { a := .rowck (eB y1) [], e := some (.arr 220 1 4 ((read.set read1.Box.toNat true).map eB)) }) <| rg <| (nxtD h hc1 fun hI => sg [] [1, 3, 4, 47, 48, 49] [(1, 0), (2, 0), (3, 0)] hI))))) (fun h =>
 (brkD h hc1 fun e => sg [] [1, 4] [(1, 0), (3, 0)] (hb1 _ e)))
noncomputable def impl_ExecOk_j1 (r_ : TRun) : Option Bool :=
  ((loop (fun s : (List Bool) × Int => impl_ExecOk_b2 r_ s.1 s.2) (List.replicate 4 false, 0)).bind fun x => x.go (fun r => some r) fun s => impl_ExecOk_k6 r_)
theorem impl_ExecOk_j1_ok (r_ : TRun) (r : Bool) (h : impl_ExecOk_j1 r_ = some r) : Fin cx impl_ExecOk_X (impl_ExecOk_R r) (impl_ExecOk_O r) impl_ExecOk_k1 (impl_ExecOk_S1 r_) :=
  P0 <|
 rg <| om ((List.replicate 4 ([.b false] : List V)).flatten = [.b false, .b false, .b false, .b false] ∧ ([.b false] : List V).length = 1) ⟨rfl, rfl⟩ <| om ((List.replicate 4 ([.b false] : List V)).flatten = [.b false, .b false, .b false, .b false] ∧ ([.b false] : List V).length = 1) ⟨rfl, rfl⟩ <| rg <| loopJ h fun x hl hr hb => sg [] [1, 3, 4, 47, 48, 49] [(1, 0), (2, 0), (3, 0)] (loopD (I := fun s : (List Bool) × Int => Fin cx impl_ExecOk_X (impl_ExecOk_R r) (impl_ExecOk_O r) impl_ExecOk_k7 (impl_ExecOk_S5 r_ s.1 s.2)) hl fun s st h hc => impl_ExecOk_b2_ok r_ _ _ x (fun s e => impl_ExecOk_k6_ok r_ r (hb s e)) (fun v e => ⟨congrArg impl_ExecOk_R (Option.some.inj (hr v e)).symm, congrArg impl_ExecOk_O (Option.some.inj (hr v e)).symm⟩) st hc s.1 s.2 h)
noncomputable def impl_ExecOk (r_ : TRun) : Option Bool :=
  ((((impl_in r_.Code 0 3).bind fun in_4 =>
 (bif (!in_4) then
 some (Exc.ret false)
 else
 ((impl_in r_.Val (-1000000) 1000000).bind fun in_5 =>
 (bif (!in_5) then
 some (Exc.ret false)
 else
 (bif (r_.Code != 0) then
 (bif (r_.Val != 0) then
 some (Exc.ret false)
 else
 (bif decide ((r_.Puts.length : Int) > 0) then
 some (Exc.ret false)
 else
 (bif (r_.Code == 3) then
 (bif decide ((r_.Reads.length : Int) > 0) then
 some (Exc.ret false)
 else
 some (Exc.brk ()))
 else
 some (Exc.brk ()))))
 else
 (bif (r_.Code == 3) then
 (bif decide ((r_.Reads.length : Int) > 0) then
 some (Exc.ret false)
 else
 some (Exc.brk ()))
 else
 some (Exc.brk ()))))))) : Option (Exc Bool Unit)).bind fun x => x.go some fun j => impl_ExecOk_j1 r_)
theorem impl_ExecOk_ok {r_ : TRun} (r : Bool) (h : impl_ExecOk r_ = some r) : ACalls cx.P 141 [.agg (eRun r_)] (impl_ExecOk_R r) (impl_ExecOk_O r) :=
  ACalls.of (cx := cx) (X := impl_ExecOk_X) (c := impl_ExecOk_c) Tryz.func141 (by kernel_rfl) (by kernel_rfl) (by kernel_rfl) (P0 <|
 rg <| joinD (I := fun j : Unit => Fin cx impl_ExecOk_X (impl_ExecOk_R r) (impl_ExecOk_O r) impl_ExecOk_k1 (impl_ExecOk_S1 r_)) h (fun j h => impl_ExecOk_j1_ok r_ r h) (fun x1 h hc1 =>
  rg <| cb impl_in_t impl_in_ok 2 false h fun in_4 h =>
 cdD 4 h (fun h =>
 rg <| (jretD h hc1 fun h => fe Tryz.func141 h)) (fun h =>
 cb impl_in_t impl_in_ok 7 false h fun in_5 h =>
 cdD 10 h (fun h =>
 rg <| (jretD h hc1 fun h => fe Tryz.func141 h)) (fun h =>
 cdD 14 h (fun h =>
 cdD 18 h (fun h =>
 rg <| (jretD h hc1 fun h => fe Tryz.func141 h)) (fun h =>
 cdD 26 h (fun h =>
 rg <| (jretD h hc1 fun h => fe Tryz.func141 h)) (fun h =>
 cdD 30 h (fun h =>
 cdD 36 h (fun h =>
 rg <| (jretD h hc1 fun h => fe Tryz.func141 h)) (fun h =>
 (jbrkD h hc1 fun hI => sg [] [1] [(1, 0)] hI))) (fun h =>
 (jbrkD h hc1 fun hI => sg [] [1] [(1, 0)] hI))))) (fun h =>
 cdD 30 h (fun h =>
 cdD 36 h (fun h =>
 rg <| (jretD h hc1 fun h => fe Tryz.func141 h)) (fun h =>
 (jbrkD h hc1 fun hI => sg [] [1] [(1, 0)] hI))) (fun h =>
 (jbrkD h hc1 fun hI => sg [] [1] [(1, 0)] hI)))))))

/-! ### impl_CertEntry -/
noncomputable def impl_CertEntry_c : Code := bodyOf Tryz.f109
noncomputable def impl_CertEntry_X : Sig := { f := 109, fn := Tryz.f109, rms := [.val [] []], oms := [none] }
noncomputable def impl_CertEntry_R (r : Bool) : V := .b r
noncomputable def impl_CertEntry_O (r : Bool) : List (Option V) := [none]
noncomputable def impl_CertEntry_t (i : Nat) (fr : Bool) (r : Bool) : Nat × Tell := (i, { a := .call [.val ck75 []] fr (impl_CertEntry_R r) (impl_CertEntry_O r) })
noncomputable def impl_CertEntry (e_ : TEntry) : Option Bool :=
  (bif e_.None then
 ((impl_CertLike e_ (TEntry.mk true (TReq.mk 0 0) (TRun.mk [] [] 0 0))).bind fun certLike =>
 some certLike)
 else
 ((impl_reqOk e_.Req).bind fun reqOk =>
 (bif reqOk then
 ((impl_ExecOk e_.Run).bind fun execOk =>
 (bif execOk then
 some (e_.Run.Code != 3)
 else
 some false))
 else
 some false)))
theorem impl_CertEntry_ok {e_ : TEntry} (r : Bool) (h : impl_CertEntry e_ = some r) : ACalls cx.P 109 [.agg (eEntry e_)] (impl_CertEntry_R r) (impl_CertEntry_O r) :=
  ACalls.of (cx := cx) (X := impl_CertEntry_X) (c := impl_CertEntry_c) Tryz.func109 (by kernel_rfl) (by kernel_rfl) (by kernel_rfl) (P0 <|
 rg2 <| cdD 1 h (fun h =>
 rg <| cb impl_CertLike_t impl_CertLike_ok 2 false h fun certLike h =>
 fe Tryz.func109 h) (fun h =>
 rg <| cb impl_reqOk_t impl_reqOk_ok 2 false h fun reqOk h =>
 cdD 3 h (fun h =>
 cb impl_ExecOk_t impl_ExecOk_ok 6 false h fun execOk h =>
 cdD 8 h (fun h =>
 fe Tryz.func109 h) (fun h =>
 fe Tryz.func109 h)) (fun h =>
 fe Tryz.func109 h)))

/-! ### impl_voteOk -/
noncomputable def impl_voteOk_c : Code := bodyOf Tryz.f145
noncomputable def impl_voteOk_X : Sig := { f := 145, fn := Tryz.f145, rms := [.val [] []], oms := [none] }
noncomputable def impl_voteOk_R (r : Bool) : V := .b r
noncomputable def impl_voteOk_O (r : Bool) : List (Option V) := [none]
noncomputable def impl_voteOk_t (i : Nat) (fr : Bool) (r : Bool) : Nat × Tell := (i, { a := .call [.val ck188 []] fr (impl_voteOk_R r) (impl_voteOk_O r) })
noncomputable def impl_voteOk (v_ : TVote) : Option Bool :=
  (bif (v_.Bal == 0) then
 ((impl_CertLike v_.Entry (TEntry.mk false (TReq.mk 0 0) (TRun.mk [] [] 0 0))).bind fun certLike =>
 some certLike)
 else
 ((impl_in v_.Bal 1 3000).bind fun in_ =>
 (bif in_ then
 ((impl_CertEntry v_.Entry).bind fun certEntry =>
 some certEntry)
 else
 some false)))
theorem impl_voteOk_ok {v_ : TVote} (r : Bool) (h : impl_voteOk v_ = some r) : ACalls cx.P 145 [.agg (eVote v_)] (impl_voteOk_R r) (impl_voteOk_O r) :=
  ACalls.of (cx := cx) (X := impl_voteOk_X) (c := impl_voteOk_c) Tryz.func145 (by kernel_rfl) (by kernel_rfl) (by kernel_rfl) (P0 <|
 rg2 <| cdD 2 h (fun h =>
 rg <| cb impl_CertLike_t impl_CertLike_ok 3 false h fun certLike h =>
 fe Tryz.func145 h) (fun h =>
 rg <| cb impl_in_t impl_in_ok 2 false h fun in_ h =>
 cdD 3 h (fun h =>
 cb impl_CertEntry_t impl_CertEntry_ok 6 false h fun certEntry h =>
 fe Tryz.func145 h) (fun h =>
 fe Tryz.func145 h)))

/-! ### impl_votesOk -/
noncomputable def impl_votesOk_c : Code := bodyOf Tryz.f112
noncomputable def impl_votesOk_X : Sig := { f := 112, fn := Tryz.f112, rms := [.val [] []], oms := [none] }
noncomputable def impl_votesOk_R (r : Bool) : V := .b r
noncomputable def impl_votesOk_O (r : Bool) : List (Option V) := [none]
noncomputable def impl_votesOk_t (i : Nat) (fr : Bool) (r : Bool) : Nat × Tell := (i, { a := .call [.val [some 8] []] fr (impl_votesOk_R r) (impl_votesOk_O r) })
noncomputable def impl_votesOk_k1 : List Item := posI 2000 3 [false] [.code impl_votesOk_c]
noncomputable def impl_votesOk_S1 (list : List TVote) : St := ⟨(vsl 8 eVote list :: (bs 17 [])), [some []]⟩
noncomputable def impl_votesOk_k2 (list : List TVote) : Option Bool :=
  some (decide ((list.length : Int) ≤ 40))
theorem impl_votesOk_k2_ok (list : List TVote) (r : Bool) (h : impl_votesOk_k2 list = some r) : Fin cx impl_votesOk_X (impl_votesOk_R r) (impl_votesOk_O r) impl_votesOk_k1 (impl_votesOk_S1 list) :=
  P0 <|
 rg <| fe Tryz.func112 h
noncomputable def impl_votesOk_k3 : List Item := posI 2000 2 [] [.code impl_votesOk_c]
noncomputable def impl_votesOk_S2 (list : List TVote) (v7 : Int) : St := ⟨(vsl 8 eVote list :: (bs 4 (vsl 8 eVote list :: (vi (list.length : Int) :: (vi v7 :: (bs 10 [])))))), [some []]⟩
noncomputable def impl_votesOk_b1 (list : List TVote) (v7 : Int) : Option (Stp Bool Int Unit) :=
  (bif decide (v7 < (list.length : Int)) then
 ((idx list v7).bind fun vote =>
 ((impl_voteOk vote).bind fun voteOk =>
 (bif (!voteOk) then
 some (Stp.ret false)
 else
 some (Stp.nxt (w64 (v7 + 1))))))
 else
 some (Stp.brk ()))
theorem impl_votesOk_b1_ok (list : List TVote) (res : V) (outs : List (Option V)) (x1 : Exc Bool Unit) (hb1 : HB cx impl_votesOk_X res outs x1 impl_votesOk_k1 (fun s => impl_votesOk_S1 list)) (hr1 : HR res outs x1 impl_votesOk_R impl_votesOk_O) (st1 : Stp Bool Int Unit) (hc1 : Cont x1 (fun s : Int => Fin cx impl_votesOk_X res outs impl_votesOk_k3 (impl_votesOk_S2 list s)) st1) (v7 : Int) (h : impl_votesOk_b1 list v7 = some st1) : Fin cx impl_votesOk_X res outs impl_votesOk_k3 (impl_votesOk_S2 list v7) :=
  P0 <|
 rg <| cdD 0 h (fun h =>
 rg <| ixS eVote 0 h fun vote hvote h =>
 rg <| cb impl_voteOk_t impl_voteOk_ok 1 false h fun voteOk h =>
 cdD 2 h (fun h =>
 rg <| (retD h hc1 fun e => fn0 Tryz.func112 (hr1 _ e))) (fun h =>
 rg <| (nxtD h hc1 fun hI => sg [] [0, 5, 6, 7] [] hI))) (fun h =>
 (brkD h hc1 fun e => sg [] [0] [] (hb1 _ e)))
noncomputable def impl_votesOk (list : List TVote) : Option Bool :=
  ((loop (fun s : Int => impl_votesOk_b1 list s) 0).bind fun x => x.go (fun r => some r) fun s => impl_votesOk_k2 list)
theorem impl_votesOk_ok {list : List TVote} (r : Bool) (h : impl_votesOk list = some r) : ACalls cx.P 112 [vsl 8 eVote list] (impl_votesOk_R r) (impl_votesOk_O r) :=
  ACalls.of (cx := cx) (X := impl_votesOk_X) (c := impl_votesOk_c) Tryz.func112 (by kernel_rfl) (by kernel_rfl) (by kernel_rfl) (P0 <|
 rg2 <| loopJ h fun x hl hr hb => sg [] [0, 5, 6, 7] [] (loopD (I := fun s : Int => Fin cx impl_votesOk_X (impl_votesOk_R r) (impl_votesOk_O r) impl_votesOk_k3 (impl_votesOk_S2 list s)) hl fun s st h hc => impl_votesOk_b1_ok list _ _ x (fun s e => impl_votesOk_k2_ok list r (hb s e)) (fun v e => ⟨congrArg impl_votesOk_R (Option.some.inj (hr v e)).symm, congrArg impl_votesOk_O (Option.some.inj (hr v e)).symm⟩) st hc s h))

/-! ### impl_AccOk -/
noncomputable def impl_AccOk_c : Code := bodyOf Tryz.f108
noncomputable def impl_AccOk_X : Sig := { f := 108, fn := Tryz.f108, rms := [.val [] []], oms := [none] }
noncomputable def impl_AccOk_R (r : Bool) : V := .b r
noncomputable def impl_AccOk_O (r : Bool) : List (Option V) := [none]
noncomputable def impl_AccOk_t (i : Nat) (fr : Bool) (r : Bool) : Nat × Tell := (i, { a := .call [.val [none, some 8] []] fr (impl_AccOk_R r) (impl_AccOk_O r) })
noncomputable def impl_AccOk_k1 : List Item := posI 2000 3 [false] [.code impl_AccOk_c]
noncomputable def impl_AccOk_S1 (a : TAcc) : St := ⟨(bs 1 (.ptr 1 0 0 :: (bs 24 []))), [some [], some [.var 104 [vi a.Promised, vsl 8 eVote a.Votes]]]⟩
noncomputable def impl_AccOk_k2 (a : TAcc) : Option Bool :=
  ((impl_in a.Promised 0 3000).bind fun in_ =>
 (bif in_ then
 ((impl_votesOk a.Votes).bind fun votesOk =>
 some votesOk)
 else
 some false))
theorem impl_AccOk_k2_ok (a : TAcc) (r : Bool) (h : impl_AccOk_k2 a = some r) : Fin cx impl_AccOk_X (impl_AccOk_R r) (impl_AccOk_O r) impl_AccOk_k1 (impl_AccOk_S1 a) :=
  P0 <|
 rg <| cb impl_in_t impl_in_ok 2 false h fun in_ h =>
 cdD 3 h (fun h =>
 cb impl_votesOk_t impl_votesOk_ok 6 false h fun votesOk h =>
 fe Tryz.func108 h) (fun h =>
 fe Tryz.func108 h)
noncomputable def impl_AccOk_k3 : List Item := posI 2000 2 [] [.code impl_AccOk_c]
noncomputable def impl_AccOk_S2 (a : TAcc) (v8 : Int) : St := ⟨(bs 1 (.ptr 1 0 0 :: (bs 4 (vsl 8 eVote a.Votes :: (vi (a.Votes.length : Int) :: (vi v8 :: (bs 17 []))))))), [some [], some [.var 104 [vi a.Promised, vsl 8 eVote a.Votes]]]⟩
noncomputable def impl_AccOk_b1 (a : TAcc) (v8 : Int) : Option (Stp Bool Int Unit) :=
  (bif decide (v8 < (a.Votes.length : Int)) then
 ((idx a.Votes v8).bind fun vote =>
 (bif decide (vote.Bal > a.Promised) then
 some (Stp.ret false)
 else
 some (Stp.nxt (w64 (v8 + 1)))))
 else
 some (Stp.brk ()))
theorem impl_AccOk_b1_ok (a : TAcc) (res : V) (outs : List (Option V)) (x1 : Exc Bool Unit) (hb1 : HB cx impl_AccOk_X res outs x1 impl_AccOk_k1 (fun s => impl_AccOk_S1 a)) (hr1 : HR res outs x1 impl_AccOk_R impl_AccOk_O) (st1 : Stp Bool Int Unit) (hc1 : Cont x1 (fun s : Int => Fin cx impl_AccOk_X res outs impl_AccOk_k3 (impl_AccOk_S2 a s)) st1) (v8 : Int) (h : impl_AccOk_b1 a v8 = some st1) : Fin cx impl_AccOk_X res outs impl_AccOk_k3 (impl_AccOk_S2 a v8) :=
  P0 <|
 rg <| cdD 0 h (fun h =>
 rg <| ixS eVote 0 h fun vote hvote h =>
 rg <| cdD 4 h (fun h =>
 rg <| (retD h hc1 fun e => fn0 Tryz.func108 (hr1 _ e))) (fun h =>
 rg <| (nxtD h hc1 fun hI => sg [] [1, 6, 7, 8] [(1, 0)] hI))) (fun h =>
 (brkD h hc1 fun e => sg [] [1] [(1, 0)] (hb1 _ e)))
noncomputable def impl_AccOk (a : TAcc) : Option Bool :=
  ((loop (fun s : Int => impl_AccOk_b1 a s) 0).bind fun x => x.go (fun r => some r) fun s => impl_AccOk_k2 a)
theorem impl_AccOk_ok {a : TAcc} (r : Bool) (h : impl_AccOk a = some r) : ACalls cx.P 108 [.agg (eAcc a)] (impl_AccOk_R r) (impl_AccOk_O r) :=
  ACalls.of (cx := cx) (X := impl_AccOk_X) (c := impl_AccOk_c) Tryz.func108 (by kernel_rfl) (by kernel_rfl) (by kernel_rfl) (P0 <|
 rg2 <| loopJ h fun x hl hr hb => sg [] [1, 6, 7, 8] [(1, 0)] (loopD (I := fun s : Int => Fin cx impl_AccOk_X (impl_AccOk_R r) (impl_AccOk_O r) impl_AccOk_k3 (impl_AccOk_S2 a s)) hl fun s st h hc => impl_AccOk_b1_ok a _ _ x (fun s e => impl_AccOk_k2_ok a r (hb s e)) (fun v e => ⟨congrArg impl_AccOk_R (Option.some.inj (hr v e)).symm, congrArg impl_AccOk_O (Option.some.inj (hr v e)).symm⟩) st hc s h))

/-! ### impl_listOk -/
noncomputable def impl_listOk_c : Code := bodyOf Tryz.f66
noncomputable def impl_listOk_X : Sig := { f := 66, fn := Tryz.f66, rms := [.val [] []], oms := [none] }
noncomputable def impl_listOk_R (r : Bool) : V := .b r
noncomputable def impl_listOk_O (r : Bool) : List (Option V) := [none]
noncomputable def impl_listOk_t (i : Nat) (fr : Bool) (r : Bool) : Nat × Tell := (i, { a := .call [.val [some 7] []] fr (impl_listOk_R r) (impl_listOk_O r) })
noncomputable def impl_listOk_k1 : List Item := posI 2000 3 [false] [.code impl_listOk_c]
noncomputable def impl_listOk_S1 (list : List TEntry) : St := ⟨(vsl 7 eEntry list :: (bs 17 [])), [some []]⟩
noncomputable def impl_listOk_k2 (list : List TEntry) : Option Bool :=
  some (decide ((list.length : Int) ≤ 40))
theorem impl_listOk_k2_ok (list : List TEntry) (r : Bool) (h : impl_listOk_k2 list = some r) : Fin cx impl_listOk_X (impl_listOk_R r) (impl_listOk_O r) impl_listOk_k1 (impl_listOk_S1 list) :=
  P0 <|
 rg <| fe Tryz.func66 h
noncomputable def impl_listOk_k3 : List Item := posI 2000 2 [] [.code impl_listOk_c]
noncomputable def impl_listOk_S2 (list : List TEntry) (v7 : Int) : St := ⟨(vsl 7 eEntry list :: (bs 4 (vsl 7 eEntry list :: (vi (list.length : Int) :: (vi v7 :: (bs 10 [])))))), [some []]⟩
noncomputable def impl_listOk_b1 (list : List TEntry) (v7 : Int) : Option (Stp Bool Int Unit) :=
  (bif decide (v7 < (list.length : Int)) then
 ((idx list v7).bind fun entry =>
 ((impl_CertEntry entry).bind fun certEntry =>
 (bif (!certEntry) then
 some (Stp.ret false)
 else
 some (Stp.nxt (w64 (v7 + 1))))))
 else
 some (Stp.brk ()))
theorem impl_listOk_b1_ok (list : List TEntry) (res : V) (outs : List (Option V)) (x1 : Exc Bool Unit) (hb1 : HB cx impl_listOk_X res outs x1 impl_listOk_k1 (fun s => impl_listOk_S1 list)) (hr1 : HR res outs x1 impl_listOk_R impl_listOk_O) (st1 : Stp Bool Int Unit) (hc1 : Cont x1 (fun s : Int => Fin cx impl_listOk_X res outs impl_listOk_k3 (impl_listOk_S2 list s)) st1) (v7 : Int) (h : impl_listOk_b1 list v7 = some st1) : Fin cx impl_listOk_X res outs impl_listOk_k3 (impl_listOk_S2 list v7) :=
  P0 <|
 rg <| cdD 0 h (fun h =>
 rg <| ixS eEntry 0 h fun entry hentry h =>
 rg <| cb impl_CertEntry_t impl_CertEntry_ok 1 false h fun certEntry h =>
 cdD 2 h (fun h =>
 rg <| (retD h hc1 fun e => fn0 Tryz.func66 (hr1 _ e))) (fun h =>
 rg <| (nxtD h hc1 fun hI => sg [] [0, 5, 6, 7] [] hI))) (fun h =>
 (brkD h hc1 fun e => sg [] [0] [] (hb1 _ e)))
noncomputable def impl_listOk (list : List TEntry) : Option Bool :=
  ((loop (fun s : Int => impl_listOk_b1 list s) 0).bind fun x => x.go (fun r => some r) fun s => impl_listOk_k2 list)
theorem impl_listOk_ok {list : List TEntry} (r : Bool) (h : impl_listOk list = some r) : ACalls cx.P 66 [vsl 7 eEntry list] (impl_listOk_R r) (impl_listOk_O r) :=
  ACalls.of (cx := cx) (X := impl_listOk_X) (c := impl_listOk_c) Tryz.func66 (by kernel_rfl) (by kernel_rfl) (by kernel_rfl) (P0 <|
 rg2 <| loopJ h fun x hl hr hb => sg [] [0, 5, 6, 7] [] (loopD (I := fun s : Int => Fin cx impl_listOk_X (impl_listOk_R r) (impl_listOk_O r) impl_listOk_k3 (impl_listOk_S2 list s)) hl fun s st h hc => impl_listOk_b1_ok list _ _ x (fun s e => impl_listOk_k2_ok list r (hb s e)) (fun v e => ⟨congrArg impl_listOk_R (Option.some.inj (hr v e)).symm, congrArg impl_listOk_O (Option.some.inj (hr v e)).symm⟩) st hc s h))

/-! ### impl_insOk_c1 -/
noncomputable def impl_insOk_c1_c : Code := bodyOf Tryz.f146
noncomputable def impl_insOk_c1_X : Sig := { f := 146, fn := Tryz.f146, rms := [.val [] []], oms := [none] }
noncomputable def impl_insOk_c1_R (r : Bool) : V := .b r
noncomputable def impl_insOk_c1_O (r : Bool) : List (Option V) := [none]
noncomputable def impl_insOk_c1_t (i : Nat) (fr : Bool) (r : Bool) : Nat × Tell := (i, { a := .call [.val [] []] fr (impl_insOk_c1_R r) (impl_insOk_c1_O r) })
noncomputable def impl_insOk_c1 (n : Int) : Option Bool :=
  ((impl_in n 0 3).bind fun in_ =>
 some in_)
theorem impl_insOk_c1_ok {n : Int} (r : Bool) (h : impl_insOk_c1 n = some r) : ACalls cx.P 146 [vi n] (impl_insOk_c1_R r) (impl_insOk_c1_O r) :=
  ACalls.of (cx := cx) (X := impl_insOk_c1_X) (c := impl_insOk_c1_c) Tryz.func146 (by kernel_rfl) (by kernel_rfl) (by kernel_rfl) (P0 <|
 rg2 <| cb impl_in_t impl_in_ok 1 false h fun in_ h =>
 fe Tryz.func146 h)

/-! ### impl_insOk_c2 -/
noncomputable def impl_insOk_c2_c : Code := bodyOf Tryz.f147
noncomputable def impl_insOk_c2_X : Sig := { f := 147, fn := Tryz.f147, rms := [.val [] []], oms := [none] }
noncomputable def impl_insOk_c2_R (r : Bool) : V := .b r
noncomputable def impl_insOk_c2_O (r : Bool) : List (Option V) := [none]
noncomputable def impl_insOk_c2_t (i : Nat) (fr : Bool) (r : Bool) : Nat × Tell := (i, { a := .call [.val [] []] fr (impl_insOk_c2_R r) (impl_insOk_c2_O r) })
noncomputable def impl_insOk_c2 (n : Int) : Option Bool :=
  ((impl_in n 0 3).bind fun in_ =>
 some in_)
theorem impl_insOk_c2_ok {n : Int} (r : Bool) (h : impl_insOk_c2 n = some r) : ACalls cx.P 147 [vi n] (impl_insOk_c2_R r) (impl_insOk_c2_O r) :=
  ACalls.of (cx := cx) (X := impl_insOk_c2_X) (c := impl_insOk_c2_c) Tryz.func147 (by kernel_rfl) (by kernel_rfl) (by kernel_rfl) (P0 <|
 rg2 <| cb impl_in_t impl_in_ok 1 false h fun in_ h =>
 fe Tryz.func147 h)

/-! ### impl_insOk -/
noncomputable def impl_insOk_c : Code := bodyOf Tryz.f113
noncomputable def impl_insOk_X : Sig := { f := 113, fn := Tryz.f113, rms := [.val [] []], oms := [none] }
noncomputable def impl_insOk_R (r : Bool) : V := .b r
noncomputable def impl_insOk_O (r : Bool) : List (Option V) := [none]
noncomputable def impl_insOk_t (i : Nat) (fr : Bool) (r : Bool) : Nat × Tell := (i, { a := .call [.val [] []] fr (impl_insOk_R r) (impl_insOk_O r) })
noncomputable def impl_insOk (x_ : TIns) : Option Bool :=
  (bif (x_.Kind == 1) then
 ((impl_insOk_c1 x_.A).bind fun c1 =>
 (bif c1 then
 ((impl_insOk_c2 x_.B).bind fun c2 =>
 (bif c2 then
 some (x_.N == 0)
 else
 some false))
 else
 some false))
 else
 (bif (x_.Kind == 2) then
 ((impl_insOk_c2 x_.A).bind fun c21 =>
 (bif c21 then
 ((impl_insOk_c1 x_.B).bind fun c11 =>
 (bif c11 then
 some (x_.N == 0)
 else
 some false))
 else
 some false))
 else
 (bif (x_.Kind == 3) then
 ((impl_insOk_c1 x_.A).bind fun c12 =>
 (bif c12 then
 (bif (x_.B == 0) then
 ((impl_in x_.N (-1000000) 1000000).bind fun in_ =>
 some in_)
 else
 some false)
 else
 some false))
 else
 (bif (x_.Kind == 4) then
 ((impl_insOk_c1 x_.A).bind fun c13 =>
 (bif c13 then
 ((impl_insOk_c1 x_.B).bind fun c14 =>
 (bif c14 then
 some (x_.N == 0)
 else
 some false))
 else
 some false))
 else
 (bif (x_.Kind == 5) then
 ((impl_insOk_c1 x_.A).bind fun c15 =>
 (bif c15 then
 ((impl_insOk_c1 x_.B).bind fun c16 =>
 (bif c16 then
 some (x_.N == 0)
 else
 some false))
 else
 some false))
 else
 (bif (x_.Kind == 6) then
 ((impl_insOk_c1 x_.A).bind fun c17 =>
 (bif c17 then
 ((impl_insOk_c1 x_.B).bind fun c18 =>
 (bif c18 then
 ((impl_in x_.N 1 10).bind fun in_1 =>
 some in_1)
 else
 some false))
 else
 some false))
 else
 (bif (x_.Kind == 7) then
 (bif (x_.A == 0) then
 (bif (x_.B == 0) then
 some (x_.N == 0)
 else
 some false)
 else
 some false)
 else
 some false)))))))
set_option maxRecDepth 20000 in
theorem impl_insOk_ok {x_ : TIns} (r : Bool) (h : impl_insOk x_ = some r) : ACalls cx.P 113 [.agg (eIns x_)] (impl_insOk_R r) (impl_insOk_O r) :=
  ACalls.of (cx := cx) (X := impl_insOk_X) (c := impl_insOk_c) Tryz.func113 (by kernel_rfl) (by kernel_rfl) (by kernel_rfl) (P0 <|
 rg4 <| rg <| cdD 1 h (fun h =>
 rg <| cb impl_insOk_c1_t impl_insOk_c1_ok 3 false h fun c1 h =>
 cdD 4 h (fun h =>
 cb impl_insOk_c2_t impl_insOk_c2_ok 8 false h fun c2 h =>
 cdD 10 h (fun h =>
 fe Tryz.func113 h) (fun h =>
 fe Tryz.func113 h)) (fun h =>
 fe Tryz.func113 h)) (fun h =>
 rg <| cdD 1 h (fun h =>
 rg <| cb impl_insOk_c2_t impl_insOk_c2_ok 3 false h fun c21 h =>
 cdD 4 h (fun h =>
 cb impl_insOk_c1_t impl_insOk_c1_ok 8 false h fun c11 h =>
 cdD 10 h (fun h =>
 fe Tryz.func113 h) (fun h =>
 fe Tryz.func113 h)) (fun h =>
 fe Tryz.func113 h)) (fun h =>
 rg <| cdD 1 h (fun h =>
 rg <| cb impl_insOk_c1_t impl_insOk_c1_ok 3 false h fun c12 h =>
 cdD 4 h (fun h =>
 cdD 9 h (fun h =>
 cb impl_in_t impl_in_ok 12 false h fun in_ h =>
 fe Tryz.func113 h) (fun h =>
 fe Tryz.func113 h)) (fun h =>
 fe Tryz.func113 h)) (fun h =>
 rg <| cdD 1 h (fun h =>
 rg <| cb impl_insOk_c1_t impl_insOk_c1_ok 3 false h fun c13 h =>
 cdD 4 h (fun h =>
 cb impl_insOk_c1_t impl_insOk_c1_ok 8 false h fun c14 h =>
 cdD 10 h (fun h =>
 fe Tryz.func113 h) (fun h =>
 fe Tryz.func113 h)) (fun h =>
 fe Tryz.func113 h)) (fun h =>
 rg <| cdD 1 h (fun h =>
 rg <| cb impl_insOk_c1_t impl_insOk_c1_ok 3 false h fun c15 h =>
 cdD 4 h (fun h =>
 cb impl_insOk_c1_t impl_insOk_c1_ok 8 false h fun c16 h =>
 cdD 10 h (fun h =>
 fe Tryz.func113 h) (fun h =>
 fe Tryz.func113 h)) (fun h =>
 fe Tryz.func113 h)) (fun h =>
 rg <| cdD 1 h (fun h =>
 rg <| cb impl_insOk_c1_t impl_insOk_c1_ok 3 false h fun c17 h =>
 cdD 4 h (fun h =>
 cb impl_insOk_c1_t impl_insOk_c1_ok 8 false h fun c18 h =>
 cdD 10 h (fun h =>
 cb impl_in_t impl_in_ok 13 false h fun in_1 h =>
 fe Tryz.func113 h) (fun h =>
 fe Tryz.func113 h)) (fun h =>
 fe Tryz.func113 h)) (fun h =>
 rg <| cdD 1 h (fun h =>
 rg <| cdD 3 h (fun h =>
 cdD 8 h (fun h =>
 fe Tryz.func113 h) (fun h =>
 fe Tryz.func113 h)) (fun h =>
 fe Tryz.func113 h)) (fun h =>
 rg <| fe Tryz.func113 h))))))))

/-! ### impl_ProgOk -/
noncomputable def impl_ProgOk_c : Code := bodyOf Tryz.f63
noncomputable def impl_ProgOk_X : Sig := { f := 63, fn := Tryz.f63, rms := [.val [] []], oms := [none] }
noncomputable def impl_ProgOk_R (r : Bool) : V := .b r
noncomputable def impl_ProgOk_O (r : Bool) : List (Option V) := [none]
noncomputable def impl_ProgOk_t (i : Nat) (fr : Bool) (r : Bool) : Nat × Tell := (i, { a := .call [.val [some 4] []] fr (impl_ProgOk_R r) (impl_ProgOk_O r) })
noncomputable def impl_ProgOk_k1 : List Item := posI 2000 3 [false] [.code impl_ProgOk_c]
noncomputable def impl_ProgOk_S1 (list : List TIns) : St := ⟨(vsl 4 eIns list :: (bs 17 [])), [some []]⟩
noncomputable def impl_ProgOk_k2 (list : List TIns) : Option Bool :=
  some (decide ((list.length : Int) ≤ 10))
theorem impl_ProgOk_k2_ok (list : List TIns) (r : Bool) (h : impl_ProgOk_k2 list = some r) : Fin cx impl_ProgOk_X (impl_ProgOk_R r) (impl_ProgOk_O r) impl_ProgOk_k1 (impl_ProgOk_S1 list) :=
  P0 <|
 rg <| fe Tryz.func63 h
noncomputable def impl_ProgOk_k3 : List Item := posI 2000 2 [] [.code impl_ProgOk_c]
noncomputable def impl_ProgOk_S2 (list : List TIns) (v7 : Int) : St := ⟨(vsl 4 eIns list :: (bs 4 (vsl 4 eIns list :: (vi (list.length : Int) :: (vi v7 :: (bs 10 [])))))), [some []]⟩
noncomputable def impl_ProgOk_b1 (list : List TIns) (v7 : Int) : Option (Stp Bool Int Unit) :=
  (bif decide (v7 < (list.length : Int)) then
 ((idx list v7).bind fun ins =>
 ((impl_insOk ins).bind fun insOk =>
 (bif (!insOk) then
 some (Stp.ret false)
 else
 some (Stp.nxt (w64 (v7 + 1))))))
 else
 some (Stp.brk ()))
theorem impl_ProgOk_b1_ok (list : List TIns) (res : V) (outs : List (Option V)) (x1 : Exc Bool Unit) (hb1 : HB cx impl_ProgOk_X res outs x1 impl_ProgOk_k1 (fun s => impl_ProgOk_S1 list)) (hr1 : HR res outs x1 impl_ProgOk_R impl_ProgOk_O) (st1 : Stp Bool Int Unit) (hc1 : Cont x1 (fun s : Int => Fin cx impl_ProgOk_X res outs impl_ProgOk_k3 (impl_ProgOk_S2 list s)) st1) (v7 : Int) (h : impl_ProgOk_b1 list v7 = some st1) : Fin cx impl_ProgOk_X res outs impl_ProgOk_k3 (impl_ProgOk_S2 list v7) :=
  P0 <|
 rg <| cdD 0 h (fun h =>
 rg <| ixS eIns 0 h fun ins hins h =>
 rg <| cb impl_insOk_t impl_insOk_ok 1 false h fun insOk h =>
 cdD 2 h (fun h =>
 rg <| (retD h hc1 fun e => fn0 Tryz.func63 (hr1 _ e))) (fun h =>
 rg <| (nxtD h hc1 fun hI => sg [] [0, 5, 6, 7] [] hI))) (fun h =>
 (brkD h hc1 fun e => sg [] [0] [] (hb1 _ e)))
noncomputable def impl_ProgOk (list : List TIns) : Option Bool :=
  ((loop (fun s : Int => impl_ProgOk_b1 list s) 0).bind fun x => x.go (fun r => some r) fun s => impl_ProgOk_k2 list)
theorem impl_ProgOk_ok {list : List TIns} (r : Bool) (h : impl_ProgOk list = some r) : ACalls cx.P 63 [vsl 4 eIns list] (impl_ProgOk_R r) (impl_ProgOk_O r) :=
  ACalls.of (cx := cx) (X := impl_ProgOk_X) (c := impl_ProgOk_c) Tryz.func63 (by kernel_rfl) (by kernel_rfl) (by kernel_rfl) (P0 <|
 rg2 <| loopJ h fun x hl hr hb => sg [] [0, 5, 6, 7] [] (loopD (I := fun s : Int => Fin cx impl_ProgOk_X (impl_ProgOk_R r) (impl_ProgOk_O r) impl_ProgOk_k3 (impl_ProgOk_S2 list s)) hl fun s st h hc => impl_ProgOk_b1_ok list _ _ x (fun s e => impl_ProgOk_k2_ok list r (hb s e)) (fun v e => ⟨congrArg impl_ProgOk_R (Option.some.inj (hr v e)).symm, congrArg impl_ProgOk_O (Option.some.inj (hr v e)).symm⟩) st hc s h))

/-! ### impl_AccOwner -/
noncomputable def impl_AccOwner_c : Code := bodyOf Tryz.f143
noncomputable def impl_AccOwner_X : Sig := { f := 143, fn := Tryz.f143, rms := [.val [] []], oms := [none] }
noncomputable def impl_AccOwner_R (r : Int) : V := vi r
noncomputable def impl_AccOwner_O (r : Int) : List (Option V) := [none]
noncomputable def impl_AccOwner_t (i : Nat) (fr : Bool) (r : Int) : Nat × Tell := (i, { a := .call [.val [] []] fr (impl_AccOwner_R r) (impl_AccOwner_O r) })
noncomputable def impl_AccOwner (bal : Int) : Option Int :=
  ((impl_in bal 1 3000).bind fun in_ =>
 (bif (!in_) then
 some (-1)
 else
 some (Int.tmod bal 3)))
theorem impl_AccOwner_ok {bal : Int} (r : Int) (h : impl_AccOwner bal = some r) : ACalls cx.P 143 [vi bal] (impl_AccOwner_R r) (impl_AccOwner_O r) :=
  ACalls.of (cx := cx) (X := impl_AccOwner_X) (c := impl_AccOwner_c) Tryz.func143 (by kernel_rfl) (by kernel_rfl) (by kernel_rfl) (P0 <|
 rg2 <| cb impl_in_t impl_in_ok 1 false h fun in_ h =>
 cdD 2 h (fun h =>
 rg <| fe Tryz.func143 h) (fun h =>
 rg <| om (3 ≠ (0 : Int)) (by decide) <| fe Tryz.func143 h))

/-! ### impl_marksOk -/
noncomputable def impl_marksOk_c : Code := bodyOf Tryz.f144
noncomputable def impl_marksOk_X : Sig := { f := 144, fn := Tryz.f144, rms := [.val [] []], oms := [none, none] }
noncomputable def impl_marksOk_R (r : Bool) : V := .b r
noncomputable def impl_marksOk_O (r : Bool) : List (Option V) := [none, none]
noncomputable def impl_marksOk_t (i : Nat) (fr : Bool) (r : Bool) : Nat × Tell := (i, { a := .call [.val [some 1] [], .val [] []] fr (impl_marksOk_R r) (impl_marksOk_O r) })
noncomputable def impl_marksOk (list : List Bool) (id : Int) : Option Bool :=
  (bif ((list.length : Int) == 3) then
 ((idx list id).bind fun y =>
 some y)
 else
 some false)
theorem impl_marksOk_ok {list : List Bool} {id : Int} (r : Bool) (h : impl_marksOk list id = some r) : ACalls cx.P 144 [vsl 1 eB list, vi id] (impl_marksOk_R r) (impl_marksOk_O r) :=
  ACalls.of (cx := cx) (X := impl_marksOk_X) (c := impl_marksOk_c) Tryz.func144 (by kernel_rfl) (by kernel_rfl) (by kernel_rfl) (P0 <|
 rg2 <| cdD 3 h (fun h =>
 ixS eB 6 h fun y hy h =>
 fe Tryz.func144 h) (fun h =>
 fe Tryz.func144 h))

/-! ### impl_leadOk -/
noncomputable def impl_leadOk_c : Code := bodyOf Tryz.f111
noncomputable def impl_leadOk_X : Sig := { f := 111, fn := Tryz.f111, rms := [.val [] []], oms := [none] }
noncomputable def impl_leadOk_R (r : Bool) : V := .b r
noncomputable def impl_leadOk_O (r : Bool) : List (Option V) := [none]
noncomputable def impl_leadOk_t (i : Nat) (fr : Bool) (r : Bool) : Nat × Tell := (i, { a := .call [.val ck106 []] fr (impl_leadOk_R r) (impl_leadOk_O r) })
noncomputable def impl_leadOk_k1 : List Item := posI 2000 2 [] [.code impl_leadOk_c]
noncomputable def impl_leadOk_S1 (n : TNode) (noCur : Bool) : St := ⟨(bs 1 (.ptr 1 0 0 :: (bs 1 (.b noCur :: (bs 92 []))))), [some [], some [.var 106 [vi n.Id, vi n.Acc.Promised, vsl 8 eVote n.Acc.Votes, vsl 7 eEntry n.Known, vi n.Seq, vi n.Phase, vi n.Bal, vsl 1 eB n.From, vsl 8 eVote n.Best, .b n.Cur.None, vi n.Cur.Req.Who, vi n.Cur.Req.Seq, vsl 2 eRead n.Cur.Run.Reads, vsl 2 ePut n.Cur.Run.Puts, vi n.Cur.Run.Val, vi n.Cur.Run.Code, vsl 1 eB n.Votes, .b n.Busy, vsl 4 eIns n.Prog, .b n.Want.None, vi n.Want.Req.Who, vi n.Want.Req.Seq, vsl 2 eRead n.Want.Run.Reads, vsl 2 ePut n.Want.Run.Puts, vi n.Want.Run.Val, vi n.Want.Run.Code, vsl 7 eEntry n.Queue]]]⟩
noncomputable def impl_leadOk_j1 (n : TNode) (noCur : Bool) : Option Bool :=
  (bif (n.Phase == 0) then
 (bif (n.Bal == 0) then
 (bif ((n.From.length : Int) == 0) then
 (bif ((n.Best.length : Int) == 0) then
 some noCur
 else
 some false)
 else
 some false)
 else
 some false)
 else
 ((impl_AccOwner n.Bal).bind fun accOwner =>
 (bif (accOwner != n.Id) then
 some false
 else
 (bif decide (n.Bal > n.Acc.Promised) then
 some false
 else
 ((impl_votesOk n.Best).bind fun votesOk =>
 (bif (!votesOk) then
 some false
 else
 (bif (n.Phase == 1) then
 ((impl_marksOk n.From n.Id).bind fun marksOk =>
 (bif marksOk then
 some noCur
 else
 some false))
 else
 (bif (n.Phase == 2) then
 (bif ((n.From.length : Int) == 0) then
 some noCur
 else
 some false)
 else
 (bif (n.Phase == 3) then
 (bif ((n.From.length : Int) == 0) then
 ((impl_CertEntry n.Cur).bind fun certEntry =>
 (bif certEntry then
 ((impl_marksOk n.Votes n.Id).bind fun marksOk1 =>
 (bif marksOk1 then
 some (decide ((n.Known.length : Int) < 40))
 else
 some false))
 else
 some false))
 else
 some false)
 else
 some false)))))))))
theorem impl_leadOk_j1_ok (n : TNode) (r : Bool) (noCur : Bool) (h : impl_leadOk_j1 n noCur = some r) : Fin cx impl_leadOk_X (impl_leadOk_R r) (impl_leadOk_O r) impl_leadOk_k1 (impl_leadOk_S1 n noCur) :=
  P0 <|
 rg2 <| cdD 2 h (fun h =>
 rg <| cdD 3 h (fun h =>
 cdD 6 h (fun h =>
 cdD 12 h (fun h =>
 fe Tryz.func111 h) (fun h =>
 fe Tryz.func111 h)) (fun h =>
 fe Tryz.func111 h)) (fun h =>
 fe Tryz.func111 h)) (fun h =>
 rg <| cb impl_AccOwner_t impl_AccOwner_ok 2 false h fun accOwner h =>
 cdD 6 h (fun h =>
 rg <| fe Tryz.func111 h) (fun h =>
 cdD 14 h (fun h =>
 rg <| fe Tryz.func111 h) (fun h =>
 cb impl_votesOk_t impl_votesOk_ok 17 false h fun votesOk h =>
 cdD 19 h (fun h =>
 rg <| fe Tryz.func111 h) (fun h =>
 rg2 <| cdD 1 h (fun h =>
 rg <| cb impl_marksOk_t impl_marksOk_ok 4 false h fun marksOk h =>
 cdD 5 h (fun h =>
 fe Tryz.func111 h) (fun h =>
 fe Tryz.func111 h)) (fun h =>
 rg <| cdD 1 h (fun h =>
 rg <| cdD 1 h (fun h =>
 fe Tryz.func111 h) (fun h =>
 fe Tryz.func111 h)) (fun h =>
 rg <| cdD 1 h (fun h =>
 rg <| cdD 1 h (fun h =>
 cb impl_CertEntry_t impl_CertEntry_ok 4 false h fun certEntry h =>
 cdD 6 h (fun h =>
 cb impl_marksOk_t impl_marksOk_ok 11 false h fun marksOk1 h =>
 cdD 13 h (fun h =>
 fe Tryz.func111 h) (fun h =>
 fe Tryz.func111 h)) (fun h =>
 fe Tryz.func111 h)) (fun h =>
 fe Tryz.func111 h)) (fun h =>
 rg <| fe Tryz.func111 h)))))))
noncomputable def impl_leadOk (n : TNode) : Option Bool :=
  ((((impl_CertLike n.Cur (TEntry.mk false (TReq.mk 0 0) (TRun.mk [] [] 0 0))).bind fun certLike =>
 (bif certLike then
 some (Exc.brk ((n.Votes.length : Int) == 0))
 else
 some (Exc.brk false))) : Option (Exc Bool Bool)).bind fun x => x.go some fun j => impl_leadOk_j1 n j)
theorem impl_leadOk_ok {n : TNode} (r : Bool) (h : impl_leadOk n = some r) : ACalls cx.P 111 [.agg (eNode n)] (impl_leadOk_R r) (impl_leadOk_O r) :=
  ACalls.of (cx := cx) (X := impl_leadOk_X) (c := impl_leadOk_c) Tryz.func111 (by kernel_rfl) (by kernel_rfl) (by kernel_rfl) (P0 <|
 rg <| joinD (I := fun j : Bool => Fin cx impl_leadOk_X (impl_leadOk_R r) (impl_leadOk_O r) impl_leadOk_k1 (impl_leadOk_S1 n j)) h (fun j h => impl_leadOk_j1_ok n r j h) (fun x1 h hc1 =>
  rg <| cb impl_CertLike_t impl_CertLike_ok 3 false h fun certLike h =>
 cdD 4 h (fun h =>
 (jbrkD h hc1 fun hI => sg [] [1, 3] [(1, 0)] hI)) (fun h =>
 (jbrkD h hc1 fun hI => sg [] [1, 3] [(1, 0)] hI))))

/-! ### impl_NodeOk -/
noncomputable def impl_NodeOk_c : Code := bodyOf Tryz.f60
noncomputable def impl_NodeOk_X : Sig := { f := 60, fn := Tryz.f60, rms := [.val [] []], oms := [none] }
noncomputable def impl_NodeOk_R (r : Bool) : V := .b r
noncomputable def impl_NodeOk_O (r : Bool) : List (Option V) := [none]
noncomputable def impl_NodeOk_t (i : Nat) (fr : Bool) (r : Bool) : Nat × Tell := (i, { a := .call [.val ck106 []] fr (impl_NodeOk_R r) (impl_NodeOk_O r) })
noncomputable def impl_NodeOk_k1 : List Item := posI 2000 4 [false, false] [.code impl_NodeOk_c]
noncomputable def impl_NodeOk_S1 (n : TNode) : St := ⟨(bs 1 (.ptr 1 0 0 :: (bs 87 []))), [some [], some [.var 106 [vi n.Id, vi n.Acc.Promised, vsl 8 eVote n.Acc.Votes, vsl 7 eEntry n.Known, vi n.Seq, vi n.Phase, vi n.Bal, vsl 1 eB n.From, vsl 8 eVote n.Best, .b n.Cur.None, vi n.Cur.Req.Who, vi n.Cur.Req.Seq, vsl 2 eRead n.Cur.Run.Reads, vsl 2 ePut n.Cur.Run.Puts, vi n.Cur.Run.Val, vi n.Cur.Run.Code, vsl 1 eB n.Votes, .b n.Busy, vsl 4 eIns n.Prog, .b n.Want.None, vi n.Want.Req.Who, vi n.Want.Req.Seq, vsl 2 eRead n.Want.Run.Reads, vsl 2 ePut n.Want.Run.Puts, vi n.Want.Run.Val, vi n.Want.Run.Code, vsl 7 eEntry n.Queue]]]⟩
noncomputable def impl_NodeOk_k2 : List Item := posI 2000 6 [false, false, true, false] [.code impl_NodeOk_c]
noncomputable def impl_NodeOk_S2 (n : TNode) : St := ⟨(bs 1 (.ptr 1 0 0 :: (bs 87 []))), [some [], some [.var 106 [vi n.Id, vi n.Acc.Promised, vsl 8 eVote n.Acc.Votes, vsl 7 eEntry n.Known, vi n.Seq, vi n.Phase, vi n.Bal, vsl 1 eB n.From, vsl 8 eVote n.Best, .b n.Cur.None, vi n.Cur.Req.Who, vi n.Cur.Req.Seq, vsl 2 eRead n.Cur.Run.Reads, vsl 2 ePut n.Cur.Run.Puts, vi n.Cur.Run.Val, vi n.Cur.Run.Code, vsl 1 eB n.Votes, .b n.Busy, vsl 4 eIns n.Prog, .b n.Want.None, vi n.Want.Req.Who, vi n.Want.Req.Seq, vsl 2 eRead n.Want.Run.Reads, vsl 2 ePut n.Want.Run.Puts, vi n.Want.Run.Val, vi n.Want.Run.Code, vsl 7 eEntry n.Queue]]]⟩
noncomputable def impl_NodeOk_j1 (n : TNode) : Option Bool :=
  ((impl_leadOk n).bind fun leadOk =>
 some leadOk)
theorem impl_NodeOk_j1_ok (n : TNode) (r : Bool) (h : impl_NodeOk_j1 n = some r) : Fin cx impl_NodeOk_X (impl_NodeOk_R r) (impl_NodeOk_O r) impl_NodeOk_k2 (impl_NodeOk_S2 n) :=
  P0 <|
 rg <| cb impl_leadOk_t impl_leadOk_ok 1 false h fun leadOk h =>
 fe Tryz.func60 h
noncomputable def impl_NodeOk_k3 (n : TNode) : Option Bool :=
  (((bif n.Busy then
 ((impl_ProgOk n.Prog).bind fun progOk =>
 (bif (!progOk) then
 some (Exc.ret false)
 else
 ((impl_CertEntry n.Want).bind fun certEntry =>
 (bif (!certEntry) then
 some (Exc.ret false)
 else
 (bif n.Want.None then
 some (Exc.ret false)
 else
 (bif (!(([n.Want.Req.Who, n.Want.Req.Seq] : List Int) == [n.Id, n.Seq])) then
 some (Exc.ret false)
 else
 some (Exc.brk ())))))))
 else
 (bif decide ((n.Prog.length : Int) > 0) then
 some (Exc.ret false)
 else
 ((impl_CertLike n.Want (TEntry.mk false (TReq.mk 0 0) (TRun.mk [] [] 0 0))).bind fun certLike =>
 (bif (!certLike) then
 some (Exc.ret false)
 else
 some (Exc.brk ()))))) : Option (Exc Bool Unit)).bind fun x => x.go some fun j => impl_NodeOk_j1 n)
theorem impl_NodeOk_k3_ok (n : TNode) (r : Bool) (h : impl_NodeOk_k3 n = some r) : Fin cx impl_NodeOk_X (impl_NodeOk_R r) (impl_NodeOk_O r) impl_NodeOk_k1 (impl_NodeOk_S1 n) :=
  P0 <|
 joinD (I := fun j : Unit => Fin cx impl_NodeOk_X (impl_NodeOk_R r) (impl_NodeOk_O r) impl_NodeOk_k2 (impl_NodeOk_S2 n)) h (fun j h => impl_NodeOk_j1_ok n r h) (fun x1 h hc1 =>
  rg <| cdD 1 h (fun h =>
 rg <| cb impl_ProgOk_t impl_ProgOk_ok 2 false h fun progOk h =>
 cdD 4 h (fun h =>
 rg <| (jretD h hc1 fun h => fe Tryz.func60 h)) (fun h =>
 cb impl_CertEntry_t impl_CertEntry_ok 7 false h fun certEntry h =>
 cdD 10 h (fun h =>
 rg <| (jretD h hc1 fun h => fe Tryz.func60 h)) (fun h =>
 cdD 15 h (fun h =>
 rg <| (jretD h hc1 fun h => fe Tryz.func60 h)) (fun h =>
 cdD 25 h (fun h =>
 rg <| (jretD h hc1 fun h => fe Tryz.func60 h)) (fun h =>
 (jbrkD h hc1 fun hI => sg [] [1] [(1, 0)] hI)))))) (fun h =>
 rg <| cdD 4 h (fun h =>
 rg <| (jretD h hc1 fun h => fe Tryz.func60 h)) (fun h =>
 cb impl_CertLike_t impl_CertLike_ok 8 false h fun certLike h =>
 cdD 10 h (fun h =>
 rg <| (jretD h hc1 fun h => fe Tryz.func60 h)) (fun h =>
 (jbrkD h hc1 fun hI => sg [] [1] [(1, 0)] hI)))))
noncomputable def impl_NodeOk_k4 : List Item := posI 2000 3 [false] [.code impl_NodeOk_c]
noncomputable def impl_NodeOk_S3 (n : TNode) (v36 : Int) : St := ⟨(bs 1 (.ptr 1 0 0 :: (bs 32 (vsl 7 eEntry n.Queue :: (vi (n.Queue.length : Int) :: (vi v36 :: (bs 52 []))))))), [some [], some [.var 106 [vi n.Id, vi n.Acc.Promised, vsl 8 eVote n.Acc.Votes, vsl 7 eEntry n.Known, vi n.Seq, vi n.Phase, vi n.Bal, vsl 1 eB n.From, vsl 8 eVote n.Best, .b n.Cur.None, vi n.Cur.Req.Who, vi n.Cur.Req.Seq, vsl 2 eRead n.Cur.Run.Reads, vsl 2 ePut n.Cur.Run.Puts, vi n.Cur.Run.Val, vi n.Cur.Run.Code, vsl 1 eB n.Votes, .b n.Busy, vsl 4 eIns n.Prog, .b n.Want.None, vi n.Want.Req.Who, vi n.Want.Req.Seq, vsl 2 eRead n.Want.Run.Reads, vsl 2 ePut n.Want.Run.Puts, vi n.Want.Run.Val, vi n.Want.Run.Code, vsl 7 eEntry n.Queue]]]⟩
noncomputable def impl_NodeOk_b1 (n : TNode) (v36 : Int) : Option (Stp Bool Int Unit) :=
  (bif decide (v36 < (n.Queue.length : Int)) then
 ((idx n.Queue v36).bind fun entry =>
 ((impl_CertEntry entry).bind fun certEntry1 =>
 (bif (!certEntry1) then
 some (Stp.ret false)
 else
 (bif entry.None then
 some (Stp.ret false)
 else
 some (Stp.nxt (w64 (v36 + 1)))))))
 else
 some (Stp.brk ()))
theorem impl_NodeOk_b1_ok (n : TNode) (res : V) (outs : List (Option V)) (x1 : Exc Bool Unit) (hb1 : HB cx impl_NodeOk_X res outs x1 impl_NodeOk_k1 (fun s => impl_NodeOk_S1 n)) (hr1 : HR res outs x1 impl_NodeOk_R impl_NodeOk_O) (st1 : Stp Bool Int Unit) (hc1 : Cont x1 (fun s : Int => Fin cx impl_NodeOk_X res outs impl_NodeOk_k4 (impl_NodeOk_S3 n s)) st1) (v36 : Int) (h : impl_NodeOk_b1 n v36 = some st1) : Fin cx impl_NodeOk_X res outs impl_NodeOk_k4 (impl_NodeOk_S3 n v36) :=
  P0 <|
 rg <| cdD 0 h (fun h =>
 rg <| ixS eEntry 0 h fun entry hentry h =>
 rg <| cb impl_CertEntry_t impl_CertEntry_ok 1 false h fun certEntry1 h =>
 cdD 3 h (fun h =>
 rg <| (retD h hc1 fun e => fn0 Tryz.func60 (hr1 _ e))) (fun h =>
 cdD 6 h (fun h =>
 rg <| (retD h hc1 fun e => fn0 Tryz.func60 (hr1 _ e))) (fun h =>
 rg <| (nxtD h hc1 fun hI => sg [] [1, 34, 35, 36] [(1, 0)] hI)))) (fun h =>
 (brkD h hc1 fun e => sg [] [1] [(1, 0)] (hb1 _ e)))
noncomputable def impl_NodeOk (n : TNode) : Option Bool :=
  ((impl_in n.Id 0 2).bind fun in_ =>
 (bif (!in_) then
 some false
 else
 ((impl_AccOk n.Acc).bind fun accOk =>
 (bif (!accOk) then
 some false
 else
 ((impl_listOk n.Known).bind fun listOk =>
 (bif (!listOk) then
 some false
 else
 ((impl_in n.Seq 0 1000).bind fun in_1 =>
 (bif (!in_1) then
 some false
 else
 (bif decide ((n.Queue.length : Int) > 4) then
 some false
 else
 ((loop (fun s : Int => impl_NodeOk_b1 n s) 0).bind fun x => x.go (fun r => some r) fun s => impl_NodeOk_k3 n))))))))))
theorem impl_NodeOk_ok {n : TNode} (r : Bool) (h : impl_NodeOk n = some r) : ACalls cx.P 60 [.agg (eNode n)] (impl_NodeOk_R r) (impl_NodeOk_O r) :=
  ACalls.of (cx := cx) (X := impl_NodeOk_X) (c := impl_NodeOk_c) Tryz.func60 (by kernel_rfl) (by kernel_rfl) (by kernel_rfl) (P0 <|
 rg2 <| cb impl_in_t impl_in_ok 2 false h fun in_ h =>
 cdD 4 h (fun h =>
 rg <| fe Tryz.func60 h) (fun h =>
 cb impl_AccOk_t impl_AccOk_ok 7 false h fun accOk h =>
 cdD 10 h (fun h =>
 rg <| fe Tryz.func60 h) (fun h =>
 cb impl_listOk_t impl_listOk_ok 13 false h fun listOk h =>
 cdD 16 h (fun h =>
 rg <| fe Tryz.func60 h) (fun h =>
 cb impl_in_t impl_in_ok 19 false h fun in_1 h =>
 cdD 22 h (fun h =>
 rg <| fe Tryz.func60 h) (fun h =>
 cdD 27 h (fun h =>
 rg <| fe Tryz.func60 h) (fun h =>
 rg <| loopJ h fun x hl hr hb => sg [] [1, 34, 35, 36] [(1, 0)] (loopD (I := fun s : Int => Fin cx impl_NodeOk_X (impl_NodeOk_R r) (impl_NodeOk_O r) impl_NodeOk_k4 (impl_NodeOk_S3 n s)) hl fun s st h hc => impl_NodeOk_b1_ok n _ _ x (fun s e => impl_NodeOk_k3_ok n r (hb s e)) (fun v e => ⟨congrArg impl_NodeOk_R (Option.some.inj (hr v e)).symm, congrArg impl_NodeOk_O (Option.some.inj (hr v e)).symm⟩) st hc s h)))))))

/-! ### impl_MsgOk -/
noncomputable def impl_MsgOk_c : Code := bodyOf Tryz.f61
noncomputable def impl_MsgOk_X : Sig := { f := 61, fn := Tryz.f61, rms := [.val [] []], oms := [none] }
noncomputable def impl_MsgOk_R (r : Bool) : V := .b r
noncomputable def impl_MsgOk_O (r : Bool) : List (Option V) := [none]
noncomputable def impl_MsgOk_t (i : Nat) (fr : Bool) (r : Bool) : Nat × Tell := (i, { a := .call [.val ck110 []] fr (impl_MsgOk_R r) (impl_MsgOk_O r) })
noncomputable def impl_MsgOk (m : TMsg) : Option Bool :=
  ((impl_in m.From 0 2).bind fun in_ =>
 (bif (!in_) then
 some false
 else
 ((impl_in m.To 0 2).bind fun in_1 =>
 (bif (!in_1) then
 some false
 else
 (bif (m.From == m.To) then
 some false
 else
 ((impl_in m.Slot 0 40).bind fun in_2 =>
 (bif (!in_2) then
 some false
 else
 ((impl_in m.Bal 1 3000).bind fun in_3 =>
 ((impl_CertLike m.Entry (TEntry.mk false (TReq.mk 0 0) (TRun.mk [] [] 0 0))).bind fun certLike =>
 (bif (m.Kind == 1) then
 (bif in_3 then
 (bif certLike then
 some ((m.Votes.length : Int) == 0)
 else
 some false)
 else
 some false)
 else
 (bif (m.Kind == 4) then
 (bif in_3 then
 (bif certLike then
 some ((m.Votes.length : Int) == 0)
 else
 some false)
 else
 some false)
 else
 (bif (m.Kind == 2) then
 (bif in_3 then
 (bif certLike then
 ((impl_votesOk m.Votes).bind fun votesOk =>
 (bif votesOk then
 some (decide ((w64 (m.Slot + (m.Votes.length : Int))) ≤ 40))
 else
 some false))
 else
 some false)
 else
 some false)
 else
 (bif (m.Kind == 3) then
 (bif in_3 then
 (bif decide (m.Slot < 40) then
 ((impl_CertEntry m.Entry).bind fun certEntry =>
 (bif certEntry then
 some ((m.Votes.length : Int) == 0)
 else
 some false))
 else
 some false)
 else
 some false)
 else
 (bif (m.Kind == 5) then
 (bif (m.Bal == 0) then
 (bif decide (m.Slot < 40) then
 ((impl_CertEntry m.Entry).bind fun certEntry1 =>
 (bif certEntry1 then
 some ((m.Votes.length : Int) == 0)
 else
 some false))
 else
 some false)
 else
 some false)
 else
 (bif (m.Kind == 6) then
 (bif in_3 then
 (bif (m.Slot == 0) then
 (bif certLike then
 some ((m.Votes.length : Int) == 0)
 else
 some false)
 else
 some false)
 else
 some false)
 else
 (bif (m.Kind == 7) then
 (bif (m.Bal == 0) then
 (bif (m.Slot == 0) then
 ((impl_CertEntry m.Entry).bind fun certEntry2 =>
 (bif certEntry2 then
 (bif (!m.Entry.None) then
 some ((m.Votes.length : Int) == 0)
 else
 some false)
 else
 some false))
 else
 some false)
 else
 some false)
 else
 (bif (m.Kind == 8) then
 (bif (m.Bal == 0) then
 (bif certLike then
 some ((m.Votes.length : Int) == 0)
 else
 some false)
 else
 some false)
 else
 some false)))))))))))))))))
set_option maxRecDepth 20000 in
theorem impl_MsgOk_ok {m : TMsg} (r : Bool) (h : impl_MsgOk m = some r) : ACalls cx.P 61 [.agg (eMsg m)] (impl_MsgOk_R r) (impl_MsgOk_O r) :=
  ACalls.of (cx := cx) (X := impl_MsgOk_X) (c := impl_MsgOk_c) Tryz.func61 (by kernel_rfl) (by kernel_rfl) (by kernel_rfl) (P0 <|
 rg2 <| cb impl_in_t impl_in_ok 2 false h fun in_ h =>
 cdD 4 h (fun h =>
 rg <| fe Tryz.func61 h) (fun h =>
 cb impl_in_t impl_in_ok 7 false h fun in_1 h =>
 cdD 10 h (fun h =>
 rg <| fe Tryz.func61 h) (fun h =>
 cdD 17 h (fun h =>
 rg <| fe Tryz.func61 h) (fun h =>
 cb impl_in_t impl_in_ok 20 false h fun in_2 h =>
 cdD 22 h (fun h =>
 rg <| fe Tryz.func61 h) (fun h =>
 rg <| cb impl_in_t impl_in_ok 2 false h fun in_3 h =>
 rg <| cb impl_CertLike_t impl_CertLike_ok 3 false h fun certLike h =>
 rg3 <| cdD 1 h (fun h =>
 rg <| cdD 1 h (fun h =>
 cdD 4 h (fun h =>
 fe Tryz.func61 h) (fun h =>
 fe Tryz.func61 h)) (fun h =>
 fe Tryz.func61 h)) (fun h =>
 rg <| cdD 1 h (fun h =>
 rg <| cdD 1 h (fun h =>
 cdD 4 h (fun h =>
 fe Tryz.func61 h) (fun h =>
 fe Tryz.func61 h)) (fun h =>
 fe Tryz.func61 h)) (fun h =>
 rg <| cdD 1 h (fun h =>
 rg <| cdD 1 h (fun h =>
 cdD 4 h (fun h =>
 cb impl_votesOk_t impl_votesOk_ok 7 false h fun votesOk h =>
 cdD 9 h (fun h =>
 fe Tryz.func61 h) (fun h =>
 fe Tryz.func61 h)) (fun h =>
 fe Tryz.func61 h)) (fun h =>
 fe Tryz.func61 h)) (fun h =>
 rg <| cdD 1 h (fun h =>
 rg <| cdD 1 h (fun h =>
 cdD 6 h (fun h =>
 cb impl_CertEntry_t impl_CertEntry_ok 9 false h fun certEntry h =>
 cdD 11 h (fun h =>
 fe Tryz.func61 h) (fun h =>
 fe Tryz.func61 h)) (fun h =>
 fe Tryz.func61 h)) (fun h =>
 fe Tryz.func61 h)) (fun h =>
 rg <| cdD 1 h (fun h =>
 rg <| cdD 3 h (fun h =>
 cdD 8 h (fun h =>
 cb impl_CertEntry_t impl_CertEntry_ok 11 false h fun certEntry1 h =>
 cdD 13 h (fun h =>
 fe Tryz.func61 h) (fun h =>
 fe Tryz.func61 h)) (fun h =>
 fe Tryz.func61 h)) (fun h =>
 fe Tryz.func61 h)) (fun h =>
 rg <| cdD 1 h (fun h =>
 rg <| cdD 1 h (fun h =>
 cdD 6 h (fun h =>
 cdD 9 h (fun h =>
 fe Tryz.func61 h) (fun h =>
 fe Tryz.func61 h)) (fun h =>
 fe Tryz.func61 h)) (fun h =>
 fe Tryz.func61 h)) (fun h =>
 rg <| cdD 1 h (fun h =>
 rg <| cdD 3 h (fun h =>
 cdD 8 h (fun h =>
 cb impl_CertEntry_t impl_CertEntry_ok 11 false h fun certEntry2 h =>
 cdD 13 h (fun h =>
 cdD 19 h (fun h =>
 fe Tryz.func61 h) (fun h =>
 fe Tryz.func61 h)) (fun h =>
 fe Tryz.func61 h)) (fun h =>
 fe Tryz.func61 h)) (fun h =>
 fe Tryz.func61 h)) (fun h =>
 rg <| cdD 1 h (fun h =>
 rg <| cdD 3 h (fun h =>
 cdD 6 h (fun h =>
 fe Tryz.func61 h) (fun h =>
 fe Tryz.func61 h)) (fun h =>
 fe Tryz.func61 h)) (fun h =>
 rg <| fe Tryz.func61 h)))))))))))))

/-! ### impl_WorldOk -/
noncomputable def impl_WorldOk_c : Code := bodyOf Tryz.f26
noncomputable def impl_WorldOk_X : Sig := { f := 26, fn := Tryz.f26, rms := [.val [] []], oms := [none] }
noncomputable def impl_WorldOk_R (r : Bool) : V := .b r
noncomputable def impl_WorldOk_O (r : Bool) : List (Option V) := [none]
noncomputable def impl_WorldOk_t (i : Nat) (fr : Bool) (r : Bool) : Nat × Tell := (i, { a := .call [.val ck35 []] fr (impl_WorldOk_R r) (impl_WorldOk_O r) })
noncomputable def impl_WorldOk_k1 : List Item := posI 2000 4 [false, false] [.code impl_WorldOk_c]
noncomputable def impl_WorldOk_S1 (w : TWorld) : St := ⟨(bs 1 (.ptr 1 0 0 :: (bs 116 []))), [some [], some [.var 35 [vsl 27 eNode w.Nodes, vsl 13 eMsg w.Net, vsl 3 eAsked w.Asked, vsl 5 eTold w.Told]]]⟩
noncomputable def impl_WorldOk_k2 : List Item := posI 2000 6 [false, false, false] [.code impl_WorldOk_c]
noncomputable def impl_WorldOk_S2 (w : TWorld) : St := ⟨(bs 1 (.ptr 1 0 0 :: (bs 116 []))), [some [], some [.var 35 [vsl 27 eNode w.Nodes, vsl 13 eMsg w.Net, vsl 3 eAsked w.Asked, vsl 5 eTold w.Told]]]⟩
noncomputable def impl_WorldOk_k3 : List Item := posI 2000 8 [false, false, false, false] [.code impl_WorldOk_c]
noncomputable def impl_WorldOk_S3 (w : TWorld) : St := ⟨(bs 1 (.ptr 1 0 0 :: (bs 116 []))), [some [], some [.var 35 [vsl 27 eNode w.Nodes, vsl 13 eMsg w.Net, vsl 3 eAsked w.Asked, vsl 5 eTold w.Told]]]⟩
noncomputable def impl_WorldOk_k4 : List Item := posI 2000 10 [false, false, false, false, false] [.code impl_WorldOk_c]
noncomputable def impl_WorldOk_S4 : St := ⟨(bs 118 []), [some []]⟩
noncomputable def impl_WorldOk_k5 : Option Bool :=
  some true
theorem impl_WorldOk_k5_ok (r : Bool) (h : impl_WorldOk_k5 = some r) : Fin cx impl_WorldOk_X (impl_WorldOk_R r) (impl_WorldOk_O r) impl_WorldOk_k4 (impl_WorldOk_S4) :=
  P0 <|
 rg <| fe Tryz.func26 h
noncomputable def impl_WorldOk_k6 : List Item := posI 2000 9 [false, false, false, false] [.code impl_WorldOk_c]
noncomputable def impl_WorldOk_S5 (w : TWorld) (v83 : Int) : St := ⟨(bs 81 (vsl 5 eTold w.Told :: (vi (w.Told.length : Int) :: (vi v83 :: (bs 34 []))))), [some []]⟩
noncomputable def impl_WorldOk_b1 (w : TWorld) (v83 : Int) : Option (Stp Bool Int Unit) :=
  (bif decide (v83 < (w.Told.length : Int)) then
 ((idx w.Told v83).bind fun told =>
 ((impl_in told.Node 0 2).bind fun in_ =>
 (bif (!in_) then
 some (Stp.ret false)
 else
 ((impl_reqOk told.Req).bind fun reqOk =>
 (bif (!reqOk) then
 some (Stp.ret false)
 else
 (bif (told.Req.Who != told.Node) then
 some (Stp.ret false)
 else
 ((impl_in told.Code 0 4).bind fun in_1 =>
 (bif (!in_1) then
 some (Stp.ret false)
 else
 ((impl_in told.Val (-1000000) 1000000).bind fun in_2 =>
 (bif (!in_2) then
 some (Stp.ret false)
 else
 some (Stp.nxt (w64 (v83 + 1)))))))))))))
 else
 some (Stp.brk ()))
theorem impl_WorldOk_b1_ok (w : TWorld) (res : V) (outs : List (Option V)) (x1 : Exc Bool Unit) (hb1 : HB cx impl_WorldOk_X res outs x1 impl_WorldOk_k4 (fun s => impl_WorldOk_S4)) (hr1 : HR res outs x1 impl_WorldOk_R impl_WorldOk_O) (st1 : Stp Bool Int Unit) (hc1 : Cont x1 (fun s : Int => Fin cx impl_WorldOk_X res outs impl_WorldOk_k6 (impl_WorldOk_S5 w s)) st1) (v83 : Int) (h : impl_WorldOk_b1 w v83 = some st1) : Fin cx impl_WorldOk_X res outs impl_WorldOk_k6 (impl_WorldOk_S5 w v83) :=
  P0 <|
 rg <| cdD 0 h (fun h =>
 rg <| ixS eTold 0 h fun told htold h =>
 rg <| cb impl_in_t impl_in_ok 2 false h fun in_ h =>
 cdD 4 h (fun h =>
 rg <| (retD h hc1 fun e => fn0 Tryz.func26 (hr1 _ e))) (fun h =>
 cb impl_reqOk_t impl_reqOk_ok 7 false h fun reqOk h =>
 cdD 10 h (fun h =>
 rg <| (retD h hc1 fun e => fn0 Tryz.func26 (hr1 _ e))) (fun h =>
 cdD 18 h (fun h =>
 rg <| (retD h hc1 fun e => fn0 Tryz.func26 (hr1 _ e))) (fun h =>
 cb impl_in_t impl_in_ok 21 false h fun in_1 h =>
 cdD 24 h (fun h =>
 rg <| (retD h hc1 fun e => fn0 Tryz.func26 (hr1 _ e))) (fun h =>
 cb impl_in_t impl_in_ok 27 false h fun in_2 h =>
 cdD 29 h (fun h =>
 rg <| (retD h hc1 fun e => fn0 Tryz.func26 (hr1 _ e))) (fun h =>
 rg <| (nxtD h hc1 fun hI => sg [] [81, 82, 83] [] hI))))))) (fun h =>
 (brkD h hc1 fun e => sg [] [] [] (hb1 _ e)))
noncomputable def impl_WorldOk_k7 (w : TWorld) : Option Bool :=
  ((loop (fun s : Int => impl_WorldOk_b1 w s) 0).bind fun x => x.go (fun r => some r) fun s => impl_WorldOk_k5)
theorem impl_WorldOk_k7_ok (w : TWorld) (r : Bool) (h : impl_WorldOk_k7 w = some r) : Fin cx impl_WorldOk_X (impl_WorldOk_R r) (impl_WorldOk_O r) impl_WorldOk_k3 (impl_WorldOk_S3 w) :=
  P0 <|
 rg <| loopJ h fun x hl hr hb => sg [] [81, 82, 83] [] (loopD (I := fun s : Int => Fin cx impl_WorldOk_X (impl_WorldOk_R r) (impl_WorldOk_O r) impl_WorldOk_k6 (impl_WorldOk_S5 w s)) hl fun s st h hc => impl_WorldOk_b1_ok w _ _ x (fun s e => impl_WorldOk_k5_ok r (hb s e)) (fun v e => ⟨congrArg impl_WorldOk_R (Option.some.inj (hr v e)).symm, congrArg impl_WorldOk_O (Option.some.inj (hr v e)).symm⟩) st hc s h)
noncomputable def impl_WorldOk_k8 : List Item := posI 2000 7 [false, false, false] [.code impl_WorldOk_c]
noncomputable def impl_WorldOk_S6 (w : TWorld) (v65 : Int) : St := ⟨(bs 1 (.ptr 1 0 0 :: (bs 61 (vsl 3 eAsked w.Asked :: (vi (w.Asked.length : Int) :: (vi v65 :: (bs 52 []))))))), [some [], some [.var 35 [vsl 27 eNode w.Nodes, vsl 13 eMsg w.Net, vsl 3 eAsked w.Asked, vsl 5 eTold w.Told]]]⟩
noncomputable def impl_WorldOk_b2 (w : TWorld) (v65 : Int) : Option (Stp Bool Int Unit) :=
  (bif decide (v65 < (w.Asked.length : Int)) then
 ((idx w.Asked v65).bind fun asked =>
 ((impl_reqOk asked.Req).bind fun reqOk1 =>
 (bif (!reqOk1) then
 some (Stp.ret false)
 else
 ((impl_ProgOk asked.Prog).bind fun progOk =>
 (bif (!progOk) then
 some (Stp.ret false)
 else
 some (Stp.nxt (w64 (v65 + 1))))))))
 else
 some (Stp.brk ()))
theorem impl_WorldOk_b2_ok (w : TWorld) (res : V) (outs : List (Option V)) (x1 : Exc Bool Unit) (hb1 : HB cx impl_WorldOk_X res outs x1 impl_WorldOk_k3 (fun s => impl_WorldOk_S3 w)) (hr1 : HR res outs x1 impl_WorldOk_R impl_WorldOk_O) (st1 : Stp Bool Int Unit) (hc1 : Cont x1 (fun s : Int => Fin cx impl_WorldOk_X res outs impl_WorldOk_k8 (impl_WorldOk_S6 w s)) st1) (v65 : Int) (h : impl_WorldOk_b2 w v65 = some st1) : Fin cx impl_WorldOk_X res outs impl_WorldOk_k8 (impl_WorldOk_S6 w v65) :=
  P0 <|
 rg <| cdD 0 h (fun h =>
 rg <| ixS eAsked 0 h fun asked hasked h =>
 rg <| cb impl_reqOk_t impl_reqOk_ok 2 false h fun reqOk1 h =>
 cdD 4 h (fun h =>
 rg <| (retD h hc1 fun e => fn0 Tryz.func26 (hr1 _ e))) (fun h =>
 cb impl_ProgOk_t impl_ProgOk_ok 7 false h fun progOk h =>
 cdD 9 h (fun h =>
 rg <| (retD h hc1 fun e => fn0 Tryz.func26 (hr1 _ e))) (fun h =>
 rg <| (nxtD h hc1 fun hI => sg [] [1, 63, 64, 65] [(1, 0)] hI)))) (fun h =>
 (brkD h hc1 fun e => sg [] [1] [(1, 0)] (hb1 _ e)))
noncomputable def impl_WorldOk_k9 (w : TWorld) : Option Bool :=
  ((loop (fun s : Int => impl_WorldOk_b2 w s) 0).bind fun x => x.go (fun r => some r) fun s => impl_WorldOk_k7 w)
theorem impl_WorldOk_k9_ok (w : TWorld) (r : Bool) (h : impl_WorldOk_k9 w = some r) : Fin cx impl_WorldOk_X (impl_WorldOk_R r) (impl_WorldOk_O r) impl_WorldOk_k2 (impl_WorldOk_S2 w) :=
  P0 <|
 rg <| loopJ h fun x hl hr hb => sg [] [1, 63, 64, 65] [(1, 0)] (loopD (I := fun s : Int => Fin cx impl_WorldOk_X (impl_WorldOk_R r) (impl_WorldOk_O r) impl_WorldOk_k8 (impl_WorldOk_S6 w s)) hl fun s st h hc => impl_WorldOk_b2_ok w _ _ x (fun s e => impl_WorldOk_k7_ok w r (hb s e)) (fun v e => ⟨congrArg impl_WorldOk_R (Option.some.inj (hr v e)).symm, congrArg impl_WorldOk_O (Option.some.inj (hr v e)).symm⟩) st hc s h)
noncomputable def impl_WorldOk_k10 : List Item := posI 2000 5 [false, false] [.code impl_WorldOk_c]
noncomputable def impl_WorldOk_S7 (w : TWorld) (v54 : Int) : St := ⟨(bs 1 (.ptr 1 0 0 :: (bs 50 (vsl 13 eMsg w.Net :: (vi (w.Net.length : Int) :: (vi v54 :: (bs 63 []))))))), [some [], some [.var 35 [vsl 27 eNode w.Nodes, vsl 13 eMsg w.Net, vsl 3 eAsked w.Asked, vsl 5 eTold w.Told]]]⟩
noncomputable def impl_WorldOk_b3 (w : TWorld) (v54 : Int) : Option (Stp Bool Int Unit) :=
  (bif decide (v54 < (w.Net.length : Int)) then
 ((idx w.Net v54).bind fun msg =>
 ((impl_MsgOk msg).bind fun msgOk =>
 (bif (!msgOk) then
 some (Stp.ret false)
 else
 some (Stp.nxt (w64 (v54 + 1))))))
 else
 some (Stp.brk ()))
theorem impl_WorldOk_b3_ok (w : TWorld) (res : V) (outs : List (Option V)) (x1 : Exc Bool Unit) (hb1 : HB cx impl_WorldOk_X res outs x1 impl_WorldOk_k2 (fun s => impl_WorldOk_S2 w)) (hr1 : HR res outs x1 impl_WorldOk_R impl_WorldOk_O) (st1 : Stp Bool Int Unit) (hc1 : Cont x1 (fun s : Int => Fin cx impl_WorldOk_X res outs impl_WorldOk_k10 (impl_WorldOk_S7 w s)) st1) (v54 : Int) (h : impl_WorldOk_b3 w v54 = some st1) : Fin cx impl_WorldOk_X res outs impl_WorldOk_k10 (impl_WorldOk_S7 w v54) :=
  P0 <|
 rg <| cdD 0 h (fun h =>
 rg <| ixS eMsg 0 h fun msg hmsg h =>
 rg <| cb impl_MsgOk_t impl_MsgOk_ok 1 false h fun msgOk h =>
 cdD 2 h (fun h =>
 rg <| (retD h hc1 fun e => fn0 Tryz.func26 (hr1 _ e))) (fun h =>
 rg <| (nxtD h hc1 fun hI => sg [] [1, 52, 53, 54] [(1, 0)] hI))) (fun h =>
 (brkD h hc1 fun e => sg [] [1] [(1, 0)] (hb1 _ e)))
noncomputable def impl_WorldOk_k11 (w : TWorld) : Option Bool :=
  ((loop (fun s : Int => impl_WorldOk_b3 w s) 0).bind fun x => x.go (fun r => some r) fun s => impl_WorldOk_k9 w)
theorem impl_WorldOk_k11_ok (w : TWorld) (r : Bool) (h : impl_WorldOk_k11 w = some r) : Fin cx impl_WorldOk_X (impl_WorldOk_R r) (impl_WorldOk_O r) impl_WorldOk_k1 (impl_WorldOk_S1 w) :=
  P0 <|
 rg <| loopJ h fun x hl hr hb => sg [] [1, 52, 53, 54] [(1, 0)] (loopD (I := fun s : Int => Fin cx impl_WorldOk_X (impl_WorldOk_R r) (impl_WorldOk_O r) impl_WorldOk_k10 (impl_WorldOk_S7 w s)) hl fun s st h hc => impl_WorldOk_b3_ok w _ _ x (fun s e => impl_WorldOk_k9_ok w r (hb s e)) (fun v e => ⟨congrArg impl_WorldOk_R (Option.some.inj (hr v e)).symm, congrArg impl_WorldOk_O (Option.some.inj (hr v e)).symm⟩) st hc s h)
noncomputable def impl_WorldOk_k12 : List Item := posI 2000 3 [false] [.code impl_WorldOk_c]
noncomputable def impl_WorldOk_S8 (w : TWorld) (v36 : Int) : St := ⟨(bs 1 (.ptr 1 0 0 :: (bs 32 (vsl 27 eNode w.Nodes :: (vi (w.Nodes.length : Int) :: (vi v36 :: (bs 81 []))))))), [some [], some [.var 35 [vsl 27 eNode w.Nodes, vsl 13 eMsg w.Net, vsl 3 eAsked w.Asked, vsl 5 eTold w.Told]]]⟩
noncomputable def impl_WorldOk_b4 (w : TWorld) (v36 : Int) : Option (Stp Bool Int Unit) :=
  (bif decide (v36 < (w.Nodes.length : Int)) then
 ((idx w.Nodes v36).bind fun node =>
 (bif (node.Id != v36) then
 some (Stp.ret false)
 else
 ((impl_NodeOk node).bind fun nodeOk =>
 (bif (!nodeOk) then
 some (Stp.ret false)
 else
 some (Stp.nxt (w64 (v36 + 1)))))))
 else
 some (Stp.brk ()))
theorem impl_WorldOk_b4_ok (w : TWorld) (res : V) (outs : List (Option V)) (x1 : Exc Bool Unit) (hb1 : HB cx impl_WorldOk_X res outs x1 impl_WorldOk_k1 (fun s => impl_WorldOk_S1 w)) (hr1 : HR res outs x1 impl_WorldOk_R impl_WorldOk_O) (st1 : Stp Bool Int Unit) (hc1 : Cont x1 (fun s : Int => Fin cx impl_WorldOk_X res outs impl_WorldOk_k12 (impl_WorldOk_S8 w s)) st1) (v36 : Int) (h : impl_WorldOk_b4 w v36 = some st1) : Fin cx impl_WorldOk_X res outs impl_WorldOk_k12 (impl_WorldOk_S8 w v36) :=
  P0 <|
 rg <| cdD 0 h (fun h =>
 rg <| ixS eNode 1 h fun node hnode h =>
 rg <| cdD 4 h (fun h =>
 rg <| (retD h hc1 fun e => fn0 Tryz.func26 (hr1 _ e))) (fun h =>
 cb impl_NodeOk_t impl_NodeOk_ok 6 false h fun nodeOk h =>
 cdD 8 h (fun h =>
 rg <| (retD h hc1 fun e => fn0 Tryz.func26 (hr1 _ e))) (fun h =>
 rg <| (nxtD h hc1 fun hI => sg [] [1, 34, 35, 36] [(1, 0)] hI)))) (fun h =>
 (brkD h hc1 fun e => sg [] [1] [(1, 0)] (hb1 _ e)))
noncomputable def impl_WorldOk (w : TWorld) : Option Bool :=
  (bif ((w.Nodes.length : Int) != 3) then
 some false
 else
 (bif decide ((w.Net.length : Int) > 40) then
 some false
 else
 (bif decide ((w.Asked.length : Int) > 60) then
 some false
 else
 (bif decide ((w.Told.length : Int) > 60) then
 some false
 else
 ((loop (fun s : Int => impl_WorldOk_b4 w s) 0).bind fun x => x.go (fun r => some r) fun s => impl_WorldOk_k11 w)))))
theorem impl_WorldOk_ok {w : TWorld} (r : Bool) (h : impl_WorldOk w = some r) : ACalls cx.P 26 [.agg (eWorld w)] (impl_WorldOk_R r) (impl_WorldOk_O r) :=
  ACalls.of (cx := cx) (X := impl_WorldOk_X) (c := impl_WorldOk_c) Tryz.func26 (by kernel_rfl) (by kernel_rfl) (by kernel_rfl) (P0 <|
 rg2 <| cdD 4 h (fun h =>
 rg <| fe Tryz.func26 h) (fun h =>
 cdD 10 h (fun h =>
 rg <| fe Tryz.func26 h) (fun h =>
 cdD 16 h (fun h =>
 rg <| fe Tryz.func26 h) (fun h =>
 cdD 21 h (fun h =>
 rg <| fe Tryz.func26 h) (fun h =>
 rg <| loopJ h fun x hl hr hb => sg [] [1, 34, 35, 36] [(1, 0)] (loopD (I := fun s : Int => Fin cx impl_WorldOk_X (impl_WorldOk_R r) (impl_WorldOk_O r) impl_WorldOk_k12 (impl_WorldOk_S8 w s)) hl fun s st h hc => impl_WorldOk_b4_ok w _ _ x (fun s e => impl_WorldOk_k11_ok w r (hb s e)) (fun v e => ⟨congrArg impl_WorldOk_R (Option.some.inj (hr v e)).symm, congrArg impl_WorldOk_O (Option.some.inj (hr v e)).symm⟩) st hc s h))))))

/-! ### impl_copied_Entry -/
noncomputable def impl_copied_Entry_c : Code := bodyOf Tryz.f114
noncomputable def impl_copied_Entry_X : Sig := { f := 114, fn := Tryz.f114, rms := [.val [some 7] [some 75]], oms := [none] }
noncomputable def impl_copied_Entry_R (r : List TEntry) : V := vosl 75 7 eEntry r
noncomputable def impl_copied_Entry_O (r : List TEntry) : List (Option V) := [none]
noncomputable def impl_copied_Entry_t (i : Nat) (fr : Bool) (r : List TEntry) : Nat × Tell := (i, { a := .call [.val [some 7] []] fr (impl_copied_Entry_R r) (impl_copied_Entry_O r) })
noncomputable def impl_copied_Entry (list : List TEntry) : Option (List TEntry) :=
  (bif ((list.length : Int) == 0) then
 some []
 else
 (need (0 ≤ (list.length : Int) ∧ (list.length : Int) * 88 ≤ 140737488355328)
 ((need (list.length = (List.replicate (list.length : Int).toNat (TEntry.mk false (TReq.mk 0 0) (TRun.mk [] [] 0 0))).length)
 (some list)))))
theorem impl_copied_Entry_ok {list : List TEntry} (r : List TEntry) (h : impl_copied_Entry list = some r) : ACalls cx.P 114 [vsl 7 eEntry list] (impl_copied_Entry_R r) (impl_copied_Entry_O r) :=
  ACalls.of (cx := cx) (X := impl_copied_Entry_X) (c := impl_copied_Entry_c) Tryz.func114 (by kernel_rfl) (by kernel_rfl) (by kernel_rfl) (P0 <|
 rg2 <| cdD 2 h (fun h =>
 rg <| fe Tryz.func114 h) (fun h =>
 rg <| needD h fun e1 h =>
 mkS 2 7 75 7 88 eEntry (TEntry.mk false (TReq.mk 0 0) (TRun.mk [] [] 0 0)) ti75 (.ck ck75) e1 (by decide) (by rfl) <| rg <| needD h fun e2 h =>
 om (Ent.row 75 7 (List.replicate (list.length : Int).toNat (TEntry.mk false (TReq.mk 0 0) (TRun.mk [] [] 0 0))).length (list.map eEntry) = erow 75 7 eEntry list) (row_copy e2) <| om ((List.replicate (list.length : Int).toNat (TEntry.mk false (TReq.mk 0 0) (TRun.mk [] [] 0 0))).length = (List.replicate (list.length : Int).toNat (TEntry.mk false (TReq.mk 0 0) (TRun.mk [] [] 0 0))).length) rfl <| ob e2 <| tl (2, { e := some (erow 75 7 eEntry list) }) <| rg <| om ((List.replicate (list.length : Int).toNat (TEntry.mk false (TReq.mk 0 0) (TRun.mk [] [] 0 0))).length = list.length) (by simp) <| fe Tryz.func114 h))

/-! ### impl_copied_Read -/
noncomputable def impl_copied_Read_c : Code := bodyOf Tryz.f154
noncomputable def impl_copied_Read_X : Sig := { f := 154, fn := Tryz.f154, rms := [.val [some 2] []], oms := [none] }
noncomputable def impl_copied_Read_R (r : List TRead) : V := vsl 2 eRead r
noncomputable def impl_copied_Read_O (r : List TRead) : List (Option V) := [none]
noncomputable def impl_copied_Read_t (i : Nat) (fr : Bool) (r : List TRead) : Nat × Tell := (i, { a := .call [.val [some 2] []] fr (impl_copied_Read_R r) (impl_copied_Read_O r) })
noncomputable def impl_copied_Read (list : List TRead) : Option (List TRead) :=
  (bif ((list.length : Int) == 0) then
 some []
 else
 (need (0 ≤ (list.length : Int) ∧ (list.length : Int) * 16 ≤ 140737488355328)
 ((need (list.length = (List.replicate (list.length : Int).toNat (TRead.mk 0 0)).length)
 (some list)))))
theorem impl_copied_Read_ok {list : List TRead} (r : List TRead) (h : impl_copied_Read list = some r) : ACalls cx.P 154 [vsl 2 eRead list] (impl_copied_Read_R r) (impl_copied_Read_O r) :=
  ACalls.of (cx := cx) (X := impl_copied_Read_X) (c := impl_copied_Read_c) Tryz.func154 (by kernel_rfl) (by kernel_rfl) (by kernel_rfl) (P0 <|
 rg2 <| cdD 2 h (fun h =>
 rg <| fe Tryz.func154 h) (fun h =>
 rg <| needD h fun e1 h =>
 mkS 2 7 193 2 16 eRead (TRead.mk 0 0) ti193 (.none) e1 (by decide) (by rfl) <| rg <| needD h fun e2 h =>
 om (Ent.row 193 2 (List.replicate (list.length : Int).toNat (TRead.mk 0 0)).length (list.map eRead) = erow 193 2 eRead list) (row_copy e2) <| om ((List.replicate (list.length : Int).toNat (TRead.mk 0 0)).length = (List.replicate (list.length : Int).toNat (TRead.mk 0 0)).length) rfl <| ob e2 <| tl (2, { e := some (erow 193 2 eRead list) }) <| rg <| om ((List.replicate (list.length : Int).toNat (TRead.mk 0 0)).length = list.length) (by simp) <| fe Tryz.func154 h))

/-! ### impl_copied_Put -/
noncomputable def impl_copied_Put_c : Code := bodyOf Tryz.f155
noncomputable def impl_copied_Put_X : Sig := { f := 155, fn := Tryz.f155, rms := [.val [some 2] []], oms := [none] }
noncomputable def impl_copied_Put_R (r : List TPut) : V := vsl 2 ePut r
noncomputable def impl_copied_Put_O (r : List TPut) : List (Option V) := [none]
noncomputable def impl_copied_Put_t (i : Nat) (fr : Bool) (r : List TPut) : Nat × Tell := (i, { a := .call [.val [some 2] []] fr (impl_copied_Put_R r) (impl_copied_Put_O r) })
noncomputable def impl_copied_Put (list : List TPut) : Option (List TPut) :=
  (bif ((list.length : Int) == 0) then
 some []
 else
 (need (0 ≤ (list.length : Int) ∧ (list.length : Int) * 16 ≤ 140737488355328)
 ((need (list.length = (List.replicate (list.length : Int).toNat (TPut.mk 0 0)).length)
 (some list)))))
theorem impl_copied_Put_ok {list : List TPut} (r : List TPut) (h : impl_copied_Put list = some r) : ACalls cx.P 155 [vsl 2 ePut list] (impl_copied_Put_R r) (impl_copied_Put_O r) :=
  ACalls.of (cx := cx) (X := impl_copied_Put_X) (c := impl_copied_Put_c) Tryz.func155 (by kernel_rfl) (by kernel_rfl) (by kernel_rfl) (P0 <|
 rg2 <| cdD 2 h (fun h =>
 rg <| fe Tryz.func155 h) (fun h =>
 rg <| needD h fun e1 h =>
 mkS 2 7 195 2 16 ePut (TPut.mk 0 0) ti195 (.none) e1 (by decide) (by rfl) <| rg <| needD h fun e2 h =>
 om (Ent.row 195 2 (List.replicate (list.length : Int).toNat (TPut.mk 0 0)).length (list.map ePut) = erow 195 2 ePut list) (row_copy e2) <| om ((List.replicate (list.length : Int).toNat (TPut.mk 0 0)).length = (List.replicate (list.length : Int).toNat (TPut.mk 0 0)).length) rfl <| ob e2 <| tl (2, { e := some (erow 195 2 ePut list) }) <| rg <| om ((List.replicate (list.length : Int).toNat (TPut.mk 0 0)).length = list.length) (by simp) <| fe Tryz.func155 h))

/-! ### impl_runCopy -/
noncomputable def impl_runCopy_c : Code := bodyOf Tryz.f148
noncomputable def impl_runCopy_X : Sig := { f := 148, fn := Tryz.f148, rms := [.val ck73 []], oms := [none] }
noncomputable def impl_runCopy_R (r : TRun) : V := .agg (eRun r)
noncomputable def impl_runCopy_O (r : TRun) : List (Option V) := [none]
noncomputable def impl_runCopy_t (i : Nat) (fr : Bool) (r : TRun) : Nat × Tell := (i, { a := .call [.val ck73 []] fr (impl_runCopy_R r) (impl_runCopy_O r) })
noncomputable def impl_runCopy (r_ : TRun) : Option TRun :=
  ((impl_copied_Read r_.Reads).bind fun read =>
 ((impl_copied_Put r_.Puts).bind fun put =>
 some (TRun.mk read put r_.Val r_.Code)))
theorem impl_runCopy_ok {r_ : TRun} (r : TRun) (h : impl_runCopy r_ = some r) : ACalls cx.P 148 [.agg (eRun r_)] (impl_runCopy_R r) (impl_runCopy_O r) :=
  ACalls.of (cx := cx) (X := impl_runCopy_X) (c := impl_runCopy_c) Tryz.func148 (by kernel_rfl) (by kernel_rfl) (by kernel_rfl) (P0 <|
 rg2 <| cb impl_copied_Read_t impl_copied_Read_ok 2 false h fun read h =>
 cb impl_copied_Put_t impl_copied_Put_ok 5 false h fun put h =>
 fe Tryz.func148 h)

/-! ### impl_entryCopy -/
noncomputable def impl_entryCopy_c : Code := bodyOf Tryz.f115
noncomputable def impl_entryCopy_X : Sig := { f := 115, fn := Tryz.f115, rms := [.val ck75 []], oms := [none] }
noncomputable def impl_entryCopy_R (r : TEntry) : V := .agg (eEntry r)
noncomputable def impl_entryCopy_O (r : TEntry) : List (Option V) := [none]
noncomputable def impl_entryCopy_t (i : Nat) (fr : Bool) (r : TEntry) : Nat × Tell := (i, { a := .call [.val ck75 []] fr (impl_entryCopy_R r) (impl_entryCopy_O r) })
noncomputable def impl_entryCopy (e_ : TEntry) : Option TEntry :=
  ((impl_runCopy e_.Run).bind fun runCopy =>
 some (TEntry.mk e_.None e_.Req runCopy))
theorem impl_entryCopy_ok {e_ : TEntry} (r : TEntry) (h : impl_entryCopy e_ = some r) : ACalls cx.P 115 [.agg (eEntry e_)] (impl_entryCopy_R r) (impl_entryCopy_O r) :=
  ACalls.of (cx := cx) (X := impl_entryCopy_X) (c := impl_entryCopy_c) Tryz.func115 (by kernel_rfl) (by kernel_rfl) (by kernel_rfl) (P0 <|
 rg2 <| cb impl_runCopy_t impl_runCopy_ok 6 false h fun runCopy h =>
 fe Tryz.func115 h)

/-! ### impl_entriesCopy -/
noncomputable def impl_entriesCopy_c : Code := bodyOf Tryz.f65
noncomputable def impl_entriesCopy_X : Sig := { f := 65, fn := Tryz.f65, rms := [.val [some 7] []], oms := [none] }
noncomputable def impl_entriesCopy_R (r : List TEntry) : V := vsl 7 eEntry r
noncomputable def impl_entriesCopy_O (r : List TEntry) : List (Option V) := [none]
noncomputable def impl_entriesCopy_t (i : Nat) (fr : Bool) (r : List TEntry) : Nat × Tell := (i, { a := .call [.val [some 7] []] fr (impl_entriesCopy_R r) (impl_entriesCopy_O r) })
noncomputable def impl_entriesCopy_k1 : List Item := posI 2000 4 [false] [.code impl_entriesCopy_c]
noncomputable def impl_entriesCopy_S1 (out1 : List TEntry) : St := ⟨(bs 3 (.own 1 0 7 0 out1.length :: (bs 18 []))), [some [], some [erow 75 7 eEntry out1]]⟩
noncomputable def impl_entriesCopy_k2 (out1 : List TEntry) : Option (List TEntry) :=
  some out1
theorem impl_entriesCopy_k2_ok (r : List TEntry) (out1 : List TEntry) (h : impl_entriesCopy_k2 out1 = some r) : Fin cx impl_entriesCopy_X (impl_entriesCopy_R r) (impl_entriesCopy_O r) impl_entriesCopy_k1 (impl_entriesCopy_S1 out1) :=
  P0 <|
 rg <| om (out1.length = out1.length) rfl <| fe Tryz.func65 h
noncomputable def impl_entriesCopy_k3 : List Item := posI 2000 3 [] [.code impl_entriesCopy_c]
noncomputable def impl_entriesCopy_S2 (entry : List TEntry) (out : List TEntry) (v9 : Int) : St := ⟨(bs 3 (.own 1 0 7 0 out.length :: (bs 4 (vi (entry.length : Int) :: (vi v9 :: (bs 12 [])))))), [some [], some [erow 75 7 eEntry out]]⟩
noncomputable def impl_entriesCopy_b1 (entry : List TEntry) (out : List TEntry) (v9 : Int) : Option (Stp (List TEntry) ((List TEntry) × Int) (List TEntry)) :=
  (bif decide (v9 < (entry.length : Int)) then
 ((idx out v9).bind fun entry1 =>
 ((impl_entryCopy entry1).bind fun entryCopy =>
 some (Stp.nxt (out.set v9.toNat entryCopy, w64 (v9 + 1)))))
 else
 some (Stp.brk out))
theorem impl_entriesCopy_b1_ok (entry : List TEntry) (res : V) (outs : List (Option V)) (x1 : Exc (List TEntry) (List TEntry)) (hb1 : HB cx impl_entriesCopy_X res outs x1 impl_entriesCopy_k1 impl_entriesCopy_S1) (hr1 : HR res outs x1 impl_entriesCopy_R impl_entriesCopy_O) (st1 : Stp (List TEntry) ((List TEntry) × Int) (List TEntry)) (hc1 : Cont x1 (fun s : (List TEntry) × Int => Fin cx impl_entriesCopy_X res outs impl_entriesCopy_k3 (impl_entriesCopy_S2 entry s.1 s.2)) st1) (out : List TEntry) (v9 : Int) (h : impl_entriesCopy_b1 entry out v9 = some st1) : Fin cx impl_entriesCopy_X res outs impl_entriesCopy_k3 (impl_entriesCopy_S2 entry out v9) :=
  P0 <|
 rg <| cdD 0 h (fun h =>
 rg2 <| bindD h fun entry1 hentry1 h =>
 ixB hentry1 <| ldR eEntry 5 hentry1 <| cb impl_entryCopy_t impl_entryCopy_ok 6 false h fun entryCopy h =>
 ixB hentry1 <| stR 75 7 eEntry 8 ck75 entryCopy hentry1 <| rg <| (nxtD h hc1 fun hI => om ((.own 1 0 7 0 out.length : V) = .own 1 0 7 0 (out.set v9.toNat entryCopy).length) (by simp) <| sg [.is (.tmp 3) (.own 1 0 7 0 (out.set v9.toNat entryCopy).length)] [3, 8, 9] [(1, 0)] hI)) (fun h =>
 (brkD h hc1 fun e => sg [] [3] [(1, 0)] (hb1 _ e)))
noncomputable def impl_entriesCopy (list : List TEntry) : Option (List TEntry) :=
  ((impl_copied_Entry list).bind fun entry =>
 ((loop (fun s : (List TEntry) × Int => impl_entriesCopy_b1 entry s.1 s.2) (entry, 0)).bind fun x => x.go (fun r => some r) fun s => impl_entriesCopy_k2 s))
theorem impl_entriesCopy_ok {list : List TEntry} (r : List TEntry) (h : impl_entriesCopy list = some r) : ACalls cx.P 65 [vsl 7 eEntry list] (impl_entriesCopy_R r) (impl_entriesCopy_O r) :=
  ACalls.of (cx := cx) (X := impl_entriesCopy_X) (c := impl_entriesCopy_c) Tryz.func65 (by kernel_rfl) (by kernel_rfl) (by kernel_rfl) (P0 <|
 rg2 <| cb impl_copied_Entry_t impl_copied_Entry_ok 1 false h fun entry h =>
 rg <| loopJ h fun x hl hr hb => sg [] [3, 8, 9] [(3, 0)] (loopD (I := fun s : (List TEntry) × Int => Fin cx impl_entriesCopy_X (impl_entriesCopy_R r) (impl_entriesCopy_O r) impl_entriesCopy_k3 (impl_entriesCopy_S2 entry s.1 s.2)) hl fun s st h hc => impl_entriesCopy_b1_ok entry _ _ x (fun s e => impl_entriesCopy_k2_ok r s (hb s e)) (fun v e => ⟨congrArg impl_entriesCopy_R (Option.some.inj (hr v e)).symm, congrArg impl_entriesCopy_O (Option.some.inj (hr v e)).symm⟩) st hc s.1 s.2 h))

/-! ### impl_WorldLog -/
noncomputable def impl_WorldLog_c : Code := bodyOf Tryz.f27
noncomputable def impl_WorldLog_X : Sig := { f := 27, fn := Tryz.f27, rms := [.val [some 7] []], oms := [none] }
noncomputable def impl_WorldLog_R (r : List TEntry) : V := vsl 7 eEntry r
noncomputable def impl_WorldLog_O (r : List TEntry) : List (Option V) := [none]
noncomputable def impl_WorldLog_t (i : Nat) (fr : Bool) (r : List TEntry) : Nat × Tell := (i, { a := .call [.val ck35 []] fr (impl_WorldLog_R r) (impl_WorldLog_O r) })
noncomputable def impl_WorldLog_k1 : List Item := posI 2000 4 [false] [.code impl_WorldLog_c]
noncomputable def impl_WorldLog_S1 (w : TWorld) (best1 : Int) : St := ⟨(bs 1 (.ptr 1 0 0 :: (bs 1 (vi best1 :: (bs 36 []))))), [some [], some [.var 35 [vsl 27 eNode w.Nodes, vsl 13 eMsg w.Net, vsl 3 eAsked w.Asked, vsl 5 eTold w.Told]]]⟩
noncomputable def impl_WorldLog_k2 (w : TWorld) (best1 : Int) : Option (List TEntry) :=
  (bif decide (best1 < 0) then
 some []
 else
 ((idx w.Nodes best1).bind fun node =>
 ((impl_entriesCopy node.Known).bind fun entriesCopy =>
 some entriesCopy)))
theorem impl_WorldLog_k2_ok (w : TWorld) (r : List TEntry) (best1 : Int) (h : impl_WorldLog_k2 w best1 = some r) : Fin cx impl_WorldLog_X (impl_WorldLog_R r) (impl_WorldLog_O r) impl_WorldLog_k1 (impl_WorldLog_S1 w best1) :=
  P0 <|
 rg <| cdD 1 h (fun h =>
 rg <| fe Tryz.func27 h) (fun h =>
 rg <| ixS eNode 3 h fun node hnode h =>
 cb impl_entriesCopy_t impl_entriesCopy_ok 6 false h fun entriesCopy h =>
 fe Tryz.func27 h)
noncomputable def impl_WorldLog_k3 : List Item := posI 2000 3 [] [.code impl_WorldLog_c]
noncomputable def impl_WorldLog_S2 (w : TWorld) (best : Int) (v9 : Int) : St := ⟨(bs 1 (.ptr 1 0 0 :: (bs 1 (vi best :: (bs 3 (vsl 27 eNode w.Nodes :: (vi (w.Nodes.length : Int) :: (vi v9 :: (bs 30 []))))))))), [some [], some [.var 35 [vsl 27 eNode w.Nodes, vsl 13 eMsg w.Net, vsl 3 eAsked w.Asked, vsl 5 eTold w.Told]]]⟩
noncomputable def impl_WorldLog_k4 : List Item := posI 2000 7 [true, true] [.code impl_WorldLog_c]
noncomputable def impl_WorldLog_S3 (w : TWorld) (v9 : Int) (best2 : Int) : St := ⟨(bs 1 (.ptr 1 0 0 :: (bs 1 (vi best2 :: (bs 3 (vsl 27 eNode w.Nodes :: (vi (w.Nodes.length : Int) :: (vi v9 :: (bs 30 []))))))))), [some [], some [.var 35 [vsl 27 eNode w.Nodes, vsl 13 eMsg w.Net, vsl 3 eAsked w.Asked, vsl 5 eTold w.Told]]]⟩
noncomputable def impl_WorldLog_j1 (v9 : Int) (best2 : Int) : Option (Stp (List TEntry) (Int × Int) Int) :=
  some (Stp.nxt (best2, w64 (v9 + 1)))
theorem impl_WorldLog_j1_ok (w : TWorld) (v9 : Int) (res : V) (outs : List (Option V)) (x1 : Exc (List TEntry) Int) (hb1 : HB cx impl_WorldLog_X res outs x1 impl_WorldLog_k1 (impl_WorldLog_S1 w)) (hr1 : HR res outs x1 impl_WorldLog_R impl_WorldLog_O) (st1 : Stp (List TEntry) (Int × Int) Int) (hc1 : Cont x1 (fun s : Int × Int => Fin cx impl_WorldLog_X res outs impl_WorldLog_k3 (impl_WorldLog_S2 w s.1 s.2)) st1) (best2 : Int) (h : impl_WorldLog_j1 v9 best2 = some st1) : Fin cx impl_WorldLog_X res outs impl_WorldLog_k4 (impl_WorldLog_S3 w v9 best2) :=
  P0 <|
 rg <| (nxtD h hc1 fun hI => sg [] [1, 3, 7, 8, 9] [(1, 0)] hI)
noncomputable def impl_WorldLog_b1 (w : TWorld) (best : Int) (v9 : Int) : Option (Stp (List TEntry) (Int × Int) Int) :=
  (bif decide (v9 < (w.Nodes.length : Int)) then
 ((idx w.Nodes v9).bind fun node1 =>
 (((bif decide (best < 0) then
 some (Exc.brk v9)
 else
 ((idx w.Nodes best).bind fun node2 =>
 (bif decide ((node1.Known.length : Int) > (node2.Known.length : Int)) then
 some (Exc.brk v9)
 else
 some (Exc.brk best)))) : Option (Exc (Stp (List TEntry) (Int × Int) Int) Int)).bind fun x => x.go some fun j => impl_WorldLog_j1 v9 j))
 else
 some (Stp.brk best))
theorem impl_WorldLog_b1_ok (w : TWorld) (res : V) (outs : List (Option V)) (x1 : Exc (List TEntry) Int) (hb1 : HB cx impl_WorldLog_X res outs x1 impl_WorldLog_k1 (impl_WorldLog_S1 w)) (hr1 : HR res outs x1 impl_WorldLog_R impl_WorldLog_O) (st1 : Stp (List TEntry) (Int × Int) Int) (hc1 : Cont x1 (fun s : Int × Int => Fin cx impl_WorldLog_X res outs impl_WorldLog_k3 (impl_WorldLog_S2 w s.1 s.2)) st1) (best : Int) (v9 : Int) (h : impl_WorldLog_b1 w best v9 = some st1) : Fin cx impl_WorldLog_X res outs impl_WorldLog_k3 (impl_WorldLog_S2 w best v9) :=
  P0 <|
 rg <| cdD 0 h (fun h =>
 rg <| ixS eNode 1 h fun node1 hnode1 h =>
 joinD (I := fun j : Int => Fin cx impl_WorldLog_X res outs impl_WorldLog_k4 (impl_WorldLog_S3 w v9 j)) h (fun j h => impl_WorldLog_j1_ok w v9 res outs x1 hb1 hr1 st1 hc1 j h) (fun x2 h hc2 =>
  rg <| cdD 2 h (fun h =>
 rg <| (jbrkD h hc2 fun hI => sg [] [1, 3, 7, 8, 9] [(1, 0)] hI)) (fun h =>
 ixS eNode 9 h fun node2 hnode2 h =>
 cdD 14 h (fun h =>
 rg <| (jbrkD h hc2 fun hI => sg [] [1, 3, 7, 8, 9] [(1, 0)] hI)) (fun h =>
 (jbrkD h hc2 fun hI => sg [] [1, 3, 7, 8, 9] [(1, 0)] hI))))) (fun h =>
 (brkD h hc1 fun e => sg [] [1, 3] [(1, 0)] (hb1 _ e)))
noncomputable def impl_WorldLog (w : TWorld) : Option (List TEntry) :=
  ((loop (fun s : Int × Int => impl_WorldLog_b1 w s.1 s.2) ((-1), 0)).bind fun x => x.go (fun r => some r) fun s => impl_WorldLog_k2 w s)
theorem impl_WorldLog_ok {w : TWorld} (r : List TEntry) (h : impl_WorldLog w = some r) : ACalls cx.P 27 [.agg (eWorld w)] (impl_WorldLog_R r) (impl_WorldLog_O r) :=
  ACalls.of (cx := cx) (X := impl_WorldLog_X) (c := impl_WorldLog_c) Tryz.func27 (by kernel_rfl) (by kernel_rfl) (by kernel_rfl) (P0 <|
 rg3 <| loopJ h fun x hl hr hb => sg [] [1, 3, 7, 8, 9] [(1, 0)] (loopD (I := fun s : Int × Int => Fin cx impl_WorldLog_X (impl_WorldLog_R r) (impl_WorldLog_O r) impl_WorldLog_k3 (impl_WorldLog_S2 w s.1 s.2)) hl fun s st h hc => impl_WorldLog_b1_ok w _ _ x (fun s e => impl_WorldLog_k2_ok w r s (hb s e)) (fun v e => ⟨congrArg impl_WorldLog_R (Option.some.inj (hr v e)).symm, congrArg impl_WorldLog_O (Option.some.inj (hr v e)).symm⟩) st hc s.1 s.2 h))

/-! ### impl_BoxOpen -/
noncomputable def impl_BoxOpen_c : Code := bodyOf Tryz.f31
noncomputable def impl_BoxOpen_X : Sig := { f := 31, fn := Tryz.f31, rms := [.val [some 2] []], oms := [] }
noncomputable def impl_BoxOpen_R (r : List TBox) : V := vsl 2 eBox r
noncomputable def impl_BoxOpen_O (r : List TBox) : List (Option V) := []
noncomputable def impl_BoxOpen_t (i : Nat) (fr : Bool) (r : List TBox) : Nat × Tell := (i, { a := .call [] fr (impl_BoxOpen_R r) (impl_BoxOpen_O r) })
noncomputable def impl_BoxOpen : Option (List TBox) :=
  (need (0 ≤ (4 : Int) ∧ (4 : Int) * 16 ≤ 140737488355328)
 (some (List.replicate (4 : Int).toNat (TBox.mk 0 0))))
theorem impl_BoxOpen_ok (r : List TBox) (h : impl_BoxOpen = some r) : ACalls cx.P 31 [] (impl_BoxOpen_R r) (impl_BoxOpen_O r) :=
  ACalls.of (cx := cx) (X := impl_BoxOpen_X) (c := impl_BoxOpen_c) Tryz.func31 (by kernel_rfl) (by kernel_rfl) (by kernel_rfl) (P0 <|
 rg2 <| needD h fun e1 h =>
 mkS 0 2 128 2 16 eBox (TBox.mk 0 0) ti128 (.none) e1 (by decide) (by rfl) <| om ((List.replicate (4 : Int).toNat (TBox.mk 0 0)).length = (List.replicate (4 : Int).toNat (TBox.mk 0 0)).length) rfl <| fe Tryz.func31 h)

/-! ### impl_CertOpen -/
noncomputable def impl_CertOpen_c : Code := bodyOf Tryz.f116
noncomputable def impl_CertOpen_X : Sig := { f := 116, fn := Tryz.f116, rms := [.val [none, some 2, some 4] []], oms := [] }
noncomputable def impl_CertOpen_R (r : TState) : V := .agg (eState r)
noncomputable def impl_CertOpen_O (r : TState) : List (Option V) := []
noncomputable def impl_CertOpen_t (i : Nat) (fr : Bool) (r : TState) : Nat × Tell := (i, { a := .call [] fr (impl_CertOpen_R r) (impl_CertOpen_O r) })
noncomputable def impl_CertOpen : Option TState :=
  ((impl_BoxOpen).bind fun boxOpen =>
 some (TState.mk 0 boxOpen []))
theorem impl_CertOpen_ok (r : TState) (h : impl_CertOpen = some r) : ACalls cx.P 116 [] (impl_CertOpen_R r) (impl_CertOpen_O r) :=
  ACalls.of (cx := cx) (X := impl_CertOpen_X) (c := impl_CertOpen_c) Tryz.func116 (by kernel_rfl) (by kernel_rfl) (by kernel_rfl) (P0 <|
 rg2 <| cb impl_BoxOpen_t impl_BoxOpen_ok 0 false h fun boxOpen h =>
 fe Tryz.func116 h)

/-! ### impl_BoxOk -/
noncomputable def impl_BoxOk_c : Code := bodyOf Tryz.f70
noncomputable def impl_BoxOk_X : Sig := { f := 70, fn := Tryz.f70, rms := [.val [] []], oms := [none] }
noncomputable def impl_BoxOk_R (r : Bool) : V := .b r
noncomputable def impl_BoxOk_O (r : Bool) : List (Option V) := [none]
noncomputable def impl_BoxOk_t (i : Nat) (fr : Bool) (r : Bool) : Nat × Tell := (i, { a := .call [.val [some 2] []] fr (impl_BoxOk_R r) (impl_BoxOk_O r) })
noncomputable def impl_BoxOk_k1 : List Item := posI 2000 3 [false] [.code impl_BoxOk_c]
noncomputable def impl_BoxOk_S1 (list : List TBox) : St := ⟨(vsl 2 eBox list :: (bs 24 [])), [some []]⟩
noncomputable def impl_BoxOk_k2 (list : List TBox) : Option Bool :=
  some ((list.length : Int) == 4)
theorem impl_BoxOk_k2_ok (list : List TBox) (r : Bool) (h : impl_BoxOk_k2 list = some r) : Fin cx impl_BoxOk_X (impl_BoxOk_R r) (impl_BoxOk_O r) impl_BoxOk_k1 (impl_BoxOk_S1 list) :=
  P0 <|
 rg <| fe Tryz.func70 h
noncomputable def impl_BoxOk_k3 : List Item := posI 2000 2 [] [.code impl_BoxOk_c]
noncomputable def impl_BoxOk_S2 (list : List TBox) (v7 : Int) : St := ⟨(vsl 2 eBox list :: (bs 4 (vsl 2 eBox list :: (vi (list.length : Int) :: (vi v7 :: (bs 17 [])))))), [some []]⟩
noncomputable def impl_BoxOk_b1 (list : List TBox) (v7 : Int) : Option (Stp Bool Int Unit) :=
  (bif decide (v7 < (list.length : Int)) then
 ((idx list v7).bind fun box =>
 ((impl_in box.Ver 0 1000000).bind fun in_ =>
 (bif (!in_) then
 some (Stp.ret false)
 else
 ((impl_in box.Val (-1000000) 1000000).bind fun in_1 =>
 (bif (!in_1) then
 some (Stp.ret false)
 else
 some (Stp.nxt (w64 (v7 + 1))))))))
 else
 some (Stp.brk ()))
theorem impl_BoxOk_b1_ok (list : List TBox) (res : V) (outs : List (Option V)) (x1 : Exc Bool Unit) (hb1 : HB cx impl_BoxOk_X res outs x1 impl_BoxOk_k1 (fun s => impl_BoxOk_S1 list)) (hr1 : HR res outs x1 impl_BoxOk_R impl_BoxOk_O) (st1 : Stp Bool Int Unit) (hc1 : Cont x1 (fun s : Int => Fin cx impl_BoxOk_X res outs impl_BoxOk_k3 (impl_BoxOk_S2 list s)) st1) (v7 : Int) (h : impl_BoxOk_b1 list v7 = some st1) : Fin cx impl_BoxOk_X res outs impl_BoxOk_k3 (impl_BoxOk_S2 list v7) :=
  P0 <|
 rg <| cdD 0 h (fun h =>
 rg <| ixS eBox 0 h fun box hbox h =>
 rg <| cb impl_in_t impl_in_ok 2 false h fun in_ h =>
 cdD 4 h (fun h =>
 rg <| (retD h hc1 fun e => fn0 Tryz.func70 (hr1 _ e))) (fun h =>
 cb impl_in_t impl_in_ok 7 false h fun in_1 h =>
 cdD 9 h (fun h =>
 rg <| (retD h hc1 fun e => fn0 Tryz.func70 (hr1 _ e))) (fun h =>
 rg <| (nxtD h hc1 fun hI => sg [] [0, 5, 6, 7] [] hI)))) (fun h =>
 (brkD h hc1 fun e => sg [] [0] [] (hb1 _ e)))
noncomputable def impl_BoxOk (list : List TBox) : Option Bool :=
  ((loop (fun s : Int => impl_BoxOk_b1 list s) 0).bind fun x => x.go (fun r => some r) fun s => impl_BoxOk_k2 list)
theorem impl_BoxOk_ok {list : List TBox} (r : Bool) (h : impl_BoxOk list = some r) : ACalls cx.P 70 [vsl 2 eBox list] (impl_BoxOk_R r) (impl_BoxOk_O r) :=
  ACalls.of (cx := cx) (X := impl_BoxOk_X) (c := impl_BoxOk_c) Tryz.func70 (by kernel_rfl) (by kernel_rfl) (by kernel_rfl) (P0 <|
 rg2 <| loopJ h fun x hl hr hb => sg [] [0, 5, 6, 7] [] (loopD (I := fun s : Int => Fin cx impl_BoxOk_X (impl_BoxOk_R r) (impl_BoxOk_O r) impl_BoxOk_k3 (impl_BoxOk_S2 list s)) hl fun s st h hc => impl_BoxOk_b1_ok list _ _ x (fun s e => impl_BoxOk_k2_ok list r (hb s e)) (fun v e => ⟨congrArg impl_BoxOk_R (Option.some.inj (hr v e)).symm, congrArg impl_BoxOk_O (Option.some.inj (hr v e)).symm⟩) st hc s h))

/-! ### impl_CertOk -/
noncomputable def impl_CertOk_c : Code := bodyOf Tryz.f149
noncomputable def impl_CertOk_X : Sig := { f := 149, fn := Tryz.f149, rms := [.val [] []], oms := [none] }
noncomputable def impl_CertOk_R (r : Bool) : V := .b r
noncomputable def impl_CertOk_O (r : Bool) : List (Option V) := [none]
noncomputable def impl_CertOk_t (i : Nat) (fr : Bool) (r : Bool) : Nat × Tell := (i, { a := .call [.val [none, some 2, some 4] []] fr (impl_CertOk_R r) (impl_CertOk_O r) })
noncomputable def impl_CertOk_k1 : List Item := posI 2000 3 [false] [.code impl_CertOk_c]
noncomputable def impl_CertOk_S1 (s_ : TState) : St := ⟨(bs 1 (.ptr 1 0 0 :: (bs 64 []))), [some [], some [.var 58 [vi s_.At, vsl 2 eBox s_.Boxes, vsl 4 eDone s_.Dones]]]⟩
noncomputable def impl_CertOk_k2 (s_ : TState) : Option Bool :=
  ((impl_in s_.At 0 40).bind fun in_ =>
 (bif in_ then
 ((impl_BoxOk s_.Boxes).bind fun boxOk =>
 some boxOk)
 else
 some false))
theorem impl_CertOk_k2_ok (s_ : TState) (r : Bool) (h : impl_CertOk_k2 s_ = some r) : Fin cx impl_CertOk_X (impl_CertOk_R r) (impl_CertOk_O r) impl_CertOk_k1 (impl_CertOk_S1 s_) :=
  P0 <|
 rg <| cb impl_in_t impl_in_ok 2 false h fun in_ h =>
 cdD 3 h (fun h =>
 cb impl_BoxOk_t impl_BoxOk_ok 6 false h fun boxOk h =>
 fe Tryz.func149 h) (fun h =>
 fe Tryz.func149 h)
noncomputable def impl_CertOk_k3 : List Item := posI 2000 2 [] [.code impl_CertOk_c]
noncomputable def impl_CertOk_S2 (s_ : TState) (v8 : Int) : St := ⟨(bs 1 (.ptr 1 0 0 :: (bs 4 (vsl 4 eDone s_.Dones :: (vi (s_.Dones.length : Int) :: (vi v8 :: (bs 57 []))))))), [some [], some [.var 58 [vi s_.At, vsl 2 eBox s_.Boxes, vsl 4 eDone s_.Dones]]]⟩
noncomputable def impl_CertOk_k4 : List Item := posI 2000 5 [true, false] [.code impl_CertOk_c]
noncomputable def impl_CertOk_S3 (s_ : TState) (v8 : Int) : St := ⟨(bs 1 (.ptr 1 0 0 :: (bs 4 (vsl 4 eDone s_.Dones :: (vi (s_.Dones.length : Int) :: (vi v8 :: (bs 57 []))))))), [some [], some [.var 58 [vi s_.At, vsl 2 eBox s_.Boxes, vsl 4 eDone s_.Dones]]]⟩
noncomputable def impl_CertOk_j1 (v8 : Int) : Option (Stp Bool Int Unit) :=
  some (Stp.nxt (w64 (v8 + 1)))
theorem impl_CertOk_j1_ok (s_ : TState) (v8 : Int) (res : V) (outs : List (Option V)) (x1 : Exc Bool Unit) (hb1 : HB cx impl_CertOk_X res outs x1 impl_CertOk_k1 (fun s => impl_CertOk_S1 s_)) (hr1 : HR res outs x1 impl_CertOk_R impl_CertOk_O) (st1 : Stp Bool Int Unit) (hc1 : Cont x1 (fun s : Int => Fin cx impl_CertOk_X res outs impl_CertOk_k3 (impl_CertOk_S2 s_ s)) st1) (h : impl_CertOk_j1 v8 = some st1) : Fin cx impl_CertOk_X res outs impl_CertOk_k4 (impl_CertOk_S3 s_ v8) :=
  P0 <|
 rg <| (nxtD h hc1 fun hI => sg [] [1, 6, 7, 8] [(1, 0)] hI)
noncomputable def impl_CertOk_b1 (s_ : TState) (v8 : Int) : Option (Stp Bool Int Unit) :=
  (bif decide (v8 < (s_.Dones.length : Int)) then
 ((idx s_.Dones v8).bind fun done =>
 (((bif decide (v8 > 0) then
 ((idx s_.Dones (w64 (v8 - 1))).bind fun done1 =>
 (bif decide (done1.Req.Who ≥ done.Req.Who) then
 some (Exc.ret (Stp.ret false))
 else
 ((impl_reqOk done.Req).bind fun reqOk =>
 (bif (!reqOk) then
 some (Exc.ret (Stp.ret false))
 else
 ((impl_in done.Code 0 2).bind fun in_1 =>
 (bif (!in_1) then
 some (Exc.ret (Stp.ret false))
 else
 ((impl_in done.Val (-1000000) 1000000).bind fun in_2 =>
 (bif (!in_2) then
 some (Exc.ret (Stp.ret false))
 else
 (bif (done.Code != 0) then
 (bif (done.Val != 0) then
 some (Exc.ret (Stp.ret false))
 else
 some (Exc.brk ()))
 else
 some (Exc.brk ()))))))))))
 else
 ((impl_reqOk done.Req).bind fun reqOk1 =>
 (bif (!reqOk1) then
 some (Exc.ret (Stp.ret false))
 else
 ((impl_in done.Code 0 2).bind fun in_3 =>
 (bif (!in_3) then
 some (Exc.ret (Stp.ret false))
 else
 ((impl_in done.Val (-1000000) 1000000).bind fun in_4 =>
 (bif (!in_4) then
 some (Exc.ret (Stp.ret false))
 else
 (bif (done.Code != 0) then
 (bif (done.Val != 0) then
 some (Exc.ret (Stp.ret false))
 else
 some (Exc.brk ()))
 else
 some (Exc.brk ()))))))))) : Option (Exc (Stp Bool Int Unit) Unit)).bind fun x => x.go some fun j => impl_CertOk_j1 v8))
 else
 some (Stp.brk ()))
set_option maxRecDepth 20000 in
theorem impl_CertOk_b1_ok (s_ : TState) (res : V) (outs : List (Option V)) (x1 : Exc Bool Unit) (hb1 : HB cx impl_CertOk_X res outs x1 impl_CertOk_k1 (fun s => impl_CertOk_S1 s_)) (hr1 : HR res outs x1 impl_CertOk_R impl_CertOk_O) (st1 : Stp Bool Int Unit) (hc1 : Cont x1 (fun s : Int => Fin cx impl_CertOk_X res outs impl_CertOk_k3 (impl_CertOk_S2 s_ s)) st1) (v8 : Int) (h : impl_CertOk_b1 s_ v8 = some st1) : Fin cx impl_CertOk_X res outs impl_CertOk_k3 (impl_CertOk_S2 s_ v8) :=
  P0 <|
 rg <| cdD 0 h (fun h =>
 rg <| ixS eDone 1 h fun done hdone h =>
 joinD (I := fun j : Unit => Fin cx impl_CertOk_X res outs impl_CertOk_k4 (impl_CertOk_S3 s_ v8)) h (fun j h => impl_CertOk_j1_ok s_ v8 res outs x1 hb1 hr1 st1 hc1 h) (fun x2 h hc2 =>
  rg <| cdD 2 h (fun h =>
 ixS eDone 7 h fun done1 hdone1 h =>
 cdD 16 h (fun h =>
 rg <| (jretD h hc2 fun h => (retD h hc1 fun e => fn0 Tryz.func149 (hr1 _ e)))) (fun h =>
 cb impl_reqOk_t impl_reqOk_ok 19 false h fun reqOk h =>
 cdD 22 h (fun h =>
 rg <| (jretD h hc2 fun h => (retD h hc1 fun e => fn0 Tryz.func149 (hr1 _ e)))) (fun h =>
 cb impl_in_t impl_in_ok 25 false h fun in_1 h =>
 cdD 28 h (fun h =>
 rg <| (jretD h hc2 fun h => (retD h hc1 fun e => fn0 Tryz.func149 (hr1 _ e)))) (fun h =>
 cb impl_in_t impl_in_ok 31 false h fun in_2 h =>
 cdD 34 h (fun h =>
 rg <| (jretD h hc2 fun h => (retD h hc1 fun e => fn0 Tryz.func149 (hr1 _ e)))) (fun h =>
 cdD 38 h (fun h =>
 cdD 43 h (fun h =>
 rg <| (jretD h hc2 fun h => (retD h hc1 fun e => fn0 Tryz.func149 (hr1 _ e)))) (fun h =>
 (jbrkD h hc2 fun hI => sg [] [1, 6, 7, 8] [(1, 0)] hI))) (fun h =>
 (jbrkD h hc2 fun hI => sg [] [1, 6, 7, 8] [(1, 0)] hI))))))) (fun h =>
 cb impl_reqOk_t impl_reqOk_ok 19 false h fun reqOk1 h =>
 cdD 22 h (fun h =>
 rg <| (jretD h hc2 fun h => (retD h hc1 fun e => fn0 Tryz.func149 (hr1 _ e)))) (fun h =>
 cb impl_in_t impl_in_ok 25 false h fun in_3 h =>
 cdD 28 h (fun h =>
 rg <| (jretD h hc2 fun h => (retD h hc1 fun e => fn0 Tryz.func149 (hr1 _ e)))) (fun h =>
 cb impl_in_t impl_in_ok 31 false h fun in_4 h =>
 cdD 34 h (fun h =>
 rg <| (jretD h hc2 fun h => (retD h hc1 fun e => fn0 Tryz.func149 (hr1 _ e)))) (fun h =>
 cdD 38 h (fun h =>
 cdD 43 h (fun h =>
 rg <| (jretD h hc2 fun h => (retD h hc1 fun e => fn0 Tryz.func149 (hr1 _ e)))) (fun h =>
 (jbrkD h hc2 fun hI => sg [] [1, 6, 7, 8] [(1, 0)] hI))) (fun h =>
 (jbrkD h hc2 fun hI => sg [] [1, 6, 7, 8] [(1, 0)] hI)))))))) (fun h =>
 (brkD h hc1 fun e => sg [] [1] [(1, 0)] (hb1 _ e)))
noncomputable def impl_CertOk (s_ : TState) : Option Bool :=
  ((loop (fun s : Int => impl_CertOk_b1 s_ s) 0).bind fun x => x.go (fun r => some r) fun s => impl_CertOk_k2 s_)
theorem impl_CertOk_ok {s_ : TState} (r : Bool) (h : impl_CertOk s_ = some r) : ACalls cx.P 149 [.agg (eState s_)] (impl_CertOk_R r) (impl_CertOk_O r) :=
  ACalls.of (cx := cx) (X := impl_CertOk_X) (c := impl_CertOk_c) Tryz.func149 (by kernel_rfl) (by kernel_rfl) (by kernel_rfl) (P0 <|
 rg2 <| loopJ h fun x hl hr hb => sg [] [1, 6, 7, 8] [(1, 0)] (loopD (I := fun s : Int => Fin cx impl_CertOk_X (impl_CertOk_R r) (impl_CertOk_O r) impl_CertOk_k3 (impl_CertOk_S2 s_ s)) hl fun s st h hc => impl_CertOk_b1_ok s_ _ _ x (fun s e => impl_CertOk_k2_ok s_ r (hb s e)) (fun v e => ⟨congrArg impl_CertOk_R (Option.some.inj (hr v e)).symm, congrArg impl_CertOk_O (Option.some.inj (hr v e)).symm⟩) st hc s h))

/-! ### impl_copied_Box -/
noncomputable def impl_copied_Box_c : Code := bodyOf Tryz.f71
noncomputable def impl_copied_Box_X : Sig := { f := 71, fn := Tryz.f71, rms := [.val [some 2] [some 128]], oms := [none] }
noncomputable def impl_copied_Box_R (r : List TBox) : V := vosl 128 2 eBox r
noncomputable def impl_copied_Box_O (r : List TBox) : List (Option V) := [none]
noncomputable def impl_copied_Box_t (i : Nat) (fr : Bool) (r : List TBox) : Nat × Tell := (i, { a := .call [.val [some 2] []] fr (impl_copied_Box_R r) (impl_copied_Box_O r) })
noncomputable def impl_copied_Box (list : List TBox) : Option (List TBox) :=
  (bif ((list.length : Int) == 0) then
 some []
 else
 (need (0 ≤ (list.length : Int) ∧ (list.length : Int) * 16 ≤ 140737488355328)
 ((need (list.length = (List.replicate (list.length : Int).toNat (TBox.mk 0 0)).length)
 (some list)))))
theorem impl_copied_Box_ok {list : List TBox} (r : List TBox) (h : impl_copied_Box list = some r) : ACalls cx.P 71 [vsl 2 eBox list] (impl_copied_Box_R r) (impl_copied_Box_O r) :=
  ACalls.of (cx := cx) (X := impl_copied_Box_X) (c := impl_copied_Box_c) Tryz.func71 (by kernel_rfl) (by kernel_rfl) (by kernel_rfl) (P0 <|
 rg2 <| cdD 2 h (fun h =>
 rg <| fe Tryz.func71 h) (fun h =>
 rg <| needD h fun e1 h =>
 mkS 2 7 128 2 16 eBox (TBox.mk 0 0) ti128 (.none) e1 (by decide) (by rfl) <| rg <| needD h fun e2 h =>
 om (Ent.row 128 2 (List.replicate (list.length : Int).toNat (TBox.mk 0 0)).length (list.map eBox) = erow 128 2 eBox list) (row_copy e2) <| om ((List.replicate (list.length : Int).toNat (TBox.mk 0 0)).length = (List.replicate (list.length : Int).toNat (TBox.mk 0 0)).length) rfl <| ob e2 <| tl (2, { e := some (erow 128 2 eBox list) }) <| rg <| om ((List.replicate (list.length : Int).toNat (TBox.mk 0 0)).length = list.length) (by simp) <| fe Tryz.func71 h))

/-! ### impl_copied_Done -/
noncomputable def impl_copied_Done_c : Code := bodyOf Tryz.f150
noncomputable def impl_copied_Done_X : Sig := { f := 150, fn := Tryz.f150, rms := [.val [some 4] []], oms := [none] }
noncomputable def impl_copied_Done_R (r : List TDone) : V := vsl 4 eDone r
noncomputable def impl_copied_Done_O (r : List TDone) : List (Option V) := [none]
noncomputable def impl_copied_Done_t (i : Nat) (fr : Bool) (r : List TDone) : Nat × Tell := (i, { a := .call [.val [some 4] []] fr (impl_copied_Done_R r) (impl_copied_Done_O r) })
noncomputable def impl_copied_Done (list : List TDone) : Option (List TDone) :=
  (bif ((list.length : Int) == 0) then
 some []
 else
 (need (0 ≤ (list.length : Int) ∧ (list.length : Int) * 32 ≤ 140737488355328)
 ((need (list.length = (List.replicate (list.length : Int).toNat (TDone.mk (TReq.mk 0 0) 0 0)).length)
 (some list)))))
theorem impl_copied_Done_ok {list : List TDone} (r : List TDone) (h : impl_copied_Done list = some r) : ACalls cx.P 150 [vsl 4 eDone list] (impl_copied_Done_R r) (impl_copied_Done_O r) :=
  ACalls.of (cx := cx) (X := impl_copied_Done_X) (c := impl_copied_Done_c) Tryz.func150 (by kernel_rfl) (by kernel_rfl) (by kernel_rfl) (P0 <|
 rg2 <| cdD 2 h (fun h =>
 rg <| fe Tryz.func150 h) (fun h =>
 rg <| needD h fun e1 h =>
 mkS 2 7 160 4 32 eDone (TDone.mk (TReq.mk 0 0) 0 0) ti160 (.none) e1 (by decide) (by rfl) <| rg <| needD h fun e2 h =>
 om (Ent.row 160 4 (List.replicate (list.length : Int).toNat (TDone.mk (TReq.mk 0 0) 0 0)).length (list.map eDone) = erow 160 4 eDone list) (row_copy e2) <| om ((List.replicate (list.length : Int).toNat (TDone.mk (TReq.mk 0 0) 0 0)).length = (List.replicate (list.length : Int).toNat (TDone.mk (TReq.mk 0 0) 0 0)).length) rfl <| ob e2 <| tl (2, { e := some (erow 160 4 eDone list) }) <| rg <| om ((List.replicate (list.length : Int).toNat (TDone.mk (TReq.mk 0 0) 0 0)).length = list.length) (by simp) <| fe Tryz.func150 h))

/-! ### impl_ExecFresh -/
noncomputable def impl_ExecFresh_c : Code := bodyOf Tryz.f151
noncomputable def impl_ExecFresh_X : Sig := { f := 151, fn := Tryz.f151, rms := [.val [] []], oms := [none, none] }
noncomputable def impl_ExecFresh_R (r : Bool) : V := .b r
noncomputable def impl_ExecFresh_O (r : Bool) : List (Option V) := [none, none]
noncomputable def impl_ExecFresh_t (i : Nat) (fr : Bool) (r : Bool) : Nat × Tell := (i, { a := .call [.val [some 2] [], .val ck73 []] fr (impl_ExecFresh_R r) (impl_ExecFresh_O r) })
noncomputable def impl_ExecFresh_k1 : List Item := posI 2000 4 [false, false] [.code impl_ExecFresh_c]
noncomputable def impl_ExecFresh_S1 : St := ⟨(bs 32 []), [some []]⟩
noncomputable def impl_ExecFresh_k2 : Option Bool :=
  some true
theorem impl_ExecFresh_k2_ok (r : Bool) (h : impl_ExecFresh_k2 = some r) : Fin cx impl_ExecFresh_X (impl_ExecFresh_R r) (impl_ExecFresh_O r) impl_ExecFresh_k1 (impl_ExecFresh_S1) :=
  P0 <|
 rg <| fe Tryz.func151 h
noncomputable def impl_ExecFresh_k3 : List Item := posI 2000 3 [false] [.code impl_ExecFresh_c]
noncomputable def impl_ExecFresh_S2 (list : List TBox) (r_ : TRun) (v18 : Int) : St := ⟨(vsl 2 eBox list :: (bs 15 (vsl 2 eRead r_.Reads :: (vi (r_.Reads.length : Int) :: (vi v18 :: (bs 13 [])))))), [some []]⟩
noncomputable def impl_ExecFresh_b1 (list : List TBox) (r_ : TRun) (v18 : Int) : Option (Stp Bool Int Unit) :=
  (bif decide (v18 < (r_.Reads.length : Int)) then
 ((idx r_.Reads v18).bind fun read =>
 ((idx list read.Box).bind fun box =>
 (bif (box.Ver != read.Ver) then
 some (Stp.ret false)
 else
 some (Stp.nxt (w64 (v18 + 1))))))
 else
 some (Stp.brk ()))
theorem impl_ExecFresh_b1_ok (list : List TBox) (r_ : TRun) (res : V) (outs : List (Option V)) (x1 : Exc Bool Unit) (hb1 : HB cx impl_ExecFresh_X res outs x1 impl_ExecFresh_k1 (fun s => impl_ExecFresh_S1)) (hr1 : HR res outs x1 impl_ExecFresh_R impl_ExecFresh_O) (st1 : Stp Bool Int Unit) (hc1 : Cont x1 (fun s : Int => Fin cx impl_ExecFresh_X res outs impl_ExecFresh_k3 (impl_ExecFresh_S2 list r_ s)) st1) (v18 : Int) (h : impl_ExecFresh_b1 list r_ v18 = some st1) : Fin cx impl_ExecFresh_X res outs impl_ExecFresh_k3 (impl_ExecFresh_S2 list r_ v18) :=
  P0 <|
 rg <| cdD 0 h (fun h =>
 rg <| ixS eRead 0 h fun read hread h =>
 rg <| ixS eBox 3 h fun box hbox h =>
 cdD 8 h (fun h =>
 rg <| (retD h hc1 fun e => fn0 Tryz.func151 (hr1 _ e))) (fun h =>
 rg <| (nxtD h hc1 fun hI => sg [] [0, 16, 17, 18] [] hI))) (fun h =>
 (brkD h hc1 fun e => sg [] [] [] (hb1 _ e)))
noncomputable def impl_ExecFresh (list : List TBox) (r_ : TRun) : Option Bool :=
  ((impl_BoxOk list).bind fun boxOk =>
 (bif (!boxOk) then
 some false
 else
 ((impl_ExecOk r_).bind fun execOk =>
 (bif (!execOk) then
 some false
 else
 ((loop (fun s : Int => impl_ExecFresh_b1 list r_ s) 0).bind fun x => x.go (fun r => some r) fun s => impl_ExecFresh_k2)))))
theorem impl_ExecFresh_ok {list : List TBox} {r_ : TRun} (r : Bool) (h : impl_ExecFresh list r_ = some r) : ACalls cx.P 151 [vsl 2 eBox list, .agg (eRun r_)] (impl_ExecFresh_R r) (impl_ExecFresh_O r) :=
  ACalls.of (cx := cx) (X := impl_ExecFresh_X) (c := impl_ExecFresh_c) Tryz.func151 (by kernel_rfl) (by kernel_rfl) (by kernel_rfl) (P0 <|
 rg2 <| cb impl_BoxOk_t impl_BoxOk_ok 1 false h fun boxOk h =>
 cdD 3 h (fun h =>
 rg <| fe Tryz.func151 h) (fun h =>
 cb impl_ExecOk_t impl_ExecOk_ok 5 false h fun execOk h =>
 cdD 7 h (fun h =>
 rg <| fe Tryz.func151 h) (fun h =>
 rg <| loopJ h fun x hl hr hb => sg [] [0, 16, 17, 18] [] (loopD (I := fun s : Int => Fin cx impl_ExecFresh_X (impl_ExecFresh_R r) (impl_ExecFresh_O r) impl_ExecFresh_k3 (impl_ExecFresh_S2 list r_ s)) hl fun s st h hc => impl_ExecFresh_b1_ok list r_ _ _ x (fun s e => impl_ExecFresh_k2_ok r (hb s e)) (fun v e => ⟨congrArg impl_ExecFresh_R (Option.some.inj (hr v e)).symm, congrArg impl_ExecFresh_O (Option.some.inj (hr v e)).symm⟩) st hc s h))))

/-! ### impl_ExecDo -/
noncomputable def impl_ExecDo_c : Code := bodyOf Tryz.f119
noncomputable def impl_ExecDo_X : Sig := { f := 119, fn := Tryz.f119, rms := [.val [some 2] []], oms := [none, none] }
noncomputable def impl_ExecDo_R (r : List TBox) : V := vsl 2 eBox r
noncomputable def impl_ExecDo_O (r : List TBox) : List (Option V) := [none, none]
noncomputable def impl_ExecDo_t (i : Nat) (fr : Bool) (r : List TBox) : Nat × Tell := (i, { a := .call [.val [some 2] [], .val ck73 []] fr (impl_ExecDo_R r) (impl_ExecDo_O r) })
noncomputable def impl_ExecDo_k1 : List Item := posI 2000 5 [false, false] [.code impl_ExecDo_c]
noncomputable def impl_ExecDo_S1 (out1 : List TBox) : St := ⟨(bs 5 (.own 1 0 2 0 out1.length :: (bs 36 []))), [some [], some [erow 128 2 eBox out1]]⟩
noncomputable def impl_ExecDo_k2 (out1 : List TBox) : Option (List TBox) :=
  some out1
theorem impl_ExecDo_k2_ok (r : List TBox) (out1 : List TBox) (h : impl_ExecDo_k2 out1 = some r) : Fin cx impl_ExecDo_X (impl_ExecDo_R r) (impl_ExecDo_O r) impl_ExecDo_k1 (impl_ExecDo_S1 out1) :=
  P0 <|
 rg <| om (out1.length = out1.length) rfl <| fe Tryz.func119 h
noncomputable def impl_ExecDo_k3 : List Item := posI 2000 4 [false] [.code impl_ExecDo_c]
noncomputable def impl_ExecDo_S2 (r_ : TRun) (out : List TBox) (v21 : Int) : St := ⟨(bs 5 (.own 1 0 2 0 out.length :: (bs 13 (vsl 2 ePut r_.Puts :: (vi (r_.Puts.length : Int) :: (vi v21 :: (bs 20 []))))))), [some [], some [erow 128 2 eBox out]]⟩
noncomputable def impl_ExecDo_b1 (r_ : TRun) (out : List TBox) (v21 : Int) : Option (Stp (List TBox) ((List TBox) × Int) (List TBox)) :=
  (bif decide (v21 < (r_.Puts.length : Int)) then
 ((idx r_.Puts v21).bind fun put =>
 ((idx out put.Box).bind fun box1 =>
 some (Stp.nxt (out.set put.Box.toNat (TBox.mk (if (w64 (box1.Ver + 1)) < 1000000 then (w64 (box1.Ver + 1)) else 1000000) put.Val), w64 (v21 + 1)))))
 else
 some (Stp.brk out))
theorem impl_ExecDo_b1_ok (r_ : TRun) (res : V) (outs : List (Option V)) (x1 : Exc (List TBox) (List TBox)) (hb1 : HB cx impl_ExecDo_X res outs x1 impl_ExecDo_k1 impl_ExecDo_S1) (hr1 : HR res outs x1 impl_ExecDo_R impl_ExecDo_O) (st1 : Stp (List TBox) ((List TBox) × Int) (List TBox)) (hc1 : Cont x1 (fun s : (List TBox) × Int => Fin cx impl_ExecDo_X res outs impl_ExecDo_k3 (impl_ExecDo_S2 r_ s.1 s.2)) st1) (out : List TBox) (v21 : Int) (h : impl_ExecDo_b1 r_ out v21 = some st1) : Fin cx impl_ExecDo_X res outs impl_ExecDo_k3 (impl_ExecDo_S2 r_ out v21) :=
  P0 <|
 rg <| cdD 0 h (fun h =>
 rg <| ixS ePut 0 h fun put hput h =>
 rg <| bindD h fun box1 hbox1 h =>
 ixB hbox1 <| ldR eBox 8 hbox1 <| ixB hbox1 <| stR 128 2 eBox 15 [] (TBox.mk (if (w64 (box1.Ver + 1)) < 1000000 then (w64 (box1.Ver + 1)) else 1000000) put.Val) hbox1 <| rg <| (nxtD h hc1 fun hI => om ((.own 1 0 2 0 out.length : V) = .own 1 0 2 0 (out.set put.Box.toNat (TBox.mk (if (w64 (box1.Ver + 1)) < 1000000 then (w64 (box1.Ver + 1)) else 1000000) put.Val)).length) (by simp) <| sg [.is (.tmp 5) (.own 1 0 2 0 (out.set put.Box.toNat (TBox.mk (if (w64 (box1.Ver + 1)) < 1000000 then (w64 (box1.Ver + 1)) else 1000000) put.Val)).length)] [5, 19, 20, 21] [(1, 0)] hI)) (fun h =>
 (brkD h hc1 fun e => sg [] [5] [(1, 0)] (hb1 _ e)))
noncomputable def impl_ExecDo (list : List TBox) (r_ : TRun) : Option (List TBox) :=
  ((impl_BoxOk list).bind fun boxOk =>
 (bif (!boxOk) then
 some []
 else
 ((impl_ExecOk r_).bind fun execOk =>
 (bif (!execOk) then
 some []
 else
 ((impl_copied_Box list).bind fun box =>
 ((loop (fun s : (List TBox) × Int => impl_ExecDo_b1 r_ s.1 s.2) (box, 0)).bind fun x => x.go (fun r => some r) fun s => impl_ExecDo_k2 s))))))
theorem impl_ExecDo_ok {list : List TBox} {r_ : TRun} (r : List TBox) (h : impl_ExecDo list r_ = some r) : ACalls cx.P 119 [vsl 2 eBox list, .agg (eRun r_)] (impl_ExecDo_R r) (impl_ExecDo_O r) :=
  ACalls.of (cx := cx) (X := impl_ExecDo_X) (c := impl_ExecDo_c) Tryz.func119 (by kernel_rfl) (by kernel_rfl) (by kernel_rfl) (P0 <|
 rg2 <| cb impl_BoxOk_t impl_BoxOk_ok 1 false h fun boxOk h =>
 cdD 3 h (fun h =>
 rg <| fe Tryz.func119 h) (fun h =>
 cb impl_ExecOk_t impl_ExecOk_ok 5 false h fun execOk h =>
 cdD 7 h (fun h =>
 rg <| fe Tryz.func119 h) (fun h =>
 rg <| cb impl_copied_Box_t impl_copied_Box_ok 1 false h fun box h =>
 rg <| loopJ h fun x hl hr hb => sg [] [5, 19, 20, 21] [(12, 0)] (loopD (I := fun s : (List TBox) × Int => Fin cx impl_ExecDo_X (impl_ExecDo_R r) (impl_ExecDo_O r) impl_ExecDo_k3 (impl_ExecDo_S2 r_ s.1 s.2)) hl fun s st h hc => impl_ExecDo_b1_ok r_ _ _ x (fun s e => impl_ExecDo_k2_ok r s (hb s e)) (fun v e => ⟨congrArg impl_ExecDo_R (Option.some.inj (hr v e)).symm, congrArg impl_ExecDo_O (Option.some.inj (hr v e)).symm⟩) st hc s.1 s.2 h))))

/-! ### impl_CertApply -/
noncomputable def impl_CertApply_c : Code := bodyOf Tryz.f117
noncomputable def impl_CertApply_X : Sig := { f := 117, fn := Tryz.f117, rms := [.val [none, some 2, some 4] [], .val [] []], oms := [none, none] }
noncomputable def impl_CertApply_R (r : TState × Int) : V := .tup [.agg (eState r.1), vi r.2]
noncomputable def impl_CertApply_O (r : TState × Int) : List (Option V) := [none, none]
noncomputable def impl_CertApply_t (i : Nat) (fr : Bool) (r : TState × Int) : Nat × Tell := (i, { a := .call [.val [none, some 2, some 4] [], .val ck75 []] fr (impl_CertApply_R r) (impl_CertApply_O r) })
noncomputable def impl_CertApply_k1 : List Item := posI 2000 6 [false, false, false] [.code impl_CertApply_c]
noncomputable def impl_CertApply_S1 (s_ : TState) (e_ : TEntry) (box : List TBox) : St := ⟨(bs 2 (.ptr 1 0 0 :: (.ptr 2 0 0 :: (.ptr 3 0 0 :: (bs 1 (.ptr 4 0 0 :: (bs 145 []))))))), [some [], some [.var 58 [vi s_.At, vsl 2 eBox s_.Boxes, vsl 4 eDone s_.Dones]], some [.var 75 [.b e_.None, vi e_.Req.Who, vi e_.Req.Seq, vsl 2 eRead e_.Run.Reads, vsl 2 ePut e_.Run.Puts, vi e_.Run.Val, vi e_.Run.Code]], some [.var 58 [vi 0, .nil, .nil]], some [.var 58 [vi (w64 (s_.At + 1)), .own 5 0 2 0 box.length, .nil]], some [erow 128 2 eBox box]]⟩
noncomputable def impl_CertApply_k2 : List Item := posI 2000 9 [false, false, false, true] [.code impl_CertApply_c]
noncomputable def impl_CertApply_S2 (s_ : TState) (own : TDone) (outBoxes : List TBox) : St := ⟨(bs 2 (.ptr 1 0 0 :: (bs 1 (.ptr 2 0 0 :: (bs 1 (.ptr 3 0 0 :: (bs 2 (.ptr 4 0 0 :: (bs 142 []))))))))), [some [], some [.var 58 [vi s_.At, vsl 2 eBox s_.Boxes, vsl 4 eDone s_.Dones]], some [.var 58 [vi 0, .nil, .nil]], some [.var 58 [vi (w64 (s_.At + 1)), vsl 2 eBox outBoxes, .nil]], some [.var 160 [vi own.Req.Who, vi own.Req.Seq, vi own.Code, vi own.Val]]]⟩
noncomputable def impl_CertApply_k3 : List Item := posI 2000 13 [false, false, false, true, false] [.code impl_CertApply_c]
noncomputable def impl_CertApply_S3 (s_ : TState) (own : TDone) (outBoxes : List TBox) (dones1 : List TDone) (put1 : Bool) : St := ⟨(bs 4 (.ptr 1 0 0 :: (bs 1 (.ptr 2 0 0 :: (bs 2 (.ptr 3 0 0 :: (.own 4 0 4 0 dones1.length :: (.b put1 :: (bs 140 []))))))))), [some [], some [.var 58 [vi 0, .nil, .nil]], some [.var 58 [vi (w64 (s_.At + 1)), vsl 2 eBox outBoxes, .nil]], some [.var 160 [vi own.Req.Who, vi own.Req.Seq, vi own.Code, vi own.Val]], some [erow 160 4 eDone dones1]]⟩
noncomputable def impl_CertApply_k4 : List Item := posI 2000 15 [false, false, false, true, false, true] [.code impl_CertApply_c]
noncomputable def impl_CertApply_S4 (s_ : TState) (own : TDone) (outBoxes : List TBox) (dones2 : List TDone) : St := ⟨(bs 4 (.ptr 1 0 0 :: (bs 1 (.ptr 2 0 0 :: (bs 2 (.ptr 3 0 0 :: (.own 4 0 4 0 dones2.length :: (bs 141 [])))))))), [some [], some [.var 58 [vi 0, .nil, .nil]], some [.var 58 [vi (w64 (s_.At + 1)), vsl 2 eBox outBoxes, .nil]], some [.var 160 [vi own.Req.Who, vi own.Req.Seq, vi own.Code, vi own.Val]], some [erow 160 4 eDone dones2]]⟩
noncomputable def impl_CertApply_j1 (s_ : TState) (own : TDone) (outBoxes : List TBox) (dones2 : List TDone) : Option (TState × Int) :=
  ((impl_copied_Done dones2).bind fun done1 =>
 some ((TState.mk (w64 (s_.At + 1)) outBoxes done1), own.Code))
theorem impl_CertApply_j1_ok (s_ : TState) (own : TDone) (outBoxes : List TBox) (r : TState × Int) (dones2 : List TDone) (h : impl_CertApply_j1 s_ own outBoxes dones2 = some r) : Fin cx impl_CertApply_X (impl_CertApply_R r) (impl_CertApply_O r) impl_CertApply_k4 (impl_CertApply_S4 s_ own outBoxes dones2) :=
  P0 <|
 rg <| cb impl_copied_Done_t impl_copied_Done_ok 1 false h fun done1 h =>
 om (dones2.length = dones2.length) rfl <| rg <| fe Tryz.func117 h
noncomputable def impl_CertApply_k5 (s_ : TState) (own : TDone) (outBoxes : List TBox) (dones1 : List TDone) (put1 : Bool) : Option (TState × Int) :=
  (((bif (!put1) then
 (need ((dones1.length + 1) * 32 ≤ 140737488355328)
 (some (Exc.brk (dones1 ++ [own]))))
 else
 some (Exc.brk dones1)) : Option (Exc (TState × Int) (List TDone))).bind fun x => x.go some fun j => impl_CertApply_j1 s_ own outBoxes j)
theorem impl_CertApply_k5_ok (s_ : TState) (own : TDone) (outBoxes : List TBox) (r : TState × Int) (dones1 : List TDone) (put1 : Bool) (h : impl_CertApply_k5 s_ own outBoxes dones1 put1 = some r) : Fin cx impl_CertApply_X (impl_CertApply_R r) (impl_CertApply_O r) impl_CertApply_k3 (impl_CertApply_S3 s_ own outBoxes dones1 put1) :=
  P0 <|
 joinD (I := fun j : List TDone => Fin cx impl_CertApply_X (impl_CertApply_R r) (impl_CertApply_O r) impl_CertApply_k4 (impl_CertApply_S4 s_ own outBoxes j)) h (fun j h => impl_CertApply_j1_ok s_ own outBoxes r j h) (fun x1 h hc1 =>
  rg <| cdD 1 h (fun h =>
 rg <| tl (2, { a := .ck [] }) <| needD h fun e1 h =>
 apS 3 10 160 4 32 eDone dones1 own e1 <| om (1 = [own].length) (by rfl) <| (jbrkD h hc1 fun hI => sg [] [4, 6, 9, 10] [(1, 0), (2, 0), (3, 0), (10, 0)] hI)) (fun h =>
 (jbrkD h hc1 fun hI => sg [] [4, 6, 9, 10] [(1, 0), (2, 0), (3, 0), (4, 0)] hI)))
noncomputable def impl_CertApply_k6 : List Item := posI 2000 12 [false, false, false, true] [.code impl_CertApply_c]
noncomputable def impl_CertApply_S5 (s_ : TState) (own : TDone) (outBoxes : List TBox) (dones : List TDone) (v109 : Int) (put : Bool) : St := ⟨(bs 4 (.ptr 1 0 0 :: (bs 1 (.ptr 2 0 0 :: (bs 2 (.ptr 3 0 0 :: (.own 4 0 4 0 dones.length :: (.b put :: (bs 95 (vsl 4 eDone s_.Dones :: (vi (s_.Dones.length : Int) :: (vi v109 :: (bs 42 []))))))))))))), [some [], some [.var 58 [vi 0, .nil, .nil]], some [.var 58 [vi (w64 (s_.At + 1)), vsl 2 eBox outBoxes, .nil]], some [.var 160 [vi own.Req.Who, vi own.Req.Seq, vi own.Code, vi own.Val]], some [erow 160 4 eDone dones]]⟩
noncomputable def impl_CertApply_k7 : List Item := posI 2000 17 [false, false, false, true, true, true] [.code impl_CertApply_c]
noncomputable def impl_CertApply_S6 (s_ : TState) (own : TDone) (outBoxes : List TBox) (v109 : Int) (done2 : TDone) (dones3 : List TDone) (put2 : Bool) : St := ⟨(bs 4 (.ptr 1 0 0 :: (bs 1 (.ptr 2 0 0 :: (bs 2 (.ptr 3 0 0 :: (.own 4 0 4 0 dones3.length :: (.b put2 :: (bs 1 (.ptr 5 0 0 :: (bs 93 (vsl 4 eDone s_.Dones :: (vi (s_.Dones.length : Int) :: (vi v109 :: (bs 42 []))))))))))))))), [some [], some [.var 58 [vi 0, .nil, .nil]], some [.var 58 [vi (w64 (s_.At + 1)), vsl 2 eBox outBoxes, .nil]], some [.var 160 [vi own.Req.Who, vi own.Req.Seq, vi own.Code, vi own.Val]], some [erow 160 4 eDone dones3], some [.var 160 [vi done2.Req.Who, vi done2.Req.Seq, vi done2.Code, vi done2.Val]]]⟩
noncomputable def impl_CertApply_k8 : List Item := posI 2000 19 [false, false, false, true, true, true, true] [.code impl_CertApply_c]
noncomputable def impl_CertApply_S7 (s_ : TState) (own : TDone) (outBoxes : List TBox) (v109 : Int) (put2 : Bool) (dones4 : List TDone) : St := ⟨(bs 4 (.ptr 1 0 0 :: (bs 1 (.ptr 2 0 0 :: (bs 2 (.ptr 3 0 0 :: (.own 4 0 4 0 dones4.length :: (.b put2 :: (bs 95 (vsl 4 eDone s_.Dones :: (vi (s_.Dones.length : Int) :: (vi v109 :: (bs 42 []))))))))))))), [some [], some [.var 58 [vi 0, .nil, .nil]], some [.var 58 [vi (w64 (s_.At + 1)), vsl 2 eBox outBoxes, .nil]], some [.var 160 [vi own.Req.Who, vi own.Req.Seq, vi own.Code, vi own.Val]], some [erow 160 4 eDone dones4]]⟩
noncomputable def impl_CertApply_j2 (v109 : Int) (put2 : Bool) (dones4 : List TDone) : Option (Stp (TState × Int) ((List TDone) × Int × Bool) ((List TDone) × Bool)) :=
  some (Stp.nxt (dones4, w64 (v109 + 1), put2))
theorem impl_CertApply_j2_ok (s_ : TState) (own : TDone) (outBoxes : List TBox) (v109 : Int) (put2 : Bool) (res : V) (outs : List (Option V)) (x1 : Exc (TState × Int) ((List TDone) × Bool)) (hb1 : HB cx impl_CertApply_X res outs x1 impl_CertApply_k3 (fun s => impl_CertApply_S3 s_ own outBoxes s.1 s.2)) (hr1 : HR res outs x1 impl_CertApply_R impl_CertApply_O) (st1 : Stp (TState × Int) ((List TDone) × Int × Bool) ((List TDone) × Bool)) (hc1 : Cont x1 (fun s : (List TDone) × Int × Bool => Fin cx impl_CertApply_X res outs impl_CertApply_k6 (impl_CertApply_S5 s_ own outBoxes s.1 s.2.1 s.2.2)) st1) (dones4 : List TDone) (h : impl_CertApply_j2 v109 put2 dones4 = some st1) : Fin cx impl_CertApply_X res outs impl_CertApply_k8 (impl_CertApply_S7 s_ own outBoxes v109 put2 dones4) :=
  P0 <|
 rg <| (nxtD h hc1 fun hI => sg [] [4, 6, 9, 10, 11, 107, 108, 109] [(1, 0), (2, 0), (3, 0), (4, 0)] hI)
noncomputable def impl_CertApply_j3 (own : TDone) (v109 : Int) (done2 : TDone) (dones3 : List TDone) (put2 : Bool) : Option (Stp (TState × Int) ((List TDone) × Int × Bool) ((List TDone) × Bool)) :=
  (((bif (done2.Req.Who != own.Req.Who) then
 (need ((dones3.length + 1) * 32 ≤ 140737488355328)
 (some (Exc.brk (dones3 ++ [done2]))))
 else
 some (Exc.brk dones3)) : Option (Exc (Stp (TState × Int) ((List TDone) × Int × Bool) ((List TDone) × Bool)) (List TDone))).bind fun x => x.go some fun j => impl_CertApply_j2 v109 put2 j)
theorem impl_CertApply_j3_ok (s_ : TState) (own : TDone) (outBoxes : List TBox) (v109 : Int) (done2 : TDone) (res : V) (outs : List (Option V)) (x1 : Exc (TState × Int) ((List TDone) × Bool)) (hb1 : HB cx impl_CertApply_X res outs x1 impl_CertApply_k3 (fun s => impl_CertApply_S3 s_ own outBoxes s.1 s.2)) (hr1 : HR res outs x1 impl_CertApply_R impl_CertApply_O) (st1 : Stp (TState × Int) ((List TDone) × Int × Bool) ((List TDone) × Bool)) (hc1 : Cont x1 (fun s : (List TDone) × Int × Bool => Fin cx impl_CertApply_X res outs impl_CertApply_k6 (impl_CertApply_S5 s_ own outBoxes s.1 s.2.1 s.2.2)) st1) (dones3 : List TDone) (put2 : Bool) (h : impl_CertApply_j3 own v109 done2 dones3 put2 = some st1) : Fin cx impl_CertApply_X res outs impl_CertApply_k7 (impl_CertApply_S6 s_ own outBoxes v109 done2 dones3 put2) :=
  P0 <|
 joinD (I := fun j : List TDone => Fin cx impl_CertApply_X res outs impl_CertApply_k8 (impl_CertApply_S7 s_ own outBoxes v109 put2 j)) h (fun j h => impl_CertApply_j2_ok s_ own outBoxes v109 put2 res outs x1 hb1 hr1 st1 hc1 j h) (fun x2 h hc2 =>
  rg <| cdD 6 h (fun h =>
 rg <| tl (2, { a := .ck [] }) <| needD h fun e2 h =>
 apS 3 16 160 4 32 eDone dones3 done2 e2 <| om (1 = [done2].length) (by rfl) <| (jbrkD h hc2 fun hI => sg [] [4, 6, 9, 10, 11, 107, 108, 109] [(1, 0), (2, 0), (3, 0), (16, 0)] hI)) (fun h =>
 (jbrkD h hc2 fun hI => sg [] [4, 6, 9, 10, 11, 107, 108, 109] [(1, 0), (2, 0), (3, 0), (4, 0)] hI)))
noncomputable def impl_CertApply_b1 (s_ : TState) (own : TDone) (dones : List TDone) (v109 : Int) (put : Bool) : Option (Stp (TState × Int) ((List TDone) × Int × Bool) ((List TDone) × Bool)) :=
  (bif decide (v109 < (s_.Dones.length : Int)) then
 ((idx s_.Dones v109).bind fun done2 =>
 (((bif (!put) then
 (bif decide (done2.Req.Who ≥ own.Req.Who) then
 (need ((dones.length + 1) * 32 ≤ 140737488355328)
 (some (Exc.brk (dones ++ [own], true))))
 else
 some (Exc.brk (dones, put)))
 else
 some (Exc.brk (dones, put))) : Option (Exc (Stp (TState × Int) ((List TDone) × Int × Bool) ((List TDone) × Bool)) ((List TDone) × Bool))).bind fun x => x.go some fun j => impl_CertApply_j3 own v109 done2 j.1 j.2))
 else
 some (Stp.brk (dones, put)))
theorem impl_CertApply_b1_ok (s_ : TState) (own : TDone) (outBoxes : List TBox) (res : V) (outs : List (Option V)) (x1 : Exc (TState × Int) ((List TDone) × Bool)) (hb1 : HB cx impl_CertApply_X res outs x1 impl_CertApply_k3 (fun s => impl_CertApply_S3 s_ own outBoxes s.1 s.2)) (hr1 : HR res outs x1 impl_CertApply_R impl_CertApply_O) (st1 : Stp (TState × Int) ((List TDone) × Int × Bool) ((List TDone) × Bool)) (hc1 : Cont x1 (fun s : (List TDone) × Int × Bool => Fin cx impl_CertApply_X res outs impl_CertApply_k6 (impl_CertApply_S5 s_ own outBoxes s.1 s.2.1 s.2.2)) st1) (dones : List TDone) (v109 : Int) (put : Bool) (h : impl_CertApply_b1 s_ own dones v109 put = some st1) : Fin cx impl_CertApply_X res outs impl_CertApply_k6 (impl_CertApply_S5 s_ own outBoxes dones v109 put) :=
  P0 <|
 rg <| cdD 0 h (fun h =>
 rg <| ixS eDone 0 h fun done2 hdone2 h =>
 joinD (I := fun j : (List TDone) × Bool => Fin cx impl_CertApply_X res outs impl_CertApply_k7 (impl_CertApply_S6 s_ own outBoxes v109 done2 j.1 j.2)) h (fun j h => impl_CertApply_j3_ok s_ own outBoxes v109 done2 res outs x1 hb1 hr1 st1 hc1 j.1 j.2 h) (fun x2 h hc2 =>
  rg <| cdD 2 h (fun h =>
 cdD 10 h (fun h =>
 rg <| tl (2, { a := .ck [] }) <| needD h fun e3 h =>
 apS 3 24 160 4 32 eDone dones own e3 <| om (1 = [own].length) (by rfl) <| rg <| (jbrkD h hc2 fun hI => sg [] [4, 6, 9, 10, 11, 13, 107, 108, 109] [(1, 0), (2, 0), (3, 0), (24, 0), (8, 0)] hI)) (fun h =>
 (jbrkD h hc2 fun hI => sg [] [4, 6, 9, 10, 11, 13, 107, 108, 109] [(1, 0), (2, 0), (3, 0), (4, 0), (8, 0)] hI))) (fun h =>
 (jbrkD h hc2 fun hI => sg [] [4, 6, 9, 10, 11, 13, 107, 108, 109] [(1, 0), (2, 0), (3, 0), (4, 0), (8, 0)] hI)))) (fun h =>
 (brkD h hc1 fun e => sg [] [4, 6, 9, 10, 11] [(1, 0), (2, 0), (3, 0), (4, 0)] (hb1 _ e)))
noncomputable def impl_CertApply_j4 (s_ : TState) (own : TDone) (outBoxes : List TBox) : Option (TState × Int) :=
  ((loop (fun s : (List TDone) × Int × Bool => impl_CertApply_b1 s_ own s.1 s.2.1 s.2.2) ([], 0, false)).bind fun x => x.go (fun r => some r) fun s => impl_CertApply_k5 s_ own outBoxes s.1 s.2)
theorem impl_CertApply_j4_ok (s_ : TState) (r : TState × Int) (own : TDone) (outBoxes : List TBox) (h : impl_CertApply_j4 s_ own outBoxes = some r) : Fin cx impl_CertApply_X (impl_CertApply_R r) (impl_CertApply_O r) impl_CertApply_k2 (impl_CertApply_S2 s_ own outBoxes) :=
  P0 <|
 rg3 <| loopJ h fun x hl hr hb => sg [.own (.tmp 10) 160 4] [4, 6, 9, 10, 11, 107, 108, 109] [(2, 0), (3, 0), (4, 0), (11, 0)] (loopD (I := fun s : (List TDone) × Int × Bool => Fin cx impl_CertApply_X (impl_CertApply_R r) (impl_CertApply_O r) impl_CertApply_k6 (impl_CertApply_S5 s_ own outBoxes s.1 s.2.1 s.2.2)) hl fun s st h hc => impl_CertApply_b1_ok s_ own outBoxes _ _ x (fun s e => impl_CertApply_k5_ok s_ own outBoxes r s.1 s.2 (hb s e)) (fun v e => ⟨congrArg impl_CertApply_R (Option.some.inj (hr v e)).symm, congrArg impl_CertApply_O (Option.some.inj (hr v e)).symm⟩) st hc s.1 s.2.1 s.2.2 h)
noncomputable def impl_CertApply_k9 (s_ : TState) (e_ : TEntry) (box : List TBox) : Option (TState × Int) :=
  ((((impl_ExecFresh s_.Boxes e_.Run).bind fun execFresh =>
 (bif (!execFresh) then
 some (Exc.brk ((TDone.mk e_.Req 1 0), box))
 else
 (bif (e_.Run.Code != 0) then
 some (Exc.brk ((TDone.mk e_.Req 2 0), box))
 else
 ((impl_ExecDo s_.Boxes e_.Run).bind fun execDo =>
 some (Exc.brk ((TDone.mk e_.Req 0 e_.Run.Val), execDo)))))) : Option (Exc (TState × Int) (TDone × List TBox))).bind fun x => x.go some fun j => impl_CertApply_j4 s_ j.1 j.2)
theorem impl_CertApply_k9_ok (s_ : TState) (e_ : TEntry) (box : List TBox) (r : TState × Int) (h : impl_CertApply_k9 s_ e_ box = some r) : Fin cx impl_CertApply_X (impl_CertApply_R r) (impl_CertApply_O r) impl_CertApply_k1 (impl_CertApply_S1 s_ e_ box) :=
  P0 <|
 rg <| joinD (I := fun j : TDone × List TBox => Fin cx impl_CertApply_X (impl_CertApply_R r) (impl_CertApply_O r) impl_CertApply_k2 (impl_CertApply_S2 s_ j.1 j.2)) h (fun j h => impl_CertApply_j4_ok s_ r j.1 j.2 h) (fun x1 h hc1 =>
  rg <| cb impl_ExecFresh_t impl_ExecFresh_ok 4 false h fun execFresh h =>
 cdD 6 h (fun h =>
 rg <| (jbrkD h hc1 fun hI => om (box.length = box.length) rfl <| sg [.frz (.cell 4 0 1) (none)] [2, 4, 6, 9] [(1, 0), (3, 0), (4, 0), (9, 0)] hI)) (fun h =>
 rg <| cdD 4 h (fun h =>
 rg <| (jbrkD h hc1 fun hI => om (box.length = box.length) rfl <| sg [.frz (.cell 4 0 1) (none)] [2, 4, 6, 9] [(1, 0), (3, 0), (4, 0), (9, 0)] hI)) (fun h =>
 rg2 <| cb impl_ExecDo_t impl_ExecDo_ok 4 false h fun execDo h =>
 (jbrkD h hc1 fun hI => sg [] [2, 4, 6, 9] [(1, 0), (3, 0), (4, 0), (9, 0)] hI))))
noncomputable def impl_CertApply_k10 : List Item := posI 2000 5 [false, false] [.code impl_CertApply_c]
noncomputable def impl_CertApply_S8 (s_ : TState) (e_ : TEntry) (box : List TBox) (v45 : Int) : St := ⟨(bs 2 (.ptr 1 0 0 :: (.ptr 2 0 0 :: (.ptr 3 0 0 :: (bs 1 (.ptr 4 0 0 :: (bs 36 (vsl 4 eDone s_.Dones :: (vi (s_.Dones.length : Int) :: (vi v45 :: (bs 106 []))))))))))), [some [], some [.var 58 [vi s_.At, vsl 2 eBox s_.Boxes, vsl 4 eDone s_.Dones]], some [.var 75 [.b e_.None, vi e_.Req.Who, vi e_.Req.Seq, vsl 2 eRead e_.Run.Reads, vsl 2 ePut e_.Run.Puts, vi e_.Run.Val, vi e_.Run.Code]], some [.var 58 [vi 0, .nil, .nil]], some [.var 58 [vi (w64 (s_.At + 1)), .own 5 0 2 0 box.length, .nil]], some [erow 128 2 eBox box]]⟩
noncomputable def impl_CertApply_k11 : List Item := posI 2000 8 [false, false, true, false] [.code impl_CertApply_c]
noncomputable def impl_CertApply_S9 (s_ : TState) (e_ : TEntry) (box : List TBox) (v45 : Int) : St := ⟨(bs 2 (.ptr 1 0 0 :: (.ptr 2 0 0 :: (.ptr 3 0 0 :: (bs 1 (.ptr 4 0 0 :: (bs 36 (vsl 4 eDone s_.Dones :: (vi (s_.Dones.length : Int) :: (vi v45 :: (bs 106 []))))))))))), [some [], some [.var 58 [vi s_.At, vsl 2 eBox s_.Boxes, vsl 4 eDone s_.Dones]], some [.var 75 [.b e_.None, vi e_.Req.Who, vi e_.Req.Seq, vsl 2 eRead e_.Run.Reads, vsl 2 ePut e_.Run.Puts, vi e_.Run.Val, vi e_.Run.Code]], some [.var 58 [vi 0, .nil, .nil]], some [.var 58 [vi (w64 (s_.At + 1)), .own 5 0 2 0 box.length, .nil]], some [erow 128 2 eBox box]]⟩
noncomputable def impl_CertApply_j5 (v45 : Int) : Option (Stp (TState × Int) Int Unit) :=
  some (Stp.nxt (w64 (v45 + 1)))
theorem impl_CertApply_j5_ok (s_ : TState) (e_ : TEntry) (box : List TBox) (v45 : Int) (res : V) (outs : List (Option V)) (x1 : Exc (TState × Int) Unit) (hb1 : HB cx impl_CertApply_X res outs x1 impl_CertApply_k1 (fun s => impl_CertApply_S1 s_ e_ box)) (hr1 : HR res outs x1 impl_CertApply_R impl_CertApply_O) (st1 : Stp (TState × Int) Int Unit) (hc1 : Cont x1 (fun s : Int => Fin cx impl_CertApply_X res outs impl_CertApply_k10 (impl_CertApply_S8 s_ e_ box s)) st1) (h : impl_CertApply_j5 v45 = some st1) : Fin cx impl_CertApply_X res outs impl_CertApply_k11 (impl_CertApply_S9 s_ e_ box v45) :=
  P0 <|
 rg <| (nxtD h hc1 fun hI => sg [] [2, 3, 4, 6, 43, 44, 45] [(1, 0), (2, 0), (3, 0), (4, 0), (5, 0)] hI)
noncomputable def impl_CertApply_b2 (s_ : TState) (e_ : TEntry) (box : List TBox) (v45 : Int) : Option (Stp (TState × Int) Int Unit) :=
  (bif decide (v45 < (s_.Dones.length : Int)) then
 ((idx s_.Dones v45).bind fun done3 =>
 (((bif (done3.Req.Who == e_.Req.Who) then
 (bif decide (done3.Req.Seq ≥ e_.Req.Seq) then
 ((impl_copied_Done s_.Dones).bind fun done4 =>
 (bif (done3.Req.Seq == e_.Req.Seq) then
 some (Exc.ret (Stp.ret ((TState.mk (w64 (s_.At + 1)) box done4), 3)))
 else
 some (Exc.ret (Stp.ret ((TState.mk (w64 (s_.At + 1)) box done4), 4)))))
 else
 some (Exc.brk ()))
 else
 some (Exc.brk ())) : Option (Exc (Stp (TState × Int) Int Unit) Unit)).bind fun x => x.go some fun j => impl_CertApply_j5 v45))
 else
 some (Stp.brk ()))
theorem impl_CertApply_b2_ok (s_ : TState) (e_ : TEntry) (box : List TBox) (res : V) (outs : List (Option V)) (x1 : Exc (TState × Int) Unit) (hb1 : HB cx impl_CertApply_X res outs x1 impl_CertApply_k1 (fun s => impl_CertApply_S1 s_ e_ box)) (hr1 : HR res outs x1 impl_CertApply_R impl_CertApply_O) (st1 : Stp (TState × Int) Int Unit) (hc1 : Cont x1 (fun s : Int => Fin cx impl_CertApply_X res outs impl_CertApply_k10 (impl_CertApply_S8 s_ e_ box s)) st1) (v45 : Int) (h : impl_CertApply_b2 s_ e_ box v45 = some st1) : Fin cx impl_CertApply_X res outs impl_CertApply_k10 (impl_CertApply_S8 s_ e_ box v45) :=
  P0 <|
 rg <| cdD 0 h (fun h =>
 rg <| ixS eDone 0 h fun done3 hdone3 h =>
 joinD (I := fun j : Unit => Fin cx impl_CertApply_X res outs impl_CertApply_k11 (impl_CertApply_S9 s_ e_ box v45)) h (fun j h => impl_CertApply_j5_ok s_ e_ box v45 res outs x1 hb1 hr1 st1 hc1 h) (fun x2 h hc2 =>
  rg <| cdD 7 h (fun h =>
 cdD 15 h (fun h =>
 rg <| cb impl_copied_Done_t impl_copied_Done_ok 2 false h fun done4 h =>
 rg <| cdD 6 h (fun h =>
 rg <| (jretD h hc2 fun h => (retD h hc1 fun e => om (box.length = box.length) rfl <| fn0 Tryz.func117 (hr1 _ e)))) (fun h =>
 rg <| (jretD h hc2 fun h => (retD h hc1 fun e => om (box.length = box.length) rfl <| fn0 Tryz.func117 (hr1 _ e))))) (fun h =>
 (jbrkD h hc2 fun hI => sg [] [2, 3, 4, 6, 43, 44, 45] [(1, 0), (2, 0), (3, 0), (4, 0), (5, 0)] hI))) (fun h =>
 (jbrkD h hc2 fun hI => sg [] [2, 3, 4, 6, 43, 44, 45] [(1, 0), (2, 0), (3, 0), (4, 0), (5, 0)] hI)))) (fun h =>
 (brkD h hc1 fun e => sg [] [2, 3, 4, 6] [(1, 0), (2, 0), (3, 0), (4, 0), (5, 0)] (hb1 _ e)))
noncomputable def impl_CertApply (s_ : TState) (e_ : TEntry) : Option (TState × Int) :=
  ((impl_CertOk s_).bind fun certOk =>
 (bif (!certOk) then
 some ((TState.mk 0 [] []), (-1))
 else
 ((impl_CertEntry e_).bind fun certEntry =>
 (bif (!certEntry) then
 some ((TState.mk 0 [] []), (-1))
 else
 (bif (s_.At == 40) then
 some ((TState.mk 0 [] []), (-1))
 else
 ((impl_copied_Box s_.Boxes).bind fun box =>
 (bif e_.None then
 ((impl_copied_Done s_.Dones).bind fun done =>
 some ((TState.mk (w64 (s_.At + 1)) box done), 5))
 else
 ((loop (fun s : Int => impl_CertApply_b2 s_ e_ box s) 0).bind fun x => x.go (fun r => some r) fun s => impl_CertApply_k9 s_ e_ box))))))))
theorem impl_CertApply_ok {s_ : TState} {e_ : TEntry} (r : TState × Int) (h : impl_CertApply s_ e_ = some r) : ACalls cx.P 117 [.agg (eState s_), .agg (eEntry e_)] (impl_CertApply_R r) (impl_CertApply_O r) :=
  ACalls.of (cx := cx) (X := impl_CertApply_X) (c := impl_CertApply_c) Tryz.func117 (by kernel_rfl) (by kernel_rfl) (by kernel_rfl) (P0 <|
 rg2 <| cb impl_CertOk_t impl_CertOk_ok 1 false h fun certOk h =>
 cdD 3 h (fun h =>
 rg <| fe Tryz.func117 h) (fun h =>
 cb impl_CertEntry_t impl_CertEntry_ok 5 false h fun certEntry h =>
 cdD 8 h (fun h =>
 rg <| fe Tryz.func117 h) (fun h =>
 cdD 12 h (fun h =>
 rg <| fe Tryz.func117 h) (fun h =>
 rg <| cb impl_copied_Box_t impl_copied_Box_ok 5 false h fun box h =>
 rg <| cdD 1 h (fun h =>
 rg <| cb impl_copied_Done_t impl_copied_Done_ok 2 false h fun done h =>
 rg <| om (box.length = box.length) rfl <| fe Tryz.func117 h) (fun h =>
 rg <| loopJ h fun x hl hr hb => sg [] [2, 3, 4, 6, 43, 44, 45] [(1, 0), (2, 0), (3, 0), (25, 0), (23, 0)] (loopD (I := fun s : Int => Fin cx impl_CertApply_X (impl_CertApply_R r) (impl_CertApply_O r) impl_CertApply_k10 (impl_CertApply_S8 s_ e_ box s)) hl fun s st h hc => impl_CertApply_b2_ok s_ e_ box _ _ x (fun s e => impl_CertApply_k9_ok s_ e_ box r (hb s e)) (fun v e => ⟨congrArg impl_CertApply_R (Option.some.inj (hr v e)).symm, congrArg impl_CertApply_O (Option.some.inj (hr v e)).symm⟩) st hc s h))))))

/-! ### impl_folded -/
noncomputable def impl_folded_c : Code := bodyOf Tryz.f67
noncomputable def impl_folded_X : Sig := { f := 67, fn := Tryz.f67, rms := [.val [none, some 2, some 4] [], .val [some 1] []], oms := [none] }
noncomputable def impl_folded_R (r : TState × List Int) : V := .tup [.agg (eState r.1), vsl 1 eI r.2]
noncomputable def impl_folded_O (r : TState × List Int) : List (Option V) := [none]
noncomputable def impl_folded_t (i : Nat) (fr : Bool) (r : TState × List Int) : Nat × Tell := (i, { a := .call [.val [some 7] []] fr (impl_folded_R r) (impl_folded_O r) })
noncomputable def impl_folded_k1 : List Item := posI 2000 5 [false] [.code impl_folded_c]
noncomputable def impl_folded_S1 (s_1 : TState) (codes1 : List Int) : St := ⟨(bs 2 (.ptr 1 0 0 :: (bs 1 (.ptr 2 0 0 :: (.own 3 0 1 0 codes1.length :: (bs 25 [])))))), [some [], some [.var 58 [vi 0, .nil, .nil]], some [.var 58 [vi s_1.At, vsl 2 eBox s_1.Boxes, vsl 4 eDone s_1.Dones]], some [erow 3 1 eI codes1]]⟩
noncomputable def impl_folded_k2 (s_1 : TState) (codes1 : List Int) : Option (TState × List Int) :=
  some (s_1, codes1)
theorem impl_folded_k2_ok (r : TState × List Int) (s_1 : TState) (codes1 : List Int) (h : impl_folded_k2 s_1 codes1 = some r) : Fin cx impl_folded_X (impl_folded_R r) (impl_folded_O r) impl_folded_k1 (impl_folded_S1 s_1 codes1) :=
  P0 <|
 rg <| om (codes1.length = codes1.length) rfl <| fe Tryz.func67 h
noncomputable def impl_folded_k3 : List Item := posI 2000 4 [] [.code impl_folded_c]
noncomputable def impl_folded_S2 (list : List TEntry) (s_ : TState) (codes : List Int) (v13 : Int) : St := ⟨(bs 2 (.ptr 1 0 0 :: (bs 1 (.ptr 2 0 0 :: (.own 3 0 1 0 codes.length :: (bs 5 (vsl 7 eEntry list :: (vi (list.length : Int) :: (vi v13 :: (bs 17 [])))))))))), [some [], some [.var 58 [vi 0, .nil, .nil]], some [.var 58 [vi s_.At, vsl 2 eBox s_.Boxes, vsl 4 eDone s_.Dones]], some [erow 3 1 eI codes]]⟩
noncomputable def impl_folded_b1 (list : List TEntry) (s_ : TState) (codes : List Int) (v13 : Int) : Option (Stp (TState × List Int) (TState × (List Int) × Int) (TState × List Int)) :=
  (bif decide (v13 < (list.length : Int)) then
 ((idx list v13).bind fun entry =>
 ((impl_CertApply s_ entry).bind fun certApply =>
 (need ((codes.length + 1) * 8 ≤ 140737488355328)
 (some (Stp.nxt (certApply.1, codes ++ [certApply.2], w64 (v13 + 1)))))))
 else
 some (Stp.brk (s_, codes)))
theorem impl_folded_b1_ok (list : List TEntry) (res : V) (outs : List (Option V)) (x1 : Exc (TState × List Int) (TState × List Int)) (hb1 : HB cx impl_folded_X res outs x1 impl_folded_k1 (fun s => impl_folded_S1 s.1 s.2)) (hr1 : HR res outs x1 impl_folded_R impl_folded_O) (st1 : Stp (TState × List Int) (TState × (List Int) × Int) (TState × List Int)) (hc1 : Cont x1 (fun s : TState × (List Int) × Int => Fin cx impl_folded_X res outs impl_folded_k3 (impl_folded_S2 list s.1 s.2.1 s.2.2)) st1) (s_ : TState) (codes : List Int) (v13 : Int) (h : impl_folded_b1 list s_ codes v13 = some st1) : Fin cx impl_folded_X res outs impl_folded_k3 (impl_folded_S2 list s_ codes v13) :=
  P0 <|
 rg <| cdD 0 h (fun h =>
 rg <| ixS eEntry 0 h fun entry hentry h =>
 rg <| cb impl_CertApply_t impl_CertApply_ok 2 false h fun certApply h =>
 rg2 <| tl (2, { a := .ck [] }) <| needD h fun e1 h =>
 apS 3 23 3 1 8 eI codes certApply.2 e1 <| om (1 = [certApply.2].length) (by rfl) <| rg <| (nxtD h hc1 fun hI => sg [] [2, 4, 5, 11, 12, 13] [(1, 0), (2, 0), (23, 0)] hI)) (fun h =>
 (brkD h hc1 fun e => sg [] [2, 4, 5] [(1, 0), (2, 0), (3, 0)] (hb1 _ e)))
noncomputable def impl_folded (list : List TEntry) : Option (TState × List Int) :=
  ((impl_CertOpen).bind fun certOpen =>
 ((loop (fun s : TState × (List Int) × Int => impl_folded_b1 list s.1 s.2.1 s.2.2) (certOpen, [], 0)).bind fun x => x.go (fun r => some r) fun s => impl_folded_k2 s.1 s.2))
theorem impl_folded_ok {list : List TEntry} (r : TState × List Int) (h : impl_folded list = some r) : ACalls cx.P 67 [vsl 7 eEntry list] (impl_folded_R r) (impl_folded_O r) :=
  ACalls.of (cx := cx) (X := impl_folded_X) (c := impl_folded_c) Tryz.func67 (by kernel_rfl) (by kernel_rfl) (by kernel_rfl) (P0 <|
 rg2 <| cb impl_CertOpen_t impl_CertOpen_ok 0 false h fun certOpen h =>
 rg2 <| loopJ h fun x hl hr hb => sg [.own (.tmp 5) 3 1] [2, 4, 5, 11, 12, 13] [(1, 0), (4, 0), (10, 0)] (loopD (I := fun s : TState × (List Int) × Int => Fin cx impl_folded_X (impl_folded_R r) (impl_folded_O r) impl_folded_k3 (impl_folded_S2 list s.1 s.2.1 s.2.2)) hl fun s st h hc => impl_folded_b1_ok list _ _ x (fun s e => impl_folded_k2_ok r s.1 s.2 (hb s e)) (fun v e => ⟨congrArg impl_folded_R (Option.some.inj (hr v e)).symm, congrArg impl_folded_O (Option.some.inj (hr v e)).symm⟩) st hc s.1 s.2.1 s.2.2 h))

/-! ### impl_copied_Req -/
noncomputable def impl_copied_Req_c : Code := bodyOf Tryz.f68
noncomputable def impl_copied_Req_X : Sig := { f := 68, fn := Tryz.f68, rms := [.val [some 2] []], oms := [none] }
noncomputable def impl_copied_Req_R (r : List TReq) : V := vsl 2 eReq r
noncomputable def impl_copied_Req_O (r : List TReq) : List (Option V) := [none]
noncomputable def impl_copied_Req_t (i : Nat) (fr : Bool) (r : List TReq) : Nat × Tell := (i, { a := .call [.val [some 2] []] fr (impl_copied_Req_R r) (impl_copied_Req_O r) })
noncomputable def impl_copied_Req (list : List TReq) : Option (List TReq) :=
  (bif ((list.length : Int) == 0) then
 some []
 else
 (need (0 ≤ (list.length : Int) ∧ (list.length : Int) * 16 ≤ 140737488355328)
 ((need (list.length = (List.replicate (list.length : Int).toNat (TReq.mk 0 0)).length)
 (some list)))))
theorem impl_copied_Req_ok {list : List TReq} (r : List TReq) (h : impl_copied_Req list = some r) : ACalls cx.P 68 [vsl 2 eReq list] (impl_copied_Req_R r) (impl_copied_Req_O r) :=
  ACalls.of (cx := cx) (X := impl_copied_Req_X) (c := impl_copied_Req_c) Tryz.func68 (by kernel_rfl) (by kernel_rfl) (by kernel_rfl) (P0 <|
 rg2 <| cdD 2 h (fun h =>
 rg <| fe Tryz.func68 h) (fun h =>
 rg <| needD h fun e1 h =>
 mkS 2 7 62 2 16 eReq (TReq.mk 0 0) ti62 (.none) e1 (by decide) (by rfl) <| rg <| needD h fun e2 h =>
 om (Ent.row 62 2 (List.replicate (list.length : Int).toNat (TReq.mk 0 0)).length (list.map eReq) = erow 62 2 eReq list) (row_copy e2) <| om ((List.replicate (list.length : Int).toNat (TReq.mk 0 0)).length = (List.replicate (list.length : Int).toNat (TReq.mk 0 0)).length) rfl <| ob e2 <| tl (2, { e := some (erow 62 2 eReq list) }) <| rg <| om ((List.replicate (list.length : Int).toNat (TReq.mk 0 0)).length = list.length) (by simp) <| fe Tryz.func68 h))


end Go.Proofs.YtggngdffdglolaaGreat
