/- Functions of the program, and that their calls come to this. -/
import Derived.Test.YtidcofmgigokcaaF1
set_option linter.unusedVariables false
set_option linter.unusedSimpArgs false
namespace Go.Proofs.Ytidcofmgigokcaa
open Go

/-! ### spec_l1Num -/
noncomputable def spec_l1Num_c : Code := bodyOf Try.f40
noncomputable def spec_l1Num_X : Sig := { f := 40, fn := Try.f40, rms := [.val [] []], oms := [none] }
noncomputable def spec_l1Num_R (r : Bool) : V := .b r
noncomputable def spec_l1Num_O (r : Bool) : List (Option V) := [none]
noncomputable def spec_l1Num (n : Int) : Option Bool :=
  (bif decide (n ≥ (-1000000)) then
 some (decide (n ≤ 1000000))
 else
 some false)
theorem spec_l1Num_fin (n : Int) (r : Bool) (h : spec_l1Num n = some r) : Fin cx spec_l1Num_X (spec_l1Num_R r) (spec_l1Num_O r) [.code spec_l1Num_c] (startS spec_l1Num_X [vi n]) :=
  (condD h (fun e1 h =>
 (someD h fun e => (Fin.fin (cx := cx) (X := spec_l1Num_X) (res := spec_l1Num_R (decide (n ≤ 1000000))) (outs := spec_l1Num_O (decide (n ≤ 1000000))) Try.func40 [[], [(2, { d := some true })]] [decide (n ≥ (-1000000)) = true] (.cons e1 .nil) (by kernel_rfl)).is (congrArg spec_l1Num_R e) (congrArg spec_l1Num_O e))) (fun e1 h =>
 (someD h fun e => (Fin.fin (cx := cx) (X := spec_l1Num_X) (res := spec_l1Num_R false) (outs := spec_l1Num_O false) Try.func40 [[], [(2, { d := some false })]] [decide (n ≥ (-1000000)) = false] (.cons e1 .nil) (by kernel_rfl)).is (congrArg spec_l1Num_R e) (congrArg spec_l1Num_O e))))
theorem spec_l1Num_ok (n : Int) (r : Bool) (h : spec_l1Num n = some r) : ACalls cx.P 40 [vi n] (spec_l1Num_R r) (spec_l1Num_O r) :=
  ACalls.of (cx := cx) (X := spec_l1Num_X) (c := spec_l1Num_c) Try.func40 (by kernel_rfl) (by kernel_rfl) (by kernel_rfl) (spec_l1Num_fin n r h)

/-! ### spec_l2Box -/
noncomputable def spec_l2Box_c : Code := bodyOf Try.f41
noncomputable def spec_l2Box_X : Sig := { f := 41, fn := Try.f41, rms := [.val [] []], oms := [none] }
noncomputable def spec_l2Box_R (r : Bool) : V := .b r
noncomputable def spec_l2Box_O (r : Bool) : List (Option V) := [none]
noncomputable def spec_l2Box (n : Int) : Option Bool :=
  (bif decide (n ≥ 0) then
 some (decide (n < 4))
 else
 some false)
theorem spec_l2Box_fin (n : Int) (r : Bool) (h : spec_l2Box n = some r) : Fin cx spec_l2Box_X (spec_l2Box_R r) (spec_l2Box_O r) [.code spec_l2Box_c] (startS spec_l2Box_X [vi n]) :=
  (condD h (fun e1 h =>
 (someD h fun e => (Fin.fin (cx := cx) (X := spec_l2Box_X) (res := spec_l2Box_R (decide (n < 4))) (outs := spec_l2Box_O (decide (n < 4))) Try.func41 [[], [(2, { d := some true })]] [decide (n ≥ 0) = true] (.cons e1 .nil) (by kernel_rfl)).is (congrArg spec_l2Box_R e) (congrArg spec_l2Box_O e))) (fun e1 h =>
 (someD h fun e => (Fin.fin (cx := cx) (X := spec_l2Box_X) (res := spec_l2Box_R false) (outs := spec_l2Box_O false) Try.func41 [[], [(2, { d := some false })]] [decide (n ≥ 0) = false] (.cons e1 .nil) (by kernel_rfl)).is (congrArg spec_l2Box_R e) (congrArg spec_l2Box_O e))))
theorem spec_l2Box_ok (n : Int) (r : Bool) (h : spec_l2Box n = some r) : ACalls cx.P 41 [vi n] (spec_l2Box_R r) (spec_l2Box_O r) :=
  ACalls.of (cx := cx) (X := spec_l2Box_X) (c := spec_l2Box_c) Try.func41 (by kernel_rfl) (by kernel_rfl) (by kernel_rfl) (spec_l2Box_fin n r h)

/-! ### spec_l3Saw -/
noncomputable def spec_l3Saw_c : Code := bodyOf Try.f20
noncomputable def spec_l3Saw_X : Sig := { f := 20, fn := Try.f20, rms := [.val [] []], oms := [none, none] }
noncomputable def spec_l3Saw_R (r : Bool) : V := .b r
noncomputable def spec_l3Saw_O (r : Bool) : List (Option V) := [none, none]
noncomputable def spec_l3Saw_k1 : List Item := posI 2000 3 [false] [.code spec_l3Saw_c]
noncomputable def spec_l3Saw_S1 : St := ⟨(bs 19 []), [some []]⟩
noncomputable def spec_l3Saw_k2 : Option Bool :=
  some false
theorem spec_l3Saw_k2_ok (r : Bool) (h : spec_l3Saw_k2 = some r) : Fin cx spec_l3Saw_X (spec_l3Saw_R r) (spec_l3Saw_O r) spec_l3Saw_k1 (spec_l3Saw_S1) :=
  (someD h fun e => (Fin.fin (cx := cx) (X := spec_l3Saw_X) (res := spec_l3Saw_R false) (outs := spec_l3Saw_O false) Try.func20 [[]] [] .nil (by kernel_rfl)).is (congrArg spec_l3Saw_R e) (congrArg spec_l3Saw_O e))
noncomputable def spec_l3Saw_k3 : List Item := posI 2000 2 [] [.code spec_l3Saw_c]
noncomputable def spec_l3Saw_S2 (list : List TRead) (box : Int) (i : Int) : St := ⟨(vsl 2 eRead list :: (vi box :: (bs 3 (vi i :: (bs 13 []))))), [some []]⟩
noncomputable def spec_l3Saw_b1 (list : List TRead) (box : Int) (i : Int) : Option (Stp Bool Int Unit) :=
  (bif decide (i < (list.length : Int)) then
 ((idx list i).bind fun read =>
 (bif (read.Box == box) then
 some (Stp.ret true)
 else
 some (Stp.nxt (w64 (i + 1)))))
 else
 some (Stp.brk ()))
theorem spec_l3Saw_b1_ok (list : List TRead) (box : Int) (res : V) (outs : List (Option V)) (x1 : Exc Bool Unit) (hb1 : ∀ s : Unit, x1 = .brk s → Fin cx spec_l3Saw_X res outs spec_l3Saw_k1 (spec_l3Saw_S1)) (hr1 : ∀ v : Bool, x1 = .ret v → (res = spec_l3Saw_R v ∧ outs = spec_l3Saw_O v)) (st1 : Stp Bool Int Unit) (hc1 : Cont x1 (fun s : Int => Fin cx spec_l3Saw_X res outs spec_l3Saw_k3 (spec_l3Saw_S2 list box s)) st1) (i : Int) (h : spec_l3Saw_b1 list box i = some st1) : Fin cx spec_l3Saw_X res outs spec_l3Saw_k3 (spec_l3Saw_S2 list box i) :=
  (condD h (fun e1 h =>
 (bindD h fun read hread h =>
 (condD h (fun e2 h =>
 (retD h hc1 fun e => (Fin.fin (cx := cx) (X := spec_l3Saw_X) (res := spec_l3Saw_R true) (outs := spec_l3Saw_O true) Try.func20 [[(3, { d := some true })], [(2, { a := .row (eRead read) }), (6, { d := some true })], []] [decide (i < (list.length : Int)) = true, (0 : Int) ≤ i, i < ((list.length : Nat) : Int), (list.map eRead)[i.toNat]? = some (eRead read), (read.Box == box) = true] (.cons e1 (.cons (idx0 hread) (.cons (idx1 hread) (.cons (map_idx hread) (.cons e2 .nil))))) (by kernel_rfl)).is (hr1 _ e).1 (hr1 _ e).2)) (fun e2 h =>
 (nxtD h hc1 fun hI => (Fin.seg [[(3, { d := some true })], [(2, { a := .row (eRead read) }), (6, { d := some false })], []] [] [0, 1, 5] [] [decide (i < (list.length : Int)) = true, (0 : Int) ≤ i, i < ((list.length : Nat) : Int), (list.map eRead)[i.toNat]? = some (eRead read), (read.Box == box) = false] (.cons e1 (.cons (idx0 hread) (.cons (idx1 hread) (.cons (map_idx hread) (.cons e2 .nil))))) hI (by kernel_rfl))))))) (fun e1 h =>
 (brkD h hc1 fun e => (Fin.seg [[(3, { d := some false })]] [] [] [] [decide (i < (list.length : Int)) = false] (.cons e1 .nil) (hb1 _ e) (by kernel_rfl)))))
theorem spec_l3Saw_b1_loop (list : List TRead) (box : Int) (res : V) (outs : List (Option V)) (x1 : Exc Bool Unit) (hb1 : ∀ s : Unit, x1 = .brk s → Fin cx spec_l3Saw_X res outs spec_l3Saw_k1 (spec_l3Saw_S1)) (hr1 : ∀ v : Bool, x1 = .ret v → (res = spec_l3Saw_R v ∧ outs = spec_l3Saw_O v)) (s : Int) (h : loop (fun s : Int => spec_l3Saw_b1 list box s) s = some x1) : Fin cx spec_l3Saw_X res outs spec_l3Saw_k3 (spec_l3Saw_S2 list box s) :=
  loopD (I := fun s : Int => Fin cx spec_l3Saw_X res outs spec_l3Saw_k3 (spec_l3Saw_S2 list box s)) h fun s st h hc => spec_l3Saw_b1_ok list box res outs x1 hb1 hr1 st hc s h
noncomputable def spec_l3Saw (list : List TRead) (box : Int) : Option Bool :=
  ((loop (fun s : Int => spec_l3Saw_b1 list box s) 0).bind fun x => x.go (fun r => some r) fun s => spec_l3Saw_k2)
theorem spec_l3Saw_fin (list : List TRead) (box : Int) (r : Bool) (h : spec_l3Saw list box = some r) : Fin cx spec_l3Saw_X (spec_l3Saw_R r) (spec_l3Saw_O r) [.code spec_l3Saw_c] (startS spec_l3Saw_X [vsl 2 eRead list, vi box]) :=
  (loopJ h fun x hl hr hb => (Fin.seg [[], []] [] [0, 1, 5] [] [] .nil (spec_l3Saw_b1_loop list box _ _ x (fun s e => spec_l3Saw_k2_ok r (hb s e)) (fun v e => ⟨congrArg spec_l3Saw_R (Option.some.inj (hr v e)).symm, congrArg spec_l3Saw_O (Option.some.inj (hr v e)).symm⟩) 0 hl) (by kernel_rfl)))
theorem spec_l3Saw_ok (list : List TRead) (box : Int) (r : Bool) (h : spec_l3Saw list box = some r) : ACalls cx.P 20 [vsl 2 eRead list, vi box] (spec_l3Saw_R r) (spec_l3Saw_O r) :=
  ACalls.of (cx := cx) (X := spec_l3Saw_X) (c := spec_l3Saw_c) Try.func20 (by kernel_rfl) (by kernel_rfl) (by kernel_rfl) (spec_l3Saw_fin list box r h)

/-! ### spec_l3At -/
noncomputable def spec_l3At_c : Code := bodyOf Try.f19
noncomputable def spec_l3At_X : Sig := { f := 19, fn := Try.f19, rms := [.val [] []], oms := [none, none] }
noncomputable def spec_l3At_R (r : Int) : V := vi r
noncomputable def spec_l3At_O (r : Int) : List (Option V) := [none, none]
noncomputable def spec_l3At_k1 : List Item := posI 2000 3 [false] [.code spec_l3At_c]
noncomputable def spec_l3At_S1 : St := ⟨(bs 20 []), [some []]⟩
noncomputable def spec_l3At_k2 : Option Int :=
  some (-1)
theorem spec_l3At_k2_ok (r : Int) (h : spec_l3At_k2 = some r) : Fin cx spec_l3At_X (spec_l3At_R r) (spec_l3At_O r) spec_l3At_k1 (spec_l3At_S1) :=
  (someD h fun e => (Fin.fin (cx := cx) (X := spec_l3At_X) (res := spec_l3At_R (-1)) (outs := spec_l3At_O (-1)) Try.func19 [[]] [] .nil (by kernel_rfl)).is (congrArg spec_l3At_R e) (congrArg spec_l3At_O e))
noncomputable def spec_l3At_k3 : List Item := posI 2000 2 [] [.code spec_l3At_c]
noncomputable def spec_l3At_S2 (list : List TPut) (box : Int) (i : Int) : St := ⟨(vsl 2 ePut list :: (vi box :: (bs 3 (vi i :: (bs 14 []))))), [some []]⟩
noncomputable def spec_l3At_b1 (list : List TPut) (box : Int) (i : Int) : Option (Stp Int Int Unit) :=
  (bif decide (i < (list.length : Int)) then
 ((idx list i).bind fun put =>
 (bif (put.Box == box) then
 some (Stp.ret i)
 else
 some (Stp.nxt (w64 (i + 1)))))
 else
 some (Stp.brk ()))
theorem spec_l3At_b1_ok (list : List TPut) (box : Int) (res : V) (outs : List (Option V)) (x1 : Exc Int Unit) (hb1 : ∀ s : Unit, x1 = .brk s → Fin cx spec_l3At_X res outs spec_l3At_k1 (spec_l3At_S1)) (hr1 : ∀ v : Int, x1 = .ret v → (res = spec_l3At_R v ∧ outs = spec_l3At_O v)) (st1 : Stp Int Int Unit) (hc1 : Cont x1 (fun s : Int => Fin cx spec_l3At_X res outs spec_l3At_k3 (spec_l3At_S2 list box s)) st1) (i : Int) (h : spec_l3At_b1 list box i = some st1) : Fin cx spec_l3At_X res outs spec_l3At_k3 (spec_l3At_S2 list box i) :=
  (condD h (fun e1 h =>
 (bindD h fun put hput h =>
 (condD h (fun e2 h =>
 (retD h hc1 fun e => (Fin.fin (cx := cx) (X := spec_l3At_X) (res := spec_l3At_R i) (outs := spec_l3At_O i) Try.func19 [[(3, { d := some true })], [(2, { a := .row (ePut put) }), (6, { d := some true })], []] [decide (i < (list.length : Int)) = true, (0 : Int) ≤ i, i < ((list.length : Nat) : Int), (list.map ePut)[i.toNat]? = some (ePut put), (put.Box == box) = true] (.cons e1 (.cons (idx0 hput) (.cons (idx1 hput) (.cons (map_idx hput) (.cons e2 .nil))))) (by kernel_rfl)).is (hr1 _ e).1 (hr1 _ e).2)) (fun e2 h =>
 (nxtD h hc1 fun hI => (Fin.seg [[(3, { d := some true })], [(2, { a := .row (ePut put) }), (6, { d := some false })], []] [] [0, 1, 5] [] [decide (i < (list.length : Int)) = true, (0 : Int) ≤ i, i < ((list.length : Nat) : Int), (list.map ePut)[i.toNat]? = some (ePut put), (put.Box == box) = false] (.cons e1 (.cons (idx0 hput) (.cons (idx1 hput) (.cons (map_idx hput) (.cons e2 .nil))))) hI (by kernel_rfl))))))) (fun e1 h =>
 (brkD h hc1 fun e => (Fin.seg [[(3, { d := some false })]] [] [] [] [decide (i < (list.length : Int)) = false] (.cons e1 .nil) (hb1 _ e) (by kernel_rfl)))))
theorem spec_l3At_b1_loop (list : List TPut) (box : Int) (res : V) (outs : List (Option V)) (x1 : Exc Int Unit) (hb1 : ∀ s : Unit, x1 = .brk s → Fin cx spec_l3At_X res outs spec_l3At_k1 (spec_l3At_S1)) (hr1 : ∀ v : Int, x1 = .ret v → (res = spec_l3At_R v ∧ outs = spec_l3At_O v)) (s : Int) (h : loop (fun s : Int => spec_l3At_b1 list box s) s = some x1) : Fin cx spec_l3At_X res outs spec_l3At_k3 (spec_l3At_S2 list box s) :=
  loopD (I := fun s : Int => Fin cx spec_l3At_X res outs spec_l3At_k3 (spec_l3At_S2 list box s)) h fun s st h hc => spec_l3At_b1_ok list box res outs x1 hb1 hr1 st hc s h
noncomputable def spec_l3At (list : List TPut) (box : Int) : Option Int :=
  ((loop (fun s : Int => spec_l3At_b1 list box s) 0).bind fun x => x.go (fun r => some r) fun s => spec_l3At_k2)
theorem spec_l3At_fin (list : List TPut) (box : Int) (r : Int) (h : spec_l3At list box = some r) : Fin cx spec_l3At_X (spec_l3At_R r) (spec_l3At_O r) [.code spec_l3At_c] (startS spec_l3At_X [vsl 2 ePut list, vi box]) :=
  (loopJ h fun x hl hr hb => (Fin.seg [[], []] [] [0, 1, 5] [] [] .nil (spec_l3At_b1_loop list box _ _ x (fun s e => spec_l3At_k2_ok r (hb s e)) (fun v e => ⟨congrArg spec_l3At_R (Option.some.inj (hr v e)).symm, congrArg spec_l3At_O (Option.some.inj (hr v e)).symm⟩) 0 hl) (by kernel_rfl)))
theorem spec_l3At_ok (list : List TPut) (box : Int) (r : Int) (h : spec_l3At list box = some r) : ACalls cx.P 19 [vsl 2 ePut list, vi box] (spec_l3At_R r) (spec_l3At_O r) :=
  ACalls.of (cx := cx) (X := spec_l3At_X) (c := spec_l3At_c) Try.func19 (by kernel_rfl) (by kernel_rfl) (by kernel_rfl) (spec_l3At_fin list box r h)

/-! ### spec_ExecOk -/
noncomputable def spec_ExecOk_c : Code := bodyOf Try.f32
noncomputable def spec_ExecOk_X : Sig := { f := 32, fn := Try.f32, rms := [.val [] []], oms := [none] }
noncomputable def spec_ExecOk_R (r : Bool) : V := .b r
noncomputable def spec_ExecOk_O (r : Bool) : List (Option V) := [none]
noncomputable def spec_ExecOk_k1 : List Item := posI 2000 2 [false] [.code spec_ExecOk_c]
noncomputable def spec_ExecOk_S1 (r_ : TRun) : St := ⟨(bs 1 (.ptr 1 0 0 :: (bs 129 []))), [some [], some [.var 43 [vsl 2 eRead r_.Reads, vsl 2 ePut r_.Puts, vi r_.Val, vi r_.Code]]]⟩
noncomputable def spec_ExecOk_k2 : List Item := posI 2000 4 [false, false] [.code spec_ExecOk_c]
noncomputable def spec_ExecOk_S2 (r_ : TRun) : St := ⟨(bs 1 (.ptr 1 0 0 :: (bs 129 []))), [some [], some [.var 43 [vsl 2 eRead r_.Reads, vsl 2 ePut r_.Puts, vi r_.Val, vi r_.Code]]]⟩
noncomputable def spec_ExecOk_k3 : List Item := posI 2000 6 [false, false, false] [.code spec_ExecOk_c]
noncomputable def spec_ExecOk_S3 : St := ⟨(bs 131 []), [some []]⟩
noncomputable def spec_ExecOk_k4 : Option Bool :=
  some true
theorem spec_ExecOk_k4_ok (r : Bool) (h : spec_ExecOk_k4 = some r) : Fin cx spec_ExecOk_X (spec_ExecOk_R r) (spec_ExecOk_O r) spec_ExecOk_k3 (spec_ExecOk_S3) :=
  (someD h fun e => (Fin.fin (cx := cx) (X := spec_ExecOk_X) (res := spec_ExecOk_R true) (outs := spec_ExecOk_O true) Try.func32 [[]] [] .nil (by kernel_rfl)).is (congrArg spec_ExecOk_R e) (congrArg spec_ExecOk_O e))
noncomputable def spec_ExecOk_k5 : List Item := posI 2000 5 [false, false] [.code spec_ExecOk_c]
noncomputable def spec_ExecOk_S4 (r_ : TRun) (i1 : Int) : St := ⟨(bs 1 (.ptr 1 0 0 :: (bs 2 (vi i1 :: (bs 126 []))))), [some [], some [.var 43 [vsl 2 eRead r_.Reads, vsl 2 ePut r_.Puts, vi r_.Val, vi r_.Code]]]⟩
noncomputable def spec_ExecOk_b1 (r_ : TRun) (i1 : Int) : Option (Stp Bool Int Unit) :=
  (bif decide (i1 < (r_.Puts.length : Int)) then
 ((idx r_.Puts i1).bind fun put =>
 ((spec_l2Box put.Box).bind fun l2Box =>
 (bif (!l2Box) then
 some (Stp.ret false)
 else
 ((spec_l1Num put.Val).bind fun l1Num =>
 (bif (!l1Num) then
 some (Stp.ret false)
 else
 (need (0 ≤ i1 ∧ i1 ≤ (r_.Puts.length : Int))
 (((spec_l3At ((r_.Puts.drop 0).take (i1.toNat - 0)) put.Box).bind fun l3At =>
 (bif decide (l3At ≥ 0) then
 some (Stp.ret false)
 else
 some (Stp.nxt (w64 (i1 + 1))))))))))))
 else
 some (Stp.brk ()))
theorem spec_ExecOk_b1_ok (r_ : TRun) (res : V) (outs : List (Option V)) (x1 : Exc Bool Unit) (hb1 : ∀ s : Unit, x1 = .brk s → Fin cx spec_ExecOk_X res outs spec_ExecOk_k3 (spec_ExecOk_S3)) (hr1 : ∀ v : Bool, x1 = .ret v → (res = spec_ExecOk_R v ∧ outs = spec_ExecOk_O v)) (st1 : Stp Bool Int Unit) (hc1 : Cont x1 (fun s : Int => Fin cx spec_ExecOk_X res outs spec_ExecOk_k5 (spec_ExecOk_S4 r_ s)) st1) (i1 : Int) (h : spec_ExecOk_b1 r_ i1 = some st1) : Fin cx spec_ExecOk_X res outs spec_ExecOk_k5 (spec_ExecOk_S4 r_ i1) :=
  (condD h (fun e1 h =>
 (bindD h fun put hput h =>
 (bindD h fun l2Box hl2Box h =>
 (condD h (fun e2 h =>
 (retD h hc1 fun e => (Fin.fin (cx := cx) (X := spec_ExecOk_X) (res := spec_ExecOk_R false) (outs := spec_ExecOk_O false) Try.func32 [[(4, { d := some true })], [(3, { a := .row (ePut put) }), (6, { a := .call [.val [] []] false (spec_l2Box_R l2Box) (spec_l2Box_O l2Box) }), (8, { d := some true })], []] [decide (i1 < (r_.Puts.length : Int)) = true, (0 : Int) ≤ i1, i1 < ((r_.Puts.length : Nat) : Int), (r_.Puts.map ePut)[i1.toNat]? = some (ePut put), ACalls cx.P 41 [vi put.Box] (spec_l2Box_R l2Box) (spec_l2Box_O l2Box), (!l2Box) = true] (.cons e1 (.cons (idx0 hput) (.cons (idx1 hput) (.cons (map_idx hput) (.cons (spec_l2Box_ok put.Box l2Box hl2Box) (.cons e2 .nil)))))) (by kernel_rfl)).is (hr1 _ e).1 (hr1 _ e).2)) (fun e2 h =>
 (bindD h fun l1Num hl1Num h =>
 (condD h (fun e3 h =>
 (retD h hc1 fun e => (Fin.fin (cx := cx) (X := spec_ExecOk_X) (res := spec_ExecOk_R false) (outs := spec_ExecOk_O false) Try.func32 [[(4, { d := some true })], [(3, { a := .row (ePut put) }), (6, { a := .call [.val [] []] false (spec_l2Box_R l2Box) (spec_l2Box_O l2Box) }), (8, { d := some false }), (12, { a := .row (ePut put) }), (15, { a := .call [.val [] []] false (spec_l1Num_R l1Num) (spec_l1Num_O l1Num) }), (18, { d := some true })], []] [decide (i1 < (r_.Puts.length : Int)) = true, (0 : Int) ≤ i1, i1 < ((r_.Puts.length : Nat) : Int), (r_.Puts.map ePut)[i1.toNat]? = some (ePut put), ACalls cx.P 41 [vi put.Box] (spec_l2Box_R l2Box) (spec_l2Box_O l2Box), (!l2Box) = false, (0 : Int) ≤ i1, i1 < ((r_.Puts.length : Nat) : Int), (r_.Puts.map ePut)[i1.toNat]? = some (ePut put), ACalls cx.P 40 [vi put.Val] (spec_l1Num_R l1Num) (spec_l1Num_O l1Num), (!l1Num) = true] (.cons e1 (.cons (idx0 hput) (.cons (idx1 hput) (.cons (map_idx hput) (.cons (spec_l2Box_ok put.Box l2Box hl2Box) (.cons e2 (.cons (idx0 hput) (.cons (idx1 hput) (.cons (map_idx hput) (.cons (spec_l1Num_ok put.Val l1Num hl1Num) (.cons e3 .nil))))))))))) (by kernel_rfl)).is (hr1 _ e).1 (hr1 _ e).2)) (fun e3 h =>
 (needD h fun e4 h =>
 (bindD h fun l3At hl3At h =>
 (condD h (fun e5 h =>
 (retD h hc1 fun e => (Fin.fin (cx := cx) (X := spec_ExecOk_X) (res := spec_ExecOk_R false) (outs := spec_ExecOk_O false) Try.func32 [[(4, { d := some true })], [(3, { a := .row (ePut put) }), (6, { a := .call [.val [] []] false (spec_l2Box_R l2Box) (spec_l2Box_O l2Box) }), (8, { d := some false }), (12, { a := .row (ePut put) }), (15, { a := .call [.val [] []] false (spec_l1Num_R l1Num) (spec_l1Num_O l1Num) }), (18, { d := some false }), (22, { v := some (vsl 2 ePut ((r_.Puts.drop 0).take (i1.toNat - 0))) }), (26, { a := .row (ePut put) }), (29, { a := .call [.val [some 2] [], .val [] []] false (spec_l3At_R l3At) (spec_l3At_O l3At) }), (31, { d := some true })], []] [decide (i1 < (r_.Puts.length : Int)) = true, (0 : Int) ≤ i1, i1 < ((r_.Puts.length : Nat) : Int), (r_.Puts.map ePut)[i1.toNat]? = some (ePut put), ACalls cx.P 41 [vi put.Box] (spec_l2Box_R l2Box) (spec_l2Box_O l2Box), (!l2Box) = false, (0 : Int) ≤ i1, i1 < ((r_.Puts.length : Nat) : Int), (r_.Puts.map ePut)[i1.toNat]? = some (ePut put), ACalls cx.P 40 [vi put.Val] (spec_l1Num_R l1Num) (spec_l1Num_O l1Num), (!l1Num) = false, V.sl 2 (i1.toNat - 0) (((r_.Puts.map ePut).drop 0).take (i1.toNat - 0)) = vsl 2 ePut ((r_.Puts.drop 0).take (i1.toNat - 0)), (0 : Int) ≤ i1, i1 ≤ ((r_.Puts.length : Nat) : Int), (0 : Int) ≤ i1, i1 < ((r_.Puts.length : Nat) : Int), (r_.Puts.map ePut)[i1.toNat]? = some (ePut put), ACalls cx.P 19 [vsl 2 ePut ((r_.Puts.drop 0).take (i1.toNat - 0)), vi put.Box] (spec_l3At_R l3At) (spec_l3At_O l3At), decide (l3At ≥ 0) = true] (.cons e1 (.cons (idx0 hput) (.cons (idx1 hput) (.cons (map_idx hput) (.cons (spec_l2Box_ok put.Box l2Box hl2Box) (.cons e2 (.cons (idx0 hput) (.cons (idx1 hput) (.cons (map_idx hput) (.cons (spec_l1Num_ok put.Val l1Num hl1Num) (.cons e3 (.cons (sl_h e4) (.cons e4.1 (.cons e4.2 (.cons (idx0 hput) (.cons (idx1 hput) (.cons (map_idx hput) (.cons (spec_l3At_ok ((r_.Puts.drop 0).take (i1.toNat - 0)) put.Box l3At hl3At) (.cons e5 .nil))))))))))))))))))) (by kernel_rfl)).is (hr1 _ e).1 (hr1 _ e).2)) (fun e5 h =>
 (nxtD h hc1 fun hI => (Fin.seg [[(4, { d := some true })], [(3, { a := .row (ePut put) }), (6, { a := .call [.val [] []] false (spec_l2Box_R l2Box) (spec_l2Box_O l2Box) }), (8, { d := some false }), (12, { a := .row (ePut put) }), (15, { a := .call [.val [] []] false (spec_l1Num_R l1Num) (spec_l1Num_O l1Num) }), (18, { d := some false }), (22, { v := some (vsl 2 ePut ((r_.Puts.drop 0).take (i1.toNat - 0))) }), (26, { a := .row (ePut put) }), (29, { a := .call [.val [some 2] [], .val [] []] false (spec_l3At_R l3At) (spec_l3At_O l3At) }), (31, { d := some false })], []] [] [1, 4] [(1, 0)] [decide (i1 < (r_.Puts.length : Int)) = true, (0 : Int) ≤ i1, i1 < ((r_.Puts.length : Nat) : Int), (r_.Puts.map ePut)[i1.toNat]? = some (ePut put), ACalls cx.P 41 [vi put.Box] (spec_l2Box_R l2Box) (spec_l2Box_O l2Box), (!l2Box) = false, (0 : Int) ≤ i1, i1 < ((r_.Puts.length : Nat) : Int), (r_.Puts.map ePut)[i1.toNat]? = some (ePut put), ACalls cx.P 40 [vi put.Val] (spec_l1Num_R l1Num) (spec_l1Num_O l1Num), (!l1Num) = false, V.sl 2 (i1.toNat - 0) (((r_.Puts.map ePut).drop 0).take (i1.toNat - 0)) = vsl 2 ePut ((r_.Puts.drop 0).take (i1.toNat - 0)), (0 : Int) ≤ i1, i1 ≤ ((r_.Puts.length : Nat) : Int), (0 : Int) ≤ i1, i1 < ((r_.Puts.length : Nat) : Int), (r_.Puts.map ePut)[i1.toNat]? = some (ePut put), ACalls cx.P 19 [vsl 2 ePut ((r_.Puts.drop 0).take (i1.toNat - 0)), vi put.Box] (spec_l3At_R l3At) (spec_l3At_O l3At), decide (l3At ≥ 0) = false] (.cons e1 (.cons (idx0 hput) (.cons (idx1 hput) (.cons (map_idx hput) (.cons (spec_l2Box_ok put.Box l2Box hl2Box) (.cons e2 (.cons (idx0 hput) (.cons (idx1 hput) (.cons (map_idx hput) (.cons (spec_l1Num_ok put.Val l1Num hl1Num) (.cons e3 (.cons (sl_h e4) (.cons e4.1 (.cons e4.2 (.cons (idx0 hput) (.cons (idx1 hput) (.cons (map_idx hput) (.cons (spec_l3At_ok ((r_.Puts.drop 0).take (i1.toNat - 0)) put.Box l3At hl3At) (.cons e5 .nil))))))))))))))))))) hI (by kernel_rfl))))))))))))))) (fun e1 h =>
 (brkD h hc1 fun e => (Fin.seg [[(4, { d := some false })]] [] [] [] [decide (i1 < (r_.Puts.length : Int)) = false] (.cons e1 .nil) (hb1 _ e) (by kernel_rfl)))))
theorem spec_ExecOk_b1_loop (r_ : TRun) (res : V) (outs : List (Option V)) (x1 : Exc Bool Unit) (hb1 : ∀ s : Unit, x1 = .brk s → Fin cx spec_ExecOk_X res outs spec_ExecOk_k3 (spec_ExecOk_S3)) (hr1 : ∀ v : Bool, x1 = .ret v → (res = spec_ExecOk_R v ∧ outs = spec_ExecOk_O v)) (s : Int) (h : loop (fun s : Int => spec_ExecOk_b1 r_ s) s = some x1) : Fin cx spec_ExecOk_X res outs spec_ExecOk_k5 (spec_ExecOk_S4 r_ s) :=
  loopD (I := fun s : Int => Fin cx spec_ExecOk_X res outs spec_ExecOk_k5 (spec_ExecOk_S4 r_ s)) h fun s st h hc => spec_ExecOk_b1_ok r_ res outs x1 hb1 hr1 st hc s h
noncomputable def spec_ExecOk_k6 (r_ : TRun) : Option Bool :=
  ((loop (fun s : Int => spec_ExecOk_b1 r_ s) 0).bind fun x => x.go (fun r => some r) fun s => spec_ExecOk_k4)
theorem spec_ExecOk_k6_ok (r_ : TRun) (r : Bool) (h : spec_ExecOk_k6 r_ = some r) : Fin cx spec_ExecOk_X (spec_ExecOk_R r) (spec_ExecOk_O r) spec_ExecOk_k2 (spec_ExecOk_S2 r_) :=
  (loopJ h fun x hl hr hb => (Fin.seg [[]] [] [1, 4] [(1, 0)] [] .nil (spec_ExecOk_b1_loop r_ _ _ x (fun s e => spec_ExecOk_k4_ok r (hb s e)) (fun v e => ⟨congrArg spec_ExecOk_R (Option.some.inj (hr v e)).symm, congrArg spec_ExecOk_O (Option.some.inj (hr v e)).symm⟩) 0 hl) (by kernel_rfl)))
noncomputable def spec_ExecOk_k7 : List Item := posI 2000 3 [false] [.code spec_ExecOk_c]
noncomputable def spec_ExecOk_S5 (r_ : TRun) (i : Int) : St := ⟨(bs 1 (.ptr 1 0 0 :: (bs 1 (vi i :: (bs 127 []))))), [some [], some [.var 43 [vsl 2 eRead r_.Reads, vsl 2 ePut r_.Puts, vi r_.Val, vi r_.Code]]]⟩
noncomputable def spec_ExecOk_b2 (r_ : TRun) (i : Int) : Option (Stp Bool Int Unit) :=
  (bif decide (i < (r_.Reads.length : Int)) then
 ((idx r_.Reads i).bind fun read =>
 ((spec_l2Box read.Box).bind fun l2Box1 =>
 (bif (!l2Box1) then
 some (Stp.ret false)
 else
 (bif decide (read.Ver < 0) then
 some (Stp.ret false)
 else
 (bif decide (read.Ver > 1000000) then
 some (Stp.ret false)
 else
 (need (0 ≤ i ∧ i ≤ (r_.Reads.length : Int))
 (((spec_l3Saw ((r_.Reads.drop 0).take (i.toNat - 0)) read.Box).bind fun l3Saw =>
 (bif l3Saw then
 some (Stp.ret false)
 else
 some (Stp.nxt (w64 (i + 1))))))))))))
 else
 some (Stp.brk ()))
theorem spec_ExecOk_b2_ok (r_ : TRun) (res : V) (outs : List (Option V)) (x1 : Exc Bool Unit) (hb1 : ∀ s : Unit, x1 = .brk s → Fin cx spec_ExecOk_X res outs spec_ExecOk_k2 (spec_ExecOk_S2 r_)) (hr1 : ∀ v : Bool, x1 = .ret v → (res = spec_ExecOk_R v ∧ outs = spec_ExecOk_O v)) (st1 : Stp Bool Int Unit) (hc1 : Cont x1 (fun s : Int => Fin cx spec_ExecOk_X res outs spec_ExecOk_k7 (spec_ExecOk_S5 r_ s)) st1) (i : Int) (h : spec_ExecOk_b2 r_ i = some st1) : Fin cx spec_ExecOk_X res outs spec_ExecOk_k7 (spec_ExecOk_S5 r_ i) :=
  (condD h (fun e6 h =>
 (bindD h fun read hread h =>
 (bindD h fun l2Box1 hl2Box1 h =>
 (condD h (fun e7 h =>
 (retD h hc1 fun e => (Fin.fin (cx := cx) (X := spec_ExecOk_X) (res := spec_ExecOk_R false) (outs := spec_ExecOk_O false) Try.func32 [[(4, { d := some true })], [(3, { a := .row (eRead read) }), (6, { a := .call [.val [] []] false (spec_l2Box_R l2Box1) (spec_l2Box_O l2Box1) }), (8, { d := some true })], []] [decide (i < (r_.Reads.length : Int)) = true, (0 : Int) ≤ i, i < ((r_.Reads.length : Nat) : Int), (r_.Reads.map eRead)[i.toNat]? = some (eRead read), ACalls cx.P 41 [vi read.Box] (spec_l2Box_R l2Box1) (spec_l2Box_O l2Box1), (!l2Box1) = true] (.cons e6 (.cons (idx0 hread) (.cons (idx1 hread) (.cons (map_idx hread) (.cons (spec_l2Box_ok read.Box l2Box1 hl2Box1) (.cons e7 .nil)))))) (by kernel_rfl)).is (hr1 _ e).1 (hr1 _ e).2)) (fun e7 h =>
 (condD h (fun e8 h =>
 (retD h hc1 fun e => (Fin.fin (cx := cx) (X := spec_ExecOk_X) (res := spec_ExecOk_R false) (outs := spec_ExecOk_O false) Try.func32 [[(4, { d := some true })], [(3, { a := .row (eRead read) }), (6, { a := .call [.val [] []] false (spec_l2Box_R l2Box1) (spec_l2Box_O l2Box1) }), (8, { d := some false }), (12, { a := .row (eRead read) }), (17, { d := some true })], []] [decide (i < (r_.Reads.length : Int)) = true, (0 : Int) ≤ i, i < ((r_.Reads.length : Nat) : Int), (r_.Reads.map eRead)[i.toNat]? = some (eRead read), ACalls cx.P 41 [vi read.Box] (spec_l2Box_R l2Box1) (spec_l2Box_O l2Box1), (!l2Box1) = false, (0 : Int) ≤ i, i < ((r_.Reads.length : Nat) : Int), (r_.Reads.map eRead)[i.toNat]? = some (eRead read), decide (read.Ver < 0) = true] (.cons e6 (.cons (idx0 hread) (.cons (idx1 hread) (.cons (map_idx hread) (.cons (spec_l2Box_ok read.Box l2Box1 hl2Box1) (.cons e7 (.cons (idx0 hread) (.cons (idx1 hread) (.cons (map_idx hread) (.cons e8 .nil)))))))))) (by kernel_rfl)).is (hr1 _ e).1 (hr1 _ e).2)) (fun e8 h =>
 (condD h (fun e9 h =>
 (retD h hc1 fun e => (Fin.fin (cx := cx) (X := spec_ExecOk_X) (res := spec_ExecOk_R false) (outs := spec_ExecOk_O false) Try.func32 [[(4, { d := some true })], [(3, { a := .row (eRead read) }), (6, { a := .call [.val [] []] false (spec_l2Box_R l2Box1) (spec_l2Box_O l2Box1) }), (8, { d := some false }), (12, { a := .row (eRead read) }), (17, { d := some false }), (21, { a := .row (eRead read) }), (26, { d := some true })], []] [decide (i < (r_.Reads.length : Int)) = true, (0 : Int) ≤ i, i < ((r_.Reads.length : Nat) : Int), (r_.Reads.map eRead)[i.toNat]? = some (eRead read), ACalls cx.P 41 [vi read.Box] (spec_l2Box_R l2Box1) (spec_l2Box_O l2Box1), (!l2Box1) = false, (0 : Int) ≤ i, i < ((r_.Reads.length : Nat) : Int), (r_.Reads.map eRead)[i.toNat]? = some (eRead read), decide (read.Ver < 0) = false, (0 : Int) ≤ i, i < ((r_.Reads.length : Nat) : Int), (r_.Reads.map eRead)[i.toNat]? = some (eRead read), decide (read.Ver > 1000000) = true] (.cons e6 (.cons (idx0 hread) (.cons (idx1 hread) (.cons (map_idx hread) (.cons (spec_l2Box_ok read.Box l2Box1 hl2Box1) (.cons e7 (.cons (idx0 hread) (.cons (idx1 hread) (.cons (map_idx hread) (.cons e8 (.cons (idx0 hread) (.cons (idx1 hread) (.cons (map_idx hread) (.cons e9 .nil)))))))))))))) (by kernel_rfl)).is (hr1 _ e).1 (hr1 _ e).2)) (fun e9 h =>
 (needD h fun e10 h =>
 (bindD h fun l3Saw hl3Saw h =>
 (condD h (fun e11 h =>
 (retD h hc1 fun e => (Fin.fin (cx := cx) (X := spec_ExecOk_X) (res := spec_ExecOk_R false) (outs := spec_ExecOk_O false) Try.func32 [[(4, { d := some true })], [(3, { a := .row (eRead read) }), (6, { a := .call [.val [] []] false (spec_l2Box_R l2Box1) (spec_l2Box_O l2Box1) }), (8, { d := some false }), (12, { a := .row (eRead read) }), (17, { d := some false }), (21, { a := .row (eRead read) }), (26, { d := some false }), (30, { v := some (vsl 2 eRead ((r_.Reads.drop 0).take (i.toNat - 0))) }), (34, { a := .row (eRead read) }), (37, { a := .call [.val [some 2] [], .val [] []] false (spec_l3Saw_R l3Saw) (spec_l3Saw_O l3Saw) }), (38, { d := some true })], []] [decide (i < (r_.Reads.length : Int)) = true, (0 : Int) ≤ i, i < ((r_.Reads.length : Nat) : Int), (r_.Reads.map eRead)[i.toNat]? = some (eRead read), ACalls cx.P 41 [vi read.Box] (spec_l2Box_R l2Box1) (spec_l2Box_O l2Box1), (!l2Box1) = false, (0 : Int) ≤ i, i < ((r_.Reads.length : Nat) : Int), (r_.Reads.map eRead)[i.toNat]? = some (eRead read), decide (read.Ver < 0) = false, (0 : Int) ≤ i, i < ((r_.Reads.length : Nat) : Int), (r_.Reads.map eRead)[i.toNat]? = some (eRead read), decide (read.Ver > 1000000) = false, V.sl 2 (i.toNat - 0) (((r_.Reads.map eRead).drop 0).take (i.toNat - 0)) = vsl 2 eRead ((r_.Reads.drop 0).take (i.toNat - 0)), (0 : Int) ≤ i, i ≤ ((r_.Reads.length : Nat) : Int), (0 : Int) ≤ i, i < ((r_.Reads.length : Nat) : Int), (r_.Reads.map eRead)[i.toNat]? = some (eRead read), ACalls cx.P 20 [vsl 2 eRead ((r_.Reads.drop 0).take (i.toNat - 0)), vi read.Box] (spec_l3Saw_R l3Saw) (spec_l3Saw_O l3Saw), l3Saw = true] (.cons e6 (.cons (idx0 hread) (.cons (idx1 hread) (.cons (map_idx hread) (.cons (spec_l2Box_ok read.Box l2Box1 hl2Box1) (.cons e7 (.cons (idx0 hread) (.cons (idx1 hread) (.cons (map_idx hread) (.cons e8 (.cons (idx0 hread) (.cons (idx1 hread) (.cons (map_idx hread) (.cons e9 (.cons (sl_h e10) (.cons e10.1 (.cons e10.2 (.cons (idx0 hread) (.cons (idx1 hread) (.cons (map_idx hread) (.cons (spec_l3Saw_ok ((r_.Reads.drop 0).take (i.toNat - 0)) read.Box l3Saw hl3Saw) (.cons e11 .nil)))))))))))))))))))))) (by kernel_rfl)).is (hr1 _ e).1 (hr1 _ e).2)) (fun e11 h =>
 (nxtD h hc1 fun hI => (Fin.seg [[(4, { d := some true })], [(3, { a := .row (eRead read) }), (6, { a := .call [.val [] []] false (spec_l2Box_R l2Box1) (spec_l2Box_O l2Box1) }), (8, { d := some false }), (12, { a := .row (eRead read) }), (17, { d := some false }), (21, { a := .row (eRead read) }), (26, { d := some false }), (30, { v := some (vsl 2 eRead ((r_.Reads.drop 0).take (i.toNat - 0))) }), (34, { a := .row (eRead read) }), (37, { a := .call [.val [some 2] [], .val [] []] false (spec_l3Saw_R l3Saw) (spec_l3Saw_O l3Saw) }), (38, { d := some false })], []] [] [1, 3] [(1, 0)] [decide (i < (r_.Reads.length : Int)) = true, (0 : Int) ≤ i, i < ((r_.Reads.length : Nat) : Int), (r_.Reads.map eRead)[i.toNat]? = some (eRead read), ACalls cx.P 41 [vi read.Box] (spec_l2Box_R l2Box1) (spec_l2Box_O l2Box1), (!l2Box1) = false, (0 : Int) ≤ i, i < ((r_.Reads.length : Nat) : Int), (r_.Reads.map eRead)[i.toNat]? = some (eRead read), decide (read.Ver < 0) = false, (0 : Int) ≤ i, i < ((r_.Reads.length : Nat) : Int), (r_.Reads.map eRead)[i.toNat]? = some (eRead read), decide (read.Ver > 1000000) = false, V.sl 2 (i.toNat - 0) (((r_.Reads.map eRead).drop 0).take (i.toNat - 0)) = vsl 2 eRead ((r_.Reads.drop 0).take (i.toNat - 0)), (0 : Int) ≤ i, i ≤ ((r_.Reads.length : Nat) : Int), (0 : Int) ≤ i, i < ((r_.Reads.length : Nat) : Int), (r_.Reads.map eRead)[i.toNat]? = some (eRead read), ACalls cx.P 20 [vsl 2 eRead ((r_.Reads.drop 0).take (i.toNat - 0)), vi read.Box] (spec_l3Saw_R l3Saw) (spec_l3Saw_O l3Saw), l3Saw = false] (.cons e6 (.cons (idx0 hread) (.cons (idx1 hread) (.cons (map_idx hread) (.cons (spec_l2Box_ok read.Box l2Box1 hl2Box1) (.cons e7 (.cons (idx0 hread) (.cons (idx1 hread) (.cons (map_idx hread) (.cons e8 (.cons (idx0 hread) (.cons (idx1 hread) (.cons (map_idx hread) (.cons e9 (.cons (sl_h e10) (.cons e10.1 (.cons e10.2 (.cons (idx0 hread) (.cons (idx1 hread) (.cons (map_idx hread) (.cons (spec_l3Saw_ok ((r_.Reads.drop 0).take (i.toNat - 0)) read.Box l3Saw hl3Saw) (.cons e11 .nil)))))))))))))))))))))) hI (by kernel_rfl)))))))))))))))) (fun e6 h =>
 (brkD h hc1 fun e => (Fin.seg [[(4, { d := some false })]] [] [1] [(1, 0)] [decide (i < (r_.Reads.length : Int)) = false] (.cons e6 .nil) (hb1 _ e) (by kernel_rfl)))))
theorem spec_ExecOk_b2_loop (r_ : TRun) (res : V) (outs : List (Option V)) (x1 : Exc Bool Unit) (hb1 : ∀ s : Unit, x1 = .brk s → Fin cx spec_ExecOk_X res outs spec_ExecOk_k2 (spec_ExecOk_S2 r_)) (hr1 : ∀ v : Bool, x1 = .ret v → (res = spec_ExecOk_R v ∧ outs = spec_ExecOk_O v)) (s : Int) (h : loop (fun s : Int => spec_ExecOk_b2 r_ s) s = some x1) : Fin cx spec_ExecOk_X res outs spec_ExecOk_k7 (spec_ExecOk_S5 r_ s) :=
  loopD (I := fun s : Int => Fin cx spec_ExecOk_X res outs spec_ExecOk_k7 (spec_ExecOk_S5 r_ s)) h fun s st h hc => spec_ExecOk_b2_ok r_ res outs x1 hb1 hr1 st hc s h
noncomputable def spec_ExecOk_j1 (r_ : TRun) : Option Bool :=
  ((loop (fun s : Int => spec_ExecOk_b2 r_ s) 0).bind fun x => x.go (fun r => some r) fun s => spec_ExecOk_k6 r_)
theorem spec_ExecOk_j1_ok (r_ : TRun) (r : Bool) (h : spec_ExecOk_j1 r_ = some r) : Fin cx spec_ExecOk_X (spec_ExecOk_R r) (spec_ExecOk_O r) spec_ExecOk_k1 (spec_ExecOk_S1 r_) :=
  (loopJ h fun x hl hr hb => (Fin.seg [[]] [] [1, 3] [(1, 0)] [] .nil (spec_ExecOk_b2_loop r_ _ _ x (fun s e => spec_ExecOk_k6_ok r_ r (hb s e)) (fun v e => ⟨congrArg spec_ExecOk_R (Option.some.inj (hr v e)).symm, congrArg spec_ExecOk_O (Option.some.inj (hr v e)).symm⟩) 0 hl) (by kernel_rfl)))
noncomputable def spec_ExecOk (r_ : TRun) : Option Bool :=
  (((bif decide (r_.Code < 0) then
 some (Exc.ret false)
 else
 (bif decide (r_.Code > 3) then
 some (Exc.ret false)
 else
 ((spec_l1Num r_.Val).bind fun l1Num1 =>
 (bif (!l1Num1) then
 some (Exc.ret false)
 else
 (bif (r_.Code != 0) then
 (bif (r_.Val != 0) then
 some (Exc.ret false)
 else
 (bif decide ((r_.Puts.length : Int) > 0) then
 some (Exc.ret false)
 else
 (bif (r_.Code == 3) then
 (bif decide ((r_.Reads.length : Int) > 0) then
 some (Exc.ret false)
 else
 some (Exc.brk ()))
 else
 some (Exc.brk ()))))
 else
 (bif (r_.Code == 3) then
 (bif decide ((r_.Reads.length : Int) > 0) then
 some (Exc.ret false)
 else
 some (Exc.brk ()))
 else
 some (Exc.brk ()))))))) : Option (Exc Bool Unit)).bind fun x => x.go some fun j => spec_ExecOk_j1 r_)
theorem spec_ExecOk_fin (r_ : TRun) (r : Bool) (h : spec_ExecOk r_ = some r) : Fin cx spec_ExecOk_X (spec_ExecOk_R r) (spec_ExecOk_O r) [.code spec_ExecOk_c] (startS spec_ExecOk_X [.agg (eRun r_)]) :=
  (joinD (I := fun j : Unit => Fin cx spec_ExecOk_X (spec_ExecOk_R r) (spec_ExecOk_O r) spec_ExecOk_k1 (spec_ExecOk_S1 r_)) h (fun j h => spec_ExecOk_j1_ok r_ r h) (fun x h hc1 =>
  (condD h (fun e12 h =>
 (jretD h hc1 fun h => (someD h fun e => (Fin.fin (cx := cx) (X := spec_ExecOk_X) (res := spec_ExecOk_R false) (outs := spec_ExecOk_O false) Try.func32 [[], [(3, { d := some true })], []] [decide (r_.Code < 0) = true] (.cons e12 .nil) (by kernel_rfl)).is (congrArg spec_ExecOk_R e) (congrArg spec_ExecOk_O e)))) (fun e12 h =>
 (condD h (fun e13 h =>
 (jretD h hc1 fun h => (someD h fun e => (Fin.fin (cx := cx) (X := spec_ExecOk_X) (res := spec_ExecOk_R false) (outs := spec_ExecOk_O false) Try.func32 [[], [(3, { d := some false }), (8, { d := some true })], []] [decide (r_.Code < 0) = false, decide (r_.Code > 3) = true] (.cons e12 (.cons e13 .nil)) (by kernel_rfl)).is (congrArg spec_ExecOk_R e) (congrArg spec_ExecOk_O e)))) (fun e13 h =>
 (bindD h fun l1Num1 hl1Num1 h =>
 (condD h (fun e14 h =>
 (jretD h hc1 fun h => (someD h fun e => (Fin.fin (cx := cx) (X := spec_ExecOk_X) (res := spec_ExecOk_R false) (outs := spec_ExecOk_O false) Try.func32 [[], [(3, { d := some false }), (8, { d := some false }), (11, { a := .call [.val [] []] false (spec_l1Num_R l1Num1) (spec_l1Num_O l1Num1) }), (14, { d := some true })], []] [decide (r_.Code < 0) = false, decide (r_.Code > 3) = false, ACalls cx.P 40 [vi r_.Val] (spec_l1Num_R l1Num1) (spec_l1Num_O l1Num1), (!l1Num1) = true] (.cons e12 (.cons e13 (.cons (spec_l1Num_ok r_.Val l1Num1 hl1Num1) (.cons e14 .nil)))) (by kernel_rfl)).is (congrArg spec_ExecOk_R e) (congrArg spec_ExecOk_O e)))) (fun e14 h =>
 (condD h (fun e15 h =>
 (condD h (fun e16 h =>
 (jretD h hc1 fun h => (someD h fun e => (Fin.fin (cx := cx) (X := spec_ExecOk_X) (res := spec_ExecOk_R false) (outs := spec_ExecOk_O false) Try.func32 [[], [(3, { d := some false }), (8, { d := some false }), (11, { a := .call [.val [] []] false (spec_l1Num_R l1Num1) (spec_l1Num_O l1Num1) }), (14, { d := some false }), (18, { d := some true }), (22, { d := some true })], []] [decide (r_.Code < 0) = false, decide (r_.Code > 3) = false, ACalls cx.P 40 [vi r_.Val] (spec_l1Num_R l1Num1) (spec_l1Num_O l1Num1), (!l1Num1) = false, (r_.Code != 0) = true, (r_.Val != 0) = true] (.cons e12 (.cons e13 (.cons (spec_l1Num_ok r_.Val l1Num1 hl1Num1) (.cons e14 (.cons e15 (.cons e16 .nil)))))) (by kernel_rfl)).is (congrArg spec_ExecOk_R e) (congrArg spec_ExecOk_O e)))) (fun e16 h =>
 (condD h (fun e17 h =>
 (jretD h hc1 fun h => (someD h fun e => (Fin.fin (cx := cx) (X := spec_ExecOk_X) (res := spec_ExecOk_R false) (outs := spec_ExecOk_O false) Try.func32 [[], [(3, { d := some false }), (8, { d := some false }), (11, { a := .call [.val [] []] false (spec_l1Num_R l1Num1) (spec_l1Num_O l1Num1) }), (14, { d := some false }), (18, { d := some true }), (22, { d := some false }), (30, { d := some true })], []] [decide (r_.Code < 0) = false, decide (r_.Code > 3) = false, ACalls cx.P 40 [vi r_.Val] (spec_l1Num_R l1Num1) (spec_l1Num_O l1Num1), (!l1Num1) = false, (r_.Code != 0) = true, (r_.Val != 0) = false, decide ((r_.Puts.length : Int) > 0) = true] (.cons e12 (.cons e13 (.cons (spec_l1Num_ok r_.Val l1Num1 hl1Num1) (.cons e14 (.cons e15 (.cons e16 (.cons e17 .nil))))))) (by kernel_rfl)).is (congrArg spec_ExecOk_R e) (congrArg spec_ExecOk_O e)))) (fun e17 h =>
 (condD h (fun e18 h =>
 (condD h (fun e19 h =>
 (jretD h hc1 fun h => (someD h fun e => (Fin.fin (cx := cx) (X := spec_ExecOk_X) (res := spec_ExecOk_R false) (outs := spec_ExecOk_O false) Try.func32 [[], [(3, { d := some false }), (8, { d := some false }), (11, { a := .call [.val [] []] false (spec_l1Num_R l1Num1) (spec_l1Num_O l1Num1) }), (14, { d := some false }), (18, { d := some true }), (22, { d := some false }), (30, { d := some false }), (34, { d := some true }), (40, { d := some true })], []] [decide (r_.Code < 0) = false, decide (r_.Code > 3) = false, ACalls cx.P 40 [vi r_.Val] (spec_l1Num_R l1Num1) (spec_l1Num_O l1Num1), (!l1Num1) = false, (r_.Code != 0) = true, (r_.Val != 0) = false, decide ((r_.Puts.length : Int) > 0) = false, (r_.Code == 3) = true, decide ((r_.Reads.length : Int) > 0) = true] (.cons e12 (.cons e13 (.cons (spec_l1Num_ok r_.Val l1Num1 hl1Num1) (.cons e14 (.cons e15 (.cons e16 (.cons e17 (.cons e18 (.cons e19 .nil))))))))) (by kernel_rfl)).is (congrArg spec_ExecOk_R e) (congrArg spec_ExecOk_O e)))) (fun e19 h =>
 (jbrkD h hc1 fun hI => (Fin.seg [[], [(3, { d := some false }), (8, { d := some false }), (11, { a := .call [.val [] []] false (spec_l1Num_R l1Num1) (spec_l1Num_O l1Num1) }), (14, { d := some false }), (18, { d := some true }), (22, { d := some false }), (30, { d := some false }), (34, { d := some true }), (40, { d := some false })]] [] [1] [(1, 0)] [decide (r_.Code < 0) = false, decide (r_.Code > 3) = false, ACalls cx.P 40 [vi r_.Val] (spec_l1Num_R l1Num1) (spec_l1Num_O l1Num1), (!l1Num1) = false, (r_.Code != 0) = true, (r_.Val != 0) = false, decide ((r_.Puts.length : Int) > 0) = false, (r_.Code == 3) = true, decide ((r_.Reads.length : Int) > 0) = false] (.cons e12 (.cons e13 (.cons (spec_l1Num_ok r_.Val l1Num1 hl1Num1) (.cons e14 (.cons e15 (.cons e16 (.cons e17 (.cons e18 (.cons e19 .nil))))))))) hI (by kernel_rfl)))))) (fun e18 h =>
 (jbrkD h hc1 fun hI => (Fin.seg [[], [(3, { d := some false }), (8, { d := some false }), (11, { a := .call [.val [] []] false (spec_l1Num_R l1Num1) (spec_l1Num_O l1Num1) }), (14, { d := some false }), (18, { d := some true }), (22, { d := some false }), (30, { d := some false }), (34, { d := some false })]] [] [1] [(1, 0)] [decide (r_.Code < 0) = false, decide (r_.Code > 3) = false, ACalls cx.P 40 [vi r_.Val] (spec_l1Num_R l1Num1) (spec_l1Num_O l1Num1), (!l1Num1) = false, (r_.Code != 0) = true, (r_.Val != 0) = false, decide ((r_.Puts.length : Int) > 0) = false, (r_.Code == 3) = false] (.cons e12 (.cons e13 (.cons (spec_l1Num_ok r_.Val l1Num1 hl1Num1) (.cons e14 (.cons e15 (.cons e16 (.cons e17 (.cons e18 .nil)))))))) hI (by kernel_rfl)))))))))) (fun e15 h =>
 (condD h (fun e20 h =>
 (condD h (fun e21 h =>
 (jretD h hc1 fun h => (someD h fun e => (Fin.fin (cx := cx) (X := spec_ExecOk_X) (res := spec_ExecOk_R false) (outs := spec_ExecOk_O false) Try.func32 [[], [(3, { d := some false }), (8, { d := some false }), (11, { a := .call [.val [] []] false (spec_l1Num_R l1Num1) (spec_l1Num_O l1Num1) }), (14, { d := some false }), (18, { d := some false }), (34, { d := some true }), (40, { d := some true })], []] [decide (r_.Code < 0) = false, decide (r_.Code > 3) = false, ACalls cx.P 40 [vi r_.Val] (spec_l1Num_R l1Num1) (spec_l1Num_O l1Num1), (!l1Num1) = false, (r_.Code != 0) = false, (r_.Code == 3) = true, decide ((r_.Reads.length : Int) > 0) = true] (.cons e12 (.cons e13 (.cons (spec_l1Num_ok r_.Val l1Num1 hl1Num1) (.cons e14 (.cons e15 (.cons e20 (.cons e21 .nil))))))) (by kernel_rfl)).is (congrArg spec_ExecOk_R e) (congrArg spec_ExecOk_O e)))) (fun e21 h =>
 (jbrkD h hc1 fun hI => (Fin.seg [[], [(3, { d := some false }), (8, { d := some false }), (11, { a := .call [.val [] []] false (spec_l1Num_R l1Num1) (spec_l1Num_O l1Num1) }), (14, { d := some false }), (18, { d := some false }), (34, { d := some true }), (40, { d := some false })]] [] [1] [(1, 0)] [decide (r_.Code < 0) = false, decide (r_.Code > 3) = false, ACalls cx.P 40 [vi r_.Val] (spec_l1Num_R l1Num1) (spec_l1Num_O l1Num1), (!l1Num1) = false, (r_.Code != 0) = false, (r_.Code == 3) = true, decide ((r_.Reads.length : Int) > 0) = false] (.cons e12 (.cons e13 (.cons (spec_l1Num_ok r_.Val l1Num1 hl1Num1) (.cons e14 (.cons e15 (.cons e20 (.cons e21 .nil))))))) hI (by kernel_rfl)))))) (fun e20 h =>
 (jbrkD h hc1 fun hI => (Fin.seg [[], [(3, { d := some false }), (8, { d := some false }), (11, { a := .call [.val [] []] false (spec_l1Num_R l1Num1) (spec_l1Num_O l1Num1) }), (14, { d := some false }), (18, { d := some false }), (34, { d := some false })]] [] [1] [(1, 0)] [decide (r_.Code < 0) = false, decide (r_.Code > 3) = false, ACalls cx.P 40 [vi r_.Val] (spec_l1Num_R l1Num1) (spec_l1Num_O l1Num1), (!l1Num1) = false, (r_.Code != 0) = false, (r_.Code == 3) = false] (.cons e12 (.cons e13 (.cons (spec_l1Num_ok r_.Val l1Num1 hl1Num1) (.cons e14 (.cons e15 (.cons e20 .nil)))))) hI (by kernel_rfl))))))))))))))))
theorem spec_ExecOk_ok (r_ : TRun) (r : Bool) (h : spec_ExecOk r_ = some r) : ACalls cx.P 32 [.agg (eRun r_)] (spec_ExecOk_R r) (spec_ExecOk_O r) :=
  ACalls.of (cx := cx) (X := spec_ExecOk_X) (c := spec_ExecOk_c) Try.func32 (by kernel_rfl) (by kernel_rfl) (by kernel_rfl) (spec_ExecOk_fin r_ r h)

/-! ### spec_CertEntry -/
noncomputable def spec_CertEntry_c : Code := bodyOf Try.f18
noncomputable def spec_CertEntry_X : Sig := { f := 18, fn := Try.f18, rms := [.val [] []], oms := [none] }
noncomputable def spec_CertEntry_R (r : Bool) : V := .b r
noncomputable def spec_CertEntry_O (r : Bool) : List (Option V) := [none]
noncomputable def spec_CertEntry (e_ : TEntry) : Option Bool :=
  (bif e_.None then
 (bif (([e_.Req.Who, e_.Req.Seq] : List Int) == [0, 0]) then
 ((spec_ExecSame e_.Run (TRun.mk [] [] 0 0)).bind fun execSame =>
 some execSame)
 else
 some false)
 else
 ((spec_l5Req e_.Req).bind fun l5Req =>
 (bif l5Req then
 ((spec_ExecOk e_.Run).bind fun execOk =>
 (bif execOk then
 some (e_.Run.Code != 3)
 else
 some false))
 else
 some false)))
theorem spec_CertEntry_fin (e_ : TEntry) (r : Bool) (h : spec_CertEntry e_ = some r) : Fin cx spec_CertEntry_X (spec_CertEntry_R r) (spec_CertEntry_O r) [.code spec_CertEntry_c] (startS spec_CertEntry_X [.agg (eEntry e_)]) :=
  (condD h (fun e1 h =>
 (condD h (fun e2 h =>
 (bindD h fun execSame hexecSame h =>
 (someD h fun e => (Fin.fin (cx := cx) (X := spec_CertEntry_X) (res := spec_CertEntry_R execSame) (outs := spec_CertEntry_O execSame) Try.func18 [[], [(1, { d := some true })], [(4, { d := some true }), (8, { a := .call [.val [some 2, some 2, none, none] [], .val [some 2, some 2, none, none] []] false (spec_ExecSame_R execSame) (spec_ExecSame_O execSame) })]] [e_.None = true, (([e_.Req.Who, e_.Req.Seq] : List Int) == [0, 0]) = true, ACalls cx.P 30 [.agg (eRun e_.Run), .agg (eRun (TRun.mk [] [] 0 0))] (spec_ExecSame_R execSame) (spec_ExecSame_O execSame)] (.cons e1 (.cons e2 (.cons (spec_ExecSame_ok e_.Run (TRun.mk [] [] 0 0) execSame hexecSame) .nil))) (by kernel_rfl)).is (congrArg spec_CertEntry_R e) (congrArg spec_CertEntry_O e)))) (fun e2 h =>
 (someD h fun e => (Fin.fin (cx := cx) (X := spec_CertEntry_X) (res := spec_CertEntry_R false) (outs := spec_CertEntry_O false) Try.func18 [[], [(1, { d := some true })], [(4, { d := some false })]] [e_.None = true, (([e_.Req.Who, e_.Req.Seq] : List Int) == [0, 0]) = false] (.cons e1 (.cons e2 .nil)) (by kernel_rfl)).is (congrArg spec_CertEntry_R e) (congrArg spec_CertEntry_O e))))) (fun e1 h =>
 (bindD h fun l5Req hl5Req h =>
 (condD h (fun e3 h =>
 (bindD h fun execOk hexecOk h =>
 (condD h (fun e4 h =>
 (someD h fun e => (Fin.fin (cx := cx) (X := spec_CertEntry_X) (res := spec_CertEntry_R (e_.Run.Code != 3)) (outs := spec_CertEntry_O (e_.Run.Code != 3)) Try.func18 [[], [(1, { d := some false })], [(2, { a := .call [.val [] []] false (spec_l5Req_R l5Req) (spec_l5Req_O l5Req) }), (3, { d := some true }), (6, { a := .call [.val [some 2, some 2, none, none] []] false (spec_ExecOk_R execOk) (spec_ExecOk_O execOk) }), (8, { d := some true })]] [e_.None = false, ACalls cx.P 31 [.agg (eReq e_.Req)] (spec_l5Req_R l5Req) (spec_l5Req_O l5Req), l5Req = true, ACalls cx.P 32 [.agg (eRun e_.Run)] (spec_ExecOk_R execOk) (spec_ExecOk_O execOk), execOk = true] (.cons e1 (.cons (spec_l5Req_ok e_.Req l5Req hl5Req) (.cons e3 (.cons (spec_ExecOk_ok e_.Run execOk hexecOk) (.cons e4 .nil))))) (by kernel_rfl)).is (congrArg spec_CertEntry_R e) (congrArg spec_CertEntry_O e))) (fun e4 h =>
 (someD h fun e => (Fin.fin (cx := cx) (X := spec_CertEntry_X) (res := spec_CertEntry_R false) (outs := spec_CertEntry_O false) Try.func18 [[], [(1, { d := some false })], [(2, { a := .call [.val [] []] false (spec_l5Req_R l5Req) (spec_l5Req_O l5Req) }), (3, { d := some true }), (6, { a := .call [.val [some 2, some 2, none, none] []] false (spec_ExecOk_R execOk) (spec_ExecOk_O execOk) }), (8, { d := some false })]] [e_.None = false, ACalls cx.P 31 [.agg (eReq e_.Req)] (spec_l5Req_R l5Req) (spec_l5Req_O l5Req), l5Req = true, ACalls cx.P 32 [.agg (eRun e_.Run)] (spec_ExecOk_R execOk) (spec_ExecOk_O execOk), execOk = false] (.cons e1 (.cons (spec_l5Req_ok e_.Req l5Req hl5Req) (.cons e3 (.cons (spec_ExecOk_ok e_.Run execOk hexecOk) (.cons e4 .nil))))) (by kernel_rfl)).is (congrArg spec_CertEntry_R e) (congrArg spec_CertEntry_O e)))))) (fun e3 h =>
 (someD h fun e => (Fin.fin (cx := cx) (X := spec_CertEntry_X) (res := spec_CertEntry_R false) (outs := spec_CertEntry_O false) Try.func18 [[], [(1, { d := some false })], [(2, { a := .call [.val [] []] false (spec_l5Req_R l5Req) (spec_l5Req_O l5Req) }), (3, { d := some false })]] [e_.None = false, ACalls cx.P 31 [.agg (eReq e_.Req)] (spec_l5Req_R l5Req) (spec_l5Req_O l5Req), l5Req = false] (.cons e1 (.cons (spec_l5Req_ok e_.Req l5Req hl5Req) (.cons e3 .nil))) (by kernel_rfl)).is (congrArg spec_CertEntry_R e) (congrArg spec_CertEntry_O e)))))))
theorem spec_CertEntry_ok (e_ : TEntry) (r : Bool) (h : spec_CertEntry e_ = some r) : ACalls cx.P 18 [.agg (eEntry e_)] (spec_CertEntry_R r) (spec_CertEntry_O r) :=
  ACalls.of (cx := cx) (X := spec_CertEntry_X) (c := spec_CertEntry_c) Try.func18 (by kernel_rfl) (by kernel_rfl) (by kernel_rfl) (spec_CertEntry_fin e_ r h)

/-! ### spec_l8Known -/
noncomputable def spec_l8Known_c : Code := bodyOf Try.f10
noncomputable def spec_l8Known_X : Sig := { f := 10, fn := Try.f10, rms := [.val [] []], oms := [none] }
noncomputable def spec_l8Known_R (r : Bool) : V := .b r
noncomputable def spec_l8Known_O (r : Bool) : List (Option V) := [none]
noncomputable def spec_l8Known_k1 : List Item := posI 2000 4 [false, false] [.code spec_l8Known_c]
noncomputable def spec_l8Known_S1 : St := ⟨(bs 19 []), [some []]⟩
noncomputable def spec_l8Known_k2 : Option Bool :=
  some true
theorem spec_l8Known_k2_ok (r : Bool) (h : spec_l8Known_k2 = some r) : Fin cx spec_l8Known_X (spec_l8Known_R r) (spec_l8Known_O r) spec_l8Known_k1 (spec_l8Known_S1) :=
  (someD h fun e => (Fin.fin (cx := cx) (X := spec_l8Known_X) (res := spec_l8Known_R true) (outs := spec_l8Known_O true) Try.func10 [[]] [] .nil (by kernel_rfl)).is (congrArg spec_l8Known_R e) (congrArg spec_l8Known_O e))
noncomputable def spec_l8Known_k3 : List Item := posI 2000 3 [false] [.code spec_l8Known_c]
noncomputable def spec_l8Known_S2 (list : List TEntry) (i : Int) : St := ⟨(vsl 7 eEntry list :: (bs 2 (vi i :: (bs 15 [])))), [some []]⟩
noncomputable def spec_l8Known_b1 (list : List TEntry) (i : Int) : Option (Stp Bool Int Unit) :=
  (bif decide (i < (list.length : Int)) then
 ((idx list i).bind fun entry =>
 ((spec_CertEntry entry).bind fun certEntry =>
 (bif (!certEntry) then
 some (Stp.ret false)
 else
 some (Stp.nxt (w64 (i + 1))))))
 else
 some (Stp.brk ()))
theorem spec_l8Known_b1_ok (list : List TEntry) (res : V) (outs : List (Option V)) (x1 : Exc Bool Unit) (hb1 : ∀ s : Unit, x1 = .brk s → Fin cx spec_l8Known_X res outs spec_l8Known_k1 (spec_l8Known_S1)) (hr1 : ∀ v : Bool, x1 = .ret v → (res = spec_l8Known_R v ∧ outs = spec_l8Known_O v)) (st1 : Stp Bool Int Unit) (hc1 : Cont x1 (fun s : Int => Fin cx spec_l8Known_X res outs spec_l8Known_k3 (spec_l8Known_S2 list s)) st1) (i : Int) (h : spec_l8Known_b1 list i = some st1) : Fin cx spec_l8Known_X res outs spec_l8Known_k3 (spec_l8Known_S2 list i) :=
  (condD h (fun e2 h =>
 (bindD h fun entry hentry h =>
 (bindD h fun certEntry hcertEntry h =>
 (condD h (fun e3 h =>
 (retD h hc1 fun e => (Fin.fin (cx := cx) (X := spec_l8Known_X) (res := spec_l8Known_R false) (outs := spec_l8Known_O false) Try.func10 [[(3, { d := some true })], [(2, { a := .row (eEntry entry) }), (4, { a := .call [.val [none, none, none, some 2, some 2, none, none] []] false (spec_CertEntry_R certEntry) (spec_CertEntry_O certEntry) }), (5, { d := some true })], []] [decide (i < (list.length : Int)) = true, (0 : Int) ≤ i, i < ((list.length : Nat) : Int), (list.map eEntry)[i.toNat]? = some (eEntry entry), ACalls cx.P 18 [.agg (eEntry entry)] (spec_CertEntry_R certEntry) (spec_CertEntry_O certEntry), (!certEntry) = true] (.cons e2 (.cons (idx0 hentry) (.cons (idx1 hentry) (.cons (map_idx hentry) (.cons (spec_CertEntry_ok entry certEntry hcertEntry) (.cons e3 .nil)))))) (by kernel_rfl)).is (hr1 _ e).1 (hr1 _ e).2)) (fun e3 h =>
 (nxtD h hc1 fun hI => (Fin.seg [[(3, { d := some true })], [(2, { a := .row (eEntry entry) }), (4, { a := .call [.val [none, none, none, some 2, some 2, none, none] []] false (spec_CertEntry_R certEntry) (spec_CertEntry_O certEntry) }), (5, { d := some false })], []] [] [0, 3] [] [decide (i < (list.length : Int)) = true, (0 : Int) ≤ i, i < ((list.length : Nat) : Int), (list.map eEntry)[i.toNat]? = some (eEntry entry), ACalls cx.P 18 [.agg (eEntry entry)] (spec_CertEntry_R certEntry) (spec_CertEntry_O certEntry), (!certEntry) = false] (.cons e2 (.cons (idx0 hentry) (.cons (idx1 hentry) (.cons (map_idx hentry) (.cons (spec_CertEntry_ok entry certEntry hcertEntry) (.cons e3 .nil)))))) hI (by kernel_rfl)))))))) (fun e2 h =>
 (brkD h hc1 fun e => (Fin.seg [[(3, { d := some false })]] [] [] [] [decide (i < (list.length : Int)) = false] (.cons e2 .nil) (hb1 _ e) (by kernel_rfl)))))
theorem spec_l8Known_b1_loop (list : List TEntry) (res : V) (outs : List (Option V)) (x1 : Exc Bool Unit) (hb1 : ∀ s : Unit, x1 = .brk s → Fin cx spec_l8Known_X res outs spec_l8Known_k1 (spec_l8Known_S1)) (hr1 : ∀ v : Bool, x1 = .ret v → (res = spec_l8Known_R v ∧ outs = spec_l8Known_O v)) (s : Int) (h : loop (fun s : Int => spec_l8Known_b1 list s) s = some x1) : Fin cx spec_l8Known_X res outs spec_l8Known_k3 (spec_l8Known_S2 list s) :=
  loopD (I := fun s : Int => Fin cx spec_l8Known_X res outs spec_l8Known_k3 (spec_l8Known_S2 list s)) h fun s st h hc => spec_l8Known_b1_ok list res outs x1 hb1 hr1 st hc s h
noncomputable def spec_l8Known (list : List TEntry) : Option Bool :=
  (bif decide ((list.length : Int) > 40) then
 some false
 else
 ((loop (fun s : Int => spec_l8Known_b1 list s) 0).bind fun x => x.go (fun r => some r) fun s => spec_l8Known_k2))
theorem spec_l8Known_fin (list : List TEntry) (r : Bool) (h : spec_l8Known list = some r) : Fin cx spec_l8Known_X (spec_l8Known_R r) (spec_l8Known_O r) [.code spec_l8Known_c] (startS spec_l8Known_X [vsl 7 eEntry list]) :=
  (condD h (fun e1 h =>
 (someD h fun e => (Fin.fin (cx := cx) (X := spec_l8Known_X) (res := spec_l8Known_R false) (outs := spec_l8Known_O false) Try.func10 [[], [(2, { d := some true })], []] [decide ((list.length : Int) > 40) = true] (.cons e1 .nil) (by kernel_rfl)).is (congrArg spec_l8Known_R e) (congrArg spec_l8Known_O e))) (fun e1 h =>
 (loopJ h fun x hl hr hb => (Fin.seg [[], [(2, { d := some false })], []] [] [0, 3] [] [decide ((list.length : Int) > 40) = false] (.cons e1 .nil) (spec_l8Known_b1_loop list _ _ x (fun s e => spec_l8Known_k2_ok r (hb s e)) (fun v e => ⟨congrArg spec_l8Known_R (Option.some.inj (hr v e)).symm, congrArg spec_l8Known_O (Option.some.inj (hr v e)).symm⟩) 0 hl) (by kernel_rfl)))))
theorem spec_l8Known_ok (list : List TEntry) (r : Bool) (h : spec_l8Known list = some r) : ACalls cx.P 10 [vsl 7 eEntry list] (spec_l8Known_R r) (spec_l8Known_O r) :=
  ACalls.of (cx := cx) (X := spec_l8Known_X) (c := spec_l8Known_c) Try.func10 (by kernel_rfl) (by kernel_rfl) (by kernel_rfl) (spec_l8Known_fin list r h)


end Go.Proofs.Ytidcofmgigokcaa
