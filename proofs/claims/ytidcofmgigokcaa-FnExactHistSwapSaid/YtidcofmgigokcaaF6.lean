/- Functions of the program, and that their calls come to this. -/
import Derived.Test.YtidcofmgigokcaaF5
set_option linter.unusedVariables false
set_option linter.unusedSimpArgs false
namespace Go.Proofs.Ytidcofmgigokcaa
open Go

/-! ### laws_eqEntryS -/
noncomputable def laws_eqEntryS_c : Code := bodyOf Try.f8
noncomputable def laws_eqEntryS_X : Sig := { f := 8, fn := Try.f8, rms := [.val [] []], oms := [none, none] }
noncomputable def laws_eqEntryS_R (r : Bool) : V := .b r
noncomputable def laws_eqEntryS_O (r : Bool) : List (Option V) := [none, none]
noncomputable def laws_eqEntryS_k1 : List Item := posI 2000 4 [false, false] [.code laws_eqEntryS_c]
noncomputable def laws_eqEntryS_S1 : St := ⟨(bs 27 []), [some []]⟩
noncomputable def laws_eqEntryS_k2 : Option Bool :=
  some true
theorem laws_eqEntryS_k2_ok (r : Bool) (h : laws_eqEntryS_k2 = some r) : Fin cx laws_eqEntryS_X (laws_eqEntryS_R r) (laws_eqEntryS_O r) laws_eqEntryS_k1 (laws_eqEntryS_S1) :=
  (someD h fun e => (Fin.fin (cx := cx) (X := laws_eqEntryS_X) (res := laws_eqEntryS_R true) (outs := laws_eqEntryS_O true) Try.func8 [[]] [] .nil (by kernel_rfl)).is (congrArg laws_eqEntryS_R e) (congrArg laws_eqEntryS_O e))
noncomputable def laws_eqEntryS_k3 : List Item := posI 2000 3 [false] [.code laws_eqEntryS_c]
noncomputable def laws_eqEntryS_S2 (a : List TEntry) (b : List TEntry) (i : Int) : St := ⟨(vsl 7 eEntry a :: (vsl 7 eEntry b :: (bs 3 (vi i :: (bs 21 []))))), [some []]⟩
noncomputable def laws_eqEntryS_b1 (a : List TEntry) (b : List TEntry) (i : Int) : Option (Stp Bool Int Unit) :=
  (bif decide (i < (a.length : Int)) then
 ((idx a i).bind fun entry =>
 ((idx b i).bind fun entry1 =>
 ((laws_eqEntry entry entry1).bind fun eqEntry =>
 (bif (!eqEntry) then
 some (Stp.ret false)
 else
 some (Stp.nxt (w64 (i + 1)))))))
 else
 some (Stp.brk ()))
theorem laws_eqEntryS_b1_ok (a : List TEntry) (b : List TEntry) (res : V) (outs : List (Option V)) (x1 : Exc Bool Unit) (hb1 : ∀ s : Unit, x1 = .brk s → Fin cx laws_eqEntryS_X res outs laws_eqEntryS_k1 (laws_eqEntryS_S1)) (hr1 : ∀ v : Bool, x1 = .ret v → (res = laws_eqEntryS_R v ∧ outs = laws_eqEntryS_O v)) (st1 : Stp Bool Int Unit) (hc1 : Cont x1 (fun s : Int => Fin cx laws_eqEntryS_X res outs laws_eqEntryS_k3 (laws_eqEntryS_S2 a b s)) st1) (i : Int) (h : laws_eqEntryS_b1 a b i = some st1) : Fin cx laws_eqEntryS_X res outs laws_eqEntryS_k3 (laws_eqEntryS_S2 a b i) :=
  (condD h (fun e2 h =>
 (bindD h fun entry hentry h =>
 (bindD h fun entry1 hentry1 h =>
 (bindD h fun eqEntry heqEntry h =>
 (condD h (fun e3 h =>
 (retD h hc1 fun e => (Fin.fin (cx := cx) (X := laws_eqEntryS_X) (res := laws_eqEntryS_R false) (outs := laws_eqEntryS_O false) Try.func8 [[(3, { d := some true })], [(2, { a := .row (eEntry entry) }), (6, { a := .row (eEntry entry1) }), (8, { a := .call [.val [none, none, none, some 2, some 2, none, none] [], .val [none, none, none, some 2, some 2, none, none] []] false (laws_eqEntry_R eqEntry) (laws_eqEntry_O eqEntry) }), (9, { d := some true })], []] [decide (i < (a.length : Int)) = true, (0 : Int) ≤ i, i < ((a.length : Nat) : Int), (a.map eEntry)[i.toNat]? = some (eEntry entry), (0 : Int) ≤ i, i < ((b.length : Nat) : Int), (b.map eEntry)[i.toNat]? = some (eEntry entry1), ACalls cx.P 16 [.agg (eEntry entry), .agg (eEntry entry1)] (laws_eqEntry_R eqEntry) (laws_eqEntry_O eqEntry), (!eqEntry) = true] (.cons e2 (.cons (idx0 hentry) (.cons (idx1 hentry) (.cons (map_idx hentry) (.cons (idx0 hentry1) (.cons (idx1 hentry1) (.cons (map_idx hentry1) (.cons (laws_eqEntry_ok entry entry1 eqEntry heqEntry) (.cons e3 .nil))))))))) (by kernel_rfl)).is (hr1 _ e).1 (hr1 _ e).2)) (fun e3 h =>
 (nxtD h hc1 fun hI => (Fin.seg [[(3, { d := some true })], [(2, { a := .row (eEntry entry) }), (6, { a := .row (eEntry entry1) }), (8, { a := .call [.val [none, none, none, some 2, some 2, none, none] [], .val [none, none, none, some 2, some 2, none, none] []] false (laws_eqEntry_R eqEntry) (laws_eqEntry_O eqEntry) }), (9, { d := some false })], []] [] [0, 1, 5] [] [decide (i < (a.length : Int)) = true, (0 : Int) ≤ i, i < ((a.length : Nat) : Int), (a.map eEntry)[i.toNat]? = some (eEntry entry), (0 : Int) ≤ i, i < ((b.length : Nat) : Int), (b.map eEntry)[i.toNat]? = some (eEntry entry1), ACalls cx.P 16 [.agg (eEntry entry), .agg (eEntry entry1)] (laws_eqEntry_R eqEntry) (laws_eqEntry_O eqEntry), (!eqEntry) = false] (.cons e2 (.cons (idx0 hentry) (.cons (idx1 hentry) (.cons (map_idx hentry) (.cons (idx0 hentry1) (.cons (idx1 hentry1) (.cons (map_idx hentry1) (.cons (laws_eqEntry_ok entry entry1 eqEntry heqEntry) (.cons e3 .nil))))))))) hI (by kernel_rfl))))))))) (fun e2 h =>
 (brkD h hc1 fun e => (Fin.seg [[(3, { d := some false })]] [] [] [] [decide (i < (a.length : Int)) = false] (.cons e2 .nil) (hb1 _ e) (by kernel_rfl)))))
theorem laws_eqEntryS_b1_loop (a : List TEntry) (b : List TEntry) (res : V) (outs : List (Option V)) (x1 : Exc Bool Unit) (hb1 : ∀ s : Unit, x1 = .brk s → Fin cx laws_eqEntryS_X res outs laws_eqEntryS_k1 (laws_eqEntryS_S1)) (hr1 : ∀ v : Bool, x1 = .ret v → (res = laws_eqEntryS_R v ∧ outs = laws_eqEntryS_O v)) (s : Int) (h : loop (fun s : Int => laws_eqEntryS_b1 a b s) s = some x1) : Fin cx laws_eqEntryS_X res outs laws_eqEntryS_k3 (laws_eqEntryS_S2 a b s) :=
  loopD (I := fun s : Int => Fin cx laws_eqEntryS_X res outs laws_eqEntryS_k3 (laws_eqEntryS_S2 a b s)) h fun s st h hc => laws_eqEntryS_b1_ok a b res outs x1 hb1 hr1 st hc s h
noncomputable def laws_eqEntryS (a : List TEntry) (b : List TEntry) : Option Bool :=
  (bif ((a.length : Int) != (b.length : Int)) then
 some false
 else
 ((loop (fun s : Int => laws_eqEntryS_b1 a b s) 0).bind fun x => x.go (fun r => some r) fun s => laws_eqEntryS_k2))
theorem laws_eqEntryS_fin (a : List TEntry) (b : List TEntry) (r : Bool) (h : laws_eqEntryS a b = some r) : Fin cx laws_eqEntryS_X (laws_eqEntryS_R r) (laws_eqEntryS_O r) [.code laws_eqEntryS_c] (startS laws_eqEntryS_X [vsl 7 eEntry a, vsl 7 eEntry b]) :=
  (condD h (fun e1 h =>
 (someD h fun e => (Fin.fin (cx := cx) (X := laws_eqEntryS_X) (res := laws_eqEntryS_R false) (outs := laws_eqEntryS_O false) Try.func8 [[], [(4, { d := some true })], []] [((a.length : Int) != (b.length : Int)) = true] (.cons e1 .nil) (by kernel_rfl)).is (congrArg laws_eqEntryS_R e) (congrArg laws_eqEntryS_O e))) (fun e1 h =>
 (loopJ h fun x hl hr hb => (Fin.seg [[], [(4, { d := some false })], []] [] [0, 1, 5] [] [((a.length : Int) != (b.length : Int)) = false] (.cons e1 .nil) (laws_eqEntryS_b1_loop a b _ _ x (fun s e => laws_eqEntryS_k2_ok r (hb s e)) (fun v e => ⟨congrArg laws_eqEntryS_R (Option.some.inj (hr v e)).symm, congrArg laws_eqEntryS_O (Option.some.inj (hr v e)).symm⟩) 0 hl) (by kernel_rfl)))))
theorem laws_eqEntryS_ok (a : List TEntry) (b : List TEntry) (r : Bool) (h : laws_eqEntryS a b = some r) : ACalls cx.P 8 [vsl 7 eEntry a, vsl 7 eEntry b] (laws_eqEntryS_R r) (laws_eqEntryS_O r) :=
  ACalls.of (cx := cx) (X := laws_eqEntryS_X) (c := laws_eqEntryS_c) Try.func8 (by kernel_rfl) (by kernel_rfl) (by kernel_rfl) (laws_eqEntryS_fin a b r h)

/-! ### laws_FnExactHistSwap -/
noncomputable def laws_FnExactHistSwap_c : Code := bodyOf Try.f3
noncomputable def laws_FnExactHistSwap_X : Sig := { f := 3, fn := Try.f3, rms := [.val [] []], oms := [none, none] }
noncomputable def laws_FnExactHistSwap_R (r : Bool) : V := .b r
noncomputable def laws_FnExactHistSwap_O (r : Bool) : List (Option V) := [none, none]
noncomputable def laws_FnExactHistSwap (aList : List TEntry) (aAt : Int) : Option Bool :=
  ((laws_szEntryS aList 1048576).bind fun szEntryS =>
 (bif decide (szEntryS < 0) then
 some true
 else
 ((laws_toEntryS aList).bind fun toEntryS =>
 ((spec_HistSwap toEntryS aAt).bind fun histSwap =>
 ((laws_toEntryS aList).bind fun toEntryS1 =>
 ((impl_HistSwap toEntryS1 aAt).bind fun histSwap1 =>
 (bif (!(histSwap1 == histSwap)) then
 some false
 else
 ((laws_toEntryS aList).bind fun toEntryS2 =>
 ((laws_eqEntryS toEntryS1 toEntryS2).bind fun eqEntryS =>
 (bif (!eqEntryS) then
 some false
 else
 some true))))))))))
theorem laws_FnExactHistSwap_fin (aList : List TEntry) (aAt : Int) (r : Bool) (h : laws_FnExactHistSwap aList aAt = some r) : Fin cx laws_FnExactHistSwap_X (laws_FnExactHistSwap_R r) (laws_FnExactHistSwap_O r) [.code laws_FnExactHistSwap_c] (startS laws_FnExactHistSwap_X [vsl 7 eEntry aList, vi aAt]) :=
  (bindD h fun szEntryS hszEntryS h =>
 (condD h (fun e1 h =>
 (someD h fun e => (Fin.fin (cx := cx) (X := laws_FnExactHistSwap_X) (res := laws_FnExactHistSwap_R true) (outs := laws_FnExactHistSwap_O true) Try.func3 [[], [], [(2, { a := .call [.val [some 7] [], .val [] []] false (laws_szEntryS_R szEntryS) (laws_szEntryS_O szEntryS) })], [(1, { d := some true })], []] [ACalls cx.P 4 [vsl 7 eEntry aList, vi 1048576] (laws_szEntryS_R szEntryS) (laws_szEntryS_O szEntryS), decide (szEntryS < 0) = true] (.cons (laws_szEntryS_ok aList 1048576 szEntryS hszEntryS) (.cons e1 .nil)) (by kernel_rfl)).is (congrArg laws_FnExactHistSwap_R e) (congrArg laws_FnExactHistSwap_O e))) (fun e1 h =>
 (bindD h fun toEntryS htoEntryS h =>
 (bindD h fun histSwap hhistSwap h =>
 (bindD h fun toEntryS1 htoEntryS1 h =>
 (bindD h fun histSwap1 hhistSwap1 h =>
 (condD h (fun e2 h =>
 (someD h fun e => (Fin.fin (cx := cx) (X := laws_FnExactHistSwap_X) (res := laws_FnExactHistSwap_R false) (outs := laws_FnExactHistSwap_O false) Try.func3 [[], [], [(2, { a := .call [.val [some 7] [], .val [] []] false (laws_szEntryS_R szEntryS) (laws_szEntryS_O szEntryS) })], [(1, { d := some false })], [(1, { a := .call [.val [some 7] []] false (laws_toEntryS_R toEntryS) (laws_toEntryS_O toEntryS) }), (3, { a := .call [.val [some 7] [], .val [] []] false (spec_HistSwap_R histSwap) (spec_HistSwap_O histSwap) })], [(1, { a := .call [.val [some 7] []] false (laws_toEntryS_R toEntryS1) (laws_toEntryS_O toEntryS1) })], [(2, { a := .call [.val [some 7] [], .val [] []] false (impl_HistSwap_R histSwap1) (impl_HistSwap_O histSwap1) })], [(2, { d := some true })], []] [ACalls cx.P 4 [vsl 7 eEntry aList, vi 1048576] (laws_szEntryS_R szEntryS) (laws_szEntryS_O szEntryS), decide (szEntryS < 0) = false, ACalls cx.P 6 [vsl 7 eEntry aList] (laws_toEntryS_R toEntryS) (laws_toEntryS_O toEntryS), ACalls cx.P 5 [vsl 7 eEntry toEntryS, vi aAt] (spec_HistSwap_R histSwap) (spec_HistSwap_O histSwap), ACalls cx.P 6 [vsl 7 eEntry aList] (laws_toEntryS_R toEntryS1) (laws_toEntryS_O toEntryS1), ACalls cx.P 7 [vsl 7 eEntry toEntryS1, vi aAt] (impl_HistSwap_R histSwap1) (impl_HistSwap_O histSwap1), (!(histSwap1 == histSwap)) = true] (.cons (laws_szEntryS_ok aList 1048576 szEntryS hszEntryS) (.cons e1 (.cons (laws_toEntryS_ok aList toEntryS htoEntryS) (.cons (spec_HistSwap_ok toEntryS aAt histSwap hhistSwap) (.cons (laws_toEntryS_ok aList toEntryS1 htoEntryS1) (.cons (impl_HistSwap_ok toEntryS1 aAt histSwap1 hhistSwap1) (.cons e2 .nil))))))) (by kernel_rfl)).is (congrArg laws_FnExactHistSwap_R e) (congrArg laws_FnExactHistSwap_O e))) (fun e2 h =>
 (bindD h fun toEntryS2 htoEntryS2 h =>
 (bindD h fun eqEntryS heqEntryS h =>
 (condD h (fun e3 h =>
 (someD h fun e => (Fin.fin (cx := cx) (X := laws_FnExactHistSwap_X) (res := laws_FnExactHistSwap_R false) (outs := laws_FnExactHistSwap_O false) Try.func3 [[], [], [(2, { a := .call [.val [some 7] [], .val [] []] false (laws_szEntryS_R szEntryS) (laws_szEntryS_O szEntryS) })], [(1, { d := some false })], [(1, { a := .call [.val [some 7] []] false (laws_toEntryS_R toEntryS) (laws_toEntryS_O toEntryS) }), (3, { a := .call [.val [some 7] [], .val [] []] false (spec_HistSwap_R histSwap) (spec_HistSwap_O histSwap) })], [(1, { a := .call [.val [some 7] []] false (laws_toEntryS_R toEntryS1) (laws_toEntryS_O toEntryS1) })], [(2, { a := .call [.val [some 7] [], .val [] []] false (impl_HistSwap_R histSwap1) (impl_HistSwap_O histSwap1) })], [(2, { d := some false })], [(2, { a := .call [.val [some 7] []] false (laws_toEntryS_R toEntryS2) (laws_toEntryS_O toEntryS2) }), (3, { a := .call [.val [some 7] [], .val [some 7] []] false (laws_eqEntryS_R eqEntryS) (laws_eqEntryS_O eqEntryS) }), (4, { d := some true })], []] [ACalls cx.P 4 [vsl 7 eEntry aList, vi 1048576] (laws_szEntryS_R szEntryS) (laws_szEntryS_O szEntryS), decide (szEntryS < 0) = false, ACalls cx.P 6 [vsl 7 eEntry aList] (laws_toEntryS_R toEntryS) (laws_toEntryS_O toEntryS), ACalls cx.P 5 [vsl 7 eEntry toEntryS, vi aAt] (spec_HistSwap_R histSwap) (spec_HistSwap_O histSwap), ACalls cx.P 6 [vsl 7 eEntry aList] (laws_toEntryS_R toEntryS1) (laws_toEntryS_O toEntryS1), ACalls cx.P 7 [vsl 7 eEntry toEntryS1, vi aAt] (impl_HistSwap_R histSwap1) (impl_HistSwap_O histSwap1), (!(histSwap1 == histSwap)) = false, ACalls cx.P 6 [vsl 7 eEntry aList] (laws_toEntryS_R toEntryS2) (laws_toEntryS_O toEntryS2), ACalls cx.P 8 [vsl 7 eEntry toEntryS1, vsl 7 eEntry toEntryS2] (laws_eqEntryS_R eqEntryS) (laws_eqEntryS_O eqEntryS), (!eqEntryS) = true] (.cons (laws_szEntryS_ok aList 1048576 szEntryS hszEntryS) (.cons e1 (.cons (laws_toEntryS_ok aList toEntryS htoEntryS) (.cons (spec_HistSwap_ok toEntryS aAt histSwap hhistSwap) (.cons (laws_toEntryS_ok aList toEntryS1 htoEntryS1) (.cons (impl_HistSwap_ok toEntryS1 aAt histSwap1 hhistSwap1) (.cons e2 (.cons (laws_toEntryS_ok aList toEntryS2 htoEntryS2) (.cons (laws_eqEntryS_ok toEntryS1 toEntryS2 eqEntryS heqEntryS) (.cons e3 .nil)))))))))) (by kernel_rfl)).is (congrArg laws_FnExactHistSwap_R e) (congrArg laws_FnExactHistSwap_O e))) (fun e3 h =>
 (someD h fun e => (Fin.fin (cx := cx) (X := laws_FnExactHistSwap_X) (res := laws_FnExactHistSwap_R true) (outs := laws_FnExactHistSwap_O true) Try.func3 [[], [], [(2, { a := .call [.val [some 7] [], .val [] []] false (laws_szEntryS_R szEntryS) (laws_szEntryS_O szEntryS) })], [(1, { d := some false })], [(1, { a := .call [.val [some 7] []] false (laws_toEntryS_R toEntryS) (laws_toEntryS_O toEntryS) }), (3, { a := .call [.val [some 7] [], .val [] []] false (spec_HistSwap_R histSwap) (spec_HistSwap_O histSwap) })], [(1, { a := .call [.val [some 7] []] false (laws_toEntryS_R toEntryS1) (laws_toEntryS_O toEntryS1) })], [(2, { a := .call [.val [some 7] [], .val [] []] false (impl_HistSwap_R histSwap1) (impl_HistSwap_O histSwap1) })], [(2, { d := some false })], [(2, { a := .call [.val [some 7] []] false (laws_toEntryS_R toEntryS2) (laws_toEntryS_O toEntryS2) }), (3, { a := .call [.val [some 7] [], .val [some 7] []] false (laws_eqEntryS_R eqEntryS) (laws_eqEntryS_O eqEntryS) }), (4, { d := some false })], []] [ACalls cx.P 4 [vsl 7 eEntry aList, vi 1048576] (laws_szEntryS_R szEntryS) (laws_szEntryS_O szEntryS), decide (szEntryS < 0) = false, ACalls cx.P 6 [vsl 7 eEntry aList] (laws_toEntryS_R toEntryS) (laws_toEntryS_O toEntryS), ACalls cx.P 5 [vsl 7 eEntry toEntryS, vi aAt] (spec_HistSwap_R histSwap) (spec_HistSwap_O histSwap), ACalls cx.P 6 [vsl 7 eEntry aList] (laws_toEntryS_R toEntryS1) (laws_toEntryS_O toEntryS1), ACalls cx.P 7 [vsl 7 eEntry toEntryS1, vi aAt] (impl_HistSwap_R histSwap1) (impl_HistSwap_O histSwap1), (!(histSwap1 == histSwap)) = false, ACalls cx.P 6 [vsl 7 eEntry aList] (laws_toEntryS_R toEntryS2) (laws_toEntryS_O toEntryS2), ACalls cx.P 8 [vsl 7 eEntry toEntryS1, vsl 7 eEntry toEntryS2] (laws_eqEntryS_R eqEntryS) (laws_eqEntryS_O eqEntryS), (!eqEntryS) = false] (.cons (laws_szEntryS_ok aList 1048576 szEntryS hszEntryS) (.cons e1 (.cons (laws_toEntryS_ok aList toEntryS htoEntryS) (.cons (spec_HistSwap_ok toEntryS aAt histSwap hhistSwap) (.cons (laws_toEntryS_ok aList toEntryS1 htoEntryS1) (.cons (impl_HistSwap_ok toEntryS1 aAt histSwap1 hhistSwap1) (.cons e2 (.cons (laws_toEntryS_ok aList toEntryS2 htoEntryS2) (.cons (laws_eqEntryS_ok toEntryS1 toEntryS2 eqEntryS heqEntryS) (.cons e3 .nil)))))))))) (by kernel_rfl)).is (congrArg laws_FnExactHistSwap_R e) (congrArg laws_FnExactHistSwap_O e)))))))))))))))
theorem laws_FnExactHistSwap_ok (aList : List TEntry) (aAt : Int) (r : Bool) (h : laws_FnExactHistSwap aList aAt = some r) : ACalls cx.P 3 [vsl 7 eEntry aList, vi aAt] (laws_FnExactHistSwap_R r) (laws_FnExactHistSwap_O r) :=
  ACalls.of (cx := cx) (X := laws_FnExactHistSwap_X) (c := laws_FnExactHistSwap_c) Try.func3 (by kernel_rfl) (by kernel_rfl) (by kernel_rfl) (laws_FnExactHistSwap_fin aList aAt r h)


end Go.Proofs.Ytidcofmgigokcaa
