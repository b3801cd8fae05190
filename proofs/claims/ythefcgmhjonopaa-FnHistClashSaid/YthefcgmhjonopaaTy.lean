/- The data, and what is known of the types of the program. -/
import Derived.Test.YthefcgmhjonopaaAm32
import Derived.Test.YthefcgmhjonopaaProg
set_option linter.unusedVariables false
set_option linter.unusedSimpArgs false
namespace Go.Proofs.Ythefcgmhjonopaa
open Go

def eI (x : Int) : List V := [vi x]
def eU8 (x : Int) : List V := [.i .u8 x]
def eB (x : Bool) : List V := [.b x]
structure TReq where
  Who : Int
  Seq : Int
def eReq (x : TReq) : List V := [vi x.Who, vi x.Seq]
structure TRead where
  Box : Int
  Ver : Int
def eRead (x : TRead) : List V := [vi x.Box, vi x.Ver]
structure TPut where
  Box : Int
  Val : Int
def ePut (x : TPut) : List V := [vi x.Box, vi x.Val]
structure TRun where
  Reads : List TRead
  Puts : List TPut
  Val : Int
  Code : Int
def eRun (x : TRun) : List V := [vsl 2 eRead x.Reads, vsl 2 ePut x.Puts, vi x.Val, vi x.Code]
structure TEntry where
  None : Bool
  Req : TReq
  Run : TRun
def eEntry (x : TEntry) : List V := [.b x.None, vi x.Req.Who, vi x.Req.Seq, vsl 2 eRead x.Run.Reads, vsl 2 ePut x.Run.Puts, vi x.Run.Val, vi x.Run.Code]
structure Tl15Rd where
  b : List Int
  p : Int
def el15Rd (x : Tl15Rd) : List V := [vsl 1 eU8 x.b, vi x.p]
structure TBox where
  Ver : Int
  Val : Int
def eBox (x : TBox) : List V := [vi x.Ver, vi x.Val]
structure TDone where
  Req : TReq
  Code : Int
  Val : Int
def eDone (x : TDone) : List V := [vi x.Req.Who, vi x.Req.Seq, vi x.Code, vi x.Val]
structure TState where
  At : Int
  Boxes : List TBox
  Dones : List TDone
def eState (x : TState) : List V := [vi x.At, vsl 2 eBox x.Boxes, vsl 4 eDone x.Dones]
structure TIns where
  Kind : Int
  A : Int
  B : Int
  N : Int
def eIns (x : TIns) : List V := [vi x.Kind, vi x.A, vi x.B, vi x.N]
structure TClash where
  First : Int
  Last : Int
  Box : Int
def eClash (x : TClash) : List V := [vi x.First, vi x.Last, vi x.Box]
theorem eqA30 (d : Nat) (w : World) (x0 x1 y0 y1 : Int) : (Op.equalIn (d + 2) 30 (.agg #[.int .i64 x0, .int .i64 x1]) (.agg #[.int .i64 y0, .int .i64 y1])).run Try.prog w = .ok ((x0 == y0) && ((x1 == y1) && true)) w := by
  refine eq_of_fields Try.underlying30 Try.stoodInHeld30 ?_
  refine eqf_cons (by rfl) (by first | (go_simp; done) | (go_simp; rfl)) (by first | (go_simp; done) | (go_simp; rfl)) (eq_of_int Try.underlying3) ?_
  refine eqf_cons (by rfl) (by first | (go_simp; done) | (go_simp; rfl)) (by first | (go_simp; done) | (go_simp; rfl)) (eq_of_int Try.underlying3) ?_
  exact eqf_nil
theorem eqT30 (xs ys : List Int) (w : World) (hx : xs.length = 2) (hy : ys.length = 2) : (Op.equal 30 (.agg (xs.map (Value.int .i64)).toArray) (.agg (ys.map (Value.int .i64)).toArray)).run Try.prog w = .ok (xs == ys) w := by
  match xs, ys, hx, hy with
  | [x0, x1], [y0, y1], _, _ =>
    have h := eqA30 9998 w x0 x1 y0 y1
    have e : ((x0 == y0) && ((x1 == y1) && true)) = ([x0, x1] == ([y0, y1] : List Int)) := by simp [Bool.and_assoc]
    rw [e] at h
    exact h
theorem eqA38 (d : Nat) (w : World) (x0 x1 x2 y0 y1 y2 : Int) : (Op.equalIn (d + 2) 38 (.agg #[.int .i64 x0, .int .i64 x1, .int .i64 x2]) (.agg #[.int .i64 y0, .int .i64 y1, .int .i64 y2])).run Try.prog w = .ok ((x0 == y0) && ((x1 == y1) && ((x2 == y2) && true))) w := by
  refine eq_of_fields Try.underlying38 Try.stoodInHeld38 ?_
  refine eqf_cons (by rfl) (by first | (go_simp; done) | (go_simp; rfl)) (by first | (go_simp; done) | (go_simp; rfl)) (eq_of_int Try.underlying3) ?_
  refine eqf_cons (by rfl) (by first | (go_simp; done) | (go_simp; rfl)) (by first | (go_simp; done) | (go_simp; rfl)) (eq_of_int Try.underlying3) ?_
  refine eqf_cons (by rfl) (by first | (go_simp; done) | (go_simp; rfl)) (by first | (go_simp; done) | (go_simp; rfl)) (eq_of_int Try.underlying3) ?_
  exact eqf_nil
theorem eqT38 (xs ys : List Int) (w : World) (hx : xs.length = 3) (hy : ys.length = 3) : (Op.equal 38 (.agg (xs.map (Value.int .i64)).toArray) (.agg (ys.map (Value.int .i64)).toArray)).run Try.prog w = .ok (xs == ys) w := by
  match xs, ys, hx, hy with
  | [x0, x1, x2], [y0, y1, y2], _, _ =>
    have h := eqA38 9998 w x0 x1 x2 y0 y1 y2
    have e : ((x0 == y0) && ((x1 == y1) && ((x2 == y2) && true))) = ([x0, x1, x2] == ([y0, y1, y2] : List Int)) := by simp [Bool.and_assoc]
    rw [e] at h
    exact h
theorem eqA40 (d : Nat) (w : World) (x0 x1 y0 y1 : Int) : (Op.equalIn (d + 2) 40 (.agg #[.int .i64 x0, .int .i64 x1]) (.agg #[.int .i64 y0, .int .i64 y1])).run Try.prog w = .ok ((x0 == y0) && ((x1 == y1) && true)) w := by
  refine eq_of_fields Try.underlying40 Try.stoodInHeld40 ?_
  refine eqf_cons (by rfl) (by first | (go_simp; done) | (go_simp; rfl)) (by first | (go_simp; done) | (go_simp; rfl)) (eq_of_int Try.underlying3) ?_
  refine eqf_cons (by rfl) (by first | (go_simp; done) | (go_simp; rfl)) (by first | (go_simp; done) | (go_simp; rfl)) (eq_of_int Try.underlying3) ?_
  exact eqf_nil
theorem eqT40 (xs ys : List Int) (w : World) (hx : xs.length = 2) (hy : ys.length = 2) : (Op.equal 40 (.agg (xs.map (Value.int .i64)).toArray) (.agg (ys.map (Value.int .i64)).toArray)).run Try.prog w = .ok (xs == ys) w := by
  match xs, ys, hx, hy with
  | [x0, x1], [y0, y1], _, _ =>
    have h := eqA40 9998 w x0 x1 y0 y1
    have e : ((x0 == y0) && ((x1 == y1) && true)) = ([x0, x1] == ([y0, y1] : List Int)) := by simp [Bool.and_assoc]
    rw [e] at h
    exact h
theorem eqA95 (d : Nat) (w : World) (x0 x1 y0 y1 : Int) : (Op.equalIn (d + 2) 95 (.agg #[.int .i64 x0, .int .i64 x1]) (.agg #[.int .i64 y0, .int .i64 y1])).run Try.prog w = .ok ((x0 == y0) && ((x1 == y1) && true)) w := by
  refine eq_of_fields Try.underlying95 Try.stoodInHeld95 ?_
  refine eqf_cons (by rfl) (by first | (go_simp; done) | (go_simp; rfl)) (by first | (go_simp; done) | (go_simp; rfl)) (eq_of_int Try.underlying3) ?_
  refine eqf_cons (by rfl) (by first | (go_simp; done) | (go_simp; rfl)) (by first | (go_simp; done) | (go_simp; rfl)) (eq_of_int Try.underlying3) ?_
  exact eqf_nil
theorem eqT95 (xs ys : List Int) (w : World) (hx : xs.length = 2) (hy : ys.length = 2) : (Op.equal 95 (.agg (xs.map (Value.int .i64)).toArray) (.agg (ys.map (Value.int .i64)).toArray)).run Try.prog w = .ok (xs == ys) w := by
  match xs, ys, hx, hy with
  | [x0, x1], [y0, y1], _, _ =>
    have h := eqA95 9998 w x0 x1 y0 y1
    have e : ((x0 == y0) && ((x1 == y1) && true)) = ([x0, x1] == ([y0, y1] : List Int)) := by simp [Bool.and_assoc]
    rw [e] at h
    exact h
def ti3 : TI := { size := 1, bytes := 8, agg := false, zero := [vi 0], sl := none, arr := none, ik := some .i64, fs := none, str := false, ptr := none, bl := false }
def ti4 : TI := { size := 1, bytes := 1, agg := false, zero := [.b false], sl := none, arr := none, ik := none, fs := none, str := false, ptr := none, bl := true }
def ti5 : TI := { size := 1, bytes := 1, agg := false, zero := [.i .u8 0], sl := none, arr := none, ik := some .u8, fs := none, str := false, ptr := none, bl := false }
def ti22 : TI := { size := 1, bytes := 24, agg := false, zero := [.nil], sl := some 5, arr := none, ik := none, fs := none, str := false, ptr := none, bl := false }
def ti23 : TI := { size := 1, bytes := 24, agg := false, zero := [.nil], sl := some 36, arr := none, ik := none, fs := none, str := false, ptr := none, bl := false }
def ti25 : TI := { size := 1, bytes := 24, agg := false, zero := [.nil], sl := some 38, arr := none, ik := none, fs := none, str := false, ptr := none, bl := false }
def ti27 : TI := { size := 1, bytes := 24, agg := false, zero := [.nil], sl := some 30, arr := none, ik := none, fs := none, str := false, ptr := none, bl := false }
def ti30 : TI := { size := 2, bytes := 16, agg := true, zero := [vi 0, vi 0], sl := none, arr := none, ik := none, fs := some [(0, 3), (1, 3)], str := false, ptr := none, bl := false }
def ti31 : TI := { size := 1, bytes := 24, agg := false, zero := [.nil], sl := some 95, arr := none, ik := none, fs := none, str := false, ptr := none, bl := false }
def ti32 : TI := { size := 1, bytes := 24, agg := false, zero := [.nil], sl := some 40, arr := none, ik := none, fs := none, str := false, ptr := none, bl := false }
def ti34 : TI := { size := 4, bytes := 64, agg := true, zero := [.nil, .nil, vi 0, vi 0], sl := none, arr := none, ik := none, fs := some [(0, 31), (1, 32), (2, 3), (3, 3)], str := false, ptr := none, bl := false }
def ti36 : TI := { size := 7, bytes := 88, agg := true, zero := [.b false, vi 0, vi 0, .nil, .nil, vi 0, vi 0], sl := none, arr := none, ik := none, fs := some [(0, 4), (1, 30), (3, 34)], str := false, ptr := none, bl := false }
def ti38 : TI := { size := 3, bytes := 24, agg := true, zero := [vi 0, vi 0, vi 0], sl := none, arr := none, ik := none, fs := some [(0, 3), (1, 3), (2, 3)], str := false, ptr := none, bl := false }
def ti40 : TI := { size := 2, bytes := 16, agg := true, zero := [vi 0, vi 0], sl := none, arr := none, ik := none, fs := some [(0, 3), (1, 3)], str := false, ptr := none, bl := false }
def ti46 : TI := { size := 1, bytes := 24, agg := false, zero := [.nil], sl := some 92, arr := none, ik := none, fs := none, str := false, ptr := none, bl := false }
def ti47 : TI := { size := 1, bytes := 24, agg := false, zero := [.nil], sl := some 80, arr := none, ik := none, fs := none, str := false, ptr := none, bl := false }
def ti49 : TI := { size := 3, bytes := 56, agg := true, zero := [vi 0, .nil, .nil], sl := none, arr := none, ik := none, fs := some [(0, 3), (1, 46), (2, 47)], str := false, ptr := none, bl := false }
def ti50 : TI := { size := 1, bytes := 24, agg := false, zero := [.nil], sl := some 3, arr := none, ik := none, fs := none, str := false, ptr := none, bl := false }
def ti60 : TI := { size := 1, bytes := 24, agg := false, zero := [.nil], sl := some 76, arr := none, ik := none, fs := none, str := false, ptr := none, bl := false }
def ti65 : TI := { size := 2, bytes := 32, agg := true, zero := [.nil, vi 0], sl := none, arr := none, ik := none, fs := some [(0, 22), (1, 3)], str := false, ptr := none, bl := false }
def ti76 : TI := { size := 4, bytes := 32, agg := true, zero := [vi 0, vi 0, vi 0, vi 0], sl := none, arr := none, ik := none, fs := some [(0, 3), (1, 3), (2, 3), (3, 3)], str := false, ptr := none, bl := false }
def ti80 : TI := { size := 4, bytes := 32, agg := true, zero := [vi 0, vi 0, vi 0, vi 0], sl := none, arr := none, ik := none, fs := some [(0, 30), (2, 3), (3, 3)], str := false, ptr := none, bl := false }
def ti92 : TI := { size := 2, bytes := 16, agg := true, zero := [vi 0, vi 0], sl := none, arr := none, ik := none, fs := some [(0, 3), (1, 3)], str := false, ptr := none, bl := false }
def ti95 : TI := { size := 2, bytes := 16, agg := true, zero := [vi 0, vi 0], sl := none, arr := none, ik := none, fs := some [(0, 3), (1, 3)], str := false, ptr := none, bl := false }
def ti104 : TI := { size := 4, bytes := 4, agg := true, zero := [.b false, .b false, .b false, .b false], sl := none, arr := some (4, 4), ik := none, fs := none, str := false, ptr := none, bl := false }
def tiTab : List (Nat × TI) := [(3, ti3), (4, ti4), (5, ti5), (22, ti22), (23, ti23), (25, ti25), (27, ti27), (30, ti30), (31, ti31), (32, ti32), (34, ti34), (36, ti36), (38, ti38), (40, ti40), (46, ti46), (47, ti47), (49, ti49), (50, ti50), (60, ti60), (65, ti65), (76, ti76), (80, ti80), (92, ti92), (95, ti95), (104, ti104)]
def tiAt : List (Nat × TI) → Nat → Option TI
  | [], _ => none
  | (k, x) :: l, t => if Nat.beq k t then some x else tiAt l t
theorem tiAt_mem {l : List (Nat × TI)} {t : Nat} {x : TI} (h : tiAt l t = some x) : (t, x) ∈ l := by
  induction l with
  | nil => cases h
  | cons p l ih =>
    obtain ⟨k, y⟩ := p
    unfold tiAt at h
    split at h
    · rename_i hk
      have : k = t := Nat.eq_of_beq_eq_true hk
      injection h with h
      subst this; subst h
      simp
    · exact List.mem_cons.2 (.inr (ih h))
theorem tiOf3 : tiOf Try.prog 3 = some ti3 := by kernel_rfl
theorem tiOf4 : tiOf Try.prog 4 = some ti4 := by kernel_rfl
theorem tiOf5 : tiOf Try.prog 5 = some ti5 := by kernel_rfl
theorem tiOf22 : tiOf Try.prog 22 = some ti22 := by kernel_rfl
theorem tiOf23 : tiOf Try.prog 23 = some ti23 := by kernel_rfl
theorem tiOf25 : tiOf Try.prog 25 = some ti25 := by kernel_rfl
theorem tiOf27 : tiOf Try.prog 27 = some ti27 := by kernel_rfl
theorem tiOf30 : tiOf Try.prog 30 = some ti30 := by kernel_rfl
theorem tiOf31 : tiOf Try.prog 31 = some ti31 := by kernel_rfl
theorem tiOf32 : tiOf Try.prog 32 = some ti32 := by kernel_rfl
theorem tiOf34 : tiOf Try.prog 34 = some ti34 := by kernel_rfl
theorem tiOf36 : tiOf Try.prog 36 = some ti36 := by kernel_rfl
theorem tiOf38 : tiOf Try.prog 38 = some ti38 := by kernel_rfl
theorem tiOf40 : tiOf Try.prog 40 = some ti40 := by kernel_rfl
theorem tiOf46 : tiOf Try.prog 46 = some ti46 := by kernel_rfl
theorem tiOf47 : tiOf Try.prog 47 = some ti47 := by kernel_rfl
theorem tiOf49 : tiOf Try.prog 49 = some ti49 := by kernel_rfl
theorem tiOf50 : tiOf Try.prog 50 = some ti50 := by kernel_rfl
theorem tiOf60 : tiOf Try.prog 60 = some ti60 := by kernel_rfl
theorem tiOf65 : tiOf Try.prog 65 = some ti65 := by kernel_rfl
theorem tiOf76 : tiOf Try.prog 76 = some ti76 := by kernel_rfl
theorem tiOf80 : tiOf Try.prog 80 = some ti80 := by kernel_rfl
theorem tiOf92 : tiOf Try.prog 92 = some ti92 := by kernel_rfl
theorem tiOf95 : tiOf Try.prog 95 = some ti95 := by kernel_rfl
theorem tiOf104 : tiOf Try.prog 104 = some ti104 := by kernel_rfl
theorem tiTab_ok : ∀ p ∈ tiTab, tiOf Try.prog p.1 = some p.2 := by
  intro p hp
  simp only [tiTab, List.mem_cons, List.not_mem_nil, or_false] at hp
  rcases hp with rfl | rfl | rfl | rfl | rfl | rfl | rfl | rfl | rfl | rfl | rfl | rfl | rfl | rfl | rfl | rfl | rfl | rfl | rfl | rfl | rfl | rfl | rfl | rfl | rfl
  · exact tiOf3
  · exact tiOf4
  · exact tiOf5
  · exact tiOf22
  · exact tiOf23
  · exact tiOf25
  · exact tiOf27
  · exact tiOf30
  · exact tiOf31
  · exact tiOf32
  · exact tiOf34
  · exact tiOf36
  · exact tiOf38
  · exact tiOf40
  · exact tiOf46
  · exact tiOf47
  · exact tiOf49
  · exact tiOf50
  · exact tiOf60
  · exact tiOf65
  · exact tiOf76
  · exact tiOf80
  · exact tiOf92
  · exact tiOf95
  · exact tiOf104
def eqAt (t : Nat) : Option Nat := if Nat.beq t 30 then some 2 else if Nat.beq t 38 then some 3 else if Nat.beq t 40 then some 2 else if Nat.beq t 95 then some 2 else  none
theorem eqAt_eq (t m : Nat) (h : eqAt t = some m) (xs ys : List Int) (w : World) (hx : xs.length = m) (hy : ys.length = m) : (Op.equal t (.agg (xs.map (Value.int .i64)).toArray) (.agg (ys.map (Value.int .i64)).toArray)).run Try.prog w = .ok (xs == ys) w := by
  unfold eqAt at h
  split at h
  · rename_i hk
    have hm : 2 = m := Option.some.inj h
    rw [Nat.eq_of_beq_eq_true hk]
    exact eqT30 xs ys w (hx.trans hm.symm) (hy.trans hm.symm)
  split at h
  · rename_i hk
    have hm : 3 = m := Option.some.inj h
    rw [Nat.eq_of_beq_eq_true hk]
    exact eqT38 xs ys w (hx.trans hm.symm) (hy.trans hm.symm)
  split at h
  · rename_i hk
    have hm : 2 = m := Option.some.inj h
    rw [Nat.eq_of_beq_eq_true hk]
    exact eqT40 xs ys w (hx.trans hm.symm) (hy.trans hm.symm)
  split at h
  · rename_i hk
    have hm : 2 = m := Option.some.inj h
    rw [Nat.eq_of_beq_eq_true hk]
    exact eqT95 xs ys w (hx.trans hm.symm) (hy.trans hm.symm)
  cases h
theorem eqAt_guard (t m : Nat) (h : eqAt t = some m) : Try.prog.eqGuardType Try.prog.depth t = false := by
  unfold eqAt at h
  split at h
  · rename_i hk
    have hm : 2 = m := Option.some.inj h
    rw [Nat.eq_of_beq_eq_true hk]
    exact Try.eqGuardType30
  split at h
  · rename_i hk
    have hm : 3 = m := Option.some.inj h
    rw [Nat.eq_of_beq_eq_true hk]
    exact Try.eqGuardType38
  split at h
  · rename_i hk
    have hm : 2 = m := Option.some.inj h
    rw [Nat.eq_of_beq_eq_true hk]
    exact Try.eqGuardType40
  split at h
  · rename_i hk
    have hm : 2 = m := Option.some.inj h
    rw [Nat.eq_of_beq_eq_true hk]
    exact Try.eqGuardType95
  cases h
theorem mixedP : Try.prog.follows .mixedOrders = true := by kernel_rfl
noncomputable def cx : Cx where
  P := Try.prog
  mixed := mixedP
  T := tiAt tiTab
  hT := fun t ti h => tiTab_ok (t, ti) (tiAt_mem h)
  E := eqAt
  hE := eqAt_eq
  hG := eqAt_guard

end Go.Proofs.Ythefcgmhjonopaa
