/- The data, and what is known of the types of the program. -/
import Derived.Test.YtophfhbneaeljaaAm32
import Derived.Test.YtophfhbneaeljaaProg
set_option linter.unusedVariables false
set_option linter.unusedSimpArgs false
namespace Go.Proofs.Ytophfhbneaeljaa
open Go

def eI (x : Int) : List V := [vi x]
def eU8 (x : Int) : List V := [.i .u8 x]
def eB (x : Bool) : List V := [.b x]
structure TReq where
  Who : Int
  Seq : Int
def eReq (x : TReq) : List V := [vi x.Who, vi x.Seq]
structure TRead where
  Box : Int
  Ver : Int
def eRead (x : TRead) : List V := [vi x.Box, vi x.Ver]
structure TPut where
  Box : Int
  Val : Int
def ePut (x : TPut) : List V := [vi x.Box, vi x.Val]
structure TRun where
  Reads : List TRead
  Puts : List TPut
  Val : Int
  Code : Int
def eRun (x : TRun) : List V := [vsl 2 eRead x.Reads, vsl 2 ePut x.Puts, vi x.Val, vi x.Code]
structure TEntry where
  None : Bool
  Req : TReq
  Run : TRun
def eEntry (x : TEntry) : List V := [.b x.None, vi x.Req.Who, vi x.Req.Seq, vsl 2 eRead x.Run.Reads, vsl 2 ePut x.Run.Puts, vi x.Run.Val, vi x.Run.Code]
structure Tl15Rd where
  b : List Int
  p : Int
def el15Rd (x : Tl15Rd) : List V := [vsl 1 eU8 x.b, vi x.p]
structure TBox where
  Ver : Int
  Val : Int
def eBox (x : TBox) : List V := [vi x.Ver, vi x.Val]
structure TDone where
  Req : TReq
  Code : Int
  Val : Int
def eDone (x : TDone) : List V := [vi x.Req.Who, vi x.Req.Seq, vi x.Code, vi x.Val]
structure TState where
  At : Int
  Boxes : List TBox
  Dones : List TDone
def eState (x : TState) : List V := [vi x.At, vsl 2 eBox x.Boxes, vsl 4 eDone x.Dones]
structure TIns where
  Kind : Int
  A : Int
  B : Int
  N : Int
def eIns (x : TIns) : List V := [vi x.Kind, vi x.A, vi x.B, vi x.N]
theorem eqA31 (d : Nat) (w : World) (x0 x1 y0 y1 : Int) : (Op.equalIn (d + 2) 31 (.agg #[.int .i64 x0, .int .i64 x1]) (.agg #[.int .i64 y0, .int .i64 y1])).run Try.prog w = .ok ((x0 == y0) && ((x1 == y1) && true)) w := by
  refine eq_of_fields Try.underlying31 Try.stoodInHeld31 ?_
  refine eqf_cons (by rfl) (by first | (go_simp; done) | (go_simp; rfl)) (by first | (go_simp; done) | (go_simp; rfl)) (eq_of_int Try.underlying3) ?_
  refine eqf_cons (by rfl) (by first | (go_simp; done) | (go_simp; rfl)) (by first | (go_simp; done) | (go_simp; rfl)) (eq_of_int Try.underlying3) ?_
  exact eqf_nil
theorem eqT31 (xs ys : List Int) (w : World) (hx : xs.length = 2) (hy : ys.length = 2) : (Op.equal 31 (.agg (xs.map (Value.int .i64)).toArray) (.agg (ys.map (Value.int .i64)).toArray)).run Try.prog w = .ok (xs == ys) w := by
  match xs, ys, hx, hy with
  | [x0, x1], [y0, y1], _, _ =>
    have h := eqA31 9998 w x0 x1 y0 y1
    have e : ((x0 == y0) && ((x1 == y1) && true)) = ([x0, x1] == ([y0, y1] : List Int)) := by simp [Bool.and_assoc]
    rw [e] at h
    exact h
theorem eqA54 (d : Nat) (w : World) (x0 x1 y0 y1 : Int) : (Op.equalIn (d + 2) 54 (.agg #[.int .i64 x0, .int .i64 x1]) (.agg #[.int .i64 y0, .int .i64 y1])).run Try.prog w = .ok ((x0 == y0) && ((x1 == y1) && true)) w := by
  refine eq_of_fields Try.underlying54 Try.stoodInHeld54 ?_
  refine eqf_cons (by rfl) (by first | (go_simp; done) | (go_simp; rfl)) (by first | (go_simp; done) | (go_simp; rfl)) (eq_of_int Try.underlying3) ?_
  refine eqf_cons (by rfl) (by first | (go_simp; done) | (go_simp; rfl)) (by first | (go_simp; done) | (go_simp; rfl)) (eq_of_int Try.underlying3) ?_
  exact eqf_nil
theorem eqT54 (xs ys : List Int) (w : World) (hx : xs.length = 2) (hy : ys.length = 2) : (Op.equal 54 (.agg (xs.map (Value.int .i64)).toArray) (.agg (ys.map (Value.int .i64)).toArray)).run Try.prog w = .ok (xs == ys) w := by
  match xs, ys, hx, hy with
  | [x0, x1], [y0, y1], _, _ =>
    have h := eqA54 9998 w x0 x1 y0 y1
    have e : ((x0 == y0) && ((x1 == y1) && true)) = ([x0, x1] == ([y0, y1] : List Int)) := by simp [Bool.and_assoc]
    rw [e] at h
    exact h
theorem eqA90 (d : Nat) (w : World) (x0 x1 y0 y1 : Int) : (Op.equalIn (d + 2) 90 (.agg #[.int .i64 x0, .int .i64 x1]) (.agg #[.int .i64 y0, .int .i64 y1])).run Try.prog w = .ok ((x0 == y0) && ((x1 == y1) && true)) w := by
  refine eq_of_fields Try.underlying90 Try.stoodInHeld90 ?_
  refine eqf_cons (by rfl) (by first | (go_simp; done) | (go_simp; rfl)) (by first | (go_simp; done) | (go_simp; rfl)) (eq_of_int Try.underlying3) ?_
  refine eqf_cons (by rfl) (by first | (go_simp; done) | (go_simp; rfl)) (by first | (go_simp; done) | (go_simp; rfl)) (eq_of_int Try.underlying3) ?_
  exact eqf_nil
theorem eqT90 (xs ys : List Int) (w : World) (hx : xs.length = 2) (hy : ys.length = 2) : (Op.equal 90 (.agg (xs.map (Value.int .i64)).toArray) (.agg (ys.map (Value.int .i64)).toArray)).run Try.prog w = .ok (xs == ys) w := by
  match xs, ys, hx, hy with
  | [x0, x1], [y0, y1], _, _ =>
    have h := eqA90 9998 w x0 x1 y0 y1
    have e : ((x0 == y0) && ((x1 == y1) && true)) = ([x0, x1] == ([y0, y1] : List Int)) := by simp [Bool.and_assoc]
    rw [e] at h
    exact h
theorem eqA92 (d : Nat) (w : World) (x0 x1 y0 y1 : Int) : (Op.equalIn (d + 2) 92 (.agg #[.int .i64 x0, .int .i64 x1]) (.agg #[.int .i64 y0, .int .i64 y1])).run Try.prog w = .ok ((x0 == y0) && ((x1 == y1) && true)) w := by
  refine eq_of_fields Try.underlying92 Try.stoodInHeld92 ?_
  refine eqf_cons (by rfl) (by first | (go_simp; done) | (go_simp; rfl)) (by first | (go_simp; done) | (go_simp; rfl)) (eq_of_int Try.underlying3) ?_
  refine eqf_cons (by rfl) (by first | (go_simp; done) | (go_simp; rfl)) (by first | (go_simp; done) | (go_simp; rfl)) (eq_of_int Try.underlying3) ?_
  exact eqf_nil
theorem eqT92 (xs ys : List Int) (w : World) (hx : xs.length = 2) (hy : ys.length = 2) : (Op.equal 92 (.agg (xs.map (Value.int .i64)).toArray) (.agg (ys.map (Value.int .i64)).toArray)).run Try.prog w = .ok (xs == ys) w := by
  match xs, ys, hx, hy with
  | [x0, x1], [y0, y1], _, _ =>
    have h := eqA92 9998 w x0 x1 y0 y1
    have e : ((x0 == y0) && ((x1 == y1) && true)) = ([x0, x1] == ([y0, y1] : List Int)) := by simp [Bool.and_assoc]
    rw [e] at h
    exact h
def ti3 : TI := { size := 1, bytes := 8, agg := false, zero := [vi 0], sl := none, arr := none, ik := some .i64, fs := none, str := false, ptr := none, bl := false }
def ti4 : TI := { size := 1, bytes := 1, agg := false, zero := [.b false], sl := none, arr := none, ik := none, fs := none, str := false, ptr := none, bl := true }
def ti5 : TI := { size := 1, bytes := 1, agg := false, zero := [.i .u8 0], sl := none, arr := none, ik := some .u8, fs := none, str := false, ptr := none, bl := false }
def ti22 : TI := { size := 1, bytes := 24, agg := false, zero := [.nil], sl := some 5, arr := none, ik := none, fs := none, str := false, ptr := none, bl := false }
def ti23 : TI := { size := 1, bytes := 24, agg := false, zero := [.nil], sl := some 37, arr := none, ik := none, fs := none, str := false, ptr := none, bl := false }
def ti26 : TI := { size := 1, bytes := 24, agg := false, zero := [.nil], sl := some 3, arr := none, ik := none, fs := none, str := false, ptr := none, bl := false }
def ti28 : TI := { size := 1, bytes := 24, agg := false, zero := [.nil], sl := some 54, arr := none, ik := none, fs := none, str := false, ptr := none, bl := false }
def ti31 : TI := { size := 2, bytes := 16, agg := true, zero := [vi 0, vi 0], sl := none, arr := none, ik := none, fs := some [(0, 3), (1, 3)], str := false, ptr := none, bl := false }
def ti32 : TI := { size := 1, bytes := 24, agg := false, zero := [.nil], sl := some 92, arr := none, ik := none, fs := none, str := false, ptr := none, bl := false }
def ti33 : TI := { size := 1, bytes := 24, agg := false, zero := [.nil], sl := some 90, arr := none, ik := none, fs := none, str := false, ptr := none, bl := false }
def ti35 : TI := { size := 4, bytes := 64, agg := true, zero := [.nil, .nil, vi 0, vi 0], sl := none, arr := none, ik := none, fs := some [(0, 32), (1, 33), (2, 3), (3, 3)], str := false, ptr := none, bl := false }
def ti37 : TI := { size := 7, bytes := 88, agg := true, zero := [.b false, vi 0, vi 0, .nil, .nil, vi 0, vi 0], sl := none, arr := none, ik := none, fs := some [(0, 4), (1, 31), (3, 35)], str := false, ptr := none, bl := false }
def ti46 : TI := { size := 1, bytes := 24, agg := false, zero := [.nil], sl := some 76, arr := none, ik := none, fs := none, str := false, ptr := none, bl := false }
def ti48 : TI := { size := 3, bytes := 56, agg := true, zero := [vi 0, .nil, .nil], sl := none, arr := none, ik := none, fs := some [(0, 3), (1, 28), (2, 46)], str := false, ptr := none, bl := false }
def ti54 : TI := { size := 2, bytes := 16, agg := true, zero := [vi 0, vi 0], sl := none, arr := none, ik := none, fs := some [(0, 3), (1, 3)], str := false, ptr := none, bl := false }
def ti57 : TI := { size := 2, bytes := 32, agg := true, zero := [.nil, vi 0], sl := none, arr := none, ik := none, fs := some [(0, 22), (1, 3)], str := false, ptr := none, bl := false }
def ti60 : TI := { size := 1, bytes := 24, agg := false, zero := [.nil], sl := some 72, arr := none, ik := none, fs := none, str := false, ptr := none, bl := false }
def ti72 : TI := { size := 4, bytes := 32, agg := true, zero := [vi 0, vi 0, vi 0, vi 0], sl := none, arr := none, ik := none, fs := some [(0, 3), (1, 3), (2, 3), (3, 3)], str := false, ptr := none, bl := false }
def ti76 : TI := { size := 4, bytes := 32, agg := true, zero := [vi 0, vi 0, vi 0, vi 0], sl := none, arr := none, ik := none, fs := some [(0, 31), (2, 3), (3, 3)], str := false, ptr := none, bl := false }
def ti90 : TI := { size := 2, bytes := 16, agg := true, zero := [vi 0, vi 0], sl := none, arr := none, ik := none, fs := some [(0, 3), (1, 3)], str := false, ptr := none, bl := false }
def ti92 : TI := { size := 2, bytes := 16, agg := true, zero := [vi 0, vi 0], sl := none, arr := none, ik := none, fs := some [(0, 3), (1, 3)], str := false, ptr := none, bl := false }
def ti99 : TI := { size := 4, bytes := 4, agg := true, zero := [.b false, .b false, .b false, .b false], sl := none, arr := some (4, 4), ik := none, fs := none, str := false, ptr := none, bl := false }
def tiTab : List (Nat × TI) := [(3, ti3), (4, ti4), (5, ti5), (22, ti22), (23, ti23), (26, ti26), (28, ti28), (31, ti31), (32, ti32), (33, ti33), (35, ti35), (37, ti37), (46, ti46), (48, ti48), (54, ti54), (57, ti57), (60, ti60), (72, ti72), (76, ti76), (90, ti90), (92, ti92), (99, ti99)]
def tiAt : List (Nat × TI) → Nat → Option TI
  | [], _ => none
  | (k, x) :: l, t => if Nat.beq k t then some x else tiAt l t
theorem tiAt_mem {l : List (Nat × TI)} {t : Nat} {x : TI} (h : tiAt l t = some x) : (t, x) ∈ l := by
  induction l with
  | nil => cases h
  | cons p l ih =>
    obtain ⟨k, y⟩ := p
    unfold tiAt at h
    split at h
    · rename_i hk
      have : k = t := Nat.eq_of_beq_eq_true hk
      injection h with h
      subst this; subst h
      simp
    · exact List.mem_cons.2 (.inr (ih h))
theorem tiOf3 : tiOf Try.prog 3 = some ti3 := by kernel_rfl
theorem tiOf4 : tiOf Try.prog 4 = some ti4 := by kernel_rfl
theorem tiOf5 : tiOf Try.prog 5 = some ti5 := by kernel_rfl
theorem tiOf22 : tiOf Try.prog 22 = some ti22 := by kernel_rfl
theorem tiOf23 : tiOf Try.prog 23 = some ti23 := by kernel_rfl
theorem tiOf26 : tiOf Try.prog 26 = some ti26 := by kernel_rfl
theorem tiOf28 : tiOf Try.prog 28 = some ti28 := by kernel_rfl
theorem tiOf31 : tiOf Try.prog 31 = some ti31 := by kernel_rfl
theorem tiOf32 : tiOf Try.prog 32 = some ti32 := by kernel_rfl
theorem tiOf33 : tiOf Try.prog 33 = some ti33 := by kernel_rfl
theorem tiOf35 : tiOf Try.prog 35 = some ti35 := by kernel_rfl
theorem tiOf37 : tiOf Try.prog 37 = some ti37 := by kernel_rfl
theorem tiOf46 : tiOf Try.prog 46 = some ti46 := by kernel_rfl
theorem tiOf48 : tiOf Try.prog 48 = some ti48 := by kernel_rfl
theorem tiOf54 : tiOf Try.prog 54 = some ti54 := by kernel_rfl
theorem tiOf57 : tiOf Try.prog 57 = some ti57 := by kernel_rfl
theorem tiOf60 : tiOf Try.prog 60 = some ti60 := by kernel_rfl
theorem tiOf72 : tiOf Try.prog 72 = some ti72 := by kernel_rfl
theorem tiOf76 : tiOf Try.prog 76 = some ti76 := by kernel_rfl
theorem tiOf90 : tiOf Try.prog 90 = some ti90 := by kernel_rfl
theorem tiOf92 : tiOf Try.prog 92 = some ti92 := by kernel_rfl
theorem tiOf99 : tiOf Try.prog 99 = some ti99 := by kernel_rfl
theorem tiTab_ok : ∀ p ∈ tiTab, tiOf Try.prog p.1 = some p.2 := by
  intro p hp
  simp only [tiTab, List.mem_cons, List.not_mem_nil, or_false] at hp
  rcases hp with rfl | rfl | rfl | rfl | rfl | rfl | rfl | rfl | rfl | rfl | rfl | rfl | rfl | rfl | rfl | rfl | rfl | rfl | rfl | rfl | rfl | rfl
  · exact tiOf3
  · exact tiOf4
  · exact tiOf5
  · exact tiOf22
  · exact tiOf23
  · exact tiOf26
  · exact tiOf28
  · exact tiOf31
  · exact tiOf32
  · exact tiOf33
  · exact tiOf35
  · exact tiOf37
  · exact tiOf46
  · exact tiOf48
  · exact tiOf54
  · exact tiOf57
  · exact tiOf60
  · exact tiOf72
  · exact tiOf76
  · exact tiOf90
  · exact tiOf92
  · exact tiOf99
def eqAt (t : Nat) : Option Nat := if Nat.beq t 31 then some 2 else if Nat.beq t 54 then some 2 else if Nat.beq t 90 then some 2 else if Nat.beq t 92 then some 2 else  none
theorem eqAt_eq (t m : Nat) (h : eqAt t = some m) (xs ys : List Int) (w : World) (hx : xs.length = m) (hy : ys.length = m) : (Op.equal t (.agg (xs.map (Value.int .i64)).toArray) (.agg (ys.map (Value.int .i64)).toArray)).run Try.prog w = .ok (xs == ys) w := by
  unfold eqAt at h
  split at h
  · rename_i hk
    have hm : 2 = m := Option.some.inj h
    rw [Nat.eq_of_beq_eq_true hk]
    exact eqT31 xs ys w (hx.trans hm.symm) (hy.trans hm.symm)
  split at h
  · rename_i hk
    have hm : 2 = m := Option.some.inj h
    rw [Nat.eq_of_beq_eq_true hk]
    exact eqT54 xs ys w (hx.trans hm.symm) (hy.trans hm.symm)
  split at h
  · rename_i hk
    have hm : 2 = m := Option.some.inj h
    rw [Nat.eq_of_beq_eq_true hk]
    exact eqT90 xs ys w (hx.trans hm.symm) (hy.trans hm.symm)
  split at h
  · rename_i hk
    have hm : 2 = m := Option.some.inj h
    rw [Nat.eq_of_beq_eq_true hk]
    exact eqT92 xs ys w (hx.trans hm.symm) (hy.trans hm.symm)
  cases h
theorem eqAt_guard (t m : Nat) (h : eqAt t = some m) : Try.prog.eqGuardType Try.prog.depth t = false := by
  unfold eqAt at h
  split at h
  · rename_i hk
    have hm : 2 = m := Option.some.inj h
    rw [Nat.eq_of_beq_eq_true hk]
    exact Try.eqGuardType31
  split at h
  · rename_i hk
    have hm : 2 = m := Option.some.inj h
    rw [Nat.eq_of_beq_eq_true hk]
    exact Try.eqGuardType54
  split at h
  · rename_i hk
    have hm : 2 = m := Option.some.inj h
    rw [Nat.eq_of_beq_eq_true hk]
    exact Try.eqGuardType90
  split at h
  · rename_i hk
    have hm : 2 = m := Option.some.inj h
    rw [Nat.eq_of_beq_eq_true hk]
    exact Try.eqGuardType92
  cases h
theorem mixedP : Try.prog.follows .mixedOrders = true := by kernel_rfl
noncomputable def cx : Cx where
  P := Try.prog
  mixed := mixedP
  T := tiAt tiTab
  hT := fun t ti h => tiTab_ok (t, ti) (tiAt_mem h)
  E := eqAt
  hE := eqAt_eq
  hG := eqAt_guard

end Go.Proofs.Ytophfhbneaeljaa
