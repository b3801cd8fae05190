/- The data, and what is known of the types of the program. -/
import Derived.Test.YtpiaaeggofnphaaAm34
import Derived.Test.YtpiaaeggofnphaaProg
set_option linter.unusedVariables false
set_option linter.unusedSimpArgs false
namespace Go.Proofs.Ytpiaaeggofnphaa
open Go

def eI (x : Int) : List V := [vi x]
def eU8 (x : Int) : List V := [.i .u8 x]
def eB (x : Bool) : List V := [.b x]
structure TReq where
  Who : Int
  Seq : Int
def eReq (x : TReq) : List V := [vi x.Who, vi x.Seq]
structure TRead where
  Box : Int
  Ver : Int
def eRead (x : TRead) : List V := [vi x.Box, vi x.Ver]
structure TPut where
  Box : Int
  Val : Int
def ePut (x : TPut) : List V := [vi x.Box, vi x.Val]
structure TRun where
  Reads : List TRead
  Puts : List TPut
  Val : Int
  Code : Int
def eRun (x : TRun) : List V := [vsl 2 eRead x.Reads, vsl 2 ePut x.Puts, vi x.Val, vi x.Code]
structure TEntry where
  None : Bool
  Req : TReq
  Run : TRun
def eEntry (x : TEntry) : List V := [.b x.None, vi x.Req.Who, vi x.Req.Seq, vsl 2 eRead x.Run.Reads, vsl 2 ePut x.Run.Puts, vi x.Run.Val, vi x.Run.Code]
structure TBox where
  Ver : Int
  Val : Int
def eBox (x : TBox) : List V := [vi x.Ver, vi x.Val]
structure TDone where
  Req : TReq
  Code : Int
  Val : Int
def eDone (x : TDone) : List V := [vi x.Req.Who, vi x.Req.Seq, vi x.Code, vi x.Val]
structure TState where
  At : Int
  Boxes : List TBox
  Dones : List TDone
def eState (x : TState) : List V := [vi x.At, vsl 2 eBox x.Boxes, vsl 4 eDone x.Dones]
def eEntry_1 (x : TEntry) : List V := [.b x.None, vi x.Req.Who, vi x.Req.Seq, vosl 75 2 eRead x.Run.Reads, vosl 77 2 ePut x.Run.Puts, vi x.Run.Val, vi x.Run.Code]
theorem eEntry_1_nr (x : TEntry) : ∀ v ∈ eEntry_1 x, v.isRef = false := by simp [eEntry_1, V.isRef, vi, vosl, vdsl]
theorem eEntry_1_view (x : TEntry) : viewL (eEntry_1 x) = eEntry x := by simp [eEntry_1, eEntry, viewL, viewC, vi, vsl, vosl, vdsl]
def ck39 : List (Option Nat) := [some 2, some 2, none, none]
def ck41 : List (Option Nat) := [none, none, none, some 2, some 2, none, none]
def ck51 : List (Option Nat) := [some 2, some 2, none, none]
def ck53 : List (Option Nat) := [none, none, none, some 2, some 2, none, none]
theorem eqA47 (d : Nat) (w : World) (x0 x1 y0 y1 : Int) : (Op.equalIn (d + 2) 47 (.agg #[.int .i64 x0, .int .i64 x1]) (.agg #[.int .i64 y0, .int .i64 y1])).run Try.prog w = .ok ((x0 == y0) && ((x1 == y1) && true)) w := by
  refine eq_of_fields Try.underlying47 Try.stoodInHeld47 ?_
  refine eqf_cons (by rfl) (by first | (go_simp; done) | (go_simp; rfl)) (by first | (go_simp; done) | (go_simp; rfl)) (eq_of_int Try.underlying3) ?_
  refine eqf_cons (by rfl) (by first | (go_simp; done) | (go_simp; rfl)) (by first | (go_simp; done) | (go_simp; rfl)) (eq_of_int Try.underlying3) ?_
  exact eqf_nil
theorem eqT47 (xs ys : List Int) (w : World) (hx : xs.length = 2) (hy : ys.length = 2) : (Op.equal 47 (.agg (xs.map (Value.int .i64)).toArray) (.agg (ys.map (Value.int .i64)).toArray)).run Try.prog w = .ok (xs == ys) w := by
  match xs, ys, hx, hy with
  | [x0, x1], [y0, y1], _, _ =>
    have h := eqA47 9998 w x0 x1 y0 y1
    have e : ((x0 == y0) && ((x1 == y1) && true)) = ([x0, x1] == ([y0, y1] : List Int)) := by simp [Bool.and_assoc]
    rw [e] at h
    exact h
theorem eqA75 (d : Nat) (w : World) (x0 x1 y0 y1 : Int) : (Op.equalIn (d + 2) 75 (.agg #[.int .i64 x0, .int .i64 x1]) (.agg #[.int .i64 y0, .int .i64 y1])).run Try.prog w = .ok ((x0 == y0) && ((x1 == y1) && true)) w := by
  refine eq_of_fields Try.underlying75 Try.stoodInHeld75 ?_
  refine eqf_cons (by rfl) (by first | (go_simp; done) | (go_simp; rfl)) (by first | (go_simp; done) | (go_simp; rfl)) (eq_of_int Try.underlying3) ?_
  refine eqf_cons (by rfl) (by first | (go_simp; done) | (go_simp; rfl)) (by first | (go_simp; done) | (go_simp; rfl)) (eq_of_int Try.underlying3) ?_
  exact eqf_nil
theorem eqT75 (xs ys : List Int) (w : World) (hx : xs.length = 2) (hy : ys.length = 2) : (Op.equal 75 (.agg (xs.map (Value.int .i64)).toArray) (.agg (ys.map (Value.int .i64)).toArray)).run Try.prog w = .ok (xs == ys) w := by
  match xs, ys, hx, hy with
  | [x0, x1], [y0, y1], _, _ =>
    have h := eqA75 9998 w x0 x1 y0 y1
    have e : ((x0 == y0) && ((x1 == y1) && true)) = ([x0, x1] == ([y0, y1] : List Int)) := by simp [Bool.and_assoc]
    rw [e] at h
    exact h
theorem eqA77 (d : Nat) (w : World) (x0 x1 y0 y1 : Int) : (Op.equalIn (d + 2) 77 (.agg #[.int .i64 x0, .int .i64 x1]) (.agg #[.int .i64 y0, .int .i64 y1])).run Try.prog w = .ok ((x0 == y0) && ((x1 == y1) && true)) w := by
  refine eq_of_fields Try.underlying77 Try.stoodInHeld77 ?_
  refine eqf_cons (by rfl) (by first | (go_simp; done) | (go_simp; rfl)) (by first | (go_simp; done) | (go_simp; rfl)) (eq_of_int Try.underlying3) ?_
  refine eqf_cons (by rfl) (by first | (go_simp; done) | (go_simp; rfl)) (by first | (go_simp; done) | (go_simp; rfl)) (eq_of_int Try.underlying3) ?_
  exact eqf_nil
theorem eqT77 (xs ys : List Int) (w : World) (hx : xs.length = 2) (hy : ys.length = 2) : (Op.equal 77 (.agg (xs.map (Value.int .i64)).toArray) (.agg (ys.map (Value.int .i64)).toArray)).run Try.prog w = .ok (xs == ys) w := by
  match xs, ys, hx, hy with
  | [x0, x1], [y0, y1], _, _ =>
    have h := eqA77 9998 w x0 x1 y0 y1
    have e : ((x0 == y0) && ((x1 == y1) && true)) = ([x0, x1] == ([y0, y1] : List Int)) := by simp [Bool.and_assoc]
    rw [e] at h
    exact h
def ti3 : TI := { size := 1, bytes := 8, agg := false, zero := [vi 0], sl := none, arr := none, ik := some .i64, fs := none, str := false, ptr := none, bl := false }
def ti4 : TI := { size := 1, bytes := 1, agg := false, zero := [.b false], sl := none, arr := none, ik := none, fs := none, str := false, ptr := none, bl := true }
def ti22 : TI := { size := 1, bytes := 24, agg := false, zero := [.nil], sl := some 41, arr := none, ik := none, fs := none, str := false, ptr := none, bl := false }
def ti24 : TI := { size := 1, bytes := 24, agg := false, zero := [.nil], sl := some 58, arr := none, ik := none, fs := none, str := false, ptr := none, bl := false }
def ti26 : TI := { size := 1, bytes := 24, agg := false, zero := [.nil], sl := some 53, arr := none, ik := none, fs := none, str := false, ptr := none, bl := false }
def ti35 : TI := { size := 2, bytes := 16, agg := true, zero := [vi 0, vi 0], sl := none, arr := none, ik := none, fs := some [(0, 3), (1, 3)], str := false, ptr := none, bl := false }
def ti36 : TI := { size := 1, bytes := 24, agg := false, zero := [.nil], sl := some 99, arr := none, ik := none, fs := none, str := false, ptr := none, bl := false }
def ti37 : TI := { size := 1, bytes := 24, agg := false, zero := [.nil], sl := some 101, arr := none, ik := none, fs := none, str := false, ptr := none, bl := false }
def ti39 : TI := { size := 4, bytes := 64, agg := true, zero := [.nil, .nil, vi 0, vi 0], sl := none, arr := none, ik := none, fs := some [(0, 36), (1, 37), (2, 3), (3, 3)], str := false, ptr := none, bl := false }
def ti41 : TI := { size := 7, bytes := 88, agg := true, zero := [.b false, vi 0, vi 0, .nil, .nil, vi 0, vi 0], sl := none, arr := none, ik := none, fs := some [(0, 4), (1, 35), (3, 39)], str := false, ptr := none, bl := false }
def ti43 : TI := { size := 1, bytes := 24, agg := false, zero := [.nil], sl := some 84, arr := none, ik := none, fs := none, str := false, ptr := none, bl := false }
def ti45 : TI := { size := 3, bytes := 56, agg := true, zero := [vi 0, .nil, .nil], sl := none, arr := none, ik := none, fs := some [(0, 3), (1, 24), (2, 43)], str := false, ptr := none, bl := false }
def ti47 : TI := { size := 2, bytes := 16, agg := true, zero := [vi 0, vi 0], sl := none, arr := none, ik := none, fs := some [(0, 3), (1, 3)], str := false, ptr := none, bl := false }
def ti48 : TI := { size := 1, bytes := 24, agg := false, zero := [.nil], sl := some 75, arr := none, ik := none, fs := none, str := false, ptr := none, bl := false }
def ti49 : TI := { size := 1, bytes := 24, agg := false, zero := [.nil], sl := some 77, arr := none, ik := none, fs := none, str := false, ptr := none, bl := false }
def ti51 : TI := { size := 4, bytes := 64, agg := true, zero := [.nil, .nil, vi 0, vi 0], sl := none, arr := none, ik := none, fs := some [(0, 48), (1, 49), (2, 3), (3, 3)], str := false, ptr := none, bl := false }
def ti53 : TI := { size := 7, bytes := 88, agg := true, zero := [.b false, vi 0, vi 0, .nil, .nil, vi 0, vi 0], sl := none, arr := none, ik := none, fs := some [(0, 4), (1, 47), (3, 51)], str := false, ptr := none, bl := false }
def ti58 : TI := { size := 2, bytes := 16, agg := true, zero := [vi 0, vi 0], sl := none, arr := none, ik := none, fs := some [(0, 3), (1, 3)], str := false, ptr := none, bl := false }
def ti69 : TI := { size := 1, bytes := 24, agg := false, zero := [.nil], sl := some 3, arr := none, ik := none, fs := none, str := false, ptr := none, bl := false }
def ti75 : TI := { size := 2, bytes := 16, agg := true, zero := [vi 0, vi 0], sl := none, arr := none, ik := none, fs := some [(0, 3), (1, 3)], str := false, ptr := none, bl := false }
def ti77 : TI := { size := 2, bytes := 16, agg := true, zero := [vi 0, vi 0], sl := none, arr := none, ik := none, fs := some [(0, 3), (1, 3)], str := false, ptr := none, bl := false }
def ti84 : TI := { size := 4, bytes := 32, agg := true, zero := [vi 0, vi 0, vi 0, vi 0], sl := none, arr := none, ik := none, fs := some [(0, 47), (2, 3), (3, 3)], str := false, ptr := none, bl := false }
def ti99 : TI := { size := 2, bytes := 16, agg := true, zero := [vi 0, vi 0], sl := none, arr := none, ik := none, fs := some [(0, 3), (1, 3)], str := false, ptr := none, bl := false }
def ti101 : TI := { size := 2, bytes := 16, agg := true, zero := [vi 0, vi 0], sl := none, arr := none, ik := none, fs := some [(0, 3), (1, 3)], str := false, ptr := none, bl := false }
def ti102 : TI := { size := 4, bytes := 4, agg := true, zero := [.b false, .b false, .b false, .b false], sl := none, arr := some (4, 4), ik := none, fs := none, str := false, ptr := none, bl := false }
def tiTab : List (Nat × TI) := [(3, ti3), (4, ti4), (22, ti22), (24, ti24), (26, ti26), (35, ti35), (36, ti36), (37, ti37), (39, ti39), (41, ti41), (43, ti43), (45, ti45), (47, ti47), (48, ti48), (49, ti49), (51, ti51), (53, ti53), (58, ti58), (69, ti69), (75, ti75), (77, ti77), (84, ti84), (99, ti99), (101, ti101), (102, ti102)]
def tiAt : List (Nat × TI) → Nat → Option TI
  | [], _ => none
  | (k, x) :: l, t => if Nat.beq k t then some x else tiAt l t
theorem tiAt_mem {l : List (Nat × TI)} {t : Nat} {x : TI} (h : tiAt l t = some x) : (t, x) ∈ l := by
  induction l with
  | nil => cases h
  | cons p l ih =>
    obtain ⟨k, y⟩ := p
    unfold tiAt at h
    split at h
    · rename_i hk
      have : k = t := Nat.eq_of_beq_eq_true hk
      injection h with h
      subst this; subst h
      simp
    · exact List.mem_cons.2 (.inr (ih h))
theorem tiOf3 : tiOf Try.prog 3 = some ti3 := by kernel_rfl
theorem tiOf4 : tiOf Try.prog 4 = some ti4 := by kernel_rfl
theorem tiOf22 : tiOf Try.prog 22 = some ti22 := by kernel_rfl
theorem tiOf24 : tiOf Try.prog 24 = some ti24 := by kernel_rfl
theorem tiOf26 : tiOf Try.prog 26 = some ti26 := by kernel_rfl
theorem tiOf35 : tiOf Try.prog 35 = some ti35 := by kernel_rfl
theorem tiOf36 : tiOf Try.prog 36 = some ti36 := by kernel_rfl
theorem tiOf37 : tiOf Try.prog 37 = some ti37 := by kernel_rfl
theorem tiOf39 : tiOf Try.prog 39 = some ti39 := by kernel_rfl
theorem tiOf41 : tiOf Try.prog 41 = some ti41 := by kernel_rfl
theorem tiOf43 : tiOf Try.prog 43 = some ti43 := by kernel_rfl
theorem tiOf45 : tiOf Try.prog 45 = some ti45 := by kernel_rfl
theorem tiOf47 : tiOf Try.prog 47 = some ti47 := by kernel_rfl
theorem tiOf48 : tiOf Try.prog 48 = some ti48 := by kernel_rfl
theorem tiOf49 : tiOf Try.prog 49 = some ti49 := by kernel_rfl
theorem tiOf51 : tiOf Try.prog 51 = some ti51 := by kernel_rfl
theorem tiOf53 : tiOf Try.prog 53 = some ti53 := by kernel_rfl
theorem tiOf58 : tiOf Try.prog 58 = some ti58 := by kernel_rfl
theorem tiOf69 : tiOf Try.prog 69 = some ti69 := by kernel_rfl
theorem tiOf75 : tiOf Try.prog 75 = some ti75 := by kernel_rfl
theorem tiOf77 : tiOf Try.prog 77 = some ti77 := by kernel_rfl
theorem tiOf84 : tiOf Try.prog 84 = some ti84 := by kernel_rfl
theorem tiOf99 : tiOf Try.prog 99 = some ti99 := by kernel_rfl
theorem tiOf101 : tiOf Try.prog 101 = some ti101 := by kernel_rfl
theorem tiOf102 : tiOf Try.prog 102 = some ti102 := by kernel_rfl
theorem tiTab_ok : ∀ p ∈ tiTab, tiOf Try.prog p.1 = some p.2 := by
  intro p hp
  simp only [tiTab, List.mem_cons, List.not_mem_nil, or_false] at hp
  rcases hp with rfl | rfl | rfl | rfl | rfl | rfl | rfl | rfl | rfl | rfl | rfl | rfl | rfl | rfl | rfl | rfl | rfl | rfl | rfl | rfl | rfl | rfl | rfl | rfl | rfl
  · exact tiOf3
  · exact tiOf4
  · exact tiOf22
  · exact tiOf24
  · exact tiOf26
  · exact tiOf35
  · exact tiOf36
  · exact tiOf37
  · exact tiOf39
  · exact tiOf41
  · exact tiOf43
  · exact tiOf45
  · exact tiOf47
  · exact tiOf48
  · exact tiOf49
  · exact tiOf51
  · exact tiOf53
  · exact tiOf58
  · exact tiOf69
  · exact tiOf75
  · exact tiOf77
  · exact tiOf84
  · exact tiOf99
  · exact tiOf101
  · exact tiOf102
def eqAt (t : Nat) : Option Nat := if Nat.beq t 47 then some 2 else if Nat.beq t 75 then some 2 else if Nat.beq t 77 then some 2 else  none
theorem eqAt_eq (t m : Nat) (h : eqAt t = some m) (xs ys : List Int) (w : World) (hx : xs.length = m) (hy : ys.length = m) : (Op.equal t (.agg (xs.map (Value.int .i64)).toArray) (.agg (ys.map (Value.int .i64)).toArray)).run Try.prog w = .ok (xs == ys) w := by
  unfold eqAt at h
  split at h
  · rename_i hk
    have hm : 2 = m := Option.some.inj h
    rw [Nat.eq_of_beq_eq_true hk]
    exact eqT47 xs ys w (hx.trans hm.symm) (hy.trans hm.symm)
  split at h
  · rename_i hk
    have hm : 2 = m := Option.some.inj h
    rw [Nat.eq_of_beq_eq_true hk]
    exact eqT75 xs ys w (hx.trans hm.symm) (hy.trans hm.symm)
  split at h
  · rename_i hk
    have hm : 2 = m := Option.some.inj h
    rw [Nat.eq_of_beq_eq_true hk]
    exact eqT77 xs ys w (hx.trans hm.symm) (hy.trans hm.symm)
  cases h
theorem eqAt_guard (t m : Nat) (h : eqAt t = some m) : Try.prog.eqGuardType Try.prog.depth t = false := by
  unfold eqAt at h
  split at h
  · rename_i hk
    have hm : 2 = m := Option.some.inj h
    rw [Nat.eq_of_beq_eq_true hk]
    exact Try.eqGuardType47
  split at h
  · rename_i hk
    have hm : 2 = m := Option.some.inj h
    rw [Nat.eq_of_beq_eq_true hk]
    exact Try.eqGuardType75
  split at h
  · rename_i hk
    have hm : 2 = m := Option.some.inj h
    rw [Nat.eq_of_beq_eq_true hk]
    exact Try.eqGuardType77
  cases h
theorem mixedP : Try.prog.follows .mixedOrders = true := by kernel_rfl
noncomputable def cx : Cx where
  P := Try.prog
  mixed := mixedP
  T := tiAt tiTab
  hT := fun t ti h => tiTab_ok (t, ti) (tiAt_mem h)
  E := eqAt
  hE := eqAt_eq
  hG := eqAt_guard
  M := fun _ => none
  hM := fun _ _ _ _ h => nomatch h

end Go.Proofs.Ytpiaaeggofnphaa
