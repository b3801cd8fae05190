/- The data, and what is known of the types of the program. -/
import Derived.Test.YtcjafpnecoopgaaGreatAm34
import Derived.Test.YtcjafpnecoopgaaGreatProg
set_option linter.unusedVariables false
set_option linter.unusedSimpArgs false
namespace Go.Proofs.YtcjafpnecoopgaaGreat
open Go

def eI (x : Int) : List V := [vi x]
def eU8 (x : Int) : List V := [.i .u8 x]
def eB (x : Bool) : List V := [.b x]
structure TReq where
  Who : Int
  Seq : Int
def eReq (x : TReq) : List V := [vi x.Who, vi x.Seq]
structure TRead where
  Box : Int
  Ver : Int
def eRead (x : TRead) : List V := [vi x.Box, vi x.Ver]
structure TPut where
  Box : Int
  Val : Int
def ePut (x : TPut) : List V := [vi x.Box, vi x.Val]
structure TRun where
  Reads : List TRead
  Puts : List TPut
  Val : Int
  Code : Int
def eRun (x : TRun) : List V := [vsl 2 eRead x.Reads, vsl 2 ePut x.Puts, vi x.Val, vi x.Code]
structure TEntry where
  None : Bool
  Req : TReq
  Run : TRun
def eEntry (x : TEntry) : List V := [.b x.None, vi x.Req.Who, vi x.Req.Seq, vsl 2 eRead x.Run.Reads, vsl 2 ePut x.Run.Puts, vi x.Run.Val, vi x.Run.Code]
structure TVote where
  Bal : Int
  Entry : TEntry
def eVote (x : TVote) : List V := [vi x.Bal, .b x.Entry.None, vi x.Entry.Req.Who, vi x.Entry.Req.Seq, vsl 2 eRead x.Entry.Run.Reads, vsl 2 ePut x.Entry.Run.Puts, vi x.Entry.Run.Val, vi x.Entry.Run.Code]
structure TAcc where
  Promised : Int
  Votes : List TVote
def eAcc (x : TAcc) : List V := [vi x.Promised, vsl 8 eVote x.Votes]
structure TIns where
  Kind : Int
  A : Int
  B : Int
  N : Int
def eIns (x : TIns) : List V := [vi x.Kind, vi x.A, vi x.B, vi x.N]
structure TNode where
  Id : Int
  Acc : TAcc
  Known : List TEntry
  Seq : Int
  Phase : Int
  Bal : Int
  From : List Bool
  Best : List TVote
  Cur : TEntry
  Votes : List Bool
  Busy : Bool
  Prog : List TIns
  Want : TEntry
  Queue : List TEntry
def eNode (x : TNode) : List V := [vi x.Id, vi x.Acc.Promised, vsl 8 eVote x.Acc.Votes, vsl 7 eEntry x.Known, vi x.Seq, vi x.Phase, vi x.Bal, vsl 1 eB x.From, vsl 8 eVote x.Best, .b x.Cur.None, vi x.Cur.Req.Who, vi x.Cur.Req.Seq, vsl 2 eRead x.Cur.Run.Reads, vsl 2 ePut x.Cur.Run.Puts, vi x.Cur.Run.Val, vi x.Cur.Run.Code, vsl 1 eB x.Votes, .b x.Busy, vsl 4 eIns x.Prog, .b x.Want.None, vi x.Want.Req.Who, vi x.Want.Req.Seq, vsl 2 eRead x.Want.Run.Reads, vsl 2 ePut x.Want.Run.Puts, vi x.Want.Run.Val, vi x.Want.Run.Code, vsl 7 eEntry x.Queue]
structure TMsg where
  Kind : Int
  From : Int
  To : Int
  Bal : Int
  Slot : Int
  Entry : TEntry
  Votes : List TVote
def eMsg (x : TMsg) : List V := [vi x.Kind, vi x.From, vi x.To, vi x.Bal, vi x.Slot, .b x.Entry.None, vi x.Entry.Req.Who, vi x.Entry.Req.Seq, vsl 2 eRead x.Entry.Run.Reads, vsl 2 ePut x.Entry.Run.Puts, vi x.Entry.Run.Val, vi x.Entry.Run.Code, vsl 8 eVote x.Votes]
structure TAsked where
  Req : TReq
  Prog : List TIns
def eAsked (x : TAsked) : List V := [vi x.Req.Who, vi x.Req.Seq, vsl 4 eIns x.Prog]
structure TTold where
  Node : Int
  Req : TReq
  Code : Int
  Val : Int
def eTold (x : TTold) : List V := [vi x.Node, vi x.Req.Who, vi x.Req.Seq, vi x.Code, vi x.Val]
structure TWorld where
  Nodes : List TNode
  Net : List TMsg
  Asked : List TAsked
  Told : List TTold
def eWorld (x : TWorld) : List V := [vsl 27 eNode x.Nodes, vsl 13 eMsg x.Net, vsl 3 eAsked x.Asked, vsl 5 eTold x.Told]
def ck27 : List (Option Nat) := [some 27, some 13, some 3, some 5]
def ck35 : List (Option Nat) := [some 27, some 13, some 3, some 5]
def ck48 : List (Option Nat) := [some 2, some 2, none, none]
def ck50 : List (Option Nat) := [none, none, none, some 2, some 2, none, none]
def ck52 : List (Option Nat) := [none, none, none, none, some 2, some 2, none, none]
def ck61 : List (Option Nat) := [none, none, some 8, some 7, none, none, none, some 1, some 8, none, none, none, some 2, some 2, none, none, some 1, none, some 4, none, none, none, some 2, some 2, none, none, some 7]
def ck80 : List (Option Nat) := [some 2, some 2, none, none]
def ck82 : List (Option Nat) := [none, none, none, some 2, some 2, none, none]
def ck85 : List (Option Nat) := [none, none, some 8, some 7, none, none, none, some 1, some 8, none, none, none, some 2, some 2, none, none, some 1, none, some 4, none, none, none, some 2, some 2, none, none, some 7]
def ck88 : List (Option Nat) := [none, none, none, none, none, none, none, none, some 2, some 2, none, none, some 8]
def ck95 : List (Option Nat) := [none, none, none, none, none, none, none, none, some 2, some 2, none, none, some 8]
def ck150 : List (Option Nat) := [none, none, none, none, some 2, some 2, none, none]
theorem eqA44 (d : Nat) (w : World) (x0 x1 y0 y1 : Int) : (Op.equalIn (d + 2) 44 (.agg #[.int .i64 x0, .int .i64 x1]) (.agg #[.int .i64 y0, .int .i64 y1])).run Tryz.prog w = .ok ((x0 == y0) && ((x1 == y1) && true)) w := by
  refine eq_of_fields Tryz.underlying44 Tryz.stoodInHeld44 ?_
  refine eqf_cons (by rfl) (by first | (go_simp; done) | (go_simp; rfl)) (by first | (go_simp; done) | (go_simp; rfl)) (eq_of_int Tryz.underlying3) ?_
  refine eqf_cons (by rfl) (by first | (go_simp; done) | (go_simp; rfl)) (by first | (go_simp; done) | (go_simp; rfl)) (eq_of_int Tryz.underlying3) ?_
  exact eqf_nil
theorem eqT44 (xs ys : List Int) (w : World) (hx : xs.length = 2) (hy : ys.length = 2) : (Op.equal 44 (.agg (xs.map (Value.int .i64)).toArray) (.agg (ys.map (Value.int .i64)).toArray)).run Tryz.prog w = .ok (xs == ys) w := by
  match xs, ys, hx, hy with
  | [x0, x1], [y0, y1], _, _ =>
    have h := eqA44 9998 w x0 x1 y0 y1
    have e : ((x0 == y0) && ((x1 == y1) && true)) = ([x0, x1] == ([y0, y1] : List Int)) := by simp [Bool.and_assoc]
    rw [e] at h
    exact h
theorem eqA130 (d : Nat) (w : World) (x0 x1 y0 y1 : Int) : (Op.equalIn (d + 2) 130 (.agg #[.int .i64 x0, .int .i64 x1]) (.agg #[.int .i64 y0, .int .i64 y1])).run Tryz.prog w = .ok ((x0 == y0) && ((x1 == y1) && true)) w := by
  refine eq_of_fields Tryz.underlying130 Tryz.stoodInHeld130 ?_
  refine eqf_cons (by rfl) (by first | (go_simp; done) | (go_simp; rfl)) (by first | (go_simp; done) | (go_simp; rfl)) (eq_of_int Tryz.underlying3) ?_
  refine eqf_cons (by rfl) (by first | (go_simp; done) | (go_simp; rfl)) (by first | (go_simp; done) | (go_simp; rfl)) (eq_of_int Tryz.underlying3) ?_
  exact eqf_nil
theorem eqT130 (xs ys : List Int) (w : World) (hx : xs.length = 2) (hy : ys.length = 2) : (Op.equal 130 (.agg (xs.map (Value.int .i64)).toArray) (.agg (ys.map (Value.int .i64)).toArray)).run Tryz.prog w = .ok (xs == ys) w := by
  match xs, ys, hx, hy with
  | [x0, x1], [y0, y1], _, _ =>
    have h := eqA130 9998 w x0 x1 y0 y1
    have e : ((x0 == y0) && ((x1 == y1) && true)) = ([x0, x1] == ([y0, y1] : List Int)) := by simp [Bool.and_assoc]
    rw [e] at h
    exact h
theorem eqA132 (d : Nat) (w : World) (x0 x1 y0 y1 : Int) : (Op.equalIn (d + 2) 132 (.agg #[.int .i64 x0, .int .i64 x1]) (.agg #[.int .i64 y0, .int .i64 y1])).run Tryz.prog w = .ok ((x0 == y0) && ((x1 == y1) && true)) w := by
  refine eq_of_fields Tryz.underlying132 Tryz.stoodInHeld132 ?_
  refine eqf_cons (by rfl) (by first | (go_simp; done) | (go_simp; rfl)) (by first | (go_simp; done) | (go_simp; rfl)) (eq_of_int Tryz.underlying3) ?_
  refine eqf_cons (by rfl) (by first | (go_simp; done) | (go_simp; rfl)) (by first | (go_simp; done) | (go_simp; rfl)) (eq_of_int Tryz.underlying3) ?_
  exact eqf_nil
theorem eqT132 (xs ys : List Int) (w : World) (hx : xs.length = 2) (hy : ys.length = 2) : (Op.equal 132 (.agg (xs.map (Value.int .i64)).toArray) (.agg (ys.map (Value.int .i64)).toArray)).run Tryz.prog w = .ok (xs == ys) w := by
  match xs, ys, hx, hy with
  | [x0, x1], [y0, y1], _, _ =>
    have h := eqA132 9998 w x0 x1 y0 y1
    have e : ((x0 == y0) && ((x1 == y1) && true)) = ([x0, x1] == ([y0, y1] : List Int)) := by simp [Bool.and_assoc]
    rw [e] at h
    exact h
def ti3 : TI := { size := 1, bytes := 8, agg := false, zero := [vi 0], sl := none, arr := none, ik := some .i64, fs := none, str := false, ptr := none, bl := false }
def ti4 : TI := { size := 1, bytes := 1, agg := false, zero := [.b false], sl := none, arr := none, ik := none, fs := none, str := false, ptr := none, bl := true }
def ti22 : TI := { size := 1, bytes := 24, agg := false, zero := [.nil], sl := some 85, arr := none, ik := none, fs := none, str := false, ptr := none, bl := false }
def ti23 : TI := { size := 1, bytes := 24, agg := false, zero := [.nil], sl := some 88, arr := none, ik := none, fs := none, str := false, ptr := none, bl := false }
def ti24 : TI := { size := 1, bytes := 24, agg := false, zero := [.nil], sl := some 91, arr := none, ik := none, fs := none, str := false, ptr := none, bl := false }
def ti25 : TI := { size := 1, bytes := 24, agg := false, zero := [.nil], sl := some 109, arr := none, ik := none, fs := none, str := false, ptr := none, bl := false }
def ti27 : TI := { size := 4, bytes := 96, agg := true, zero := [.nil, .nil, .nil, .nil], sl := none, arr := none, ik := none, fs := some [(0, 22), (1, 23), (2, 24), (3, 25)], str := false, ptr := none, bl := false }
def ti30 : TI := { size := 1, bytes := 24, agg := false, zero := [.nil], sl := some 61, arr := none, ik := none, fs := none, str := false, ptr := none, bl := false }
def ti31 : TI := { size := 1, bytes := 24, agg := false, zero := [.nil], sl := some 95, arr := none, ik := none, fs := none, str := false, ptr := none, bl := false }
def ti32 : TI := { size := 1, bytes := 24, agg := false, zero := [.nil], sl := some 98, arr := none, ik := none, fs := none, str := false, ptr := none, bl := false }
def ti33 : TI := { size := 1, bytes := 24, agg := false, zero := [.nil], sl := some 102, arr := none, ik := none, fs := none, str := false, ptr := none, bl := false }
def ti35 : TI := { size := 4, bytes := 96, agg := true, zero := [.nil, .nil, .nil, .nil], sl := none, arr := none, ik := none, fs := some [(0, 30), (1, 31), (2, 32), (3, 33)], str := false, ptr := none, bl := false }
def ti44 : TI := { size := 2, bytes := 16, agg := true, zero := [vi 0, vi 0], sl := none, arr := none, ik := none, fs := some [(0, 3), (1, 3)], str := false, ptr := none, bl := false }
def ti45 : TI := { size := 1, bytes := 24, agg := false, zero := [.nil], sl := some 130, arr := none, ik := none, fs := none, str := false, ptr := none, bl := false }
def ti46 : TI := { size := 1, bytes := 24, agg := false, zero := [.nil], sl := some 132, arr := none, ik := none, fs := none, str := false, ptr := none, bl := false }
def ti48 : TI := { size := 4, bytes := 64, agg := true, zero := [.nil, .nil, vi 0, vi 0], sl := none, arr := none, ik := none, fs := some [(0, 45), (1, 46), (2, 3), (3, 3)], str := false, ptr := none, bl := false }
def ti50 : TI := { size := 7, bytes := 88, agg := true, zero := [.b false, vi 0, vi 0, .nil, .nil, vi 0, vi 0], sl := none, arr := none, ik := none, fs := some [(0, 4), (1, 44), (3, 48)], str := false, ptr := none, bl := false }
def ti52 : TI := { size := 8, bytes := 96, agg := true, zero := [vi 0, .b false, vi 0, vi 0, .nil, .nil, vi 0, vi 0], sl := none, arr := none, ik := none, fs := some [(0, 3), (1, 50)], str := false, ptr := none, bl := false }
def ti54 : TI := { size := 1, bytes := 24, agg := false, zero := [.nil], sl := some 52, arr := none, ik := none, fs := none, str := false, ptr := none, bl := false }
def ti56 : TI := { size := 2, bytes := 32, agg := true, zero := [vi 0, .nil], sl := none, arr := none, ik := none, fs := some [(0, 3), (1, 54)], str := false, ptr := none, bl := false }
def ti57 : TI := { size := 1, bytes := 24, agg := false, zero := [.nil], sl := some 50, arr := none, ik := none, fs := none, str := false, ptr := none, bl := false }
def ti58 : TI := { size := 1, bytes := 24, agg := false, zero := [.nil], sl := some 4, arr := none, ik := none, fs := none, str := false, ptr := none, bl := false }
def ti59 : TI := { size := 1, bytes := 24, agg := false, zero := [.nil], sl := some 128, arr := none, ik := none, fs := none, str := false, ptr := none, bl := false }
def ti61 : TI := { size := 27, bytes := 392, agg := true, zero := [vi 0, vi 0, .nil, .nil, vi 0, vi 0, vi 0, .nil, .nil, .b false, vi 0, vi 0, .nil, .nil, vi 0, vi 0, .nil, .b false, .nil, .b false, vi 0, vi 0, .nil, .nil, vi 0, vi 0, .nil], sl := none, arr := none, ik := none, fs := some [(0, 3), (1, 56), (3, 57), (4, 3), (5, 3), (6, 3), (7, 58), (8, 54), (9, 50), (16, 58), (17, 4), (18, 59), (19, 50), (26, 57)], str := false, ptr := none, bl := false }
def ti72 : TI := { size := 1, bytes := 24, agg := false, zero := [.nil], sl := some 150, arr := none, ik := none, fs := none, str := false, ptr := none, bl := false }
def ti74 : TI := { size := 2, bytes := 32, agg := true, zero := [vi 0, .nil], sl := none, arr := none, ik := none, fs := some [(0, 3), (1, 72)], str := false, ptr := none, bl := false }
def ti75 : TI := { size := 1, bytes := 24, agg := false, zero := [.nil], sl := some 82, arr := none, ik := none, fs := none, str := false, ptr := none, bl := false }
def ti76 : TI := { size := 2, bytes := 16, agg := true, zero := [vi 0, vi 0], sl := none, arr := none, ik := none, fs := some [(0, 3), (1, 3)], str := false, ptr := none, bl := false }
def ti77 : TI := { size := 1, bytes := 24, agg := false, zero := [.nil], sl := some 170, arr := none, ik := none, fs := none, str := false, ptr := none, bl := false }
def ti78 : TI := { size := 1, bytes := 24, agg := false, zero := [.nil], sl := some 172, arr := none, ik := none, fs := none, str := false, ptr := none, bl := false }
def ti80 : TI := { size := 4, bytes := 64, agg := true, zero := [.nil, .nil, vi 0, vi 0], sl := none, arr := none, ik := none, fs := some [(0, 77), (1, 78), (2, 3), (3, 3)], str := false, ptr := none, bl := false }
def ti82 : TI := { size := 7, bytes := 88, agg := true, zero := [.b false, vi 0, vi 0, .nil, .nil, vi 0, vi 0], sl := none, arr := none, ik := none, fs := some [(0, 4), (1, 76), (3, 80)], str := false, ptr := none, bl := false }
def ti83 : TI := { size := 1, bytes := 24, agg := false, zero := [.nil], sl := some 158, arr := none, ik := none, fs := none, str := false, ptr := none, bl := false }
def ti85 : TI := { size := 27, bytes := 392, agg := true, zero := [vi 0, vi 0, .nil, .nil, vi 0, vi 0, vi 0, .nil, .nil, .b false, vi 0, vi 0, .nil, .nil, vi 0, vi 0, .nil, .b false, .nil, .b false, vi 0, vi 0, .nil, .nil, vi 0, vi 0, .nil], sl := none, arr := none, ik := none, fs := some [(0, 3), (1, 74), (3, 75), (4, 3), (5, 3), (6, 3), (7, 58), (8, 72), (9, 82), (16, 58), (17, 4), (18, 83), (19, 82), (26, 75)], str := false, ptr := none, bl := false }
def ti88 : TI := { size := 13, bytes := 152, agg := true, zero := [vi 0, vi 0, vi 0, vi 0, vi 0, .b false, vi 0, vi 0, .nil, .nil, vi 0, vi 0, .nil], sl := none, arr := none, ik := none, fs := some [(0, 3), (1, 3), (2, 3), (3, 3), (4, 3), (5, 82), (12, 72)], str := false, ptr := none, bl := false }
def ti91 : TI := { size := 3, bytes := 40, agg := true, zero := [vi 0, vi 0, .nil], sl := none, arr := none, ik := none, fs := some [(0, 76), (2, 83)], str := false, ptr := none, bl := false }
def ti95 : TI := { size := 13, bytes := 152, agg := true, zero := [vi 0, vi 0, vi 0, vi 0, vi 0, .b false, vi 0, vi 0, .nil, .nil, vi 0, vi 0, .nil], sl := none, arr := none, ik := none, fs := some [(0, 3), (1, 3), (2, 3), (3, 3), (4, 3), (5, 50), (12, 54)], str := false, ptr := none, bl := false }
def ti98 : TI := { size := 3, bytes := 40, agg := true, zero := [vi 0, vi 0, .nil], sl := none, arr := none, ik := none, fs := some [(0, 44), (2, 59)], str := false, ptr := none, bl := false }
def ti102 : TI := { size := 5, bytes := 40, agg := true, zero := [vi 0, vi 0, vi 0, vi 0, vi 0], sl := none, arr := none, ik := none, fs := some [(0, 3), (1, 44), (3, 3), (4, 3)], str := false, ptr := none, bl := false }
def ti109 : TI := { size := 5, bytes := 40, agg := true, zero := [vi 0, vi 0, vi 0, vi 0, vi 0], sl := none, arr := none, ik := none, fs := some [(0, 3), (1, 76), (3, 3), (4, 3)], str := false, ptr := none, bl := false }
def ti128 : TI := { size := 4, bytes := 32, agg := true, zero := [vi 0, vi 0, vi 0, vi 0], sl := none, arr := none, ik := none, fs := some [(0, 3), (1, 3), (2, 3), (3, 3)], str := false, ptr := none, bl := false }
def ti130 : TI := { size := 2, bytes := 16, agg := true, zero := [vi 0, vi 0], sl := none, arr := none, ik := none, fs := some [(0, 3), (1, 3)], str := false, ptr := none, bl := false }
def ti132 : TI := { size := 2, bytes := 16, agg := true, zero := [vi 0, vi 0], sl := none, arr := none, ik := none, fs := some [(0, 3), (1, 3)], str := false, ptr := none, bl := false }
def ti150 : TI := { size := 8, bytes := 96, agg := true, zero := [vi 0, .b false, vi 0, vi 0, .nil, .nil, vi 0, vi 0], sl := none, arr := none, ik := none, fs := some [(0, 3), (1, 82)], str := false, ptr := none, bl := false }
def ti158 : TI := { size := 4, bytes := 32, agg := true, zero := [vi 0, vi 0, vi 0, vi 0], sl := none, arr := none, ik := none, fs := some [(0, 3), (1, 3), (2, 3), (3, 3)], str := false, ptr := none, bl := false }
def ti168 : TI := { size := 4, bytes := 4, agg := true, zero := [.b false, .b false, .b false, .b false], sl := none, arr := some (4, 4), ik := none, fs := none, str := false, ptr := none, bl := false }
def ti170 : TI := { size := 2, bytes := 16, agg := true, zero := [vi 0, vi 0], sl := none, arr := none, ik := none, fs := some [(0, 3), (1, 3)], str := false, ptr := none, bl := false }
def ti172 : TI := { size := 2, bytes := 16, agg := true, zero := [vi 0, vi 0], sl := none, arr := none, ik := none, fs := some [(0, 3), (1, 3)], str := false, ptr := none, bl := false }
def tiTab : List (Nat × TI) := [(3, ti3), (4, ti4), (22, ti22), (23, ti23), (24, ti24), (25, ti25), (27, ti27), (30, ti30), (31, ti31), (32, ti32), (33, ti33), (35, ti35), (44, ti44), (45, ti45), (46, ti46), (48, ti48), (50, ti50), (52, ti52), (54, ti54), (56, ti56), (57, ti57), (58, ti58), (59, ti59), (61, ti61), (72, ti72), (74, ti74), (75, ti75), (76, ti76), (77, ti77), (78, ti78), (80, ti80), (82, ti82), (83, ti83), (85, ti85), (88, ti88), (91, ti91), (95, ti95), (98, ti98), (102, ti102), (109, ti109), (128, ti128), (130, ti130), (132, ti132), (150, ti150), (158, ti158), (168, ti168), (170, ti170), (172, ti172)]
def tiAt : List (Nat × TI) → Nat → Option TI
  | [], _ => none
  | (k, x) :: l, t => if Nat.beq k t then some x else tiAt l t
theorem tiAt_mem {l : List (Nat × TI)} {t : Nat} {x : TI} (h : tiAt l t = some x) : (t, x) ∈ l := by
  induction l with
  | nil => cases h
  | cons p l ih =>
    obtain ⟨k, y⟩ := p
    unfold tiAt at h
    split at h
    · rename_i hk
      have : k = t := Nat.eq_of_beq_eq_true hk
      injection h with h
      subst this; subst h
      simp
    · exact List.mem_cons.2 (.inr (ih h))
theorem tiOf3 : tiOf Tryz.prog 3 = some ti3 := by kernel_rfl
theorem tiOf4 : tiOf Tryz.prog 4 = some ti4 := by kernel_rfl
theorem tiOf22 : tiOf Tryz.prog 22 = some ti22 := by kernel_rfl
theorem tiOf23 : tiOf Tryz.prog 23 = some ti23 := by kernel_rfl
theorem tiOf24 : tiOf Tryz.prog 24 = some ti24 := by kernel_rfl
theorem tiOf25 : tiOf Tryz.prog 25 = some ti25 := by kernel_rfl
theorem tiOf27 : tiOf Tryz.prog 27 = some ti27 := by kernel_rfl
theorem tiOf30 : tiOf Tryz.prog 30 = some ti30 := by kernel_rfl
theorem tiOf31 : tiOf Tryz.prog 31 = some ti31 := by kernel_rfl
theorem tiOf32 : tiOf Tryz.prog 32 = some ti32 := by kernel_rfl
theorem tiOf33 : tiOf Tryz.prog 33 = some ti33 := by kernel_rfl
theorem tiOf35 : tiOf Tryz.prog 35 = some ti35 := by kernel_rfl
theorem tiOf44 : tiOf Tryz.prog 44 = some ti44 := by kernel_rfl
theorem tiOf45 : tiOf Tryz.prog 45 = some ti45 := by kernel_rfl
theorem tiOf46 : tiOf Tryz.prog 46 = some ti46 := by kernel_rfl
theorem tiOf48 : tiOf Tryz.prog 48 = some ti48 := by kernel_rfl
theorem tiOf50 : tiOf Tryz.prog 50 = some ti50 := by kernel_rfl
theorem tiOf52 : tiOf Tryz.prog 52 = some ti52 := by kernel_rfl
theorem tiOf54 : tiOf Tryz.prog 54 = some ti54 := by kernel_rfl
theorem tiOf56 : tiOf Tryz.prog 56 = some ti56 := by kernel_rfl
theorem tiOf57 : tiOf Tryz.prog 57 = some ti57 := by kernel_rfl
theorem tiOf58 : tiOf Tryz.prog 58 = some ti58 := by kernel_rfl
theorem tiOf59 : tiOf Tryz.prog 59 = some ti59 := by kernel_rfl
theorem tiOf61 : tiOf Tryz.prog 61 = some ti61 := by kernel_rfl
theorem tiOf72 : tiOf Tryz.prog 72 = some ti72 := by kernel_rfl
theorem tiOf74 : tiOf Tryz.prog 74 = some ti74 := by kernel_rfl
theorem tiOf75 : tiOf Tryz.prog 75 = some ti75 := by kernel_rfl
theorem tiOf76 : tiOf Tryz.prog 76 = some ti76 := by kernel_rfl
theorem tiOf77 : tiOf Tryz.prog 77 = some ti77 := by kernel_rfl
theorem tiOf78 : tiOf Tryz.prog 78 = some ti78 := by kernel_rfl
theorem tiOf80 : tiOf Tryz.prog 80 = some ti80 := by kernel_rfl
theorem tiOf82 : tiOf Tryz.prog 82 = some ti82 := by kernel_rfl
theorem tiOf83 : tiOf Tryz.prog 83 = some ti83 := by kernel_rfl
theorem tiOf85 : tiOf Tryz.prog 85 = some ti85 := by kernel_rfl
theorem tiOf88 : tiOf Tryz.prog 88 = some ti88 := by kernel_rfl
theorem tiOf91 : tiOf Tryz.prog 91 = some ti91 := by kernel_rfl
theorem tiOf95 : tiOf Tryz.prog 95 = some ti95 := by kernel_rfl
theorem tiOf98 : tiOf Tryz.prog 98 = some ti98 := by kernel_rfl
theorem tiOf102 : tiOf Tryz.prog 102 = some ti102 := by kernel_rfl
theorem tiOf109 : tiOf Tryz.prog 109 = some ti109 := by kernel_rfl
theorem tiOf128 : tiOf Tryz.prog 128 = some ti128 := by kernel_rfl
theorem tiOf130 : tiOf Tryz.prog 130 = some ti130 := by kernel_rfl
theorem tiOf132 : tiOf Tryz.prog 132 = some ti132 := by kernel_rfl
theorem tiOf150 : tiOf Tryz.prog 150 = some ti150 := by kernel_rfl
theorem tiOf158 : tiOf Tryz.prog 158 = some ti158 := by kernel_rfl
theorem tiOf168 : tiOf Tryz.prog 168 = some ti168 := by kernel_rfl
theorem tiOf170 : tiOf Tryz.prog 170 = some ti170 := by kernel_rfl
theorem tiOf172 : tiOf Tryz.prog 172 = some ti172 := by kernel_rfl
theorem tiTab_ok : ∀ p ∈ tiTab, tiOf Tryz.prog p.1 = some p.2 := by
  intro p hp
  simp only [tiTab, List.mem_cons, List.not_mem_nil, or_false] at hp
  rcases hp with rfl | rfl | rfl | rfl | rfl | rfl | rfl | rfl | rfl | rfl | rfl | rfl | rfl | rfl | rfl | rfl | rfl | rfl | rfl | rfl | rfl | rfl | rfl | rfl | rfl | rfl | rfl | rfl | rfl | rfl | rfl | rfl | rfl | rfl | rfl | rfl | rfl | rfl | rfl | rfl | rfl | rfl | rfl | rfl | rfl | rfl | rfl | rfl
  · exact tiOf3
  · exact tiOf4
  · exact tiOf22
  · exact tiOf23
  · exact tiOf24
  · exact tiOf25
  · exact tiOf27
  · exact tiOf30
  · exact tiOf31
  · exact tiOf32
  · exact tiOf33
  · exact tiOf35
  · exact tiOf44
  · exact tiOf45
  · exact tiOf46
  · exact tiOf48
  · exact tiOf50
  · exact tiOf52
  · exact tiOf54
  · exact tiOf56
  · exact tiOf57
  · exact tiOf58
  · exact tiOf59
  · exact tiOf61
  · exact tiOf72
  · exact tiOf74
  · exact tiOf75
  · exact tiOf76
  · exact tiOf77
  · exact tiOf78
  · exact tiOf80
  · exact tiOf82
  · exact tiOf83
  · exact tiOf85
  · exact tiOf88
  · exact tiOf91
  · exact tiOf95
  · exact tiOf98
  · exact tiOf102
  · exact tiOf109
  · exact tiOf128
  · exact tiOf130
  · exact tiOf132
  · exact tiOf150
  · exact tiOf158
  · exact tiOf168
  · exact tiOf170
  · exact tiOf172
def eqAt (t : Nat) : Option Nat := if Nat.beq t 44 then some 2 else if Nat.beq t 130 then some 2 else if Nat.beq t 132 then some 2 else  none
theorem eqAt_eq (t m : Nat) (h : eqAt t = some m) (xs ys : List Int) (w : World) (hx : xs.length = m) (hy : ys.length = m) : (Op.equal t (.agg (xs.map (Value.int .i64)).toArray) (.agg (ys.map (Value.int .i64)).toArray)).run Tryz.prog w = .ok (xs == ys) w := by
  unfold eqAt at h
  split at h
  · rename_i hk
    have hm : 2 = m := Option.some.inj h
    rw [Nat.eq_of_beq_eq_true hk]
    exact eqT44 xs ys w (hx.trans hm.symm) (hy.trans hm.symm)
  split at h
  · rename_i hk
    have hm : 2 = m := Option.some.inj h
    rw [Nat.eq_of_beq_eq_true hk]
    exact eqT130 xs ys w (hx.trans hm.symm) (hy.trans hm.symm)
  split at h
  · rename_i hk
    have hm : 2 = m := Option.some.inj h
    rw [Nat.eq_of_beq_eq_true hk]
    exact eqT132 xs ys w (hx.trans hm.symm) (hy.trans hm.symm)
  cases h
theorem eqAt_guard (t m : Nat) (h : eqAt t = some m) : Tryz.prog.eqGuardType Tryz.prog.depth t = false := by
  unfold eqAt at h
  split at h
  · rename_i hk
    have hm : 2 = m := Option.some.inj h
    rw [Nat.eq_of_beq_eq_true hk]
    exact Tryz.eqGuardType44
  split at h
  · rename_i hk
    have hm : 2 = m := Option.some.inj h
    rw [Nat.eq_of_beq_eq_true hk]
    exact Tryz.eqGuardType130
  split at h
  · rename_i hk
    have hm : 2 = m := Option.some.inj h
    rw [Nat.eq_of_beq_eq_true hk]
    exact Tryz.eqGuardType132
  cases h
theorem mixedP : Tryz.prog.follows .mixedOrders = true := by kernel_rfl
noncomputable def cx : Cx where
  P := Tryz.prog
  mixed := mixedP
  T := tiAt tiTab
  hT := fun t ti h => tiTab_ok (t, ti) (tiAt_mem h)
  E := eqAt
  hE := eqAt_eq
  hG := eqAt_guard

end Go.Proofs.YtcjafpnecoopgaaGreat
