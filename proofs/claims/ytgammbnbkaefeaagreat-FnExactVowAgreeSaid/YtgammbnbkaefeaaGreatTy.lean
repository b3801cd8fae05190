/- The data, and what is known of the types of the program. -/
import Derived.Test.YtgammbnbkaefeaaGreatAm34
import Derived.Test.YtgammbnbkaefeaaGreatProg
set_option linter.unusedVariables false
set_option linter.unusedSimpArgs false
namespace Go.Proofs.YtgammbnbkaefeaaGreat
open Go

def eI (x : Int) : List V := [vi x]
def eU8 (x : Int) : List V := [.i .u8 x]
def eB (x : Bool) : List V := [.b x]
structure TReq where
  Who : Int
  Seq : Int
def eReq (x : TReq) : List V := [vi x.Who, vi x.Seq]
structure TRead where
  Box : Int
  Ver : Int
def eRead (x : TRead) : List V := [vi x.Box, vi x.Ver]
structure TPut where
  Box : Int
  Val : Int
def ePut (x : TPut) : List V := [vi x.Box, vi x.Val]
structure TRun where
  Reads : List TRead
  Puts : List TPut
  Val : Int
  Code : Int
def eRun (x : TRun) : List V := [vsl 2 eRead x.Reads, vsl 2 ePut x.Puts, vi x.Val, vi x.Code]
structure TEntry where
  None : Bool
  Req : TReq
  Run : TRun
def eEntry (x : TEntry) : List V := [.b x.None, vi x.Req.Who, vi x.Req.Seq, vsl 2 eRead x.Run.Reads, vsl 2 ePut x.Run.Puts, vi x.Run.Val, vi x.Run.Code]
structure TVote where
  Bal : Int
  Entry : TEntry
def eVote (x : TVote) : List V := [vi x.Bal, .b x.Entry.None, vi x.Entry.Req.Who, vi x.Entry.Req.Seq, vsl 2 eRead x.Entry.Run.Reads, vsl 2 ePut x.Entry.Run.Puts, vi x.Entry.Run.Val, vi x.Entry.Run.Code]
structure TAcc where
  Promised : Int
  Votes : List TVote
def eAcc (x : TAcc) : List V := [vi x.Promised, vsl 8 eVote x.Votes]
structure TIns where
  Kind : Int
  A : Int
  B : Int
  N : Int
def eIns (x : TIns) : List V := [vi x.Kind, vi x.A, vi x.B, vi x.N]
structure TNode where
  Id : Int
  Acc : TAcc
  Known : List TEntry
  Seq : Int
  Phase : Int
  Bal : Int
  From : List Bool
  Best : List TVote
  Cur : TEntry
  Votes : List Bool
  Busy : Bool
  Prog : List TIns
  Want : TEntry
  Queue : List TEntry
def eNode (x : TNode) : List V := [vi x.Id, vi x.Acc.Promised, vsl 8 eVote x.Acc.Votes, vsl 7 eEntry x.Known, vi x.Seq, vi x.Phase, vi x.Bal, vsl 1 eB x.From, vsl 8 eVote x.Best, .b x.Cur.None, vi x.Cur.Req.Who, vi x.Cur.Req.Seq, vsl 2 eRead x.Cur.Run.Reads, vsl 2 ePut x.Cur.Run.Puts, vi x.Cur.Run.Val, vi x.Cur.Run.Code, vsl 1 eB x.Votes, .b x.Busy, vsl 4 eIns x.Prog, .b x.Want.None, vi x.Want.Req.Who, vi x.Want.Req.Seq, vsl 2 eRead x.Want.Run.Reads, vsl 2 ePut x.Want.Run.Puts, vi x.Want.Run.Val, vi x.Want.Run.Code, vsl 7 eEntry x.Queue]
structure TMsg where
  Kind : Int
  From : Int
  To : Int
  Bal : Int
  Slot : Int
  Entry : TEntry
  Votes : List TVote
def eMsg (x : TMsg) : List V := [vi x.Kind, vi x.From, vi x.To, vi x.Bal, vi x.Slot, .b x.Entry.None, vi x.Entry.Req.Who, vi x.Entry.Req.Seq, vsl 2 eRead x.Entry.Run.Reads, vsl 2 ePut x.Entry.Run.Puts, vi x.Entry.Run.Val, vi x.Entry.Run.Code, vsl 8 eVote x.Votes]
structure TAsked where
  Req : TReq
  Prog : List TIns
def eAsked (x : TAsked) : List V := [vi x.Req.Who, vi x.Req.Seq, vsl 4 eIns x.Prog]
structure TTold where
  Node : Int
  Req : TReq
  Code : Int
  Val : Int
def eTold (x : TTold) : List V := [vi x.Node, vi x.Req.Who, vi x.Req.Seq, vi x.Code, vi x.Val]
structure TWorld where
  Nodes : List TNode
  Net : List TMsg
  Asked : List TAsked
  Told : List TTold
def eWorld (x : TWorld) : List V := [vsl 27 eNode x.Nodes, vsl 13 eMsg x.Net, vsl 3 eAsked x.Asked, vsl 5 eTold x.Told]
def ck27 : List (Option Nat) := [some 27, some 13, some 3, some 5]
def ck35 : List (Option Nat) := [some 27, some 13, some 3, some 5]
def ck54 : List (Option Nat) := [some 2, some 2, none, none]
def ck56 : List (Option Nat) := [none, none, none, some 2, some 2, none, none]
def ck59 : List (Option Nat) := [none, none, some 8, some 7, none, none, none, some 1, some 8, none, none, none, some 2, some 2, none, none, some 1, none, some 4, none, none, none, some 2, some 2, none, none, some 7]
def ck78 : List (Option Nat) := [some 2, some 2, none, none]
def ck80 : List (Option Nat) := [none, none, none, some 2, some 2, none, none]
def ck83 : List (Option Nat) := [none, none, some 8, some 7, none, none, none, some 1, some 8, none, none, none, some 2, some 2, none, none, some 1, none, some 4, none, none, none, some 2, some 2, none, none, some 7]
def ck86 : List (Option Nat) := [none, none, none, none, none, none, none, none, some 2, some 2, none, none, some 8]
def ck93 : List (Option Nat) := [none, none, none, none, none, none, none, none, some 2, some 2, none, none, some 8]
def ck147 : List (Option Nat) := [none, none, none, none, some 2, some 2, none, none]
def ck150 : List (Option Nat) := [none, none, none, none, some 2, some 2, none, none]
theorem eqA50 (d : Nat) (w : World) (x0 x1 y0 y1 : Int) : (Op.equalIn (d + 2) 50 (.agg #[.int .i64 x0, .int .i64 x1]) (.agg #[.int .i64 y0, .int .i64 y1])).run Tryz.prog w = .ok ((x0 == y0) && ((x1 == y1) && true)) w := by
  refine eq_of_fields Tryz.underlying50 Tryz.stoodInHeld50 ?_
  refine eqf_cons (by rfl) (by first | (go_simp; done) | (go_simp; rfl)) (by first | (go_simp; done) | (go_simp; rfl)) (eq_of_int Tryz.underlying3) ?_
  refine eqf_cons (by rfl) (by first | (go_simp; done) | (go_simp; rfl)) (by first | (go_simp; done) | (go_simp; rfl)) (eq_of_int Tryz.underlying3) ?_
  exact eqf_nil
theorem eqT50 (xs ys : List Int) (w : World) (hx : xs.length = 2) (hy : ys.length = 2) : (Op.equal 50 (.agg (xs.map (Value.int .i64)).toArray) (.agg (ys.map (Value.int .i64)).toArray)).run Tryz.prog w = .ok (xs == ys) w := by
  match xs, ys, hx, hy with
  | [x0, x1], [y0, y1], _, _ =>
    have h := eqA50 9998 w x0 x1 y0 y1
    have e : ((x0 == y0) && ((x1 == y1) && true)) = ([x0, x1] == ([y0, y1] : List Int)) := by simp [Bool.and_assoc]
    rw [e] at h
    exact h
theorem eqA136 (d : Nat) (w : World) (x0 x1 y0 y1 : Int) : (Op.equalIn (d + 2) 136 (.agg #[.int .i64 x0, .int .i64 x1]) (.agg #[.int .i64 y0, .int .i64 y1])).run Tryz.prog w = .ok ((x0 == y0) && ((x1 == y1) && true)) w := by
  refine eq_of_fields Tryz.underlying136 Tryz.stoodInHeld136 ?_
  refine eqf_cons (by rfl) (by first | (go_simp; done) | (go_simp; rfl)) (by first | (go_simp; done) | (go_simp; rfl)) (eq_of_int Tryz.underlying3) ?_
  refine eqf_cons (by rfl) (by first | (go_simp; done) | (go_simp; rfl)) (by first | (go_simp; done) | (go_simp; rfl)) (eq_of_int Tryz.underlying3) ?_
  exact eqf_nil
theorem eqT136 (xs ys : List Int) (w : World) (hx : xs.length = 2) (hy : ys.length = 2) : (Op.equal 136 (.agg (xs.map (Value.int .i64)).toArray) (.agg (ys.map (Value.int .i64)).toArray)).run Tryz.prog w = .ok (xs == ys) w := by
  match xs, ys, hx, hy with
  | [x0, x1], [y0, y1], _, _ =>
    have h := eqA136 9998 w x0 x1 y0 y1
    have e : ((x0 == y0) && ((x1 == y1) && true)) = ([x0, x1] == ([y0, y1] : List Int)) := by simp [Bool.and_assoc]
    rw [e] at h
    exact h
theorem eqA139 (d : Nat) (w : World) (x0 x1 y0 y1 : Int) : (Op.equalIn (d + 2) 139 (.agg #[.int .i64 x0, .int .i64 x1]) (.agg #[.int .i64 y0, .int .i64 y1])).run Tryz.prog w = .ok ((x0 == y0) && ((x1 == y1) && true)) w := by
  refine eq_of_fields Tryz.underlying139 Tryz.stoodInHeld139 ?_
  refine eqf_cons (by rfl) (by first | (go_simp; done) | (go_simp; rfl)) (by first | (go_simp; done) | (go_simp; rfl)) (eq_of_int Tryz.underlying3) ?_
  refine eqf_cons (by rfl) (by first | (go_simp; done) | (go_simp; rfl)) (by first | (go_simp; done) | (go_simp; rfl)) (eq_of_int Tryz.underlying3) ?_
  exact eqf_nil
theorem eqT139 (xs ys : List Int) (w : World) (hx : xs.length = 2) (hy : ys.length = 2) : (Op.equal 139 (.agg (xs.map (Value.int .i64)).toArray) (.agg (ys.map (Value.int .i64)).toArray)).run Tryz.prog w = .ok (xs == ys) w := by
  match xs, ys, hx, hy with
  | [x0, x1], [y0, y1], _, _ =>
    have h := eqA139 9998 w x0 x1 y0 y1
    have e : ((x0 == y0) && ((x1 == y1) && true)) = ([x0, x1] == ([y0, y1] : List Int)) := by simp [Bool.and_assoc]
    rw [e] at h
    exact h
def ti3 : TI := { size := 1, bytes := 8, agg := false, zero := [vi 0], sl := none, arr := none, ik := some .i64, fs := none, str := false, ptr := none, bl := false }
def ti4 : TI := { size := 1, bytes := 1, agg := false, zero := [.b false], sl := none, arr := none, ik := none, fs := none, str := false, ptr := none, bl := true }
def ti22 : TI := { size := 1, bytes := 24, agg := false, zero := [.nil], sl := some 83, arr := none, ik := none, fs := none, str := false, ptr := none, bl := false }
def ti23 : TI := { size := 1, bytes := 24, agg := false, zero := [.nil], sl := some 86, arr := none, ik := none, fs := none, str := false, ptr := none, bl := false }
def ti24 : TI := { size := 1, bytes := 24, agg := false, zero := [.nil], sl := some 89, arr := none, ik := none, fs := none, str := false, ptr := none, bl := false }
def ti25 : TI := { size := 1, bytes := 24, agg := false, zero := [.nil], sl := some 106, arr := none, ik := none, fs := none, str := false, ptr := none, bl := false }
def ti27 : TI := { size := 4, bytes := 96, agg := true, zero := [.nil, .nil, .nil, .nil], sl := none, arr := none, ik := none, fs := some [(0, 22), (1, 23), (2, 24), (3, 25)], str := false, ptr := none, bl := false }
def ti30 : TI := { size := 1, bytes := 24, agg := false, zero := [.nil], sl := some 59, arr := none, ik := none, fs := none, str := false, ptr := none, bl := false }
def ti31 : TI := { size := 1, bytes := 24, agg := false, zero := [.nil], sl := some 93, arr := none, ik := none, fs := none, str := false, ptr := none, bl := false }
def ti32 : TI := { size := 1, bytes := 24, agg := false, zero := [.nil], sl := some 96, arr := none, ik := none, fs := none, str := false, ptr := none, bl := false }
def ti33 : TI := { size := 1, bytes := 24, agg := false, zero := [.nil], sl := some 100, arr := none, ik := none, fs := none, str := false, ptr := none, bl := false }
def ti35 : TI := { size := 4, bytes := 96, agg := true, zero := [.nil, .nil, .nil, .nil], sl := none, arr := none, ik := none, fs := some [(0, 30), (1, 31), (2, 32), (3, 33)], str := false, ptr := none, bl := false }
def ti44 : TI := { size := 1, bytes := 24, agg := false, zero := [.nil], sl := some 150, arr := none, ik := none, fs := none, str := false, ptr := none, bl := false }
def ti46 : TI := { size := 2, bytes := 32, agg := true, zero := [vi 0, .nil], sl := none, arr := none, ik := none, fs := some [(0, 3), (1, 44)], str := false, ptr := none, bl := false }
def ti47 : TI := { size := 1, bytes := 24, agg := false, zero := [.nil], sl := some 56, arr := none, ik := none, fs := none, str := false, ptr := none, bl := false }
def ti48 : TI := { size := 1, bytes := 24, agg := false, zero := [.nil], sl := some 4, arr := none, ik := none, fs := none, str := false, ptr := none, bl := false }
def ti50 : TI := { size := 2, bytes := 16, agg := true, zero := [vi 0, vi 0], sl := none, arr := none, ik := none, fs := some [(0, 3), (1, 3)], str := false, ptr := none, bl := false }
def ti51 : TI := { size := 1, bytes := 24, agg := false, zero := [.nil], sl := some 136, arr := none, ik := none, fs := none, str := false, ptr := none, bl := false }
def ti52 : TI := { size := 1, bytes := 24, agg := false, zero := [.nil], sl := some 139, arr := none, ik := none, fs := none, str := false, ptr := none, bl := false }
def ti54 : TI := { size := 4, bytes := 64, agg := true, zero := [.nil, .nil, vi 0, vi 0], sl := none, arr := none, ik := none, fs := some [(0, 51), (1, 52), (2, 3), (3, 3)], str := false, ptr := none, bl := false }
def ti56 : TI := { size := 7, bytes := 88, agg := true, zero := [.b false, vi 0, vi 0, .nil, .nil, vi 0, vi 0], sl := none, arr := none, ik := none, fs := some [(0, 4), (1, 50), (3, 54)], str := false, ptr := none, bl := false }
def ti57 : TI := { size := 1, bytes := 24, agg := false, zero := [.nil], sl := some 126, arr := none, ik := none, fs := none, str := false, ptr := none, bl := false }
def ti59 : TI := { size := 27, bytes := 392, agg := true, zero := [vi 0, vi 0, .nil, .nil, vi 0, vi 0, vi 0, .nil, .nil, .b false, vi 0, vi 0, .nil, .nil, vi 0, vi 0, .nil, .b false, .nil, .b false, vi 0, vi 0, .nil, .nil, vi 0, vi 0, .nil], sl := none, arr := none, ik := none, fs := some [(0, 3), (1, 46), (3, 47), (4, 3), (5, 3), (6, 3), (7, 48), (8, 44), (9, 56), (16, 48), (17, 4), (18, 57), (19, 56), (26, 47)], str := false, ptr := none, bl := false }
def ti70 : TI := { size := 1, bytes := 24, agg := false, zero := [.nil], sl := some 147, arr := none, ik := none, fs := none, str := false, ptr := none, bl := false }
def ti72 : TI := { size := 2, bytes := 32, agg := true, zero := [vi 0, .nil], sl := none, arr := none, ik := none, fs := some [(0, 3), (1, 70)], str := false, ptr := none, bl := false }
def ti73 : TI := { size := 1, bytes := 24, agg := false, zero := [.nil], sl := some 80, arr := none, ik := none, fs := none, str := false, ptr := none, bl := false }
def ti74 : TI := { size := 2, bytes := 16, agg := true, zero := [vi 0, vi 0], sl := none, arr := none, ik := none, fs := some [(0, 3), (1, 3)], str := false, ptr := none, bl := false }
def ti75 : TI := { size := 1, bytes := 24, agg := false, zero := [.nil], sl := some 169, arr := none, ik := none, fs := none, str := false, ptr := none, bl := false }
def ti76 : TI := { size := 1, bytes := 24, agg := false, zero := [.nil], sl := some 171, arr := none, ik := none, fs := none, str := false, ptr := none, bl := false }
def ti78 : TI := { size := 4, bytes := 64, agg := true, zero := [.nil, .nil, vi 0, vi 0], sl := none, arr := none, ik := none, fs := some [(0, 75), (1, 76), (2, 3), (3, 3)], str := false, ptr := none, bl := false }
def ti80 : TI := { size := 7, bytes := 88, agg := true, zero := [.b false, vi 0, vi 0, .nil, .nil, vi 0, vi 0], sl := none, arr := none, ik := none, fs := some [(0, 4), (1, 74), (3, 78)], str := false, ptr := none, bl := false }
def ti81 : TI := { size := 1, bytes := 24, agg := false, zero := [.nil], sl := some 157, arr := none, ik := none, fs := none, str := false, ptr := none, bl := false }
def ti83 : TI := { size := 27, bytes := 392, agg := true, zero := [vi 0, vi 0, .nil, .nil, vi 0, vi 0, vi 0, .nil, .nil, .b false, vi 0, vi 0, .nil, .nil, vi 0, vi 0, .nil, .b false, .nil, .b false, vi 0, vi 0, .nil, .nil, vi 0, vi 0, .nil], sl := none, arr := none, ik := none, fs := some [(0, 3), (1, 72), (3, 73), (4, 3), (5, 3), (6, 3), (7, 48), (8, 70), (9, 80), (16, 48), (17, 4), (18, 81), (19, 80), (26, 73)], str := false, ptr := none, bl := false }
def ti86 : TI := { size := 13, bytes := 152, agg := true, zero := [vi 0, vi 0, vi 0, vi 0, vi 0, .b false, vi 0, vi 0, .nil, .nil, vi 0, vi 0, .nil], sl := none, arr := none, ik := none, fs := some [(0, 3), (1, 3), (2, 3), (3, 3), (4, 3), (5, 80), (12, 70)], str := false, ptr := none, bl := false }
def ti89 : TI := { size := 3, bytes := 40, agg := true, zero := [vi 0, vi 0, .nil], sl := none, arr := none, ik := none, fs := some [(0, 74), (2, 81)], str := false, ptr := none, bl := false }
def ti93 : TI := { size := 13, bytes := 152, agg := true, zero := [vi 0, vi 0, vi 0, vi 0, vi 0, .b false, vi 0, vi 0, .nil, .nil, vi 0, vi 0, .nil], sl := none, arr := none, ik := none, fs := some [(0, 3), (1, 3), (2, 3), (3, 3), (4, 3), (5, 56), (12, 44)], str := false, ptr := none, bl := false }
def ti96 : TI := { size := 3, bytes := 40, agg := true, zero := [vi 0, vi 0, .nil], sl := none, arr := none, ik := none, fs := some [(0, 50), (2, 57)], str := false, ptr := none, bl := false }
def ti100 : TI := { size := 5, bytes := 40, agg := true, zero := [vi 0, vi 0, vi 0, vi 0, vi 0], sl := none, arr := none, ik := none, fs := some [(0, 3), (1, 50), (3, 3), (4, 3)], str := false, ptr := none, bl := false }
def ti106 : TI := { size := 5, bytes := 40, agg := true, zero := [vi 0, vi 0, vi 0, vi 0, vi 0], sl := none, arr := none, ik := none, fs := some [(0, 3), (1, 74), (3, 3), (4, 3)], str := false, ptr := none, bl := false }
def ti126 : TI := { size := 4, bytes := 32, agg := true, zero := [vi 0, vi 0, vi 0, vi 0], sl := none, arr := none, ik := none, fs := some [(0, 3), (1, 3), (2, 3), (3, 3)], str := false, ptr := none, bl := false }
def ti136 : TI := { size := 2, bytes := 16, agg := true, zero := [vi 0, vi 0], sl := none, arr := none, ik := none, fs := some [(0, 3), (1, 3)], str := false, ptr := none, bl := false }
def ti139 : TI := { size := 2, bytes := 16, agg := true, zero := [vi 0, vi 0], sl := none, arr := none, ik := none, fs := some [(0, 3), (1, 3)], str := false, ptr := none, bl := false }
def ti147 : TI := { size := 8, bytes := 96, agg := true, zero := [vi 0, .b false, vi 0, vi 0, .nil, .nil, vi 0, vi 0], sl := none, arr := none, ik := none, fs := some [(0, 3), (1, 80)], str := false, ptr := none, bl := false }
def ti150 : TI := { size := 8, bytes := 96, agg := true, zero := [vi 0, .b false, vi 0, vi 0, .nil, .nil, vi 0, vi 0], sl := none, arr := none, ik := none, fs := some [(0, 3), (1, 56)], str := false, ptr := none, bl := false }
def ti157 : TI := { size := 4, bytes := 32, agg := true, zero := [vi 0, vi 0, vi 0, vi 0], sl := none, arr := none, ik := none, fs := some [(0, 3), (1, 3), (2, 3), (3, 3)], str := false, ptr := none, bl := false }
def ti167 : TI := { size := 4, bytes := 4, agg := true, zero := [.b false, .b false, .b false, .b false], sl := none, arr := some (4, 4), ik := none, fs := none, str := false, ptr := none, bl := false }
def ti169 : TI := { size := 2, bytes := 16, agg := true, zero := [vi 0, vi 0], sl := none, arr := none, ik := none, fs := some [(0, 3), (1, 3)], str := false, ptr := none, bl := false }
def ti171 : TI := { size := 2, bytes := 16, agg := true, zero := [vi 0, vi 0], sl := none, arr := none, ik := none, fs := some [(0, 3), (1, 3)], str := false, ptr := none, bl := false }
def tiTab : List (Nat × TI) := [(3, ti3), (4, ti4), (22, ti22), (23, ti23), (24, ti24), (25, ti25), (27, ti27), (30, ti30), (31, ti31), (32, ti32), (33, ti33), (35, ti35), (44, ti44), (46, ti46), (47, ti47), (48, ti48), (50, ti50), (51, ti51), (52, ti52), (54, ti54), (56, ti56), (57, ti57), (59, ti59), (70, ti70), (72, ti72), (73, ti73), (74, ti74), (75, ti75), (76, ti76), (78, ti78), (80, ti80), (81, ti81), (83, ti83), (86, ti86), (89, ti89), (93, ti93), (96, ti96), (100, ti100), (106, ti106), (126, ti126), (136, ti136), (139, ti139), (147, ti147), (150, ti150), (157, ti157), (167, ti167), (169, ti169), (171, ti171)]
def tiAt : List (Nat × TI) → Nat → Option TI
  | [], _ => none
  | (k, x) :: l, t => if Nat.beq k t then some x else tiAt l t
theorem tiAt_mem {l : List (Nat × TI)} {t : Nat} {x : TI} (h : tiAt l t = some x) : (t, x) ∈ l := by
  induction l with
  | nil => cases h
  | cons p l ih =>
    obtain ⟨k, y⟩ := p
    unfold tiAt at h
    split at h
    · rename_i hk
      have : k = t := Nat.eq_of_beq_eq_true hk
      injection h with h
      subst this; subst h
      simp
    · exact List.mem_cons.2 (.inr (ih h))
theorem tiOf3 : tiOf Tryz.prog 3 = some ti3 := by kernel_rfl
theorem tiOf4 : tiOf Tryz.prog 4 = some ti4 := by kernel_rfl
theorem tiOf22 : tiOf Tryz.prog 22 = some ti22 := by kernel_rfl
theorem tiOf23 : tiOf Tryz.prog 23 = some ti23 := by kernel_rfl
theorem tiOf24 : tiOf Tryz.prog 24 = some ti24 := by kernel_rfl
theorem tiOf25 : tiOf Tryz.prog 25 = some ti25 := by kernel_rfl
theorem tiOf27 : tiOf Tryz.prog 27 = some ti27 := by kernel_rfl
theorem tiOf30 : tiOf Tryz.prog 30 = some ti30 := by kernel_rfl
theorem tiOf31 : tiOf Tryz.prog 31 = some ti31 := by kernel_rfl
theorem tiOf32 : tiOf Tryz.prog 32 = some ti32 := by kernel_rfl
theorem tiOf33 : tiOf Tryz.prog 33 = some ti33 := by kernel_rfl
theorem tiOf35 : tiOf Tryz.prog 35 = some ti35 := by kernel_rfl
theorem tiOf44 : tiOf Tryz.prog 44 = some ti44 := by kernel_rfl
theorem tiOf46 : tiOf Tryz.prog 46 = some ti46 := by kernel_rfl
theorem tiOf47 : tiOf Tryz.prog 47 = some ti47 := by kernel_rfl
theorem tiOf48 : tiOf Tryz.prog 48 = some ti48 := by kernel_rfl
theorem tiOf50 : tiOf Tryz.prog 50 = some ti50 := by kernel_rfl
theorem tiOf51 : tiOf Tryz.prog 51 = some ti51 := by kernel_rfl
theorem tiOf52 : tiOf Tryz.prog 52 = some ti52 := by kernel_rfl
theorem tiOf54 : tiOf Tryz.prog 54 = some ti54 := by kernel_rfl
theorem tiOf56 : tiOf Tryz.prog 56 = some ti56 := by kernel_rfl
theorem tiOf57 : tiOf Tryz.prog 57 = some ti57 := by kernel_rfl
theorem tiOf59 : tiOf Tryz.prog 59 = some ti59 := by kernel_rfl
theorem tiOf70 : tiOf Tryz.prog 70 = some ti70 := by kernel_rfl
theorem tiOf72 : tiOf Tryz.prog 72 = some ti72 := by kernel_rfl
theorem tiOf73 : tiOf Tryz.prog 73 = some ti73 := by kernel_rfl
theorem tiOf74 : tiOf Tryz.prog 74 = some ti74 := by kernel_rfl
theorem tiOf75 : tiOf Tryz.prog 75 = some ti75 := by kernel_rfl
theorem tiOf76 : tiOf Tryz.prog 76 = some ti76 := by kernel_rfl
theorem tiOf78 : tiOf Tryz.prog 78 = some ti78 := by kernel_rfl
theorem tiOf80 : tiOf Tryz.prog 80 = some ti80 := by kernel_rfl
theorem tiOf81 : tiOf Tryz.prog 81 = some ti81 := by kernel_rfl
theorem tiOf83 : tiOf Tryz.prog 83 = some ti83 := by kernel_rfl
theorem tiOf86 : tiOf Tryz.prog 86 = some ti86 := by kernel_rfl
theorem tiOf89 : tiOf Tryz.prog 89 = some ti89 := by kernel_rfl
theorem tiOf93 : tiOf Tryz.prog 93 = some ti93 := by kernel_rfl
theorem tiOf96 : tiOf Tryz.prog 96 = some ti96 := by kernel_rfl
theorem tiOf100 : tiOf Tryz.prog 100 = some ti100 := by kernel_rfl
theorem tiOf106 : tiOf Tryz.prog 106 = some ti106 := by kernel_rfl
theorem tiOf126 : tiOf Tryz.prog 126 = some ti126 := by kernel_rfl
theorem tiOf136 : tiOf Tryz.prog 136 = some ti136 := by kernel_rfl
theorem tiOf139 : tiOf Tryz.prog 139 = some ti139 := by kernel_rfl
theorem tiOf147 : tiOf Tryz.prog 147 = some ti147 := by kernel_rfl
theorem tiOf150 : tiOf Tryz.prog 150 = some ti150 := by kernel_rfl
theorem tiOf157 : tiOf Tryz.prog 157 = some ti157 := by kernel_rfl
theorem tiOf167 : tiOf Tryz.prog 167 = some ti167 := by kernel_rfl
theorem tiOf169 : tiOf Tryz.prog 169 = some ti169 := by kernel_rfl
theorem tiOf171 : tiOf Tryz.prog 171 = some ti171 := by kernel_rfl
theorem tiTab_ok : ∀ p ∈ tiTab, tiOf Tryz.prog p.1 = some p.2 := by
  intro p hp
  simp only [tiTab, List.mem_cons, List.not_mem_nil, or_false] at hp
  rcases hp with rfl | rfl | rfl | rfl | rfl | rfl | rfl | rfl | rfl | rfl | rfl | rfl | rfl | rfl | rfl | rfl | rfl | rfl | rfl | rfl | rfl | rfl | rfl | rfl | rfl | rfl | rfl | rfl | rfl | rfl | rfl | rfl | rfl | rfl | rfl | rfl | rfl | rfl | rfl | rfl | rfl | rfl | rfl | rfl | rfl | rfl | rfl | rfl
  · exact tiOf3
  · exact tiOf4
  · exact tiOf22
  · exact tiOf23
  · exact tiOf24
  · exact tiOf25
  · exact tiOf27
  · exact tiOf30
  · exact tiOf31
  · exact tiOf32
  · exact tiOf33
  · exact tiOf35
  · exact tiOf44
  · exact tiOf46
  · exact tiOf47
  · exact tiOf48
  · exact tiOf50
  · exact tiOf51
  · exact tiOf52
  · exact tiOf54
  · exact tiOf56
  · exact tiOf57
  · exact tiOf59
  · exact tiOf70
  · exact tiOf72
  · exact tiOf73
  · exact tiOf74
  · exact tiOf75
  · exact tiOf76
  · exact tiOf78
  · exact tiOf80
  · exact tiOf81
  · exact tiOf83
  · exact tiOf86
  · exact tiOf89
  · exact tiOf93
  · exact tiOf96
  · exact tiOf100
  · exact tiOf106
  · exact tiOf126
  · exact tiOf136
  · exact tiOf139
  · exact tiOf147
  · exact tiOf150
  · exact tiOf157
  · exact tiOf167
  · exact tiOf169
  · exact tiOf171
def eqAt (t : Nat) : Option Nat := if Nat.beq t 50 then some 2 else if Nat.beq t 136 then some 2 else if Nat.beq t 139 then some 2 else  none
theorem eqAt_eq (t m : Nat) (h : eqAt t = some m) (xs ys : List Int) (w : World) (hx : xs.length = m) (hy : ys.length = m) : (Op.equal t (.agg (xs.map (Value.int .i64)).toArray) (.agg (ys.map (Value.int .i64)).toArray)).run Tryz.prog w = .ok (xs == ys) w := by
  unfold eqAt at h
  split at h
  · rename_i hk
    have hm : 2 = m := Option.some.inj h
    rw [Nat.eq_of_beq_eq_true hk]
    exact eqT50 xs ys w (hx.trans hm.symm) (hy.trans hm.symm)
  split at h
  · rename_i hk
    have hm : 2 = m := Option.some.inj h
    rw [Nat.eq_of_beq_eq_true hk]
    exact eqT136 xs ys w (hx.trans hm.symm) (hy.trans hm.symm)
  split at h
  · rename_i hk
    have hm : 2 = m := Option.some.inj h
    rw [Nat.eq_of_beq_eq_true hk]
    exact eqT139 xs ys w (hx.trans hm.symm) (hy.trans hm.symm)
  cases h
theorem eqAt_guard (t m : Nat) (h : eqAt t = some m) : Tryz.prog.eqGuardType Tryz.prog.depth t = false := by
  unfold eqAt at h
  split at h
  · rename_i hk
    have hm : 2 = m := Option.some.inj h
    rw [Nat.eq_of_beq_eq_true hk]
    exact Tryz.eqGuardType50
  split at h
  · rename_i hk
    have hm : 2 = m := Option.some.inj h
    rw [Nat.eq_of_beq_eq_true hk]
    exact Tryz.eqGuardType136
  split at h
  · rename_i hk
    have hm : 2 = m := Option.some.inj h
    rw [Nat.eq_of_beq_eq_true hk]
    exact Tryz.eqGuardType139
  cases h
theorem mixedP : Tryz.prog.follows .mixedOrders = true := by kernel_rfl
noncomputable def cx : Cx where
  P := Tryz.prog
  mixed := mixedP
  T := tiAt tiTab
  hT := fun t ti h => tiTab_ok (t, ti) (tiAt_mem h)
  E := eqAt
  hE := eqAt_eq
  hG := eqAt_guard

end Go.Proofs.YtgammbnbkaefeaaGreat
