/- The data, and what is known of the types of the program. -/
import Derived.Test.YtaafmkiajpgdaaaGreatAm34
import Derived.Test.YtaafmkiajpgdaaaGreatProg
set_option linter.unusedVariables false
set_option linter.unusedSimpArgs false
namespace Go.Proofs.YtaafmkiajpgdaaaGreat
open Go

def eI (x : Int) : List V := [vi x]
def eU8 (x : Int) : List V := [.i .u8 x]
def eB (x : Bool) : List V := [.b x]
structure TReq where
  Who : Int
  Seq : Int
def eReq (x : TReq) : List V := [vi x.Who, vi x.Seq]
structure TRead where
  Box : Int
  Ver : Int
def eRead (x : TRead) : List V := [vi x.Box, vi x.Ver]
structure TPut where
  Box : Int
  Val : Int
def ePut (x : TPut) : List V := [vi x.Box, vi x.Val]
structure TRun where
  Reads : List TRead
  Puts : List TPut
  Val : Int
  Code : Int
def eRun (x : TRun) : List V := [vsl 2 eRead x.Reads, vsl 2 ePut x.Puts, vi x.Val, vi x.Code]
structure TEntry where
  None : Bool
  Req : TReq
  Run : TRun
def eEntry (x : TEntry) : List V := [.b x.None, vi x.Req.Who, vi x.Req.Seq, vsl 2 eRead x.Run.Reads, vsl 2 ePut x.Run.Puts, vi x.Run.Val, vi x.Run.Code]
structure TVote where
  Bal : Int
  Entry : TEntry
def eVote (x : TVote) : List V := [vi x.Bal, .b x.Entry.None, vi x.Entry.Req.Who, vi x.Entry.Req.Seq, vsl 2 eRead x.Entry.Run.Reads, vsl 2 ePut x.Entry.Run.Puts, vi x.Entry.Run.Val, vi x.Entry.Run.Code]
structure TAcc where
  Promised : Int
  Votes : List TVote
def eAcc (x : TAcc) : List V := [vi x.Promised, vsl 8 eVote x.Votes]
structure TIns where
  Kind : Int
  A : Int
  B : Int
  N : Int
def eIns (x : TIns) : List V := [vi x.Kind, vi x.A, vi x.B, vi x.N]
structure TNode where
  Id : Int
  Acc : TAcc
  Known : List TEntry
  Seq : Int
  Phase : Int
  Bal : Int
  From : List Bool
  Best : List TVote
  Cur : TEntry
  Votes : List Bool
  Busy : Bool
  Prog : List TIns
  Want : TEntry
  Queue : List TEntry
def eNode (x : TNode) : List V := [vi x.Id, vi x.Acc.Promised, vsl 8 eVote x.Acc.Votes, vsl 7 eEntry x.Known, vi x.Seq, vi x.Phase, vi x.Bal, vsl 1 eB x.From, vsl 8 eVote x.Best, .b x.Cur.None, vi x.Cur.Req.Who, vi x.Cur.Req.Seq, vsl 2 eRead x.Cur.Run.Reads, vsl 2 ePut x.Cur.Run.Puts, vi x.Cur.Run.Val, vi x.Cur.Run.Code, vsl 1 eB x.Votes, .b x.Busy, vsl 4 eIns x.Prog, .b x.Want.None, vi x.Want.Req.Who, vi x.Want.Req.Seq, vsl 2 eRead x.Want.Run.Reads, vsl 2 ePut x.Want.Run.Puts, vi x.Want.Run.Val, vi x.Want.Run.Code, vsl 7 eEntry x.Queue]
structure TMsg where
  Kind : Int
  From : Int
  To : Int
  Bal : Int
  Slot : Int
  Entry : TEntry
  Votes : List TVote
def eMsg (x : TMsg) : List V := [vi x.Kind, vi x.From, vi x.To, vi x.Bal, vi x.Slot, .b x.Entry.None, vi x.Entry.Req.Who, vi x.Entry.Req.Seq, vsl 2 eRead x.Entry.Run.Reads, vsl 2 ePut x.Entry.Run.Puts, vi x.Entry.Run.Val, vi x.Entry.Run.Code, vsl 8 eVote x.Votes]
structure TAsked where
  Req : TReq
  Prog : List TIns
def eAsked (x : TAsked) : List V := [vi x.Req.Who, vi x.Req.Seq, vsl 4 eIns x.Prog]
structure TTold where
  Node : Int
  Req : TReq
  Code : Int
  Val : Int
def eTold (x : TTold) : List V := [vi x.Node, vi x.Req.Who, vi x.Req.Seq, vi x.Code, vi x.Val]
structure TWorld where
  Nodes : List TNode
  Net : List TMsg
  Asked : List TAsked
  Told : List TTold
def eWorld (x : TWorld) : List V := [vsl 27 eNode x.Nodes, vsl 13 eMsg x.Net, vsl 3 eAsked x.Asked, vsl 5 eTold x.Told]
structure TBox where
  Ver : Int
  Val : Int
def eBox (x : TBox) : List V := [vi x.Ver, vi x.Val]
structure TDone where
  Req : TReq
  Code : Int
  Val : Int
def eDone (x : TDone) : List V := [vi x.Req.Who, vi x.Req.Seq, vi x.Code, vi x.Val]
structure TState where
  At : Int
  Boxes : List TBox
  Dones : List TDone
def eState (x : TState) : List V := [vi x.At, vsl 2 eBox x.Boxes, vsl 4 eDone x.Dones]
def ck27 : List (Option Nat) := [some 27, some 13, some 3, some 5]
def ck35 : List (Option Nat) := [some 27, some 13, some 3, some 5]
def ck66 : List (Option Nat) := [some 2, some 2, none, none]
def ck68 : List (Option Nat) := [none, none, none, some 2, some 2, none, none]
def ck83 : List (Option Nat) := [some 2, some 2, none, none]
def ck85 : List (Option Nat) := [none, none, none, some 2, some 2, none, none]
def ck88 : List (Option Nat) := [none, none, some 8, some 7, none, none, none, some 1, some 8, none, none, none, some 2, some 2, none, none, some 1, none, some 4, none, none, none, some 2, some 2, none, none, some 7]
def ck91 : List (Option Nat) := [none, none, none, none, none, none, none, none, some 2, some 2, none, none, some 8]
def ck100 : List (Option Nat) := [none, none, some 8, some 7, none, none, none, some 1, some 8, none, none, none, some 2, some 2, none, none, some 1, none, some 4, none, none, none, some 2, some 2, none, none, some 7]
def ck104 : List (Option Nat) := [none, none, none, none, none, none, none, none, some 2, some 2, none, none, some 8]
def ck169 : List (Option Nat) := [none, none, none, none, some 2, some 2, none, none]
def ck172 : List (Option Nat) := [none, none, none, none, some 2, some 2, none, none]
theorem eqA46 (d : Nat) (w : World) (x0 x1 y0 y1 : Int) : (Op.equalIn (d + 2) 46 (.agg #[.int .i64 x0, .int .i64 x1]) (.agg #[.int .i64 y0, .int .i64 y1])).run Tryz.prog w = .ok ((x0 == y0) && ((x1 == y1) && true)) w := by
  refine eq_of_fields Tryz.underlying46 Tryz.stoodInHeld46 ?_
  refine eqf_cons (by rfl) (by first | (go_simp; done) | (go_simp; rfl)) (by first | (go_simp; done) | (go_simp; rfl)) (eq_of_int Tryz.underlying3) ?_
  refine eqf_cons (by rfl) (by first | (go_simp; done) | (go_simp; rfl)) (by first | (go_simp; done) | (go_simp; rfl)) (eq_of_int Tryz.underlying3) ?_
  exact eqf_nil
theorem eqT46 (xs ys : List Int) (w : World) (hx : xs.length = 2) (hy : ys.length = 2) : (Op.equal 46 (.agg (xs.map (Value.int .i64)).toArray) (.agg (ys.map (Value.int .i64)).toArray)).run Tryz.prog w = .ok (xs == ys) w := by
  match xs, ys, hx, hy with
  | [x0, x1], [y0, y1], _, _ =>
    have h := eqA46 9998 w x0 x1 y0 y1
    have e : ((x0 == y0) && ((x1 == y1) && true)) = ([x0, x1] == ([y0, y1] : List Int)) := by simp [Bool.and_assoc]
    rw [e] at h
    exact h
theorem eqA180 (d : Nat) (w : World) (x0 x1 y0 y1 : Int) : (Op.equalIn (d + 2) 180 (.agg #[.int .i64 x0, .int .i64 x1]) (.agg #[.int .i64 y0, .int .i64 y1])).run Tryz.prog w = .ok ((x0 == y0) && ((x1 == y1) && true)) w := by
  refine eq_of_fields Tryz.underlying180 Tryz.stoodInHeld180 ?_
  refine eqf_cons (by rfl) (by first | (go_simp; done) | (go_simp; rfl)) (by first | (go_simp; done) | (go_simp; rfl)) (eq_of_int Tryz.underlying3) ?_
  refine eqf_cons (by rfl) (by first | (go_simp; done) | (go_simp; rfl)) (by first | (go_simp; done) | (go_simp; rfl)) (eq_of_int Tryz.underlying3) ?_
  exact eqf_nil
theorem eqT180 (xs ys : List Int) (w : World) (hx : xs.length = 2) (hy : ys.length = 2) : (Op.equal 180 (.agg (xs.map (Value.int .i64)).toArray) (.agg (ys.map (Value.int .i64)).toArray)).run Tryz.prog w = .ok (xs == ys) w := by
  match xs, ys, hx, hy with
  | [x0, x1], [y0, y1], _, _ =>
    have h := eqA180 9998 w x0 x1 y0 y1
    have e : ((x0 == y0) && ((x1 == y1) && true)) = ([x0, x1] == ([y0, y1] : List Int)) := by simp [Bool.and_assoc]
    rw [e] at h
    exact h
theorem eqA182 (d : Nat) (w : World) (x0 x1 y0 y1 : Int) : (Op.equalIn (d + 2) 182 (.agg #[.int .i64 x0, .int .i64 x1]) (.agg #[.int .i64 y0, .int .i64 y1])).run Tryz.prog w = .ok ((x0 == y0) && ((x1 == y1) && true)) w := by
  refine eq_of_fields Tryz.underlying182 Tryz.stoodInHeld182 ?_
  refine eqf_cons (by rfl) (by first | (go_simp; done) | (go_simp; rfl)) (by first | (go_simp; done) | (go_simp; rfl)) (eq_of_int Tryz.underlying3) ?_
  refine eqf_cons (by rfl) (by first | (go_simp; done) | (go_simp; rfl)) (by first | (go_simp; done) | (go_simp; rfl)) (eq_of_int Tryz.underlying3) ?_
  exact eqf_nil
theorem eqT182 (xs ys : List Int) (w : World) (hx : xs.length = 2) (hy : ys.length = 2) : (Op.equal 182 (.agg (xs.map (Value.int .i64)).toArray) (.agg (ys.map (Value.int .i64)).toArray)).run Tryz.prog w = .ok (xs == ys) w := by
  match xs, ys, hx, hy with
  | [x0, x1], [y0, y1], _, _ =>
    have h := eqA182 9998 w x0 x1 y0 y1
    have e : ((x0 == y0) && ((x1 == y1) && true)) = ([x0, x1] == ([y0, y1] : List Int)) := by simp [Bool.and_assoc]
    rw [e] at h
    exact h
def ti3 : TI := { size := 1, bytes := 8, agg := false, zero := [vi 0], sl := none, arr := none, ik := some .i64, fs := none, str := false, ptr := none, bl := false }
def ti4 : TI := { size := 1, bytes := 1, agg := false, zero := [.b false], sl := none, arr := none, ik := none, fs := none, str := false, ptr := none, bl := true }
def ti22 : TI := { size := 1, bytes := 24, agg := false, zero := [.nil], sl := some 88, arr := none, ik := none, fs := none, str := false, ptr := none, bl := false }
def ti23 : TI := { size := 1, bytes := 24, agg := false, zero := [.nil], sl := some 91, arr := none, ik := none, fs := none, str := false, ptr := none, bl := false }
def ti24 : TI := { size := 1, bytes := 24, agg := false, zero := [.nil], sl := some 94, arr := none, ik := none, fs := none, str := false, ptr := none, bl := false }
def ti25 : TI := { size := 1, bytes := 24, agg := false, zero := [.nil], sl := some 119, arr := none, ik := none, fs := none, str := false, ptr := none, bl := false }
def ti27 : TI := { size := 4, bytes := 96, agg := true, zero := [.nil, .nil, .nil, .nil], sl := none, arr := none, ik := none, fs := some [(0, 22), (1, 23), (2, 24), (3, 25)], str := false, ptr := none, bl := false }
def ti30 : TI := { size := 1, bytes := 24, agg := false, zero := [.nil], sl := some 100, arr := none, ik := none, fs := none, str := false, ptr := none, bl := false }
def ti31 : TI := { size := 1, bytes := 24, agg := false, zero := [.nil], sl := some 104, arr := none, ik := none, fs := none, str := false, ptr := none, bl := false }
def ti32 : TI := { size := 1, bytes := 24, agg := false, zero := [.nil], sl := some 107, arr := none, ik := none, fs := none, str := false, ptr := none, bl := false }
def ti33 : TI := { size := 1, bytes := 24, agg := false, zero := [.nil], sl := some 48, arr := none, ik := none, fs := none, str := false, ptr := none, bl := false }
def ti35 : TI := { size := 4, bytes := 96, agg := true, zero := [.nil, .nil, .nil, .nil], sl := none, arr := none, ik := none, fs := some [(0, 30), (1, 31), (2, 32), (3, 33)], str := false, ptr := none, bl := false }
def ti43 : TI := { size := 1, bytes := 24, agg := false, zero := [.nil], sl := some 68, arr := none, ik := none, fs := none, str := false, ptr := none, bl := false }
def ti46 : TI := { size := 2, bytes := 16, agg := true, zero := [vi 0, vi 0], sl := none, arr := none, ik := none, fs := some [(0, 3), (1, 3)], str := false, ptr := none, bl := false }
def ti48 : TI := { size := 5, bytes := 40, agg := true, zero := [vi 0, vi 0, vi 0, vi 0, vi 0], sl := none, arr := none, ik := none, fs := some [(0, 3), (1, 46), (3, 3), (4, 3)], str := false, ptr := none, bl := false }
def ti56 : TI := { size := 1, bytes := 24, agg := false, zero := [.nil], sl := some 159, arr := none, ik := none, fs := none, str := false, ptr := none, bl := false }
def ti57 : TI := { size := 1, bytes := 24, agg := false, zero := [.nil], sl := some 142, arr := none, ik := none, fs := none, str := false, ptr := none, bl := false }
def ti59 : TI := { size := 3, bytes := 56, agg := true, zero := [vi 0, .nil, .nil], sl := none, arr := none, ik := none, fs := some [(0, 3), (1, 56), (2, 57)], str := false, ptr := none, bl := false }
def ti60 : TI := { size := 1, bytes := 24, agg := false, zero := [.nil], sl := some 3, arr := none, ik := none, fs := none, str := false, ptr := none, bl := false }
def ti63 : TI := { size := 1, bytes := 24, agg := false, zero := [.nil], sl := some 180, arr := none, ik := none, fs := none, str := false, ptr := none, bl := false }
def ti64 : TI := { size := 1, bytes := 24, agg := false, zero := [.nil], sl := some 182, arr := none, ik := none, fs := none, str := false, ptr := none, bl := false }
def ti66 : TI := { size := 4, bytes := 64, agg := true, zero := [.nil, .nil, vi 0, vi 0], sl := none, arr := none, ik := none, fs := some [(0, 63), (1, 64), (2, 3), (3, 3)], str := false, ptr := none, bl := false }
def ti68 : TI := { size := 7, bytes := 88, agg := true, zero := [.b false, vi 0, vi 0, .nil, .nil, vi 0, vi 0], sl := none, arr := none, ik := none, fs := some [(0, 4), (1, 46), (3, 66)], str := false, ptr := none, bl := false }
def ti74 : TI := { size := 1, bytes := 24, agg := false, zero := [.nil], sl := some 169, arr := none, ik := none, fs := none, str := false, ptr := none, bl := false }
def ti76 : TI := { size := 2, bytes := 32, agg := true, zero := [vi 0, .nil], sl := none, arr := none, ik := none, fs := some [(0, 3), (1, 74)], str := false, ptr := none, bl := false }
def ti77 : TI := { size := 1, bytes := 24, agg := false, zero := [.nil], sl := some 85, arr := none, ik := none, fs := none, str := false, ptr := none, bl := false }
def ti78 : TI := { size := 1, bytes := 24, agg := false, zero := [.nil], sl := some 4, arr := none, ik := none, fs := none, str := false, ptr := none, bl := false }
def ti79 : TI := { size := 2, bytes := 16, agg := true, zero := [vi 0, vi 0], sl := none, arr := none, ik := none, fs := some [(0, 3), (1, 3)], str := false, ptr := none, bl := false }
def ti80 : TI := { size := 1, bytes := 24, agg := false, zero := [.nil], sl := some 203, arr := none, ik := none, fs := none, str := false, ptr := none, bl := false }
def ti81 : TI := { size := 1, bytes := 24, agg := false, zero := [.nil], sl := some 205, arr := none, ik := none, fs := none, str := false, ptr := none, bl := false }
def ti83 : TI := { size := 4, bytes := 64, agg := true, zero := [.nil, .nil, vi 0, vi 0], sl := none, arr := none, ik := none, fs := some [(0, 80), (1, 81), (2, 3), (3, 3)], str := false, ptr := none, bl := false }
def ti85 : TI := { size := 7, bytes := 88, agg := true, zero := [.b false, vi 0, vi 0, .nil, .nil, vi 0, vi 0], sl := none, arr := none, ik := none, fs := some [(0, 4), (1, 79), (3, 83)], str := false, ptr := none, bl := false }
def ti86 : TI := { size := 1, bytes := 24, agg := false, zero := [.nil], sl := some 187, arr := none, ik := none, fs := none, str := false, ptr := none, bl := false }
def ti88 : TI := { size := 27, bytes := 392, agg := true, zero := [vi 0, vi 0, .nil, .nil, vi 0, vi 0, vi 0, .nil, .nil, .b false, vi 0, vi 0, .nil, .nil, vi 0, vi 0, .nil, .b false, .nil, .b false, vi 0, vi 0, .nil, .nil, vi 0, vi 0, .nil], sl := none, arr := none, ik := none, fs := some [(0, 3), (1, 76), (3, 77), (4, 3), (5, 3), (6, 3), (7, 78), (8, 74), (9, 85), (16, 78), (17, 4), (18, 86), (19, 85), (26, 77)], str := false, ptr := none, bl := false }
def ti91 : TI := { size := 13, bytes := 152, agg := true, zero := [vi 0, vi 0, vi 0, vi 0, vi 0, .b false, vi 0, vi 0, .nil, .nil, vi 0, vi 0, .nil], sl := none, arr := none, ik := none, fs := some [(0, 3), (1, 3), (2, 3), (3, 3), (4, 3), (5, 85), (12, 74)], str := false, ptr := none, bl := false }
def ti94 : TI := { size := 3, bytes := 40, agg := true, zero := [vi 0, vi 0, .nil], sl := none, arr := none, ik := none, fs := some [(0, 79), (2, 86)], str := false, ptr := none, bl := false }
def ti95 : TI := { size := 1, bytes := 24, agg := false, zero := [.nil], sl := some 172, arr := none, ik := none, fs := none, str := false, ptr := none, bl := false }
def ti97 : TI := { size := 2, bytes := 32, agg := true, zero := [vi 0, .nil], sl := none, arr := none, ik := none, fs := some [(0, 3), (1, 95)], str := false, ptr := none, bl := false }
def ti98 : TI := { size := 1, bytes := 24, agg := false, zero := [.nil], sl := some 138, arr := none, ik := none, fs := none, str := false, ptr := none, bl := false }
def ti100 : TI := { size := 27, bytes := 392, agg := true, zero := [vi 0, vi 0, .nil, .nil, vi 0, vi 0, vi 0, .nil, .nil, .b false, vi 0, vi 0, .nil, .nil, vi 0, vi 0, .nil, .b false, .nil, .b false, vi 0, vi 0, .nil, .nil, vi 0, vi 0, .nil], sl := none, arr := none, ik := none, fs := some [(0, 3), (1, 97), (3, 43), (4, 3), (5, 3), (6, 3), (7, 78), (8, 95), (9, 68), (16, 78), (17, 4), (18, 98), (19, 68), (26, 43)], str := false, ptr := none, bl := false }
def ti104 : TI := { size := 13, bytes := 152, agg := true, zero := [vi 0, vi 0, vi 0, vi 0, vi 0, .b false, vi 0, vi 0, .nil, .nil, vi 0, vi 0, .nil], sl := none, arr := none, ik := none, fs := some [(0, 3), (1, 3), (2, 3), (3, 3), (4, 3), (5, 68), (12, 95)], str := false, ptr := none, bl := false }
def ti107 : TI := { size := 3, bytes := 40, agg := true, zero := [vi 0, vi 0, .nil], sl := none, arr := none, ik := none, fs := some [(0, 46), (2, 98)], str := false, ptr := none, bl := false }
def ti119 : TI := { size := 5, bytes := 40, agg := true, zero := [vi 0, vi 0, vi 0, vi 0, vi 0], sl := none, arr := none, ik := none, fs := some [(0, 3), (1, 79), (3, 3), (4, 3)], str := false, ptr := none, bl := false }
def ti138 : TI := { size := 4, bytes := 32, agg := true, zero := [vi 0, vi 0, vi 0, vi 0], sl := none, arr := none, ik := none, fs := some [(0, 3), (1, 3), (2, 3), (3, 3)], str := false, ptr := none, bl := false }
def ti142 : TI := { size := 4, bytes := 32, agg := true, zero := [vi 0, vi 0, vi 0, vi 0], sl := none, arr := none, ik := none, fs := some [(0, 46), (2, 3), (3, 3)], str := false, ptr := none, bl := false }
def ti159 : TI := { size := 2, bytes := 16, agg := true, zero := [vi 0, vi 0], sl := none, arr := none, ik := none, fs := some [(0, 3), (1, 3)], str := false, ptr := none, bl := false }
def ti169 : TI := { size := 8, bytes := 96, agg := true, zero := [vi 0, .b false, vi 0, vi 0, .nil, .nil, vi 0, vi 0], sl := none, arr := none, ik := none, fs := some [(0, 3), (1, 85)], str := false, ptr := none, bl := false }
def ti172 : TI := { size := 8, bytes := 96, agg := true, zero := [vi 0, .b false, vi 0, vi 0, .nil, .nil, vi 0, vi 0], sl := none, arr := none, ik := none, fs := some [(0, 3), (1, 68)], str := false, ptr := none, bl := false }
def ti180 : TI := { size := 2, bytes := 16, agg := true, zero := [vi 0, vi 0], sl := none, arr := none, ik := none, fs := some [(0, 3), (1, 3)], str := false, ptr := none, bl := false }
def ti182 : TI := { size := 2, bytes := 16, agg := true, zero := [vi 0, vi 0], sl := none, arr := none, ik := none, fs := some [(0, 3), (1, 3)], str := false, ptr := none, bl := false }
def ti187 : TI := { size := 4, bytes := 32, agg := true, zero := [vi 0, vi 0, vi 0, vi 0], sl := none, arr := none, ik := none, fs := some [(0, 3), (1, 3), (2, 3), (3, 3)], str := false, ptr := none, bl := false }
def ti197 : TI := { size := 4, bytes := 4, agg := true, zero := [.b false, .b false, .b false, .b false], sl := none, arr := some (4, 4), ik := none, fs := none, str := false, ptr := none, bl := false }
def ti203 : TI := { size := 2, bytes := 16, agg := true, zero := [vi 0, vi 0], sl := none, arr := none, ik := none, fs := some [(0, 3), (1, 3)], str := false, ptr := none, bl := false }
def ti205 : TI := { size := 2, bytes := 16, agg := true, zero := [vi 0, vi 0], sl := none, arr := none, ik := none, fs := some [(0, 3), (1, 3)], str := false, ptr := none, bl := false }
def tiTab : List (Nat × TI) := [(3, ti3), (4, ti4), (22, ti22), (23, ti23), (24, ti24), (25, ti25), (27, ti27), (30, ti30), (31, ti31), (32, ti32), (33, ti33), (35, ti35), (43, ti43), (46, ti46), (48, ti48), (56, ti56), (57, ti57), (59, ti59), (60, ti60), (63, ti63), (64, ti64), (66, ti66), (68, ti68), (74, ti74), (76, ti76), (77, ti77), (78, ti78), (79, ti79), (80, ti80), (81, ti81), (83, ti83), (85, ti85), (86, ti86), (88, ti88), (91, ti91), (94, ti94), (95, ti95), (97, ti97), (98, ti98), (100, ti100), (104, ti104), (107, ti107), (119, ti119), (138, ti138), (142, ti142), (159, ti159), (169, ti169), (172, ti172), (180, ti180), (182, ti182), (187, ti187), (197, ti197), (203, ti203), (205, ti205)]
def tiAt : List (Nat × TI) → Nat → Option TI
  | [], _ => none
  | (k, x) :: l, t => if Nat.beq k t then some x else tiAt l t
theorem tiAt_mem {l : List (Nat × TI)} {t : Nat} {x : TI} (h : tiAt l t = some x) : (t, x) ∈ l := by
  induction l with
  | nil => cases h
  | cons p l ih =>
    obtain ⟨k, y⟩ := p
    unfold tiAt at h
    split at h
    · rename_i hk
      have : k = t := Nat.eq_of_beq_eq_true hk
      injection h with h
      subst this; subst h
      simp
    · exact List.mem_cons.2 (.inr (ih h))
theorem tiOf3 : tiOf Tryz.prog 3 = some ti3 := by kernel_rfl
theorem tiOf4 : tiOf Tryz.prog 4 = some ti4 := by kernel_rfl
theorem tiOf22 : tiOf Tryz.prog 22 = some ti22 := by kernel_rfl
theorem tiOf23 : tiOf Tryz.prog 23 = some ti23 := by kernel_rfl
theorem tiOf24 : tiOf Tryz.prog 24 = some ti24 := by kernel_rfl
theorem tiOf25 : tiOf Tryz.prog 25 = some ti25 := by kernel_rfl
theorem tiOf27 : tiOf Tryz.prog 27 = some ti27 := by kernel_rfl
theorem tiOf30 : tiOf Tryz.prog 30 = some ti30 := by kernel_rfl
theorem tiOf31 : tiOf Tryz.prog 31 = some ti31 := by kernel_rfl
theorem tiOf32 : tiOf Tryz.prog 32 = some ti32 := by kernel_rfl
theorem tiOf33 : tiOf Tryz.prog 33 = some ti33 := by kernel_rfl
theorem tiOf35 : tiOf Tryz.prog 35 = some ti35 := by kernel_rfl
theorem tiOf43 : tiOf Tryz.prog 43 = some ti43 := by kernel_rfl
theorem tiOf46 : tiOf Tryz.prog 46 = some ti46 := by kernel_rfl
theorem tiOf48 : tiOf Tryz.prog 48 = some ti48 := by kernel_rfl
theorem tiOf56 : tiOf Tryz.prog 56 = some ti56 := by kernel_rfl
theorem tiOf57 : tiOf Tryz.prog 57 = some ti57 := by kernel_rfl
theorem tiOf59 : tiOf Tryz.prog 59 = some ti59 := by kernel_rfl
theorem tiOf60 : tiOf Tryz.prog 60 = some ti60 := by kernel_rfl
theorem tiOf63 : tiOf Tryz.prog 63 = some ti63 := by kernel_rfl
theorem tiOf64 : tiOf Tryz.prog 64 = some ti64 := by kernel_rfl
theorem tiOf66 : tiOf Tryz.prog 66 = some ti66 := by kernel_rfl
theorem tiOf68 : tiOf Tryz.prog 68 = some ti68 := by kernel_rfl
theorem tiOf74 : tiOf Tryz.prog 74 = some ti74 := by kernel_rfl
theorem tiOf76 : tiOf Tryz.prog 76 = some ti76 := by kernel_rfl
theorem tiOf77 : tiOf Tryz.prog 77 = some ti77 := by kernel_rfl
theorem tiOf78 : tiOf Tryz.prog 78 = some ti78 := by kernel_rfl
theorem tiOf79 : tiOf Tryz.prog 79 = some ti79 := by kernel_rfl
theorem tiOf80 : tiOf Tryz.prog 80 = some ti80 := by kernel_rfl
theorem tiOf81 : tiOf Tryz.prog 81 = some ti81 := by kernel_rfl
theorem tiOf83 : tiOf Tryz.prog 83 = some ti83 := by kernel_rfl
theorem tiOf85 : tiOf Tryz.prog 85 = some ti85 := by kernel_rfl
theorem tiOf86 : tiOf Tryz.prog 86 = some ti86 := by kernel_rfl
theorem tiOf88 : tiOf Tryz.prog 88 = some ti88 := by kernel_rfl
theorem tiOf91 : tiOf Tryz.prog 91 = some ti91 := by kernel_rfl
theorem tiOf94 : tiOf Tryz.prog 94 = some ti94 := by kernel_rfl
theorem tiOf95 : tiOf Tryz.prog 95 = some ti95 := by kernel_rfl
theorem tiOf97 : tiOf Tryz.prog 97 = some ti97 := by kernel_rfl
theorem tiOf98 : tiOf Tryz.prog 98 = some ti98 := by kernel_rfl
theorem tiOf100 : tiOf Tryz.prog 100 = some ti100 := by kernel_rfl
theorem tiOf104 : tiOf Tryz.prog 104 = some ti104 := by kernel_rfl
theorem tiOf107 : tiOf Tryz.prog 107 = some ti107 := by kernel_rfl
theorem tiOf119 : tiOf Tryz.prog 119 = some ti119 := by kernel_rfl
theorem tiOf138 : tiOf Tryz.prog 138 = some ti138 := by kernel_rfl
theorem tiOf142 : tiOf Tryz.prog 142 = some ti142 := by kernel_rfl
theorem tiOf159 : tiOf Tryz.prog 159 = some ti159 := by kernel_rfl
theorem tiOf169 : tiOf Tryz.prog 169 = some ti169 := by kernel_rfl
theorem tiOf172 : tiOf Tryz.prog 172 = some ti172 := by kernel_rfl
theorem tiOf180 : tiOf Tryz.prog 180 = some ti180 := by kernel_rfl
theorem tiOf182 : tiOf Tryz.prog 182 = some ti182 := by kernel_rfl
theorem tiOf187 : tiOf Tryz.prog 187 = some ti187 := by kernel_rfl
theorem tiOf197 : tiOf Tryz.prog 197 = some ti197 := by kernel_rfl
theorem tiOf203 : tiOf Tryz.prog 203 = some ti203 := by kernel_rfl
theorem tiOf205 : tiOf Tryz.prog 205 = some ti205 := by kernel_rfl
theorem tiTab_ok : ∀ p ∈ tiTab, tiOf Tryz.prog p.1 = some p.2 := by
  intro p hp
  simp only [tiTab, List.mem_cons, List.not_mem_nil, or_false] at hp
  rcases hp with rfl | rfl | rfl | rfl | rfl | rfl | rfl | rfl | rfl | rfl | rfl | rfl | rfl | rfl | rfl | rfl | rfl | rfl | rfl | rfl | rfl | rfl | rfl | rfl | rfl | rfl | rfl | rfl | rfl | rfl | rfl | rfl | rfl | rfl | rfl | rfl | rfl | rfl | rfl | rfl | rfl | rfl | rfl | rfl | rfl | rfl | rfl | rfl | rfl | rfl | rfl | rfl | rfl | rfl
  · exact tiOf3
  · exact tiOf4
  · exact tiOf22
  · exact tiOf23
  · exact tiOf24
  · exact tiOf25
  · exact tiOf27
  · exact tiOf30
  · exact tiOf31
  · exact tiOf32
  · exact tiOf33
  · exact tiOf35
  · exact tiOf43
  · exact tiOf46
  · exact tiOf48
  · exact tiOf56
  · exact tiOf57
  · exact tiOf59
  · exact tiOf60
  · exact tiOf63
  · exact tiOf64
  · exact tiOf66
  · exact tiOf68
  · exact tiOf74
  · exact tiOf76
  · exact tiOf77
  · exact tiOf78
  · exact tiOf79
  · exact tiOf80
  · exact tiOf81
  · exact tiOf83
  · exact tiOf85
  · exact tiOf86
  · exact tiOf88
  · exact tiOf91
  · exact tiOf94
  · exact tiOf95
  · exact tiOf97
  · exact tiOf98
  · exact tiOf100
  · exact tiOf104
  · exact tiOf107
  · exact tiOf119
  · exact tiOf138
  · exact tiOf142
  · exact tiOf159
  · exact tiOf169
  · exact tiOf172
  · exact tiOf180
  · exact tiOf182
  · exact tiOf187
  · exact tiOf197
  · exact tiOf203
  · exact tiOf205
def eqAt (t : Nat) : Option Nat := if Nat.beq t 46 then some 2 else if Nat.beq t 180 then some 2 else if Nat.beq t 182 then some 2 else  none
theorem eqAt_eq (t m : Nat) (h : eqAt t = some m) (xs ys : List Int) (w : World) (hx : xs.length = m) (hy : ys.length = m) : (Op.equal t (.agg (xs.map (Value.int .i64)).toArray) (.agg (ys.map (Value.int .i64)).toArray)).run Tryz.prog w = .ok (xs == ys) w := by
  unfold eqAt at h
  split at h
  · rename_i hk
    have hm : 2 = m := Option.some.inj h
    rw [Nat.eq_of_beq_eq_true hk]
    exact eqT46 xs ys w (hx.trans hm.symm) (hy.trans hm.symm)
  split at h
  · rename_i hk
    have hm : 2 = m := Option.some.inj h
    rw [Nat.eq_of_beq_eq_true hk]
    exact eqT180 xs ys w (hx.trans hm.symm) (hy.trans hm.symm)
  split at h
  · rename_i hk
    have hm : 2 = m := Option.some.inj h
    rw [Nat.eq_of_beq_eq_true hk]
    exact eqT182 xs ys w (hx.trans hm.symm) (hy.trans hm.symm)
  cases h
theorem eqAt_guard (t m : Nat) (h : eqAt t = some m) : Tryz.prog.eqGuardType Tryz.prog.depth t = false := by
  unfold eqAt at h
  split at h
  · rename_i hk
    have hm : 2 = m := Option.some.inj h
    rw [Nat.eq_of_beq_eq_true hk]
    exact Tryz.eqGuardType46
  split at h
  · rename_i hk
    have hm : 2 = m := Option.some.inj h
    rw [Nat.eq_of_beq_eq_true hk]
    exact Tryz.eqGuardType180
  split at h
  · rename_i hk
    have hm : 2 = m := Option.some.inj h
    rw [Nat.eq_of_beq_eq_true hk]
    exact Tryz.eqGuardType182
  cases h
theorem mixedP : Tryz.prog.follows .mixedOrders = true := by kernel_rfl
noncomputable def cx : Cx where
  P := Tryz.prog
  mixed := mixedP
  T := tiAt tiTab
  hT := fun t ti h => tiTab_ok (t, ti) (tiAt_mem h)
  E := eqAt
  hE := eqAt_eq
  hG := eqAt_guard

end Go.Proofs.YtaafmkiajpgdaaaGreat
