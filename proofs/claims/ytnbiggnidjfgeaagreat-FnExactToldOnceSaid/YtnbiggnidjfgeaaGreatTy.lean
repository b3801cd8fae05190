/- The data, and what is known of the types of the program. -/
import Derived.Test.YtnbiggnidjfgeaaGreatAm34
import Derived.Test.YtnbiggnidjfgeaaGreatProg
set_option linter.unusedVariables false
set_option linter.unusedSimpArgs false
namespace Go.Proofs.YtnbiggnidjfgeaaGreat
open Go

def eI (x : Int) : List V := [vi x]
def eU8 (x : Int) : List V := [.i .u8 x]
def eB (x : Bool) : List V := [.b x]
structure TReq where
  Who : Int
  Seq : Int
def eReq (x : TReq) : List V := [vi x.Who, vi x.Seq]
structure TRead where
  Box : Int
  Ver : Int
def eRead (x : TRead) : List V := [vi x.Box, vi x.Ver]
structure TPut where
  Box : Int
  Val : Int
def ePut (x : TPut) : List V := [vi x.Box, vi x.Val]
structure TRun where
  Reads : List TRead
  Puts : List TPut
  Val : Int
  Code : Int
def eRun (x : TRun) : List V := [vsl 2 eRead x.Reads, vsl 2 ePut x.Puts, vi x.Val, vi x.Code]
structure TEntry where
  None : Bool
  Req : TReq
  Run : TRun
def eEntry (x : TEntry) : List V := [.b x.None, vi x.Req.Who, vi x.Req.Seq, vsl 2 eRead x.Run.Reads, vsl 2 ePut x.Run.Puts, vi x.Run.Val, vi x.Run.Code]
structure TVote where
  Bal : Int
  Entry : TEntry
def eVote (x : TVote) : List V := [vi x.Bal, .b x.Entry.None, vi x.Entry.Req.Who, vi x.Entry.Req.Seq, vsl 2 eRead x.Entry.Run.Reads, vsl 2 ePut x.Entry.Run.Puts, vi x.Entry.Run.Val, vi x.Entry.Run.Code]
structure TAcc where
  Promised : Int
  Votes : List TVote
def eAcc (x : TAcc) : List V := [vi x.Promised, vsl 8 eVote x.Votes]
structure TIns where
  Kind : Int
  A : Int
  B : Int
  N : Int
def eIns (x : TIns) : List V := [vi x.Kind, vi x.A, vi x.B, vi x.N]
structure TNode where
  Id : Int
  Acc : TAcc
  Known : List TEntry
  Seq : Int
  Phase : Int
  Bal : Int
  From : List Bool
  Best : List TVote
  Cur : TEntry
  Votes : List Bool
  Busy : Bool
  Prog : List TIns
  Want : TEntry
  Queue : List TEntry
def eNode (x : TNode) : List V := [vi x.Id, vi x.Acc.Promised, vsl 8 eVote x.Acc.Votes, vsl 7 eEntry x.Known, vi x.Seq, vi x.Phase, vi x.Bal, vsl 1 eB x.From, vsl 8 eVote x.Best, .b x.Cur.None, vi x.Cur.Req.Who, vi x.Cur.Req.Seq, vsl 2 eRead x.Cur.Run.Reads, vsl 2 ePut x.Cur.Run.Puts, vi x.Cur.Run.Val, vi x.Cur.Run.Code, vsl 1 eB x.Votes, .b x.Busy, vsl 4 eIns x.Prog, .b x.Want.None, vi x.Want.Req.Who, vi x.Want.Req.Seq, vsl 2 eRead x.Want.Run.Reads, vsl 2 ePut x.Want.Run.Puts, vi x.Want.Run.Val, vi x.Want.Run.Code, vsl 7 eEntry x.Queue]
structure TMsg where
  Kind : Int
  From : Int
  To : Int
  Bal : Int
  Slot : Int
  Entry : TEntry
  Votes : List TVote
def eMsg (x : TMsg) : List V := [vi x.Kind, vi x.From, vi x.To, vi x.Bal, vi x.Slot, .b x.Entry.None, vi x.Entry.Req.Who, vi x.Entry.Req.Seq, vsl 2 eRead x.Entry.Run.Reads, vsl 2 ePut x.Entry.Run.Puts, vi x.Entry.Run.Val, vi x.Entry.Run.Code, vsl 8 eVote x.Votes]
structure TAsked where
  Req : TReq
  Prog : List TIns
def eAsked (x : TAsked) : List V := [vi x.Req.Who, vi x.Req.Seq, vsl 4 eIns x.Prog]
structure TTold where
  Node : Int
  Req : TReq
  Code : Int
  Val : Int
def eTold (x : TTold) : List V := [vi x.Node, vi x.Req.Who, vi x.Req.Seq, vi x.Code, vi x.Val]
structure TWorld where
  Nodes : List TNode
  Net : List TMsg
  Asked : List TAsked
  Told : List TTold
def eWorld (x : TWorld) : List V := [vsl 27 eNode x.Nodes, vsl 13 eMsg x.Net, vsl 3 eAsked x.Asked, vsl 5 eTold x.Told]
def kReq (x : TReq) : List Int := [x.Who, x.Seq]
def ck27 : List (Option Nat) := [some 27, some 13, some 3, some 5]
def ck35 : List (Option Nat) := [some 27, some 13, some 3, some 5]
def ck66 : List (Option Nat) := [some 2, some 2, none, none]
def ck68 : List (Option Nat) := [none, none, none, some 2, some 2, none, none]
def ck71 : List (Option Nat) := [none, none, some 8, some 7, none, none, none, some 1, some 8, none, none, none, some 2, some 2, none, none, some 1, none, some 4, none, none, none, some 2, some 2, none, none, some 7]
def ck74 : List (Option Nat) := [none, none, none, none, none, none, none, none, some 2, some 2, none, none, some 8]
def ck85 : List (Option Nat) := [some 2, some 2, none, none]
def ck87 : List (Option Nat) := [none, none, none, some 2, some 2, none, none]
def ck90 : List (Option Nat) := [none, none, some 8, some 7, none, none, none, some 1, some 8, none, none, none, some 2, some 2, none, none, some 1, none, some 4, none, none, none, some 2, some 2, none, none, some 7]
def ck94 : List (Option Nat) := [none, none, none, none, none, none, none, none, some 2, some 2, none, none, some 8]
def ck141 : List (Option Nat) := [none, none, none, none, some 2, some 2, none, none]
def ck144 : List (Option Nat) := [none, none, none, none, some 2, some 2, none, none]
theorem eqA44 (d : Nat) (w : World) (x0 x1 y0 y1 : Int) : (Op.equalIn (d + 2) 44 (.agg #[.int .i64 x0, .int .i64 x1]) (.agg #[.int .i64 y0, .int .i64 y1])).run Tryz.prog w = .ok ((x0 == y0) && ((x1 == y1) && true)) w := by
  refine eq_of_fields Tryz.underlying44 Tryz.stoodInHeld44 ?_
  refine eqf_cons (by rfl) (by first | (go_simp; done) | (go_simp; rfl)) (by first | (go_simp; done) | (go_simp; rfl)) (eq_of_int Tryz.underlying3) ?_
  refine eqf_cons (by rfl) (by first | (go_simp; done) | (go_simp; rfl)) (by first | (go_simp; done) | (go_simp; rfl)) (eq_of_int Tryz.underlying3) ?_
  exact eqf_nil
theorem eqT44 (xs ys : List Int) (w : World) (hx : xs.length = 2) (hy : ys.length = 2) : (Op.equal 44 (.agg (xs.map (Value.int .i64)).toArray) (.agg (ys.map (Value.int .i64)).toArray)).run Tryz.prog w = .ok (xs == ys) w := by
  match xs, ys, hx, hy with
  | [x0, x1], [y0, y1], _, _ =>
    have h := eqA44 9998 w x0 x1 y0 y1
    have e : ((x0 == y0) && ((x1 == y1) && true)) = ([x0, x1] == ([y0, y1] : List Int)) := by simp [Bool.and_assoc]
    rw [e] at h
    exact h
theorem eqA159 (d : Nat) (w : World) (x0 x1 y0 y1 : Int) : (Op.equalIn (d + 2) 159 (.agg #[.int .i64 x0, .int .i64 x1]) (.agg #[.int .i64 y0, .int .i64 y1])).run Tryz.prog w = .ok ((x0 == y0) && ((x1 == y1) && true)) w := by
  refine eq_of_fields Tryz.underlying159 Tryz.stoodInHeld159 ?_
  refine eqf_cons (by rfl) (by first | (go_simp; done) | (go_simp; rfl)) (by first | (go_simp; done) | (go_simp; rfl)) (eq_of_int Tryz.underlying3) ?_
  refine eqf_cons (by rfl) (by first | (go_simp; done) | (go_simp; rfl)) (by first | (go_simp; done) | (go_simp; rfl)) (eq_of_int Tryz.underlying3) ?_
  exact eqf_nil
theorem eqT159 (xs ys : List Int) (w : World) (hx : xs.length = 2) (hy : ys.length = 2) : (Op.equal 159 (.agg (xs.map (Value.int .i64)).toArray) (.agg (ys.map (Value.int .i64)).toArray)).run Tryz.prog w = .ok (xs == ys) w := by
  match xs, ys, hx, hy with
  | [x0, x1], [y0, y1], _, _ =>
    have h := eqA159 9998 w x0 x1 y0 y1
    have e : ((x0 == y0) && ((x1 == y1) && true)) = ([x0, x1] == ([y0, y1] : List Int)) := by simp [Bool.and_assoc]
    rw [e] at h
    exact h
theorem eqA161 (d : Nat) (w : World) (x0 x1 y0 y1 : Int) : (Op.equalIn (d + 2) 161 (.agg #[.int .i64 x0, .int .i64 x1]) (.agg #[.int .i64 y0, .int .i64 y1])).run Tryz.prog w = .ok ((x0 == y0) && ((x1 == y1) && true)) w := by
  refine eq_of_fields Tryz.underlying161 Tryz.stoodInHeld161 ?_
  refine eqf_cons (by rfl) (by first | (go_simp; done) | (go_simp; rfl)) (by first | (go_simp; done) | (go_simp; rfl)) (eq_of_int Tryz.underlying3) ?_
  refine eqf_cons (by rfl) (by first | (go_simp; done) | (go_simp; rfl)) (by first | (go_simp; done) | (go_simp; rfl)) (eq_of_int Tryz.underlying3) ?_
  exact eqf_nil
theorem eqT161 (xs ys : List Int) (w : World) (hx : xs.length = 2) (hy : ys.length = 2) : (Op.equal 161 (.agg (xs.map (Value.int .i64)).toArray) (.agg (ys.map (Value.int .i64)).toArray)).run Tryz.prog w = .ok (xs == ys) w := by
  match xs, ys, hx, hy with
  | [x0, x1], [y0, y1], _, _ =>
    have h := eqA161 9998 w x0 x1 y0 y1
    have e : ((x0 == y0) && ((x1 == y1) && true)) = ([x0, x1] == ([y0, y1] : List Int)) := by simp [Bool.and_assoc]
    rw [e] at h
    exact h
def ti3 : TI := { size := 1, bytes := 8, agg := false, zero := [vi 0], sl := none, arr := none, ik := some .i64, fs := none, str := false, ptr := none, bl := false }
def ti4 : TI := { size := 1, bytes := 1, agg := false, zero := [.b false], sl := none, arr := none, ik := none, fs := none, str := false, ptr := none, bl := true }
def ti22 : TI := { size := 1, bytes := 24, agg := false, zero := [.nil], sl := some 71, arr := none, ik := none, fs := none, str := false, ptr := none, bl := false }
def ti23 : TI := { size := 1, bytes := 24, agg := false, zero := [.nil], sl := some 74, arr := none, ik := none, fs := none, str := false, ptr := none, bl := false }
def ti24 : TI := { size := 1, bytes := 24, agg := false, zero := [.nil], sl := some 77, arr := none, ik := none, fs := none, str := false, ptr := none, bl := false }
def ti25 : TI := { size := 1, bytes := 24, agg := false, zero := [.nil], sl := some 105, arr := none, ik := none, fs := none, str := false, ptr := none, bl := false }
def ti27 : TI := { size := 4, bytes := 96, agg := true, zero := [.nil, .nil, .nil, .nil], sl := none, arr := none, ik := none, fs := some [(0, 22), (1, 23), (2, 24), (3, 25)], str := false, ptr := none, bl := false }
def ti30 : TI := { size := 1, bytes := 24, agg := false, zero := [.nil], sl := some 90, arr := none, ik := none, fs := none, str := false, ptr := none, bl := false }
def ti31 : TI := { size := 1, bytes := 24, agg := false, zero := [.nil], sl := some 94, arr := none, ik := none, fs := none, str := false, ptr := none, bl := false }
def ti32 : TI := { size := 1, bytes := 24, agg := false, zero := [.nil], sl := some 97, arr := none, ik := none, fs := none, str := false, ptr := none, bl := false }
def ti33 : TI := { size := 1, bytes := 24, agg := false, zero := [.nil], sl := some 46, arr := none, ik := none, fs := none, str := false, ptr := none, bl := false }
def ti35 : TI := { size := 4, bytes := 96, agg := true, zero := [.nil, .nil, .nil, .nil], sl := none, arr := none, ik := none, fs := some [(0, 30), (1, 31), (2, 32), (3, 33)], str := false, ptr := none, bl := false }
def ti44 : TI := { size := 2, bytes := 16, agg := true, zero := [vi 0, vi 0], sl := none, arr := none, ik := none, fs := some [(0, 3), (1, 3)], str := false, ptr := none, bl := false }
def ti46 : TI := { size := 5, bytes := 40, agg := true, zero := [vi 0, vi 0, vi 0, vi 0, vi 0], sl := none, arr := none, ik := none, fs := some [(0, 3), (1, 44), (3, 3), (4, 3)], str := false, ptr := none, bl := false }
def ti57 : TI := { size := 1, bytes := 24, agg := false, zero := [.nil], sl := some 141, arr := none, ik := none, fs := none, str := false, ptr := none, bl := false }
def ti59 : TI := { size := 2, bytes := 32, agg := true, zero := [vi 0, .nil], sl := none, arr := none, ik := none, fs := some [(0, 3), (1, 57)], str := false, ptr := none, bl := false }
def ti60 : TI := { size := 1, bytes := 24, agg := false, zero := [.nil], sl := some 68, arr := none, ik := none, fs := none, str := false, ptr := none, bl := false }
def ti61 : TI := { size := 1, bytes := 24, agg := false, zero := [.nil], sl := some 4, arr := none, ik := none, fs := none, str := false, ptr := none, bl := false }
def ti62 : TI := { size := 2, bytes := 16, agg := true, zero := [vi 0, vi 0], sl := none, arr := none, ik := none, fs := some [(0, 3), (1, 3)], str := false, ptr := none, bl := false }
def ti63 : TI := { size := 1, bytes := 24, agg := false, zero := [.nil], sl := some 170, arr := none, ik := none, fs := none, str := false, ptr := none, bl := false }
def ti64 : TI := { size := 1, bytes := 24, agg := false, zero := [.nil], sl := some 172, arr := none, ik := none, fs := none, str := false, ptr := none, bl := false }
def ti66 : TI := { size := 4, bytes := 64, agg := true, zero := [.nil, .nil, vi 0, vi 0], sl := none, arr := none, ik := none, fs := some [(0, 63), (1, 64), (2, 3), (3, 3)], str := false, ptr := none, bl := false }
def ti68 : TI := { size := 7, bytes := 88, agg := true, zero := [.b false, vi 0, vi 0, .nil, .nil, vi 0, vi 0], sl := none, arr := none, ik := none, fs := some [(0, 4), (1, 62), (3, 66)], str := false, ptr := none, bl := false }
def ti69 : TI := { size := 1, bytes := 24, agg := false, zero := [.nil], sl := some 152, arr := none, ik := none, fs := none, str := false, ptr := none, bl := false }
def ti71 : TI := { size := 27, bytes := 392, agg := true, zero := [vi 0, vi 0, .nil, .nil, vi 0, vi 0, vi 0, .nil, .nil, .b false, vi 0, vi 0, .nil, .nil, vi 0, vi 0, .nil, .b false, .nil, .b false, vi 0, vi 0, .nil, .nil, vi 0, vi 0, .nil], sl := none, arr := none, ik := none, fs := some [(0, 3), (1, 59), (3, 60), (4, 3), (5, 3), (6, 3), (7, 61), (8, 57), (9, 68), (16, 61), (17, 4), (18, 69), (19, 68), (26, 60)], str := false, ptr := none, bl := false }
def ti74 : TI := { size := 13, bytes := 152, agg := true, zero := [vi 0, vi 0, vi 0, vi 0, vi 0, .b false, vi 0, vi 0, .nil, .nil, vi 0, vi 0, .nil], sl := none, arr := none, ik := none, fs := some [(0, 3), (1, 3), (2, 3), (3, 3), (4, 3), (5, 68), (12, 57)], str := false, ptr := none, bl := false }
def ti77 : TI := { size := 3, bytes := 40, agg := true, zero := [vi 0, vi 0, .nil], sl := none, arr := none, ik := none, fs := some [(0, 62), (2, 69)], str := false, ptr := none, bl := false }
def ti78 : TI := { size := 1, bytes := 24, agg := false, zero := [.nil], sl := some 144, arr := none, ik := none, fs := none, str := false, ptr := none, bl := false }
def ti80 : TI := { size := 2, bytes := 32, agg := true, zero := [vi 0, .nil], sl := none, arr := none, ik := none, fs := some [(0, 3), (1, 78)], str := false, ptr := none, bl := false }
def ti81 : TI := { size := 1, bytes := 24, agg := false, zero := [.nil], sl := some 87, arr := none, ik := none, fs := none, str := false, ptr := none, bl := false }
def ti82 : TI := { size := 1, bytes := 24, agg := false, zero := [.nil], sl := some 159, arr := none, ik := none, fs := none, str := false, ptr := none, bl := false }
def ti83 : TI := { size := 1, bytes := 24, agg := false, zero := [.nil], sl := some 161, arr := none, ik := none, fs := none, str := false, ptr := none, bl := false }
def ti85 : TI := { size := 4, bytes := 64, agg := true, zero := [.nil, .nil, vi 0, vi 0], sl := none, arr := none, ik := none, fs := some [(0, 82), (1, 83), (2, 3), (3, 3)], str := false, ptr := none, bl := false }
def ti87 : TI := { size := 7, bytes := 88, agg := true, zero := [.b false, vi 0, vi 0, .nil, .nil, vi 0, vi 0], sl := none, arr := none, ik := none, fs := some [(0, 4), (1, 44), (3, 85)], str := false, ptr := none, bl := false }
def ti88 : TI := { size := 1, bytes := 24, agg := false, zero := [.nil], sl := some 124, arr := none, ik := none, fs := none, str := false, ptr := none, bl := false }
def ti90 : TI := { size := 27, bytes := 392, agg := true, zero := [vi 0, vi 0, .nil, .nil, vi 0, vi 0, vi 0, .nil, .nil, .b false, vi 0, vi 0, .nil, .nil, vi 0, vi 0, .nil, .b false, .nil, .b false, vi 0, vi 0, .nil, .nil, vi 0, vi 0, .nil], sl := none, arr := none, ik := none, fs := some [(0, 3), (1, 80), (3, 81), (4, 3), (5, 3), (6, 3), (7, 61), (8, 78), (9, 87), (16, 61), (17, 4), (18, 88), (19, 87), (26, 81)], str := false, ptr := none, bl := false }
def ti94 : TI := { size := 13, bytes := 152, agg := true, zero := [vi 0, vi 0, vi 0, vi 0, vi 0, .b false, vi 0, vi 0, .nil, .nil, vi 0, vi 0, .nil], sl := none, arr := none, ik := none, fs := some [(0, 3), (1, 3), (2, 3), (3, 3), (4, 3), (5, 87), (12, 78)], str := false, ptr := none, bl := false }
def ti97 : TI := { size := 3, bytes := 40, agg := true, zero := [vi 0, vi 0, .nil], sl := none, arr := none, ik := none, fs := some [(0, 44), (2, 88)], str := false, ptr := none, bl := false }
def ti105 : TI := { size := 5, bytes := 40, agg := true, zero := [vi 0, vi 0, vi 0, vi 0, vi 0], sl := none, arr := none, ik := none, fs := some [(0, 3), (1, 62), (3, 3), (4, 3)], str := false, ptr := none, bl := false }
def ti124 : TI := { size := 4, bytes := 32, agg := true, zero := [vi 0, vi 0, vi 0, vi 0], sl := none, arr := none, ik := none, fs := some [(0, 3), (1, 3), (2, 3), (3, 3)], str := false, ptr := none, bl := false }
def ti141 : TI := { size := 8, bytes := 96, agg := true, zero := [vi 0, .b false, vi 0, vi 0, .nil, .nil, vi 0, vi 0], sl := none, arr := none, ik := none, fs := some [(0, 3), (1, 68)], str := false, ptr := none, bl := false }
def ti144 : TI := { size := 8, bytes := 96, agg := true, zero := [vi 0, .b false, vi 0, vi 0, .nil, .nil, vi 0, vi 0], sl := none, arr := none, ik := none, fs := some [(0, 3), (1, 87)], str := false, ptr := none, bl := false }
def ti152 : TI := { size := 4, bytes := 32, agg := true, zero := [vi 0, vi 0, vi 0, vi 0], sl := none, arr := none, ik := none, fs := some [(0, 3), (1, 3), (2, 3), (3, 3)], str := false, ptr := none, bl := false }
def ti159 : TI := { size := 2, bytes := 16, agg := true, zero := [vi 0, vi 0], sl := none, arr := none, ik := none, fs := some [(0, 3), (1, 3)], str := false, ptr := none, bl := false }
def ti161 : TI := { size := 2, bytes := 16, agg := true, zero := [vi 0, vi 0], sl := none, arr := none, ik := none, fs := some [(0, 3), (1, 3)], str := false, ptr := none, bl := false }
def ti166 : TI := { size := 4, bytes := 4, agg := true, zero := [.b false, .b false, .b false, .b false], sl := none, arr := some (4, 4), ik := none, fs := none, str := false, ptr := none, bl := false }
def ti170 : TI := { size := 2, bytes := 16, agg := true, zero := [vi 0, vi 0], sl := none, arr := none, ik := none, fs := some [(0, 3), (1, 3)], str := false, ptr := none, bl := false }
def ti172 : TI := { size := 2, bytes := 16, agg := true, zero := [vi 0, vi 0], sl := none, arr := none, ik := none, fs := some [(0, 3), (1, 3)], str := false, ptr := none, bl := false }
def tiTab : List (Nat × TI) := [(3, ti3), (4, ti4), (22, ti22), (23, ti23), (24, ti24), (25, ti25), (27, ti27), (30, ti30), (31, ti31), (32, ti32), (33, ti33), (35, ti35), (44, ti44), (46, ti46), (57, ti57), (59, ti59), (60, ti60), (61, ti61), (62, ti62), (63, ti63), (64, ti64), (66, ti66), (68, ti68), (69, ti69), (71, ti71), (74, ti74), (77, ti77), (78, ti78), (80, ti80), (81, ti81), (82, ti82), (83, ti83), (85, ti85), (87, ti87), (88, ti88), (90, ti90), (94, ti94), (97, ti97), (105, ti105), (124, ti124), (141, ti141), (144, ti144), (152, ti152), (159, ti159), (161, ti161), (166, ti166), (170, ti170), (172, ti172)]
def tiAt : List (Nat × TI) → Nat → Option TI
  | [], _ => none
  | (k, x) :: l, t => if Nat.beq k t then some x else tiAt l t
theorem tiAt_mem {l : List (Nat × TI)} {t : Nat} {x : TI} (h : tiAt l t = some x) : (t, x) ∈ l := by
  induction l with
  | nil => cases h
  | cons p l ih =>
    obtain ⟨k, y⟩ := p
    unfold tiAt at h
    split at h
    · rename_i hk
      have : k = t := Nat.eq_of_beq_eq_true hk
      injection h with h
      subst this; subst h
      simp
    · exact List.mem_cons.2 (.inr (ih h))
theorem tiOf3 : tiOf Tryz.prog 3 = some ti3 := by kernel_rfl
theorem tiOf4 : tiOf Tryz.prog 4 = some ti4 := by kernel_rfl
theorem tiOf22 : tiOf Tryz.prog 22 = some ti22 := by kernel_rfl
theorem tiOf23 : tiOf Tryz.prog 23 = some ti23 := by kernel_rfl
theorem tiOf24 : tiOf Tryz.prog 24 = some ti24 := by kernel_rfl
theorem tiOf25 : tiOf Tryz.prog 25 = some ti25 := by kernel_rfl
theorem tiOf27 : tiOf Tryz.prog 27 = some ti27 := by kernel_rfl
theorem tiOf30 : tiOf Tryz.prog 30 = some ti30 := by kernel_rfl
theorem tiOf31 : tiOf Tryz.prog 31 = some ti31 := by kernel_rfl
theorem tiOf32 : tiOf Tryz.prog 32 = some ti32 := by kernel_rfl
theorem tiOf33 : tiOf Tryz.prog 33 = some ti33 := by kernel_rfl
theorem tiOf35 : tiOf Tryz.prog 35 = some ti35 := by kernel_rfl
theorem tiOf44 : tiOf Tryz.prog 44 = some ti44 := by kernel_rfl
theorem tiOf46 : tiOf Tryz.prog 46 = some ti46 := by kernel_rfl
theorem tiOf57 : tiOf Tryz.prog 57 = some ti57 := by kernel_rfl
theorem tiOf59 : tiOf Tryz.prog 59 = some ti59 := by kernel_rfl
theorem tiOf60 : tiOf Tryz.prog 60 = some ti60 := by kernel_rfl
theorem tiOf61 : tiOf Tryz.prog 61 = some ti61 := by kernel_rfl
theorem tiOf62 : tiOf Tryz.prog 62 = some ti62 := by kernel_rfl
theorem tiOf63 : tiOf Tryz.prog 63 = some ti63 := by kernel_rfl
theorem tiOf64 : tiOf Tryz.prog 64 = some ti64 := by kernel_rfl
theorem tiOf66 : tiOf Tryz.prog 66 = some ti66 := by kernel_rfl
theorem tiOf68 : tiOf Tryz.prog 68 = some ti68 := by kernel_rfl
theorem tiOf69 : tiOf Tryz.prog 69 = some ti69 := by kernel_rfl
theorem tiOf71 : tiOf Tryz.prog 71 = some ti71 := by kernel_rfl
theorem tiOf74 : tiOf Tryz.prog 74 = some ti74 := by kernel_rfl
theorem tiOf77 : tiOf Tryz.prog 77 = some ti77 := by kernel_rfl
theorem tiOf78 : tiOf Tryz.prog 78 = some ti78 := by kernel_rfl
theorem tiOf80 : tiOf Tryz.prog 80 = some ti80 := by kernel_rfl
theorem tiOf81 : tiOf Tryz.prog 81 = some ti81 := by kernel_rfl
theorem tiOf82 : tiOf Tryz.prog 82 = some ti82 := by kernel_rfl
theorem tiOf83 : tiOf Tryz.prog 83 = some ti83 := by kernel_rfl
theorem tiOf85 : tiOf Tryz.prog 85 = some ti85 := by kernel_rfl
theorem tiOf87 : tiOf Tryz.prog 87 = some ti87 := by kernel_rfl
theorem tiOf88 : tiOf Tryz.prog 88 = some ti88 := by kernel_rfl
theorem tiOf90 : tiOf Tryz.prog 90 = some ti90 := by kernel_rfl
theorem tiOf94 : tiOf Tryz.prog 94 = some ti94 := by kernel_rfl
theorem tiOf97 : tiOf Tryz.prog 97 = some ti97 := by kernel_rfl
theorem tiOf105 : tiOf Tryz.prog 105 = some ti105 := by kernel_rfl
theorem tiOf124 : tiOf Tryz.prog 124 = some ti124 := by kernel_rfl
theorem tiOf141 : tiOf Tryz.prog 141 = some ti141 := by kernel_rfl
theorem tiOf144 : tiOf Tryz.prog 144 = some ti144 := by kernel_rfl
theorem tiOf152 : tiOf Tryz.prog 152 = some ti152 := by kernel_rfl
theorem tiOf159 : tiOf Tryz.prog 159 = some ti159 := by kernel_rfl
theorem tiOf161 : tiOf Tryz.prog 161 = some ti161 := by kernel_rfl
theorem tiOf166 : tiOf Tryz.prog 166 = some ti166 := by kernel_rfl
theorem tiOf170 : tiOf Tryz.prog 170 = some ti170 := by kernel_rfl
theorem tiOf172 : tiOf Tryz.prog 172 = some ti172 := by kernel_rfl
theorem tiTab_ok : ∀ p ∈ tiTab, tiOf Tryz.prog p.1 = some p.2 := by
  intro p hp
  simp only [tiTab, List.mem_cons, List.not_mem_nil, or_false] at hp
  rcases hp with rfl | rfl | rfl | rfl | rfl | rfl | rfl | rfl | rfl | rfl | rfl | rfl | rfl | rfl | rfl | rfl | rfl | rfl | rfl | rfl | rfl | rfl | rfl | rfl | rfl | rfl | rfl | rfl | rfl | rfl | rfl | rfl | rfl | rfl | rfl | rfl | rfl | rfl | rfl | rfl | rfl | rfl | rfl | rfl | rfl | rfl | rfl | rfl
  · exact tiOf3
  · exact tiOf4
  · exact tiOf22
  · exact tiOf23
  · exact tiOf24
  · exact tiOf25
  · exact tiOf27
  · exact tiOf30
  · exact tiOf31
  · exact tiOf32
  · exact tiOf33
  · exact tiOf35
  · exact tiOf44
  · exact tiOf46
  · exact tiOf57
  · exact tiOf59
  · exact tiOf60
  · exact tiOf61
  · exact tiOf62
  · exact tiOf63
  · exact tiOf64
  · exact tiOf66
  · exact tiOf68
  · exact tiOf69
  · exact tiOf71
  · exact tiOf74
  · exact tiOf77
  · exact tiOf78
  · exact tiOf80
  · exact tiOf81
  · exact tiOf82
  · exact tiOf83
  · exact tiOf85
  · exact tiOf87
  · exact tiOf88
  · exact tiOf90
  · exact tiOf94
  · exact tiOf97
  · exact tiOf105
  · exact tiOf124
  · exact tiOf141
  · exact tiOf144
  · exact tiOf152
  · exact tiOf159
  · exact tiOf161
  · exact tiOf166
  · exact tiOf170
  · exact tiOf172
def eqAt (t : Nat) : Option Nat := if Nat.beq t 44 then some 2 else if Nat.beq t 159 then some 2 else if Nat.beq t 161 then some 2 else  none
theorem eqAt_eq (t m : Nat) (h : eqAt t = some m) (xs ys : List Int) (w : World) (hx : xs.length = m) (hy : ys.length = m) : (Op.equal t (.agg (xs.map (Value.int .i64)).toArray) (.agg (ys.map (Value.int .i64)).toArray)).run Tryz.prog w = .ok (xs == ys) w := by
  unfold eqAt at h
  split at h
  · rename_i hk
    have hm : 2 = m := Option.some.inj h
    rw [Nat.eq_of_beq_eq_true hk]
    exact eqT44 xs ys w (hx.trans hm.symm) (hy.trans hm.symm)
  split at h
  · rename_i hk
    have hm : 2 = m := Option.some.inj h
    rw [Nat.eq_of_beq_eq_true hk]
    exact eqT159 xs ys w (hx.trans hm.symm) (hy.trans hm.symm)
  split at h
  · rename_i hk
    have hm : 2 = m := Option.some.inj h
    rw [Nat.eq_of_beq_eq_true hk]
    exact eqT161 xs ys w (hx.trans hm.symm) (hy.trans hm.symm)
  cases h
theorem eqAt_guard (t m : Nat) (h : eqAt t = some m) : Tryz.prog.eqGuardType Tryz.prog.depth t = false := by
  unfold eqAt at h
  split at h
  · rename_i hk
    have hm : 2 = m := Option.some.inj h
    rw [Nat.eq_of_beq_eq_true hk]
    exact Tryz.eqGuardType44
  split at h
  · rename_i hk
    have hm : 2 = m := Option.some.inj h
    rw [Nat.eq_of_beq_eq_true hk]
    exact Tryz.eqGuardType159
  split at h
  · rename_i hk
    have hm : 2 = m := Option.some.inj h
    rw [Nat.eq_of_beq_eq_true hk]
    exact Tryz.eqGuardType161
  cases h
theorem mapU51 : Tryz.prog.underlying 51 = some (.map 44 4) := by kernel_rfl
theorem mapZ51 (w : World) : (zeroValue 4).run Tryz.prog w = .ok (.bool false) w := by kernel_rfl
theorem mapK51 (em : Bool) (xs : List Int) (w : World) (h : xs.length = 2) : (Instr.checkKey em 10000 44 (kv xs)).run Tryz.prog w = .ok () w := by
  match xs, h with
  | [x0, x1], _ =>
    refine chk_step (n := 9999) Tryz.underlying44 fun f hf => ?_
    simp only [List.mem_cons, List.not_mem_nil, or_false] at hf
    rcases hf with rfl | rfl
    · exact ⟨.int .i64 x0, by first | (go_simp; done) | (go_simp; rfl), chk_int (n := 9998) Tryz.underlying3⟩
    · exact ⟨.int .i64 x1, by first | (go_simp; done) | (go_simp; rfl), chk_int (n := 9998) Tryz.underlying3⟩
def mapAt (t : Nat) : Option (Nat × Nat × V) := if Nat.beq t 51 then some (44, 2, .b false) else  none
theorem mapAt_ok (t kt m : Nat) (z : V) (h : mapAt t = some (kt, m, z)) : ∃ vt, Tryz.prog.underlying t = some (.map kt vt) ∧ eqAt kt = some m ∧ wideKey (Tryz.prog.underlying kt) = true ∧ (∀ w, (zeroValue vt).run Tryz.prog w = .ok z.conc w) ∧ z.simple = true ∧ ∀ (em : Bool) (xs : List Int) (w : World), xs.length = m → (Instr.checkKey em 10000 kt (kv xs)).run Tryz.prog w = .ok () w := by
  unfold mapAt at h
  split at h
  · rename_i hk
    injection h with h
    injection h with h1 h
    injection h with h2 h3
    subst h1; subst h2; subst h3
    obtain rfl := Nat.eq_of_beq_eq_true hk
    exact ⟨4, mapU51, rfl, by rw [Tryz.underlying44]; rfl, mapZ51, rfl, mapK51⟩
  cases h
theorem mixedP : Tryz.prog.follows .mixedOrders = true := by kernel_rfl
noncomputable def cx : Cx where
  P := Tryz.prog
  mixed := mixedP
  T := tiAt tiTab
  hT := fun t ti h => tiTab_ok (t, ti) (tiAt_mem h)
  E := eqAt
  hE := eqAt_eq
  hG := eqAt_guard
  M := mapAt
  hM := mapAt_ok

end Go.Proofs.YtnbiggnidjfgeaaGreat
