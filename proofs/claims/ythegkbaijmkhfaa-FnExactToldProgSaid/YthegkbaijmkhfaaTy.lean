/- The data, and what is known of the types of the program. -/
import Derived.Test.YthegkbaijmkhfaaAm34
import Derived.Test.YthegkbaijmkhfaaProg
set_option linter.unusedVariables false
set_option linter.unusedSimpArgs false
namespace Go.Proofs.Ythegkbaijmkhfaa
open Go

def eI (x : Int) : List V := [vi x]
def eU8 (x : Int) : List V := [.i .u8 x]
def eB (x : Bool) : List V := [.b x]
structure TReq where
  Who : Int
  Seq : Int
def eReq (x : TReq) : List V := [vi x.Who, vi x.Seq]
structure TRead where
  Box : Int
  Ver : Int
def eRead (x : TRead) : List V := [vi x.Box, vi x.Ver]
structure TPut where
  Box : Int
  Val : Int
def ePut (x : TPut) : List V := [vi x.Box, vi x.Val]
structure TRun where
  Reads : List TRead
  Puts : List TPut
  Val : Int
  Code : Int
def eRun (x : TRun) : List V := [vsl 2 eRead x.Reads, vsl 2 ePut x.Puts, vi x.Val, vi x.Code]
structure TEntry where
  None : Bool
  Req : TReq
  Run : TRun
def eEntry (x : TEntry) : List V := [.b x.None, vi x.Req.Who, vi x.Req.Seq, vsl 2 eRead x.Run.Reads, vsl 2 ePut x.Run.Puts, vi x.Run.Val, vi x.Run.Code]
structure TVote where
  Bal : Int
  Entry : TEntry
def eVote (x : TVote) : List V := [vi x.Bal, .b x.Entry.None, vi x.Entry.Req.Who, vi x.Entry.Req.Seq, vsl 2 eRead x.Entry.Run.Reads, vsl 2 ePut x.Entry.Run.Puts, vi x.Entry.Run.Val, vi x.Entry.Run.Code]
structure TAcc where
  Promised : Int
  Votes : List TVote
def eAcc (x : TAcc) : List V := [vi x.Promised, vsl 8 eVote x.Votes]
structure TIns where
  Kind : Int
  A : Int
  B : Int
  N : Int
def eIns (x : TIns) : List V := [vi x.Kind, vi x.A, vi x.B, vi x.N]
structure TNode where
  Id : Int
  Acc : TAcc
  Known : List TEntry
  Seq : Int
  Phase : Int
  Bal : Int
  From : List Bool
  Best : List TVote
  Cur : TEntry
  Votes : List Bool
  Busy : Bool
  Prog : List TIns
  Want : TEntry
  Queue : List TEntry
def eNode (x : TNode) : List V := [vi x.Id, vi x.Acc.Promised, vsl 8 eVote x.Acc.Votes, vsl 7 eEntry x.Known, vi x.Seq, vi x.Phase, vi x.Bal, vsl 1 eB x.From, vsl 8 eVote x.Best, .b x.Cur.None, vi x.Cur.Req.Who, vi x.Cur.Req.Seq, vsl 2 eRead x.Cur.Run.Reads, vsl 2 ePut x.Cur.Run.Puts, vi x.Cur.Run.Val, vi x.Cur.Run.Code, vsl 1 eB x.Votes, .b x.Busy, vsl 4 eIns x.Prog, .b x.Want.None, vi x.Want.Req.Who, vi x.Want.Req.Seq, vsl 2 eRead x.Want.Run.Reads, vsl 2 ePut x.Want.Run.Puts, vi x.Want.Run.Val, vi x.Want.Run.Code, vsl 7 eEntry x.Queue]
structure TMsg where
  Kind : Int
  From : Int
  To : Int
  Bal : Int
  Slot : Int
  Entry : TEntry
  Votes : List TVote
def eMsg (x : TMsg) : List V := [vi x.Kind, vi x.From, vi x.To, vi x.Bal, vi x.Slot, .b x.Entry.None, vi x.Entry.Req.Who, vi x.Entry.Req.Seq, vsl 2 eRead x.Entry.Run.Reads, vsl 2 ePut x.Entry.Run.Puts, vi x.Entry.Run.Val, vi x.Entry.Run.Code, vsl 8 eVote x.Votes]
structure TAsked where
  Req : TReq
  Prog : List TIns
def eAsked (x : TAsked) : List V := [vi x.Req.Who, vi x.Req.Seq, vsl 4 eIns x.Prog]
structure TTold where
  Node : Int
  Req : TReq
  Code : Int
  Val : Int
def eTold (x : TTold) : List V := [vi x.Node, vi x.Req.Who, vi x.Req.Seq, vi x.Code, vi x.Val]
structure TWorld where
  Nodes : List TNode
  Net : List TMsg
  Asked : List TAsked
  Told : List TTold
def eWorld (x : TWorld) : List V := [vsl 27 eNode x.Nodes, vsl 13 eMsg x.Net, vsl 3 eAsked x.Asked, vsl 5 eTold x.Told]
def eVote_1 (x : TVote) : List V := [vi x.Bal, .b x.Entry.None, vi x.Entry.Req.Who, vi x.Entry.Req.Seq, vosl 142 2 eRead x.Entry.Run.Reads, vosl 144 2 ePut x.Entry.Run.Puts, vi x.Entry.Run.Val, vi x.Entry.Run.Code]
theorem eVote_1_nr (x : TVote) : ∀ v ∈ eVote_1 x, v.isRef = false := by simp [eVote_1, V.isRef, vi, vosl, vdsl]
theorem eVote_1_view (x : TVote) : viewL (eVote_1 x) = eVote x := by simp [eVote_1, eVote, viewL, viewC, vi, vsl, vosl, vdsl]
def eEntry_1 (x : TEntry) : List V := [.b x.None, vi x.Req.Who, vi x.Req.Seq, vosl 142 2 eRead x.Run.Reads, vosl 144 2 ePut x.Run.Puts, vi x.Run.Val, vi x.Run.Code]
theorem eEntry_1_nr (x : TEntry) : ∀ v ∈ eEntry_1 x, v.isRef = false := by simp [eEntry_1, V.isRef, vi, vosl, vdsl]
theorem eEntry_1_view (x : TEntry) : viewL (eEntry_1 x) = eEntry x := by simp [eEntry_1, eEntry, viewL, viewC, vi, vsl, vosl, vdsl]
def eNode_2 (x : TNode) : List V := [vi x.Id, vi x.Acc.Promised, vdsl 140 8 eVote_1 x.Acc.Votes, vdsl 100 7 eEntry_1 x.Known, vi x.Seq, vi x.Phase, vi x.Bal, vosl 4 1 eB x.From, vdsl 140 8 eVote_1 x.Best, .b x.Cur.None, vi x.Cur.Req.Who, vi x.Cur.Req.Seq, vosl 142 2 eRead x.Cur.Run.Reads, vosl 144 2 ePut x.Cur.Run.Puts, vi x.Cur.Run.Val, vi x.Cur.Run.Code, vosl 4 1 eB x.Votes, .b x.Busy, vosl 60 4 eIns x.Prog, .b x.Want.None, vi x.Want.Req.Who, vi x.Want.Req.Seq, vosl 142 2 eRead x.Want.Run.Reads, vosl 144 2 ePut x.Want.Run.Puts, vi x.Want.Run.Val, vi x.Want.Run.Code, vdsl 100 7 eEntry_1 x.Queue]
theorem eNode_2_nr (x : TNode) : ∀ v ∈ eNode_2 x, v.isRef = false := by simp [eNode_2, V.isRef, vi, vosl, vdsl]
theorem eNode_2_view (x : TNode) : viewL (eNode_2 x) = eNode x := by simp [eNode_2, eNode, viewL, viewC, vi, vsl, vosl, vdsl, viewR_map eEntry_1_view, viewR_map eVote_1_view]
def eMsg_2 (x : TMsg) : List V := [vi x.Kind, vi x.From, vi x.To, vi x.Bal, vi x.Slot, .b x.Entry.None, vi x.Entry.Req.Who, vi x.Entry.Req.Seq, vosl 142 2 eRead x.Entry.Run.Reads, vosl 144 2 ePut x.Entry.Run.Puts, vi x.Entry.Run.Val, vi x.Entry.Run.Code, vdsl 140 8 eVote_1 x.Votes]
theorem eMsg_2_nr (x : TMsg) : ∀ v ∈ eMsg_2 x, v.isRef = false := by simp [eMsg_2, V.isRef, vi, vosl, vdsl]
theorem eMsg_2_view (x : TMsg) : viewL (eMsg_2 x) = eMsg x := by simp [eMsg_2, eMsg, viewL, viewC, vi, vsl, vosl, vdsl, viewR_map eVote_1_view]
def eAsked_1 (x : TAsked) : List V := [vi x.Req.Who, vi x.Req.Seq, vosl 60 4 eIns x.Prog]
theorem eAsked_1_nr (x : TAsked) : ∀ v ∈ eAsked_1 x, v.isRef = false := by simp [eAsked_1, V.isRef, vi, vosl, vdsl]
theorem eAsked_1_view (x : TAsked) : viewL (eAsked_1 x) = eAsked x := by simp [eAsked_1, eAsked, viewL, viewC, vi, vsl, vosl, vdsl]
def ck27 : List (Option Nat) := [some 27, some 13, some 3, some 5]
def ck39 : List (Option Nat) := [some 27, some 13, some 3, some 5]
def ck79 : List (Option Nat) := [some 2, some 2, none, none]
def ck81 : List (Option Nat) := [none, none, none, some 2, some 2, none, none]
def ck84 : List (Option Nat) := [none, none, some 8, some 7, none, none, none, some 1, some 8, none, none, none, some 2, some 2, none, none, some 1, none, some 4, none, none, none, some 2, some 2, none, none, some 7]
def ck87 : List (Option Nat) := [none, none, none, none, none, none, none, none, some 2, some 2, none, none, some 8]
def ck98 : List (Option Nat) := [some 2, some 2, none, none]
def ck100 : List (Option Nat) := [none, none, none, some 2, some 2, none, none]
def ck102 : List (Option Nat) := [none, none, some 8, some 7, none, none, none, some 1, some 8, none, none, none, some 2, some 2, none, none, some 1, none, some 4, none, none, none, some 2, some 2, none, none, some 7]
def ck105 : List (Option Nat) := [none, none, none, none, none, none, none, none, some 2, some 2, none, none, some 8]
def ck140 : List (Option Nat) := [none, none, none, none, some 2, some 2, none, none]
def ck147 : List (Option Nat) := [none, none, none, none, some 2, some 2, none, none]
theorem eqA41 (d : Nat) (w : World) (x0 x1 y0 y1 : Int) : (Op.equalIn (d + 2) 41 (.agg #[.int .i64 x0, .int .i64 x1]) (.agg #[.int .i64 y0, .int .i64 y1])).run Try.prog w = .ok ((x0 == y0) && ((x1 == y1) && true)) w := by
  refine eq_of_fields Try.underlying41 Try.stoodInHeld41 ?_
  refine eqf_cons (by rfl) (by first | (go_simp; done) | (go_simp; rfl)) (by first | (go_simp; done) | (go_simp; rfl)) (eq_of_int Try.underlying3) ?_
  refine eqf_cons (by rfl) (by first | (go_simp; done) | (go_simp; rfl)) (by first | (go_simp; done) | (go_simp; rfl)) (eq_of_int Try.underlying3) ?_
  exact eqf_nil
theorem eqT41 (xs ys : List Int) (w : World) (hx : xs.length = 2) (hy : ys.length = 2) : (Op.equal 41 (.agg (xs.map (Value.int .i64)).toArray) (.agg (ys.map (Value.int .i64)).toArray)).run Try.prog w = .ok (xs == ys) w := by
  match xs, ys, hx, hy with
  | [x0, x1], [y0, y1], _, _ =>
    have h := eqA41 9998 w x0 x1 y0 y1
    have e : ((x0 == y0) && ((x1 == y1) && true)) = ([x0, x1] == ([y0, y1] : List Int)) := by simp [Bool.and_assoc]
    rw [e] at h
    exact h
def ti3 : TI := { size := 1, bytes := 8, agg := false, zero := [vi 0], sl := none, arr := none, ik := some .i64, fs := none, str := false, ptr := none, bl := false }
def ti4 : TI := { size := 1, bytes := 1, agg := false, zero := [.b false], sl := none, arr := none, ik := none, fs := none, str := false, ptr := none, bl := true }
def ti22 : TI := { size := 1, bytes := 24, agg := false, zero := [.nil], sl := some 84, arr := none, ik := none, fs := none, str := false, ptr := none, bl := false }
def ti23 : TI := { size := 1, bytes := 24, agg := false, zero := [.nil], sl := some 87, arr := none, ik := none, fs := none, str := false, ptr := none, bl := false }
def ti24 : TI := { size := 1, bytes := 24, agg := false, zero := [.nil], sl := some 90, arr := none, ik := none, fs := none, str := false, ptr := none, bl := false }
def ti25 : TI := { size := 1, bytes := 24, agg := false, zero := [.nil], sl := some 112, arr := none, ik := none, fs := none, str := false, ptr := none, bl := false }
def ti27 : TI := { size := 4, bytes := 96, agg := true, zero := [.nil, .nil, .nil, .nil], sl := none, arr := none, ik := none, fs := some [(0, 22), (1, 23), (2, 24), (3, 25)], str := false, ptr := none, bl := false }
def ti29 : TI := { size := 2, bytes := 16, agg := true, zero := [vi 0, vi 0], sl := none, arr := none, ik := none, fs := some [(0, 3), (1, 3)], str := false, ptr := none, bl := false }
def ti31 : TI := { size := 1, bytes := 24, agg := false, zero := [.nil], sl := some 60, arr := none, ik := none, fs := none, str := false, ptr := none, bl := false }
def ti34 : TI := { size := 1, bytes := 24, agg := false, zero := [.nil], sl := some 102, arr := none, ik := none, fs := none, str := false, ptr := none, bl := false }
def ti35 : TI := { size := 1, bytes := 24, agg := false, zero := [.nil], sl := some 105, arr := none, ik := none, fs := none, str := false, ptr := none, bl := false }
def ti36 : TI := { size := 1, bytes := 24, agg := false, zero := [.nil], sl := some 53, arr := none, ik := none, fs := none, str := false, ptr := none, bl := false }
def ti37 : TI := { size := 1, bytes := 24, agg := false, zero := [.nil], sl := some 109, arr := none, ik := none, fs := none, str := false, ptr := none, bl := false }
def ti39 : TI := { size := 4, bytes := 96, agg := true, zero := [.nil, .nil, .nil, .nil], sl := none, arr := none, ik := none, fs := some [(0, 34), (1, 35), (2, 36), (3, 37)], str := false, ptr := none, bl := false }
def ti41 : TI := { size := 2, bytes := 16, agg := true, zero := [vi 0, vi 0], sl := none, arr := none, ik := none, fs := some [(0, 3), (1, 3)], str := false, ptr := none, bl := false }
def ti53 : TI := { size := 3, bytes := 40, agg := true, zero := [vi 0, vi 0, .nil], sl := none, arr := none, ik := none, fs := some [(0, 41), (2, 31)], str := false, ptr := none, bl := false }
def ti60 : TI := { size := 4, bytes := 32, agg := true, zero := [vi 0, vi 0, vi 0, vi 0], sl := none, arr := none, ik := none, fs := some [(0, 3), (1, 3), (2, 3), (3, 3)], str := false, ptr := none, bl := false }
def ti71 : TI := { size := 1, bytes := 24, agg := false, zero := [.nil], sl := some 147, arr := none, ik := none, fs := none, str := false, ptr := none, bl := false }
def ti73 : TI := { size := 2, bytes := 32, agg := true, zero := [vi 0, .nil], sl := none, arr := none, ik := none, fs := some [(0, 3), (1, 71)], str := false, ptr := none, bl := false }
def ti74 : TI := { size := 1, bytes := 24, agg := false, zero := [.nil], sl := some 81, arr := none, ik := none, fs := none, str := false, ptr := none, bl := false }
def ti75 : TI := { size := 1, bytes := 24, agg := false, zero := [.nil], sl := some 4, arr := none, ik := none, fs := none, str := false, ptr := none, bl := false }
def ti76 : TI := { size := 1, bytes := 24, agg := false, zero := [.nil], sl := some 162, arr := none, ik := none, fs := none, str := false, ptr := none, bl := false }
def ti77 : TI := { size := 1, bytes := 24, agg := false, zero := [.nil], sl := some 164, arr := none, ik := none, fs := none, str := false, ptr := none, bl := false }
def ti79 : TI := { size := 4, bytes := 64, agg := true, zero := [.nil, .nil, vi 0, vi 0], sl := none, arr := none, ik := none, fs := some [(0, 76), (1, 77), (2, 3), (3, 3)], str := false, ptr := none, bl := false }
def ti81 : TI := { size := 7, bytes := 88, agg := true, zero := [.b false, vi 0, vi 0, .nil, .nil, vi 0, vi 0], sl := none, arr := none, ik := none, fs := some [(0, 4), (1, 29), (3, 79)], str := false, ptr := none, bl := false }
def ti82 : TI := { size := 1, bytes := 24, agg := false, zero := [.nil], sl := some 152, arr := none, ik := none, fs := none, str := false, ptr := none, bl := false }
def ti84 : TI := { size := 27, bytes := 392, agg := true, zero := [vi 0, vi 0, .nil, .nil, vi 0, vi 0, vi 0, .nil, .nil, .b false, vi 0, vi 0, .nil, .nil, vi 0, vi 0, .nil, .b false, .nil, .b false, vi 0, vi 0, .nil, .nil, vi 0, vi 0, .nil], sl := none, arr := none, ik := none, fs := some [(0, 3), (1, 73), (3, 74), (4, 3), (5, 3), (6, 3), (7, 75), (8, 71), (9, 81), (16, 75), (17, 4), (18, 82), (19, 81), (26, 74)], str := false, ptr := none, bl := false }
def ti87 : TI := { size := 13, bytes := 152, agg := true, zero := [vi 0, vi 0, vi 0, vi 0, vi 0, .b false, vi 0, vi 0, .nil, .nil, vi 0, vi 0, .nil], sl := none, arr := none, ik := none, fs := some [(0, 3), (1, 3), (2, 3), (3, 3), (4, 3), (5, 81), (12, 71)], str := false, ptr := none, bl := false }
def ti90 : TI := { size := 3, bytes := 40, agg := true, zero := [vi 0, vi 0, .nil], sl := none, arr := none, ik := none, fs := some [(0, 29), (2, 82)], str := false, ptr := none, bl := false }
def ti91 : TI := { size := 1, bytes := 24, agg := false, zero := [.nil], sl := some 140, arr := none, ik := none, fs := none, str := false, ptr := none, bl := false }
def ti93 : TI := { size := 2, bytes := 32, agg := true, zero := [vi 0, .nil], sl := none, arr := none, ik := none, fs := some [(0, 3), (1, 91)], str := false, ptr := none, bl := false }
def ti94 : TI := { size := 1, bytes := 24, agg := false, zero := [.nil], sl := some 100, arr := none, ik := none, fs := none, str := false, ptr := none, bl := false }
def ti95 : TI := { size := 1, bytes := 24, agg := false, zero := [.nil], sl := some 142, arr := none, ik := none, fs := none, str := false, ptr := none, bl := false }
def ti96 : TI := { size := 1, bytes := 24, agg := false, zero := [.nil], sl := some 144, arr := none, ik := none, fs := none, str := false, ptr := none, bl := false }
def ti98 : TI := { size := 4, bytes := 64, agg := true, zero := [.nil, .nil, vi 0, vi 0], sl := none, arr := none, ik := none, fs := some [(0, 95), (1, 96), (2, 3), (3, 3)], str := false, ptr := none, bl := false }
def ti100 : TI := { size := 7, bytes := 88, agg := true, zero := [.b false, vi 0, vi 0, .nil, .nil, vi 0, vi 0], sl := none, arr := none, ik := none, fs := some [(0, 4), (1, 41), (3, 98)], str := false, ptr := none, bl := false }
def ti102 : TI := { size := 27, bytes := 392, agg := true, zero := [vi 0, vi 0, .nil, .nil, vi 0, vi 0, vi 0, .nil, .nil, .b false, vi 0, vi 0, .nil, .nil, vi 0, vi 0, .nil, .b false, .nil, .b false, vi 0, vi 0, .nil, .nil, vi 0, vi 0, .nil], sl := none, arr := none, ik := none, fs := some [(0, 3), (1, 93), (3, 94), (4, 3), (5, 3), (6, 3), (7, 75), (8, 91), (9, 100), (16, 75), (17, 4), (18, 31), (19, 100), (26, 94)], str := false, ptr := none, bl := false }
def ti105 : TI := { size := 13, bytes := 152, agg := true, zero := [vi 0, vi 0, vi 0, vi 0, vi 0, .b false, vi 0, vi 0, .nil, .nil, vi 0, vi 0, .nil], sl := none, arr := none, ik := none, fs := some [(0, 3), (1, 3), (2, 3), (3, 3), (4, 3), (5, 100), (12, 91)], str := false, ptr := none, bl := false }
def ti109 : TI := { size := 5, bytes := 40, agg := true, zero := [vi 0, vi 0, vi 0, vi 0, vi 0], sl := none, arr := none, ik := none, fs := some [(0, 3), (1, 41), (3, 3), (4, 3)], str := false, ptr := none, bl := false }
def ti112 : TI := { size := 5, bytes := 40, agg := true, zero := [vi 0, vi 0, vi 0, vi 0, vi 0], sl := none, arr := none, ik := none, fs := some [(0, 3), (1, 29), (3, 3), (4, 3)], str := false, ptr := none, bl := false }
def ti140 : TI := { size := 8, bytes := 96, agg := true, zero := [vi 0, .b false, vi 0, vi 0, .nil, .nil, vi 0, vi 0], sl := none, arr := none, ik := none, fs := some [(0, 3), (1, 100)], str := false, ptr := none, bl := false }
def ti142 : TI := { size := 2, bytes := 16, agg := true, zero := [vi 0, vi 0], sl := none, arr := none, ik := none, fs := some [(0, 3), (1, 3)], str := false, ptr := none, bl := false }
def ti144 : TI := { size := 2, bytes := 16, agg := true, zero := [vi 0, vi 0], sl := none, arr := none, ik := none, fs := some [(0, 3), (1, 3)], str := false, ptr := none, bl := false }
def ti147 : TI := { size := 8, bytes := 96, agg := true, zero := [vi 0, .b false, vi 0, vi 0, .nil, .nil, vi 0, vi 0], sl := none, arr := none, ik := none, fs := some [(0, 3), (1, 81)], str := false, ptr := none, bl := false }
def ti152 : TI := { size := 4, bytes := 32, agg := true, zero := [vi 0, vi 0, vi 0, vi 0], sl := none, arr := none, ik := none, fs := some [(0, 3), (1, 3), (2, 3), (3, 3)], str := false, ptr := none, bl := false }
def ti162 : TI := { size := 2, bytes := 16, agg := true, zero := [vi 0, vi 0], sl := none, arr := none, ik := none, fs := some [(0, 3), (1, 3)], str := false, ptr := none, bl := false }
def ti164 : TI := { size := 2, bytes := 16, agg := true, zero := [vi 0, vi 0], sl := none, arr := none, ik := none, fs := some [(0, 3), (1, 3)], str := false, ptr := none, bl := false }
def tiTab : List (Nat × TI) := [(3, ti3), (4, ti4), (22, ti22), (23, ti23), (24, ti24), (25, ti25), (27, ti27), (29, ti29), (31, ti31), (34, ti34), (35, ti35), (36, ti36), (37, ti37), (39, ti39), (41, ti41), (53, ti53), (60, ti60), (71, ti71), (73, ti73), (74, ti74), (75, ti75), (76, ti76), (77, ti77), (79, ti79), (81, ti81), (82, ti82), (84, ti84), (87, ti87), (90, ti90), (91, ti91), (93, ti93), (94, ti94), (95, ti95), (96, ti96), (98, ti98), (100, ti100), (102, ti102), (105, ti105), (109, ti109), (112, ti112), (140, ti140), (142, ti142), (144, ti144), (147, ti147), (152, ti152), (162, ti162), (164, ti164)]
def tiAt : List (Nat × TI) → Nat → Option TI
  | [], _ => none
  | (k, x) :: l, t => if Nat.beq k t then some x else tiAt l t
theorem tiAt_mem {l : List (Nat × TI)} {t : Nat} {x : TI} (h : tiAt l t = some x) : (t, x) ∈ l := by
  induction l with
  | nil => cases h
  | cons p l ih =>
    obtain ⟨k, y⟩ := p
    unfold tiAt at h
    split at h
    · rename_i hk
      have : k = t := Nat.eq_of_beq_eq_true hk
      injection h with h
      subst this; subst h
      simp
    · exact List.mem_cons.2 (.inr (ih h))
theorem tiOf3 : tiOf Try.prog 3 = some ti3 := by kernel_rfl
theorem tiOf4 : tiOf Try.prog 4 = some ti4 := by kernel_rfl
theorem tiOf22 : tiOf Try.prog 22 = some ti22 := by kernel_rfl
theorem tiOf23 : tiOf Try.prog 23 = some ti23 := by kernel_rfl
theorem tiOf24 : tiOf Try.prog 24 = some ti24 := by kernel_rfl
theorem tiOf25 : tiOf Try.prog 25 = some ti25 := by kernel_rfl
theorem tiOf27 : tiOf Try.prog 27 = some ti27 := by kernel_rfl
theorem tiOf29 : tiOf Try.prog 29 = some ti29 := by kernel_rfl
theorem tiOf31 : tiOf Try.prog 31 = some ti31 := by kernel_rfl
theorem tiOf34 : tiOf Try.prog 34 = some ti34 := by kernel_rfl
theorem tiOf35 : tiOf Try.prog 35 = some ti35 := by kernel_rfl
theorem tiOf36 : tiOf Try.prog 36 = some ti36 := by kernel_rfl
theorem tiOf37 : tiOf Try.prog 37 = some ti37 := by kernel_rfl
theorem tiOf39 : tiOf Try.prog 39 = some ti39 := by kernel_rfl
theorem tiOf41 : tiOf Try.prog 41 = some ti41 := by kernel_rfl
theorem tiOf53 : tiOf Try.prog 53 = some ti53 := by kernel_rfl
theorem tiOf60 : tiOf Try.prog 60 = some ti60 := by kernel_rfl
theorem tiOf71 : tiOf Try.prog 71 = some ti71 := by kernel_rfl
theorem tiOf73 : tiOf Try.prog 73 = some ti73 := by kernel_rfl
theorem tiOf74 : tiOf Try.prog 74 = some ti74 := by kernel_rfl
theorem tiOf75 : tiOf Try.prog 75 = some ti75 := by kernel_rfl
theorem tiOf76 : tiOf Try.prog 76 = some ti76 := by kernel_rfl
theorem tiOf77 : tiOf Try.prog 77 = some ti77 := by kernel_rfl
theorem tiOf79 : tiOf Try.prog 79 = some ti79 := by kernel_rfl
theorem tiOf81 : tiOf Try.prog 81 = some ti81 := by kernel_rfl
theorem tiOf82 : tiOf Try.prog 82 = some ti82 := by kernel_rfl
theorem tiOf84 : tiOf Try.prog 84 = some ti84 := by kernel_rfl
theorem tiOf87 : tiOf Try.prog 87 = some ti87 := by kernel_rfl
theorem tiOf90 : tiOf Try.prog 90 = some ti90 := by kernel_rfl
theorem tiOf91 : tiOf Try.prog 91 = some ti91 := by kernel_rfl
theorem tiOf93 : tiOf Try.prog 93 = some ti93 := by kernel_rfl
theorem tiOf94 : tiOf Try.prog 94 = some ti94 := by kernel_rfl
theorem tiOf95 : tiOf Try.prog 95 = some ti95 := by kernel_rfl
theorem tiOf96 : tiOf Try.prog 96 = some ti96 := by kernel_rfl
theorem tiOf98 : tiOf Try.prog 98 = some ti98 := by kernel_rfl
theorem tiOf100 : tiOf Try.prog 100 = some ti100 := by kernel_rfl
theorem tiOf102 : tiOf Try.prog 102 = some ti102 := by kernel_rfl
theorem tiOf105 : tiOf Try.prog 105 = some ti105 := by kernel_rfl
theorem tiOf109 : tiOf Try.prog 109 = some ti109 := by kernel_rfl
theorem tiOf112 : tiOf Try.prog 112 = some ti112 := by kernel_rfl
theorem tiOf140 : tiOf Try.prog 140 = some ti140 := by kernel_rfl
theorem tiOf142 : tiOf Try.prog 142 = some ti142 := by kernel_rfl
theorem tiOf144 : tiOf Try.prog 144 = some ti144 := by kernel_rfl
theorem tiOf147 : tiOf Try.prog 147 = some ti147 := by kernel_rfl
theorem tiOf152 : tiOf Try.prog 152 = some ti152 := by kernel_rfl
theorem tiOf162 : tiOf Try.prog 162 = some ti162 := by kernel_rfl
theorem tiOf164 : tiOf Try.prog 164 = some ti164 := by kernel_rfl
theorem tiTab_ok : ∀ p ∈ tiTab, tiOf Try.prog p.1 = some p.2 := by
  intro p hp
  simp only [tiTab, List.mem_cons, List.not_mem_nil, or_false] at hp
  rcases hp with rfl | rfl | rfl | rfl | rfl | rfl | rfl | rfl | rfl | rfl | rfl | rfl | rfl | rfl | rfl | rfl | rfl | rfl | rfl | rfl | rfl | rfl | rfl | rfl | rfl | rfl | rfl | rfl | rfl | rfl | rfl | rfl | rfl | rfl | rfl | rfl | rfl | rfl | rfl | rfl | rfl | rfl | rfl | rfl | rfl | rfl | rfl
  · exact tiOf3
  · exact tiOf4
  · exact tiOf22
  · exact tiOf23
  · exact tiOf24
  · exact tiOf25
  · exact tiOf27
  · exact tiOf29
  · exact tiOf31
  · exact tiOf34
  · exact tiOf35
  · exact tiOf36
  · exact tiOf37
  · exact tiOf39
  · exact tiOf41
  · exact tiOf53
  · exact tiOf60
  · exact tiOf71
  · exact tiOf73
  · exact tiOf74
  · exact tiOf75
  · exact tiOf76
  · exact tiOf77
  · exact tiOf79
  · exact tiOf81
  · exact tiOf82
  · exact tiOf84
  · exact tiOf87
  · exact tiOf90
  · exact tiOf91
  · exact tiOf93
  · exact tiOf94
  · exact tiOf95
  · exact tiOf96
  · exact tiOf98
  · exact tiOf100
  · exact tiOf102
  · exact tiOf105
  · exact tiOf109
  · exact tiOf112
  · exact tiOf140
  · exact tiOf142
  · exact tiOf144
  · exact tiOf147
  · exact tiOf152
  · exact tiOf162
  · exact tiOf164
def eqAt (t : Nat) : Option Nat := if Nat.beq t 41 then some 2 else  none
theorem eqAt_eq (t m : Nat) (h : eqAt t = some m) (xs ys : List Int) (w : World) (hx : xs.length = m) (hy : ys.length = m) : (Op.equal t (.agg (xs.map (Value.int .i64)).toArray) (.agg (ys.map (Value.int .i64)).toArray)).run Try.prog w = .ok (xs == ys) w := by
  unfold eqAt at h
  split at h
  · rename_i hk
    have hm : 2 = m := Option.some.inj h
    rw [Nat.eq_of_beq_eq_true hk]
    exact eqT41 xs ys w (hx.trans hm.symm) (hy.trans hm.symm)
  cases h
theorem eqAt_guard (t m : Nat) (h : eqAt t = some m) : Try.prog.eqGuardType Try.prog.depth t = false := by
  unfold eqAt at h
  split at h
  · rename_i hk
    have hm : 2 = m := Option.some.inj h
    rw [Nat.eq_of_beq_eq_true hk]
    exact Try.eqGuardType41
  cases h
theorem mixedP : Try.prog.follows .mixedOrders = true := by kernel_rfl
noncomputable def cx : Cx where
  P := Try.prog
  mixed := mixedP
  T := tiAt tiTab
  hT := fun t ti h => tiTab_ok (t, ti) (tiAt_mem h)
  E := eqAt
  hE := eqAt_eq
  hG := eqAt_guard
  M := fun _ => none
  hM := fun _ _ _ _ h => nomatch h

end Go.Proofs.Ythegkbaijmkhfaa
