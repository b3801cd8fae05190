/- Abstract values and states of the program, functions of the program and what their calls come to, and what follows from it: part 4 of the text that the law leans on; long names are written short. -/
import Derived.Test.YtcnjppbopdpnjaaGreatP3
import Derived.IntWalk
set_option linter.unusedVariables false
set_option linter.unusedSimpArgs false
set_option linter.unnecessarySimpa false
namespace Go.Proofs.YtcnjppbopdpnjaaGreat
open Go
noncomputable def b3o (n:a6):Option (a6×(List a8)×List e9) :=
  ((a3H n).bind fun G1=>(bif (!G1) then some ((a6.mk 0 (s6.mk 0 []) [] 0 0 0 [] [] (b5.mk false (g9.mk 0 0) (i6.mk [] [] 0 0)) [] false [] (b5.mk false (g9.mk 0 0) (i6.mk [] [] 0 0)) []),([]:List a8),([]:List e9)) else ((a4y n).bind fun i9=>((a2r i9.Id (a8.mk 8 0 0 0 (i9.Known.length:Int) (b5.mk false (g9.mk 0 0) (i6.mk [] [] 0 0)) [])).bind fun G9=>(((bif (i9.Phase==1) then ((a2r i9.Id (a8.mk 1 0 0 i9.Bal (i9.Known.length:Int) (b5.mk false (g9.mk 0 0) (i6.mk [] [] 0 0)) [])).bind fun a8X=>(n8 ((G9.length+a8X.length) * 152≤140737488355328) (some (b7.brk (G9++a8X))))) else (bif (i9.Phase==2) then ((a4e i9).bind fun B5=>(n8 ((G9.length+B5.2.length) * 152≤140737488355328) (some (b7.ret (B5.1,G9++B5.2,([]:List e9)))))) else (bif (i9.Phase==3) then ((a2r i9.Id (a8.mk 3 0 0 i9.Bal (i9.Known.length:Int) i9.Cur [])).bind fun b0a=>(n8 ((G9.length+b0a.length) * 152≤140737488355328) (some (b7.brk (G9++b0a))))) else (bif i9.Busy then ((a2r i9.Id (a8.mk 7 0 0 0 0 i9.Want [])).bind fun a8T=>(n8 ((G9.length+a8T.length) * 152≤140737488355328) (some (b7.brk (G9++a8T))))) else some (b7.brk G9))))):Option (b7 (a6×(List a8)×List e9) (List a8))).bind fun x=>x.go some fun j=>c5W i9 j)))))
set_option maxRecDepth 20000 in
theorem d26 {n:a6} (r:a6×(List a8)×List e9) (h:b3o n=some r):l8 cx.P 54 [.agg [vi n.Id,vi n.Acc.Promised,b9 157 8 i8 n.Acc.Votes,b9 34 7 i5 n.Known,vi n.Seq,vi n.Phase,vi n.Bal,b9 4 1 eB n.From,a0 8 i8 n.Best,.b n.Cur.None,vi n.Cur.Req.Who,vi n.Cur.Req.Seq,a0 2 i4 n.Cur.Run.Reads,a0 2 i0 n.Cur.Run.Puts,vi n.Cur.Run.Val,vi n.Cur.Run.Code,b9 4 1 eB n.Votes,.b n.Busy,a0 4 n6 n.Prog,.b n.Want.None,vi n.Want.Req.Who,vi n.Want.Req.Seq,a0 2 i4 n.Want.Run.Reads,a0 2 i0 n.Want.Run.Puts,vi n.Want.Run.Val,vi n.Want.Run.Code,b9 34 7 i5 n.Queue]] (a06.R r) (a06.O r) :=
  m8 a06.X a06.c a06.h (fun z=>m6<|W9 F3 a8C 1 h fun G1 h=>om (B9 (F3.R G1)∧H1 (F3.O G1)) ⟨rfl,K1 1⟩<|j5 n.Acc.Votes n.Known n.From n.Votes<|j3 n.Queue<|a9 2 h (fun h=>rg<|tl (1,{ a:=.ck B4 })<|tl (2,{ a:=.ck [] })<|om (0=([]:List a8).length) (by simp)<|om (0=([]:List e9).length) (by simp)<|fe z h) (fun h=>rg<|d6 a2R b0s 1 h fun i9 h=>j5 n.Acc.Votes n.Known n.From n.Votes<|j3 n.Queue<|rg<|d6 F5 a4U 6 h fun G9 h=>rg<|A9 (I:=fun j:List a8=>b8 cx a06.X (a06.R r) (a06.O r) c6q (c8C n i9 j)) h (fun j h=>d4G n i9 r j h) (fun x1 h hc1=>rg<|a9 1 h (fun h=>rg<|d6 F5 a4U 9 h fun a8X h=>o8 h fun e1 h=>apL 10 34 103 13 152 m9 G9 a8X e1<|j3 a8X<|(m7 h hc1 fun hI=>sg [] [2,5,6] [(2,0),(10,0),(9,0),(9,1),(9,2),(9,3),(9,4),(34,0)] hI)) (fun h=>rg<|a9 1 h (fun h=>rg<|d6 a2W a9D 1 h fun B5 h=>j5 i9.Acc.Votes i9.Known i9.From i9.Votes<|j3 i9.Queue<|rg<|o8 h fun e2 h=>apL 3 37 103 13 152 m9 G9 B5.2 e2<|tl (4,{ a:=.ck [] })<|(A0 h hc1 fun h=>j5 B5.1.Acc.Votes B5.1.Known B5.1.From B5.1.Votes<|G4 B5.1.Queue (G9++B5.2)<|om (0=([]:List e9).length) (by simp)<|fe z h)) (fun h=>rg<|a9 1 h (fun h=>rg<|d6 F5 a4U 11 h fun b0a h=>o8 h fun e3 h=>apL 12 40 103 13 152 m9 G9 b0a e3<|j3 b0a<|(m7 h hc1 fun hI=>sg [] [2,5,6] [(2,0),(10,0),(9,0),(9,1),(9,2),(9,3),(9,4),(40,0)] hI)) (fun h=>rg<|a9 1 h (fun h=>rg<|d6 F5 a4U 6 h fun a8T h=>o8 h fun e4 h=>apL 7 37 103 13 152 m9 G9 a8T e4<|j3 a8T<|(m7 h hc1 fun hI=>sg [] [2,5,6] [(2,0),(10,0),(9,0),(9,1),(9,2),(9,3),(9,4),(37,0)] hI)) (fun h=>(m7 h hc1 fun hI=>sg [] [2,5,6] [(2,0),(10,0),(9,0),(9,1),(9,2),(9,3),(9,4),(18,0)] hI))))))))
noncomputable def a8g:FS (a6):=⟨55,Tryz.f55,[.val K3 [none,none,some 157,some 34,none,none,none,some 4,none,none,none,none,none,none,none,none,some 4,none,none,none,none,none,none,none,none,none,some 34]],[none],[.val [none,none,some 8,some 7,none,none,none,some 1,some 8,none,none,none,some 2,some 2,none,none,some 1,none,some 4,none,none,none,some 2,some 2,none,none,some 7] [none,none,some 157,some 34,none,none,none,some 4,none,none,none,none,none,none,none,none,some 4,none,none,none,none,none,none,none,none,none,some 34]],fun r=>.agg [vi r.Id,vi r.Acc.Promised,b9 157 8 i8 r.Acc.Votes,b9 34 7 i5 r.Known,vi r.Seq,vi r.Phase,vi r.Bal,b9 4 1 eB r.From,a0 8 i8 r.Best,.b r.Cur.None,vi r.Cur.Req.Who,vi r.Cur.Req.Seq,a0 2 i4 r.Cur.Run.Reads,a0 2 i0 r.Cur.Run.Puts,vi r.Cur.Run.Val,vi r.Cur.Run.Code,b9 4 1 eB r.Votes,.b r.Busy,a0 4 n6 r.Prog,.b r.Want.None,vi r.Want.Req.Who,vi r.Want.Req.Seq,a0 2 i4 r.Want.Run.Reads,a0 2 i0 r.Want.Run.Puts,vi r.Want.Run.Val,vi r.Want.Run.Code,b9 34 7 i5 r.Queue],fun _=>[none],Tryz.func55⟩
noncomputable def b25 (n:a6):Option a6 :=
  ((a3H n).bind fun G1=>(bif (!G1) then some (a6.mk 0 (s6.mk 0 []) [] 0 0 0 [] [] (b5.mk false (g9.mk 0 0) (i6.mk [] [] 0 0)) [] false [] (b5.mk false (g9.mk 0 0) (i6.mk [] [] 0 0)) []) else ((a4y n).bind fun i9=>some (a6.mk i9.Id i9.Acc i9.Known i9.Seq 0 0 [] [] (b5.mk false (g9.mk 0 0) (i6.mk [] [] 0 0)) [] false [] (b5.mk false (g9.mk 0 0) (i6.mk [] [] 0 0)) []))))
theorem d79 {n:a6} (r:a6) (h:b25 n=some r):l8 cx.P 55 [.agg [vi n.Id,vi n.Acc.Promised,b9 157 8 i8 n.Acc.Votes,b9 34 7 i5 n.Known,vi n.Seq,vi n.Phase,vi n.Bal,b9 4 1 eB n.From,a0 8 i8 n.Best,.b n.Cur.None,vi n.Cur.Req.Who,vi n.Cur.Req.Seq,a0 2 i4 n.Cur.Run.Reads,a0 2 i0 n.Cur.Run.Puts,vi n.Cur.Run.Val,vi n.Cur.Run.Code,b9 4 1 eB n.Votes,.b n.Busy,a0 4 n6 n.Prog,.b n.Want.None,vi n.Want.Req.Who,vi n.Want.Req.Seq,a0 2 i4 n.Want.Run.Reads,a0 2 i0 n.Want.Run.Puts,vi n.Want.Run.Val,vi n.Want.Run.Code,b9 34 7 i5 n.Queue]] (a8g.R r) (a8g.O r) :=
  m8 a8g.X a8g.c a8g.h (fun z=>m6<|W9 F3 a8C 1 h fun G1 h=>om (B9 (F3.R G1)∧H1 (F3.O G1)) ⟨rfl,K1 1⟩<|j5 n.Acc.Votes n.Known n.From n.Votes<|j3 n.Queue<|a9 2 h (fun h=>rg<|fe z h) (fun h=>rg<|d6 a2R b0s 1 h fun i9 h=>j5 n.Acc.Votes n.Known n.From n.Votes<|j3 n.Queue<|rg<|G4 i9.Acc.Votes i9.Known<|fe z h))
noncomputable def a1z:FS (f0):=⟨26,Tryz.f26,[.val a0m [some 1000074,some 103,some 105,some 109]],[none,none],[.val [some 27,some 13,some 3,some 5] [some 1000074,some 103,some 105,some 109],.val [none,none,some 4] []],fun r=>.agg [K6 74 27 n4 r.Nodes,b9 103 13 m9 r.Net,b9 105 3 t6 r.Asked,b9 109 5 p6 r.Told],fun _=>[none,none],Tryz.func26⟩
noncomputable def d8U:List Item:=a1z.k 8 [false,false,true]
noncomputable def d2S (w:f0) (e_:g8) (c8:a6):St:=⟨(bs 2 (.ptr 1 0 0::(.ptr 2 0 0::(.ptr 3 0 0::(bs 76 []))))),[some [x8 74 27 n4 (w.Nodes.set e_.A.toNat c8),d8 103 13 m9 w.Net,d8 105 3 t6 w.Asked,d8 109 5 p6 w.Told],some [.var 46 [.own 0 0 27 0 (w.Nodes.set e_.A.toNat c8).length,.own 0 1 13 0 w.Net.length,.own 0 2 3 0 w.Asked.length,.own 0 3 5 0 w.Told.length]],some [.var 80 [vi e_.Kind,vi e_.A,a0 4 n6 e_.Prog]],some [.var 46 [.nil,.nil,.nil,.nil]]]⟩
noncomputable def b73 (w:f0) (e_:g8) (c8:a6):Option f0 :=
  ((b1f (f0.mk (w.Nodes.set e_.A.toNat c8) w.Net w.Asked w.Told) e_.A e_.Prog).bind fun a7c=>some a7c)
theorem d7w (w:f0) (e_:g8) (c8:a6) (r:f0) (h:b73 w e_ c8=some r):b8 cx a1z.X (a1z.R r) (a1z.O r) d8U (d2S w e_ c8) :=
  P0<|rg<|d6 a8D d6V 5 h fun a7c h=>j5 (w.Nodes.set e_.A.toNat c8) w.Net w.Asked w.Told<|j5 a7c.Nodes a7c.Net a7c.Asked a7c.Told<|fe a1z.h h
noncomputable def K4 (c8:a6):List V:=[vi c8.Id,vi c8.Acc.Promised,.own 30 0 8 0 c8.Acc.Votes.length,.own 30 1 7 0 c8.Known.length,vi c8.Seq,vi c8.Phase,vi c8.Bal,.own 30 2 1 0 c8.From.length,a0 8 i8 c8.Best,.b c8.Cur.None,vi c8.Cur.Req.Who,vi c8.Cur.Req.Seq,a0 2 i4 c8.Cur.Run.Reads,a0 2 i0 c8.Cur.Run.Puts,vi c8.Cur.Run.Val,vi c8.Cur.Run.Code,.own 30 3 1 0 c8.Votes.length,.b c8.Busy,a0 4 n6 c8.Prog,.b c8.Want.None,vi c8.Want.Req.Who,vi c8.Want.Req.Seq,a0 2 i4 c8.Want.Run.Reads,a0 2 i0 c8.Want.Run.Puts,vi c8.Want.Run.Val,vi c8.Want.Run.Code,.own 30 4 7 0 c8.Queue.length]
noncomputable def a5U (c8:a6):List V:=[vi c8.Id,vi c8.Acc.Promised,b9 157 8 i8 c8.Acc.Votes,.own 30 1 7 0 c8.Known.length,vi c8.Seq,vi c8.Phase,vi c8.Bal,.own 30 2 1 0 c8.From.length,a0 8 i8 c8.Best,.b c8.Cur.None,vi c8.Cur.Req.Who,vi c8.Cur.Req.Seq,a0 2 i4 c8.Cur.Run.Reads,a0 2 i0 c8.Cur.Run.Puts,vi c8.Cur.Run.Val,vi c8.Cur.Run.Code,.own 30 3 1 0 c8.Votes.length,.b c8.Busy,a0 4 n6 c8.Prog,.b c8.Want.None,vi c8.Want.Req.Who,vi c8.Want.Req.Seq,a0 2 i4 c8.Want.Run.Reads,a0 2 i0 c8.Want.Run.Puts,vi c8.Want.Run.Val,vi c8.Want.Run.Code,.own 30 4 7 0 c8.Queue.length]
noncomputable def a7d (c8:a6):List V:=[vi c8.Id,vi c8.Acc.Promised,b9 157 8 i8 c8.Acc.Votes,b9 34 7 i5 c8.Known,vi c8.Seq,vi c8.Phase,vi c8.Bal,.own 30 2 1 0 c8.From.length,a0 8 i8 c8.Best,.b c8.Cur.None,vi c8.Cur.Req.Who,vi c8.Cur.Req.Seq,a0 2 i4 c8.Cur.Run.Reads,a0 2 i0 c8.Cur.Run.Puts,vi c8.Cur.Run.Val,vi c8.Cur.Run.Code,.own 30 3 1 0 c8.Votes.length,.b c8.Busy,a0 4 n6 c8.Prog,.b c8.Want.None,vi c8.Want.Req.Who,vi c8.Want.Req.Seq,a0 2 i4 c8.Want.Run.Reads,a0 2 i0 c8.Want.Run.Puts,vi c8.Want.Run.Val,vi c8.Want.Run.Code,.own 30 4 7 0 c8.Queue.length]
noncomputable def b0x (c8:a6):List V:=[vi c8.Id,vi c8.Acc.Promised,b9 157 8 i8 c8.Acc.Votes,b9 34 7 i5 c8.Known,vi c8.Seq,vi c8.Phase,vi c8.Bal,b9 4 1 eB c8.From,a0 8 i8 c8.Best,.b c8.Cur.None,vi c8.Cur.Req.Who,vi c8.Cur.Req.Seq,a0 2 i4 c8.Cur.Run.Reads,a0 2 i0 c8.Cur.Run.Puts,vi c8.Cur.Run.Val,vi c8.Cur.Run.Code,.own 30 3 1 0 c8.Votes.length,.b c8.Busy,a0 4 n6 c8.Prog,.b c8.Want.None,vi c8.Want.Req.Who,vi c8.Want.Req.Seq,a0 2 i4 c8.Want.Run.Reads,a0 2 i0 c8.Want.Run.Puts,vi c8.Want.Run.Val,vi c8.Want.Run.Code,.own 30 4 7 0 c8.Queue.length]
noncomputable def b3I (c8:a6):List V:=[vi c8.Id,vi c8.Acc.Promised,b9 157 8 i8 c8.Acc.Votes,b9 34 7 i5 c8.Known,vi c8.Seq,vi c8.Phase,vi c8.Bal,b9 4 1 eB c8.From,a0 8 i8 c8.Best,.b c8.Cur.None,vi c8.Cur.Req.Who,vi c8.Cur.Req.Seq,a0 2 i4 c8.Cur.Run.Reads,a0 2 i0 c8.Cur.Run.Puts,vi c8.Cur.Run.Val,vi c8.Cur.Run.Code,b9 4 1 eB c8.Votes,.b c8.Busy,a0 4 n6 c8.Prog,.b c8.Want.None,vi c8.Want.Req.Who,vi c8.Want.Req.Seq,a0 2 i4 c8.Want.Run.Reads,a0 2 i0 c8.Want.Run.Puts,vi c8.Want.Run.Val,vi c8.Want.Run.Code,.own 30 4 7 0 c8.Queue.length]
noncomputable def b8z (c8:a6):List V:=[vi c8.Id,vi c8.Acc.Promised,b9 157 8 i8 c8.Acc.Votes,b9 34 7 i5 c8.Known,vi c8.Seq,vi c8.Phase,vi c8.Bal,b9 4 1 eB c8.From,a0 8 i8 c8.Best,.b c8.Cur.None,vi c8.Cur.Req.Who,vi c8.Cur.Req.Seq,a0 2 i4 c8.Cur.Run.Reads,a0 2 i0 c8.Cur.Run.Puts,vi c8.Cur.Run.Val,vi c8.Cur.Run.Code,b9 4 1 eB c8.Votes,.b c8.Busy,a0 4 n6 c8.Prog,.b c8.Want.None,vi c8.Want.Req.Who,vi c8.Want.Req.Seq,a0 2 i4 c8.Want.Run.Reads,a0 2 i0 c8.Want.Run.Puts,vi c8.Want.Run.Val,vi c8.Want.Run.Code,b9 34 7 i5 c8.Queue]
noncomputable def c4E (D8:a6×List a8):List V:=[vi D8.1.Id,vi D8.1.Acc.Promised,b9 157 8 i8 D8.1.Acc.Votes,b9 34 7 i5 D8.1.Known,vi D8.1.Seq,vi D8.1.Phase,vi D8.1.Bal,b9 4 1 eB D8.1.From,a0 8 i8 D8.1.Best,.b D8.1.Cur.None,vi D8.1.Cur.Req.Who,vi D8.1.Cur.Req.Seq,a0 2 i4 D8.1.Cur.Run.Reads,a0 2 i0 D8.1.Cur.Run.Puts,vi D8.1.Cur.Run.Val,vi D8.1.Cur.Run.Code,b9 4 1 eB D8.1.Votes,.b D8.1.Busy,a0 4 n6 D8.1.Prog,.b D8.1.Want.None,vi D8.1.Want.Req.Who,vi D8.1.Want.Req.Seq,a0 2 i4 D8.1.Want.Run.Reads,a0 2 i0 D8.1.Want.Run.Puts,vi D8.1.Want.Run.Val,vi D8.1.Want.Run.Code,b9 34 7 i5 D8.1.Queue]
noncomputable def c3w (D2:a6×(List a8)×List e9):List V:=[vi D2.1.Id,vi D2.1.Acc.Promised,b9 157 8 i8 D2.1.Acc.Votes,b9 34 7 i5 D2.1.Known,vi D2.1.Seq,vi D2.1.Phase,vi D2.1.Bal,b9 4 1 eB D2.1.From,a0 8 i8 D2.1.Best,.b D2.1.Cur.None,vi D2.1.Cur.Req.Who,vi D2.1.Cur.Req.Seq,a0 2 i4 D2.1.Cur.Run.Reads,a0 2 i0 D2.1.Cur.Run.Puts,vi D2.1.Cur.Run.Val,vi D2.1.Cur.Run.Code,b9 4 1 eB D2.1.Votes,.b D2.1.Busy,a0 4 n6 D2.1.Prog,.b D2.1.Want.None,vi D2.1.Want.Req.Who,vi D2.1.Want.Req.Seq,a0 2 i4 D2.1.Want.Run.Reads,a0 2 i0 D2.1.Want.Run.Puts,vi D2.1.Want.Run.Val,vi D2.1.Want.Run.Code,b9 34 7 i5 D2.1.Queue]
noncomputable def c4p (E3:a6):List V:=[vi E3.Id,vi E3.Acc.Promised,b9 157 8 i8 E3.Acc.Votes,b9 34 7 i5 E3.Known,vi E3.Seq,vi E3.Phase,vi E3.Bal,b9 4 1 eB E3.From,a0 8 i8 E3.Best,.b E3.Cur.None,vi E3.Cur.Req.Who,vi E3.Cur.Req.Seq,a0 2 i4 E3.Cur.Run.Reads,a0 2 i0 E3.Cur.Run.Puts,vi E3.Cur.Run.Val,vi E3.Cur.Run.Code,b9 4 1 eB E3.Votes,.b E3.Busy,a0 4 n6 E3.Prog,.b E3.Want.None,vi E3.Want.Req.Who,vi E3.Want.Req.Seq,a0 2 i4 E3.Want.Run.Reads,a0 2 i0 E3.Want.Run.Puts,vi E3.Want.Run.Val,vi E3.Want.Run.Code,b9 34 7 i5 E3.Queue]
noncomputable def a6Q (w:f0) (e_:g8):Option f0 :=
  (bif (e_.Kind==2) then ((a8j w e_).bind fun a6G=>some a6G) else (bif (e_.Kind==3) then ((a8j w e_).bind fun a74=>some a74) else (bif (e_.Kind==4) then ((a8j w e_).bind fun a8y=>some a8y) else (bif decide (e_.A<0) then some w else (bif decide (e_.A≥3) then some w else ((idx w.Nodes e_.A).bind fun c8=>(bif (e_.Kind==1) then b73 w e_ c8 else (bif (e_.Kind==5) then ((b08 c8).bind fun D8=>((a2o (f0.mk (w.Nodes.set e_.A.toNat D8.1) w.Net w.Asked w.Told) D8.2).bind fun U2=>((a2T U2 ([]:List e9)).bind fun T9=>some T9))) else (bif (e_.Kind==6) then ((b3o c8).bind fun D2=>((a2o (f0.mk (w.Nodes.set e_.A.toNat D2.1) w.Net w.Asked w.Told) D2.2.1).bind fun U3=>((a2T U3 D2.2.2).bind fun a1k=>some a1k))) else (bif (e_.Kind==7) then ((b25 c8).bind fun E3=>((a2o (f0.mk (w.Nodes.set e_.A.toNat E3) w.Net w.Asked w.Told) ([]:List a8)).bind fun a6M=>((a2T a6M ([]:List e9)).bind fun a7o=>some a7o))) else ((a2o (f0.mk (w.Nodes.set e_.A.toNat c8) w.Net w.Asked w.Told) ([]:List a8)).bind fun a6z=>((a2T a6z ([]:List e9)).bind fun a76=>some a76))))))))))))
set_option maxRecDepth 20000 in
theorem b9R {w:f0} {e_:g8} (r:f0) (h:a6Q w e_=some r):l8 cx.P 26 [.agg [K6 74 27 n4 w.Nodes,b9 103 13 m9 w.Net,b9 105 3 t6 w.Asked,b9 109 5 p6 w.Told],.agg (H9 e_)] (a1z.R r) (a1z.O r) :=
  m8 a1z.X a1z.c a1z.h (fun z=>m6<|a9 3 h (fun h=>rg<|d6 a39 b76 2 h fun a6G h=>j5 w.Nodes w.Net w.Asked w.Told<|j5 a6G.Nodes a6G.Net a6G.Asked a6G.Told<|fe z h) (fun h=>a9 8 h (fun h=>rg<|d6 a39 b76 2 h fun a74 h=>j5 w.Nodes w.Net w.Asked w.Told<|j5 a74.Nodes a74.Net a74.Asked a74.Told<|fe z h) (fun h=>a9 12 h (fun h=>rg<|d6 a39 b76 2 h fun a8y h=>j5 w.Nodes w.Net w.Asked w.Told<|j5 a8y.Nodes a8y.Net a8y.Asked a8y.Told<|fe z h) (fun h=>rg<|a9 3 h (fun h=>rg<|j5 w.Nodes w.Net w.Asked w.Told<|fe z h) (fun h=>a9 7 h (fun h=>rg<|j5 w.Nodes w.Net w.Asked w.Told<|fe z h) (fun h=>rg<|D9 h fun c8 G7 h=>B8 G7<|ob (b0v (enc:=n4) G7)<|tl (5,{ a:=.drow (n4 c8) })<|rg<|tl (0,{ a:=.ck B4 })<|rg<|tl (0,{ a:=.ck [] })<|m6<|a9 1 h (fun h=>om (((w.Nodes.map n4).set (0+e_.A.toNat) (K4 c8))[0+e_.A.toNat]?=some (K4 c8)) (a1e (a1w G7))<|j3 c8.Acc.Votes<|om ((((w.Nodes.map n4).set (0+e_.A.toNat) (K4 c8)).set (0+e_.A.toNat) (a5U c8))[0+e_.A.toNat]?=some (a5U c8)) (a1e (a21 (a1w G7)))<|j3 c8.Known<|om (((((w.Nodes.map n4).set (0+e_.A.toNat) (K4 c8)).set (0+e_.A.toNat) (a5U c8)).set (0+e_.A.toNat) (a7d c8))[0+e_.A.toNat]?=some (a7d c8)) (a1e (a21 (a21 (a1w G7))))<|j3 c8.From<|om ((((((w.Nodes.map n4).set (0+e_.A.toNat) (K4 c8)).set (0+e_.A.toNat) (a5U c8)).set (0+e_.A.toNat) (a7d c8)).set (0+e_.A.toNat) (b0x c8))[0+e_.A.toNat]?=some (b0x c8)) (a1e (a21 (a21 (a21 (a1w G7)))))<|j3 c8.Votes<|om (((((((w.Nodes.map n4).set (0+e_.A.toNat) (K4 c8)).set (0+e_.A.toNat) (a5U c8)).set (0+e_.A.toNat) (a7d c8)).set (0+e_.A.toNat) (b0x c8)).set (0+e_.A.toNat) (b3I c8))[0+e_.A.toNat]?=some (b3I c8)) (a1e (a21 (a21 (a21 (a21 (a1w G7))))))<|j3 c8.Queue<|om (((((((w.Nodes.map n4).set (0+e_.A.toNat) (K4 c8)).set (0+e_.A.toNat) (a5U c8)).set (0+e_.A.toNat) (a7d c8)).set (0+e_.A.toNat) (b0x c8)).set (0+e_.A.toNat) (b3I c8)).set (0+e_.A.toNat) (b8z c8)=(w.Nodes.set e_.A.toNat c8).map n4) (U8 (U8 (U8 (U8 (U8 (a0i rfl))))))<|om (F4 ((w.Nodes.set e_.A.toNat c8).map n4)) (F4.map a32 _)<|om (w.Nodes.length=(w.Nodes.set e_.A.toNat c8).length) (by simp)<|om ((.own 0 0 27 0 w.Nodes.length:V) = .own 0 0 27 0 (w.Nodes.set e_.A.toNat c8).length) (by simp)<|sg [.plug 0 0 (0+e_.A.toNat) 2 (K4 c8) 157,.plug 0 0 (0+e_.A.toNat) 3 (a5U c8) 34,.plug 0 0 (0+e_.A.toNat) 7 (a7d c8) 4,.plug 0 0 (0+e_.A.toNat) 16 (b0x c8) 4,.plug 0 0 (0+e_.A.toNat) 26 (b3I c8) 34,.shut 0 0 (w.Nodes.set e_.A.toNat c8).length ((w.Nodes.set e_.A.toNat c8).map n4),.is (.cell 1 0 0) (.own 0 0 27 0 (w.Nodes.set e_.A.toNat c8).length)] [2,3,4] [(1,0),(2,0),(3,0)] (d7w w e_ c8 r h)) (fun h=>rg<|a9 1 h (fun h=>rg<|d6 a78 c9k 1 h fun D8 h=>j5 c8.Acc.Votes c8.Known c8.From c8.Votes<|j3 c8.Queue<|rg<|B8 G7<|om (l7.deep false 74 27 w.Nodes.length (((w.Nodes.map n4).set (0+e_.A.toNat) (K4 c8)).set (0+e_.A.toNat) (c4E D8))=x8 74 27 n4 (w.Nodes.set e_.A.toNat D8.1)) (a6l (U8 (a0i rfl)) (by simp))<|om (F4 (((w.Nodes.map n4).set (0+e_.A.toNat) (K4 c8)).set (0+e_.A.toNat) (c4E D8))) (a55 (U8 (a0i rfl)) a32)<|om (((w.Nodes.map n4).set (0+e_.A.toNat) (K4 c8))[0+e_.A.toNat]?=some (K4 c8)) (a1e (a1w G7))<|j5 D8.1.Acc.Votes D8.1.Known D8.1.From D8.1.Votes<|j3 D8.1.Queue<|tl (6,{ a:=.dsc (K4 c8) [none,none,some 8,some 7,none,none,none,some 1,some 8,none,none,none,some 2,some 2,none,none,some 1,none,some 4,none,none,none,some 2,some 2,none,none,some 7] [none,none,some 157,some 34,none,none,none,some 4,none,none,none,none,none,none,none,none,some 4,none,none,none,none,none,none,none,none,none,some 34],e:=some (x8 74 27 n4 (w.Nodes.set e_.A.toNat D8.1)) })<|rg<|d6 I9 a4C 2 h fun U2 h=>om (w.Nodes.length=(w.Nodes.set e_.A.toNat D8.1).length) (by simp)<|ol3 w.Net w.Asked w.Told<|d6 K2 a5Q 4 h fun T9 h=>j5 U2.Nodes U2.Net U2.Asked U2.Told<|om (0=([]:List e9).length) (by simp)<|j5 T9.Nodes T9.Net T9.Asked T9.Told<|fe z h) (fun h=>rg<|a9 1 h (fun h=>rg<|d6 a06 d26 1 h fun D2 h=>j5 c8.Acc.Votes c8.Known c8.From c8.Votes<|j3 c8.Queue<|rg<|B8 G7<|om (l7.deep false 74 27 w.Nodes.length (((w.Nodes.map n4).set (0+e_.A.toNat) (K4 c8)).set (0+e_.A.toNat) (c3w D2))=x8 74 27 n4 (w.Nodes.set e_.A.toNat D2.1)) (a6l (U8 (a0i rfl)) (by simp))<|om (F4 (((w.Nodes.map n4).set (0+e_.A.toNat) (K4 c8)).set (0+e_.A.toNat) (c3w D2))) (a55 (U8 (a0i rfl)) a32)<|om (((w.Nodes.map n4).set (0+e_.A.toNat) (K4 c8))[0+e_.A.toNat]?=some (K4 c8)) (a1e (a1w G7))<|j5 D2.1.Acc.Votes D2.1.Known D2.1.From D2.1.Votes<|j3 D2.1.Queue<|tl (6,{ a:=.dsc (K4 c8) [none,none,some 8,some 7,none,none,none,some 1,some 8,none,none,none,some 2,some 2,none,none,some 1,none,some 4,none,none,none,some 2,some 2,none,none,some 7] [none,none,some 157,some 34,none,none,none,some 4,none,none,none,none,none,none,none,none,some 4,none,none,none,none,none,none,none,none,none,some 34],e:=some (x8 74 27 n4 (w.Nodes.set e_.A.toNat D2.1)) })<|rg<|d6 I9 a4C 2 h fun U3 h=>om (w.Nodes.length=(w.Nodes.set e_.A.toNat D2.1).length) (by simp)<|ol3 w.Net w.Asked w.Told<|d6 K2 a5Q 4 h fun a1k h=>j5 U3.Nodes U3.Net U3.Asked U3.Told<|j5 a1k.Nodes a1k.Net a1k.Asked a1k.Told<|fe z h) (fun h=>rg<|a9 1 h (fun h=>rg<|d6 a8g d79 1 h fun E3 h=>j5 c8.Acc.Votes c8.Known c8.From c8.Votes<|j3 c8.Queue<|rg<|B8 G7<|om (l7.deep false 74 27 w.Nodes.length (((w.Nodes.map n4).set (0+e_.A.toNat) (K4 c8)).set (0+e_.A.toNat) (c4p E3))=x8 74 27 n4 (w.Nodes.set e_.A.toNat E3)) (a6l (U8 (a0i rfl)) (by simp))<|om (F4 (((w.Nodes.map n4).set (0+e_.A.toNat) (K4 c8)).set (0+e_.A.toNat) (c4p E3))) (a55 (U8 (a0i rfl)) a32)<|om (((w.Nodes.map n4).set (0+e_.A.toNat) (K4 c8))[0+e_.A.toNat]?=some (K4 c8)) (a1e (a1w G7))<|j5 E3.Acc.Votes E3.Known E3.From E3.Votes<|j3 E3.Queue<|tl (6,{ a:=.dsc (K4 c8) [none,none,some 8,some 7,none,none,none,some 1,some 8,none,none,none,some 2,some 2,none,none,some 1,none,some 4,none,none,none,some 2,some 2,none,none,some 7] [none,none,some 157,some 34,none,none,none,some 4,none,none,none,none,none,none,none,none,some 4,none,none,none,none,none,none,none,none,none,some 34],e:=some (x8 74 27 n4 (w.Nodes.set e_.A.toNat E3)) })<|rg<|d6 I9 a4C 2 h fun a6M h=>om (w.Nodes.length=(w.Nodes.set e_.A.toNat E3).length) (by simp)<|ol3 w.Net w.Asked w.Told<|om (0=([]:List a8).length) (by simp)<|d6 K2 a5Q 4 h fun a7o h=>j5 a6M.Nodes a6M.Net a6M.Asked a6M.Told<|om (0=([]:List e9).length) (by simp)<|j5 a7o.Nodes a7o.Net a7o.Asked a7o.Told<|fe z h) (fun h=>rg<|B8 G7<|om (l7.deep false 74 27 w.Nodes.length (((w.Nodes.map n4).set (0+e_.A.toNat) (K4 c8)).set (0+e_.A.toNat) (b8z c8))=x8 74 27 n4 (w.Nodes.set e_.A.toNat c8)) (a6l (U8 (a0i rfl)) (by simp))<|om (F4 (((w.Nodes.map n4).set (0+e_.A.toNat) (K4 c8)).set (0+e_.A.toNat) (b8z c8))) (a55 (U8 (a0i rfl)) a32)<|om (((w.Nodes.map n4).set (0+e_.A.toNat) (K4 c8))[0+e_.A.toNat]?=some (K4 c8)) (a1e (a1w G7))<|j5 c8.Acc.Votes c8.Known c8.From c8.Votes<|j3 c8.Queue<|tl (6,{ a:=.dsc (K4 c8) [none,none,some 8,some 7,none,none,none,some 1,some 8,none,none,none,some 2,some 2,none,none,some 1,none,some 4,none,none,none,some 2,some 2,none,none,some 7] [none,none,some 157,some 34,none,none,none,some 4,none,none,none,none,none,none,none,none,some 4,none,none,none,none,none,none,none,none,none,some 34],e:=some (x8 74 27 n4 (w.Nodes.set e_.A.toNat c8)) })<|rg<|d6 I9 a4C 2 h fun a6z h=>om (w.Nodes.length=(w.Nodes.set e_.A.toNat c8).length) (by simp)<|ol3 w.Net w.Asked w.Told<|om (0=([]:List a8).length) (by simp)<|d6 K2 a5Q 4 h fun a76 h=>j5 a6z.Nodes a6z.Net a6z.Asked a6z.Told<|om (0=([]:List e9).length) (by simp)<|j5 a76.Nodes a76.Net a76.Asked a76.Told<|fe z h))))))))))
noncomputable def Z2:FS (f0×List g8):=⟨28,Tryz.f28,[.val a0m [some 1000074,some 103,some 105,some 109],.val [some 3] [some 80]],[none,none,none],[.val [some 27,some 13,some 3,some 5] [some 1000074,some 103,some 105,some 109],.val [some 3] [some 80],.val [none,none,some 4] []],fun r=>.tup [.agg [K6 74 27 n4 r.1.Nodes,b9 103 13 m9 r.1.Net,b9 105 3 t6 r.1.Asked,b9 109 5 p6 r.1.Told],b9 80 3 H9 r.2],fun _=>[none,none,none],Tryz.func28⟩
noncomputable def a04 (w:f0) (out:List g8) (e_:g8):Option (f0×List g8) :=
  ((a6Q w e_).bind fun W7=>(n8 ((out.length+1) * 40≤140737488355328) (some (W7,out++[e_]))))
theorem a18 {w:f0} {out:List g8} {e_:g8} (r:f0×List g8) (h:a04 w out e_=some r):l8 cx.P 28 [.agg [K6 74 27 n4 w.Nodes,b9 103 13 m9 w.Net,b9 105 3 t6 w.Asked,b9 109 5 p6 w.Told],b9 80 3 H9 out,.agg (H9 e_)] (Z2.R r) (Z2.O r) :=
  m8 Z2.X Z2.c Z2.h (fun z=>m6<|d6 a1z b9R 2 h fun W7 h=>j5 w.Nodes w.Net w.Asked w.Told<|tl (5,{ a:=.ck [none,none,some 4] })<|o8 h fun e1 h=>J8 6 11 80 3 40 H9 out e_ e1<|om (1=[e_].length) (by rfl)<|j5 W7.Nodes W7.Net W7.Asked W7.Told<|j3 (out++[e_])<|fe z h)
noncomputable def a8m:FS (Int):=⟨94,Tryz.f94,[.val [] []],[none,none],[.val [] [],.val [] []],fun r=>vi r,fun _=>[none,none],Tryz.func94⟩
noncomputable def b4B (a:Int) (b:Int):Option Int :=
  (bif decide (a>b) then some a else some b)
theorem d1K {a:Int} {b:Int} (r:Int) (h:b4B a b=some r):l8 cx.P 94 [vi a,vi b] (a8m.R r) (a8m.O r) :=
  m8 a8m.X a8m.c a8m.h (fun z=>m6<|a9 2 h (fun h=>rg<|fe z h) (fun h=>rg<|fe z h))
noncomputable def a0F:FS (g8×c9×f0):=⟨58,Tryz.f58,[.val [none,none,some 4] [none,none,some 121]],[some (0,.ptr [some 1,none] []),some (1,.val [some 27,some 13,some 3,some 5] [some 1000074,some 103,some 105,some 109])],[.ptr [some 1,none] [],.val [some 27,some 13,some 3,some 5] [some 1000074,some 103,some 105,some 109]],fun r=>.agg [vi r.1.Kind,vi r.1.A,b9 121 4 n6 r.1.Prog],fun r=>[some (.optr 64 (S8 r.2.1)),some (.agg [K6 74 27 n4 r.2.2.Nodes,b9 103 13 m9 r.2.2.Net,b9 105 3 t6 r.2.2.Asked,b9 109 5 p6 r.2.2.Told])],Tryz.func58⟩
noncomputable def c0e:List Item:=a0F.k 12 [false,false,false,false,false,false,false,true,false]
noncomputable def c3p (w:f0) (pick:Int×c9) (w1:c9) (a7m:Int):St:=⟨(bs 4 (.ptr 1 0 0::(.ptr 2 0 0::(bs 57 [])))),[some [.var 64 [a0 1 E2 w1.b,vi w1.p],x8 74 27 n4 w.Nodes,d8 103 13 m9 w.Net,d8 105 3 t6 w.Asked,d8 109 5 p6 w.Told],some [.var 80 [vi 0,vi 0,.nil]],some [.var 80 [vi a7m,vi pick.1,.nil]]]⟩
noncomputable def c1i (w:f0) (pick:Int×c9) (w1:c9) (a7m:Int):Option (g8×c9×f0) :=
  some ((g8.mk a7m pick.1 []),w1,w)
theorem d60 (w:f0) (pick:Int×c9) (r:g8×c9×f0) (w1:c9) (a7m:Int) (h:c1i w pick w1 a7m=some r):b8 cx a0F.X (a0F.R r) (a0F.O r) c0e (c3p w pick w1 a7m) :=
  P0<|rg<|j5 w.Nodes w.Net w.Asked w.Told<|fe a0F.h h
noncomputable def b06 (r_:c9) (w:f0):Option (g8×c9×f0) :=
  ((b4B 1 (w.Net.length:Int)).bind fun c6p=>((A7 r_ c6p).bind fun pick=>((A7 pick.2 24).bind fun x5=>(bif (x5.1==0) then ((A7 x5.2 3).bind fun Q2=>((a2Y Q2.2).bind fun a0J=>some ((g8.mk 1 Q2.1 a0J.1),a0J.2,w))) else (bif (x5.1==1) then ((A7 x5.2 3).bind fun L2=>((a2Y L2.2).bind fun b4G=>some ((g8.mk 1 L2.1 b4G.1),b4G.2,w))) else (bif (x5.1==2) then ((A7 x5.2 3).bind fun V9=>((a2Y V9.2).bind fun b2m=>some ((g8.mk 1 V9.1 b2m.1),b2m.2,w))) else (((bif (x5.1==3) then ((A7 x5.2 3).bind fun a2c=>((a2Y a2c.2).bind fun b1X=>some (b7.ret ((g8.mk 1 a2c.1 b1X.1),b1X.2,w)))) else (bif (x5.1==4) then ((A7 x5.2 3).bind fun a5t=>some (b7.ret ((g8.mk 5 a5t.1 []),a5t.2,w))) else (bif (x5.1==5) then ((A7 x5.2 3).bind fun a6d=>some (b7.ret ((g8.mk 6 a6d.1 []),a6d.2,w))) else (bif (x5.1==6) then ((A7 x5.2 3).bind fun a3F=>some (b7.ret ((g8.mk 6 a3F.1 []),a3F.2,w))) else (bif (x5.1==7) then ((A7 x5.2 2).bind fun a3u=>(bif (a3u.1==0) then ((A7 a3u.2 3).bind fun a3X=>some (b7.ret ((g8.mk 7 a3X.1 []),a3X.2,w))) else some (b7.brk (a3u.2,2)))) else (bif (x5.1==8) then some (b7.brk (x5.2,3)) else (bif (x5.1==9) then some (b7.brk (x5.2,4)) else (bif (x5.1==10) then ((A7 x5.2 3).bind fun a4W=>(bif (a4W.1==0) then ((A7 a4W.2 10).bind fun a4j=>((A7 a4j.2 5).bind fun b9X=>some (b7.ret ((g8.mk (i7 (a4j.1 - 1)) (i7 (b9X.1 - 1)) []),b9X.2,w)))) else some (b7.brk (a4W.2,2)))) else some (b7.brk (x5.2,2)))))))))):Option (b7 (g8×c9×f0) (c9×Int))).bind fun x=>x.go some fun j=>c1i w pick j.1 j.2)))))))
set_option maxRecDepth 20000 in
theorem d1A {r_:c9} {w:f0} (r:g8×c9×f0) (h:b06 r_ w=some r):l8 cx.P 58 [.optr 64 (S8 r_),.agg [K6 74 27 n4 w.Nodes,b9 103 13 m9 w.Net,b9 105 3 t6 w.Asked,b9 109 5 p6 w.Told]] (a0F.R r) (a0F.O r) :=
  m8 a0F.X a0F.c a0F.h (fun z=>m6<|d6 a8m d1K 4 h fun c6p h=>d6 A2 B3 5 h fun pick h=>rg<|d6 A2 B3 1 h fun x5 h=>rg<|a9 1 h (fun h=>rg<|d6 A2 B3 1 h fun Q2 h=>d6 K9 a8x 3 h fun a0J h=>j5 a0J.1 w.Nodes w.Net w.Asked<|j3 w.Told<|fe z h) (fun h=>rg<|a9 1 h (fun h=>rg<|d6 A2 B3 1 h fun L2 h=>d6 K9 a8x 3 h fun b4G h=>j5 b4G.1 w.Nodes w.Net w.Asked<|j3 w.Told<|fe z h) (fun h=>rg<|a9 1 h (fun h=>rg<|d6 A2 B3 1 h fun V9 h=>d6 K9 a8x 3 h fun b2m h=>j5 b2m.1 w.Nodes w.Net w.Asked<|j3 w.Told<|fe z h) (fun h=>A9 (I:=fun j:c9×Int=>b8 cx a0F.X (a0F.R r) (a0F.O r) c0e (c3p w pick j.1 j.2)) h (fun j h=>d60 w pick r j.1 j.2 h) (fun x1 h hc1=>rg<|a9 1 h (fun h=>rg<|d6 A2 B3 1 h fun a2c h=>d6 K9 a8x 3 h fun b1X h=>(A0 h hc1 fun h=>j5 b1X.1 w.Nodes w.Net w.Asked<|j3 w.Told<|fe z h)) (fun h=>rg<|a9 1 h (fun h=>rg<|d6 A2 B3 1 h fun a5t h=>(A0 h hc1 fun h=>j5 w.Nodes w.Net w.Asked w.Told<|fe z h)) (fun h=>rg<|a9 1 h (fun h=>rg<|d6 A2 B3 1 h fun a6d h=>(A0 h hc1 fun h=>j5 w.Nodes w.Net w.Asked w.Told<|fe z h)) (fun h=>rg<|a9 1 h (fun h=>rg<|d6 A2 B3 1 h fun a3F h=>(A0 h hc1 fun h=>j5 w.Nodes w.Net w.Asked w.Told<|fe z h)) (fun h=>rg<|a9 1 h (fun h=>rg<|d6 A2 B3 1 h fun a3u h=>a9 2 h (fun h=>rg<|d6 A2 B3 1 h fun a3X h=>(A0 h hc1 fun h=>j5 w.Nodes w.Net w.Asked w.Told<|fe z h)) (fun h=>(m7 h hc1 fun hI=>sg [] [4,5] [(2,0),(10,0)] hI))) (fun h=>rg<|a9 1 h (fun h=>rg<|(m7 h hc1 fun hI=>sg [] [4,5] [(2,0),(10,0)] hI)) (fun h=>rg<|a9 1 h (fun h=>rg<|(m7 h hc1 fun hI=>sg [] [4,5] [(2,0),(10,0)] hI)) (fun h=>rg<|a9 1 h (fun h=>rg<|d6 A2 B3 1 h fun a4W h=>a9 2 h (fun h=>rg<|d6 A2 B3 1 h fun a4j h=>d6 A2 B3 4 h fun b9X h=>(A0 h hc1 fun h=>j5 w.Nodes w.Net w.Asked w.Told<|fe z h)) (fun h=>(m7 h hc1 fun hI=>sg [] [4,5] [(2,0),(10,0)] hI))) (fun h=>(m7 h hc1 fun hI=>sg [] [4,5] [(2,0),(10,0)] hI))))))))))))))
noncomputable def D3:FS (Bool):=⟨46,Tryz.f46,[.val [] []],[none],[.val B4 []],fun r=>.b r,fun _=>[none],Tryz.func46⟩
noncomputable def c40:List Item:=D3.k 2 [false]
noncomputable def c33 (m:a8):St:=⟨(bs 1 (.ptr 1 0 0::(bs 158 []))),[some [],some [.var 103 [vi m.Kind,vi m.From,vi m.To,vi m.Bal,vi m.Slot,.b m.Entry.None,vi m.Entry.Req.Who,vi m.Entry.Req.Seq,a0 2 i4 m.Entry.Run.Reads,a0 2 i0 m.Entry.Run.Puts,vi m.Entry.Run.Val,vi m.Entry.Run.Code,a0 8 i8 m.Votes]]]⟩
noncomputable def c6o:List Item:=D3.k 4 [false]
noncomputable def c8L (m:a8) (R4:Bool) (right:Bool):St:=⟨(bs 1 (.ptr 1 0 0::(bs 1 (.b R4::(.b right::(bs 155 [])))))),[some [],some [.var 103 [vi m.Kind,vi m.From,vi m.To,vi m.Bal,vi m.Slot,.b m.Entry.None,vi m.Entry.Req.Who,vi m.Entry.Req.Seq,a0 2 i4 m.Entry.Run.Reads,a0 2 i0 m.Entry.Run.Puts,vi m.Entry.Run.Val,vi m.Entry.Run.Code,a0 8 i8 m.Votes]]]⟩
noncomputable def a9M (m:a8) (R4:Bool) (right:Bool):Option Bool :=
  (bif (m.Kind==1) then ((a0W m.Bal).bind fun X7=>(bif X7 then some R4 else some false)) else (bif (m.Kind==2) then ((a0W m.Bal).bind fun a9m=>(bif a9m then (bif R4 then ((a3S m.Votes).bind fun a4m=>(bif a4m then some (decide ((i7 (m.Slot+(m.Votes.length:Int)))≤40)) else some false)) else some false) else some false)) else (bif (m.Kind==3) then ((a0W m.Bal).bind fun b0J=>(bif b0J then some right else some false)) else (bif (m.Kind==4) then ((a0W m.Bal).bind fun c6a=>(bif c6a then some R4 else some false)) else (bif (m.Kind==5) then (bif (m.Bal==0) then some right else some false) else (bif (m.Kind==6) then ((a0W m.Bal).bind fun c1p=>(bif c1p then (bif R4 then some (m.Slot==0) else some false) else some false)) else (bif (m.Kind==7) then (bif (m.Bal==0) then (bif (m.Slot==0) then ((a0w m.Entry).bind fun G2=>(bif G2 then some (!m.Entry.None) else some false)) else some false) else some false) else (bif (m.Kind==8) then (bif (m.Bal==0) then some R4 else some false) else some false))))))))
theorem d42 (m:a8) (R4:Bool) (r:Bool) (right:Bool) (h:a9M m R4 right=some r):b8 cx D3.X (D3.R r) (D3.O r) c6o (c8L m R4 right) :=
  P0<|m6<|a9 1 h (fun h=>rg<|d6 X8 a1Z 2 h fun X7 h=>a9 3 h (fun h=>fe D3.h h) (fun h=>fe D3.h h)) (fun h=>rg<|a9 1 h (fun h=>rg<|d6 X8 a1Z 2 h fun a9m h=>a9 3 h (fun h=>a9 6 h (fun h=>d6 K7 a8M 9 h fun a4m h=>a9 11 h (fun h=>fe D3.h h) (fun h=>fe D3.h h)) (fun h=>fe D3.h h)) (fun h=>fe D3.h h)) (fun h=>rg<|a9 1 h (fun h=>rg<|d6 X8 a1Z 2 h fun b0J h=>a9 3 h (fun h=>fe D3.h h) (fun h=>fe D3.h h)) (fun h=>rg<|a9 1 h (fun h=>rg<|d6 X8 a1Z 2 h fun c6a h=>a9 3 h (fun h=>fe D3.h h) (fun h=>fe D3.h h)) (fun h=>rg<|a9 1 h (fun h=>rg<|a9 3 h (fun h=>fe D3.h h) (fun h=>fe D3.h h)) (fun h=>rg<|a9 1 h (fun h=>rg<|d6 X8 a1Z 2 h fun c1p h=>a9 3 h (fun h=>a9 6 h (fun h=>fe D3.h h) (fun h=>fe D3.h h)) (fun h=>fe D3.h h)) (fun h=>rg<|a9 1 h (fun h=>rg<|a9 3 h (fun h=>a9 8 h (fun h=>d6 X2 a1J 11 h fun G2 h=>a9 13 h (fun h=>fe D3.h h) (fun h=>fe D3.h h)) (fun h=>fe D3.h h)) (fun h=>fe D3.h h)) (fun h=>rg<|a9 1 h (fun h=>rg<|a9 3 h (fun h=>fe D3.h h) (fun h=>fe D3.h h)) (fun h=>rg<|fe D3.h h))))))))
noncomputable def b3E (m:a8):Option Bool :=
  ((a3m m.Entry).bind fun R4=>((((a0w m.Entry).bind fun b0q=>(bif b0q then some (b7.brk (decide (m.Slot<40))) else some (b7.brk false))):Option (b7 Bool Bool)).bind fun x=>x.go some fun j=>a9M m R4 j))
theorem d37 (m:a8) (r:Bool) (h:b3E m=some r):b8 cx D3.X (D3.R r) (D3.O r) c40 (c33 m) :=
  P0<|rg<|d6 a2u a68 2 h fun R4 h=>A9 (I:=fun j:Bool=>b8 cx D3.X (D3.R r) (D3.O r) c6o (c8L m R4 j)) h (fun j h=>d42 m R4 r j h) (fun x1 h hc1=>rg<|d6 X2 a1J 2 h fun b0q h=>a9 3 h (fun h=>(m7 h hc1 fun hI=>sg [] [1,3,4] [(1,0)] hI)) (fun h=>(m7 h hc1 fun hI=>sg [] [1,3,4] [(1,0)] hI)))
noncomputable def b4f (m:a8):Option Bool :=
  (((bif decide (m.From<0) then some (b7.ret false) else (bif decide (m.From≥3) then some (b7.ret false) else (bif decide (m.To<0) then some (b7.ret false) else (bif decide (m.To≥3) then some (b7.ret false) else (bif (m.From==m.To) then some (b7.ret false) else (bif decide (m.Slot<0) then some (b7.ret false) else (bif decide (m.Slot>40) then some (b7.ret false) else (bif (m.Kind != 2) then (bif decide ((m.Votes.length:Int)>0) then some (b7.ret false) else some (b7.brk ())) else some (b7.brk ()))))))))):Option (b7 Bool Unit)).bind fun x=>x.go some fun j=>b3E m)
theorem d6x {m:a8} (r:Bool) (h:b4f m=some r):l8 cx.P 46 [.agg (m9 m)] (D3.R r) (D3.O r) :=
  m8 D3.X D3.c D3.h (fun z=>rg<|A9 (I:=fun j:Unit=>b8 cx D3.X (D3.R r) (D3.O r) c40 (c33 m)) h (fun j h=>d37 m r h) (fun x1 h hc1=>rg<|a9 3 h (fun h=>rg<|(A0 h hc1 fun h=>fe z h)) (fun h=>a9 8 h (fun h=>rg<|(A0 h hc1 fun h=>fe z h)) (fun h=>a9 13 h (fun h=>rg<|(A0 h hc1 fun h=>fe z h)) (fun h=>a9 18 h (fun h=>rg<|(A0 h hc1 fun h=>fe z h)) (fun h=>a9 25 h (fun h=>rg<|(A0 h hc1 fun h=>fe z h)) (fun h=>a9 30 h (fun h=>rg<|(A0 h hc1 fun h=>fe z h)) (fun h=>a9 35 h (fun h=>rg<|(A0 h hc1 fun h=>fe z h)) (fun h=>a9 39 h (fun h=>a9 45 h (fun h=>rg<|(A0 h hc1 fun h=>fe z h)) (fun h=>(m7 h hc1 fun hI=>sg [] [1] [(1,0)] hI))) (fun h=>(m7 h hc1 fun hI=>sg [] [1] [(1,0)] hI)))))))))))
noncomputable def a7j:FS (Bool):=⟨48,Tryz.f48,[.val [] []],[none],[.val [] []],fun r=>.b r,fun _=>[none],Tryz.func48⟩
noncomputable def b1n (a:e9):Option Bool :=
  (bif decide (a.Node≥0) then (bif decide (a.Node<3) then ((a7Y a.Req).bind fun a4E=>(bif a4E then (bif (a.Req.Who==a.Node) then (bif decide (a.Code≥0) then (bif decide (a.Code≤4) then ((a36 a.Val).bind fun a0O=>some a0O) else some false) else some false) else some false) else some false)) else some false) else some false)
theorem c93 {a:e9} (r:Bool) (h:b1n a=some r):l8 cx.P 48 [.agg (p6 a)] (a7j.R r) (a7j.O r) :=
  m8 a7j.X a7j.c a7j.h (fun z=>m6<|a9 3 h (fun h=>a9 8 h (fun h=>d6 a35 b7G 11 h fun a4E h=>a9 13 h (fun h=>a9 21 h (fun h=>a9 26 h (fun h=>a9 31 h (fun h=>d6 a15 a69 34 h fun a0O h=>fe z h) (fun h=>fe z h)) (fun h=>fe z h)) (fun h=>fe z h)) (fun h=>fe z h)) (fun h=>fe z h)) (fun h=>fe z h))
noncomputable def r9:FS (Bool):=⟨24,Tryz.f24,[.val [] []],[none],[.val a0m []],fun r=>.b r,fun _=>[none],Tryz.func24⟩
noncomputable def c6A:List Item:=r9.k 4 [false,false]
noncomputable def c1l (w:f0):St:=⟨(bs 1 (.ptr 1 0 0::(bs 104 []))),[some [],some [.var 46 [a0 27 I4 w.Nodes,a0 13 m9 w.Net,a0 3 t6 w.Asked,a0 5 p6 w.Told]]]⟩
noncomputable def c2R:List Item:=r9.k 6 [false,false,false]
noncomputable def c6f (w:f0):St:=⟨(bs 1 (.ptr 1 0 0::(bs 104 []))),[some [],some [.var 46 [a0 27 I4 w.Nodes,a0 13 m9 w.Net,a0 3 t6 w.Asked,a0 5 p6 w.Told]]]⟩
noncomputable def c4w:List Item:=r9.k 8 [false,false,false,false]
noncomputable def c07 (w:f0):St:=⟨(bs 1 (.ptr 1 0 0::(bs 104 []))),[some [],some [.var 46 [a0 27 I4 w.Nodes,a0 13 m9 w.Net,a0 3 t6 w.Asked,a0 5 p6 w.Told]]]⟩
noncomputable def c8w:List Item:=r9.k 10 [false,false,false,false,false]
noncomputable def c7o:St:=⟨(bs 106 []),[some []]⟩
noncomputable def c1f:Option Bool :=
  some true
theorem c9Z (r:Bool) (h:c1f=some r):b8 cx r9.X (r9.R r) (r9.O r) c8w (c7o) :=
  P0<|rg<|fe r9.h h
noncomputable def b9m:List Item:=r9.k 9 [false,false,false,false]
noncomputable def b9e (w:f0) (i3:Int):St:=⟨(bs 1 (.ptr 1 0 0::(bs 4 (vi i3::(bs 99 []))))),[some [],some [.var 46 [a0 27 I4 w.Nodes,a0 13 m9 w.Net,a0 3 t6 w.Asked,a0 5 p6 w.Told]]]⟩
noncomputable def b34 (w:f0) (i3:Int):Option (b6 Bool Int Unit) :=
  (bif decide (i3<(w.Told.length:Int)) then ((idx w.Told i3).bind fun z7=>((b1n z7).bind fun c6U=>(bif (!c6U) then some (b6.ret false) else some (b6.nxt (i7 (i3+1)))))) else some (b6.brk ()))
theorem d82 (w:f0) (res:V) (outs:List (Option V)) (x1:b7 Bool Unit) (hb1:HB cx r9.X res outs x1 c8w (fun s=>c7o)) (hr1:HR res outs x1 r9.R r9.O) (st1:b6 Bool Int Unit) (hc1:n9 x1 (fun s:Int=>b8 cx r9.X res outs b9m (b9e w s)) st1) (i3:Int) (h:b34 w i3=some st1):b8 cx r9.X res outs b9m (b9e w i3) :=
  P0<|rg<|a9 4 h (fun h=>rg<|s5 p6 3 h fun z7 a9z h=>d6 a7j c93 5 h fun c6U h=>a9 6 h (fun h=>rg<|(x6 h hc1 fun e=>x7 r9.h (hr1 _ e))) (fun h=>rg<|(u0 h hc1 fun hI=>sg [] [1,6] [(1,0)] hI))) (fun h=>(t0 h hc1 fun e=>sg [] [] [] (hb1 _ e)))
noncomputable def b2v (w:f0):Option Bool :=
  ((m5 (fun s:Int=>b34 w s) 0).bind fun x=>x.go (fun r=>some r) fun s=>c1f)
theorem d4I (w:f0) (r:Bool) (h:b2v w=some r):b8 cx r9.X (r9.R r) (r9.O r) c4w (c07 w) :=
  P0<|rg<|u7 h fun x hl hr hb=>sg [] [1,6] [(1,0)] (u9 (I:=fun s:Int=>b8 cx r9.X (r9.R r) (r9.O r) b9m (b9e w s)) hl fun s st h hc=>d82 w _ _ x (fun s e=>c9Z r (hb s e)) (fun v e=>⟨congrArg r9.R (Option.some.inj (hr v e)).symm,congrArg r9.O (Option.some.inj (hr v e)).symm⟩) st hc s h)
noncomputable def b88:List Item:=r9.k 7 [false,false,false]
noncomputable def b8p (w:f0) (i2:Int):St:=⟨(bs 1 (.ptr 1 0 0::(bs 3 (vi i2::(bs 100 []))))),[some [],some [.var 46 [a0 27 I4 w.Nodes,a0 13 m9 w.Net,a0 3 t6 w.Asked,a0 5 p6 w.Told]]]⟩
noncomputable def b4M (w:f0) (i2:Int):Option (b6 Bool Int Unit) :=
  (bif decide (i2<(w.Asked.length:Int)) then ((idx w.Asked i2).bind fun asked=>((a7Y asked.Req).bind fun a4E=>(bif (!a4E) then some (b6.ret false) else ((a7r asked.Prog).bind fun L0=>(bif (!L0) then some (b6.ret false) else some (b6.nxt (i7 (i2+1)))))))) else some (b6.brk ()))
theorem d6e (w:f0) (res:V) (outs:List (Option V)) (x1:b7 Bool Unit) (hb1:HB cx r9.X res outs x1 c4w (fun s=>c07 w)) (hr1:HR res outs x1 r9.R r9.O) (st1:b6 Bool Int Unit) (hc1:n9 x1 (fun s:Int=>b8 cx r9.X res outs b88 (b8p w s)) st1) (i2:Int) (h:b4M w i2=some st1):b8 cx r9.X res outs b88 (b8p w i2) :=
  P0<|rg<|a9 4 h (fun h=>rg<|s5 t6 3 h fun asked b7V h=>d6 a35 b7G 6 h fun a4E h=>a9 8 h (fun h=>rg<|(x6 h hc1 fun e=>x7 r9.h (hr1 _ e))) (fun h=>O0 t6 12 b7V<|d6 M7 b4R 15 h fun L0 h=>a9 17 h (fun h=>rg<|(x6 h hc1 fun e=>x7 r9.h (hr1 _ e))) (fun h=>rg<|(u0 h hc1 fun hI=>sg [] [1,5] [(1,0)] hI)))) (fun h=>(t0 h hc1 fun e=>sg [] [1] [(1,0)] (hb1 _ e)))
noncomputable def b1j (w:f0):Option Bool :=
  ((m5 (fun s:Int=>b4M w s) 0).bind fun x=>x.go (fun r=>some r) fun s=>b2v w)
theorem d77 (w:f0) (r:Bool) (h:b1j w=some r):b8 cx r9.X (r9.R r) (r9.O r) c2R (c6f w) :=
  P0<|rg<|u7 h fun x hl hr hb=>sg [] [1,5] [(1,0)] (u9 (I:=fun s:Int=>b8 cx r9.X (r9.R r) (r9.O r) b88 (b8p w s)) hl fun s st h hc=>d6e w _ _ x (fun s e=>d4I w r (hb s e)) (fun v e=>⟨congrArg r9.R (Option.some.inj (hr v e)).symm,congrArg r9.O (Option.some.inj (hr v e)).symm⟩) st hc s h)
noncomputable def b6O:List Item:=r9.k 5 [false,false]
noncomputable def b5C (w:f0) (i1:Int):St:=⟨(bs 1 (.ptr 1 0 0::(bs 2 (vi i1::(bs 101 []))))),[some [],some [.var 46 [a0 27 I4 w.Nodes,a0 13 m9 w.Net,a0 3 t6 w.Asked,a0 5 p6 w.Told]]]⟩
noncomputable def b2H (w:f0) (i1:Int):Option (b6 Bool Int Unit) :=
  (bif decide (i1<(w.Net.length:Int)) then ((idx w.Net i1).bind fun msg=>((b4f msg).bind fun a1O=>(bif (!a1O) then some (b6.ret false) else some (b6.nxt (i7 (i1+1)))))) else some (b6.brk ()))
theorem d7b (w:f0) (res:V) (outs:List (Option V)) (x1:b7 Bool Unit) (hb1:HB cx r9.X res outs x1 c2R (fun s=>c6f w)) (hr1:HR res outs x1 r9.R r9.O) (st1:b6 Bool Int Unit) (hc1:n9 x1 (fun s:Int=>b8 cx r9.X res outs b6O (b5C w s)) st1) (i1:Int) (h:b2H w i1=some st1):b8 cx r9.X res outs b6O (b5C w i1) :=
  P0<|rg<|a9 4 h (fun h=>rg<|s5 m9 3 h fun msg a91 h=>d6 D3 d6x 5 h fun a1O h=>a9 6 h (fun h=>rg<|(x6 h hc1 fun e=>x7 r9.h (hr1 _ e))) (fun h=>rg<|(u0 h hc1 fun hI=>sg [] [1,4] [(1,0)] hI))) (fun h=>(t0 h hc1 fun e=>sg [] [1] [(1,0)] (hb1 _ e)))
noncomputable def b2P (w:f0):Option Bool :=
  ((m5 (fun s:Int=>b2H w s) 0).bind fun x=>x.go (fun r=>some r) fun s=>b1j w)
theorem d4U (w:f0) (r:Bool) (h:b2P w=some r):b8 cx r9.X (r9.R r) (r9.O r) c6A (c1l w) :=
  P0<|rg<|u7 h fun x hl hr hb=>sg [] [1,4] [(1,0)] (u9 (I:=fun s:Int=>b8 cx r9.X (r9.R r) (r9.O r) b6O (b5C w s)) hl fun s st h hc=>d7b w _ _ x (fun s e=>d77 w r (hb s e)) (fun v e=>⟨congrArg r9.R (Option.some.inj (hr v e)).symm,congrArg r9.O (Option.some.inj (hr v e)).symm⟩) st hc s h)
noncomputable def b9B:List Item:=r9.k 3 [false]
noncomputable def b7s (w:f0) (i:Int):St:=⟨(bs 1 (.ptr 1 0 0::(bs 1 (vi i::(bs 102 []))))),[some [],some [.var 46 [a0 27 I4 w.Nodes,a0 13 m9 w.Net,a0 3 t6 w.Asked,a0 5 p6 w.Told]]]⟩
noncomputable def b4v (w:f0) (i:Int):Option (b6 Bool Int Unit) :=
  (bif decide (i<(w.Nodes.length:Int)) then ((idx w.Nodes i).bind fun c8=>(bif (c8.Id != i) then some (b6.ret false) else ((a3H c8).bind fun G1=>(bif (!G1) then some (b6.ret false) else some (b6.nxt (i7 (i+1))))))) else some (b6.brk ()))
theorem c9Q (w:f0) (res:V) (outs:List (Option V)) (x1:b7 Bool Unit) (hb1:HB cx r9.X res outs x1 c6A (fun s=>c1l w)) (hr1:HR res outs x1 r9.R r9.O) (st1:b6 Bool Int Unit) (hc1:n9 x1 (fun s:Int=>b8 cx r9.X res outs b9B (b7s w s)) st1) (i:Int) (h:b4v w i=some st1):b8 cx r9.X res outs b9B (b7s w i) :=
  P0<|rg<|a9 4 h (fun h=>rg<|s5 I4 3 h fun c8 G7 h=>a9 8 h (fun h=>rg<|(x6 h hc1 fun e=>x7 r9.h (hr1 _ e))) (fun h=>O0 I4 12 G7<|d6 F3 a8C 14 h fun G1 h=>a9 16 h (fun h=>rg<|(x6 h hc1 fun e=>x7 r9.h (hr1 _ e))) (fun h=>rg<|(u0 h hc1 fun hI=>sg [] [1,3] [(1,0)] hI)))) (fun h=>(t0 h hc1 fun e=>sg [] [1] [(1,0)] (hb1 _ e)))
noncomputable def b0M (w:f0):Option Bool :=
  (bif ((w.Nodes.length:Int) != 3) then some false else (bif decide ((w.Net.length:Int)>40) then some false else (bif decide ((w.Asked.length:Int)>60) then some false else (bif decide ((w.Told.length:Int)>60) then some false else ((m5 (fun s:Int=>b4v w s) 0).bind fun x=>x.go (fun r=>some r) fun s=>b2P w)))))
theorem b77 {w:f0} (r:Bool) (h:b0M w=some r):l8 cx.P 24 [.agg (b3T w)] (r9.R r) (r9.O r) :=
  m8 r9.X r9.c r9.h (fun z=>m6<|a9 4 h (fun h=>rg<|fe z h) (fun h=>a9 10 h (fun h=>rg<|fe z h) (fun h=>a9 16 h (fun h=>rg<|fe z h) (fun h=>a9 21 h (fun h=>rg<|fe z h) (fun h=>rg<|u7 h fun x hl hr hb=>sg [] [1,3] [(1,0)] (u9 (I:=fun s:Int=>b8 cx r9.X (r9.R r) (r9.O r) b9B (b7s w s)) hl fun s st h hc=>c9Q w _ _ x (fun s e=>d4U w r (hb s e)) (fun v e=>⟨congrArg r9.R (Option.some.inj (hr v e)).symm,congrArg r9.O (Option.some.inj (hr v e)).symm⟩) st hc s h))))))
noncomputable def z8:FS (f0):=⟨25,Tryz.f25,[.val a0m [some 1000074,some 103,some 105,some 109]],[none],[.val a0m []],fun r=>.agg [K6 74 27 n4 r.Nodes,b9 103 13 m9 r.Net,b9 105 3 t6 r.Asked,b9 109 5 p6 r.Told],fun _=>[none],Tryz.func25⟩
noncomputable def c2B:List Item:=z8.k 4 [false]
noncomputable def c2u (w:f0) (p7:List a6):St:=⟨(bs 1 (.ptr 1 0 0::(.ptr 2 0 0::(.ptr 3 0 0::(bs 72 []))))),[some [],some [.var 46 [a0 27 I4 w.Nodes,a0 13 m9 w.Net,a0 3 t6 w.Asked,a0 5 p6 w.Told]],some [.var 46 [.nil,.nil,.nil,.nil]],some [.var 46 [.own 4 0 27 0 p7.length,.nil,.nil,.own 5 0 5 0 (([]:List e9)++w.Told).length]],some [x8 74 27 n4 p7],some [d8 109 5 p6 (([]:List e9)++w.Told)]]⟩
noncomputable def c52:List Item:=z8.k 6 [false,false]
noncomputable def c5o (w:f0) (p7:List a6) (t5:List a8):St:=⟨(bs 1 (.ptr 1 0 0::(.ptr 2 0 0::(.ptr 3 0 0::(bs 72 []))))),[some [],some [.var 46 [a0 27 I4 w.Nodes,a0 13 m9 w.Net,a0 3 t6 w.Asked,a0 5 p6 w.Told]],some [.var 46 [.nil,.nil,.nil,.nil]],some [.var 46 [.own 4 0 27 0 p7.length,.own 5 0 13 0 t5.length,.nil,.own 6 0 5 0 (([]:List e9)++w.Told).length]],some [x8 74 27 n4 p7],some [d8 103 13 m9 t5],some [d8 109 5 p6 (([]:List e9)++w.Told)]]⟩
noncomputable def c6x:List Item:=z8.k 8 [false,false,false]
noncomputable def b96 (w:f0) (p7:List a6) (t5:List a8) (C0:List j9):St:=⟨(bs 2 (.ptr 1 0 0::(.ptr 2 0 0::(bs 72 [])))),[some [],some [.var 46 [.nil,.nil,.nil,.nil]],some [.var 46 [.own 3 0 27 0 p7.length,.own 4 0 13 0 t5.length,.own 5 0 3 0 C0.length,.own 6 0 5 0 (([]:List e9)++w.Told).length]],some [x8 74 27 n4 p7],some [d8 103 13 m9 t5],some [d8 105 3 t6 C0],some [d8 109 5 p6 (([]:List e9)++w.Told)]]⟩
noncomputable def c2Y (w:f0) (p7:List a6) (t5:List a8) (C0:List j9):Option f0 :=
  some (f0.mk p7 t5 C0 (([]:List e9)++w.Told))
theorem d0W (w:f0) (p7:List a6) (t5:List a8) (r:f0) (C0:List j9) (h:c2Y w p7 t5 C0=some r):b8 cx z8.X (z8.R r) (z8.O r) c6x (b96 w p7 t5 C0) :=
  P0<|rg<|j5 p7 t5 C0 (([]:List e9)++w.Told)<|fe z8.h h
noncomputable def b7o:List Item:=z8.k 7 [false,false]
noncomputable def b8M (w:f0) (p7:List a6) (t5:List a8) (Asked:List j9) (i2:Int):St:=⟨(bs 1 (.ptr 1 0 0::(.ptr 2 0 0::(.ptr 3 0 0::(bs 2 (vi i2::(bs 69 []))))))),[some [],some [.var 46 [a0 27 I4 w.Nodes,a0 13 m9 w.Net,a0 3 t6 w.Asked,a0 5 p6 w.Told]],some [.var 46 [.nil,.nil,.nil,.nil]],some [.var 46 [.own 4 0 27 0 p7.length,.own 5 0 13 0 t5.length,.own 7 0 3 0 Asked.length,.own 6 0 5 0 (([]:List e9)++w.Told).length]],some [x8 74 27 n4 p7],some [d8 103 13 m9 t5],some [d8 109 5 p6 (([]:List e9)++w.Told)],some [d8 105 3 t6 Asked]]⟩
noncomputable def b0e (w:f0) (Asked:List j9) (i2:Int):Option (b6 f0 ((List j9)×Int) (List j9)) :=
  (bif decide (i2<(w.Asked.length:Int)) then ((idx w.Asked i2).bind fun asked=>(n8 ((([]:List j6).length+asked.Prog.length) * 32≤140737488355328) ((n8 ((Asked.length+1) * 40≤140737488355328) (some (b6.nxt (Asked++[(j9.mk asked.Req (([]:List j6)++asked.Prog))],i7 (i2+1)))))))) else some (b6.brk Asked))
theorem d9q (w:f0) (p7:List a6) (t5:List a8) (res:V) (outs:List (Option V)) (x1:b7 f0 (List j9)) (hb1:HB cx z8.X res outs x1 c6x (b96 w p7 t5)) (hr1:HR res outs x1 z8.R z8.O) (st1:b6 f0 ((List j9)×Int) (List j9)) (hc1:n9 x1 (fun s:(List j9)×Int=>b8 cx z8.X res outs b7o (b8M w p7 t5 s.1 s.2)) st1) (Asked:List j9) (i2:Int) (h:b0e w Asked i2=some st1):b8 cx z8.X res outs b7o (b8M w p7 t5 Asked i2) :=
  P0<|rg<|a9 4 h (fun h=>rg<|s5 t6 5 h fun asked b7V h=>tl (8,{ a:=.ck [] })<|O0 t6 12 b7V<|o8 h fun e2 h=>om (V.own 28 0 4 0 (([]:List j6).length+asked.Prog.length) = .own 28 0 4 0 (([]:List j6)++asked.Prog).length) (by first | exact congrArg (V.own 28 0 4 0) List.length_append.symm | simp)<|om (l7.row 121 4 (([]:List j6).length+asked.Prog.length) (([]:List j6).map n6++asked.Prog.map n6)=d8 121 4 n6 (([]:List j6)++asked.Prog)) (by first | exact a1Q rfl rfl | simp [d8])<|om (0=([]:List j6).length) (by rfl)<|ob e2<|tl (15,{ v:=some (.own 28 0 4 0 (([]:List j6)++asked.Prog).length),e:=some (d8 121 4 n6 (([]:List j6)++asked.Prog)) })<|j3 (([]:List j6)++asked.Prog)<|tl (17,{ a:=.ck [none,none,some 4] })<|o8 h fun e3 h=>J8 18 31 105 3 40 t6 Asked (j9.mk asked.Req (([]:List j6)++asked.Prog)) e3<|om (1=[(j9.mk asked.Req (([]:List j6)++asked.Prog))].length) (by rfl)<|rg<|(u0 h hc1 fun hI=>sg [] [1,2,3,6] [(1,0),(2,0),(3,0),(4,0),(5,0),(6,0),(31,0)] hI)) (fun h=>(t0 h hc1 fun e=>sg [] [2,3] [(2,0),(3,0),(4,0),(5,0),(7,0),(6,0)] (hb1 _ e)))
noncomputable def b8G (w:f0) (p7:List a6) (t5:List a8):Option f0 :=
  ((m5 (fun s:(List j9)×Int=>b0e w s.1 s.2) ([],0)).bind fun x=>x.go (fun r=>some r) fun s=>c2Y w p7 t5 s)
theorem d1C (w:f0) (p7:List a6) (r:f0) (t5:List a8) (h:b8G w p7 t5=some r):b8 cx z8.X (z8.R r) (z8.O r) c52 (c5o w p7 t5) :=
  P0<|rg<|u7 h fun x hl hr hb=>sg [.own (.cell 3 0 2) 105 3] [1,2,3,6] [(1,0),(2,0),(3,0),(4,0),(5,0),(6,0),(8,0)] (u9 (I:=fun s:(List j9)×Int=>b8 cx z8.X (z8.R r) (z8.O r) b7o (b8M w p7 t5 s.1 s.2)) hl fun s st h hc=>d9q w p7 t5 _ _ x (fun s e=>d0W w p7 t5 r s (hb s e)) (fun v e=>⟨congrArg z8.R (Option.some.inj (hr v e)).symm,congrArg z8.O (Option.some.inj (hr v e)).symm⟩) st hc s.1 s.2 h)
noncomputable def b5b:List Item:=z8.k 5 [false]
noncomputable def b7g (w:f0) (p7:List a6) (Net:List a8) (i1:Int):St:=⟨(bs 1 (.ptr 1 0 0::(.ptr 2 0 0::(.ptr 3 0 0::(bs 1 (vi i1::(bs 70 []))))))),[some [],some [.var 46 [a0 27 I4 w.Nodes,a0 13 m9 w.Net,a0 3 t6 w.Asked,a0 5 p6 w.Told]],some [.var 46 [.nil,.nil,.nil,.nil]],some [.var 46 [.own 4 0 27 0 p7.length,.own 6 0 13 0 Net.length,.nil,.own 5 0 5 0 (([]:List e9)++w.Told).length]],some [x8 74 27 n4 p7],some [d8 109 5 p6 (([]:List e9)++w.Told)],some [d8 103 13 m9 Net]]⟩
noncomputable def b0E (w:f0) (Net:List a8) (i1:Int):Option (b6 f0 ((List a8)×Int) (List a8)) :=
  (bif decide (i1<(w.Net.length:Int)) then ((idx w.Net i1).bind fun msg=>((a5g msg).bind fun D4=>(n8 ((Net.length+1) * 152≤140737488355328) (some (b6.nxt (Net++[D4],i7 (i1+1))))))) else some (b6.brk Net))
theorem d76 (w:f0) (p7:List a6) (res:V) (outs:List (Option V)) (x1:b7 f0 (List a8)) (hb1:HB cx z8.X res outs x1 c52 (c5o w p7)) (hr1:HR res outs x1 z8.R z8.O) (st1:b6 f0 ((List a8)×Int) (List a8)) (hc1:n9 x1 (fun s:(List a8)×Int=>b8 cx z8.X res outs b5b (b7g w p7 s.1 s.2)) st1) (Net:List a8) (i1:Int) (h:b0E w Net i1=some st1):b8 cx z8.X res outs b5b (b7g w p7 Net i1) :=
  P0<|rg<|a9 4 h (fun h=>rg<|s5 m9 5 h fun msg a91 h=>d6 a3N b1e 7 h fun D4 h=>tl (8,{ a:=.ck B4 })<|o8 h fun e4 h=>J8 9 21 103 13 152 m9 Net D4 e4<|om (1=[D4].length) (by rfl)<|rg<|(u0 h hc1 fun hI=>sg [] [1,2,3,5] [(1,0),(2,0),(3,0),(4,0),(5,0),(21,0)] hI)) (fun h=>(t0 h hc1 fun e=>sg [] [1,2,3] [(1,0),(2,0),(3,0),(4,0),(6,0),(5,0)] (hb1 _ e)))
noncomputable def b78 (w:f0) (p7:List a6):Option f0 :=
  ((m5 (fun s:(List a8)×Int=>b0E w s.1 s.2) ([],0)).bind fun x=>x.go (fun r=>some r) fun s=>b8G w p7 s)
theorem d2p (w:f0) (r:f0) (p7:List a6) (h:b78 w p7=some r):b8 cx z8.X (z8.R r) (z8.O r) c2B (c2u w p7) :=
  P0<|rg<|u7 h fun x hl hr hb=>sg [.own (.cell 3 0 1) 103 13] [1,2,3,5] [(1,0),(2,0),(3,0),(4,0),(5,0),(7,0)] (u9 (I:=fun s:(List a8)×Int=>b8 cx z8.X (z8.R r) (z8.O r) b5b (b7g w p7 s.1 s.2)) hl fun s st h hc=>d76 w p7 _ _ x (fun s e=>d1C w p7 r s (hb s e)) (fun v e=>⟨congrArg z8.R (Option.some.inj (hr v e)).symm,congrArg z8.O (Option.some.inj (hr v e)).symm⟩) st hc s.1 s.2 h)
noncomputable def b8J:List Item:=z8.k 3 []
noncomputable def b9d (w:f0) (Nodes:List a6) (i:Int):St:=⟨(bs 1 (.ptr 1 0 0::(.ptr 2 0 0::(.ptr 3 0 0::(vi i::(bs 71 [])))))),[some [],some [.var 46 [a0 27 I4 w.Nodes,a0 13 m9 w.Net,a0 3 t6 w.Asked,a0 5 p6 w.Told]],some [.var 46 [.nil,.nil,.nil,.nil]],some [.var 46 [.own 5 0 27 0 Nodes.length,.nil,.nil,.own 4 0 5 0 (([]:List e9)++w.Told).length]],some [d8 109 5 p6 (([]:List e9)++w.Told)],some [x8 74 27 n4 Nodes]]⟩
noncomputable def d7j (i9:a6):List V:=[vi i9.Id,vi i9.Acc.Promised,b9 157 8 i8 i9.Acc.Votes,b9 34 7 i5 i9.Known,vi i9.Seq,vi i9.Phase,vi i9.Bal,b9 4 1 eB i9.From,a0 8 i8 i9.Best,.b i9.Cur.None,vi i9.Cur.Req.Who,vi i9.Cur.Req.Seq,a0 2 i4 i9.Cur.Run.Reads,a0 2 i0 i9.Cur.Run.Puts,vi i9.Cur.Run.Val,vi i9.Cur.Run.Code,b9 4 1 eB i9.Votes,.b i9.Busy,a0 4 n6 i9.Prog,.b i9.Want.None,vi i9.Want.Req.Who,vi i9.Want.Req.Seq,a0 2 i4 i9.Want.Run.Reads,a0 2 i0 i9.Want.Run.Puts,vi i9.Want.Run.Val,vi i9.Want.Run.Code,b9 34 7 i5 i9.Queue]
noncomputable def b0n (w:f0) (Nodes:List a6) (i:Int):Option (b6 f0 ((List a6)×Int) (List a6)) :=
  (bif decide (i<(w.Nodes.length:Int)) then ((idx w.Nodes i).bind fun c8=>((a4y c8).bind fun i9=>(n8 ((Nodes.length+1) * 392≤140737488355328) (some (b6.nxt (Nodes++[i9],i7 (i+1))))))) else some (b6.brk Nodes))
set_option maxRecDepth 20000 in
theorem d49 (w:f0) (res:V) (outs:List (Option V)) (x1:b7 f0 (List a6)) (hb1:HB cx z8.X res outs x1 c2B (c2u w)) (hr1:HR res outs x1 z8.R z8.O) (st1:b6 f0 ((List a6)×Int) (List a6)) (hc1:n9 x1 (fun s:(List a6)×Int=>b8 cx z8.X res outs b8J (b9d w s.1 s.2)) st1) (Nodes:List a6) (i:Int) (h:b0n w Nodes i=some st1):b8 cx z8.X res outs b8J (b9d w Nodes i) :=
  P0<|rg<|a9 4 h (fun h=>rg<|s5 I4 5 h fun c8 G7 h=>d6 a2R b0s 7 h fun i9 h=>om (l7.deep false 74 27 1 [(d7j i9)]=x8 74 27 n4 [i9]) rfl<|j5 i9.Acc.Votes i9.Known i9.From i9.Votes<|j3 i9.Queue<|tl (8,{ a:=.dck [none,none,some 8,some 7,none,none,none,some 1,some 8,none,none,none,some 2,some 2,none,none,some 1,none,some 4,none,none,none,some 2,some 2,none,none,some 7] [none,none,some 157,some 34,none,none,none,some 4,none,none,none,none,none,none,none,none,some 4,none,none,none,none,none,none,none,none,none,some 34],e:=some (x8 74 27 n4 [i9]) })<|o8 h fun e5 h=>om (V.own 20 0 27 0 (Nodes.length+1) = .own 20 0 27 0 (Nodes++[i9]).length) (by simp)<|om (l7.deep false 74 27 (Nodes.length+1) (Nodes.map n4++[n4 i9])=x8 74 27 n4 (Nodes++[i9])) (b7T rfl)<|j3 Nodes<|ob e5<|om (1=1) rfl<|tl (9,{ a:=.dck [] [],v:=some (.own 20 0 27 0 (Nodes++[i9]).length),e:=some (x8 74 27 n4 (Nodes++[i9])) })<|rg<|(u0 h hc1 fun hI=>sg [] [1,2,3,4] [(1,0),(2,0),(3,0),(4,0),(20,0)] hI)) (fun h=>(t0 h hc1 fun e=>sg [] [1,2,3] [(1,0),(2,0),(3,0),(5,0),(4,0)] (hb1 _ e)))
noncomputable def a88 (w:f0):Option f0 :=
  (n8 ((([]:List e9).length+w.Told.length) * 40≤140737488355328) (((m5 (fun s:(List a6)×Int=>b0n w s.1 s.2) ([],0)).bind fun x=>x.go (fun r=>some r) fun s=>b78 w s)))
theorem c8d {w:f0} (r:f0) (h:a88 w=some r):l8 cx.P 25 [.agg (b3T w)] (z8.R r) (z8.O r) :=
  m8 z8.X z8.c z8.h (fun z=>m6<|tl (0,{ a:=.ck [] })<|o8 h fun e1 h=>om (V.own 6 0 5 0 (([]:List e9).length+w.Told.length) = .own 6 0 5 0 (([]:List e9)++w.Told).length) (by first | exact congrArg (V.own 6 0 5 0) List.length_append.symm | simp)<|om (l7.row 109 5 (([]:List e9).length+w.Told.length) (([]:List e9).map p6++w.Told.map p6)=d8 109 5 p6 (([]:List e9)++w.Told)) (by first | exact a1Q rfl rfl | simp [d8])<|om (0=([]:List e9).length) (by rfl)<|ob e1<|tl (3,{ v:=some (.own 6 0 5 0 (([]:List e9)++w.Told).length),e:=some (d8 109 5 p6 (([]:List e9)++w.Told)) })<|rg<|u7 h fun x hl hr hb=>sg [.ownD (.cell 8 0 0) 74 27] [1,2,3,4] [(1,0),(2,0),(8,0),(6,0),(11,0)] (u9 (I:=fun s:(List a6)×Int=>b8 cx z8.X (z8.R r) (z8.O r) b8J (b9d w s.1 s.2)) hl fun s st h hc=>d49 w _ _ x (fun s e=>d2p w r s (hb s e)) (fun v e=>⟨congrArg z8.R (Option.some.inj (hr v e)).symm,congrArg z8.O (Option.some.inj (hr v e)).symm⟩) st hc s.1 s.2 h))
noncomputable def J9:FS ((List g8)×c9):=⟨29,Tryz.f29,[.val [some 3] [some 80]],[some (0,.ptr [some 1,none] []),none,none],[.ptr [some 1,none] [],.val [some 27,some 13,some 3,some 5] [some 1000074,some 103,some 105,some 109],.val [] []],fun r=>b9 80 3 H9 r.1,fun r=>[some (.optr 64 (S8 r.2)),none,none],Tryz.func29⟩
noncomputable def b5N:List Item:=J9.k 4 [false]
noncomputable def b7D (w1:c9) (out1:List g8):St:=⟨(bs 7 (.own 1 0 3 0 out1.length::(bs 22 []))),[some [.var 64 [a0 1 E2 w1.b,vi w1.p],.dead,.dead,.dead,.dead],some [d8 80 3 H9 out1]]⟩
noncomputable def c3V (w1:c9) (out1:List g8):Option ((List g8)×c9) :=
  some (out1,w1)
theorem d8c (r:(List g8)×c9) (w1:c9) (out1:List g8) (h:c3V w1 out1=some r):b8 cx J9.X (J9.R r) (J9.O r) b5N (b7D w1 out1) :=
  P0<|rg<|j3 out1<|fe J9.h h
noncomputable def b1m:List Item:=J9.k 3 []
noncomputable def b1D (n:Int) (r_1:c9) (out:List g8) (Told:List e9) (Asked:List j9) (Net:List a8) (Nodes:List a6) (i:Int):St:=⟨(.ptr 0 0 0::(bs 1 (vi n::(bs 1 (.ptr 1 0 0::(bs 2 (.own 2 0 3 0 out.length::(vi i::(bs 21 []))))))))),[some [.var 64 [a0 1 E2 r_1.b,vi r_1.p],.dead,.dead,.dead,.dead],some [.var 46 [.own 6 0 27 0 Nodes.length,.own 5 0 13 0 Net.length,.own 4 0 3 0 Asked.length,.own 3 0 5 0 Told.length]],some [d8 80 3 H9 out],some [d8 109 5 p6 Told],some [d8 105 3 t6 Asked],some [d8 103 13 m9 Net],some [x8 74 27 n4 Nodes]]⟩
noncomputable def c6u:List Item:=J9.k 8 [true,true]
noncomputable def c58 (n:Int) (out:List g8) (i:Int) (v9:g8×c9×f0) (p7:List a6) (t5:List a8) (C0:List j9) (C1:List e9):St:=⟨(.ptr 0 0 0::(bs 1 (vi n::(bs 1 (.ptr 1 0 0::(bs 2 (.own 6 0 3 0 (out++[v9.1]).length::(vi i::(bs 21 []))))))))),[some [.var 64 [a0 1 E2 v9.2.1.b,vi v9.2.1.p],.dead,.dead,.dead,.dead],some [.var 46 [.own 2 0 27 0 p7.length,.own 3 0 13 0 t5.length,.own 4 0 3 0 C0.length,.own 5 0 5 0 C1.length]],some [x8 74 27 n4 p7],some [d8 103 13 m9 t5],some [d8 105 3 t6 C0],some [d8 109 5 p6 C1],some [d8 80 3 H9 (out++[v9.1])]]⟩
noncomputable def b8l (out:List g8) (i:Int) (v9:g8×c9×f0) (p7:List a6) (t5:List a8) (C0:List j9) (C1:List e9):Option (b6 ((List g8)×c9) (c9×(List g8)×(List e9)×(List j9)×(List a8)×(List a6)×Int) (c9×List g8)) :=
  some (b6.nxt (v9.2.1,out++[v9.1],C1,C0,t5,p7,i7 (i+1)))
theorem d1R (n:Int) (out:List g8) (i:Int) (v9:g8×c9×f0) (res:V) (outs:List (Option V)) (x1:b7 ((List g8)×c9) (c9×List g8)) (hb1:HB cx J9.X res outs x1 b5N (fun s=>b7D s.1 s.2)) (hr1:HR res outs x1 J9.R J9.O) (st1:b6 ((List g8)×c9) (c9×(List g8)×(List e9)×(List j9)×(List a8)×(List a6)×Int) (c9×List g8)) (hc1:n9 x1 (fun s:c9×(List g8)×(List e9)×(List j9)×(List a8)×(List a6)×Int=>b8 cx J9.X res outs b1m (b1D n s.1 s.2.1 s.2.2.1 s.2.2.2.1 s.2.2.2.2.1 s.2.2.2.2.2.1 s.2.2.2.2.2.2)) st1) (p7:List a6) (t5:List a8) (C0:List j9) (C1:List e9) (h:b8l out i v9 p7 t5 C0 C1=some st1):b8 cx J9.X res outs c6u (c58 n out i v9 p7 t5 C0 C1) :=
  P0<|rg<|(u0 h hc1 fun hI=>sg [] [0,2,4,7,8] [(1,0),(6,0),(5,0),(4,0),(3,0),(2,0)] hI)
noncomputable def b19 (n:Int) (r_1:c9) (out:List g8) (Told:List e9) (Asked:List j9) (Net:List a8) (Nodes:List a6) (i:Int):Option (b6 ((List g8)×c9) (c9×(List g8)×(List e9)×(List j9)×(List a8)×(List a6)×Int) (c9×List g8)) :=
  (bif decide (i<n) then ((b06 r_1 (f0.mk Nodes Net Asked Told)).bind fun v9=>(n8 (Nodes.length=v9.2.2.Nodes.length) ((n8 (Net.length=v9.2.2.Net.length) ((n8 (Asked.length=v9.2.2.Asked.length) ((n8 (Told.length=v9.2.2.Told.length) ((n8 ((out.length+1) * 40≤140737488355328) (((((b0M v9.2.2).bind fun L4=>(bif L4 then ((a88 v9.2.2).bind fun Z7=>((a6Q Z7 v9.1).bind fun W7=>some (b7.brk (W7.Nodes,W7.Net,W7.Asked,W7.Told)))) else some (b7.brk (v9.2.2.Nodes,v9.2.2.Net,v9.2.2.Asked,v9.2.2.Told)))):Option (b7 (b6 ((List g8)×c9) (c9×(List g8)×(List e9)×(List j9)×(List a8)×(List a6)×Int) (c9×List g8)) ((List a6)×(List a8)×(List j9)×List e9))).bind fun x=>x.go some fun j=>b8l out i v9 j.1 j.2.1 j.2.2.1 j.2.2.2)))))))))))) else some (b6.brk (r_1,out)))
set_option maxRecDepth 20000 in
theorem d5p (n:Int) (res:V) (outs:List (Option V)) (x1:b7 ((List g8)×c9) (c9×List g8)) (hb1:HB cx J9.X res outs x1 b5N (fun s=>b7D s.1 s.2)) (hr1:HR res outs x1 J9.R J9.O) (st1:b6 ((List g8)×c9) (c9×(List g8)×(List e9)×(List j9)×(List a8)×(List a6)×Int) (c9×List g8)) (hc1:n9 x1 (fun s:c9×(List g8)×(List e9)×(List j9)×(List a8)×(List a6)×Int=>b8 cx J9.X res outs b1m (b1D n s.1 s.2.1 s.2.2.1 s.2.2.2.1 s.2.2.2.2.1 s.2.2.2.2.2.1 s.2.2.2.2.2.2)) st1) (r_1:c9) (out:List g8) (Told:List e9) (Asked:List j9) (Net:List a8) (Nodes:List a6) (i:Int) (h:b19 n r_1 out Told Asked Net Nodes i=some st1):b8 cx J9.X res outs b1m (b1D n r_1 out Told Asked Net Nodes i) :=
  P0<|rg<|a9 2 h (fun h=>rg<|d6 a0F d1A 2 h fun v9 h=>o8 h fun e1 h=>o8 h fun e2 h=>o8 h fun e3 h=>o8 h fun e4 h=>j5 Nodes Net Asked Told<|rg<|j3 v9.1.Prog<|tl (2,{ a:=.ck [none,none,some 4] })<|o8 h fun e5 h=>J8 3 18 80 3 40 H9 out v9.1 e5<|om (1=[v9.1].length) (by rfl)<|A9 (I:=fun j:(List a6)×(List a8)×(List j9)×List e9=>b8 cx J9.X res outs c6u (c58 n out i v9 j.1 j.2.1 j.2.2.1 j.2.2.2)) h (fun j h=>d1R n out i v9 res outs x1 hb1 hr1 st1 hc1 j.1 j.2.1 j.2.2.1 j.2.2.2 h) (fun x2 h hc2=>rg<|D9 h fun L4 c0b h=>cdT (r9.t 1 true L4) h (fun _ h=>om (l8 cx.P 24 [.agg [.sl 27 v9.2.2.Nodes.length (Z1 (v9.2.2.Nodes.map n4)),a0 13 m9 v9.2.2.Net,a0 3 t6 v9.2.2.Asked,a0 5 p6 v9.2.2.Told]] (r9.R L4) (r9.O L4)) (by simp only [a7q a9f]; exact (b77 L4 c0b))<|om (B9 (r9.R L4)∧H1 (r9.O L4)) ⟨rfl,K1 1⟩<|om (Nodes.length=v9.2.2.Nodes.length) (by first | (simp; done) | (simp [e1,e2,e3,e4]; done))<|om (Net.length=v9.2.2.Net.length) (by first | (simp; done) | (simp [e1,e2,e3,e4]; done))<|om (Asked.length=v9.2.2.Asked.length) (by first | (simp; done) | (simp [e1,e2,e3,e4]; done))<|om (Told.length=v9.2.2.Told.length) (by first | (simp; done) | (simp [e1,e2,e3,e4]; done))<|rg<|D9 h fun Z7 d75 h=>om (l8 cx.P 25 [.agg [.sl 27 v9.2.2.Nodes.length (Z1 (v9.2.2.Nodes.map n4)),a0 13 m9 v9.2.2.Net,a0 3 t6 v9.2.2.Asked,a0 5 p6 v9.2.2.Told]] (z8.R Z7) (z8.O Z7)) (by simp only [a7q a9f]; exact (c8d Z7 d75))<|om (Nodes.length=v9.2.2.Nodes.length) (by first | (simp; done) | (simp [e1,e2,e3,e4]; done))<|om (Net.length=v9.2.2.Net.length) (by first | (simp; done) | (simp [e1,e2,e3,e4]; done))<|om (Asked.length=v9.2.2.Asked.length) (by first | (simp; done) | (simp [e1,e2,e3,e4]; done))<|om (Told.length=v9.2.2.Told.length) (by first | (simp; done) | (simp [e1,e2,e3,e4]; done))<|tl (z8.t 1 false Z7)<|d6 a1z b9R 3 h fun W7 h=>j5 Z7.Nodes Z7.Net Z7.Asked Z7.Told<|j3 v9.1.Prog<|(m7 h hc2 fun hI=>sg [] [0,2,4,7,8] [(1,0),(25,0),(25,1),(25,2),(25,3),(18,0)] hI)) (fun _ h=>om (l8 cx.P 24 [.agg [.sl 27 v9.2.2.Nodes.length (Z1 (v9.2.2.Nodes.map n4)),a0 13 m9 v9.2.2.Net,a0 3 t6 v9.2.2.Asked,a0 5 p6 v9.2.2.Told]] (r9.R L4) (r9.O L4)) (by simp only [a7q a9f]; exact (b77 L4 c0b))<|om (B9 (r9.R L4)∧H1 (r9.O L4)) ⟨rfl,K1 1⟩<|om (Nodes.length=v9.2.2.Nodes.length) (by first | (simp; done) | (simp [e1,e2,e3,e4]; done))<|om (Net.length=v9.2.2.Net.length) (by first | (simp; done) | (simp [e1,e2,e3,e4]; done))<|om (Asked.length=v9.2.2.Asked.length) (by first | (simp; done) | (simp [e1,e2,e3,e4]; done))<|om (Told.length=v9.2.2.Told.length) (by first | (simp; done) | (simp [e1,e2,e3,e4]; done))<|(m7 h hc2 fun hI=>om ((.own 6 0 27 0 Nodes.length:V) = .own 6 0 27 0 v9.2.2.Nodes.length) (by first | (simp; done) | (simp [e1,e2,e3,e4]; done))<|om ((.own 5 0 13 0 Net.length:V) = .own 5 0 13 0 v9.2.2.Net.length) (by first | (simp; done) | (simp [e1,e2,e3,e4]; done))<|om ((.own 4 0 3 0 Asked.length:V) = .own 4 0 3 0 v9.2.2.Asked.length) (by first | (simp; done) | (simp [e1,e2,e3,e4]; done))<|om ((.own 3 0 5 0 Told.length:V) = .own 3 0 5 0 v9.2.2.Told.length) (by first | (simp; done) | (simp [e1,e2,e3,e4]; done))<|sg [.is (.cell 1 0 0) (.own 6 0 27 0 v9.2.2.Nodes.length),.is (.cell 1 0 1) (.own 5 0 13 0 v9.2.2.Net.length),.is (.cell 1 0 2) (.own 4 0 3 0 v9.2.2.Asked.length),.is (.cell 1 0 3) (.own 3 0 5 0 v9.2.2.Told.length)] [0,2,4,7,8] [(1,0),(6,0),(5,0),(4,0),(3,0),(18,0)] hI)))) (fun h=>(t0 h hc1 fun e=>sg [] [7] [(2,0)] (hb1 _ e)))
noncomputable def b3Z (r_:c9) (w:f0) (n:Int):Option ((List g8)×c9) :=
  ((m5 (fun s:c9×(List g8)×(List e9)×(List j9)×(List a8)×(List a6)×Int=>b19 n s.1 s.2.1 s.2.2.1 s.2.2.2.1 s.2.2.2.2.1 s.2.2.2.2.2.1 s.2.2.2.2.2.2) (r_,([]:List g8),w.Told,w.Asked,w.Net,w.Nodes,0)).bind fun x=>x.go (fun r=>some r) fun s=>c3V s.1 s.2)
theorem d2N {r_:c9} {w:f0} {n:Int} (r:(List g8)×c9) (h:b3Z r_ w n=some r):l8 cx.P 29 [.optr 64 (S8 r_),.agg [K6 74 27 n4 w.Nodes,b9 103 13 m9 w.Net,b9 105 3 t6 w.Asked,b9 109 5 p6 w.Told],vi n] (J9.R r) (J9.O r) :=
  m8 J9.X J9.c J9.h (fun z=>m6<|tl (0,{ a:=.ck [none,none,some 4] })<|rg<|u7 h fun x hl hr hb=>om ((.own 3 0 3 0 0:V) = .own 3 0 3 0 ([]:List g8).length) (by simp)<|sg [.is (.tmp 7) (.own 3 0 3 0 ([]:List g8).length)] [0,2,4,7,8] [(1,0),(3,0),(0,4),(0,3),(0,2),(0,1)] (u9 (I:=fun s:c9×(List g8)×(List e9)×(List j9)×(List a8)×(List a6)×Int=>b8 cx J9.X (J9.R r) (J9.O r) b1m (b1D n s.1 s.2.1 s.2.2.1 s.2.2.2.1 s.2.2.2.2.1 s.2.2.2.2.2.1 s.2.2.2.2.2.2)) hl fun s st h hc=>d5p n _ _ x (fun s e=>d8c r s.1 s.2 (hb s e)) (fun v e=>⟨congrArg J9.R (Option.some.inj (hr v e)).symm,congrArg J9.O (Option.some.inj (hr v e)).symm⟩) st hc s.1 s.2.1 s.2.2.1 s.2.2.2.1 s.2.2.2.2.1 s.2.2.2.2.2.1 s.2.2.2.2.2.2 h))
noncomputable def D1:FS (f0×(List g8)×c9):=⟨30,Tryz.f30,[.val a0m [some 1000074,some 103,some 105,some 109],.val [some 3] [some 80]],[some (0,.ptr [some 1,none] []),none,none],[.ptr [some 1,none] [],.val [some 27,some 13,some 3,some 5] [some 1000074,some 103,some 105,some 109],.val [some 3] [some 80]],fun r=>.tup [.agg [K6 74 27 n4 r.1.Nodes,b9 103 13 m9 r.1.Net,b9 105 3 t6 r.1.Asked,b9 109 5 p6 r.1.Told],b9 80 3 H9 r.2.1],fun r=>[some (.optr 64 (S8 r.2.2)),none,none],Tryz.func30⟩
noncomputable def b9t:List Item:=D1.k 4 [false]
noncomputable def b7m (pick:Int×c9) (num:Int×c9) (out2:List g8) (p7:List a6) (t5:List a8) (C0:List j9) (C1:List e9):St:=⟨(.ptr 0 0 0::(bs 1 (.own 1 0 3 0 out2.length::(bs 1 (.ptr 2 0 0::(bs 1 (.ptr 7 0 0::(bs 1 (vi pick.1::(bs 52 [])))))))))),[some [.var 64 [a0 1 E2 num.2.b,vi num.2.p],.dead,.dead,.dead,.dead,.dead],some [d8 80 3 H9 out2],some [.var 46 [.own 3 0 27 0 p7.length,.own 4 0 13 0 t5.length,.own 5 0 3 0 C0.length,.own 6 0 5 0 C1.length]],some [x8 74 27 n4 p7],some [d8 103 13 m9 t5],some [d8 105 3 t6 C0],some [d8 109 5 p6 C1],some [.var 46 [.nil,.nil,.nil,.nil]]]⟩
noncomputable def c55:List Item:=D1.k 6 [false,true]
noncomputable def c2e (pick:Int×c9) (w1:c9) (B6:List g8) (R5:List a6) (P4:List a8) (S4:List j9) (S7:List e9):St:=⟨(bs 2 (.own 1 0 3 0 B6.length::(bs 1 (.ptr 2 0 0::(bs 1 (.ptr 7 0 0::(bs 1 (vi pick.1::(bs 52 []))))))))),[some [.var 64 [a0 1 E2 w1.b,vi w1.p],.dead,.dead,.dead,.dead,.dead],some [d8 80 3 H9 B6],some [.var 46 [.own 3 0 27 0 R5.length,.own 4 0 13 0 P4.length,.own 5 0 3 0 S4.length,.own 6 0 5 0 S7.length]],some [x8 74 27 n4 R5],some [d8 103 13 m9 P4],some [d8 105 3 t6 S4],some [d8 109 5 p6 S7],some [.var 46 [.nil,.nil,.nil,.nil]]]⟩
noncomputable def b2I (pick:Int×c9) (w1:c9) (B6:List g8) (R5:List a6) (P4:List a8) (S4:List j9) (S7:List e9):Option (f0×(List g8)×c9) :=
  ((a04 (f0.mk R5 P4 S4 S7) B6 (g8.mk 7 pick.1 [])).bind fun H8=>some (H8.1,H8.2,w1))
theorem c83 (pick:Int×c9) (r:f0×(List g8)×c9) (w1:c9) (B6:List g8) (R5:List a6) (P4:List a8) (S4:List j9) (S7:List e9) (h:b2I pick w1 B6 R5 P4 S4 S7=some r):b8 cx D1.X (D1.R r) (D1.O r) c55 (c2e pick w1 B6 R5 P4 S4 S7) :=
  P0<|rg<|d6 Z2 a18 4 h fun H8 h=>j5 R5 P4 S4 S7<|j5 B6 H8.1.Nodes H8.1.Net H8.1.Asked<|G4 H8.1.Told H8.2<|fe D1.h h
noncomputable def b5t (pick:Int×c9) (num:Int×c9) (out2:List g8) (p7:List a6) (t5:List a8) (C0:List j9) (C1:List e9):Option (f0×(List g8)×c9) :=
  (((bif decide ((t5.length:Int)>0) then ((A7 num.2 (t5.length:Int)).bind fun x5=>((a04 (f0.mk p7 t5 C0 C1) out2 (g8.mk 2 x5.1 [])).bind fun a1s=>some (b7.brk (x5.2,a1s.2,a1s.1.Nodes,a1s.1.Net,a1s.1.Asked,a1s.1.Told)))) else some (b7.brk (num.2,out2,p7,t5,C0,C1))):Option (b7 (f0×(List g8)×c9) (c9×(List g8)×(List a6)×(List a8)×(List j9)×List e9))).bind fun x=>x.go some fun j=>b2I pick j.1 j.2.1 j.2.2.1 j.2.2.2.1 j.2.2.2.2.1 j.2.2.2.2.2)
theorem d7A (pick:Int×c9) (num:Int×c9) (r:f0×(List g8)×c9) (out2:List g8) (p7:List a6) (t5:List a8) (C0:List j9) (C1:List e9) (h:b5t pick num out2 p7 t5 C0 C1=some r):b8 cx D1.X (D1.R r) (D1.O r) b9t (b7m pick num out2 p7 t5 C0 C1) :=
  P0<|A9 (I:=fun j:c9×(List g8)×(List a6)×(List a8)×(List j9)×List e9=>b8 cx D1.X (D1.R r) (D1.O r) c55 (c2e pick j.1 j.2.1 j.2.2.1 j.2.2.2.1 j.2.2.2.2.1 j.2.2.2.2.2)) h (fun j h=>c83 pick r j.1 j.2.1 j.2.2.1 j.2.2.2.1 j.2.2.2.2.1 j.2.2.2.2.2 h) (fun x1 h hc1=>rg<|a9 3 h (fun h=>rg<|d6 A2 B3 6 h fun x5 h=>d6 Z2 a18 8 h fun a1s h=>j5 p7 t5 C0 C1<|j3 out2<|(m7 h hc1 fun hI=>sg [] [2,4,6,8] [(20,4),(2,0),(20,0),(20,1),(20,2),(20,3),(7,0)] hI)) (fun h=>(m7 h hc1 fun hI=>sg [] [2,4,6,8] [(1,0),(2,0),(3,0),(4,0),(5,0),(6,0),(7,0)] hI)))
noncomputable def b1y:List Item:=D1.k 3 []
noncomputable def b2R (pick:Int×c9) (num:Int×c9) (Told:List e9) (Asked:List j9) (Net:List a8) (Nodes:List a6) (out1:List g8) (i:Int):St:=⟨(.ptr 0 0 0::(bs 1 (.own 7 0 3 0 out1.length::(bs 1 (.ptr 1 0 0::(bs 1 (.ptr 2 0 0::(bs 1 (vi pick.1::(vi i::(bs 51 []))))))))))),[some [.var 64 [a0 1 E2 num.2.b,vi num.2.p],.dead,.dead,.dead,.dead,.dead],some [.var 46 [.own 6 0 27 0 Nodes.length,.own 5 0 13 0 Net.length,.own 4 0 3 0 Asked.length,.own 3 0 5 0 Told.length]],some [.var 46 [.nil,.nil,.nil,.nil]],some [d8 109 5 p6 Told],some [d8 105 3 t6 Asked],some [d8 103 13 m9 Net],some [x8 74 27 n4 Nodes],some [d8 80 3 H9 out1]]⟩
noncomputable def c7B:List Item:=D1.k 5 [true,false]
noncomputable def c02 (pick:Int×c9) (num:Int×c9) (i:Int) (Y9:List g8) (X5:List a6) (Y4:List a8) (Y0:List j9) (Y2:List e9):St:=⟨(.ptr 0 0 0::(bs 1 (.own 1 0 3 0 Y9.length::(bs 1 (.ptr 2 0 0::(bs 1 (.ptr 7 0 0::(bs 1 (vi pick.1::(vi i::(bs 51 []))))))))))),[some [.var 64 [a0 1 E2 num.2.b,vi num.2.p],.dead,.dead,.dead,.dead,.dead],some [d8 80 3 H9 Y9],some [.var 46 [.own 3 0 27 0 X5.length,.own 4 0 13 0 Y4.length,.own 5 0 3 0 Y0.length,.own 6 0 5 0 Y2.length]],some [x8 74 27 n4 X5],some [d8 103 13 m9 Y4],some [d8 105 3 t6 Y0],some [d8 109 5 p6 Y2],some [.var 46 [.nil,.nil,.nil,.nil]]]⟩
noncomputable def b5p (pick:Int×c9) (i:Int) (Y9:List g8) (X5:List a6) (Y4:List a8) (Y0:List j9) (Y2:List e9):Option (b6 (f0×(List g8)×c9) ((List e9)×(List j9)×(List a8)×(List a6)×(List g8)×Int) ((List g8)×(List a6)×(List a8)×(List j9)×List e9)) :=
  ((a04 (f0.mk X5 Y4 Y0 Y2) Y9 (g8.mk 5 pick.1 [])).bind fun a1d=>some (b6.nxt (a1d.1.Told,a1d.1.Asked,a1d.1.Net,a1d.1.Nodes,a1d.2,i7 (i - 1))))
theorem d6L (pick:Int×c9) (num:Int×c9) (i:Int) (res:V) (outs:List (Option V)) (x1:b7 (f0×(List g8)×c9) ((List g8)×(List a6)×(List a8)×(List j9)×List e9)) (hb1:HB cx D1.X res outs x1 b9t (fun s=>b7m pick num s.1 s.2.1 s.2.2.1 s.2.2.2.1 s.2.2.2.2)) (hr1:HR res outs x1 D1.R D1.O) (st1:b6 (f0×(List g8)×c9) ((List e9)×(List j9)×(List a8)×(List a6)×(List g8)×Int) ((List g8)×(List a6)×(List a8)×(List j9)×List e9)) (hc1:n9 x1 (fun s:(List e9)×(List j9)×(List a8)×(List a6)×(List g8)×Int=>b8 cx D1.X res outs b1y (b2R pick num s.1 s.2.1 s.2.2.1 s.2.2.2.1 s.2.2.2.2.1 s.2.2.2.2.2)) st1) (Y9:List g8) (X5:List a6) (Y4:List a8) (Y0:List j9) (Y2:List e9) (h:b5p pick i Y9 X5 Y4 Y0 Y2=some st1):b8 cx D1.X res outs c7B (c02 pick num i Y9 X5 Y4 Y0 Y2) :=
  P0<|rg<|d6 Z2 a18 4 h fun a1d h=>j5 X5 Y4 Y0 Y2<|j3 Y9<|rg<|(u0 h hc1 fun hI=>sg [] [0,2,4,6,8,9] [(2,0),(7,0),(12,3),(12,2),(12,1),(12,0),(12,4)] hI)
noncomputable def b5g:List Item:=D1.k 4 [true]
noncomputable def b52 (pick:Int×c9) (num:Int×c9) (i:Int) (E7:List g8) (R6:List a6) (Q9:List a8) (T1:List j9) (T3:List e9):St:=⟨(.ptr 0 0 0::(bs 1 (.own 1 0 3 0 E7.length::(bs 1 (.ptr 2 0 0::(bs 1 (.ptr 7 0 0::(bs 1 (vi pick.1::(vi i::(bs 51 []))))))))))),[some [.var 64 [a0 1 E2 num.2.b,vi num.2.p],.dead,.dead,.dead,.dead,.dead],some [d8 80 3 H9 E7],some [.var 46 [.own 3 0 27 0 R6.length,.own 4 0 13 0 Q9.length,.own 5 0 3 0 T1.length,.own 6 0 5 0 T3.length]],some [x8 74 27 n4 R6],some [d8 103 13 m9 Q9],some [d8 105 3 t6 T1],some [d8 109 5 p6 T3],some [.var 46 [.nil,.nil,.nil,.nil]]]⟩
noncomputable def a4n (E7:List g8) (R6:List a6) (Q9:List a8) (T1:List j9) (T3:List e9):Option (b6 (f0×(List g8)×c9) ((List g8)×(List a6)×(List a8)×(List j9)×List e9) ((List g8)×(List a6)×(List a8)×(List j9)×List e9)) :=
  (bif decide ((Q9.length:Int)>0) then ((a04 (f0.mk R6 Q9 T1 T3) E7 (g8.mk 3 0 [])).bind fun a1o=>some (b6.nxt (a1o.2,a1o.1.Nodes,a1o.1.Net,a1o.1.Asked,a1o.1.Told))) else some (b6.brk (E7,R6,Q9,T1,T3)))
theorem d9e (pick:Int×c9) (num:Int×c9) (i:Int) (res:V) (outs:List (Option V)) (x2:b7 (f0×(List g8)×c9) ((List g8)×(List a6)×(List a8)×(List j9)×List e9)) (hb2:HB cx D1.X res outs x2 c7B (fun s=>c02 pick num i s.1 s.2.1 s.2.2.1 s.2.2.2.1 s.2.2.2.2)) (hr2:HR res outs x2 D1.R D1.O) (st2:b6 (f0×(List g8)×c9) ((List g8)×(List a6)×(List a8)×(List j9)×List e9) ((List g8)×(List a6)×(List a8)×(List j9)×List e9)) (hc2:n9 x2 (fun s:(List g8)×(List a6)×(List a8)×(List j9)×List e9=>b8 cx D1.X res outs b5g (b52 pick num i s.1 s.2.1 s.2.2.1 s.2.2.2.1 s.2.2.2.2)) st2) (E7:List g8) (R6:List a6) (Q9:List a8) (T1:List j9) (T3:List e9) (h:a4n E7 R6 Q9 T1 T3=some st2):b8 cx D1.X res outs b5g (b52 pick num i E7 R6 Q9 T1 T3) :=
  P0<|rg<|a9 3 h (fun h=>rg<|d6 Z2 a18 3 h fun a1o h=>j5 R6 Q9 T1 T3<|j3 E7<|(u0 h hc2 fun hI=>sg [] [0,2,4,6,8,9] [(15,4),(2,0),(15,0),(15,1),(15,2),(15,3),(7,0)] hI)) (fun h=>(t0 h hc2 fun e=>sg [] [0,2,4,6,8,9] [(1,0),(2,0),(3,0),(4,0),(5,0),(6,0),(7,0)] (hb2 _ e)))
noncomputable def a6N (pick:Int×c9) (Told:List e9) (Asked:List j9) (Net:List a8) (Nodes:List a6) (out1:List g8) (i:Int):Option (b6 (f0×(List g8)×c9) ((List e9)×(List j9)×(List a8)×(List a6)×(List g8)×Int) ((List g8)×(List a6)×(List a8)×(List j9)×List e9)) :=
  (bif decide (i>0) then ((m5 (fun s:(List g8)×(List a6)×(List a8)×(List j9)×List e9=>a4n s.1 s.2.1 s.2.2.1 s.2.2.2.1 s.2.2.2.2) (out1,Nodes,Net,Asked,Told)).bind fun x=>x.go (fun r=>some (b6.ret r)) fun s=>b5p pick i s.1 s.2.1 s.2.2.1 s.2.2.2.1 s.2.2.2.2) else some (b6.brk (out1,Nodes,Net,Asked,Told)))
theorem d6p (pick:Int×c9) (num:Int×c9) (res:V) (outs:List (Option V)) (x1:b7 (f0×(List g8)×c9) ((List g8)×(List a6)×(List a8)×(List j9)×List e9)) (hb1:HB cx D1.X res outs x1 b9t (fun s=>b7m pick num s.1 s.2.1 s.2.2.1 s.2.2.2.1 s.2.2.2.2)) (hr1:HR res outs x1 D1.R D1.O) (st1:b6 (f0×(List g8)×c9) ((List e9)×(List j9)×(List a8)×(List a6)×(List g8)×Int) ((List g8)×(List a6)×(List a8)×(List j9)×List e9)) (hc1:n9 x1 (fun s:(List e9)×(List j9)×(List a8)×(List a6)×(List g8)×Int=>b8 cx D1.X res outs b1y (b2R pick num s.1 s.2.1 s.2.2.1 s.2.2.2.1 s.2.2.2.2.1 s.2.2.2.2.2)) st1) (Told:List e9) (Asked:List j9) (Net:List a8) (Nodes:List a6) (out1:List g8) (i:Int) (h:a6N pick Told Asked Net Nodes out1 i=some st1):b8 cx D1.X res outs b1y (b2R pick num Told Asked Net Nodes out1 i) :=
  P0<|rg<|a9 1 h (fun h=>u7 h fun x hl hr hb=>sg [] [0,2,4,6,8,9] [(7,0),(1,0),(6,0),(5,0),(4,0),(3,0),(2,0)] (u9 (I:=fun s:(List g8)×(List a6)×(List a8)×(List j9)×List e9=>b8 cx D1.X res outs b5g (b52 pick num i s.1 s.2.1 s.2.2.1 s.2.2.2.1 s.2.2.2.2)) hl fun s st h hc=>d9e pick num i _ _ x (fun s e=>d6L pick num i res outs x1 hb1 hr1 st1 hc1 s.1 s.2.1 s.2.2.1 s.2.2.2.1 s.2.2.2.2 (hb s e)) (fun v e=>(hr1 _ (b1h (hr v e) hc1))) st hc s.1 s.2.1 s.2.2.1 s.2.2.2.1 s.2.2.2.2 h)) (fun h=>(t0 h hc1 fun e=>sg [] [0,2,4,6,8] [(7,0),(1,0),(6,0),(5,0),(4,0),(3,0),(2,0)] (hb1 _ e)))
noncomputable def b1u (r_:c9) (w:f0) (out:List g8):Option (f0×(List g8)×c9) :=
  ((A7 r_ 3).bind fun pick=>((a2Q pick.2 [3,8,20]).bind fun num=>((m5 (fun s:(List e9)×(List j9)×(List a8)×(List a6)×(List g8)×Int=>a6N pick s.1 s.2.1 s.2.2.1 s.2.2.2.1 s.2.2.2.2.1 s.2.2.2.2.2) (w.Told,w.Asked,w.Net,w.Nodes,out,num.1)).bind fun x=>x.go (fun r=>some r) fun s=>b5t pick num s.1 s.2.1 s.2.2.1 s.2.2.2.1 s.2.2.2.2)))
theorem c9s {r_:c9} {w:f0} {out:List g8} (r:f0×(List g8)×c9) (h:b1u r_ w out=some r):l8 cx.P 30 [.optr 64 (S8 r_),.agg [K6 74 27 n4 w.Nodes,b9 103 13 m9 w.Net,b9 105 3 t6 w.Asked,b9 109 5 p6 w.Told],b9 80 3 H9 out] (D1.R r) (D1.O r) :=
  m8 D1.X D1.c D1.h (fun z=>m6<|d6 A2 B3 1 h fun pick h=>rg<|tl (1,{ a:=.ck [] })<|d6 a1R a5y 2 h fun num h=>om (3=[3,8,20].length) (by simp)<|u7 h fun x hl hr hb=>sg [] [0,2,4,6,8,9] [(1,0),(2,0),(0,4),(0,3),(0,2),(0,1),(0,5)] (u9 (I:=fun s:(List e9)×(List j9)×(List a8)×(List a6)×(List g8)×Int=>b8 cx D1.X (D1.R r) (D1.O r) b1y (b2R pick num s.1 s.2.1 s.2.2.1 s.2.2.2.1 s.2.2.2.2.1 s.2.2.2.2.2)) hl fun s st h hc=>d6p pick num _ _ x (fun s e=>d7A pick num r s.1 s.2.1 s.2.2.1 s.2.2.2.1 s.2.2.2.2 (hb s e)) (fun v e=>⟨congrArg D1.R (Option.some.inj (hr v e)).symm,congrArg D1.O (Option.some.inj (hr v e)).symm⟩) st hc s.1 s.2.1 s.2.2.1 s.2.2.2.1 s.2.2.2.2.1 s.2.2.2.2.2 h))
noncomputable def z6:FS ((List g8)×c9):=⟨13,Tryz.f13,[.val [some 3] [some 80]],[some (0,.ptr [some 1,none] [])],[.ptr [some 1,none] []],fun r=>b9 80 3 H9 r.1,fun r=>[some (.optr 64 (S8 r.2))],Tryz.func13⟩
noncomputable def c1J:List Item:=z6.k 5 [false,true]
noncomputable def c4N (r_1:c9) (Nodes:List a6) (Net:List a8) (Asked:List j9) (Told:List e9) (out:List g8):St:=⟨(.ptr 0 0 0::(bs 2 (.ptr 1 0 0::(.own 6 0 3 0 out.length::(bs 126 []))))),[some [.var 64 [a0 1 E2 r_1.b,vi r_1.p]],some [.var 46 [.own 2 0 27 0 Nodes.length,.own 3 0 13 0 Net.length,.own 4 0 3 0 Asked.length,.own 5 0 5 0 Told.length]],some [x8 74 27 n4 Nodes],some [d8 103 13 m9 Net],some [d8 105 3 t6 Asked],some [d8 109 5 p6 Told],some [d8 80 3 H9 out]]⟩
noncomputable def b2y:List Item:=z6.k 7 [false,true,false]
noncomputable def b4s (w:c9) (out2:List g8):St:=⟨(bs 4 (.own 1 0 3 0 out2.length::(bs 126 []))),[some [.var 64 [a0 1 E2 w.b,vi w.p]],some [d8 80 3 H9 out2]]⟩
noncomputable def c7c (w:c9) (out2:List g8):Option ((List g8)×c9) :=
  some (out2,w)
theorem d4F (r:(List g8)×c9) (w:c9) (out2:List g8) (h:c7c w out2=some r):b8 cx z6.X (z6.R r) (z6.O r) b2y (b4s w out2) :=
  P0<|rg<|j3 out2<|fe z6.h h
noncomputable def a9i:List Item:=z6.k 6 [false,true]
noncomputable def b0F (r_2:c9) (p7:List a6) (t5:List a8) (C0:List j9) (C1:List e9) (out1:List g8) (i:Int):St:=⟨(.ptr 0 0 0::(bs 2 (.ptr 1 0 0::(.own 6 0 3 0 out1.length::(vi i::(bs 125 [])))))),[some [.var 64 [a0 1 E2 r_2.b,vi r_2.p]],some [.var 46 [.own 2 0 27 0 p7.length,.own 3 0 13 0 t5.length,.own 4 0 3 0 C0.length,.own 5 0 5 0 C1.length]],some [x8 74 27 n4 p7],some [d8 103 13 m9 t5],some [d8 105 3 t6 C0],some [d8 109 5 p6 C1],some [d8 80 3 H9 out1]]⟩
noncomputable def b6Q:List Item:=z6.k 9 [false,true,true,false]
noncomputable def b68 (i:Int) (r_4:c9) (R6:List a6) (Q9:List a8) (T1:List j9) (T3:List e9) (E7:List g8):St:=⟨(.ptr 0 0 0::(bs 2 (.ptr 1 0 0::(.own 6 0 3 0 E7.length::(vi i::(bs 125 [])))))),[some [.var 64 [a0 1 E2 r_4.b,vi r_4.p]],some [.var 46 [.own 2 0 27 0 R6.length,.own 3 0 13 0 Q9.length,.own 4 0 3 0 T1.length,.own 5 0 5 0 T3.length]],some [x8 74 27 n4 R6],some [d8 103 13 m9 Q9],some [d8 105 3 t6 T1],some [d8 109 5 p6 T3],some [d8 80 3 H9 E7]]⟩
noncomputable def c7I:List Item:=z6.k 12 [false,true,true,false,true]
noncomputable def c7k (i:Int) (r_5:c9) (X5:List a6) (Y4:List a8) (Y0:List j9) (Y2:List e9) (Y9:List g8):St:=⟨(.ptr 0 0 0::(bs 2 (.ptr 1 0 0::(.own 6 0 3 0 Y9.length::(vi i::(bs 125 [])))))),[some [.var 64 [a0 1 E2 r_5.b,vi r_5.p]],some [.var 46 [.own 2 0 27 0 X5.length,.own 3 0 13 0 Y4.length,.own 4 0 3 0 Y0.length,.own 5 0 5 0 Y2.length]],some [x8 74 27 n4 X5],some [d8 103 13 m9 Y4],some [d8 105 3 t6 Y0],some [d8 109 5 p6 Y2],some [d8 80 3 H9 Y9]]⟩
noncomputable def b1z (i:Int) (r_5:c9) (X5:List a6) (Y4:List a8) (Y0:List j9) (Y2:List e9) (Y9:List g8):Option (b6 ((List g8)×c9) (c9×(List a6)×(List a8)×(List j9)×(List e9)×(List g8)×Int) (c9×List g8)) :=
  ((A7 r_5 3).bind fun a2c=>((a04 (f0.mk X5 Y4 Y0 Y2) Y9 (g8.mk 6 a2c.1 [])).bind fun a1d=>some (b6.nxt (a2c.2,a1d.1.Nodes,a1d.1.Net,a1d.1.Asked,a1d.1.Told,a1d.2,i7 (i - 1)))))
theorem d7p (i:Int) (res:V) (outs:List (Option V)) (x1:b7 ((List g8)×c9) (c9×List g8)) (hb1:HB cx z6.X res outs x1 b2y (fun s=>b4s s.1 s.2)) (hr1:HR res outs x1 z6.R z6.O) (st1:b6 ((List g8)×c9) (c9×(List a6)×(List a8)×(List j9)×(List e9)×(List g8)×Int) (c9×List g8)) (hc1:n9 x1 (fun s:c9×(List a6)×(List a8)×(List j9)×(List e9)×(List g8)×Int=>b8 cx z6.X res outs a9i (b0F s.1 s.2.1 s.2.2.1 s.2.2.2.1 s.2.2.2.2.1 s.2.2.2.2.2.1 s.2.2.2.2.2.2)) st1) (r_5:c9) (X5:List a6) (Y4:List a8) (Y0:List j9) (Y2:List e9) (Y9:List g8) (h:b1z i r_5 X5 Y4 Y0 Y2 Y9=some st1):b8 cx z6.X res outs c7I (c7k i r_5 X5 Y4 Y0 Y2 Y9) :=
  P0<|rg<|d6 A2 B3 3 h fun a2c h=>d6 Z2 a18 5 h fun a1d h=>j5 X5 Y4 Y0 Y2<|j3 Y9<|rg<|(u0 h hc1 fun hI=>sg [] [0,3,4,5] [(1,0),(12,0),(12,1),(12,2),(12,3),(12,4)] hI)
noncomputable def b5F (i:Int) (r_4:c9) (R6:List a6) (Q9:List a8) (T1:List j9) (T3:List e9) (E7:List g8):Option (b6 ((List g8)×c9) (c9×(List a6)×(List a8)×(List j9)×(List e9)×(List g8)×Int) (c9×List g8)) :=
  ((A7 r_4 4).bind fun V9=>(((bif (V9.1==0) then ((A7 V9.2 3).bind fun a5t=>((a04 (f0.mk R6 Q9 T1 T3) E7 (g8.mk 7 a5t.1 [])).bind fun a1o=>some (b7.brk (a5t.2,a1o.1.Nodes,a1o.1.Net,a1o.1.Asked,a1o.1.Told,a1o.2)))) else (bif (V9.1==1) then ((A7 V9.2 3).bind fun a6d=>((a04 (f0.mk R6 Q9 T1 T3) E7 (g8.mk 5 a6d.1 [])).bind fun a8I=>some (b7.brk (a6d.2,a8I.1.Nodes,a8I.1.Net,a8I.1.Asked,a8I.1.Told,a8I.2)))) else some (b7.brk (V9.2,R6,Q9,T1,T3,E7)))):Option (b7 (b6 ((List g8)×c9) (c9×(List a6)×(List a8)×(List j9)×(List e9)×(List g8)×Int) (c9×List g8)) (c9×(List a6)×(List a8)×(List j9)×(List e9)×List g8))).bind fun x=>x.go some fun j=>b1z i j.1 j.2.1 j.2.2.1 j.2.2.2.1 j.2.2.2.2.1 j.2.2.2.2.2))
set_option maxRecDepth 20000 in
theorem d7Z (i:Int) (res:V) (outs:List (Option V)) (x1:b7 ((List g8)×c9) (c9×List g8)) (hb1:HB cx z6.X res outs x1 b2y (fun s=>b4s s.1 s.2)) (hr1:HR res outs x1 z6.R z6.O) (st1:b6 ((List g8)×c9) (c9×(List a6)×(List a8)×(List j9)×(List e9)×(List g8)×Int) (c9×List g8)) (hc1:n9 x1 (fun s:c9×(List a6)×(List a8)×(List j9)×(List e9)×(List g8)×Int=>b8 cx z6.X res outs a9i (b0F s.1 s.2.1 s.2.2.1 s.2.2.2.1 s.2.2.2.2.1 s.2.2.2.2.2.1 s.2.2.2.2.2.2)) st1) (r_4:c9) (R6:List a6) (Q9:List a8) (T1:List j9) (T3:List e9) (E7:List g8) (h:b5F i r_4 R6 Q9 T1 T3 E7=some st1):b8 cx z6.X res outs b6Q (b68 i r_4 R6 Q9 T1 T3 E7) :=
  P0<|rg<|d6 A2 B3 1 h fun V9 h=>A9 (I:=fun j:c9×(List a6)×(List a8)×(List j9)×(List e9)×List g8=>b8 cx z6.X res outs c7I (c7k i j.1 j.2.1 j.2.2.1 j.2.2.2.1 j.2.2.2.2.1 j.2.2.2.2.2)) h (fun j h=>d7p i res outs x1 hb1 hr1 st1 hc1 j.1 j.2.1 j.2.2.1 j.2.2.2.1 j.2.2.2.2.1 j.2.2.2.2.2 h) (fun x2 h hc2=>rg<|a9 1 h (fun h=>rg<|d6 A2 B3 3 h fun a5t h=>d6 Z2 a18 5 h fun a1o h=>j5 R6 Q9 T1 T3<|j3 E7<|(m7 h hc2 fun hI=>sg [] [0,3,4,5] [(1,0),(16,0),(16,1),(16,2),(16,3),(16,4)] hI)) (fun h=>rg<|a9 1 h (fun h=>rg<|d6 A2 B3 3 h fun a6d h=>d6 Z2 a18 5 h fun a8I h=>j5 R6 Q9 T1 T3<|j3 E7<|(m7 h hc2 fun hI=>sg [] [0,3,4,5] [(1,0),(18,0),(18,1),(18,2),(18,3),(18,4)] hI)) (fun h=>(m7 h hc2 fun hI=>sg [] [0,3,4,5] [(1,0),(2,0),(3,0),(4,0),(5,0),(6,0)] hI))))
noncomputable def b4w:List Item:=z6.k 8 [false,true,true]
noncomputable def b2E (i:Int) (r_3:c9) (R5:List a6) (P4:List a8) (S4:List j9) (S7:List e9) (B6:List g8):St:=⟨(.ptr 0 0 0::(bs 2 (.ptr 1 0 0::(.own 6 0 3 0 B6.length::(vi i::(bs 125 [])))))),[some [.var 64 [a0 1 E2 r_3.b,vi r_3.p]],some [.var 46 [.own 2 0 27 0 R5.length,.own 3 0 13 0 P4.length,.own 4 0 3 0 S4.length,.own 5 0 5 0 S7.length]],some [x8 74 27 n4 R5],some [d8 103 13 m9 P4],some [d8 105 3 t6 S4],some [d8 109 5 p6 S7],some [d8 80 3 H9 B6]]⟩
noncomputable def c4m:List Item:=z6.k 11 [false,true,true,true,true]
noncomputable def c4V (i:Int) (r_6:c9) (a4a:List a6) (a3p:List a8) (a4c:List j9) (a30:List e9) (a4q:List g8):St:=⟨(.ptr 0 0 0::(bs 2 (.ptr 1 0 0::(.own 6 0 3 0 a4q.length::(vi i::(bs 125 [])))))),[some [.var 64 [a0 1 E2 r_6.b,vi r_6.p]],some [.var 46 [.own 2 0 27 0 a4a.length,.own 3 0 13 0 a3p.length,.own 4 0 3 0 a4c.length,.own 5 0 5 0 a30.length]],some [x8 74 27 n4 a4a],some [d8 103 13 m9 a3p],some [d8 105 3 t6 a4c],some [d8 109 5 p6 a30],some [d8 80 3 H9 a4q]]⟩
noncomputable def b3D (r_6:c9) (a4a:List a6) (a3p:List a8) (a4c:List j9) (a30:List e9) (a4q:List g8):Option (b6 ((List g8)×c9) (c9×(List a6)×(List a8)×(List j9)×(List e9)×List g8) (c9×(List a6)×(List a8)×(List j9)×(List e9)×List g8)) :=
  ((A7 r_6 (a3p.length:Int)).bind fun a3u=>((a2Q a3u.2 [0,0,a3u.1]).bind fun a6a=>((a04 (f0.mk a4a a3p a4c a30) a4q (g8.mk 2 a6a.1 [])).bind fun a6y=>some (b6.nxt (a6a.2,a6y.1.Nodes,a6y.1.Net,a6y.1.Asked,a6y.1.Told,a6y.2)))))
theorem d3n (i:Int) (res:V) (outs:List (Option V)) (x2:b7 ((List g8)×c9) (c9×(List a6)×(List a8)×(List j9)×(List e9)×List g8)) (hb2:HB cx z6.X res outs x2 b6Q (fun s=>b68 i s.1 s.2.1 s.2.2.1 s.2.2.2.1 s.2.2.2.2.1 s.2.2.2.2.2)) (hr2:HR res outs x2 z6.R z6.O) (st2:b6 ((List g8)×c9) (c9×(List a6)×(List a8)×(List j9)×(List e9)×List g8) (c9×(List a6)×(List a8)×(List j9)×(List e9)×List g8)) (hc2:n9 x2 (fun s:c9×(List a6)×(List a8)×(List j9)×(List e9)×List g8=>b8 cx z6.X res outs b4w (b2E i s.1 s.2.1 s.2.2.1 s.2.2.2.1 s.2.2.2.2.1 s.2.2.2.2.2)) st2) (r_6:c9) (a4a:List a6) (a3p:List a8) (a4c:List j9) (a30:List e9) (a4q:List g8) (h:b3D r_6 a4a a3p a4c a30 a4q=some st2):b8 cx z6.X res outs c4m (c4V i r_6 a4a a3p a4c a30 a4q) :=
  P0<|rg<|d6 A2 B3 7 h fun a3u h=>tl (8,{ a:=.ck [] })<|d6 a1R a5y 9 h fun a6a h=>om (3=[0,0,a3u.1].length) (by simp)<|d6 Z2 a18 11 h fun a6y h=>j5 a4a a3p a4c a30<|j3 a4q<|(u0 h hc2 fun hI=>sg [] [0,3,4,5] [(1,0),(18,0),(18,1),(18,2),(18,3),(18,4)] hI)
noncomputable def b0G (r_3:c9) (R5:List a6) (P4:List a8) (S4:List j9) (S7:List e9) (B6:List g8):Option (b6 ((List g8)×c9) (c9×(List a6)×(List a8)×(List j9)×(List e9)×List g8) (c9×(List a6)×(List a8)×(List j9)×(List e9)×List g8)) :=
  (bif decide ((P4.length:Int)>0) then ((A7 r_3 9).bind fun a3F=>(bif decide (a3F.1>0) then (bif decide ((B6.length:Int)<200) then ((((A7 a3F.2 8).bind fun a3X=>(bif (a3X.1==0) then ((A7 a3X.2 (P4.length:Int)).bind fun a4W=>((a04 (f0.mk R5 P4 S4 S7) B6 (g8.mk 4 a4W.1 [])).bind fun a7b=>some (b7.brk (a4W.2,a7b.1.Nodes,a7b.1.Net,a7b.1.Asked,a7b.1.Told,a7b.2)))) else some (b7.brk (a3X.2,R5,P4,S4,S7,B6)))):Option (b7 (b6 ((List g8)×c9) (c9×(List a6)×(List a8)×(List j9)×(List e9)×List g8) (c9×(List a6)×(List a8)×(List j9)×(List e9)×List g8)) (c9×(List a6)×(List a8)×(List j9)×(List e9)×List g8))).bind fun x=>x.go some fun j=>b3D j.1 j.2.1 j.2.2.1 j.2.2.2.1 j.2.2.2.2.1 j.2.2.2.2.2) else some (b6.brk (a3F.2,R5,P4,S4,S7,B6))) else some (b6.brk (a3F.2,R5,P4,S4,S7,B6)))) else some (b6.brk (r_3,R5,P4,S4,S7,B6)))
set_option maxRecDepth 20000 in
theorem d4E (i:Int) (res:V) (outs:List (Option V)) (x2:b7 ((List g8)×c9) (c9×(List a6)×(List a8)×(List j9)×(List e9)×List g8)) (hb2:HB cx z6.X res outs x2 b6Q (fun s=>b68 i s.1 s.2.1 s.2.2.1 s.2.2.2.1 s.2.2.2.2.1 s.2.2.2.2.2)) (hr2:HR res outs x2 z6.R z6.O) (st2:b6 ((List g8)×c9) (c9×(List a6)×(List a8)×(List j9)×(List e9)×List g8) (c9×(List a6)×(List a8)×(List j9)×(List e9)×List g8)) (hc2:n9 x2 (fun s:c9×(List a6)×(List a8)×(List j9)×(List e9)×List g8=>b8 cx z6.X res outs b4w (b2E i s.1 s.2.1 s.2.2.1 s.2.2.2.1 s.2.2.2.2.1 s.2.2.2.2.2)) st2) (r_3:c9) (R5:List a6) (P4:List a8) (S4:List j9) (S7:List e9) (B6:List g8) (h:b0G r_3 R5 P4 S4 S7 B6=some st2):b8 cx z6.X res outs b4w (b2E i r_3 R5 P4 S4 S7 B6) :=
  P0<|rg<|a9 4 h (fun h=>d6 A2 B3 6 h fun a3F h=>a9 9 h (fun h=>a9 13 h (fun h=>A9 (I:=fun j:c9×(List a6)×(List a8)×(List j9)×(List e9)×List g8=>b8 cx z6.X res outs c4m (c4V i j.1 j.2.1 j.2.2.1 j.2.2.2.1 j.2.2.2.2.1 j.2.2.2.2.2)) h (fun j h=>d3n i res outs x2 hb2 hr2 st2 hc2 j.1 j.2.1 j.2.2.1 j.2.2.2.1 j.2.2.2.2.1 j.2.2.2.2.2 h) (fun x3 h hc3=>rg<|d6 A2 B3 1 h fun a3X h=>a9 2 h (fun h=>rg<|d6 A2 B3 6 h fun a4W h=>d6 Z2 a18 8 h fun a7b h=>j5 R5 P4 S4 S7<|j3 B6<|(m7 h hc3 fun hI=>sg [] [0,3,4,5] [(1,0),(32,0),(32,1),(32,2),(32,3),(32,4)] hI)) (fun h=>(m7 h hc3 fun hI=>sg [] [0,3,4,5] [(1,0),(2,0),(3,0),(4,0),(5,0),(6,0)] hI)))) (fun h=>(t0 h hc2 fun e=>sg [] [0,3,4,5] [(1,0),(2,0),(3,0),(4,0),(5,0),(6,0)] (hb2 _ e)))) (fun h=>(t0 h hc2 fun e=>sg [] [0,3,4,5] [(1,0),(2,0),(3,0),(4,0),(5,0),(6,0)] (hb2 _ e)))) (fun h=>(t0 h hc2 fun e=>sg [] [0,3,4,5] [(1,0),(2,0),(3,0),(4,0),(5,0),(6,0)] (hb2 _ e)))
noncomputable def a8c (r_2:c9) (p7:List a6) (t5:List a8) (C0:List j9) (C1:List e9) (out1:List g8) (i:Int):Option (b6 ((List g8)×c9) (c9×(List a6)×(List a8)×(List j9)×(List e9)×(List g8)×Int) (c9×List g8)) :=
  (bif decide (i>0) then ((A7 r_2 3).bind fun L2=>((a2Y L2.2).bind fun a0J=>((a04 (f0.mk p7 t5 C0 C1) out1 (g8.mk 1 L2.1 a0J.1)).bind fun a1s=>((m5 (fun s:c9×(List a6)×(List a8)×(List j9)×(List e9)×List g8=>b0G s.1 s.2.1 s.2.2.1 s.2.2.2.1 s.2.2.2.2.1 s.2.2.2.2.2) (a0J.2,a1s.1.Nodes,a1s.1.Net,a1s.1.Asked,a1s.1.Told,a1s.2)).bind fun x=>x.go (fun r=>some (b6.ret r)) fun s=>b5F i s.1 s.2.1 s.2.2.1 s.2.2.2.1 s.2.2.2.2.1 s.2.2.2.2.2)))) else some (b6.brk (r_2,out1)))
set_option maxRecDepth 20000 in
theorem d55 (res:V) (outs:List (Option V)) (x1:b7 ((List g8)×c9) (c9×List g8)) (hb1:HB cx z6.X res outs x1 b2y (fun s=>b4s s.1 s.2)) (hr1:HR res outs x1 z6.R z6.O) (st1:b6 ((List g8)×c9) (c9×(List a6)×(List a8)×(List j9)×(List e9)×(List g8)×Int) (c9×List g8)) (hc1:n9 x1 (fun s:c9×(List a6)×(List a8)×(List j9)×(List e9)×(List g8)×Int=>b8 cx z6.X res outs a9i (b0F s.1 s.2.1 s.2.2.1 s.2.2.2.1 s.2.2.2.2.1 s.2.2.2.2.2.1 s.2.2.2.2.2.2)) st1) (r_2:c9) (p7:List a6) (t5:List a8) (C0:List j9) (C1:List e9) (out1:List g8) (i:Int) (h:a8c r_2 p7 t5 C0 C1 out1 i=some st1):b8 cx z6.X res outs a9i (b0F r_2 p7 t5 C0 C1 out1 i) :=
  P0<|rg<|a9 1 h (fun h=>rg<|d6 A2 B3 3 h fun L2 h=>d6 K9 a8x 5 h fun a0J h=>d6 Z2 a18 7 h fun a1s h=>j5 p7 t5 C0 C1<|G4 out1 a0J.1<|u7 h fun x hl hr hb=>sg [] [0,3,4,5] [(1,0),(16,0),(16,1),(16,2),(16,3),(16,4)] (u9 (I:=fun s:c9×(List a6)×(List a8)×(List j9)×(List e9)×List g8=>b8 cx z6.X res outs b4w (b2E i s.1 s.2.1 s.2.2.1 s.2.2.2.1 s.2.2.2.2.1 s.2.2.2.2.2)) hl fun s st h hc=>d4E i _ _ x (fun s e=>d7Z i res outs x1 hb1 hr1 st1 hc1 s.1 s.2.1 s.2.2.1 s.2.2.2.1 s.2.2.2.2.1 s.2.2.2.2.2 (hb s e)) (fun v e=>(hr1 _ (b1h (hr v e) hc1))) st hc s.1 s.2.1 s.2.2.1 s.2.2.2.1 s.2.2.2.2.1 s.2.2.2.2.2 h)) (fun h=>(t0 h hc1 fun e=>sg [] [4] [(6,0)] (hb1 _ e)))
noncomputable def b3V (r_1:c9) (Nodes:List a6) (Net:List a8) (Asked:List j9) (Told:List e9) (out:List g8):Option ((List g8)×c9) :=
  ((A7 r_1 3).bind fun Q2=>((m5 (fun s:c9×(List a6)×(List a8)×(List j9)×(List e9)×(List g8)×Int=>a8c s.1 s.2.1 s.2.2.1 s.2.2.2.1 s.2.2.2.2.1 s.2.2.2.2.2.1 s.2.2.2.2.2.2) (Q2.2,Nodes,Net,Asked,Told,out,i7 (3+Q2.1))).bind fun x=>x.go (fun r=>some r) fun s=>c7c s.1 s.2))
theorem d5s (r:(List g8)×c9) (r_1:c9) (Nodes:List a6) (Net:List a8) (Asked:List j9) (Told:List e9) (out:List g8) (h:b3V r_1 Nodes Net Asked Told out=some r):b8 cx z6.X (z6.R r) (z6.O r) c1J (c4N r_1 Nodes Net Asked Told out) :=
  P0<|rg<|d6 A2 B3 1 h fun Q2 h=>u7 h fun x hl hr hb=>sg [] [0,3,4,5] [(1,0),(2,0),(3,0),(4,0),(5,0),(6,0)] (u9 (I:=fun s:c9×(List a6)×(List a8)×(List j9)×(List e9)×(List g8)×Int=>b8 cx z6.X (z6.R r) (z6.O r) a9i (b0F s.1 s.2.1 s.2.2.1 s.2.2.2.1 s.2.2.2.2.1 s.2.2.2.2.2.1 s.2.2.2.2.2.2)) hl fun s st h hc=>d55 _ _ x (fun s e=>d4F r s.1 s.2 (hb s e)) (fun v e=>⟨congrArg z6.R (Option.some.inj (hr v e)).symm,congrArg z6.O (Option.some.inj (hr v e)).symm⟩) st hc s.1 s.2.1 s.2.2.1 s.2.2.2.1 s.2.2.2.2.1 s.2.2.2.2.2.1 s.2.2.2.2.2.2 h)
noncomputable def b29 (r_:c9):Option ((List g8)×c9) :=
  ((b0j).bind fun V8=>((A7 r_ 3).bind fun pick=>((a04 V8 [] (g8.mk 5 pick.1 [])).bind fun H8=>((A7 pick.2 3).bind fun x5=>(bif decide (x5.1>0) then ((a2Q x5.2 [10,30,60,90]).bind fun num=>((b3Z num.2 H8.1 num.1).bind fun a5W=>(n8 ((H8.2.length+a5W.1.length) * 40≤140737488355328) (some (H8.2++a5W.1,a5W.2))))) else ((((A7 x5.2 5).bind fun a4j=>(bif (a4j.1==0) then ((b1u a4j.2 H8.1 H8.2).bind fun a5K=>some (b7.brk (a5K.2.2,a5K.1.Nodes,a5K.1.Net,a5K.1.Asked,a5K.1.Told,a5K.2.1))) else some (b7.brk (a4j.2,H8.1.Nodes,H8.1.Net,H8.1.Asked,H8.1.Told,H8.2)))):Option (b7 ((List g8)×c9) (c9×(List a6)×(List a8)×(List j9)×(List e9)×List g8))).bind fun x=>x.go some fun j=>b3V j.1 j.2.1 j.2.2.1 j.2.2.2.1 j.2.2.2.2.1 j.2.2.2.2.2))))))
set_option maxRecDepth 20000 in
theorem d6W {r_:c9} (r:(List g8)×c9) (h:b29 r_=some r):l8 cx.P 13 [.optr 64 (S8 r_)] (z6.R r) (z6.O r) :=
  m8 z6.X z6.c z6.h (fun z=>m6<|d6 P3 c6z 0 h fun V8 h=>d6 A2 B3 2 h fun pick h=>d6 Z2 a18 4 h fun H8 h=>j5 V8.Nodes V8.Net V8.Asked V8.Told<|rg<|d6 A2 B3 1 h fun x5 h=>a9 2 h (fun h=>rg<|tl (4,{ a:=.ck [] })<|d6 a1R a5y 5 h fun num h=>om (4=[10,30,60,90].length) (by simp)<|d6 J9 d2N 6 h fun a5W h=>j5 H8.1.Nodes H8.1.Net H8.1.Asked H8.1.Told<|o8 h fun e1 h=>apL 7 23 80 3 40 H9 H8.2 a5W.1 e1<|G4 a5W.1 (H8.2++a5W.1)<|fe z h) (fun h=>A9 (I:=fun j:c9×(List a6)×(List a8)×(List j9)×(List e9)×List g8=>b8 cx z6.X (z6.R r) (z6.O r) c1J (c4N j.1 j.2.1 j.2.2.1 j.2.2.2.1 j.2.2.2.2.1 j.2.2.2.2.2)) h (fun j h=>d5s r j.1 j.2.1 j.2.2.1 j.2.2.2.1 j.2.2.2.2.1 j.2.2.2.2.2 h) (fun x1 h hc1=>rg<|d6 A2 B3 1 h fun a4j h=>a9 2 h (fun h=>rg<|d6 D1 c9s 3 h fun a5K h=>j5 H8.1.Nodes H8.1.Net H8.1.Asked H8.1.Told<|j3 H8.2<|(m7 h hc1 fun hI=>sg [] [0,3,4] [(10,0),(22,0),(22,1),(22,2),(22,3),(22,4)] hI)) (fun h=>(m7 h hc1 fun hI=>sg [] [0,3,4] [(10,0),(6,0),(6,1),(6,2),(6,3),(6,4)] hI)))))
noncomputable def N8:FS (f0):=⟨11,Tryz.f11,[.val a0m [some 1000074,some 103,some 105,some 109]],[none,none],[.val a0m [],.val [some 3] []],fun r=>.agg [K6 74 27 n4 r.Nodes,b9 103 13 m9 r.Net,b9 105 3 t6 r.Asked,b9 109 5 p6 r.Told],fun _=>[none,none],Tryz.func11⟩
noncomputable def c3l:List Item:=N8.k 5 [false,false]
noncomputable def c64 (p7:List a6) (t5:List a8) (C0:List j9) (C1:List e9):St:=⟨(bs 2 (.ptr 1 0 0::(bs 1 (.ptr 6 0 0::(bs 25 []))))),[some [],some [.var 46 [.own 2 0 27 0 p7.length,.own 3 0 13 0 t5.length,.own 4 0 3 0 C0.length,.own 5 0 5 0 C1.length]],some [x8 74 27 n4 p7],some [d8 103 13 m9 t5],some [d8 105 3 t6 C0],some [d8 109 5 p6 C1],some [.var 46 [.nil,.nil,.nil,.nil]]]⟩
noncomputable def c8P (p7:List a6) (t5:List a8) (C0:List j9) (C1:List e9):Option f0 :=
  some (f0.mk p7 t5 C0 C1)
theorem d6Z (r:f0) (p7:List a6) (t5:List a8) (C0:List j9) (C1:List e9) (h:c8P p7 t5 C0 C1=some r):b8 cx N8.X (N8.R r) (N8.O r) c3l (c64 p7 t5 C0 C1) :=
  P0<|rg<|j5 p7 t5 C0 C1<|fe N8.h h
noncomputable def b6t:List Item:=N8.k 4 [false]
noncomputable def b8h (a0c:List g8) (Nodes:List a6) (Net:List a8) (Asked:List j9) (Told:List e9) (i:Int):St:=⟨(bs 1 (a0 3 H9 a0c::(.ptr 1 0 0::(bs 1 (.ptr 6 0 0::(vi i::(bs 24 []))))))),[some [],some [.var 46 [.own 2 0 27 0 Nodes.length,.own 3 0 13 0 Net.length,.own 4 0 3 0 Asked.length,.own 5 0 5 0 Told.length]],some [x8 74 27 n4 Nodes],some [d8 103 13 m9 Net],some [d8 105 3 t6 Asked],some [d8 109 5 p6 Told],some [.var 46 [.nil,.nil,.nil,.nil]]]⟩
noncomputable def a3d (a0c:List g8) (Nodes:List a6) (Net:List a8) (Asked:List j9) (Told:List e9) (i:Int):Option (b6 f0 ((List a6)×(List a8)×(List j9)×(List e9)×Int) ((List a6)×(List a8)×(List j9)×List e9)) :=
  (bif decide (i<(a0c.length:Int)) then ((idx a0c i).bind fun c56=>((a6Q (f0.mk Nodes Net Asked Told) c56).bind fun W7=>some (b6.nxt (W7.Nodes,W7.Net,W7.Asked,W7.Told,i7 (i+1))))) else some (b6.brk (Nodes,Net,Asked,Told)))
theorem d7x (a0c:List g8) (res:V) (outs:List (Option V)) (x1:b7 f0 ((List a6)×(List a8)×(List j9)×List e9)) (hb1:HB cx N8.X res outs x1 c3l (fun s=>c64 s.1 s.2.1 s.2.2.1 s.2.2.2)) (hr1:HR res outs x1 N8.R N8.O) (st1:b6 f0 ((List a6)×(List a8)×(List j9)×(List e9)×Int) ((List a6)×(List a8)×(List j9)×List e9)) (hc1:n9 x1 (fun s:(List a6)×(List a8)×(List j9)×(List e9)×Int=>b8 cx N8.X res outs b6t (b8h a0c s.1 s.2.1 s.2.2.1 s.2.2.2.1 s.2.2.2.2)) st1) (Nodes:List a6) (Net:List a8) (Asked:List j9) (Told:List e9) (i:Int) (h:a3d a0c Nodes Net Asked Told i=some st1):b8 cx N8.X res outs b6t (b8h a0c Nodes Net Asked Told i) :=
  P0<|rg<|a9 3 h (fun h=>rg<|s5 H9 3 h fun c56 d9H h=>d6 a1z b9R 5 h fun W7 h=>j5 Nodes Net Asked Told<|rg<|(u0 h hc1 fun hI=>sg [] [1,2,4,5] [(1,0),(16,0),(16,1),(16,2),(16,3),(6,0)] hI)) (fun h=>(t0 h hc1 fun e=>sg [] [2,4] [(1,0),(2,0),(3,0),(4,0),(5,0),(6,0)] (hb1 _ e)))
noncomputable def b2Q (w:f0) (a0c:List g8):Option f0 :=
  ((b0M w).bind fun L4=>(bif (!L4) then some (f0.mk [] [] [] []) else (bif decide ((a0c.length:Int)>400) then some (f0.mk [] [] [] []) else ((a88 w).bind fun Z7=>((m5 (fun s:(List a6)×(List a8)×(List j9)×(List e9)×Int=>a3d a0c s.1 s.2.1 s.2.2.1 s.2.2.2.1 s.2.2.2.2) (Z7.Nodes,Z7.Net,Z7.Asked,Z7.Told,0)).bind fun x=>x.go (fun r=>some r) fun s=>c8P s.1 s.2.1 s.2.2.1 s.2.2.2)))))
theorem c95 {w:f0} {a0c:List g8} (r:f0) (h:b2Q w a0c=some r):l8 cx.P 11 [.agg (b3T w),a0 3 H9 a0c] (N8.R r) (N8.O r) :=
  m8 N8.X N8.c N8.h (fun z=>m6<|d6 r9 b77 1 h fun L4 h=>a9 3 h (fun h=>rg<|fe z h) (fun h=>a9 7 h (fun h=>rg<|fe z h) (fun h=>rg<|d6 z8 c8d 1 h fun Z7 h=>rg<|u7 h fun x hl hr hb=>sg [] [1,2,4,5] [(1,0),(12,0),(12,1),(12,2),(12,3),(2,0)] (u9 (I:=fun s:(List a6)×(List a8)×(List j9)×(List e9)×Int=>b8 cx N8.X (N8.R r) (N8.O r) b6t (b8h a0c s.1 s.2.1 s.2.2.1 s.2.2.2.1 s.2.2.2.2)) hl fun s st h hc=>d7x a0c _ _ x (fun s e=>d6Z r s.1 s.2.1 s.2.2.1 s.2.2.2 (hb s e)) (fun v e=>⟨congrArg N8.R (Option.some.inj (hr v e)).symm,congrArg N8.O (Option.some.inj (hr v e)).symm⟩) st hc s.1 s.2.1 s.2.2.1 s.2.2.2.1 s.2.2.2.2 h))))
noncomputable def H0:FS (List b5):=⟨10,Tryz.f10,[.val [some 7] []],[none],[.val a0m []],fun r=>a0 7 i5 r,fun _=>[none],Tryz.func10⟩
noncomputable def b6b:List Item:=H0.k 4 [false]
noncomputable def b7q (w:f0) (a6q:Int):St:=⟨(bs 1 (.ptr 1 0 0::(bs 1 (vi a6q::(bs 36 []))))),[some [],some [.var 46 [a0 27 I4 w.Nodes,a0 13 m9 w.Net,a0 3 t6 w.Asked,a0 5 p6 w.Told]]]⟩
noncomputable def b8s (w:f0) (a6q:Int):Option (List b5) :=
  (bif ((w.Nodes.length:Int)==0) then some ([]:List b5) else ((idx w.Nodes a6q).bind fun c8=>((a8u c8.Known).bind fun a6b=>some a6b)))
theorem d3z (w:f0) (r:List b5) (a6q:Int) (h:b8s w a6q=some r):b8 cx H0.X (H0.R r) (H0.O r) b6b (b7q w a6q) :=
  P0<|rg<|a9 3 h (fun h=>rg<|tl (0,{ a:=.ck N3 })<|om (0=([]:List b5).length) (by simp)<|fe H0.h h) (fun h=>rg<|s5 I4 3 h fun c8 G7 h=>d6 N6 b6T 6 h fun a6b h=>j3 a6b<|fe H0.h h)
noncomputable def b3J:List Item:=H0.k 3 []
noncomputable def b37 (w:f0) (best:Int) (i:Int):St:=⟨(bs 1 (.ptr 1 0 0::(bs 1 (vi best::(vi i::(bs 35 [])))))),[some [],some [.var 46 [a0 27 I4 w.Nodes,a0 13 m9 w.Net,a0 3 t6 w.Asked,a0 5 p6 w.Told]]]⟩
noncomputable def c38:List Item:=H0.k 6 [true,true]
noncomputable def c6d (w:f0) (i:Int) (a6Y:Int):St:=⟨(bs 1 (.ptr 1 0 0::(bs 1 (vi a6Y::(vi i::(bs 35 [])))))),[some [],some [.var 46 [a0 27 I4 w.Nodes,a0 13 m9 w.Net,a0 3 t6 w.Asked,a0 5 p6 w.Told]]]⟩
noncomputable def b7R (i:Int) (a6Y:Int):Option (b6 (List b5) (Int×Int) Int) :=
  some (b6.nxt (a6Y,i7 (i+1)))
theorem d0S (w:f0) (i:Int) (res:V) (outs:List (Option V)) (x1:b7 (List b5) Int) (hb1:HB cx H0.X res outs x1 b6b (b7q w)) (hr1:HR res outs x1 H0.R H0.O) (st1:b6 (List b5) (Int×Int) Int) (hc1:n9 x1 (fun s:Int×Int=>b8 cx H0.X res outs b3J (b37 w s.1 s.2)) st1) (a6Y:Int) (h:b7R i a6Y=some st1):b8 cx H0.X res outs c38 (c6d w i a6Y) :=
  P0<|rg<|(u0 h hc1 fun hI=>sg [] [1,3,4] [(1,0)] hI)
noncomputable def a9W (w:f0) (best:Int) (i:Int):Option (b6 (List b5) (Int×Int) Int) :=
  (bif decide (i<(w.Nodes.length:Int)) then ((((idx w.Nodes i).bind fun c4t=>((idx w.Nodes best).bind fun c8p=>(bif decide ((c4t.Known.length:Int)>(c8p.Known.length:Int)) then some (b7.brk i) else some (b7.brk best)))):Option (b7 (b6 (List b5) (Int×Int) Int) Int)).bind fun x=>x.go some fun j=>b7R i j) else some (b6.brk best))
theorem d6U (w:f0) (res:V) (outs:List (Option V)) (x1:b7 (List b5) Int) (hb1:HB cx H0.X res outs x1 b6b (b7q w)) (hr1:HR res outs x1 H0.R H0.O) (st1:b6 (List b5) (Int×Int) Int) (hc1:n9 x1 (fun s:Int×Int=>b8 cx H0.X res outs b3J (b37 w s.1 s.2)) st1) (best:Int) (i:Int) (h:a9W w best i=some st1):b8 cx H0.X res outs b3J (b37 w best i) :=
  P0<|rg<|a9 4 h (fun h=>A9 (I:=fun j:Int=>b8 cx H0.X res outs c38 (c6d w i j)) h (fun j h=>d0S w i res outs x1 hb1 hr1 st1 hc1 j h) (fun x2 h hc2=>rg<|s5 I4 3 h fun c4t d9G h=>s5 I4 10 h fun c8p d9y h=>a9 14 h (fun h=>rg<|(m7 h hc2 fun hI=>sg [] [1,3,4] [(1,0)] hI)) (fun h=>(m7 h hc2 fun hI=>sg [] [1,3,4] [(1,0)] hI)))) (fun h=>(t0 h hc1 fun e=>sg [] [1,3] [(1,0)] (hb1 _ e)))
noncomputable def b1w (w:f0):Option (List b5) :=
  ((m5 (fun s:Int×Int=>a9W w s.1 s.2) (0,0)).bind fun x=>x.go (fun r=>some r) fun s=>b8s w s)
theorem d4K {w:f0} (r:List b5) (h:b1w w=some r):l8 cx.P 10 [.agg (b3T w)] (H0.R r) (H0.O r) :=
  m8 H0.X H0.c H0.h (fun z=>X6<|u7 h fun x hl hr hb=>sg [] [1,3,4] [(1,0)] (u9 (I:=fun s:Int×Int=>b8 cx H0.X (H0.R r) (H0.O r) b3J (b37 w s.1 s.2)) hl fun s st h hc=>d6U w _ _ x (fun s e=>d3z w r s (hb s e)) (fun v e=>⟨congrArg H0.R (Option.some.inj (hr v e)).symm,congrArg H0.O (Option.some.inj (hr v e)).symm⟩) st hc s.1 s.2 h))
noncomputable def a7t:FS (List b5):=⟨4,Tryz.f4,[.val [some 7] []],[none],[.val [some 1] []],fun r=>a0 7 i5 r,fun _=>[none],Tryz.func4⟩
noncomputable def b1I (H2:List Int):Option (List b5) :=
  ((b3v H2).bind fun c4r=>((A7 c4r 3).bind fun pick=>(bif (pick.1==0) then ((b21 pick.2).bind fun c5H=>some c5H.1) else ((b0j).bind fun V8=>((b29 pick.2).bind fun b11=>((b2Q V8 b11.1).bind fun a0s=>((b1w a0s).bind fun a7i=>some a7i)))))))
set_option maxRecDepth 20000 in
theorem d0Y {H2:List Int} (r:List b5) (h:b1I H2=some r):l8 cx.P 4 [a0 1 E2 H2] (a7t.R r) (a7t.O r) :=
  m8 a7t.X a7t.c a7t.h (fun z=>m6<|d6 a0Q c87 1 h fun c4r h=>rg<|d6 A2 B3 1 h fun pick h=>a9 2 h (fun h=>rg<|d6 z9 d65 1 h fun c5H h=>fe z h) (fun h=>rg<|d6 P3 c6z 0 h fun V8 h=>d6 z6 d6W 2 h fun b11 h=>D9 h fun a0s d0s h=>om (l8 cx.P 11 [.agg [.sl 27 V8.Nodes.length (Z1 (V8.Nodes.map n4)),a0 13 m9 V8.Net,a0 3 t6 V8.Asked,a0 5 p6 V8.Told],a0 3 H9 b11.1] (N8.R a0s) (N8.O a0s)) (by simp only [a7q a9f]; exact (c95 a0s d0s))<|j5 V8.Nodes V8.Net V8.Asked V8.Told<|j3 b11.1<|tl (N8.t 3 false a0s)<|D9 h fun a7i d6E h=>om (l8 cx.P 10 [.agg [.sl 27 a0s.Nodes.length (Z1 (a0s.Nodes.map n4)),a0 13 m9 a0s.Net,a0 3 t6 a0s.Asked,a0 5 p6 a0s.Told]] (H0.R a7i) (H0.O a7i)) (by simp only [a7q a9f]; exact (d4K a7i d6E))<|j5 a0s.Nodes a0s.Net a0s.Asked a0s.Told<|tl (H0.t 4 false a7i)<|fe z h))
noncomputable def O6:FS (Bool):=⟨114,Tryz.f114,[.val [] []],[none,none],[.val [some 2] [],.val [some 2] []],fun r=>.b r,fun _=>[none,none],Tryz.func114⟩
noncomputable def c4F:List Item:=O6.k 4 [false,false]
noncomputable def c1z:St:=⟨(bs 26 []),[some []]⟩
noncomputable def c4M:Option Bool :=
  some true
theorem d8B (r:Bool) (h:c4M=some r):b8 cx O6.X (O6.R r) (O6.O r) c4F (c1z) :=
  P0<|rg<|fe O6.h h
noncomputable def b8y:List Item:=O6.k 3 [false]
noncomputable def b7I (a:List n3) (b:List n3) (v13:Int):St:=⟨(a0 2 i4 a::(a0 2 i4 b::(bs 10 (vi (a.length:Int)::(vi v13::(bs 12 [])))))),[some []]⟩
noncomputable def b4j (a:List n3) (b:List n3) (v13:Int):Option (b6 Bool Int Unit) :=
  (bif decide (v13<(a.length:Int)) then ((idx a v13).bind fun E6=>((idx b v13).bind fun V6=>(bif (!(([E6.Box,E6.Ver]:List Int)==[V6.Box,V6.Ver])) then some (b6.ret false) else some (b6.nxt (i7 (v13+1)))))) else some (b6.brk ()))
theorem d5B (a:List n3) (b:List n3) (res:V) (outs:List (Option V)) (x1:b7 Bool Unit) (hb1:HB cx O6.X res outs x1 c4F (fun s=>c1z)) (hr1:HR res outs x1 O6.R O6.O) (st1:b6 Bool Int Unit) (hc1:n9 x1 (fun s:Int=>b8 cx O6.X res outs b8y (b7I a b s)) st1) (v13:Int) (h:b4j a b v13=some st1):b8 cx O6.X res outs b8y (b7I a b v13) :=
  P0<|rg<|a9 0 h (fun h=>m6<|s5 i4 2 h fun E6 a3z h=>s5 i4 6 h fun V6 c7K h=>a9 8 h (fun h=>rg<|(x6 h hc1 fun e=>x7 O6.h (hr1 _ e))) (fun h=>rg<|(u0 h hc1 fun hI=>sg [] [0,1,12,13] [] hI))) (fun h=>(t0 h hc1 fun e=>sg [] [] [] (hb1 _ e)))
noncomputable def b3y (a:List n3) (b:List n3):Option Bool :=
  (bif ((a.length:Int) != (b.length:Int)) then some false else ((m5 (fun s:Int=>b4j a b s) 0).bind fun x=>x.go (fun r=>some r) fun s=>c4M))
theorem d5Q {a:List n3} {b:List n3} (r:Bool) (h:b3y a b=some r):l8 cx.P 114 [a0 2 i4 a,a0 2 i4 b] (O6.R r) (O6.O r) :=
  m8 O6.X O6.c O6.h (fun z=>m6<|a9 4 h (fun h=>rg<|fe z h) (fun h=>rg<|u7 h fun x hl hr hb=>sg [] [0,1,12,13] [] (u9 (I:=fun s:Int=>b8 cx O6.X (O6.R r) (O6.O r) b8y (b7I a b s)) hl fun s st h hc=>d5B a b _ _ x (fun s e=>d8B r (hb s e)) (fun v e=>⟨congrArg O6.R (Option.some.inj (hr v e)).symm,congrArg O6.O (Option.some.inj (hr v e)).symm⟩) st hc s h)))
noncomputable def P5:FS (Bool):=⟨115,Tryz.f115,[.val [] []],[none,none],[.val [some 2] [],.val [some 2] []],fun r=>.b r,fun _=>[none,none],Tryz.func115⟩
noncomputable def c60:List Item:=P5.k 4 [false,false]
noncomputable def c78:St:=⟨(bs 26 []),[some []]⟩
noncomputable def c7C:Option Bool :=
  some true
theorem d4X (r:Bool) (h:c7C=some r):b8 cx P5.X (P5.R r) (P5.O r) c60 (c78) :=
  P0<|rg<|fe P5.h h
noncomputable def b4Z:List Item:=P5.k 3 [false]
noncomputable def b9o (a:List m4) (b:List m4) (v13:Int):St:=⟨(a0 2 i0 a::(a0 2 i0 b::(bs 10 (vi (a.length:Int)::(vi v13::(bs 12 [])))))),[some []]⟩
noncomputable def b4q (a:List m4) (b:List m4) (v13:Int):Option (b6 Bool Int Unit) :=
  (bif decide (v13<(a.length:Int)) then ((idx a v13).bind fun put=>((idx b v13).bind fun M9=>(bif (!(([put.Box,put.Val]:List Int)==[M9.Box,M9.Val])) then some (b6.ret false) else some (b6.nxt (i7 (v13+1)))))) else some (b6.brk ()))
theorem d8T (a:List m4) (b:List m4) (res:V) (outs:List (Option V)) (x1:b7 Bool Unit) (hb1:HB cx P5.X res outs x1 c60 (fun s=>c78)) (hr1:HR res outs x1 P5.R P5.O) (st1:b6 Bool Int Unit) (hc1:n9 x1 (fun s:Int=>b8 cx P5.X res outs b4Z (b9o a b s)) st1) (v13:Int) (h:b4q a b v13=some st1):b8 cx P5.X res outs b4Z (b9o a b v13) :=
  P0<|rg<|a9 0 h (fun h=>m6<|s5 i0 2 h fun put hput h=>s5 i0 6 h fun M9 c5P h=>a9 8 h (fun h=>rg<|(x6 h hc1 fun e=>x7 P5.h (hr1 _ e))) (fun h=>rg<|(u0 h hc1 fun hI=>sg [] [0,1,12,13] [] hI))) (fun h=>(t0 h hc1 fun e=>sg [] [] [] (hb1 _ e)))
noncomputable def b4t (a:List m4) (b:List m4):Option Bool :=
  (bif ((a.length:Int) != (b.length:Int)) then some false else ((m5 (fun s:Int=>b4q a b s) 0).bind fun x=>x.go (fun r=>some r) fun s=>c7C))
theorem d5T {a:List m4} {b:List m4} (r:Bool) (h:b4t a b=some r):l8 cx.P 115 [a0 2 i0 a,a0 2 i0 b] (P5.R r) (P5.O r) :=
  m8 P5.X P5.c P5.h (fun z=>m6<|a9 4 h (fun h=>rg<|fe z h) (fun h=>rg<|u7 h fun x hl hr hb=>sg [] [0,1,12,13] [] (u9 (I:=fun s:Int=>b8 cx P5.X (P5.R r) (P5.O r) b4Z (b9o a b s)) hl fun s st h hc=>d8T a b _ _ x (fun s e=>d4X r (hb s e)) (fun v e=>⟨congrArg P5.R (Option.some.inj (hr v e)).symm,congrArg P5.O (Option.some.inj (hr v e)).symm⟩) st hc s h)))
noncomputable def a8o:FS (Bool):=⟨95,Tryz.f95,[.val [] []],[none,none],[.val W6 [],.val W6 []],fun r=>.b r,fun _=>[none,none],Tryz.func95⟩
noncomputable def b3A (a:i6) (b:i6):Option Bool :=
  ((b3y a.Reads b.Reads).bind fun E6=>(bif E6 then ((b4t a.Puts b.Puts).bind fun put=>(bif put then (bif (a.Val==b.Val) then some (a.Code==b.Code) else some false) else some false)) else some false))
theorem d4w {a:i6} {b:i6} (r:Bool) (h:b3A a b=some r):l8 cx.P 95 [.agg (L5 a),.agg (L5 b)] (a8o.R r) (a8o.O r) :=
  m8 a8o.X a8o.c a8o.h (fun z=>m6<|d6 O6 d5Q 4 h fun E6 h=>a9 5 h (fun h=>d6 P5 d5T 10 h fun put h=>a9 12 h (fun h=>a9 19 h (fun h=>fe z h) (fun h=>fe z h)) (fun h=>fe z h)) (fun h=>fe z h))
noncomputable def a6V:FS (Bool):=⟨60,Tryz.f60,[.val [] []],[none,none],[.val N3 [],.val N3 []],fun r=>.b r,fun _=>[none,none],Tryz.func60⟩
noncomputable def b5T (a:b5) (b:b5):Option Bool :=
  (bif (a.None==b.None) then (bif (([a.Req.Who,a.Req.Seq]:List Int)==[b.Req.Who,b.Req.Seq]) then ((b3A a.Run b.Run).bind fun a17=>some a17) else some false) else some false)
theorem d74 {a:b5} {b:b5} (r:Bool) (h:b5T a b=some r):l8 cx.P 60 [.agg (i5 a),.agg (i5 b)] (a6V.R r) (a6V.O r) :=
  m8 a6V.X a6V.c a6V.h (fun z=>m6<|a9 5 h (fun h=>a9 12 h (fun h=>d6 a8o d4w 17 h fun a17 h=>fe z h) (fun h=>fe z h)) (fun h=>fe z h))
noncomputable def T6:FS (Bool):=⟨96,Tryz.f96,[.val [] []],[none,none,none],[.val [] [],.val [] [],.val [] []],fun r=>.b r,fun _=>[none,none,none],Tryz.func96⟩
noncomputable def U4 (n:Int) (low:Int) (b05:Int):Option Bool :=
  (bif decide (n≥low) then some (decide (n≤b05)) else some false)
theorem a0r {n:Int} {low:Int} {b05:Int} (r:Bool) (h:U4 n low b05=some r):l8 cx.P 96 [vi n,vi low,vi b05] (T6.R r) (T6.O r) :=
  m8 T6.X T6.c T6.h (fun z=>m6<|a9 3 h (fun h=>fe z h) (fun h=>fe z h))
noncomputable def a4t:FS (Bool):=⟨61,Tryz.f61,[.val [] []],[none],[.val [] []],fun r=>.b r,fun _=>[none],Tryz.func61⟩
noncomputable def a8H (q:g9):Option Bool :=
  ((U4 q.Who 0 2).bind fun in_=>(bif in_ then ((U4 q.Seq 1 1000).bind fun W5=>some W5) else some false))
theorem b9I {q:g9} (r:Bool) (h:a8H q=some r):l8 cx.P 61 [.agg (w9 q)] (a4t.R r) (a4t.O r) :=
  m8 a4t.X a4t.c a4t.h (fun z=>m6<|d6 T6 a0r 2 h fun in_ h=>a9 3 h (fun h=>d6 T6 a0r 6 h fun W5 h=>fe z h) (fun h=>fe z h))
noncomputable def A6:FS (Bool):=⟨62,Tryz.f62,[.val [] []],[none],[.val W6 []],fun r=>.b r,fun _=>[none],Tryz.func62⟩
noncomputable def c6l:List Item:=A6.k 2 [false]
noncomputable def c0X (r_:i6):St:=⟨(bs 1 (.ptr 1 0 0::(bs 98 []))),[some [],some [.var 32 [a0 2 i4 r_.Reads,a0 2 i0 r_.Puts,vi r_.Val,vi r_.Code]]]⟩
noncomputable def c4T:List Item:=A6.k 5 [false,false]
noncomputable def c1X (r_:i6):St:=⟨(bs 1 (.ptr 1 0 0::(bs 2 (.ptr 2 0 0::(bs 95 []))))),[some [],some [.var 32 [a0 2 i4 r_.Reads,a0 2 i0 r_.Puts,vi r_.Val,vi r_.Code]],some [.arr 152 1 4 ((List.replicate 4 false).map eB)]]⟩
noncomputable def c63:List Item:=A6.k 7 [false,false,false]
noncomputable def c3q:St:=⟨(bs 100 []),[some []]⟩
noncomputable def c4b:Option Bool :=
  some true
theorem d4Q (r:Bool) (h:c4b=some r):b8 cx A6.X (A6.R r) (A6.O r) c63 (c3q) :=
  P0<|rg<|fe A6.h h
noncomputable def b8S:List Item:=A6.k 6 [false,false]
noncomputable def b8j (r_:i6) (put:List Bool) (v76:Int):St:=⟨(bs 4 (.ptr 1 0 0::(bs 69 (a0 2 i0 r_.Puts::(vi (r_.Puts.length:Int)::(vi v76::(bs 23 []))))))),[some [],some [.arr 152 1 4 (put.map eB)]]⟩
noncomputable def a7a (r_:i6) (put:List Bool) (v76:Int):Option (b6 Bool ((List Bool)×Int) Unit) :=
  (bif decide (v76<(r_.Puts.length:Int)) then ((idx r_.Puts v76).bind fun M9=>((U4 M9.Box 0 3).bind fun in_=>(bif (!in_) then some (b6.ret false) else ((idx put M9.Box).bind fun y=>(n8 (M9.Box<4) ((bif y then some (b6.ret false) else ((U4 M9.Val (-1000000) 1000000).bind fun W5=>(bif (!W5) then some (b6.ret false) else (n8 (M9.Box<4) (some (b6.nxt (put.set M9.Box.toNat true,i7 (v76+1)))))))))))))) else some (b6.brk ()))
theorem d1c (r_:i6) (res:V) (outs:List (Option V)) (x1:b7 Bool Unit) (hb1:HB cx A6.X res outs x1 c63 (fun s=>c3q)) (hr1:HR res outs x1 A6.R A6.O) (st1:b6 Bool ((List Bool)×Int) Unit) (hc1:n9 x1 (fun s:(List Bool)×Int=>b8 cx A6.X res outs b8S (b8j r_ s.1 s.2)) st1) (put:List Bool) (v76:Int) (h:a7a r_ put v76=some st1):b8 cx A6.X res outs b8S (b8j r_ put v76) :=
  P0<|rg<|a9 0 h (fun h=>rg<|s5 i0 0 h fun M9 c5P h=>rg<|d6 T6 a0r 2 h fun in_ h=>a9 4 h (fun h=>rg<|(x6 h hc1 fun e=>x7 A6.h (hr1 _ e))) (fun h=>D9 h fun y hy h=>o8 h fun e1 h=>ob (a3j hy)<|ob e1<|ob (a42 (enc:=eB) hy)<|tl (tr 8 (eB y))<|a9 10 h (fun h=>rg<|(x6 h hc1 fun e=>x7 A6.h (hr1 _ e))) (fun h=>d6 T6 a0r 13 h fun W5 h=>a9 15 h (fun h=>rg<|(x6 h hc1 fun e=>x7 A6.h (hr1 _ e))) (fun h=>rg<|o8 h fun e2 h=>ob (a3j hy)<|ob e2<|om (l7.arr 152 1 4 ((put.map eB).set (M9.Box.toNat) [.b true])=l7.arr 152 1 4 ((put.set M9.Box.toNat true).map eB)) (c4B rfl)<|ob (a42 (enc:=eB) hy)<|tl (3,{ a:=.rowck (eB y) [],e:=some (.arr 152 1 4 ((put.set M9.Box.toNat true).map eB)) })<|rg<|(u0 h hc1 fun hI=>sg [] [4,74,75,76] [(1,0)] hI))))) (fun h=>(t0 h hc1 fun e=>sg [] [] [] (hb1 _ e)))
noncomputable def b9n (r_:i6):Option Bool :=
  ((m5 (fun s:(List Bool)×Int=>a7a r_ s.1 s.2) (List.replicate 4 false,0)).bind fun x=>x.go (fun r=>some r) fun s=>c4b)
theorem d72 (r_:i6) (r:Bool) (h:b9n r_=some r):b8 cx A6.X (A6.R r) (A6.O r) c4T (c1X r_) :=
  P0<|rg<|u7 h fun x hl hr hb=>sg [] [4,74,75,76] [(2,0)] (u9 (I:=fun s:(List Bool)×Int=>b8 cx A6.X (A6.R r) (A6.O r) b8S (b8j r_ s.1 s.2)) hl fun s st h hc=>d1c r_ _ _ x (fun s e=>d4Q r (hb s e)) (fun v e=>⟨congrArg A6.R (Option.some.inj (hr v e)).symm,congrArg A6.O (Option.some.inj (hr v e)).symm⟩) st hc s.1 s.2 h)
noncomputable def b6G:List Item:=A6.k 4 [false]
noncomputable def b5w (r_:i6) (E6:List Bool) (v49:Int):St:=⟨(bs 1 (.ptr 1 0 0::(bs 1 (.ptr 2 0 0::(.ptr 3 0 0::(bs 42 (a0 2 i4 r_.Reads::(vi (r_.Reads.length:Int)::(vi v49::(bs 50 [])))))))))),[some [],some [.var 32 [a0 2 i4 r_.Reads,a0 2 i0 r_.Puts,vi r_.Val,vi r_.Code]],some [.arr 152 1 4 (E6.map eB)],some [.arr 152 1 4 ((List.replicate 4 false).map eB)]]⟩
noncomputable def a8f (r_:i6) (E6:List Bool) (v49:Int):Option (b6 Bool ((List Bool)×Int) Unit) :=
  (bif decide (v49<(r_.Reads.length:Int)) then ((idx r_.Reads v49).bind fun V6=>((U4 V6.Box 0 3).bind fun S0=>(bif (!S0) then some (b6.ret false) else ((idx E6 V6.Box).bind fun y1=>(n8 (V6.Box<4) ((bif y1 then some (b6.ret false) else ((U4 V6.Ver 0 1000000).bind fun a83=>(bif (!a83) then some (b6.ret false) else (n8 (V6.Box<4) (some (b6.nxt (E6.set V6.Box.toNat true,i7 (v49+1)))))))))))))) else some (b6.brk ()))
theorem d44 (r_:i6) (res:V) (outs:List (Option V)) (x1:b7 Bool Unit) (hb1:HB cx A6.X res outs x1 c4T (fun s=>c1X r_)) (hr1:HR res outs x1 A6.R A6.O) (st1:b6 Bool ((List Bool)×Int) Unit) (hc1:n9 x1 (fun s:(List Bool)×Int=>b8 cx A6.X res outs b6G (b5w r_ s.1 s.2)) st1) (E6:List Bool) (v49:Int) (h:a8f r_ E6 v49=some st1):b8 cx A6.X res outs b6G (b5w r_ E6 v49) :=
  P0<|rg<|a9 0 h (fun h=>rg<|s5 i4 0 h fun V6 c7K h=>rg<|d6 T6 a0r 2 h fun S0 h=>a9 4 h (fun h=>rg<|(x6 h hc1 fun e=>x7 A6.h (hr1 _ e))) (fun h=>D9 h fun y1 hy1 h=>o8 h fun e3 h=>ob (a3j hy1)<|ob e3<|ob (a42 (enc:=eB) hy1)<|tl (tr 8 (eB y1))<|a9 10 h (fun h=>rg<|(x6 h hc1 fun e=>x7 A6.h (hr1 _ e))) (fun h=>d6 T6 a0r 13 h fun a83 h=>a9 15 h (fun h=>rg<|(x6 h hc1 fun e=>x7 A6.h (hr1 _ e))) (fun h=>rg<|o8 h fun e4 h=>ob (a3j hy1)<|ob e4<|om (l7.arr 152 1 4 ((E6.map eB).set (V6.Box.toNat) [.b true])=l7.arr 152 1 4 ((E6.set V6.Box.toNat true).map eB)) (c4B rfl)<|ob (a42 (enc:=eB) hy1)<|tl (3,{ a:=.rowck (eB y1) [],e:=some (.arr 152 1 4 ((E6.set V6.Box.toNat true).map eB)) })<|rg<|(u0 h hc1 fun hI=>sg [] [1,3,4,47,48,49] [(1,0),(2,0),(3,0)] hI))))) (fun h=>(t0 h hc1 fun e=>sg [] [1,4] [(1,0),(3,0)] (hb1 _ e)))
noncomputable def b3X (r_:i6):Option Bool :=
  ((m5 (fun s:(List Bool)×Int=>a8f r_ s.1 s.2) (List.replicate 4 false,0)).bind fun x=>x.go (fun r=>some r) fun s=>b9n r_)
theorem d8q (r_:i6) (r:Bool) (h:b3X r_=some r):b8 cx A6.X (A6.R r) (A6.O r) c6l (c0X r_) :=
  P0<|rg<|om ((List.replicate 4 ([.b false]:List V)).flatten=[.b false,.b false,.b false,.b false]∧([.b false]:List V).length=1) ⟨rfl,rfl⟩<|om ((List.replicate 4 ([.b false]:List V)).flatten=[.b false,.b false,.b false,.b false]∧([.b false]:List V).length=1) ⟨rfl,rfl⟩<|rg<|u7 h fun x hl hr hb=>sg [] [1,3,4,47,48,49] [(1,0),(2,0),(3,0)] (u9 (I:=fun s:(List Bool)×Int=>b8 cx A6.X (A6.R r) (A6.O r) b6G (b5w r_ s.1 s.2)) hl fun s st h hc=>d44 r_ _ _ x (fun s e=>d72 r_ r (hb s e)) (fun v e=>⟨congrArg A6.R (Option.some.inj (hr v e)).symm,congrArg A6.O (Option.some.inj (hr v e)).symm⟩) st hc s.1 s.2 h)
noncomputable def a7E (r_:i6):Option Bool :=
  ((((U4 r_.Code 0 3).bind fun b0H=>(bif (!b0H) then some (b7.ret false) else ((U4 r_.Val (-1000000) 1000000).bind fun c8i=>(bif (!c8i) then some (b7.ret false) else (bif (r_.Code != 0) then (bif (r_.Val != 0) then some (b7.ret false) else (bif decide ((r_.Puts.length:Int)>0) then some (b7.ret false) else (bif (r_.Code==3) then (bif decide ((r_.Reads.length:Int)>0) then some (b7.ret false) else some (b7.brk ())) else some (b7.brk ())))) else (bif (r_.Code==3) then (bif decide ((r_.Reads.length:Int)>0) then some (b7.ret false) else some (b7.brk ())) else some (b7.brk ()))))))):Option (b7 Bool Unit)).bind fun x=>x.go some fun j=>b3X r_)
theorem b58 {r_:i6} (r:Bool) (h:a7E r_=some r):l8 cx.P 62 [.agg (L5 r_)] (A6.R r) (A6.O r) :=
  m8 A6.X A6.c A6.h (fun z=>rg<|A9 (I:=fun j:Unit=>b8 cx A6.X (A6.R r) (A6.O r) c6l (c0X r_)) h (fun j h=>d8q r_ r h) (fun x1 h hc1=>rg<|d6 T6 a0r 2 h fun b0H h=>a9 4 h (fun h=>rg<|(A0 h hc1 fun h=>fe z h)) (fun h=>d6 T6 a0r 7 h fun c8i h=>a9 10 h (fun h=>rg<|(A0 h hc1 fun h=>fe z h)) (fun h=>a9 14 h (fun h=>a9 18 h (fun h=>rg<|(A0 h hc1 fun h=>fe z h)) (fun h=>a9 26 h (fun h=>rg<|(A0 h hc1 fun h=>fe z h)) (fun h=>a9 30 h (fun h=>a9 36 h (fun h=>rg<|(A0 h hc1 fun h=>fe z h)) (fun h=>(m7 h hc1 fun hI=>sg [] [1] [(1,0)] hI))) (fun h=>(m7 h hc1 fun hI=>sg [] [1] [(1,0)] hI))))) (fun h=>a9 30 h (fun h=>a9 36 h (fun h=>rg<|(A0 h hc1 fun h=>fe z h)) (fun h=>(m7 h hc1 fun hI=>sg [] [1] [(1,0)] hI))) (fun h=>(m7 h hc1 fun hI=>sg [] [1] [(1,0)] hI)))))))
noncomputable def a51:FS (Bool):=⟨32,Tryz.f32,[.val [] []],[none],[.val N3 []],fun r=>.b r,fun _=>[none],Tryz.func32⟩
noncomputable def a86 (e_:b5):Option Bool :=
  (bif e_.None then ((b5T e_ (b5.mk true (g9.mk 0 0) (i6.mk [] [] 0 0))).bind fun c5S=>some c5S) else ((a8H e_.Req).bind fun b0C=>(bif b0C then ((a7E e_.Run).bind fun a0R=>(bif a0R then some (e_.Run.Code != 3) else some false)) else some false)))
theorem c2T {e_:b5} (r:Bool) (h:a86 e_=some r):l8 cx.P 32 [.agg (i5 e_)] (a51.R r) (a51.O r) :=
  m8 a51.X a51.c a51.h (fun z=>m6<|a9 1 h (fun h=>rg<|d6 a6V d74 2 h fun c5S h=>fe z h) (fun h=>rg<|d6 a4t b9I 2 h fun b0C h=>a9 3 h (fun h=>d6 A6 b58 6 h fun a0R h=>a9 8 h (fun h=>fe z h) (fun h=>fe z h)) (fun h=>fe z h)))
noncomputable def O4:FS (Bool):=⟨14,Tryz.f14,[.val [] []],[none],[.val [some 7] []],fun r=>.b r,fun _=>[none],Tryz.func14⟩
noncomputable def c1g:List Item:=O4.k 3 [false]
noncomputable def c8c (a7:List b5):St:=⟨(a0 7 i5 a7::(bs 17 [])),[some []]⟩
noncomputable def b5i (a7:List b5):Option Bool :=
  some (decide ((a7.length:Int)≤40))
theorem c9o (a7:List b5) (r:Bool) (h:b5i a7=some r):b8 cx O4.X (O4.R r) (O4.O r) c1g (c8c a7) :=
  P0<|rg<|fe O4.h h
noncomputable def b7X:List Item:=O4.k 2 []
noncomputable def b6n (a7:List b5) (v7:Int):St:=⟨(a0 7 i5 a7::(bs 4 (a0 7 i5 a7::(vi (a7.length:Int)::(vi v7::(bs 10 [])))))),[some []]⟩
noncomputable def b1Z (a7:List b5) (v7:Int):Option (b6 Bool Int Unit) :=
  (bif decide (v7<(a7.length:Int)) then ((idx a7 v7).bind fun z3=>((a86 z3).bind fun G2=>(bif (!G2) then some (b6.ret false) else some (b6.nxt (i7 (v7+1)))))) else some (b6.brk ()))
theorem d8Y (a7:List b5) (res:V) (outs:List (Option V)) (x1:b7 Bool Unit) (hb1:HB cx O4.X res outs x1 c1g (fun s=>c8c a7)) (hr1:HR res outs x1 O4.R O4.O) (st1:b6 Bool Int Unit) (hc1:n9 x1 (fun s:Int=>b8 cx O4.X res outs b7X (b6n a7 s)) st1) (v7:Int) (h:b1Z a7 v7=some st1):b8 cx O4.X res outs b7X (b6n a7 v7) :=
  P0<|rg<|a9 0 h (fun h=>rg<|s5 i5 0 h fun z3 J6 h=>rg<|d6 a51 c2T 1 h fun G2 h=>a9 2 h (fun h=>rg<|(x6 h hc1 fun e=>x7 O4.h (hr1 _ e))) (fun h=>rg<|(u0 h hc1 fun hI=>sg [] [0,5,6,7] [] hI))) (fun h=>(t0 h hc1 fun e=>sg [] [0] [] (hb1 _ e)))
noncomputable def b3s (a7:List b5):Option Bool :=
  ((m5 (fun s:Int=>b1Z a7 s) 0).bind fun x=>x.go (fun r=>some r) fun s=>b5i a7)
theorem c94 {a7:List b5} (r:Bool) (h:b3s a7=some r):l8 cx.P 14 [a0 7 i5 a7] (O4.R r) (O4.O r) :=
  m8 O4.X O4.c O4.h (fun z=>m6<|u7 h fun x hl hr hb=>sg [] [0,5,6,7] [] (u9 (I:=fun s:Int=>b8 cx O4.X (O4.R r) (O4.O r) b7X (b6n a7 s)) hl fun s st h hc=>d8Y a7 _ _ x (fun s e=>c9o a7 r (hb s e)) (fun v e=>⟨congrArg O4.R (Option.some.inj (hr v e)).symm,congrArg O4.O (Option.some.inj (hr v e)).symm⟩) st hc s h))
noncomputable def a7H:FS (List g7):=⟨63,Tryz.f63,[.val [some 2] [some 127]],[],[],fun r=>b9 127 2 p8 r,fun _=>[],Tryz.func63⟩
noncomputable def b9v:Option (List g7) :=
  (n8 (0≤(4:Int)∧(4:Int) * 16≤140737488355328) (some (List.replicate (4:Int).toNat (g7.mk 0 0))))
theorem d5r (r:List g7) (h:b9v=some r):l8 cx.P 63 [] (a7H.R r) (a7H.O r) :=
  m8 a7H.X a7H.c a7H.h (fun z=>m6<|o8 h fun e1 h=>mkS 0 2 127 2 16 p8 (g7.mk 0 0) a89 (.none) e1 (by decide) (by rfl)<|j3 (List.replicate (4:Int).toNat (g7.mk 0 0))<|fe z h)
noncomputable def a7X:FS (j4):=⟨33,Tryz.f33,[.val [none,some 2,some 4] [none,some 127,some 89]],[],[],fun r=>.agg [vi r.At,b9 127 2 p8 r.Boxes,b9 89 4 s9 r.Dones],fun _=>[],Tryz.func33⟩
noncomputable def b4p:Option j4 :=
  ((b9v).bind fun a56=>some (j4.mk 0 a56 []))
theorem d6f (r:j4) (h:b4p=some r):l8 cx.P 33 [] (a7X.R r) (a7X.O r) :=
  m8 a7X.X a7X.c a7X.h (fun z=>m6<|d6 a7H d5r 0 h fun a56 h=>j3 a56<|fe z h)
noncomputable def L9:FS (Bool):=⟨97,Tryz.f97,[.val [] []],[none],[.val [some 2] []],fun r=>.b r,fun _=>[none],Tryz.func97⟩
noncomputable def c0s:List Item:=L9.k 3 [false]
noncomputable def c0v (a7:List g7):St:=⟨(a0 2 p8 a7::(bs 24 [])),[some []]⟩
noncomputable def b7b (a7:List g7):Option Bool :=
  some ((a7.length:Int)==4)
theorem d8s (a7:List g7) (r:Bool) (h:b7b a7=some r):b8 cx L9.X (L9.R r) (L9.O r) c0s (c0v a7) :=
  P0<|rg<|fe L9.h h
noncomputable def b6Y:List Item:=L9.k 2 []
noncomputable def b8q (a7:List g7) (v7:Int):St:=⟨(a0 2 p8 a7::(bs 4 (a0 2 p8 a7::(vi (a7.length:Int)::(vi v7::(bs 17 [])))))),[some []]⟩
noncomputable def b3w (a7:List g7) (v7:Int):Option (b6 Bool Int Unit) :=
  (bif decide (v7<(a7.length:Int)) then ((idx a7 v7).bind fun box=>((U4 box.Ver 0 1000000).bind fun in_=>(bif (!in_) then some (b6.ret false) else ((U4 box.Val (-1000000) 1000000).bind fun W5=>(bif (!W5) then some (b6.ret false) else some (b6.nxt (i7 (v7+1)))))))) else some (b6.brk ()))
theorem d7N (a7:List g7) (res:V) (outs:List (Option V)) (x1:b7 Bool Unit) (hb1:HB cx L9.X res outs x1 c0s (fun s=>c0v a7)) (hr1:HR res outs x1 L9.R L9.O) (st1:b6 Bool Int Unit) (hc1:n9 x1 (fun s:Int=>b8 cx L9.X res outs b6Y (b8q a7 s)) st1) (v7:Int) (h:b3w a7 v7=some st1):b8 cx L9.X res outs b6Y (b8q a7 v7) :=
  P0<|rg<|a9 0 h (fun h=>rg<|s5 p8 0 h fun box a22 h=>rg<|d6 T6 a0r 2 h fun in_ h=>a9 4 h (fun h=>rg<|(x6 h hc1 fun e=>x7 L9.h (hr1 _ e))) (fun h=>d6 T6 a0r 7 h fun W5 h=>a9 9 h (fun h=>rg<|(x6 h hc1 fun e=>x7 L9.h (hr1 _ e))) (fun h=>rg<|(u0 h hc1 fun hI=>sg [] [0,5,6,7] [] hI)))) (fun h=>(t0 h hc1 fun e=>sg [] [0] [] (hb1 _ e)))
noncomputable def a7u (a7:List g7):Option Bool :=
  ((m5 (fun s:Int=>b3w a7 s) 0).bind fun x=>x.go (fun r=>some r) fun s=>b7b a7)
theorem b5j {a7:List g7} (r:Bool) (h:a7u a7=some r):l8 cx.P 97 [a0 2 p8 a7] (L9.R r) (L9.O r) :=
  m8 L9.X L9.c L9.h (fun z=>m6<|u7 h fun x hl hr hb=>sg [] [0,5,6,7] [] (u9 (I:=fun s:Int=>b8 cx L9.X (L9.R r) (L9.O r) b6Y (b8q a7 s)) hl fun s st h hc=>d7N a7 _ _ x (fun s e=>d8s a7 r (hb s e)) (fun v e=>⟨congrArg L9.R (Option.some.inj (hr v e)).symm,congrArg L9.O (Option.some.inj (hr v e)).symm⟩) st hc s h))
noncomputable def E5:FS (Bool):=⟨64,Tryz.f64,[.val [] []],[none],[.val [none,some 2,some 4] []],fun r=>.b r,fun _=>[none],Tryz.func64⟩
noncomputable def b5a:List Item:=E5.k 3 [false]
noncomputable def b48 (s_:j4):St:=⟨(bs 1 (.ptr 1 0 0::(bs 64 []))),[some [],some [.var 55 [vi s_.At,a0 2 p8 s_.Boxes,a0 4 s9 s_.Dones]]]⟩
noncomputable def b9c (s_:j4):Option Bool :=
  ((U4 s_.At 0 40).bind fun in_=>(bif in_ then ((a7u s_.Boxes).bind fun a0K=>some a0K) else some false))
theorem d5K (s_:j4) (r:Bool) (h:b9c s_=some r):b8 cx E5.X (E5.R r) (E5.O r) b5a (b48 s_) :=
  P0<|rg<|d6 T6 a0r 2 h fun in_ h=>a9 3 h (fun h=>d6 L9 b5j 6 h fun a0K h=>fe E5.h h) (fun h=>fe E5.h h)
noncomputable def b1i:List Item:=E5.k 2 []
noncomputable def b2d (s_:j4) (v8:Int):St:=⟨(bs 1 (.ptr 1 0 0::(bs 4 (a0 4 s9 s_.Dones::(vi (s_.Dones.length:Int)::(vi v8::(bs 57 []))))))),[some [],some [.var 55 [vi s_.At,a0 2 p8 s_.Boxes,a0 4 s9 s_.Dones]]]⟩
noncomputable def c6b:List Item:=E5.k 5 [true,false]
noncomputable def c17 (s_:j4) (v8:Int):St:=⟨(bs 1 (.ptr 1 0 0::(bs 4 (a0 4 s9 s_.Dones::(vi (s_.Dones.length:Int)::(vi v8::(bs 57 []))))))),[some [],some [.var 55 [vi s_.At,a0 2 p8 s_.Boxes,a0 4 s9 s_.Dones]]]⟩
noncomputable def b6f (v8:Int):Option (b6 Bool Int Unit) :=
  some (b6.nxt (i7 (v8+1)))
theorem d0I (s_:j4) (v8:Int) (res:V) (outs:List (Option V)) (x1:b7 Bool Unit) (hb1:HB cx E5.X res outs x1 b5a (fun s=>b48 s_)) (hr1:HR res outs x1 E5.R E5.O) (st1:b6 Bool Int Unit) (hc1:n9 x1 (fun s:Int=>b8 cx E5.X res outs b1i (b2d s_ s)) st1) (h:b6f v8=some st1):b8 cx E5.X res outs c6b (c17 s_ v8) :=
  P0<|rg<|(u0 h hc1 fun hI=>sg [] [1,6,7,8] [(1,0)] hI)
noncomputable def a9I (s_:j4) (v8:Int):Option (b6 Bool Int Unit) :=
  (bif decide (v8<(s_.Dones.length:Int)) then ((idx s_.Dones v8).bind fun done=>(((bif decide (v8>0) then ((idx s_.Dones (i7 (v8 - 1))).bind fun a2s=>(bif decide (a2s.Req.Who≥done.Req.Who) then some (b7.ret (b6.ret false)) else ((a8H done.Req).bind fun b0C=>(bif (!b0C) then some (b7.ret (b6.ret false)) else ((U4 done.Code 0 2).bind fun W5=>(bif (!W5) then some (b7.ret (b6.ret false)) else ((U4 done.Val (-1000000) 1000000).bind fun S0=>(bif (!S0) then some (b7.ret (b6.ret false)) else (bif (done.Code != 0) then (bif (done.Val != 0) then some (b7.ret (b6.ret false)) else some (b7.brk ())) else some (b7.brk ())))))))))) else ((a8H done.Req).bind fun c21=>(bif (!c21) then some (b7.ret (b6.ret false)) else ((U4 done.Code 0 2).bind fun a83=>(bif (!a83) then some (b7.ret (b6.ret false)) else ((U4 done.Val (-1000000) 1000000).bind fun b0H=>(bif (!b0H) then some (b7.ret (b6.ret false)) else (bif (done.Code != 0) then (bif (done.Val != 0) then some (b7.ret (b6.ret false)) else some (b7.brk ())) else some (b7.brk ()))))))))):Option (b7 (b6 Bool Int Unit) Unit)).bind fun x=>x.go some fun j=>b6f v8)) else some (b6.brk ()))
set_option maxRecDepth 20000 in
theorem d9h (s_:j4) (res:V) (outs:List (Option V)) (x1:b7 Bool Unit) (hb1:HB cx E5.X res outs x1 b5a (fun s=>b48 s_)) (hr1:HR res outs x1 E5.R E5.O) (st1:b6 Bool Int Unit) (hc1:n9 x1 (fun s:Int=>b8 cx E5.X res outs b1i (b2d s_ s)) st1) (v8:Int) (h:a9I s_ v8=some st1):b8 cx E5.X res outs b1i (b2d s_ v8) :=
  P0<|rg<|a9 0 h (fun h=>rg<|s5 s9 1 h fun done b1o h=>A9 (I:=fun j:Unit=>b8 cx E5.X res outs c6b (c17 s_ v8)) h (fun j h=>d0I s_ v8 res outs x1 hb1 hr1 st1 hc1 h) (fun x2 h hc2=>rg<|a9 2 h (fun h=>s5 s9 7 h fun a2s d4O h=>a9 16 h (fun h=>rg<|(A0 h hc2 fun h=>(x6 h hc1 fun e=>x7 E5.h (hr1 _ e)))) (fun h=>d6 a4t b9I 19 h fun b0C h=>a9 22 h (fun h=>rg<|(A0 h hc2 fun h=>(x6 h hc1 fun e=>x7 E5.h (hr1 _ e)))) (fun h=>d6 T6 a0r 25 h fun W5 h=>a9 28 h (fun h=>rg<|(A0 h hc2 fun h=>(x6 h hc1 fun e=>x7 E5.h (hr1 _ e)))) (fun h=>d6 T6 a0r 31 h fun S0 h=>a9 34 h (fun h=>rg<|(A0 h hc2 fun h=>(x6 h hc1 fun e=>x7 E5.h (hr1 _ e)))) (fun h=>a9 38 h (fun h=>a9 43 h (fun h=>rg<|(A0 h hc2 fun h=>(x6 h hc1 fun e=>x7 E5.h (hr1 _ e)))) (fun h=>(m7 h hc2 fun hI=>sg [] [1,6,7,8] [(1,0)] hI))) (fun h=>(m7 h hc2 fun hI=>sg [] [1,6,7,8] [(1,0)] hI))))))) (fun h=>d6 a4t b9I 19 h fun c21 h=>a9 22 h (fun h=>rg<|(A0 h hc2 fun h=>(x6 h hc1 fun e=>x7 E5.h (hr1 _ e)))) (fun h=>d6 T6 a0r 25 h fun a83 h=>a9 28 h (fun h=>rg<|(A0 h hc2 fun h=>(x6 h hc1 fun e=>x7 E5.h (hr1 _ e)))) (fun h=>d6 T6 a0r 31 h fun b0H h=>a9 34 h (fun h=>rg<|(A0 h hc2 fun h=>(x6 h hc1 fun e=>x7 E5.h (hr1 _ e)))) (fun h=>a9 38 h (fun h=>a9 43 h (fun h=>rg<|(A0 h hc2 fun h=>(x6 h hc1 fun e=>x7 E5.h (hr1 _ e)))) (fun h=>(m7 h hc2 fun hI=>sg [] [1,6,7,8] [(1,0)] hI))) (fun h=>(m7 h hc2 fun hI=>sg [] [1,6,7,8] [(1,0)] hI)))))))) (fun h=>(t0 h hc1 fun e=>sg [] [1] [(1,0)] (hb1 _ e)))
noncomputable def b3W (s_:j4):Option Bool :=
  ((m5 (fun s:Int=>a9I s_ s) 0).bind fun x=>x.go (fun r=>some r) fun s=>b9c s_)
theorem d2K {s_:j4} (r:Bool) (h:b3W s_=some r):l8 cx.P 64 [.agg (b0L s_)] (E5.R r) (E5.O r) :=
  m8 E5.X E5.c E5.h (fun z=>m6<|u7 h fun x hl hr hb=>sg [] [1,6,7,8] [(1,0)] (u9 (I:=fun s:Int=>b8 cx E5.X (E5.R r) (E5.O r) b1i (b2d s_ s)) hl fun s st h hc=>d9h s_ _ _ x (fun s e=>d5K s_ r (hb s e)) (fun v e=>⟨congrArg E5.R (Option.some.inj (hr v e)).symm,congrArg E5.O (Option.some.inj (hr v e)).symm⟩) st hc s h))
noncomputable def a6i:FS (List g7):=⟨65,Tryz.f65,[.val [some 2] [some 127]],[none],[.val [some 2] []],fun r=>b9 127 2 p8 r,fun _=>[none],Tryz.func65⟩
noncomputable def a7I (a7:List g7):Option (List g7) :=
  (bif ((a7.length:Int)==0) then some [] else (n8 (0≤(a7.length:Int)∧(a7.length:Int) * 16≤140737488355328) ((n8 (a7.length=(List.replicate (a7.length:Int).toNat (g7.mk 0 0)).length) (some a7)))))
theorem c8K {a7:List g7} (r:List g7) (h:a7I a7=some r):l8 cx.P 65 [a0 2 p8 a7] (a6i.R r) (a6i.O r) :=
  m8 a6i.X a6i.c a6i.h (fun z=>m6<|a9 2 h (fun h=>rg<|fe z h) (fun h=>rg<|o8 h fun e1 h=>mkS 2 7 127 2 16 p8 (g7.mk 0 0) a89 (.none) e1 (by decide) (by rfl)<|rg<|o8 h fun e2 h=>om (l7.row 127 2 (List.replicate (a7.length:Int).toNat (g7.mk 0 0)).length (a7.map p8)=d8 127 2 p8 a7) (b5R e2)<|j3 (List.replicate (a7.length:Int).toNat (g7.mk 0 0))<|ob e2<|tl (2,{ e:=some (d8 127 2 p8 a7) })<|rg<|om ((List.replicate (a7.length:Int).toNat (g7.mk 0 0)).length=a7.length) (by simp)<|fe z h))
noncomputable def a2e:FS (List d9):=⟨66,Tryz.f66,[.val [some 4] [some 89]],[none],[.val [some 4] []],fun r=>b9 89 4 s9 r,fun _=>[none],Tryz.func66⟩
noncomputable def a4v (a7:List d9):Option (List d9) :=
  (bif ((a7.length:Int)==0) then some [] else (n8 (0≤(a7.length:Int)∧(a7.length:Int) * 32≤140737488355328) ((n8 (a7.length=(List.replicate (a7.length:Int).toNat (d9.mk (g9.mk 0 0) 0 0)).length) (some a7)))))
theorem b7z {a7:List d9} (r:List d9) (h:a4v a7=some r):l8 cx.P 66 [a0 4 s9 a7] (a2e.R r) (a2e.O r) :=
  m8 a2e.X a2e.c a2e.h (fun z=>m6<|a9 2 h (fun h=>rg<|fe z h) (fun h=>rg<|o8 h fun e1 h=>mkS 2 7 89 4 32 s9 (d9.mk (g9.mk 0 0) 0 0) b7H (.none) e1 (by decide) (by rfl)<|rg<|o8 h fun e2 h=>om (l7.row 89 4 (List.replicate (a7.length:Int).toNat (d9.mk (g9.mk 0 0) 0 0)).length (a7.map s9)=d8 89 4 s9 a7) (b5R e2)<|j3 (List.replicate (a7.length:Int).toNat (d9.mk (g9.mk 0 0) 0 0))<|ob e2<|tl (2,{ e:=some (d8 89 4 s9 a7) })<|rg<|om ((List.replicate (a7.length:Int).toNat (d9.mk (g9.mk 0 0) 0 0)).length=a7.length) (by simp)<|fe z h))
noncomputable def O9:FS (Bool):=⟨67,Tryz.f67,[.val [] []],[none,none],[.val [some 2] [],.val W6 []],fun r=>.b r,fun _=>[none,none],Tryz.func67⟩
noncomputable def b93:List Item:=O9.k 4 [false,false]
noncomputable def c5I:St:=⟨(bs 32 []),[some []]⟩
noncomputable def c4n:Option Bool :=
  some true
theorem d14 (r:Bool) (h:c4n=some r):b8 cx O9.X (O9.R r) (O9.O r) b93 (c5I) :=
  P0<|rg<|fe O9.h h
noncomputable def b55:List Item:=O9.k 3 [false]
noncomputable def b7a (a7:List g7) (r_:i6) (v18:Int):St:=⟨(a0 2 p8 a7::(bs 15 (a0 2 i4 r_.Reads::(vi (r_.Reads.length:Int)::(vi v18::(bs 13 [])))))),[some []]⟩
noncomputable def b38 (a7:List g7) (r_:i6) (v18:Int):Option (b6 Bool Int Unit) :=
  (bif decide (v18<(r_.Reads.length:Int)) then ((idx r_.Reads v18).bind fun E6=>((idx a7 E6.Box).bind fun box=>(bif (box.Ver != E6.Ver) then some (b6.ret false) else some (b6.nxt (i7 (v18+1)))))) else some (b6.brk ()))
theorem d0J (a7:List g7) (r_:i6) (res:V) (outs:List (Option V)) (x1:b7 Bool Unit) (hb1:HB cx O9.X res outs x1 b93 (fun s=>c5I)) (hr1:HR res outs x1 O9.R O9.O) (st1:b6 Bool Int Unit) (hc1:n9 x1 (fun s:Int=>b8 cx O9.X res outs b55 (b7a a7 r_ s)) st1) (v18:Int) (h:b38 a7 r_ v18=some st1):b8 cx O9.X res outs b55 (b7a a7 r_ v18) :=
  P0<|rg<|a9 0 h (fun h=>rg<|s5 i4 0 h fun E6 a3z h=>rg<|s5 p8 3 h fun box a22 h=>a9 8 h (fun h=>rg<|(x6 h hc1 fun e=>x7 O9.h (hr1 _ e))) (fun h=>rg<|(u0 h hc1 fun hI=>sg [] [0,16,17,18] [] hI))) (fun h=>(t0 h hc1 fun e=>sg [] [] [] (hb1 _ e)))
noncomputable def b1a (a7:List g7) (r_:i6):Option Bool :=
  ((a7u a7).bind fun a0K=>(bif (!a0K) then some false else ((a7E r_).bind fun a0R=>(bif (!a0R) then some false else ((m5 (fun s:Int=>b38 a7 r_ s) 0).bind fun x=>x.go (fun r=>some r) fun s=>c4n)))))
theorem d9r {a7:List g7} {r_:i6} (r:Bool) (h:b1a a7 r_=some r):l8 cx.P 67 [a0 2 p8 a7,.agg (L5 r_)] (O9.R r) (O9.O r) :=
  m8 O9.X O9.c O9.h (fun z=>m6<|d6 L9 b5j 1 h fun a0K h=>a9 3 h (fun h=>rg<|fe z h) (fun h=>d6 A6 b58 5 h fun a0R h=>a9 7 h (fun h=>rg<|fe z h) (fun h=>rg<|u7 h fun x hl hr hb=>sg [] [0,16,17,18] [] (u9 (I:=fun s:Int=>b8 cx O9.X (O9.R r) (O9.O r) b55 (b7a a7 r_ s)) hl fun s st h hc=>d0J a7 r_ _ _ x (fun s e=>d14 r (hb s e)) (fun v e=>⟨congrArg O9.R (Option.some.inj (hr v e)).symm,congrArg O9.O (Option.some.inj (hr v e)).symm⟩) st hc s h))))
noncomputable def Q4:FS (List g7):=⟨68,Tryz.f68,[.val [some 2] [some 127]],[none,none],[.val [some 2] [],.val W6 []],fun r=>b9 127 2 p8 r,fun _=>[none,none],Tryz.func68⟩
noncomputable def c41:List Item:=Q4.k 5 [false,false]
noncomputable def c6v (out1:List g7):St:=⟨(bs 5 (.own 1 0 2 0 out1.length::(bs 36 []))),[some [],some [d8 127 2 p8 out1]]⟩
noncomputable def c0d (out1:List g7):Option (List g7) :=
  some out1
theorem d3Y (r:List g7) (out1:List g7) (h:c0d out1=some r):b8 cx Q4.X (Q4.R r) (Q4.O r) c41 (c6v out1) :=
  P0<|rg<|j3 out1<|fe Q4.h h
noncomputable def b4S:List Item:=Q4.k 4 [false]
noncomputable def b90 (r_:i6) (out:List g7) (v21:Int):St:=⟨(bs 5 (.own 1 0 2 0 out.length::(bs 13 (a0 2 i0 r_.Puts::(vi (r_.Puts.length:Int)::(vi v21::(bs 20 []))))))),[some [],some [d8 127 2 p8 out]]⟩
noncomputable def b3Y (r_:i6) (out:List g7) (v21:Int):Option (b6 (List g7) ((List g7)×Int) (List g7)) :=
  (bif decide (v21<(r_.Puts.length:Int)) then ((idx r_.Puts v21).bind fun put=>((idx out put.Box).bind fun a1X=>some (b6.nxt (out.set put.Box.toNat (g7.mk (if (i7 (a1X.Ver+1))<1000000 then (i7 (a1X.Ver+1)) else 1000000) put.Val),i7 (v21+1))))) else some (b6.brk out))
theorem c9F (r_:i6) (res:V) (outs:List (Option V)) (x1:b7 (List g7) (List g7)) (hb1:HB cx Q4.X res outs x1 c41 c6v) (hr1:HR res outs x1 Q4.R Q4.O) (st1:b6 (List g7) ((List g7)×Int) (List g7)) (hc1:n9 x1 (fun s:(List g7)×Int=>b8 cx Q4.X res outs b4S (b90 r_ s.1 s.2)) st1) (out:List g7) (v21:Int) (h:b3Y r_ out v21=some st1):b8 cx Q4.X res outs b4S (b90 r_ out v21) :=
  P0<|rg<|a9 0 h (fun h=>rg<|s5 i0 0 h fun put hput h=>rg<|D9 h fun a1X b0V h=>B8 b0V<|R2 p8 8 b0V<|B8 b0V<|stR 127 2 p8 15 [] (g7.mk (if (i7 (a1X.Ver+1))<1000000 then (i7 (a1X.Ver+1)) else 1000000) put.Val) b0V<|rg<|(u0 h hc1 fun hI=>om ((.own 1 0 2 0 out.length:V) = .own 1 0 2 0 (out.set put.Box.toNat (g7.mk (if (i7 (a1X.Ver+1))<1000000 then (i7 (a1X.Ver+1)) else 1000000) put.Val)).length) (by simp)<|sg [.is (.tmp 5) (.own 1 0 2 0 (out.set put.Box.toNat (g7.mk (if (i7 (a1X.Ver+1))<1000000 then (i7 (a1X.Ver+1)) else 1000000) put.Val)).length)] [5,19,20,21] [(1,0)] hI)) (fun h=>(t0 h hc1 fun e=>sg [] [5] [(1,0)] (hb1 _ e)))
noncomputable def b2f (a7:List g7) (r_:i6):Option (List g7) :=
  ((a7u a7).bind fun a0K=>(bif (!a0K) then some [] else ((a7E r_).bind fun a0R=>(bif (!a0R) then some [] else ((a7I a7).bind fun box=>((m5 (fun s:(List g7)×Int=>b3Y r_ s.1 s.2) (box,0)).bind fun x=>x.go (fun r=>some r) fun s=>c0d s))))))
theorem d8d {a7:List g7} {r_:i6} (r:List g7) (h:b2f a7 r_=some r):l8 cx.P 68 [a0 2 p8 a7,.agg (L5 r_)] (Q4.R r) (Q4.O r) :=
  m8 Q4.X Q4.c Q4.h (fun z=>m6<|d6 L9 b5j 1 h fun a0K h=>a9 3 h (fun h=>rg<|fe z h) (fun h=>d6 A6 b58 5 h fun a0R h=>a9 7 h (fun h=>rg<|fe z h) (fun h=>rg<|d6 a6i c8K 1 h fun box h=>rg<|u7 h fun x hl hr hb=>sg [] [5,19,20,21] [(12,0)] (u9 (I:=fun s:(List g7)×Int=>b8 cx Q4.X (Q4.R r) (Q4.O r) b4S (b90 r_ s.1 s.2)) hl fun s st h hc=>c9F r_ _ _ x (fun s e=>d3Y r s (hb s e)) (fun v e=>⟨congrArg Q4.R (Option.some.inj (hr v e)).symm,congrArg Q4.O (Option.some.inj (hr v e)).symm⟩) st hc s.1 s.2 h))))
noncomputable def s7:FS (j4×Int):=⟨34,Tryz.f34,[.val [none,some 2,some 4] [none,some 127,some 89],.val [] []],[none,none],[.val [none,some 2,some 4] [],.val N3 []],fun r=>.tup [.agg [vi r.1.At,b9 127 2 p8 r.1.Boxes,b9 89 4 s9 r.1.Dones],vi r.2],fun _=>[none,none],Tryz.func34⟩
noncomputable def b7F:List Item:=s7.k 6 [false,false,false]
noncomputable def b42 (s_:j4) (e_:b5) (box:List g7):St:=⟨(bs 2 (.ptr 1 0 0::(.ptr 2 0 0::(.ptr 3 0 0::(bs 1 (.ptr 4 0 0::(bs 145 []))))))),[some [],some [.var 55 [vi s_.At,a0 2 p8 s_.Boxes,a0 4 s9 s_.Dones]],some [.var 34 [.b e_.None,vi e_.Req.Who,vi e_.Req.Seq,a0 2 i4 e_.Run.Reads,a0 2 i0 e_.Run.Puts,vi e_.Run.Val,vi e_.Run.Code]],some [.var 55 [vi 0,.nil,.nil]],some [.var 55 [vi (i7 (s_.At+1)),.own 5 0 2 0 box.length,.nil]],some [d8 127 2 p8 box]]⟩
noncomputable def c8t:List Item:=s7.k 9 [false,false,false,true]
noncomputable def c2S (s_:j4) (own:d9) (Boxes:List g7):St:=⟨(bs 2 (.ptr 1 0 0::(bs 1 (.ptr 2 0 0::(bs 1 (.ptr 3 0 0::(bs 2 (.ptr 5 0 0::(bs 142 []))))))))),[some [],some [.var 55 [vi s_.At,a0 2 p8 s_.Boxes,a0 4 s9 s_.Dones]],some [.var 55 [vi 0,.nil,.nil]],some [.var 55 [vi (i7 (s_.At+1)),.own 4 0 2 0 Boxes.length,.nil]],some [d8 127 2 p8 Boxes],some [.var 89 [vi own.Req.Who,vi own.Req.Seq,vi own.Code,vi own.Val]]]⟩
noncomputable def b2J:List Item:=s7.k 13 [false,false,false,true,false]
noncomputable def b1Y (s_:j4) (own:d9) (Boxes:List g7) (a20:List d9) (M9:Bool):St:=⟨(bs 4 (.ptr 1 0 0::(bs 1 (.ptr 2 0 0::(bs 2 (.ptr 4 0 0::(.own 5 0 4 0 a20.length::(.b M9::(bs 140 []))))))))),[some [],some [.var 55 [vi 0,.nil,.nil]],some [.var 55 [vi (i7 (s_.At+1)),.own 3 0 2 0 Boxes.length,.nil]],some [d8 127 2 p8 Boxes],some [.var 89 [vi own.Req.Who,vi own.Req.Seq,vi own.Code,vi own.Val]],some [d8 89 4 s9 a20]]⟩
noncomputable def c1c:List Item:=s7.k 15 [false,false,false,true,false,true]
noncomputable def c5a (s_:j4) (own:d9) (Boxes:List g7) (a4O:List d9):St:=⟨(bs 4 (.ptr 1 0 0::(bs 1 (.ptr 2 0 0::(bs 2 (.ptr 4 0 0::(.own 5 0 4 0 a4O.length::(bs 141 [])))))))),[some [],some [.var 55 [vi 0,.nil,.nil]],some [.var 55 [vi (i7 (s_.At+1)),.own 3 0 2 0 Boxes.length,.nil]],some [d8 127 2 p8 Boxes],some [.var 89 [vi own.Req.Who,vi own.Req.Seq,vi own.Code,vi own.Val]],some [d8 89 4 s9 a4O]]⟩
noncomputable def b6F (s_:j4) (own:d9) (Boxes:List g7) (a4O:List d9):Option (j4×Int) :=
  ((a4v a4O).bind fun a2s=>some ((j4.mk (i7 (s_.At+1)) Boxes a2s),own.Code))
theorem d0N (s_:j4) (own:d9) (Boxes:List g7) (r:j4×Int) (a4O:List d9) (h:b6F s_ own Boxes a4O=some r):b8 cx s7.X (s7.R r) (s7.O r) c1c (c5a s_ own Boxes a4O) :=
  P0<|rg<|W9 a2e b7z 1 h fun a2s h=>om (B9 (a2e.R a2s)∧H1 (a2e.O a2s)) ⟨(by simp [a2e,B9,a0u,U9,V.simple,vi,b9,s9,eI,w9]),K1 1⟩<|j3 a4O<|rg<|G4 Boxes a2s<|fe s7.h h
noncomputable def b4T (s_:j4) (own:d9) (Boxes:List g7) (a20:List d9) (M9:Bool):Option (j4×Int) :=
  (((bif (!M9) then (n8 ((a20.length+1) * 32≤140737488355328) (some (b7.brk (a20++[own])))) else some (b7.brk a20)):Option (b7 (j4×Int) (List d9))).bind fun x=>x.go some fun j=>b6F s_ own Boxes j)
theorem d0j (s_:j4) (own:d9) (Boxes:List g7) (r:j4×Int) (a20:List d9) (M9:Bool) (h:b4T s_ own Boxes a20 M9=some r):b8 cx s7.X (s7.R r) (s7.O r) b2J (b1Y s_ own Boxes a20 M9) :=
  P0<|A9 (I:=fun j:List d9=>b8 cx s7.X (s7.R r) (s7.O r) c1c (c5a s_ own Boxes j)) h (fun j h=>d0N s_ own Boxes r j h) (fun x1 h hc1=>rg<|a9 1 h (fun h=>rg<|tl (2,{ a:=.ck [] })<|o8 h fun e1 h=>J8 3 11 89 4 32 s9 a20 own e1<|om (1=[own].length) (by rfl)<|(m7 h hc1 fun hI=>sg [] [4,6,9,10] [(1,0),(2,0),(3,0),(4,0),(11,0)] hI)) (fun h=>(m7 h hc1 fun hI=>sg [] [4,6,9,10] [(1,0),(2,0),(3,0),(4,0),(5,0)] hI)))
noncomputable def a9b:List Item:=s7.k 12 [false,false,false,true]
noncomputable def a9G (s_:j4) (own:d9) (Boxes:List g7) (dones:List d9) (M4:Int) (put:Bool):St:=⟨(bs 4 (.ptr 1 0 0::(bs 1 (.ptr 2 0 0::(bs 2 (.ptr 4 0 0::(.own 5 0 4 0 dones.length::(.b put::(bs 95 (a0 4 s9 s_.Dones::(vi (s_.Dones.length:Int)::(vi M4::(bs 42 []))))))))))))),[some [],some [.var 55 [vi 0,.nil,.nil]],some [.var 55 [vi (i7 (s_.At+1)),.own 3 0 2 0 Boxes.length,.nil]],some [d8 127 2 p8 Boxes],some [.var 89 [vi own.Req.Who,vi own.Req.Seq,vi own.Code,vi own.Val]],some [d8 89 4 s9 dones]]⟩
noncomputable def c68:List Item:=s7.k 17 [false,false,false,true,true,true]
noncomputable def c8Q (s_:j4) (own:d9) (Boxes:List g7) (M4:Int) (V0:d9) (a28:List d9) (a0v:Bool):St:=⟨(bs 4 (.ptr 1 0 0::(bs 1 (.ptr 2 0 0::(bs 2 (.ptr 4 0 0::(.own 5 0 4 0 a28.length::(.b a0v::(bs 1 (.ptr 6 0 0::(bs 93 (a0 4 s9 s_.Dones::(vi (s_.Dones.length:Int)::(vi M4::(bs 42 []))))))))))))))),[some [],some [.var 55 [vi 0,.nil,.nil]],some [.var 55 [vi (i7 (s_.At+1)),.own 3 0 2 0 Boxes.length,.nil]],some [d8 127 2 p8 Boxes],some [.var 89 [vi own.Req.Who,vi own.Req.Seq,vi own.Code,vi own.Val]],some [d8 89 4 s9 a28],some [.var 89 [vi V0.Req.Who,vi V0.Req.Seq,vi V0.Code,vi V0.Val]]]⟩
noncomputable def c6Y:List Item:=s7.k 19 [false,false,false,true,true,true,true]
noncomputable def b98 (s_:j4) (own:d9) (Boxes:List g7) (M4:Int) (a0v:Bool) (a53:List d9):St:=⟨(bs 4 (.ptr 1 0 0::(bs 1 (.ptr 2 0 0::(bs 2 (.ptr 4 0 0::(.own 5 0 4 0 a53.length::(.b a0v::(bs 95 (a0 4 s9 s_.Dones::(vi (s_.Dones.length:Int)::(vi M4::(bs 42 []))))))))))))),[some [],some [.var 55 [vi 0,.nil,.nil]],some [.var 55 [vi (i7 (s_.At+1)),.own 3 0 2 0 Boxes.length,.nil]],some [d8 127 2 p8 Boxes],some [.var 89 [vi own.Req.Who,vi own.Req.Seq,vi own.Code,vi own.Val]],some [d8 89 4 s9 a53]]⟩
noncomputable def b5K (M4:Int) (a0v:Bool) (a53:List d9):Option (b6 (j4×Int) ((List d9)×Int×Bool) ((List d9)×Bool)) :=
  some (b6.nxt (a53,i7 (M4+1),a0v))
theorem d6J (s_:j4) (own:d9) (Boxes:List g7) (M4:Int) (a0v:Bool) (res:V) (outs:List (Option V)) (x1:b7 (j4×Int) ((List d9)×Bool)) (hb1:HB cx s7.X res outs x1 b2J (fun s=>b1Y s_ own Boxes s.1 s.2)) (hr1:HR res outs x1 s7.R s7.O) (st1:b6 (j4×Int) ((List d9)×Int×Bool) ((List d9)×Bool)) (hc1:n9 x1 (fun s:(List d9)×Int×Bool=>b8 cx s7.X res outs a9b (a9G s_ own Boxes s.1 s.2.1 s.2.2)) st1) (a53:List d9) (h:b5K M4 a0v a53=some st1):b8 cx s7.X res outs c6Y (b98 s_ own Boxes M4 a0v a53) :=
  P0<|rg<|(u0 h hc1 fun hI=>sg [] [4,6,9,10,11,107,108,109] [(1,0),(2,0),(3,0),(4,0),(5,0)] hI)
noncomputable def b7r (own:d9) (M4:Int) (V0:d9) (a28:List d9) (a0v:Bool):Option (b6 (j4×Int) ((List d9)×Int×Bool) ((List d9)×Bool)) :=
  (((bif (V0.Req.Who != own.Req.Who) then (n8 ((a28.length+1) * 32≤140737488355328) (some (b7.brk (a28++[V0])))) else some (b7.brk a28)):Option (b7 (b6 (j4×Int) ((List d9)×Int×Bool) ((List d9)×Bool)) (List d9))).bind fun x=>x.go some fun j=>b5K M4 a0v j)
theorem d2b (s_:j4) (own:d9) (Boxes:List g7) (M4:Int) (V0:d9) (res:V) (outs:List (Option V)) (x1:b7 (j4×Int) ((List d9)×Bool)) (hb1:HB cx s7.X res outs x1 b2J (fun s=>b1Y s_ own Boxes s.1 s.2)) (hr1:HR res outs x1 s7.R s7.O) (st1:b6 (j4×Int) ((List d9)×Int×Bool) ((List d9)×Bool)) (hc1:n9 x1 (fun s:(List d9)×Int×Bool=>b8 cx s7.X res outs a9b (a9G s_ own Boxes s.1 s.2.1 s.2.2)) st1) (a28:List d9) (a0v:Bool) (h:b7r own M4 V0 a28 a0v=some st1):b8 cx s7.X res outs c68 (c8Q s_ own Boxes M4 V0 a28 a0v) :=
  P0<|A9 (I:=fun j:List d9=>b8 cx s7.X res outs c6Y (b98 s_ own Boxes M4 a0v j)) h (fun j h=>d6J s_ own Boxes M4 a0v res outs x1 hb1 hr1 st1 hc1 j h) (fun x2 h hc2=>rg<|a9 6 h (fun h=>rg<|tl (2,{ a:=.ck [] })<|o8 h fun e2 h=>J8 3 17 89 4 32 s9 a28 V0 e2<|om (1=[V0].length) (by rfl)<|(m7 h hc2 fun hI=>sg [] [4,6,9,10,11,107,108,109] [(1,0),(2,0),(3,0),(4,0),(17,0)] hI)) (fun h=>(m7 h hc2 fun hI=>sg [] [4,6,9,10,11,107,108,109] [(1,0),(2,0),(3,0),(4,0),(5,0)] hI)))
noncomputable def a9j (s_:j4) (own:d9) (dones:List d9) (M4:Int) (put:Bool):Option (b6 (j4×Int) ((List d9)×Int×Bool) ((List d9)×Bool)) :=
  (bif decide (M4<(s_.Dones.length:Int)) then ((idx s_.Dones M4).bind fun V0=>(((bif (!put) then (bif decide (V0.Req.Who≥own.Req.Who) then (n8 ((dones.length+1) * 32≤140737488355328) (some (b7.brk (dones++[own],true)))) else some (b7.brk (dones,put))) else some (b7.brk (dones,put))):Option (b7 (b6 (j4×Int) ((List d9)×Int×Bool) ((List d9)×Bool)) ((List d9)×Bool))).bind fun x=>x.go some fun j=>b7r own M4 V0 j.1 j.2)) else some (b6.brk (dones,put)))
theorem d2A (s_:j4) (own:d9) (Boxes:List g7) (res:V) (outs:List (Option V)) (x1:b7 (j4×Int) ((List d9)×Bool)) (hb1:HB cx s7.X res outs x1 b2J (fun s=>b1Y s_ own Boxes s.1 s.2)) (hr1:HR res outs x1 s7.R s7.O) (st1:b6 (j4×Int) ((List d9)×Int×Bool) ((List d9)×Bool)) (hc1:n9 x1 (fun s:(List d9)×Int×Bool=>b8 cx s7.X res outs a9b (a9G s_ own Boxes s.1 s.2.1 s.2.2)) st1) (dones:List d9) (M4:Int) (put:Bool) (h:a9j s_ own dones M4 put=some st1):b8 cx s7.X res outs a9b (a9G s_ own Boxes dones M4 put) :=
  P0<|rg<|a9 0 h (fun h=>rg<|s5 s9 0 h fun V0 d9F h=>A9 (I:=fun j:(List d9)×Bool=>b8 cx s7.X res outs c68 (c8Q s_ own Boxes M4 V0 j.1 j.2)) h (fun j h=>d2b s_ own Boxes M4 V0 res outs x1 hb1 hr1 st1 hc1 j.1 j.2 h) (fun x2 h hc2=>rg<|a9 2 h (fun h=>a9 10 h (fun h=>rg<|tl (2,{ a:=.ck [] })<|o8 h fun e3 h=>J8 3 25 89 4 32 s9 dones own e3<|om (1=[own].length) (by rfl)<|rg<|(m7 h hc2 fun hI=>sg [] [4,6,9,10,11,13,107,108,109] [(1,0),(2,0),(3,0),(4,0),(25,0),(9,0)] hI)) (fun h=>(m7 h hc2 fun hI=>sg [] [4,6,9,10,11,13,107,108,109] [(1,0),(2,0),(3,0),(4,0),(5,0),(9,0)] hI))) (fun h=>(m7 h hc2 fun hI=>sg [] [4,6,9,10,11,13,107,108,109] [(1,0),(2,0),(3,0),(4,0),(5,0),(9,0)] hI)))) (fun h=>(t0 h hc1 fun e=>sg [] [4,6,9,10,11] [(1,0),(2,0),(3,0),(4,0),(5,0)] (hb1 _ e)))
noncomputable def b13 (s_:j4) (own:d9) (Boxes:List g7):Option (j4×Int) :=
  ((m5 (fun s:(List d9)×Int×Bool=>a9j s_ own s.1 s.2.1 s.2.2) ([],0,false)).bind fun x=>x.go (fun r=>some r) fun s=>b4T s_ own Boxes s.1 s.2)
theorem d28 (s_:j4) (r:j4×Int) (own:d9) (Boxes:List g7) (h:b13 s_ own Boxes=some r):b8 cx s7.X (s7.R r) (s7.O r) c8t (c2S s_ own Boxes) :=
  P0<|X6<|u7 h fun x hl hr hb=>sg [.own (.tmp 10) 89 4] [4,6,9,10,11,107,108,109] [(2,0),(3,0),(4,0),(5,0),(12,0)] (u9 (I:=fun s:(List d9)×Int×Bool=>b8 cx s7.X (s7.R r) (s7.O r) a9b (a9G s_ own Boxes s.1 s.2.1 s.2.2)) hl fun s st h hc=>d2A s_ own Boxes _ _ x (fun s e=>d0j s_ own Boxes r s.1 s.2 (hb s e)) (fun v e=>⟨congrArg s7.R (Option.some.inj (hr v e)).symm,congrArg s7.O (Option.some.inj (hr v e)).symm⟩) st hc s.1 s.2.1 s.2.2 h)
noncomputable def b10 (s_:j4) (e_:b5) (box:List g7):Option (j4×Int) :=
  ((((b1a s_.Boxes e_.Run).bind fun a2L=>(bif (!a2L) then some (b7.brk ((d9.mk e_.Req 1 0),box)) else (bif (e_.Run.Code != 0) then some (b7.brk ((d9.mk e_.Req 2 0),box)) else ((b2f s_.Boxes e_.Run).bind fun c2g=>some (b7.brk ((d9.mk e_.Req 0 e_.Run.Val),c2g)))))):Option (b7 (j4×Int) (d9×List g7))).bind fun x=>x.go some fun j=>b13 s_ j.1 j.2)
theorem d8I (s_:j4) (e_:b5) (box:List g7) (r:j4×Int) (h:b10 s_ e_ box=some r):b8 cx s7.X (s7.R r) (s7.O r) b7F (b42 s_ e_ box) :=
  P0<|rg<|A9 (I:=fun j:d9×List g7=>b8 cx s7.X (s7.R r) (s7.O r) c8t (c2S s_ j.1 j.2)) h (fun j h=>d28 s_ r j.1 j.2 h) (fun x1 h hc1=>rg<|d6 O9 d9r 4 h fun a2L h=>a9 6 h (fun h=>rg<|(m7 h hc1 fun hI=>sg [] [2,4,6,9] [(1,0),(3,0),(4,0),(5,0),(9,0)] hI)) (fun h=>rg<|a9 4 h (fun h=>rg<|(m7 h hc1 fun hI=>sg [] [2,4,6,9] [(1,0),(3,0),(4,0),(5,0),(9,0)] hI)) (fun h=>m6<|d6 Q4 d8d 4 h fun c2g h=>(m7 h hc1 fun hI=>sg [] [2,4,6,9] [(1,0),(3,0),(4,0),(32,0),(9,0)] hI))))
noncomputable def b4P:List Item:=s7.k 5 [false,false]
noncomputable def b1Q (s_:j4) (e_:b5) (box:List g7) (v45:Int):St:=⟨(bs 2 (.ptr 1 0 0::(.ptr 2 0 0::(.ptr 3 0 0::(bs 1 (.ptr 4 0 0::(bs 36 (a0 4 s9 s_.Dones::(vi (s_.Dones.length:Int)::(vi v45::(bs 106 []))))))))))),[some [],some [.var 55 [vi s_.At,a0 2 p8 s_.Boxes,a0 4 s9 s_.Dones]],some [.var 34 [.b e_.None,vi e_.Req.Who,vi e_.Req.Seq,a0 2 i4 e_.Run.Reads,a0 2 i0 e_.Run.Puts,vi e_.Run.Val,vi e_.Run.Code]],some [.var 55 [vi 0,.nil,.nil]],some [.var 55 [vi (i7 (s_.At+1)),.own 5 0 2 0 box.length,.nil]],some [d8 127 2 p8 box]]⟩
noncomputable def c5C:List Item:=s7.k 8 [false,false,true,false]
noncomputable def c1m (s_:j4) (e_:b5) (box:List g7) (v45:Int):St:=⟨(bs 2 (.ptr 1 0 0::(.ptr 2 0 0::(.ptr 3 0 0::(bs 1 (.ptr 4 0 0::(bs 36 (a0 4 s9 s_.Dones::(vi (s_.Dones.length:Int)::(vi v45::(bs 106 []))))))))))),[some [],some [.var 55 [vi s_.At,a0 2 p8 s_.Boxes,a0 4 s9 s_.Dones]],some [.var 34 [.b e_.None,vi e_.Req.Who,vi e_.Req.Seq,a0 2 i4 e_.Run.Reads,a0 2 i0 e_.Run.Puts,vi e_.Run.Val,vi e_.Run.Code]],some [.var 55 [vi 0,.nil,.nil]],some [.var 55 [vi (i7 (s_.At+1)),.own 5 0 2 0 box.length,.nil]],some [d8 127 2 p8 box]]⟩
noncomputable def b6Z (v45:Int):Option (b6 (j4×Int) Int Unit) :=
  some (b6.nxt (i7 (v45+1)))
theorem d0v (s_:j4) (e_:b5) (box:List g7) (v45:Int) (res:V) (outs:List (Option V)) (x1:b7 (j4×Int) Unit) (hb1:HB cx s7.X res outs x1 b7F (fun s=>b42 s_ e_ box)) (hr1:HR res outs x1 s7.R s7.O) (st1:b6 (j4×Int) Int Unit) (hc1:n9 x1 (fun s:Int=>b8 cx s7.X res outs b4P (b1Q s_ e_ box s)) st1) (h:b6Z v45=some st1):b8 cx s7.X res outs c5C (c1m s_ e_ box v45) :=
  P0<|rg<|(u0 h hc1 fun hI=>sg [] [2,3,4,6,43,44,45] [(1,0),(2,0),(3,0),(4,0),(5,0)] hI)
noncomputable def b3h (s_:j4) (e_:b5) (box:List g7) (v45:Int):Option (b6 (j4×Int) Int Unit) :=
  (bif decide (v45<(s_.Dones.length:Int)) then ((idx s_.Dones v45).bind fun b1G=>(((bif (b1G.Req.Who==e_.Req.Who) then (bif decide (b1G.Req.Seq≥e_.Req.Seq) then ((a4v s_.Dones).bind fun b0K=>(bif (b1G.Req.Seq==e_.Req.Seq) then some (b7.ret (b6.ret ((j4.mk (i7 (s_.At+1)) box b0K),3))) else some (b7.ret (b6.ret ((j4.mk (i7 (s_.At+1)) box b0K),4))))) else some (b7.brk ())) else some (b7.brk ())):Option (b7 (b6 (j4×Int) Int Unit) Unit)).bind fun x=>x.go some fun j=>b6Z v45)) else some (b6.brk ()))
theorem d9i (s_:j4) (e_:b5) (box:List g7) (res:V) (outs:List (Option V)) (x1:b7 (j4×Int) Unit) (hb1:HB cx s7.X res outs x1 b7F (fun s=>b42 s_ e_ box)) (hr1:HR res outs x1 s7.R s7.O) (st1:b6 (j4×Int) Int Unit) (hc1:n9 x1 (fun s:Int=>b8 cx s7.X res outs b4P (b1Q s_ e_ box s)) st1) (v45:Int) (h:b3h s_ e_ box v45=some st1):b8 cx s7.X res outs b4P (b1Q s_ e_ box v45) :=
  P0<|rg<|a9 0 h (fun h=>rg<|s5 s9 0 h fun b1G d9z h=>A9 (I:=fun j:Unit=>b8 cx s7.X res outs c5C (c1m s_ e_ box v45)) h (fun j h=>d0v s_ e_ box v45 res outs x1 hb1 hr1 st1 hc1 h) (fun x2 h hc2=>rg<|a9 7 h (fun h=>a9 15 h (fun h=>rg<|d6 a2e b7z 2 h fun b0K h=>rg<|a9 6 h (fun h=>rg<|(A0 h hc2 fun h=>(x6 h hc1 fun e=>G4 box b0K<|x7 s7.h (hr1 _ e)))) (fun h=>rg<|(A0 h hc2 fun h=>(x6 h hc1 fun e=>G4 box b0K<|x7 s7.h (hr1 _ e))))) (fun h=>(m7 h hc2 fun hI=>sg [] [2,3,4,6,43,44,45] [(1,0),(2,0),(3,0),(4,0),(5,0)] hI))) (fun h=>(m7 h hc2 fun hI=>sg [] [2,3,4,6,43,44,45] [(1,0),(2,0),(3,0),(4,0),(5,0)] hI)))) (fun h=>(t0 h hc1 fun e=>sg [] [2,3,4,6] [(1,0),(2,0),(3,0),(4,0),(5,0)] (hb1 _ e)))
noncomputable def b4O (s_:j4) (e_:b5):Option (j4×Int) :=
  ((b3W s_).bind fun c4h=>(bif (!c4h) then some ((j4.mk 0 [] []),(-1)) else ((a86 e_).bind fun G2=>(bif (!G2) then some ((j4.mk 0 [] []),(-1)) else (bif (s_.At==40) then some ((j4.mk 0 [] []),(-1)) else ((a7I s_.Boxes).bind fun box=>(bif e_.None then ((a4v s_.Dones).bind fun done=>some ((j4.mk (i7 (s_.At+1)) box done),5)) else ((m5 (fun s:Int=>b3h s_ e_ box s) 0).bind fun x=>x.go (fun r=>some r) fun s=>b10 s_ e_ box))))))))
theorem d7M {s_:j4} {e_:b5} (r:j4×Int) (h:b4O s_ e_=some r):l8 cx.P 34 [.agg (b0L s_),.agg (i5 e_)] (s7.R r) (s7.O r) :=
  m8 s7.X s7.c s7.h (fun z=>m6<|d6 E5 d2K 1 h fun c4h h=>a9 3 h (fun h=>rg<|fe z h) (fun h=>d6 a51 c2T 5 h fun G2 h=>a9 8 h (fun h=>rg<|fe z h) (fun h=>a9 12 h (fun h=>rg<|fe z h) (fun h=>rg<|d6 a6i c8K 5 h fun box h=>rg<|a9 1 h (fun h=>rg<|d6 a2e b7z 2 h fun done h=>rg<|G4 box done<|fe z h) (fun h=>rg<|u7 h fun x hl hr hb=>sg [] [2,3,4,6,43,44,45] [(1,0),(2,0),(3,0),(25,0),(23,0)] (u9 (I:=fun s:Int=>b8 cx s7.X (s7.R r) (s7.O r) b4P (b1Q s_ e_ box s)) hl fun s st h hc=>d9i s_ e_ box _ _ x (fun s e=>d8I s_ e_ box r (hb s e)) (fun v e=>⟨congrArg s7.R (Option.some.inj (hr v e)).symm,congrArg s7.O (Option.some.inj (hr v e)).symm⟩) st hc s h))))))
noncomputable def Q8:FS (j4×List Int):=⟨15,Tryz.f15,[.val [none,some 2,some 4] [none,some 127,some 89],.val [some 1] [some 3]],[none],[.val [some 7] []],fun r=>.tup [.agg [vi r.1.At,b9 127 2 p8 r.1.Boxes,b9 89 4 s9 r.1.Dones],b9 3 1 eI r.2],fun _=>[none],Tryz.func15⟩
noncomputable def c14:List Item:=Q8.k 5 [false]
noncomputable def c8G (N5:List g7) (a4G:List d9) (a4I:List Int) (T7:Int):St:=⟨(bs 2 (.ptr 1 0 0::(bs 1 (.ptr 2 0 0::(.own 5 0 1 0 a4I.length::(bs 25 [])))))),[some [],some [.var 55 [vi 0,.nil,.nil]],some [.var 55 [vi T7,.own 3 0 2 0 N5.length,.own 4 0 4 0 a4G.length]],some [d8 127 2 p8 N5],some [d8 89 4 s9 a4G],some [d8 3 1 eI a4I]]⟩
noncomputable def c3j (N5:List g7) (a4G:List d9) (a4I:List Int) (T7:Int):Option (j4×List Int) :=
  some ((j4.mk T7 N5 a4G),a4I)
theorem d2n (r:j4×List Int) (N5:List g7) (a4G:List d9) (a4I:List Int) (T7:Int) (h:c3j N5 a4G a4I T7=some r):b8 cx Q8.X (Q8.R r) (Q8.O r) c14 (c8G N5 a4G a4I T7) :=
  P0<|rg<|ol3 N5 a4G a4I<|fe Q8.h h
noncomputable def b80:List Item:=Q8.k 4 []
noncomputable def b5r (a7:List b5) (Boxes:List g7) (Dones:List d9) (a2K:List Int) (v13:Int) (sAt:Int):St:=⟨(bs 2 (.ptr 1 0 0::(bs 1 (.ptr 2 0 0::(.own 5 0 1 0 a2K.length::(bs 5 (a0 7 i5 a7::(vi (a7.length:Int)::(vi v13::(bs 17 [])))))))))),[some [],some [.var 55 [vi 0,.nil,.nil]],some [.var 55 [vi sAt,.own 3 0 2 0 Boxes.length,.own 4 0 4 0 Dones.length]],some [d8 127 2 p8 Boxes],some [d8 89 4 s9 Dones],some [d8 3 1 eI a2K]]⟩
noncomputable def a0Z (a7:List b5) (Boxes:List g7) (Dones:List d9) (a2K:List Int) (v13:Int) (sAt:Int):Option (b6 (j4×List Int) ((List g7)×(List d9)×(List Int)×Int×Int) ((List g7)×(List d9)×(List Int)×Int)) :=
  (bif decide (v13<(a7.length:Int)) then ((idx a7 v13).bind fun z3=>((b4O (j4.mk sAt Boxes Dones) z3).bind fun a3M=>(n8 ((a2K.length+1) * 8≤140737488355328) (some (b6.nxt (a3M.1.Boxes,a3M.1.Dones,a2K++[a3M.2],i7 (v13+1),a3M.1.At)))))) else some (b6.brk (Boxes,Dones,a2K,sAt)))
theorem d0h (a7:List b5) (res:V) (outs:List (Option V)) (x1:b7 (j4×List Int) ((List g7)×(List d9)×(List Int)×Int)) (hb1:HB cx Q8.X res outs x1 c14 (fun s=>c8G s.1 s.2.1 s.2.2.1 s.2.2.2)) (hr1:HR res outs x1 Q8.R Q8.O) (st1:b6 (j4×List Int) ((List g7)×(List d9)×(List Int)×Int×Int) ((List g7)×(List d9)×(List Int)×Int)) (hc1:n9 x1 (fun s:(List g7)×(List d9)×(List Int)×Int×Int=>b8 cx Q8.X res outs b80 (b5r a7 s.1 s.2.1 s.2.2.1 s.2.2.2.1 s.2.2.2.2)) st1) (Boxes:List g7) (Dones:List d9) (a2K:List Int) (v13:Int) (sAt:Int) (h:a0Z a7 Boxes Dones a2K v13 sAt=some st1):b8 cx Q8.X res outs b80 (b5r a7 Boxes Dones a2K v13 sAt) :=
  P0<|rg<|a9 0 h (fun h=>rg<|s5 i5 0 h fun z3 J6 h=>rg<|W9 s7 d7M 2 h fun a3M h=>om (B9 (s7.R a3M)∧H1 (s7.O a3M)) ⟨(by simp [s7,B9,a0u,U9,V.simple,vi,b9,p8,s9,eI,w9,b0L]),K1 2⟩<|G4 Boxes Dones<|m6<|tl (2,{ a:=.ck [] })<|o8 h fun e1 h=>J8 3 25 3 1 8 eI a2K a3M.2 e1<|om (1=[a3M.2].length) (by rfl)<|rg<|(u0 h hc1 fun hI=>sg [] [2,4,5,11,12,13] [(1,0),(2,0),(13,0),(13,1),(25,0)] hI)) (fun h=>(t0 h hc1 fun e=>sg [] [2,4,5] [(1,0),(2,0),(3,0),(4,0),(5,0)] (hb1 _ e)))
noncomputable def b1d (a7:List b5):Option (j4×List Int) :=
  ((b4p).bind fun O1=>((m5 (fun s:(List g7)×(List d9)×(List Int)×Int×Int=>a0Z a7 s.1 s.2.1 s.2.2.1 s.2.2.2.1 s.2.2.2.2) (O1.Boxes,O1.Dones,[],0,O1.At)).bind fun x=>x.go (fun r=>some r) fun s=>c3j s.1 s.2.1 s.2.2.1 s.2.2.2))
theorem c91 {a7:List b5} (r:j4×List Int) (h:b1d a7=some r):l8 cx.P 15 [a0 7 i5 a7] (Q8.R r) (Q8.O r) :=
  m8 Q8.X Q8.c Q8.h (fun z=>m6<|d6 a7X d6f 0 h fun O1 h=>m6<|u7 h fun x hl hr hb=>sg [.own (.tmp 5) 3 1] [2,4,5,11,12,13] [(1,0),(4,0),(3,0),(3,1),(10,0)] (u9 (I:=fun s:(List g7)×(List d9)×(List Int)×Int×Int=>b8 cx Q8.X (Q8.R r) (Q8.O r) b80 (b5r a7 s.1 s.2.1 s.2.2.1 s.2.2.2.1 s.2.2.2.2)) hl fun s st h hc=>d0h a7 _ _ x (fun s e=>d2n r s.1 s.2.1 s.2.2.1 s.2.2.2 (hb s e)) (fun v e=>⟨congrArg Q8.R (Option.some.inj (hr v e)).symm,congrArg Q8.O (Option.some.inj (hr v e)).symm⟩) st hc s.1 s.2.1 s.2.2.1 s.2.2.2.1 s.2.2.2.2 h))
noncomputable def a3x:FS (List g9):=⟨16,Tryz.f16,[.val [some 2] [some 28]],[none],[.val [some 2] []],fun r=>b9 28 2 w9 r,fun _=>[none],Tryz.func16⟩
noncomputable def b2t (a7:List g9):Option (List g9) :=
  (bif ((a7.length:Int)==0) then some [] else (n8 (0≤(a7.length:Int)∧(a7.length:Int) * 16≤140737488355328) ((n8 (a7.length=(List.replicate (a7.length:Int).toNat (g9.mk 0 0)).length) (some a7)))))
theorem d61 {a7:List g9} (r:List g9) (h:b2t a7=some r):l8 cx.P 16 [a0 2 w9 a7] (a3x.R r) (a3x.O r) :=
  m8 a3x.X a3x.c a3x.h (fun z=>m6<|a9 2 h (fun h=>rg<|fe z h) (fun h=>rg<|o8 h fun e1 h=>mkS 2 7 28 2 16 w9 (g9.mk 0 0) b5c (.none) e1 (by decide) (by rfl)<|rg<|o8 h fun e2 h=>om (l7.row 28 2 (List.replicate (a7.length:Int).toNat (g9.mk 0 0)).length (a7.map w9)=d8 28 2 w9 a7) (b5R e2)<|j3 (List.replicate (a7.length:Int).toNat (g9.mk 0 0))<|ob e2<|tl (2,{ e:=some (d8 28 2 w9 a7) })<|rg<|om ((List.replicate (a7.length:Int).toNat (g9.mk 0 0)).length=a7.length) (by simp)<|fe z h))
noncomputable def I0:FS (List g9):=⟨5,Tryz.f5,[.val [some 2] []],[none],[.val [some 7] []],fun r=>a0 2 w9 r,fun _=>[none],Tryz.func5⟩
noncomputable def b6E:List Item:=I0.k 6 [false,false]
noncomputable def b8t (out1:List g9):St:=⟨(bs 5 (.own 1 0 2 0 out1.length::(bs 30 []))),[some [],some [d8 28 2 w9 out1]]⟩
noncomputable def b8Y (out1:List g9):Option (List g9) :=
  ((b2t out1).bind fun req=>some req)
theorem c9A (r:List g9) (out1:List g9) (h:b8Y out1=some r):b8 cx I0.X (I0.R r) (I0.O r) b6E (b8t out1) :=
  P0<|rg<|W9 a3x d61 1 h fun req h=>om (B9 (a3x.R req)∧H1 (a3x.O req)) ⟨(by simp [a3x,B9,a0u,U9,V.simple,vi,b9,eI,w9]),K1 1⟩<|G4 out1 req<|fe I0.h h
noncomputable def b39:List Item:=I0.k 5 [false]
noncomputable def b4d (a7:List b5) (l9:j4×List Int) (out:List g9) (v18:Int):St:=⟨(bs 4 (.own 1 0 1 0 l9.2.length::(.own 2 0 2 0 out.length::(bs 10 (a0 7 i5 a7::(vi (a7.length:Int)::(vi v18::(bs 17 [])))))))),[some [],some [d8 3 1 eI l9.2],some [d8 28 2 w9 out]]⟩
noncomputable def c3a:List Item:=I0.k 9 [false,true,true]
noncomputable def c6m (a7:List b5) (l9:j4×List Int) (v18:Int) (out2:List g9):St:=⟨(bs 4 (.own 1 0 1 0 l9.2.length::(.own 2 0 2 0 out2.length::(bs 10 (a0 7 i5 a7::(vi (a7.length:Int)::(vi v18::(bs 17 [])))))))),[some [],some [d8 3 1 eI l9.2],some [d8 28 2 w9 out2]]⟩
noncomputable def b5v (v18:Int) (out2:List g9):Option (b6 (List g9) ((List g9)×Int) (List g9)) :=
  some (b6.nxt (out2,i7 (v18+1)))
theorem c9M (a7:List b5) (l9:j4×List Int) (v18:Int) (res:V) (outs:List (Option V)) (x1:b7 (List g9) (List g9)) (hb1:HB cx I0.X res outs x1 b6E b8t) (hr1:HR res outs x1 I0.R I0.O) (st1:b6 (List g9) ((List g9)×Int) (List g9)) (hc1:n9 x1 (fun s:(List g9)×Int=>b8 cx I0.X res outs b39 (b4d a7 l9 s.1 s.2)) st1) (out2:List g9) (h:b5v v18 out2=some st1):b8 cx I0.X res outs c3a (c6m a7 l9 v18 out2) :=
  P0<|rg<|(u0 h hc1 fun hI=>sg [] [4,5,16,17,18] [(1,0),(2,0)] hI)
noncomputable def a8t (a7:List b5) (l9:j4×List Int) (out:List g9) (v18:Int):Option (b6 (List g9) ((List g9)×Int) (List g9)) :=
  (bif decide (v18<(a7.length:Int)) then ((idx a7 v18).bind fun z3=>((((idx l9.2 v18).bind fun y=>(bif (y==0) then (n8 ((out.length+1) * 16≤140737488355328) (some (b7.brk (out++[z3.Req])))) else some (b7.brk out))):Option (b7 (b6 (List g9) ((List g9)×Int) (List g9)) (List g9))).bind fun x=>x.go some fun j=>b5v v18 j)) else some (b6.brk out))
theorem d6K (a7:List b5) (l9:j4×List Int) (res:V) (outs:List (Option V)) (x1:b7 (List g9) (List g9)) (hb1:HB cx I0.X res outs x1 b6E b8t) (hr1:HR res outs x1 I0.R I0.O) (st1:b6 (List g9) ((List g9)×Int) (List g9)) (hc1:n9 x1 (fun s:(List g9)×Int=>b8 cx I0.X res outs b39 (b4d a7 l9 s.1 s.2)) st1) (out:List g9) (v18:Int) (h:a8t a7 l9 out v18=some st1):b8 cx I0.X res outs b39 (b4d a7 l9 out v18) :=
  P0<|rg<|a9 0 h (fun h=>rg<|s5 i5 1 h fun z3 J6 h=>A9 (I:=fun j:List g9=>b8 cx I0.X res outs c3a (c6m a7 l9 v18 j)) h (fun j h=>c9M a7 l9 v18 res outs x1 hb1 hr1 st1 hc1 j h) (fun x2 h hc2=>rg<|D9 h fun y hy h=>B8 hy<|R2 eI 3 hy<|a9 4 h (fun h=>rg<|tl (3,{ a:=.ck [] })<|o8 h fun e1 h=>J8 4 19 28 2 16 w9 out z3.Req e1<|om (1=[z3.Req].length) (by rfl)<|(m7 h hc2 fun hI=>sg [] [4,5,16,17,18] [(1,0),(19,0)] hI)) (fun h=>(m7 h hc2 fun hI=>sg [] [4,5,16,17,18] [(1,0),(2,0)] hI)))) (fun h=>(t0 h hc1 fun e=>sg [] [5] [(2,0)] (hb1 _ e)))
noncomputable def a9y (a7:List b5):Option (List g9) :=
  ((b3s a7).bind fun H4=>(bif (!H4) then some [] else ((b1d a7).bind fun l9=>((m5 (fun s:(List g9)×Int=>a8t a7 l9 s.1 s.2) ([],0)).bind fun x=>x.go (fun r=>some r) fun s=>b8Y s))))
theorem b97 {a7:List b5} (r:List g9) (h:a9y a7=some r):l8 cx.P 5 [a0 7 i5 a7] (I0.R r) (I0.O r) :=
  m8 I0.X I0.c I0.h (fun z=>m6<|d6 O4 c94 1 h fun H4 h=>a9 2 h (fun h=>rg<|fe z h) (fun h=>rg<|d6 Q8 c91 1 h fun l9 h=>m6<|u7 h fun x hl hr hb=>sg [.own (.tmp 5) 28 2] [4,5,16,17,18] [(6,2),(17,0)] (u9 (I:=fun s:(List g9)×Int=>b8 cx I0.X (I0.R r) (I0.O r) b39 (b4d a7 l9 s.1 s.2)) hl fun s st h hc=>d6K a7 l9 _ _ x (fun s e=>c9A r s (hb s e)) (fun v e=>⟨congrArg I0.R (Option.some.inj (hr v e)).symm,congrArg I0.O (Option.some.inj (hr v e)).symm⟩) st hc s.1 s.2 h)))
noncomputable def J5:FS (List g9):=⟨6,Tryz.f6,[.val [some 2] []],[none],[.val [some 7] []],fun r=>a0 2 w9 r,fun _=>[none],Tryz.func6⟩
noncomputable def b7N:List Item:=J5.k 6 [false,false]
noncomputable def b9F (out1:List g9):St:=⟨(bs 3 (.own 1 0 2 0 out1.length::(bs 37 []))),[some [],some [d8 28 2 w9 out1]]⟩
noncomputable def c4A (out1:List g9):Option (List g9) :=
  some out1
theorem d0y (r:List g9) (out1:List g9) (h:c4A out1=some r):b8 cx J5.X (J5.R r) (J5.O r) b7N (b9F out1) :=
  P0<|rg<|j3 out1<|fe J5.h h
noncomputable def b1W:List Item:=J5.k 5 [false]
noncomputable def b1p (a7:List b5) (out:List g9) (Boxes:List g7) (i:Int) (sAt:Int) (I2:List d9):St:=⟨(a0 7 i5 a7::(bs 2 (.own 1 0 2 0 out.length::(.ptr 2 0 0::(vi i::(bs 35 [])))))),[some [],some [d8 28 2 w9 out],some [.var 55 [vi sAt,.own 3 0 2 0 Boxes.length,a0 4 s9 I2]],some [d8 127 2 p8 Boxes]]⟩
noncomputable def c8A:List Item:=J5.k 10 [false,true,true]
noncomputable def c5n (a7:List b5) (i:Int) (C4:j4×Int) (out2:List g9):St:=⟨(a0 7 i5 a7::(bs 2 (.own 1 0 2 0 out2.length::(.ptr 2 0 0::(vi i::(bs 35 [])))))),[some [],some [d8 28 2 w9 out2],some [.var 55 [vi C4.1.At,.own 3 0 2 0 C4.1.Boxes.length,a0 4 s9 C4.1.Dones]],some [d8 127 2 p8 C4.1.Boxes]]⟩
noncomputable def b8o (i:Int) (C4:j4×Int) (out2:List g9):Option (b6 (List g9) ((List g9)×(List g7)×Int×Int×List d9) (List g9)) :=
  some (b6.nxt (out2,C4.1.Boxes,i7 (i+1),C4.1.At,C4.1.Dones))
theorem d8t (a7:List b5) (i:Int) (C4:j4×Int) (res:V) (outs:List (Option V)) (x1:b7 (List g9) (List g9)) (hb1:HB cx J5.X res outs x1 b7N b9F) (hr1:HR res outs x1 J5.R J5.O) (st1:b6 (List g9) ((List g9)×(List g7)×Int×Int×List d9) (List g9)) (hc1:n9 x1 (fun s:(List g9)×(List g7)×Int×Int×List d9=>b8 cx J5.X res outs b1W (b1p a7 s.1 s.2.1 s.2.2.1 s.2.2.2.1 s.2.2.2.2)) st1) (out2:List g9) (h:b8o i C4 out2=some st1):b8 cx J5.X res outs c8A (c5n a7 i C4 out2) :=
  P0<|rg<|(u0 h hc1 fun hI=>sg [] [0,3,4,5] [(1,0),(2,0),(3,0)] hI)
noncomputable def a6m (a7:List b5) (out:List g9) (Boxes:List g7) (i:Int) (sAt:Int) (I2:List d9):Option (b6 (List g9) ((List g9)×(List g7)×Int×Int×List d9) (List g9)) :=
  (bif decide (i<(a7.length:Int)) then ((idx a7 i).bind fun z3=>((a6j (j4.mk sAt Boxes I2) z3).bind fun C4=>(((bif (C4.2==0) then (n8 ((out.length+1) * 16≤140737488355328) (some (b7.brk (out++[z3.Req])))) else some (b7.brk out)):Option (b7 (b6 (List g9) ((List g9)×(List g7)×Int×Int×List d9) (List g9)) (List g9))).bind fun x=>x.go some fun j=>b8o i C4 j))) else some (b6.brk out))
theorem d67 (a7:List b5) (res:V) (outs:List (Option V)) (x1:b7 (List g9) (List g9)) (hb1:HB cx J5.X res outs x1 b7N b9F) (hr1:HR res outs x1 J5.R J5.O) (st1:b6 (List g9) ((List g9)×(List g7)×Int×Int×List d9) (List g9)) (hc1:n9 x1 (fun s:(List g9)×(List g7)×Int×Int×List d9=>b8 cx J5.X res outs b1W (b1p a7 s.1 s.2.1 s.2.2.1 s.2.2.2.1 s.2.2.2.2)) st1) (out:List g9) (Boxes:List g7) (i:Int) (sAt:Int) (I2:List d9) (h:a6m a7 out Boxes i sAt I2=some st1):b8 cx J5.X res outs b1W (b1p a7 out Boxes i sAt I2) :=
  P0<|rg<|a9 3 h (fun h=>rg<|s5 i5 3 h fun z3 J6 h=>d6 H7 b4N 5 h fun C4 h=>j3 Boxes<|rg<|A9 (I:=fun j:List g9=>b8 cx J5.X res outs c8A (c5n a7 i C4 j)) h (fun j h=>d8t a7 i C4 res outs x1 hb1 hr1 st1 hc1 j h) (fun x2 h hc2=>rg<|a9 1 h (fun h=>rg<|O0 i5 3 J6<|tl (6,{ a:=.ck [] })<|o8 h fun e1 h=>J8 7 31 28 2 16 w9 out z3.Req e1<|om (1=[z3.Req].length) (by rfl)<|(m7 h hc2 fun hI=>sg [] [0,3,4,5] [(31,0),(2,0),(13,0)] hI)) (fun h=>(m7 h hc2 fun hI=>sg [] [0,3,4,5] [(1,0),(2,0),(13,0)] hI)))) (fun h=>(t0 h hc1 fun e=>sg [] [3] [(1,0)] (hb1 _ e)))
noncomputable def b2G (a7:List b5):Option (List g9) :=
  ((a90 a7).bind fun a9h=>(bif (!a9h) then some ([]:List g9) else ((a5v).bind fun O1=>((m5 (fun s:(List g9)×(List g7)×Int×Int×List d9=>a6m a7 s.1 s.2.1 s.2.2.1 s.2.2.2.1 s.2.2.2.2) (([]:List g9),O1.Boxes,0,O1.At,O1.Dones)).bind fun x=>x.go (fun r=>some r) fun s=>c4A s))))
theorem d9j {a7:List b5} (r:List g9) (h:b2G a7=some r):l8 cx.P 6 [a0 7 i5 a7] (J5.R r) (J5.O r) :=
  m8 J5.X J5.c J5.h (fun z=>m6<|tl (0,{ a:=.ck [] })<|rg<|d6 N7 c0V 1 h fun a9h h=>a9 2 h (fun h=>rg<|om (0=([]:List g9).length) (by simp)<|fe z h) (fun h=>rg<|d6 a3K b4L 0 h fun O1 h=>rg<|u7 h fun x hl hr hb=>om ((.own 2 0 2 0 0:V) = .own 2 0 2 0 ([]:List g9).length) (by simp)<|sg [.is (.tmp 3) (.own 2 0 2 0 ([]:List g9).length)] [0,3,4,5] [(2,0),(8,0),(7,0)] (u9 (I:=fun s:(List g9)×(List g7)×Int×Int×List d9=>b8 cx J5.X (J5.R r) (J5.O r) b1W (b1p a7 s.1 s.2.1 s.2.2.1 s.2.2.2.1 s.2.2.2.2)) hl fun s st h hc=>d67 a7 _ _ x (fun s e=>d0y r s (hb s e)) (fun v e=>⟨congrArg J5.R (Option.some.inj (hr v e)).symm,congrArg J5.O (Option.some.inj (hr v e)).symm⟩) st hc s.1 s.2.1 s.2.2.1 s.2.2.2.1 s.2.2.2.2 h)))
noncomputable def v6:FS (Bool):=⟨3,Tryz.f3,[.val [] []],[none,none],[.val [some 1] [],.val [some 1] []],fun r=>.b r,fun _=>[none,none],Tryz.func3⟩
noncomputable def a8O:List Item:=v6.k 10 [false,false,false]
noncomputable def a92 (o6:List g9) (u6:List g9):St:=⟨(bs 6 (a0 2 w9 o6::(bs 2 (a0 2 w9 u6::(bs 123 []))))),[some []]⟩
noncomputable def b2z (o6:List g9) (u6:List g9):Option Bool :=
  (bif decide ((u6.length:Int)≤(o6.length:Int)) then some true else some ((o6.length:Int)==0))
theorem d7q (o6:List g9) (u6:List g9) (r:Bool) (h:b2z o6 u6=some r):b8 cx v6.X (v6.R r) (v6.O r) a8O (a92 o6 u6) :=
  P0<|rg<|a9 5 h (fun h=>fe v6.h h) (fun h=>fe v6.h h)
noncomputable def a7n:List Item:=v6.k 9 [false,false]
noncomputable def a75 (s8:List b5) (o6:List g9) (z5:List g9) (u6:List g9) (i:Int):St:=⟨(bs 5 (a0 7 i5 s8::(a0 2 w9 o6::(a0 2 w9 z5::(bs 1 (a0 2 w9 u6::(vi i::(bs 122 [])))))))),[some []]⟩
noncomputable def c2F:List Item:=v6.k 11 [false,false,true,false]
noncomputable def c4I (s8:List b5) (o6:List g9) (z5:List g9) (u6:List g9) (i:Int):St:=⟨(bs 5 (a0 7 i5 s8::(a0 2 w9 o6::(a0 2 w9 z5::(bs 1 (a0 2 w9 u6::(vi i::(bs 122 [])))))))),[some []]⟩
noncomputable def b8V:List Item:=v6.k 14 [false,false,true,false,false]
noncomputable def b6S (s8:List b5) (o6:List g9) (z5:List g9) (u6:List g9) (i:Int) (P9:Bool):St:=⟨(bs 5 (a0 7 i5 s8::(a0 2 w9 o6::(a0 2 w9 z5::(bs 1 (a0 2 w9 u6::(vi i::(.b P9::(bs 121 []))))))))),[some []]⟩
noncomputable def c5f:List Item:=v6.k 16 [false,false,true,false,false,false]
noncomputable def c15 (s8:List b5) (o6:List g9) (z5:List g9) (u6:List g9) (i:Int) (P9:Bool):St:=⟨(bs 5 (a0 7 i5 s8::(a0 2 w9 o6::(a0 2 w9 z5::(bs 1 (a0 2 w9 u6::(vi i::(.b P9::(bs 121 []))))))))),[some []]⟩
noncomputable def b6z (i:Int) (P9:Bool):Option (b6 Bool Int Unit) :=
  (bif (!P9) then some (b6.ret false) else some (b6.nxt (i7 (i+1))))
theorem d4B (s8:List b5) (o6:List g9) (z5:List g9) (u6:List g9) (i:Int) (P9:Bool) (res:V) (outs:List (Option V)) (x1:b7 Bool Unit) (hb1:HB cx v6.X res outs x1 a8O (fun s=>a92 o6 u6)) (hr1:HR res outs x1 v6.R v6.O) (st1:b6 Bool Int Unit) (hc1:n9 x1 (fun s:Int=>b8 cx v6.X res outs a7n (a75 s8 o6 z5 u6 s)) st1) (h:b6z i P9=some st1):b8 cx v6.X res outs c5f (c15 s8 o6 z5 u6 i P9) :=
  P0<|rg<|a9 1 h (fun h=>rg<|(x6 h hc1 fun e=>x7 v6.h (hr1 _ e))) (fun h=>rg<|(u0 h hc1 fun hI=>sg [] [5,6,7,9,10] [] hI))
noncomputable def b7w:List Item:=v6.k 15 [false,false,true,false,false]
noncomputable def b9s (s8:List b5) (o6:List g9) (z5:List g9) (u6:List g9) (i:Int) (P9:Bool) (j_1:Int):St:=⟨(bs 5 (a0 7 i5 s8::(a0 2 w9 o6::(a0 2 w9 z5::(bs 1 (a0 2 w9 u6::(vi i::(.b P9::(bs 1 (vi j_1::(bs 119 []))))))))))),[some []]⟩
noncomputable def a72 (o6:List g9) (i:Int) (j_1:Int):Option (b6 Bool Int Unit) :=
  (bif decide (j_1<i) then ((idx o6 j_1).bind fun req=>((idx o6 i).bind fun b8e=>(bif (([req.Who,req.Seq]:List Int)==[b8e.Who,b8e.Seq]) then some (b6.ret false) else some (b6.nxt (i7 (j_1+1)))))) else some (b6.brk ()))
theorem d7z (s8:List b5) (o6:List g9) (z5:List g9) (u6:List g9) (i:Int) (P9:Bool) (res:V) (outs:List (Option V)) (x2:b7 Bool Unit) (hb2:HB cx v6.X res outs x2 c5f (fun s=>c15 s8 o6 z5 u6 i P9)) (hr2:HR res outs x2 v6.R v6.O) (st2:b6 Bool Int Unit) (hc2:n9 x2 (fun s:Int=>b8 cx v6.X res outs b7w (b9s s8 o6 z5 u6 i P9 s)) st2) (j_1:Int) (h:a72 o6 i j_1=some st2):b8 cx v6.X res outs b7w (b9s s8 o6 z5 u6 i P9 j_1) :=
  P0<|rg<|a9 2 h (fun h=>rg<|s5 w9 2 h fun req d9E h=>s5 w9 6 h fun b8e d9I h=>a9 8 h (fun h=>rg<|(x6 h hc2 fun e=>x7 v6.h (hr2 _ e))) (fun h=>rg<|(u0 h hc2 fun hI=>sg [] [5,6,7,9,10,11,13] [] hI))) (fun h=>(t0 h hc2 fun e=>sg [] [5,6,7,9,10,11] [] (hb2 _ e)))
noncomputable def b6d (o6:List g9) (i:Int) (P9:Bool):Option (b6 Bool Int Unit) :=
  ((m5 (fun s:Int=>a72 o6 i s) 0).bind fun x=>x.go (fun r=>some (b6.ret r)) fun s=>b6z i P9)
theorem d4q (s8:List b5) (o6:List g9) (z5:List g9) (u6:List g9) (i:Int) (res:V) (outs:List (Option V)) (x1:b7 Bool Unit) (hb1:HB cx v6.X res outs x1 a8O (fun s=>a92 o6 u6)) (hr1:HR res outs x1 v6.R v6.O) (st1:b6 Bool Int Unit) (hc1:n9 x1 (fun s:Int=>b8 cx v6.X res outs a7n (a75 s8 o6 z5 u6 s)) st1) (P9:Bool) (h:b6d o6 i P9=some st1):b8 cx v6.X res outs b8V (b6S s8 o6 z5 u6 i P9) :=
  P0<|rg<|u7 h fun x hl hr hb=>sg [] [5,6,7,9,10,11,13] [] (u9 (I:=fun s:Int=>b8 cx v6.X res outs b7w (b9s s8 o6 z5 u6 i P9 s)) hl fun s st h hc=>d7z s8 o6 z5 u6 i P9 _ _ x (fun s e=>d4B s8 o6 z5 u6 i P9 res outs x1 hb1 hr1 st1 hc1 (hb s e)) (fun v e=>(hr1 _ (b1h (hr v e) hc1))) st hc s h)
noncomputable def b1R:List Item:=v6.k 13 [false,false,true,false]
noncomputable def b3x (s8:List b5) (o6:List g9) (z5:List g9) (u6:List g9) (i:Int) (a5s:Bool) (j_:Int):St:=⟨(bs 5 (a0 7 i5 s8::(a0 2 w9 o6::(a0 2 w9 z5::(bs 1 (a0 2 w9 u6::(vi i::(.b a5s::(vi j_::(bs 120 [])))))))))),[some []]⟩
noncomputable def c3u:List Item:=v6.k 15 [false,false,true,false,true]
noncomputable def c7n (s8:List b5) (o6:List g9) (z5:List g9) (u6:List g9) (i:Int) (j_:Int) (a7R:Bool):St:=⟨(bs 5 (a0 7 i5 s8::(a0 2 w9 o6::(a0 2 w9 z5::(bs 1 (a0 2 w9 u6::(vi i::(.b a7R::(vi j_::(bs 120 [])))))))))),[some []]⟩
noncomputable def b6j (j_:Int) (a7R:Bool):Option (b6 Bool (Bool×Int) Bool) :=
  some (b6.nxt (a7R,i7 (j_+1)))
theorem d02 (s8:List b5) (o6:List g9) (z5:List g9) (u6:List g9) (i:Int) (j_:Int) (res:V) (outs:List (Option V)) (x2:b7 Bool Bool) (hb2:HB cx v6.X res outs x2 b8V (b6S s8 o6 z5 u6 i)) (hr2:HR res outs x2 v6.R v6.O) (st2:b6 Bool (Bool×Int) Bool) (hc2:n9 x2 (fun s:Bool×Int=>b8 cx v6.X res outs b1R (b3x s8 o6 z5 u6 i s.1 s.2)) st2) (a7R:Bool) (h:b6j j_ a7R=some st2):b8 cx v6.X res outs c3u (c7n s8 o6 z5 u6 i j_ a7R) :=
  P0<|rg<|(u0 h hc2 fun hI=>sg [] [5,6,7,9,10,11,12] [] hI)
noncomputable def a7V (s8:List b5) (o6:List g9) (i:Int) (a5s:Bool) (j_:Int):Option (b6 Bool (Bool×Int) Bool) :=
  (bif decide (j_<(s8.length:Int)) then (((bif a5s then some (b7.brk true) else ((idx s8 j_).bind fun z3=>(bif (!z3.None) then ((idx o6 i).bind fun b8Q=>some (b7.brk (([z3.Req.Who,z3.Req.Seq]:List Int)==[b8Q.Who,b8Q.Seq]))) else some (b7.brk false)))):Option (b7 (b6 Bool (Bool×Int) Bool) Bool)).bind fun x=>x.go some fun j=>b6j j_ j) else some (b6.brk a5s))
theorem d9s (s8:List b5) (o6:List g9) (z5:List g9) (u6:List g9) (i:Int) (res:V) (outs:List (Option V)) (x2:b7 Bool Bool) (hb2:HB cx v6.X res outs x2 b8V (b6S s8 o6 z5 u6 i)) (hr2:HR res outs x2 v6.R v6.O) (st2:b6 Bool (Bool×Int) Bool) (hc2:n9 x2 (fun s:Bool×Int=>b8 cx v6.X res outs b1R (b3x s8 o6 z5 u6 i s.1 s.2)) st2) (a5s:Bool) (j_:Int) (h:a7V s8 o6 i a5s j_=some st2):b8 cx v6.X res outs b1R (b3x s8 o6 z5 u6 i a5s j_) :=
  P0<|rg<|a9 3 h (fun h=>A9 (I:=fun j:Bool=>b8 cx v6.X res outs c3u (c7n s8 o6 z5 u6 i j_ j)) h (fun j h=>d02 s8 o6 z5 u6 i j_ res outs x2 hb2 hr2 st2 hc2 j h) (fun x3 h hc3=>rg<|a9 1 h (fun h=>(m7 h hc3 fun hI=>sg [] [5,6,7,9,10,11,12] [] hI)) (fun h=>s5 i5 4 h fun z3 J6 h=>a9 8 h (fun h=>O0 i5 11 J6<|s5 w9 16 h fun b8Q d9D h=>(m7 h hc3 fun hI=>sg [] [5,6,7,9,10,11,12] [] hI)) (fun h=>(m7 h hc3 fun hI=>sg [] [5,6,7,9,10,11,12] [] hI))))) (fun h=>(t0 h hc2 fun e=>sg [] [5,6,7,9,10,11] [] (hb2 _ e)))
noncomputable def b1O (s8:List b5) (o6:List g9) (i:Int):Option (b6 Bool Int Unit) :=
  ((m5 (fun s:Bool×Int=>a7V s8 o6 i s.1 s.2) (false,0)).bind fun x=>x.go (fun r=>some (b6.ret r)) fun s=>b6d o6 i s)
theorem d32 (s8:List b5) (o6:List g9) (z5:List g9) (u6:List g9) (i:Int) (res:V) (outs:List (Option V)) (x1:b7 Bool Unit) (hb1:HB cx v6.X res outs x1 a8O (fun s=>a92 o6 u6)) (hr1:HR res outs x1 v6.R v6.O) (st1:b6 Bool Int Unit) (hc1:n9 x1 (fun s:Int=>b8 cx v6.X res outs a7n (a75 s8 o6 z5 u6 s)) st1) (h:b1O s8 o6 i=some st1):b8 cx v6.X res outs c2F (c4I s8 o6 z5 u6 i) :=
  P0<|m6<|u7 h fun x hl hr hb=>sg [] [5,6,7,9,10,11,12] [] (u9 (I:=fun s:Bool×Int=>b8 cx v6.X res outs b1R (b3x s8 o6 z5 u6 i s.1 s.2)) hl fun s st h hc=>d9s s8 o6 z5 u6 i _ _ x (fun s e=>d4q s8 o6 z5 u6 i res outs x1 hb1 hr1 st1 hc1 s (hb s e)) (fun v e=>(hr1 _ (b1h (hr v e) hc1))) st hc s.1 s.2 h)
noncomputable def a6h (s8:List b5) (o6:List g9) (z5:List g9) (u6:List g9) (i:Int):Option (b6 Bool Int Unit) :=
  (bif decide (i<(o6.length:Int)) then ((((idx o6 i).bind fun b00=>((idx z5 i).bind fun b5Q=>(bif (!(([b00.Who,b00.Seq]:List Int)==[b5Q.Who,b5Q.Seq])) then some (b7.ret (b6.ret false)) else (bif decide (i<(u6.length:Int)) then (bif decide ((o6.length:Int)>0) then ((idx u6 i).bind fun b8N=>(bif (!(([b8N.Who,b8N.Seq]:List Int)==[b00.Who,b00.Seq])) then some (b7.ret (b6.ret false)) else some (b7.brk ()))) else some (b7.brk ())) else some (b7.brk ()))))):Option (b7 (b6 Bool Int Unit) Unit)).bind fun x=>x.go some fun j=>b1O s8 o6 i) else some (b6.brk ()))
theorem d8X (s8:List b5) (o6:List g9) (z5:List g9) (u6:List g9) (res:V) (outs:List (Option V)) (x1:b7 Bool Unit) (hb1:HB cx v6.X res outs x1 a8O (fun s=>a92 o6 u6)) (hr1:HR res outs x1 v6.R v6.O) (st1:b6 Bool Int Unit) (hc1:n9 x1 (fun s:Int=>b8 cx v6.X res outs a7n (a75 s8 o6 z5 u6 s)) st1) (i:Int) (h:a6h s8 o6 z5 u6 i=some st1):b8 cx v6.X res outs a7n (a75 s8 o6 z5 u6 i) :=
  P0<|rg<|a9 3 h (fun h=>A9 (I:=fun j:Unit=>b8 cx v6.X res outs c2F (c4I s8 o6 z5 u6 i)) h (fun j h=>d32 s8 o6 z5 u6 i res outs x1 hb1 hr1 st1 hc1 h) (fun x2 h hc2=>rg<|s5 w9 2 h fun b00 d66 h=>s5 w9 6 h fun b5Q d9K h=>a9 9 h (fun h=>rg<|(A0 h hc2 fun h=>(x6 h hc1 fun e=>x7 v6.h (hr1 _ e)))) (fun h=>a9 14 h (fun h=>a9 19 h (fun h=>s5 w9 22 h fun b8N d9x h=>O0 w9 26 d66<|a9 30 h (fun h=>rg<|(A0 h hc2 fun h=>(x6 h hc1 fun e=>x7 v6.h (hr1 _ e)))) (fun h=>(m7 h hc2 fun hI=>sg [] [5,6,7,9,10] [] hI))) (fun h=>(m7 h hc2 fun hI=>sg [] [5,6,7,9,10] [] hI))) (fun h=>(m7 h hc2 fun hI=>sg [] [5,6,7,9,10] [] hI))))) (fun h=>(t0 h hc1 fun e=>sg [] [6,9] [] (hb1 _ e)))
noncomputable def b5Y (H2:List Int) (W1:List Int):Option Bool :=
  (bif decide ((H2.length:Int)>1048576) then some true else (bif decide ((W1.length:Int)>1048576) then some true else ((b1I H2).bind fun s8=>((a9y s8).bind fun o6=>((b2G s8).bind fun z5=>(bif ((o6.length:Int) != (z5.length:Int)) then some false else (n8 ((i7 ((s8.length:Int)+1))≠0) ((n8 ((0:Int)≤Int.tmod (W1.length:Int) (i7 ((s8.length:Int)+1))∧Int.tmod (W1.length:Int) (i7 ((s8.length:Int)+1))≤(s8.length:Int)) (((a9y ((s8.drop 0).take ((Int.tmod (W1.length:Int) (i7 ((s8.length:Int)+1))).toNat - 0))).bind fun u6=>((m5 (fun s:Int=>a6h s8 o6 z5 u6 s) 0).bind fun x=>x.go (fun r=>some r) fun s=>b2z o6 u6))))))))))))
theorem d1W {H2:List Int} {W1:List Int} (r:Bool) (h:b5Y H2 W1=some r):l8 cx.P 3 [a0 1 E2 H2,a0 1 E2 W1] (v6.R r) (v6.O r) :=
  m8 v6.X v6.c v6.h (fun z=>m6<|a9 3 h (fun h=>rg<|fe z h) (fun h=>a9 7 h (fun h=>rg<|fe z h) (fun h=>rg<|d6 a7t d0Y 1 h fun s8 h=>rg<|d6 I0 b97 1 h fun o6 h=>rg<|d6 J5 d9j 1 h fun z5 h=>rg<|a9 4 h (fun h=>rg<|fe z h) (fun h=>rg<|o8 h fun e1 h=>ob e1<|rg<|o8 h fun e2 h=>om (V.sl 7 ((Int.tmod (W1.length:Int) (i7 ((s8.length:Int)+1))).toNat - 0) (((s8.map i5).drop 0).take ((Int.tmod (W1.length:Int) (i7 ((s8.length:Int)+1))).toNat - 0))=a0 7 i5 ((s8.drop 0).take ((Int.tmod (W1.length:Int) (i7 ((s8.length:Int)+1))).toNat - 0))) (b2k e2)<|ob e2.1<|ob e2.2<|tl (2,{ v:=some (a0 7 i5 ((s8.drop 0).take ((Int.tmod (W1.length:Int) (i7 ((s8.length:Int)+1))).toNat - 0))) })<|d6 I0 b97 3 h fun u6 h=>rg<|u7 h fun x hl hr hb=>sg [] [5,6,7,9,10] [] (u9 (I:=fun s:Int=>b8 cx v6.X (v6.R r) (v6.O r) a7n (a75 s8 o6 z5 u6 s)) hl fun s st h hc=>d8X s8 o6 z5 u6 _ _ x (fun s e=>d7q o6 u6 r (hb s e)) (fun v e=>⟨congrArg v6.R (Option.some.inj (hr v e)).symm,congrArg v6.O (Option.some.inj (hr v e)).symm⟩) st hc s h)))))
theorem c9P:a6B Tryz.prog 5 E2 a3c:=d2Q Tryz.underlying5
theorem c32:a6B Tryz.prog 22 (fun l:List Int=>[a0 1 E2 l]) (v5 1 a3c):=d0X Tryz.underlying22 c9P (by kernel_rfl) (by decide) (by kernel_rfl) (fun _=>rfl)
theorem B0 {n:Int} (h1 : -9223372036854775808≤n) (h2:n≤9223372036854775807):i7 n=n:=IntWalk.i64_in n ⟨h1,h2⟩
def n7 {α:Type} (l:List α):Prop:=l.length≤140737488351232
theorem H6 {α:Type} {l:List α} (hl:n7 l) {k:Nat} (h:k<l.length):i7 ((k:Int)+1)=((k+1:Nat):Int):=by
  unfold n7 at hl
  rw [B0 (by omega) (by omega)]
  omega
section
variable {R S B:Type} {body:S→Option (b6 R S B)}
theorem M3 {s t:S} (h:body s=some (.nxt t)):m5 body s=m5 body t:=by rw [b64,h]
theorem D6 {s:S} {b:B} (h:body s=some (.brk b)):m5 body s=some (.brk b):=by rw [b64,h]
theorem a4z {s:S} {r:R} (h:body s=some (.ret r)):m5 body s=some (.ret r):=by rw [b64,h]
theorem V4 (st:Nat→S) (n:Nat) (h : ∀ k,k<n→body (st k)=some (.nxt (st (k+1)))):m5 body (st 0)=m5 body (st n):=by
  induction n with
  | zero=>rfl
  | succ n ih =>
    rw [ih fun k hk=>h k (by omega)]
    exact M3 (h n (by omega))
theorem a5Y (st:Nat→S) (n:Nat) (ok:Nat→Bool) (r:Nat→R) (b:B)
    (h1 : ∀ k,k<n→(∀ j,j<k→ok j=true)→body (st k)=some (bif ok k then .nxt (st (k+1)) else .ret (r k)))
    (h2:(∀ j,j<n→ok j=true)→body (st n)=some (.brk b)) :
    (m5 body (st 0)=some (.brk b) ∧ ∀ j,j<n→ok j=true) ∨ ∃ k,k<n∧ok k=false∧(∀ j,j<k→ok j=true)∧m5 body (st 0)=some (.ret (r k)):=by
  by_cases hall : ∀ j,j<n→ok j=true
  · left
    refine ⟨?_,hall⟩
    rw [V4 st n fun k hk => ?_]
    · exact D6 (h2 hall)
    · rw [h1 k hk fun j hj=>hall j (by omega),hall k hk]; rfl
  · right
    have hex : ∃ k,k<n∧ok k=false:=by
      apply Classical.byContradiction
      intro hn
      apply hall
      intro j hj
      cases hj':ok j with
      | true=>rfl
      | false=>exact absurd ⟨j,hj,hj'⟩ hn
    obtain ⟨k,hk,ho,hb⟩ : ∃ k,k<n∧ok k=false ∧ ∀ j,j<k→ok j=true:=by
      obtain ⟨k,hk,ho⟩:=hex
      induction k using Nat.strongRecOn with
      | _ k ih =>
        by_cases hb : ∀ j,j<k→ok j=true
        · exact ⟨k,hk,ho,hb⟩
        · have : ∃ j,j<k∧ok j=false:=by
            apply Classical.byContradiction
            intro hn
            apply hb
            intro j hj
            cases hj':ok j with
            | true=>rfl
            | false=>exact absurd ⟨j,hj,hj'⟩ hn
          obtain ⟨j,hj,hjo⟩:=this
          exact ih j hj (by omega) hjo
    refine ⟨k,hk,ho,hb,?_⟩
    rw [V4 st k fun j hj => ?_]
    · refine a4z ?_
      rw [h1 k hk hb,ho]
      rfl
    · rw [h1 j (by omega) fun i hi=>hb i (by omega),hb j hj]; rfl
end
theorem a7B {R S B:Type} {body:S→Option (b6 R S B)} (I:Nat→S→Prop) (Q:b7 R B→Prop)
    (h : ∀ k s,I k s → ∃ st,body s=some st∧match st with | .ret r=>Q (.ret r) | .brk b=>Q (.brk b) | .nxt t => ∃ k',k'<k∧I k' t) : ∀ {k s},I k s → ∃ x,m5 body s=some x∧Q x:=by
  intro k
  induction k using Nat.strongRecOn with
  | _ k ih =>
    intro s hs
    obtain ⟨st,hb,hq⟩:=h k s hs
    cases st with
    | ret r=>exact ⟨_,a4z hb,hq⟩
    | brk b=>exact ⟨_,D6 hb,hq⟩
    | nxt t =>
      obtain ⟨k',hk,ht⟩:=hq
      obtain ⟨x,hx,hq⟩:=ih k' hk ht
      exact ⟨x,by rw [M3 hb]; exact hx,hq⟩
theorem o9 {β:Type} {p:Prop} [Decidable p] (h:p) (k:Option β):n8 p k=k:=if_pos h
theorem b1k {α:Type} (l:List α) (k:Nat):idx l (k:Int)=l[k]?:=by
  unfold idx
  rw [if_pos (by omega)]
  rfl
theorem p9 {α:Type} {l:List α} {k:Nat} (h:k<l.length):idx l (k:Int)=some l[k]:=by
  rw [b1k,List.getElem?_eq_getElem h]
theorem u5 {α:Type} (l:List α) (k:Nat) (h:k<l.length):decide ((k:Int)<(l.length:Int))=true:=by simpa using h
theorem A5 {α:Type} (l:List α):decide ((l.length:Int)<(l.length:Int))=false:=by simp
theorem a1a {α B:Type} {body:Int→Option (b6 Bool Int B)} (l:List α) (hl:n7 l) (ok:α→Bool) (v:Bool) (b:B)
    (h1 : ∀ (k:Nat) (h:k<l.length),body (k:Int)=some (bif ok l[k] then .nxt (i7 ((k:Int)+1)) else .ret v))
    (h2:body (l.length:Int)=some (.brk b)):m5 body 0=some (bif l.all ok then .brk b else .ret v):=by
  have h:=a5Y (body:=body) (fun k=>(k:Int)) l.length (fun k=>match l[k]? with | some x=>ok x | none=>true) (fun _=>v) b
    (fun k hk _=>by
      have:=h1 k hk
      rw [H6 hl hk] at this
      simpa [List.getElem?_eq_getElem hk] using this) (fun _=>h2)
  rcases h with ⟨h,hall⟩ | ⟨k,hk,ho,_,h⟩
  · have:l.all ok=true:=by
      rw [List.all_eq_true]
      intro x hx
      obtain ⟨i,hi,rfl⟩:=List.getElem_of_mem hx
      have:=hall i hi
      simpa [List.getElem?_eq_getElem hi] using this
    rw [this]; exact h
  · have:l.all ok=false:=by
      rw [List.all_eq_false]
      refine ⟨l[k],List.getElem_mem hk,?_⟩
      simpa [List.getElem?_eq_getElem hk] using ho
    rw [this]; exact h
theorem a5n {α B:Type} {body:Int→Option (b6 Bool Int B)} (l:List α) (hl:n7 l) (ok:Nat→Bool) (v:Bool) (b:B)
    (h1 : ∀ (k:Nat) (h:k<l.length),(∀ j,j<k→ok j=true)→body (k:Int)=some (bif ok k then .nxt (i7 ((k:Int)+1)) else .ret v))
    (h2:body (l.length:Int)=some (.brk b)):m5 body 0=some (bif (List.range l.length).all ok then .brk b else .ret v):=by
  have h:=a5Y (body:=body) (fun k=>(k:Int)) l.length ok (fun _=>v) b
    (fun k hk hb=>by
      have:=h1 k hk hb
      rw [H6 hl hk] at this
      exact this) (fun _=>h2)
  rcases h with ⟨h,hall⟩ | ⟨k,hk,ho,_,h⟩
  · have:(List.range l.length).all ok=true:=by
      rw [List.all_eq_true]
      intro x hx
      exact hall x (by simpa using hx)
    rw [this]; exact h
  · have:(List.range l.length).all ok=false:=by
      rw [List.all_eq_false]
      exact ⟨k,by simpa using hk,by simp [ho]⟩
    rw [this]; exact h
theorem b6R {α R B:Type} {body:Int→Option (b6 R Int B)} (l:List α) (hl:n7 l) (is:α→Bool) (f:α→R) (b:B)
    (h1 : ∀ (k:Nat) (h:k<l.length),body (k:Int)=some (bif is l[k] then .ret (f l[k]) else .nxt (i7 ((k:Int)+1))))
    (h2:body (l.length:Int)=some (.brk b)):m5 body 0=some (match l.find? is with | some x=>.ret (f x) | none=>.brk b):=by
  have key : ∀ (m k:Nat),k+m=l.length→m5 body (k:Int)=some (match (l.drop k).find? is with | some x=>.ret (f x) | none=>.brk b):=by
    intro m
    induction m with
    | zero =>
      intro k hk
      have:k=l.length:=by omega
      subst this
      rw [List.drop_length]
      exact D6 h2
    | succ m ih =>
      intro k hk
      have hlt:k<l.length:=by omega
      have hb:=h1 k hlt
      rw [List.drop_eq_getElem_cons hlt,List.find?_cons]
      cases hq:is l[k] with
      | true =>
        rw [hq] at hb
        exact a4z hb
      | false =>
        rw [hq] at hb
        rw [M3 hb,H6 hl hlt]
        exact ih (k+1) (by omega)
  have:=key l.length 0 (by omega)
  simpa using this
theorem c31 {α S R B:Type} {body:S×Int→Option (b6 R (S×Int) B)} (l:List α) (hl:n7 l) (g:S→α→S) (s0:S) (b:S→B)
    (h1 : ∀ (k:Nat) (h:k<l.length),body ((l.take k).foldl g s0,(k:Int))=some (.nxt (g ((l.take k).foldl g s0) l[k],i7 ((k:Int)+1))))
    (h2:body (l.foldl g s0,(l.length:Int))=some (.brk (b (l.foldl g s0)))):m5 body (s0,0)=some (.brk (b (l.foldl g s0))):=by
  have h:=V4 (body:=body) (fun k=>((l.take k).foldl g s0,(k:Int))) l.length (fun k hk=>by
    rw [h1 k hk,H6 hl hk,List.take_succ_eq_append_getElem hk,List.foldl_append]
    rfl)
  simp only [List.take_zero,List.foldl_nil,List.take_length] at h
  rw [show ((0:Nat):Int)=0 from rfl] at h
  rw [h]
  exact D6 h2
def b9A (x:g9):Prop:=G8 x.Who∧G8 x.Seq
def d0o (x:n3):Prop:=G8 x.Box∧G8 x.Ver
def d4A (x:m4):Prop:=G8 x.Box∧G8 x.Val
def b35 (x:i6):Prop:=(v5 16 d0o) x.Reads∧(v5 16 d4A) x.Puts∧G8 x.Val∧G8 x.Code
def E9 (x:b5):Prop:=b9A x.Req∧b35 x.Run
def X1 (x:d7):Prop:=G8 x.Bal∧E9 x.Entry
def c1B (x:s6):Prop:=G8 x.Promised∧(v5 96 X1) x.Votes
def a9q (x:j6):Prop:=G8 x.Kind∧G8 x.A∧G8 x.B∧G8 x.N
def Y1 (x:a6):Prop:=G8 x.Id∧c1B x.Acc∧(v5 88 E9) x.Known∧G8 x.Seq∧G8 x.Phase∧G8 x.Bal∧(v5 1 okT) x.From∧(v5 96 X1) x.Best∧E9 x.Cur∧(v5 1 okT) x.Votes∧(v5 32 a9q) x.Prog∧E9 x.Want∧(v5 88 E9) x.Queue
def a1V (x:a8):Prop:=G8 x.Kind∧G8 x.From∧G8 x.To∧G8 x.Bal∧G8 x.Slot∧E9 x.Entry∧(v5 96 X1) x.Votes
def c5K (x:j9):Prop:=b9A x.Req∧(v5 32 a9q) x.Prog
def c3M (x:e9):Prop:=G8 x.Node∧b9A x.Req∧G8 x.Code∧G8 x.Val
def a6x (x:f0):Prop:=(v5 392 Y1) x.Nodes∧(v5 152 a1V) x.Net∧(v5 40 c5K) x.Asked∧(v5 40 c3M) x.Told
theorem v5.fits {α:Type} {bytes:Nat} {ok:α→Prop} {l:List α} (h:v5 bytes ok l) (hb:0<bytes):n7 l:=by
  obtain ⟨h,_⟩:=h
  unfold n7
  have:l.length * 1≤l.length * bytes:=Nat.mul_le_mul_left _ hb
  omega
def a1W (x:i6):Prop:=v5 16 okT x.Reads∧v5 16 okT x.Puts∧True
def X0 (x:b5):Prop:=True∧a1W x.Run
theorem v5.imp {α:Type} {bytes:Nat} {ok ok':α→Prop} {l:List α} (h:v5 bytes ok l) (hi : ∀ x,ok x→ok' x):v5 bytes ok' l:=⟨h.1,fun x hx=>hi x (h.2 x hx)⟩
theorem b35.f {x:i6} (h:b35 x):a1W x:=⟨h.1.imp fun _ _=>trivial,h.2.1.imp fun _ _=>trivial,trivial⟩
theorem E9.f {x:b5} (h:E9 x):X0 x:=⟨trivial,h.2.f⟩
theorem okEntries.f {l:List b5} (h:v5 88 E9 l):v5 88 X0 l:=h.imp fun _ x=>x.f
def P1 (l:List n3) (box:Int):Bool:=l.any (·.Box==box)
def T0 (l:List m4) (box:Int):Bool:=l.any (·.Box==box)
theorem b5f {l:List n3} (h:n7 l) (box:Int):a9d l box=some (P1 l box):=by
  unfold a9d
  rw [a1a l h (fun x => !(x.Box==box)) true ()]
  · unfold P1
    rw [List.any_eq_not_all_not]
    cases l.all fun x => !(x.Box==box)<;>rfl
  · intro k hk
    unfold b3R
    rw [u5 l k hk,p9 hk]
    cases hq:l[k].Box==box<;>simp [hq]
  · unfold b3R
    rw [A5]; rfl
theorem d04 {α B:Type} {body:Int→Option (b6 Int Int B)} (l:List α) (hl:n7 l) (is:α→Bool) (b:B)
    (h1 : ∀ (k:Nat) (h:k<l.length),body (k:Int)=some (bif is l[k] then .ret (k:Int) else .nxt (i7 ((k:Int)+1))))
    (h2:body (l.length:Int)=some (.brk b)):(m5 body 0=some (.brk b)∧l.any is=false) ∨ ∃ k:Nat,m5 body 0=some (.ret (k:Int))∧l.any is=true:=by
  have h:=a5Y (body:=body) (fun k=>(k:Int)) l.length (fun k=>match l[k]? with | some x => !is x | none=>true) (fun k=>(k:Int)) b
    (fun k hk _=>by
      have:=h1 k hk
      rw [H6 hl hk] at this
      rw [this]
      simp only [List.getElem?_eq_getElem hk]
      cases is l[k]<;>rfl) (fun _=>h2)
  rcases h with ⟨h,hall⟩ | ⟨k,hk,ho,_,h⟩
  · left
    refine ⟨h,?_⟩
    rw [List.any_eq_false]
    intro x hx
    obtain ⟨i,hi,rfl⟩:=List.getElem_of_mem hx
    have:=hall i hi
    simpa [List.getElem?_eq_getElem hi] using this
  · right
    refine ⟨k,h,?_⟩
    rw [List.any_eq_true]
    refine ⟨l[k],List.getElem_mem hk,?_⟩
    simpa [List.getElem?_eq_getElem hk] using ho
theorem d4i {l:List m4} (h:n7 l) (box:Int) : ∃ v,a2l l box=some v∧decide (v≥0)=T0 l box:=by
  unfold a2l
  rcases d04 (body:=fun s:Int=>a1i l box s) l h (fun x=>x.Box==box) () (by
    intro k hk
    unfold a1i
    rw [u5 l k hk,p9 hk]
    cases hq:l[k].Box==box<;>simp [hq]) (by unfold a1i; rw [A5]; rfl) with ⟨h1,h2⟩ | ⟨k,h1,h2⟩
  · rw [h1]
    exact ⟨-1,rfl,h2.symm⟩
  · rw [h1]
    refine ⟨k,rfl,?_⟩
    rw [show T0 l box=true from h2]
    simp
def j7 (n lo hi:Int):Bool:=decide (lo≤n∧n≤hi)
theorem a16 (n lo hi:Int):U4 n lo hi=some (j7 n lo hi):=by
  unfold U4 j7
  by_cases h:n≥lo
  · have h':lo≤n:=h
    simp [h']
  · have h' : ¬ lo≤n:=h
    simp [h']
theorem a4g (n:Int):a36 n=some (j7 n (-1000000) 1000000):=a16 n (-1000000) 1000000
theorem b7f (n:Int):a5z n=some (j7 n 0 3):=by
  rw [← a16]
  unfold a5z U4
  have:(n<4)=(n≤3):=by apply propext; omega
  simp only [this]
theorem c7F (q:g9):a8H q=some (j7 q.Who 0 2&&j7 q.Seq 1 1000):=by
  unfold a8H
  simp only [a16,Option.bind_some]
  cases j7 q.Who 0 2<;>rfl
theorem b5H (q:g9):a7Y q=some (j7 q.Who 0 2&&j7 q.Seq 1 1000):=by
  have h3:(q.Who<3)=(q.Who≤2):=by apply propext; omega
  unfold a7Y j7
  simp only [h3]
  by_cases h1:q.Who≥0<;>by_cases h2:q.Who≤2<;>by_cases h4:q.Seq≥1<;>by_cases h5:q.Seq≤1000<;>simp [h1,h2,h4,h5]<;>omega
def V5 (l:List n3) (k:Nat):Bool:=match l[k]? with
  | some x=>j7 x.Box 0 3&&(j7 x.Ver 0 1000000 && !P1 (l.take k) x.Box)
  | none=>true
def W2 (l:List m4) (k:Nat):Bool:=match l[k]? with
  | some x=>j7 x.Box 0 3&&(j7 x.Val (-1000000) 1000000 && !T0 (l.take k) x.Box)
  | none=>true
theorem c3E {α:Type} {l:List α} (h:n7 l) (k:Nat):n7 (l.take k):=by
  unfold n7 at h ⊢
  rw [List.length_take]
  omega
theorem d1T {r:i6} (h:n7 r.Reads):m5 (fun s:Int=>a9Z r s) 0=some (bif (List.range r.Reads.length).all (V5 r.Reads) then .brk () else .ret false):=by
  refine a5n r.Reads h (V5 r.Reads) false () ?_ ?_
  · intro k hk _
    unfold a9Z V5 n8
    rw [u5 _ k hk,p9 hk,List.getElem?_eq_getElem hk]
    have hp:(0:Int)≤(k:Int)∧(k:Int)≤(r.Reads.length:Int):=by constructor<;>omega
    simp only [cond_true,Option.bind_some,if_pos hp,b7f,Int.toNat_natCast,Nat.sub_zero,List.drop_zero,b5f (c3E h k)]
    cases j7 r.Reads[k].Box 0 3
    · rfl
    · unfold j7
      by_cases h1:r.Reads[k].Ver<0
      · have h1' : ¬ 0≤r.Reads[k].Ver:=by omega
        simp [h1,h1']
      · have h1':0≤r.Reads[k].Ver:=by omega
        by_cases h2:r.Reads[k].Ver>1000000
        · have h2' : ¬ r.Reads[k].Ver≤1000000:=by omega
          simp [h1,h1',h2,h2']
        · have h2':r.Reads[k].Ver≤1000000:=by omega
          simp only [h1,h1',h2,h2',decide_false,decide_true,Bool.not_true,cond_false,Bool.true_and,and_self]
          cases P1 (r.Reads.take k) r.Reads[k].Box<;>rfl
  · unfold a9Z
    rw [A5]; rfl
theorem d2F {r:i6} (h:n7 r.Puts):m5 (fun s:Int=>b0k r s) 0=some (bif (List.range r.Puts.length).all (W2 r.Puts) then .brk () else .ret false):=by
  refine a5n r.Puts h (W2 r.Puts) false () ?_ ?_
  · intro k hk _
    obtain ⟨v,hv,hg⟩:=d4i (c3E h k) r.Puts[k].Box
    unfold b0k W2 n8
    rw [u5 _ k hk,p9 hk,List.getElem?_eq_getElem hk]
    have hp:(0:Int)≤(k:Int)∧(k:Int)≤(r.Puts.length:Int):=by constructor<;>omega
    simp only [cond_true,Option.bind_some,if_pos hp,b7f,a4g,Int.toNat_natCast,Nat.sub_zero,List.drop_zero,hv,hg]
    cases j7 r.Puts[k].Box 0 3
    · rfl
    · cases j7 r.Puts[k].Val (-1000000) 1000000
      · rfl
      · cases T0 (r.Puts.take k) r.Puts[k].Box<;>rfl
  · unfold b0k
    rw [A5]; rfl
def a7M (f:Int→Bool):List Bool:=[f 0,f 1,f 2,f 3]
theorem c5A {f:Int→Bool} {b:Int} (h:j7 b 0 3=true):idx (a7M f) b=some (f b)∧b<4:=by
  have h:0≤b∧b≤3:=by simpa [j7] using h
  have:b=0∨b=1∨b=2∨b=3:=by omega
  rcases this with rfl | rfl | rfl | rfl<;>exact ⟨rfl,by decide⟩
theorem c4u {f g:Int→Bool} {b:Int} (h:j7 b 0 3=true) (hb:g b=true) (hne : ∀ c,c≠b→g c=f c):(a7M f).set b.toNat true=a7M g:=by
  have h:0≤b∧b≤3:=by simpa [j7] using h
  have:b=0∨b=1∨b=2∨b=3:=by omega
  unfold a7M
  rcases this with rfl | rfl | rfl | rfl
  all_goals
    rw [show [g 0,g 1,g 2,g 3]=_ from rfl]
    first
      | rw [hb,hne 1 (by decide),hne 2 (by decide),hne 3 (by decide)]; rfl
      | rw [hb,hne 0 (by decide),hne 2 (by decide),hne 3 (by decide)]; rfl
      | rw [hb,hne 0 (by decide),hne 1 (by decide),hne 3 (by decide)]; rfl
      | rw [hb,hne 0 (by decide),hne 1 (by decide),hne 2 (by decide)]; rfl
theorem c1h {l:List n3} {k:Nat} (hk:k<l.length) (b:Int):P1 (l.take (k+1)) b=(P1 (l.take k) b||(l[k].Box==b)):=by
  unfold P1
  rw [List.take_succ_eq_append_getElem hk,List.any_append]
  simp
theorem c1u {l:List m4} {k:Nat} (hk:k<l.length) (b:Int):T0 (l.take (k+1)) b=(T0 (l.take k) b||(l[k].Box==b)):=by
  unfold T0
  rw [List.take_succ_eq_append_getElem hk,List.any_append]
  simp
theorem d7C {l:List n3} {k:Nat} (hk:k<l.length) (c:Int) (hc:c≠l[k].Box):P1 (l.take (k+1)) c=P1 (l.take k) c:=by
  have:(l[k].Box==c)=false:=by simpa using fun h=>hc h.symm
  rw [c1h hk,this,Bool.or_false]
theorem d2H {l:List m4} {k:Nat} (hk:k<l.length) (c:Int) (hc:c≠l[k].Box):T0 (l.take (k+1)) c=T0 (l.take k) c:=by
  have:(l[k].Box==c)=false:=by simpa using fun h=>hc h.symm
  rw [c1u hk,this,Bool.or_false]
theorem c3R {R S B:Type} {x:Option (b7 R B)} {n:Nat} {ok:Nat→Bool} {r:R} {b:B} (h:(x=some (.brk b) ∧ ∀ j,j<n→ok j=true) ∨ ∃ k,k<n∧ok k=false∧(∀ j,j<k→ok j=true)∧x=some (.ret r)):x=some (bif (List.range n).all ok then .brk b else .ret r):=by
  rcases h with ⟨h,hall⟩ | ⟨k,hk,ho,_,h⟩
  · have:(List.range n).all ok=true:=by
      rw [List.all_eq_true]
      intro x hx
      exact hall x (by simpa using hx)
    rw [this]; exact h
  · have:(List.range n).all ok=false:=by
      rw [List.all_eq_false]
      exact ⟨k,by simpa using hk,by simp [ho]⟩
    rw [this]; exact h
theorem d78 {r:i6} (h:n7 r.Reads):m5 (fun s:List Bool×Int=>a8f r s.1 s.2) (List.replicate 4 false,0)=some (bif (List.range r.Reads.length).all (V5 r.Reads) then .brk () else .ret false):=by
  refine c3R (S:=List Bool×Int) (a5Y (body:=fun s:List Bool×Int=>a8f r s.1 s.2) (fun k=>(a7M (P1 (r.Reads.take k)),(k:Int))) r.Reads.length (V5 r.Reads) (fun _=>false) () ?_ ?_)
  · intro k hk _
    simp only
    unfold a8f V5 n8
    rw [u5 _ k hk,p9 hk,List.getElem?_eq_getElem hk]
    simp only [cond_true,Option.bind_some,a16]
    cases hb:j7 r.Reads[k].Box 0 3
    · rfl
    · obtain ⟨h1,h2⟩:=c5A (f:=P1 (r.Reads.take k)) hb
      rw [h1]
      simp only [if_pos h2,Bool.not_true,cond_false,Option.bind_some,Bool.true_and]
      cases hs:P1 (r.Reads.take k) r.Reads[k].Box
      · cases j7 r.Reads[k].Ver 0 1000000
        · rfl
        · simp only [Bool.not_true,cond_false,Bool.not_false,Bool.true_and,cond_true]
          rw [c4u (f:=P1 (r.Reads.take k)) (g:=P1 (r.Reads.take (k+1))) hb (by rw [c1h hk]; simp) (d7C hk),H6 h hk]
      · cases j7 r.Reads[k].Ver 0 1000000<;>rfl
  · intro _
    simp only
    unfold a8f
    rw [A5]; rfl
theorem c99 {r:i6} (h:n7 r.Puts):m5 (fun s:List Bool×Int=>a7a r s.1 s.2) (List.replicate 4 false,0)=some (bif (List.range r.Puts.length).all (W2 r.Puts) then .brk () else .ret false):=by
  refine c3R (S:=List Bool×Int) (a5Y (body:=fun s:List Bool×Int=>a7a r s.1 s.2) (fun k=>(a7M (T0 (r.Puts.take k)),(k:Int))) r.Puts.length (W2 r.Puts) (fun _=>false) () ?_ ?_)
  · intro k hk _
    simp only
    unfold a7a W2 n8
    rw [u5 _ k hk,p9 hk,List.getElem?_eq_getElem hk]
    simp only [cond_true,Option.bind_some,a16]
    cases hb:j7 r.Puts[k].Box 0 3
    · rfl
    · obtain ⟨h1,h2⟩:=c5A (f:=T0 (r.Puts.take k)) hb
      rw [h1]
      simp only [if_pos h2,Bool.not_true,cond_false,Option.bind_some,Bool.true_and]
      cases hs:T0 (r.Puts.take k) r.Puts[k].Box
      · cases j7 r.Puts[k].Val (-1000000) 1000000
        · rfl
        · simp only [Bool.not_true,cond_false,Bool.not_false,Bool.true_and,cond_true]
          rw [c4u (f:=T0 (r.Puts.take k)) (g:=T0 (r.Puts.take (k+1))) hb (by rw [c1u hk]; simp) (d2H hk),H6 h hk]
      · cases j7 r.Puts[k].Val (-1000000) 1000000<;>rfl
  · intro _
    simp only
    unfold a7a
    rw [A5]; rfl
def R9 (r:i6):Bool:=j7 r.Code 0 3&&(j7 r.Val (-1000000) 1000000&&((r.Code==0||(r.Val==0&&r.Puts.length==0))&&((r.Code != 3||r.Reads.length==0)&&((List.range r.Reads.length).all (V5 r.Reads)&&(List.range r.Puts.length).all (W2 r.Puts)))))
theorem d0F {r:i6} (h:a1W r):b2Y r=some ((List.range r.Reads.length).all (V5 r.Reads)&&(List.range r.Puts.length).all (W2 r.Puts)):=by
  unfold b2Y b85
  rw [d1T (h.1.fits (by decide)),d2F (h.2.1.fits (by decide))]
  cases (List.range r.Reads.length).all (V5 r.Reads)<;>cases (List.range r.Puts.length).all (W2 r.Puts)<;>rfl
theorem d0R {r:i6} (h:a1W r):b3X r=some ((List.range r.Reads.length).all (V5 r.Reads)&&(List.range r.Puts.length).all (W2 r.Puts)):=by
  unfold b3X b9n
  rw [d78 (h.1.fits (by decide)),c99 (h.2.1.fits (by decide))]
  cases (List.range r.Reads.length).all (V5 r.Reads)<;>cases (List.range r.Puts.length).all (W2 r.Puts)<;>rfl
theorem c35 {α:Type} (l:List α):decide ((l.length:Int)>0) = !(l.length==0):=by
  cases l<;>simp
theorem c2K {r:i6} (h:a1W r):a9Y r=some (R9 r):=by
  unfold a9Y R9
  rw [d0F h]
  simp only [a4g,c35,Option.bind_some,b7.go]
  generalize ((List.range r.Reads.length).all (V5 r.Reads)&&(List.range r.Puts.length).all (W2 r.Puts))=z
  generalize (r.Puts.length==0)=a
  generalize (r.Reads.length==0)=b
  generalize j7 r.Val (-1000000) 1000000=c
  have h3:j7 r.Code 0 3=(!decide (r.Code<0) && !decide (r.Code>3)):=by
    unfold j7
    by_cases h1:r.Code<0<;>by_cases h2:r.Code>3<;>simp [h1,h2]<;>omega
  rw [h3]
  unfold bne
  cases decide (r.Code<0)<;>cases decide (r.Code>3)<;>cases c<;>cases (r.Code==0)<;>cases (r.Val==0)<;>cases a<;>cases (r.Code==3)<;>cases b<;>rfl
theorem b89 {r:i6} (h:a1W r):a7E r=some (R9 r):=by
  unfold a7E R9
  rw [d0R h]
  simp only [a16,c35,Option.bind_some,b7.go]
  generalize ((List.range r.Reads.length).all (V5 r.Reads)&&(List.range r.Puts.length).all (W2 r.Puts))=z
  generalize (r.Puts.length==0)=a
  generalize (r.Reads.length==0)=b
  generalize j7 r.Val (-1000000) 1000000=c
  generalize j7 r.Code 0 3=d
  unfold bne
  cases d<;>cases c<;>cases (r.Code==0)<;>cases (r.Val==0)<;>cases a<;>cases (r.Code==3)<;>cases b<;>rfl
def a1M (a b:List n3) (k:Nat):Bool:=match a[k]?,b[k]? with
  | some x,some y=>([x.Box,x.Ver]:List Int)==[y.Box,y.Ver]
  | _,_=>true
def a11 (a b:List m4) (k:Nat):Bool:=match a[k]?,b[k]? with
  | some x,some y=>([x.Box,x.Val]:List Int)==[y.Box,y.Val]
  | _,_=>true
theorem d1D {a b:i6} (h:n7 a.Reads) (hl:a.Reads.length=b.Reads.length):m5 (fun s:Int=>a99 a b s) 0=some (bif (List.range a.Reads.length).all (a1M a.Reads b.Reads) then .brk () else .ret false):=by
  refine a5n a.Reads h (a1M a.Reads b.Reads) false () ?_ ?_
  · intro k hk _
    unfold a99 a1M
    rw [u5 _ k hk,p9 hk,p9 (hl▸hk),List.getElem?_eq_getElem hk,List.getElem?_eq_getElem (hl▸hk)]
    simp only [cond_true,Option.bind_some]
    cases ([a.Reads[k].Box,a.Reads[k].Ver]:List Int)==[(b.Reads[k]'(hl▸hk)).Box,(b.Reads[k]'(hl▸hk)).Ver]<;>rfl
  · unfold a99
    rw [A5]; rfl
theorem d3I {a b:i6} (h:n7 a.Puts) (hl:a.Puts.length=b.Puts.length):m5 (fun s:Int=>a9F a b s) 0=some (bif (List.range a.Puts.length).all (a11 a.Puts b.Puts) then .brk () else .ret false):=by
  refine a5n a.Puts h (a11 a.Puts b.Puts) false () ?_ ?_
  · intro k hk _
    unfold a9F a11
    rw [u5 _ k hk,p9 hk,p9 (hl▸hk),List.getElem?_eq_getElem hk,List.getElem?_eq_getElem (hl▸hk)]
    simp only [cond_true,Option.bind_some]
    cases ([a.Puts[k].Box,a.Puts[k].Val]:List Int)==[(b.Puts[k]'(hl▸hk)).Box,(b.Puts[k]'(hl▸hk)).Val]<;>rfl
  · unfold a9F
    rw [A5]; rfl
theorem c86 {a b:List n3} (h:n7 a):b3y a b=some (a.length==b.length&&(List.range a.length).all (a1M a b)):=by
  unfold b3y
  by_cases hl:a.length=b.length
  · rw [a5n a h (a1M a b) false ()]
    · rw [hl]
      simp only [bne_self_eq_false,cond_false,beq_self_eq_true,Bool.true_and]
      cases (List.range b.length).all (a1M a b)<;>rfl
    · intro k hk _
      unfold b4j a1M
      rw [u5 _ k hk,p9 hk,p9 (hl▸hk),List.getElem?_eq_getElem hk,List.getElem?_eq_getElem (hl▸hk)]
      simp only [cond_true,Option.bind_some]
      cases ([a[k].Box,a[k].Ver]:List Int)==[(b[k]'(hl▸hk)).Box,(b[k]'(hl▸hk)).Ver]<;>rfl
    · unfold b4j
      rw [A5]; rfl
  · have h1:((a.length:Int) != (b.length:Int))=true:=by simp; omega
    have h2:(a.length==b.length)=false:=by simpa using hl
    rw [h1,h2]; rfl
theorem d3v {a b:List m4} (h:n7 a):b4t a b=some (a.length==b.length&&(List.range a.length).all (a11 a b)):=by
  unfold b4t
  by_cases hl:a.length=b.length
  · rw [a5n a h (a11 a b) false ()]
    · rw [hl]
      simp only [bne_self_eq_false,cond_false,beq_self_eq_true,Bool.true_and]
      cases (List.range b.length).all (a11 a b)<;>rfl
    · intro k hk _
      unfold b4q a11
      rw [u5 _ k hk,p9 hk,p9 (hl▸hk),List.getElem?_eq_getElem hk,List.getElem?_eq_getElem (hl▸hk)]
      simp only [cond_true,Option.bind_some]
      cases ([a[k].Box,a[k].Val]:List Int)==[(b[k]'(hl▸hk)).Box,(b[k]'(hl▸hk)).Val]<;>rfl
    · unfold b4q
      rw [A5]; rfl
  · have h1:((a.length:Int) != (b.length:Int))=true:=by simp; omega
    have h2:(a.length==b.length)=false:=by simpa using hl
    rw [h1,h2]; rfl
def a3A (a b:i6):Bool:=(a.Reads.length==b.Reads.length&&(List.range a.Reads.length).all (a1M a.Reads b.Reads))&&((a.Puts.length==b.Puts.length&&(List.range a.Puts.length).all (a11 a.Puts b.Puts))&&(a.Val==b.Val&&a.Code==b.Code))
theorem c8X {α β:Type} (a:List α) (b:List β):((a.length:Int) != (b.length:Int)) = !(a.length==b.length):=by
  unfold bne
  congr 1
  by_cases h:a.length=b.length
  · simp [h]
  · have h1:((a.length:Int)==(b.length:Int))=false:=by simp; omega
    have h2:(a.length==b.length)=false:=by simpa using h
    rw [h1,h2]
theorem b6o {a b:i6} (h:a1W a):a7U a b=some (a3A a b):=by
  unfold a7U a3A
  rw [c8X,c8X]
  cases h1:a.Reads.length==b.Reads.length
  · unfold bne
    cases a.Val==b.Val<;>cases a.Code==b.Code<;>rfl
  cases h2:a.Puts.length==b.Puts.length
  · unfold bne
    cases a.Val==b.Val<;>cases a.Code==b.Code<;>simp
  unfold b9x
  rw [d1D (h.1.fits (by decide)) (by simpa using h1),d3I (h.2.1.fits (by decide)) (by simpa using h2)]
  unfold bne
  cases (List.range a.Reads.length).all (a1M a.Reads b.Reads)<;>cases (List.range a.Puts.length).all (a11 a.Puts b.Puts)<;>cases a.Val==b.Val<;>cases a.Code==b.Code<;>rfl
theorem d0Z {a b:i6} (h:a1W a):b3A a b=some (a3A a b):=by
  unfold b3A a3A
  rw [c86 (h.1.fits (by decide)),d3v (h.2.1.fits (by decide))]
  simp only [Option.bind_some]
  generalize (a.Reads.length==b.Reads.length&&(List.range a.Reads.length).all (a1M a.Reads b.Reads))=x
  generalize (a.Puts.length==b.Puts.length&&(List.range a.Puts.length).all (a11 a.Puts b.Puts))=y
  cases x<;>cases y<;>cases a.Val==b.Val<;>rfl
def q9 (e:b5):Bool:=bif e.None then (([e.Req.Who,e.Req.Seq]:List Int)==[0,0])&&a3A e.Run (i6.mk [] [] 0 0) else (j7 e.Req.Who 0 2&&j7 e.Req.Seq 1 1000)&&(R9 e.Run&&e.Run.Code != 3)
theorem a2q {e:b5} (h:X0 e):a0w e=some (q9 e):=by
  unfold a0w q9
  simp only [b6o h.2,b5H,c2K h.2,Option.bind_some]
  cases e.None
  · simp only [cond_false]
    cases j7 e.Req.Who 0 2&&j7 e.Req.Seq 1 1000<;>cases R9 e.Run<;>rfl
  · simp only [cond_true]
    cases ([e.Req.Who,e.Req.Seq]:List Int)==[0,0]<;>rfl
theorem c4Q {e:b5} (h:X0 e):a86 e=some (q9 e):=by
  unfold a86 b5T q9
  simp only [d0Z h.2,c7F,b89 h.2,Option.bind_some]
  cases e.None
  · simp only [cond_false]
    cases j7 e.Req.Who 0 2&&j7 e.Req.Seq 1 1000<;>cases R9 e.Run<;>rfl
  · simp only [cond_true,beq_self_eq_true]
    cases ([e.Req.Who,e.Req.Seq]:List Int)==[0,0]<;>rfl
def H4 (l:List b5):Bool:=decide (l.length≤40)&&l.all q9
theorem d11 {α:Type} (l:List α) (n:Nat):decide ((l.length:Int)≤(n:Int))=decide (l.length≤n):=by
  by_cases h:l.length≤n
  · have:(l.length:Int)≤(n:Int):=by omega
    simp [h,this]
  · have : ¬ (l.length:Int)≤(n:Int):=by omega
    simp [h,this]
theorem b0y {α:Type} (l:List α) (n:Nat):decide ((l.length:Int)>(n:Int)) = !decide (l.length≤n):=by
  by_cases h:l.length≤n
  · have : ¬ (l.length:Int)>(n:Int):=by omega
    simp [h,this]
  · have:(l.length:Int)>(n:Int):=by omega
    simp [h,this]
theorem c4O {l:List b5} (h:v5 88 X0 l):a90 l=some (H4 l):=by
  unfold a90 H4
  rw [show (40:Int)=((40:Nat):Int) from rfl,b0y,a1a l (h.fits (by decide)) q9 false ()]
  · cases decide (l.length≤40)
    · rfl
    · cases l.all q9<;>rfl
  · intro k hk
    unfold b1S
    rw [u5 _ k hk,p9 hk]
    simp only [cond_true,Option.bind_some,a2q (h.2 _ (List.getElem_mem hk))]
    cases q9 l[k]<;>rfl
  · unfold b1S
    rw [A5]; rfl
theorem d3Z {l:List b5} (h:v5 88 X0 l):b3s l=some (H4 l):=by
  unfold b3s H4 b5i
  rw [show (40:Int)=((40:Nat):Int) from rfl,d11,a1a l (h.fits (by decide)) q9 false ()]
  · cases l.all q9<;>cases decide (l.length≤40)<;>rfl
  · intro k hk
    unfold b1Z
    rw [u5 _ k hk,p9 hk]
    simp only [cond_true,Option.bind_some,c4Q (h.2 _ (List.getElem_mem hk))]
    cases q9 l[k]<;>rfl
  · unfold b1Z
    rw [A5]; rfl
def a2j (b:g7):Bool:=j7 b.Ver 0 1000000&&j7 b.Val (-1000000) 1000000
def G3 (l:List g7):Bool:=l.length==4&&l.all a2j
theorem c8Y {α:Type} (l:List α) (n:Nat):((l.length:Int) != (n:Int)) = !(l.length==n):=by
  unfold bne
  congr 1
  by_cases h:l.length=n
  · simp [h]
  · have h1:((l.length:Int)==(n:Int))=false:=by simp; omega
    have h2:(l.length==n)=false:=by simpa using h
    rw [h1,h2]
theorem d1q {α:Type} (l:List α) (n:Nat):((l.length:Int)==(n:Int))=(l.length==n):=by
  have:=c8Y l n
  unfold bne at this
  simpa using this
theorem b5h {l:List g7} (h:n7 l):a9w l=some (G3 l):=by
  unfold a9w G3
  rw [show (4:Int)=((4:Nat):Int) from rfl,c8Y,a1a l h a2j false ()]
  · cases l.length==4
    · rfl
    · cases l.all a2j<;>rfl
  · intro k hk
    unfold b4b a2j
    rw [u5 _ k hk,p9 hk]
    simp only [cond_true,Option.bind_some,a4g]
    cases hq:j7 l[k].Ver 0 1000000 with
    | false =>
      by_cases h1:l[k].Ver<0
      · simp [h1]
      · have:l[k].Ver>1000000:=by
          unfold j7 at hq
          simp at hq
          omega
        simp [h1,this]
    | true =>
      unfold j7 at hq
      simp at hq
      have h1 : ¬ l[k].Ver<0:=by omega
      have h2 : ¬ l[k].Ver>1000000:=by omega
      simp only [h1,h2,decide_false,cond_false,Bool.true_and]
      cases j7 l[k].Val (-1000000) 1000000<;>rfl
  · unfold b4b
    rw [A5]; rfl
theorem b8T {l:List g7} (h:n7 l):a7u l=some (G3 l):=by
  unfold a7u G3 b7b
  rw [show (4:Int)=((4:Nat):Int) from rfl,d1q,a1a l h a2j false ()]
  · cases l.length==4<;>cases l.all a2j<;>rfl
  · intro k hk
    unfold b3w a2j
    rw [u5 _ k hk,p9 hk]
    simp only [cond_true,Option.bind_some,a16]
    cases j7 l[k].Ver 0 1000000<;>cases j7 l[k].Val (-1000000) 1000000<;>rfl
  · unfold b3w
    rw [A5]; rfl
theorem c1q {l:List n3} (h:(List.range l.length).all (V5 l)=true) : ∀ x∈l,0≤x.Box∧x.Box≤3∧0≤x.Ver∧x.Ver≤1000000:=by
  intro x hx
  obtain ⟨i,hi,rfl⟩:=List.getElem_of_mem hx
  have:=List.all_eq_true.1 h i (by simpa using hi)
  unfold V5 at this
  rw [List.getElem?_eq_getElem hi] at this
  simp [j7] at this
  omega
theorem c0n {l:List m4} (h:(List.range l.length).all (W2 l)=true) : ∀ x∈l,0≤x.Box∧x.Box≤3 ∧ -1000000≤x.Val∧x.Val≤1000000:=by
  intro x hx
  obtain ⟨i,hi,rfl⟩:=List.getElem_of_mem hx
  have:=List.all_eq_true.1 h i (by simpa using hi)
  unfold W2 at this
  rw [List.getElem?_eq_getElem hi] at this
  simp [j7] at this
  omega
theorem a5i {r:i6} (h:R9 r=true):(0≤r.Code∧r.Code≤3)∧(-1000000≤r.Val∧r.Val≤1000000)∧(r.Code=0∨(r.Val=0∧r.Puts=[]))∧(∀ x∈r.Reads,0≤x.Box∧x.Box≤3∧0≤x.Ver∧x.Ver≤1000000) ∧ ∀ x∈r.Puts,0≤x.Box∧x.Box≤3 ∧ -1000000≤x.Val∧x.Val≤1000000:=by
  unfold R9 at h
  simp only [Bool.and_eq_true,Bool.or_eq_true] at h
  obtain ⟨h1,h2,h3,_,h4,h5⟩:=h
  refine ⟨by simpa [j7] using h1,by simpa [j7] using h2,by simpa using h3,c1q h4,c0n h5⟩
def a2A (l:List g7) (r:i6):Bool:=r.Reads.all fun x=>match l[x.Box.toNat]? with
  | some b=>b.Ver==x.Ver
  | none=>true
theorem b1F {l:List g7} (h:G3 l=true):l.length=4:=by
  unfold G3 at h
  simp only [Bool.and_eq_true,beq_iff_eq] at h
  exact h.1
theorem a4r {l:List g7} (h:G3 l=true):n7 l:=by
  unfold n7
  rw [b1F h]
  decide
theorem a5a {l:List g7} (h:G3 l=true) {b:Int} (hb:0≤b∧b≤3) : ∃ x,idx l b=some x∧l[b.toNat]?=some x∧a2j x=true:=by
  have hl:=b1F h
  have hlt:b.toNat<l.length:=by omega
  refine ⟨l[b.toNat],?_,List.getElem?_eq_getElem hlt,?_⟩
  · unfold idx
    rw [if_pos hb.1,List.getElem?_eq_getElem hlt]
  · unfold G3 at h
    simp only [Bool.and_eq_true] at h
    exact List.all_eq_true.1 h.2 _ (List.getElem_mem hlt)
theorem d33 {l:List g7} {r:i6} (hl:n7 l) (hr:a1W r):b4u l r=some (G3 l&&(R9 r&&a2A l r)):=by
  unfold b4u
  rw [b5h hl,c2K hr]
  simp only [Option.bind_some]
  cases h1:G3 l
  · rfl
  cases h2:R9 r
  · rfl
  have hp:=a5i h2
  simp only [Bool.not_true,cond_false,Bool.true_and]
  rw [a1a r.Reads (hr.1.fits (by decide)) (fun x=>match l[x.Box.toNat]? with | some b=>b.Ver==x.Ver | none=>true) false ()]
  · unfold a2A
    cases r.Reads.all _<;>rfl
  · intro k hk
    have hm:=hp.2.2.2.1 _ (List.getElem_mem hk)
    obtain ⟨b,hb1,hb2,_⟩:=a5a h1 (b:=r.Reads[k].Box) ⟨hm.1,hm.2.1⟩
    unfold b1H
    rw [u5 _ k hk,p9 hk]
    simp only [cond_true,Option.bind_some,hb1,hb2]
    unfold bne
    cases b.Ver==r.Reads[k].Ver<;>rfl
  · unfold b1H
    rw [A5]; rfl
theorem d7n {l:List g7} {r:i6} (hl:n7 l) (hr:a1W r):b1a l r=some (G3 l&&(R9 r&&a2A l r)):=by
  unfold b1a
  rw [b8T hl,b89 hr]
  simp only [Option.bind_some]
  cases h1:G3 l
  · rfl
  cases h2:R9 r
  · rfl
  have hp:=a5i h2
  simp only [Bool.not_true,cond_false,Bool.true_and]
  rw [a1a r.Reads (hr.1.fits (by decide)) (fun x=>match l[x.Box.toNat]? with | some b=>b.Ver==x.Ver | none=>true) false ()]
  · unfold a2A
    cases r.Reads.all _<;>rfl
  · intro k hk
    have hm:=hp.2.2.2.1 _ (List.getElem_mem hk)
    obtain ⟨b,hb1,hb2,_⟩:=a5a h1 (b:=r.Reads[k].Box) ⟨hm.1,hm.2.1⟩
    unfold b38
    rw [u5 _ k hk,p9 hk]
    simp only [cond_true,Option.bind_some,hb1,hb2]
    unfold bne
    cases b.Ver==r.Reads[k].Ver<;>rfl
  · unfold b38
    rw [A5]; rfl
def a3Z (l:List g7) (p:m4):List g7:=match l[p.Box.toNat]? with
  | some b=>l.set p.Box.toNat ⟨if b.Ver+1<1000000 then b.Ver+1 else 1000000,p.Val⟩
  | none=>l
def b2O (l:List g7) (ps:List m4):List g7:=ps.foldl a3Z l
def a2d (x:m4):Prop:=0≤x.Box∧x.Box≤3 ∧ -1000000≤x.Val∧x.Val≤1000000
theorem c0p {l:List g7} {p:m4} {b:g7} (h:l[p.Box.toNat]?=some b):a3Z l p=l.set p.Box.toNat ⟨if b.Ver+1<1000000 then b.Ver+1 else 1000000,p.Val⟩:=by
  unfold a3Z
  rw [h]
theorem b3q {b:g7}:a2j b=true↔(0≤b.Ver∧b.Ver≤1000000)∧(-1000000≤b.Val∧b.Val≤1000000):=by
  unfold a2j j7
  simp
theorem d2G {l:List g7}:G3 l=true↔l.length=4 ∧ ∀ b∈l,a2j b=true:=by
  unfold G3
  simp
theorem c84 {l:List g7} {p:m4} (h:G3 l=true) (hp:a2d p):G3 (a3Z l p)=true:=by
  obtain ⟨b,_,h2,h3⟩:=a5a h (b:=p.Box) ⟨hp.1,hp.2.1⟩
  rw [d2G] at h ⊢
  unfold a3Z
  rw [h2]
  refine ⟨by simpa using h.1,fun x hx => ?_⟩
  rcases List.mem_or_eq_of_mem_set hx with hx | rfl
  · exact h.2 x hx
  · rw [b3q] at h3 ⊢
    refine ⟨?_,hp.2.2⟩
    simp only
    split<;>omega
theorem b7i : ∀ {ps:List m4} {l:List g7},G3 l=true→(∀ p∈ps,a2d p)→G3 (b2O l ps)=true
  | [],l,h,_=>h
  | p::ps,l,h,hp=>b7i (ps:=ps) (c84 h (hp p (by simp))) fun x hx=>hp x (by simp [hx])
theorem c20 {l:List g7} {ps:List m4} (h:G3 l=true) (hp : ∀ p∈ps,a2d p) (k:Nat):G3 ((ps.take k).foldl a3Z l)=true :=
  b7i h fun p hq=>hp p (List.mem_of_mem_take hq)
theorem d3R {l:List g7} {r:i6} (hl:G3 l=true) (hr:a1W r) (hp : ∀ p∈r.Puts,a2d p):b2n l r=some (b2O l r.Puts):=by
  unfold b2n
  rw [c31 r.Puts (hr.2.1.fits (by decide)) a3Z l id]
  · rfl
  · intro k hk
    have hq:=hp _ (List.getElem_mem hk)
    obtain ⟨b,h1,h2,h3⟩:=a5a (c20 hl hp k) (b:=r.Puts[k].Box) ⟨hq.1,hq.2.1⟩
    rw [b3q] at h3
    unfold b2x
    rw [u5 _ k hk,p9 hk]
    simp only [cond_true,Option.bind_some,h1]
    unfold b86
    rw [c0p h2,B0 (n:=b.Ver+1) (by omega) (by omega)]
    by_cases hv:b.Ver+1<1000000
    · have : ¬ (1000000:Int)<b.Ver+1:=by omega
      simp [hv,this]
    · by_cases hv2:(1000000:Int)<b.Ver+1
      · simp [hv,hv2]
      · have:b.Ver+1=1000000:=by omega
        simp [hv,hv2,this]
  · unfold b2x
    rw [A5]; rfl
theorem c3c {l:List g7} (h:l.length * 16≤140737488351232):a7I l=some l:=by
  unfold a7I n8
  cases l with
  | nil=>rfl
  | cons x l =>
    have h1:(((x::l).length:Int)==0)=false:=by simp; omega
    rw [h1,cond_false,if_pos (by constructor<;>omega),if_pos (by simp)]
theorem c3O {l:List d9} (h:l.length * 32≤140737488351232):a4v l=some l:=by
  unfold a4v n8
  cases l with
  | nil=>rfl
  | cons x l =>
    have h1:(((x::l).length:Int)==0)=false:=by simp; omega
    rw [h1,cond_false,if_pos (by constructor<;>omega),if_pos (by simp)]
theorem d3c {l:List g7} {r:i6} (hl:G3 l=true) (hr:a1W r) (hok:R9 r=true):b2f l r=some (b2O l r.Puts):=by
  have hp : ∀ p∈r.Puts,a2d p:=(a5i hok).2.2.2.2
  unfold b2f
  rw [b8T (a4r hl),b89 hr,hl,hok]
  simp only [Option.bind_some,Bool.not_true,cond_false]
  rw [c3c (by rw [b1F hl]; decide),Option.bind_some,c31 r.Puts (hr.2.1.fits (by decide)) a3Z l id]
  · rfl
  · intro k hk
    have hq:=hp _ (List.getElem_mem hk)
    obtain ⟨b,h1,h2,h3⟩:=a5a (c20 hl hp k) (b:=r.Puts[k].Box) ⟨hq.1,hq.2.1⟩
    rw [b3q] at h3
    unfold b3Y
    rw [u5 _ k hk,p9 hk]
    simp only [cond_true,Option.bind_some,h1]
    rw [c0p h2,B0 (n:=b.Ver+1) (by omega) (by omega)]
  · unfold b3Y
    rw [A5]; rfl
def a5S (d:d9):Bool:=(j7 d.Req.Who 0 2&&j7 d.Req.Seq 1 1000)&&(j7 d.Code 0 2&&(j7 d.Val (-1000000) 1000000&&(d.Code==0||d.Val==0)))
def a0j (l:List d9):Prop:=l.Pairwise fun a b=>a.Req.Who<b.Req.Who
def I8 (d:d9) (st:List d9×Bool) (x:d9):List d9×Bool :=
  bif !st.2&&decide (x.Req.Who≥d.Req.Who) then (bif x.Req.Who != d.Req.Who then (st.1++[d])++[x] else st.1++[d],true) else (bif x.Req.Who != d.Req.Who then st.1++[x] else st.1,st.2)
def V7 (l:List d9) (d:d9):List d9 :=
  let r:=l.foldl (I8 d) ([],false)
  bif !r.2 then r.1++[d] else r.1
theorem d2y (d:d9) (st:List d9×Bool) (x:d9):(I8 d st x).1.length≤st.1.length+2:=by
  unfold I8
  cases !st.2&&decide (x.Req.Who≥d.Req.Who)<;>cases x.Req.Who != d.Req.Who<;>simp
theorem b5D (d:d9) : ∀ (l:List d9) (st:List d9×Bool),(l.foldl (I8 d) st).1.length≤st.1.length+2 * l.length
  | [],st=>by simp
  | x::l,st=>by
    have h1:=b5D d l (I8 d st x)
    have h2:=d2y d st x
    simp only [List.foldl_cons,List.length_cons]
    omega
theorem b8Z (d:d9) : ∀ {l:List d9} {o:List d9},(∀ x∈l,d.Req.Who<x.Req.Who)→l.foldl (I8 d) (o,true)=(o++l,true)
  | [],o,_=>by simp
  | x::l,o,h=>by
    have hx:=h x (by simp)
    have hne:(x.Req.Who != d.Req.Who)=true:=by simp; omega
    rw [List.foldl_cons,show I8 d (o,true) x=(o++[x],true) from by unfold I8; simp [hne],b8Z d fun y hy=>h y (by simp [hy])]
    simp
theorem c6P (d:d9) : ∀ {l o:List d9},a0j l →
    (let r:=l.foldl (I8 d) (o,false); bif !r.2 then r.1++[d] else r.1)=o++(l.filter (fun x=>decide (x.Req.Who<d.Req.Who))++d::l.filter (fun x=>decide (d.Req.Who<x.Req.Who)))
  | [],o,_=>by simp
  | x::l,o,h=>by
    obtain ⟨h1,h2⟩:=List.pairwise_cons.1 h
    rw [List.foldl_cons]
    by_cases hlt:x.Req.Who<d.Req.Who
    · have hge : ¬ x.Req.Who≥d.Req.Who:=by omega
      have hne:(x.Req.Who != d.Req.Who)=true:=by simp; omega
      have hngt : ¬ d.Req.Who<x.Req.Who:=by omega
      rw [show I8 d (o,false) x=(o++[x],false) from by unfold I8; simp [hge,hne],c6P d h2]
      simp [hlt,hngt]
    · have hge:x.Req.Who≥d.Req.Who:=by omega
      have hall : ∀ y∈l,d.Req.Who<y.Req.Who:=fun y hy=>by have:=h1 y hy; omega
      have hf1:l.filter (fun x=>decide (x.Req.Who<d.Req.Who))=[]:=by
        rw [List.filter_eq_nil_iff]
        intro y hy
        have:=hall y hy
        simp
        omega
      have hf2:l.filter (fun x=>decide (d.Req.Who<x.Req.Who))=l:=by
        rw [List.filter_eq_self]
        intro y hy
        simpa using hall y hy
      by_cases heq:x.Req.Who=d.Req.Who
      · have hngt : ¬ d.Req.Who<x.Req.Who:=by omega
        rw [show I8 d (o,false) x=(o++[d],true) from by unfold I8; simp [hge,heq],b8Z d hall]
        simp [hlt,hngt,hf1,hf2]
      · have hgt:d.Req.Who<x.Req.Who:=by omega
        have hne:(x.Req.Who != d.Req.Who)=true:=by simpa using heq
        rw [show I8 d (o,false) x=((o++[d])++[x],true) from by unfold I8; simp [hge,hne],b8Z d hall]
        simp [hlt,hgt,hf1,hf2]
theorem b0I {l:List d9} (d:d9) (h:a0j l):V7 l d=l.filter (fun x=>decide (x.Req.Who<d.Req.Who))++d::l.filter (fun x=>decide (d.Req.Who<x.Req.Who)):=by
  have:=c6P d (o:=[]) h
  simpa [V7] using this
theorem d2o {l:List d9} (d:d9) (h:a0j l):a0j (V7 l d):=by
  rw [b0I d h]
  unfold a0j
  rw [List.pairwise_append,List.pairwise_cons]
  refine ⟨h.filter _,⟨fun y hy=>by simpa using (List.mem_filter.1 hy).2,h.filter _⟩,fun a ha b hb => ?_⟩
  have h1:a.Req.Who<d.Req.Who:=by simpa using (List.mem_filter.1 ha).2
  rcases List.mem_cons.1 hb with rfl | hb
  · exact h1
  · have h2:d.Req.Who<b.Req.Who:=by simpa using (List.mem_filter.1 hb).2
    omega
theorem d3l {l:List d9} {d x:d9} (h:a0j l) (hx:x∈V7 l d):x∈l∨x=d:=by
  rw [b0I d h] at hx
  rcases List.mem_append.1 hx with hx | hx
  · exact .inl (List.mem_filter.1 hx).1
  · rcases List.mem_cons.1 hx with rfl | hx
    · exact .inr rfl
    · exact .inl (List.mem_filter.1 hx).1
theorem c5g {l:List d9} (d:d9) (h:a0j l):(V7 l d).length≤l.length+1:=by
  rw [b0I d h]
  have:(l.filter fun x=>decide (x.Req.Who<d.Req.Who)).length+(l.filter fun x=>decide (d.Req.Who<x.Req.Who)).length≤l.length:=by
    clear h
    induction l with
    | nil=>simp
    | cons x l ih =>
      by_cases h1:x.Req.Who<d.Req.Who
      · have h2 : ¬ d.Req.Who<x.Req.Who:=by omega
        simp [h1,h2]; omega
      · by_cases h2:d.Req.Who<x.Req.Who
        · simp [h1,h2]; omega
        · simp [h1,h2]; omega
  simp only [List.length_append,List.length_cons]
  omega
structure Inv (s:j4) (k:Nat):Prop where
  at_:s.At=(k:Int)
  le:k≤40
  boxes:G3 s.Boxes=true
  sorted:a0j s.Dones
  dones : ∀ d∈s.Dones,a5S d=true
  len:s.Dones.length≤k
theorem Inv.fits {s:j4} {k:Nat} (h:Inv s k):n7 s.Dones:=by
  have:=h.len
  have:=h.le
  unfold n7
  omega
theorem c5i {α:Type} {o:List α} {d:α} (h:o.length≤80):((o++[d]).length+1) * 32≤140737488355328:=by
  rw [show (o++[d]).length=o.length+1 from by simp]
  omega
theorem d1o {l:List d9} {d:d9} (hl:l.length≤40):b16 l d=some (V7 l d):=by
  have hf:n7 l:=by unfold n7; omega
  have hlen : ∀ k,k≤l.length→((l.take k).foldl (I8 d) ([],false)).1.length≤80:=by
    intro k hk
    have:=b5D d (l.take k) ([],false)
    simp only [List.length_nil,List.length_take] at this
    omega
  unfold b16
  have hloop:=V4 (body:=fun s:(List d9)×Bool×Int=>b0O l d s.1 s.2.1 s.2.2) (fun k=>(((l.take k).foldl (I8 d) ([],false)).1,((l.take k).foldl (I8 d) ([],false)).2,(k:Int))) l.length (by
    intro k hk
    have hb:=hlen k (by omega)
    rw [List.take_succ_eq_append_getElem hk,List.foldl_append]
    generalize (l.take k).foldl (I8 d) ([],false)=st at hb
    obtain ⟨o,i⟩:=st
    simp only at hb
    simp only [List.foldl_cons,List.foldl_nil]
    unfold b0O b5s b6A I8
    rw [u5 _ k hk,p9 hk,H6 hf hk]
    have n1:(o.length+1) * 32≤140737488355328:=by omega
    have n2:((o++[d]).length+1) * 32≤140737488355328:=c5i (by omega)
    cases i<;>cases h1:decide (l[k].Req.Who≥d.Req.Who)<;>cases h2:l[k].Req.Who != d.Req.Who<;>simp only [h1,h2,o9 n1,o9 n2,cond_true,cond_false,Option.bind_some,b7.go,Bool.not_true,Bool.not_false,Bool.true_and,Bool.false_and])
  simp only [List.take_zero,List.foldl_nil,List.take_length] at hloop
  rw [show ((0:Nat):Int)=0 from rfl] at hloop
  rw [hloop,D6 (b:=l.foldl (I8 d) ([],false))]
  · have hb:=hlen l.length (Nat.le_refl _)
    rw [List.take_length] at hb
    unfold b8C b5n V7
    generalize l.foldl (I8 d) ([],false)=st at hb
    obtain ⟨o,i⟩:=st
    have n1:(o.length+1) * 32≤140737488355328:=by simp only at hb; omega
    cases i<;>simp only [o9 n1,cond_true,cond_false,Option.bind_some,b7.go,Bool.not_true,Bool.not_false]
  · unfold b0O
    rw [A5]; rfl
def a0d (s:j4) (e:b5):j4×Int :=
  bif a2A s.Boxes e.Run then
    (bif e.Run.Code==0 then (⟨s.At+1,b2O s.Boxes e.Run.Puts,V7 s.Dones ⟨e.Req,0,e.Run.Val⟩⟩,0)
    else (⟨s.At+1,s.Boxes,V7 s.Dones ⟨e.Req,2,0⟩⟩,2))
  else (⟨s.At+1,s.Boxes,V7 s.Dones ⟨e.Req,1,0⟩⟩,1)
def apply (s:j4) (e:b5):j4×Int :=
  bif e.None then (⟨s.At+1,s.Boxes,s.Dones⟩,5) else
  match s.Dones.find? (fun d=>d.Req.Who==e.Req.Who) with
  | some d=>bif d.Req.Seq==e.Req.Seq then (⟨s.At+1,s.Boxes,s.Dones⟩,3) else bif decide (d.Req.Seq>e.Req.Seq) then (⟨s.At+1,s.Boxes,s.Dones⟩,4) else a0d s e
  | none=>a0d s e
theorem a65 {e:b5} (h:q9 e=true) (hn:e.None=false):(0≤e.Req.Who∧e.Req.Who≤2)∧(1≤e.Req.Seq∧e.Req.Seq≤1000)∧R9 e.Run=true∧e.Run.Code≠3:=by
  unfold q9 at h
  rw [hn] at h
  simp [j7] at h
  exact ⟨h.1.1,h.1.2,h.2.1,h.2.2⟩
theorem d2h {s:j4} (h:n7 s.Dones) (who:Int):b3O s who=some (match s.Dones.find? (fun d=>d.Req.Who==who) with | some d=>(d,true) | none=>(⟨⟨0,0⟩,0,0⟩,false)):=by
  unfold b3O
  rw [b6R s.Dones h (fun d=>d.Req.Who==who) (fun d=>(d,true)) ()]
  · cases s.Dones.find? fun d=>d.Req.Who==who<;>rfl
  · intro k hk
    unfold b18
    rw [u5 _ k hk,p9 hk]
    simp only [cond_true,Option.bind_some]
    cases s.Dones[k].Req.Who==who<;>rfl
  · unfold b18
    rw [A5]; rfl
theorem b4y {s:j4} {k:Nat} {e:b5} (hs:Inv s k) (hk:k<40) (he:q9 e=true) (hf:X0 e):a6j s e=some (apply s e):=by
  have hw:i7 (s.At+1)=s.At+1:=by rw [hs.at_]; exact B0 (by omega) (by omega)
  unfold a6j apply
  rw [hw,d2h (s:=⟨s.At+1,s.Boxes,s.Dones⟩) hs.fits]
  cases hn:e.None
  case true=>rfl
  obtain ⟨_,_,hr,hc3⟩:=a65 he hn
  have hp : ∀ p∈e.Run.Puts,a2d p:=(a5i hr).2.2.2.2
  have hfr:b2j s e=some (a0d s e):=by
    unfold b2j b8H b66 a0d
    simp only [d33 (a4r hs.boxes) hf.2,hs.boxes,hr,Bool.true_and,Option.bind_some,hw,d1o (Nat.le_trans hs.len (by omega)),d3R hs.boxes hf.2 hp]
    cases a2A s.Boxes e.Run
    · rfl
    · cases e.Run.Code==0<;>rfl
  simp only [cond_false,Option.bind_some,hfr]
  cases hfd:s.Dones.find? fun d=>d.Req.Who==e.Req.Who with
  | none=>rfl
  | some d =>
    have hwho:d.Req.Who=e.Req.Who:=by simpa using List.find?_some hfd
    have hq:(([d.Req.Who,d.Req.Seq]:List Int)==[e.Req.Who,e.Req.Seq])=(d.Req.Seq==e.Req.Seq):=by
      rw [hwho]; simp
    simp only [hq,cond_true]
    cases d.Req.Seq==e.Req.Seq
    · cases decide (d.Req.Seq>e.Req.Seq)<;>rfl
    · rfl
theorem d1Z {l:List d9} (h:a0j l) (who seq:Int):l.find? (fun d=>d.Req.Who==who&&decide (d.Req.Seq≥seq))=match l.find? (fun d=>d.Req.Who==who) with
    | some d=>bif decide (d.Req.Seq≥seq) then some d else none
    | none=>none:=by
  induction l with
  | nil=>rfl
  | cons x l ih =>
    obtain ⟨h1,h2⟩:=List.pairwise_cons.1 h
    rw [List.find?_cons,List.find?_cons]
    cases hx:x.Req.Who==who with
    | false=>simpa using ih h2
    | true =>
      cases hs:decide (x.Req.Seq≥seq) with
      | true=>simp [hs]
      | false =>
        simp only [Bool.and_false,hs,cond_false]
        rw [List.find?_eq_none]
        intro y hy
        have:=h1 y hy
        have hx':x.Req.Who=who:=by simpa using hx
        simp
        intro hyw
        omega
theorem d7Q {s:j4} {k:Nat} (hs:Inv s k):b3W s=some true:=by
  unfold b3W
  have hloop:=V4 (body:=fun v:Int=>a9I s v) (fun j=>(j:Int)) s.Dones.length (by
    intro j hj
    have hd:=hs.dones _ (List.getElem_mem hj)
    unfold a5S at hd
    simp only [Bool.and_eq_true,Bool.or_eq_true] at hd
    obtain ⟨⟨d1,d2⟩,d3,d4,d5⟩:=hd
    unfold a9I b6f
    rw [u5 _ j hj,p9 hj,H6 hs.fits hj]
    simp only [cond_true,Option.bind_some,c7F,a16,d1,d2,d3,d4,Bool.and_true,Bool.not_true,cond_false]
    cases j with
    | zero =>
      rw [show decide (((0:Nat):Int)>0)=false from by decide]
      simp only [cond_false]
      unfold bne
      rcases d5 with d5 | d5<;>simp [d5,b7.go,Option.bind]
    | succ j =>
      have hlt:(s.Dones[j]'(by omega)).Req.Who<s.Dones[j+1].Req.Who:=List.pairwise_iff_getElem.1 hs.sorted j (j+1) (by omega) hj (by omega)
      have hge : ¬ (s.Dones[j]'(by omega)).Req.Who≥s.Dones[j+1].Req.Who:=by omega
      have hle:=hs.fits
      unfold n7 at hle
      rw [show i7 (((j+1:Nat):Int) - 1)=(j:Int) from by rw [B0 (by omega) (by omega)]; omega,p9 (show j<s.Dones.length by omega)]
      have hpos:decide (((j+1:Nat):Int)>0)=true:=by simp
      simp only [hpos,cond_true,Option.bind_some,hge,decide_false,cond_false]
      unfold bne
      rcases d5 with d5 | d5<;>simp [d5,b7.go,Option.bind])
  rw [show ((0:Nat):Int)=0 from rfl] at hloop
  rw [hloop,D6 (b:=())]
  · unfold b9c
    have:=hs.le
    have ha:j7 s.At 0 40=true:=by rw [hs.at_]; simp [j7]; omega
    simp [b7.go,a16,ha,b8T (a4r hs.boxes),hs.boxes]
  · unfold a9I
    rw [A5]; rfl
theorem b5U {s:j4} {own:d9} {bx:List g7} (hl:s.Dones.length≤40) (hw:i7 (s.At+1)=s.At+1) (hd:a0j s.Dones):b13 s own bx=some (⟨s.At+1,bx,V7 s.Dones own⟩,own.Code):=by
  have hf:n7 s.Dones:=by unfold n7; omega
  have hlen : ∀ k,k≤s.Dones.length→((s.Dones.take k).foldl (I8 own) ([],false)).1.length≤80:=by
    intro k hk
    have:=b5D own (s.Dones.take k) ([],false)
    simp only [List.length_nil,List.length_take] at this
    omega
  unfold b13
  have hloop:=V4 (body:=fun x:(List d9)×Int×Bool=>a9j s own x.1 x.2.1 x.2.2) (fun k=>(((s.Dones.take k).foldl (I8 own) ([],false)).1,(k:Int),((s.Dones.take k).foldl (I8 own) ([],false)).2)) s.Dones.length (by
    intro k hk
    have hb:=hlen k (by omega)
    rw [List.take_succ_eq_append_getElem hk,List.foldl_append]
    generalize (s.Dones.take k).foldl (I8 own) ([],false)=st at hb
    obtain ⟨o,i⟩:=st
    simp only at hb
    simp only [List.foldl_cons,List.foldl_nil]
    unfold a9j b7r b5K I8
    rw [u5 _ k hk,p9 hk,H6 hf hk]
    have n1:(o.length+1) * 32≤140737488355328:=by omega
    have n2:((o++[own]).length+1) * 32≤140737488355328:=c5i (by omega)
    cases i<;>cases h1:decide (s.Dones[k].Req.Who≥own.Req.Who)<;>cases h2:s.Dones[k].Req.Who != own.Req.Who<;>simp only [h1,h2,o9 n1,o9 n2,cond_true,cond_false,Option.bind_some,b7.go,Bool.not_true,Bool.not_false,Bool.true_and,Bool.false_and])
  simp only [List.take_zero,List.foldl_nil,List.take_length] at hloop
  rw [show ((0:Nat):Int)=0 from rfl] at hloop
  rw [hloop,D6 (b:=s.Dones.foldl (I8 own) ([],false))]
  · have hb:=hlen s.Dones.length (Nat.le_refl _)
    rw [List.take_length] at hb
    have hpl:=c5g own hd
    have hcp:a4v (V7 s.Dones own)=some (V7 s.Dones own):=c3O (by omega)
    unfold b4T b6F
    unfold V7 at hcp ⊢
    generalize s.Dones.foldl (I8 own) ([],false)=st at hb hcp
    obtain ⟨o,i⟩:=st
    have n1:(o.length+1) * 32≤140737488355328:=by simp only at hb; omega
    cases i<;>simp only [o9 n1,cond_true,cond_false,Option.bind_some,b7.go,Bool.not_true,Bool.not_false,hw] at hcp ⊢ <;> rw [hcp]<;>rfl
  · unfold a9j
    rw [A5]; rfl
theorem b7k {s:j4} {k:Nat} {e:b5} (hs:Inv s k) (hk:k<40) (he:q9 e=true) (hf:X0 e):b4O s e=some (apply s e):=by
  have hw:i7 (s.At+1)=s.At+1:=by rw [hs.at_]; exact B0 (by omega) (by omega)
  have hl:=hs.len
  have hcd:a4v s.Dones=some s.Dones:=c3O (by omega)
  have hcb:a7I s.Boxes=some s.Boxes:=c3c (by rw [b1F hs.boxes]; decide)
  have hat:(s.At==40)=false:=by rw [hs.at_]; simp; omega
  unfold b4O apply
  rw [d7Q hs,c4Q hf,he]
  simp only [Option.bind_some,Bool.not_true,cond_false,hat,hcb,hcd,hw]
  cases hn:e.None
  case true=>rfl
  obtain ⟨_,_,hr,hc3⟩:=a65 he hn
  have hfr:b10 s e s.Boxes=some (a0d s e):=by
    unfold b10 a0d
    simp only [d7n (a4r hs.boxes) hf.2,hs.boxes,hr,Bool.true_and,Option.bind_some,d3c hs.boxes hf.2 hr]
    cases a2A s.Boxes e.Run
    · simp only [Bool.not_false,cond_true,cond_false,Option.bind_some,b7.go]
      exact b5U (by omega) hw hs.sorted
    · unfold bne
      cases e.Run.Code==0
      · simp only [Bool.not_false,Bool.not_true,cond_true,cond_false,Option.bind_some,b7.go]
        exact b5U (by omega) hw hs.sorted
      · simp only [Bool.not_true,cond_true,cond_false,Option.bind_some,b7.go]
        exact b5U (by omega) hw hs.sorted
  simp only [cond_false]
  rw [b6R s.Dones hs.fits (fun d=>d.Req.Who==e.Req.Who&&decide (d.Req.Seq≥e.Req.Seq)) (fun d=>(⟨s.At+1,s.Boxes,s.Dones⟩,bif d.Req.Seq==e.Req.Seq then 3 else 4)) ()]
  · rw [d1Z hs.sorted]
    cases s.Dones.find? fun d=>d.Req.Who==e.Req.Who with
    | none=>simp only [Option.bind_some,b7.go,hfr]
    | some d =>
      cases hq:d.Req.Seq==e.Req.Seq with
      | true =>
        have:d.Req.Seq≥e.Req.Seq:=by
          have:d.Req.Seq=e.Req.Seq:=by simpa using hq
          omega
        simp [this,b7.go,hq]
      | false =>
        have hne:d.Req.Seq≠e.Req.Seq:=by simpa using hq
        by_cases hg:d.Req.Seq>e.Req.Seq
        · have:d.Req.Seq≥e.Req.Seq:=by omega
          simp [this,b7.go,hg,hq]
        · have : ¬ d.Req.Seq≥e.Req.Seq:=by omega
          simp [this,b7.go,hg,hfr,hq]
  · intro j hj
    unfold b3h b6Z
    rw [u5 _ j hj,p9 hj]
    simp only [cond_true,Option.bind_some,hcd,hw]
    cases h1:s.Dones[j].Req.Who==e.Req.Who<;>cases h2:decide (s.Dones[j].Req.Seq≥e.Req.Seq)<;>cases h3:s.Dones[j].Req.Seq==e.Req.Seq<;>simp only [cond_true,cond_false,Option.bind_some,b7.go,Bool.true_and,Bool.false_and,Bool.and_true,Bool.and_false]
  · unfold b3h
    rw [A5]; rfl
theorem d9t {s:j4} {k:Nat} {e:b5} (hs:Inv s k) (hk:k<40) (he:q9 e=true) (hn:e.None=false):Inv (a0d s e).1 (k+1)∧0≤(a0d s e).2∧(a0d s e).2≤5:=by
  obtain ⟨h1,h2,hr,hc3⟩:=a65 he hn
  have hp:=a5i hr
  have hat:s.At+1=((k+1:Nat):Int):=by rw [hs.at_]; rfl
  have key : ∀ (bx:List g7) (d:d9),G3 bx=true→a5S d=true→Inv ⟨s.At+1,bx,V7 s.Dones d⟩ (k+1):=fun bx d hb hd =>
    { at_:=hat,le:=by omega,boxes:=hb,sorted:=d2o d hs.sorted
      dones:=fun x hx=>by
        rcases d3l hs.sorted hx with hx | rfl
        · exact hs.dones x hx
        · exact hd
      len:=by
        have:=c5g d hs.sorted
        have:=hs.len
        simp only
        omega }
  have hd0 : ∀ c:Int,0≤c→c≤2→a5S ⟨e.Req,c,0⟩=true:=by
    intro c c1 c2
    unfold a5S j7
    simp
    omega
  have hd1:a5S ⟨e.Req,0,e.Run.Val⟩=true:=by
    unfold a5S j7
    simp
    omega
  unfold a0d
  cases a2A s.Boxes e.Run
  · exact ⟨key _ _ hs.boxes (hd0 1 (by decide) (by decide)),show (0:Int)≤1 from by decide,show (1:Int)≤5 from by decide⟩
  · cases e.Run.Code==0
    · exact ⟨key _ _ hs.boxes (hd0 2 (by decide) (by decide)),show (0:Int)≤2 from by decide,show (2:Int)≤5 from by decide⟩
    · exact ⟨key _ _ (b7i hs.boxes hp.2.2.2.2) hd1,show (0:Int)≤0 from by decide,show (0:Int)≤5 from by decide⟩
theorem c8F {s:j4} {k:Nat} {e:b5} (hs:Inv s k) (hk:k<40) (he:q9 e=true):Inv (apply s e).1 (k+1)∧0≤(apply s e).2∧(apply s e).2≤5:=by
  have hat:s.At+1=((k+1:Nat):Int):=by rw [hs.at_]; rfl
  have key:Inv ⟨s.At+1,s.Boxes,s.Dones⟩ (k+1):={ at_:=hat,le:=by omega,boxes:=hs.boxes,sorted:=hs.sorted,dones:=hs.dones,len:=Nat.le_succ_of_le hs.len }
  unfold apply
  cases hn:e.None
  · have hfr:=d9t hs hk he hn
    simp only [cond_false]
    cases s.Dones.find? fun d=>d.Req.Who==e.Req.Who with
    | none=>exact hfr
    | some d =>
      simp only
      cases d.Req.Seq==e.Req.Seq
      · cases decide (d.Req.Seq>e.Req.Seq)
        · exact hfr
        · exact ⟨key,show (0:Int)≤4 from by decide,show (4:Int)≤5 from by decide⟩
      · exact ⟨key,show (0:Int)≤3 from by decide,show (3:Int)≤5 from by decide⟩
  · exact ⟨key,show (0:Int)≤5 from by decide,show (5:Int)≤5 from by decide⟩
def N2:j4:=⟨0,List.replicate 4 ⟨0,0⟩,[]⟩
theorem c2x:Inv N2 0:={ at_:=rfl,le:=by omega,boxes:=by decide,sorted:=.nil,dones:=by simp [N2],len:=by simp [N2] }
theorem b1V:a5v=some N2:=by
  unfold a5v b5u
  rw [o9 (by decide)]
  rfl
theorem d6j:b4p=some N2:=by
  unfold b4p b9v
  rw [o9 (by decide)]
  rfl
def a3t (st:j4×List Int) (e:b5):j4×List Int:=((apply st.1 e).1,st.2++[(apply st.1 e).2])
def l9 (l:List b5):j4×List Int:=l.foldl a3t (N2,[])
theorem a2H {l:List b5} {k:Nat} (hk:k<l.length):l9 (l.take (k+1))=a3t (l9 (l.take k)) l[k]:=by
  unfold l9
  rw [List.take_succ_eq_append_getElem hk,List.foldl_append]
  rfl
theorem X4 {l:List b5} (hl:l.length≤40) (he:l.all q9=true) : ∀ k,k≤l.length→Inv (l9 (l.take k)).1 k∧(l9 (l.take k)).2.length=k ∧ ∀ c∈(l9 (l.take k)).2,0≤c∧c≤5
  | 0,_=>by
    rw [List.take_zero]
    exact ⟨c2x,rfl,by simp [l9]⟩
  | k+1,hk=>by
    obtain ⟨h1,h2,h3⟩:=X4 hl he k (by omega)
    have ha:=c8F h1 (by omega) (List.all_eq_true.1 he _ (List.getElem_mem (show k<l.length by omega)))
    rw [a2H (show k<l.length by omega)]
    refine ⟨ha.1,by simp [a3t,h2],fun c hc => ?_⟩
    unfold a3t at hc
    rcases List.mem_append.1 hc with hc | hc
    · exact h3 c hc
    · rw [List.mem_singleton] at hc
      rw [hc]
      exact ha.2
theorem a1K {l:List b5} (h:H4 l=true):l.length≤40∧l.all q9=true:=by
  unfold H4 at h
  simpa using h
theorem d70 {l:List b5} (h:v5 88 X0 l) (hl:l.length≤40) (he:l.all q9=true):b1d l=some (l9 l):=by
  have hf:n7 l:=h.fits (by decide)
  unfold b1d
  rw [d6j,Option.bind_some]
  first
  | (have hloop:=V4 (body:=fun s:(List g7)×(List d9)×(List Int)×Int×Int=>a0Z l s.1 s.2.1 s.2.2.1 s.2.2.2.1 s.2.2.2.2) (fun k=>((l9 (l.take k)).1.Boxes,(l9 (l.take k)).1.Dones,(l9 (l.take k)).2,(k:Int),(l9 (l.take k)).1.At)) l.length (by
       intro k hk
       obtain ⟨h1,h2,h3⟩:=X4 hl he k (by omega)
       have n1:((l9 (l.take k)).2.length+1) * 8≤140737488355328:=by rw [h2]; omega
       rw [a2H hk]
       unfold a0Z
       rw [u5 _ k hk,p9 hk,H6 hf hk]
       simp only [cond_true,Option.bind_some]
       rw [b7k h1 (by omega) (List.all_eq_true.1 he _ (List.getElem_mem hk)) (h.2 _ (List.getElem_mem hk)),Option.bind_some,o9 n1]
       rfl)
     rw [List.take_zero,List.take_length] at hloop
     rw [show ((0:Nat):Int)=0 from rfl] at hloop
     rw [show m5 (fun s:(List g7)×(List d9)×(List Int)×Int×Int=>a0Z l s.1 s.2.1 s.2.2.1 s.2.2.2.1 s.2.2.2.2) (N2.Boxes,N2.Dones,([]:List Int),0,N2.At)=_ from hloop,D6 (b:=((l9 l).1.Boxes,(l9 l).1.Dones,(l9 l).2,(l9 l).1.At))]
     · rfl
     · unfold a0Z
       rw [A5]; rfl
     done)
  | (have hloop:=V4 (body:=fun s:j4×(List Int)×Int=>a0Z l s.1 s.2.1 s.2.2) (fun k=>((l9 (l.take k)).1,(l9 (l.take k)).2,(k:Int))) l.length (by
       intro k hk
       obtain ⟨h1,h2,h3⟩:=X4 hl he k (by omega)
       have n1:((l9 (l.take k)).2.length+1) * 8≤140737488355328:=by rw [h2]; omega
       rw [a2H hk]
       unfold a0Z
       rw [u5 _ k hk,p9 hk,H6 hf hk]
       simp only [cond_true,Option.bind_some]
       rw [b7k h1 (by omega) (List.all_eq_true.1 he _ (List.getElem_mem hk)) (h.2 _ (List.getElem_mem hk)),Option.bind_some,o9 n1]
       rfl)
     rw [List.take_zero,List.take_length] at hloop
     rw [show ((0:Nat):Int)=0 from rfl] at hloop
     rw [show m5 (fun s:j4×(List Int)×Int=>a0Z l s.1 s.2.1 s.2.2) (N2,[],0)=_ from hloop,D6 (b:=l9 l)]
     · rfl
     · unfold a0Z
       rw [A5]; rfl
     done)
  | (have hloop:=V4 (body:=fun s:(List g7)×(List Int)×Int×Int×List d9=>a0Z l s.1 s.2.1 s.2.2.1 s.2.2.2.1 s.2.2.2.2) (fun k=>((l9 (l.take k)).1.Boxes,(l9 (l.take k)).2,(k:Int),(l9 (l.take k)).1.At,(l9 (l.take k)).1.Dones)) l.length (by
       intro k hk
       obtain ⟨h1,h2,h3⟩:=X4 hl he k (by omega)
       have n1:((l9 (l.take k)).2.length+1) * 8≤140737488355328:=by rw [h2]; omega
       rw [a2H hk]
       unfold a0Z
       rw [u5 _ k hk,p9 hk,H6 hf hk]
       simp only [cond_true,Option.bind_some]
       rw [show (⟨(l9 (l.take k)).1.At,(l9 (l.take k)).1.Boxes,(l9 (l.take k)).1.Dones⟩:j4)=(l9 (l.take k)).1 from rfl,b7k h1 (by omega) (List.all_eq_true.1 he _ (List.getElem_mem hk)) (h.2 _ (List.getElem_mem hk)),Option.bind_some,o9 n1]
       rfl)
     rw [List.take_zero,List.take_length] at hloop
     rw [show ((0:Nat):Int)=0 from rfl] at hloop
     rw [show m5 (fun s:(List g7)×(List Int)×Int×Int×List d9=>a0Z l s.1 s.2.1 s.2.2.1 s.2.2.2.1 s.2.2.2.2) (N2.Boxes,[],0,N2.At,N2.Dones)=_ from hloop,D6 (b:=((l9 l).1.Boxes,(l9 l).2,(l9 l).1.At,(l9 l).1.Dones))]
     · rfl
     · unfold a0Z
       rw [A5]; rfl
     done)
def Rd (r:c9) (m:Nat):Prop:=(∀ x∈r.b,a3c x)∧r.b.length≤2000∧0≤r.p∧r.p≤(m:Int)
theorem Rd.mono {r:c9} {m n:Nat} (h:Rd r m) (hn:m≤n):Rd r n:=⟨h.1,h.2.1,h.2.2.1,by have:=h.2.2.2; omega⟩
theorem d0E {x y:Int} (hx:0≤x) (hx2:x<4611686018427387904) (hy:0≤y) (hy2:y<4611686018427387904):0≤a4K .i64 x y∧a4K .i64 x y<4611686018427387904:=by
  obtain ⟨a,rfl⟩ : ∃ a:Nat,x=(a:Int):=⟨x.toNat,by omega⟩
  obtain ⟨b,rfl⟩ : ∃ b:Nat,y=(b:Int):=⟨y.toNat,by omega⟩
  have hxor:a ^^^ b<2 ^ 62:=Nat.xor_lt_two_pow (by omega) (by omega)
  have h:a4K .i64 (a:Int) (b:Int)=((a ^^^ b:Nat):Int):=by
    unfold a4K
    rw [BitVec.toNat_xor]
    have e1:(BitVec.ofInt IntKind.i64.bits (a:Int)).toNat=a:=by
      show (BitVec.ofInt 64 (a:Int)).toNat=a
      rw [BitVec.toNat_ofInt]
      omega
    have e2:(BitVec.ofInt IntKind.i64.bits (b:Int)).toNat=b:=by
      show (BitVec.ofInt 64 (b:Int)).toNat=b
      rw [BitVec.toNat_ofInt]
      omega
    rw [e1,e2]
    exact IntWalk.i64_in _ ⟨by omega,by omega⟩
  rw [h]
  omega
theorem b6C {l:List Int} (h : ∀ x∈l,a3c x) {i:Int} (h0:0≤i) (h1:i<l.length) : ∃ y,idx l i=some y∧0≤y∧y≤255:=by
  have hlt:i.toNat<l.length:=by omega
  refine ⟨l[i.toNat],?_,h _ (List.getElem_mem hlt)⟩
  unfold idx
  rw [if_pos h0,List.getElem?_eq_getElem hlt]
theorem b3M {x n:Int} (hx:0≤x) (hn:1≤n):0≤Int.tmod x n∧Int.tmod x n<n:=by
  rw [Int.tmod_eq_emod_of_nonneg hx]
  exact ⟨Int.emod_nonneg _ (by omega),Int.emod_lt_of_pos _ (by omega)⟩
theorem c2H {x n:Int} (hx:0≤x) (hn:1≤n):0≤Int.tdiv x n∧Int.tdiv x n≤x:=by
  rw [Int.tdiv_eq_ediv_of_nonneg hx]
  exact ⟨Int.ediv_nonneg hx (by omega),Int.ediv_le_self _ hx⟩
theorem C8 {r:c9} {m:Nat} (h:Rd r m) (hm:m≤1000000000) (n:Int) : ∃ v r',A7 r n=some (v,r')∧Rd r' (m+1)∧0≤v∧(v<n∨v=0):=by
  obtain ⟨hb,hbl,hp0,hp1⟩:=h
  have hw:i7 (r.p+1)=r.p+1:=B0 (by omega) (by omega)
  have hw2:i7 (r.p+1 - 1)=r.p:=by rw [B0 (by omega) (by omega)]; omega
  have hr:Rd ⟨r.b,r.p+1⟩ (m+1):=⟨hb,hbl,by simp only; omega,by simp only; omega⟩
  unfold A7
  simp only [hw,hw2]
  by_cases hn:n<1
  · simp only [hn,decide_true,cond_true]
    exact ⟨0,_,rfl,hr,by omega,.inr rfl⟩
  simp only [hn,decide_false,cond_false]
  cases he:((r.b.length:Int)==0)
  case true=>exact ⟨0,_,rfl,hr,by omega,.inr rfl⟩
  have hpos:0<r.b.length:=by
    have : ¬ (r.b.length:Int)=0:=by simpa using he
    omega
  have hne:(r.b.length:Int)≠0:=by omega
  have hnn:n≠0:=by omega
  simp only [cond_false]
  by_cases hlt:r.p<(r.b.length:Int)
  · obtain ⟨y,h1,h2,h3⟩:=b6C hb hp0 hlt
    simp only [hlt,decide_true,cond_true,h1,Option.bind_some,o9 hnn]
    rw [B0 (n:=y) (by omega) (by omega)]
    have:=b3M h2 (show 1≤n by omega)
    exact ⟨_,_,rfl,hr,this.1,.inl this.2⟩
  · simp only [hlt,decide_false,cond_false,o9 hne,o9 hnn]
    have t1:=b3M hp0 (show (1:Int)≤(r.b.length:Int) by omega)
    obtain ⟨y1,a1,a2,a3⟩:=b6C hb t1.1 t1.2
    have w7:i7 (r.p * 7)=r.p * 7:=B0 (by omega) (by omega)
    have w73:i7 (r.p * 7+3)=r.p * 7+3:=B0 (by omega) (by omega)
    have t2:=b3M (show 0≤r.p * 7+3 by omega) (show (1:Int)≤(r.b.length:Int) by omega)
    obtain ⟨y2,b1,b2,b3⟩:=b6C hb t2.1 t2.2
    simp only [a1,w7,w73,b1,Option.bind_some]
    have td:=c2H hp0 (show (1:Int)≤(r.b.length:Int) by omega)
    have c1:i7 (i7 y1 * 131)=y1 * 131:=by rw [B0 (n:=y1) (by omega) (by omega),B0 (by omega) (by omega)]
    have c2:i7 (i7 y2 * 1117)=y2 * 1117:=by rw [B0 (n:=y2) (by omega) (by omega),B0 (by omega) (by omega)]
    have c3:i7 (r.p * 29)=r.p * 29:=B0 (by omega) (by omega)
    have c4:i7 (i7 (Int.tdiv r.p (r.b.length:Int)) * 53)=Int.tdiv r.p (r.b.length:Int) * 53:=by rw [B0 (n:=Int.tdiv r.p (r.b.length:Int)) (by omega) (by omega),B0 (by omega) (by omega)]
    simp only [c1,c2,c3,c4]
    generalize Int.tdiv r.p (r.b.length:Int)=q at td
    rw [B0 (n:=y1 * 131+y2 * 1117) (by omega) (by omega),B0 (n:=y1 * 131+y2 * 1117+r.p * 29) (by omega) (by omega),B0 (n:=y1 * 131+y2 * 1117+r.p * 29+q * 53) (by omega) (by omega)]
    have hA0:0≤y1 * 131+y2 * 1117+r.p * 29+q * 53:=by omega
    have hA1:y1 * 131+y2 * 1117+r.p * 29+q * 53<1000000000000:=by omega
    generalize y1 * 131+y2 * 1117+r.p * 29+q * 53=A at hA0 hA1
    have t3:=c2H hA0 (show (1:Int)≤64 by omega)
    rw [B0 (n:=Int.tdiv A 64) (by omega) (by omega)]
    have hx:=d0E hA0 (by omega) t3.1 (by omega)
    have t4:=b3M hx.1 (show 1≤n by omega)
    exact ⟨_,_,rfl,hr,t4.1,.inl t4.2⟩
theorem a5R {r:c9} {m:Nat} (h:Rd r m) (hm:m≤1000000000) (l:List Int) (hl:0<l.length) (hl2:l.length≤1000) : ∃ v r',a2Q r l=some (v,r')∧Rd r' (m+1)∧v∈l:=by
  obtain ⟨v,r',h1,h2,h3,h4⟩:=C8 h hm (l.length:Int)
  unfold a2Q
  rw [h1,Option.bind_some]
  have hlt:v.toNat<l.length:=by omega
  refine ⟨l[v.toNat],r',?_,h2,List.getElem_mem hlt⟩
  unfold idx
  simp only [if_pos h3,List.getElem?_eq_getElem hlt,Option.bind_some]
theorem d6d {H2:List Int} (h : ∀ x∈H2,a3c x) : ∃ r,b3v H2=some r∧Rd r 0:=by
  unfold b3v b5z
  by_cases hl:(H2.length:Int)>2000
  · simp only [hl,decide_true,cond_true]
    rw [o9 ⟨by omega,by omega⟩]
    refine ⟨_,rfl,?_,?_,by simp,by simp⟩
    · intro x hx
      simp only [List.drop_zero] at hx
      exact h x (List.mem_of_mem_take hx)
    · simp only [List.length_take]
      have:(2000:Int).toNat - 0=2000:=by decide
      omega
  · simp only [hl,decide_false,cond_false]
    exact ⟨_,rfl,h,by simp only; omega,by simp,by simp⟩
def a0P (i:j6):Bool :=
  bif i.Kind==1 then j7 i.A 0 3&&(j7 i.B 0 3&&i.N==0) else
  bif i.Kind==2 then j7 i.A 0 3&&(j7 i.B 0 3&&i.N==0) else
  bif i.Kind==3 then j7 i.A 0 3&&(i.B==0&&j7 i.N (-1000000) 1000000) else
  bif i.Kind==4 then j7 i.A 0 3&&(j7 i.B 0 3&&i.N==0) else
  bif i.Kind==5 then j7 i.A 0 3&&(j7 i.B 0 3&&i.N==0) else
  bif i.Kind==6 then j7 i.A 0 3&&(j7 i.B 0 3&&j7 i.N 1 10) else
  bif i.Kind==7 then i.A==0&&(i.B==0&&i.N==0) else false
theorem d2j (n:Int):a1Y n=some (j7 n 0 3):=by
  rw [← a16]
  unfold a1Y U4
  have:(n<4)=(n≤3):=by apply propext; omega
  simp only [this]
theorem c9f (i:j6):b4l i=some (a0P i):=by
  unfold b4l a0P
  have h6:(bif decide (i.N≥1) then some (decide (i.N≤10)) else some false)=some (j7 i.N 1 10):=by
    unfold j7
    by_cases h1:i.N≥1<;>by_cases h2:i.N≤10<;>simp [h1,h2]<;>omega
  simp only [d2j,b7f,a4g,Option.bind_some,h6]
  cases i.Kind==1<;>cases i.Kind==2<;>cases i.Kind==3<;>cases i.Kind==4<;>cases i.Kind==5<;>cases i.Kind==6<;>cases i.Kind==7<;>cases j7 i.A 0 3<;>cases j7 i.B 0 3<;>cases i.A==0<;>cases i.B==0<;>rfl
def L0 (l:List j6):Bool:=decide (l.length≤10)&&l.all a0P
theorem b1c {l:List j6} (h:n7 l):a7r l=some (L0 l):=by
  unfold a7r L0
  rw [show (10:Int)=((10:Nat):Int) from rfl,b0y,a1a l h a0P false ()]
  · cases decide (l.length≤10)
    · rfl
    · cases l.all a0P<;>rfl
  · intro k hk
    unfold b4e
    rw [u5 _ k hk,p9 hk]
    simp only [cond_true,Option.bind_some,c9f]
    cases a0P l[k]<;>rfl
  · unfold b4e
    rw [A5]; rfl
theorem a8P {i:j6} (h:a0P i=true):(i.Kind=1∧(0≤i.A∧i.A≤3)∧(0≤i.B∧i.B≤3))∨(i.Kind=2∧(0≤i.A∧i.A≤3)∧(0≤i.B∧i.B≤3))∨(i.Kind=3∧(0≤i.A∧i.A≤3)∧(-1000000≤i.N∧i.N≤1000000)) ∨
    (i.Kind=4∧(0≤i.A∧i.A≤3)∧(0≤i.B∧i.B≤3))∨(i.Kind=5∧(0≤i.A∧i.A≤3)∧(0≤i.B∧i.B≤3))∨(i.Kind=6∧(0≤i.A∧i.A≤3)∧(0≤i.B∧i.B≤3)∧(1≤i.N∧i.N≤10))∨(i.Kind=7∧i.A=0):=by
  unfold a0P j7 at h
  by_cases h1:i.Kind=1
  · simp [h1] at h; exact .inl ⟨h1,h.1,h.2.1⟩
  by_cases h2:i.Kind=2
  · simp [h2] at h; exact .inr (.inl ⟨h2,h.1,h.2.1⟩)
  by_cases h3:i.Kind=3
  · simp [h3] at h; exact .inr (.inr (.inl ⟨h3,h.1,h.2.2⟩))
  by_cases h4:i.Kind=4
  · simp [h4] at h; exact .inr (.inr (.inr (.inl ⟨h4,h.1,h.2.1⟩)))
  by_cases h5:i.Kind=5
  · simp [h5] at h; exact .inr (.inr (.inr (.inr (.inl ⟨h5,h.1,h.2.1⟩))))
  by_cases h6:i.Kind=6
  · simp [h6] at h; exact .inr (.inr (.inr (.inr (.inr (.inl ⟨h6,h.1,h.2.1,h.2.2⟩)))))
  by_cases h7:i.Kind=7
  · simp [h7] at h; exact .inr (.inr (.inr (.inr (.inr (.inr ⟨h7,h.1⟩)))))
  · have e1:(i.Kind==1)=false:=by simpa using h1
    have e2:(i.Kind==2)=false:=by simpa using h2
    have e3:(i.Kind==3)=false:=by simpa using h3
    have e4:(i.Kind==4)=false:=by simpa using h4
    have e5:(i.Kind==5)=false:=by simpa using h5
    have e6:(i.Kind==6)=false:=by simpa using h6
    have e7:(i.Kind==7)=false:=by simpa using h7
    rw [e1,e2,e3,e4,e5,e6,e7] at h
    cases h
def a54 (l:List n3):Bool:=(List.range l.length).all (V5 l)
def a2N (l:List m4):Bool:=(List.range l.length).all (W2 l)
def b63 (x:n3):Prop:=0≤x.Box∧x.Box≤3∧0≤x.Ver∧x.Ver≤1000000
theorem c67 {l:List n3}:a54 l=true↔(∀ x∈l,b63 x)∧l.Pairwise fun a b=>a.Box≠b.Box:=by
  unfold a54
  constructor
  · intro h
    refine ⟨c1q h,?_⟩
    rw [List.pairwise_iff_getElem]
    intro i j hi hj hij heq
    have:=List.all_eq_true.1 h j (by simpa using hj)
    unfold V5 at this
    rw [List.getElem?_eq_getElem hj] at this
    simp only [Bool.and_eq_true,Bool.not_eq_true'] at this
    have hs:=this.2.2
    unfold P1 at hs
    rw [List.any_eq_false] at hs
    refine hs l[i] ?_ (by simpa using heq)
    rw [List.mem_take_iff_getElem]
    exact ⟨i,by omega,rfl⟩
  · rintro ⟨h1,h2⟩
    rw [List.all_eq_true]
    intro k hk
    have hk:k<l.length:=by simpa using hk
    unfold V5
    rw [List.getElem?_eq_getElem hk]
    have hf:=h1 _ (List.getElem_mem hk)
    have hs:P1 (l.take k) l[k].Box=false:=by
      unfold P1
      rw [List.any_eq_false]
      intro x hx
      obtain ⟨i,hi,rfl⟩:=List.mem_take_iff_getElem.1 hx
      have:=List.pairwise_iff_getElem.1 h2 i k (by omega) hk (by omega)
      simpa using this
    simp only [hs,Bool.not_false,Bool.and_true,Bool.and_eq_true]
    unfold b63 at hf
    exact ⟨by simp [j7]; omega,by simp [j7]; omega⟩
theorem b1T {l:List m4}:a2N l=true↔(∀ x∈l,a2d x)∧l.Pairwise fun a b=>a.Box≠b.Box:=by
  unfold a2N
  constructor
  · intro h
    refine ⟨c0n h,?_⟩
    rw [List.pairwise_iff_getElem]
    intro i j hi hj hij heq
    have:=List.all_eq_true.1 h j (by simpa using hj)
    unfold W2 at this
    rw [List.getElem?_eq_getElem hj] at this
    simp only [Bool.and_eq_true,Bool.not_eq_true'] at this
    have hs:=this.2.2
    unfold T0 at hs
    rw [List.any_eq_false] at hs
    refine hs l[i] ?_ (by simpa using heq)
    rw [List.mem_take_iff_getElem]
    exact ⟨i,by omega,rfl⟩
  · rintro ⟨h1,h2⟩
    rw [List.all_eq_true]
    intro k hk
    have hk:k<l.length:=by simpa using hk
    unfold W2
    rw [List.getElem?_eq_getElem hk]
    have hf:=h1 _ (List.getElem_mem hk)
    have hs:T0 (l.take k) l[k].Box=false:=by
      unfold T0
      rw [List.any_eq_false]
      intro x hx
      obtain ⟨i,hi,rfl⟩:=List.mem_take_iff_getElem.1 hx
      have:=List.pairwise_iff_getElem.1 h2 i k (by omega) hk (by omega)
      simpa using this
    simp only [hs,Bool.not_false,Bool.and_true,Bool.and_eq_true]
    unfold a2d at hf
    exact ⟨by simp [j7]; omega,by simp [j7]; omega⟩
theorem c9J {l:List n3} {x:n3} (h:a54 l=true) (hx:b63 x) (hs:P1 l x.Box=false):a54 (l++[x])=true:=by
  rw [c67] at h ⊢
  refine ⟨fun y hy => ?_,?_⟩
  · rcases List.mem_append.1 hy with hy | hy
    · exact h.1 y hy
    · rw [List.mem_singleton.1 hy]; exact hx
  · rw [List.pairwise_append]
    refine ⟨h.2,by simp,fun a ha b hb => ?_⟩
    rw [List.mem_singleton.1 hb]
    unfold P1 at hs
    rw [List.any_eq_false] at hs
    simpa using hs a ha
theorem d7e {l:List m4} {x:m4} (h:a2N l=true) (hx:a2d x) (hs:T0 l x.Box=false):a2N (l++[x])=true:=by
  rw [b1T] at h ⊢
  refine ⟨fun y hy => ?_,?_⟩
  · rcases List.mem_append.1 hy with hy | hy
    · exact h.1 y hy
    · rw [List.mem_singleton.1 hy]; exact hx
  · rw [List.pairwise_append]
    refine ⟨h.2,by simp,fun a ha b hb => ?_⟩
    rw [List.mem_singleton.1 hb]
    unfold T0 at hs
    rw [List.any_eq_false] at hs
    simpa using hs a ha
theorem c90 {l:List m4} {k:Nat} {v:Int} (h:a2N l=true) (hk:k<l.length) (hv : -1000000≤v∧v≤1000000):a2N (l.set k ⟨l[k].Box,v⟩)=true:=by
  rw [b1T] at h ⊢
  refine ⟨fun y hy => ?_,?_⟩
  · rcases List.mem_or_eq_of_mem_set hy with hy | rfl
    · exact h.1 y hy
    · have:=h.1 _ (List.getElem_mem hk)
      exact ⟨this.1,this.2.1,hv⟩
  · rw [List.pairwise_iff_getElem]
    intro i j hi hj hij
    have hi':i<l.length:=by simpa using hi
    have hj':j<l.length:=by simpa using hj
    have hne:=List.pairwise_iff_getElem.1 h.2 i j hi' hj' hij
    rw [List.getElem_set,List.getElem_set]
    split<;>split<;>simp_all
theorem a8Q (r:i6):R9 r=(j7 r.Code 0 3&&(j7 r.Val (-1000000) 1000000&&((r.Code==0||(r.Val==0&&r.Puts.length==0))&&((r.Code != 3||r.Reads.length==0)&&(a54 r.Reads&&a2N r.Puts))))):=rfl
theorem c5G {l:List m4} (h:n7 l) (box:Int):(a2l l box=some (-1)∧T0 l box=false) ∨ ∃ k:Nat,a2l l box=some (k:Int) ∧ ∃ hk:k<l.length,l[k].Box=box:=by
  have hc:=a5Y (body:=fun s:Int=>a1i l box s) (fun k=>(k:Int)) l.length (fun k=>match l[k]? with | some x => !(x.Box==box) | none=>true) (fun k=>(k:Int)) ()
    (fun k hk _=>by
      unfold a1i
      rw [u5 l k hk,p9 hk,H6 h hk]
      simp only [cond_true,Option.bind_some,List.getElem?_eq_getElem hk]
      cases l[k].Box==box<;>rfl) (fun _=>by unfold a1i; rw [A5]; rfl)
  unfold a2l
  rcases hc with ⟨h1,hall⟩ | ⟨k,hk,ho,_,h1⟩
  · left
    rw [show m5 (fun s:Int=>a1i l box s) 0=_ from h1]
    refine ⟨rfl,?_⟩
    unfold T0
    rw [List.any_eq_false]
    intro x hx
    obtain ⟨i,hi,rfl⟩:=List.getElem_of_mem hx
    have:=hall i hi
    simpa [List.getElem?_eq_getElem hi] using this
  · right
    rw [show m5 (fun s:Int=>a1i l box s) 0=_ from h1]
    refine ⟨k,rfl,hk,?_⟩
    simpa [List.getElem?_eq_getElem hk] using ho
def inV (v:Int):Prop := -1000000≤v∧v≤1000000
def a5Z (regs:List Int):Prop:=regs.length=4 ∧ ∀ v∈regs,inV v
theorem a2m {regs:List Int} (h:regs.length=4) {a:Int} (ha:0≤a∧a≤3) : ∃ v,idx regs a=some v∧v∈regs:=by
  have hlt:a.toNat<regs.length:=by omega
  refine ⟨regs[a.toNat],?_,List.getElem_mem hlt⟩
  unfold idx
  rw [if_pos ha.1,List.getElem?_eq_getElem hlt]
theorem c9E {regs:List Int} {a:Nat} {v w:Int} (h:w∈regs.set a v):w∈regs∨w=v:=List.mem_or_eq_of_mem_set h
structure W8 (r:i6) (n:Nat):Prop where
  val:r.Val=0
  reads:a54 r.Reads=true
  puts:a2N r.Puts=true
  rlen:r.Reads.length≤n
  plen:r.Puts.length≤n
theorem W8.fitsR {r:i6} {n:Nat} (h:W8 r n) (hn:n≤100):n7 r.Reads:=by
  have:=h.rlen
  unfold n7; omega
theorem W8.fitsP {r:i6} {n:Nat} (h:W8 r n) (hn:n≤100):n7 r.Puts:=by
  have:=h.plen
  unfold n7; omega
theorem d7K {l:List g7} {r:i6} {n:Nat} {box:Int} (hl:G3 l=true) (hr:W8 r n) (hn:n≤100) (hb:0≤box∧box≤3) : ∃ v r',a81 l r box=some (v,r')∧W8 r' (n+1)∧r'.Code=r.Code∧inV v:=by
  have hp:=(b1T.1 hr.puts).1
  unfold a81
  rcases c5G (hr.fitsP hn) box with ⟨h1,h2⟩ | ⟨k,h1,hk,h2⟩
  · rw [h1,Option.bind_some,show decide ((-1:Int)≥0)=false from by decide,cond_false,b5f (hr.fitsR hn),Option.bind_some]
    obtain ⟨b,b1,b2,b3⟩:=a5a hl hb
    rw [b3q] at b3
    cases hs:P1 r.Reads box
    · simp only [Bool.not_false,cond_true,b1,Option.bind_some]
      have n1:(r.Reads.length+1) * 16≤140737488355328:=by have:=hr.rlen; omega
      simp only [o9 n1,Option.bind_some,b7.go]
      unfold a9V
      rw [b1,Option.bind_some]
      refine ⟨_,_,rfl,⟨hr.val,c9J hr.reads ⟨hb.1,hb.2,b3.1⟩ hs,hr.puts,?_,?_⟩,rfl,b3.2⟩
      · have:=hr.rlen
        simp
        omega
      · have:=hr.plen
        simp only
        omega
    · simp only [Bool.not_true,cond_false,Option.bind_some,b7.go]
      unfold a9V
      rw [b1,Option.bind_some]
      refine ⟨_,_,rfl,⟨hr.val,hr.reads,hr.puts,?_,?_⟩,rfl,b3.2⟩
      · have:=hr.rlen
        simp only
        omega
      · have:=hr.plen
        simp only
        omega
  · rw [h1,Option.bind_some,show decide (((k:Nat):Int)≥0)=true from by simp,cond_true,p9 hk,Option.bind_some]
    have hf:=hp _ (List.getElem_mem hk)
    exact ⟨_,_,rfl,⟨hr.val,hr.reads,hr.puts,Nat.le_succ_of_le hr.rlen,Nat.le_succ_of_le hr.plen⟩,rfl,hf.2.2⟩
theorem d6C {r:i6} {n:Nat} {box v:Int} (hr:W8 r n) (hn:n≤100) (hb:0≤box∧box≤3) (hv:inV v) : ∃ r',a9N r box v=some r'∧W8 r' (n+1)∧r'.Code=r.Code:=by
  unfold a9N
  rcases c5G (hr.fitsP hn) box with ⟨h1,h2⟩ | ⟨k,h1,hk,h2⟩
  · rw [h1,Option.bind_some,show decide ((-1:Int)≥0)=false from by decide,cond_false]
    have n1:(r.Puts.length+1) * 16≤140737488355328:=by have:=hr.plen; omega
    rw [o9 n1]
    refine ⟨_,rfl,⟨hr.val,hr.reads,d7e hr.puts ⟨hb.1,hb.2,hv⟩ h2,?_,?_⟩,rfl⟩
    · have:=hr.rlen
      simp only
      omega
    · have:=hr.plen
      simp
      omega
  · rw [h1,Option.bind_some,show decide (((k:Nat):Int)≥0)=true from by simp,cond_true,p9 hk,Option.bind_some]
    refine ⟨_,rfl,⟨hr.val,hr.reads,?_,Nat.le_succ_of_le hr.rlen,?_⟩,rfl⟩
    · simp only [Int.toNat_natCast]
      exact c90 hr.puts hk hv
    · have:=hr.plen
      simp
      omega
theorem d8y {l:List g7} {r:i6} {n:Nat} {regs:List Int} {i:j6} (hl:G3 l=true) (hr:W8 r n) (hn:n≤100) (hc:r.Code=0) (hg:a5Z regs) (hi:a0P i=true) (h6:i.Kind≠6) :
    ∃ r' regs',a4A l r regs i=some (r',regs')∧W8 r' (n+1)∧regs'.length=4∧(r'.Code=0∨r'.Code=1∨r'.Code=2)∧(r'.Code=0→a5Z regs'):=by
  have hend : ∀ (regs':List Int) (r':i6),W8 r' (n+1)→(r'.Code=0∨r'.Code=1)→regs'.length=4→i.Kind≠2→(0≤i.A∧i.A≤3)→(∀ v,idx regs' i.A=some v→inV v→a5Z regs') →
      ∃ r2 regs2,a2J i regs' r'.Reads r'.Puts r'.Val r'.Code=some (r2,regs2)∧W8 r2 (n+1)∧regs2.length=4∧(r2.Code=0∨r2.Code=1∨r2.Code=2)∧(r2.Code=0→a5Z regs2):=by
    intro regs' r' w1 w2 w3 w4 w5 w6
    obtain ⟨v,v1,v2⟩:=a2m w3 w5
    have hk:(i.Kind != 2)=true:=by simpa using w4
    unfold a2J a5X
    rw [hk,cond_true,v1,Option.bind_some,a4g,Option.bind_some]
    cases hv:j7 v (-1000000) 1000000
    · simp only [Bool.not_false,cond_true,Option.bind_some,b7.go]
      exact ⟨_,_,rfl,⟨w1.val,w1.reads,w1.puts,w1.rlen,w1.plen⟩,w3,.inr (.inr rfl),fun h=>absurd h (show ¬ (2:Int)=0 from by decide)⟩
    · simp only [Bool.not_true,cond_false,Option.bind_some,b7.go]
      have hv':inV v:=by simpa [j7,inV] using hv
      refine ⟨_,_,rfl,⟨w1.val,w1.reads,w1.puts,w1.rlen,w1.plen⟩,w3,?_,fun _=>w6 v v1 hv'⟩
      rcases w2 with w2 | w2
      · exact .inl w2
      · exact .inr (.inl w2)
  have hset : ∀ (a:Int) (x:Int),(0≤a∧a≤3)→(regs.set a.toNat x).length=4 ∧ ∀ v,idx (regs.set a.toNat x) a=some v→inV v→a5Z (regs.set a.toNat x):=by
    intro a x ha
    have hlt:a.toNat<regs.length:=by have:=hg.1; omega
    refine ⟨by simpa using hg.1,fun v hv hin=>⟨by simpa using hg.1,fun w hw => ?_⟩⟩
    rcases c9E hw with hw | rfl
    · exact hg.2 w hw
    · unfold idx at hv
      rw [if_pos ha.1,List.getElem?_set_self hlt] at hv
      injection hv with hv
      subst hv
      exact hin
  have hw1:W8 r (n+1):=⟨hr.val,hr.reads,hr.puts,Nat.le_succ_of_le hr.rlen,Nat.le_succ_of_le hr.plen⟩
  unfold a4A
  rcases a8P hi with ⟨k,ha,hb⟩ | ⟨k,ha,hb⟩ | ⟨k,ha,hN⟩ | ⟨k,ha,hb⟩ | ⟨k,ha,hb⟩ | ⟨k,_⟩ | ⟨k,ha⟩
  · obtain ⟨v,r',q1,q2,q3,q4⟩:=d7K hl hr hn hb
    obtain ⟨y,y1,_⟩:=a2m hg.1 ha
    simp only [k,q1,y1,beq_self_eq_true,cond_true,Option.bind_some,b7.go]
    exact hend _ r' q2 (.inl (q3.trans hc)) (hset i.A v ha).1 (by omega) ha (hset i.A v ha).2
  · obtain ⟨y,y1,y2⟩:=a2m hg.1 hb
    obtain ⟨r',q1,q2,q3⟩:=d6C hr hn ha (hg.2 y y2)
    have e1:((2:Int)==1)=false:=by decide
    simp only [k,e1,y1,q1,beq_self_eq_true,cond_true,cond_false,Option.bind_some,b7.go]
    unfold a2J a5X
    simp only [k,bne_self_eq_false,cond_false,Option.bind_some,b7.go]
    exact ⟨_,_,rfl,⟨q2.val,q2.reads,q2.puts,q2.rlen,q2.plen⟩,hg.1,.inl (q3.trans hc),fun _=>hg⟩
  · obtain ⟨y,y1,_⟩:=a2m hg.1 ha
    have e1:((3:Int)==1)=false:=by decide
    have e2:((3:Int)==2)=false:=by decide
    simp only [k,e1,e2,y1,beq_self_eq_true,cond_true,cond_false,Option.bind_some,b7.go]
    exact hend _ r hw1 (.inl hc) (hset i.A i.N ha).1 (by omega) ha (hset i.A i.N ha).2
  · obtain ⟨y,y1,_⟩:=a2m hg.1 ha
    obtain ⟨z,z1,_⟩:=a2m hg.1 hb
    have e1:((4:Int)==1)=false:=by decide
    have e2:((4:Int)==2)=false:=by decide
    have e3:((4:Int)==3)=false:=by decide
    simp only [k,e1,e2,e3,y1,z1,beq_self_eq_true,cond_true,cond_false,Option.bind_some,b7.go]
    exact hend _ r hw1 (.inl hc) (hset i.A _ ha).1 (by omega) ha (hset i.A _ ha).2
  · obtain ⟨y,y1,_⟩:=a2m hg.1 ha
    obtain ⟨z,z1,_⟩:=a2m hg.1 hb
    have e1:((5:Int)==1)=false:=by decide
    have e2:((5:Int)==2)=false:=by decide
    have e3:((5:Int)==3)=false:=by decide
    have e4:((5:Int)==4)=false:=by decide
    simp only [k,e1,e2,e3,e4,y1,z1,beq_self_eq_true,cond_true,cond_false,Option.bind_some,b7.go]
    exact hend _ r hw1 (.inl hc) (hset i.A _ ha).1 (by omega) ha (hset i.A _ ha).2
  · exact absurd k h6
  · have e1:((7:Int)==1)=false:=by decide
    have e2:((7:Int)==2)=false:=by decide
    have e3:((7:Int)==3)=false:=by decide
    have e4:((7:Int)==4)=false:=by decide
    have e5:((7:Int)==5)=false:=by decide
    simp only [k,e1,e2,e3,e4,e5,beq_self_eq_true,cond_true,cond_false,Option.bind_some,b7.go]
    have:=hend regs ⟨r.Reads,r.Puts,r.Val,1⟩ ⟨hw1.val,hw1.reads,hw1.puts,hw1.rlen,hw1.plen⟩ (.inr rfl) hg.1 (by omega) ⟨by omega,by omega⟩ (fun _ _ _=>hg)
    exact this
structure Ran (r:i6):Prop where
  ok:R9 r=true
  rlen:r.Reads.length≤40
  plen:r.Puts.length≤40
theorem d07 {r:i6} {n:Nat} (h:W8 r n) (hn:n≤40) (hc:r.Code=0∨r.Code=1∨r.Code=2) {v:Int} (hv:r.Code=0→inV v):Ran ⟨r.Reads,bif r.Code != 0 then [] else r.Puts,bif r.Code != 0 then r.Val else v,r.Code⟩:=by
  have h1:=h.rlen
  have h2:=h.plen
  have hR:=h.reads
  have hP:=h.puts
  have hP0:a2N []=true:=rfl
  rcases hc with hc | hc | hc
  · have hv:=hv hc
    unfold inV at hv
    refine ⟨?_,by simp only; omega,by simp only [hc]; simp; omega⟩
    rw [a8Q]
    simp [hc,hR,hP,j7,hv]
  · refine ⟨?_,by simp only; omega,by simp [hc]⟩
    rw [a8Q]
    simp [hc,hR,hP0,j7,h.val]
  · refine ⟨?_,by simp only; omega,by simp [hc]⟩
    rw [a8Q]
    simp [hc,hR,hP0,j7,h.val]
theorem c2Q {l:List g7} {prog:List j6} (hl:n7 l) (hp:n7 prog) : ∃ r,a5O l prog=some r∧(G3 l=true→Ran r)∧r.Reads.length≤40∧r.Puts.length≤40:=by
  unfold a5O
  rw [b5h hl,b1c hp]
  have h0:Ran ⟨[],[],0,3⟩:=⟨by decide,by simp,by simp⟩
  cases hb:G3 l
  · exact ⟨_,rfl,(fun h=>by cases h),by simp,by simp⟩
  cases hpo:L0 prog
  · exact ⟨_,rfl,fun _=>h0,by simp,by simp⟩
  simp only [Option.bind_some,Bool.not_true,cond_false]
  rw [o9 (by decide)]
  have hlen:prog.length≤10:=by
    unfold L0 at hpo
    simp only [Bool.and_eq_true,decide_eq_true_eq] at hpo
    exact hpo.1
  have hins : ∀ i∈prog,a0P i=true:=by
    unfold L0 at hpo
    simp only [Bool.and_eq_true] at hpo
    exact List.all_eq_true.1 hpo.2
  obtain ⟨x,hx,hq⟩:=a7B (body:=fun s:(List Int)×(List n3)×(List m4)×Int×Int×Int=>a0p l prog s.1 s.2.1 s.2.2.1 s.2.2.2.1 s.2.2.2.2.1 s.2.2.2.2.2)
    (fun m s => ∃ k:Nat,s.2.2.2.1=(k:Int)∧k≤30∧k+m=31∧W8 ⟨s.2.1,s.2.2.1,s.2.2.2.2.1,s.2.2.2.2.2⟩ k∧s.1.length=4∧(s.2.2.2.2.2=0∨s.2.2.2.2.2=1∨s.2.2.2.2.2=2)∧(s.2.2.2.2.2=0→a5Z s.1))
    (fun x=>match x with
      | .ret _=>False
      | .brk b=>W8 ⟨b.1,b.2.1,b.2.2.2.1,b.2.2.2.2⟩ 30∧b.2.2.1.length=4∧(b.2.2.2.2=0∨b.2.2.2.2=1∨b.2.2.2.2=2)∧(b.2.2.2.2=0→a5Z b.2.2.1))
    (by
      rintro m ⟨regs,Reads,Puts,kk,rVal,rCode⟩ ⟨k,hk,hk30,hm,hway,hreg,hcode,hrok⟩
      simp only at hk hway hreg hcode hrok ⊢
      subst hk
      have hend:W8 ⟨Reads,Puts,rVal,rCode⟩ 30:=⟨hway.val,hway.reads,hway.puts,Nat.le_trans hway.rlen hk30,Nat.le_trans hway.plen hk30⟩
      unfold a0p
      by_cases hlt:k<prog.length
      · rw [u5 _ k hlt,p9 hlt]
        cases hc:rCode==0
        · exact ⟨_,rfl,hend,hreg,hcode,hrok⟩
        have hc0:rCode=0:=by simpa using hc
        have hi:=hins _ (List.getElem_mem hlt)
        simp only [cond_true,Option.bind_some]
        cases h6:prog[k].Kind==6
        · obtain ⟨r',regs',q1,q2,q3,q4,q5⟩:=d8y hb hway (by omega) hc0 (hrok hc0) hi (by simpa using h6)
          simp only [cond_false,q1,Option.bind_some]
          rw [o9 (by rw [q3]; exact hreg),B0 (by omega) (by omega)]
          exact ⟨_,rfl,m - 1,by omega,k+1,by simp,by omega,by omega,q2,q3,q4,q5⟩
        · have h6':prog[k].Kind=6:=by simpa using h6
          obtain ⟨_,ha,hbb,hN⟩:prog[k].Kind=6∧(0≤prog[k].A∧prog[k].A≤3)∧(0≤prog[k].B∧prog[k].B≤3)∧(1≤prog[k].N∧prog[k].N≤10):=by
            rcases a8P hi with ⟨q,_⟩ | ⟨q,_⟩ | ⟨q,_⟩ | ⟨q,_⟩ | ⟨q,_⟩ | q | ⟨q,_⟩
            · omega
            · omega
            · omega
            · omega
            · omega
            · exact q
            · omega
          obtain ⟨y,y1,_⟩:=a2m hreg ha
          obtain ⟨z,z1,_⟩:=a2m hreg hbb
          simp only [cond_true,y1,z1,Option.bind_some]
          have hw2 : ∀ j:Nat,k≤j→W8 ⟨Reads,Puts,rVal,rCode⟩ (j+1):=fun j h=>⟨hway.val,hway.reads,hway.puts,Nat.le_trans hway.rlen (by omega),Nat.le_trans hway.plen (by omega)⟩
          unfold b32
          by_cases hyz:y<z
          · simp only [hyz,decide_true,cond_true,Option.bind_some,b7.go]
            have e1:i7 ((k:Int)+prog[k].N)=((k+prog[k].N.toNat:Nat):Int):=by
              rw [B0 (n:=(k:Int)+prog[k].N) (by omega) (by omega)]
              omega
            rw [e1,B0 (n:=((k+prog[k].N.toNat:Nat):Int)+1) (by omega) (by omega)]
            exact ⟨_,rfl,31 - (k+prog[k].N.toNat+1),by omega,k+prog[k].N.toNat+1,rfl,by omega,by omega,hw2 _ (by omega),hreg,hcode,hrok⟩
          · simp only [hyz,decide_false,cond_false,Option.bind_some,b7.go]
            rw [B0 (n:=(k:Int)+1) (by omega) (by omega)]
            exact ⟨_,rfl,31 - (k+1),by omega,k+1,rfl,by omega,by omega,hw2 k (by omega),hreg,hcode,hrok⟩
      · have:decide ((k:Int)<(prog.length:Int))=false:=by simp; omega
        rw [this,cond_false]
        exact ⟨_,rfl,hend,hreg,hcode,hrok⟩) (k:=31) (s:=(List.replicate (4:Int).toNat 0,[],[],0,0,0)) ⟨0,rfl,by omega,by omega,⟨rfl,rfl,rfl,by simp,by simp⟩,rfl,.inl rfl,fun _=>⟨rfl,by simp [inV]⟩⟩
  rw [hx,Option.bind_some]
  cases x with
  | ret r=>cases hq
  | brk b =>
    obtain ⟨Reads,Puts,regs,rVal,rCode⟩:=b
    obtain ⟨q1,q2,q3,q4⟩:=hq
    simp only at q1 q2 q3 q4
    simp only [b7.go]
    unfold a4x
    obtain ⟨v,v1,v2⟩:=a2m q2 (a:=0) ⟨by omega,by omega⟩
    have hran:=d07 q1 (by omega) q3 (v:=v) (fun h=>(q4 h).2 v v2)
    have q1r:=q1.rlen
    have q1p:=q1.plen
    simp only at hran q1r q1p
    cases hc:rCode != 0
    · rw [hc] at hran
      simp only [cond_false,v1,Option.bind_some] at hran ⊢
      exact ⟨_,rfl,fun _=>hran,by simp only; omega,by simp only; omega⟩
    · rw [hc] at hran
      simp only [cond_true] at hran ⊢
      exact ⟨_,rfl,fun _=>hran,by simp only; omega,by simp⟩
theorem d3U {r:c9} {m:Nat} (h:Rd r m) (hm:m≤100000000) : ∃ i r',b2X r=some (i,r')∧Rd r' (m+10):=by
  obtain ⟨k,r1,a1,a2,a3⟩:=a5R h (by omega) [1,1,2,2,3,4,4,5,6,7] (by decide) (by decide)
  obtain ⟨p1,r2,b1,b2,b3,b4⟩:=C8 a2 (by omega) 3
  obtain ⟨p2,r3,c1,c2,c3,c4⟩:=C8 b2 (by omega) 3
  unfold b2X
  simp only [a1,b1,c1,Option.bind_some]
  cases h3:k==3
  · cases h6:k==6
    · cases h7:k==7
      · exact ⟨_,_,rfl,c2.mono (by omega)⟩
      · obtain ⟨p3,r4,d1,d2,d3,d4⟩:=C8 c2 (by omega) 3
        simp only [cond_true,cond_false,d1,Option.bind_some]
        cases decide (p3>0)
        · exact ⟨_,_,rfl,d2.mono (by omega)⟩
        · obtain ⟨p4,r5,e1,e2,e3,e4⟩:=C8 d2 (by omega) 4
          obtain ⟨p5,r6,f1,f2,f3,f4⟩:=C8 e2 (by omega) 4
          simp only [cond_true,e1,f1,Option.bind_some]
          exact ⟨_,_,rfl,f2.mono (by omega)⟩
    · obtain ⟨p3,r4,d1,d2,d3,d4⟩:=C8 c2 (by omega) 3
      simp only [cond_true,cond_false,d1,Option.bind_some]
      exact ⟨_,_,rfl,d2.mono (by omega)⟩
  · obtain ⟨n1,r4,d1,d2,d3⟩:=a5R c2 (by omega) [0,1,5,(-2),100,1000000] (by decide) (by decide)
    simp only [cond_true,d1,Option.bind_some]
    exact ⟨_,_,rfl,d2.mono (by omega)⟩
theorem b3m {r:c9} {m:Nat} (h:Rd r m) (hm:m≤50000000) : ∃ p r',a2Y r=some (p,r')∧Rd r' (m+200)∧p.length≤10:=by
  obtain ⟨v,r1,a1,a2,a3,a4⟩:=C8 h (by omega) 3
  unfold a2Y
  simp only [a1,Option.bind_some]
  cases v==0
  · obtain ⟨k,r2,b1,b2,b3,b4⟩:=C8 a2 (by omega) 8
    simp only [cond_false,b1,Option.bind_some]
    obtain ⟨x,hx,hq⟩:=a7B (body:=fun s:c9×(List j6)×Int=>b20 s.1 s.2.1 s.2.2)
      (fun j s=>s.2.2=(j:Int)∧j≤8∧Rd s.1 (m+2+10 * (8 - j))∧s.2.1.length+j≤8)
      (fun x=>match x with
        | .ret _=>False
        | .brk b=>Rd b.1 (m+200)∧b.2.length≤10)
      (by
        rintro j ⟨r,out,i⟩ ⟨q1,q2,q3,q4⟩
        simp only at q1 q3 q4 ⊢
        subst q1
        unfold b20
        cases j with
        | zero=>exact ⟨_,rfl,q3.mono (by omega),by simp only; omega⟩
        | succ j =>
          obtain ⟨i,r',d1,d2⟩:=d3U q3 (by omega)
          have hpos:decide (((j+1:Nat):Int)>0)=true:=by simp
          have n1:(out.length+1) * 32≤140737488355328:=by omega
          rw [hpos,cond_true,d1,Option.bind_some,o9 n1,B0 (by omega) (by omega)]
          exact ⟨_,rfl,j,by omega,by simp only; omega,by omega,d2.mono (by omega),by simp; omega⟩) (k:=k.toNat) (s:=(r2,[],k)) ⟨by simp only; omega,by omega,b2.mono (by omega),by simp; omega⟩
    rw [hx,Option.bind_some]
    cases x with
    | ret r=>cases hq
    | brk b=>exact ⟨_,_,rfl,hq.1,hq.2⟩
  · obtain ⟨p1,r2,b1,b2,b3,b4⟩:=C8 a2 (by omega) 3
    obtain ⟨p2,r3,c1,c2,c3,c4⟩:=C8 b2 (by omega) 3
    obtain ⟨p3,r4,d1,d2,d3,d4⟩:=C8 c2 (by omega) 3
    simp only [cond_true,b1,c1,d1,Option.bind_some]
    exact ⟨_,_,rfl,d2.mono (by omega),by simp⟩
def a13 (e:b5):Prop:=e.Run.Reads.length≤40∧e.Run.Puts.length≤40
theorem a13.f {e:b5} (h:a13 e):X0 e:=⟨trivial,⟨by have:=h.1; omega,fun _ _=>trivial⟩,⟨by have:=h.2; omega,fun _ _=>trivial⟩,trivial⟩
def drawn (l:List b5):Prop:=l.length≤41 ∧ ∀ e∈l,a13 e
theorem drawn.f {l:List b5} (h:drawn l):v5 88 X0 l:=⟨by have:=h.1; omega,fun e he=>(h.2 e he).f⟩
theorem c74:a13 ⟨true,⟨0,0⟩,⟨[],[],0,0⟩⟩:=⟨by simp,by simp⟩
theorem d30 {r:c9} {m:Nat} {bx:List g7} (h:Rd r m) (hm:m≤20000000) (hb:n7 bx) : ∃ e r',b2e r bx=some (e,r',bx)∧Rd r' (m+300)∧a13 e:=by
  obtain ⟨v,r1,a1,a2,a3,a4⟩:=C8 h (by omega) 8
  unfold b2e
  simp only [a1,Option.bind_some]
  cases v==0
  · obtain ⟨p1,r2,b1,b2,b3,b4⟩:=C8 a2 (by omega) 3
    obtain ⟨p2,r3,c1,c2,c3,c4⟩:=C8 b2 (by omega) 6
    obtain ⟨pr,r4,d1,d2,d3⟩:=b3m c2 (by omega)
    obtain ⟨run,e1,e2,e3,e4⟩:=c2Q (prog:=pr) hb (by unfold n7; omega)
    obtain ⟨p3,r5,f1,f2,f3,f4⟩:=C8 d2 (by omega) 40
    simp only [cond_false,b1,c1,d1,e1,f1,Option.bind_some]
    unfold b9y
    cases p3==0
    · cases p3==1
      · cases p3==2
        · exact ⟨_,_,rfl,f2.mono (by omega),e3,e4⟩
        · exact ⟨_,_,rfl,f2.mono (by omega),e3,e4⟩
      · exact ⟨_,_,rfl,f2.mono (by omega),e3,e4⟩
    · obtain ⟨n1,r6,g1,g2,g3⟩:=a5R f2 (by omega) [0,1001] (by decide) (by decide)
      simp only [cond_true,g1,Option.bind_some,b7.go]
      exact ⟨_,_,rfl,g2.mono (by omega),e3,e4⟩
  · exact ⟨_,_,rfl,a2.mono (by omega),c74⟩
theorem d5g {j:Nat} (hj:j<1000):i7 (((j+1:Nat):Int) - 1)=(j:Int):=by
  rw [B0 (by omega) (by omega)]
  omega
theorem b2T {l:List b5} {e:b5} (h : ∀ x∈l,a13 x) (he:a13 e) : ∀ x∈l++[e],a13 x:=by
  intro x hx
  rcases List.mem_append.1 hx with hx | hx
  · exact h x hx
  · rw [List.mem_singleton.1 hx]; exact he
theorem d0i {out:List b5} (h:out.length≤41) (hs : ∀ e∈out,a13 e) : ∃ l,m5 (fun s:List b5=>b04 s) out=some (.brk l)∧drawn l:=by
  obtain ⟨x,hx,hq⟩:=a7B (body:=fun s:List b5=>b04 s) (fun j s=>s.length+j=41 ∧ ∀ e∈s,a13 e)
    (fun x=>match x with
      | .ret _=>False
      | .brk b=>drawn b)
    (by
      rintro j s ⟨q1,q2⟩
      simp only
      unfold b04
      by_cases hlt:(s.length:Int)<41
      · have n1:(s.length+1) * 88≤140737488355328:=by omega
        rw [decide_eq_true hlt,cond_true,o9 n1]
        exact ⟨_,rfl,j - 1,by omega,by simp; omega,b2T q2 c74⟩
      · rw [decide_eq_false hlt,cond_false]
        exact ⟨_,rfl,by omega,q2⟩) (k:=41 - out.length) (s:=out) ⟨by omega,hs⟩
  cases x with
  | ret r=>cases hq
  | brk b=>exact ⟨b,hx,hq⟩
theorem d03 {r:c9} {m:Nat} (h:Rd r m) (hm:m≤10000000) : ∃ l r',b21 r=some (l,r')∧Rd r' (m+10000)∧drawn l:=by
  obtain ⟨n,r1,a1,a2,a3⟩:=a5R h (by omega) [0,3,8,12] (by decide) (by decide)
  have hn:0≤n∧n≤12:=by
    simp at a3
    omega
  unfold b21
  simp only [b1V,a1,Option.bind_some]
  obtain ⟨x,hx,hq⟩:=a7B (body:=fun s:c9×(List b5)×(List g7)×Int×Int×List d9=>b2C s.1 s.2.1 s.2.2.1 s.2.2.2.1 s.2.2.2.2.1 s.2.2.2.2.2)
    (fun j s=>s.2.2.2.1=(j:Int)∧j≤12∧Rd s.1 (m+1+400 * (12 - j))∧s.2.1.length+j≤12∧(∀ e∈s.2.1,a13 e) ∧ ∃ k,k+j≤12∧Inv ⟨s.2.2.2.2.1,s.2.2.1,s.2.2.2.2.2⟩ k)
    (fun x=>match x with
      | .ret _=>False
      | .brk b=>Rd b.1 (m+9000)∧b.2.length≤12 ∧ ∀ e∈b.2,a13 e)
    (by
      rintro j ⟨r,out,bx,i,at_,dn⟩ ⟨q1,q2,q3,q4,q5,k,q6,q7⟩
      simp only at q1 q3 q4 q5 q7 ⊢
      subst q1
      unfold b2C
      cases j with
      | zero=>exact ⟨_,rfl,q3.mono (by omega),by omega,q5⟩
      | succ j =>
        have hbx:n7 bx:=a4r q7.boxes
        obtain ⟨e,r',d1,d2,d3⟩:=d30 (bx:=bx) q3 (by omega) hbx
        have hpos:decide (((j+1:Nat):Int)>0)=true:=by simp
        have n1:(out.length+1) * 88≤140737488355328:=by omega
        rw [hpos,cond_true,d1,Option.bind_some,o9 rfl,o9 n1,a2q d3.f,Option.bind_some]
        unfold b9j
        rw [d5g (by omega)]
        cases hok:q9 e
        · exact ⟨_,rfl,j,by omega,rfl,by omega,d2.mono (by omega),by simp; omega,b2T q5 d3,k,by omega,q7⟩
        · obtain ⟨p,r2,f1,f2,f3,f4⟩:=C8 d2 (by omega) 3
          simp only [cond_true,f1,Option.bind_some]
          cases decide (p>0)
          · exact ⟨_,rfl,j,by omega,rfl,by omega,f2.mono (by omega),by simp; omega,b2T q5 d3,k,by omega,q7⟩
          · simp only [cond_true,b4y q7 (by omega) hok d3.f,Option.bind_some]
            exact ⟨_,rfl,j,by omega,rfl,by omega,f2.mono (by omega),by simp; omega,b2T q5 d3,k+1,by omega,(c8F q7 (by omega) hok).1⟩) (k:=n.toNat) (s:=(r1,[],N2.Boxes,n,N2.At,N2.Dones)) ⟨by simp only; omega,by omega,a2.mono (by omega),by simp; omega,by simp,0,by omega,c2x⟩
  rw [hx,Option.bind_some]
  cases x with
  | ret r=>cases hq
  | brk b =>
    obtain ⟨r2,out⟩:=b
    obtain ⟨q1,q2,q3⟩:=hq
    simp only at q1 q2 q3
    simp only [b7.go]
    unfold b41 b8k
    obtain ⟨p,r3,f1,f2,f3,f4⟩:=C8 q1 (by omega) 30
    rw [f1,Option.bind_some]
    cases p==0
    · exact ⟨_,_,rfl,f2.mono (by omega),by simp only; omega,q3⟩
    · obtain ⟨l,g1,g2⟩:=d0i (out:=out) (by omega) q3
      rw [cond_true,g1]
      exact ⟨_,_,rfl,f2.mono (by omega),g2⟩
theorem d0p {l:List b5} (h:v5 88 X0 l) (hok:H4 l=true):b2q l=some (l9 l).1:=by
  obtain ⟨hl,he⟩:=a1K hok
  have hf:n7 l:=h.fits (by decide)
  unfold b2q
  rw [b1V,Option.bind_some,show (40:Int)=((40:Nat):Int) from rfl,b0y,decide_eq_true hl,Bool.not_true,cond_false]
  have hloop:=V4 (body:=fun s:(List g7)×Int×Int×List d9=>a60 l s.1 s.2.1 s.2.2.1 s.2.2.2) (fun k=>((l9 (l.take k)).1.Boxes,(k:Int),(l9 (l.take k)).1.At,(l9 (l.take k)).1.Dones)) l.length (by
    intro k hk
    obtain ⟨h1,h2,h3⟩:=X4 hl he k (by omega)
    have hek:=List.all_eq_true.1 he _ (List.getElem_mem hk)
    have hfk:=h.2 _ (List.getElem_mem hk)
    rw [a2H hk]
    unfold a60
    rw [u5 _ k hk,p9 hk,H6 hf hk]
    simp only [cond_true,Option.bind_some,a2q hfk,hek,Bool.not_true,cond_false]
    rw [show (⟨(l9 (l.take k)).1.At,(l9 (l.take k)).1.Boxes,(l9 (l.take k)).1.Dones⟩:j4)=(l9 (l.take k)).1 from rfl,b4y h1 (by omega) hek hfk,Option.bind_some]
    rfl)
  rw [List.take_zero,List.take_length] at hloop
  rw [show ((0:Nat):Int)=0 from rfl] at hloop
  rw [show m5 (fun s:(List g7)×Int×Int×List d9=>a60 l s.1 s.2.1 s.2.2.1 s.2.2.2) (N2.Boxes,0,N2.At,N2.Dones)=_ from hloop,D6 (b:=((l9 l).1.Boxes,(l9 l).1.At,(l9 l).1.Dones))]
  · rfl
  · unfold a60
    rw [A5]; rfl
theorem d6b {r:i6} (h:R9 r=true):a2N r.Puts=true:=by
  rw [a8Q] at h
  simp only [Bool.and_eq_true] at h
  exact h.2.2.2.2.2
theorem b45 {l:List b5} (hl:l.length≤40) (he:l.all q9=true) {k:Nat} (hk:k<l.length):(l9 l).2[k]?=some (apply (l9 (l.take k)).1 l[k]).2:=by
  have key : ∀ n,k<n→n≤l.length→(l9 (l.take n)).2[k]?=some (apply (l9 (l.take k)).1 l[k]).2:=by
    intro n
    induction n with
    | zero=>intro h; omega
    | succ n ih =>
      intro h1 h2
      have hlen:=(X4 hl he n (by omega)).2.1
      rw [a2H (show n<l.length by omega)]
      unfold a3t
      by_cases hq:k=n
      · subst hq
        simp only
        rw [List.getElem?_append_right (by omega),hlen,Nat.sub_self]
        rfl
      · simp only
        rw [List.getElem?_append_left (by omega)]
        exact ih (by omega) (by omega)
  have:=key l.length hk (Nat.le_refl _)
  rwa [List.take_length] at this
def cnt (cs:List Int) (c:Int):Int:=((cs.filter fun x=>x==c).length:Int)
theorem c9e (cs:List Int) (c d:Int):cnt (cs++[c]) d=cnt cs d+(if c=d then 1 else 0):=by
  unfold cnt
  rw [List.filter_append]
  by_cases h:c=d<;>simp [h]
theorem c0H (cs:List Int) (c:Int):0≤cnt cs c∧cnt cs c≤cs.length:=by
  unfold cnt
  have:=List.length_filter_le (fun x=>x==c) cs
  omega
def a5C (l:List b5) (cs:List Int) (k:Nat):List g9:=match cs[k]?,l[k]? with
  | some c,some e=>bif c==0 then [e.Req] else []
  | _,_=>[]
def z7 (l:List b5) (cs:List Int):Nat→List g9
  | 0=>[]
  | k+1=>z7 l cs k++a5C l cs k
theorem a96 {l:List b5} {cs:List Int} {k:Nat} (h1:k<l.length) (h2:k<cs.length):a5C l cs k=bif cs[k]==0 then [l[k].Req] else []:=by
  unfold a5C
  rw [List.getElem?_eq_getElem h1,List.getElem?_eq_getElem h2]
theorem b4Q {l:List b5} {cs:List Int} (hc:cs.length=l.length) : ∀ k,k≤l.length→((z7 l cs k).length:Int)=cnt (cs.take k) 0
  | 0,_=>rfl
  | k+1,hk=>by
    have h1:k<cs.length:=by omega
    have ih:=b4Q hc k (by omega)
    unfold z7
    rw [List.take_succ_eq_append_getElem h1,c9e,a96 (show k<l.length by omega) h1,← ih]
    by_cases hq:cs[k]=0
    · simp [hq]
    · have hq':(cs[k]==0)=false:=by simpa using hq
      simp [hq,hq']
def o6 (l:List b5):List g9:=bif H4 l then z7 l (l9 l).2 l.length else []
theorem d5E {l:List g9} (h:l.length * 16≤140737488351232):b2t l=some l:=by
  unfold b2t n8
  cases l with
  | nil=>rfl
  | cons x l =>
    have h1:(((x::l).length:Int)==0)=false:=by simp; omega
    rw [h1,cond_false,if_pos (by constructor<;>omega),if_pos (by simp)]
theorem c2D {l:List b5} (h:v5 88 X0 l):a9y l=some (o6 l):=by
  unfold a9y o6
  rw [d3Z h,Option.bind_some]
  cases hok:H4 l
  · rfl
  have hf:n7 l:=h.fits (by decide)
  obtain ⟨hl,he⟩:=a1K hok
  obtain ⟨_,hlen,hc⟩:=X4 hl he l.length (Nat.le_refl _)
  rw [List.take_length] at hlen hc
  rw [Bool.not_true,cond_false,cond_true,d70 h hl he,Option.bind_some]
  have hsm : ∀ k,k≤l.length→(z7 l (l9 l).2 k).length≤40:=by
    intro k hk
    have h1:=b4Q hlen k hk
    have h2:=c0H ((l9 l).2.take k) 0
    rw [List.length_take] at h2
    omega
  have hloop:=V4 (body:=fun s:(List g9)×Int=>a8t l (l9 l) s.1 s.2) (fun k=>(z7 l (l9 l).2 k,(k:Int))) l.length (by
    intro k hk
    have hk2:k<(l9 l).2.length:=by omega
    have hs:=hsm k (by omega)
    have n1:((z7 l (l9 l).2 k).length+1) * 16≤140737488355328:=by omega
    show a8t l (l9 l) (z7 l (l9 l).2 k) (k:Int)=some (.nxt (z7 l (l9 l).2 k++a5C l (l9 l).2 k,((k+1:Nat):Int)))
    rw [a96 hk hk2]
    unfold a8t b5v
    rw [u5 _ k hk,p9 hk,p9 hk2,H6 hf hk]
    simp only [cond_true,Option.bind_some,o9 n1]
    cases (l9 l).2[k]==0
    · simp only [cond_false,Option.bind_some,b7.go,List.append_nil]
    · rfl)
  rw [show z7 l (l9 l).2 0=[] from rfl,show ((0:Nat):Int)=0 from rfl] at hloop
  rw [hloop,D6 (b:=z7 l (l9 l).2 l.length)]
  · simp only [Option.bind_some,b7.go]
    unfold b8Y
    rw [d5E (by have:=hsm l.length (Nat.le_refl _); omega)]
    rfl
  · unfold a8t
    rw [A5]; rfl
theorem a31 {ps:List m4} (h:ps.Pairwise fun p q=>p.Box≠q.Box) (b:Int):(ps.filter fun p=>p.Box==b).length≤1:=by
  have h2:=h.filter (fun p=>p.Box==b)
  cases hq:ps.filter fun p=>p.Box==b with
  | nil=>simp
  | cons x r =>
    cases r with
    | nil=>simp
    | cons y r =>
      rw [hq] at h2
      have hne:=(List.pairwise_cons.1 h2).1 y (by simp)
      have hx:x∈ps.filter fun p=>p.Box==b:=by rw [hq]; simp
      have hy:y∈ps.filter fun p=>p.Box==b:=by rw [hq]; simp
      have hx:=(List.mem_filter.1 hx).2
      have hy:=(List.mem_filter.1 hy).2
      simp only [beq_iff_eq] at hx hy
      omega
theorem b8d : ∀ {ps:List m4},(∀ p∈ps,a2d p)→ps.length=(ps.filter fun p=>p.Box==0).length+(ps.filter fun p=>p.Box==1).length+(ps.filter fun p=>p.Box==2).length+(ps.filter fun p=>p.Box==3).length
  | [],_=>rfl
  | p::ps,h=>by
    have ih:=b8d (ps:=ps) fun x hx=>h x (by simp [hx])
    have hp:=h p (by simp)
    have:p.Box=0∨p.Box=1∨p.Box=2∨p.Box=3:=by
      have:=hp.1
      have:=hp.2.1
      omega
    simp only [List.filter_cons,List.length_cons]
    rcases this with q | q | q | q<;>simp [q]<;>omega
theorem d3S {r:i6} (h:R9 r=true):r.Puts.length≤4:=by
  have h1:=(b1T.1 (d6b h))
  have h2:=b8d h1.1
  have a:=a31 h1.2 0
  have b:=a31 h1.2 1
  have c:=a31 h1.2 2
  have d:=a31 h1.2 3
  omega
theorem okEntries.s {l:List b5} (h:v5 88 E9 l):v5 88 X0 l:=h.imp fun _ x=>x.f
theorem a6W (c x:Bool):(bif c then some x else some false)=some (c&&x):=by cases c<;>rfl
theorem b2a (c x:Bool):(bif c then some false else some x)=some (!c&&x):=by cases c<;>rfl
theorem d3e (n lo hi:Int):j7 n lo hi=(!decide (n<lo) && !decide (n>hi)):=by
  unfold j7
  by_cases h1:n<lo<;>by_cases h2:n>hi<;>simp [h1,h2]<;>omega
theorem rng {α:Type} (n lo hi:Int) (X Y:α):(bif decide (n<lo) then Y else bif decide (n>hi) then Y else X)=bif j7 n lo hi then X else Y:=by
  rw [d3e]
  cases decide (n<lo)<;>cases decide (n>hi)<;>rfl
theorem b65 {α:Type} (n lo:Int) (X Y:α):(bif decide (n<lo) then Y else bif decide (n≥3) then Y else X)=bif j7 n lo 2 then X else Y:=by
  have e:decide (n≥3)=decide (n>2):=by
    by_cases h:n>2
    · rw [decide_eq_true h,decide_eq_true (by omega)]
    · rw [decide_eq_false h,decide_eq_false (by omega)]
  rw [← rng,e]
theorem a6t (a b:Int):(!decide (a>b))=decide (a≤b):=by
  by_cases h:a≤b
  · simp [h]
  · simp [h]; omega
theorem c9p {α:Type} (l:List α):decide ((l.length:Int)>0) = !((l.length:Int)==0):=by
  by_cases hp:l.length=0
  · rw [decide_eq_false (by omega),show ((l.length:Int)==0)=true from by rw [hp]; rfl]; rfl
  · rw [decide_eq_true (by omega),show ((l.length:Int)==0)=false from by rw [← Bool.not_eq_true,beq_iff_eq]; omega]; rfl
theorem b1l {α:Type} [BEq α] (a b:α):(!(a != b))=(a==b):=by simp [bne]
abbrev zE:b5:=⟨false,⟨0,0⟩,⟨[],[],0,0⟩⟩
def a1D (a b:b5):Bool:=(a.None==b.None)&&((([a.Req.Who,a.Req.Seq]:List Int)==[b.Req.Who,b.Req.Seq])&&a3A a.Run b.Run)
theorem b7d {e:b5} (h:E9 e):a3m e=some (a1D e zE):=by
  unfold a3m a1D
  simp only [b6o h.f.2,Option.bind_some,a6W]
  cases e.None<;>rfl
theorem a7N (n:Int):a0W n=some (j7 n 1 3000):=a16 n 1 3000
def a4F (v:d7):Bool:=bif v.Bal==0 then a1D v.Entry zE else j7 v.Bal 1 3000&&q9 v.Entry
theorem d5Y {v:d7} (h:X1 v):b2U v=some (a4F v):=by
  unfold b2U a4F a1D
  simp only [b6o h.2.f.2,a7N,a2q h.2.f,Option.bind_some,a6W]
  cases v.Bal==0<;>cases v.Entry.None<;>rfl
def a1n (l:List d7):Bool:=decide (l.length≤40)&&l.all a4F
theorem b6M {l:List d7} (h:v5 96 X1 l):a3S l=some (a1n l):=by
  unfold a3S a1n
  rw [show (40:Int)=((40:Nat):Int) from rfl,b0y,a1a l (h.fits (by decide)) a4F false ()]
  · cases decide (l.length≤40)
    · rfl
    · cases l.all a4F<;>rfl
  · intro k hk
    unfold b1v
    rw [u5 _ k hk,p9 hk]
    simp only [cond_true,Option.bind_some,d5Y (h.2 _ (List.getElem_mem hk))]
    cases a4F l[k]<;>rfl
  · unfold b1v
    rw [A5]; rfl
def a3g (a:s6):Bool:=j7 a.Promised 0 3000&&(a1n a.Votes&&a.Votes.all fun v => !decide (v.Bal>a.Promised))
theorem d4x {a:s6} (h:c1B a):b2M a=some (a3g a):=by
  unfold b2M a3g
  rw [rng,b6M h.2,a1a a.Votes (h.2.fits (by decide)) (fun v => !decide (v.Bal>a.Promised)) false ()]
  · simp only [Option.bind_some]
    cases j7 a.Promised 0 3000<;>cases a1n a.Votes<;>cases a.Votes.all (fun v => !decide (v.Bal>a.Promised))<;>rfl
  · intro k hk
    unfold b33
    rw [u5 _ k hk,p9 hk]
    simp only [cond_true,Option.bind_some]
    cases decide (a.Votes[k].Bal>a.Promised)<;>rfl
  · unfold b33
    rw [A5]; rfl
def a12 (b:Int):Int:=bif j7 b 1 3000 then Int.tmod b 3 else -1
theorem d8u (b:Int):a6O b=some (a12 b):=by
  unfold a6O a12
  rw [a7N,Option.bind_some]
  cases j7 b 1 3000<;>rfl
def b17 (l:List Bool) (id:Int):Bool:=(idx l id).getD false
def a5V (l:List Bool) (id:Int):Bool:=((l.length:Int)==3)&&b17 l id
theorem d1S {l:List Bool} {id:Int} (h:j7 id 0 2=true) (hl:((l.length:Int)==3)=true):idx l id=some (b17 l id):=by
  unfold j7 at h
  simp only [decide_eq_true_eq] at h
  simp only [beq_iff_eq] at hl
  unfold b17 idx
  rw [if_pos h.1,List.getElem?_eq_getElem (by omega)]
  rfl
theorem d5X {l:List Bool} {id:Int} (h:j7 id 0 2=true) (x:Bool):(bif ((l.length:Int)==3) then (idx l id).bind fun y=>some (y&&x) else some false)=some (a5V l id&&x):=by
  unfold a5V
  cases hl:((l.length:Int)==3)
  · rfl
  · rw [d1S h hl]
    rfl
def a4J (n:a6):Bool:=a1D n.Cur zE&&((n.Votes.length:Int)==0)
def a5D (n:a6):Bool :=
  bif n.Phase==0 then (n.Bal==0)&&(((n.From.length:Int)==0)&&(((n.Best.length:Int)==0)&&a4J n)) else
  (a12 n.Bal==n.Id)&&(decide (n.Bal≤n.Acc.Promised)&&(a1n n.Best &&
    (bif n.Phase==1 then a5V n.From n.Id&&a4J n else
     bif n.Phase==2 then ((n.From.length:Int)==0)&&a4J n else
     bif n.Phase==3 then ((n.From.length:Int)==0)&&(q9 n.Cur&&(a5V n.Votes n.Id&&decide ((n.Known.length:Int)<40))) else false)))
theorem c79 {n:a6} (h:j7 n.Id 0 2=true) (ho:(a12 n.Bal==n.Id)=true):j7 n.Bal 1 3000=true:=by
  cases hb:j7 n.Bal 1 3000
  · unfold a12 at ho
    rw [hb] at ho
    unfold j7 at h
    simp only [decide_eq_true_eq,cond_false,beq_iff_eq] at h ho
    omega
  · rfl
theorem d0C {n:a6} (h:Y1 n) (hId:j7 n.Id 0 2=true):b15 n=some (a5D n):=by
  unfold b15 a5D
  simp only [d8u,a7N,b7d h.2.2.2.2.2.2.2.2.1,b6M h.2.2.2.2.2.2.2.1,a2q h.2.2.2.2.2.2.2.2.1.f,Option.bind_some,a6W,b2a,d5X hId,b1l,a6t,Bool.not_not]
  have hb:=c79 (n:=n) hId
  cases h0:n.Phase==0
  · cases h1:n.Phase==1
    · cases h2:n.Phase==2
      · cases h3:n.Phase==3
        · simp only [cond_false,Bool.and_false]
        · simp only [cond_false,cond_true,b2a,b1l,a6t,Bool.not_not]
          cases ho:a12 n.Bal==n.Id
          · simp
          · rw [hb ho]
            cases decide (n.Bal≤n.Acc.Promised)<;>cases a1n n.Best<;>cases ((n.From.length:Int)==0)<;>rfl
      · simp only [cond_false,cond_true,b2a,b1l,a6t,Bool.not_not]
        cases ho:a12 n.Bal==n.Id
        · simp
        · rw [hb ho]
          unfold a4J
          cases decide (n.Bal≤n.Acc.Promised)<;>cases a1n n.Best<;>cases ((n.From.length:Int)==0)<;>rfl
    · simp only [cond_false,cond_true,b2a,b1l,a6t,Bool.not_not]
      cases ho:a12 n.Bal==n.Id
      · simp
      · rw [hb ho]
        unfold a4J
        cases decide (n.Bal≤n.Acc.Promised)<;>cases a1n n.Best<;>cases a5V n.From n.Id<;>rfl
  · unfold a4J
    simp only [cond_true]
def a5h (n:a6):Bool :=
  bif n.Busy then L0 n.Prog&&(q9 n.Want&&(!n.Want.None&&(([n.Want.Req.Who,n.Want.Req.Seq]:List Int)==[n.Id,n.Seq]))) else ((n.Prog.length:Int)==0)&&a1D n.Want zE
theorem d2C {n:a6} (h:Y1 n):b3z n=some (a5h n):=by
  unfold b3z a5h
  have hw:=h.2.2.2.2.2.2.2.2.2.2.2.1
  simp only [b7d hw,b1c (h.2.2.2.2.2.2.2.2.2.2.1.fits (by decide)),a2q hw.f,Option.bind_some,a6W]
  cases n.Busy<;>rfl
def b9h (l:List b5):Bool:=l.all fun e=>q9 e && !e.None
def G1 (n:a6):Bool:=j7 n.Id 0 2&&(a3g n.Acc&&(H4 n.Known&&(j7 n.Seq 0 1000&&(decide ((n.Queue.length:Int)≤4)&&(a5D n&&(a5h n&&b9h n.Queue))))))
theorem a8h {n:a6} (h:Y1 n):a3H n=some (G1 n):=by
  unfold a3H G1
  rw [b65]
  cases hId:j7 n.Id 0 2
  · rfl
  · rw [rng,d4x h.2.1,c4O (okEntries.s h.2.2.1),d0C h hId,d2C h,a1a n.Queue (h.2.2.2.2.2.2.2.2.2.2.2.2.fits (by decide)) (fun e=>q9 e && !e.None) false ()]
    · unfold b9h b5Z
      rw [← a6t]
      simp only [Option.bind_some,cond_true]
      cases a3g n.Acc<;>cases H4 n.Known<;>cases j7 n.Seq 0 1000<;>cases decide ((n.Queue.length:Int)>4)<;>cases a5D n<;>cases a5h n<;>cases n.Queue.all (fun e=>q9 e && !e.None)<;>rfl
    · intro k hk
      unfold b4E
      rw [u5 _ k hk,p9 hk]
      simp only [cond_true,Option.bind_some,a2q ((h.2.2.2.2.2.2.2.2.2.2.2.2).2 _ (List.getElem_mem hk)).f]
      cases q9 n.Queue[k]<;>cases n.Queue[k].None<;>rfl
    · unfold b4E
      rw [A5]; rfl
def a50 (m:a8):Bool :=
  let bal:=j7 m.Bal 1 3000
  let non:=a1D m.Entry zE
  let nv:=(m.Votes.length:Int)==0
  bif m.Kind==1 then bal&&(non&&nv) else
  bif m.Kind==4 then bal&&(non&&nv) else
  bif m.Kind==2 then bal&&(non&&(a1n m.Votes&&decide (i7 (m.Slot+(m.Votes.length:Int))≤40))) else
  bif m.Kind==3 then bal&&(decide (m.Slot<40)&&(q9 m.Entry&&nv)) else
  bif m.Kind==5 then (m.Bal==0)&&(decide (m.Slot<40)&&(q9 m.Entry&&nv)) else
  bif m.Kind==6 then bal&&((m.Slot==0)&&(non&&nv)) else
  bif m.Kind==7 then (m.Bal==0)&&((m.Slot==0)&&(q9 m.Entry&&(!m.Entry.None&&nv))) else
  bif m.Kind==8 then (m.Bal==0)&&(non&&nv) else false
def a1O (m:a8):Bool:=j7 m.From 0 2&&(j7 m.To 0 2&&(!(m.From==m.To)&&(j7 m.Slot 0 40&&a50 m)))
end Go.Proofs.YtcnjppbopdpnjaaGreat
