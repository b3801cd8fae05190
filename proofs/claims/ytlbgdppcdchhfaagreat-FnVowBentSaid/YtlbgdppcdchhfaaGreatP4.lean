/- Abstract values and states of the program, functions of the program and what their calls come to, and what follows from it: part 4 of the text that the law leans on; long names are written short. -/
import Derived.Test.YtlbgdppcdchhfaaGreatP3
set_option linter.unusedVariables false
set_option linter.unusedSimpArgs false
set_option linter.unnecessarySimpa false
namespace Go.Proofs.YtlbgdppcdchhfaaGreat
open Go
noncomputable def d8i (i:Int) (r_6:n8) (a7a:List j4) (a59:List l9) (a7P:List t7) (a6M:List n4) (a7s:List n9):St:=⟨(.ptr 0 0 0::(bs 2 (.ptr 1 0 0::(.own 6 0 3 0 a7s.length::(vi i::(bs 125 [])))))),[some [.var 64 [j9 1 N4 r_6.b,vi r_6.p]],some [.var 28 [.own 2 0 27 0 a7a.length,.own 3 0 13 0 a59.length,.own 4 0 3 0 a7P.length,.own 5 0 5 0 a6M.length]],some [D5 50 27 t5 a7a],some [m5 66 13 z5 a59],some [m5 69 3 E5 a7P],some [m5 73 5 B9 a6M],some [m5 104 3 O9 a7s]]⟩
noncomputable def b7b (r_6:n8) (a7a:List j4) (a59:List l9) (a7P:List t7) (a6M:List n4) (a7s:List n9):Option (j3 ((List n9)×n8) (n8×(List j4)×(List l9)×(List t7)×(List n4)×List n9) (n8×(List j4)×(List l9)×(List t7)×(List n4)×List n9)) :=
 ((H5 r_6 (a59.length:Int)).bind fun a6e=>((a7o a6e.2 [0,0,a6e.1]).bind fun a9y=>((a20 (l7.mk a7a a59 a7P a6M) a7s (n9.mk 2 a9y.1 [])).bind fun b1M=>some (j3.nxt (a9y.2,b1M.1.Nodes,b1M.1.Net,b1M.1.Asked,b1M.1.Told,b1M.2)))))
theorem e8B (i:Int) (res:V) (outs:s8) (x2:j8 ((List n9)×n8) (n8×(List j4)×(List l9)×(List t7)×(List n4)×List n9)) (hb2:HB cx F5.X res outs x2 c7y (fun s=>c8S i s.1 s.2.1 s.2.2.1 s.2.2.2.1 s.2.2.2.2.1 s.2.2.2.2.2)) (hr2:HR res outs x2 F5.R F5.O) (st2:j3 ((List n9)×n8) (n8×(List j4)×(List l9)×(List t7)×(List n4)×List n9) (n8×(List j4)×(List l9)×(List t7)×(List n4)×List n9)) (hc2:s5 x2 (fun s:n8×(List j4)×(List l9)×(List t7)×(List n4)×List n9=>j5 cx F5.X res outs b6O (b8T i s.1 s.2.1 s.2.2.1 s.2.2.2.1 s.2.2.2.2.1 s.2.2.2.2.2)) st2) (r_6:n8) (a7a:List j4) (a59:List l9) (a7P:List t7) (a6M:List n4) (a7s:List n9) (h:b7b r_6 a7a a59 a7P a6M a7s=some st2):j5 cx F5.X res outs d0r (d8i i r_6 a7a a59 a7P a6M a7s) :=
 P0<|rg<|m3 H1 I5 7 h fun a6e h=>tl (8,{ a:=.ck [] })<|m3 a4Q b3H 9 h fun a9y h=>om (3=[0,0,a6e.1].length) (by simp)<|m3 a1Z a4o 11 h fun b1M h=>q9 a7a a59 a7P a6M<|o6 a7s<|(w9 h hc2 fun hI=>sg [] [0,3,4,5] [(1,0),(18,0),(18,1),(18,2),(18,3),(18,4)] hI)
noncomputable def b2S (r_3:n8) (a0J:List j4) (Z6:List l9) (a0O:List t7) (a0w:List n4) (N0:List n9):Option (j3 ((List n9)×n8) (n8×(List j4)×(List l9)×(List t7)×(List n4)×List n9) (n8×(List j4)×(List l9)×(List t7)×(List n4)×List n9)) :=
 (bif decide ((Z6.length:Int)>0) then ((H5 r_3 9).bind fun a53=>(bif decide (a53.1>0) then (bif decide ((N0.length:Int)<200) then ((((H5 a53.2 8).bind fun a7Y=>(bif (a7Y.1==0) then ((H5 a7Y.2 (Z6.length:Int)).bind fun a65=>((a20 (l7.mk a0J Z6 a0O a0w) N0 (n9.mk 4 a65.1 [])).bind fun a9L=>some (j8.brk (a65.2,a9L.1.Nodes,a9L.1.Net,a9L.1.Asked,a9L.1.Told,a9L.2)))) else some (j8.brk (a7Y.2,a0J,Z6,a0O,a0w,N0)))):Option (j8 (j3 ((List n9)×n8) (n8×(List j4)×(List l9)×(List t7)×(List n4)×List n9) (n8×(List j4)×(List l9)×(List t7)×(List n4)×List n9)) (n8×(List j4)×(List l9)×(List t7)×(List n4)×List n9))).bind fun x=>x.go some fun j=>b7b j.1 j.2.1 j.2.2.1 j.2.2.2.1 j.2.2.2.2.1 j.2.2.2.2.2) else some (j3.brk (a53.2,a0J,Z6,a0O,a0w,N0))) else some (j3.brk (a53.2,a0J,Z6,a0O,a0w,N0)))) else some (j3.brk (r_3,a0J,Z6,a0O,a0w,N0)))
set_option maxRecDepth 20000 in
theorem e2I (i:Int) (res:V) (outs:s8) (x2:j8 ((List n9)×n8) (n8×(List j4)×(List l9)×(List t7)×(List n4)×List n9)) (hb2:HB cx F5.X res outs x2 c7y (fun s=>c8S i s.1 s.2.1 s.2.2.1 s.2.2.2.1 s.2.2.2.2.1 s.2.2.2.2.2)) (hr2:HR res outs x2 F5.R F5.O) (st2:j3 ((List n9)×n8) (n8×(List j4)×(List l9)×(List t7)×(List n4)×List n9) (n8×(List j4)×(List l9)×(List t7)×(List n4)×List n9)) (hc2:s5 x2 (fun s:n8×(List j4)×(List l9)×(List t7)×(List n4)×List n9=>j5 cx F5.X res outs b6O (b8T i s.1 s.2.1 s.2.2.1 s.2.2.2.1 s.2.2.2.2.1 s.2.2.2.2.2)) st2) (r_3:n8) (a0J:List j4) (Z6:List l9) (a0O:List t7) (a0w:List n4) (N0:List n9) (h:b2S r_3 a0J Z6 a0O a0w N0=some st2):j5 cx F5.X res outs b6O (b8T i r_3 a0J Z6 a0O a0w N0) :=
 P0<|rg<|i9 4 h (fun h=>m3 H1 I5 6 h fun a53 h=>i9 9 h (fun h=>i9 13 h (fun h=>E1 (I:=fun j:n8×(List j4)×(List l9)×(List t7)×(List n4)×List n9=>j5 cx F5.X res outs d0r (d8i i j.1 j.2.1 j.2.2.1 j.2.2.2.1 j.2.2.2.2.1 j.2.2.2.2.2)) h (fun j h=>e8B i res outs x2 hb2 hr2 st2 hc2 j.1 j.2.1 j.2.2.1 j.2.2.2.1 j.2.2.2.2.1 j.2.2.2.2.2 h) (fun x3 h hc3=>rg<|m3 H1 I5 1 h fun a7Y h=>i9 2 h (fun h=>rg<|m3 H1 I5 6 h fun a65 h=>m3 a1Z a4o 8 h fun a9L h=>q9 a0J Z6 a0O a0w<|o6 N0<|(s6 h hc3 fun hI=>sg [] [0,3,4,5] [(1,0),(32,0),(32,1),(32,2),(32,3),(32,4)] hI)) (fun h=>(s6 h hc3 fun hI=>sg [] [0,3,4,5] [(1,0),(2,0),(3,0),(4,0),(5,0),(6,0)] hI)))) (fun h=>(v6 h hc2 fun e=>sg [] [0,3,4,5] [(1,0),(2,0),(3,0),(4,0),(5,0),(6,0)] (hb2 _ e)))) (fun h=>(v6 h hc2 fun e=>sg [] [0,3,4,5] [(1,0),(2,0),(3,0),(4,0),(5,0),(6,0)] (hb2 _ e)))) (fun h=>(v6 h hc2 fun e=>sg [] [0,3,4,5] [(1,0),(2,0),(3,0),(4,0),(5,0),(6,0)] (hb2 _ e)))
noncomputable def b1V (r_2:n8) (B0:List j4) (C8:List l9) (I1:List t7) (H9:List n4) (out1:List n9) (i:Int):Option (j3 ((List n9)×n8) (n8×(List j4)×(List l9)×(List t7)×(List n4)×(List n9)×Int) (n8×List n9)) :=
 (bif decide (i>0) then ((H5 r_2 3).bind fun a1L=>((a5X a1L.2).bind fun a6s=>((a20 (l7.mk B0 C8 I1 H9) out1 (n9.mk 1 a1L.1 a6s.1)).bind fun a3v=>((o9 (fun s:n8×(List j4)×(List l9)×(List t7)×(List n4)×List n9=>b2S s.1 s.2.1 s.2.2.1 s.2.2.2.1 s.2.2.2.2.1 s.2.2.2.2.2) (a6s.2,a3v.1.Nodes,a3v.1.Net,a3v.1.Asked,a3v.1.Told,a3v.2)).bind fun x=>x.go (fun r=>some (j3.ret r)) fun s=>c3m i s.1 s.2.1 s.2.2.1 s.2.2.2.1 s.2.2.2.2.1 s.2.2.2.2.2)))) else some (j3.brk (r_2,out1)))
set_option maxRecDepth 20000 in
theorem e9M (res:V) (outs:s8) (x1:j8 ((List n9)×n8) (n8×List n9)) (hb1:HB cx F5.X res outs x1 b6q (fun s=>c0s s.1 s.2)) (hr1:HR res outs x1 F5.R F5.O) (st1:j3 ((List n9)×n8) (n8×(List j4)×(List l9)×(List t7)×(List n4)×(List n9)×Int) (n8×List n9)) (hc1:s5 x1 (fun s:n8×(List j4)×(List l9)×(List t7)×(List n4)×(List n9)×Int=>j5 cx F5.X res outs b3w (b4g s.1 s.2.1 s.2.2.1 s.2.2.2.1 s.2.2.2.2.1 s.2.2.2.2.2.1 s.2.2.2.2.2.2)) st1) (r_2:n8) (B0:List j4) (C8:List l9) (I1:List t7) (H9:List n4) (out1:List n9) (i:Int) (h:b1V r_2 B0 C8 I1 H9 out1 i=some st1):j5 cx F5.X res outs b3w (b4g r_2 B0 C8 I1 H9 out1 i) :=
 P0<|rg<|i9 1 h (fun h=>rg<|m3 H1 I5 3 h fun a1L h=>m3 V1 b46 5 h fun a6s h=>m3 a1Z a4o 7 h fun a3v h=>q9 B0 C8 I1 H9<|J3 out1 a6s.1<|x7 h fun x hl hr hb=>sg [] [0,3,4,5] [(1,0),(16,0),(16,1),(16,2),(16,3),(16,4)] (x9 (I:=fun s:n8×(List j4)×(List l9)×(List t7)×(List n4)×List n9=>j5 cx F5.X res outs b6O (b8T i s.1 s.2.1 s.2.2.1 s.2.2.2.1 s.2.2.2.2.1 s.2.2.2.2.2)) hl fun s st h hc=>e2I i _ _ x (fun s e=>e6d i res outs x1 hb1 hr1 st1 hc1 s.1 s.2.1 s.2.2.1 s.2.2.2.1 s.2.2.2.2.1 s.2.2.2.2.2 (hb s e)) (fun v e=>(hr1 _ (a1v (hr v e) hc1))) st hc s.1 s.2.1 s.2.2.1 s.2.2.2.1 s.2.2.2.2.1 s.2.2.2.2.2 h)) (fun h=>(v6 h hc1 fun e=>sg [] [4] [(6,0)] (hb1 _ e)))
noncomputable def c0K (r_1:n8) (Nodes:List j4) (Net:List l9) (Asked:List t7) (Told:List n4) (out:List n9):Option ((List n9)×n8) :=
 ((H5 r_1 3).bind fun a1N=>((o9 (fun s:n8×(List j4)×(List l9)×(List t7)×(List n4)×(List n9)×Int=>b1V s.1 s.2.1 s.2.2.1 s.2.2.2.1 s.2.2.2.2.1 s.2.2.2.2.2.1 s.2.2.2.2.2.2) (a1N.2,Nodes,Net,Asked,Told,out,m9 (3+a1N.1))).bind fun x=>x.go (fun r=>some r) fun s=>d1H s.1 s.2))
theorem e0G (r:(List n9)×n8) (r_1:n8) (Nodes:List j4) (Net:List l9) (Asked:List t7) (Told:List n4) (out:List n9) (h:c0K r_1 Nodes Net Asked Told out=some r):j5 cx F5.X (F5.R r) (F5.O r) c83 (d2O r_1 Nodes Net Asked Told out) :=
 P0<|rg<|m3 H1 I5 1 h fun a1N h=>x7 h fun x hl hr hb=>sg [] [0,3,4,5] [(1,0),(2,0),(3,0),(4,0),(5,0),(6,0)] (x9 (I:=fun s:n8×(List j4)×(List l9)×(List t7)×(List n4)×(List n9)×Int=>j5 cx F5.X (F5.R r) (F5.O r) b3w (b4g s.1 s.2.1 s.2.2.1 s.2.2.2.1 s.2.2.2.2.1 s.2.2.2.2.2.1 s.2.2.2.2.2.2)) hl fun s st h hc=>e9M _ _ x (fun s e=>e8h r s.1 s.2 (hb s e)) (fun v e=>⟨congrArg F5.R (Option.some.inj (hr v e)).symm,congrArg F5.O (Option.some.inj (hr v e)).symm⟩) st hc s.1 s.2.1 s.2.2.1 s.2.2.2.1 s.2.2.2.2.1 s.2.2.2.2.2.1 s.2.2.2.2.2.2 h)
noncomputable def b58 (r_:n8):Option ((List n9)×n8) :=
 ((b3B).bind fun a1l=>((H5 r_ 3).bind fun pick=>((a20 a1l [] (n9.mk 5 pick.1 [])).bind fun P8=>((H5 pick.2 3).bind fun E0=>(bif decide (E0.1>0) then ((a7o E0.2 [10,30,60,90]).bind fun num=>((b6f num.2 P8.1 num.1).bind fun a81=>(u5 ((P8.2.length+a81.1.length) * 40≤140737488355328) (some (P8.2++a81.1,a81.2))))) else ((((H5 E0.2 5).bind fun a7I=>(bif (a7I.1==0) then ((b5R a7I.2 P8.1 P8.2).bind fun a9G=>some (j8.brk (a9G.2.2,a9G.1.Nodes,a9G.1.Net,a9G.1.Asked,a9G.1.Told,a9G.2.1))) else some (j8.brk (a7I.2,P8.1.Nodes,P8.1.Net,P8.1.Asked,P8.1.Told,P8.2)))):Option (j8 ((List n9)×n8) (n8×(List j4)×(List l9)×(List t7)×(List n4)×List n9))).bind fun x=>x.go some fun j=>c0K j.1 j.2.1 j.2.2.1 j.2.2.2.1 j.2.2.2.2.1 j.2.2.2.2.2))))))
set_option maxRecDepth 20000 in
theorem e4L {r_:n8} (r:(List n9)×n8) (h:b58 r_=some r):o7 cx.P 34 [.optr 64 (a03 r_)] (F5.R r) (F5.O r) :=
 q8 F5.X F5.c F5.h (fun z=>p7<|m3 a0c d8B 0 h fun a1l h=>m3 H1 I5 2 h fun pick h=>m3 a1Z a4o 4 h fun P8 h=>q9 a1l.Nodes a1l.Net a1l.Asked a1l.Told<|rg<|m3 H1 I5 1 h fun E0 h=>i9 2 h (fun h=>rg<|tl (4,{ a:=.ck [] })<|m3 a4Q b3H 5 h fun num h=>om (4=[10,30,60,90].length) (by simp)<|m3 R0 e1d 6 h fun a81 h=>q9 P8.1.Nodes P8.1.Net P8.1.Asked P8.1.Told<|w8 h fun e1 h=>apL 7 23 104 3 40 O9 P8.2 a81.1 e1<|J3 a81.1 (P8.2++a81.1)<|fe z h) (fun h=>E1 (I:=fun j:n8×(List j4)×(List l9)×(List t7)×(List n4)×List n9=>j5 cx F5.X (F5.R r) (F5.O r) c83 (d2O j.1 j.2.1 j.2.2.1 j.2.2.2.1 j.2.2.2.2.1 j.2.2.2.2.2)) h (fun j h=>e0G r j.1 j.2.1 j.2.2.1 j.2.2.2.1 j.2.2.2.2.1 j.2.2.2.2.2 h) (fun x1 h hc1=>rg<|m3 H1 I5 1 h fun a7I h=>i9 2 h (fun h=>rg<|m3 J5 e7V 3 h fun a9G h=>q9 P8.1.Nodes P8.1.Net P8.1.Asked P8.1.Told<|o6 P8.2<|(s6 h hc1 fun hI=>sg [] [0,3,4] [(10,0),(22,0),(22,1),(22,2),(22,3),(22,4)] hI)) (fun h=>(s6 h hc1 fun hI=>sg [] [0,3,4] [(10,0),(6,0),(6,1),(6,2),(6,3),(6,4)] hI)))))
noncomputable def X7:FS (l7):=⟨32,Tryz.f32,[.val K4 [some 1000050,some 66,some 69,some 73]],[none,none],[.val K4 [],.val [some 3] []],fun r=>.agg (a08 r),fun _=>[none,none],Tryz.func32⟩
noncomputable def d5d:List Item:=X7.k 5 [false,false]
noncomputable def d03 (B0:List j4) (C8:List l9) (I1:List t7) (H9:List n4):St:=⟨(bs 2 (.ptr 1 0 0::(bs 1 (.ptr 6 0 0::(bs 25 []))))),[some [],some [.var 28 [.own 2 0 27 0 B0.length,.own 3 0 13 0 C8.length,.own 4 0 3 0 I1.length,.own 5 0 5 0 H9.length]],some [D5 50 27 t5 B0],some [m5 66 13 z5 C8],some [m5 69 3 E5 I1],some [m5 73 5 B9 H9],some [.var 28 [.nil,.nil,.nil,.nil]]]⟩
noncomputable def d1G (B0:List j4) (C8:List l9) (I1:List t7) (H9:List n4):Option l7 :=
 some (l7.mk B0 C8 I1 H9)
theorem e33 (r:l7) (B0:List j4) (C8:List l9) (I1:List t7) (H9:List n4) (h:d1G B0 C8 I1 H9=some r):j5 cx X7.X (X7.R r) (X7.O r) d5d (d03 B0 C8 I1 H9) :=
 P0<|rg<|q9 B0 C8 I1 H9<|fe X7.h h
noncomputable def c2g:List Item:=X7.k 4 [false]
noncomputable def c8g (a1V:List n9) (Nodes:List j4) (Net:List l9) (Asked:List t7) (Told:List n4) (i:Int):St:=⟨(bs 1 (j9 3 O9 a1V::(.ptr 1 0 0::(bs 1 (.ptr 6 0 0::(vi i::(bs 24 []))))))),[some [],some [.var 28 [.own 2 0 27 0 Nodes.length,.own 3 0 13 0 Net.length,.own 4 0 3 0 Asked.length,.own 5 0 5 0 Told.length]],some [D5 50 27 t5 Nodes],some [m5 66 13 z5 Net],some [m5 69 3 E5 Asked],some [m5 73 5 B9 Told],some [.var 28 [.nil,.nil,.nil,.nil]]]⟩
noncomputable def a5P (a1V:List n9) (Nodes:List j4) (Net:List l9) (Asked:List t7) (Told:List n4) (i:Int):Option (j3 l7 ((List j4)×(List l9)×(List t7)×(List n4)×Int) ((List j4)×(List l9)×(List t7)×List n4)) :=
 (bif decide (i<(a1V.length:Int)) then ((idx a1V i).bind fun d5o=>((a9O (l7.mk Nodes Net Asked Told) d5o).bind fun a1k=>some (j3.nxt (a1k.Nodes,a1k.Net,a1k.Asked,a1k.Told,m9 (i+1))))) else some (j3.brk (Nodes,Net,Asked,Told)))
theorem e4r (a1V:List n9) (res:V) (outs:s8) (x1:j8 l7 ((List j4)×(List l9)×(List t7)×List n4)) (hb1:HB cx X7.X res outs x1 d5d (fun s=>d03 s.1 s.2.1 s.2.2.1 s.2.2.2)) (hr1:HR res outs x1 X7.R X7.O) (st1:j3 l7 ((List j4)×(List l9)×(List t7)×(List n4)×Int) ((List j4)×(List l9)×(List t7)×List n4)) (hc1:s5 x1 (fun s:(List j4)×(List l9)×(List t7)×(List n4)×Int=>j5 cx X7.X res outs c2g (c8g a1V s.1 s.2.1 s.2.2.1 s.2.2.2.1 s.2.2.2.2)) st1) (Nodes:List j4) (Net:List l9) (Asked:List t7) (Told:List n4) (i:Int) (h:a5P a1V Nodes Net Asked Told i=some st1):j5 cx X7.X res outs c2g (c8g a1V Nodes Net Asked Told i) :=
 P0<|rg<|i9 3 h (fun h=>rg<|u0 O9 3 h fun d5o f4V h=>m3 a3i c4Q 5 h fun a1k h=>q9 Nodes Net Asked Told<|rg<|(w9 h hc1 fun hI=>sg [] [1,2,4,5] [(1,0),(16,0),(16,1),(16,2),(16,3),(6,0)] hI)) (fun h=>(v6 h hc1 fun e=>sg [] [2,4] [(1,0),(2,0),(3,0),(4,0),(5,0),(6,0)] (hb1 _ e)))
noncomputable def b5N (w:l7) (a1V:List n9):Option l7 :=
 ((a33 w).bind fun A3=>(bif (!A3) then some (l7.mk [] [] [] []) else (bif decide ((a1V.length:Int)>400) then some (l7.mk [] [] [] []) else ((b4t w).bind fun a1W=>((o9 (fun s:(List j4)×(List l9)×(List t7)×(List n4)×Int=>a5P a1V s.1 s.2.1 s.2.2.1 s.2.2.2.1 s.2.2.2.2) (a1W.Nodes,a1W.Net,a1W.Asked,a1W.Told,0)).bind fun x=>x.go (fun r=>some r) fun s=>d1G s.1 s.2.1 s.2.2.1 s.2.2.2)))))
theorem e7k {w:l7} {a1V:List n9} (r:l7) (h:b5N w a1V=some r):o7 cx.P 32 [.agg (T8 w),j9 3 O9 a1V] (X7.R r) (X7.O r) :=
 q8 X7.X X7.c X7.h (fun z=>p7<|m3 A9 a4V 1 h fun A3 h=>i9 3 h (fun h=>rg<|fe z h) (fun h=>i9 7 h (fun h=>rg<|fe z h) (fun h=>rg<|m3 F6 d7T 1 h fun a1W h=>rg<|x7 h fun x hl hr hb=>sg [] [1,2,4,5] [(1,0),(12,0),(12,1),(12,2),(12,3),(2,0)] (x9 (I:=fun s:(List j4)×(List l9)×(List t7)×(List n4)×Int=>j5 cx X7.X (X7.R r) (X7.O r) c2g (c8g a1V s.1 s.2.1 s.2.2.1 s.2.2.2.1 s.2.2.2.2)) hl fun s st h hc=>e4r a1V _ _ x (fun s e=>e33 r s.1 s.2.1 s.2.2.1 s.2.2.2 (hb s e)) (fun v e=>⟨congrArg X7.R (Option.some.inj (hr v e)).symm,congrArg X7.O (Option.some.inj (hr v e)).symm⟩) st hc s.1 s.2.1 s.2.2.1 s.2.2.2.1 s.2.2.2.2 h))))
noncomputable def a23:FS (l7×n8):=⟨15,Tryz.f15,[.val K4 [some 1000050,some 66,some 69,some 73]],[some (0,.ptr [some 1,none] [])],[.ptr [some 1,none] []],fun r=>.agg (a08 r.1),fun r=>[some (.optr 64 (a03 r.2))],Tryz.func15⟩
noncomputable def d5E:List Item:=a23.k 7 [true,true]
noncomputable def d0o (x8:l7) (E0:Int×n8) (Nodes:List j4):St:=⟨(bs 2 (.ptr 1 0 0::(.ptr 2 0 0::(bs 94 [])))),[some [.var 64 [j9 1 N4 E0.2.b,vi E0.2.p]],some [.var 28 [.nil,.nil,.nil,.nil]],some [.var 28 [.own 3 0 27 0 Nodes.length,.own 4 0 13 0 x8.Net.length,.own 5 0 3 0 x8.Asked.length,.own 6 0 5 0 x8.Told.length]],some [D5 50 27 t5 Nodes],some [m5 66 13 z5 x8.Net],some [m5 69 3 E5 x8.Asked],some [m5 73 5 B9 x8.Told]]⟩
noncomputable def c1I (x8:l7) (E0:Int×n8) (Nodes:List j4):Option (l7×n8) :=
 some ((l7.mk Nodes x8.Net x8.Asked x8.Told),E0.2)
theorem e7q (x8:l7) (E0:Int×n8) (r:l7×n8) (Nodes:List j4) (h:c1I x8 E0 Nodes=some r):j5 cx a23.X (a23.R r) (a23.O r) d5E (d0o x8 E0 Nodes) :=
 P0<|rg<|q9 Nodes x8.Net x8.Asked x8.Told<|fe a23.h h
noncomputable def a1j (j7:j4):List V:=([vi j7.Id,vi j7.Acc.d9,p6 53 8 t0 j7.Acc.a0,.own 20 0 7 0 j7.a6.length]++b7n j7)
noncomputable def e6S (j7:j4):List V:=([vi j7.Id,vi j7.Acc.d9,p6 53 8 t0 j7.Acc.a0,p6 47 7 p8 (j7.a6.set (0:Int).toNat (l8.mk true (n5.mk 0 0) (m8.mk [] [] 0 0)))]++b7n j7)
noncomputable def d6z (j7:j4):List V:=(L6 j7)
noncomputable def a2F (o8:j4):List V:=([vi o8.Id,vi o8.Acc.d9,.own 23 0 8 0 o8.Acc.a0.length]++a5C o8)
noncomputable def e0j (o8:j4) (A5:m6):List V:=([vi o8.Id,vi o8.Acc.d9,p6 53 8 t0 (o8.Acc.a0.set (0:Int).toNat (m6.mk A5.a7 (l8.mk (decide (A5.a7>0)) (n5.mk 0 0) (m8.mk [] [] 0 0))))]++a5C o8)
noncomputable def e0L (o8:j4):List V:=(L6 o8)
noncomputable def e1T (B4:j4):List V:=([vi B4.Id,vi B4.Acc.d9,p6 53 8 t0 []]++a5C B4)
noncomputable def c0B (u7:j4):List V:=([vi u7.Id,vi u7.Acc.d9,p6 53 8 t0 u7.Acc.a0,.own 29 0 7 0 u7.a6.length]++b7n u7)
noncomputable def b5F (u7:j4):List V:=([vi u7.Id,vi u7.Acc.d9,p6 53 8 t0 u7.Acc.a0,p6 47 7 p8 (u7.a6++[(l8.mk true (n5.mk 0 0) (m8.mk [] [] 0 0))])]++b7n u7)
noncomputable def b9Q (r_:n8):Option (l7×n8) :=
 ((b3B).bind fun a1l=>((b58 r_).bind fun b3A=>((b5N a1l b3A.1).bind fun x8=>((H5 b3A.2 3).bind fun pick=>((H5 pick.2 12).bind fun E0=>(((bif (E0.1==0) then ((idx x8.Nodes pick.1).bind fun j7=>(bif decide ((j7.a6.length:Int)>0) then (bif decide ((j7.a6.length:Int)<30) then ((idx j7.a6 0).bind fun z8=>some (j8.brk (x8.Nodes.set pick.1.toNat (j4.mk j7.Id j7.Acc (j7.a6.set (0:Int).toNat (l8.mk true (n5.mk 0 0) (m8.mk [] [] 0 0))) j7.Seq j7.d7 j7.a7 j7.b5 j7.i4 j7.b9 j7.a0 j7.i6 j7.g7 j7.b8 j7.b7)))) else some (j8.brk (x8.Nodes.set pick.1.toNat j7))) else some (j8.brk (x8.Nodes.set pick.1.toNat j7)))) else (bif (E0.1==1) then ((idx x8.Nodes pick.1).bind fun o8=>(bif decide ((o8.Acc.a0.length:Int)>0) then ((idx o8.Acc.a0 0).bind fun A5=>some (j8.brk (x8.Nodes.set pick.1.toNat (j4.mk o8.Id (A0.mk o8.Acc.d9 (o8.Acc.a0.set (0:Int).toNat (m6.mk A5.a7 (l8.mk (decide (A5.a7>0)) (n5.mk 0 0) (m8.mk [] [] 0 0))))) o8.a6 o8.Seq o8.d7 o8.a7 o8.b5 o8.i4 o8.b9 o8.a0 o8.i6 o8.g7 o8.b8 o8.b7)))) else some (j8.brk (x8.Nodes.set pick.1.toNat o8)))) else (bif (E0.1==2) then ((idx x8.Nodes pick.1).bind fun B4=>some (j8.brk (x8.Nodes.set pick.1.toNat (j4.mk B4.Id (A0.mk B4.Acc.d9 []) B4.a6 B4.Seq B4.d7 B4.a7 B4.b5 B4.i4 B4.b9 B4.a0 B4.i6 B4.g7 B4.b8 B4.b7)))) else (bif (E0.1==3) then ((idx x8.Nodes pick.1).bind fun u7=>(u5 ((u7.a6.length+1) * 88≤140737488355328) (some (j8.brk (x8.Nodes.set pick.1.toNat (j4.mk u7.Id u7.Acc (u7.a6++[(l8.mk true (n5.mk 0 0) (m8.mk [] [] 0 0))]) u7.Seq u7.d7 u7.a7 u7.b5 u7.i4 u7.b9 u7.a0 u7.i6 u7.g7 u7.b8 u7.b7)))))) else some (j8.brk x8.Nodes))))):Option (j8 (l7×n8) (List j4))).bind fun x=>x.go some fun j=>c1I x8 E0 j))))))
set_option maxRecDepth 20000 in
theorem f2E {r_:n8} (r:l7×n8) (h:b9Q r_=some r):o7 cx.P 15 [.optr 64 (a03 r_)] (a23.R r) (a23.O r) :=
 q8 a23.X a23.c a23.h (fun z=>p7<|m3 a0c d8B 0 h fun a1l h=>m3 F5 e4L 2 h fun b3A h=>C6 h fun x8 e1j h=>om (o7 cx.P 32 [.agg [.sl 27 a1l.Nodes.length (U8 (a1l.Nodes.map t5)),j9 13 z5 a1l.Net,j9 3 E5 a1l.Asked,j9 5 B9 a1l.Told],j9 3 O9 b3A.1] (X7.R x8) (X7.O x8)) (by simp only [a12 a2c]; exact (e7k x8 e1j))<|q9 a1l.Nodes a1l.Net a1l.Asked a1l.Told<|o6 b3A.1<|tl (X7.t 3 false x8)<|rg<|m3 H1 I5 1 h fun pick h=>rg<|m3 H1 I5 1 h fun E0 h=>E1 (I:=fun j:List j4=>j5 cx a23.X (a23.R r) (a23.O r) d5E (d0o x8 E0 j)) h (fun j h=>e7q x8 E0 r j h) (fun x1 h hc1=>rg<|i9 1 h (fun h=>rg<|C6 h fun j7 E8 h=>E2 E8<|ob (a51 (enc:=t5) E8)<|tl (5,{ a:=.drow (t5 j7) })<|i9 8 h (fun h=>E2 E8<|om (((x8.Nodes.map t5).set (0+pick.1.toNat) (a1j j7))[0+pick.1.toNat]?=some (a1j j7)) (X9 (Y7 E8))<|tl (14,{ a:=.prow (a1j j7) })<|i9 17 h (fun h=>rg<|E2 E8<|om (((x8.Nodes.map t5).set (0+pick.1.toNat) (a1j j7))[0+pick.1.toNat]?=some (a1j j7)) (X9 (Y7 E8))<|tl (5,{ a:=.prow (a1j j7) })<|C6 h fun z8 I0 h=>E2 I0<|stR 47 7 p8 8 O2 (l8.mk true (n5.mk 0 0) (m8.mk [] [] 0 0)) I0<|(s6 h hc1 fun hI=>om (((x8.Nodes.map t5).set (0+pick.1.toNat) (a1j j7))[0+pick.1.toNat]?=some (a1j j7)) (X9 (Y7 E8))<|om (j7.a6.length=(j7.a6.set (0:Int).toNat (l8.mk true (n5.mk 0 0) (m8.mk [] [] 0 0))).length) (by simp)<|om (((x8.Nodes.map t5).set (0+pick.1.toNat) (a1j j7)).set (0+pick.1.toNat) (e6S j7)=(x8.Nodes.set pick.1.toNat (j4.mk j7.Id j7.Acc (j7.a6.set (0:Int).toNat (l8.mk true (n5.mk 0 0) (m8.mk [] [] 0 0))) j7.Seq j7.d7 j7.a7 j7.b5 j7.i4 j7.b9 j7.a0 j7.i6 j7.g7 j7.b8 j7.b7)).map t5) (X5 (a0z rfl))<|om (G9 ((x8.Nodes.set pick.1.toNat (j4.mk j7.Id j7.Acc (j7.a6.set (0:Int).toNat (l8.mk true (n5.mk 0 0) (m8.mk [] [] 0 0))) j7.Seq j7.d7 j7.a7 j7.b5 j7.i4 j7.b9 j7.a0 j7.i6 j7.g7 j7.b8 j7.b7)).map t5)) (G9.map a2S _)<|om (x8.Nodes.length=(x8.Nodes.set pick.1.toNat (j4.mk j7.Id j7.Acc (j7.a6.set (0:Int).toNat (l8.mk true (n5.mk 0 0) (m8.mk [] [] 0 0))) j7.Seq j7.d7 j7.a7 j7.b5 j7.i4 j7.b9 j7.a0 j7.i6 j7.g7 j7.b8 j7.b7)).length) (by simp)<|om ((.own 5 0 27 0 x8.Nodes.length:V) = .own 5 0 27 0 (x8.Nodes.set pick.1.toNat (j4.mk j7.Id j7.Acc (j7.a6.set (0:Int).toNat (l8.mk true (n5.mk 0 0) (m8.mk [] [] 0 0))) j7.Seq j7.d7 j7.a7 j7.b5 j7.i4 j7.b9 j7.a0 j7.i6 j7.g7 j7.b8 j7.b7)).length) (by simp)<|sg [.plug 5 0 (0+pick.1.toNat) 3 (a1j j7) 47,.shut 5 0 (x8.Nodes.set pick.1.toNat (j4.mk j7.Id j7.Acc (j7.a6.set (0:Int).toNat (l8.mk true (n5.mk 0 0) (m8.mk [] [] 0 0))) j7.Seq j7.d7 j7.a7 j7.b5 j7.i4 j7.b9 j7.a0 j7.i6 j7.g7 j7.b8 j7.b7)).length ((x8.Nodes.set pick.1.toNat (j4.mk j7.Id j7.Acc (j7.a6.set (0:Int).toNat (l8.mk true (n5.mk 0 0) (m8.mk [] [] 0 0))) j7.Seq j7.d7 j7.a7 j7.b5 j7.i4 j7.b9 j7.a0 j7.i6 j7.g7 j7.b8 j7.b7)).map t5),.is (.cell 6 0 0) (.own 5 0 27 0 (x8.Nodes.set pick.1.toNat (j4.mk j7.Id j7.Acc (j7.a6.set (0:Int).toNat (l8.mk true (n5.mk 0 0) (m8.mk [] [] 0 0))) j7.Seq j7.d7 j7.a7 j7.b5 j7.i4 j7.b9 j7.a0 j7.i6 j7.g7 j7.b8 j7.b7)).length)] [2,3] [(1,0),(6,0),(5,0),(5,1),(5,2),(5,3)] hI)) (fun h=>(s6 h hc1 fun hI=>om (((x8.Nodes.map t5).set (0+pick.1.toNat) (a1j j7))[0+pick.1.toNat]?=some (a1j j7)) (X9 (Y7 E8))<|o6 j7.a6<|om (((x8.Nodes.map t5).set (0+pick.1.toNat) (a1j j7)).set (0+pick.1.toNat) (d6z j7)=(x8.Nodes.set pick.1.toNat j7).map t5) (X5 (a0z rfl))<|om (G9 ((x8.Nodes.set pick.1.toNat j7).map t5)) (G9.map a2S _)<|om (x8.Nodes.length=(x8.Nodes.set pick.1.toNat j7).length) (by simp)<|om ((.own 5 0 27 0 x8.Nodes.length:V) = .own 5 0 27 0 (x8.Nodes.set pick.1.toNat j7).length) (by simp)<|sg [.plug 5 0 (0+pick.1.toNat) 3 (a1j j7) 47,.shut 5 0 (x8.Nodes.set pick.1.toNat j7).length ((x8.Nodes.set pick.1.toNat j7).map t5),.is (.cell 6 0 0) (.own 5 0 27 0 (x8.Nodes.set pick.1.toNat j7).length)] [2,3] [(1,0),(6,0),(5,0),(5,1),(5,2),(5,3)] hI))) (fun h=>(s6 h hc1 fun hI=>om (((x8.Nodes.map t5).set (0+pick.1.toNat) (a1j j7))[0+pick.1.toNat]?=some (a1j j7)) (X9 (Y7 E8))<|o6 j7.a6<|om (((x8.Nodes.map t5).set (0+pick.1.toNat) (a1j j7)).set (0+pick.1.toNat) (d6z j7)=(x8.Nodes.set pick.1.toNat j7).map t5) (X5 (a0z rfl))<|om (G9 ((x8.Nodes.set pick.1.toNat j7).map t5)) (G9.map a2S _)<|om (x8.Nodes.length=(x8.Nodes.set pick.1.toNat j7).length) (by simp)<|om ((.own 5 0 27 0 x8.Nodes.length:V) = .own 5 0 27 0 (x8.Nodes.set pick.1.toNat j7).length) (by simp)<|sg [.plug 5 0 (0+pick.1.toNat) 3 (a1j j7) 47,.shut 5 0 (x8.Nodes.set pick.1.toNat j7).length ((x8.Nodes.set pick.1.toNat j7).map t5),.is (.cell 6 0 0) (.own 5 0 27 0 (x8.Nodes.set pick.1.toNat j7).length)] [2,3] [(1,0),(6,0),(5,0),(5,1),(5,2),(5,3)] hI))) (fun h=>rg<|i9 1 h (fun h=>rg<|C6 h fun o8 a1I h=>E2 a1I<|ob (a51 (enc:=t5) a1I)<|tl (6,{ a:=.drow (t5 o8) })<|i9 8 h (fun h=>rg<|E2 a1I<|om (((x8.Nodes.map t5).set (0+pick.1.toNat) (a2F o8))[0+pick.1.toNat]?=some (a2F o8)) (X9 (Y7 a1I))<|tl (6,{ a:=.prow (a2F o8) })<|E2 a1I<|om (((x8.Nodes.map t5).set (0+pick.1.toNat) (a2F o8))[0+pick.1.toNat]?=some (a2F o8)) (X9 (Y7 a1I))<|tl (13,{ a:=.prow (a2F o8) })<|C6 h fun A5 O6 h=>E2 O6<|V3 t0 16 O6<|E2 O6<|stR 53 8 t0 21 O2 (m6.mk A5.a7 (l8.mk (decide (A5.a7>0)) (n5.mk 0 0) (m8.mk [] [] 0 0))) O6<|(s6 h hc1 fun hI=>om (((x8.Nodes.map t5).set (0+pick.1.toNat) (a2F o8))[0+pick.1.toNat]?=some (a2F o8)) (X9 (Y7 a1I))<|om (o8.Acc.a0.length=(o8.Acc.a0.set (0:Int).toNat (m6.mk A5.a7 (l8.mk (decide (A5.a7>0)) (n5.mk 0 0) (m8.mk [] [] 0 0)))).length) (by simp)<|om (((x8.Nodes.map t5).set (0+pick.1.toNat) (a2F o8)).set (0+pick.1.toNat) (e0j o8 A5)=(x8.Nodes.set pick.1.toNat (j4.mk o8.Id (A0.mk o8.Acc.d9 (o8.Acc.a0.set (0:Int).toNat (m6.mk A5.a7 (l8.mk (decide (A5.a7>0)) (n5.mk 0 0) (m8.mk [] [] 0 0))))) o8.a6 o8.Seq o8.d7 o8.a7 o8.b5 o8.i4 o8.b9 o8.a0 o8.i6 o8.g7 o8.b8 o8.b7)).map t5) (X5 (a0z rfl))<|om (G9 ((x8.Nodes.set pick.1.toNat (j4.mk o8.Id (A0.mk o8.Acc.d9 (o8.Acc.a0.set (0:Int).toNat (m6.mk A5.a7 (l8.mk (decide (A5.a7>0)) (n5.mk 0 0) (m8.mk [] [] 0 0))))) o8.a6 o8.Seq o8.d7 o8.a7 o8.b5 o8.i4 o8.b9 o8.a0 o8.i6 o8.g7 o8.b8 o8.b7)).map t5)) (G9.map a2S _)<|om (x8.Nodes.length=(x8.Nodes.set pick.1.toNat (j4.mk o8.Id (A0.mk o8.Acc.d9 (o8.Acc.a0.set (0:Int).toNat (m6.mk A5.a7 (l8.mk (decide (A5.a7>0)) (n5.mk 0 0) (m8.mk [] [] 0 0))))) o8.a6 o8.Seq o8.d7 o8.a7 o8.b5 o8.i4 o8.b9 o8.a0 o8.i6 o8.g7 o8.b8 o8.b7)).length) (by simp)<|om ((.own 5 0 27 0 x8.Nodes.length:V) = .own 5 0 27 0 (x8.Nodes.set pick.1.toNat (j4.mk o8.Id (A0.mk o8.Acc.d9 (o8.Acc.a0.set (0:Int).toNat (m6.mk A5.a7 (l8.mk (decide (A5.a7>0)) (n5.mk 0 0) (m8.mk [] [] 0 0))))) o8.a6 o8.Seq o8.d7 o8.a7 o8.b5 o8.i4 o8.b9 o8.a0 o8.i6 o8.g7 o8.b8 o8.b7)).length) (by simp)<|sg [.plug 5 0 (0+pick.1.toNat) 2 (a2F o8) 53,.shut 5 0 (x8.Nodes.set pick.1.toNat (j4.mk o8.Id (A0.mk o8.Acc.d9 (o8.Acc.a0.set (0:Int).toNat (m6.mk A5.a7 (l8.mk (decide (A5.a7>0)) (n5.mk 0 0) (m8.mk [] [] 0 0))))) o8.a6 o8.Seq o8.d7 o8.a7 o8.b5 o8.i4 o8.b9 o8.a0 o8.i6 o8.g7 o8.b8 o8.b7)).length ((x8.Nodes.set pick.1.toNat (j4.mk o8.Id (A0.mk o8.Acc.d9 (o8.Acc.a0.set (0:Int).toNat (m6.mk A5.a7 (l8.mk (decide (A5.a7>0)) (n5.mk 0 0) (m8.mk [] [] 0 0))))) o8.a6 o8.Seq o8.d7 o8.a7 o8.b5 o8.i4 o8.b9 o8.a0 o8.i6 o8.g7 o8.b8 o8.b7)).map t5),.is (.cell 6 0 0) (.own 5 0 27 0 (x8.Nodes.set pick.1.toNat (j4.mk o8.Id (A0.mk o8.Acc.d9 (o8.Acc.a0.set (0:Int).toNat (m6.mk A5.a7 (l8.mk (decide (A5.a7>0)) (n5.mk 0 0) (m8.mk [] [] 0 0))))) o8.a6 o8.Seq o8.d7 o8.a7 o8.b5 o8.i4 o8.b9 o8.a0 o8.i6 o8.g7 o8.b8 o8.b7)).length)] [2,3] [(1,0),(6,0),(5,0),(5,1),(5,2),(5,3)] hI)) (fun h=>(s6 h hc1 fun hI=>om (((x8.Nodes.map t5).set (0+pick.1.toNat) (a2F o8))[0+pick.1.toNat]?=some (a2F o8)) (X9 (Y7 a1I))<|o6 o8.Acc.a0<|om (((x8.Nodes.map t5).set (0+pick.1.toNat) (a2F o8)).set (0+pick.1.toNat) (e0L o8)=(x8.Nodes.set pick.1.toNat o8).map t5) (X5 (a0z rfl))<|om (G9 ((x8.Nodes.set pick.1.toNat o8).map t5)) (G9.map a2S _)<|om (x8.Nodes.length=(x8.Nodes.set pick.1.toNat o8).length) (by simp)<|om ((.own 5 0 27 0 x8.Nodes.length:V) = .own 5 0 27 0 (x8.Nodes.set pick.1.toNat o8).length) (by simp)<|sg [.plug 5 0 (0+pick.1.toNat) 2 (a2F o8) 53,.shut 5 0 (x8.Nodes.set pick.1.toNat o8).length ((x8.Nodes.set pick.1.toNat o8).map t5),.is (.cell 6 0 0) (.own 5 0 27 0 (x8.Nodes.set pick.1.toNat o8).length)] [2,3] [(1,0),(6,0),(5,0),(5,1),(5,2),(5,3)] hI))) (fun h=>rg<|i9 1 h (fun h=>rg<|C6 h fun B4 b4q h=>E2 b4q<|om (s4.deep false 50 27 x8.Nodes.length ((x8.Nodes.map t5).set (0+pick.1.toNat) (e1T B4))=D5 50 27 t5 (x8.Nodes.set pick.1.toNat (j4.mk B4.Id (A0.mk B4.Acc.d9 []) B4.a6 B4.Seq B4.d7 B4.a7 B4.b5 B4.i4 B4.b9 B4.a0 B4.i6 B4.g7 B4.b8 B4.b7))) (e5B rfl)<|ob (a51 (enc:=t5) b4q)<|tl (6,{ a:=.dst (t5 B4) [some 8] [some 53],e:=some (D5 50 27 t5 (x8.Nodes.set pick.1.toNat (j4.mk B4.Id (A0.mk B4.Acc.d9 []) B4.a6 B4.Seq B4.d7 B4.a7 B4.b5 B4.i4 B4.b9 B4.a0 B4.i6 B4.g7 B4.b8 B4.b7))) })<|(s6 h hc1 fun hI=>om ((.own 5 0 27 0 x8.Nodes.length:V) = .own 5 0 27 0 (x8.Nodes.set pick.1.toNat (j4.mk B4.Id (A0.mk B4.Acc.d9 []) B4.a6 B4.Seq B4.d7 B4.a7 B4.b5 B4.i4 B4.b9 B4.a0 B4.i6 B4.g7 B4.b8 B4.b7)).length) (by simp)<|sg [.is (.cell 6 0 0) (.own 5 0 27 0 (x8.Nodes.set pick.1.toNat (j4.mk B4.Id (A0.mk B4.Acc.d9 []) B4.a6 B4.Seq B4.d7 B4.a7 B4.b5 B4.i4 B4.b9 B4.a0 B4.i6 B4.g7 B4.b8 B4.b7)).length)] [2,3] [(1,0),(6,0),(5,0),(5,1),(5,2),(5,3)] hI)) (fun h=>rg<|i9 1 h (fun h=>rg<|C6 h fun u7 b74 h=>E2 b74<|ob (a51 (enc:=t5) b74)<|tl (8,{ a:=.drow (t5 u7) })<|tl (10,{ a:=.ck O2 })<|w8 h fun e1 h=>M9 11 32 47 7 88 p8 u7.a6 (l8.mk true (n5.mk 0 0) (m8.mk [] [] 0 0)) e1<|om (1=[(l8.mk true (n5.mk 0 0) (m8.mk [] [] 0 0))].length) (by rfl)<|E2 b74<|om (s4.deep true 50 27 x8.Nodes.length (((x8.Nodes.map t5).set (0+pick.1.toNat) (c0B u7)).set (0+pick.1.toNat) (b5F u7))=s4.deep true 50 27 x8.Nodes.length ((x8.Nodes.map t5).set (0+pick.1.toNat) (b5F u7))) (by simp only [List.set_set])<|om (((x8.Nodes.map t5).set (0+pick.1.toNat) (c0B u7))[0+pick.1.toNat]?=some (c0B u7)) (X9 (Y7 b74))<|o6 (u7.a6++[(l8.mk true (n5.mk 0 0) (m8.mk [] [] 0 0))])<|tl (14,{ a:=.dst (c0B u7) [some 7] [some 47],e:=some (.deep true 50 27 x8.Nodes.length ((x8.Nodes.map t5).set (0+pick.1.toNat) (b5F u7))) })<|(s6 h hc1 fun hI=>om ((x8.Nodes.map t5).set (0+pick.1.toNat) (b5F u7)=(x8.Nodes.set pick.1.toNat (j4.mk u7.Id u7.Acc (u7.a6++[(l8.mk true (n5.mk 0 0) (m8.mk [] [] 0 0))]) u7.Seq u7.d7 u7.a7 u7.b5 u7.i4 u7.b9 u7.a0 u7.i6 u7.g7 u7.b8 u7.b7)).map t5) (a0z rfl)<|om (G9 ((x8.Nodes.set pick.1.toNat (j4.mk u7.Id u7.Acc (u7.a6++[(l8.mk true (n5.mk 0 0) (m8.mk [] [] 0 0))]) u7.Seq u7.d7 u7.a7 u7.b5 u7.i4 u7.b9 u7.a0 u7.i6 u7.g7 u7.b8 u7.b7)).map t5)) (G9.map a2S _)<|om (x8.Nodes.length=(x8.Nodes.set pick.1.toNat (j4.mk u7.Id u7.Acc (u7.a6++[(l8.mk true (n5.mk 0 0) (m8.mk [] [] 0 0))]) u7.Seq u7.d7 u7.a7 u7.b5 u7.i4 u7.b9 u7.a0 u7.i6 u7.g7 u7.b8 u7.b7)).length) (by simp)<|om ((.own 5 0 27 0 x8.Nodes.length:V) = .own 5 0 27 0 (x8.Nodes.set pick.1.toNat (j4.mk u7.Id u7.Acc (u7.a6++[(l8.mk true (n5.mk 0 0) (m8.mk [] [] 0 0))]) u7.Seq u7.d7 u7.a7 u7.b5 u7.i4 u7.b9 u7.a0 u7.i6 u7.g7 u7.b8 u7.b7)).length) (by simp)<|sg [.shut 5 0 (x8.Nodes.set pick.1.toNat (j4.mk u7.Id u7.Acc (u7.a6++[(l8.mk true (n5.mk 0 0) (m8.mk [] [] 0 0))]) u7.Seq u7.d7 u7.a7 u7.b5 u7.i4 u7.b9 u7.a0 u7.i6 u7.g7 u7.b8 u7.b7)).length ((x8.Nodes.set pick.1.toNat (j4.mk u7.Id u7.Acc (u7.a6++[(l8.mk true (n5.mk 0 0) (m8.mk [] [] 0 0))]) u7.Seq u7.d7 u7.a7 u7.b5 u7.i4 u7.b9 u7.a0 u7.i6 u7.g7 u7.b8 u7.b7)).map t5),.is (.cell 6 0 0) (.own 5 0 27 0 (x8.Nodes.set pick.1.toNat (j4.mk u7.Id u7.Acc (u7.a6++[(l8.mk true (n5.mk 0 0) (m8.mk [] [] 0 0))]) u7.Seq u7.d7 u7.a7 u7.b5 u7.i4 u7.b9 u7.a0 u7.i6 u7.g7 u7.b8 u7.b7)).length)] [2,3] [(1,0),(6,0),(5,0),(5,1),(5,2),(5,3)] hI)) (fun h=>(s6 h hc1 fun hI=>sg [] [2,3] [(1,0),(6,0),(5,0),(5,1),(5,2),(5,3)] hI)))))))
noncomputable def b0E:FS (l7):=⟨4,Tryz.f4,[.val K4 [some 1000050,some 66,some 69,some 73]],[none],[.val [some 1] []],fun r=>.agg (a08 r),fun _=>[none],Tryz.func4⟩
noncomputable def c02 (N8:List Int):Option l7 :=
 ((c0l N8).bind fun d6J=>((b9Q d6J).bind fun a9W=>some a9W.1))
theorem f0B {N8:List Int} (r:l7) (h:c02 N8=some r):o7 cx.P 4 [j9 1 N4 N8] (b0E.R r) (b0E.O r) :=
 q8 b0E.X b0E.c b0E.h (fun z=>p7<|m3 a2x e5p 1 h fun d6J h=>m3 a23 f2E 2 h fun a9W h=>q9 a9W.1.Nodes a9W.1.Net a9W.1.Asked a9W.1.Told<|fe z h)
noncomputable def K5:FS (Bool):=⟨40,Tryz.f40,[.val [] []],[none,none,none],[.val [] [],.val [] [],.val [] []],fun r=>.b r,fun _=>[none,none,none],Tryz.func40⟩
noncomputable def K8 (n:Int) (low:Int) (b9U:Int):Option Bool :=
 (bif decide (n≥low) then some (decide (n≤b9U)) else some false)
theorem M7 {n:Int} {low:Int} {b9U:Int} (r:Bool) (h:K8 n low b9U=some r):o7 cx.P 40 [vi n,vi low,vi b9U] (K5.R r) (K5.O r) :=
 q8 K5.X K5.c K5.h (fun z=>p7<|i9 3 h (fun h=>fe z h) (fun h=>fe z h))
noncomputable def Z8:FS (Bool):=⟨80,Tryz.f80,[.val [] []],[none,none],[.val [some 2] [],.val [some 2] []],fun r=>.b r,fun _=>[none,none],Tryz.func80⟩
noncomputable def d4u:List Item:=Z8.k 4 [false,false]
noncomputable def d4v:St:=⟨(bs 26 []),[some []]⟩
noncomputable def d7i:Option Bool :=
 some true
theorem e3f (r:Bool) (h:d7i=some r):j5 cx Z8.X (Z8.R r) (Z8.O r) d4u (d4v) :=
 P0<|rg<|fe Z8.h h
noncomputable def c3r:List Item:=Z8.k 3 [false]
noncomputable def c8c (a:List n7) (b:List n7) (v13:Int):St:=⟨(j9 2 u6 a::(j9 2 u6 b::(bs 10 (vi (a.length:Int)::(vi v13::(bs 12 [])))))),[some []]⟩
noncomputable def b5M (a:List n7) (b:List n7) (v13:Int):Option (j3 Bool Int Unit) :=
 (bif decide (v13<(a.length:Int)) then ((idx a v13).bind fun G5=>((idx b v13).bind fun W9=>(bif (!(([G5.f0,G5.i7]:List Int)==[W9.f0,W9.i7])) then some (j3.ret false) else some (j3.nxt (m9 (v13+1)))))) else some (j3.brk ()))
theorem f0z (a:List n7) (b:List n7) (res:V) (outs:s8) (x1:j8 Bool Unit) (hb1:HB cx Z8.X res outs x1 d4u (fun s=>d4v)) (hr1:HR res outs x1 Z8.R Z8.O) (st1:j3 Bool Int Unit) (hc1:s5 x1 (fun s:Int=>j5 cx Z8.X res outs c3r (c8c a b s)) st1) (v13:Int) (h:b5M a b v13=some st1):j5 cx Z8.X res outs c3r (c8c a b v13) :=
 P0<|rg<|i9 0 h (fun h=>p7<|u0 u6 2 h fun G5 a5p h=>u0 u6 6 h fun W9 d1o h=>i9 8 h (fun h=>rg<|(z4 h hc1 fun e=>z3 Z8.h (hr1 _ e))) (fun h=>rg<|(w9 h hc1 fun hI=>sg [] [0,1,12,13] [] hI))) (fun h=>(v6 h hc1 fun e=>sg [] [] [] (hb1 _ e)))
noncomputable def b8f (a:List n7) (b:List n7):Option Bool :=
 (bif ((a.length:Int) != (b.length:Int)) then some false else ((o9 (fun s:Int=>b5M a b s) 0).bind fun x=>x.go (fun r=>some r) fun s=>d7i))
theorem f3B {a:List n7} {b:List n7} (r:Bool) (h:b8f a b=some r):o7 cx.P 80 [j9 2 u6 a,j9 2 u6 b] (Z8.R r) (Z8.O r) :=
 q8 Z8.X Z8.c Z8.h (fun z=>p7<|i9 4 h (fun h=>rg<|fe z h) (fun h=>rg<|x7 h fun x hl hr hb=>sg [] [0,1,12,13] [] (x9 (I:=fun s:Int=>j5 cx Z8.X (Z8.R r) (Z8.O r) c3r (c8c a b s)) hl fun s st h hc=>f0z a b _ _ x (fun s e=>e3f r (hb s e)) (fun v e=>⟨congrArg Z8.R (Option.some.inj (hr v e)).symm,congrArg Z8.O (Option.some.inj (hr v e)).symm⟩) st hc s h)))
noncomputable def Y5:FS (Bool):=⟨81,Tryz.f81,[.val [] []],[none,none],[.val [some 2] [],.val [some 2] []],fun r=>.b r,fun _=>[none,none],Tryz.func81⟩
noncomputable def d78:List Item:=Y5.k 4 [false,false]
noncomputable def d3h:St:=⟨(bs 26 []),[some []]⟩
noncomputable def d4x:Option Bool :=
 some true
theorem e53 (r:Bool) (h:d4x=some r):j5 cx Y5.X (Y5.R r) (Y5.O r) d78 (d3h) :=
 P0<|rg<|fe Y5.h h
noncomputable def c2U:List Item:=Y5.k 3 [false]
noncomputable def c4R (a:List n3) (b:List n3) (v13:Int):St:=⟨(j9 2 u9 a::(j9 2 u9 b::(bs 10 (vi (a.length:Int)::(vi v13::(bs 12 [])))))),[some []]⟩
noncomputable def b8F (a:List n3) (b:List n3) (v13:Int):Option (j3 Bool Int Unit) :=
 (bif decide (v13<(a.length:Int)) then ((idx a v13).bind fun put=>((idx b v13).bind fun D9=>(bif (!(([put.f0,put.d6]:List Int)==[D9.f0,D9.d6])) then some (j3.ret false) else some (j3.nxt (m9 (v13+1)))))) else some (j3.brk ()))
theorem f3P (a:List n3) (b:List n3) (res:V) (outs:s8) (x1:j8 Bool Unit) (hb1:HB cx Y5.X res outs x1 d78 (fun s=>d3h)) (hr1:HR res outs x1 Y5.R Y5.O) (st1:j3 Bool Int Unit) (hc1:s5 x1 (fun s:Int=>j5 cx Y5.X res outs c2U (c4R a b s)) st1) (v13:Int) (h:b8F a b v13=some st1):j5 cx Y5.X res outs c2U (c4R a b v13) :=
 P0<|rg<|i9 0 h (fun h=>p7<|u0 u9 2 h fun put hput h=>u0 u9 6 h fun D9 b4m h=>i9 8 h (fun h=>rg<|(z4 h hc1 fun e=>z3 Y5.h (hr1 _ e))) (fun h=>rg<|(w9 h hc1 fun hI=>sg [] [0,1,12,13] [] hI))) (fun h=>(v6 h hc1 fun e=>sg [] [] [] (hb1 _ e)))
noncomputable def b9Z (a:List n3) (b:List n3):Option Bool :=
 (bif ((a.length:Int) != (b.length:Int)) then some false else ((o9 (fun s:Int=>b8F a b s) 0).bind fun x=>x.go (fun r=>some r) fun s=>d4x))
theorem f1k {a:List n3} {b:List n3} (r:Bool) (h:b9Z a b=some r):o7 cx.P 81 [j9 2 u9 a,j9 2 u9 b] (Y5.R r) (Y5.O r) :=
 q8 Y5.X Y5.c Y5.h (fun z=>p7<|i9 4 h (fun h=>rg<|fe z h) (fun h=>rg<|x7 h fun x hl hr hb=>sg [] [0,1,12,13] [] (x9 (I:=fun s:Int=>j5 cx Y5.X (Y5.R r) (Y5.O r) c2U (c4R a b s)) hl fun s st h hc=>f3P a b _ _ x (fun s e=>e53 r (hb s e)) (fun v e=>⟨congrArg Y5.R (Option.some.inj (hr v e)).symm,congrArg Y5.O (Option.some.inj (hr v e)).symm⟩) st hc s h)))
noncomputable def b1R:FS (Bool):=⟨41,Tryz.f41,[.val [] []],[none,none],[.val Y4 [],.val Y4 []],fun r=>.b r,fun _=>[none,none],Tryz.func41⟩
noncomputable def c0g (a:m8) (b:m8):Option Bool :=
 ((b8f a.a8 b.a8).bind fun G5=>(bif G5 then ((b9Z a.a9 b.a9).bind fun put=>(bif put then (bif (a.d6==b.d6) then some (a.Code==b.Code) else some false) else some false)) else some false))
theorem f0v {a:m8} {b:m8} (r:Bool) (h:c0g a b=some r):o7 cx.P 41 [.agg (Z2 a),.agg (Z2 b)] (b1R.R r) (b1R.O r) :=
 q8 b1R.X b1R.c b1R.h (fun z=>p7<|m3 Z8 f3B 4 h fun G5 h=>i9 5 h (fun h=>m3 Y5 f1k 10 h fun put h=>i9 12 h (fun h=>i9 19 h (fun h=>fe z h) (fun h=>fe z h)) (fun h=>fe z h)) (fun h=>fe z h))
noncomputable def a2X:FS (Bool):=⟨18,Tryz.f18,[.val [] []],[none,none],[.val O2 [],.val O2 []],fun r=>.b r,fun _=>[none,none],Tryz.func18⟩
noncomputable def a3J (a:l8) (b:l8):Option Bool :=
 (bif (a.i0==b.i0) then (bif (([a.a5.c8,a.a5.Seq]:List Int)==[b.a5.c8,b.a5.Seq]) then ((c0g a.b6 b.b6).bind fun a2D=>some a2D) else some false) else some false)
theorem a6q {a:l8} {b:l8} (r:Bool) (h:a3J a b=some r):o7 cx.P 18 [.agg (p8 a),.agg (p8 b)] (a2X.R r) (a2X.O r) :=
 q8 a2X.X a2X.c a2X.h (fun z=>p7<|i9 5 h (fun h=>i9 12 h (fun h=>m3 b1R f0v 17 h fun a2D h=>fe z h) (fun h=>fe z h)) (fun h=>fe z h))
noncomputable def a5v:FS (Bool):=⟨38,Tryz.f38,[.val [] []],[none],[.val [] []],fun r=>.b r,fun _=>[none],Tryz.func38⟩
noncomputable def a7q (q:n5):Option Bool :=
 ((K8 q.c8 0 2).bind fun in_=>(bif in_ then ((K8 q.Seq 1 1000).bind fun N2=>some N2) else some false))
theorem b3W {q:n5} (r:Bool) (h:a7q q=some r):o7 cx.P 38 [.agg (H7 q)] (a5v.R r) (a5v.O r) :=
 q8 a5v.X a5v.c a5v.h (fun z=>p7<|m3 K5 M7 2 h fun in_ h=>i9 3 h (fun h=>m3 K5 M7 6 h fun N2 h=>fe z h) (fun h=>fe z h))
noncomputable def G2:FS (Bool):=⟨120,Tryz.f120,[.val [] []],[none],[.val Y4 []],fun r=>.b r,fun _=>[none],Tryz.func120⟩
noncomputable def d40:List Item:=G2.k 2 [false]
noncomputable def d94 (r_:m8):St:=⟨(bs 1 (.ptr 1 0 0::(bs 98 []))),[some [],some [.var 45 (a18 r_)]]⟩
noncomputable def d2j:List Item:=G2.k 5 [false,false]
noncomputable def d66 (r_:m8):St:=⟨(bs 1 (.ptr 1 0 0::(bs 2 (.ptr 2 0 0::(bs 95 []))))),[some [],some [.var 45 (a18 r_)],some [.arr 173 1 4 ((List.replicate 4 false).map eB)]]⟩
noncomputable def c9q:List Item:=G2.k 7 [false,false,false]
noncomputable def d0p:St:=⟨(bs 100 []),[some []]⟩
noncomputable def d5K:Option Bool :=
 some true
theorem e59 (r:Bool) (h:d5K=some r):j5 cx G2.X (G2.R r) (G2.O r) c9q (d0p) :=
 P0<|rg<|fe G2.h h
noncomputable def c3o:List Item:=G2.k 6 [false,false]
noncomputable def c1u (r_:m8) (put:List Bool) (v76:Int):St:=⟨(bs 4 (.ptr 1 0 0::(bs 69 (j9 2 u9 r_.a9::(vi (r_.a9.length:Int)::(vi v76::(bs 23 []))))))),[some [],some [.arr 173 1 4 (put.map eB)]]⟩
noncomputable def b1c (r_:m8) (put:List Bool) (v76:Int):Option (j3 Bool ((List Bool)×Int) Unit) :=
 (bif decide (v76<(r_.a9.length:Int)) then ((idx r_.a9 v76).bind fun D9=>((K8 D9.f0 0 3).bind fun in_=>(bif (!in_) then some (j3.ret false) else ((idx put D9.f0).bind fun y=>(u5 (D9.f0<4) ((bif y then some (j3.ret false) else ((K8 D9.d6 (-1000000) 1000000).bind fun N2=>(bif (!N2) then some (j3.ret false) else (u5 (D9.f0<4) (some (j3.nxt (put.set D9.f0.toNat true,m9 (v76+1)))))))))))))) else some (j3.brk ()))
theorem e02 (r_:m8) (res:V) (outs:s8) (x1:j8 Bool Unit) (hb1:HB cx G2.X res outs x1 c9q (fun s=>d0p)) (hr1:HR res outs x1 G2.R G2.O) (st1:j3 Bool ((List Bool)×Int) Unit) (hc1:s5 x1 (fun s:(List Bool)×Int=>j5 cx G2.X res outs c3o (c1u r_ s.1 s.2)) st1) (put:List Bool) (v76:Int) (h:b1c r_ put v76=some st1):j5 cx G2.X res outs c3o (c1u r_ put v76) :=
 P0<|rg<|i9 0 h (fun h=>rg<|u0 u9 0 h fun D9 b4m h=>rg<|m3 K5 M7 2 h fun in_ h=>i9 4 h (fun h=>rg<|(z4 h hc1 fun e=>z3 G2.h (hr1 _ e))) (fun h=>C6 h fun y hy h=>w8 h fun e1 h=>ob (U1 hy)<|ob e1<|ob (a0P (enc:=eB) hy)<|tl (tr 8 (eB y))<|i9 10 h (fun h=>rg<|(z4 h hc1 fun e=>z3 G2.h (hr1 _ e))) (fun h=>m3 K5 M7 13 h fun N2 h=>i9 15 h (fun h=>rg<|(z4 h hc1 fun e=>z3 G2.h (hr1 _ e))) (fun h=>rg<|w8 h fun e2 h=>ob (U1 hy)<|ob e2<|om (s4.arr 173 1 4 ((put.map eB).set (D9.f0.toNat) [.b true])=s4.arr 173 1 4 ((put.set D9.f0.toNat true).map eB)) (a8r rfl)<|ob (a0P (enc:=eB) hy)<|tl (3,{ a:=.rowck (eB y) [],e:=some (.arr 173 1 4 ((put.set D9.f0.toNat true).map eB)) })<|rg<|(w9 h hc1 fun hI=>sg [] [4,74,75,76] [(1,0)] hI))))) (fun h=>(v6 h hc1 fun e=>sg [] [] [] (hb1 _ e)))
noncomputable def c5v (r_:m8):Option Bool :=
 ((o9 (fun s:(List Bool)×Int=>b1c r_ s.1 s.2) (List.replicate 4 false,0)).bind fun x=>x.go (fun r=>some r) fun s=>d5K)
theorem f1y (r_:m8) (r:Bool) (h:c5v r_=some r):j5 cx G2.X (G2.R r) (G2.O r) d2j (d66 r_) :=
 P0<|rg<|x7 h fun x hl hr hb=>sg [] [4,74,75,76] [(2,0)] (x9 (I:=fun s:(List Bool)×Int=>j5 cx G2.X (G2.R r) (G2.O r) c3o (c1u r_ s.1 s.2)) hl fun s st h hc=>e02 r_ _ _ x (fun s e=>e59 r (hb s e)) (fun v e=>⟨congrArg G2.R (Option.some.inj (hr v e)).symm,congrArg G2.O (Option.some.inj (hr v e)).symm⟩) st hc s.1 s.2 h)
noncomputable def c5V:List Item:=G2.k 4 [false]
noncomputable def c3t (r_:m8) (G5:List Bool) (v49:Int):St:=⟨(bs 1 (.ptr 1 0 0::(bs 1 (.ptr 2 0 0::(.ptr 3 0 0::(bs 42 (j9 2 u6 r_.a8::(vi (r_.a8.length:Int)::(vi v49::(bs 50 [])))))))))),[some [],some [.var 45 (a18 r_)],some [.arr 173 1 4 (G5.map eB)],some [.arr 173 1 4 ((List.replicate 4 false).map eB)]]⟩
noncomputable def b2i (r_:m8) (G5:List Bool) (v49:Int):Option (j3 Bool ((List Bool)×Int) Unit) :=
 (bif decide (v49<(r_.a8.length:Int)) then ((idx r_.a8 v49).bind fun W9=>((K8 W9.f0 0 3).bind fun Q1=>(bif (!Q1) then some (j3.ret false) else ((idx G5 W9.f0).bind fun y1=>(u5 (W9.f0<4) ((bif y1 then some (j3.ret false) else ((K8 W9.i7 0 1000000).bind fun a3Z=>(bif (!a3Z) then some (j3.ret false) else (u5 (W9.f0<4) (some (j3.nxt (G5.set W9.f0.toNat true,m9 (v49+1)))))))))))))) else some (j3.brk ()))
theorem f0p (r_:m8) (res:V) (outs:s8) (x1:j8 Bool Unit) (hb1:HB cx G2.X res outs x1 d2j (fun s=>d66 r_)) (hr1:HR res outs x1 G2.R G2.O) (st1:j3 Bool ((List Bool)×Int) Unit) (hc1:s5 x1 (fun s:(List Bool)×Int=>j5 cx G2.X res outs c5V (c3t r_ s.1 s.2)) st1) (G5:List Bool) (v49:Int) (h:b2i r_ G5 v49=some st1):j5 cx G2.X res outs c5V (c3t r_ G5 v49) :=
 P0<|rg<|i9 0 h (fun h=>rg<|u0 u6 0 h fun W9 d1o h=>rg<|m3 K5 M7 2 h fun Q1 h=>i9 4 h (fun h=>rg<|(z4 h hc1 fun e=>z3 G2.h (hr1 _ e))) (fun h=>C6 h fun y1 hy1 h=>w8 h fun e3 h=>ob (U1 hy1)<|ob e3<|ob (a0P (enc:=eB) hy1)<|tl (tr 8 (eB y1))<|i9 10 h (fun h=>rg<|(z4 h hc1 fun e=>z3 G2.h (hr1 _ e))) (fun h=>m3 K5 M7 13 h fun a3Z h=>i9 15 h (fun h=>rg<|(z4 h hc1 fun e=>z3 G2.h (hr1 _ e))) (fun h=>rg<|w8 h fun e4 h=>ob (U1 hy1)<|ob e4<|om (s4.arr 173 1 4 ((G5.map eB).set (W9.f0.toNat) [.b true])=s4.arr 173 1 4 ((G5.set W9.f0.toNat true).map eB)) (a8r rfl)<|ob (a0P (enc:=eB) hy1)<|tl (3,{ a:=.rowck (eB y1) [],e:=some (.arr 173 1 4 ((G5.set W9.f0.toNat true).map eB)) })<|rg<|(w9 h hc1 fun hI=>sg [] [1,3,4,47,48,49] [(1,0),(2,0),(3,0)] hI))))) (fun h=>(v6 h hc1 fun e=>sg [] [1,4] [(1,0),(3,0)] (hb1 _ e)))
noncomputable def b8J (r_:m8):Option Bool :=
 ((o9 (fun s:(List Bool)×Int=>b2i r_ s.1 s.2) (List.replicate 4 false,0)).bind fun x=>x.go (fun r=>some r) fun s=>c5v r_)
theorem e0w (r_:m8) (r:Bool) (h:b8J r_=some r):j5 cx G2.X (G2.R r) (G2.O r) d40 (d94 r_) :=
 P0<|rg<|om ((List.replicate 4 ([.b false]:List V)).flatten=[.b false,.b false,.b false,.b false]∧([.b false]:List V).length=1) ⟨rfl,rfl⟩<|om ((List.replicate 4 ([.b false]:List V)).flatten=[.b false,.b false,.b false,.b false]∧([.b false]:List V).length=1) ⟨rfl,rfl⟩<|rg<|x7 h fun x hl hr hb=>sg [] [1,3,4,47,48,49] [(1,0),(2,0),(3,0)] (x9 (I:=fun s:(List Bool)×Int=>j5 cx G2.X (G2.R r) (G2.O r) c5V (c3t r_ s.1 s.2)) hl fun s st h hc=>f0p r_ _ _ x (fun s e=>f1y r_ r (hb s e)) (fun v e=>⟨congrArg G2.R (Option.some.inj (hr v e)).symm,congrArg G2.O (Option.some.inj (hr v e)).symm⟩) st hc s.1 s.2 h)
noncomputable def b0i (r_:m8):Option Bool :=
 ((((K8 r_.Code 0 3).bind fun b48=>(bif (!b48) then some (j8.ret false) else ((K8 r_.d6 (-1000000) 1000000).bind fun d69=>(bif (!d69) then some (j8.ret false) else (bif (r_.Code != 0) then (bif (r_.d6 != 0) then some (j8.ret false) else (bif decide ((r_.a9.length:Int)>0) then some (j8.ret false) else (bif (r_.Code==3) then (bif decide ((r_.a8.length:Int)>0) then some (j8.ret false) else some (j8.brk ())) else some (j8.brk ())))) else (bif (r_.Code==3) then (bif decide ((r_.a8.length:Int)>0) then some (j8.ret false) else some (j8.brk ())) else some (j8.brk ()))))))):Option (j8 Bool Unit)).bind fun x=>x.go some fun j=>b8J r_)
theorem c5Z {r_:m8} (r:Bool) (h:b0i r_=some r):o7 cx.P 120 [.agg (Z2 r_)] (G2.R r) (G2.O r) :=
 q8 G2.X G2.c G2.h (fun z=>rg<|E1 (I:=fun j:Unit=>j5 cx G2.X (G2.R r) (G2.O r) d40 (d94 r_)) h (fun j h=>e0w r_ r h) (fun x1 h hc1=>rg<|m3 K5 M7 2 h fun b48 h=>i9 4 h (fun h=>rg<|(D6 h hc1 fun h=>fe z h)) (fun h=>m3 K5 M7 7 h fun d69 h=>i9 10 h (fun h=>rg<|(D6 h hc1 fun h=>fe z h)) (fun h=>i9 14 h (fun h=>i9 18 h (fun h=>rg<|(D6 h hc1 fun h=>fe z h)) (fun h=>i9 26 h (fun h=>rg<|(D6 h hc1 fun h=>fe z h)) (fun h=>i9 30 h (fun h=>i9 36 h (fun h=>rg<|(D6 h hc1 fun h=>fe z h)) (fun h=>(s6 h hc1 fun hI=>sg [] [1] [(1,0)] hI))) (fun h=>(s6 h hc1 fun hI=>sg [] [1] [(1,0)] hI))))) (fun h=>i9 30 h (fun h=>i9 36 h (fun h=>rg<|(D6 h hc1 fun h=>fe z h)) (fun h=>(s6 h hc1 fun hI=>sg [] [1] [(1,0)] hI))) (fun h=>(s6 h hc1 fun hI=>sg [] [1] [(1,0)] hI)))))))
noncomputable def a24:FS (Bool):=⟨76,Tryz.f76,[.val [] []],[none],[.val O2 []],fun r=>.b r,fun _=>[none],Tryz.func76⟩
noncomputable def a4c (e_:l8):Option Bool :=
 (bif e_.i0 then ((a3J e_ (l8.mk true (n5.mk 0 0) (m8.mk [] [] 0 0))).bind fun J2=>some J2) else ((a7q e_.a5).bind fun a7E=>(bif a7E then ((b0i e_.b6).bind fun a2v=>(bif a2v then some (e_.b6.Code != 3) else some false)) else some false)))
theorem a58 {e_:l8} (r:Bool) (h:a4c e_=some r):o7 cx.P 76 [.agg (p8 e_)] (a24.R r) (a24.O r) :=
 q8 a24.X a24.c a24.h (fun z=>p7<|i9 1 h (fun h=>rg<|m3 a2X a6q 2 h fun J2 h=>fe z h) (fun h=>rg<|m3 a5v b3W 2 h fun a7E h=>i9 3 h (fun h=>m3 G2 c5Z 6 h fun a2v h=>i9 8 h (fun h=>fe z h) (fun h=>fe z h)) (fun h=>fe z h)))
noncomputable def a90:FS (Bool):=⟨123,Tryz.f123,[.val [] []],[none],[.val a3A []],fun r=>.b r,fun _=>[none],Tryz.func123⟩
noncomputable def b6J (v_:m6):Option Bool :=
 (bif (v_.a7==0) then ((a3J v_.g9 (l8.mk false (n5.mk 0 0) (m8.mk [] [] 0 0))).bind fun J2=>some J2) else ((K8 v_.a7 1 3000).bind fun in_=>(bif in_ then ((a4c v_.g9).bind fun I2=>some I2) else some false)))
theorem f4K {v_:m6} (r:Bool) (h:b6J v_=some r):o7 cx.P 123 [.agg (t0 v_)] (a90.R r) (a90.O r) :=
 q8 a90.X a90.c a90.h (fun z=>p7<|i9 2 h (fun h=>rg<|m3 a2X a6q 3 h fun J2 h=>fe z h) (fun h=>rg<|m3 K5 M7 2 h fun in_ h=>i9 3 h (fun h=>m3 a24 a58 6 h fun I2 h=>fe z h) (fun h=>fe z h)))
noncomputable def V6:FS (Bool):=⟨78,Tryz.f78,[.val [] []],[none],[.val [some 8] []],fun r=>.b r,fun _=>[none],Tryz.func78⟩
noncomputable def d0b:List Item:=V6.k 3 [false]
noncomputable def d7f (i8:List m6):St:=⟨(j9 8 t0 i8::(bs 17 [])),[some []]⟩
noncomputable def c2G (i8:List m6):Option Bool :=
 some (decide ((i8.length:Int)≤40))
theorem e54 (i8:List m6) (r:Bool) (h:c2G i8=some r):j5 cx V6.X (V6.R r) (V6.O r) d0b (d7f i8) :=
 P0<|rg<|fe V6.h h
noncomputable def c51:List Item:=V6.k 2 []
noncomputable def c6h (i8:List m6) (v7:Int):St:=⟨(j9 8 t0 i8::(bs 4 (j9 8 t0 i8::(vi (i8.length:Int)::(vi v7::(bs 10 [])))))),[some []]⟩
noncomputable def b5E (i8:List m6) (v7:Int):Option (j3 Bool Int Unit) :=
 (bif decide (v7<(i8.length:Int)) then ((idx i8 v7).bind fun A5=>((b6J A5).bind fun a1w=>(bif (!a1w) then some (j3.ret false) else some (j3.nxt (m9 (v7+1)))))) else some (j3.brk ()))
theorem e2E (i8:List m6) (res:V) (outs:s8) (x1:j8 Bool Unit) (hb1:HB cx V6.X res outs x1 d0b (fun s=>d7f i8)) (hr1:HR res outs x1 V6.R V6.O) (st1:j3 Bool Int Unit) (hc1:s5 x1 (fun s:Int=>j5 cx V6.X res outs c51 (c6h i8 s)) st1) (v7:Int) (h:b5E i8 v7=some st1):j5 cx V6.X res outs c51 (c6h i8 v7) :=
 P0<|rg<|i9 0 h (fun h=>rg<|u0 t0 0 h fun A5 O6 h=>rg<|m3 a90 f4K 1 h fun a1w h=>i9 2 h (fun h=>rg<|(z4 h hc1 fun e=>z3 V6.h (hr1 _ e))) (fun h=>rg<|(w9 h hc1 fun hI=>sg [] [0,5,6,7] [] hI))) (fun h=>(v6 h hc1 fun e=>sg [] [0] [] (hb1 _ e)))
noncomputable def b1q (i8:List m6):Option Bool :=
 ((o9 (fun s:Int=>b5E i8 s) 0).bind fun x=>x.go (fun r=>some r) fun s=>c2G i8)
theorem c8d {i8:List m6} (r:Bool) (h:b1q i8=some r):o7 cx.P 78 [j9 8 t0 i8] (V6.R r) (V6.O r) :=
 q8 V6.X V6.c V6.h (fun z=>p7<|x7 h fun x hl hr hb=>sg [] [0,5,6,7] [] (x9 (I:=fun s:Int=>j5 cx V6.X (V6.R r) (V6.O r) c51 (c6h i8 s)) hl fun s st h hc=>e2E i8 _ _ x (fun s e=>e54 i8 r (hb s e)) (fun v e=>⟨congrArg V6.R (Option.some.inj (hr v e)).symm,congrArg V6.O (Option.some.inj (hr v e)).symm⟩) st hc s h))
noncomputable def X3:FS (Bool):=⟨74,Tryz.f74,[.val [] []],[none],[.val [none,some 8] []],fun r=>.b r,fun _=>[none],Tryz.func74⟩
noncomputable def c84:List Item:=X3.k 3 [false]
noncomputable def d7e (a:A0):St:=⟨(bs 1 (.ptr 1 0 0::(bs 24 []))),[some [],some [.var 37 [vi a.d9,j9 8 t0 a.a0]]]⟩
noncomputable def c4Z (a:A0):Option Bool :=
 ((K8 a.d9 0 3000).bind fun in_=>(bif in_ then ((b1q a.a0).bind fun S8=>some S8) else some false))
theorem e2K (a:A0) (r:Bool) (h:c4Z a=some r):j5 cx X3.X (X3.R r) (X3.O r) c84 (d7e a) :=
 P0<|rg<|m3 K5 M7 2 h fun in_ h=>i9 3 h (fun h=>m3 V6 c8d 6 h fun S8 h=>fe X3.h h) (fun h=>fe X3.h h)
noncomputable def c33:List Item:=X3.k 2 []
noncomputable def c3g (a:A0) (v8:Int):St:=⟨(bs 1 (.ptr 1 0 0::(bs 4 (j9 8 t0 a.a0::(vi (a.a0.length:Int)::(vi v8::(bs 17 []))))))),[some [],some [.var 37 [vi a.d9,j9 8 t0 a.a0]]]⟩
noncomputable def b8a (a:A0) (v8:Int):Option (j3 Bool Int Unit) :=
 (bif decide (v8<(a.a0.length:Int)) then ((idx a.a0 v8).bind fun A5=>(bif decide (A5.a7>a.d9) then some (j3.ret false) else some (j3.nxt (m9 (v8+1))))) else some (j3.brk ()))
theorem e2T (a:A0) (res:V) (outs:s8) (x1:j8 Bool Unit) (hb1:HB cx X3.X res outs x1 c84 (fun s=>d7e a)) (hr1:HR res outs x1 X3.R X3.O) (st1:j3 Bool Int Unit) (hc1:s5 x1 (fun s:Int=>j5 cx X3.X res outs c33 (c3g a s)) st1) (v8:Int) (h:b8a a v8=some st1):j5 cx X3.X res outs c33 (c3g a v8) :=
 P0<|rg<|i9 0 h (fun h=>rg<|u0 t0 0 h fun A5 O6 h=>rg<|i9 4 h (fun h=>rg<|(z4 h hc1 fun e=>z3 X3.h (hr1 _ e))) (fun h=>rg<|(w9 h hc1 fun hI=>sg [] [1,6,7,8] [(1,0)] hI))) (fun h=>(v6 h hc1 fun e=>sg [] [1] [(1,0)] (hb1 _ e)))
noncomputable def b6x (a:A0):Option Bool :=
 ((o9 (fun s:Int=>b8a a s) 0).bind fun x=>x.go (fun r=>some r) fun s=>c4Z a)
theorem e2A {a:A0} (r:Bool) (h:b6x a=some r):o7 cx.P 74 [.agg (a5W a)] (X3.R r) (X3.O r) :=
 q8 X3.X X3.c X3.h (fun z=>p7<|x7 h fun x hl hr hb=>sg [] [1,6,7,8] [(1,0)] (x9 (I:=fun s:Int=>j5 cx X3.X (X3.R r) (X3.O r) c33 (c3g a s)) hl fun s st h hc=>e2T a _ _ x (fun s e=>e2K a r (hb s e)) (fun v e=>⟨congrArg X3.R (Option.some.inj (hr v e)).symm,congrArg X3.O (Option.some.inj (hr v e)).symm⟩) st hc s h))
noncomputable def V9:FS (Bool):=⟨75,Tryz.f75,[.val [] []],[none],[.val [some 7] []],fun r=>.b r,fun _=>[none],Tryz.func75⟩
noncomputable def d49:List Item:=V9.k 3 [false]
noncomputable def d9T (i8:List l8):St:=⟨(j9 7 p8 i8::(bs 17 [])),[some []]⟩
noncomputable def c5h (i8:List l8):Option Bool :=
 some (decide ((i8.length:Int)≤40))
theorem f09 (i8:List l8) (r:Bool) (h:c5h i8=some r):j5 cx V9.X (V9.R r) (V9.O r) d49 (d9T i8) :=
 P0<|rg<|fe V9.h h
noncomputable def c5X:List Item:=V9.k 2 []
noncomputable def c2J (i8:List l8) (v7:Int):St:=⟨(j9 7 p8 i8::(bs 4 (j9 7 p8 i8::(vi (i8.length:Int)::(vi v7::(bs 10 [])))))),[some []]⟩
noncomputable def b7C (i8:List l8) (v7:Int):Option (j3 Bool Int Unit) :=
 (bif decide (v7<(i8.length:Int)) then ((idx i8 v7).bind fun z8=>((a4c z8).bind fun I2=>(bif (!I2) then some (j3.ret false) else some (j3.nxt (m9 (v7+1)))))) else some (j3.brk ()))
theorem f0g (i8:List l8) (res:V) (outs:s8) (x1:j8 Bool Unit) (hb1:HB cx V9.X res outs x1 d49 (fun s=>d9T i8)) (hr1:HR res outs x1 V9.R V9.O) (st1:j3 Bool Int Unit) (hc1:s5 x1 (fun s:Int=>j5 cx V9.X res outs c5X (c2J i8 s)) st1) (v7:Int) (h:b7C i8 v7=some st1):j5 cx V9.X res outs c5X (c2J i8 v7) :=
 P0<|rg<|i9 0 h (fun h=>rg<|u0 p8 0 h fun z8 I0 h=>rg<|m3 a24 a58 1 h fun I2 h=>i9 2 h (fun h=>rg<|(z4 h hc1 fun e=>z3 V9.h (hr1 _ e))) (fun h=>rg<|(w9 h hc1 fun hI=>sg [] [0,5,6,7] [] hI))) (fun h=>(v6 h hc1 fun e=>sg [] [0] [] (hb1 _ e)))
noncomputable def b0d (i8:List l8):Option Bool :=
 ((o9 (fun s:Int=>b7C i8 s) 0).bind fun x=>x.go (fun r=>some r) fun s=>c5h i8)
theorem c6n {i8:List l8} (r:Bool) (h:b0d i8=some r):o7 cx.P 75 [j9 7 p8 i8] (V9.R r) (V9.O r) :=
 q8 V9.X V9.c V9.h (fun z=>p7<|x7 h fun x hl hr hb=>sg [] [0,5,6,7] [] (x9 (I:=fun s:Int=>j5 cx V9.X (V9.R r) (V9.O r) c5X (c2J i8 s)) hl fun s st h hc=>f0g i8 _ _ x (fun s e=>f09 i8 r (hb s e)) (fun v e=>⟨congrArg V9.R (Option.some.inj (hr v e)).symm,congrArg V9.O (Option.some.inj (hr v e)).symm⟩) st hc s h))
noncomputable def a2Q:FS (Bool):=⟨124,Tryz.f124,[.val [] []],[none],[.val [] []],fun r=>.b r,fun _=>[none],Tryz.func124⟩
noncomputable def a4H (n:Int):Option Bool :=
 ((K8 n 0 3).bind fun in_=>some in_)
theorem a5Z {n:Int} (r:Bool) (h:a4H n=some r):o7 cx.P 124 [vi n] (a2Q.R r) (a2Q.O r) :=
 q8 a2Q.X a2Q.c a2Q.h (fun z=>p7<|m3 K5 M7 1 h fun in_ h=>fe z h)
noncomputable def a85:FS (Bool):=⟨125,Tryz.f125,[.val [] []],[none],[.val [] []],fun r=>.b r,fun _=>[none],Tryz.func125⟩
noncomputable def b7B (n:Int):Option Bool :=
 ((K8 n 0 3).bind fun in_=>some in_)
theorem d3g {n:Int} (r:Bool) (h:b7B n=some r):o7 cx.P 125 [vi n] (a85.R r) (a85.O r) :=
 q8 a85.X a85.c a85.h (fun z=>p7<|m3 K5 M7 1 h fun in_ h=>fe z h)
noncomputable def b2k:FS (Bool):=⟨79,Tryz.f79,[.val [] []],[none],[.val [] []],fun r=>.b r,fun _=>[none],Tryz.func79⟩
noncomputable def b9b (x_:m7):Option Bool :=
 (bif (x_.c9==1) then ((a4H x_.A).bind fun c1=>(bif c1 then ((b7B x_.B).bind fun c2=>(bif c2 then some (x_.N==0) else some false)) else some false)) else (bif (x_.c9==2) then ((b7B x_.A).bind fun c21=>(bif c21 then ((a4H x_.B).bind fun c11=>(bif c11 then some (x_.N==0) else some false)) else some false)) else (bif (x_.c9==3) then ((a4H x_.A).bind fun c12=>(bif c12 then (bif (x_.B==0) then ((K8 x_.N (-1000000) 1000000).bind fun in_=>some in_) else some false) else some false)) else (bif (x_.c9==4) then ((a4H x_.A).bind fun c13=>(bif c13 then ((a4H x_.B).bind fun c14=>(bif c14 then some (x_.N==0) else some false)) else some false)) else (bif (x_.c9==5) then ((a4H x_.A).bind fun c15=>(bif c15 then ((a4H x_.B).bind fun c16=>(bif c16 then some (x_.N==0) else some false)) else some false)) else (bif (x_.c9==6) then ((a4H x_.A).bind fun c17=>(bif c17 then ((a4H x_.B).bind fun c18=>(bif c18 then ((K8 x_.N 1 10).bind fun N2=>some N2) else some false)) else some false)) else (bif (x_.c9==7) then (bif (x_.A==0) then (bif (x_.B==0) then some (x_.N==0) else some false) else some false) else some false)))))))
set_option maxRecDepth 20000 in
theorem f3O {x_:m7} (r:Bool) (h:b9b x_=some r):o7 cx.P 79 [.agg (A8 x_)] (b2k.R r) (b2k.O r) :=
 q8 b2k.X b2k.c b2k.h (fun z=>rg4<|rg<|i9 1 h (fun h=>rg<|m3 a2Q a5Z 3 h fun c1 h=>i9 4 h (fun h=>m3 a85 d3g 8 h fun c2 h=>i9 10 h (fun h=>fe z h) (fun h=>fe z h)) (fun h=>fe z h)) (fun h=>rg<|i9 1 h (fun h=>rg<|m3 a85 d3g 3 h fun c21 h=>i9 4 h (fun h=>m3 a2Q a5Z 8 h fun c11 h=>i9 10 h (fun h=>fe z h) (fun h=>fe z h)) (fun h=>fe z h)) (fun h=>rg<|i9 1 h (fun h=>rg<|m3 a2Q a5Z 3 h fun c12 h=>i9 4 h (fun h=>i9 9 h (fun h=>m3 K5 M7 12 h fun in_ h=>fe z h) (fun h=>fe z h)) (fun h=>fe z h)) (fun h=>rg<|i9 1 h (fun h=>rg<|m3 a2Q a5Z 3 h fun c13 h=>i9 4 h (fun h=>m3 a2Q a5Z 8 h fun c14 h=>i9 10 h (fun h=>fe z h) (fun h=>fe z h)) (fun h=>fe z h)) (fun h=>rg<|i9 1 h (fun h=>rg<|m3 a2Q a5Z 3 h fun c15 h=>i9 4 h (fun h=>m3 a2Q a5Z 8 h fun c16 h=>i9 10 h (fun h=>fe z h) (fun h=>fe z h)) (fun h=>fe z h)) (fun h=>rg<|i9 1 h (fun h=>rg<|m3 a2Q a5Z 3 h fun c17 h=>i9 4 h (fun h=>m3 a2Q a5Z 8 h fun c18 h=>i9 10 h (fun h=>m3 K5 M7 13 h fun N2 h=>fe z h) (fun h=>fe z h)) (fun h=>fe z h)) (fun h=>rg<|i9 1 h (fun h=>rg<|i9 3 h (fun h=>i9 8 h (fun h=>fe z h) (fun h=>fe z h)) (fun h=>fe z h)) (fun h=>rg<|fe z h))))))))
noncomputable def V5:FS (Bool):=⟨39,Tryz.f39,[.val [] []],[none],[.val [some 4] []],fun r=>.b r,fun _=>[none],Tryz.func39⟩
noncomputable def d9E:List Item:=V5.k 3 [false]
noncomputable def c9P (i8:List m7):St:=⟨(j9 4 A8 i8::(bs 17 [])),[some []]⟩
noncomputable def c6Z (i8:List m7):Option Bool :=
 some (decide ((i8.length:Int)≤10))
theorem f2d (i8:List m7) (r:Bool) (h:c6Z i8=some r):j5 cx V5.X (V5.R r) (V5.O r) d9E (c9P i8) :=
 P0<|rg<|fe V5.h h
noncomputable def c4I:List Item:=V5.k 2 []
noncomputable def c5a (i8:List m7) (v7:Int):St:=⟨(j9 4 A8 i8::(bs 4 (j9 4 A8 i8::(vi (i8.length:Int)::(vi v7::(bs 10 [])))))),[some []]⟩
noncomputable def b5D (i8:List m7) (v7:Int):Option (j3 Bool Int Unit) :=
 (bif decide (v7<(i8.length:Int)) then ((idx i8 v7).bind fun ins=>((b9b ins).bind fun Z3=>(bif (!Z3) then some (j3.ret false) else some (j3.nxt (m9 (v7+1)))))) else some (j3.brk ()))
theorem f1W (i8:List m7) (res:V) (outs:s8) (x1:j8 Bool Unit) (hb1:HB cx V5.X res outs x1 d9E (fun s=>c9P i8)) (hr1:HR res outs x1 V5.R V5.O) (st1:j3 Bool Int Unit) (hc1:s5 x1 (fun s:Int=>j5 cx V5.X res outs c4I (c5a i8 s)) st1) (v7:Int) (h:b5D i8 v7=some st1):j5 cx V5.X res outs c4I (c5a i8 v7) :=
 P0<|rg<|i9 0 h (fun h=>rg<|u0 A8 0 h fun ins hins h=>rg<|m3 b2k f3O 1 h fun Z3 h=>i9 2 h (fun h=>rg<|(z4 h hc1 fun e=>z3 V5.h (hr1 _ e))) (fun h=>rg<|(w9 h hc1 fun hI=>sg [] [0,5,6,7] [] hI))) (fun h=>(v6 h hc1 fun e=>sg [] [0] [] (hb1 _ e)))
noncomputable def a9T (i8:List m7):Option Bool :=
 ((o9 (fun s:Int=>b5D i8 s) 0).bind fun x=>x.go (fun r=>some r) fun s=>c6Z i8)
theorem c7Y {i8:List m7} (r:Bool) (h:a9T i8=some r):o7 cx.P 39 [j9 4 A8 i8] (V5.R r) (V5.O r) :=
 q8 V5.X V5.c V5.h (fun z=>p7<|x7 h fun x hl hr hb=>sg [] [0,5,6,7] [] (x9 (I:=fun s:Int=>j5 cx V5.X (V5.R r) (V5.O r) c4I (c5a i8 s)) hl fun s st h hc=>f1W i8 _ _ x (fun s e=>f2d i8 r (hb s e)) (fun v e=>⟨congrArg V5.R (Option.some.inj (hr v e)).symm,congrArg V5.O (Option.some.inj (hr v e)).symm⟩) st hc s h))
noncomputable def b03:FS (Int):=⟨121,Tryz.f121,[.val [] []],[none],[.val [] []],fun r=>vi r,fun _=>[none],Tryz.func121⟩
noncomputable def b5X (bal:Int):Option Int :=
 ((K8 bal 1 3000).bind fun in_=>(bif (!in_) then some (-1) else some (Int.tmod bal 3)))
theorem e0q {bal:Int} (r:Int) (h:b5X bal=some r):o7 cx.P 121 [vi bal] (b03.R r) (b03.O r) :=
 q8 b03.X b03.c b03.h (fun z=>p7<|m3 K5 M7 1 h fun in_ h=>i9 2 h (fun h=>rg<|fe z h) (fun h=>rg<|om (3≠(0:Int)) (by decide)<|fe z h))
noncomputable def a9t:FS (Bool):=⟨122,Tryz.f122,[.val [] []],[none,none],[.val [some 1] [],.val [] []],fun r=>.b r,fun _=>[none,none],Tryz.func122⟩
noncomputable def b4i (i8:List Bool) (id:Int):Option Bool :=
 (bif ((i8.length:Int)==3) then ((idx i8 id).bind fun y=>some y) else some false)
theorem d36 {i8:List Bool} {id:Int} (r:Bool) (h:b4i i8 id=some r):o7 cx.P 122 [j9 1 eB i8,vi id] (a9t.R r) (a9t.O r) :=
 q8 a9t.X a9t.c a9t.h (fun z=>p7<|i9 3 h (fun h=>u0 eB 6 h fun y hy h=>fe z h) (fun h=>fe z h))
noncomputable def R1:FS (Bool):=⟨77,Tryz.f77,[.val [] []],[none],[.val O4 []],fun r=>.b r,fun _=>[none],Tryz.func77⟩
noncomputable def d5V:List Item:=R1.k 2 []
noncomputable def c9A (n:j4) (a7U:Bool):St:=⟨(bs 1 (.ptr 1 0 0::(bs 1 (.b a7U::(bs 92 []))))),[some [],some [.var 50 (a09 n)]]⟩
noncomputable def b7a (n:j4) (a7U:Bool):Option Bool :=
 (bif (n.d7==0) then (bif (n.a7==0) then (bif ((n.b5.length:Int)==0) then (bif ((n.i4.length:Int)==0) then some a7U else some false) else some false) else some false) else ((b5X n.a7).bind fun b3P=>(bif (b3P != n.Id) then some false else (bif decide (n.a7>n.Acc.d9) then some false else ((b1q n.i4).bind fun S8=>(bif (!S8) then some false else (bif (n.d7==1) then ((b4i n.b5 n.Id).bind fun d0P=>(bif d0P then some a7U else some false)) else (bif (n.d7==2) then (bif ((n.b5.length:Int)==0) then some a7U else some false) else (bif (n.d7==3) then (bif ((n.b5.length:Int)==0) then ((a4c n.b9).bind fun I2=>(bif I2 then ((b4i n.a0 n.Id).bind fun d1u=>(bif d1u then some (decide ((n.a6.length:Int)<40)) else some false)) else some false)) else some false) else some false)))))))))
theorem e5P (n:j4) (r:Bool) (a7U:Bool) (h:b7a n a7U=some r):j5 cx R1.X (R1.R r) (R1.O r) d5V (c9A n a7U) :=
 P0<|p7<|i9 2 h (fun h=>rg<|i9 3 h (fun h=>i9 6 h (fun h=>i9 12 h (fun h=>fe R1.h h) (fun h=>fe R1.h h)) (fun h=>fe R1.h h)) (fun h=>fe R1.h h)) (fun h=>rg<|m3 b03 e0q 2 h fun b3P h=>i9 6 h (fun h=>rg<|fe R1.h h) (fun h=>i9 14 h (fun h=>rg<|fe R1.h h) (fun h=>m3 V6 c8d 17 h fun S8 h=>i9 19 h (fun h=>rg<|fe R1.h h) (fun h=>p7<|i9 1 h (fun h=>rg<|m3 a9t d36 4 h fun d0P h=>i9 5 h (fun h=>fe R1.h h) (fun h=>fe R1.h h)) (fun h=>rg<|i9 1 h (fun h=>rg<|i9 1 h (fun h=>fe R1.h h) (fun h=>fe R1.h h)) (fun h=>rg<|i9 1 h (fun h=>rg<|i9 1 h (fun h=>m3 a24 a58 4 h fun I2 h=>i9 6 h (fun h=>m3 a9t d36 11 h fun d1u h=>i9 13 h (fun h=>fe R1.h h) (fun h=>fe R1.h h)) (fun h=>fe R1.h h)) (fun h=>fe R1.h h)) (fun h=>rg<|fe R1.h h)))))))
noncomputable def b3L (n:j4):Option Bool :=
 ((((a3J n.b9 (l8.mk false (n5.mk 0 0) (m8.mk [] [] 0 0))).bind fun J2=>(bif J2 then some (j8.brk ((n.a0.length:Int)==0)) else some (j8.brk false))):Option (j8 Bool Bool)).bind fun x=>x.go some fun j=>b7a n j)
theorem e4k {n:j4} (r:Bool) (h:b3L n=some r):o7 cx.P 77 [.agg (C1 n)] (R1.R r) (R1.O r) :=
 q8 R1.X R1.c R1.h (fun z=>rg<|E1 (I:=fun j:Bool=>j5 cx R1.X (R1.R r) (R1.O r) d5V (c9A n j)) h (fun j h=>e5P n r j h) (fun x1 h hc1=>rg<|m3 a2X a6q 3 h fun J2 h=>i9 4 h (fun h=>(s6 h hc1 fun hI=>sg [] [1,3] [(1,0)] hI)) (fun h=>(s6 h hc1 fun hI=>sg [] [1,3] [(1,0)] hI))))
noncomputable def L2:FS (Bool):=⟨36,Tryz.f36,[.val [] []],[none],[.val O4 []],fun r=>.b r,fun _=>[none],Tryz.func36⟩
noncomputable def d3y:List Item:=L2.k 4 [false,false]
noncomputable def d80 (n:j4):St:=⟨(bs 1 (.ptr 1 0 0::(bs 87 []))),[some [],some [.var 50 (a09 n)]]⟩
noncomputable def d4q:List Item:=L2.k 6 [false,false,true,false]
noncomputable def d7r (n:j4):St:=⟨(bs 1 (.ptr 1 0 0::(bs 87 []))),[some [],some [.var 50 (a09 n)]]⟩
noncomputable def c19 (n:j4):Option Bool :=
 ((b3L n).bind fun a1O=>some a1O)
theorem f4p (n:j4) (r:Bool) (h:c19 n=some r):j5 cx L2.X (L2.R r) (L2.O r) d4q (d7r n) :=
 P0<|rg<|m3 R1 e4k 1 h fun a1O h=>fe L2.h h
noncomputable def b54 (n:j4):Option Bool :=
 (((bif n.i6 then ((a9T n.g7).bind fun I8=>(bif (!I8) then some (j8.ret false) else ((a4c n.b8).bind fun I2=>(bif (!I2) then some (j8.ret false) else (bif n.b8.i0 then some (j8.ret false) else (bif (!(([n.b8.a5.c8,n.b8.a5.Seq]:List Int)==[n.Id,n.Seq])) then some (j8.ret false) else some (j8.brk ()))))))) else (bif decide ((n.g7.length:Int)>0) then some (j8.ret false) else ((a3J n.b8 (l8.mk false (n5.mk 0 0) (m8.mk [] [] 0 0))).bind fun J2=>(bif (!J2) then some (j8.ret false) else some (j8.brk ()))))):Option (j8 Bool Unit)).bind fun x=>x.go some fun j=>c19 n)
theorem e6a (n:j4) (r:Bool) (h:b54 n=some r):j5 cx L2.X (L2.R r) (L2.O r) d3y (d80 n) :=
 P0<|E1 (I:=fun j:Unit=>j5 cx L2.X (L2.R r) (L2.O r) d4q (d7r n)) h (fun j h=>f4p n r h) (fun x1 h hc1=>rg<|i9 1 h (fun h=>rg<|m3 V5 c7Y 2 h fun I8 h=>i9 4 h (fun h=>rg<|(D6 h hc1 fun h=>fe L2.h h)) (fun h=>m3 a24 a58 7 h fun I2 h=>i9 10 h (fun h=>rg<|(D6 h hc1 fun h=>fe L2.h h)) (fun h=>i9 15 h (fun h=>rg<|(D6 h hc1 fun h=>fe L2.h h)) (fun h=>i9 25 h (fun h=>rg<|(D6 h hc1 fun h=>fe L2.h h)) (fun h=>(s6 h hc1 fun hI=>sg [] [1] [(1,0)] hI)))))) (fun h=>rg<|i9 4 h (fun h=>rg<|(D6 h hc1 fun h=>fe L2.h h)) (fun h=>m3 a2X a6q 8 h fun J2 h=>i9 10 h (fun h=>rg<|(D6 h hc1 fun h=>fe L2.h h)) (fun h=>(s6 h hc1 fun hI=>sg [] [1] [(1,0)] hI)))))
noncomputable def c5U:List Item:=L2.k 3 [false]
noncomputable def c42 (n:j4) (v36:Int):St:=⟨(bs 1 (.ptr 1 0 0::(bs 32 (j9 7 p8 n.b7::(vi (n.b7.length:Int)::(vi v36::(bs 52 []))))))),[some [],some [.var 50 (a09 n)]]⟩
noncomputable def b7H (n:j4) (v36:Int):Option (j3 Bool Int Unit) :=
 (bif decide (v36<(n.b7.length:Int)) then ((idx n.b7 v36).bind fun z8=>((a4c z8).bind fun a4m=>(bif (!a4m) then some (j3.ret false) else (bif z8.i0 then some (j3.ret false) else some (j3.nxt (m9 (v36+1))))))) else some (j3.brk ()))
theorem f0T (n:j4) (res:V) (outs:s8) (x1:j8 Bool Unit) (hb1:HB cx L2.X res outs x1 d3y (fun s=>d80 n)) (hr1:HR res outs x1 L2.R L2.O) (st1:j3 Bool Int Unit) (hc1:s5 x1 (fun s:Int=>j5 cx L2.X res outs c5U (c42 n s)) st1) (v36:Int) (h:b7H n v36=some st1):j5 cx L2.X res outs c5U (c42 n v36) :=
 P0<|rg<|i9 0 h (fun h=>rg<|u0 p8 0 h fun z8 I0 h=>rg<|m3 a24 a58 1 h fun a4m h=>i9 3 h (fun h=>rg<|(z4 h hc1 fun e=>z3 L2.h (hr1 _ e))) (fun h=>i9 6 h (fun h=>rg<|(z4 h hc1 fun e=>z3 L2.h (hr1 _ e))) (fun h=>rg<|(w9 h hc1 fun hI=>sg [] [1,34,35,36] [(1,0)] hI)))) (fun h=>(v6 h hc1 fun e=>sg [] [1] [(1,0)] (hb1 _ e)))
noncomputable def b7k (n:j4):Option Bool :=
 ((K8 n.Id 0 2).bind fun in_=>(bif (!in_) then some false else ((b6x n.Acc).bind fun a1B=>(bif (!a1B) then some false else ((b0d n.a6).bind fun L0=>(bif (!L0) then some false else ((K8 n.Seq 0 1000).bind fun N2=>(bif (!N2) then some false else (bif decide ((n.b7.length:Int)>4) then some false else ((o9 (fun s:Int=>b7H n s) 0).bind fun x=>x.go (fun r=>some r) fun s=>b54 n))))))))))
theorem e8Y {n:j4} (r:Bool) (h:b7k n=some r):o7 cx.P 36 [.agg (C1 n)] (L2.R r) (L2.O r) :=
 q8 L2.X L2.c L2.h (fun z=>p7<|m3 K5 M7 2 h fun in_ h=>i9 4 h (fun h=>rg<|fe z h) (fun h=>m3 X3 e2A 7 h fun a1B h=>i9 10 h (fun h=>rg<|fe z h) (fun h=>m3 V9 c6n 13 h fun L0 h=>i9 16 h (fun h=>rg<|fe z h) (fun h=>m3 K5 M7 19 h fun N2 h=>i9 22 h (fun h=>rg<|fe z h) (fun h=>i9 27 h (fun h=>rg<|fe z h) (fun h=>rg<|x7 h fun x hl hr hb=>sg [] [1,34,35,36] [(1,0)] (x9 (I:=fun s:Int=>j5 cx L2.X (L2.R r) (L2.O r) c5U (c42 n s)) hl fun s st h hc=>f0T n _ _ x (fun s e=>e6a n r (hb s e)) (fun v e=>⟨congrArg L2.R (Option.some.inj (hr v e)).symm,congrArg L2.O (Option.some.inj (hr v e)).symm⟩) st hc s h)))))))
noncomputable def b0G:FS (Bool):=⟨37,Tryz.f37,[.val [] []],[none],[.val H2 []],fun r=>.b r,fun _=>[none],Tryz.func37⟩
noncomputable def b6g (m:l9):Option Bool :=
 ((K8 m.b5 0 2).bind fun in_=>(bif (!in_) then some false else ((K8 m.To 0 2).bind fun N2=>(bif (!N2) then some false else (bif (m.b5==m.To) then some false else ((K8 m.i5 0 40).bind fun Q1=>(bif (!Q1) then some false else ((K8 m.a7 1 3000).bind fun a3Z=>((a3J m.g9 (l8.mk false (n5.mk 0 0) (m8.mk [] [] 0 0))).bind fun J2=>(bif (m.c9==1) then (bif a3Z then (bif J2 then some ((m.a0.length:Int)==0) else some false) else some false) else (bif (m.c9==4) then (bif a3Z then (bif J2 then some ((m.a0.length:Int)==0) else some false) else some false) else (bif (m.c9==2) then (bif a3Z then (bif J2 then ((b1q m.a0).bind fun S8=>(bif S8 then some (decide ((m9 (m.i5+(m.a0.length:Int)))≤40)) else some false)) else some false) else some false) else (bif (m.c9==3) then (bif a3Z then (bif decide (m.i5<40) then ((a4c m.g9).bind fun I2=>(bif I2 then some ((m.a0.length:Int)==0) else some false)) else some false) else some false) else (bif (m.c9==5) then (bif (m.a7==0) then (bif decide (m.i5<40) then ((a4c m.g9).bind fun a4m=>(bif a4m then some ((m.a0.length:Int)==0) else some false)) else some false) else some false) else (bif (m.c9==6) then (bif a3Z then (bif (m.i5==0) then (bif J2 then some ((m.a0.length:Int)==0) else some false) else some false) else some false) else (bif (m.c9==7) then (bif (m.a7==0) then (bif (m.i5==0) then ((a4c m.g9).bind fun d1N=>(bif d1N then (bif (!m.g9.i0) then some ((m.a0.length:Int)==0) else some false) else some false)) else some false) else some false) else (bif (m.c9==8) then (bif (m.a7==0) then (bif J2 then some ((m.a0.length:Int)==0) else some false) else some false) else some false)))))))))))))))))
set_option maxRecDepth 20000 in
theorem f3r {m:l9} (r:Bool) (h:b6g m=some r):o7 cx.P 37 [.agg (z5 m)] (b0G.R r) (b0G.O r) :=
 q8 b0G.X b0G.c b0G.h (fun z=>p7<|m3 K5 M7 2 h fun in_ h=>i9 4 h (fun h=>rg<|fe z h) (fun h=>m3 K5 M7 7 h fun N2 h=>i9 10 h (fun h=>rg<|fe z h) (fun h=>i9 17 h (fun h=>rg<|fe z h) (fun h=>m3 K5 M7 20 h fun Q1 h=>i9 22 h (fun h=>rg<|fe z h) (fun h=>rg<|m3 K5 M7 2 h fun a3Z h=>rg<|m3 a2X a6q 3 h fun J2 h=>rg3<|i9 1 h (fun h=>rg<|i9 1 h (fun h=>i9 4 h (fun h=>fe z h) (fun h=>fe z h)) (fun h=>fe z h)) (fun h=>rg<|i9 1 h (fun h=>rg<|i9 1 h (fun h=>i9 4 h (fun h=>fe z h) (fun h=>fe z h)) (fun h=>fe z h)) (fun h=>rg<|i9 1 h (fun h=>rg<|i9 1 h (fun h=>i9 4 h (fun h=>m3 V6 c8d 7 h fun S8 h=>i9 9 h (fun h=>fe z h) (fun h=>fe z h)) (fun h=>fe z h)) (fun h=>fe z h)) (fun h=>rg<|i9 1 h (fun h=>rg<|i9 1 h (fun h=>i9 6 h (fun h=>m3 a24 a58 9 h fun I2 h=>i9 11 h (fun h=>fe z h) (fun h=>fe z h)) (fun h=>fe z h)) (fun h=>fe z h)) (fun h=>rg<|i9 1 h (fun h=>rg<|i9 3 h (fun h=>i9 8 h (fun h=>m3 a24 a58 11 h fun a4m h=>i9 13 h (fun h=>fe z h) (fun h=>fe z h)) (fun h=>fe z h)) (fun h=>fe z h)) (fun h=>rg<|i9 1 h (fun h=>rg<|i9 1 h (fun h=>i9 6 h (fun h=>i9 9 h (fun h=>fe z h) (fun h=>fe z h)) (fun h=>fe z h)) (fun h=>fe z h)) (fun h=>rg<|i9 1 h (fun h=>rg<|i9 3 h (fun h=>i9 8 h (fun h=>m3 a24 a58 11 h fun d1N h=>i9 13 h (fun h=>i9 19 h (fun h=>fe z h) (fun h=>fe z h)) (fun h=>fe z h)) (fun h=>fe z h)) (fun h=>fe z h)) (fun h=>rg<|i9 1 h (fun h=>rg<|i9 3 h (fun h=>i9 6 h (fun h=>fe z h) (fun h=>fe z h)) (fun h=>fe z h)) (fun h=>rg<|fe z h)))))))))))))
noncomputable def B7:FS (Bool):=⟨17,Tryz.f17,[.val [] []],[none],[.val K4 []],fun r=>.b r,fun _=>[none],Tryz.func17⟩
noncomputable def c91:List Item:=B7.k 4 [false,false]
noncomputable def d5t (w:l7):St:=⟨(bs 1 (.ptr 1 0 0::(bs 116 []))),[some [],some [.var 28 (D3 w)]]⟩
noncomputable def d4W:List Item:=B7.k 6 [false,false,false]
noncomputable def d0v (w:l7):St:=⟨(bs 1 (.ptr 1 0 0::(bs 116 []))),[some [],some [.var 28 (D3 w)]]⟩
noncomputable def d77:List Item:=B7.k 8 [false,false,false,false]
noncomputable def d4z (w:l7):St:=⟨(bs 1 (.ptr 1 0 0::(bs 116 []))),[some [],some [.var 28 (D3 w)]]⟩
noncomputable def d1Y:List Item:=B7.k 10 [false,false,false,false,false]
noncomputable def d71:St:=⟨(bs 118 []),[some []]⟩
noncomputable def d2E:Option Bool :=
 some true
theorem f3s (r:Bool) (h:d2E=some r):j5 cx B7.X (B7.R r) (B7.O r) d1Y (d71) :=
 P0<|rg<|fe B7.h h
noncomputable def c1K:List Item:=B7.k 9 [false,false,false,false]
noncomputable def c4r (w:l7) (v83:Int):St:=⟨(bs 81 (j9 5 B9 w.Told::(vi (w.Told.length:Int)::(vi v83::(bs 34 []))))),[some []]⟩
noncomputable def b85 (w:l7) (v83:Int):Option (j3 Bool Int Unit) :=
 (bif decide (v83<(w.Told.length:Int)) then ((idx w.Told v83).bind fun z7=>((K8 z7.Node 0 2).bind fun in_=>(bif (!in_) then some (j3.ret false) else ((a7q z7.a5).bind fun a7E=>(bif (!a7E) then some (j3.ret false) else (bif (z7.a5.c8 != z7.Node) then some (j3.ret false) else ((K8 z7.Code 0 4).bind fun N2=>(bif (!N2) then some (j3.ret false) else ((K8 z7.d6 (-1000000) 1000000).bind fun Q1=>(bif (!Q1) then some (j3.ret false) else some (j3.nxt (m9 (v83+1))))))))))))) else some (j3.brk ()))
theorem f1u (w:l7) (res:V) (outs:s8) (x1:j8 Bool Unit) (hb1:HB cx B7.X res outs x1 d1Y (fun s=>d71)) (hr1:HR res outs x1 B7.R B7.O) (st1:j3 Bool Int Unit) (hc1:s5 x1 (fun s:Int=>j5 cx B7.X res outs c1K (c4r w s)) st1) (v83:Int) (h:b85 w v83=some st1):j5 cx B7.X res outs c1K (c4r w v83) :=
 P0<|rg<|i9 0 h (fun h=>rg<|u0 B9 0 h fun z7 a5A h=>rg<|m3 K5 M7 2 h fun in_ h=>i9 4 h (fun h=>rg<|(z4 h hc1 fun e=>z3 B7.h (hr1 _ e))) (fun h=>m3 a5v b3W 7 h fun a7E h=>i9 10 h (fun h=>rg<|(z4 h hc1 fun e=>z3 B7.h (hr1 _ e))) (fun h=>i9 18 h (fun h=>rg<|(z4 h hc1 fun e=>z3 B7.h (hr1 _ e))) (fun h=>m3 K5 M7 21 h fun N2 h=>i9 24 h (fun h=>rg<|(z4 h hc1 fun e=>z3 B7.h (hr1 _ e))) (fun h=>m3 K5 M7 27 h fun Q1 h=>i9 29 h (fun h=>rg<|(z4 h hc1 fun e=>z3 B7.h (hr1 _ e))) (fun h=>rg<|(w9 h hc1 fun hI=>sg [] [81,82,83] [] hI))))))) (fun h=>(v6 h hc1 fun e=>sg [] [] [] (hb1 _ e)))
noncomputable def b7I (w:l7):Option Bool :=
 ((o9 (fun s:Int=>b85 w s) 0).bind fun x=>x.go (fun r=>some r) fun s=>d2E)
theorem e8J (w:l7) (r:Bool) (h:b7I w=some r):j5 cx B7.X (B7.R r) (B7.O r) d77 (d4z w) :=
 P0<|rg<|x7 h fun x hl hr hb=>sg [] [81,82,83] [] (x9 (I:=fun s:Int=>j5 cx B7.X (B7.R r) (B7.O r) c1K (c4r w s)) hl fun s st h hc=>f1u w _ _ x (fun s e=>f3s r (hb s e)) (fun v e=>⟨congrArg B7.R (Option.some.inj (hr v e)).symm,congrArg B7.O (Option.some.inj (hr v e)).symm⟩) st hc s h)
noncomputable def c41:List Item:=B7.k 7 [false,false,false]
noncomputable def c1f (w:l7) (v65:Int):St:=⟨(bs 1 (.ptr 1 0 0::(bs 61 (j9 3 E5 w.Asked::(vi (w.Asked.length:Int)::(vi v65::(bs 52 []))))))),[some [],some [.var 28 (D3 w)]]⟩
noncomputable def b7j (w:l7) (v65:Int):Option (j3 Bool Int Unit) :=
 (bif decide (v65<(w.Asked.length:Int)) then ((idx w.Asked v65).bind fun asked=>((a7q asked.a5).bind fun b4E=>(bif (!b4E) then some (j3.ret false) else ((a9T asked.g7).bind fun I8=>(bif (!I8) then some (j3.ret false) else some (j3.nxt (m9 (v65+1)))))))) else some (j3.brk ()))
theorem f0j (w:l7) (res:V) (outs:s8) (x1:j8 Bool Unit) (hb1:HB cx B7.X res outs x1 d77 (fun s=>d4z w)) (hr1:HR res outs x1 B7.R B7.O) (st1:j3 Bool Int Unit) (hc1:s5 x1 (fun s:Int=>j5 cx B7.X res outs c41 (c1f w s)) st1) (v65:Int) (h:b7j w v65=some st1):j5 cx B7.X res outs c41 (c1f w v65) :=
 P0<|rg<|i9 0 h (fun h=>rg<|u0 E5 0 h fun asked a8k h=>rg<|m3 a5v b3W 2 h fun b4E h=>i9 4 h (fun h=>rg<|(z4 h hc1 fun e=>z3 B7.h (hr1 _ e))) (fun h=>m3 V5 c7Y 7 h fun I8 h=>i9 9 h (fun h=>rg<|(z4 h hc1 fun e=>z3 B7.h (hr1 _ e))) (fun h=>rg<|(w9 h hc1 fun hI=>sg [] [1,63,64,65] [(1,0)] hI)))) (fun h=>(v6 h hc1 fun e=>sg [] [1] [(1,0)] (hb1 _ e)))
noncomputable def b9G (w:l7):Option Bool :=
 ((o9 (fun s:Int=>b7j w s) 0).bind fun x=>x.go (fun r=>some r) fun s=>b7I w)
theorem e7j (w:l7) (r:Bool) (h:b9G w=some r):j5 cx B7.X (B7.R r) (B7.O r) d4W (d0v w) :=
 P0<|rg<|x7 h fun x hl hr hb=>sg [] [1,63,64,65] [(1,0)] (x9 (I:=fun s:Int=>j5 cx B7.X (B7.R r) (B7.O r) c41 (c1f w s)) hl fun s st h hc=>f0j w _ _ x (fun s e=>e8J w r (hb s e)) (fun v e=>⟨congrArg B7.R (Option.some.inj (hr v e)).symm,congrArg B7.O (Option.some.inj (hr v e)).symm⟩) st hc s h)
noncomputable def c4y:List Item:=B7.k 5 [false,false]
noncomputable def c44 (w:l7) (v54:Int):St:=⟨(bs 1 (.ptr 1 0 0::(bs 50 (j9 13 z5 w.Net::(vi (w.Net.length:Int)::(vi v54::(bs 63 []))))))),[some [],some [.var 28 (D3 w)]]⟩
noncomputable def c08 (w:l7) (v54:Int):Option (j3 Bool Int Unit) :=
 (bif decide (v54<(w.Net.length:Int)) then ((idx w.Net v54).bind fun msg=>((b6g msg).bind fun a0C=>(bif (!a0C) then some (j3.ret false) else some (j3.nxt (m9 (v54+1)))))) else some (j3.brk ()))
theorem e5W (w:l7) (res:V) (outs:s8) (x1:j8 Bool Unit) (hb1:HB cx B7.X res outs x1 d4W (fun s=>d0v w)) (hr1:HR res outs x1 B7.R B7.O) (st1:j3 Bool Int Unit) (hc1:s5 x1 (fun s:Int=>j5 cx B7.X res outs c4y (c44 w s)) st1) (v54:Int) (h:c08 w v54=some st1):j5 cx B7.X res outs c4y (c44 w v54) :=
 P0<|rg<|i9 0 h (fun h=>rg<|u0 z5 0 h fun msg b1t h=>rg<|m3 b0G f3r 1 h fun a0C h=>i9 2 h (fun h=>rg<|(z4 h hc1 fun e=>z3 B7.h (hr1 _ e))) (fun h=>rg<|(w9 h hc1 fun hI=>sg [] [1,52,53,54] [(1,0)] hI))) (fun h=>(v6 h hc1 fun e=>sg [] [1] [(1,0)] (hb1 _ e)))
noncomputable def b8e (w:l7):Option Bool :=
 ((o9 (fun s:Int=>c08 w s) 0).bind fun x=>x.go (fun r=>some r) fun s=>b9G w)
theorem e0P (w:l7) (r:Bool) (h:b8e w=some r):j5 cx B7.X (B7.R r) (B7.O r) c91 (d5t w) :=
 P0<|rg<|x7 h fun x hl hr hb=>sg [] [1,52,53,54] [(1,0)] (x9 (I:=fun s:Int=>j5 cx B7.X (B7.R r) (B7.O r) c4y (c44 w s)) hl fun s st h hc=>e5W w _ _ x (fun s e=>e7j w r (hb s e)) (fun v e=>⟨congrArg B7.R (Option.some.inj (hr v e)).symm,congrArg B7.O (Option.some.inj (hr v e)).symm⟩) st hc s h)
noncomputable def c3j:List Item:=B7.k 3 [false]
noncomputable def c7s (w:l7) (v36:Int):St:=⟨(bs 1 (.ptr 1 0 0::(bs 32 (j9 27 C1 w.Nodes::(vi (w.Nodes.length:Int)::(vi v36::(bs 81 []))))))),[some [],some [.var 28 (D3 w)]]⟩
noncomputable def b7R (w:l7) (v36:Int):Option (j3 Bool Int Unit) :=
 (bif decide (v36<(w.Nodes.length:Int)) then ((idx w.Nodes v36).bind fun j7=>(bif (j7.Id != v36) then some (j3.ret false) else ((b7k j7).bind fun J4=>(bif (!J4) then some (j3.ret false) else some (j3.nxt (m9 (v36+1))))))) else some (j3.brk ()))
theorem f3z (w:l7) (res:V) (outs:s8) (x1:j8 Bool Unit) (hb1:HB cx B7.X res outs x1 c91 (fun s=>d5t w)) (hr1:HR res outs x1 B7.R B7.O) (st1:j3 Bool Int Unit) (hc1:s5 x1 (fun s:Int=>j5 cx B7.X res outs c3j (c7s w s)) st1) (v36:Int) (h:b7R w v36=some st1):j5 cx B7.X res outs c3j (c7s w v36) :=
 P0<|rg<|i9 0 h (fun h=>rg<|u0 C1 1 h fun j7 E8 h=>rg<|i9 4 h (fun h=>rg<|(z4 h hc1 fun e=>z3 B7.h (hr1 _ e))) (fun h=>m3 L2 e8Y 6 h fun J4 h=>i9 8 h (fun h=>rg<|(z4 h hc1 fun e=>z3 B7.h (hr1 _ e))) (fun h=>rg<|(w9 h hc1 fun hI=>sg [] [1,34,35,36] [(1,0)] hI)))) (fun h=>(v6 h hc1 fun e=>sg [] [1] [(1,0)] (hb1 _ e)))
noncomputable def a4Y (w:l7):Option Bool :=
 (bif ((w.Nodes.length:Int) != 3) then some false else (bif decide ((w.Net.length:Int)>40) then some false else (bif decide ((w.Asked.length:Int)>60) then some false else (bif decide ((w.Told.length:Int)>60) then some false else ((o9 (fun s:Int=>b7R w s) 0).bind fun x=>x.go (fun r=>some r) fun s=>b8e w)))))
theorem a8h {w:l7} (r:Bool) (h:a4Y w=some r):o7 cx.P 17 [.agg (T8 w)] (B7.R r) (B7.O r) :=
 q8 B7.X B7.c B7.h (fun z=>p7<|i9 4 h (fun h=>rg<|fe z h) (fun h=>i9 10 h (fun h=>rg<|fe z h) (fun h=>i9 16 h (fun h=>rg<|fe z h) (fun h=>i9 21 h (fun h=>rg<|fe z h) (fun h=>rg<|x7 h fun x hl hr hb=>sg [] [1,34,35,36] [(1,0)] (x9 (I:=fun s:Int=>j5 cx B7.X (B7.R r) (B7.O r) c3j (c7s w s)) hl fun s st h hc=>f3z w _ _ x (fun s e=>e0P w r (hb s e)) (fun v e=>⟨congrArg B7.R (Option.some.inj (hr v e)).symm,congrArg B7.O (Option.some.inj (hr v e)).symm⟩) st hc s h))))))
noncomputable def F9:FS (Bool):=⟨5,Tryz.f5,[.val [] []],[none],[.val K4 []],fun r=>.b r,fun _=>[none],Tryz.func5⟩
noncomputable def c39:List Item:=F9.k 4 [false,false]
noncomputable def c6f:St:=⟨(bs 53 []),[some []]⟩
noncomputable def d4L:Option Bool :=
 some true
theorem e9K (r:Bool) (h:d4L=some r):j5 cx F9.X (F9.R r) (F9.O r) c39 (c6f) :=
 P0<|rg<|fe F9.h h
noncomputable def b53:List Item:=F9.k 3 [false]
noncomputable def b8z (w:l7) (v14:Int):St:=⟨(bs 1 (.ptr 1 0 0::(bs 10 (j9 27 C1 w.Nodes::(vi (w.Nodes.length:Int)::(vi v14::(bs 38 []))))))),[some [],some [.var 28 (D3 w)]]⟩
noncomputable def c8J:List Item:=F9.k 7 [false,true,false]
noncomputable def c2I (w:l7) (v14:Int):St:=⟨(bs 1 (.ptr 1 0 0::(bs 10 (j9 27 C1 w.Nodes::(vi (w.Nodes.length:Int)::(vi v14::(bs 38 []))))))),[some [],some [.var 28 (D3 w)]]⟩
noncomputable def d6n (v14:Int):Option (j3 Bool Int Unit) :=
 some (j3.nxt (m9 (v14+1)))
theorem e4t (w:l7) (v14:Int) (res:V) (outs:s8) (x1:j8 Bool Unit) (hb1:HB cx F9.X res outs x1 c39 (fun s=>c6f)) (hr1:HR res outs x1 F9.R F9.O) (st1:j3 Bool Int Unit) (hc1:s5 x1 (fun s:Int=>j5 cx F9.X res outs b53 (b8z w s)) st1) (h:d6n v14=some st1):j5 cx F9.X res outs c8J (c2I w v14) :=
 P0<|rg<|(w9 h hc1 fun hI=>sg [] [1,12,13,14] [(1,0)] hI)
noncomputable def b6Z:List Item:=F9.k 6 [false,true]
noncomputable def c0d (w:l7) (v14:Int) (j7:j4) (v21:Int):St:=⟨(bs 1 (.ptr 1 0 0::(bs 2 (.ptr 2 0 0::(bs 7 (j9 27 C1 w.Nodes::(vi (w.Nodes.length:Int)::(vi v14::(bs 4 (j9 27 C1 w.Nodes::(vi (w.Nodes.length:Int)::(vi v21::(bs 31 []))))))))))))),[some [],some [.var 28 (D3 w)],some [.var 50 (a09 j7)]]⟩
noncomputable def d8l:List Item:=F9.k 10 [false,true,true,false]
noncomputable def d2c (w:l7) (v14:Int) (j7:j4) (v21:Int):St:=⟨(bs 1 (.ptr 1 0 0::(bs 2 (.ptr 2 0 0::(bs 7 (j9 27 C1 w.Nodes::(vi (w.Nodes.length:Int)::(vi v14::(bs 4 (j9 27 C1 w.Nodes::(vi (w.Nodes.length:Int)::(vi v21::(bs 31 []))))))))))))),[some [],some [.var 28 (D3 w)],some [.var 50 (a09 j7)]]⟩
noncomputable def d67 (v21:Int):Option (j3 Bool Int Unit) :=
 some (j3.nxt (m9 (v21+1)))
theorem e1I (w:l7) (v14:Int) (j7:j4) (v21:Int) (res:V) (outs:s8) (x2:j8 Bool Unit) (hb2:HB cx F9.X res outs x2 c8J (fun s=>c2I w v14)) (hr2:HR res outs x2 F9.R F9.O) (st2:j3 Bool Int Unit) (hc2:s5 x2 (fun s:Int=>j5 cx F9.X res outs b6Z (c0d w v14 j7 s)) st2) (h:d67 v21=some st2):j5 cx F9.X res outs d8l (d2c w v14 j7 v21) :=
 P0<|rg<|(w9 h hc2 fun hI=>sg [] [1,4,12,13,14,19,20,21] [(1,0),(2,0)] hI)
noncomputable def c3M:List Item:=F9.k 9 [false,true,true]
noncomputable def c7o (w:l7) (v14:Int) (j7:j4) (v21:Int) (o8:j4) (i:Int):St:=⟨(bs 1 (.ptr 1 0 0::(bs 2 (.ptr 2 0 0::(bs 1 (.ptr 3 0 0::(vi i::(bs 4 (j9 27 C1 w.Nodes::(vi (w.Nodes.length:Int)::(vi v14::(bs 4 (j9 27 C1 w.Nodes::(vi (w.Nodes.length:Int)::(vi v21::(bs 31 [])))))))))))))))),[some [],some [.var 28 (D3 w)],some [.var 50 (a09 j7)],some [.var 50 (a09 o8)]]⟩
noncomputable def b5n (j7:j4) (o8:j4) (i:Int):Option (j3 Bool Int Unit) :=
 (bif decide (i<(j7.a6.length:Int)) then (bif decide (i<(o8.a6.length:Int)) then ((idx j7.a6 i).bind fun z8=>((idx o8.a6 i).bind fun a6D=>((a3J z8 a6D).bind fun J2=>(bif (!J2) then some (j3.ret false) else some (j3.nxt (m9 (i+1))))))) else some (j3.brk ())) else some (j3.brk ()))
theorem e1U (w:l7) (v14:Int) (j7:j4) (v21:Int) (o8:j4) (res:V) (outs:s8) (x3:j8 Bool Unit) (hb3:HB cx F9.X res outs x3 d8l (fun s=>d2c w v14 j7 v21)) (hr3:HR res outs x3 F9.R F9.O) (st3:j3 Bool Int Unit) (hc3:s5 x3 (fun s:Int=>j5 cx F9.X res outs c3M (c7o w v14 j7 v21 o8 s)) st3) (i:Int) (h:b5n j7 o8 i=some st3):j5 cx F9.X res outs c3M (c7o w v14 j7 v21 o8 i) :=
 P0<|rg<|i9 5 h (fun h=>i9 11 h (fun h=>rg<|u0 p8 3 h fun z8 I0 h=>u0 p8 8 h fun a6D b0r h=>m3 a2X a6q 10 h fun J2 h=>i9 11 h (fun h=>rg<|(z4 h hc3 fun e=>z3 F9.h (hr3 _ e))) (fun h=>rg<|(w9 h hc3 fun hI=>sg [] [1,4,6,7,12,13,14,19,20,21] [(1,0),(2,0),(3,0)] hI))) (fun h=>(v6 h hc3 fun e=>sg [] [1,4,12,13,14,19,20,21] [(1,0),(2,0)] (hb3 _ e)))) (fun h=>(v6 h hc3 fun e=>sg [] [1,4,12,13,14,19,20,21] [(1,0),(2,0)] (hb3 _ e)))
noncomputable def b3j (w:l7) (j7:j4) (v21:Int):Option (j3 Bool Int Unit) :=
 (bif decide (v21<(w.Nodes.length:Int)) then ((idx w.Nodes v21).bind fun o8=>((o9 (fun s:Int=>b5n j7 o8 s) 0).bind fun x=>x.go (fun r=>some (j3.ret r)) fun s=>d67 v21)) else some (j3.brk ()))
theorem f4A (w:l7) (v14:Int) (j7:j4) (res:V) (outs:s8) (x2:j8 Bool Unit) (hb2:HB cx F9.X res outs x2 c8J (fun s=>c2I w v14)) (hr2:HR res outs x2 F9.R F9.O) (st2:j3 Bool Int Unit) (hc2:s5 x2 (fun s:Int=>j5 cx F9.X res outs b6Z (c0d w v14 j7 s)) st2) (v21:Int) (h:b3j w j7 v21=some st2):j5 cx F9.X res outs b6Z (c0d w v14 j7 v21) :=
 P0<|rg<|i9 0 h (fun h=>rg<|u0 C1 0 h fun o8 a1I h=>rg<|x7 h fun x hl hr hb=>sg [] [1,4,6,7,12,13,14,19,20,21] [(1,0),(2,0),(6,0)] (x9 (I:=fun s:Int=>j5 cx F9.X res outs c3M (c7o w v14 j7 v21 o8 s)) hl fun s st h hc=>e1U w v14 j7 v21 o8 _ _ x (fun s e=>e1I w v14 j7 v21 res outs x2 hb2 hr2 st2 hc2 (hb s e)) (fun v e=>(hr2 _ (a1v (hr v e) hc2))) st hc s h)) (fun h=>(v6 h hc2 fun e=>sg [] [1,12,13,14] [(1,0)] (hb2 _ e)))
noncomputable def b9R (w:l7) (v14:Int):Option (j3 Bool Int Unit) :=
 (bif decide (v14<(w.Nodes.length:Int)) then ((idx w.Nodes v14).bind fun j7=>((o9 (fun s:Int=>b3j w j7 s) 0).bind fun x=>x.go (fun r=>some (j3.ret r)) fun s=>d6n v14)) else some (j3.brk ()))
theorem e1M (w:l7) (res:V) (outs:s8) (x1:j8 Bool Unit) (hb1:HB cx F9.X res outs x1 c39 (fun s=>c6f)) (hr1:HR res outs x1 F9.R F9.O) (st1:j3 Bool Int Unit) (hc1:s5 x1 (fun s:Int=>j5 cx F9.X res outs b53 (b8z w s)) st1) (v14:Int) (h:b9R w v14=some st1):j5 cx F9.X res outs b53 (b8z w v14) :=
 P0<|rg<|i9 0 h (fun h=>rg<|u0 C1 0 h fun j7 E8 h=>rg<|x7 h fun x hl hr hb=>sg [] [1,4,12,13,14,19,20,21] [(1,0),(5,0)] (x9 (I:=fun s:Int=>j5 cx F9.X res outs b6Z (c0d w v14 j7 s)) hl fun s st h hc=>f4A w v14 j7 _ _ x (fun s e=>e4t w v14 res outs x1 hb1 hr1 st1 hc1 (hb s e)) (fun v e=>(hr1 _ (a1v (hr v e) hc1))) st hc s h)) (fun h=>(v6 h hc1 fun e=>sg [] [] [] (hb1 _ e)))
noncomputable def a8J (w:l7):Option Bool :=
 ((a4Y w).bind fun A3=>(bif (!A3) then some false else ((o9 (fun s:Int=>b9R w s) 0).bind fun x=>x.go (fun r=>some r) fun s=>d4L)))
theorem d91 {w:l7} (r:Bool) (h:a8J w=some r):o7 cx.P 5 [.agg (T8 w)] (F9.R r) (F9.O r) :=
 q8 F9.X F9.c F9.h (fun z=>p7<|m3 B7 a8h 1 h fun A3 h=>i9 2 h (fun h=>rg<|fe z h) (fun h=>rg<|x7 h fun x hl hr hb=>sg [] [1,12,13,14] [(1,0)] (x9 (I:=fun s:Int=>j5 cx F9.X (F9.R r) (F9.O r) b53 (b8z w s)) hl fun s st h hc=>e1M w _ _ x (fun s e=>e9K r (hb s e)) (fun v e=>⟨congrArg F9.R (Option.some.inj (hr v e)).symm,congrArg F9.O (Option.some.inj (hr v e)).symm⟩) st hc s h)))
noncomputable def E3:FS (Bool):=⟨6,Tryz.f6,[.val [] []],[none],[.val K4 []],fun r=>.b r,fun _=>[none],Tryz.func6⟩
noncomputable def c2Z:List Item:=E3.k 4 [false,false]
noncomputable def c3v:St:=⟨(bs 80 []),[some []]⟩
noncomputable def d5e:Option Bool :=
 some true
theorem e4a (r:Bool) (h:d5e=some r):j5 cx E3.X (E3.R r) (E3.O r) c2Z (c3v) :=
 P0<|rg<|fe E3.h h
noncomputable def b9a:List Item:=E3.k 3 [false]
noncomputable def b67 (w:l7) (v16:Int):St:=⟨(bs 1 (.ptr 1 0 0::(bs 12 (j9 27 C1 w.Nodes::(vi (w.Nodes.length:Int)::(vi v16::(bs 63 []))))))),[some [],some [.var 28 (D3 w)]]⟩
noncomputable def c5F:List Item:=E3.k 7 [false,true,false]
noncomputable def c6w (w:l7) (v16:Int):St:=⟨(bs 1 (.ptr 1 0 0::(bs 12 (j9 27 C1 w.Nodes::(vi (w.Nodes.length:Int)::(vi v16::(bs 63 []))))))),[some [],some [.var 28 (D3 w)]]⟩
noncomputable def c6a (v16:Int):Option (j3 Bool Int Unit) :=
 some (j3.nxt (m9 (v16+1)))
theorem f4b (w:l7) (v16:Int) (res:V) (outs:s8) (x1:j8 Bool Unit) (hb1:HB cx E3.X res outs x1 c2Z (fun s=>c3v)) (hr1:HR res outs x1 E3.R E3.O) (st1:j3 Bool Int Unit) (hc1:s5 x1 (fun s:Int=>j5 cx E3.X res outs b9a (b67 w s)) st1) (h:c6a v16=some st1):j5 cx E3.X res outs c5F (c6w w v16) :=
 P0<|rg<|(w9 h hc1 fun hI=>sg [] [1,14,15,16] [(1,0)] hI)
noncomputable def b7w:List Item:=E3.k 6 [false,true]
noncomputable def b84 (w:l7) (v16:Int) (j7:j4) (v23:Int):St:=⟨(bs 1 (.ptr 1 0 0::(bs 2 (.ptr 2 0 0::(bs 9 (j9 27 C1 w.Nodes::(vi (w.Nodes.length:Int)::(vi v16::(bs 4 (j9 27 C1 w.Nodes::(vi (w.Nodes.length:Int)::(vi v23::(bs 56 []))))))))))))),[some [],some [.var 28 (D3 w)],some [.var 50 (a09 j7)]]⟩
noncomputable def c3B:List Item:=E3.k 11 [false,true,true,false]
noncomputable def c7A (w:l7) (v16:Int) (j7:j4) (v23:Int):St:=⟨(bs 1 (.ptr 1 0 0::(bs 2 (.ptr 2 0 0::(bs 9 (j9 27 C1 w.Nodes::(vi (w.Nodes.length:Int)::(vi v16::(bs 4 (j9 27 C1 w.Nodes::(vi (w.Nodes.length:Int)::(vi v23::(bs 56 []))))))))))))),[some [],some [.var 28 (D3 w)],some [.var 50 (a09 j7)]]⟩
noncomputable def c4B (v23:Int):Option (j3 Bool Int Unit) :=
 some (j3.nxt (m9 (v23+1)))
theorem e4Y (w:l7) (v16:Int) (j7:j4) (v23:Int) (res:V) (outs:s8) (x2:j8 Bool Unit) (hb2:HB cx E3.X res outs x2 c5F (fun s=>c6w w v16)) (hr2:HR res outs x2 E3.R E3.O) (st2:j3 Bool Int Unit) (hc2:s5 x2 (fun s:Int=>j5 cx E3.X res outs b7w (b84 w v16 j7 s)) st2) (h:c4B v23=some st2):j5 cx E3.X res outs c3B (c7A w v16 j7 v23) :=
 P0<|rg<|(w9 h hc2 fun hI=>sg [] [1,4,14,15,16,21,22,23] [(1,0),(2,0)] hI)
noncomputable def b9g:List Item:=E3.k 10 [false,true,true]
noncomputable def b7X (w:l7) (v16:Int) (j7:j4) (v23:Int) (o8:j4) (i:Int):St:=⟨(bs 1 (.ptr 1 0 0::(bs 2 (.ptr 2 0 0::(bs 2 (j9 8 t0 j7.Acc.a0::(j9 8 t0 o8.Acc.a0::(vi i::(bs 4 (j9 27 C1 w.Nodes::(vi (w.Nodes.length:Int)::(vi v16::(bs 4 (j9 27 C1 w.Nodes::(vi (w.Nodes.length:Int)::(vi v23::(bs 56 []))))))))))))))))),[some [],some [.var 28 (D3 w)],some [.var 50 (a09 j7)]]⟩
noncomputable def d0M:List Item:=E3.k 12 [false,true,true,true,false]
noncomputable def d5Y (w:l7) (v16:Int) (j7:j4) (v23:Int) (o8:j4) (i:Int):St:=⟨(bs 1 (.ptr 1 0 0::(bs 2 (.ptr 2 0 0::(bs 2 (j9 8 t0 j7.Acc.a0::(j9 8 t0 o8.Acc.a0::(vi i::(bs 4 (j9 27 C1 w.Nodes::(vi (w.Nodes.length:Int)::(vi v16::(bs 4 (j9 27 C1 w.Nodes::(vi (w.Nodes.length:Int)::(vi v23::(bs 56 []))))))))))))))))),[some [],some [.var 28 (D3 w)],some [.var 50 (a09 j7)]]⟩
noncomputable def c4L (i:Int):Option (j3 Bool Int Unit) :=
 some (j3.nxt (m9 (i+1)))
theorem e34 (w:l7) (v16:Int) (j7:j4) (v23:Int) (o8:j4) (i:Int) (res:V) (outs:s8) (x3:j8 Bool Unit) (hb3:HB cx E3.X res outs x3 c3B (fun s=>c7A w v16 j7 v23)) (hr3:HR res outs x3 E3.R E3.O) (st3:j3 Bool Int Unit) (hc3:s5 x3 (fun s:Int=>j5 cx E3.X res outs b9g (b7X w v16 j7 v23 o8 s)) st3) (h:c4L i=some st3):j5 cx E3.X res outs d0M (d5Y w v16 j7 v23 o8 i) :=
 P0<|rg<|(w9 h hc3 fun hI=>sg [] [1,4,7,8,9,14,15,16,21,22,23] [(1,0),(2,0)] hI)
noncomputable def b3a (j7:j4) (o8:j4) (i:Int):Option (j3 Bool Int Unit) :=
 (bif decide (i<(j7.Acc.a0.length:Int)) then (bif decide (i<(o8.Acc.a0.length:Int)) then ((((idx j7.Acc.a0 i).bind fun A5=>(bif (A5.a7 != 0) then ((idx o8.Acc.a0 i).bind fun b13=>(bif (A5.a7==b13.a7) then ((a3J A5.g9 b13.g9).bind fun J2=>(bif (!J2) then some (j8.ret (j3.ret false)) else some (j8.brk ()))) else some (j8.brk ()))) else some (j8.brk ()))):Option (j8 (j3 Bool Int Unit) Unit)).bind fun x=>x.go some fun j=>c4L i) else some (j3.brk ())) else some (j3.brk ()))
theorem e84 (w:l7) (v16:Int) (j7:j4) (v23:Int) (o8:j4) (res:V) (outs:s8) (x3:j8 Bool Unit) (hb3:HB cx E3.X res outs x3 c3B (fun s=>c7A w v16 j7 v23)) (hr3:HR res outs x3 E3.R E3.O) (st3:j3 Bool Int Unit) (hc3:s5 x3 (fun s:Int=>j5 cx E3.X res outs b9g (b7X w v16 j7 v23 o8 s)) st3) (i:Int) (h:b3a j7 o8 i=some st3):j5 cx E3.X res outs b9g (b7X w v16 j7 v23 o8 i) :=
 P0<|rg<|i9 4 h (fun h=>i9 9 h (fun h=>E1 (I:=fun j:Unit=>j5 cx E3.X res outs d0M (d5Y w v16 j7 v23 o8 i)) h (fun j h=>e34 w v16 j7 v23 o8 i res outs x3 hb3 hr3 st3 hc3 h) (fun x4 h hc4=>rg<|u0 t0 2 h fun A5 O6 h=>i9 6 h (fun h=>N5 t0 9 O6<|u0 t0 14 h fun b13 d39 h=>i9 19 h (fun h=>N5 t0 22 O6<|N5 t0 27 d39<|m3 a2X a6q 30 h fun J2 h=>i9 32 h (fun h=>rg<|(D6 h hc4 fun h=>(z4 h hc3 fun e=>z3 E3.h (hr3 _ e)))) (fun h=>(s6 h hc4 fun hI=>sg [] [1,4,7,8,9,14,15,16,21,22,23] [(1,0),(2,0)] hI))) (fun h=>(s6 h hc4 fun hI=>sg [] [1,4,7,8,9,14,15,16,21,22,23] [(1,0),(2,0)] hI))) (fun h=>(s6 h hc4 fun hI=>sg [] [1,4,7,8,9,14,15,16,21,22,23] [(1,0),(2,0)] hI)))) (fun h=>(v6 h hc3 fun e=>sg [] [1,4,14,15,16,21,22,23] [(1,0),(2,0)] (hb3 _ e)))) (fun h=>(v6 h hc3 fun e=>sg [] [1,4,14,15,16,21,22,23] [(1,0),(2,0)] (hb3 _ e)))
noncomputable def b3t (w:l7) (j7:j4) (v23:Int):Option (j3 Bool Int Unit) :=
 (bif decide (v23<(w.Nodes.length:Int)) then ((idx w.Nodes v23).bind fun o8=>((o9 (fun s:Int=>b3a j7 o8 s) 0).bind fun x=>x.go (fun r=>some (j3.ret r)) fun s=>c4B v23)) else some (j3.brk ()))
theorem e8k (w:l7) (v16:Int) (j7:j4) (res:V) (outs:s8) (x2:j8 Bool Unit) (hb2:HB cx E3.X res outs x2 c5F (fun s=>c6w w v16)) (hr2:HR res outs x2 E3.R E3.O) (st2:j3 Bool Int Unit) (hc2:s5 x2 (fun s:Int=>j5 cx E3.X res outs b7w (b84 w v16 j7 s)) st2) (v23:Int) (h:b3t w j7 v23=some st2):j5 cx E3.X res outs b7w (b84 w v16 j7 v23) :=
 P0<|rg<|i9 0 h (fun h=>rg<|u0 C1 0 h fun o8 a1I h=>p7<|x7 h fun x hl hr hb=>sg [] [1,4,7,8,9,14,15,16,21,22,23] [(1,0),(2,0)] (x9 (I:=fun s:Int=>j5 cx E3.X res outs b9g (b7X w v16 j7 v23 o8 s)) hl fun s st h hc=>e84 w v16 j7 v23 o8 _ _ x (fun s e=>e4Y w v16 j7 v23 res outs x2 hb2 hr2 st2 hc2 (hb s e)) (fun v e=>(hr2 _ (a1v (hr v e) hc2))) st hc s h)) (fun h=>(v6 h hc2 fun e=>sg [] [1,14,15,16] [(1,0)] (hb2 _ e)))
noncomputable def c01 (w:l7) (v16:Int):Option (j3 Bool Int Unit) :=
 (bif decide (v16<(w.Nodes.length:Int)) then ((idx w.Nodes v16).bind fun j7=>((o9 (fun s:Int=>b3t w j7 s) 0).bind fun x=>x.go (fun r=>some (j3.ret r)) fun s=>c6a v16)) else some (j3.brk ()))
theorem e83 (w:l7) (res:V) (outs:s8) (x1:j8 Bool Unit) (hb1:HB cx E3.X res outs x1 c2Z (fun s=>c3v)) (hr1:HR res outs x1 E3.R E3.O) (st1:j3 Bool Int Unit) (hc1:s5 x1 (fun s:Int=>j5 cx E3.X res outs b9a (b67 w s)) st1) (v16:Int) (h:c01 w v16=some st1):j5 cx E3.X res outs b9a (b67 w v16) :=
 P0<|rg<|i9 0 h (fun h=>rg<|u0 C1 0 h fun j7 E8 h=>rg<|x7 h fun x hl hr hb=>sg [] [1,4,14,15,16,21,22,23] [(1,0),(5,0)] (x9 (I:=fun s:Int=>j5 cx E3.X res outs b7w (b84 w v16 j7 s)) hl fun s st h hc=>e8k w v16 j7 _ _ x (fun s e=>f4b w v16 res outs x1 hb1 hr1 st1 hc1 (hb s e)) (fun v e=>(hr1 _ (a1v (hr v e) hc1))) st hc s h)) (fun h=>(v6 h hc1 fun e=>sg [] [] [] (hb1 _ e)))
noncomputable def a9n (w:l7):Option Bool :=
 ((a4Y w).bind fun A3=>(bif (!A3) then some false else ((o9 (fun s:Int=>c01 w s) 0).bind fun x=>x.go (fun r=>some r) fun s=>d5e)))
theorem d1R {w:l7} (r:Bool) (h:a9n w=some r):o7 cx.P 6 [.agg (T8 w)] (E3.R r) (E3.O r) :=
 q8 E3.X E3.c E3.h (fun z=>p7<|m3 B7 a8h 1 h fun A3 h=>i9 2 h (fun h=>rg<|fe z h) (fun h=>rg<|x7 h fun x hl hr hb=>sg [] [1,14,15,16] [(1,0)] (x9 (I:=fun s:Int=>j5 cx E3.X (E3.R r) (E3.O r) b9a (b67 w s)) hl fun s st h hc=>e83 w _ _ x (fun s e=>e4a r (hb s e)) (fun v e=>⟨congrArg E3.R (Option.some.inj (hr v e)).symm,congrArg E3.O (Option.some.inj (hr v e)).symm⟩) st hc s h)))
noncomputable def R7:FS (Int):=⟨19,Tryz.f19,[.val [] []],[none,none,none],[.val K4 [],.val [] [],.val O2 []],fun r=>vi r,fun _=>[none,none,none],Tryz.func19⟩
noncomputable def c6o:List Item:=R7.k 4 [false]
noncomputable def c7D (n1:Int):St:=⟨(bs 7 (vi n1::(bs 40 []))),[some []]⟩
noncomputable def d3x (n1:Int):Option Int :=
 some n1
theorem f4J (r:Int) (n1:Int) (h:d3x n1=some r):j5 cx R7.X (R7.R r) (R7.O r) c6o (c7D n1) :=
 P0<|rg<|fe R7.h h
noncomputable def b5T:List Item:=R7.k 3 []
noncomputable def b6C (w:l7) (at_:Int) (e_:l8) (v13:Int) (n:Int):St:=⟨(bs 1 (vi at_::(bs 3 (.ptr 1 0 0::(bs 1 (vi n::(bs 3 (j9 27 C1 w.Nodes::(vi (w.Nodes.length:Int)::(vi v13::(bs 34 []))))))))))),[some [],some [.var 47 (a3L e_)]]⟩
noncomputable def c9z:List Item:=R7.k 7 [true,true]
noncomputable def d6w (w:l7) (at_:Int) (e_:l8) (v13:Int) (n2:Int):St:=⟨(bs 1 (vi at_::(bs 3 (.ptr 1 0 0::(bs 1 (vi n2::(bs 3 (j9 27 C1 w.Nodes::(vi (w.Nodes.length:Int)::(vi v13::(bs 34 []))))))))))),[some [],some [.var 47 (a3L e_)]]⟩
noncomputable def c4G (v13:Int) (n2:Int):Option (j3 Int (Int×Int) Int) :=
 some (j3.nxt (m9 (v13+1),n2))
theorem e9n (w:l7) (at_:Int) (e_:l8) (v13:Int) (res:V) (outs:s8) (x1:j8 Int Int) (hb1:HB cx R7.X res outs x1 c6o c7D) (hr1:HR res outs x1 R7.R R7.O) (st1:j3 Int (Int×Int) Int) (hc1:s5 x1 (fun s:Int×Int=>j5 cx R7.X res outs b5T (b6C w at_ e_ s.1 s.2)) st1) (n2:Int) (h:c4G v13 n2=some st1):j5 cx R7.X res outs c9z (d6w w at_ e_ v13 n2) :=
 P0<|rg<|(w9 h hc1 fun hI=>sg [] [1,5,7,11,12,13] [(1,0)] hI)
noncomputable def a9X (w:l7) (at_:Int) (e_:l8) (v13:Int) (n:Int):Option (j3 Int (Int×Int) Int) :=
 (bif decide (v13<(w.Nodes.length:Int)) then ((idx w.Nodes v13).bind fun j7=>(((bif decide (at_<(j7.Acc.a0.length:Int)) then ((idx j7.Acc.a0 at_).bind fun A5=>(bif (A5.a7 != 0) then ((a3J A5.g9 e_).bind fun J2=>(bif J2 then some (j8.brk (m9 (n+1))) else some (j8.brk n))) else some (j8.brk n))) else some (j8.brk n)):Option (j8 (j3 Int (Int×Int) Int) Int)).bind fun x=>x.go some fun j=>c4G v13 j)) else some (j3.brk n))
theorem e1i (w:l7) (at_:Int) (e_:l8) (res:V) (outs:s8) (x1:j8 Int Int) (hb1:HB cx R7.X res outs x1 c6o c7D) (hr1:HR res outs x1 R7.R R7.O) (st1:j3 Int (Int×Int) Int) (hc1:s5 x1 (fun s:Int×Int=>j5 cx R7.X res outs b5T (b6C w at_ e_ s.1 s.2)) st1) (v13:Int) (n:Int) (h:a9X w at_ e_ v13 n=some st1):j5 cx R7.X res outs b5T (b6C w at_ e_ v13 n) :=
 P0<|rg<|i9 0 h (fun h=>rg<|u0 C1 0 h fun j7 E8 h=>E1 (I:=fun j:Int=>j5 cx R7.X res outs c9z (d6w w at_ e_ v13 j)) h (fun j h=>e9n w at_ e_ v13 res outs x1 hb1 hr1 st1 hc1 j h) (fun x2 h hc2=>rg<|i9 6 h (fun h=>u0 t0 11 h fun A5 O6 h=>i9 16 h (fun h=>N5 t0 21 O6<|m3 a2X a6q 25 h fun J2 h=>i9 26 h (fun h=>rg<|(s6 h hc2 fun hI=>sg [] [1,5,7,11,12,13] [(1,0)] hI)) (fun h=>(s6 h hc2 fun hI=>sg [] [1,5,7,11,12,13] [(1,0)] hI))) (fun h=>(s6 h hc2 fun hI=>sg [] [1,5,7,11,12,13] [(1,0)] hI))) (fun h=>(s6 h hc2 fun hI=>sg [] [1,5,7,11,12,13] [(1,0)] hI)))) (fun h=>(v6 h hc1 fun e=>sg [] [7] [] (hb1 _ e)))
noncomputable def b97 (w:l7) (at_:Int) (e_:l8):Option Int :=
 ((o9 (fun s:Int×Int=>a9X w at_ e_ s.1 s.2) (0,0)).bind fun x=>x.go (fun r=>some r) fun s=>d3x s)
theorem e1p {w:l7} {at_:Int} {e_:l8} (r:Int) (h:b97 w at_ e_=some r):o7 cx.P 19 [.agg (T8 w),vi at_,.agg (p8 e_)] (R7.R r) (R7.O r) :=
 q8 R7.X R7.c R7.h (fun z=>rg3<|x7 h fun x hl hr hb=>sg [] [1,5,7,11,12,13] [(2,0)] (x9 (I:=fun s:Int×Int=>j5 cx R7.X (R7.R r) (R7.O r) b5T (b6C w at_ e_ s.1 s.2)) hl fun s st h hc=>e1i w at_ e_ _ _ x (fun s e=>f4J r s (hb s e)) (fun v e=>⟨congrArg R7.R (Option.some.inj (hr v e)).symm,congrArg R7.O (Option.some.inj (hr v e)).symm⟩) st hc s.1 s.2 h))
noncomputable def J9:FS (Bool):=⟨7,Tryz.f7,[.val [] []],[none],[.val K4 []],fun r=>.b r,fun _=>[none],Tryz.func7⟩
noncomputable def c1X:List Item:=J9.k 4 [false,false]
noncomputable def c4A:St:=⟨(bs 32 []),[some []]⟩
noncomputable def d8y:Option Bool :=
 some true
theorem e1W (r:Bool) (h:d8y=some r):j5 cx J9.X (J9.R r) (J9.O r) c1X (c4A) :=
 P0<|rg<|fe J9.h h
noncomputable def b66:List Item:=J9.k 3 [false]
noncomputable def b5I (w:l7) (v13:Int):St:=⟨(bs 1 (.ptr 1 0 0::(bs 9 (j9 27 C1 w.Nodes::(vi (w.Nodes.length:Int)::(vi v13::(bs 18 []))))))),[some [],some [.var 28 (D3 w)]]⟩
noncomputable def c9t:List Item:=J9.k 7 [false,true,false]
noncomputable def c9i (w:l7) (v13:Int):St:=⟨(bs 1 (.ptr 1 0 0::(bs 9 (j9 27 C1 w.Nodes::(vi (w.Nodes.length:Int)::(vi v13::(bs 18 []))))))),[some [],some [.var 28 (D3 w)]]⟩
noncomputable def c4m (v13:Int):Option (j3 Bool Int Unit) :=
 some (j3.nxt (m9 (v13+1)))
theorem f2P (w:l7) (v13:Int) (res:V) (outs:s8) (x1:j8 Bool Unit) (hb1:HB cx J9.X res outs x1 c1X (fun s=>c4A)) (hr1:HR res outs x1 J9.R J9.O) (st1:j3 Bool Int Unit) (hc1:s5 x1 (fun s:Int=>j5 cx J9.X res outs b66 (b5I w s)) st1) (h:c4m v13=some st1):j5 cx J9.X res outs c9t (c9i w v13) :=
 P0<|rg<|(w9 h hc1 fun hI=>sg [] [1,11,12,13] [(1,0)] hI)
noncomputable def c6H:List Item:=J9.k 6 [false,true]
noncomputable def c5G (w:l7) (v13:Int) (j7:j4) (v20:Int):St:=⟨(bs 1 (.ptr 1 0 0::(bs 9 (j9 27 C1 w.Nodes::(vi (w.Nodes.length:Int)::(vi v13::(bs 4 (j9 7 p8 j7.a6::(vi (j7.a6.length:Int)::(vi v20::(bs 11 []))))))))))),[some [],some [.var 28 (D3 w)]]⟩
noncomputable def b5b (w:l7) (j7:j4) (v20:Int):Option (j3 Bool Int Unit) :=
 (bif decide (v20<(j7.a6.length:Int)) then ((idx j7.a6 v20).bind fun z8=>((b97 w v20 z8).bind fun d4T=>(bif decide (d4T<2) then some (j3.ret false) else some (j3.nxt (m9 (v20+1)))))) else some (j3.brk ()))
theorem f1m (w:l7) (v13:Int) (j7:j4) (res:V) (outs:s8) (x2:j8 Bool Unit) (hb2:HB cx J9.X res outs x2 c9t (fun s=>c9i w v13)) (hr2:HR res outs x2 J9.R J9.O) (st2:j3 Bool Int Unit) (hc2:s5 x2 (fun s:Int=>j5 cx J9.X res outs c6H (c5G w v13 j7 s)) st2) (v20:Int) (h:b5b w j7 v20=some st2):j5 cx J9.X res outs c6H (c5G w v13 j7 v20) :=
 P0<|rg<|i9 0 h (fun h=>rg<|u0 p8 1 h fun z8 I0 h=>rg<|m3 R7 e1p 3 h fun d4T h=>i9 4 h (fun h=>rg<|(z4 h hc2 fun e=>z3 J9.h (hr2 _ e))) (fun h=>rg<|(w9 h hc2 fun hI=>sg [] [1,11,12,13,18,19,20] [(1,0)] hI))) (fun h=>(v6 h hc2 fun e=>sg [] [1,11,12,13] [(1,0)] (hb2 _ e)))
noncomputable def b7W (w:l7) (v13:Int):Option (j3 Bool Int Unit) :=
 (bif decide (v13<(w.Nodes.length:Int)) then ((idx w.Nodes v13).bind fun j7=>((o9 (fun s:Int=>b5b w j7 s) 0).bind fun x=>x.go (fun r=>some (j3.ret r)) fun s=>c4m v13)) else some (j3.brk ()))
theorem f4y (w:l7) (res:V) (outs:s8) (x1:j8 Bool Unit) (hb1:HB cx J9.X res outs x1 c1X (fun s=>c4A)) (hr1:HR res outs x1 J9.R J9.O) (st1:j3 Bool Int Unit) (hc1:s5 x1 (fun s:Int=>j5 cx J9.X res outs b66 (b5I w s)) st1) (v13:Int) (h:b7W w v13=some st1):j5 cx J9.X res outs b66 (b5I w v13) :=
 P0<|rg<|i9 0 h (fun h=>rg<|u0 C1 0 h fun j7 E8 h=>rg<|x7 h fun x hl hr hb=>sg [] [1,11,12,13,18,19,20] [(1,0)] (x9 (I:=fun s:Int=>j5 cx J9.X res outs c6H (c5G w v13 j7 s)) hl fun s st h hc=>f1m w v13 j7 _ _ x (fun s e=>f2P w v13 res outs x1 hb1 hr1 st1 hc1 (hb s e)) (fun v e=>(hr1 _ (a1v (hr v e) hc1))) st hc s h)) (fun h=>(v6 h hc1 fun e=>sg [] [] [] (hb1 _ e)))
noncomputable def b1g (w:l7):Option Bool :=
 ((a4Y w).bind fun A3=>(bif (!A3) then some false else ((o9 (fun s:Int=>b7W w s) 0).bind fun x=>x.go (fun r=>some r) fun s=>d8y)))
theorem d2o {w:l7} (r:Bool) (h:b1g w=some r):o7 cx.P 7 [.agg (T8 w)] (J9.R r) (J9.O r) :=
 q8 J9.X J9.c J9.h (fun z=>p7<|m3 B7 a8h 1 h fun A3 h=>i9 2 h (fun h=>rg<|fe z h) (fun h=>rg<|x7 h fun x hl hr hb=>sg [] [1,11,12,13] [(1,0)] (x9 (I:=fun s:Int=>j5 cx J9.X (J9.R r) (J9.O r) b66 (b5I w s)) hl fun s st h hc=>f4y w _ _ x (fun s e=>e1W r (hb s e)) (fun v e=>⟨congrArg J9.R (Option.some.inj (hr v e)).symm,congrArg J9.O (Option.some.inj (hr v e)).symm⟩) st hc s h)))
noncomputable def E6:FS (Bool):=⟨8,Tryz.f8,[.val [] []],[none],[.val K4 []],fun r=>.b r,fun _=>[none],Tryz.func8⟩
noncomputable def b7A:List Item:=E6.k 4 [false,false]
noncomputable def c0h:St:=⟨(bs 80 []),[some []]⟩
noncomputable def c9I:Option Bool :=
 some true
theorem e7A (r:Bool) (h:c9I=some r):j5 cx E6.X (E6.R r) (E6.O r) b7A (c0h) :=
 P0<|rg<|fe E6.h h
noncomputable def b5w:List Item:=E6.k 3 [false]
noncomputable def b3s (w:l7) (v15:Int):St:=⟨(bs 1 (.ptr 1 0 0::(bs 11 (j9 27 C1 w.Nodes::(vi (w.Nodes.length:Int)::(vi v15::(bs 64 []))))))),[some [],some [.var 28 (D3 w)]]⟩
noncomputable def c8q:List Item:=E6.k 7 [false,true,false]
noncomputable def c3T (w:l7) (v15:Int) (j7:j4):St:=⟨(bs 1 (.ptr 1 0 0::(bs 2 (.ptr 2 0 0::(bs 8 (j9 27 C1 w.Nodes::(vi (w.Nodes.length:Int)::(vi v15::(bs 64 []))))))))),[some [],some [.var 28 (D3 w)],some [.var 50 (a09 j7)]]⟩
noncomputable def d75:List Item:=E6.k 12 [false,true,false,false,false,false]
noncomputable def d2V (w:l7) (v15:Int):St:=⟨(bs 1 (.ptr 1 0 0::(bs 11 (j9 27 C1 w.Nodes::(vi (w.Nodes.length:Int)::(vi v15::(bs 64 []))))))),[some [],some [.var 28 (D3 w)]]⟩
noncomputable def c1o (v15:Int):Option (j3 Bool Int Unit) :=
 some (j3.nxt (m9 (v15+1)))
theorem e3R (w:l7) (v15:Int) (res:V) (outs:s8) (x1:j8 Bool Unit) (hb1:HB cx E6.X res outs x1 b7A (fun s=>c0h)) (hr1:HR res outs x1 E6.R E6.O) (st1:j3 Bool Int Unit) (hc1:s5 x1 (fun s:Int=>j5 cx E6.X res outs b5w (b3s w s)) st1) (h:c1o v15=some st1):j5 cx E6.X res outs d75 (d2V w v15) :=
 P0<|rg<|(w9 h hc1 fun hI=>sg [] [1,13,14,15] [(1,0)] hI)
noncomputable def b68 (v15:Int) (j7:j4):Option (j3 Bool Int Unit) :=
 (bif (j7.d7 != 3) then some (j3.nxt (m9 (v15+1))) else (bif decide ((j7.a6.length:Int)≥(j7.Acc.a0.length:Int)) then some (j3.ret false) else ((idx j7.Acc.a0 (j7.a6.length:Int)).bind fun A5=>(((bif decide (A5.a7<j7.a7) then some (j8.ret (j3.ret false)) else (bif (A5.a7==j7.a7) then ((a3J A5.g9 j7.b9).bind fun J2=>(bif (!J2) then some (j8.ret (j3.ret false)) else some (j8.brk ()))) else some (j8.brk ()))):Option (j8 (j3 Bool Int Unit) Unit)).bind fun x=>x.go some fun j=>c1o v15))))
theorem f3H (w:l7) (v15:Int) (j7:j4) (res:V) (outs:s8) (x1:j8 Bool Unit) (hb1:HB cx E6.X res outs x1 b7A (fun s=>c0h)) (hr1:HR res outs x1 E6.R E6.O) (st1:j3 Bool Int Unit) (hc1:s5 x1 (fun s:Int=>j5 cx E6.X res outs b5w (b3s w s)) st1) (h:b68 v15 j7=some st1):j5 cx E6.X res outs c8q (c3T w v15 j7) :=
 P0<|rg<|i9 2 h (fun h=>rg<|(w9 h hc1 fun hI=>sg [] [1,13,14,15] [(1,0)] hI)) (fun h=>p7<|i9 5 h (fun h=>rg<|(z4 h hc1 fun e=>z3 E6.h (hr1 _ e))) (fun h=>rg<|u0 t0 4 h fun A5 O6 h=>E1 (I:=fun j:Unit=>j5 cx E6.X res outs d75 (d2V w v15)) h (fun j h=>e3R w v15 res outs x1 hb1 hr1 st1 hc1 h) (fun x2 h hc2=>rg<|i9 5 h (fun h=>rg<|(D6 h hc2 fun h=>(z4 h hc1 fun e=>z3 E6.h (hr1 _ e)))) (fun h=>i9 11 h (fun h=>m3 a2X a6q 16 h fun J2 h=>i9 19 h (fun h=>rg<|(D6 h hc2 fun h=>(z4 h hc1 fun e=>z3 E6.h (hr1 _ e)))) (fun h=>(s6 h hc2 fun hI=>sg [] [1,13,14,15] [(1,0)] hI))) (fun h=>(s6 h hc2 fun hI=>sg [] [1,13,14,15] [(1,0)] hI))))))
noncomputable def b8x:List Item:=E6.k 6 [false,true]
noncomputable def b7D (w:l7) (v15:Int) (j7:j4) (v26:Int):St:=⟨(bs 1 (.ptr 1 0 0::(bs 2 (.ptr 2 0 0::(bs 8 (j9 27 C1 w.Nodes::(vi (w.Nodes.length:Int)::(vi v15::(bs 8 (j9 27 C1 ((w.Nodes.drop (m9 (v15+1)).toNat).take (w.Nodes.length - (m9 (v15+1)).toNat))::(vi (((w.Nodes.drop (m9 (v15+1)).toNat).take (w.Nodes.length - (m9 (v15+1)).toNat)).length:Int)::(vi v26::(bs 53 []))))))))))))),[some [],some [.var 28 (D3 w)],some [.var 50 (a09 j7)]]⟩
noncomputable def d7y:List Item:=E6.k 9 [false,true,true,false]
noncomputable def e0d (w:l7) (v15:Int) (j7:j4) (v26:Int):St:=⟨(bs 1 (.ptr 1 0 0::(bs 2 (.ptr 2 0 0::(bs 8 (j9 27 C1 w.Nodes::(vi (w.Nodes.length:Int)::(vi v15::(bs 8 (j9 27 C1 ((w.Nodes.drop (m9 (v15+1)).toNat).take (w.Nodes.length - (m9 (v15+1)).toNat))::(vi (((w.Nodes.drop (m9 (v15+1)).toNat).take (w.Nodes.length - (m9 (v15+1)).toNat)).length:Int)::(vi v26::(bs 53 []))))))))))))),[some [],some [.var 28 (D3 w)],some [.var 50 (a09 j7)]]⟩
noncomputable def c68 (v26:Int):Option (j3 Bool Int Unit) :=
 some (j3.nxt (m9 (v26+1)))
theorem e45 (w:l7) (v15:Int) (j7:j4) (v26:Int) (res:V) (outs:s8) (x2:j8 Bool Unit) (hb2:HB cx E6.X res outs x2 c8q (fun s=>c3T w v15 j7)) (hr2:HR res outs x2 E6.R E6.O) (st2:j3 Bool Int Unit) (hc2:s5 x2 (fun s:Int=>j5 cx E6.X res outs b8x (b7D w v15 j7 s)) st2) (h:c68 v26=some st2):j5 cx E6.X res outs d7y (e0d w v15 j7 v26) :=
 P0<|rg<|(w9 h hc2 fun hI=>sg [] [1,4,13,14,15,24,25,26] [(1,0),(2,0)] hI)
noncomputable def b43 (w:l7) (v15:Int) (j7:j4) (v26:Int):Option (j3 Bool Int Unit) :=
 (bif decide (v26<(((w.Nodes.drop (m9 (v15+1)).toNat).take (w.Nodes.length - (m9 (v15+1)).toNat)).length:Int)) then ((idx ((w.Nodes.drop (m9 (v15+1)).toNat).take (w.Nodes.length - (m9 (v15+1)).toNat)) v26).bind fun o8=>(((bif (j7.a7 != 0) then (bif (j7.a7==o8.a7) then some (j8.ret (j3.ret false)) else some (j8.brk ())) else some (j8.brk ())):Option (j8 (j3 Bool Int Unit) Unit)).bind fun x=>x.go some fun j=>c68 v26)) else some (j3.brk ()))
theorem e6t (w:l7) (v15:Int) (j7:j4) (res:V) (outs:s8) (x2:j8 Bool Unit) (hb2:HB cx E6.X res outs x2 c8q (fun s=>c3T w v15 j7)) (hr2:HR res outs x2 E6.R E6.O) (st2:j3 Bool Int Unit) (hc2:s5 x2 (fun s:Int=>j5 cx E6.X res outs b8x (b7D w v15 j7 s)) st2) (v26:Int) (h:b43 w v15 j7 v26=some st2):j5 cx E6.X res outs b8x (b7D w v15 j7 v26) :=
 P0<|rg<|i9 0 h (fun h=>rg<|u0 C1 0 h fun o8 a1I h=>E1 (I:=fun j:Unit=>j5 cx E6.X res outs d7y (e0d w v15 j7 v26)) h (fun j h=>e45 w v15 j7 v26 res outs x2 hb2 hr2 st2 hc2 h) (fun x3 h hc3=>rg<|i9 3 h (fun h=>i9 9 h (fun h=>rg<|(D6 h hc3 fun h=>(z4 h hc2 fun e=>z3 E6.h (hr2 _ e)))) (fun h=>(s6 h hc3 fun hI=>sg [] [1,4,13,14,15,24,25,26] [(1,0),(2,0)] hI))) (fun h=>(s6 h hc3 fun hI=>sg [] [1,4,13,14,15,24,25,26] [(1,0),(2,0)] hI)))) (fun h=>(v6 h hc2 fun e=>sg [] [1,4,13,14,15] [(1,0),(2,0)] (hb2 _ e)))
noncomputable def b56 (w:l7) (v15:Int):Option (j3 Bool Int Unit) :=
 (bif decide (v15<(w.Nodes.length:Int)) then ((idx w.Nodes v15).bind fun j7=>(u5 ((0:Int)≤m9 (v15+1)∧m9 (v15+1)≤(w.Nodes.length:Int)) (((o9 (fun s:Int=>b43 w v15 j7 s) 0).bind fun x=>x.go (fun r=>some (j3.ret r)) fun s=>b68 v15 j7)))) else some (j3.brk ()))
theorem e1t (w:l7) (res:V) (outs:s8) (x1:j8 Bool Unit) (hb1:HB cx E6.X res outs x1 b7A (fun s=>c0h)) (hr1:HR res outs x1 E6.R E6.O) (st1:j3 Bool Int Unit) (hc1:s5 x1 (fun s:Int=>j5 cx E6.X res outs b5w (b3s w s)) st1) (v15:Int) (h:b56 w v15=some st1):j5 cx E6.X res outs b5w (b3s w v15) :=
 P0<|rg<|i9 0 h (fun h=>rg<|u0 C1 1 h fun j7 E8 h=>rg<|w8 h fun e1 h=>om (V.sl 27 (w.Nodes.length - (m9 (v15+1)).toNat) (((w.Nodes.map C1).drop (m9 (v15+1)).toNat).take (w.Nodes.length - (m9 (v15+1)).toNat))=j9 27 C1 ((w.Nodes.drop (m9 (v15+1)).toNat).take (w.Nodes.length - (m9 (v15+1)).toNat))) (d9F e1)<|ob e1.1<|ob e1.2<|tl (4,{ v:=some (j9 27 C1 ((w.Nodes.drop (m9 (v15+1)).toNat).take (w.Nodes.length - (m9 (v15+1)).toNat))) })<|x7 h fun x hl hr hb=>sg [] [1,4,13,14,15,24,25,26] [(1,0),(6,0)] (x9 (I:=fun s:Int=>j5 cx E6.X res outs b8x (b7D w v15 j7 s)) hl fun s st h hc=>e6t w v15 j7 _ _ x (fun s e=>f3H w v15 j7 res outs x1 hb1 hr1 st1 hc1 (hb s e)) (fun v e=>(hr1 _ (a1v (hr v e) hc1))) st hc s h)) (fun h=>(v6 h hc1 fun e=>sg [] [] [] (hb1 _ e)))
noncomputable def a9v (w:l7):Option Bool :=
 ((a4Y w).bind fun A3=>(bif (!A3) then some false else ((o9 (fun s:Int=>b56 w s) 0).bind fun x=>x.go (fun r=>some r) fun s=>c9I)))
theorem d1V {w:l7} (r:Bool) (h:a9v w=some r):o7 cx.P 8 [.agg (T8 w)] (E6.R r) (E6.O r) :=
 q8 E6.X E6.c E6.h (fun z=>p7<|m3 B7 a8h 1 h fun A3 h=>i9 2 h (fun h=>rg<|fe z h) (fun h=>rg<|x7 h fun x hl hr hb=>sg [] [1,13,14,15] [(1,0)] (x9 (I:=fun s:Int=>j5 cx E6.X (E6.R r) (E6.O r) b5w (b3s w s)) hl fun s st h hc=>e1t w _ _ x (fun s e=>e7A r (hb s e)) (fun v e=>⟨congrArg E6.R (Option.some.inj (hr v e)).symm,congrArg E6.O (Option.some.inj (hr v e)).symm⟩) st hc s h)))
noncomputable def a56:FS (Bool):=⟨23,Tryz.f23,[.val [] []],[none,none],[.val O2 [],.val O2 []],fun r=>.b r,fun _=>[none,none],Tryz.func23⟩
noncomputable def a9u (a:l8) (b:l8):Option Bool :=
 (bif (a.i0==b.i0) then (bif (([a.a5.c8,a.a5.Seq]:List Int)==[b.a5.c8,b.a5.Seq]) then ((a9c a.b6 b.b6).bind fun a2D=>some a2D) else some false) else some false)
theorem b5A {a:l8} {b:l8} (r:Bool) (h:a9u a b=some r):o7 cx.P 23 [.agg (p8 a),.agg (p8 b)] (a56.R r) (a56.O r) :=
 q8 a56.X a56.c a56.h (fun z=>p7<|i9 5 h (fun h=>i9 12 h (fun h=>m3 J1 b7i 17 h fun a2D h=>fe z h) (fun h=>fe z h)) (fun h=>fe z h))
noncomputable def a0a:FS (Bool):=⟨20,Tryz.f20,[.val [] []],[none,none],[.val [some 7] [],.val [some 7] []],fun r=>.b r,fun _=>[none,none],Tryz.func20⟩
noncomputable def d0V:List Item:=a0a.k 3 [false]
noncomputable def d0D:St:=⟨(bs 28 []),[some []]⟩
noncomputable def d6D:Option Bool :=
 some true
theorem e4F (r:Bool) (h:d6D=some r):j5 cx a0a.X (a0a.R r) (a0a.O r) d0V (d0D) :=
 P0<|rg<|fe a0a.h h
noncomputable def c8w:List Item:=a0a.k 2 []
noncomputable def c1O (a:List l8) (b:List l8) (i:Int):St:=⟨(j9 7 p8 a::(j9 7 p8 b::(bs 3 (vi i::(bs 22 []))))),[some []]⟩
noncomputable def b7p (a:List l8) (b:List l8) (i:Int):Option (j3 Bool Int Unit) :=
 (bif decide (i<(a.length:Int)) then (bif decide (i<(b.length:Int)) then ((idx a i).bind fun z8=>((idx b i).bind fun a6D=>((a9u z8 a6D).bind fun J2=>(bif (!J2) then some (j3.ret false) else some (j3.nxt (m9 (i+1))))))) else some (j3.brk ())) else some (j3.brk ()))
theorem e3H (a:List l8) (b:List l8) (res:V) (outs:s8) (x1:j8 Bool Unit) (hb1:HB cx a0a.X res outs x1 d0V (fun s=>d0D)) (hr1:HR res outs x1 a0a.R a0a.O) (st1:j3 Bool Int Unit) (hc1:s5 x1 (fun s:Int=>j5 cx a0a.X res outs c8w (c1O a b s)) st1) (i:Int) (h:b7p a b i=some st1):j5 cx a0a.X res outs c8w (c1O a b i) :=
 P0<|rg<|i9 4 h (fun h=>i9 9 h (fun h=>rg<|u0 p8 2 h fun z8 I0 h=>u0 p8 6 h fun a6D b0r h=>m3 a56 b5A 8 h fun J2 h=>i9 9 h (fun h=>rg<|(z4 h hc1 fun e=>z3 a0a.h (hr1 _ e))) (fun h=>rg<|(w9 h hc1 fun hI=>sg [] [0,1,5] [] hI))) (fun h=>(v6 h hc1 fun e=>sg [] [] [] (hb1 _ e)))) (fun h=>(v6 h hc1 fun e=>sg [] [] [] (hb1 _ e)))
noncomputable def b6o (a:List l8) (b:List l8):Option Bool :=
 ((o9 (fun s:Int=>b7p a b s) 0).bind fun x=>x.go (fun r=>some r) fun s=>d6D)
theorem e6o {a:List l8} {b:List l8} (r:Bool) (h:b6o a b=some r):o7 cx.P 20 [j9 7 p8 a,j9 7 p8 b] (a0a.R r) (a0a.O r) :=
 q8 a0a.X a0a.c a0a.h (fun z=>p7<|x7 h fun x hl hr hb=>sg [] [0,1,5] [] (x9 (I:=fun s:Int=>j5 cx a0a.X (a0a.R r) (a0a.O r) c8w (c1O a b s)) hl fun s st h hc=>e3H a b _ _ x (fun s e=>e4F r (hb s e)) (fun v e=>⟨congrArg a0a.R (Option.some.inj (hr v e)).symm,congrArg a0a.O (Option.some.inj (hr v e)).symm⟩) st hc s h))
noncomputable def K1:FS (Bool):=⟨9,Tryz.f9,[.val [] []],[none],[.val K4 []],fun r=>.b r,fun _=>[none],Tryz.func9⟩
noncomputable def c5M:List Item:=K1.k 3 [false]
noncomputable def c4F (w:l7):St:=⟨(bs 1 (.ptr 1 0 0::(bs 31 []))),[some [],some [.var 28 (D3 w)]]⟩
noncomputable def c2t (w:l7):Option Bool :=
 ((a33 w).bind fun A3=>some A3)
theorem e8o (w:l7) (r:Bool) (h:c2t w=some r):j5 cx K1.X (K1.R r) (K1.O r) c5M (c4F w) :=
 P0<|rg<|m3 A9 a4V 1 h fun A3 h=>fe K1.h h
noncomputable def b8q:List Item:=K1.k 2 []
noncomputable def b8i (w:l7) (i:Int):St:=⟨(bs 1 (.ptr 1 0 0::(bs 1 (vi i::(bs 29 []))))),[some [],some [.var 28 (D3 w)]]⟩
noncomputable def d1f:List Item:=K1.k 5 [true,false]
noncomputable def d0X (w:l7) (i:Int):St:=⟨(bs 1 (.ptr 1 0 0::(bs 1 (vi i::(bs 29 []))))),[some [],some [.var 28 (D3 w)]]⟩
noncomputable def d8L (i:Int):Option (j3 Bool Int Unit) :=
 some (j3.nxt (m9 (i+1)))
theorem e7s (w:l7) (i:Int) (res:V) (outs:s8) (x1:j8 Bool Unit) (hb1:HB cx K1.X res outs x1 c5M (fun s=>c4F w)) (hr1:HR res outs x1 K1.R K1.O) (st1:j3 Bool Int Unit) (hc1:s5 x1 (fun s:Int=>j5 cx K1.X res outs b8q (b8i w s)) st1) (h:d8L i=some st1):j5 cx K1.X res outs d1f (d0X w i) :=
 P0<|rg<|(w9 h hc1 fun hI=>sg [] [1,3] [(1,0)] hI)
noncomputable def c78:List Item:=K1.k 4 [true]
noncomputable def c55 (w:l7) (i:Int) (k:Int):St:=⟨(bs 1 (.ptr 1 0 0::(bs 1 (vi i::(vi k::(bs 28 [])))))),[some [],some [.var 28 (D3 w)]]⟩
noncomputable def b41 (w:l7) (i:Int) (k:Int):Option (j3 Bool Int Unit) :=
 (bif decide (k<i) then ((idx w.Nodes i).bind fun j7=>((idx w.Nodes k).bind fun o8=>((b6o j7.a6 o8.a6).bind fun d8J=>(bif (!d8J) then some (j3.ret false) else some (j3.nxt (m9 (k+1))))))) else some (j3.brk ()))
theorem f0k (w:l7) (i:Int) (res:V) (outs:s8) (x2:j8 Bool Unit) (hb2:HB cx K1.X res outs x2 d1f (fun s=>d0X w i)) (hr2:HR res outs x2 K1.R K1.O) (st2:j3 Bool Int Unit) (hc2:s5 x2 (fun s:Int=>j5 cx K1.X res outs c78 (c55 w i s)) st2) (k:Int) (h:b41 w i k=some st2):j5 cx K1.X res outs c78 (c55 w i k) :=
 P0<|rg<|i9 2 h (fun h=>rg<|u0 C1 3 h fun j7 E8 h=>u0 C1 9 h fun o8 a1I h=>m3 a0a e6o 12 h fun d8J h=>i9 13 h (fun h=>rg<|(z4 h hc2 fun e=>z3 K1.h (hr2 _ e))) (fun h=>rg<|(w9 h hc2 fun hI=>sg [] [1,3,4] [(1,0)] hI))) (fun h=>(v6 h hc2 fun e=>sg [] [1,3] [(1,0)] (hb2 _ e)))
noncomputable def b6U (w:l7) (i:Int):Option (j3 Bool Int Unit) :=
 (bif decide (i<(w.Nodes.length:Int)) then ((o9 (fun s:Int=>b41 w i s) 0).bind fun x=>x.go (fun r=>some (j3.ret r)) fun s=>d8L i) else some (j3.brk ()))
theorem e8z (w:l7) (res:V) (outs:s8) (x1:j8 Bool Unit) (hb1:HB cx K1.X res outs x1 c5M (fun s=>c4F w)) (hr1:HR res outs x1 K1.R K1.O) (st1:j3 Bool Int Unit) (hc1:s5 x1 (fun s:Int=>j5 cx K1.X res outs b8q (b8i w s)) st1) (i:Int) (h:b6U w i=some st1):j5 cx K1.X res outs b8q (b8i w i) :=
 P0<|rg<|i9 4 h (fun h=>rg<|x7 h fun x hl hr hb=>sg [] [1,3,4] [(1,0)] (x9 (I:=fun s:Int=>j5 cx K1.X res outs c78 (c55 w i s)) hl fun s st h hc=>f0k w i _ _ x (fun s e=>e7s w i res outs x1 hb1 hr1 st1 hc1 (hb s e)) (fun v e=>(hr1 _ (a1v (hr v e) hc1))) st hc s h)) (fun h=>(v6 h hc1 fun e=>sg [] [1] [(1,0)] (hb1 _ e)))
noncomputable def a8Z (w:l7):Option Bool :=
 ((o9 (fun s:Int=>b6U w s) 0).bind fun x=>x.go (fun r=>some r) fun s=>c2t w)
theorem d1A {w:l7} (r:Bool) (h:a8Z w=some r):o7 cx.P 9 [.agg (T8 w)] (K1.R r) (K1.O r) :=
 q8 K1.X K1.c K1.h (fun z=>p7<|x7 h fun x hl hr hb=>sg [] [1,3] [(1,0)] (x9 (I:=fun s:Int=>j5 cx K1.X (K1.R r) (K1.O r) b8q (b8i w s)) hl fun s st h hc=>e8z w _ _ x (fun s e=>e8o w r (hb s e)) (fun v e=>⟨congrArg K1.R (Option.some.inj (hr v e)).symm,congrArg K1.O (Option.some.inj (hr v e)).symm⟩) st hc s h))
noncomputable def a5U:FS (m6):=⟨22,Tryz.f22,[.val a3A []],[none,none],[.val O4 [],.val [] []],fun r=>.agg (t0 r),fun _=>[none,none],Tryz.func22⟩
noncomputable def a75 (n:j4) (B3:Int):Option m6 :=
 (bif decide (B3<(n.Acc.a0.length:Int)) then ((idx n.Acc.a0 B3).bind fun A5=>some A5) else some (m6.mk 0 (l8.mk false (n5.mk 0 0) (m8.mk [] [] 0 0))))
theorem b79 {n:j4} {B3:Int} (r:m6) (h:a75 n B3=some r):o7 cx.P 22 [.agg (C1 n),vi B3] (a5U.R r) (a5U.O r) :=
 q8 a5U.X a5U.c a5U.h (fun z=>p7<|i9 5 h (fun h=>rg<|u0 t0 4 h fun A5 O6 h=>fe z h) (fun h=>rg<|fe z h))
noncomputable def E4:FS (Bool):=⟨10,Tryz.f10,[.val [] []],[none],[.val K4 []],fun r=>.b r,fun _=>[none],Tryz.func10⟩
noncomputable def c3s:List Item:=E4.k 4 [false,false]
noncomputable def c8X:St:=⟨(bs 59 []),[some []]⟩
noncomputable def d4j:Option Bool :=
 some true
theorem e6I (r:Bool) (h:d4j=some r):j5 cx E4.X (E4.R r) (E4.O r) c3s (c8X) :=
 P0<|rg<|fe E4.h h
noncomputable def b8v:List Item:=E4.k 3 [false]
noncomputable def b9m (w:l7) (s_:Int):St:=⟨(bs 1 (.ptr 1 0 0::(bs 1 (vi s_::(bs 55 []))))),[some [],some [.var 28 (D3 w)]]⟩
noncomputable def c6A:List Item:=E4.k 6 [false,true,false]
noncomputable def c7T (w:l7) (s_:Int):St:=⟨(bs 1 (.ptr 1 0 0::(bs 1 (vi s_::(bs 55 []))))),[some [],some [.var 28 (D3 w)]]⟩
noncomputable def c5A (s_:Int):Option (j3 Bool Int Unit) :=
 some (j3.nxt (m9 (s_+1)))
theorem e8L (w:l7) (s_:Int) (res:V) (outs:s8) (x1:j8 Bool Unit) (hb1:HB cx E4.X res outs x1 c3s (fun s=>c8X)) (hr1:HR res outs x1 E4.R E4.O) (st1:j3 Bool Int Unit) (hc1:s5 x1 (fun s:Int=>j5 cx E4.X res outs b8v (b9m w s)) st1) (h:c5A s_=some st1):j5 cx E4.X res outs c6A (c7T w s_) :=
 P0<|rg<|(w9 h hc1 fun hI=>sg [] [1,3] [(1,0)] hI)
noncomputable def b8w:List Item:=E4.k 5 [false,true]
noncomputable def b7h (w:l7) (s_:Int) (i:Int):St:=⟨(bs 1 (.ptr 1 0 0::(bs 1 (vi s_::(vi i::(bs 54 [])))))),[some [],some [.var 28 (D3 w)]]⟩
noncomputable def c4H:List Item:=E4.k 8 [false,true,true,false]
noncomputable def c1i (w:l7) (s_:Int) (i:Int):St:=⟨(bs 1 (.ptr 1 0 0::(bs 1 (vi s_::(vi i::(bs 54 [])))))),[some [],some [.var 28 (D3 w)]]⟩
noncomputable def c57 (i:Int):Option (j3 Bool Int Unit) :=
 some (j3.nxt (m9 (i+1)))
theorem e72 (w:l7) (s_:Int) (i:Int) (res:V) (outs:s8) (x2:j8 Bool Unit) (hb2:HB cx E4.X res outs x2 c6A (fun s=>c7T w s_)) (hr2:HR res outs x2 E4.R E4.O) (st2:j3 Bool Int Unit) (hc2:s5 x2 (fun s:Int=>j5 cx E4.X res outs b8w (b7h w s_ s)) st2) (h:c57 i=some st2):j5 cx E4.X res outs c4H (c1i w s_ i) :=
 P0<|rg<|(w9 h hc2 fun hI=>sg [] [1,3,4] [(1,0)] hI)
noncomputable def b80:List Item:=E4.k 7 [false,true,true]
noncomputable def b8U (w:l7) (s_:Int) (i:Int) (k:Int):St:=⟨(bs 1 (.ptr 1 0 0::(bs 1 (vi s_::(vi i::(vi k::(bs 53 []))))))),[some [],some [.var 28 (D3 w)]]⟩
noncomputable def d6L:List Item:=E4.k 11 [false,true,true,true,false]
noncomputable def d2q (w:l7) (s_:Int) (i:Int) (k:Int):St:=⟨(bs 1 (.ptr 1 0 0::(bs 1 (vi s_::(vi i::(vi k::(bs 53 []))))))),[some [],some [.var 28 (D3 w)]]⟩
noncomputable def c3S (k:Int):Option (j3 Bool Int Unit) :=
 some (j3.nxt (m9 (k+1)))
theorem e3D (w:l7) (s_:Int) (i:Int) (k:Int) (res:V) (outs:s8) (x3:j8 Bool Unit) (hb3:HB cx E4.X res outs x3 c4H (fun s=>c1i w s_ i)) (hr3:HR res outs x3 E4.R E4.O) (st3:j3 Bool Int Unit) (hc3:s5 x3 (fun s:Int=>j5 cx E4.X res outs b80 (b8U w s_ i s)) st3) (h:c3S k=some st3):j5 cx E4.X res outs d6L (d2q w s_ i k) :=
 P0<|rg<|(w9 h hc3 fun hI=>sg [] [1,3,4,5] [(1,0)] hI)
noncomputable def b4d (w:l7) (s_:Int) (i:Int) (k:Int):Option (j3 Bool Int Unit) :=
 (bif decide (k<i) then ((idx w.Nodes i).bind fun j7=>((a75 j7 s_).bind fun a3H=>((idx w.Nodes k).bind fun o8=>((a75 o8 s_).bind fun c3D=>(((bif decide (a3H.a7>0) then (bif (a3H.a7==c3D.a7) then ((a9u a3H.g9 c3D.g9).bind fun J2=>(bif (!J2) then some (j8.ret (j3.ret false)) else some (j8.brk ()))) else some (j8.brk ())) else some (j8.brk ())):Option (j8 (j3 Bool Int Unit) Unit)).bind fun x=>x.go some fun j=>c3S k))))) else some (j3.brk ()))
theorem e7r (w:l7) (s_:Int) (i:Int) (res:V) (outs:s8) (x3:j8 Bool Unit) (hb3:HB cx E4.X res outs x3 c4H (fun s=>c1i w s_ i)) (hr3:HR res outs x3 E4.R E4.O) (st3:j3 Bool Int Unit) (hc3:s5 x3 (fun s:Int=>j5 cx E4.X res outs b80 (b8U w s_ i s)) st3) (k:Int) (h:b4d w s_ i k=some st3):j5 cx E4.X res outs b80 (b8U w s_ i k) :=
 P0<|rg<|i9 2 h (fun h=>rg<|u0 C1 3 h fun j7 E8 h=>m3 a5U b79 6 h fun a3H h=>rg<|u0 C1 3 h fun o8 a1I h=>m3 a5U b79 6 h fun c3D h=>E1 (I:=fun j:Unit=>j5 cx E4.X res outs d6L (d2q w s_ i k)) h (fun j h=>e3D w s_ i k res outs x3 hb3 hr3 st3 hc3 h) (fun x4 h hc4=>rg<|i9 3 h (fun h=>i9 10 h (fun h=>m3 a56 b5A 15 h fun J2 h=>i9 17 h (fun h=>rg<|(D6 h hc4 fun h=>(z4 h hc3 fun e=>z3 E4.h (hr3 _ e)))) (fun h=>(s6 h hc4 fun hI=>sg [] [1,3,4,5] [(1,0)] hI))) (fun h=>(s6 h hc4 fun hI=>sg [] [1,3,4,5] [(1,0)] hI))) (fun h=>(s6 h hc4 fun hI=>sg [] [1,3,4,5] [(1,0)] hI)))) (fun h=>(v6 h hc3 fun e=>sg [] [1,3,4] [(1,0)] (hb3 _ e)))
noncomputable def b5e (w:l7) (s_:Int) (i:Int):Option (j3 Bool Int Unit) :=
 (bif decide (i<(w.Nodes.length:Int)) then ((o9 (fun s:Int=>b4d w s_ i s) 0).bind fun x=>x.go (fun r=>some (j3.ret r)) fun s=>c57 i) else some (j3.brk ()))
theorem e03 (w:l7) (s_:Int) (res:V) (outs:s8) (x2:j8 Bool Unit) (hb2:HB cx E4.X res outs x2 c6A (fun s=>c7T w s_)) (hr2:HR res outs x2 E4.R E4.O) (st2:j3 Bool Int Unit) (hc2:s5 x2 (fun s:Int=>j5 cx E4.X res outs b8w (b7h w s_ s)) st2) (i:Int) (h:b5e w s_ i=some st2):j5 cx E4.X res outs b8w (b7h w s_ i) :=
 P0<|rg<|i9 4 h (fun h=>rg<|x7 h fun x hl hr hb=>sg [] [1,3,4,5] [(1,0)] (x9 (I:=fun s:Int=>j5 cx E4.X res outs b80 (b8U w s_ i s)) hl fun s st h hc=>e7r w s_ i _ _ x (fun s e=>e72 w s_ i res outs x2 hb2 hr2 st2 hc2 (hb s e)) (fun v e=>(hr2 _ (a1v (hr v e) hc2))) st hc s h)) (fun h=>(v6 h hc2 fun e=>sg [] [1,3] [(1,0)] (hb2 _ e)))
noncomputable def b4F (w:l7) (s_:Int):Option (j3 Bool Int Unit) :=
 (bif decide (s_<40) then ((o9 (fun s:Int=>b5e w s_ s) 0).bind fun x=>x.go (fun r=>some (j3.ret r)) fun s=>c5A s_) else some (j3.brk ()))
theorem e3x (w:l7) (res:V) (outs:s8) (x1:j8 Bool Unit) (hb1:HB cx E4.X res outs x1 c3s (fun s=>c8X)) (hr1:HR res outs x1 E4.R E4.O) (st1:j3 Bool Int Unit) (hc1:s5 x1 (fun s:Int=>j5 cx E4.X res outs b8v (b9m w s)) st1) (s_:Int) (h:b4F w s_=some st1):j5 cx E4.X res outs b8v (b9m w s_) :=
 P0<|rg<|i9 1 h (fun h=>rg<|x7 h fun x hl hr hb=>sg [] [1,3,4] [(1,0)] (x9 (I:=fun s:Int=>j5 cx E4.X res outs b8w (b7h w s_ s)) hl fun s st h hc=>e03 w s_ _ _ x (fun s e=>e8L w s_ res outs x1 hb1 hr1 st1 hc1 (hb s e)) (fun v e=>(hr1 _ (a1v (hr v e) hc1))) st hc s h)) (fun h=>(v6 h hc1 fun e=>sg [] [] [] (hb1 _ e)))
noncomputable def a9d (w:l7):Option Bool :=
 ((a33 w).bind fun A3=>(bif (!A3) then some false else ((o9 (fun s:Int=>b4F w s) 0).bind fun x=>x.go (fun r=>some r) fun s=>d4j)))
theorem d83 {w:l7} (r:Bool) (h:a9d w=some r):o7 cx.P 10 [.agg (T8 w)] (E4.R r) (E4.O r) :=
 q8 E4.X E4.c E4.h (fun z=>p7<|m3 A9 a4V 1 h fun A3 h=>i9 2 h (fun h=>rg<|fe z h) (fun h=>rg<|x7 h fun x hl hr hb=>sg [] [1,3] [(1,0)] (x9 (I:=fun s:Int=>j5 cx E4.X (E4.R r) (E4.O r) b8v (b9m w s)) hl fun s st h hc=>e3x w _ _ x (fun s e=>e6I r (hb s e)) (fun v e=>⟨congrArg E4.R (Option.some.inj (hr v e)).symm,congrArg E4.O (Option.some.inj (hr v e)).symm⟩) st hc s h)))
noncomputable def S4:FS (Int):=⟨24,Tryz.f24,[.val [] []],[none,none,none],[.val K4 [],.val [] [],.val O2 []],fun r=>vi r,fun _=>[none,none,none],Tryz.func24⟩
noncomputable def c5t:List Item:=S4.k 4 [false]
noncomputable def c5S (n1:Int):St:=⟨(bs 7 (vi n1::(bs 28 []))),[some []]⟩
noncomputable def c9h (n1:Int):Option Int :=
 some n1
theorem e28 (r:Int) (n1:Int) (h:c9h n1=some r):j5 cx S4.X (S4.R r) (S4.O r) c5t (c5S n1) :=
 P0<|rg<|fe S4.h h
noncomputable def b8y:List Item:=S4.k 3 []
noncomputable def b9r (w:l7) (B3:Int) (e_:l8) (n:Int) (i:Int):St:=⟨(bs 1 (vi B3::(bs 1 (.ptr 1 0 0::(bs 1 (.ptr 2 0 0::(bs 1 (vi n::(vi i::(bs 27 [])))))))))),[some [],some [.var 28 (D3 w)],some [.var 47 (a3L e_)]]⟩
noncomputable def d53:List Item:=S4.k 7 [true,true]
noncomputable def d2r (w:l7) (B3:Int) (e_:l8) (i:Int) (n2:Int):St:=⟨(bs 1 (vi B3::(bs 1 (.ptr 1 0 0::(bs 1 (.ptr 2 0 0::(bs 1 (vi n2::(vi i::(bs 27 [])))))))))),[some [],some [.var 28 (D3 w)],some [.var 47 (a3L e_)]]⟩
noncomputable def c53 (i:Int) (n2:Int):Option (j3 Int (Int×Int) Int) :=
 some (j3.nxt (n2,m9 (i+1)))
theorem e0W (w:l7) (B3:Int) (e_:l8) (i:Int) (res:V) (outs:s8) (x1:j8 Int Int) (hb1:HB cx S4.X res outs x1 c5t c5S) (hr1:HR res outs x1 S4.R S4.O) (st1:j3 Int (Int×Int) Int) (hc1:s5 x1 (fun s:Int×Int=>j5 cx S4.X res outs b8y (b9r w B3 e_ s.1 s.2)) st1) (n2:Int) (h:c53 i n2=some st1):j5 cx S4.X res outs d53 (d2r w B3 e_ i n2) :=
 P0<|rg<|(w9 h hc1 fun hI=>sg [] [1,3,5,7,8] [(1,0),(2,0)] hI)
noncomputable def a9I (w:l7) (B3:Int) (e_:l8) (n:Int) (i:Int):Option (j3 Int (Int×Int) Int) :=
 (bif decide (i<(w.Nodes.length:Int)) then ((idx w.Nodes i).bind fun j7=>((a75 j7 B3).bind fun a3H=>(((bif decide (a3H.a7>0) then ((a9u a3H.g9 e_).bind fun J2=>(bif J2 then some (j8.brk (m9 (n+1))) else some (j8.brk n))) else some (j8.brk n)):Option (j8 (j3 Int (Int×Int) Int) Int)).bind fun x=>x.go some fun j=>c53 i j))) else some (j3.brk n))
theorem f0U (w:l7) (B3:Int) (e_:l8) (res:V) (outs:s8) (x1:j8 Int Int) (hb1:HB cx S4.X res outs x1 c5t c5S) (hr1:HR res outs x1 S4.R S4.O) (st1:j3 Int (Int×Int) Int) (hc1:s5 x1 (fun s:Int×Int=>j5 cx S4.X res outs b8y (b9r w B3 e_ s.1 s.2)) st1) (n:Int) (i:Int) (h:a9I w B3 e_ n i=some st1):j5 cx S4.X res outs b8y (b9r w B3 e_ n i) :=
 P0<|rg<|i9 4 h (fun h=>rg<|u0 C1 3 h fun j7 E8 h=>m3 a5U b79 6 h fun a3H h=>E1 (I:=fun j:Int=>j5 cx S4.X res outs d53 (d2r w B3 e_ i j)) h (fun j h=>e0W w B3 e_ i res outs x1 hb1 hr1 st1 hc1 j h) (fun x2 h hc2=>rg<|i9 3 h (fun h=>m3 a56 b5A 7 h fun J2 h=>i9 8 h (fun h=>rg<|(s6 h hc2 fun hI=>sg [] [1,3,5,7,8] [(1,0),(2,0)] hI)) (fun h=>(s6 h hc2 fun hI=>sg [] [1,3,5,7,8] [(1,0),(2,0)] hI))) (fun h=>(s6 h hc2 fun hI=>sg [] [1,3,5,7,8] [(1,0),(2,0)] hI)))) (fun h=>(v6 h hc1 fun e=>sg [] [7] [] (hb1 _ e)))
noncomputable def b8u (w:l7) (B3:Int) (e_:l8):Option Int :=
 ((o9 (fun s:Int×Int=>a9I w B3 e_ s.1 s.2) (0,0)).bind fun x=>x.go (fun r=>some r) fun s=>c9h s)
theorem e07 {w:l7} {B3:Int} {e_:l8} (r:Int) (h:b8u w B3 e_=some r):o7 cx.P 24 [.agg (T8 w),vi B3,.agg (p8 e_)] (S4.R r) (S4.O r) :=
 q8 S4.X S4.c S4.h (fun z=>rg3<|x7 h fun x hl hr hb=>sg [] [1,3,5,7,8] [(1,0),(2,0)] (x9 (I:=fun s:Int×Int=>j5 cx S4.X (S4.R r) (S4.O r) b8y (b9r w B3 e_ s.1 s.2)) hl fun s st h hc=>f0U w B3 e_ _ _ x (fun s e=>e28 r s (hb s e)) (fun v e=>⟨congrArg S4.R (Option.some.inj (hr v e)).symm,congrArg S4.O (Option.some.inj (hr v e)).symm⟩) st hc s.1 s.2 h))
noncomputable def K2:FS (Bool):=⟨11,Tryz.f11,[.val [] []],[none],[.val K4 []],fun r=>.b r,fun _=>[none],Tryz.func11⟩
noncomputable def c4l:List Item:=K2.k 4 [false,false]
noncomputable def c1z:St:=⟨(bs 39 []),[some []]⟩
noncomputable def d7U:Option Bool :=
 some true
theorem e0i (r:Bool) (h:d7U=some r):j5 cx K2.X (K2.R r) (K2.O r) c4l (c1z) :=
 P0<|rg<|fe K2.h h
noncomputable def b73:List Item:=K2.k 3 [false]
noncomputable def b6G (w:l7) (i:Int):St:=⟨(bs 1 (.ptr 1 0 0::(bs 1 (vi i::(bs 35 []))))),[some [],some [.var 28 (D3 w)]]⟩
noncomputable def d5S:List Item:=K2.k 6 [false,true,false]
noncomputable def d11 (w:l7) (i:Int):St:=⟨(bs 1 (.ptr 1 0 0::(bs 1 (vi i::(bs 35 []))))),[some [],some [.var 28 (D3 w)]]⟩
noncomputable def c2e (i:Int):Option (j3 Bool Int Unit) :=
 some (j3.nxt (m9 (i+1)))
theorem f2b (w:l7) (i:Int) (res:V) (outs:s8) (x1:j8 Bool Unit) (hb1:HB cx K2.X res outs x1 c4l (fun s=>c1z)) (hr1:HR res outs x1 K2.R K2.O) (st1:j3 Bool Int Unit) (hc1:s5 x1 (fun s:Int=>j5 cx K2.X res outs b73 (b6G w s)) st1) (h:c2e i=some st1):j5 cx K2.X res outs d5S (d11 w i) :=
 P0<|rg<|(w9 h hc1 fun hI=>sg [] [1,3] [(1,0)] hI)
noncomputable def c70:List Item:=K2.k 5 [false,true]
noncomputable def c2C (w:l7) (i:Int) (s_:Int):St:=⟨(bs 1 (.ptr 1 0 0::(bs 1 (vi i::(vi s_::(bs 34 [])))))),[some [],some [.var 28 (D3 w)]]⟩
noncomputable def b5c (w:l7) (i:Int) (s_:Int):Option (j3 Bool Int Unit) :=
 ((idx w.Nodes i).bind fun j7=>(bif decide (s_<(j7.a6.length:Int)) then ((idx j7.a6 s_).bind fun z8=>((b8u w s_ z8).bind fun d7D=>(bif decide (d7D<2) then some (j3.ret false) else some (j3.nxt (m9 (s_+1)))))) else some (j3.brk ())))
theorem e9c (w:l7) (i:Int) (res:V) (outs:s8) (x2:j8 Bool Unit) (hb2:HB cx K2.X res outs x2 d5S (fun s=>d11 w i)) (hr2:HR res outs x2 K2.R K2.O) (st2:j3 Bool Int Unit) (hc2:s5 x2 (fun s:Int=>j5 cx K2.X res outs c70 (c2C w i s)) st2) (s_:Int) (h:b5c w i s_=some st2):j5 cx K2.X res outs c70 (c2C w i s_) :=
 P0<|rg<|u0 C1 4 h fun j7 E8 h=>i9 8 h (fun h=>rg<|N5 C1 5 E8<|u0 p8 9 h fun z8 I0 h=>m3 S4 e07 11 h fun d7D h=>i9 12 h (fun h=>rg<|(z4 h hc2 fun e=>z3 K2.h (hr2 _ e))) (fun h=>rg<|(w9 h hc2 fun hI=>sg [] [1,3,4] [(1,0)] hI))) (fun h=>(v6 h hc2 fun e=>sg [] [1,3] [(1,0)] (hb2 _ e)))
noncomputable def b89 (w:l7) (i:Int):Option (j3 Bool Int Unit) :=
 (bif decide (i<(w.Nodes.length:Int)) then ((o9 (fun s:Int=>b5c w i s) 0).bind fun x=>x.go (fun r=>some (j3.ret r)) fun s=>c2e i) else some (j3.brk ()))
theorem e7z (w:l7) (res:V) (outs:s8) (x1:j8 Bool Unit) (hb1:HB cx K2.X res outs x1 c4l (fun s=>c1z)) (hr1:HR res outs x1 K2.R K2.O) (st1:j3 Bool Int Unit) (hc1:s5 x1 (fun s:Int=>j5 cx K2.X res outs b73 (b6G w s)) st1) (i:Int) (h:b89 w i=some st1):j5 cx K2.X res outs b73 (b6G w i) :=
 P0<|rg<|i9 4 h (fun h=>rg<|x7 h fun x hl hr hb=>sg [] [1,3,4] [(1,0)] (x9 (I:=fun s:Int=>j5 cx K2.X res outs c70 (c2C w i s)) hl fun s st h hc=>e9c w i _ _ x (fun s e=>f2b w i res outs x1 hb1 hr1 st1 hc1 (hb s e)) (fun v e=>(hr1 _ (a1v (hr v e) hc1))) st hc s h)) (fun h=>(v6 h hc1 fun e=>sg [] [] [] (hb1 _ e)))
noncomputable def b1B (w:l7):Option Bool :=
 ((a33 w).bind fun A3=>(bif (!A3) then some false else ((o9 (fun s:Int=>b89 w s) 0).bind fun x=>x.go (fun r=>some r) fun s=>d7U)))
theorem d7V {w:l7} (r:Bool) (h:b1B w=some r):o7 cx.P 11 [.agg (T8 w)] (K2.R r) (K2.O r) :=
 q8 K2.X K2.c K2.h (fun z=>p7<|m3 A9 a4V 1 h fun A3 h=>i9 2 h (fun h=>rg<|fe z h) (fun h=>rg<|x7 h fun x hl hr hb=>sg [] [1,3] [(1,0)] (x9 (I:=fun s:Int=>j5 cx K2.X (K2.R r) (K2.O r) b73 (b6G w s)) hl fun s st h hc=>e7z w _ _ x (fun s e=>e0i r (hb s e)) (fun v e=>⟨congrArg K2.R (Option.some.inj (hr v e)).symm,congrArg K2.O (Option.some.inj (hr v e)).symm⟩) st hc s h)))
noncomputable def b10:FS (Bool):=⟨25,Tryz.f25,[.val [] []],[none],[.val O4 []],fun r=>.b r,fun _=>[none],Tryz.func25⟩
noncomputable def c0u (n:j4):Option Bool :=
 (bif (n.d7 != 3) then some true else ((a75 n (n.a6.length:Int)).bind fun a3H=>(bif decide (a3H.a7≥n.a7) then (bif decide (a3H.a7>n.a7) then some true else ((a9u a3H.g9 n.b9).bind fun J2=>some J2)) else some false)))
theorem e4R {n:j4} (r:Bool) (h:c0u n=some r):o7 cx.P 25 [.agg (C1 n)] (b10.R r) (b10.O r) :=
 q8 b10.X b10.c b10.h (fun z=>p7<|i9 2 h (fun h=>rg<|fe z h) (fun h=>rg<|m3 a5U b79 4 h fun a3H h=>rg<|i9 5 h (fun h=>i9 11 h (fun h=>fe z h) (fun h=>m3 a56 b5A 16 h fun J2 h=>fe z h)) (fun h=>fe z h)))
noncomputable def G8:FS (Bool):=⟨12,Tryz.f12,[.val [] []],[none],[.val K4 []],fun r=>.b r,fun _=>[none],Tryz.func12⟩
noncomputable def c6G:List Item:=G8.k 4 [false,false]
noncomputable def c7x:St:=⟨(bs 49 []),[some []]⟩
noncomputable def d1d:Option Bool :=
 some true
theorem e0H (r:Bool) (h:d1d=some r):j5 cx G8.X (G8.R r) (G8.O r) c6G (c7x) :=
 P0<|rg<|fe G8.h h
noncomputable def c03:List Item:=G8.k 3 [false]
noncomputable def b9y (w:l7) (i:Int):St:=⟨(bs 1 (.ptr 1 0 0::(bs 1 (vi i::(bs 45 []))))),[some [],some [.var 28 (D3 w)]]⟩
noncomputable def c1Y:List Item:=G8.k 7 [false,true,false,false]
noncomputable def c8F (w:l7) (i:Int):St:=⟨(bs 1 (.ptr 1 0 0::(bs 1 (vi i::(bs 45 []))))),[some [],some [.var 28 (D3 w)]]⟩
noncomputable def c4N (i:Int):Option (j3 Bool Int Unit) :=
 some (j3.nxt (m9 (i+1)))
theorem e5N (w:l7) (i:Int) (res:V) (outs:s8) (x1:j8 Bool Unit) (hb1:HB cx G8.X res outs x1 c6G (fun s=>c7x)) (hr1:HR res outs x1 G8.R G8.O) (st1:j3 Bool Int Unit) (hc1:s5 x1 (fun s:Int=>j5 cx G8.X res outs c03 (b9y w s)) st1) (h:c4N i=some st1):j5 cx G8.X res outs c1Y (c8F w i) :=
 P0<|rg<|(w9 h hc1 fun hI=>sg [] [1,3] [(1,0)] hI)
noncomputable def b8L:List Item:=G8.k 6 [false,true,false]
noncomputable def b8h (w:l7) (i:Int) (k:Int):St:=⟨(bs 1 (.ptr 1 0 0::(bs 1 (vi i::(vi k::(bs 44 [])))))),[some [],some [.var 28 (D3 w)]]⟩
noncomputable def d2y:List Item:=G8.k 8 [false,true,false,true,false]
noncomputable def d6r (w:l7) (i:Int) (k:Int):St:=⟨(bs 1 (.ptr 1 0 0::(bs 1 (vi i::(vi k::(bs 44 [])))))),[some [],some [.var 28 (D3 w)]]⟩
noncomputable def c6N (k:Int):Option (j3 Bool Int Unit) :=
 some (j3.nxt (m9 (k+1)))
theorem f4u (w:l7) (i:Int) (k:Int) (res:V) (outs:s8) (x2:j8 Bool Unit) (hb2:HB cx G8.X res outs x2 c1Y (fun s=>c8F w i)) (hr2:HR res outs x2 G8.R G8.O) (st2:j3 Bool Int Unit) (hc2:s5 x2 (fun s:Int=>j5 cx G8.X res outs b8L (b8h w i s)) st2) (h:c6N k=some st2):j5 cx G8.X res outs d2y (d6r w i k) :=
 P0<|rg<|(w9 h hc2 fun hI=>sg [] [1,3,4] [(1,0)] hI)
noncomputable def b4P (w:l7) (i:Int) (k:Int):Option (j3 Bool Int Unit) :=
 (bif decide (k<i) then ((((idx w.Nodes i).bind fun o8=>(bif decide (o8.a7>0) then ((idx w.Nodes k).bind fun B4=>(bif (o8.a7==B4.a7) then some (j8.ret (j3.ret false)) else some (j8.brk ()))) else some (j8.brk ()))):Option (j8 (j3 Bool Int Unit) Unit)).bind fun x=>x.go some fun j=>c6N k) else some (j3.brk ()))
theorem e9J (w:l7) (i:Int) (res:V) (outs:s8) (x2:j8 Bool Unit) (hb2:HB cx G8.X res outs x2 c1Y (fun s=>c8F w i)) (hr2:HR res outs x2 G8.R G8.O) (st2:j3 Bool Int Unit) (hc2:s5 x2 (fun s:Int=>j5 cx G8.X res outs b8L (b8h w i s)) st2) (k:Int) (h:b4P w i k=some st2):j5 cx G8.X res outs b8L (b8h w i k) :=
 P0<|rg<|i9 2 h (fun h=>E1 (I:=fun j:Unit=>j5 cx G8.X res outs d2y (d6r w i k)) h (fun j h=>f4u w i k res outs x2 hb2 hr2 st2 hc2 h) (fun x3 h hc3=>rg<|u0 C1 3 h fun o8 a1I h=>i9 7 h (fun h=>N5 C1 11 a1I<|u0 C1 17 h fun B4 b4q h=>i9 21 h (fun h=>rg<|(D6 h hc3 fun h=>(z4 h hc2 fun e=>z3 G8.h (hr2 _ e)))) (fun h=>(s6 h hc3 fun hI=>sg [] [1,3,4] [(1,0)] hI))) (fun h=>(s6 h hc3 fun hI=>sg [] [1,3,4] [(1,0)] hI)))) (fun h=>(v6 h hc2 fun e=>sg [] [1,3] [(1,0)] (hb2 _ e)))
noncomputable def b5Q (w:l7) (i:Int):Option (j3 Bool Int Unit) :=
 (bif decide (i<(w.Nodes.length:Int)) then ((idx w.Nodes i).bind fun j7=>((c0u j7).bind fun d1L=>(bif (!d1L) then some (j3.ret false) else ((o9 (fun s:Int=>b4P w i s) 0).bind fun x=>x.go (fun r=>some (j3.ret r)) fun s=>c4N i)))) else some (j3.brk ()))
theorem f4H (w:l7) (res:V) (outs:s8) (x1:j8 Bool Unit) (hb1:HB cx G8.X res outs x1 c6G (fun s=>c7x)) (hr1:HR res outs x1 G8.R G8.O) (st1:j3 Bool Int Unit) (hc1:s5 x1 (fun s:Int=>j5 cx G8.X res outs c03 (b9y w s)) st1) (i:Int) (h:b5Q w i=some st1):j5 cx G8.X res outs c03 (b9y w i) :=
 P0<|rg<|i9 4 h (fun h=>rg<|u0 C1 3 h fun j7 E8 h=>m3 b10 e4R 5 h fun d1L h=>i9 6 h (fun h=>rg<|(z4 h hc1 fun e=>z3 G8.h (hr1 _ e))) (fun h=>rg<|x7 h fun x hl hr hb=>sg [] [1,3,4] [(1,0)] (x9 (I:=fun s:Int=>j5 cx G8.X res outs b8L (b8h w i s)) hl fun s st h hc=>e9J w i _ _ x (fun s e=>e5N w i res outs x1 hb1 hr1 st1 hc1 (hb s e)) (fun v e=>(hr1 _ (a1v (hr v e) hc1))) st hc s h))) (fun h=>(v6 h hc1 fun e=>sg [] [] [] (hb1 _ e)))
noncomputable def a8F (w:l7):Option Bool :=
 ((a33 w).bind fun A3=>(bif (!A3) then some false else ((o9 (fun s:Int=>b5Q w s) 0).bind fun x=>x.go (fun r=>some r) fun s=>d1d)))
theorem d6E {w:l7} (r:Bool) (h:a8F w=some r):o7 cx.P 12 [.agg (T8 w)] (G8.R r) (G8.O r) :=
 q8 G8.X G8.c G8.h (fun z=>p7<|m3 A9 a4V 1 h fun A3 h=>i9 2 h (fun h=>rg<|fe z h) (fun h=>rg<|x7 h fun x hl hr hb=>sg [] [1,3] [(1,0)] (x9 (I:=fun s:Int=>j5 cx G8.X (G8.R r) (G8.O r) c03 (b9y w s)) hl fun s st h hc=>f4H w _ _ x (fun s e=>e0H r (hb s e)) (fun v e=>⟨congrArg G8.R (Option.some.inj (hr v e)).symm,congrArg G8.O (Option.some.inj (hr v e)).symm⟩) st hc s h)))
noncomputable def b0o:FS (List l8):=⟨131,Tryz.f131,[.val [some 7] [some 47]],[none],[.val [some 7] []],fun r=>p6 47 7 p8 r,fun _=>[none],Tryz.func131⟩
noncomputable def b8t (i8:List l8):Option (List l8) :=
 (bif ((i8.length:Int)==0) then some [] else (u5 (0≤(i8.length:Int)∧(i8.length:Int) * 88≤140737488355328) ((u5 (i8.length=(List.replicate (i8.length:Int).toNat (l8.mk false (n5.mk 0 0) (m8.mk [] [] 0 0))).length) (some i8)))))
theorem e3e {i8:List l8} (r:List l8) (h:b8t i8=some r):o7 cx.P 131 [j9 7 p8 i8] (b0o.R r) (b0o.O r) :=
 q8 b0o.X b0o.c b0o.h (fun z=>p7<|i9 2 h (fun h=>rg<|fe z h) (fun h=>rg<|w8 h fun e1 h=>mkS 2 7 47 7 88 p8 (l8.mk false (n5.mk 0 0) (m8.mk [] [] 0 0)) c6R (.ck O2) e1 (by decide) (by rfl)<|rg<|w8 h fun e2 h=>om (s4.row 47 7 (List.replicate (i8.length:Int).toNat (l8.mk false (n5.mk 0 0) (m8.mk [] [] 0 0))).length (i8.map p8)=m5 47 7 p8 i8) (a7c e2)<|o6 (List.replicate (i8.length:Int).toNat (l8.mk false (n5.mk 0 0) (m8.mk [] [] 0 0)))<|ob e2<|tl (2,{ e:=some (m5 47 7 p8 i8) })<|rg<|om ((List.replicate (i8.length:Int).toNat (l8.mk false (n5.mk 0 0) (m8.mk [] [] 0 0))).length=i8.length) (by simp)<|fe z h))
noncomputable def V2:FS (List n7):=⟨160,Tryz.f160,[.val [some 2] [some 121]],[none],[.val [some 2] []],fun r=>p6 121 2 u6 r,fun _=>[none],Tryz.func160⟩
noncomputable def a4C (i8:List n7):Option (List n7) :=
 (bif ((i8.length:Int)==0) then some [] else (u5 (0≤(i8.length:Int)∧(i8.length:Int) * 16≤140737488355328) ((u5 (i8.length=(List.replicate (i8.length:Int).toNat (n7.mk 0 0)).length) (some i8)))))
theorem b1j {i8:List n7} (r:List n7) (h:a4C i8=some r):o7 cx.P 160 [j9 2 u6 i8] (V2.R r) (V2.O r) :=
 q8 V2.X V2.c V2.h (fun z=>p7<|i9 2 h (fun h=>rg<|fe z h) (fun h=>rg<|w8 h fun e1 h=>mkS 2 7 121 2 16 u6 (n7.mk 0 0) c6y (.none) e1 (by decide) (by rfl)<|rg<|w8 h fun e2 h=>om (s4.row 121 2 (List.replicate (i8.length:Int).toNat (n7.mk 0 0)).length (i8.map u6)=m5 121 2 u6 i8) (a7c e2)<|o6 (List.replicate (i8.length:Int).toNat (n7.mk 0 0))<|ob e2<|tl (2,{ e:=some (m5 121 2 u6 i8) })<|rg<|om ((List.replicate (i8.length:Int).toNat (n7.mk 0 0)).length=i8.length) (by simp)<|fe z h))
noncomputable def a5k:FS (List n3):=⟨161,Tryz.f161,[.val [some 2] [some 124]],[none],[.val [some 2] []],fun r=>p6 124 2 u9 r,fun _=>[none],Tryz.func161⟩
noncomputable def a9x (i8:List n3):Option (List n3) :=
 (bif ((i8.length:Int)==0) then some [] else (u5 (0≤(i8.length:Int)∧(i8.length:Int) * 16≤140737488355328) ((u5 (i8.length=(List.replicate (i8.length:Int).toNat (n3.mk 0 0)).length) (some i8)))))
theorem d2D {i8:List n3} (r:List n3) (h:a9x i8=some r):o7 cx.P 161 [j9 2 u9 i8] (a5k.R r) (a5k.O r) :=
 q8 a5k.X a5k.c a5k.h (fun z=>p7<|i9 2 h (fun h=>rg<|fe z h) (fun h=>rg<|w8 h fun e1 h=>mkS 2 7 124 2 16 u9 (n3.mk 0 0) c3l (.none) e1 (by decide) (by rfl)<|rg<|w8 h fun e2 h=>om (s4.row 124 2 (List.replicate (i8.length:Int).toNat (n3.mk 0 0)).length (i8.map u9)=m5 124 2 u9 i8) (a7c e2)<|o6 (List.replicate (i8.length:Int).toNat (n3.mk 0 0))<|ob e2<|tl (2,{ e:=some (m5 124 2 u9 i8) })<|rg<|om ((List.replicate (i8.length:Int).toNat (n3.mk 0 0)).length=i8.length) (by simp)<|fe z h))
noncomputable def b15:FS (m8):=⟨157,Tryz.f157,[.val Y4 []],[none],[.val Y4 []],fun r=>.agg (Z2 r),fun _=>[none],Tryz.func157⟩
noncomputable def c8U (r_:m8):Option m8 :=
 ((a4C r_.a8).bind fun G5=>((a9x r_.a9).bind fun put=>some (m8.mk G5 put r_.d6 r_.Code)))
theorem e30 {r_:m8} (r:m8) (h:c8U r_=some r):o7 cx.P 157 [.agg (Z2 r_)] (b15.R r) (b15.O r) :=
 q8 b15.X b15.c b15.h (fun z=>p7<|m3 V2 b1j 2 h fun G5 h=>m3 a5k d2D 5 h fun put h=>J3 G5 put<|fe z h)
noncomputable def b1Q:FS (l8):=⟨132,Tryz.f132,[.val O2 []],[none],[.val O2 []],fun r=>.agg (p8 r),fun _=>[none],Tryz.func132⟩
noncomputable def b81 (e_:l8):Option l8 :=
 ((c8U e_.b6).bind fun d3K=>some (l8.mk e_.i0 e_.a5 d3K))
theorem e5w {e_:l8} (r:l8) (h:b81 e_=some r):o7 cx.P 132 [.agg (p8 e_)] (b1Q.R r) (b1Q.O r) :=
 q8 b1Q.X b1Q.c b1Q.h (fun z=>p7<|m3 b15 e30 6 h fun d3K h=>fe z h)
noncomputable def a0m:FS (List l8):=⟨92,Tryz.f92,[.val [some 7] [some 47]],[none],[.val [some 7] []],fun r=>p6 47 7 p8 r,fun _=>[none],Tryz.func92⟩
noncomputable def d2a:List Item:=a0m.k 4 [false]
noncomputable def d1E (out1:List l8):St:=⟨(bs 3 (.own 1 0 7 0 out1.length::(bs 18 []))),[some [],some [m5 47 7 p8 out1]]⟩
noncomputable def d7p (out1:List l8):Option (List l8) :=
 some out1
theorem e2w (r:List l8) (out1:List l8) (h:d7p out1=some r):j5 cx a0m.X (a0m.R r) (a0m.O r) d2a (d1E out1) :=
 P0<|rg<|o6 out1<|fe a0m.h h
noncomputable def c2Y:List Item:=a0m.k 3 []
noncomputable def c5w (z8:List l8) (out:List l8) (v9:Int):St:=⟨(bs 3 (.own 1 0 7 0 out.length::(bs 4 (vi (z8.length:Int)::(vi v9::(bs 12 [])))))),[some [],some [m5 47 7 p8 out]]⟩
noncomputable def b3T (z8:List l8) (out:List l8) (v9:Int):Option (j3 (List l8) ((List l8)×Int) (List l8)) :=
 (bif decide (v9<(z8.length:Int)) then ((idx out v9).bind fun a6D=>((b81 a6D).bind fun b5d=>some (j3.nxt (out.set v9.toNat b5d,m9 (v9+1))))) else some (j3.brk out))
theorem e6q (z8:List l8) (res:V) (outs:s8) (x1:j8 (List l8) (List l8)) (hb1:HB cx a0m.X res outs x1 d2a d1E) (hr1:HR res outs x1 a0m.R a0m.O) (st1:j3 (List l8) ((List l8)×Int) (List l8)) (hc1:s5 x1 (fun s:(List l8)×Int=>j5 cx a0m.X res outs c2Y (c5w z8 s.1 s.2)) st1) (out:List l8) (v9:Int) (h:b3T z8 out v9=some st1):j5 cx a0m.X res outs c2Y (c5w z8 out v9) :=
 P0<|rg<|i9 0 h (fun h=>p7<|C6 h fun a6D b0r h=>E2 b0r<|V3 p8 5 b0r<|m3 b1Q e5w 6 h fun b5d h=>E2 b0r<|stR 47 7 p8 8 O2 b5d b0r<|rg<|(w9 h hc1 fun hI=>om ((.own 1 0 7 0 out.length:V) = .own 1 0 7 0 (out.set v9.toNat b5d).length) (by simp)<|sg [.is (.tmp 3) (.own 1 0 7 0 (out.set v9.toNat b5d).length)] [3,8,9] [(1,0)] hI)) (fun h=>(v6 h hc1 fun e=>sg [] [3] [(1,0)] (hb1 _ e)))
noncomputable def c0v (i8:List l8):Option (List l8) :=
 ((b8t i8).bind fun z8=>((o9 (fun s:(List l8)×Int=>b3T z8 s.1 s.2) (z8,0)).bind fun x=>x.go (fun r=>some r) fun s=>d7p s))
theorem e35 {i8:List l8} (r:List l8) (h:c0v i8=some r):o7 cx.P 92 [j9 7 p8 i8] (a0m.R r) (a0m.O r) :=
 q8 a0m.X a0m.c a0m.h (fun z=>p7<|m3 b0o e3e 1 h fun z8 h=>rg<|x7 h fun x hl hr hb=>sg [] [3,8,9] [(3,0)] (x9 (I:=fun s:(List l8)×Int=>j5 cx a0m.X (a0m.R r) (a0m.O r) c2Y (c5w z8 s.1 s.2)) hl fun s st h hc=>e6q z8 _ _ x (fun s e=>e2w r s (hb s e)) (fun v e=>⟨congrArg a0m.R (Option.some.inj (hr v e)).symm,congrArg a0m.O (Option.some.inj (hr v e)).symm⟩) st hc s.1 s.2 h))
noncomputable def O7:FS (List l8):=⟨48,Tryz.f48,[.val [some 7] []],[none],[.val K4 []],fun r=>j9 7 p8 r,fun _=>[none],Tryz.func48⟩
noncomputable def c8G:List Item:=O7.k 4 [false]
noncomputable def c1p (w:l7) (a29:Int):St:=⟨(bs 1 (.ptr 1 0 0::(bs 1 (vi a29::(bs 36 []))))),[some [],some [.var 28 (D3 w)]]⟩
noncomputable def c6Q (w:l7) (a29:Int):Option (List l8) :=
 (bif decide (a29<0) then some [] else ((idx w.Nodes a29).bind fun j7=>((c0v j7.a6).bind fun c1D=>some c1D)))
theorem e6f (w:l7) (r:List l8) (a29:Int) (h:c6Q w a29=some r):j5 cx O7.X (O7.R r) (O7.O r) c8G (c1p w a29) :=
 P0<|rg<|i9 1 h (fun h=>rg<|fe O7.h h) (fun h=>rg<|u0 C1 3 h fun j7 E8 h=>m3 a0m e35 6 h fun c1D h=>o6 c1D<|fe O7.h h)
noncomputable def b6X:List Item:=O7.k 3 []
noncomputable def b8S (w:l7) (best:Int) (v9:Int):St:=⟨(bs 1 (.ptr 1 0 0::(bs 1 (vi best::(bs 3 (j9 27 C1 w.Nodes::(vi (w.Nodes.length:Int)::(vi v9::(bs 30 []))))))))),[some [],some [.var 28 (D3 w)]]⟩
noncomputable def d0j:List Item:=O7.k 7 [true,true]
noncomputable def c9n (w:l7) (v9:Int) (a3t:Int):St:=⟨(bs 1 (.ptr 1 0 0::(bs 1 (vi a3t::(bs 3 (j9 27 C1 w.Nodes::(vi (w.Nodes.length:Int)::(vi v9::(bs 30 []))))))))),[some [],some [.var 28 (D3 w)]]⟩
noncomputable def b6e (v9:Int) (a3t:Int):Option (j3 (List l8) (Int×Int) Int) :=
 some (j3.nxt (a3t,m9 (v9+1)))
theorem e6A (w:l7) (v9:Int) (res:V) (outs:s8) (x1:j8 (List l8) Int) (hb1:HB cx O7.X res outs x1 c8G (c1p w)) (hr1:HR res outs x1 O7.R O7.O) (st1:j3 (List l8) (Int×Int) Int) (hc1:s5 x1 (fun s:Int×Int=>j5 cx O7.X res outs b6X (b8S w s.1 s.2)) st1) (a3t:Int) (h:b6e v9 a3t=some st1):j5 cx O7.X res outs d0j (c9n w v9 a3t) :=
 P0<|rg<|(w9 h hc1 fun hI=>sg [] [1,3,7,8,9] [(1,0)] hI)
noncomputable def a5F (w:l7) (best:Int) (v9:Int):Option (j3 (List l8) (Int×Int) Int) :=
 (bif decide (v9<(w.Nodes.length:Int)) then ((idx w.Nodes v9).bind fun o8=>(((bif decide (best<0) then some (j8.brk v9) else ((idx w.Nodes best).bind fun B4=>(bif decide ((o8.a6.length:Int)>(B4.a6.length:Int)) then some (j8.brk v9) else some (j8.brk best)))):Option (j8 (j3 (List l8) (Int×Int) Int) Int)).bind fun x=>x.go some fun j=>b6e v9 j)) else some (j3.brk best))
theorem f0w (w:l7) (res:V) (outs:s8) (x1:j8 (List l8) Int) (hb1:HB cx O7.X res outs x1 c8G (c1p w)) (hr1:HR res outs x1 O7.R O7.O) (st1:j3 (List l8) (Int×Int) Int) (hc1:s5 x1 (fun s:Int×Int=>j5 cx O7.X res outs b6X (b8S w s.1 s.2)) st1) (best:Int) (v9:Int) (h:a5F w best v9=some st1):j5 cx O7.X res outs b6X (b8S w best v9) :=
 P0<|rg<|i9 0 h (fun h=>rg<|u0 C1 1 h fun o8 a1I h=>E1 (I:=fun j:Int=>j5 cx O7.X res outs d0j (c9n w v9 j)) h (fun j h=>e6A w v9 res outs x1 hb1 hr1 st1 hc1 j h) (fun x2 h hc2=>rg<|i9 2 h (fun h=>rg<|(s6 h hc2 fun hI=>sg [] [1,3,7,8,9] [(1,0)] hI)) (fun h=>u0 C1 9 h fun B4 b4q h=>i9 14 h (fun h=>rg<|(s6 h hc2 fun hI=>sg [] [1,3,7,8,9] [(1,0)] hI)) (fun h=>(s6 h hc2 fun hI=>sg [] [1,3,7,8,9] [(1,0)] hI))))) (fun h=>(v6 h hc1 fun e=>sg [] [1,3] [(1,0)] (hb1 _ e)))
noncomputable def b0v (w:l7):Option (List l8) :=
 ((o9 (fun s:Int×Int=>a5F w s.1 s.2) ((-1),0)).bind fun x=>x.go (fun r=>some r) fun s=>c6Q w s)
theorem d7C {w:l7} (r:List l8) (h:b0v w=some r):o7 cx.P 48 [.agg (T8 w)] (O7.R r) (O7.O r) :=
 q8 O7.X O7.c O7.h (fun z=>rg3<|x7 h fun x hl hr hb=>sg [] [1,3,7,8,9] [(1,0)] (x9 (I:=fun s:Int×Int=>j5 cx O7.X (O7.R r) (O7.O r) b6X (b8S w s.1 s.2)) hl fun s st h hc=>f0w w _ _ x (fun s e=>e6f w r s (hb s e)) (fun v e=>⟨congrArg O7.R (Option.some.inj (hr v e)).symm,congrArg O7.O (Option.some.inj (hr v e)).symm⟩) st hc s.1 s.2 h))
noncomputable def a84:FS (List m4):=⟨52,Tryz.f52,[.val [some 2] [some 132]],[],[],fun r=>p6 132 2 v5 r,fun _=>[],Tryz.func52⟩
noncomputable def b5p:Option (List m4) :=
 (u5 (0≤(4:Int)∧(4:Int) * 16≤140737488355328) (some (List.replicate (4:Int).toNat (m4.mk 0 0))))
theorem d1X (r:List m4) (h:b5p=some r):o7 cx.P 52 [] (a84.R r) (a84.O r) :=
 q8 a84.X a84.c a84.h (fun z=>p7<|w8 h fun e1 h=>mkS 0 2 132 2 16 v5 (m4.mk 0 0) b5h (.none) e1 (by decide) (by rfl)<|o6 (List.replicate (4:Int).toNat (m4.mk 0 0))<|fe z h)
noncomputable def a9V:FS (q7):=⟨100,Tryz.f100,[.val [none,some 2,some 4] [none,some 132,some 159]],[],[],fun r=>.agg [vi r.At,p6 132 2 v5 r.d8,p6 159 4 C4 r.g8],fun _=>[],Tryz.func100⟩
noncomputable def b9v:Option q7 :=
 ((b5p).bind fun a2s=>some (q7.mk 0 a2s []))
theorem f4m (r:q7) (h:b9v=some r):o7 cx.P 100 [] (a9V.R r) (a9V.O r) :=
 q8 a9V.X a9V.c a9V.h (fun z=>p7<|m3 a84 d1X 0 h fun a2s h=>o6 a2s<|fe z h)
noncomputable def T3:FS (Bool):=⟨95,Tryz.f95,[.val [] []],[none],[.val [some 2] []],fun r=>.b r,fun _=>[none],Tryz.func95⟩
noncomputable def d0A:List Item:=T3.k 3 [false]
noncomputable def d5n (i8:List m4):St:=⟨(j9 2 v5 i8::(bs 24 [])),[some []]⟩
noncomputable def c2X (i8:List m4):Option Bool :=
 some ((i8.length:Int)==4)
theorem f3E (i8:List m4) (r:Bool) (h:c2X i8=some r):j5 cx T3.X (T3.R r) (T3.O r) d0A (d5n i8) :=
 P0<|rg<|fe T3.h h
noncomputable def c4C:List Item:=T3.k 2 []
noncomputable def c65 (i8:List m4) (v7:Int):St:=⟨(j9 2 v5 i8::(bs 4 (j9 2 v5 i8::(vi (i8.length:Int)::(vi v7::(bs 17 [])))))),[some []]⟩
noncomputable def c0Y (i8:List m4) (v7:Int):Option (j3 Bool Int Unit) :=
 (bif decide (v7<(i8.length:Int)) then ((idx i8 v7).bind fun box=>((K8 box.i7 0 1000000).bind fun in_=>(bif (!in_) then some (j3.ret false) else ((K8 box.d6 (-1000000) 1000000).bind fun N2=>(bif (!N2) then some (j3.ret false) else some (j3.nxt (m9 (v7+1)))))))) else some (j3.brk ()))
theorem f4z (i8:List m4) (res:V) (outs:s8) (x1:j8 Bool Unit) (hb1:HB cx T3.X res outs x1 d0A (fun s=>d5n i8)) (hr1:HR res outs x1 T3.R T3.O) (st1:j3 Bool Int Unit) (hc1:s5 x1 (fun s:Int=>j5 cx T3.X res outs c4C (c65 i8 s)) st1) (v7:Int) (h:c0Y i8 v7=some st1):j5 cx T3.X res outs c4C (c65 i8 v7) :=
 P0<|rg<|i9 0 h (fun h=>rg<|u0 v5 0 h fun box a3M h=>rg<|m3 K5 M7 2 h fun in_ h=>i9 4 h (fun h=>rg<|(z4 h hc1 fun e=>z3 T3.h (hr1 _ e))) (fun h=>m3 K5 M7 7 h fun N2 h=>i9 9 h (fun h=>rg<|(z4 h hc1 fun e=>z3 T3.h (hr1 _ e))) (fun h=>rg<|(w9 h hc1 fun hI=>sg [] [0,5,6,7] [] hI)))) (fun h=>(v6 h hc1 fun e=>sg [] [0] [] (hb1 _ e)))
noncomputable def a70 (i8:List m4):Option Bool :=
 ((o9 (fun s:Int=>c0Y i8 s) 0).bind fun x=>x.go (fun r=>some r) fun s=>c2X i8)
theorem b5a {i8:List m4} (r:Bool) (h:a70 i8=some r):o7 cx.P 95 [j9 2 v5 i8] (T3.R r) (T3.O r) :=
 q8 T3.X T3.c T3.h (fun z=>p7<|x7 h fun x hl hr hb=>sg [] [0,5,6,7] [] (x9 (I:=fun s:Int=>j5 cx T3.X (T3.R r) (T3.O r) c4C (c65 i8 s)) hl fun s st h hc=>f4z i8 _ _ x (fun s e=>f3E i8 r (hb s e)) (fun v e=>⟨congrArg T3.R (Option.some.inj (hr v e)).symm,congrArg T3.O (Option.some.inj (hr v e)).symm⟩) st hc s h))
noncomputable def K9:FS (Bool):=⟨135,Tryz.f135,[.val [] []],[none],[.val [none,some 2,some 4] []],fun r=>.b r,fun _=>[none],Tryz.func135⟩
noncomputable def c64:List Item:=K9.k 3 [false]
noncomputable def c7i (s_:q7):St:=⟨(bs 1 (.ptr 1 0 0::(bs 64 []))),[some [],some [.var 91 [vi s_.At,j9 2 v5 s_.d8,j9 4 C4 s_.g8]]]⟩
noncomputable def c3a (s_:q7):Option Bool :=
 ((K8 s_.At 0 40).bind fun in_=>(bif in_ then ((a70 s_.d8).bind fun Y0=>some Y0) else some false))
theorem e4s (s_:q7) (r:Bool) (h:c3a s_=some r):j5 cx K9.X (K9.R r) (K9.O r) c64 (c7i s_) :=
 P0<|rg<|m3 K5 M7 2 h fun in_ h=>i9 3 h (fun h=>m3 T3 b5a 6 h fun Y0 h=>fe K9.h h) (fun h=>fe K9.h h)
noncomputable def b51:List Item:=K9.k 2 []
noncomputable def b9d (s_:q7) (v8:Int):St:=⟨(bs 1 (.ptr 1 0 0::(bs 4 (j9 4 C4 s_.g8::(vi (s_.g8.length:Int)::(vi v8::(bs 57 []))))))),[some [],some [.var 91 [vi s_.At,j9 2 v5 s_.d8,j9 4 C4 s_.g8]]]⟩
noncomputable def d5p:List Item:=K9.k 5 [true,false]
noncomputable def d2L (s_:q7) (v8:Int):St:=⟨(bs 1 (.ptr 1 0 0::(bs 4 (j9 4 C4 s_.g8::(vi (s_.g8.length:Int)::(vi v8::(bs 57 []))))))),[some [],some [.var 91 [vi s_.At,j9 2 v5 s_.d8,j9 4 C4 s_.g8]]]⟩
noncomputable def c2j (v8:Int):Option (j3 Bool Int Unit) :=
 some (j3.nxt (m9 (v8+1)))
theorem f0O (s_:q7) (v8:Int) (res:V) (outs:s8) (x1:j8 Bool Unit) (hb1:HB cx K9.X res outs x1 c64 (fun s=>c7i s_)) (hr1:HR res outs x1 K9.R K9.O) (st1:j3 Bool Int Unit) (hc1:s5 x1 (fun s:Int=>j5 cx K9.X res outs b51 (b9d s_ s)) st1) (h:c2j v8=some st1):j5 cx K9.X res outs d5p (d2L s_ v8) :=
 P0<|rg<|(w9 h hc1 fun hI=>sg [] [1,6,7,8] [(1,0)] hI)
noncomputable def b3g (s_:q7) (v8:Int):Option (j3 Bool Int Unit) :=
 (bif decide (v8<(s_.g8.length:Int)) then ((idx s_.g8 v8).bind fun done=>(((bif decide (v8>0) then ((idx s_.g8 (m9 (v8 - 1))).bind fun a4A=>(bif decide (a4A.a5.c8≥done.a5.c8) then some (j8.ret (j3.ret false)) else ((a7q done.a5).bind fun a7E=>(bif (!a7E) then some (j8.ret (j3.ret false)) else ((K8 done.Code 0 2).bind fun N2=>(bif (!N2) then some (j8.ret (j3.ret false)) else ((K8 done.d6 (-1000000) 1000000).bind fun Q1=>(bif (!Q1) then some (j8.ret (j3.ret false)) else (bif (done.Code != 0) then (bif (done.d6 != 0) then some (j8.ret (j3.ret false)) else some (j8.brk ())) else some (j8.brk ())))))))))) else ((a7q done.a5).bind fun b4E=>(bif (!b4E) then some (j8.ret (j3.ret false)) else ((K8 done.Code 0 2).bind fun a3Z=>(bif (!a3Z) then some (j8.ret (j3.ret false)) else ((K8 done.d6 (-1000000) 1000000).bind fun b48=>(bif (!b48) then some (j8.ret (j3.ret false)) else (bif (done.Code != 0) then (bif (done.d6 != 0) then some (j8.ret (j3.ret false)) else some (j8.brk ())) else some (j8.brk ()))))))))):Option (j8 (j3 Bool Int Unit) Unit)).bind fun x=>x.go some fun j=>c2j v8)) else some (j3.brk ()))
set_option maxRecDepth 20000 in
theorem e78 (s_:q7) (res:V) (outs:s8) (x1:j8 Bool Unit) (hb1:HB cx K9.X res outs x1 c64 (fun s=>c7i s_)) (hr1:HR res outs x1 K9.R K9.O) (st1:j3 Bool Int Unit) (hc1:s5 x1 (fun s:Int=>j5 cx K9.X res outs b51 (b9d s_ s)) st1) (v8:Int) (h:b3g s_ v8=some st1):j5 cx K9.X res outs b51 (b9d s_ v8) :=
 P0<|rg<|i9 0 h (fun h=>rg<|u0 C4 1 h fun done b9c h=>E1 (I:=fun j:Unit=>j5 cx K9.X res outs d5p (d2L s_ v8)) h (fun j h=>f0O s_ v8 res outs x1 hb1 hr1 st1 hc1 h) (fun x2 h hc2=>rg<|i9 2 h (fun h=>u0 C4 7 h fun a4A e73 h=>i9 16 h (fun h=>rg<|(D6 h hc2 fun h=>(z4 h hc1 fun e=>z3 K9.h (hr1 _ e)))) (fun h=>m3 a5v b3W 19 h fun a7E h=>i9 22 h (fun h=>rg<|(D6 h hc2 fun h=>(z4 h hc1 fun e=>z3 K9.h (hr1 _ e)))) (fun h=>m3 K5 M7 25 h fun N2 h=>i9 28 h (fun h=>rg<|(D6 h hc2 fun h=>(z4 h hc1 fun e=>z3 K9.h (hr1 _ e)))) (fun h=>m3 K5 M7 31 h fun Q1 h=>i9 34 h (fun h=>rg<|(D6 h hc2 fun h=>(z4 h hc1 fun e=>z3 K9.h (hr1 _ e)))) (fun h=>i9 38 h (fun h=>i9 43 h (fun h=>rg<|(D6 h hc2 fun h=>(z4 h hc1 fun e=>z3 K9.h (hr1 _ e)))) (fun h=>(s6 h hc2 fun hI=>sg [] [1,6,7,8] [(1,0)] hI))) (fun h=>(s6 h hc2 fun hI=>sg [] [1,6,7,8] [(1,0)] hI))))))) (fun h=>m3 a5v b3W 19 h fun b4E h=>i9 22 h (fun h=>rg<|(D6 h hc2 fun h=>(z4 h hc1 fun e=>z3 K9.h (hr1 _ e)))) (fun h=>m3 K5 M7 25 h fun a3Z h=>i9 28 h (fun h=>rg<|(D6 h hc2 fun h=>(z4 h hc1 fun e=>z3 K9.h (hr1 _ e)))) (fun h=>m3 K5 M7 31 h fun b48 h=>i9 34 h (fun h=>rg<|(D6 h hc2 fun h=>(z4 h hc1 fun e=>z3 K9.h (hr1 _ e)))) (fun h=>i9 38 h (fun h=>i9 43 h (fun h=>rg<|(D6 h hc2 fun h=>(z4 h hc1 fun e=>z3 K9.h (hr1 _ e)))) (fun h=>(s6 h hc2 fun hI=>sg [] [1,6,7,8] [(1,0)] hI))) (fun h=>(s6 h hc2 fun hI=>sg [] [1,6,7,8] [(1,0)] hI)))))))) (fun h=>(v6 h hc1 fun e=>sg [] [1] [(1,0)] (hb1 _ e)))
noncomputable def b7E (s_:q7):Option Bool :=
 ((o9 (fun s:Int=>b3g s_ s) 0).bind fun x=>x.go (fun r=>some r) fun s=>c3a s_)
theorem e4G {s_:q7} (r:Bool) (h:b7E s_=some r):o7 cx.P 135 [.agg (b2Y s_)] (K9.R r) (K9.O r) :=
 q8 K9.X K9.c K9.h (fun z=>p7<|x7 h fun x hl hr hb=>sg [] [1,6,7,8] [(1,0)] (x9 (I:=fun s:Int=>j5 cx K9.X (K9.R r) (K9.O r) b51 (b9d s_ s)) hl fun s st h hc=>e78 s_ _ _ x (fun s e=>e4s s_ r (hb s e)) (fun v e=>⟨congrArg K9.R (Option.some.inj (hr v e)).symm,congrArg K9.O (Option.some.inj (hr v e)).symm⟩) st hc s h))
noncomputable def a7z:FS (List m4):=⟨96,Tryz.f96,[.val [some 2] [some 132]],[none],[.val [some 2] []],fun r=>p6 132 2 v5 r,fun _=>[none],Tryz.func96⟩
noncomputable def a9z (i8:List m4):Option (List m4) :=
 (bif ((i8.length:Int)==0) then some [] else (u5 (0≤(i8.length:Int)∧(i8.length:Int) * 16≤140737488355328) ((u5 (i8.length=(List.replicate (i8.length:Int).toNat (m4.mk 0 0)).length) (some i8)))))
theorem c4b {i8:List m4} (r:List m4) (h:a9z i8=some r):o7 cx.P 96 [j9 2 v5 i8] (a7z.R r) (a7z.O r) :=
 q8 a7z.X a7z.c a7z.h (fun z=>p7<|i9 2 h (fun h=>rg<|fe z h) (fun h=>rg<|w8 h fun e1 h=>mkS 2 7 132 2 16 v5 (m4.mk 0 0) b5h (.none) e1 (by decide) (by rfl)<|rg<|w8 h fun e2 h=>om (s4.row 132 2 (List.replicate (i8.length:Int).toNat (m4.mk 0 0)).length (i8.map v5)=m5 132 2 v5 i8) (a7c e2)<|o6 (List.replicate (i8.length:Int).toNat (m4.mk 0 0))<|ob e2<|tl (2,{ e:=some (m5 132 2 v5 i8) })<|rg<|om ((List.replicate (i8.length:Int).toNat (m4.mk 0 0)).length=i8.length) (by simp)<|fe z h))
noncomputable def a4F:FS (List n6):=⟨136,Tryz.f136,[.val [some 4] [some 159]],[none],[.val [some 4] []],fun r=>p6 159 4 C4 r,fun _=>[none],Tryz.func136⟩
noncomputable def a6Z (i8:List n6):Option (List n6) :=
 (bif ((i8.length:Int)==0) then some [] else (u5 (0≤(i8.length:Int)∧(i8.length:Int) * 32≤140737488355328) ((u5 (i8.length=(List.replicate (i8.length:Int).toNat (n6.mk (n5.mk 0 0) 0 0)).length) (some i8)))))
theorem c2A {i8:List n6} (r:List n6) (h:a6Z i8=some r):o7 cx.P 136 [j9 4 C4 i8] (a4F.R r) (a4F.O r) :=
 q8 a4F.X a4F.c a4F.h (fun z=>p7<|i9 2 h (fun h=>rg<|fe z h) (fun h=>rg<|w8 h fun e1 h=>mkS 2 7 159 4 32 C4 (n6.mk (n5.mk 0 0) 0 0) c4s (.none) e1 (by decide) (by rfl)<|rg<|w8 h fun e2 h=>om (s4.row 159 4 (List.replicate (i8.length:Int).toNat (n6.mk (n5.mk 0 0) 0 0)).length (i8.map C4)=m5 159 4 C4 i8) (a7c e2)<|o6 (List.replicate (i8.length:Int).toNat (n6.mk (n5.mk 0 0) 0 0))<|ob e2<|tl (2,{ e:=some (m5 159 4 C4 i8) })<|rg<|om ((List.replicate (i8.length:Int).toNat (n6.mk (n5.mk 0 0) 0 0)).length=i8.length) (by simp)<|fe z h))
noncomputable def Y9:FS (Bool):=⟨137,Tryz.f137,[.val [] []],[none,none],[.val [some 2] [],.val Y4 []],fun r=>.b r,fun _=>[none,none],Tryz.func137⟩
noncomputable def d1b:List Item:=Y9.k 4 [false,false]
noncomputable def d6y:St:=⟨(bs 32 []),[some []]⟩
noncomputable def d2Y:Option Bool :=
 some true
theorem e5Y (r:Bool) (h:d2Y=some r):j5 cx Y9.X (Y9.R r) (Y9.O r) d1b (d6y) :=
 P0<|rg<|fe Y9.h h
noncomputable def c2v:List Item:=Y9.k 3 [false]
noncomputable def c8I (i8:List m4) (r_:m8) (v18:Int):St:=⟨(j9 2 v5 i8::(bs 15 (j9 2 u6 r_.a8::(vi (r_.a8.length:Int)::(vi v18::(bs 13 [])))))),[some []]⟩
noncomputable def b8l (i8:List m4) (r_:m8) (v18:Int):Option (j3 Bool Int Unit) :=
 (bif decide (v18<(r_.a8.length:Int)) then ((idx r_.a8 v18).bind fun G5=>((idx i8 G5.f0).bind fun box=>(bif (box.i7 != G5.i7) then some (j3.ret false) else some (j3.nxt (m9 (v18+1)))))) else some (j3.brk ()))
theorem e3q (i8:List m4) (r_:m8) (res:V) (outs:s8) (x1:j8 Bool Unit) (hb1:HB cx Y9.X res outs x1 d1b (fun s=>d6y)) (hr1:HR res outs x1 Y9.R Y9.O) (st1:j3 Bool Int Unit) (hc1:s5 x1 (fun s:Int=>j5 cx Y9.X res outs c2v (c8I i8 r_ s)) st1) (v18:Int) (h:b8l i8 r_ v18=some st1):j5 cx Y9.X res outs c2v (c8I i8 r_ v18) :=
 P0<|rg<|i9 0 h (fun h=>rg<|u0 u6 0 h fun G5 a5p h=>rg<|u0 v5 3 h fun box a3M h=>i9 8 h (fun h=>rg<|(z4 h hc1 fun e=>z3 Y9.h (hr1 _ e))) (fun h=>rg<|(w9 h hc1 fun hI=>sg [] [0,16,17,18] [] hI))) (fun h=>(v6 h hc1 fun e=>sg [] [] [] (hb1 _ e)))
noncomputable def b6l (i8:List m4) (r_:m8):Option Bool :=
 ((a70 i8).bind fun Y0=>(bif (!Y0) then some false else ((b0i r_).bind fun a2v=>(bif (!a2v) then some false else ((o9 (fun s:Int=>b8l i8 r_ s) 0).bind fun x=>x.go (fun r=>some r) fun s=>d2Y)))))
theorem e8l {i8:List m4} {r_:m8} (r:Bool) (h:b6l i8 r_=some r):o7 cx.P 137 [j9 2 v5 i8,.agg (Z2 r_)] (Y9.R r) (Y9.O r) :=
 q8 Y9.X Y9.c Y9.h (fun z=>p7<|m3 T3 b5a 1 h fun Y0 h=>i9 3 h (fun h=>rg<|fe z h) (fun h=>m3 G2 c5Z 5 h fun a2v h=>i9 7 h (fun h=>rg<|fe z h) (fun h=>rg<|x7 h fun x hl hr hb=>sg [] [0,16,17,18] [] (x9 (I:=fun s:Int=>j5 cx Y9.X (Y9.R r) (Y9.O r) c2v (c8I i8 r_ s)) hl fun s st h hc=>e3q i8 r_ _ _ x (fun s e=>e5Y r (hb s e)) (fun v e=>⟨congrArg Y9.R (Option.some.inj (hr v e)).symm,congrArg Y9.O (Option.some.inj (hr v e)).symm⟩) st hc s h))))
noncomputable def X8:FS (List m4):=⟨134,Tryz.f134,[.val [some 2] [some 132]],[none,none],[.val [some 2] [],.val Y4 []],fun r=>p6 132 2 v5 r,fun _=>[none,none],Tryz.func134⟩
noncomputable def d37:List Item:=X8.k 5 [false,false]
noncomputable def d7c (out1:List m4):St:=⟨(bs 5 (.own 1 0 2 0 out1.length::(bs 36 []))),[some [],some [m5 132 2 v5 out1]]⟩
noncomputable def d1g (out1:List m4):Option (List m4) :=
 some out1
theorem e0s (r:List m4) (out1:List m4) (h:d1g out1=some r):j5 cx X8.X (X8.R r) (X8.O r) d37 (d7c out1) :=
 P0<|rg<|o6 out1<|fe X8.h h
noncomputable def c7O:List Item:=X8.k 4 [false]
noncomputable def c56 (r_:m8) (out:List m4) (v21:Int):St:=⟨(bs 5 (.own 1 0 2 0 out.length::(bs 13 (j9 2 u9 r_.a9::(vi (r_.a9.length:Int)::(vi v21::(bs 20 []))))))),[some [],some [m5 132 2 v5 out]]⟩
noncomputable def b6r (r_:m8) (out:List m4) (v21:Int):Option (j3 (List m4) ((List m4)×Int) (List m4)) :=
 (bif decide (v21<(r_.a9.length:Int)) then ((idx r_.a9 v21).bind fun put=>((idx out put.f0).bind fun V7=>some (j3.nxt (out.set put.f0.toNat (m4.mk (if (m9 (V7.i7+1))<1000000 then (m9 (V7.i7+1)) else 1000000) put.d6),m9 (v21+1))))) else some (j3.brk out))
theorem f0y (r_:m8) (res:V) (outs:s8) (x1:j8 (List m4) (List m4)) (hb1:HB cx X8.X res outs x1 d37 d7c) (hr1:HR res outs x1 X8.R X8.O) (st1:j3 (List m4) ((List m4)×Int) (List m4)) (hc1:s5 x1 (fun s:(List m4)×Int=>j5 cx X8.X res outs c7O (c56 r_ s.1 s.2)) st1) (out:List m4) (v21:Int) (h:b6r r_ out v21=some st1):j5 cx X8.X res outs c7O (c56 r_ out v21) :=
 P0<|rg<|i9 0 h (fun h=>rg<|u0 u9 0 h fun put hput h=>rg<|C6 h fun V7 a7G h=>E2 a7G<|V3 v5 8 a7G<|E2 a7G<|stR 132 2 v5 15 [] (m4.mk (if (m9 (V7.i7+1))<1000000 then (m9 (V7.i7+1)) else 1000000) put.d6) a7G<|rg<|(w9 h hc1 fun hI=>om ((.own 1 0 2 0 out.length:V) = .own 1 0 2 0 (out.set put.f0.toNat (m4.mk (if (m9 (V7.i7+1))<1000000 then (m9 (V7.i7+1)) else 1000000) put.d6)).length) (by simp)<|sg [.is (.tmp 5) (.own 1 0 2 0 (out.set put.f0.toNat (m4.mk (if (m9 (V7.i7+1))<1000000 then (m9 (V7.i7+1)) else 1000000) put.d6)).length)] [5,19,20,21] [(1,0)] hI)) (fun h=>(v6 h hc1 fun e=>sg [] [5] [(1,0)] (hb1 _ e)))
noncomputable def b4h (i8:List m4) (r_:m8):Option (List m4) :=
 ((a70 i8).bind fun Y0=>(bif (!Y0) then some [] else ((b0i r_).bind fun a2v=>(bif (!a2v) then some [] else ((a9z i8).bind fun box=>((o9 (fun s:(List m4)×Int=>b6r r_ s.1 s.2) (box,0)).bind fun x=>x.go (fun r=>some r) fun s=>d1g s))))))
theorem d8r {i8:List m4} {r_:m8} (r:List m4) (h:b4h i8 r_=some r):o7 cx.P 134 [j9 2 v5 i8,.agg (Z2 r_)] (X8.R r) (X8.O r) :=
 q8 X8.X X8.c X8.h (fun z=>p7<|m3 T3 b5a 1 h fun Y0 h=>i9 3 h (fun h=>rg<|fe z h) (fun h=>m3 G2 c5Z 5 h fun a2v h=>i9 7 h (fun h=>rg<|fe z h) (fun h=>rg<|m3 a7z c4b 1 h fun box h=>rg<|x7 h fun x hl hr hb=>sg [] [5,19,20,21] [(12,0)] (x9 (I:=fun s:(List m4)×Int=>j5 cx X8.X (X8.R r) (X8.O r) c7O (c56 r_ s.1 s.2)) hl fun s st h hc=>f0y r_ _ _ x (fun s e=>e0s r s (hb s e)) (fun v e=>⟨congrArg X8.R (Option.some.inj (hr v e)).symm,congrArg X8.O (Option.some.inj (hr v e)).symm⟩) st hc s.1 s.2 h))))
noncomputable def C5:FS (q7×Int):=⟨101,Tryz.f101,[.val [none,some 2,some 4] [none,some 132,some 159],.val [] []],[none,none],[.val [none,some 2,some 4] [],.val O2 []],fun r=>.tup [.agg [vi r.1.At,p6 132 2 v5 r.1.d8,p6 159 4 C4 r.1.g8],vi r.2],fun _=>[none,none],Tryz.func101⟩
noncomputable def c8N:List Item:=C5.k 6 [false,false,false]
noncomputable def c8l (s_:q7) (e_:l8) (box:List m4):St:=⟨(bs 2 (.ptr 1 0 0::(.ptr 2 0 0::(.ptr 3 0 0::(bs 1 (.ptr 4 0 0::(bs 145 []))))))),[some [],some [.var 91 [vi s_.At,j9 2 v5 s_.d8,j9 4 C4 s_.g8]],some [.var 47 (a3L e_)],some [.var 91 [vi 0,.nil,.nil]],some [.var 91 [vi (m9 (s_.At+1)),.own 5 0 2 0 box.length,.nil]],some [m5 132 2 v5 box]]⟩
noncomputable def d70:List Item:=C5.k 9 [false,false,false,true]
noncomputable def d4U (s_:q7) (own:n6) (d8:List m4):St:=⟨(bs 2 (.ptr 1 0 0::(bs 1 (.ptr 2 0 0::(bs 1 (.ptr 3 0 0::(bs 2 (.ptr 5 0 0::(bs 142 []))))))))),[some [],some [.var 91 [vi s_.At,j9 2 v5 s_.d8,j9 4 C4 s_.g8]],some [.var 91 [vi 0,.nil,.nil]],some [.var 91 [vi (m9 (s_.At+1)),.own 4 0 2 0 d8.length,.nil]],some [m5 132 2 v5 d8],some [.var 159 [vi own.a5.c8,vi own.a5.Seq,vi own.Code,vi own.d6]]]⟩
noncomputable def c0b:List Item:=C5.k 13 [false,false,false,true,false]
noncomputable def b6h (s_:q7) (own:n6) (d8:List m4) (a4O:List n6) (D9:Bool):St:=⟨(bs 4 (.ptr 1 0 0::(bs 1 (.ptr 2 0 0::(bs 2 (.ptr 4 0 0::(.own 5 0 4 0 a4O.length::(.b D9::(bs 140 []))))))))),[some [],some [.var 91 [vi 0,.nil,.nil]],some [.var 91 [vi (m9 (s_.At+1)),.own 3 0 2 0 d8.length,.nil]],some [m5 132 2 v5 d8],some [.var 159 [vi own.a5.c8,vi own.a5.Seq,vi own.Code,vi own.d6]],some [m5 159 4 C4 a4O]]⟩
noncomputable def d8S:List Item:=C5.k 15 [false,false,false,true,false,true]
noncomputable def d8X (s_:q7) (own:n6) (d8:List m4) (a7V:List n6):St:=⟨(bs 4 (.ptr 1 0 0::(bs 1 (.ptr 2 0 0::(bs 2 (.ptr 4 0 0::(.own 5 0 4 0 a7V.length::(bs 141 [])))))))),[some [],some [.var 91 [vi 0,.nil,.nil]],some [.var 91 [vi (m9 (s_.At+1)),.own 3 0 2 0 d8.length,.nil]],some [m5 132 2 v5 d8],some [.var 159 [vi own.a5.c8,vi own.a5.Seq,vi own.Code,vi own.d6]],some [m5 159 4 C4 a7V]]⟩
noncomputable def c2w (s_:q7) (own:n6) (d8:List m4) (a7V:List n6):Option (q7×Int) :=
 ((a6Z a7V).bind fun a4A=>some ((q7.mk (m9 (s_.At+1)) d8 a4A),own.Code))
theorem e79 (s_:q7) (own:n6) (d8:List m4) (r:q7×Int) (a7V:List n6) (h:c2w s_ own d8 a7V=some r):j5 cx C5.X (C5.R r) (C5.O r) d8S (d8X s_ own d8 a7V) :=
 P0<|rg<|Q6 a4F c2A 1 h fun a4A h=>om (C7 (a4F.R a4A)∧F7 (a4F.O a4A)) ⟨(by simp [a4F,C7,a0k,U9,V.simple,vi,p6,C4,eI,H7]),G4 1⟩<|o6 a7V<|rg<|J3 d8 a4A<|fe C5.h h
noncomputable def c1Z (s_:q7) (own:n6) (d8:List m4) (a4O:List n6) (D9:Bool):Option (q7×Int) :=
 (((bif (!D9) then (u5 ((a4O.length+1) * 32≤140737488355328) (some (j8.brk (a4O++[own])))) else some (j8.brk a4O)):Option (j8 (q7×Int) (List n6))).bind fun x=>x.go some fun j=>c2w s_ own d8 j)
theorem e0Z (s_:q7) (own:n6) (d8:List m4) (r:q7×Int) (a4O:List n6) (D9:Bool) (h:c1Z s_ own d8 a4O D9=some r):j5 cx C5.X (C5.R r) (C5.O r) c0b (b6h s_ own d8 a4O D9) :=
 P0<|E1 (I:=fun j:List n6=>j5 cx C5.X (C5.R r) (C5.O r) d8S (d8X s_ own d8 j)) h (fun j h=>e79 s_ own d8 r j h) (fun x1 h hc1=>rg<|i9 1 h (fun h=>rg<|tl (2,{ a:=.ck [] })<|w8 h fun e1 h=>M9 3 11 159 4 32 C4 a4O own e1<|om (1=[own].length) (by rfl)<|(s6 h hc1 fun hI=>sg [] [4,6,9,10] [(1,0),(2,0),(3,0),(4,0),(11,0)] hI)) (fun h=>(s6 h hc1 fun hI=>sg [] [4,6,9,10] [(1,0),(2,0),(3,0),(4,0),(5,0)] hI)))
noncomputable def b3n:List Item:=C5.k 12 [false,false,false,true]
noncomputable def b4T (s_:q7) (own:n6) (d8:List m4) (dones:List n6) (U2:Int) (put:Bool):St:=⟨(bs 4 (.ptr 1 0 0::(bs 1 (.ptr 2 0 0::(bs 2 (.ptr 4 0 0::(.own 5 0 4 0 dones.length::(.b put::(bs 95 (j9 4 C4 s_.g8::(vi (s_.g8.length:Int)::(vi U2::(bs 42 []))))))))))))),[some [],some [.var 91 [vi 0,.nil,.nil]],some [.var 91 [vi (m9 (s_.At+1)),.own 3 0 2 0 d8.length,.nil]],some [m5 132 2 v5 d8],some [.var 159 [vi own.a5.c8,vi own.a5.Seq,vi own.Code,vi own.d6]],some [m5 159 4 C4 dones]]⟩
noncomputable def d1O:List Item:=C5.k 17 [false,false,false,true,true,true]
noncomputable def d1S (s_:q7) (own:n6) (d8:List m4) (U2:Int) (a1i:n6) (a5h:List n6) (a0K:Bool):St:=⟨(bs 4 (.ptr 1 0 0::(bs 1 (.ptr 2 0 0::(bs 2 (.ptr 4 0 0::(.own 5 0 4 0 a5h.length::(.b a0K::(bs 1 (.ptr 6 0 0::(bs 93 (j9 4 C4 s_.g8::(vi (s_.g8.length:Int)::(vi U2::(bs 42 []))))))))))))))),[some [],some [.var 91 [vi 0,.nil,.nil]],some [.var 91 [vi (m9 (s_.At+1)),.own 3 0 2 0 d8.length,.nil]],some [m5 132 2 v5 d8],some [.var 159 [vi own.a5.c8,vi own.a5.Seq,vi own.Code,vi own.d6]],some [m5 159 4 C4 a5h],some [.var 159 [vi a1i.a5.c8,vi a1i.a5.Seq,vi a1i.Code,vi a1i.d6]]]⟩
noncomputable def c9G:List Item:=C5.k 19 [false,false,false,true,true,true,true]
noncomputable def d18 (s_:q7) (own:n6) (d8:List m4) (U2:Int) (a0K:Bool) (a86:List n6):St:=⟨(bs 4 (.ptr 1 0 0::(bs 1 (.ptr 2 0 0::(bs 2 (.ptr 4 0 0::(.own 5 0 4 0 a86.length::(.b a0K::(bs 95 (j9 4 C4 s_.g8::(vi (s_.g8.length:Int)::(vi U2::(bs 42 []))))))))))))),[some [],some [.var 91 [vi 0,.nil,.nil]],some [.var 91 [vi (m9 (s_.At+1)),.own 3 0 2 0 d8.length,.nil]],some [m5 132 2 v5 d8],some [.var 159 [vi own.a5.c8,vi own.a5.Seq,vi own.Code,vi own.d6]],some [m5 159 4 C4 a86]]⟩
noncomputable def c5E (U2:Int) (a0K:Bool) (a86:List n6):Option (j3 (q7×Int) ((List n6)×Int×Bool) ((List n6)×Bool)) :=
 some (j3.nxt (a86,m9 (U2+1),a0K))
theorem e2c (s_:q7) (own:n6) (d8:List m4) (U2:Int) (a0K:Bool) (res:V) (outs:s8) (x1:j8 (q7×Int) ((List n6)×Bool)) (hb1:HB cx C5.X res outs x1 c0b (fun s=>b6h s_ own d8 s.1 s.2)) (hr1:HR res outs x1 C5.R C5.O) (st1:j3 (q7×Int) ((List n6)×Int×Bool) ((List n6)×Bool)) (hc1:s5 x1 (fun s:(List n6)×Int×Bool=>j5 cx C5.X res outs b3n (b4T s_ own d8 s.1 s.2.1 s.2.2)) st1) (a86:List n6) (h:c5E U2 a0K a86=some st1):j5 cx C5.X res outs c9G (d18 s_ own d8 U2 a0K a86) :=
 P0<|rg<|(w9 h hc1 fun hI=>sg [] [4,6,9,10,11,107,108,109] [(1,0),(2,0),(3,0),(4,0),(5,0)] hI)
noncomputable def c3n (own:n6) (U2:Int) (a1i:n6) (a5h:List n6) (a0K:Bool):Option (j3 (q7×Int) ((List n6)×Int×Bool) ((List n6)×Bool)) :=
 (((bif (a1i.a5.c8 != own.a5.c8) then (u5 ((a5h.length+1) * 32≤140737488355328) (some (j8.brk (a5h++[a1i])))) else some (j8.brk a5h)):Option (j8 (j3 (q7×Int) ((List n6)×Int×Bool) ((List n6)×Bool)) (List n6))).bind fun x=>x.go some fun j=>c5E U2 a0K j)
theorem e2s (s_:q7) (own:n6) (d8:List m4) (U2:Int) (a1i:n6) (res:V) (outs:s8) (x1:j8 (q7×Int) ((List n6)×Bool)) (hb1:HB cx C5.X res outs x1 c0b (fun s=>b6h s_ own d8 s.1 s.2)) (hr1:HR res outs x1 C5.R C5.O) (st1:j3 (q7×Int) ((List n6)×Int×Bool) ((List n6)×Bool)) (hc1:s5 x1 (fun s:(List n6)×Int×Bool=>j5 cx C5.X res outs b3n (b4T s_ own d8 s.1 s.2.1 s.2.2)) st1) (a5h:List n6) (a0K:Bool) (h:c3n own U2 a1i a5h a0K=some st1):j5 cx C5.X res outs d1O (d1S s_ own d8 U2 a1i a5h a0K) :=
 P0<|E1 (I:=fun j:List n6=>j5 cx C5.X res outs c9G (d18 s_ own d8 U2 a0K j)) h (fun j h=>e2c s_ own d8 U2 a0K res outs x1 hb1 hr1 st1 hc1 j h) (fun x2 h hc2=>rg<|i9 6 h (fun h=>rg<|tl (2,{ a:=.ck [] })<|w8 h fun e2 h=>M9 3 17 159 4 32 C4 a5h a1i e2<|om (1=[a1i].length) (by rfl)<|(s6 h hc2 fun hI=>sg [] [4,6,9,10,11,107,108,109] [(1,0),(2,0),(3,0),(4,0),(17,0)] hI)) (fun h=>(s6 h hc2 fun hI=>sg [] [4,6,9,10,11,107,108,109] [(1,0),(2,0),(3,0),(4,0),(5,0)] hI)))
noncomputable def b2D (s_:q7) (own:n6) (dones:List n6) (U2:Int) (put:Bool):Option (j3 (q7×Int) ((List n6)×Int×Bool) ((List n6)×Bool)) :=
 (bif decide (U2<(s_.g8.length:Int)) then ((idx s_.g8 U2).bind fun a1i=>(((bif (!put) then (bif decide (a1i.a5.c8≥own.a5.c8) then (u5 ((dones.length+1) * 32≤140737488355328) (some (j8.brk (dones++[own],true)))) else some (j8.brk (dones,put))) else some (j8.brk (dones,put))):Option (j8 (j3 (q7×Int) ((List n6)×Int×Bool) ((List n6)×Bool)) ((List n6)×Bool))).bind fun x=>x.go some fun j=>c3n own U2 a1i j.1 j.2)) else some (j3.brk (dones,put)))
theorem f0o (s_:q7) (own:n6) (d8:List m4) (res:V) (outs:s8) (x1:j8 (q7×Int) ((List n6)×Bool)) (hb1:HB cx C5.X res outs x1 c0b (fun s=>b6h s_ own d8 s.1 s.2)) (hr1:HR res outs x1 C5.R C5.O) (st1:j3 (q7×Int) ((List n6)×Int×Bool) ((List n6)×Bool)) (hc1:s5 x1 (fun s:(List n6)×Int×Bool=>j5 cx C5.X res outs b3n (b4T s_ own d8 s.1 s.2.1 s.2.2)) st1) (dones:List n6) (U2:Int) (put:Bool) (h:b2D s_ own dones U2 put=some st1):j5 cx C5.X res outs b3n (b4T s_ own d8 dones U2 put) :=
 P0<|rg<|i9 0 h (fun h=>rg<|u0 C4 0 h fun a1i f4U h=>E1 (I:=fun j:(List n6)×Bool=>j5 cx C5.X res outs d1O (d1S s_ own d8 U2 a1i j.1 j.2)) h (fun j h=>e2s s_ own d8 U2 a1i res outs x1 hb1 hr1 st1 hc1 j.1 j.2 h) (fun x2 h hc2=>rg<|i9 2 h (fun h=>i9 10 h (fun h=>rg<|tl (2,{ a:=.ck [] })<|w8 h fun e3 h=>M9 3 25 159 4 32 C4 dones own e3<|om (1=[own].length) (by rfl)<|rg<|(s6 h hc2 fun hI=>sg [] [4,6,9,10,11,13,107,108,109] [(1,0),(2,0),(3,0),(4,0),(25,0),(9,0)] hI)) (fun h=>(s6 h hc2 fun hI=>sg [] [4,6,9,10,11,13,107,108,109] [(1,0),(2,0),(3,0),(4,0),(5,0),(9,0)] hI))) (fun h=>(s6 h hc2 fun hI=>sg [] [4,6,9,10,11,13,107,108,109] [(1,0),(2,0),(3,0),(4,0),(5,0),(9,0)] hI)))) (fun h=>(v6 h hc1 fun e=>sg [] [4,6,9,10,11] [(1,0),(2,0),(3,0),(4,0),(5,0)] (hb1 _ e)))
noncomputable def c0p (s_:q7) (own:n6) (d8:List m4):Option (q7×Int) :=
 ((o9 (fun s:(List n6)×Int×Bool=>b2D s_ own s.1 s.2.1 s.2.2) ([],0,false)).bind fun x=>x.go (fun r=>some r) fun s=>c1Z s_ own d8 s.1 s.2)
theorem e4M (s_:q7) (r:q7×Int) (own:n6) (d8:List m4) (h:c0p s_ own d8=some r):j5 cx C5.X (C5.R r) (C5.O r) d70 (d4U s_ own d8) :=
 P0<|rg3<|x7 h fun x hl hr hb=>sg [.own (.tmp 10) 159 4] [4,6,9,10,11,107,108,109] [(2,0),(3,0),(4,0),(5,0),(12,0)] (x9 (I:=fun s:(List n6)×Int×Bool=>j5 cx C5.X (C5.R r) (C5.O r) b3n (b4T s_ own d8 s.1 s.2.1 s.2.2)) hl fun s st h hc=>f0o s_ own d8 _ _ x (fun s e=>e0Z s_ own d8 r s.1 s.2 (hb s e)) (fun v e=>⟨congrArg C5.R (Option.some.inj (hr v e)).symm,congrArg C5.O (Option.some.inj (hr v e)).symm⟩) st hc s.1 s.2.1 s.2.2 h)
noncomputable def b8k (s_:q7) (e_:l8) (box:List m4):Option (q7×Int) :=
 ((((b6l s_.d8 e_.b6).bind fun a49=>(bif (!a49) then some (j8.brk ((n6.mk e_.a5 1 0),box)) else (bif (e_.b6.Code != 0) then some (j8.brk ((n6.mk e_.a5 2 0),box)) else ((b4h s_.d8 e_.b6).bind fun b1W=>some (j8.brk ((n6.mk e_.a5 0 e_.b6.d6),b1W)))))):Option (j8 (q7×Int) (n6×List m4))).bind fun x=>x.go some fun j=>c0p s_ j.1 j.2)
theorem f2l (s_:q7) (e_:l8) (box:List m4) (r:q7×Int) (h:b8k s_ e_ box=some r):j5 cx C5.X (C5.R r) (C5.O r) c8N (c8l s_ e_ box) :=
 P0<|rg<|E1 (I:=fun j:n6×List m4=>j5 cx C5.X (C5.R r) (C5.O r) d70 (d4U s_ j.1 j.2)) h (fun j h=>e4M s_ r j.1 j.2 h) (fun x1 h hc1=>rg<|m3 Y9 e8l 4 h fun a49 h=>i9 6 h (fun h=>rg<|(s6 h hc1 fun hI=>sg [] [2,4,6,9] [(1,0),(3,0),(4,0),(5,0),(9,0)] hI)) (fun h=>rg<|i9 4 h (fun h=>rg<|(s6 h hc1 fun hI=>sg [] [2,4,6,9] [(1,0),(3,0),(4,0),(5,0),(9,0)] hI)) (fun h=>p7<|m3 X8 d8r 4 h fun b1W h=>(s6 h hc1 fun hI=>sg [] [2,4,6,9] [(1,0),(3,0),(4,0),(32,0),(9,0)] hI))))
noncomputable def b9E:List Item:=C5.k 5 [false,false]
noncomputable def b7o (s_:q7) (e_:l8) (box:List m4) (v45:Int):St:=⟨(bs 2 (.ptr 1 0 0::(.ptr 2 0 0::(.ptr 3 0 0::(bs 1 (.ptr 4 0 0::(bs 36 (j9 4 C4 s_.g8::(vi (s_.g8.length:Int)::(vi v45::(bs 106 []))))))))))),[some [],some [.var 91 [vi s_.At,j9 2 v5 s_.d8,j9 4 C4 s_.g8]],some [.var 47 (a3L e_)],some [.var 91 [vi 0,.nil,.nil]],some [.var 91 [vi (m9 (s_.At+1)),.own 5 0 2 0 box.length,.nil]],some [m5 132 2 v5 box]]⟩
noncomputable def d3D:List Item:=C5.k 8 [false,false,true,false]
noncomputable def d0S (s_:q7) (e_:l8) (box:List m4) (v45:Int):St:=⟨(bs 2 (.ptr 1 0 0::(.ptr 2 0 0::(.ptr 3 0 0::(bs 1 (.ptr 4 0 0::(bs 36 (j9 4 C4 s_.g8::(vi (s_.g8.length:Int)::(vi v45::(bs 106 []))))))))))),[some [],some [.var 91 [vi s_.At,j9 2 v5 s_.d8,j9 4 C4 s_.g8]],some [.var 47 (a3L e_)],some [.var 91 [vi 0,.nil,.nil]],some [.var 91 [vi (m9 (s_.At+1)),.own 5 0 2 0 box.length,.nil]],some [m5 132 2 v5 box]]⟩
noncomputable def c7E (v45:Int):Option (j3 (q7×Int) Int Unit) :=
 some (j3.nxt (m9 (v45+1)))
theorem e65 (s_:q7) (e_:l8) (box:List m4) (v45:Int) (res:V) (outs:s8) (x1:j8 (q7×Int) Unit) (hb1:HB cx C5.X res outs x1 c8N (fun s=>c8l s_ e_ box)) (hr1:HR res outs x1 C5.R C5.O) (st1:j3 (q7×Int) Int Unit) (hc1:s5 x1 (fun s:Int=>j5 cx C5.X res outs b9E (b7o s_ e_ box s)) st1) (h:c7E v45=some st1):j5 cx C5.X res outs d3D (d0S s_ e_ box v45) :=
 P0<|rg<|(w9 h hc1 fun hI=>sg [] [2,3,4,6,43,44,45] [(1,0),(2,0),(3,0),(4,0),(5,0)] hI)
noncomputable def c0T (s_:q7) (e_:l8) (box:List m4) (v45:Int):Option (j3 (q7×Int) Int Unit) :=
 (bif decide (v45<(s_.g8.length:Int)) then ((idx s_.g8 v45).bind fun b5L=>(((bif (b5L.a5.c8==e_.a5.c8) then (bif decide (b5L.a5.Seq≥e_.a5.Seq) then ((a6Z s_.g8).bind fun b4z=>(bif (b5L.a5.Seq==e_.a5.Seq) then some (j8.ret (j3.ret ((q7.mk (m9 (s_.At+1)) box b4z),3))) else some (j8.ret (j3.ret ((q7.mk (m9 (s_.At+1)) box b4z),4))))) else some (j8.brk ())) else some (j8.brk ())):Option (j8 (j3 (q7×Int) Int Unit) Unit)).bind fun x=>x.go some fun j=>c7E v45)) else some (j3.brk ()))
theorem f1B (s_:q7) (e_:l8) (box:List m4) (res:V) (outs:s8) (x1:j8 (q7×Int) Unit) (hb1:HB cx C5.X res outs x1 c8N (fun s=>c8l s_ e_ box)) (hr1:HR res outs x1 C5.R C5.O) (st1:j3 (q7×Int) Int Unit) (hc1:s5 x1 (fun s:Int=>j5 cx C5.X res outs b9E (b7o s_ e_ box s)) st1) (v45:Int) (h:c0T s_ e_ box v45=some st1):j5 cx C5.X res outs b9E (b7o s_ e_ box v45) :=
 P0<|rg<|i9 0 h (fun h=>rg<|u0 C4 0 h fun b5L f4Y h=>E1 (I:=fun j:Unit=>j5 cx C5.X res outs d3D (d0S s_ e_ box v45)) h (fun j h=>e65 s_ e_ box v45 res outs x1 hb1 hr1 st1 hc1 h) (fun x2 h hc2=>rg<|i9 7 h (fun h=>i9 15 h (fun h=>rg<|m3 a4F c2A 2 h fun b4z h=>rg<|i9 6 h (fun h=>rg<|(D6 h hc2 fun h=>(z4 h hc1 fun e=>J3 box b4z<|z3 C5.h (hr1 _ e)))) (fun h=>rg<|(D6 h hc2 fun h=>(z4 h hc1 fun e=>J3 box b4z<|z3 C5.h (hr1 _ e))))) (fun h=>(s6 h hc2 fun hI=>sg [] [2,3,4,6,43,44,45] [(1,0),(2,0),(3,0),(4,0),(5,0)] hI))) (fun h=>(s6 h hc2 fun hI=>sg [] [2,3,4,6,43,44,45] [(1,0),(2,0),(3,0),(4,0),(5,0)] hI)))) (fun h=>(v6 h hc1 fun e=>sg [] [2,3,4,6] [(1,0),(2,0),(3,0),(4,0),(5,0)] (hb1 _ e)))
noncomputable def c0y (s_:q7) (e_:l8):Option (q7×Int) :=
 ((b7E s_).bind fun d8s=>(bif (!d8s) then some ((q7.mk 0 [] []),(-1)) else ((a4c e_).bind fun I2=>(bif (!I2) then some ((q7.mk 0 [] []),(-1)) else (bif (s_.At==40) then some ((q7.mk 0 [] []),(-1)) else ((a9z s_.d8).bind fun box=>(bif e_.i0 then ((a6Z s_.g8).bind fun done=>some ((q7.mk (m9 (s_.At+1)) box done),5)) else ((o9 (fun s:Int=>c0T s_ e_ box s) 0).bind fun x=>x.go (fun r=>some r) fun s=>b8k s_ e_ box))))))))
theorem e6X {s_:q7} {e_:l8} (r:q7×Int) (h:c0y s_ e_=some r):o7 cx.P 101 [.agg (b2Y s_),.agg (p8 e_)] (C5.R r) (C5.O r) :=
 q8 C5.X C5.c C5.h (fun z=>p7<|m3 K9 e4G 1 h fun d8s h=>i9 3 h (fun h=>rg<|fe z h) (fun h=>m3 a24 a58 5 h fun I2 h=>i9 8 h (fun h=>rg<|fe z h) (fun h=>i9 12 h (fun h=>rg<|fe z h) (fun h=>rg<|m3 a7z c4b 5 h fun box h=>rg<|i9 1 h (fun h=>rg<|m3 a4F c2A 2 h fun done h=>rg<|J3 box done<|fe z h) (fun h=>rg<|x7 h fun x hl hr hb=>sg [] [2,3,4,6,43,44,45] [(1,0),(2,0),(3,0),(25,0),(23,0)] (x9 (I:=fun s:Int=>j5 cx C5.X (C5.R r) (C5.O r) b9E (b7o s_ e_ box s)) hl fun s st h hc=>f1B s_ e_ box _ _ x (fun s e=>f2l s_ e_ box r (hb s e)) (fun v e=>⟨congrArg C5.R (Option.some.inj (hr v e)).symm,congrArg C5.O (Option.some.inj (hr v e)).symm⟩) st hc s h))))))
noncomputable def X1:FS (q7×List Int):=⟨56,Tryz.f56,[.val [none,some 2,some 4] [none,some 132,some 159],.val [some 1] [some 3]],[none],[.val [some 7] []],fun r=>.tup [.agg [vi r.1.At,p6 132 2 v5 r.1.d8,p6 159 4 C4 r.1.g8],p6 3 1 eI r.2],fun _=>[none],Tryz.func56⟩
noncomputable def d7o:List Item:=X1.k 5 [false]
noncomputable def d7u (a1n:List m4) (a7D:List n6) (a61:List Int) (a3D:Int):St:=⟨(bs 2 (.ptr 1 0 0::(bs 1 (.ptr 2 0 0::(.own 5 0 1 0 a61.length::(bs 25 [])))))),[some [],some [.var 91 [vi 0,.nil,.nil]],some [.var 91 [vi a3D,.own 3 0 2 0 a1n.length,.own 4 0 4 0 a7D.length]],some [m5 132 2 v5 a1n],some [m5 159 4 C4 a7D],some [m5 3 1 eI a61]]⟩
noncomputable def d7Z (a1n:List m4) (a7D:List n6) (a61:List Int) (a3D:Int):Option (q7×List Int) :=
 some ((q7.mk a3D a1n a7D),a61)
theorem e0V (r:q7×List Int) (a1n:List m4) (a7D:List n6) (a61:List Int) (a3D:Int) (h:d7Z a1n a7D a61 a3D=some r):j5 cx X1.X (X1.R r) (X1.O r) d7o (d7u a1n a7D a61 a3D) :=
 P0<|rg<|ol3 a1n a7D a61<|fe X1.h h
noncomputable def c3h:List Item:=X1.k 4 []
noncomputable def c5W (i8:List l8) (d8:List m4) (g8:List n6) (a5q:List Int) (v13:Int) (sAt:Int):St:=⟨(bs 2 (.ptr 1 0 0::(bs 1 (.ptr 2 0 0::(.own 5 0 1 0 a5q.length::(bs 5 (j9 7 p8 i8::(vi (i8.length:Int)::(vi v13::(bs 17 [])))))))))),[some [],some [.var 91 [vi 0,.nil,.nil]],some [.var 91 [vi sAt,.own 3 0 2 0 d8.length,.own 4 0 4 0 g8.length]],some [m5 132 2 v5 d8],some [m5 159 4 C4 g8],some [m5 3 1 eI a5q]]⟩
noncomputable def a2E (i8:List l8) (d8:List m4) (g8:List n6) (a5q:List Int) (v13:Int) (sAt:Int):Option (j3 (q7×List Int) ((List m4)×(List n6)×(List Int)×Int×Int) ((List m4)×(List n6)×(List Int)×Int)) :=
 (bif decide (v13<(i8.length:Int)) then ((idx i8 v13).bind fun z8=>((c0y (q7.mk sAt d8 g8) z8).bind fun a54=>(u5 ((a5q.length+1) * 8≤140737488355328) (some (j3.nxt (a54.1.d8,a54.1.g8,a5q++[a54.2],m9 (v13+1),a54.1.At)))))) else some (j3.brk (d8,g8,a5q,sAt)))
theorem f4e (i8:List l8) (res:V) (outs:s8) (x1:j8 (q7×List Int) ((List m4)×(List n6)×(List Int)×Int)) (hb1:HB cx X1.X res outs x1 d7o (fun s=>d7u s.1 s.2.1 s.2.2.1 s.2.2.2)) (hr1:HR res outs x1 X1.R X1.O) (st1:j3 (q7×List Int) ((List m4)×(List n6)×(List Int)×Int×Int) ((List m4)×(List n6)×(List Int)×Int)) (hc1:s5 x1 (fun s:(List m4)×(List n6)×(List Int)×Int×Int=>j5 cx X1.X res outs c3h (c5W i8 s.1 s.2.1 s.2.2.1 s.2.2.2.1 s.2.2.2.2)) st1) (d8:List m4) (g8:List n6) (a5q:List Int) (v13:Int) (sAt:Int) (h:a2E i8 d8 g8 a5q v13 sAt=some st1):j5 cx X1.X res outs c3h (c5W i8 d8 g8 a5q v13 sAt) :=
 P0<|rg<|i9 0 h (fun h=>rg<|u0 p8 0 h fun z8 I0 h=>rg<|Q6 C5 e6X 2 h fun a54 h=>om (C7 (C5.R a54)∧F7 (C5.O a54)) ⟨(by simp [C5,C7,a0k,U9,V.simple,vi,p6,v5,C4,eI,H7,b2Y]),G4 2⟩<|J3 d8 g8<|p7<|tl (2,{ a:=.ck [] })<|w8 h fun e1 h=>M9 3 25 3 1 8 eI a5q a54.2 e1<|om (1=[a54.2].length) (by rfl)<|rg<|(w9 h hc1 fun hI=>sg [] [2,4,5,11,12,13] [(1,0),(2,0),(13,0),(13,1),(25,0)] hI)) (fun h=>(v6 h hc1 fun e=>sg [] [2,4,5] [(1,0),(2,0),(3,0),(4,0),(5,0)] (hb1 _ e)))
noncomputable def b1U (i8:List l8):Option (q7×List Int) :=
 ((b9v).bind fun W7=>((o9 (fun s:(List m4)×(List n6)×(List Int)×Int×Int=>a2E i8 s.1 s.2.1 s.2.2.1 s.2.2.2.1 s.2.2.2.2) (W7.d8,W7.g8,[],0,W7.At)).bind fun x=>x.go (fun r=>some r) fun s=>d7Z s.1 s.2.1 s.2.2.1 s.2.2.2))
theorem c1r {i8:List l8} (r:q7×List Int) (h:b1U i8=some r):o7 cx.P 56 [j9 7 p8 i8] (X1.R r) (X1.O r) :=
 q8 X1.X X1.c X1.h (fun z=>p7<|m3 a9V f4m 0 h fun W7 h=>p7<|x7 h fun x hl hr hb=>sg [.own (.tmp 5) 3 1] [2,4,5,11,12,13] [(1,0),(4,0),(3,0),(3,1),(10,0)] (x9 (I:=fun s:(List m4)×(List n6)×(List Int)×Int×Int=>j5 cx X1.X (X1.R r) (X1.O r) c3h (c5W i8 s.1 s.2.1 s.2.2.1 s.2.2.2.1 s.2.2.2.2)) hl fun s st h hc=>f4e i8 _ _ x (fun s e=>e0V r s.1 s.2.1 s.2.2.1 s.2.2.2 (hb s e)) (fun v e=>⟨congrArg X1.R (Option.some.inj (hr v e)).symm,congrArg X1.O (Option.some.inj (hr v e)).symm⟩) st hc s.1 s.2.1 s.2.2.1 s.2.2.2.1 s.2.2.2.2 h))
noncomputable def a6b:FS (List n5):=⟨93,Tryz.f93,[.val [some 2] [some 41]],[none],[.val [some 2] []],fun r=>p6 41 2 H7 r,fun _=>[none],Tryz.func93⟩
noncomputable def b6y (i8:List n5):Option (List n5) :=
 (bif ((i8.length:Int)==0) then some [] else (u5 (0≤(i8.length:Int)∧(i8.length:Int) * 16≤140737488355328) ((u5 (i8.length=(List.replicate (i8.length:Int).toNat (n5.mk 0 0)).length) (some i8)))))
theorem e7o {i8:List n5} (r:List n5) (h:b6y i8=some r):o7 cx.P 93 [j9 2 H7 i8] (a6b.R r) (a6b.O r) :=
 q8 a6b.X a6b.c a6b.h (fun z=>p7<|i9 2 h (fun h=>rg<|fe z h) (fun h=>rg<|w8 h fun e1 h=>mkS 2 7 41 2 16 H7 (n5.mk 0 0) c8v (.none) e1 (by decide) (by rfl)<|rg<|w8 h fun e2 h=>om (s4.row 41 2 (List.replicate (i8.length:Int).toNat (n5.mk 0 0)).length (i8.map H7)=m5 41 2 H7 i8) (a7c e2)<|o6 (List.replicate (i8.length:Int).toNat (n5.mk 0 0))<|ob e2<|tl (2,{ e:=some (m5 41 2 H7 i8) })<|rg<|om ((List.replicate (i8.length:Int).toNat (n5.mk 0 0)).length=i8.length) (by simp)<|fe z h))
noncomputable def Q9:FS (List n5):=⟨49,Tryz.f49,[.val [some 2] []],[none],[.val [some 7] []],fun r=>j9 2 H7 r,fun _=>[none],Tryz.func49⟩
noncomputable def c4q:List Item:=Q9.k 6 [false,false]
noncomputable def c5o (out1:List n5):St:=⟨(bs 5 (.own 1 0 2 0 out1.length::(bs 30 []))),[some [],some [m5 41 2 H7 out1]]⟩
noncomputable def c3u (out1:List n5):Option (List n5) :=
 ((b6y out1).bind fun req=>some req)
theorem f4C (r:List n5) (out1:List n5) (h:c3u out1=some r):j5 cx Q9.X (Q9.R r) (Q9.O r) c4q (c5o out1) :=
 P0<|rg<|Q6 a6b e7o 1 h fun req h=>om (C7 (a6b.R req)∧F7 (a6b.O req)) ⟨(by simp [a6b,C7,a0k,U9,V.simple,vi,p6,eI,H7]),G4 1⟩<|J3 out1 req<|fe Q9.h h
noncomputable def b86:List Item:=Q9.k 5 [false]
noncomputable def b8G (i8:List l8) (r9:q7×List Int) (out:List n5) (v18:Int):St:=⟨(bs 4 (.own 1 0 1 0 r9.2.length::(.own 2 0 2 0 out.length::(bs 10 (j9 7 p8 i8::(vi (i8.length:Int)::(vi v18::(bs 17 [])))))))),[some [],some [m5 3 1 eI r9.2],some [m5 41 2 H7 out]]⟩
noncomputable def d0c:List Item:=Q9.k 9 [false,true,true]
noncomputable def c9j (i8:List l8) (r9:q7×List Int) (v18:Int) (out2:List n5):St:=⟨(bs 4 (.own 1 0 1 0 r9.2.length::(.own 2 0 2 0 out2.length::(bs 10 (j9 7 p8 i8::(vi (i8.length:Int)::(vi v18::(bs 17 [])))))))),[some [],some [m5 3 1 eI r9.2],some [m5 41 2 H7 out2]]⟩
noncomputable def c5m (v18:Int) (out2:List n5):Option (j3 (List n5) ((List n5)×Int) (List n5)) :=
 some (j3.nxt (out2,m9 (v18+1)))
theorem e6C (i8:List l8) (r9:q7×List Int) (v18:Int) (res:V) (outs:s8) (x1:j8 (List n5) (List n5)) (hb1:HB cx Q9.X res outs x1 c4q c5o) (hr1:HR res outs x1 Q9.R Q9.O) (st1:j3 (List n5) ((List n5)×Int) (List n5)) (hc1:s5 x1 (fun s:(List n5)×Int=>j5 cx Q9.X res outs b86 (b8G i8 r9 s.1 s.2)) st1) (out2:List n5) (h:c5m v18 out2=some st1):j5 cx Q9.X res outs d0c (c9j i8 r9 v18 out2) :=
 P0<|rg<|(w9 h hc1 fun hI=>sg [] [4,5,16,17,18] [(1,0),(2,0)] hI)
noncomputable def b0V (i8:List l8) (r9:q7×List Int) (out:List n5) (v18:Int):Option (j3 (List n5) ((List n5)×Int) (List n5)) :=
 (bif decide (v18<(i8.length:Int)) then ((idx i8 v18).bind fun z8=>((((idx r9.2 v18).bind fun y=>(bif (y==0) then (u5 ((out.length+1) * 16≤140737488355328) (some (j8.brk (out++[z8.a5])))) else some (j8.brk out))):Option (j8 (j3 (List n5) ((List n5)×Int) (List n5)) (List n5))).bind fun x=>x.go some fun j=>c5m v18 j)) else some (j3.brk out))
theorem e7B (i8:List l8) (r9:q7×List Int) (res:V) (outs:s8) (x1:j8 (List n5) (List n5)) (hb1:HB cx Q9.X res outs x1 c4q c5o) (hr1:HR res outs x1 Q9.R Q9.O) (st1:j3 (List n5) ((List n5)×Int) (List n5)) (hc1:s5 x1 (fun s:(List n5)×Int=>j5 cx Q9.X res outs b86 (b8G i8 r9 s.1 s.2)) st1) (out:List n5) (v18:Int) (h:b0V i8 r9 out v18=some st1):j5 cx Q9.X res outs b86 (b8G i8 r9 out v18) :=
 P0<|rg<|i9 0 h (fun h=>rg<|u0 p8 1 h fun z8 I0 h=>E1 (I:=fun j:List n5=>j5 cx Q9.X res outs d0c (c9j i8 r9 v18 j)) h (fun j h=>e6C i8 r9 v18 res outs x1 hb1 hr1 st1 hc1 j h) (fun x2 h hc2=>rg<|C6 h fun y hy h=>E2 hy<|V3 eI 3 hy<|i9 4 h (fun h=>rg<|tl (3,{ a:=.ck [] })<|w8 h fun e1 h=>M9 4 19 41 2 16 H7 out z8.a5 e1<|om (1=[z8.a5].length) (by rfl)<|(s6 h hc2 fun hI=>sg [] [4,5,16,17,18] [(1,0),(19,0)] hI)) (fun h=>(s6 h hc2 fun hI=>sg [] [4,5,16,17,18] [(1,0),(2,0)] hI)))) (fun h=>(v6 h hc1 fun e=>sg [] [5] [(2,0)] (hb1 _ e)))
noncomputable def b9f (i8:List l8):Option (List n5) :=
 ((b0d i8).bind fun L0=>(bif (!L0) then some [] else ((b1U i8).bind fun r9=>((o9 (fun s:(List n5)×Int=>b0V i8 r9 s.1 s.2) ([],0)).bind fun x=>x.go (fun r=>some r) fun s=>c3u s))))
theorem f3d {i8:List l8} (r:List n5) (h:b9f i8=some r):o7 cx.P 49 [j9 7 p8 i8] (Q9.R r) (Q9.O r) :=
 q8 Q9.X Q9.c Q9.h (fun z=>p7<|m3 V9 c6n 1 h fun L0 h=>i9 2 h (fun h=>rg<|fe z h) (fun h=>rg<|m3 X1 c1r 1 h fun r9 h=>p7<|x7 h fun x hl hr hb=>sg [.own (.tmp 5) 41 2] [4,5,16,17,18] [(6,2),(17,0)] (x9 (I:=fun s:(List n5)×Int=>j5 cx Q9.X (Q9.R r) (Q9.O r) b86 (b8G i8 r9 s.1 s.2)) hl fun s st h hc=>e7B i8 r9 _ _ x (fun s e=>f4C r s (hb s e)) (fun v e=>⟨congrArg Q9.R (Option.some.inj (hr v e)).symm,congrArg Q9.O (Option.some.inj (hr v e)).symm⟩) st hc s.1 s.2 h)))
noncomputable def b1P:FS (List m7):=⟨94,Tryz.f94,[.val [some 4] [some 117]],[none],[.val [some 4] []],fun r=>p6 117 4 A8 r,fun _=>[none],Tryz.func94⟩
noncomputable def b6T (i8:List m7):Option (List m7) :=
 (bif ((i8.length:Int)==0) then some [] else (u5 (0≤(i8.length:Int)∧(i8.length:Int) * 32≤140737488355328) ((u5 (i8.length=(List.replicate (i8.length:Int).toNat (m7.mk 0 0 0 0)).length) (some i8)))))
theorem e1A {i8:List m7} (r:List m7) (h:b6T i8=some r):o7 cx.P 94 [j9 4 A8 i8] (b1P.R r) (b1P.O r) :=
 q8 b1P.X b1P.c b1P.h (fun z=>p7<|i9 2 h (fun h=>rg<|fe z h) (fun h=>rg<|w8 h fun e1 h=>mkS 2 7 117 4 32 A8 (m7.mk 0 0 0 0) c7V (.none) e1 (by decide) (by rfl)<|rg<|w8 h fun e2 h=>om (s4.row 117 4 (List.replicate (i8.length:Int).toNat (m7.mk 0 0 0 0)).length (i8.map A8)=m5 117 4 A8 i8) (a7c e2)<|o6 (List.replicate (i8.length:Int).toNat (m7.mk 0 0 0 0))<|ob e2<|tl (2,{ e:=some (m5 117 4 A8 i8) })<|rg<|om ((List.replicate (i8.length:Int).toNat (m7.mk 0 0 0 0)).length=i8.length) (by simp)<|fe z h))
noncomputable def Z9:FS ((List m7)×Bool):=⟨50,Tryz.f50,[.val [some 4] [some 117],.val [] []],[none,none],[.val K4 [],.val [] []],fun r=>.tup [p6 117 4 A8 r.1,.b r.2],fun _=>[none,none],Tryz.func50⟩
noncomputable def d4S:List Item:=Z9.k 3 [false]
noncomputable def d3a:St:=⟨(bs 23 []),[some []]⟩
noncomputable def d6s:Option ((List m7)×Bool) :=
 some ([],false)
theorem f2t (r:(List m7)×Bool) (h:d6s=some r):j5 cx Z9.X (Z9.R r) (Z9.O r) d4S (d3a) :=
 P0<|rg<|fe Z9.h h
noncomputable def c2i:List Item:=Z9.k 2 []
noncomputable def c6F (w:l7) (q:n5) (v11:Int):St:=⟨(bs 3 (.ptr 1 0 0::(bs 5 (j9 3 E5 w.Asked::(vi (w.Asked.length:Int)::(vi v11::(bs 11 []))))))),[some [],some [.var 41 [vi q.c8,vi q.Seq]]]⟩
noncomputable def c0V (w:l7) (q:n5) (v11:Int):Option (j3 ((List m7)×Bool) Int Unit) :=
 (bif decide (v11<(w.Asked.length:Int)) then ((idx w.Asked v11).bind fun asked=>(bif (([asked.a5.c8,asked.a5.Seq]:List Int)==[q.c8,q.Seq]) then ((b6T asked.g7).bind fun ins=>some (j3.ret (ins,true))) else some (j3.nxt (m9 (v11+1))))) else some (j3.brk ()))
theorem f0X (w:l7) (q:n5) (res:V) (outs:s8) (x1:j8 ((List m7)×Bool) Unit) (hb1:HB cx Z9.X res outs x1 d4S (fun s=>d3a)) (hr1:HR res outs x1 Z9.R Z9.O) (st1:j3 ((List m7)×Bool) Int Unit) (hc1:s5 x1 (fun s:Int=>j5 cx Z9.X res outs c2i (c6F w q s)) st1) (v11:Int) (h:c0V w q v11=some st1):j5 cx Z9.X res outs c2i (c6F w q v11) :=
 P0<|rg<|i9 0 h (fun h=>rg<|u0 E5 0 h fun asked a8k h=>rg<|i9 3 h (fun h=>rg<|m3 b1P e1A 2 h fun ins h=>(z4 h hc1 fun e=>o6 ins<|z3 Z9.h (hr1 _ e))) (fun h=>rg<|(w9 h hc1 fun hI=>sg [] [3,9,10,11] [(1,0)] hI))) (fun h=>(v6 h hc1 fun e=>sg [] [] [] (hb1 _ e)))
noncomputable def b6A (w:l7) (q:n5):Option ((List m7)×Bool) :=
 ((o9 (fun s:Int=>c0V w q s) 0).bind fun x=>x.go (fun r=>some r) fun s=>d6s)
theorem e74 {w:l7} {q:n5} (r:(List m7)×Bool) (h:b6A w q=some r):o7 cx.P 50 [.agg (T8 w),.agg (H7 q)] (Z9.R r) (Z9.O r) :=
 q8 Z9.X Z9.c Z9.h (fun z=>p7<|x7 h fun x hl hr hb=>sg [] [3,9,10,11] [(2,0)] (x9 (I:=fun s:Int=>j5 cx Z9.X (Z9.R r) (Z9.O r) c2i (c6F w q s)) hl fun s st h hc=>f0X w q _ _ x (fun s e=>f2t r (hb s e)) (fun v e=>⟨congrArg Z9.R (Option.some.inj (hr v e)).symm,congrArg Z9.O (Option.some.inj (hr v e)).symm⟩) st hc s h))
noncomputable def S9:FS (Int):=⟨158,Tryz.f158,[.val [] []],[none,none],[.val Y4 [],.val [] []],fun r=>vi r,fun _=>[none,none],Tryz.func158⟩
noncomputable def d9Z:List Item:=S9.k 3 [false]
noncomputable def d2J:St:=⟨(bs 21 []),[some []]⟩
noncomputable def d2g:Option Int :=
 some (-1)
theorem e2N (r:Int) (h:d2g=some r):j5 cx S9.X (S9.R r) (S9.O r) d9Z (d2J) :=
 P0<|rg<|fe S9.h h
noncomputable def c5D:List Item:=S9.k 2 []
noncomputable def c1l (r_:m8) (box:Int) (v10:Int):St:=⟨(bs 1 (vi box::(bs 6 (j9 2 u9 r_.a9::(vi (r_.a9.length:Int)::(vi v10::(bs 10 []))))))),[some []]⟩
noncomputable def b4C (r_:m8) (box:Int) (v10:Int):Option (j3 Int Int Unit) :=
 (bif decide (v10<(r_.a9.length:Int)) then ((idx r_.a9 v10).bind fun put=>(bif (put.f0==box) then some (j3.ret v10) else some (j3.nxt (m9 (v10+1))))) else some (j3.brk ()))
theorem e5U (r_:m8) (box:Int) (res:V) (outs:s8) (x1:j8 Int Unit) (hb1:HB cx S9.X res outs x1 d9Z (fun s=>d2J)) (hr1:HR res outs x1 S9.R S9.O) (st1:j3 Int Int Unit) (hc1:s5 x1 (fun s:Int=>j5 cx S9.X res outs c5D (c1l r_ box s)) st1) (v10:Int) (h:b4C r_ box v10=some st1):j5 cx S9.X res outs c5D (c1l r_ box v10) :=
 P0<|rg<|i9 0 h (fun h=>rg<|u0 u9 1 h fun put hput h=>rg<|i9 3 h (fun h=>rg<|(z4 h hc1 fun e=>z3 S9.h (hr1 _ e))) (fun h=>rg<|(w9 h hc1 fun hI=>sg [] [1,8,9,10] [] hI))) (fun h=>(v6 h hc1 fun e=>sg [] [] [] (hb1 _ e)))
noncomputable def b42 (r_:m8) (box:Int):Option Int :=
 ((o9 (fun s:Int=>b4C r_ box s) 0).bind fun x=>x.go (fun r=>some r) fun s=>d2g)
theorem d04 {r_:m8} {box:Int} (r:Int) (h:b42 r_ box=some r):o7 cx.P 158 [.agg (Z2 r_),vi box] (S9.R r) (S9.O r) :=
 q8 S9.X S9.c S9.h (fun z=>p7<|x7 h fun x hl hr hb=>sg [] [1,8,9,10] [] (x9 (I:=fun s:Int=>j5 cx S9.X (S9.R r) (S9.O r) c5D (c1l r_ box s)) hl fun s st h hc=>e5U r_ box _ _ x (fun s e=>e2N r (hb s e)) (fun v e=>⟨congrArg S9.R (Option.some.inj (hr v e)).symm,congrArg S9.O (Option.some.inj (hr v e)).symm⟩) st hc s h))
noncomputable def W3:FS (Int):=⟨159,Tryz.f159,[.val [] []],[none,none],[.val Y4 [],.val [] []],fun r=>vi r,fun _=>[none,none],Tryz.func159⟩
noncomputable def d1T:List Item:=W3.k 3 [false]
noncomputable def d6S:St:=⟨(bs 21 []),[some []]⟩
noncomputable def c9W:Option Int :=
 some (-1)
theorem e9e (r:Int) (h:c9W=some r):j5 cx W3.X (W3.R r) (W3.O r) d1T (d6S) :=
 P0<|rg<|fe W3.h h
noncomputable def c6K:List Item:=W3.k 2 []
noncomputable def c3d (r_:m8) (box:Int) (v10:Int):St:=⟨(bs 1 (vi box::(bs 6 (j9 2 u6 r_.a8::(vi (r_.a8.length:Int)::(vi v10::(bs 10 []))))))),[some []]⟩
noncomputable def b3y (r_:m8) (box:Int) (v10:Int):Option (j3 Int Int Unit) :=
 (bif decide (v10<(r_.a8.length:Int)) then ((idx r_.a8 v10).bind fun G5=>(bif (G5.f0==box) then some (j3.ret v10) else some (j3.nxt (m9 (v10+1))))) else some (j3.brk ()))
theorem e2S (r_:m8) (box:Int) (res:V) (outs:s8) (x1:j8 Int Unit) (hb1:HB cx W3.X res outs x1 d1T (fun s=>d6S)) (hr1:HR res outs x1 W3.R W3.O) (st1:j3 Int Int Unit) (hc1:s5 x1 (fun s:Int=>j5 cx W3.X res outs c6K (c3d r_ box s)) st1) (v10:Int) (h:b3y r_ box v10=some st1):j5 cx W3.X res outs c6K (c3d r_ box v10) :=
 P0<|rg<|i9 0 h (fun h=>rg<|u0 u6 1 h fun G5 a5p h=>rg<|i9 3 h (fun h=>rg<|(z4 h hc1 fun e=>z3 W3.h (hr1 _ e))) (fun h=>rg<|(w9 h hc1 fun hI=>sg [] [1,8,9,10] [] hI))) (fun h=>(v6 h hc1 fun e=>sg [] [] [] (hb1 _ e)))
noncomputable def b2R (r_:m8) (box:Int):Option Int :=
 ((o9 (fun s:Int=>b3y r_ box s) 0).bind fun x=>x.go (fun r=>some r) fun s=>c9W)
theorem f4d {r_:m8} {box:Int} (r:Int) (h:b2R r_ box=some r):o7 cx.P 159 [.agg (Z2 r_),vi box] (W3.R r) (W3.O r) :=
 q8 W3.X W3.c W3.h (fun z=>p7<|x7 h fun x hl hr hb=>sg [] [1,8,9,10] [] (x9 (I:=fun s:Int=>j5 cx W3.X (W3.R r) (W3.O r) c6K (c3d r_ box s)) hl fun s st h hc=>e2S r_ box _ _ x (fun s e=>e9e r (hb s e)) (fun v e=>⟨congrArg W3.R (Option.some.inj (hr v e)).symm,congrArg W3.O (Option.some.inj (hr v e)).symm⟩) st hc s h))
noncomputable def C2:FS (m8):=⟨133,Tryz.f133,[.val Y4 []],[none,none],[.val [some 2] [],.val [some 4] []],fun r=>.agg (Z2 r),fun _=>[none,none],Tryz.func133⟩
noncomputable def a8y:List Item:=C2.k 6 [false,false]
noncomputable def a8E (b2p:List n7) (b0D:List n3) (N6:List Int) (a7h:List n7) (a73:List n3):St:=⟨(bs 4 (.ptr 1 0 0::(.ptr 4 0 0::(.ptr 5 0 0::(bs 175 []))))),[some [],some [.var 45 [.own 2 0 2 0 b2p.length,.own 3 0 2 0 b0D.length,vi 0,vi 0]],some [m5 121 2 u6 b2p],some [m5 124 2 u9 b0D],some [.arr 177 1 4 (N6.map eI)],some [.var 45 [.own 6 0 2 0 a7h.length,.own 7 0 2 0 a73.length,vi 0,vi 0]],some [m5 121 2 u6 a7h],some [m5 124 2 u9 a73]]⟩
noncomputable def b2J (b2p:List n7) (b0D:List n3) (N6:List Int) (a7h:List n7) (a73:List n3):Option m8 :=
 ((a4C a7h).bind fun G5=>((a9x a73).bind fun put=>((idx N6 0).bind fun y=>(u5 ((0:Int)<4) (some (m8.mk G5 put y 0))))))
theorem f2k (r:m8) (b2p:List n7) (b0D:List n3) (N6:List Int) (a7h:List n7) (a73:List n3) (h:b2J b2p b0D N6 a7h a73=some r):j5 cx C2.X (C2.R r) (C2.O r) a8y (a8E b2p b0D N6 a7h a73) :=
 P0<|rg<|Q6 V2 b1j 2 h fun G5 h=>om (C7 (V2.R G5)∧F7 (V2.O G5)) ⟨(by simp [V2,C7,a0k,U9,V.simple,vi,p6,eI,u6]),G4 1⟩<|o6 a7h<|Q6 a5k d2D 5 h fun put h=>om (C7 (a5k.R put)∧F7 (a5k.O put)) ⟨(by simp [a5k,C7,a0k,U9,V.simple,vi,p6,eI,u9]),G4 1⟩<|o6 a73<|C6 h fun y hy h=>w8 h fun e1 h=>ob (U1 hy)<|ob e1<|ob (a0P (enc:=eI) hy)<|tl (tr 7 (eI y))<|J3 G5 put<|fe C2.h h
noncomputable def a7j:List Item:=C2.k 5 [false]
noncomputable def a6J (i8:List m4) (prog:List m7) (regs:List Int) (a8:List n7) (a9:List n3) (z9:List n7) (B5:List n3) (at_:Int):St:=⟨(j9 2 v5 i8::(j9 4 A8 prog::(bs 2 (.ptr 1 0 0::(.ptr 2 0 0::(.ptr 3 0 0::(vi at_::(bs 174 [])))))))),[some [],some [.var 45 [.own 4 0 2 0 a8.length,.own 5 0 2 0 a9.length,vi 0,vi 0]],some [.arr 177 1 4 (regs.map eI)],some [.var 45 [.own 6 0 2 0 z9.length,.own 7 0 2 0 B5.length,vi 0,vi 0]],some [m5 121 2 u6 a8],some [m5 124 2 u9 a9],some [m5 121 2 u6 z9],some [m5 124 2 u9 B5]]⟩
noncomputable def d8w:List Item:=C2.k 14 [false,true,true,true,false]
noncomputable def d4I (i8:List m4) (prog:List m7) (regs:List Int) (a8:List n7) (a9:List n3) (z9:List n7) (B5:List n3) (at_:Int) (ins:m7) (D9:n3):St:=⟨(j9 2 v5 i8::(j9 4 A8 prog::(bs 2 (.ptr 1 0 0::(.ptr 4 0 0::(.ptr 5 0 0::(vi at_::(bs 174 [])))))))),[some [],some [.var 45 [.own 2 0 2 0 a8.length,.own 3 0 2 0 a9.length,vi 0,vi 0]],some [m5 121 2 u6 a8],some [m5 124 2 u9 a9],some [.arr 177 1 4 ((regs.set ins.A.toNat D9.d6).map eI)],some [.var 45 [.own 6 0 2 0 z9.length,.own 7 0 2 0 B5.length,vi 0,vi 0]],some [m5 121 2 u6 z9],some [m5 124 2 u9 B5]]⟩
noncomputable def c1q (regs:List Int) (a8:List n7) (a9:List n3) (z9:List n7) (B5:List n3) (at_:Int) (ins:m7) (D9:n3):Option (j3 m8 ((List Int)×(List n7)×(List n3)×(List n7)×(List n3)×Int) ((List n7)×(List n3)×(List Int)×(List n7)×List n3)) :=
 some (j3.nxt (regs.set ins.A.toNat D9.d6,a8,a9,z9,B5,m9 (at_+1)))
theorem f1n (i8:List m4) (prog:List m7) (regs:List Int) (a8:List n7) (a9:List n3) (z9:List n7) (B5:List n3) (at_:Int) (ins:m7) (D9:n3) (res:V) (outs:s8) (x1:j8 m8 ((List n7)×(List n3)×(List Int)×(List n7)×List n3)) (hb1:HB cx C2.X res outs x1 a8y (fun s=>a8E s.1 s.2.1 s.2.2.1 s.2.2.2.1 s.2.2.2.2)) (hr1:HR res outs x1 C2.R C2.O) (st1:j3 m8 ((List Int)×(List n7)×(List n3)×(List n7)×(List n3)×Int) ((List n7)×(List n3)×(List Int)×(List n7)×List n3)) (hc1:s5 x1 (fun s:(List Int)×(List n7)×(List n3)×(List n7)×(List n3)×Int=>j5 cx C2.X res outs a7j (a6J i8 prog s.1 s.2.1 s.2.2.1 s.2.2.2.1 s.2.2.2.2.1 s.2.2.2.2.2)) st1) (h:c1q regs a8 a9 z9 B5 at_ ins D9=some st1):j5 cx C2.X res outs d8w (d4I i8 prog regs a8 a9 z9 B5 at_ ins D9) :=
 P0<|rg<|(w9 h hc1 fun hI=>sg [] [0,1,4,5,6,7] [(1,0),(4,0),(5,0),(2,0),(3,0),(6,0),(7,0)] hI)
noncomputable def c6W:List Item:=C2.k 13 [false,true,true,true]
noncomputable def c77 (i8:List m4) (prog:List m7) (regs:List Int) (a8:List n7) (a9:List n3) (z9:List n7) (B5:List n3) (at_:Int) (ins:m7) (D9:n3) (a43:Int):St:=⟨(j9 2 v5 i8::(j9 4 A8 prog::(bs 2 (.ptr 1 0 0::(.ptr 4 0 0::(.ptr 5 0 0::(vi at_::(bs 153 (.agg ((regs.set ins.A.toNat D9.d6).map eI).flatten::(vi a43::(bs 19 []))))))))))),[some [],some [.var 45 [.own 2 0 2 0 a8.length,.own 3 0 2 0 a9.length,vi 0,vi 0]],some [m5 121 2 u6 a8],some [m5 124 2 u9 a9],some [.arr 177 1 4 ((regs.set ins.A.toNat D9.d6).map eI)],some [.var 45 [.own 6 0 2 0 z9.length,.own 7 0 2 0 B5.length,vi 0,vi 0]],some [m5 121 2 u6 z9],some [m5 124 2 u9 B5]]⟩
noncomputable def b4c (regs:List Int) (z9:List n7) (ins:m7) (D9:n3) (a43:Int):Option (j3 m8 Int Unit) :=
 (bif decide (a43<4) then ((idx (regs.set ins.A.toNat D9.d6) a43).bind fun y2=>(u5 (a43<4) (((K8 y2 (-1000000) 1000000).bind fun in_=>(bif (!in_) then ((a4C z9).bind fun W9=>some (j3.ret (m8.mk W9 [] 0 2))) else some (j3.nxt (m9 (a43+1)))))))) else some (j3.brk ()))
set_option maxRecDepth 20000 in
theorem e6Y (i8:List m4) (prog:List m7) (regs:List Int) (a8:List n7) (a9:List n3) (z9:List n7) (B5:List n3) (at_:Int) (ins:m7) (D9:n3) (res:V) (outs:s8) (x2:j8 m8 Unit) (hb2:HB cx C2.X res outs x2 d8w (fun s=>d4I i8 prog regs a8 a9 z9 B5 at_ ins D9)) (hr2:HR res outs x2 C2.R C2.O) (st2:j3 m8 Int Unit) (hc2:s5 x2 (fun s:Int=>j5 cx C2.X res outs c6W (c77 i8 prog regs a8 a9 z9 B5 at_ ins D9 s)) st2) (a43:Int) (h:b4c regs z9 ins D9 a43=some st2):j5 cx C2.X res outs c6W (c77 i8 prog regs a8 a9 z9 B5 at_ ins D9 a43) :=
 P0<|rg<|i9 0 h (fun h=>rg<|C6 h fun y2 hy2 h=>w8 h fun e3 h=>ob (U1 hy2)<|ob e3<|om (((regs.set ins.A.toNat D9.d6).map eI).flatten[a43.toNat]?=some (vi y2)) (c7P (fun _=>rfl) hy2)<|tl (0,{ a:=.val (vi y2) })<|rg<|m3 K5 M7 1 h fun in_ h=>i9 2 h (fun h=>rg<|Q6 V2 b1j 2 h fun W9 h=>om (C7 (V2.R W9)∧F7 (V2.O W9)) ⟨(by simp [V2,C7,a0k,U9,V.simple,vi,p6,eI,u6]),G4 1⟩<|o6 z9<|(z4 h hc2 fun e=>o6 W9<|z3 C2.h (hr2 _ e))) (fun h=>rg<|(w9 h hc2 fun hI=>om (V.agg (((regs.set ins.A.toNat D9.d6).map eI).flatten.map (a04 [(1,0),(2,0),(3,0),(4,0),(5,0),(6,0),(7,0)])) = .agg ((regs.set ins.A.toNat D9.d6).map eI).flatten) (congrArg V.agg (a89 (fun _=>rfl) _))<|sgT [] [0,1,4,5,6,7,161,162] [(1,0),(2,0),(3,0),(4,0),(5,0),(6,0),(7,0)] [(161,.agg ((regs.set ins.A.toNat D9.d6).map eI).flatten)] hI))) (fun h=>(v6 h hc2 fun e=>sg [] [0,1,4,5,6,7] [(1,0),(2,0),(3,0),(4,0),(5,0),(6,0),(7,0)] (hb2 _ e)))
noncomputable def d9Q:List Item:=C2.k 13 [false,true,true,false,true]
noncomputable def d6d (i8:List m4) (prog:List m7) (regs:List Int) (a8:List n7) (a9:List n3) (B5:List n3) (at_:Int) (ins:m7) (Q0:List n7):St:=⟨(j9 2 v5 i8::(j9 4 A8 prog::(bs 2 (.ptr 1 0 0::(.ptr 4 0 0::(.ptr 5 0 0::(vi at_::(.ptr 8 0 0::(bs 173 []))))))))),[some [],some [.var 45 [.own 2 0 2 0 a8.length,.own 3 0 2 0 a9.length,vi 0,vi 0]],some [m5 121 2 u6 a8],some [m5 124 2 u9 a9],some [.arr 177 1 4 (regs.map eI)],some [.var 45 [.own 6 0 2 0 Q0.length,.own 7 0 2 0 B5.length,vi 0,vi 0]],some [m5 121 2 u6 Q0],some [m5 124 2 u9 B5],some [.var 117 [vi ins.c9,vi ins.A,vi ins.B,vi ins.N]]]⟩
noncomputable def d3u:List Item:=C2.k 16 [false,true,true,false,true,false]
noncomputable def d3A (i8:List m4) (prog:List m7) (regs:List Int) (a8:List n7) (a9:List n3) (B5:List n3) (at_:Int) (ins:m7) (Q0:List n7) (box:m4):St:=⟨(j9 2 v5 i8::(j9 4 A8 prog::(bs 2 (.ptr 1 0 0::(.ptr 4 0 0::(.ptr 5 0 0::(vi at_::(bs 174 [])))))))),[some [],some [.var 45 [.own 2 0 2 0 a8.length,.own 3 0 2 0 a9.length,vi 0,vi 0]],some [m5 121 2 u6 a8],some [m5 124 2 u9 a9],some [.arr 177 1 4 ((regs.set ins.A.toNat box.d6).map eI)],some [.var 45 [.own 6 0 2 0 Q0.length,.own 7 0 2 0 B5.length,vi 0,vi 0]],some [m5 121 2 u6 Q0],some [m5 124 2 u9 B5]]⟩
noncomputable def b8n (regs:List Int) (a8:List n7) (a9:List n3) (B5:List n3) (at_:Int) (ins:m7) (Q0:List n7) (box:m4):Option (j3 m8 ((List Int)×(List n7)×(List n3)×(List n7)×(List n3)×Int) ((List n7)×(List n3)×(List Int)×(List n7)×List n3)) :=
 some (j3.nxt (regs.set ins.A.toNat box.d6,a8,a9,Q0,B5,m9 (at_+1)))
theorem f2n (i8:List m4) (prog:List m7) (regs:List Int) (a8:List n7) (a9:List n3) (B5:List n3) (at_:Int) (ins:m7) (Q0:List n7) (box:m4) (res:V) (outs:s8) (x1:j8 m8 ((List n7)×(List n3)×(List Int)×(List n7)×List n3)) (hb1:HB cx C2.X res outs x1 a8y (fun s=>a8E s.1 s.2.1 s.2.2.1 s.2.2.2.1 s.2.2.2.2)) (hr1:HR res outs x1 C2.R C2.O) (st1:j3 m8 ((List Int)×(List n7)×(List n3)×(List n7)×(List n3)×Int) ((List n7)×(List n3)×(List Int)×(List n7)×List n3)) (hc1:s5 x1 (fun s:(List Int)×(List n7)×(List n3)×(List n7)×(List n3)×Int=>j5 cx C2.X res outs a7j (a6J i8 prog s.1 s.2.1 s.2.2.1 s.2.2.2.1 s.2.2.2.2.1 s.2.2.2.2.2)) st1) (h:b8n regs a8 a9 B5 at_ ins Q0 box=some st1):j5 cx C2.X res outs d3u (d3A i8 prog regs a8 a9 B5 at_ ins Q0 box) :=
 P0<|rg<|(w9 h hc1 fun hI=>sg [] [0,1,4,5,6,7] [(1,0),(4,0),(5,0),(2,0),(3,0),(6,0),(7,0)] hI)
noncomputable def c8K:List Item:=C2.k 15 [false,true,true,false,true]
noncomputable def c54 (i8:List m4) (prog:List m7) (regs:List Int) (a8:List n7) (a9:List n3) (B5:List n3) (at_:Int) (ins:m7) (Q0:List n7) (box:m4) (a41:Int):St:=⟨(j9 2 v5 i8::(j9 4 A8 prog::(bs 2 (.ptr 1 0 0::(.ptr 4 0 0::(.ptr 5 0 0::(vi at_::(bs 153 (.agg ((regs.set ins.A.toNat box.d6).map eI).flatten::(vi a41::(bs 19 []))))))))))),[some [],some [.var 45 [.own 2 0 2 0 a8.length,.own 3 0 2 0 a9.length,vi 0,vi 0]],some [m5 121 2 u6 a8],some [m5 124 2 u9 a9],some [.arr 177 1 4 ((regs.set ins.A.toNat box.d6).map eI)],some [.var 45 [.own 6 0 2 0 Q0.length,.own 7 0 2 0 B5.length,vi 0,vi 0]],some [m5 121 2 u6 Q0],some [m5 124 2 u9 B5]]⟩
noncomputable def b3D (regs:List Int) (ins:m7) (Q0:List n7) (box:m4) (a41:Int):Option (j3 m8 Int Unit) :=
 (bif decide (a41<4) then ((idx (regs.set ins.A.toNat box.d6) a41).bind fun y4=>(u5 (a41<4) (((K8 y4 (-1000000) 1000000).bind fun N2=>(bif (!N2) then ((a4C Q0).bind fun b3U=>some (j3.ret (m8.mk b3U [] 0 2))) else some (j3.nxt (m9 (a41+1)))))))) else some (j3.brk ()))
set_option maxRecDepth 20000 in
theorem e42 (i8:List m4) (prog:List m7) (regs:List Int) (a8:List n7) (a9:List n3) (B5:List n3) (at_:Int) (ins:m7) (Q0:List n7) (box:m4) (res:V) (outs:s8) (x2:j8 m8 Unit) (hb2:HB cx C2.X res outs x2 d3u (fun s=>d3A i8 prog regs a8 a9 B5 at_ ins Q0 box)) (hr2:HR res outs x2 C2.R C2.O) (st2:j3 m8 Int Unit) (hc2:s5 x2 (fun s:Int=>j5 cx C2.X res outs c8K (c54 i8 prog regs a8 a9 B5 at_ ins Q0 box s)) st2) (a41:Int) (h:b3D regs ins Q0 box a41=some st2):j5 cx C2.X res outs c8K (c54 i8 prog regs a8 a9 B5 at_ ins Q0 box a41) :=
 P0<|rg<|i9 0 h (fun h=>rg<|C6 h fun y4 hy4 h=>w8 h fun e5 h=>ob (U1 hy4)<|ob e5<|om (((regs.set ins.A.toNat box.d6).map eI).flatten[a41.toNat]?=some (vi y4)) (c7P (fun _=>rfl) hy4)<|tl (0,{ a:=.val (vi y4) })<|rg<|m3 K5 M7 1 h fun N2 h=>i9 2 h (fun h=>rg<|Q6 V2 b1j 2 h fun b3U h=>om (C7 (V2.R b3U)∧F7 (V2.O b3U)) ⟨(by simp [V2,C7,a0k,U9,V.simple,vi,p6,eI,u6]),G4 1⟩<|o6 Q0<|(z4 h hc2 fun e=>o6 b3U<|z3 C2.h (hr2 _ e))) (fun h=>rg<|(w9 h hc2 fun hI=>om (V.agg (((regs.set ins.A.toNat box.d6).map eI).flatten.map (a04 [(1,0),(2,0),(3,0),(4,0),(5,0),(6,0),(7,0)])) = .agg ((regs.set ins.A.toNat box.d6).map eI).flatten) (congrArg V.agg (a89 (fun _=>rfl) _))<|sgT [] [0,1,4,5,6,7,161,162] [(1,0),(2,0),(3,0),(4,0),(5,0),(6,0),(7,0)] [(161,.agg ((regs.set ins.A.toNat box.d6).map eI).flatten)] hI))) (fun h=>(v6 h hc2 fun e=>sg [] [0,1,4,5,6,7] [(1,0),(2,0),(3,0),(4,0),(5,0),(6,0),(7,0)] (hb2 _ e)))
noncomputable def b7q (i8:List m4) (regs:List Int) (a8:List n7) (a9:List n3) (B5:List n3) (at_:Int) (ins:m7) (Q0:List n7):Option (j3 m8 ((List Int)×(List n7)×(List n3)×(List n7)×(List n3)×Int) ((List n7)×(List n3)×(List Int)×(List n7)×List n3)) :=
 ((idx i8 ins.B).bind fun box=>((idx regs ins.A).bind fun y3=>(u5 (ins.A<4) (((o9 (fun s:Int=>b3D regs ins Q0 box s) 0).bind fun x=>x.go (fun r=>some (j3.ret r)) fun s=>b8n regs a8 a9 B5 at_ ins Q0 box)))))
set_option maxRecDepth 20000 in
theorem e8x (i8:List m4) (prog:List m7) (regs:List Int) (a8:List n7) (a9:List n3) (B5:List n3) (at_:Int) (ins:m7) (res:V) (outs:s8) (x1:j8 m8 ((List n7)×(List n3)×(List Int)×(List n7)×List n3)) (hb1:HB cx C2.X res outs x1 a8y (fun s=>a8E s.1 s.2.1 s.2.2.1 s.2.2.2.1 s.2.2.2.2)) (hr1:HR res outs x1 C2.R C2.O) (st1:j3 m8 ((List Int)×(List n7)×(List n3)×(List n7)×(List n3)×Int) ((List n7)×(List n3)×(List Int)×(List n7)×List n3)) (hc1:s5 x1 (fun s:(List Int)×(List n7)×(List n3)×(List n7)×(List n3)×Int=>j5 cx C2.X res outs a7j (a6J i8 prog s.1 s.2.1 s.2.2.1 s.2.2.2.1 s.2.2.2.2.1 s.2.2.2.2.2)) st1) (Q0:List n7) (h:b7q i8 regs a8 a9 B5 at_ ins Q0=some st1):j5 cx C2.X res outs d9Q (d6d i8 prog regs a8 a9 B5 at_ ins Q0) :=
 P0<|rg<|u0 v5 5 h fun box a3M h=>C6 h fun y3 hy3 h=>w8 h fun e4 h=>ob (U1 hy3)<|ob e4<|om (s4.arr 177 1 4 ((regs.map eI).set (ins.A.toNat) [vi box.d6])=s4.arr 177 1 4 ((regs.set ins.A.toNat box.d6).map eI)) (a8r rfl)<|ob (a0P (enc:=eI) hy3)<|tl (9,{ a:=.rowck (eI y3) [],e:=some (.arr 177 1 4 ((regs.set ins.A.toNat box.d6).map eI)) })<|rg<|om (4 * 1=4) rfl<|x7 h fun x hl hr hb=>om (V.agg (((regs.set ins.A.toNat box.d6).map eI).flatten.map (a04 [(1,0),(2,0),(3,0),(4,0),(5,0),(6,0),(7,0)])) = .agg ((regs.set ins.A.toNat box.d6).map eI).flatten) (congrArg V.agg (a89 (fun _=>rfl) _))<|sgT [] [0,1,4,5,6,7,161,162] [(1,0),(2,0),(3,0),(4,0),(5,0),(6,0),(7,0)] [(161,.agg ((regs.set ins.A.toNat box.d6).map eI).flatten)] (x9 (I:=fun s:Int=>j5 cx C2.X res outs c8K (c54 i8 prog regs a8 a9 B5 at_ ins Q0 box s)) hl fun s st h hc=>e42 i8 prog regs a8 a9 B5 at_ ins Q0 box _ _ x (fun s e=>f2n i8 prog regs a8 a9 B5 at_ ins Q0 box res outs x1 hb1 hr1 st1 hc1 (hb s e)) (fun v e=>(hr1 _ (a1v (hr v e) hc1))) st hc s h)
noncomputable def d6c:List Item:=C2.k 13 [false,true,false,true,true]
noncomputable def d9z (i8:List m4) (prog:List m7) (a8:List n7) (a9:List n3) (z9:List n7) (regs2:List Int) (V8:List n3) (a0n:Int):St:=⟨(j9 2 v5 i8::(j9 4 A8 prog::(bs 2 (.ptr 1 0 0::(.ptr 4 0 0::(.ptr 5 0 0::(vi a0n::(bs 174 [])))))))),[some [],some [.var 45 [.own 2 0 2 0 a8.length,.own 3 0 2 0 a9.length,vi 0,vi 0]],some [m5 121 2 u6 a8],some [m5 124 2 u9 a9],some [.arr 177 1 4 (regs2.map eI)],some [.var 45 [.own 6 0 2 0 z9.length,.own 7 0 2 0 V8.length,vi 0,vi 0]],some [m5 121 2 u6 z9],some [m5 124 2 u9 V8]]⟩
noncomputable def d13:List Item:=C2.k 15 [false,true,false,true,true,false]
noncomputable def c9V (i8:List m4) (prog:List m7) (a8:List n7) (a9:List n3) (z9:List n7) (regs2:List Int) (V8:List n3) (a0n:Int):St:=⟨(j9 2 v5 i8::(j9 4 A8 prog::(bs 2 (.ptr 1 0 0::(.ptr 4 0 0::(.ptr 5 0 0::(vi a0n::(bs 174 [])))))))),[some [],some [.var 45 [.own 2 0 2 0 a8.length,.own 3 0 2 0 a9.length,vi 0,vi 0]],some [m5 121 2 u6 a8],some [m5 124 2 u9 a9],some [.arr 177 1 4 (regs2.map eI)],some [.var 45 [.own 6 0 2 0 z9.length,.own 7 0 2 0 V8.length,vi 0,vi 0]],some [m5 121 2 u6 z9],some [m5 124 2 u9 V8]]⟩
noncomputable def b4B (a8:List n7) (a9:List n3) (z9:List n7) (regs2:List Int) (V8:List n3) (a0n:Int):Option (j3 m8 ((List Int)×(List n7)×(List n3)×(List n7)×(List n3)×Int) ((List n7)×(List n3)×(List Int)×(List n7)×List n3)) :=
 some (j3.nxt (regs2,a8,a9,z9,V8,m9 (a0n+1)))
theorem e0T (i8:List m4) (prog:List m7) (a8:List n7) (a9:List n3) (z9:List n7) (regs2:List Int) (V8:List n3) (a0n:Int) (res:V) (outs:s8) (x1:j8 m8 ((List n7)×(List n3)×(List Int)×(List n7)×List n3)) (hb1:HB cx C2.X res outs x1 a8y (fun s=>a8E s.1 s.2.1 s.2.2.1 s.2.2.2.1 s.2.2.2.2)) (hr1:HR res outs x1 C2.R C2.O) (st1:j3 m8 ((List Int)×(List n7)×(List n3)×(List n7)×(List n3)×Int) ((List n7)×(List n3)×(List Int)×(List n7)×List n3)) (hc1:s5 x1 (fun s:(List Int)×(List n7)×(List n3)×(List n7)×(List n3)×Int=>j5 cx C2.X res outs a7j (a6J i8 prog s.1 s.2.1 s.2.2.1 s.2.2.2.1 s.2.2.2.2.1 s.2.2.2.2.2)) st1) (h:b4B a8 a9 z9 regs2 V8 a0n=some st1):j5 cx C2.X res outs d13 (c9V i8 prog a8 a9 z9 regs2 V8 a0n) :=
 P0<|rg<|(w9 h hc1 fun hI=>sg [] [0,1,4,5,6,7] [(1,0),(4,0),(5,0),(2,0),(3,0),(6,0),(7,0)] hI)
noncomputable def c5g:List Item:=C2.k 14 [false,true,false,true,true]
noncomputable def c3i (i8:List m4) (prog:List m7) (a8:List n7) (a9:List n3) (z9:List n7) (regs2:List Int) (V8:List n3) (a0n:Int) (a5t:Int):St:=⟨(j9 2 v5 i8::(j9 4 A8 prog::(bs 2 (.ptr 1 0 0::(.ptr 4 0 0::(.ptr 5 0 0::(vi a0n::(bs 153 (.agg (regs2.map eI).flatten::(vi a5t::(bs 19 []))))))))))),[some [],some [.var 45 [.own 2 0 2 0 a8.length,.own 3 0 2 0 a9.length,vi 0,vi 0]],some [m5 121 2 u6 a8],some [m5 124 2 u9 a9],some [.arr 177 1 4 (regs2.map eI)],some [.var 45 [.own 6 0 2 0 z9.length,.own 7 0 2 0 V8.length,vi 0,vi 0]],some [m5 121 2 u6 z9],some [m5 124 2 u9 V8]]⟩
noncomputable def b2Z (z9:List n7) (regs2:List Int) (a5t:Int):Option (j3 m8 Int Unit) :=
 (bif decide (a5t<4) then ((idx regs2 a5t).bind fun y5=>(u5 (a5t<4) (((K8 y5 (-1000000) 1000000).bind fun Q1=>(bif (!Q1) then ((a4C z9).bind fun b4k=>some (j3.ret (m8.mk b4k [] 0 2))) else some (j3.nxt (m9 (a5t+1)))))))) else some (j3.brk ()))
theorem e3y (i8:List m4) (prog:List m7) (a8:List n7) (a9:List n3) (z9:List n7) (regs2:List Int) (V8:List n3) (a0n:Int) (res:V) (outs:s8) (x2:j8 m8 Unit) (hb2:HB cx C2.X res outs x2 d13 (fun s=>c9V i8 prog a8 a9 z9 regs2 V8 a0n)) (hr2:HR res outs x2 C2.R C2.O) (st2:j3 m8 Int Unit) (hc2:s5 x2 (fun s:Int=>j5 cx C2.X res outs c5g (c3i i8 prog a8 a9 z9 regs2 V8 a0n s)) st2) (a5t:Int) (h:b2Z z9 regs2 a5t=some st2):j5 cx C2.X res outs c5g (c3i i8 prog a8 a9 z9 regs2 V8 a0n a5t) :=
 P0<|rg<|i9 0 h (fun h=>rg<|C6 h fun y5 hy5 h=>w8 h fun e7 h=>ob (U1 hy5)<|ob e7<|om ((regs2.map eI).flatten[a5t.toNat]?=some (vi y5)) (c7P (fun _=>rfl) hy5)<|tl (0,{ a:=.val (vi y5) })<|rg<|m3 K5 M7 1 h fun Q1 h=>i9 2 h (fun h=>rg<|Q6 V2 b1j 2 h fun b4k h=>om (C7 (V2.R b4k)∧F7 (V2.O b4k)) ⟨(by simp [V2,C7,a0k,U9,V.simple,vi,p6,eI,u6]),G4 1⟩<|o6 z9<|(z4 h hc2 fun e=>o6 b4k<|z3 C2.h (hr2 _ e))) (fun h=>rg<|(w9 h hc2 fun hI=>om (V.agg ((regs2.map eI).flatten.map (a04 [(1,0),(2,0),(3,0),(4,0),(5,0),(6,0),(7,0)])) = .agg (regs2.map eI).flatten) (congrArg V.agg (a89 (fun _=>rfl) _))<|sgT [] [0,1,4,5,6,7,161,162] [(1,0),(2,0),(3,0),(4,0),(5,0),(6,0),(7,0)] [(161,.agg (regs2.map eI).flatten)] hI))) (fun h=>(v6 h hc2 fun e=>sg [] [0,1,4,5,6,7] [(1,0),(2,0),(3,0),(4,0),(5,0),(6,0),(7,0)] (hb2 _ e)))
noncomputable def b1m (a8:List n7) (a9:List n3) (z9:List n7) (regs2:List Int) (V8:List n3) (a0n:Int):Option (j3 m8 ((List Int)×(List n7)×(List n3)×(List n7)×(List n3)×Int) ((List n7)×(List n3)×(List Int)×(List n7)×List n3)) :=
 ((o9 (fun s:Int=>b2Z z9 regs2 s) 0).bind fun x=>x.go (fun r=>some (j3.ret r)) fun s=>b4B a8 a9 z9 regs2 V8 a0n)
theorem e1Y (i8:List m4) (prog:List m7) (a8:List n7) (a9:List n3) (z9:List n7) (res:V) (outs:s8) (x1:j8 m8 ((List n7)×(List n3)×(List Int)×(List n7)×List n3)) (hb1:HB cx C2.X res outs x1 a8y (fun s=>a8E s.1 s.2.1 s.2.2.1 s.2.2.2.1 s.2.2.2.2)) (hr1:HR res outs x1 C2.R C2.O) (st1:j3 m8 ((List Int)×(List n7)×(List n3)×(List n7)×(List n3)×Int) ((List n7)×(List n3)×(List Int)×(List n7)×List n3)) (hc1:s5 x1 (fun s:(List Int)×(List n7)×(List n3)×(List n7)×(List n3)×Int=>j5 cx C2.X res outs a7j (a6J i8 prog s.1 s.2.1 s.2.2.1 s.2.2.2.1 s.2.2.2.2.1 s.2.2.2.2.2)) st1) (regs2:List Int) (V8:List n3) (a0n:Int) (h:b1m a8 a9 z9 regs2 V8 a0n=some st1):j5 cx C2.X res outs d6c (d9z i8 prog a8 a9 z9 regs2 V8 a0n) :=
 P0<|rg<|om (4 * 1=4) rfl<|x7 h fun x hl hr hb=>om (V.agg ((regs2.map eI).flatten.map (a04 [(1,0),(2,0),(3,0),(4,0),(5,0),(6,0),(7,0)])) = .agg (regs2.map eI).flatten) (congrArg V.agg (a89 (fun _=>rfl) _))<|sgT [] [0,1,4,5,6,7,161,162] [(1,0),(2,0),(3,0),(4,0),(5,0),(6,0),(7,0)] [(161,.agg (regs2.map eI).flatten)] (x9 (I:=fun s:Int=>j5 cx C2.X res outs c5g (c3i i8 prog a8 a9 z9 regs2 V8 a0n s)) hl fun s st h hc=>e3y i8 prog a8 a9 z9 regs2 V8 a0n _ _ x (fun s e=>e0T i8 prog a8 a9 z9 regs2 V8 a0n res outs x1 hb1 hr1 st1 hc1 (hb s e)) (fun v e=>(hr1 _ (a1v (hr v e) hc1))) st hc s h)
noncomputable def a4p (i8:List m4) (prog:List m7) (regs:List Int) (a8:List n7) (a9:List n3) (z9:List n7) (B5:List n3) (at_:Int):Option (j3 m8 ((List Int)×(List n7)×(List n3)×(List n7)×(List n3)×Int) ((List n7)×(List n3)×(List Int)×(List n7)×List n3)) :=
 (bif decide (at_<(prog.length:Int)) then ((idx prog at_).bind fun ins=>(bif (ins.c9==1) then ((b42 (m8.mk z9 B5 0 0) ins.B).bind fun a1y=>(bif decide (a1y≥0) then ((idx B5 a1y).bind fun D9=>((idx regs ins.A).bind fun y1=>(u5 (ins.A<4) (((o9 (fun s:Int=>b4c regs z9 ins D9 s) 0).bind fun x=>x.go (fun r=>some (j3.ret r)) fun s=>c1q regs a8 a9 z9 B5 at_ ins D9))))) else ((((b2R (m8.mk z9 B5 0 0) ins.B).bind fun b5C=>(bif decide (b5C<0) then ((idx i8 ins.B).bind fun V7=>(u5 ((z9.length+1) * 16≤140737488355328) (some (j8.brk (z9++[(n7.mk ins.B V7.i7)]))))) else some (j8.brk z9))):Option (j8 (j3 m8 ((List Int)×(List n7)×(List n3)×(List n7)×(List n3)×Int) ((List n7)×(List n3)×(List Int)×(List n7)×List n3)) (List n7))).bind fun x=>x.go some fun j=>b7q i8 regs a8 a9 B5 at_ ins j))) else (((bif (ins.c9==2) then ((b42 (m8.mk z9 B5 0 0) ins.A).bind fun a7A=>(bif decide (a7A≥0) then ((idx regs ins.B).bind fun y6=>(u5 (ins.B<4) (((idx B5 a7A).bind fun a0K=>some (j8.brk (regs,B5.set a7A.toNat (n3.mk a0K.f0 y6),at_)))))) else ((idx regs ins.B).bind fun y7=>(u5 (ins.B<4) ((u5 ((B5.length+1) * 16≤140737488355328) (some (j8.brk (regs,B5++[(n3.mk ins.A y7)],at_))))))))) else (bif (ins.c9==3) then ((idx regs ins.A).bind fun y8=>(u5 (ins.A<4) (some (j8.brk (regs.set ins.A.toNat ins.N,B5,at_))))) else (bif (ins.c9==4) then ((idx regs ins.A).bind fun y9=>(u5 (ins.A<4) (((idx regs ins.B).bind fun y10=>(u5 (ins.B<4) ((u5 (ins.A<4) (some (j8.brk (regs.set ins.A.toNat (m9 (y9+y10)),B5,at_)))))))))) else (bif (ins.c9==5) then ((idx regs ins.A).bind fun y11=>(u5 (ins.A<4) (((idx regs ins.B).bind fun y12=>(u5 (ins.B<4) ((u5 (ins.A<4) (some (j8.brk (regs.set ins.A.toNat (m9 (y11 - y12)),B5,at_)))))))))) else (bif (ins.c9==6) then ((idx regs ins.A).bind fun y13=>(u5 (ins.A<4) (((idx regs ins.B).bind fun y14=>(u5 (ins.B<4) ((bif decide (y13<y14) then some (j8.brk (regs,B5,m9 (at_+ins.N))) else some (j8.brk (regs,B5,at_))))))))) else (bif (ins.c9==7) then ((a4C z9).bind fun b3R=>some (j8.ret (j3.ret (m8.mk b3R [] 0 1)))) else some (j8.brk (regs,B5,at_)))))))):Option (j8 (j3 m8 ((List Int)×(List n7)×(List n3)×(List n7)×(List n3)×Int) ((List n7)×(List n3)×(List Int)×(List n7)×List n3)) ((List Int)×(List n3)×Int))).bind fun x=>x.go some fun j=>b1m a8 a9 z9 j.1 j.2.1 j.2.2))) else some (j3.brk (a8,a9,regs,z9,B5)))
set_option maxRecDepth 20000 in
theorem e6z (i8:List m4) (prog:List m7) (res:V) (outs:s8) (x1:j8 m8 ((List n7)×(List n3)×(List Int)×(List n7)×List n3)) (hb1:HB cx C2.X res outs x1 a8y (fun s=>a8E s.1 s.2.1 s.2.2.1 s.2.2.2.1 s.2.2.2.2)) (hr1:HR res outs x1 C2.R C2.O) (st1:j3 m8 ((List Int)×(List n7)×(List n3)×(List n7)×(List n3)×Int) ((List n7)×(List n3)×(List Int)×(List n7)×List n3)) (hc1:s5 x1 (fun s:(List Int)×(List n7)×(List n3)×(List n7)×(List n3)×Int=>j5 cx C2.X res outs a7j (a6J i8 prog s.1 s.2.1 s.2.2.1 s.2.2.2.1 s.2.2.2.2.1 s.2.2.2.2.2)) st1) (regs:List Int) (a8:List n7) (a9:List n3) (z9:List n7) (B5:List n3) (at_:Int) (h:a4p i8 prog regs a8 a9 z9 B5 at_=some st1):j5 cx C2.X res outs a7j (a6J i8 prog regs a8 a9 z9 B5 at_) :=
 P0<|rg<|i9 3 h (fun h=>rg<|u0 A8 2 h fun ins hins h=>p7<|i9 1 h (fun h=>rg<|Q6 S9 d04 3 h fun a1y h=>om (C7 (S9.R a1y)∧F7 (S9.O a1y)) ⟨rfl,G4 2⟩<|J3 z9 B5<|rg<|i9 1 h (fun h=>rg<|C6 h fun D9 b4m h=>E2 b4m<|V3 u9 7 b4m<|C6 h fun y1 hy1 h=>w8 h fun e2 h=>ob (U1 hy1)<|ob e2<|om (s4.arr 177 1 4 ((regs.map eI).set (ins.A.toNat) [vi D9.d6])=s4.arr 177 1 4 ((regs.set ins.A.toNat D9.d6).map eI)) (a8r rfl)<|ob (a0P (enc:=eI) hy1)<|tl (9,{ a:=.rowck (eI y1) [],e:=some (.arr 177 1 4 ((regs.set ins.A.toNat D9.d6).map eI)) })<|rg<|om (4 * 1=4) rfl<|x7 h fun x hl hr hb=>om (V.agg (((regs.set ins.A.toNat D9.d6).map eI).flatten.map (a04 [(1,0),(4,0),(5,0),(2,0),(3,0),(6,0),(7,0)])) = .agg ((regs.set ins.A.toNat D9.d6).map eI).flatten) (congrArg V.agg (a89 (fun _=>rfl) _))<|sgT [] [0,1,4,5,6,7,161,162] [(1,0),(4,0),(5,0),(2,0),(3,0),(6,0),(7,0)] [(161,.agg ((regs.set ins.A.toNat D9.d6).map eI).flatten)] (x9 (I:=fun s:Int=>j5 cx C2.X res outs c6W (c77 i8 prog regs a8 a9 z9 B5 at_ ins D9 s)) hl fun s st h hc=>e6Y i8 prog regs a8 a9 z9 B5 at_ ins D9 _ _ x (fun s e=>f1n i8 prog regs a8 a9 z9 B5 at_ ins D9 res outs x1 hb1 hr1 st1 hc1 (hb s e)) (fun v e=>(hr1 _ (a1v (hr v e) hc1))) st hc s h)) (fun h=>E1 (I:=fun j:List n7=>j5 cx C2.X res outs d9Q (d6d i8 prog regs a8 a9 B5 at_ ins j)) h (fun j h=>e8x i8 prog regs a8 a9 B5 at_ ins res outs x1 hb1 hr1 st1 hc1 j h) (fun x2 h hc2=>rg<|Q6 W3 f4d 3 h fun b5C h=>om (C7 (W3.R b5C)∧F7 (W3.O b5C)) ⟨rfl,G4 2⟩<|J3 z9 B5<|i9 4 h (fun h=>rg<|u0 v5 7 h fun V7 a7G h=>tl (11,{ a:=.ck [] })<|w8 h fun e6 h=>M9 12 46 121 2 16 u6 z9 (n7.mk ins.B V7.i7) e6<|om (1=[(n7.mk ins.B V7.i7)].length) (by rfl)<|(s6 h hc2 fun hI=>sg [] [0,1,4,5,6,7,8] [(1,0),(4,0),(5,0),(2,0),(3,0),(46,0),(7,0),(16,0)] hI)) (fun h=>(s6 h hc2 fun hI=>sg [] [0,1,4,5,6,7,8] [(1,0),(4,0),(5,0),(2,0),(3,0),(6,0),(7,0),(16,0)] hI))))) (fun h=>E1 (I:=fun j:(List Int)×(List n3)×Int=>j5 cx C2.X res outs d6c (d9z i8 prog a8 a9 z9 j.1 j.2.1 j.2.2)) h (fun j h=>e1Y i8 prog a8 a9 z9 res outs x1 hb1 hr1 st1 hc1 j.1 j.2.1 j.2.2 h) (fun x2 h hc2=>rg<|i9 1 h (fun h=>rg<|Q6 S9 d04 3 h fun a7A h=>om (C7 (S9.R a7A)∧F7 (S9.O a7A)) ⟨rfl,G4 2⟩<|J3 z9 B5<|rg<|i9 1 h (fun h=>rg<|C6 h fun y6 hy6 h=>w8 h fun e8 h=>ob (U1 hy6)<|ob e8<|ob (a0P (enc:=eI) hy6)<|tl (tr 6 (eI y6))<|C6 h fun a0K d07 h=>E2 d07<|stR 124 2 u9 9 [] (n3.mk a0K.f0 y6) d07<|(s6 h hc2 fun hI=>om ((.own 7 0 2 0 B5.length:V) = .own 7 0 2 0 (B5.set a7A.toNat (n3.mk a0K.f0 y6)).length) (by simp)<|sg [.is (.cell 3 0 1) (.own 7 0 2 0 (B5.set a7A.toNat (n3.mk a0K.f0 y6)).length)] [0,1,4,5,6,7] [(1,0),(4,0),(5,0),(2,0),(3,0),(6,0),(7,0)] hI)) (fun h=>rg<|C6 h fun y7 hy7 h=>w8 h fun e9 h=>ob (U1 hy7)<|ob e9<|ob (a0P (enc:=eI) hy7)<|tl (tr 7 (eI y7))<|tl (9,{ a:=.ck [] })<|w8 h fun e10 h=>M9 10 41 124 2 16 u9 B5 (n3.mk ins.A y7) e10<|om (1=[(n3.mk ins.A y7)].length) (by rfl)<|(s6 h hc2 fun hI=>sg [] [0,1,4,5,6,7] [(1,0),(4,0),(5,0),(2,0),(3,0),(6,0),(41,0)] hI))) (fun h=>rg<|i9 1 h (fun h=>rg<|C6 h fun y8 hy8 h=>w8 h fun e11 h=>ob (U1 hy8)<|ob e11<|om (s4.arr 177 1 4 ((regs.map eI).set (ins.A.toNat) [vi ins.N])=s4.arr 177 1 4 ((regs.set ins.A.toNat ins.N).map eI)) (a8r rfl)<|ob (a0P (enc:=eI) hy8)<|tl (5,{ a:=.rowck (eI y8) [],e:=some (.arr 177 1 4 ((regs.set ins.A.toNat ins.N).map eI)) })<|(s6 h hc2 fun hI=>sg [] [0,1,4,5,6,7] [(1,0),(4,0),(5,0),(2,0),(3,0),(6,0),(7,0)] hI)) (fun h=>rg<|i9 1 h (fun h=>rg<|C6 h fun y9 hy9 h=>w8 h fun e12 h=>ob (U1 hy9)<|ob e12<|ob (a0P (enc:=eI) hy9)<|tl (tr 3 (eI y9))<|C6 h fun y10 d2n h=>w8 h fun e13 h=>ob (U1 d2n)<|ob e13<|ob (a0P (enc:=eI) d2n)<|tl (tr 7 (eI y10))<|w8 h fun e14 h=>ob (U1 hy9)<|ob e14<|om (s4.arr 177 1 4 ((regs.map eI).set (ins.A.toNat) [vi (m9 (y9+y10))])=s4.arr 177 1 4 ((regs.set ins.A.toNat (m9 (y9+y10))).map eI)) (a8r rfl)<|ob (a0P (enc:=eI) hy9)<|tl (10,{ a:=.rowck (eI y9) [],e:=some (.arr 177 1 4 ((regs.set ins.A.toNat (m9 (y9+y10))).map eI)) })<|(s6 h hc2 fun hI=>sg [] [0,1,4,5,6,7] [(1,0),(4,0),(5,0),(2,0),(3,0),(6,0),(7,0)] hI)) (fun h=>rg<|i9 1 h (fun h=>rg<|C6 h fun y11 b6S h=>w8 h fun e15 h=>ob (U1 b6S)<|ob e15<|ob (a0P (enc:=eI) b6S)<|tl (tr 3 (eI y11))<|C6 h fun y12 c98 h=>w8 h fun e16 h=>ob (U1 c98)<|ob e16<|ob (a0P (enc:=eI) c98)<|tl (tr 7 (eI y12))<|w8 h fun e17 h=>ob (U1 b6S)<|ob e17<|om (s4.arr 177 1 4 ((regs.map eI).set (ins.A.toNat) [vi (m9 (y11 - y12))])=s4.arr 177 1 4 ((regs.set ins.A.toNat (m9 (y11 - y12))).map eI)) (a8r rfl)<|ob (a0P (enc:=eI) b6S)<|tl (10,{ a:=.rowck (eI y11) [],e:=some (.arr 177 1 4 ((regs.set ins.A.toNat (m9 (y11 - y12))).map eI)) })<|(s6 h hc2 fun hI=>sg [] [0,1,4,5,6,7] [(1,0),(4,0),(5,0),(2,0),(3,0),(6,0),(7,0)] hI)) (fun h=>rg<|i9 1 h (fun h=>rg<|C6 h fun y13 d6x h=>w8 h fun e18 h=>ob (U1 d6x)<|ob e18<|ob (a0P (enc:=eI) d6x)<|tl (tr 3 (eI y13))<|C6 h fun y14 d5q h=>w8 h fun e19 h=>ob (U1 d5q)<|ob e19<|ob (a0P (enc:=eI) d5q)<|tl (tr 7 (eI y14))<|i9 8 h (fun h=>rg<|(s6 h hc2 fun hI=>sg [] [0,1,4,5,6,7] [(1,0),(4,0),(5,0),(2,0),(3,0),(6,0),(7,0)] hI)) (fun h=>(s6 h hc2 fun hI=>sg [] [0,1,4,5,6,7] [(1,0),(4,0),(5,0),(2,0),(3,0),(6,0),(7,0)] hI))) (fun h=>rg<|i9 1 h (fun h=>rg<|Q6 V2 b1j 2 h fun b3R h=>om (C7 (V2.R b3R)∧F7 (V2.O b3R)) ⟨(by simp [V2,C7,a0k,U9,V.simple,vi,p6,eI,u6]),G4 1⟩<|o6 z9<|(D6 h hc2 fun h=>(z4 h hc1 fun e=>o6 b3R<|z3 C2.h (hr1 _ e)))) (fun h=>(s6 h hc2 fun hI=>sg [] [0,1,4,5,6,7] [(1,0),(4,0),(5,0),(2,0),(3,0),(6,0),(7,0)] hI)))))))))) (fun h=>(v6 h hc1 fun e=>sg [] [4,5,6] [(1,0),(4,0),(5,0),(2,0),(3,0),(6,0),(7,0)] (hb1 _ e)))
noncomputable def b69 (i8:List m4) (prog:List m7):Option m8 :=
 ((a70 i8).bind fun Y0=>(bif (!Y0) then some (m8.mk [] [] 0 3) else ((a9T prog).bind fun I8=>(bif (!I8) then some (m8.mk [] [] 0 3) else ((o9 (fun s:(List Int)×(List n7)×(List n3)×(List n7)×(List n3)×Int=>a4p i8 prog s.1 s.2.1 s.2.2.1 s.2.2.2.1 s.2.2.2.2.1 s.2.2.2.2.2) (List.replicate 4 (0:Int),[],[],[],[],0)).bind fun x=>x.go (fun r=>some r) fun s=>b2J s.1 s.2.1 s.2.2.1 s.2.2.2.1 s.2.2.2.2)))))
theorem e0J {i8:List m4} {prog:List m7} (r:m8) (h:b69 i8 prog=some r):o7 cx.P 133 [j9 2 v5 i8,j9 4 A8 prog] (C2.R r) (C2.O r) :=
 q8 C2.X C2.c C2.h (fun z=>p7<|m3 T3 b5a 1 h fun Y0 h=>i9 3 h (fun h=>rg<|fe z h) (fun h=>m3 V5 c7Y 5 h fun I8 h=>i9 7 h (fun h=>rg<|fe z h) (fun h=>rg<|om ((List.replicate 4 ([vi 0]:List V)).flatten=[vi 0,vi 0,vi 0,vi 0]∧([vi 0]:List V).length=1) ⟨rfl,rfl⟩<|p7<|x7 h fun x hl hr hb=>sg [.own (.cell 1 0 0) 121 2,.own (.cell 1 0 1) 124 2,.own (.cell 12 0 0) 121 2,.own (.cell 12 0 1) 124 2] [0,1,4,5,6,7] [(1,0),(10,0),(12,0),(15,0),(16,0),(17,0),(18,0)] (x9 (I:=fun s:(List Int)×(List n7)×(List n3)×(List n7)×(List n3)×Int=>j5 cx C2.X (C2.R r) (C2.O r) a7j (a6J i8 prog s.1 s.2.1 s.2.2.1 s.2.2.2.1 s.2.2.2.2.1 s.2.2.2.2.2)) hl fun s st h hc=>e6z i8 prog _ _ x (fun s e=>f2k r s.1 s.2.1 s.2.2.1 s.2.2.2.1 s.2.2.2.2 (hb s e)) (fun v e=>⟨congrArg C2.R (Option.some.inj (hr v e)).symm,congrArg C2.O (Option.some.inj (hr v e)).symm⟩) st hc s.1 s.2.1 s.2.2.1 s.2.2.2.1 s.2.2.2.2.1 s.2.2.2.2.2 h))))
noncomputable def b0w:FS ((List m4)×Int×Int):=⟨97,Tryz.f97,[.val [some 2] [],.val [] [],.val [] []],[none,none],[.val [some 2] [],.val [some 4] []],fun r=>.tup [j9 2 v5 r.1,vi r.2.1,vi r.2.2],fun _=>[none,none],Tryz.func97⟩
noncomputable def b6P (i8:List m4) (prog:List m7):Option ((List m4)×Int×Int) :=
 ((b69 i8 prog).bind fun E9=>(bif (E9.Code==3) then some ([],0,3) else ((b4h i8 E9).bind fun b1W=>some (b1W,E9.d6,E9.Code))))
theorem e4K {i8:List m4} {prog:List m7} (r:(List m4)×Int×Int) (h:b6P i8 prog=some r):o7 cx.P 97 [j9 2 v5 i8,j9 4 A8 prog] (b0w.R r) (b0w.O r) :=
 q8 b0w.X b0w.c b0w.h (fun z=>p7<|m3 C2 e0J 2 h fun E9 h=>rg<|i9 2 h (fun h=>rg<|fe z h) (fun h=>rg<|m3 X8 d8r 2 h fun b1W h=>o6 b1W<|fe z h))
noncomputable def a6r:FS (List Int):=⟨98,Tryz.f98,[.val [some 1] [some 3]],[none],[.val [some 1] []],fun r=>p6 3 1 eI r,fun _=>[none],Tryz.func98⟩
noncomputable def b7F (i8:List Int):Option (List Int) :=
 (bif ((i8.length:Int)==0) then some [] else (u5 (0≤(i8.length:Int)∧(i8.length:Int) * 8≤140737488355328) ((u5 (i8.length=(List.replicate (i8.length:Int).toNat (0:Int)).length) (some i8)))))
theorem e9r {i8:List Int} (r:List Int) (h:b7F i8=some r):o7 cx.P 98 [j9 1 eI i8] (a6r.R r) (a6r.O r) :=
 q8 a6r.X a6r.c a6r.h (fun z=>p7<|i9 2 h (fun h=>rg<|fe z h) (fun h=>rg<|w8 h fun e1 h=>mkS 2 7 3 1 8 eI (0:Int) ti3 (.none) e1 (by decide) (by rfl)<|rg<|w8 h fun e2 h=>om (s4.row 3 1 (List.replicate (i8.length:Int).toNat (0:Int)).length (i8.map eI)=m5 3 1 eI i8) (a7c e2)<|o6 (List.replicate (i8.length:Int).toNat (0:Int))<|ob e2<|tl (2,{ e:=some (m5 3 1 eI i8) })<|rg<|om ((List.replicate (i8.length:Int).toNat (0:Int)).length=i8.length) (by simp)<|fe z h))
noncomputable def Y2:FS ((List m4)×List Int):=⟨51,Tryz.f51,[.val [some 2] [],.val [some 1] []],[none,none],[.val [some 2] [],.val [some 1] []],fun r=>.tup [j9 2 v5 r.1,j9 1 eI r.2],fun _=>[none,none],Tryz.func51⟩
noncomputable def c9y:List Item:=Y2.k 6 [false,false]
noncomputable def d1v (a6A:List Int) (b1f:List m4):St:=⟨(bs 6 (j9 2 v5 b1f::(.own 1 0 1 0 a6A.length::(bs 39 [])))),[some [],some [m5 3 1 eI a6A]]⟩
noncomputable def b9S (a6A:List Int) (b1f:List m4):Option ((List m4)×List Int) :=
 ((b7F a6A).bind fun int=>some (b1f,int))
theorem e5k (r:(List m4)×List Int) (a6A:List Int) (b1f:List m4) (h:b9S a6A b1f=some r):j5 cx Y2.X (Y2.R r) (Y2.O r) c9y (d1v a6A b1f) :=
 P0<|rg<|Q6 a6r e9r 2 h fun int h=>om (C7 (a6r.R int)∧F7 (a6r.O int)) ⟨(by simp [a6r,C7,a0k,U9,V.simple,vi,p6,eI]),G4 1⟩<|J3 a6A int<|fe Y2.h h
noncomputable def c7f:List Item:=Y2.k 5 [false]
noncomputable def c6O (A7:List (List m7)) (a35:List Int) (v25:Int) (now:List m4):St:=⟨(bs 6 (j9 2 v5 now::(.own 1 0 1 0 a35.length::(bs 15 (j9 1 a3x A7::(vi (A7.length:Int)::(vi v25::(bs 21 [])))))))),[some [],some [m5 3 1 eI a35]]⟩
noncomputable def a99 (A7:List (List m7)) (a35:List Int) (v25:Int) (now:List m4):Option (j3 ((List m4)×List Int) ((List Int)×Int×List m4) ((List Int)×List m4)) :=
 (bif decide (v25<(A7.length:Int)) then ((idx A7 v25).bind fun y=>((b6P now y).bind fun M5=>(bif (M5.2.2==3) then some (j3.ret ([],[])) else (u5 ((a35.length+1) * 8≤140737488355328) (some (j3.nxt (a35++[M5.2.1],m9 (v25+1),M5.1))))))) else some (j3.brk (a35,now)))
theorem e31 (A7:List (List m7)) (res:V) (outs:s8) (x1:j8 ((List m4)×List Int) ((List Int)×List m4)) (hb1:HB cx Y2.X res outs x1 c9y (fun s=>d1v s.1 s.2)) (hr1:HR res outs x1 Y2.R Y2.O) (st1:j3 ((List m4)×List Int) ((List Int)×Int×List m4) ((List Int)×List m4)) (hc1:s5 x1 (fun s:(List Int)×Int×List m4=>j5 cx Y2.X res outs c7f (c6O A7 s.1 s.2.1 s.2.2)) st1) (a35:List Int) (v25:Int) (now:List m4) (h:a99 A7 a35 v25 now=some st1):j5 cx Y2.X res outs c7f (c6O A7 a35 v25 now) :=
 P0<|rg<|i9 0 h (fun h=>rg<|u0 a3x 0 h fun y hy h=>rg<|m3 b0w e4K 2 h fun M5 h=>rg<|i9 1 h (fun h=>rg<|(z4 h hc1 fun e=>z3 Y2.h (hr1 _ e))) (fun h=>p7<|tl (2,{ a:=.ck [] })<|w8 h fun e1 h=>M9 3 23 3 1 8 eI a35 M5.2.1 e1<|om (1=[M5.2.1].length) (by rfl)<|rg<|(w9 h hc1 fun hI=>sg [] [6,7,23,24,25] [(23,0)] hI))) (fun h=>(v6 h hc1 fun e=>sg [] [6,7] [(1,0)] (hb1 _ e)))
noncomputable def b9H (i8:List m4) (A7:List (List m7)):Option ((List m4)×List Int) :=
 ((a70 i8).bind fun Y0=>(bif (!Y0) then some ([],[]) else (bif decide ((A7.length:Int)>100) then some ([],[]) else ((a9z i8).bind fun box=>((o9 (fun s:(List Int)×Int×List m4=>a99 A7 s.1 s.2.1 s.2.2) ([],0,box)).bind fun x=>x.go (fun r=>some r) fun s=>b9S s.1 s.2)))))
theorem e3w {i8:List m4} {A7:List (List m7)} (r:(List m4)×List Int) (h:b9H i8 A7=some r):o7 cx.P 51 [j9 2 v5 i8,j9 1 a3x A7] (Y2.R r) (Y2.O r) :=
 q8 Y2.X Y2.c Y2.h (fun z=>p7<|m3 T3 b5a 1 h fun Y0 h=>i9 3 h (fun h=>rg<|fe z h) (fun h=>i9 7 h (fun h=>rg<|fe z h) (fun h=>rg<|m3 a7z c4b 1 h fun box h=>p7<|x7 h fun x hl hr hb=>o6 box<|sg [.frz (.tmp 6) (none),.own (.tmp 7) 3 1] [6,7,23,24,25] [(18,0)] (x9 (I:=fun s:(List Int)×Int×List m4=>j5 cx Y2.X (Y2.R r) (Y2.O r) c7f (c6O A7 s.1 s.2.1 s.2.2)) hl fun s st h hc=>e31 A7 _ _ x (fun s e=>e5k r s.1 s.2 (hb s e)) (fun v e=>⟨congrArg Y2.R (Option.some.inj (hr v e)).symm,congrArg Y2.O (Option.some.inj (hr v e)).symm⟩) st hc s.1 s.2.1 s.2.2 h))))
noncomputable def b2o:FS (q7):=⟨54,Tryz.f54,[.val [none,some 2,some 4] [none,some 132,none]],[none],[.val [some 7] []],fun r=>.agg [vi r.At,p6 132 2 v5 r.d8,j9 4 C4 r.g8],fun _=>[none],Tryz.func54⟩
noncomputable def c0j (i8:List l8):Option q7 :=
 ((b0d i8).bind fun L0=>(bif (!L0) then some (q7.mk 0 [] []) else ((b1U i8).bind fun r9=>some r9.1)))
theorem f02 {i8:List l8} (r:q7) (h:c0j i8=some r):o7 cx.P 54 [j9 7 p8 i8] (b2o.R r) (b2o.O r) :=
 q8 b2o.X b2o.c b2o.h (fun z=>p7<|m3 V9 c6n 1 h fun L0 h=>i9 2 h (fun h=>rg<|fe z h) (fun h=>rg<|m3 X1 c1r 1 h fun r9 h=>rg<|J3 r9.1.d8 r9.1.g8<|fe z h))
noncomputable def a0e:FS (Bool):=⟨99,Tryz.f99,[.val [] []],[none,none],[.val [some 2] [],.val [some 2] []],fun r=>.b r,fun _=>[none,none],Tryz.func99⟩
noncomputable def d96:List Item:=a0e.k 4 [false,false]
noncomputable def d6g:St:=⟨(bs 26 []),[some []]⟩
noncomputable def c9s:Option Bool :=
 some true
theorem f1L (r:Bool) (h:c9s=some r):j5 cx a0e.X (a0e.R r) (a0e.O r) d96 (d6g) :=
 P0<|rg<|fe a0e.h h
noncomputable def c2Q:List Item:=a0e.k 3 [false]
noncomputable def c4h (a:List m4) (b:List m4) (v13:Int):St:=⟨(j9 2 v5 a::(j9 2 v5 b::(bs 10 (vi (a.length:Int)::(vi v13::(bs 12 [])))))),[some []]⟩
noncomputable def b9w (a:List m4) (b:List m4) (v13:Int):Option (j3 Bool Int Unit) :=
 (bif decide (v13<(a.length:Int)) then ((idx a v13).bind fun box=>((idx b v13).bind fun V7=>(bif (!(([box.i7,box.d6]:List Int)==[V7.i7,V7.d6])) then some (j3.ret false) else some (j3.nxt (m9 (v13+1)))))) else some (j3.brk ()))
theorem e3X (a:List m4) (b:List m4) (res:V) (outs:s8) (x1:j8 Bool Unit) (hb1:HB cx a0e.X res outs x1 d96 (fun s=>d6g)) (hr1:HR res outs x1 a0e.R a0e.O) (st1:j3 Bool Int Unit) (hc1:s5 x1 (fun s:Int=>j5 cx a0e.X res outs c2Q (c4h a b s)) st1) (v13:Int) (h:b9w a b v13=some st1):j5 cx a0e.X res outs c2Q (c4h a b v13) :=
 P0<|rg<|i9 0 h (fun h=>p7<|u0 v5 2 h fun box a3M h=>u0 v5 6 h fun V7 a7G h=>i9 8 h (fun h=>rg<|(z4 h hc1 fun e=>z3 a0e.h (hr1 _ e))) (fun h=>rg<|(w9 h hc1 fun hI=>sg [] [0,1,12,13] [] hI))) (fun h=>(v6 h hc1 fun e=>sg [] [] [] (hb1 _ e)))
noncomputable def c8P (a:List m4) (b:List m4):Option Bool :=
 (bif ((a.length:Int) != (b.length:Int)) then some false else ((o9 (fun s:Int=>b9w a b s) 0).bind fun x=>x.go (fun r=>some r) fun s=>c9s))
theorem e76 {a:List m4} {b:List m4} (r:Bool) (h:c8P a b=some r):o7 cx.P 99 [j9 2 v5 a,j9 2 v5 b] (a0e.R r) (a0e.O r) :=
 q8 a0e.X a0e.c a0e.h (fun z=>p7<|i9 4 h (fun h=>rg<|fe z h) (fun h=>rg<|x7 h fun x hl hr hb=>sg [] [0,1,12,13] [] (x9 (I:=fun s:Int=>j5 cx a0e.X (a0e.R r) (a0e.O r) c2Q (c4h a b s)) hl fun s st h hc=>e3X a b _ _ x (fun s e=>f1L r (hb s e)) (fun v e=>⟨congrArg a0e.R (Option.some.inj (hr v e)).symm,congrArg a0e.O (Option.some.inj (hr v e)).symm⟩) st hc s h)))
noncomputable def a62:FS (Bool):=⟨53,Tryz.f53,[.val [] []],[none,none],[.val [some 2] [],.val [some 2] []],fun r=>.b r,fun _=>[none,none],Tryz.func53⟩
noncomputable def b7z (a:List m4) (b:List m4):Option Bool :=
 ((c8P a b).bind fun box=>some box)
theorem e0C {a:List m4} {b:List m4} (r:Bool) (h:b7z a b=some r):o7 cx.P 53 [j9 2 v5 a,j9 2 v5 b] (a62.R r) (a62.O r) :=
 q8 a62.X a62.c a62.h (fun z=>p7<|m3 a0e e76 2 h fun box h=>fe z h)
noncomputable def P5:FS (Int):=⟨55,Tryz.f55,[.val [] []],[none,none],[.val [some 7] [],.val [] []],fun r=>vi r,fun _=>[none,none],Tryz.func55⟩
noncomputable def c3V:List Item:=P5.k 3 [false]
noncomputable def c7z:St:=⟨(bs 25 []),[some []]⟩
noncomputable def d5H:Option Int :=
 some (-1)
theorem e7G (r:Int) (h:d5H=some r):j5 cx P5.X (P5.R r) (P5.O r) c3V (c7z) :=
 P0<|rg<|fe P5.h h
noncomputable def b8B:List Item:=P5.k 2 []
noncomputable def b6v (i8:List l8) (q:n5) (v9:Int):St:=⟨(bs 3 (.ptr 1 0 0::(bs 3 (j9 7 p8 i8::(vi (i8.length:Int)::(vi v9::(bs 15 []))))))),[some [],some [.var 41 [vi q.c8,vi q.Seq]]]⟩
noncomputable def d4X:List Item:=P5.k 5 [true,false]
noncomputable def d9d (i8:List l8) (q:n5) (v9:Int):St:=⟨(bs 3 (.ptr 1 0 0::(bs 3 (j9 7 p8 i8::(vi (i8.length:Int)::(vi v9::(bs 15 []))))))),[some [],some [.var 41 [vi q.c8,vi q.Seq]]]⟩
noncomputable def c2h (v9:Int):Option (j3 Int Int Unit) :=
 some (j3.nxt (m9 (v9+1)))
theorem e6l (i8:List l8) (q:n5) (v9:Int) (res:V) (outs:s8) (x1:j8 Int Unit) (hb1:HB cx P5.X res outs x1 c3V (fun s=>c7z)) (hr1:HR res outs x1 P5.R P5.O) (st1:j3 Int Int Unit) (hc1:s5 x1 (fun s:Int=>j5 cx P5.X res outs b8B (b6v i8 q s)) st1) (h:c2h v9=some st1):j5 cx P5.X res outs d4X (d9d i8 q v9) :=
 P0<|rg<|(w9 h hc1 fun hI=>sg [] [3,7,8,9] [(1,0)] hI)
noncomputable def b12 (i8:List l8) (q:n5) (v9:Int):Option (j3 Int Int Unit) :=
 (bif decide (v9<(i8.length:Int)) then ((idx i8 v9).bind fun z8=>(((bif (!z8.i0) then (bif (([z8.a5.c8,z8.a5.Seq]:List Int)==[q.c8,q.Seq]) then some (j8.ret (j3.ret v9)) else some (j8.brk ())) else some (j8.brk ())):Option (j8 (j3 Int Int Unit) Unit)).bind fun x=>x.go some fun j=>c2h v9)) else some (j3.brk ()))
theorem e90 (i8:List l8) (q:n5) (res:V) (outs:s8) (x1:j8 Int Unit) (hb1:HB cx P5.X res outs x1 c3V (fun s=>c7z)) (hr1:HR res outs x1 P5.R P5.O) (st1:j3 Int Int Unit) (hc1:s5 x1 (fun s:Int=>j5 cx P5.X res outs b8B (b6v i8 q s)) st1) (v9:Int) (h:b12 i8 q v9=some st1):j5 cx P5.X res outs b8B (b6v i8 q v9) :=
 P0<|rg<|i9 0 h (fun h=>rg<|u0 p8 1 h fun z8 I0 h=>E1 (I:=fun j:Unit=>j5 cx P5.X res outs d4X (d9d i8 q v9)) h (fun j h=>e6l i8 q v9 res outs x1 hb1 hr1 st1 hc1 h) (fun x2 h hc2=>rg<|i9 3 h (fun h=>i9 8 h (fun h=>rg<|(D6 h hc2 fun h=>(z4 h hc1 fun e=>z3 P5.h (hr1 _ e)))) (fun h=>(s6 h hc2 fun hI=>sg [] [3,7,8,9] [(1,0)] hI))) (fun h=>(s6 h hc2 fun hI=>sg [] [3,7,8,9] [(1,0)] hI)))) (fun h=>(v6 h hc1 fun e=>sg [] [] [] (hb1 _ e)))
noncomputable def b4u (i8:List l8) (q:n5):Option Int :=
 ((o9 (fun s:Int=>b12 i8 q s) 0).bind fun x=>x.go (fun r=>some r) fun s=>d5H)
theorem d74 {i8:List l8} {q:n5} (r:Int) (h:b4u i8 q=some r):o7 cx.P 55 [j9 7 p8 i8,.agg (H7 q)] (P5.R r) (P5.O r) :=
 q8 P5.X P5.c P5.h (fun z=>p7<|x7 h fun x hl hr hb=>sg [] [3,7,8,9] [(1,0)] (x9 (I:=fun s:Int=>j5 cx P5.X (P5.R r) (P5.O r) b8B (b6v i8 q s)) hl fun s st h hc=>e90 i8 q _ _ x (fun s e=>e7G r (hb s e)) (fun v e=>⟨congrArg P5.R (Option.some.inj (hr v e)).symm,congrArg P5.O (Option.some.inj (hr v e)).symm⟩) st hc s h))
noncomputable def K3:FS (Bool):=⟨26,Tryz.f26,[.val [] []],[none],[.val K4 []],fun r=>.b r,fun _=>[none],Tryz.func26⟩
noncomputable def d9Y:List Item:=K3.k 7 [false,false]
noncomputable def d3F (B2:List l8) (A6:List n5) (a6P:List (List m7)):St:=⟨(bs 3 (j9 7 p8 B2::(j9 2 H7 A6::(.own 1 0 1 0 a6P.length::(bs 74 []))))),[some [],some [m5 48 1 a3x a6P]]⟩
noncomputable def d7h:List Item:=K3.k 11 [false,false,false,false]
noncomputable def d8F:St:=⟨(bs 80 []),[some []]⟩
noncomputable def d0d:Option Bool :=
 some true
theorem e41 (r:Bool) (h:d0d=some r):j5 cx K3.X (K3.R r) (K3.O r) d7h (d8F) :=
 P0<|rg<|fe K3.h h
noncomputable def c5y:List Item:=K3.k 10 [false,false,false]
noncomputable def c7L (B2:List l8) (A6:List n5) (G7:(List m4)×List Int) (v61:Int):St:=⟨(bs 3 (j9 7 p8 B2::(bs 7 (j9 1 eI G7.2::(bs 47 (j9 2 H7 A6::(vi (A6.length:Int)::(vi v61::(bs 18 []))))))))),[some []]⟩
noncomputable def b8c (B2:List l8) (A6:List n5) (G7:(List m4)×List Int) (v61:Int):Option (j3 Bool Int Unit) :=
 (bif decide (v61<(A6.length:Int)) then ((idx A6 v61).bind fun req=>((idx G7.2 v61).bind fun y=>((b4u B2 req).bind fun first=>((idx B2 first).bind fun z8=>(bif (y != z8.b6.d6) then some (j3.ret false) else some (j3.nxt (m9 (v61+1)))))))) else some (j3.brk ()))
theorem e20 (B2:List l8) (A6:List n5) (G7:(List m4)×List Int) (res:V) (outs:s8) (x1:j8 Bool Unit) (hb1:HB cx K3.X res outs x1 d7h (fun s=>d8F)) (hr1:HR res outs x1 K3.R K3.O) (st1:j3 Bool Int Unit) (hc1:s5 x1 (fun s:Int=>j5 cx K3.X res outs c5y (c7L B2 A6 G7 s)) st1) (v61:Int) (h:b8c B2 A6 G7 v61=some st1):j5 cx K3.X res outs c5y (c7L B2 A6 G7 v61) :=
 P0<|rg<|i9 0 h (fun h=>rg<|u0 H7 1 h fun req d8k h=>rg<|u0 eI 2 h fun y hy h=>m3 P5 d74 7 h fun first h=>u0 p8 8 h fun z8 I0 h=>i9 12 h (fun h=>rg<|(z4 h hc1 fun e=>z3 K3.h (hr1 _ e))) (fun h=>rg<|(w9 h hc1 fun hI=>sg [] [3,11,59,60,61] [] hI))) (fun h=>(v6 h hc1 fun e=>sg [] [] [] (hb1 _ e)))
noncomputable def b36 (B2:List l8) (A6:List n5) (a6P:List (List m7)):Option Bool :=
 ((b5p).bind fun a2s=>((b9H a2s a6P).bind fun G7=>((c0j B2).bind fun a4n=>((b7z G7.1 a4n.d8).bind fun a5Y=>(bif (!a5Y) then some false else (bif ((G7.2.length:Int) != (A6.length:Int)) then some false else ((o9 (fun s:Int=>b8c B2 A6 G7 s) 0).bind fun x=>x.go (fun r=>some r) fun s=>d0d)))))))
theorem e7e (B2:List l8) (A6:List n5) (r:Bool) (a6P:List (List m7)) (h:b36 B2 A6 a6P=some r):j5 cx K3.X (K3.R r) (K3.O r) d9Y (d3F B2 A6 a6P) :=
 P0<|rg<|m3 a84 d1X 0 h fun a2s h=>m3 Y2 e3w 2 h fun G7 h=>J3 a2s a6P<|rg<|m3 b2o f02 2 h fun a4n h=>Q6 a62 e0C 4 h fun a5Y h=>om (C7 (a62.R a5Y)∧F7 (a62.O a5Y)) ⟨rfl,G4 2⟩<|o6 a4n.d8<|i9 6 h (fun h=>rg<|fe K3.h h) (fun h=>i9 12 h (fun h=>rg<|fe K3.h h) (fun h=>rg<|x7 h fun x hl hr hb=>sg [] [3,11,59,60,61] [] (x9 (I:=fun s:Int=>j5 cx K3.X (K3.R r) (K3.O r) c5y (c7L B2 A6 G7 s)) hl fun s st h hc=>e20 B2 A6 G7 _ _ x (fun s e=>e41 r (hb s e)) (fun v e=>⟨congrArg K3.R (Option.some.inj (hr v e)).symm,congrArg K3.O (Option.some.inj (hr v e)).symm⟩) st hc s h)))
noncomputable def c4M:List Item:=K3.k 6 [false]
noncomputable def c5B (w:l7) (B2:List l8) (A6:List n5) (A7:List (List m7)) (v23:Int):St:=⟨(bs 1 (.ptr 1 0 0::(bs 1 (j9 7 p8 B2::(j9 2 H7 A6::(.own 2 0 1 0 A7.length::(bs 15 (j9 2 H7 A6::(vi (A6.length:Int)::(vi v23::(bs 56 []))))))))))),[some [],some [.var 28 (D3 w)],some [m5 48 1 a3x A7]]⟩
noncomputable def a7g (w:l7) (A6:List n5) (A7:List (List m7)) (v23:Int):Option (j3 Bool ((List (List m7))×Int) (List (List m7))) :=
 (bif decide (v23<(A6.length:Int)) then ((idx A6 v23).bind fun d5b=>((b6A w d5b).bind fun a3q=>(bif (!a3q.2) then some (j3.ret false) else (u5 ((A7.length+1) * 24≤140737488355328) (some (j3.nxt (A7++[a3q.1],m9 (v23+1)))))))) else some (j3.brk A7))
theorem f2G (w:l7) (B2:List l8) (A6:List n5) (res:V) (outs:s8) (x1:j8 Bool (List (List m7))) (hb1:HB cx K3.X res outs x1 d9Y (d3F B2 A6)) (hr1:HR res outs x1 K3.R K3.O) (st1:j3 Bool ((List (List m7))×Int) (List (List m7))) (hc1:s5 x1 (fun s:(List (List m7))×Int=>j5 cx K3.X res outs c4M (c5B w B2 A6 s.1 s.2)) st1) (A7:List (List m7)) (v23:Int) (h:a7g w A6 A7 v23=some st1):j5 cx K3.X res outs c4M (c5B w B2 A6 A7 v23) :=
 P0<|rg<|i9 0 h (fun h=>rg<|u0 H7 0 h fun d5b f4X h=>rg<|m3 Z9 e74 2 h fun a3q h=>rg<|i9 1 h (fun h=>rg<|(z4 h hc1 fun e=>z3 K3.h (hr1 _ e))) (fun h=>rg<|o6 a3q.1<|tl (2,{ a:=.ck [some 4] })<|w8 h fun e1 h=>M9 3 21 48 1 24 a3x A7 a3q.1 e1<|om (1=[a3q.1].length) (by rfl)<|rg<|(w9 h hc1 fun hI=>sg [] [1,3,4,5,21,22,23] [(1,0),(21,0)] hI))) (fun h=>(v6 h hc1 fun e=>sg [] [3,4,5] [(2,0)] (hb1 _ e)))
noncomputable def b6m (w:l7):Option Bool :=
 ((a4Y w).bind fun A3=>(bif (!A3) then some false else ((b0v w).bind fun B2=>((b9f B2).bind fun A6=>((o9 (fun s:(List (List m7))×Int=>a7g w A6 s.1 s.2) ([],0)).bind fun x=>x.go (fun r=>some r) fun s=>b36 B2 A6 s)))))
theorem e8U {w:l7} (r:Bool) (h:b6m w=some r):o7 cx.P 26 [.agg (T8 w)] (K3.R r) (K3.O r) :=
 q8 K3.X K3.c K3.h (fun z=>p7<|m3 B7 a8h 1 h fun A3 h=>i9 2 h (fun h=>rg<|fe z h) (fun h=>rg<|m3 O7 d7C 1 h fun B2 h=>rg<|m3 Q9 f3d 1 h fun A6 h=>p7<|x7 h fun x hl hr hb=>sg [.own (.tmp 5) 48 1] [1,3,4,5,21,22,23] [(1,0),(16,0)] (x9 (I:=fun s:(List (List m7))×Int=>j5 cx K3.X (K3.R r) (K3.O r) c4M (c5B w B2 A6 s.1 s.2)) hl fun s st h hc=>f2G w B2 A6 _ _ x (fun s e=>e7e B2 A6 r s (hb s e)) (fun v e=>⟨congrArg K3.R (Option.some.inj (hr v e)).symm,congrArg K3.O (Option.some.inj (hr v e)).symm⟩) st hc s.1 s.2 h)))
noncomputable def O3:FS (Bool):=⟨27,Tryz.f27,[.val [] []],[none],[.val K4 []],fun r=>.b r,fun _=>[none],Tryz.func27⟩
noncomputable def c8R:List Item:=O3.k 6 [false,false]
noncomputable def c5i:St:=⟨(bs 56 []),[some []]⟩
noncomputable def d4g:Option Bool :=
 some true
theorem f1o (r:Bool) (h:d4g=some r):j5 cx O3.X (O3.R r) (O3.O r) c8R (c5i) :=
 P0<|rg<|fe O3.h h
noncomputable def b6c:List Item:=O3.k 5 [false]
noncomputable def b8Q (w:l7) (B2:List l8) (r9:q7×List Int) (v23:Int):St:=⟨(bs 3 (j9 7 p8 B2::(bs 1 (.own 1 0 1 0 r9.2.length::(bs 15 (j9 5 B9 w.Told::(vi (w.Told.length:Int)::(vi v23::(bs 32 []))))))))),[some [],some [m5 3 1 eI r9.2]]⟩
noncomputable def e0c:List Item:=O3.k 12 [false,true,false,true]
noncomputable def d7Q (w:l7) (B2:List l8) (r9:q7×List Int) (v23:Int) (z7:n4) (val:Int):St:=⟨(bs 3 (j9 7 p8 B2::(bs 1 (.own 1 0 1 0 r9.2.length::(bs 1 (.ptr 2 0 0::(bs 1 (vi val::(bs 11 (j9 5 B9 w.Told::(vi (w.Told.length:Int)::(vi v23::(bs 32 []))))))))))))),[some [],some [m5 3 1 eI r9.2],some [.var 73 [vi z7.Node,vi z7.a5.c8,vi z7.a5.Seq,vi z7.Code,vi z7.d6]]]⟩
noncomputable def c1y (v23:Int) (z7:n4) (val:Int):Option (j3 Bool Int Unit) :=
 (bif (z7.d6 != val) then some (j3.ret false) else some (j3.nxt (m9 (v23+1))))
theorem e3z (w:l7) (B2:List l8) (r9:q7×List Int) (v23:Int) (z7:n4) (res:V) (outs:s8) (x1:j8 Bool Unit) (hb1:HB cx O3.X res outs x1 c8R (fun s=>c5i)) (hr1:HR res outs x1 O3.R O3.O) (st1:j3 Bool Int Unit) (hc1:s5 x1 (fun s:Int=>j5 cx O3.X res outs b6c (b8Q w B2 r9 s)) st1) (val:Int) (h:c1y v23 z7 val=some st1):j5 cx O3.X res outs e0c (d7Q w B2 r9 v23 z7 val) :=
 P0<|rg<|i9 3 h (fun h=>rg<|(z4 h hc1 fun e=>z3 O3.h (hr1 _ e))) (fun h=>rg<|(w9 h hc1 fun hI=>sg [] [3,5,21,22,23] [(1,0)] hI))
noncomputable def b7r (w:l7) (B2:List l8) (r9:q7×List Int) (v23:Int):Option (j3 Bool Int Unit) :=
 (bif decide (v23<(w.Told.length:Int)) then ((idx w.Told v23).bind fun z7=>((b4u B2 z7.a5).bind fun first=>(bif decide (first<0) then some (j3.ret false) else ((idx r9.2 first).bind fun y=>(bif (y != z7.Code) then some (j3.ret false) else (((bif (z7.Code==0) then ((idx B2 first).bind fun z8=>some (j8.brk z8.b6.d6)) else some (j8.brk 0)):Option (j8 (j3 Bool Int Unit) Int)).bind fun x=>x.go some fun j=>c1y v23 z7 j)))))) else some (j3.brk ()))
theorem f4q (w:l7) (B2:List l8) (r9:q7×List Int) (res:V) (outs:s8) (x1:j8 Bool Unit) (hb1:HB cx O3.X res outs x1 c8R (fun s=>c5i)) (hr1:HR res outs x1 O3.R O3.O) (st1:j3 Bool Int Unit) (hc1:s5 x1 (fun s:Int=>j5 cx O3.X res outs b6c (b8Q w B2 r9 s)) st1) (v23:Int) (h:b7r w B2 r9 v23=some st1):j5 cx O3.X res outs b6c (b8Q w B2 r9 v23) :=
 P0<|rg<|i9 0 h (fun h=>rg<|u0 B9 0 h fun z7 a5A h=>rg<|m3 P5 d74 3 h fun first h=>rg<|i9 2 h (fun h=>rg<|(z4 h hc1 fun e=>z3 O3.h (hr1 _ e))) (fun h=>C6 h fun y hy h=>E2 hy<|V3 eI 6 hy<|i9 10 h (fun h=>rg<|(z4 h hc1 fun e=>z3 O3.h (hr1 _ e))) (fun h=>rg<|E1 (I:=fun j:Int=>j5 cx O3.X res outs e0c (d7Q w B2 r9 v23 z7 j)) h (fun j h=>e3z w B2 r9 v23 z7 res outs x1 hb1 hr1 st1 hc1 j h) (fun x2 h hc2=>rg<|i9 2 h (fun h=>rg<|u0 p8 2 h fun z8 I0 h=>(s6 h hc2 fun hI=>sg [] [3,5,7,9,21,22,23] [(1,0),(5,0)] hI)) (fun h=>(s6 h hc2 fun hI=>sg [] [3,5,7,9,21,22,23] [(1,0),(5,0)] hI)))))) (fun h=>(v6 h hc1 fun e=>sg [] [] [] (hb1 _ e)))
noncomputable def b5P (w:l7):Option Bool :=
 ((a4Y w).bind fun A3=>(bif (!A3) then some false else ((b0v w).bind fun B2=>((b1U B2).bind fun r9=>((o9 (fun s:Int=>b7r w B2 r9 s) 0).bind fun x=>x.go (fun r=>some r) fun s=>d4g)))))
theorem f2w {w:l7} (r:Bool) (h:b5P w=some r):o7 cx.P 27 [.agg (T8 w)] (O3.R r) (O3.O r) :=
 q8 O3.X O3.c O3.h (fun z=>p7<|m3 B7 a8h 1 h fun A3 h=>i9 2 h (fun h=>rg<|fe z h) (fun h=>rg<|m3 O7 d7C 1 h fun B2 h=>rg<|m3 X1 c1r 1 h fun r9 h=>rg<|x7 h fun x hl hr hb=>sg [] [3,5,21,22,23] [(10,2)] (x9 (I:=fun s:Int=>j5 cx O3.X (O3.R r) (O3.O r) b6c (b8Q w B2 r9 s)) hl fun s st h hc=>f4q w B2 r9 _ _ x (fun s e=>f1o r (hb s e)) (fun v e=>⟨congrArg O3.R (Option.some.inj (hr v e)).symm,congrArg O3.O (Option.some.inj (hr v e)).symm⟩) st hc s h)))
noncomputable def Y6:FS (Bool):=⟨28,Tryz.f28,[.val [] []],[none],[.val K4 []],fun r=>.b r,fun _=>[none],Tryz.func28⟩
noncomputable def d6Y:List Item:=Y6.k 5 [false,false]
noncomputable def d2M:St:=⟨(bs 25 []),[some []]⟩
noncomputable def d4A:Option Bool :=
 some true
theorem e4E (r:Bool) (h:d4A=some r):j5 cx Y6.X (Y6.R r) (Y6.O r) d6Y (d2M) :=
 P0<|rg<|fe Y6.h h
noncomputable def c3F:List Item:=Y6.k 4 [false]
noncomputable def c6D (w:l7) (w1:List n5) (v13:Int):St:=⟨(bs 3 (.mp 1 0::(bs 7 (j9 5 B9 w.Told::(vi (w.Told.length:Int)::(vi v13::(bs 11 []))))))),[some [],some [.map 96 2 (w1.map fun x=>(H8 x,.b true))]]⟩
noncomputable def b3u (w:l7) (w1:List n5) (v13:Int):Option (j3 Bool ((List n5)×Int) Unit) :=
 (bif decide (v13<(w.Told.length:Int)) then ((idx w.Told v13).bind fun z7=>(bif (w1.any fun x=>H8 z7.a5==H8 x) then some (j3.ret false) else some (j3.nxt (a9g H8 w1 z7.a5,m9 (v13+1))))) else some (j3.brk ()))
theorem e00 (w:l7) (res:V) (outs:s8) (x1:j8 Bool Unit) (hb1:HB cx Y6.X res outs x1 d6Y (fun s=>d2M)) (hr1:HR res outs x1 Y6.R Y6.O) (st1:j3 Bool ((List n5)×Int) Unit) (hc1:s5 x1 (fun s:(List n5)×Int=>j5 cx Y6.X res outs c3F (c6D w s.1 s.2)) st1) (w1:List n5) (v13:Int) (h:b3u w w1 v13=some st1):j5 cx Y6.X res outs c3F (c6D w w1 v13) :=
 P0<|rg<|i9 0 h (fun h=>rg<|u0 B9 0 h fun z7 a5A h=>rg<|cdT (3,{ v:=some (.b (w1.any fun x=>H8 z7.a5==H8 x)) }) h (fun _ h=>om (a4w (w1.map fun x=>(H8 x,.b true)) (H8 z7.a5) (.b false) = .b (w1.any fun x=>H8 z7.a5==H8 x)) (c61 H8 _ _)<|rg<|(z4 h hc1 fun e=>z3 Y6.h (hr1 _ e))) (fun _ h=>om (a4w (w1.map fun x=>(H8 x,.b true)) (H8 z7.a5) (.b false) = .b (w1.any fun x=>H8 z7.a5==H8 x)) (c61 H8 _ _)<|rg<|om (s4.map 96 2 (a3s (w1.map fun x=>(H8 x,.b true)) (H8 z7.a5) (.b true)) = .map 96 2 ((a9g H8 w1 z7.a5).map fun x=>(H8 x,.b true))) (congrArg (s4.map 96 2) (d00 H8 _ _))<|tl (3,{ e:=some (.map 96 2 ((a9g H8 w1 z7.a5).map fun x=>(H8 x,.b true))) })<|rg<|(w9 h hc1 fun hI=>sg [] [3,11,12,13] [(1,0)] hI))) (fun h=>(v6 h hc1 fun e=>sg [] [] [] (hb1 _ e)))
noncomputable def b5i (w:l7):Option Bool :=
 ((a4Y w).bind fun A3=>(bif (!A3) then some false else ((o9 (fun s:(List n5)×Int=>b3u w s.1 s.2) (([]:List n5),0)).bind fun x=>x.go (fun r=>some r) fun s=>d4A)))
theorem e7H {w:l7} (r:Bool) (h:b5i w=some r):o7 cx.P 28 [.agg (T8 w)] (Y6.R r) (Y6.O r) :=
 q8 Y6.X Y6.c Y6.h (fun z=>p7<|m3 B7 a8h 1 h fun A3 h=>i9 2 h (fun h=>rg<|fe z h) (fun h=>p7<|x7 h fun x hl hr hb=>sg [] [3,11,12,13] [(6,0)] (x9 (I:=fun s:(List n5)×Int=>j5 cx Y6.X (Y6.R r) (Y6.O r) c3F (c6D w s.1 s.2)) hl fun s st h hc=>e00 w _ _ x (fun s e=>e4E r (hb s e)) (fun v e=>⟨congrArg Y6.R (Option.some.inj (hr v e)).symm,congrArg Y6.O (Option.some.inj (hr v e)).symm⟩) st hc s.1 s.2 h)))
noncomputable def a2r:FS (Bool):=⟨13,Tryz.f13,[.val [] []],[none],[.val K4 []],fun r=>.b r,fun _=>[none],Tryz.func13⟩
noncomputable def b4I (w:l7):Option Bool :=
 ((a8J w).bind fun a2p=>(bif a2p then ((a9n w).bind fun a19=>(bif a19 then ((b1g w).bind fun a2k=>(bif a2k then ((a9v w).bind fun a2f=>(bif a2f then ((b6m w).bind fun a4D=>(bif a4D then ((b5P w).bind fun b2E=>(bif b2E then ((b5i w).bind fun b3C=>some b3C) else some false)) else some false)) else some false)) else some false)) else some false)) else some false))
theorem d6B {w:l7} (r:Bool) (h:b4I w=some r):o7 cx.P 13 [.agg (T8 w)] (a2r.R r) (a2r.O r) :=
 q8 a2r.X a2r.c a2r.h (fun z=>p7<|m3 F9 d91 1 h fun a2p h=>i9 2 h (fun h=>m3 E3 d1R 4 h fun a19 h=>i9 6 h (fun h=>m3 J9 d2o 8 h fun a2k h=>i9 10 h (fun h=>m3 E6 d1V 12 h fun a2f h=>i9 14 h (fun h=>m3 K3 e8U 16 h fun a4D h=>i9 18 h (fun h=>m3 O3 f2w 20 h fun b2E h=>i9 22 h (fun h=>m3 Y6 e7H 24 h fun b3C h=>fe z h) (fun h=>fe z h)) (fun h=>fe z h)) (fun h=>fe z h)) (fun h=>fe z h)) (fun h=>fe z h)) (fun h=>fe z h))
noncomputable def P6:FS (List l8):=⟨57,Tryz.f57,[.val [some 7] []],[none],[.val K4 []],fun r=>j9 7 p8 r,fun _=>[none],Tryz.func57⟩
noncomputable def c72:List Item:=P6.k 4 [false]
noncomputable def c76 (w:l7) (a29:Int):St:=⟨(bs 1 (.ptr 1 0 0::(bs 1 (vi a29::(bs 36 []))))),[some [],some [.var 28 (D3 w)]]⟩
noncomputable def c6I (w:l7) (a29:Int):Option (List l8) :=
 (bif ((w.Nodes.length:Int)==0) then some ([]:List l8) else ((idx w.Nodes a29).bind fun j7=>((b0u j7.a6).bind fun a9D=>some a9D)))
theorem f1D (w:l7) (r:List l8) (a29:Int) (h:c6I w a29=some r):j5 cx P6.X (P6.R r) (P6.O r) c72 (c76 w a29) :=
 P0<|rg<|i9 3 h (fun h=>rg<|tl (0,{ a:=.ck O2 })<|om (0=([]:List l8).length) (by simp)<|fe P6.h h) (fun h=>rg<|u0 C1 3 h fun j7 E8 h=>m3 X0 c7g 6 h fun a9D h=>o6 a9D<|fe P6.h h)
noncomputable def b9A:List Item:=P6.k 3 []
noncomputable def b6F (w:l7) (best:Int) (i:Int):St:=⟨(bs 1 (.ptr 1 0 0::(bs 1 (vi best::(vi i::(bs 35 [])))))),[some [],some [.var 28 (D3 w)]]⟩
noncomputable def d5m:List Item:=P6.k 6 [true,true]
noncomputable def c85 (w:l7) (i:Int) (a3t:Int):St:=⟨(bs 1 (.ptr 1 0 0::(bs 1 (vi a3t::(vi i::(bs 35 [])))))),[some [],some [.var 28 (D3 w)]]⟩
noncomputable def c2o (i:Int) (a3t:Int):Option (j3 (List l8) (Int×Int) Int) :=
 some (j3.nxt (a3t,m9 (i+1)))
theorem f1Y (w:l7) (i:Int) (res:V) (outs:s8) (x1:j8 (List l8) Int) (hb1:HB cx P6.X res outs x1 c72 (c76 w)) (hr1:HR res outs x1 P6.R P6.O) (st1:j3 (List l8) (Int×Int) Int) (hc1:s5 x1 (fun s:Int×Int=>j5 cx P6.X res outs b9A (b6F w s.1 s.2)) st1) (a3t:Int) (h:c2o i a3t=some st1):j5 cx P6.X res outs d5m (c85 w i a3t) :=
 P0<|rg<|(w9 h hc1 fun hI=>sg [] [1,3,4] [(1,0)] hI)
noncomputable def b2X (w:l7) (best:Int) (i:Int):Option (j3 (List l8) (Int×Int) Int) :=
 (bif decide (i<(w.Nodes.length:Int)) then ((((idx w.Nodes i).bind fun o8=>((idx w.Nodes best).bind fun B4=>(bif decide ((o8.a6.length:Int)>(B4.a6.length:Int)) then some (j8.brk i) else some (j8.brk best)))):Option (j8 (j3 (List l8) (Int×Int) Int) Int)).bind fun x=>x.go some fun j=>c2o i j) else some (j3.brk best))
theorem e37 (w:l7) (res:V) (outs:s8) (x1:j8 (List l8) Int) (hb1:HB cx P6.X res outs x1 c72 (c76 w)) (hr1:HR res outs x1 P6.R P6.O) (st1:j3 (List l8) (Int×Int) Int) (hc1:s5 x1 (fun s:Int×Int=>j5 cx P6.X res outs b9A (b6F w s.1 s.2)) st1) (best:Int) (i:Int) (h:b2X w best i=some st1):j5 cx P6.X res outs b9A (b6F w best i) :=
 P0<|rg<|i9 4 h (fun h=>E1 (I:=fun j:Int=>j5 cx P6.X res outs d5m (c85 w i j)) h (fun j h=>f1Y w i res outs x1 hb1 hr1 st1 hc1 j h) (fun x2 h hc2=>rg<|u0 C1 3 h fun o8 a1I h=>u0 C1 10 h fun B4 b4q h=>i9 14 h (fun h=>rg<|(s6 h hc2 fun hI=>sg [] [1,3,4] [(1,0)] hI)) (fun h=>(s6 h hc2 fun hI=>sg [] [1,3,4] [(1,0)] hI)))) (fun h=>(v6 h hc1 fun e=>sg [] [1,3] [(1,0)] (hb1 _ e)))
noncomputable def b0P (w:l7):Option (List l8) :=
 ((o9 (fun s:Int×Int=>b2X w s.1 s.2) (0,0)).bind fun x=>x.go (fun r=>some r) fun s=>c6I w s)
theorem d17 {w:l7} (r:List l8) (h:b0P w=some r):o7 cx.P 57 [.agg (T8 w)] (P6.R r) (P6.O r) :=
 q8 P6.X P6.c P6.h (fun z=>rg3<|x7 h fun x hl hr hb=>sg [] [1,3,4] [(1,0)] (x9 (I:=fun s:Int×Int=>j5 cx P6.X (P6.R r) (P6.O r) b9A (b6F w s.1 s.2)) hl fun s st h hc=>e37 w _ _ x (fun s e=>f1D w r s (hb s e)) (fun v e=>⟨congrArg P6.R (Option.some.inj (hr v e)).symm,congrArg P6.O (Option.some.inj (hr v e)).symm⟩) st hc s.1 s.2 h))
noncomputable def S6:FS (List n5):=⟨58,Tryz.f58,[.val [some 2] []],[none],[.val [some 7] []],fun r=>j9 2 H7 r,fun _=>[none],Tryz.func58⟩
noncomputable def c8y:List Item:=S6.k 6 [false,false]
noncomputable def c5n (out1:List n5):St:=⟨(bs 3 (.own 1 0 2 0 out1.length::(bs 37 []))),[some [],some [m5 41 2 H7 out1]]⟩
noncomputable def d35 (out1:List n5):Option (List n5) :=
 some out1
theorem e57 (r:List n5) (out1:List n5) (h:d35 out1=some r):j5 cx S6.X (S6.R r) (S6.O r) c8y (c5n out1) :=
 P0<|rg<|o6 out1<|fe S6.h h
noncomputable def b6Q:List Item:=S6.k 5 [false]
noncomputable def b6D (i8:List l8) (out:List n5) (d8:List m4) (i:Int) (sAt:Int) (T0:List n6):St:=⟨(j9 7 p8 i8::(bs 2 (.own 1 0 2 0 out.length::(.ptr 2 0 0::(vi i::(bs 35 [])))))),[some [],some [m5 41 2 H7 out],some [.var 91 [vi sAt,.own 3 0 2 0 d8.length,j9 4 C4 T0]],some [m5 132 2 v5 d8]]⟩
noncomputable def d9w:List Item:=S6.k 10 [false,true,true]
noncomputable def d3S (i8:List l8) (i:Int) (F3:q7×Int) (out2:List n5):St:=⟨(j9 7 p8 i8::(bs 2 (.own 1 0 2 0 out2.length::(.ptr 2 0 0::(vi i::(bs 35 [])))))),[some [],some [m5 41 2 H7 out2],some [.var 91 [vi F3.1.At,.own 3 0 2 0 F3.1.d8.length,j9 4 C4 F3.1.g8]],some [m5 132 2 v5 F3.1.d8]]⟩
noncomputable def c1t (i:Int) (F3:q7×Int) (out2:List n5):Option (j3 (List n5) ((List n5)×(List m4)×Int×Int×List n6) (List n5)) :=
 some (j3.nxt (out2,F3.1.d8,m9 (i+1),F3.1.At,F3.1.g8))
theorem f3b (i8:List l8) (i:Int) (F3:q7×Int) (res:V) (outs:s8) (x1:j8 (List n5) (List n5)) (hb1:HB cx S6.X res outs x1 c8y c5n) (hr1:HR res outs x1 S6.R S6.O) (st1:j3 (List n5) ((List n5)×(List m4)×Int×Int×List n6) (List n5)) (hc1:s5 x1 (fun s:(List n5)×(List m4)×Int×Int×List n6=>j5 cx S6.X res outs b6Q (b6D i8 s.1 s.2.1 s.2.2.1 s.2.2.2.1 s.2.2.2.2)) st1) (out2:List n5) (h:c1t i F3 out2=some st1):j5 cx S6.X res outs d9w (d3S i8 i F3 out2) :=
 P0<|rg<|(w9 h hc1 fun hI=>sg [] [0,3,4,5] [(1,0),(2,0),(3,0)] hI)
noncomputable def a83 (i8:List l8) (out:List n5) (d8:List m4) (i:Int) (sAt:Int) (T0:List n6):Option (j3 (List n5) ((List n5)×(List m4)×Int×Int×List n6) (List n5)) :=
 (bif decide (i<(i8.length:Int)) then ((idx i8 i).bind fun z8=>((a78 (q7.mk sAt d8 T0) z8).bind fun F3=>(((bif (F3.2==0) then (u5 ((out.length+1) * 16≤140737488355328) (some (j8.brk (out++[z8.a5])))) else some (j8.brk out)):Option (j8 (j3 (List n5) ((List n5)×(List m4)×Int×Int×List n6) (List n5)) (List n5))).bind fun x=>x.go some fun j=>c1t i F3 j))) else some (j3.brk out))
theorem f1A (i8:List l8) (res:V) (outs:s8) (x1:j8 (List n5) (List n5)) (hb1:HB cx S6.X res outs x1 c8y c5n) (hr1:HR res outs x1 S6.R S6.O) (st1:j3 (List n5) ((List n5)×(List m4)×Int×Int×List n6) (List n5)) (hc1:s5 x1 (fun s:(List n5)×(List m4)×Int×Int×List n6=>j5 cx S6.X res outs b6Q (b6D i8 s.1 s.2.1 s.2.2.1 s.2.2.2.1 s.2.2.2.2)) st1) (out:List n5) (d8:List m4) (i:Int) (sAt:Int) (T0:List n6) (h:a83 i8 out d8 i sAt T0=some st1):j5 cx S6.X res outs b6Q (b6D i8 out d8 i sAt T0) :=
 P0<|rg<|i9 3 h (fun h=>rg<|u0 p8 3 h fun z8 I0 h=>m3 O8 b7V 5 h fun F3 h=>o6 d8<|rg<|E1 (I:=fun j:List n5=>j5 cx S6.X res outs d9w (d3S i8 i F3 j)) h (fun j h=>f3b i8 i F3 res outs x1 hb1 hr1 st1 hc1 j h) (fun x2 h hc2=>rg<|i9 1 h (fun h=>rg<|N5 p8 3 I0<|tl (6,{ a:=.ck [] })<|w8 h fun e1 h=>M9 7 31 41 2 16 H7 out z8.a5 e1<|om (1=[z8.a5].length) (by rfl)<|(s6 h hc2 fun hI=>sg [] [0,3,4,5] [(31,0),(2,0),(13,0)] hI)) (fun h=>(s6 h hc2 fun hI=>sg [] [0,3,4,5] [(1,0),(2,0),(13,0)] hI)))) (fun h=>(v6 h hc1 fun e=>sg [] [3] [(1,0)] (hb1 _ e)))
noncomputable def c0N (i8:List l8):Option (List n5) :=
 ((b28 i8).bind fun b4x=>(bif (!b4x) then some ([]:List n5) else ((a8d).bind fun W7=>((o9 (fun s:(List n5)×(List m4)×Int×Int×List n6=>a83 i8 s.1 s.2.1 s.2.2.1 s.2.2.2.1 s.2.2.2.2) (([]:List n5),W7.d8,0,W7.At,W7.g8)).bind fun x=>x.go (fun r=>some r) fun s=>d35 s))))
theorem e5i {i8:List l8} (r:List n5) (h:c0N i8=some r):o7 cx.P 58 [j9 7 p8 i8] (S6.R r) (S6.O r) :=
 q8 S6.X S6.c S6.h (fun z=>p7<|tl (0,{ a:=.ck [] })<|rg<|m3 X6 d2T 1 h fun b4x h=>i9 2 h (fun h=>rg<|om (0=([]:List n5).length) (by simp)<|fe z h) (fun h=>rg<|m3 a6n c0C 0 h fun W7 h=>rg<|x7 h fun x hl hr hb=>om ((.own 2 0 2 0 0:V) = .own 2 0 2 0 ([]:List n5).length) (by simp)<|sg [.is (.tmp 3) (.own 2 0 2 0 ([]:List n5).length)] [0,3,4,5] [(2,0),(8,0),(7,0)] (x9 (I:=fun s:(List n5)×(List m4)×Int×Int×List n6=>j5 cx S6.X (S6.R r) (S6.O r) b6Q (b6D i8 s.1 s.2.1 s.2.2.1 s.2.2.2.1 s.2.2.2.2)) hl fun s st h hc=>f1A i8 _ _ x (fun s e=>e57 r s (hb s e)) (fun v e=>⟨congrArg S6.R (Option.some.inj (hr v e)).symm,congrArg S6.O (Option.some.inj (hr v e)).symm⟩) st hc s.1 s.2.1 s.2.2.1 s.2.2.2.1 s.2.2.2.2 h)))
noncomputable def Y8:FS ((List m7)×Bool):=⟨105,Tryz.f105,[.val [some 4] [some 117],.val [] []],[none,none],[.val K4 [],.val [] []],fun r=>.tup [p6 117 4 A8 r.1,.b r.2],fun _=>[none,none],Tryz.func105⟩
noncomputable def d0h:List Item:=Y8.k 3 [false]
noncomputable def d5A:St:=⟨(bs 30 []),[some []]⟩
noncomputable def d2A:Option ((List m7)×Bool) :=
 some ([],false)
theorem e9a (r:(List m7)×Bool) (h:d2A=some r):j5 cx Y8.X (Y8.R r) (Y8.O r) d0h (d5A) :=
 P0<|rg<|fe Y8.h h
noncomputable def c3y:List Item:=Y8.k 2 []
noncomputable def c7b (w:l7) (q:n5) (i:Int):St:=⟨(bs 2 (.ptr 1 0 0::(.ptr 2 0 0::(bs 2 (vi i::(bs 23 [])))))),[some [],some [.var 28 (D3 w)],some [.var 41 [vi q.c8,vi q.Seq]]]⟩
noncomputable def b87 (w:l7) (q:n5) (i:Int):Option (j3 ((List m7)×Bool) Int Unit) :=
 (bif decide (i<(w.Asked.length:Int)) then ((idx w.Asked i).bind fun asked=>(bif (([asked.a5.c8,asked.a5.Seq]:List Int)==[q.c8,q.Seq]) then (u5 ((([]:List m7).length+asked.g7.length) * 32≤140737488355328) (some (j3.ret (([]:List m7)++asked.g7,true)))) else some (j3.nxt (m9 (i+1))))) else some (j3.brk ()))
theorem e6O (w:l7) (q:n5) (res:V) (outs:s8) (x1:j8 ((List m7)×Bool) Unit) (hb1:HB cx Y8.X res outs x1 d0h (fun s=>d5A)) (hr1:HR res outs x1 Y8.R Y8.O) (st1:j3 ((List m7)×Bool) Int Unit) (hc1:s5 x1 (fun s:Int=>j5 cx Y8.X res outs c3y (c7b w q s)) st1) (i:Int) (h:b87 w q i=some st1):j5 cx Y8.X res outs c3y (c7b w q i) :=
 P0<|rg<|i9 4 h (fun h=>rg<|u0 E5 3 h fun asked a8k h=>i9 7 h (fun h=>rg<|tl (0,{ a:=.ck [] })<|N5 E5 4 a8k<|w8 h fun e1 h=>om (V.own 23 0 4 0 (([]:List m7).length+asked.g7.length) = .own 23 0 4 0 (([]:List m7)++asked.g7).length) (by first | exact congrArg (V.own 23 0 4 0) List.length_append.symm | simp)<|om (s4.row 117 4 (([]:List m7).length+asked.g7.length) (([]:List m7).map A8++asked.g7.map A8)=m5 117 4 A8 (([]:List m7)++asked.g7)) (by first | exact a2y rfl rfl | simp [m5])<|om (0=([]:List m7).length) (by rfl)<|ob e1<|tl (7,{ v:=some (.own 23 0 4 0 (([]:List m7)++asked.g7).length),e:=some (m5 117 4 A8 (([]:List m7)++asked.g7)) })<|(z4 h hc1 fun e=>o6 (([]:List m7)++asked.g7)<|z3 Y8.h (hr1 _ e))) (fun h=>rg<|(w9 h hc1 fun hI=>sg [] [2,3,6] [(1,0),(2,0)] hI))) (fun h=>(v6 h hc1 fun e=>sg [] [] [] (hb1 _ e)))
noncomputable def b8W (w:l7) (q:n5):Option ((List m7)×Bool) :=
 ((o9 (fun s:Int=>b87 w q s) 0).bind fun x=>x.go (fun r=>some r) fun s=>d2A)
theorem f2f {w:l7} {q:n5} (r:(List m7)×Bool) (h:b8W w q=some r):o7 cx.P 105 [.agg (T8 w),.agg (H7 q)] (Y8.R r) (Y8.O r) :=
 q8 Y8.X Y8.c Y8.h (fun z=>p7<|x7 h fun x hl hr hb=>sg [] [2,3,6] [(1,0),(2,0)] (x9 (I:=fun s:Int=>j5 cx Y8.X (Y8.R r) (Y8.O r) c3y (c7b w q s)) hl fun s st h hc=>e6O w q _ _ x (fun s e=>e9a r (hb s e)) (fun v e=>⟨congrArg Y8.R (Option.some.inj (hr v e)).symm,congrArg Y8.O (Option.some.inj (hr v e)).symm⟩) st hc s h))
noncomputable def Y3:FS ((List (List m7))×Bool):=⟨59,Tryz.f59,[.val [some 1] [],.val [] []],[none,none],[.val K4 [],.val [some 2] []],fun r=>.tup [j9 1 a3x r.1,.b r.2],fun _=>[none,none],Tryz.func59⟩
noncomputable def d29:List Item:=Y3.k 4 [false]
noncomputable def d06 (out1:List (List m7)):St:=⟨(bs 6 (.own 1 0 1 0 out1.length::(bs 26 []))),[some [],some [m5 48 1 a3x out1]]⟩
noncomputable def c5R (out1:List (List m7)):Option ((List (List m7))×Bool) :=
 some (out1,true)
theorem f4M (r:(List (List m7))×Bool) (out1:List (List m7)) (h:c5R out1=some r):j5 cx Y3.X (Y3.R r) (Y3.O r) d29 (d06 out1) :=
 P0<|rg<|o6 out1<|fe Y3.h h
noncomputable def c5f:List Item:=Y3.k 3 []
noncomputable def c7t (w:l7) (i8:List n5) (out:List (List m7)) (i:Int):St:=⟨(bs 1 (j9 2 H7 i8::(.ptr 1 0 0::(bs 3 (.own 2 0 1 0 out.length::(vi i::(bs 25 []))))))),[some [],some [.var 28 (D3 w)],some [m5 48 1 a3x out]]⟩
noncomputable def a60 (w:l7) (i8:List n5) (out:List (List m7)) (i:Int):Option (j3 ((List (List m7))×Bool) ((List (List m7))×Int) (List (List m7))) :=
 (bif decide (i<(i8.length:Int)) then ((idx i8 i).bind fun req=>((b8W w req).bind fun a3q=>(bif (!a3q.2) then some (j3.ret ([],false)) else (u5 ((out.length+1) * 24≤140737488355328) (some (j3.nxt (out++[a3q.1],m9 (i+1)))))))) else some (j3.brk out))
theorem e43 (w:l7) (i8:List n5) (res:V) (outs:s8) (x1:j8 ((List (List m7))×Bool) (List (List m7))) (hb1:HB cx Y3.X res outs x1 d29 d06) (hr1:HR res outs x1 Y3.R Y3.O) (st1:j3 ((List (List m7))×Bool) ((List (List m7))×Int) (List (List m7))) (hc1:s5 x1 (fun s:(List (List m7))×Int=>j5 cx Y3.X res outs c5f (c7t w i8 s.1 s.2)) st1) (out:List (List m7)) (i:Int) (h:a60 w i8 out i=some st1):j5 cx Y3.X res outs c5f (c7t w i8 out i) :=
 P0<|rg<|i9 3 h (fun h=>rg<|u0 H7 3 h fun req d8k h=>m3 Y8 f2f 5 h fun a3q h=>rg<|i9 1 h (fun h=>rg<|(z4 h hc1 fun e=>z3 Y3.h (hr1 _ e))) (fun h=>rg<|o6 a3q.1<|tl (2,{ a:=.ck [some 4] })<|w8 h fun e1 h=>M9 3 23 48 1 24 a3x out a3q.1 e1<|om (1=[a3q.1].length) (by rfl)<|rg<|(w9 h hc1 fun hI=>sg [] [1,2,6,7] [(1,0),(23,0)] hI))) (fun h=>(v6 h hc1 fun e=>sg [] [6] [(2,0)] (hb1 _ e)))
noncomputable def c6T (w:l7) (i8:List n5):Option ((List (List m7))×Bool) :=
 ((o9 (fun s:(List (List m7))×Int=>a60 w i8 s.1 s.2) (([]:List (List m7)),0)).bind fun x=>x.go (fun r=>some r) fun s=>c5R s)
theorem f0P {w:l7} {i8:List n5} (r:(List (List m7))×Bool) (h:c6T w i8=some r):o7 cx.P 59 [.agg (T8 w),j9 2 H7 i8] (Y3.R r) (Y3.O r) :=
 q8 Y3.X Y3.c Y3.h (fun z=>p7<|tl (0,{ a:=.ck [some 4] })<|rg<|x7 h fun x hl hr hb=>om ((.own 4 0 1 0 0:V) = .own 4 0 1 0 ([]:List (List m7)).length) (by simp)<|sg [.is (.tmp 6) (.own 4 0 1 0 ([]:List (List m7)).length)] [1,2,6,7] [(1,0),(4,0)] (x9 (I:=fun s:(List (List m7))×Int=>j5 cx Y3.X (Y3.R r) (Y3.O r) c5f (c7t w i8 s.1 s.2)) hl fun s st h hc=>e43 w i8 _ _ x (fun s e=>f4M r s (hb s e)) (fun v e=>⟨congrArg Y3.R (Option.some.inj (hr v e)).symm,congrArg Y3.O (Option.some.inj (hr v e)).symm⟩) st hc s.1 s.2 h))
noncomputable def a8T:FS (List m4):=⟨107,Tryz.f107,[.val [some 2] [some 132]],[none],[.val [some 2] []],fun r=>p6 132 2 v5 r,fun _=>[none],Tryz.func107⟩
noncomputable def b3Q (i8:List m4):Option (List m4) :=
 (u5 ((([]:List m4).length+i8.length) * 16≤140737488355328) (some (([]:List m4)++i8)))
theorem d15 {i8:List m4} (r:List m4) (h:b3Q i8=some r):o7 cx.P 107 [j9 2 v5 i8] (a8T.R r) (a8T.O r) :=
 q8 a8T.X a8T.c a8T.h (fun z=>p7<|tl (0,{ a:=.ck [] })<|w8 h fun e1 h=>om (V.own 4 0 2 0 (([]:List m4).length+i8.length) = .own 4 0 2 0 (([]:List m4)++i8).length) (by first | exact congrArg (V.own 4 0 2 0) List.length_append.symm | simp)<|om (s4.row 132 2 (([]:List m4).length+i8.length) (([]:List m4).map v5++i8.map v5)=m5 132 2 v5 (([]:List m4)++i8)) (by first | exact a2y rfl rfl | simp [m5])<|om (0=([]:List m4).length) (by rfl)<|ob e1<|tl (2,{ v:=some (.own 4 0 2 0 (([]:List m4)++i8).length),e:=some (m5 132 2 v5 (([]:List m4)++i8)) })<|o6 (([]:List m4)++i8)<|fe z h)
noncomputable def b1A:FS ((List m4)×Int×Int):=⟨108,Tryz.f108,[.val [some 2] [],.val [] [],.val [] []],[none,none],[.val [some 2] [],.val [some 4] []],fun r=>.tup [j9 2 v5 r.1,vi r.2.1,vi r.2.2],fun _=>[none,none],Tryz.func108⟩
noncomputable def b6s (i8:List m4) (prog:List m7):Option ((List m4)×Int×Int) :=
 ((a9o i8 prog).bind fun E9=>(bif (E9.Code==3) then some (([]:List m4),0,3) else ((b3Q i8).bind fun a9p=>((b4L a9p E9).bind fun a7H=>some (a7H,E9.d6,E9.Code)))))
theorem f3X {i8:List m4} {prog:List m7} (r:(List m4)×Int×Int) (h:b6s i8 prog=some r):o7 cx.P 108 [j9 2 v5 i8,j9 4 A8 prog] (b1A.R r) (b1A.O r) :=
 q8 b1A.X b1A.c b1A.h (fun z=>p7<|m3 P2 d6k 2 h fun E9 h=>rg<|i9 2 h (fun h=>rg<|tl (0,{ a:=.ck [] })<|om (0=([]:List m4).length) (by simp)<|fe z h) (fun h=>rg<|m3 a8T d15 1 h fun a9p h=>Q6 U0 d8m 3 h fun a7H h=>om (C7 (U0.R a7H)∧F7 (U0.O a7H)) ⟨(by simp [U0,C7,a0k,U9,V.simple,vi,p6,v5,eI]),G4 2⟩<|q9 a9p E9.a8 E9.a9 a7H<|fe z h))
noncomputable def Z1:FS ((List m4)×List Int):=⟨60,Tryz.f60,[.val [some 2] [],.val [some 1] []],[none,none],[.val [some 2] [],.val [some 1] []],fun r=>.tup [j9 2 v5 r.1,j9 1 eI r.2],fun _=>[none,none],Tryz.func60⟩
noncomputable def d6b:List Item:=Z1.k 6 [false,false]
noncomputable def c9b (out1:List Int) (x_1:List m4):St:=⟨(bs 6 (.own 1 0 1 0 out1.length::(j9 2 v5 x_1::(bs 44 [])))),[some [],some [m5 3 1 eI out1]]⟩
noncomputable def c8Q (out1:List Int) (x_1:List m4):Option ((List m4)×List Int) :=
 some (x_1,out1)
theorem f3J (r:(List m4)×List Int) (out1:List Int) (x_1:List m4) (h:c8Q out1 x_1=some r):j5 cx Z1.X (Z1.R r) (Z1.O r) d6b (c9b out1 x_1) :=
 P0<|rg<|o6 out1<|fe Z1.h h
noncomputable def c4V:List Item:=Z1.k 5 [false]
noncomputable def c6J (A7:List (List m7)) (out:List Int) (x_:List m4) (i:Int):St:=⟨(bs 1 (j9 1 a3x A7::(bs 4 (.own 1 0 1 0 out.length::(j9 2 v5 x_::(vi i::(bs 43 []))))))),[some [],some [m5 3 1 eI out]]⟩
noncomputable def b1Z (A7:List (List m7)) (out:List Int) (x_:List m4) (i:Int):Option (j3 ((List m4)×List Int) ((List Int)×(List m4)×Int) ((List Int)×List m4)) :=
 (bif decide (i<(A7.length:Int)) then ((idx A7 i).bind fun y=>((b6s x_ y).bind fun M5=>(bif (M5.2.2==3) then some (j3.ret (([]:List m4),([]:List Int))) else (u5 ((out.length+1) * 8≤140737488355328) (some (j3.nxt (out++[M5.2.1],M5.1,m9 (i+1)))))))) else some (j3.brk (out,x_)))
theorem e1c (A7:List (List m7)) (res:V) (outs:s8) (x1:j8 ((List m4)×List Int) ((List Int)×List m4)) (hb1:HB cx Z1.X res outs x1 d6b (fun s=>c9b s.1 s.2)) (hr1:HR res outs x1 Z1.R Z1.O) (st1:j3 ((List m4)×List Int) ((List Int)×(List m4)×Int) ((List Int)×List m4)) (hc1:s5 x1 (fun s:(List Int)×(List m4)×Int=>j5 cx Z1.X res outs c4V (c6J A7 s.1 s.2.1 s.2.2)) st1) (out:List Int) (x_:List m4) (i:Int) (h:b1Z A7 out x_ i=some st1):j5 cx Z1.X res outs c4V (c6J A7 out x_ i) :=
 P0<|rg<|i9 3 h (fun h=>rg<|u0 a3x 3 h fun y hy h=>m3 b1A f3X 5 h fun M5 h=>rg<|i9 1 h (fun h=>rg<|tl (0,{ a:=.ck [] })<|tl (1,{ a:=.ck [] })<|(z4 h hc1 fun e=>om (0=([]:List m4).length) (by simp)<|om (0=([]:List Int).length) (by simp)<|z3 Z1.h (hr1 _ e))) (fun h=>p7<|tl (2,{ a:=.ck [] })<|w8 h fun e1 h=>M9 3 26 3 1 8 eI out M5.2.1 e1<|om (1=[M5.2.1].length) (by rfl)<|rg<|(w9 h hc1 fun hI=>sg [] [1,6,7,8] [(26,0)] hI))) (fun h=>(v6 h hc1 fun e=>sg [] [6,7] [(1,0)] (hb1 _ e)))
noncomputable def b7T (i8:List m4) (A7:List (List m7)):Option ((List m4)×List Int) :=
 ((a94 i8).bind fun Y0=>(bif (!Y0) then some (([]:List m4),([]:List Int)) else (bif decide ((A7.length:Int)>100) then some (([]:List m4),([]:List Int)) else ((b3Q i8).bind fun a9p=>((o9 (fun s:(List Int)×(List m4)×Int=>b1Z A7 s.1 s.2.1 s.2.2) (([]:List Int),a9p,0)).bind fun x=>x.go (fun r=>some r) fun s=>c8Q s.1 s.2)))))
theorem e7R {i8:List m4} {A7:List (List m7)} (r:(List m4)×List Int) (h:b7T i8 A7=some r):o7 cx.P 60 [j9 2 v5 i8,j9 1 a3x A7] (Z1.R r) (Z1.O r) :=
 q8 Z1.X Z1.c Z1.h (fun z=>p7<|m3 T9 c3c 1 h fun Y0 h=>i9 3 h (fun h=>rg<|tl (0,{ a:=.ck [] })<|tl (1,{ a:=.ck [] })<|om (0=([]:List m4).length) (by simp)<|om (0=([]:List Int).length) (by simp)<|fe z h) (fun h=>i9 7 h (fun h=>rg<|tl (0,{ a:=.ck [] })<|tl (1,{ a:=.ck [] })<|om (0=([]:List m4).length) (by simp)<|om (0=([]:List Int).length) (by simp)<|fe z h) (fun h=>rg<|tl (0,{ a:=.ck [] })<|rg<|m3 a8T d15 1 h fun a9p h=>rg<|x7 h fun x hl hr hb=>o6 a9p<|om ((.own 11 0 1 0 0:V) = .own 11 0 1 0 ([]:List Int).length) (by simp)<|sg [.frz (.tmp 7) (none),.is (.tmp 6) (.own 11 0 1 0 ([]:List Int).length)] [1,6,7,8] [(11,0)] (x9 (I:=fun s:(List Int)×(List m4)×Int=>j5 cx Z1.X (Z1.R r) (Z1.O r) c4V (c6J A7 s.1 s.2.1 s.2.2)) hl fun s st h hc=>e1c A7 _ _ x (fun s e=>f3J r s.1 s.2 (hb s e)) (fun v e=>⟨congrArg Z1.R (Option.some.inj (hr v e)).symm,congrArg Z1.O (Option.some.inj (hr v e)).symm⟩) st hc s.1 s.2.1 s.2.2 h))))
noncomputable def W4:FS (Bool):=⟨62,Tryz.f62,[.val [] []],[none,none],[.val [some 2] [],.val [some 2] []],fun r=>.b r,fun _=>[none,none],Tryz.func62⟩
noncomputable def d01:List Item:=W4.k 4 [false,false]
noncomputable def d5f:St:=⟨(bs 26 []),[some []]⟩
noncomputable def d8e:Option Bool :=
 some true
theorem e7K (r:Bool) (h:d8e=some r):j5 cx W4.X (W4.R r) (W4.O r) d01 (d5f) :=
 P0<|rg<|fe W4.h h
noncomputable def c6M:List Item:=W4.k 3 [false]
noncomputable def c75 (a:List m4) (b:List m4) (i:Int):St:=⟨(j9 2 v5 a::(j9 2 v5 b::(bs 3 (vi i::(bs 20 []))))),[some []]⟩
noncomputable def b64 (a:List m4) (b:List m4) (i:Int):Option (j3 Bool Int Unit) :=
 (bif decide (i<(a.length:Int)) then ((idx a i).bind fun box=>((idx b i).bind fun V7=>(bif (!(([box.i7,box.d6]:List Int)==[V7.i7,V7.d6])) then some (j3.ret false) else some (j3.nxt (m9 (i+1)))))) else some (j3.brk ()))
theorem e9j (a:List m4) (b:List m4) (res:V) (outs:s8) (x1:j8 Bool Unit) (hb1:HB cx W4.X res outs x1 d01 (fun s=>d5f)) (hr1:HR res outs x1 W4.R W4.O) (st1:j3 Bool Int Unit) (hc1:s5 x1 (fun s:Int=>j5 cx W4.X res outs c6M (c75 a b s)) st1) (i:Int) (h:b64 a b i=some st1):j5 cx W4.X res outs c6M (c75 a b i) :=
 P0<|rg<|i9 3 h (fun h=>rg<|u0 v5 2 h fun box a3M h=>u0 v5 6 h fun V7 a7G h=>i9 8 h (fun h=>rg<|(z4 h hc1 fun e=>z3 W4.h (hr1 _ e))) (fun h=>rg<|(w9 h hc1 fun hI=>sg [] [0,1,5] [] hI))) (fun h=>(v6 h hc1 fun e=>sg [] [] [] (hb1 _ e)))
noncomputable def b8H (a:List m4) (b:List m4):Option Bool :=
 (bif ((a.length:Int) != (b.length:Int)) then some false else ((o9 (fun s:Int=>b64 a b s) 0).bind fun x=>x.go (fun r=>some r) fun s=>d8e))
theorem e44 {a:List m4} {b:List m4} (r:Bool) (h:b8H a b=some r):o7 cx.P 62 [j9 2 v5 a,j9 2 v5 b] (W4.R r) (W4.O r) :=
 q8 W4.X W4.c W4.h (fun z=>p7<|i9 4 h (fun h=>rg<|fe z h) (fun h=>rg<|x7 h fun x hl hr hb=>sg [] [0,1,5] [] (x9 (I:=fun s:Int=>j5 cx W4.X (W4.R r) (W4.O r) c6M (c75 a b s)) hl fun s st h hc=>e9j a b _ _ x (fun s e=>e7K r (hb s e)) (fun v e=>⟨congrArg W4.R (Option.some.inj (hr v e)).symm,congrArg W4.O (Option.some.inj (hr v e)).symm⟩) st hc s h)))
noncomputable def P3:FS (Int):=⟨64,Tryz.f64,[.val [] []],[none,none],[.val [some 7] [],.val [] []],fun r=>vi r,fun _=>[none,none],Tryz.func64⟩
noncomputable def c7G:List Item:=P3.k 3 [false]
noncomputable def c5z:St:=⟨(bs 33 []),[some []]⟩
noncomputable def d25:Option Int :=
 some 0
theorem f0A (r:Int) (h:d25=some r):j5 cx P3.X (P3.R r) (P3.O r) c7G (c5z) :=
 P0<|rg<|fe P3.h h
noncomputable def b5S:List Item:=P3.k 2 []
noncomputable def b6I (i8:List l8) (q:n5) (i:Int):St:=⟨(j9 7 p8 i8::(bs 2 (.ptr 1 0 0::(bs 1 (vi i::(bs 27 [])))))),[some [],some [.var 41 [vi q.c8,vi q.Seq]]]⟩
noncomputable def d8d:List Item:=P3.k 4 [true,false]
noncomputable def d7S (i8:List l8) (q:n5) (i:Int):St:=⟨(j9 7 p8 i8::(bs 2 (.ptr 1 0 0::(bs 1 (vi i::(bs 27 [])))))),[some [],some [.var 41 [vi q.c8,vi q.Seq]]]⟩
noncomputable def c5u (i:Int):Option (j3 Int Int Unit) :=
 some (j3.nxt (m9 (i+1)))
theorem e4P (i8:List l8) (q:n5) (i:Int) (res:V) (outs:s8) (x1:j8 Int Unit) (hb1:HB cx P3.X res outs x1 c7G (fun s=>c5z)) (hr1:HR res outs x1 P3.R P3.O) (st1:j3 Int Int Unit) (hc1:s5 x1 (fun s:Int=>j5 cx P3.X res outs b5S (b6I i8 q s)) st1) (h:c5u i=some st1):j5 cx P3.X res outs d8d (d7S i8 q i) :=
 P0<|rg<|(w9 h hc1 fun hI=>sg [] [0,3,5] [(1,0)] hI)
noncomputable def b0f (i8:List l8) (q:n5) (i:Int):Option (j3 Int Int Unit) :=
 (bif decide (i<(i8.length:Int)) then ((((idx i8 i).bind fun z8=>(bif (!z8.i0) then (bif (([z8.a5.c8,z8.a5.Seq]:List Int)==[q.c8,q.Seq]) then some (j8.ret (j3.ret z8.b6.d6)) else some (j8.brk ())) else some (j8.brk ()))):Option (j8 (j3 Int Int Unit) Unit)).bind fun x=>x.go some fun j=>c5u i) else some (j3.brk ()))
theorem e9b (i8:List l8) (q:n5) (res:V) (outs:s8) (x1:j8 Int Unit) (hb1:HB cx P3.X res outs x1 c7G (fun s=>c5z)) (hr1:HR res outs x1 P3.R P3.O) (st1:j3 Int Int Unit) (hc1:s5 x1 (fun s:Int=>j5 cx P3.X res outs b5S (b6I i8 q s)) st1) (i:Int) (h:b0f i8 q i=some st1):j5 cx P3.X res outs b5S (b6I i8 q i) :=
 P0<|rg<|i9 3 h (fun h=>E1 (I:=fun j:Unit=>j5 cx P3.X res outs d8d (d7S i8 q i)) h (fun j h=>e4P i8 q i res outs x1 hb1 hr1 st1 hc1 h) (fun x2 h hc2=>rg<|u0 p8 2 h fun z8 I0 h=>i9 6 h (fun h=>N5 p8 9 I0<|i9 14 h (fun h=>rg<|N5 p8 2 I0<|(D6 h hc2 fun h=>(z4 h hc1 fun e=>z3 P3.h (hr1 _ e)))) (fun h=>(s6 h hc2 fun hI=>sg [] [0,3,5] [(1,0)] hI))) (fun h=>(s6 h hc2 fun hI=>sg [] [0,3,5] [(1,0)] hI)))) (fun h=>(v6 h hc1 fun e=>sg [] [] [] (hb1 _ e)))
noncomputable def b2q (i8:List l8) (q:n5):Option Int :=
 ((o9 (fun s:Int=>b0f i8 q s) 0).bind fun x=>x.go (fun r=>some r) fun s=>d25)
theorem d2Q {i8:List l8} {q:n5} (r:Int) (h:b2q i8 q=some r):o7 cx.P 64 [j9 7 p8 i8,.agg (H7 q)] (P3.R r) (P3.O r) :=
 q8 P3.X P3.c P3.h (fun z=>p7<|x7 h fun x hl hr hb=>sg [] [0,3,5] [(1,0)] (x9 (I:=fun s:Int=>j5 cx P3.X (P3.R r) (P3.O r) b5S (b6I i8 q s)) hl fun s st h hc=>e9b i8 q _ _ x (fun s e=>f0A r (hb s e)) (fun v e=>⟨congrArg P3.R (Option.some.inj (hr v e)).symm,congrArg P3.O (Option.some.inj (hr v e)).symm⟩) st hc s h))
noncomputable def Y1:FS (Bool):=⟨29,Tryz.f29,[.val [] []],[none],[.val K4 []],fun r=>.b r,fun _=>[none],Tryz.func29⟩
noncomputable def d2u:List Item:=Y1.k 10 [false,false,false,false]
noncomputable def c9U:St:=⟨(bs 61 []),[some []]⟩
noncomputable def d3J:Option Bool :=
 some true
theorem e4j (r:Bool) (h:d3J=some r):j5 cx Y1.X (Y1.R r) (Y1.O r) d2u (c9U) :=
 P0<|rg<|fe Y1.h h
noncomputable def c7F:List Item:=Y1.k 9 [false,false,false]
noncomputable def c1U (B2:List l8) (A6:List n5) (G7:(List m4)×List Int) (i:Int):St:=⟨(bs 3 (j9 7 p8 B2::(j9 2 H7 A6::(bs 3 (j9 1 eI G7.2::(vi i::(bs 51 []))))))),[some []]⟩
noncomputable def b8m (B2:List l8) (A6:List n5) (G7:(List m4)×List Int) (i:Int):Option (j3 Bool Int Unit) :=
 (bif decide (i<(A6.length:Int)) then ((idx G7.2 i).bind fun y=>((idx A6 i).bind fun req=>((b2q B2 req).bind fun b3E=>(bif (y != b3E) then some (j3.ret false) else some (j3.nxt (m9 (i+1))))))) else some (j3.brk ()))
theorem e4z (B2:List l8) (A6:List n5) (G7:(List m4)×List Int) (res:V) (outs:s8) (x1:j8 Bool Unit) (hb1:HB cx Y1.X res outs x1 d2u (fun s=>c9U)) (hr1:HR res outs x1 Y1.R Y1.O) (st1:j3 Bool Int Unit) (hc1:s5 x1 (fun s:Int=>j5 cx Y1.X res outs c7F (c1U B2 A6 G7 s)) st1) (i:Int) (h:b8m B2 A6 G7 i=some st1):j5 cx Y1.X res outs c7F (c1U B2 A6 G7 i) :=
 P0<|rg<|i9 3 h (fun h=>rg<|u0 eI 2 h fun y hy h=>u0 H7 7 h fun req d8k h=>m3 P3 d2Q 9 h fun b3E h=>i9 10 h (fun h=>rg<|(z4 h hc1 fun e=>z3 Y1.h (hr1 _ e))) (fun h=>rg<|(w9 h hc1 fun hI=>sg [] [3,4,8,9] [] hI))) (fun h=>(v6 h hc1 fun e=>sg [] [] [] (hb1 _ e)))
noncomputable def b8r (w:l7):Option Bool :=
 ((a33 w).bind fun A3=>(bif (!A3) then some false else ((b0P w).bind fun B2=>((c0N B2).bind fun A6=>((c6T w A6).bind fun c4e=>(bif (!c4e.2) then some false else ((b4o).bind fun a2s=>((b7T a2s c4e.1).bind fun G7=>(bif ((G7.2.length:Int) != (A6.length:Int)) then some false else ((b29 B2).bind fun a4n=>((b8H G7.1 a4n.d8).bind fun a5Y=>(bif (!a5Y) then some false else ((o9 (fun s:Int=>b8m B2 A6 G7 s) 0).bind fun x=>x.go (fun r=>some r) fun s=>d3J)))))))))))))
theorem e8C {w:l7} (r:Bool) (h:b8r w=some r):o7 cx.P 29 [.agg (T8 w)] (Y1.R r) (Y1.O r) :=
 q8 Y1.X Y1.c Y1.h (fun z=>p7<|m3 A9 a4V 1 h fun A3 h=>i9 2 h (fun h=>rg<|fe z h) (fun h=>rg<|m3 P6 d17 1 h fun B2 h=>rg<|m3 S6 e5i 1 h fun A6 h=>rg<|m3 Y3 f0P 2 h fun c4e h=>rg<|i9 1 h (fun h=>rg<|fe z h) (fun h=>rg<|m3 a8l d8h 0 h fun a2s h=>m3 Z1 e7R 2 h fun G7 h=>o6 a2s<|rg<|i9 5 h (fun h=>rg<|fe z h) (fun h=>m3 W6 d9h 8 h fun a4n h=>Q6 W4 e44 10 h fun a5Y h=>om (C7 (W4.R a5Y)∧F7 (W4.O a5Y)) ⟨rfl,G4 2⟩<|o6 a4n.d8<|i9 12 h (fun h=>rg<|fe z h) (fun h=>rg<|x7 h fun x hl hr hb=>sg [] [3,4,8,9] [] (x9 (I:=fun s:Int=>j5 cx Y1.X (Y1.R r) (Y1.O r) c7F (c1U B2 A6 G7 s)) hl fun s st h hc=>e4z B2 A6 G7 _ _ x (fun s e=>e4j r (hb s e)) (fun v e=>⟨congrArg Y1.R (Option.some.inj (hr v e)).symm,congrArg Y1.O (Option.some.inj (hr v e)).symm⟩) st hc s h))))))
noncomputable def Q3:FS (Int×Bool):=⟨65,Tryz.f65,[.val [] [],.val [] []],[none,none],[.val [some 7] [],.val [] []],fun r=>.tup [vi r.1,.b r.2],fun _=>[none,none],Tryz.func65⟩
noncomputable def c6m:List Item:=Q3.k 4 [false]
noncomputable def c8p:St:=⟨(bs 43 []),[some []]⟩
noncomputable def d4N:Option (Int×Bool) :=
 some (0,false)
theorem e2Z (r:Int×Bool) (h:d4N=some r):j5 cx Q3.X (Q3.R r) (Q3.O r) c6m (c8p) :=
 P0<|rg<|fe Q3.h h
noncomputable def b7y:List Item:=Q3.k 3 []
noncomputable def c0i (i8:List l8) (q:n5) (d8:List m4) (i:Int) (sAt:Int) (T0:List n6):St:=⟨(j9 7 p8 i8::(bs 2 (.ptr 1 0 0::(bs 2 (.ptr 2 0 0::(vi i::(bs 35 []))))))),[some [],some [.var 41 [vi q.c8,vi q.Seq]],some [.var 91 [vi sAt,.own 3 0 2 0 d8.length,j9 4 C4 T0]],some [m5 132 2 v5 d8]]⟩
noncomputable def c90:List Item:=Q3.k 7 [true,false]
noncomputable def d7j (i8:List l8) (q:n5) (i:Int) (F3:q7×Int):St:=⟨(j9 7 p8 i8::(bs 2 (.ptr 1 0 0::(bs 2 (.ptr 2 0 0::(vi i::(bs 35 []))))))),[some [],some [.var 41 [vi q.c8,vi q.Seq]],some [.var 91 [vi F3.1.At,.own 3 0 2 0 F3.1.d8.length,j9 4 C4 F3.1.g8]],some [m5 132 2 v5 F3.1.d8]]⟩
noncomputable def c5r (i:Int) (F3:q7×Int):Option (j3 (Int×Bool) ((List m4)×Int×Int×List n6) Unit) :=
 some (j3.nxt (F3.1.d8,m9 (i+1),F3.1.At,F3.1.g8))
theorem e3v (i8:List l8) (q:n5) (i:Int) (F3:q7×Int) (res:V) (outs:s8) (x1:j8 (Int×Bool) Unit) (hb1:HB cx Q3.X res outs x1 c6m (fun s=>c8p)) (hr1:HR res outs x1 Q3.R Q3.O) (st1:j3 (Int×Bool) ((List m4)×Int×Int×List n6) Unit) (hc1:s5 x1 (fun s:(List m4)×Int×Int×List n6=>j5 cx Q3.X res outs b7y (c0i i8 q s.1 s.2.1 s.2.2.1 s.2.2.2)) st1) (h:c5r i F3=some st1):j5 cx Q3.X res outs c90 (d7j i8 q i F3) :=
 P0<|rg<|(w9 h hc1 fun hI=>sg [] [0,3,6,7] [(1,0),(2,0),(3,0)] hI)
noncomputable def a96 (i8:List l8) (q:n5) (d8:List m4) (i:Int) (sAt:Int) (T0:List n6):Option (j3 (Int×Bool) ((List m4)×Int×Int×List n6) Unit) :=
 (bif decide (i<(i8.length:Int)) then ((idx i8 i).bind fun z8=>((a78 (q7.mk sAt d8 T0) z8).bind fun F3=>(((bif (!z8.i0) then (bif (([z8.a5.c8,z8.a5.Seq]:List Int)==[q.c8,q.Seq]) then some (j8.ret (j3.ret (F3.2,true))) else some (j8.brk ())) else some (j8.brk ())):Option (j8 (j3 (Int×Bool) ((List m4)×Int×Int×List n6) Unit) Unit)).bind fun x=>x.go some fun j=>c5r i F3))) else some (j3.brk ()))
theorem e8R (i8:List l8) (q:n5) (res:V) (outs:s8) (x1:j8 (Int×Bool) Unit) (hb1:HB cx Q3.X res outs x1 c6m (fun s=>c8p)) (hr1:HR res outs x1 Q3.R Q3.O) (st1:j3 (Int×Bool) ((List m4)×Int×Int×List n6) Unit) (hc1:s5 x1 (fun s:(List m4)×Int×Int×List n6=>j5 cx Q3.X res outs b7y (c0i i8 q s.1 s.2.1 s.2.2.1 s.2.2.2)) st1) (d8:List m4) (i:Int) (sAt:Int) (T0:List n6) (h:a96 i8 q d8 i sAt T0=some st1):j5 cx Q3.X res outs b7y (c0i i8 q d8 i sAt T0) :=
 P0<|rg<|i9 3 h (fun h=>rg<|u0 p8 3 h fun z8 I0 h=>m3 O8 b7V 5 h fun F3 h=>o6 d8<|rg<|E1 (I:=fun j:Unit=>j5 cx Q3.X res outs c90 (d7j i8 q i F3)) h (fun j h=>e3v i8 q i F3 res outs x1 hb1 hr1 st1 hc1 h) (fun x2 h hc2=>rg<|N5 p8 2 I0<|i9 6 h (fun h=>N5 p8 9 I0<|i9 14 h (fun h=>rg<|(D6 h hc2 fun h=>(z4 h hc1 fun e=>z3 Q3.h (hr1 _ e)))) (fun h=>(s6 h hc2 fun hI=>sg [] [0,3,6,7] [(1,0),(2,0),(13,0)] hI))) (fun h=>(s6 h hc2 fun hI=>sg [] [0,3,6,7] [(1,0),(2,0),(13,0)] hI)))) (fun h=>(v6 h hc1 fun e=>sg [] [] [] (hb1 _ e)))
noncomputable def b6k (i8:List l8) (q:n5):Option (Int×Bool) :=
 ((a8d).bind fun W7=>((o9 (fun s:(List m4)×Int×Int×List n6=>a96 i8 q s.1 s.2.1 s.2.2.1 s.2.2.2) (W7.d8,0,W7.At,W7.g8)).bind fun x=>x.go (fun r=>some r) fun s=>d4N))
theorem e2H {i8:List l8} {q:n5} (r:Int×Bool) (h:b6k i8 q=some r):o7 cx.P 65 [j9 7 p8 i8,.agg (H7 q)] (Q3.R r) (Q3.O r) :=
 q8 Q3.X Q3.c Q3.h (fun z=>p7<|m3 a6n c0C 0 h fun W7 h=>rg<|x7 h fun x hl hr hb=>sg [] [0,3,6,7] [(1,0),(5,0),(4,0)] (x9 (I:=fun s:(List m4)×Int×Int×List n6=>j5 cx Q3.X (Q3.R r) (Q3.O r) b7y (c0i i8 q s.1 s.2.1 s.2.2.1 s.2.2.2)) hl fun s st h hc=>e8R i8 q _ _ x (fun s e=>e2Z r (hb s e)) (fun v e=>⟨congrArg Q3.R (Option.some.inj (hr v e)).symm,congrArg Q3.O (Option.some.inj (hr v e)).symm⟩) st hc s.1 s.2.1 s.2.2.1 s.2.2.2 h))
noncomputable def N7:FS (Bool):=⟨30,Tryz.f30,[.val [] []],[none],[.val K4 []],fun r=>.b r,fun _=>[none],Tryz.func30⟩
noncomputable def c4k:List Item:=N7.k 5 [false,false]
noncomputable def c8u:St:=⟨(bs 53 []),[some []]⟩
noncomputable def d3o:Option Bool :=
 some true
theorem e1v (r:Bool) (h:d3o=some r):j5 cx N7.X (N7.R r) (N7.O r) c4k (c8u) :=
 P0<|rg<|fe N7.h h
noncomputable def b5H:List Item:=N7.k 4 [false]
noncomputable def b9q (w:l7) (B2:List l8) (i:Int):St:=⟨(bs 1 (.ptr 1 0 0::(bs 1 (j9 7 p8 B2::(vi i::(bs 48 [])))))),[some [],some [.var 28 (D3 w)]]⟩
noncomputable def d1M:List Item:=N7.k 10 [false,true,true]
noncomputable def d0C (w:l7) (B2:List l8) (i:Int) (z7:n4) (a2H:Int×Bool) (v_:Int):St:=⟨(bs 1 (.ptr 1 0 0::(bs 1 (j9 7 p8 B2::(vi i::(.ptr 2 0 0::(vi a2H.1::(.b a2H.2::(vi v_::(bs 44 [])))))))))),[some [],some [.var 28 (D3 w)],some [.var 73 [vi z7.Node,vi z7.a5.c8,vi z7.a5.Seq,vi z7.Code,vi z7.d6]]]⟩
noncomputable def c3E (i:Int) (z7:n4) (a2H:Int×Bool) (v_:Int):Option (j3 Bool Int Unit) :=
 (bif (!a2H.2) then some (j3.ret false) else (bif (a2H.1 != z7.Code) then some (j3.ret false) else (bif (v_ != z7.d6) then some (j3.ret false) else some (j3.nxt (m9 (i+1))))))
theorem f0Y (w:l7) (B2:List l8) (i:Int) (z7:n4) (a2H:Int×Bool) (res:V) (outs:s8) (x1:j8 Bool Unit) (hb1:HB cx N7.X res outs x1 c4k (fun s=>c8u)) (hr1:HR res outs x1 N7.R N7.O) (st1:j3 Bool Int Unit) (hc1:s5 x1 (fun s:Int=>j5 cx N7.X res outs b5H (b9q w B2 s)) st1) (v_:Int) (h:c3E i z7 a2H v_=some st1):j5 cx N7.X res outs d1M (d0C w B2 i z7 a2H v_) :=
 P0<|rg<|i9 2 h (fun h=>rg<|(z4 h hc1 fun e=>z3 N7.h (hr1 _ e))) (fun h=>i9 8 h (fun h=>rg<|(z4 h hc1 fun e=>z3 N7.h (hr1 _ e))) (fun h=>i9 13 h (fun h=>rg<|(z4 h hc1 fun e=>z3 N7.h (hr1 _ e))) (fun h=>rg<|(w9 h hc1 fun hI=>sg [] [1,3,4] [(1,0)] hI))))
noncomputable def b92 (w:l7) (B2:List l8) (i:Int):Option (j3 Bool Int Unit) :=
 (bif decide (i<(w.Told.length:Int)) then ((idx w.Told i).bind fun z7=>((b6k B2 z7.a5).bind fun a2H=>(((bif (a2H.1==0) then ((b2q B2 z7.a5).bind fun b3E=>some (j8.brk b3E)) else some (j8.brk 0)):Option (j8 (j3 Bool Int Unit) Int)).bind fun x=>x.go some fun j=>c3E i z7 a2H j))) else some (j3.brk ()))
theorem e2l (w:l7) (B2:List l8) (res:V) (outs:s8) (x1:j8 Bool Unit) (hb1:HB cx N7.X res outs x1 c4k (fun s=>c8u)) (hr1:HR res outs x1 N7.R N7.O) (st1:j3 Bool Int Unit) (hc1:s5 x1 (fun s:Int=>j5 cx N7.X res outs b5H (b9q w B2 s)) st1) (i:Int) (h:b92 w B2 i=some st1):j5 cx N7.X res outs b5H (b9q w B2 i) :=
 P0<|rg<|i9 4 h (fun h=>rg<|u0 B9 3 h fun z7 a5A h=>rg<|m3 Q3 e2H 3 h fun a2H h=>rg<|E1 (I:=fun j:Int=>j5 cx N7.X res outs d1M (d0C w B2 i z7 a2H j)) h (fun j h=>f0Y w B2 i z7 a2H res outs x1 hb1 hr1 st1 hc1 j h) (fun x2 h hc2=>rg<|i9 1 h (fun h=>rg<|m3 P3 d2Q 3 h fun b3E h=>(s6 h hc2 fun hI=>sg [] [1,3,4,5,6,7,8] [(1,0),(12,0)] hI)) (fun h=>(s6 h hc2 fun hI=>sg [] [1,3,4,5,6,7,8] [(1,0),(12,0)] hI)))) (fun h=>(v6 h hc1 fun e=>sg [] [] [] (hb1 _ e)))
noncomputable def c0O (w:l7):Option Bool :=
 ((a33 w).bind fun A3=>(bif (!A3) then some false else ((b0P w).bind fun B2=>((o9 (fun s:Int=>b92 w B2 s) 0).bind fun x=>x.go (fun r=>some r) fun s=>d3o))))
theorem f2H {w:l7} (r:Bool) (h:c0O w=some r):o7 cx.P 30 [.agg (T8 w)] (N7.R r) (N7.O r) :=
 q8 N7.X N7.c N7.h (fun z=>p7<|m3 A9 a4V 1 h fun A3 h=>i9 2 h (fun h=>rg<|fe z h) (fun h=>rg<|m3 P6 d17 1 h fun B2 h=>rg<|x7 h fun x hl hr hb=>sg [] [1,3,4] [(1,0)] (x9 (I:=fun s:Int=>j5 cx N7.X (N7.R r) (N7.O r) b5H (b9q w B2 s)) hl fun s st h hc=>e2l w B2 _ _ x (fun s e=>e1v r (hb s e)) (fun v e=>⟨congrArg N7.R (Option.some.inj (hr v e)).symm,congrArg N7.O (Option.some.inj (hr v e)).symm⟩) st hc s h)))
noncomputable def L7:FS (Bool):=⟨31,Tryz.f31,[.val [] []],[none],[.val K4 []],fun r=>.b r,fun _=>[none],Tryz.func31⟩
noncomputable def c5l:List Item:=L7.k 3 [false]
noncomputable def c3U (w:l7):St:=⟨(bs 1 (.ptr 1 0 0::(bs 30 []))),[some [],some [.var 28 (D3 w)]]⟩
noncomputable def c4D (w:l7):Option Bool :=
 ((a33 w).bind fun A3=>some A3)
theorem e6e (w:l7) (r:Bool) (h:c4D w=some r):j5 cx L7.X (L7.R r) (L7.O r) c5l (c3U w) :=
 P0<|rg<|m3 A9 a4V 1 h fun A3 h=>fe L7.h h
noncomputable def b6M:List Item:=L7.k 2 []
noncomputable def c0X (w:l7) (i:Int):St:=⟨(bs 1 (.ptr 1 0 0::(bs 1 (vi i::(bs 28 []))))),[some [],some [.var 28 (D3 w)]]⟩
noncomputable def d1K:List Item:=L7.k 5 [true,false]
noncomputable def d3G (w:l7) (i:Int):St:=⟨(bs 1 (.ptr 1 0 0::(bs 1 (vi i::(bs 28 []))))),[some [],some [.var 28 (D3 w)]]⟩
noncomputable def c8Y (i:Int):Option (j3 Bool Int Unit) :=
 some (j3.nxt (m9 (i+1)))
theorem e0p (w:l7) (i:Int) (res:V) (outs:s8) (x1:j8 Bool Unit) (hb1:HB cx L7.X res outs x1 c5l (fun s=>c3U w)) (hr1:HR res outs x1 L7.R L7.O) (st1:j3 Bool Int Unit) (hc1:s5 x1 (fun s:Int=>j5 cx L7.X res outs b6M (c0X w s)) st1) (h:c8Y i=some st1):j5 cx L7.X res outs d1K (d3G w i) :=
 P0<|rg<|(w9 h hc1 fun hI=>sg [] [1,3] [(1,0)] hI)
noncomputable def c25:List Item:=L7.k 4 [true]
noncomputable def c8z (w:l7) (i:Int) (k:Int):St:=⟨(bs 1 (.ptr 1 0 0::(bs 1 (vi i::(vi k::(bs 27 [])))))),[some [],some [.var 28 (D3 w)]]⟩
noncomputable def b49 (w:l7) (i:Int) (k:Int):Option (j3 Bool Int Unit) :=
 (bif decide (k<i) then ((idx w.Told k).bind fun z7=>((idx w.Told i).bind fun c5T=>(bif (([z7.a5.c8,z7.a5.Seq]:List Int)==[c5T.a5.c8,c5T.a5.Seq]) then some (j3.ret false) else some (j3.nxt (m9 (k+1)))))) else some (j3.brk ()))
theorem e7I (w:l7) (i:Int) (res:V) (outs:s8) (x2:j8 Bool Unit) (hb2:HB cx L7.X res outs x2 d1K (fun s=>d3G w i)) (hr2:HR res outs x2 L7.R L7.O) (st2:j3 Bool Int Unit) (hc2:s5 x2 (fun s:Int=>j5 cx L7.X res outs c25 (c8z w i s)) st2) (k:Int) (h:b49 w i k=some st2):j5 cx L7.X res outs c25 (c8z w i k) :=
 P0<|rg<|i9 2 h (fun h=>rg<|u0 B9 3 h fun z7 a5A h=>u0 B9 9 h fun c5T f5b h=>i9 12 h (fun h=>rg<|(z4 h hc2 fun e=>z3 L7.h (hr2 _ e))) (fun h=>rg<|(w9 h hc2 fun hI=>sg [] [1,3,4] [(1,0)] hI))) (fun h=>(v6 h hc2 fun e=>sg [] [1,3] [(1,0)] (hb2 _ e)))
noncomputable def b6t (w:l7) (i:Int):Option (j3 Bool Int Unit) :=
 (bif decide (i<(w.Told.length:Int)) then ((o9 (fun s:Int=>b49 w i s) 0).bind fun x=>x.go (fun r=>some (j3.ret r)) fun s=>c8Y i) else some (j3.brk ()))
theorem e8F (w:l7) (res:V) (outs:s8) (x1:j8 Bool Unit) (hb1:HB cx L7.X res outs x1 c5l (fun s=>c3U w)) (hr1:HR res outs x1 L7.R L7.O) (st1:j3 Bool Int Unit) (hc1:s5 x1 (fun s:Int=>j5 cx L7.X res outs b6M (c0X w s)) st1) (i:Int) (h:b6t w i=some st1):j5 cx L7.X res outs b6M (c0X w i) :=
 P0<|rg<|i9 4 h (fun h=>rg<|x7 h fun x hl hr hb=>sg [] [1,3,4] [(1,0)] (x9 (I:=fun s:Int=>j5 cx L7.X res outs c25 (c8z w i s)) hl fun s st h hc=>e7I w i _ _ x (fun s e=>e0p w i res outs x1 hb1 hr1 st1 hc1 (hb s e)) (fun v e=>(hr1 _ (a1v (hr v e) hc1))) st hc s h)) (fun h=>(v6 h hc1 fun e=>sg [] [1] [(1,0)] (hb1 _ e)))
noncomputable def b35 (w:l7):Option Bool :=
 ((o9 (fun s:Int=>b6t w s) 0).bind fun x=>x.go (fun r=>some r) fun s=>c4D w)
theorem e0X {w:l7} (r:Bool) (h:b35 w=some r):o7 cx.P 31 [.agg (T8 w)] (L7.R r) (L7.O r) :=
 q8 L7.X L7.c L7.h (fun z=>p7<|x7 h fun x hl hr hb=>sg [] [1,3] [(1,0)] (x9 (I:=fun s:Int=>j5 cx L7.X (L7.R r) (L7.O r) b6M (c0X w s)) hl fun s st h hc=>e8F w _ _ x (fun s e=>e6e w r (hb s e)) (fun v e=>⟨congrArg L7.R (Option.some.inj (hr v e)).symm,congrArg L7.O (Option.some.inj (hr v e)).symm⟩) st hc s h))
noncomputable def a5c:FS (Bool):=⟨14,Tryz.f14,[.val [] []],[none],[.val K4 []],fun r=>.b r,fun _=>[none],Tryz.func14⟩
noncomputable def b6w (w:l7):Option Bool :=
 ((a8Z w).bind fun a2p=>(bif a2p then ((a9d w).bind fun a19=>(bif a19 then ((b1B w).bind fun a2k=>(bif a2k then ((a8F w).bind fun a2f=>(bif a2f then ((b8r w).bind fun a4D=>(bif a4D then ((c0O w).bind fun b2E=>(bif b2E then ((b35 w).bind fun b3C=>some b3C) else some false)) else some false)) else some false)) else some false)) else some false)) else some false))
end Go.Proofs.YtlbgdppcdchhfaaGreat
