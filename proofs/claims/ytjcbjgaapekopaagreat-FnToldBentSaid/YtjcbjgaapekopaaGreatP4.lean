/- Abstract values and states of the program, functions of the program and what their calls come to, and what follows from it: part 4 of the text that the law leans on; long names are written short. -/
import Derived.Test.YtjcbjgaapekopaaGreatP3
import Derived.IntWalk
set_option linter.unusedVariables false
set_option linter.unusedSimpArgs false
set_option linter.unnecessarySimpa false
namespace Go.Proofs.YtjcbjgaapekopaaGreat
open Go
set_option maxRecDepth 20000 in
theorem d8a (res:V) (outs:t7) (x1:j9 ((List n6)×n4) (n4×List n6)) (hb1:HB cx D9.X res outs x1 b61 (fun s=>b8o s.1 s.2)) (hr1:HR res outs x1 D9.R D9.O) (st1:j5 ((List n6)×n4) (n4×(List j3)×(List j7)×(List r9)×(List m7)×(List n6)×Int) (n4×List n6)) (hc1:t6 x1 (fun s:n4×(List j3)×(List j7)×(List r9)×(List m7)×(List n6)×Int=>j6 cx D9.X res outs b1L (b2C s.1 s.2.1 s.2.2.1 s.2.2.2.1 s.2.2.2.2.1 s.2.2.2.2.2.1 s.2.2.2.2.2.2)) st1) (r_2:n4) (A0:List j3) (C0:List j7) (G8:List r9) (G7:List m7) (out1:List n6) (i:Int) (h:b0y r_2 A0 C0 G8 G7 out1 i=some st1):j6 cx D9.X res outs b1L (b2C r_2 A0 C0 G8 G7 out1 i) :=
 P0<|rg<|i9 1 h (fun h=>rg<|l8 E5 G3 3 h fun U9 h=>l8 S7 b0T 5 h fun a1i h=>l8 a1x a3T 7 h fun a3g h=>p8 A0 C0 G8 G7<|H5 out1 a1i.1<|z3 h fun x hl hr hb=>sg [] [0,3,4,5] [(1,0),(16,0),(16,1),(16,2),(16,3),(16,4)] (z4 (I:=fun s:n4×(List j3)×(List j7)×(List r9)×(List m7)×List n6=>j6 cx D9.X res outs b4L (b4x i s.1 s.2.1 s.2.2.1 s.2.2.2.1 s.2.2.2.2.1 s.2.2.2.2.2)) hl fun s st h hc=>e6j i _ _ x (fun s e=>e1B i res outs x1 hb1 hr1 st1 hc1 s.1 s.2.1 s.2.2.1 s.2.2.2.1 s.2.2.2.2.1 s.2.2.2.2.2 (hb s e)) (fun v e=>(hr1 _ (a9t (hr v e) hc1))) st hc s.1 s.2.1 s.2.2.1 s.2.2.2.1 s.2.2.2.2.1 s.2.2.2.2.2 h)) (fun h=>(x5 h hc1 fun e=>sg [] [4] [(6,0)] (hb1 _ e)))
noncomputable def b8Z (r_1:n4) (Nodes:List j3) (Net:List j7) (Asked:List r9) (Told:List m7) (out:List n6):Option ((List n6)×n4) :=
 ((F3 r_1 3).bind fun X2=>((q7 (fun s:n4×(List j3)×(List j7)×(List r9)×(List m7)×(List n6)×Int=>b0y s.1 s.2.1 s.2.2.1 s.2.2.2.1 s.2.2.2.2.1 s.2.2.2.2.2.1 s.2.2.2.2.2.2) (X2.2,Nodes,Net,Asked,Told,out,n8 (3+X2.1))).bind fun x=>x.go (fun r=>some r) fun s=>d27 s.1 s.2))
theorem d7P (r:(List n6)×n4) (r_1:n4) (Nodes:List j3) (Net:List j7) (Asked:List r9) (Told:List m7) (out:List n6) (h:b8Z r_1 Nodes Net Asked Told out=some r):j6 cx D9.X (D9.R r) (D9.O r) c9R (d1D r_1 Nodes Net Asked Told out) :=
 P0<|rg<|l8 E5 G3 1 h fun X2 h=>z3 h fun x hl hr hb=>sg [] [0,3,4,5] [(1,0),(2,0),(3,0),(4,0),(5,0),(6,0)] (z4 (I:=fun s:n4×(List j3)×(List j7)×(List r9)×(List m7)×(List n6)×Int=>j6 cx D9.X (D9.R r) (D9.O r) b1L (b2C s.1 s.2.1 s.2.2.1 s.2.2.2.1 s.2.2.2.2.1 s.2.2.2.2.2.1 s.2.2.2.2.2.2)) hl fun s st h hc=>d8a _ _ x (fun s e=>e63 r s.1 s.2 (hb s e)) (fun v e=>z6 D9 (hr v e)) st hc s.1 s.2.1 s.2.2.1 s.2.2.2.1 s.2.2.2.2.1 s.2.2.2.2.2.1 s.2.2.2.2.2.2 h)
noncomputable def b8I (r_:n4):Option ((List n6)×n4) :=
 ((b4a).bind fun a01=>((F3 r_ 3).bind fun pick=>((a2E a01 [] (n6.mk 5 pick.1 [])).bind fun N0=>((F3 pick.2 3).bind fun D5=>(bif decide (D5.1>0) then ((a7p D5.2 [10,30,60,90]).bind fun num=>((b41 num.2 N0.1 num.1).bind fun a8R=>(t5 ((N0.2.length+a8R.1.length) * 40≤140737488355328) (some (N0.2++a8R.1,a8R.2))))) else ((((F3 D5.2 5).bind fun a6x=>(bif (a6x.1==0) then ((b5B a6x.2 N0.1 N0.2).bind fun a8p=>some (j9.brk (a8p.2.2,a8p.1.Nodes,a8p.1.Net,a8p.1.Asked,a8p.1.Told,a8p.2.1))) else some (j9.brk (a6x.2,N0.1.Nodes,N0.1.Net,N0.1.Asked,N0.1.Told,N0.2)))):Option (j9 ((List n6)×n4) (n4×(List j3)×(List j7)×(List r9)×(List m7)×List n6))).bind fun x=>x.go some fun j=>b8Z j.1 j.2.1 j.2.2.1 j.2.2.2.1 j.2.2.2.2.1 j.2.2.2.2.2))))))
set_option maxRecDepth 20000 in
theorem d72 {r_:n4} (r:(List n6)×n4) (h:b8I r_=some r):o7 cx.P 41 [.optr 86 (a0J r_)] (D9.R r) (D9.O r) :=
 q9 D9.X D9.c D9.h (fun z=>p6<|l8 X8 d0n 0 h fun a01 h=>l8 E5 G3 2 h fun pick h=>l8 a1x a3T 4 h fun N0 h=>p8 a01.Nodes a01.Net a01.Asked a01.Told<|rg<|l8 E5 G3 1 h fun D5 h=>i9 2 h (fun h=>rg<|tk 4 []<|l8 a4m b2k 5 h fun num h=>om (4=[10,30,60,90].length) (by simp)<|l8 Q6 d6Y 6 h fun a8R h=>p8 N0.1.Nodes N0.1.Net N0.1.Asked N0.1.Told<|u6 h fun e1 h=>apL 7 23 118 3 40 M6 N0.2 a8R.1 e1<|H5 a8R.1 (N0.2++a8R.1)<|fe z h) (fun h=>D8 (I:=fun j:n4×(List j3)×(List j7)×(List r9)×(List m7)×List n6=>j6 cx D9.X (D9.R r) (D9.O r) c9R (d1D j.1 j.2.1 j.2.2.1 j.2.2.2.1 j.2.2.2.2.1 j.2.2.2.2.2)) h (fun j h=>d7P r j.1 j.2.1 j.2.2.1 j.2.2.2.1 j.2.2.2.2.1 j.2.2.2.2.2 h) (fun x1 h hc1=>rg<|l8 E5 G3 1 h fun a6x h=>i9 2 h (fun h=>rg<|l8 I3 d9n 3 h fun a8p h=>p8 N0.1.Nodes N0.1.Net N0.1.Asked N0.1.Told<|o6 N0.2<|(s7 h hc1 fun hI=>sg [] [0,3,4] [(10,0),(22,0),(22,1),(22,2),(22,3),(22,4)] hI)) (fun h=>(s7 h hc1 fun hI=>sg [] [0,3,4] [(10,0),(6,0),(6,1),(6,2),(6,3),(6,4)] hI)))))
noncomputable def V8:FS (m3):=⟨39,Tryz.f39,[.val P2 [some 1000092,some 95,some 45,some 76]],[none,none],[.val P2 [],.val [some 3] []],fun r=>.agg (a0I r),fun _=>[none,none],Tryz.func39⟩
noncomputable def d2s:List Item:=V8.k 5 [false,false]
noncomputable def d0N (A0:List j3) (C0:List j7) (G8:List r9) (G7:List m7):St:=⟨(bs 2 (.ptr 1 0 0::(bs 1 (.ptr 6 0 0::(bs 25 []))))),[some [],some [.var 28 [.own 2 0 27 0 A0.length,.own 3 0 13 0 C0.length,.own 4 0 3 0 G8.length,.own 5 0 5 0 G7.length]],some [C9 92 27 v5 A0],some [m4 95 13 w9 C0],some [m4 45 3 D3 G8],some [m4 76 5 B3 G7],some [.var 28 [.nil,.nil,.nil,.nil]]]⟩
noncomputable def d2g (A0:List j3) (C0:List j7) (G8:List r9) (G7:List m7):Option m3 :=
 some (m3.mk A0 C0 G8 G7)
theorem d7y (r:m3) (A0:List j3) (C0:List j7) (G8:List r9) (G7:List m7) (h:d2g A0 C0 G8 G7=some r):j6 cx V8.X (V8.R r) (V8.O r) d2s (d0N A0 C0 G8 G7) :=
 P0<|rg<|p8 A0 C0 G8 G7<|fe V8.h h
noncomputable def c3E:List Item:=V8.k 4 [false]
noncomputable def c2H (a1A:List n6) (Nodes:List j3) (Net:List j7) (Asked:List r9) (Told:List m7) (i:Int):St:=⟨(bs 1 (j8 3 M6 a1A::(.ptr 1 0 0::(bs 1 (.ptr 6 0 0::(vi i::(bs 24 []))))))),[some [],some [.var 28 [.own 2 0 27 0 Nodes.length,.own 3 0 13 0 Net.length,.own 4 0 3 0 Asked.length,.own 5 0 5 0 Told.length]],some [C9 92 27 v5 Nodes],some [m4 95 13 w9 Net],some [m4 45 3 D3 Asked],some [m4 76 5 B3 Told],some [.var 28 [.nil,.nil,.nil,.nil]]]⟩
noncomputable def a5A (a1A:List n6) (Nodes:List j3) (Net:List j7) (Asked:List r9) (Told:List m7) (i:Int):Option (j5 m3 ((List j3)×(List j7)×(List r9)×(List m7)×Int) ((List j3)×(List j7)×(List r9)×List m7)) :=
 (bif decide (i<(a1A.length:Int)) then ((idx a1A i).bind fun d1f=>((a9Z (m3.mk Nodes Net Asked Told) d1f).bind fun a00=>some (j5.nxt (a00.Nodes,a00.Net,a00.Asked,a00.Told,n8 (i+1))))) else some (j5.brk (Nodes,Net,Asked,Told)))
theorem e4h (a1A:List n6) (res:V) (outs:t7) (x1:j9 m3 ((List j3)×(List j7)×(List r9)×List m7)) (hb1:HB cx V8.X res outs x1 d2s (fun s=>d0N s.1 s.2.1 s.2.2.1 s.2.2.2)) (hr1:HR res outs x1 V8.R V8.O) (st1:j5 m3 ((List j3)×(List j7)×(List r9)×(List m7)×Int) ((List j3)×(List j7)×(List r9)×List m7)) (hc1:t6 x1 (fun s:(List j3)×(List j7)×(List r9)×(List m7)×Int=>j6 cx V8.X res outs c3E (c2H a1A s.1 s.2.1 s.2.2.1 s.2.2.2.1 s.2.2.2.2)) st1) (Nodes:List j3) (Net:List j7) (Asked:List r9) (Told:List m7) (i:Int) (h:a5A a1A Nodes Net Asked Told i=some st1):j6 cx V8.X res outs c3E (c2H a1A Nodes Net Asked Told i) :=
 P0<|rg<|i9 3 h (fun h=>rg<|w8 M6 3 h fun d1f e9p h=>l8 a29 c1m 5 h fun a00 h=>p8 Nodes Net Asked Told<|rg<|(x6 h hc1 fun hI=>sg [] [1,2,4,5] [(1,0),(16,0),(16,1),(16,2),(16,3),(6,0)] hI)) (fun h=>(x5 h hc1 fun e=>sg [] [2,4] [(1,0),(2,0),(3,0),(4,0),(5,0),(6,0)] (hb1 _ e)))
noncomputable def b6R (w:m3) (a1A:List n6):Option m3 :=
 ((a66 w).bind fun E1=>(bif (!E1) then some (m3.mk [] [] [] []) else (bif decide ((a1A.length:Int)>400) then some (m3.mk [] [] [] []) else ((b1P w).bind fun a1w=>((q7 (fun s:(List j3)×(List j7)×(List r9)×(List m7)×Int=>a5A a1A s.1 s.2.1 s.2.2.1 s.2.2.2.1 s.2.2.2.2) (a1w.Nodes,a1w.Net,a1w.Asked,a1w.Told,0)).bind fun x=>x.go (fun r=>some r) fun s=>d2g s.1 s.2.1 s.2.2.1 s.2.2.2)))))
theorem d6Z {w:m3} {a1A:List n6} (r:m3) (h:b6R w a1A=some r):o7 cx.P 39 [.agg (a1J w),j8 3 M6 a1A] (V8.R r) (V8.O r) :=
 q9 V8.X V8.c V8.h (fun z=>p6<|l8 A9 b1b 1 h fun E1 h=>i9 3 h (fun h=>rg<|fe z h) (fun h=>i9 7 h (fun h=>rg<|fe z h) (fun h=>rg<|l8 E7 c6g 1 h fun a1w h=>rg<|z3 h fun x hl hr hb=>sg [] [1,2,4,5] [(1,0),(12,0),(12,1),(12,2),(12,3),(2,0)] (z4 (I:=fun s:(List j3)×(List j7)×(List r9)×(List m7)×Int=>j6 cx V8.X (V8.R r) (V8.O r) c3E (c2H a1A s.1 s.2.1 s.2.2.1 s.2.2.2.1 s.2.2.2.2)) hl fun s st h hc=>e4h a1A _ _ x (fun s e=>d7y r s.1 s.2.1 s.2.2.1 s.2.2.2 (hb s e)) (fun v e=>z6 V8 (hr v e)) st hc s.1 s.2.1 s.2.2.1 s.2.2.2.1 s.2.2.2.2 h))))
noncomputable def a10:FS (m3×n4):=⟨15,Tryz.f15,[.val P2 [some 1000092,some 95,some 45,some 76]],[some (0,.ptr [some 1,none] [])],[.ptr [some 1,none] []],fun r=>.agg (a0I r.1),fun r=>[some (.optr 86 (a0J r.2))],Tryz.func15⟩
noncomputable def c85:List Item:=a10.k 6 [true,true]
noncomputable def c6a (E9:m3) (w:n4) (Asked:List r9) (Told:List m7):St:=⟨(bs 2 (.ptr 1 0 0::(.ptr 2 0 0::(bs 49 [])))),[some [.var 86 [j8 1 L2 w.b,vi w.p]],some [.var 28 [.nil,.nil,.nil,.nil]],some [.var 28 [.own 3 0 27 0 E9.Nodes.length,.own 4 0 13 0 E9.Net.length,.own 5 0 3 0 Asked.length,.own 6 0 5 0 Told.length]],some [C9 92 27 v5 E9.Nodes],some [m4 95 13 w9 E9.Net],some [m4 45 3 D3 Asked],some [m4 76 5 B3 Told]]⟩
noncomputable def c2m (E9:m3) (w:n4) (Asked:List r9) (Told:List m7):Option (m3×n4) :=
 some ((m3.mk E9.Nodes E9.Net Asked Told),w)
theorem e8x (E9:m3) (r:m3×n4) (w:n4) (Asked:List r9) (Told:List m7) (h:c2m E9 w Asked Told=some r):j6 cx a10.X (a10.R r) (a10.O r) c85 (c6a E9 w Asked Told) :=
 P0<|rg<|p8 E9.Nodes E9.Net Asked Told<|fe a10.h h
noncomputable def b3n (r_:n4):Option (m3×n4) :=
 ((b4a).bind fun a01=>((b8I r_).bind fun b3h=>((b6R a01 b3h.1).bind fun E9=>((F3 b3h.2 12).bind fun pick=>(((bif (pick.1==0) then (bif decide ((E9.Told.length:Int)>0) then ((F3 pick.2 (E9.Told.length:Int)).bind fun D5=>((F3 D5.2 4).bind fun X2=>((idx E9.Told D5.1).bind fun u9=>some (j9.brk (X2.2,E9.Asked,E9.Told.set D5.1.toNat (m7.mk u9.Node u9.a5 u9.Code X2.1)))))) else some (j9.brk (pick.2,E9.Asked,E9.Told))) else (bif (pick.1==1) then (bif decide ((E9.Asked.length:Int)>0) then ((F3 pick.2 (E9.Asked.length:Int)).bind fun U9=>((a3p U9.2).bind fun a1i=>((idx E9.Asked U9.1).bind fun asked=>some (j9.brk (a1i.2,E9.Asked.set U9.1.toNat (r9.mk asked.a5 a1i.1),E9.Told))))) else some (j9.brk (pick.2,E9.Asked,E9.Told))) else (bif (pick.1==2) then (t5 ((E9.Told.length+E9.Told.length) * 40≤140737488355328) (some (j9.brk (pick.2,E9.Asked,E9.Told++E9.Told)))) else some (j9.brk (pick.2,E9.Asked,E9.Told))))):Option (j9 (m3×n4) (n4×(List r9)×List m7))).bind fun x=>x.go some fun j=>c2m E9 j.1 j.2.1 j.2.2)))))
set_option maxRecDepth 20000 in
theorem d0T {r_:n4} (r:m3×n4) (h:b3n r_=some r):o7 cx.P 15 [.optr 86 (a0J r_)] (a10.R r) (a10.O r) :=
 q9 a10.X a10.c a10.h (fun z=>p6<|l8 X8 d0n 0 h fun a01 h=>l8 D9 d72 2 h fun b3h h=>C4 h fun E9 d7G h=>om (o7 cx.P 39 [.agg [.sl 27 a01.Nodes.length (V7 (a01.Nodes.map v5)),j8 13 w9 a01.Net,j8 3 D3 a01.Asked,j8 5 B3 a01.Told],j8 3 M6 b3h.1] (V8.R E9) (V8.O E9)) (by simp only [a20 a3L]; exact (d6Z E9 d7G))<|p8 a01.Nodes a01.Net a01.Asked a01.Told<|o6 b3h.1<|tl (V8.t 3 false E9)<|rg<|l8 E5 G3 1 h fun pick h=>D8 (I:=fun j:n4×(List r9)×List m7=>j6 cx a10.X (a10.R r) (a10.O r) c85 (c6a E9 j.1 j.2.1 j.2.2)) h (fun j h=>e8x E9 r j.1 j.2.1 j.2.2 h) (fun x1 h hc1=>rg<|i9 1 h (fun h=>rg<|i9 3 h (fun h=>rg<|l8 E5 G3 6 h fun D5 h=>l8 E5 G3 8 h fun X2 h=>C4 h fun u9 a3l h=>E6 a3l<|stR 76 5 B3 11 [] (m7.mk u9.Node u9.a5 u9.Code X2.1) a3l<|(s7 h hc1 fun hI=>om ((.own 5 3 5 0 E9.Told.length:V) = .own 5 3 5 0 (E9.Told.set D5.1.toNat (m7.mk u9.Node u9.a5 u9.Code X2.1)).length) (by simp)<|sg [.is (.cell 6 0 3) (.own 5 3 5 0 (E9.Told.set D5.1.toNat (m7.mk u9.Node u9.a5 u9.Code X2.1)).length)] [2,3] [(1,0),(6,0),(5,0),(5,1),(5,2),(5,3)] hI)) (fun h=>(s7 h hc1 fun hI=>sg [] [2,3] [(1,0),(6,0),(5,0),(5,1),(5,2),(5,3)] hI))) (fun h=>rg<|i9 1 h (fun h=>rg<|i9 3 h (fun h=>rg<|l8 E5 G3 6 h fun U9 h=>l8 S7 b0T 8 h fun a1i h=>C4 h fun asked a4I h=>E6 a4I<|stR 45 3 D3 11 [some 4] (r9.mk asked.a5 a1i.1) a4I<|o6 a1i.1<|(s7 h hc1 fun hI=>om ((.own 5 2 3 0 E9.Asked.length:V) = .own 5 2 3 0 (E9.Asked.set U9.1.toNat (r9.mk asked.a5 a1i.1)).length) (by simp)<|sg [.is (.cell 6 0 2) (.own 5 2 3 0 (E9.Asked.set U9.1.toNat (r9.mk asked.a5 a1i.1)).length)] [2,3] [(1,0),(6,0),(5,0),(5,1),(5,2),(5,3)] hI)) (fun h=>(s7 h hc1 fun hI=>sg [] [2,3] [(1,0),(6,0),(5,0),(5,1),(5,2),(5,3)] hI))) (fun h=>rg<|i9 1 h (fun h=>rg<|u6 h fun e1 h=>apL 4 20 76 5 40 B3 E9.Told E9.Told e1<|o6 E9.Told<|(s7 h hc1 fun hI=>sg [] [2,3] [(1,0),(6,0),(5,0),(5,1),(5,2),(20,0)] hI)) (fun h=>(s7 h hc1 fun hI=>sg [] [2,3] [(1,0),(6,0),(5,0),(5,1),(5,2),(5,3)] hI))))))
noncomputable def b0U:FS (m3):=⟨4,Tryz.f4,[.val P2 [some 1000092,some 95,some 45,some 76]],[none],[.val [some 1] []],fun r=>.agg (a0I r),fun _=>[none],Tryz.func4⟩
noncomputable def b7M (J4:List Int):Option m3 :=
 ((b4c J4).bind fun b2I=>((b3n b2I).bind fun a19=>some a19.1))
theorem e0y {J4:List Int} (r:m3) (h:b7M J4=some r):o7 cx.P 4 [j8 1 L2 J4] (b0U.R r) (b0U.O r) :=
 q9 b0U.X b0U.c b0U.h (fun z=>p6<|l8 a1H d4f 1 h fun b2I h=>l8 a10 d0T 2 h fun a19 h=>p8 a19.1.Nodes a19.1.Net a19.1.Asked a19.1.Told<|fe z h)
noncomputable def a98:FS (m3×n9):=⟨5,Tryz.f5,[.val P2 [some 1000092,some 95,some 45,some 76],.val [] []],[none],[.val [some 1] []],fun r=>.tup [.agg (a0I r.1),.agg (G2 r.2)],fun _=>[none],Tryz.func5⟩
noncomputable def b68 (J4:List Int):Option (m3×n9) :=
 ((b4c J4).bind fun b2I=>((b3n b2I).bind fun a19=>((F3 a19.2 4).bind fun pick=>((F3 pick.2 4).bind fun D5=>some (a19.1,(n9.mk (n8 (pick.1 - 1)) D5.1))))))
theorem e2f {J4:List Int} (r:m3×n9) (h:b68 J4=some r):o7 cx.P 5 [j8 1 L2 J4] (a98.R r) (a98.O r) :=
 q9 a98.X a98.c a98.h (fun z=>p6<|l8 a1H d4f 1 h fun b2I h=>rg<|l8 a10 d0T 1 h fun a19 h=>rg<|l8 E5 G3 2 h fun pick h=>l8 E5 G3 5 h fun D5 h=>p8 a19.1.Nodes a19.1.Net a19.1.Asked a19.1.Told<|fe z h)
noncomputable def b0d:FS (List m5):=⟨18,Tryz.f18,[.val [some 4] [some 48]],[none],[.val [some 4] []],fun r=>o8 48 4 A3 r,fun _=>[none],Tryz.func18⟩
noncomputable def b76 (i8:List m5):Option (List m5) :=
 (bif ((i8.length:Int)==0) then some [] else (t5 (0≤(i8.length:Int)∧(i8.length:Int) * 32≤140737488355328) ((t5 (i8.length=(List.replicate (i8.length:Int).toNat (m5.mk 0 0 0 0)).length) (some i8)))))
theorem e0g {i8:List m5} (r:List m5) (h:b76 i8=some r):o7 cx.P 18 [j8 4 A3 i8] (b0d.R r) (b0d.O r) :=
 q9 b0d.X b0d.c b0d.h (fun z=>p6<|i9 2 h (fun h=>rg<|fe z h) (fun h=>rg<|u6 h fun e1 h=>mkS 2 7 48 4 32 A3 (m5.mk 0 0 0 0) c4v (.none) e1 (by decide) (by rfl)<|rg<|u6 h fun e2 h=>om (s6.row 48 4 (List.replicate (i8.length:Int).toNat (m5.mk 0 0 0 0)).length (i8.map A3)=m4 48 4 A3 i8) (a7d e2)<|o6 (List.replicate (i8.length:Int).toNat (m5.mk 0 0 0 0))<|ob e2<|tl (2,{ e:=some (m4 48 4 A3 i8) })<|rg<|om ((List.replicate (i8.length:Int).toNat (m5.mk 0 0 0 0)).length=i8.length) (by simp)<|fe z h))
noncomputable def P7:FS ((List m5)×Bool):=⟨6,Tryz.f6,[.val [some 4] [some 48],.val [] []],[none,none],[.val P2 [],.val [] []],fun r=>.tup [o8 48 4 A3 r.1,.b r.2],fun _=>[none,none],Tryz.func6⟩
noncomputable def d5e:List Item:=P7.k 3 [false]
noncomputable def d1H:St:=⟨(bs 23 []),[some []]⟩
noncomputable def d6a:Option ((List m5)×Bool) :=
 some ([],false)
theorem d85 (r:(List m5)×Bool) (h:d6a=some r):j6 cx P7.X (P7.R r) (P7.O r) d5e (d1H) :=
 P0<|rg<|fe P7.h h
noncomputable def c5T:List Item:=P7.k 2 []
noncomputable def c1c (w:m3) (q:n9) (v11:Int):St:=⟨(bs 3 (.ptr 1 0 0::(bs 5 (j8 3 D3 w.Asked::(vi (w.Asked.length:Int)::(vi v11::(bs 11 []))))))),[some [],some [.var 31 [vi q.b9,vi q.Seq]]]⟩
noncomputable def b5E (w:m3) (q:n9) (v11:Int):Option (j5 ((List m5)×Bool) Int Unit) :=
 (bif decide (v11<(w.Asked.length:Int)) then ((idx w.Asked v11).bind fun asked=>(bif (([asked.a5.b9,asked.a5.Seq]:List Int)==[q.b9,q.Seq]) then ((b76 asked.i4).bind fun ins=>some (j5.ret (ins,true))) else some (j5.nxt (n8 (v11+1))))) else some (j5.brk ()))
theorem e59 (w:m3) (q:n9) (res:V) (outs:t7) (x1:j9 ((List m5)×Bool) Unit) (hb1:HB cx P7.X res outs x1 d5e (fun s=>d1H)) (hr1:HR res outs x1 P7.R P7.O) (st1:j5 ((List m5)×Bool) Int Unit) (hc1:t6 x1 (fun s:Int=>j6 cx P7.X res outs c5T (c1c w q s)) st1) (v11:Int) (h:b5E w q v11=some st1):j6 cx P7.X res outs c5T (c1c w q v11) :=
 P0<|rg<|i9 0 h (fun h=>rg<|w8 D3 0 h fun asked a4I h=>rg<|i9 3 h (fun h=>rg<|l8 b0d e0g 2 h fun ins h=>(x8 h hc1 fun e=>o6 ins<|x7 P7.h (hr1 _ e))) (fun h=>rg<|(x6 h hc1 fun hI=>sg [] [3,9,10,11] [(1,0)] hI))) (fun h=>(x5 h hc1 fun e=>sg [] [] [] (hb1 _ e)))
noncomputable def b2L (w:m3) (q:n9):Option ((List m5)×Bool) :=
 ((q7 (fun s:Int=>b5E w q s) 0).bind fun x=>x.go (fun r=>some r) fun s=>d6a)
theorem d5K {w:m3} {q:n9} (r:(List m5)×Bool) (h:b2L w q=some r):o7 cx.P 6 [.agg (a1J w),.agg (G2 q)] (P7.R r) (P7.O r) :=
 q9 P7.X P7.c P7.h (fun z=>p6<|z3 h fun x hl hr hb=>sg [] [3,9,10,11] [(2,0)] (z4 (I:=fun s:Int=>j6 cx P7.X (P7.R r) (P7.O r) c5T (c1c w q s)) hl fun s st h hc=>e59 w q _ _ x (fun s e=>d85 r (hb s e)) (fun v e=>z6 P7 (hr v e)) st hc s h))
noncomputable def P8:FS ((List m5)×Bool):=⟨7,Tryz.f7,[.val [some 4] [some 48],.val [] []],[none,none],[.val P2 [],.val [] []],fun r=>.tup [o8 48 4 A3 r.1,.b r.2],fun _=>[none,none],Tryz.func7⟩
noncomputable def c58:List Item:=P8.k 3 [false]
noncomputable def c9C:St:=⟨(bs 30 []),[some []]⟩
noncomputable def c96:Option ((List m5)×Bool) :=
 some ([],false)
theorem e8Z (r:(List m5)×Bool) (h:c96=some r):j6 cx P8.X (P8.R r) (P8.O r) c58 (c9C) :=
 P0<|rg<|fe P8.h h
noncomputable def b9R:List Item:=P8.k 2 []
noncomputable def c0R (w:m3) (q:n9) (i:Int):St:=⟨(bs 2 (.ptr 1 0 0::(.ptr 2 0 0::(bs 2 (vi i::(bs 23 [])))))),[some [],some [.var 28 (M0 w)],some [.var 31 [vi q.b9,vi q.Seq]]]⟩
noncomputable def b8X (w:m3) (q:n9) (i:Int):Option (j5 ((List m5)×Bool) Int Unit) :=
 (bif decide (i<(w.Asked.length:Int)) then ((idx w.Asked i).bind fun asked=>(bif (([asked.a5.b9,asked.a5.Seq]:List Int)==[q.b9,q.Seq]) then (t5 ((([]:List m5).length+asked.i4.length) * 32≤140737488355328) (some (j5.ret (([]:List m5)++asked.i4,true)))) else some (j5.nxt (n8 (i+1))))) else some (j5.brk ()))
theorem e5v (w:m3) (q:n9) (res:V) (outs:t7) (x1:j9 ((List m5)×Bool) Unit) (hb1:HB cx P8.X res outs x1 c58 (fun s=>c9C)) (hr1:HR res outs x1 P8.R P8.O) (st1:j5 ((List m5)×Bool) Int Unit) (hc1:t6 x1 (fun s:Int=>j6 cx P8.X res outs b9R (c0R w q s)) st1) (i:Int) (h:b8X w q i=some st1):j6 cx P8.X res outs b9R (c0R w q i) :=
 P0<|rg<|i9 4 h (fun h=>rg<|w8 D3 3 h fun asked a4I h=>i9 7 h (fun h=>rg<|tk 0 []<|Q9 D3 4 a4I<|u6 h fun e1 h=>oa 23 0 4 ([]:List m5) asked.i4<|oz 48 4 A3 ([]:List m5) asked.i4<|om (0=([]:List m5).length) (by rfl)<|ob e1<|tl (7,{ v:=some (.own 23 0 4 0 (([]:List m5)++asked.i4).length),e:=some (m4 48 4 A3 (([]:List m5)++asked.i4)) })<|(x8 h hc1 fun e=>o6 (([]:List m5)++asked.i4)<|x7 P8.h (hr1 _ e))) (fun h=>rg<|(x6 h hc1 fun hI=>sg [] [2,3,6] [(1,0),(2,0)] hI))) (fun h=>(x5 h hc1 fun e=>sg [] [] [] (hb1 _ e)))
noncomputable def b3Z (w:m3) (q:n9):Option ((List m5)×Bool) :=
 ((q7 (fun s:Int=>b8X w q s) 0).bind fun x=>x.go (fun r=>some r) fun s=>c96)
theorem c7E {w:m3} {q:n9} (r:(List m5)×Bool) (h:b3Z w q=some r):o7 cx.P 7 [.agg (a1J w),.agg (G2 q)] (P8.R r) (P8.O r) :=
 q9 P8.X P8.c P8.h (fun z=>p6<|z3 h fun x hl hr hb=>sg [] [2,3,6] [(1,0),(2,0)] (z4 (I:=fun s:Int=>j6 cx P8.X (P8.R r) (P8.O r) b9R (c0R w q s)) hl fun s st h hc=>e5v w q _ _ x (fun s e=>e8Z r (hb s e)) (fun v e=>z6 P8 (hr v e)) st hc s h))
noncomputable def X3:FS (Bool):=⟨19,Tryz.f19,[.val [] []],[none,none],[.val [some 4] [],.val [some 4] []],fun r=>.b r,fun _=>[none,none],Tryz.func19⟩
noncomputable def c6L:List Item:=X3.k 4 [false,false]
noncomputable def d4s:St:=⟨(bs 26 []),[some []]⟩
noncomputable def d2v:Option Bool :=
 some true
theorem e0B (r:Bool) (h:d2v=some r):j6 cx X3.X (X3.R r) (X3.O r) c6L (d4s) :=
 P0<|rg<|fe X3.h h
noncomputable def c4d:List Item:=X3.k 3 [false]
noncomputable def c2T (a:List m5) (b:List m5) (v13:Int):St:=⟨(j8 4 A3 a::(j8 4 A3 b::(bs 10 (vi (a.length:Int)::(vi v13::(bs 12 [])))))),[some []]⟩
noncomputable def b4C (a:List m5) (b:List m5) (v13:Int):Option (j5 Bool Int Unit) :=
 (bif decide (v13<(a.length:Int)) then ((idx a v13).bind fun ins=>((idx b v13).bind fun b1Y=>(bif (!(([ins.b7,ins.A,ins.B,ins.N]:List Int)==[b1Y.b7,b1Y.A,b1Y.B,b1Y.N])) then some (j5.ret false) else some (j5.nxt (n8 (v13+1)))))) else some (j5.brk ()))
theorem d9H (a:List m5) (b:List m5) (res:V) (outs:t7) (x1:j9 Bool Unit) (hb1:HB cx X3.X res outs x1 c6L (fun s=>d4s)) (hr1:HR res outs x1 X3.R X3.O) (st1:j5 Bool Int Unit) (hc1:t6 x1 (fun s:Int=>j6 cx X3.X res outs c4d (c2T a b s)) st1) (v13:Int) (h:b4C a b v13=some st1):j6 cx X3.X res outs c4d (c2T a b v13) :=
 P0<|rg<|i9 0 h (fun h=>p6<|w8 A3 2 h fun ins hins h=>w8 A3 6 h fun b1Y e9t h=>i9 8 h (fun h=>rg<|(x8 h hc1 fun e=>x7 X3.h (hr1 _ e))) (fun h=>rg<|(x6 h hc1 fun hI=>sg [] [0,1,12,13] [] hI))) (fun h=>(x5 h hc1 fun e=>sg [] [] [] (hb1 _ e)))
noncomputable def c2X (a:List m5) (b:List m5):Option Bool :=
 (bif ((a.length:Int) != (b.length:Int)) then some false else ((q7 (fun s:Int=>b4C a b s) 0).bind fun x=>x.go (fun r=>some r) fun s=>d2v))
theorem e6s {a:List m5} {b:List m5} (r:Bool) (h:c2X a b=some r):o7 cx.P 19 [j8 4 A3 a,j8 4 A3 b] (X3.R r) (X3.O r) :=
 q9 X3.X X3.c X3.h (fun z=>p6<|i9 4 h (fun h=>rg<|fe z h) (fun h=>rg<|z3 h fun x hl hr hb=>sg [] [0,1,12,13] [] (z4 (I:=fun s:Int=>j6 cx X3.X (X3.R r) (X3.O r) c4d (c2T a b s)) hl fun s st h hc=>d9H a b _ _ x (fun s e=>e0B r (hb s e)) (fun v e=>z6 X3 (hr v e)) st hc s h)))
noncomputable def a61:FS (Bool):=⟨8,Tryz.f8,[.val [] []],[none,none],[.val [some 4] [],.val [some 4] []],fun r=>.b r,fun _=>[none,none],Tryz.func8⟩
noncomputable def b6g (a:List m5) (b:List m5):Option Bool :=
 ((c2X a b).bind fun ins=>some ins)
theorem e7V {a:List m5} {b:List m5} (r:Bool) (h:b6g a b=some r):o7 cx.P 8 [j8 4 A3 a,j8 4 A3 b] (a61.R r) (a61.O r) :=
 q9 a61.X a61.c a61.h (fun z=>p6<|l8 X3 e6s 2 h fun ins h=>fe z h)
noncomputable def I5:FS (Bool):=⟨47,Tryz.f47,[.val [] []],[none,none,none],[.val [] [],.val [] [],.val [] []],fun r=>.b r,fun _=>[none,none,none],Tryz.func47⟩
noncomputable def I6 (n:Int) (low:Int) (b5V:Int):Option Bool :=
 (bif decide (n≥low) then some (decide (n≤b5V)) else some false)
theorem L3 {n:Int} {low:Int} {b5V:Int} (r:Bool) (h:I6 n low b5V=some r):o7 cx.P 47 [vi n,vi low,vi b5V] (I5.R r) (I5.O r) :=
 q9 I5.X I5.c I5.h (fun z=>p6<|i9 3 h (fun h=>fe z h) (fun h=>fe z h))
noncomputable def X9:FS (Bool):=⟨150,Tryz.f150,[.val [] []],[none,none],[.val [some 2] [],.val [some 2] []],fun r=>.b r,fun _=>[none,none],Tryz.func150⟩
noncomputable def d4h:List Item:=X9.k 4 [false,false]
noncomputable def d2R:St:=⟨(bs 26 []),[some []]⟩
noncomputable def d1b:Option Bool :=
 some true
theorem e1c (r:Bool) (h:d1b=some r):j6 cx X9.X (X9.R r) (X9.O r) d4h (d2R) :=
 P0<|rg<|fe X9.h h
noncomputable def c4S:List Item:=X9.k 3 [false]
noncomputable def c3X (a:List n5) (b:List n5) (v13:Int):St:=⟨(j8 2 t8 a::(j8 2 t8 b::(bs 10 (vi (a.length:Int)::(vi v13::(bs 12 [])))))),[some []]⟩
noncomputable def b54 (a:List n5) (b:List n5) (v13:Int):Option (j5 Bool Int Unit) :=
 (bif decide (v13<(a.length:Int)) then ((idx a v13).bind fun E8=>((idx b v13).bind fun V2=>(bif (!(([E8.d9,E8.i6]:List Int)==[V2.d9,V2.i6])) then some (j5.ret false) else some (j5.nxt (n8 (v13+1)))))) else some (j5.brk ()))
theorem d8p (a:List n5) (b:List n5) (res:V) (outs:t7) (x1:j9 Bool Unit) (hb1:HB cx X9.X res outs x1 d4h (fun s=>d2R)) (hr1:HR res outs x1 X9.R X9.O) (st1:j5 Bool Int Unit) (hc1:t6 x1 (fun s:Int=>j6 cx X9.X res outs c4S (c3X a b s)) st1) (v13:Int) (h:b54 a b v13=some st1):j6 cx X9.X res outs c4S (c3X a b v13) :=
 P0<|rg<|i9 0 h (fun h=>p6<|w8 t8 2 h fun E8 a4Y h=>w8 t8 6 h fun V2 c7r h=>i9 8 h (fun h=>rg<|(x8 h hc1 fun e=>x7 X9.h (hr1 _ e))) (fun h=>rg<|(x6 h hc1 fun hI=>sg [] [0,1,12,13] [] hI))) (fun h=>(x5 h hc1 fun e=>sg [] [] [] (hb1 _ e)))
noncomputable def b5l (a:List n5) (b:List n5):Option Bool :=
 (bif ((a.length:Int) != (b.length:Int)) then some false else ((q7 (fun s:Int=>b54 a b s) 0).bind fun x=>x.go (fun r=>some r) fun s=>d1b))
theorem e3g {a:List n5} {b:List n5} (r:Bool) (h:b5l a b=some r):o7 cx.P 150 [j8 2 t8 a,j8 2 t8 b] (X9.R r) (X9.O r) :=
 q9 X9.X X9.c X9.h (fun z=>p6<|i9 4 h (fun h=>rg<|fe z h) (fun h=>rg<|z3 h fun x hl hr hb=>sg [] [0,1,12,13] [] (z4 (I:=fun s:Int=>j6 cx X9.X (X9.R r) (X9.O r) c4S (c3X a b s)) hl fun s st h hc=>d8p a b _ _ x (fun s e=>e1c r (hb s e)) (fun v e=>z6 X9 (hr v e)) st hc s h)))
noncomputable def Z1:FS (Bool):=⟨151,Tryz.f151,[.val [] []],[none,none],[.val [some 2] [],.val [some 2] []],fun r=>.b r,fun _=>[none,none],Tryz.func151⟩
noncomputable def c9k:List Item:=Z1.k 4 [false,false]
noncomputable def c8H:St:=⟨(bs 26 []),[some []]⟩
noncomputable def d2b:Option Bool :=
 some true
theorem d7t (r:Bool) (h:d2b=some r):j6 cx Z1.X (Z1.R r) (Z1.O r) c9k (c8H) :=
 P0<|rg<|fe Z1.h h
noncomputable def c4k:List Item:=Z1.k 3 [false]
noncomputable def c5F (a:List m8) (b:List m8) (v13:Int):St:=⟨(j8 2 u0 a::(j8 2 u0 b::(bs 10 (vi (a.length:Int)::(vi v13::(bs 12 [])))))),[some []]⟩
noncomputable def b6N (a:List m8) (b:List m8) (v13:Int):Option (j5 Bool Int Unit) :=
 (bif decide (v13<(a.length:Int)) then ((idx a v13).bind fun put=>((idx b v13).bind fun C6=>(bif (!(([put.d9,put.c9]:List Int)==[C6.d9,C6.c9])) then some (j5.ret false) else some (j5.nxt (n8 (v13+1)))))) else some (j5.brk ()))
theorem d86 (a:List m8) (b:List m8) (res:V) (outs:t7) (x1:j9 Bool Unit) (hb1:HB cx Z1.X res outs x1 c9k (fun s=>c8H)) (hr1:HR res outs x1 Z1.R Z1.O) (st1:j5 Bool Int Unit) (hc1:t6 x1 (fun s:Int=>j6 cx Z1.X res outs c4k (c5F a b s)) st1) (v13:Int) (h:b6N a b v13=some st1):j6 cx Z1.X res outs c4k (c5F a b v13) :=
 P0<|rg<|i9 0 h (fun h=>p6<|w8 u0 2 h fun put hput h=>w8 u0 6 h fun C6 b1E h=>i9 8 h (fun h=>rg<|(x8 h hc1 fun e=>x7 Z1.h (hr1 _ e))) (fun h=>rg<|(x6 h hc1 fun hI=>sg [] [0,1,12,13] [] hI))) (fun h=>(x5 h hc1 fun e=>sg [] [] [] (hb1 _ e)))
noncomputable def b74 (a:List m8) (b:List m8):Option Bool :=
 (bif ((a.length:Int) != (b.length:Int)) then some false else ((q7 (fun s:Int=>b6N a b s) 0).bind fun x=>x.go (fun r=>some r) fun s=>d2b))
theorem e2G {a:List m8} {b:List m8} (r:Bool) (h:b74 a b=some r):o7 cx.P 151 [j8 2 u0 a,j8 2 u0 b] (Z1.R r) (Z1.O r) :=
 q9 Z1.X Z1.c Z1.h (fun z=>p6<|i9 4 h (fun h=>rg<|fe z h) (fun h=>rg<|z3 h fun x hl hr hb=>sg [] [0,1,12,13] [] (z4 (I:=fun s:Int=>j6 cx Z1.X (Z1.R r) (Z1.O r) c4k (c5F a b s)) hl fun s st h hc=>d86 a b _ _ x (fun s e=>d7t r (hb s e)) (fun v e=>z6 Z1 (hr v e)) st hc s h)))
noncomputable def a9L:FS (Bool):=⟨119,Tryz.f119,[.val [] []],[none,none],[.val W4 [],.val W4 []],fun r=>.b r,fun _=>[none,none],Tryz.func119⟩
noncomputable def b55 (a:m9) (b:m9):Option Bool :=
 ((b5l a.a7 b.a7).bind fun E8=>(bif E8 then ((b74 a.a8 b.a8).bind fun put=>(bif put then (bif (a.c9==b.c9) then some (a.Code==b.Code) else some false) else some false)) else some false))
theorem e5m {a:m9} {b:m9} (r:Bool) (h:b55 a b=some r):o7 cx.P 119 [.agg (W0 a),.agg (W0 b)] (a9L.R r) (a9L.O r) :=
 q9 a9L.X a9L.c a9L.h (fun z=>p6<|l8 X9 e3g 4 h fun E8 h=>i9 5 h (fun h=>l8 Z1 e2G 10 h fun put h=>i9 12 h (fun h=>i9 19 h (fun h=>fe z h) (fun h=>fe z h)) (fun h=>fe z h)) (fun h=>fe z h))
noncomputable def a43:FS (Bool):=⟨81,Tryz.f81,[.val [] []],[none,none],[.val T4 [],.val T4 []],fun r=>.b r,fun _=>[none,none],Tryz.func81⟩
noncomputable def a5f (a:l7) (b:l7):Option Bool :=
 (bif (a.g8==b.g8) then (bif (([a.a5.b9,a.a5.Seq]:List Int)==[b.a5.b9,b.a5.Seq]) then ((b55 a.a9 b.a9).bind fun a4e=>some a4e) else some false) else some false)
theorem b3E {a:l7} {b:l7} (r:Bool) (h:a5f a b=some r):o7 cx.P 81 [.agg (p9 a),.agg (p9 b)] (a43.R r) (a43.O r) :=
 q9 a43.X a43.c a43.h (fun z=>p6<|i9 5 h (fun h=>i9 12 h (fun h=>l8 a9L e5m 17 h fun a4e h=>fe z h) (fun h=>fe z h)) (fun h=>fe z h))
noncomputable def a4C:FS (Bool):=⟨45,Tryz.f45,[.val [] []],[none],[.val [] []],fun r=>.b r,fun _=>[none],Tryz.func45⟩
noncomputable def a6u (q:n9):Option Bool :=
 ((I6 q.b9 0 2).bind fun in_=>(bif in_ then ((I6 q.Seq 1 1000).bind fun L6=>some L6) else some false))
theorem b1S {q:n9} (r:Bool) (h:a6u q=some r):o7 cx.P 45 [.agg (G2 q)] (a4C.R r) (a4C.O r) :=
 q9 a4C.X a4C.c a4C.h (fun z=>p6<|l8 I5 L3 2 h fun in_ h=>i9 3 h (fun h=>l8 I5 L3 6 h fun L6 h=>fe z h) (fun h=>fe z h))
noncomputable def F6:FS (Bool):=⟨118,Tryz.f118,[.val [] []],[none],[.val W4 []],fun r=>.b r,fun _=>[none],Tryz.func118⟩
noncomputable def d5W:List Item:=F6.k 2 [false]
noncomputable def c6o (r_:m9):St:=⟨(bs 1 (.ptr 1 0 0::(bs 98 []))),[some [],some [.var 67 (a1U r_)]]⟩
noncomputable def d2N:List Item:=F6.k 5 [false,false]
noncomputable def c82 (r_:m9):St:=⟨(bs 1 (.ptr 1 0 0::(bs 2 (.ptr 2 0 0::(bs 95 []))))),[some [],some [.var 67 (a1U r_)],some [.arr 179 1 4 ((List.replicate 4 false).map eB)]]⟩
noncomputable def d4O:List Item:=F6.k 7 [false,false,false]
noncomputable def c7W:St:=⟨(bs 100 []),[some []]⟩
noncomputable def c6H:Option Bool :=
 some true
theorem e2m (r:Bool) (h:c6H=some r):j6 cx F6.X (F6.R r) (F6.O r) d4O (c7W) :=
 P0<|rg<|fe F6.h h
noncomputable def c0T:List Item:=F6.k 6 [false,false]
noncomputable def c0F (r_:m9) (put:List Bool) (v76:Int):St:=⟨(bs 4 (.ptr 1 0 0::(bs 69 (j8 2 u0 r_.a8::(vi (r_.a8.length:Int)::(vi v76::(bs 23 []))))))),[some [],some [.arr 179 1 4 (put.map eB)]]⟩
noncomputable def a88 (r_:m9) (put:List Bool) (v76:Int):Option (j5 Bool ((List Bool)×Int) Unit) :=
 (bif decide (v76<(r_.a8.length:Int)) then ((idx r_.a8 v76).bind fun C6=>((I6 C6.d9 0 3).bind fun in_=>(bif (!in_) then some (j5.ret false) else ((idx put C6.d9).bind fun y=>(t5 (C6.d9<4) ((bif y then some (j5.ret false) else ((I6 C6.c9 (-1000000) 1000000).bind fun L6=>(bif (!L6) then some (j5.ret false) else (t5 (C6.d9<4) (some (j5.nxt (put.set C6.d9.toNat true,n8 (v76+1)))))))))))))) else some (j5.brk ()))
theorem d6E (r_:m9) (res:V) (outs:t7) (x1:j9 Bool Unit) (hb1:HB cx F6.X res outs x1 d4O (fun s=>c7W)) (hr1:HR res outs x1 F6.R F6.O) (st1:j5 Bool ((List Bool)×Int) Unit) (hc1:t6 x1 (fun s:(List Bool)×Int=>j6 cx F6.X res outs c0T (c0F r_ s.1 s.2)) st1) (put:List Bool) (v76:Int) (h:a88 r_ put v76=some st1):j6 cx F6.X res outs c0T (c0F r_ put v76) :=
 P0<|rg<|i9 0 h (fun h=>rg<|w8 u0 0 h fun C6 b1E h=>rg<|l8 I5 L3 2 h fun in_ h=>i9 4 h (fun h=>rg<|(x8 h hc1 fun e=>x7 F6.h (hr1 _ e))) (fun h=>C4 h fun y hy h=>u6 h fun e1 h=>ob (R6 hy)<|ob e1<|ob (a0a (enc:=eB) hy)<|tl (tr 8 (eB y))<|i9 10 h (fun h=>rg<|(x8 h hc1 fun e=>x7 F6.h (hr1 _ e))) (fun h=>l8 I5 L3 13 h fun L6 h=>i9 15 h (fun h=>rg<|(x8 h hc1 fun e=>x7 F6.h (hr1 _ e))) (fun h=>rg<|u6 h fun e2 h=>ob (R6 hy)<|ob e2<|om (s6.arr 179 1 4 ((put.map eB).set (C6.d9.toNat) [.b true])=s6.arr 179 1 4 ((put.set C6.d9.toNat true).map eB)) (a8M rfl)<|ob (a0a (enc:=eB) hy)<|tl (3,{ a:=.rowck (eB y) [],e:=some (.arr 179 1 4 ((put.set C6.d9.toNat true).map eB)) })<|rg<|(x6 h hc1 fun hI=>sg [] [4,74,75,76] [(1,0)] hI))))) (fun h=>(x5 h hc1 fun e=>sg [] [] [] (hb1 _ e)))
noncomputable def b93 (r_:m9):Option Bool :=
 ((q7 (fun s:(List Bool)×Int=>a88 r_ s.1 s.2) (List.replicate 4 false,0)).bind fun x=>x.go (fun r=>some r) fun s=>c6H)
theorem e1r (r_:m9) (r:Bool) (h:b93 r_=some r):j6 cx F6.X (F6.R r) (F6.O r) d2N (c82 r_) :=
 P0<|rg<|z3 h fun x hl hr hb=>sg [] [4,74,75,76] [(2,0)] (z4 (I:=fun s:(List Bool)×Int=>j6 cx F6.X (F6.R r) (F6.O r) c0T (c0F r_ s.1 s.2)) hl fun s st h hc=>d6E r_ _ _ x (fun s e=>e2m r (hb s e)) (fun v e=>z6 F6 (hr v e)) st hc s.1 s.2 h)
noncomputable def c3v:List Item:=F6.k 4 [false]
noncomputable def b9h (r_:m9) (E8:List Bool) (v49:Int):St:=⟨(bs 1 (.ptr 1 0 0::(bs 1 (.ptr 2 0 0::(.ptr 3 0 0::(bs 42 (j8 2 t8 r_.a7::(vi (r_.a7.length:Int)::(vi v49::(bs 50 [])))))))))),[some [],some [.var 67 (a1U r_)],some [.arr 179 1 4 (E8.map eB)],some [.arr 179 1 4 ((List.replicate 4 false).map eB)]]⟩
noncomputable def a9g (r_:m9) (E8:List Bool) (v49:Int):Option (j5 Bool ((List Bool)×Int) Unit) :=
 (bif decide (v49<(r_.a7.length:Int)) then ((idx r_.a7 v49).bind fun V2=>((I6 V2.d9 0 3).bind fun N8=>(bif (!N8) then some (j5.ret false) else ((idx E8 V2.d9).bind fun y1=>(t5 (V2.d9<4) ((bif y1 then some (j5.ret false) else ((I6 V2.i6 0 1000000).bind fun a3B=>(bif (!a3B) then some (j5.ret false) else (t5 (V2.d9<4) (some (j5.nxt (E8.set V2.d9.toNat true,n8 (v49+1)))))))))))))) else some (j5.brk ()))
theorem e8p (r_:m9) (res:V) (outs:t7) (x1:j9 Bool Unit) (hb1:HB cx F6.X res outs x1 d2N (fun s=>c82 r_)) (hr1:HR res outs x1 F6.R F6.O) (st1:j5 Bool ((List Bool)×Int) Unit) (hc1:t6 x1 (fun s:(List Bool)×Int=>j6 cx F6.X res outs c3v (b9h r_ s.1 s.2)) st1) (E8:List Bool) (v49:Int) (h:a9g r_ E8 v49=some st1):j6 cx F6.X res outs c3v (b9h r_ E8 v49) :=
 P0<|rg<|i9 0 h (fun h=>rg<|w8 t8 0 h fun V2 c7r h=>rg<|l8 I5 L3 2 h fun N8 h=>i9 4 h (fun h=>rg<|(x8 h hc1 fun e=>x7 F6.h (hr1 _ e))) (fun h=>C4 h fun y1 hy1 h=>u6 h fun e3 h=>ob (R6 hy1)<|ob e3<|ob (a0a (enc:=eB) hy1)<|tl (tr 8 (eB y1))<|i9 10 h (fun h=>rg<|(x8 h hc1 fun e=>x7 F6.h (hr1 _ e))) (fun h=>l8 I5 L3 13 h fun a3B h=>i9 15 h (fun h=>rg<|(x8 h hc1 fun e=>x7 F6.h (hr1 _ e))) (fun h=>rg<|u6 h fun e4 h=>ob (R6 hy1)<|ob e4<|om (s6.arr 179 1 4 ((E8.map eB).set (V2.d9.toNat) [.b true])=s6.arr 179 1 4 ((E8.set V2.d9.toNat true).map eB)) (a8M rfl)<|ob (a0a (enc:=eB) hy1)<|tl (3,{ a:=.rowck (eB y1) [],e:=some (.arr 179 1 4 ((E8.set V2.d9.toNat true).map eB)) })<|rg<|(x6 h hc1 fun hI=>sg [] [1,3,4,47,48,49] [(1,0),(2,0),(3,0)] hI))))) (fun h=>(x5 h hc1 fun e=>sg [] [1,4] [(1,0),(3,0)] (hb1 _ e)))
noncomputable def b88 (r_:m9):Option Bool :=
 ((q7 (fun s:(List Bool)×Int=>a9g r_ s.1 s.2) (List.replicate 4 false,0)).bind fun x=>x.go (fun r=>some r) fun s=>b93 r_)
theorem e7g (r_:m9) (r:Bool) (h:b88 r_=some r):j6 cx F6.X (F6.R r) (F6.O r) d5W (c6o r_) :=
 P0<|rg<|om ((List.replicate 4 ([.b false]:List V)).flatten=[.b false,.b false,.b false,.b false]∧([.b false]:List V).length=1) ⟨rfl,rfl⟩<|om ((List.replicate 4 ([.b false]:List V)).flatten=[.b false,.b false,.b false,.b false]∧([.b false]:List V).length=1) ⟨rfl,rfl⟩<|rg<|z3 h fun x hl hr hb=>sg [] [1,3,4,47,48,49] [(1,0),(2,0),(3,0)] (z4 (I:=fun s:(List Bool)×Int=>j6 cx F6.X (F6.R r) (F6.O r) c3v (b9h r_ s.1 s.2)) hl fun s st h hc=>e8p r_ _ _ x (fun s e=>e1r r_ r (hb s e)) (fun v e=>z6 F6 (hr v e)) st hc s.1 s.2 h)
noncomputable def b0x (r_:m9):Option Bool :=
 ((((I6 r_.Code 0 3).bind fun b3x=>(bif (!b3x) then some (j9.ret false) else ((I6 r_.c9 (-1000000) 1000000).bind fun c68=>(bif (!c68) then some (j9.ret false) else (bif (r_.Code != 0) then (bif (r_.c9 != 0) then some (j9.ret false) else (bif decide ((r_.a8.length:Int)>0) then some (j9.ret false) else (bif (r_.Code==3) then (bif decide ((r_.a7.length:Int)>0) then some (j9.ret false) else some (j9.brk ())) else some (j9.brk ())))) else (bif (r_.Code==3) then (bif decide ((r_.a7.length:Int)>0) then some (j9.ret false) else some (j9.brk ())) else some (j9.brk ()))))))):Option (j9 Bool Unit)).bind fun x=>x.go some fun j=>b88 r_)
theorem b9D {r_:m9} (r:Bool) (h:b0x r_=some r):o7 cx.P 118 [.agg (W0 r_)] (F6.R r) (F6.O r) :=
 q9 F6.X F6.c F6.h (fun z=>rg<|D8 (I:=fun j:Unit=>j6 cx F6.X (F6.R r) (F6.O r) d5W (c6o r_)) h (fun j h=>e7g r_ r h) (fun x1 h hc1=>rg<|l8 I5 L3 2 h fun b3x h=>i9 4 h (fun h=>rg<|(D1 h hc1 fun h=>fe z h)) (fun h=>l8 I5 L3 7 h fun c68 h=>i9 10 h (fun h=>rg<|(D1 h hc1 fun h=>fe z h)) (fun h=>i9 14 h (fun h=>i9 18 h (fun h=>rg<|(D1 h hc1 fun h=>fe z h)) (fun h=>i9 26 h (fun h=>rg<|(D1 h hc1 fun h=>fe z h)) (fun h=>i9 30 h (fun h=>i9 36 h (fun h=>rg<|(D1 h hc1 fun h=>fe z h)) (fun h=>(s7 h hc1 fun hI=>sg [] [1] [(1,0)] hI))) (fun h=>(s7 h hc1 fun hI=>sg [] [1] [(1,0)] hI))))) (fun h=>i9 30 h (fun h=>i9 36 h (fun h=>rg<|(D1 h hc1 fun h=>fe z h)) (fun h=>(s7 h hc1 fun hI=>sg [] [1] [(1,0)] hI))) (fun h=>(s7 h hc1 fun hI=>sg [] [1] [(1,0)] hI)))))))
noncomputable def a2f:FS (Bool):=⟨80,Tryz.f80,[.val [] []],[none],[.val T4 []],fun r=>.b r,fun _=>[none],Tryz.func80⟩
noncomputable def a3C (e_:l7):Option Bool :=
 (bif e_.g8 then ((a5f e_ (l7.mk true (n9.mk 0 0) (m9.mk [] [] 0 0))).bind fun a0T=>some a0T) else ((a6u e_.a5).bind fun a68=>(bif a68 then ((b0x e_.a9).bind fun a2v=>(bif a2v then some (e_.a9.Code != 3) else some false)) else some false)))
theorem a5x {e_:l7} (r:Bool) (h:a3C e_=some r):o7 cx.P 80 [.agg (p9 e_)] (a2f.R r) (a2f.O r) :=
 q9 a2f.X a2f.c a2f.h (fun z=>p6<|i9 1 h (fun h=>rg<|l8 a43 b3E 2 h fun a0T h=>fe z h) (fun h=>rg<|l8 a4C b1S 2 h fun a68 h=>i9 3 h (fun h=>l8 F6 b9D 6 h fun a2v h=>i9 8 h (fun h=>fe z h) (fun h=>fe z h)) (fun h=>fe z h)))
noncomputable def b1a:FS (Bool):=⟨122,Tryz.f122,[.val [] []],[none],[.val a3I []],fun r=>.b r,fun _=>[none],Tryz.func122⟩
noncomputable def b8a (v_:m6):Option Bool :=
 (bif (v_.b5==0) then ((a5f v_.i0 (l7.mk false (n9.mk 0 0) (m9.mk [] [] 0 0))).bind fun a0T=>some a0T) else ((I6 v_.b5 1 3000).bind fun in_=>(bif in_ then ((a3C v_.i0).bind fun G9=>some G9) else some false)))
theorem e4w {v_:m6} (r:Bool) (h:b8a v_=some r):o7 cx.P 122 [.agg (s9 v_)] (b1a.R r) (b1a.O r) :=
 q9 b1a.X b1a.c b1a.h (fun z=>p6<|i9 2 h (fun h=>rg<|l8 a43 b3E 3 h fun a0T h=>fe z h) (fun h=>rg<|l8 I5 L3 2 h fun in_ h=>i9 3 h (fun h=>l8 a2f a5x 6 h fun G9 h=>fe z h) (fun h=>fe z h)))
noncomputable def U6:FS (Bool):=⟨83,Tryz.f83,[.val [] []],[none],[.val [some 8] []],fun r=>.b r,fun _=>[none],Tryz.func83⟩
noncomputable def d19:List Item:=U6.k 3 [false]
noncomputable def d1h (i8:List m6):St:=⟨(j8 8 s9 i8::(bs 17 [])),[some []]⟩
noncomputable def c1R (i8:List m6):Option Bool :=
 some (decide ((i8.length:Int)≤40))
theorem e1v (i8:List m6) (r:Bool) (h:c1R i8=some r):j6 cx U6.X (U6.R r) (U6.O r) d19 (d1h i8) :=
 P0<|rg<|fe U6.h h
noncomputable def c1N:List Item:=U6.k 2 []
noncomputable def c2b (i8:List m6) (v7:Int):St:=⟨(j8 8 s9 i8::(bs 4 (j8 8 s9 i8::(vi (i8.length:Int)::(vi v7::(bs 10 [])))))),[some []]⟩
noncomputable def b6Q (i8:List m6) (v7:Int):Option (j5 Bool Int Unit) :=
 (bif decide (v7<(i8.length:Int)) then ((idx i8 v7).bind fun F7=>((b8a F7).bind fun a1G=>(bif (!a1G) then some (j5.ret false) else some (j5.nxt (n8 (v7+1)))))) else some (j5.brk ()))
theorem e1y (i8:List m6) (res:V) (outs:t7) (x1:j9 Bool Unit) (hb1:HB cx U6.X res outs x1 d19 (fun s=>d1h i8)) (hr1:HR res outs x1 U6.R U6.O) (st1:j5 Bool Int Unit) (hc1:t6 x1 (fun s:Int=>j6 cx U6.X res outs c1N (c2b i8 s)) st1) (v7:Int) (h:b6Q i8 v7=some st1):j6 cx U6.X res outs c1N (c2b i8 v7) :=
 P0<|rg<|i9 0 h (fun h=>rg<|w8 s9 0 h fun F7 a0C h=>rg<|l8 b1a e4w 1 h fun a1G h=>i9 2 h (fun h=>rg<|(x8 h hc1 fun e=>x7 U6.h (hr1 _ e))) (fun h=>rg<|(x6 h hc1 fun hI=>sg [] [0,5,6,7] [] hI))) (fun h=>(x5 h hc1 fun e=>sg [] [0] [] (hb1 _ e)))
noncomputable def b0Z (i8:List m6):Option Bool :=
 ((q7 (fun s:Int=>b6Q i8 s) 0).bind fun x=>x.go (fun r=>some r) fun s=>c1R i8)
theorem c4X {i8:List m6} (r:Bool) (h:b0Z i8=some r):o7 cx.P 83 [j8 8 s9 i8] (U6.R r) (U6.O r) :=
 q9 U6.X U6.c U6.h (fun z=>p6<|z3 h fun x hl hr hb=>sg [] [0,5,6,7] [] (z4 (I:=fun s:Int=>j6 cx U6.X (U6.R r) (U6.O r) c1N (c2b i8 s)) hl fun s st h hc=>e1y i8 _ _ x (fun s e=>e1v i8 r (hb s e)) (fun v e=>z6 U6 (hr v e)) st hc s h))
noncomputable def V9:FS (Bool):=⟨79,Tryz.f79,[.val [] []],[none],[.val [none,some 8] []],fun r=>.b r,fun _=>[none],Tryz.func79⟩
noncomputable def c9m:List Item:=V9.k 3 [false]
noncomputable def c7H (a:A4):St:=⟨(bs 1 (.ptr 1 0 0::(bs 24 []))),[some [],some [.var 89 [vi a.g7,j8 8 s9 a.a0]]]⟩
noncomputable def c4m (a:A4):Option Bool :=
 ((I6 a.g7 0 3000).bind fun in_=>(bif in_ then ((b0Z a.a0).bind fun R8=>some R8) else some false))
theorem d7p (a:A4) (r:Bool) (h:c4m a=some r):j6 cx V9.X (V9.R r) (V9.O r) c9m (c7H a) :=
 P0<|rg<|l8 I5 L3 2 h fun in_ h=>i9 3 h (fun h=>l8 U6 c4X 6 h fun R8 h=>fe V9.h h) (fun h=>fe V9.h h)
noncomputable def c1Y:List Item:=V9.k 2 []
noncomputable def c3d (a:A4) (v8:Int):St:=⟨(bs 1 (.ptr 1 0 0::(bs 4 (j8 8 s9 a.a0::(vi (a.a0.length:Int)::(vi v8::(bs 17 []))))))),[some [],some [.var 89 [vi a.g7,j8 8 s9 a.a0]]]⟩
noncomputable def b5Y (a:A4) (v8:Int):Option (j5 Bool Int Unit) :=
 (bif decide (v8<(a.a0.length:Int)) then ((idx a.a0 v8).bind fun F7=>(bif decide (F7.b5>a.g7) then some (j5.ret false) else some (j5.nxt (n8 (v8+1))))) else some (j5.brk ()))
theorem e4Z (a:A4) (res:V) (outs:t7) (x1:j9 Bool Unit) (hb1:HB cx V9.X res outs x1 c9m (fun s=>c7H a)) (hr1:HR res outs x1 V9.R V9.O) (st1:j5 Bool Int Unit) (hc1:t6 x1 (fun s:Int=>j6 cx V9.X res outs c1Y (c3d a s)) st1) (v8:Int) (h:b5Y a v8=some st1):j6 cx V9.X res outs c1Y (c3d a v8) :=
 P0<|rg<|i9 0 h (fun h=>rg<|w8 s9 0 h fun F7 a0C h=>rg<|i9 4 h (fun h=>rg<|(x8 h hc1 fun e=>x7 V9.h (hr1 _ e))) (fun h=>rg<|(x6 h hc1 fun hI=>sg [] [1,6,7,8] [(1,0)] hI))) (fun h=>(x5 h hc1 fun e=>sg [] [1] [(1,0)] (hb1 _ e)))
noncomputable def b7q (a:A4):Option Bool :=
 ((q7 (fun s:Int=>b5Y a s) 0).bind fun x=>x.go (fun r=>some r) fun s=>c4m a)
theorem e8b {a:A4} (r:Bool) (h:b7q a=some r):o7 cx.P 79 [.agg (a47 a)] (V9.R r) (V9.O r) :=
 q9 V9.X V9.c V9.h (fun z=>p6<|z3 h fun x hl hr hb=>sg [] [1,6,7,8] [(1,0)] (z4 (I:=fun s:Int=>j6 cx V9.X (V9.R r) (V9.O r) c1Y (c3d a s)) hl fun s st h hc=>e4Z a _ _ x (fun s e=>d7p a r (hb s e)) (fun v e=>z6 V9 (hr v e)) st hc s h))
noncomputable def V5:FS (Bool):=⟨49,Tryz.f49,[.val [] []],[none],[.val [some 7] []],fun r=>.b r,fun _=>[none],Tryz.func49⟩
noncomputable def d25:List Item:=V5.k 3 [false]
noncomputable def d4J (i8:List l7):St:=⟨(j8 7 p9 i8::(bs 17 [])),[some []]⟩
noncomputable def c4a (i8:List l7):Option Bool :=
 some (decide ((i8.length:Int)≤40))
theorem e3d (i8:List l7) (r:Bool) (h:c4a i8=some r):j6 cx V5.X (V5.R r) (V5.O r) d25 (d4J i8) :=
 P0<|rg<|fe V5.h h
noncomputable def c0H:List Item:=V5.k 2 []
noncomputable def c4r (i8:List l7) (v7:Int):St:=⟨(j8 7 p9 i8::(bs 4 (j8 7 p9 i8::(vi (i8.length:Int)::(vi v7::(bs 10 [])))))),[some []]⟩
noncomputable def b64 (i8:List l7) (v7:Int):Option (j5 Bool Int Unit) :=
 (bif decide (v7<(i8.length:Int)) then ((idx i8 v7).bind fun z7=>((a3C z7).bind fun G9=>(bif (!G9) then some (j5.ret false) else some (j5.nxt (n8 (v7+1)))))) else some (j5.brk ()))
theorem d88 (i8:List l7) (res:V) (outs:t7) (x1:j9 Bool Unit) (hb1:HB cx V5.X res outs x1 d25 (fun s=>d4J i8)) (hr1:HR res outs x1 V5.R V5.O) (st1:j5 Bool Int Unit) (hc1:t6 x1 (fun s:Int=>j6 cx V5.X res outs c0H (c4r i8 s)) st1) (v7:Int) (h:b64 i8 v7=some st1):j6 cx V5.X res outs c0H (c4r i8 v7) :=
 P0<|rg<|i9 0 h (fun h=>rg<|w8 p9 0 h fun z7 J6 h=>rg<|l8 a2f a5x 1 h fun G9 h=>i9 2 h (fun h=>rg<|(x8 h hc1 fun e=>x7 V5.h (hr1 _ e))) (fun h=>rg<|(x6 h hc1 fun hI=>sg [] [0,5,6,7] [] hI))) (fun h=>(x5 h hc1 fun e=>sg [] [0] [] (hb1 _ e)))
noncomputable def a95 (i8:List l7):Option Bool :=
 ((q7 (fun s:Int=>b64 i8 s) 0).bind fun x=>x.go (fun r=>some r) fun s=>c4a i8)
theorem c3l {i8:List l7} (r:Bool) (h:a95 i8=some r):o7 cx.P 49 [j8 7 p9 i8] (V5.R r) (V5.O r) :=
 q9 V5.X V5.c V5.h (fun z=>p6<|z3 h fun x hl hr hb=>sg [] [0,5,6,7] [] (z4 (I:=fun s:Int=>j6 cx V5.X (V5.R r) (V5.O r) c0H (c4r i8 s)) hl fun s st h hc=>d88 i8 _ _ x (fun s e=>e3d i8 r (hb s e)) (fun v e=>z6 V5 (hr v e)) st hc s h))
noncomputable def a2k:FS (Bool):=⟨123,Tryz.f123,[.val [] []],[none],[.val [] []],fun r=>.b r,fun _=>[none],Tryz.func123⟩
noncomputable def a36 (n:Int):Option Bool :=
 ((I6 n 0 3).bind fun in_=>some in_)
theorem a5D {n:Int} (r:Bool) (h:a36 n=some r):o7 cx.P 123 [vi n] (a2k.R r) (a2k.O r) :=
 q9 a2k.X a2k.c a2k.h (fun z=>p6<|l8 I5 L3 1 h fun in_ h=>fe z h)
noncomputable def a8K:FS (Bool):=⟨124,Tryz.f124,[.val [] []],[none],[.val [] []],fun r=>.b r,fun _=>[none],Tryz.func124⟩
noncomputable def b6X (n:Int):Option Bool :=
 ((I6 n 0 3).bind fun in_=>some in_)
theorem d0H {n:Int} (r:Bool) (h:b6X n=some r):o7 cx.P 124 [vi n] (a8K.R r) (a8K.O r) :=
 q9 a8K.X a8K.c a8K.h (fun z=>p6<|l8 I5 L3 1 h fun in_ h=>fe z h)
noncomputable def a9a:FS (Bool):=⟨84,Tryz.f84,[.val [] []],[none],[.val [] []],fun r=>.b r,fun _=>[none],Tryz.func84⟩
noncomputable def b5a (x_:m5):Option Bool :=
 (bif (x_.b7==1) then ((a36 x_.A).bind fun c1=>(bif c1 then ((b6X x_.B).bind fun c2=>(bif c2 then some (x_.N==0) else some false)) else some false)) else (bif (x_.b7==2) then ((b6X x_.A).bind fun c21=>(bif c21 then ((a36 x_.B).bind fun c11=>(bif c11 then some (x_.N==0) else some false)) else some false)) else (bif (x_.b7==3) then ((a36 x_.A).bind fun c12=>(bif c12 then (bif (x_.B==0) then ((I6 x_.N (-1000000) 1000000).bind fun in_=>some in_) else some false) else some false)) else (bif (x_.b7==4) then ((a36 x_.A).bind fun c13=>(bif c13 then ((a36 x_.B).bind fun c14=>(bif c14 then some (x_.N==0) else some false)) else some false)) else (bif (x_.b7==5) then ((a36 x_.A).bind fun c15=>(bif c15 then ((a36 x_.B).bind fun c16=>(bif c16 then some (x_.N==0) else some false)) else some false)) else (bif (x_.b7==6) then ((a36 x_.A).bind fun c17=>(bif c17 then ((a36 x_.B).bind fun c18=>(bif c18 then ((I6 x_.N 1 10).bind fun L6=>some L6) else some false)) else some false)) else (bif (x_.b7==7) then (bif (x_.A==0) then (bif (x_.B==0) then some (x_.N==0) else some false) else some false) else some false)))))))
set_option maxRecDepth 20000 in
theorem e0Z {x_:m5} (r:Bool) (h:b5a x_=some r):o7 cx.P 84 [.agg (A3 x_)] (a9a.R r) (a9a.O r) :=
 q9 a9a.X a9a.c a9a.h (fun z=>rg4<|rg<|i9 1 h (fun h=>rg<|l8 a2k a5D 3 h fun c1 h=>i9 4 h (fun h=>l8 a8K d0H 8 h fun c2 h=>i9 10 h (fun h=>fe z h) (fun h=>fe z h)) (fun h=>fe z h)) (fun h=>rg<|i9 1 h (fun h=>rg<|l8 a8K d0H 3 h fun c21 h=>i9 4 h (fun h=>l8 a2k a5D 8 h fun c11 h=>i9 10 h (fun h=>fe z h) (fun h=>fe z h)) (fun h=>fe z h)) (fun h=>rg<|i9 1 h (fun h=>rg<|l8 a2k a5D 3 h fun c12 h=>i9 4 h (fun h=>i9 9 h (fun h=>l8 I5 L3 12 h fun in_ h=>fe z h) (fun h=>fe z h)) (fun h=>fe z h)) (fun h=>rg<|i9 1 h (fun h=>rg<|l8 a2k a5D 3 h fun c13 h=>i9 4 h (fun h=>l8 a2k a5D 8 h fun c14 h=>i9 10 h (fun h=>fe z h) (fun h=>fe z h)) (fun h=>fe z h)) (fun h=>rg<|i9 1 h (fun h=>rg<|l8 a2k a5D 3 h fun c15 h=>i9 4 h (fun h=>l8 a2k a5D 8 h fun c16 h=>i9 10 h (fun h=>fe z h) (fun h=>fe z h)) (fun h=>fe z h)) (fun h=>rg<|i9 1 h (fun h=>rg<|l8 a2k a5D 3 h fun c17 h=>i9 4 h (fun h=>l8 a2k a5D 8 h fun c18 h=>i9 10 h (fun h=>l8 I5 L3 13 h fun L6 h=>fe z h) (fun h=>fe z h)) (fun h=>fe z h)) (fun h=>rg<|i9 1 h (fun h=>rg<|i9 3 h (fun h=>i9 8 h (fun h=>fe z h) (fun h=>fe z h)) (fun h=>fe z h)) (fun h=>rg<|fe z h))))))))
noncomputable def U5:FS (Bool):=⟨46,Tryz.f46,[.val [] []],[none],[.val [some 4] []],fun r=>.b r,fun _=>[none],Tryz.func46⟩
noncomputable def d5i:List Item:=U5.k 3 [false]
noncomputable def d2n (i8:List m5):St:=⟨(j8 4 A3 i8::(bs 17 [])),[some []]⟩
noncomputable def c22 (i8:List m5):Option Bool :=
 some (decide ((i8.length:Int)≤10))
theorem e3O (i8:List m5) (r:Bool) (h:c22 i8=some r):j6 cx U5.X (U5.R r) (U5.O r) d5i (d2n i8) :=
 P0<|rg<|fe U5.h h
noncomputable def b90:List Item:=U5.k 2 []
noncomputable def c08 (i8:List m5) (v7:Int):St:=⟨(j8 4 A3 i8::(bs 4 (j8 4 A3 i8::(vi (i8.length:Int)::(vi v7::(bs 10 [])))))),[some []]⟩
noncomputable def b5H (i8:List m5) (v7:Int):Option (j5 Bool Int Unit) :=
 (bif decide (v7<(i8.length:Int)) then ((idx i8 v7).bind fun ins=>((b5a ins).bind fun W6=>(bif (!W6) then some (j5.ret false) else some (j5.nxt (n8 (v7+1)))))) else some (j5.brk ()))
theorem e8r (i8:List m5) (res:V) (outs:t7) (x1:j9 Bool Unit) (hb1:HB cx U5.X res outs x1 d5i (fun s=>d2n i8)) (hr1:HR res outs x1 U5.R U5.O) (st1:j5 Bool Int Unit) (hc1:t6 x1 (fun s:Int=>j6 cx U5.X res outs b90 (c08 i8 s)) st1) (v7:Int) (h:b5H i8 v7=some st1):j6 cx U5.X res outs b90 (c08 i8 v7) :=
 P0<|rg<|i9 0 h (fun h=>rg<|w8 A3 0 h fun ins hins h=>rg<|l8 a9a e0Z 1 h fun W6 h=>i9 2 h (fun h=>rg<|(x8 h hc1 fun e=>x7 U5.h (hr1 _ e))) (fun h=>rg<|(x6 h hc1 fun hI=>sg [] [0,5,6,7] [] hI))) (fun h=>(x5 h hc1 fun e=>sg [] [0] [] (hb1 _ e)))
noncomputable def b0q (i8:List m5):Option Bool :=
 ((q7 (fun s:Int=>b5H i8 s) 0).bind fun x=>x.go (fun r=>some r) fun s=>c22 i8)
theorem c3F {i8:List m5} (r:Bool) (h:b0q i8=some r):o7 cx.P 46 [j8 4 A3 i8] (U5.R r) (U5.O r) :=
 q9 U5.X U5.c U5.h (fun z=>p6<|z3 h fun x hl hr hb=>sg [] [0,5,6,7] [] (z4 (I:=fun s:Int=>j6 cx U5.X (U5.R r) (U5.O r) b90 (c08 i8 s)) hl fun s st h hc=>e8r i8 _ _ x (fun s e=>e3O i8 r (hb s e)) (fun v e=>z6 U5 (hr v e)) st hc s h))
noncomputable def a9X:FS (Int):=⟨120,Tryz.f120,[.val [] []],[none],[.val [] []],fun r=>vi r,fun _=>[none],Tryz.func120⟩
noncomputable def b7N (bal:Int):Option Int :=
 ((I6 bal 1 3000).bind fun in_=>(bif (!in_) then some (-1) else some (Int.tmod bal 3)))
theorem d75 {bal:Int} (r:Int) (h:b7N bal=some r):o7 cx.P 120 [vi bal] (a9X.R r) (a9X.O r) :=
 q9 a9X.X a9X.c a9X.h (fun z=>p6<|l8 I5 L3 1 h fun in_ h=>i9 2 h (fun h=>rg<|fe z h) (fun h=>rg<|om (3≠(0:Int)) (by decide)<|fe z h))
noncomputable def a8k:FS (Bool):=⟨121,Tryz.f121,[.val [] []],[none,none],[.val [some 1] [],.val [] []],fun r=>.b r,fun _=>[none,none],Tryz.func121⟩
noncomputable def b3O (i8:List Bool) (id:Int):Option Bool :=
 (bif ((i8.length:Int)==3) then ((idx i8 id).bind fun y=>some y) else some false)
theorem d1I {i8:List Bool} {id:Int} (r:Bool) (h:b3O i8 id=some r):o7 cx.P 121 [j8 1 eB i8,vi id] (a8k.R r) (a8k.O r) :=
 q9 a8k.X a8k.c a8k.h (fun z=>p6<|i9 3 h (fun h=>w8 eB 6 h fun y hy h=>fe z h) (fun h=>fe z h))
noncomputable def O8:FS (Bool):=⟨82,Tryz.f82,[.val [] []],[none],[.val N3 []],fun r=>.b r,fun _=>[none],Tryz.func82⟩
noncomputable def d5t:List Item:=O8.k 2 []
noncomputable def c8g (n:j3) (a7a:Bool):St:=⟨(bs 1 (.ptr 1 0 0::(bs 1 (.b a7a::(bs 92 []))))),[some [],some [.var 92 (a78 n)]]⟩
noncomputable def b7H (n:j3) (a7a:Bool):Option Bool :=
 (bif (n.d8==0) then (bif (n.b5==0) then (bif ((n.b6.length:Int)==0) then (bif ((n.i5.length:Int)==0) then some a7a else some false) else some false) else some false) else ((b7N n.b5).bind fun b3V=>(bif (b3V != n.Id) then some false else (bif decide (n.b5>n.Acc.g7) then some false else ((b0Z n.i5).bind fun R8=>(bif (!R8) then some false else (bif (n.d8==1) then ((b3O n.b6 n.Id).bind fun d0Q=>(bif d0Q then some a7a else some false)) else (bif (n.d8==2) then (bif ((n.b6.length:Int)==0) then some a7a else some false) else (bif (n.d8==3) then (bif ((n.b6.length:Int)==0) then ((a3C n.d6).bind fun G9=>(bif G9 then ((b3O n.a0 n.Id).bind fun d1S=>(bif d1S then some (decide ((n.a6.length:Int)<40)) else some false)) else some false)) else some false) else some false)))))))))
theorem e23 (n:j3) (r:Bool) (a7a:Bool) (h:b7H n a7a=some r):j6 cx O8.X (O8.R r) (O8.O r) d5t (c8g n a7a) :=
 P0<|p6<|i9 2 h (fun h=>rg<|i9 3 h (fun h=>i9 6 h (fun h=>i9 12 h (fun h=>fe O8.h h) (fun h=>fe O8.h h)) (fun h=>fe O8.h h)) (fun h=>fe O8.h h)) (fun h=>rg<|l8 a9X d75 2 h fun b3V h=>i9 6 h (fun h=>rg<|fe O8.h h) (fun h=>i9 14 h (fun h=>rg<|fe O8.h h) (fun h=>l8 U6 c4X 17 h fun R8 h=>i9 19 h (fun h=>rg<|fe O8.h h) (fun h=>p6<|i9 1 h (fun h=>rg<|l8 a8k d1I 4 h fun d0Q h=>i9 5 h (fun h=>fe O8.h h) (fun h=>fe O8.h h)) (fun h=>rg<|i9 1 h (fun h=>rg<|i9 1 h (fun h=>fe O8.h h) (fun h=>fe O8.h h)) (fun h=>rg<|i9 1 h (fun h=>rg<|i9 1 h (fun h=>l8 a2f a5x 4 h fun G9 h=>i9 6 h (fun h=>l8 a8k d1I 11 h fun d1S h=>i9 13 h (fun h=>fe O8.h h) (fun h=>fe O8.h h)) (fun h=>fe O8.h h)) (fun h=>fe O8.h h)) (fun h=>rg<|fe O8.h h)))))))
noncomputable def b3B (n:j3):Option Bool :=
 ((((a5f n.d6 (l7.mk false (n9.mk 0 0) (m9.mk [] [] 0 0))).bind fun a0T=>(bif a0T then some (j9.brk ((n.a0.length:Int)==0)) else some (j9.brk false))):Option (j9 Bool Bool)).bind fun x=>x.go some fun j=>b7H n j)
theorem e02 {n:j3} (r:Bool) (h:b3B n=some r):o7 cx.P 82 [.agg (T9 n)] (O8.R r) (O8.O r) :=
 q9 O8.X O8.c O8.h (fun z=>rg<|D8 (I:=fun j:Bool=>j6 cx O8.X (O8.R r) (O8.O r) d5t (c8g n j)) h (fun j h=>e23 n r j h) (fun x1 h hc1=>rg<|l8 a43 b3E 3 h fun a0T h=>i9 4 h (fun h=>(s7 h hc1 fun hI=>sg [] [1,3] [(1,0)] hI)) (fun h=>(s7 h hc1 fun hI=>sg [] [1,3] [(1,0)] hI))))
noncomputable def J9:FS (Bool):=⟨43,Tryz.f43,[.val [] []],[none],[.val N3 []],fun r=>.b r,fun _=>[none],Tryz.func43⟩
noncomputable def d5u:List Item:=J9.k 4 [false,false]
noncomputable def c8A (n:j3):St:=⟨(bs 1 (.ptr 1 0 0::(bs 87 []))),[some [],some [.var 92 (a78 n)]]⟩
noncomputable def d2K:List Item:=J9.k 6 [false,false,true,false]
noncomputable def c80 (n:j3):St:=⟨(bs 1 (.ptr 1 0 0::(bs 87 []))),[some [],some [.var 92 (a78 n)]]⟩
noncomputable def c5y (n:j3):Option Bool :=
 ((b3B n).bind fun a2d=>some a2d)
theorem e8g (n:j3) (r:Bool) (h:c5y n=some r):j6 cx J9.X (J9.R r) (J9.O r) d2K (c80 n) :=
 P0<|rg<|l8 O8 e02 1 h fun a2d h=>fe J9.h h
noncomputable def b8w (n:j3):Option Bool :=
 (((bif n.i7 then ((b0q n.i4).bind fun H7=>(bif (!H7) then some (j9.ret false) else ((a3C n.c8).bind fun G9=>(bif (!G9) then some (j9.ret false) else (bif n.c8.g8 then some (j9.ret false) else (bif (!(([n.c8.a5.b9,n.c8.a5.Seq]:List Int)==[n.Id,n.Seq])) then some (j9.ret false) else some (j9.brk ()))))))) else (bif decide ((n.i4.length:Int)>0) then some (j9.ret false) else ((a5f n.c8 (l7.mk false (n9.mk 0 0) (m9.mk [] [] 0 0))).bind fun a0T=>(bif (!a0T) then some (j9.ret false) else some (j9.brk ()))))):Option (j9 Bool Unit)).bind fun x=>x.go some fun j=>c5y n)
theorem d8h (n:j3) (r:Bool) (h:b8w n=some r):j6 cx J9.X (J9.R r) (J9.O r) d5u (c8A n) :=
 P0<|D8 (I:=fun j:Unit=>j6 cx J9.X (J9.R r) (J9.O r) d2K (c80 n)) h (fun j h=>e8g n r h) (fun x1 h hc1=>rg<|i9 1 h (fun h=>rg<|l8 U5 c3F 2 h fun H7 h=>i9 4 h (fun h=>rg<|(D1 h hc1 fun h=>fe J9.h h)) (fun h=>l8 a2f a5x 7 h fun G9 h=>i9 10 h (fun h=>rg<|(D1 h hc1 fun h=>fe J9.h h)) (fun h=>i9 15 h (fun h=>rg<|(D1 h hc1 fun h=>fe J9.h h)) (fun h=>i9 25 h (fun h=>rg<|(D1 h hc1 fun h=>fe J9.h h)) (fun h=>(s7 h hc1 fun hI=>sg [] [1] [(1,0)] hI)))))) (fun h=>rg<|i9 4 h (fun h=>rg<|(D1 h hc1 fun h=>fe J9.h h)) (fun h=>l8 a43 b3E 8 h fun a0T h=>i9 10 h (fun h=>rg<|(D1 h hc1 fun h=>fe J9.h h)) (fun h=>(s7 h hc1 fun hI=>sg [] [1] [(1,0)] hI)))))
noncomputable def c0J:List Item:=J9.k 3 [false]
noncomputable def c3Z (n:j3) (v36:Int):St:=⟨(bs 1 (.ptr 1 0 0::(bs 32 (j8 7 p9 n.b8::(vi (n.b8.length:Int)::(vi v36::(bs 52 []))))))),[some [],some [.var 92 (a78 n)]]⟩
noncomputable def b6o (n:j3) (v36:Int):Option (j5 Bool Int Unit) :=
 (bif decide (v36<(n.b8.length:Int)) then ((idx n.b8 v36).bind fun z7=>((a3C z7).bind fun a4f=>(bif (!a4f) then some (j5.ret false) else (bif z7.g8 then some (j5.ret false) else some (j5.nxt (n8 (v36+1))))))) else some (j5.brk ()))
theorem e7y (n:j3) (res:V) (outs:t7) (x1:j9 Bool Unit) (hb1:HB cx J9.X res outs x1 d5u (fun s=>c8A n)) (hr1:HR res outs x1 J9.R J9.O) (st1:j5 Bool Int Unit) (hc1:t6 x1 (fun s:Int=>j6 cx J9.X res outs c0J (c3Z n s)) st1) (v36:Int) (h:b6o n v36=some st1):j6 cx J9.X res outs c0J (c3Z n v36) :=
 P0<|rg<|i9 0 h (fun h=>rg<|w8 p9 0 h fun z7 J6 h=>rg<|l8 a2f a5x 1 h fun a4f h=>i9 3 h (fun h=>rg<|(x8 h hc1 fun e=>x7 J9.h (hr1 _ e))) (fun h=>i9 6 h (fun h=>rg<|(x8 h hc1 fun e=>x7 J9.h (hr1 _ e))) (fun h=>rg<|(x6 h hc1 fun hI=>sg [] [1,34,35,36] [(1,0)] hI)))) (fun h=>(x5 h hc1 fun e=>sg [] [1] [(1,0)] (hb1 _ e)))
noncomputable def b82 (n:j3):Option Bool :=
 ((I6 n.Id 0 2).bind fun in_=>(bif (!in_) then some false else ((b7q n.Acc).bind fun a1W=>(bif (!a1W) then some false else ((a95 n.a6).bind fun I9=>(bif (!I9) then some false else ((I6 n.Seq 0 1000).bind fun L6=>(bif (!L6) then some false else (bif decide ((n.b8.length:Int)>4) then some false else ((q7 (fun s:Int=>b6o n s) 0).bind fun x=>x.go (fun r=>some r) fun s=>b8w n))))))))))
theorem d7n {n:j3} (r:Bool) (h:b82 n=some r):o7 cx.P 43 [.agg (T9 n)] (J9.R r) (J9.O r) :=
 q9 J9.X J9.c J9.h (fun z=>p6<|l8 I5 L3 2 h fun in_ h=>i9 4 h (fun h=>rg<|fe z h) (fun h=>l8 V9 e8b 7 h fun a1W h=>i9 10 h (fun h=>rg<|fe z h) (fun h=>l8 V5 c3l 13 h fun I9 h=>i9 16 h (fun h=>rg<|fe z h) (fun h=>l8 I5 L3 19 h fun L6 h=>i9 22 h (fun h=>rg<|fe z h) (fun h=>i9 27 h (fun h=>rg<|fe z h) (fun h=>rg<|z3 h fun x hl hr hb=>sg [] [1,34,35,36] [(1,0)] (z4 (I:=fun s:Int=>j6 cx J9.X (J9.R r) (J9.O r) c0J (c3Z n s)) hl fun s st h hc=>e7y n _ _ x (fun s e=>d8h n r (hb s e)) (fun v e=>z6 J9 (hr v e)) st hc s h)))))))
noncomputable def a94:FS (Bool):=⟨44,Tryz.f44,[.val [] []],[none],[.val G0 []],fun r=>.b r,fun _=>[none],Tryz.func44⟩
noncomputable def b5I (m:j7):Option Bool :=
 ((I6 m.b6 0 2).bind fun in_=>(bif (!in_) then some false else ((I6 m.To 0 2).bind fun L6=>(bif (!L6) then some false else (bif (m.b6==m.To) then some false else ((I6 m.g9 0 40).bind fun N8=>(bif (!N8) then some false else ((I6 m.b5 1 3000).bind fun a3B=>((a5f m.i0 (l7.mk false (n9.mk 0 0) (m9.mk [] [] 0 0))).bind fun a0T=>(bif (m.b7==1) then (bif a3B then (bif a0T then some ((m.a0.length:Int)==0) else some false) else some false) else (bif (m.b7==4) then (bif a3B then (bif a0T then some ((m.a0.length:Int)==0) else some false) else some false) else (bif (m.b7==2) then (bif a3B then (bif a0T then ((b0Z m.a0).bind fun R8=>(bif R8 then some (decide ((n8 (m.g9+(m.a0.length:Int)))≤40)) else some false)) else some false) else some false) else (bif (m.b7==3) then (bif a3B then (bif decide (m.g9<40) then ((a3C m.i0).bind fun G9=>(bif G9 then some ((m.a0.length:Int)==0) else some false)) else some false) else some false) else (bif (m.b7==5) then (bif (m.b5==0) then (bif decide (m.g9<40) then ((a3C m.i0).bind fun a4f=>(bif a4f then some ((m.a0.length:Int)==0) else some false)) else some false) else some false) else (bif (m.b7==6) then (bif a3B then (bif (m.g9==0) then (bif a0T then some ((m.a0.length:Int)==0) else some false) else some false) else some false) else (bif (m.b7==7) then (bif (m.b5==0) then (bif (m.g9==0) then ((a3C m.i0).bind fun d2p=>(bif d2p then (bif (!m.i0.g8) then some ((m.a0.length:Int)==0) else some false) else some false)) else some false) else some false) else (bif (m.b7==8) then (bif (m.b5==0) then (bif a0T then some ((m.a0.length:Int)==0) else some false) else some false) else some false)))))))))))))))))
set_option maxRecDepth 20000 in
theorem e1n {m:j7} (r:Bool) (h:b5I m=some r):o7 cx.P 44 [.agg (w9 m)] (a94.R r) (a94.O r) :=
 q9 a94.X a94.c a94.h (fun z=>p6<|l8 I5 L3 2 h fun in_ h=>i9 4 h (fun h=>rg<|fe z h) (fun h=>l8 I5 L3 7 h fun L6 h=>i9 10 h (fun h=>rg<|fe z h) (fun h=>i9 17 h (fun h=>rg<|fe z h) (fun h=>l8 I5 L3 20 h fun N8 h=>i9 22 h (fun h=>rg<|fe z h) (fun h=>rg<|l8 I5 L3 2 h fun a3B h=>rg<|l8 a43 b3E 3 h fun a0T h=>rg3<|i9 1 h (fun h=>rg<|i9 1 h (fun h=>i9 4 h (fun h=>fe z h) (fun h=>fe z h)) (fun h=>fe z h)) (fun h=>rg<|i9 1 h (fun h=>rg<|i9 1 h (fun h=>i9 4 h (fun h=>fe z h) (fun h=>fe z h)) (fun h=>fe z h)) (fun h=>rg<|i9 1 h (fun h=>rg<|i9 1 h (fun h=>i9 4 h (fun h=>l8 U6 c4X 7 h fun R8 h=>i9 9 h (fun h=>fe z h) (fun h=>fe z h)) (fun h=>fe z h)) (fun h=>fe z h)) (fun h=>rg<|i9 1 h (fun h=>rg<|i9 1 h (fun h=>i9 6 h (fun h=>l8 a2f a5x 9 h fun G9 h=>i9 11 h (fun h=>fe z h) (fun h=>fe z h)) (fun h=>fe z h)) (fun h=>fe z h)) (fun h=>rg<|i9 1 h (fun h=>rg<|i9 3 h (fun h=>i9 8 h (fun h=>l8 a2f a5x 11 h fun a4f h=>i9 13 h (fun h=>fe z h) (fun h=>fe z h)) (fun h=>fe z h)) (fun h=>fe z h)) (fun h=>rg<|i9 1 h (fun h=>rg<|i9 1 h (fun h=>i9 6 h (fun h=>i9 9 h (fun h=>fe z h) (fun h=>fe z h)) (fun h=>fe z h)) (fun h=>fe z h)) (fun h=>rg<|i9 1 h (fun h=>rg<|i9 3 h (fun h=>i9 8 h (fun h=>l8 a2f a5x 11 h fun d2p h=>i9 13 h (fun h=>i9 19 h (fun h=>fe z h) (fun h=>fe z h)) (fun h=>fe z h)) (fun h=>fe z h)) (fun h=>fe z h)) (fun h=>rg<|i9 1 h (fun h=>rg<|i9 3 h (fun h=>i9 6 h (fun h=>fe z h) (fun h=>fe z h)) (fun h=>fe z h)) (fun h=>rg<|fe z h)))))))))))))
noncomputable def B7:FS (Bool):=⟨20,Tryz.f20,[.val [] []],[none],[.val P2 []],fun r=>.b r,fun _=>[none],Tryz.func20⟩
noncomputable def d1y:List Item:=B7.k 4 [false,false]
noncomputable def c9E (w:m3):St:=⟨(bs 1 (.ptr 1 0 0::(bs 116 []))),[some [],some [.var 28 (M0 w)]]⟩
noncomputable def d3a:List Item:=B7.k 6 [false,false,false]
noncomputable def d36 (w:m3):St:=⟨(bs 1 (.ptr 1 0 0::(bs 116 []))),[some [],some [.var 28 (M0 w)]]⟩
noncomputable def d0m:List Item:=B7.k 8 [false,false,false,false]
noncomputable def d1w (w:m3):St:=⟨(bs 1 (.ptr 1 0 0::(bs 116 []))),[some [],some [.var 28 (M0 w)]]⟩
noncomputable def d5E:List Item:=B7.k 10 [false,false,false,false,false]
noncomputable def c8Z:St:=⟨(bs 118 []),[some []]⟩
noncomputable def c9b:Option Bool :=
 some true
theorem e9h (r:Bool) (h:c9b=some r):j6 cx B7.X (B7.R r) (B7.O r) d5E (c8Z) :=
 P0<|rg<|fe B7.h h
noncomputable def c4z:List Item:=B7.k 9 [false,false,false,false]
noncomputable def c1y (w:m3) (v83:Int):St:=⟨(bs 81 (j8 5 B3 w.Told::(vi (w.Told.length:Int)::(vi v83::(bs 34 []))))),[some []]⟩
noncomputable def b4z (w:m3) (v83:Int):Option (j5 Bool Int Unit) :=
 (bif decide (v83<(w.Told.length:Int)) then ((idx w.Told v83).bind fun u9=>((I6 u9.Node 0 2).bind fun in_=>(bif (!in_) then some (j5.ret false) else ((a6u u9.a5).bind fun a68=>(bif (!a68) then some (j5.ret false) else (bif (u9.a5.b9 != u9.Node) then some (j5.ret false) else ((I6 u9.Code 0 4).bind fun L6=>(bif (!L6) then some (j5.ret false) else ((I6 u9.c9 (-1000000) 1000000).bind fun N8=>(bif (!N8) then some (j5.ret false) else some (j5.nxt (n8 (v83+1))))))))))))) else some (j5.brk ()))
theorem e33 (w:m3) (res:V) (outs:t7) (x1:j9 Bool Unit) (hb1:HB cx B7.X res outs x1 d5E (fun s=>c8Z)) (hr1:HR res outs x1 B7.R B7.O) (st1:j5 Bool Int Unit) (hc1:t6 x1 (fun s:Int=>j6 cx B7.X res outs c4z (c1y w s)) st1) (v83:Int) (h:b4z w v83=some st1):j6 cx B7.X res outs c4z (c1y w v83) :=
 P0<|rg<|i9 0 h (fun h=>rg<|w8 B3 0 h fun u9 a3l h=>rg<|l8 I5 L3 2 h fun in_ h=>i9 4 h (fun h=>rg<|(x8 h hc1 fun e=>x7 B7.h (hr1 _ e))) (fun h=>l8 a4C b1S 7 h fun a68 h=>i9 10 h (fun h=>rg<|(x8 h hc1 fun e=>x7 B7.h (hr1 _ e))) (fun h=>i9 18 h (fun h=>rg<|(x8 h hc1 fun e=>x7 B7.h (hr1 _ e))) (fun h=>l8 I5 L3 21 h fun L6 h=>i9 24 h (fun h=>rg<|(x8 h hc1 fun e=>x7 B7.h (hr1 _ e))) (fun h=>l8 I5 L3 27 h fun N8 h=>i9 29 h (fun h=>rg<|(x8 h hc1 fun e=>x7 B7.h (hr1 _ e))) (fun h=>rg<|(x6 h hc1 fun hI=>sg [] [81,82,83] [] hI))))))) (fun h=>(x5 h hc1 fun e=>sg [] [] [] (hb1 _ e)))
noncomputable def b6f (w:m3):Option Bool :=
 ((q7 (fun s:Int=>b4z w s) 0).bind fun x=>x.go (fun r=>some r) fun s=>c9b)
theorem e2g (w:m3) (r:Bool) (h:b6f w=some r):j6 cx B7.X (B7.R r) (B7.O r) d0m (d1w w) :=
 P0<|rg<|z3 h fun x hl hr hb=>sg [] [81,82,83] [] (z4 (I:=fun s:Int=>j6 cx B7.X (B7.R r) (B7.O r) c4z (c1y w s)) hl fun s st h hc=>e33 w _ _ x (fun s e=>e9h r (hb s e)) (fun v e=>z6 B7 (hr v e)) st hc s h)
noncomputable def c0c:List Item:=B7.k 7 [false,false,false]
noncomputable def c5V (w:m3) (v65:Int):St:=⟨(bs 1 (.ptr 1 0 0::(bs 61 (j8 3 D3 w.Asked::(vi (w.Asked.length:Int)::(vi v65::(bs 52 []))))))),[some [],some [.var 28 (M0 w)]]⟩
noncomputable def b8i (w:m3) (v65:Int):Option (j5 Bool Int Unit) :=
 (bif decide (v65<(w.Asked.length:Int)) then ((idx w.Asked v65).bind fun asked=>((a6u asked.a5).bind fun b4h=>(bif (!b4h) then some (j5.ret false) else ((b0q asked.i4).bind fun H7=>(bif (!H7) then some (j5.ret false) else some (j5.nxt (n8 (v65+1)))))))) else some (j5.brk ()))
theorem e4e (w:m3) (res:V) (outs:t7) (x1:j9 Bool Unit) (hb1:HB cx B7.X res outs x1 d0m (fun s=>d1w w)) (hr1:HR res outs x1 B7.R B7.O) (st1:j5 Bool Int Unit) (hc1:t6 x1 (fun s:Int=>j6 cx B7.X res outs c0c (c5V w s)) st1) (v65:Int) (h:b8i w v65=some st1):j6 cx B7.X res outs c0c (c5V w v65) :=
 P0<|rg<|i9 0 h (fun h=>rg<|w8 D3 0 h fun asked a4I h=>rg<|l8 a4C b1S 2 h fun b4h h=>i9 4 h (fun h=>rg<|(x8 h hc1 fun e=>x7 B7.h (hr1 _ e))) (fun h=>l8 U5 c3F 7 h fun H7 h=>i9 9 h (fun h=>rg<|(x8 h hc1 fun e=>x7 B7.h (hr1 _ e))) (fun h=>rg<|(x6 h hc1 fun hI=>sg [] [1,63,64,65] [(1,0)] hI)))) (fun h=>(x5 h hc1 fun e=>sg [] [1] [(1,0)] (hb1 _ e)))
noncomputable def b7k (w:m3):Option Bool :=
 ((q7 (fun s:Int=>b8i w s) 0).bind fun x=>x.go (fun r=>some r) fun s=>b6f w)
theorem d7x (w:m3) (r:Bool) (h:b7k w=some r):j6 cx B7.X (B7.R r) (B7.O r) d3a (d36 w) :=
 P0<|rg<|z3 h fun x hl hr hb=>sg [] [1,63,64,65] [(1,0)] (z4 (I:=fun s:Int=>j6 cx B7.X (B7.R r) (B7.O r) c0c (c5V w s)) hl fun s st h hc=>e4e w _ _ x (fun s e=>e2g w r (hb s e)) (fun v e=>z6 B7 (hr v e)) st hc s h)
noncomputable def c4V:List Item:=B7.k 5 [false,false]
noncomputable def c36 (w:m3) (v54:Int):St:=⟨(bs 1 (.ptr 1 0 0::(bs 50 (j8 13 w9 w.Net::(vi (w.Net.length:Int)::(vi v54::(bs 63 []))))))),[some [],some [.var 28 (M0 w)]]⟩
noncomputable def b84 (w:m3) (v54:Int):Option (j5 Bool Int Unit) :=
 (bif decide (v54<(w.Net.length:Int)) then ((idx w.Net v54).bind fun msg=>((b5I msg).bind fun a0i=>(bif (!a0i) then some (j5.ret false) else some (j5.nxt (n8 (v54+1)))))) else some (j5.brk ()))
theorem d97 (w:m3) (res:V) (outs:t7) (x1:j9 Bool Unit) (hb1:HB cx B7.X res outs x1 d3a (fun s=>d36 w)) (hr1:HR res outs x1 B7.R B7.O) (st1:j5 Bool Int Unit) (hc1:t6 x1 (fun s:Int=>j6 cx B7.X res outs c4V (c36 w s)) st1) (v54:Int) (h:b84 w v54=some st1):j6 cx B7.X res outs c4V (c36 w v54) :=
 P0<|rg<|i9 0 h (fun h=>rg<|w8 w9 0 h fun msg b0v h=>rg<|l8 a94 e1n 1 h fun a0i h=>i9 2 h (fun h=>rg<|(x8 h hc1 fun e=>x7 B7.h (hr1 _ e))) (fun h=>rg<|(x6 h hc1 fun hI=>sg [] [1,52,53,54] [(1,0)] hI))) (fun h=>(x5 h hc1 fun e=>sg [] [1] [(1,0)] (hb1 _ e)))
noncomputable def b7Y (w:m3):Option Bool :=
 ((q7 (fun s:Int=>b84 w s) 0).bind fun x=>x.go (fun r=>some r) fun s=>b7k w)
theorem e4T (w:m3) (r:Bool) (h:b7Y w=some r):j6 cx B7.X (B7.R r) (B7.O r) d1y (c9E w) :=
 P0<|rg<|z3 h fun x hl hr hb=>sg [] [1,52,53,54] [(1,0)] (z4 (I:=fun s:Int=>j6 cx B7.X (B7.R r) (B7.O r) c4V (c36 w s)) hl fun s st h hc=>d97 w _ _ x (fun s e=>d7x w r (hb s e)) (fun v e=>z6 B7 (hr v e)) st hc s h)
noncomputable def c4P:List Item:=B7.k 3 [false]
noncomputable def c3W (w:m3) (v36:Int):St:=⟨(bs 1 (.ptr 1 0 0::(bs 32 (j8 27 T9 w.Nodes::(vi (w.Nodes.length:Int)::(vi v36::(bs 81 []))))))),[some [],some [.var 28 (M0 w)]]⟩
noncomputable def b43 (w:m3) (v36:Int):Option (j5 Bool Int Unit) :=
 (bif decide (v36<(w.Nodes.length:Int)) then ((idx w.Nodes v36).bind fun n7=>(bif (n7.Id != v36) then some (j5.ret false) else ((b82 n7).bind fun I1=>(bif (!I1) then some (j5.ret false) else some (j5.nxt (n8 (v36+1))))))) else some (j5.brk ()))
theorem e0E (w:m3) (res:V) (outs:t7) (x1:j9 Bool Unit) (hb1:HB cx B7.X res outs x1 d1y (fun s=>c9E w)) (hr1:HR res outs x1 B7.R B7.O) (st1:j5 Bool Int Unit) (hc1:t6 x1 (fun s:Int=>j6 cx B7.X res outs c4P (c3W w s)) st1) (v36:Int) (h:b43 w v36=some st1):j6 cx B7.X res outs c4P (c3W w v36) :=
 P0<|rg<|i9 0 h (fun h=>rg<|w8 T9 1 h fun n7 K5 h=>rg<|i9 4 h (fun h=>rg<|(x8 h hc1 fun e=>x7 B7.h (hr1 _ e))) (fun h=>l8 J9 d7n 6 h fun I1 h=>i9 8 h (fun h=>rg<|(x8 h hc1 fun e=>x7 B7.h (hr1 _ e))) (fun h=>rg<|(x6 h hc1 fun hI=>sg [] [1,34,35,36] [(1,0)] hI)))) (fun h=>(x5 h hc1 fun e=>sg [] [1] [(1,0)] (hb1 _ e)))
noncomputable def a84 (w:m3):Option Bool :=
 (bif ((w.Nodes.length:Int) != 3) then some false else (bif decide ((w.Net.length:Int)>40) then some false else (bif decide ((w.Asked.length:Int)>60) then some false else (bif decide ((w.Told.length:Int)>60) then some false else ((q7 (fun s:Int=>b43 w s) 0).bind fun x=>x.go (fun r=>some r) fun s=>b7Y w)))))
theorem c3e {w:m3} (r:Bool) (h:a84 w=some r):o7 cx.P 20 [.agg (a1J w)] (B7.R r) (B7.O r) :=
 q9 B7.X B7.c B7.h (fun z=>p6<|i9 4 h (fun h=>rg<|fe z h) (fun h=>i9 10 h (fun h=>rg<|fe z h) (fun h=>i9 16 h (fun h=>rg<|fe z h) (fun h=>i9 21 h (fun h=>rg<|fe z h) (fun h=>rg<|z3 h fun x hl hr hb=>sg [] [1,34,35,36] [(1,0)] (z4 (I:=fun s:Int=>j6 cx B7.X (B7.R r) (B7.O r) c4P (c3W w s)) hl fun s st h hc=>e0E w _ _ x (fun s e=>e4T w r (hb s e)) (fun v e=>z6 B7 (hr v e)) st hc s h))))))
noncomputable def a8T:FS (List l7):=⟨85,Tryz.f85,[.val [some 7] [some 69]],[none],[.val [some 7] []],fun r=>o8 69 7 p9 r,fun _=>[none],Tryz.func85⟩
noncomputable def b6Y (i8:List l7):Option (List l7) :=
 (bif ((i8.length:Int)==0) then some [] else (t5 (0≤(i8.length:Int)∧(i8.length:Int) * 88≤140737488355328) ((t5 (i8.length=(List.replicate (i8.length:Int).toNat (l7.mk false (n9.mk 0 0) (m9.mk [] [] 0 0))).length) (some i8)))))
theorem e4i {i8:List l7} (r:List l7) (h:b6Y i8=some r):o7 cx.P 85 [j8 7 p9 i8] (a8T.R r) (a8T.O r) :=
 q9 a8T.X a8T.c a8T.h (fun z=>p6<|i9 2 h (fun h=>rg<|fe z h) (fun h=>rg<|u6 h fun e1 h=>mkS 2 7 69 7 88 p9 (l7.mk false (n9.mk 0 0) (m9.mk [] [] 0 0)) c2R (.ck T4) e1 (by decide) (by rfl)<|rg<|u6 h fun e2 h=>om (s6.row 69 7 (List.replicate (i8.length:Int).toNat (l7.mk false (n9.mk 0 0) (m9.mk [] [] 0 0))).length (i8.map p9)=m4 69 7 p9 i8) (a7d e2)<|o6 (List.replicate (i8.length:Int).toNat (l7.mk false (n9.mk 0 0) (m9.mk [] [] 0 0)))<|ob e2<|tl (2,{ e:=some (m4 69 7 p9 i8) })<|rg<|om ((List.replicate (i8.length:Int).toNat (l7.mk false (n9.mk 0 0) (m9.mk [] [] 0 0))).length=i8.length) (by simp)<|fe z h))
noncomputable def R4:FS (List n5):=⟨128,Tryz.f128,[.val [some 2] [some 164]],[none],[.val [some 2] []],fun r=>o8 164 2 t8 r,fun _=>[none],Tryz.func128⟩
noncomputable def a3N (i8:List n5):Option (List n5) :=
 (bif ((i8.length:Int)==0) then some [] else (t5 (0≤(i8.length:Int)∧(i8.length:Int) * 16≤140737488355328) ((t5 (i8.length=(List.replicate (i8.length:Int).toNat (n5.mk 0 0)).length) (some i8)))))
theorem b1e {i8:List n5} (r:List n5) (h:a3N i8=some r):o7 cx.P 128 [j8 2 t8 i8] (R4.R r) (R4.O r) :=
 q9 R4.X R4.c R4.h (fun z=>p6<|i9 2 h (fun h=>rg<|fe z h) (fun h=>rg<|u6 h fun e1 h=>mkS 2 7 164 2 16 t8 (n5.mk 0 0) c1b (.none) e1 (by decide) (by rfl)<|rg<|u6 h fun e2 h=>om (s6.row 164 2 (List.replicate (i8.length:Int).toNat (n5.mk 0 0)).length (i8.map t8)=m4 164 2 t8 i8) (a7d e2)<|o6 (List.replicate (i8.length:Int).toNat (n5.mk 0 0))<|ob e2<|tl (2,{ e:=some (m4 164 2 t8 i8) })<|rg<|om ((List.replicate (i8.length:Int).toNat (n5.mk 0 0)).length=i8.length) (by simp)<|fe z h))
noncomputable def a4Q:FS (List m8):=⟨129,Tryz.f129,[.val [some 2] [some 162]],[none],[.val [some 2] []],fun r=>o8 162 2 u0 r,fun _=>[none],Tryz.func129⟩
noncomputable def a71 (i8:List m8):Option (List m8) :=
 (bif ((i8.length:Int)==0) then some [] else (t5 (0≤(i8.length:Int)∧(i8.length:Int) * 16≤140737488355328) ((t5 (i8.length=(List.replicate (i8.length:Int).toNat (m8.mk 0 0)).length) (some i8)))))
theorem d17 {i8:List m8} (r:List m8) (h:a71 i8=some r):o7 cx.P 129 [j8 2 u0 i8] (a4Q.R r) (a4Q.O r) :=
 q9 a4Q.X a4Q.c a4Q.h (fun z=>p6<|i9 2 h (fun h=>rg<|fe z h) (fun h=>rg<|u6 h fun e1 h=>mkS 2 7 162 2 16 u0 (m8.mk 0 0) c3O (.none) e1 (by decide) (by rfl)<|rg<|u6 h fun e2 h=>om (s6.row 162 2 (List.replicate (i8.length:Int).toNat (m8.mk 0 0)).length (i8.map u0)=m4 162 2 u0 i8) (a7d e2)<|o6 (List.replicate (i8.length:Int).toNat (m8.mk 0 0))<|ob e2<|tl (2,{ e:=some (m4 162 2 u0 i8) })<|rg<|om ((List.replicate (i8.length:Int).toNat (m8.mk 0 0)).length=i8.length) (by simp)<|fe z h))
noncomputable def a8Y:FS (m9):=⟨125,Tryz.f125,[.val W4 []],[none],[.val W4 []],fun r=>.agg (W0 r),fun _=>[none],Tryz.func125⟩
noncomputable def c5R (r_:m9):Option m9 :=
 ((a3N r_.a7).bind fun E8=>((a71 r_.a8).bind fun put=>some (m9.mk E8 put r_.c9 r_.Code)))
theorem e5I {r_:m9} (r:m9) (h:c5R r_=some r):o7 cx.P 125 [.agg (W0 r_)] (a8Y.R r) (a8Y.O r) :=
 q9 a8Y.X a8Y.c a8Y.h (fun z=>p6<|l8 R4 b1e 2 h fun E8 h=>l8 a4Q d17 5 h fun put h=>H5 E8 put<|fe z h)
noncomputable def b0W:FS (l7):=⟨86,Tryz.f86,[.val T4 []],[none],[.val T4 []],fun r=>.agg (p9 r),fun _=>[none],Tryz.func86⟩
noncomputable def b6i (e_:l7):Option l7 :=
 ((c5R e_.a9).bind fun d0w=>some (l7.mk e_.g8 e_.a5 d0w))
theorem e2s {e_:l7} (r:l7) (h:b6i e_=some r):o7 cx.P 86 [.agg (p9 e_)] (b0W.R r) (b0W.O r) :=
 q9 b0W.X b0W.c b0W.h (fun z=>p6<|l8 a8Y e5I 6 h fun d0w h=>fe z h)
noncomputable def Z9:FS (List l7):=⟨48,Tryz.f48,[.val [some 7] [some 69]],[none],[.val [some 7] []],fun r=>o8 69 7 p9 r,fun _=>[none],Tryz.func48⟩
noncomputable def d4Z:List Item:=Z9.k 4 [false]
noncomputable def d16 (out1:List l7):St:=⟨(bs 3 (.own 1 0 7 0 out1.length::(bs 18 []))),[some [],some [m4 69 7 p9 out1]]⟩
noncomputable def d5c (out1:List l7):Option (List l7) :=
 some out1
theorem e3S (r:List l7) (out1:List l7) (h:d5c out1=some r):j6 cx Z9.X (Z9.R r) (Z9.O r) d4Z (d16 out1) :=
 P0<|rg<|o6 out1<|fe Z9.h h
noncomputable def c4A:List Item:=Z9.k 3 []
noncomputable def c0X (z7:List l7) (out:List l7) (v9:Int):St:=⟨(bs 3 (.own 1 0 7 0 out.length::(bs 4 (vi (z7.length:Int)::(vi v9::(bs 12 [])))))),[some [],some [m4 69 7 p9 out]]⟩
noncomputable def b1J (z7:List l7) (out:List l7) (v9:Int):Option (j5 (List l7) ((List l7)×Int) (List l7)) :=
 (bif decide (v9<(z7.length:Int)) then ((idx out v9).bind fun d39=>((b6i d39).bind fun b4b=>some (j5.nxt (out.set v9.toNat b4b,n8 (v9+1))))) else some (j5.brk out))
theorem e4Y (z7:List l7) (res:V) (outs:t7) (x1:j9 (List l7) (List l7)) (hb1:HB cx Z9.X res outs x1 d4Z d16) (hr1:HR res outs x1 Z9.R Z9.O) (st1:j5 (List l7) ((List l7)×Int) (List l7)) (hc1:t6 x1 (fun s:(List l7)×Int=>j6 cx Z9.X res outs c4A (c0X z7 s.1 s.2)) st1) (out:List l7) (v9:Int) (h:b1J z7 out v9=some st1):j6 cx Z9.X res outs c4A (c0X z7 out v9) :=
 P0<|rg<|i9 0 h (fun h=>p6<|C4 h fun d39 b5c h=>E6 b5c<|T3 p9 5 b5c<|l8 b0W e2s 6 h fun b4b h=>E6 b5c<|stR 69 7 p9 8 T4 b4b b5c<|rg<|(x6 h hc1 fun hI=>om ((.own 1 0 7 0 out.length:V) = .own 1 0 7 0 (out.set v9.toNat b4b).length) (by simp)<|sg [.is (.tmp 3) (.own 1 0 7 0 (out.set v9.toNat b4b).length)] [3,8,9] [(1,0)] hI)) (fun h=>(x5 h hc1 fun e=>sg [] [3] [(1,0)] (hb1 _ e)))
noncomputable def b8l (i8:List l7):Option (List l7) :=
 ((b6Y i8).bind fun z7=>((q7 (fun s:(List l7)×Int=>b1J z7 s.1 s.2) (z7,0)).bind fun x=>x.go (fun r=>some r) fun s=>d5c s))
theorem d7H {i8:List l7} (r:List l7) (h:b8l i8=some r):o7 cx.P 48 [j8 7 p9 i8] (Z9.R r) (Z9.O r) :=
 q9 Z9.X Z9.c Z9.h (fun z=>p6<|l8 a8T e4i 1 h fun z7 h=>rg<|z3 h fun x hl hr hb=>sg [] [3,8,9] [(3,0)] (z4 (I:=fun s:(List l7)×Int=>j6 cx Z9.X (Z9.R r) (Z9.O r) c4A (c0X z7 s.1 s.2)) hl fun s st h hc=>e4Y z7 _ _ x (fun s e=>e3S r s (hb s e)) (fun v e=>z6 Z9 (hr v e)) st hc s.1 s.2 h))
noncomputable def N9:FS (List l7):=⟨21,Tryz.f21,[.val [some 7] []],[none],[.val P2 []],fun r=>j8 7 p9 r,fun _=>[none],Tryz.func21⟩
noncomputable def b9C:List Item:=N9.k 4 [false]
noncomputable def c2e (w:m3) (a2G:Int):St:=⟨(bs 1 (.ptr 1 0 0::(bs 1 (vi a2G::(bs 36 []))))),[some [],some [.var 28 (M0 w)]]⟩
noncomputable def c3s (w:m3) (a2G:Int):Option (List l7) :=
 (bif decide (a2G<0) then some [] else ((idx w.Nodes a2G).bind fun n7=>((b8l n7.a6).bind fun c5I=>some c5I)))
theorem d6W (w:m3) (r:List l7) (a2G:Int) (h:c3s w a2G=some r):j6 cx N9.X (N9.R r) (N9.O r) b9C (c2e w a2G) :=
 P0<|rg<|i9 1 h (fun h=>rg<|fe N9.h h) (fun h=>rg<|w8 T9 3 h fun n7 K5 h=>l8 Z9 d7H 6 h fun c5I h=>o6 c5I<|fe N9.h h)
noncomputable def b8C:List Item:=N9.k 3 []
noncomputable def b6O (w:m3) (best:Int) (v9:Int):St:=⟨(bs 1 (.ptr 1 0 0::(bs 1 (vi best::(bs 3 (j8 27 T9 w.Nodes::(vi (w.Nodes.length:Int)::(vi v9::(bs 30 []))))))))),[some [],some [.var 28 (M0 w)]]⟩
noncomputable def c6j:List Item:=N9.k 7 [true,true]
noncomputable def c9G (w:m3) (v9:Int) (a3i:Int):St:=⟨(bs 1 (.ptr 1 0 0::(bs 1 (vi a3i::(bs 3 (j8 27 T9 w.Nodes::(vi (w.Nodes.length:Int)::(vi v9::(bs 30 []))))))))),[some [],some [.var 28 (M0 w)]]⟩
noncomputable def b8P (v9:Int) (a3i:Int):Option (j5 (List l7) (Int×Int) Int) :=
 some (j5.nxt (a3i,n8 (v9+1)))
theorem e4E (w:m3) (v9:Int) (res:V) (outs:t7) (x1:j9 (List l7) Int) (hb1:HB cx N9.X res outs x1 b9C (c2e w)) (hr1:HR res outs x1 N9.R N9.O) (st1:j5 (List l7) (Int×Int) Int) (hc1:t6 x1 (fun s:Int×Int=>j6 cx N9.X res outs b8C (b6O w s.1 s.2)) st1) (a3i:Int) (h:b8P v9 a3i=some st1):j6 cx N9.X res outs c6j (c9G w v9 a3i) :=
 P0<|rg<|(x6 h hc1 fun hI=>sg [] [1,3,7,8,9] [(1,0)] hI)
noncomputable def a5O (w:m3) (best:Int) (v9:Int):Option (j5 (List l7) (Int×Int) Int) :=
 (bif decide (v9<(w.Nodes.length:Int)) then ((idx w.Nodes v9).bind fun b37=>(((bif decide (best<0) then some (j9.brk v9) else ((idx w.Nodes best).bind fun b3v=>(bif decide ((b37.a6.length:Int)>(b3v.a6.length:Int)) then some (j9.brk v9) else some (j9.brk best)))):Option (j9 (j5 (List l7) (Int×Int) Int) Int)).bind fun x=>x.go some fun j=>b8P v9 j)) else some (j5.brk best))
theorem d9d (w:m3) (res:V) (outs:t7) (x1:j9 (List l7) Int) (hb1:HB cx N9.X res outs x1 b9C (c2e w)) (hr1:HR res outs x1 N9.R N9.O) (st1:j5 (List l7) (Int×Int) Int) (hc1:t6 x1 (fun s:Int×Int=>j6 cx N9.X res outs b8C (b6O w s.1 s.2)) st1) (best:Int) (v9:Int) (h:a5O w best v9=some st1):j6 cx N9.X res outs b8C (b6O w best v9) :=
 P0<|rg<|i9 0 h (fun h=>rg<|w8 T9 1 h fun b37 e34 h=>D8 (I:=fun j:Int=>j6 cx N9.X res outs c6j (c9G w v9 j)) h (fun j h=>e4E w v9 res outs x1 hb1 hr1 st1 hc1 j h) (fun x2 h hc2=>rg<|i9 2 h (fun h=>rg<|(s7 h hc2 fun hI=>sg [] [1,3,7,8,9] [(1,0)] hI)) (fun h=>w8 T9 9 h fun b3v e4F h=>i9 14 h (fun h=>rg<|(s7 h hc2 fun hI=>sg [] [1,3,7,8,9] [(1,0)] hI)) (fun h=>(s7 h hc2 fun hI=>sg [] [1,3,7,8,9] [(1,0)] hI))))) (fun h=>(x5 h hc1 fun e=>sg [] [1,3] [(1,0)] (hb1 _ e)))
noncomputable def a81 (w:m3):Option (List l7) :=
 ((q7 (fun s:Int×Int=>a5O w s.1 s.2) ((-1),0)).bind fun x=>x.go (fun r=>some r) fun s=>c3s w s)
theorem c6h {w:m3} (r:List l7) (h:a81 w=some r):o7 cx.P 21 [.agg (a1J w)] (N9.R r) (N9.O r) :=
 q9 N9.X N9.c N9.h (fun z=>rg3<|z3 h fun x hl hr hb=>sg [] [1,3,7,8,9] [(1,0)] (z4 (I:=fun s:Int×Int=>j6 cx N9.X (N9.R r) (N9.O r) b8C (b6O w s.1 s.2)) hl fun s st h hc=>d9d w _ _ x (fun s e=>d6W w r s (hb s e)) (fun v e=>z6 N9 (hr v e)) st hc s.1 s.2 h))
noncomputable def a8G:FS (List l9):=⟨24,Tryz.f24,[.val [some 2] [some 106]],[],[],fun r=>o8 106 2 u5 r,fun _=>[],Tryz.func24⟩
noncomputable def b3Y:Option (List l9) :=
 (t5 (0≤(4:Int)∧(4:Int) * 16≤140737488355328) (some (List.replicate (4:Int).toNat (l9.mk 0 0))))
theorem d0K (r:List l9) (h:b3Y=some r):o7 cx.P 24 [] (a8G.R r) (a8G.O r) :=
 q9 a8G.X a8G.c a8G.h (fun z=>p6<|u6 h fun e1 h=>mkS 0 2 106 2 16 u5 (l9.mk 0 0) b3I (.none) e1 (by decide) (by rfl)<|o6 (List.replicate (4:Int).toNat (l9.mk 0 0))<|fe z h)
noncomputable def b0t:FS (o9):=⟨69,Tryz.f69,[.val [none,some 2,some 4] [none,some 106,some 135]],[],[],fun r=>.agg [vi r.At,o8 106 2 u5 r.d7,o8 135 4 B5 r.f0],fun _=>[],Tryz.func69⟩
noncomputable def b5i:Option o9 :=
 ((b3Y).bind fun a13=>some (o9.mk 0 a13 []))
theorem d8I (r:o9) (h:b5i=some r):o7 cx.P 69 [] (b0t.R r) (b0t.O r) :=
 q9 b0t.X b0t.c b0t.h (fun z=>p6<|l8 a8G d0K 0 h fun a13 h=>o6 a13<|fe z h)
noncomputable def R0:FS (Bool):=⟨51,Tryz.f51,[.val [] []],[none],[.val [some 2] []],fun r=>.b r,fun _=>[none],Tryz.func51⟩
noncomputable def d0u:List Item:=R0.k 3 [false]
noncomputable def c7x (i8:List l9):St:=⟨(j8 2 u5 i8::(bs 24 [])),[some []]⟩
noncomputable def c5E (i8:List l9):Option Bool :=
 some ((i8.length:Int)==4)
theorem d8D (i8:List l9) (r:Bool) (h:c5E i8=some r):j6 cx R0.X (R0.R r) (R0.O r) d0u (c7x i8) :=
 P0<|rg<|fe R0.h h
noncomputable def c2n:List Item:=R0.k 2 []
noncomputable def c0U (i8:List l9) (v7:Int):St:=⟨(j8 2 u5 i8::(bs 4 (j8 2 u5 i8::(vi (i8.length:Int)::(vi v7::(bs 17 [])))))),[some []]⟩
noncomputable def b8K (i8:List l9) (v7:Int):Option (j5 Bool Int Unit) :=
 (bif decide (v7<(i8.length:Int)) then ((idx i8 v7).bind fun box=>((I6 box.i6 0 1000000).bind fun in_=>(bif (!in_) then some (j5.ret false) else ((I6 box.c9 (-1000000) 1000000).bind fun L6=>(bif (!L6) then some (j5.ret false) else some (j5.nxt (n8 (v7+1)))))))) else some (j5.brk ()))
theorem d7K (i8:List l9) (res:V) (outs:t7) (x1:j9 Bool Unit) (hb1:HB cx R0.X res outs x1 d0u (fun s=>c7x i8)) (hr1:HR res outs x1 R0.R R0.O) (st1:j5 Bool Int Unit) (hc1:t6 x1 (fun s:Int=>j6 cx R0.X res outs c2n (c0U i8 s)) st1) (v7:Int) (h:b8K i8 v7=some st1):j6 cx R0.X res outs c2n (c0U i8 v7) :=
 P0<|rg<|i9 0 h (fun h=>rg<|w8 u5 0 h fun box a3d h=>rg<|l8 I5 L3 2 h fun in_ h=>i9 4 h (fun h=>rg<|(x8 h hc1 fun e=>x7 R0.h (hr1 _ e))) (fun h=>l8 I5 L3 7 h fun L6 h=>i9 9 h (fun h=>rg<|(x8 h hc1 fun e=>x7 R0.h (hr1 _ e))) (fun h=>rg<|(x6 h hc1 fun hI=>sg [] [0,5,6,7] [] hI)))) (fun h=>(x5 h hc1 fun e=>sg [] [0] [] (hb1 _ e)))
noncomputable def a6b (i8:List l9):Option Bool :=
 ((q7 (fun s:Int=>b8K i8 s) 0).bind fun x=>x.go (fun r=>some r) fun s=>c5E i8)
theorem b2T {i8:List l9} (r:Bool) (h:a6b i8=some r):o7 cx.P 51 [j8 2 u5 i8] (R0.R r) (R0.O r) :=
 q9 R0.X R0.c R0.h (fun z=>p6<|z3 h fun x hl hr hb=>sg [] [0,5,6,7] [] (z4 (I:=fun s:Int=>j6 cx R0.X (R0.R r) (R0.O r) c2n (c0U i8 s)) hl fun s st h hc=>d7K i8 _ _ x (fun s e=>d8D i8 r (hb s e)) (fun v e=>z6 R0 (hr v e)) st hc s h))
noncomputable def J1:FS (Bool):=⟨105,Tryz.f105,[.val [] []],[none],[.val [none,some 2,some 4] []],fun r=>.b r,fun _=>[none],Tryz.func105⟩
noncomputable def c5r:List Item:=J1.k 3 [false]
noncomputable def c4j (s_:o9):St:=⟨(bs 1 (.ptr 1 0 0::(bs 64 []))),[some [],some [.var 62 [vi s_.At,j8 2 u5 s_.d7,j8 4 B5 s_.f0]]]⟩
noncomputable def c5n (s_:o9):Option Bool :=
 ((I6 s_.At 0 40).bind fun in_=>(bif in_ then ((a6b s_.d7).bind fun V6=>some V6) else some false))
theorem e0j (s_:o9) (r:Bool) (h:c5n s_=some r):j6 cx J1.X (J1.R r) (J1.O r) c5r (c4j s_) :=
 P0<|rg<|l8 I5 L3 2 h fun in_ h=>i9 3 h (fun h=>l8 R0 b2T 6 h fun V6 h=>fe J1.h h) (fun h=>fe J1.h h)
noncomputable def b79:List Item:=J1.k 2 []
noncomputable def b4F (s_:o9) (v8:Int):St:=⟨(bs 1 (.ptr 1 0 0::(bs 4 (j8 4 B5 s_.f0::(vi (s_.f0.length:Int)::(vi v8::(bs 57 []))))))),[some [],some [.var 62 [vi s_.At,j8 2 u5 s_.d7,j8 4 B5 s_.f0]]]⟩
noncomputable def d1O:List Item:=J1.k 5 [true,false]
noncomputable def d5z (s_:o9) (v8:Int):St:=⟨(bs 1 (.ptr 1 0 0::(bs 4 (j8 4 B5 s_.f0::(vi (s_.f0.length:Int)::(vi v8::(bs 57 []))))))),[some [],some [.var 62 [vi s_.At,j8 2 u5 s_.d7,j8 4 B5 s_.f0]]]⟩
noncomputable def c3p (v8:Int):Option (j5 Bool Int Unit) :=
 some (j5.nxt (n8 (v8+1)))
theorem e7n (s_:o9) (v8:Int) (res:V) (outs:t7) (x1:j9 Bool Unit) (hb1:HB cx J1.X res outs x1 c5r (fun s=>c4j s_)) (hr1:HR res outs x1 J1.R J1.O) (st1:j5 Bool Int Unit) (hc1:t6 x1 (fun s:Int=>j6 cx J1.X res outs b79 (b4F s_ s)) st1) (h:c3p v8=some st1):j6 cx J1.X res outs d1O (d5z s_ v8) :=
 P0<|rg<|(x6 h hc1 fun hI=>sg [] [1,6,7,8] [(1,0)] hI)
noncomputable def b2s (s_:o9) (v8:Int):Option (j5 Bool Int Unit) :=
 (bif decide (v8<(s_.f0.length:Int)) then ((idx s_.f0 v8).bind fun done=>(((bif decide (v8>0) then ((idx s_.f0 (n8 (v8 - 1))).bind fun a4d=>(bif decide (a4d.a5.b9≥done.a5.b9) then some (j9.ret (j5.ret false)) else ((a6u done.a5).bind fun a68=>(bif (!a68) then some (j9.ret (j5.ret false)) else ((I6 done.Code 0 2).bind fun L6=>(bif (!L6) then some (j9.ret (j5.ret false)) else ((I6 done.c9 (-1000000) 1000000).bind fun N8=>(bif (!N8) then some (j9.ret (j5.ret false)) else (bif (done.Code != 0) then (bif (done.c9 != 0) then some (j9.ret (j5.ret false)) else some (j9.brk ())) else some (j9.brk ())))))))))) else ((a6u done.a5).bind fun b4h=>(bif (!b4h) then some (j9.ret (j5.ret false)) else ((I6 done.Code 0 2).bind fun a3B=>(bif (!a3B) then some (j9.ret (j5.ret false)) else ((I6 done.c9 (-1000000) 1000000).bind fun b3x=>(bif (!b3x) then some (j9.ret (j5.ret false)) else (bif (done.Code != 0) then (bif (done.c9 != 0) then some (j9.ret (j5.ret false)) else some (j9.brk ())) else some (j9.brk ()))))))))):Option (j9 (j5 Bool Int Unit) Unit)).bind fun x=>x.go some fun j=>c3p v8)) else some (j5.brk ()))
set_option maxRecDepth 20000 in
theorem e2h (s_:o9) (res:V) (outs:t7) (x1:j9 Bool Unit) (hb1:HB cx J1.X res outs x1 c5r (fun s=>c4j s_)) (hr1:HR res outs x1 J1.R J1.O) (st1:j5 Bool Int Unit) (hc1:t6 x1 (fun s:Int=>j6 cx J1.X res outs b79 (b4F s_ s)) st1) (v8:Int) (h:b2s s_ v8=some st1):j6 cx J1.X res outs b79 (b4F s_ v8) :=
 P0<|rg<|i9 0 h (fun h=>rg<|w8 B5 1 h fun done b6I h=>D8 (I:=fun j:Unit=>j6 cx J1.X res outs d1O (d5z s_ v8)) h (fun j h=>e7n s_ v8 res outs x1 hb1 hr1 st1 hc1 h) (fun x2 h hc2=>rg<|i9 2 h (fun h=>w8 B5 7 h fun a4d e74 h=>i9 16 h (fun h=>rg<|(D1 h hc2 fun h=>(x8 h hc1 fun e=>x7 J1.h (hr1 _ e)))) (fun h=>l8 a4C b1S 19 h fun a68 h=>i9 22 h (fun h=>rg<|(D1 h hc2 fun h=>(x8 h hc1 fun e=>x7 J1.h (hr1 _ e)))) (fun h=>l8 I5 L3 25 h fun L6 h=>i9 28 h (fun h=>rg<|(D1 h hc2 fun h=>(x8 h hc1 fun e=>x7 J1.h (hr1 _ e)))) (fun h=>l8 I5 L3 31 h fun N8 h=>i9 34 h (fun h=>rg<|(D1 h hc2 fun h=>(x8 h hc1 fun e=>x7 J1.h (hr1 _ e)))) (fun h=>i9 38 h (fun h=>i9 43 h (fun h=>rg<|(D1 h hc2 fun h=>(x8 h hc1 fun e=>x7 J1.h (hr1 _ e)))) (fun h=>(s7 h hc2 fun hI=>sg [] [1,6,7,8] [(1,0)] hI))) (fun h=>(s7 h hc2 fun hI=>sg [] [1,6,7,8] [(1,0)] hI))))))) (fun h=>l8 a4C b1S 19 h fun b4h h=>i9 22 h (fun h=>rg<|(D1 h hc2 fun h=>(x8 h hc1 fun e=>x7 J1.h (hr1 _ e)))) (fun h=>l8 I5 L3 25 h fun a3B h=>i9 28 h (fun h=>rg<|(D1 h hc2 fun h=>(x8 h hc1 fun e=>x7 J1.h (hr1 _ e)))) (fun h=>l8 I5 L3 31 h fun b3x h=>i9 34 h (fun h=>rg<|(D1 h hc2 fun h=>(x8 h hc1 fun e=>x7 J1.h (hr1 _ e)))) (fun h=>i9 38 h (fun h=>i9 43 h (fun h=>rg<|(D1 h hc2 fun h=>(x8 h hc1 fun e=>x7 J1.h (hr1 _ e)))) (fun h=>(s7 h hc2 fun hI=>sg [] [1,6,7,8] [(1,0)] hI))) (fun h=>(s7 h hc2 fun hI=>sg [] [1,6,7,8] [(1,0)] hI)))))))) (fun h=>(x5 h hc1 fun e=>sg [] [1] [(1,0)] (hb1 _ e)))
noncomputable def b62 (s_:o9):Option Bool :=
 ((q7 (fun s:Int=>b2s s_ s) 0).bind fun x=>x.go (fun r=>some r) fun s=>c5n s_)
theorem e8W {s_:o9} (r:Bool) (h:b62 s_=some r):o7 cx.P 105 [.agg (b1N s_)] (J1.R r) (J1.O r) :=
 q9 J1.X J1.c J1.h (fun z=>p6<|z3 h fun x hl hr hb=>sg [] [1,6,7,8] [(1,0)] (z4 (I:=fun s:Int=>j6 cx J1.X (J1.R r) (J1.O r) b79 (b4F s_ s)) hl fun s st h hc=>e2h s_ _ _ x (fun s e=>e0j s_ r (hb s e)) (fun v e=>z6 J1 (hr v e)) st hc s h))
noncomputable def a59:FS (List l9):=⟨52,Tryz.f52,[.val [some 2] [some 106]],[none],[.val [some 2] []],fun r=>o8 106 2 u5 r,fun _=>[none],Tryz.func52⟩
noncomputable def a7v (i8:List l9):Option (List l9) :=
 (bif ((i8.length:Int)==0) then some [] else (t5 (0≤(i8.length:Int)∧(i8.length:Int) * 16≤140737488355328) ((t5 (i8.length=(List.replicate (i8.length:Int).toNat (l9.mk 0 0)).length) (some i8)))))
theorem c3y {i8:List l9} (r:List l9) (h:a7v i8=some r):o7 cx.P 52 [j8 2 u5 i8] (a59.R r) (a59.O r) :=
 q9 a59.X a59.c a59.h (fun z=>p6<|i9 2 h (fun h=>rg<|fe z h) (fun h=>rg<|u6 h fun e1 h=>mkS 2 7 106 2 16 u5 (l9.mk 0 0) b3I (.none) e1 (by decide) (by rfl)<|rg<|u6 h fun e2 h=>om (s6.row 106 2 (List.replicate (i8.length:Int).toNat (l9.mk 0 0)).length (i8.map u5)=m4 106 2 u5 i8) (a7d e2)<|o6 (List.replicate (i8.length:Int).toNat (l9.mk 0 0))<|ob e2<|tl (2,{ e:=some (m4 106 2 u5 i8) })<|rg<|om ((List.replicate (i8.length:Int).toNat (l9.mk 0 0)).length=i8.length) (by simp)<|fe z h))
noncomputable def a3Y:FS (List n3):=⟨106,Tryz.f106,[.val [some 4] [some 135]],[none],[.val [some 4] []],fun r=>o8 135 4 B5 r,fun _=>[none],Tryz.func106⟩
noncomputable def a7m (i8:List n3):Option (List n3) :=
 (bif ((i8.length:Int)==0) then some [] else (t5 (0≤(i8.length:Int)∧(i8.length:Int) * 32≤140737488355328) ((t5 (i8.length=(List.replicate (i8.length:Int).toNat (n3.mk (n9.mk 0 0) 0 0)).length) (some i8)))))
theorem b9j {i8:List n3} (r:List n3) (h:a7m i8=some r):o7 cx.P 106 [j8 4 B5 i8] (a3Y.R r) (a3Y.O r) :=
 q9 a3Y.X a3Y.c a3Y.h (fun z=>p6<|i9 2 h (fun h=>rg<|fe z h) (fun h=>rg<|u6 h fun e1 h=>mkS 2 7 135 4 32 B5 (n3.mk (n9.mk 0 0) 0 0) b9n (.none) e1 (by decide) (by rfl)<|rg<|u6 h fun e2 h=>om (s6.row 135 4 (List.replicate (i8.length:Int).toNat (n3.mk (n9.mk 0 0) 0 0)).length (i8.map B5)=m4 135 4 B5 i8) (a7d e2)<|o6 (List.replicate (i8.length:Int).toNat (n3.mk (n9.mk 0 0) 0 0))<|ob e2<|tl (2,{ e:=some (m4 135 4 B5 i8) })<|rg<|om ((List.replicate (i8.length:Int).toNat (n3.mk (n9.mk 0 0) 0 0)).length=i8.length) (by simp)<|fe z h))
noncomputable def Y4:FS (Bool):=⟨107,Tryz.f107,[.val [] []],[none,none],[.val [some 2] [],.val W4 []],fun r=>.b r,fun _=>[none,none],Tryz.func107⟩
noncomputable def d3o:List Item:=Y4.k 4 [false,false]
noncomputable def c8Q:St:=⟨(bs 32 []),[some []]⟩
noncomputable def c9W:Option Bool :=
 some true
theorem e89 (r:Bool) (h:c9W=some r):j6 cx Y4.X (Y4.R r) (Y4.O r) d3o (c8Q) :=
 P0<|rg<|fe Y4.h h
noncomputable def c00:List Item:=Y4.k 3 [false]
noncomputable def c4M (i8:List l9) (r_:m9) (v18:Int):St:=⟨(j8 2 u5 i8::(bs 15 (j8 2 t8 r_.a7::(vi (r_.a7.length:Int)::(vi v18::(bs 13 [])))))),[some []]⟩
noncomputable def b5q (i8:List l9) (r_:m9) (v18:Int):Option (j5 Bool Int Unit) :=
 (bif decide (v18<(r_.a7.length:Int)) then ((idx r_.a7 v18).bind fun E8=>((idx i8 E8.d9).bind fun box=>(bif (box.i6 != E8.i6) then some (j5.ret false) else some (j5.nxt (n8 (v18+1)))))) else some (j5.brk ()))
theorem e8e (i8:List l9) (r_:m9) (res:V) (outs:t7) (x1:j9 Bool Unit) (hb1:HB cx Y4.X res outs x1 d3o (fun s=>c8Q)) (hr1:HR res outs x1 Y4.R Y4.O) (st1:j5 Bool Int Unit) (hc1:t6 x1 (fun s:Int=>j6 cx Y4.X res outs c00 (c4M i8 r_ s)) st1) (v18:Int) (h:b5q i8 r_ v18=some st1):j6 cx Y4.X res outs c00 (c4M i8 r_ v18) :=
 P0<|rg<|i9 0 h (fun h=>rg<|w8 t8 0 h fun E8 a4Y h=>rg<|w8 u5 3 h fun box a3d h=>i9 8 h (fun h=>rg<|(x8 h hc1 fun e=>x7 Y4.h (hr1 _ e))) (fun h=>rg<|(x6 h hc1 fun hI=>sg [] [0,16,17,18] [] hI))) (fun h=>(x5 h hc1 fun e=>sg [] [] [] (hb1 _ e)))
noncomputable def b8D (i8:List l9) (r_:m9):Option Bool :=
 ((a6b i8).bind fun V6=>(bif (!V6) then some false else ((b0x r_).bind fun a2v=>(bif (!a2v) then some false else ((q7 (fun s:Int=>b5q i8 r_ s) 0).bind fun x=>x.go (fun r=>some r) fun s=>c9W)))))
theorem e0W {i8:List l9} {r_:m9} (r:Bool) (h:b8D i8 r_=some r):o7 cx.P 107 [j8 2 u5 i8,.agg (W0 r_)] (Y4.R r) (Y4.O r) :=
 q9 Y4.X Y4.c Y4.h (fun z=>p6<|l8 R0 b2T 1 h fun V6 h=>i9 3 h (fun h=>rg<|fe z h) (fun h=>l8 F6 b9D 5 h fun a2v h=>i9 7 h (fun h=>rg<|fe z h) (fun h=>rg<|z3 h fun x hl hr hb=>sg [] [0,16,17,18] [] (z4 (I:=fun s:Int=>j6 cx Y4.X (Y4.R r) (Y4.O r) c00 (c4M i8 r_ s)) hl fun s st h hc=>e8e i8 r_ _ _ x (fun s e=>e89 r (hb s e)) (fun v e=>z6 Y4 (hr v e)) st hc s h))))
noncomputable def Y8:FS (List l9):=⟨88,Tryz.f88,[.val [some 2] [some 106]],[none,none],[.val [some 2] [],.val W4 []],fun r=>o8 106 2 u5 r,fun _=>[none,none],Tryz.func88⟩
noncomputable def c67:List Item:=Y8.k 5 [false,false]
noncomputable def d3S (out1:List l9):St:=⟨(bs 5 (.own 1 0 2 0 out1.length::(bs 36 []))),[some [],some [m4 106 2 u5 out1]]⟩
noncomputable def c8c (out1:List l9):Option (List l9) :=
 some out1
theorem d7U (r:List l9) (out1:List l9) (h:c8c out1=some r):j6 cx Y8.X (Y8.R r) (Y8.O r) c67 (d3S out1) :=
 P0<|rg<|o6 out1<|fe Y8.h h
noncomputable def c0C:List Item:=Y8.k 4 [false]
noncomputable def b92 (r_:m9) (out:List l9) (v21:Int):St:=⟨(bs 5 (.own 1 0 2 0 out.length::(bs 13 (j8 2 u0 r_.a8::(vi (r_.a8.length:Int)::(vi v21::(bs 20 []))))))),[some [],some [m4 106 2 u5 out]]⟩
noncomputable def b77 (r_:m9) (out:List l9) (v21:Int):Option (j5 (List l9) ((List l9)×Int) (List l9)) :=
 (bif decide (v21<(r_.a8.length:Int)) then ((idx r_.a8 v21).bind fun put=>((idx out put.d9).bind fun T1=>some (j5.nxt (out.set put.d9.toNat (l9.mk (if (n8 (T1.i6+1))<1000000 then (n8 (T1.i6+1)) else 1000000) put.c9),n8 (v21+1))))) else some (j5.brk out))
theorem e2W (r_:m9) (res:V) (outs:t7) (x1:j9 (List l9) (List l9)) (hb1:HB cx Y8.X res outs x1 c67 d3S) (hr1:HR res outs x1 Y8.R Y8.O) (st1:j5 (List l9) ((List l9)×Int) (List l9)) (hc1:t6 x1 (fun s:(List l9)×Int=>j6 cx Y8.X res outs c0C (b92 r_ s.1 s.2)) st1) (out:List l9) (v21:Int) (h:b77 r_ out v21=some st1):j6 cx Y8.X res outs c0C (b92 r_ out v21) :=
 P0<|rg<|i9 0 h (fun h=>rg<|w8 u0 0 h fun put hput h=>rg<|C4 h fun T1 a52 h=>E6 a52<|T3 u5 8 a52<|E6 a52<|stR 106 2 u5 15 [] (l9.mk (if (n8 (T1.i6+1))<1000000 then (n8 (T1.i6+1)) else 1000000) put.c9) a52<|rg<|(x6 h hc1 fun hI=>om ((.own 1 0 2 0 out.length:V) = .own 1 0 2 0 (out.set put.d9.toNat (l9.mk (if (n8 (T1.i6+1))<1000000 then (n8 (T1.i6+1)) else 1000000) put.c9)).length) (by simp)<|sg [.is (.tmp 5) (.own 1 0 2 0 (out.set put.d9.toNat (l9.mk (if (n8 (T1.i6+1))<1000000 then (n8 (T1.i6+1)) else 1000000) put.c9)).length)] [5,19,20,21] [(1,0)] hI)) (fun h=>(x5 h hc1 fun e=>sg [] [5] [(1,0)] (hb1 _ e)))
noncomputable def b1W (i8:List l9) (r_:m9):Option (List l9) :=
 ((a6b i8).bind fun V6=>(bif (!V6) then some [] else ((b0x r_).bind fun a2v=>(bif (!a2v) then some [] else ((a7v i8).bind fun box=>((q7 (fun s:(List l9)×Int=>b77 r_ s.1 s.2) (box,0)).bind fun x=>x.go (fun r=>some r) fun s=>c8c s))))))
theorem c7m {i8:List l9} {r_:m9} (r:List l9) (h:b1W i8 r_=some r):o7 cx.P 88 [j8 2 u5 i8,.agg (W0 r_)] (Y8.R r) (Y8.O r) :=
 q9 Y8.X Y8.c Y8.h (fun z=>p6<|l8 R0 b2T 1 h fun V6 h=>i9 3 h (fun h=>rg<|fe z h) (fun h=>l8 F6 b9D 5 h fun a2v h=>i9 7 h (fun h=>rg<|fe z h) (fun h=>rg<|l8 a59 c3y 1 h fun box h=>rg<|z3 h fun x hl hr hb=>sg [] [5,19,20,21] [(12,0)] (z4 (I:=fun s:(List l9)×Int=>j6 cx Y8.X (Y8.R r) (Y8.O r) c0C (b92 r_ s.1 s.2)) hl fun s st h hc=>e2W r_ _ _ x (fun s e=>d7U r s (hb s e)) (fun v e=>z6 Y8 (hr v e)) st hc s.1 s.2 h))))
noncomputable def B6:FS (o9×Int):=⟨70,Tryz.f70,[.val [none,some 2,some 4] [none,some 106,some 135],.val [] []],[none,none],[.val [none,some 2,some 4] [],.val T4 []],fun r=>.tup [.agg [vi r.1.At,o8 106 2 u5 r.1.d7,o8 135 4 B5 r.1.f0],vi r.2],fun _=>[none,none],Tryz.func70⟩
noncomputable def c2M:List Item:=B6.k 6 [false,false,false]
noncomputable def c4Q (s_:o9) (e_:l7) (box:List l9):St:=⟨(bs 2 (.ptr 1 0 0::(.ptr 2 0 0::(.ptr 3 0 0::(bs 1 (.ptr 4 0 0::(bs 145 []))))))),[some [],some [.var 62 [vi s_.At,j8 2 u5 s_.d7,j8 4 B5 s_.f0]],some [.var 69 (a5W e_)],some [.var 62 [vi 0,.nil,.nil]],some [.var 62 [vi (n8 (s_.At+1)),.own 5 0 2 0 box.length,.nil]],some [m4 106 2 u5 box]]⟩
noncomputable def d3t:List Item:=B6.k 9 [false,false,false,true]
noncomputable def d3F (s_:o9) (own:n3) (d7:List l9):St:=⟨(bs 2 (.ptr 1 0 0::(bs 1 (.ptr 2 0 0::(bs 1 (.ptr 3 0 0::(bs 2 (.ptr 5 0 0::(bs 142 []))))))))),[some [],some [.var 62 [vi s_.At,j8 2 u5 s_.d7,j8 4 B5 s_.f0]],some [.var 62 [vi 0,.nil,.nil]],some [.var 62 [vi (n8 (s_.At+1)),.own 4 0 2 0 d7.length,.nil]],some [m4 106 2 u5 d7],some [.var 135 [vi own.a5.b9,vi own.a5.Seq,vi own.Code,vi own.c9]]]⟩
noncomputable def b5N:List Item:=B6.k 13 [false,false,false,true,false]
noncomputable def b8W (s_:o9) (own:n3) (d7:List l9) (a4W:List n3) (C6:Bool):St:=⟨(bs 4 (.ptr 1 0 0::(bs 1 (.ptr 2 0 0::(bs 2 (.ptr 4 0 0::(.own 5 0 4 0 a4W.length::(.b C6::(bs 140 []))))))))),[some [],some [.var 62 [vi 0,.nil,.nil]],some [.var 62 [vi (n8 (s_.At+1)),.own 3 0 2 0 d7.length,.nil]],some [m4 106 2 u5 d7],some [.var 135 [vi own.a5.b9,vi own.a5.Seq,vi own.Code,vi own.c9]],some [m4 135 4 B5 a4W]]⟩
noncomputable def c7s:List Item:=B6.k 15 [false,false,false,true,false,true]
noncomputable def d28 (s_:o9) (own:n3) (d7:List l9) (a6Q:List n3):St:=⟨(bs 4 (.ptr 1 0 0::(bs 1 (.ptr 2 0 0::(bs 2 (.ptr 4 0 0::(.own 5 0 4 0 a6Q.length::(bs 141 [])))))))),[some [],some [.var 62 [vi 0,.nil,.nil]],some [.var 62 [vi (n8 (s_.At+1)),.own 3 0 2 0 d7.length,.nil]],some [m4 106 2 u5 d7],some [.var 135 [vi own.a5.b9,vi own.a5.Seq,vi own.Code,vi own.c9]],some [m4 135 4 B5 a6Q]]⟩
noncomputable def c02 (s_:o9) (own:n3) (d7:List l9) (a6Q:List n3):Option (o9×Int) :=
 ((a7m a6Q).bind fun a4d=>some ((o9.mk (n8 (s_.At+1)) d7 a4d),own.Code))
theorem d7L (s_:o9) (own:n3) (d7:List l9) (r:o9×Int) (a6Q:List n3) (h:c02 s_ own d7 a6Q=some r):j6 cx B6.X (B6.R r) (B6.O r) c7s (d28 s_ own d7 a6Q) :=
 P0<|rg<|N1 a3Y b9j 1 h fun a4d h=>om (B8 (a3Y.R a4d)∧E2 (a3Y.O a4d)) ⟨(by simp [a3Y,B8,U4,Q5,V.simple,vi,o8,B5,eI,G2]),F9 1⟩<|o6 a6Q<|rg<|H5 d7 a4d<|fe B6.h h
noncomputable def c3k (s_:o9) (own:n3) (d7:List l9) (a4W:List n3) (C6:Bool):Option (o9×Int) :=
 (((bif (!C6) then (t5 ((a4W.length+1) * 32≤140737488355328) (some (j9.brk (a4W++[own])))) else some (j9.brk a4W)):Option (j9 (o9×Int) (List n3))).bind fun x=>x.go some fun j=>c02 s_ own d7 j)
theorem e1s (s_:o9) (own:n3) (d7:List l9) (r:o9×Int) (a4W:List n3) (C6:Bool) (h:c3k s_ own d7 a4W C6=some r):j6 cx B6.X (B6.R r) (B6.O r) b5N (b8W s_ own d7 a4W C6) :=
 P0<|D8 (I:=fun j:List n3=>j6 cx B6.X (B6.R r) (B6.O r) c7s (d28 s_ own d7 j)) h (fun j h=>d7L s_ own d7 r j h) (fun x1 h hc1=>rg<|i9 1 h (fun h=>rg<|tk 2 []<|u6 h fun e1 h=>M1 3 11 135 4 32 B5 a4W own e1<|om (1=[own].length) (by rfl)<|(s7 h hc1 fun hI=>sg [] [4,6,9,10] [(1,0),(2,0),(3,0),(4,0),(11,0)] hI)) (fun h=>(s7 h hc1 fun hI=>sg [] [4,6,9,10] [(1,0),(2,0),(3,0),(4,0),(5,0)] hI)))
noncomputable def b4f:List Item:=B6.k 12 [false,false,false,true]
noncomputable def b3f (s_:o9) (own:n3) (d7:List l9) (dones:List n3) (R3:Int) (put:Bool):St:=⟨(bs 4 (.ptr 1 0 0::(bs 1 (.ptr 2 0 0::(bs 2 (.ptr 4 0 0::(.own 5 0 4 0 dones.length::(.b put::(bs 95 (j8 4 B5 s_.f0::(vi (s_.f0.length:Int)::(vi R3::(bs 42 []))))))))))))),[some [],some [.var 62 [vi 0,.nil,.nil]],some [.var 62 [vi (n8 (s_.At+1)),.own 3 0 2 0 d7.length,.nil]],some [m4 106 2 u5 d7],some [.var 135 [vi own.a5.b9,vi own.a5.Seq,vi own.Code,vi own.c9]],some [m4 135 4 B5 dones]]⟩
noncomputable def d1l:List Item:=B6.k 17 [false,false,false,true,true,true]
noncomputable def d5m (s_:o9) (own:n3) (d7:List l9) (R3:Int) (a0P:n3) (a4S:List n3) (a0p:Bool):St:=⟨(bs 4 (.ptr 1 0 0::(bs 1 (.ptr 2 0 0::(bs 2 (.ptr 4 0 0::(.own 5 0 4 0 a4S.length::(.b a0p::(bs 1 (.ptr 6 0 0::(bs 93 (j8 4 B5 s_.f0::(vi (s_.f0.length:Int)::(vi R3::(bs 42 []))))))))))))))),[some [],some [.var 62 [vi 0,.nil,.nil]],some [.var 62 [vi (n8 (s_.At+1)),.own 3 0 2 0 d7.length,.nil]],some [m4 106 2 u5 d7],some [.var 135 [vi own.a5.b9,vi own.a5.Seq,vi own.Code,vi own.c9]],some [m4 135 4 B5 a4S],some [.var 135 [vi a0P.a5.b9,vi a0P.a5.Seq,vi a0P.Code,vi a0P.c9]]]⟩
noncomputable def d4q:List Item:=B6.k 19 [false,false,false,true,true,true,true]
noncomputable def c7w (s_:o9) (own:n3) (d7:List l9) (R3:Int) (a0p:Bool) (a7r:List n3):St:=⟨(bs 4 (.ptr 1 0 0::(bs 1 (.ptr 2 0 0::(bs 2 (.ptr 4 0 0::(.own 5 0 4 0 a7r.length::(.b a0p::(bs 95 (j8 4 B5 s_.f0::(vi (s_.f0.length:Int)::(vi R3::(bs 42 []))))))))))))),[some [],some [.var 62 [vi 0,.nil,.nil]],some [.var 62 [vi (n8 (s_.At+1)),.own 3 0 2 0 d7.length,.nil]],some [m4 106 2 u5 d7],some [.var 135 [vi own.a5.b9,vi own.a5.Seq,vi own.Code,vi own.c9]],some [m4 135 4 B5 a7r]]⟩
noncomputable def c1l (R3:Int) (a0p:Bool) (a7r:List n3):Option (j5 (o9×Int) ((List n3)×Int×Bool) ((List n3)×Bool)) :=
 some (j5.nxt (a7r,n8 (R3+1),a0p))
theorem e4c (s_:o9) (own:n3) (d7:List l9) (R3:Int) (a0p:Bool) (res:V) (outs:t7) (x1:j9 (o9×Int) ((List n3)×Bool)) (hb1:HB cx B6.X res outs x1 b5N (fun s=>b8W s_ own d7 s.1 s.2)) (hr1:HR res outs x1 B6.R B6.O) (st1:j5 (o9×Int) ((List n3)×Int×Bool) ((List n3)×Bool)) (hc1:t6 x1 (fun s:(List n3)×Int×Bool=>j6 cx B6.X res outs b4f (b3f s_ own d7 s.1 s.2.1 s.2.2)) st1) (a7r:List n3) (h:c1l R3 a0p a7r=some st1):j6 cx B6.X res outs d4q (c7w s_ own d7 R3 a0p a7r) :=
 P0<|rg<|(x6 h hc1 fun hI=>sg [] [4,6,9,10,11,107,108,109] [(1,0),(2,0),(3,0),(4,0),(5,0)] hI)
noncomputable def c5A (own:n3) (R3:Int) (a0P:n3) (a4S:List n3) (a0p:Bool):Option (j5 (o9×Int) ((List n3)×Int×Bool) ((List n3)×Bool)) :=
 (((bif (a0P.a5.b9 != own.a5.b9) then (t5 ((a4S.length+1) * 32≤140737488355328) (some (j9.brk (a4S++[a0P])))) else some (j9.brk a4S)):Option (j9 (j5 (o9×Int) ((List n3)×Int×Bool) ((List n3)×Bool)) (List n3))).bind fun x=>x.go some fun j=>c1l R3 a0p j)
theorem d8r (s_:o9) (own:n3) (d7:List l9) (R3:Int) (a0P:n3) (res:V) (outs:t7) (x1:j9 (o9×Int) ((List n3)×Bool)) (hb1:HB cx B6.X res outs x1 b5N (fun s=>b8W s_ own d7 s.1 s.2)) (hr1:HR res outs x1 B6.R B6.O) (st1:j5 (o9×Int) ((List n3)×Int×Bool) ((List n3)×Bool)) (hc1:t6 x1 (fun s:(List n3)×Int×Bool=>j6 cx B6.X res outs b4f (b3f s_ own d7 s.1 s.2.1 s.2.2)) st1) (a4S:List n3) (a0p:Bool) (h:c5A own R3 a0P a4S a0p=some st1):j6 cx B6.X res outs d1l (d5m s_ own d7 R3 a0P a4S a0p) :=
 P0<|D8 (I:=fun j:List n3=>j6 cx B6.X res outs d4q (c7w s_ own d7 R3 a0p j)) h (fun j h=>e4c s_ own d7 R3 a0p res outs x1 hb1 hr1 st1 hc1 j h) (fun x2 h hc2=>rg<|i9 6 h (fun h=>rg<|tk 2 []<|u6 h fun e2 h=>M1 3 17 135 4 32 B5 a4S a0P e2<|om (1=[a0P].length) (by rfl)<|(s7 h hc2 fun hI=>sg [] [4,6,9,10,11,107,108,109] [(1,0),(2,0),(3,0),(4,0),(17,0)] hI)) (fun h=>(s7 h hc2 fun hI=>sg [] [4,6,9,10,11,107,108,109] [(1,0),(2,0),(3,0),(4,0),(5,0)] hI)))
noncomputable def b4s (s_:o9) (own:n3) (dones:List n3) (R3:Int) (put:Bool):Option (j5 (o9×Int) ((List n3)×Int×Bool) ((List n3)×Bool)) :=
 (bif decide (R3<(s_.f0.length:Int)) then ((idx s_.f0 R3).bind fun a0P=>(((bif (!put) then (bif decide (a0P.a5.b9≥own.a5.b9) then (t5 ((dones.length+1) * 32≤140737488355328) (some (j9.brk (dones++[own],true)))) else some (j9.brk (dones,put))) else some (j9.brk (dones,put))):Option (j9 (j5 (o9×Int) ((List n3)×Int×Bool) ((List n3)×Bool)) ((List n3)×Bool))).bind fun x=>x.go some fun j=>c5A own R3 a0P j.1 j.2)) else some (j5.brk (dones,put)))
theorem e3J (s_:o9) (own:n3) (d7:List l9) (res:V) (outs:t7) (x1:j9 (o9×Int) ((List n3)×Bool)) (hb1:HB cx B6.X res outs x1 b5N (fun s=>b8W s_ own d7 s.1 s.2)) (hr1:HR res outs x1 B6.R B6.O) (st1:j5 (o9×Int) ((List n3)×Int×Bool) ((List n3)×Bool)) (hc1:t6 x1 (fun s:(List n3)×Int×Bool=>j6 cx B6.X res outs b4f (b3f s_ own d7 s.1 s.2.1 s.2.2)) st1) (dones:List n3) (R3:Int) (put:Bool) (h:b4s s_ own dones R3 put=some st1):j6 cx B6.X res outs b4f (b3f s_ own d7 dones R3 put) :=
 P0<|rg<|i9 0 h (fun h=>rg<|w8 B5 0 h fun a0P e9q h=>D8 (I:=fun j:(List n3)×Bool=>j6 cx B6.X res outs d1l (d5m s_ own d7 R3 a0P j.1 j.2)) h (fun j h=>d8r s_ own d7 R3 a0P res outs x1 hb1 hr1 st1 hc1 j.1 j.2 h) (fun x2 h hc2=>rg<|i9 2 h (fun h=>i9 10 h (fun h=>rg<|tk 2 []<|u6 h fun e3 h=>M1 3 25 135 4 32 B5 dones own e3<|om (1=[own].length) (by rfl)<|rg<|(s7 h hc2 fun hI=>sg [] [4,6,9,10,11,13,107,108,109] [(1,0),(2,0),(3,0),(4,0),(25,0),(9,0)] hI)) (fun h=>(s7 h hc2 fun hI=>sg [] [4,6,9,10,11,13,107,108,109] [(1,0),(2,0),(3,0),(4,0),(5,0),(9,0)] hI))) (fun h=>(s7 h hc2 fun hI=>sg [] [4,6,9,10,11,13,107,108,109] [(1,0),(2,0),(3,0),(4,0),(5,0),(9,0)] hI)))) (fun h=>(x5 h hc1 fun e=>sg [] [4,6,9,10,11] [(1,0),(2,0),(3,0),(4,0),(5,0)] (hb1 _ e)))
noncomputable def b4A (s_:o9) (own:n3) (d7:List l9):Option (o9×Int) :=
 ((q7 (fun s:(List n3)×Int×Bool=>b4s s_ own s.1 s.2.1 s.2.2) ([],0,false)).bind fun x=>x.go (fun r=>some r) fun s=>c3k s_ own d7 s.1 s.2)
theorem e04 (s_:o9) (r:o9×Int) (own:n3) (d7:List l9) (h:b4A s_ own d7=some r):j6 cx B6.X (B6.R r) (B6.O r) d3t (d3F s_ own d7) :=
 P0<|rg3<|z3 h fun x hl hr hb=>sg [.own (.tmp 10) 135 4] [4,6,9,10,11,107,108,109] [(2,0),(3,0),(4,0),(5,0),(12,0)] (z4 (I:=fun s:(List n3)×Int×Bool=>j6 cx B6.X (B6.R r) (B6.O r) b4f (b3f s_ own d7 s.1 s.2.1 s.2.2)) hl fun s st h hc=>e3J s_ own d7 _ _ x (fun s e=>e1s s_ own d7 r s.1 s.2 (hb s e)) (fun v e=>z6 B6 (hr v e)) st hc s.1 s.2.1 s.2.2 h)
noncomputable def b4D (s_:o9) (e_:l7) (box:List l9):Option (o9×Int) :=
 ((((b8D s_.d7 e_.a9).bind fun a4l=>(bif (!a4l) then some (j9.brk ((n3.mk e_.a5 1 0),box)) else (bif (e_.a9.Code != 0) then some (j9.brk ((n3.mk e_.a5 2 0),box)) else ((b1W s_.d7 e_.a9).bind fun b1z=>some (j9.brk ((n3.mk e_.a5 0 e_.a9.c9),b1z)))))):Option (j9 (o9×Int) (n3×List l9))).bind fun x=>x.go some fun j=>b4A s_ j.1 j.2)
theorem e7T (s_:o9) (e_:l7) (box:List l9) (r:o9×Int) (h:b4D s_ e_ box=some r):j6 cx B6.X (B6.R r) (B6.O r) c2M (c4Q s_ e_ box) :=
 P0<|rg<|D8 (I:=fun j:n3×List l9=>j6 cx B6.X (B6.R r) (B6.O r) d3t (d3F s_ j.1 j.2)) h (fun j h=>e04 s_ r j.1 j.2 h) (fun x1 h hc1=>rg<|l8 Y4 e0W 4 h fun a4l h=>i9 6 h (fun h=>rg<|(s7 h hc1 fun hI=>sg [] [2,4,6,9] [(1,0),(3,0),(4,0),(5,0),(9,0)] hI)) (fun h=>rg<|i9 4 h (fun h=>rg<|(s7 h hc1 fun hI=>sg [] [2,4,6,9] [(1,0),(3,0),(4,0),(5,0),(9,0)] hI)) (fun h=>p6<|l8 Y8 c7m 4 h fun b1z h=>(s7 h hc1 fun hI=>sg [] [2,4,6,9] [(1,0),(3,0),(4,0),(32,0),(9,0)] hI))))
noncomputable def b6B:List Item:=B6.k 5 [false,false]
noncomputable def b8j (s_:o9) (e_:l7) (box:List l9) (v45:Int):St:=⟨(bs 2 (.ptr 1 0 0::(.ptr 2 0 0::(.ptr 3 0 0::(bs 1 (.ptr 4 0 0::(bs 36 (j8 4 B5 s_.f0::(vi (s_.f0.length:Int)::(vi v45::(bs 106 []))))))))))),[some [],some [.var 62 [vi s_.At,j8 2 u5 s_.d7,j8 4 B5 s_.f0]],some [.var 69 (a5W e_)],some [.var 62 [vi 0,.nil,.nil]],some [.var 62 [vi (n8 (s_.At+1)),.own 5 0 2 0 box.length,.nil]],some [m4 106 2 u5 box]]⟩
noncomputable def c6q:List Item:=B6.k 8 [false,false,true,false]
noncomputable def d0k (s_:o9) (e_:l7) (box:List l9) (v45:Int):St:=⟨(bs 2 (.ptr 1 0 0::(.ptr 2 0 0::(.ptr 3 0 0::(bs 1 (.ptr 4 0 0::(bs 36 (j8 4 B5 s_.f0::(vi (s_.f0.length:Int)::(vi v45::(bs 106 []))))))))))),[some [],some [.var 62 [vi s_.At,j8 2 u5 s_.d7,j8 4 B5 s_.f0]],some [.var 69 (a5W e_)],some [.var 62 [vi 0,.nil,.nil]],some [.var 62 [vi (n8 (s_.At+1)),.own 5 0 2 0 box.length,.nil]],some [m4 106 2 u5 box]]⟩
noncomputable def c4i (v45:Int):Option (j5 (o9×Int) Int Unit) :=
 some (j5.nxt (n8 (v45+1)))
theorem e6V (s_:o9) (e_:l7) (box:List l9) (v45:Int) (res:V) (outs:t7) (x1:j9 (o9×Int) Unit) (hb1:HB cx B6.X res outs x1 c2M (fun s=>c4Q s_ e_ box)) (hr1:HR res outs x1 B6.R B6.O) (st1:j5 (o9×Int) Int Unit) (hc1:t6 x1 (fun s:Int=>j6 cx B6.X res outs b6B (b8j s_ e_ box s)) st1) (h:c4i v45=some st1):j6 cx B6.X res outs c6q (d0k s_ e_ box v45) :=
 P0<|rg<|(x6 h hc1 fun hI=>sg [] [2,3,4,6,43,44,45] [(1,0),(2,0),(3,0),(4,0),(5,0)] hI)
noncomputable def b7s (s_:o9) (e_:l7) (box:List l9) (v45:Int):Option (j5 (o9×Int) Int Unit) :=
 (bif decide (v45<(s_.f0.length:Int)) then ((idx s_.f0 v45).bind fun b85=>(((bif (b85.a5.b9==e_.a5.b9) then (bif decide (b85.a5.Seq≥e_.a5.Seq) then ((a7m s_.f0).bind fun b2B=>(bif (b85.a5.Seq==e_.a5.Seq) then some (j9.ret (j5.ret ((o9.mk (n8 (s_.At+1)) box b2B),3))) else some (j9.ret (j5.ret ((o9.mk (n8 (s_.At+1)) box b2B),4))))) else some (j9.brk ())) else some (j9.brk ())):Option (j9 (j5 (o9×Int) Int Unit) Unit)).bind fun x=>x.go some fun j=>c4i v45)) else some (j5.brk ()))
theorem d6Q (s_:o9) (e_:l7) (box:List l9) (res:V) (outs:t7) (x1:j9 (o9×Int) Unit) (hb1:HB cx B6.X res outs x1 c2M (fun s=>c4Q s_ e_ box)) (hr1:HR res outs x1 B6.R B6.O) (st1:j5 (o9×Int) Int Unit) (hc1:t6 x1 (fun s:Int=>j6 cx B6.X res outs b6B (b8j s_ e_ box s)) st1) (v45:Int) (h:b7s s_ e_ box v45=some st1):j6 cx B6.X res outs b6B (b8j s_ e_ box v45) :=
 P0<|rg<|i9 0 h (fun h=>rg<|w8 B5 0 h fun b85 e9u h=>D8 (I:=fun j:Unit=>j6 cx B6.X res outs c6q (d0k s_ e_ box v45)) h (fun j h=>e6V s_ e_ box v45 res outs x1 hb1 hr1 st1 hc1 h) (fun x2 h hc2=>rg<|i9 7 h (fun h=>i9 15 h (fun h=>rg<|l8 a3Y b9j 2 h fun b2B h=>rg<|i9 6 h (fun h=>rg<|(D1 h hc2 fun h=>(x8 h hc1 fun e=>H5 box b2B<|x7 B6.h (hr1 _ e)))) (fun h=>rg<|(D1 h hc2 fun h=>(x8 h hc1 fun e=>H5 box b2B<|x7 B6.h (hr1 _ e))))) (fun h=>(s7 h hc2 fun hI=>sg [] [2,3,4,6,43,44,45] [(1,0),(2,0),(3,0),(4,0),(5,0)] hI))) (fun h=>(s7 h hc2 fun hI=>sg [] [2,3,4,6,43,44,45] [(1,0),(2,0),(3,0),(4,0),(5,0)] hI)))) (fun h=>(x5 h hc1 fun e=>sg [] [2,3,4,6] [(1,0),(2,0),(3,0),(4,0),(5,0)] (hb1 _ e)))
noncomputable def b5M (s_:o9) (e_:l7):Option (o9×Int) :=
 ((b62 s_).bind fun d2E=>(bif (!d2E) then some ((o9.mk 0 [] []),(-1)) else ((a3C e_).bind fun G9=>(bif (!G9) then some ((o9.mk 0 [] []),(-1)) else (bif (s_.At==40) then some ((o9.mk 0 [] []),(-1)) else ((a7v s_.d7).bind fun box=>(bif e_.g8 then ((a7m s_.f0).bind fun done=>some ((o9.mk (n8 (s_.At+1)) box done),5)) else ((q7 (fun s:Int=>b7s s_ e_ box s) 0).bind fun x=>x.go (fun r=>some r) fun s=>b4D s_ e_ box))))))))
theorem d80 {s_:o9} {e_:l7} (r:o9×Int) (h:b5M s_ e_=some r):o7 cx.P 70 [.agg (b1N s_),.agg (p9 e_)] (B6.R r) (B6.O r) :=
 q9 B6.X B6.c B6.h (fun z=>p6<|l8 J1 e8W 1 h fun d2E h=>i9 3 h (fun h=>rg<|fe z h) (fun h=>l8 a2f a5x 5 h fun G9 h=>i9 8 h (fun h=>rg<|fe z h) (fun h=>i9 12 h (fun h=>rg<|fe z h) (fun h=>rg<|l8 a59 c3y 5 h fun box h=>rg<|i9 1 h (fun h=>rg<|l8 a3Y b9j 2 h fun done h=>rg<|H5 box done<|fe z h) (fun h=>rg<|z3 h fun x hl hr hb=>sg [] [2,3,4,6,43,44,45] [(1,0),(2,0),(3,0),(25,0),(23,0)] (z4 (I:=fun s:Int=>j6 cx B6.X (B6.R r) (B6.O r) b6B (b8j s_ e_ box s)) hl fun s st h hc=>d6Q s_ e_ box _ _ x (fun s e=>e7T s_ e_ box r (hb s e)) (fun v e=>z6 B6 (hr v e)) st hc s h))))))
noncomputable def W5:FS (o9×List Int):=⟨37,Tryz.f37,[.val [none,some 2,some 4] [none,some 106,some 135],.val [some 1] [some 3]],[none],[.val [some 7] []],fun r=>.tup [.agg [vi r.1.At,o8 106 2 u5 r.1.d7,o8 135 4 B5 r.1.f0],o8 3 1 eI r.2],fun _=>[none],Tryz.func37⟩
noncomputable def d3f:List Item:=W5.k 5 [false]
noncomputable def d3l (a07:List l9) (a6W:List n3) (a6c:List Int) (a2K:Int):St:=⟨(bs 2 (.ptr 1 0 0::(bs 1 (.ptr 2 0 0::(.own 5 0 1 0 a6c.length::(bs 25 [])))))),[some [],some [.var 62 [vi 0,.nil,.nil]],some [.var 62 [vi a2K,.own 3 0 2 0 a07.length,.own 4 0 4 0 a6W.length]],some [m4 106 2 u5 a07],some [m4 135 4 B5 a6W],some [m4 3 1 eI a6c]]⟩
noncomputable def c78 (a07:List l9) (a6W:List n3) (a6c:List Int) (a2K:Int):Option (o9×List Int) :=
 some ((o9.mk a2K a07 a6W),a6c)
theorem e5P (r:o9×List Int) (a07:List l9) (a6W:List n3) (a6c:List Int) (a2K:Int) (h:c78 a07 a6W a6c a2K=some r):j6 cx W5.X (W5.R r) (W5.O r) d3f (d3l a07 a6W a6c a2K) :=
 P0<|rg<|ol3 a07 a6W a6c<|fe W5.h h
noncomputable def c0n:List Item:=W5.k 4 []
noncomputable def c4p (i8:List l7) (d7:List l9) (f0:List n3) (a4j:List Int) (v13:Int) (sAt:Int):St:=⟨(bs 2 (.ptr 1 0 0::(bs 1 (.ptr 2 0 0::(.own 5 0 1 0 a4j.length::(bs 5 (j8 7 p9 i8::(vi (i8.length:Int)::(vi v13::(bs 17 [])))))))))),[some [],some [.var 62 [vi 0,.nil,.nil]],some [.var 62 [vi sAt,.own 3 0 2 0 d7.length,.own 4 0 4 0 f0.length]],some [m4 106 2 u5 d7],some [m4 135 4 B5 f0],some [m4 3 1 eI a4j]]⟩
noncomputable def a2e (i8:List l7) (d7:List l9) (f0:List n3) (a4j:List Int) (v13:Int) (sAt:Int):Option (j5 (o9×List Int) ((List l9)×(List n3)×(List Int)×Int×Int) ((List l9)×(List n3)×(List Int)×Int)) :=
 (bif decide (v13<(i8.length:Int)) then ((idx i8 v13).bind fun z7=>((b5M (o9.mk sAt d7 f0) z7).bind fun a5G=>(t5 ((a4j.length+1) * 8≤140737488355328) (some (j5.nxt (a5G.1.d7,a5G.1.f0,a4j++[a5G.2],n8 (v13+1),a5G.1.At)))))) else some (j5.brk (d7,f0,a4j,sAt)))
theorem e8S (i8:List l7) (res:V) (outs:t7) (x1:j9 (o9×List Int) ((List l9)×(List n3)×(List Int)×Int)) (hb1:HB cx W5.X res outs x1 d3f (fun s=>d3l s.1 s.2.1 s.2.2.1 s.2.2.2)) (hr1:HR res outs x1 W5.R W5.O) (st1:j5 (o9×List Int) ((List l9)×(List n3)×(List Int)×Int×Int) ((List l9)×(List n3)×(List Int)×Int)) (hc1:t6 x1 (fun s:(List l9)×(List n3)×(List Int)×Int×Int=>j6 cx W5.X res outs c0n (c4p i8 s.1 s.2.1 s.2.2.1 s.2.2.2.1 s.2.2.2.2)) st1) (d7:List l9) (f0:List n3) (a4j:List Int) (v13:Int) (sAt:Int) (h:a2e i8 d7 f0 a4j v13 sAt=some st1):j6 cx W5.X res outs c0n (c4p i8 d7 f0 a4j v13 sAt) :=
 P0<|rg<|i9 0 h (fun h=>rg<|w8 p9 0 h fun z7 J6 h=>rg<|N1 B6 d80 2 h fun a5G h=>om (B8 (B6.R a5G)∧E2 (B6.O a5G)) ⟨(by simp [B6,B8,U4,Q5,V.simple,vi,o8,u5,B5,eI,G2,b1N]),F9 2⟩<|H5 d7 f0<|p6<|tk 2 []<|u6 h fun e1 h=>M1 3 25 3 1 8 eI a4j a5G.2 e1<|om (1=[a5G.2].length) (by rfl)<|rg<|(x6 h hc1 fun hI=>sg [] [2,4,5,11,12,13] [(1,0),(2,0),(13,0),(13,1),(25,0)] hI)) (fun h=>(x5 h hc1 fun e=>sg [] [2,4,5] [(1,0),(2,0),(3,0),(4,0),(5,0)] (hb1 _ e)))
noncomputable def b01 (i8:List l7):Option (o9×List Int) :=
 ((b5i).bind fun U1=>((q7 (fun s:(List l9)×(List n3)×(List Int)×Int×Int=>a2e i8 s.1 s.2.1 s.2.2.1 s.2.2.2.1 s.2.2.2.2) (U1.d7,U1.f0,[],0,U1.At)).bind fun x=>x.go (fun r=>some r) fun s=>c78 s.1 s.2.1 s.2.2.1 s.2.2.2))
theorem c5t {i8:List l7} (r:o9×List Int) (h:b01 i8=some r):o7 cx.P 37 [j8 7 p9 i8] (W5.R r) (W5.O r) :=
 q9 W5.X W5.c W5.h (fun z=>p6<|l8 b0t d8I 0 h fun U1 h=>p6<|z3 h fun x hl hr hb=>sg [.own (.tmp 5) 3 1] [2,4,5,11,12,13] [(1,0),(4,0),(3,0),(3,1),(10,0)] (z4 (I:=fun s:(List l9)×(List n3)×(List Int)×Int×Int=>j6 cx W5.X (W5.R r) (W5.O r) c0n (c4p i8 s.1 s.2.1 s.2.2.1 s.2.2.2.1 s.2.2.2.2)) hl fun s st h hc=>e8S i8 _ _ x (fun s e=>e5P r s.1 s.2.1 s.2.2.1 s.2.2.2 (hb s e)) (fun v e=>z6 W5 (hr v e)) st hc s.1 s.2.1 s.2.2.1 s.2.2.2.1 s.2.2.2.2 h))
noncomputable def a5o:FS (List n9):=⟨50,Tryz.f50,[.val [some 2] [some 31]],[none],[.val [some 2] []],fun r=>o8 31 2 G2 r,fun _=>[none],Tryz.func50⟩
noncomputable def b7U (i8:List n9):Option (List n9) :=
 (bif ((i8.length:Int)==0) then some [] else (t5 (0≤(i8.length:Int)∧(i8.length:Int) * 16≤140737488355328) ((t5 (i8.length=(List.replicate (i8.length:Int).toNat (n9.mk 0 0)).length) (some i8)))))
theorem e8V {i8:List n9} (r:List n9) (h:b7U i8=some r):o7 cx.P 50 [j8 2 G2 i8] (a5o.R r) (a5o.O r) :=
 q9 a5o.X a5o.c a5o.h (fun z=>p6<|i9 2 h (fun h=>rg<|fe z h) (fun h=>rg<|u6 h fun e1 h=>mkS 2 7 31 2 16 G2 (n9.mk 0 0) b9t (.none) e1 (by decide) (by rfl)<|rg<|u6 h fun e2 h=>om (s6.row 31 2 (List.replicate (i8.length:Int).toNat (n9.mk 0 0)).length (i8.map G2)=m4 31 2 G2 i8) (a7d e2)<|o6 (List.replicate (i8.length:Int).toNat (n9.mk 0 0))<|ob e2<|tl (2,{ e:=some (m4 31 2 G2 i8) })<|rg<|om ((List.replicate (i8.length:Int).toNat (n9.mk 0 0)).length=i8.length) (by simp)<|fe z h))
noncomputable def P9:FS (List n9):=⟨22,Tryz.f22,[.val [some 2] []],[none],[.val [some 7] []],fun r=>j8 2 G2 r,fun _=>[none],Tryz.func22⟩
noncomputable def c0j:List Item:=P9.k 6 [false,false]
noncomputable def c4W (out1:List n9):St:=⟨(bs 5 (.own 1 0 2 0 out1.length::(bs 30 []))),[some [],some [m4 31 2 G2 out1]]⟩
noncomputable def c3B (out1:List n9):Option (List n9) :=
 ((b7U out1).bind fun req=>some req)
theorem e85 (r:List n9) (out1:List n9) (h:c3B out1=some r):j6 cx P9.X (P9.R r) (P9.O r) c0j (c4W out1) :=
 P0<|rg<|N1 a5o e8V 1 h fun req h=>om (B8 (a5o.R req)∧E2 (a5o.O req)) ⟨(by simp [a5o,B8,U4,Q5,V.simple,vi,o8,eI,G2]),F9 1⟩<|H5 out1 req<|fe P9.h h
noncomputable def b6v:List Item:=P9.k 5 [false]
noncomputable def b7u (i8:List l7) (q8:o9×List Int) (out:List n9) (v18:Int):St:=⟨(bs 4 (.own 1 0 1 0 q8.2.length::(.own 2 0 2 0 out.length::(bs 10 (j8 7 p9 i8::(vi (i8.length:Int)::(vi v18::(bs 17 [])))))))),[some [],some [m4 3 1 eI q8.2],some [m4 31 2 G2 out]]⟩
noncomputable def d12:List Item:=P9.k 9 [false,true,true]
noncomputable def c76 (i8:List l7) (q8:o9×List Int) (v18:Int) (out2:List n9):St:=⟨(bs 4 (.own 1 0 1 0 q8.2.length::(.own 2 0 2 0 out2.length::(bs 10 (j8 7 p9 i8::(vi (i8.length:Int)::(vi v18::(bs 17 [])))))))),[some [],some [m4 3 1 eI q8.2],some [m4 31 2 G2 out2]]⟩
noncomputable def b9T (v18:Int) (out2:List n9):Option (j5 (List n9) ((List n9)×Int) (List n9)) :=
 some (j5.nxt (out2,n8 (v18+1)))
theorem d9P (i8:List l7) (q8:o9×List Int) (v18:Int) (res:V) (outs:t7) (x1:j9 (List n9) (List n9)) (hb1:HB cx P9.X res outs x1 c0j c4W) (hr1:HR res outs x1 P9.R P9.O) (st1:j5 (List n9) ((List n9)×Int) (List n9)) (hc1:t6 x1 (fun s:(List n9)×Int=>j6 cx P9.X res outs b6v (b7u i8 q8 s.1 s.2)) st1) (out2:List n9) (h:b9T v18 out2=some st1):j6 cx P9.X res outs d12 (c76 i8 q8 v18 out2) :=
 P0<|rg<|(x6 h hc1 fun hI=>sg [] [4,5,16,17,18] [(1,0),(2,0)] hI)
noncomputable def a9G (i8:List l7) (q8:o9×List Int) (out:List n9) (v18:Int):Option (j5 (List n9) ((List n9)×Int) (List n9)) :=
 (bif decide (v18<(i8.length:Int)) then ((idx i8 v18).bind fun z7=>((((idx q8.2 v18).bind fun y=>(bif (y==0) then (t5 ((out.length+1) * 16≤140737488355328) (some (j9.brk (out++[z7.a5])))) else some (j9.brk out))):Option (j9 (j5 (List n9) ((List n9)×Int) (List n9)) (List n9))).bind fun x=>x.go some fun j=>b9T v18 j)) else some (j5.brk out))
theorem e4Q (i8:List l7) (q8:o9×List Int) (res:V) (outs:t7) (x1:j9 (List n9) (List n9)) (hb1:HB cx P9.X res outs x1 c0j c4W) (hr1:HR res outs x1 P9.R P9.O) (st1:j5 (List n9) ((List n9)×Int) (List n9)) (hc1:t6 x1 (fun s:(List n9)×Int=>j6 cx P9.X res outs b6v (b7u i8 q8 s.1 s.2)) st1) (out:List n9) (v18:Int) (h:a9G i8 q8 out v18=some st1):j6 cx P9.X res outs b6v (b7u i8 q8 out v18) :=
 P0<|rg<|i9 0 h (fun h=>rg<|w8 p9 1 h fun z7 J6 h=>D8 (I:=fun j:List n9=>j6 cx P9.X res outs d12 (c76 i8 q8 v18 j)) h (fun j h=>d9P i8 q8 v18 res outs x1 hb1 hr1 st1 hc1 j h) (fun x2 h hc2=>rg<|C4 h fun y hy h=>E6 hy<|T3 eI 3 hy<|i9 4 h (fun h=>rg<|tk 3 []<|u6 h fun e1 h=>M1 4 19 31 2 16 G2 out z7.a5 e1<|om (1=[z7.a5].length) (by rfl)<|(s7 h hc2 fun hI=>sg [] [4,5,16,17,18] [(1,0),(19,0)] hI)) (fun h=>(s7 h hc2 fun hI=>sg [] [4,5,16,17,18] [(1,0),(2,0)] hI)))) (fun h=>(x5 h hc1 fun e=>sg [] [5] [(2,0)] (hb1 _ e)))
noncomputable def b75 (i8:List l7):Option (List n9) :=
 ((a95 i8).bind fun I9=>(bif (!I9) then some [] else ((b01 i8).bind fun q8=>((q7 (fun s:(List n9)×Int=>a9G i8 q8 s.1 s.2) ([],0)).bind fun x=>x.go (fun r=>some r) fun s=>c3B s))))
theorem d9m {i8:List l7} (r:List n9) (h:b75 i8=some r):o7 cx.P 22 [j8 7 p9 i8] (P9.R r) (P9.O r) :=
 q9 P9.X P9.c P9.h (fun z=>p6<|l8 V5 c3l 1 h fun I9 h=>i9 2 h (fun h=>rg<|fe z h) (fun h=>rg<|l8 W5 c5t 1 h fun q8 h=>p6<|z3 h fun x hl hr hb=>sg [.own (.tmp 5) 31 2] [4,5,16,17,18] [(6,2),(17,0)] (z4 (I:=fun s:(List n9)×Int=>j6 cx P9.X (P9.R r) (P9.O r) b6v (b7u i8 q8 s.1 s.2)) hl fun s st h hc=>e4Q i8 q8 _ _ x (fun s e=>e85 r s (hb s e)) (fun v e=>z6 P9 (hr v e)) st hc s.1 s.2 h)))
noncomputable def R1:FS (Int):=⟨126,Tryz.f126,[.val [] []],[none,none],[.val W4 [],.val [] []],fun r=>vi r,fun _=>[none,none],Tryz.func126⟩
noncomputable def d1M:List Item:=R1.k 3 [false]
noncomputable def d6b:St:=⟨(bs 21 []),[some []]⟩
noncomputable def d04:Option Int :=
 some (-1)
theorem e5Y (r:Int) (h:d04=some r):j6 cx R1.X (R1.R r) (R1.O r) d1M (d6b) :=
 P0<|rg<|fe R1.h h
noncomputable def c1q:List Item:=R1.k 2 []
noncomputable def c4h (r_:m9) (box:Int) (v10:Int):St:=⟨(bs 1 (vi box::(bs 6 (j8 2 u0 r_.a8::(vi (r_.a8.length:Int)::(vi v10::(bs 10 []))))))),[some []]⟩
noncomputable def b2x (r_:m9) (box:Int) (v10:Int):Option (j5 Int Int Unit) :=
 (bif decide (v10<(r_.a8.length:Int)) then ((idx r_.a8 v10).bind fun put=>(bif (put.d9==box) then some (j5.ret v10) else some (j5.nxt (n8 (v10+1))))) else some (j5.brk ()))
theorem e6O (r_:m9) (box:Int) (res:V) (outs:t7) (x1:j9 Int Unit) (hb1:HB cx R1.X res outs x1 d1M (fun s=>d6b)) (hr1:HR res outs x1 R1.R R1.O) (st1:j5 Int Int Unit) (hc1:t6 x1 (fun s:Int=>j6 cx R1.X res outs c1q (c4h r_ box s)) st1) (v10:Int) (h:b2x r_ box v10=some st1):j6 cx R1.X res outs c1q (c4h r_ box v10) :=
 P0<|rg<|i9 0 h (fun h=>rg<|w8 u0 1 h fun put hput h=>rg<|i9 3 h (fun h=>rg<|(x8 h hc1 fun e=>x7 R1.h (hr1 _ e))) (fun h=>rg<|(x6 h hc1 fun hI=>sg [] [1,8,9,10] [] hI))) (fun h=>(x5 h hc1 fun e=>sg [] [] [] (hb1 _ e)))
noncomputable def b2U (r_:m9) (box:Int):Option Int :=
 ((q7 (fun s:Int=>b2x r_ box s) 0).bind fun x=>x.go (fun r=>some r) fun s=>d04)
theorem d2a {r_:m9} {box:Int} (r:Int) (h:b2U r_ box=some r):o7 cx.P 126 [.agg (W0 r_),vi box] (R1.R r) (R1.O r) :=
 q9 R1.X R1.c R1.h (fun z=>p6<|z3 h fun x hl hr hb=>sg [] [1,8,9,10] [] (z4 (I:=fun s:Int=>j6 cx R1.X (R1.R r) (R1.O r) c1q (c4h r_ box s)) hl fun s st h hc=>e6O r_ box _ _ x (fun s e=>e5Y r (hb s e)) (fun v e=>z6 R1 (hr v e)) st hc s h))
noncomputable def U8:FS (Int):=⟨127,Tryz.f127,[.val [] []],[none,none],[.val W4 [],.val [] []],fun r=>vi r,fun _=>[none,none],Tryz.func127⟩
noncomputable def d2X:List Item:=U8.k 3 [false]
noncomputable def d2B:St:=⟨(bs 21 []),[some []]⟩
noncomputable def d4C:Option Int :=
 some (-1)
theorem e7w (r:Int) (h:d4C=some r):j6 cx U8.X (U8.R r) (U8.O r) d2X (d2B) :=
 P0<|rg<|fe U8.h h
noncomputable def c26:List Item:=U8.k 2 []
noncomputable def c04 (r_:m9) (box:Int) (v10:Int):St:=⟨(bs 1 (vi box::(bs 6 (j8 2 t8 r_.a7::(vi (r_.a7.length:Int)::(vi v10::(bs 10 []))))))),[some []]⟩
noncomputable def b2S (r_:m9) (box:Int) (v10:Int):Option (j5 Int Int Unit) :=
 (bif decide (v10<(r_.a7.length:Int)) then ((idx r_.a7 v10).bind fun E8=>(bif (E8.d9==box) then some (j5.ret v10) else some (j5.nxt (n8 (v10+1))))) else some (j5.brk ()))
theorem e3Q (r_:m9) (box:Int) (res:V) (outs:t7) (x1:j9 Int Unit) (hb1:HB cx U8.X res outs x1 d2X (fun s=>d2B)) (hr1:HR res outs x1 U8.R U8.O) (st1:j5 Int Int Unit) (hc1:t6 x1 (fun s:Int=>j6 cx U8.X res outs c26 (c04 r_ box s)) st1) (v10:Int) (h:b2S r_ box v10=some st1):j6 cx U8.X res outs c26 (c04 r_ box v10) :=
 P0<|rg<|i9 0 h (fun h=>rg<|w8 t8 1 h fun E8 a4Y h=>rg<|i9 3 h (fun h=>rg<|(x8 h hc1 fun e=>x7 U8.h (hr1 _ e))) (fun h=>rg<|(x6 h hc1 fun hI=>sg [] [1,8,9,10] [] hI))) (fun h=>(x5 h hc1 fun e=>sg [] [] [] (hb1 _ e)))
noncomputable def b1Q (r_:m9) (box:Int):Option Int :=
 ((q7 (fun s:Int=>b2S r_ box s) 0).bind fun x=>x.go (fun r=>some r) fun s=>d4C)
theorem e5c {r_:m9} {box:Int} (r:Int) (h:b1Q r_ box=some r):o7 cx.P 127 [.agg (W0 r_),vi box] (U8.R r) (U8.O r) :=
 q9 U8.X U8.c U8.h (fun z=>p6<|z3 h fun x hl hr hb=>sg [] [1,8,9,10] [] (z4 (I:=fun s:Int=>j6 cx U8.X (U8.R r) (U8.O r) c26 (c04 r_ box s)) hl fun s st h hc=>e3Q r_ box _ _ x (fun s e=>e7w r (hb s e)) (fun v e=>z6 U8 (hr v e)) st hc s h))
noncomputable def B4:FS (m9):=⟨87,Tryz.f87,[.val W4 []],[none,none],[.val [some 2] [],.val [some 4] []],fun r=>.agg (W0 r),fun _=>[none,none],Tryz.func87⟩
noncomputable def a75:List Item:=B4.k 6 [false,false]
noncomputable def a7N (b1o:List n5) (a96:List m8) (L5:List Int) (a5X:List n5) (a6a:List m8):St:=⟨(bs 4 (.ptr 1 0 0::(.ptr 4 0 0::(.ptr 5 0 0::(bs 175 []))))),[some [],some [.var 67 [.own 2 0 2 0 b1o.length,.own 3 0 2 0 a96.length,vi 0,vi 0]],some [m4 164 2 t8 b1o],some [m4 162 2 u0 a96],some [.arr 159 1 4 (L5.map eI)],some [.var 67 [.own 6 0 2 0 a5X.length,.own 7 0 2 0 a6a.length,vi 0,vi 0]],some [m4 164 2 t8 a5X],some [m4 162 2 u0 a6a]]⟩
noncomputable def b2G (b1o:List n5) (a96:List m8) (L5:List Int) (a5X:List n5) (a6a:List m8):Option m9 :=
 ((a3N a5X).bind fun E8=>((a71 a6a).bind fun put=>((idx L5 0).bind fun y=>(t5 ((0:Int)<4) (some (m9.mk E8 put y 0))))))
theorem e8s (r:m9) (b1o:List n5) (a96:List m8) (L5:List Int) (a5X:List n5) (a6a:List m8) (h:b2G b1o a96 L5 a5X a6a=some r):j6 cx B4.X (B4.R r) (B4.O r) a75 (a7N b1o a96 L5 a5X a6a) :=
 P0<|rg<|N1 R4 b1e 2 h fun E8 h=>om (B8 (R4.R E8)∧E2 (R4.O E8)) ⟨(by simp [R4,B8,U4,Q5,V.simple,vi,o8,eI,t8]),F9 1⟩<|o6 a5X<|N1 a4Q d17 5 h fun put h=>om (B8 (a4Q.R put)∧E2 (a4Q.O put)) ⟨(by simp [a4Q,B8,U4,Q5,V.simple,vi,o8,eI,u0]),F9 1⟩<|o6 a6a<|C4 h fun y hy h=>u6 h fun e1 h=>ob (R6 hy)<|ob e1<|ob (a0a (enc:=eI) hy)<|tl (tr 7 (eI y))<|H5 E8 put<|fe B4.h h
noncomputable def a6i:List Item:=B4.k 5 [false]
noncomputable def a6H (i8:List l9) (prog:List m5) (regs:List Int) (a7:List n5) (a8:List m8) (z0:List n5) (A5:List m8) (at_:Int):St:=⟨(j8 2 u5 i8::(j8 4 A3 prog::(bs 2 (.ptr 1 0 0::(.ptr 2 0 0::(.ptr 3 0 0::(vi at_::(bs 174 [])))))))),[some [],some [.var 67 [.own 4 0 2 0 a7.length,.own 5 0 2 0 a8.length,vi 0,vi 0]],some [.arr 159 1 4 (regs.map eI)],some [.var 67 [.own 6 0 2 0 z0.length,.own 7 0 2 0 A5.length,vi 0,vi 0]],some [m4 164 2 t8 a7],some [m4 162 2 u0 a8],some [m4 164 2 t8 z0],some [m4 162 2 u0 A5]]⟩
noncomputable def c7j:List Item:=B4.k 14 [false,true,true,true,false]
noncomputable def d2d (i8:List l9) (prog:List m5) (regs:List Int) (a7:List n5) (a8:List m8) (z0:List n5) (A5:List m8) (at_:Int) (ins:m5) (C6:m8):St:=⟨(j8 2 u5 i8::(j8 4 A3 prog::(bs 2 (.ptr 1 0 0::(.ptr 4 0 0::(.ptr 5 0 0::(vi at_::(bs 174 [])))))))),[some [],some [.var 67 [.own 2 0 2 0 a7.length,.own 3 0 2 0 a8.length,vi 0,vi 0]],some [m4 164 2 t8 a7],some [m4 162 2 u0 a8],some [.arr 159 1 4 ((regs.set ins.A.toNat C6.c9).map eI)],some [.var 67 [.own 6 0 2 0 z0.length,.own 7 0 2 0 A5.length,vi 0,vi 0]],some [m4 164 2 t8 z0],some [m4 162 2 u0 A5]]⟩
noncomputable def b9A (regs:List Int) (a7:List n5) (a8:List m8) (z0:List n5) (A5:List m8) (at_:Int) (ins:m5) (C6:m8):Option (j5 m9 ((List Int)×(List n5)×(List m8)×(List n5)×(List m8)×Int) ((List n5)×(List m8)×(List Int)×(List n5)×List m8)) :=
 some (j5.nxt (regs.set ins.A.toNat C6.c9,a7,a8,z0,A5,n8 (at_+1)))
theorem d9k (i8:List l9) (prog:List m5) (regs:List Int) (a7:List n5) (a8:List m8) (z0:List n5) (A5:List m8) (at_:Int) (ins:m5) (C6:m8) (res:V) (outs:t7) (x1:j9 m9 ((List n5)×(List m8)×(List Int)×(List n5)×List m8)) (hb1:HB cx B4.X res outs x1 a75 (fun s=>a7N s.1 s.2.1 s.2.2.1 s.2.2.2.1 s.2.2.2.2)) (hr1:HR res outs x1 B4.R B4.O) (st1:j5 m9 ((List Int)×(List n5)×(List m8)×(List n5)×(List m8)×Int) ((List n5)×(List m8)×(List Int)×(List n5)×List m8)) (hc1:t6 x1 (fun s:(List Int)×(List n5)×(List m8)×(List n5)×(List m8)×Int=>j6 cx B4.X res outs a6i (a6H i8 prog s.1 s.2.1 s.2.2.1 s.2.2.2.1 s.2.2.2.2.1 s.2.2.2.2.2)) st1) (h:b9A regs a7 a8 z0 A5 at_ ins C6=some st1):j6 cx B4.X res outs c7j (d2d i8 prog regs a7 a8 z0 A5 at_ ins C6) :=
 P0<|rg<|(x6 h hc1 fun hI=>sg [] [0,1,4,5,6,7] [(1,0),(4,0),(5,0),(2,0),(3,0),(6,0),(7,0)] hI)
noncomputable def c1K:List Item:=B4.k 13 [false,true,true,true]
noncomputable def c5D (i8:List l9) (prog:List m5) (regs:List Int) (a7:List n5) (a8:List m8) (z0:List n5) (A5:List m8) (at_:Int) (ins:m5) (C6:m8) (a4U:Int):St:=⟨(j8 2 u5 i8::(j8 4 A3 prog::(bs 2 (.ptr 1 0 0::(.ptr 4 0 0::(.ptr 5 0 0::(vi at_::(bs 153 (.agg ((regs.set ins.A.toNat C6.c9).map eI).flatten::(vi a4U::(bs 19 []))))))))))),[some [],some [.var 67 [.own 2 0 2 0 a7.length,.own 3 0 2 0 a8.length,vi 0,vi 0]],some [m4 164 2 t8 a7],some [m4 162 2 u0 a8],some [.arr 159 1 4 ((regs.set ins.A.toNat C6.c9).map eI)],some [.var 67 [.own 6 0 2 0 z0.length,.own 7 0 2 0 A5.length,vi 0,vi 0]],some [m4 164 2 t8 z0],some [m4 162 2 u0 A5]]⟩
noncomputable def b35 (regs:List Int) (z0:List n5) (ins:m5) (C6:m8) (a4U:Int):Option (j5 m9 Int Unit) :=
 (bif decide (a4U<4) then ((idx (regs.set ins.A.toNat C6.c9) a4U).bind fun y2=>(t5 (a4U<4) (((I6 y2 (-1000000) 1000000).bind fun in_=>(bif (!in_) then ((a3N z0).bind fun V2=>some (j5.ret (m9.mk V2 [] 0 2))) else some (j5.nxt (n8 (a4U+1)))))))) else some (j5.brk ()))
set_option maxRecDepth 20000 in
theorem e5U (i8:List l9) (prog:List m5) (regs:List Int) (a7:List n5) (a8:List m8) (z0:List n5) (A5:List m8) (at_:Int) (ins:m5) (C6:m8) (res:V) (outs:t7) (x2:j9 m9 Unit) (hb2:HB cx B4.X res outs x2 c7j (fun s=>d2d i8 prog regs a7 a8 z0 A5 at_ ins C6)) (hr2:HR res outs x2 B4.R B4.O) (st2:j5 m9 Int Unit) (hc2:t6 x2 (fun s:Int=>j6 cx B4.X res outs c1K (c5D i8 prog regs a7 a8 z0 A5 at_ ins C6 s)) st2) (a4U:Int) (h:b35 regs z0 ins C6 a4U=some st2):j6 cx B4.X res outs c1K (c5D i8 prog regs a7 a8 z0 A5 at_ ins C6 a4U) :=
 P0<|rg<|i9 0 h (fun h=>rg<|C4 h fun y2 hy2 h=>u6 h fun e3 h=>ob (R6 hy2)<|ob e3<|om (((regs.set ins.A.toNat C6.c9).map eI).flatten[a4U.toNat]?=some (vi y2)) (b9V (fun _=>rfl) hy2)<|tl (0,{ a:=.val (vi y2) })<|rg<|l8 I5 L3 1 h fun in_ h=>i9 2 h (fun h=>rg<|N1 R4 b1e 2 h fun V2 h=>om (B8 (R4.R V2)∧E2 (R4.O V2)) ⟨(by simp [R4,B8,U4,Q5,V.simple,vi,o8,eI,t8]),F9 1⟩<|o6 z0<|(x8 h hc2 fun e=>o6 V2<|x7 B4.h (hr2 _ e))) (fun h=>rg<|(x6 h hc2 fun hI=>om (V.agg (((regs.set ins.A.toNat C6.c9).map eI).flatten.map (a0L [(1,0),(2,0),(3,0),(4,0),(5,0),(6,0),(7,0)])) = .agg ((regs.set ins.A.toNat C6.c9).map eI).flatten) (congrArg V.agg (a7J (fun _=>rfl) _))<|sgT [] [0,1,4,5,6,7,161,162] [(1,0),(2,0),(3,0),(4,0),(5,0),(6,0),(7,0)] [(161,.agg ((regs.set ins.A.toNat C6.c9).map eI).flatten)] hI))) (fun h=>(x5 h hc2 fun e=>sg [] [0,1,4,5,6,7] [(1,0),(2,0),(3,0),(4,0),(5,0),(6,0),(7,0)] (hb2 _ e)))
noncomputable def c9K:List Item:=B4.k 13 [false,true,true,false,true]
noncomputable def d5N (i8:List l9) (prog:List m5) (regs:List Int) (a7:List n5) (a8:List m8) (A5:List m8) (at_:Int) (ins:m5) (O1:List n5):St:=⟨(j8 2 u5 i8::(j8 4 A3 prog::(bs 2 (.ptr 1 0 0::(.ptr 4 0 0::(.ptr 5 0 0::(vi at_::(.ptr 8 0 0::(bs 173 []))))))))),[some [],some [.var 67 [.own 2 0 2 0 a7.length,.own 3 0 2 0 a8.length,vi 0,vi 0]],some [m4 164 2 t8 a7],some [m4 162 2 u0 a8],some [.arr 159 1 4 (regs.map eI)],some [.var 67 [.own 6 0 2 0 O1.length,.own 7 0 2 0 A5.length,vi 0,vi 0]],some [m4 164 2 t8 O1],some [m4 162 2 u0 A5],some [.var 48 [vi ins.b7,vi ins.A,vi ins.B,vi ins.N]]]⟩
noncomputable def c6Y:List Item:=B4.k 16 [false,true,true,false,true,false]
noncomputable def d4E (i8:List l9) (prog:List m5) (regs:List Int) (a7:List n5) (a8:List m8) (A5:List m8) (at_:Int) (ins:m5) (O1:List n5) (box:l9):St:=⟨(j8 2 u5 i8::(j8 4 A3 prog::(bs 2 (.ptr 1 0 0::(.ptr 4 0 0::(.ptr 5 0 0::(vi at_::(bs 174 [])))))))),[some [],some [.var 67 [.own 2 0 2 0 a7.length,.own 3 0 2 0 a8.length,vi 0,vi 0]],some [m4 164 2 t8 a7],some [m4 162 2 u0 a8],some [.arr 159 1 4 ((regs.set ins.A.toNat box.c9).map eI)],some [.var 67 [.own 6 0 2 0 O1.length,.own 7 0 2 0 A5.length,vi 0,vi 0]],some [m4 164 2 t8 O1],some [m4 162 2 u0 A5]]⟩
noncomputable def b8z (regs:List Int) (a7:List n5) (a8:List m8) (A5:List m8) (at_:Int) (ins:m5) (O1:List n5) (box:l9):Option (j5 m9 ((List Int)×(List n5)×(List m8)×(List n5)×(List m8)×Int) ((List n5)×(List m8)×(List Int)×(List n5)×List m8)) :=
 some (j5.nxt (regs.set ins.A.toNat box.c9,a7,a8,O1,A5,n8 (at_+1)))
theorem e4A (i8:List l9) (prog:List m5) (regs:List Int) (a7:List n5) (a8:List m8) (A5:List m8) (at_:Int) (ins:m5) (O1:List n5) (box:l9) (res:V) (outs:t7) (x1:j9 m9 ((List n5)×(List m8)×(List Int)×(List n5)×List m8)) (hb1:HB cx B4.X res outs x1 a75 (fun s=>a7N s.1 s.2.1 s.2.2.1 s.2.2.2.1 s.2.2.2.2)) (hr1:HR res outs x1 B4.R B4.O) (st1:j5 m9 ((List Int)×(List n5)×(List m8)×(List n5)×(List m8)×Int) ((List n5)×(List m8)×(List Int)×(List n5)×List m8)) (hc1:t6 x1 (fun s:(List Int)×(List n5)×(List m8)×(List n5)×(List m8)×Int=>j6 cx B4.X res outs a6i (a6H i8 prog s.1 s.2.1 s.2.2.1 s.2.2.2.1 s.2.2.2.2.1 s.2.2.2.2.2)) st1) (h:b8z regs a7 a8 A5 at_ ins O1 box=some st1):j6 cx B4.X res outs c6Y (d4E i8 prog regs a7 a8 A5 at_ ins O1 box) :=
 P0<|rg<|(x6 h hc1 fun hI=>sg [] [0,1,4,5,6,7] [(1,0),(4,0),(5,0),(2,0),(3,0),(6,0),(7,0)] hI)
noncomputable def c4E:List Item:=B4.k 15 [false,true,true,false,true]
noncomputable def c0V (i8:List l9) (prog:List m5) (regs:List Int) (a7:List n5) (a8:List m8) (A5:List m8) (at_:Int) (ins:m5) (O1:List n5) (box:l9) (a4O:Int):St:=⟨(j8 2 u5 i8::(j8 4 A3 prog::(bs 2 (.ptr 1 0 0::(.ptr 4 0 0::(.ptr 5 0 0::(vi at_::(bs 153 (.agg ((regs.set ins.A.toNat box.c9).map eI).flatten::(vi a4O::(bs 19 []))))))))))),[some [],some [.var 67 [.own 2 0 2 0 a7.length,.own 3 0 2 0 a8.length,vi 0,vi 0]],some [m4 164 2 t8 a7],some [m4 162 2 u0 a8],some [.arr 159 1 4 ((regs.set ins.A.toNat box.c9).map eI)],some [.var 67 [.own 6 0 2 0 O1.length,.own 7 0 2 0 A5.length,vi 0,vi 0]],some [m4 164 2 t8 O1],some [m4 162 2 u0 A5]]⟩
noncomputable def b1R (regs:List Int) (ins:m5) (O1:List n5) (box:l9) (a4O:Int):Option (j5 m9 Int Unit) :=
 (bif decide (a4O<4) then ((idx (regs.set ins.A.toNat box.c9) a4O).bind fun y4=>(t5 (a4O<4) (((I6 y4 (-1000000) 1000000).bind fun L6=>(bif (!L6) then ((a3N O1).bind fun b28=>some (j5.ret (m9.mk b28 [] 0 2))) else some (j5.nxt (n8 (a4O+1)))))))) else some (j5.brk ()))
set_option maxRecDepth 20000 in
theorem d99 (i8:List l9) (prog:List m5) (regs:List Int) (a7:List n5) (a8:List m8) (A5:List m8) (at_:Int) (ins:m5) (O1:List n5) (box:l9) (res:V) (outs:t7) (x2:j9 m9 Unit) (hb2:HB cx B4.X res outs x2 c6Y (fun s=>d4E i8 prog regs a7 a8 A5 at_ ins O1 box)) (hr2:HR res outs x2 B4.R B4.O) (st2:j5 m9 Int Unit) (hc2:t6 x2 (fun s:Int=>j6 cx B4.X res outs c4E (c0V i8 prog regs a7 a8 A5 at_ ins O1 box s)) st2) (a4O:Int) (h:b1R regs ins O1 box a4O=some st2):j6 cx B4.X res outs c4E (c0V i8 prog regs a7 a8 A5 at_ ins O1 box a4O) :=
 P0<|rg<|i9 0 h (fun h=>rg<|C4 h fun y4 hy4 h=>u6 h fun e5 h=>ob (R6 hy4)<|ob e5<|om (((regs.set ins.A.toNat box.c9).map eI).flatten[a4O.toNat]?=some (vi y4)) (b9V (fun _=>rfl) hy4)<|tl (0,{ a:=.val (vi y4) })<|rg<|l8 I5 L3 1 h fun L6 h=>i9 2 h (fun h=>rg<|N1 R4 b1e 2 h fun b28 h=>om (B8 (R4.R b28)∧E2 (R4.O b28)) ⟨(by simp [R4,B8,U4,Q5,V.simple,vi,o8,eI,t8]),F9 1⟩<|o6 O1<|(x8 h hc2 fun e=>o6 b28<|x7 B4.h (hr2 _ e))) (fun h=>rg<|(x6 h hc2 fun hI=>om (V.agg (((regs.set ins.A.toNat box.c9).map eI).flatten.map (a0L [(1,0),(2,0),(3,0),(4,0),(5,0),(6,0),(7,0)])) = .agg ((regs.set ins.A.toNat box.c9).map eI).flatten) (congrArg V.agg (a7J (fun _=>rfl) _))<|sgT [] [0,1,4,5,6,7,161,162] [(1,0),(2,0),(3,0),(4,0),(5,0),(6,0),(7,0)] [(161,.agg ((regs.set ins.A.toNat box.c9).map eI).flatten)] hI))) (fun h=>(x5 h hc2 fun e=>sg [] [0,1,4,5,6,7] [(1,0),(2,0),(3,0),(4,0),(5,0),(6,0),(7,0)] (hb2 _ e)))
noncomputable def b4X (i8:List l9) (regs:List Int) (a7:List n5) (a8:List m8) (A5:List m8) (at_:Int) (ins:m5) (O1:List n5):Option (j5 m9 ((List Int)×(List n5)×(List m8)×(List n5)×(List m8)×Int) ((List n5)×(List m8)×(List Int)×(List n5)×List m8)) :=
 ((idx i8 ins.B).bind fun box=>((idx regs ins.A).bind fun y3=>(t5 (ins.A<4) (((q7 (fun s:Int=>b1R regs ins O1 box s) 0).bind fun x=>x.go (fun r=>some (j5.ret r)) fun s=>b8z regs a7 a8 A5 at_ ins O1 box)))))
set_option maxRecDepth 20000 in
theorem e4a (i8:List l9) (prog:List m5) (regs:List Int) (a7:List n5) (a8:List m8) (A5:List m8) (at_:Int) (ins:m5) (res:V) (outs:t7) (x1:j9 m9 ((List n5)×(List m8)×(List Int)×(List n5)×List m8)) (hb1:HB cx B4.X res outs x1 a75 (fun s=>a7N s.1 s.2.1 s.2.2.1 s.2.2.2.1 s.2.2.2.2)) (hr1:HR res outs x1 B4.R B4.O) (st1:j5 m9 ((List Int)×(List n5)×(List m8)×(List n5)×(List m8)×Int) ((List n5)×(List m8)×(List Int)×(List n5)×List m8)) (hc1:t6 x1 (fun s:(List Int)×(List n5)×(List m8)×(List n5)×(List m8)×Int=>j6 cx B4.X res outs a6i (a6H i8 prog s.1 s.2.1 s.2.2.1 s.2.2.2.1 s.2.2.2.2.1 s.2.2.2.2.2)) st1) (O1:List n5) (h:b4X i8 regs a7 a8 A5 at_ ins O1=some st1):j6 cx B4.X res outs c9K (d5N i8 prog regs a7 a8 A5 at_ ins O1) :=
 P0<|rg<|w8 u5 5 h fun box a3d h=>C4 h fun y3 hy3 h=>u6 h fun e4 h=>ob (R6 hy3)<|ob e4<|om (s6.arr 159 1 4 ((regs.map eI).set (ins.A.toNat) [vi box.c9])=s6.arr 159 1 4 ((regs.set ins.A.toNat box.c9).map eI)) (a8M rfl)<|ob (a0a (enc:=eI) hy3)<|tl (9,{ a:=.rowck (eI y3) [],e:=some (.arr 159 1 4 ((regs.set ins.A.toNat box.c9).map eI)) })<|rg<|om (4 * 1=4) rfl<|z3 h fun x hl hr hb=>om (V.agg (((regs.set ins.A.toNat box.c9).map eI).flatten.map (a0L [(1,0),(2,0),(3,0),(4,0),(5,0),(6,0),(7,0)])) = .agg ((regs.set ins.A.toNat box.c9).map eI).flatten) (congrArg V.agg (a7J (fun _=>rfl) _))<|sgT [] [0,1,4,5,6,7,161,162] [(1,0),(2,0),(3,0),(4,0),(5,0),(6,0),(7,0)] [(161,.agg ((regs.set ins.A.toNat box.c9).map eI).flatten)] (z4 (I:=fun s:Int=>j6 cx B4.X res outs c4E (c0V i8 prog regs a7 a8 A5 at_ ins O1 box s)) hl fun s st h hc=>d99 i8 prog regs a7 a8 A5 at_ ins O1 box _ _ x (fun s e=>e4A i8 prog regs a7 a8 A5 at_ ins O1 box res outs x1 hb1 hr1 st1 hc1 (hb s e)) (fun v e=>(hr1 _ (a9t (hr v e) hc1))) st hc s h)
noncomputable def c6w:List Item:=B4.k 13 [false,true,false,true,true]
noncomputable def d6p (i8:List l9) (prog:List m5) (a7:List n5) (a8:List m8) (z0:List n5) (regs2:List Int) (T5:List m8) (X5:Int):St:=⟨(j8 2 u5 i8::(j8 4 A3 prog::(bs 2 (.ptr 1 0 0::(.ptr 4 0 0::(.ptr 5 0 0::(vi X5::(bs 174 [])))))))),[some [],some [.var 67 [.own 2 0 2 0 a7.length,.own 3 0 2 0 a8.length,vi 0,vi 0]],some [m4 164 2 t8 a7],some [m4 162 2 u0 a8],some [.arr 159 1 4 (regs2.map eI)],some [.var 67 [.own 6 0 2 0 z0.length,.own 7 0 2 0 T5.length,vi 0,vi 0]],some [m4 164 2 t8 z0],some [m4 162 2 u0 T5]]⟩
noncomputable def d0h:List Item:=B4.k 15 [false,true,false,true,true,false]
noncomputable def d0y (i8:List l9) (prog:List m5) (a7:List n5) (a8:List m8) (z0:List n5) (regs2:List Int) (T5:List m8) (X5:Int):St:=⟨(j8 2 u5 i8::(j8 4 A3 prog::(bs 2 (.ptr 1 0 0::(.ptr 4 0 0::(.ptr 5 0 0::(vi X5::(bs 174 [])))))))),[some [],some [.var 67 [.own 2 0 2 0 a7.length,.own 3 0 2 0 a8.length,vi 0,vi 0]],some [m4 164 2 t8 a7],some [m4 162 2 u0 a8],some [.arr 159 1 4 (regs2.map eI)],some [.var 67 [.own 6 0 2 0 z0.length,.own 7 0 2 0 T5.length,vi 0,vi 0]],some [m4 164 2 t8 z0],some [m4 162 2 u0 T5]]⟩
noncomputable def b39 (a7:List n5) (a8:List m8) (z0:List n5) (regs2:List Int) (T5:List m8) (X5:Int):Option (j5 m9 ((List Int)×(List n5)×(List m8)×(List n5)×(List m8)×Int) ((List n5)×(List m8)×(List Int)×(List n5)×List m8)) :=
 some (j5.nxt (regs2,a7,a8,z0,T5,n8 (X5+1)))
theorem d7k (i8:List l9) (prog:List m5) (a7:List n5) (a8:List m8) (z0:List n5) (regs2:List Int) (T5:List m8) (X5:Int) (res:V) (outs:t7) (x1:j9 m9 ((List n5)×(List m8)×(List Int)×(List n5)×List m8)) (hb1:HB cx B4.X res outs x1 a75 (fun s=>a7N s.1 s.2.1 s.2.2.1 s.2.2.2.1 s.2.2.2.2)) (hr1:HR res outs x1 B4.R B4.O) (st1:j5 m9 ((List Int)×(List n5)×(List m8)×(List n5)×(List m8)×Int) ((List n5)×(List m8)×(List Int)×(List n5)×List m8)) (hc1:t6 x1 (fun s:(List Int)×(List n5)×(List m8)×(List n5)×(List m8)×Int=>j6 cx B4.X res outs a6i (a6H i8 prog s.1 s.2.1 s.2.2.1 s.2.2.2.1 s.2.2.2.2.1 s.2.2.2.2.2)) st1) (h:b39 a7 a8 z0 regs2 T5 X5=some st1):j6 cx B4.X res outs d0h (d0y i8 prog a7 a8 z0 regs2 T5 X5) :=
 P0<|rg<|(x6 h hc1 fun hI=>sg [] [0,1,4,5,6,7] [(1,0),(4,0),(5,0),(2,0),(3,0),(6,0),(7,0)] hI)
noncomputable def c0Y:List Item:=B4.k 14 [false,true,false,true,true]
noncomputable def c2U (i8:List l9) (prog:List m5) (a7:List n5) (a8:List m8) (z0:List n5) (regs2:List Int) (T5:List m8) (X5:Int) (a4T:Int):St:=⟨(j8 2 u5 i8::(j8 4 A3 prog::(bs 2 (.ptr 1 0 0::(.ptr 4 0 0::(.ptr 5 0 0::(vi X5::(bs 153 (.agg (regs2.map eI).flatten::(vi a4T::(bs 19 []))))))))))),[some [],some [.var 67 [.own 2 0 2 0 a7.length,.own 3 0 2 0 a8.length,vi 0,vi 0]],some [m4 164 2 t8 a7],some [m4 162 2 u0 a8],some [.arr 159 1 4 (regs2.map eI)],some [.var 67 [.own 6 0 2 0 z0.length,.own 7 0 2 0 T5.length,vi 0,vi 0]],some [m4 164 2 t8 z0],some [m4 162 2 u0 T5]]⟩
noncomputable def b2F (z0:List n5) (regs2:List Int) (a4T:Int):Option (j5 m9 Int Unit) :=
 (bif decide (a4T<4) then ((idx regs2 a4T).bind fun y5=>(t5 (a4T<4) (((I6 y5 (-1000000) 1000000).bind fun N8=>(bif (!N8) then ((a3N z0).bind fun b3i=>some (j5.ret (m9.mk b3i [] 0 2))) else some (j5.nxt (n8 (a4T+1)))))))) else some (j5.brk ()))
theorem e64 (i8:List l9) (prog:List m5) (a7:List n5) (a8:List m8) (z0:List n5) (regs2:List Int) (T5:List m8) (X5:Int) (res:V) (outs:t7) (x2:j9 m9 Unit) (hb2:HB cx B4.X res outs x2 d0h (fun s=>d0y i8 prog a7 a8 z0 regs2 T5 X5)) (hr2:HR res outs x2 B4.R B4.O) (st2:j5 m9 Int Unit) (hc2:t6 x2 (fun s:Int=>j6 cx B4.X res outs c0Y (c2U i8 prog a7 a8 z0 regs2 T5 X5 s)) st2) (a4T:Int) (h:b2F z0 regs2 a4T=some st2):j6 cx B4.X res outs c0Y (c2U i8 prog a7 a8 z0 regs2 T5 X5 a4T) :=
 P0<|rg<|i9 0 h (fun h=>rg<|C4 h fun y5 hy5 h=>u6 h fun e7 h=>ob (R6 hy5)<|ob e7<|om ((regs2.map eI).flatten[a4T.toNat]?=some (vi y5)) (b9V (fun _=>rfl) hy5)<|tl (0,{ a:=.val (vi y5) })<|rg<|l8 I5 L3 1 h fun N8 h=>i9 2 h (fun h=>rg<|N1 R4 b1e 2 h fun b3i h=>om (B8 (R4.R b3i)∧E2 (R4.O b3i)) ⟨(by simp [R4,B8,U4,Q5,V.simple,vi,o8,eI,t8]),F9 1⟩<|o6 z0<|(x8 h hc2 fun e=>o6 b3i<|x7 B4.h (hr2 _ e))) (fun h=>rg<|(x6 h hc2 fun hI=>om (V.agg ((regs2.map eI).flatten.map (a0L [(1,0),(2,0),(3,0),(4,0),(5,0),(6,0),(7,0)])) = .agg (regs2.map eI).flatten) (congrArg V.agg (a7J (fun _=>rfl) _))<|sgT [] [0,1,4,5,6,7,161,162] [(1,0),(2,0),(3,0),(4,0),(5,0),(6,0),(7,0)] [(161,.agg (regs2.map eI).flatten)] hI))) (fun h=>(x5 h hc2 fun e=>sg [] [0,1,4,5,6,7] [(1,0),(2,0),(3,0),(4,0),(5,0),(6,0),(7,0)] (hb2 _ e)))
noncomputable def b1f (a7:List n5) (a8:List m8) (z0:List n5) (regs2:List Int) (T5:List m8) (X5:Int):Option (j5 m9 ((List Int)×(List n5)×(List m8)×(List n5)×(List m8)×Int) ((List n5)×(List m8)×(List Int)×(List n5)×List m8)) :=
 ((q7 (fun s:Int=>b2F z0 regs2 s) 0).bind fun x=>x.go (fun r=>some (j5.ret r)) fun s=>b39 a7 a8 z0 regs2 T5 X5)
theorem e9b (i8:List l9) (prog:List m5) (a7:List n5) (a8:List m8) (z0:List n5) (res:V) (outs:t7) (x1:j9 m9 ((List n5)×(List m8)×(List Int)×(List n5)×List m8)) (hb1:HB cx B4.X res outs x1 a75 (fun s=>a7N s.1 s.2.1 s.2.2.1 s.2.2.2.1 s.2.2.2.2)) (hr1:HR res outs x1 B4.R B4.O) (st1:j5 m9 ((List Int)×(List n5)×(List m8)×(List n5)×(List m8)×Int) ((List n5)×(List m8)×(List Int)×(List n5)×List m8)) (hc1:t6 x1 (fun s:(List Int)×(List n5)×(List m8)×(List n5)×(List m8)×Int=>j6 cx B4.X res outs a6i (a6H i8 prog s.1 s.2.1 s.2.2.1 s.2.2.2.1 s.2.2.2.2.1 s.2.2.2.2.2)) st1) (regs2:List Int) (T5:List m8) (X5:Int) (h:b1f a7 a8 z0 regs2 T5 X5=some st1):j6 cx B4.X res outs c6w (d6p i8 prog a7 a8 z0 regs2 T5 X5) :=
 P0<|rg<|om (4 * 1=4) rfl<|z3 h fun x hl hr hb=>om (V.agg ((regs2.map eI).flatten.map (a0L [(1,0),(2,0),(3,0),(4,0),(5,0),(6,0),(7,0)])) = .agg (regs2.map eI).flatten) (congrArg V.agg (a7J (fun _=>rfl) _))<|sgT [] [0,1,4,5,6,7,161,162] [(1,0),(2,0),(3,0),(4,0),(5,0),(6,0),(7,0)] [(161,.agg (regs2.map eI).flatten)] (z4 (I:=fun s:Int=>j6 cx B4.X res outs c0Y (c2U i8 prog a7 a8 z0 regs2 T5 X5 s)) hl fun s st h hc=>e64 i8 prog a7 a8 z0 regs2 T5 X5 _ _ x (fun s e=>d7k i8 prog a7 a8 z0 regs2 T5 X5 res outs x1 hb1 hr1 st1 hc1 (hb s e)) (fun v e=>(hr1 _ (a9t (hr v e) hc1))) st hc s h)
noncomputable def a33 (i8:List l9) (prog:List m5) (regs:List Int) (a7:List n5) (a8:List m8) (z0:List n5) (A5:List m8) (at_:Int):Option (j5 m9 ((List Int)×(List n5)×(List m8)×(List n5)×(List m8)×Int) ((List n5)×(List m8)×(List Int)×(List n5)×List m8)) :=
 (bif decide (at_<(prog.length:Int)) then ((idx prog at_).bind fun ins=>(bif (ins.b7==1) then ((b2U (m9.mk z0 A5 0 0) ins.B).bind fun a1n=>(bif decide (a1n≥0) then ((idx A5 a1n).bind fun C6=>((idx regs ins.A).bind fun y1=>(t5 (ins.A<4) (((q7 (fun s:Int=>b35 regs z0 ins C6 s) 0).bind fun x=>x.go (fun r=>some (j5.ret r)) fun s=>b9A regs a7 a8 z0 A5 at_ ins C6))))) else ((((b1Q (m9.mk z0 A5 0 0) ins.B).bind fun b4H=>(bif decide (b4H<0) then ((idx i8 ins.B).bind fun T1=>(t5 ((z0.length+1) * 16≤140737488355328) (some (j9.brk (z0++[(n5.mk ins.B T1.i6)]))))) else some (j9.brk z0))):Option (j9 (j5 m9 ((List Int)×(List n5)×(List m8)×(List n5)×(List m8)×Int) ((List n5)×(List m8)×(List Int)×(List n5)×List m8)) (List n5))).bind fun x=>x.go some fun j=>b4X i8 regs a7 a8 A5 at_ ins j))) else (((bif (ins.b7==2) then ((b2U (m9.mk z0 A5 0 0) ins.A).bind fun a54=>(bif decide (a54≥0) then ((idx regs ins.B).bind fun y6=>(t5 (ins.B<4) (((idx A5 a54).bind fun a0p=>some (j9.brk (regs,A5.set a54.toNat (m8.mk a0p.d9 y6),at_)))))) else ((idx regs ins.B).bind fun y7=>(t5 (ins.B<4) ((t5 ((A5.length+1) * 16≤140737488355328) (some (j9.brk (regs,A5++[(m8.mk ins.A y7)],at_))))))))) else (bif (ins.b7==3) then ((idx regs ins.A).bind fun y8=>(t5 (ins.A<4) (some (j9.brk (regs.set ins.A.toNat ins.N,A5,at_))))) else (bif (ins.b7==4) then ((idx regs ins.A).bind fun y9=>(t5 (ins.A<4) (((idx regs ins.B).bind fun y10=>(t5 (ins.B<4) ((t5 (ins.A<4) (some (j9.brk (regs.set ins.A.toNat (n8 (y9+y10)),A5,at_)))))))))) else (bif (ins.b7==5) then ((idx regs ins.A).bind fun y11=>(t5 (ins.A<4) (((idx regs ins.B).bind fun y12=>(t5 (ins.B<4) ((t5 (ins.A<4) (some (j9.brk (regs.set ins.A.toNat (n8 (y11 - y12)),A5,at_)))))))))) else (bif (ins.b7==6) then ((idx regs ins.A).bind fun y13=>(t5 (ins.A<4) (((idx regs ins.B).bind fun y14=>(t5 (ins.B<4) ((bif decide (y13<y14) then some (j9.brk (regs,A5,n8 (at_+ins.N))) else some (j9.brk (regs,A5,at_))))))))) else (bif (ins.b7==7) then ((a3N z0).bind fun b2E=>some (j9.ret (j5.ret (m9.mk b2E [] 0 1)))) else some (j9.brk (regs,A5,at_)))))))):Option (j9 (j5 m9 ((List Int)×(List n5)×(List m8)×(List n5)×(List m8)×Int) ((List n5)×(List m8)×(List Int)×(List n5)×List m8)) ((List Int)×(List m8)×Int))).bind fun x=>x.go some fun j=>b1f a7 a8 z0 j.1 j.2.1 j.2.2))) else some (j5.brk (a7,a8,regs,z0,A5)))
set_option maxRecDepth 20000 in
theorem e4b (i8:List l9) (prog:List m5) (res:V) (outs:t7) (x1:j9 m9 ((List n5)×(List m8)×(List Int)×(List n5)×List m8)) (hb1:HB cx B4.X res outs x1 a75 (fun s=>a7N s.1 s.2.1 s.2.2.1 s.2.2.2.1 s.2.2.2.2)) (hr1:HR res outs x1 B4.R B4.O) (st1:j5 m9 ((List Int)×(List n5)×(List m8)×(List n5)×(List m8)×Int) ((List n5)×(List m8)×(List Int)×(List n5)×List m8)) (hc1:t6 x1 (fun s:(List Int)×(List n5)×(List m8)×(List n5)×(List m8)×Int=>j6 cx B4.X res outs a6i (a6H i8 prog s.1 s.2.1 s.2.2.1 s.2.2.2.1 s.2.2.2.2.1 s.2.2.2.2.2)) st1) (regs:List Int) (a7:List n5) (a8:List m8) (z0:List n5) (A5:List m8) (at_:Int) (h:a33 i8 prog regs a7 a8 z0 A5 at_=some st1):j6 cx B4.X res outs a6i (a6H i8 prog regs a7 a8 z0 A5 at_) :=
 P0<|rg<|i9 3 h (fun h=>rg<|w8 A3 2 h fun ins hins h=>p6<|i9 1 h (fun h=>rg<|N1 R1 d2a 3 h fun a1n h=>om (B8 (R1.R a1n)∧E2 (R1.O a1n)) ⟨rfl,F9 2⟩<|H5 z0 A5<|rg<|i9 1 h (fun h=>rg<|C4 h fun C6 b1E h=>E6 b1E<|T3 u0 7 b1E<|C4 h fun y1 hy1 h=>u6 h fun e2 h=>ob (R6 hy1)<|ob e2<|om (s6.arr 159 1 4 ((regs.map eI).set (ins.A.toNat) [vi C6.c9])=s6.arr 159 1 4 ((regs.set ins.A.toNat C6.c9).map eI)) (a8M rfl)<|ob (a0a (enc:=eI) hy1)<|tl (9,{ a:=.rowck (eI y1) [],e:=some (.arr 159 1 4 ((regs.set ins.A.toNat C6.c9).map eI)) })<|rg<|om (4 * 1=4) rfl<|z3 h fun x hl hr hb=>om (V.agg (((regs.set ins.A.toNat C6.c9).map eI).flatten.map (a0L [(1,0),(4,0),(5,0),(2,0),(3,0),(6,0),(7,0)])) = .agg ((regs.set ins.A.toNat C6.c9).map eI).flatten) (congrArg V.agg (a7J (fun _=>rfl) _))<|sgT [] [0,1,4,5,6,7,161,162] [(1,0),(4,0),(5,0),(2,0),(3,0),(6,0),(7,0)] [(161,.agg ((regs.set ins.A.toNat C6.c9).map eI).flatten)] (z4 (I:=fun s:Int=>j6 cx B4.X res outs c1K (c5D i8 prog regs a7 a8 z0 A5 at_ ins C6 s)) hl fun s st h hc=>e5U i8 prog regs a7 a8 z0 A5 at_ ins C6 _ _ x (fun s e=>d9k i8 prog regs a7 a8 z0 A5 at_ ins C6 res outs x1 hb1 hr1 st1 hc1 (hb s e)) (fun v e=>(hr1 _ (a9t (hr v e) hc1))) st hc s h)) (fun h=>D8 (I:=fun j:List n5=>j6 cx B4.X res outs c9K (d5N i8 prog regs a7 a8 A5 at_ ins j)) h (fun j h=>e4a i8 prog regs a7 a8 A5 at_ ins res outs x1 hb1 hr1 st1 hc1 j h) (fun x2 h hc2=>rg<|N1 U8 e5c 3 h fun b4H h=>om (B8 (U8.R b4H)∧E2 (U8.O b4H)) ⟨rfl,F9 2⟩<|H5 z0 A5<|i9 4 h (fun h=>rg<|w8 u5 7 h fun T1 a52 h=>tk 11 []<|u6 h fun e6 h=>M1 12 46 164 2 16 t8 z0 (n5.mk ins.B T1.i6) e6<|om (1=[(n5.mk ins.B T1.i6)].length) (by rfl)<|(s7 h hc2 fun hI=>sg [] [0,1,4,5,6,7,8] [(1,0),(4,0),(5,0),(2,0),(3,0),(46,0),(7,0),(16,0)] hI)) (fun h=>(s7 h hc2 fun hI=>sg [] [0,1,4,5,6,7,8] [(1,0),(4,0),(5,0),(2,0),(3,0),(6,0),(7,0),(16,0)] hI))))) (fun h=>D8 (I:=fun j:(List Int)×(List m8)×Int=>j6 cx B4.X res outs c6w (d6p i8 prog a7 a8 z0 j.1 j.2.1 j.2.2)) h (fun j h=>e9b i8 prog a7 a8 z0 res outs x1 hb1 hr1 st1 hc1 j.1 j.2.1 j.2.2 h) (fun x2 h hc2=>rg<|i9 1 h (fun h=>rg<|N1 R1 d2a 3 h fun a54 h=>om (B8 (R1.R a54)∧E2 (R1.O a54)) ⟨rfl,F9 2⟩<|H5 z0 A5<|rg<|i9 1 h (fun h=>rg<|C4 h fun y6 hy6 h=>u6 h fun e8 h=>ob (R6 hy6)<|ob e8<|ob (a0a (enc:=eI) hy6)<|tl (tr 6 (eI y6))<|C4 h fun a0p d5F h=>E6 d5F<|stR 162 2 u0 9 [] (m8.mk a0p.d9 y6) d5F<|(s7 h hc2 fun hI=>om ((.own 7 0 2 0 A5.length:V) = .own 7 0 2 0 (A5.set a54.toNat (m8.mk a0p.d9 y6)).length) (by simp)<|sg [.is (.cell 3 0 1) (.own 7 0 2 0 (A5.set a54.toNat (m8.mk a0p.d9 y6)).length)] [0,1,4,5,6,7] [(1,0),(4,0),(5,0),(2,0),(3,0),(6,0),(7,0)] hI)) (fun h=>rg<|C4 h fun y7 hy7 h=>u6 h fun e9 h=>ob (R6 hy7)<|ob e9<|ob (a0a (enc:=eI) hy7)<|tl (tr 7 (eI y7))<|tk 9 []<|u6 h fun e10 h=>M1 10 41 162 2 16 u0 A5 (m8.mk ins.A y7) e10<|om (1=[(m8.mk ins.A y7)].length) (by rfl)<|(s7 h hc2 fun hI=>sg [] [0,1,4,5,6,7] [(1,0),(4,0),(5,0),(2,0),(3,0),(6,0),(41,0)] hI))) (fun h=>rg<|i9 1 h (fun h=>rg<|C4 h fun y8 hy8 h=>u6 h fun e11 h=>ob (R6 hy8)<|ob e11<|om (s6.arr 159 1 4 ((regs.map eI).set (ins.A.toNat) [vi ins.N])=s6.arr 159 1 4 ((regs.set ins.A.toNat ins.N).map eI)) (a8M rfl)<|ob (a0a (enc:=eI) hy8)<|tl (5,{ a:=.rowck (eI y8) [],e:=some (.arr 159 1 4 ((regs.set ins.A.toNat ins.N).map eI)) })<|(s7 h hc2 fun hI=>sg [] [0,1,4,5,6,7] [(1,0),(4,0),(5,0),(2,0),(3,0),(6,0),(7,0)] hI)) (fun h=>rg<|i9 1 h (fun h=>rg<|C4 h fun y9 hy9 h=>u6 h fun e12 h=>ob (R6 hy9)<|ob e12<|ob (a0a (enc:=eI) hy9)<|tl (tr 3 (eI y9))<|C4 h fun y10 d1B h=>u6 h fun e13 h=>ob (R6 d1B)<|ob e13<|ob (a0a (enc:=eI) d1B)<|tl (tr 7 (eI y10))<|u6 h fun e14 h=>ob (R6 hy9)<|ob e14<|om (s6.arr 159 1 4 ((regs.map eI).set (ins.A.toNat) [vi (n8 (y9+y10))])=s6.arr 159 1 4 ((regs.set ins.A.toNat (n8 (y9+y10))).map eI)) (a8M rfl)<|ob (a0a (enc:=eI) hy9)<|tl (10,{ a:=.rowck (eI y9) [],e:=some (.arr 159 1 4 ((regs.set ins.A.toNat (n8 (y9+y10))).map eI)) })<|(s7 h hc2 fun hI=>sg [] [0,1,4,5,6,7] [(1,0),(4,0),(5,0),(2,0),(3,0),(6,0),(7,0)] hI)) (fun h=>rg<|i9 1 h (fun h=>rg<|C4 h fun y11 b6u h=>u6 h fun e15 h=>ob (R6 b6u)<|ob e15<|ob (a0a (enc:=eI) b6u)<|tl (tr 3 (eI y11))<|C4 h fun y12 d3V h=>u6 h fun e16 h=>ob (R6 d3V)<|ob e16<|ob (a0a (enc:=eI) d3V)<|tl (tr 7 (eI y12))<|u6 h fun e17 h=>ob (R6 b6u)<|ob e17<|om (s6.arr 159 1 4 ((regs.map eI).set (ins.A.toNat) [vi (n8 (y11 - y12))])=s6.arr 159 1 4 ((regs.set ins.A.toNat (n8 (y11 - y12))).map eI)) (a8M rfl)<|ob (a0a (enc:=eI) b6u)<|tl (10,{ a:=.rowck (eI y11) [],e:=some (.arr 159 1 4 ((regs.set ins.A.toNat (n8 (y11 - y12))).map eI)) })<|(s7 h hc2 fun hI=>sg [] [0,1,4,5,6,7] [(1,0),(4,0),(5,0),(2,0),(3,0),(6,0),(7,0)] hI)) (fun h=>rg<|i9 1 h (fun h=>rg<|C4 h fun y13 c90 h=>u6 h fun e18 h=>ob (R6 c90)<|ob e18<|ob (a0a (enc:=eI) c90)<|tl (tr 3 (eI y13))<|C4 h fun y14 d1C h=>u6 h fun e19 h=>ob (R6 d1C)<|ob e19<|ob (a0a (enc:=eI) d1C)<|tl (tr 7 (eI y14))<|i9 8 h (fun h=>rg<|(s7 h hc2 fun hI=>sg [] [0,1,4,5,6,7] [(1,0),(4,0),(5,0),(2,0),(3,0),(6,0),(7,0)] hI)) (fun h=>(s7 h hc2 fun hI=>sg [] [0,1,4,5,6,7] [(1,0),(4,0),(5,0),(2,0),(3,0),(6,0),(7,0)] hI))) (fun h=>rg<|i9 1 h (fun h=>rg<|N1 R4 b1e 2 h fun b2E h=>om (B8 (R4.R b2E)∧E2 (R4.O b2E)) ⟨(by simp [R4,B8,U4,Q5,V.simple,vi,o8,eI,t8]),F9 1⟩<|o6 z0<|(D1 h hc2 fun h=>(x8 h hc1 fun e=>o6 b2E<|x7 B4.h (hr1 _ e)))) (fun h=>(s7 h hc2 fun hI=>sg [] [0,1,4,5,6,7] [(1,0),(4,0),(5,0),(2,0),(3,0),(6,0),(7,0)] hI)))))))))) (fun h=>(x5 h hc1 fun e=>sg [] [4,5,6] [(1,0),(4,0),(5,0),(2,0),(3,0),(6,0),(7,0)] (hb1 _ e)))
noncomputable def b4y (i8:List l9) (prog:List m5):Option m9 :=
 ((a6b i8).bind fun V6=>(bif (!V6) then some (m9.mk [] [] 0 3) else ((b0q prog).bind fun H7=>(bif (!H7) then some (m9.mk [] [] 0 3) else ((q7 (fun s:(List Int)×(List n5)×(List m8)×(List n5)×(List m8)×Int=>a33 i8 prog s.1 s.2.1 s.2.2.1 s.2.2.2.1 s.2.2.2.2.1 s.2.2.2.2.2) (List.replicate 4 (0:Int),[],[],[],[],0)).bind fun x=>x.go (fun r=>some r) fun s=>b2G s.1 s.2.1 s.2.2.1 s.2.2.2.1 s.2.2.2.2)))))
theorem d6y {i8:List l9} {prog:List m5} (r:m9) (h:b4y i8 prog=some r):o7 cx.P 87 [j8 2 u5 i8,j8 4 A3 prog] (B4.R r) (B4.O r) :=
 q9 B4.X B4.c B4.h (fun z=>p6<|l8 R0 b2T 1 h fun V6 h=>i9 3 h (fun h=>rg<|fe z h) (fun h=>l8 U5 c3F 5 h fun H7 h=>i9 7 h (fun h=>rg<|fe z h) (fun h=>rg<|om ((List.replicate 4 ([vi 0]:List V)).flatten=[vi 0,vi 0,vi 0,vi 0]∧([vi 0]:List V).length=1) ⟨rfl,rfl⟩<|p6<|z3 h fun x hl hr hb=>sg [.own (.cell 1 0 0) 164 2,.own (.cell 1 0 1) 162 2,.own (.cell 12 0 0) 164 2,.own (.cell 12 0 1) 162 2] [0,1,4,5,6,7] [(1,0),(10,0),(12,0),(15,0),(16,0),(17,0),(18,0)] (z4 (I:=fun s:(List Int)×(List n5)×(List m8)×(List n5)×(List m8)×Int=>j6 cx B4.X (B4.R r) (B4.O r) a6i (a6H i8 prog s.1 s.2.1 s.2.2.1 s.2.2.2.1 s.2.2.2.2.1 s.2.2.2.2.2)) hl fun s st h hc=>e4b i8 prog _ _ x (fun s e=>e8s r s.1 s.2.1 s.2.2.1 s.2.2.2.1 s.2.2.2.2 (hb s e)) (fun v e=>z6 B4 (hr v e)) st hc s.1 s.2.1 s.2.2.1 s.2.2.2.1 s.2.2.2.2.1 s.2.2.2.2.2 h))))
noncomputable def b02:FS ((List l9)×Int×Int):=⟨53,Tryz.f53,[.val [some 2] [],.val [] [],.val [] []],[none,none],[.val [some 2] [],.val [some 4] []],fun r=>.tup [j8 2 u5 r.1,vi r.2.1,vi r.2.2],fun _=>[none,none],Tryz.func53⟩
noncomputable def b4w (i8:List l9) (prog:List m5):Option ((List l9)×Int×Int) :=
 ((b4y i8 prog).bind fun D6=>(bif (D6.Code==3) then some ([],0,3) else ((b1W i8 D6).bind fun b1z=>some (b1z,D6.c9,D6.Code))))
theorem e09 {i8:List l9} {prog:List m5} (r:(List l9)×Int×Int) (h:b4w i8 prog=some r):o7 cx.P 53 [j8 2 u5 i8,j8 4 A3 prog] (b02.R r) (b02.O r) :=
 q9 b02.X b02.c b02.h (fun z=>p6<|l8 B4 d6y 2 h fun D6 h=>rg<|i9 2 h (fun h=>rg<|fe z h) (fun h=>rg<|l8 Y8 c7m 2 h fun b1z h=>o6 b1z<|fe z h))
noncomputable def a5z:FS (List Int):=⟨54,Tryz.f54,[.val [some 1] [some 3]],[none],[.val [some 1] []],fun r=>o8 3 1 eI r,fun _=>[none],Tryz.func54⟩
noncomputable def b69 (i8:List Int):Option (List Int) :=
 (bif ((i8.length:Int)==0) then some [] else (t5 (0≤(i8.length:Int)∧(i8.length:Int) * 8≤140737488355328) ((t5 (i8.length=(List.replicate (i8.length:Int).toNat (0:Int)).length) (some i8)))))
theorem e1M {i8:List Int} (r:List Int) (h:b69 i8=some r):o7 cx.P 54 [j8 1 eI i8] (a5z.R r) (a5z.O r) :=
 q9 a5z.X a5z.c a5z.h (fun z=>p6<|i9 2 h (fun h=>rg<|fe z h) (fun h=>rg<|u6 h fun e1 h=>mkS 2 7 3 1 8 eI (0:Int) ti3 (.none) e1 (by decide) (by rfl)<|rg<|u6 h fun e2 h=>om (s6.row 3 1 (List.replicate (i8.length:Int).toNat (0:Int)).length (i8.map eI)=m4 3 1 eI i8) (a7d e2)<|o6 (List.replicate (i8.length:Int).toNat (0:Int))<|ob e2<|tl (2,{ e:=some (m4 3 1 eI i8) })<|rg<|om ((List.replicate (i8.length:Int).toNat (0:Int)).length=i8.length) (by simp)<|fe z h))
noncomputable def Y0:FS ((List l9)×List Int):=⟨23,Tryz.f23,[.val [some 2] [],.val [some 1] []],[none,none],[.val [some 2] [],.val [some 1] []],fun r=>.tup [j8 2 u5 r.1,j8 1 eI r.2],fun _=>[none,none],Tryz.func23⟩
noncomputable def c6u:List Item:=Y0.k 6 [false,false]
noncomputable def d2x (a65:List Int) (a9Y:List l9):St:=⟨(bs 6 (j8 2 u5 a9Y::(.own 1 0 1 0 a65.length::(bs 39 [])))),[some [],some [m4 3 1 eI a65]]⟩
noncomputable def b4Q (a65:List Int) (a9Y:List l9):Option ((List l9)×List Int) :=
 ((b69 a65).bind fun int=>some (a9Y,int))
theorem d8w (r:(List l9)×List Int) (a65:List Int) (a9Y:List l9) (h:b4Q a65 a9Y=some r):j6 cx Y0.X (Y0.R r) (Y0.O r) c6u (d2x a65 a9Y) :=
 P0<|rg<|N1 a5z e1M 2 h fun int h=>om (B8 (a5z.R int)∧E2 (a5z.O int)) ⟨(by simp [a5z,B8,U4,Q5,V.simple,vi,o8,eI]),F9 1⟩<|H5 a65 int<|fe Y0.h h
noncomputable def c2c:List Item:=Y0.k 5 [false]
noncomputable def c35 (z9:List (List m5)) (a3y:List Int) (v25:Int) (now:List l9):St:=⟨(bs 6 (j8 2 u5 now::(.own 1 0 1 0 a3y.length::(bs 15 (j8 1 a2S z9::(vi (z9.length:Int)::(vi v25::(bs 21 [])))))))),[some [],some [m4 3 1 eI a3y]]⟩
noncomputable def b0H (z9:List (List m5)) (a3y:List Int) (v25:Int) (now:List l9):Option (j5 ((List l9)×List Int) ((List Int)×Int×List l9) ((List Int)×List l9)) :=
 (bif decide (v25<(z9.length:Int)) then ((idx z9 v25).bind fun y=>((b4w now y).bind fun K6=>(bif (K6.2.2==3) then some (j5.ret ([],[])) else (t5 ((a3y.length+1) * 8≤140737488355328) (some (j5.nxt (a3y++[K6.2.1],n8 (v25+1),K6.1))))))) else some (j5.brk (a3y,now)))
theorem e1D (z9:List (List m5)) (res:V) (outs:t7) (x1:j9 ((List l9)×List Int) ((List Int)×List l9)) (hb1:HB cx Y0.X res outs x1 c6u (fun s=>d2x s.1 s.2)) (hr1:HR res outs x1 Y0.R Y0.O) (st1:j5 ((List l9)×List Int) ((List Int)×Int×List l9) ((List Int)×List l9)) (hc1:t6 x1 (fun s:(List Int)×Int×List l9=>j6 cx Y0.X res outs c2c (c35 z9 s.1 s.2.1 s.2.2)) st1) (a3y:List Int) (v25:Int) (now:List l9) (h:b0H z9 a3y v25 now=some st1):j6 cx Y0.X res outs c2c (c35 z9 a3y v25 now) :=
 P0<|rg<|i9 0 h (fun h=>rg<|w8 a2S 0 h fun y hy h=>rg<|l8 b02 e09 2 h fun K6 h=>rg<|i9 1 h (fun h=>rg<|(x8 h hc1 fun e=>x7 Y0.h (hr1 _ e))) (fun h=>p6<|tk 2 []<|u6 h fun e1 h=>M1 3 23 3 1 8 eI a3y K6.2.1 e1<|om (1=[K6.2.1].length) (by rfl)<|rg<|(x6 h hc1 fun hI=>sg [] [6,7,23,24,25] [(23,0)] hI))) (fun h=>(x5 h hc1 fun e=>sg [] [6,7] [(1,0)] (hb1 _ e)))
noncomputable def b5k (i8:List l9) (z9:List (List m5)):Option ((List l9)×List Int) :=
 ((a6b i8).bind fun V6=>(bif (!V6) then some ([],[]) else (bif decide ((z9.length:Int)>100) then some ([],[]) else ((a7v i8).bind fun box=>((q7 (fun s:(List Int)×Int×List l9=>b0H z9 s.1 s.2.1 s.2.2) ([],0,box)).bind fun x=>x.go (fun r=>some r) fun s=>b4Q s.1 s.2)))))
theorem e2H {i8:List l9} {z9:List (List m5)} (r:(List l9)×List Int) (h:b5k i8 z9=some r):o7 cx.P 23 [j8 2 u5 i8,j8 1 a2S z9] (Y0.R r) (Y0.O r) :=
 q9 Y0.X Y0.c Y0.h (fun z=>p6<|l8 R0 b2T 1 h fun V6 h=>i9 3 h (fun h=>rg<|fe z h) (fun h=>i9 7 h (fun h=>rg<|fe z h) (fun h=>rg<|l8 a59 c3y 1 h fun box h=>p6<|z3 h fun x hl hr hb=>o6 box<|sg [.frz (.tmp 6) (none),.own (.tmp 7) 3 1] [6,7,23,24,25] [(18,0)] (z4 (I:=fun s:(List Int)×Int×List l9=>j6 cx Y0.X (Y0.R r) (Y0.O r) c2c (c35 z9 s.1 s.2.1 s.2.2)) hl fun s st h hc=>e1D z9 _ _ x (fun s e=>d8w r s.1 s.2 (hb s e)) (fun v e=>z6 Y0 (hr v e)) st hc s.1 s.2.1 s.2.2 h))))
noncomputable def a90:FS (o9):=⟨26,Tryz.f26,[.val [none,some 2,some 4] [none,some 106,none]],[none],[.val [some 7] []],fun r=>.agg [vi r.At,o8 106 2 u5 r.d7,j8 4 B5 r.f0],fun _=>[none],Tryz.func26⟩
noncomputable def b7j (i8:List l7):Option o9 :=
 ((a95 i8).bind fun I9=>(bif (!I9) then some (o9.mk 0 [] []) else ((b01 i8).bind fun q8=>some q8.1)))
theorem e83 {i8:List l7} (r:o9) (h:b7j i8=some r):o7 cx.P 26 [j8 7 p9 i8] (a90.R r) (a90.O r) :=
 q9 a90.X a90.c a90.h (fun z=>p6<|l8 V5 c3l 1 h fun I9 h=>i9 2 h (fun h=>rg<|fe z h) (fun h=>rg<|l8 W5 c5t 1 h fun q8 h=>rg<|H5 q8.1.d7 q8.1.f0<|fe z h))
noncomputable def Y9:FS (Bool):=⟨55,Tryz.f55,[.val [] []],[none,none],[.val [some 2] [],.val [some 2] []],fun r=>.b r,fun _=>[none,none],Tryz.func55⟩
noncomputable def d2q:List Item:=Y9.k 4 [false,false]
noncomputable def c50:St:=⟨(bs 26 []),[some []]⟩
noncomputable def d3j:Option Bool :=
 some true
theorem e1b (r:Bool) (h:d3j=some r):j6 cx Y9.X (Y9.R r) (Y9.O r) d2q (c50) :=
 P0<|rg<|fe Y9.h h
noncomputable def c5L:List Item:=Y9.k 3 [false]
noncomputable def c37 (a:List l9) (b:List l9) (v13:Int):St:=⟨(j8 2 u5 a::(j8 2 u5 b::(bs 10 (vi (a.length:Int)::(vi v13::(bs 12 [])))))),[some []]⟩
noncomputable def b86 (a:List l9) (b:List l9) (v13:Int):Option (j5 Bool Int Unit) :=
 (bif decide (v13<(a.length:Int)) then ((idx a v13).bind fun box=>((idx b v13).bind fun T1=>(bif (!(([box.i6,box.c9]:List Int)==[T1.i6,T1.c9])) then some (j5.ret false) else some (j5.nxt (n8 (v13+1)))))) else some (j5.brk ()))
theorem e9l (a:List l9) (b:List l9) (res:V) (outs:t7) (x1:j9 Bool Unit) (hb1:HB cx Y9.X res outs x1 d2q (fun s=>c50)) (hr1:HR res outs x1 Y9.R Y9.O) (st1:j5 Bool Int Unit) (hc1:t6 x1 (fun s:Int=>j6 cx Y9.X res outs c5L (c37 a b s)) st1) (v13:Int) (h:b86 a b v13=some st1):j6 cx Y9.X res outs c5L (c37 a b v13) :=
 P0<|rg<|i9 0 h (fun h=>p6<|w8 u5 2 h fun box a3d h=>w8 u5 6 h fun T1 a52 h=>i9 8 h (fun h=>rg<|(x8 h hc1 fun e=>x7 Y9.h (hr1 _ e))) (fun h=>rg<|(x6 h hc1 fun hI=>sg [] [0,1,12,13] [] hI))) (fun h=>(x5 h hc1 fun e=>sg [] [] [] (hb1 _ e)))
noncomputable def c1p (a:List l9) (b:List l9):Option Bool :=
 (bif ((a.length:Int) != (b.length:Int)) then some false else ((q7 (fun s:Int=>b86 a b s) 0).bind fun x=>x.go (fun r=>some r) fun s=>d3j))
theorem e4U {a:List l9} {b:List l9} (r:Bool) (h:c1p a b=some r):o7 cx.P 55 [j8 2 u5 a,j8 2 u5 b] (Y9.R r) (Y9.O r) :=
 q9 Y9.X Y9.c Y9.h (fun z=>p6<|i9 4 h (fun h=>rg<|fe z h) (fun h=>rg<|z3 h fun x hl hr hb=>sg [] [0,1,12,13] [] (z4 (I:=fun s:Int=>j6 cx Y9.X (Y9.R r) (Y9.O r) c5L (c37 a b s)) hl fun s st h hc=>e9l a b _ _ x (fun s e=>e1b r (hb s e)) (fun v e=>z6 Y9 (hr v e)) st hc s h)))
noncomputable def a6f:FS (Bool):=⟨25,Tryz.f25,[.val [] []],[none,none],[.val [some 2] [],.val [some 2] []],fun r=>.b r,fun _=>[none,none],Tryz.func25⟩
noncomputable def b4G (a:List l9) (b:List l9):Option Bool :=
 ((c1p a b).bind fun box=>some box)
theorem e8z {a:List l9} {b:List l9} (r:Bool) (h:b4G a b=some r):o7 cx.P 25 [j8 2 u5 a,j8 2 u5 b] (a6f.R r) (a6f.O r) :=
 q9 a6f.X a6f.c a6f.h (fun z=>p6<|l8 Y9 e4U 2 h fun box h=>fe z h)
noncomputable def N6:FS (Int):=⟨27,Tryz.f27,[.val [] []],[none,none],[.val [some 7] [],.val [] []],fun r=>vi r,fun _=>[none,none],Tryz.func27⟩
noncomputable def c3L:List Item:=N6.k 3 [false]
noncomputable def c49:St:=⟨(bs 25 []),[some []]⟩
noncomputable def c7U:Option Int :=
 some (-1)
theorem d95 (r:Int) (h:c7U=some r):j6 cx N6.X (N6.R r) (N6.O r) c3L (c49) :=
 P0<|rg<|fe N6.h h
noncomputable def b5v:List Item:=N6.k 2 []
noncomputable def b8n (i8:List l7) (q:n9) (v9:Int):St:=⟨(bs 3 (.ptr 1 0 0::(bs 3 (j8 7 p9 i8::(vi (i8.length:Int)::(vi v9::(bs 15 []))))))),[some [],some [.var 31 [vi q.b9,vi q.Seq]]]⟩
noncomputable def d1a:List Item:=N6.k 5 [true,false]
noncomputable def c7O (i8:List l7) (q:n9) (v9:Int):St:=⟨(bs 3 (.ptr 1 0 0::(bs 3 (j8 7 p9 i8::(vi (i8.length:Int)::(vi v9::(bs 15 []))))))),[some [],some [.var 31 [vi q.b9,vi q.Seq]]]⟩
noncomputable def c3C (v9:Int):Option (j5 Int Int Unit) :=
 some (j5.nxt (n8 (v9+1)))
theorem e41 (i8:List l7) (q:n9) (v9:Int) (res:V) (outs:t7) (x1:j9 Int Unit) (hb1:HB cx N6.X res outs x1 c3L (fun s=>c49)) (hr1:HR res outs x1 N6.R N6.O) (st1:j5 Int Int Unit) (hc1:t6 x1 (fun s:Int=>j6 cx N6.X res outs b5v (b8n i8 q s)) st1) (h:c3C v9=some st1):j6 cx N6.X res outs d1a (c7O i8 q v9) :=
 P0<|rg<|(x6 h hc1 fun hI=>sg [] [3,7,8,9] [(1,0)] hI)
noncomputable def b0a (i8:List l7) (q:n9) (v9:Int):Option (j5 Int Int Unit) :=
 (bif decide (v9<(i8.length:Int)) then ((idx i8 v9).bind fun z7=>(((bif (!z7.g8) then (bif (([z7.a5.b9,z7.a5.Seq]:List Int)==[q.b9,q.Seq]) then some (j9.ret (j5.ret v9)) else some (j9.brk ())) else some (j9.brk ())):Option (j9 (j5 Int Int Unit) Unit)).bind fun x=>x.go some fun j=>c3C v9)) else some (j5.brk ()))
theorem d8j (i8:List l7) (q:n9) (res:V) (outs:t7) (x1:j9 Int Unit) (hb1:HB cx N6.X res outs x1 c3L (fun s=>c49)) (hr1:HR res outs x1 N6.R N6.O) (st1:j5 Int Int Unit) (hc1:t6 x1 (fun s:Int=>j6 cx N6.X res outs b5v (b8n i8 q s)) st1) (v9:Int) (h:b0a i8 q v9=some st1):j6 cx N6.X res outs b5v (b8n i8 q v9) :=
 P0<|rg<|i9 0 h (fun h=>rg<|w8 p9 1 h fun z7 J6 h=>D8 (I:=fun j:Unit=>j6 cx N6.X res outs d1a (c7O i8 q v9)) h (fun j h=>e41 i8 q v9 res outs x1 hb1 hr1 st1 hc1 h) (fun x2 h hc2=>rg<|i9 3 h (fun h=>i9 8 h (fun h=>rg<|(D1 h hc2 fun h=>(x8 h hc1 fun e=>x7 N6.h (hr1 _ e)))) (fun h=>(s7 h hc2 fun hI=>sg [] [3,7,8,9] [(1,0)] hI))) (fun h=>(s7 h hc2 fun hI=>sg [] [3,7,8,9] [(1,0)] hI)))) (fun h=>(x5 h hc1 fun e=>sg [] [] [] (hb1 _ e)))
noncomputable def b13 (i8:List l7) (q:n9):Option Int :=
 ((q7 (fun s:Int=>b0a i8 q s) 0).bind fun x=>x.go (fun r=>some r) fun s=>c7U)
theorem c7Y {i8:List l7} {q:n9} (r:Int) (h:b13 i8 q=some r):o7 cx.P 27 [j8 7 p9 i8,.agg (G2 q)] (N6.R r) (N6.O r) :=
 q9 N6.X N6.c N6.h (fun z=>p6<|z3 h fun x hl hr hb=>sg [] [3,7,8,9] [(1,0)] (z4 (I:=fun s:Int=>j6 cx N6.X (N6.R r) (N6.O r) b5v (b8n i8 q s)) hl fun s st h hc=>d8j i8 q _ _ x (fun s e=>d95 r (hb s e)) (fun v e=>z6 N6 (hr v e)) st hc s h))
noncomputable def H3:FS (Bool):=⟨9,Tryz.f9,[.val [] []],[none],[.val P2 []],fun r=>.b r,fun _=>[none],Tryz.func9⟩
noncomputable def c6d:List Item:=H3.k 7 [false,false]
noncomputable def d1z (A2:List l7) (z8:List n9) (a7g:List (List m5)):St:=⟨(bs 3 (j8 7 p9 A2::(j8 2 G2 z8::(.own 1 0 1 0 a7g.length::(bs 74 []))))),[some [],some [m4 34 1 a2S a7g]]⟩
noncomputable def d2T:List Item:=H3.k 11 [false,false,false,false]
noncomputable def d4z:St:=⟨(bs 80 []),[some []]⟩
noncomputable def d0o:Option Bool :=
 some true
theorem e2l (r:Bool) (h:d0o=some r):j6 cx H3.X (H3.R r) (H3.O r) d2T (d4z) :=
 P0<|rg<|fe H3.h h
noncomputable def b96:List Item:=H3.k 10 [false,false,false]
noncomputable def c2V (A2:List l7) (z8:List n9) (F8:(List l9)×List Int) (v61:Int):St:=⟨(bs 3 (j8 7 p9 A2::(bs 7 (j8 1 eI F8.2::(bs 47 (j8 2 G2 z8::(vi (z8.length:Int)::(vi v61::(bs 18 []))))))))),[some []]⟩
noncomputable def b5p (A2:List l7) (z8:List n9) (F8:(List l9)×List Int) (v61:Int):Option (j5 Bool Int Unit) :=
 (bif decide (v61<(z8.length:Int)) then ((idx z8 v61).bind fun req=>((idx F8.2 v61).bind fun y=>((b13 A2 req).bind fun first=>((idx A2 first).bind fun z7=>(bif (y != z7.a9.c9) then some (j5.ret false) else some (j5.nxt (n8 (v61+1)))))))) else some (j5.brk ()))
theorem e6K (A2:List l7) (z8:List n9) (F8:(List l9)×List Int) (res:V) (outs:t7) (x1:j9 Bool Unit) (hb1:HB cx H3.X res outs x1 d2T (fun s=>d4z)) (hr1:HR res outs x1 H3.R H3.O) (st1:j5 Bool Int Unit) (hc1:t6 x1 (fun s:Int=>j6 cx H3.X res outs b96 (c2V A2 z8 F8 s)) st1) (v61:Int) (h:b5p A2 z8 F8 v61=some st1):j6 cx H3.X res outs b96 (c2V A2 z8 F8 v61) :=
 P0<|rg<|i9 0 h (fun h=>rg<|w8 G2 1 h fun req d2Z h=>rg<|w8 eI 2 h fun y hy h=>l8 N6 c7Y 7 h fun first h=>w8 p9 8 h fun z7 J6 h=>i9 12 h (fun h=>rg<|(x8 h hc1 fun e=>x7 H3.h (hr1 _ e))) (fun h=>rg<|(x6 h hc1 fun hI=>sg [] [3,11,59,60,61] [] hI))) (fun h=>(x5 h hc1 fun e=>sg [] [] [] (hb1 _ e)))
noncomputable def b16 (A2:List l7) (z8:List n9) (a7g:List (List m5)):Option Bool :=
 ((b3Y).bind fun a13=>((b5k a13 a7g).bind fun F8=>((b7j A2).bind fun a4h=>((b4G F8.1 a4h.d7).bind fun a5I=>(bif (!a5I) then some false else (bif ((F8.2.length:Int) != (z8.length:Int)) then some false else ((q7 (fun s:Int=>b5p A2 z8 F8 s) 0).bind fun x=>x.go (fun r=>some r) fun s=>d0o)))))))
theorem d9M (A2:List l7) (z8:List n9) (r:Bool) (a7g:List (List m5)) (h:b16 A2 z8 a7g=some r):j6 cx H3.X (H3.R r) (H3.O r) c6d (d1z A2 z8 a7g) :=
 P0<|rg<|l8 a8G d0K 0 h fun a13 h=>l8 Y0 e2H 2 h fun F8 h=>H5 a13 a7g<|rg<|l8 a90 e83 2 h fun a4h h=>N1 a6f e8z 4 h fun a5I h=>om (B8 (a6f.R a5I)∧E2 (a6f.O a5I)) ⟨rfl,F9 2⟩<|o6 a4h.d7<|i9 6 h (fun h=>rg<|fe H3.h h) (fun h=>i9 12 h (fun h=>rg<|fe H3.h h) (fun h=>rg<|z3 h fun x hl hr hb=>sg [] [3,11,59,60,61] [] (z4 (I:=fun s:Int=>j6 cx H3.X (H3.R r) (H3.O r) b96 (c2V A2 z8 F8 s)) hl fun s st h hc=>e6K A2 z8 F8 _ _ x (fun s e=>e2l r (hb s e)) (fun v e=>z6 H3 (hr v e)) st hc s h)))
noncomputable def c2x:List Item:=H3.k 6 [false]
noncomputable def c5u (w:m3) (A2:List l7) (z8:List n9) (z9:List (List m5)) (v23:Int):St:=⟨(bs 1 (.ptr 1 0 0::(bs 1 (j8 7 p9 A2::(j8 2 G2 z8::(.own 2 0 1 0 z9.length::(bs 15 (j8 2 G2 z8::(vi (z8.length:Int)::(vi v23::(bs 56 []))))))))))),[some [],some [.var 28 (M0 w)],some [m4 34 1 a2S z9]]⟩
noncomputable def a6e (w:m3) (z8:List n9) (z9:List (List m5)) (v23:Int):Option (j5 Bool ((List (List m5))×Int) (List (List m5))) :=
 (bif decide (v23<(z8.length:Int)) then ((idx z8 v23).bind fun d4y=>((b2L w d4y).bind fun U2=>(bif (!U2.2) then some (j5.ret false) else (t5 ((z9.length+1) * 24≤140737488355328) (some (j5.nxt (z9++[U2.1],n8 (v23+1)))))))) else some (j5.brk z9))
theorem e6D (w:m3) (A2:List l7) (z8:List n9) (res:V) (outs:t7) (x1:j9 Bool (List (List m5))) (hb1:HB cx H3.X res outs x1 c6d (d1z A2 z8)) (hr1:HR res outs x1 H3.R H3.O) (st1:j5 Bool ((List (List m5))×Int) (List (List m5))) (hc1:t6 x1 (fun s:(List (List m5))×Int=>j6 cx H3.X res outs c2x (c5u w A2 z8 s.1 s.2)) st1) (z9:List (List m5)) (v23:Int) (h:a6e w z8 z9 v23=some st1):j6 cx H3.X res outs c2x (c5u w A2 z8 z9 v23) :=
 P0<|rg<|i9 0 h (fun h=>rg<|w8 G2 0 h fun d4y e9v h=>rg<|l8 P7 d5K 2 h fun U2 h=>rg<|i9 1 h (fun h=>rg<|(x8 h hc1 fun e=>x7 H3.h (hr1 _ e))) (fun h=>rg<|o6 U2.1<|tk 2 [some 4]<|u6 h fun e1 h=>M1 3 21 34 1 24 a2S z9 U2.1 e1<|om (1=[U2.1].length) (by rfl)<|rg<|(x6 h hc1 fun hI=>sg [] [1,3,4,5,21,22,23] [(1,0),(21,0)] hI))) (fun h=>(x5 h hc1 fun e=>sg [] [3,4,5] [(2,0)] (hb1 _ e)))
noncomputable def b7J (w:m3):Option Bool :=
 ((a84 w).bind fun E1=>(bif (!E1) then some false else ((a81 w).bind fun A2=>((b75 A2).bind fun z8=>((q7 (fun s:(List (List m5))×Int=>a6e w z8 s.1 s.2) ([],0)).bind fun x=>x.go (fun r=>some r) fun s=>b16 A2 z8 s)))))
theorem d9X {w:m3} (r:Bool) (h:b7J w=some r):o7 cx.P 9 [.agg (a1J w)] (H3.R r) (H3.O r) :=
 q9 H3.X H3.c H3.h (fun z=>p6<|l8 B7 c3e 1 h fun E1 h=>i9 2 h (fun h=>rg<|fe z h) (fun h=>rg<|l8 N9 c6h 1 h fun A2 h=>rg<|l8 P9 d9m 1 h fun z8 h=>p6<|z3 h fun x hl hr hb=>sg [.own (.tmp 5) 34 1] [1,3,4,5,21,22,23] [(1,0),(16,0)] (z4 (I:=fun s:(List (List m5))×Int=>j6 cx H3.X (H3.R r) (H3.O r) c2x (c5u w A2 z8 s.1 s.2)) hl fun s st h hc=>e6D w A2 z8 _ _ x (fun s e=>d9M A2 z8 r s (hb s e)) (fun v e=>z6 H3 (hr v e)) st hc s.1 s.2 h)))
noncomputable def O2:FS (List l7):=⟨29,Tryz.f29,[.val [some 7] []],[none],[.val P2 []],fun r=>j8 7 p9 r,fun _=>[none],Tryz.func29⟩
noncomputable def c5P:List Item:=O2.k 4 [false]
noncomputable def c1r (w:m3) (a2G:Int):St:=⟨(bs 1 (.ptr 1 0 0::(bs 1 (vi a2G::(bs 36 []))))),[some [],some [.var 28 (M0 w)]]⟩
noncomputable def c0y (w:m3) (a2G:Int):Option (List l7) :=
 (bif ((w.Nodes.length:Int)==0) then some ([]:List l7) else ((idx w.Nodes a2G).bind fun n7=>((b1v n7.a6).bind fun a76=>some a76)))
theorem d7J (w:m3) (r:List l7) (a2G:Int) (h:c0y w a2G=some r):j6 cx O2.X (O2.R r) (O2.O r) c5P (c1r w a2G) :=
 P0<|rg<|i9 3 h (fun h=>rg<|tk 0 T4<|om (0=([]:List l7).length) (by simp)<|fe O2.h h) (fun h=>rg<|w8 T9 3 h fun n7 K5 h=>l8 W8 c5X 6 h fun a76 h=>o6 a76<|fe O2.h h)
noncomputable def b7a:List Item:=O2.k 3 []
noncomputable def b7R (w:m3) (best:Int) (i:Int):St:=⟨(bs 1 (.ptr 1 0 0::(bs 1 (vi best::(vi i::(bs 35 [])))))),[some [],some [.var 28 (M0 w)]]⟩
noncomputable def d3P:List Item:=O2.k 6 [true,true]
noncomputable def c52 (w:m3) (i:Int) (a3i:Int):St:=⟨(bs 1 (.ptr 1 0 0::(bs 1 (vi a3i::(vi i::(bs 35 [])))))),[some [],some [.var 28 (M0 w)]]⟩
noncomputable def c4F (i:Int) (a3i:Int):Option (j5 (List l7) (Int×Int) Int) :=
 some (j5.nxt (a3i,n8 (i+1)))
theorem d9e (w:m3) (i:Int) (res:V) (outs:t7) (x1:j9 (List l7) Int) (hb1:HB cx O2.X res outs x1 c5P (c1r w)) (hr1:HR res outs x1 O2.R O2.O) (st1:j5 (List l7) (Int×Int) Int) (hc1:t6 x1 (fun s:Int×Int=>j6 cx O2.X res outs b7a (b7R w s.1 s.2)) st1) (a3i:Int) (h:c4F i a3i=some st1):j6 cx O2.X res outs d3P (c52 w i a3i) :=
 P0<|rg<|(x6 h hc1 fun hI=>sg [] [1,3,4] [(1,0)] hI)
noncomputable def b2h (w:m3) (best:Int) (i:Int):Option (j5 (List l7) (Int×Int) Int) :=
 (bif decide (i<(w.Nodes.length:Int)) then ((((idx w.Nodes i).bind fun b37=>((idx w.Nodes best).bind fun b3v=>(bif decide ((b37.a6.length:Int)>(b3v.a6.length:Int)) then some (j9.brk i) else some (j9.brk best)))):Option (j9 (j5 (List l7) (Int×Int) Int) Int)).bind fun x=>x.go some fun j=>c4F i j) else some (j5.brk best))
theorem e2B (w:m3) (res:V) (outs:t7) (x1:j9 (List l7) Int) (hb1:HB cx O2.X res outs x1 c5P (c1r w)) (hr1:HR res outs x1 O2.R O2.O) (st1:j5 (List l7) (Int×Int) Int) (hc1:t6 x1 (fun s:Int×Int=>j6 cx O2.X res outs b7a (b7R w s.1 s.2)) st1) (best:Int) (i:Int) (h:b2h w best i=some st1):j6 cx O2.X res outs b7a (b7R w best i) :=
 P0<|rg<|i9 4 h (fun h=>D8 (I:=fun j:Int=>j6 cx O2.X res outs d3P (c52 w i j)) h (fun j h=>d9e w i res outs x1 hb1 hr1 st1 hc1 j h) (fun x2 h hc2=>rg<|w8 T9 3 h fun b37 e34 h=>w8 T9 10 h fun b3v e4F h=>i9 14 h (fun h=>rg<|(s7 h hc2 fun hI=>sg [] [1,3,4] [(1,0)] hI)) (fun h=>(s7 h hc2 fun hI=>sg [] [1,3,4] [(1,0)] hI)))) (fun h=>(x5 h hc1 fun e=>sg [] [1,3] [(1,0)] (hb1 _ e)))
noncomputable def b1d (w:m3):Option (List l7) :=
 ((q7 (fun s:Int×Int=>b2h w s.1 s.2) (0,0)).bind fun x=>x.go (fun r=>some r) fun s=>c0y w s)
theorem c8I {w:m3} (r:List l7) (h:b1d w=some r):o7 cx.P 29 [.agg (a1J w)] (O2.R r) (O2.O r) :=
 q9 O2.X O2.c O2.h (fun z=>rg3<|z3 h fun x hl hr hb=>sg [] [1,3,4] [(1,0)] (z4 (I:=fun s:Int×Int=>j6 cx O2.X (O2.R r) (O2.O r) b7a (b7R w s.1 s.2)) hl fun s st h hc=>e2B w _ _ x (fun s e=>d7J w r s (hb s e)) (fun v e=>z6 O2 (hr v e)) st hc s.1 s.2 h))
noncomputable def Q4:FS (List n9):=⟨30,Tryz.f30,[.val [some 2] []],[none],[.val [some 7] []],fun r=>j8 2 G2 r,fun _=>[none],Tryz.func30⟩
noncomputable def c4U:List Item:=Q4.k 6 [false,false]
noncomputable def c1i (out1:List n9):St:=⟨(bs 3 (.own 1 0 2 0 out1.length::(bs 37 []))),[some [],some [m4 31 2 G2 out1]]⟩
noncomputable def c9N (out1:List n9):Option (List n9) :=
 some out1
theorem e75 (r:List n9) (out1:List n9) (h:c9N out1=some r):j6 cx Q4.X (Q4.R r) (Q4.O r) c4U (c1i out1) :=
 P0<|rg<|o6 out1<|fe Q4.h h
noncomputable def b7d:List Item:=Q4.k 5 [false]
noncomputable def b8s (i8:List l7) (out:List n9) (d7:List l9) (i:Int) (sAt:Int) (Q0:List n3):St:=⟨(j8 7 p9 i8::(bs 2 (.own 1 0 2 0 out.length::(.ptr 2 0 0::(vi i::(bs 35 [])))))),[some [],some [m4 31 2 G2 out],some [.var 62 [vi sAt,.own 3 0 2 0 d7.length,j8 4 B5 Q0]],some [m4 106 2 u5 d7]]⟩
noncomputable def d3u:List Item:=Q4.k 10 [false,true,true]
noncomputable def c9O (i8:List l7) (i:Int) (D7:o9×Int) (out2:List n9):St:=⟨(j8 7 p9 i8::(bs 2 (.own 1 0 2 0 out2.length::(.ptr 2 0 0::(vi i::(bs 35 [])))))),[some [],some [m4 31 2 G2 out2],some [.var 62 [vi D7.1.At,.own 3 0 2 0 D7.1.d7.length,j8 4 B5 D7.1.f0]],some [m4 106 2 u5 D7.1.d7]]⟩
noncomputable def c4e (i:Int) (D7:o9×Int) (out2:List n9):Option (j5 (List n9) ((List n9)×(List l9)×Int×Int×List n3) (List n9)) :=
 some (j5.nxt (out2,D7.1.d7,n8 (i+1),D7.1.At,D7.1.f0))
theorem e7H (i8:List l7) (i:Int) (D7:o9×Int) (res:V) (outs:t7) (x1:j9 (List n9) (List n9)) (hb1:HB cx Q4.X res outs x1 c4U c1i) (hr1:HR res outs x1 Q4.R Q4.O) (st1:j5 (List n9) ((List n9)×(List l9)×Int×Int×List n3) (List n9)) (hc1:t6 x1 (fun s:(List n9)×(List l9)×Int×Int×List n3=>j6 cx Q4.X res outs b7d (b8s i8 s.1 s.2.1 s.2.2.1 s.2.2.2.1 s.2.2.2.2)) st1) (out2:List n9) (h:c4e i D7 out2=some st1):j6 cx Q4.X res outs d3u (c9O i8 i D7 out2) :=
 P0<|rg<|(x6 h hc1 fun hI=>sg [] [0,3,4,5] [(1,0),(2,0),(3,0)] hI)
noncomputable def a7E (i8:List l7) (out:List n9) (d7:List l9) (i:Int) (sAt:Int) (Q0:List n3):Option (j5 (List n9) ((List n9)×(List l9)×Int×Int×List n3) (List n9)) :=
 (bif decide (i<(i8.length:Int)) then ((idx i8 i).bind fun z7=>((a7C (o9.mk sAt d7 Q0) z7).bind fun D7=>(((bif (D7.2==0) then (t5 ((out.length+1) * 16≤140737488355328) (some (j9.brk (out++[z7.a5])))) else some (j9.brk out)):Option (j9 (j5 (List n9) ((List n9)×(List l9)×Int×Int×List n3) (List n9)) (List n9))).bind fun x=>x.go some fun j=>c4e i D7 j))) else some (j5.brk out))
theorem e1Q (i8:List l7) (res:V) (outs:t7) (x1:j9 (List n9) (List n9)) (hb1:HB cx Q4.X res outs x1 c4U c1i) (hr1:HR res outs x1 Q4.R Q4.O) (st1:j5 (List n9) ((List n9)×(List l9)×Int×Int×List n3) (List n9)) (hc1:t6 x1 (fun s:(List n9)×(List l9)×Int×Int×List n3=>j6 cx Q4.X res outs b7d (b8s i8 s.1 s.2.1 s.2.2.1 s.2.2.2.1 s.2.2.2.2)) st1) (out:List n9) (d7:List l9) (i:Int) (sAt:Int) (Q0:List n3) (h:a7E i8 out d7 i sAt Q0=some st1):j6 cx Q4.X res outs b7d (b8s i8 out d7 i sAt Q0) :=
 P0<|rg<|i9 3 h (fun h=>rg<|w8 p9 3 h fun z7 J6 h=>l8 M9 b71 5 h fun D7 h=>o6 d7<|rg<|D8 (I:=fun j:List n9=>j6 cx Q4.X res outs d3u (c9O i8 i D7 j)) h (fun j h=>e7H i8 i D7 res outs x1 hb1 hr1 st1 hc1 j h) (fun x2 h hc2=>rg<|i9 1 h (fun h=>rg<|Q9 p9 3 J6<|tk 6 []<|u6 h fun e1 h=>M1 7 31 31 2 16 G2 out z7.a5 e1<|om (1=[z7.a5].length) (by rfl)<|(s7 h hc2 fun hI=>sg [] [0,3,4,5] [(31,0),(2,0),(13,0)] hI)) (fun h=>(s7 h hc2 fun hI=>sg [] [0,3,4,5] [(1,0),(2,0),(13,0)] hI)))) (fun h=>(x5 h hc1 fun e=>sg [] [3] [(1,0)] (hb1 _ e)))
noncomputable def b6W (i8:List l7):Option (List n9) :=
 ((b4o i8).bind fun b2M=>(bif (!b2M) then some ([]:List n9) else ((a7A).bind fun U1=>((q7 (fun s:(List n9)×(List l9)×Int×Int×List n3=>a7E i8 s.1 s.2.1 s.2.2.1 s.2.2.2.1 s.2.2.2.2) (([]:List n9),U1.d7,0,U1.At,U1.f0)).bind fun x=>x.go (fun r=>some r) fun s=>c9N s))))
theorem d7M {i8:List l7} (r:List n9) (h:b6W i8=some r):o7 cx.P 30 [j8 7 p9 i8] (Q4.R r) (Q4.O r) :=
 q9 Q4.X Q4.c Q4.h (fun z=>p6<|tk 0 []<|rg<|l8 W7 c7h 1 h fun b2M h=>i9 2 h (fun h=>rg<|om (0=([]:List n9).length) (by simp)<|fe z h) (fun h=>rg<|l8 a5v b4Y 0 h fun U1 h=>rg<|z3 h fun x hl hr hb=>om ((.own 2 0 2 0 0:V) = .own 2 0 2 0 ([]:List n9).length) (by simp)<|sg [.is (.tmp 3) (.own 2 0 2 0 ([]:List n9).length)] [0,3,4,5] [(2,0),(8,0),(7,0)] (z4 (I:=fun s:(List n9)×(List l9)×Int×Int×List n3=>j6 cx Q4.X (Q4.R r) (Q4.O r) b7d (b8s i8 s.1 s.2.1 s.2.2.1 s.2.2.2.1 s.2.2.2.2)) hl fun s st h hc=>e1Q i8 _ _ x (fun s e=>e75 r s (hb s e)) (fun v e=>z6 Q4 (hr v e)) st hc s.1 s.2.1 s.2.2.1 s.2.2.2.1 s.2.2.2.2 h)))
noncomputable def X7:FS ((List (List m5))×Bool):=⟨31,Tryz.f31,[.val [some 1] [],.val [] []],[none,none],[.val P2 [],.val [some 2] []],fun r=>.tup [j8 1 a2S r.1,.b r.2],fun _=>[none,none],Tryz.func31⟩
noncomputable def c8O:List Item:=X7.k 4 [false]
noncomputable def d2o (out1:List (List m5)):St:=⟨(bs 6 (.own 1 0 1 0 out1.length::(bs 26 []))),[some [],some [m4 34 1 a2S out1]]⟩
noncomputable def c4b (out1:List (List m5)):Option ((List (List m5))×Bool) :=
 some (out1,true)
theorem e5A (r:(List (List m5))×Bool) (out1:List (List m5)) (h:c4b out1=some r):j6 cx X7.X (X7.R r) (X7.O r) c8O (d2o out1) :=
 P0<|rg<|o6 out1<|fe X7.h h
noncomputable def c0p:List Item:=X7.k 3 []
noncomputable def c0E (w:m3) (i8:List n9) (out:List (List m5)) (i:Int):St:=⟨(bs 1 (j8 2 G2 i8::(.ptr 1 0 0::(bs 3 (.own 2 0 1 0 out.length::(vi i::(bs 25 []))))))),[some [],some [.var 28 (M0 w)],some [m4 34 1 a2S out]]⟩
noncomputable def a6O (w:m3) (i8:List n9) (out:List (List m5)) (i:Int):Option (j5 ((List (List m5))×Bool) ((List (List m5))×Int) (List (List m5))) :=
 (bif decide (i<(i8.length:Int)) then ((idx i8 i).bind fun req=>((b3Z w req).bind fun U2=>(bif (!U2.2) then some (j5.ret ([],false)) else (t5 ((out.length+1) * 24≤140737488355328) (some (j5.nxt (out++[U2.1],n8 (i+1)))))))) else some (j5.brk out))
theorem e66 (w:m3) (i8:List n9) (res:V) (outs:t7) (x1:j9 ((List (List m5))×Bool) (List (List m5))) (hb1:HB cx X7.X res outs x1 c8O d2o) (hr1:HR res outs x1 X7.R X7.O) (st1:j5 ((List (List m5))×Bool) ((List (List m5))×Int) (List (List m5))) (hc1:t6 x1 (fun s:(List (List m5))×Int=>j6 cx X7.X res outs c0p (c0E w i8 s.1 s.2)) st1) (out:List (List m5)) (i:Int) (h:a6O w i8 out i=some st1):j6 cx X7.X res outs c0p (c0E w i8 out i) :=
 P0<|rg<|i9 3 h (fun h=>rg<|w8 G2 3 h fun req d2Z h=>l8 P8 c7E 5 h fun U2 h=>rg<|i9 1 h (fun h=>rg<|(x8 h hc1 fun e=>x7 X7.h (hr1 _ e))) (fun h=>rg<|o6 U2.1<|tk 2 [some 4]<|u6 h fun e1 h=>M1 3 23 34 1 24 a2S out U2.1 e1<|om (1=[U2.1].length) (by rfl)<|rg<|(x6 h hc1 fun hI=>sg [] [1,2,6,7] [(1,0),(23,0)] hI))) (fun h=>(x5 h hc1 fun e=>sg [] [6] [(2,0)] (hb1 _ e)))
noncomputable def c3R (w:m3) (i8:List n9):Option ((List (List m5))×Bool) :=
 ((q7 (fun s:(List (List m5))×Int=>a6O w i8 s.1 s.2) (([]:List (List m5)),0)).bind fun x=>x.go (fun r=>some r) fun s=>c4b s)
theorem e7L {w:m3} {i8:List n9} (r:(List (List m5))×Bool) (h:c3R w i8=some r):o7 cx.P 31 [.agg (a1J w),j8 2 G2 i8] (X7.R r) (X7.O r) :=
 q9 X7.X X7.c X7.h (fun z=>p6<|tk 0 [some 4]<|rg<|z3 h fun x hl hr hb=>om ((.own 4 0 1 0 0:V) = .own 4 0 1 0 ([]:List (List m5)).length) (by simp)<|sg [.is (.tmp 6) (.own 4 0 1 0 ([]:List (List m5)).length)] [1,2,6,7] [(1,0),(4,0)] (z4 (I:=fun s:(List (List m5))×Int=>j6 cx X7.X (X7.R r) (X7.O r) c0p (c0E w i8 s.1 s.2)) hl fun s st h hc=>e66 w i8 _ _ x (fun s e=>e5A r s (hb s e)) (fun v e=>z6 X7 (hr v e)) st hc s.1 s.2 h))
noncomputable def a8o:FS (List l9):=⟨66,Tryz.f66,[.val [some 2] [some 106]],[none],[.val [some 2] []],fun r=>o8 106 2 u5 r,fun _=>[none],Tryz.func66⟩
noncomputable def b3C (i8:List l9):Option (List l9) :=
 (t5 ((([]:List l9).length+i8.length) * 16≤140737488355328) (some (([]:List l9)++i8)))
theorem c98 {i8:List l9} (r:List l9) (h:b3C i8=some r):o7 cx.P 66 [j8 2 u5 i8] (a8o.R r) (a8o.O r) :=
 q9 a8o.X a8o.c a8o.h (fun z=>p6<|tk 0 []<|u6 h fun e1 h=>oa 4 0 2 ([]:List l9) i8<|oz 106 2 u5 ([]:List l9) i8<|om (0=([]:List l9).length) (by rfl)<|ob e1<|tl (2,{ v:=some (.own 4 0 2 0 (([]:List l9)++i8).length),e:=some (m4 106 2 u5 (([]:List l9)++i8)) })<|o6 (([]:List l9)++i8)<|fe z h)
noncomputable def a9s:FS ((List l9)×Int×Int):=⟨67,Tryz.f67,[.val [some 2] [],.val [] [],.val [] []],[none,none],[.val [some 2] [],.val [some 4] []],fun r=>.tup [j8 2 u5 r.1,vi r.2.1,vi r.2.2],fun _=>[none,none],Tryz.func67⟩
noncomputable def b67 (i8:List l9) (prog:List m5):Option ((List l9)×Int×Int) :=
 ((a8x i8 prog).bind fun D6=>(bif (D6.Code==3) then some (([]:List l9),0,3) else ((b3C i8).bind fun a7z=>((b1U a7z D6).bind fun a6Y=>some (a6Y,D6.c9,D6.Code)))))
theorem e39 {i8:List l9} {prog:List m5} (r:(List l9)×Int×Int) (h:b67 i8 prog=some r):o7 cx.P 67 [j8 2 u5 i8,j8 4 A3 prog] (a9s.R r) (a9s.O r) :=
 q9 a9s.X a9s.c a9s.h (fun z=>p6<|l8 N5 c6n 2 h fun D6 h=>rg<|i9 2 h (fun h=>rg<|tk 0 []<|om (0=([]:List l9).length) (by simp)<|fe z h) (fun h=>rg<|l8 a8o c98 1 h fun a7z h=>N1 T8 c8E 3 h fun a6Y h=>om (B8 (T8.R a6Y)∧E2 (T8.O a6Y)) ⟨(by simp [T8,B8,U4,Q5,V.simple,vi,o8,u5,eI]),F9 2⟩<|p8 a7z D6.a7 D6.a8 a6Y<|fe z h))
noncomputable def Z0:FS ((List l9)×List Int):=⟨32,Tryz.f32,[.val [some 2] [],.val [some 1] []],[none,none],[.val [some 2] [],.val [some 1] []],fun r=>.tup [j8 2 u5 r.1,j8 1 eI r.2],fun _=>[none,none],Tryz.func32⟩
noncomputable def d0a:List Item:=Z0.k 6 [false,false]
noncomputable def c8P (out1:List Int) (x_1:List l9):St:=⟨(bs 6 (.own 1 0 1 0 out1.length::(j8 2 u5 x_1::(bs 44 [])))),[some [],some [m4 3 1 eI out1]]⟩
noncomputable def c3n (out1:List Int) (x_1:List l9):Option ((List l9)×List Int) :=
 some (x_1,out1)
theorem e7o (r:(List l9)×List Int) (out1:List Int) (x_1:List l9) (h:c3n out1 x_1=some r):j6 cx Z0.X (Z0.R r) (Z0.O r) d0a (c8P out1 x_1) :=
 P0<|rg<|o6 out1<|fe Z0.h h
noncomputable def c3f:List Item:=Z0.k 5 [false]
noncomputable def c2w (z9:List (List m5)) (out:List Int) (x_:List l9) (i:Int):St:=⟨(bs 1 (j8 1 a2S z9::(bs 4 (.own 1 0 1 0 out.length::(j8 2 u5 x_::(vi i::(bs 43 []))))))),[some [],some [m4 3 1 eI out]]⟩
noncomputable def a9r (z9:List (List m5)) (out:List Int) (x_:List l9) (i:Int):Option (j5 ((List l9)×List Int) ((List Int)×(List l9)×Int) ((List Int)×List l9)) :=
 (bif decide (i<(z9.length:Int)) then ((idx z9 i).bind fun y=>((b67 x_ y).bind fun K6=>(bif (K6.2.2==3) then some (j5.ret (([]:List l9),([]:List Int))) else (t5 ((out.length+1) * 8≤140737488355328) (some (j5.nxt (out++[K6.2.1],K6.1,n8 (i+1)))))))) else some (j5.brk (out,x_)))
theorem d9C (z9:List (List m5)) (res:V) (outs:t7) (x1:j9 ((List l9)×List Int) ((List Int)×List l9)) (hb1:HB cx Z0.X res outs x1 d0a (fun s=>c8P s.1 s.2)) (hr1:HR res outs x1 Z0.R Z0.O) (st1:j5 ((List l9)×List Int) ((List Int)×(List l9)×Int) ((List Int)×List l9)) (hc1:t6 x1 (fun s:(List Int)×(List l9)×Int=>j6 cx Z0.X res outs c3f (c2w z9 s.1 s.2.1 s.2.2)) st1) (out:List Int) (x_:List l9) (i:Int) (h:a9r z9 out x_ i=some st1):j6 cx Z0.X res outs c3f (c2w z9 out x_ i) :=
 P0<|rg<|i9 3 h (fun h=>rg<|w8 a2S 3 h fun y hy h=>l8 a9s e39 5 h fun K6 h=>rg<|i9 1 h (fun h=>rg<|tk 0 []<|tk 1 []<|(x8 h hc1 fun e=>om (0=([]:List l9).length) (by simp)<|om (0=([]:List Int).length) (by simp)<|x7 Z0.h (hr1 _ e))) (fun h=>p6<|tk 2 []<|u6 h fun e1 h=>M1 3 26 3 1 8 eI out K6.2.1 e1<|om (1=[K6.2.1].length) (by rfl)<|rg<|(x6 h hc1 fun hI=>sg [] [1,6,7,8] [(26,0)] hI))) (fun h=>(x5 h hc1 fun e=>sg [] [6,7] [(1,0)] (hb1 _ e)))
noncomputable def b6r (i8:List l9) (z9:List (List m5)):Option ((List l9)×List Int) :=
 ((b0P i8).bind fun V6=>(bif (!V6) then some (([]:List l9),([]:List Int)) else (bif decide ((z9.length:Int)>100) then some (([]:List l9),([]:List Int)) else ((b3C i8).bind fun a7z=>((q7 (fun s:(List Int)×(List l9)×Int=>a9r z9 s.1 s.2.1 s.2.2) (([]:List Int),a7z,0)).bind fun x=>x.go (fun r=>some r) fun s=>c3n s.1 s.2)))))
theorem e8H {i8:List l9} {z9:List (List m5)} (r:(List l9)×List Int) (h:b6r i8 z9=some r):o7 cx.P 32 [j8 2 u5 i8,j8 1 a2S z9] (Z0.R r) (Z0.O r) :=
 q9 Z0.X Z0.c Z0.h (fun z=>p6<|l8 S9 c1G 1 h fun V6 h=>i9 3 h (fun h=>rg<|tk 0 []<|tk 1 []<|om (0=([]:List l9).length) (by simp)<|om (0=([]:List Int).length) (by simp)<|fe z h) (fun h=>i9 7 h (fun h=>rg<|tk 0 []<|tk 1 []<|om (0=([]:List l9).length) (by simp)<|om (0=([]:List Int).length) (by simp)<|fe z h) (fun h=>rg<|tk 0 []<|rg<|l8 a8o c98 1 h fun a7z h=>rg<|z3 h fun x hl hr hb=>o6 a7z<|om ((.own 11 0 1 0 0:V) = .own 11 0 1 0 ([]:List Int).length) (by simp)<|sg [.frz (.tmp 7) (none),.is (.tmp 6) (.own 11 0 1 0 ([]:List Int).length)] [1,6,7,8] [(11,0)] (z4 (I:=fun s:(List Int)×(List l9)×Int=>j6 cx Z0.X (Z0.R r) (Z0.O r) c3f (c2w z9 s.1 s.2.1 s.2.2)) hl fun s st h hc=>d9C z9 _ _ x (fun s e=>e7o r s.1 s.2 (hb s e)) (fun v e=>z6 Z0 (hr v e)) st hc s.1 s.2.1 s.2.2 h))))
noncomputable def U7:FS (Bool):=⟨34,Tryz.f34,[.val [] []],[none,none],[.val [some 2] [],.val [some 2] []],fun r=>.b r,fun _=>[none,none],Tryz.func34⟩
noncomputable def d3k:List Item:=U7.k 4 [false,false]
noncomputable def c8W:St:=⟨(bs 26 []),[some []]⟩
noncomputable def d37:Option Bool :=
 some true
theorem d8q (r:Bool) (h:d37=some r):j6 cx U7.X (U7.R r) (U7.O r) d3k (c8W) :=
 P0<|rg<|fe U7.h h
noncomputable def c2F:List Item:=U7.k 3 [false]
noncomputable def b9f (a:List l9) (b:List l9) (i:Int):St:=⟨(j8 2 u5 a::(j8 2 u5 b::(bs 3 (vi i::(bs 20 []))))),[some []]⟩
noncomputable def b8B (a:List l9) (b:List l9) (i:Int):Option (j5 Bool Int Unit) :=
 (bif decide (i<(a.length:Int)) then ((idx a i).bind fun box=>((idx b i).bind fun T1=>(bif (!(([box.i6,box.c9]:List Int)==[T1.i6,T1.c9])) then some (j5.ret false) else some (j5.nxt (n8 (i+1)))))) else some (j5.brk ()))
theorem e0R (a:List l9) (b:List l9) (res:V) (outs:t7) (x1:j9 Bool Unit) (hb1:HB cx U7.X res outs x1 d3k (fun s=>c8W)) (hr1:HR res outs x1 U7.R U7.O) (st1:j5 Bool Int Unit) (hc1:t6 x1 (fun s:Int=>j6 cx U7.X res outs c2F (b9f a b s)) st1) (i:Int) (h:b8B a b i=some st1):j6 cx U7.X res outs c2F (b9f a b i) :=
 P0<|rg<|i9 3 h (fun h=>rg<|w8 u5 2 h fun box a3d h=>w8 u5 6 h fun T1 a52 h=>i9 8 h (fun h=>rg<|(x8 h hc1 fun e=>x7 U7.h (hr1 _ e))) (fun h=>rg<|(x6 h hc1 fun hI=>sg [] [0,1,5] [] hI))) (fun h=>(x5 h hc1 fun e=>sg [] [] [] (hb1 _ e)))
noncomputable def b8p (a:List l9) (b:List l9):Option Bool :=
 (bif ((a.length:Int) != (b.length:Int)) then some false else ((q7 (fun s:Int=>b8B a b s) 0).bind fun x=>x.go (fun r=>some r) fun s=>d37))
theorem e5W {a:List l9} {b:List l9} (r:Bool) (h:b8p a b=some r):o7 cx.P 34 [j8 2 u5 a,j8 2 u5 b] (U7.R r) (U7.O r) :=
 q9 U7.X U7.c U7.h (fun z=>p6<|i9 4 h (fun h=>rg<|fe z h) (fun h=>rg<|z3 h fun x hl hr hb=>sg [] [0,1,5] [] (z4 (I:=fun s:Int=>j6 cx U7.X (U7.R r) (U7.O r) c2F (b9f a b s)) hl fun s st h hc=>e0R a b _ _ x (fun s e=>d8q r (hb s e)) (fun v e=>z6 U7 (hr v e)) st hc s h)))
noncomputable def N7:FS (Int):=⟨36,Tryz.f36,[.val [] []],[none,none],[.val [some 7] [],.val [] []],fun r=>vi r,fun _=>[none,none],Tryz.func36⟩
noncomputable def c29:List Item:=N7.k 3 [false]
noncomputable def b9S:St:=⟨(bs 33 []),[some []]⟩
noncomputable def c6y:Option Int :=
 some 0
theorem d74 (r:Int) (h:c6y=some r):j6 cx N7.X (N7.R r) (N7.O r) c29 (b9S) :=
 P0<|rg<|fe N7.h h
noncomputable def b6G:List Item:=N7.k 2 []
noncomputable def b7C (i8:List l7) (q:n9) (i:Int):St:=⟨(j8 7 p9 i8::(bs 2 (.ptr 1 0 0::(bs 1 (vi i::(bs 27 [])))))),[some [],some [.var 31 [vi q.b9,vi q.Seq]]]⟩
noncomputable def c83:List Item:=N7.k 4 [true,false]
noncomputable def d35 (i8:List l7) (q:n9) (i:Int):St:=⟨(j8 7 p9 i8::(bs 2 (.ptr 1 0 0::(bs 1 (vi i::(bs 27 [])))))),[some [],some [.var 31 [vi q.b9,vi q.Seq]]]⟩
noncomputable def c09 (i:Int):Option (j5 Int Int Unit) :=
 some (j5.nxt (n8 (i+1)))
theorem d8d (i8:List l7) (q:n9) (i:Int) (res:V) (outs:t7) (x1:j9 Int Unit) (hb1:HB cx N7.X res outs x1 c29 (fun s=>b9S)) (hr1:HR res outs x1 N7.R N7.O) (st1:j5 Int Int Unit) (hc1:t6 x1 (fun s:Int=>j6 cx N7.X res outs b6G (b7C i8 q s)) st1) (h:c09 i=some st1):j6 cx N7.X res outs c83 (d35 i8 q i) :=
 P0<|rg<|(x6 h hc1 fun hI=>sg [] [0,3,5] [(1,0)] hI)
noncomputable def a80 (i8:List l7) (q:n9) (i:Int):Option (j5 Int Int Unit) :=
 (bif decide (i<(i8.length:Int)) then ((((idx i8 i).bind fun z7=>(bif (!z7.g8) then (bif (([z7.a5.b9,z7.a5.Seq]:List Int)==[q.b9,q.Seq]) then some (j9.ret (j5.ret z7.a9.c9)) else some (j9.brk ())) else some (j9.brk ()))):Option (j9 (j5 Int Int Unit) Unit)).bind fun x=>x.go some fun j=>c09 i) else some (j5.brk ()))
theorem e8Q (i8:List l7) (q:n9) (res:V) (outs:t7) (x1:j9 Int Unit) (hb1:HB cx N7.X res outs x1 c29 (fun s=>b9S)) (hr1:HR res outs x1 N7.R N7.O) (st1:j5 Int Int Unit) (hc1:t6 x1 (fun s:Int=>j6 cx N7.X res outs b6G (b7C i8 q s)) st1) (i:Int) (h:a80 i8 q i=some st1):j6 cx N7.X res outs b6G (b7C i8 q i) :=
 P0<|rg<|i9 3 h (fun h=>D8 (I:=fun j:Unit=>j6 cx N7.X res outs c83 (d35 i8 q i)) h (fun j h=>d8d i8 q i res outs x1 hb1 hr1 st1 hc1 h) (fun x2 h hc2=>rg<|w8 p9 2 h fun z7 J6 h=>i9 6 h (fun h=>Q9 p9 9 J6<|i9 14 h (fun h=>rg<|Q9 p9 2 J6<|(D1 h hc2 fun h=>(x8 h hc1 fun e=>x7 N7.h (hr1 _ e)))) (fun h=>(s7 h hc2 fun hI=>sg [] [0,3,5] [(1,0)] hI))) (fun h=>(s7 h hc2 fun hI=>sg [] [0,3,5] [(1,0)] hI)))) (fun h=>(x5 h hc1 fun e=>sg [] [] [] (hb1 _ e)))
noncomputable def b04 (i8:List l7) (q:n9):Option Int :=
 ((q7 (fun s:Int=>a80 i8 q s) 0).bind fun x=>x.go (fun r=>some r) fun s=>c6y)
theorem d18 {i8:List l7} {q:n9} (r:Int) (h:b04 i8 q=some r):o7 cx.P 36 [j8 7 p9 i8,.agg (G2 q)] (N7.R r) (N7.O r) :=
 q9 N7.X N7.c N7.h (fun z=>p6<|z3 h fun x hl hr hb=>sg [] [0,3,5] [(1,0)] (z4 (I:=fun s:Int=>j6 cx N7.X (N7.R r) (N7.O r) b6G (b7C i8 q s)) hl fun s st h hc=>e8Q i8 q _ _ x (fun s e=>d74 r (hb s e)) (fun v e=>z6 N7 (hr v e)) st hc s h))
noncomputable def R5:FS (Bool):=⟨10,Tryz.f10,[.val [] []],[none],[.val P2 []],fun r=>.b r,fun _=>[none],Tryz.func10⟩
noncomputable def d2c:List Item:=R5.k 10 [false,false,false,false]
noncomputable def d5v:St:=⟨(bs 61 []),[some []]⟩
noncomputable def c8M:Option Bool :=
 some true
theorem d71 (r:Bool) (h:c8M=some r):j6 cx R5.X (R5.R r) (R5.O r) d2c (d5v) :=
 P0<|rg<|fe R5.h h
noncomputable def c4B:List Item:=R5.k 9 [false,false,false]
noncomputable def c2P (A2:List l7) (z8:List n9) (F8:(List l9)×List Int) (i:Int):St:=⟨(bs 3 (j8 7 p9 A2::(j8 2 G2 z8::(bs 3 (j8 1 eI F8.2::(vi i::(bs 51 []))))))),[some []]⟩
noncomputable def b8L (A2:List l7) (z8:List n9) (F8:(List l9)×List Int) (i:Int):Option (j5 Bool Int Unit) :=
 (bif decide (i<(z8.length:Int)) then ((idx F8.2 i).bind fun y=>((idx z8 i).bind fun req=>((b04 A2 req).bind fun b4v=>(bif (y != b4v) then some (j5.ret false) else some (j5.nxt (n8 (i+1))))))) else some (j5.brk ()))
theorem e5k (A2:List l7) (z8:List n9) (F8:(List l9)×List Int) (res:V) (outs:t7) (x1:j9 Bool Unit) (hb1:HB cx R5.X res outs x1 d2c (fun s=>d5v)) (hr1:HR res outs x1 R5.R R5.O) (st1:j5 Bool Int Unit) (hc1:t6 x1 (fun s:Int=>j6 cx R5.X res outs c4B (c2P A2 z8 F8 s)) st1) (i:Int) (h:b8L A2 z8 F8 i=some st1):j6 cx R5.X res outs c4B (c2P A2 z8 F8 i) :=
 P0<|rg<|i9 3 h (fun h=>rg<|w8 eI 2 h fun y hy h=>w8 G2 7 h fun req d2Z h=>l8 N7 d18 9 h fun b4v h=>i9 10 h (fun h=>rg<|(x8 h hc1 fun e=>x7 R5.h (hr1 _ e))) (fun h=>rg<|(x6 h hc1 fun hI=>sg [] [3,4,8,9] [] hI))) (fun h=>(x5 h hc1 fun e=>sg [] [] [] (hb1 _ e)))
noncomputable def b5K (w:m3):Option Bool :=
 ((a66 w).bind fun E1=>(bif (!E1) then some false else ((b1d w).bind fun A2=>((b6W A2).bind fun z8=>((c3R w z8).bind fun c2G=>(bif (!c2G.2) then some false else ((b3R).bind fun a13=>((b6r a13 c2G.1).bind fun F8=>(bif ((F8.2.length:Int) != (z8.length:Int)) then some false else ((b1K A2).bind fun a4h=>((b8p F8.1 a4h.d7).bind fun a5I=>(bif (!a5I) then some false else ((q7 (fun s:Int=>b8L A2 z8 F8 s) 0).bind fun x=>x.go (fun r=>some r) fun s=>c8M)))))))))))))
theorem e2y {w:m3} (r:Bool) (h:b5K w=some r):o7 cx.P 10 [.agg (a1J w)] (R5.R r) (R5.O r) :=
 q9 R5.X R5.c R5.h (fun z=>p6<|l8 A9 b1b 1 h fun E1 h=>i9 2 h (fun h=>rg<|fe z h) (fun h=>rg<|l8 O2 c8I 1 h fun A2 h=>rg<|l8 Q4 d7M 1 h fun z8 h=>rg<|l8 X7 e7L 2 h fun c2G h=>rg<|i9 1 h (fun h=>rg<|fe z h) (fun h=>rg<|l8 a7W c6D 0 h fun a13 h=>l8 Z0 e8H 2 h fun F8 h=>o6 a13<|rg<|i9 5 h (fun h=>rg<|fe z h) (fun h=>l8 X0 d6f 8 h fun a4h h=>N1 U7 e5W 10 h fun a5I h=>om (B8 (U7.R a5I)∧E2 (U7.O a5I)) ⟨rfl,F9 2⟩<|o6 a4h.d7<|i9 12 h (fun h=>rg<|fe z h) (fun h=>rg<|z3 h fun x hl hr hb=>sg [] [3,4,8,9] [] (z4 (I:=fun s:Int=>j6 cx R5.X (R5.R r) (R5.O r) c4B (c2P A2 z8 F8 s)) hl fun s st h hc=>e5k A2 z8 F8 _ _ x (fun s e=>d71 r (hb s e)) (fun v e=>z6 R5 (hr v e)) st hc s h))))))
noncomputable def K8:FS (Bool):=⟨11,Tryz.f11,[.val [] []],[none],[.val P2 []],fun r=>.b r,fun _=>[none],Tryz.func11⟩
noncomputable def b9U:List Item:=K8.k 6 [false,false]
noncomputable def c1V:St:=⟨(bs 56 []),[some []]⟩
noncomputable def d3E:Option Bool :=
 some true
theorem e6S (r:Bool) (h:d3E=some r):j6 cx K8.X (K8.R r) (K8.O r) b9U (c1V) :=
 P0<|rg<|fe K8.h h
noncomputable def b5Q:List Item:=K8.k 5 [false]
noncomputable def b44 (w:m3) (A2:List l7) (q8:o9×List Int) (v23:Int):St:=⟨(bs 3 (j8 7 p9 A2::(bs 1 (.own 1 0 1 0 q8.2.length::(bs 15 (j8 5 B3 w.Told::(vi (w.Told.length:Int)::(vi v23::(bs 32 []))))))))),[some [],some [m4 3 1 eI q8.2]]⟩
noncomputable def d1Y:List Item:=K8.k 12 [false,true,false,true]
noncomputable def d1P (w:m3) (A2:List l7) (q8:o9×List Int) (v23:Int) (u9:m7) (val:Int):St:=⟨(bs 3 (j8 7 p9 A2::(bs 1 (.own 1 0 1 0 q8.2.length::(bs 1 (.ptr 2 0 0::(bs 1 (vi val::(bs 11 (j8 5 B3 w.Told::(vi (w.Told.length:Int)::(vi v23::(bs 32 []))))))))))))),[some [],some [m4 3 1 eI q8.2],some [.var 76 [vi u9.Node,vi u9.a5.b9,vi u9.a5.Seq,vi u9.Code,vi u9.c9]]]⟩
noncomputable def c0G (v23:Int) (u9:m7) (val:Int):Option (j5 Bool Int Unit) :=
 (bif (u9.c9 != val) then some (j5.ret false) else some (j5.nxt (n8 (v23+1))))
theorem e6o (w:m3) (A2:List l7) (q8:o9×List Int) (v23:Int) (u9:m7) (res:V) (outs:t7) (x1:j9 Bool Unit) (hb1:HB cx K8.X res outs x1 b9U (fun s=>c1V)) (hr1:HR res outs x1 K8.R K8.O) (st1:j5 Bool Int Unit) (hc1:t6 x1 (fun s:Int=>j6 cx K8.X res outs b5Q (b44 w A2 q8 s)) st1) (val:Int) (h:c0G v23 u9 val=some st1):j6 cx K8.X res outs d1Y (d1P w A2 q8 v23 u9 val) :=
 P0<|rg<|i9 3 h (fun h=>rg<|(x8 h hc1 fun e=>x7 K8.h (hr1 _ e))) (fun h=>rg<|(x6 h hc1 fun hI=>sg [] [3,5,21,22,23] [(1,0)] hI))
noncomputable def b7t (w:m3) (A2:List l7) (q8:o9×List Int) (v23:Int):Option (j5 Bool Int Unit) :=
 (bif decide (v23<(w.Told.length:Int)) then ((idx w.Told v23).bind fun u9=>((b13 A2 u9.a5).bind fun first=>(bif decide (first<0) then some (j5.ret false) else ((idx q8.2 first).bind fun y=>(bif (y != u9.Code) then some (j5.ret false) else (((bif (u9.Code==0) then ((idx A2 first).bind fun z7=>some (j9.brk z7.a9.c9)) else some (j9.brk 0)):Option (j9 (j5 Bool Int Unit) Int)).bind fun x=>x.go some fun j=>c0G v23 u9 j)))))) else some (j5.brk ()))
theorem e0N (w:m3) (A2:List l7) (q8:o9×List Int) (res:V) (outs:t7) (x1:j9 Bool Unit) (hb1:HB cx K8.X res outs x1 b9U (fun s=>c1V)) (hr1:HR res outs x1 K8.R K8.O) (st1:j5 Bool Int Unit) (hc1:t6 x1 (fun s:Int=>j6 cx K8.X res outs b5Q (b44 w A2 q8 s)) st1) (v23:Int) (h:b7t w A2 q8 v23=some st1):j6 cx K8.X res outs b5Q (b44 w A2 q8 v23) :=
 P0<|rg<|i9 0 h (fun h=>rg<|w8 B3 0 h fun u9 a3l h=>rg<|l8 N6 c7Y 3 h fun first h=>rg<|i9 2 h (fun h=>rg<|(x8 h hc1 fun e=>x7 K8.h (hr1 _ e))) (fun h=>C4 h fun y hy h=>E6 hy<|T3 eI 6 hy<|i9 10 h (fun h=>rg<|(x8 h hc1 fun e=>x7 K8.h (hr1 _ e))) (fun h=>rg<|D8 (I:=fun j:Int=>j6 cx K8.X res outs d1Y (d1P w A2 q8 v23 u9 j)) h (fun j h=>e6o w A2 q8 v23 u9 res outs x1 hb1 hr1 st1 hc1 j h) (fun x2 h hc2=>rg<|i9 2 h (fun h=>rg<|w8 p9 2 h fun z7 J6 h=>(s7 h hc2 fun hI=>sg [] [3,5,7,9,21,22,23] [(1,0),(5,0)] hI)) (fun h=>(s7 h hc2 fun hI=>sg [] [3,5,7,9,21,22,23] [(1,0),(5,0)] hI)))))) (fun h=>(x5 h hc1 fun e=>sg [] [] [] (hb1 _ e)))
noncomputable def b7v (w:m3):Option Bool :=
 ((a84 w).bind fun E1=>(bif (!E1) then some false else ((a81 w).bind fun A2=>((b01 A2).bind fun q8=>((q7 (fun s:Int=>b7t w A2 q8 s) 0).bind fun x=>x.go (fun r=>some r) fun s=>d3E)))))
theorem e8L {w:m3} (r:Bool) (h:b7v w=some r):o7 cx.P 11 [.agg (a1J w)] (K8.R r) (K8.O r) :=
 q9 K8.X K8.c K8.h (fun z=>p6<|l8 B7 c3e 1 h fun E1 h=>i9 2 h (fun h=>rg<|fe z h) (fun h=>rg<|l8 N9 c6h 1 h fun A2 h=>rg<|l8 W5 c5t 1 h fun q8 h=>rg<|z3 h fun x hl hr hb=>sg [] [3,5,21,22,23] [(10,2)] (z4 (I:=fun s:Int=>j6 cx K8.X (K8.R r) (K8.O r) b5Q (b44 w A2 q8 s)) hl fun s st h hc=>e0N w A2 q8 _ _ x (fun s e=>e6S r (hb s e)) (fun v e=>z6 K8 (hr v e)) st hc s h)))
noncomputable def P5:FS (Int×Bool):=⟨38,Tryz.f38,[.val [] [],.val [] []],[none,none],[.val [some 7] [],.val [] []],fun r=>.tup [vi r.1,.b r.2],fun _=>[none,none],Tryz.func38⟩
noncomputable def c3H:List Item:=P5.k 4 [false]
noncomputable def c1k:St:=⟨(bs 43 []),[some []]⟩
noncomputable def d1e:Option (Int×Bool) :=
 some (0,false)
theorem e27 (r:Int×Bool) (h:d1e=some r):j6 cx P5.X (P5.R r) (P5.O r) c3H (c1k) :=
 P0<|rg<|fe P5.h h
noncomputable def b8N:List Item:=P5.k 3 []
noncomputable def b49 (i8:List l7) (q:n9) (d7:List l9) (i:Int) (sAt:Int) (Q0:List n3):St:=⟨(j8 7 p9 i8::(bs 2 (.ptr 1 0 0::(bs 2 (.ptr 2 0 0::(vi i::(bs 35 []))))))),[some [],some [.var 31 [vi q.b9,vi q.Seq]],some [.var 62 [vi sAt,.own 3 0 2 0 d7.length,j8 4 B5 Q0]],some [m4 106 2 u5 d7]]⟩
noncomputable def d3A:List Item:=P5.k 7 [true,false]
noncomputable def d50 (i8:List l7) (q:n9) (i:Int) (D7:o9×Int):St:=⟨(j8 7 p9 i8::(bs 2 (.ptr 1 0 0::(bs 2 (.ptr 2 0 0::(vi i::(bs 35 []))))))),[some [],some [.var 31 [vi q.b9,vi q.Seq]],some [.var 62 [vi D7.1.At,.own 3 0 2 0 D7.1.d7.length,j8 4 B5 D7.1.f0]],some [m4 106 2 u5 D7.1.d7]]⟩
noncomputable def c2h (i:Int) (D7:o9×Int):Option (j5 (Int×Bool) ((List l9)×Int×Int×List n3) Unit) :=
 some (j5.nxt (D7.1.d7,n8 (i+1),D7.1.At,D7.1.f0))
theorem e1g (i8:List l7) (q:n9) (i:Int) (D7:o9×Int) (res:V) (outs:t7) (x1:j9 (Int×Bool) Unit) (hb1:HB cx P5.X res outs x1 c3H (fun s=>c1k)) (hr1:HR res outs x1 P5.R P5.O) (st1:j5 (Int×Bool) ((List l9)×Int×Int×List n3) Unit) (hc1:t6 x1 (fun s:(List l9)×Int×Int×List n3=>j6 cx P5.X res outs b8N (b49 i8 q s.1 s.2.1 s.2.2.1 s.2.2.2)) st1) (h:c2h i D7=some st1):j6 cx P5.X res outs d3A (d50 i8 q i D7) :=
 P0<|rg<|(x6 h hc1 fun hI=>sg [] [0,3,6,7] [(1,0),(2,0),(3,0)] hI)
noncomputable def b05 (i8:List l7) (q:n9) (d7:List l9) (i:Int) (sAt:Int) (Q0:List n3):Option (j5 (Int×Bool) ((List l9)×Int×Int×List n3) Unit) :=
 (bif decide (i<(i8.length:Int)) then ((idx i8 i).bind fun z7=>((a7C (o9.mk sAt d7 Q0) z7).bind fun D7=>(((bif (!z7.g8) then (bif (([z7.a5.b9,z7.a5.Seq]:List Int)==[q.b9,q.Seq]) then some (j9.ret (j5.ret (D7.2,true))) else some (j9.brk ())) else some (j9.brk ())):Option (j9 (j5 (Int×Bool) ((List l9)×Int×Int×List n3) Unit) Unit)).bind fun x=>x.go some fun j=>c2h i D7))) else some (j5.brk ()))
theorem e8J (i8:List l7) (q:n9) (res:V) (outs:t7) (x1:j9 (Int×Bool) Unit) (hb1:HB cx P5.X res outs x1 c3H (fun s=>c1k)) (hr1:HR res outs x1 P5.R P5.O) (st1:j5 (Int×Bool) ((List l9)×Int×Int×List n3) Unit) (hc1:t6 x1 (fun s:(List l9)×Int×Int×List n3=>j6 cx P5.X res outs b8N (b49 i8 q s.1 s.2.1 s.2.2.1 s.2.2.2)) st1) (d7:List l9) (i:Int) (sAt:Int) (Q0:List n3) (h:b05 i8 q d7 i sAt Q0=some st1):j6 cx P5.X res outs b8N (b49 i8 q d7 i sAt Q0) :=
 P0<|rg<|i9 3 h (fun h=>rg<|w8 p9 3 h fun z7 J6 h=>l8 M9 b71 5 h fun D7 h=>o6 d7<|rg<|D8 (I:=fun j:Unit=>j6 cx P5.X res outs d3A (d50 i8 q i D7)) h (fun j h=>e1g i8 q i D7 res outs x1 hb1 hr1 st1 hc1 h) (fun x2 h hc2=>rg<|Q9 p9 2 J6<|i9 6 h (fun h=>Q9 p9 9 J6<|i9 14 h (fun h=>rg<|(D1 h hc2 fun h=>(x8 h hc1 fun e=>x7 P5.h (hr1 _ e)))) (fun h=>(s7 h hc2 fun hI=>sg [] [0,3,6,7] [(1,0),(2,0),(13,0)] hI))) (fun h=>(s7 h hc2 fun hI=>sg [] [0,3,6,7] [(1,0),(2,0),(13,0)] hI)))) (fun h=>(x5 h hc1 fun e=>sg [] [] [] (hb1 _ e)))
noncomputable def b7n (i8:List l7) (q:n9):Option (Int×Bool) :=
 ((a7A).bind fun U1=>((q7 (fun s:(List l9)×Int×Int×List n3=>b05 i8 q s.1 s.2.1 s.2.2.1 s.2.2.2) (U1.d7,0,U1.At,U1.f0)).bind fun x=>x.go (fun r=>some r) fun s=>d1e))
theorem e5s {i8:List l7} {q:n9} (r:Int×Bool) (h:b7n i8 q=some r):o7 cx.P 38 [j8 7 p9 i8,.agg (G2 q)] (P5.R r) (P5.O r) :=
 q9 P5.X P5.c P5.h (fun z=>p6<|l8 a5v b4Y 0 h fun U1 h=>rg<|z3 h fun x hl hr hb=>sg [] [0,3,6,7] [(1,0),(5,0),(4,0)] (z4 (I:=fun s:(List l9)×Int×Int×List n3=>j6 cx P5.X (P5.R r) (P5.O r) b8N (b49 i8 q s.1 s.2.1 s.2.2.1 s.2.2.2)) hl fun s st h hc=>e8J i8 q _ _ x (fun s e=>e27 r (hb s e)) (fun v e=>z6 P5 (hr v e)) st hc s.1 s.2.1 s.2.2.1 s.2.2.2 h))
noncomputable def K9:FS (Bool):=⟨12,Tryz.f12,[.val [] []],[none],[.val P2 []],fun r=>.b r,fun _=>[none],Tryz.func12⟩
noncomputable def c1t:List Item:=K9.k 5 [false,false]
noncomputable def c0o:St:=⟨(bs 53 []),[some []]⟩
noncomputable def d58:Option Bool :=
 some true
theorem e1k (r:Bool) (h:d58=some r):j6 cx K9.X (K9.R r) (K9.O r) c1t (c0o) :=
 P0<|rg<|fe K9.h h
noncomputable def b6H:List Item:=K9.k 4 [false]
noncomputable def b8d (w:m3) (A2:List l7) (i:Int):St:=⟨(bs 1 (.ptr 1 0 0::(bs 1 (j8 7 p9 A2::(vi i::(bs 48 [])))))),[some [],some [.var 28 (M0 w)]]⟩
noncomputable def c7v:List Item:=K9.k 10 [false,true,true]
noncomputable def d6j (w:m3) (A2:List l7) (i:Int) (u9:m7) (a2n:Int×Bool) (v_:Int):St:=⟨(bs 1 (.ptr 1 0 0::(bs 1 (j8 7 p9 A2::(vi i::(.ptr 2 0 0::(vi a2n.1::(.b a2n.2::(vi v_::(bs 44 [])))))))))),[some [],some [.var 28 (M0 w)],some [.var 76 [vi u9.Node,vi u9.a5.b9,vi u9.a5.Seq,vi u9.Code,vi u9.c9]]]⟩
noncomputable def c3t (i:Int) (u9:m7) (a2n:Int×Bool) (v_:Int):Option (j5 Bool Int Unit) :=
 (bif (!a2n.2) then some (j5.ret false) else (bif (a2n.1 != u9.Code) then some (j5.ret false) else (bif (v_ != u9.c9) then some (j5.ret false) else some (j5.nxt (n8 (i+1))))))
theorem e0F (w:m3) (A2:List l7) (i:Int) (u9:m7) (a2n:Int×Bool) (res:V) (outs:t7) (x1:j9 Bool Unit) (hb1:HB cx K9.X res outs x1 c1t (fun s=>c0o)) (hr1:HR res outs x1 K9.R K9.O) (st1:j5 Bool Int Unit) (hc1:t6 x1 (fun s:Int=>j6 cx K9.X res outs b6H (b8d w A2 s)) st1) (v_:Int) (h:c3t i u9 a2n v_=some st1):j6 cx K9.X res outs c7v (d6j w A2 i u9 a2n v_) :=
 P0<|rg<|i9 2 h (fun h=>rg<|(x8 h hc1 fun e=>x7 K9.h (hr1 _ e))) (fun h=>i9 8 h (fun h=>rg<|(x8 h hc1 fun e=>x7 K9.h (hr1 _ e))) (fun h=>i9 13 h (fun h=>rg<|(x8 h hc1 fun e=>x7 K9.h (hr1 _ e))) (fun h=>rg<|(x6 h hc1 fun hI=>sg [] [1,3,4] [(1,0)] hI))))
noncomputable def b87 (w:m3) (A2:List l7) (i:Int):Option (j5 Bool Int Unit) :=
 (bif decide (i<(w.Told.length:Int)) then ((idx w.Told i).bind fun u9=>((b7n A2 u9.a5).bind fun a2n=>(((bif (a2n.1==0) then ((b04 A2 u9.a5).bind fun b4v=>some (j9.brk b4v)) else some (j9.brk 0)):Option (j9 (j5 Bool Int Unit) Int)).bind fun x=>x.go some fun j=>c3t i u9 a2n j))) else some (j5.brk ()))
theorem d9o (w:m3) (A2:List l7) (res:V) (outs:t7) (x1:j9 Bool Unit) (hb1:HB cx K9.X res outs x1 c1t (fun s=>c0o)) (hr1:HR res outs x1 K9.R K9.O) (st1:j5 Bool Int Unit) (hc1:t6 x1 (fun s:Int=>j6 cx K9.X res outs b6H (b8d w A2 s)) st1) (i:Int) (h:b87 w A2 i=some st1):j6 cx K9.X res outs b6H (b8d w A2 i) :=
 P0<|rg<|i9 4 h (fun h=>rg<|w8 B3 3 h fun u9 a3l h=>rg<|l8 P5 e5s 3 h fun a2n h=>rg<|D8 (I:=fun j:Int=>j6 cx K9.X res outs c7v (d6j w A2 i u9 a2n j)) h (fun j h=>e0F w A2 i u9 a2n res outs x1 hb1 hr1 st1 hc1 j h) (fun x2 h hc2=>rg<|i9 1 h (fun h=>rg<|l8 N7 d18 3 h fun b4v h=>(s7 h hc2 fun hI=>sg [] [1,3,4,5,6,7,8] [(1,0),(12,0)] hI)) (fun h=>(s7 h hc2 fun hI=>sg [] [1,3,4,5,6,7,8] [(1,0),(12,0)] hI)))) (fun h=>(x5 h hc1 fun e=>sg [] [] [] (hb1 _ e)))
noncomputable def b48 (w:m3):Option Bool :=
 ((a66 w).bind fun E1=>(bif (!E1) then some false else ((b1d w).bind fun A2=>((q7 (fun s:Int=>b87 w A2 s) 0).bind fun x=>x.go (fun r=>some r) fun s=>d58))))
theorem d9r {w:m3} (r:Bool) (h:b48 w=some r):o7 cx.P 12 [.agg (a1J w)] (K9.R r) (K9.O r) :=
 q9 K9.X K9.c K9.h (fun z=>p6<|l8 A9 b1b 1 h fun E1 h=>i9 2 h (fun h=>rg<|fe z h) (fun h=>rg<|l8 O2 c8I 1 h fun A2 h=>rg<|z3 h fun x hl hr hb=>sg [] [1,3,4] [(1,0)] (z4 (I:=fun s:Int=>j6 cx K9.X (K9.R r) (K9.O r) b6H (b8d w A2 s)) hl fun s st h hc=>d9o w A2 _ _ x (fun s e=>e1k r (hb s e)) (fun v e=>z6 K9 (hr v e)) st hc s h)))
noncomputable def T0:FS (Bool):=⟨13,Tryz.f13,[.val [] []],[none],[.val P2 []],fun r=>.b r,fun _=>[none],Tryz.func13⟩
noncomputable def d2M:List Item:=T0.k 5 [false,false]
noncomputable def d2i:St:=⟨(bs 25 []),[some []]⟩
noncomputable def c8r:Option Bool :=
 some true
theorem e6A (r:Bool) (h:c8r=some r):j6 cx T0.X (T0.R r) (T0.O r) d2M (d2i) :=
 P0<|rg<|fe T0.h h
noncomputable def c3Q:List Item:=T0.k 4 [false]
noncomputable def c1d (w:m3) (w1:List n9) (v13:Int):St:=⟨(bs 3 (.mp 1 0::(bs 7 (j8 5 B3 w.Told::(vi (w.Told.length:Int)::(vi v13::(bs 11 []))))))),[some [],some [.map 79 2 (w1.map fun x=>(H0 x,.b true))]]⟩
noncomputable def b4t (w:m3) (w1:List n9) (v13:Int):Option (j5 Bool ((List n9)×Int) Unit) :=
 (bif decide (v13<(w.Told.length:Int)) then ((idx w.Told v13).bind fun u9=>(bif (w1.any fun x=>H0 u9.a5==H0 x) then some (j5.ret false) else some (j5.nxt (a8O H0 w1 u9.a5,n8 (v13+1))))) else some (j5.brk ()))
theorem d8T (w:m3) (res:V) (outs:t7) (x1:j9 Bool Unit) (hb1:HB cx T0.X res outs x1 d2M (fun s=>d2i)) (hr1:HR res outs x1 T0.R T0.O) (st1:j5 Bool ((List n9)×Int) Unit) (hc1:t6 x1 (fun s:(List n9)×Int=>j6 cx T0.X res outs c3Q (c1d w s.1 s.2)) st1) (w1:List n9) (v13:Int) (h:b4t w w1 v13=some st1):j6 cx T0.X res outs c3Q (c1d w w1 v13) :=
 P0<|rg<|i9 0 h (fun h=>rg<|w8 B3 0 h fun u9 a3l h=>rg<|cdT (3,{ v:=some (.b (w1.any fun x=>H0 u9.a5==H0 x)) }) h (fun _ h=>om (a32 (w1.map fun x=>(H0 x,.b true)) (H0 u9.a5) (.b false) = .b (w1.any fun x=>H0 u9.a5==H0 x)) (c5M H0 _ _)<|rg<|(x8 h hc1 fun e=>x7 T0.h (hr1 _ e))) (fun _ h=>om (a32 (w1.map fun x=>(H0 x,.b true)) (H0 u9.a5) (.b false) = .b (w1.any fun x=>H0 u9.a5==H0 x)) (c5M H0 _ _)<|rg<|om (s6.map 79 2 (a2O (w1.map fun x=>(H0 x,.b true)) (H0 u9.a5) (.b true)) = .map 79 2 ((a8O H0 w1 u9.a5).map fun x=>(H0 x,.b true))) (congrArg (s6.map 79 2) (d14 H0 _ _))<|tl (3,{ e:=some (.map 79 2 ((a8O H0 w1 u9.a5).map fun x=>(H0 x,.b true))) })<|rg<|(x6 h hc1 fun hI=>sg [] [3,11,12,13] [(1,0)] hI))) (fun h=>(x5 h hc1 fun e=>sg [] [] [] (hb1 _ e)))
noncomputable def b2u (w:m3):Option Bool :=
 ((a84 w).bind fun E1=>(bif (!E1) then some false else ((q7 (fun s:(List n9)×Int=>b4t w s.1 s.2) (([]:List n9),0)).bind fun x=>x.go (fun r=>some r) fun s=>c8r)))
theorem e6q {w:m3} (r:Bool) (h:b2u w=some r):o7 cx.P 13 [.agg (a1J w)] (T0.R r) (T0.O r) :=
 q9 T0.X T0.c T0.h (fun z=>p6<|l8 B7 c3e 1 h fun E1 h=>i9 2 h (fun h=>rg<|fe z h) (fun h=>p6<|z3 h fun x hl hr hb=>sg [] [3,11,12,13] [(6,0)] (z4 (I:=fun s:(List n9)×Int=>j6 cx T0.X (T0.R r) (T0.O r) c3Q (c1d w s.1 s.2)) hl fun s st h hc=>d8T w _ _ x (fun s e=>e6A r (hb s e)) (fun v e=>z6 T0 (hr v e)) st hc s.1 s.2 h)))
noncomputable def I7:FS (Bool):=⟨14,Tryz.f14,[.val [] []],[none],[.val P2 []],fun r=>.b r,fun _=>[none],Tryz.func14⟩
noncomputable def c1X:List Item:=I7.k 3 [false]
noncomputable def c4H (w:m3):St:=⟨(bs 1 (.ptr 1 0 0::(bs 30 []))),[some [],some [.var 28 (M0 w)]]⟩
noncomputable def b9I (w:m3):Option Bool :=
 ((a66 w).bind fun E1=>some E1)
theorem e8X (w:m3) (r:Bool) (h:b9I w=some r):j6 cx I7.X (I7.R r) (I7.O r) c1X (c4H w) :=
 P0<|rg<|l8 A9 b1b 1 h fun E1 h=>fe I7.h h
noncomputable def b7i:List Item:=I7.k 2 []
noncomputable def b7e (w:m3) (i:Int):St:=⟨(bs 1 (.ptr 1 0 0::(bs 1 (vi i::(bs 28 []))))),[some [],some [.var 28 (M0 w)]]⟩
noncomputable def d55:List Item:=I7.k 5 [true,false]
noncomputable def c9s (w:m3) (i:Int):St:=⟨(bs 1 (.ptr 1 0 0::(bs 1 (vi i::(bs 28 []))))),[some [],some [.var 28 (M0 w)]]⟩
noncomputable def d09 (i:Int):Option (j5 Bool Int Unit) :=
 some (j5.nxt (n8 (i+1)))
theorem e7r (w:m3) (i:Int) (res:V) (outs:t7) (x1:j9 Bool Unit) (hb1:HB cx I7.X res outs x1 c1X (fun s=>c4H w)) (hr1:HR res outs x1 I7.R I7.O) (st1:j5 Bool Int Unit) (hc1:t6 x1 (fun s:Int=>j6 cx I7.X res outs b7i (b7e w s)) st1) (h:d09 i=some st1):j6 cx I7.X res outs d55 (c9s w i) :=
 P0<|rg<|(x6 h hc1 fun hI=>sg [] [1,3] [(1,0)] hI)
noncomputable def c4l:List Item:=I7.k 4 [true]
noncomputable def c48 (w:m3) (i:Int) (k:Int):St:=⟨(bs 1 (.ptr 1 0 0::(bs 1 (vi i::(vi k::(bs 27 [])))))),[some [],some [.var 28 (M0 w)]]⟩
noncomputable def b1I (w:m3) (i:Int) (k:Int):Option (j5 Bool Int Unit) :=
 (bif decide (k<i) then ((idx w.Told k).bind fun u9=>((idx w.Told i).bind fun c3h=>(bif (([u9.a5.b9,u9.a5.Seq]:List Int)==[c3h.a5.b9,c3h.a5.Seq]) then some (j5.ret false) else some (j5.nxt (n8 (k+1)))))) else some (j5.brk ()))
theorem e6z (w:m3) (i:Int) (res:V) (outs:t7) (x2:j9 Bool Unit) (hb2:HB cx I7.X res outs x2 d55 (fun s=>c9s w i)) (hr2:HR res outs x2 I7.R I7.O) (st2:j5 Bool Int Unit) (hc2:t6 x2 (fun s:Int=>j6 cx I7.X res outs c4l (c48 w i s)) st2) (k:Int) (h:b1I w i k=some st2):j6 cx I7.X res outs c4l (c48 w i k) :=
 P0<|rg<|i9 2 h (fun h=>rg<|w8 B3 3 h fun u9 a3l h=>w8 B3 9 h fun c3h e9w h=>i9 12 h (fun h=>rg<|(x8 h hc2 fun e=>x7 I7.h (hr2 _ e))) (fun h=>rg<|(x6 h hc2 fun hI=>sg [] [1,3,4] [(1,0)] hI))) (fun h=>(x5 h hc2 fun e=>sg [] [1,3] [(1,0)] (hb2 _ e)))
noncomputable def b5S (w:m3) (i:Int):Option (j5 Bool Int Unit) :=
 (bif decide (i<(w.Told.length:Int)) then ((q7 (fun s:Int=>b1I w i s) 0).bind fun x=>x.go (fun r=>some (j5.ret r)) fun s=>d09 i) else some (j5.brk ()))
theorem e0x (w:m3) (res:V) (outs:t7) (x1:j9 Bool Unit) (hb1:HB cx I7.X res outs x1 c1X (fun s=>c4H w)) (hr1:HR res outs x1 I7.R I7.O) (st1:j5 Bool Int Unit) (hc1:t6 x1 (fun s:Int=>j6 cx I7.X res outs b7i (b7e w s)) st1) (i:Int) (h:b5S w i=some st1):j6 cx I7.X res outs b7i (b7e w i) :=
 P0<|rg<|i9 4 h (fun h=>rg<|z3 h fun x hl hr hb=>sg [] [1,3,4] [(1,0)] (z4 (I:=fun s:Int=>j6 cx I7.X res outs c4l (c48 w i s)) hl fun s st h hc=>e6z w i _ _ x (fun s e=>e7r w i res outs x1 hb1 hr1 st1 hc1 (hb s e)) (fun v e=>(hr1 _ (a9t (hr v e) hc1))) st hc s h)) (fun h=>(x5 h hc1 fun e=>sg [] [1] [(1,0)] (hb1 _ e)))
noncomputable def b2O (w:m3):Option Bool :=
 ((q7 (fun s:Int=>b5S w s) 0).bind fun x=>x.go (fun r=>some r) fun s=>b9I w)
theorem e3F {w:m3} (r:Bool) (h:b2O w=some r):o7 cx.P 14 [.agg (a1J w)] (I7.R r) (I7.O r) :=
 q9 I7.X I7.c I7.h (fun z=>p6<|z3 h fun x hl hr hb=>sg [] [1,3] [(1,0)] (z4 (I:=fun s:Int=>j6 cx I7.X (I7.R r) (I7.O r) b7i (b7e w s)) hl fun s st h hc=>e0x w _ _ x (fun s e=>e8X w r (hb s e)) (fun v e=>z6 I7 (hr v e)) st hc s h))
noncomputable def b3r:FS (Bool):=⟨3,Tryz.f3,[.val [] []],[none],[.val [some 1] []],fun r=>.b r,fun _=>[none],Tryz.func3⟩
noncomputable def c3q (J4:List Int):Option Bool :=
 (bif decide ((J4.length:Int)>1048576) then some true else ((b7M J4).bind fun A8=>((b68 J4).bind fun b2R=>((b2L A8 b2R.2).bind fun U2=>((b3Z A8 b2R.2).bind fun a40=>(bif (!(U2.2==a40.2)) then some false else ((b6g U2.1 a40.1).bind fun b6C=>(bif (!b6C) then some false else ((b7J A8).bind fun a26=>((b5K A8).bind fun a51=>(bif (a26==a51) then ((b7v A8).bind fun a7l=>((b48 A8).bind fun a7n=>(bif (a7l==a7n) then ((b2u A8).bind fun a6F=>((b2O A8).bind fun a5Y=>some (a6F==a5Y))) else some false))) else some false)))))))))))
set_option maxRecDepth 20000 in
theorem e4L {J4:List Int} (r:Bool) (h:c3q J4=some r):o7 cx.P 3 [j8 1 L2 J4] (b3r.R r) (b3r.O r) :=
 q9 b3r.X b3r.c b3r.h (fun z=>p6<|i9 2 h (fun h=>rg<|fe z h) (fun h=>rg<|l8 b0U e0y 1 h fun A8 h=>rg<|l8 a98 e2f 1 h fun b2R h=>rg<|C4 h fun U2 e0c h=>om (o7 cx.P 6 [.agg [.sl 27 A8.Nodes.length (V7 (A8.Nodes.map v5)),j8 13 w9 A8.Net,j8 3 D3 A8.Asked,j8 5 B3 A8.Told],.agg (G2 b2R.2)] (P7.R U2) (P7.O U2)) (by simp only [a20 a3L]; exact (d5K U2 e0c))<|om (B8 (P7.R U2)∧E2 (P7.O U2)) ⟨(by simp [P7,B8,U4,Q5,V.simple,vi,o8,eB,eI,A3]),F9 2⟩<|p8 A8.Nodes A8.Net A8.Asked A8.Told<|tl (P7.t 2 true U2)<|rg<|C4 h fun a40 d7W h=>om (o7 cx.P 7 [.agg [.sl 27 A8.Nodes.length (V7 (A8.Nodes.map v5)),j8 13 w9 A8.Net,j8 3 D3 A8.Asked,j8 5 B3 A8.Told],.agg (G2 b2R.2)] (P8.R a40) (P8.O a40)) (by simp only [a20 a3L]; exact (c7E a40 d7W))<|om (B8 (P8.R a40)∧E2 (P8.O a40)) ⟨(by simp [P8,B8,U4,Q5,V.simple,vi,o8,eB,eI,A3]),F9 2⟩<|p8 A8.Nodes A8.Net A8.Asked A8.Told<|tl (P8.t 2 true a40)<|rg<|i9 3 h (fun h=>rg<|fe z h) (fun h=>N1 a61 e7V 6 h fun b6C h=>om (B8 (a61.R b6C)∧E2 (a61.O b6C)) ⟨rfl,F9 2⟩<|H5 U2.1 a40.1<|i9 8 h (fun h=>rg<|fe z h) (fun h=>rg<|C4 h fun a26 e0l h=>om (o7 cx.P 9 [.agg [.sl 27 A8.Nodes.length (V7 (A8.Nodes.map v5)),j8 13 w9 A8.Net,j8 3 D3 A8.Asked,j8 5 B3 A8.Told]] (H3.R a26) (H3.O a26)) (by simp only [a20 a3L]; exact (d9X a26 e0l))<|om (B8 (H3.R a26)∧E2 (H3.O a26)) ⟨rfl,F9 1⟩<|p8 A8.Nodes A8.Net A8.Asked A8.Told<|tl (H3.t 1 true a26)<|C4 h fun a51 e70 h=>om (o7 cx.P 10 [.agg [.sl 27 A8.Nodes.length (V7 (A8.Nodes.map v5)),j8 13 w9 A8.Net,j8 3 D3 A8.Asked,j8 5 B3 A8.Told]] (R5.R a51) (R5.O a51)) (by simp only [a20 a3L]; exact (e2y a51 e70))<|om (B8 (R5.R a51)∧E2 (R5.O a51)) ⟨rfl,F9 1⟩<|p8 A8.Nodes A8.Net A8.Asked A8.Told<|tl (R5.t 3 true a51)<|i9 5 h (fun h=>C4 h fun a7l d8Y h=>om (o7 cx.P 11 [.agg [.sl 27 A8.Nodes.length (V7 (A8.Nodes.map v5)),j8 13 w9 A8.Net,j8 3 D3 A8.Asked,j8 5 B3 A8.Told]] (K8.R a7l) (K8.O a7l)) (by simp only [a20 a3L]; exact (e8L a7l d8Y))<|om (B8 (K8.R a7l)∧E2 (K8.O a7l)) ⟨rfl,F9 1⟩<|p8 A8.Nodes A8.Net A8.Asked A8.Told<|tl (K8.t 7 true a7l)<|C4 h fun a7n d7D h=>om (o7 cx.P 12 [.agg [.sl 27 A8.Nodes.length (V7 (A8.Nodes.map v5)),j8 13 w9 A8.Net,j8 3 D3 A8.Asked,j8 5 B3 A8.Told]] (K9.R a7n) (K9.O a7n)) (by simp only [a20 a3L]; exact (d9r a7n d7D))<|om (B8 (K9.R a7n)∧E2 (K9.O a7n)) ⟨rfl,F9 1⟩<|p8 A8.Nodes A8.Net A8.Asked A8.Told<|tl (K9.t 9 true a7n)<|i9 12 h (fun h=>C4 h fun a6F e6f h=>om (o7 cx.P 13 [.agg [.sl 27 A8.Nodes.length (V7 (A8.Nodes.map v5)),j8 13 w9 A8.Net,j8 3 D3 A8.Asked,j8 5 B3 A8.Told]] (T0.R a6F) (T0.O a6F)) (by simp only [a20 a3L]; exact (e6q a6F e6f))<|om (B8 (T0.R a6F)∧E2 (T0.O a6F)) ⟨rfl,F9 1⟩<|p8 A8.Nodes A8.Net A8.Asked A8.Told<|tl (T0.t 14 true a6F)<|C4 h fun a5Y e3t h=>om (o7 cx.P 14 [.agg [.sl 27 A8.Nodes.length (V7 (A8.Nodes.map v5)),j8 13 w9 A8.Net,j8 3 D3 A8.Asked,j8 5 B3 A8.Told]] (I7.R a5Y) (I7.O a5Y)) (by simp only [a20 a3L]; exact (e3F a5Y e3t))<|om (B8 (I7.R a5Y)∧E2 (I7.O a5Y)) ⟨rfl,F9 1⟩<|p8 A8.Nodes A8.Net A8.Asked A8.Told<|tl (I7.t 16 true a5Y)<|fe z h) (fun h=>fe z h)) (fun h=>fe z h)))))
theorem e2Z:a8W Tryz.prog 5 L2 a8N:=e7p Tryz.underlying5
theorem e1o:a8W Tryz.prog 22 (fun l:List Int=>[j8 1 L2 l]) (B9 1 a8N):=e1a Tryz.underlying22 e2Z (by kernel_rfl) (by decide) (by kernel_rfl) (fun _=>rfl)
theorem D4 {n:Int} (h1 : -9223372036854775808≤n) (h2:n≤9223372036854775807):n8 n=n:=IntWalk.i64_in n ⟨h1,h2⟩
def s8 {α:Type} (l:List α):Prop:=l.length≤140737488351232
theorem J2 {α:Type} {l:List α} (hl:s8 l) {k:Nat} (h:k<l.length):n8 ((k:Int)+1)=((k+1:Nat):Int):=by
 unfold s8 at hl
 rw [D4 (by omega) (by omega)]
 omega
section
variable {R S B:Type} {body:S→Option (j5 R S B)}
theorem M5 {s t:S} (h:body s=some (.nxt t)):q7 body s=q7 body t:=by rw [c0v,h]
theorem G5 {s:S} {b:B} (h:body s=some (.brk b)):q7 body s=some (.brk b):=by rw [c0v,h]
theorem a2A {s:S} {r:R} (h:body s=some (.ret r)):q7 body s=some (.ret r):=by rw [c0v,h]
theorem a1j (st:Nat→S) (n:Nat) (h : ∀ k,k<n→body (st k)=some (.nxt (st (k+1)))):q7 body (st 0)=q7 body (st n):=by
 induction n with
 | zero=>rfl
 | succ n ih =>
  rw [ih fun k hk=>h k (by omega)]
  exact M5 (h n (by omega))
theorem a4G (st:Nat→S) (n:Nat) (ok:Nat→Bool) (r:Nat→R) (b:B)
  (h1 : ∀ k,k<n→(∀ j,j<k→ok j=true)→body (st k)=some (bif ok k then .nxt (st (k+1)) else .ret (r k)))
  (h2:(∀ j,j<n→ok j=true)→body (st n)=some (.brk b)) :
  (q7 body (st 0)=some (.brk b) ∧ ∀ j,j<n→ok j=true) ∨ ∃ k,k<n∧ok k=false∧(∀ j,j<k→ok j=true)∧q7 body (st 0)=some (.ret (r k)):=by
 by_cases hall : ∀ j,j<n→ok j=true
 ·left
  refine ⟨?_,hall⟩
  rw [a1j st n fun k hk => ?_]
  ·exact G5 (h2 hall)
  ·rw [h1 k hk fun j hj=>hall j (by omega),hall k hk]; rfl
 ·right
  have hex : ∃ k,k<n∧ok k=false:=by
   apply Classical.byContradiction
   intro hn
   apply hall
   intro j hj
   cases hj':ok j with
   | true=>rfl
   | false=>exact absurd ⟨j,hj,hj'⟩ hn
  obtain ⟨k,hk,ho,hb⟩ : ∃ k,k<n∧ok k=false ∧ ∀ j,j<k→ok j=true:=by
   obtain ⟨k,hk,ho⟩:=hex
   induction k using Nat.strongRecOn with
   | _ k ih =>
    by_cases hb : ∀ j,j<k→ok j=true
    ·exact ⟨k,hk,ho,hb⟩
    ·have : ∃ j,j<k∧ok j=false:=by
      apply Classical.byContradiction
      intro hn
      apply hb
      intro j hj
      cases hj':ok j with
      | true=>rfl
      | false=>exact absurd ⟨j,hj,hj'⟩ hn
     obtain ⟨j,hj,hjo⟩:=this
     exact ih j hj (by omega) hjo
  refine ⟨k,hk,ho,hb,?_⟩
  rw [a1j st k fun j hj => ?_]
  ·refine a2A ?_
   rw [h1 k hk hb,ho]
   rfl
  ·rw [h1 j (by omega) fun i hi=>hb i (by omega),hb j hj]; rfl
end
theorem b1C {R S B:Type} {body:S→Option (j5 R S B)} (I:Nat→S→Prop) (Q:j9 R B→Prop)
  (h : ∀ k s,I k s → ∃ st,body s=some st∧match st with | .ret r=>Q (.ret r) | .brk b=>Q (.brk b) | .nxt t => ∃ k',k'<k∧I k' t) : ∀ {k s},I k s → ∃ x,q7 body s=some x∧Q x:=by
 intro k
 induction k using Nat.strongRecOn with
 | _ k ih =>
  intro s hs
  obtain ⟨st,hb,hq⟩:=h k s hs
  cases st with
  | ret r=>exact ⟨_,a2A hb,hq⟩
  | brk b=>exact ⟨_,G5 hb,hq⟩
  | nxt t =>
   obtain ⟨k',hk,ht⟩:=hq
   obtain ⟨x,hx,hq⟩:=ih k' hk ht
   exact ⟨x,by rw [M5 hb]; exact hx,hq⟩
theorem u7 {β:Type} {p:Prop} [Decidable p] (h:p) (k:Option β):t5 p k=k:=if_pos h
theorem b5o {α:Type} (l:List α) (k:Nat):idx l (k:Int)=l[k]?:=by
 unfold idx
 rw [if_pos (by omega)]
 rfl
theorem t9 {α:Type} {l:List α} {k:Nat} (h:k<l.length):idx l (k:Int)=some l[k]:=by
 rw [b5o,List.getElem?_eq_getElem h]
theorem x9 {α:Type} (l:List α) (k:Nat) (h:k<l.length):decide ((k:Int)<(l.length:Int))=true:=by simpa using h
theorem B0 {α:Type} (l:List α):decide ((l.length:Int)<(l.length:Int))=false:=by simp
theorem U3 {α B:Type} {body:Int→Option (j5 Bool Int B)} (l:List α) (hl:s8 l) (ok:α→Bool) (v:Bool) (b:B)
  (h1 : ∀ (k:Nat) (h:k<l.length),body (k:Int)=some (bif ok l[k] then .nxt (n8 ((k:Int)+1)) else .ret v))
  (h2:body (l.length:Int)=some (.brk b)):q7 body 0=some (bif l.all ok then .brk b else .ret v):=by
 have h:=a4G (body:=body) (fun k=>(k:Int)) l.length (fun k=>match l[k]? with | some x=>ok x | none=>true) (fun _=>v) b
  (fun k hk _=>by
   have:=h1 k hk
   rw [J2 hl hk] at this
   simpa [List.getElem?_eq_getElem hk] using this) (fun _=>h2)
 rcases h with ⟨h,hall⟩ | ⟨k,hk,ho,_,h⟩
 ·have:l.all ok=true:=by
   rw [List.all_eq_true]
   intro x hx
   obtain ⟨i,hi,rfl⟩:=List.getElem_of_mem hx
   have:=hall i hi
   simpa [List.getElem?_eq_getElem hi] using this
  rw [this]; exact h
 ·have:l.all ok=false:=by
   rw [List.all_eq_false]
   refine ⟨l[k],List.getElem_mem hk,?_⟩
   simpa [List.getElem?_eq_getElem hk] using ho
  rw [this]; exact h
theorem a2I {α B:Type} {body:Int→Option (j5 Bool Int B)} (l:List α) (hl:s8 l) (ok:Nat→Bool) (v:Bool) (b:B)
  (h1 : ∀ (k:Nat) (h:k<l.length),(∀ j,j<k→ok j=true)→body (k:Int)=some (bif ok k then .nxt (n8 ((k:Int)+1)) else .ret v))
  (h2:body (l.length:Int)=some (.brk b)):q7 body 0=some (bif (List.range l.length).all ok then .brk b else .ret v):=by
 have h:=a4G (body:=body) (fun k=>(k:Int)) l.length ok (fun _=>v) b
  (fun k hk hb=>by
   have:=h1 k hk hb
   rw [J2 hl hk] at this
   exact this) (fun _=>h2)
 rcases h with ⟨h,hall⟩ | ⟨k,hk,ho,_,h⟩
 ·have:(List.range l.length).all ok=true:=by
   rw [List.all_eq_true]
   intro x hx
   exact hall x (by simpa using hx)
  rw [this]; exact h
 ·have:(List.range l.length).all ok=false:=by
   rw [List.all_eq_false]
   exact ⟨k,by simpa using hk,by simp [ho]⟩
  rw [this]; exact h
theorem b24 {α R B:Type} {body:Int→Option (j5 R Int B)} (l:List α) (hl:s8 l) (is:α→Bool) (f:α→R) (b:B)
  (h1 : ∀ (k:Nat) (h:k<l.length),body (k:Int)=some (bif is l[k] then .ret (f l[k]) else .nxt (n8 ((k:Int)+1))))
  (h2:body (l.length:Int)=some (.brk b)):q7 body 0=some (match l.find? is with | some x=>.ret (f x) | none=>.brk b):=by
 have key : ∀ (m k:Nat),k+m=l.length→q7 body (k:Int)=some (match (l.drop k).find? is with | some x=>.ret (f x) | none=>.brk b):=by
  intro m
  induction m with
  | zero =>
   intro k hk
   have:k=l.length:=by omega
   subst this
   rw [List.drop_length]
   exact G5 h2
  | succ m ih =>
   intro k hk
   have hlt:k<l.length:=by omega
   have hb:=h1 k hlt
   rw [List.drop_eq_getElem_cons hlt,List.find?_cons]
   cases hq:is l[k] with
   | true =>
    rw [hq] at hb
    exact a2A hb
   | false =>
    rw [hq] at hb
    rw [M5 hb,J2 hl hlt]
    exact ih (k+1) (by omega)
 have:=key l.length 0 (by omega)
 simpa using this
theorem d4v {α S R B:Type} {body:S×Int→Option (j5 R (S×Int) B)} (l:List α) (hl:s8 l) (g:S→α→S) (s0:S) (b:S→B)
  (h1 : ∀ (k:Nat) (h:k<l.length),body ((l.take k).foldl g s0,(k:Int))=some (.nxt (g ((l.take k).foldl g s0) l[k],n8 ((k:Int)+1))))
  (h2:body (l.foldl g s0,(l.length:Int))=some (.brk (b (l.foldl g s0)))):q7 body (s0,0)=some (.brk (b (l.foldl g s0))):=by
 have h:=a1j (body:=body) (fun k=>((l.take k).foldl g s0,(k:Int))) l.length (fun k hk=>by
  rw [h1 k hk,J2 hl hk,List.take_succ_eq_append_getElem hk,List.foldl_append]
  rfl)
 simp only [List.take_zero,List.foldl_nil,List.take_length] at h
 rw [show ((0:Nat):Int)=0 from rfl] at h
 rw [h]
 exact G5 h2
def c3Y (x:n9):Prop:=L1 x.b9∧L1 x.Seq
def d2z (x:n5):Prop:=L1 x.d9∧L1 x.i6
def d2F (x:m8):Prop:=L1 x.d9∧L1 x.c9
def b5s (x:m9):Prop:=(B9 16 d2z) x.a7∧(B9 16 d2F) x.a8∧L1 x.c9∧L1 x.Code
def H2 (x:l7):Prop:=c3Y x.a5∧b5s x.a9
def a0F (x:m6):Prop:=L1 x.b5∧H2 x.i0
def c0s (x:A4):Prop:=L1 x.g7∧(B9 96 a0F) x.a0
def a4c (x:m5):Prop:=L1 x.b7∧L1 x.A∧L1 x.B∧L1 x.N
def a0G (x:j3):Prop:=L1 x.Id∧c0s x.Acc∧(B9 88 H2) x.a6∧L1 x.Seq∧L1 x.d8∧L1 x.b5∧(B9 1 okT) x.b6∧(B9 96 a0F) x.i5∧H2 x.d6∧(B9 1 okT) x.a0∧(B9 32 a4c) x.i4∧H2 x.c8∧(B9 88 H2) x.b8
def a3f (x:j7):Prop:=L1 x.b7∧L1 x.b6∧L1 x.To∧L1 x.b5∧L1 x.g9∧H2 x.i0∧(B9 96 a0F) x.a0
def d1r (x:r9):Prop:=c3Y x.a5∧(B9 32 a4c) x.i4
def d4o (x:m7):Prop:=L1 x.Node∧c3Y x.a5∧L1 x.Code∧L1 x.c9
def Z3 (x:m3):Prop:=(B9 392 a0G) x.Nodes∧(B9 152 a3f) x.Net∧(B9 40 d1r) x.Asked∧(B9 40 d4o) x.Told
theorem B9.fits {α:Type} {bytes:Nat} {ok:α→Prop} {l:List α} (h:B9 bytes ok l) (hb:0<bytes):s8 l:=by
 obtain ⟨h,_⟩:=h
 unfold s8
 have:l.length * 1≤l.length * bytes:=Nat.mul_le_mul_left _ hb
 omega
def a2U (x:m9):Prop:=B9 16 okT x.a7∧B9 16 okT x.a8∧True
def a2o (x:l7):Prop:=True∧a2U x.a9
theorem B9.imp {α:Type} {bytes:Nat} {ok ok':α→Prop} {l:List α} (h:B9 bytes ok l) (hi : ∀ x,ok x→ok' x):B9 bytes ok' l:=⟨h.1,fun x hx=>hi x (h.2 x hx)⟩
theorem b5s.f {x:m9} (h:b5s x):a2U x:=⟨h.1.imp fun _ _=>trivial,h.2.1.imp fun _ _=>trivial,trivial⟩
theorem H2.f {x:l7} (h:H2 x):a2o x:=⟨trivial,h.2.f⟩
theorem okEntries.f {l:List l7} (h:B9 88 H2 l):B9 88 a2o l:=h.imp fun _ x=>x.f
def Q7 (l:List n5) (box:Int):Bool:=l.any (·.d9==box)
def a0q (l:List m8) (box:Int):Bool:=l.any (·.d9==box)
theorem c0k {l:List n5} (h:s8 l) (box:Int):b3a l box=some (Q7 l box):=by
 unfold b3a
 rw [U3 l h (fun x => !(x.d9==box)) true ()]
 ·unfold Q7
  rw [List.any_eq_not_all_not]
  cases l.all fun x => !(x.d9==box)<;>rfl
 ·intro k hk
  unfold b4W
  rw [x9 l k hk,t9 hk]
  cases hq:l[k].d9==box<;>simp [hq]
 ·unfold b4W
  rw [B0]; rfl
theorem d0X {α B:Type} {body:Int→Option (j5 Int Int B)} (l:List α) (hl:s8 l) (is:α→Bool) (b:B)
  (h1 : ∀ (k:Nat) (h:k<l.length),body (k:Int)=some (bif is l[k] then .ret (k:Int) else .nxt (n8 ((k:Int)+1))))
  (h2:body (l.length:Int)=some (.brk b)):(q7 body 0=some (.brk b)∧l.any is=false) ∨ ∃ k:Nat,q7 body 0=some (.ret (k:Int))∧l.any is=true:=by
 have h:=a4G (body:=body) (fun k=>(k:Int)) l.length (fun k=>match l[k]? with | some x => !is x | none=>true) (fun k=>(k:Int)) b
  (fun k hk _=>by
   have:=h1 k hk
   rw [J2 hl hk] at this
   rw [this]
   simp only [List.getElem?_eq_getElem hk]
   cases is l[k]<;>rfl) (fun _=>h2)
 rcases h with ⟨h,hall⟩ | ⟨k,hk,ho,_,h⟩
 ·left
  refine ⟨h,?_⟩
  rw [List.any_eq_false]
  intro x hx
  obtain ⟨i,hi,rfl⟩:=List.getElem_of_mem hx
  have:=hall i hi
  simpa [List.getElem?_eq_getElem hi] using this
 ·right
  refine ⟨k,h,?_⟩
  rw [List.any_eq_true]
  refine ⟨l[k],List.getElem_mem hk,?_⟩
  simpa [List.getElem?_eq_getElem hk] using ho
theorem d77 {l:List m8} (h:s8 l) (box:Int) : ∃ v,a39 l box=some v∧decide (v≥0)=a0q l box:=by
 unfold a39
 rcases d0X (body:=fun s:Int=>a21 l box s) l h (fun x=>x.d9==box) () (by
  intro k hk
  unfold a21
  rw [x9 l k hk,t9 hk]
  cases hq:l[k].d9==box<;>simp [hq]) (by unfold a21; rw [B0]; rfl) with ⟨h1,h2⟩ | ⟨k,h1,h2⟩
 ·rw [h1]
  exact ⟨-1,rfl,h2.symm⟩
 ·rw [h1]
  refine ⟨k,rfl,?_⟩
  rw [show a0q l box=true from h2]
  simp
theorem e5T {x:m9} (h:s8 x.a7) (box:Int) : ∃ v,b1Q x box=some v∧decide (v≥0)=Q7 x.a7 box:=by
 unfold b1Q
 rcases d0X (body:=fun s:Int=>b2S x box s) x.a7 h (fun x=>x.d9==box) () (by
  intro k hk
  unfold b2S
  rw [x9 x.a7 k hk,t9 hk]
  cases hq:x.a7[k].d9==box<;>simp [hq]) (by unfold b2S; rw [B0]; rfl) with ⟨h1,h2⟩ | ⟨k,h1,h2⟩
 ·rw [h1]
  exact ⟨-1,rfl,h2.symm⟩
 ·rw [h1]
  refine ⟨k,rfl,?_⟩
  rw [show Q7 x.a7 box=true from h2]
  simp
def p7 (n lo hi:Int):Bool:=decide (lo≤n∧n≤hi)
theorem Z2 (n lo hi:Int):I6 n lo hi=some (p7 n lo hi):=by
 unfold I6 p7
 by_cases h:n≥lo
 ·have h':lo≤n:=h
  simp [h']
 ·have h' : ¬ lo≤n:=h
  simp [h']
theorem a6E (n:Int):a6k n=some (p7 n (-1000000) 1000000):=Z2 n (-1000000) 1000000
theorem b98 (n:Int):a7Q n=some (p7 n 0 3):=by
 rw [← Z2]
 unfold a7Q I6
 have:(n<4)=(n≤3):=by apply propext; omega
 simp only [this]
theorem b5F (q:n9):a6u q=some (p7 q.b9 0 2&&p7 q.Seq 1 1000):=by
 unfold a6u
 simp only [Z2,Option.bind_some]
 cases p7 q.b9 0 2<;>rfl
theorem c25 (q:n9):a9F q=some (p7 q.b9 0 2&&p7 q.Seq 1 1000):=by
 have h3:(q.b9<3)=(q.b9≤2):=by apply propext; omega
 unfold a9F p7
 simp only [h3]
 by_cases h1:q.b9≥0<;>by_cases h2:q.b9≤2<;>by_cases h4:q.Seq≥1<;>by_cases h5:q.Seq≤1000<;>simp [h1,h2,h4,h5]<;>omega
def a0S (l:List n5) (k:Nat):Bool:=match l[k]? with
 | some x=>p7 x.d9 0 3&&(p7 x.i6 0 1000000 && !Q7 (l.take k) x.d9)
 | none=>true
def a0X (l:List m8) (k:Nat):Bool:=match l[k]? with
 | some x=>p7 x.d9 0 3&&(p7 x.c9 (-1000000) 1000000 && !a0q (l.take k) x.d9)
 | none=>true
theorem c6f {α:Type} {l:List α} (h:s8 l) (k:Nat):s8 (l.take k):=by
 unfold s8 at h ⊢
 rw [List.length_take]
 omega
theorem e5q {r:m9} (h:s8 r.a7):q7 (fun s:Int=>b3F r s) 0=some (bif (List.range r.a7.length).all (a0S r.a7) then .brk () else .ret false):=by
 refine a2I r.a7 h (a0S r.a7) false () ?_ ?_
 ·intro k hk _
  unfold b3F a0S t5
  rw [x9 _ k hk,t9 hk,List.getElem?_eq_getElem hk]
  have hp:(0:Int)≤(k:Int)∧(k:Int)≤(r.a7.length:Int):=by constructor<;>omega
  simp only [cond_true,Option.bind_some,if_pos hp,b98,Int.toNat_natCast,Nat.sub_zero,List.drop_zero,c0k (c6f h k)]
  cases p7 r.a7[k].d9 0 3
  ·rfl
  ·unfold p7
   by_cases h1:r.a7[k].i6<0
   ·have h1' : ¬ 0≤r.a7[k].i6:=by omega
    simp [h1,h1']
   ·have h1':0≤r.a7[k].i6:=by omega
    by_cases h2:r.a7[k].i6>1000000
    ·have h2' : ¬ r.a7[k].i6≤1000000:=by omega
     simp [h1,h1',h2,h2']
    ·have h2':r.a7[k].i6≤1000000:=by omega
     simp only [h1,h1',h2,h2',decide_false,decide_true,Bool.not_true,cond_false,Bool.true_and,and_self]
     cases Q7 (r.a7.take k) r.a7[k].d9<;>rfl
 ·unfold b3F
  rw [B0]; rfl
theorem e1h {r:m9} (h:s8 r.a8):q7 (fun s:Int=>b1G r s) 0=some (bif (List.range r.a8.length).all (a0X r.a8) then .brk () else .ret false):=by
 refine a2I r.a8 h (a0X r.a8) false () ?_ ?_
 ·intro k hk _
  obtain ⟨v,hv,hg⟩:=d77 (c6f h k) r.a8[k].d9
  unfold b1G a0X t5
  rw [x9 _ k hk,t9 hk,List.getElem?_eq_getElem hk]
  have hp:(0:Int)≤(k:Int)∧(k:Int)≤(r.a8.length:Int):=by constructor<;>omega
  simp only [cond_true,Option.bind_some,if_pos hp,b98,a6E,Int.toNat_natCast,Nat.sub_zero,List.drop_zero,hv,hg]
  cases p7 r.a8[k].d9 0 3
  ·rfl
  ·cases p7 r.a8[k].c9 (-1000000) 1000000
   ·rfl
   ·cases a0q (r.a8.take k) r.a8[k].d9<;>rfl
 ·unfold b1G
  rw [B0]; rfl
def a9V (f:Int→Bool):List Bool:=[f 0,f 1,f 2,f 3]
theorem d38 {f:Int→Bool} {b:Int} (h:p7 b 0 3=true):idx (a9V f) b=some (f b)∧b<4:=by
 have h:0≤b∧b≤3:=by simpa [p7] using h
 have:b=0∨b=1∨b=2∨b=3:=by omega
 rcases this with rfl | rfl | rfl | rfl<;>exact ⟨rfl,by decide⟩
theorem c8J {f g:Int→Bool} {b:Int} (h:p7 b 0 3=true) (hb:g b=true) (hne : ∀ c,c≠b→g c=f c):(a9V f).set b.toNat true=a9V g:=by
 have h:0≤b∧b≤3:=by simpa [p7] using h
 have:b=0∨b=1∨b=2∨b=3:=by omega
 unfold a9V
 rcases this with rfl | rfl | rfl | rfl
 all_goals
  rw [show [g 0,g 1,g 2,g 3]=_ from rfl]
  first
   | rw [hb,hne 1 (by decide),hne 2 (by decide),hne 3 (by decide)]; rfl
   | rw [hb,hne 0 (by decide),hne 2 (by decide),hne 3 (by decide)]; rfl
   | rw [hb,hne 0 (by decide),hne 1 (by decide),hne 3 (by decide)]; rfl
   | rw [hb,hne 0 (by decide),hne 1 (by decide),hne 2 (by decide)]; rfl
theorem c7d {l:List n5} {k:Nat} (hk:k<l.length) (b:Int):Q7 (l.take (k+1)) b=(Q7 (l.take k) b||(l[k].d9==b)):=by
 unfold Q7
 rw [List.take_succ_eq_append_getElem hk,List.any_append]
 simp
theorem d0C {l:List m8} {k:Nat} (hk:k<l.length) (b:Int):a0q (l.take (k+1)) b=(a0q (l.take k) b||(l[k].d9==b)):=by
 unfold a0q
 rw [List.take_succ_eq_append_getElem hk,List.any_append]
 simp
theorem d7r {l:List n5} {k:Nat} (hk:k<l.length) (c:Int) (hc:c≠l[k].d9):Q7 (l.take (k+1)) c=Q7 (l.take k) c:=by
 have:(l[k].d9==c)=false:=by simpa using fun h=>hc h.symm
 rw [c7d hk,this,Bool.or_false]
theorem e7Z {l:List m8} {k:Nat} (hk:k<l.length) (c:Int) (hc:c≠l[k].d9):a0q (l.take (k+1)) c=a0q (l.take k) c:=by
 have:(l[k].d9==c)=false:=by simpa using fun h=>hc h.symm
 rw [d0C hk,this,Bool.or_false]
theorem c7n {R S B:Type} {x:Option (j9 R B)} {n:Nat} {ok:Nat→Bool} {r:R} {b:B} (h:(x=some (.brk b) ∧ ∀ j,j<n→ok j=true) ∨ ∃ k,k<n∧ok k=false∧(∀ j,j<k→ok j=true)∧x=some (.ret r)):x=some (bif (List.range n).all ok then .brk b else .ret r):=by
 rcases h with ⟨h,hall⟩ | ⟨k,hk,ho,_,h⟩
 ·have:(List.range n).all ok=true:=by
   rw [List.all_eq_true]
   intro x hx
   exact hall x (by simpa using hx)
  rw [this]; exact h
 ·have:(List.range n).all ok=false:=by
   rw [List.all_eq_false]
   exact ⟨k,by simpa using hk,by simp [ho]⟩
  rw [this]; exact h
theorem e9g {r:m9} (h:s8 r.a7):q7 (fun s:List Bool×Int=>a9g r s.1 s.2) (List.replicate 4 false,0)=some (bif (List.range r.a7.length).all (a0S r.a7) then .brk () else .ret false):=by
 refine c7n (S:=List Bool×Int) (a4G (body:=fun s:List Bool×Int=>a9g r s.1 s.2) (fun k=>(a9V (Q7 (r.a7.take k)),(k:Int))) r.a7.length (a0S r.a7) (fun _=>false) () ?_ ?_)
 ·intro k hk _
  simp only
  unfold a9g a0S t5
  rw [x9 _ k hk,t9 hk,List.getElem?_eq_getElem hk]
  simp only [cond_true,Option.bind_some,Z2]
  cases hb:p7 r.a7[k].d9 0 3
  ·rfl
  ·obtain ⟨h1,h2⟩:=d38 (f:=Q7 (r.a7.take k)) hb
   rw [h1]
   simp only [if_pos h2,Bool.not_true,cond_false,Option.bind_some,Bool.true_and]
   cases hs:Q7 (r.a7.take k) r.a7[k].d9
   ·cases p7 r.a7[k].i6 0 1000000
    ·rfl
    ·simp only [Bool.not_true,cond_false,Bool.not_false,Bool.true_and,cond_true]
     rw [c8J (f:=Q7 (r.a7.take k)) (g:=Q7 (r.a7.take (k+1))) hb (by rw [c7d hk]; simp) (d7r hk),J2 h hk]
   ·cases p7 r.a7[k].i6 0 1000000<;>rfl
 ·intro _
  simp only
  unfold a9g
  rw [B0]; rfl
theorem e7R {r:m9} (h:s8 r.a8):q7 (fun s:List Bool×Int=>a88 r s.1 s.2) (List.replicate 4 false,0)=some (bif (List.range r.a8.length).all (a0X r.a8) then .brk () else .ret false):=by
 refine c7n (S:=List Bool×Int) (a4G (body:=fun s:List Bool×Int=>a88 r s.1 s.2) (fun k=>(a9V (a0q (r.a8.take k)),(k:Int))) r.a8.length (a0X r.a8) (fun _=>false) () ?_ ?_)
 ·intro k hk _
  simp only
  unfold a88 a0X t5
  rw [x9 _ k hk,t9 hk,List.getElem?_eq_getElem hk]
  simp only [cond_true,Option.bind_some,Z2]
  cases hb:p7 r.a8[k].d9 0 3
  ·rfl
  ·obtain ⟨h1,h2⟩:=d38 (f:=a0q (r.a8.take k)) hb
   rw [h1]
   simp only [if_pos h2,Bool.not_true,cond_false,Option.bind_some,Bool.true_and]
   cases hs:a0q (r.a8.take k) r.a8[k].d9
   ·cases p7 r.a8[k].c9 (-1000000) 1000000
    ·rfl
    ·simp only [Bool.not_true,cond_false,Bool.not_false,Bool.true_and,cond_true]
     rw [c8J (f:=a0q (r.a8.take k)) (g:=a0q (r.a8.take (k+1))) hb (by rw [d0C hk]; simp) (e7Z hk),J2 h hk]
   ·cases p7 r.a8[k].c9 (-1000000) 1000000<;>rfl
 ·intro _
  simp only
  unfold a88
  rw [B0]; rfl
def a0f (r:m9):Bool:=p7 r.Code 0 3&&(p7 r.c9 (-1000000) 1000000&&((r.Code==0||(r.c9==0&&r.a8.length==0))&&((r.Code != 3||r.a7.length==0)&&((List.range r.a7.length).all (a0S r.a7)&&(List.range r.a8.length).all (a0X r.a8)))))
theorem e7N {r:m9} (h:a2U r):b4S r=some ((List.range r.a7.length).all (a0S r.a7)&&(List.range r.a8.length).all (a0X r.a8)):=by
 unfold b4S b9g
 rw [e5q (h.1.fits (by decide)),e1h (h.2.1.fits (by decide))]
 cases (List.range r.a7.length).all (a0S r.a7)<;>cases (List.range r.a8.length).all (a0X r.a8)<;>rfl
theorem e57 {r:m9} (h:a2U r):b88 r=some ((List.range r.a7.length).all (a0S r.a7)&&(List.range r.a8.length).all (a0X r.a8)):=by
 unfold b88 b93
 rw [e9g (h.1.fits (by decide)),e7R (h.2.1.fits (by decide))]
 cases (List.range r.a7.length).all (a0S r.a7)<;>cases (List.range r.a8.length).all (a0X r.a8)<;>rfl
theorem c7Z {α:Type} (l:List α):decide ((l.length:Int)>0) = !(l.length==0):=by
 cases l<;>simp
theorem c6U {r:m9} (h:a2U r):b21 r=some (a0f r):=by
 unfold b21 a0f
 rw [e7N h]
 simp only [a6E,c7Z,Option.bind_some,j9.go]
 generalize ((List.range r.a7.length).all (a0S r.a7)&&(List.range r.a8.length).all (a0X r.a8))=z
 generalize (r.a8.length==0)=a
 generalize (r.a7.length==0)=b
 generalize p7 r.c9 (-1000000) 1000000=c
 have h3:p7 r.Code 0 3=(!decide (r.Code<0) && !decide (r.Code>3)):=by
  unfold p7
  by_cases h1:r.Code<0<;>by_cases h2:r.Code>3<;>simp [h1,h2]<;>omega
 rw [h3]
 unfold bne
 cases decide (r.Code<0)<;>cases decide (r.Code>3)<;>cases c<;>cases (r.Code==0)<;>cases (r.c9==0)<;>cases a<;>cases (r.Code==3)<;>cases b<;>rfl
theorem c1e {r:m9} (h:a2U r):b0x r=some (a0f r):=by
 unfold b0x a0f
 rw [e57 h]
 simp only [Z2,c7Z,Option.bind_some,j9.go]
 generalize ((List.range r.a7.length).all (a0S r.a7)&&(List.range r.a8.length).all (a0X r.a8))=z
 generalize (r.a8.length==0)=a
 generalize (r.a7.length==0)=b
 generalize p7 r.c9 (-1000000) 1000000=c
 generalize p7 r.Code 0 3=d
 unfold bne
 cases d<;>cases c<;>cases (r.Code==0)<;>cases (r.c9==0)<;>cases a<;>cases (r.Code==3)<;>cases b<;>rfl
def a3m (a b:List n5) (k:Nat):Bool:=match a[k]?,b[k]? with
 | some x,some y=>([x.d9,x.i6]:List Int)==[y.d9,y.i6]
 | _,_=>true
def a3u (a b:List m8) (k:Nat):Bool:=match a[k]?,b[k]? with
 | some x,some y=>([x.d9,x.c9]:List Int)==[y.d9,y.c9]
 | _,_=>true
theorem e2o {a b:m9} (h:s8 a.a7) (hl:a.a7.length=b.a7.length):q7 (fun s:Int=>b3U a b s) 0=some (bif (List.range a.a7.length).all (a3m a.a7 b.a7) then .brk () else .ret false):=by
 refine a2I a.a7 h (a3m a.a7 b.a7) false () ?_ ?_
 ·intro k hk _
  unfold b3U a3m
  rw [x9 _ k hk,t9 hk,t9 (hl▸hk),List.getElem?_eq_getElem hk,List.getElem?_eq_getElem (hl▸hk)]
  simp only [cond_true,Option.bind_some]
  cases ([a.a7[k].d9,a.a7[k].i6]:List Int)==[(b.a7[k]'(hl▸hk)).d9,(b.a7[k]'(hl▸hk)).i6]<;>rfl
 ·unfold b3U
  rw [B0]; rfl
theorem e5a {a b:m9} (h:s8 a.a8) (hl:a.a8.length=b.a8.length):q7 (fun s:Int=>b17 a b s) 0=some (bif (List.range a.a8.length).all (a3u a.a8 b.a8) then .brk () else .ret false):=by
 refine a2I a.a8 h (a3u a.a8 b.a8) false () ?_ ?_
 ·intro k hk _
  unfold b17 a3u
  rw [x9 _ k hk,t9 hk,t9 (hl▸hk),List.getElem?_eq_getElem hk,List.getElem?_eq_getElem (hl▸hk)]
  simp only [cond_true,Option.bind_some]
  cases ([a.a8[k].d9,a.a8[k].c9]:List Int)==[(b.a8[k]'(hl▸hk)).d9,(b.a8[k]'(hl▸hk)).c9]<;>rfl
 ·unfold b17
  rw [B0]; rfl
theorem d6U {a b:List n5} (h:s8 a):b5l a b=some (a.length==b.length&&(List.range a.length).all (a3m a b)):=by
 unfold b5l
 by_cases hl:a.length=b.length
 ·rw [a2I a h (a3m a b) false ()]
  ·rw [hl]
   simp only [bne_self_eq_false,cond_false,beq_self_eq_true,Bool.true_and]
   cases (List.range b.length).all (a3m a b)<;>rfl
  ·intro k hk _
   unfold b54 a3m
   rw [x9 _ k hk,t9 hk,t9 (hl▸hk),List.getElem?_eq_getElem hk,List.getElem?_eq_getElem (hl▸hk)]
   simp only [cond_true,Option.bind_some]
   cases ([a[k].d9,a[k].i6]:List Int)==[(b[k]'(hl▸hk)).d9,(b[k]'(hl▸hk)).i6]<;>rfl
  ·unfold b54
   rw [B0]; rfl
 ·have h1:((a.length:Int) != (b.length:Int))=true:=by simp; omega
  have h2:(a.length==b.length)=false:=by simpa using hl
  rw [h1,h2]; rfl
theorem e0D {a b:List m8} (h:s8 a):b74 a b=some (a.length==b.length&&(List.range a.length).all (a3u a b)):=by
 unfold b74
 by_cases hl:a.length=b.length
 ·rw [a2I a h (a3u a b) false ()]
  ·rw [hl]
   simp only [bne_self_eq_false,cond_false,beq_self_eq_true,Bool.true_and]
   cases (List.range b.length).all (a3u a b)<;>rfl
  ·intro k hk _
   unfold b6N a3u
   rw [x9 _ k hk,t9 hk,t9 (hl▸hk),List.getElem?_eq_getElem hk,List.getElem?_eq_getElem (hl▸hk)]
   simp only [cond_true,Option.bind_some]
   cases ([a[k].d9,a[k].c9]:List Int)==[(b[k]'(hl▸hk)).d9,(b[k]'(hl▸hk)).c9]<;>rfl
  ·unfold b6N
   rw [B0]; rfl
 ·have h1:((a.length:Int) != (b.length:Int))=true:=by simp; omega
  have h2:(a.length==b.length)=false:=by simpa using hl
  rw [h1,h2]; rfl
def a5q (a b:m9):Bool:=(a.a7.length==b.a7.length&&(List.range a.a7.length).all (a3m a.a7 b.a7))&&((a.a8.length==b.a8.length&&(List.range a.a8.length).all (a3u a.a8 b.a8))&&(a.c9==b.c9&&a.Code==b.Code))
theorem d5P {α β:Type} (a:List α) (b:List β):((a.length:Int) != (b.length:Int)) = !(a.length==b.length):=by
 unfold bne
 congr 1
 by_cases h:a.length=b.length
 ·simp [h]
 ·have h1:((a.length:Int)==(b.length:Int))=false:=by simp; omega
  have h2:(a.length==b.length)=false:=by simpa using h
  rw [h1,h2]
theorem c0i {a b:m9} (h:a2U a):b1g a b=some (a5q a b):=by
 unfold b1g a5q
 rw [d5P,d5P]
 cases h1:a.a7.length==b.a7.length
 ·unfold bne
  cases a.c9==b.c9<;>cases a.Code==b.Code<;>rfl
 cases h2:a.a8.length==b.a8.length
 ·unfold bne
  cases a.c9==b.c9<;>cases a.Code==b.Code<;>simp
 unfold c4y
 rw [e2o (h.1.fits (by decide)) (by simpa using h1),e5a (h.2.1.fits (by decide)) (by simpa using h2)]
 unfold bne
 cases (List.range a.a7.length).all (a3m a.a7 b.a7)<;>cases (List.range a.a8.length).all (a3u a.a8 b.a8)<;>cases a.c9==b.c9<;>cases a.Code==b.Code<;>rfl
theorem d1m {a b:m9} (h:a2U a):b55 a b=some (a5q a b):=by
 unfold b55 a5q
 rw [d6U (h.1.fits (by decide)),e0D (h.2.1.fits (by decide))]
 simp only [Option.bind_some]
 generalize (a.a7.length==b.a7.length&&(List.range a.a7.length).all (a3m a.a7 b.a7))=x
 generalize (a.a8.length==b.a8.length&&(List.range a.a8.length).all (a3u a.a8 b.a8))=y
 cases x<;>cases y<;>cases a.c9==b.c9<;>rfl
def A6 (e:l7):Bool:=bif e.g8 then (([e.a5.b9,e.a5.Seq]:List Int)==[0,0])&&a5q e.a9 (m9.mk [] [] 0 0) else (p7 e.a5.b9 0 2&&p7 e.a5.Seq 1 1000)&&(a0f e.a9&&e.a9.Code != 3)
theorem a4D {e:l7} (h:a2o e):a2m e=some (A6 e):=by
 unfold a2m A6
 simp only [c0i h.2,c25,c6U h.2,Option.bind_some]
 cases e.g8
 ·simp only [cond_false]
  cases p7 e.a5.b9 0 2&&p7 e.a5.Seq 1 1000<;>cases a0f e.a9<;>rfl
 ·simp only [cond_true]
  cases ([e.a5.b9,e.a5.Seq]:List Int)==[0,0]<;>rfl
theorem a7D {e:l7} (h:a2o e):a3C e=some (A6 e):=by
 unfold a3C a5f A6
 simp only [d1m h.2,b5F,c1e h.2,Option.bind_some]
 cases e.g8
 ·simp only [cond_false]
  cases p7 e.a5.b9 0 2&&p7 e.a5.Seq 1 1000<;>cases a0f e.a9<;>rfl
 ·simp only [cond_true,beq_self_eq_true]
  cases ([e.a5.b9,e.a5.Seq]:List Int)==[0,0]<;>rfl
def I9 (l:List l7):Bool:=decide (l.length≤40)&&l.all A6
theorem c47 {α:Type} (l:List α) (n:Nat):decide ((l.length:Int)≤(n:Int))=decide (l.length≤n):=by
 by_cases h:l.length≤n
 ·have:(l.length:Int)≤(n:Int):=by omega
  simp [h,this]
 ·have : ¬ (l.length:Int)≤(n:Int):=by omega
  simp [h,this]
theorem b4g {α:Type} (l:List α) (n:Nat):decide ((l.length:Int)>(n:Int)) = !decide (l.length≤n):=by
 by_cases h:l.length≤n
 ·have : ¬ (l.length:Int)>(n:Int):=by omega
  simp [h,this]
 ·have:(l.length:Int)>(n:Int):=by omega
  simp [h,this]
theorem d0V {l:List l7} (h:B9 88 a2o l):b4o l=some (I9 l):=by
 unfold b4o I9
 rw [show (40:Int)=((40:Nat):Int) from rfl,b4g,U3 l (h.fits (by decide)) A6 false ()]
 ·cases decide (l.length≤40)
  ·rfl
  ·cases l.all A6<;>rfl
 ·intro k hk
  unfold b40
  rw [x9 _ k hk,t9 hk]
  simp only [cond_true,Option.bind_some,a4D (h.2 _ (List.getElem_mem hk))]
  cases A6 l[k]<;>rfl
 ·unfold b40
  rw [B0]; rfl
theorem c0r {l:List l7} (h:B9 88 a2o l):a95 l=some (I9 l):=by
 unfold a95 I9 c4a
 rw [show (40:Int)=((40:Nat):Int) from rfl,c47,U3 l (h.fits (by decide)) A6 false ()]
 ·cases l.all A6<;>cases decide (l.length≤40)<;>rfl
 ·intro k hk
  unfold b64
  rw [x9 _ k hk,t9 hk]
  simp only [cond_true,Option.bind_some,a7D (h.2 _ (List.getElem_mem hk))]
  cases A6 l[k]<;>rfl
 ·unfold b64
  rw [B0]; rfl
def a3Q (b:l9):Bool:=p7 b.i6 0 1000000&&p7 b.c9 (-1000000) 1000000
def E0 (l:List l9):Bool:=l.length==4&&l.all a3Q
theorem a8U {α:Type} (l:List α) (n:Nat):((l.length:Int) != (n:Int)) = !(l.length==n):=by
 unfold bne
 congr 1
 by_cases h:l.length=n
 ·simp [h]
 ·have h1:((l.length:Int)==(n:Int))=false:=by simp; omega
  have h2:(l.length==n)=false:=by simpa using h
  rw [h1,h2]
theorem e2i {α:Type} (l:List α) (n:Nat):((l.length:Int)==(n:Int))=(l.length==n):=by
 have:=a8U l n
 unfold bne at this
 simpa using this
theorem b8f {l:List l9} (h:s8 l):b0P l=some (E0 l):=by
 unfold b0P E0
 rw [show (4:Int)=((4:Nat):Int) from rfl,a8U,U3 l h a3Q false ()]
 ·cases l.length==4
  ·rfl
  ·cases l.all a3Q<;>rfl
 ·intro k hk
  unfold b6D a3Q
  rw [x9 _ k hk,t9 hk]
  simp only [cond_true,Option.bind_some,a6E]
  cases hq:p7 l[k].i6 0 1000000 with
  | false =>
   by_cases h1:l[k].i6<0
   ·simp [h1]
   ·have:l[k].i6>1000000:=by
     unfold p7 at hq
     simp at hq
     omega
    simp [h1,this]
  | true =>
   unfold p7 at hq
   simp at hq
   have h1 : ¬ l[k].i6<0:=by omega
   have h2 : ¬ l[k].i6>1000000:=by omega
   simp only [h1,h2,decide_false,cond_false,Bool.true_and]
   cases p7 l[k].c9 (-1000000) 1000000<;>rfl
 ·unfold b6D
  rw [B0]; rfl
theorem b1H {l:List l9} (h:s8 l):a6b l=some (E0 l):=by
 unfold a6b E0 c5E
 rw [show (4:Int)=((4:Nat):Int) from rfl,e2i,U3 l h a3Q false ()]
 ·cases l.length==4<;>cases l.all a3Q<;>rfl
 ·intro k hk
  unfold b8K a3Q
  rw [x9 _ k hk,t9 hk]
  simp only [cond_true,Option.bind_some,Z2]
  cases p7 l[k].i6 0 1000000<;>cases p7 l[k].c9 (-1000000) 1000000<;>rfl
 ·unfold b8K
  rw [B0]; rfl
theorem c8z {l:List n5} (h:(List.range l.length).all (a0S l)=true) : ∀ x∈l,0≤x.d9∧x.d9≤3∧0≤x.i6∧x.i6≤1000000:=by
 intro x hx
 obtain ⟨i,hi,rfl⟩:=List.getElem_of_mem hx
 have:=List.all_eq_true.1 h i (by simpa using hi)
 unfold a0S at this
 rw [List.getElem?_eq_getElem hi] at this
 simp [p7] at this
 omega
theorem d5A {l:List m8} (h:(List.range l.length).all (a0X l)=true) : ∀ x∈l,0≤x.d9∧x.d9≤3 ∧ -1000000≤x.c9∧x.c9≤1000000:=by
 intro x hx
 obtain ⟨i,hi,rfl⟩:=List.getElem_of_mem hx
 have:=List.all_eq_true.1 h i (by simpa using hi)
 unfold a0X at this
 rw [List.getElem?_eq_getElem hi] at this
 simp [p7] at this
 omega
theorem a8w {r:m9} (h:a0f r=true):(0≤r.Code∧r.Code≤3)∧(-1000000≤r.c9∧r.c9≤1000000)∧(r.Code=0∨(r.c9=0∧r.a8=[]))∧(∀ x∈r.a7,0≤x.d9∧x.d9≤3∧0≤x.i6∧x.i6≤1000000) ∧ ∀ x∈r.a8,0≤x.d9∧x.d9≤3 ∧ -1000000≤x.c9∧x.c9≤1000000:=by
 unfold a0f at h
 simp only [Bool.and_eq_true,Bool.or_eq_true] at h
 obtain ⟨h1,h2,h3,_,h4,h5⟩:=h
 refine ⟨by simpa [p7] using h1,by simpa [p7] using h2,by simpa using h3,c8z h4,d5A h5⟩
def a49 (l:List l9) (r:m9):Bool:=r.a7.all fun x=>match l[x.d9.toNat]? with
 | some b=>b.i6==x.i6
 | none=>true
theorem a9f {l:List l9} (h:E0 l=true):l.length=4:=by
 unfold E0 at h
 simp only [Bool.and_eq_true,beq_iff_eq] at h
 exact h.1
theorem a3w {l:List l9} (h:E0 l=true):s8 l:=by
 unfold s8
 rw [a9f h]
 decide
theorem a6B {l:List l9} (h:E0 l=true) {b:Int} (hb:0≤b∧b≤3) : ∃ x,idx l b=some x∧l[b.toNat]?=some x∧a3Q x=true:=by
 have hl:=a9f h
 have hlt:b.toNat<l.length:=by omega
 refine ⟨l[b.toNat],?_,List.getElem?_eq_getElem hlt,?_⟩
 ·unfold idx
  rw [if_pos hb.1,List.getElem?_eq_getElem hlt]
 ·unfold E0 at h
  simp only [Bool.and_eq_true] at h
  exact List.all_eq_true.1 h.2 _ (List.getElem_mem hlt)
theorem e5h {l:List l9} {r:m9} (hl:s8 l) (hr:a2U r):b8b l r=some (E0 l&&(a0f r&&a49 l r)):=by
 unfold b8b
 rw [b8f hl,c6U hr]
 simp only [Option.bind_some]
 cases h1:E0 l
 ·rfl
 cases h2:a0f r
 ·rfl
 have hp:=a8w h2
 simp only [Bool.not_true,cond_false,Bool.true_and]
 rw [U3 r.a7 (hr.1.fits (by decide)) (fun x=>match l[x.d9.toNat]? with | some b=>b.i6==x.i6 | none=>true) false ()]
 ·unfold a49
  cases r.a7.all _<;>rfl
 ·intro k hk
  have hm:=hp.2.2.2.1 _ (List.getElem_mem hk)
  obtain ⟨b,hb1,hb2,_⟩:=a6B h1 (b:=r.a7[k].d9) ⟨hm.1,hm.2.1⟩
  unfold b6K
  rw [x9 _ k hk,t9 hk]
  simp only [cond_true,Option.bind_some,hb1,hb2]
  unfold bne
  cases b.i6==r.a7[k].i6<;>rfl
 ·unfold b6K
  rw [B0]; rfl
theorem d7Z {l:List l9} {r:m9} (hl:s8 l) (hr:a2U r):b8D l r=some (E0 l&&(a0f r&&a49 l r)):=by
 unfold b8D
 rw [b1H hl,c1e hr]
 simp only [Option.bind_some]
 cases h1:E0 l
 ·rfl
 cases h2:a0f r
 ·rfl
 have hp:=a8w h2
 simp only [Bool.not_true,cond_false,Bool.true_and]
 rw [U3 r.a7 (hr.1.fits (by decide)) (fun x=>match l[x.d9.toNat]? with | some b=>b.i6==x.i6 | none=>true) false ()]
 ·unfold a49
  cases r.a7.all _<;>rfl
 ·intro k hk
  have hm:=hp.2.2.2.1 _ (List.getElem_mem hk)
  obtain ⟨b,hb1,hb2,_⟩:=a6B h1 (b:=r.a7[k].d9) ⟨hm.1,hm.2.1⟩
  unfold b5q
  rw [x9 _ k hk,t9 hk]
  simp only [cond_true,Option.bind_some,hb1,hb2]
  unfold bne
  cases b.i6==r.a7[k].i6<;>rfl
 ·unfold b5q
  rw [B0]; rfl
def a6l (l:List l9) (p:m8):List l9:=match l[p.d9.toNat]? with
 | some b=>l.set p.d9.toNat ⟨if b.i6+1<1000000 then b.i6+1 else 1000000,p.c9⟩
 | none=>l
def b3D (l:List l9) (ps:List m8):List l9:=ps.foldl a6l l
def a3J (x:m8):Prop:=0≤x.d9∧x.d9≤3 ∧ -1000000≤x.c9∧x.c9≤1000000
theorem d4U {l:List l9} {p:m8} {b:l9} (h:l[p.d9.toNat]?=some b):a6l l p=l.set p.d9.toNat ⟨if b.i6+1<1000000 then b.i6+1 else 1000000,p.c9⟩:=by
 unfold a6l
 rw [h]
theorem b5u {b:l9}:a3Q b=true↔(0≤b.i6∧b.i6≤1000000)∧(-1000000≤b.c9∧b.c9≤1000000):=by
 unfold a3Q p7
 simp
theorem d9x {l:List l9}:E0 l=true↔l.length=4 ∧ ∀ b∈l,a3Q b=true:=by
 unfold E0
 simp
theorem e3X {l:List l9} {p:m8} (h:E0 l=true) (hp:a3J p):E0 (a6l l p)=true:=by
 obtain ⟨b,_,h2,h3⟩:=a6B h (b:=p.d9) ⟨hp.1,hp.2.1⟩
 rw [d9x] at h ⊢
 unfold a6l
 rw [h2]
 refine ⟨by simpa using h.1,fun x hx => ?_⟩
 rcases List.mem_or_eq_of_mem_set hx with hx | rfl
 ·exact h.2 x hx
 ·rw [b5u] at h3 ⊢
  refine ⟨?_,hp.2.2⟩
  simp only
  split<;>omega
theorem b7h : ∀ {ps:List m8} {l:List l9},E0 l=true→(∀ p∈ps,a3J p)→E0 (b3D l ps)=true
 | [],l,h,_=>h
 | p::ps,l,h,hp=>b7h (ps:=ps) (e3X h (hp p (by simp))) fun x hx=>hp x (by simp [hx])
theorem d1s {l:List l9} {ps:List m8} (h:E0 l=true) (hp : ∀ p∈ps,a3J p) (k:Nat):E0 ((ps.take k).foldl a6l l)=true :=
 b7h h fun p hq=>hp p (List.mem_of_mem_take hq)
theorem d5S {l:List l9} {r:m9} (hl:E0 l=true) (hr:a2U r) (hp : ∀ p∈r.a8,a3J p):b1U l r=some (b3D l r.a8):=by
 unfold b1U
 rw [d4v r.a8 (hr.2.1.fits (by decide)) a6l l id]
 ·rfl
 ·intro k hk
  have hq:=hp _ (List.getElem_mem hk)
  obtain ⟨b,h1,h2,h3⟩:=a6B (d1s hl hp k) (b:=r.a8[k].d9) ⟨hq.1,hq.2.1⟩
  rw [b5u] at h3
  unfold b8v
  rw [x9 _ k hk,t9 hk]
  simp only [cond_true,Option.bind_some,h1]
  unfold c1u
  rw [d4U h2,D4 (n:=b.i6+1) (by omega) (by omega)]
  by_cases hv:b.i6+1<1000000
  ·have : ¬ (1000000:Int)<b.i6+1:=by omega
   simp [hv,this]
  ·by_cases hv2:(1000000:Int)<b.i6+1
   ·simp [hv,hv2]
   ·have:b.i6+1=1000000:=by omega
    simp [hv,hv2,this]
 ·unfold b8v
  rw [B0]; rfl
theorem c4K {l:List l9} (h:l.length * 16≤140737488351232):a7v l=some l:=by
 unfold a7v t5
 cases l with
 | nil=>rfl
 | cons x l =>
  have h1:(((x::l).length:Int)==0)=false:=by simp; omega
  rw [h1,cond_false,if_pos (by constructor<;>omega),if_pos (by simp)]
theorem d3h {l:List n3} (h:l.length * 32≤140737488351232):a7m l=some l:=by
 unfold a7m t5
 cases l with
 | nil=>rfl
 | cons x l =>
  have h1:(((x::l).length:Int)==0)=false:=by simp; omega
  rw [h1,cond_false,if_pos (by constructor<;>omega),if_pos (by simp)]
theorem c9i {l:List l9} {r:m9} (hl:E0 l=true) (hr:a2U r) (hok:a0f r=true):b1W l r=some (b3D l r.a8):=by
 have hp : ∀ p∈r.a8,a3J p:=(a8w hok).2.2.2.2
 unfold b1W
 rw [b1H (a3w hl),c1e hr,hl,hok]
 simp only [Option.bind_some,Bool.not_true,cond_false]
 rw [c4K (by rw [a9f hl]; decide),Option.bind_some,d4v r.a8 (hr.2.1.fits (by decide)) a6l l id]
 ·rfl
 ·intro k hk
  have hq:=hp _ (List.getElem_mem hk)
  obtain ⟨b,h1,h2,h3⟩:=a6B (d1s hl hp k) (b:=r.a8[k].d9) ⟨hq.1,hq.2.1⟩
  rw [b5u] at h3
  unfold b77
  rw [x9 _ k hk,t9 hk]
  simp only [cond_true,Option.bind_some,h1]
  rw [d4U h2,D4 (n:=b.i6+1) (by omega) (by omega)]
 ·unfold b77
  rw [B0]; rfl
def a7K (d:n3):Bool:=(p7 d.a5.b9 0 2&&p7 d.a5.Seq 1 1000)&&(p7 d.Code 0 2&&(p7 d.c9 (-1000000) 1000000&&(d.Code==0||d.c9==0)))
def a4q (l:List n3):Prop:=l.Pairwise fun a b=>a.a5.b9<b.a5.b9
def O9 (d:n3) (st:List n3×Bool) (x:n3):List n3×Bool :=
 bif !st.2&&decide (x.a5.b9≥d.a5.b9) then (bif x.a5.b9 != d.a5.b9 then (st.1++[d])++[x] else st.1++[d],true) else (bif x.a5.b9 != d.a5.b9 then st.1++[x] else st.1,st.2)
def a1K (l:List n3) (d:n3):List n3 :=
 let r:=l.foldl (O9 d) ([],false)
 bif !r.2 then r.1++[d] else r.1
theorem e3V (d:n3) (st:List n3×Bool) (x:n3):(O9 d st x).1.length≤st.1.length+2:=by
 unfold O9
 cases !st.2&&decide (x.a5.b9≥d.a5.b9)<;>cases x.a5.b9 != d.a5.b9<;>simp
theorem c38 (d:n3) : ∀ (l:List n3) (st:List n3×Bool),(l.foldl (O9 d) st).1.length≤st.1.length+2 * l.length
 | [],st=>by simp
 | x::l,st=>by
  have h1:=c38 d l (O9 d st x)
  have h2:=e3V d st x
  simp only [List.foldl_cons,List.length_cons]
  omega
theorem c4w (d:n3) : ∀ {l:List n3} {o:List n3},(∀ x∈l,d.a5.b9<x.a5.b9)→l.foldl (O9 d) (o,true)=(o++l,true)
 | [],o,_=>by simp
 | x::l,o,h=>by
  have hx:=h x (by simp)
  have hne:(x.a5.b9 != d.a5.b9)=true:=by simp; omega
  rw [List.foldl_cons,show O9 d (o,true) x=(o++[x],true) from by unfold O9; simp [hne],c4w d fun y hy=>h y (by simp [hy])]
  simp
theorem d5l (d:n3) : ∀ {l o:List n3},a4q l →
  (let r:=l.foldl (O9 d) (o,false); bif !r.2 then r.1++[d] else r.1)=o++(l.filter (fun x=>decide (x.a5.b9<d.a5.b9))++d::l.filter (fun x=>decide (d.a5.b9<x.a5.b9)))
 | [],o,_=>by simp
 | x::l,o,h=>by
  obtain ⟨h1,h2⟩:=List.pairwise_cons.1 h
  rw [List.foldl_cons]
  by_cases hlt:x.a5.b9<d.a5.b9
  ·have hge : ¬ x.a5.b9≥d.a5.b9:=by omega
   have hne:(x.a5.b9 != d.a5.b9)=true:=by simp; omega
   have hngt : ¬ d.a5.b9<x.a5.b9:=by omega
   rw [show O9 d (o,false) x=(o++[x],false) from by unfold O9; simp [hge,hne],d5l d h2]
   simp [hlt,hngt]
  ·have hge:x.a5.b9≥d.a5.b9:=by omega
   have hall : ∀ y∈l,d.a5.b9<y.a5.b9:=fun y hy=>by have:=h1 y hy; omega
   have hf1:l.filter (fun x=>decide (x.a5.b9<d.a5.b9))=[]:=by
    rw [List.filter_eq_nil_iff]
    intro y hy
    have:=hall y hy
    simp
    omega
   have hf2:l.filter (fun x=>decide (d.a5.b9<x.a5.b9))=l:=by
    rw [List.filter_eq_self]
    intro y hy
    simpa using hall y hy
   by_cases heq:x.a5.b9=d.a5.b9
   ·have hngt : ¬ d.a5.b9<x.a5.b9:=by omega
    rw [show O9 d (o,false) x=(o++[d],true) from by unfold O9; simp [hge,heq],c4w d hall]
    simp [hlt,hngt,hf1,hf2]
   ·have hgt:d.a5.b9<x.a5.b9:=by omega
    have hne:(x.a5.b9 != d.a5.b9)=true:=by simpa using heq
    rw [show O9 d (o,false) x=((o++[d])++[x],true) from by unfold O9; simp [hge,hne],c4w d hall]
    simp [hlt,hgt,hf1,hf2]
theorem c1D {l:List n3} (d:n3) (h:a4q l):a1K l d=l.filter (fun x=>decide (x.a5.b9<d.a5.b9))++d::l.filter (fun x=>decide (d.a5.b9<x.a5.b9)):=by
 have:=d5l d (o:=[]) h
 simpa [a1K] using this
theorem d7F {l:List n3} (d:n3) (h:a4q l):a4q (a1K l d):=by
 rw [c1D d h]
 unfold a4q
 rw [List.pairwise_append,List.pairwise_cons]
 refine ⟨h.filter _,⟨fun y hy=>by simpa using (List.mem_filter.1 hy).2,h.filter _⟩,fun a ha b hb => ?_⟩
 have h1:a.a5.b9<d.a5.b9:=by simpa using (List.mem_filter.1 ha).2
 rcases List.mem_cons.1 hb with rfl | hb
 ·exact h1
 ·have h2:d.a5.b9<b.a5.b9:=by simpa using (List.mem_filter.1 hb).2
  omega
theorem e6G {l:List n3} {d x:n3} (h:a4q l) (hx:x∈a1K l d):x∈l∨x=d:=by
 rw [c1D d h] at hx
 rcases List.mem_append.1 hx with hx | hx
 ·exact .inl (List.mem_filter.1 hx).1
 ·rcases List.mem_cons.1 hx with rfl | hx
  ·exact .inr rfl
  ·exact .inl (List.mem_filter.1 hx).1
theorem c6P {l:List n3} (d:n3) (h:a4q l):(a1K l d).length≤l.length+1:=by
 rw [c1D d h]
 have:(l.filter fun x=>decide (x.a5.b9<d.a5.b9)).length+(l.filter fun x=>decide (d.a5.b9<x.a5.b9)).length≤l.length:=by
  clear h
  induction l with
  | nil=>simp
  | cons x l ih =>
   by_cases h1:x.a5.b9<d.a5.b9
   ·have h2 : ¬ d.a5.b9<x.a5.b9:=by omega
    simp [h1,h2]; omega
   ·by_cases h2:d.a5.b9<x.a5.b9
    ·simp [h1,h2]; omega
    ·simp [h1,h2]; omega
 simp only [List.length_append,List.length_cons]
 omega
structure Inv (s:o9) (k:Nat):Prop where
 at_:s.At=(k:Int)
 le:k≤40
 boxes:E0 s.d7=true
 sorted:a4q s.f0
 dones : ∀ d∈s.f0,a7K d=true
 len:s.f0.length≤k
theorem Inv.fits {s:o9} {k:Nat} (h:Inv s k):s8 s.f0:=by
 have:=h.len
 have:=h.le
 unfold s8
 omega
theorem c6O {α:Type} {o:List α} {d:α} (h:o.length≤80):((o++[d]).length+1) * 32≤140737488355328:=by
 rw [show (o++[d]).length=o.length+1 from by simp]
 omega
theorem e0X {l:List n3} {d:n3} (hl:l.length≤40):b7X l d=some (a1K l d):=by
 have hf:s8 l:=by unfold s8; omega
 have hlen : ∀ k,k≤l.length→((l.take k).foldl (O9 d) ([],false)).1.length≤80:=by
  intro k hk
  have:=c38 d (l.take k) ([],false)
  simp only [List.length_nil,List.length_take] at this
  omega
 unfold b7X
 have hloop:=a1j (body:=fun s:(List n3)×Bool×Int=>b3J l d s.1 s.2.1 s.2.2) (fun k=>(((l.take k).foldl (O9 d) ([],false)).1,((l.take k).foldl (O9 d) ([],false)).2,(k:Int))) l.length (by
  intro k hk
  have hb:=hlen k (by omega)
  rw [List.take_succ_eq_append_getElem hk,List.foldl_append]
  generalize (l.take k).foldl (O9 d) ([],false)=st at hb
  obtain ⟨o,i⟩:=st
  simp only at hb
  simp only [List.foldl_cons,List.foldl_nil]
  unfold b3J c1O c4N O9
  rw [x9 _ k hk,t9 hk,J2 hf hk]
  have n1:(o.length+1) * 32≤140737488355328:=by omega
  have n2:((o++[d]).length+1) * 32≤140737488355328:=c6O (by omega)
  cases i<;>cases h1:decide (l[k].a5.b9≥d.a5.b9)<;>cases h2:l[k].a5.b9 != d.a5.b9<;>simp only [h1,h2,u7 n1,u7 n2,cond_true,cond_false,Option.bind_some,j9.go,Bool.not_true,Bool.not_false,Bool.true_and,Bool.false_and])
 simp only [List.take_zero,List.foldl_nil,List.take_length] at hloop
 rw [show ((0:Nat):Int)=0 from rfl] at hloop
 rw [hloop,G5 (b:=l.foldl (O9 d) ([],false))]
 ·have hb:=hlen l.length (Nat.le_refl _)
  rw [List.take_length] at hb
  unfold c0w c4t a1K
  generalize l.foldl (O9 d) ([],false)=st at hb
  obtain ⟨o,i⟩:=st
  have n1:(o.length+1) * 32≤140737488355328:=by simp only at hb; omega
  cases i<;>simp only [u7 n1,cond_true,cond_false,Option.bind_some,j9.go,Bool.not_true,Bool.not_false]
 ·unfold b3J
  rw [B0]; rfl
def a2W (s:o9) (e:l7):o9×Int :=
 bif a49 s.d7 e.a9 then
  (bif e.a9.Code==0 then (⟨s.At+1,b3D s.d7 e.a9.a8,a1K s.f0 ⟨e.a5,0,e.a9.c9⟩⟩,0)
  else (⟨s.At+1,s.d7,a1K s.f0 ⟨e.a5,2,0⟩⟩,2))
 else (⟨s.At+1,s.d7,a1K s.f0 ⟨e.a5,1,0⟩⟩,1)
def apply (s:o9) (e:l7):o9×Int :=
 bif e.g8 then (⟨s.At+1,s.d7,s.f0⟩,5) else
 match s.f0.find? (fun d=>d.a5.b9==e.a5.b9) with
 | some d=>bif d.a5.Seq==e.a5.Seq then (⟨s.At+1,s.d7,s.f0⟩,3) else bif decide (d.a5.Seq>e.a5.Seq) then (⟨s.At+1,s.d7,s.f0⟩,4) else a2W s e
 | none=>a2W s e
theorem b0N {e:l7} (h:A6 e=true) (hn:e.g8=false):(0≤e.a5.b9∧e.a5.b9≤2)∧(1≤e.a5.Seq∧e.a5.Seq≤1000)∧a0f e.a9=true∧e.a9.Code≠3:=by
 unfold A6 at h
 rw [hn] at h
 simp [p7] at h
 exact ⟨h.1.1,h.1.2,h.2.1,h.2.2⟩
theorem d9Y {s:o9} (h:s8 s.f0) (who:Int):b8J s who=some (match s.f0.find? (fun d=>d.a5.b9==who) with | some d=>(d,true) | none=>(⟨⟨0,0⟩,0,0⟩,false)):=by
 unfold b8J
 rw [b24 s.f0 h (fun d=>d.a5.b9==who) (fun d=>(d,true)) ()]
 ·cases s.f0.find? fun d=>d.a5.b9==who<;>rfl
 ·intro k hk
  unfold b6w
  rw [x9 _ k hk,t9 hk]
  simp only [cond_true,Option.bind_some]
  cases s.f0[k].a5.b9==who<;>rfl
 ·unfold b6w
  rw [B0]; rfl
theorem b8R {s:o9} {k:Nat} {e:l7} (hs:Inv s k) (hk:k<40) (he:A6 e=true) (hf:a2o e):a7C s e=some (apply s e):=by
 have hw:n8 (s.At+1)=s.At+1:=by rw [hs.at_]; exact D4 (by omega) (by omega)
 unfold a7C apply
 rw [hw,d9Y (s:=⟨s.At+1,s.d7,s.f0⟩) hs.fits]
 cases hn:e.g8
 case true=>rfl
 obtain ⟨_,_,hr,hc3⟩:=b0N he hn
 have hp : ∀ p∈e.a9.a8,a3J p:=(a8w hr).2.2.2.2
 have hfr:b8U s e=some (a2W s e):=by
  unfold b8U c2p c5l a2W
  simp only [e5h (a3w hs.boxes) hf.2,hs.boxes,hr,Bool.true_and,Option.bind_some,hw,e0X (Nat.le_trans hs.len (by omega)),d5S hs.boxes hf.2 hp]
  cases a49 s.d7 e.a9
  ·rfl
  ·cases e.a9.Code==0<;>rfl
 simp only [cond_false,Option.bind_some,hfr]
 cases hfd:s.f0.find? fun d=>d.a5.b9==e.a5.b9 with
 | none=>rfl
 | some d =>
  have hwho:d.a5.b9=e.a5.b9:=by simpa using List.find?_some hfd
  have hq:(([d.a5.b9,d.a5.Seq]:List Int)==[e.a5.b9,e.a5.Seq])=(d.a5.Seq==e.a5.Seq):=by
   rw [hwho]; simp
  simp only [hq,cond_true]
  cases d.a5.Seq==e.a5.Seq
  ·cases decide (d.a5.Seq>e.a5.Seq)<;>rfl
  ·rfl
theorem e0f {l:List n3} (h:a4q l) (who seq:Int):l.find? (fun d=>d.a5.b9==who&&decide (d.a5.Seq≥seq))=match l.find? (fun d=>d.a5.b9==who) with
  | some d=>bif decide (d.a5.Seq≥seq) then some d else none
  | none=>none:=by
 induction l with
 | nil=>rfl
 | cons x l ih =>
  obtain ⟨h1,h2⟩:=List.pairwise_cons.1 h
  rw [List.find?_cons,List.find?_cons]
  cases hx:x.a5.b9==who with
  | false=>simpa using ih h2
  | true =>
   cases hs:decide (x.a5.Seq≥seq) with
   | true=>simp [hs]
   | false =>
    simp only [Bool.and_false,hs,cond_false]
    rw [List.find?_eq_none]
    intro y hy
    have:=h1 y hy
    have hx':x.a5.b9=who:=by simpa using hx
    simp
    intro hyw
    omega
theorem e0Y {s:o9} {k:Nat} (hs:Inv s k):b62 s=some true:=by
 unfold b62
 have hloop:=a1j (body:=fun v:Int=>b2s s v) (fun j=>(j:Int)) s.f0.length (by
  intro j hj
  have hd:=hs.dones _ (List.getElem_mem hj)
  unfold a7K at hd
  simp only [Bool.and_eq_true,Bool.or_eq_true] at hd
  obtain ⟨⟨d1,d2⟩,d3,d4,d5⟩:=hd
  unfold b2s c3p
  rw [x9 _ j hj,t9 hj,J2 hs.fits hj]
  simp only [cond_true,Option.bind_some,b5F,Z2,d1,d2,d3,d4,Bool.and_true,Bool.not_true,cond_false]
  cases j with
  | zero =>
   rw [show decide (((0:Nat):Int)>0)=false from by decide]
   simp only [cond_false]
   unfold bne
   rcases d5 with d5 | d5<;>simp [d5,j9.go,Option.bind]
  | succ j =>
   have hlt:(s.f0[j]'(by omega)).a5.b9<s.f0[j+1].a5.b9:=List.pairwise_iff_getElem.1 hs.sorted j (j+1) (by omega) hj (by omega)
   have hge : ¬ (s.f0[j]'(by omega)).a5.b9≥s.f0[j+1].a5.b9:=by omega
   have hle:=hs.fits
   unfold s8 at hle
   rw [show n8 (((j+1:Nat):Int) - 1)=(j:Int) from by rw [D4 (by omega) (by omega)]; omega,t9 (show j<s.f0.length by omega)]
   have hpos:decide (((j+1:Nat):Int)>0)=true:=by simp
   simp only [hpos,cond_true,Option.bind_some,hge,decide_false,cond_false]
   unfold bne
   rcases d5 with d5 | d5<;>simp [d5,j9.go,Option.bind])
 rw [show ((0:Nat):Int)=0 from rfl] at hloop
 rw [hloop,G5 (b:=())]
 ·unfold c5n
  have:=hs.le
  have ha:p7 s.At 0 40=true:=by rw [hs.at_]; simp [p7]; omega
  simp [j9.go,Z2,ha,b1H (a3w hs.boxes),hs.boxes]
 ·unfold b2s
  rw [B0]; rfl
theorem c3V {s:o9} {own:n3} {bx:List l9} (hl:s.f0.length≤40) (hw:n8 (s.At+1)=s.At+1) (hd:a4q s.f0):b4A s own bx=some (⟨s.At+1,bx,a1K s.f0 own⟩,own.Code):=by
 have hf:s8 s.f0:=by unfold s8; omega
 have hlen : ∀ k,k≤s.f0.length→((s.f0.take k).foldl (O9 own) ([],false)).1.length≤80:=by
  intro k hk
  have:=c38 own (s.f0.take k) ([],false)
  simp only [List.length_nil,List.length_take] at this
  omega
 unfold b4A
 have hloop:=a1j (body:=fun x:(List n3)×Int×Bool=>b4s s own x.1 x.2.1 x.2.2) (fun k=>(((s.f0.take k).foldl (O9 own) ([],false)).1,(k:Int),((s.f0.take k).foldl (O9 own) ([],false)).2)) s.f0.length (by
  intro k hk
  have hb:=hlen k (by omega)
  rw [List.take_succ_eq_append_getElem hk,List.foldl_append]
  generalize (s.f0.take k).foldl (O9 own) ([],false)=st at hb
  obtain ⟨o,i⟩:=st
  simp only at hb
  simp only [List.foldl_cons,List.foldl_nil]
  unfold b4s c5A c1l O9
  rw [x9 _ k hk,t9 hk,J2 hf hk]
  have n1:(o.length+1) * 32≤140737488355328:=by omega
  have n2:((o++[own]).length+1) * 32≤140737488355328:=c6O (by omega)
  cases i<;>cases h1:decide (s.f0[k].a5.b9≥own.a5.b9)<;>cases h2:s.f0[k].a5.b9 != own.a5.b9<;>simp only [h1,h2,u7 n1,u7 n2,cond_true,cond_false,Option.bind_some,j9.go,Bool.not_true,Bool.not_false,Bool.true_and,Bool.false_and])
 simp only [List.take_zero,List.foldl_nil,List.take_length] at hloop
 rw [show ((0:Nat):Int)=0 from rfl] at hloop
 rw [hloop,G5 (b:=s.f0.foldl (O9 own) ([],false))]
 ·have hb:=hlen s.f0.length (Nat.le_refl _)
  rw [List.take_length] at hb
  have hpl:=c6P own hd
  have hcp:a7m (a1K s.f0 own)=some (a1K s.f0 own):=d3h (by omega)
  unfold c3k c02
  unfold a1K at hcp ⊢
  generalize s.f0.foldl (O9 own) ([],false)=st at hb hcp
  obtain ⟨o,i⟩:=st
  have n1:(o.length+1) * 32≤140737488355328:=by simp only at hb; omega
  cases i<;>simp only [u7 n1,cond_true,cond_false,Option.bind_some,j9.go,Bool.not_true,Bool.not_false,hw] at hcp ⊢ <;> rw [hcp]<;>rfl
 ·unfold b4s
  rw [B0]; rfl
theorem c5U {s:o9} {k:Nat} {e:l7} (hs:Inv s k) (hk:k<40) (he:A6 e=true) (hf:a2o e):b5M s e=some (apply s e):=by
 have hw:n8 (s.At+1)=s.At+1:=by rw [hs.at_]; exact D4 (by omega) (by omega)
 have hl:=hs.len
 have hcd:a7m s.f0=some s.f0:=d3h (by omega)
 have hcb:a7v s.d7=some s.d7:=c4K (by rw [a9f hs.boxes]; decide)
 have hat:(s.At==40)=false:=by rw [hs.at_]; simp; omega
 unfold b5M apply
 rw [e0Y hs,a7D hf,he]
 simp only [Option.bind_some,Bool.not_true,cond_false,hat,hcb,hcd,hw]
 cases hn:e.g8
 case true=>rfl
 obtain ⟨_,_,hr,hc3⟩:=b0N he hn
 have hfr:b4D s e s.d7=some (a2W s e):=by
  unfold b4D a2W
  simp only [d7Z (a3w hs.boxes) hf.2,hs.boxes,hr,Bool.true_and,Option.bind_some,c9i hs.boxes hf.2 hr]
  cases a49 s.d7 e.a9
  ·simp only [Bool.not_false,cond_true,cond_false,Option.bind_some,j9.go]
   exact c3V (by omega) hw hs.sorted
  ·unfold bne
   cases e.a9.Code==0
   ·simp only [Bool.not_false,Bool.not_true,cond_true,cond_false,Option.bind_some,j9.go]
    exact c3V (by omega) hw hs.sorted
   ·simp only [Bool.not_true,cond_true,cond_false,Option.bind_some,j9.go]
    exact c3V (by omega) hw hs.sorted
 simp only [cond_false]
 rw [b24 s.f0 hs.fits (fun d=>d.a5.b9==e.a5.b9&&decide (d.a5.Seq≥e.a5.Seq)) (fun d=>(⟨s.At+1,s.d7,s.f0⟩,bif d.a5.Seq==e.a5.Seq then 3 else 4)) ()]
 ·rw [e0f hs.sorted]
  cases s.f0.find? fun d=>d.a5.b9==e.a5.b9 with
  | none=>simp only [Option.bind_some,j9.go,hfr]
  | some d =>
   cases hq:d.a5.Seq==e.a5.Seq with
   | true =>
    have:d.a5.Seq≥e.a5.Seq:=by
     have:d.a5.Seq=e.a5.Seq:=by simpa using hq
     omega
    simp [this,j9.go,hq]
   | false =>
    have hne:d.a5.Seq≠e.a5.Seq:=by simpa using hq
    by_cases hg:d.a5.Seq>e.a5.Seq
    ·have:d.a5.Seq≥e.a5.Seq:=by omega
     simp [this,j9.go,hg,hq]
    ·have : ¬ d.a5.Seq≥e.a5.Seq:=by omega
     simp [this,j9.go,hg,hfr,hq]
 ·intro j hj
  unfold b7s c4i
  rw [x9 _ j hj,t9 hj]
  simp only [cond_true,Option.bind_some,hcd,hw]
  cases h1:s.f0[j].a5.b9==e.a5.b9<;>cases h2:decide (s.f0[j].a5.Seq≥e.a5.Seq)<;>cases h3:s.f0[j].a5.Seq==e.a5.Seq<;>simp only [cond_true,cond_false,Option.bind_some,j9.go,Bool.true_and,Bool.false_and,Bool.and_true,Bool.and_false]
 ·unfold b7s
  rw [B0]; rfl
theorem d7S {s:o9} {k:Nat} {e:l7} (hs:Inv s k) (hk:k<40) (he:A6 e=true) (hn:e.g8=false):Inv (a2W s e).1 (k+1)∧0≤(a2W s e).2∧(a2W s e).2≤5:=by
  obtain ⟨h1,h2,hr,hc3⟩:=b0N he hn
  have hp:=a8w hr
  have hat:s.At+1=((k+1:Nat):Int):=by rw [hs.at_]; rfl
  have key : ∀ (bx:List l9) (d:n3),E0 bx=true→a7K d=true→Inv ⟨s.At+1,bx,a1K s.f0 d⟩ (k+1):=fun bx d hb hd =>
    { at_:=hat,le:=by omega,boxes:=hb,sorted:=d7F d hs.sorted
      dones:=fun x hx=>by
        rcases e6G hs.sorted hx with hx | rfl
        · exact hs.dones x hx
        · exact hd
      len:=by
        have:=c6P d hs.sorted
        have:=hs.len
        simp only
        omega }
  have hd0 : ∀ c:Int,0≤c→c≤2→a7K ⟨e.a5,c,0⟩=true:=by
    intro c c1 c2
    unfold a7K p7
    simp
    omega
  have hd1:a7K ⟨e.a5,0,e.a9.c9⟩=true:=by
    unfold a7K p7
    simp
    omega
  unfold a2W
  cases a49 s.d7 e.a9
  · exact ⟨key _ _ hs.boxes (hd0 1 (by decide) (by decide)),show (0:Int)≤1 from by decide,show (1:Int)≤5 from by decide⟩
  · cases e.a9.Code==0
    · exact ⟨key _ _ hs.boxes (hd0 2 (by decide) (by decide)),show (0:Int)≤2 from by decide,show (2:Int)≤5 from by decide⟩
    · exact ⟨key _ _ (b7h hs.boxes hp.2.2.2.2) hd1,show (0:Int)≤0 from by decide,show (0:Int)≤5 from by decide⟩
theorem d9J {s:o9} {k:Nat} {e:l7} (hs:Inv s k) (hk:k<40) (he:A6 e=true):Inv (apply s e).1 (k+1)∧0≤(apply s e).2∧(apply s e).2≤5:=by
 have hat:s.At+1=((k+1:Nat):Int):=by rw [hs.at_]; rfl
 have key:Inv ⟨s.At+1,s.d7,s.f0⟩ (k+1):={ at_:=hat,le:=by omega,boxes:=hs.boxes,sorted:=hs.sorted,dones:=hs.dones,len:=Nat.le_succ_of_le hs.len }
 unfold apply
 cases hn:e.g8
 ·have hfr:=d7S hs hk he hn
  simp only [cond_false]
  cases s.f0.find? fun d=>d.a5.b9==e.a5.b9 with
  | none=>exact hfr
  | some d =>
   simp only
   cases d.a5.Seq==e.a5.Seq
   ·cases decide (d.a5.Seq>e.a5.Seq)
    ·exact hfr
    ·exact ⟨key,show (0:Int)≤4 from by decide,show (4:Int)≤5 from by decide⟩
   ·exact ⟨key,show (0:Int)≤3 from by decide,show (3:Int)≤5 from by decide⟩
 ·exact ⟨key,show (0:Int)≤5 from by decide,show (5:Int)≤5 from by decide⟩
def U0:o9:=⟨0,List.replicate 4 ⟨0,0⟩,[]⟩
theorem e5B:Inv U0 0:={ at_:=rfl,le:=by omega,boxes:=by decide,sorted:=.nil,dones:=by simp [U0],len:=by simp [U0] }
theorem b8V:a7A=some U0:=by
 unfold a7A b3R
 rw [u7 (by decide)]
 rfl
theorem d6D:b5i=some U0:=by
 unfold b5i b3Y
 rw [u7 (by decide)]
 rfl
def a9d (st:o9×List Int) (e:l7):o9×List Int:=((apply st.1 e).1,st.2++[(apply st.1 e).2])
def q8 (l:List l7):o9×List Int:=l.foldl a9d (U0,[])
theorem a4n {l:List l7} {k:Nat} (hk:k<l.length):q8 (l.take (k+1))=a9d (q8 (l.take k)) l[k]:=by
 unfold q8
 rw [List.take_succ_eq_append_getElem hk,List.foldl_append]
 rfl
theorem a1q {l:List l7} (hl:l.length≤40) (he:l.all A6=true) : ∀ k,k≤l.length→Inv (q8 (l.take k)).1 k∧(q8 (l.take k)).2.length=k ∧ ∀ c∈(q8 (l.take k)).2,0≤c∧c≤5
 | 0,_=>by
  rw [List.take_zero]
  exact ⟨e5B,rfl,by simp [q8]⟩
 | k+1,hk=>by
  obtain ⟨h1,h2,h3⟩:=a1q hl he k (by omega)
  have ha:=d9J h1 (by omega) (List.all_eq_true.1 he _ (List.getElem_mem (show k<l.length by omega)))
  rw [a4n (show k<l.length by omega)]
  refine ⟨ha.1,by simp [a9d,h2],fun c hc => ?_⟩
  unfold a9d at hc
  rcases List.mem_append.1 hc with hc | hc
  ·exact h3 c hc
  ·rw [List.mem_singleton] at hc
   rw [hc]
   exact ha.2
theorem a2j {l:List l7} (h:I9 l=true):l.length≤40∧l.all A6=true:=by
 unfold I9 at h
 simpa using h
theorem c1x {l:List l7} (h:B9 88 a2o l) (hl:l.length≤40) (he:l.all A6=true):b01 l=some (q8 l):=by
  have hf:s8 l:=h.fits (by decide)
  unfold b01
  rw [d6D,Option.bind_some]
  first
  | (have hloop:=a1j (body:=fun s:(List l9)×(List n3)×(List Int)×Int×Int=>a2e l s.1 s.2.1 s.2.2.1 s.2.2.2.1 s.2.2.2.2) (fun k=>((q8 (l.take k)).1.d7,(q8 (l.take k)).1.f0,(q8 (l.take k)).2,(k:Int),(q8 (l.take k)).1.At)) l.length (by
       intro k hk
       obtain ⟨h1,h2,h3⟩:=a1q hl he k (by omega)
       have n1:((q8 (l.take k)).2.length+1) * 8≤140737488355328:=by rw [h2]; omega
       rw [a4n hk]
       unfold a2e
       rw [x9 _ k hk,t9 hk,J2 hf hk]
       simp only [cond_true,Option.bind_some]
       rw [c5U h1 (by omega) (List.all_eq_true.1 he _ (List.getElem_mem hk)) (h.2 _ (List.getElem_mem hk)),Option.bind_some,u7 n1]
       rfl)
     rw [List.take_zero,List.take_length] at hloop
     rw [show ((0:Nat):Int)=0 from rfl] at hloop
     rw [show q7 (fun s:(List l9)×(List n3)×(List Int)×Int×Int=>a2e l s.1 s.2.1 s.2.2.1 s.2.2.2.1 s.2.2.2.2) (U0.d7,U0.f0,([]:List Int),0,U0.At)=_ from hloop,G5 (b:=((q8 l).1.d7,(q8 l).1.f0,(q8 l).2,(q8 l).1.At))]
     · rfl
     · unfold a2e
       rw [B0]; rfl
     done)
  | (have hloop:=a1j (body:=fun s:o9×(List Int)×Int=>a2e l s.1 s.2.1 s.2.2) (fun k=>((q8 (l.take k)).1,(q8 (l.take k)).2,(k:Int))) l.length (by
       intro k hk
       obtain ⟨h1,h2,h3⟩:=a1q hl he k (by omega)
       have n1:((q8 (l.take k)).2.length+1) * 8≤140737488355328:=by rw [h2]; omega
       rw [a4n hk]
       unfold a2e
       rw [x9 _ k hk,t9 hk,J2 hf hk]
       simp only [cond_true,Option.bind_some]
       rw [c5U h1 (by omega) (List.all_eq_true.1 he _ (List.getElem_mem hk)) (h.2 _ (List.getElem_mem hk)),Option.bind_some,u7 n1]
       rfl)
     rw [List.take_zero,List.take_length] at hloop
     rw [show ((0:Nat):Int)=0 from rfl] at hloop
     rw [show q7 (fun s:o9×(List Int)×Int=>a2e l s.1 s.2.1 s.2.2) (U0,[],0)=_ from hloop,G5 (b:=q8 l)]
     · rfl
     · unfold a2e
       rw [B0]; rfl
     done)
  | (have hloop:=a1j (body:=fun s:(List l9)×(List Int)×Int×Int×List n3=>a2e l s.1 s.2.1 s.2.2.1 s.2.2.2.1 s.2.2.2.2) (fun k=>((q8 (l.take k)).1.d7,(q8 (l.take k)).2,(k:Int),(q8 (l.take k)).1.At,(q8 (l.take k)).1.f0)) l.length (by
       intro k hk
       obtain ⟨h1,h2,h3⟩:=a1q hl he k (by omega)
       have n1:((q8 (l.take k)).2.length+1) * 8≤140737488355328:=by rw [h2]; omega
       rw [a4n hk]
       unfold a2e
       rw [x9 _ k hk,t9 hk,J2 hf hk]
       simp only [cond_true,Option.bind_some]
       rw [show (⟨(q8 (l.take k)).1.At,(q8 (l.take k)).1.d7,(q8 (l.take k)).1.f0⟩:o9)=(q8 (l.take k)).1 from rfl,c5U h1 (by omega) (List.all_eq_true.1 he _ (List.getElem_mem hk)) (h.2 _ (List.getElem_mem hk)),Option.bind_some,u7 n1]
       rfl)
     rw [List.take_zero,List.take_length] at hloop
     rw [show ((0:Nat):Int)=0 from rfl] at hloop
     rw [show q7 (fun s:(List l9)×(List Int)×Int×Int×List n3=>a2e l s.1 s.2.1 s.2.2.1 s.2.2.2.1 s.2.2.2.2) (U0.d7,[],0,U0.At,U0.f0)=_ from hloop,G5 (b:=((q8 l).1.d7,(q8 l).2,(q8 l).1.At,(q8 l).1.f0))]
     · rfl
     · unfold a2e
       rw [B0]; rfl
     done)
def Rd (r:n4) (m:Nat):Prop:=(∀ x∈r.b,a8N x)∧r.b.length≤2000∧0≤r.p∧r.p≤(m:Int)
theorem Rd.mono {r:n4} {m n:Nat} (h:Rd r m) (hn:m≤n):Rd r n:=⟨h.1,h.2.1,h.2.2.1,by have:=h.2.2.2; omega⟩
theorem d7Q {x y:Int} (hx:0≤x) (hx2:x<4611686018427387904) (hy:0≤y) (hy2:y<4611686018427387904):0≤a6L .i64 x y∧a6L .i64 x y<4611686018427387904:=by
 obtain ⟨a,rfl⟩ : ∃ a:Nat,x=(a:Int):=⟨x.toNat,by omega⟩
 obtain ⟨b,rfl⟩ : ∃ b:Nat,y=(b:Int):=⟨y.toNat,by omega⟩
 have hxor:a ^^^ b<2 ^ 62:=Nat.xor_lt_two_pow (by omega) (by omega)
 have h:a6L .i64 (a:Int) (b:Int)=((a ^^^ b:Nat):Int):=by
  unfold a6L
  rw [BitVec.toNat_xor]
  have e1:(BitVec.ofInt IntKind.i64.bits (a:Int)).toNat=a:=by
   show (BitVec.ofInt 64 (a:Int)).toNat=a
   rw [BitVec.toNat_ofInt]
   omega
  have e2:(BitVec.ofInt IntKind.i64.bits (b:Int)).toNat=b:=by
   show (BitVec.ofInt 64 (b:Int)).toNat=b
   rw [BitVec.toNat_ofInt]
   omega
  rw [e1,e2]
  exact IntWalk.i64_in _ ⟨by omega,by omega⟩
 rw [h]
 omega
theorem c3I {l:List Int} (h : ∀ x∈l,a8N x) {i:Int} (h0:0≤i) (h1:i<l.length) : ∃ y,idx l i=some y∧0≤y∧y≤255:=by
 have hlt:i.toNat<l.length:=by omega
 refine ⟨l[i.toNat],?_,h _ (List.getElem_mem hlt)⟩
 unfold idx
 rw [if_pos h0,List.getElem?_eq_getElem hlt]
theorem b7T {x n:Int} (hx:0≤x) (hn:1≤n):0≤Int.tmod x n∧Int.tmod x n<n:=by
 rw [Int.tmod_eq_emod_of_nonneg hx]
 exact ⟨Int.emod_nonneg _ (by omega),Int.emod_lt_of_pos _ (by omega)⟩
theorem c6B {x n:Int} (hx:0≤x) (hn:1≤n):0≤Int.tdiv x n∧Int.tdiv x n≤x:=by
 rw [Int.tdiv_eq_ediv_of_nonneg hx]
 exact ⟨Int.ediv_nonneg hx (by omega),Int.ediv_le_self _ hx⟩
theorem E4 {r:n4} {m:Nat} (h:Rd r m) (hm:m≤1000000000) (n:Int) : ∃ v r',F3 r n=some (v,r')∧Rd r' (m+1)∧0≤v∧(v<n∨v=0):=by
 obtain ⟨hb,hbl,hp0,hp1⟩:=h
 have hw:n8 (r.p+1)=r.p+1:=D4 (by omega) (by omega)
 have hw2:n8 (r.p+1 - 1)=r.p:=by rw [D4 (by omega) (by omega)]; omega
 have hr:Rd ⟨r.b,r.p+1⟩ (m+1):=⟨hb,hbl,by simp only; omega,by simp only; omega⟩
 unfold F3
 simp only [hw,hw2]
 by_cases hn:n<1
 ·simp only [hn,decide_true,cond_true]
  exact ⟨0,_,rfl,hr,by omega,.inr rfl⟩
 simp only [hn,decide_false,cond_false]
 cases he:((r.b.length:Int)==0)
 case true=>exact ⟨0,_,rfl,hr,by omega,.inr rfl⟩
 have hpos:0<r.b.length:=by
  have : ¬ (r.b.length:Int)=0:=by simpa using he
  omega
 have hne:(r.b.length:Int)≠0:=by omega
 have hnn:n≠0:=by omega
 simp only [cond_false]
 by_cases hlt:r.p<(r.b.length:Int)
 ·obtain ⟨y,h1,h2,h3⟩:=c3I hb hp0 hlt
  simp only [hlt,decide_true,cond_true,h1,Option.bind_some,u7 hnn]
  rw [D4 (n:=y) (by omega) (by omega)]
  have:=b7T h2 (show 1≤n by omega)
  exact ⟨_,_,rfl,hr,this.1,.inl this.2⟩
 ·simp only [hlt,decide_false,cond_false,u7 hne,u7 hnn]
  have t1:=b7T hp0 (show (1:Int)≤(r.b.length:Int) by omega)
  obtain ⟨y1,a1,a2,a3⟩:=c3I hb t1.1 t1.2
  have w7:n8 (r.p * 7)=r.p * 7:=D4 (by omega) (by omega)
  have w73:n8 (r.p * 7+3)=r.p * 7+3:=D4 (by omega) (by omega)
  have t2:=b7T (show 0≤r.p * 7+3 by omega) (show (1:Int)≤(r.b.length:Int) by omega)
  obtain ⟨y2,b1,b2,b3⟩:=c3I hb t2.1 t2.2
  simp only [a1,w7,w73,b1,Option.bind_some]
  have td:=c6B hp0 (show (1:Int)≤(r.b.length:Int) by omega)
  have c1:n8 (n8 y1 * 131)=y1 * 131:=by rw [D4 (n:=y1) (by omega) (by omega),D4 (by omega) (by omega)]
  have c2:n8 (n8 y2 * 1117)=y2 * 1117:=by rw [D4 (n:=y2) (by omega) (by omega),D4 (by omega) (by omega)]
  have c3:n8 (r.p * 29)=r.p * 29:=D4 (by omega) (by omega)
  have c4:n8 (n8 (Int.tdiv r.p (r.b.length:Int)) * 53)=Int.tdiv r.p (r.b.length:Int) * 53:=by rw [D4 (n:=Int.tdiv r.p (r.b.length:Int)) (by omega) (by omega),D4 (by omega) (by omega)]
  simp only [c1,c2,c3,c4]
  generalize Int.tdiv r.p (r.b.length:Int)=q at td
  rw [D4 (n:=y1 * 131+y2 * 1117) (by omega) (by omega),D4 (n:=y1 * 131+y2 * 1117+r.p * 29) (by omega) (by omega),D4 (n:=y1 * 131+y2 * 1117+r.p * 29+q * 53) (by omega) (by omega)]
  have hA0:0≤y1 * 131+y2 * 1117+r.p * 29+q * 53:=by omega
  have hA1:y1 * 131+y2 * 1117+r.p * 29+q * 53<1000000000000:=by omega
  generalize y1 * 131+y2 * 1117+r.p * 29+q * 53=A at hA0 hA1
  have t3:=c6B hA0 (show (1:Int)≤64 by omega)
  rw [D4 (n:=Int.tdiv A 64) (by omega) (by omega)]
  have hx:=d7Q hA0 (by omega) t3.1 (by omega)
  have t4:=b7T hx.1 (show 1≤n by omega)
  exact ⟨_,_,rfl,hr,t4.1,.inl t4.2⟩
theorem a7x {r:n4} {m:Nat} (h:Rd r m) (hm:m≤1000000000) (l:List Int) (hl:0<l.length) (hl2:l.length≤1000) : ∃ v r',a7p r l=some (v,r')∧Rd r' (m+1)∧v∈l:=by
 obtain ⟨v,r',h1,h2,h3,h4⟩:=E4 h hm (l.length:Int)
 unfold a7p
 rw [h1,Option.bind_some]
 have hlt:v.toNat<l.length:=by omega
 refine ⟨l[v.toNat],r',?_,h2,List.getElem_mem hlt⟩
 unfold idx
 simp only [if_pos h3,List.getElem?_eq_getElem hlt,Option.bind_some]
theorem d66 {J4:List Int} (h : ∀ x∈J4,a8N x) : ∃ r,b4c J4=some r∧Rd r 0:=by
 unfold b4c c0q
 by_cases hl:(J4.length:Int)>2000
 ·simp only [hl,decide_true,cond_true]
  rw [u7 ⟨by omega,by omega⟩]
  refine ⟨_,rfl,?_,?_,by simp,by simp⟩
  ·intro x hx
   simp only [List.drop_zero] at hx
   exact h x (List.mem_of_mem_take hx)
  ·simp only [List.length_take]
   have:(2000:Int).toNat - 0=2000:=by decide
   omega
 ·simp only [hl,decide_false,cond_false]
  exact ⟨_,rfl,h,by simp only; omega,by simp,by simp⟩
def W6 (i:m5):Bool :=
 bif i.b7==1 then p7 i.A 0 3&&(p7 i.B 0 3&&i.N==0) else
 bif i.b7==2 then p7 i.A 0 3&&(p7 i.B 0 3&&i.N==0) else
 bif i.b7==3 then p7 i.A 0 3&&(i.B==0&&p7 i.N (-1000000) 1000000) else
 bif i.b7==4 then p7 i.A 0 3&&(p7 i.B 0 3&&i.N==0) else
 bif i.b7==5 then p7 i.A 0 3&&(p7 i.B 0 3&&i.N==0) else
 bif i.b7==6 then p7 i.A 0 3&&(p7 i.B 0 3&&p7 i.N 1 10) else
 bif i.b7==7 then i.A==0&&(i.B==0&&i.N==0) else false
theorem d7g (n:Int):a3r n=some (p7 n 0 3):=by
 rw [← Z2]
 unfold a3r I6
 have:(n<4)=(n≤3):=by apply propext; omega
 simp only [this]
theorem e1l (i:m5):b50 i=some (W6 i):=by
 unfold b50 W6
 have h6:(bif decide (i.N≥1) then some (decide (i.N≤10)) else some false)=some (p7 i.N 1 10):=by
  unfold p7
  by_cases h1:i.N≥1<;>by_cases h2:i.N≤10<;>simp [h1,h2]<;>omega
 simp only [d7g,b98,a6E,Option.bind_some,h6]
 cases i.b7==1<;>cases i.b7==2<;>cases i.b7==3<;>cases i.b7==4<;>cases i.b7==5<;>cases i.b7==6<;>cases i.b7==7<;>cases p7 i.A 0 3<;>cases p7 i.B 0 3<;>cases i.A==0<;>cases i.B==0<;>rfl
def H7 (l:List m5):Bool:=decide (l.length≤10)&&l.all W6
theorem b5W {l:List m5} (h:s8 l):b0O l=some (H7 l):=by
 unfold b0O H7
 rw [show (10:Int)=((10:Nat):Int) from rfl,b4g,U3 l h W6 false ()]
 ·cases decide (l.length≤10)
  ·rfl
  ·cases l.all W6<;>rfl
 ·intro k hk
  unfold b47
  rw [x9 _ k hk,t9 hk]
  simp only [cond_true,Option.bind_some,e1l]
  cases W6 l[k]<;>rfl
 ·unfold b47
  rw [B0]; rfl
theorem a8F {i:m5} (h:W6 i=true):(i.b7=1∧(0≤i.A∧i.A≤3)∧(0≤i.B∧i.B≤3))∨(i.b7=2∧(0≤i.A∧i.A≤3)∧(0≤i.B∧i.B≤3))∨(i.b7=3∧(0≤i.A∧i.A≤3)∧(-1000000≤i.N∧i.N≤1000000)) ∨
  (i.b7=4∧(0≤i.A∧i.A≤3)∧(0≤i.B∧i.B≤3))∨(i.b7=5∧(0≤i.A∧i.A≤3)∧(0≤i.B∧i.B≤3))∨(i.b7=6∧(0≤i.A∧i.A≤3)∧(0≤i.B∧i.B≤3)∧(1≤i.N∧i.N≤10))∨(i.b7=7∧i.A=0):=by
 unfold W6 p7 at h
 by_cases h1:i.b7=1
 ·simp [h1] at h; exact .inl ⟨h1,h.1,h.2.1⟩
 by_cases h2:i.b7=2
 ·simp [h2] at h; exact .inr (.inl ⟨h2,h.1,h.2.1⟩)
 by_cases h3:i.b7=3
 ·simp [h3] at h; exact .inr (.inr (.inl ⟨h3,h.1,h.2.2⟩))
 by_cases h4:i.b7=4
 ·simp [h4] at h; exact .inr (.inr (.inr (.inl ⟨h4,h.1,h.2.1⟩)))
 by_cases h5:i.b7=5
 ·simp [h5] at h; exact .inr (.inr (.inr (.inr (.inl ⟨h5,h.1,h.2.1⟩))))
 by_cases h6:i.b7=6
 ·simp [h6] at h; exact .inr (.inr (.inr (.inr (.inr (.inl ⟨h6,h.1,h.2.1,h.2.2⟩)))))
 by_cases h7:i.b7=7
 ·simp [h7] at h; exact .inr (.inr (.inr (.inr (.inr (.inr ⟨h7,h.1⟩)))))
 ·have e1:(i.b7==1)=false:=by simpa using h1
  have e2:(i.b7==2)=false:=by simpa using h2
  have e3:(i.b7==3)=false:=by simpa using h3
  have e4:(i.b7==4)=false:=by simpa using h4
  have e5:(i.b7==5)=false:=by simpa using h5
  have e6:(i.b7==6)=false:=by simpa using h6
  have e7:(i.b7==7)=false:=by simpa using h7
  rw [e1,e2,e3,e4,e5,e6,e7] at h
  cases h
def a7U (l:List n5):Bool:=(List.range l.length).all (a0S l)
def a4Z (l:List m8):Bool:=(List.range l.length).all (a0X l)
def c10 (x:n5):Prop:=0≤x.d9∧x.d9≤3∧0≤x.i6∧x.i6≤1000000
theorem d3Z {l:List n5}:a7U l=true↔(∀ x∈l,c10 x)∧l.Pairwise fun a b=>a.d9≠b.d9:=by
 unfold a7U
 constructor
 ·intro h
  refine ⟨c8z h,?_⟩
  rw [List.pairwise_iff_getElem]
  intro i j hi hj hij heq
  have:=List.all_eq_true.1 h j (by simpa using hj)
  unfold a0S at this
  rw [List.getElem?_eq_getElem hj] at this
  simp only [Bool.and_eq_true,Bool.not_eq_true'] at this
  have hs:=this.2.2
  unfold Q7 at hs
  rw [List.any_eq_false] at hs
  refine hs l[i] ?_ (by simpa using heq)
  rw [List.mem_take_iff_getElem]
  exact ⟨i,by omega,rfl⟩
 ·rintro ⟨h1,h2⟩
  rw [List.all_eq_true]
  intro k hk
  have hk:k<l.length:=by simpa using hk
  unfold a0S
  rw [List.getElem?_eq_getElem hk]
  have hf:=h1 _ (List.getElem_mem hk)
  have hs:Q7 (l.take k) l[k].d9=false:=by
   unfold Q7
   rw [List.any_eq_false]
   intro x hx
   obtain ⟨i,hi,rfl⟩:=List.mem_take_iff_getElem.1 hx
   have:=List.pairwise_iff_getElem.1 h2 i k (by omega) hk (by omega)
   simpa using this
  simp only [hs,Bool.not_false,Bool.and_true,Bool.and_eq_true]
  unfold c10 at hf
  exact ⟨by simp [p7]; omega,by simp [p7]; omega⟩
theorem b1M {l:List m8}:a4Z l=true↔(∀ x∈l,a3J x)∧l.Pairwise fun a b=>a.d9≠b.d9:=by
 unfold a4Z
 constructor
 ·intro h
  refine ⟨d5A h,?_⟩
  rw [List.pairwise_iff_getElem]
  intro i j hi hj hij heq
  have:=List.all_eq_true.1 h j (by simpa using hj)
  unfold a0X at this
  rw [List.getElem?_eq_getElem hj] at this
  simp only [Bool.and_eq_true,Bool.not_eq_true'] at this
  have hs:=this.2.2
  unfold a0q at hs
  rw [List.any_eq_false] at hs
  refine hs l[i] ?_ (by simpa using heq)
  rw [List.mem_take_iff_getElem]
  exact ⟨i,by omega,rfl⟩
 ·rintro ⟨h1,h2⟩
  rw [List.all_eq_true]
  intro k hk
  have hk:k<l.length:=by simpa using hk
  unfold a0X
  rw [List.getElem?_eq_getElem hk]
  have hf:=h1 _ (List.getElem_mem hk)
  have hs:a0q (l.take k) l[k].d9=false:=by
   unfold a0q
   rw [List.any_eq_false]
   intro x hx
   obtain ⟨i,hi,rfl⟩:=List.mem_take_iff_getElem.1 hx
   have:=List.pairwise_iff_getElem.1 h2 i k (by omega) hk (by omega)
   simpa using this
  simp only [hs,Bool.not_false,Bool.and_true,Bool.and_eq_true]
  unfold a3J at hf
  exact ⟨by simp [p7]; omega,by simp [p7]; omega⟩
theorem e0z {l:List n5} {x:n5} (h:a7U l=true) (hx:c10 x) (hs:Q7 l x.d9=false):a7U (l++[x])=true:=by
 rw [d3Z] at h ⊢
 refine ⟨fun y hy => ?_,?_⟩
 ·rcases List.mem_append.1 hy with hy | hy
  ·exact h.1 y hy
  ·rw [List.mem_singleton.1 hy]; exact hx
 ·rw [List.pairwise_append]
  refine ⟨h.2,by simp,fun a ha b hb => ?_⟩
  rw [List.mem_singleton.1 hb]
  unfold Q7 at hs
  rw [List.any_eq_false] at hs
  simpa using hs a ha
theorem d6H {l:List m8} {x:m8} (h:a4Z l=true) (hx:a3J x) (hs:a0q l x.d9=false):a4Z (l++[x])=true:=by
 rw [b1M] at h ⊢
 refine ⟨fun y hy => ?_,?_⟩
 ·rcases List.mem_append.1 hy with hy | hy
  ·exact h.1 y hy
  ·rw [List.mem_singleton.1 hy]; exact hx
 ·rw [List.pairwise_append]
  refine ⟨h.2,by simp,fun a ha b hb => ?_⟩
  rw [List.mem_singleton.1 hb]
  unfold a0q at hs
  rw [List.any_eq_false] at hs
  simpa using hs a ha
theorem d6A {l:List m8} {k:Nat} {v:Int} (h:a4Z l=true) (hk:k<l.length) (hv : -1000000≤v∧v≤1000000):a4Z (l.set k ⟨l[k].d9,v⟩)=true:=by
 rw [b1M] at h ⊢
 refine ⟨fun y hy => ?_,?_⟩
 ·rcases List.mem_or_eq_of_mem_set hy with hy | rfl
  ·exact h.1 y hy
  ·have:=h.1 _ (List.getElem_mem hk)
   exact ⟨this.1,this.2.1,hv⟩
 ·rw [List.pairwise_iff_getElem]
  intro i j hi hj hij
  have hi':i<l.length:=by simpa using hi
  have hj':j<l.length:=by simpa using hj
  have hne:=List.pairwise_iff_getElem.1 h.2 i j hi' hj' hij
  rw [List.getElem_set,List.getElem_set]
  split<;>split<;>simp_all
theorem a9U (r:m9):a0f r=(p7 r.Code 0 3&&(p7 r.c9 (-1000000) 1000000&&((r.Code==0||(r.c9==0&&r.a8.length==0))&&((r.Code != 3||r.a7.length==0)&&(a7U r.a7&&a4Z r.a8))))):=rfl
theorem c9o {l:List m8} (h:s8 l) (box:Int):(a39 l box=some (-1)∧a0q l box=false) ∨ ∃ k:Nat,a39 l box=some (k:Int) ∧ ∃ hk:k<l.length,l[k].d9=box:=by
 have hc:=a4G (body:=fun s:Int=>a21 l box s) (fun k=>(k:Int)) l.length (fun k=>match l[k]? with | some x => !(x.d9==box) | none=>true) (fun k=>(k:Int)) ()
  (fun k hk _=>by
   unfold a21
   rw [x9 l k hk,t9 hk,J2 h hk]
   simp only [cond_true,Option.bind_some,List.getElem?_eq_getElem hk]
   cases l[k].d9==box<;>rfl) (fun _=>by unfold a21; rw [B0]; rfl)
 unfold a39
 rcases hc with ⟨h1,hall⟩ | ⟨k,hk,ho,_,h1⟩
 ·left
  rw [show q7 (fun s:Int=>a21 l box s) 0=_ from h1]
  refine ⟨rfl,?_⟩
  unfold a0q
  rw [List.any_eq_false]
  intro x hx
  obtain ⟨i,hi,rfl⟩:=List.getElem_of_mem hx
  have:=hall i hi
  simpa [List.getElem?_eq_getElem hi] using this
 ·right
  rw [show q7 (fun s:Int=>a21 l box s) 0=_ from h1]
  refine ⟨k,rfl,hk,?_⟩
  simpa [List.getElem?_eq_getElem hk] using ho
def inV (v:Int):Prop := -1000000≤v∧v≤1000000
def a8d (regs:List Int):Prop:=regs.length=4 ∧ ∀ v∈regs,inV v
theorem a3O {regs:List Int} (h:regs.length=4) {a:Int} (ha:0≤a∧a≤3) : ∃ v,idx regs a=some v∧v∈regs:=by
 have hlt:a.toNat<regs.length:=by omega
 refine ⟨regs[a.toNat],?_,List.getElem_mem hlt⟩
 unfold idx
 rw [if_pos ha.1,List.getElem?_eq_getElem hlt]
theorem e1U {regs:List Int} {a:Nat} {v w:Int} (h:w∈regs.set a v):w∈regs∨w=v:=List.mem_or_eq_of_mem_set h
structure Way (r:m9) (n:Nat):Prop where
 val:r.c9=0
 reads:a7U r.a7=true
 puts:a4Z r.a8=true
 rlen:r.a7.length≤n
 plen:r.a8.length≤n
theorem Way.fitsR {r:m9} {n:Nat} (h:Way r n) (hn:n≤100):s8 r.a7:=by
 have:=h.rlen
 unfold s8; omega
theorem Way.fitsP {r:m9} {n:Nat} (h:Way r n) (hn:n≤100):s8 r.a8:=by
 have:=h.plen
 unfold s8; omega
theorem d9z {l:List l9} {r:m9} {n:Nat} {box:Int} (hl:E0 l=true) (hr:Way r n) (hn:n≤100) (hb:0≤box∧box≤3) : ∃ v r',b2K l r box=some (v,r')∧Way r' (n+1)∧r'.Code=r.Code∧inV v:=by
 have hp:=(b1M.1 hr.puts).1
 unfold b2K
 rcases c9o (hr.fitsP hn) box with ⟨h1,h2⟩ | ⟨k,h1,hk,h2⟩
 ·rw [h1,Option.bind_some,show decide ((-1:Int)≥0)=false from by decide,cond_false,c0k (hr.fitsR hn),Option.bind_some]
  obtain ⟨b,b1,b2,b3⟩:=a6B hl hb
  rw [b5u] at b3
  cases hs:Q7 r.a7 box
  ·simp only [Bool.not_false,cond_true,b1,Option.bind_some]
   have n1:(r.a7.length+1) * 16≤140737488355328:=by have:=hr.rlen; omega
   simp only [u7 n1,Option.bind_some,j9.go]
   unfold b23
   rw [b1,Option.bind_some]
   refine ⟨_,_,rfl,⟨hr.val,e0z hr.reads ⟨hb.1,hb.2,b3.1⟩ hs,hr.puts,?_,?_⟩,rfl,b3.2⟩
   ·have:=hr.rlen
    simp
    omega
   ·have:=hr.plen
    simp only
    omega
  ·simp only [Bool.not_true,cond_false,Option.bind_some,j9.go]
   unfold b23
   rw [b1,Option.bind_some]
   refine ⟨_,_,rfl,⟨hr.val,hr.reads,hr.puts,?_,?_⟩,rfl,b3.2⟩
   ·have:=hr.rlen
    simp only
    omega
   ·have:=hr.plen
    simp only
    omega
 ·rw [h1,Option.bind_some,show decide (((k:Nat):Int)≥0)=true from by simp,cond_true,t9 hk,Option.bind_some]
  have hf:=hp _ (List.getElem_mem hk)
  exact ⟨_,_,rfl,⟨hr.val,hr.reads,hr.puts,Nat.le_succ_of_le hr.rlen,Nat.le_succ_of_le hr.plen⟩,rfl,hf.2.2⟩
theorem e44 {r:m9} {n:Nat} {box v:Int} (hr:Way r n) (hn:n≤100) (hb:0≤box∧box≤3) (hv:inV v) : ∃ r',b2c r box v=some r'∧Way r' (n+1)∧r'.Code=r.Code:=by
 unfold b2c
 rcases c9o (hr.fitsP hn) box with ⟨h1,h2⟩ | ⟨k,h1,hk,h2⟩
 ·rw [h1,Option.bind_some,show decide ((-1:Int)≥0)=false from by decide,cond_false]
  have n1:(r.a8.length+1) * 16≤140737488355328:=by have:=hr.plen; omega
  rw [u7 n1]
  refine ⟨_,rfl,⟨hr.val,hr.reads,d6H hr.puts ⟨hb.1,hb.2,hv⟩ h2,?_,?_⟩,rfl⟩
  ·have:=hr.rlen
   simp only
   omega
  ·have:=hr.plen
   simp
   omega
 ·rw [h1,Option.bind_some,show decide (((k:Nat):Int)≥0)=true from by simp,cond_true,t9 hk,Option.bind_some]
  refine ⟨_,rfl,⟨hr.val,hr.reads,?_,Nat.le_succ_of_le hr.rlen,?_⟩,rfl⟩
  ·simp only [Int.toNat_natCast]
   exact d6A hr.puts hk hv
  ·have:=hr.plen
   simp
   omega
end Go.Proofs.YtjcbjgaapekopaaGreat
