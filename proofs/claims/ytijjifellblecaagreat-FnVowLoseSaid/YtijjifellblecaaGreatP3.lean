/- What the law leans on, part 3. -/
import Derived.Test.YtijjifellblecaaGreatP2
set_option linter.unusedVariables false
set_option linter.unusedSimpArgs false
set_option linter.unnecessarySimpa false
namespace Go.Proofs.YtijjifellblecaaGreat
open Go
open List renaming replicate->f6a
open Int renaming tmod->f6D,tdiv->f8l
open Nat renaming zero_add->f7i
noncomputable section
def e4e(node:List j7)(msgsCopy:List l9)(asked:List x6)(told:List n5):((List j7)×Int)->KS:=fun (a6,v22)=>⟨X1.k 3 [],(bs 2 (.ptr 1 0 0::(.ptr 2 0 0::(bs 17 (vi (node.length:Int)::(vi v22::(bs 33 []))))))),[some [],some [.var 28 [.nil,.nil,.nil,.nil]],some [.var 28 [.own 3 0 27 0 a6.length,.own 4 0 13 0 msgsCopy.length,.own 5 0 3 0 asked.length,.own 6 0 5 0 told.length]],some [m7 52 27 w9 a6],some [m7 66 13 s6 msgsCopy],some [m7 68 3 A2 asked],some [m7 62 5 x8 told]]⟩
def b8R(node:List j7)(a6:List j7)(v22:Int):Option (l7 m4 ((List j7)×Int) (List j7)):=
 (bif decide (v22<(node.length:Int)) then ((idx a6 v22).bind fun node1=>((a7X node1).bind fun Y4=>some (l7.nxt (a6.set v22.toNat Y4,m8 (v22+1))))) else some (l7.brk a6))
theorem e0Z(node msgsCopy asked told):LQ X1 (d3q msgsCopy asked told) (e4e node msgsCopy asked told) (fun s=>b8R node s.1 s.2):=fun lc (a6,v22) h=>PK<|rg<|j6 0 h (fun h=>n7<|A7 h fun node1 a1K h=>B5 a1K<|H9 w9 7 a1K<|l8 b3c b56 8 h fun Y4 h=>B5 a1K<|Q6 52 27 w9 10 A8 Y4 a1K<|J5 Y4<|rg<|(lc.nx h fun hI=>om ((.own 3 0 27 0 a6.length:V)=.own 3 0 27 0 (a6.set v22.toNat Y4).length) (by simp)<|sk [.is (.cell 2 0 0) (.own 3 0 27 0 (a6.set v22.toNat Y4).length)] [2,3,21,22] [(1,0),(2,0),(3,0),(4,0),(5,0),(6,0)] hI)) (fun h=>(lc.bk h fun hI=>sk [] [2,3] [(1,0),(2,0),(3,0),(4,0),(5,0),(6,0)] hI))
def a1S(w:m4):Option m4:=
 ((c5f w.a6).bind fun node=>((b3u w.b9).bind fun msgsCopy=>((c3Z w.d7).bind fun asked=>((b8c w.Told).bind fun told=>((o9 (fun s:(List j7)×Int=>b8R node s.1 s.2) (node,0)).bind fun x=>x.go (fun r=>some r) fun s=>c1z msgsCopy asked told s)))))
theorem a71{w}:OK X1 [.agg (P4 w)] (a1S w):=
 o8 _ fun r h=>n7<|l8 d2J f0C 2 h fun node h=>l8 a6X c6Z 5 h fun msgsCopy h=>l8 d55 e86 8 h fun asked h=>l8 c5p c78 11 h fun told h=>rg<|lp (e0Z node msgsCopy asked told) h (fun _ h=>X1.rt h) (e9G msgsCopy asked told r) fun hI=>sk [] [2,3,21,22] [(2,0),(16,0),(5,0),(8,0),(11,0),(14,0)] hI
def a7h:FS (m4):=⟨5,Tryz.f5,[.val D4 []],[],[],fun r=>.agg (P4 r),fun _=>[],Tryz.func5⟩
def d4A:(List j7)->KS:=fun Nodes1=>⟨a7h.k 4 [false],(.ptr 1 0 0::(.ptr 2 0 0::(bs 15 []))),[some [],some [.var 28 [.nil,.nil,.nil,.nil]],some [.var 28 [.own 3 0 27 0 Nodes1.length,.nil,.nil,.nil]],some [m7 52 27 w9 Nodes1]]⟩
def d5u(Nodes1:List j7):Option m4:=
 ((a1S (m4.mk Nodes1 [] [] [])).bind fun H4=>some H4)
theorem d9G(r):NF a7h r d4A (fun s=>d5u s):=fun Nodes1 h=>PK<|rg<|l8 X1 a71 1 h fun H4 h=>s9 Nodes1<|B0 H4<|fE h
def d9l:((List j7)×Int)->KS:=fun (a6,id)=>⟨a7h.k 3 [],(.ptr 1 0 0::(.ptr 2 0 0::(vi id::(bs 14 [])))),[some [],some [.var 28 [.nil,.nil,.nil,.nil]],some [.var 28 [.own 3 0 27 0 a6.length,.nil,.nil,.nil]],some [m7 52 27 w9 a6]]⟩
def b0L(a6:List j7)(id:Int):Option (l7 m4 ((List j7)×Int) (List j7)):=
 (bif decide (id<3) then ((b6l id).bind fun X7=>(t5 ((a6.length+1)*392<=140737488355328) (some (l7.nxt (a6++[X7],m8 (id+1)))))) else some (l7.brk a6))
theorem f0f:LQ a7h d4A d9l (fun s=>b0L s.1 s.2):=fun lc (a6,id) h=>PK<|rg<|j6 1 h (fun h=>rg<|l8 c8k e4D 3 h fun X7 h=>tk 4 A8<|u0 h fun e1 h=>F9 5 11 52 27 392 w9 a6 X7 e1<|E8 X7<|rg<|(lc.nx h fun hI=>sk [] [0,1,2] [(1,0),(2,0),(11,0)] hI)) (fun h=>(lc.bk h fun hI=>sk [] [0,1] [(1,0),(2,0),(3,0)] hI))
def b6P:Option m4:=
 ((o9 (fun s:(List j7)×Int=>b0L s.1 s.2) ([],0)).bind fun x=>x.go (fun r=>some r) fun s=>d5u s)
theorem e31:OK a7h [] b6P:=
 o8 _ fun r h=>N7<|lp (f0f) h (fun _ h=>a7h.rt h) (d9G r) fun hI=>sk [.own (.cell 3 0 0) 52 27] [0,1,2] [(1,0),(3,0),(6,0)] hI
def b8r:FS (t8):=⟨17,Tryz.f17,[.ptr [some 1,none] []],[none],[.val [some 1] []],fun r=>.optr 92 (a0e r),fun _=>[none],Tryz.func17⟩
def d8Z:(List Int)->KS:=fun b92=>⟨b8r.k 3 [true],(j8 1 K2 b92::(bs 10 [])),[some []]⟩
def c5O(b92:List Int):Option t8:=
 some (t8.mk b92 0)
theorem e24(r):NF b8r r d8Z (fun s=>c5O s):=fun b92 h=>PK<|rg<|fE h
def b7o(code:List Int):Option t8:=
 (((bif decide ((code.length:Int)>2000) then (t5 ((0:Int)<=2000/\2000<=(code.length:Int)) (some (m5.brk ((code.drop 0).take ((2000:Int).toNat-0))))) else some (m5.brk code)):Option (m5 t8 (List Int))).bind fun x=>x.go some fun j=>c5O j)
theorem f0Z{code}:OK b8r [j8 1 K2 code] (b7o code):=
 o8 _ fun r h=>rg<|A9 h (e24 r) fun x1 h hc1=>rg<|j6 2 h (fun h=>rg<|u0 h fun e1 h=>om (V.sl 1 ((2000:Int).toNat-0) (((code.map K2).drop 0).take ((2000:Int).toNat-0))=j8 1 K2 ((code.drop 0).take ((2000:Int).toNat-0))) (b8p e1)<|ob e1.1<|ob e1.2<|tl (1,{v:=some (j8 1 K2 ((code.drop 0).take ((2000:Int).toNat-0)))})<|(p8 h hc1 fun hI=>sk [] [0] [] hI)) (fun h=>(p8 h hc1 fun hI=>sk [] [0] [] hI))
def d6l:FS (j7):=⟨25,Tryz.f25,[.val A8 G7],[none],[.val [] []],fun r=>.agg (H3 r),fun _=>[none],Tryz.func25⟩
def c5Q(id:Int):Option j7:=
 (bif decide (id<0) then some (j7.mk 0 (z4.mk 0 []) [] 0 0 0 [] [] (m6.mk false (o7.mk 0 0) (n6.mk [] [] 0 0)) [] false [] (m6.mk false (o7.mk 0 0) (n6.mk [] [] 0 0)) []) else (bif decide (id>=3) then some (j7.mk 0 (z4.mk 0 []) [] 0 0 0 [] [] (m6.mk false (o7.mk 0 0) (n6.mk [] [] 0 0)) [] false [] (m6.mk false (o7.mk 0 0) (n6.mk [] [] 0 0)) []) else some (j7.mk id (z4.mk 0 []) [] 0 0 0 [] [] (m6.mk false (o7.mk 0 0) (n6.mk [] [] 0 0)) [] false [] (m6.mk false (o7.mk 0 0) (n6.mk [] [] 0 0)) [])))
theorem d77{id}:OK d6l [vi id] (c5Q id):=
 o8 _ fun r h=>n7<|j6 2 h (fun h=>rg<|fE h) (fun h=>j6 5 h (fun h=>rg<|fE h) (fun h=>rg<|fE h))
def a5E:FS (m4):=⟨9,Tryz.f9,[.val D4 R5],[],[],fun r=>.agg (S4 r),fun _=>[],Tryz.func9⟩
def d5v:(List j7)->KS:=fun Nodes1=>⟨a5E.k 4 [false],(.ptr 1 0 0::(.ptr 2 0 0::(bs 14 []))),[some [],some [.var 28 [.nil,.nil,.nil,.nil]],some [.var 28 [.own 3 0 27 0 Nodes1.length,.nil,.nil,.nil]],some [C4 52 27 z6 Nodes1]]⟩
def d2L(Nodes1:List j7):Option m4:=
 some (m4.mk Nodes1 [] [] [])
theorem e3F(r):NF a5E r d5v (fun s=>d2L s):=fun Nodes1 h=>PK<|rg<|s9 Nodes1<|fE h
def f3N:((List j7)×Int)->KS:=fun (a6,i)=>⟨a5E.k 3 [],(.ptr 1 0 0::(.ptr 2 0 0::(vi i::(bs 13 [])))),[some [],some [.var 28 [.nil,.nil,.nil,.nil]],some [.var 28 [.own 3 0 27 0 a6.length,.nil,.nil,.nil]],some [C4 52 27 z6 a6]]⟩
def f1o(X7:j7):List V:=(a5I X7)
def a4u(a6:List j7)(i:Int):Option (l7 m4 ((List j7)×Int) (List j7)):=
 (bif decide (i<3) then ((c5Q i).bind fun X7=>(t5 ((a6.length+1)*392<=140737488355328) (some (l7.nxt (a6++[X7],m8 (i+1)))))) else some (l7.brk a6))
theorem e8B:LQ a5E d5v f3N (fun s=>a4u s.1 s.2):=fun lc (a6,i) h=>PK<|rg<|j6 1 h (fun h=>rg<|l8 d6l d77 3 h fun X7 h=>om (s8.deep false 52 27 1 [(f1o X7)]=C4 52 27 z6 [X7]) rfl<|A5 X7<|tl (4,{a:=.dck [none,none,some 8,some 7,none,none,none,some 1,some 8,none,none,none,some 2,some 2,none,none,some 1,none,some 4,none,none,none,some 2,some 2,none,none,some 7] [none,none,some 108,some 50,none,none,none,some 4,none,none,none,none,none,none,none,none,some 4,none,none,none,none,none,none,none,none,none,some 50],e:=some (C4 52 27 z6 [X7])})<|u0 h fun e1 h=>om (V.own 11 0 27 0 (a6.length+1)=.own 11 0 27 0 (a6++[X7]).length) (by simp)<|om (s8.deep false 52 27 (a6.length+1) (a6.map z6++[z6 X7])=C4 52 27 z6 (a6++[X7])) (c4O rfl)<|s9 a6<|ob e1<|om (1=1) rfl<|tl (5,{a:=.dck [] [],v:=some (.own 11 0 27 0 (a6++[X7]).length),e:=some (C4 52 27 z6 (a6++[X7]))})<|rg<|(lc.nx h fun hI=>sk [] [0,1,2] [(1,0),(2,0),(11,0)] hI)) (fun h=>(lc.bk h fun hI=>sk [] [0,1] [(1,0),(2,0),(3,0)] hI))
def b3q:Option m4:=
 ((o9 (fun s:(List j7)×Int=>a4u s.1 s.2) ([],0)).bind fun x=>x.go (fun r=>some r) fun s=>d2L s)
theorem d5g:OK a5E [] b3q:=
 o8 _ fun r h=>N7<|lp (e8B) h (fun _ h=>a5E.rt h) (e3F r) fun hI=>sk [.ownD (.cell 3 0 0) 52 27] [0,1,2] [(1,0),(3,0),(6,0)] hI
def G1:FS (Int×t8):=⟨47,Tryz.f47,[.val [] []],[some (0,.ptr [some 1,none] []),none],[.ptr [some 1,none] [],.val [] []],fun r=>vi r.1,fun r=>[some (.optr 92 (a0e r.2)),none],Tryz.func47⟩
def F5(r_:t8)(n:Int):Option (Int×t8):=
 (bif decide (n<1) then some (0,(t8.mk r_.b (m8 (r_.p+1)))) else (bif ((r_.b.length:Int)==0) then some (0,(t8.mk r_.b (m8 (r_.p+1)))) else (bif decide ((m8 ((m8 (r_.p+1))-1))<(r_.b.length:Int)) then ((idx r_.b (m8 ((m8 (r_.p+1))-1))).bind fun y=>(t5 (n≠0) (some (f6D (m8 y) n,(t8.mk r_.b (m8 (r_.p+1))))))) else (t5 ((r_.b.length:Int)≠0) (((idx r_.b (f6D (m8 ((m8 (r_.p+1))-1)) (r_.b.length:Int))).bind fun y1=>(t5 ((r_.b.length:Int)≠0) (((idx r_.b (f6D (m8 ((m8 ((m8 ((m8 (r_.p+1))-1))*7))+3)) (r_.b.length:Int))).bind fun y2=>(t5 ((r_.b.length:Int)≠0) ((t5 (n≠0) (some (f6D (a6y .i64 (m8 ((m8 ((m8 ((m8 ((m8 y1)*131))+(m8 ((m8 y2)*1117))))+(m8 ((m8 ((m8 (r_.p+1))-1))*29))))+(m8 ((m8 (f8l (m8 ((m8 (r_.p+1))-1)) (r_.b.length:Int)))*53)))) (m8 (f8l (m8 ((m8 ((m8 ((m8 ((m8 y1)*131))+(m8 ((m8 y2)*1117))))+(m8 ((m8 ((m8 (r_.p+1))-1))*29))))+(m8 ((m8 (f8l (m8 ((m8 (r_.p+1))-1)) (r_.b.length:Int)))*53)))) 64))) n,(t8.mk r_.b (m8 (r_.p+1)))))))))))))))))
theorem G4{r_ n}:OK G1 [.optr 92 (a0e r_),vi n] (F5 r_ n):=
 o8 _ fun r h=>N7<|j6 2 h (fun h=>rg<|fE h) (fun h=>j6 9 h (fun h=>rg<|fE h) (fun h=>n7<|j6 6 h (fun h=>rg<|u9 K2 5 h fun y hy h=>u0 h fun e1 h=>ob e1<|fE h) (fun h=>rg<|u0 h fun e2 h=>ob e2<|u9 K2 11 h fun y1 hy1 h=>u0 h fun e3 h=>ob e3<|u9 K2 28 h fun y2 hy2 h=>u0 h fun e4 h=>ob e4<|rg<|om (64≠(0:Int)) (by decide)<|rg<|u0 h fun e5 h=>ob e5<|fE h)))
def d4k:FS (n6):=⟨171,Tryz.f171,[.val O6 []],[none],[.val O6 []],fun r=>.agg (Q9 r),fun _=>[none],Tryz.func171⟩
def c3j(r_:n6):Option n6:=
 (t5 ((([]:List r9).length+r_.b5.length)*16<=140737488355328) ((t5 ((([]:List p7).length+r_.b6.length)*16<=140737488355328) (some (n6.mk (([]:List r9)++r_.b5) (([]:List p7)++r_.b6) r_.g7 r_.Code)))))
theorem e9d{r_}:OK d4k [.agg (Q9 r_)] (c3j r_):=
 o8 _ fun r h=>n7<|tk 0 []<|u0 h fun e1 h=>oa 6 0 2 ([]:List r9) r_.b5<|oz 180 2 w6 ([]:List r9) r_.b5<|C1 r9<|ob e1<|tl (3,{v:=some (.own 6 0 2 0 (([]:List r9)++r_.b5).length),e:=some (m7 180 2 w6 (([]:List r9)++r_.b5))})<|tk 4 []<|u0 h fun e2 h=>oa 10 0 2 ([]:List p7) r_.b6<|oz 183 2 w8 ([]:List p7) r_.b6<|C1 p7<|ob e2<|tl (7,{v:=some (.own 10 0 2 0 (([]:List p7)++r_.b6).length),e:=some (m7 183 2 w8 (([]:List p7)++r_.b6))})<|C7 (([]:List r9)++r_.b5) (([]:List p7)++r_.b6)<|fE h
def a0C:FS (m6):=⟨118,Tryz.f118,[.val K4 []],[none],[.val K4 []],fun r=>.agg (t6 r),fun _=>[none],Tryz.func118⟩
def X0(e_:m6):Option m6:=
 ((c3j e_.b8).bind fun d4R=>some (m6.mk e_.i8 e_.a0 d4R))
theorem a0W{e_}:OK a0C [.agg (t6 e_)] (X0 e_):=
 o8 _ fun r h=>n7<|l8 d4k e9d 6 h fun d4R h=>fE h
def a3O:FS (List m9):=⟨117,Tryz.f117,[.val [some 8] [some 108]],[none],[.val [some 8] []],fun r=>v5 108 8 p9 r,fun _=>[none],Tryz.func117⟩
def d6r:(List m9)->KS:=fun out1=>⟨a3O.k 4 [false],(bs 3 (.own 1 0 8 0 out1.length::(bs 24 []))),[some [],some [m7 108 8 p9 out1]]⟩
def c8M(out1:List m9):Option (List m9):=
 some out1
theorem e7A(r):NF a3O r d6r (fun s=>c8M s):=fun out1 h=>PK<|rg<|s9 out1<|fE h
def d7i(list:List m9):((List m9)×Int)->KS:=fun (out,i)=>⟨a3O.k 3 [],(j8 8 p9 list::(bs 2 (.own 1 0 8 0 out.length::(vi i::(bs 23 []))))),[some [],some [m7 108 8 p9 out]]⟩
def b2o(list:List m9)(out:List m9)(i:Int):Option (l7 (List m9) ((List m9)×Int) (List m9)):=
 (bif decide (i<(list.length:Int)) then ((idx list i).bind fun vote=>((X0 vote.i0).bind fun l5Entry=>(t5 ((out.length+1)*96<=140737488355328) (some (l7.nxt (out++[(m9.mk vote.a8 l5Entry)],m8 (i+1))))))) else some (l7.brk out))
theorem e5g(list):LQ a3O d6r (d7i list) (fun s=>b2o list s.1 s.2):=fun lc (out,i) h=>PK<|rg<|j6 3 h (fun h=>rg<|u9 p9 3 h fun vote J3 h=>I8 p9 8 J3<|l8 a0C a0W 11 h fun l5Entry h=>tk 13 V3<|u0 h fun e1 h=>F9 14 20 108 8 96 p9 out (m9.mk vote.a8 l5Entry) e1<|E8 (m9.mk vote.a8 l5Entry)<|rg<|(lc.nx h fun hI=>sk [] [0,3,4] [(20,0)] hI)) (fun h=>(lc.bk h fun hI=>sk [] [3] [(1,0)] hI))
def a8Q(list:List m9):Option (List m9):=
 ((o9 (fun s:(List m9)×Int=>b2o list s.1 s.2) (([]:List m9),0)).bind fun x=>x.go (fun r=>some r) fun s=>c8M s)
theorem b68{list}:OK a3O [j8 8 p9 list] (a8Q list):=
 o8 _ fun r h=>n7<|tk 0 V3<|rg<|lp (e5g list) h (fun _ h=>a3O.rt h) (e7A r) fun hI=>om ((.own 2 0 8 0 0:V)=.own 2 0 8 0 ([]:List m9).length) (by simp)<|sk [.is (.tmp 3) (.own 2 0 8 0 ([]:List m9).length)] [0,3,4] [(2,0)] hI
def b3X:FS (l9):=⟨64,Tryz.f64,[.val B9 []],[none],[.val B9 []],fun r=>.agg (s6 r),fun _=>[none],Tryz.func64⟩
def a8k(m:l9):Option l9:=
 ((X0 m.i0).bind fun l5Entry=>((a8Q m.a7).bind fun X3=>some (l9.mk m.a9 m.c9 m.To m.a8 m.g8 l5Entry X3)))
theorem b6q{m}:OK b3X [.agg (s6 m)] (a8k m):=
 o8 _ fun r h=>N7<|l8 a0C a0W 2 h fun l5Entry h=>rg<|l8 a3O b68 2 h fun X3 h=>rg<|s9 X3<|fE h
def a1e:FS (m4):=⟨71,Tryz.f71,[.val D4 R5],[none,none],[.val D4 R5,.val [some 13] []],fun r=>.agg (S4 r),fun _=>[none,none],Tryz.func71⟩
def c9f(w:m4):(List l9)->KS:=fun Net1=>⟨a1e.k 3 [false],(bs 2 (.ptr 1 0 0::(bs 1 (.ptr 3 0 0::(bs 24 []))))),[some [C4 52 27 z6 w.a6,.dead,m7 68 3 A2 w.d7,m7 62 5 x8 w.Told],some [.var 28 [.own 0 0 27 0 w.a6.length,.own 2 0 13 0 Net1.length,.own 0 2 3 0 w.d7.length,.own 0 3 5 0 w.Told.length]],some [m7 66 13 s6 Net1],some [.var 28 [.nil,.nil,.nil,.nil]]]⟩
def c74(w:m4)(Net1:List l9):Option m4:=
 some (m4.mk w.a6 Net1 w.d7 w.Told)
theorem e42(w)(r):NF a1e r (c9f w) (fun s=>c74 w s):=fun Net1 h=>PK<|rg<|H0 w.a6 Net1 w.d7 w.Told<|fE h
def e4c(w:m4)(list:List l9):((List l9)×Int)->KS:=fun (b9,i)=>⟨a1e.k 2 [],(bs 1 (j8 13 s6 list::(.ptr 1 0 0::(bs 1 (.ptr 2 0 0::(vi i::(bs 23 []))))))),[some [C4 52 27 z6 w.a6,.dead,m7 68 3 A2 w.d7,m7 62 5 x8 w.Told],some [.var 28 [.own 0 0 27 0 w.a6.length,.own 3 0 13 0 b9.length,.own 0 2 3 0 w.d7.length,.own 0 3 5 0 w.Told.length]],some [.var 28 [.nil,.nil,.nil,.nil]],some [m7 66 13 s6 b9]]⟩
def a2S(list:List l9)(b9:List l9)(i:Int):Option (l7 m4 ((List l9)×Int) (List l9)):=
 (bif decide (i<(list.length:Int)) then (bif decide ((b9.length:Int)<40) then ((idx list i).bind fun msg=>((a8k msg).bind fun G2=>(t5 ((b9.length+1)*152<=140737488355328) (some (l7.nxt (b9++[G2],m8 (i+1))))))) else some (l7.brk b9)) else some (l7.brk b9))
theorem e9v(w list):LQ a1e (c9f w) (e4c w list) (fun s=>a2S list s.1 s.2):=fun lc (b9,i) h=>PK<|rg<|j6 4 h (fun h=>j6 9 h (fun h=>rg<|u9 s6 4 h fun msg hmsg h=>l8 b3X b6q 6 h fun G2 h=>tk 7 B9<|u0 h fun e1 h=>F9 8 22 66 13 152 s6 b9 G2 e1<|E8 G2<|rg<|(lc.nx h fun hI=>sk [] [1,2,4,5] [(1,0),(2,0),(22,0)] hI)) (fun h=>(lc.bk h fun hI=>sk [] [2,4] [(1,0),(3,0),(2,0)] hI))) (fun h=>(lc.bk h fun hI=>sk [] [2,4] [(1,0),(3,0),(2,0)] hI))
def a3q(w:m4)(list:List l9):Option m4:=
 ((o9 (fun s:(List l9)×Int=>a2S list s.1 s.2) (w.b9,0)).bind fun x=>x.go (fun r=>some r) fun s=>c74 w s)
theorem a6f{w list}:OK a1e [.agg (S4 w),j8 13 s6 list] (a3q w list):=
 o8 _ fun r h=>n7<|lp (e9v w list) h (fun _ h=>a1e.rt h) (e42 w r) fun hI=>sk [] [1,2,4,5] [(1,0),(2,0),(0,1)] hI
def c1A:FS (m4):=⟨119,Tryz.f119,[.val D4 R5],[none,none],[.val D4 R5,.val [] []],fun r=>.agg (S4 r),fun _=>[none,none],Tryz.func119⟩
def b2T(w:m4)(i:Int):Option m4:=
 (t5 ((0:Int)<=i/\i<=(w.b9.length:Int)) ((t5 ((([]:List l9).length+(i.toNat-0))*152<=140737488355328) ((t5 ((0:Int)<=m8 (i+1)/\m8 (i+1)<=(w.b9.length:Int)) ((t5 (((([]:List l9)++(w.b9.drop (0+0)).take (i.toNat-0)).length+(w.b9.length-(m8 (i+1)).toNat))*152<=140737488355328) (some (m4.mk w.a6 ((([]:List l9)++(w.b9.drop (0+0)).take (i.toNat-0))++(w.b9.drop (0+(m8 (i+1)).toNat)).take (w.b9.length-(m8 (i+1)).toNat)) w.d7 w.Told)))))))))
set_option maxRecDepth 20000 in
theorem c9i{w i}:OK c1A [.agg (S4 w),vi i] (b2T w i):=
 o8 _ fun r h=>n7<|tk 0 B9<|u0 h fun e1 h=>ob e1.1<|ob e1.2<|u0 h fun e2 h=>om (V.own 8 0 13 0 (([]:List l9).length+(i.toNat-0))=.own 8 0 13 0 (([]:List l9)++(w.b9.drop (0+0)).take (i.toNat-0)).length) (c4V (by omega))<|om (s8.row 66 13 (([]:List l9).length+(i.toNat-0)) (([]:List l9).map s6++((w.b9.map s6).drop (0+0)).take (i.toNat-0))=m7 66 13 s6 (([]:List l9)++(w.b9.drop (0+0)).take (i.toNat-0))) (c3z (by omega))<|C1 l9<|ob e2<|om ((0+0)+(i.toNat-0)<=w.b9.length) (by omega)<|tl (5,{a:=.part,v:=some (.own 8 0 13 0 (([]:List l9)++(w.b9.drop (0+0)).take (i.toNat-0)).length),e:=some (m7 66 13 s6 (([]:List l9)++(w.b9.drop (0+0)).take (i.toNat-0)))})<|u0 h fun e3 h=>ob e3.1<|ob e3.2<|u0 h fun e4 h=>om (V.own 14 0 13 0 ((([]:List l9)++(w.b9.drop (0+0)).take (i.toNat-0)).length+(w.b9.length-(m8 (i+1)).toNat))=.own 14 0 13 0 ((([]:List l9)++(w.b9.drop (0+0)).take (i.toNat-0))++(w.b9.drop (0+(m8 (i+1)).toNat)).take (w.b9.length-(m8 (i+1)).toNat)).length) (c4V (by omega))<|om (s8.row 66 13 ((([]:List l9)++(w.b9.drop (0+0)).take (i.toNat-0)).length+(w.b9.length-(m8 (i+1)).toNat)) ((([]:List l9)++(w.b9.drop (0+0)).take (i.toNat-0)).map s6++((w.b9.map s6).drop (0+(m8 (i+1)).toNat)).take (w.b9.length-(m8 (i+1)).toNat))=m7 66 13 s6 ((([]:List l9)++(w.b9.drop (0+0)).take (i.toNat-0))++(w.b9.drop (0+(m8 (i+1)).toNat)).take (w.b9.length-(m8 (i+1)).toNat))) (c3z (by omega))<|s9 (([]:List l9)++(w.b9.drop (0+0)).take (i.toNat-0))<|ob e4<|om ((0+(m8 (i+1)).toNat)+(w.b9.length-(m8 (i+1)).toNat)<=w.b9.length) (by omega)<|tl (11,{a:=.part,v:=some (.own 14 0 13 0 ((([]:List l9)++(w.b9.drop (0+0)).take (i.toNat-0))++(w.b9.drop (0+(m8 (i+1)).toNat)).take (w.b9.length-(m8 (i+1)).toNat)).length),e:=some (m7 66 13 s6 ((([]:List l9)++(w.b9.drop (0+0)).take (i.toNat-0))++(w.b9.drop (0+(m8 (i+1)).toNat)).take (w.b9.length-(m8 (i+1)).toNat)))})<|rg<|H0 w.a6 ((([]:List l9)++(w.b9.drop (0+0)).take (i.toNat-0))++(w.b9.drop (0+(m8 (i+1)).toNat)).take (w.b9.length-(m8 (i+1)).toNat)) w.d7 w.Told<|fE h
def a1H:FS (Bool):=⟨111,Tryz.f111,[.val [] []],[none],[.val [] []],fun r=>.b r,fun _=>[none],Tryz.func111⟩
def a1o(n:Int):Option Bool:=
 (bif decide (n>=1) then some (decide (n<=3000)) else some false)
theorem a2D{n}:OK a1H [vi n] (a1o n):=
 o8 _ fun r h=>n7<|j6 2 h (fun h=>fE h) (fun h=>fE h)
def a55:FS (z4×Bool):=⟨124,Tryz.f124,[.val [none,some 8] [none,some 9000000],.val [] []],[none,none],[.val [none,some 8] [],.val [] []],fun r=>.tup [.agg [vi r.1.i4,.bot],.b r.2],fun _=>[none,none],Tryz.func124⟩
def b0e(a:z4)(bal:Int):Option (z4×Bool):=
 ((a1o bal).bind fun Z8=>(bif (!Z8) then some (a,false) else (bif decide (bal<a.i4) then some (a,false) else none)))
theorem c1f{a bal}:OK a55 [.agg (Z1 a),vi bal] (b0e a bal):=
 o8 _ fun r h=>n7<|l8 a1H a2D 1 h fun Z8 h=>j6 3 h (fun h=>rg<|fE h) (fun h=>j6 8 h (fun h=>rg<|fE h) (fun h=>(nomatch h)))
def a38:FS (List l9):=⟨200,Tryz.f200,[.val [some 13] []],[none,none],[.val B9 [],.val B9 []],fun r=>j8 13 s6 r,fun _=>[none,none],Tryz.func200⟩
def a4w(m:l9)(out:l9):Option (List l9):=
 some [(l9.mk out.a9 m.To m.c9 out.a8 out.g8 out.i0 out.a7)]
theorem a8t{m out}:OK a38 [.agg (s6 m),.agg (s6 out)] (a4w m out):=
 o8 _ fun r h=>rg4<|tk 1 B9<|E8 (l9.mk out.a9 m.To m.c9 out.a8 out.g8 out.i0 out.a7)<|fE h
def c6O(rv:Value):FS (j7):=⟨123,Tryz.f123,[.val A8 om1],[none],[.val A8 om1],fun r=>.agg ([vi r.Id,vi r.Acc.i4,.raw rv]++a9G r),fun _=>[none],Tryz.func123⟩
def c7J(n:j7):Option j7:=
 some (j7.mk n.Id n.Acc n.a5 n.Seq 0 0 [] [] (m6.mk false (o7.mk 0 0) (n6.mk [] [] 0 0)) [] n.i9 n.i7 n.b7 n.d9)
theorem f5z{n}(rv):OK (c6O rv) [.agg ([vi n.Id,vi n.Acc.i4,.raw rv]++a9G n)] (c7J n):=
 o8 _ fun r h=>rg4<|rg4<|C7 n.a5 n.d9<|fE h
def b1s(rv:Value):FS (j7):=⟨177,Tryz.f177,[.val A8 om1],[none,none],[.val A8 om1,.val [] []],fun r=>.agg ([vi r.Id,vi r.Acc.i4,.raw rv]++a9G r),fun _=>[none,none],Tryz.func177⟩
def e6x(i:Nat)(fr:Bool)(r:j7):Nat×L0:=(i,{a:=.callr 0 2 [.val A8 om1,.val [] []] fr (.agg ([vi r.Id,vi r.Acc.i4,.hole]++a9G r)) [none,none]})
def f3d(rv:Value)(n:j7):Unit->KS:=fun _=>⟨(b1s rv).k 2 [false],(bs 2 (.ptr 1 0 0::(bs 1 (.ptr 2 0 0::(bs 12 []))))),[some [m7 50 7 t6 n.a5,m7 4 1 eB n.c9,m7 4 1 eB n.a7,m7 50 7 t6 n.d9],some [.var 52 ([vi n.Id,vi n.Acc.i4,.raw rv,.own 0 0 7 0 n.a5.length,vi n.Seq,vi n.d8,vi n.a8,.own 0 1 1 0 n.c9.length]++a6j n++[.own 0 2 1 0 n.a7.length]++a3P n++[.own 0 3 7 0 n.d9.length])],some [.var 52 [vi 0,vi 0,.nil,.nil,vi 0,vi 0,vi 0,.nil,.nil,.b false,vi 0,vi 0,.nil,.nil,vi 0,vi 0,.nil,.b false,.nil,.b false,vi 0,vi 0,.nil,.nil,vi 0,vi 0,.nil]]]⟩
def d23(n:j7):Option j7:=
 some n
theorem e3J(rv n)(r):NF (b1s rv) r (f3d rv n) (fun s=>d23 n):=fun _ h=>PK<|rg<|J5 n<|fE h
def b1K(n:j7)(bal:Int):Option j7:=
 (((bif (n.d8 != 0) then (bif decide (bal>n.a8) then ((c7J n).bind fun r_=>some (m5.ret r_)) else some (m5.brk ())) else some (m5.brk ())):Option (m5 j7 Unit)).bind fun x=>x.go some fun j=>d23 n)
theorem d89{n bal}(rv):OK (b1s rv) [.agg ([vi n.Id,vi n.Acc.i4,.raw rv]++a9G n),vi bal] (b1K n bal):=
 o8 _ fun r h=>rg<|A9 h (e3J rv n r) fun x1 h hc1=>rg<|j6 3 h (fun h=>j6 8 h (fun h=>rg<|cb (c6O rv).t (f5z rv) 1 false h fun r_ h=>J5 n<|(B8 h hc1 fun h=>J5 r_<|fE h)) (fun h=>(p8 h hc1 fun hI=>sk [] [2,4] [(1,0),(2,0)] hI))) (fun h=>(p8 h hc1 fun hI=>sk [] [2,4] [(1,0),(2,0)] hI))
theorem e5m{n bal}(r)(h:b1K n bal=some r):∀c,Z0 cx.P 177 [.agg ([vi n.Id,vi n.Acc.i4,.raw c]++a9G n),vi bal] ((b1s c).R r) ((b1s c).O r):=fun c=>d89 c r h
def b25:FS (z4×Bool):=⟨124,Tryz.f124,[.val [none,some 8] [none,some 108],.val [] []],[none,none],[.val [none,some 8] [none,some 108],.val [] []],fun r=>.tup [.agg [vi r.1.i4,v5 108 8 p9 r.1.a7],.b r.2],fun _=>[none,none],Tryz.func124⟩
def a8j(a:z4)(bal:Int):Option (z4×Bool):=
 ((a1o bal).bind fun Z8=>(bif (!Z8) then some (a,false) else (bif decide (bal<a.i4) then some (a,false) else some ((z4.mk bal a.a7),true))))
theorem b6W{a bal}:OK b25 [.agg [vi a.i4,v5 108 8 p9 a.a7],vi bal] (a8j a bal):=
 o8 _ fun r h=>n7<|l8 a1H a2D 1 h fun Z8 h=>j6 3 h (fun h=>rg<|s9 a.a7<|fE h) (fun h=>j6 8 h (fun h=>rg<|s9 a.a7<|fE h) (fun h=>n7<|s9 a.a7<|fE h))
def d5N:FS (n6):=⟨171,Tryz.f171,[.val O6 om5],[none],[.val O6 []],fun r=>.agg (a6b r),fun _=>[none],Tryz.func171⟩
def c1I(r_:n6):Option n6:=
 (t5 ((([]:List r9).length+r_.b5.length)*16<=140737488355328) ((t5 ((([]:List p7).length+r_.b6.length)*16<=140737488355328) (some (n6.mk (([]:List r9)++r_.b5) (([]:List p7)++r_.b6) r_.g7 r_.Code)))))
theorem f5M{r_}:OK d5N [.agg (Q9 r_)] (c1I r_):=
 o8 _ fun r h=>n7<|tk 0 []<|u0 h fun e1 h=>oa 6 0 2 ([]:List r9) r_.b5<|oz 180 2 w6 ([]:List r9) r_.b5<|C1 r9<|ob e1<|tl (3,{v:=some (.own 6 0 2 0 (([]:List r9)++r_.b5).length),e:=some (m7 180 2 w6 (([]:List r9)++r_.b5))})<|tk 4 []<|u0 h fun e2 h=>oa 10 0 2 ([]:List p7) r_.b6<|oz 183 2 w8 ([]:List p7) r_.b6<|C1 p7<|ob e2<|tl (7,{v:=some (.own 10 0 2 0 (([]:List p7)++r_.b6).length),e:=some (m7 183 2 w8 (([]:List p7)++r_.b6))})<|C7 (([]:List r9)++r_.b5) (([]:List p7)++r_.b6)<|fE h
def d0P:FS (m6):=⟨118,Tryz.f118,[.val K4 om6],[none],[.val K4 []],fun r=>.agg (f06 r),fun _=>[none],Tryz.func118⟩
def b9Q(e_:m6):Option m6:=
 ((c1I e_.b8).bind fun d=>some (m6.mk e_.i8 e_.a0 d))
theorem e53{e_}:OK d0P [.agg (t6 e_)] (b9Q e_):=
 o8 _ fun r h=>n7<|l8 d5N f5M 6 h fun d h=>olR d<|fE h
def a23:FS (List m9):=⟨117,Tryz.f117,[.val [some 8] [some 1000108]],[none],[.part],fun r=>b08 108 8 a0T r,fun _=>[none],Tryz.func117⟩
def c89:(List m9)->KS:=fun out1=>⟨a23.k 4 [false],(bs 3 (.own 1 0 8 0 out1.length::(bs 24 []))),[some [],some [C4 108 8 a0T out1]]⟩
def d01(out1:List m9):Option (List m9):=
 some out1
theorem e9t(r):NF a23 r c89 (fun s=>d01 s):=fun out1 h=>PK<|rg<|s9 out1<|fE h
def f5m(list:List m9):((List m9)×Int)->KS:=fun (out,i)=>⟨a23.k 3 [],(j8 8 p9 list::(bs 2 (.own 1 0 8 0 out.length::(vi i::(bs 23 []))))),[some [],some [C4 108 8 a0T out]]⟩
def e5x(vote:m9)(d:m6):List V:=[vi vote.a8,.b d.i8,vi d.a0.c8,vi d.a0.Seq,v5 180 2 w6 d.b8.b5,v5 183 2 w8 d.b8.b6,vi d.b8.g7,vi d.b8.Code]
def b13(list:List m9)(out:List m9)(i:Int):Option (l7 (List m9) ((List m9)×Int) (List m9)):=
 (bif decide (i<(list.length:Int)) then ((idx list i).bind fun vote=>((b9Q vote.i0).bind fun d=>(t5 ((out.length+1)*96<=140737488355328) (some (l7.nxt (out++[(m9.mk vote.a8 d)],m8 (i+1))))))) else some (l7.brk out))
theorem f1x(list):LQ a23 c89 (f5m list) (fun s=>b13 list s.1 s.2):=fun lc (out,i) h=>PK<|rg<|j6 3 h (fun h=>rg<|u9 p9 3 h fun vote J3 h=>I8 p9 8 J3<|l8 d0P e53 11 h fun d h=>om (s8.deep false 108 8 1 [(e5x vote d)]=C4 108 8 a0T [(m9.mk vote.a8 d)]) rfl<|olR d.b8<|tl (13,{a:=.dck [none,none,none,none,some 2,some 2,none,none] [none,none,none,none,some 180,some 183,none,none],e:=some (C4 108 8 a0T [(m9.mk vote.a8 d)])})<|u0 h fun e1 h=>om (V.own 20 0 8 0 (out.length+1)=.own 20 0 8 0 (out++[(m9.mk vote.a8 d)]).length) (by simp)<|om (s8.deep false 108 8 (out.length+1) (out.map a0T++[a0T (m9.mk vote.a8 d)])=C4 108 8 a0T (out++[(m9.mk vote.a8 d)])) (c4O rfl)<|s9 out<|ob e1<|om (1=1) rfl<|tl (14,{a:=.dck [] [],v:=some (.own 20 0 8 0 (out++[(m9.mk vote.a8 d)]).length),e:=some (C4 108 8 a0T (out++[(m9.mk vote.a8 d)]))})<|rg<|(lc.nx h fun hI=>sk [] [0,3,4] [(20,0)] hI)) (fun h=>(lc.bk h fun hI=>sk [] [3] [(1,0)] hI))
def b6e(list:List m9):Option (List m9):=
 ((o9 (fun s:(List m9)×Int=>b13 list s.1 s.2) (([]:List m9),0)).bind fun x=>x.go (fun r=>some r) fun s=>d01 s)
theorem f3t{list}:OK a23 [j8 8 p9 list] (b6e list):=
 o8 _ fun r h=>n7<|om (s8.deep false 108 8 0 []=C4 108 8 a0T ([]:List m9)) rfl<|tl (0,{a:=.dck [] [],e:=some (C4 108 8 a0T ([]:List m9))})<|rg<|lp (f1x list) h (fun _ h=>a23.rt h) (e9t r) fun hI=>om ((.own 2 0 8 0 0:V)=.own 2 0 8 0 ([]:List m9).length) (by simp)<|sk [.is (.tmp 3) (.own 2 0 8 0 ([]:List m9).length)] [0,3,4] [(2,0)] hI
def d5C:FS (j7×List l9):=⟨172,Tryz.f172,[.val A8 G7,.val [some 13] []],[none,none],[.val A8 G7,.val B9 []],fun r=>.tup [.agg (H3 r.1),j8 13 s6 r.2],fun _=>[none,none],Tryz.func172⟩
def b84(n:j7)(m:l9):Option (j7×List l9):=
 (a43 (b0e n.Acc m.a8) (fun no=>(bif (!no.2) then ((a4w m (l9.mk 6 0 0 n.Acc.i4 0 (m6.mk false (o7.mk 0 0) (n6.mk [] [] 0 0)) [])).bind fun a1Y=>some (n,a1Y)) else none)) (((a8j n.Acc m.a8).bind fun l6Promise=>(bif (!l6Promise.2) then none else ((b1K (j7.mk n.Id l6Promise.1 n.a5 n.Seq n.d8 n.a8 n.c9 n.i5 n.d6 n.a7 n.i9 n.i7 n.b7 n.d9) m.a8).bind fun r_=>(bif decide (m.g8<(l6Promise.1.a7.length:Int)) then (t5 ((0:Int)<=m.g8/\m.g8<=(l6Promise.1.a7.length:Int)) (((b6e ((l6Promise.1.a7.drop m.g8.toNat).take (l6Promise.1.a7.length-m.g8.toNat))).bind fun d=>((a4w m (l9.mk 2 0 0 m.a8 m.g8 (m6.mk false (o7.mk 0 0) (n6.mk [] [] 0 0)) d)).bind fun a5j=>some ((j7.mk r_.Id (z4.mk r_.Acc.i4 l6Promise.1.a7) r_.a5 r_.Seq r_.d8 r_.a8 r_.c9 r_.i5 r_.d6 r_.a7 r_.i9 r_.i7 r_.b7 r_.d9),a5j))))) else ((a4w m (l9.mk 2 0 0 m.a8 m.g8 (m6.mk false (o7.mk 0 0) (n6.mk [] [] 0 0)) ([]:List m9))).bind fun d3W=>some ((j7.mk r_.Id (z4.mk r_.Acc.i4 l6Promise.1.a7) r_.a5 r_.Seq r_.d8 r_.a8 r_.c9 r_.i5 r_.d6 r_.a7 r_.i9 r_.i7 r_.b7 r_.d9),d3W))))))))
set_option maxRecDepth 20000 in
theorem e75{n m}:OK d5C [.agg (H3 n),.agg (s6 m)] (b84 n m):=
 o8 _ fun r h=>n7<|cbA a55.t c1f 4 true h (fun no h=>osc a55 no (by simp [a55,K6,S8,P3,V.simple,vi,v5,Z1,eB,t6,eI,w8,w6,J0,Q9,p9]) (Q1 2)<|s9 n.Acc.a7<|rg<|j6 1 h (fun h=>rg<|l8 a38 a8t 6 h fun a1Y h=>A5 n<|fE h) (fun h=>(nomatch h))) (fun h=>l8 b25 b6W 4 h fun l6Promise h=>s9 n.Acc.a7<|rg<|j6 1 h (fun h=>(nomatch h)) (fun h=>n7<|cb e6x e5m 3 false h fun r_ h=>J5 n<|rg<|tk 0 V3<|rg<|j6 5 h (fun h=>rg<|u0 h fun e1 h=>ob e1.1<|ob e1.2<|A7 h fun d hd h=>om (Z0 cx.P 117 [.sl 8 (l6Promise.1.a7.length-m.g8.toNat) (((l6Promise.1.a7.map p9).drop (0+m.g8.toNat)).take (l6Promise.1.a7.length-m.g8.toNat))] (a23.R d) (a23.O d)) (by rw [f7i,b1C e1];exact (f3t d hd))<|osc a23 d (by simp [a23,K6,S8,P3,V.simple,vi,v5,b5f,eB,t6,eI,w8,w6,J0,Q9,p9,a0T,b08]) (Q1 1)<|om ((0+m.g8.toNat)+(l6Promise.1.a7.length-m.g8.toNat)<=l6Promise.1.a7.length) (by omega)<|tl (a23.t 5 true d)<|rg<|A7 h fun a5j e73 h=>om (Z0 cx.P 200 [.agg (s6 m),.agg [vi 2,vi 0,vi 0,vi m.a8,vi m.g8,.b false,vi 0,vi 0,j8 2 w6 ([]:List r9),j8 2 w8 ([]:List p7),vi 0,vi 0,.sl 8 d.length (a0g (d.map a0T))]] (a38.R a5j) (a38.O a5j)) (by simp only [b0g e6P];exact (a8t a5j e73))<|s9 d<|tl (a38.t 8 false a5j)<|s9 l6Promise.1.a7<|J5 r_<|fE h) (fun h=>rg<|l8 a38 a8t 8 h fun d3W h=>C1 m9<|s9 l6Promise.1.a7<|J5 r_<|fE h)))
def c8b:FS (List m9):=⟨202,Tryz.f202,[.val [some 8] [some 108]],[none,none],[.val [some 8] [],.val [] []],fun r=>v5 108 8 p9 r,fun _=>[none,none],Tryz.func202⟩
def b9R(list:List m9)(slot:Int):Option (List m9):=
 (t5 (0<=slot/\slot*96<=140737488355328) (((a8Q list).bind fun X3=>(t5 (((f6a slot.toNat (m9.mk 0 (m6.mk false (o7.mk 0 0) (n6.mk [] [] 0 0)))).length+X3.length)*96<=140737488355328) (some ((f6a slot.toNat (m9.mk 0 (m6.mk false (o7.mk 0 0) (n6.mk [] [] 0 0))))++X3))))))
theorem f2A{list slot}:OK c8b [j8 8 p9 list,vi slot] (b9R list slot):=
 o8 _ fun r h=>n7<|u0 h fun e1 h=>T3 1 3 108 8 96 p9 (m9.mk 0 (m6.mk false (o7.mk 0 0) (n6.mk [] [] 0 0))) b4A (.ck V3) e1 (by decide) (by rfl)<|rg<|l8 a3O b68 2 h fun X3 h=>u0 h fun e2 h=>apL 3 8 108 8 96 p9 (f6a slot.toNat (m9.mk 0 (m6.mk false (o7.mk 0 0) (n6.mk [] [] 0 0)))) X3 e2<|s9 X3<|s9 ((f6a slot.toNat (m9.mk 0 (m6.mk false (o7.mk 0 0) (n6.mk [] [] 0 0))))++X3)<|fE h
def a1V:FS (List m9):=⟨201,Tryz.f201,[.val [some 8] []],[none,none],[.val [some 8] [],.val [some 8] []],fun r=>j8 8 p9 r,fun _=>[none,none],Tryz.func201⟩
def b1y:(List m9)->KS:=fun out1=>⟨a1V.k 4 [false],(bs 5 (.own 1 0 8 0 out1.length::(bs 52 []))),[some [],some [m7 108 8 p9 out1]]⟩
def d20(out1:List m9):Option (List m9):=
 some out1
theorem e39(r):NF a1V r b1y (fun s=>d20 s):=fun out1 h=>PK<|rg<|s9 out1<|fE h
def b5G(a:List m9)(b:List m9):((List m9)×Int)->KS:=fun (out,i)=>⟨a1V.k 3 [],(j8 8 p9 a::(j8 8 p9 b::(bs 3 (.own 1 0 8 0 out.length::(vi i::(bs 51 [])))))),[some [],some [m7 108 8 p9 out]]⟩
def f4Z(a:List m9)(b:List m9)(out:List m9)(i:Int):Unit->KS:=fun _=>⟨a1V.k 4 [true],(j8 8 p9 a::(j8 8 p9 b::(bs 3 (.own 1 0 8 0 out.length::(vi i::(bs 51 [])))))),[some [],some [m7 108 8 p9 out]]⟩
def f4U(a:List m9)(b:List m9)(out:List m9)(i:Int):m9->KS:=fun v_=>⟨a1V.k 7 [true,true],(j8 8 p9 a::(j8 8 p9 b::(bs 3 (.own 1 0 8 0 out.length::(vi i::(.ptr 2 0 0::(bs 50 []))))))),[some [],some [m7 108 8 p9 out],some [.var 108 (d4i v_)]]⟩
def f5j(a:List m9)(b:List m9)(out:List m9)(i:Int):m9->KS:=fun v_1=>⟨a1V.k 9 [true,true,true],(j8 8 p9 a::(j8 8 p9 b::(bs 3 (.own 1 0 8 0 out.length::(vi i::(.ptr 2 0 0::(bs 50 []))))))),[some [],some [m7 108 8 p9 out],some [.var 108 (d4i v_1)]]⟩
def b7D(out:List m9)(i:Int)(v_1:m9):Option (l7 (List m9) ((List m9)×Int) (List m9)):=
 ((X0 v_1.i0).bind fun l5Entry=>(t5 ((out.length+1)*96<=140737488355328) (some (l7.nxt (out++[(m9.mk v_1.a8 l5Entry)],m8 (i+1))))))
theorem e5B(a b out i)(lc:F8 a1V b1y (b5G a b)):NL lc (f5j a b out i) (fun s=>b7D out i s):=fun v_1 h=>PK<|rg<|l8 a0C a0W 5 h fun l5Entry h=>tk 7 V3<|u0 h fun e1 h=>F9 8 11 108 8 96 p9 out (m9.mk v_1.a8 l5Entry) e1<|E8 (m9.mk v_1.a8 l5Entry)<|rg<|(lc.nx h fun hI=>sk [] [0,1,5,6] [(11,0)] hI)
def b5A(b:List m9)(out:List m9)(i:Int)(v_:m9):Option (l7 (List m9) ((List m9)×Int) (List m9)):=
 (((bif decide (i<(b.length:Int)) then ((idx b i).bind fun vote=>(bif decide (vote.a8>v_.a8) then some (m5.brk vote) else some (m5.brk v_))) else some (m5.brk v_)):Option (m5 (l7 (List m9) ((List m9)×Int) (List m9)) m9)).bind fun x=>x.go some fun j=>b7D out i j)
theorem d9K(a b out i)(lc:F8 a1V b1y (b5G a b)):NL lc (f4U a b out i) (fun s=>b5A b out i s):=fun v_ h=>PK<|A9 h (e5B a b out i lc) fun x2 h hc2=>rg<|j6 4 h (fun h=>u9 p9 7 h fun vote J3 h=>j6 13 h (fun h=>rg<|I8 p9 2 J3<|(p8 h hc2 fun hI=>sk [] [0,1,5,6,7] [(1,0),(2,0)] hI)) (fun h=>(p8 h hc2 fun hI=>sk [] [0,1,5,6,7] [(1,0),(2,0)] hI))) (fun h=>(p8 h hc2 fun hI=>sk [] [0,1,5,6,7] [(1,0),(2,0)] hI))
def b7e(a:List m9)(b:List m9)(out:List m9)(i:Int):Option (l7 (List m9) ((List m9)×Int) (List m9)):=
 (((bif decide (i<(a.length:Int)) then ((idx a i).bind fun O4=>some (m5.brk O4)) else some (m5.brk (m9.mk 0 (m6.mk false (o7.mk 0 0) (n6.mk [] [] 0 0))))):Option (m5 (l7 (List m9) ((List m9)×Int) (List m9)) m9)).bind fun x=>x.go some fun j=>b5A b out i j)
theorem e6d(a b out i)(lc:F8 a1V b1y (b5G a b)):NL lc (f4Z a b out i) (fun s=>b7e a b out i):=fun _ h=>PK<|rg<|A9 h (d9K a b out i lc) fun x2 h hc2=>rg<|j6 3 h (fun h=>rg<|u9 p9 2 h fun O4 a2j h=>(p8 h hc2 fun hI=>sk [] [0,1,5,6,7] [(1,0),(3,0)] hI)) (fun h=>(p8 h hc2 fun hI=>sk [.frz (.cell 3 0 4) (some 2),.frz (.cell 3 0 5) (some 2)] [0,1,5,6,7] [(1,0),(3,0)] hI))
def a5Z(a:List m9)(b:List m9)(out:List m9)(i:Int):Option (l7 (List m9) ((List m9)×Int) (List m9)):=
 (((bif decide (i<(a.length:Int)) then some (m5.brk ()) else (bif decide (i<(b.length:Int)) then some (m5.brk ()) else some (m5.ret (l7.brk out)))):Option (m5 (l7 (List m9) ((List m9)×Int) (List m9)) Unit)).bind fun x=>x.go some fun j=>b7e a b out i)
theorem e2k(a b):LQ a1V b1y (b5G a b) (fun s=>a5Z a b s.1 s.2):=fun lc (out,i) h=>PK<|A9 h (e6d a b out i lc) fun x2 h hc2=>rg<|j6 4 h (fun h=>(p8 h hc2 fun hI=>sk [] [0,1,5,6] [(1,0)] hI)) (fun h=>j6 9 h (fun h=>(p8 h hc2 fun hI=>sk [] [0,1,5,6] [(1,0)] hI)) (fun h=>(B8 h hc2 fun h=>(lc.bk h fun hI=>sk [] [5] [(1,0)] hI))))
def b75(a:List m9)(b:List m9):Option (List m9):=
 ((o9 (fun s:(List m9)×Int=>a5Z a b s.1 s.2) (([]:List m9),0)).bind fun x=>x.go (fun r=>some r) fun s=>d20 s)
theorem f3K{a b}:OK a1V [j8 8 p9 a,j8 8 p9 b] (b75 a b):=
 o8 _ fun r h=>n7<|tk 0 V3<|rg<|lp (e2k a b) h (fun _ h=>a1V.rt h) (e39 r) fun hI=>om ((.own 2 0 8 0 0:V)=.own 2 0 8 0 ([]:List m9).length) (by simp)<|sk [.is (.tmp 5) (.own 2 0 8 0 ([]:List m9).length)] [0,1,5,6] [(2,0)] hI
def d1p:FS (Int):=⟨210,Tryz.f210,[.val [] []],[none],[.val [] []],fun r=>vi r,fun _=>[none],Tryz.func210⟩
def c0J(b:Bool):Option Int:=
 (bif b then some 1 else some 0)
theorem e1t{b}:OK d1p [.b b] (c0J b):=
 o8 _ fun r h=>n7<|j6 0 h (fun h=>rg<|fE h) (fun h=>rg<|fE h)
def a60:FS (Bool):=⟨203,Tryz.f203,[.val [] []],[none],[.val [some 1] []],fun r=>.b r,fun _=>[none],Tryz.func203⟩
def c8S:Int->KS:=fun n1=>⟨a60.k 4 [false],(bs 3 (vi n1::(bs 16 []))),[some []]⟩
def c2O(n1:Int):Option Bool:=
 some (decide (n1>=2))
theorem f0b(r):NF a60 r c8S (fun s=>c2O s):=fun n1 h=>PK<|rg<|fE h
def d9o(list:List Bool):(Int×Int)->KS:=fun (n,i)=>⟨a60.k 3 [],(j8 1 eB list::(bs 2 (vi n::(vi i::(bs 15 []))))),[some []]⟩
def a5l(list:List Bool)(n:Int)(i:Int):Option (l7 Bool (Int×Int) Int):=
 (bif decide (i<(list.length:Int)) then ((idx list i).bind fun y=>((c0J y).bind fun d1J=>some (l7.nxt (m8 (n+d1J),m8 (i+1))))) else some (l7.brk n))
theorem e7y(list):LQ a60 c8S (d9o list) (fun s=>a5l list s.1 s.2):=fun lc (n,i) h=>PK<|rg<|j6 3 h (fun h=>rg<|u9 eB 3 h fun y hy h=>l8 d1p e1t 5 h fun d1J h=>rg<|(lc.nx h fun hI=>sk [] [0,3,4] [] hI)) (fun h=>(lc.bk h fun hI=>sk [] [3] [] hI))
def b4J(list:List Bool):Option Bool:=
 ((o9 (fun s:Int×Int=>a5l list s.1 s.2) (0,0)).bind fun x=>x.go (fun r=>some r) fun s=>c2O s)
theorem d0v{list}:OK a60 [j8 1 eB list] (b4J list):=
 o8 _ fun r h=>N7<|lp (e7y list) h (fun _ h=>a60.rt h) (f0b r) fun hI=>sk [] [0,3,4] [] hI
def a52:FS (Bool):=⟨209,Tryz.f209,[.val [] []],[none,none],[.val [some 8] [],.val [] []],fun r=>.b r,fun _=>[none,none],Tryz.func209⟩
def d3D:Unit->KS:=fun _=>⟨a52.k 3 [false],(bs 19 []),[some []]⟩
def c76:Option Bool:=
 some false
theorem e8P(r):NF a52 r d3D (fun s=>c76):=fun _ h=>PK<|rg<|fE h
def e6Q(list:List m9):Int->KS:=fun i=>⟨a52.k 2 [],(j8 8 p9 list::(bs 4 (vi i::(bs 13 [])))),[some []]⟩
def a8w(list:List m9)(i:Int):Option (l7 Bool Int Unit):=
 (bif decide (i<(list.length:Int)) then ((idx list i).bind fun vote=>(bif decide (vote.a8>0) then some (l7.ret true) else some (l7.nxt (m8 (i+1))))) else some (l7.brk ()))
theorem e3n(list):LQ a52 d3D (e6Q list) (fun s=>a8w list s):=fun lc i h=>PK<|rg<|j6 3 h (fun h=>rg<|u9 p9 2 h fun vote J3 h=>j6 5 h (fun h=>rg<|fL lc h) (fun h=>rg<|(lc.nx h fun hI=>sk [] [0,5] [] hI))) (fun h=>(lc.bk h fun hI=>sk [] [] [] hI))
def b6z(list:List m9)(from_:Int):Option Bool:=
 ((o9 (fun s:Int=>a8w list s) from_).bind fun x=>x.go (fun r=>some r) fun s=>c76)
theorem e5C{list from_}:OK a52 [j8 8 p9 list,vi from_] (b6z list from_):=
 o8 _ fun r h=>n7<|lp (e3n list) h (fun _ h=>a52.rt h) (e8P r) fun hI=>sk [] [0,5] [] hI
def a2u:FS (Bool):=⟨205,Tryz.f205,[.val [] []],[none,none],[.val A8 [],.val [] []],fun r=>.b r,fun _=>[none,none],Tryz.func205⟩
def c5z:Unit->KS:=fun _=>⟨a2u.k 3 [false],(bs 30 []),[some []]⟩
def d16:Option Bool:=
 some false
theorem d82(r):NF a2u r c5z (fun s=>d16):=fun _ h=>PK<|rg<|fE h
def d1z(n:j7)(q:o7):Int->KS:=fun i=>⟨a2u.k 2 [],(bs 2 (.ptr 1 0 0::(.ptr 2 0 0::(bs 1 (vi i::(bs 24 [])))))),[some [],some [.var 52 (Y2 n)],some [.var 44 [vi q.c8,vi q.Seq]]]⟩
def f3z(n:j7)(q:o7)(i:Int):Unit->KS:=fun _=>⟨a2u.k 4 [true,false],(bs 2 (.ptr 1 0 0::(.ptr 2 0 0::(bs 1 (vi i::(bs 24 [])))))),[some [],some [.var 52 (Y2 n)],some [.var 44 [vi q.c8,vi q.Seq]]]⟩
def c5c(i:Int):Option (l7 Bool Int Unit):=
 some (l7.nxt (m8 (i+1)))
theorem d78(n q i)(lc:F8 a2u c5z (d1z n q)):NL lc (f3z n q i) (fun s=>c5c i):=fun _ h=>PK<|rg<|(lc.nx h fun hI=>sk [] [2,3,5] [(1,0),(2,0)] hI)
def b0o(n:j7)(q:o7)(i:Int):Option (l7 Bool Int Unit):=
 (bif decide (i<(n.a5.length:Int)) then ((((idx n.a5 i).bind fun entry=>(bif (!entry.i8) then (bif (([entry.a0.c8,entry.a0.Seq]:List Int)==[q.c8,q.Seq]) then some (m5.ret (l7.ret true)) else some (m5.brk ())) else some (m5.brk ()))):Option (m5 (l7 Bool Int Unit) Unit)).bind fun x=>x.go some fun j=>c5c i) else some (l7.brk ()))
theorem e2z(n q):LQ a2u c5z (d1z n q) (fun s=>b0o n q s):=fun lc i h=>PK<|rg<|j6 4 h (fun h=>A9 h (d78 n q i lc) fun x2 h hc2=>rg<|u9 t6 3 h fun entry G9 h=>j6 7 h (fun h=>I8 t6 11 G9<|j6 16 h (fun h=>rg<|(B8 h hc2 fun h=>fL lc h)) (fun h=>(p8 h hc2 fun hI=>sk [] [2,3,5] [(1,0),(2,0)] hI))) (fun h=>(p8 h hc2 fun hI=>sk [] [2,3,5] [(1,0),(2,0)] hI))) (fun h=>(lc.bk h fun hI=>sk [] [] [] hI))
def a7W(n:j7)(q:o7):Option Bool:=
 ((o9 (fun s:Int=>b0o n q s) 0).bind fun x=>x.go (fun r=>some r) fun s=>d16)
theorem b6Z{n q}:OK a2u [.agg (w9 n),.agg (J0 q)] (a7W n q):=
 o8 _ fun r h=>n7<|lp (e2z n q) h (fun _ h=>a2u.rt h) (d82 r) fun hI=>sk [] [2,3,5] [(1,0),(2,0)] hI
def a3F:FS (j7×m6×Bool):=⟨182,Tryz.f182,[.val A8 G7,.val K4 [],.val [] []],[none],[.val A8 G7],fun r=>.tup [.agg (H3 r.1),.agg (t6 r.2.1),.b r.2.2],fun _=>[none],Tryz.func182⟩
def e2f(n:j7):Unit->KS:=fun _=>⟨a3F.k 3 [false],(bs 1 (.ptr 1 0 0::(.ptr 2 0 0::(.ptr 3 0 0::(bs 1 (vi (n.a5.length:Int)::(bs 69 []))))))),[some (a7n n),some [.var 52 (a7D n)],some [.var 52 [vi 0,vi 0,.nil,.nil,vi 0,vi 0,vi 0,.nil,.nil,.b false,vi 0,vi 0,.nil,.nil,vi 0,vi 0,.nil,.b false,.nil,.b false,vi 0,vi 0,.nil,.nil,vi 0,vi 0,.nil]],some [.var 50 [.b false,vi 0,vi 0,.nil,.nil,vi 0,vi 0]]]⟩
def e7o(n:j7):Unit->KS:=fun _=>⟨a3F.k 5 [false,false,false],(bs 1 (.ptr 1 0 0::(.ptr 2 0 0::(.ptr 3 0 0::(bs 71 []))))),[some (a7n n),some [.var 52 (a7D n)],some [.var 52 [vi 0,vi 0,.nil,.nil,vi 0,vi 0,vi 0,.nil,.nil,.b false,vi 0,vi 0,.nil,.nil,vi 0,vi 0,.nil,.b false,.nil,.b false,vi 0,vi 0,.nil,.nil,vi 0,vi 0,.nil]],some [.var 50 [.b false,vi 0,vi 0,.nil,.nil,vi 0,vi 0]]]⟩
def d3O(n:j7):(List m6)->KS:=fun b1n=>⟨a3F.k 6 [false,false,false,false],(bs 1 (.ptr 1 0 0::(.ptr 3 0 0::(.ptr 4 0 0::(bs 71 []))))),[some [m7 108 8 p9 n.Acc.a7,m7 50 7 t6 n.a5,m7 4 1 eB n.c9,m7 4 1 eB n.a7,.dead],some [.var 52 ([vi n.Id,vi n.Acc.i4,.own 0 0 8 0 n.Acc.a7.length,.own 0 1 7 0 n.a5.length,vi n.Seq,vi n.d8,vi n.a8,.own 0 2 1 0 n.c9.length]++a6j n++[.own 0 3 1 0 n.a7.length]++a3P n++[.own 2 0 7 0 b1n.length])],some [m7 50 7 t6 b1n],some [.var 52 [vi 0,vi 0,.nil,.nil,vi 0,vi 0,vi 0,.nil,.nil,.b false,vi 0,vi 0,.nil,.nil,vi 0,vi 0,.nil,.b false,.nil,.b false,vi 0,vi 0,.nil,.nil,vi 0,vi 0,.nil]],some [.var 50 [.b false,vi 0,vi 0,.nil,.nil,vi 0,vi 0]]]⟩
def c7B(n:j7)(b1n:List m6):Option (j7×m6×Bool):=
 some ((j7.mk n.Id n.Acc n.a5 n.Seq n.d8 n.a8 n.c9 n.i5 n.d6 n.a7 n.i9 n.i7 n.b7 b1n),(m6.mk false (o7.mk 0 0) (n6.mk [] [] 0 0)),false)
theorem d7I(n)(r):NF a3F r (d3O n) (fun s=>c7B n s):=fun b1n h=>PK<|rg<|s9 n.Acc.a7<|H0 n.a5 n.c9 n.a7 b1n<|fE h
def d8g(n:j7):(List m6)->KS:=fun d9=>⟨a3F.k 5 [false,false,false],(bs 1 (.ptr 1 0 0::(.ptr 2 0 0::(.ptr 3 0 0::(bs 71 []))))),[some [m7 108 8 p9 n.Acc.a7,m7 50 7 t6 n.a5,m7 4 1 eB n.c9,m7 4 1 eB n.a7,.dead],some [.var 52 ([vi n.Id,vi n.Acc.i4,.own 0 0 8 0 n.Acc.a7.length,.own 0 1 7 0 n.a5.length,vi n.Seq,vi n.d8,vi n.a8,.own 0 2 1 0 n.c9.length]++a6j n++[.own 0 3 1 0 n.a7.length]++a3P n++[.own 4 0 7 0 d9.length])],some [.var 52 [vi 0,vi 0,.nil,.nil,vi 0,vi 0,vi 0,.nil,.nil,.b false,vi 0,vi 0,.nil,.nil,vi 0,vi 0,.nil,.b false,.nil,.b false,vi 0,vi 0,.nil,.nil,vi 0,vi 0,.nil]],some [.var 50 [.b false,vi 0,vi 0,.nil,.nil,vi 0,vi 0]],some [m7 50 7 t6 d9]]⟩
def a9S(n:j7)(d9:List m6):Option (l7 (j7×m6×Bool) (List m6) (List m6)):=
 (bif decide ((d9.length:Int)>0) then ((idx d9 0).bind fun entry=>(t5 ((0:Int)<=1/\1<=(d9.length:Int)) ((t5 ((([]:List m6).length+(d9.length-(1:Int).toNat))*88<=140737488355328) (((a7W (j7.mk n.Id n.Acc n.a5 n.Seq n.d8 n.a8 n.c9 n.i5 n.d6 n.a7 n.i9 n.i7 n.b7 (([]:List m6)++(d9.drop (0+(1:Int).toNat)).take (d9.length-(1:Int).toNat))) entry.a0).bind fun a6H=>(bif (!a6H) then some (l7.ret ((j7.mk n.Id n.Acc n.a5 n.Seq n.d8 n.a8 n.c9 n.i5 n.d6 n.a7 n.i9 n.i7 n.b7 (([]:List m6)++(d9.drop (0+(1:Int).toNat)).take (d9.length-(1:Int).toNat))),entry,true)) else some (l7.nxt (([]:List m6)++(d9.drop (0+(1:Int).toNat)).take (d9.length-(1:Int).toNat)))))))))) else some (l7.brk d9))
theorem e7D(n):LQ a3F (d3O n) (d8g n) (fun s=>a9S n s):=fun lc d9 h=>PK<|rg<|j6 3 h (fun h=>rg<|A7 h fun entry G9 h=>B5 G9<|H9 t6 3 G9<|rg<|tk 0 K4<|u0 h fun e1 h=>ob e1.1<|ob e1.2<|u0 h fun e2 h=>om (V.own 19 0 7 0 (([]:List m6).length+(d9.length-(1:Int).toNat))=.own 19 0 7 0 (([]:List m6)++(d9.drop (0+(1:Int).toNat)).take (d9.length-(1:Int).toNat)).length) (c4V (by omega))<|om (s8.row 50 7 (([]:List m6).length+(d9.length-(1:Int).toNat)) (([]:List m6).map t6++((d9.map t6).drop (0+(1:Int).toNat)).take (d9.length-(1:Int).toNat))=m7 50 7 t6 (([]:List m6)++(d9.drop (0+(1:Int).toNat)).take (d9.length-(1:Int).toNat))) (c3z (by omega))<|C1 m6<|ob e2<|om ((0+(1:Int).toNat)+(d9.length-(1:Int).toNat)<=d9.length) (by omega)<|tl (4,{a:=.part,v:=some (.own 19 0 7 0 (([]:List m6)++(d9.drop (0+(1:Int).toNat)).take (d9.length-(1:Int).toNat)).length),e:=some (m7 50 7 t6 (([]:List m6)++(d9.drop (0+(1:Int).toNat)).take (d9.length-(1:Int).toNat)))})<|rg<|R8 a2u b6Z 3 2 h fun a6H h=>s9 n.Acc.a7<|H0 n.a5 n.c9 n.a7 (([]:List m6)++(d9.drop (0+(1:Int).toNat)).take (d9.length-(1:Int).toNat))<|j6 4 h (fun h=>rg<|s9 n.Acc.a7<|H0 n.a5 n.c9 n.a7 (([]:List m6)++(d9.drop (0+(1:Int).toNat)).take (d9.length-(1:Int).toNat))<|fL lc h) (fun h=>(lc.nx h fun hI=>sk [] [1,2,3] [(1,0),(2,0),(3,0),(19,0)] hI))) (fun h=>(lc.bk h fun hI=>sk [] [1,2,3] [(1,0),(4,0),(2,0),(3,0)] hI))
def b8Z(n:j7):Option (j7×m6×Bool):=
 ((o9 (fun s:List m6=>a9S n s) n.d9).bind fun x=>x.go (fun r=>some r) fun s=>c7B n s)
theorem f4h(n)(r):NF a3F r (e7o n) (fun s=>b8Z n):=fun _ h=>PK<|lp (e7D n) h (fun _ h=>a3F.rt h) (d7I n r) fun hI=>sk [] [1,2,3] [(1,0),(2,0),(3,0),(0,4)] hI
def b65(n:j7):Option (j7×m6×Bool):=
 ((b6z n.i5 (n.a5.length:Int)).bind fun c1r=>(bif c1r then some (n,(m6.mk true (o7.mk 0 0) (n6.mk [] [] 0 0)),true) else (((bif n.i9 then ((a7W n n.b7.a0).bind fun d0R=>(bif (!d0R) then ((X0 n.b7).bind fun l5Entry=>some (m5.ret (n,l5Entry,true))) else some (m5.brk ()))) else some (m5.brk ())):Option (m5 (j7×m6×Bool) Unit)).bind fun x=>x.go some fun j=>b8Z n)))
theorem f0J(n)(r):NF a3F r (e2f n) (fun s=>b65 n):=fun _ h=>PK<|rg<|cbE a52.t e5C h fun c1r d2o h=>cdT (a52.t 3 false c1r) h (fun _ h=>ob d2o<|rg<|A5 n<|fE h) (fun _ h=>ob d2o<|A9 h (f4h n r) fun x1 h hc1=>rg<|j6 2 h (fun h=>R8 a2u b6Z 7 2 h fun d0R h=>A5 n<|j6 9 h (fun h=>rg<|l8 a0C a0W 3 h fun l5Entry h=>(B8 h hc1 fun h=>A5 n<|fE h)) (fun h=>(p8 h hc1 fun hI=>sk [] [1,2,3] [(1,0),(2,0),(3,0)] hI))) (fun h=>(p8 h hc1 fun hI=>sk [] [1,2,3] [(1,0),(2,0),(3,0)] hI)))
def b9n(n:j7):Option (j7×m6×Bool):=
 (((bif decide ((n.a5.length:Int)<(n.i5.length:Int)) then ((idx n.i5 (n.a5.length:Int)).bind fun vote=>(bif decide (vote.a8>0) then ((X0 vote.i0).bind fun b2G=>some (m5.ret (n,b2G,true))) else some (m5.brk ()))) else some (m5.brk ())):Option (m5 (j7×m6×Bool) Unit)).bind fun x=>x.go some fun j=>b65 n)
theorem e3f{n}:OK a3F [.agg (H3 n)] (b9n n):=
 o8 _ fun r h=>n7<|A9 h (f0J n r) fun x1 h hc1=>rg<|j6 5 h (fun h=>u9 p9 9 h fun vote J3 h=>j6 13 h (fun h=>rg<|I8 p9 4 J3<|l8 a0C a0W 7 h fun b2G h=>(B8 h hc1 fun h=>A5 n<|fE h)) (fun h=>(p8 h hc1 fun hI=>sk [] [1,2,3,5] [(1,0),(2,0),(3,0)] hI))) (fun h=>(p8 h hc1 fun hI=>sk [] [1,2,3,5] [(1,0),(2,0),(3,0)] hI))
def a1s:FS (Bool):=⟨166,Tryz.f166,[.val [] []],[none,none],[.val O6 [],.val O6 []],fun r=>.b r,fun _=>[none,none],Tryz.func166⟩
def d2t(a:n6)(b:n6):Unit->KS:=fun _=>⟨a1s.k 4 [false,false],(bs 2 (.ptr 1 0 0::(.ptr 2 0 0::(bs 69 [])))),[some [],some [.var 48 (a0U a)],some [.var 48 (a0U b)]]⟩
def c7k:Unit->KS:=fun _=>⟨a1s.k 6 [false,false,false],(bs 73 []),[some []]⟩
def c6A:Option Bool:=
 some true
theorem e8U(r):NF a1s r c7k (fun s=>c6A):=fun _ h=>PK<|rg<|fE h
def e80(a:n6)(b:n6):Int->KS:=fun i1=>⟨a1s.k 5 [false,false],(bs 2 (.ptr 1 0 0::(.ptr 2 0 0::(bs 2 (vi i1::(bs 66 [])))))),[some [],some [.var 48 (a0U a)],some [.var 48 (a0U b)]]⟩
def b1W(a:n6)(b:n6)(i1:Int):Option (l7 Bool Int Unit):=
 (bif decide (i1<(a.b6.length:Int)) then ((idx a.b6 i1).bind fun put=>((idx b.b6 i1).bind fun put1=>(bif (!(([put.i6,put.g7]:List Int)==[put1.i6,put1.g7])) then some (l7.ret false) else some (l7.nxt (m8 (i1+1)))))) else some (l7.brk ()))
theorem e4F(a b):LQ a1s c7k (e80 a b) (fun s=>b1W a b s):=fun lc i1 h=>PK<|rg<|j6 4 h (fun h=>rg<|u9 w8 3 h fun put hput h=>u9 w8 8 h fun put1 b4s h=>j6 10 h (fun h=>rg<|fL lc h) (fun h=>rg<|(lc.nx h fun hI=>sk [] [2,3,6] [(1,0),(2,0)] hI))) (fun h=>(lc.bk h fun hI=>sk [] [] [] hI))
def c3A(a:n6)(b:n6):Option Bool:=
 ((o9 (fun s:Int=>b1W a b s) 0).bind fun x=>x.go (fun r=>some r) fun s=>c6A)
theorem f4T(a b)(r):NF a1s r (d2t a b) (fun s=>c3A a b):=fun _ h=>PK<|rg<|lp (e4F a b) h (fun _ h=>a1s.rt h) (e8U r) fun hI=>sk [] [2,3,6] [(1,0),(2,0)] hI
def f1n(a:n6)(b:n6):Int->KS:=fun i=>⟨a1s.k 3 [false],(bs 2 (.ptr 1 0 0::(.ptr 2 0 0::(bs 1 (vi i::(bs 67 [])))))),[some [],some [.var 48 (a0U a)],some [.var 48 (a0U b)]]⟩
def b1E(a:n6)(b:n6)(i:Int):Option (l7 Bool Int Unit):=
 (bif decide (i<(a.b5.length:Int)) then ((idx a.b5 i).bind fun read=>((idx b.b5 i).bind fun T4=>(bif (!(([read.i6,read.j5]:List Int)==[T4.i6,T4.j5])) then some (l7.ret false) else some (l7.nxt (m8 (i+1)))))) else some (l7.brk ()))
theorem f2W(a b):LQ a1s (d2t a b) (f1n a b) (fun s=>b1E a b s):=fun lc i h=>PK<|rg<|j6 4 h (fun h=>rg<|u9 w6 3 h fun read a4d h=>u9 w6 8 h fun T4 c72 h=>j6 10 h (fun h=>rg<|fL lc h) (fun h=>rg<|(lc.nx h fun hI=>sk [] [2,3,5] [(1,0),(2,0)] hI))) (fun h=>(lc.bk h fun hI=>sk [] [2,3] [(1,0),(2,0)] hI))
def b0n(a:n6)(b:n6):Option Bool:=
 (bif (a.g7 != b.g7) then some false else (bif (a.Code != b.Code) then some false else (bif ((a.b5.length:Int) != (b.b5.length:Int)) then some false else (bif ((a.b6.length:Int) != (b.b6.length:Int)) then some false else ((o9 (fun s:Int=>b1E a b s) 0).bind fun x=>x.go (fun r=>some r) fun s=>c3A a b)))))
theorem c1N{a b}:OK a1s [.agg (Q9 a),.agg (Q9 b)] (b0n a b):=
 o8 _ fun r h=>n7<|j6 5 h (fun h=>rg<|fE h) (fun h=>j6 12 h (fun h=>rg<|fE h) (fun h=>j6 21 h (fun h=>rg<|fE h) (fun h=>j6 29 h (fun h=>rg<|fE h) (fun h=>rg<|lp (f2W a b) h (fun _ h=>a1s.rt h) (f4T a b r) fun hI=>sk [] [2,3,5] [(1,0),(2,0)] hI))))
def b6k:FS (Bool):=⟨60,Tryz.f60,[.val [] []],[none],[.val [] []],fun r=>.b r,fun _=>[none],Tryz.func60⟩
def a9X(q:o7):Option Bool:=
 (bif decide (q.c8>=0) then (bif decide (q.c8<3) then (bif decide (q.Seq>=1) then some (decide (q.Seq<=1000)) else some false) else some false) else some false)
theorem c0x{q}:OK b6k [.agg (J0 q)] (a9X q):=
 o8 _ fun r h=>n7<|j6 3 h (fun h=>j6 8 h (fun h=>j6 13 h (fun h=>fE h) (fun h=>fE h)) (fun h=>fE h)) (fun h=>fE h)
def a9a:FS (Bool):=⟨114,Tryz.f114,[.val [] []],[none],[.val [] []],fun r=>.b r,fun _=>[none],Tryz.func114⟩
def a5P(n:Int):Option Bool:=
 (bif decide (n>=(-1000000)) then some (decide (n<=1000000)) else some false)
theorem b1j{n}:OK a9a [vi n] (a5P n):=
 o8 _ fun r h=>n7<|j6 2 h (fun h=>fE h) (fun h=>fE h)
def b3T:FS (Bool):=⟨170,Tryz.f170,[.val [] []],[none],[.val [] []],fun r=>.b r,fun _=>[none],Tryz.func170⟩
def a8e(n:Int):Option Bool:=
 (bif decide (n>=0) then some (decide (n<4)) else some false)
theorem b98{n}:OK b3T [vi n] (a8e n):=
 o8 _ fun r h=>n7<|j6 2 h (fun h=>fE h) (fun h=>fE h)
def a59:FS (Bool):=⟨198,Tryz.f198,[.val [] []],[none,none],[.val [some 2] [],.val [] []],fun r=>.b r,fun _=>[none,none],Tryz.func198⟩
def c9I:Unit->KS:=fun _=>⟨a59.k 3 [false],(bs 19 []),[some []]⟩
def d2R:Option Bool:=
 some false
theorem e0q(r):NF a59 r c9I (fun s=>d2R):=fun _ h=>PK<|rg<|fE h
def d8f(list:List r9)(box:Int):Int->KS:=fun i=>⟨a59.k 2 [],(j8 2 w6 list::(vi box::(bs 3 (vi i::(bs 13 []))))),[some []]⟩
def b7Q(list:List r9)(box:Int)(i:Int):Option (l7 Bool Int Unit):=
 (bif decide (i<(list.length:Int)) then ((idx list i).bind fun read=>(bif (read.i6==box) then some (l7.ret true) else some (l7.nxt (m8 (i+1))))) else some (l7.brk ()))
theorem f5w(list box):LQ a59 c9I (d8f list box) (fun s=>b7Q list box s):=fun lc i h=>PK<|rg<|j6 3 h (fun h=>rg<|u9 w6 2 h fun read a4d h=>j6 6 h (fun h=>rg<|fL lc h) (fun h=>rg<|(lc.nx h fun hI=>sk [] [0,1,5] [] hI))) (fun h=>(lc.bk h fun hI=>sk [] [] [] hI))
def b3Q(list:List r9)(box:Int):Option Bool:=
 ((o9 (fun s:Int=>b7Q list box s) 0).bind fun x=>x.go (fun r=>some r) fun s=>d2R)
theorem c85{list box}:OK a59 [j8 2 w6 list,vi box] (b3Q list box):=
 o8 _ fun r h=>n7<|lp (f5w list box) h (fun _ h=>a59.rt h) (e0q r) fun hI=>sk [] [0,1,5] [] hI
def a5v:FS (Int):=⟨199,Tryz.f199,[.val [] []],[none,none],[.val [some 2] [],.val [] []],fun r=>vi r,fun _=>[none,none],Tryz.func199⟩
def c6u:Unit->KS:=fun _=>⟨a5v.k 3 [false],(bs 20 []),[some []]⟩
def d6Y:Option Int:=
 some (-1)
theorem e0B(r):NF a5v r c6u (fun s=>d6Y):=fun _ h=>PK<|rg<|fE h
def e4u(list:List p7)(box:Int):Int->KS:=fun i=>⟨a5v.k 2 [],(j8 2 w8 list::(vi box::(bs 3 (vi i::(bs 14 []))))),[some []]⟩
def a7e(list:List p7)(box:Int)(i:Int):Option (l7 Int Int Unit):=
 (bif decide (i<(list.length:Int)) then ((idx list i).bind fun put=>(bif (put.i6==box) then some (l7.ret i) else some (l7.nxt (m8 (i+1))))) else some (l7.brk ()))
theorem f3w(list box):LQ a5v c6u (e4u list box) (fun s=>a7e list box s):=fun lc i h=>PK<|rg<|j6 3 h (fun h=>rg<|u9 w8 2 h fun put hput h=>j6 6 h (fun h=>rg<|fL lc h) (fun h=>rg<|(lc.nx h fun hI=>sk [] [0,1,5] [] hI))) (fun h=>(lc.bk h fun hI=>sk [] [] [] hI))
def a6i(list:List p7)(box:Int):Option Int:=
 ((o9 (fun s:Int=>a7e list box s) 0).bind fun x=>x.go (fun r=>some r) fun s=>d6Y)
theorem c0Q{list box}:OK a5v [j8 2 w8 list,vi box] (a6i list box):=
 o8 _ fun r h=>n7<|lp (f3w list box) h (fun _ h=>a5v.rt h) (e0B r) fun hI=>sk [] [0,1,5] [] hI
def a0X:FS (Bool):=⟨167,Tryz.f167,[.val [] []],[none],[.val O6 []],fun r=>.b r,fun _=>[none],Tryz.func167⟩
def e5e(r_:n6):Unit->KS:=fun _=>⟨a0X.k 2 [false],(bs 1 (.ptr 1 0 0::(bs 129 []))),[some [],some [.var 48 (a0U r_)]]⟩
def d4Y(r_:n6):Unit->KS:=fun _=>⟨a0X.k 4 [false,false],(bs 1 (.ptr 1 0 0::(bs 129 []))),[some [],some [.var 48 (a0U r_)]]⟩
def c7e:Unit->KS:=fun _=>⟨a0X.k 6 [false,false,false],(bs 131 []),[some []]⟩
def d50:Option Bool:=
 some true
theorem e2W(r):NF a0X r c7e (fun s=>d50):=fun _ h=>PK<|rg<|fE h
def f5a(r_:n6):Int->KS:=fun i1=>⟨a0X.k 5 [false,false],(bs 1 (.ptr 1 0 0::(bs 2 (vi i1::(bs 126 []))))),[some [],some [.var 48 (a0U r_)]]⟩
def b16(r_:n6)(i1:Int):Option (l7 Bool Int Unit):=
 (bif decide (i1<(r_.b6.length:Int)) then ((idx r_.b6 i1).bind fun put=>((a8e put.i6).bind fun b2g=>(bif (!b2g) then some (l7.ret false) else ((a5P put.g7).bind fun a1a=>(bif (!a1a) then some (l7.ret false) else (t5 ((0:Int)<=i1/\i1<=(r_.b6.length:Int)) (((a6i ((r_.b6.drop 0).take (i1.toNat-0)) put.i6).bind fun a2A=>(bif decide (a2A>=0) then some (l7.ret false) else some (l7.nxt (m8 (i1+1)))))))))))) else some (l7.brk ()))
theorem e3N(r_):LQ a0X c7e (f5a r_) (fun s=>b16 r_ s):=fun lc i1 h=>PK<|rg<|j6 4 h (fun h=>rg<|u9 w8 3 h fun put hput h=>l8 b3T b98 6 h fun b2g h=>j6 8 h (fun h=>rg<|fL lc h) (fun h=>I8 w8 12 hput<|l8 a9a b1j 15 h fun a1a h=>j6 18 h (fun h=>rg<|fL lc h) (fun h=>u0 h fun e1 h=>om (V.sl 2 (i1.toNat-0) (((r_.b6.map w8).drop 0).take (i1.toNat-0))=j8 2 w8 ((r_.b6.drop 0).take (i1.toNat-0))) (b8p e1)<|ob e1.1<|ob e1.2<|tl (22,{v:=some (j8 2 w8 ((r_.b6.drop 0).take (i1.toNat-0)))})<|I8 w8 26 hput<|l8 a5v c0Q 29 h fun a2A h=>j6 31 h (fun h=>rg<|fL lc h) (fun h=>rg<|(lc.nx h fun hI=>sk [] [1,4] [(1,0)] hI))))) (fun h=>(lc.bk h fun hI=>sk [] [] [] hI))
def c4l(r_:n6):Option Bool:=
 ((o9 (fun s:Int=>b16 r_ s) 0).bind fun x=>x.go (fun r=>some r) fun s=>d50)
theorem e2Z(r_)(r):NF a0X r (d4Y r_) (fun s=>c4l r_):=fun _ h=>PK<|rg<|lp (e3N r_) h (fun _ h=>a0X.rt h) (e2W r) fun hI=>sk [] [1,4] [(1,0)] hI
def e1k(r_:n6):Int->KS:=fun i=>⟨a0X.k 3 [false],(bs 1 (.ptr 1 0 0::(bs 1 (vi i::(bs 127 []))))),[some [],some [.var 48 (a0U r_)]]⟩
def b2l(r_:n6)(i:Int):Option (l7 Bool Int Unit):=
 (bif decide (i<(r_.b5.length:Int)) then ((idx r_.b5 i).bind fun read=>((a8e read.i6).bind fun b1Y=>(bif (!b1Y) then some (l7.ret false) else (bif decide (read.j5<0) then some (l7.ret false) else (bif decide (read.j5>1000000) then some (l7.ret false) else (t5 ((0:Int)<=i/\i<=(r_.b5.length:Int)) (((b3Q ((r_.b5.drop 0).take (i.toNat-0)) read.i6).bind fun b2k=>(bif b2k then some (l7.ret false) else some (l7.nxt (m8 (i+1)))))))))))) else some (l7.brk ()))
theorem f3Y(r_):LQ a0X (d4Y r_) (e1k r_) (fun s=>b2l r_ s):=fun lc i h=>PK<|rg<|j6 4 h (fun h=>rg<|u9 w6 3 h fun read a4d h=>l8 b3T b98 6 h fun b1Y h=>j6 8 h (fun h=>rg<|fL lc h) (fun h=>I8 w6 12 a4d<|j6 17 h (fun h=>rg<|fL lc h) (fun h=>I8 w6 21 a4d<|j6 26 h (fun h=>rg<|fL lc h) (fun h=>u0 h fun e2 h=>om (V.sl 2 (i.toNat-0) (((r_.b5.map w6).drop 0).take (i.toNat-0))=j8 2 w6 ((r_.b5.drop 0).take (i.toNat-0))) (b8p e2)<|ob e2.1<|ob e2.2<|tl (30,{v:=some (j8 2 w6 ((r_.b5.drop 0).take (i.toNat-0)))})<|I8 w6 34 a4d<|l8 a59 c85 37 h fun b2k h=>j6 38 h (fun h=>rg<|fL lc h) (fun h=>rg<|(lc.nx h fun hI=>sk [] [1,3] [(1,0)] hI)))))) (fun h=>(lc.bk h fun hI=>sk [] [1] [(1,0)] hI))
def b7O(r_:n6):Option Bool:=
 ((o9 (fun s:Int=>b2l r_ s) 0).bind fun x=>x.go (fun r=>some r) fun s=>c4l r_)
theorem e9k(r_)(r):NF a0X r (e5e r_) (fun s=>b7O r_):=fun _ h=>PK<|rg<|lp (f3Y r_) h (fun _ h=>a0X.rt h) (e2Z r_ r) fun hI=>sk [] [1,3] [(1,0)] hI
def b2i(r_:n6):Option Bool:=
 (((bif decide (r_.Code<0) then some (m5.ret false) else (bif decide (r_.Code>3) then some (m5.ret false) else ((a5P r_.g7).bind fun d0l=>(bif (!d0l) then some (m5.ret false) else (bif (r_.Code != 0) then (bif (r_.g7 != 0) then some (m5.ret false) else (bif decide ((r_.b6.length:Int)>0) then some (m5.ret false) else (bif (r_.Code==3) then (bif decide ((r_.b5.length:Int)>0) then some (m5.ret false) else some (m5.brk ())) else some (m5.brk ())))) else (bif (r_.Code==3) then (bif decide ((r_.b5.length:Int)>0) then some (m5.ret false) else some (m5.brk ())) else some (m5.brk ()))))))):Option (m5 Bool Unit)).bind fun x=>x.go some fun j=>b7O r_)
theorem d1h{r_}:OK a0X [.agg (Q9 r_)] (b2i r_):=
 o8 _ fun r h=>rg<|A9 h (e9k r_ r) fun x1 h hc1=>rg<|j6 3 h (fun h=>rg<|(B8 h hc1 fun h=>fE h)) (fun h=>j6 8 h (fun h=>rg<|(B8 h hc1 fun h=>fE h)) (fun h=>l8 a9a b1j 11 h fun d0l h=>j6 14 h (fun h=>rg<|(B8 h hc1 fun h=>fE h)) (fun h=>j6 18 h (fun h=>j6 22 h (fun h=>rg<|(B8 h hc1 fun h=>fE h)) (fun h=>j6 30 h (fun h=>rg<|(B8 h hc1 fun h=>fE h)) (fun h=>j6 34 h (fun h=>j6 40 h (fun h=>rg<|(B8 h hc1 fun h=>fE h)) (fun h=>(p8 h hc1 fun hI=>sk [] [1] [(1,0)] hI))) (fun h=>(p8 h hc1 fun hI=>sk [] [1] [(1,0)] hI))))) (fun h=>j6 34 h (fun h=>j6 40 h (fun h=>rg<|(B8 h hc1 fun h=>fE h)) (fun h=>(p8 h hc1 fun hI=>sk [] [1] [(1,0)] hI))) (fun h=>(p8 h hc1 fun hI=>sk [] [1] [(1,0)] hI))))))
def a2n:FS (Bool):=⟨109,Tryz.f109,[.val [] []],[none],[.val K4 []],fun r=>.b r,fun _=>[none],Tryz.func109⟩
def a1m(e_:m6):Option Bool:=
 (bif e_.i8 then (bif (([e_.a0.c8,e_.a0.Seq]:List Int)==[0,0]) then ((b0n e_.b8 (n6.mk [] [] 0 0)).bind fun a3b=>some a3b) else some false) else ((a9X e_.a0).bind fun a6E=>(bif a6E then ((b2i e_.b8).bind fun a1v=>(bif a1v then some (e_.b8.Code != 3) else some false)) else some false)))
theorem a3d{e_}:OK a2n [.agg (t6 e_)] (a1m e_):=
 o8 _ fun r h=>n7<|j6 1 h (fun h=>rg<|j6 4 h (fun h=>l8 a1s c1N 8 h fun a3b h=>fE h) (fun h=>fE h)) (fun h=>rg<|l8 b6k c0x 2 h fun a6E h=>j6 3 h (fun h=>l8 a0X d1h 6 h fun a1v h=>j6 8 h (fun h=>fE h) (fun h=>fE h)) (fun h=>fE h))
def a7j:FS (z4×Bool):=⟨183,Tryz.f183,[.val [none,some 8] [none,some 9000000],.val [] []],[none,none,none,none],[.val [none,some 8] [],.val [] [],.val [] [],.val K4 []],fun r=>.tup [.agg [vi r.1.i4,.bot],.b r.2],fun _=>[none,none,none,none],Tryz.func183⟩
def b3M(a:z4)(bal:Int)(slot:Int)(e_:m6):Option (z4×Bool):=
 (bif decide (slot<0) then some (a,false) else (bif decide (slot>=40) then some (a,false) else ((a1m e_).bind fun E5=>(bif (!E5) then some (a,false) else ((b0e a bal).bind fun no=>(bif (!no.2) then some (a,false) else none))))))
theorem c70{a bal slot e_}:OK a7j [.agg (Z1 a),vi bal,vi slot,.agg (t6 e_)] (b3M a bal slot e_):=
 o8 _ fun r h=>n7<|j6 2 h (fun h=>rg<|fE h) (fun h=>j6 6 h (fun h=>rg<|fE h) (fun h=>l8 a2n a3d 8 h fun E5 h=>j6 10 h (fun h=>rg<|fE h) (fun h=>rg<|l8 a55 c1f 2 h fun no h=>rg<|j6 1 h (fun h=>rg<|fE h) (fun h=>(nomatch h)))))
def b5q:FS (j7):=⟨123,Tryz.f123,[.val A8 G7],[none],[.val A8 G7],fun r=>.agg (H3 r),fun _=>[none],Tryz.func123⟩
def b3d(n:j7):Option j7:=
 some (j7.mk n.Id n.Acc n.a5 n.Seq 0 0 [] [] (m6.mk false (o7.mk 0 0) (n6.mk [] [] 0 0)) [] n.i9 n.i7 n.b7 n.d9)
theorem c4r{n}:OK b5q [.agg (H3 n)] (b3d n):=
 o8 _ fun r h=>rg4<|rg4<|X8 n.Acc.a7 n.a5 n.d9<|fE h
def a0k:FS (List l9):=⟨125,Tryz.f125,[.val [some 13] [some 66]],[none,none],[.val [] [],.val B9 []],fun r=>v5 66 13 s6 r,fun _=>[none,none],Tryz.func125⟩
def c32:(List l9)->KS:=fun out1=>⟨a0k.k 4 [false],(bs 5 (.own 1 0 13 0 out1.length::(bs 21 []))),[some [],some [m7 66 13 s6 out1]]⟩
def d0M(out1:List l9):Option (List l9):=
 some out1
theorem e1e(r):NF a0k r c32 (fun s=>d0M s):=fun out1 h=>PK<|rg<|s9 out1<|fE h
def d5t(id:Int)(m:l9):((List l9)×Int)->KS:=fun (out,t_)=>⟨a0k.k 3 [],(vi id::(bs 2 (.ptr 1 0 0::(bs 1 (.own 2 0 13 0 out.length::(vi t_::(bs 20 []))))))),[some [],some [.var 66 (a5h m)],some [m7 66 13 s6 out]]⟩
def d70(id:Int)(m:l9)(t_:Int):(List l9)->KS:=fun out2=>⟨a0k.k 9 [true,true],(vi id::(bs 2 (.ptr 1 0 0::(bs 1 (.own 2 0 13 0 out2.length::(vi t_::(bs 20 []))))))),[some [],some [.var 66 (a5h m)],some [m7 66 13 s6 out2]]⟩
def c39(t_:Int)(out2:List l9):Option (l7 (List l9) ((List l9)×Int) (List l9)):=
 some (l7.nxt (out2,m8 (t_+1)))
theorem f1T(id m t_)(lc:F8 a0k c32 (d5t id m)):NL lc (d70 id m t_) (fun s=>c39 t_ s):=fun out2 h=>PK<|rg<|(lc.nx h fun hI=>sk [] [0,3,5,6] [(1,0),(2,0)] hI)
def a5f(id:Int)(m:l9)(out:List l9)(t_:Int):Option (l7 (List l9) ((List l9)×Int) (List l9)):=
 (bif decide (t_<3) then (((bif (t_ != id) then ((a8k m).bind fun G2=>(t5 ((out.length+1)*152<=140737488355328) (some (m5.brk (out++[(l9.mk G2.a9 id t_ G2.a8 G2.g8 G2.i0 G2.a7)]))))) else some (m5.brk out)):Option (m5 (l7 (List l9) ((List l9)×Int) (List l9)) (List l9))).bind fun x=>x.go some fun j=>c39 t_ j) else some (l7.brk out))
theorem f0N(id m):LQ a0k c32 (d5t id m) (fun s=>a5f id m s.1 s.2):=fun lc (out,t_) h=>PK<|rg<|j6 1 h (fun h=>A9 h (f1T id m t_ lc) fun x2 h hc2=>rg<|j6 2 h (fun h=>rg<|l8 b3X b6q 1 h fun G2 h=>N7<|tk 2 B9<|u0 h fun e1 h=>F9 3 21 66 13 152 s6 out (l9.mk G2.a9 id t_ G2.a8 G2.g8 G2.i0 G2.a7) e1<|E8 (l9.mk G2.a9 id t_ G2.a8 G2.g8 G2.i0 G2.a7)<|(p8 h hc2 fun hI=>sk [] [0,3,5,6] [(1,0),(21,0)] hI)) (fun h=>(p8 h hc2 fun hI=>sk [] [0,3,5,6] [(1,0),(2,0)] hI))) (fun h=>(lc.bk h fun hI=>sk [] [5] [(2,0)] hI))
def a3s(id:Int)(m:l9):Option (List l9):=
 ((o9 (fun s:(List l9)×Int=>a5f id m s.1 s.2) (([]:List l9),0)).bind fun x=>x.go (fun r=>some r) fun s=>d0M s)
theorem a5N{id m}:OK a0k [vi id,.agg (s6 m)] (a3s id m):=
 o8 _ fun r h=>n7<|tk 0 B9<|rg<|lp (f0N id m) h (fun _ h=>a0k.rt h) (e1e r) fun hI=>om ((.own 3 0 13 0 0:V)=.own 3 0 13 0 ([]:List l9).length) (by simp)<|sk [.is (.tmp 5) (.own 3 0 13 0 ([]:List l9).length)] [0,3,5,6] [(1,0),(3,0)] hI
def a64:FS (z4×Bool):=⟨183,Tryz.f183,[.val [none,some 8] [none,some 108],.val [] []],[none,none,none,none],[.val [none,some 8] [none,some 108],.val [] [],.val [] [],.val K4 []],fun r=>.tup [.agg [vi r.1.i4,v5 108 8 p9 r.1.a7],.b r.2],fun _=>[none,none,none,none],Tryz.func183⟩
def d1Z(bal:Int)(slot:Int)(e_:m6)(l6Promise:z4×Bool):(List m9)->KS:=fun Y9=>⟨a64.k 5 [false,false,false],(bs 1 (vi bal::(vi slot::(bs 4 (.ptr 1 0 0::(.ptr 2 0 0::(bs 1 (.ptr 3 0 0::(bs 42 []))))))))),[some [.dead],some [.var 50 (a3h e_)],some [.var 40 [vi 0,.nil]],some [.var 40 [vi l6Promise.1.i4,.own 4 0 8 0 Y9.length]],some [m7 108 8 p9 Y9]]⟩
def c4p(bal:Int)(slot:Int)(e_:m6)(l6Promise:z4×Bool)(Y9:List m9):Option (z4×Bool):=
 ((X0 e_).bind fun l5Entry=>((idx Y9 slot).bind fun vote=>some ((z4.mk l6Promise.1.i4 (Y9.set slot.toNat (m9.mk bal l5Entry))),true)))
theorem e8y(bal slot e_ l6Promise)(r):NF a64 r (d1Z bal slot e_ l6Promise) (fun s=>c4p bal slot e_ l6Promise s):=fun Y9 h=>PK<|rg<|l8 a0C a0W 5 h fun l5Entry h=>A7 h fun vote J3 h=>B5 J3<|Q6 108 8 p9 8 V3 (m9.mk bal l5Entry) J3<|rg<|om (Y9.length=(Y9.set slot.toNat (m9.mk bal l5Entry)).length) (by simp)<|fE h
def e1J(bal:Int)(slot:Int)(e_:m6)(l6Promise:z4×Bool):(List m9)->KS:=fun a7=>⟨a64.k 4 [false,false],(bs 1 (vi bal::(vi slot::(bs 4 (.ptr 1 0 0::(.ptr 2 0 0::(bs 1 (.ptr 3 0 0::(bs 42 []))))))))),[some [.dead],some [.var 50 (a3h e_)],some [.var 40 [vi 0,.nil]],some [.var 40 [vi l6Promise.1.i4,.own 4 0 8 0 a7.length]],some [m7 108 8 p9 a7]]⟩
def a7T(slot:Int)(a7:List m9):Option (l7 (z4×Bool) (List m9) (List m9)):=
 (bif decide ((a7.length:Int)<=slot) then (t5 ((a7.length+1)*96<=140737488355328) (some (l7.nxt (a7++[(m9.mk 0 (m6.mk false (o7.mk 0 0) (n6.mk [] [] 0 0)))])))) else some (l7.brk a7))
theorem f0l(bal slot e_ l6Promise):LQ a64 (d1Z bal slot e_ l6Promise) (e1J bal slot e_ l6Promise) (fun s=>a7T slot s):=fun lc a7 h=>PK<|rg<|j6 4 h (fun h=>rg<|tk 3 V3<|u0 h fun e1 h=>F9 4 14 108 8 96 p9 a7 (m9.mk 0 (m6.mk false (o7.mk 0 0) (n6.mk [] [] 0 0))) e1<|E8 (m9.mk 0 (m6.mk false (o7.mk 0 0) (n6.mk [] [] 0 0)))<|(lc.nx h fun hI=>sk [] [1,2,7,8,10] [(1,0),(2,0),(3,0),(14,0)] hI)) (fun h=>(lc.bk h fun hI=>sk [] [1,2,7,8,10] [(1,0),(2,0),(3,0),(4,0)] hI))
def b2B(a:z4)(bal:Int)(slot:Int)(e_:m6):Option (z4×Bool):=
 (bif decide (slot<0) then some (a,false) else (bif decide (slot>=40) then some (a,false) else ((a1m e_).bind fun E5=>(bif (!E5) then some (a,false) else (a43 (b0e a bal) (fun no=>(bif (!no.2) then some (a,false) else none)) (((a8j a bal).bind fun l6Promise=>(bif (!l6Promise.2) then none else ((o9 (fun s:List m9=>a7T slot s) l6Promise.1.a7).bind fun x=>x.go (fun r=>some r) fun s=>c4p bal slot e_ l6Promise s)))))))))
theorem d0Z{a bal slot e_}:OK a64 [.agg [vi a.i4,v5 108 8 p9 a.a7],vi bal,vi slot,.agg (t6 e_)] (b2B a bal slot e_):=
 o8 _ fun r h=>n7<|j6 2 h (fun h=>rg<|s9 a.a7<|fE h) (fun h=>j6 6 h (fun h=>rg<|s9 a.a7<|fE h) (fun h=>l8 a2n a3d 8 h fun E5 h=>j6 10 h (fun h=>rg<|s9 a.a7<|fE h) (fun h=>rg<|cbA a55.t c1f 2 true h (fun no h=>osc a55 no (by simp [a55,K6,S8,P3,V.simple,vi,v5,Z1,eB,t6,eI,w8,w6,J0,Q9,p9]) (Q1 2)<|s9 a.a7<|rg<|j6 1 h (fun h=>rg<|s9 a.a7<|fE h) (fun h=>(nomatch h))) (fun h=>l8 b25 b6W 2 h fun l6Promise h=>s9 a.a7<|rg<|j6 1 h (fun h=>(nomatch h)) (fun h=>lp (f0l bal slot e_ l6Promise) h (fun _ h=>a64.rt h) (e8y bal slot e_ l6Promise r) fun hI=>sk [] [1,2,7,8,10] [(2,0),(3,0),(22,0),(18,0)] hI)))))
def b1a:FS (j7×List l9):=⟨126,Tryz.f126,[.val A8 G7,.val [some 13] []],[none],[.val A8 G7],fun r=>.tup [.agg (H3 r.1),j8 13 s6 r.2],fun _=>[none],Tryz.func126⟩
def a7c(n:j7):Option (j7×List l9):=
 (bif (n.d8 != 2) then some (n,([]:List l9)) else (bif decide ((n.a5.length:Int)>=40) then some (n,([]:List l9)) else ((b9n n).bind fun H7=>(bif (!H7.2.2) then some (H7.1,([]:List l9)) else (a43 (b3M H7.1.Acc H7.1.a8 (H7.1.a5.length:Int) H7.2.1) (fun no=>(bif (!no.2) then ((b3d H7.1).bind fun N6=>some (N6,([]:List l9))) else none)) (((b2B H7.1.Acc H7.1.a8 (H7.1.a5.length:Int) H7.2.1).bind fun a4T=>(bif (!a4T.2) then none else ((X0 H7.2.1).bind fun l5Entry=>(t5 (0<=(3:Int)/\(3:Int)*1<=140737488355328) (((idx (f6a (3:Int).toNat false) H7.1.Id).bind fun y=>((a3s H7.1.Id (l9.mk 3 0 0 H7.1.a8 (H7.1.a5.length:Int) H7.2.1 [])).bind fun J4=>some ((j7.mk H7.1.Id a4T.1 H7.1.a5 H7.1.Seq 3 H7.1.a8 H7.1.c9 H7.1.i5 l5Entry ((f6a (3:Int).toNat false).set H7.1.Id.toNat true) H7.1.i9 H7.1.i7 H7.1.b7 H7.1.d9),J4))))))))))))))
theorem b3g{n}:OK b1a [.agg (H3 n)] (a7c n):=
 o8 _ fun r h=>n7<|j6 3 h (fun h=>rg<|tk 1 B9<|A5 n<|C1 l9<|fE h) (fun h=>j6 8 h (fun h=>rg<|tk 1 B9<|A5 n<|C1 l9<|fE h) (fun h=>rg<|l8 a3F e3f 1 h fun H7 h=>A5 n<|rg<|j6 1 h (fun h=>rg<|tk 1 B9<|A5 H7.1<|C1 l9<|fE h) (fun h=>rg<|cbA a7j.t c70 8 true h (fun no h=>osc a7j no (by simp [a7j,K6,S8,P3,V.simple,vi,v5,Z1,eB,t6,eI,w8,w6,J0,Q9,p9]) (Q1 4)<|s9 H7.1.Acc.a7<|rg<|j6 1 h (fun h=>rg<|l8 b5q c4r 1 h fun N6 h=>A5 H7.1<|tk 2 B9<|A5 N6<|C1 l9<|fE h) (fun h=>(nomatch h))) (fun h=>l8 a64 d0Z 8 h fun a4T h=>s9 H7.1.Acc.a7<|rg<|j6 1 h (fun h=>(nomatch h)) (fun h=>N7<|l8 a0C a0W 1 h fun l5Entry h=>rg<|u0 h fun e1 h=>T3 0 52 4 1 1 eB false ti4 (.none) e1 (by decide) (by rfl)<|rg<|A7 h fun y hy h=>B5 hy<|Q6 4 1 eB 5 [] true hy<|rg<|l8 a0k a5N 10 h fun J4 h=>X8 a4T.1.a7 H7.1.a5 H7.1.c9<|om ((f6a (3:Int).toNat false).length=((f6a (3:Int).toNat false).set H7.1.Id.toNat true).length) (by simp)<|C7 H7.1.d9 J4<|fE h)))))
def d4N:FS (j7×List l9):=⟨173,Tryz.f173,[.val A8 G7,.val [some 13] []],[none,none],[.val A8 G7,.val B9 []],fun r=>.tup [.agg (H3 r.1),j8 13 s6 r.2],fun _=>[none,none],Tryz.func173⟩
def b8y(n:j7)(m:l9):Option (j7×List l9):=
 (bif (n.d8 != 1) then some (n,([]:List l9)) else (bif (m.a8 != n.a8) then some (n,([]:List l9)) else ((idx n.c9 m.c9).bind fun y=>((b9R m.a7 m.g8).bind fun c5l=>((b75 n.i5 c5l).bind fun c3B=>((b4J (n.c9.set m.c9.toNat true)).bind fun b1M=>(bif (!b1M) then some ((j7.mk n.Id n.Acc n.a5 n.Seq n.d8 n.a8 (n.c9.set m.c9.toNat true) c3B n.d6 n.a7 n.i9 n.i7 n.b7 n.d9),([]:List l9)) else ((a7c (j7.mk n.Id n.Acc n.a5 n.Seq 2 n.a8 [] c3B n.d6 n.a7 n.i9 n.i7 n.b7 n.d9)).bind fun N8=>some (N8.1,N8.2)))))))))
theorem d7B{n m}:OK d4N [.agg (H3 n),.agg (s6 m)] (b8y n m):=
 o8 _ fun r h=>n7<|j6 3 h (fun h=>rg<|tk 1 B9<|A5 n<|C1 l9<|fE h) (fun h=>j6 9 h (fun h=>rg<|tk 1 B9<|A5 n<|C1 l9<|fE h) (fun h=>rg<|A7 h fun y hy h=>B5 hy<|Q6 4 1 eB 5 [] true hy<|rg<|l8 c8b f2A 6 h fun c5l h=>l8 a1V f3K 7 h fun c3B h=>s9 c5l<|rg<|R8 a60 d0v 2 1 h fun b1M h=>om (n.c9.length=(n.c9.set m.c9.toNat true).length) (by simp)<|j6 3 h (fun h=>rg<|tk 1 B9<|C7 n.Acc.a7 n.a5<|om (n.c9.length=(n.c9.set m.c9.toNat true).length) (by simp)<|C7 n.a7 n.d9<|C1 l9<|fE h) (fun h=>N7<|l8 b1a b3g 1 h fun N8 h=>H0 n.Acc.a7 n.a5 n.a7 n.d9<|A5 N8.1<|fE h)))
def b26:FS (j7):=⟨177,Tryz.f177,[.val A8 G7],[none,none],[.val A8 G7,.val [] []],fun r=>.agg (H3 r),fun _=>[none,none],Tryz.func177⟩
def e8d(n:j7):Unit->KS:=fun _=>⟨b26.k 2 [false],(bs 2 (.ptr 1 0 0::(bs 1 (.ptr 2 0 0::(bs 12 []))))),[some (a7n n),some [.var 52 (a7D n)],some [.var 52 [vi 0,vi 0,.nil,.nil,vi 0,vi 0,vi 0,.nil,.nil,.b false,vi 0,vi 0,.nil,.nil,vi 0,vi 0,.nil,.b false,.nil,.b false,vi 0,vi 0,.nil,.nil,vi 0,vi 0,.nil]]]⟩
def d0E(n:j7):Option j7:=
 some n
theorem e71(n)(r):NF b26 r (e8d n) (fun s=>d0E n):=fun _ h=>PK<|rg<|A5 n<|fE h
def b2e(n:j7)(bal:Int):Option j7:=
 (((bif (n.d8 != 0) then (bif decide (bal>n.a8) then ((b3d n).bind fun N6=>some (m5.ret N6)) else some (m5.brk ())) else some (m5.brk ())):Option (m5 j7 Unit)).bind fun x=>x.go some fun j=>d0E n)
theorem c82{n bal}:OK b26 [.agg (H3 n),vi bal] (b2e n bal):=
 o8 _ fun r h=>rg<|A9 h (e71 n r) fun x1 h hc1=>rg<|j6 3 h (fun h=>j6 8 h (fun h=>rg<|l8 b5q c4r 1 h fun N6 h=>A5 n<|(B8 h hc1 fun h=>A5 N6<|fE h)) (fun h=>(p8 h hc1 fun hI=>sk [] [2,4] [(1,0),(2,0)] hI))) (fun h=>(p8 h hc1 fun hI=>sk [] [2,4] [(1,0),(2,0)] hI))
def c7w:FS (j7×List l9):=⟨174,Tryz.f174,[.val A8 G7,.val [some 13] []],[none,none],[.val A8 G7,.val B9 []],fun r=>.tup [.agg (H3 r.1),j8 13 s6 r.2],fun _=>[none,none],Tryz.func174⟩
def b7i(n:j7)(m:l9):Option (j7×List l9):=
 (a43 (b3M n.Acc m.a8 m.g8 m.i0) (fun no=>(bif (!no.2) then ((a4w m (l9.mk 6 0 0 n.Acc.i4 0 (m6.mk false (o7.mk 0 0) (n6.mk [] [] 0 0)) [])).bind fun a1Y=>some (n,a1Y)) else none)) (((b2B n.Acc m.a8 m.g8 m.i0).bind fun a4T=>(bif (!a4T.2) then none else ((b2e (j7.mk n.Id a4T.1 n.a5 n.Seq n.d8 n.a8 n.c9 n.i5 n.d6 n.a7 n.i9 n.i7 n.b7 n.d9) m.a8).bind fun J9=>((a4w m (l9.mk 4 0 0 m.a8 m.g8 (m6.mk false (o7.mk 0 0) (n6.mk [] [] 0 0)) [])).bind fun a5j=>some (J9,a5j)))))))
theorem e3D{n m}:OK c7w [.agg (H3 n),.agg (s6 m)] (b7i n m):=
 o8 _ fun r h=>n7<|cbA a7j.t c70 8 true h (fun no h=>osc a7j no (by simp [a7j,K6,S8,P3,V.simple,vi,v5,Z1,eB,t6,eI,w8,w6,J0,Q9,p9]) (Q1 4)<|s9 n.Acc.a7<|rg<|j6 1 h (fun h=>rg<|l8 a38 a8t 6 h fun a1Y h=>A5 n<|fE h) (fun h=>(nomatch h))) (fun h=>l8 a64 d0Z 8 h fun a4T h=>s9 n.Acc.a7<|rg<|j6 1 h (fun h=>(nomatch h)) (fun h=>n7<|l8 b26 c82 3 h fun J9 h=>s9 a4T.1.a7<|J5 n<|rg<|l8 a38 a8t 7 h fun a5j h=>A5 J9<|fE h))
def d4M:FS (List n8):=⟨217,Tryz.f217,[.val [some 2] [some 156]],[],[],fun r=>v5 156 2 z7 r,fun _=>[],Tryz.func217⟩
def c2I:Option (List n8):=
 (t5 (0<=(4:Int)/\(4:Int)*16<=140737488355328) (some (f6a (4:Int).toNat (n8.mk 0 0))))
theorem e6s:OK d4M [] c2I:=
 o8 _ fun r h=>n7<|u0 h fun e1 h=>T3 0 2 156 2 16 z7 (n8.mk 0 0) b3S (.none) e1 (by decide) (by rfl)<|s9 (f6a (4:Int).toNat (n8.mk 0 0))<|fE h
def c43:FS (u7):=⟨214,Tryz.f214,[.val [none,some 2,some 4] [none,some 156,none]],[],[],fun r=>.agg (b2s r),fun _=>[],Tryz.func214⟩
def b12:Option u7:=
 ((c2I).bind fun a26=>some (u7.mk 0 a26 []))
theorem c84:OK c43 [] b12:=
 o8 _ fun r h=>n7<|l8 d4M e6s 0 h fun a26 h=>s9 a26<|fE h
def a6a:FS (s7×Bool):=⟨218,Tryz.f218,[.val [] [],.val [] []],[none,none],[.val [none,some 2,some 4] [],.val [] []],fun r=>.tup [.agg (B7 r.1),.b r.2],fun _=>[none,none],Tryz.func218⟩
def d10:Unit->KS:=fun _=>⟨a6a.k 3 [false],(bs 4 (.ptr 1 0 0::(bs 24 []))),[some [],some [.var 194 [vi 0,vi 0,vi 0,vi 0]]]⟩
def d6W:Option (s7×Bool):=
 some ((s7.mk (o7.mk 0 0) 0 0),false)
theorem f3P(r):NF a6a r d10 (fun s=>d6W):=fun _ h=>PK<|rg<|fE h
def d9q(s_:u7)(who:Int):Int->KS:=fun i=>⟨a6a.k 2 [],(bs 1 (vi who::(.ptr 1 0 0::(bs 1 (.ptr 2 0 0::(bs 1 (vi i::(bs 22 [])))))))),[some [],some [.var 123 [vi s_.At,j8 2 z7 s_.g9,j8 4 B7 s_.j4]],some [.var 194 [vi 0,vi 0,vi 0,vi 0]]]⟩
def b87(s_:u7)(who:Int)(i:Int):Option (l7 (s7×Bool) Int Unit):=
 (bif decide (i<(s_.j4.length:Int)) then ((idx s_.j4 i).bind fun done=>(bif (done.a0.c8==who) then some (l7.ret (done,true)) else some (l7.nxt (m8 (i+1))))) else some (l7.brk ()))
theorem e5n(s_ who):LQ a6a d10 (d9q s_ who) (fun s=>b87 s_ who s):=fun lc i h=>PK<|rg<|j6 4 h (fun h=>rg<|u9 B7 3 h fun done b5R h=>j6 8 h (fun h=>rg<|I8 B7 3 b5R<|fL lc h) (fun h=>rg<|(lc.nx h fun hI=>sk [] [1,2,4,6] [(1,0),(2,0)] hI))) (fun h=>(lc.bk h fun hI=>sk [] [4] [(2,0)] hI))
def b6G(s_:u7)(who:Int):Option (s7×Bool):=
 ((o9 (fun s:Int=>b87 s_ who s) 0).bind fun x=>x.go (fun r=>some r) fun s=>d6W)
theorem e5E{s_ who}:OK a6a [.agg (a86 s_),vi who] (b6G s_ who):=
 o8 _ fun r h=>n7<|lp (e5n s_ who) h (fun _ h=>a6a.rt h) (f3P r) fun hI=>sk [] [1,2,4,6] [(1,0),(2,0)] hI
def a6N:FS (Bool):=⟨206,Tryz.f206,[.val [] []],[none],[.val [some 2] []],fun r=>.b r,fun _=>[none],Tryz.func206⟩
def c8n:Unit->KS:=fun _=>⟨a6N.k 4 [false,false],(bs 36 []),[some []]⟩
def d27:Option Bool:=
 some true
theorem f1v(r):NF a6N r c8n (fun s=>d27):=fun _ h=>PK<|rg<|fE h
def e0A(list:List n8):Int->KS:=fun i=>⟨a6N.k 3 [false],(j8 2 z7 list::(bs 2 (vi i::(bs 32 [])))),[some []]⟩
def b5U(list:List n8)(i:Int):Option (l7 Bool Int Unit):=
 (bif decide (i<(list.length:Int)) then ((idx list i).bind fun box=>(bif decide (box.j5<0) then some (l7.ret false) else (bif decide (box.j5>1000000) then some (l7.ret false) else ((a5P box.g7).bind fun a1a=>(bif (!a1a) then some (l7.ret false) else some (l7.nxt (m8 (i+1)))))))) else some (l7.brk ()))
theorem e7q(list):LQ a6N c8n (e0A list) (fun s=>b5U list s):=fun lc i h=>PK<|rg<|j6 3 h (fun h=>rg<|u9 z7 2 h fun box a2I h=>j6 6 h (fun h=>rg<|fL lc h) (fun h=>I8 z7 9 a2I<|j6 14 h (fun h=>rg<|fL lc h) (fun h=>I8 z7 17 a2I<|l8 a9a b1j 20 h fun a1a h=>j6 22 h (fun h=>rg<|fL lc h) (fun h=>rg<|(lc.nx h fun hI=>sk [] [0,3] [] hI))))) (fun h=>(lc.bk h fun hI=>sk [] [] [] hI))
def b4m(list:List n8):Option Bool:=
 (bif ((list.length:Int) != 4) then some false else ((o9 (fun s:Int=>b5U list s) 0).bind fun x=>x.go (fun r=>some r) fun s=>d27))
theorem d45{list}:OK a6N [j8 2 z7 list] (b4m list):=
 o8 _ fun r h=>n7<|j6 2 h (fun h=>rg<|fE h) (fun h=>rg<|lp (e7q list) h (fun _ h=>a6N.rt h) (f1v r) fun hI=>sk [] [0,3] [] hI)
def a4t:FS (Bool):=⟨219,Tryz.f219,[.val [] []],[none,none],[.val [some 2] [],.val O6 []],fun r=>.b r,fun _=>[none,none],Tryz.func219⟩
def d5V:Unit->KS:=fun _=>⟨a4t.k 4 [false,false],(bs 38 []),[some []]⟩
def c7Y:Option Bool:=
 some true
theorem f0X(r):NF a4t r d5V (fun s=>c7Y):=fun _ h=>PK<|rg<|fE h
def e8V(list:List n8)(r_:n6):Int->KS:=fun i=>⟨a4t.k 3 [false],(j8 2 z7 list::(bs 2 (.ptr 1 0 0::(bs 1 (vi i::(bs 32 [])))))),[some [],some [.var 48 (a0U r_)]]⟩
def b5N(list:List n8)(r_:n6)(i:Int):Option (l7 Bool Int Unit):=
 (bif decide (i<(r_.b5.length:Int)) then ((idx r_.b5 i).bind fun read=>((idx list read.i6).bind fun box=>(bif (box.j5 != read.j5) then some (l7.ret false) else some (l7.nxt (m8 (i+1)))))) else some (l7.brk ()))
theorem e47(list r_):LQ a4t d5V (e8V list r_) (fun s=>b5N list r_ s):=fun lc i h=>PK<|rg<|j6 4 h (fun h=>rg<|u9 w6 4 h fun read a4d h=>u9 z7 7 h fun box a2I h=>I8 w6 13 a4d<|j6 16 h (fun h=>rg<|fL lc h) (fun h=>rg<|(lc.nx h fun hI=>sk [] [0,3,5] [(1,0)] hI))) (fun h=>(lc.bk h fun hI=>sk [] [] [] hI))
def b6N(list:List n8)(r_:n6):Option Bool:=
 ((b4m list).bind fun W1=>(bif (!W1) then some false else ((b2i r_).bind fun a1v=>(bif (!a1v) then some false else ((o9 (fun s:Int=>b5N list r_ s) 0).bind fun x=>x.go (fun r=>some r) fun s=>c7Y)))))
theorem e0M{list r_}:OK a4t [j8 2 z7 list,.agg (Q9 r_)] (b6N list r_):=
 o8 _ fun r h=>n7<|l8 a6N d45 1 h fun W1 h=>j6 3 h (fun h=>rg<|fE h) (fun h=>l8 a0X d1h 5 h fun a1v h=>j6 7 h (fun h=>rg<|fE h) (fun h=>rg<|lp (e47 list r_) h (fun _ h=>a4t.rt h) (f0X r) fun hI=>sk [] [0,3,5] [(1,0)] hI))
def d4K:FS (Int):=⟨222,Tryz.f222,[.val [] []],[none,none],[.val [] [],.val [] []],fun r=>vi r,fun _=>[none,none],Tryz.func222⟩
def c2W(a:Int)(b:Int):Option Int:=
 (bif decide (a<b) then some a else some b)
theorem e0c{a b}:OK d4K [vi a,vi b] (c2W a b):=
 o8 _ fun r h=>n7<|j6 2 h (fun h=>rg<|fE h) (fun h=>rg<|fE h)
def a82:FS (List n8):=⟨220,Tryz.f220,[.val [some 2] [some 156]],[none,none],[.val [some 2] [some 156],.val O6 []],fun r=>v5 156 2 z7 r,fun _=>[none,none],Tryz.func220⟩
def c6L:(List n8)->KS:=fun a96=>⟨a82.k 3 [false],(.own 0 0 2 0 a96.length::(bs 37 [])),[some [m7 156 2 z7 a96]]⟩
def d6o(a96:List n8):Option (List n8):=
 some a96
theorem e6u(r):NF a82 r c6L (fun s=>d6o s):=fun a96 h=>PK<|rg<|s9 a96<|fE h
def d8A(r_:n6):((List n8)×Int)->KS:=fun (list1,i)=>⟨a82.k 2 [],(.own 0 0 2 0 list1.length::(bs 2 (.ptr 1 0 0::(bs 1 (vi i::(bs 32 [])))))),[some [m7 156 2 z7 list1],some [.var 48 (a0U r_)]]⟩
def b9x(r_:n6)(list1:List n8)(i:Int):Option (l7 (List n8) ((List n8)×Int) (List n8)):=
 (bif decide (i<(r_.b6.length:Int)) then ((idx r_.b6 i).bind fun put=>((idx list1 put.i6).bind fun box=>((c2W 1000000 (m8 (box.j5+1))).bind fun b20=>some (l7.nxt (list1.set put.i6.toNat (n8.mk b20 put.g7),m8 (i+1)))))) else some (l7.brk list1))
theorem e9j(r_):LQ a82 c6L (d8A r_) (fun s=>b9x r_ s.1 s.2):=fun lc (list1,i) h=>PK<|rg<|j6 4 h (fun h=>rg<|u9 w8 3 h fun put hput h=>rg<|A7 h fun box a2I h=>B5 a2I<|H9 z7 6 a2I<|l8 d4K e0c 8 h fun b20 h=>I8 w8 12 hput<|B5 a2I<|Q6 156 2 z7 17 [] (n8.mk b20 put.g7) a2I<|rg<|(lc.nx h fun hI=>om ((.own 0 0 2 0 list1.length:V)=.own 0 0 2 0 (list1.set put.i6.toNat (n8.mk b20 put.g7)).length) (by simp)<|sk [.is (.tmp 0) (.own 0 0 2 0 (list1.set put.i6.toNat (n8.mk b20 put.g7)).length)] [0,3,5] [(1,0)] hI)) (fun h=>(lc.bk h fun hI=>sk [] [0] [] hI))
def b7g(list:List n8)(r_:n6):Option (List n8):=
 ((o9 (fun s:(List n8)×Int=>b9x r_ s.1 s.2) (list,0)).bind fun x=>x.go (fun r=>some r) fun s=>d6o s)
theorem e6b{list r_}:OK a82 [v5 156 2 z7 list,.agg (Q9 r_)] (b7g list r_):=
 o8 _ fun r h=>n7<|lp (e9j r_) h (fun _ h=>a82.rt h) (e6u r) fun hI=>sk [] [0,3,5] [(1,0)] hI
def a1B:FS (List s7):=⟨221,Tryz.f221,[.val [some 4] []],[none,none],[.val [some 4] [],.val [] []],fun r=>j8 4 B7 r,fun _=>[none,none],Tryz.func221⟩
def b9h(d:s7):((List s7)×Bool)->KS:=fun (out1,in_1)=>⟨a1B.k 5 [false],(bs 3 (.ptr 1 0 0::(bs 1 (.own 2 0 4 0 out1.length::(.b in_1::(bs 50 [])))))),[some [],some [.var 194 [vi d.a0.c8,vi d.a0.Seq,vi d.Code,vi d.g7]],some [m7 194 4 B7 out1]]⟩
def e62:(List s7)->KS:=fun out2=>⟨a1B.k 7 [false,true],(bs 5 (.own 1 0 4 0 out2.length::(bs 51 []))),[some [],some [m7 194 4 B7 out2]]⟩
def c4W(out2:List s7):Option (List s7):=
 some out2
theorem e8z(r):NF a1B r e62 (fun s=>c4W s):=fun out2 h=>PK<|rg<|s9 out2<|fE h
def c5m(d:s7)(out1:List s7)(in_1:Bool):Option (List s7):=
 (((bif (!in_1) then (t5 ((out1.length+1)*32<=140737488355328) (some (m5.brk (out1++[d])))) else some (m5.brk out1)):Option (m5 (List s7) (List s7))).bind fun x=>x.go some fun j=>c4W j)
theorem e0Q(d)(r):NF a1B r (b9h d) (fun s=>c5m d s.1 s.2):=fun (out1,in_1) h=>PK<|A9 h (e8z r) fun x1 h hc1=>rg<|j6 1 h (fun h=>rg<|tk 2 []<|u0 h fun e1 h=>F9 3 8 194 4 32 B7 out1 d e1<|E8 d<|(p8 h hc1 fun hI=>sk [] [5] [(8,0)] hI)) (fun h=>(p8 h hc1 fun hI=>sk [] [5] [(2,0)] hI))
def c0U(list:List s7)(d:s7):((List s7)×Bool×Int)->KS:=fun (out,in_,i)=>⟨a1B.k 4 [],(j8 4 B7 list::(bs 2 (.ptr 1 0 0::(bs 1 (.own 2 0 4 0 out.length::(.b in_::(vi i::(bs 49 [])))))))),[some [],some [.var 194 [vi d.a0.c8,vi d.a0.Seq,vi d.Code,vi d.g7]],some [m7 194 4 B7 out]]⟩
def f5x(list:List s7)(d:s7)(i:Int):((List s7)×Bool)->KS:=fun (out3,in_2)=>⟨a1B.k 8 [true,true],(j8 4 B7 list::(bs 2 (.ptr 1 0 0::(bs 1 (.own 2 0 4 0 out3.length::(.b in_2::(vi i::(bs 49 [])))))))),[some [],some [.var 194 [vi d.a0.c8,vi d.a0.Seq,vi d.Code,vi d.g7]],some [m7 194 4 B7 out3]]⟩
def e0T(list:List s7)(d:s7)(i:Int)(in_2:Bool):(List s7)->KS:=fun out4=>⟨a1B.k 10 [true,true,true],(j8 4 B7 list::(bs 2 (.ptr 1 0 0::(bs 1 (.own 2 0 4 0 out4.length::(.b in_2::(vi i::(bs 49 [])))))))),[some [],some [.var 194 [vi d.a0.c8,vi d.a0.Seq,vi d.Code,vi d.g7]],some [m7 194 4 B7 out4]]⟩
def c3d(i:Int)(in_2:Bool)(out4:List s7):Option (l7 (List s7) ((List s7)×Bool×Int) ((List s7)×Bool)):=
 some (l7.nxt (out4,in_2,m8 (i+1)))
theorem e33(list d i in_2)(lc:F8 a1B (b9h d) (c0U list d)):NL lc (e0T list d i in_2) (fun s=>c3d i in_2 s):=fun out4 h=>PK<|rg<|(lc.nx h fun hI=>sk [] [0,3,5,6,7] [(1,0),(2,0)] hI)
def c4S(list:List s7)(d:s7)(i:Int)(out3:List s7)(in_2:Bool):Option (l7 (List s7) ((List s7)×Bool×Int) ((List s7)×Bool)):=
 ((((idx list i).bind fun done=>(bif (done.a0.c8 != d.a0.c8) then (t5 ((out3.length+1)*32<=140737488355328) (some (m5.brk (out3++[done])))) else some (m5.brk out3))):Option (m5 (l7 (List s7) ((List s7)×Bool×Int) ((List s7)×Bool)) (List s7))).bind fun x=>x.go some fun j=>c3d i in_2 j)
theorem e5Y(list d i)(lc:F8 a1B (b9h d) (c0U list d)):NL lc (f5x list d i) (fun s=>c4S list d i s.1 s.2):=fun (out3,in_2) h=>PK<|A9 h (e33 list d i in_2 lc) fun x2 h hc2=>rg<|u9 B7 2 h fun done b5R h=>j6 9 h (fun h=>rg<|I8 B7 3 b5R<|tk 5 []<|u0 h fun e2 h=>F9 6 19 194 4 32 B7 out3 done e2<|E8 done<|(p8 h hc2 fun hI=>sk [] [0,3,5,6,7] [(1,0),(19,0)] hI)) (fun h=>(p8 h hc2 fun hI=>sk [] [0,3,5,6,7] [(1,0),(2,0)] hI))
def b3w(list:List s7)(d:s7)(out:List s7)(in_:Bool)(i:Int):Option (l7 (List s7) ((List s7)×Bool×Int) ((List s7)×Bool)):=
 (bif decide (i<(list.length:Int)) then (((bif (!in_) then ((idx list i).bind fun a5g=>(bif decide (a5g.a0.c8>=d.a0.c8) then (t5 ((out.length+1)*32<=140737488355328) (some (m5.brk (out++[d],true)))) else some (m5.brk (out,in_)))) else some (m5.brk (out,in_))):Option (m5 (l7 (List s7) ((List s7)×Bool×Int) ((List s7)×Bool)) ((List s7)×Bool))).bind fun x=>x.go some fun j=>c4S list d i j.1 j.2) else some (l7.brk (out,in_)))
theorem f0L(list d):LQ a1B (b9h d) (c0U list d) (fun s=>b3w list d s.1 s.2.1 s.2.2):=fun lc (out,in_,i) h=>PK<|rg<|j6 3 h (fun h=>A9 h (e5Y list d i lc) fun x2 h hc2=>rg<|j6 2 h (fun h=>u9 B7 5 h fun a5g e6I h=>j6 13 h (fun h=>rg<|tk 2 []<|u0 h fun e3 h=>F9 3 24 194 4 32 B7 out d e3<|E8 d<|rg<|(p8 h hc2 fun hI=>sk [] [0,3,5,6,7] [(1,0),(24,0)] hI)) (fun h=>(p8 h hc2 fun hI=>sk [] [0,3,5,6,7] [(1,0),(2,0)] hI))) (fun h=>(p8 h hc2 fun hI=>sk [] [0,3,5,6,7] [(1,0),(2,0)] hI))) (fun h=>(lc.bk h fun hI=>sk [] [3,5,6] [(1,0),(2,0)] hI))
def b9H(list:List s7)(d:s7):Option (List s7):=
 ((o9 (fun s:(List s7)×Bool×Int=>b3w list d s.1 s.2.1 s.2.2) (([]:List s7),false,0)).bind fun x=>x.go (fun r=>some r) fun s=>c5m d s.1 s.2)
theorem e9g{list d}:OK a1B [j8 4 B7 list,.agg (B7 d)] (b9H list d):=
 o8 _ fun r h=>n7<|tk 0 []<|n7<|lp (f0L list d) h (fun _ h=>a1B.rt h) (e0Q d r) fun hI=>om ((.own 3 0 4 0 0:V)=.own 3 0 4 0 ([]:List s7).length) (by simp)<|sk [.is (.tmp 5) (.own 3 0 4 0 ([]:List s7).length)] [0,3,5,6,7] [(1,0),(3,0)] hI
def a4J:FS (u7×Int):=⟨215,Tryz.f215,[.val [none,some 2,some 4] [none,some 156,none],.val [] []],[none,none],[.val [none,some 2,some 4] [none,some 156,none],.val K4 []],fun r=>.tup [.agg (b2s r.1),vi r.2],fun _=>[none,none],Tryz.func215⟩
def d9T(s_:u7)(e_:m6):Unit->KS:=fun _=>⟨a4J.k 6 [false,false,false],(bs 2 (.ptr 1 0 0::(.ptr 2 0 0::(.ptr 3 0 0::(bs 78 []))))),[some [m7 156 2 z7 s_.g9],some [.var 123 [vi (m8 (s_.At+1)),.own 0 0 2 0 s_.g9.length,j8 4 B7 s_.j4]],some [.var 50 (a3h e_)],some [.var 123 [vi 0,.nil,.nil]]]⟩
def d8L(s_:u7)(e_:m6):Int->KS:=fun b0S=>⟨a4J.k 9 [false,false,false,true],(bs 2 (.ptr 1 0 0::(.ptr 2 0 0::(.ptr 3 0 0::(bs 3 (.ptr 4 0 0::(bs 74 []))))))),[some [m7 156 2 z7 s_.g9],some [.var 123 [vi (m8 (s_.At+1)),.own 0 0 2 0 s_.g9.length,j8 4 B7 s_.j4]],some [.var 50 (a3h e_)],some [.var 123 [vi 0,.nil,.nil]],some [.var 194 [vi e_.a0.c8,vi e_.a0.Seq,vi b0S,vi 0]]]⟩
def f1c(s_:u7):(s7×List n8)->KS:=fun (d,g9)=>⟨a4J.k 13 [false,false,false,true,true],(bs 2 (.ptr 1 0 0::(bs 1 (.ptr 3 0 0::(bs 3 (.ptr 4 0 0::(bs 74 []))))))),[some [.dead],some [.var 123 [vi (m8 (s_.At+1)),.own 2 0 2 0 g9.length,j8 4 B7 s_.j4]],some [m7 156 2 z7 g9],some [.var 123 [vi 0,.nil,.nil]],some [.var 194 [vi d.a0.c8,vi d.a0.Seq,vi d.Code,vi d.g7]]]⟩
def c4P(s_:u7)(d:s7)(g9:List n8):Option (u7×Int):=
 ((b9H s_.j4 d).bind fun d4B=>some ((u7.mk (m8 (s_.At+1)) g9 d4B),d.Code))
theorem e5v(s_)(r):NF a4J r (f1c s_) (fun s=>c4P s_ s.1 s.2):=fun (d,g9) h=>PK<|rg<|l8 a1B e9g 3 h fun d4B h=>rg<|s9 g9<|fE h
def c0I(s_:u7)(e_:m6)(b0S:Int):Option (u7×Int):=
 (((bif (b0S==2) then (bif (e_.b8.Code==0) then ((b7g s_.g9 e_.b8).bind fun d29=>some (m5.brk ((s7.mk e_.a0 0 e_.b8.g7),d29))) else some (m5.brk ((s7.mk e_.a0 b0S 0),s_.g9))) else some (m5.brk ((s7.mk e_.a0 b0S 0),s_.g9))):Option (m5 (u7×Int) (s7×List n8))).bind fun x=>x.go some fun j=>c4P s_ j.1 j.2)
theorem f1P(s_ e_)(r):NF a4J r (d8L s_ e_) (fun s=>c0I s_ e_ s):=fun b0S h=>PK<|A9 h (e5v s_ r) fun x1 h hc1=>rg<|j6 3 h (fun h=>j6 8 h (fun h=>N7<|l8 a82 e6b 4 h fun d29 h=>s9 s_.g9<|(p8 h hc1 fun hI=>sk [] [2,4,8] [(1,0),(25,0),(3,0),(4,0)] hI)) (fun h=>(p8 h hc1 fun hI=>sk [] [2,4,8] [(1,0),(0,0),(3,0),(4,0)] hI))) (fun h=>(p8 h hc1 fun hI=>sk [] [2,4,8] [(1,0),(0,0),(3,0),(4,0)] hI))
def b4X(s_:u7)(e_:m6):Option (u7×Int):=
 ((((b6N s_.g9 e_.b8).bind fun a6o=>(bif a6o then some (m5.brk 2) else some (m5.brk 1))):Option (m5 (u7×Int) Int)).bind fun x=>x.go some fun j=>c0I s_ e_ j)
theorem e29(s_ e_)(r):NF a4J r (d9T s_ e_) (fun s=>b4X s_ e_):=fun _ h=>PK<|rg<|A9 h (f1P s_ e_ r) fun x1 h hc1=>rg<|cbE a4t.t e0M h fun a6o d0W h=>cdT (a4t.t 4 true a6o) h (fun _ h=>ob d0W<|osc a4t a6o rfl (Q1 2)<|s9 s_.g9<|rg<|(p8 h hc1 fun hI=>sk [] [2,3,4,8] [(1,0),(2,0),(3,0),(7,0)] hI)) (fun _ h=>ob d0W<|osc a4t a6o rfl (Q1 2)<|s9 s_.g9<|(p8 h hc1 fun hI=>sk [] [2,3,4,8] [(1,0),(2,0),(3,0),(7,0)] hI))
def b29(s_:u7)(e_:m6):Option (u7×Int):=
 (bif e_.i8 then some ((u7.mk (m8 (s_.At+1)) s_.g9 s_.j4),5) else ((b6G (u7.mk (m8 (s_.At+1)) s_.g9 s_.j4) e_.a0.c8).bind fun a6e=>(((bif a6e.2 then (bif (([a6e.1.a0.c8,a6e.1.a0.Seq]:List Int)==[e_.a0.c8,e_.a0.Seq]) then some (m5.ret ((u7.mk (m8 (s_.At+1)) s_.g9 s_.j4),3)) else (bif a6e.2 then (bif decide (a6e.1.a0.Seq>e_.a0.Seq) then some (m5.ret ((u7.mk (m8 (s_.At+1)) s_.g9 s_.j4),4)) else some (m5.brk ())) else some (m5.brk ()))) else (bif a6e.2 then (bif decide (a6e.1.a0.Seq>e_.a0.Seq) then some (m5.ret ((u7.mk (m8 (s_.At+1)) s_.g9 s_.j4),4)) else some (m5.brk ())) else some (m5.brk ()))):Option (m5 (u7×Int) Unit)).bind fun x=>x.go some fun j=>b4X s_ e_)))
theorem c6p{s_ e_}:OK a4J [.agg (b2s s_),.agg (t6 e_)] (b29 s_ e_):=
 o8 _ fun r h=>N7<|j6 1 h (fun h=>rg<|s9 s_.g9<|fE h) (fun h=>rg<|cbS a6a e5E 4 (fun _=>(by simp [a6a,K6,S8,P3,V.simple,vi,v5,eB,B7,eI,J0])) (fun _=>(Q1 2)) h fun a6e h=>s9 s_.g9<|A9 h (e29 s_ e_ r) fun x1 h hc1=>rg<|j6 1 h (fun h=>j6 8 h (fun h=>rg<|(B8 h hc1 fun h=>s9 s_.g9<|fE h)) (fun h=>rg<|j6 1 h (fun h=>j6 10 h (fun h=>rg<|(B8 h hc1 fun h=>s9 s_.g9<|fE h)) (fun h=>(p8 h hc1 fun hI=>sk [] [2,3,4] [(1,0),(2,0),(3,0)] hI))) (fun h=>(p8 h hc1 fun hI=>sk [] [2,3,4] [(1,0),(2,0),(3,0)] hI)))) (fun h=>rg<|j6 1 h (fun h=>j6 10 h (fun h=>rg<|(B8 h hc1 fun h=>s9 s_.g9<|fE h)) (fun h=>(p8 h hc1 fun hI=>sk [] [2,3,4] [(1,0),(2,0),(3,0)] hI))) (fun h=>(p8 h hc1 fun hI=>sk [] [2,3,4] [(1,0),(2,0),(3,0)] hI))))
def d5Y:FS (j7):=⟨216,Tryz.f216,[.val A8 G7],[none],[.val A8 G7],fun r=>.agg (H3 r),fun _=>[none],Tryz.func216⟩
def c59(n:j7):Option j7:=
 some (j7.mk n.Id n.Acc n.a5 n.Seq n.d8 n.a8 n.c9 n.i5 n.d6 n.a7 false [] (m6.mk false (o7.mk 0 0) (n6.mk [] [] 0 0)) n.d9)
theorem e1i{n}:OK d5Y [.agg (H3 n)] (c59 n):=
 o8 _ fun r h=>rg4<|rg<|A5 n<|fE h
def a4C:FS (j7×List n5):=⟨211,Tryz.f211,[.val A8 G7,.val [some 5] []],[none],[.val A8 G7],fun r=>.tup [.agg (H3 r.1),j8 5 x8 r.2],fun _=>[none],Tryz.func211⟩
def c06(n:j7):Unit->KS:=fun _=>⟨a4C.k 5 [false,false],(bs 1 (.ptr 1 0 0::(.ptr 2 0 0::(bs 81 [])))),[some (a7n n),some [.var 52 (a7D n)],some [.var 52 [vi 0,vi 0,.nil,.nil,vi 0,vi 0,vi 0,.nil,.nil,.b false,vi 0,vi 0,.nil,.nil,vi 0,vi 0,.nil,.b false,.nil,.b false,vi 0,vi 0,.nil,.nil,vi 0,vi 0,.nil]]]⟩
def d3t(n:j7):Option (j7×List n5):=
 some (n,([]:List n5))
theorem e7k(n)(r):NF a4C r (c06 n) (fun s=>d3t n):=fun _ h=>PK<|rg<|tk 1 []<|A5 n<|C1 n5<|fE h
def c6E(n:j7):((List n8)×Int×Int×List s7)->KS:=fun (g9,i,sAt,sDones)=>⟨a4C.k 4 [false],(bs 1 (.ptr 1 0 0::(.ptr 2 0 0::(bs 1 (.ptr 3 0 0::(vi i::(bs 78 []))))))),[some (a7n n),some [.var 52 (a7D n)],some [.var 52 [vi 0,vi 0,.nil,.nil,vi 0,vi 0,vi 0,.nil,.nil,.b false,vi 0,vi 0,.nil,.nil,vi 0,vi 0,.nil,.b false,.nil,.b false,vi 0,vi 0,.nil,.nil,vi 0,vi 0,.nil]],some [.var 123 [vi sAt,.own 4 0 2 0 g9.length,j8 4 B7 sDones]],some [m7 156 2 z7 g9]]⟩
def e6R(n:j7):(List n5)->KS:=fun out=>⟨a4C.k 11 [false,true,false,true],(bs 1 (.ptr 1 0 0::(.ptr 2 0 0::(bs 5 (.own 3 0 5 0 out.length::(bs 75 [])))))),[some (a7n n),some [.var 52 (a7D n)],some [.var 52 [vi 0,vi 0,.nil,.nil,vi 0,vi 0,vi 0,.nil,.nil,.b false,vi 0,vi 0,.nil,.nil,vi 0,vi 0,.nil,.b false,.nil,.b false,vi 0,vi 0,.nil,.nil,vi 0,vi 0,.nil]],some [m7 62 5 x8 out]]⟩
def c2N(n:j7)(out:List n5):Option (l7 (j7×List n5) ((List n8)×Int×Int×List s7) Unit):=
 ((c59 n).bind fun c3s=>some (l7.ret (c3s,out)))
theorem e5W(n)(lc:F8 a4C (c06 n) (c6E n)):NL lc (e6R n) (fun s=>c2N n s):=fun out h=>PK<|rg<|l8 d5Y e1i 1 h fun c3s h=>A5 n<|A5 c3s<|s9 out<|fL lc h
def b0G(n:j7)(g9:List n8)(i:Int)(sAt:Int)(sDones:List s7):Option (l7 (j7×List n5) ((List n8)×Int×Int×List s7) Unit):=
 (bif decide (i<(n.a5.length:Int)) then ((idx n.a5 i).bind fun entry=>((b29 (u7.mk sAt g9 sDones) entry).bind fun V9=>(bif entry.i8 then some (l7.nxt (V9.1.g9,m8 (i+1),V9.1.At,V9.1.j4)) else (bif (!(([entry.a0.c8,entry.a0.Seq]:List Int)==[n.b7.a0.c8,n.b7.a0.Seq])) then some (l7.nxt (V9.1.g9,m8 (i+1),V9.1.At,V9.1.j4)) else (((bif (V9.2==0) then ((idx [(n5.mk n.Id n.b7.a0 V9.2 0)] 0).bind fun told=>some (m5.brk ([(n5.mk n.Id n.b7.a0 V9.2 0)].set (0:Int).toNat (n5.mk told.Node told.a0 told.Code entry.b8.g7)))) else some (m5.brk [(n5.mk n.Id n.b7.a0 V9.2 0)])):Option (m5 (l7 (j7×List n5) ((List n8)×Int×Int×List s7) Unit) (List n5))).bind fun x=>x.go some fun j=>c2N n j))))) else some (l7.brk ()))
theorem e9T(n):LQ a4C (c06 n) (c6E n) (fun s=>b0G n s.1 s.2.1 s.2.2.1 s.2.2.2):=fun lc (g9,i,sAt,sDones) h=>PK<|rg<|j6 4 h (fun h=>rg<|A7 h fun entry G9 h=>B5 G9<|H9 t6 5 G9<|l8 a4J c6p 6 h fun V9 h=>s9 g9<|n7<|B5 G9<|H9 t6 5 G9<|j6 6 h (fun h=>rg<|(lc.nx h fun hI=>sk [] [1,2,4,5] [(1,0),(2,0),(3,0),(16,0)] hI)) (fun h=>B5 G9<|H9 t6 12 G9<|j6 17 h (fun h=>rg<|(lc.nx h fun hI=>sk [] [1,2,4,5] [(1,0),(2,0),(3,0),(16,0)] hI)) (fun h=>rg<|tk 7 []<|A9 h (e5W n lc) fun x2 h hc2=>rg<|j6 1 h (fun h=>rg<|B5 G9<|H9 t6 7 G9<|A7 h fun told a4G h=>ob (O9 a4G)<|om (0<((1:Nat):Int)) (by simpa using b1Z a4G)<|Q6 62 5 x8 10 [] (n5.mk told.Node told.a0 told.Code entry.b8.g7) a4G<|(p8 h hc2 fun hI=>om ((.own 50 0 5 0 1:V)=.own 50 0 5 0 ([(n5.mk n.Id n.b7.a0 V9.2 0)].set (0:Int).toNat (n5.mk told.Node told.a0 told.Code entry.b8.g7)).length) (by simp)<|sk [.is (.tmp 8) (.own 50 0 5 0 ([(n5.mk n.Id n.b7.a0 V9.2 0)].set (0:Int).toNat (n5.mk told.Node told.a0 told.Code entry.b8.g7)).length)] [1,2,8] [(1,0),(2,0),(50,0)] hI)) (fun h=>(p8 h hc2 fun hI=>om ((.own 50 0 5 0 1:V)=.own 50 0 5 0 ([(n5.mk n.Id n.b7.a0 V9.2 0)].length)) (by simp)<|sk [.is (.tmp 8) (.own 50 0 5 0 ([(n5.mk n.Id n.b7.a0 V9.2 0)].length))] [1,2,8] [(1,0),(2,0),(50,0)] hI))))) (fun h=>(lc.bk h fun hI=>sk [] [1,2] [(1,0),(2,0)] hI))
def b9v(n:j7):Option (j7×List n5):=
 (bif (!n.i9) then some (n,([]:List n5)) else ((a7W n n.b7.a0).bind fun a6H=>(bif (!a6H) then some (n,([]:List n5)) else ((b12).bind fun a1p=>((o9 (fun s:(List n8)×Int×Int×List s7=>b0G n s.1 s.2.1 s.2.2.1 s.2.2.2) (a1p.g9,0,a1p.At,a1p.j4)).bind fun x=>x.go (fun r=>some r) fun s=>d3t n)))))
theorem e1R{n}:OK a4C [.agg (H3 n)] (b9v n):=
 o8 _ fun r h=>n7<|j6 3 h (fun h=>rg<|tk 1 []<|A5 n<|C1 n5<|fE h) (fun h=>R8 a2u b6Z 8 2 h fun a6H h=>A5 n<|j6 10 h (fun h=>rg<|tk 1 []<|A5 n<|C1 n5<|fE h) (fun h=>rg<|l8 c43 c84 0 h fun a1p h=>rg<|lp (e9T n) h (fun _ h=>a4C.rt h) (e7k n r) fun hI=>sk [] [1,2,4,5] [(1,0),(2,0),(16,0),(15,0)] hI))
def b3l:FS (j7×(List l9)×List n5):=⟨204,Tryz.f204,[.val A8 G7,.val [some 13] [],.val [some 5] []],[none,none],[.val A8 G7,.val K4 []],fun r=>.tup [.agg (H3 r.1),j8 13 s6 r.2.1,j8 5 x8 r.2.2],fun _=>[none,none],Tryz.func204⟩
def f3H(n:j7)(l5Entry:m6):((List Bool)×Int×Int×(List r9)×(List p7)×Int×Int×Int×Bool)->KS:=fun (a7,nCur,nCur1,nCur2,nCur3,nCur4,nCur5,nPhase,nCur6)=>⟨b3l.k 6 [true],(bs 2 (.ptr 1 0 0::(bs 1 (.ptr 3 0 0::(bs 33 []))))),[some [m7 108 8 p9 n.Acc.a7,.dead,m7 4 1 eB n.c9,.dead,m7 50 7 t6 n.d9],some [.var 52 ([vi n.Id,vi n.Acc.i4,.own 0 0 8 0 n.Acc.a7.length,.own 2 0 7 0 (n.a5++[l5Entry]).length,vi n.Seq,vi nPhase,vi n.a8,.own 0 2 1 0 n.c9.length,j8 8 p9 n.i5,.b nCur6,vi nCur,vi nCur1,j8 2 w6 nCur2,j8 2 w8 nCur3,vi nCur4,vi nCur5,.own 4 0 1 0 a7.length]++a3P n++[.own 0 4 7 0 n.d9.length])],some [m7 50 7 t6 (n.a5++[l5Entry])],some [.var 52 [vi 0,vi 0,.nil,.nil,vi 0,vi 0,vi 0,.nil,.nil,.b false,vi 0,vi 0,.nil,.nil,vi 0,vi 0,.nil,.b false,.nil,.b false,vi 0,vi 0,.nil,.nil,vi 0,vi 0,.nil]],some [m7 4 1 eB a7]]⟩
def b50(n:j7)(l5Entry:m6)(a7:List Bool)(nCur:Int)(nCur1:Int)(nCur2:List r9)(nCur3:List p7)(nCur4:Int)(nCur5:Int)(nPhase:Int)(nCur6:Bool):Option (j7×(List l9)×List n5):=
 ((b9v (j7.mk n.Id n.Acc (n.a5++[l5Entry]) n.Seq nPhase n.a8 n.c9 n.i5 (m6.mk nCur6 (o7.mk nCur nCur1) (n6.mk nCur2 nCur3 nCur4 nCur5)) a7 n.i9 n.i7 n.b7 n.d9)).bind fun c0a=>((a7c c0a.1).bind fun N8=>some (N8.1,N8.2,c0a.2)))
theorem f4d(n l5Entry)(r):NF b3l r (f3H n l5Entry) (fun s=>b50 n l5Entry s.1 s.2.1 s.2.2.1 s.2.2.2.1 s.2.2.2.2.1 s.2.2.2.2.2.1 s.2.2.2.2.2.2.1 s.2.2.2.2.2.2.2.1 s.2.2.2.2.2.2.2.2):=fun (a7,nCur,nCur1,nCur2,nCur3,nCur4,nCur5,nPhase,nCur6) h=>PK<|rg<|l8 a4C e1R 1 h fun c0a h=>H0 n.Acc.a7 (n.a5++[l5Entry]) n.c9 a7<|s9 n.d9<|rg<|l8 b1a b3g 1 h fun N8 h=>A5 c0a.1<|rg<|A5 N8.1<|fE h
def b2A(n:j7)(e_:m6):Option (j7×(List l9)×List n5):=
 ((X0 e_).bind fun l5Entry=>(t5 ((n.a5.length+1)*88<=140737488355328) ((((bif (n.d8==3) then some (m5.brk ([],0,0,[],[],0,0,2,false)) else some (m5.brk (n.a7,n.d6.a0.c8,n.d6.a0.Seq,n.d6.b8.b5,n.d6.b8.b6,n.d6.b8.g7,n.d6.b8.Code,n.d8,n.d6.i8))):Option (m5 (j7×(List l9)×List n5) ((List Bool)×Int×Int×(List r9)×(List p7)×Int×Int×Int×Bool))).bind fun x=>x.go some fun j=>b50 n l5Entry j.1 j.2.1 j.2.2.1 j.2.2.2.1 j.2.2.2.2.1 j.2.2.2.2.2.1 j.2.2.2.2.2.2.1 j.2.2.2.2.2.2.2.1 j.2.2.2.2.2.2.2.2))))
theorem d7c{n e_}:OK b3l [.agg (H3 n),.agg (t6 e_)] (b2A n e_):=
 o8 _ fun r h=>n7<|l8 a0C a0W 3 h fun l5Entry h=>tk 4 K4<|u0 h fun e1 h=>F9 5 11 50 7 88 t6 n.a5 l5Entry e1<|E8 l5Entry<|A9 h (f4d n l5Entry r) fun x1 h hc1=>rg<|j6 2 h (fun h=>N7<|(p8 h hc1 fun hI=>sk [.frz (.cell 1 0 12) (some 2),.frz (.cell 1 0 13) (some 2),.own (.cell 1 0 16) 4 1,.kill 0 3] [2,4] [(1,0),(11,0),(3,0),(24,0)] hI)) (fun h=>(p8 h hc1 fun hI=>sk [] [2,4] [(1,0),(11,0),(3,0),(0,3)] hI))
def d3u:FS (j7×(List l9)×List n5):=⟨175,Tryz.f175,[.val A8 G7,.val [some 13] [],.val [some 5] []],[none,none],[.val A8 G7,.val B9 []],fun r=>.tup [.agg (H3 r.1),j8 13 s6 r.2.1,j8 5 x8 r.2.2],fun _=>[none,none],Tryz.func175⟩
def b8a(n:j7)(m:l9):Option (j7×(List l9)×List n5):=
 (bif (n.d8 != 3) then some (n,([]:List l9),([]:List n5)) else (bif (m.a8 != n.a8) then some (n,([]:List l9),([]:List n5)) else (bif (m.g8 != (n.a5.length:Int)) then some (n,([]:List l9),([]:List n5)) else ((idx n.a7 m.c9).bind fun y=>((b4J (n.a7.set m.c9.toNat true)).bind fun b1M=>(bif (!b1M) then some ((j7.mk n.Id n.Acc n.a5 n.Seq n.d8 n.a8 n.c9 n.i5 n.d6 (n.a7.set m.c9.toNat true) n.i9 n.i7 n.b7 n.d9),([]:List l9),([]:List n5)) else ((X0 n.d6).bind fun l5Entry=>((a3s n.Id (l9.mk 5 0 0 0 (n.a5.length:Int) l5Entry [])).bind fun J4=>((b2A (j7.mk n.Id n.Acc n.a5 n.Seq n.d8 n.a8 n.c9 n.i5 n.d6 (n.a7.set m.c9.toNat true) n.i9 n.i7 n.b7 n.d9) l5Entry).bind fun a1l=>(t5 ((J4.length+a1l.2.1.length)*152<=140737488355328) (some (a1l.1,J4++a1l.2.1,a1l.2.2))))))))))))
theorem e5F{n m}:OK d3u [.agg (H3 n),.agg (s6 m)] (b8a n m):=
 o8 _ fun r h=>n7<|j6 3 h (fun h=>rg<|tk 1 B9<|tk 2 []<|A5 n<|C1 l9<|C1 n5<|fE h) (fun h=>j6 10 h (fun h=>rg<|tk 1 B9<|tk 2 []<|A5 n<|C1 l9<|C1 n5<|fE h) (fun h=>j6 17 h (fun h=>rg<|tk 1 B9<|tk 2 []<|A5 n<|C1 l9<|C1 n5<|fE h) (fun h=>rg<|A7 h fun y hy h=>B5 hy<|Q6 4 1 eB 5 [] true hy<|rg<|R8 a60 d0v 2 1 h fun b1M h=>om (n.a7.length=(n.a7.set m.c9.toNat true).length) (by simp)<|j6 3 h (fun h=>rg<|tk 1 B9<|tk 2 []<|X8 n.Acc.a7 n.a5 n.c9<|om (n.a7.length=(n.a7.set m.c9.toNat true).length) (by simp)<|s9 n.d9<|C1 l9<|C1 n5<|fE h) (fun h=>rg<|l8 a0C a0W 2 h fun l5Entry h=>rg<|l8 a0k a5N 7 h fun J4 h=>rg<|l8 b3l d7c 2 h fun a1l h=>X8 n.Acc.a7 n.a5 n.c9<|om (n.a7.length=(n.a7.set m.c9.toNat true).length) (by simp)<|s9 n.d9<|rg<|u0 h fun e1 h=>apL 3 62 66 13 152 s6 J4 a1l.2.1 e1<|A5 a1l.1<|s9 (J4++a1l.2.1)<|fE h))))
def d4d:FS (j7×(List l9)×List n5):=⟨176,Tryz.f176,[.val A8 G7,.val [some 13] [],.val [some 5] []],[none,none],[.val A8 G7,.val B9 []],fun r=>.tup [.agg (H3 r.1),j8 13 s6 r.2.1,j8 5 x8 r.2.2],fun _=>[none,none],Tryz.func176⟩
def b7J(n:j7)(m:l9):Option (j7×(List l9)×List n5):=
 (bif decide (m.g8<(n.a5.length:Int)) then some (n,([]:List l9),([]:List n5)) else (bif decide (m.g8>(n.a5.length:Int)) then ((a4w m (l9.mk 8 0 0 0 (n.a5.length:Int) (m6.mk false (o7.mk 0 0) (n6.mk [] [] 0 0)) [])).bind fun a1Y=>some (n,a1Y,([]:List n5))) else ((b2A n m.i0).bind fun a1l=>some (a1l.1,a1l.2.1,a1l.2.2))))
theorem e6W{n m}:OK d4d [.agg (H3 n),.agg (s6 m)] (b7J n m):=
 o8 _ fun r h=>n7<|j6 6 h (fun h=>rg<|tk 1 B9<|tk 2 []<|A5 n<|C1 l9<|C1 n5<|fE h) (fun h=>rg<|j6 6 h (fun h=>rg<|l8 a38 a8t 6 h fun a1Y h=>tk 7 []<|A5 n<|C1 n5<|fE h) (fun h=>rg<|l8 b3l d7c 3 h fun a1l h=>A5 n<|A5 a1l.1<|fE h))
def c8s:FS (j7×List l9):=⟨178,Tryz.f178,[.val A8 G7,.val [some 13] []],[none,none],[.val A8 G7,.val B9 []],fun r=>.tup [.agg (H3 r.1),j8 13 s6 r.2],fun _=>[none,none],Tryz.func178⟩
def b6t(n:j7)(m:l9):Option (j7×List l9):=
 (bif (n.d8==0) then some (n,([]:List l9)) else (bif decide ((n.d9.length:Int)>=4) then some (n,([]:List l9)) else ((a7W n m.i0.a0).bind fun a6H=>(bif a6H then some (n,([]:List l9)) else ((X0 m.i0).bind fun l5Entry=>(t5 ((n.d9.length+1)*88<=140737488355328) (((a7c (j7.mk n.Id n.Acc n.a5 n.Seq n.d8 n.a8 n.c9 n.i5 n.d6 n.a7 n.i9 n.i7 n.b7 (n.d9++[l5Entry]))).bind fun N8=>some (N8.1,N8.2)))))))))
theorem d7z{n m}:OK c8s [.agg (H3 n),.agg (s6 m)] (b6t n m):=
 o8 _ fun r h=>n7<|j6 3 h (fun h=>rg<|tk 1 B9<|A5 n<|C1 l9<|fE h) (fun h=>j6 9 h (fun h=>rg<|tk 1 B9<|A5 n<|C1 l9<|fE h) (fun h=>R8 a2u b6Z 14 2 h fun a6H h=>A5 n<|j6 15 h (fun h=>rg<|tk 1 B9<|A5 n<|C1 l9<|fE h) (fun h=>rg<|l8 a0C a0W 4 h fun l5Entry h=>tk 5 K4<|u0 h fun e1 h=>F9 6 27 50 7 88 t6 n.d9 l5Entry e1<|E8 l5Entry<|rg<|l8 b1a b3g 1 h fun N8 h=>s9 n.Acc.a7<|H0 n.a5 n.c9 n.a7 (n.d9++[l5Entry])<|A5 N8.1<|fE h)))
def a8Y:FS ((List l9)×j7):=⟨179,Tryz.f179,[.val [some 13] []],[some (0,.val A8 G7),none],[.val A8 G7,.val B9 []],fun r=>j8 13 s6 r.1,fun r=>[some (.agg (f3R r.2)),none],Tryz.func179⟩
def c8u(n:j7):(List l9)->KS:=fun out1=>⟨a8Y.k 4 [false],(bs 5 (.own 1 0 13 0 out1.length::(bs 24 []))),[some [m7 108 8 p9 n.Acc.a7,m7 50 7 t6 n.a5,m7 4 1 eB n.c9,m7 4 1 eB n.a7,m7 50 7 t6 n.d9],some [m7 66 13 s6 out1]]⟩
def c9q(n:j7)(out1:List l9):Option ((List l9)×j7):=
 some (out1,n)
theorem f0H(n)(r):NF a8Y r (c8u n) (fun s=>c9q n s):=fun out1 h=>PK<|rg<|s9 out1<|A5 n<|fE h
def e23(n:j7)(m:l9):((List l9)×Int)->KS:=fun (out,s_)=>⟨a8Y.k 3 [],(bs 2 (.ptr 1 0 0::(.ptr 2 0 0::(bs 1 (.own 3 0 13 0 out.length::(vi s_::(bs 23 []))))))),[some (a7n n),some [.var 52 (a7D n)],some [.var 66 (a5h m)],some [m7 66 13 s6 out]]⟩
def a6G(n:j7)(m:l9)(out:List l9)(s_:Int):Option (l7 ((List l9)×j7) ((List l9)×Int) (List l9)):=
 (bif decide (s_<(n.a5.length:Int)) then ((idx n.a5 s_).bind fun entry=>((X0 entry).bind fun l5Entry=>((a4w m (l9.mk 5 0 0 0 s_ l5Entry [])).bind fun a1Y=>(t5 ((out.length+a1Y.length)*152<=140737488355328) (some (l7.nxt (out++a1Y,m8 (s_+1)))))))) else some (l7.brk out))
theorem f0W(n m):LQ a8Y (c8u n) (e23 n m) (fun s=>a6G n m s.1 s.2):=fun lc (out,s_) h=>PK<|rg<|j6 4 h (fun h=>rg<|A7 h fun entry G9 h=>B5 G9<|H9 t6 7 G9<|l8 a0C a0W 8 h fun l5Entry h=>l8 a38 a8t 10 h fun a1Y h=>u0 h fun e1 h=>apL 11 20 66 13 152 s6 out a1Y e1<|rg<|(lc.nx h fun hI=>sk [] [2,3,5,6] [(1,0),(2,0),(20,0)] hI)) (fun h=>(lc.bk h fun hI=>sk [] [5] [(3,0)] hI))
def b5M(n:j7)(m:l9):Option ((List l9)×j7):=
 ((o9 (fun s:(List l9)×Int=>a6G n m s.1 s.2) (([]:List l9),m.g8)).bind fun x=>x.go (fun r=>some r) fun s=>c9q n s)
theorem e4H{n m}:OK a8Y [.agg (H3 n),.agg (s6 m)] (b5M n m):=
 o8 _ fun r h=>n7<|tk 0 B9<|rg<|lp (f0W n m) h (fun _ h=>a8Y.rt h) (f0H n r) fun hI=>om ((.own 4 0 13 0 0:V)=.own 4 0 13 0 ([]:List l9).length) (by simp)<|sk [.is (.tmp 5) (.own 4 0 13 0 ([]:List l9).length)] [2,3,5,6] [(1,0),(2,0),(4,0)] hI
def b8I:FS (j7×(List l9)×List n5):=⟨120,Tryz.f120,[.val A8 G7,.val [some 13] [],.val [some 5] []],[none,none],[.val A8 G7,.val B9 []],fun r=>.tup [.agg (H3 r.1),j8 13 s6 r.2.1,j8 5 x8 r.2.2],fun _=>[none,none],Tryz.func120⟩
def e8Q:((List m9)×(List m6)×(List Bool)×(List Bool)×(List m6)×(List l9)×Int×Int×Int×Int×(List r9)×(List p7)×Int×Int×Bool×(List n9)×Bool×Int×Int×(List r9)×(List p7)×Int×Int×Int×Int×Int×(List m9)×Bool)->KS:=fun (Acc,a5,c9,a7,d9,out,nId,nAcc,nCur,nCur1,nCur2,nCur3,nCur4,nCur5,nBusy,nProg,nWant,nWant1,nWant2,nWant3,nWant4,nWant5,nWant6,nSeq,nPhase,nBal,nBest,nCur6)=>⟨b8I.k 5 [true],(bs 2 (.ptr 1 0 0::(bs 1 (.ptr 7 0 0::(bs 2 (j8 13 s6 out::(bs 77 []))))))),[some [.dead,.dead,.dead,.dead,.dead],some [.var 52 [vi nId,vi nAcc,.own 2 0 8 0 Acc.length,.own 3 0 7 0 a5.length,vi nSeq,vi nPhase,vi nBal,.own 4 0 1 0 c9.length,j8 8 p9 nBest,.b nCur6,vi nCur,vi nCur1,j8 2 w6 nCur2,j8 2 w8 nCur3,vi nCur4,vi nCur5,.own 5 0 1 0 a7.length,.b nBusy,j8 4 A0 nProg,.b nWant,vi nWant1,vi nWant2,j8 2 w6 nWant3,j8 2 w8 nWant4,vi nWant5,vi nWant6,.own 6 0 7 0 d9.length]],some [m7 108 8 p9 Acc],some [m7 50 7 t6 a5],some [m7 4 1 eB c9],some [m7 4 1 eB a7],some [m7 50 7 t6 d9],some [.var 52 [vi 0,vi 0,.nil,.nil,vi 0,vi 0,vi 0,.nil,.nil,.b false,vi 0,vi 0,.nil,.nil,vi 0,vi 0,.nil,.b false,.nil,.b false,vi 0,vi 0,.nil,.nil,vi 0,vi 0,.nil]]]⟩
def c9b(Acc:List m9)(a5:List m6)(c9:List Bool)(a7:List Bool)(d9:List m6)(out:List l9)(nId:Int)(nAcc:Int)(nCur:Int)(nCur1:Int)(nCur2:List r9)(nCur3:List p7)(nCur4:Int)(nCur5:Int)(nBusy:Bool)(nProg:List n9)(nWant:Bool)(nWant1:Int)(nWant2:Int)(nWant3:List r9)(nWant4:List p7)(nWant5:Int)(nWant6:Int)(nSeq:Int)(nPhase:Int)(nBal:Int)(nBest:List m9)(nCur6:Bool):Option (j7×(List l9)×List n5):=
 some ((j7.mk nId (z4.mk nAcc Acc) a5 nSeq nPhase nBal c9 nBest (m6.mk nCur6 (o7.mk nCur nCur1) (n6.mk nCur2 nCur3 nCur4 nCur5)) a7 nBusy nProg (m6.mk nWant (o7.mk nWant1 nWant2) (n6.mk nWant3 nWant4 nWant5 nWant6)) d9),out,([]:List n5))
theorem e85(r):NF b8I r e8Q (fun s=>c9b s.1 s.2.1 s.2.2.1 s.2.2.2.1 s.2.2.2.2.1 s.2.2.2.2.2.1 s.2.2.2.2.2.2.1 s.2.2.2.2.2.2.2.1 s.2.2.2.2.2.2.2.2.1 s.2.2.2.2.2.2.2.2.2.1 s.2.2.2.2.2.2.2.2.2.2.1 s.2.2.2.2.2.2.2.2.2.2.2.1 s.2.2.2.2.2.2.2.2.2.2.2.2.1 s.2.2.2.2.2.2.2.2.2.2.2.2.2.1 s.2.2.2.2.2.2.2.2.2.2.2.2.2.2.1 s.2.2.2.2.2.2.2.2.2.2.2.2.2.2.2.1 s.2.2.2.2.2.2.2.2.2.2.2.2.2.2.2.2.1 s.2.2.2.2.2.2.2.2.2.2.2.2.2.2.2.2.2.1 s.2.2.2.2.2.2.2.2.2.2.2.2.2.2.2.2.2.2.1 s.2.2.2.2.2.2.2.2.2.2.2.2.2.2.2.2.2.2.2.1 s.2.2.2.2.2.2.2.2.2.2.2.2.2.2.2.2.2.2.2.2.1 s.2.2.2.2.2.2.2.2.2.2.2.2.2.2.2.2.2.2.2.2.2.1 s.2.2.2.2.2.2.2.2.2.2.2.2.2.2.2.2.2.2.2.2.2.2.1 s.2.2.2.2.2.2.2.2.2.2.2.2.2.2.2.2.2.2.2.2.2.2.2.1 s.2.2.2.2.2.2.2.2.2.2.2.2.2.2.2.2.2.2.2.2.2.2.2.2.1 s.2.2.2.2.2.2.2.2.2.2.2.2.2.2.2.2.2.2.2.2.2.2.2.2.2.1 s.2.2.2.2.2.2.2.2.2.2.2.2.2.2.2.2.2.2.2.2.2.2.2.2.2.2.1 s.2.2.2.2.2.2.2.2.2.2.2.2.2.2.2.2.2.2.2.2.2.2.2.2.2.2.2):=fun (Acc,a5,c9,a7,d9,out,nId,nAcc,nCur,nCur1,nCur2,nCur3,nCur4,nCur5,nBusy,nProg,nWant,nWant1,nWant2,nWant3,nWant4,nWant5,nWant6,nSeq,nPhase,nBal,nBest,nCur6) h=>PK<|rg<|tk 2 []<|H0 Acc a5 c9 a7<|s9 d9<|C1 n5<|fE h
def b9L(n:j7)(m:l9):Option (j7×(List l9)×List n5):=
 (((bif (m.a9==1) then ((b84 n m).bind fun M0=>some (m5.brk (M0.1.Acc.a7,M0.1.a5,M0.1.c9,M0.1.a7,M0.1.d9,M0.2,M0.1.Id,M0.1.Acc.i4,M0.1.d6.a0.c8,M0.1.d6.a0.Seq,M0.1.d6.b8.b5,M0.1.d6.b8.b6,M0.1.d6.b8.g7,M0.1.d6.b8.Code,M0.1.i9,M0.1.i7,M0.1.b7.i8,M0.1.b7.a0.c8,M0.1.b7.a0.Seq,M0.1.b7.b8.b5,M0.1.b7.b8.b6,M0.1.b7.b8.g7,M0.1.b7.b8.Code,M0.1.Seq,M0.1.d8,M0.1.a8,M0.1.i5,M0.1.d6.i8))) else (bif (m.a9==2) then ((b8y n m).bind fun L6=>some (m5.brk (L6.1.Acc.a7,L6.1.a5,L6.1.c9,L6.1.a7,L6.1.d9,L6.2,L6.1.Id,L6.1.Acc.i4,L6.1.d6.a0.c8,L6.1.d6.a0.Seq,L6.1.d6.b8.b5,L6.1.d6.b8.b6,L6.1.d6.b8.g7,L6.1.d6.b8.Code,L6.1.i9,L6.1.i7,L6.1.b7.i8,L6.1.b7.a0.c8,L6.1.b7.a0.Seq,L6.1.b7.b8.b5,L6.1.b7.b8.b6,L6.1.b7.b8.g7,L6.1.b7.b8.Code,L6.1.Seq,L6.1.d8,L6.1.a8,L6.1.i5,L6.1.d6.i8))) else (bif (m.a9==3) then ((b7i n m).bind fun L5=>some (m5.brk (L5.1.Acc.a7,L5.1.a5,L5.1.c9,L5.1.a7,L5.1.d9,L5.2,L5.1.Id,L5.1.Acc.i4,L5.1.d6.a0.c8,L5.1.d6.a0.Seq,L5.1.d6.b8.b5,L5.1.d6.b8.b6,L5.1.d6.b8.g7,L5.1.d6.b8.Code,L5.1.i9,L5.1.i7,L5.1.b7.i8,L5.1.b7.a0.c8,L5.1.b7.a0.Seq,L5.1.b7.b8.b5,L5.1.b7.b8.b6,L5.1.b7.b8.g7,L5.1.b7.b8.Code,L5.1.Seq,L5.1.d8,L5.1.a8,L5.1.i5,L5.1.d6.i8))) else (bif (m.a9==4) then ((b8a n m).bind fun b1P=>some (m5.ret (b1P.1,b1P.2.1,b1P.2.2))) else (bif (m.a9==5) then ((b7J n m).bind fun b2K=>some (m5.ret (b2K.1,b2K.2.1,b2K.2.2))) else (bif (m.a9==6) then ((a8j n.Acc m.a8).bind fun l6Promise=>((b2e (j7.mk n.Id l6Promise.1 n.a5 n.Seq n.d8 n.a8 n.c9 n.i5 n.d6 n.a7 n.i9 n.i7 n.b7 n.d9) m.a8).bind fun J9=>some (m5.brk (J9.Acc.a7,J9.a5,J9.c9,J9.a7,J9.d9,([]:List l9),J9.Id,J9.Acc.i4,J9.d6.a0.c8,J9.d6.a0.Seq,J9.d6.b8.b5,J9.d6.b8.b6,J9.d6.b8.g7,J9.d6.b8.Code,J9.i9,J9.i7,J9.b7.i8,J9.b7.a0.c8,J9.b7.a0.Seq,J9.b7.b8.b5,J9.b7.b8.b6,J9.b7.b8.g7,J9.b7.b8.Code,J9.Seq,J9.d8,J9.a8,J9.i5,J9.d6.i8)))) else (bif (m.a9==7) then ((b6t n m).bind fun M2=>some (m5.brk (M2.1.Acc.a7,M2.1.a5,M2.1.c9,M2.1.a7,M2.1.d9,M2.2,M2.1.Id,M2.1.Acc.i4,M2.1.d6.a0.c8,M2.1.d6.a0.Seq,M2.1.d6.b8.b5,M2.1.d6.b8.b6,M2.1.d6.b8.g7,M2.1.d6.b8.Code,M2.1.i9,M2.1.i7,M2.1.b7.i8,M2.1.b7.a0.c8,M2.1.b7.a0.Seq,M2.1.b7.b8.b5,M2.1.b7.b8.b6,M2.1.b7.b8.g7,M2.1.b7.b8.Code,M2.1.Seq,M2.1.d8,M2.1.a8,M2.1.i5,M2.1.d6.i8))) else (bif (m.a9==8) then ((b5M n m).bind fun T1=>(t5 (n.Acc.a7.length=T1.2.Acc.a7.length) ((t5 (n.a5.length=T1.2.a5.length) ((t5 (n.c9.length=T1.2.c9.length) ((t5 (n.a7.length=T1.2.a7.length) ((t5 (n.d9.length=T1.2.d9.length) (some (m5.brk (T1.2.Acc.a7,T1.2.a5,T1.2.c9,T1.2.a7,T1.2.d9,T1.1,n.Id,n.Acc.i4,n.d6.a0.c8,n.d6.a0.Seq,n.d6.b8.b5,n.d6.b8.b6,n.d6.b8.g7,n.d6.b8.Code,n.i9,n.i7,n.b7.i8,n.b7.a0.c8,n.b7.a0.Seq,n.b7.b8.b5,n.b7.b8.b6,n.b7.b8.g7,n.b7.b8.Code,n.Seq,n.d8,n.a8,n.i5,n.d6.i8))))))))))))) else some (m5.brk (n.Acc.a7,n.a5,n.c9,n.a7,n.d9,([]:List l9),n.Id,n.Acc.i4,n.d6.a0.c8,n.d6.a0.Seq,n.d6.b8.b5,n.d6.b8.b6,n.d6.b8.g7,n.d6.b8.Code,n.i9,n.i7,n.b7.i8,n.b7.a0.c8,n.b7.a0.Seq,n.b7.b8.b5,n.b7.b8.b6,n.b7.b8.g7,n.b7.b8.Code,n.Seq,n.d8,n.a8,n.i5,n.d6.i8)))))))))):Option (m5 (j7×(List l9)×List n5) ((List m9)×(List m6)×(List Bool)×(List Bool)×(List m6)×(List l9)×Int×Int×Int×Int×(List r9)×(List p7)×Int×Int×Bool×(List n9)×Bool×Int×Int×(List r9)×(List p7)×Int×Int×Int×Int×Int×(List m9)×Bool))).bind fun x=>x.go some fun j=>c9b j.1 j.2.1 j.2.2.1 j.2.2.2.1 j.2.2.2.2.1 j.2.2.2.2.2.1 j.2.2.2.2.2.2.1 j.2.2.2.2.2.2.2.1 j.2.2.2.2.2.2.2.2.1 j.2.2.2.2.2.2.2.2.2.1 j.2.2.2.2.2.2.2.2.2.2.1 j.2.2.2.2.2.2.2.2.2.2.2.1 j.2.2.2.2.2.2.2.2.2.2.2.2.1 j.2.2.2.2.2.2.2.2.2.2.2.2.2.1 j.2.2.2.2.2.2.2.2.2.2.2.2.2.2.1 j.2.2.2.2.2.2.2.2.2.2.2.2.2.2.2.1 j.2.2.2.2.2.2.2.2.2.2.2.2.2.2.2.2.1 j.2.2.2.2.2.2.2.2.2.2.2.2.2.2.2.2.2.1 j.2.2.2.2.2.2.2.2.2.2.2.2.2.2.2.2.2.2.1 j.2.2.2.2.2.2.2.2.2.2.2.2.2.2.2.2.2.2.2.1 j.2.2.2.2.2.2.2.2.2.2.2.2.2.2.2.2.2.2.2.2.1 j.2.2.2.2.2.2.2.2.2.2.2.2.2.2.2.2.2.2.2.2.2.1 j.2.2.2.2.2.2.2.2.2.2.2.2.2.2.2.2.2.2.2.2.2.2.1 j.2.2.2.2.2.2.2.2.2.2.2.2.2.2.2.2.2.2.2.2.2.2.2.1 j.2.2.2.2.2.2.2.2.2.2.2.2.2.2.2.2.2.2.2.2.2.2.2.2.1 j.2.2.2.2.2.2.2.2.2.2.2.2.2.2.2.2.2.2.2.2.2.2.2.2.2.1 j.2.2.2.2.2.2.2.2.2.2.2.2.2.2.2.2.2.2.2.2.2.2.2.2.2.2.1 j.2.2.2.2.2.2.2.2.2.2.2.2.2.2.2.2.2.2.2.2.2.2.2.2.2.2.2)
set_option maxRecDepth 20000 in
theorem f2f{n m}:OK b8I [.agg (H3 n),.agg (s6 m)] (b9L n m):=
 o8 _ fun r h=>n7<|tk 0 B9<|rg<|A9 h (e85 r) fun x1 h hc1=>rg<|j6 1 h (fun h=>rg<|l8 d5C e75 2 h fun M0 h=>A5 n<|(p8 h hc1 fun hI=>sk [] [2,4,7] [(1,0),(14,0),(14,1),(14,2),(14,3),(14,4),(3,0)] hI)) (fun h=>rg<|j6 1 h (fun h=>rg<|l8 d4N d7B 2 h fun L6 h=>A5 n<|(p8 h hc1 fun hI=>sk [] [2,4,7] [(1,0),(16,0),(16,1),(16,2),(16,3),(16,4),(3,0)] hI)) (fun h=>rg<|j6 1 h (fun h=>rg<|l8 c7w e3D 2 h fun L5 h=>A5 n<|(p8 h hc1 fun hI=>sk [] [2,4,7] [(1,0),(18,0),(18,1),(18,2),(18,3),(18,4),(3,0)] hI)) (fun h=>rg<|j6 1 h (fun h=>rg<|l8 d3u e5F 2 h fun b1P h=>A5 n<|(B8 h hc1 fun h=>A5 b1P.1<|fE h)) (fun h=>rg<|j6 1 h (fun h=>rg<|l8 d4d e6W 2 h fun b2K h=>A5 n<|(B8 h hc1 fun h=>A5 b2K.1<|fE h)) (fun h=>rg<|j6 1 h (fun h=>rg<|l8 b25 b6W 4 h fun l6Promise h=>s9 n.Acc.a7<|n7<|l8 b26 c82 3 h fun J9 h=>s9 l6Promise.1.a7<|J5 n<|(p8 h hc1 fun hI=>C1 l9<|sk [.frz (.tmp 7) (none)] [2,4,7] [(1,0),(39,0),(39,1),(39,2),(39,3),(39,4),(3,0)] hI)) (fun h=>rg<|j6 1 h (fun h=>rg<|l8 c8s d7z 2 h fun M2 h=>A5 n<|(p8 h hc1 fun hI=>sk [] [2,4,7] [(1,0),(26,0),(26,1),(26,2),(26,3),(26,4),(3,0)] hI)) (fun h=>rg<|j6 1 h (fun h=>rg<|l8 a8Y e4H 2 h fun T1 h=>u0 h fun e1 h=>u0 h fun e2 h=>u0 h fun e3 h=>u0 h fun e4 h=>u0 h fun e5 h=>A5 n<|(p8 h hc1 fun hI=>om ((.own 0 0 8 0 n.Acc.a7.length:V)=.own 0 0 8 0 T1.2.Acc.a7.length) (by first|(simp;done)|(simp [e1,e2,e3,e4,e5];done))<|om ((.own 0 1 7 0 n.a5.length:V)=.own 0 1 7 0 T1.2.a5.length) (by first|(simp;done)|(simp [e1,e2,e3,e4,e5];done))<|om ((.own 0 2 1 0 n.c9.length:V)=.own 0 2 1 0 T1.2.c9.length) (by first|(simp;done)|(simp [e1,e2,e3,e4,e5];done))<|om ((.own 0 3 1 0 n.a7.length:V)=.own 0 3 1 0 T1.2.a7.length) (by first|(simp;done)|(simp [e1,e2,e3,e4,e5];done))<|om ((.own 0 4 7 0 n.d9.length:V)=.own 0 4 7 0 T1.2.d9.length) (by first|(simp;done)|(simp [e1,e2,e3,e4,e5];done))<|sk [.is (.cell 1 0 2) (.own 0 0 8 0 T1.2.Acc.a7.length),.is (.cell 1 0 3) (.own 0 1 7 0 T1.2.a5.length),.is (.cell 1 0 7) (.own 0 2 1 0 T1.2.c9.length),.is (.cell 1 0 16) (.own 0 3 1 0 T1.2.a7.length),.is (.cell 1 0 26) (.own 0 4 7 0 T1.2.d9.length)] [2,4,7] [(1,0),(0,0),(0,1),(0,2),(0,3),(0,4),(3,0)] hI)) (fun h=>(p8 h hc1 fun hI=>C1 l9<|sk [.frz (.tmp 7) (none)] [2,4,7] [(1,0),(0,0),(0,1),(0,2),(0,3),(0,4),(3,0)] hI)))))))))
def a1T:FS (m4):=⟨70,Tryz.f70,[.val D4 R5],[none,none],[.val D4 R5,.val [some 5] []],fun r=>.agg (S4 r),fun _=>[none,none],Tryz.func70⟩
def d1i(w:m4):(List n5)->KS:=fun Told1=>⟨a1T.k 3 [false],(bs 2 (.ptr 1 0 0::(bs 1 (.ptr 3 0 0::(bs 23 []))))),[some [C4 52 27 z6 w.a6,m7 66 13 s6 w.b9,m7 68 3 A2 w.d7,.dead],some [.var 28 [.own 0 0 27 0 w.a6.length,.own 0 1 13 0 w.b9.length,.own 0 2 3 0 w.d7.length,.own 2 0 5 0 Told1.length]],some [m7 62 5 x8 Told1],some [.var 28 [.nil,.nil,.nil,.nil]]]⟩
def d1E(w:m4)(Told1:List n5):Option m4:=
 some (m4.mk w.a6 w.b9 w.d7 Told1)
theorem e4O(w)(r):NF a1T r (d1i w) (fun s=>d1E w s):=fun Told1 h=>PK<|rg<|H0 w.a6 w.b9 w.d7 Told1<|fE h
def e7X(w:m4)(list:List n5):((List n5)×Int)->KS:=fun (Told,i)=>⟨a1T.k 2 [],(bs 1 (j8 5 x8 list::(.ptr 1 0 0::(bs 1 (.ptr 2 0 0::(vi i::(bs 22 []))))))),[some [C4 52 27 z6 w.a6,m7 66 13 s6 w.b9,m7 68 3 A2 w.d7,.dead],some [.var 28 [.own 0 0 27 0 w.a6.length,.own 0 1 13 0 w.b9.length,.own 0 2 3 0 w.d7.length,.own 3 0 5 0 Told.length]],some [.var 28 [.nil,.nil,.nil,.nil]],some [m7 62 5 x8 Told]]⟩
def a3w(list:List n5)(Told:List n5)(i:Int):Option (l7 m4 ((List n5)×Int) (List n5)):=
 (bif decide (i<(list.length:Int)) then (bif decide ((Told.length:Int)<60) then ((idx list i).bind fun told=>(t5 ((Told.length+1)*40<=140737488355328) (some (l7.nxt (Told++[told],m8 (i+1)))))) else some (l7.brk Told)) else some (l7.brk Told))
theorem f2D(w list):LQ a1T (d1i w) (e7X w list) (fun s=>a3w list s.1 s.2):=fun lc (Told,i) h=>PK<|rg<|j6 4 h (fun h=>j6 9 h (fun h=>rg<|u9 x8 4 h fun told a4G h=>tk 6 []<|u0 h fun e1 h=>F9 7 21 62 5 40 x8 Told told e1<|E8 told<|rg<|(lc.nx h fun hI=>sk [] [1,2,4,5] [(1,0),(2,0),(21,0)] hI)) (fun h=>(lc.bk h fun hI=>sk [] [2,4] [(1,0),(3,0),(2,0)] hI))) (fun h=>(lc.bk h fun hI=>sk [] [2,4] [(1,0),(3,0),(2,0)] hI))
def a3S(w:m4)(list:List n5):Option m4:=
 ((o9 (fun s:(List n5)×Int=>a3w list s.1 s.2) (w.Told,0)).bind fun x=>x.go (fun r=>some r) fun s=>d1E w s)
theorem a8u{w list}:OK a1T [.agg (S4 w),j8 5 x8 list] (a3S w list):=
 o8 _ fun r h=>n7<|lp (f2D w list) h (fun _ h=>a1T.rt h) (e4O w r) fun hI=>sk [] [1,2,4,5] [(1,0),(2,0),(0,3)] hI
def b8d:FS (m4):=⟨65,Tryz.f65,[.val D4 R5],[none,none],[.val D4 R5,.val [none,none,some 4] []],fun r=>.agg (S4 r),fun _=>[none,none],Tryz.func65⟩
def b3F(node:j7):List V:=([vi node.Id,vi node.Acc.i4,.own 40 0 8 0 node.Acc.a7.length,.own 40 1 7 0 node.a5.length,vi node.Seq,vi node.d8,vi node.a8,.own 40 2 1 0 node.c9.length]++a6j node++[.own 40 3 1 0 node.a7.length]++a3P node++[.own 40 4 7 0 node.d9.length])
def d5A(a2P:j7×(List l9)×List n5):List V:=(a5I a2P.1)
def b0B(w:m4)(e_:q9):Option m4:=
 (bif decide (e_.A<0) then some w else (bif decide (e_.A>=(w.b9.length:Int)) then some w else ((idx w.b9 e_.A).bind fun msg=>((a8k msg).bind fun G2=>(bif (e_.a9==4) then ((a3q w [G2]).bind fun a2X=>some a2X) else (bif (e_.a9==3) then ((b2T w e_.A).bind fun c3y=>some c3y) else ((b2T w e_.A).bind fun Y5=>((idx Y5.a6 G2.To).bind fun node=>((b9L node G2).bind fun a2P=>((a3q (m4.mk (Y5.a6.set G2.To.toNat a2P.1) Y5.b9 Y5.d7 Y5.Told) a2P.2.1).bind fun a3j=>((a3S a3j a2P.2.2).bind fun a2Z=>some a2Z)))))))))))
set_option maxRecDepth 20000 in
theorem c0F{w e_}:OK b8d [.agg (S4 w),.agg (H2 e_)] (b0B w e_):=
 o8 _ fun r h=>n7<|j6 3 h (fun h=>rg<|B0 w<|fE h) (fun h=>j6 10 h (fun h=>rg<|B0 w<|fE h) (fun h=>rg<|A7 h fun msg hmsg h=>B5 hmsg<|H9 s6 5 hmsg<|l8 b3X b6q 6 h fun G2 h=>n7<|j6 1 h (fun h=>rg<|tk 2 B9<|l8 a1e a6f 3 h fun a2X h=>B0 w<|E8 G2<|B0 a2X<|fE h) (fun h=>rg<|j6 1 h (fun h=>rg<|l8 c1A c9i 3 h fun c3y h=>B0 w<|B0 c3y<|fE h) (fun h=>rg<|l8 c1A c9i 3 h fun Y5 h=>B0 w<|rg<|A7 h fun node hnode h=>B5 hnode<|ob (b3j (enc:=z6) hnode)<|tl (5,{a:=.drow (z6 node)})<|l8 b8I f2f 7 h fun a2P h=>A5 node<|rg<|B5 hnode<|om (s8.deep false 52 27 Y5.a6.length (((Y5.a6.map z6).set (0+G2.To.toNat) (b3F node)).set (0+G2.To.toNat) (d5A a2P))=C4 52 27 z6 (Y5.a6.set G2.To.toNat a2P.1)) (a7C (W6 (a0Z rfl)) (by simp))<|om (I2 (((Y5.a6.map z6).set (0+G2.To.toNat) (b3F node)).set (0+G2.To.toNat) (d5A a2P))) (a7V (W6 (a0Z rfl)) a66)<|om (((Y5.a6.map z6).set (0+G2.To.toNat) (b3F node))[0+G2.To.toNat]?=some (b3F node)) (a1M (a18 hnode))<|A5 a2P.1<|tl (6,{a:=.dsc (b3F node) [none,none,some 8,some 7,none,none,none,some 1,some 8,none,none,none,some 2,some 2,none,none,some 1,none,some 4,none,none,none,some 2,some 2,none,none,some 7] [none,none,some 108,some 50,none,none,none,some 4,none,none,none,none,none,none,none,none,some 4,none,none,none,none,none,none,none,none,none,some 50],e:=some (C4 52 27 z6 (Y5.a6.set G2.To.toNat a2P.1))})<|rg<|l8 a1e a6f 2 h fun a3j h=>om (Y5.a6.length=(Y5.a6.set G2.To.toNat a2P.1).length) (by simp)<|X8 Y5.b9 Y5.d7 Y5.Told<|l8 a1T a8u 4 h fun a2Z h=>B0 a3j<|B0 a2Z<|fE h))))
def d18:FS (Bool):=⟨168,Tryz.f168,[.val [] []],[none],[.val V3 []],fun r=>.b r,fun _=>[none],Tryz.func168⟩
def b5K(v_:m9):Option Bool:=
 (bif (v_.a8==0) then (bif (!v_.i0.i8) then (bif (([v_.i0.a0.c8,v_.i0.a0.Seq]:List Int)==[0,0]) then ((b0n v_.i0.b8 (n6.mk [] [] 0 0)).bind fun a3b=>some a3b) else some false) else some false) else ((a1o v_.a8).bind fun Z8=>(bif Z8 then ((a1m v_.i0).bind fun E5=>some E5) else some false)))
theorem f0d{v_}:OK d18 [.agg (p9 v_)] (b5K v_):=
 o8 _ fun r h=>n7<|j6 2 h (fun h=>rg<|j6 4 h (fun h=>j6 11 h (fun h=>l8 a1s c1N 16 h fun a3b h=>fE h) (fun h=>fE h)) (fun h=>fE h)) (fun h=>rg<|l8 a1H a2D 2 h fun Z8 h=>j6 3 h (fun h=>l8 a2n a3d 6 h fun E5 h=>fE h) (fun h=>fE h))
def a20:FS (Bool):=⟨112,Tryz.f112,[.val [] []],[none],[.val [some 8] []],fun r=>.b r,fun _=>[none],Tryz.func112⟩
def c8c:Unit->KS:=fun _=>⟨a20.k 4 [false,false],(bs 19 []),[some []]⟩
def c9S:Option Bool:=
 some true
theorem e8X(r):NF a20 r c8c (fun s=>c9S):=fun _ h=>PK<|rg<|fE h
def d7j(list:List m9):Int->KS:=fun i=>⟨a20.k 3 [false],(j8 8 p9 list::(bs 2 (vi i::(bs 15 [])))),[some []]⟩
def b8u(list:List m9)(i:Int):Option (l7 Bool Int Unit):=
 (bif decide (i<(list.length:Int)) then ((idx list i).bind fun vote=>((b5K vote).bind fun d19=>(bif (!d19) then some (l7.ret false) else some (l7.nxt (m8 (i+1)))))) else some (l7.brk ()))
theorem f3n(list):LQ a20 c8c (d7j list) (fun s=>b8u list s):=fun lc i h=>PK<|rg<|j6 3 h (fun h=>rg<|u9 p9 2 h fun vote J3 h=>l8 d18 f0d 4 h fun d19 h=>j6 5 h (fun h=>rg<|fL lc h) (fun h=>rg<|(lc.nx h fun hI=>sk [] [0,3] [] hI))) (fun h=>(lc.bk h fun hI=>sk [] [] [] hI))
def a5W(list:List m9):Option Bool:=
 (bif decide ((list.length:Int)>40) then some false else ((o9 (fun s:Int=>b8u list s) 0).bind fun x=>x.go (fun r=>some r) fun s=>c9S))
theorem b1p{list}:OK a20 [j8 8 p9 list] (a5W list):=
 o8 _ fun r h=>n7<|j6 2 h (fun h=>rg<|fE h) (fun h=>rg<|lp (f3n list) h (fun _ h=>a20.rt h) (e8X r) fun hI=>sk [] [0,3] [] hI)
def a7L:FS (Bool):=⟨105,Tryz.f105,[.val [] []],[none],[.val [none,some 8] []],fun r=>.b r,fun _=>[none],Tryz.func105⟩
def d3w:Unit->KS:=fun _=>⟨a7L.k 4 [false,false],(bs 34 []),[some []]⟩
def d11:Option Bool:=
 some true
theorem f1N(r):NF a7L r d3w (fun s=>d11):=fun _ h=>PK<|rg<|fE h
def e2e(a:z4):Int->KS:=fun i=>⟨a7L.k 3 [false],(bs 1 (.ptr 1 0 0::(bs 1 (vi i::(bs 30 []))))),[some [],some [.var 40 [vi a.i4,j8 8 p9 a.a7]]]⟩
def b76(a:z4)(i:Int):Option (l7 Bool Int Unit):=
 (bif decide (i<(a.a7.length:Int)) then ((idx a.a7 i).bind fun vote=>(bif decide (vote.a8>a.i4) then some (l7.ret false) else some (l7.nxt (m8 (i+1))))) else some (l7.brk ()))
theorem d8q(a):LQ a7L d3w (e2e a) (fun s=>b76 a s):=fun lc i h=>PK<|rg<|j6 4 h (fun h=>rg<|u9 p9 3 h fun vote J3 h=>j6 8 h (fun h=>rg<|fL lc h) (fun h=>rg<|(lc.nx h fun hI=>sk [] [1,3] [(1,0)] hI))) (fun h=>(lc.bk h fun hI=>sk [] [] [] hI))
def b5T(a:z4):Option Bool:=
 (bif decide (a.i4<0) then some false else (bif decide (a.i4>3000) then some false else ((a5W a.a7).bind fun a6S=>(bif (!a6S) then some false else ((o9 (fun s:Int=>b76 a s) 0).bind fun x=>x.go (fun r=>some r) fun s=>d11)))))
theorem e3A{a}:OK a7L [.agg (Z1 a)] (b5T a):=
 o8 _ fun r h=>n7<|j6 3 h (fun h=>rg<|fE h) (fun h=>j6 8 h (fun h=>rg<|fE h) (fun h=>l8 a20 b1p 11 h fun a6S h=>j6 13 h (fun h=>rg<|fE h) (fun h=>rg<|lp (d8q a) h (fun _ h=>a7L.rt h) (f1N r) fun hI=>sk [] [1,3] [(1,0)] hI)))
def a7l:FS (Bool):=⟨106,Tryz.f106,[.val [] []],[none],[.val [some 7] []],fun r=>.b r,fun _=>[none],Tryz.func106⟩
def c9Z:Unit->KS:=fun _=>⟨a7l.k 4 [false,false],(bs 19 []),[some []]⟩
def d1k:Option Bool:=
 some true
theorem e70(r):NF a7l r c9Z (fun s=>d1k):=fun _ h=>PK<|rg<|fE h
def e3o(list:List m6):Int->KS:=fun i=>⟨a7l.k 3 [false],(j8 7 t6 list::(bs 2 (vi i::(bs 15 [])))),[some []]⟩
def b9p(list:List m6)(i:Int):Option (l7 Bool Int Unit):=
 (bif decide (i<(list.length:Int)) then ((idx list i).bind fun entry=>((a1m entry).bind fun E5=>(bif (!E5) then some (l7.ret false) else some (l7.nxt (m8 (i+1)))))) else some (l7.brk ()))
theorem e5I(list):LQ a7l c9Z (e3o list) (fun s=>b9p list s):=fun lc i h=>PK<|rg<|j6 3 h (fun h=>rg<|u9 t6 2 h fun entry G9 h=>l8 a2n a3d 4 h fun E5 h=>j6 5 h (fun h=>rg<|fL lc h) (fun h=>rg<|(lc.nx h fun hI=>sk [] [0,3] [] hI))) (fun h=>(lc.bk h fun hI=>sk [] [] [] hI))
def b6D(list:List m6):Option Bool:=
 (bif decide ((list.length:Int)>40) then some false else ((o9 (fun s:Int=>b9p list s) 0).bind fun x=>x.go (fun r=>some r) fun s=>d1k))
theorem e4m{list}:OK a7l [j8 7 t6 list] (b6D list):=
 o8 _ fun r h=>n7<|j6 2 h (fun h=>rg<|fE h) (fun h=>rg<|lp (e5I list) h (fun _ h=>a7l.rt h) (e70 r) fun hI=>sk [] [0,3] [] hI)
def a7H:FS (Bool):=⟨110,Tryz.f110,[.val [] []],[none],[.val K4 []],fun r=>.b r,fun _=>[none],Tryz.func110⟩
def a5r(e_:m6):Option Bool:=
 (bif (!e_.i8) then (bif (([e_.a0.c8,e_.a0.Seq]:List Int)==[0,0]) then ((b0n e_.b8 (n6.mk [] [] 0 0)).bind fun a3b=>some a3b) else some false) else some false)
theorem a9N{e_}:OK a7H [.agg (t6 e_)] (a5r e_):=
 o8 _ fun r h=>n7<|j6 3 h (fun h=>j6 9 h (fun h=>l8 a1s c1N 13 h fun a3b h=>fE h) (fun h=>fE h)) (fun h=>fE h)
def b7k:FS (Int):=⟨165,Tryz.f165,[.val [] []],[none],[.val [] []],fun r=>vi r,fun _=>[none],Tryz.func165⟩
def a9F(bal:Int):Option Int:=
 ((a1o bal).bind fun Z8=>(bif (!Z8) then some (-1) else some (f6D bal 3)))
theorem c4x{bal}:OK b7k [vi bal] (a9F bal):=
 o8 _ fun r h=>n7<|l8 a1H a2D 1 h fun Z8 h=>j6 2 h (fun h=>rg<|fE h) (fun h=>rg<|om (3≠(0:Int)) (by decide)<|fE h)
def c8C:FS (Bool):=⟨107,Tryz.f107,[.val [] []],[none],[.val A8 []],fun r=>.b r,fun _=>[none],Tryz.func107⟩
def b8e(n:j7):Option Bool:=
 (bif (n.d8==0) then (bif (n.a8==0) then (bif ((n.c9.length:Int)==0) then (bif ((n.i5.length:Int)==0) then ((a5r n.d6).bind fun l7None=>(bif l7None then some ((n.a7.length:Int)==0) else some false)) else some false) else some false) else some false) else (bif (n.d8==1) then ((a1o n.a8).bind fun Z8=>(bif Z8 then (bif decide (n.a8<=n.Acc.i4) then ((a9F n.a8).bind fun a6L=>(bif (a6L==n.Id) then (bif ((n.c9.length:Int)==3) then ((idx n.c9 n.Id).bind fun y=>(bif y then ((a5W n.i5).bind fun a6S=>(bif a6S then ((a5r n.d6).bind fun d3l=>(bif d3l then some ((n.a7.length:Int)==0) else some false)) else some false)) else some false)) else some false) else some false)) else some false) else some false)) else (bif (n.d8==2) then ((a1o n.a8).bind fun b1H=>(bif (!b1H) then some false else (bif decide (n.a8>n.Acc.i4) then some false else ((a9F n.a8).bind fun d6V=>(bif (d6V != n.Id) then some false else (bif ((n.c9.length:Int) != 0) then some false else ((a5W n.i5).bind fun d6Q=>(bif (!d6Q) then some false else (bif (n.d8==2) then ((a5r n.d6).bind fun d5a=>(bif d5a then some ((n.a7.length:Int)==0) else some false)) else ((a1m n.d6).bind fun E5=>(bif E5 then (bif ((n.a7.length:Int)==3) then ((idx n.a7 n.Id).bind fun y1=>(bif y1 then some (decide ((n.a5.length:Int)<40)) else some false)) else some false) else some false))))))))))) else (bif (n.d8==3) then ((a1o n.a8).bind fun b3t=>(bif (!b3t) then some false else (bif decide (n.a8>n.Acc.i4) then some false else ((a9F n.a8).bind fun d4F=>(bif (d4F != n.Id) then some false else (bif ((n.c9.length:Int) != 0) then some false else ((a5W n.i5).bind fun c9p=>(bif (!c9p) then some false else (bif (n.d8==2) then ((a5r n.d6).bind fun d4X=>(bif d4X then some ((n.a7.length:Int)==0) else some false)) else ((a1m n.d6).bind fun a3t=>(bif a3t then (bif ((n.a7.length:Int)==3) then ((idx n.a7 n.Id).bind fun y2=>(bif y2 then some (decide ((n.a5.length:Int)<40)) else some false)) else some false) else some false))))))))))) else some false))))
set_option maxRecDepth 20000 in
theorem e3e{n}:OK c8C [.agg (w9 n)] (b8e n):=
 o8 _ fun r h=>N7<|j6 1 h (fun h=>rg<|j6 3 h (fun h=>j6 9 h (fun h=>j6 15 h (fun h=>l8 a7H a9N 18 h fun l7None h=>j6 20 h (fun h=>fE h) (fun h=>fE h)) (fun h=>fE h)) (fun h=>fE h)) (fun h=>fE h)) (fun h=>rg<|j6 1 h (fun h=>rg<|l8 a1H a2D 2 h fun Z8 h=>j6 3 h (fun h=>j6 11 h (fun h=>l8 b7k c4x 14 h fun a6L h=>j6 19 h (fun h=>j6 25 h (fun h=>u9 eB 30 h fun y hy h=>j6 33 h (fun h=>l8 a20 b1p 36 h fun a6S h=>j6 38 h (fun h=>l8 a7H a9N 41 h fun d3l h=>j6 43 h (fun h=>fE h) (fun h=>fE h)) (fun h=>fE h)) (fun h=>fE h)) (fun h=>fE h)) (fun h=>fE h)) (fun h=>fE h)) (fun h=>fE h)) (fun h=>rg<|j6 1 h (fun h=>rg<|l8 a1H a2D 2 h fun b1H h=>j6 4 h (fun h=>rg<|fE h) (fun h=>j6 12 h (fun h=>rg<|fE h) (fun h=>l8 b7k c4x 15 h fun d6V h=>j6 20 h (fun h=>rg<|fE h) (fun h=>j6 26 h (fun h=>rg<|fE h) (fun h=>l8 a20 b1p 29 h fun d6Q h=>j6 31 h (fun h=>rg<|fE h) (fun h=>rg<|j6 2 h (fun h=>rg<|l8 a7H a9N 2 h fun d5a h=>j6 3 h (fun h=>fE h) (fun h=>fE h)) (fun h=>rg<|l8 a2n a3d 2 h fun E5 h=>j6 3 h (fun h=>j6 9 h (fun h=>u9 eB 14 h fun y1 hy1 h=>j6 17 h (fun h=>fE h) (fun h=>fE h)) (fun h=>fE h)) (fun h=>fE h)))))))) (fun h=>rg<|j6 1 h (fun h=>rg<|l8 a1H a2D 2 h fun b3t h=>j6 4 h (fun h=>rg<|fE h) (fun h=>j6 12 h (fun h=>rg<|fE h) (fun h=>l8 b7k c4x 15 h fun d4F h=>j6 20 h (fun h=>rg<|fE h) (fun h=>j6 26 h (fun h=>rg<|fE h) (fun h=>l8 a20 b1p 29 h fun c9p h=>j6 31 h (fun h=>rg<|fE h) (fun h=>rg<|j6 2 h (fun h=>rg<|l8 a7H a9N 2 h fun d4X h=>j6 3 h (fun h=>fE h) (fun h=>fE h)) (fun h=>rg<|l8 a2n a3d 2 h fun a3t h=>j6 3 h (fun h=>j6 9 h (fun h=>u9 eB 14 h fun y2 hy2 h=>j6 17 h (fun h=>fE h) (fun h=>fE h)) (fun h=>fE h)) (fun h=>fE h)))))))) (fun h=>rg<|fE h))))
def a3R:FS (Bool):=⟨169,Tryz.f169,[.val [] []],[none],[.val [] []],fun r=>.b r,fun _=>[none],Tryz.func169⟩
def a2K(n:Int):Option Bool:=
 (bif decide (n>=0) then some (decide (n<4)) else some false)
theorem a4N{n}:OK a3R [vi n] (a2K n):=
 o8 _ fun r h=>n7<|j6 2 h (fun h=>fE h) (fun h=>fE h)
def d1T:FS (Bool):=⟨113,Tryz.f113,[.val [] []],[none],[.val [] []],fun r=>.b r,fun _=>[none],Tryz.func113⟩
def b42(i:n9):Option Bool:=
 (bif (i.a9==1) then ((a2K i.A).bind fun d1n=>(bif d1n then ((a8e i.B).bind fun b2g=>(bif b2g then some (i.N==0) else some false)) else some false)) else (bif (i.a9==2) then ((a8e i.A).bind fun b1Y=>(bif b1Y then ((a2K i.B).bind fun d39=>(bif d39 then some (i.N==0) else some false)) else some false)) else (bif (i.a9==3) then ((a2K i.A).bind fun c7Z=>(bif c7Z then (bif (i.B==0) then ((a5P i.N).bind fun a1a=>some a1a) else some false) else some false)) else (bif (i.a9==4) then ((a2K i.A).bind fun c8e=>(bif c8e then ((a2K i.B).bind fun c6w=>(bif c6w then some (i.N==0) else some false)) else some false)) else (bif (i.a9==5) then ((a2K i.A).bind fun c6e=>(bif c6e then ((a2K i.B).bind fun c8D=>(bif c8D then some (i.N==0) else some false)) else some false)) else (bif (i.a9==6) then ((a2K i.A).bind fun c8Y=>(bif c8Y then ((a2K i.B).bind fun d0L=>(bif d0L then (bif decide (i.N>=1) then some (decide (i.N<=10)) else some false) else some false)) else some false)) else (bif (i.a9==7) then (bif (i.A==0) then (bif (i.B==0) then some (i.N==0) else some false) else some false) else some false)))))))
theorem d9I{i}:OK d1T [.agg (A0 i)] (b42 i):=
 o8 _ fun r h=>N7<|j6 1 h (fun h=>rg<|l8 a3R a4N 2 h fun d1n h=>j6 3 h (fun h=>l8 b3T b98 6 h fun b2g h=>j6 8 h (fun h=>fE h) (fun h=>fE h)) (fun h=>fE h)) (fun h=>rg<|j6 1 h (fun h=>rg<|l8 b3T b98 2 h fun b1Y h=>j6 3 h (fun h=>l8 a3R a4N 6 h fun d39 h=>j6 8 h (fun h=>fE h) (fun h=>fE h)) (fun h=>fE h)) (fun h=>rg<|j6 1 h (fun h=>rg<|l8 a3R a4N 2 h fun c7Z h=>j6 3 h (fun h=>j6 8 h (fun h=>l8 a9a b1j 11 h fun a1a h=>fE h) (fun h=>fE h)) (fun h=>fE h)) (fun h=>rg<|j6 1 h (fun h=>rg<|l8 a3R a4N 2 h fun c8e h=>j6 3 h (fun h=>l8 a3R a4N 6 h fun c6w h=>j6 8 h (fun h=>fE h) (fun h=>fE h)) (fun h=>fE h)) (fun h=>rg<|j6 1 h (fun h=>rg<|l8 a3R a4N 2 h fun c6e h=>j6 3 h (fun h=>l8 a3R a4N 6 h fun c8D h=>j6 8 h (fun h=>fE h) (fun h=>fE h)) (fun h=>fE h)) (fun h=>rg<|j6 1 h (fun h=>rg<|l8 a3R a4N 2 h fun c8Y h=>j6 3 h (fun h=>l8 a3R a4N 6 h fun d0L h=>j6 8 h (fun h=>j6 13 h (fun h=>fE h) (fun h=>fE h)) (fun h=>fE h)) (fun h=>fE h)) (fun h=>rg<|j6 1 h (fun h=>rg<|j6 3 h (fun h=>j6 8 h (fun h=>fE h) (fun h=>fE h)) (fun h=>fE h)) (fun h=>rg<|fE h)))))))
def a4R:FS (Bool):=⟨61,Tryz.f61,[.val [] []],[none],[.val [some 4] []],fun r=>.b r,fun _=>[none],Tryz.func61⟩
def d3d:Unit->KS:=fun _=>⟨a4R.k 4 [false,false],(bs 19 []),[some []]⟩
def c6X:Option Bool:=
 some true
theorem e0n(r):NF a4R r d3d (fun s=>c6X):=fun _ h=>PK<|rg<|fE h
def e9e(list:List n9):Int->KS:=fun i=>⟨a4R.k 3 [false],(j8 4 A0 list::(bs 2 (vi i::(bs 15 [])))),[some []]⟩
def b58(list:List n9)(i:Int):Option (l7 Bool Int Unit):=
 (bif decide (i<(list.length:Int)) then ((idx list i).bind fun ins=>((b42 ins).bind fun d6u=>(bif (!d6u) then some (l7.ret false) else some (l7.nxt (m8 (i+1)))))) else some (l7.brk ()))
theorem e4T(list):LQ a4R d3d (e9e list) (fun s=>b58 list s):=fun lc i h=>PK<|rg<|j6 3 h (fun h=>rg<|u9 A0 2 h fun ins hins h=>l8 d1T d9I 4 h fun d6u h=>j6 5 h (fun h=>rg<|fL lc h) (fun h=>rg<|(lc.nx h fun hI=>sk [] [0,3] [] hI))) (fun h=>(lc.bk h fun hI=>sk [] [] [] hI))
def b1m(list:List n9):Option Bool:=
 (bif decide ((list.length:Int)>10) then some false else ((o9 (fun s:Int=>b58 list s) 0).bind fun x=>x.go (fun r=>some r) fun s=>c6X))
theorem c2E{list}:OK a4R [j8 4 A0 list] (b1m list):=
 o8 _ fun r h=>n7<|j6 2 h (fun h=>rg<|fE h) (fun h=>rg<|lp (e4T list) h (fun _ h=>a4R.rt h) (e0n r) fun hI=>sk [] [0,3] [] hI)
def d6p:FS (Bool):=⟨108,Tryz.f108,[.val [] []],[none],[.val A8 []],fun r=>.b r,fun _=>[none],Tryz.func108⟩
def b7X(n:j7):Option Bool:=
 (bif (!n.i9) then (bif ((n.i7.length:Int)==0) then ((a5r n.b7).bind fun l7None=>some l7None) else some false) else ((b1m n.i7).bind fun E4=>(bif E4 then ((a1m n.b7).bind fun E5=>(bif E5 then (bif (!n.b7.i8) then some (([n.b7.a0.c8,n.b7.a0.Seq]:List Int)==[n.Id,n.Seq]) else some false) else some false)) else some false)))
theorem e0H{n}:OK d6p [.agg (w9 n)] (b7X n):=
 o8 _ fun r h=>n7<|j6 2 h (fun h=>rg<|j6 4 h (fun h=>l8 a7H a9N 7 h fun l7None h=>fE h) (fun h=>fE h)) (fun h=>rg<|l8 a4R c2E 2 h fun E4 h=>j6 3 h (fun h=>l8 a2n a3d 6 h fun E5 h=>j6 8 h (fun h=>j6 14 h (fun h=>fE h) (fun h=>fE h)) (fun h=>fE h)) (fun h=>fE h))
def a2o:FS (Bool):=⟨58,Tryz.f58,[.val [] []],[none],[.val A8 []],fun r=>.b r,fun _=>[none],Tryz.func58⟩
def d4q:Unit->KS:=fun _=>⟨a2o.k 4 [false,false],(bs 72 []),[some []]⟩
def c4L:Option Bool:=
 some true
theorem e5U(r):NF a2o r d4q (fun s=>c4L):=fun _ h=>PK<|rg<|fE h
def e89(n:j7):Int->KS:=fun i=>⟨a2o.k 3 [false],(bs 1 (.ptr 1 0 0::(bs 1 (vi i::(bs 68 []))))),[some [],some [.var 52 (Y2 n)]]⟩
def b5C(n:j7)(i:Int):Option (l7 Bool Int Unit):=
 (bif decide (i<(n.d9.length:Int)) then ((idx n.d9 i).bind fun entry=>((a1m entry).bind fun E5=>(bif (!E5) then some (l7.ret false) else (bif entry.i8 then some (l7.ret false) else some (l7.nxt (m8 (i+1))))))) else some (l7.brk ()))
theorem f5I(n):LQ a2o d4q (e89 n) (fun s=>b5C n s):=fun lc i h=>PK<|rg<|j6 4 h (fun h=>rg<|u9 t6 3 h fun entry G9 h=>l8 a2n a3d 5 h fun E5 h=>j6 7 h (fun h=>rg<|fL lc h) (fun h=>I8 t6 11 G9<|j6 14 h (fun h=>rg<|fL lc h) (fun h=>rg<|(lc.nx h fun hI=>sk [] [1,3] [(1,0)] hI)))) (fun h=>(lc.bk h fun hI=>sk [] [] [] hI))
def a5c(n:j7):Option Bool:=
 (bif decide (n.Id<0) then some false else (bif decide (n.Id>=3) then some false else ((b5T n.Acc).bind fun P9=>(bif (!P9) then some false else ((b6D n.a5).bind fun c8P=>(bif (!c8P) then some false else (bif decide (n.Seq<0) then some false else (bif decide (n.Seq>1000) then some false else (bif decide ((n.d9.length:Int)>4) then some false else ((b8e n).bind fun d2a=>(bif (!d2a) then some false else ((b7X n).bind fun c6o=>(bif (!c6o) then some false else ((o9 (fun s:Int=>b5C n s) 0).bind fun x=>x.go (fun r=>some r) fun s=>c4L))))))))))))))
theorem a9A{n}:OK a2o [.agg (w9 n)] (a5c n):=
 o8 _ fun r h=>n7<|j6 3 h (fun h=>rg<|fE h) (fun h=>j6 8 h (fun h=>rg<|fE h) (fun h=>l8 a7L e3A 11 h fun P9 h=>j6 14 h (fun h=>rg<|fE h) (fun h=>l8 a7l e4m 17 h fun c8P h=>j6 20 h (fun h=>rg<|fE h) (fun h=>j6 25 h (fun h=>rg<|fE h) (fun h=>j6 30 h (fun h=>rg<|fE h) (fun h=>j6 36 h (fun h=>rg<|fE h) (fun h=>l8 c8C e3e 38 h fun d2a h=>j6 41 h (fun h=>rg<|fE h) (fun h=>l8 d6p e0H 43 h fun c6o h=>j6 45 h (fun h=>rg<|fE h) (fun h=>rg<|lp (f5I n) h (fun _ h=>a2o.rt h) (e5U r) fun hI=>sk [] [1,3] [(1,0)] hI)))))))))
def d5P:FS (z4):=⟨115,Tryz.f115,[.val [none,some 8] [none,some 108]],[none],[.val [none,some 8] []],fun r=>.agg [vi r.i4,v5 108 8 p9 r.a7],fun _=>[none],Tryz.func115⟩
def c0Z(a:z4):Option z4:=
 ((a8Q a.a7).bind fun X3=>some (z4.mk a.i4 X3))
theorem e76{a}:OK d5P [.agg (Z1 a)] (c0Z a):=
 o8 _ fun r h=>n7<|l8 a3O b68 4 h fun X3 h=>s9 X3<|fE h
def a6J:FS (List m6):=⟨116,Tryz.f116,[.val [some 7] [some 50]],[none],[.val [some 7] []],fun r=>v5 50 7 t6 r,fun _=>[none],Tryz.func116⟩
def d3X:(List m6)->KS:=fun out1=>⟨a6J.k 4 [false],(bs 3 (.own 1 0 7 0 out1.length::(bs 17 []))),[some [],some [m7 50 7 t6 out1]]⟩
def d3Y(out1:List m6):Option (List m6):=
 some out1
theorem e0N(r):NF a6J r d3X (fun s=>d3Y s):=fun out1 h=>PK<|rg<|s9 out1<|fE h
def e8W(list:List m6):((List m6)×Int)->KS:=fun (out,i)=>⟨a6J.k 3 [],(j8 7 t6 list::(bs 2 (.own 1 0 7 0 out.length::(vi i::(bs 16 []))))),[some [],some [m7 50 7 t6 out]]⟩
def b28(list:List m6)(out:List m6)(i:Int):Option (l7 (List m6) ((List m6)×Int) (List m6)):=
 (bif decide (i<(list.length:Int)) then ((idx list i).bind fun entry=>((X0 entry).bind fun l5Entry=>(t5 ((out.length+1)*88<=140737488355328) (some (l7.nxt (out++[l5Entry],m8 (i+1))))))) else some (l7.brk out))
theorem e6V(list):LQ a6J d3X (e8W list) (fun s=>b28 list s.1 s.2):=fun lc (out,i) h=>PK<|rg<|j6 3 h (fun h=>rg<|u9 t6 3 h fun entry G9 h=>l8 a0C a0W 5 h fun l5Entry h=>tk 6 K4<|u0 h fun e1 h=>F9 7 13 50 7 88 t6 out l5Entry e1<|E8 l5Entry<|rg<|(lc.nx h fun hI=>sk [] [0,3,4] [(13,0)] hI)) (fun h=>(lc.bk h fun hI=>sk [] [3] [(1,0)] hI))
def b1D(list:List m6):Option (List m6):=
 ((o9 (fun s:(List m6)×Int=>b28 list s.1 s.2) (([]:List m6),0)).bind fun x=>x.go (fun r=>some r) fun s=>d3Y s)
theorem d0u{list}:OK a6J [j8 7 t6 list] (b1D list):=
 o8 _ fun r h=>n7<|tk 0 K4<|rg<|lp (e6V list) h (fun _ h=>a6J.rt h) (e0N r) fun hI=>om ((.own 2 0 7 0 0:V)=.own 2 0 7 0 ([]:List m6).length) (by simp)<|sk [.is (.tmp 3) (.own 2 0 7 0 ([]:List m6).length)] [0,3,4] [(2,0)] hI
def a9Q:FS (j7):=⟨63,Tryz.f63,[.val A8 G7],[none],[.val A8 []],fun r=>.agg (H3 r),fun _=>[none],Tryz.func63⟩
def a6A(n:j7):Option j7:=
 ((c0Z n.Acc).bind fun c5G=>((b1D n.a5).bind fun c3J=>(t5 ((([]:List Bool).length+n.c9.length)*1<=140737488355328) (((a8Q n.i5).bind fun X3=>((X0 n.d6).bind fun l5Entry=>(t5 ((([]:List Bool).length+n.a7.length)*1<=140737488355328) ((t5 ((([]:List n9).length+n.i7.length)*32<=140737488355328) (((X0 n.b7).bind fun b2G=>((b1D n.d9).bind fun c5t=>some (j7.mk n.Id c5G c3J n.Seq n.d8 n.a8 (([]:List Bool)++n.c9) X3 l5Entry (([]:List Bool)++n.a7) n.i9 (([]:List n9)++n.i7) b2G c5t)))))))))))))
set_option maxRecDepth 20000 in
theorem b2m{n}:OK a9Q [.agg (w9 n)] (a6A n):=
 o8 _ fun r h=>N7<|l8 d5P e76 2 h fun c5G h=>rg<|l8 a6J d0u 2 h fun c3J h=>rg<|tk 0 []<|u0 h fun e1 h=>oa 19 0 1 ([]:List Bool) n.c9<|oz 4 1 eB ([]:List Bool) n.c9<|C1 Bool<|ob e1<|tl (3,{v:=some (.own 19 0 1 0 (([]:List Bool)++n.c9).length),e:=some (m7 4 1 eB (([]:List Bool)++n.c9))})<|rg<|l8 a3O b68 2 h fun X3 h=>rg<|l8 a0C a0W 2 h fun l5Entry h=>rg<|tk 0 []<|u0 h fun e2 h=>oa 35 0 1 ([]:List Bool) n.a7<|oz 4 1 eB ([]:List Bool) n.a7<|C1 Bool<|ob e2<|tl (3,{v:=some (.own 35 0 1 0 (([]:List Bool)++n.a7).length),e:=some (m7 4 1 eB (([]:List Bool)++n.a7))})<|rg<|tk 0 []<|u0 h fun e3 h=>oa 41 0 4 ([]:List n9) n.i7<|oz 82 4 A0 ([]:List n9) n.i7<|C1 n9<|ob e3<|tl (3,{v:=some (.own 41 0 4 0 (([]:List n9)++n.i7).length),e:=some (m7 82 4 A0 (([]:List n9)++n.i7))})<|rg<|l8 a0C a0W 2 h fun b2G h=>rg<|l8 a6J d0u 2 h fun c5t h=>rg<|H0 c5G.a7 c3J (([]:List Bool)++n.c9) X3<|X8 (([]:List Bool)++n.a7) (([]:List n9)++n.i7) c5t<|fE h
def a73:FS (u7):=⟨208,Tryz.f208,[.val [none,some 2,some 4] [none,some 156,none]],[none],[.val [some 7] []],fun r=>.agg (b2s r),fun _=>[none],Tryz.func208⟩
def c7z:((List n8)×Int×List s7)->KS:=fun (Boxes1,sAt1,sDones1)=>⟨a73.k 5 [false,false],(bs 2 (.ptr 1 0 0::(.ptr 2 0 0::(bs 32 [])))),[some [],some [.var 123 [vi 0,.nil,.nil]],some [.var 123 [vi sAt1,.own 3 0 2 0 Boxes1.length,j8 4 B7 sDones1]],some [m7 156 2 z7 Boxes1]]⟩
def c94(Boxes1:List n8)(sAt1:Int)(sDones1:List s7):Option u7:=
 some (u7.mk sAt1 Boxes1 sDones1)
theorem d7K(r):NF a73 r c7z (fun s=>c94 s.1 s.2.1 s.2.2):=fun (Boxes1,sAt1,sDones1) h=>PK<|rg<|s9 Boxes1<|fE h
def e8I(list:List m6):((List n8)×Int×Int×List s7)->KS:=fun (g9,i,sAt,sDones)=>⟨a73.k 4 [false],(j8 7 t6 list::(bs 1 (.ptr 1 0 0::(.ptr 2 0 0::(vi i::(bs 31 [])))))),[some [],some [.var 123 [vi 0,.nil,.nil]],some [.var 123 [vi sAt,.own 3 0 2 0 g9.length,j8 4 B7 sDones]],some [m7 156 2 z7 g9]]⟩
def a99(list:List m6)(g9:List n8)(i:Int)(sAt:Int)(sDones:List s7):Option (l7 u7 ((List n8)×Int×Int×List s7) ((List n8)×Int×List s7)):=
 (bif decide (i<(list.length:Int)) then ((idx list i).bind fun entry=>((a1m entry).bind fun E5=>(bif (!E5) then some (l7.ret (u7.mk 0 [] [])) else ((b29 (u7.mk sAt g9 sDones) entry).bind fun V9=>some (l7.nxt (V9.1.g9,m8 (i+1),V9.1.At,V9.1.j4)))))) else some (l7.brk (g9,sAt,sDones)))
theorem e9w(list):LQ a73 c7z (e8I list) (fun s=>a99 list s.1 s.2.1 s.2.2.1 s.2.2.2):=fun lc (g9,i,sAt,sDones) h=>PK<|rg<|j6 3 h (fun h=>rg<|u9 t6 2 h fun entry G9 h=>l8 a2n a3d 4 h fun E5 h=>j6 5 h (fun h=>rg<|fL lc h) (fun h=>rg<|I8 t6 3 G9<|l8 a4J c6p 5 h fun V9 h=>s9 g9<|n7<|(lc.nx h fun hI=>sk [] [0,2,3,4] [(1,0),(2,0),(19,0)] hI))) (fun h=>(lc.bk h fun hI=>sk [] [2,3] [(1,0),(2,0),(3,0)] hI))
def b9X(list:List m6):Option u7:=
 ((b12).bind fun a1p=>(bif decide ((list.length:Int)>40) then some (u7.mk 0 [] []) else ((o9 (fun s:(List n8)×Int×Int×List s7=>a99 list s.1 s.2.1 s.2.2.1 s.2.2.2) (a1p.g9,0,a1p.At,a1p.j4)).bind fun x=>x.go (fun r=>some r) fun s=>c94 s.1 s.2.1 s.2.2)))
theorem e5j{list}:OK a73 [j8 7 t6 list] (b9X list):=
 o8 _ fun r h=>n7<|l8 c43 c84 0 h fun a1p h=>rg<|j6 2 h (fun h=>rg<|fE h) (fun h=>rg<|lp (e9w list) h (fun _ h=>a73.rt h) (d7K r) fun hI=>sk [] [0,2,3,4] [(1,0),(3,0),(2,0)] hI)
def d1f:FS (u7):=⟨181,Tryz.f181,[.val [none,some 2,some 4] []],[none],[.val A8 []],fun r=>.agg (a86 r),fun _=>[none],Tryz.func181⟩
def b80(n:j7):Option u7:=
 ((a5c n).bind fun D6=>(bif (!D6) then some (u7.mk 0 [] []) else ((b9X n.a5).bind fun a2Y=>some a2Y)))
theorem e4b{n}:OK d1f [.agg (w9 n)] (b80 n):=
 o8 _ fun r h=>n7<|l8 a2o a9A 1 h fun D6 h=>j6 2 h (fun h=>rg<|fE h) (fun h=>rg<|l8 a73 e5j 2 h fun a2Y h=>s9 a2Y.g9<|fE h)
def b6w:FS (Int×n6):=⟨212,Tryz.f212,[.val [] [],.val O6 om5],[none,none,none],[.val [some 2] [],.val O6 om5,.val [] []],fun r=>.tup [vi r.1,.agg (a6b r.2)],fun _=>[none,none,none],Tryz.func212⟩
def e8J(list:List n8)(r_:n6)(box:Int):(List r9)->KS:=fun b5=>⟨b6w.k 5 [false,true],(j8 2 z7 list::(bs 1 (vi box::(bs 1 (.ptr 1 0 0::(bs 2 (.ptr 3 0 0::(bs 37 [])))))))),[some [.dead,m7 183 2 w8 r_.b6],some [.var 48 [.own 2 0 2 0 b5.length,.own 0 1 2 0 r_.b6.length,vi r_.g7,vi r_.Code]],some [m7 180 2 w6 b5],some [.var 48 [.nil,.nil,vi 0,vi 0]]]⟩
def c5J(list:List n8)(r_:n6)(box:Int)(b5:List r9):Option (Int×n6):=
 ((idx list box).bind fun T9=>some (T9.g7,(n6.mk b5 r_.b6 r_.g7 r_.Code)))
theorem e9W(list r_ box)(r):NF b6w r (e8J list r_ box) (fun s=>c5J list r_ box s):=fun b5 h=>PK<|rg<|u9 z7 2 h fun T9 a7G h=>C7 b5 r_.b6<|fE h
def c4a(list:List n8)(r_:n6)(box:Int):Option (Int×n6):=
 ((a6i r_.b6 box).bind fun a2A=>(bif decide (a2A>=0) then ((idx r_.b6 a2A).bind fun put=>some (put.g7,r_)) else ((((b3Q r_.b5 box).bind fun b2k=>(bif (!b2k) then ((idx list box).bind fun b5S=>(t5 ((r_.b5.length+1)*16<=140737488355328) (some (m5.brk (r_.b5++[(r9.mk box b5S.j5)]))))) else some (m5.brk r_.b5))):Option (m5 (Int×n6) (List r9))).bind fun x=>x.go some fun j=>c5J list r_ box j)))
theorem e5J{list r_ box}:OK b6w [j8 2 z7 list,.agg (a6b r_),vi box] (c4a list r_ box):=
 o8 _ fun r h=>n7<|R8 a5v c0Q 3 2 h fun a2A h=>s9 r_.b6<|rg<|j6 1 h (fun h=>rg<|A7 h fun put hput h=>B5 hput<|H9 w8 5 hput<|olR r_<|fE h) (fun h=>A9 h (e9W list r_ box r) fun x1 h hc1=>rg<|R8 a59 c85 3 2 h fun b2k h=>s9 r_.b5<|j6 4 h (fun h=>rg<|u9 z7 5 h fun b5S f5R h=>tk 9 []<|u0 h fun e1 h=>F9 10 26 180 2 16 w6 r_.b5 (r9.mk box b5S.j5) e1<|E8 (r9.mk box b5S.j5)<|(p8 h hc1 fun hI=>sk [] [0,2,4,7] [(1,0),(26,0),(3,0)] hI)) (fun h=>(p8 h hc1 fun hI=>sk [] [0,2,4,7] [(1,0),(0,0),(3,0)] hI)))
def c6V:FS (n6):=⟨213,Tryz.f213,[.val O6 om5],[none,none,none],[.val O6 om5,.val [] [],.val [] []],fun r=>.agg (a6b r),fun _=>[none,none,none],Tryz.func213⟩
def c09(r_:n6)(box:Int)(val:Int):Option n6:=
 ((a6i r_.b6 box).bind fun a2A=>(bif decide (a2A>=0) then ((idx r_.b6 a2A).bind fun put=>some (n6.mk r_.b5 (r_.b6.set a2A.toNat (p7.mk put.i6 val)) r_.g7 r_.Code)) else (t5 ((r_.b6.length+1)*16<=140737488355328) (some (n6.mk r_.b5 (r_.b6++[(p7.mk box val)]) r_.g7 r_.Code)))))
theorem f0x{r_ box val}:OK c6V [.agg (a6b r_),vi box,vi val] (c09 r_ box val):=
 o8 _ fun r h=>n7<|R8 a5v c0Q 3 2 h fun a2A h=>s9 r_.b6<|rg<|j6 1 h (fun h=>rg<|A7 h fun put hput h=>B5 hput<|Q6 183 2 w8 6 [] (p7.mk put.i6 val) hput<|rg<|s9 r_.b5<|om (r_.b6.length=(r_.b6.set a2A.toNat (p7.mk put.i6 val)).length) (by simp)<|fE h) (fun h=>rg<|tk 5 []<|u0 h fun e1 h=>F9 6 16 183 2 16 w8 r_.b6 (p7.mk box val) e1<|E8 (p7.mk box val)<|rg<|C7 r_.b5 (r_.b6++[(p7.mk box val)])<|fE h)
def b1h:FS (n6×List Int):=⟨207,Tryz.f207,[.val O6 om5],[none,none,some (2,.row),none],[.val [some 2] [],.val O6 om5,.row,.val [] []],fun r=>.agg (a6b r.1),fun r=>[none,none,some (v5 3 1 eI r.2),none],Tryz.func207⟩
def d7p(i:n9):((List Int)×(List r9)×(List p7)×Int×Int)->KS:=fun (regs1,b5,b6,rVal,rCode)=>⟨b1h.k 6 [true],(bs 2 (.own 0 2 1 0 regs1.length::(bs 2 (.ptr 1 0 0::(bs 1 (.ptr 4 0 0::(.ptr 5 0 0::(bs 90 [])))))))),[some [.dead,.dead,m7 3 1 eI regs1],some [.var 48 [.own 2 0 2 0 b5.length,.own 3 0 2 0 b6.length,vi rVal,vi rCode]],some [m7 180 2 w6 b5],some [m7 183 2 w8 b6],some [.var 82 [vi i.a9,vi i.A,vi i.B,vi i.N]],some [.var 48 [.nil,.nil,vi 0,vi 0]]]⟩
def e7L(regs1:List Int)(b5:List r9)(b6:List p7)(rVal:Int):Int->KS:=fun rCode1=>⟨b1h.k 8 [true,true],(bs 5 (.ptr 1 0 0::(bs 2 (.ptr 4 0 0::(bs 90 []))))),[some [.dead,.dead,m7 3 1 eI regs1],some [.var 48 [.own 2 0 2 0 b5.length,.own 3 0 2 0 b6.length,vi rVal,vi rCode1]],some [m7 180 2 w6 b5],some [m7 183 2 w8 b6],some [.var 48 [.nil,.nil,vi 0,vi 0]]]⟩
def b36(regs1:List Int)(b5:List r9)(b6:List p7)(rVal:Int)(rCode1:Int):Option (n6×List Int):=
 some ((n6.mk b5 b6 rVal rCode1),regs1)
theorem e3O(regs1 b5 b6 rVal)(r):NF b1h r (e7L regs1 b5 b6 rVal) (fun s=>b36 regs1 b5 b6 rVal s):=fun rCode1 h=>PK<|rg<|X8 b5 b6 regs1<|fE h
def a8D(i:n9)(regs1:List Int)(b5:List r9)(b6:List p7)(rVal:Int)(rCode:Int):Option (n6×List Int):=
 (((bif (i.a9 != 2) then ((idx regs1 i.A).bind fun y=>((a5P y).bind fun a1a=>(bif (!a1a) then some (m5.brk 2) else some (m5.brk rCode)))) else some (m5.brk rCode)):Option (m5 (n6×List Int) Int)).bind fun x=>x.go some fun j=>b36 regs1 b5 b6 rVal j)
theorem f1r(i)(r):NF b1h r (d7p i) (fun s=>a8D i s.1 s.2.1 s.2.2.1 s.2.2.2.1 s.2.2.2.2):=fun (regs1,b5,b6,rVal,rCode) h=>PK<|A9 h (e3O regs1 b5 b6 rVal r) fun x1 h hc1=>rg<|j6 3 h (fun h=>A7 h fun y hy h=>B5 hy<|H9 eI 8 hy<|l8 a9a b1j 9 h fun a1a h=>j6 11 h (fun h=>rg<|(p8 h hc1 fun hI=>sk [] [5,8] [(1,0),(2,0),(3,0),(5,0)] hI)) (fun h=>(p8 h hc1 fun hI=>sk [] [5,8] [(1,0),(2,0),(3,0),(5,0)] hI))) (fun h=>(p8 h hc1 fun hI=>sk [] [5,8] [(1,0),(2,0),(3,0),(5,0)] hI))
def a9J(list:List n8)(r_:n6)(regs:List Int)(i:n9):Option (n6×List Int):=
 (((bif (i.a9==1) then ((c4a list r_ i.B).bind fun a42=>((idx regs i.A).bind fun y1=>some (m5.brk (regs.set i.A.toNat a42.1,a42.2.b5,a42.2.b6,a42.2.g7,a42.2.Code)))) else (bif (i.a9==2) then ((idx regs i.B).bind fun y2=>((c09 r_ i.A y2).bind fun b4P=>some (m5.brk (regs,b4P.b5,b4P.b6,b4P.g7,b4P.Code)))) else (bif (i.a9==3) then ((idx regs i.A).bind fun y3=>some (m5.brk (regs.set i.A.toNat i.N,r_.b5,r_.b6,r_.g7,r_.Code))) else (bif (i.a9==4) then ((idx regs i.A).bind fun y4=>((idx regs i.B).bind fun y5=>some (m5.brk (regs.set i.A.toNat (m8 (y4+y5)),r_.b5,r_.b6,r_.g7,r_.Code)))) else (bif (i.a9==5) then ((idx regs i.A).bind fun y6=>((idx regs i.B).bind fun y7=>some (m5.brk (regs.set i.A.toNat (m8 (y6-y7)),r_.b5,r_.b6,r_.g7,r_.Code)))) else (bif (i.a9==7) then some (m5.brk (regs,r_.b5,r_.b6,r_.g7,1)) else some (m5.brk (regs,r_.b5,r_.b6,r_.g7,r_.Code)))))))):Option (m5 (n6×List Int) ((List Int)×(List r9)×(List p7)×Int×Int))).bind fun x=>x.go some fun j=>a8D i j.1 j.2.1 j.2.2.1 j.2.2.2.1 j.2.2.2.2)
set_option maxRecDepth 20000 in
theorem e6m{list r_ regs i}:OK b1h [j8 2 z7 list,.agg (a6b r_),v5 3 1 eI regs,.agg (A0 i)] (a9J list r_ regs i):=
 o8 _ fun r h=>n7<|A9 h (f1r i r) fun x1 h hc1=>rg<|j6 1 h (fun h=>rg<|l8 b6w e5J 4 h fun a42 h=>olR r_<|rg<|A7 h fun y1 hy1 h=>B5 hy1<|Q6 3 1 eI 5 [] a42.1 hy1<|rg<|(p8 h hc1 fun hI=>om ((.own 0 2 1 0 regs.length:V)=.own 0 2 1 0 (regs.set i.A.toNat a42.1).length) (by simp)<|sk [.is (.tmp 2) (.own 0 2 1 0 (regs.set i.A.toNat a42.1).length)] [2,5,7,8] [(1,0),(12,0),(12,1),(2,0),(3,0)] hI)) (fun h=>rg<|j6 1 h (fun h=>rg<|A7 h fun y2 hy2 h=>B5 hy2<|H9 eI 7 hy2<|l8 c6V f0x 8 h fun b4P h=>olR r_<|(p8 h hc1 fun hI=>sk [] [2,5,7,8] [(1,0),(18,0),(18,1),(2,0),(3,0)] hI)) (fun h=>rg<|j6 1 h (fun h=>rg<|A7 h fun y3 hy3 h=>B5 hy3<|Q6 3 1 eI 6 [] i.N hy3<|(p8 h hc1 fun hI=>om ((.own 0 2 1 0 regs.length:V)=.own 0 2 1 0 (regs.set i.A.toNat i.N).length) (by simp)<|sk [.is (.tmp 2) (.own 0 2 1 0 (regs.set i.A.toNat i.N).length)] [2,5,7,8] [(1,0),(0,0),(0,1),(2,0),(3,0)] hI)) (fun h=>rg<|j6 1 h (fun h=>rg<|A7 h fun y4 hy4 h=>B5 hy4<|H9 eI 7 hy4<|A7 h fun y5 hy5 h=>B5 hy5<|H9 eI 12 hy5<|B5 hy4<|Q6 3 1 eI 15 [] (m8 (y4+y5)) hy4<|(p8 h hc1 fun hI=>om ((.own 0 2 1 0 regs.length:V)=.own 0 2 1 0 (regs.set i.A.toNat (m8 (y4+y5))).length) (by simp)<|sk [.is (.tmp 2) (.own 0 2 1 0 (regs.set i.A.toNat (m8 (y4+y5))).length)] [2,5,7,8] [(1,0),(0,0),(0,1),(2,0),(3,0)] hI)) (fun h=>rg<|j6 1 h (fun h=>rg<|A7 h fun y6 hy6 h=>B5 hy6<|H9 eI 7 hy6<|A7 h fun y7 hy7 h=>B5 hy7<|H9 eI 12 hy7<|B5 hy6<|Q6 3 1 eI 15 [] (m8 (y6-y7)) hy6<|(p8 h hc1 fun hI=>om ((.own 0 2 1 0 regs.length:V)=.own 0 2 1 0 (regs.set i.A.toNat (m8 (y6-y7))).length) (by simp)<|sk [.is (.tmp 2) (.own 0 2 1 0 (regs.set i.A.toNat (m8 (y6-y7))).length)] [2,5,7,8] [(1,0),(0,0),(0,1),(2,0),(3,0)] hI)) (fun h=>rg<|j6 1 h (fun h=>rg<|(p8 h hc1 fun hI=>sk [] [2,5,7,8] [(1,0),(0,0),(0,1),(2,0),(3,0)] hI)) (fun h=>(p8 h hc1 fun hI=>sk [] [2,5,7,8] [(1,0),(0,0),(0,1),(2,0),(3,0)] hI)))))))
def a40:FS (n6):=⟨180,Tryz.f180,[.val O6 om5],[none,none],[.val [some 2] [],.val [some 4] []],fun r=>.agg (a6b r),fun _=>[none,none],Tryz.func180⟩
def c3K:((List r9)×(List p7)×(List Int)×Int×Int)->KS:=fun (Reads1,Puts1,regs1,rVal1,rCode1)=>⟨a40.k 6 [false,false],(bs 4 (.ptr 1 0 0::(.ptr 2 0 0::(.own 5 0 1 0 regs1.length::(bs 61 []))))),[some [],some [.var 48 [.nil,.nil,vi 0,vi 0]],some [.var 48 [.own 3 0 2 0 Reads1.length,.own 4 0 2 0 Puts1.length,vi rVal1,vi rCode1]],some [m7 180 2 w6 Reads1],some [m7 183 2 w8 Puts1],some [m7 3 1 eI regs1]]⟩
def a9d(Reads1:List r9)(Puts1:List p7)(regs1:List Int)(rVal1:Int)(rCode1:Int):Option n6:=
 (bif (rCode1 != 0) then some (n6.mk Reads1 [] rVal1 rCode1) else ((idx regs1 0).bind fun y=>some (n6.mk Reads1 Puts1 y rCode1)))
theorem f4g(r):NF a40 r c3K (fun s=>a9d s.1 s.2.1 s.2.2.1 s.2.2.2.1 s.2.2.2.2):=fun (Reads1,Puts1,regs1,rVal1,rCode1) h=>PK<|rg<|j6 2 h (fun h=>n7<|s9 Reads1<|fE h) (fun h=>rg<|A7 h fun y hy h=>B5 hy<|H9 eI 2 hy<|rg<|C7 Reads1 Puts1<|fE h)
def d6n(list:List n8)(prog:List n9):((List Int)×(List r9)×(List p7)×Int×Int×Int)->KS:=fun (regs,b5,b6,k,rVal,rCode)=>⟨a40.k 5 [false],(j8 2 z7 list::(j8 4 A0 prog::(bs 2 (.ptr 1 0 0::(.ptr 2 0 0::(.own 3 0 1 0 regs.length::(vi k::(bs 60 [])))))))),[some [],some [.var 48 [.nil,.nil,vi 0,vi 0]],some [.var 48 [.own 4 0 2 0 b5.length,.own 5 0 2 0 b6.length,vi rVal,vi rCode]],some [m7 3 1 eI regs],some [m7 180 2 w6 b5],some [m7 183 2 w8 b6]]⟩
def f4k(list:List n8)(prog:List n9)(regs:List Int)(b5:List r9)(b6:List p7)(rVal:Int)(rCode:Int):Int->KS:=fun k1=>⟨a40.k 10 [false,true,true,true],(j8 2 z7 list::(j8 4 A0 prog::(bs 2 (.ptr 1 0 0::(.ptr 2 0 0::(.own 5 0 1 0 regs.length::(vi k1::(bs 60 [])))))))),[some [],some [.var 48 [.nil,.nil,vi 0,vi 0]],some [.var 48 [.own 3 0 2 0 b5.length,.own 4 0 2 0 b6.length,vi rVal,vi rCode]],some [m7 180 2 w6 b5],some [m7 183 2 w8 b6],some [m7 3 1 eI regs]]⟩
def c1E(regs:List Int)(b5:List r9)(b6:List p7)(rVal:Int)(rCode:Int)(k1:Int):Option (l7 n6 ((List Int)×(List r9)×(List p7)×Int×Int×Int) ((List r9)×(List p7)×(List Int)×Int×Int)):=
 some (l7.nxt (regs,b5,b6,m8 (k1+1),rVal,rCode))
theorem f3A(list prog regs b5 b6 rVal rCode)(lc:F8 a40 c3K (d6n list prog)):NL lc (f4k list prog regs b5 b6 rVal rCode) (fun s=>c1E regs b5 b6 rVal rCode s):=fun k1 h=>PK<|rg<|(lc.nx h fun hI=>sk [] [0,1,4,5,6,7] [(1,0),(2,0),(5,0),(3,0),(4,0)] hI)
def a1Z(list:List n8)(prog:List n9)(regs:List Int)(b5:List r9)(b6:List p7)(k:Int)(rVal:Int)(rCode:Int):Option (l7 n6 ((List Int)×(List r9)×(List p7)×Int×Int×Int) ((List r9)×(List p7)×(List Int)×Int×Int)):=
 (bif decide (k<(prog.length:Int)) then (bif (rCode==0) then ((idx prog k).bind fun ins=>(bif (ins.a9==6) then ((((idx regs ins.A).bind fun y1=>((idx regs ins.B).bind fun y2=>(bif decide (y1<y2) then some (m5.brk (m8 (k+ins.N))) else some (m5.brk k)))):Option (m5 (l7 n6 ((List Int)×(List r9)×(List p7)×Int×Int×Int) ((List r9)×(List p7)×(List Int)×Int×Int)) Int)).bind fun x=>x.go some fun j=>c1E regs b5 b6 rVal rCode j) else ((a9J list (n6.mk b5 b6 rVal rCode) regs ins).bind fun a4O=>(t5 (regs.length=a4O.2.length) (some (l7.nxt (a4O.2,a4O.1.b5,a4O.1.b6,m8 (k+1),a4O.1.g7,a4O.1.Code))))))) else some (l7.brk (b5,b6,regs,rVal,rCode))) else some (l7.brk (b5,b6,regs,rVal,rCode)))
theorem e7Q(list prog):LQ a40 c3K (d6n list prog) (fun s=>a1Z list prog s.1 s.2.1 s.2.2.1 s.2.2.2.1 s.2.2.2.2.1 s.2.2.2.2.2):=fun lc (regs,b5,b6,k,rVal,rCode) h=>PK<|rg<|j6 4 h (fun h=>j6 8 h (fun h=>rg<|u9 A0 2 h fun ins hins h=>rg<|j6 2 h (fun h=>A9 h (f3A list prog regs b5 b6 rVal rCode lc) fun x2 h hc2=>rg<|A7 h fun y1 hy1 h=>B5 hy1<|H9 eI 4 hy1<|A7 h fun y2 hy2 h=>B5 hy2<|H9 eI 9 hy2<|j6 10 h (fun h=>rg<|(p8 h hc2 fun hI=>sk [] [0,1,4,5,6,7] [(1,0),(2,0),(4,0),(5,0),(3,0)] hI)) (fun h=>(p8 h hc2 fun hI=>sk [] [0,1,4,5,6,7] [(1,0),(2,0),(4,0),(5,0),(3,0)] hI))) (fun h=>rg<|l8 b1h e6m 4 h fun a4O h=>u0 h fun e2 h=>X8 b5 b6 regs<|rg<|(lc.nx h fun hI=>om ((.own 3 0 1 0 regs.length:V)=.own 3 0 1 0 a4O.2.length) (by first|(simp;done)|(simp [e2];done))<|sk [.is (.tmp 6) (.own 3 0 1 0 a4O.2.length)] [0,1,4,5,6,7] [(1,0),(2,0),(3,0),(28,0),(28,1)] hI))) (fun h=>(lc.bk h fun hI=>sk [] [4,5,6] [(1,0),(2,0),(4,0),(5,0),(3,0)] hI))) (fun h=>(lc.bk h fun hI=>sk [] [4,5,6] [(1,0),(2,0),(4,0),(5,0),(3,0)] hI))
def b9c(list:List n8)(prog:List n9):Option n6:=
 ((b4m list).bind fun W1=>(bif (!W1) then some (n6.mk [] [] 0 3) else ((b1m prog).bind fun E4=>(bif (!E4) then some (n6.mk [] [] 0 3) else (t5 (0<=(4:Int)/\(4:Int)*8<=140737488355328) (((o9 (fun s:(List Int)×(List r9)×(List p7)×Int×Int×Int=>a1Z list prog s.1 s.2.1 s.2.2.1 s.2.2.2.1 s.2.2.2.2.1 s.2.2.2.2.2) (f6a (4:Int).toNat (0:Int),[],[],0,0,0)).bind fun x=>x.go (fun r=>some r) fun s=>a9d s.1 s.2.1 s.2.2.1 s.2.2.2.1 s.2.2.2.2)))))))
theorem d9P{list prog}:OK a40 [j8 2 z7 list,j8 4 A0 prog] (b9c list prog):=
 o8 _ fun r h=>n7<|l8 a6N d45 1 h fun W1 h=>j6 3 h (fun h=>rg<|fE h) (fun h=>l8 a4R c2E 5 h fun E4 h=>j6 7 h (fun h=>rg<|fE h) (fun h=>n7<|u0 h fun e1 h=>T3 0 13 3 1 8 eI (0:Int) ti3 (.none) e1 (by decide) (by rfl)<|rg<|lp (e7Q list prog) h (fun _ h=>a40.rt h) (f4g r) fun hI=>sk [.own (.cell 11 0 0) 180 2,.own (.cell 11 0 1) 183 2] [0,1,4,5,6,7] [(1,0),(11,0),(13,0),(16,0),(17,0)] hI))
def c69:FS (j7×(List l9)×List n5):=⟨121,Tryz.f121,[.val A8 G7,.val [some 13] [],.val [some 5] []],[none,none],[.val A8 G7,.val [some 4] []],fun r=>.tup [.agg (H3 r.1),j8 13 s6 r.2.1,j8 5 x8 r.2.2],fun _=>[none,none],Tryz.func121⟩
def b8Y(n:j7)(prog:List n9):Option (j7×(List l9)×List n5):=
 ((a5c n).bind fun D6=>(bif (!D6) then some ((j7.mk 0 (z4.mk 0 []) [] 0 0 0 [] [] (m6.mk false (o7.mk 0 0) (n6.mk [] [] 0 0)) [] false [] (m6.mk false (o7.mk 0 0) (n6.mk [] [] 0 0)) []),([]:List l9),([]:List n5)) else ((a6A n).bind fun l8Copy=>((b80 n).bind fun b2N=>((b9c b2N.g9 prog).bind fun C2=>(bif n.i9 then some (l8Copy,([]:List l9),([]:List n5)) else (bif (n.Seq==1000) then some (l8Copy,([]:List l9),([]:List n5)) else (bif (C2.Code==3) then some (l8Copy,([]:List l9),([]:List n5)) else (t5 ((([]:List n9).length+prog.length)*32<=140737488355328) ((bif (l8Copy.d8==2) then ((a7c (j7.mk l8Copy.Id l8Copy.Acc l8Copy.a5 (m8 (l8Copy.Seq+1)) l8Copy.d8 l8Copy.a8 l8Copy.c9 l8Copy.i5 l8Copy.d6 l8Copy.a7 true (([]:List n9)++prog) (m6.mk false (o7.mk l8Copy.Id (m8 (l8Copy.Seq+1))) C2) l8Copy.d9)).bind fun N8=>some (N8.1,N8.2,([]:List n5))) else (bif (l8Copy.d8==0) then ((a3s l8Copy.Id (l9.mk 7 0 0 0 0 (m6.mk false (o7.mk l8Copy.Id (m8 (l8Copy.Seq+1))) C2) [])).bind fun J4=>some ((j7.mk l8Copy.Id l8Copy.Acc l8Copy.a5 (m8 (l8Copy.Seq+1)) l8Copy.d8 l8Copy.a8 l8Copy.c9 l8Copy.i5 l8Copy.d6 l8Copy.a7 true (([]:List n9)++prog) (m6.mk false (o7.mk l8Copy.Id (m8 (l8Copy.Seq+1))) C2) l8Copy.d9),J4,([]:List n5))) else some ((j7.mk l8Copy.Id l8Copy.Acc l8Copy.a5 (m8 (l8Copy.Seq+1)) l8Copy.d8 l8Copy.a8 l8Copy.c9 l8Copy.i5 l8Copy.d6 l8Copy.a7 true (([]:List n9)++prog) (m6.mk false (o7.mk l8Copy.Id (m8 (l8Copy.Seq+1))) C2) l8Copy.d9),([]:List l9),([]:List n5))))))))))))))
set_option maxRecDepth 20000 in
theorem e1u{n prog}:OK c69 [.agg (H3 n),j8 4 A0 prog] (b8Y n prog):=
 o8 _ fun r h=>n7<|R8 a2o a9A 1 1 h fun D6 h=>A5 n<|j6 2 h (fun h=>rg<|tk 1 B9<|tk 2 []<|C1 l9<|C1 n5<|fE h) (fun h=>rg<|l8 a9Q b2m 1 h fun l8Copy h=>A5 n<|rg<|l8 d1f e4b 1 h fun b2N h=>A5 n<|l8 a40 d9P 4 h fun C2 h=>rg<|j6 2 h (fun h=>rg<|tk 1 B9<|tk 2 []<|A5 l8Copy<|C1 l9<|C1 n5<|fE h) (fun h=>j6 7 h (fun h=>rg<|tk 1 B9<|tk 2 []<|A5 l8Copy<|C1 l9<|C1 n5<|fE h) (fun h=>j6 11 h (fun h=>rg<|tk 1 B9<|tk 2 []<|A5 l8Copy<|C1 l9<|C1 n5<|fE h) (fun h=>N7<|tk 0 []<|u0 h fun e1 h=>oa 40 0 4 ([]:List n9) prog<|oz 82 4 A0 ([]:List n9) prog<|C1 n9<|ob e1<|tl (2,{v:=some (.own 40 0 4 0 (([]:List n9)++prog).length),e:=some (m7 82 4 A0 (([]:List n9)++prog))})<|n7<|j6 2 h (fun h=>rg<|l8 b1a b3g 1 h fun N8 h=>s9 l8Copy.Acc.a7<|H0 l8Copy.a5 l8Copy.c9 l8Copy.a7 (([]:List n9)++prog)<|olR C2<|s9 l8Copy.d9<|rg<|tk 2 []<|A5 N8.1<|C1 n5<|fE h) (fun h=>rg<|j6 2 h (fun h=>rg<|l8 a0k a5N 6 h fun J4 h=>olR C2<|tk 7 []<|s9 l8Copy.Acc.a7<|H0 l8Copy.a5 l8Copy.c9 l8Copy.a7 (([]:List n9)++prog)<|olR C2<|C7 l8Copy.d9 J4<|C1 n5<|fE h) (fun h=>rg<|tk 1 B9<|tk 2 []<|s9 l8Copy.Acc.a7<|H0 l8Copy.a5 l8Copy.c9 l8Copy.a7 (([]:List n9)++prog)<|olR C2<|s9 l8Copy.d9<|C1 l9<|C1 n5<|fE h))))))
def c9s:FS (m4):=⟨66,Tryz.f66,[.val D4 R5],[none,none,none],[.val D4 R5,.val [] [],.val [some 4] []],fun r=>.agg (S4 r),fun _=>[none,none,none],Tryz.func66⟩
def a10(node:j7):List V:=([vi node.Id,vi node.Acc.i4,.own 11 0 8 0 node.Acc.a7.length,.own 11 1 7 0 node.a5.length,vi node.Seq,vi node.d8,vi node.a8,.own 11 2 1 0 node.c9.length]++a6j node++[.own 11 3 1 0 node.a7.length]++a3P node++[.own 11 4 7 0 node.d9.length])
def b8J(I4:j7×(List l9)×List n5):List V:=(a5I I4.1)
def b7W(w:m4)(i:Int)(prog:List n9):Option m4:=
 (bif decide ((w.d7.length:Int)>=60) then some w else ((idx w.a6 i).bind fun node=>((b8Y node prog).bind fun I4=>(bif decide (I4.1.Seq>node.Seq) then (t5 ((([]:List n9).length+prog.length)*32<=140737488355328) ((t5 ((w.d7.length+1)*40<=140737488355328) (((a3q (m4.mk (w.a6.set i.toNat I4.1) w.b9 (w.d7++[(x6.mk I4.1.b7.a0 (([]:List n9)++prog))]) w.Told) I4.2.1).bind fun a2X=>((a3S a2X I4.2.2).bind fun a2Z=>some a2Z)))))) else ((a3q (m4.mk (w.a6.set i.toNat I4.1) w.b9 w.d7 w.Told) I4.2.1).bind fun a3j=>((a3S a3j I4.2.2).bind fun a7v=>some a7v))))))
set_option maxRecDepth 20000 in
theorem e2q{w i prog}:OK c9s [.agg (S4 w),vi i,j8 4 A0 prog] (b7W w i prog):=
 o8 _ fun r h=>n7<|j6 3 h (fun h=>rg<|B0 w<|fE h) (fun h=>rg<|A7 h fun node hnode h=>B5 hnode<|ob (b3j (enc:=z6) hnode)<|tl (4,{a:=.drow (z6 node)})<|l8 c69 e1u 6 h fun I4 h=>A5 node<|rg<|B5 hnode<|om (((w.a6.map z6).set (0+i.toNat) (a10 node))[0+i.toNat]?=some (a10 node)) (a1M (a18 hnode))<|tl (7,{a:=.prow (a10 node)})<|j6 8 h (fun h=>rg<|tk 5 []<|u0 h fun e1 h=>oa 38 0 4 ([]:List n9) prog<|oz 82 4 A0 ([]:List n9) prog<|C1 n9<|ob e1<|tl (7,{v:=some (.own 38 0 4 0 (([]:List n9)++prog).length),e:=some (m7 82 4 A0 (([]:List n9)++prog))})<|s9 (([]:List n9)++prog)<|tk 9 [none,none,some 4]<|u0 h fun e2 h=>F9 10 41 68 3 40 A2 w.d7 (x6.mk I4.1.b7.a0 (([]:List n9)++prog)) e2<|E8 (x6.mk I4.1.b7.a0 (([]:List n9)++prog))<|rg<|B5 hnode<|om (s8.deep false 52 27 w.a6.length (((w.a6.map z6).set (0+i.toNat) (a10 node)).set (0+i.toNat) (b8J I4))=C4 52 27 z6 (w.a6.set i.toNat I4.1)) (a7C (W6 (a0Z rfl)) (by simp))<|om (I2 (((w.a6.map z6).set (0+i.toNat) (a10 node)).set (0+i.toNat) (b8J I4))) (a7V (W6 (a0Z rfl)) a66)<|om (((w.a6.map z6).set (0+i.toNat) (a10 node))[0+i.toNat]?=some (a10 node)) (a1M (a18 hnode))<|A5 I4.1<|tl (5,{a:=.dsc (a10 node) [none,none,some 8,some 7,none,none,none,some 1,some 8,none,none,none,some 2,some 2,none,none,some 1,none,some 4,none,none,none,some 2,some 2,none,none,some 7] [none,none,some 108,some 50,none,none,none,some 4,none,none,none,none,none,none,none,none,some 4,none,none,none,none,none,none,none,none,none,some 50],e:=some (C4 52 27 z6 (w.a6.set i.toNat I4.1))})<|rg<|l8 a1e a6f 2 h fun a2X h=>om (w.a6.length=(w.a6.set i.toNat I4.1).length) (by simp)<|X8 w.b9 (w.d7++[(x6.mk I4.1.b7.a0 (([]:List n9)++prog))]) w.Told<|l8 a1T a8u 4 h fun a2Z h=>B0 a2X<|B0 a2Z<|fE h) (fun h=>rg<|B5 hnode<|om (s8.deep false 52 27 w.a6.length (((w.a6.map z6).set (0+i.toNat) (a10 node)).set (0+i.toNat) (b8J I4))=C4 52 27 z6 (w.a6.set i.toNat I4.1)) (a7C (W6 (a0Z rfl)) (by simp))<|om (I2 (((w.a6.map z6).set (0+i.toNat) (a10 node)).set (0+i.toNat) (b8J I4))) (a7V (W6 (a0Z rfl)) a66)<|om (((w.a6.map z6).set (0+i.toNat) (a10 node))[0+i.toNat]?=some (a10 node)) (a1M (a18 hnode))<|A5 I4.1<|tl (5,{a:=.dsc (a10 node) [none,none,some 8,some 7,none,none,none,some 1,some 8,none,none,none,some 2,some 2,none,none,some 1,none,some 4,none,none,none,some 2,some 2,none,none,some 7] [none,none,some 108,some 50,none,none,none,some 4,none,none,none,none,none,none,none,none,some 4,none,none,none,none,none,none,none,none,none,some 50],e:=some (C4 52 27 z6 (w.a6.set i.toNat I4.1))})<|rg<|l8 a1e a6f 2 h fun a3j h=>om (w.a6.length=(w.a6.set i.toNat I4.1).length) (by simp)<|X8 w.b9 w.d7 w.Told<|l8 a1T a8u 4 h fun a7v h=>B0 a3j<|B0 a7v<|fE h))
def a8d:FS (Int):=⟨122,Tryz.f122,[.val [] []],[none,none],[.val [] [],.val [] []],fun r=>vi r,fun _=>[none,none],Tryz.func122⟩
def d2p:Unit->KS:=fun _=>⟨a8d.k 4 [false,false],(bs 37 []),[some []]⟩
def d53:Option Int:=
 some (-1)
theorem d7k(r):NF a8d r d2p (fun s=>d53):=fun _ h=>PK<|rg<|fE h
def f4N(bal:Int)(who:Int):Int->KS:=fun b=>⟨a8d.k 3 [false],(vi bal::(vi who::(bs 3 (vi b::(bs 31 []))))),[some []]⟩
def a3Z(bal:Int)(who:Int)(b:Int):Option (l7 Int Int Unit):=
 (bif decide (b<=(m8 (bal+3))) then (bif decide (b<=3000) then (bif ((f6D b 3)==who) then some (l7.ret b) else some (l7.nxt (m8 (b+1)))) else some (l7.brk ())) else some (l7.brk ()))
theorem d7x(bal who):LQ a8d d2p (f4N bal who) (fun s=>a3Z bal who s):=fun lc b h=>PK<|rg<|j6 4 h (fun h=>j6 7 h (fun h=>rg<|om (3≠(0:Int)) (by decide)<|j6 3 h (fun h=>rg<|fL lc h) (fun h=>rg<|(lc.nx h fun hI=>sk [] [0,1,5] [] hI))) (fun h=>(lc.bk h fun hI=>sk [] [] [] hI))) (fun h=>(lc.bk h fun hI=>sk [] [] [] hI))
def b7K(bal:Int)(who:Int):Option Int:=
 (bif decide (bal<0) then some (-1) else (bif decide (bal>3000) then some (-1) else (bif decide (who<0) then some (-1) else (bif decide (who>=3) then some (-1) else ((o9 (fun s:Int=>a3Z bal who s) (m8 (bal+1))).bind fun x=>x.go (fun r=>some r) fun s=>d53)))))
theorem f3r{bal who}:OK a8d [vi bal,vi who] (b7K bal who):=
 o8 _ fun r h=>n7<|j6 2 h (fun h=>rg<|fE h) (fun h=>j6 6 h (fun h=>rg<|fE h) (fun h=>j6 10 h (fun h=>rg<|fE h) (fun h=>j6 13 h (fun h=>rg<|fE h) (fun h=>rg<|lp (d7x bal who) h (fun _ h=>a8d.rt h) (d7k r) fun hI=>sk [] [0,1,5] [] hI))))
def a8s:FS ((List m9)×List m9):=⟨117,Tryz.f117,[.val [some 8] [some 108]],[some (0,.row)],[.row],fun r=>v5 108 8 p9 r.1,fun r=>[some (v5 108 8 p9 r.2)],Tryz.func117⟩
def d3P(list:List m9):(List m9)->KS:=fun out1=>⟨a8s.k 4 [false],(bs 3 (.own 1 0 8 0 out1.length::(bs 24 []))),[some [m7 108 8 p9 list],some [m7 108 8 p9 out1]]⟩
def c8z(list:List m9)(out1:List m9):Option ((List m9)×List m9):=
 some (out1,list)
theorem d9V(list)(r):NF a8s r (d3P list) (fun s=>c8z list s):=fun out1 h=>PK<|rg<|C7 out1 list<|fE h
def e5r(list:List m9):((List m9)×Int)->KS:=fun (out,i)=>⟨a8s.k 3 [],(.own 0 0 8 0 list.length::(bs 2 (.own 1 0 8 0 out.length::(vi i::(bs 23 []))))),[some [m7 108 8 p9 list],some [m7 108 8 p9 out]]⟩
def b17(list:List m9)(out:List m9)(i:Int):Option (l7 ((List m9)×List m9) ((List m9)×Int) (List m9)):=
 (bif decide (i<(list.length:Int)) then ((idx list i).bind fun vote=>((X0 vote.i0).bind fun l5Entry=>(t5 ((out.length+1)*96<=140737488355328) (some (l7.nxt (out++[(m9.mk vote.a8 l5Entry)],m8 (i+1))))))) else some (l7.brk out))
theorem f2o(list):LQ a8s (d3P list) (e5r list) (fun s=>b17 list s.1 s.2):=fun lc (out,i) h=>PK<|rg<|j6 3 h (fun h=>rg<|A7 h fun vote J3 h=>B5 J3<|H9 p9 5 J3<|B5 J3<|H9 p9 10 J3<|l8 a0C a0W 11 h fun l5Entry h=>tk 13 V3<|u0 h fun e1 h=>F9 14 20 108 8 96 p9 out (m9.mk vote.a8 l5Entry) e1<|E8 (m9.mk vote.a8 l5Entry)<|rg<|(lc.nx h fun hI=>sk [] [0,3,4] [(20,0)] hI)) (fun h=>(lc.bk h fun hI=>sk [] [3] [(1,0)] hI))
def b9U(list:List m9):Option ((List m9)×List m9):=
 ((o9 (fun s:(List m9)×Int=>b17 list s.1 s.2) (([]:List m9),0)).bind fun x=>x.go (fun r=>some r) fun s=>c8z list s)
theorem e9I{list}:OK a8s [v5 108 8 p9 list] (b9U list):=
 o8 _ fun r h=>n7<|tk 0 V3<|rg<|lp (f2o list) h (fun _ h=>a8s.rt h) (d9V list r) fun hI=>om ((.own 2 0 8 0 0:V)=.own 2 0 8 0 ([]:List m9).length) (by simp)<|sk [.is (.tmp 3) (.own 2 0 8 0 ([]:List m9).length)] [0,3,4] [(2,0)] hI
def d1v:FS (j7×List l9):=⟨67,Tryz.f67,[.val A8 G7,.val [some 13] []],[none],[.val A8 G7],fun r=>.tup [.agg (H3 r.1),j8 13 s6 r.2],fun _=>[none],Tryz.func67⟩
def b49(n:j7):Option (j7×List l9):=
 ((a5c n).bind fun D6=>(bif (!D6) then some ((j7.mk 0 (z4.mk 0 []) [] 0 0 0 [] [] (m6.mk false (o7.mk 0 0) (n6.mk [] [] 0 0)) [] false [] (m6.mk false (o7.mk 0 0) (n6.mk [] [] 0 0)) []),([]:List l9)) else ((a6A n).bind fun l8Copy=>((b7K l8Copy.Acc.i4 l8Copy.Id).bind fun a3B=>(bif decide (a3B<0) then some (l8Copy,([]:List l9)) else ((b3d l8Copy).bind fun N6=>((a8j N6.Acc a3B).bind fun l6Promise=>(t5 (0<=(3:Int)/\(3:Int)*1<=140737488355328) (((idx (f6a (3:Int).toNat false) N6.Id).bind fun y=>((b9U l6Promise.1.a7).bind fun o=>(t5 (l6Promise.1.a7.length=o.2.length) (((a3s N6.Id (l9.mk 1 0 0 a3B (N6.a5.length:Int) (m6.mk false (o7.mk 0 0) (n6.mk [] [] 0 0)) [])).bind fun J4=>some ((j7.mk N6.Id (z4.mk l6Promise.1.i4 o.2) N6.a5 N6.Seq 1 a3B ((f6a (3:Int).toNat false).set N6.Id.toNat true) o.1 N6.d6 N6.a7 N6.i9 N6.i7 N6.b7 N6.d9),J4)))))))))))))))
theorem e0K{n}:OK d1v [.agg (H3 n)] (b49 n):=
 o8 _ fun r h=>n7<|R8 a2o a9A 1 1 h fun D6 h=>A5 n<|j6 2 h (fun h=>rg<|tk 1 B9<|C1 l9<|fE h) (fun h=>rg<|l8 a9Q b2m 1 h fun l8Copy h=>A5 n<|rg<|l8 a8d f3r 5 h fun a3B h=>rg<|j6 1 h (fun h=>rg<|tk 1 B9<|A5 l8Copy<|C1 l9<|fE h) (fun h=>rg<|l8 b5q c4r 1 h fun N6 h=>A5 l8Copy<|rg<|l8 b25 b6W 3 h fun l6Promise h=>s9 N6.Acc.a7<|N7<|u0 h fun e1 h=>T3 0 37 4 1 1 eB false ti4 (.none) e1 (by decide) (by rfl)<|rg<|A7 h fun y hy h=>B5 hy<|Q6 4 1 eB 5 [] true hy<|rg<|l8 a8s e9I 3 h fun o h=>u0 h fun e2 h=>s9 l6Promise.1.a7<|rg<|l8 a0k a5N 8 h fun J4 h=>om (l6Promise.1.a7.length=o.2.length) (by first|(simp;done)|(simp [e2];done))<|s9 N6.a5<|om ((f6a (3:Int).toNat false).length=((f6a (3:Int).toNat false).set N6.Id.toNat true).length) (by first|(simp;done)|(simp [e2];done))<|H0 o.1 N6.a7 N6.d9 J4<|fE h))
def b6K:FS (j7×(List l9)×List n5):=⟨68,Tryz.f68,[.val A8 G7,.val [some 13] [],.val [some 5] []],[none],[.val A8 G7],fun r=>.tup [.agg (H3 r.1),j8 13 s6 r.2.1,j8 5 x8 r.2.2],fun _=>[none],Tryz.func68⟩
def e2T(n:j7)(l8Copy:j7):(List l9)->KS:=fun out=>⟨b6K.k 7 [false,true],(bs 2 (.ptr 1 0 0::(bs 2 (.ptr 2 0 0::(.own 8 0 13 0 out.length::(bs 72 [])))))),[some [b18 8 p9 n.Acc.a7,b18 7 t6 n.a5,b18 1 eB n.c9,b18 1 eB n.a7,b18 7 t6 n.d9],some [.var 52 [vi 0,vi 0,.nil,.nil,vi 0,vi 0,vi 0,.nil,.nil,.b false,vi 0,vi 0,.nil,.nil,vi 0,vi 0,.nil,.b false,.nil,.b false,vi 0,vi 0,.nil,.nil,vi 0,vi 0,.nil]],some [.var 52 (d9h l8Copy)]]++e7a l8Copy++[some [m7 66 13 s6 out]]⟩
def d5S(l8Copy:j7)(out:List l9):Option (j7×(List l9)×List n5):=
 some (l8Copy,out,([]:List n5))
theorem e6M(n l8Copy)(r):NF b6K r (e2T n l8Copy) (fun s=>d5S l8Copy s):=fun out h=>PK<|rg<|tk 2 []<|A5 l8Copy<|s9 out<|C1 n5<|fE h
def b6d(n:j7):Option (j7×(List l9)×List n5):=
 ((a5c n).bind fun D6=>(bif (!D6) then some ((j7.mk 0 (z4.mk 0 []) [] 0 0 0 [] [] (m6.mk false (o7.mk 0 0) (n6.mk [] [] 0 0)) [] false [] (m6.mk false (o7.mk 0 0) (n6.mk [] [] 0 0)) []),([]:List l9),([]:List n5)) else ((a6A n).bind fun l8Copy=>((a3s l8Copy.Id (l9.mk 8 0 0 0 (l8Copy.a5.length:Int) (m6.mk false (o7.mk 0 0) (n6.mk [] [] 0 0)) [])).bind fun J4=>(((bif (l8Copy.d8==1) then ((a3s l8Copy.Id (l9.mk 1 0 0 l8Copy.a8 (l8Copy.a5.length:Int) (m6.mk false (o7.mk 0 0) (n6.mk [] [] 0 0)) [])).bind fun b4v=>(t5 ((J4.length+b4v.length)*152<=140737488355328) (some (m5.brk (J4++b4v))))) else (bif (l8Copy.d8==2) then ((a7c l8Copy).bind fun N8=>(t5 ((J4.length+N8.2.length)*152<=140737488355328) (some (m5.ret (N8.1,J4++N8.2,([]:List n5)))))) else (bif (l8Copy.d8==3) then ((a3s l8Copy.Id (l9.mk 3 0 0 l8Copy.a8 (l8Copy.a5.length:Int) l8Copy.d6 [])).bind fun b4e=>(t5 ((J4.length+b4e.length)*152<=140737488355328) (some (m5.brk (J4++b4e))))) else (bif l8Copy.i9 then ((a3s l8Copy.Id (l9.mk 7 0 0 0 0 l8Copy.b7 [])).bind fun b2p=>(t5 ((J4.length+b2p.length)*152<=140737488355328) (some (m5.brk (J4++b2p))))) else some (m5.brk J4))))):Option (m5 (j7×(List l9)×List n5) (List l9))).bind fun x=>x.go some fun j=>d5S l8Copy j)))))
theorem e8w{n}:OK b6K [.agg (H3 n)] (b6d n):=
 o8 _ fun r h=>n7<|R8 a2o a9A 1 1 h fun D6 h=>A5 n<|j6 2 h (fun h=>rg<|tk 1 B9<|tk 2 []<|C1 l9<|C1 n5<|fE h) (fun h=>rg<|l8 a9Q b2m 1 h fun l8Copy h=>A5 n<|rg<|l8 a0k a5N 6 h fun J4 h=>rg<|A9 h (e6M n l8Copy r) fun x1 h hc1=>rg<|j6 1 h (fun h=>rg<|l8 a0k a5N 9 h fun b4v h=>u0 h fun e1 h=>apL 10 34 66 13 152 s6 J4 b4v e1<|s9 b4v<|(p8 h hc1 fun hI=>sk [] [2,5,6] [(2,0),(10,0),(9,0),(9,1),(9,2),(9,3),(9,4),(34,0)] hI)) (fun h=>rg<|j6 1 h (fun h=>rg<|l8 b1a b3g 1 h fun N8 h=>A5 l8Copy<|rg<|u0 h fun e2 h=>apL 3 37 66 13 152 s6 J4 N8.2 e2<|tk 4 []<|(B8 h hc1 fun h=>A5 N8.1<|s9 (J4++N8.2)<|C1 n5<|fE h)) (fun h=>rg<|j6 1 h (fun h=>rg<|l8 a0k a5N 11 h fun b4e h=>u0 h fun e3 h=>apL 12 40 66 13 152 s6 J4 b4e e3<|s9 b4e<|(p8 h hc1 fun hI=>sk [] [2,5,6] [(2,0),(10,0),(9,0),(9,1),(9,2),(9,3),(9,4),(40,0)] hI)) (fun h=>rg<|j6 1 h (fun h=>rg<|l8 a0k a5N 6 h fun b2p h=>u0 h fun e4 h=>apL 7 37 66 13 152 s6 J4 b2p e4<|s9 b2p<|(p8 h hc1 fun hI=>sk [] [2,5,6] [(2,0),(10,0),(9,0),(9,1),(9,2),(9,3),(9,4),(37,0)] hI)) (fun h=>(p8 h hc1 fun hI=>sk [] [2,5,6] [(2,0),(10,0),(9,0),(9,1),(9,2),(9,3),(9,4),(18,0)] hI))))))
def c9E:FS (j7):=⟨69,Tryz.f69,[.val A8 G7],[none],[.val A8 G7],fun r=>.agg (H3 r),fun _=>[none],Tryz.func69⟩
def c0e(n:j7):Option j7:=
 ((a5c n).bind fun D6=>(bif (!D6) then some (j7.mk 0 (z4.mk 0 []) [] 0 0 0 [] [] (m6.mk false (o7.mk 0 0) (n6.mk [] [] 0 0)) [] false [] (m6.mk false (o7.mk 0 0) (n6.mk [] [] 0 0)) []) else ((a6A n).bind fun l8Copy=>some (j7.mk l8Copy.Id l8Copy.Acc l8Copy.a5 l8Copy.Seq 0 0 [] [] (m6.mk false (o7.mk 0 0) (n6.mk [] [] 0 0)) [] false [] (m6.mk false (o7.mk 0 0) (n6.mk [] [] 0 0)) []))))
theorem e0V{n}:OK c9E [.agg (H3 n)] (c0e n):=
 o8 _ fun r h=>n7<|R8 a2o a9A 1 1 h fun D6 h=>A5 n<|j6 2 h (fun h=>rg<|fE h) (fun h=>rg<|l8 a9Q b2m 1 h fun l8Copy h=>A5 n<|rg<|C7 l8Copy.Acc.a7 l8Copy.a5<|fE h)
def b1l:FS (m4):=⟨24,Tryz.f24,[.val D4 R5],[none,none],[.val D4 R5,.val [none,none,some 4] []],fun r=>.agg (S4 r),fun _=>[none,none],Tryz.func24⟩
def f5C(w:m4)(e_:q9)(node:j7):Unit->KS:=fun _=>⟨b1l.k 8 [false,false,true],(bs 2 (.ptr 1 0 0::(.ptr 2 0 0::(.ptr 3 0 0::(bs 76 []))))),[some [C4 52 27 z6 (w.a6.set e_.A.toNat node),m7 66 13 s6 w.b9,m7 68 3 A2 w.d7,m7 62 5 x8 w.Told],some [.var 28 [.own 0 0 27 0 (w.a6.set e_.A.toNat node).length,.own 0 1 13 0 w.b9.length,.own 0 2 3 0 w.d7.length,.own 0 3 5 0 w.Told.length]],some [.var 37 [vi e_.a9,vi e_.A,j8 4 A0 e_.i7]],some [.var 28 [.nil,.nil,.nil,.nil]]]⟩
def c05(w:m4)(e_:q9)(node:j7):Option m4:=
 ((b7W (m4.mk (w.a6.set e_.A.toNat node) w.b9 w.d7 w.Told) e_.A e_.i7).bind fun c1B=>some c1B)
theorem e5y(w e_ node)(r):NF b1l r (f5C w e_ node) (fun s=>c05 w e_ node):=fun _ h=>PK<|rg<|l8 c9s e2q 5 h fun c1B h=>H0 (w.a6.set e_.A.toNat node) w.b9 w.d7 w.Told<|B0 c1B<|fE h
def N4(node:j7):List V:=([vi node.Id,vi node.Acc.i4,.own 30 0 8 0 node.Acc.a7.length,.own 30 1 7 0 node.a5.length,vi node.Seq,vi node.d8,vi node.a8,.own 30 2 1 0 node.c9.length]++a6j node++[.own 30 3 1 0 node.a7.length]++a3P node++[.own 30 4 7 0 node.d9.length])
def a7r(node:j7):List V:=([vi node.Id,vi node.Acc.i4,v5 108 8 p9 node.Acc.a7,.own 30 1 7 0 node.a5.length,vi node.Seq,vi node.d8,vi node.a8,.own 30 2 1 0 node.c9.length]++a6j node++[.own 30 3 1 0 node.a7.length]++a3P node++[.own 30 4 7 0 node.d9.length])
def a94(node:j7):List V:=([vi node.Id,vi node.Acc.i4,v5 108 8 p9 node.Acc.a7,v5 50 7 t6 node.a5,vi node.Seq,vi node.d8,vi node.a8,.own 30 2 1 0 node.c9.length]++a6j node++[.own 30 3 1 0 node.a7.length]++a3P node++[.own 30 4 7 0 node.d9.length])
def b1Q(node:j7):List V:=([vi node.Id,vi node.Acc.i4,v5 108 8 p9 node.Acc.a7,v5 50 7 t6 node.a5,vi node.Seq,vi node.d8,vi node.a8,v5 4 1 eB node.c9,j8 8 p9 node.i5,.b node.d6.i8,vi node.d6.a0.c8,vi node.d6.a0.Seq,j8 2 w6 node.d6.b8.b5,j8 2 w8 node.d6.b8.b6,vi node.d6.b8.g7,vi node.d6.b8.Code,.own 30 3 1 0 node.a7.length]++a3P node++[.own 30 4 7 0 node.d9.length])
def c0c(node:j7):List V:=[vi node.Id,vi node.Acc.i4,v5 108 8 p9 node.Acc.a7,v5 50 7 t6 node.a5,vi node.Seq,vi node.d8,vi node.a8,v5 4 1 eB node.c9,j8 8 p9 node.i5,.b node.d6.i8,vi node.d6.a0.c8,vi node.d6.a0.Seq,j8 2 w6 node.d6.b8.b5,j8 2 w8 node.d6.b8.b6,vi node.d6.b8.g7,vi node.d6.b8.Code,v5 4 1 eB node.a7,.b node.i9,j8 4 A0 node.i7,.b node.b7.i8,vi node.b7.a0.c8,vi node.b7.a0.Seq,j8 2 w6 node.b7.b8.b5,j8 2 w8 node.b7.b8.b6,vi node.b7.b8.g7,vi node.b7.b8.Code,.own 30 4 7 0 node.d9.length]
def c2h(node:j7):List V:=(a5I node)
def c7n(a01:j7×List l9):List V:=(a5I a01.1)
def d0i(Y8:j7×(List l9)×List n5):List V:=(a5I Y8.1)
def d3M(a2c:j7):List V:=(a5I a2c)
def b03(w:m4)(e_:q9):Option m4:=
 (bif (e_.a9==2) then ((b0B w e_).bind fun c2U=>some c2U) else (bif (e_.a9==3) then ((b0B w e_).bind fun c1X=>some c1X) else (bif (e_.a9==4) then ((b0B w e_).bind fun c5L=>some c5L) else (bif decide (e_.A<0) then some w else (bif decide (e_.A>=3) then some w else ((idx w.a6 e_.A).bind fun node=>(bif (e_.a9==1) then c05 w e_ node else (bif (e_.a9==5) then ((b49 node).bind fun a01=>((a3q (m4.mk (w.a6.set e_.A.toNat a01.1) w.b9 w.d7 w.Told) a01.2).bind fun a2X=>((a3S a2X ([]:List n5)).bind fun a2Z=>some a2Z))) else (bif (e_.a9==6) then ((b6d node).bind fun Y8=>((a3q (m4.mk (w.a6.set e_.A.toNat Y8.1) w.b9 w.d7 w.Told) Y8.2.1).bind fun a3j=>((a3S a3j Y8.2.2).bind fun a7v=>some a7v))) else (bif (e_.a9==7) then ((c0e node).bind fun a2c=>((a3q (m4.mk (w.a6.set e_.A.toNat a2c) w.b9 w.d7 w.Told) ([]:List l9)).bind fun c4E=>((a3S c4E ([]:List n5)).bind fun c5u=>some c5u))) else ((a3q (m4.mk (w.a6.set e_.A.toNat node) w.b9 w.d7 w.Told) ([]:List l9)).bind fun c2i=>((a3S c2i ([]:List n5)).bind fun c2C=>some c2C))))))))))))
set_option maxRecDepth 20000 in
theorem c0n{w e_}:OK b1l [.agg (S4 w),.agg (H2 e_)] (b03 w e_):=
 o8 _ fun r h=>n7<|j6 3 h (fun h=>rg<|l8 b8d c0F 2 h fun c2U h=>B0 w<|B0 c2U<|fE h) (fun h=>j6 8 h (fun h=>rg<|l8 b8d c0F 2 h fun c1X h=>B0 w<|B0 c1X<|fE h) (fun h=>j6 12 h (fun h=>rg<|l8 b8d c0F 2 h fun c5L h=>B0 w<|B0 c5L<|fE h) (fun h=>rg<|j6 3 h (fun h=>rg<|B0 w<|fE h) (fun h=>j6 7 h (fun h=>rg<|B0 w<|fE h) (fun h=>rg<|A7 h fun node hnode h=>B5 hnode<|ob (b3j (enc:=z6) hnode)<|tl (5,{a:=.drow (z6 node)})<|rg<|tk 0 B9<|rg<|tk 0 []<|n7<|j6 1 h (fun h=>om (((w.a6.map z6).set (0+e_.A.toNat) (N4 node))[0+e_.A.toNat]?=some (N4 node)) (a1M (a18 hnode))<|s9 node.Acc.a7<|om ((((w.a6.map z6).set (0+e_.A.toNat) (N4 node)).set (0+e_.A.toNat) (a7r node))[0+e_.A.toNat]?=some (a7r node)) (a1M (a4e (a18 hnode)))<|s9 node.a5<|om (((((w.a6.map z6).set (0+e_.A.toNat) (N4 node)).set (0+e_.A.toNat) (a7r node)).set (0+e_.A.toNat) (a94 node))[0+e_.A.toNat]?=some (a94 node)) (a1M (a4e (a4e (a18 hnode))))<|s9 node.c9<|om ((((((w.a6.map z6).set (0+e_.A.toNat) (N4 node)).set (0+e_.A.toNat) (a7r node)).set (0+e_.A.toNat) (a94 node)).set (0+e_.A.toNat) (b1Q node))[0+e_.A.toNat]?=some (b1Q node)) (a1M (a4e (a4e (a4e (a18 hnode)))))<|s9 node.a7<|om (((((((w.a6.map z6).set (0+e_.A.toNat) (N4 node)).set (0+e_.A.toNat) (a7r node)).set (0+e_.A.toNat) (a94 node)).set (0+e_.A.toNat) (b1Q node)).set (0+e_.A.toNat) (c0c node))[0+e_.A.toNat]?=some (c0c node)) (a1M (a4e (a4e (a4e (a4e (a18 hnode))))))<|s9 node.d9<|om (((((((w.a6.map z6).set (0+e_.A.toNat) (N4 node)).set (0+e_.A.toNat) (a7r node)).set (0+e_.A.toNat) (a94 node)).set (0+e_.A.toNat) (b1Q node)).set (0+e_.A.toNat) (c0c node)).set (0+e_.A.toNat) (c2h node)=(w.a6.set e_.A.toNat node).map z6) (W6 (W6 (W6 (W6 (W6 (a0Z rfl))))))<|om (I2 ((w.a6.set e_.A.toNat node).map z6)) (I2.map a66 _)<|om (w.a6.length=(w.a6.set e_.A.toNat node).length) (by simp)<|om ((.own 0 0 27 0 w.a6.length:V)=.own 0 0 27 0 (w.a6.set e_.A.toNat node).length) (by simp)<|sk [.plug 0 0 (0+e_.A.toNat) 2 (N4 node) 108,.plug 0 0 (0+e_.A.toNat) 3 (a7r node) 50,.plug 0 0 (0+e_.A.toNat) 7 (a94 node) 4,.plug 0 0 (0+e_.A.toNat) 16 (b1Q node) 4,.plug 0 0 (0+e_.A.toNat) 26 (c0c node) 50,.shut 0 0 (w.a6.set e_.A.toNat node).length ((w.a6.set e_.A.toNat node).map z6),.is (.cell 1 0 0) (.own 0 0 27 0 (w.a6.set e_.A.toNat node).length)] [2,3,4] [(1,0),(2,0),(3,0)] (e5y w e_ node r () h)) (fun h=>rg<|j6 1 h (fun h=>rg<|l8 d1v e0K 1 h fun a01 h=>A5 node<|rg<|B5 hnode<|om (s8.deep false 52 27 w.a6.length (((w.a6.map z6).set (0+e_.A.toNat) (N4 node)).set (0+e_.A.toNat) (c7n a01))=C4 52 27 z6 (w.a6.set e_.A.toNat a01.1)) (a7C (W6 (a0Z rfl)) (by simp))<|om (I2 (((w.a6.map z6).set (0+e_.A.toNat) (N4 node)).set (0+e_.A.toNat) (c7n a01))) (a7V (W6 (a0Z rfl)) a66)<|om (((w.a6.map z6).set (0+e_.A.toNat) (N4 node))[0+e_.A.toNat]?=some (N4 node)) (a1M (a18 hnode))<|A5 a01.1<|tl (6,{a:=.dsc (N4 node) [none,none,some 8,some 7,none,none,none,some 1,some 8,none,none,none,some 2,some 2,none,none,some 1,none,some 4,none,none,none,some 2,some 2,none,none,some 7] [none,none,some 108,some 50,none,none,none,some 4,none,none,none,none,none,none,none,none,some 4,none,none,none,none,none,none,none,none,none,some 50],e:=some (C4 52 27 z6 (w.a6.set e_.A.toNat a01.1))})<|rg<|l8 a1e a6f 2 h fun a2X h=>om (w.a6.length=(w.a6.set e_.A.toNat a01.1).length) (by simp)<|X8 w.b9 w.d7 w.Told<|l8 a1T a8u 4 h fun a2Z h=>B0 a2X<|C1 n5<|B0 a2Z<|fE h) (fun h=>rg<|j6 1 h (fun h=>rg<|l8 b6K e8w 1 h fun Y8 h=>A5 node<|rg<|B5 hnode<|om (s8.deep false 52 27 w.a6.length (((w.a6.map z6).set (0+e_.A.toNat) (N4 node)).set (0+e_.A.toNat) (d0i Y8))=C4 52 27 z6 (w.a6.set e_.A.toNat Y8.1)) (a7C (W6 (a0Z rfl)) (by simp))<|om (I2 (((w.a6.map z6).set (0+e_.A.toNat) (N4 node)).set (0+e_.A.toNat) (d0i Y8))) (a7V (W6 (a0Z rfl)) a66)<|om (((w.a6.map z6).set (0+e_.A.toNat) (N4 node))[0+e_.A.toNat]?=some (N4 node)) (a1M (a18 hnode))<|A5 Y8.1<|tl (6,{a:=.dsc (N4 node) [none,none,some 8,some 7,none,none,none,some 1,some 8,none,none,none,some 2,some 2,none,none,some 1,none,some 4,none,none,none,some 2,some 2,none,none,some 7] [none,none,some 108,some 50,none,none,none,some 4,none,none,none,none,none,none,none,none,some 4,none,none,none,none,none,none,none,none,none,some 50],e:=some (C4 52 27 z6 (w.a6.set e_.A.toNat Y8.1))})<|rg<|l8 a1e a6f 2 h fun a3j h=>om (w.a6.length=(w.a6.set e_.A.toNat Y8.1).length) (by simp)<|X8 w.b9 w.d7 w.Told<|l8 a1T a8u 4 h fun a7v h=>B0 a3j<|B0 a7v<|fE h) (fun h=>rg<|j6 1 h (fun h=>rg<|l8 c9E e0V 1 h fun a2c h=>A5 node<|rg<|B5 hnode<|om (s8.deep false 52 27 w.a6.length (((w.a6.map z6).set (0+e_.A.toNat) (N4 node)).set (0+e_.A.toNat) (d3M a2c))=C4 52 27 z6 (w.a6.set e_.A.toNat a2c)) (a7C (W6 (a0Z rfl)) (by simp))<|om (I2 (((w.a6.map z6).set (0+e_.A.toNat) (N4 node)).set (0+e_.A.toNat) (d3M a2c))) (a7V (W6 (a0Z rfl)) a66)<|om (((w.a6.map z6).set (0+e_.A.toNat) (N4 node))[0+e_.A.toNat]?=some (N4 node)) (a1M (a18 hnode))<|A5 a2c<|tl (6,{a:=.dsc (N4 node) [none,none,some 8,some 7,none,none,none,some 1,some 8,none,none,none,some 2,some 2,none,none,some 1,none,some 4,none,none,none,some 2,some 2,none,none,some 7] [none,none,some 108,some 50,none,none,none,some 4,none,none,none,none,none,none,none,none,some 4,none,none,none,none,none,none,none,none,none,some 50],e:=some (C4 52 27 z6 (w.a6.set e_.A.toNat a2c))})<|rg<|l8 a1e a6f 2 h fun c4E h=>om (w.a6.length=(w.a6.set e_.A.toNat a2c).length) (by simp)<|X8 w.b9 w.d7 w.Told<|C1 l9<|l8 a1T a8u 4 h fun c5u h=>B0 c4E<|C1 n5<|B0 c5u<|fE h) (fun h=>rg<|B5 hnode<|om (s8.deep false 52 27 w.a6.length (((w.a6.map z6).set (0+e_.A.toNat) (N4 node)).set (0+e_.A.toNat) (c2h node))=C4 52 27 z6 (w.a6.set e_.A.toNat node)) (a7C (W6 (a0Z rfl)) (by simp))<|om (I2 (((w.a6.map z6).set (0+e_.A.toNat) (N4 node)).set (0+e_.A.toNat) (c2h node))) (a7V (W6 (a0Z rfl)) a66)<|om (((w.a6.map z6).set (0+e_.A.toNat) (N4 node))[0+e_.A.toNat]?=some (N4 node)) (a1M (a18 hnode))<|A5 node<|tl (6,{a:=.dsc (N4 node) [none,none,some 8,some 7,none,none,none,some 1,some 8,none,none,none,some 2,some 2,none,none,some 1,none,some 4,none,none,none,some 2,some 2,none,none,some 7] [none,none,some 108,some 50,none,none,none,some 4,none,none,none,none,none,none,none,none,some 4,none,none,none,none,none,none,none,none,none,some 50],e:=some (C4 52 27 z6 (w.a6.set e_.A.toNat node))})<|rg<|l8 a1e a6f 2 h fun c2i h=>om (w.a6.length=(w.a6.set e_.A.toNat node).length) (by simp)<|X8 w.b9 w.d7 w.Told<|C1 l9<|l8 a1T a8u 4 h fun c2C h=>B0 c2i<|C1 n5<|B0 c2C<|fE h)))))))))
def a2y:FS (m4×List q9):=⟨46,Tryz.f46,[.val D4 R5,.val [some 3] [some 37]],[none,none,none],[.val D4 R5,.val [some 3] [some 37],.val [none,none,some 4] []],fun r=>.tup [.agg (S4 r.1),v5 37 3 H2 r.2],fun _=>[none,none,none],Tryz.func46⟩
def a1f(w:m4)(out:List q9)(e_:q9):Option (m4×List q9):=
 ((b03 w e_).bind fun a0L=>(t5 ((out.length+1)*40<=140737488355328) (some (a0L,out++[e_]))))
theorem a3z{w out e_}:OK a2y [.agg (S4 w),v5 37 3 H2 out,.agg (H2 e_)] (a1f w out e_):=
 o8 _ fun r h=>n7<|l8 b1l c0n 2 h fun a0L h=>B0 w<|tk 5 [none,none,some 4]<|u0 h fun e1 h=>F9 6 11 37 3 40 H2 out e_ e1<|E8 e_<|B0 a0L<|s9 (out++[e_])<|fE h
def b0U:FS (Int×t8):=⟨49,Tryz.f49,[.val [] []],[some (0,.ptr [some 1,none] []),none],[.ptr [some 1,none] [],.val [some 1] []],fun r=>vi r.1,fun r=>[some (.optr 92 (a0e r.2)),none],Tryz.func49⟩
def a5A(r_:t8)(list:List Int):Option (Int×t8):=
 ((F5 r_ (list.length:Int)).bind fun pick=>((idx list pick.1).bind fun y=>some (y,pick.2)))
theorem b2E{r_ list}:OK b0U [.optr 92 (a0e r_),j8 1 eI list] (a5A r_ list):=
 o8 _ fun r h=>n7<|l8 G1 G4 4 h fun pick h=>u9 eI 5 h fun y hy h=>fE h
def d2T:FS (Int):=⟨162,Tryz.f162,[.val [] []],[none,none],[.val [] [],.val [] []],fun r=>vi r,fun _=>[none,none],Tryz.func162⟩
def b7u(a:Int)(b:Int):Option Int:=
 (bif decide (a>b) then some a else some b)
theorem f4y{a b}:OK d2T [vi a,vi b] (b7u a b):=
 o8 _ fun r h=>n7<|j6 2 h (fun h=>rg<|fE h) (fun h=>rg<|fE h)
def b5m:FS (n9×t8):=⟨103,Tryz.f103,[.val [] []],[some (0,.ptr [some 1,none] [])],[.ptr [some 1,none] []],fun r=>.agg (A0 r.1),fun r=>[some (.optr 92 (a0e r.2))],Tryz.func103⟩
def d9L:(t8×n9)->KS:=fun (w,i)=>⟨b5m.k 6 [true],(bs 2 (.ptr 1 0 0::(.ptr 2 0 0::(bs 36 [])))),[some [.var 92 [j8 1 K2 w.b,vi w.p]],some [.var 82 [vi 0,vi 0,vi 0,vi 0]],some [.var 82 [vi i.a9,vi i.A,vi i.B,vi i.N]]]⟩
def c6m(w:t8)(i:n9):Option (n9×t8):=
 some (i,w)
theorem f3p(r):NF b5m r d9L (fun s=>c6m s.1 s.2):=fun (w,i) h=>PK<|rg<|fE h
def b5H(r_:t8):Option (n9×t8):=
 ((a5A r_ [1,1,2,2,3,4,4,5,6,7]).bind fun num=>((F5 num.2 3).bind fun pick=>((F5 pick.2 3).bind fun E7=>(((bif (num.1==3) then ((a5A E7.2 [0,1,5,(-2),100,1000000]).bind fun a7Q=>some (m5.brk (a7Q.2,(n9.mk num.1 pick.1 0 a7Q.1)))) else (bif (num.1==6) then ((F5 E7.2 3).bind fun a0A=>some (m5.brk (a0A.2,(n9.mk num.1 pick.1 E7.1 (m8 (1+a0A.1)))))) else (bif (num.1==7) then ((F5 E7.2 3).bind fun Y7=>(bif decide (Y7.1>0) then ((F5 Y7.2 4).bind fun X6=>((F5 X6.2 4).bind fun a3g=>some (m5.ret ((n9.mk 4 X6.1 a3g.1 0),a3g.2)))) else some (m5.brk (Y7.2,(n9.mk num.1 0 0 0))))) else some (m5.brk (E7.2,(n9.mk num.1 pick.1 E7.1 0)))))):Option (m5 (n9×t8) (t8×n9))).bind fun x=>x.go some fun j=>c6m j.1 j.2))))
theorem e1p{r_}:OK b5m [.optr 92 (a0e r_)] (b5H r_):=
 o8 _ fun r h=>n7<|tk 1 []<|l8 b0U b2E 2 h fun num h=>om (10=[1,1,2,2,3,4,4,5,6,7].length) (by simp)<|l8 G1 G4 4 h fun pick h=>l8 G1 G4 6 h fun E7 h=>rg<|A9 h (f3p r) fun x1 h hc1=>rg<|j6 1 h (fun h=>n7<|tk 1 []<|l8 b0U b2E 2 h fun a7Q h=>om (6=[0,1,5,(-2),100,1000000].length) (by simp)<|(p8 h hc1 fun hI=>sk [] [2,3] [(1,0),(10,0)] hI)) (fun h=>rg<|j6 1 h (fun h=>rg<|l8 G1 G4 1 h fun a0A h=>(p8 h hc1 fun hI=>sk [] [2,3] [(1,0),(10,0)] hI)) (fun h=>rg<|j6 1 h (fun h=>rg<|l8 G1 G4 1 h fun Y7 h=>j6 2 h (fun h=>rg<|l8 G1 G4 1 h fun X6 h=>l8 G1 G4 3 h fun a3g h=>(B8 h hc1 fun h=>fE h)) (fun h=>n7<|(p8 h hc1 fun hI=>sk [] [2,3] [(1,0),(10,0)] hI))) (fun h=>(p8 h hc1 fun hI=>sk [] [2,3] [(1,0),(10,0)] hI))))
def a3m:FS ((List n9)×t8):=⟨51,Tryz.f51,[.val [some 4] [some 82]],[some (0,.ptr [some 1,none] [])],[.ptr [some 1,none] []],fun r=>v5 82 4 A0 r.1,fun r=>[some (.optr 92 (a0e r.2))],Tryz.func51⟩
def d6U:(t8×List n9)->KS:=fun (w,out1)=>⟨a3m.k 5 [false,false],(bs 5 (.own 1 0 4 0 out1.length::(bs 31 []))),[some [.var 92 [j8 1 K2 w.b,vi w.p]],some [m7 82 4 A0 out1]]⟩
def c9c(w:t8)(out1:List n9):Option ((List n9)×t8):=
 some (out1,w)
theorem e5N(r):NF a3m r d6U (fun s=>c9c s.1 s.2):=fun (w,out1) h=>PK<|rg<|s9 out1<|fE h
def f4f:(t8×(List n9)×Int)->KS:=fun (r_1,out,i)=>⟨a3m.k 4 [false],(.ptr 0 0 0::(bs 4 (.own 1 0 4 0 out.length::(vi i::(bs 30 []))))),[some [.var 92 [j8 1 K2 r_1.b,vi r_1.p]],some [m7 82 4 A0 out]]⟩
def b5b(r_1:t8)(out:List n9)(i:Int):Option (l7 ((List n9)×t8) (t8×(List n9)×Int) (t8×List n9)):=
 (bif decide (i>0) then ((b5H r_1).bind fun b3D=>(t5 ((out.length+1)*32<=140737488355328) (some (l7.nxt (b3D.2,out++[b3D.1],m8 (i-1)))))) else some (l7.brk (r_1,out)))
theorem e7c:LQ a3m d6U f4f (fun s=>b5b s.1 s.2.1 s.2.2):=fun lc (r_1,out,i) h=>PK<|rg<|j6 1 h (fun h=>rg<|l8 b5m e1p 2 h fun b3D h=>tk 3 []<|u0 h fun e1 h=>F9 4 8 82 4 32 A0 out b3D.1 e1<|E8 b3D.1<|rg<|(lc.nx h fun hI=>sk [] [0,5,6] [(8,0)] hI)) (fun h=>(lc.bk h fun hI=>sk [] [5] [(1,0)] hI))
def a4L(r_:t8):Option ((List n9)×t8):=
 ((F5 r_ 3).bind fun pick=>(bif (pick.1==0) then ((F5 pick.2 3).bind fun E7=>((F5 E7.2 3).bind fun a0A=>((F5 a0A.2 3).bind fun Y7=>some ([(n9.mk 1 0 E7.1 0),(n9.mk 3 1 0 (m8 (1+Y7.1))),(n9.mk 4 0 1 0),(n9.mk 2 a0A.1 0 0)],Y7.2)))) else ((F5 pick.2 8).bind fun X6=>((o9 (fun s:t8×(List n9)×Int=>b5b s.1 s.2.1 s.2.2) (X6.2,([]:List n9),X6.1)).bind fun x=>x.go (fun r=>some r) fun s=>c9c s.1 s.2))))
theorem b4C{r_}:OK a3m [.optr 92 (a0e r_)] (a4L r_):=
 o8 _ fun r h=>n7<|l8 G1 G4 1 h fun pick h=>j6 2 h (fun h=>rg<|l8 G1 G4 1 h fun E7 h=>rg<|l8 G1 G4 1 h fun a0A h=>rg<|l8 G1 G4 3 h fun Y7 h=>tk 9 []<|om (4=[(n9.mk 1 0 E7.1 0),(n9.mk 3 1 0 (m8 (1+Y7.1))),(n9.mk 4 0 1 0),(n9.mk 2 a0A.1 0 0)].length) (by simp)<|fE h) (fun h=>rg<|tk 0 []<|rg<|l8 G1 G4 1 h fun X6 h=>lp (e7c) h (fun _ h=>a3m.rt h) (e5N r) fun hI=>om ((.own 5 0 4 0 0:V)=.own 5 0 4 0 ([]:List n9).length) (by simp)<|sk [.is (.tmp 5) (.own 5 0 4 0 ([]:List n9).length)] [0,5,6] [(5,0)] hI)
def b5y:FS (q9×t8×m4):=⟨102,Tryz.f102,[.val [none,none,some 4] [none,none,some 82]],[some (0,.ptr [some 1,none] []),some (1,.val D4 R5)],[.ptr [some 1,none] [],.val D4 R5],fun r=>.agg [vi r.1.a9,vi r.1.A,v5 82 4 A0 r.1.i7],fun r=>[some (.optr 92 (a0e r.2.1)),some (.agg (S4 r.2.2))],Tryz.func102⟩
def d75(w:m4)(pick:Int×t8):(t8×Int)->KS:=fun (w1,eKind)=>⟨b5y.k 12 [false,false,false,false,false,false,false,true,false],(bs 4 (.ptr 1 0 0::(.ptr 2 0 0::(bs 57 [])))),[some [.var 92 [j8 1 K2 w1.b,vi w1.p],C4 52 27 z6 w.a6,m7 66 13 s6 w.b9,m7 68 3 A2 w.d7,m7 62 5 x8 w.Told],some [.var 37 [vi 0,vi 0,.nil]],some [.var 37 [vi eKind,vi pick.1,.nil]]]⟩
def d6y(w:m4)(pick:Int×t8)(w1:t8)(eKind:Int):Option (q9×t8×m4):=
 some ((q9.mk eKind pick.1 []),w1,w)
theorem e2X(w pick)(r):NF b5y r (d75 w pick) (fun s=>d6y w pick s.1 s.2):=fun (w1,eKind) h=>PK<|rg<|B0 w<|fE h
def b8j(r_:t8)(w:m4):Option (q9×t8×m4):=
 ((b7u 1 (w.b9.length:Int)).bind fun c7q=>((F5 r_ c7q).bind fun pick=>((F5 pick.2 24).bind fun E7=>(bif (E7.1==0) then ((F5 E7.2 3).bind fun a0A=>((a4L a0A.2).bind fun a4V=>some ((q9.mk 1 a0A.1 a4V.1),a4V.2,w))) else (bif (E7.1==1) then ((F5 E7.2 3).bind fun Y7=>((a4L Y7.2).bind fun b62=>some ((q9.mk 1 Y7.1 b62.1),b62.2,w))) else (bif (E7.1==2) then ((F5 E7.2 3).bind fun X6=>((a4L X6.2).bind fun b44=>some ((q9.mk 1 X6.1 b44.1),b44.2,w))) else (((bif (E7.1==3) then ((F5 E7.2 3).bind fun a3g=>((a4L a3g.2).bind fun b54=>some (m5.ret ((q9.mk 1 a3g.1 b54.1),b54.2,w)))) else (bif (E7.1==4) then ((F5 E7.2 3).bind fun a8f=>some (m5.ret ((q9.mk 5 a8f.1 []),a8f.2,w))) else (bif (E7.1==5) then ((F5 E7.2 3).bind fun a8h=>some (m5.ret ((q9.mk 6 a8h.1 []),a8h.2,w))) else (bif (E7.1==6) then ((F5 E7.2 3).bind fun a4E=>some (m5.ret ((q9.mk 6 a4E.1 []),a4E.2,w))) else (bif (E7.1==7) then ((F5 E7.2 2).bind fun a4X=>(bif (a4X.1==0) then ((F5 a4X.2 3).bind fun a6Y=>some (m5.ret ((q9.mk 7 a6Y.1 []),a6Y.2,w))) else some (m5.brk (a4X.2,2)))) else (bif (E7.1==8) then some (m5.brk (E7.2,3)) else (bif (E7.1==9) then some (m5.brk (E7.2,4)) else (bif (E7.1==10) then ((F5 E7.2 3).bind fun a6F=>(bif (a6F.1==0) then ((F5 a6F.2 10).bind fun a6w=>((F5 a6w.2 5).bind fun c3k=>some (m5.ret ((q9.mk (m8 (a6w.1-1)) (m8 (c3k.1-1)) []),c3k.2,w)))) else some (m5.brk (a6F.2,2)))) else some (m5.brk (E7.2,2)))))))))):Option (m5 (q9×t8×m4) (t8×Int))).bind fun x=>x.go some fun j=>d6y w pick j.1 j.2)))))))
set_option maxRecDepth 20000 in
theorem d8P{r_ w}:OK b5y [.optr 92 (a0e r_),.agg (S4 w)] (b8j r_ w):=
 o8 _ fun r h=>n7<|l8 d2T f4y 4 h fun c7q h=>l8 G1 G4 5 h fun pick h=>rg<|l8 G1 G4 1 h fun E7 h=>rg<|j6 1 h (fun h=>rg<|l8 G1 G4 1 h fun a0A h=>l8 a3m b4C 3 h fun a4V h=>s9 a4V.1<|B0 w<|fE h) (fun h=>rg<|j6 1 h (fun h=>rg<|l8 G1 G4 1 h fun Y7 h=>l8 a3m b4C 3 h fun b62 h=>s9 b62.1<|B0 w<|fE h) (fun h=>rg<|j6 1 h (fun h=>rg<|l8 G1 G4 1 h fun X6 h=>l8 a3m b4C 3 h fun b44 h=>s9 b44.1<|B0 w<|fE h) (fun h=>A9 h (e2X w pick r) fun x1 h hc1=>rg<|j6 1 h (fun h=>rg<|l8 G1 G4 1 h fun a3g h=>l8 a3m b4C 3 h fun b54 h=>(B8 h hc1 fun h=>s9 b54.1<|B0 w<|fE h)) (fun h=>rg<|j6 1 h (fun h=>rg<|l8 G1 G4 1 h fun a8f h=>(B8 h hc1 fun h=>B0 w<|fE h)) (fun h=>rg<|j6 1 h (fun h=>rg<|l8 G1 G4 1 h fun a8h h=>(B8 h hc1 fun h=>B0 w<|fE h)) (fun h=>rg<|j6 1 h (fun h=>rg<|l8 G1 G4 1 h fun a4E h=>(B8 h hc1 fun h=>B0 w<|fE h)) (fun h=>rg<|j6 1 h (fun h=>rg<|l8 G1 G4 1 h fun a4X h=>j6 2 h (fun h=>rg<|l8 G1 G4 1 h fun a6Y h=>(B8 h hc1 fun h=>B0 w<|fE h)) (fun h=>(p8 h hc1 fun hI=>sk [] [4,5] [(2,0),(10,0)] hI))) (fun h=>rg<|j6 1 h (fun h=>rg<|(p8 h hc1 fun hI=>sk [] [4,5] [(2,0),(10,0)] hI)) (fun h=>rg<|j6 1 h (fun h=>rg<|(p8 h hc1 fun hI=>sk [] [4,5] [(2,0),(10,0)] hI)) (fun h=>rg<|j6 1 h (fun h=>rg<|l8 G1 G4 1 h fun a6F h=>j6 2 h (fun h=>rg<|l8 G1 G4 1 h fun a6w h=>l8 G1 G4 4 h fun c3k h=>(B8 h hc1 fun h=>B0 w<|fE h)) (fun h=>(p8 h hc1 fun hI=>sk [] [4,5] [(2,0),(10,0)] hI))) (fun h=>(p8 h hc1 fun hI=>sk [] [4,5] [(2,0),(10,0)] hI))))))))))))
def b0d:FS (Bool):=⟨59,Tryz.f59,[.val [] []],[none],[.val B9 []],fun r=>.b r,fun _=>[none],Tryz.func59⟩
def e6a(m:l9):Unit->KS:=fun _=>⟨b0d.k 2 [false],(bs 1 (.ptr 1 0 0::(bs 158 []))),[some [],some [.var 66 (a5h m)]]⟩
def d85(m:l9)(l7None:Bool):Bool->KS:=fun right=>⟨b0d.k 4 [false],(bs 1 (.ptr 1 0 0::(bs 1 (.b l7None::(.b right::(bs 155 [])))))),[some [],some [.var 66 (a5h m)]]⟩
def b4p(m:l9)(l7None:Bool)(right:Bool):Option Bool:=
 (bif (m.a9==1) then ((a1o m.a8).bind fun Z8=>(bif Z8 then some l7None else some false)) else (bif (m.a9==2) then ((a1o m.a8).bind fun b1H=>(bif b1H then (bif l7None then ((a5W m.a7).bind fun a6S=>(bif a6S then some (decide ((m8 (m.g8+(m.a7.length:Int)))<=40)) else some false)) else some false) else some false)) else (bif (m.a9==3) then ((a1o m.a8).bind fun b3t=>(bif b3t then some right else some false)) else (bif (m.a9==4) then ((a1o m.a8).bind fun d21=>(bif d21 then some l7None else some false)) else (bif (m.a9==5) then (bif (m.a8==0) then some right else some false) else (bif (m.a9==6) then ((a1o m.a8).bind fun d2j=>(bif d2j then (bif l7None then some (m.g8==0) else some false) else some false)) else (bif (m.a9==7) then (bif (m.a8==0) then (bif (m.g8==0) then ((a1m m.i0).bind fun E5=>(bif E5 then some (!m.i0.i8) else some false)) else some false) else some false) else (bif (m.a9==8) then (bif (m.a8==0) then some l7None else some false) else some false))))))))
theorem e0I(m l7None)(r):NF b0d r (d85 m l7None) (fun s=>b4p m l7None s):=fun right h=>PK<|n7<|j6 1 h (fun h=>rg<|l8 a1H a2D 2 h fun Z8 h=>j6 3 h (fun h=>fE h) (fun h=>fE h)) (fun h=>rg<|j6 1 h (fun h=>rg<|l8 a1H a2D 2 h fun b1H h=>j6 3 h (fun h=>j6 6 h (fun h=>l8 a20 b1p 9 h fun a6S h=>j6 11 h (fun h=>fE h) (fun h=>fE h)) (fun h=>fE h)) (fun h=>fE h)) (fun h=>rg<|j6 1 h (fun h=>rg<|l8 a1H a2D 2 h fun b3t h=>j6 3 h (fun h=>fE h) (fun h=>fE h)) (fun h=>rg<|j6 1 h (fun h=>rg<|l8 a1H a2D 2 h fun d21 h=>j6 3 h (fun h=>fE h) (fun h=>fE h)) (fun h=>rg<|j6 1 h (fun h=>rg<|j6 3 h (fun h=>fE h) (fun h=>fE h)) (fun h=>rg<|j6 1 h (fun h=>rg<|l8 a1H a2D 2 h fun d2j h=>j6 3 h (fun h=>j6 6 h (fun h=>fE h) (fun h=>fE h)) (fun h=>fE h)) (fun h=>rg<|j6 1 h (fun h=>rg<|j6 3 h (fun h=>j6 8 h (fun h=>l8 a2n a3d 11 h fun E5 h=>j6 13 h (fun h=>fE h) (fun h=>fE h)) (fun h=>fE h)) (fun h=>fE h)) (fun h=>rg<|j6 1 h (fun h=>rg<|j6 3 h (fun h=>fE h) (fun h=>fE h)) (fun h=>rg<|fE h))))))))
def b7M(m:l9):Option Bool:=
 ((a5r m.i0).bind fun l7None=>((((a1m m.i0).bind fun a3t=>(bif a3t then some (m5.brk (decide (m.g8<40))) else some (m5.brk false))):Option (m5 Bool Bool)).bind fun x=>x.go some fun j=>b4p m l7None j))
theorem f0F(m)(r):NF b0d r (e6a m) (fun s=>b7M m):=fun _ h=>PK<|rg<|l8 a7H a9N 2 h fun l7None h=>A9 h (e0I m l7None r) fun x1 h hc1=>rg<|l8 a2n a3d 2 h fun a3t h=>j6 3 h (fun h=>(p8 h hc1 fun hI=>sk [] [1,3,4] [(1,0)] hI)) (fun h=>(p8 h hc1 fun hI=>sk [] [1,3,4] [(1,0)] hI))
def b5r(m:l9):Option Bool:=
 (((bif decide (m.c9<0) then some (m5.ret false) else (bif decide (m.c9>=3) then some (m5.ret false) else (bif decide (m.To<0) then some (m5.ret false) else (bif decide (m.To>=3) then some (m5.ret false) else (bif (m.c9==m.To) then some (m5.ret false) else (bif decide (m.g8<0) then some (m5.ret false) else (bif decide (m.g8>40) then some (m5.ret false) else (bif (m.a9 != 2) then (bif decide ((m.a7.length:Int)>0) then some (m5.ret false) else some (m5.brk ())) else some (m5.brk ()))))))))):Option (m5 Bool Unit)).bind fun x=>x.go some fun j=>b7M m)
theorem e49{m}:OK b0d [.agg (s6 m)] (b5r m):=
 o8 _ fun r h=>rg<|A9 h (f0F m r) fun x1 h hc1=>rg<|j6 3 h (fun h=>rg<|(B8 h hc1 fun h=>fE h)) (fun h=>j6 8 h (fun h=>rg<|(B8 h hc1 fun h=>fE h)) (fun h=>j6 13 h (fun h=>rg<|(B8 h hc1 fun h=>fE h)) (fun h=>j6 18 h (fun h=>rg<|(B8 h hc1 fun h=>fE h)) (fun h=>j6 25 h (fun h=>rg<|(B8 h hc1 fun h=>fE h)) (fun h=>j6 30 h (fun h=>rg<|(B8 h hc1 fun h=>fE h)) (fun h=>j6 35 h (fun h=>rg<|(B8 h hc1 fun h=>fE h)) (fun h=>j6 39 h (fun h=>j6 45 h (fun h=>rg<|(B8 h hc1 fun h=>fE h)) (fun h=>(p8 h hc1 fun hI=>sk [] [1] [(1,0)] hI))) (fun h=>(p8 h hc1 fun hI=>sk [] [1] [(1,0)] hI)))))))))
def d6t:FS (Bool):=⟨62,Tryz.f62,[.val [] []],[none],[.val [] []],fun r=>.b r,fun _=>[none],Tryz.func62⟩
def b8h(a:n5):Option Bool:=
 (bif decide (a.Node>=0) then (bif decide (a.Node<3) then ((a9X a.a0).bind fun a6E=>(bif a6E then (bif (a.a0.c8==a.Node) then (bif decide (a.Code>=0) then (bif decide (a.Code<=4) then ((a5P a.g7).bind fun a1a=>some a1a) else some false) else some false) else some false) else some false)) else some false) else some false)
theorem f2d{a}:OK d6t [.agg (x8 a)] (b8h a):=
 o8 _ fun r h=>n7<|j6 3 h (fun h=>j6 8 h (fun h=>l8 b6k c0x 11 h fun a6E h=>j6 13 h (fun h=>j6 21 h (fun h=>j6 26 h (fun h=>j6 31 h (fun h=>l8 a9a b1j 34 h fun a1a h=>fE h) (fun h=>fE h)) (fun h=>fE h)) (fun h=>fE h)) (fun h=>fE h)) (fun h=>fE h)) (fun h=>fE h)
def M5:FS (Bool):=⟨22,Tryz.f22,[.val [] []],[none],[.val D4 []],fun r=>.b r,fun _=>[none],Tryz.func22⟩
def d6e(w:m4):Unit->KS:=fun _=>⟨M5.k 4 [false,false],(bs 1 (.ptr 1 0 0::(bs 104 []))),[some [],some [.var 28 (D5 w)]]⟩
def c6B(w:m4):Unit->KS:=fun _=>⟨M5.k 6 [false,false,false],(bs 1 (.ptr 1 0 0::(bs 104 []))),[some [],some [.var 28 (D5 w)]]⟩
def d3B(w:m4):Unit->KS:=fun _=>⟨M5.k 8 [false,false,false,false],(bs 1 (.ptr 1 0 0::(bs 104 []))),[some [],some [.var 28 (D5 w)]]⟩
def d7d:Unit->KS:=fun _=>⟨M5.k 10 [false,false,false,false,false],(bs 106 []),[some []]⟩
def c9A:Option Bool:=
 some true
theorem f2O(r):NF M5 r d7d (fun s=>c9A):=fun _ h=>PK<|rg<|fE h
def e66(w:m4):Int->KS:=fun i3=>⟨M5.k 9 [false,false,false,false],(bs 1 (.ptr 1 0 0::(bs 4 (vi i3::(bs 99 []))))),[some [],some [.var 28 (D5 w)]]⟩
def b94(w:m4)(i3:Int):Option (l7 Bool Int Unit):=
 (bif decide (i3<(w.Told.length:Int)) then ((idx w.Told i3).bind fun told=>((b8h told).bind fun d0B=>(bif (!d0B) then some (l7.ret false) else some (l7.nxt (m8 (i3+1)))))) else some (l7.brk ()))
theorem e4X(w):LQ M5 d7d (e66 w) (fun s=>b94 w s):=fun lc i3 h=>PK<|rg<|j6 4 h (fun h=>rg<|u9 x8 3 h fun told a4G h=>l8 d6t f2d 5 h fun d0B h=>j6 6 h (fun h=>rg<|fL lc h) (fun h=>rg<|(lc.nx h fun hI=>sk [] [1,6] [(1,0)] hI))) (fun h=>(lc.bk h fun hI=>sk [] [] [] hI))
def b5E(w:m4):Option Bool:=
 ((o9 (fun s:Int=>b94 w s) 0).bind fun x=>x.go (fun r=>some r) fun s=>c9A)
theorem f2E(w)(r):NF M5 r (d3B w) (fun s=>b5E w):=fun _ h=>PK<|rg<|lp (e4X w) h (fun _ h=>M5.rt h) (f2O r) fun hI=>sk [] [1,6] [(1,0)] hI
def e5l(w:m4):Int->KS:=fun i2=>⟨M5.k 7 [false,false,false],(bs 1 (.ptr 1 0 0::(bs 3 (vi i2::(bs 100 []))))),[some [],some [.var 28 (D5 w)]]⟩
def b47(w:m4)(i2:Int):Option (l7 Bool Int Unit):=
 (bif decide (i2<(w.d7.length:Int)) then ((idx w.d7 i2).bind fun asked=>((a9X asked.a0).bind fun a6E=>(bif (!a6E) then some (l7.ret false) else ((b1m asked.i7).bind fun E4=>(bif (!E4) then some (l7.ret false) else some (l7.nxt (m8 (i2+1)))))))) else some (l7.brk ()))
theorem e7M(w):LQ M5 (d3B w) (e5l w) (fun s=>b47 w s):=fun lc i2 h=>PK<|rg<|j6 4 h (fun h=>rg<|u9 A2 3 h fun asked a8W h=>l8 b6k c0x 6 h fun a6E h=>j6 8 h (fun h=>rg<|fL lc h) (fun h=>I8 A2 12 a8W<|l8 a4R c2E 15 h fun E4 h=>j6 17 h (fun h=>rg<|fL lc h) (fun h=>rg<|(lc.nx h fun hI=>sk [] [1,5] [(1,0)] hI)))) (fun h=>(lc.bk h fun hI=>sk [] [1] [(1,0)] hI))
def b7A(w:m4):Option Bool:=
 ((o9 (fun s:Int=>b47 w s) 0).bind fun x=>x.go (fun r=>some r) fun s=>b5E w)
theorem f4v(w)(r):NF M5 r (c6B w) (fun s=>b7A w):=fun _ h=>PK<|rg<|lp (e7M w) h (fun _ h=>M5.rt h) (f2E w r) fun hI=>sk [] [1,5] [(1,0)] hI
def e5k(w:m4):Int->KS:=fun i1=>⟨M5.k 5 [false,false],(bs 1 (.ptr 1 0 0::(bs 2 (vi i1::(bs 101 []))))),[some [],some [.var 28 (D5 w)]]⟩
def b7t(w:m4)(i1:Int):Option (l7 Bool Int Unit):=
 (bif decide (i1<(w.b9.length:Int)) then ((idx w.b9 i1).bind fun msg=>((b5r msg).bind fun Q5=>(bif (!Q5) then some (l7.ret false) else some (l7.nxt (m8 (i1+1)))))) else some (l7.brk ()))
theorem e09(w):LQ M5 (c6B w) (e5k w) (fun s=>b7t w s):=fun lc i1 h=>PK<|rg<|j6 4 h (fun h=>rg<|u9 s6 3 h fun msg hmsg h=>l8 b0d e49 5 h fun Q5 h=>j6 6 h (fun h=>rg<|fL lc h) (fun h=>rg<|(lc.nx h fun hI=>sk [] [1,4] [(1,0)] hI))) (fun h=>(lc.bk h fun hI=>sk [] [1] [(1,0)] hI))
def b9z(w:m4):Option Bool:=
 ((o9 (fun s:Int=>b7t w s) 0).bind fun x=>x.go (fun r=>some r) fun s=>b7A w)
theorem e7m(w)(r):NF M5 r (d6e w) (fun s=>b9z w):=fun _ h=>PK<|rg<|lp (e09 w) h (fun _ h=>M5.rt h) (f4v w r) fun hI=>sk [] [1,4] [(1,0)] hI
def e1O(w:m4):Int->KS:=fun i=>⟨M5.k 3 [false],(bs 1 (.ptr 1 0 0::(bs 1 (vi i::(bs 102 []))))),[some [],some [.var 28 (D5 w)]]⟩
def b7H(w:m4)(i:Int):Option (l7 Bool Int Unit):=
 (bif decide (i<(w.a6.length:Int)) then ((idx w.a6 i).bind fun node=>(bif (node.Id != i) then some (l7.ret false) else ((a5c node).bind fun D6=>(bif (!D6) then some (l7.ret false) else some (l7.nxt (m8 (i+1))))))) else some (l7.brk ()))
theorem d8i(w):LQ M5 (d6e w) (e1O w) (fun s=>b7H w s):=fun lc i h=>PK<|rg<|j6 4 h (fun h=>rg<|u9 w9 3 h fun node hnode h=>j6 8 h (fun h=>rg<|fL lc h) (fun h=>I8 w9 12 hnode<|l8 a2o a9A 14 h fun D6 h=>j6 16 h (fun h=>rg<|fL lc h) (fun h=>rg<|(lc.nx h fun hI=>sk [] [1,3] [(1,0)] hI)))) (fun h=>(lc.bk h fun hI=>sk [] [1] [(1,0)] hI))
def b2v(w:m4):Option Bool:=
 (bif ((w.a6.length:Int) != 3) then some false else (bif decide ((w.b9.length:Int)>40) then some false else (bif decide ((w.d7.length:Int)>60) then some false else (bif decide ((w.Told.length:Int)>60) then some false else ((o9 (fun s:Int=>b7H w s) 0).bind fun x=>x.go (fun r=>some r) fun s=>b9z w)))))
theorem c4J{w}:OK M5 [.agg (P4 w)] (b2v w):=
 o8 _ fun r h=>n7<|j6 4 h (fun h=>rg<|fE h) (fun h=>j6 10 h (fun h=>rg<|fE h) (fun h=>j6 16 h (fun h=>rg<|fE h) (fun h=>j6 21 h (fun h=>rg<|fE h) (fun h=>rg<|lp (d8i w) h (fun _ h=>M5.rt h) (e7m w r) fun hI=>sk [] [1,3] [(1,0)] hI))))
def V7:FS (m4):=⟨23,Tryz.f23,[.val D4 R5],[none],[.val D4 []],fun r=>.agg (S4 r),fun _=>[none],Tryz.func23⟩
def c7s(w:m4):(List j7)->KS:=fun Nodes1=>⟨V7.k 4 [false],(bs 1 (.ptr 1 0 0::(.ptr 2 0 0::(.ptr 3 0 0::(bs 72 []))))),[some [],some [.var 28 (D5 w)],some [.var 28 [.nil,.nil,.nil,.nil]],some [.var 28 [.own 4 0 27 0 Nodes1.length,.nil,.nil,.own 5 0 5 0 (([]:List n5)++w.Told).length]],some [C4 52 27 z6 Nodes1],some [m7 62 5 x8 (([]:List n5)++w.Told)]]⟩
def d5w(w:m4)(Nodes1:List j7):(List l9)->KS:=fun Net1=>⟨V7.k 6 [false,false],(bs 1 (.ptr 1 0 0::(.ptr 2 0 0::(.ptr 3 0 0::(bs 72 []))))),[some [],some [.var 28 (D5 w)],some [.var 28 [.nil,.nil,.nil,.nil]],some [.var 28 [.own 4 0 27 0 Nodes1.length,.own 5 0 13 0 Net1.length,.nil,.own 6 0 5 0 (([]:List n5)++w.Told).length]],some [C4 52 27 z6 Nodes1],some [m7 66 13 s6 Net1],some [m7 62 5 x8 (([]:List n5)++w.Told)]]⟩
def c92(w:m4)(Nodes1:List j7)(Net1:List l9):(List x6)->KS:=fun Asked1=>⟨V7.k 8 [false,false,false],(bs 2 (.ptr 1 0 0::(.ptr 2 0 0::(bs 72 [])))),[some [],some [.var 28 [.nil,.nil,.nil,.nil]],some [.var 28 [.own 3 0 27 0 Nodes1.length,.own 4 0 13 0 Net1.length,.own 5 0 3 0 Asked1.length,.own 6 0 5 0 (([]:List n5)++w.Told).length]],some [C4 52 27 z6 Nodes1],some [m7 66 13 s6 Net1],some [m7 68 3 A2 Asked1],some [m7 62 5 x8 (([]:List n5)++w.Told)]]⟩
def d48(w:m4)(Nodes1:List j7)(Net1:List l9)(Asked1:List x6):Option m4:=
 some (m4.mk Nodes1 Net1 Asked1 (([]:List n5)++w.Told))
theorem d76(w Nodes1 Net1)(r):NF V7 r (c92 w Nodes1 Net1) (fun s=>d48 w Nodes1 Net1 s):=fun Asked1 h=>PK<|rg<|H0 Nodes1 Net1 Asked1 (([]:List n5)++w.Told)<|fE h
def f3M(w:m4)(Nodes1:List j7)(Net1:List l9):((List x6)×Int)->KS:=fun (d7,i2)=>⟨V7.k 7 [false,false],(bs 1 (.ptr 1 0 0::(.ptr 2 0 0::(.ptr 3 0 0::(bs 2 (vi i2::(bs 69 []))))))),[some [],some [.var 28 (D5 w)],some [.var 28 [.nil,.nil,.nil,.nil]],some [.var 28 [.own 4 0 27 0 Nodes1.length,.own 5 0 13 0 Net1.length,.own 7 0 3 0 d7.length,.own 6 0 5 0 (([]:List n5)++w.Told).length]],some [C4 52 27 z6 Nodes1],some [m7 66 13 s6 Net1],some [m7 62 5 x8 (([]:List n5)++w.Told)],some [m7 68 3 A2 d7]]⟩
def b1o(w:m4)(d7:List x6)(i2:Int):Option (l7 m4 ((List x6)×Int) (List x6)):=
 (bif decide (i2<(w.d7.length:Int)) then ((idx w.d7 i2).bind fun asked=>(t5 ((([]:List n9).length+asked.i7.length)*32<=140737488355328) ((t5 ((d7.length+1)*40<=140737488355328) (some (l7.nxt (d7++[(x6.mk asked.a0 (([]:List n9)++asked.i7))],m8 (i2+1)))))))) else some (l7.brk d7))
theorem e6w(w Nodes1 Net1):LQ V7 (c92 w Nodes1 Net1) (f3M w Nodes1 Net1) (fun s=>b1o w s.1 s.2):=fun lc (d7,i2) h=>PK<|rg<|j6 4 h (fun h=>rg<|u9 A2 5 h fun asked a8W h=>tk 8 []<|I8 A2 12 a8W<|u0 h fun e2 h=>oa 28 0 4 ([]:List n9) asked.i7<|oz 82 4 A0 ([]:List n9) asked.i7<|C1 n9<|ob e2<|tl (15,{v:=some (.own 28 0 4 0 (([]:List n9)++asked.i7).length),e:=some (m7 82 4 A0 (([]:List n9)++asked.i7))})<|s9 (([]:List n9)++asked.i7)<|tk 17 [none,none,some 4]<|u0 h fun e3 h=>F9 18 31 68 3 40 A2 d7 (x6.mk asked.a0 (([]:List n9)++asked.i7)) e3<|E8 (x6.mk asked.a0 (([]:List n9)++asked.i7))<|rg<|(lc.nx h fun hI=>sk [] [1,2,3,6] [(1,0),(2,0),(3,0),(4,0),(5,0),(6,0),(31,0)] hI)) (fun h=>(lc.bk h fun hI=>sk [] [2,3] [(2,0),(3,0),(4,0),(5,0),(7,0),(6,0)] hI))
def c37(w:m4)(Nodes1:List j7)(Net1:List l9):Option m4:=
 ((o9 (fun s:(List x6)×Int=>b1o w s.1 s.2) ([],0)).bind fun x=>x.go (fun r=>some r) fun s=>d48 w Nodes1 Net1 s)
theorem d96(w Nodes1)(r):NF V7 r (d5w w Nodes1) (fun s=>c37 w Nodes1 s):=fun Net1 h=>PK<|rg<|lp (e6w w Nodes1 Net1) h (fun _ h=>V7.rt h) (d76 w Nodes1 Net1 r) fun hI=>sk [.own (.cell 3 0 2) 68 3] [1,2,3,6] [(1,0),(2,0),(3,0),(4,0),(5,0),(6,0),(8,0)] hI
def e6p(w:m4)(Nodes1:List j7):((List l9)×Int)->KS:=fun (b9,i1)=>⟨V7.k 5 [false],(bs 1 (.ptr 1 0 0::(.ptr 2 0 0::(.ptr 3 0 0::(bs 1 (vi i1::(bs 70 []))))))),[some [],some [.var 28 (D5 w)],some [.var 28 [.nil,.nil,.nil,.nil]],some [.var 28 [.own 4 0 27 0 Nodes1.length,.own 6 0 13 0 b9.length,.nil,.own 5 0 5 0 (([]:List n5)++w.Told).length]],some [C4 52 27 z6 Nodes1],some [m7 62 5 x8 (([]:List n5)++w.Told)],some [m7 66 13 s6 b9]]⟩
def b4o(w:m4)(b9:List l9)(i1:Int):Option (l7 m4 ((List l9)×Int) (List l9)):=
 (bif decide (i1<(w.b9.length:Int)) then ((idx w.b9 i1).bind fun msg=>((a8k msg).bind fun G2=>(t5 ((b9.length+1)*152<=140737488355328) (some (l7.nxt (b9++[G2],m8 (i1+1))))))) else some (l7.brk b9))
theorem e90(w Nodes1):LQ V7 (d5w w Nodes1) (e6p w Nodes1) (fun s=>b4o w s.1 s.2):=fun lc (b9,i1) h=>PK<|rg<|j6 4 h (fun h=>rg<|u9 s6 5 h fun msg hmsg h=>l8 b3X b6q 7 h fun G2 h=>tk 8 B9<|u0 h fun e4 h=>F9 9 21 66 13 152 s6 b9 G2 e4<|E8 G2<|rg<|(lc.nx h fun hI=>sk [] [1,2,3,5] [(1,0),(2,0),(3,0),(4,0),(5,0),(21,0)] hI)) (fun h=>(lc.bk h fun hI=>sk [] [1,2,3] [(1,0),(2,0),(3,0),(4,0),(6,0),(5,0)] hI))
def c03(w:m4)(Nodes1:List j7):Option m4:=
 ((o9 (fun s:(List l9)×Int=>b4o w s.1 s.2) ([],0)).bind fun x=>x.go (fun r=>some r) fun s=>c37 w Nodes1 s)
theorem e3B(w)(r):NF V7 r (c7s w) (fun s=>c03 w s):=fun Nodes1 h=>PK<|rg<|lp (e90 w Nodes1) h (fun _ h=>V7.rt h) (d96 w Nodes1 r) fun hI=>sk [.own (.cell 3 0 1) 66 13] [1,2,3,5] [(1,0),(2,0),(3,0),(4,0),(5,0),(7,0)] hI
def e9K(w:m4):((List j7)×Int)->KS:=fun (a6,i)=>⟨V7.k 3 [],(bs 1 (.ptr 1 0 0::(.ptr 2 0 0::(.ptr 3 0 0::(vi i::(bs 71 [])))))),[some [],some [.var 28 (D5 w)],some [.var 28 [.nil,.nil,.nil,.nil]],some [.var 28 [.own 5 0 27 0 a6.length,.nil,.nil,.own 4 0 5 0 (([]:List n5)++w.Told).length]],some [m7 62 5 x8 (([]:List n5)++w.Told)],some [C4 52 27 z6 a6]]⟩
def e2m(l8Copy:j7):List V:=(a5I l8Copy)
def b1r(w:m4)(a6:List j7)(i:Int):Option (l7 m4 ((List j7)×Int) (List j7)):=
 (bif decide (i<(w.a6.length:Int)) then ((idx w.a6 i).bind fun node=>((a6A node).bind fun l8Copy=>(t5 ((a6.length+1)*392<=140737488355328) (some (l7.nxt (a6++[l8Copy],m8 (i+1))))))) else some (l7.brk a6))
theorem e4R(w):LQ V7 (c7s w) (e9K w) (fun s=>b1r w s.1 s.2):=fun lc (a6,i) h=>PK<|rg<|j6 4 h (fun h=>rg<|u9 w9 5 h fun node hnode h=>l8 a9Q b2m 7 h fun l8Copy h=>om (s8.deep false 52 27 1 [(e2m l8Copy)]=C4 52 27 z6 [l8Copy]) rfl<|A5 l8Copy<|tl (8,{a:=.dck [none,none,some 8,some 7,none,none,none,some 1,some 8,none,none,none,some 2,some 2,none,none,some 1,none,some 4,none,none,none,some 2,some 2,none,none,some 7] [none,none,some 108,some 50,none,none,none,some 4,none,none,none,none,none,none,none,none,some 4,none,none,none,none,none,none,none,none,none,some 50],e:=some (C4 52 27 z6 [l8Copy])})<|u0 h fun e5 h=>om (V.own 20 0 27 0 (a6.length+1)=.own 20 0 27 0 (a6++[l8Copy]).length) (by simp)<|om (s8.deep false 52 27 (a6.length+1) (a6.map z6++[z6 l8Copy])=C4 52 27 z6 (a6++[l8Copy])) (c4O rfl)<|s9 a6<|ob e5<|om (1=1) rfl<|tl (9,{a:=.dck [] [],v:=some (.own 20 0 27 0 (a6++[l8Copy]).length),e:=some (C4 52 27 z6 (a6++[l8Copy]))})<|rg<|(lc.nx h fun hI=>sk [] [1,2,3,4] [(1,0),(2,0),(3,0),(4,0),(20,0)] hI)) (fun h=>(lc.bk h fun hI=>sk [] [1,2,3] [(1,0),(2,0),(3,0),(5,0),(4,0)] hI))
def b1T(w:m4):Option m4:=
 (t5 ((([]:List n5).length+w.Told.length)*40<=140737488355328) (((o9 (fun s:(List j7)×Int=>b1r w s.1 s.2) ([],0)).bind fun x=>x.go (fun r=>some r) fun s=>c03 w s)))
theorem d1I{w}:OK V7 [.agg (P4 w)] (b1T w):=
 o8 _ fun r h=>n7<|tk 0 []<|u0 h fun e1 h=>oa 6 0 5 ([]:List n5) w.Told<|oz 62 5 x8 ([]:List n5) w.Told<|C1 n5<|ob e1<|tl (3,{v:=some (.own 6 0 5 0 (([]:List n5)++w.Told).length),e:=some (m7 62 5 x8 (([]:List n5)++w.Told))})<|rg<|lp (e4R w) h (fun _ h=>V7.rt h) (e3B w r) fun hI=>sk [.ownD (.cell 8 0 0) 52 27] [1,2,3,4] [(1,0),(2,0),(8,0),(6,0),(11,0)] hI
def a5x:FS ((List q9)×t8):=⟨48,Tryz.f48,[.val [some 3] [some 37]],[some (0,.ptr [some 1,none] []),none,none],[.ptr [some 1,none] [],.val D4 R5,.val [] []],fun r=>v5 37 3 H2 r.1,fun r=>[some (.optr 92 (a0e r.2)),none,none],Tryz.func48⟩
def c4Y:(t8×List q9)->KS:=fun (w1,out1)=>⟨a5x.k 4 [false],(bs 7 (.own 1 0 3 0 out1.length::(bs 22 []))),[some [.var 92 [j8 1 K2 w1.b,vi w1.p],.dead,.dead,.dead,.dead],some [m7 37 3 H2 out1]]⟩
def d6D(w1:t8)(out1:List q9):Option ((List q9)×t8):=
 some (out1,w1)
theorem e4f(r):NF a5x r c4Y (fun s=>d6D s.1 s.2):=fun (w1,out1) h=>PK<|rg<|s9 out1<|fE h
def d4u(n:Int):(t8×(List q9)×(List n5)×(List x6)×(List l9)×(List j7)×Int)->KS:=fun (r_1,out,Told,d7,b9,a6,i)=>⟨a5x.k 3 [],(.ptr 0 0 0::(bs 1 (vi n::(bs 1 (.ptr 1 0 0::(bs 2 (.own 2 0 3 0 out.length::(vi i::(bs 21 []))))))))),[some [.var 92 [j8 1 K2 r_1.b,vi r_1.p],.dead,.dead,.dead,.dead],some [.var 28 [.own 6 0 27 0 a6.length,.own 5 0 13 0 b9.length,.own 4 0 3 0 d7.length,.own 3 0 5 0 Told.length]],some [m7 37 3 H2 out],some [m7 62 5 x8 Told],some [m7 68 3 A2 d7],some [m7 66 13 s6 b9],some [C4 52 27 z6 a6]]⟩
def e2G(n:Int)(out:List q9)(i:Int)(l9Event:q9×t8×m4):((List j7)×(List l9)×(List x6)×List n5)->KS:=fun (Nodes1,Net1,Asked1,Told1)=>⟨a5x.k 8 [true,true],(.ptr 0 0 0::(bs 1 (vi n::(bs 1 (.ptr 1 0 0::(bs 2 (.own 6 0 3 0 (out++[l9Event.1]).length::(vi i::(bs 21 []))))))))),[some [.var 92 [j8 1 K2 l9Event.2.1.b,vi l9Event.2.1.p],.dead,.dead,.dead,.dead],some [.var 28 [.own 2 0 27 0 Nodes1.length,.own 3 0 13 0 Net1.length,.own 4 0 3 0 Asked1.length,.own 5 0 5 0 Told1.length]],some [C4 52 27 z6 Nodes1],some [m7 66 13 s6 Net1],some [m7 68 3 A2 Asked1],some [m7 62 5 x8 Told1],some [m7 37 3 H2 (out++[l9Event.1])]]⟩
def c28(out:List q9)(i:Int)(l9Event:q9×t8×m4)(Nodes1:List j7)(Net1:List l9)(Asked1:List x6)(Told1:List n5):Option (l7 ((List q9)×t8) (t8×(List q9)×(List n5)×(List x6)×(List l9)×(List j7)×Int) (t8×List q9)):=
 some (l7.nxt (l9Event.2.1,out++[l9Event.1],Told1,Asked1,Net1,Nodes1,m8 (i+1)))
theorem e7I(n out i l9Event)(lc:F8 a5x c4Y (d4u n)):NL lc (e2G n out i l9Event) (fun s=>c28 out i l9Event s.1 s.2.1 s.2.2.1 s.2.2.2):=fun (Nodes1,Net1,Asked1,Told1) h=>PK<|rg<|(lc.nx h fun hI=>sk [] [0,2,4,7,8] [(1,0),(6,0),(5,0),(4,0),(3,0),(2,0)] hI)
def b6X(n:Int)(r_1:t8)(out:List q9)(Told:List n5)(d7:List x6)(b9:List l9)(a6:List j7)(i:Int):Option (l7 ((List q9)×t8) (t8×(List q9)×(List n5)×(List x6)×(List l9)×(List j7)×Int) (t8×List q9)):=
 (bif decide (i<n) then ((b8j r_1 (m4.mk a6 b9 d7 Told)).bind fun l9Event=>(t5 (a6.length=l9Event.2.2.a6.length) ((t5 (b9.length=l9Event.2.2.b9.length) ((t5 (d7.length=l9Event.2.2.d7.length) ((t5 (Told.length=l9Event.2.2.Told.length) ((t5 ((out.length+1)*40<=140737488355328) (((((b2v l9Event.2.2).bind fun B6=>(bif B6 then ((b1T l9Event.2.2).bind fun a1G=>((b03 a1G l9Event.1).bind fun a0L=>some (m5.brk (a0L.a6,a0L.b9,a0L.d7,a0L.Told)))) else some (m5.brk (l9Event.2.2.a6,l9Event.2.2.b9,l9Event.2.2.d7,l9Event.2.2.Told)))):Option (m5 (l7 ((List q9)×t8) (t8×(List q9)×(List n5)×(List x6)×(List l9)×(List j7)×Int) (t8×List q9)) ((List j7)×(List l9)×(List x6)×List n5))).bind fun x=>x.go some fun j=>c28 out i l9Event j.1 j.2.1 j.2.2.1 j.2.2.2)))))))))))) else some (l7.brk (r_1,out)))
set_option maxRecDepth 20000 in
theorem e88(n):LQ a5x c4Y (d4u n) (fun s=>b6X n s.1 s.2.1 s.2.2.1 s.2.2.2.1 s.2.2.2.2.1 s.2.2.2.2.2.1 s.2.2.2.2.2.2):=fun lc (r_1,out,Told,d7,b9,a6,i) h=>PK<|rg<|j6 2 h (fun h=>rg<|l8 b5y d8P 2 h fun l9Event h=>u0 h fun e1 h=>u0 h fun e2 h=>u0 h fun e3 h=>u0 h fun e4 h=>H0 a6 b9 d7 Told<|rg<|s9 l9Event.1.i7<|tk 2 [none,none,some 4]<|u0 h fun e5 h=>F9 3 18 37 3 40 H2 out l9Event.1 e5<|E8 l9Event.1<|A9 h (e7I n out i l9Event lc) fun x2 h hc2=>rg<|A7 h fun B6 d13 h=>cdT (M5.t 1 true B6) h (fun _ h=>om (Z0 cx.P 22 [.agg [.sl 27 l9Event.2.2.a6.length (a0g (l9Event.2.2.a6.map z6)),j8 13 s6 l9Event.2.2.b9,j8 3 A2 l9Event.2.2.d7,j8 5 x8 l9Event.2.2.Told]] (M5.R B6) (M5.O B6)) (by simp only [b0g b1U];exact (c4J B6 d13))<|osc M5 B6 rfl (Q1 1)<|om (a6.length=l9Event.2.2.a6.length) (by first|(simp;done)|(simp [e1,e2,e3,e4];done))<|om (b9.length=l9Event.2.2.b9.length) (by first|(simp;done)|(simp [e1,e2,e3,e4];done))<|om (d7.length=l9Event.2.2.d7.length) (by first|(simp;done)|(simp [e1,e2,e3,e4];done))<|om (Told.length=l9Event.2.2.Told.length) (by first|(simp;done)|(simp [e1,e2,e3,e4];done))<|rg<|A7 h fun a1G e7e h=>om (Z0 cx.P 23 [.agg [.sl 27 l9Event.2.2.a6.length (a0g (l9Event.2.2.a6.map z6)),j8 13 s6 l9Event.2.2.b9,j8 3 A2 l9Event.2.2.d7,j8 5 x8 l9Event.2.2.Told]] (V7.R a1G) (V7.O a1G)) (by simp only [b0g b1U];exact (d1I a1G e7e))<|om (a6.length=l9Event.2.2.a6.length) (by first|(simp;done)|(simp [e1,e2,e3,e4];done))<|om (b9.length=l9Event.2.2.b9.length) (by first|(simp;done)|(simp [e1,e2,e3,e4];done))<|om (d7.length=l9Event.2.2.d7.length) (by first|(simp;done)|(simp [e1,e2,e3,e4];done))<|om (Told.length=l9Event.2.2.Told.length) (by first|(simp;done)|(simp [e1,e2,e3,e4];done))<|tl (V7.t 1 false a1G)<|l8 b1l c0n 3 h fun a0L h=>B0 a1G<|s9 l9Event.1.i7<|(p8 h hc2 fun hI=>sk [] [0,2,4,7,8] [(1,0),(25,0),(25,1),(25,2),(25,3),(18,0)] hI)) (fun _ h=>om (Z0 cx.P 22 [.agg [.sl 27 l9Event.2.2.a6.length (a0g (l9Event.2.2.a6.map z6)),j8 13 s6 l9Event.2.2.b9,j8 3 A2 l9Event.2.2.d7,j8 5 x8 l9Event.2.2.Told]] (M5.R B6) (M5.O B6)) (by simp only [b0g b1U];exact (c4J B6 d13))<|osc M5 B6 rfl (Q1 1)<|om (a6.length=l9Event.2.2.a6.length) (by first|(simp;done)|(simp [e1,e2,e3,e4];done))<|om (b9.length=l9Event.2.2.b9.length) (by first|(simp;done)|(simp [e1,e2,e3,e4];done))<|om (d7.length=l9Event.2.2.d7.length) (by first|(simp;done)|(simp [e1,e2,e3,e4];done))<|om (Told.length=l9Event.2.2.Told.length) (by first|(simp;done)|(simp [e1,e2,e3,e4];done))<|(p8 h hc2 fun hI=>om ((.own 6 0 27 0 a6.length:V)=.own 6 0 27 0 l9Event.2.2.a6.length) (by first|(simp;done)|(simp [e1,e2,e3,e4];done))<|om ((.own 5 0 13 0 b9.length:V)=.own 5 0 13 0 l9Event.2.2.b9.length) (by first|(simp;done)|(simp [e1,e2,e3,e4];done))<|om ((.own 4 0 3 0 d7.length:V)=.own 4 0 3 0 l9Event.2.2.d7.length) (by first|(simp;done)|(simp [e1,e2,e3,e4];done))<|om ((.own 3 0 5 0 Told.length:V)=.own 3 0 5 0 l9Event.2.2.Told.length) (by first|(simp;done)|(simp [e1,e2,e3,e4];done))<|sk [.is (.cell 1 0 0) (.own 6 0 27 0 l9Event.2.2.a6.length),.is (.cell 1 0 1) (.own 5 0 13 0 l9Event.2.2.b9.length),.is (.cell 1 0 2) (.own 4 0 3 0 l9Event.2.2.d7.length),.is (.cell 1 0 3) (.own 3 0 5 0 l9Event.2.2.Told.length)] [0,2,4,7,8] [(1,0),(6,0),(5,0),(4,0),(3,0),(18,0)] hI))) (fun h=>(lc.bk h fun hI=>sk [] [7] [(2,0)] hI))
def b7F(r_:t8)(w:m4)(n:Int):Option ((List q9)×t8):=
 ((o9 (fun s:t8×(List q9)×(List n5)×(List x6)×(List l9)×(List j7)×Int=>b6X n s.1 s.2.1 s.2.2.1 s.2.2.2.1 s.2.2.2.2.1 s.2.2.2.2.2.1 s.2.2.2.2.2.2) (r_,([]:List q9),w.Told,w.d7,w.b9,w.a6,0)).bind fun x=>x.go (fun r=>some r) fun s=>d6D s.1 s.2)
theorem f3C{r_ w n}:OK a5x [.optr 92 (a0e r_),.agg (S4 w),vi n] (b7F r_ w n):=
 o8 _ fun r h=>n7<|tk 0 [none,none,some 4]<|rg<|lp (e88 n) h (fun _ h=>a5x.rt h) (e4f r) fun hI=>om ((.own 3 0 3 0 0:V)=.own 3 0 3 0 ([]:List q9).length) (by simp)<|sk [.is (.tmp 7) (.own 3 0 3 0 ([]:List q9).length)] [0,2,4,7,8] [(1,0),(3,0),(0,4),(0,3),(0,2),(0,1)] hI
def a1L:FS (m4×(List q9)×t8):=⟨50,Tryz.f50,[.val D4 R5,.val [some 3] [some 37]],[some (0,.ptr [some 1,none] []),none,none],[.ptr [some 1,none] [],.val D4 R5,.val [some 3] [some 37]],fun r=>.tup [.agg (S4 r.1),v5 37 3 H2 r.2.1],fun r=>[some (.optr 92 (a0e r.2.2)),none,none],Tryz.func50⟩
def c2f(pick:Int×t8)(num:Int×t8):((List q9)×(List j7)×(List l9)×(List x6)×List n5)->KS:=fun (out2,Nodes1,Net1,Asked1,Told1)=>⟨a1L.k 4 [false],(.ptr 0 0 0::(bs 1 (.own 1 0 3 0 out2.length::(bs 1 (.ptr 2 0 0::(bs 1 (.ptr 7 0 0::(bs 1 (vi pick.1::(bs 52 [])))))))))),[some [.var 92 [j8 1 K2 num.2.b,vi num.2.p],.dead,.dead,.dead,.dead,.dead],some [m7 37 3 H2 out2],some [.var 28 [.own 3 0 27 0 Nodes1.length,.own 4 0 13 0 Net1.length,.own 5 0 3 0 Asked1.length,.own 6 0 5 0 Told1.length]],some [C4 52 27 z6 Nodes1],some [m7 66 13 s6 Net1],some [m7 68 3 A2 Asked1],some [m7 62 5 x8 Told1],some [.var 28 [.nil,.nil,.nil,.nil]]]⟩
def f4I(pick:Int×t8):(t8×(List q9)×(List j7)×(List l9)×(List x6)×List n5)->KS:=fun (w1,out3,Nodes2,Net2,Asked2,Told2)=>⟨a1L.k 6 [false,true],(bs 2 (.own 1 0 3 0 out3.length::(bs 1 (.ptr 2 0 0::(bs 1 (.ptr 7 0 0::(bs 1 (vi pick.1::(bs 52 []))))))))),[some [.var 92 [j8 1 K2 w1.b,vi w1.p],.dead,.dead,.dead,.dead,.dead],some [m7 37 3 H2 out3],some [.var 28 [.own 3 0 27 0 Nodes2.length,.own 4 0 13 0 Net2.length,.own 5 0 3 0 Asked2.length,.own 6 0 5 0 Told2.length]],some [C4 52 27 z6 Nodes2],some [m7 66 13 s6 Net2],some [m7 68 3 A2 Asked2],some [m7 62 5 x8 Told2],some [.var 28 [.nil,.nil,.nil,.nil]]]⟩
def b6f(pick:Int×t8)(w1:t8)(out3:List q9)(Nodes2:List j7)(Net2:List l9)(Asked2:List x6)(Told2:List n5):Option (m4×(List q9)×t8):=
 ((a1f (m4.mk Nodes2 Net2 Asked2 Told2) out3 (q9.mk 7 pick.1 [])).bind fun T7=>some (T7.1,T7.2,w1))
theorem f0V(pick)(r):NF a1L r (f4I pick) (fun s=>b6f pick s.1 s.2.1 s.2.2.1 s.2.2.2.1 s.2.2.2.2.1 s.2.2.2.2.2):=fun (w1,out3,Nodes2,Net2,Asked2,Told2) h=>PK<|rg<|l8 a2y a3z 4 h fun T7 h=>H0 Nodes2 Net2 Asked2 Told2<|s9 out3<|B0 T7.1<|s9 T7.2<|fE h
def c4c(pick:Int×t8)(num:Int×t8)(out2:List q9)(Nodes1:List j7)(Net1:List l9)(Asked1:List x6)(Told1:List n5):Option (m4×(List q9)×t8):=
 (((bif decide ((Net1.length:Int)>0) then ((F5 num.2 (Net1.length:Int)).bind fun E7=>((a1f (m4.mk Nodes1 Net1 Asked1 Told1) out2 (q9.mk 2 E7.1 [])).bind fun a11=>some (m5.brk (E7.2,a11.2,a11.1.a6,a11.1.b9,a11.1.d7,a11.1.Told)))) else some (m5.brk (num.2,out2,Nodes1,Net1,Asked1,Told1))):Option (m5 (m4×(List q9)×t8) (t8×(List q9)×(List j7)×(List l9)×(List x6)×List n5))).bind fun x=>x.go some fun j=>b6f pick j.1 j.2.1 j.2.2.1 j.2.2.2.1 j.2.2.2.2.1 j.2.2.2.2.2)
theorem f0t(pick num)(r):NF a1L r (c2f pick num) (fun s=>c4c pick num s.1 s.2.1 s.2.2.1 s.2.2.2.1 s.2.2.2.2):=fun (out2,Nodes1,Net1,Asked1,Told1) h=>PK<|A9 h (f0V pick r) fun x1 h hc1=>rg<|j6 3 h (fun h=>rg<|l8 G1 G4 6 h fun E7 h=>l8 a2y a3z 8 h fun a11 h=>H0 Nodes1 Net1 Asked1 Told1<|s9 out2<|(p8 h hc1 fun hI=>sk [] [2,4,6,8] [(20,4),(2,0),(20,0),(20,1),(20,2),(20,3),(7,0)] hI)) (fun h=>(p8 h hc1 fun hI=>sk [] [2,4,6,8] [(1,0),(2,0),(3,0),(4,0),(5,0),(6,0),(7,0)] hI))
def c9n(pick:Int×t8)(num:Int×t8):((List n5)×(List x6)×(List l9)×(List j7)×(List q9)×Int)->KS:=fun (Told,d7,b9,a6,out1,i)=>⟨a1L.k 3 [],(.ptr 0 0 0::(bs 1 (.own 7 0 3 0 out1.length::(bs 1 (.ptr 1 0 0::(bs 1 (.ptr 2 0 0::(bs 1 (vi pick.1::(vi i::(bs 51 []))))))))))),[some [.var 92 [j8 1 K2 num.2.b,vi num.2.p],.dead,.dead,.dead,.dead,.dead],some [.var 28 [.own 6 0 27 0 a6.length,.own 5 0 13 0 b9.length,.own 4 0 3 0 d7.length,.own 3 0 5 0 Told.length]],some [.var 28 [.nil,.nil,.nil,.nil]],some [m7 62 5 x8 Told],some [m7 68 3 A2 d7],some [m7 66 13 s6 b9],some [C4 52 27 z6 a6],some [m7 37 3 H2 out1]]⟩
def d3K(pick:Int×t8)(num:Int×t8)(i:Int):((List q9)×(List j7)×(List l9)×(List x6)×List n5)->KS:=fun (out5,Nodes4,Net4,Asked4,Told4)=>⟨a1L.k 5 [true,false],(.ptr 0 0 0::(bs 1 (.own 1 0 3 0 out5.length::(bs 1 (.ptr 2 0 0::(bs 1 (.ptr 7 0 0::(bs 1 (vi pick.1::(vi i::(bs 51 []))))))))))),[some [.var 92 [j8 1 K2 num.2.b,vi num.2.p],.dead,.dead,.dead,.dead,.dead],some [m7 37 3 H2 out5],some [.var 28 [.own 3 0 27 0 Nodes4.length,.own 4 0 13 0 Net4.length,.own 5 0 3 0 Asked4.length,.own 6 0 5 0 Told4.length]],some [C4 52 27 z6 Nodes4],some [m7 66 13 s6 Net4],some [m7 68 3 A2 Asked4],some [m7 62 5 x8 Told4],some [.var 28 [.nil,.nil,.nil,.nil]]]⟩
def c0C(pick:Int×t8)(i:Int)(out5:List q9)(Nodes4:List j7)(Net4:List l9)(Asked4:List x6)(Told4:List n5):Option (l7 (m4×(List q9)×t8) ((List n5)×(List x6)×(List l9)×(List j7)×(List q9)×Int) ((List q9)×(List j7)×(List l9)×(List x6)×List n5)):=
 ((a1f (m4.mk Nodes4 Net4 Asked4 Told4) out5 (q9.mk 5 pick.1 [])).bind fun a1R=>some (l7.nxt (a1R.1.Told,a1R.1.d7,a1R.1.b9,a1R.1.a6,a1R.2,m8 (i-1))))
theorem e8g(pick num i)(lc:F8 a1L (c2f pick num) (c9n pick num)):NL lc (d3K pick num i) (fun s=>c0C pick i s.1 s.2.1 s.2.2.1 s.2.2.2.1 s.2.2.2.2):=fun (out5,Nodes4,Net4,Asked4,Told4) h=>PK<|rg<|l8 a2y a3z 4 h fun a1R h=>H0 Nodes4 Net4 Asked4 Told4<|s9 out5<|rg<|(lc.nx h fun hI=>sk [] [0,2,4,6,8,9] [(2,0),(7,0),(12,3),(12,2),(12,1),(12,0),(12,4)] hI)
def e5O(pick:Int×t8)(num:Int×t8)(i:Int):((List q9)×(List j7)×(List l9)×(List x6)×List n5)->KS:=fun (out4,Nodes3,Net3,Asked3,Told3)=>⟨a1L.k 4 [true],(.ptr 0 0 0::(bs 1 (.own 1 0 3 0 out4.length::(bs 1 (.ptr 2 0 0::(bs 1 (.ptr 7 0 0::(bs 1 (vi pick.1::(vi i::(bs 51 []))))))))))),[some [.var 92 [j8 1 K2 num.2.b,vi num.2.p],.dead,.dead,.dead,.dead,.dead],some [m7 37 3 H2 out4],some [.var 28 [.own 3 0 27 0 Nodes3.length,.own 4 0 13 0 Net3.length,.own 5 0 3 0 Asked3.length,.own 6 0 5 0 Told3.length]],some [C4 52 27 z6 Nodes3],some [m7 66 13 s6 Net3],some [m7 68 3 A2 Asked3],some [m7 62 5 x8 Told3],some [.var 28 [.nil,.nil,.nil,.nil]]]⟩
def a7b(out4:List q9)(Nodes3:List j7)(Net3:List l9)(Asked3:List x6)(Told3:List n5):Option (l7 (m4×(List q9)×t8) ((List q9)×(List j7)×(List l9)×(List x6)×List n5) ((List q9)×(List j7)×(List l9)×(List x6)×List n5)):=
 (bif decide ((Net3.length:Int)>0) then ((a1f (m4.mk Nodes3 Net3 Asked3 Told3) out4 (q9.mk 3 0 [])).bind fun a1C=>some (l7.nxt (a1C.2,a1C.1.a6,a1C.1.b9,a1C.1.d7,a1C.1.Told))) else some (l7.brk (out4,Nodes3,Net3,Asked3,Told3)))
theorem e1l(pick num i):LQ a1L (d3K pick num i) (e5O pick num i) (fun s=>a7b s.1 s.2.1 s.2.2.1 s.2.2.2.1 s.2.2.2.2):=fun lc (out4,Nodes3,Net3,Asked3,Told3) h=>PK<|rg<|j6 3 h (fun h=>rg<|l8 a2y a3z 3 h fun a1C h=>H0 Nodes3 Net3 Asked3 Told3<|s9 out4<|(lc.nx h fun hI=>sk [] [0,2,4,6,8,9] [(15,4),(2,0),(15,0),(15,1),(15,2),(15,3),(7,0)] hI)) (fun h=>(lc.bk h fun hI=>sk [] [0,2,4,6,8,9] [(1,0),(2,0),(3,0),(4,0),(5,0),(6,0),(7,0)] hI))
def b1g(pick:Int×t8)(Told:List n5)(d7:List x6)(b9:List l9)(a6:List j7)(out1:List q9)(i:Int):Option (l7 (m4×(List q9)×t8) ((List n5)×(List x6)×(List l9)×(List j7)×(List q9)×Int) ((List q9)×(List j7)×(List l9)×(List x6)×List n5)):=
 (bif decide (i>0) then ((o9 (fun s:(List q9)×(List j7)×(List l9)×(List x6)×List n5=>a7b s.1 s.2.1 s.2.2.1 s.2.2.2.1 s.2.2.2.2) (out1,a6,b9,d7,Told)).bind fun x=>x.go (fun r=>some (l7.ret r)) fun s=>c0C pick i s.1 s.2.1 s.2.2.1 s.2.2.2.1 s.2.2.2.2) else some (l7.brk (out1,a6,b9,d7,Told)))
theorem e3q(pick num):LQ a1L (c2f pick num) (c9n pick num) (fun s=>b1g pick s.1 s.2.1 s.2.2.1 s.2.2.2.1 s.2.2.2.2.1 s.2.2.2.2.2):=fun lc (Told,d7,b9,a6,out1,i) h=>PK<|rg<|j6 1 h (fun h=>lp (e1l pick num i) h (fun _ h=>lc.rt h) (e8g pick num i lc) fun hI=>sk [] [0,2,4,6,8,9] [(7,0),(1,0),(6,0),(5,0),(4,0),(3,0),(2,0)] hI) (fun h=>(lc.bk h fun hI=>sk [] [0,2,4,6,8] [(7,0),(1,0),(6,0),(5,0),(4,0),(3,0),(2,0)] hI))
def b9P(r_:t8)(w:m4)(out:List q9):Option (m4×(List q9)×t8):=
 ((F5 r_ 3).bind fun pick=>((a5A pick.2 [3,8,20]).bind fun num=>((o9 (fun s:(List n5)×(List x6)×(List l9)×(List j7)×(List q9)×Int=>b1g pick s.1 s.2.1 s.2.2.1 s.2.2.2.1 s.2.2.2.2.1 s.2.2.2.2.2) (w.Told,w.d7,w.b9,w.a6,out,num.1)).bind fun x=>x.go (fun r=>some r) fun s=>c4c pick num s.1 s.2.1 s.2.2.1 s.2.2.2.1 s.2.2.2.2)))
theorem d9b{r_ w out}:OK a1L [.optr 92 (a0e r_),.agg (S4 w),v5 37 3 H2 out] (b9P r_ w out):=
 o8 _ fun r h=>n7<|l8 G1 G4 1 h fun pick h=>rg<|tk 1 []<|l8 b0U b2E 2 h fun num h=>om (3=[3,8,20].length) (by simp)<|lp (e3q pick num) h (fun _ h=>a1L.rt h) (f0t pick num r) fun hI=>sk [] [0,2,4,6,8,9] [(1,0),(2,0),(0,4),(0,3),(0,2),(0,1),(0,5)] hI
def Z6:FS ((List q9)×t8):=⟨16,Tryz.f16,[.val [some 3] [some 37]],[some (0,.ptr [some 1,none] [])],[.ptr [some 1,none] []],fun r=>v5 37 3 H2 r.1,fun r=>[some (.optr 92 (a0e r.2))],Tryz.func16⟩
def f1L:(t8×(List j7)×(List l9)×(List x6)×(List n5)×List q9)->KS:=fun (r_1,a6,b9,d7,Told,out)=>⟨Z6.k 5 [false,true],(.ptr 0 0 0::(bs 2 (.ptr 1 0 0::(.own 6 0 3 0 out.length::(bs 126 []))))),[some [.var 92 [j8 1 K2 r_1.b,vi r_1.p]],some [.var 28 [.own 2 0 27 0 a6.length,.own 3 0 13 0 b9.length,.own 4 0 3 0 d7.length,.own 5 0 5 0 Told.length]],some [C4 52 27 z6 a6],some [m7 66 13 s6 b9],some [m7 68 3 A2 d7],some [m7 62 5 x8 Told],some [m7 37 3 H2 out]]⟩
def b85:(t8×List q9)->KS:=fun (w,out2)=>⟨Z6.k 7 [false,true,false],(bs 4 (.own 1 0 3 0 out2.length::(bs 126 []))),[some [.var 92 [j8 1 K2 w.b,vi w.p]],some [m7 37 3 H2 out2]]⟩
def d5k(w:t8)(out2:List q9):Option ((List q9)×t8):=
 some (out2,w)
theorem f4F(r):NF Z6 r b85 (fun s=>d5k s.1 s.2):=fun (w,out2) h=>PK<|rg<|s9 out2<|fE h
def c2J:(t8×(List j7)×(List l9)×(List x6)×(List n5)×(List q9)×Int)->KS:=fun (r_2,Nodes1,Net1,Asked1,Told1,out1,i)=>⟨Z6.k 6 [false,true],(.ptr 0 0 0::(bs 2 (.ptr 1 0 0::(.own 6 0 3 0 out1.length::(vi i::(bs 125 [])))))),[some [.var 92 [j8 1 K2 r_2.b,vi r_2.p]],some [.var 28 [.own 2 0 27 0 Nodes1.length,.own 3 0 13 0 Net1.length,.own 4 0 3 0 Asked1.length,.own 5 0 5 0 Told1.length]],some [C4 52 27 z6 Nodes1],some [m7 66 13 s6 Net1],some [m7 68 3 A2 Asked1],some [m7 62 5 x8 Told1],some [m7 37 3 H2 out1]]⟩
def c4T(i:Int):(t8×(List j7)×(List l9)×(List x6)×(List n5)×List q9)->KS:=fun (r_4,Nodes3,Net3,Asked3,Told3,out4)=>⟨Z6.k 9 [false,true,true,false],(.ptr 0 0 0::(bs 2 (.ptr 1 0 0::(.own 6 0 3 0 out4.length::(vi i::(bs 125 [])))))),[some [.var 92 [j8 1 K2 r_4.b,vi r_4.p]],some [.var 28 [.own 2 0 27 0 Nodes3.length,.own 3 0 13 0 Net3.length,.own 4 0 3 0 Asked3.length,.own 5 0 5 0 Told3.length]],some [C4 52 27 z6 Nodes3],some [m7 66 13 s6 Net3],some [m7 68 3 A2 Asked3],some [m7 62 5 x8 Told3],some [m7 37 3 H2 out4]]⟩
def d7F(i:Int):(t8×(List j7)×(List l9)×(List x6)×(List n5)×List q9)->KS:=fun (r_5,Nodes4,Net4,Asked4,Told4,out5)=>⟨Z6.k 12 [false,true,true,false,true],(.ptr 0 0 0::(bs 2 (.ptr 1 0 0::(.own 6 0 3 0 out5.length::(vi i::(bs 125 [])))))),[some [.var 92 [j8 1 K2 r_5.b,vi r_5.p]],some [.var 28 [.own 2 0 27 0 Nodes4.length,.own 3 0 13 0 Net4.length,.own 4 0 3 0 Asked4.length,.own 5 0 5 0 Told4.length]],some [C4 52 27 z6 Nodes4],some [m7 66 13 s6 Net4],some [m7 68 3 A2 Asked4],some [m7 62 5 x8 Told4],some [m7 37 3 H2 out5]]⟩
def b52(i:Int)(r_5:t8)(Nodes4:List j7)(Net4:List l9)(Asked4:List x6)(Told4:List n5)(out5:List q9):Option (l7 ((List q9)×t8) (t8×(List j7)×(List l9)×(List x6)×(List n5)×(List q9)×Int) (t8×List q9)):=
 ((F5 r_5 3).bind fun a3g=>((a1f (m4.mk Nodes4 Net4 Asked4 Told4) out5 (q9.mk 6 a3g.1 [])).bind fun a1R=>some (l7.nxt (a3g.2,a1R.1.a6,a1R.1.b9,a1R.1.d7,a1R.1.Told,a1R.2,m8 (i-1)))))
theorem e28(i)(lc:F8 Z6 b85 c2J):NL lc (d7F i) (fun s=>b52 i s.1 s.2.1 s.2.2.1 s.2.2.2.1 s.2.2.2.2.1 s.2.2.2.2.2):=fun (r_5,Nodes4,Net4,Asked4,Told4,out5) h=>PK<|rg<|l8 G1 G4 3 h fun a3g h=>l8 a2y a3z 5 h fun a1R h=>H0 Nodes4 Net4 Asked4 Told4<|s9 out5<|rg<|(lc.nx h fun hI=>sk [] [0,3,4,5] [(1,0),(12,0),(12,1),(12,2),(12,3),(12,4)] hI)
def c0r(i:Int)(r_4:t8)(Nodes3:List j7)(Net3:List l9)(Asked3:List x6)(Told3:List n5)(out4:List q9):Option (l7 ((List q9)×t8) (t8×(List j7)×(List l9)×(List x6)×(List n5)×(List q9)×Int) (t8×List q9)):=
 ((F5 r_4 4).bind fun X6=>(((bif (X6.1==0) then ((F5 X6.2 3).bind fun a8f=>((a1f (m4.mk Nodes3 Net3 Asked3 Told3) out4 (q9.mk 7 a8f.1 [])).bind fun a1C=>some (m5.brk (a8f.2,a1C.1.a6,a1C.1.b9,a1C.1.d7,a1C.1.Told,a1C.2)))) else (bif (X6.1==1) then ((F5 X6.2 3).bind fun a8h=>((a1f (m4.mk Nodes3 Net3 Asked3 Told3) out4 (q9.mk 5 a8h.1 [])).bind fun a9e=>some (m5.brk (a8h.2,a9e.1.a6,a9e.1.b9,a9e.1.d7,a9e.1.Told,a9e.2)))) else some (m5.brk (X6.2,Nodes3,Net3,Asked3,Told3,out4)))):Option (m5 (l7 ((List q9)×t8) (t8×(List j7)×(List l9)×(List x6)×(List n5)×(List q9)×Int) (t8×List q9)) (t8×(List j7)×(List l9)×(List x6)×(List n5)×List q9))).bind fun x=>x.go some fun j=>b52 i j.1 j.2.1 j.2.2.1 j.2.2.2.1 j.2.2.2.2.1 j.2.2.2.2.2))
theorem f1K(i)(lc:F8 Z6 b85 c2J):NL lc (c4T i) (fun s=>c0r i s.1 s.2.1 s.2.2.1 s.2.2.2.1 s.2.2.2.2.1 s.2.2.2.2.2):=fun (r_4,Nodes3,Net3,Asked3,Told3,out4) h=>PK<|rg<|l8 G1 G4 1 h fun X6 h=>A9 h (e28 i lc) fun x2 h hc2=>rg<|j6 1 h (fun h=>rg<|l8 G1 G4 3 h fun a8f h=>l8 a2y a3z 5 h fun a1C h=>H0 Nodes3 Net3 Asked3 Told3<|s9 out4<|(p8 h hc2 fun hI=>sk [] [0,3,4,5] [(1,0),(16,0),(16,1),(16,2),(16,3),(16,4)] hI)) (fun h=>rg<|j6 1 h (fun h=>rg<|l8 G1 G4 3 h fun a8h h=>l8 a2y a3z 5 h fun a9e h=>H0 Nodes3 Net3 Asked3 Told3<|s9 out4<|(p8 h hc2 fun hI=>sk [] [0,3,4,5] [(1,0),(18,0),(18,1),(18,2),(18,3),(18,4)] hI)) (fun h=>(p8 h hc2 fun hI=>sk [] [0,3,4,5] [(1,0),(2,0),(3,0),(4,0),(5,0),(6,0)] hI)))
def d3V(i:Int):(t8×(List j7)×(List l9)×(List x6)×(List n5)×List q9)->KS:=fun (r_3,Nodes2,Net2,Asked2,Told2,out3)=>⟨Z6.k 8 [false,true,true],(.ptr 0 0 0::(bs 2 (.ptr 1 0 0::(.own 6 0 3 0 out3.length::(vi i::(bs 125 [])))))),[some [.var 92 [j8 1 K2 r_3.b,vi r_3.p]],some [.var 28 [.own 2 0 27 0 Nodes2.length,.own 3 0 13 0 Net2.length,.own 4 0 3 0 Asked2.length,.own 5 0 5 0 Told2.length]],some [C4 52 27 z6 Nodes2],some [m7 66 13 s6 Net2],some [m7 68 3 A2 Asked2],some [m7 62 5 x8 Told2],some [m7 37 3 H2 out3]]⟩
def e0b(i:Int):(t8×(List j7)×(List l9)×(List x6)×(List n5)×List q9)->KS:=fun (r_6,Nodes5,Net5,Asked5,Told5,out6)=>⟨Z6.k 11 [false,true,true,true,true],(.ptr 0 0 0::(bs 2 (.ptr 1 0 0::(.own 6 0 3 0 out6.length::(vi i::(bs 125 [])))))),[some [.var 92 [j8 1 K2 r_6.b,vi r_6.p]],some [.var 28 [.own 2 0 27 0 Nodes5.length,.own 3 0 13 0 Net5.length,.own 4 0 3 0 Asked5.length,.own 5 0 5 0 Told5.length]],some [C4 52 27 z6 Nodes5],some [m7 66 13 s6 Net5],some [m7 68 3 A2 Asked5],some [m7 62 5 x8 Told5],some [m7 37 3 H2 out6]]⟩
def b8t(r_6:t8)(Nodes5:List j7)(Net5:List l9)(Asked5:List x6)(Told5:List n5)(out6:List q9):Option (l7 ((List q9)×t8) (t8×(List j7)×(List l9)×(List x6)×(List n5)×List q9) (t8×(List j7)×(List l9)×(List x6)×(List n5)×List q9)):=
 ((F5 r_6 (Net5.length:Int)).bind fun a4X=>((a5A a4X.2 [0,0,a4X.1]).bind fun a7Q=>((a1f (m4.mk Nodes5 Net5 Asked5 Told5) out6 (q9.mk 2 a7Q.1 [])).bind fun a9z=>some (l7.nxt (a7Q.2,a9z.1.a6,a9z.1.b9,a9z.1.d7,a9z.1.Told,a9z.2)))))
theorem f4m(i)(lc:F8 Z6 (c4T i) (d3V i)):NL lc (e0b i) (fun s=>b8t s.1 s.2.1 s.2.2.1 s.2.2.2.1 s.2.2.2.2.1 s.2.2.2.2.2):=fun (r_6,Nodes5,Net5,Asked5,Told5,out6) h=>PK<|rg<|l8 G1 G4 7 h fun a4X h=>tk 8 []<|l8 b0U b2E 9 h fun a7Q h=>om (3=[0,0,a4X.1].length) (by simp)<|l8 a2y a3z 11 h fun a9z h=>H0 Nodes5 Net5 Asked5 Told5<|s9 out6<|(lc.nx h fun hI=>sk [] [0,3,4,5] [(1,0),(18,0),(18,1),(18,2),(18,3),(18,4)] hI)
def b1B(r_3:t8)(Nodes2:List j7)(Net2:List l9)(Asked2:List x6)(Told2:List n5)(out3:List q9):Option (l7 ((List q9)×t8) (t8×(List j7)×(List l9)×(List x6)×(List n5)×List q9) (t8×(List j7)×(List l9)×(List x6)×(List n5)×List q9)):=
 (bif decide ((Net2.length:Int)>0) then ((F5 r_3 9).bind fun a4E=>(bif decide (a4E.1>0) then (bif decide ((out3.length:Int)<200) then ((((F5 a4E.2 8).bind fun a6Y=>(bif (a6Y.1==0) then ((F5 a6Y.2 (Net2.length:Int)).bind fun a6F=>((a1f (m4.mk Nodes2 Net2 Asked2 Told2) out3 (q9.mk 4 a6F.1 [])).bind fun b0Y=>some (m5.brk (a6F.2,b0Y.1.a6,b0Y.1.b9,b0Y.1.d7,b0Y.1.Told,b0Y.2)))) else some (m5.brk (a6Y.2,Nodes2,Net2,Asked2,Told2,out3)))):Option (m5 (l7 ((List q9)×t8) (t8×(List j7)×(List l9)×(List x6)×(List n5)×List q9) (t8×(List j7)×(List l9)×(List x6)×(List n5)×List q9)) (t8×(List j7)×(List l9)×(List x6)×(List n5)×List q9))).bind fun x=>x.go some fun j=>b8t j.1 j.2.1 j.2.2.1 j.2.2.2.1 j.2.2.2.2.1 j.2.2.2.2.2) else some (l7.brk (a4E.2,Nodes2,Net2,Asked2,Told2,out3))) else some (l7.brk (a4E.2,Nodes2,Net2,Asked2,Told2,out3)))) else some (l7.brk (r_3,Nodes2,Net2,Asked2,Told2,out3)))
theorem f4l(i):LQ Z6 (c4T i) (d3V i) (fun s=>b1B s.1 s.2.1 s.2.2.1 s.2.2.2.1 s.2.2.2.2.1 s.2.2.2.2.2):=fun lc (r_3,Nodes2,Net2,Asked2,Told2,out3) h=>PK<|rg<|j6 4 h (fun h=>l8 G1 G4 6 h fun a4E h=>j6 9 h (fun h=>j6 13 h (fun h=>A9 h (f4m i lc) fun x3 h hc3=>rg<|l8 G1 G4 1 h fun a6Y h=>j6 2 h (fun h=>rg<|l8 G1 G4 6 h fun a6F h=>l8 a2y a3z 8 h fun b0Y h=>H0 Nodes2 Net2 Asked2 Told2<|s9 out3<|(p8 h hc3 fun hI=>sk [] [0,3,4,5] [(1,0),(32,0),(32,1),(32,2),(32,3),(32,4)] hI)) (fun h=>(p8 h hc3 fun hI=>sk [] [0,3,4,5] [(1,0),(2,0),(3,0),(4,0),(5,0),(6,0)] hI))) (fun h=>(lc.bk h fun hI=>sk [] [0,3,4,5] [(1,0),(2,0),(3,0),(4,0),(5,0),(6,0)] hI))) (fun h=>(lc.bk h fun hI=>sk [] [0,3,4,5] [(1,0),(2,0),(3,0),(4,0),(5,0),(6,0)] hI))) (fun h=>(lc.bk h fun hI=>sk [] [0,3,4,5] [(1,0),(2,0),(3,0),(4,0),(5,0),(6,0)] hI))
def a93(r_2:t8)(Nodes1:List j7)(Net1:List l9)(Asked1:List x6)(Told1:List n5)(out1:List q9)(i:Int):Option (l7 ((List q9)×t8) (t8×(List j7)×(List l9)×(List x6)×(List n5)×(List q9)×Int) (t8×List q9)):=
 (bif decide (i>0) then ((F5 r_2 3).bind fun Y7=>((a4L Y7.2).bind fun a4V=>((a1f (m4.mk Nodes1 Net1 Asked1 Told1) out1 (q9.mk 1 Y7.1 a4V.1)).bind fun a11=>((o9 (fun s:t8×(List j7)×(List l9)×(List x6)×(List n5)×List q9=>b1B s.1 s.2.1 s.2.2.1 s.2.2.2.1 s.2.2.2.2.1 s.2.2.2.2.2) (a4V.2,a11.1.a6,a11.1.b9,a11.1.d7,a11.1.Told,a11.2)).bind fun x=>x.go (fun r=>some (l7.ret r)) fun s=>c0r i s.1 s.2.1 s.2.2.1 s.2.2.2.1 s.2.2.2.2.1 s.2.2.2.2.2)))) else some (l7.brk (r_2,out1)))
theorem f3c:LQ Z6 b85 c2J (fun s=>a93 s.1 s.2.1 s.2.2.1 s.2.2.2.1 s.2.2.2.2.1 s.2.2.2.2.2.1 s.2.2.2.2.2.2):=fun lc (r_2,Nodes1,Net1,Asked1,Told1,out1,i) h=>PK<|rg<|j6 1 h (fun h=>rg<|l8 G1 G4 3 h fun Y7 h=>l8 a3m b4C 5 h fun a4V h=>l8 a2y a3z 7 h fun a11 h=>H0 Nodes1 Net1 Asked1 Told1<|C7 out1 a4V.1<|lp (f4l i) h (fun _ h=>lc.rt h) (f1K i lc) fun hI=>sk [] [0,3,4,5] [(1,0),(16,0),(16,1),(16,2),(16,3),(16,4)] hI) (fun h=>(lc.bk h fun hI=>sk [] [4] [(6,0)] hI))
def b8T(r_1:t8)(a6:List j7)(b9:List l9)(d7:List x6)(Told:List n5)(out:List q9):Option ((List q9)×t8):=
 ((F5 r_1 3).bind fun a0A=>((o9 (fun s:t8×(List j7)×(List l9)×(List x6)×(List n5)×(List q9)×Int=>a93 s.1 s.2.1 s.2.2.1 s.2.2.2.1 s.2.2.2.2.1 s.2.2.2.2.2.1 s.2.2.2.2.2.2) (a0A.2,a6,b9,d7,Told,out,m8 (3+a0A.1))).bind fun x=>x.go (fun r=>some r) fun s=>d5k s.1 s.2))
theorem e4a(r):NF Z6 r f1L (fun s=>b8T s.1 s.2.1 s.2.2.1 s.2.2.2.1 s.2.2.2.2.1 s.2.2.2.2.2):=fun (r_1,a6,b9,d7,Told,out) h=>PK<|rg<|l8 G1 G4 1 h fun a0A h=>lp (f3c) h (fun _ h=>Z6.rt h) (f4F r) fun hI=>sk [] [0,3,4,5] [(1,0),(2,0),(3,0),(4,0),(5,0),(6,0)] hI
def b60(r_:t8):Option ((List q9)×t8):=
 ((b3q).bind fun b0u=>((F5 r_ 3).bind fun pick=>((a1f b0u [] (q9.mk 5 pick.1 [])).bind fun T7=>((F5 pick.2 3).bind fun E7=>(bif decide (E7.1>0) then ((a5A E7.2 [10,30,60,90]).bind fun num=>((b7F num.2 T7.1 num.1).bind fun a8c=>(t5 ((T7.2.length+a8c.1.length)*40<=140737488355328) (some (T7.2++a8c.1,a8c.2))))) else ((((F5 E7.2 5).bind fun a6w=>(bif (a6w.1==0) then ((b9P a6w.2 T7.1 T7.2).bind fun a7Y=>some (m5.brk (a7Y.2.2,a7Y.1.a6,a7Y.1.b9,a7Y.1.d7,a7Y.1.Told,a7Y.2.1))) else some (m5.brk (a6w.2,T7.1.a6,T7.1.b9,T7.1.d7,T7.1.Told,T7.2)))):Option (m5 ((List q9)×t8) (t8×(List j7)×(List l9)×(List x6)×(List n5)×List q9))).bind fun x=>x.go some fun j=>b8T j.1 j.2.1 j.2.2.1 j.2.2.2.1 j.2.2.2.2.1 j.2.2.2.2.2))))))
theorem f0i{r_}:OK Z6 [.optr 92 (a0e r_)] (b60 r_):=
 o8 _ fun r h=>n7<|l8 a5E d5g 0 h fun b0u h=>l8 G1 G4 2 h fun pick h=>l8 a2y a3z 4 h fun T7 h=>B0 b0u<|rg<|l8 G1 G4 1 h fun E7 h=>j6 2 h (fun h=>rg<|tk 4 []<|l8 b0U b2E 5 h fun num h=>om (4=[10,30,60,90].length) (by simp)<|l8 a5x f3C 6 h fun a8c h=>B0 T7.1<|u0 h fun e1 h=>apL 7 23 37 3 40 H2 T7.2 a8c.1 e1<|C7 a8c.1 (T7.2++a8c.1)<|fE h) (fun h=>A9 h (e4a r) fun x1 h hc1=>rg<|l8 G1 G4 1 h fun a6w h=>j6 2 h (fun h=>rg<|l8 a1L d9b 3 h fun a7Y h=>B0 T7.1<|s9 T7.2<|(p8 h hc1 fun hI=>sk [] [0,3,4] [(10,0),(22,0),(22,1),(22,2),(22,3),(22,4)] hI)) (fun h=>(p8 h hc1 fun hI=>sk [] [0,3,4] [(10,0),(6,0),(6,1),(6,2),(6,3),(6,4)] hI)))
def c3l:FS (List q9):=⟨6,Tryz.f6,[.val [some 3] []],[none],[.val [some 1] []],fun r=>j8 3 H2 r,fun _=>[none],Tryz.func6⟩
def b4w(code:List Int):Option (List q9):=
 ((b7o code).bind fun d2K=>((b60 d2K).bind fun c2l=>some c2l.1))
theorem d3I{code}:OK c3l [j8 1 K2 code] (b4w code):=
 o8 _ fun r h=>n7<|l8 b8r f0Z 1 h fun d2K h=>l8 Z6 f0i 2 h fun c2l h=>s9 c2l.1<|fE h
def a8M:FS (Bool):=⟨163,Tryz.f163,[.val [] []],[none,none],[.val [some 2] [],.val [some 2] []],fun r=>.b r,fun _=>[none,none],Tryz.func163⟩
def d2y:Unit->KS:=fun _=>⟨a8M.k 4 [false,false],(bs 26 []),[some []]⟩
def d6H:Option Bool:=
 some true
theorem e38(r):NF a8M r d2y (fun s=>d6H):=fun _ h=>PK<|rg<|fE h
def e7i(a:List r9)(b:List r9):Int->KS:=fun v13=>⟨a8M.k 3 [false],(j8 2 w6 a::(j8 2 w6 b::(bs 10 (vi (a.length:Int)::(vi v13::(bs 12 [])))))),[some []]⟩
def b86(a:List r9)(b:List r9)(v13:Int):Option (l7 Bool Int Unit):=
 (bif decide (v13<(a.length:Int)) then ((idx a v13).bind fun read=>((idx b v13).bind fun T4=>(bif (!(([read.i6,read.j5]:List Int)==[T4.i6,T4.j5])) then some (l7.ret false) else some (l7.nxt (m8 (v13+1)))))) else some (l7.brk ()))
theorem f2C(a b):LQ a8M d2y (e7i a b) (fun s=>b86 a b s):=fun lc v13 h=>PK<|rg<|j6 0 h (fun h=>n7<|u9 w6 2 h fun read a4d h=>u9 w6 6 h fun T4 c72 h=>j6 8 h (fun h=>rg<|fL lc h) (fun h=>rg<|(lc.nx h fun hI=>sk [] [0,1,12,13] [] hI))) (fun h=>(lc.bk h fun hI=>sk [] [] [] hI))
def b9r(a:List r9)(b:List r9):Option Bool:=
 (bif ((a.length:Int) != (b.length:Int)) then some false else ((o9 (fun s:Int=>b86 a b s) 0).bind fun x=>x.go (fun r=>some r) fun s=>d6H))
theorem d9e{a b}:OK a8M [j8 2 w6 a,j8 2 w6 b] (b9r a b):=
 o8 _ fun r h=>n7<|j6 4 h (fun h=>rg<|fE h) (fun h=>rg<|lp (f2C a b) h (fun _ h=>a8M.rt h) (e38 r) fun hI=>sk [] [0,1,12,13] [] hI)
def a7F:FS (Bool):=⟨164,Tryz.f164,[.val [] []],[none,none],[.val [some 2] [],.val [some 2] []],fun r=>.b r,fun _=>[none,none],Tryz.func164⟩
def d4V:Unit->KS:=fun _=>⟨a7F.k 4 [false,false],(bs 26 []),[some []]⟩
def c6v:Option Bool:=
 some true
theorem e82(r):NF a7F r d4V (fun s=>c6v):=fun _ h=>PK<|rg<|fE h
def f5E(a:List p7)(b:List p7):Int->KS:=fun v13=>⟨a7F.k 3 [false],(j8 2 w8 a::(j8 2 w8 b::(bs 10 (vi (a.length:Int)::(vi v13::(bs 12 [])))))),[some []]⟩
def b5k(a:List p7)(b:List p7)(v13:Int):Option (l7 Bool Int Unit):=
 (bif decide (v13<(a.length:Int)) then ((idx a v13).bind fun put=>((idx b v13).bind fun put1=>(bif (!(([put.i6,put.g7]:List Int)==[put1.i6,put1.g7])) then some (l7.ret false) else some (l7.nxt (m8 (v13+1)))))) else some (l7.brk ()))
theorem f1E(a b):LQ a7F d4V (f5E a b) (fun s=>b5k a b s):=fun lc v13 h=>PK<|rg<|j6 0 h (fun h=>n7<|u9 w8 2 h fun put hput h=>u9 w8 6 h fun put1 b4s h=>j6 8 h (fun h=>rg<|fL lc h) (fun h=>rg<|(lc.nx h fun hI=>sk [] [0,1,12,13] [] hI))) (fun h=>(lc.bk h fun hI=>sk [] [] [] hI))
def b63(a:List p7)(b:List p7):Option Bool:=
 (bif ((a.length:Int) != (b.length:Int)) then some false else ((o9 (fun s:Int=>b5k a b s) 0).bind fun x=>x.go (fun r=>some r) fun s=>c6v))
theorem e9U{a b}:OK a7F [j8 2 w8 a,j8 2 w8 b] (b63 a b):=
 o8 _ fun r h=>n7<|j6 4 h (fun h=>rg<|fE h) (fun h=>rg<|lp (f1E a b) h (fun _ h=>a7F.rt h) (e82 r) fun hI=>sk [] [0,1,12,13] [] hI)
def c8y:FS (Bool):=⟨104,Tryz.f104,[.val [] []],[none,none],[.val O6 [],.val O6 []],fun r=>.b r,fun _=>[none,none],Tryz.func104⟩
def b5c(a:n6)(b:n6):Option Bool:=
 ((b9r a.b5 b.b5).bind fun read=>(bif read then ((b63 a.b6 b.b6).bind fun put=>(bif put then (bif (a.g7==b.g7) then some (a.Code==b.Code) else some false) else some false)) else some false))
theorem f0p{a b}:OK c8y [.agg (Q9 a),.agg (Q9 b)] (b5c a b):=
 o8 _ fun r h=>n7<|l8 a8M d9e 4 h fun read h=>j6 5 h (fun h=>l8 a7F e9U 10 h fun put h=>j6 12 h (fun h=>j6 19 h (fun h=>fE h) (fun h=>fE h)) (fun h=>fE h)) (fun h=>fE h)
def a06:FS (Bool):=⟨56,Tryz.f56,[.val [] []],[none,none],[.val K4 [],.val K4 []],fun r=>.b r,fun _=>[none,none],Tryz.func56⟩
def W0(a:m6)(b:m6):Option Bool:=
 (bif (a.i8==b.i8) then (bif (([a.a0.c8,a.a0.Seq]:List Int)==[b.a0.c8,b.a0.Seq]) then ((b5c a.b8 b.b8).bind fun a3b=>some a3b) else some false) else some false)
theorem a09{a b}:OK a06 [.agg (t6 a),.agg (t6 b)] (W0 a b):=
 o8 _ fun r h=>n7<|j6 5 h (fun h=>j6 12 h (fun h=>l8 c8y f0p 17 h fun a3b h=>fE h) (fun h=>fE h)) (fun h=>fE h)
def b0a:FS (Bool):=⟨35,Tryz.f35,[.val [] []],[none],[.val [] []],fun r=>.b r,fun _=>[none],Tryz.func35⟩
def a6m(q:o7):Option Bool:=
 ((D8 q.c8 0 2).bind fun in_=>(bif in_ then ((D8 q.Seq 1 1000).bind fun in_1=>some in_1) else some false))
theorem b3L{q}:OK b0a [.agg (J0 q)] (a6m q):=
 o8 _ fun r h=>n7<|l8 D2 E6 2 h fun in_ h=>j6 3 h (fun h=>l8 D2 E6 6 h fun in_1 h=>fE h) (fun h=>fE h)
def a0s:FS (Bool):=⟨135,Tryz.f135,[.val [] []],[none],[.val O6 []],fun r=>.b r,fun _=>[none],Tryz.func135⟩
def e2x(r_:n6):Unit->KS:=fun _=>⟨a0s.k 2 [false],(bs 1 (.ptr 1 0 0::(bs 98 []))),[some [],some [.var 48 (a0U r_)]]⟩
def d0H(r_:n6):Unit->KS:=fun _=>⟨a0s.k 5 [false,false],(bs 1 (.ptr 1 0 0::(bs 2 (.ptr 2 0 0::(bs 95 []))))),[some [],some [.var 48 (a0U r_)],some [.arr 196 1 4 ((f6a 4 false).map eB)]]⟩
def d5y:Unit->KS:=fun _=>⟨a0s.k 7 [false,false,false],(bs 100 []),[some []]⟩
def d6m:Option Bool:=
 some true
theorem e4Z(r):NF a0s r d5y (fun s=>d6m):=fun _ h=>PK<|rg<|fE h
def d9j(r_:n6):((List Bool)×Int)->KS:=fun (put,v76)=>⟨a0s.k 6 [false,false],(bs 4 (.ptr 1 0 0::(bs 69 (j8 2 w8 r_.b6::(vi (r_.b6.length:Int)::(vi v76::(bs 23 []))))))),[some [],some [.arr 196 1 4 (put.map eB)]]⟩
def a90(r_:n6)(put:List Bool)(v76:Int):Option (l7 Bool ((List Bool)×Int) Unit):=
 (bif decide (v76<(r_.b6.length:Int)) then ((idx r_.b6 v76).bind fun put1=>((D8 put1.i6 0 3).bind fun in_=>(bif (!in_) then some (l7.ret false) else ((idx put put1.i6).bind fun y=>(t5 (put1.i6<4) ((bif y then some (l7.ret false) else ((D8 put1.g7 (-1000000) 1000000).bind fun in_1=>(bif (!in_1) then some (l7.ret false) else (t5 (put1.i6<4) (some (l7.nxt (put.set put1.i6.toNat true,m8 (v76+1)))))))))))))) else some (l7.brk ()))
theorem f1i(r_):LQ a0s d5y (d9j r_) (fun s=>a90 r_ s.1 s.2):=fun lc (put,v76) h=>PK<|rg<|j6 0 h (fun h=>rg<|u9 w8 0 h fun put1 b4s h=>rg<|l8 D2 E6 2 h fun in_ h=>j6 4 h (fun h=>rg<|fL lc h) (fun h=>A7 h fun y hy h=>u0 h fun e1 h=>ob (O9 hy)<|ob e1<|ob (U9 (enc:=eB) hy)<|tl (tr 8 (eB y))<|j6 10 h (fun h=>rg<|fL lc h) (fun h=>l8 D2 E6 13 h fun in_1 h=>j6 15 h (fun h=>rg<|fL lc h) (fun h=>rg<|u0 h fun e2 h=>ob (O9 hy)<|ob e2<|om (s8.arr 196 1 4 ((put.map eB).set (put1.i6.toNat) [.b true])=s8.arr 196 1 4 ((put.set put1.i6.toNat true).map eB)) (a7t rfl)<|ob (U9 (enc:=eB) hy)<|tl (3,{a:=.rowck (eB y) [],e:=some (.arr 196 1 4 ((put.set put1.i6.toNat true).map eB))})<|rg<|(lc.nx h fun hI=>sk [] [4,74,75,76] [(1,0)] hI))))) (fun h=>(lc.bk h fun hI=>sk [] [] [] hI))
def c4G(r_:n6):Option Bool:=
 ((o9 (fun s:(List Bool)×Int=>a90 r_ s.1 s.2) (f6a 4 false,0)).bind fun x=>x.go (fun r=>some r) fun s=>d6m)
theorem e6U(r_)(r):NF a0s r (d0H r_) (fun s=>c4G r_):=fun _ h=>PK<|rg<|lp (f1i r_) h (fun _ h=>a0s.rt h) (e4Z r) fun hI=>sk [] [4,74,75,76] [(2,0)] hI
def f1w(r_:n6):((List Bool)×Int)->KS:=fun (read,v49)=>⟨a0s.k 4 [false],(bs 1 (.ptr 1 0 0::(bs 1 (.ptr 2 0 0::(.ptr 3 0 0::(bs 42 (j8 2 w6 r_.b5::(vi (r_.b5.length:Int)::(vi v49::(bs 50 [])))))))))),[some [],some [.var 48 (a0U r_)],some [.arr 196 1 4 (read.map eB)],some [.arr 196 1 4 ((f6a 4 false).map eB)]]⟩
def a9V(r_:n6)(read:List Bool)(v49:Int):Option (l7 Bool ((List Bool)×Int) Unit):=
 (bif decide (v49<(r_.b5.length:Int)) then ((idx r_.b5 v49).bind fun T4=>((D8 T4.i6 0 3).bind fun in_2=>(bif (!in_2) then some (l7.ret false) else ((idx read T4.i6).bind fun y1=>(t5 (T4.i6<4) ((bif y1 then some (l7.ret false) else ((D8 T4.j5 0 1000000).bind fun a0j=>(bif (!a0j) then some (l7.ret false) else (t5 (T4.i6<4) (some (l7.nxt (read.set T4.i6.toNat true,m8 (v49+1)))))))))))))) else some (l7.brk ()))
theorem e8e(r_):LQ a0s (d0H r_) (f1w r_) (fun s=>a9V r_ s.1 s.2):=fun lc (read,v49) h=>PK<|rg<|j6 0 h (fun h=>rg<|u9 w6 0 h fun T4 c72 h=>rg<|l8 D2 E6 2 h fun in_2 h=>j6 4 h (fun h=>rg<|fL lc h) (fun h=>A7 h fun y1 hy1 h=>u0 h fun e3 h=>ob (O9 hy1)<|ob e3<|ob (U9 (enc:=eB) hy1)<|tl (tr 8 (eB y1))<|j6 10 h (fun h=>rg<|fL lc h) (fun h=>l8 D2 E6 13 h fun a0j h=>j6 15 h (fun h=>rg<|fL lc h) (fun h=>rg<|u0 h fun e4 h=>ob (O9 hy1)<|ob e4<|om (s8.arr 196 1 4 ((read.map eB).set (T4.i6.toNat) [.b true])=s8.arr 196 1 4 ((read.set T4.i6.toNat true).map eB)) (a7t rfl)<|ob (U9 (enc:=eB) hy1)<|tl (3,{a:=.rowck (eB y1) [],e:=some (.arr 196 1 4 ((read.set T4.i6.toNat true).map eB))})<|rg<|(lc.nx h fun hI=>sk [] [1,3,4,47,48,49] [(1,0),(2,0),(3,0)] hI))))) (fun h=>(lc.bk h fun hI=>sk [] [1,4] [(1,0),(3,0)] hI))
def b7R(r_:n6):Option Bool:=
 ((o9 (fun s:(List Bool)×Int=>a9V r_ s.1 s.2) (f6a 4 false,0)).bind fun x=>x.go (fun r=>some r) fun s=>c4G r_)
theorem f3J(r_)(r):NF a0s r (e2x r_) (fun s=>b7R r_):=fun _ h=>PK<|rg<|om ((f6a 4 ([.b false]:List V)).flatten=[.b false,.b false,.b false,.b false]/\([.b false]:List V).length=1) ⟨rfl,rfl⟩<|om ((f6a 4 ([.b false]:List V)).flatten=[.b false,.b false,.b false,.b false]/\([.b false]:List V).length=1) ⟨rfl,rfl⟩<|rg<|lp (e8e r_) h (fun _ h=>a0s.rt h) (e6U r_ r) fun hI=>sk [] [1,3,4,47,48,49] [(1,0),(2,0),(3,0)] hI
def b0m(r_:n6):Option Bool:=
 ((((D8 r_.Code 0 3).bind fun a5k=>(bif (!a5k) then some (m5.ret false) else ((D8 r_.g7 (-1000000) 1000000).bind fun a9h=>(bif (!a9h) then some (m5.ret false) else (bif (r_.Code != 0) then (bif (r_.g7 != 0) then some (m5.ret false) else (bif decide ((r_.b6.length:Int)>0) then some (m5.ret false) else (bif (r_.Code==3) then (bif decide ((r_.b5.length:Int)>0) then some (m5.ret false) else some (m5.brk ())) else some (m5.brk ())))) else (bif (r_.Code==3) then (bif decide ((r_.b5.length:Int)>0) then some (m5.ret false) else some (m5.brk ())) else some (m5.brk ()))))))):Option (m5 Bool Unit)).bind fun x=>x.go some fun j=>b7R r_)
theorem c5A{r_}:OK a0s [.agg (Q9 r_)] (b0m r_):=
 o8 _ fun r h=>rg<|A9 h (f3J r_ r) fun x1 h hc1=>rg<|l8 D2 E6 2 h fun a5k h=>j6 4 h (fun h=>rg<|(B8 h hc1 fun h=>fE h)) (fun h=>l8 D2 E6 7 h fun a9h h=>j6 10 h (fun h=>rg<|(B8 h hc1 fun h=>fE h)) (fun h=>j6 14 h (fun h=>j6 18 h (fun h=>rg<|(B8 h hc1 fun h=>fE h)) (fun h=>j6 26 h (fun h=>rg<|(B8 h hc1 fun h=>fE h)) (fun h=>j6 30 h (fun h=>j6 36 h (fun h=>rg<|(B8 h hc1 fun h=>fE h)) (fun h=>(p8 h hc1 fun hI=>sk [] [1] [(1,0)] hI))) (fun h=>(p8 h hc1 fun hI=>sk [] [1] [(1,0)] hI))))) (fun h=>j6 30 h (fun h=>j6 36 h (fun h=>rg<|(B8 h hc1 fun h=>fE h)) (fun h=>(p8 h hc1 fun hI=>sk [] [1] [(1,0)] hI))) (fun h=>(p8 h hc1 fun hI=>sk [] [1] [(1,0)] hI)))))
def a3f:FS (Bool):=⟨84,Tryz.f84,[.val [] []],[none],[.val K4 []],fun r=>.b r,fun _=>[none],Tryz.func84⟩
def a1z(e_:m6):Option Bool:=
 (bif e_.i8 then ((W0 e_ (m6.mk true (o7.mk 0 0) (n6.mk [] [] 0 0))).bind fun G3=>some G3) else ((a6m e_.a0).bind fun a6W=>(bif a6W then ((b0m e_.b8).bind fun a1v=>(bif a1v then some (e_.b8.Code != 3) else some false)) else some false)))
theorem a4p{e_}:OK a3f [.agg (t6 e_)] (a1z e_):=
 o8 _ fun r h=>n7<|j6 1 h (fun h=>rg<|l8 a06 a09 2 h fun G3 h=>fE h) (fun h=>rg<|l8 b0a b3L 2 h fun a6W h=>j6 3 h (fun h=>l8 a0s c5A 6 h fun a1v h=>j6 8 h (fun h=>fE h) (fun h=>fE h)) (fun h=>fE h))
def c7G:FS (Bool):=⟨138,Tryz.f138,[.val [] []],[none],[.val V3 []],fun r=>.b r,fun _=>[none],Tryz.func138⟩
def b6C(v_:m9):Option Bool:=
 (bif (v_.a8==0) then ((W0 v_.i0 (m6.mk false (o7.mk 0 0) (n6.mk [] [] 0 0))).bind fun G3=>some G3) else ((D8 v_.a8 1 3000).bind fun in_=>(bif in_ then ((a1z v_.i0).bind fun E5=>some E5) else some false)))
theorem f2s{v_}:OK c7G [.agg (p9 v_)] (b6C v_):=
 o8 _ fun r h=>n7<|j6 2 h (fun h=>rg<|l8 a06 a09 3 h fun G3 h=>fE h) (fun h=>rg<|l8 D2 E6 2 h fun in_ h=>j6 3 h (fun h=>l8 a3f a4p 6 h fun E5 h=>fE h) (fun h=>fE h))
def a2Q:FS (Bool):=⟨86,Tryz.f86,[.val [] []],[none],[.val [some 8] []],fun r=>.b r,fun _=>[none],Tryz.func86⟩
def d1X(list:List m9):Unit->KS:=fun _=>⟨a2Q.k 3 [false],(j8 8 p9 list::(bs 17 [])),[some []]⟩
def c2R(list:List m9):Option Bool:=
 some (decide ((list.length:Int)<=40))
theorem e4y(list)(r):NF a2Q r (d1X list) (fun s=>c2R list):=fun _ h=>PK<|rg<|fE h
def f5r(list:List m9):Int->KS:=fun v7=>⟨a2Q.k 2 [],(j8 8 p9 list::(bs 4 (j8 8 p9 list::(vi (list.length:Int)::(vi v7::(bs 10 [])))))),[some []]⟩
def b5X(list:List m9)(v7:Int):Option (l7 Bool Int Unit):=
 (bif decide (v7<(list.length:Int)) then ((idx list v7).bind fun vote=>((b6C vote).bind fun a0y=>(bif (!a0y) then some (l7.ret false) else some (l7.nxt (m8 (v7+1)))))) else some (l7.brk ()))
theorem e8r(list):LQ a2Q (d1X list) (f5r list) (fun s=>b5X list s):=fun lc v7 h=>PK<|rg<|j6 0 h (fun h=>rg<|u9 p9 0 h fun vote J3 h=>rg<|l8 c7G f2s 1 h fun a0y h=>j6 2 h (fun h=>rg<|fL lc h) (fun h=>rg<|(lc.nx h fun hI=>sk [] [0,5,6,7] [] hI))) (fun h=>(lc.bk h fun hI=>sk [] [0] [] hI))
def a5D(list:List m9):Option Bool:=
 ((o9 (fun s:Int=>b5X list s) 0).bind fun x=>x.go (fun r=>some r) fun s=>c2R list)
theorem b2X{list}:OK a2Q [j8 8 p9 list] (a5D list):=
 o8 _ fun r h=>n7<|lp (e8r list) h (fun _ h=>a2Q.rt h) (e4y list r) fun hI=>sk [] [0,5,6,7] [] hI
def a5e:FS (Bool):=⟨82,Tryz.f82,[.val [] []],[none],[.val [none,some 8] []],fun r=>.b r,fun _=>[none],Tryz.func82⟩
def d3c(a:z4):Unit->KS:=fun _=>⟨a5e.k 3 [false],(bs 1 (.ptr 1 0 0::(bs 24 []))),[some [],some [.var 40 [vi a.i4,j8 8 p9 a.a7]]]⟩
def c2c(a:z4):Option Bool:=
 ((D8 a.i4 0 3000).bind fun in_=>(bif in_ then ((a5D a.a7).bind fun M6=>some M6) else some false))
theorem f1t(a)(r):NF a5e r (d3c a) (fun s=>c2c a):=fun _ h=>PK<|rg<|l8 D2 E6 2 h fun in_ h=>j6 3 h (fun h=>l8 a2Q b2X 6 h fun M6 h=>fE h) (fun h=>fE h)
def e8i(a:z4):Int->KS:=fun v8=>⟨a5e.k 2 [],(bs 1 (.ptr 1 0 0::(bs 4 (j8 8 p9 a.a7::(vi (a.a7.length:Int)::(vi v8::(bs 17 []))))))),[some [],some [.var 40 [vi a.i4,j8 8 p9 a.a7]]]⟩
def b6g(a:z4)(v8:Int):Option (l7 Bool Int Unit):=
 (bif decide (v8<(a.a7.length:Int)) then ((idx a.a7 v8).bind fun vote=>(bif decide (vote.a8>a.i4) then some (l7.ret false) else some (l7.nxt (m8 (v8+1))))) else some (l7.brk ()))
theorem f4b(a):LQ a5e (d3c a) (e8i a) (fun s=>b6g a s):=fun lc v8 h=>PK<|rg<|j6 0 h (fun h=>rg<|u9 p9 0 h fun vote J3 h=>rg<|j6 4 h (fun h=>rg<|fL lc h) (fun h=>rg<|(lc.nx h fun hI=>sk [] [1,6,7,8] [(1,0)] hI))) (fun h=>(lc.bk h fun hI=>sk [] [1] [(1,0)] hI))
def b07(a:z4):Option Bool:=
 ((o9 (fun s:Int=>b6g a s) 0).bind fun x=>x.go (fun r=>some r) fun s=>c2c a)
theorem c55{a}:OK a5e [.agg (Z1 a)] (b07 a):=
 o8 _ fun r h=>n7<|lp (f4b a) h (fun _ h=>a5e.rt h) (f1t a r) fun hI=>sk [] [1,6,7,8] [(1,0)] hI
def a5y:FS (Bool):=⟨83,Tryz.f83,[.val [] []],[none],[.val [some 7] []],fun r=>.b r,fun _=>[none],Tryz.func83⟩
def d2x(list:List m6):Unit->KS:=fun _=>⟨a5y.k 3 [false],(j8 7 t6 list::(bs 17 [])),[some []]⟩
def c1d(list:List m6):Option Bool:=
 some (decide ((list.length:Int)<=40))
theorem f2R(list)(r):NF a5y r (d2x list) (fun s=>c1d list):=fun _ h=>PK<|rg<|fE h
def e0h(list:List m6):Int->KS:=fun v7=>⟨a5y.k 2 [],(j8 7 t6 list::(bs 4 (j8 7 t6 list::(vi (list.length:Int)::(vi v7::(bs 10 [])))))),[some []]⟩
def b6F(list:List m6)(v7:Int):Option (l7 Bool Int Unit):=
 (bif decide (v7<(list.length:Int)) then ((idx list v7).bind fun entry=>((a1z entry).bind fun E5=>(bif (!E5) then some (l7.ret false) else some (l7.nxt (m8 (v7+1)))))) else some (l7.brk ()))
theorem e4I(list):LQ a5y (d2x list) (e0h list) (fun s=>b6F list s):=fun lc v7 h=>PK<|rg<|j6 0 h (fun h=>rg<|u9 t6 0 h fun entry G9 h=>rg<|l8 a3f a4p 1 h fun E5 h=>j6 2 h (fun h=>rg<|fL lc h) (fun h=>rg<|(lc.nx h fun hI=>sk [] [0,5,6,7] [] hI))) (fun h=>(lc.bk h fun hI=>sk [] [0] [] hI))
def b0V(list:List m6):Option Bool:=
 ((o9 (fun s:Int=>b6F list s) 0).bind fun x=>x.go (fun r=>some r) fun s=>c1d list)
theorem c5d{list}:OK a5y [j8 7 t6 list] (b0V list):=
 o8 _ fun r h=>n7<|lp (e4I list) h (fun _ h=>a5y.rt h) (f2R list r) fun hI=>sk [] [0,5,6,7] [] hI
def a3V:FS (Bool):=⟨139,Tryz.f139,[.val [] []],[none],[.val [] []],fun r=>.b r,fun _=>[none],Tryz.func139⟩
def a2T(n:Int):Option Bool:=
 ((D8 n 0 3).bind fun in_=>some in_)
theorem a46{n}:OK a3V [vi n] (a2T n):=
 o8 _ fun r h=>n7<|l8 D2 E6 1 h fun in_ h=>fE h
def c0K:FS (Bool):=⟨140,Tryz.f140,[.val [] []],[none],[.val [] []],fun r=>.b r,fun _=>[none],Tryz.func140⟩
def b9t(n:Int):Option Bool:=
 ((D8 n 0 3).bind fun in_=>some in_)
theorem d2l{n}:OK c0K [vi n] (b9t n):=
 o8 _ fun r h=>n7<|l8 D2 E6 1 h fun in_ h=>fE h
def d5B:FS (Bool):=⟨87,Tryz.f87,[.val [] []],[none],[.val [] []],fun r=>.b r,fun _=>[none],Tryz.func87⟩
def b6r(x_:n9):Option Bool:=
 (bif (x_.a9==1) then ((a2T x_.A).bind fun c1=>(bif c1 then ((b9t x_.B).bind fun c2=>(bif c2 then some (x_.N==0) else some false)) else some false)) else (bif (x_.a9==2) then ((b9t x_.A).bind fun c21=>(bif c21 then ((a2T x_.B).bind fun c11=>(bif c11 then some (x_.N==0) else some false)) else some false)) else (bif (x_.a9==3) then ((a2T x_.A).bind fun c12=>(bif c12 then (bif (x_.B==0) then ((D8 x_.N (-1000000) 1000000).bind fun in_=>some in_) else some false) else some false)) else (bif (x_.a9==4) then ((a2T x_.A).bind fun c13=>(bif c13 then ((a2T x_.B).bind fun c14=>(bif c14 then some (x_.N==0) else some false)) else some false)) else (bif (x_.a9==5) then ((a2T x_.A).bind fun c15=>(bif c15 then ((a2T x_.B).bind fun c16=>(bif c16 then some (x_.N==0) else some false)) else some false)) else (bif (x_.a9==6) then ((a2T x_.A).bind fun c17=>(bif c17 then ((a2T x_.B).bind fun c18=>(bif c18 then ((D8 x_.N 1 10).bind fun in_1=>some in_1) else some false)) else some false)) else (bif (x_.a9==7) then (bif (x_.A==0) then (bif (x_.B==0) then some (x_.N==0) else some false) else some false) else some false)))))))
theorem d93{x_}:OK d5B [.agg (A0 x_)] (b6r x_):=
 o8 _ fun r h=>rg4<|rg<|j6 1 h (fun h=>rg<|l8 a3V a46 3 h fun c1 h=>j6 4 h (fun h=>l8 c0K d2l 8 h fun c2 h=>j6 10 h (fun h=>fE h) (fun h=>fE h)) (fun h=>fE h)) (fun h=>rg<|j6 1 h (fun h=>rg<|l8 c0K d2l 3 h fun c21 h=>j6 4 h (fun h=>l8 a3V a46 8 h fun c11 h=>j6 10 h (fun h=>fE h) (fun h=>fE h)) (fun h=>fE h)) (fun h=>rg<|j6 1 h (fun h=>rg<|l8 a3V a46 3 h fun c12 h=>j6 4 h (fun h=>j6 9 h (fun h=>l8 D2 E6 12 h fun in_ h=>fE h) (fun h=>fE h)) (fun h=>fE h)) (fun h=>rg<|j6 1 h (fun h=>rg<|l8 a3V a46 3 h fun c13 h=>j6 4 h (fun h=>l8 a3V a46 8 h fun c14 h=>j6 10 h (fun h=>fE h) (fun h=>fE h)) (fun h=>fE h)) (fun h=>rg<|j6 1 h (fun h=>rg<|l8 a3V a46 3 h fun c15 h=>j6 4 h (fun h=>l8 a3V a46 8 h fun c16 h=>j6 10 h (fun h=>fE h) (fun h=>fE h)) (fun h=>fE h)) (fun h=>rg<|j6 1 h (fun h=>rg<|l8 a3V a46 3 h fun c17 h=>j6 4 h (fun h=>l8 a3V a46 8 h fun c18 h=>j6 10 h (fun h=>l8 D2 E6 13 h fun in_1 h=>fE h) (fun h=>fE h)) (fun h=>fE h)) (fun h=>rg<|j6 1 h (fun h=>rg<|j6 3 h (fun h=>j6 8 h (fun h=>fE h) (fun h=>fE h)) (fun h=>fE h)) (fun h=>rg<|fE h)))))))
def a4r:FS (Bool):=⟨36,Tryz.f36,[.val [] []],[none],[.val [some 4] []],fun r=>.b r,fun _=>[none],Tryz.func36⟩
def c6c(list:List n9):Unit->KS:=fun _=>⟨a4r.k 3 [false],(j8 4 A0 list::(bs 17 [])),[some []]⟩
def c3u(list:List n9):Option Bool:=
 some (decide ((list.length:Int)<=10))
theorem e1r(list)(r):NF a4r r (c6c list) (fun s=>c3u list):=fun _ h=>PK<|rg<|fE h
def e5R(list:List n9):Int->KS:=fun v7=>⟨a4r.k 2 [],(j8 4 A0 list::(bs 4 (j8 4 A0 list::(vi (list.length:Int)::(vi v7::(bs 10 [])))))),[some []]⟩
def b95(list:List n9)(v7:Int):Option (l7 Bool Int Unit):=
 (bif decide (v7<(list.length:Int)) then ((idx list v7).bind fun ins=>((b6r ins).bind fun P5=>(bif (!P5) then some (l7.ret false) else some (l7.nxt (m8 (v7+1)))))) else some (l7.brk ()))
theorem e8q(list):LQ a4r (c6c list) (e5R list) (fun s=>b95 list s):=fun lc v7 h=>PK<|rg<|j6 0 h (fun h=>rg<|u9 A0 0 h fun ins hins h=>rg<|l8 d5B d93 1 h fun P5 h=>j6 2 h (fun h=>rg<|fL lc h) (fun h=>rg<|(lc.nx h fun hI=>sk [] [0,5,6,7] [] hI))) (fun h=>(lc.bk h fun hI=>sk [] [0] [] hI))
def a7P(list:List n9):Option Bool:=
 ((o9 (fun s:Int=>b95 list s) 0).bind fun x=>x.go (fun r=>some r) fun s=>c3u list)
theorem b6i{list}:OK a4r [j8 4 A0 list] (a7P list):=
 o8 _ fun r h=>n7<|lp (e8q list) h (fun _ h=>a4r.rt h) (e1r list r) fun hI=>sk [] [0,5,6,7] [] hI
def c3W:FS (Int):=⟨136,Tryz.f136,[.val [] []],[none],[.val [] []],fun r=>vi r,fun _=>[none],Tryz.func136⟩
def b39(bal:Int):Option Int:=
 ((D8 bal 1 3000).bind fun in_=>(bif (!in_) then some (-1) else some (f6D bal 3)))
theorem c7L{bal}:OK c3W [vi bal] (b39 bal):=
 o8 _ fun r h=>n7<|l8 D2 E6 1 h fun in_ h=>j6 2 h (fun h=>rg<|fE h) (fun h=>rg<|om (3≠(0:Int)) (by decide)<|fE h)
def c1D:FS (Bool):=⟨137,Tryz.f137,[.val [] []],[none,none],[.val [some 1] [],.val [] []],fun r=>.b r,fun _=>[none,none],Tryz.func137⟩
def b15(list:List Bool)(id:Int):Option Bool:=
 (bif ((list.length:Int)==3) then ((idx list id).bind fun y=>some y) else some false)
theorem d4I{list id}:OK c1D [j8 1 eB list,vi id] (b15 list id):=
 o8 _ fun r h=>n7<|j6 3 h (fun h=>u9 eB 6 h fun y hy h=>fE h) (fun h=>fE h)
def b8N:FS (Bool):=⟨85,Tryz.f85,[.val [] []],[none],[.val A8 []],fun r=>.b r,fun _=>[none],Tryz.func85⟩
def d8Y(n:j7):Bool->KS:=fun a9f=>⟨b8N.k 2 [],(bs 1 (.ptr 1 0 0::(bs 1 (.b a9f::(bs 92 []))))),[some [],some [.var 52 (Y2 n)]]⟩
def b45(n:j7)(a9f:Bool):Option Bool:=
 (bif (n.d8==0) then (bif (n.a8==0) then (bif ((n.c9.length:Int)==0) then (bif ((n.i5.length:Int)==0) then some a9f else some false) else some false) else some false) else ((b39 n.a8).bind fun a6L=>(bif (a6L != n.Id) then some false else (bif decide (n.a8>n.Acc.i4) then some false else ((a5D n.i5).bind fun M6=>(bif (!M6) then some false else (bif (n.d8==1) then ((b15 n.c9 n.Id).bind fun d0a=>(bif d0a then some a9f else some false)) else (bif (n.d8==2) then (bif ((n.c9.length:Int)==0) then some a9f else some false) else (bif (n.d8==3) then (bif ((n.c9.length:Int)==0) then ((a1z n.d6).bind fun E5=>(bif E5 then ((b15 n.a7 n.Id).bind fun d7a=>(bif d7a then some (decide ((n.a5.length:Int)<40)) else some false)) else some false)) else some false) else some false)))))))))
theorem e25(n)(r):NF b8N r (d8Y n) (fun s=>b45 n s):=fun a9f h=>PK<|n7<|j6 2 h (fun h=>rg<|j6 3 h (fun h=>j6 6 h (fun h=>j6 12 h (fun h=>fE h) (fun h=>fE h)) (fun h=>fE h)) (fun h=>fE h)) (fun h=>rg<|l8 c3W c7L 2 h fun a6L h=>j6 6 h (fun h=>rg<|fE h) (fun h=>j6 14 h (fun h=>rg<|fE h) (fun h=>l8 a2Q b2X 17 h fun M6 h=>j6 19 h (fun h=>rg<|fE h) (fun h=>n7<|j6 1 h (fun h=>rg<|l8 c1D d4I 4 h fun d0a h=>j6 5 h (fun h=>fE h) (fun h=>fE h)) (fun h=>rg<|j6 1 h (fun h=>rg<|j6 1 h (fun h=>fE h) (fun h=>fE h)) (fun h=>rg<|j6 1 h (fun h=>rg<|j6 1 h (fun h=>l8 a3f a4p 4 h fun E5 h=>j6 6 h (fun h=>l8 c1D d4I 11 h fun d7a h=>j6 13 h (fun h=>fE h) (fun h=>fE h)) (fun h=>fE h)) (fun h=>fE h)) (fun h=>rg<|fE h)))))))
def b3y(n:j7):Option Bool:=
 ((((W0 n.d6 (m6.mk false (o7.mk 0 0) (n6.mk [] [] 0 0))).bind fun G3=>(bif G3 then some (m5.brk ((n.a7.length:Int)==0)) else some (m5.brk false))):Option (m5 Bool Bool)).bind fun x=>x.go some fun j=>b45 n j)
theorem e0a{n}:OK b8N [.agg (w9 n)] (b3y n):=
 o8 _ fun r h=>rg<|A9 h (e25 n r) fun x1 h hc1=>rg<|l8 a06 a09 3 h fun G3 h=>j6 4 h (fun h=>(p8 h hc1 fun hI=>sk [] [1,3] [(1,0)] hI)) (fun h=>(p8 h hc1 fun hI=>sk [] [1,3] [(1,0)] hI))
def a0H:FS (Bool):=⟨33,Tryz.f33,[.val [] []],[none],[.val A8 []],fun r=>.b r,fun _=>[none],Tryz.func33⟩
def d1w(n:j7):Unit->KS:=fun _=>⟨a0H.k 4 [false,false],(bs 1 (.ptr 1 0 0::(bs 87 []))),[some [],some [.var 52 (Y2 n)]]⟩
def f0y(n:j7):Unit->KS:=fun _=>⟨a0H.k 6 [false,false,true,false],(bs 1 (.ptr 1 0 0::(bs 87 []))),[some [],some [.var 52 (Y2 n)]]⟩
def c0Y(n:j7):Option Bool:=
 ((b3y n).bind fun a0t=>some a0t)
theorem e3x(n)(r):NF a0H r (f0y n) (fun s=>c0Y n):=fun _ h=>PK<|rg<|l8 b8N e0a 1 h fun a0t h=>fE h
def b8q(n:j7):Option Bool:=
 (((bif n.i9 then ((a7P n.i7).bind fun E4=>(bif (!E4) then some (m5.ret false) else ((a1z n.b7).bind fun E5=>(bif (!E5) then some (m5.ret false) else (bif n.b7.i8 then some (m5.ret false) else (bif (!(([n.b7.a0.c8,n.b7.a0.Seq]:List Int)==[n.Id,n.Seq])) then some (m5.ret false) else some (m5.brk ()))))))) else (bif decide ((n.i7.length:Int)>0) then some (m5.ret false) else ((W0 n.b7 (m6.mk false (o7.mk 0 0) (n6.mk [] [] 0 0))).bind fun G3=>(bif (!G3) then some (m5.ret false) else some (m5.brk ()))))):Option (m5 Bool Unit)).bind fun x=>x.go some fun j=>c0Y n)
theorem e1M(n)(r):NF a0H r (d1w n) (fun s=>b8q n):=fun _ h=>PK<|A9 h (e3x n r) fun x1 h hc1=>rg<|j6 1 h (fun h=>rg<|l8 a4r b6i 2 h fun E4 h=>j6 4 h (fun h=>rg<|(B8 h hc1 fun h=>fE h)) (fun h=>l8 a3f a4p 7 h fun E5 h=>j6 10 h (fun h=>rg<|(B8 h hc1 fun h=>fE h)) (fun h=>j6 15 h (fun h=>rg<|(B8 h hc1 fun h=>fE h)) (fun h=>j6 25 h (fun h=>rg<|(B8 h hc1 fun h=>fE h)) (fun h=>(p8 h hc1 fun hI=>sk [] [1] [(1,0)] hI)))))) (fun h=>rg<|j6 4 h (fun h=>rg<|(B8 h hc1 fun h=>fE h)) (fun h=>l8 a06 a09 8 h fun G3 h=>j6 10 h (fun h=>rg<|(B8 h hc1 fun h=>fE h)) (fun h=>(p8 h hc1 fun hI=>sk [] [1] [(1,0)] hI))))
def f05(n:j7):Int->KS:=fun v36=>⟨a0H.k 3 [false],(bs 1 (.ptr 1 0 0::(bs 32 (j8 7 t6 n.d9::(vi (n.d9.length:Int)::(vi v36::(bs 52 []))))))),[some [],some [.var 52 (Y2 n)]]⟩
def b6V(n:j7)(v36:Int):Option (l7 Bool Int Unit):=
 (bif decide (v36<(n.d9.length:Int)) then ((idx n.d9 v36).bind fun entry=>((a1z entry).bind fun a3t=>(bif (!a3t) then some (l7.ret false) else (bif entry.i8 then some (l7.ret false) else some (l7.nxt (m8 (v36+1))))))) else some (l7.brk ()))
theorem f4C(n):LQ a0H (d1w n) (f05 n) (fun s=>b6V n s):=fun lc v36 h=>PK<|rg<|j6 0 h (fun h=>rg<|u9 t6 0 h fun entry G9 h=>rg<|l8 a3f a4p 1 h fun a3t h=>j6 3 h (fun h=>rg<|fL lc h) (fun h=>j6 6 h (fun h=>rg<|fL lc h) (fun h=>rg<|(lc.nx h fun hI=>sk [] [1,34,35,36] [(1,0)] hI)))) (fun h=>(lc.bk h fun hI=>sk [] [1] [(1,0)] hI))
def a4s(n:j7):Option Bool:=
 ((D8 n.Id 0 2).bind fun in_=>(bif (!in_) then some false else ((b07 n.Acc).bind fun P9=>(bif (!P9) then some false else ((b0V n.a5).bind fun G6=>(bif (!G6) then some false else ((D8 n.Seq 0 1000).bind fun in_1=>(bif (!in_1) then some false else (bif decide ((n.d9.length:Int)>4) then some false else ((o9 (fun s:Int=>b6V n s) 0).bind fun x=>x.go (fun r=>some r) fun s=>b8q n))))))))))
theorem a8p{n}:OK a0H [.agg (w9 n)] (a4s n):=
 o8 _ fun r h=>n7<|l8 D2 E6 2 h fun in_ h=>j6 4 h (fun h=>rg<|fE h) (fun h=>l8 a5e c55 7 h fun P9 h=>j6 10 h (fun h=>rg<|fE h) (fun h=>l8 a5y c5d 13 h fun G6 h=>j6 16 h (fun h=>rg<|fE h) (fun h=>l8 D2 E6 19 h fun in_1 h=>j6 22 h (fun h=>rg<|fE h) (fun h=>j6 27 h (fun h=>rg<|fE h) (fun h=>rg<|lp (f4C n) h (fun _ h=>a0H.rt h) (e1M n r) fun hI=>sk [] [1,34,35,36] [(1,0)] hI)))))
def c4u:FS (Bool):=⟨34,Tryz.f34,[.val [] []],[none],[.val B9 []],fun r=>.b r,fun _=>[none],Tryz.func34⟩
def b3K(m:l9):Option Bool:=
 ((D8 m.c9 0 2).bind fun in_=>(bif (!in_) then some false else ((D8 m.To 0 2).bind fun in_1=>(bif (!in_1) then some false else (bif (m.c9==m.To) then some false else ((D8 m.g8 0 40).bind fun in_2=>(bif (!in_2) then some false else ((D8 m.a8 1 3000).bind fun a0j=>((W0 m.i0 (m6.mk false (o7.mk 0 0) (n6.mk [] [] 0 0))).bind fun G3=>(bif (m.a9==1) then (bif a0j then (bif G3 then some ((m.a7.length:Int)==0) else some false) else some false) else (bif (m.a9==4) then (bif a0j then (bif G3 then some ((m.a7.length:Int)==0) else some false) else some false) else (bif (m.a9==2) then (bif a0j then (bif G3 then ((a5D m.a7).bind fun M6=>(bif M6 then some (decide ((m8 (m.g8+(m.a7.length:Int)))<=40)) else some false)) else some false) else some false) else (bif (m.a9==3) then (bif a0j then (bif decide (m.g8<40) then ((a1z m.i0).bind fun E5=>(bif E5 then some ((m.a7.length:Int)==0) else some false)) else some false) else some false) else (bif (m.a9==5) then (bif (m.a8==0) then (bif decide (m.g8<40) then ((a1z m.i0).bind fun a3t=>(bif a3t then some ((m.a7.length:Int)==0) else some false)) else some false) else some false) else (bif (m.a9==6) then (bif a0j then (bif (m.g8==0) then (bif G3 then some ((m.a7.length:Int)==0) else some false) else some false) else some false) else (bif (m.a9==7) then (bif (m.a8==0) then (bif (m.g8==0) then ((a1z m.i0).bind fun c8f=>(bif c8f then (bif (!m.i0.i8) then some ((m.a7.length:Int)==0) else some false) else some false)) else some false) else some false) else (bif (m.a9==8) then (bif (m.a8==0) then (bif G3 then some ((m.a7.length:Int)==0) else some false) else some false) else some false)))))))))))))))))
theorem c8a{m}:OK c4u [.agg (s6 m)] (b3K m):=
 o8 _ fun r h=>n7<|l8 D2 E6 2 h fun in_ h=>j6 4 h (fun h=>rg<|fE h) (fun h=>l8 D2 E6 7 h fun in_1 h=>j6 10 h (fun h=>rg<|fE h) (fun h=>j6 17 h (fun h=>rg<|fE h) (fun h=>l8 D2 E6 20 h fun in_2 h=>j6 22 h (fun h=>rg<|fE h) (fun h=>rg<|l8 D2 E6 2 h fun a0j h=>rg<|l8 a06 a09 3 h fun G3 h=>N7<|j6 1 h (fun h=>rg<|j6 1 h (fun h=>j6 4 h (fun h=>fE h) (fun h=>fE h)) (fun h=>fE h)) (fun h=>rg<|j6 1 h (fun h=>rg<|j6 1 h (fun h=>j6 4 h (fun h=>fE h) (fun h=>fE h)) (fun h=>fE h)) (fun h=>rg<|j6 1 h (fun h=>rg<|j6 1 h (fun h=>j6 4 h (fun h=>l8 a2Q b2X 7 h fun M6 h=>j6 9 h (fun h=>fE h) (fun h=>fE h)) (fun h=>fE h)) (fun h=>fE h)) (fun h=>rg<|j6 1 h (fun h=>rg<|j6 1 h (fun h=>j6 6 h (fun h=>l8 a3f a4p 9 h fun E5 h=>j6 11 h (fun h=>fE h) (fun h=>fE h)) (fun h=>fE h)) (fun h=>fE h)) (fun h=>rg<|j6 1 h (fun h=>rg<|j6 3 h (fun h=>j6 8 h (fun h=>l8 a3f a4p 11 h fun a3t h=>j6 13 h (fun h=>fE h) (fun h=>fE h)) (fun h=>fE h)) (fun h=>fE h)) (fun h=>rg<|j6 1 h (fun h=>rg<|j6 1 h (fun h=>j6 6 h (fun h=>j6 9 h (fun h=>fE h) (fun h=>fE h)) (fun h=>fE h)) (fun h=>fE h)) (fun h=>rg<|j6 1 h (fun h=>rg<|j6 3 h (fun h=>j6 8 h (fun h=>l8 a3f a4p 11 h fun c8f h=>j6 13 h (fun h=>j6 19 h (fun h=>fE h) (fun h=>fE h)) (fun h=>fE h)) (fun h=>fE h)) (fun h=>fE h)) (fun h=>rg<|j6 1 h (fun h=>rg<|j6 3 h (fun h=>j6 6 h (fun h=>fE h) (fun h=>fE h)) (fun h=>fE h)) (fun h=>rg<|fE h))))))))))))
def L1:FS (Bool):=⟨12,Tryz.f12,[.val [] []],[none],[.val D4 []],fun r=>.b r,fun _=>[none],Tryz.func12⟩
def c81(w:m4):Unit->KS:=fun _=>⟨L1.k 4 [false,false],(bs 1 (.ptr 1 0 0::(bs 116 []))),[some [],some [.var 28 (D5 w)]]⟩
def d0w(w:m4):Unit->KS:=fun _=>⟨L1.k 6 [false,false,false],(bs 1 (.ptr 1 0 0::(bs 116 []))),[some [],some [.var 28 (D5 w)]]⟩
def d2V(w:m4):Unit->KS:=fun _=>⟨L1.k 8 [false,false,false,false],(bs 1 (.ptr 1 0 0::(bs 116 []))),[some [],some [.var 28 (D5 w)]]⟩
def c7d:Unit->KS:=fun _=>⟨L1.k 10 [false,false,false,false,false],(bs 118 []),[some []]⟩
def d35:Option Bool:=
 some true
theorem f0w(r):NF L1 r c7d (fun s=>d35):=fun _ h=>PK<|rg<|fE h
def f5A(w:m4):Int->KS:=fun v83=>⟨L1.k 9 [false,false,false,false],(bs 81 (j8 5 x8 w.Told::(vi (w.Told.length:Int)::(vi v83::(bs 34 []))))),[some []]⟩
def b9m(w:m4)(v83:Int):Option (l7 Bool Int Unit):=
 (bif decide (v83<(w.Told.length:Int)) then ((idx w.Told v83).bind fun told=>((D8 told.Node 0 2).bind fun in_=>(bif (!in_) then some (l7.ret false) else ((a6m told.a0).bind fun a6W=>(bif (!a6W) then some (l7.ret false) else (bif (told.a0.c8 != told.Node) then some (l7.ret false) else ((D8 told.Code 0 4).bind fun in_1=>(bif (!in_1) then some (l7.ret false) else ((D8 told.g7 (-1000000) 1000000).bind fun in_2=>(bif (!in_2) then some (l7.ret false) else some (l7.nxt (m8 (v83+1))))))))))))) else some (l7.brk ()))
theorem e55(w):LQ L1 c7d (f5A w) (fun s=>b9m w s):=fun lc v83 h=>PK<|rg<|j6 0 h (fun h=>rg<|u9 x8 0 h fun told a4G h=>rg<|l8 D2 E6 2 h fun in_ h=>j6 4 h (fun h=>rg<|fL lc h) (fun h=>l8 b0a b3L 7 h fun a6W h=>j6 10 h (fun h=>rg<|fL lc h) (fun h=>j6 18 h (fun h=>rg<|fL lc h) (fun h=>l8 D2 E6 21 h fun in_1 h=>j6 24 h (fun h=>rg<|fL lc h) (fun h=>l8 D2 E6 27 h fun in_2 h=>j6 29 h (fun h=>rg<|fL lc h) (fun h=>rg<|(lc.nx h fun hI=>sk [] [81,82,83] [] hI))))))) (fun h=>(lc.bk h fun hI=>sk [] [] [] hI))
def b6B(w:m4):Option Bool:=
 ((o9 (fun s:Int=>b9m w s) 0).bind fun x=>x.go (fun r=>some r) fun s=>d35)
theorem f5c(w)(r):NF L1 r (d2V w) (fun s=>b6B w):=fun _ h=>PK<|rg<|lp (e55 w) h (fun _ h=>L1.rt h) (f0w r) fun hI=>sk [] [81,82,83] [] hI
def e3t(w:m4):Int->KS:=fun v65=>⟨L1.k 7 [false,false,false],(bs 1 (.ptr 1 0 0::(bs 61 (j8 3 A2 w.d7::(vi (w.d7.length:Int)::(vi v65::(bs 52 []))))))),[some [],some [.var 28 (D5 w)]]⟩
def c0g(w:m4)(v65:Int):Option (l7 Bool Int Unit):=
 (bif decide (v65<(w.d7.length:Int)) then ((idx w.d7 v65).bind fun asked=>((a6m asked.a0).bind fun b33=>(bif (!b33) then some (l7.ret false) else ((a7P asked.i7).bind fun E4=>(bif (!E4) then some (l7.ret false) else some (l7.nxt (m8 (v65+1)))))))) else some (l7.brk ()))
theorem f2m(w):LQ L1 (d2V w) (e3t w) (fun s=>c0g w s):=fun lc v65 h=>PK<|rg<|j6 0 h (fun h=>rg<|u9 A2 0 h fun asked a8W h=>rg<|l8 b0a b3L 2 h fun b33 h=>j6 4 h (fun h=>rg<|fL lc h) (fun h=>l8 a4r b6i 7 h fun E4 h=>j6 9 h (fun h=>rg<|fL lc h) (fun h=>rg<|(lc.nx h fun hI=>sk [] [1,63,64,65] [(1,0)] hI)))) (fun h=>(lc.bk h fun hI=>sk [] [1] [(1,0)] hI))
def b5t(w:m4):Option Bool:=
 ((o9 (fun s:Int=>c0g w s) 0).bind fun x=>x.go (fun r=>some r) fun s=>b6B w)
theorem e9R(w)(r):NF L1 r (d0w w) (fun s=>b5t w):=fun _ h=>PK<|rg<|lp (f2m w) h (fun _ h=>L1.rt h) (f5c w r) fun hI=>sk [] [1,63,64,65] [(1,0)] hI
def f3x(w:m4):Int->KS:=fun v54=>⟨L1.k 5 [false,false],(bs 1 (.ptr 1 0 0::(bs 50 (j8 13 s6 w.b9::(vi (w.b9.length:Int)::(vi v54::(bs 63 []))))))),[some [],some [.var 28 (D5 w)]]⟩
def b6j(w:m4)(v54:Int):Option (l7 Bool Int Unit):=
 (bif decide (v54<(w.b9.length:Int)) then ((idx w.b9 v54).bind fun msg=>((b3K msg).bind fun Q5=>(bif (!Q5) then some (l7.ret false) else some (l7.nxt (m8 (v54+1)))))) else some (l7.brk ()))
theorem f4X(w):LQ L1 (d0w w) (f3x w) (fun s=>b6j w s):=fun lc v54 h=>PK<|rg<|j6 0 h (fun h=>rg<|u9 s6 0 h fun msg hmsg h=>rg<|l8 c4u c8a 1 h fun Q5 h=>j6 2 h (fun h=>rg<|fL lc h) (fun h=>rg<|(lc.nx h fun hI=>sk [] [1,52,53,54] [(1,0)] hI))) (fun h=>(lc.bk h fun hI=>sk [] [1] [(1,0)] hI))
def b6c(w:m4):Option Bool:=
 ((o9 (fun s:Int=>b6j w s) 0).bind fun x=>x.go (fun r=>some r) fun s=>b5t w)
theorem f4H(w)(r):NF L1 r (c81 w) (fun s=>b6c w):=fun _ h=>PK<|rg<|lp (f4X w) h (fun _ h=>L1.rt h) (e9R w r) fun hI=>sk [] [1,52,53,54] [(1,0)] hI
def e3S(w:m4):Int->KS:=fun v36=>⟨L1.k 3 [false],(bs 1 (.ptr 1 0 0::(bs 32 (j8 27 w9 w.a6::(vi (w.a6.length:Int)::(vi v36::(bs 81 []))))))),[some [],some [.var 28 (D5 w)]]⟩
def b5x(w:m4)(v36:Int):Option (l7 Bool Int Unit):=
 (bif decide (v36<(w.a6.length:Int)) then ((idx w.a6 v36).bind fun node=>(bif (node.Id != v36) then some (l7.ret false) else ((a4s node).bind fun D6=>(bif (!D6) then some (l7.ret false) else some (l7.nxt (m8 (v36+1))))))) else some (l7.brk ()))
theorem e0J(w):LQ L1 (c81 w) (e3S w) (fun s=>b5x w s):=fun lc v36 h=>PK<|rg<|j6 0 h (fun h=>rg<|u9 w9 1 h fun node hnode h=>rg<|j6 4 h (fun h=>rg<|fL lc h) (fun h=>l8 a0H a8p 6 h fun D6 h=>j6 8 h (fun h=>rg<|fL lc h) (fun h=>rg<|(lc.nx h fun hI=>sk [] [1,34,35,36] [(1,0)] hI)))) (fun h=>(lc.bk h fun hI=>sk [] [1] [(1,0)] hI))
def a2h(w:m4):Option Bool:=
 (bif ((w.a6.length:Int) != 3) then some false else (bif decide ((w.b9.length:Int)>40) then some false else (bif decide ((w.d7.length:Int)>60) then some false else (bif decide ((w.Told.length:Int)>60) then some false else ((o9 (fun s:Int=>b5x w s) 0).bind fun x=>x.go (fun r=>some r) fun s=>b6c w)))))
theorem a5o{w}:OK L1 [.agg (P4 w)] (a2h w):=
 o8 _ fun r h=>n7<|j6 4 h (fun h=>rg<|fE h) (fun h=>j6 10 h (fun h=>rg<|fE h) (fun h=>j6 16 h (fun h=>rg<|fE h) (fun h=>j6 21 h (fun h=>rg<|fE h) (fun h=>rg<|lp (e0J w) h (fun _ h=>L1.rt h) (f4H w r) fun hI=>sk [] [1,34,35,36] [(1,0)] hI))))
def b10:FS (p6):=⟨144,Tryz.f144,[.ptr I7 om7],[none],[.val A8 []],fun r=>.optr 171 (c0f r),fun _=>[none],Tryz.func144⟩
def a7N(n:j7):Option p6:=
 ((a7X n).bind fun Y4=>some (p6.mk Y4 [] []))
theorem b5e{n}:OK b10 [.agg (w9 n)] (a7N n):=
 o8 _ fun r h=>n7<|l8 b3c b56 1 h fun Y4 h=>J5 Y4<|fE h
def a39:FS (j7×(List l9)×(List n5)×p6):=⟨145,Tryz.f145,[.val A8 [],.val [some 13] [],.val [some 5] []],[some (0,.ptr I7 [])],[.ptr I7 []],fun r=>.tup [.agg (w9 r.1),j8 13 s6 r.2.1,j8 5 x8 r.2.2.1],fun r=>[some (.optr 171 (d3N r.2.2.2))],Tryz.func145⟩
def a1X(a:p6):Option (j7×(List l9)×(List n5)×p6):=
 ((a7X a.n).bind fun Y4=>((b3u a.out).bind fun msgsCopy=>((b8c a.told).bind fun told=>some (Y4,msgsCopy,told,a))))
theorem a4I{a}:OK a39 [.optr 171 (d3N a)] (a1X a):=
 o8 _ fun r h=>n7<|l8 b3c b56 4 h fun Y4 h=>l8 a6X c6Z 9 h fun msgsCopy h=>l8 c5p c78 14 h fun told h=>J5 Y4<|C7 msgsCopy told<|fE h
def c1s:FS (List n8):=⟨77,Tryz.f77,[.val [some 2] [some 156]],[],[],fun r=>v5 156 2 z7 r,fun _=>[],Tryz.func77⟩
def b4d:Option (List n8):=
 (t5 (0<=(4:Int)/\(4:Int)*16<=140737488355328) (some (f6a (4:Int).toNat (n8.mk 0 0))))
theorem d6f:OK c1s [] b4d:=
 o8 _ fun r h=>n7<|u0 h fun e1 h=>T3 0 2 156 2 16 z7 (n8.mk 0 0) b3S (.none) e1 (by decide) (by rfl)<|s9 (f6a (4:Int).toNat (n8.mk 0 0))<|fE h
def d1g:FS (u7):=⟨133,Tryz.f133,[.val [none,some 2,some 4] [none,some 156,some 194]],[],[],fun r=>.agg (b4K r),fun _=>[],Tryz.func133⟩
def b82:Option u7:=
 ((b4d).bind fun a26=>some (u7.mk 0 a26 []))
theorem e35:OK d1g [] b82:=
 o8 _ fun r h=>n7<|l8 c1s d6f 0 h fun a26 h=>s9 a26<|fE h
def a2U:FS (Bool):=⟨128,Tryz.f128,[.val [] []],[none],[.val [some 2] []],fun r=>.b r,fun _=>[none],Tryz.func128⟩
def d1P(list:List n8):Unit->KS:=fun _=>⟨a2U.k 3 [false],(j8 2 z7 list::(bs 24 [])),[some []]⟩
def c1G(list:List n8):Option Bool:=
 some ((list.length:Int)==4)
theorem e3r(list)(r):NF a2U r (d1P list) (fun s=>c1G list):=fun _ h=>PK<|rg<|fE h
def e9x(list:List n8):Int->KS:=fun v7=>⟨a2U.k 2 [],(j8 2 z7 list::(bs 4 (j8 2 z7 list::(vi (list.length:Int)::(vi v7::(bs 17 [])))))),[some []]⟩
def b8v(list:List n8)(v7:Int):Option (l7 Bool Int Unit):=
 (bif decide (v7<(list.length:Int)) then ((idx list v7).bind fun box=>((D8 box.j5 0 1000000).bind fun in_=>(bif (!in_) then some (l7.ret false) else ((D8 box.g7 (-1000000) 1000000).bind fun in_1=>(bif (!in_1) then some (l7.ret false) else some (l7.nxt (m8 (v7+1)))))))) else some (l7.brk ()))
theorem e3T(list):LQ a2U (d1P list) (e9x list) (fun s=>b8v list s):=fun lc v7 h=>PK<|rg<|j6 0 h (fun h=>rg<|u9 z7 0 h fun box a2I h=>rg<|l8 D2 E6 2 h fun in_ h=>j6 4 h (fun h=>rg<|fL lc h) (fun h=>l8 D2 E6 7 h fun in_1 h=>j6 9 h (fun h=>rg<|fL lc h) (fun h=>rg<|(lc.nx h fun hI=>sk [] [0,5,6,7] [] hI)))) (fun h=>(lc.bk h fun hI=>sk [] [0] [] hI))
def a5C(list:List n8):Option Bool:=
 ((o9 (fun s:Int=>b8v list s) 0).bind fun x=>x.go (fun r=>some r) fun s=>c1G list)
theorem b4F{list}:OK a2U [j8 2 z7 list] (a5C list):=
 o8 _ fun r h=>n7<|lp (e3T list) h (fun _ h=>a2U.rt h) (e3r list r) fun hI=>sk [] [0,5,6,7] [] hI
def a5p:FS (Bool):=⟨185,Tryz.f185,[.val [] []],[none],[.val [none,some 2,some 4] []],fun r=>.b r,fun _=>[none],Tryz.func185⟩
def c1e(s_:u7):Unit->KS:=fun _=>⟨a5p.k 3 [false],(bs 1 (.ptr 1 0 0::(bs 64 []))),[some [],some [.var 123 [vi s_.At,j8 2 z7 s_.g9,j8 4 B7 s_.j4]]]⟩
def c1S(s_:u7):Option Bool:=
 ((D8 s_.At 0 40).bind fun in_=>(bif in_ then ((a5C s_.g9).bind fun W1=>some W1) else some false))
theorem e61(s_)(r):NF a5p r (c1e s_) (fun s=>c1S s_):=fun _ h=>PK<|rg<|l8 D2 E6 2 h fun in_ h=>j6 3 h (fun h=>l8 a2U b4F 6 h fun W1 h=>fE h) (fun h=>fE h)
def d1N(s_:u7):Int->KS:=fun v8=>⟨a5p.k 2 [],(bs 1 (.ptr 1 0 0::(bs 4 (j8 4 B7 s_.j4::(vi (s_.j4.length:Int)::(vi v8::(bs 57 []))))))),[some [],some [.var 123 [vi s_.At,j8 2 z7 s_.g9,j8 4 B7 s_.j4]]]⟩
def e3H(s_:u7)(v8:Int):Unit->KS:=fun _=>⟨a5p.k 5 [true,false],(bs 1 (.ptr 1 0 0::(bs 4 (j8 4 B7 s_.j4::(vi (s_.j4.length:Int)::(vi v8::(bs 57 []))))))),[some [],some [.var 123 [vi s_.At,j8 2 z7 s_.g9,j8 4 B7 s_.j4]]]⟩
def c5H(v8:Int):Option (l7 Bool Int Unit):=
 some (l7.nxt (m8 (v8+1)))
theorem f5g(s_ v8)(lc:F8 a5p (c1e s_) (d1N s_)):NL lc (e3H s_ v8) (fun s=>c5H v8):=fun _ h=>PK<|rg<|(lc.nx h fun hI=>sk [] [1,6,7,8] [(1,0)] hI)
def b3s(s_:u7)(v8:Int):Option (l7 Bool Int Unit):=
 (bif decide (v8<(s_.j4.length:Int)) then ((idx s_.j4 v8).bind fun done=>(((bif decide (v8>0) then ((idx s_.j4 (m8 (v8-1))).bind fun a5g=>(bif decide (a5g.a0.c8>=done.a0.c8) then some (m5.ret (l7.ret false)) else ((a6m done.a0).bind fun a6W=>(bif (!a6W) then some (m5.ret (l7.ret false)) else ((D8 done.Code 0 2).bind fun in_1=>(bif (!in_1) then some (m5.ret (l7.ret false)) else ((D8 done.g7 (-1000000) 1000000).bind fun in_2=>(bif (!in_2) then some (m5.ret (l7.ret false)) else (bif (done.Code != 0) then (bif (done.g7 != 0) then some (m5.ret (l7.ret false)) else some (m5.brk ())) else some (m5.brk ())))))))))) else ((a6m done.a0).bind fun b33=>(bif (!b33) then some (m5.ret (l7.ret false)) else ((D8 done.Code 0 2).bind fun a0j=>(bif (!a0j) then some (m5.ret (l7.ret false)) else ((D8 done.g7 (-1000000) 1000000).bind fun a5k=>(bif (!a5k) then some (m5.ret (l7.ret false)) else (bif (done.Code != 0) then (bif (done.g7 != 0) then some (m5.ret (l7.ret false)) else some (m5.brk ())) else some (m5.brk ()))))))))):Option (m5 (l7 Bool Int Unit) Unit)).bind fun x=>x.go some fun j=>c5H v8)) else some (l7.brk ()))
theorem e2w(s_):LQ a5p (c1e s_) (d1N s_) (fun s=>b3s s_ s):=fun lc v8 h=>PK<|rg<|j6 0 h (fun h=>rg<|u9 B7 1 h fun done b5R h=>A9 h (f5g s_ v8 lc) fun x2 h hc2=>rg<|j6 2 h (fun h=>u9 B7 7 h fun a5g e6I h=>j6 16 h (fun h=>rg<|(B8 h hc2 fun h=>fL lc h)) (fun h=>l8 b0a b3L 19 h fun a6W h=>j6 22 h (fun h=>rg<|(B8 h hc2 fun h=>fL lc h)) (fun h=>l8 D2 E6 25 h fun in_1 h=>j6 28 h (fun h=>rg<|(B8 h hc2 fun h=>fL lc h)) (fun h=>l8 D2 E6 31 h fun in_2 h=>j6 34 h (fun h=>rg<|(B8 h hc2 fun h=>fL lc h)) (fun h=>j6 38 h (fun h=>j6 43 h (fun h=>rg<|(B8 h hc2 fun h=>fL lc h)) (fun h=>(p8 h hc2 fun hI=>sk [] [1,6,7,8] [(1,0)] hI))) (fun h=>(p8 h hc2 fun hI=>sk [] [1,6,7,8] [(1,0)] hI))))))) (fun h=>l8 b0a b3L 19 h fun b33 h=>j6 22 h (fun h=>rg<|(B8 h hc2 fun h=>fL lc h)) (fun h=>l8 D2 E6 25 h fun a0j h=>j6 28 h (fun h=>rg<|(B8 h hc2 fun h=>fL lc h)) (fun h=>l8 D2 E6 31 h fun a5k h=>j6 34 h (fun h=>rg<|(B8 h hc2 fun h=>fL lc h)) (fun h=>j6 38 h (fun h=>j6 43 h (fun h=>rg<|(B8 h hc2 fun h=>fL lc h)) (fun h=>(p8 h hc2 fun hI=>sk [] [1,6,7,8] [(1,0)] hI))) (fun h=>(p8 h hc2 fun hI=>sk [] [1,6,7,8] [(1,0)] hI))))))) (fun h=>(lc.bk h fun hI=>sk [] [1] [(1,0)] hI))
def b7N(s_:u7):Option Bool:=
 ((o9 (fun s:Int=>b3s s_ s) 0).bind fun x=>x.go (fun r=>some r) fun s=>c1S s_)
theorem f0o{s_}:OK a5p [.agg (a86 s_)] (b7N s_):=
 o8 _ fun r h=>n7<|lp (e2w s_) h (fun _ h=>a5p.rt h) (e61 s_ r) fun hI=>sk [] [1,6,7,8] [(1,0)] hI
def b9W:FS (List n8):=⟨129,Tryz.f129,[.val [some 2] [some 156]],[none],[.val [some 2] []],fun r=>v5 156 2 z7 r,fun _=>[none],Tryz.func129⟩
def a8O(list:List n8):Option (List n8):=
 (bif ((list.length:Int)==0) then some [] else (t5 (0<=(list.length:Int)/\(list.length:Int)*16<=140737488355328) ((t5 (list.length=(f6a (list.length:Int).toNat (n8.mk 0 0)).length) (some list)))))
theorem c00{list}:OK b9W [j8 2 z7 list] (a8O list):=
 o8 _ fun r h=>n7<|j6 2 h (fun h=>rg<|fE h) (fun h=>rg<|u0 h fun e1 h=>T3 2 7 156 2 16 z7 (n8.mk 0 0) b3S (.none) e1 (by decide) (by rfl)<|rg<|u0 h fun e2 h=>om (s8.row 156 2 (f6a (list.length:Int).toNat (n8.mk 0 0)).length (list.map z7)=m7 156 2 z7 list) (a1y e2)<|s9 (f6a (list.length:Int).toNat (n8.mk 0 0))<|ob e2<|tl (2,{e:=some (m7 156 2 z7 list)})<|rg<|om ((f6a (list.length:Int).toNat (n8.mk 0 0)).length=list.length) (by simp)<|fE h)
def b3R:FS (List s7):=⟨186,Tryz.f186,[.val [some 4] [some 194]],[none],[.val [some 4] []],fun r=>v5 194 4 B7 r,fun _=>[none],Tryz.func186⟩
def a63(list:List s7):Option (List s7):=
 (bif ((list.length:Int)==0) then some [] else (t5 (0<=(list.length:Int)/\(list.length:Int)*32<=140737488355328) ((t5 (list.length=(f6a (list.length:Int).toNat (s7.mk (o7.mk 0 0) 0 0)).length) (some list)))))
theorem c2H{list}:OK b3R [j8 4 B7 list] (a63 list):=
 o8 _ fun r h=>n7<|j6 2 h (fun h=>rg<|fE h) (fun h=>rg<|u0 h fun e1 h=>T3 2 7 194 4 32 B7 (s7.mk (o7.mk 0 0) 0 0) c46 (.none) e1 (by decide) (by rfl)<|rg<|u0 h fun e2 h=>om (s8.row 194 4 (f6a (list.length:Int).toNat (s7.mk (o7.mk 0 0) 0 0)).length (list.map B7)=m7 194 4 B7 list) (a1y e2)<|s9 (f6a (list.length:Int).toNat (s7.mk (o7.mk 0 0) 0 0))<|ob e2<|tl (2,{e:=some (m7 194 4 B7 list)})<|rg<|om ((f6a (list.length:Int).toNat (s7.mk (o7.mk 0 0) 0 0)).length=list.length) (by simp)<|fE h)
def a7z:FS (Bool):=⟨187,Tryz.f187,[.val [] []],[none,none],[.val [some 2] [],.val O6 []],fun r=>.b r,fun _=>[none,none],Tryz.func187⟩
def d4e:Unit->KS:=fun _=>⟨a7z.k 4 [false,false],(bs 32 []),[some []]⟩
def d7f:Option Bool:=
 some true
theorem e9h(r):NF a7z r d4e (fun s=>d7f):=fun _ h=>PK<|rg<|fE h
def e8h(list:List n8)(r_:n6):Int->KS:=fun v18=>⟨a7z.k 3 [false],(j8 2 z7 list::(bs 15 (j8 2 w6 r_.b5::(vi (r_.b5.length:Int)::(vi v18::(bs 13 [])))))),[some []]⟩
def b6a(list:List n8)(r_:n6)(v18:Int):Option (l7 Bool Int Unit):=
 (bif decide (v18<(r_.b5.length:Int)) then ((idx r_.b5 v18).bind fun read=>((idx list read.i6).bind fun box=>(bif (box.j5 != read.j5) then some (l7.ret false) else some (l7.nxt (m8 (v18+1)))))) else some (l7.brk ()))
theorem f5D(list r_):LQ a7z d4e (e8h list r_) (fun s=>b6a list r_ s):=fun lc v18 h=>PK<|rg<|j6 0 h (fun h=>rg<|u9 w6 0 h fun read a4d h=>rg<|u9 z7 3 h fun box a2I h=>j6 8 h (fun h=>rg<|fL lc h) (fun h=>rg<|(lc.nx h fun hI=>sk [] [0,16,17,18] [] hI))) (fun h=>(lc.bk h fun hI=>sk [] [] [] hI))
def b9Y(list:List n8)(r_:n6):Option Bool:=
 ((a5C list).bind fun W1=>(bif (!W1) then some false else ((b0m r_).bind fun a1v=>(bif (!a1v) then some false else ((o9 (fun s:Int=>b6a list r_ s) 0).bind fun x=>x.go (fun r=>some r) fun s=>d7f)))))
theorem e5d{list r_}:OK a7z [j8 2 z7 list,.agg (Q9 r_)] (b9Y list r_):=
 o8 _ fun r h=>n7<|l8 a2U b4F 1 h fun W1 h=>j6 3 h (fun h=>rg<|fE h) (fun h=>l8 a0s c5A 5 h fun a1v h=>j6 7 h (fun h=>rg<|fE h) (fun h=>rg<|lp (f5D list r_) h (fun _ h=>a7z.rt h) (e9h r) fun hI=>sk [] [0,16,17,18] [] hI))
def a7d:FS (List n8):=⟨184,Tryz.f184,[.val [some 2] [some 156]],[none,none],[.val [some 2] [],.val O6 []],fun r=>v5 156 2 z7 r,fun _=>[none,none],Tryz.func184⟩
def d3E:(List n8)->KS:=fun out1=>⟨a7d.k 5 [false,false],(bs 5 (.own 1 0 2 0 out1.length::(bs 36 []))),[some [],some [m7 156 2 z7 out1]]⟩
def d37(out1:List n8):Option (List n8):=
 some out1
theorem d7W(r):NF a7d r d3E (fun s=>d37 s):=fun out1 h=>PK<|rg<|s9 out1<|fE h
def e0v(r_:n6):((List n8)×Int)->KS:=fun (out,v21)=>⟨a7d.k 4 [false],(bs 5 (.own 1 0 2 0 out.length::(bs 13 (j8 2 w8 r_.b6::(vi (r_.b6.length:Int)::(vi v21::(bs 20 []))))))),[some [],some [m7 156 2 z7 out]]⟩
def b8w(r_:n6)(out:List n8)(v21:Int):Option (l7 (List n8) ((List n8)×Int) (List n8)):=
 (bif decide (v21<(r_.b6.length:Int)) then ((idx r_.b6 v21).bind fun put=>((idx out put.i6).bind fun T9=>some (l7.nxt (out.set put.i6.toNat (n8.mk (if (m8 (T9.j5+1))<1000000 then (m8 (T9.j5+1)) else 1000000) put.g7),m8 (v21+1))))) else some (l7.brk out))
theorem d9r(r_):LQ a7d d3E (e0v r_) (fun s=>b8w r_ s.1 s.2):=fun lc (out,v21) h=>PK<|rg<|j6 0 h (fun h=>rg<|u9 w8 0 h fun put hput h=>rg<|A7 h fun T9 a7G h=>B5 a7G<|H9 z7 8 a7G<|B5 a7G<|Q6 156 2 z7 15 [] (n8.mk (if (m8 (T9.j5+1))<1000000 then (m8 (T9.j5+1)) else 1000000) put.g7) a7G<|rg<|(lc.nx h fun hI=>om ((.own 1 0 2 0 out.length:V)=.own 1 0 2 0 (out.set put.i6.toNat (n8.mk (if (m8 (T9.j5+1))<1000000 then (m8 (T9.j5+1)) else 1000000) put.g7)).length) (by simp)<|sk [.is (.tmp 5) (.own 1 0 2 0 (out.set put.i6.toNat (n8.mk (if (m8 (T9.j5+1))<1000000 then (m8 (T9.j5+1)) else 1000000) put.g7)).length)] [5,19,20,21] [(1,0)] hI)) (fun h=>(lc.bk h fun hI=>sk [] [5] [(1,0)] hI))
def b4y(list:List n8)(r_:n6):Option (List n8):=
 ((a5C list).bind fun W1=>(bif (!W1) then some [] else ((b0m r_).bind fun a1v=>(bif (!a1v) then some [] else ((a8O list).bind fun box=>((o9 (fun s:(List n8)×Int=>b8w r_ s.1 s.2) (box,0)).bind fun x=>x.go (fun r=>some r) fun s=>d37 s))))))
theorem d61{list r_}:OK a7d [j8 2 z7 list,.agg (Q9 r_)] (b4y list r_):=
 o8 _ fun r h=>n7<|l8 a2U b4F 1 h fun W1 h=>j6 3 h (fun h=>rg<|fE h) (fun h=>l8 a0s c5A 5 h fun a1v h=>j6 7 h (fun h=>rg<|fE h) (fun h=>rg<|l8 b9W c00 1 h fun box h=>rg<|lp (d9r r_) h (fun _ h=>a7d.rt h) (d7W r) fun hI=>sk [] [5,19,20,21] [(12,0)] hI))
def Q7:FS (u7×Int):=⟨134,Tryz.f134,[.val [none,some 2,some 4] [none,some 156,some 194],.val [] []],[none,none],[.val [none,some 2,some 4] [],.val K4 []],fun r=>.tup [.agg (b4K r.1),vi r.2],fun _=>[none,none],Tryz.func134⟩
def c31(s_:u7)(e_:m6)(box:List n8):Unit->KS:=fun _=>⟨Q7.k 6 [false,false,false],(bs 2 (.ptr 1 0 0::(.ptr 2 0 0::(.ptr 3 0 0::(bs 1 (.ptr 4 0 0::(bs 145 []))))))),[some [],some [.var 123 [vi s_.At,j8 2 z7 s_.g9,j8 4 B7 s_.j4]],some [.var 50 (a3h e_)],some [.var 123 [vi 0,.nil,.nil]],some [.var 123 [vi (m8 (s_.At+1)),.own 5 0 2 0 box.length,.nil]],some [m7 156 2 z7 box]]⟩
def e6v(s_:u7):(s7×List n8)->KS:=fun (own,g9)=>⟨Q7.k 9 [false,false,false,true],(bs 2 (.ptr 1 0 0::(bs 1 (.ptr 2 0 0::(bs 1 (.ptr 3 0 0::(bs 2 (.ptr 5 0 0::(bs 142 []))))))))),[some [],some [.var 123 [vi s_.At,j8 2 z7 s_.g9,j8 4 B7 s_.j4]],some [.var 123 [vi 0,.nil,.nil]],some [.var 123 [vi (m8 (s_.At+1)),.own 4 0 2 0 g9.length,.nil]],some [m7 156 2 z7 g9],some [.var 194 [vi own.a0.c8,vi own.a0.Seq,vi own.Code,vi own.g7]]]⟩
def b55(s_:u7)(own:s7)(g9:List n8):((List s7)×Bool)->KS:=fun (dones1,put1)=>⟨Q7.k 13 [false,false,false,true,false],(bs 4 (.ptr 1 0 0::(bs 1 (.ptr 2 0 0::(bs 2 (.ptr 4 0 0::(.own 5 0 4 0 dones1.length::(.b put1::(bs 140 []))))))))),[some [],some [.var 123 [vi 0,.nil,.nil]],some [.var 123 [vi (m8 (s_.At+1)),.own 3 0 2 0 g9.length,.nil]],some [m7 156 2 z7 g9],some [.var 194 [vi own.a0.c8,vi own.a0.Seq,vi own.Code,vi own.g7]],some [m7 194 4 B7 dones1]]⟩
def f1y(s_:u7)(own:s7)(g9:List n8):(List s7)->KS:=fun b1e=>⟨Q7.k 15 [false,false,false,true,false,true],(bs 4 (.ptr 1 0 0::(bs 1 (.ptr 2 0 0::(bs 2 (.ptr 4 0 0::(.own 5 0 4 0 b1e.length::(bs 141 [])))))))),[some [],some [.var 123 [vi 0,.nil,.nil]],some [.var 123 [vi (m8 (s_.At+1)),.own 3 0 2 0 g9.length,.nil]],some [m7 156 2 z7 g9],some [.var 194 [vi own.a0.c8,vi own.a0.Seq,vi own.Code,vi own.g7]],some [m7 194 4 B7 b1e]]⟩
def c4h(s_:u7)(own:s7)(g9:List n8)(b1e:List s7):Option (u7×Int):=
 ((a63 b1e).bind fun a5g=>some ((u7.mk (m8 (s_.At+1)) g9 a5g),own.Code))
theorem f2b(s_ own g9)(r):NF Q7 r (f1y s_ own g9) (fun s=>c4h s_ own g9 s):=fun b1e h=>PK<|rg<|cbS b3R c2H 1 (fun _=>(by simp [b3R,K6,S8,P3,V.simple,vi,v5,B7,eI,J0])) (fun _=>(Q1 1)) h fun a5g h=>s9 b1e<|rg<|C7 g9 a5g<|fE h
def c5B(s_:u7)(own:s7)(g9:List n8)(dones1:List s7)(put1:Bool):Option (u7×Int):=
 (((bif (!put1) then (t5 ((dones1.length+1)*32<=140737488355328) (some (m5.brk (dones1++[own])))) else some (m5.brk dones1)):Option (m5 (u7×Int) (List s7))).bind fun x=>x.go some fun j=>c4h s_ own g9 j)
theorem e6C(s_ own g9)(r):NF Q7 r (b55 s_ own g9) (fun s=>c5B s_ own g9 s.1 s.2):=fun (dones1,put1) h=>PK<|A9 h (f2b s_ own g9 r) fun x1 h hc1=>rg<|j6 1 h (fun h=>rg<|tk 2 []<|u0 h fun e1 h=>F9 3 11 194 4 32 B7 dones1 own e1<|E8 own<|(p8 h hc1 fun hI=>sk [] [4,6,9,10] [(1,0),(2,0),(3,0),(4,0),(11,0)] hI)) (fun h=>(p8 h hc1 fun hI=>sk [] [4,6,9,10] [(1,0),(2,0),(3,0),(4,0),(5,0)] hI))
def c2e(s_:u7)(own:s7)(g9:List n8):((List s7)×Int×Bool)->KS:=fun (dones,v109,put)=>⟨Q7.k 12 [false,false,false,true],(bs 4 (.ptr 1 0 0::(bs 1 (.ptr 2 0 0::(bs 2 (.ptr 4 0 0::(.own 5 0 4 0 dones.length::(.b put::(bs 95 (j8 4 B7 s_.j4::(vi (s_.j4.length:Int)::(vi v109::(bs 42 []))))))))))))),[some [],some [.var 123 [vi 0,.nil,.nil]],some [.var 123 [vi (m8 (s_.At+1)),.own 3 0 2 0 g9.length,.nil]],some [m7 156 2 z7 g9],some [.var 194 [vi own.a0.c8,vi own.a0.Seq,vi own.Code,vi own.g7]],some [m7 194 4 B7 dones]]⟩
def d8V(s_:u7)(own:s7)(g9:List n8)(v109:Int)(done2:s7):((List s7)×Bool)->KS:=fun (dones3,put2)=>⟨Q7.k 17 [false,false,false,true,true,true],(bs 4 (.ptr 1 0 0::(bs 1 (.ptr 2 0 0::(bs 2 (.ptr 4 0 0::(.own 5 0 4 0 dones3.length::(.b put2::(bs 1 (.ptr 6 0 0::(bs 93 (j8 4 B7 s_.j4::(vi (s_.j4.length:Int)::(vi v109::(bs 42 []))))))))))))))),[some [],some [.var 123 [vi 0,.nil,.nil]],some [.var 123 [vi (m8 (s_.At+1)),.own 3 0 2 0 g9.length,.nil]],some [m7 156 2 z7 g9],some [.var 194 [vi own.a0.c8,vi own.a0.Seq,vi own.Code,vi own.g7]],some [m7 194 4 B7 dones3],some [.var 194 [vi done2.a0.c8,vi done2.a0.Seq,vi done2.Code,vi done2.g7]]]⟩
def e1a(s_:u7)(own:s7)(g9:List n8)(v109:Int)(put2:Bool):(List s7)->KS:=fun b3J=>⟨Q7.k 19 [false,false,false,true,true,true,true],(bs 4 (.ptr 1 0 0::(bs 1 (.ptr 2 0 0::(bs 2 (.ptr 4 0 0::(.own 5 0 4 0 b3J.length::(.b put2::(bs 95 (j8 4 B7 s_.j4::(vi (s_.j4.length:Int)::(vi v109::(bs 42 []))))))))))))),[some [],some [.var 123 [vi 0,.nil,.nil]],some [.var 123 [vi (m8 (s_.At+1)),.own 3 0 2 0 g9.length,.nil]],some [m7 156 2 z7 g9],some [.var 194 [vi own.a0.c8,vi own.a0.Seq,vi own.Code,vi own.g7]],some [m7 194 4 B7 b3J]]⟩
def c1p(v109:Int)(put2:Bool)(b3J:List s7):Option (l7 (u7×Int) ((List s7)×Int×Bool) ((List s7)×Bool)):=
 some (l7.nxt (b3J,m8 (v109+1),put2))
theorem d7l(s_ own g9 v109 put2)(lc:F8 Q7 (b55 s_ own g9) (c2e s_ own g9)):NL lc (e1a s_ own g9 v109 put2) (fun s=>c1p v109 put2 s):=fun b3J h=>PK<|rg<|(lc.nx h fun hI=>sk [] [4,6,9,10,11,107,108,109] [(1,0),(2,0),(3,0),(4,0),(5,0)] hI)
def c1F(own:s7)(v109:Int)(done2:s7)(dones3:List s7)(put2:Bool):Option (l7 (u7×Int) ((List s7)×Int×Bool) ((List s7)×Bool)):=
 (((bif (done2.a0.c8 != own.a0.c8) then (t5 ((dones3.length+1)*32<=140737488355328) (some (m5.brk (dones3++[done2])))) else some (m5.brk dones3)):Option (m5 (l7 (u7×Int) ((List s7)×Int×Bool) ((List s7)×Bool)) (List s7))).bind fun x=>x.go some fun j=>c1p v109 put2 j)
theorem e93(s_ own g9 v109 done2)(lc:F8 Q7 (b55 s_ own g9) (c2e s_ own g9)):NL lc (d8V s_ own g9 v109 done2) (fun s=>c1F own v109 done2 s.1 s.2):=fun (dones3,put2) h=>PK<|A9 h (d7l s_ own g9 v109 put2 lc) fun x2 h hc2=>rg<|j6 6 h (fun h=>rg<|tk 2 []<|u0 h fun e2 h=>F9 3 17 194 4 32 B7 dones3 done2 e2<|E8 done2<|(p8 h hc2 fun hI=>sk [] [4,6,9,10,11,107,108,109] [(1,0),(2,0),(3,0),(4,0),(17,0)] hI)) (fun h=>(p8 h hc2 fun hI=>sk [] [4,6,9,10,11,107,108,109] [(1,0),(2,0),(3,0),(4,0),(5,0)] hI))
end
end Go.Proofs.YtijjifellblecaaGreat
