/- What the law leans on, part 3. -/
import Derived.Test.YtmadcoimgjieeaaGreatP2
set_option linter.unusedVariables false
set_option linter.unusedSimpArgs false
set_option linter.unnecessarySimpa false
namespace Go.Proofs.YtmadcoimgjieeaaGreat
open Go
open List renaming replicate->f8O
open Int renaming tmod->f9p,tdiv->g0N
open Nat renaming zero_add->f9W
noncomputable section
theorem f1a:OK a7G [] b7t:=
 o8 _ fun r h=>L8<|lp (f2a) h (fun _ h=>a7G.rt h) (e8N r) fun hI=>sk [.own (.cell 3 0 0) 54 27] [0,1,2] [(1,0),(3,0),(6,0)] hI
def b84:FS (t8):=⟨20,Tryz.f20,[.ptr [some 1,none] []],[none],[.val [some 1] []],fun r=>.optr 107 (a0g r),fun _=>[none],Tryz.func20⟩
def f6H:(List Int)->KS:=fun b69=>⟨b84.k 3 [true],(l7 1 J8 b69::(bs 10 [])),[some []]⟩
def c25(b69:List Int):Option t8:=
 some (t8.mk b69 0)
theorem f0G(r):NF b84 r f6H (fun s=>c25 s):=fun b69 h=>PK<|rg<|fE h
def b9X(code:List Int):Option t8:=
 (((bif decide ((code.length:Int)>2000) then (t5 ((0:Int)<=2000/\2000<=(code.length:Int)) (some (l9.brk ((code.drop 0).take ((2000:Int).toNat-0))))) else some (l9.brk code)):Option (l9 t8 (List Int))).bind fun x=>x.go some fun j=>c25 j)
theorem f3S{code}:OK b84 [l7 1 J8 code] (b9X code):=
 o8 _ fun r h=>rg<|A4 h (f0G r) fun x1 h hc1=>rg<|j5 2 h (fun h=>rg<|t9 h fun e1 h=>om (V.sl 1 ((2000:Int).toNat-0) (((code.map J8).drop 0).take ((2000:Int).toNat-0))=l7 1 J8 ((code.drop 0).take ((2000:Int).toNat-0))) (b8C e1)<|ob e1.1<|ob e1.2<|tl (1,{v:=some (l7 1 J8 ((code.drop 0).take ((2000:Int).toNat-0)))})<|(o9 h hc1 fun hI=>sk [] [0] [] hI)) (fun h=>(o9 h hc1 fun hI=>sk [] [0] [] hI))
def d0Z:FS (j6):=⟨104,Tryz.f104,[.val A8 H2],[none],[.val [] []],fun r=>.agg (H5 r),fun _=>[none],Tryz.func104⟩
def c4B(id:Int):Option j6:=
 (bif decide (id<0) then some (j6.mk 0 (z0.mk 0 []) [] 0 0 0 [] [] (m4.mk false (n5.mk 0 0) (n7.mk [] [] 0 0)) [] false [] (m4.mk false (n5.mk 0 0) (n7.mk [] [] 0 0)) []) else (bif decide (id>=3) then some (j6.mk 0 (z0.mk 0 []) [] 0 0 0 [] [] (m4.mk false (n5.mk 0 0) (n7.mk [] [] 0 0)) [] false [] (m4.mk false (n5.mk 0 0) (n7.mk [] [] 0 0)) []) else some (j6.mk id (z0.mk 0 []) [] 0 0 0 [] [] (m4.mk false (n5.mk 0 0) (n7.mk [] [] 0 0)) [] false [] (m4.mk false (n5.mk 0 0) (n7.mk [] [] 0 0)) [])))
theorem e7j{id}:OK d0Z [vi id] (c4B id):=
 o8 _ fun r h=>n9<|j5 2 h (fun h=>rg<|fE h) (fun h=>j5 5 h (fun h=>rg<|fE h) (fun h=>rg<|fE h))
def a9z:FS (m5):=⟨54,Tryz.f54,[.val C3 V8],[],[],fun r=>.agg (U5 r),fun _=>[],Tryz.func54⟩
def c8I:(List j6)->KS:=fun Nodes1=>⟨a9z.k 4 [false],(.ptr 1 0 0::(.ptr 2 0 0::(bs 14 []))),[some [],some [.var 28 [.nil,.nil,.nil,.nil]],some [.var 28 [.own 3 0 27 0 Nodes1.length,.nil,.nil,.nil]],some [C6 54 27 z7 Nodes1]]⟩
def c9I(Nodes1:List j6):Option m5:=
 some (m5.mk Nodes1 [] [] [])
theorem e3T(r):NF a9z r c8I (fun s=>c9I s):=fun Nodes1 h=>PK<|rg<|s8 Nodes1<|fE h
def e5y:((List j6)×Int)->KS:=fun (a0,i)=>⟨a9z.k 3 [],(.ptr 1 0 0::(.ptr 2 0 0::(vi i::(bs 13 [])))),[some [],some [.var 28 [.nil,.nil,.nil,.nil]],some [.var 28 [.own 3 0 27 0 a0.length,.nil,.nil,.nil]],some [C6 54 27 z7 a0]]⟩
def e4i(Y0:j6):List V:=(a6p Y0)
def a4f(a0:List j6)(i:Int):Option (j7 m5 ((List j6)×Int) (List j6)):=
 (bif decide (i<3) then ((c4B i).bind fun Y0=>(t5 ((a0.length+1)*392<=140737488355328) (some (j7.nxt (a0++[Y0],m7 (i+1)))))) else some (j7.brk a0))
theorem f5l:LQ a9z c8I e5y (fun s=>a4f s.1 s.2):=fun lc (a0,i) h=>PK<|rg<|j5 1 h (fun h=>rg<|j9 d0Z e7j 3 h fun Y0 h=>om (s9.deep false 54 27 1 [(e4i Y0)]=C6 54 27 z7 [Y0]) rfl<|A3 Y0<|tl (4,{a:=.dck [none,none,some 8,some 7,none,none,none,some 1,some 8,none,none,none,some 2,some 2,none,none,some 1,none,some 4,none,none,none,some 2,some 2,none,none,some 7] [none,none,some 61,some 52,none,none,none,some 4,none,none,none,none,none,none,none,none,some 4,none,none,none,none,none,none,none,none,none,some 52],e:=some (C6 54 27 z7 [Y0])})<|t9 h fun e1 h=>om (V.own 11 0 27 0 (a0.length+1)=.own 11 0 27 0 (a0++[Y0]).length) (by simp)<|om (s9.deep false 54 27 (a0.length+1) (a0.map z7++[z7 Y0])=C6 54 27 z7 (a0++[Y0])) (c58 rfl)<|s8 a0<|ob e1<|om (1=1) rfl<|tl (5,{a:=.dck [] [],v:=some (.own 11 0 27 0 (a0++[Y0]).length),e:=some (C6 54 27 z7 (a0++[Y0]))})<|rg<|(lc.nx h fun hI=>sk [] [0,1,2] [(1,0),(2,0),(11,0)] hI)) (fun h=>(lc.bk h fun hI=>sk [] [0,1] [(1,0),(2,0),(3,0)] hI))
def c02:Option m5:=
 ((o7 (fun s:(List j6)×Int=>a4f s.1 s.2) ([],0)).bind fun x=>x.go (fun r=>some r) fun s=>c9I s)
theorem f6J:OK a9z [] c02:=
 o8 _ fun r h=>L8<|lp (f5l) h (fun _ h=>a9z.rt h) (e3T r) fun hI=>sk [.ownD (.cell 3 0 0) 54 27] [0,1,2] [(1,0),(3,0),(6,0)] hI
def G6:FS (Int×t8):=⟨55,Tryz.f55,[.val [] []],[some (0,.ptr [some 1,none] []),none],[.ptr [some 1,none] [],.val [] []],fun r=>vi r.1,fun r=>[some (.optr 107 (a0g r.2)),none],Tryz.func55⟩
def G2(r_:t8)(n:Int):Option (Int×t8):=
 (bif decide (n<1) then some (0,(t8.mk r_.b (m7 (r_.p+1)))) else (bif ((r_.b.length:Int)==0) then some (0,(t8.mk r_.b (m7 (r_.p+1)))) else (bif decide ((m7 ((m7 (r_.p+1))-1))<(r_.b.length:Int)) then ((idx r_.b (m7 ((m7 (r_.p+1))-1))).bind fun y=>(t5 (n≠0) (some (f9p (m7 y) n,(t8.mk r_.b (m7 (r_.p+1))))))) else (t5 ((r_.b.length:Int)≠0) (((idx r_.b (f9p (m7 ((m7 (r_.p+1))-1)) (r_.b.length:Int))).bind fun y1=>(t5 ((r_.b.length:Int)≠0) (((idx r_.b (f9p (m7 ((m7 ((m7 ((m7 (r_.p+1))-1))*7))+3)) (r_.b.length:Int))).bind fun y2=>(t5 ((r_.b.length:Int)≠0) ((t5 (n≠0) (some (f9p (a7l .i64 (m7 ((m7 ((m7 ((m7 ((m7 y1)*131))+(m7 ((m7 y2)*1117))))+(m7 ((m7 ((m7 (r_.p+1))-1))*29))))+(m7 ((m7 (g0N (m7 ((m7 (r_.p+1))-1)) (r_.b.length:Int)))*53)))) (m7 (g0N (m7 ((m7 ((m7 ((m7 ((m7 y1)*131))+(m7 ((m7 y2)*1117))))+(m7 ((m7 ((m7 (r_.p+1))-1))*29))))+(m7 ((m7 (g0N (m7 ((m7 (r_.p+1))-1)) (r_.b.length:Int)))*53)))) 64))) n,(t8.mk r_.b (m7 (r_.p+1)))))))))))))))))
theorem H1{r_ n}:OK G6 [.optr 107 (a0g r_),vi n] (G2 r_ n):=
 o8 _ fun r h=>L8<|j5 2 h (fun h=>rg<|fE h) (fun h=>j5 9 h (fun h=>rg<|fE h) (fun h=>n9<|j5 6 h (fun h=>rg<|u0 J8 5 h fun y hy h=>t9 h fun e1 h=>ob e1<|fE h) (fun h=>rg<|t9 h fun e2 h=>ob e2<|u0 J8 11 h fun y1 hy1 h=>t9 h fun e3 h=>ob e3<|u0 J8 28 h fun y2 hy2 h=>t9 h fun e4 h=>ob e4<|rg<|om (64≠(0:Int)) (by decide)<|rg<|t9 h fun e5 h=>ob e5<|fE h)))
def d7n:FS (n7):=⟨207,Tryz.f207,[.val O8 []],[none],[.val O8 []],fun r=>.agg (R9 r),fun _=>[none],Tryz.func207⟩
def c1P(r_:n7):Option n7:=
 (t5 ((([]:List r9).length+r_.b5.length)*16<=140737488355328) ((t5 ((([]:List p8).length+r_.b7.length)*16<=140737488355328) (some (n7.mk (([]:List r9)++r_.b5) (([]:List p8)++r_.b7) r_.d8 r_.Code)))))
theorem f3c{r_}:OK d7n [.agg (R9 r_)] (c1P r_):=
 o8 _ fun r h=>n9<|tk 0 []<|t9 h fun e1 h=>oa 6 0 2 ([]:List r9) r_.b5<|oz 153 2 w8 ([]:List r9) r_.b5<|A9 r9<|ob e1<|tl (3,{v:=some (.own 6 0 2 0 (([]:List r9)++r_.b5).length),e:=some (m6 153 2 w8 (([]:List r9)++r_.b5))})<|tk 4 []<|t9 h fun e2 h=>oa 10 0 2 ([]:List p8) r_.b7<|oz 156 2 w9 ([]:List p8) r_.b7<|A9 p8<|ob e2<|tl (7,{v:=some (.own 10 0 2 0 (([]:List p8)++r_.b7).length),e:=some (m6 156 2 w9 (([]:List p8)++r_.b7))})<|C9 (([]:List r9)++r_.b5) (([]:List p8)++r_.b7)<|fE h
def a0y:FS (m4):=⟨176,Tryz.f176,[.val J5 []],[none],[.val J5 []],fun r=>.agg (s6 r),fun _=>[none],Tryz.func176⟩
def X7(e_:m4):Option m4:=
 ((c1P e_.b6).bind fun d45=>some (m4.mk e_.i7 e_.a5 d45))
theorem a0O{e_}:OK a0y [.agg (s6 e_)] (X7 e_):=
 o8 _ fun r h=>n9<|j9 d7n f3c 6 h fun d45 h=>fE h
def a3X:FS (List m8):=⟨199,Tryz.f199,[.val [some 8] [some 61]],[none],[.val [some 8] []],fun r=>v6 61 8 q8 r,fun _=>[none],Tryz.func199⟩
def d7P:(List m8)->KS:=fun out1=>⟨a3X.k 4 [false],(bs 3 (.own 1 0 8 0 out1.length::(bs 24 []))),[some [],some [m6 61 8 q8 out1]]⟩
def d7p(out1:List m8):Option (List m8):=
 some out1
theorem e6R(r):NF a3X r d7P (fun s=>d7p s):=fun out1 h=>PK<|rg<|s8 out1<|fE h
def e2D(list:List m8):((List m8)×Int)->KS:=fun (out,i)=>⟨a3X.k 3 [],(l7 8 q8 list::(bs 2 (.own 1 0 8 0 out.length::(vi i::(bs 23 []))))),[some [],some [m6 61 8 q8 out]]⟩
def b38(list:List m8)(out:List m8)(i:Int):Option (j7 (List m8) ((List m8)×Int) (List m8)):=
 (bif decide (i<(list.length:Int)) then ((idx list i).bind fun vote=>((X7 vote.g9).bind fun l5Entry=>(t5 ((out.length+1)*96<=140737488355328) (some (j7.nxt (out++[(m8.mk vote.a8 l5Entry)],m7 (i+1))))))) else some (j7.brk out))
theorem f2X(list):LQ a3X d7P (e2D list) (fun s=>b38 list s.1 s.2):=fun lc (out,i) h=>PK<|rg<|j5 3 h (fun h=>rg<|u0 q8 3 h fun vote K8 h=>I1 q8 8 K8<|j9 a0y a0O 11 h fun l5Entry h=>tk 13 U8<|t9 h fun e1 h=>F7 14 20 61 8 96 q8 out (m8.mk vote.a8 l5Entry) e1<|E7 (m8.mk vote.a8 l5Entry)<|rg<|(lc.nx h fun hI=>sk [] [0,3,4] [(20,0)] hI)) (fun h=>(lc.bk h fun hI=>sk [] [3] [(1,0)] hI))
def a9s(list:List m8):Option (List m8):=
 ((o7 (fun s:(List m8)×Int=>b38 list s.1 s.2) (([]:List m8),0)).bind fun x=>x.go (fun r=>some r) fun s=>d7p s)
theorem b6T{list}:OK a3X [l7 8 q8 list] (a9s list):=
 o8 _ fun r h=>n9<|tk 0 U8<|rg<|lp (f2X list) h (fun _ h=>a3X.rt h) (e6R r) fun hI=>om ((.own 2 0 8 0 0:V)=.own 2 0 8 0 ([]:List m8).length) (by simp)<|sk [.is (.tmp 3) (.own 2 0 8 0 ([]:List m8).length)] [0,3,4] [(2,0)] hI
def b49:FS (l8):=⟨164,Tryz.f164,[.val C2 []],[none],[.val C2 []],fun r=>.agg (t7 r),fun _=>[none],Tryz.func164⟩
def a9i(m:l8):Option l8:=
 ((X7 m.g9).bind fun l5Entry=>((a9s m.a7).bind fun Y7=>some (l8.mk m.a9 m.c9 m.To m.a8 m.g8 l5Entry Y7)))
theorem b50{m}:OK b49 [.agg (t7 m)] (a9i m):=
 o8 _ fun r h=>L8<|j9 a0y a0O 2 h fun l5Entry h=>rg<|j9 a3X b6T 2 h fun Y7 h=>rg<|s8 Y7<|fE h
def a1c:FS (m5):=⟨161,Tryz.f161,[.val C3 V8],[none,none],[.val C3 V8,.val [some 13] []],fun r=>.agg (U5 r),fun _=>[none,none],Tryz.func161⟩
def d4N(w:m5):(List l8)->KS:=fun Net1=>⟨a1c.k 3 [false],(bs 2 (.ptr 1 0 0::(bs 1 (.ptr 3 0 0::(bs 24 []))))),[some [C6 54 27 z7 w.a0,.dead,m6 85 3 C1 w.d9,m6 89 5 z5 w.Told],some [.var 28 [.own 0 0 27 0 w.a0.length,.own 2 0 13 0 Net1.length,.own 0 2 3 0 w.d9.length,.own 0 3 5 0 w.Told.length]],some [m6 82 13 t7 Net1],some [.var 28 [.nil,.nil,.nil,.nil]]]⟩
def d5z(w:m5)(Net1:List l8):Option m5:=
 some (m5.mk w.a0 Net1 w.d9 w.Told)
theorem e90(w)(r):NF a1c r (d4N w) (fun s=>d5z w s):=fun Net1 h=>PK<|rg<|H8 w.a0 Net1 w.d9 w.Told<|fE h
def d9r(w:m5)(list:List l8):((List l8)×Int)->KS:=fun (d7,i)=>⟨a1c.k 2 [],(bs 1 (l7 13 t7 list::(.ptr 1 0 0::(bs 1 (.ptr 2 0 0::(vi i::(bs 23 []))))))),[some [C6 54 27 z7 w.a0,.dead,m6 85 3 C1 w.d9,m6 89 5 z5 w.Told],some [.var 28 [.own 0 0 27 0 w.a0.length,.own 3 0 13 0 d7.length,.own 0 2 3 0 w.d9.length,.own 0 3 5 0 w.Told.length]],some [.var 28 [.nil,.nil,.nil,.nil]],some [m6 82 13 t7 d7]]⟩
def a3m(list:List l8)(d7:List l8)(i:Int):Option (j7 m5 ((List l8)×Int) (List l8)):=
 (bif decide (i<(list.length:Int)) then (bif decide ((d7.length:Int)<40) then ((idx list i).bind fun msg=>((a9i msg).bind fun G7=>(t5 ((d7.length+1)*152<=140737488355328) (some (j7.nxt (d7++[G7],m7 (i+1))))))) else some (j7.brk d7)) else some (j7.brk d7))
theorem f7U(w list):LQ a1c (d4N w) (d9r w list) (fun s=>a3m list s.1 s.2):=fun lc (d7,i) h=>PK<|rg<|j5 4 h (fun h=>j5 9 h (fun h=>rg<|u0 t7 4 h fun msg hmsg h=>j9 b49 b50 6 h fun G7 h=>tk 7 C2<|t9 h fun e1 h=>F7 8 22 82 13 152 t7 d7 G7 e1<|E7 G7<|rg<|(lc.nx h fun hI=>sk [] [1,2,4,5] [(1,0),(2,0),(22,0)] hI)) (fun h=>(lc.bk h fun hI=>sk [] [2,4] [(1,0),(3,0),(2,0)] hI))) (fun h=>(lc.bk h fun hI=>sk [] [2,4] [(1,0),(3,0),(2,0)] hI))
def a3f(w:m5)(list:List l8):Option m5:=
 ((o7 (fun s:(List l8)×Int=>a3m list s.1 s.2) (w.d7,0)).bind fun x=>x.go (fun r=>some r) fun s=>d5z w s)
theorem a6g{w list}:OK a1c [.agg (U5 w),l7 13 t7 list] (a3f w list):=
 o8 _ fun r h=>n9<|lp (f7U w list) h (fun _ h=>a1c.rt h) (e90 w r) fun hI=>sk [] [1,2,4,5] [(1,0),(2,0),(0,1)] hI
def c5x:FS (m5):=⟨193,Tryz.f193,[.val C3 V8],[none,none],[.val C3 V8,.val [] []],fun r=>.agg (U5 r),fun _=>[none,none],Tryz.func193⟩
def b40(w:m5)(i:Int):Option m5:=
 (t5 ((0:Int)<=i/\i<=(w.d7.length:Int)) ((t5 ((([]:List l8).length+(i.toNat-0))*152<=140737488355328) ((t5 ((0:Int)<=m7 (i+1)/\m7 (i+1)<=(w.d7.length:Int)) ((t5 (((([]:List l8)++(w.d7.drop (0+0)).take (i.toNat-0)).length+(w.d7.length-(m7 (i+1)).toNat))*152<=140737488355328) (some (m5.mk w.a0 ((([]:List l8)++(w.d7.drop (0+0)).take (i.toNat-0))++(w.d7.drop (0+(m7 (i+1)).toNat)).take (w.d7.length-(m7 (i+1)).toNat)) w.d9 w.Told)))))))))
set_option maxRecDepth 20000 in
theorem c9M{w i}:OK c5x [.agg (U5 w),vi i] (b40 w i):=
 o8 _ fun r h=>n9<|tk 0 C2<|t9 h fun e1 h=>ob e1.1<|ob e1.2<|t9 h fun e2 h=>om (V.own 8 0 13 0 (([]:List l8).length+(i.toNat-0))=.own 8 0 13 0 (([]:List l8)++(w.d7.drop (0+0)).take (i.toNat-0)).length) (c6I (by omega))<|om (s9.row 82 13 (([]:List l8).length+(i.toNat-0)) (([]:List l8).map t7++((w.d7.map t7).drop (0+0)).take (i.toNat-0))=m6 82 13 t7 (([]:List l8)++(w.d7.drop (0+0)).take (i.toNat-0))) (c49 (by omega))<|A9 l8<|ob e2<|om ((0+0)+(i.toNat-0)<=w.d7.length) (by omega)<|tl (5,{a:=.part,v:=some (.own 8 0 13 0 (([]:List l8)++(w.d7.drop (0+0)).take (i.toNat-0)).length),e:=some (m6 82 13 t7 (([]:List l8)++(w.d7.drop (0+0)).take (i.toNat-0)))})<|t9 h fun e3 h=>ob e3.1<|ob e3.2<|t9 h fun e4 h=>om (V.own 14 0 13 0 ((([]:List l8)++(w.d7.drop (0+0)).take (i.toNat-0)).length+(w.d7.length-(m7 (i+1)).toNat))=.own 14 0 13 0 ((([]:List l8)++(w.d7.drop (0+0)).take (i.toNat-0))++(w.d7.drop (0+(m7 (i+1)).toNat)).take (w.d7.length-(m7 (i+1)).toNat)).length) (c6I (by omega))<|om (s9.row 82 13 ((([]:List l8)++(w.d7.drop (0+0)).take (i.toNat-0)).length+(w.d7.length-(m7 (i+1)).toNat)) ((([]:List l8)++(w.d7.drop (0+0)).take (i.toNat-0)).map t7++((w.d7.map t7).drop (0+(m7 (i+1)).toNat)).take (w.d7.length-(m7 (i+1)).toNat))=m6 82 13 t7 ((([]:List l8)++(w.d7.drop (0+0)).take (i.toNat-0))++(w.d7.drop (0+(m7 (i+1)).toNat)).take (w.d7.length-(m7 (i+1)).toNat))) (c49 (by omega))<|s8 (([]:List l8)++(w.d7.drop (0+0)).take (i.toNat-0))<|ob e4<|om ((0+(m7 (i+1)).toNat)+(w.d7.length-(m7 (i+1)).toNat)<=w.d7.length) (by omega)<|tl (11,{a:=.part,v:=some (.own 14 0 13 0 ((([]:List l8)++(w.d7.drop (0+0)).take (i.toNat-0))++(w.d7.drop (0+(m7 (i+1)).toNat)).take (w.d7.length-(m7 (i+1)).toNat)).length),e:=some (m6 82 13 t7 ((([]:List l8)++(w.d7.drop (0+0)).take (i.toNat-0))++(w.d7.drop (0+(m7 (i+1)).toNat)).take (w.d7.length-(m7 (i+1)).toNat)))})<|rg<|H8 w.a0 ((([]:List l8)++(w.d7.drop (0+0)).take (i.toNat-0))++(w.d7.drop (0+(m7 (i+1)).toNat)).take (w.d7.length-(m7 (i+1)).toNat)) w.d9 w.Told<|fE h
def a2k:FS (Bool):=⟨172,Tryz.f172,[.val [] []],[none],[.val [] []],fun r=>.b r,fun _=>[none],Tryz.func172⟩
def a1b(n:Int):Option Bool:=
 (bif decide (n>=1) then some (decide (n<=3000)) else some false)
theorem a2t{n}:OK a2k [vi n] (a1b n):=
 o8 _ fun r h=>n9<|j5 2 h (fun h=>fE h) (fun h=>fE h)
def a69:FS (z0×Bool):=⟨198,Tryz.f198,[.val [none,some 8] [none,some 9000000],.val [] []],[none,none],[.val [none,some 8] [],.val [] []],fun r=>.tup [.agg [vi r.1.i0,.bot],.b r.2],fun _=>[none,none],Tryz.func198⟩
def a9R(a:z0)(bal:Int):Option (z0×Bool):=
 ((a1b bal).bind fun Z6=>(bif (!Z6) then some (a,false) else (bif decide (bal<a.i0) then some (a,false) else none)))
theorem c2w{a bal}:OK a69 [.agg (a0Z a),vi bal] (a9R a bal):=
 o8 _ fun r h=>n9<|j9 a2k a2t 1 h fun Z6 h=>j5 3 h (fun h=>rg<|fE h) (fun h=>j5 8 h (fun h=>rg<|fE h) (fun h=>(nomatch h)))
def a4y:FS (List l8):=⟨225,Tryz.f225,[.val [some 13] []],[none,none],[.val C2 [],.val C2 []],fun r=>l7 13 t7 r,fun _=>[none,none],Tryz.func225⟩
def a5x(m:l8)(out:l8):Option (List l8):=
 some [(l8.mk out.a9 m.To m.c9 out.a8 out.g8 out.g9 out.a7)]
theorem a8Q{m out}:OK a4y [.agg (t7 m),.agg (t7 out)] (a5x m out):=
 o8 _ fun r h=>rg4<|tk 1 C2<|E7 (l8.mk out.a9 m.To m.c9 out.a8 out.g8 out.g9 out.a7)<|fE h
def d4l(rv:Value):FS (j6):=⟨197,Tryz.f197,[.val A8 om1],[none],[.val A8 om1],fun r=>.agg ([vi r.Id,vi r.Acc.i0,.raw rv]++b0B r),fun _=>[none],Tryz.func197⟩
def d0j(n:j6):Option j6:=
 some (j6.mk n.Id n.Acc n.a6 n.Seq 0 0 [] [] (m4.mk false (n5.mk 0 0) (n7.mk [] [] 0 0)) [] n.i9 n.i6 n.b8 n.f0)
theorem f2Q{n}(rv):OK (d4l rv) [.agg ([vi n.Id,vi n.Acc.i0,.raw rv]++b0B n)] (d0j n):=
 o8 _ fun r h=>rg4<|rg4<|C9 n.a6 n.f0<|fE h
def b4B(rv:Value):FS (j6):=⟨217,Tryz.f217,[.val A8 om1],[none,none],[.val A8 om1,.val [] []],fun r=>.agg ([vi r.Id,vi r.Acc.i0,.raw rv]++b0B r),fun _=>[none,none],Tryz.func217⟩
def f5G(i:Nat)(fr:Bool)(r:j6):Nat×L6:=(i,{a:=.callr 0 2 [.val A8 om1,.val [] []] fr (.agg ([vi r.Id,vi r.Acc.i0,.hole]++b0B r)) [none,none]})
def e26(rv:Value)(n:j6):Unit->KS:=fun _=>⟨(b4B rv).k 2 [false],(bs 2 (.ptr 1 0 0::(bs 1 (.ptr 2 0 0::(bs 12 []))))),[some [m6 52 7 s6 n.a6,m6 4 1 eB n.c9,m6 4 1 eB n.a7,m6 52 7 s6 n.f0],some [.var 54 ([vi n.Id,vi n.Acc.i0,.raw rv,.own 0 0 7 0 n.a6.length,vi n.Seq,vi n.d6,vi n.a8,.own 0 1 1 0 n.c9.length]++a64 n++[.own 0 2 1 0 n.a7.length]++a3O n++[.own 0 3 7 0 n.f0.length])],some [.var 54 [vi 0,vi 0,.nil,.nil,vi 0,vi 0,vi 0,.nil,.nil,.b false,vi 0,vi 0,.nil,.nil,vi 0,vi 0,.nil,.b false,.nil,.b false,vi 0,vi 0,.nil,.nil,vi 0,vi 0,.nil]]]⟩
def d3L(n:j6):Option j6:=
 some n
theorem e6B(rv n)(r):NF (b4B rv) r (e26 rv n) (fun s=>d3L n):=fun _ h=>PK<|rg<|K0 n<|fE h
def b2J(n:j6)(bal:Int):Option j6:=
 (((bif (n.d6 != 0) then (bif decide (bal>n.a8) then ((d0j n).bind fun r_=>some (l9.ret r_)) else some (l9.brk ())) else some (l9.brk ())):Option (l9 j6 Unit)).bind fun x=>x.go some fun j=>d3L n)
theorem f4G{n bal}(rv):OK (b4B rv) [.agg ([vi n.Id,vi n.Acc.i0,.raw rv]++b0B n),vi bal] (b2J n bal):=
 o8 _ fun r h=>rg<|A4 h (e6B rv n r) fun x1 h hc1=>rg<|j5 3 h (fun h=>j5 8 h (fun h=>rg<|cb (d4l rv).t (f2Q rv) 1 false h fun r_ h=>K0 n<|(B8 h hc1 fun h=>K0 r_<|fE h)) (fun h=>(o9 h hc1 fun hI=>sk [] [2,4] [(1,0),(2,0)] hI))) (fun h=>(o9 h hc1 fun hI=>sk [] [2,4] [(1,0),(2,0)] hI))
theorem f5a{n bal}(r)(h:b2J n bal=some r):∀c,a0K cx.P 217 [.agg ([vi n.Id,vi n.Acc.i0,.raw c]++b0B n),vi bal] ((b4B c).R r) ((b4B c).O r):=fun c=>f4G c r h
def b4f:FS (z0×Bool):=⟨198,Tryz.f198,[.val [none,some 8] [none,some 61],.val [] []],[none,none],[.val [none,some 8] [none,some 61],.val [] []],fun r=>.tup [.agg [vi r.1.i0,v6 61 8 q8 r.1.a7],.b r.2],fun _=>[none,none],Tryz.func198⟩
def a9y(a:z0)(bal:Int):Option (z0×Bool):=
 ((a1b bal).bind fun Z6=>(bif (!Z6) then some (a,false) else (bif decide (bal<a.i0) then some (a,false) else some ((z0.mk bal a.a7),true))))
theorem c01{a bal}:OK b4f [.agg [vi a.i0,v6 61 8 q8 a.a7],vi bal] (a9y a bal):=
 o8 _ fun r h=>n9<|j9 a2k a2t 1 h fun Z6 h=>j5 3 h (fun h=>rg<|s8 a.a7<|fE h) (fun h=>j5 8 h (fun h=>rg<|s8 a.a7<|fE h) (fun h=>n9<|s8 a.a7<|fE h))
def c9W:FS (n7):=⟨207,Tryz.f207,[.val O8 om5],[none],[.val O8 []],fun r=>.agg (a7o r),fun _=>[none],Tryz.func207⟩
def c7x(r_:n7):Option n7:=
 (t5 ((([]:List r9).length+r_.b5.length)*16<=140737488355328) ((t5 ((([]:List p8).length+r_.b7.length)*16<=140737488355328) (some (n7.mk (([]:List r9)++r_.b5) (([]:List p8)++r_.b7) r_.d8 r_.Code)))))
theorem f6D{r_}:OK c9W [.agg (R9 r_)] (c7x r_):=
 o8 _ fun r h=>n9<|tk 0 []<|t9 h fun e1 h=>oa 6 0 2 ([]:List r9) r_.b5<|oz 153 2 w8 ([]:List r9) r_.b5<|A9 r9<|ob e1<|tl (3,{v:=some (.own 6 0 2 0 (([]:List r9)++r_.b5).length),e:=some (m6 153 2 w8 (([]:List r9)++r_.b5))})<|tk 4 []<|t9 h fun e2 h=>oa 10 0 2 ([]:List p8) r_.b7<|oz 156 2 w9 ([]:List p8) r_.b7<|A9 p8<|ob e2<|tl (7,{v:=some (.own 10 0 2 0 (([]:List p8)++r_.b7).length),e:=some (m6 156 2 w9 (([]:List p8)++r_.b7))})<|C9 (([]:List r9)++r_.b5) (([]:List p8)++r_.b7)<|fE h
def d4m:FS (m4):=⟨176,Tryz.f176,[.val J5 om6],[none],[.val J5 []],fun r=>.agg (e6L r),fun _=>[none],Tryz.func176⟩
def b6E(e_:m4):Option m4:=
 ((c7x e_.b6).bind fun d=>some (m4.mk e_.i7 e_.a5 d))
theorem e1T{e_}:OK d4m [.agg (s6 e_)] (b6E e_):=
 o8 _ fun r h=>n9<|j9 c9W f6D 6 h fun d h=>olR d<|fE h
def a3z:FS (List m8):=⟨199,Tryz.f199,[.val [some 8] [some 1000061]],[none],[.part],fun r=>b1c 61 8 a0U r,fun _=>[none],Tryz.func199⟩
def d47:(List m8)->KS:=fun out1=>⟨a3z.k 4 [false],(bs 3 (.own 1 0 8 0 out1.length::(bs 24 []))),[some [],some [C6 61 8 a0U out1]]⟩
def d7I(out1:List m8):Option (List m8):=
 some out1
theorem e54(r):NF a3z r d47 (fun s=>d7I s):=fun out1 h=>PK<|rg<|s8 out1<|fE h
def e0I(list:List m8):((List m8)×Int)->KS:=fun (out,i)=>⟨a3z.k 3 [],(l7 8 q8 list::(bs 2 (.own 1 0 8 0 out.length::(vi i::(bs 23 []))))),[some [],some [C6 61 8 a0U out]]⟩
def e68(vote:m8)(d:m4):List V:=[vi vote.a8,.b d.i7,vi d.a5.b9,vi d.a5.Seq,v6 153 2 w8 d.b6.b5,v6 156 2 w9 d.b6.b7,vi d.b6.d8,vi d.b6.Code]
def b24(list:List m8)(out:List m8)(i:Int):Option (j7 (List m8) ((List m8)×Int) (List m8)):=
 (bif decide (i<(list.length:Int)) then ((idx list i).bind fun vote=>((b6E vote.g9).bind fun d=>(t5 ((out.length+1)*96<=140737488355328) (some (j7.nxt (out++[(m8.mk vote.a8 d)],m7 (i+1))))))) else some (j7.brk out))
theorem f7O(list):LQ a3z d47 (e0I list) (fun s=>b24 list s.1 s.2):=fun lc (out,i) h=>PK<|rg<|j5 3 h (fun h=>rg<|u0 q8 3 h fun vote K8 h=>I1 q8 8 K8<|j9 d4m e1T 11 h fun d h=>om (s9.deep false 61 8 1 [(e68 vote d)]=C6 61 8 a0U [(m8.mk vote.a8 d)]) rfl<|olR d.b6<|tl (13,{a:=.dck [none,none,none,none,some 2,some 2,none,none] [none,none,none,none,some 153,some 156,none,none],e:=some (C6 61 8 a0U [(m8.mk vote.a8 d)])})<|t9 h fun e1 h=>om (V.own 20 0 8 0 (out.length+1)=.own 20 0 8 0 (out++[(m8.mk vote.a8 d)]).length) (by simp)<|om (s9.deep false 61 8 (out.length+1) (out.map a0U++[a0U (m8.mk vote.a8 d)])=C6 61 8 a0U (out++[(m8.mk vote.a8 d)])) (c58 rfl)<|s8 out<|ob e1<|om (1=1) rfl<|tl (14,{a:=.dck [] [],v:=some (.own 20 0 8 0 (out++[(m8.mk vote.a8 d)]).length),e:=some (C6 61 8 a0U (out++[(m8.mk vote.a8 d)]))})<|rg<|(lc.nx h fun hI=>sk [] [0,3,4] [(20,0)] hI)) (fun h=>(lc.bk h fun hI=>sk [] [3] [(1,0)] hI))
def c0e(list:List m8):Option (List m8):=
 ((o7 (fun s:(List m8)×Int=>b24 list s.1 s.2) (([]:List m8),0)).bind fun x=>x.go (fun r=>some r) fun s=>d7I s)
theorem d9D{list}:OK a3z [l7 8 q8 list] (c0e list):=
 o8 _ fun r h=>n9<|om (s9.deep false 61 8 0 []=C6 61 8 a0U ([]:List m8)) rfl<|tl (0,{a:=.dck [] [],e:=some (C6 61 8 a0U ([]:List m8))})<|rg<|lp (f7O list) h (fun _ h=>a3z.rt h) (e54 r) fun hI=>om ((.own 2 0 8 0 0:V)=.own 2 0 8 0 ([]:List m8).length) (by simp)<|sk [.is (.tmp 3) (.own 2 0 8 0 ([]:List m8).length)] [0,3,4] [(2,0)] hI
def d6e:FS (j6×List l8):=⟨212,Tryz.f212,[.val A8 H2,.val [some 13] []],[none,none],[.val A8 H2,.val C2 []],fun r=>.tup [.agg (H5 r.1),l7 13 t7 r.2],fun _=>[none,none],Tryz.func212⟩
def b8d(n:j6)(m:l8):Option (j6×List l8):=
 (a5D (a9R n.Acc m.a8) (fun no=>(bif (!no.2) then ((a5x m (l8.mk 6 0 0 n.Acc.i0 0 (m4.mk false (n5.mk 0 0) (n7.mk [] [] 0 0)) [])).bind fun a1I=>some (n,a1I)) else none)) (((a9y n.Acc m.a8).bind fun l6Promise=>(bif (!l6Promise.2) then none else ((b2J (j6.mk n.Id l6Promise.1 n.a6 n.Seq n.d6 n.a8 n.c9 n.i4 n.c8 n.a7 n.i9 n.i6 n.b8 n.f0) m.a8).bind fun r_=>(bif decide (m.g8<(l6Promise.1.a7.length:Int)) then (t5 ((0:Int)<=m.g8/\m.g8<=(l6Promise.1.a7.length:Int)) (((c0e ((l6Promise.1.a7.drop m.g8.toNat).take (l6Promise.1.a7.length-m.g8.toNat))).bind fun d=>((a5x m (l8.mk 2 0 0 m.a8 m.g8 (m4.mk false (n5.mk 0 0) (n7.mk [] [] 0 0)) d)).bind fun a5t=>some ((j6.mk r_.Id (z0.mk r_.Acc.i0 l6Promise.1.a7) r_.a6 r_.Seq r_.d6 r_.a8 r_.c9 r_.i4 r_.c8 r_.a7 r_.i9 r_.i6 r_.b8 r_.f0),a5t))))) else ((a5x m (l8.mk 2 0 0 m.a8 m.g8 (m4.mk false (n5.mk 0 0) (n7.mk [] [] 0 0)) ([]:List m8))).bind fun d1z=>some ((j6.mk r_.Id (z0.mk r_.Acc.i0 l6Promise.1.a7) r_.a6 r_.Seq r_.d6 r_.a8 r_.c9 r_.i4 r_.c8 r_.a7 r_.i9 r_.i6 r_.b8 r_.f0),d1z))))))))
set_option maxRecDepth 20000 in
theorem e2d{n m}:OK d6e [.agg (H5 n),.agg (t7 m)] (b8d n m):=
 o8 _ fun r h=>n9<|cbA a69.t c2w 4 true h (fun no h=>osc a69 no (by simp [a69,L2,R8,O1,V.simple,vi,v6,a0Z,eB,s6,eI,w9,w8,F4,R9,q8]) (Q4 2)<|s8 n.Acc.a7<|rg<|j5 1 h (fun h=>rg<|j9 a4y a8Q 6 h fun a1I h=>A3 n<|fE h) (fun h=>(nomatch h))) (fun h=>j9 b4f c01 4 h fun l6Promise h=>s8 n.Acc.a7<|rg<|j5 1 h (fun h=>(nomatch h)) (fun h=>n9<|cb f5G f5a 3 false h fun r_ h=>K0 n<|rg<|tk 0 U8<|rg<|j5 5 h (fun h=>rg<|t9 h fun e1 h=>ob e1.1<|ob e1.2<|B0 h fun d hd h=>om (a0K cx.P 199 [.sl 8 (l6Promise.1.a7.length-m.g8.toNat) (((l6Promise.1.a7.map q8).drop (0+m.g8.toNat)).take (l6Promise.1.a7.length-m.g8.toNat))] (a3z.R d) (a3z.O d)) (by rw [f9W,b33 e1];exact (d9D d hd))<|osc a3z d (by simp [a3z,L2,R8,O1,V.simple,vi,v6,b6M,eB,s6,eI,w9,w8,F4,R9,q8,a0U,b1c]) (Q4 1)<|om ((0+m.g8.toNat)+(l6Promise.1.a7.length-m.g8.toNat)<=l6Promise.1.a7.length) (by omega)<|tl (a3z.t 5 true d)<|rg<|B0 h fun a5t f2Y h=>om (a0K cx.P 225 [.agg (t7 m),.agg [vi 2,vi 0,vi 0,vi m.a8,vi m.g8,.b false,vi 0,vi 0,l7 2 w8 ([]:List r9),l7 2 w9 ([]:List p8),vi 0,vi 0,.sl 8 d.length (a1p (d.map a0U))]] (a4y.R a5t) (a4y.O a5t)) (by simp only [b5O e2Q];exact (a8Q a5t f2Y))<|s8 d<|tl (a4y.t 8 false a5t)<|s8 l6Promise.1.a7<|K0 r_<|fE h) (fun h=>rg<|j9 a4y a8Q 8 h fun d1z h=>A9 m8<|s8 l6Promise.1.a7<|K0 r_<|fE h)))
def d7T:FS (List m8):=⟨227,Tryz.f227,[.val [some 8] [some 61]],[none,none],[.val [some 8] [],.val [] []],fun r=>v6 61 8 q8 r,fun _=>[none,none],Tryz.func227⟩
def b9U(list:List m8)(slot:Int):Option (List m8):=
 (t5 (0<=slot/\slot*96<=140737488355328) (((a9s list).bind fun Y7=>(t5 (((f8O slot.toNat (m8.mk 0 (m4.mk false (n5.mk 0 0) (n7.mk [] [] 0 0)))).length+Y7.length)*96<=140737488355328) (some ((f8O slot.toNat (m8.mk 0 (m4.mk false (n5.mk 0 0) (n7.mk [] [] 0 0))))++Y7))))))
theorem f5I{list slot}:OK d7T [l7 8 q8 list,vi slot] (b9U list slot):=
 o8 _ fun r h=>n9<|t9 h fun e1 h=>S8 1 3 61 8 96 q8 (m8.mk 0 (m4.mk false (n5.mk 0 0) (n7.mk [] [] 0 0))) b3a (.ck U8) e1 (by decide) (by rfl)<|rg<|j9 a3X b6T 2 h fun Y7 h=>t9 h fun e2 h=>apL 3 8 61 8 96 q8 (f8O slot.toNat (m8.mk 0 (m4.mk false (n5.mk 0 0) (n7.mk [] [] 0 0)))) Y7 e2<|s8 Y7<|s8 ((f8O slot.toNat (m8.mk 0 (m4.mk false (n5.mk 0 0) (n7.mk [] [] 0 0))))++Y7)<|fE h
def a1X:FS (List m8):=⟨226,Tryz.f226,[.val [some 8] []],[none,none],[.val [some 8] [],.val [some 8] []],fun r=>l7 8 q8 r,fun _=>[none,none],Tryz.func226⟩
def b3r:(List m8)->KS:=fun out1=>⟨a1X.k 4 [false],(bs 5 (.own 1 0 8 0 out1.length::(bs 52 []))),[some [],some [m6 61 8 q8 out1]]⟩
def d4G(out1:List m8):Option (List m8):=
 some out1
theorem e3w(r):NF a1X r b3r (fun s=>d4G s):=fun out1 h=>PK<|rg<|s8 out1<|fE h
def b9t(a:List m8)(b:List m8):((List m8)×Int)->KS:=fun (out,i)=>⟨a1X.k 3 [],(l7 8 q8 a::(l7 8 q8 b::(bs 3 (.own 1 0 8 0 out.length::(vi i::(bs 51 [])))))),[some [],some [m6 61 8 q8 out]]⟩
def f1z(a:List m8)(b:List m8)(out:List m8)(i:Int):Unit->KS:=fun _=>⟨a1X.k 4 [true],(l7 8 q8 a::(l7 8 q8 b::(bs 3 (.own 1 0 8 0 out.length::(vi i::(bs 51 [])))))),[some [],some [m6 61 8 q8 out]]⟩
def e0K(a:List m8)(b:List m8)(out:List m8)(i:Int):m8->KS:=fun v_=>⟨a1X.k 7 [true,true],(l7 8 q8 a::(l7 8 q8 b::(bs 3 (.own 1 0 8 0 out.length::(vi i::(.ptr 2 0 0::(bs 50 []))))))),[some [],some [m6 61 8 q8 out],some [.var 61 (d76 v_)]]⟩
def f5A(a:List m8)(b:List m8)(out:List m8)(i:Int):m8->KS:=fun v_1=>⟨a1X.k 9 [true,true,true],(l7 8 q8 a::(l7 8 q8 b::(bs 3 (.own 1 0 8 0 out.length::(vi i::(.ptr 2 0 0::(bs 50 []))))))),[some [],some [m6 61 8 q8 out],some [.var 61 (d76 v_1)]]⟩
def b96(out:List m8)(i:Int)(v_1:m8):Option (j7 (List m8) ((List m8)×Int) (List m8)):=
 ((X7 v_1.g9).bind fun l5Entry=>(t5 ((out.length+1)*96<=140737488355328) (some (j7.nxt (out++[(m8.mk v_1.a8 l5Entry)],m7 (i+1))))))
theorem f4T(a b out i)(lc:D4 a1X b3r (b9t a b)):NL lc (f5A a b out i) (fun s=>b96 out i s):=fun v_1 h=>PK<|rg<|j9 a0y a0O 5 h fun l5Entry h=>tk 7 U8<|t9 h fun e1 h=>F7 8 11 61 8 96 q8 out (m8.mk v_1.a8 l5Entry) e1<|E7 (m8.mk v_1.a8 l5Entry)<|rg<|(lc.nx h fun hI=>sk [] [0,1,5,6] [(11,0)] hI)
def b8a(b:List m8)(out:List m8)(i:Int)(v_:m8):Option (j7 (List m8) ((List m8)×Int) (List m8)):=
 (((bif decide (i<(b.length:Int)) then ((idx b i).bind fun vote=>(bif decide (vote.a8>v_.a8) then some (l9.brk vote) else some (l9.brk v_))) else some (l9.brk v_)):Option (l9 (j7 (List m8) ((List m8)×Int) (List m8)) m8)).bind fun x=>x.go some fun j=>b96 out i j)
theorem f8p(a b out i)(lc:D4 a1X b3r (b9t a b)):NL lc (e0K a b out i) (fun s=>b8a b out i s):=fun v_ h=>PK<|A4 h (f4T a b out i lc) fun x2 h hc2=>rg<|j5 4 h (fun h=>u0 q8 7 h fun vote K8 h=>j5 13 h (fun h=>rg<|I1 q8 2 K8<|(o9 h hc2 fun hI=>sk [] [0,1,5,6,7] [(1,0),(2,0)] hI)) (fun h=>(o9 h hc2 fun hI=>sk [] [0,1,5,6,7] [(1,0),(2,0)] hI))) (fun h=>(o9 h hc2 fun hI=>sk [] [0,1,5,6,7] [(1,0),(2,0)] hI))
def b6p(a:List m8)(b:List m8)(out:List m8)(i:Int):Option (j7 (List m8) ((List m8)×Int) (List m8)):=
 (((bif decide (i<(a.length:Int)) then ((idx a i).bind fun S6=>some (l9.brk S6)) else some (l9.brk (m8.mk 0 (m4.mk false (n5.mk 0 0) (n7.mk [] [] 0 0))))):Option (l9 (j7 (List m8) ((List m8)×Int) (List m8)) m8)).bind fun x=>x.go some fun j=>b8a b out i j)
theorem f2K(a b out i)(lc:D4 a1X b3r (b9t a b)):NL lc (f1z a b out i) (fun s=>b6p a b out i):=fun _ h=>PK<|rg<|A4 h (f8p a b out i lc) fun x2 h hc2=>rg<|j5 3 h (fun h=>rg<|u0 q8 2 h fun S6 a4k h=>(o9 h hc2 fun hI=>sk [] [0,1,5,6,7] [(1,0),(3,0)] hI)) (fun h=>(o9 h hc2 fun hI=>sk [.frz (.cell 3 0 4) (some 2),.frz (.cell 3 0 5) (some 2)] [0,1,5,6,7] [(1,0),(3,0)] hI))
def a6Y(a:List m8)(b:List m8)(out:List m8)(i:Int):Option (j7 (List m8) ((List m8)×Int) (List m8)):=
 (((bif decide (i<(a.length:Int)) then some (l9.brk ()) else (bif decide (i<(b.length:Int)) then some (l9.brk ()) else some (l9.ret (j7.brk out)))):Option (l9 (j7 (List m8) ((List m8)×Int) (List m8)) Unit)).bind fun x=>x.go some fun j=>b6p a b out i)
theorem f8c(a b):LQ a1X b3r (b9t a b) (fun s=>a6Y a b s.1 s.2):=fun lc (out,i) h=>PK<|A4 h (f2K a b out i lc) fun x2 h hc2=>rg<|j5 4 h (fun h=>(o9 h hc2 fun hI=>sk [] [0,1,5,6] [(1,0)] hI)) (fun h=>j5 9 h (fun h=>(o9 h hc2 fun hI=>sk [] [0,1,5,6] [(1,0)] hI)) (fun h=>(B8 h hc2 fun h=>(lc.bk h fun hI=>sk [] [5] [(1,0)] hI))))
def c05(a:List m8)(b:List m8):Option (List m8):=
 ((o7 (fun s:(List m8)×Int=>a6Y a b s.1 s.2) (([]:List m8),0)).bind fun x=>x.go (fun r=>some r) fun s=>d4G s)
theorem f3a{a b}:OK a1X [l7 8 q8 a,l7 8 q8 b] (c05 a b):=
 o8 _ fun r h=>n9<|tk 0 U8<|rg<|lp (f8c a b) h (fun _ h=>a1X.rt h) (e3w r) fun hI=>om ((.own 2 0 8 0 0:V)=.own 2 0 8 0 ([]:List m8).length) (by simp)<|sk [.is (.tmp 5) (.own 2 0 8 0 ([]:List m8).length)] [0,1,5,6] [(2,0)] hI
def d4L:FS (Int):=⟨232,Tryz.f232,[.val [] []],[none],[.val [] []],fun r=>vi r,fun _=>[none],Tryz.func232⟩
def c36(b:Bool):Option Int:=
 (bif b then some 1 else some 0)
theorem e4Q{b}:OK d4L [.b b] (c36 b):=
 o8 _ fun r h=>n9<|j5 0 h (fun h=>rg<|fE h) (fun h=>rg<|fE h)
def a7b:FS (Bool):=⟨228,Tryz.f228,[.val [] []],[none],[.val [some 1] []],fun r=>.b r,fun _=>[none],Tryz.func228⟩
def c9q:Int->KS:=fun n1=>⟨a7b.k 4 [false],(bs 3 (vi n1::(bs 16 []))),[some []]⟩
def c6W(n1:Int):Option Bool:=
 some (decide (n1>=2))
theorem e5Y(r):NF a7b r c9q (fun s=>c6W s):=fun n1 h=>PK<|rg<|fE h
def f4J(list:List Bool):(Int×Int)->KS:=fun (n,i)=>⟨a7b.k 3 [],(l7 1 eB list::(bs 2 (vi n::(vi i::(bs 15 []))))),[some []]⟩
def a4K(list:List Bool)(n:Int)(i:Int):Option (j7 Bool (Int×Int) Int):=
 (bif decide (i<(list.length:Int)) then ((idx list i).bind fun y=>((c36 y).bind fun c9X=>some (j7.nxt (m7 (n+c9X),m7 (i+1))))) else some (j7.brk n))
theorem f6y(list):LQ a7b c9q (f4J list) (fun s=>a4K list s.1 s.2):=fun lc (n,i) h=>PK<|rg<|j5 3 h (fun h=>rg<|u0 eB 3 h fun y hy h=>j9 d4L e4Q 5 h fun c9X h=>rg<|(lc.nx h fun hI=>sk [] [0,3,4] [] hI)) (fun h=>(lc.bk h fun hI=>sk [] [3] [] hI))
def b4V(list:List Bool):Option Bool:=
 ((o7 (fun s:Int×Int=>a4K list s.1 s.2) (0,0)).bind fun x=>x.go (fun r=>some r) fun s=>c6W s)
theorem d1w{list}:OK a7b [l7 1 eB list] (b4V list):=
 o8 _ fun r h=>L8<|lp (f6y list) h (fun _ h=>a7b.rt h) (e5Y r) fun hI=>sk [] [0,3,4] [] hI
def a7A:FS (Bool):=⟨231,Tryz.f231,[.val [] []],[none,none],[.val [some 8] [],.val [] []],fun r=>.b r,fun _=>[none,none],Tryz.func231⟩
def d4O:Unit->KS:=fun _=>⟨a7A.k 3 [false],(bs 19 []),[some []]⟩
def d4T:Option Bool:=
 some false
theorem f8q(r):NF a7A r d4O (fun s=>d4T):=fun _ h=>PK<|rg<|fE h
def f7W(list:List m8):Int->KS:=fun i=>⟨a7A.k 2 [],(l7 8 q8 list::(bs 4 (vi i::(bs 13 [])))),[some []]⟩
def a7T(list:List m8)(i:Int):Option (j7 Bool Int Unit):=
 (bif decide (i<(list.length:Int)) then ((idx list i).bind fun vote=>(bif decide (vote.a8>0) then some (j7.ret true) else some (j7.nxt (m7 (i+1))))) else some (j7.brk ()))
theorem e0w(list):LQ a7A d4O (f7W list) (fun s=>a7T list s):=fun lc i h=>PK<|rg<|j5 3 h (fun h=>rg<|u0 q8 2 h fun vote K8 h=>j5 5 h (fun h=>rg<|fL lc h) (fun h=>rg<|(lc.nx h fun hI=>sk [] [0,5] [] hI))) (fun h=>(lc.bk h fun hI=>sk [] [] [] hI))
def c0c(list:List m8)(from_:Int):Option Bool:=
 ((o7 (fun s:Int=>a7T list s) from_).bind fun x=>x.go (fun r=>some r) fun s=>d4T)
theorem f1Z{list from_}:OK a7A [l7 8 q8 list,vi from_] (c0c list from_):=
 o8 _ fun r h=>n9<|lp (e0w list) h (fun _ h=>a7A.rt h) (f8q r) fun hI=>sk [] [0,5] [] hI
def a2O:FS (Bool):=⟨230,Tryz.f230,[.val [] []],[none,none],[.val A8 [],.val [] []],fun r=>.b r,fun _=>[none,none],Tryz.func230⟩
def c3u:Unit->KS:=fun _=>⟨a2O.k 3 [false],(bs 30 []),[some []]⟩
def d1Y:Option Bool:=
 some false
theorem f5Q(r):NF a2O r c3u (fun s=>d1Y):=fun _ h=>PK<|rg<|fE h
def d6g(n:j6)(q:n5):Int->KS:=fun i=>⟨a2O.k 2 [],(bs 2 (.ptr 1 0 0::(.ptr 2 0 0::(bs 1 (vi i::(bs 24 [])))))),[some [],some [.var 54 (Y4 n)],some [.var 46 [vi q.b9,vi q.Seq]]]⟩
def f8m(n:j6)(q:n5)(i:Int):Unit->KS:=fun _=>⟨a2O.k 4 [true,false],(bs 2 (.ptr 1 0 0::(.ptr 2 0 0::(bs 1 (vi i::(bs 24 [])))))),[some [],some [.var 54 (Y4 n)],some [.var 46 [vi q.b9,vi q.Seq]]]⟩
def c1x(i:Int):Option (j7 Bool Int Unit):=
 some (j7.nxt (m7 (i+1)))
theorem f0w(n q i)(lc:D4 a2O c3u (d6g n q)):NL lc (f8m n q i) (fun s=>c1x i):=fun _ h=>PK<|rg<|(lc.nx h fun hI=>sk [] [2,3,5] [(1,0),(2,0)] hI)
def a9I(n:j6)(q:n5)(i:Int):Option (j7 Bool Int Unit):=
 (bif decide (i<(n.a6.length:Int)) then ((((idx n.a6 i).bind fun entry=>(bif (!entry.i7) then (bif (([entry.a5.b9,entry.a5.Seq]:List Int)==[q.b9,q.Seq]) then some (l9.ret (j7.ret true)) else some (l9.brk ())) else some (l9.brk ()))):Option (l9 (j7 Bool Int Unit) Unit)).bind fun x=>x.go some fun j=>c1x i) else some (j7.brk ()))
theorem f6Y(n q):LQ a2O c3u (d6g n q) (fun s=>a9I n q s):=fun lc i h=>PK<|rg<|j5 4 h (fun h=>A4 h (f0w n q i lc) fun x2 h hc2=>rg<|u0 s6 3 h fun entry E9 h=>j5 7 h (fun h=>I1 s6 11 E9<|j5 16 h (fun h=>rg<|(B8 h hc2 fun h=>fL lc h)) (fun h=>(o9 h hc2 fun hI=>sk [] [2,3,5] [(1,0),(2,0)] hI))) (fun h=>(o9 h hc2 fun hI=>sk [] [2,3,5] [(1,0),(2,0)] hI))) (fun h=>(lc.bk h fun hI=>sk [] [] [] hI))
def a8t(n:j6)(q:n5):Option Bool:=
 ((o7 (fun s:Int=>a9I n q s) 0).bind fun x=>x.go (fun r=>some r) fun s=>d1Y)
theorem c1e{n q}:OK a2O [.agg (x6 n),.agg (F4 q)] (a8t n q):=
 o8 _ fun r h=>n9<|lp (f6Y n q) h (fun _ h=>a2O.rt h) (f5Q r) fun hI=>sk [] [2,3,5] [(1,0),(2,0)] hI
def a3h:FS (j6×m4×Bool):=⟨221,Tryz.f221,[.val A8 H2,.val J5 [],.val [] []],[none],[.val A8 H2],fun r=>.tup [.agg (H5 r.1),.agg (s6 r.2.1),.b r.2.2],fun _=>[none],Tryz.func221⟩
def f0R(n:j6):Unit->KS:=fun _=>⟨a3h.k 3 [false],(bs 1 (.ptr 1 0 0::(.ptr 2 0 0::(.ptr 3 0 0::(bs 1 (vi (n.a6.length:Int)::(bs 69 []))))))),[some (a7R n),some [.var 54 (a8d n)],some [.var 54 [vi 0,vi 0,.nil,.nil,vi 0,vi 0,vi 0,.nil,.nil,.b false,vi 0,vi 0,.nil,.nil,vi 0,vi 0,.nil,.b false,.nil,.b false,vi 0,vi 0,.nil,.nil,vi 0,vi 0,.nil]],some [.var 52 [.b false,vi 0,vi 0,.nil,.nil,vi 0,vi 0]]]⟩
def e5u(n:j6):Unit->KS:=fun _=>⟨a3h.k 5 [false,false,false],(bs 1 (.ptr 1 0 0::(.ptr 2 0 0::(.ptr 3 0 0::(bs 71 []))))),[some (a7R n),some [.var 54 (a8d n)],some [.var 54 [vi 0,vi 0,.nil,.nil,vi 0,vi 0,vi 0,.nil,.nil,.b false,vi 0,vi 0,.nil,.nil,vi 0,vi 0,.nil,.b false,.nil,.b false,vi 0,vi 0,.nil,.nil,vi 0,vi 0,.nil]],some [.var 52 [.b false,vi 0,vi 0,.nil,.nil,vi 0,vi 0]]]⟩
def d6n(n:j6):(List m4)->KS:=fun b1t=>⟨a3h.k 6 [false,false,false,false],(bs 1 (.ptr 1 0 0::(.ptr 3 0 0::(.ptr 4 0 0::(bs 71 []))))),[some [m6 61 8 q8 n.Acc.a7,m6 52 7 s6 n.a6,m6 4 1 eB n.c9,m6 4 1 eB n.a7,.dead],some [.var 54 ([vi n.Id,vi n.Acc.i0,.own 0 0 8 0 n.Acc.a7.length,.own 0 1 7 0 n.a6.length,vi n.Seq,vi n.d6,vi n.a8,.own 0 2 1 0 n.c9.length]++a64 n++[.own 0 3 1 0 n.a7.length]++a3O n++[.own 2 0 7 0 b1t.length])],some [m6 52 7 s6 b1t],some [.var 54 [vi 0,vi 0,.nil,.nil,vi 0,vi 0,vi 0,.nil,.nil,.b false,vi 0,vi 0,.nil,.nil,vi 0,vi 0,.nil,.b false,.nil,.b false,vi 0,vi 0,.nil,.nil,vi 0,vi 0,.nil]],some [.var 52 [.b false,vi 0,vi 0,.nil,.nil,vi 0,vi 0]]]⟩
def d4q(n:j6)(b1t:List m4):Option (j6×m4×Bool):=
 some ((j6.mk n.Id n.Acc n.a6 n.Seq n.d6 n.a8 n.c9 n.i4 n.c8 n.a7 n.i9 n.i6 n.b8 b1t),(m4.mk false (n5.mk 0 0) (n7.mk [] [] 0 0)),false)
theorem e2Y(n)(r):NF a3h r (d6n n) (fun s=>d4q n s):=fun b1t h=>PK<|rg<|s8 n.Acc.a7<|H8 n.a6 n.c9 n.a7 b1t<|fE h
def e9G(n:j6):(List m4)->KS:=fun f0=>⟨a3h.k 5 [false,false,false],(bs 1 (.ptr 1 0 0::(.ptr 2 0 0::(.ptr 3 0 0::(bs 71 []))))),[some [m6 61 8 q8 n.Acc.a7,m6 52 7 s6 n.a6,m6 4 1 eB n.c9,m6 4 1 eB n.a7,.dead],some [.var 54 ([vi n.Id,vi n.Acc.i0,.own 0 0 8 0 n.Acc.a7.length,.own 0 1 7 0 n.a6.length,vi n.Seq,vi n.d6,vi n.a8,.own 0 2 1 0 n.c9.length]++a64 n++[.own 0 3 1 0 n.a7.length]++a3O n++[.own 4 0 7 0 f0.length])],some [.var 54 [vi 0,vi 0,.nil,.nil,vi 0,vi 0,vi 0,.nil,.nil,.b false,vi 0,vi 0,.nil,.nil,vi 0,vi 0,.nil,.b false,.nil,.b false,vi 0,vi 0,.nil,.nil,vi 0,vi 0,.nil]],some [.var 52 [.b false,vi 0,vi 0,.nil,.nil,vi 0,vi 0]],some [m6 52 7 s6 f0]]⟩
def b0i(n:j6)(f0:List m4):Option (j7 (j6×m4×Bool) (List m4) (List m4)):=
 (bif decide ((f0.length:Int)>0) then ((idx f0 0).bind fun entry=>(t5 ((0:Int)<=1/\1<=(f0.length:Int)) ((t5 ((([]:List m4).length+(f0.length-(1:Int).toNat))*88<=140737488355328) (((a8t (j6.mk n.Id n.Acc n.a6 n.Seq n.d6 n.a8 n.c9 n.i4 n.c8 n.a7 n.i9 n.i6 n.b8 (([]:List m4)++(f0.drop (0+(1:Int).toNat)).take (f0.length-(1:Int).toNat))) entry.a5).bind fun a5P=>(bif (!a5P) then some (j7.ret ((j6.mk n.Id n.Acc n.a6 n.Seq n.d6 n.a8 n.c9 n.i4 n.c8 n.a7 n.i9 n.i6 n.b8 (([]:List m4)++(f0.drop (0+(1:Int).toNat)).take (f0.length-(1:Int).toNat))),entry,true)) else some (j7.nxt (([]:List m4)++(f0.drop (0+(1:Int).toNat)).take (f0.length-(1:Int).toNat)))))))))) else some (j7.brk f0))
theorem f6O(n):LQ a3h (d6n n) (e9G n) (fun s=>b0i n s):=fun lc f0 h=>PK<|rg<|j5 3 h (fun h=>rg<|B0 h fun entry E9 h=>C0 E9<|I6 s6 3 E9<|rg<|tk 0 J5<|t9 h fun e1 h=>ob e1.1<|ob e1.2<|t9 h fun e2 h=>om (V.own 19 0 7 0 (([]:List m4).length+(f0.length-(1:Int).toNat))=.own 19 0 7 0 (([]:List m4)++(f0.drop (0+(1:Int).toNat)).take (f0.length-(1:Int).toNat)).length) (c6I (by omega))<|om (s9.row 52 7 (([]:List m4).length+(f0.length-(1:Int).toNat)) (([]:List m4).map s6++((f0.map s6).drop (0+(1:Int).toNat)).take (f0.length-(1:Int).toNat))=m6 52 7 s6 (([]:List m4)++(f0.drop (0+(1:Int).toNat)).take (f0.length-(1:Int).toNat))) (c49 (by omega))<|A9 m4<|ob e2<|om ((0+(1:Int).toNat)+(f0.length-(1:Int).toNat)<=f0.length) (by omega)<|tl (4,{a:=.part,v:=some (.own 19 0 7 0 (([]:List m4)++(f0.drop (0+(1:Int).toNat)).take (f0.length-(1:Int).toNat)).length),e:=some (m6 52 7 s6 (([]:List m4)++(f0.drop (0+(1:Int).toNat)).take (f0.length-(1:Int).toNat)))})<|rg<|R3 a2O c1e 3 2 h fun a5P h=>s8 n.Acc.a7<|H8 n.a6 n.c9 n.a7 (([]:List m4)++(f0.drop (0+(1:Int).toNat)).take (f0.length-(1:Int).toNat))<|j5 4 h (fun h=>rg<|s8 n.Acc.a7<|H8 n.a6 n.c9 n.a7 (([]:List m4)++(f0.drop (0+(1:Int).toNat)).take (f0.length-(1:Int).toNat))<|fL lc h) (fun h=>(lc.nx h fun hI=>sk [] [1,2,3] [(1,0),(2,0),(3,0),(19,0)] hI))) (fun h=>(lc.bk h fun hI=>sk [] [1,2,3] [(1,0),(4,0),(2,0),(3,0)] hI))
def c1f(n:j6):Option (j6×m4×Bool):=
 ((o7 (fun s:List m4=>b0i n s) n.f0).bind fun x=>x.go (fun r=>some r) fun s=>d4q n s)
theorem f3u(n)(r):NF a3h r (e5u n) (fun s=>c1f n):=fun _ h=>PK<|lp (f6O n) h (fun _ h=>a3h.rt h) (e2Y n r) fun hI=>sk [] [1,2,3] [(1,0),(2,0),(3,0),(0,4)] hI
def b74(n:j6):Option (j6×m4×Bool):=
 ((c0c n.i4 (n.a6.length:Int)).bind fun c5N=>(bif c5N then some (n,(m4.mk true (n5.mk 0 0) (n7.mk [] [] 0 0)),true) else (((bif n.i9 then ((a8t n n.b8.a5).bind fun d0z=>(bif (!d0z) then ((X7 n.b8).bind fun l5Entry=>some (l9.ret (n,l5Entry,true))) else some (l9.brk ()))) else some (l9.brk ())):Option (l9 (j6×m4×Bool) Unit)).bind fun x=>x.go some fun j=>c1f n)))
theorem e7A(n)(r):NF a3h r (f0R n) (fun s=>b74 n):=fun _ h=>PK<|rg<|cbE a7A.t f1Z h fun c5N c9p h=>cdT (a7A.t 3 false c5N) h (fun _ h=>ob c9p<|rg<|A3 n<|fE h) (fun _ h=>ob c9p<|A4 h (f3u n r) fun x1 h hc1=>rg<|j5 2 h (fun h=>R3 a2O c1e 7 2 h fun d0z h=>A3 n<|j5 9 h (fun h=>rg<|j9 a0y a0O 3 h fun l5Entry h=>(B8 h hc1 fun h=>A3 n<|fE h)) (fun h=>(o9 h hc1 fun hI=>sk [] [1,2,3] [(1,0),(2,0),(3,0)] hI))) (fun h=>(o9 h hc1 fun hI=>sk [] [1,2,3] [(1,0),(2,0),(3,0)] hI)))
def b9g(n:j6):Option (j6×m4×Bool):=
 (((bif decide ((n.a6.length:Int)<(n.i4.length:Int)) then ((idx n.i4 (n.a6.length:Int)).bind fun vote=>(bif decide (vote.a8>0) then ((X7 vote.g9).bind fun b5u=>some (l9.ret (n,b5u,true))) else some (l9.brk ()))) else some (l9.brk ())):Option (l9 (j6×m4×Bool) Unit)).bind fun x=>x.go some fun j=>b74 n)
theorem f4Y{n}:OK a3h [.agg (H5 n)] (b9g n):=
 o8 _ fun r h=>n9<|A4 h (e7A n r) fun x1 h hc1=>rg<|j5 5 h (fun h=>u0 q8 9 h fun vote K8 h=>j5 13 h (fun h=>rg<|I1 q8 4 K8<|j9 a0y a0O 7 h fun b5u h=>(B8 h hc1 fun h=>A3 n<|fE h)) (fun h=>(o9 h hc1 fun hI=>sk [] [1,2,3,5] [(1,0),(2,0),(3,0)] hI))) (fun h=>(o9 h hc1 fun hI=>sk [] [1,2,3,5] [(1,0),(2,0),(3,0)] hI))
def a0D:FS (Bool):=⟨115,Tryz.f115,[.val [] []],[none,none],[.val O8 [],.val O8 []],fun r=>.b r,fun _=>[none,none],Tryz.func115⟩
def c88(a:n7)(b:n7):Unit->KS:=fun _=>⟨a0D.k 4 [false,false],(bs 2 (.ptr 1 0 0::(.ptr 2 0 0::(bs 69 [])))),[some [],some [.var 50 (a0S a)],some [.var 50 (a0S b)]]⟩
def d3t:Unit->KS:=fun _=>⟨a0D.k 6 [false,false,false],(bs 73 []),[some []]⟩
def c7F:Option Bool:=
 some true
theorem e5O(r):NF a0D r d3t (fun s=>c7F):=fun _ h=>PK<|rg<|fE h
def f4S(a:n7)(b:n7):Int->KS:=fun i1=>⟨a0D.k 5 [false,false],(bs 2 (.ptr 1 0 0::(.ptr 2 0 0::(bs 2 (vi i1::(bs 66 [])))))),[some [],some [.var 50 (a0S a)],some [.var 50 (a0S b)]]⟩
def b1Z(a:n7)(b:n7)(i1:Int):Option (j7 Bool Int Unit):=
 (bif decide (i1<(a.b7.length:Int)) then ((idx a.b7 i1).bind fun put=>((idx b.b7 i1).bind fun put1=>(bif (!(([put.i5,put.d8]:List Int)==[put1.i5,put1.d8])) then some (j7.ret false) else some (j7.nxt (m7 (i1+1)))))) else some (j7.brk ()))
theorem f3G(a b):LQ a0D d3t (f4S a b) (fun s=>b1Z a b s):=fun lc i1 h=>PK<|rg<|j5 4 h (fun h=>rg<|u0 w9 3 h fun put hput h=>u0 w9 8 h fun put1 b26 h=>j5 10 h (fun h=>rg<|fL lc h) (fun h=>rg<|(lc.nx h fun hI=>sk [] [2,3,6] [(1,0),(2,0)] hI))) (fun h=>(lc.bk h fun hI=>sk [] [] [] hI))
def c3n(a:n7)(b:n7):Option Bool:=
 ((o7 (fun s:Int=>b1Z a b s) 0).bind fun x=>x.go (fun r=>some r) fun s=>c7F)
theorem d9z(a b)(r):NF a0D r (c88 a b) (fun s=>c3n a b):=fun _ h=>PK<|rg<|lp (f3G a b) h (fun _ h=>a0D.rt h) (e5O r) fun hI=>sk [] [2,3,6] [(1,0),(2,0)] hI
def f7N(a:n7)(b:n7):Int->KS:=fun i=>⟨a0D.k 3 [false],(bs 2 (.ptr 1 0 0::(.ptr 2 0 0::(bs 1 (vi i::(bs 67 [])))))),[some [],some [.var 50 (a0S a)],some [.var 50 (a0S b)]]⟩
def b4m(a:n7)(b:n7)(i:Int):Option (j7 Bool Int Unit):=
 (bif decide (i<(a.b5.length:Int)) then ((idx a.b5 i).bind fun read=>((idx b.b5 i).bind fun T2=>(bif (!(([read.i5,read.j4]:List Int)==[T2.i5,T2.j4])) then some (j7.ret false) else some (j7.nxt (m7 (i+1)))))) else some (j7.brk ()))
theorem f7E(a b):LQ a0D (c88 a b) (f7N a b) (fun s=>b4m a b s):=fun lc i h=>PK<|rg<|j5 4 h (fun h=>rg<|u0 w8 3 h fun read a4r h=>u0 w8 8 h fun T2 d7J h=>j5 10 h (fun h=>rg<|fL lc h) (fun h=>rg<|(lc.nx h fun hI=>sk [] [2,3,5] [(1,0),(2,0)] hI))) (fun h=>(lc.bk h fun hI=>sk [] [2,3] [(1,0),(2,0)] hI))
def a8a(a:n7)(b:n7):Option Bool:=
 (bif (a.d8 != b.d8) then some false else (bif (a.Code != b.Code) then some false else (bif ((a.b5.length:Int) != (b.b5.length:Int)) then some false else (bif ((a.b7.length:Int) != (b.b7.length:Int)) then some false else ((o7 (fun s:Int=>b4m a b s) 0).bind fun x=>x.go (fun r=>some r) fun s=>c3n a b)))))
theorem b5H{a b}:OK a0D [.agg (R9 a),.agg (R9 b)] (a8a a b):=
 o8 _ fun r h=>n9<|j5 5 h (fun h=>rg<|fE h) (fun h=>j5 12 h (fun h=>rg<|fE h) (fun h=>j5 21 h (fun h=>rg<|fE h) (fun h=>j5 29 h (fun h=>rg<|fE h) (fun h=>rg<|lp (f7E a b) h (fun _ h=>a0D.rt h) (d9z a b r) fun hI=>sk [] [2,3,5] [(1,0),(2,0)] hI))))
def b7V:FS (Bool):=⟨112,Tryz.f112,[.val [] []],[none],[.val [] []],fun r=>.b r,fun _=>[none],Tryz.func112⟩
def a99(q:n5):Option Bool:=
 (bif decide (q.b9>=0) then (bif decide (q.b9<3) then (bif decide (q.Seq>=1) then some (decide (q.Seq<=1000)) else some false) else some false) else some false)
theorem c2x{q}:OK b7V [.agg (F4 q)] (a99 q):=
 o8 _ fun r h=>n9<|j5 3 h (fun h=>j5 8 h (fun h=>j5 13 h (fun h=>fE h) (fun h=>fE h)) (fun h=>fE h)) (fun h=>fE h)
def a9D:FS (Bool):=⟨175,Tryz.f175,[.val [] []],[none],[.val [] []],fun r=>.b r,fun _=>[none],Tryz.func175⟩
def a7j(n:Int):Option Bool:=
 (bif decide (n>=(-1000000)) then some (decide (n<=1000000)) else some false)
theorem a9U{n}:OK a9D [vi n] (a7j n):=
 o8 _ fun r h=>n9<|j5 2 h (fun h=>fE h) (fun h=>fE h)
def b4p:FS (Bool):=⟨206,Tryz.f206,[.val [] []],[none],[.val [] []],fun r=>.b r,fun _=>[none],Tryz.func206⟩
def a7K(n:Int):Option Bool:=
 (bif decide (n>=0) then some (decide (n<4)) else some false)
theorem c0W{n}:OK b4p [vi n] (a7K n):=
 o8 _ fun r h=>n9<|j5 2 h (fun h=>fE h) (fun h=>fE h)
def a7p:FS (Bool):=⟨210,Tryz.f210,[.val [] []],[none,none],[.val [some 2] [],.val [] []],fun r=>.b r,fun _=>[none,none],Tryz.func210⟩
def d20:Unit->KS:=fun _=>⟨a7p.k 3 [false],(bs 19 []),[some []]⟩
def d52:Option Bool:=
 some false
theorem e3Q(r):NF a7p r d20 (fun s=>d52):=fun _ h=>PK<|rg<|fE h
def e0Z(list:List r9)(box:Int):Int->KS:=fun i=>⟨a7p.k 2 [],(l7 2 w8 list::(vi box::(bs 3 (vi i::(bs 13 []))))),[some []]⟩
def b5D(list:List r9)(box:Int)(i:Int):Option (j7 Bool Int Unit):=
 (bif decide (i<(list.length:Int)) then ((idx list i).bind fun read=>(bif (read.i5==box) then some (j7.ret true) else some (j7.nxt (m7 (i+1))))) else some (j7.brk ()))
theorem e4Z(list box):LQ a7p d20 (e0Z list box) (fun s=>b5D list box s):=fun lc i h=>PK<|rg<|j5 3 h (fun h=>rg<|u0 w8 2 h fun read a4r h=>j5 6 h (fun h=>rg<|fL lc h) (fun h=>rg<|(lc.nx h fun hI=>sk [] [0,1,5] [] hI))) (fun h=>(lc.bk h fun hI=>sk [] [] [] hI))
def b2W(list:List r9)(box:Int):Option Bool:=
 ((o7 (fun s:Int=>b5D list box s) 0).bind fun x=>x.go (fun r=>some r) fun s=>d52)
theorem d46{list box}:OK a7p [l7 2 w8 list,vi box] (b2W list box):=
 o8 _ fun r h=>n9<|lp (e4Z list box) h (fun _ h=>a7p.rt h) (e3Q r) fun hI=>sk [] [0,1,5] [] hI
def a5a:FS (Int):=⟨211,Tryz.f211,[.val [] []],[none,none],[.val [some 2] [],.val [] []],fun r=>vi r,fun _=>[none,none],Tryz.func211⟩
def d6x:Unit->KS:=fun _=>⟨a5a.k 3 [false],(bs 20 []),[some []]⟩
def d5S:Option Int:=
 some (-1)
theorem f0Z(r):NF a5a r d6x (fun s=>d5S):=fun _ h=>PK<|rg<|fE h
def f0c(list:List p8)(box:Int):Int->KS:=fun i=>⟨a5a.k 2 [],(l7 2 w9 list::(vi box::(bs 3 (vi i::(bs 14 []))))),[some []]⟩
def a60(list:List p8)(box:Int)(i:Int):Option (j7 Int Int Unit):=
 (bif decide (i<(list.length:Int)) then ((idx list i).bind fun put=>(bif (put.i5==box) then some (j7.ret i) else some (j7.nxt (m7 (i+1))))) else some (j7.brk ()))
theorem e4I(list box):LQ a5a d6x (f0c list box) (fun s=>a60 list box s):=fun lc i h=>PK<|rg<|j5 3 h (fun h=>rg<|u0 w9 2 h fun put hput h=>j5 6 h (fun h=>rg<|fL lc h) (fun h=>rg<|(lc.nx h fun hI=>sk [] [0,1,5] [] hI))) (fun h=>(lc.bk h fun hI=>sk [] [] [] hI))
def a6W(list:List p8)(box:Int):Option Int:=
 ((o7 (fun s:Int=>a60 list box s) 0).bind fun x=>x.go (fun r=>some r) fun s=>d5S)
theorem c1h{list box}:OK a5a [l7 2 w9 list,vi box] (a6W list box):=
 o8 _ fun r h=>n9<|lp (e4I list box) h (fun _ h=>a5a.rt h) (f0Z r) fun hI=>sk [] [0,1,5] [] hI
def a03:FS (Bool):=⟨182,Tryz.f182,[.val [] []],[none],[.val O8 []],fun r=>.b r,fun _=>[none],Tryz.func182⟩
def e6V(r_:n7):Unit->KS:=fun _=>⟨a03.k 2 [false],(bs 1 (.ptr 1 0 0::(bs 129 []))),[some [],some [.var 50 (a0S r_)]]⟩
def d2f(r_:n7):Unit->KS:=fun _=>⟨a03.k 4 [false,false],(bs 1 (.ptr 1 0 0::(bs 129 []))),[some [],some [.var 50 (a0S r_)]]⟩
def d24:Unit->KS:=fun _=>⟨a03.k 6 [false,false,false],(bs 131 []),[some []]⟩
def d36:Option Bool:=
 some true
theorem f4z(r):NF a03 r d24 (fun s=>d36):=fun _ h=>PK<|rg<|fE h
def e4a(r_:n7):Int->KS:=fun i1=>⟨a03.k 5 [false,false],(bs 1 (.ptr 1 0 0::(bs 2 (vi i1::(bs 126 []))))),[some [],some [.var 50 (a0S r_)]]⟩
def b4t(r_:n7)(i1:Int):Option (j7 Bool Int Unit):=
 (bif decide (i1<(r_.b7.length:Int)) then ((idx r_.b7 i1).bind fun put=>((a7K put.i5).bind fun b3f=>(bif (!b3f) then some (j7.ret false) else ((a7j put.d8).bind fun a1g=>(bif (!a1g) then some (j7.ret false) else (t5 ((0:Int)<=i1/\i1<=(r_.b7.length:Int)) (((a6W ((r_.b7.drop 0).take (i1.toNat-0)) put.i5).bind fun a2n=>(bif decide (a2n>=0) then some (j7.ret false) else some (j7.nxt (m7 (i1+1)))))))))))) else some (j7.brk ()))
theorem f0x(r_):LQ a03 d24 (e4a r_) (fun s=>b4t r_ s):=fun lc i1 h=>PK<|rg<|j5 4 h (fun h=>rg<|u0 w9 3 h fun put hput h=>j9 b4p c0W 6 h fun b3f h=>j5 8 h (fun h=>rg<|fL lc h) (fun h=>I1 w9 12 hput<|j9 a9D a9U 15 h fun a1g h=>j5 18 h (fun h=>rg<|fL lc h) (fun h=>t9 h fun e1 h=>om (V.sl 2 (i1.toNat-0) (((r_.b7.map w9).drop 0).take (i1.toNat-0))=l7 2 w9 ((r_.b7.drop 0).take (i1.toNat-0))) (b8C e1)<|ob e1.1<|ob e1.2<|tl (22,{v:=some (l7 2 w9 ((r_.b7.drop 0).take (i1.toNat-0)))})<|I1 w9 26 hput<|j9 a5a c1h 29 h fun a2n h=>j5 31 h (fun h=>rg<|fL lc h) (fun h=>rg<|(lc.nx h fun hI=>sk [] [1,4] [(1,0)] hI))))) (fun h=>(lc.bk h fun hI=>sk [] [] [] hI))
def c3w(r_:n7):Option Bool:=
 ((o7 (fun s:Int=>b4t r_ s) 0).bind fun x=>x.go (fun r=>some r) fun s=>d36)
theorem f4O(r_)(r):NF a03 r (d2f r_) (fun s=>c3w r_):=fun _ h=>PK<|rg<|lp (f0x r_) h (fun _ h=>a03.rt h) (f4z r) fun hI=>sk [] [1,4] [(1,0)] hI
def f4V(r_:n7):Int->KS:=fun i=>⟨a03.k 3 [false],(bs 1 (.ptr 1 0 0::(bs 1 (vi i::(bs 127 []))))),[some [],some [.var 50 (a0S r_)]]⟩
def b5x(r_:n7)(i:Int):Option (j7 Bool Int Unit):=
 (bif decide (i<(r_.b5.length:Int)) then ((idx r_.b5 i).bind fun read=>((a7K read.i5).bind fun b5g=>(bif (!b5g) then some (j7.ret false) else (bif decide (read.j4<0) then some (j7.ret false) else (bif decide (read.j4>1000000) then some (j7.ret false) else (t5 ((0:Int)<=i/\i<=(r_.b5.length:Int)) (((b2W ((r_.b5.drop 0).take (i.toNat-0)) read.i5).bind fun b4W=>(bif b4W then some (j7.ret false) else some (j7.nxt (m7 (i+1)))))))))))) else some (j7.brk ()))
theorem e7Q(r_):LQ a03 (d2f r_) (f4V r_) (fun s=>b5x r_ s):=fun lc i h=>PK<|rg<|j5 4 h (fun h=>rg<|u0 w8 3 h fun read a4r h=>j9 b4p c0W 6 h fun b5g h=>j5 8 h (fun h=>rg<|fL lc h) (fun h=>I1 w8 12 a4r<|j5 17 h (fun h=>rg<|fL lc h) (fun h=>I1 w8 21 a4r<|j5 26 h (fun h=>rg<|fL lc h) (fun h=>t9 h fun e2 h=>om (V.sl 2 (i.toNat-0) (((r_.b5.map w8).drop 0).take (i.toNat-0))=l7 2 w8 ((r_.b5.drop 0).take (i.toNat-0))) (b8C e2)<|ob e2.1<|ob e2.2<|tl (30,{v:=some (l7 2 w8 ((r_.b5.drop 0).take (i.toNat-0)))})<|I1 w8 34 a4r<|j9 a7p d46 37 h fun b4W h=>j5 38 h (fun h=>rg<|fL lc h) (fun h=>rg<|(lc.nx h fun hI=>sk [] [1,3] [(1,0)] hI)))))) (fun h=>(lc.bk h fun hI=>sk [] [1] [(1,0)] hI))
def b8R(r_:n7):Option Bool:=
 ((o7 (fun s:Int=>b5x r_ s) 0).bind fun x=>x.go (fun r=>some r) fun s=>c3w r_)
theorem e8h(r_)(r):NF a03 r (e6V r_) (fun s=>b8R r_):=fun _ h=>PK<|rg<|lp (e7Q r_) h (fun _ h=>a03.rt h) (f4O r_ r) fun hI=>sk [] [1,3] [(1,0)] hI
def b2N(r_:n7):Option Bool:=
 (((bif decide (r_.Code<0) then some (l9.ret false) else (bif decide (r_.Code>3) then some (l9.ret false) else ((a7j r_.d8).bind fun c8D=>(bif (!c8D) then some (l9.ret false) else (bif (r_.Code != 0) then (bif (r_.d8 != 0) then some (l9.ret false) else (bif decide ((r_.b7.length:Int)>0) then some (l9.ret false) else (bif (r_.Code==3) then (bif decide ((r_.b5.length:Int)>0) then some (l9.ret false) else some (l9.brk ())) else some (l9.brk ())))) else (bif (r_.Code==3) then (bif decide ((r_.b5.length:Int)>0) then some (l9.ret false) else some (l9.brk ())) else some (l9.brk ()))))))):Option (l9 Bool Unit)).bind fun x=>x.go some fun j=>b8R r_)
theorem d57{r_}:OK a03 [.agg (R9 r_)] (b2N r_):=
 o8 _ fun r h=>rg<|A4 h (e8h r_ r) fun x1 h hc1=>rg<|j5 3 h (fun h=>rg<|(B8 h hc1 fun h=>fE h)) (fun h=>j5 8 h (fun h=>rg<|(B8 h hc1 fun h=>fE h)) (fun h=>j9 a9D a9U 11 h fun c8D h=>j5 14 h (fun h=>rg<|(B8 h hc1 fun h=>fE h)) (fun h=>j5 18 h (fun h=>j5 22 h (fun h=>rg<|(B8 h hc1 fun h=>fE h)) (fun h=>j5 30 h (fun h=>rg<|(B8 h hc1 fun h=>fE h)) (fun h=>j5 34 h (fun h=>j5 40 h (fun h=>rg<|(B8 h hc1 fun h=>fE h)) (fun h=>(o9 h hc1 fun hI=>sk [] [1] [(1,0)] hI))) (fun h=>(o9 h hc1 fun hI=>sk [] [1] [(1,0)] hI))))) (fun h=>j5 34 h (fun h=>j5 40 h (fun h=>rg<|(B8 h hc1 fun h=>fE h)) (fun h=>(o9 h hc1 fun hI=>sk [] [1] [(1,0)] hI))) (fun h=>(o9 h hc1 fun hI=>sk [] [1] [(1,0)] hI))))))
def a2o:FS (Bool):=⟨124,Tryz.f124,[.val [] []],[none],[.val J5 []],fun r=>.b r,fun _=>[none],Tryz.func124⟩
def a1r(e_:m4):Option Bool:=
 (bif e_.i7 then (bif (([e_.a5.b9,e_.a5.Seq]:List Int)==[0,0]) then ((a8a e_.b6 (n7.mk [] [] 0 0)).bind fun a1m=>some a1m) else some false) else ((a99 e_.a5).bind fun a6q=>(bif a6q then ((b2N e_.b6).bind fun a1j=>(bif a1j then some (e_.b6.Code != 3) else some false)) else some false)))
theorem a3g{e_}:OK a2o [.agg (s6 e_)] (a1r e_):=
 o8 _ fun r h=>n9<|j5 1 h (fun h=>rg<|j5 4 h (fun h=>j9 a0D b5H 8 h fun a1m h=>fE h) (fun h=>fE h)) (fun h=>rg<|j9 b7V c2x 2 h fun a6q h=>j5 3 h (fun h=>j9 a03 d57 6 h fun a1j h=>j5 8 h (fun h=>fE h) (fun h=>fE h)) (fun h=>fE h))
def a7H:FS (z0×Bool):=⟨222,Tryz.f222,[.val [none,some 8] [none,some 9000000],.val [] []],[none,none,none,none],[.val [none,some 8] [],.val [] [],.val [] [],.val J5 []],fun r=>.tup [.agg [vi r.1.i0,.bot],.b r.2],fun _=>[none,none,none,none],Tryz.func222⟩
def b4b(a:z0)(bal:Int)(slot:Int)(e_:m4):Option (z0×Bool):=
 (bif decide (slot<0) then some (a,false) else (bif decide (slot>=40) then some (a,false) else ((a1r e_).bind fun F6=>(bif (!F6) then some (a,false) else ((a9R a bal).bind fun no=>(bif (!no.2) then some (a,false) else none))))))
theorem d6P{a bal slot e_}:OK a7H [.agg (a0Z a),vi bal,vi slot,.agg (s6 e_)] (b4b a bal slot e_):=
 o8 _ fun r h=>n9<|j5 2 h (fun h=>rg<|fE h) (fun h=>j5 6 h (fun h=>rg<|fE h) (fun h=>j9 a2o a3g 8 h fun F6 h=>j5 10 h (fun h=>rg<|fE h) (fun h=>rg<|j9 a69 c2w 2 h fun no h=>rg<|j5 1 h (fun h=>rg<|fE h) (fun h=>(nomatch h)))))
def b71:FS (j6):=⟨197,Tryz.f197,[.val A8 H2],[none],[.val A8 H2],fun r=>.agg (H5 r),fun _=>[none],Tryz.func197⟩
def b1Y(n:j6):Option j6:=
 some (j6.mk n.Id n.Acc n.a6 n.Seq 0 0 [] [] (m4.mk false (n5.mk 0 0) (n7.mk [] [] 0 0)) [] n.i9 n.i6 n.b8 n.f0)
theorem c6V{n}:OK b71 [.agg (H5 n)] (b1Y n):=
 o8 _ fun r h=>rg4<|rg4<|Y2 n.Acc.a7 n.a6 n.f0<|fE h
def a0z:FS (List l8):=⟨200,Tryz.f200,[.val [some 13] [some 82]],[none,none],[.val [] [],.val C2 []],fun r=>v6 82 13 t7 r,fun _=>[none,none],Tryz.func200⟩
def c4E:(List l8)->KS:=fun out1=>⟨a0z.k 4 [false],(bs 5 (.own 1 0 13 0 out1.length::(bs 21 []))),[some [],some [m6 82 13 t7 out1]]⟩
def d7R(out1:List l8):Option (List l8):=
 some out1
theorem f5s(r):NF a0z r c4E (fun s=>d7R s):=fun out1 h=>PK<|rg<|s8 out1<|fE h
def d6J(id:Int)(m:l8):((List l8)×Int)->KS:=fun (out,t_)=>⟨a0z.k 3 [],(vi id::(bs 2 (.ptr 1 0 0::(bs 1 (.own 2 0 13 0 out.length::(vi t_::(bs 20 []))))))),[some [],some [.var 82 (a4I m)],some [m6 82 13 t7 out]]⟩
def e0j(id:Int)(m:l8)(t_:Int):(List l8)->KS:=fun out2=>⟨a0z.k 9 [true,true],(vi id::(bs 2 (.ptr 1 0 0::(bs 1 (.own 2 0 13 0 out2.length::(vi t_::(bs 20 []))))))),[some [],some [.var 82 (a4I m)],some [m6 82 13 t7 out2]]⟩
def c3J(t_:Int)(out2:List l8):Option (j7 (List l8) ((List l8)×Int) (List l8)):=
 some (j7.nxt (out2,m7 (t_+1)))
theorem f8j(id m t_)(lc:D4 a0z c4E (d6J id m)):NL lc (e0j id m t_) (fun s=>c3J t_ s):=fun out2 h=>PK<|rg<|(lc.nx h fun hI=>sk [] [0,3,5,6] [(1,0),(2,0)] hI)
def a5y(id:Int)(m:l8)(out:List l8)(t_:Int):Option (j7 (List l8) ((List l8)×Int) (List l8)):=
 (bif decide (t_<3) then (((bif (t_ != id) then ((a9i m).bind fun G7=>(t5 ((out.length+1)*152<=140737488355328) (some (l9.brk (out++[(l8.mk G7.a9 id t_ G7.a8 G7.g8 G7.g9 G7.a7)]))))) else some (l9.brk out)):Option (l9 (j7 (List l8) ((List l8)×Int) (List l8)) (List l8))).bind fun x=>x.go some fun j=>c3J t_ j) else some (j7.brk out))
theorem e9Z(id m):LQ a0z c4E (d6J id m) (fun s=>a5y id m s.1 s.2):=fun lc (out,t_) h=>PK<|rg<|j5 1 h (fun h=>A4 h (f8j id m t_ lc) fun x2 h hc2=>rg<|j5 2 h (fun h=>rg<|j9 b49 b50 1 h fun G7 h=>L8<|tk 2 C2<|t9 h fun e1 h=>F7 3 21 82 13 152 t7 out (l8.mk G7.a9 id t_ G7.a8 G7.g8 G7.g9 G7.a7) e1<|E7 (l8.mk G7.a9 id t_ G7.a8 G7.g8 G7.g9 G7.a7)<|(o9 h hc2 fun hI=>sk [] [0,3,5,6] [(1,0),(21,0)] hI)) (fun h=>(o9 h hc2 fun hI=>sk [] [0,3,5,6] [(1,0),(2,0)] hI))) (fun h=>(lc.bk h fun hI=>sk [] [5] [(2,0)] hI))
def a3B(id:Int)(m:l8):Option (List l8):=
 ((o7 (fun s:(List l8)×Int=>a5y id m s.1 s.2) (([]:List l8),0)).bind fun x=>x.go (fun r=>some r) fun s=>d7R s)
theorem a6v{id m}:OK a0z [vi id,.agg (t7 m)] (a3B id m):=
 o8 _ fun r h=>n9<|tk 0 C2<|rg<|lp (e9Z id m) h (fun _ h=>a0z.rt h) (f5s r) fun hI=>om ((.own 3 0 13 0 0:V)=.own 3 0 13 0 ([]:List l8).length) (by simp)<|sk [.is (.tmp 5) (.own 3 0 13 0 ([]:List l8).length)] [0,3,5,6] [(1,0),(3,0)] hI
def a5Q:FS (z0×Bool):=⟨222,Tryz.f222,[.val [none,some 8] [none,some 61],.val [] []],[none,none,none,none],[.val [none,some 8] [none,some 61],.val [] [],.val [] [],.val J5 []],fun r=>.tup [.agg [vi r.1.i0,v6 61 8 q8 r.1.a7],.b r.2],fun _=>[none,none,none,none],Tryz.func222⟩
def d5V(bal:Int)(slot:Int)(e_:m4)(l6Promise:z0×Bool):(List m8)->KS:=fun Z0=>⟨a5Q.k 5 [false,false,false],(bs 1 (vi bal::(vi slot::(bs 4 (.ptr 1 0 0::(.ptr 2 0 0::(bs 1 (.ptr 3 0 0::(bs 42 []))))))))),[some [.dead],some [.var 52 (a13 e_)],some [.var 42 [vi 0,.nil]],some [.var 42 [vi l6Promise.1.i0,.own 4 0 8 0 Z0.length]],some [m6 61 8 q8 Z0]]⟩
def c67(bal:Int)(slot:Int)(e_:m4)(l6Promise:z0×Bool)(Z0:List m8):Option (z0×Bool):=
 ((X7 e_).bind fun l5Entry=>((idx Z0 slot).bind fun vote=>some ((z0.mk l6Promise.1.i0 (Z0.set slot.toNat (m8.mk bal l5Entry))),true)))
theorem e75(bal slot e_ l6Promise)(r):NF a5Q r (d5V bal slot e_ l6Promise) (fun s=>c67 bal slot e_ l6Promise s):=fun Z0 h=>PK<|rg<|j9 a0y a0O 5 h fun l5Entry h=>B0 h fun vote K8 h=>C0 K8<|Q6 61 8 q8 8 U8 (m8.mk bal l5Entry) K8<|rg<|om (Z0.length=(Z0.set slot.toNat (m8.mk bal l5Entry)).length) (by simp)<|fE h
def e2m(bal:Int)(slot:Int)(e_:m4)(l6Promise:z0×Bool):(List m8)->KS:=fun a7=>⟨a5Q.k 4 [false,false],(bs 1 (vi bal::(vi slot::(bs 4 (.ptr 1 0 0::(.ptr 2 0 0::(bs 1 (.ptr 3 0 0::(bs 42 []))))))))),[some [.dead],some [.var 52 (a13 e_)],some [.var 42 [vi 0,.nil]],some [.var 42 [vi l6Promise.1.i0,.own 4 0 8 0 a7.length]],some [m6 61 8 q8 a7]]⟩
def a9a(slot:Int)(a7:List m8):Option (j7 (z0×Bool) (List m8) (List m8)):=
 (bif decide ((a7.length:Int)<=slot) then (t5 ((a7.length+1)*96<=140737488355328) (some (j7.nxt (a7++[(m8.mk 0 (m4.mk false (n5.mk 0 0) (n7.mk [] [] 0 0)))])))) else some (j7.brk a7))
theorem e9q(bal slot e_ l6Promise):LQ a5Q (d5V bal slot e_ l6Promise) (e2m bal slot e_ l6Promise) (fun s=>a9a slot s):=fun lc a7 h=>PK<|rg<|j5 4 h (fun h=>rg<|tk 3 U8<|t9 h fun e1 h=>F7 4 14 61 8 96 q8 a7 (m8.mk 0 (m4.mk false (n5.mk 0 0) (n7.mk [] [] 0 0))) e1<|E7 (m8.mk 0 (m4.mk false (n5.mk 0 0) (n7.mk [] [] 0 0)))<|(lc.nx h fun hI=>sk [] [1,2,7,8,10] [(1,0),(2,0),(3,0),(14,0)] hI)) (fun h=>(lc.bk h fun hI=>sk [] [1,2,7,8,10] [(1,0),(2,0),(3,0),(4,0)] hI))
def b16(a:z0)(bal:Int)(slot:Int)(e_:m4):Option (z0×Bool):=
 (bif decide (slot<0) then some (a,false) else (bif decide (slot>=40) then some (a,false) else ((a1r e_).bind fun F6=>(bif (!F6) then some (a,false) else (a5D (a9R a bal) (fun no=>(bif (!no.2) then some (a,false) else none)) (((a9y a bal).bind fun l6Promise=>(bif (!l6Promise.2) then none else ((o7 (fun s:List m8=>a9a slot s) l6Promise.1.a7).bind fun x=>x.go (fun r=>some r) fun s=>c67 bal slot e_ l6Promise s)))))))))
theorem d1L{a bal slot e_}:OK a5Q [.agg [vi a.i0,v6 61 8 q8 a.a7],vi bal,vi slot,.agg (s6 e_)] (b16 a bal slot e_):=
 o8 _ fun r h=>n9<|j5 2 h (fun h=>rg<|s8 a.a7<|fE h) (fun h=>j5 6 h (fun h=>rg<|s8 a.a7<|fE h) (fun h=>j9 a2o a3g 8 h fun F6 h=>j5 10 h (fun h=>rg<|s8 a.a7<|fE h) (fun h=>rg<|cbA a69.t c2w 2 true h (fun no h=>osc a69 no (by simp [a69,L2,R8,O1,V.simple,vi,v6,a0Z,eB,s6,eI,w9,w8,F4,R9,q8]) (Q4 2)<|s8 a.a7<|rg<|j5 1 h (fun h=>rg<|s8 a.a7<|fE h) (fun h=>(nomatch h))) (fun h=>j9 b4f c01 2 h fun l6Promise h=>s8 a.a7<|rg<|j5 1 h (fun h=>(nomatch h)) (fun h=>lp (e9q bal slot e_ l6Promise) h (fun _ h=>a5Q.rt h) (e75 bal slot e_ l6Promise r) fun hI=>sk [] [1,2,7,8,10] [(2,0),(3,0),(22,0),(18,0)] hI)))))
def a98:FS (j6×List l8):=⟨201,Tryz.f201,[.val A8 H2,.val [some 13] []],[none],[.val A8 H2],fun r=>.tup [.agg (H5 r.1),l7 13 t7 r.2],fun _=>[none],Tryz.func201⟩
def a6r(n:j6):Option (j6×List l8):=
 (bif (n.d6 != 2) then some (n,([]:List l8)) else (bif decide ((n.a6.length:Int)>=40) then some (n,([]:List l8)) else ((b9g n).bind fun H7=>(bif (!H7.2.2) then some (H7.1,([]:List l8)) else (a5D (b4b H7.1.Acc H7.1.a8 (H7.1.a6.length:Int) H7.2.1) (fun no=>(bif (!no.2) then ((b1Y H7.1).bind fun N6=>some (N6,([]:List l8))) else none)) (((b16 H7.1.Acc H7.1.a8 (H7.1.a6.length:Int) H7.2.1).bind fun a4X=>(bif (!a4X.2) then none else ((X7 H7.2.1).bind fun l5Entry=>(t5 (0<=(3:Int)/\(3:Int)*1<=140737488355328) (((idx (f8O (3:Int).toNat false) H7.1.Id).bind fun y=>((a3B H7.1.Id (l8.mk 3 0 0 H7.1.a8 (H7.1.a6.length:Int) H7.2.1 [])).bind fun K2=>some ((j6.mk H7.1.Id a4X.1 H7.1.a6 H7.1.Seq 3 H7.1.a8 H7.1.c9 H7.1.i4 l5Entry ((f8O (3:Int).toNat false).set H7.1.Id.toNat true) H7.1.i9 H7.1.i6 H7.1.b8 H7.1.f0),K2))))))))))))))
theorem b2A{n}:OK a98 [.agg (H5 n)] (a6r n):=
 o8 _ fun r h=>n9<|j5 3 h (fun h=>rg<|tk 1 C2<|A3 n<|A9 l8<|fE h) (fun h=>j5 8 h (fun h=>rg<|tk 1 C2<|A3 n<|A9 l8<|fE h) (fun h=>rg<|j9 a3h f4Y 1 h fun H7 h=>A3 n<|rg<|j5 1 h (fun h=>rg<|tk 1 C2<|A3 H7.1<|A9 l8<|fE h) (fun h=>rg<|cbA a7H.t d6P 8 true h (fun no h=>osc a7H no (by simp [a7H,L2,R8,O1,V.simple,vi,v6,a0Z,eB,s6,eI,w9,w8,F4,R9,q8]) (Q4 4)<|s8 H7.1.Acc.a7<|rg<|j5 1 h (fun h=>rg<|j9 b71 c6V 1 h fun N6 h=>A3 H7.1<|tk 2 C2<|A3 N6<|A9 l8<|fE h) (fun h=>(nomatch h))) (fun h=>j9 a5Q d1L 8 h fun a4X h=>s8 H7.1.Acc.a7<|rg<|j5 1 h (fun h=>(nomatch h)) (fun h=>L8<|j9 a0y a0O 1 h fun l5Entry h=>rg<|t9 h fun e1 h=>S8 0 52 4 1 1 eB false ti4 (.none) e1 (by decide) (by rfl)<|rg<|B0 h fun y hy h=>C0 hy<|Q6 4 1 eB 5 [] true hy<|rg<|j9 a0z a6v 10 h fun K2 h=>Y2 a4X.1.a7 H7.1.a6 H7.1.c9<|om ((f8O (3:Int).toNat false).length=((f8O (3:Int).toNat false).set H7.1.Id.toNat true).length) (by simp)<|C9 H7.1.f0 K2<|fE h)))))
def d5J:FS (j6×List l8):=⟨213,Tryz.f213,[.val A8 H2,.val [some 13] []],[none,none],[.val A8 H2,.val C2 []],fun r=>.tup [.agg (H5 r.1),l7 13 t7 r.2],fun _=>[none,none],Tryz.func213⟩
def c0G(n:j6)(m:l8):Option (j6×List l8):=
 (bif (n.d6 != 1) then some (n,([]:List l8)) else (bif (m.a8 != n.a8) then some (n,([]:List l8)) else ((idx n.c9 m.c9).bind fun y=>((b9U m.a7 m.g8).bind fun c5M=>((c05 n.i4 c5M).bind fun c7o=>((b4V (n.c9.set m.c9.toNat true)).bind fun b3x=>(bif (!b3x) then some ((j6.mk n.Id n.Acc n.a6 n.Seq n.d6 n.a8 (n.c9.set m.c9.toNat true) c7o n.c8 n.a7 n.i9 n.i6 n.b8 n.f0),([]:List l8)) else ((a6r (j6.mk n.Id n.Acc n.a6 n.Seq 2 n.a8 [] c7o n.c8 n.a7 n.i9 n.i6 n.b8 n.f0)).bind fun O4=>some (O4.1,O4.2)))))))))
theorem e7S{n m}:OK d5J [.agg (H5 n),.agg (t7 m)] (c0G n m):=
 o8 _ fun r h=>n9<|j5 3 h (fun h=>rg<|tk 1 C2<|A3 n<|A9 l8<|fE h) (fun h=>j5 9 h (fun h=>rg<|tk 1 C2<|A3 n<|A9 l8<|fE h) (fun h=>rg<|B0 h fun y hy h=>C0 hy<|Q6 4 1 eB 5 [] true hy<|rg<|j9 d7T f5I 6 h fun c5M h=>j9 a1X f3a 7 h fun c7o h=>s8 c5M<|rg<|R3 a7b d1w 2 1 h fun b3x h=>om (n.c9.length=(n.c9.set m.c9.toNat true).length) (by simp)<|j5 3 h (fun h=>rg<|tk 1 C2<|C9 n.Acc.a7 n.a6<|om (n.c9.length=(n.c9.set m.c9.toNat true).length) (by simp)<|C9 n.a7 n.f0<|A9 l8<|fE h) (fun h=>L8<|j9 a98 b2A 1 h fun O4 h=>H8 n.Acc.a7 n.a6 n.a7 n.f0<|A3 O4.1<|fE h)))
def b4k:FS (j6):=⟨217,Tryz.f217,[.val A8 H2],[none,none],[.val A8 H2,.val [] []],fun r=>.agg (H5 r),fun _=>[none,none],Tryz.func217⟩
def f3E(n:j6):Unit->KS:=fun _=>⟨b4k.k 2 [false],(bs 2 (.ptr 1 0 0::(bs 1 (.ptr 2 0 0::(bs 12 []))))),[some (a7R n),some [.var 54 (a8d n)],some [.var 54 [vi 0,vi 0,.nil,.nil,vi 0,vi 0,vi 0,.nil,.nil,.b false,vi 0,vi 0,.nil,.nil,vi 0,vi 0,.nil,.b false,.nil,.b false,vi 0,vi 0,.nil,.nil,vi 0,vi 0,.nil]]]⟩
def d5k(n:j6):Option j6:=
 some n
theorem e2V(n)(r):NF b4k r (f3E n) (fun s=>d5k n):=fun _ h=>PK<|rg<|A3 n<|fE h
def b29(n:j6)(bal:Int):Option j6:=
 (((bif (n.d6 != 0) then (bif decide (bal>n.a8) then ((b1Y n).bind fun N6=>some (l9.ret N6)) else some (l9.brk ())) else some (l9.brk ())):Option (l9 j6 Unit)).bind fun x=>x.go some fun j=>d5k n)
theorem d1C{n bal}:OK b4k [.agg (H5 n),vi bal] (b29 n bal):=
 o8 _ fun r h=>rg<|A4 h (e2V n r) fun x1 h hc1=>rg<|j5 3 h (fun h=>j5 8 h (fun h=>rg<|j9 b71 c6V 1 h fun N6 h=>A3 n<|(B8 h hc1 fun h=>A3 N6<|fE h)) (fun h=>(o9 h hc1 fun hI=>sk [] [2,4] [(1,0),(2,0)] hI))) (fun h=>(o9 h hc1 fun hI=>sk [] [2,4] [(1,0),(2,0)] hI))
def c89:FS (j6×List l8):=⟨214,Tryz.f214,[.val A8 H2,.val [some 13] []],[none,none],[.val A8 H2,.val C2 []],fun r=>.tup [.agg (H5 r.1),l7 13 t7 r.2],fun _=>[none,none],Tryz.func214⟩
def b6W(n:j6)(m:l8):Option (j6×List l8):=
 (a5D (b4b n.Acc m.a8 m.g8 m.g9) (fun no=>(bif (!no.2) then ((a5x m (l8.mk 6 0 0 n.Acc.i0 0 (m4.mk false (n5.mk 0 0) (n7.mk [] [] 0 0)) [])).bind fun a1I=>some (n,a1I)) else none)) (((b16 n.Acc m.a8 m.g8 m.g9).bind fun a4X=>(bif (!a4X.2) then none else ((b29 (j6.mk n.Id a4X.1 n.a6 n.Seq n.d6 n.a8 n.c9 n.i4 n.c8 n.a7 n.i9 n.i6 n.b8 n.f0) m.a8).bind fun K4=>((a5x m (l8.mk 4 0 0 m.a8 m.g8 (m4.mk false (n5.mk 0 0) (n7.mk [] [] 0 0)) [])).bind fun a5t=>some (K4,a5t)))))))
theorem e93{n m}:OK c89 [.agg (H5 n),.agg (t7 m)] (b6W n m):=
 o8 _ fun r h=>n9<|cbA a7H.t d6P 8 true h (fun no h=>osc a7H no (by simp [a7H,L2,R8,O1,V.simple,vi,v6,a0Z,eB,s6,eI,w9,w8,F4,R9,q8]) (Q4 4)<|s8 n.Acc.a7<|rg<|j5 1 h (fun h=>rg<|j9 a4y a8Q 6 h fun a1I h=>A3 n<|fE h) (fun h=>(nomatch h))) (fun h=>j9 a5Q d1L 8 h fun a4X h=>s8 n.Acc.a7<|rg<|j5 1 h (fun h=>(nomatch h)) (fun h=>n9<|j9 b4k d1C 3 h fun K4 h=>s8 a4X.1.a7<|K0 n<|rg<|j9 a4y a8Q 7 h fun a5t h=>A3 K4<|fE h))
def c7k:FS (List m9):=⟨71,Tryz.f71,[.val [some 2] [some 124]],[],[],fun r=>v6 124 2 x7 r,fun _=>[],Tryz.func71⟩
def b4Q:Option (List m9):=
 (t5 (0<=(4:Int)/\(4:Int)*16<=140737488355328) (some (f8O (4:Int).toNat (m9.mk 0 0))))
theorem d5q:OK c7k [] b4Q:=
 o8 _ fun r h=>n9<|t9 h fun e1 h=>S8 0 2 124 2 16 x7 (m9.mk 0 0) b4N (.none) e1 (by decide) (by rfl)<|s8 (f8O (4:Int).toNat (m9.mk 0 0))<|fE h
def b3g:FS (u5):=⟨118,Tryz.f118,[.val [none,some 2,some 4] [none,some 124,none]],[],[],fun r=>.agg (b2E r),fun _=>[],Tryz.func118⟩
def a9v:Option u5:=
 ((b4Q).bind fun a0H=>some (u5.mk 0 a0H []))
theorem b80:OK b3g [] a9v:=
 o8 _ fun r h=>n9<|j9 c7k d5q 0 h fun a0H h=>s8 a0H<|fE h
def a6G:FS (q9×Bool):=⟨177,Tryz.f177,[.val [] [],.val [] []],[none,none],[.val [none,some 2,some 4] [],.val [] []],fun r=>.tup [.agg (B9 r.1),.b r.2],fun _=>[none,none],Tryz.func177⟩
def d8k:Unit->KS:=fun _=>⟨a6G.k 3 [false],(bs 4 (.ptr 1 0 0::(bs 24 []))),[some [],some [.var 183 [vi 0,vi 0,vi 0,vi 0]]]⟩
def c9T:Option (q9×Bool):=
 some ((q9.mk (n5.mk 0 0) 0 0),false)
theorem e0R(r):NF a6G r d8k (fun s=>c9T):=fun _ h=>PK<|rg<|fE h
def f1r(s_:u5)(who:Int):Int->KS:=fun i=>⟨a6G.k 2 [],(bs 1 (vi who::(.ptr 1 0 0::(bs 1 (.ptr 2 0 0::(bs 1 (vi i::(bs 22 [])))))))),[some [],some [.var 77 [vi s_.At,l7 2 x7 s_.g7,l7 4 B9 s_.i8]],some [.var 183 [vi 0,vi 0,vi 0,vi 0]]]⟩
def b6a(s_:u5)(who:Int)(i:Int):Option (j7 (q9×Bool) Int Unit):=
 (bif decide (i<(s_.i8.length:Int)) then ((idx s_.i8 i).bind fun done=>(bif (done.a5.b9==who) then some (j7.ret (done,true)) else some (j7.nxt (m7 (i+1))))) else some (j7.brk ()))
theorem e0p(s_ who):LQ a6G d8k (f1r s_ who) (fun s=>b6a s_ who s):=fun lc i h=>PK<|rg<|j5 4 h (fun h=>rg<|u0 B9 3 h fun done b83 h=>j5 8 h (fun h=>rg<|I1 B9 3 b83<|fL lc h) (fun h=>rg<|(lc.nx h fun hI=>sk [] [1,2,4,6] [(1,0),(2,0)] hI))) (fun h=>(lc.bk h fun hI=>sk [] [4] [(2,0)] hI))
def b9E(s_:u5)(who:Int):Option (q9×Bool):=
 ((o7 (fun s:Int=>b6a s_ who s) 0).bind fun x=>x.go (fun r=>some r) fun s=>c9T)
theorem f0z{s_ who}:OK a6G [.agg (a77 s_),vi who] (b9E s_ who):=
 o8 _ fun r h=>n9<|lp (e0p s_ who) h (fun _ h=>a6G.rt h) (e0R r) fun hI=>sk [] [1,2,4,6] [(1,0),(2,0)] hI
def a41:FS (Bool):=⟨121,Tryz.f121,[.val [] []],[none],[.val [some 2] []],fun r=>.b r,fun _=>[none],Tryz.func121⟩
def d0B:Unit->KS:=fun _=>⟨a41.k 4 [false,false],(bs 36 []),[some []]⟩
def d1F:Option Bool:=
 some true
theorem f1v(r):NF a41 r d0B (fun s=>d1F):=fun _ h=>PK<|rg<|fE h
def f7R(list:List m9):Int->KS:=fun i=>⟨a41.k 3 [false],(l7 2 x7 list::(bs 2 (vi i::(bs 32 [])))),[some []]⟩
def b7D(list:List m9)(i:Int):Option (j7 Bool Int Unit):=
 (bif decide (i<(list.length:Int)) then ((idx list i).bind fun box=>(bif decide (box.j4<0) then some (j7.ret false) else (bif decide (box.j4>1000000) then some (j7.ret false) else ((a7j box.d8).bind fun a1g=>(bif (!a1g) then some (j7.ret false) else some (j7.nxt (m7 (i+1)))))))) else some (j7.brk ()))
theorem f1J(list):LQ a41 d0B (f7R list) (fun s=>b7D list s):=fun lc i h=>PK<|rg<|j5 3 h (fun h=>rg<|u0 x7 2 h fun box a11 h=>j5 6 h (fun h=>rg<|fL lc h) (fun h=>I1 x7 9 a11<|j5 14 h (fun h=>rg<|fL lc h) (fun h=>I1 x7 17 a11<|j9 a9D a9U 20 h fun a1g h=>j5 22 h (fun h=>rg<|fL lc h) (fun h=>rg<|(lc.nx h fun hI=>sk [] [0,3] [] hI))))) (fun h=>(lc.bk h fun hI=>sk [] [] [] hI))
def b1O(list:List m9):Option Bool:=
 (bif ((list.length:Int) != 4) then some false else ((o7 (fun s:Int=>b7D list s) 0).bind fun x=>x.go (fun r=>some r) fun s=>d1F))
theorem c2X{list}:OK a41 [l7 2 x7 list] (b1O list):=
 o8 _ fun r h=>n9<|j5 2 h (fun h=>rg<|fE h) (fun h=>rg<|lp (f1J list) h (fun _ h=>a41.rt h) (f1v r) fun hI=>sk [] [0,3] [] hI)
def a3U:FS (Bool):=⟨178,Tryz.f178,[.val [] []],[none,none],[.val [some 2] [],.val O8 []],fun r=>.b r,fun _=>[none,none],Tryz.func178⟩
def d0H:Unit->KS:=fun _=>⟨a3U.k 4 [false,false],(bs 38 []),[some []]⟩
def c8p:Option Bool:=
 some true
theorem f7T(r):NF a3U r d0H (fun s=>c8p):=fun _ h=>PK<|rg<|fE h
def e1V(list:List m9)(r_:n7):Int->KS:=fun i=>⟨a3U.k 3 [false],(l7 2 x7 list::(bs 2 (.ptr 1 0 0::(bs 1 (vi i::(bs 32 [])))))),[some [],some [.var 50 (a0S r_)]]⟩
def b7v(list:List m9)(r_:n7)(i:Int):Option (j7 Bool Int Unit):=
 (bif decide (i<(r_.b5.length:Int)) then ((idx r_.b5 i).bind fun read=>((idx list read.i5).bind fun box=>(bif (box.j4 != read.j4) then some (j7.ret false) else some (j7.nxt (m7 (i+1)))))) else some (j7.brk ()))
theorem e3S(list r_):LQ a3U d0H (e1V list r_) (fun s=>b7v list r_ s):=fun lc i h=>PK<|rg<|j5 4 h (fun h=>rg<|u0 w8 4 h fun read a4r h=>u0 x7 7 h fun box a11 h=>I1 w8 13 a4r<|j5 16 h (fun h=>rg<|fL lc h) (fun h=>rg<|(lc.nx h fun hI=>sk [] [0,3,5] [(1,0)] hI))) (fun h=>(lc.bk h fun hI=>sk [] [] [] hI))
def b7y(list:List m9)(r_:n7):Option Bool:=
 ((b1O list).bind fun S4=>(bif (!S4) then some false else ((b2N r_).bind fun a1j=>(bif (!a1j) then some false else ((o7 (fun s:Int=>b7v list r_ s) 0).bind fun x=>x.go (fun r=>some r) fun s=>c8p)))))
theorem e4n{list r_}:OK a3U [l7 2 x7 list,.agg (R9 r_)] (b7y list r_):=
 o8 _ fun r h=>n9<|j9 a41 c2X 1 h fun S4 h=>j5 3 h (fun h=>rg<|fE h) (fun h=>j9 a03 d57 5 h fun a1j h=>j5 7 h (fun h=>rg<|fE h) (fun h=>rg<|lp (e3S list r_) h (fun _ h=>a3U.rt h) (f7T r) fun hI=>sk [] [0,3,5] [(1,0)] hI))
def c7W:FS (Int):=⟨208,Tryz.f208,[.val [] []],[none,none],[.val [] [],.val [] []],fun r=>vi r,fun _=>[none,none],Tryz.func208⟩
def c4U(a:Int)(b:Int):Option Int:=
 (bif decide (a<b) then some a else some b)
theorem e63{a b}:OK c7W [vi a,vi b] (c4U a b):=
 o8 _ fun r h=>n9<|j5 2 h (fun h=>rg<|fE h) (fun h=>rg<|fE h)
def a45:FS (List m9):=⟨179,Tryz.f179,[.val [some 2] [some 124]],[none,none],[.val [some 2] [some 124],.val O8 []],fun r=>v6 124 2 x7 r,fun _=>[none,none],Tryz.func179⟩
def c7A:(List m9)->KS:=fun a9W=>⟨a45.k 3 [false],(.own 0 0 2 0 a9W.length::(bs 37 [])),[some [m6 124 2 x7 a9W]]⟩
def d4a(a9W:List m9):Option (List m9):=
 some a9W
theorem e0k(r):NF a45 r c7A (fun s=>d4a s):=fun a9W h=>PK<|rg<|s8 a9W<|fE h
def e1M(r_:n7):((List m9)×Int)->KS:=fun (list1,i)=>⟨a45.k 2 [],(.own 0 0 2 0 list1.length::(bs 2 (.ptr 1 0 0::(bs 1 (vi i::(bs 32 [])))))),[some [m6 124 2 x7 list1],some [.var 50 (a0S r_)]]⟩
def b7K(r_:n7)(list1:List m9)(i:Int):Option (j7 (List m9) ((List m9)×Int) (List m9)):=
 (bif decide (i<(r_.b7.length:Int)) then ((idx r_.b7 i).bind fun put=>((idx list1 put.i5).bind fun box=>((c4U 1000000 (m7 (box.j4+1))).bind fun b3F=>some (j7.nxt (list1.set put.i5.toNat (m9.mk b3F put.d8),m7 (i+1)))))) else some (j7.brk list1))
theorem e1W(r_):LQ a45 c7A (e1M r_) (fun s=>b7K r_ s.1 s.2):=fun lc (list1,i) h=>PK<|rg<|j5 4 h (fun h=>rg<|u0 w9 3 h fun put hput h=>rg<|B0 h fun box a11 h=>C0 a11<|I6 x7 6 a11<|j9 c7W e63 8 h fun b3F h=>I1 w9 12 hput<|C0 a11<|Q6 124 2 x7 17 [] (m9.mk b3F put.d8) a11<|rg<|(lc.nx h fun hI=>om ((.own 0 0 2 0 list1.length:V)=.own 0 0 2 0 (list1.set put.i5.toNat (m9.mk b3F put.d8)).length) (by simp)<|sk [.is (.tmp 0) (.own 0 0 2 0 (list1.set put.i5.toNat (m9.mk b3F put.d8)).length)] [0,3,5] [(1,0)] hI)) (fun h=>(lc.bk h fun hI=>sk [] [0] [] hI))
def b3i(list:List m9)(r_:n7):Option (List m9):=
 ((o7 (fun s:(List m9)×Int=>b7K r_ s.1 s.2) (list,0)).bind fun x=>x.go (fun r=>some r) fun s=>d4a s)
theorem d3m{list r_}:OK a45 [v6 124 2 x7 list,.agg (R9 r_)] (b3i list r_):=
 o8 _ fun r h=>n9<|lp (e1W r_) h (fun _ h=>a45.rt h) (e0k r) fun hI=>sk [] [0,3,5] [(1,0)] hI
def a17:FS (List q9):=⟨180,Tryz.f180,[.val [some 4] []],[none,none],[.val [some 4] [],.val [] []],fun r=>l7 4 B9 r,fun _=>[none,none],Tryz.func180⟩
def b6s(d:q9):((List q9)×Bool)->KS:=fun (out1,in_1)=>⟨a17.k 5 [false],(bs 3 (.ptr 1 0 0::(bs 1 (.own 2 0 4 0 out1.length::(.b in_1::(bs 50 [])))))),[some [],some [.var 183 [vi d.a5.b9,vi d.a5.Seq,vi d.Code,vi d.d8]],some [m6 183 4 B9 out1]]⟩
def e5i:(List q9)->KS:=fun out2=>⟨a17.k 7 [false,true],(bs 5 (.own 1 0 4 0 out2.length::(bs 51 []))),[some [],some [m6 183 4 B9 out2]]⟩
def c1y(out2:List q9):Option (List q9):=
 some out2
theorem e4r(r):NF a17 r e5i (fun s=>c1y s):=fun out2 h=>PK<|rg<|s8 out2<|fE h
def c4x(d:q9)(out1:List q9)(in_1:Bool):Option (List q9):=
 (((bif (!in_1) then (t5 ((out1.length+1)*32<=140737488355328) (some (l9.brk (out1++[d])))) else some (l9.brk out1)):Option (l9 (List q9) (List q9))).bind fun x=>x.go some fun j=>c1y j)
theorem d96(d)(r):NF a17 r (b6s d) (fun s=>c4x d s.1 s.2):=fun (out1,in_1) h=>PK<|A4 h (e4r r) fun x1 h hc1=>rg<|j5 1 h (fun h=>rg<|tk 2 []<|t9 h fun e1 h=>F7 3 8 183 4 32 B9 out1 d e1<|E7 d<|(o9 h hc1 fun hI=>sk [] [5] [(8,0)] hI)) (fun h=>(o9 h hc1 fun hI=>sk [] [5] [(2,0)] hI))
def c4L(list:List q9)(d:q9):((List q9)×Bool×Int)->KS:=fun (out,in_,i)=>⟨a17.k 4 [],(l7 4 B9 list::(bs 2 (.ptr 1 0 0::(bs 1 (.own 2 0 4 0 out.length::(.b in_::(vi i::(bs 49 [])))))))),[some [],some [.var 183 [vi d.a5.b9,vi d.a5.Seq,vi d.Code,vi d.d8]],some [m6 183 4 B9 out]]⟩
def e7o(list:List q9)(d:q9)(i:Int):((List q9)×Bool)->KS:=fun (out3,in_2)=>⟨a17.k 8 [true,true],(l7 4 B9 list::(bs 2 (.ptr 1 0 0::(bs 1 (.own 2 0 4 0 out3.length::(.b in_2::(vi i::(bs 49 [])))))))),[some [],some [.var 183 [vi d.a5.b9,vi d.a5.Seq,vi d.Code,vi d.d8]],some [m6 183 4 B9 out3]]⟩
def d9k(list:List q9)(d:q9)(i:Int)(in_2:Bool):(List q9)->KS:=fun out4=>⟨a17.k 10 [true,true,true],(l7 4 B9 list::(bs 2 (.ptr 1 0 0::(bs 1 (.own 2 0 4 0 out4.length::(.b in_2::(vi i::(bs 49 [])))))))),[some [],some [.var 183 [vi d.a5.b9,vi d.a5.Seq,vi d.Code,vi d.d8]],some [m6 183 4 B9 out4]]⟩
def c6J(i:Int)(in_2:Bool)(out4:List q9):Option (j7 (List q9) ((List q9)×Bool×Int) ((List q9)×Bool)):=
 some (j7.nxt (out4,in_2,m7 (i+1)))
theorem e04(list d i in_2)(lc:D4 a17 (b6s d) (c4L list d)):NL lc (d9k list d i in_2) (fun s=>c6J i in_2 s):=fun out4 h=>PK<|rg<|(lc.nx h fun hI=>sk [] [0,3,5,6,7] [(1,0),(2,0)] hI)
def c5Y(list:List q9)(d:q9)(i:Int)(out3:List q9)(in_2:Bool):Option (j7 (List q9) ((List q9)×Bool×Int) ((List q9)×Bool)):=
 ((((idx list i).bind fun done=>(bif (done.a5.b9 != d.a5.b9) then (t5 ((out3.length+1)*32<=140737488355328) (some (l9.brk (out3++[done])))) else some (l9.brk out3))):Option (l9 (j7 (List q9) ((List q9)×Bool×Int) ((List q9)×Bool)) (List q9))).bind fun x=>x.go some fun j=>c6J i in_2 j)
theorem f5p(list d i)(lc:D4 a17 (b6s d) (c4L list d)):NL lc (e7o list d i) (fun s=>c5Y list d i s.1 s.2):=fun (out3,in_2) h=>PK<|A4 h (e04 list d i in_2 lc) fun x2 h hc2=>rg<|u0 B9 2 h fun done b83 h=>j5 9 h (fun h=>rg<|I1 B9 3 b83<|tk 5 []<|t9 h fun e2 h=>F7 6 19 183 4 32 B9 out3 done e2<|E7 done<|(o9 h hc2 fun hI=>sk [] [0,3,5,6,7] [(1,0),(19,0)] hI)) (fun h=>(o9 h hc2 fun hI=>sk [] [0,3,5,6,7] [(1,0),(2,0)] hI))
def b4S(list:List q9)(d:q9)(out:List q9)(in_:Bool)(i:Int):Option (j7 (List q9) ((List q9)×Bool×Int) ((List q9)×Bool)):=
 (bif decide (i<(list.length:Int)) then (((bif (!in_) then ((idx list i).bind fun a5h=>(bif decide (a5h.a5.b9>=d.a5.b9) then (t5 ((out.length+1)*32<=140737488355328) (some (l9.brk (out++[d],true)))) else some (l9.brk (out,in_)))) else some (l9.brk (out,in_))):Option (l9 (j7 (List q9) ((List q9)×Bool×Int) ((List q9)×Bool)) ((List q9)×Bool))).bind fun x=>x.go some fun j=>c5Y list d i j.1 j.2) else some (j7.brk (out,in_)))
theorem f6N(list d):LQ a17 (b6s d) (c4L list d) (fun s=>b4S list d s.1 s.2.1 s.2.2):=fun lc (out,in_,i) h=>PK<|rg<|j5 3 h (fun h=>A4 h (f5p list d i lc) fun x2 h hc2=>rg<|j5 2 h (fun h=>u0 B9 5 h fun a5h e5w h=>j5 13 h (fun h=>rg<|tk 2 []<|t9 h fun e3 h=>F7 3 24 183 4 32 B9 out d e3<|E7 d<|rg<|(o9 h hc2 fun hI=>sk [] [0,3,5,6,7] [(1,0),(24,0)] hI)) (fun h=>(o9 h hc2 fun hI=>sk [] [0,3,5,6,7] [(1,0),(2,0)] hI))) (fun h=>(o9 h hc2 fun hI=>sk [] [0,3,5,6,7] [(1,0),(2,0)] hI))) (fun h=>(lc.bk h fun hI=>sk [] [3,5,6] [(1,0),(2,0)] hI))
def c0I(list:List q9)(d:q9):Option (List q9):=
 ((o7 (fun s:(List q9)×Bool×Int=>b4S list d s.1 s.2.1 s.2.2) (([]:List q9),false,0)).bind fun x=>x.go (fun r=>some r) fun s=>c4x d s.1 s.2)
theorem e2b{list d}:OK a17 [l7 4 B9 list,.agg (B9 d)] (c0I list d):=
 o8 _ fun r h=>n9<|tk 0 []<|n9<|lp (f6N list d) h (fun _ h=>a17.rt h) (d96 d r) fun hI=>om ((.own 3 0 4 0 0:V)=.own 3 0 4 0 ([]:List q9).length) (by simp)<|sk [.is (.tmp 5) (.own 3 0 4 0 ([]:List q9).length)] [0,3,5,6,7] [(1,0),(3,0)] hI
def a2Y:FS (u5×Int):=⟨119,Tryz.f119,[.val [none,some 2,some 4] [none,some 124,none],.val [] []],[none,none],[.val [none,some 2,some 4] [none,some 124,none],.val J5 []],fun r=>.tup [.agg (b2E r.1),vi r.2],fun _=>[none,none],Tryz.func119⟩
def e5x(s_:u5)(e_:m4):Unit->KS:=fun _=>⟨a2Y.k 6 [false,false,false],(bs 2 (.ptr 1 0 0::(.ptr 2 0 0::(.ptr 3 0 0::(bs 78 []))))),[some [m6 124 2 x7 s_.g7],some [.var 77 [vi (m7 (s_.At+1)),.own 0 0 2 0 s_.g7.length,l7 4 B9 s_.i8]],some [.var 52 (a13 e_)],some [.var 77 [vi 0,.nil,.nil]]]⟩
def f1g(s_:u5)(e_:m4):Int->KS:=fun b1A=>⟨a2Y.k 9 [false,false,false,true],(bs 2 (.ptr 1 0 0::(.ptr 2 0 0::(.ptr 3 0 0::(bs 3 (.ptr 4 0 0::(bs 74 []))))))),[some [m6 124 2 x7 s_.g7],some [.var 77 [vi (m7 (s_.At+1)),.own 0 0 2 0 s_.g7.length,l7 4 B9 s_.i8]],some [.var 52 (a13 e_)],some [.var 77 [vi 0,.nil,.nil]],some [.var 183 [vi e_.a5.b9,vi e_.a5.Seq,vi b1A,vi 0]]]⟩
def f2f(s_:u5):(q9×List m9)->KS:=fun (d,g7)=>⟨a2Y.k 13 [false,false,false,true,true],(bs 2 (.ptr 1 0 0::(bs 1 (.ptr 3 0 0::(bs 3 (.ptr 4 0 0::(bs 74 []))))))),[some [.dead],some [.var 77 [vi (m7 (s_.At+1)),.own 2 0 2 0 g7.length,l7 4 B9 s_.i8]],some [m6 124 2 x7 g7],some [.var 77 [vi 0,.nil,.nil]],some [.var 183 [vi d.a5.b9,vi d.a5.Seq,vi d.Code,vi d.d8]]]⟩
def c4M(s_:u5)(d:q9)(g7:List m9):Option (u5×Int):=
 ((c0I s_.i8 d).bind fun d7s=>some ((u5.mk (m7 (s_.At+1)) g7 d7s),d.Code))
theorem f4M(s_)(r):NF a2Y r (f2f s_) (fun s=>c4M s_ s.1 s.2):=fun (d,g7) h=>PK<|rg<|j9 a17 e2b 3 h fun d7s h=>rg<|s8 g7<|fE h
def c5k(s_:u5)(e_:m4)(b1A:Int):Option (u5×Int):=
 (((bif (b1A==2) then (bif (e_.b6.Code==0) then ((b3i s_.g7 e_.b6).bind fun b0b=>some (l9.brk ((q9.mk e_.a5 0 e_.b6.d8),b0b))) else some (l9.brk ((q9.mk e_.a5 b1A 0),s_.g7))) else some (l9.brk ((q9.mk e_.a5 b1A 0),s_.g7))):Option (l9 (u5×Int) (q9×List m9))).bind fun x=>x.go some fun j=>c4M s_ j.1 j.2)
theorem e5C(s_ e_)(r):NF a2Y r (f1g s_ e_) (fun s=>c5k s_ e_ s):=fun b1A h=>PK<|A4 h (f4M s_ r) fun x1 h hc1=>rg<|j5 3 h (fun h=>j5 8 h (fun h=>L8<|j9 a45 d3m 4 h fun b0b h=>s8 s_.g7<|(o9 h hc1 fun hI=>sk [] [2,4,8] [(1,0),(25,0),(3,0),(4,0)] hI)) (fun h=>(o9 h hc1 fun hI=>sk [] [2,4,8] [(1,0),(0,0),(3,0),(4,0)] hI))) (fun h=>(o9 h hc1 fun hI=>sk [] [2,4,8] [(1,0),(0,0),(3,0),(4,0)] hI))
def b8w(s_:u5)(e_:m4):Option (u5×Int):=
 ((((b7y s_.g7 e_.b6).bind fun a6L=>(bif a6L then some (l9.brk 2) else some (l9.brk 1))):Option (l9 (u5×Int) Int)).bind fun x=>x.go some fun j=>c5k s_ e_ j)
theorem f2k(s_ e_)(r):NF a2Y r (e5x s_ e_) (fun s=>b8w s_ e_):=fun _ h=>PK<|rg<|A4 h (e5C s_ e_ r) fun x1 h hc1=>rg<|cbE a3U.t e4n h fun a6L d4R h=>cdT (a3U.t 4 true a6L) h (fun _ h=>ob d4R<|osc a3U a6L rfl (Q4 2)<|s8 s_.g7<|rg<|(o9 h hc1 fun hI=>sk [] [2,3,4,8] [(1,0),(2,0),(3,0),(7,0)] hI)) (fun _ h=>ob d4R<|osc a3U a6L rfl (Q4 2)<|s8 s_.g7<|(o9 h hc1 fun hI=>sk [] [2,3,4,8] [(1,0),(2,0),(3,0),(7,0)] hI))
def a7W(s_:u5)(e_:m4):Option (u5×Int):=
 (bif e_.i7 then some ((u5.mk (m7 (s_.At+1)) s_.g7 s_.i8),5) else ((b9E (u5.mk (m7 (s_.At+1)) s_.g7 s_.i8) e_.a5.b9).bind fun a7t=>(((bif a7t.2 then (bif (([a7t.1.a5.b9,a7t.1.a5.Seq]:List Int)==[e_.a5.b9,e_.a5.Seq]) then some (l9.ret ((u5.mk (m7 (s_.At+1)) s_.g7 s_.i8),3)) else (bif a7t.2 then (bif decide (a7t.1.a5.Seq>e_.a5.Seq) then some (l9.ret ((u5.mk (m7 (s_.At+1)) s_.g7 s_.i8),4)) else some (l9.brk ())) else some (l9.brk ()))) else (bif a7t.2 then (bif decide (a7t.1.a5.Seq>e_.a5.Seq) then some (l9.ret ((u5.mk (m7 (s_.At+1)) s_.g7 s_.i8),4)) else some (l9.brk ())) else some (l9.brk ()))):Option (l9 (u5×Int) Unit)).bind fun x=>x.go some fun j=>b8w s_ e_)))
theorem b7d{s_ e_}:OK a2Y [.agg (b2E s_),.agg (s6 e_)] (a7W s_ e_):=
 o8 _ fun r h=>L8<|j5 1 h (fun h=>rg<|s8 s_.g7<|fE h) (fun h=>rg<|cbS a6G f0z 4 (fun _=>(by simp [a6G,L2,R8,O1,V.simple,vi,v6,eB,B9,eI,F4])) (fun _=>(Q4 2)) h fun a7t h=>s8 s_.g7<|A4 h (f2k s_ e_ r) fun x1 h hc1=>rg<|j5 1 h (fun h=>j5 8 h (fun h=>rg<|(B8 h hc1 fun h=>s8 s_.g7<|fE h)) (fun h=>rg<|j5 1 h (fun h=>j5 10 h (fun h=>rg<|(B8 h hc1 fun h=>s8 s_.g7<|fE h)) (fun h=>(o9 h hc1 fun hI=>sk [] [2,3,4] [(1,0),(2,0),(3,0)] hI))) (fun h=>(o9 h hc1 fun hI=>sk [] [2,3,4] [(1,0),(2,0),(3,0)] hI)))) (fun h=>rg<|j5 1 h (fun h=>j5 10 h (fun h=>rg<|(B8 h hc1 fun h=>s8 s_.g7<|fE h)) (fun h=>(o9 h hc1 fun hI=>sk [] [2,3,4] [(1,0),(2,0),(3,0)] hI))) (fun h=>(o9 h hc1 fun hI=>sk [] [2,3,4] [(1,0),(2,0),(3,0)] hI))))
def c7H:FS (j6):=⟨234,Tryz.f234,[.val A8 H2],[none],[.val A8 H2],fun r=>.agg (H5 r),fun _=>[none],Tryz.func234⟩
def d8h(n:j6):Option j6:=
 some (j6.mk n.Id n.Acc n.a6 n.Seq n.d6 n.a8 n.c9 n.i4 n.c8 n.a7 false [] (m4.mk false (n5.mk 0 0) (n7.mk [] [] 0 0)) n.f0)
theorem f8e{n}:OK c7H [.agg (H5 n)] (d8h n):=
 o8 _ fun r h=>rg4<|rg<|A3 n<|fE h
def a5I:FS (j6×List n6):=⟨233,Tryz.f233,[.val A8 H2,.val [some 5] []],[none],[.val A8 H2],fun r=>.tup [.agg (H5 r.1),l7 5 z5 r.2],fun _=>[none],Tryz.func233⟩
def c6Y(n:j6):Unit->KS:=fun _=>⟨a5I.k 5 [false,false],(bs 1 (.ptr 1 0 0::(.ptr 2 0 0::(bs 81 [])))),[some (a7R n),some [.var 54 (a8d n)],some [.var 54 [vi 0,vi 0,.nil,.nil,vi 0,vi 0,vi 0,.nil,.nil,.b false,vi 0,vi 0,.nil,.nil,vi 0,vi 0,.nil,.b false,.nil,.b false,vi 0,vi 0,.nil,.nil,vi 0,vi 0,.nil]]]⟩
def d4s(n:j6):Option (j6×List n6):=
 some (n,([]:List n6))
theorem f2I(n)(r):NF a5I r (c6Y n) (fun s=>d4s n):=fun _ h=>PK<|rg<|tk 1 []<|A3 n<|A9 n6<|fE h
def d6z(n:j6):((List m9)×Int×Int×List q9)->KS:=fun (g7,i,sAt,sDones)=>⟨a5I.k 4 [false],(bs 1 (.ptr 1 0 0::(.ptr 2 0 0::(bs 1 (.ptr 3 0 0::(vi i::(bs 78 []))))))),[some (a7R n),some [.var 54 (a8d n)],some [.var 54 [vi 0,vi 0,.nil,.nil,vi 0,vi 0,vi 0,.nil,.nil,.b false,vi 0,vi 0,.nil,.nil,vi 0,vi 0,.nil,.b false,.nil,.b false,vi 0,vi 0,.nil,.nil,vi 0,vi 0,.nil]],some [.var 77 [vi sAt,.own 4 0 2 0 g7.length,l7 4 B9 sDones]],some [m6 124 2 x7 g7]]⟩
def e9J(n:j6):(List n6)->KS:=fun out=>⟨a5I.k 11 [false,true,false,true],(bs 1 (.ptr 1 0 0::(.ptr 2 0 0::(bs 5 (.own 3 0 5 0 out.length::(bs 75 [])))))),[some (a7R n),some [.var 54 (a8d n)],some [.var 54 [vi 0,vi 0,.nil,.nil,vi 0,vi 0,vi 0,.nil,.nil,.b false,vi 0,vi 0,.nil,.nil,vi 0,vi 0,.nil,.b false,.nil,.b false,vi 0,vi 0,.nil,.nil,vi 0,vi 0,.nil]],some [m6 89 5 z5 out]]⟩
def c5Q(n:j6)(out:List n6):Option (j7 (j6×List n6) ((List m9)×Int×Int×List q9) Unit):=
 ((d8h n).bind fun c2F=>some (j7.ret (c2F,out)))
theorem f5Y(n)(lc:D4 a5I (c6Y n) (d6z n)):NL lc (e9J n) (fun s=>c5Q n s):=fun out h=>PK<|rg<|j9 c7H f8e 1 h fun c2F h=>A3 n<|A3 c2F<|s8 out<|fL lc h
def b0P(n:j6)(g7:List m9)(i:Int)(sAt:Int)(sDones:List q9):Option (j7 (j6×List n6) ((List m9)×Int×Int×List q9) Unit):=
 (bif decide (i<(n.a6.length:Int)) then ((idx n.a6 i).bind fun entry=>((a7W (u5.mk sAt g7 sDones) entry).bind fun l5Apply=>(bif entry.i7 then some (j7.nxt (l5Apply.1.g7,m7 (i+1),l5Apply.1.At,l5Apply.1.i8)) else (bif (!(([entry.a5.b9,entry.a5.Seq]:List Int)==[n.b8.a5.b9,n.b8.a5.Seq])) then some (j7.nxt (l5Apply.1.g7,m7 (i+1),l5Apply.1.At,l5Apply.1.i8)) else (((bif (l5Apply.2==0) then ((idx [(n6.mk n.Id n.b8.a5 l5Apply.2 0)] 0).bind fun told=>some (l9.brk ([(n6.mk n.Id n.b8.a5 l5Apply.2 0)].set (0:Int).toNat (n6.mk told.Node told.a5 told.Code entry.b6.d8)))) else some (l9.brk [(n6.mk n.Id n.b8.a5 l5Apply.2 0)])):Option (l9 (j7 (j6×List n6) ((List m9)×Int×Int×List q9) Unit) (List n6))).bind fun x=>x.go some fun j=>c5Q n j))))) else some (j7.brk ()))
theorem f3O(n):LQ a5I (c6Y n) (d6z n) (fun s=>b0P n s.1 s.2.1 s.2.2.1 s.2.2.2):=fun lc (g7,i,sAt,sDones) h=>PK<|rg<|j5 4 h (fun h=>rg<|B0 h fun entry E9 h=>C0 E9<|I6 s6 5 E9<|j9 a2Y b7d 6 h fun l5Apply h=>s8 g7<|n9<|C0 E9<|I6 s6 5 E9<|j5 6 h (fun h=>rg<|(lc.nx h fun hI=>sk [] [1,2,4,5] [(1,0),(2,0),(3,0),(16,0)] hI)) (fun h=>C0 E9<|I6 s6 12 E9<|j5 17 h (fun h=>rg<|(lc.nx h fun hI=>sk [] [1,2,4,5] [(1,0),(2,0),(3,0),(16,0)] hI)) (fun h=>rg<|tk 7 []<|A4 h (f5Y n lc) fun x2 h hc2=>rg<|j5 1 h (fun h=>rg<|C0 E9<|I6 s6 7 E9<|B0 h fun told a3M h=>ob (P5 a3M)<|om (0<((1:Nat):Int)) (by simpa using b3J a3M)<|Q6 89 5 z5 10 [] (n6.mk told.Node told.a5 told.Code entry.b6.d8) a3M<|(o9 h hc2 fun hI=>om ((.own 50 0 5 0 1:V)=.own 50 0 5 0 ([(n6.mk n.Id n.b8.a5 l5Apply.2 0)].set (0:Int).toNat (n6.mk told.Node told.a5 told.Code entry.b6.d8)).length) (by simp)<|sk [.is (.tmp 8) (.own 50 0 5 0 ([(n6.mk n.Id n.b8.a5 l5Apply.2 0)].set (0:Int).toNat (n6.mk told.Node told.a5 told.Code entry.b6.d8)).length)] [1,2,8] [(1,0),(2,0),(50,0)] hI)) (fun h=>(o9 h hc2 fun hI=>om ((.own 50 0 5 0 1:V)=.own 50 0 5 0 ([(n6.mk n.Id n.b8.a5 l5Apply.2 0)].length)) (by simp)<|sk [.is (.tmp 8) (.own 50 0 5 0 ([(n6.mk n.Id n.b8.a5 l5Apply.2 0)].length))] [1,2,8] [(1,0),(2,0),(50,0)] hI))))) (fun h=>(lc.bk h fun hI=>sk [] [1,2] [(1,0),(2,0)] hI))
def b7A(n:j6):Option (j6×List n6):=
 (bif (!n.i9) then some (n,([]:List n6)) else ((a8t n n.b8.a5).bind fun a5P=>(bif (!a5P) then some (n,([]:List n6)) else ((a9v).bind fun Q7=>((o7 (fun s:(List m9)×Int×Int×List q9=>b0P n s.1 s.2.1 s.2.2.1 s.2.2.2) (Q7.g7,0,Q7.At,Q7.i8)).bind fun x=>x.go (fun r=>some r) fun s=>d4s n)))))
theorem f1F{n}:OK a5I [.agg (H5 n)] (b7A n):=
 o8 _ fun r h=>n9<|j5 3 h (fun h=>rg<|tk 1 []<|A3 n<|A9 n6<|fE h) (fun h=>R3 a2O c1e 8 2 h fun a5P h=>A3 n<|j5 10 h (fun h=>rg<|tk 1 []<|A3 n<|A9 n6<|fE h) (fun h=>rg<|j9 b3g b80 0 h fun Q7 h=>rg<|lp (f3O n) h (fun _ h=>a5I.rt h) (f2I n r) fun hI=>sk [] [1,2,4,5] [(1,0),(2,0),(16,0),(15,0)] hI))
def b5k:FS (j6×(List l8)×List n6):=⟨229,Tryz.f229,[.val A8 H2,.val [some 13] [],.val [some 5] []],[none,none],[.val A8 H2,.val J5 []],fun r=>.tup [.agg (H5 r.1),l7 13 t7 r.2.1,l7 5 z5 r.2.2],fun _=>[none,none],Tryz.func229⟩
def f2o(n:j6)(l5Entry:m4):((List Bool)×Int×Int×(List r9)×(List p8)×Int×Int×Int×Bool)->KS:=fun (a7,nCur,nCur1,nCur2,nCur3,nCur4,nCur5,nPhase,nCur6)=>⟨b5k.k 6 [true],(bs 2 (.ptr 1 0 0::(bs 1 (.ptr 3 0 0::(bs 33 []))))),[some [m6 61 8 q8 n.Acc.a7,.dead,m6 4 1 eB n.c9,.dead,m6 52 7 s6 n.f0],some [.var 54 ([vi n.Id,vi n.Acc.i0,.own 0 0 8 0 n.Acc.a7.length,.own 2 0 7 0 (n.a6++[l5Entry]).length,vi n.Seq,vi nPhase,vi n.a8,.own 0 2 1 0 n.c9.length,l7 8 q8 n.i4,.b nCur6,vi nCur,vi nCur1,l7 2 w8 nCur2,l7 2 w9 nCur3,vi nCur4,vi nCur5,.own 4 0 1 0 a7.length]++a3O n++[.own 0 4 7 0 n.f0.length])],some [m6 52 7 s6 (n.a6++[l5Entry])],some [.var 54 [vi 0,vi 0,.nil,.nil,vi 0,vi 0,vi 0,.nil,.nil,.b false,vi 0,vi 0,.nil,.nil,vi 0,vi 0,.nil,.b false,.nil,.b false,vi 0,vi 0,.nil,.nil,vi 0,vi 0,.nil]],some [m6 4 1 eB a7]]⟩
def c0N(n:j6)(l5Entry:m4)(a7:List Bool)(nCur:Int)(nCur1:Int)(nCur2:List r9)(nCur3:List p8)(nCur4:Int)(nCur5:Int)(nPhase:Int)(nCur6:Bool):Option (j6×(List l8)×List n6):=
 ((b7A (j6.mk n.Id n.Acc (n.a6++[l5Entry]) n.Seq nPhase n.a8 n.c9 n.i4 (m4.mk nCur6 (n5.mk nCur nCur1) (n7.mk nCur2 nCur3 nCur4 nCur5)) a7 n.i9 n.i6 n.b8 n.f0)).bind fun b6k=>((a6r b6k.1).bind fun O4=>some (O4.1,O4.2,b6k.2)))
theorem e6Y(n l5Entry)(r):NF b5k r (f2o n l5Entry) (fun s=>c0N n l5Entry s.1 s.2.1 s.2.2.1 s.2.2.2.1 s.2.2.2.2.1 s.2.2.2.2.2.1 s.2.2.2.2.2.2.1 s.2.2.2.2.2.2.2.1 s.2.2.2.2.2.2.2.2):=fun (a7,nCur,nCur1,nCur2,nCur3,nCur4,nCur5,nPhase,nCur6) h=>PK<|rg<|j9 a5I f1F 1 h fun b6k h=>H8 n.Acc.a7 (n.a6++[l5Entry]) n.c9 a7<|s8 n.f0<|rg<|j9 a98 b2A 1 h fun O4 h=>A3 b6k.1<|rg<|A3 O4.1<|fE h
def b34(n:j6)(e_:m4):Option (j6×(List l8)×List n6):=
 ((X7 e_).bind fun l5Entry=>(t5 ((n.a6.length+1)*88<=140737488355328) ((((bif (n.d6==3) then some (l9.brk ([],0,0,[],[],0,0,2,false)) else some (l9.brk (n.a7,n.c8.a5.b9,n.c8.a5.Seq,n.c8.b6.b5,n.c8.b6.b7,n.c8.b6.d8,n.c8.b6.Code,n.d6,n.c8.i7))):Option (l9 (j6×(List l8)×List n6) ((List Bool)×Int×Int×(List r9)×(List p8)×Int×Int×Int×Bool))).bind fun x=>x.go some fun j=>c0N n l5Entry j.1 j.2.1 j.2.2.1 j.2.2.2.1 j.2.2.2.2.1 j.2.2.2.2.2.1 j.2.2.2.2.2.2.1 j.2.2.2.2.2.2.2.1 j.2.2.2.2.2.2.2.2))))
theorem d1t{n e_}:OK b5k [.agg (H5 n),.agg (s6 e_)] (b34 n e_):=
 o8 _ fun r h=>n9<|j9 a0y a0O 3 h fun l5Entry h=>tk 4 J5<|t9 h fun e1 h=>F7 5 11 52 7 88 s6 n.a6 l5Entry e1<|E7 l5Entry<|A4 h (e6Y n l5Entry r) fun x1 h hc1=>rg<|j5 2 h (fun h=>L8<|(o9 h hc1 fun hI=>sk [.frz (.cell 1 0 12) (some 2),.frz (.cell 1 0 13) (some 2),.own (.cell 1 0 16) 4 1,.kill 0 3] [2,4] [(1,0),(11,0),(3,0),(24,0)] hI)) (fun h=>(o9 h hc1 fun hI=>sk [] [2,4] [(1,0),(11,0),(3,0),(0,3)] hI))
def d25:FS (j6×(List l8)×List n6):=⟨215,Tryz.f215,[.val A8 H2,.val [some 13] [],.val [some 5] []],[none,none],[.val A8 H2,.val C2 []],fun r=>.tup [.agg (H5 r.1),l7 13 t7 r.2.1,l7 5 z5 r.2.2],fun _=>[none,none],Tryz.func215⟩
def b52(n:j6)(m:l8):Option (j6×(List l8)×List n6):=
 (bif (n.d6 != 3) then some (n,([]:List l8),([]:List n6)) else (bif (m.a8 != n.a8) then some (n,([]:List l8),([]:List n6)) else (bif (m.g8 != (n.a6.length:Int)) then some (n,([]:List l8),([]:List n6)) else ((idx n.a7 m.c9).bind fun y=>((b4V (n.a7.set m.c9.toNat true)).bind fun b3x=>(bif (!b3x) then some ((j6.mk n.Id n.Acc n.a6 n.Seq n.d6 n.a8 n.c9 n.i4 n.c8 (n.a7.set m.c9.toNat true) n.i9 n.i6 n.b8 n.f0),([]:List l8),([]:List n6)) else ((X7 n.c8).bind fun l5Entry=>((a3B n.Id (l8.mk 5 0 0 0 (n.a6.length:Int) l5Entry [])).bind fun K2=>((b34 (j6.mk n.Id n.Acc n.a6 n.Seq n.d6 n.a8 n.c9 n.i4 n.c8 (n.a7.set m.c9.toNat true) n.i9 n.i6 n.b8 n.f0) l5Entry).bind fun a1d=>(t5 ((K2.length+a1d.2.1.length)*152<=140737488355328) (some (a1d.1,K2++a1d.2.1,a1d.2.2))))))))))))
theorem e6g{n m}:OK d25 [.agg (H5 n),.agg (t7 m)] (b52 n m):=
 o8 _ fun r h=>n9<|j5 3 h (fun h=>rg<|tk 1 C2<|tk 2 []<|A3 n<|A9 l8<|A9 n6<|fE h) (fun h=>j5 10 h (fun h=>rg<|tk 1 C2<|tk 2 []<|A3 n<|A9 l8<|A9 n6<|fE h) (fun h=>j5 17 h (fun h=>rg<|tk 1 C2<|tk 2 []<|A3 n<|A9 l8<|A9 n6<|fE h) (fun h=>rg<|B0 h fun y hy h=>C0 hy<|Q6 4 1 eB 5 [] true hy<|rg<|R3 a7b d1w 2 1 h fun b3x h=>om (n.a7.length=(n.a7.set m.c9.toNat true).length) (by simp)<|j5 3 h (fun h=>rg<|tk 1 C2<|tk 2 []<|Y2 n.Acc.a7 n.a6 n.c9<|om (n.a7.length=(n.a7.set m.c9.toNat true).length) (by simp)<|s8 n.f0<|A9 l8<|A9 n6<|fE h) (fun h=>rg<|j9 a0y a0O 2 h fun l5Entry h=>rg<|j9 a0z a6v 7 h fun K2 h=>rg<|j9 b5k d1t 2 h fun a1d h=>Y2 n.Acc.a7 n.a6 n.c9<|om (n.a7.length=(n.a7.set m.c9.toNat true).length) (by simp)<|s8 n.f0<|rg<|t9 h fun e1 h=>apL 3 62 82 13 152 t7 K2 a1d.2.1 e1<|A3 a1d.1<|s8 (K2++a1d.2.1)<|fE h))))
def d8p:FS (j6×(List l8)×List n6):=⟨216,Tryz.f216,[.val A8 H2,.val [some 13] [],.val [some 5] []],[none,none],[.val A8 H2,.val C2 []],fun r=>.tup [.agg (H5 r.1),l7 13 t7 r.2.1,l7 5 z5 r.2.2],fun _=>[none,none],Tryz.func216⟩
def c0z(n:j6)(m:l8):Option (j6×(List l8)×List n6):=
 (bif decide (m.g8<(n.a6.length:Int)) then some (n,([]:List l8),([]:List n6)) else (bif decide (m.g8>(n.a6.length:Int)) then ((a5x m (l8.mk 8 0 0 0 (n.a6.length:Int) (m4.mk false (n5.mk 0 0) (n7.mk [] [] 0 0)) [])).bind fun a1I=>some (n,a1I,([]:List n6))) else ((b34 n m.g9).bind fun a1d=>some (a1d.1,a1d.2.1,a1d.2.2))))
theorem f1l{n m}:OK d8p [.agg (H5 n),.agg (t7 m)] (c0z n m):=
 o8 _ fun r h=>n9<|j5 6 h (fun h=>rg<|tk 1 C2<|tk 2 []<|A3 n<|A9 l8<|A9 n6<|fE h) (fun h=>rg<|j5 6 h (fun h=>rg<|j9 a4y a8Q 6 h fun a1I h=>tk 7 []<|A3 n<|A9 n6<|fE h) (fun h=>rg<|j9 b5k d1t 3 h fun a1d h=>A3 n<|A3 a1d.1<|fE h))
def c8P:FS (j6×List l8):=⟨218,Tryz.f218,[.val A8 H2,.val [some 13] []],[none,none],[.val A8 H2,.val C2 []],fun r=>.tup [.agg (H5 r.1),l7 13 t7 r.2],fun _=>[none,none],Tryz.func218⟩
def b62(n:j6)(m:l8):Option (j6×List l8):=
 (bif (n.d6==0) then some (n,([]:List l8)) else (bif decide ((n.f0.length:Int)>=4) then some (n,([]:List l8)) else ((a8t n m.g9.a5).bind fun a5P=>(bif a5P then some (n,([]:List l8)) else ((X7 m.g9).bind fun l5Entry=>(t5 ((n.f0.length+1)*88<=140737488355328) (((a6r (j6.mk n.Id n.Acc n.a6 n.Seq n.d6 n.a8 n.c9 n.i4 n.c8 n.a7 n.i9 n.i6 n.b8 (n.f0++[l5Entry]))).bind fun O4=>some (O4.1,O4.2)))))))))
theorem e4R{n m}:OK c8P [.agg (H5 n),.agg (t7 m)] (b62 n m):=
 o8 _ fun r h=>n9<|j5 3 h (fun h=>rg<|tk 1 C2<|A3 n<|A9 l8<|fE h) (fun h=>j5 9 h (fun h=>rg<|tk 1 C2<|A3 n<|A9 l8<|fE h) (fun h=>R3 a2O c1e 14 2 h fun a5P h=>A3 n<|j5 15 h (fun h=>rg<|tk 1 C2<|A3 n<|A9 l8<|fE h) (fun h=>rg<|j9 a0y a0O 4 h fun l5Entry h=>tk 5 J5<|t9 h fun e1 h=>F7 6 27 52 7 88 s6 n.f0 l5Entry e1<|E7 l5Entry<|rg<|j9 a98 b2A 1 h fun O4 h=>s8 n.Acc.a7<|H8 n.a6 n.c9 n.a7 (n.f0++[l5Entry])<|A3 O4.1<|fE h)))
def a8b:FS ((List l8)×j6):=⟨219,Tryz.f219,[.val [some 13] []],[some (0,.val A8 H2),none],[.val A8 H2,.val C2 []],fun r=>l7 13 t7 r.1,fun r=>[some (.agg (f0W r.2)),none],Tryz.func219⟩
def d4e(n:j6):(List l8)->KS:=fun out1=>⟨a8b.k 4 [false],(bs 5 (.own 1 0 13 0 out1.length::(bs 24 []))),[some [m6 61 8 q8 n.Acc.a7,m6 52 7 s6 n.a6,m6 4 1 eB n.c9,m6 4 1 eB n.a7,m6 52 7 s6 n.f0],some [m6 82 13 t7 out1]]⟩
def c8c(n:j6)(out1:List l8):Option ((List l8)×j6):=
 some (out1,n)
theorem e8q(n)(r):NF a8b r (d4e n) (fun s=>c8c n s):=fun out1 h=>PK<|rg<|s8 out1<|A3 n<|fE h
def e49(n:j6)(m:l8):((List l8)×Int)->KS:=fun (out,s_)=>⟨a8b.k 3 [],(bs 2 (.ptr 1 0 0::(.ptr 2 0 0::(bs 1 (.own 3 0 13 0 out.length::(vi s_::(bs 23 []))))))),[some (a7R n),some [.var 54 (a8d n)],some [.var 82 (a4I m)],some [m6 82 13 t7 out]]⟩
def a58(n:j6)(m:l8)(out:List l8)(s_:Int):Option (j7 ((List l8)×j6) ((List l8)×Int) (List l8)):=
 (bif decide (s_<(n.a6.length:Int)) then ((idx n.a6 s_).bind fun entry=>((X7 entry).bind fun l5Entry=>((a5x m (l8.mk 5 0 0 0 s_ l5Entry [])).bind fun a1I=>(t5 ((out.length+a1I.length)*152<=140737488355328) (some (j7.nxt (out++a1I,m7 (s_+1)))))))) else some (j7.brk out))
theorem f2Z(n m):LQ a8b (d4e n) (e49 n m) (fun s=>a58 n m s.1 s.2):=fun lc (out,s_) h=>PK<|rg<|j5 4 h (fun h=>rg<|B0 h fun entry E9 h=>C0 E9<|I6 s6 7 E9<|j9 a0y a0O 8 h fun l5Entry h=>j9 a4y a8Q 10 h fun a1I h=>t9 h fun e1 h=>apL 11 20 82 13 152 t7 out a1I e1<|rg<|(lc.nx h fun hI=>sk [] [2,3,5,6] [(1,0),(2,0),(20,0)] hI)) (fun h=>(lc.bk h fun hI=>sk [] [5] [(3,0)] hI))
def b6P(n:j6)(m:l8):Option ((List l8)×j6):=
 ((o7 (fun s:(List l8)×Int=>a58 n m s.1 s.2) (([]:List l8),m.g8)).bind fun x=>x.go (fun r=>some r) fun s=>c8c n s)
theorem e5D{n m}:OK a8b [.agg (H5 n),.agg (t7 m)] (b6P n m):=
 o8 _ fun r h=>n9<|tk 0 C2<|rg<|lp (f2Z n m) h (fun _ h=>a8b.rt h) (e8q n r) fun hI=>om ((.own 4 0 13 0 0:V)=.own 4 0 13 0 ([]:List l8).length) (by simp)<|sk [.is (.tmp 5) (.own 4 0 13 0 ([]:List l8).length)] [2,3,5,6] [(1,0),(2,0),(4,0)] hI
def b5C:FS (j6×(List l8)×List n6):=⟨194,Tryz.f194,[.val A8 H2,.val [some 13] [],.val [some 5] []],[none,none],[.val A8 H2,.val C2 []],fun r=>.tup [.agg (H5 r.1),l7 13 t7 r.2.1,l7 5 z5 r.2.2],fun _=>[none,none],Tryz.func194⟩
def e0V:((List m8)×(List m4)×(List Bool)×(List Bool)×(List m4)×(List l8)×Int×Int×Int×Int×(List r9)×(List p8)×Int×Int×Bool×(List n8)×Bool×Int×Int×(List r9)×(List p8)×Int×Int×Int×Int×Int×(List m8)×Bool)->KS:=fun (Acc,a6,c9,a7,f0,out,nId,nAcc,nCur,nCur1,nCur2,nCur3,nCur4,nCur5,nBusy,nProg,nWant,nWant1,nWant2,nWant3,nWant4,nWant5,nWant6,nSeq,nPhase,nBal,nBest,nCur6)=>⟨b5C.k 5 [true],(bs 2 (.ptr 1 0 0::(bs 1 (.ptr 7 0 0::(bs 2 (l7 13 t7 out::(bs 77 []))))))),[some [.dead,.dead,.dead,.dead,.dead],some [.var 54 [vi nId,vi nAcc,.own 2 0 8 0 Acc.length,.own 3 0 7 0 a6.length,vi nSeq,vi nPhase,vi nBal,.own 4 0 1 0 c9.length,l7 8 q8 nBest,.b nCur6,vi nCur,vi nCur1,l7 2 w8 nCur2,l7 2 w9 nCur3,vi nCur4,vi nCur5,.own 5 0 1 0 a7.length,.b nBusy,l7 4 A6 nProg,.b nWant,vi nWant1,vi nWant2,l7 2 w8 nWant3,l7 2 w9 nWant4,vi nWant5,vi nWant6,.own 6 0 7 0 f0.length]],some [m6 61 8 q8 Acc],some [m6 52 7 s6 a6],some [m6 4 1 eB c9],some [m6 4 1 eB a7],some [m6 52 7 s6 f0],some [.var 54 [vi 0,vi 0,.nil,.nil,vi 0,vi 0,vi 0,.nil,.nil,.b false,vi 0,vi 0,.nil,.nil,vi 0,vi 0,.nil,.b false,.nil,.b false,vi 0,vi 0,.nil,.nil,vi 0,vi 0,.nil]]]⟩
def d4M(Acc:List m8)(a6:List m4)(c9:List Bool)(a7:List Bool)(f0:List m4)(out:List l8)(nId:Int)(nAcc:Int)(nCur:Int)(nCur1:Int)(nCur2:List r9)(nCur3:List p8)(nCur4:Int)(nCur5:Int)(nBusy:Bool)(nProg:List n8)(nWant:Bool)(nWant1:Int)(nWant2:Int)(nWant3:List r9)(nWant4:List p8)(nWant5:Int)(nWant6:Int)(nSeq:Int)(nPhase:Int)(nBal:Int)(nBest:List m8)(nCur6:Bool):Option (j6×(List l8)×List n6):=
 some ((j6.mk nId (z0.mk nAcc Acc) a6 nSeq nPhase nBal c9 nBest (m4.mk nCur6 (n5.mk nCur nCur1) (n7.mk nCur2 nCur3 nCur4 nCur5)) a7 nBusy nProg (m4.mk nWant (n5.mk nWant1 nWant2) (n7.mk nWant3 nWant4 nWant5 nWant6)) f0),out,([]:List n6))
theorem e6l(r):NF b5C r e0V (fun s=>d4M s.1 s.2.1 s.2.2.1 s.2.2.2.1 s.2.2.2.2.1 s.2.2.2.2.2.1 s.2.2.2.2.2.2.1 s.2.2.2.2.2.2.2.1 s.2.2.2.2.2.2.2.2.1 s.2.2.2.2.2.2.2.2.2.1 s.2.2.2.2.2.2.2.2.2.2.1 s.2.2.2.2.2.2.2.2.2.2.2.1 s.2.2.2.2.2.2.2.2.2.2.2.2.1 s.2.2.2.2.2.2.2.2.2.2.2.2.2.1 s.2.2.2.2.2.2.2.2.2.2.2.2.2.2.1 s.2.2.2.2.2.2.2.2.2.2.2.2.2.2.2.1 s.2.2.2.2.2.2.2.2.2.2.2.2.2.2.2.2.1 s.2.2.2.2.2.2.2.2.2.2.2.2.2.2.2.2.2.1 s.2.2.2.2.2.2.2.2.2.2.2.2.2.2.2.2.2.2.1 s.2.2.2.2.2.2.2.2.2.2.2.2.2.2.2.2.2.2.2.1 s.2.2.2.2.2.2.2.2.2.2.2.2.2.2.2.2.2.2.2.2.1 s.2.2.2.2.2.2.2.2.2.2.2.2.2.2.2.2.2.2.2.2.2.1 s.2.2.2.2.2.2.2.2.2.2.2.2.2.2.2.2.2.2.2.2.2.2.1 s.2.2.2.2.2.2.2.2.2.2.2.2.2.2.2.2.2.2.2.2.2.2.2.1 s.2.2.2.2.2.2.2.2.2.2.2.2.2.2.2.2.2.2.2.2.2.2.2.2.1 s.2.2.2.2.2.2.2.2.2.2.2.2.2.2.2.2.2.2.2.2.2.2.2.2.2.1 s.2.2.2.2.2.2.2.2.2.2.2.2.2.2.2.2.2.2.2.2.2.2.2.2.2.2.1 s.2.2.2.2.2.2.2.2.2.2.2.2.2.2.2.2.2.2.2.2.2.2.2.2.2.2.2):=fun (Acc,a6,c9,a7,f0,out,nId,nAcc,nCur,nCur1,nCur2,nCur3,nCur4,nCur5,nBusy,nProg,nWant,nWant1,nWant2,nWant3,nWant4,nWant5,nWant6,nSeq,nPhase,nBal,nBest,nCur6) h=>PK<|rg<|tk 2 []<|H8 Acc a6 c9 a7<|s8 f0<|A9 n6<|fE h
def b7Q(n:j6)(m:l8):Option (j6×(List l8)×List n6):=
 (((bif (m.a9==1) then ((b8d n m).bind fun M9=>some (l9.brk (M9.1.Acc.a7,M9.1.a6,M9.1.c9,M9.1.a7,M9.1.f0,M9.2,M9.1.Id,M9.1.Acc.i0,M9.1.c8.a5.b9,M9.1.c8.a5.Seq,M9.1.c8.b6.b5,M9.1.c8.b6.b7,M9.1.c8.b6.d8,M9.1.c8.b6.Code,M9.1.i9,M9.1.i6,M9.1.b8.i7,M9.1.b8.a5.b9,M9.1.b8.a5.Seq,M9.1.b8.b6.b5,M9.1.b8.b6.b7,M9.1.b8.b6.d8,M9.1.b8.b6.Code,M9.1.Seq,M9.1.d6,M9.1.a8,M9.1.i4,M9.1.c8.i7))) else (bif (m.a9==2) then ((c0G n m).bind fun N2=>some (l9.brk (N2.1.Acc.a7,N2.1.a6,N2.1.c9,N2.1.a7,N2.1.f0,N2.2,N2.1.Id,N2.1.Acc.i0,N2.1.c8.a5.b9,N2.1.c8.a5.Seq,N2.1.c8.b6.b5,N2.1.c8.b6.b7,N2.1.c8.b6.d8,N2.1.c8.b6.Code,N2.1.i9,N2.1.i6,N2.1.b8.i7,N2.1.b8.a5.b9,N2.1.b8.a5.Seq,N2.1.b8.b6.b5,N2.1.b8.b6.b7,N2.1.b8.b6.d8,N2.1.b8.b6.Code,N2.1.Seq,N2.1.d6,N2.1.a8,N2.1.i4,N2.1.c8.i7))) else (bif (m.a9==3) then ((b6W n m).bind fun M3=>some (l9.brk (M3.1.Acc.a7,M3.1.a6,M3.1.c9,M3.1.a7,M3.1.f0,M3.2,M3.1.Id,M3.1.Acc.i0,M3.1.c8.a5.b9,M3.1.c8.a5.Seq,M3.1.c8.b6.b5,M3.1.c8.b6.b7,M3.1.c8.b6.d8,M3.1.c8.b6.Code,M3.1.i9,M3.1.i6,M3.1.b8.i7,M3.1.b8.a5.b9,M3.1.b8.a5.Seq,M3.1.b8.b6.b5,M3.1.b8.b6.b7,M3.1.b8.b6.d8,M3.1.b8.b6.Code,M3.1.Seq,M3.1.d6,M3.1.a8,M3.1.i4,M3.1.c8.i7))) else (bif (m.a9==4) then ((b52 n m).bind fun b2Y=>some (l9.ret (b2Y.1,b2Y.2.1,b2Y.2.2))) else (bif (m.a9==5) then ((c0z n m).bind fun b4l=>some (l9.ret (b4l.1,b4l.2.1,b4l.2.2))) else (bif (m.a9==6) then ((a9y n.Acc m.a8).bind fun l6Promise=>((b29 (j6.mk n.Id l6Promise.1 n.a6 n.Seq n.d6 n.a8 n.c9 n.i4 n.c8 n.a7 n.i9 n.i6 n.b8 n.f0) m.a8).bind fun K4=>some (l9.brk (K4.Acc.a7,K4.a6,K4.c9,K4.a7,K4.f0,([]:List l8),K4.Id,K4.Acc.i0,K4.c8.a5.b9,K4.c8.a5.Seq,K4.c8.b6.b5,K4.c8.b6.b7,K4.c8.b6.d8,K4.c8.b6.Code,K4.i9,K4.i6,K4.b8.i7,K4.b8.a5.b9,K4.b8.a5.Seq,K4.b8.b6.b5,K4.b8.b6.b7,K4.b8.b6.d8,K4.b8.b6.Code,K4.Seq,K4.d6,K4.a8,K4.i4,K4.c8.i7)))) else (bif (m.a9==7) then ((b62 n m).bind fun M6=>some (l9.brk (M6.1.Acc.a7,M6.1.a6,M6.1.c9,M6.1.a7,M6.1.f0,M6.2,M6.1.Id,M6.1.Acc.i0,M6.1.c8.a5.b9,M6.1.c8.a5.Seq,M6.1.c8.b6.b5,M6.1.c8.b6.b7,M6.1.c8.b6.d8,M6.1.c8.b6.Code,M6.1.i9,M6.1.i6,M6.1.b8.i7,M6.1.b8.a5.b9,M6.1.b8.a5.Seq,M6.1.b8.b6.b5,M6.1.b8.b6.b7,M6.1.b8.b6.d8,M6.1.b8.b6.Code,M6.1.Seq,M6.1.d6,M6.1.a8,M6.1.i4,M6.1.c8.i7))) else (bif (m.a9==8) then ((b6P n m).bind fun T7=>(t5 (n.Acc.a7.length=T7.2.Acc.a7.length) ((t5 (n.a6.length=T7.2.a6.length) ((t5 (n.c9.length=T7.2.c9.length) ((t5 (n.a7.length=T7.2.a7.length) ((t5 (n.f0.length=T7.2.f0.length) (some (l9.brk (T7.2.Acc.a7,T7.2.a6,T7.2.c9,T7.2.a7,T7.2.f0,T7.1,n.Id,n.Acc.i0,n.c8.a5.b9,n.c8.a5.Seq,n.c8.b6.b5,n.c8.b6.b7,n.c8.b6.d8,n.c8.b6.Code,n.i9,n.i6,n.b8.i7,n.b8.a5.b9,n.b8.a5.Seq,n.b8.b6.b5,n.b8.b6.b7,n.b8.b6.d8,n.b8.b6.Code,n.Seq,n.d6,n.a8,n.i4,n.c8.i7))))))))))))) else some (l9.brk (n.Acc.a7,n.a6,n.c9,n.a7,n.f0,([]:List l8),n.Id,n.Acc.i0,n.c8.a5.b9,n.c8.a5.Seq,n.c8.b6.b5,n.c8.b6.b7,n.c8.b6.d8,n.c8.b6.Code,n.i9,n.i6,n.b8.i7,n.b8.a5.b9,n.b8.a5.Seq,n.b8.b6.b5,n.b8.b6.b7,n.b8.b6.d8,n.b8.b6.Code,n.Seq,n.d6,n.a8,n.i4,n.c8.i7)))))))))):Option (l9 (j6×(List l8)×List n6) ((List m8)×(List m4)×(List Bool)×(List Bool)×(List m4)×(List l8)×Int×Int×Int×Int×(List r9)×(List p8)×Int×Int×Bool×(List n8)×Bool×Int×Int×(List r9)×(List p8)×Int×Int×Int×Int×Int×(List m8)×Bool))).bind fun x=>x.go some fun j=>d4M j.1 j.2.1 j.2.2.1 j.2.2.2.1 j.2.2.2.2.1 j.2.2.2.2.2.1 j.2.2.2.2.2.2.1 j.2.2.2.2.2.2.2.1 j.2.2.2.2.2.2.2.2.1 j.2.2.2.2.2.2.2.2.2.1 j.2.2.2.2.2.2.2.2.2.2.1 j.2.2.2.2.2.2.2.2.2.2.2.1 j.2.2.2.2.2.2.2.2.2.2.2.2.1 j.2.2.2.2.2.2.2.2.2.2.2.2.2.1 j.2.2.2.2.2.2.2.2.2.2.2.2.2.2.1 j.2.2.2.2.2.2.2.2.2.2.2.2.2.2.2.1 j.2.2.2.2.2.2.2.2.2.2.2.2.2.2.2.2.1 j.2.2.2.2.2.2.2.2.2.2.2.2.2.2.2.2.2.1 j.2.2.2.2.2.2.2.2.2.2.2.2.2.2.2.2.2.2.1 j.2.2.2.2.2.2.2.2.2.2.2.2.2.2.2.2.2.2.2.1 j.2.2.2.2.2.2.2.2.2.2.2.2.2.2.2.2.2.2.2.2.1 j.2.2.2.2.2.2.2.2.2.2.2.2.2.2.2.2.2.2.2.2.2.1 j.2.2.2.2.2.2.2.2.2.2.2.2.2.2.2.2.2.2.2.2.2.2.1 j.2.2.2.2.2.2.2.2.2.2.2.2.2.2.2.2.2.2.2.2.2.2.2.1 j.2.2.2.2.2.2.2.2.2.2.2.2.2.2.2.2.2.2.2.2.2.2.2.2.1 j.2.2.2.2.2.2.2.2.2.2.2.2.2.2.2.2.2.2.2.2.2.2.2.2.2.1 j.2.2.2.2.2.2.2.2.2.2.2.2.2.2.2.2.2.2.2.2.2.2.2.2.2.2.1 j.2.2.2.2.2.2.2.2.2.2.2.2.2.2.2.2.2.2.2.2.2.2.2.2.2.2.2)
set_option maxRecDepth 20000 in
theorem e0i{n m}:OK b5C [.agg (H5 n),.agg (t7 m)] (b7Q n m):=
 o8 _ fun r h=>n9<|tk 0 C2<|rg<|A4 h (e6l r) fun x1 h hc1=>rg<|j5 1 h (fun h=>rg<|j9 d6e e2d 2 h fun M9 h=>A3 n<|(o9 h hc1 fun hI=>sk [] [2,4,7] [(1,0),(14,0),(14,1),(14,2),(14,3),(14,4),(3,0)] hI)) (fun h=>rg<|j5 1 h (fun h=>rg<|j9 d5J e7S 2 h fun N2 h=>A3 n<|(o9 h hc1 fun hI=>sk [] [2,4,7] [(1,0),(16,0),(16,1),(16,2),(16,3),(16,4),(3,0)] hI)) (fun h=>rg<|j5 1 h (fun h=>rg<|j9 c89 e93 2 h fun M3 h=>A3 n<|(o9 h hc1 fun hI=>sk [] [2,4,7] [(1,0),(18,0),(18,1),(18,2),(18,3),(18,4),(3,0)] hI)) (fun h=>rg<|j5 1 h (fun h=>rg<|j9 d25 e6g 2 h fun b2Y h=>A3 n<|(B8 h hc1 fun h=>A3 b2Y.1<|fE h)) (fun h=>rg<|j5 1 h (fun h=>rg<|j9 d8p f1l 2 h fun b4l h=>A3 n<|(B8 h hc1 fun h=>A3 b4l.1<|fE h)) (fun h=>rg<|j5 1 h (fun h=>rg<|j9 b4f c01 4 h fun l6Promise h=>s8 n.Acc.a7<|n9<|j9 b4k d1C 3 h fun K4 h=>s8 l6Promise.1.a7<|K0 n<|(o9 h hc1 fun hI=>A9 l8<|sk [.frz (.tmp 7) (none)] [2,4,7] [(1,0),(39,0),(39,1),(39,2),(39,3),(39,4),(3,0)] hI)) (fun h=>rg<|j5 1 h (fun h=>rg<|j9 c8P e4R 2 h fun M6 h=>A3 n<|(o9 h hc1 fun hI=>sk [] [2,4,7] [(1,0),(26,0),(26,1),(26,2),(26,3),(26,4),(3,0)] hI)) (fun h=>rg<|j5 1 h (fun h=>rg<|j9 a8b e5D 2 h fun T7 h=>t9 h fun e1 h=>t9 h fun e2 h=>t9 h fun e3 h=>t9 h fun e4 h=>t9 h fun e5 h=>A3 n<|(o9 h hc1 fun hI=>om ((.own 0 0 8 0 n.Acc.a7.length:V)=.own 0 0 8 0 T7.2.Acc.a7.length) (by first|(simp;done)|(simp [e1,e2,e3,e4,e5];done))<|om ((.own 0 1 7 0 n.a6.length:V)=.own 0 1 7 0 T7.2.a6.length) (by first|(simp;done)|(simp [e1,e2,e3,e4,e5];done))<|om ((.own 0 2 1 0 n.c9.length:V)=.own 0 2 1 0 T7.2.c9.length) (by first|(simp;done)|(simp [e1,e2,e3,e4,e5];done))<|om ((.own 0 3 1 0 n.a7.length:V)=.own 0 3 1 0 T7.2.a7.length) (by first|(simp;done)|(simp [e1,e2,e3,e4,e5];done))<|om ((.own 0 4 7 0 n.f0.length:V)=.own 0 4 7 0 T7.2.f0.length) (by first|(simp;done)|(simp [e1,e2,e3,e4,e5];done))<|sk [.is (.cell 1 0 2) (.own 0 0 8 0 T7.2.Acc.a7.length),.is (.cell 1 0 3) (.own 0 1 7 0 T7.2.a6.length),.is (.cell 1 0 7) (.own 0 2 1 0 T7.2.c9.length),.is (.cell 1 0 16) (.own 0 3 1 0 T7.2.a7.length),.is (.cell 1 0 26) (.own 0 4 7 0 T7.2.f0.length)] [2,4,7] [(1,0),(0,0),(0,1),(0,2),(0,3),(0,4),(3,0)] hI)) (fun h=>(o9 h hc1 fun hI=>A9 l8<|sk [.frz (.tmp 7) (none)] [2,4,7] [(1,0),(0,0),(0,1),(0,2),(0,3),(0,4),(3,0)] hI)))))))))
def a1V:FS (m5):=⟨160,Tryz.f160,[.val C3 V8],[none,none],[.val C3 V8,.val [some 5] []],fun r=>.agg (U5 r),fun _=>[none,none],Tryz.func160⟩
def c8q(w:m5):(List n6)->KS:=fun Told1=>⟨a1V.k 3 [false],(bs 2 (.ptr 1 0 0::(bs 1 (.ptr 3 0 0::(bs 23 []))))),[some [C6 54 27 z7 w.a0,m6 82 13 t7 w.d7,m6 85 3 C1 w.d9,.dead],some [.var 28 [.own 0 0 27 0 w.a0.length,.own 0 1 13 0 w.d7.length,.own 0 2 3 0 w.d9.length,.own 2 0 5 0 Told1.length]],some [m6 89 5 z5 Told1],some [.var 28 [.nil,.nil,.nil,.nil]]]⟩
def d1R(w:m5)(Told1:List n6):Option m5:=
 some (m5.mk w.a0 w.d7 w.d9 Told1)
theorem f1T(w)(r):NF a1V r (c8q w) (fun s=>d1R w s):=fun Told1 h=>PK<|rg<|H8 w.a0 w.d7 w.d9 Told1<|fE h
def e2H(w:m5)(list:List n6):((List n6)×Int)->KS:=fun (Told,i)=>⟨a1V.k 2 [],(bs 1 (l7 5 z5 list::(.ptr 1 0 0::(bs 1 (.ptr 2 0 0::(vi i::(bs 22 []))))))),[some [C6 54 27 z7 w.a0,m6 82 13 t7 w.d7,m6 85 3 C1 w.d9,.dead],some [.var 28 [.own 0 0 27 0 w.a0.length,.own 0 1 13 0 w.d7.length,.own 0 2 3 0 w.d9.length,.own 3 0 5 0 Told.length]],some [.var 28 [.nil,.nil,.nil,.nil]],some [m6 89 5 z5 Told]]⟩
def a23(list:List n6)(Told:List n6)(i:Int):Option (j7 m5 ((List n6)×Int) (List n6)):=
 (bif decide (i<(list.length:Int)) then (bif decide ((Told.length:Int)<60) then ((idx list i).bind fun told=>(t5 ((Told.length+1)*40<=140737488355328) (some (j7.nxt (Told++[told],m7 (i+1)))))) else some (j7.brk Told)) else some (j7.brk Told))
theorem f6b(w list):LQ a1V (c8q w) (e2H w list) (fun s=>a23 list s.1 s.2):=fun lc (Told,i) h=>PK<|rg<|j5 4 h (fun h=>j5 9 h (fun h=>rg<|u0 z5 4 h fun told a3M h=>tk 6 []<|t9 h fun e1 h=>F7 7 21 89 5 40 z5 Told told e1<|E7 told<|rg<|(lc.nx h fun hI=>sk [] [1,2,4,5] [(1,0),(2,0),(21,0)] hI)) (fun h=>(lc.bk h fun hI=>sk [] [2,4] [(1,0),(3,0),(2,0)] hI))) (fun h=>(lc.bk h fun hI=>sk [] [2,4] [(1,0),(3,0),(2,0)] hI))
def a36(w:m5)(list:List n6):Option m5:=
 ((o7 (fun s:(List n6)×Int=>a23 list s.1 s.2) (w.Told,0)).bind fun x=>x.go (fun r=>some r) fun s=>d1R w s)
theorem a8B{w list}:OK a1V [.agg (U5 w),l7 5 z5 list] (a36 w list):=
 o8 _ fun r h=>n9<|lp (f6b w list) h (fun _ h=>a1V.rt h) (f1T w r) fun hI=>sk [] [1,2,4,5] [(1,0),(2,0),(0,3)] hI
def b8t:FS (m5):=⟨155,Tryz.f155,[.val C3 V8],[none,none],[.val C3 V8,.val [none,none,some 4] []],fun r=>.agg (U5 r),fun _=>[none,none],Tryz.func155⟩
def b4o(node:j6):List V:=([vi node.Id,vi node.Acc.i0,.own 40 0 8 0 node.Acc.a7.length,.own 40 1 7 0 node.a6.length,vi node.Seq,vi node.d6,vi node.a8,.own 40 2 1 0 node.c9.length]++a64 node++[.own 40 3 1 0 node.a7.length]++a3O node++[.own 40 4 7 0 node.f0.length])
def d6j(a2K:j6×(List l8)×List n6):List V:=(a6p a2K.1)
def b0w(w:m5)(e_:s5):Option m5:=
 (bif decide (e_.A<0) then some w else (bif decide (e_.A>=(w.d7.length:Int)) then some w else ((idx w.d7 e_.A).bind fun msg=>((a9i msg).bind fun G7=>(bif (e_.a9==4) then ((a3f w [G7]).bind fun a3u=>some a3u) else (bif (e_.a9==3) then ((b40 w e_.A).bind fun c1I=>some c1I) else ((b40 w e_.A).bind fun a0f=>((idx a0f.a0 G7.To).bind fun node=>((b7Q node G7).bind fun a2K=>((a3f (m5.mk (a0f.a0.set G7.To.toNat a2K.1) a0f.d7 a0f.d9 a0f.Told) a2K.2.1).bind fun a3y=>((a36 a3y a2K.2.2).bind fun a3t=>some a3t)))))))))))
set_option maxRecDepth 20000 in
theorem c2z{w e_}:OK b8t [.agg (U5 w),.agg (J6 e_)] (b0w w e_):=
 o8 _ fun r h=>n9<|j5 3 h (fun h=>rg<|B3 w<|fE h) (fun h=>j5 10 h (fun h=>rg<|B3 w<|fE h) (fun h=>rg<|B0 h fun msg hmsg h=>C0 hmsg<|I6 t7 5 hmsg<|j9 b49 b50 6 h fun G7 h=>n9<|j5 1 h (fun h=>rg<|tk 2 C2<|j9 a1c a6g 3 h fun a3u h=>B3 w<|E7 G7<|B3 a3u<|fE h) (fun h=>rg<|j5 1 h (fun h=>rg<|j9 c5x c9M 3 h fun c1I h=>B3 w<|B3 c1I<|fE h) (fun h=>rg<|j9 c5x c9M 3 h fun a0f h=>B3 w<|rg<|B0 h fun node hnode h=>C0 hnode<|ob (b1V (enc:=z7) hnode)<|tl (5,{a:=.drow (z7 node)})<|j9 b5C e0i 7 h fun a2K h=>A3 node<|rg<|C0 hnode<|om (s9.deep false 54 27 a0f.a0.length (((a0f.a0.map z7).set (0+G7.To.toNat) (b4o node)).set (0+G7.To.toNat) (d6j a2K))=C6 54 27 z7 (a0f.a0.set G7.To.toNat a2K.1)) (a9k (X1 (a0P rfl)) (by simp))<|om (I8 (((a0f.a0.map z7).set (0+G7.To.toNat) (b4o node)).set (0+G7.To.toNat) (d6j a2K))) (a9t (X1 (a0P rfl)) a6l)<|om (((a0f.a0.map z7).set (0+G7.To.toNat) (b4o node))[0+G7.To.toNat]?=some (b4o node)) (a2c (a1Z hnode))<|A3 a2K.1<|tl (6,{a:=.dsc (b4o node) [none,none,some 8,some 7,none,none,none,some 1,some 8,none,none,none,some 2,some 2,none,none,some 1,none,some 4,none,none,none,some 2,some 2,none,none,some 7] [none,none,some 61,some 52,none,none,none,some 4,none,none,none,none,none,none,none,none,some 4,none,none,none,none,none,none,none,none,none,some 52],e:=some (C6 54 27 z7 (a0f.a0.set G7.To.toNat a2K.1))})<|rg<|j9 a1c a6g 2 h fun a3y h=>om (a0f.a0.length=(a0f.a0.set G7.To.toNat a2K.1).length) (by simp)<|Y2 a0f.d7 a0f.d9 a0f.Told<|j9 a1V a8B 4 h fun a3t h=>B3 a3y<|B3 a3t<|fE h))))
def d0d:FS (Bool):=⟨204,Tryz.f204,[.val [] []],[none],[.val U8 []],fun r=>.b r,fun _=>[none],Tryz.func204⟩
def b70(v_:m8):Option Bool:=
 (bif (v_.a8==0) then (bif (!v_.g9.i7) then (bif (([v_.g9.a5.b9,v_.g9.a5.Seq]:List Int)==[0,0]) then ((a8a v_.g9.b6 (n7.mk [] [] 0 0)).bind fun a1m=>some a1m) else some false) else some false) else ((a1b v_.a8).bind fun Z6=>(bif Z6 then ((a1r v_.g9).bind fun F6=>some F6) else some false)))
theorem f4D{v_}:OK d0d [.agg (q8 v_)] (b70 v_):=
 o8 _ fun r h=>n9<|j5 2 h (fun h=>rg<|j5 4 h (fun h=>j5 11 h (fun h=>j9 a0D b5H 16 h fun a1m h=>fE h) (fun h=>fE h)) (fun h=>fE h)) (fun h=>rg<|j9 a2k a2t 2 h fun Z6 h=>j5 3 h (fun h=>j9 a2o a3g 6 h fun F6 h=>fE h) (fun h=>fE h))
def a2Z:FS (Bool):=⟨173,Tryz.f173,[.val [] []],[none],[.val [some 8] []],fun r=>.b r,fun _=>[none],Tryz.func173⟩
def d5P:Unit->KS:=fun _=>⟨a2Z.k 4 [false,false],(bs 19 []),[some []]⟩
def d0u:Option Bool:=
 some true
theorem f5N(r):NF a2Z r d5P (fun s=>d0u):=fun _ h=>PK<|rg<|fE h
def e1Q(list:List m8):Int->KS:=fun i=>⟨a2Z.k 3 [false],(l7 8 q8 list::(bs 2 (vi i::(bs 15 [])))),[some []]⟩
def b54(list:List m8)(i:Int):Option (j7 Bool Int Unit):=
 (bif decide (i<(list.length:Int)) then ((idx list i).bind fun vote=>((b70 vote).bind fun d5E=>(bif (!d5E) then some (j7.ret false) else some (j7.nxt (m7 (i+1)))))) else some (j7.brk ()))
theorem f8E(list):LQ a2Z d5P (e1Q list) (fun s=>b54 list s):=fun lc i h=>PK<|rg<|j5 3 h (fun h=>rg<|u0 q8 2 h fun vote K8 h=>j9 d0d f4D 4 h fun d5E h=>j5 5 h (fun h=>rg<|fL lc h) (fun h=>rg<|(lc.nx h fun hI=>sk [] [0,3] [] hI))) (fun h=>(lc.bk h fun hI=>sk [] [] [] hI))
def a56(list:List m8):Option Bool:=
 (bif decide ((list.length:Int)>40) then some false else ((o7 (fun s:Int=>b54 list s) 0).bind fun x=>x.go (fun r=>some r) fun s=>d0u))
theorem b4T{list}:OK a2Z [l7 8 q8 list] (a56 list):=
 o8 _ fun r h=>n9<|j5 2 h (fun h=>rg<|fE h) (fun h=>rg<|lp (f8E list) h (fun _ h=>a2Z.rt h) (f5N r) fun hI=>sk [] [0,3] [] hI)
def a9C:FS (Bool):=⟨168,Tryz.f168,[.val [] []],[none],[.val [none,some 8] []],fun r=>.b r,fun _=>[none],Tryz.func168⟩
def c7Z:Unit->KS:=fun _=>⟨a9C.k 4 [false,false],(bs 34 []),[some []]⟩
def c8w:Option Bool:=
 some true
theorem e2C(r):NF a9C r c7Z (fun s=>c8w):=fun _ h=>PK<|rg<|fE h
def e6F(a:z0):Int->KS:=fun i=>⟨a9C.k 3 [false],(bs 1 (.ptr 1 0 0::(bs 1 (vi i::(bs 30 []))))),[some [],some [.var 42 [vi a.i0,l7 8 q8 a.a7]]]⟩
def b6v(a:z0)(i:Int):Option (j7 Bool Int Unit):=
 (bif decide (i<(a.a7.length:Int)) then ((idx a.a7 i).bind fun vote=>(bif decide (vote.a8>a.i0) then some (j7.ret false) else some (j7.nxt (m7 (i+1))))) else some (j7.brk ()))
theorem f2S(a):LQ a9C c7Z (e6F a) (fun s=>b6v a s):=fun lc i h=>PK<|rg<|j5 4 h (fun h=>rg<|u0 q8 3 h fun vote K8 h=>j5 8 h (fun h=>rg<|fL lc h) (fun h=>rg<|(lc.nx h fun hI=>sk [] [1,3] [(1,0)] hI))) (fun h=>(lc.bk h fun hI=>sk [] [] [] hI))
def c0a(a:z0):Option Bool:=
 (bif decide (a.i0<0) then some false else (bif decide (a.i0>3000) then some false else ((a56 a.a7).bind fun a7k=>(bif (!a7k) then some false else ((o7 (fun s:Int=>b6v a s) 0).bind fun x=>x.go (fun r=>some r) fun s=>c8w)))))
theorem e2J{a}:OK a9C [.agg (a0Z a)] (c0a a):=
 o8 _ fun r h=>n9<|j5 3 h (fun h=>rg<|fE h) (fun h=>j5 8 h (fun h=>rg<|fE h) (fun h=>j9 a2Z b4T 11 h fun a7k h=>j5 13 h (fun h=>rg<|fE h) (fun h=>rg<|lp (f2S a) h (fun _ h=>a9C.rt h) (e2C r) fun hI=>sk [] [1,3] [(1,0)] hI)))
def a6X:FS (Bool):=⟨117,Tryz.f117,[.val [] []],[none],[.val [some 7] []],fun r=>.b r,fun _=>[none],Tryz.func117⟩
def c92:Unit->KS:=fun _=>⟨a6X.k 4 [false,false],(bs 19 []),[some []]⟩
def d1W:Option Bool:=
 some true
theorem e7X(r):NF a6X r c92 (fun s=>d1W):=fun _ h=>PK<|rg<|fE h
def e5v(list:List m4):Int->KS:=fun i=>⟨a6X.k 3 [false],(l7 7 s6 list::(bs 2 (vi i::(bs 15 [])))),[some []]⟩
def b5T(list:List m4)(i:Int):Option (j7 Bool Int Unit):=
 (bif decide (i<(list.length:Int)) then ((idx list i).bind fun entry=>((a1r entry).bind fun F6=>(bif (!F6) then some (j7.ret false) else some (j7.nxt (m7 (i+1)))))) else some (j7.brk ()))
theorem d9M(list):LQ a6X c92 (e5v list) (fun s=>b5T list s):=fun lc i h=>PK<|rg<|j5 3 h (fun h=>rg<|u0 s6 2 h fun entry E9 h=>j9 a2o a3g 4 h fun F6 h=>j5 5 h (fun h=>rg<|fL lc h) (fun h=>rg<|(lc.nx h fun hI=>sk [] [0,3] [] hI))) (fun h=>(lc.bk h fun hI=>sk [] [] [] hI))
def b5t(list:List m4):Option Bool:=
 (bif decide ((list.length:Int)>40) then some false else ((o7 (fun s:Int=>b5T list s) 0).bind fun x=>x.go (fun r=>some r) fun s=>d1W))
theorem c8a{list}:OK a6X [l7 7 s6 list] (b5t list):=
 o8 _ fun r h=>n9<|j5 2 h (fun h=>rg<|fE h) (fun h=>rg<|lp (d9M list) h (fun _ h=>a6X.rt h) (e7X r) fun hI=>sk [] [0,3] [] hI)
def a82:FS (Bool):=⟨171,Tryz.f171,[.val [] []],[none],[.val J5 []],fun r=>.b r,fun _=>[none],Tryz.func171⟩
def a5q(e_:m4):Option Bool:=
 (bif (!e_.i7) then (bif (([e_.a5.b9,e_.a5.Seq]:List Int)==[0,0]) then ((a8a e_.b6 (n7.mk [] [] 0 0)).bind fun a1m=>some a1m) else some false) else some false)
theorem b0R{e_}:OK a82 [.agg (s6 e_)] (a5q e_):=
 o8 _ fun r h=>n9<|j5 3 h (fun h=>j5 9 h (fun h=>j9 a0D b5H 13 h fun a1m h=>fE h) (fun h=>fE h)) (fun h=>fE h)
def b8T:FS (Int):=⟨203,Tryz.f203,[.val [] []],[none],[.val [] []],fun r=>vi r,fun _=>[none],Tryz.func203⟩
def b1v(bal:Int):Option Int:=
 ((a1b bal).bind fun Z6=>(bif (!Z6) then some (-1) else some (f9p bal 3)))
theorem c2j{bal}:OK b8T [vi bal] (b1v bal):=
 o8 _ fun r h=>n9<|j9 a2k a2t 1 h fun Z6 h=>j5 2 h (fun h=>rg<|fE h) (fun h=>rg<|om (3≠(0:Int)) (by decide)<|fE h)
def c8h:FS (Bool):=⟨169,Tryz.f169,[.val [] []],[none],[.val A8 []],fun r=>.b r,fun _=>[none],Tryz.func169⟩
def b7H(n:j6):Option Bool:=
 (bif (n.d6==0) then (bif (n.a8==0) then (bif ((n.c9.length:Int)==0) then (bif ((n.i4.length:Int)==0) then ((a5q n.c8).bind fun l7None=>(bif l7None then some ((n.a7.length:Int)==0) else some false)) else some false) else some false) else some false) else (bif (n.d6==1) then ((a1b n.a8).bind fun Z6=>(bif Z6 then (bif decide (n.a8<=n.Acc.i0) then ((b1v n.a8).bind fun a7r=>(bif (a7r==n.Id) then (bif ((n.c9.length:Int)==3) then ((idx n.c9 n.Id).bind fun y=>(bif y then ((a56 n.i4).bind fun a7k=>(bif a7k then ((a5q n.c8).bind fun d74=>(bif d74 then some ((n.a7.length:Int)==0) else some false)) else some false)) else some false)) else some false) else some false)) else some false) else some false)) else (bif (n.d6==2) then ((a1b n.a8).bind fun b2Z=>(bif (!b2Z) then some false else (bif decide (n.a8>n.Acc.i0) then some false else ((b1v n.a8).bind fun d6K=>(bif (d6K != n.Id) then some false else (bif ((n.c9.length:Int) != 0) then some false else ((a56 n.i4).bind fun d0J=>(bif (!d0J) then some false else (bif (n.d6==2) then ((a5q n.c8).bind fun d5m=>(bif d5m then some ((n.a7.length:Int)==0) else some false)) else ((a1r n.c8).bind fun F6=>(bif F6 then (bif ((n.a7.length:Int)==3) then ((idx n.a7 n.Id).bind fun y1=>(bif y1 then some (decide ((n.a6.length:Int)<40)) else some false)) else some false) else some false))))))))))) else (bif (n.d6==3) then ((a1b n.a8).bind fun b2x=>(bif (!b2x) then some false else (bif decide (n.a8>n.Acc.i0) then some false else ((b1v n.a8).bind fun d63=>(bif (d63 != n.Id) then some false else (bif ((n.c9.length:Int) != 0) then some false else ((a56 n.i4).bind fun d2W=>(bif (!d2W) then some false else (bif (n.d6==2) then ((a5q n.c8).bind fun d5t=>(bif d5t then some ((n.a7.length:Int)==0) else some false)) else ((a1r n.c8).bind fun a3l=>(bif a3l then (bif ((n.a7.length:Int)==3) then ((idx n.a7 n.Id).bind fun y2=>(bif y2 then some (decide ((n.a6.length:Int)<40)) else some false)) else some false) else some false))))))))))) else some false))))
set_option maxRecDepth 20000 in
theorem e9j{n}:OK c8h [.agg (x6 n)] (b7H n):=
 o8 _ fun r h=>L8<|j5 1 h (fun h=>rg<|j5 3 h (fun h=>j5 9 h (fun h=>j5 15 h (fun h=>j9 a82 b0R 18 h fun l7None h=>j5 20 h (fun h=>fE h) (fun h=>fE h)) (fun h=>fE h)) (fun h=>fE h)) (fun h=>fE h)) (fun h=>rg<|j5 1 h (fun h=>rg<|j9 a2k a2t 2 h fun Z6 h=>j5 3 h (fun h=>j5 11 h (fun h=>j9 b8T c2j 14 h fun a7r h=>j5 19 h (fun h=>j5 25 h (fun h=>u0 eB 30 h fun y hy h=>j5 33 h (fun h=>j9 a2Z b4T 36 h fun a7k h=>j5 38 h (fun h=>j9 a82 b0R 41 h fun d74 h=>j5 43 h (fun h=>fE h) (fun h=>fE h)) (fun h=>fE h)) (fun h=>fE h)) (fun h=>fE h)) (fun h=>fE h)) (fun h=>fE h)) (fun h=>fE h)) (fun h=>rg<|j5 1 h (fun h=>rg<|j9 a2k a2t 2 h fun b2Z h=>j5 4 h (fun h=>rg<|fE h) (fun h=>j5 12 h (fun h=>rg<|fE h) (fun h=>j9 b8T c2j 15 h fun d6K h=>j5 20 h (fun h=>rg<|fE h) (fun h=>j5 26 h (fun h=>rg<|fE h) (fun h=>j9 a2Z b4T 29 h fun d0J h=>j5 31 h (fun h=>rg<|fE h) (fun h=>rg<|j5 2 h (fun h=>rg<|j9 a82 b0R 2 h fun d5m h=>j5 3 h (fun h=>fE h) (fun h=>fE h)) (fun h=>rg<|j9 a2o a3g 2 h fun F6 h=>j5 3 h (fun h=>j5 9 h (fun h=>u0 eB 14 h fun y1 hy1 h=>j5 17 h (fun h=>fE h) (fun h=>fE h)) (fun h=>fE h)) (fun h=>fE h)))))))) (fun h=>rg<|j5 1 h (fun h=>rg<|j9 a2k a2t 2 h fun b2x h=>j5 4 h (fun h=>rg<|fE h) (fun h=>j5 12 h (fun h=>rg<|fE h) (fun h=>j9 b8T c2j 15 h fun d63 h=>j5 20 h (fun h=>rg<|fE h) (fun h=>j5 26 h (fun h=>rg<|fE h) (fun h=>j9 a2Z b4T 29 h fun d2W h=>j5 31 h (fun h=>rg<|fE h) (fun h=>rg<|j5 2 h (fun h=>rg<|j9 a82 b0R 2 h fun d5t h=>j5 3 h (fun h=>fE h) (fun h=>fE h)) (fun h=>rg<|j9 a2o a3g 2 h fun a3l h=>j5 3 h (fun h=>j5 9 h (fun h=>u0 eB 14 h fun y2 hy2 h=>j5 17 h (fun h=>fE h) (fun h=>fE h)) (fun h=>fE h)) (fun h=>fE h)))))))) (fun h=>rg<|fE h))))
def a35:FS (Bool):=⟨205,Tryz.f205,[.val [] []],[none],[.val [] []],fun r=>.b r,fun _=>[none],Tryz.func205⟩
def a2B(n:Int):Option Bool:=
 (bif decide (n>=0) then some (decide (n<4)) else some false)
theorem a5N{n}:OK a35 [vi n] (a2B n):=
 o8 _ fun r h=>n9<|j5 2 h (fun h=>fE h) (fun h=>fE h)
def d1h:FS (Bool):=⟨174,Tryz.f174,[.val [] []],[none],[.val [] []],fun r=>.b r,fun _=>[none],Tryz.func174⟩
def b9l(i:n8):Option Bool:=
 (bif (i.a9==1) then ((a2B i.A).bind fun c8H=>(bif c8H then ((a7K i.B).bind fun b3f=>(bif b3f then some (i.N==0) else some false)) else some false)) else (bif (i.a9==2) then ((a7K i.A).bind fun b5g=>(bif b5g then ((a2B i.B).bind fun d7O=>(bif d7O then some (i.N==0) else some false)) else some false)) else (bif (i.a9==3) then ((a2B i.A).bind fun d7c=>(bif d7c then (bif (i.B==0) then ((a7j i.N).bind fun a1g=>some a1g) else some false) else some false)) else (bif (i.a9==4) then ((a2B i.A).bind fun d6t=>(bif d6t then ((a2B i.B).bind fun d2h=>(bif d2h then some (i.N==0) else some false)) else some false)) else (bif (i.a9==5) then ((a2B i.A).bind fun d6w=>(bif d6w then ((a2B i.B).bind fun d31=>(bif d31 then some (i.N==0) else some false)) else some false)) else (bif (i.a9==6) then ((a2B i.A).bind fun d1o=>(bif d1o then ((a2B i.B).bind fun d4u=>(bif d4u then (bif decide (i.N>=1) then some (decide (i.N<=10)) else some false) else some false)) else some false)) else (bif (i.a9==7) then (bif (i.A==0) then (bif (i.B==0) then some (i.N==0) else some false) else some false) else some false)))))))
theorem f1f{i}:OK d1h [.agg (A6 i)] (b9l i):=
 o8 _ fun r h=>L8<|j5 1 h (fun h=>rg<|j9 a35 a5N 2 h fun c8H h=>j5 3 h (fun h=>j9 b4p c0W 6 h fun b3f h=>j5 8 h (fun h=>fE h) (fun h=>fE h)) (fun h=>fE h)) (fun h=>rg<|j5 1 h (fun h=>rg<|j9 b4p c0W 2 h fun b5g h=>j5 3 h (fun h=>j9 a35 a5N 6 h fun d7O h=>j5 8 h (fun h=>fE h) (fun h=>fE h)) (fun h=>fE h)) (fun h=>rg<|j5 1 h (fun h=>rg<|j9 a35 a5N 2 h fun d7c h=>j5 3 h (fun h=>j5 8 h (fun h=>j9 a9D a9U 11 h fun a1g h=>fE h) (fun h=>fE h)) (fun h=>fE h)) (fun h=>rg<|j5 1 h (fun h=>rg<|j9 a35 a5N 2 h fun d6t h=>j5 3 h (fun h=>j9 a35 a5N 6 h fun d2h h=>j5 8 h (fun h=>fE h) (fun h=>fE h)) (fun h=>fE h)) (fun h=>rg<|j5 1 h (fun h=>rg<|j9 a35 a5N 2 h fun d6w h=>j5 3 h (fun h=>j9 a35 a5N 6 h fun d31 h=>j5 8 h (fun h=>fE h) (fun h=>fE h)) (fun h=>fE h)) (fun h=>rg<|j5 1 h (fun h=>rg<|j9 a35 a5N 2 h fun d1o h=>j5 3 h (fun h=>j9 a35 a5N 6 h fun d4u h=>j5 8 h (fun h=>j5 13 h (fun h=>fE h) (fun h=>fE h)) (fun h=>fE h)) (fun h=>fE h)) (fun h=>rg<|j5 1 h (fun h=>rg<|j5 3 h (fun h=>j5 8 h (fun h=>fE h) (fun h=>fE h)) (fun h=>fE h)) (fun h=>rg<|fE h)))))))
def a5r:FS (Bool):=⟨113,Tryz.f113,[.val [] []],[none],[.val [some 4] []],fun r=>.b r,fun _=>[none],Tryz.func113⟩
def d64:Unit->KS:=fun _=>⟨a5r.k 4 [false,false],(bs 19 []),[some []]⟩
def c9H:Option Bool:=
 some true
theorem e3R(r):NF a5r r d64 (fun s=>c9H):=fun _ h=>PK<|rg<|fE h
def f8l(list:List n8):Int->KS:=fun i=>⟨a5r.k 3 [false],(l7 4 A6 list::(bs 2 (vi i::(bs 15 [])))),[some []]⟩
def c0Y(list:List n8)(i:Int):Option (j7 Bool Int Unit):=
 (bif decide (i<(list.length:Int)) then ((idx list i).bind fun ins=>((b9l ins).bind fun d8V=>(bif (!d8V) then some (j7.ret false) else some (j7.nxt (m7 (i+1)))))) else some (j7.brk ()))
theorem f4w(list):LQ a5r d64 (f8l list) (fun s=>c0Y list s):=fun lc i h=>PK<|rg<|j5 3 h (fun h=>rg<|u0 A6 2 h fun ins hins h=>j9 d1h f1f 4 h fun d8V h=>j5 5 h (fun h=>rg<|fL lc h) (fun h=>rg<|(lc.nx h fun hI=>sk [] [0,3] [] hI))) (fun h=>(lc.bk h fun hI=>sk [] [] [] hI))
def b0K(list:List n8):Option Bool:=
 (bif decide ((list.length:Int)>10) then some false else ((o7 (fun s:Int=>c0Y list s) 0).bind fun x=>x.go (fun r=>some r) fun s=>c9H))
theorem c1L{list}:OK a5r [l7 4 A6 list] (b0K list):=
 o8 _ fun r h=>n9<|j5 2 h (fun h=>rg<|fE h) (fun h=>rg<|lp (f4w list) h (fun _ h=>a5r.rt h) (e3R r) fun hI=>sk [] [0,3] [] hI)
def d3N:FS (Bool):=⟨170,Tryz.f170,[.val [] []],[none],[.val A8 []],fun r=>.b r,fun _=>[none],Tryz.func170⟩
def b8K(n:j6):Option Bool:=
 (bif (!n.i9) then (bif ((n.i6.length:Int)==0) then ((a5q n.b8).bind fun l7None=>some l7None) else some false) else ((b0K n.i6).bind fun E4=>(bif E4 then ((a1r n.b8).bind fun F6=>(bif F6 then (bif (!n.b8.i7) then some (([n.b8.a5.b9,n.b8.a5.Seq]:List Int)==[n.Id,n.Seq]) else some false) else some false)) else some false)))
theorem e5t{n}:OK d3N [.agg (x6 n)] (b8K n):=
 o8 _ fun r h=>n9<|j5 2 h (fun h=>rg<|j5 4 h (fun h=>j9 a82 b0R 7 h fun l7None h=>fE h) (fun h=>fE h)) (fun h=>rg<|j9 a5r c1L 2 h fun E4 h=>j5 3 h (fun h=>j9 a2o a3g 6 h fun F6 h=>j5 8 h (fun h=>j5 14 h (fun h=>fE h) (fun h=>fE h)) (fun h=>fE h)) (fun h=>fE h))
def a2R:FS (Bool):=⟨110,Tryz.f110,[.val [] []],[none],[.val A8 []],fun r=>.b r,fun _=>[none],Tryz.func110⟩
def d3k:Unit->KS:=fun _=>⟨a2R.k 4 [false,false],(bs 72 []),[some []]⟩
def c3d:Option Bool:=
 some true
theorem f00(r):NF a2R r d3k (fun s=>c3d):=fun _ h=>PK<|rg<|fE h
def e5K(n:j6):Int->KS:=fun i=>⟨a2R.k 3 [false],(bs 1 (.ptr 1 0 0::(bs 1 (vi i::(bs 68 []))))),[some [],some [.var 54 (Y4 n)]]⟩
def b7I(n:j6)(i:Int):Option (j7 Bool Int Unit):=
 (bif decide (i<(n.f0.length:Int)) then ((idx n.f0 i).bind fun entry=>((a1r entry).bind fun F6=>(bif (!F6) then some (j7.ret false) else (bif entry.i7 then some (j7.ret false) else some (j7.nxt (m7 (i+1))))))) else some (j7.brk ()))
theorem e6D(n):LQ a2R d3k (e5K n) (fun s=>b7I n s):=fun lc i h=>PK<|rg<|j5 4 h (fun h=>rg<|u0 s6 3 h fun entry E9 h=>j9 a2o a3g 5 h fun F6 h=>j5 7 h (fun h=>rg<|fL lc h) (fun h=>I1 s6 11 E9<|j5 14 h (fun h=>rg<|fL lc h) (fun h=>rg<|(lc.nx h fun hI=>sk [] [1,3] [(1,0)] hI)))) (fun h=>(lc.bk h fun hI=>sk [] [] [] hI))
def a5p(n:j6):Option Bool:=
 (bif decide (n.Id<0) then some false else (bif decide (n.Id>=3) then some false else ((c0a n.Acc).bind fun O2=>(bif (!O2) then some false else ((b5t n.a6).bind fun b3E=>(bif (!b3E) then some false else (bif decide (n.Seq<0) then some false else (bif decide (n.Seq>1000) then some false else (bif decide ((n.f0.length:Int)>4) then some false else ((b7H n).bind fun c7D=>(bif (!c7D) then some false else ((b8K n).bind fun d3W=>(bif (!d3W) then some false else ((o7 (fun s:Int=>b7I n s) 0).bind fun x=>x.go (fun r=>some r) fun s=>c3d))))))))))))))
theorem b1M{n}:OK a2R [.agg (x6 n)] (a5p n):=
 o8 _ fun r h=>n9<|j5 3 h (fun h=>rg<|fE h) (fun h=>j5 8 h (fun h=>rg<|fE h) (fun h=>j9 a9C e2J 11 h fun O2 h=>j5 14 h (fun h=>rg<|fE h) (fun h=>j9 a6X c8a 17 h fun b3E h=>j5 20 h (fun h=>rg<|fE h) (fun h=>j5 25 h (fun h=>rg<|fE h) (fun h=>j5 30 h (fun h=>rg<|fE h) (fun h=>j5 36 h (fun h=>rg<|fE h) (fun h=>j9 c8h e9j 38 h fun c7D h=>j5 41 h (fun h=>rg<|fE h) (fun h=>j9 d3N e5t 43 h fun d3W h=>j5 45 h (fun h=>rg<|fE h) (fun h=>rg<|lp (e6D n) h (fun _ h=>a2R.rt h) (f00 r) fun hI=>sk [] [1,3] [(1,0)] hI)))))))))
def d0k:FS (z0):=⟨202,Tryz.f202,[.val [none,some 8] [none,some 61]],[none],[.val [none,some 8] []],fun r=>.agg [vi r.i0,v6 61 8 q8 r.a7],fun _=>[none],Tryz.func202⟩
def c1U(a:z0):Option z0:=
 ((a9s a.a7).bind fun Y7=>some (z0.mk a.i0 Y7))
theorem e03{a}:OK d0k [.agg (a0Z a)] (c1U a):=
 o8 _ fun r h=>n9<|j9 a3X b6T 4 h fun Y7 h=>s8 Y7<|fE h
def a5B:FS (List m4):=⟨116,Tryz.f116,[.val [some 7] [some 52]],[none],[.val [some 7] []],fun r=>v6 52 7 s6 r,fun _=>[none],Tryz.func116⟩
def d79:(List m4)->KS:=fun out1=>⟨a5B.k 4 [false],(bs 3 (.own 1 0 7 0 out1.length::(bs 17 []))),[some [],some [m6 52 7 s6 out1]]⟩
def c77(out1:List m4):Option (List m4):=
 some out1
theorem f4v(r):NF a5B r d79 (fun s=>c77 s):=fun out1 h=>PK<|rg<|s8 out1<|fE h
def f1i(list:List m4):((List m4)×Int)->KS:=fun (out,i)=>⟨a5B.k 3 [],(l7 7 s6 list::(bs 2 (.own 1 0 7 0 out.length::(vi i::(bs 16 []))))),[some [],some [m6 52 7 s6 out]]⟩
def b5c(list:List m4)(out:List m4)(i:Int):Option (j7 (List m4) ((List m4)×Int) (List m4)):=
 (bif decide (i<(list.length:Int)) then ((idx list i).bind fun entry=>((X7 entry).bind fun l5Entry=>(t5 ((out.length+1)*88<=140737488355328) (some (j7.nxt (out++[l5Entry],m7 (i+1))))))) else some (j7.brk out))
theorem e6u(list):LQ a5B d79 (f1i list) (fun s=>b5c list s.1 s.2):=fun lc (out,i) h=>PK<|rg<|j5 3 h (fun h=>rg<|u0 s6 3 h fun entry E9 h=>j9 a0y a0O 5 h fun l5Entry h=>tk 6 J5<|t9 h fun e1 h=>F7 7 13 52 7 88 s6 out l5Entry e1<|E7 l5Entry<|rg<|(lc.nx h fun hI=>sk [] [0,3,4] [(13,0)] hI)) (fun h=>(lc.bk h fun hI=>sk [] [3] [(1,0)] hI))
def a94(list:List m4):Option (List m4):=
 ((o7 (fun s:(List m4)×Int=>b5c list s.1 s.2) (([]:List m4),0)).bind fun x=>x.go (fun r=>some r) fun s=>c77 s)
theorem c66{list}:OK a5B [l7 7 s6 list] (a94 list):=
 o8 _ fun r h=>n9<|tk 0 J5<|rg<|lp (e6u list) h (fun _ h=>a5B.rt h) (f4v r) fun hI=>om ((.own 2 0 7 0 0:V)=.own 2 0 7 0 ([]:List m4).length) (by simp)<|sk [.is (.tmp 3) (.own 2 0 7 0 ([]:List m4).length)] [0,3,4] [(2,0)] hI
def b1B:FS (j6):=⟨163,Tryz.f163,[.val A8 H2],[none],[.val A8 []],fun r=>.agg (H5 r),fun _=>[none],Tryz.func163⟩
def a6b(n:j6):Option j6:=
 ((c1U n.Acc).bind fun c6G=>((a94 n.a6).bind fun a8P=>(t5 ((([]:List Bool).length+n.c9.length)*1<=140737488355328) (((a9s n.i4).bind fun Y7=>((X7 n.c8).bind fun l5Entry=>(t5 ((([]:List Bool).length+n.a7.length)*1<=140737488355328) ((t5 ((([]:List n8).length+n.i6.length)*32<=140737488355328) (((X7 n.b8).bind fun b5u=>((a94 n.f0).bind fun c1k=>some (j6.mk n.Id c6G a8P n.Seq n.d6 n.a8 (([]:List Bool)++n.c9) Y7 l5Entry (([]:List Bool)++n.a7) n.i9 (([]:List n8)++n.i6) b5u c1k)))))))))))))
set_option maxRecDepth 20000 in
theorem b15{n}:OK b1B [.agg (x6 n)] (a6b n):=
 o8 _ fun r h=>L8<|j9 d0k e03 2 h fun c6G h=>rg<|j9 a5B c66 2 h fun a8P h=>rg<|tk 0 []<|t9 h fun e1 h=>oa 19 0 1 ([]:List Bool) n.c9<|oz 4 1 eB ([]:List Bool) n.c9<|A9 Bool<|ob e1<|tl (3,{v:=some (.own 19 0 1 0 (([]:List Bool)++n.c9).length),e:=some (m6 4 1 eB (([]:List Bool)++n.c9))})<|rg<|j9 a3X b6T 2 h fun Y7 h=>rg<|j9 a0y a0O 2 h fun l5Entry h=>rg<|tk 0 []<|t9 h fun e2 h=>oa 35 0 1 ([]:List Bool) n.a7<|oz 4 1 eB ([]:List Bool) n.a7<|A9 Bool<|ob e2<|tl (3,{v:=some (.own 35 0 1 0 (([]:List Bool)++n.a7).length),e:=some (m6 4 1 eB (([]:List Bool)++n.a7))})<|rg<|tk 0 []<|t9 h fun e3 h=>oa 41 0 4 ([]:List n8) n.i6<|oz 98 4 A6 ([]:List n8) n.i6<|A9 n8<|ob e3<|tl (3,{v:=some (.own 41 0 4 0 (([]:List n8)++n.i6).length),e:=some (m6 98 4 A6 (([]:List n8)++n.i6))})<|rg<|j9 a0y a0O 2 h fun b5u h=>rg<|j9 a5B c66 2 h fun c1k h=>rg<|H8 c6G.a7 a8P (([]:List Bool)++n.c9) Y7<|Y2 (([]:List Bool)++n.a7) (([]:List n8)++n.i6) c1k<|fE h
def a6H:FS (u5):=⟨73,Tryz.f73,[.val [none,some 2,some 4] [none,some 124,none]],[none],[.val [some 7] []],fun r=>.agg (b2E r),fun _=>[none],Tryz.func73⟩
def d7y:((List m9)×Int×List q9)->KS:=fun (Boxes1,sAt1,sDones1)=>⟨a6H.k 5 [false,false],(bs 2 (.ptr 1 0 0::(.ptr 2 0 0::(bs 32 [])))),[some [],some [.var 77 [vi 0,.nil,.nil]],some [.var 77 [vi sAt1,.own 3 0 2 0 Boxes1.length,l7 4 B9 sDones1]],some [m6 124 2 x7 Boxes1]]⟩
def c9l(Boxes1:List m9)(sAt1:Int)(sDones1:List q9):Option u5:=
 some (u5.mk sAt1 Boxes1 sDones1)
theorem e4z(r):NF a6H r d7y (fun s=>c9l s.1 s.2.1 s.2.2):=fun (Boxes1,sAt1,sDones1) h=>PK<|rg<|s8 Boxes1<|fE h
def f7k(list:List m4):((List m9)×Int×Int×List q9)->KS:=fun (g7,i,sAt,sDones)=>⟨a6H.k 4 [false],(l7 7 s6 list::(bs 1 (.ptr 1 0 0::(.ptr 2 0 0::(vi i::(bs 31 [])))))),[some [],some [.var 77 [vi 0,.nil,.nil]],some [.var 77 [vi sAt,.own 3 0 2 0 g7.length,l7 4 B9 sDones]],some [m6 124 2 x7 g7]]⟩
def b1C(list:List m4)(g7:List m9)(i:Int)(sAt:Int)(sDones:List q9):Option (j7 u5 ((List m9)×Int×Int×List q9) ((List m9)×Int×List q9)):=
 (bif decide (i<(list.length:Int)) then ((idx list i).bind fun entry=>((a1r entry).bind fun F6=>(bif (!F6) then some (j7.ret (u5.mk 0 [] [])) else ((a7W (u5.mk sAt g7 sDones) entry).bind fun l5Apply=>some (j7.nxt (l5Apply.1.g7,m7 (i+1),l5Apply.1.At,l5Apply.1.i8)))))) else some (j7.brk (g7,sAt,sDones)))
theorem e3p(list):LQ a6H d7y (f7k list) (fun s=>b1C list s.1 s.2.1 s.2.2.1 s.2.2.2):=fun lc (g7,i,sAt,sDones) h=>PK<|rg<|j5 3 h (fun h=>rg<|u0 s6 2 h fun entry E9 h=>j9 a2o a3g 4 h fun F6 h=>j5 5 h (fun h=>rg<|fL lc h) (fun h=>rg<|I1 s6 3 E9<|j9 a2Y b7d 5 h fun l5Apply h=>s8 g7<|n9<|(lc.nx h fun hI=>sk [] [0,2,3,4] [(1,0),(2,0),(19,0)] hI))) (fun h=>(lc.bk h fun hI=>sk [] [2,3] [(1,0),(2,0),(3,0)] hI))
def b3G(list:List m4):Option u5:=
 ((a9v).bind fun Q7=>(bif decide ((list.length:Int)>40) then some (u5.mk 0 [] []) else ((o7 (fun s:(List m9)×Int×Int×List q9=>b1C list s.1 s.2.1 s.2.2.1 s.2.2.2) (Q7.g7,0,Q7.At,Q7.i8)).bind fun x=>x.go (fun r=>some r) fun s=>c9l s.1 s.2.1 s.2.2)))
theorem d69{list}:OK a6H [l7 7 s6 list] (b3G list):=
 o8 _ fun r h=>n9<|j9 b3g b80 0 h fun Q7 h=>rg<|j5 2 h (fun h=>rg<|fE h) (fun h=>rg<|lp (e3p list) h (fun _ h=>a6H.rt h) (e4z r) fun hI=>sk [] [0,2,3,4] [(1,0),(3,0),(2,0)] hI)
def d5a:FS (u5):=⟨220,Tryz.f220,[.val [none,some 2,some 4] []],[none],[.val A8 []],fun r=>.agg (a77 r),fun _=>[none],Tryz.func220⟩
def b90(n:j6):Option u5:=
 ((a5p n).bind fun D8=>(bif (!D8) then some (u5.mk 0 [] []) else ((b3G n.a6).bind fun a05=>some a05)))
theorem e4k{n}:OK d5a [.agg (x6 n)] (b90 n):=
 o8 _ fun r h=>n9<|j9 a2R b1M 1 h fun D8 h=>j5 2 h (fun h=>rg<|fE h) (fun h=>rg<|j9 a6H d69 2 h fun a05 h=>s8 a05.g7<|fE h)
def b9C:FS (Int×n7):=⟨223,Tryz.f223,[.val [] [],.val O8 om5],[none,none,none],[.val [some 2] [],.val O8 om5,.val [] []],fun r=>.tup [vi r.1,.agg (a7o r.2)],fun _=>[none,none,none],Tryz.func223⟩
def f3U(list:List m9)(r_:n7)(box:Int):(List r9)->KS:=fun b5=>⟨b9C.k 5 [false,true],(l7 2 x7 list::(bs 1 (vi box::(bs 1 (.ptr 1 0 0::(bs 2 (.ptr 3 0 0::(bs 37 [])))))))),[some [.dead,m6 156 2 w9 r_.b7],some [.var 50 [.own 2 0 2 0 b5.length,.own 0 1 2 0 r_.b7.length,vi r_.d8,vi r_.Code]],some [m6 153 2 w8 b5],some [.var 50 [.nil,.nil,vi 0,vi 0]]]⟩
def c3a(list:List m9)(r_:n7)(box:Int)(b5:List r9):Option (Int×n7):=
 ((idx list box).bind fun P8=>some (P8.d8,(n7.mk b5 r_.b7 r_.d8 r_.Code)))
theorem f7g(list r_ box)(r):NF b9C r (f3U list r_ box) (fun s=>c3a list r_ box s):=fun b5 h=>PK<|rg<|u0 x7 2 h fun P8 a7u h=>C9 b5 r_.b7<|fE h
def c4G(list:List m9)(r_:n7)(box:Int):Option (Int×n7):=
 ((a6W r_.b7 box).bind fun a2n=>(bif decide (a2n>=0) then ((idx r_.b7 a2n).bind fun put=>some (put.d8,r_)) else ((((b2W r_.b5 box).bind fun b4W=>(bif (!b4W) then ((idx list box).bind fun b58=>(t5 ((r_.b5.length+1)*16<=140737488355328) (some (l9.brk (r_.b5++[(r9.mk box b58.j4)]))))) else some (l9.brk r_.b5))):Option (l9 (Int×n7) (List r9))).bind fun x=>x.go some fun j=>c3a list r_ box j)))
theorem f6f{list r_ box}:OK b9C [l7 2 x7 list,.agg (a7o r_),vi box] (c4G list r_ box):=
 o8 _ fun r h=>n9<|R3 a5a c1h 3 2 h fun a2n h=>s8 r_.b7<|rg<|j5 1 h (fun h=>rg<|B0 h fun put hput h=>C0 hput<|I6 w9 5 hput<|olR r_<|fE h) (fun h=>A4 h (f7g list r_ box r) fun x1 h hc1=>rg<|R3 a7p d46 3 2 h fun b4W h=>s8 r_.b5<|j5 4 h (fun h=>rg<|u0 x7 5 h fun b58 f8I h=>tk 9 []<|t9 h fun e1 h=>F7 10 26 153 2 16 w8 r_.b5 (r9.mk box b58.j4) e1<|E7 (r9.mk box b58.j4)<|(o9 h hc1 fun hI=>sk [] [0,2,4,7] [(1,0),(26,0),(3,0)] hI)) (fun h=>(o9 h hc1 fun hI=>sk [] [0,2,4,7] [(1,0),(0,0),(3,0)] hI)))
def d2K:FS (n7):=⟨224,Tryz.f224,[.val O8 om5],[none,none,none],[.val O8 om5,.val [] [],.val [] []],fun r=>.agg (a7o r),fun _=>[none,none,none],Tryz.func224⟩
def c3D(r_:n7)(box:Int)(val:Int):Option n7:=
 ((a6W r_.b7 box).bind fun a2n=>(bif decide (a2n>=0) then ((idx r_.b7 a2n).bind fun put=>some (n7.mk r_.b5 (r_.b7.set a2n.toNat (p8.mk put.i5 val)) r_.d8 r_.Code)) else (t5 ((r_.b7.length+1)*16<=140737488355328) (some (n7.mk r_.b5 (r_.b7++[(p8.mk box val)]) r_.d8 r_.Code)))))
theorem f5n{r_ box val}:OK d2K [.agg (a7o r_),vi box,vi val] (c3D r_ box val):=
 o8 _ fun r h=>n9<|R3 a5a c1h 3 2 h fun a2n h=>s8 r_.b7<|rg<|j5 1 h (fun h=>rg<|B0 h fun put hput h=>C0 hput<|Q6 156 2 w9 6 [] (p8.mk put.i5 val) hput<|rg<|s8 r_.b5<|om (r_.b7.length=(r_.b7.set a2n.toNat (p8.mk put.i5 val)).length) (by simp)<|fE h) (fun h=>rg<|tk 5 []<|t9 h fun e1 h=>F7 6 16 156 2 16 w9 r_.b7 (p8.mk box val) e1<|E7 (p8.mk box val)<|rg<|C9 r_.b5 (r_.b7++[(p8.mk box val)])<|fE h)
def b0k:FS (n7×List Int):=⟨209,Tryz.f209,[.val O8 om5],[none,none,some (2,.row),none],[.val [some 2] [],.val O8 om5,.row,.val [] []],fun r=>.agg (a7o r.1),fun r=>[none,none,some (v6 3 1 eI r.2),none],Tryz.func209⟩
def f2M(i:n8):((List Int)×(List r9)×(List p8)×Int×Int)->KS:=fun (regs1,b5,b7,rVal,rCode)=>⟨b0k.k 6 [true],(bs 2 (.own 0 2 1 0 regs1.length::(bs 2 (.ptr 1 0 0::(bs 1 (.ptr 4 0 0::(.ptr 5 0 0::(bs 90 [])))))))),[some [.dead,.dead,m6 3 1 eI regs1],some [.var 50 [.own 2 0 2 0 b5.length,.own 3 0 2 0 b7.length,vi rVal,vi rCode]],some [m6 153 2 w8 b5],some [m6 156 2 w9 b7],some [.var 98 [vi i.a9,vi i.A,vi i.B,vi i.N]],some [.var 50 [.nil,.nil,vi 0,vi 0]]]⟩
def f3t(regs1:List Int)(b5:List r9)(b7:List p8)(rVal:Int):Int->KS:=fun rCode1=>⟨b0k.k 8 [true,true],(bs 5 (.ptr 1 0 0::(bs 2 (.ptr 4 0 0::(bs 90 []))))),[some [.dead,.dead,m6 3 1 eI regs1],some [.var 50 [.own 2 0 2 0 b5.length,.own 3 0 2 0 b7.length,vi rVal,vi rCode1]],some [m6 153 2 w8 b5],some [m6 156 2 w9 b7],some [.var 50 [.nil,.nil,vi 0,vi 0]]]⟩
def b4F(regs1:List Int)(b5:List r9)(b7:List p8)(rVal:Int)(rCode1:Int):Option (n7×List Int):=
 some ((n7.mk b5 b7 rVal rCode1),regs1)
theorem d93(regs1 b5 b7 rVal)(r):NF b0k r (f3t regs1 b5 b7 rVal) (fun s=>b4F regs1 b5 b7 rVal s):=fun rCode1 h=>PK<|rg<|Y2 b5 b7 regs1<|fE h
def a85(i:n8)(regs1:List Int)(b5:List r9)(b7:List p8)(rVal:Int)(rCode:Int):Option (n7×List Int):=
 (((bif (i.a9 != 2) then ((idx regs1 i.A).bind fun y=>((a7j y).bind fun a1g=>(bif (!a1g) then some (l9.brk 2) else some (l9.brk rCode)))) else some (l9.brk rCode)):Option (l9 (n7×List Int) Int)).bind fun x=>x.go some fun j=>b4F regs1 b5 b7 rVal j)
theorem f1m(i)(r):NF b0k r (f2M i) (fun s=>a85 i s.1 s.2.1 s.2.2.1 s.2.2.2.1 s.2.2.2.2):=fun (regs1,b5,b7,rVal,rCode) h=>PK<|A4 h (d93 regs1 b5 b7 rVal r) fun x1 h hc1=>rg<|j5 3 h (fun h=>B0 h fun y hy h=>C0 hy<|I6 eI 8 hy<|j9 a9D a9U 9 h fun a1g h=>j5 11 h (fun h=>rg<|(o9 h hc1 fun hI=>sk [] [5,8] [(1,0),(2,0),(3,0),(5,0)] hI)) (fun h=>(o9 h hc1 fun hI=>sk [] [5,8] [(1,0),(2,0),(3,0),(5,0)] hI))) (fun h=>(o9 h hc1 fun hI=>sk [] [5,8] [(1,0),(2,0),(3,0),(5,0)] hI))
def b1i(list:List m9)(r_:n7)(regs:List Int)(i:n8):Option (n7×List Int):=
 (((bif (i.a9==1) then ((c4G list r_ i.B).bind fun a4Y=>((idx regs i.A).bind fun y1=>some (l9.brk (regs.set i.A.toNat a4Y.1,a4Y.2.b5,a4Y.2.b7,a4Y.2.d8,a4Y.2.Code)))) else (bif (i.a9==2) then ((idx regs i.B).bind fun y2=>((c3D r_ i.A y2).bind fun b2D=>some (l9.brk (regs,b2D.b5,b2D.b7,b2D.d8,b2D.Code)))) else (bif (i.a9==3) then ((idx regs i.A).bind fun y3=>some (l9.brk (regs.set i.A.toNat i.N,r_.b5,r_.b7,r_.d8,r_.Code))) else (bif (i.a9==4) then ((idx regs i.A).bind fun y4=>((idx regs i.B).bind fun y5=>some (l9.brk (regs.set i.A.toNat (m7 (y4+y5)),r_.b5,r_.b7,r_.d8,r_.Code)))) else (bif (i.a9==5) then ((idx regs i.A).bind fun y6=>((idx regs i.B).bind fun y7=>some (l9.brk (regs.set i.A.toNat (m7 (y6-y7)),r_.b5,r_.b7,r_.d8,r_.Code)))) else (bif (i.a9==7) then some (l9.brk (regs,r_.b5,r_.b7,r_.d8,1)) else some (l9.brk (regs,r_.b5,r_.b7,r_.d8,r_.Code)))))))):Option (l9 (n7×List Int) ((List Int)×(List r9)×(List p8)×Int×Int))).bind fun x=>x.go some fun j=>a85 i j.1 j.2.1 j.2.2.1 j.2.2.2.1 j.2.2.2.2)
set_option maxRecDepth 20000 in
theorem e6v{list r_ regs i}:OK b0k [l7 2 x7 list,.agg (a7o r_),v6 3 1 eI regs,.agg (A6 i)] (b1i list r_ regs i):=
 o8 _ fun r h=>n9<|A4 h (f1m i r) fun x1 h hc1=>rg<|j5 1 h (fun h=>rg<|j9 b9C f6f 4 h fun a4Y h=>olR r_<|rg<|B0 h fun y1 hy1 h=>C0 hy1<|Q6 3 1 eI 5 [] a4Y.1 hy1<|rg<|(o9 h hc1 fun hI=>om ((.own 0 2 1 0 regs.length:V)=.own 0 2 1 0 (regs.set i.A.toNat a4Y.1).length) (by simp)<|sk [.is (.tmp 2) (.own 0 2 1 0 (regs.set i.A.toNat a4Y.1).length)] [2,5,7,8] [(1,0),(12,0),(12,1),(2,0),(3,0)] hI)) (fun h=>rg<|j5 1 h (fun h=>rg<|B0 h fun y2 hy2 h=>C0 hy2<|I6 eI 7 hy2<|j9 d2K f5n 8 h fun b2D h=>olR r_<|(o9 h hc1 fun hI=>sk [] [2,5,7,8] [(1,0),(18,0),(18,1),(2,0),(3,0)] hI)) (fun h=>rg<|j5 1 h (fun h=>rg<|B0 h fun y3 hy3 h=>C0 hy3<|Q6 3 1 eI 6 [] i.N hy3<|(o9 h hc1 fun hI=>om ((.own 0 2 1 0 regs.length:V)=.own 0 2 1 0 (regs.set i.A.toNat i.N).length) (by simp)<|sk [.is (.tmp 2) (.own 0 2 1 0 (regs.set i.A.toNat i.N).length)] [2,5,7,8] [(1,0),(0,0),(0,1),(2,0),(3,0)] hI)) (fun h=>rg<|j5 1 h (fun h=>rg<|B0 h fun y4 hy4 h=>C0 hy4<|I6 eI 7 hy4<|B0 h fun y5 hy5 h=>C0 hy5<|I6 eI 12 hy5<|C0 hy4<|Q6 3 1 eI 15 [] (m7 (y4+y5)) hy4<|(o9 h hc1 fun hI=>om ((.own 0 2 1 0 regs.length:V)=.own 0 2 1 0 (regs.set i.A.toNat (m7 (y4+y5))).length) (by simp)<|sk [.is (.tmp 2) (.own 0 2 1 0 (regs.set i.A.toNat (m7 (y4+y5))).length)] [2,5,7,8] [(1,0),(0,0),(0,1),(2,0),(3,0)] hI)) (fun h=>rg<|j5 1 h (fun h=>rg<|B0 h fun y6 hy6 h=>C0 hy6<|I6 eI 7 hy6<|B0 h fun y7 hy7 h=>C0 hy7<|I6 eI 12 hy7<|C0 hy6<|Q6 3 1 eI 15 [] (m7 (y6-y7)) hy6<|(o9 h hc1 fun hI=>om ((.own 0 2 1 0 regs.length:V)=.own 0 2 1 0 (regs.set i.A.toNat (m7 (y6-y7))).length) (by simp)<|sk [.is (.tmp 2) (.own 0 2 1 0 (regs.set i.A.toNat (m7 (y6-y7))).length)] [2,5,7,8] [(1,0),(0,0),(0,1),(2,0),(3,0)] hI)) (fun h=>rg<|j5 1 h (fun h=>rg<|(o9 h hc1 fun hI=>sk [] [2,5,7,8] [(1,0),(0,0),(0,1),(2,0),(3,0)] hI)) (fun h=>(o9 h hc1 fun hI=>sk [] [2,5,7,8] [(1,0),(0,0),(0,1),(2,0),(3,0)] hI)))))))
def a4v:FS (n7):=⟨181,Tryz.f181,[.val O8 om5],[none,none],[.val [some 2] [],.val [some 4] []],fun r=>.agg (a7o r),fun _=>[none,none],Tryz.func181⟩
def c2G:((List r9)×(List p8)×(List Int)×Int×Int)->KS:=fun (Reads1,Puts1,regs1,rVal1,rCode1)=>⟨a4v.k 6 [false,false],(bs 4 (.ptr 1 0 0::(.ptr 2 0 0::(.own 5 0 1 0 regs1.length::(bs 61 []))))),[some [],some [.var 50 [.nil,.nil,vi 0,vi 0]],some [.var 50 [.own 3 0 2 0 Reads1.length,.own 4 0 2 0 Puts1.length,vi rVal1,vi rCode1]],some [m6 153 2 w8 Reads1],some [m6 156 2 w9 Puts1],some [m6 3 1 eI regs1]]⟩
def a8f(Reads1:List r9)(Puts1:List p8)(regs1:List Int)(rVal1:Int)(rCode1:Int):Option n7:=
 (bif (rCode1 != 0) then some (n7.mk Reads1 [] rVal1 rCode1) else ((idx regs1 0).bind fun y=>some (n7.mk Reads1 Puts1 y rCode1)))
theorem e3b(r):NF a4v r c2G (fun s=>a8f s.1 s.2.1 s.2.2.1 s.2.2.2.1 s.2.2.2.2):=fun (Reads1,Puts1,regs1,rVal1,rCode1) h=>PK<|rg<|j5 2 h (fun h=>n9<|s8 Reads1<|fE h) (fun h=>rg<|B0 h fun y hy h=>C0 hy<|I6 eI 2 hy<|rg<|C9 Reads1 Puts1<|fE h)
def d5o(list:List m9)(prog:List n8):((List Int)×(List r9)×(List p8)×Int×Int×Int)->KS:=fun (regs,b5,b7,k,rVal,rCode)=>⟨a4v.k 5 [false],(l7 2 x7 list::(l7 4 A6 prog::(bs 2 (.ptr 1 0 0::(.ptr 2 0 0::(.own 3 0 1 0 regs.length::(vi k::(bs 60 [])))))))),[some [],some [.var 50 [.nil,.nil,vi 0,vi 0]],some [.var 50 [.own 4 0 2 0 b5.length,.own 5 0 2 0 b7.length,vi rVal,vi rCode]],some [m6 3 1 eI regs],some [m6 153 2 w8 b5],some [m6 156 2 w9 b7]]⟩
def e1K(list:List m9)(prog:List n8)(regs:List Int)(b5:List r9)(b7:List p8)(rVal:Int)(rCode:Int):Int->KS:=fun k1=>⟨a4v.k 10 [false,true,true,true],(l7 2 x7 list::(l7 4 A6 prog::(bs 2 (.ptr 1 0 0::(.ptr 2 0 0::(.own 5 0 1 0 regs.length::(vi k1::(bs 60 [])))))))),[some [],some [.var 50 [.nil,.nil,vi 0,vi 0]],some [.var 50 [.own 3 0 2 0 b5.length,.own 4 0 2 0 b7.length,vi rVal,vi rCode]],some [m6 153 2 w8 b5],some [m6 156 2 w9 b7],some [m6 3 1 eI regs]]⟩
def c6u(regs:List Int)(b5:List r9)(b7:List p8)(rVal:Int)(rCode:Int)(k1:Int):Option (j7 n7 ((List Int)×(List r9)×(List p8)×Int×Int×Int) ((List r9)×(List p8)×(List Int)×Int×Int)):=
 some (j7.nxt (regs,b5,b7,m7 (k1+1),rVal,rCode))
theorem e5V(list prog regs b5 b7 rVal rCode)(lc:D4 a4v c2G (d5o list prog)):NL lc (e1K list prog regs b5 b7 rVal rCode) (fun s=>c6u regs b5 b7 rVal rCode s):=fun k1 h=>PK<|rg<|(lc.nx h fun hI=>sk [] [0,1,4,5,6,7] [(1,0),(2,0),(5,0),(3,0),(4,0)] hI)
def a14(list:List m9)(prog:List n8)(regs:List Int)(b5:List r9)(b7:List p8)(k:Int)(rVal:Int)(rCode:Int):Option (j7 n7 ((List Int)×(List r9)×(List p8)×Int×Int×Int) ((List r9)×(List p8)×(List Int)×Int×Int)):=
 (bif decide (k<(prog.length:Int)) then (bif (rCode==0) then ((idx prog k).bind fun ins=>(bif (ins.a9==6) then ((((idx regs ins.A).bind fun y1=>((idx regs ins.B).bind fun y2=>(bif decide (y1<y2) then some (l9.brk (m7 (k+ins.N))) else some (l9.brk k)))):Option (l9 (j7 n7 ((List Int)×(List r9)×(List p8)×Int×Int×Int) ((List r9)×(List p8)×(List Int)×Int×Int)) Int)).bind fun x=>x.go some fun j=>c6u regs b5 b7 rVal rCode j) else ((b1i list (n7.mk b5 b7 rVal rCode) regs ins).bind fun a4Z=>(t5 (regs.length=a4Z.2.length) (some (j7.nxt (a4Z.2,a4Z.1.b5,a4Z.1.b7,m7 (k+1),a4Z.1.d8,a4Z.1.Code))))))) else some (j7.brk (b5,b7,regs,rVal,rCode))) else some (j7.brk (b5,b7,regs,rVal,rCode)))
theorem e0x(list prog):LQ a4v c2G (d5o list prog) (fun s=>a14 list prog s.1 s.2.1 s.2.2.1 s.2.2.2.1 s.2.2.2.2.1 s.2.2.2.2.2):=fun lc (regs,b5,b7,k,rVal,rCode) h=>PK<|rg<|j5 4 h (fun h=>j5 8 h (fun h=>rg<|u0 A6 2 h fun ins hins h=>rg<|j5 2 h (fun h=>A4 h (e5V list prog regs b5 b7 rVal rCode lc) fun x2 h hc2=>rg<|B0 h fun y1 hy1 h=>C0 hy1<|I6 eI 4 hy1<|B0 h fun y2 hy2 h=>C0 hy2<|I6 eI 9 hy2<|j5 10 h (fun h=>rg<|(o9 h hc2 fun hI=>sk [] [0,1,4,5,6,7] [(1,0),(2,0),(4,0),(5,0),(3,0)] hI)) (fun h=>(o9 h hc2 fun hI=>sk [] [0,1,4,5,6,7] [(1,0),(2,0),(4,0),(5,0),(3,0)] hI))) (fun h=>rg<|j9 b0k e6v 4 h fun a4Z h=>t9 h fun e2 h=>Y2 b5 b7 regs<|rg<|(lc.nx h fun hI=>om ((.own 3 0 1 0 regs.length:V)=.own 3 0 1 0 a4Z.2.length) (by first|(simp;done)|(simp [e2];done))<|sk [.is (.tmp 6) (.own 3 0 1 0 a4Z.2.length)] [0,1,4,5,6,7] [(1,0),(2,0),(3,0),(28,0),(28,1)] hI))) (fun h=>(lc.bk h fun hI=>sk [] [4,5,6] [(1,0),(2,0),(4,0),(5,0),(3,0)] hI))) (fun h=>(lc.bk h fun hI=>sk [] [4,5,6] [(1,0),(2,0),(4,0),(5,0),(3,0)] hI))
def b3y(list:List m9)(prog:List n8):Option n7:=
 ((b1O list).bind fun S4=>(bif (!S4) then some (n7.mk [] [] 0 3) else ((b0K prog).bind fun E4=>(bif (!E4) then some (n7.mk [] [] 0 3) else (t5 (0<=(4:Int)/\(4:Int)*8<=140737488355328) (((o7 (fun s:(List Int)×(List r9)×(List p8)×Int×Int×Int=>a14 list prog s.1 s.2.1 s.2.2.1 s.2.2.2.1 s.2.2.2.2.1 s.2.2.2.2.2) (f8O (4:Int).toNat (0:Int),[],[],0,0,0)).bind fun x=>x.go (fun r=>some r) fun s=>a8f s.1 s.2.1 s.2.2.1 s.2.2.2.1 s.2.2.2.2)))))))
theorem d2m{list prog}:OK a4v [l7 2 x7 list,l7 4 A6 prog] (b3y list prog):=
 o8 _ fun r h=>n9<|j9 a41 c2X 1 h fun S4 h=>j5 3 h (fun h=>rg<|fE h) (fun h=>j9 a5r c1L 5 h fun E4 h=>j5 7 h (fun h=>rg<|fE h) (fun h=>n9<|t9 h fun e1 h=>S8 0 13 3 1 8 eI (0:Int) ti3 (.none) e1 (by decide) (by rfl)<|rg<|lp (e0x list prog) h (fun _ h=>a4v.rt h) (e3b r) fun hI=>sk [.own (.cell 11 0 0) 153 2,.own (.cell 11 0 1) 156 2] [0,1,4,5,6,7] [(1,0),(11,0),(13,0),(16,0),(17,0)] hI))
def d1B:FS (j6×(List l8)×List n6):=⟨195,Tryz.f195,[.val A8 H2,.val [some 13] [],.val [some 5] []],[none,none],[.val A8 H2,.val [some 4] []],fun r=>.tup [.agg (H5 r.1),l7 13 t7 r.2.1,l7 5 z5 r.2.2],fun _=>[none,none],Tryz.func195⟩
def b85(n:j6)(prog:List n8):Option (j6×(List l8)×List n6):=
 ((a5p n).bind fun D8=>(bif (!D8) then some ((j6.mk 0 (z0.mk 0 []) [] 0 0 0 [] [] (m4.mk false (n5.mk 0 0) (n7.mk [] [] 0 0)) [] false [] (m4.mk false (n5.mk 0 0) (n7.mk [] [] 0 0)) []),([]:List l8),([]:List n6)) else ((a6b n).bind fun l8Copy=>((b90 n).bind fun b4q=>((b3y b4q.g7 prog).bind fun B5=>(bif n.i9 then some (l8Copy,([]:List l8),([]:List n6)) else (bif (n.Seq==1000) then some (l8Copy,([]:List l8),([]:List n6)) else (bif (B5.Code==3) then some (l8Copy,([]:List l8),([]:List n6)) else (t5 ((([]:List n8).length+prog.length)*32<=140737488355328) ((bif (l8Copy.d6==2) then ((a6r (j6.mk l8Copy.Id l8Copy.Acc l8Copy.a6 (m7 (l8Copy.Seq+1)) l8Copy.d6 l8Copy.a8 l8Copy.c9 l8Copy.i4 l8Copy.c8 l8Copy.a7 true (([]:List n8)++prog) (m4.mk false (n5.mk l8Copy.Id (m7 (l8Copy.Seq+1))) B5) l8Copy.f0)).bind fun O4=>some (O4.1,O4.2,([]:List n6))) else (bif (l8Copy.d6==0) then ((a3B l8Copy.Id (l8.mk 7 0 0 0 0 (m4.mk false (n5.mk l8Copy.Id (m7 (l8Copy.Seq+1))) B5) [])).bind fun K2=>some ((j6.mk l8Copy.Id l8Copy.Acc l8Copy.a6 (m7 (l8Copy.Seq+1)) l8Copy.d6 l8Copy.a8 l8Copy.c9 l8Copy.i4 l8Copy.c8 l8Copy.a7 true (([]:List n8)++prog) (m4.mk false (n5.mk l8Copy.Id (m7 (l8Copy.Seq+1))) B5) l8Copy.f0),K2,([]:List n6))) else some ((j6.mk l8Copy.Id l8Copy.Acc l8Copy.a6 (m7 (l8Copy.Seq+1)) l8Copy.d6 l8Copy.a8 l8Copy.c9 l8Copy.i4 l8Copy.c8 l8Copy.a7 true (([]:List n8)++prog) (m4.mk false (n5.mk l8Copy.Id (m7 (l8Copy.Seq+1))) B5) l8Copy.f0),([]:List l8),([]:List n6))))))))))))))
set_option maxRecDepth 20000 in
theorem e8n{n prog}:OK d1B [.agg (H5 n),l7 4 A6 prog] (b85 n prog):=
 o8 _ fun r h=>n9<|R3 a2R b1M 1 1 h fun D8 h=>A3 n<|j5 2 h (fun h=>rg<|tk 1 C2<|tk 2 []<|A9 l8<|A9 n6<|fE h) (fun h=>rg<|j9 b1B b15 1 h fun l8Copy h=>A3 n<|rg<|j9 d5a e4k 1 h fun b4q h=>A3 n<|j9 a4v d2m 4 h fun B5 h=>rg<|j5 2 h (fun h=>rg<|tk 1 C2<|tk 2 []<|A3 l8Copy<|A9 l8<|A9 n6<|fE h) (fun h=>j5 7 h (fun h=>rg<|tk 1 C2<|tk 2 []<|A3 l8Copy<|A9 l8<|A9 n6<|fE h) (fun h=>j5 11 h (fun h=>rg<|tk 1 C2<|tk 2 []<|A3 l8Copy<|A9 l8<|A9 n6<|fE h) (fun h=>L8<|tk 0 []<|t9 h fun e1 h=>oa 40 0 4 ([]:List n8) prog<|oz 98 4 A6 ([]:List n8) prog<|A9 n8<|ob e1<|tl (2,{v:=some (.own 40 0 4 0 (([]:List n8)++prog).length),e:=some (m6 98 4 A6 (([]:List n8)++prog))})<|n9<|j5 2 h (fun h=>rg<|j9 a98 b2A 1 h fun O4 h=>s8 l8Copy.Acc.a7<|H8 l8Copy.a6 l8Copy.c9 l8Copy.a7 (([]:List n8)++prog)<|olR B5<|s8 l8Copy.f0<|rg<|tk 2 []<|A3 O4.1<|A9 n6<|fE h) (fun h=>rg<|j5 2 h (fun h=>rg<|j9 a0z a6v 6 h fun K2 h=>olR B5<|tk 7 []<|s8 l8Copy.Acc.a7<|H8 l8Copy.a6 l8Copy.c9 l8Copy.a7 (([]:List n8)++prog)<|olR B5<|C9 l8Copy.f0 K2<|A9 n6<|fE h) (fun h=>rg<|tk 1 C2<|tk 2 []<|s8 l8Copy.Acc.a7<|H8 l8Copy.a6 l8Copy.c9 l8Copy.a7 (([]:List n8)++prog)<|olR B5<|s8 l8Copy.f0<|A9 l8<|A9 n6<|fE h))))))
def d0s:FS (m5):=⟨156,Tryz.f156,[.val C3 V8],[none,none,none],[.val C3 V8,.val [] [],.val [some 4] []],fun r=>.agg (U5 r),fun _=>[none,none,none],Tryz.func156⟩
def a19(node:j6):List V:=([vi node.Id,vi node.Acc.i0,.own 11 0 8 0 node.Acc.a7.length,.own 11 1 7 0 node.a6.length,vi node.Seq,vi node.d6,vi node.a8,.own 11 2 1 0 node.c9.length]++a64 node++[.own 11 3 1 0 node.a7.length]++a3O node++[.own 11 4 7 0 node.f0.length])
def b6Q(J2:j6×(List l8)×List n6):List V:=(a6p J2.1)
def b9m(w:m5)(i:Int)(prog:List n8):Option m5:=
 (bif decide ((w.d9.length:Int)>=60) then some w else ((idx w.a0 i).bind fun node=>((b85 node prog).bind fun J2=>(bif decide (J2.1.Seq>node.Seq) then (t5 ((([]:List n8).length+prog.length)*32<=140737488355328) ((t5 ((w.d9.length+1)*40<=140737488355328) (((a3f (m5.mk (w.a0.set i.toNat J2.1) w.d7 (w.d9++[(x8.mk J2.1.b8.a5 (([]:List n8)++prog))]) w.Told) J2.2.1).bind fun a3u=>((a36 a3u J2.2.2).bind fun a3t=>some a3t)))))) else ((a3f (m5.mk (w.a0.set i.toNat J2.1) w.d7 w.d9 w.Told) J2.2.1).bind fun a3y=>((a36 a3y J2.2.2).bind fun a9l=>some a9l))))))
set_option maxRecDepth 20000 in
theorem e4t{w i prog}:OK d0s [.agg (U5 w),vi i,l7 4 A6 prog] (b9m w i prog):=
 o8 _ fun r h=>n9<|j5 3 h (fun h=>rg<|B3 w<|fE h) (fun h=>rg<|B0 h fun node hnode h=>C0 hnode<|ob (b1V (enc:=z7) hnode)<|tl (4,{a:=.drow (z7 node)})<|j9 d1B e8n 6 h fun J2 h=>A3 node<|rg<|C0 hnode<|om (((w.a0.map z7).set (0+i.toNat) (a19 node))[0+i.toNat]?=some (a19 node)) (a2c (a1Z hnode))<|tl (7,{a:=.prow (a19 node)})<|j5 8 h (fun h=>rg<|tk 5 []<|t9 h fun e1 h=>oa 38 0 4 ([]:List n8) prog<|oz 98 4 A6 ([]:List n8) prog<|A9 n8<|ob e1<|tl (7,{v:=some (.own 38 0 4 0 (([]:List n8)++prog).length),e:=some (m6 98 4 A6 (([]:List n8)++prog))})<|s8 (([]:List n8)++prog)<|tk 9 [none,none,some 4]<|t9 h fun e2 h=>F7 10 41 85 3 40 C1 w.d9 (x8.mk J2.1.b8.a5 (([]:List n8)++prog)) e2<|E7 (x8.mk J2.1.b8.a5 (([]:List n8)++prog))<|rg<|C0 hnode<|om (s9.deep false 54 27 w.a0.length (((w.a0.map z7).set (0+i.toNat) (a19 node)).set (0+i.toNat) (b6Q J2))=C6 54 27 z7 (w.a0.set i.toNat J2.1)) (a9k (X1 (a0P rfl)) (by simp))<|om (I8 (((w.a0.map z7).set (0+i.toNat) (a19 node)).set (0+i.toNat) (b6Q J2))) (a9t (X1 (a0P rfl)) a6l)<|om (((w.a0.map z7).set (0+i.toNat) (a19 node))[0+i.toNat]?=some (a19 node)) (a2c (a1Z hnode))<|A3 J2.1<|tl (5,{a:=.dsc (a19 node) [none,none,some 8,some 7,none,none,none,some 1,some 8,none,none,none,some 2,some 2,none,none,some 1,none,some 4,none,none,none,some 2,some 2,none,none,some 7] [none,none,some 61,some 52,none,none,none,some 4,none,none,none,none,none,none,none,none,some 4,none,none,none,none,none,none,none,none,none,some 52],e:=some (C6 54 27 z7 (w.a0.set i.toNat J2.1))})<|rg<|j9 a1c a6g 2 h fun a3u h=>om (w.a0.length=(w.a0.set i.toNat J2.1).length) (by simp)<|Y2 w.d7 (w.d9++[(x8.mk J2.1.b8.a5 (([]:List n8)++prog))]) w.Told<|j9 a1V a8B 4 h fun a3t h=>B3 a3u<|B3 a3t<|fE h) (fun h=>rg<|C0 hnode<|om (s9.deep false 54 27 w.a0.length (((w.a0.map z7).set (0+i.toNat) (a19 node)).set (0+i.toNat) (b6Q J2))=C6 54 27 z7 (w.a0.set i.toNat J2.1)) (a9k (X1 (a0P rfl)) (by simp))<|om (I8 (((w.a0.map z7).set (0+i.toNat) (a19 node)).set (0+i.toNat) (b6Q J2))) (a9t (X1 (a0P rfl)) a6l)<|om (((w.a0.map z7).set (0+i.toNat) (a19 node))[0+i.toNat]?=some (a19 node)) (a2c (a1Z hnode))<|A3 J2.1<|tl (5,{a:=.dsc (a19 node) [none,none,some 8,some 7,none,none,none,some 1,some 8,none,none,none,some 2,some 2,none,none,some 1,none,some 4,none,none,none,some 2,some 2,none,none,some 7] [none,none,some 61,some 52,none,none,none,some 4,none,none,none,none,none,none,none,none,some 4,none,none,none,none,none,none,none,none,none,some 52],e:=some (C6 54 27 z7 (w.a0.set i.toNat J2.1))})<|rg<|j9 a1c a6g 2 h fun a3y h=>om (w.a0.length=(w.a0.set i.toNat J2.1).length) (by simp)<|Y2 w.d7 w.d9 w.Told<|j9 a1V a8B 4 h fun a9l h=>B3 a3y<|B3 a9l<|fE h))
def a9f:FS (Int):=⟨196,Tryz.f196,[.val [] []],[none,none],[.val [] [],.val [] []],fun r=>vi r,fun _=>[none,none],Tryz.func196⟩
def d6c:Unit->KS:=fun _=>⟨a9f.k 4 [false,false],(bs 37 []),[some []]⟩
def c9y:Option Int:=
 some (-1)
theorem e9l(r):NF a9f r d6c (fun s=>c9y):=fun _ h=>PK<|rg<|fE h
def e78(bal:Int)(who:Int):Int->KS:=fun b=>⟨a9f.k 3 [false],(vi bal::(vi who::(bs 3 (vi b::(bs 31 []))))),[some []]⟩
def a4w(bal:Int)(who:Int)(b:Int):Option (j7 Int Int Unit):=
 (bif decide (b<=(m7 (bal+3))) then (bif decide (b<=3000) then (bif ((f9p b 3)==who) then some (j7.ret b) else some (j7.nxt (m7 (b+1)))) else some (j7.brk ())) else some (j7.brk ()))
theorem e5q(bal who):LQ a9f d6c (e78 bal who) (fun s=>a4w bal who s):=fun lc b h=>PK<|rg<|j5 4 h (fun h=>j5 7 h (fun h=>rg<|om (3≠(0:Int)) (by decide)<|j5 3 h (fun h=>rg<|fL lc h) (fun h=>rg<|(lc.nx h fun hI=>sk [] [0,1,5] [] hI))) (fun h=>(lc.bk h fun hI=>sk [] [] [] hI))) (fun h=>(lc.bk h fun hI=>sk [] [] [] hI))
def b6o(bal:Int)(who:Int):Option Int:=
 (bif decide (bal<0) then some (-1) else (bif decide (bal>3000) then some (-1) else (bif decide (who<0) then some (-1) else (bif decide (who>=3) then some (-1) else ((o7 (fun s:Int=>a4w bal who s) (m7 (bal+1))).bind fun x=>x.go (fun r=>some r) fun s=>c9y)))))
theorem d9b{bal who}:OK a9f [vi bal,vi who] (b6o bal who):=
 o8 _ fun r h=>n9<|j5 2 h (fun h=>rg<|fE h) (fun h=>j5 6 h (fun h=>rg<|fE h) (fun h=>j5 10 h (fun h=>rg<|fE h) (fun h=>j5 13 h (fun h=>rg<|fE h) (fun h=>rg<|lp (e5q bal who) h (fun _ h=>a9f.rt h) (e9l r) fun hI=>sk [] [0,1,5] [] hI))))
def a8o:FS ((List m8)×List m8):=⟨199,Tryz.f199,[.val [some 8] [some 61]],[some (0,.row)],[.row],fun r=>v6 61 8 q8 r.1,fun r=>[some (v6 61 8 q8 r.2)],Tryz.func199⟩
def d16(list:List m8):(List m8)->KS:=fun out1=>⟨a8o.k 4 [false],(bs 3 (.own 1 0 8 0 out1.length::(bs 24 []))),[some [m6 61 8 q8 list],some [m6 61 8 q8 out1]]⟩
def c8S(list:List m8)(out1:List m8):Option ((List m8)×List m8):=
 some (out1,list)
theorem e80(list)(r):NF a8o r (d16 list) (fun s=>c8S list s):=fun out1 h=>PK<|rg<|C9 out1 list<|fE h
def f4L(list:List m8):((List m8)×Int)->KS:=fun (out,i)=>⟨a8o.k 3 [],(.own 0 0 8 0 list.length::(bs 2 (.own 1 0 8 0 out.length::(vi i::(bs 23 []))))),[some [m6 61 8 q8 list],some [m6 61 8 q8 out]]⟩
def b3v(list:List m8)(out:List m8)(i:Int):Option (j7 ((List m8)×List m8) ((List m8)×Int) (List m8)):=
 (bif decide (i<(list.length:Int)) then ((idx list i).bind fun vote=>((X7 vote.g9).bind fun l5Entry=>(t5 ((out.length+1)*96<=140737488355328) (some (j7.nxt (out++[(m8.mk vote.a8 l5Entry)],m7 (i+1))))))) else some (j7.brk out))
theorem e8b(list):LQ a8o (d16 list) (f4L list) (fun s=>b3v list s.1 s.2):=fun lc (out,i) h=>PK<|rg<|j5 3 h (fun h=>rg<|B0 h fun vote K8 h=>C0 K8<|I6 q8 5 K8<|C0 K8<|I6 q8 10 K8<|j9 a0y a0O 11 h fun l5Entry h=>tk 13 U8<|t9 h fun e1 h=>F7 14 20 61 8 96 q8 out (m8.mk vote.a8 l5Entry) e1<|E7 (m8.mk vote.a8 l5Entry)<|rg<|(lc.nx h fun hI=>sk [] [0,3,4] [(20,0)] hI)) (fun h=>(lc.bk h fun hI=>sk [] [3] [(1,0)] hI))
def b9O(list:List m8):Option ((List m8)×List m8):=
 ((o7 (fun s:(List m8)×Int=>b3v list s.1 s.2) (([]:List m8),0)).bind fun x=>x.go (fun r=>some r) fun s=>c8S list s)
theorem e4f{list}:OK a8o [v6 61 8 q8 list] (b9O list):=
 o8 _ fun r h=>n9<|tk 0 U8<|rg<|lp (e8b list) h (fun _ h=>a8o.rt h) (e80 list r) fun hI=>om ((.own 2 0 8 0 0:V)=.own 2 0 8 0 ([]:List m8).length) (by simp)<|sk [.is (.tmp 3) (.own 2 0 8 0 ([]:List m8).length)] [0,3,4] [(2,0)] hI
def c8j:FS (j6×List l8):=⟨157,Tryz.f157,[.val A8 H2,.val [some 13] []],[none],[.val A8 H2],fun r=>.tup [.agg (H5 r.1),l7 13 t7 r.2],fun _=>[none],Tryz.func157⟩
def b5Q(n:j6):Option (j6×List l8):=
 ((a5p n).bind fun D8=>(bif (!D8) then some ((j6.mk 0 (z0.mk 0 []) [] 0 0 0 [] [] (m4.mk false (n5.mk 0 0) (n7.mk [] [] 0 0)) [] false [] (m4.mk false (n5.mk 0 0) (n7.mk [] [] 0 0)) []),([]:List l8)) else ((a6b n).bind fun l8Copy=>((b6o l8Copy.Acc.i0 l8Copy.Id).bind fun a3k=>(bif decide (a3k<0) then some (l8Copy,([]:List l8)) else ((b1Y l8Copy).bind fun N6=>((a9y N6.Acc a3k).bind fun l6Promise=>(t5 (0<=(3:Int)/\(3:Int)*1<=140737488355328) (((idx (f8O (3:Int).toNat false) N6.Id).bind fun y=>((b9O l6Promise.1.a7).bind fun o=>(t5 (l6Promise.1.a7.length=o.2.length) (((a3B N6.Id (l8.mk 1 0 0 a3k (N6.a6.length:Int) (m4.mk false (n5.mk 0 0) (n7.mk [] [] 0 0)) [])).bind fun K2=>some ((j6.mk N6.Id (z0.mk l6Promise.1.i0 o.2) N6.a6 N6.Seq 1 a3k ((f8O (3:Int).toNat false).set N6.Id.toNat true) o.1 N6.c8 N6.a7 N6.i9 N6.i6 N6.b8 N6.f0),K2)))))))))))))))
theorem e9x{n}:OK c8j [.agg (H5 n)] (b5Q n):=
 o8 _ fun r h=>n9<|R3 a2R b1M 1 1 h fun D8 h=>A3 n<|j5 2 h (fun h=>rg<|tk 1 C2<|A9 l8<|fE h) (fun h=>rg<|j9 b1B b15 1 h fun l8Copy h=>A3 n<|rg<|j9 a9f d9b 5 h fun a3k h=>rg<|j5 1 h (fun h=>rg<|tk 1 C2<|A3 l8Copy<|A9 l8<|fE h) (fun h=>rg<|j9 b71 c6V 1 h fun N6 h=>A3 l8Copy<|rg<|j9 b4f c01 3 h fun l6Promise h=>s8 N6.Acc.a7<|L8<|t9 h fun e1 h=>S8 0 37 4 1 1 eB false ti4 (.none) e1 (by decide) (by rfl)<|rg<|B0 h fun y hy h=>C0 hy<|Q6 4 1 eB 5 [] true hy<|rg<|j9 a8o e4f 3 h fun o h=>t9 h fun e2 h=>s8 l6Promise.1.a7<|rg<|j9 a0z a6v 8 h fun K2 h=>om (l6Promise.1.a7.length=o.2.length) (by first|(simp;done)|(simp [e2];done))<|s8 N6.a6<|om ((f8O (3:Int).toNat false).length=((f8O (3:Int).toNat false).set N6.Id.toNat true).length) (by first|(simp;done)|(simp [e2];done))<|H8 o.1 N6.a7 N6.f0 K2<|fE h))
def b9n:FS (j6×(List l8)×List n6):=⟨158,Tryz.f158,[.val A8 H2,.val [some 13] [],.val [some 5] []],[none],[.val A8 H2],fun r=>.tup [.agg (H5 r.1),l7 13 t7 r.2.1,l7 5 z5 r.2.2],fun _=>[none],Tryz.func158⟩
def e0C(n:j6)(l8Copy:j6):(List l8)->KS:=fun out=>⟨b9n.k 7 [false,true],(bs 2 (.ptr 1 0 0::(bs 2 (.ptr 2 0 0::(.own 8 0 13 0 out.length::(bs 72 [])))))),[some [b2U 8 q8 n.Acc.a7,b2U 7 s6 n.a6,b2U 1 eB n.c9,b2U 1 eB n.a7,b2U 7 s6 n.f0],some [.var 54 [vi 0,vi 0,.nil,.nil,vi 0,vi 0,vi 0,.nil,.nil,.b false,vi 0,vi 0,.nil,.nil,vi 0,vi 0,.nil,.b false,.nil,.b false,vi 0,vi 0,.nil,.nil,vi 0,vi 0,.nil]],some [.var 54 (f4d l8Copy)]]++e1q l8Copy++[some [m6 82 13 t7 out]]⟩
def d1S(l8Copy:j6)(out:List l8):Option (j6×(List l8)×List n6):=
 some (l8Copy,out,([]:List n6))
theorem e0D(n l8Copy)(r):NF b9n r (e0C n l8Copy) (fun s=>d1S l8Copy s):=fun out h=>PK<|rg<|tk 2 []<|A3 l8Copy<|s8 out<|A9 n6<|fE h
def b8v(n:j6):Option (j6×(List l8)×List n6):=
 ((a5p n).bind fun D8=>(bif (!D8) then some ((j6.mk 0 (z0.mk 0 []) [] 0 0 0 [] [] (m4.mk false (n5.mk 0 0) (n7.mk [] [] 0 0)) [] false [] (m4.mk false (n5.mk 0 0) (n7.mk [] [] 0 0)) []),([]:List l8),([]:List n6)) else ((a6b n).bind fun l8Copy=>((a3B l8Copy.Id (l8.mk 8 0 0 0 (l8Copy.a6.length:Int) (m4.mk false (n5.mk 0 0) (n7.mk [] [] 0 0)) [])).bind fun K2=>(((bif (l8Copy.d6==1) then ((a3B l8Copy.Id (l8.mk 1 0 0 l8Copy.a8 (l8Copy.a6.length:Int) (m4.mk false (n5.mk 0 0) (n7.mk [] [] 0 0)) [])).bind fun b4C=>(t5 ((K2.length+b4C.length)*152<=140737488355328) (some (l9.brk (K2++b4C))))) else (bif (l8Copy.d6==2) then ((a6r l8Copy).bind fun O4=>(t5 ((K2.length+O4.2.length)*152<=140737488355328) (some (l9.ret (O4.1,K2++O4.2,([]:List n6)))))) else (bif (l8Copy.d6==3) then ((a3B l8Copy.Id (l8.mk 3 0 0 l8Copy.a8 (l8Copy.a6.length:Int) l8Copy.c8 [])).bind fun b4E=>(t5 ((K2.length+b4E.length)*152<=140737488355328) (some (l9.brk (K2++b4E))))) else (bif l8Copy.i9 then ((a3B l8Copy.Id (l8.mk 7 0 0 0 0 l8Copy.b8 [])).bind fun b48=>(t5 ((K2.length+b48.length)*152<=140737488355328) (some (l9.brk (K2++b48))))) else some (l9.brk K2))))):Option (l9 (j6×(List l8)×List n6) (List l8))).bind fun x=>x.go some fun j=>d1S l8Copy j)))))
theorem e6n{n}:OK b9n [.agg (H5 n)] (b8v n):=
 o8 _ fun r h=>n9<|R3 a2R b1M 1 1 h fun D8 h=>A3 n<|j5 2 h (fun h=>rg<|tk 1 C2<|tk 2 []<|A9 l8<|A9 n6<|fE h) (fun h=>rg<|j9 b1B b15 1 h fun l8Copy h=>A3 n<|rg<|j9 a0z a6v 6 h fun K2 h=>rg<|A4 h (e0D n l8Copy r) fun x1 h hc1=>rg<|j5 1 h (fun h=>rg<|j9 a0z a6v 9 h fun b4C h=>t9 h fun e1 h=>apL 10 34 82 13 152 t7 K2 b4C e1<|s8 b4C<|(o9 h hc1 fun hI=>sk [] [2,5,6] [(2,0),(10,0),(9,0),(9,1),(9,2),(9,3),(9,4),(34,0)] hI)) (fun h=>rg<|j5 1 h (fun h=>rg<|j9 a98 b2A 1 h fun O4 h=>A3 l8Copy<|rg<|t9 h fun e2 h=>apL 3 37 82 13 152 t7 K2 O4.2 e2<|tk 4 []<|(B8 h hc1 fun h=>A3 O4.1<|s8 (K2++O4.2)<|A9 n6<|fE h)) (fun h=>rg<|j5 1 h (fun h=>rg<|j9 a0z a6v 11 h fun b4E h=>t9 h fun e3 h=>apL 12 40 82 13 152 t7 K2 b4E e3<|s8 b4E<|(o9 h hc1 fun hI=>sk [] [2,5,6] [(2,0),(10,0),(9,0),(9,1),(9,2),(9,3),(9,4),(40,0)] hI)) (fun h=>rg<|j5 1 h (fun h=>rg<|j9 a0z a6v 6 h fun b48 h=>t9 h fun e4 h=>apL 7 37 82 13 152 t7 K2 b48 e4<|s8 b48<|(o9 h hc1 fun hI=>sk [] [2,5,6] [(2,0),(10,0),(9,0),(9,1),(9,2),(9,3),(9,4),(37,0)] hI)) (fun h=>(o9 h hc1 fun hI=>sk [] [2,5,6] [(2,0),(10,0),(9,0),(9,1),(9,2),(9,3),(9,4),(18,0)] hI))))))
def d6y:FS (j6):=⟨159,Tryz.f159,[.val A8 H2],[none],[.val A8 H2],fun r=>.agg (H5 r),fun _=>[none],Tryz.func159⟩
def b5R(n:j6):Option j6:=
 ((a5p n).bind fun D8=>(bif (!D8) then some (j6.mk 0 (z0.mk 0 []) [] 0 0 0 [] [] (m4.mk false (n5.mk 0 0) (n7.mk [] [] 0 0)) [] false [] (m4.mk false (n5.mk 0 0) (n7.mk [] [] 0 0)) []) else ((a6b n).bind fun l8Copy=>some (j6.mk l8Copy.Id l8Copy.Acc l8Copy.a6 l8Copy.Seq 0 0 [] [] (m4.mk false (n5.mk 0 0) (n7.mk [] [] 0 0)) [] false [] (m4.mk false (n5.mk 0 0) (n7.mk [] [] 0 0)) []))))
theorem e9V{n}:OK d6y [.agg (H5 n)] (b5R n):=
 o8 _ fun r h=>n9<|R3 a2R b1M 1 1 h fun D8 h=>A3 n<|j5 2 h (fun h=>rg<|fE h) (fun h=>rg<|j9 b1B b15 1 h fun l8Copy h=>A3 n<|rg<|C9 l8Copy.Acc.a7 l8Copy.a6<|fE h)
def b14:FS (m5):=⟨103,Tryz.f103,[.val C3 V8],[none,none],[.val C3 V8,.val [none,none,some 4] []],fun r=>.agg (U5 r),fun _=>[none,none],Tryz.func103⟩
def e8s(w:m5)(e_:s5)(node:j6):Unit->KS:=fun _=>⟨b14.k 8 [false,false,true],(bs 2 (.ptr 1 0 0::(.ptr 2 0 0::(.ptr 3 0 0::(bs 76 []))))),[some [C6 54 27 z7 (w.a0.set e_.A.toNat node),m6 82 13 t7 w.d7,m6 85 3 C1 w.d9,m6 89 5 z5 w.Told],some [.var 28 [.own 0 0 27 0 (w.a0.set e_.A.toNat node).length,.own 0 1 13 0 w.d7.length,.own 0 2 3 0 w.d9.length,.own 0 3 5 0 w.Told.length]],some [.var 36 [vi e_.a9,vi e_.A,l7 4 A6 e_.i6]],some [.var 28 [.nil,.nil,.nil,.nil]]]⟩
def c3A(w:m5)(e_:s5)(node:j6):Option m5:=
 ((b9m (m5.mk (w.a0.set e_.A.toNat node) w.d7 w.d9 w.Told) e_.A e_.i6).bind fun c6q=>some c6q)
theorem f6u(w e_ node)(r):NF b14 r (e8s w e_ node) (fun s=>c3A w e_ node):=fun _ h=>PK<|rg<|j9 d0s e4t 5 h fun c6q h=>H8 (w.a0.set e_.A.toNat node) w.d7 w.d9 w.Told<|B3 c6q<|fE h
def N5(node:j6):List V:=([vi node.Id,vi node.Acc.i0,.own 30 0 8 0 node.Acc.a7.length,.own 30 1 7 0 node.a6.length,vi node.Seq,vi node.d6,vi node.a8,.own 30 2 1 0 node.c9.length]++a64 node++[.own 30 3 1 0 node.a7.length]++a3O node++[.own 30 4 7 0 node.f0.length])
def a8s(node:j6):List V:=([vi node.Id,vi node.Acc.i0,v6 61 8 q8 node.Acc.a7,.own 30 1 7 0 node.a6.length,vi node.Seq,vi node.d6,vi node.a8,.own 30 2 1 0 node.c9.length]++a64 node++[.own 30 3 1 0 node.a7.length]++a3O node++[.own 30 4 7 0 node.f0.length])
def b0M(node:j6):List V:=([vi node.Id,vi node.Acc.i0,v6 61 8 q8 node.Acc.a7,v6 52 7 s6 node.a6,vi node.Seq,vi node.d6,vi node.a8,.own 30 2 1 0 node.c9.length]++a64 node++[.own 30 3 1 0 node.a7.length]++a3O node++[.own 30 4 7 0 node.f0.length])
def b2O(node:j6):List V:=([vi node.Id,vi node.Acc.i0,v6 61 8 q8 node.Acc.a7,v6 52 7 s6 node.a6,vi node.Seq,vi node.d6,vi node.a8,v6 4 1 eB node.c9,l7 8 q8 node.i4,.b node.c8.i7,vi node.c8.a5.b9,vi node.c8.a5.Seq,l7 2 w8 node.c8.b6.b5,l7 2 w9 node.c8.b6.b7,vi node.c8.b6.d8,vi node.c8.b6.Code,.own 30 3 1 0 node.a7.length]++a3O node++[.own 30 4 7 0 node.f0.length])
def b7q(node:j6):List V:=[vi node.Id,vi node.Acc.i0,v6 61 8 q8 node.Acc.a7,v6 52 7 s6 node.a6,vi node.Seq,vi node.d6,vi node.a8,v6 4 1 eB node.c9,l7 8 q8 node.i4,.b node.c8.i7,vi node.c8.a5.b9,vi node.c8.a5.Seq,l7 2 w8 node.c8.b6.b5,l7 2 w9 node.c8.b6.b7,vi node.c8.b6.d8,vi node.c8.b6.Code,v6 4 1 eB node.a7,.b node.i9,l7 4 A6 node.i6,.b node.b8.i7,vi node.b8.a5.b9,vi node.b8.a5.Seq,l7 2 w8 node.b8.b6.b5,l7 2 w9 node.b8.b6.b7,vi node.b8.b6.d8,vi node.b8.b6.Code,.own 30 4 7 0 node.f0.length]
def c6o(node:j6):List V:=(a6p node)
def c79(a0X:j6×List l8):List V:=(a6p a0X.1)
def c7Y(a0h:j6×(List l8)×List n6):List V:=(a6p a0h.1)
def d3S(a1G:j6):List V:=(a6p a1G)
def b2l(w:m5)(e_:s5):Option m5:=
 (bif (e_.a9==2) then ((b0w w e_).bind fun c4o=>some c4o) else (bif (e_.a9==3) then ((b0w w e_).bind fun c2p=>some c2p) else (bif (e_.a9==4) then ((b0w w e_).bind fun c7s=>some c7s) else (bif decide (e_.A<0) then some w else (bif decide (e_.A>=3) then some w else ((idx w.a0 e_.A).bind fun node=>(bif (e_.a9==1) then c3A w e_ node else (bif (e_.a9==5) then ((b5Q node).bind fun a0X=>((a3f (m5.mk (w.a0.set e_.A.toNat a0X.1) w.d7 w.d9 w.Told) a0X.2).bind fun a3u=>((a36 a3u ([]:List n6)).bind fun a3t=>some a3t))) else (bif (e_.a9==6) then ((b8v node).bind fun a0h=>((a3f (m5.mk (w.a0.set e_.A.toNat a0h.1) w.d7 w.d9 w.Told) a0h.2.1).bind fun a3y=>((a36 a3y a0h.2.2).bind fun a9l=>some a9l))) else (bif (e_.a9==7) then ((b5R node).bind fun a1G=>((a3f (m5.mk (w.a0.set e_.A.toNat a1G) w.d7 w.d9 w.Told) ([]:List l8)).bind fun c3i=>((a36 c3i ([]:List n6)).bind fun c4Q=>some c4Q))) else ((a3f (m5.mk (w.a0.set e_.A.toNat node) w.d7 w.d9 w.Told) ([]:List l8)).bind fun c34=>((a36 c34 ([]:List n6)).bind fun c4J=>some c4J))))))))))))
set_option maxRecDepth 20000 in
theorem d1Q{w e_}:OK b14 [.agg (U5 w),.agg (J6 e_)] (b2l w e_):=
 o8 _ fun r h=>n9<|j5 3 h (fun h=>rg<|j9 b8t c2z 2 h fun c4o h=>B3 w<|B3 c4o<|fE h) (fun h=>j5 8 h (fun h=>rg<|j9 b8t c2z 2 h fun c2p h=>B3 w<|B3 c2p<|fE h) (fun h=>j5 12 h (fun h=>rg<|j9 b8t c2z 2 h fun c7s h=>B3 w<|B3 c7s<|fE h) (fun h=>rg<|j5 3 h (fun h=>rg<|B3 w<|fE h) (fun h=>j5 7 h (fun h=>rg<|B3 w<|fE h) (fun h=>rg<|B0 h fun node hnode h=>C0 hnode<|ob (b1V (enc:=z7) hnode)<|tl (5,{a:=.drow (z7 node)})<|rg<|tk 0 C2<|rg<|tk 0 []<|n9<|j5 1 h (fun h=>om (((w.a0.map z7).set (0+e_.A.toNat) (N5 node))[0+e_.A.toNat]?=some (N5 node)) (a2c (a1Z hnode))<|s8 node.Acc.a7<|om ((((w.a0.map z7).set (0+e_.A.toNat) (N5 node)).set (0+e_.A.toNat) (a8s node))[0+e_.A.toNat]?=some (a8s node)) (a2c (a4l (a1Z hnode)))<|s8 node.a6<|om (((((w.a0.map z7).set (0+e_.A.toNat) (N5 node)).set (0+e_.A.toNat) (a8s node)).set (0+e_.A.toNat) (b0M node))[0+e_.A.toNat]?=some (b0M node)) (a2c (a4l (a4l (a1Z hnode))))<|s8 node.c9<|om ((((((w.a0.map z7).set (0+e_.A.toNat) (N5 node)).set (0+e_.A.toNat) (a8s node)).set (0+e_.A.toNat) (b0M node)).set (0+e_.A.toNat) (b2O node))[0+e_.A.toNat]?=some (b2O node)) (a2c (a4l (a4l (a4l (a1Z hnode)))))<|s8 node.a7<|om (((((((w.a0.map z7).set (0+e_.A.toNat) (N5 node)).set (0+e_.A.toNat) (a8s node)).set (0+e_.A.toNat) (b0M node)).set (0+e_.A.toNat) (b2O node)).set (0+e_.A.toNat) (b7q node))[0+e_.A.toNat]?=some (b7q node)) (a2c (a4l (a4l (a4l (a4l (a1Z hnode))))))<|s8 node.f0<|om (((((((w.a0.map z7).set (0+e_.A.toNat) (N5 node)).set (0+e_.A.toNat) (a8s node)).set (0+e_.A.toNat) (b0M node)).set (0+e_.A.toNat) (b2O node)).set (0+e_.A.toNat) (b7q node)).set (0+e_.A.toNat) (c6o node)=(w.a0.set e_.A.toNat node).map z7) (X1 (X1 (X1 (X1 (X1 (a0P rfl))))))<|om (I8 ((w.a0.set e_.A.toNat node).map z7)) (I8.map a6l _)<|om (w.a0.length=(w.a0.set e_.A.toNat node).length) (by simp)<|om ((.own 0 0 27 0 w.a0.length:V)=.own 0 0 27 0 (w.a0.set e_.A.toNat node).length) (by simp)<|sk [.plug 0 0 (0+e_.A.toNat) 2 (N5 node) 61,.plug 0 0 (0+e_.A.toNat) 3 (a8s node) 52,.plug 0 0 (0+e_.A.toNat) 7 (b0M node) 4,.plug 0 0 (0+e_.A.toNat) 16 (b2O node) 4,.plug 0 0 (0+e_.A.toNat) 26 (b7q node) 52,.shut 0 0 (w.a0.set e_.A.toNat node).length ((w.a0.set e_.A.toNat node).map z7),.is (.cell 1 0 0) (.own 0 0 27 0 (w.a0.set e_.A.toNat node).length)] [2,3,4] [(1,0),(2,0),(3,0)] (f6u w e_ node r () h)) (fun h=>rg<|j5 1 h (fun h=>rg<|j9 c8j e9x 1 h fun a0X h=>A3 node<|rg<|C0 hnode<|om (s9.deep false 54 27 w.a0.length (((w.a0.map z7).set (0+e_.A.toNat) (N5 node)).set (0+e_.A.toNat) (c79 a0X))=C6 54 27 z7 (w.a0.set e_.A.toNat a0X.1)) (a9k (X1 (a0P rfl)) (by simp))<|om (I8 (((w.a0.map z7).set (0+e_.A.toNat) (N5 node)).set (0+e_.A.toNat) (c79 a0X))) (a9t (X1 (a0P rfl)) a6l)<|om (((w.a0.map z7).set (0+e_.A.toNat) (N5 node))[0+e_.A.toNat]?=some (N5 node)) (a2c (a1Z hnode))<|A3 a0X.1<|tl (6,{a:=.dsc (N5 node) [none,none,some 8,some 7,none,none,none,some 1,some 8,none,none,none,some 2,some 2,none,none,some 1,none,some 4,none,none,none,some 2,some 2,none,none,some 7] [none,none,some 61,some 52,none,none,none,some 4,none,none,none,none,none,none,none,none,some 4,none,none,none,none,none,none,none,none,none,some 52],e:=some (C6 54 27 z7 (w.a0.set e_.A.toNat a0X.1))})<|rg<|j9 a1c a6g 2 h fun a3u h=>om (w.a0.length=(w.a0.set e_.A.toNat a0X.1).length) (by simp)<|Y2 w.d7 w.d9 w.Told<|j9 a1V a8B 4 h fun a3t h=>B3 a3u<|A9 n6<|B3 a3t<|fE h) (fun h=>rg<|j5 1 h (fun h=>rg<|j9 b9n e6n 1 h fun a0h h=>A3 node<|rg<|C0 hnode<|om (s9.deep false 54 27 w.a0.length (((w.a0.map z7).set (0+e_.A.toNat) (N5 node)).set (0+e_.A.toNat) (c7Y a0h))=C6 54 27 z7 (w.a0.set e_.A.toNat a0h.1)) (a9k (X1 (a0P rfl)) (by simp))<|om (I8 (((w.a0.map z7).set (0+e_.A.toNat) (N5 node)).set (0+e_.A.toNat) (c7Y a0h))) (a9t (X1 (a0P rfl)) a6l)<|om (((w.a0.map z7).set (0+e_.A.toNat) (N5 node))[0+e_.A.toNat]?=some (N5 node)) (a2c (a1Z hnode))<|A3 a0h.1<|tl (6,{a:=.dsc (N5 node) [none,none,some 8,some 7,none,none,none,some 1,some 8,none,none,none,some 2,some 2,none,none,some 1,none,some 4,none,none,none,some 2,some 2,none,none,some 7] [none,none,some 61,some 52,none,none,none,some 4,none,none,none,none,none,none,none,none,some 4,none,none,none,none,none,none,none,none,none,some 52],e:=some (C6 54 27 z7 (w.a0.set e_.A.toNat a0h.1))})<|rg<|j9 a1c a6g 2 h fun a3y h=>om (w.a0.length=(w.a0.set e_.A.toNat a0h.1).length) (by simp)<|Y2 w.d7 w.d9 w.Told<|j9 a1V a8B 4 h fun a9l h=>B3 a3y<|B3 a9l<|fE h) (fun h=>rg<|j5 1 h (fun h=>rg<|j9 d6y e9V 1 h fun a1G h=>A3 node<|rg<|C0 hnode<|om (s9.deep false 54 27 w.a0.length (((w.a0.map z7).set (0+e_.A.toNat) (N5 node)).set (0+e_.A.toNat) (d3S a1G))=C6 54 27 z7 (w.a0.set e_.A.toNat a1G)) (a9k (X1 (a0P rfl)) (by simp))<|om (I8 (((w.a0.map z7).set (0+e_.A.toNat) (N5 node)).set (0+e_.A.toNat) (d3S a1G))) (a9t (X1 (a0P rfl)) a6l)<|om (((w.a0.map z7).set (0+e_.A.toNat) (N5 node))[0+e_.A.toNat]?=some (N5 node)) (a2c (a1Z hnode))<|A3 a1G<|tl (6,{a:=.dsc (N5 node) [none,none,some 8,some 7,none,none,none,some 1,some 8,none,none,none,some 2,some 2,none,none,some 1,none,some 4,none,none,none,some 2,some 2,none,none,some 7] [none,none,some 61,some 52,none,none,none,some 4,none,none,none,none,none,none,none,none,some 4,none,none,none,none,none,none,none,none,none,some 52],e:=some (C6 54 27 z7 (w.a0.set e_.A.toNat a1G))})<|rg<|j9 a1c a6g 2 h fun c3i h=>om (w.a0.length=(w.a0.set e_.A.toNat a1G).length) (by simp)<|Y2 w.d7 w.d9 w.Told<|A9 l8<|j9 a1V a8B 4 h fun c4Q h=>B3 c3i<|A9 n6<|B3 c4Q<|fE h) (fun h=>rg<|C0 hnode<|om (s9.deep false 54 27 w.a0.length (((w.a0.map z7).set (0+e_.A.toNat) (N5 node)).set (0+e_.A.toNat) (c6o node))=C6 54 27 z7 (w.a0.set e_.A.toNat node)) (a9k (X1 (a0P rfl)) (by simp))<|om (I8 (((w.a0.map z7).set (0+e_.A.toNat) (N5 node)).set (0+e_.A.toNat) (c6o node))) (a9t (X1 (a0P rfl)) a6l)<|om (((w.a0.map z7).set (0+e_.A.toNat) (N5 node))[0+e_.A.toNat]?=some (N5 node)) (a2c (a1Z hnode))<|A3 node<|tl (6,{a:=.dsc (N5 node) [none,none,some 8,some 7,none,none,none,some 1,some 8,none,none,none,some 2,some 2,none,none,some 1,none,some 4,none,none,none,some 2,some 2,none,none,some 7] [none,none,some 61,some 52,none,none,none,some 4,none,none,none,none,none,none,none,none,some 4,none,none,none,none,none,none,none,none,none,some 52],e:=some (C6 54 27 z7 (w.a0.set e_.A.toNat node))})<|rg<|j9 a1c a6g 2 h fun c34 h=>om (w.a0.length=(w.a0.set e_.A.toNat node).length) (by simp)<|Y2 w.d7 w.d9 w.Told<|A9 l8<|j9 a1V a8B 4 h fun c4J h=>B3 c34<|A9 n6<|B3 c4J<|fE h)))))))))
def a2E:FS (m5×List s5):=⟨53,Tryz.f53,[.val C3 V8,.val [some 3] [some 36]],[none,none,none],[.val C3 V8,.val [some 3] [some 36],.val [none,none,some 4] []],fun r=>.tup [.agg (U5 r.1),v6 36 3 J6 r.2],fun _=>[none,none,none],Tryz.func53⟩
def a1i(w:m5)(out:List s5)(e_:s5):Option (m5×List s5):=
 ((b2l w e_).bind fun a4S=>(t5 ((out.length+1)*40<=140737488355328) (some (a4S,out++[e_]))))
theorem a2U{w out e_}:OK a2E [.agg (U5 w),v6 36 3 J6 out,.agg (J6 e_)] (a1i w out e_):=
 o8 _ fun r h=>n9<|j9 b14 d1Q 2 h fun a4S h=>B3 w<|tk 5 [none,none,some 4]<|t9 h fun e1 h=>F7 6 11 36 3 40 J6 out e_ e1<|E7 e_<|B3 a4S<|s8 (out++[e_])<|fE h
def b1Q:FS (Int×t8):=⟨57,Tryz.f57,[.val [] []],[some (0,.ptr [some 1,none] []),none],[.ptr [some 1,none] [],.val [some 1] []],fun r=>vi r.1,fun r=>[some (.optr 107 (a0g r.2)),none],Tryz.func57⟩
def a7s(r_:t8)(list:List Int):Option (Int×t8):=
 ((G2 r_ (list.length:Int)).bind fun pick=>((idx list pick.1).bind fun y=>some (y,pick.2)))
theorem b2s{r_ list}:OK b1Q [.optr 107 (a0g r_),l7 1 eI list] (a7s r_ list):=
 o8 _ fun r h=>n9<|j9 G6 H1 4 h fun pick h=>u0 eI 5 h fun y hy h=>fE h
def d04:FS (Int):=⟨162,Tryz.f162,[.val [] []],[none,none],[.val [] [],.val [] []],fun r=>vi r,fun _=>[none,none],Tryz.func162⟩
def b8N(a:Int)(b:Int):Option Int:=
 (bif decide (a>b) then some a else some b)
theorem e95{a b}:OK d04 [vi a,vi b] (b8N a b):=
 o8 _ fun r h=>n9<|j5 2 h (fun h=>rg<|fE h) (fun h=>rg<|fE h)
def b9Y:FS (n8×t8):=⟨107,Tryz.f107,[.val [] []],[some (0,.ptr [some 1,none] [])],[.ptr [some 1,none] []],fun r=>.agg (A6 r.1),fun r=>[some (.optr 107 (a0g r.2))],Tryz.func107⟩
def e1S:(t8×n8)->KS:=fun (w,i)=>⟨b9Y.k 6 [true],(bs 2 (.ptr 1 0 0::(.ptr 2 0 0::(bs 36 [])))),[some [.var 107 [l7 1 J8 w.b,vi w.p]],some [.var 98 [vi 0,vi 0,vi 0,vi 0]],some [.var 98 [vi i.a9,vi i.A,vi i.B,vi i.N]]]⟩
def d8t(w:t8)(i:n8):Option (n8×t8):=
 some (i,w)
theorem e3A(r):NF b9Y r e1S (fun s=>d8t s.1 s.2):=fun (w,i) h=>PK<|rg<|fE h
def b7m(r_:t8):Option (n8×t8):=
 ((a7s r_ [1,1,2,2,3,4,4,5,6,7]).bind fun num=>((G2 num.2 3).bind fun pick=>((G2 pick.2 3).bind fun F8=>(((bif (num.1==3) then ((a7s F8.2 [0,1,5,(-2),100,1000000]).bind fun a8I=>some (l9.brk (a8I.2,(n8.mk num.1 pick.1 0 a8I.1)))) else (bif (num.1==6) then ((G2 F8.2 3).bind fun a0o=>some (l9.brk (a0o.2,(n8.mk num.1 pick.1 F8.1 (m7 (1+a0o.1)))))) else (bif (num.1==7) then ((G2 F8.2 3).bind fun a0b=>(bif decide (a0b.1>0) then ((G2 a0b.2 4).bind fun Y3=>((G2 Y3.2 4).bind fun a3p=>some (l9.ret ((n8.mk 4 Y3.1 a3p.1 0),a3p.2)))) else some (l9.brk (a0b.2,(n8.mk num.1 0 0 0))))) else some (l9.brk (F8.2,(n8.mk num.1 pick.1 F8.1 0)))))):Option (l9 (n8×t8) (t8×n8))).bind fun x=>x.go some fun j=>d8t j.1 j.2))))
theorem f4y{r_}:OK b9Y [.optr 107 (a0g r_)] (b7m r_):=
 o8 _ fun r h=>n9<|tk 1 []<|j9 b1Q b2s 2 h fun num h=>om (10=[1,1,2,2,3,4,4,5,6,7].length) (by simp)<|j9 G6 H1 4 h fun pick h=>j9 G6 H1 6 h fun F8 h=>rg<|A4 h (e3A r) fun x1 h hc1=>rg<|j5 1 h (fun h=>n9<|tk 1 []<|j9 b1Q b2s 2 h fun a8I h=>om (6=[0,1,5,(-2),100,1000000].length) (by simp)<|(o9 h hc1 fun hI=>sk [] [2,3] [(1,0),(10,0)] hI)) (fun h=>rg<|j5 1 h (fun h=>rg<|j9 G6 H1 1 h fun a0o h=>(o9 h hc1 fun hI=>sk [] [2,3] [(1,0),(10,0)] hI)) (fun h=>rg<|j5 1 h (fun h=>rg<|j9 G6 H1 1 h fun a0b h=>j5 2 h (fun h=>rg<|j9 G6 H1 1 h fun Y3 h=>j9 G6 H1 3 h fun a3p h=>(B8 h hc1 fun h=>fE h)) (fun h=>n9<|(o9 h hc1 fun hI=>sk [] [2,3] [(1,0),(10,0)] hI))) (fun h=>(o9 h hc1 fun hI=>sk [] [2,3] [(1,0),(10,0)] hI))))
def a3v:FS ((List n8)×t8):=⟨59,Tryz.f59,[.val [some 4] [some 98]],[some (0,.ptr [some 1,none] [])],[.ptr [some 1,none] []],fun r=>v6 98 4 A6 r.1,fun r=>[some (.optr 107 (a0g r.2))],Tryz.func59⟩
def d0L:(t8×List n8)->KS:=fun (w,out1)=>⟨a3v.k 5 [false,false],(bs 5 (.own 1 0 4 0 out1.length::(bs 31 []))),[some [.var 107 [l7 1 J8 w.b,vi w.p]],some [m6 98 4 A6 out1]]⟩
def d7a(w:t8)(out1:List n8):Option ((List n8)×t8):=
 some (out1,w)
theorem e30(r):NF a3v r d0L (fun s=>d7a s.1 s.2):=fun (w,out1) h=>PK<|rg<|s8 out1<|fE h
def f2H:(t8×(List n8)×Int)->KS:=fun (r_1,out,i)=>⟨a3v.k 4 [false],(.ptr 0 0 0::(bs 4 (.own 1 0 4 0 out.length::(vi i::(bs 30 []))))),[some [.var 107 [l7 1 J8 r_1.b,vi r_1.p]],some [m6 98 4 A6 out]]⟩
def b7r(r_1:t8)(out:List n8)(i:Int):Option (j7 ((List n8)×t8) (t8×(List n8)×Int) (t8×List n8)):=
 (bif decide (i>0) then ((b7m r_1).bind fun b3h=>(t5 ((out.length+1)*32<=140737488355328) (some (j7.nxt (b3h.2,out++[b3h.1],m7 (i-1)))))) else some (j7.brk (r_1,out)))
theorem d83:LQ a3v d0L f2H (fun s=>b7r s.1 s.2.1 s.2.2):=fun lc (r_1,out,i) h=>PK<|rg<|j5 1 h (fun h=>rg<|j9 b9Y f4y 2 h fun b3h h=>tk 3 []<|t9 h fun e1 h=>F7 4 8 98 4 32 A6 out b3h.1 e1<|E7 b3h.1<|rg<|(lc.nx h fun hI=>sk [] [0,5,6] [(8,0)] hI)) (fun h=>(lc.bk h fun hI=>sk [] [5] [(1,0)] hI))
def a4N(r_:t8):Option ((List n8)×t8):=
 ((G2 r_ 3).bind fun pick=>(bif (pick.1==0) then ((G2 pick.2 3).bind fun F8=>((G2 F8.2 3).bind fun a0o=>((G2 a0o.2 3).bind fun a0b=>some ([(n8.mk 1 0 F8.1 0),(n8.mk 3 1 0 (m7 (1+a0b.1))),(n8.mk 4 0 1 0),(n8.mk 2 a0o.1 0 0)],a0b.2)))) else ((G2 pick.2 8).bind fun Y3=>((o7 (fun s:t8×(List n8)×Int=>b7r s.1 s.2.1 s.2.2) (Y3.2,([]:List n8),Y3.1)).bind fun x=>x.go (fun r=>some r) fun s=>d7a s.1 s.2))))
theorem b4J{r_}:OK a3v [.optr 107 (a0g r_)] (a4N r_):=
 o8 _ fun r h=>n9<|j9 G6 H1 1 h fun pick h=>j5 2 h (fun h=>rg<|j9 G6 H1 1 h fun F8 h=>rg<|j9 G6 H1 1 h fun a0o h=>rg<|j9 G6 H1 3 h fun a0b h=>tk 9 []<|om (4=[(n8.mk 1 0 F8.1 0),(n8.mk 3 1 0 (m7 (1+a0b.1))),(n8.mk 4 0 1 0),(n8.mk 2 a0o.1 0 0)].length) (by simp)<|fE h) (fun h=>rg<|tk 0 []<|rg<|j9 G6 H1 1 h fun Y3 h=>lp (d83) h (fun _ h=>a3v.rt h) (e30 r) fun hI=>om ((.own 5 0 4 0 0:V)=.own 5 0 4 0 ([]:List n8).length) (by simp)<|sk [.is (.tmp 5) (.own 5 0 4 0 ([]:List n8).length)] [0,5,6] [(5,0)] hI)
def c0s:FS (s5×t8×m5):=⟨105,Tryz.f105,[.val [none,none,some 4] [none,none,some 98]],[some (0,.ptr [some 1,none] []),some (1,.val C3 V8)],[.ptr [some 1,none] [],.val C3 V8],fun r=>.agg [vi r.1.a9,vi r.1.A,v6 98 4 A6 r.1.i6],fun r=>[some (.optr 107 (a0g r.2.1)),some (.agg (U5 r.2.2))],Tryz.func105⟩
def e2X(w:m5)(pick:Int×t8):(t8×Int)->KS:=fun (w1,eKind)=>⟨c0s.k 12 [false,false,false,false,false,false,false,true,false],(bs 4 (.ptr 1 0 0::(.ptr 2 0 0::(bs 57 [])))),[some [.var 107 [l7 1 J8 w1.b,vi w1.p],C6 54 27 z7 w.a0,m6 82 13 t7 w.d7,m6 85 3 C1 w.d9,m6 89 5 z5 w.Told],some [.var 36 [vi 0,vi 0,.nil]],some [.var 36 [vi eKind,vi pick.1,.nil]]]⟩
def d3a(w:m5)(pick:Int×t8)(w1:t8)(eKind:Int):Option (s5×t8×m5):=
 some ((s5.mk eKind pick.1 []),w1,w)
theorem e8I(w pick)(r):NF c0s r (e2X w pick) (fun s=>d3a w pick s.1 s.2):=fun (w1,eKind) h=>PK<|rg<|B3 w<|fE h
def b6m(r_:t8)(w:m5):Option (s5×t8×m5):=
 ((b8N 1 (w.d7.length:Int)).bind fun d2z=>((G2 r_ d2z).bind fun pick=>((G2 pick.2 24).bind fun F8=>(bif (F8.1==0) then ((G2 F8.2 3).bind fun a0o=>((a4N a0o.2).bind fun a5L=>some ((s5.mk 1 a0o.1 a5L.1),a5L.2,w))) else (bif (F8.1==1) then ((G2 F8.2 3).bind fun a0b=>((a4N a0b.2).bind fun b8Y=>some ((s5.mk 1 a0b.1 b8Y.1),b8Y.2,w))) else (bif (F8.1==2) then ((G2 F8.2 3).bind fun Y3=>((a4N Y3.2).bind fun c0C=>some ((s5.mk 1 Y3.1 c0C.1),c0C.2,w))) else (((bif (F8.1==3) then ((G2 F8.2 3).bind fun a3p=>((a4N a3p.2).bind fun b7o=>some (l9.ret ((s5.mk 1 a3p.1 b7o.1),b7o.2,w)))) else (bif (F8.1==4) then ((G2 F8.2 3).bind fun a8u=>some (l9.ret ((s5.mk 5 a8u.1 []),a8u.2,w))) else (bif (F8.1==5) then ((G2 F8.2 3).bind fun a8x=>some (l9.ret ((s5.mk 6 a8x.1 []),a8x.2,w))) else (bif (F8.1==6) then ((G2 F8.2 3).bind fun a5A=>some (l9.ret ((s5.mk 6 a5A.1 []),a5A.2,w))) else (bif (F8.1==7) then ((G2 F8.2 2).bind fun a4T=>(bif (a4T.1==0) then ((G2 a4T.2 3).bind fun a52=>some (l9.ret ((s5.mk 7 a52.1 []),a52.2,w))) else some (l9.brk (a4T.2,2)))) else (bif (F8.1==8) then some (l9.brk (F8.2,3)) else (bif (F8.1==9) then some (l9.brk (F8.2,4)) else (bif (F8.1==10) then ((G2 F8.2 3).bind fun a6x=>(bif (a6x.1==0) then ((G2 a6x.2 10).bind fun a7c=>((G2 a7c.2 5).bind fun c46=>some (l9.ret ((s5.mk (m7 (a7c.1-1)) (m7 (c46.1-1)) []),c46.2,w)))) else some (l9.brk (a6x.2,2)))) else some (l9.brk (F8.2,2)))))))))):Option (l9 (s5×t8×m5) (t8×Int))).bind fun x=>x.go some fun j=>d3a w pick j.1 j.2)))))))
set_option maxRecDepth 20000 in
theorem d92{r_ w}:OK c0s [.optr 107 (a0g r_),.agg (U5 w)] (b6m r_ w):=
 o8 _ fun r h=>n9<|j9 d04 e95 4 h fun d2z h=>j9 G6 H1 5 h fun pick h=>rg<|j9 G6 H1 1 h fun F8 h=>rg<|j5 1 h (fun h=>rg<|j9 G6 H1 1 h fun a0o h=>j9 a3v b4J 3 h fun a5L h=>s8 a5L.1<|B3 w<|fE h) (fun h=>rg<|j5 1 h (fun h=>rg<|j9 G6 H1 1 h fun a0b h=>j9 a3v b4J 3 h fun b8Y h=>s8 b8Y.1<|B3 w<|fE h) (fun h=>rg<|j5 1 h (fun h=>rg<|j9 G6 H1 1 h fun Y3 h=>j9 a3v b4J 3 h fun c0C h=>s8 c0C.1<|B3 w<|fE h) (fun h=>A4 h (e8I w pick r) fun x1 h hc1=>rg<|j5 1 h (fun h=>rg<|j9 G6 H1 1 h fun a3p h=>j9 a3v b4J 3 h fun b7o h=>(B8 h hc1 fun h=>s8 b7o.1<|B3 w<|fE h)) (fun h=>rg<|j5 1 h (fun h=>rg<|j9 G6 H1 1 h fun a8u h=>(B8 h hc1 fun h=>B3 w<|fE h)) (fun h=>rg<|j5 1 h (fun h=>rg<|j9 G6 H1 1 h fun a8x h=>(B8 h hc1 fun h=>B3 w<|fE h)) (fun h=>rg<|j5 1 h (fun h=>rg<|j9 G6 H1 1 h fun a5A h=>(B8 h hc1 fun h=>B3 w<|fE h)) (fun h=>rg<|j5 1 h (fun h=>rg<|j9 G6 H1 1 h fun a4T h=>j5 2 h (fun h=>rg<|j9 G6 H1 1 h fun a52 h=>(B8 h hc1 fun h=>B3 w<|fE h)) (fun h=>(o9 h hc1 fun hI=>sk [] [4,5] [(2,0),(10,0)] hI))) (fun h=>rg<|j5 1 h (fun h=>rg<|(o9 h hc1 fun hI=>sk [] [4,5] [(2,0),(10,0)] hI)) (fun h=>rg<|j5 1 h (fun h=>rg<|(o9 h hc1 fun hI=>sk [] [4,5] [(2,0),(10,0)] hI)) (fun h=>rg<|j5 1 h (fun h=>rg<|j9 G6 H1 1 h fun a6x h=>j5 2 h (fun h=>rg<|j9 G6 H1 1 h fun a7c h=>j9 G6 H1 4 h fun c46 h=>(B8 h hc1 fun h=>B3 w<|fE h)) (fun h=>(o9 h hc1 fun hI=>sk [] [4,5] [(2,0),(10,0)] hI))) (fun h=>(o9 h hc1 fun hI=>sk [] [4,5] [(2,0),(10,0)] hI))))))))))))
def b0J:FS (Bool):=⟨111,Tryz.f111,[.val [] []],[none],[.val C2 []],fun r=>.b r,fun _=>[none],Tryz.func111⟩
def e6j(m:l8):Unit->KS:=fun _=>⟨b0J.k 2 [false],(bs 1 (.ptr 1 0 0::(bs 158 []))),[some [],some [.var 82 (a4I m)]]⟩
def f4A(m:l8)(l7None:Bool):Bool->KS:=fun right=>⟨b0J.k 4 [false],(bs 1 (.ptr 1 0 0::(bs 1 (.b l7None::(.b right::(bs 155 [])))))),[some [],some [.var 82 (a4I m)]]⟩
def b3O(m:l8)(l7None:Bool)(right:Bool):Option Bool:=
 (bif (m.a9==1) then ((a1b m.a8).bind fun Z6=>(bif Z6 then some l7None else some false)) else (bif (m.a9==2) then ((a1b m.a8).bind fun b2Z=>(bif b2Z then (bif l7None then ((a56 m.a7).bind fun a7k=>(bif a7k then some (decide ((m7 (m.g8+(m.a7.length:Int)))<=40)) else some false)) else some false) else some false)) else (bif (m.a9==3) then ((a1b m.a8).bind fun b2x=>(bif b2x then some right else some false)) else (bif (m.a9==4) then ((a1b m.a8).bind fun d3f=>(bif d3f then some l7None else some false)) else (bif (m.a9==5) then (bif (m.a8==0) then some right else some false) else (bif (m.a9==6) then ((a1b m.a8).bind fun d7F=>(bif d7F then (bif l7None then some (m.g8==0) else some false) else some false)) else (bif (m.a9==7) then (bif (m.a8==0) then (bif (m.g8==0) then ((a1r m.g9).bind fun F6=>(bif F6 then some (!m.g9.i7) else some false)) else some false) else some false) else (bif (m.a9==8) then (bif (m.a8==0) then some l7None else some false) else some false))))))))
theorem d9C(m l7None)(r):NF b0J r (f4A m l7None) (fun s=>b3O m l7None s):=fun right h=>PK<|n9<|j5 1 h (fun h=>rg<|j9 a2k a2t 2 h fun Z6 h=>j5 3 h (fun h=>fE h) (fun h=>fE h)) (fun h=>rg<|j5 1 h (fun h=>rg<|j9 a2k a2t 2 h fun b2Z h=>j5 3 h (fun h=>j5 6 h (fun h=>j9 a2Z b4T 9 h fun a7k h=>j5 11 h (fun h=>fE h) (fun h=>fE h)) (fun h=>fE h)) (fun h=>fE h)) (fun h=>rg<|j5 1 h (fun h=>rg<|j9 a2k a2t 2 h fun b2x h=>j5 3 h (fun h=>fE h) (fun h=>fE h)) (fun h=>rg<|j5 1 h (fun h=>rg<|j9 a2k a2t 2 h fun d3f h=>j5 3 h (fun h=>fE h) (fun h=>fE h)) (fun h=>rg<|j5 1 h (fun h=>rg<|j5 3 h (fun h=>fE h) (fun h=>fE h)) (fun h=>rg<|j5 1 h (fun h=>rg<|j9 a2k a2t 2 h fun d7F h=>j5 3 h (fun h=>j5 6 h (fun h=>fE h) (fun h=>fE h)) (fun h=>fE h)) (fun h=>rg<|j5 1 h (fun h=>rg<|j5 3 h (fun h=>j5 8 h (fun h=>j9 a2o a3g 11 h fun F6 h=>j5 13 h (fun h=>fE h) (fun h=>fE h)) (fun h=>fE h)) (fun h=>fE h)) (fun h=>rg<|j5 1 h (fun h=>rg<|j5 3 h (fun h=>fE h) (fun h=>fE h)) (fun h=>rg<|fE h))))))))
def b67(m:l8):Option Bool:=
 ((a5q m.g9).bind fun l7None=>((((a1r m.g9).bind fun a3l=>(bif a3l then some (l9.brk (decide (m.g8<40))) else some (l9.brk false))):Option (l9 Bool Bool)).bind fun x=>x.go some fun j=>b3O m l7None j))
theorem f6d(m)(r):NF b0J r (e6j m) (fun s=>b67 m):=fun _ h=>PK<|rg<|j9 a82 b0R 2 h fun l7None h=>A4 h (d9C m l7None r) fun x1 h hc1=>rg<|j9 a2o a3g 2 h fun a3l h=>j5 3 h (fun h=>(o9 h hc1 fun hI=>sk [] [1,3,4] [(1,0)] hI)) (fun h=>(o9 h hc1 fun hI=>sk [] [1,3,4] [(1,0)] hI))
def b7U(m:l8):Option Bool:=
 (((bif decide (m.c9<0) then some (l9.ret false) else (bif decide (m.c9>=3) then some (l9.ret false) else (bif decide (m.To<0) then some (l9.ret false) else (bif decide (m.To>=3) then some (l9.ret false) else (bif (m.c9==m.To) then some (l9.ret false) else (bif decide (m.g8<0) then some (l9.ret false) else (bif decide (m.g8>40) then some (l9.ret false) else (bif (m.a9 != 2) then (bif decide ((m.a7.length:Int)>0) then some (l9.ret false) else some (l9.brk ())) else some (l9.brk ()))))))))):Option (l9 Bool Unit)).bind fun x=>x.go some fun j=>b67 m)
theorem f03{m}:OK b0J [.agg (t7 m)] (b7U m):=
 o8 _ fun r h=>rg<|A4 h (f6d m r) fun x1 h hc1=>rg<|j5 3 h (fun h=>rg<|(B8 h hc1 fun h=>fE h)) (fun h=>j5 8 h (fun h=>rg<|(B8 h hc1 fun h=>fE h)) (fun h=>j5 13 h (fun h=>rg<|(B8 h hc1 fun h=>fE h)) (fun h=>j5 18 h (fun h=>rg<|(B8 h hc1 fun h=>fE h)) (fun h=>j5 25 h (fun h=>rg<|(B8 h hc1 fun h=>fE h)) (fun h=>j5 30 h (fun h=>rg<|(B8 h hc1 fun h=>fE h)) (fun h=>j5 35 h (fun h=>rg<|(B8 h hc1 fun h=>fE h)) (fun h=>j5 39 h (fun h=>j5 45 h (fun h=>rg<|(B8 h hc1 fun h=>fE h)) (fun h=>(o9 h hc1 fun hI=>sk [] [1] [(1,0)] hI))) (fun h=>(o9 h hc1 fun hI=>sk [] [1] [(1,0)] hI)))))))))
def d8r:FS (Bool):=⟨114,Tryz.f114,[.val [] []],[none],[.val [] []],fun r=>.b r,fun _=>[none],Tryz.func114⟩
def b7f(a:n6):Option Bool:=
 (bif decide (a.Node>=0) then (bif decide (a.Node<3) then ((a99 a.a5).bind fun a6q=>(bif a6q then (bif (a.a5.b9==a.Node) then (bif decide (a.Code>=0) then (bif decide (a.Code<=4) then ((a7j a.d8).bind fun a1g=>some a1g) else some false) else some false) else some false) else some false)) else some false) else some false)
theorem e52{a}:OK d8r [.agg (z5 a)] (b7f a):=
 o8 _ fun r h=>n9<|j5 3 h (fun h=>j5 8 h (fun h=>j9 b7V c2x 11 h fun a6q h=>j5 13 h (fun h=>j5 21 h (fun h=>j5 26 h (fun h=>j5 31 h (fun h=>j9 a9D a9U 34 h fun a1g h=>fE h) (fun h=>fE h)) (fun h=>fE h)) (fun h=>fE h)) (fun h=>fE h)) (fun h=>fE h)) (fun h=>fE h)
def J0:FS (Bool):=⟨62,Tryz.f62,[.val [] []],[none],[.val C3 []],fun r=>.b r,fun _=>[none],Tryz.func62⟩
def d2O(w:m5):Unit->KS:=fun _=>⟨J0.k 4 [false,false],(bs 1 (.ptr 1 0 0::(bs 104 []))),[some [],some [.var 28 (B2 w)]]⟩
def c9U(w:m5):Unit->KS:=fun _=>⟨J0.k 6 [false,false,false],(bs 1 (.ptr 1 0 0::(bs 104 []))),[some [],some [.var 28 (B2 w)]]⟩
def d3p(w:m5):Unit->KS:=fun _=>⟨J0.k 8 [false,false,false,false],(bs 1 (.ptr 1 0 0::(bs 104 []))),[some [],some [.var 28 (B2 w)]]⟩
def d4b:Unit->KS:=fun _=>⟨J0.k 10 [false,false,false,false,false],(bs 106 []),[some []]⟩
def d1d:Option Bool:=
 some true
theorem f5P(r):NF J0 r d4b (fun s=>d1d):=fun _ h=>PK<|rg<|fE h
def e1G(w:m5):Int->KS:=fun i3=>⟨J0.k 9 [false,false,false,false],(bs 1 (.ptr 1 0 0::(bs 4 (vi i3::(bs 99 []))))),[some [],some [.var 28 (B2 w)]]⟩
def b5L(w:m5)(i3:Int):Option (j7 Bool Int Unit):=
 (bif decide (i3<(w.Told.length:Int)) then ((idx w.Told i3).bind fun told=>((b7f told).bind fun d5e=>(bif (!d5e) then some (j7.ret false) else some (j7.nxt (m7 (i3+1)))))) else some (j7.brk ()))
theorem f5H(w):LQ J0 d4b (e1G w) (fun s=>b5L w s):=fun lc i3 h=>PK<|rg<|j5 4 h (fun h=>rg<|u0 z5 3 h fun told a3M h=>j9 d8r e52 5 h fun d5e h=>j5 6 h (fun h=>rg<|fL lc h) (fun h=>rg<|(lc.nx h fun hI=>sk [] [1,6] [(1,0)] hI))) (fun h=>(lc.bk h fun hI=>sk [] [] [] hI))
def c0b(w:m5):Option Bool:=
 ((o7 (fun s:Int=>b5L w s) 0).bind fun x=>x.go (fun r=>some r) fun s=>d1d)
theorem e6f(w)(r):NF J0 r (d3p w) (fun s=>c0b w):=fun _ h=>PK<|rg<|lp (f5H w) h (fun _ h=>J0.rt h) (f5P r) fun hI=>sk [] [1,6] [(1,0)] hI
def f1k(w:m5):Int->KS:=fun i2=>⟨J0.k 7 [false,false,false],(bs 1 (.ptr 1 0 0::(bs 3 (vi i2::(bs 100 []))))),[some [],some [.var 28 (B2 w)]]⟩
def b91(w:m5)(i2:Int):Option (j7 Bool Int Unit):=
 (bif decide (i2<(w.d9.length:Int)) then ((idx w.d9 i2).bind fun asked=>((a99 asked.a5).bind fun a6q=>(bif (!a6q) then some (j7.ret false) else ((b0K asked.i6).bind fun E4=>(bif (!E4) then some (j7.ret false) else some (j7.nxt (m7 (i2+1)))))))) else some (j7.brk ()))
theorem e1h(w):LQ J0 (d3p w) (f1k w) (fun s=>b91 w s):=fun lc i2 h=>PK<|rg<|j5 4 h (fun h=>rg<|u0 C1 3 h fun asked a8z h=>j9 b7V c2x 6 h fun a6q h=>j5 8 h (fun h=>rg<|fL lc h) (fun h=>I1 C1 12 a8z<|j9 a5r c1L 15 h fun E4 h=>j5 17 h (fun h=>rg<|fL lc h) (fun h=>rg<|(lc.nx h fun hI=>sk [] [1,5] [(1,0)] hI)))) (fun h=>(lc.bk h fun hI=>sk [] [1] [(1,0)] hI))
def b6F(w:m5):Option Bool:=
 ((o7 (fun s:Int=>b91 w s) 0).bind fun x=>x.go (fun r=>some r) fun s=>c0b w)
theorem e7z(w)(r):NF J0 r (c9U w) (fun s=>b6F w):=fun _ h=>PK<|rg<|lp (e1h w) h (fun _ h=>J0.rt h) (e6f w r) fun hI=>sk [] [1,5] [(1,0)] hI
def f5w(w:m5):Int->KS:=fun i1=>⟨J0.k 5 [false,false],(bs 1 (.ptr 1 0 0::(bs 2 (vi i1::(bs 101 []))))),[some [],some [.var 28 (B2 w)]]⟩
def b8P(w:m5)(i1:Int):Option (j7 Bool Int Unit):=
 (bif decide (i1<(w.d7.length:Int)) then ((idx w.d7 i1).bind fun msg=>((b7U msg).bind fun Q8=>(bif (!Q8) then some (j7.ret false) else some (j7.nxt (m7 (i1+1)))))) else some (j7.brk ()))
theorem e91(w):LQ J0 (c9U w) (f5w w) (fun s=>b8P w s):=fun lc i1 h=>PK<|rg<|j5 4 h (fun h=>rg<|u0 t7 3 h fun msg hmsg h=>j9 b0J f03 5 h fun Q8 h=>j5 6 h (fun h=>rg<|fL lc h) (fun h=>rg<|(lc.nx h fun hI=>sk [] [1,4] [(1,0)] hI))) (fun h=>(lc.bk h fun hI=>sk [] [1] [(1,0)] hI))
def b7R(w:m5):Option Bool:=
 ((o7 (fun s:Int=>b8P w s) 0).bind fun x=>x.go (fun r=>some r) fun s=>b6F w)
theorem e1i(w)(r):NF J0 r (d2O w) (fun s=>b7R w):=fun _ h=>PK<|rg<|lp (e91 w) h (fun _ h=>J0.rt h) (e7z w r) fun hI=>sk [] [1,4] [(1,0)] hI
def e67(w:m5):Int->KS:=fun i=>⟨J0.k 3 [false],(bs 1 (.ptr 1 0 0::(bs 1 (vi i::(bs 102 []))))),[some [],some [.var 28 (B2 w)]]⟩
def b7g(w:m5)(i:Int):Option (j7 Bool Int Unit):=
 (bif decide (i<(w.a0.length:Int)) then ((idx w.a0 i).bind fun node=>(bif (node.Id != i) then some (j7.ret false) else ((a5p node).bind fun D8=>(bif (!D8) then some (j7.ret false) else some (j7.nxt (m7 (i+1))))))) else some (j7.brk ()))
theorem e0r(w):LQ J0 (d2O w) (e67 w) (fun s=>b7g w s):=fun lc i h=>PK<|rg<|j5 4 h (fun h=>rg<|u0 x6 3 h fun node hnode h=>j5 8 h (fun h=>rg<|fL lc h) (fun h=>I1 x6 12 hnode<|j9 a2R b1M 14 h fun D8 h=>j5 16 h (fun h=>rg<|fL lc h) (fun h=>rg<|(lc.nx h fun hI=>sk [] [1,3] [(1,0)] hI)))) (fun h=>(lc.bk h fun hI=>sk [] [1] [(1,0)] hI))
def a3A(w:m5):Option Bool:=
 (bif ((w.a0.length:Int) != 3) then some false else (bif decide ((w.d7.length:Int)>40) then some false else (bif decide ((w.d9.length:Int)>60) then some false else (bif decide ((w.Told.length:Int)>60) then some false else ((o7 (fun s:Int=>b7g w s) 0).bind fun x=>x.go (fun r=>some r) fun s=>b7R w)))))
theorem a48{w}:OK J0 [.agg (J7 w)] (a3A w):=
 o8 _ fun r h=>n9<|j5 4 h (fun h=>rg<|fE h) (fun h=>j5 10 h (fun h=>rg<|fE h) (fun h=>j5 16 h (fun h=>rg<|fE h) (fun h=>j5 21 h (fun h=>rg<|fE h) (fun h=>rg<|lp (e0r w) h (fun _ h=>J0.rt h) (e1i w r) fun hI=>sk [] [1,3] [(1,0)] hI))))
def X0:FS (m5):=⟨106,Tryz.f106,[.val C3 V8],[none],[.val C3 []],fun r=>.agg (U5 r),fun _=>[none],Tryz.func106⟩
def d6E(w:m5):(List j6)->KS:=fun Nodes1=>⟨X0.k 4 [false],(bs 1 (.ptr 1 0 0::(.ptr 2 0 0::(.ptr 3 0 0::(bs 72 []))))),[some [],some [.var 28 (B2 w)],some [.var 28 [.nil,.nil,.nil,.nil]],some [.var 28 [.own 4 0 27 0 Nodes1.length,.nil,.nil,.own 5 0 5 0 (([]:List n6)++w.Told).length]],some [C6 54 27 z7 Nodes1],some [m6 89 5 z5 (([]:List n6)++w.Told)]]⟩
def d3T(w:m5)(Nodes1:List j6):(List l8)->KS:=fun Net1=>⟨X0.k 6 [false,false],(bs 1 (.ptr 1 0 0::(.ptr 2 0 0::(.ptr 3 0 0::(bs 72 []))))),[some [],some [.var 28 (B2 w)],some [.var 28 [.nil,.nil,.nil,.nil]],some [.var 28 [.own 4 0 27 0 Nodes1.length,.own 5 0 13 0 Net1.length,.nil,.own 6 0 5 0 (([]:List n6)++w.Told).length]],some [C6 54 27 z7 Nodes1],some [m6 82 13 t7 Net1],some [m6 89 5 z5 (([]:List n6)++w.Told)]]⟩
def d2A(w:m5)(Nodes1:List j6)(Net1:List l8):(List x8)->KS:=fun Asked1=>⟨X0.k 8 [false,false,false],(bs 2 (.ptr 1 0 0::(.ptr 2 0 0::(bs 72 [])))),[some [],some [.var 28 [.nil,.nil,.nil,.nil]],some [.var 28 [.own 3 0 27 0 Nodes1.length,.own 4 0 13 0 Net1.length,.own 5 0 3 0 Asked1.length,.own 6 0 5 0 (([]:List n6)++w.Told).length]],some [C6 54 27 z7 Nodes1],some [m6 82 13 t7 Net1],some [m6 85 3 C1 Asked1],some [m6 89 5 z5 (([]:List n6)++w.Told)]]⟩
def c7V(w:m5)(Nodes1:List j6)(Net1:List l8)(Asked1:List x8):Option m5:=
 some (m5.mk Nodes1 Net1 Asked1 (([]:List n6)++w.Told))
theorem f4o(w Nodes1 Net1)(r):NF X0 r (d2A w Nodes1 Net1) (fun s=>c7V w Nodes1 Net1 s):=fun Asked1 h=>PK<|rg<|H8 Nodes1 Net1 Asked1 (([]:List n6)++w.Told)<|fE h
def f0U(w:m5)(Nodes1:List j6)(Net1:List l8):((List x8)×Int)->KS:=fun (d9,i2)=>⟨X0.k 7 [false,false],(bs 1 (.ptr 1 0 0::(.ptr 2 0 0::(.ptr 3 0 0::(bs 2 (vi i2::(bs 69 []))))))),[some [],some [.var 28 (B2 w)],some [.var 28 [.nil,.nil,.nil,.nil]],some [.var 28 [.own 4 0 27 0 Nodes1.length,.own 5 0 13 0 Net1.length,.own 7 0 3 0 d9.length,.own 6 0 5 0 (([]:List n6)++w.Told).length]],some [C6 54 27 z7 Nodes1],some [m6 82 13 t7 Net1],some [m6 89 5 z5 (([]:List n6)++w.Told)],some [m6 85 3 C1 d9]]⟩
def b4Z(w:m5)(d9:List x8)(i2:Int):Option (j7 m5 ((List x8)×Int) (List x8)):=
 (bif decide (i2<(w.d9.length:Int)) then ((idx w.d9 i2).bind fun asked=>(t5 ((([]:List n8).length+asked.i6.length)*32<=140737488355328) ((t5 ((d9.length+1)*40<=140737488355328) (some (j7.nxt (d9++[(x8.mk asked.a5 (([]:List n8)++asked.i6))],m7 (i2+1)))))))) else some (j7.brk d9))
theorem f7S(w Nodes1 Net1):LQ X0 (d2A w Nodes1 Net1) (f0U w Nodes1 Net1) (fun s=>b4Z w s.1 s.2):=fun lc (d9,i2) h=>PK<|rg<|j5 4 h (fun h=>rg<|u0 C1 5 h fun asked a8z h=>tk 8 []<|I1 C1 12 a8z<|t9 h fun e2 h=>oa 28 0 4 ([]:List n8) asked.i6<|oz 98 4 A6 ([]:List n8) asked.i6<|A9 n8<|ob e2<|tl (15,{v:=some (.own 28 0 4 0 (([]:List n8)++asked.i6).length),e:=some (m6 98 4 A6 (([]:List n8)++asked.i6))})<|s8 (([]:List n8)++asked.i6)<|tk 17 [none,none,some 4]<|t9 h fun e3 h=>F7 18 31 85 3 40 C1 d9 (x8.mk asked.a5 (([]:List n8)++asked.i6)) e3<|E7 (x8.mk asked.a5 (([]:List n8)++asked.i6))<|rg<|(lc.nx h fun hI=>sk [] [1,2,3,6] [(1,0),(2,0),(3,0),(4,0),(5,0),(6,0),(31,0)] hI)) (fun h=>(lc.bk h fun hI=>sk [] [2,3] [(2,0),(3,0),(4,0),(5,0),(7,0),(6,0)] hI))
def c2T(w:m5)(Nodes1:List j6)(Net1:List l8):Option m5:=
 ((o7 (fun s:(List x8)×Int=>b4Z w s.1 s.2) ([],0)).bind fun x=>x.go (fun r=>some r) fun s=>c7V w Nodes1 Net1 s)
theorem f1q(w Nodes1)(r):NF X0 r (d3T w Nodes1) (fun s=>c2T w Nodes1 s):=fun Net1 h=>PK<|rg<|lp (f7S w Nodes1 Net1) h (fun _ h=>X0.rt h) (f4o w Nodes1 Net1 r) fun hI=>sk [.own (.cell 3 0 2) 85 3] [1,2,3,6] [(1,0),(2,0),(3,0),(4,0),(5,0),(6,0),(8,0)] hI
def e5E(w:m5)(Nodes1:List j6):((List l8)×Int)->KS:=fun (d7,i1)=>⟨X0.k 5 [false],(bs 1 (.ptr 1 0 0::(.ptr 2 0 0::(.ptr 3 0 0::(bs 1 (vi i1::(bs 70 []))))))),[some [],some [.var 28 (B2 w)],some [.var 28 [.nil,.nil,.nil,.nil]],some [.var 28 [.own 4 0 27 0 Nodes1.length,.own 6 0 13 0 d7.length,.nil,.own 5 0 5 0 (([]:List n6)++w.Told).length]],some [C6 54 27 z7 Nodes1],some [m6 89 5 z5 (([]:List n6)++w.Told)],some [m6 82 13 t7 d7]]⟩
def b3Z(w:m5)(d7:List l8)(i1:Int):Option (j7 m5 ((List l8)×Int) (List l8)):=
 (bif decide (i1<(w.d7.length:Int)) then ((idx w.d7 i1).bind fun msg=>((a9i msg).bind fun G7=>(t5 ((d7.length+1)*152<=140737488355328) (some (j7.nxt (d7++[G7],m7 (i1+1))))))) else some (j7.brk d7))
theorem f2t(w Nodes1):LQ X0 (d3T w Nodes1) (e5E w Nodes1) (fun s=>b3Z w s.1 s.2):=fun lc (d7,i1) h=>PK<|rg<|j5 4 h (fun h=>rg<|u0 t7 5 h fun msg hmsg h=>j9 b49 b50 7 h fun G7 h=>tk 8 C2<|t9 h fun e4 h=>F7 9 21 82 13 152 t7 d7 G7 e4<|E7 G7<|rg<|(lc.nx h fun hI=>sk [] [1,2,3,5] [(1,0),(2,0),(3,0),(4,0),(5,0),(21,0)] hI)) (fun h=>(lc.bk h fun hI=>sk [] [1,2,3] [(1,0),(2,0),(3,0),(4,0),(6,0),(5,0)] hI))
def c5P(w:m5)(Nodes1:List j6):Option m5:=
 ((o7 (fun s:(List l8)×Int=>b3Z w s.1 s.2) ([],0)).bind fun x=>x.go (fun r=>some r) fun s=>c2T w Nodes1 s)
theorem f5L(w)(r):NF X0 r (d6E w) (fun s=>c5P w s):=fun Nodes1 h=>PK<|rg<|lp (f2t w Nodes1) h (fun _ h=>X0.rt h) (f1q w Nodes1 r) fun hI=>sk [.own (.cell 3 0 1) 82 13] [1,2,3,5] [(1,0),(2,0),(3,0),(4,0),(5,0),(7,0)] hI
def f5v(w:m5):((List j6)×Int)->KS:=fun (a0,i)=>⟨X0.k 3 [],(bs 1 (.ptr 1 0 0::(.ptr 2 0 0::(.ptr 3 0 0::(vi i::(bs 71 [])))))),[some [],some [.var 28 (B2 w)],some [.var 28 [.nil,.nil,.nil,.nil]],some [.var 28 [.own 5 0 27 0 a0.length,.nil,.nil,.own 4 0 5 0 (([]:List n6)++w.Told).length]],some [m6 89 5 z5 (([]:List n6)++w.Told)],some [C6 54 27 z7 a0]]⟩
def e8i(l8Copy:j6):List V:=(a6p l8Copy)
def b2V(w:m5)(a0:List j6)(i:Int):Option (j7 m5 ((List j6)×Int) (List j6)):=
 (bif decide (i<(w.a0.length:Int)) then ((idx w.a0 i).bind fun node=>((a6b node).bind fun l8Copy=>(t5 ((a0.length+1)*392<=140737488355328) (some (j7.nxt (a0++[l8Copy],m7 (i+1))))))) else some (j7.brk a0))
theorem e5l(w):LQ X0 (d6E w) (f5v w) (fun s=>b2V w s.1 s.2):=fun lc (a0,i) h=>PK<|rg<|j5 4 h (fun h=>rg<|u0 x6 5 h fun node hnode h=>j9 b1B b15 7 h fun l8Copy h=>om (s9.deep false 54 27 1 [(e8i l8Copy)]=C6 54 27 z7 [l8Copy]) rfl<|A3 l8Copy<|tl (8,{a:=.dck [none,none,some 8,some 7,none,none,none,some 1,some 8,none,none,none,some 2,some 2,none,none,some 1,none,some 4,none,none,none,some 2,some 2,none,none,some 7] [none,none,some 61,some 52,none,none,none,some 4,none,none,none,none,none,none,none,none,some 4,none,none,none,none,none,none,none,none,none,some 52],e:=some (C6 54 27 z7 [l8Copy])})<|t9 h fun e5 h=>om (V.own 20 0 27 0 (a0.length+1)=.own 20 0 27 0 (a0++[l8Copy]).length) (by simp)<|om (s9.deep false 54 27 (a0.length+1) (a0.map z7++[z7 l8Copy])=C6 54 27 z7 (a0++[l8Copy])) (c58 rfl)<|s8 a0<|ob e5<|om (1=1) rfl<|tl (9,{a:=.dck [] [],v:=some (.own 20 0 27 0 (a0++[l8Copy]).length),e:=some (C6 54 27 z7 (a0++[l8Copy]))})<|rg<|(lc.nx h fun hI=>sk [] [1,2,3,4] [(1,0),(2,0),(3,0),(4,0),(20,0)] hI)) (fun h=>(lc.bk h fun hI=>sk [] [1,2,3] [(1,0),(2,0),(3,0),(5,0),(4,0)] hI))
def b72(w:m5):Option m5:=
 (t5 ((([]:List n6).length+w.Told.length)*40<=140737488355328) (((o7 (fun s:(List j6)×Int=>b2V w s.1 s.2) ([],0)).bind fun x=>x.go (fun r=>some r) fun s=>c5P w s)))
theorem e8z{w}:OK X0 [.agg (J7 w)] (b72 w):=
 o8 _ fun r h=>n9<|tk 0 []<|t9 h fun e1 h=>oa 6 0 5 ([]:List n6) w.Told<|oz 89 5 z5 ([]:List n6) w.Told<|A9 n6<|ob e1<|tl (3,{v:=some (.own 6 0 5 0 (([]:List n6)++w.Told).length),e:=some (m6 89 5 z5 (([]:List n6)++w.Told))})<|rg<|lp (e5l w) h (fun _ h=>X0.rt h) (f5L w r) fun hI=>sk [.ownD (.cell 8 0 0) 54 27] [1,2,3,4] [(1,0),(2,0),(8,0),(6,0),(11,0)] hI
def a5s:FS ((List s5)×t8):=⟨56,Tryz.f56,[.val [some 3] [some 36]],[some (0,.ptr [some 1,none] []),none,none],[.ptr [some 1,none] [],.val C3 V8,.val [] []],fun r=>v6 36 3 J6 r.1,fun r=>[some (.optr 107 (a0g r.2)),none,none],Tryz.func56⟩
def c6y:(t8×List s5)->KS:=fun (w1,out1)=>⟨a5s.k 4 [false],(bs 7 (.own 1 0 3 0 out1.length::(bs 22 []))),[some [.var 107 [l7 1 J8 w1.b,vi w1.p],.dead,.dead,.dead,.dead],some [m6 36 3 J6 out1]]⟩
def d8m(w1:t8)(out1:List s5):Option ((List s5)×t8):=
 some (out1,w1)
theorem e6b(r):NF a5s r c6y (fun s=>d8m s.1 s.2):=fun (w1,out1) h=>PK<|rg<|s8 out1<|fE h
def d4K(n:Int):(t8×(List s5)×(List n6)×(List x8)×(List l8)×(List j6)×Int)->KS:=fun (r_1,out,Told,d9,d7,a0,i)=>⟨a5s.k 3 [],(.ptr 0 0 0::(bs 1 (vi n::(bs 1 (.ptr 1 0 0::(bs 2 (.own 2 0 3 0 out.length::(vi i::(bs 21 []))))))))),[some [.var 107 [l7 1 J8 r_1.b,vi r_1.p],.dead,.dead,.dead,.dead],some [.var 28 [.own 6 0 27 0 a0.length,.own 5 0 13 0 d7.length,.own 4 0 3 0 d9.length,.own 3 0 5 0 Told.length]],some [m6 36 3 J6 out],some [m6 89 5 z5 Told],some [m6 85 3 C1 d9],some [m6 82 13 t7 d7],some [C6 54 27 z7 a0]]⟩
def f8B(n:Int)(out:List s5)(i:Int)(l9Event:s5×t8×m5):((List j6)×(List l8)×(List x8)×List n6)->KS:=fun (Nodes1,Net1,Asked1,Told1)=>⟨a5s.k 8 [true,true],(.ptr 0 0 0::(bs 1 (vi n::(bs 1 (.ptr 1 0 0::(bs 2 (.own 6 0 3 0 (out++[l9Event.1]).length::(vi i::(bs 21 []))))))))),[some [.var 107 [l7 1 J8 l9Event.2.1.b,vi l9Event.2.1.p],.dead,.dead,.dead,.dead],some [.var 28 [.own 2 0 27 0 Nodes1.length,.own 3 0 13 0 Net1.length,.own 4 0 3 0 Asked1.length,.own 5 0 5 0 Told1.length]],some [C6 54 27 z7 Nodes1],some [m6 82 13 t7 Net1],some [m6 85 3 C1 Asked1],some [m6 89 5 z5 Told1],some [m6 36 3 J6 (out++[l9Event.1])]]⟩
def c7c(out:List s5)(i:Int)(l9Event:s5×t8×m5)(Nodes1:List j6)(Net1:List l8)(Asked1:List x8)(Told1:List n6):Option (j7 ((List s5)×t8) (t8×(List s5)×(List n6)×(List x8)×(List l8)×(List j6)×Int) (t8×List s5)):=
 some (j7.nxt (l9Event.2.1,out++[l9Event.1],Told1,Asked1,Net1,Nodes1,m7 (i+1)))
theorem f5j(n out i l9Event)(lc:D4 a5s c6y (d4K n)):NL lc (f8B n out i l9Event) (fun s=>c7c out i l9Event s.1 s.2.1 s.2.2.1 s.2.2.2):=fun (Nodes1,Net1,Asked1,Told1) h=>PK<|rg<|(lc.nx h fun hI=>sk [] [0,2,4,7,8] [(1,0),(6,0),(5,0),(4,0),(3,0),(2,0)] hI)
def b7Z(n:Int)(r_1:t8)(out:List s5)(Told:List n6)(d9:List x8)(d7:List l8)(a0:List j6)(i:Int):Option (j7 ((List s5)×t8) (t8×(List s5)×(List n6)×(List x8)×(List l8)×(List j6)×Int) (t8×List s5)):=
 (bif decide (i<n) then ((b6m r_1 (m5.mk a0 d7 d9 Told)).bind fun l9Event=>(t5 (a0.length=l9Event.2.2.a0.length) ((t5 (d7.length=l9Event.2.2.d7.length) ((t5 (d9.length=l9Event.2.2.d9.length) ((t5 (Told.length=l9Event.2.2.Told.length) ((t5 ((out.length+1)*40<=140737488355328) (((((a3A l9Event.2.2).bind fun z9=>(bif z9 then ((b72 l9Event.2.2).bind fun a8C=>((b2l a8C l9Event.1).bind fun a4S=>some (l9.brk (a4S.a0,a4S.d7,a4S.d9,a4S.Told)))) else some (l9.brk (l9Event.2.2.a0,l9Event.2.2.d7,l9Event.2.2.d9,l9Event.2.2.Told)))):Option (l9 (j7 ((List s5)×t8) (t8×(List s5)×(List n6)×(List x8)×(List l8)×(List j6)×Int) (t8×List s5)) ((List j6)×(List l8)×(List x8)×List n6))).bind fun x=>x.go some fun j=>c7c out i l9Event j.1 j.2.1 j.2.2.1 j.2.2.2)))))))))))) else some (j7.brk (r_1,out)))
set_option maxRecDepth 20000 in
theorem f7Z(n):LQ a5s c6y (d4K n) (fun s=>b7Z n s.1 s.2.1 s.2.2.1 s.2.2.2.1 s.2.2.2.2.1 s.2.2.2.2.2.1 s.2.2.2.2.2.2):=fun lc (r_1,out,Told,d9,d7,a0,i) h=>PK<|rg<|j5 2 h (fun h=>rg<|j9 c0s d92 2 h fun l9Event h=>t9 h fun e1 h=>t9 h fun e2 h=>t9 h fun e3 h=>t9 h fun e4 h=>H8 a0 d7 d9 Told<|rg<|s8 l9Event.1.i6<|tk 2 [none,none,some 4]<|t9 h fun e5 h=>F7 3 18 36 3 40 J6 out l9Event.1 e5<|E7 l9Event.1<|A4 h (f5j n out i l9Event lc) fun x2 h hc2=>rg<|B0 h fun z9 d7k h=>cdT (J0.t 1 true z9) h (fun _ h=>om (a0K cx.P 62 [.agg [.sl 27 l9Event.2.2.a0.length (a1p (l9Event.2.2.a0.map z7)),l7 13 t7 l9Event.2.2.d7,l7 3 C1 l9Event.2.2.d9,l7 5 z5 l9Event.2.2.Told]] (J0.R z9) (J0.O z9)) (by simp only [b5O c4l];exact (a48 z9 d7k))<|osc J0 z9 rfl (Q4 1)<|om (a0.length=l9Event.2.2.a0.length) (by first|(simp;done)|(simp [e1,e2,e3,e4];done))<|om (d7.length=l9Event.2.2.d7.length) (by first|(simp;done)|(simp [e1,e2,e3,e4];done))<|om (d9.length=l9Event.2.2.d9.length) (by first|(simp;done)|(simp [e1,e2,e3,e4];done))<|om (Told.length=l9Event.2.2.Told.length) (by first|(simp;done)|(simp [e1,e2,e3,e4];done))<|rg<|B0 h fun a8C f3W h=>om (a0K cx.P 106 [.agg [.sl 27 l9Event.2.2.a0.length (a1p (l9Event.2.2.a0.map z7)),l7 13 t7 l9Event.2.2.d7,l7 3 C1 l9Event.2.2.d9,l7 5 z5 l9Event.2.2.Told]] (X0.R a8C) (X0.O a8C)) (by simp only [b5O c4l];exact (e8z a8C f3W))<|om (a0.length=l9Event.2.2.a0.length) (by first|(simp;done)|(simp [e1,e2,e3,e4];done))<|om (d7.length=l9Event.2.2.d7.length) (by first|(simp;done)|(simp [e1,e2,e3,e4];done))<|om (d9.length=l9Event.2.2.d9.length) (by first|(simp;done)|(simp [e1,e2,e3,e4];done))<|om (Told.length=l9Event.2.2.Told.length) (by first|(simp;done)|(simp [e1,e2,e3,e4];done))<|tl (X0.t 1 false a8C)<|j9 b14 d1Q 3 h fun a4S h=>B3 a8C<|s8 l9Event.1.i6<|(o9 h hc2 fun hI=>sk [] [0,2,4,7,8] [(1,0),(25,0),(25,1),(25,2),(25,3),(18,0)] hI)) (fun _ h=>om (a0K cx.P 62 [.agg [.sl 27 l9Event.2.2.a0.length (a1p (l9Event.2.2.a0.map z7)),l7 13 t7 l9Event.2.2.d7,l7 3 C1 l9Event.2.2.d9,l7 5 z5 l9Event.2.2.Told]] (J0.R z9) (J0.O z9)) (by simp only [b5O c4l];exact (a48 z9 d7k))<|osc J0 z9 rfl (Q4 1)<|om (a0.length=l9Event.2.2.a0.length) (by first|(simp;done)|(simp [e1,e2,e3,e4];done))<|om (d7.length=l9Event.2.2.d7.length) (by first|(simp;done)|(simp [e1,e2,e3,e4];done))<|om (d9.length=l9Event.2.2.d9.length) (by first|(simp;done)|(simp [e1,e2,e3,e4];done))<|om (Told.length=l9Event.2.2.Told.length) (by first|(simp;done)|(simp [e1,e2,e3,e4];done))<|(o9 h hc2 fun hI=>om ((.own 6 0 27 0 a0.length:V)=.own 6 0 27 0 l9Event.2.2.a0.length) (by first|(simp;done)|(simp [e1,e2,e3,e4];done))<|om ((.own 5 0 13 0 d7.length:V)=.own 5 0 13 0 l9Event.2.2.d7.length) (by first|(simp;done)|(simp [e1,e2,e3,e4];done))<|om ((.own 4 0 3 0 d9.length:V)=.own 4 0 3 0 l9Event.2.2.d9.length) (by first|(simp;done)|(simp [e1,e2,e3,e4];done))<|om ((.own 3 0 5 0 Told.length:V)=.own 3 0 5 0 l9Event.2.2.Told.length) (by first|(simp;done)|(simp [e1,e2,e3,e4];done))<|sk [.is (.cell 1 0 0) (.own 6 0 27 0 l9Event.2.2.a0.length),.is (.cell 1 0 1) (.own 5 0 13 0 l9Event.2.2.d7.length),.is (.cell 1 0 2) (.own 4 0 3 0 l9Event.2.2.d9.length),.is (.cell 1 0 3) (.own 3 0 5 0 l9Event.2.2.Told.length)] [0,2,4,7,8] [(1,0),(6,0),(5,0),(4,0),(3,0),(18,0)] hI))) (fun h=>(lc.bk h fun hI=>sk [] [7] [(2,0)] hI))
def b7x(r_:t8)(w:m5)(n:Int):Option ((List s5)×t8):=
 ((o7 (fun s:t8×(List s5)×(List n6)×(List x8)×(List l8)×(List j6)×Int=>b7Z n s.1 s.2.1 s.2.2.1 s.2.2.2.1 s.2.2.2.2.1 s.2.2.2.2.2.1 s.2.2.2.2.2.2) (r_,([]:List s5),w.Told,w.d9,w.d7,w.a0,0)).bind fun x=>x.go (fun r=>some r) fun s=>d8m s.1 s.2)
theorem e2x{r_ w n}:OK a5s [.optr 107 (a0g r_),.agg (U5 w),vi n] (b7x r_ w n):=
 o8 _ fun r h=>n9<|tk 0 [none,none,some 4]<|rg<|lp (f7Z n) h (fun _ h=>a5s.rt h) (e6b r) fun hI=>om ((.own 3 0 3 0 0:V)=.own 3 0 3 0 ([]:List s5).length) (by simp)<|sk [.is (.tmp 7) (.own 3 0 3 0 ([]:List s5).length)] [0,2,4,7,8] [(1,0),(3,0),(0,4),(0,3),(0,2),(0,1)] hI
def a1R:FS (m5×(List s5)×t8):=⟨58,Tryz.f58,[.val C3 V8,.val [some 3] [some 36]],[some (0,.ptr [some 1,none] []),none,none],[.ptr [some 1,none] [],.val C3 V8,.val [some 3] [some 36]],fun r=>.tup [.agg (U5 r.1),v6 36 3 J6 r.2.1],fun r=>[some (.optr 107 (a0g r.2.2)),none,none],Tryz.func58⟩
def c2J(pick:Int×t8)(num:Int×t8):((List s5)×(List j6)×(List l8)×(List x8)×List n6)->KS:=fun (out2,Nodes1,Net1,Asked1,Told1)=>⟨a1R.k 4 [false],(.ptr 0 0 0::(bs 1 (.own 1 0 3 0 out2.length::(bs 1 (.ptr 2 0 0::(bs 1 (.ptr 7 0 0::(bs 1 (vi pick.1::(bs 52 [])))))))))),[some [.var 107 [l7 1 J8 num.2.b,vi num.2.p],.dead,.dead,.dead,.dead,.dead],some [m6 36 3 J6 out2],some [.var 28 [.own 3 0 27 0 Nodes1.length,.own 4 0 13 0 Net1.length,.own 5 0 3 0 Asked1.length,.own 6 0 5 0 Told1.length]],some [C6 54 27 z7 Nodes1],some [m6 82 13 t7 Net1],some [m6 85 3 C1 Asked1],some [m6 89 5 z5 Told1],some [.var 28 [.nil,.nil,.nil,.nil]]]⟩
def f3F(pick:Int×t8):(t8×(List s5)×(List j6)×(List l8)×(List x8)×List n6)->KS:=fun (w1,out3,Nodes2,Net2,Asked2,Told2)=>⟨a1R.k 6 [false,true],(bs 2 (.own 1 0 3 0 out3.length::(bs 1 (.ptr 2 0 0::(bs 1 (.ptr 7 0 0::(bs 1 (vi pick.1::(bs 52 []))))))))),[some [.var 107 [l7 1 J8 w1.b,vi w1.p],.dead,.dead,.dead,.dead,.dead],some [m6 36 3 J6 out3],some [.var 28 [.own 3 0 27 0 Nodes2.length,.own 4 0 13 0 Net2.length,.own 5 0 3 0 Asked2.length,.own 6 0 5 0 Told2.length]],some [C6 54 27 z7 Nodes2],some [m6 82 13 t7 Net2],some [m6 85 3 C1 Asked2],some [m6 89 5 z5 Told2],some [.var 28 [.nil,.nil,.nil,.nil]]]⟩
def b8Z(pick:Int×t8)(w1:t8)(out3:List s5)(Nodes2:List j6)(Net2:List l8)(Asked2:List x8)(Told2:List n6):Option (m5×(List s5)×t8):=
 ((a1i (m5.mk Nodes2 Net2 Asked2 Told2) out3 (s5.mk 7 pick.1 [])).bind fun T3=>some (T3.1,T3.2,w1))
theorem d82(pick)(r):NF a1R r (f3F pick) (fun s=>b8Z pick s.1 s.2.1 s.2.2.1 s.2.2.2.1 s.2.2.2.2.1 s.2.2.2.2.2):=fun (w1,out3,Nodes2,Net2,Asked2,Told2) h=>PK<|rg<|j9 a2E a2U 4 h fun T3 h=>H8 Nodes2 Net2 Asked2 Told2<|s8 out3<|B3 T3.1<|s8 T3.2<|fE h
def c5R(pick:Int×t8)(num:Int×t8)(out2:List s5)(Nodes1:List j6)(Net1:List l8)(Asked1:List x8)(Told1:List n6):Option (m5×(List s5)×t8):=
 (((bif decide ((Net1.length:Int)>0) then ((G2 num.2 (Net1.length:Int)).bind fun F8=>((a1i (m5.mk Nodes1 Net1 Asked1 Told1) out2 (s5.mk 2 F8.1 [])).bind fun a1A=>some (l9.brk (F8.2,a1A.2,a1A.1.a0,a1A.1.d7,a1A.1.d9,a1A.1.Told)))) else some (l9.brk (num.2,out2,Nodes1,Net1,Asked1,Told1))):Option (l9 (m5×(List s5)×t8) (t8×(List s5)×(List j6)×(List l8)×(List x8)×List n6))).bind fun x=>x.go some fun j=>b8Z pick j.1 j.2.1 j.2.2.1 j.2.2.2.1 j.2.2.2.2.1 j.2.2.2.2.2)
theorem e7J(pick num)(r):NF a1R r (c2J pick num) (fun s=>c5R pick num s.1 s.2.1 s.2.2.1 s.2.2.2.1 s.2.2.2.2):=fun (out2,Nodes1,Net1,Asked1,Told1) h=>PK<|A4 h (d82 pick r) fun x1 h hc1=>rg<|j5 3 h (fun h=>rg<|j9 G6 H1 6 h fun F8 h=>j9 a2E a2U 8 h fun a1A h=>H8 Nodes1 Net1 Asked1 Told1<|s8 out2<|(o9 h hc1 fun hI=>sk [] [2,4,6,8] [(20,4),(2,0),(20,0),(20,1),(20,2),(20,3),(7,0)] hI)) (fun h=>(o9 h hc1 fun hI=>sk [] [2,4,6,8] [(1,0),(2,0),(3,0),(4,0),(5,0),(6,0),(7,0)] hI))
def d5g(pick:Int×t8)(num:Int×t8):((List n6)×(List x8)×(List l8)×(List j6)×(List s5)×Int)->KS:=fun (Told,d9,d7,a0,out1,i)=>⟨a1R.k 3 [],(.ptr 0 0 0::(bs 1 (.own 7 0 3 0 out1.length::(bs 1 (.ptr 1 0 0::(bs 1 (.ptr 2 0 0::(bs 1 (vi pick.1::(vi i::(bs 51 []))))))))))),[some [.var 107 [l7 1 J8 num.2.b,vi num.2.p],.dead,.dead,.dead,.dead,.dead],some [.var 28 [.own 6 0 27 0 a0.length,.own 5 0 13 0 d7.length,.own 4 0 3 0 d9.length,.own 3 0 5 0 Told.length]],some [.var 28 [.nil,.nil,.nil,.nil]],some [m6 89 5 z5 Told],some [m6 85 3 C1 d9],some [m6 82 13 t7 d7],some [C6 54 27 z7 a0],some [m6 36 3 J6 out1]]⟩
def c7O(pick:Int×t8)(num:Int×t8)(i:Int):((List s5)×(List j6)×(List l8)×(List x8)×List n6)->KS:=fun (out5,Nodes4,Net4,Asked4,Told4)=>⟨a1R.k 5 [true,false],(.ptr 0 0 0::(bs 1 (.own 1 0 3 0 out5.length::(bs 1 (.ptr 2 0 0::(bs 1 (.ptr 7 0 0::(bs 1 (vi pick.1::(vi i::(bs 51 []))))))))))),[some [.var 107 [l7 1 J8 num.2.b,vi num.2.p],.dead,.dead,.dead,.dead,.dead],some [m6 36 3 J6 out5],some [.var 28 [.own 3 0 27 0 Nodes4.length,.own 4 0 13 0 Net4.length,.own 5 0 3 0 Asked4.length,.own 6 0 5 0 Told4.length]],some [C6 54 27 z7 Nodes4],some [m6 82 13 t7 Net4],some [m6 85 3 C1 Asked4],some [m6 89 5 z5 Told4],some [.var 28 [.nil,.nil,.nil,.nil]]]⟩
def c42(pick:Int×t8)(i:Int)(out5:List s5)(Nodes4:List j6)(Net4:List l8)(Asked4:List x8)(Told4:List n6):Option (j7 (m5×(List s5)×t8) ((List n6)×(List x8)×(List l8)×(List j6)×(List s5)×Int) ((List s5)×(List j6)×(List l8)×(List x8)×List n6)):=
 ((a1i (m5.mk Nodes4 Net4 Asked4 Told4) out5 (s5.mk 5 pick.1 [])).bind fun a2d=>some (j7.nxt (a2d.1.Told,a2d.1.d9,a2d.1.d7,a2d.1.a0,a2d.2,m7 (i-1))))
theorem f1c(pick num i)(lc:D4 a1R (c2J pick num) (d5g pick num)):NL lc (c7O pick num i) (fun s=>c42 pick i s.1 s.2.1 s.2.2.1 s.2.2.2.1 s.2.2.2.2):=fun (out5,Nodes4,Net4,Asked4,Told4) h=>PK<|rg<|j9 a2E a2U 4 h fun a2d h=>H8 Nodes4 Net4 Asked4 Told4<|s8 out5<|rg<|(lc.nx h fun hI=>sk [] [0,2,4,6,8,9] [(2,0),(7,0),(12,3),(12,2),(12,1),(12,0),(12,4)] hI)
def e2a(pick:Int×t8)(num:Int×t8)(i:Int):((List s5)×(List j6)×(List l8)×(List x8)×List n6)->KS:=fun (out4,Nodes3,Net3,Asked3,Told3)=>⟨a1R.k 4 [true],(.ptr 0 0 0::(bs 1 (.own 1 0 3 0 out4.length::(bs 1 (.ptr 2 0 0::(bs 1 (.ptr 7 0 0::(bs 1 (vi pick.1::(vi i::(bs 51 []))))))))))),[some [.var 107 [l7 1 J8 num.2.b,vi num.2.p],.dead,.dead,.dead,.dead,.dead],some [m6 36 3 J6 out4],some [.var 28 [.own 3 0 27 0 Nodes3.length,.own 4 0 13 0 Net3.length,.own 5 0 3 0 Asked3.length,.own 6 0 5 0 Told3.length]],some [C6 54 27 z7 Nodes3],some [m6 82 13 t7 Net3],some [m6 85 3 C1 Asked3],some [m6 89 5 z5 Told3],some [.var 28 [.nil,.nil,.nil,.nil]]]⟩
def a6I(out4:List s5)(Nodes3:List j6)(Net3:List l8)(Asked3:List x8)(Told3:List n6):Option (j7 (m5×(List s5)×t8) ((List s5)×(List j6)×(List l8)×(List x8)×List n6) ((List s5)×(List j6)×(List l8)×(List x8)×List n6)):=
 (bif decide ((Net3.length:Int)>0) then ((a1i (m5.mk Nodes3 Net3 Asked3 Told3) out4 (s5.mk 3 0 [])).bind fun a1B=>some (j7.nxt (a1B.2,a1B.1.a0,a1B.1.d7,a1B.1.d9,a1B.1.Told))) else some (j7.brk (out4,Nodes3,Net3,Asked3,Told3)))
theorem f1b(pick num i):LQ a1R (c7O pick num i) (e2a pick num i) (fun s=>a6I s.1 s.2.1 s.2.2.1 s.2.2.2.1 s.2.2.2.2):=fun lc (out4,Nodes3,Net3,Asked3,Told3) h=>PK<|rg<|j5 3 h (fun h=>rg<|j9 a2E a2U 3 h fun a1B h=>H8 Nodes3 Net3 Asked3 Told3<|s8 out4<|(lc.nx h fun hI=>sk [] [0,2,4,6,8,9] [(15,4),(2,0),(15,0),(15,1),(15,2),(15,3),(7,0)] hI)) (fun h=>(lc.bk h fun hI=>sk [] [0,2,4,6,8,9] [(1,0),(2,0),(3,0),(4,0),(5,0),(6,0),(7,0)] hI))
def b0g(pick:Int×t8)(Told:List n6)(d9:List x8)(d7:List l8)(a0:List j6)(out1:List s5)(i:Int):Option (j7 (m5×(List s5)×t8) ((List n6)×(List x8)×(List l8)×(List j6)×(List s5)×Int) ((List s5)×(List j6)×(List l8)×(List x8)×List n6)):=
 (bif decide (i>0) then ((o7 (fun s:(List s5)×(List j6)×(List l8)×(List x8)×List n6=>a6I s.1 s.2.1 s.2.2.1 s.2.2.2.1 s.2.2.2.2) (out1,a0,d7,d9,Told)).bind fun x=>x.go (fun r=>some (j7.ret r)) fun s=>c42 pick i s.1 s.2.1 s.2.2.1 s.2.2.2.1 s.2.2.2.2) else some (j7.brk (out1,a0,d7,d9,Told)))
theorem f7A(pick num):LQ a1R (c2J pick num) (d5g pick num) (fun s=>b0g pick s.1 s.2.1 s.2.2.1 s.2.2.2.1 s.2.2.2.2.1 s.2.2.2.2.2):=fun lc (Told,d9,d7,a0,out1,i) h=>PK<|rg<|j5 1 h (fun h=>lp (f1b pick num i) h (fun _ h=>lc.rt h) (f1c pick num i lc) fun hI=>sk [] [0,2,4,6,8,9] [(7,0),(1,0),(6,0),(5,0),(4,0),(3,0),(2,0)] hI) (fun h=>(lc.bk h fun hI=>sk [] [0,2,4,6,8] [(7,0),(1,0),(6,0),(5,0),(4,0),(3,0),(2,0)] hI))
def b8x(r_:t8)(w:m5)(out:List s5):Option (m5×(List s5)×t8):=
 ((G2 r_ 3).bind fun pick=>((a7s pick.2 [3,8,20]).bind fun num=>((o7 (fun s:(List n6)×(List x8)×(List l8)×(List j6)×(List s5)×Int=>b0g pick s.1 s.2.1 s.2.2.1 s.2.2.2.1 s.2.2.2.2.1 s.2.2.2.2.2) (w.Told,w.d9,w.d7,w.a0,out,num.1)).bind fun x=>x.go (fun r=>some r) fun s=>c5R pick num s.1 s.2.1 s.2.2.1 s.2.2.2.1 s.2.2.2.2)))
theorem e2I{r_ w out}:OK a1R [.optr 107 (a0g r_),.agg (U5 w),v6 36 3 J6 out] (b8x r_ w out):=
 o8 _ fun r h=>n9<|j9 G6 H1 1 h fun pick h=>rg<|tk 1 []<|j9 b1Q b2s 2 h fun num h=>om (3=[3,8,20].length) (by simp)<|lp (f7A pick num) h (fun _ h=>a1R.rt h) (e7J pick num r) fun hI=>sk [] [0,2,4,6,8,9] [(1,0),(2,0),(0,4),(0,3),(0,2),(0,1),(0,5)] hI
def a0i:FS ((List s5)×t8):=⟨19,Tryz.f19,[.val [some 3] [some 36]],[some (0,.ptr [some 1,none] [])],[.ptr [some 1,none] []],fun r=>v6 36 3 J6 r.1,fun r=>[some (.optr 107 (a0g r.2))],Tryz.func19⟩
def e38:(t8×(List j6)×(List l8)×(List x8)×(List n6)×List s5)->KS:=fun (r_1,a0,d7,d9,Told,out)=>⟨a0i.k 5 [false,true],(.ptr 0 0 0::(bs 2 (.ptr 1 0 0::(.own 6 0 3 0 out.length::(bs 126 []))))),[some [.var 107 [l7 1 J8 r_1.b,vi r_1.p]],some [.var 28 [.own 2 0 27 0 a0.length,.own 3 0 13 0 d7.length,.own 4 0 3 0 d9.length,.own 5 0 5 0 Told.length]],some [C6 54 27 z7 a0],some [m6 82 13 t7 d7],some [m6 85 3 C1 d9],some [m6 89 5 z5 Told],some [m6 36 3 J6 out]]⟩
def b8Q:(t8×List s5)->KS:=fun (w,out2)=>⟨a0i.k 7 [false,true,false],(bs 4 (.own 1 0 3 0 out2.length::(bs 126 []))),[some [.var 107 [l7 1 J8 w.b,vi w.p]],some [m6 36 3 J6 out2]]⟩
def d4i(w:t8)(out2:List s5):Option ((List s5)×t8):=
 some (out2,w)
theorem e74(r):NF a0i r b8Q (fun s=>d4i s.1 s.2):=fun (w,out2) h=>PK<|rg<|s8 out2<|fE h
def c4A:(t8×(List j6)×(List l8)×(List x8)×(List n6)×(List s5)×Int)->KS:=fun (r_2,Nodes1,Net1,Asked1,Told1,out1,i)=>⟨a0i.k 6 [false,true],(.ptr 0 0 0::(bs 2 (.ptr 1 0 0::(.own 6 0 3 0 out1.length::(vi i::(bs 125 [])))))),[some [.var 107 [l7 1 J8 r_2.b,vi r_2.p]],some [.var 28 [.own 2 0 27 0 Nodes1.length,.own 3 0 13 0 Net1.length,.own 4 0 3 0 Asked1.length,.own 5 0 5 0 Told1.length]],some [C6 54 27 z7 Nodes1],some [m6 82 13 t7 Net1],some [m6 85 3 C1 Asked1],some [m6 89 5 z5 Told1],some [m6 36 3 J6 out1]]⟩
def c3Q(i:Int):(t8×(List j6)×(List l8)×(List x8)×(List n6)×List s5)->KS:=fun (r_4,Nodes3,Net3,Asked3,Told3,out4)=>⟨a0i.k 9 [false,true,true,false],(.ptr 0 0 0::(bs 2 (.ptr 1 0 0::(.own 6 0 3 0 out4.length::(vi i::(bs 125 [])))))),[some [.var 107 [l7 1 J8 r_4.b,vi r_4.p]],some [.var 28 [.own 2 0 27 0 Nodes3.length,.own 3 0 13 0 Net3.length,.own 4 0 3 0 Asked3.length,.own 5 0 5 0 Told3.length]],some [C6 54 27 z7 Nodes3],some [m6 82 13 t7 Net3],some [m6 85 3 C1 Asked3],some [m6 89 5 z5 Told3],some [m6 36 3 J6 out4]]⟩
def e4m(i:Int):(t8×(List j6)×(List l8)×(List x8)×(List n6)×List s5)->KS:=fun (r_5,Nodes4,Net4,Asked4,Told4,out5)=>⟨a0i.k 12 [false,true,true,false,true],(.ptr 0 0 0::(bs 2 (.ptr 1 0 0::(.own 6 0 3 0 out5.length::(vi i::(bs 125 [])))))),[some [.var 107 [l7 1 J8 r_5.b,vi r_5.p]],some [.var 28 [.own 2 0 27 0 Nodes4.length,.own 3 0 13 0 Net4.length,.own 4 0 3 0 Asked4.length,.own 5 0 5 0 Told4.length]],some [C6 54 27 z7 Nodes4],some [m6 82 13 t7 Net4],some [m6 85 3 C1 Asked4],some [m6 89 5 z5 Told4],some [m6 36 3 J6 out5]]⟩
def b7Y(i:Int)(r_5:t8)(Nodes4:List j6)(Net4:List l8)(Asked4:List x8)(Told4:List n6)(out5:List s5):Option (j7 ((List s5)×t8) (t8×(List j6)×(List l8)×(List x8)×(List n6)×(List s5)×Int) (t8×List s5)):=
 ((G2 r_5 3).bind fun a3p=>((a1i (m5.mk Nodes4 Net4 Asked4 Told4) out5 (s5.mk 6 a3p.1 [])).bind fun a2d=>some (j7.nxt (a3p.2,a2d.1.a0,a2d.1.d7,a2d.1.d9,a2d.1.Told,a2d.2,m7 (i-1)))))
theorem e0d(i)(lc:D4 a0i b8Q c4A):NL lc (e4m i) (fun s=>b7Y i s.1 s.2.1 s.2.2.1 s.2.2.2.1 s.2.2.2.2.1 s.2.2.2.2.2):=fun (r_5,Nodes4,Net4,Asked4,Told4,out5) h=>PK<|rg<|j9 G6 H1 3 h fun a3p h=>j9 a2E a2U 5 h fun a2d h=>H8 Nodes4 Net4 Asked4 Told4<|s8 out5<|rg<|(lc.nx h fun hI=>sk [] [0,3,4,5] [(1,0),(12,0),(12,1),(12,2),(12,3),(12,4)] hI)
def c2B(i:Int)(r_4:t8)(Nodes3:List j6)(Net3:List l8)(Asked3:List x8)(Told3:List n6)(out4:List s5):Option (j7 ((List s5)×t8) (t8×(List j6)×(List l8)×(List x8)×(List n6)×(List s5)×Int) (t8×List s5)):=
 ((G2 r_4 4).bind fun Y3=>(((bif (Y3.1==0) then ((G2 Y3.2 3).bind fun a8u=>((a1i (m5.mk Nodes3 Net3 Asked3 Told3) out4 (s5.mk 7 a8u.1 [])).bind fun a1B=>some (l9.brk (a8u.2,a1B.1.a0,a1B.1.d7,a1B.1.d9,a1B.1.Told,a1B.2)))) else (bif (Y3.1==1) then ((G2 Y3.2 3).bind fun a8x=>((a1i (m5.mk Nodes3 Net3 Asked3 Told3) out4 (s5.mk 5 a8x.1 [])).bind fun b1q=>some (l9.brk (a8x.2,b1q.1.a0,b1q.1.d7,b1q.1.d9,b1q.1.Told,b1q.2)))) else some (l9.brk (Y3.2,Nodes3,Net3,Asked3,Told3,out4)))):Option (l9 (j7 ((List s5)×t8) (t8×(List j6)×(List l8)×(List x8)×(List n6)×(List s5)×Int) (t8×List s5)) (t8×(List j6)×(List l8)×(List x8)×(List n6)×List s5))).bind fun x=>x.go some fun j=>b7Y i j.1 j.2.1 j.2.2.1 j.2.2.2.1 j.2.2.2.2.1 j.2.2.2.2.2))
theorem f1j(i)(lc:D4 a0i b8Q c4A):NL lc (c3Q i) (fun s=>c2B i s.1 s.2.1 s.2.2.1 s.2.2.2.1 s.2.2.2.2.1 s.2.2.2.2.2):=fun (r_4,Nodes3,Net3,Asked3,Told3,out4) h=>PK<|rg<|j9 G6 H1 1 h fun Y3 h=>A4 h (e0d i lc) fun x2 h hc2=>rg<|j5 1 h (fun h=>rg<|j9 G6 H1 3 h fun a8u h=>j9 a2E a2U 5 h fun a1B h=>H8 Nodes3 Net3 Asked3 Told3<|s8 out4<|(o9 h hc2 fun hI=>sk [] [0,3,4,5] [(1,0),(16,0),(16,1),(16,2),(16,3),(16,4)] hI)) (fun h=>rg<|j5 1 h (fun h=>rg<|j9 G6 H1 3 h fun a8x h=>j9 a2E a2U 5 h fun b1q h=>H8 Nodes3 Net3 Asked3 Told3<|s8 out4<|(o9 h hc2 fun hI=>sk [] [0,3,4,5] [(1,0),(18,0),(18,1),(18,2),(18,3),(18,4)] hI)) (fun h=>(o9 h hc2 fun hI=>sk [] [0,3,4,5] [(1,0),(2,0),(3,0),(4,0),(5,0),(6,0)] hI)))
def d0p(i:Int):(t8×(List j6)×(List l8)×(List x8)×(List n6)×List s5)->KS:=fun (r_3,Nodes2,Net2,Asked2,Told2,out3)=>⟨a0i.k 8 [false,true,true],(.ptr 0 0 0::(bs 2 (.ptr 1 0 0::(.own 6 0 3 0 out3.length::(vi i::(bs 125 [])))))),[some [.var 107 [l7 1 J8 r_3.b,vi r_3.p]],some [.var 28 [.own 2 0 27 0 Nodes2.length,.own 3 0 13 0 Net2.length,.own 4 0 3 0 Asked2.length,.own 5 0 5 0 Told2.length]],some [C6 54 27 z7 Nodes2],some [m6 82 13 t7 Net2],some [m6 85 3 C1 Asked2],some [m6 89 5 z5 Told2],some [m6 36 3 J6 out3]]⟩
def e0G(i:Int):(t8×(List j6)×(List l8)×(List x8)×(List n6)×List s5)->KS:=fun (r_6,Nodes5,Net5,Asked5,Told5,out6)=>⟨a0i.k 11 [false,true,true,true,true],(.ptr 0 0 0::(bs 2 (.ptr 1 0 0::(.own 6 0 3 0 out6.length::(vi i::(bs 125 [])))))),[some [.var 107 [l7 1 J8 r_6.b,vi r_6.p]],some [.var 28 [.own 2 0 27 0 Nodes5.length,.own 3 0 13 0 Net5.length,.own 4 0 3 0 Asked5.length,.own 5 0 5 0 Told5.length]],some [C6 54 27 z7 Nodes5],some [m6 82 13 t7 Net5],some [m6 85 3 C1 Asked5],some [m6 89 5 z5 Told5],some [m6 36 3 J6 out6]]⟩
def b7B(r_6:t8)(Nodes5:List j6)(Net5:List l8)(Asked5:List x8)(Told5:List n6)(out6:List s5):Option (j7 ((List s5)×t8) (t8×(List j6)×(List l8)×(List x8)×(List n6)×List s5) (t8×(List j6)×(List l8)×(List x8)×(List n6)×List s5)):=
 ((G2 r_6 (Net5.length:Int)).bind fun a4T=>((a7s a4T.2 [0,0,a4T.1]).bind fun a8I=>((a1i (m5.mk Nodes5 Net5 Asked5 Told5) out6 (s5.mk 2 a8I.1 [])).bind fun b1j=>some (j7.nxt (a8I.2,b1j.1.a0,b1j.1.d7,b1j.1.d9,b1j.1.Told,b1j.2)))))
theorem f2p(i)(lc:D4 a0i (c3Q i) (d0p i)):NL lc (e0G i) (fun s=>b7B s.1 s.2.1 s.2.2.1 s.2.2.2.1 s.2.2.2.2.1 s.2.2.2.2.2):=fun (r_6,Nodes5,Net5,Asked5,Told5,out6) h=>PK<|rg<|j9 G6 H1 7 h fun a4T h=>tk 8 []<|j9 b1Q b2s 9 h fun a8I h=>om (3=[0,0,a4T.1].length) (by simp)<|j9 a2E a2U 11 h fun b1j h=>H8 Nodes5 Net5 Asked5 Told5<|s8 out6<|(lc.nx h fun hI=>sk [] [0,3,4,5] [(1,0),(18,0),(18,1),(18,2),(18,3),(18,4)] hI)
def b2I(r_3:t8)(Nodes2:List j6)(Net2:List l8)(Asked2:List x8)(Told2:List n6)(out3:List s5):Option (j7 ((List s5)×t8) (t8×(List j6)×(List l8)×(List x8)×(List n6)×List s5) (t8×(List j6)×(List l8)×(List x8)×(List n6)×List s5)):=
 (bif decide ((Net2.length:Int)>0) then ((G2 r_3 9).bind fun a5A=>(bif decide (a5A.1>0) then (bif decide ((out3.length:Int)<200) then ((((G2 a5A.2 8).bind fun a52=>(bif (a52.1==0) then ((G2 a52.2 (Net2.length:Int)).bind fun a6x=>((a1i (m5.mk Nodes2 Net2 Asked2 Told2) out3 (s5.mk 4 a6x.1 [])).bind fun b0l=>some (l9.brk (a6x.2,b0l.1.a0,b0l.1.d7,b0l.1.d9,b0l.1.Told,b0l.2)))) else some (l9.brk (a52.2,Nodes2,Net2,Asked2,Told2,out3)))):Option (l9 (j7 ((List s5)×t8) (t8×(List j6)×(List l8)×(List x8)×(List n6)×List s5) (t8×(List j6)×(List l8)×(List x8)×(List n6)×List s5)) (t8×(List j6)×(List l8)×(List x8)×(List n6)×List s5))).bind fun x=>x.go some fun j=>b7B j.1 j.2.1 j.2.2.1 j.2.2.2.1 j.2.2.2.2.1 j.2.2.2.2.2) else some (j7.brk (a5A.2,Nodes2,Net2,Asked2,Told2,out3))) else some (j7.brk (a5A.2,Nodes2,Net2,Asked2,Told2,out3)))) else some (j7.brk (r_3,Nodes2,Net2,Asked2,Told2,out3)))
theorem e86(i):LQ a0i (c3Q i) (d0p i) (fun s=>b2I s.1 s.2.1 s.2.2.1 s.2.2.2.1 s.2.2.2.2.1 s.2.2.2.2.2):=fun lc (r_3,Nodes2,Net2,Asked2,Told2,out3) h=>PK<|rg<|j5 4 h (fun h=>j9 G6 H1 6 h fun a5A h=>j5 9 h (fun h=>j5 13 h (fun h=>A4 h (f2p i lc) fun x3 h hc3=>rg<|j9 G6 H1 1 h fun a52 h=>j5 2 h (fun h=>rg<|j9 G6 H1 6 h fun a6x h=>j9 a2E a2U 8 h fun b0l h=>H8 Nodes2 Net2 Asked2 Told2<|s8 out3<|(o9 h hc3 fun hI=>sk [] [0,3,4,5] [(1,0),(32,0),(32,1),(32,2),(32,3),(32,4)] hI)) (fun h=>(o9 h hc3 fun hI=>sk [] [0,3,4,5] [(1,0),(2,0),(3,0),(4,0),(5,0),(6,0)] hI))) (fun h=>(lc.bk h fun hI=>sk [] [0,3,4,5] [(1,0),(2,0),(3,0),(4,0),(5,0),(6,0)] hI))) (fun h=>(lc.bk h fun hI=>sk [] [0,3,4,5] [(1,0),(2,0),(3,0),(4,0),(5,0),(6,0)] hI))) (fun h=>(lc.bk h fun hI=>sk [] [0,3,4,5] [(1,0),(2,0),(3,0),(4,0),(5,0),(6,0)] hI))
def b0T(r_2:t8)(Nodes1:List j6)(Net1:List l8)(Asked1:List x8)(Told1:List n6)(out1:List s5)(i:Int):Option (j7 ((List s5)×t8) (t8×(List j6)×(List l8)×(List x8)×(List n6)×(List s5)×Int) (t8×List s5)):=
 (bif decide (i>0) then ((G2 r_2 3).bind fun a0b=>((a4N a0b.2).bind fun a5L=>((a1i (m5.mk Nodes1 Net1 Asked1 Told1) out1 (s5.mk 1 a0b.1 a5L.1)).bind fun a1A=>((o7 (fun s:t8×(List j6)×(List l8)×(List x8)×(List n6)×List s5=>b2I s.1 s.2.1 s.2.2.1 s.2.2.2.1 s.2.2.2.2.1 s.2.2.2.2.2) (a5L.2,a1A.1.a0,a1A.1.d7,a1A.1.d9,a1A.1.Told,a1A.2)).bind fun x=>x.go (fun r=>some (j7.ret r)) fun s=>c2B i s.1 s.2.1 s.2.2.1 s.2.2.2.1 s.2.2.2.2.1 s.2.2.2.2.2)))) else some (j7.brk (r_2,out1)))
theorem e66:LQ a0i b8Q c4A (fun s=>b0T s.1 s.2.1 s.2.2.1 s.2.2.2.1 s.2.2.2.2.1 s.2.2.2.2.2.1 s.2.2.2.2.2.2):=fun lc (r_2,Nodes1,Net1,Asked1,Told1,out1,i) h=>PK<|rg<|j5 1 h (fun h=>rg<|j9 G6 H1 3 h fun a0b h=>j9 a3v b4J 5 h fun a5L h=>j9 a2E a2U 7 h fun a1A h=>H8 Nodes1 Net1 Asked1 Told1<|C9 out1 a5L.1<|lp (e86 i) h (fun _ h=>lc.rt h) (f1j i lc) fun hI=>sk [] [0,3,4,5] [(1,0),(16,0),(16,1),(16,2),(16,3),(16,4)] hI) (fun h=>(lc.bk h fun hI=>sk [] [4] [(6,0)] hI))
def c0p(r_1:t8)(a0:List j6)(d7:List l8)(d9:List x8)(Told:List n6)(out:List s5):Option ((List s5)×t8):=
 ((G2 r_1 3).bind fun a0o=>((o7 (fun s:t8×(List j6)×(List l8)×(List x8)×(List n6)×(List s5)×Int=>b0T s.1 s.2.1 s.2.2.1 s.2.2.2.1 s.2.2.2.2.1 s.2.2.2.2.2.1 s.2.2.2.2.2.2) (a0o.2,a0,d7,d9,Told,out,m7 (3+a0o.1))).bind fun x=>x.go (fun r=>some r) fun s=>d4i s.1 s.2))
theorem f3M(r):NF a0i r e38 (fun s=>c0p s.1 s.2.1 s.2.2.1 s.2.2.2.1 s.2.2.2.2.1 s.2.2.2.2.2):=fun (r_1,a0,d7,d9,Told,out) h=>PK<|rg<|j9 G6 H1 1 h fun a0o h=>lp (e66) h (fun _ h=>a0i.rt h) (e74 r) fun hI=>sk [] [0,3,4,5] [(1,0),(2,0),(3,0),(4,0),(5,0),(6,0)] hI
def b99(r_:t8):Option ((List s5)×t8):=
 ((c02).bind fun b1r=>((G2 r_ 3).bind fun pick=>((a1i b1r [] (s5.mk 5 pick.1 [])).bind fun T3=>((G2 pick.2 3).bind fun F8=>(bif decide (F8.1>0) then ((a7s F8.2 [10,30,60,90]).bind fun num=>((b7x num.2 T3.1 num.1).bind fun a8D=>(t5 ((T3.2.length+a8D.1.length)*40<=140737488355328) (some (T3.2++a8D.1,a8D.2))))) else ((((G2 F8.2 5).bind fun a7c=>(bif (a7c.1==0) then ((b8x a7c.2 T3.1 T3.2).bind fun a7Q=>some (l9.brk (a7Q.2.2,a7Q.1.a0,a7Q.1.d7,a7Q.1.d9,a7Q.1.Told,a7Q.2.1))) else some (l9.brk (a7c.2,T3.1.a0,T3.1.d7,T3.1.d9,T3.1.Told,T3.2)))):Option (l9 ((List s5)×t8) (t8×(List j6)×(List l8)×(List x8)×(List n6)×List s5))).bind fun x=>x.go some fun j=>c0p j.1 j.2.1 j.2.2.1 j.2.2.2.1 j.2.2.2.2.1 j.2.2.2.2.2))))))
theorem e27{r_}:OK a0i [.optr 107 (a0g r_)] (b99 r_):=
 o8 _ fun r h=>n9<|j9 a9z f6J 0 h fun b1r h=>j9 G6 H1 2 h fun pick h=>j9 a2E a2U 4 h fun T3 h=>B3 b1r<|rg<|j9 G6 H1 1 h fun F8 h=>j5 2 h (fun h=>rg<|tk 4 []<|j9 b1Q b2s 5 h fun num h=>om (4=[10,30,60,90].length) (by simp)<|j9 a5s e2x 6 h fun a8D h=>B3 T3.1<|t9 h fun e1 h=>apL 7 23 36 3 40 J6 T3.2 a8D.1 e1<|C9 a8D.1 (T3.2++a8D.1)<|fE h) (fun h=>A4 h (f3M r) fun x1 h hc1=>rg<|j9 G6 H1 1 h fun a7c h=>j5 2 h (fun h=>rg<|j9 a1R e2I 3 h fun a7Q h=>B3 T3.1<|s8 T3.2<|(o9 h hc1 fun hI=>sk [] [0,3,4] [(10,0),(22,0),(22,1),(22,2),(22,3),(22,4)] hI)) (fun h=>(o9 h hc1 fun hI=>sk [] [0,3,4] [(10,0),(6,0),(6,1),(6,2),(6,3),(6,4)] hI)))
def d6i:FS (List s5):=⟨6,Tryz.f6,[.val [some 3] []],[none],[.val [some 1] []],fun r=>l7 3 J6 r,fun _=>[none],Tryz.func6⟩
def b55(code:List Int):Option (List s5):=
 ((b9X code).bind fun d7h=>((b99 d7h).bind fun c3M=>some c3M.1))
theorem e8V{code}:OK d6i [l7 1 J8 code] (b55 code):=
 o8 _ fun r h=>n9<|j9 b84 f3S 1 h fun d7h h=>j9 a0i e27 2 h fun c3M h=>s8 c3M.1<|fE h
def a81:FS (Bool):=⟨125,Tryz.f125,[.val [] []],[none,none],[.val [some 2] [],.val [some 2] []],fun r=>.b r,fun _=>[none,none],Tryz.func125⟩
def c7X:Unit->KS:=fun _=>⟨a81.k 4 [false,false],(bs 26 []),[some []]⟩
def d8e:Option Bool:=
 some true
theorem e4o(r):NF a81 r c7X (fun s=>d8e):=fun _ h=>PK<|rg<|fE h
def f6G(a:List r9)(b:List r9):Int->KS:=fun v13=>⟨a81.k 3 [false],(l7 2 w8 a::(l7 2 w8 b::(bs 10 (vi (a.length:Int)::(vi v13::(bs 12 [])))))),[some []]⟩
def b8b(a:List r9)(b:List r9)(v13:Int):Option (j7 Bool Int Unit):=
 (bif decide (v13<(a.length:Int)) then ((idx a v13).bind fun read=>((idx b v13).bind fun T2=>(bif (!(([read.i5,read.j4]:List Int)==[T2.i5,T2.j4])) then some (j7.ret false) else some (j7.nxt (m7 (v13+1)))))) else some (j7.brk ()))
theorem f6X(a b):LQ a81 c7X (f6G a b) (fun s=>b8b a b s):=fun lc v13 h=>PK<|rg<|j5 0 h (fun h=>n9<|u0 w8 2 h fun read a4r h=>u0 w8 6 h fun T2 d7J h=>j5 8 h (fun h=>rg<|fL lc h) (fun h=>rg<|(lc.nx h fun hI=>sk [] [0,1,12,13] [] hI))) (fun h=>(lc.bk h fun hI=>sk [] [] [] hI))
def b9x(a:List r9)(b:List r9):Option Bool:=
 (bif ((a.length:Int) != (b.length:Int)) then some false else ((o7 (fun s:Int=>b8b a b s) 0).bind fun x=>x.go (fun r=>some r) fun s=>d8e))
theorem e72{a b}:OK a81 [l7 2 w8 a,l7 2 w8 b] (b9x a b):=
 o8 _ fun r h=>n9<|j5 4 h (fun h=>rg<|fE h) (fun h=>rg<|lp (f6X a b) h (fun _ h=>a81.rt h) (e4o r) fun hI=>sk [] [0,1,12,13] [] hI)
def a8J:FS (Bool):=⟨126,Tryz.f126,[.val [] []],[none,none],[.val [some 2] [],.val [some 2] []],fun r=>.b r,fun _=>[none,none],Tryz.func126⟩
def d3z:Unit->KS:=fun _=>⟨a8J.k 4 [false,false],(bs 26 []),[some []]⟩
def d2G:Option Bool:=
 some true
theorem e6k(r):NF a8J r d3z (fun s=>d2G):=fun _ h=>PK<|rg<|fE h
def e0l(a:List p8)(b:List p8):Int->KS:=fun v13=>⟨a8J.k 3 [false],(l7 2 w9 a::(l7 2 w9 b::(bs 10 (vi (a.length:Int)::(vi v13::(bs 12 [])))))),[some []]⟩
def b9u(a:List p8)(b:List p8)(v13:Int):Option (j7 Bool Int Unit):=
 (bif decide (v13<(a.length:Int)) then ((idx a v13).bind fun put=>((idx b v13).bind fun put1=>(bif (!(([put.i5,put.d8]:List Int)==[put1.i5,put1.d8])) then some (j7.ret false) else some (j7.nxt (m7 (v13+1)))))) else some (j7.brk ()))
theorem e5n(a b):LQ a8J d3z (e0l a b) (fun s=>b9u a b s):=fun lc v13 h=>PK<|rg<|j5 0 h (fun h=>n9<|u0 w9 2 h fun put hput h=>u0 w9 6 h fun put1 b26 h=>j5 8 h (fun h=>rg<|fL lc h) (fun h=>rg<|(lc.nx h fun hI=>sk [] [0,1,12,13] [] hI))) (fun h=>(lc.bk h fun hI=>sk [] [] [] hI))
def c0M(a:List p8)(b:List p8):Option Bool:=
 (bif ((a.length:Int) != (b.length:Int)) then some false else ((o7 (fun s:Int=>b9u a b s) 0).bind fun x=>x.go (fun r=>some r) fun s=>d2G))
theorem e1R{a b}:OK a8J [l7 2 w9 a,l7 2 w9 b] (c0M a b):=
 o8 _ fun r h=>n9<|j5 4 h (fun h=>rg<|fE h) (fun h=>rg<|lp (e5n a b) h (fun _ h=>a8J.rt h) (e6k r) fun hI=>sk [] [0,1,12,13] [] hI)
def d59:FS (Bool):=⟨76,Tryz.f76,[.val [] []],[none,none],[.val O8 [],.val O8 []],fun r=>.b r,fun _=>[none,none],Tryz.func76⟩
def b8m(a:n7)(b:n7):Option Bool:=
 ((b9x a.b5 b.b5).bind fun read=>(bif read then ((c0M a.b7 b.b7).bind fun put=>(bif put then (bif (a.d8==b.d8) then some (a.Code==b.Code) else some false) else some false)) else some false))
theorem e9o{a b}:OK d59 [.agg (R9 a),.agg (R9 b)] (b8m a b):=
 o8 _ fun r h=>n9<|j9 a81 e72 4 h fun read h=>j5 5 h (fun h=>j9 a8J e1R 10 h fun put h=>j5 12 h (fun h=>j5 19 h (fun h=>fE h) (fun h=>fE h)) (fun h=>fE h)) (fun h=>fE h)
def a4c:FS (Bool):=⟨30,Tryz.f30,[.val [] []],[none,none],[.val J5 [],.val J5 []],fun r=>.b r,fun _=>[none,none],Tryz.func30⟩
def a1H(a:m4)(b:m4):Option Bool:=
 (bif (a.i7==b.i7) then (bif (([a.a5.b9,a.a5.Seq]:List Int)==[b.a5.b9,b.a5.Seq]) then ((b8m a.b6 b.b6).bind fun a1m=>some a1m) else some false) else some false)
theorem a43{a b}:OK a4c [.agg (s6 a),.agg (s6 b)] (a1H a b):=
 o8 _ fun r h=>n9<|j5 5 h (fun h=>j5 12 h (fun h=>j9 d59 e9o 17 h fun a1m h=>fE h) (fun h=>fE h)) (fun h=>fE h)
def b1g:FS (Bool):=⟨42,Tryz.f42,[.val [] []],[none],[.val [] []],fun r=>.b r,fun _=>[none],Tryz.func42⟩
def a7v(q:n5):Option Bool:=
 ((D7 q.b9 0 2).bind fun in_=>(bif in_ then ((D7 q.Seq 1 1000).bind fun in_1=>some in_1) else some false))
theorem b3d{q}:OK b1g [.agg (F4 q)] (a7v q):=
 o8 _ fun r h=>n9<|j9 D5 G0 2 h fun in_ h=>j5 3 h (fun h=>j9 D5 G0 6 h fun in_1 h=>fE h) (fun h=>fE h)
def a0q:FS (Bool):=⟨130,Tryz.f130,[.val [] []],[none],[.val O8 []],fun r=>.b r,fun _=>[none],Tryz.func130⟩
def e5Z(r_:n7):Unit->KS:=fun _=>⟨a0q.k 2 [false],(bs 1 (.ptr 1 0 0::(bs 98 []))),[some [],some [.var 50 (a0S r_)]]⟩
def d4w(r_:n7):Unit->KS:=fun _=>⟨a0q.k 5 [false,false],(bs 1 (.ptr 1 0 0::(bs 2 (.ptr 2 0 0::(bs 95 []))))),[some [],some [.var 50 (a0S r_)],some [.arr 192 1 4 ((f8O 4 false).map eB)]]⟩
def c84:Unit->KS:=fun _=>⟨a0q.k 7 [false,false,false],(bs 100 []),[some []]⟩
def d1I:Option Bool:=
 some true
theorem f2s(r):NF a0q r c84 (fun s=>d1I):=fun _ h=>PK<|rg<|fE h
def f6s(r_:n7):((List Bool)×Int)->KS:=fun (put,v76)=>⟨a0q.k 6 [false,false],(bs 4 (.ptr 1 0 0::(bs 69 (l7 2 w9 r_.b7::(vi (r_.b7.length:Int)::(vi v76::(bs 23 []))))))),[some [],some [.arr 192 1 4 (put.map eB)]]⟩
def b0C(r_:n7)(put:List Bool)(v76:Int):Option (j7 Bool ((List Bool)×Int) Unit):=
 (bif decide (v76<(r_.b7.length:Int)) then ((idx r_.b7 v76).bind fun put1=>((D7 put1.i5 0 3).bind fun in_=>(bif (!in_) then some (j7.ret false) else ((idx put put1.i5).bind fun y=>(t5 (put1.i5<4) ((bif y then some (j7.ret false) else ((D7 put1.d8 (-1000000) 1000000).bind fun in_1=>(bif (!in_1) then some (j7.ret false) else (t5 (put1.i5<4) (some (j7.nxt (put.set put1.i5.toNat true,m7 (v76+1)))))))))))))) else some (j7.brk ()))
theorem e4G(r_):LQ a0q c84 (f6s r_) (fun s=>b0C r_ s.1 s.2):=fun lc (put,v76) h=>PK<|rg<|j5 0 h (fun h=>rg<|u0 w9 0 h fun put1 b26 h=>rg<|j9 D5 G0 2 h fun in_ h=>j5 4 h (fun h=>rg<|fL lc h) (fun h=>B0 h fun y hy h=>t9 h fun e1 h=>ob (P5 hy)<|ob e1<|ob (V5 (enc:=eB) hy)<|tl (tr 8 (eB y))<|j5 10 h (fun h=>rg<|fL lc h) (fun h=>j9 D5 G0 13 h fun in_1 h=>j5 15 h (fun h=>rg<|fL lc h) (fun h=>rg<|t9 h fun e2 h=>ob (P5 hy)<|ob e2<|om (s9.arr 192 1 4 ((put.map eB).set (put1.i5.toNat) [.b true])=s9.arr 192 1 4 ((put.set put1.i5.toNat true).map eB)) (a9h rfl)<|ob (V5 (enc:=eB) hy)<|tl (3,{a:=.rowck (eB y) [],e:=some (.arr 192 1 4 ((put.set put1.i5.toNat true).map eB))})<|rg<|(lc.nx h fun hI=>sk [] [4,74,75,76] [(1,0)] hI))))) (fun h=>(lc.bk h fun hI=>sk [] [] [] hI))
def c5Z(r_:n7):Option Bool:=
 ((o7 (fun s:(List Bool)×Int=>b0C r_ s.1 s.2) (f8O 4 false,0)).bind fun x=>x.go (fun r=>some r) fun s=>d1I)
theorem e9a(r_)(r):NF a0q r (d4w r_) (fun s=>c5Z r_):=fun _ h=>PK<|rg<|lp (e4G r_) h (fun _ h=>a0q.rt h) (f2s r) fun hI=>sk [] [4,74,75,76] [(2,0)] hI
def f3N(r_:n7):((List Bool)×Int)->KS:=fun (read,v49)=>⟨a0q.k 4 [false],(bs 1 (.ptr 1 0 0::(bs 1 (.ptr 2 0 0::(.ptr 3 0 0::(bs 42 (l7 2 w8 r_.b5::(vi (r_.b5.length:Int)::(vi v49::(bs 50 [])))))))))),[some [],some [.var 50 (a0S r_)],some [.arr 192 1 4 (read.map eB)],some [.arr 192 1 4 ((f8O 4 false).map eB)]]⟩
def b0h(r_:n7)(read:List Bool)(v49:Int):Option (j7 Bool ((List Bool)×Int) Unit):=
 (bif decide (v49<(r_.b5.length:Int)) then ((idx r_.b5 v49).bind fun T2=>((D7 T2.i5 0 3).bind fun in_2=>(bif (!in_2) then some (j7.ret false) else ((idx read T2.i5).bind fun y1=>(t5 (T2.i5<4) ((bif y1 then some (j7.ret false) else ((D7 T2.j4 0 1000000).bind fun a0j=>(bif (!a0j) then some (j7.ret false) else (t5 (T2.i5<4) (some (j7.nxt (read.set T2.i5.toNat true,m7 (v49+1)))))))))))))) else some (j7.brk ()))
theorem e4H(r_):LQ a0q (d4w r_) (f3N r_) (fun s=>b0h r_ s.1 s.2):=fun lc (read,v49) h=>PK<|rg<|j5 0 h (fun h=>rg<|u0 w8 0 h fun T2 d7J h=>rg<|j9 D5 G0 2 h fun in_2 h=>j5 4 h (fun h=>rg<|fL lc h) (fun h=>B0 h fun y1 hy1 h=>t9 h fun e3 h=>ob (P5 hy1)<|ob e3<|ob (V5 (enc:=eB) hy1)<|tl (tr 8 (eB y1))<|j5 10 h (fun h=>rg<|fL lc h) (fun h=>j9 D5 G0 13 h fun a0j h=>j5 15 h (fun h=>rg<|fL lc h) (fun h=>rg<|t9 h fun e4 h=>ob (P5 hy1)<|ob e4<|om (s9.arr 192 1 4 ((read.map eB).set (T2.i5.toNat) [.b true])=s9.arr 192 1 4 ((read.set T2.i5.toNat true).map eB)) (a9h rfl)<|ob (V5 (enc:=eB) hy1)<|tl (3,{a:=.rowck (eB y1) [],e:=some (.arr 192 1 4 ((read.set T2.i5.toNat true).map eB))})<|rg<|(lc.nx h fun hI=>sk [] [1,3,4,47,48,49] [(1,0),(2,0),(3,0)] hI))))) (fun h=>(lc.bk h fun hI=>sk [] [1,4] [(1,0),(3,0)] hI))
def b7p(r_:n7):Option Bool:=
 ((o7 (fun s:(List Bool)×Int=>b0h r_ s.1 s.2) (f8O 4 false,0)).bind fun x=>x.go (fun r=>some r) fun s=>c5Z r_)
theorem e7m(r_)(r):NF a0q r (e5Z r_) (fun s=>b7p r_):=fun _ h=>PK<|rg<|om ((f8O 4 ([.b false]:List V)).flatten=[.b false,.b false,.b false,.b false]/\([.b false]:List V).length=1) ⟨rfl,rfl⟩<|om ((f8O 4 ([.b false]:List V)).flatten=[.b false,.b false,.b false,.b false]/\([.b false]:List V).length=1) ⟨rfl,rfl⟩<|rg<|lp (e4H r_) h (fun _ h=>a0q.rt h) (e9a r_ r) fun hI=>sk [] [1,3,4,47,48,49] [(1,0),(2,0),(3,0)] hI
def b1T(r_:n7):Option Bool:=
 ((((D7 r_.Code 0 3).bind fun a4G=>(bif (!a4G) then some (l9.ret false) else ((D7 r_.d8 (-1000000) 1000000).bind fun a9V=>(bif (!a9V) then some (l9.ret false) else (bif (r_.Code != 0) then (bif (r_.d8 != 0) then some (l9.ret false) else (bif decide ((r_.b7.length:Int)>0) then some (l9.ret false) else (bif (r_.Code==3) then (bif decide ((r_.b5.length:Int)>0) then some (l9.ret false) else some (l9.brk ())) else some (l9.brk ())))) else (bif (r_.Code==3) then (bif decide ((r_.b5.length:Int)>0) then some (l9.ret false) else some (l9.brk ())) else some (l9.brk ()))))))):Option (l9 Bool Unit)).bind fun x=>x.go some fun j=>b7p r_)
theorem c61{r_}:OK a0q [.agg (R9 r_)] (b1T r_):=
 o8 _ fun r h=>rg<|A4 h (e7m r_ r) fun x1 h hc1=>rg<|j9 D5 G0 2 h fun a4G h=>j5 4 h (fun h=>rg<|(B8 h hc1 fun h=>fE h)) (fun h=>j9 D5 G0 7 h fun a9V h=>j5 10 h (fun h=>rg<|(B8 h hc1 fun h=>fE h)) (fun h=>j5 14 h (fun h=>j5 18 h (fun h=>rg<|(B8 h hc1 fun h=>fE h)) (fun h=>j5 26 h (fun h=>rg<|(B8 h hc1 fun h=>fE h)) (fun h=>j5 30 h (fun h=>j5 36 h (fun h=>rg<|(B8 h hc1 fun h=>fE h)) (fun h=>(o9 h hc1 fun hI=>sk [] [1] [(1,0)] hI))) (fun h=>(o9 h hc1 fun hI=>sk [] [1] [(1,0)] hI))))) (fun h=>j5 30 h (fun h=>j5 36 h (fun h=>rg<|(B8 h hc1 fun h=>fE h)) (fun h=>(o9 h hc1 fun hI=>sk [] [1] [(1,0)] hI))) (fun h=>(o9 h hc1 fun hI=>sk [] [1] [(1,0)] hI)))))
def a29:FS (Bool):=⟨86,Tryz.f86,[.val [] []],[none],[.val J5 []],fun r=>.b r,fun _=>[none],Tryz.func86⟩
def a1T(e_:m4):Option Bool:=
 (bif e_.i7 then ((a1H e_ (m4.mk true (n5.mk 0 0) (n7.mk [] [] 0 0))).bind fun G8=>some G8) else ((a7v e_.a5).bind fun a6B=>(bif a6B then ((b1T e_.b6).bind fun a1j=>(bif a1j then some (e_.b6.Code != 3) else some false)) else some false)))
theorem a4A{e_}:OK a29 [.agg (s6 e_)] (a1T e_):=
 o8 _ fun r h=>n9<|j5 1 h (fun h=>rg<|j9 a4c a43 2 h fun G8 h=>fE h) (fun h=>rg<|j9 b1g b3d 2 h fun a6B h=>j5 3 h (fun h=>j9 a0q c61 6 h fun a1j h=>j5 8 h (fun h=>fE h) (fun h=>fE h)) (fun h=>fE h))
def d1i:FS (Bool):=⟨133,Tryz.f133,[.val [] []],[none],[.val U8 []],fun r=>.b r,fun _=>[none],Tryz.func133⟩
def b6t(v_:m8):Option Bool:=
 (bif (v_.a8==0) then ((a1H v_.g9 (m4.mk false (n5.mk 0 0) (n7.mk [] [] 0 0))).bind fun G8=>some G8) else ((D7 v_.a8 1 3000).bind fun in_=>(bif in_ then ((a1T v_.g9).bind fun F6=>some F6) else some false)))
theorem e9b{v_}:OK d1i [.agg (q8 v_)] (b6t v_):=
 o8 _ fun r h=>n9<|j5 2 h (fun h=>rg<|j9 a4c a43 3 h fun G8 h=>fE h) (fun h=>rg<|j9 D5 G0 2 h fun in_ h=>j5 3 h (fun h=>j9 a29 a4A 6 h fun F6 h=>fE h) (fun h=>fE h))
def a26:FS (Bool):=⟨88,Tryz.f88,[.val [] []],[none],[.val [some 8] []],fun r=>.b r,fun _=>[none],Tryz.func88⟩
def c8e(list:List m8):Unit->KS:=fun _=>⟨a26.k 3 [false],(l7 8 q8 list::(bs 17 [])),[some []]⟩
def c3S(list:List m8):Option Bool:=
 some (decide ((list.length:Int)<=40))
theorem e60(list)(r):NF a26 r (c8e list) (fun s=>c3S list):=fun _ h=>PK<|rg<|fE h
def e6G(list:List m8):Int->KS:=fun v7=>⟨a26.k 2 [],(l7 8 q8 list::(bs 4 (l7 8 q8 list::(vi (list.length:Int)::(vi v7::(bs 10 [])))))),[some []]⟩
def c0E(list:List m8)(v7:Int):Option (j7 Bool Int Unit):=
 (bif decide (v7<(list.length:Int)) then ((idx list v7).bind fun vote=>((b6t vote).bind fun a0e=>(bif (!a0e) then some (j7.ret false) else some (j7.nxt (m7 (v7+1)))))) else some (j7.brk ()))
theorem e3x(list):LQ a26 (c8e list) (e6G list) (fun s=>c0E list s):=fun lc v7 h=>PK<|rg<|j5 0 h (fun h=>rg<|u0 q8 0 h fun vote K8 h=>rg<|j9 d1i e9b 1 h fun a0e h=>j5 2 h (fun h=>rg<|fL lc h) (fun h=>rg<|(lc.nx h fun hI=>sk [] [0,5,6,7] [] hI))) (fun h=>(lc.bk h fun hI=>sk [] [0] [] hI))
def a7a(list:List m8):Option Bool:=
 ((o7 (fun s:Int=>c0E list s) 0).bind fun x=>x.go (fun r=>some r) fun s=>c3S list)
theorem b3q{list}:OK a26 [l7 8 q8 list] (a7a list):=
 o8 _ fun r h=>n9<|lp (e3x list) h (fun _ h=>a26.rt h) (e60 list r) fun hI=>sk [] [0,5,6,7] [] hI
def a5E:FS (Bool):=⟨85,Tryz.f85,[.val [] []],[none],[.val [none,some 8] []],fun r=>.b r,fun _=>[none],Tryz.func85⟩
def d3i(a:z0):Unit->KS:=fun _=>⟨a5E.k 3 [false],(bs 1 (.ptr 1 0 0::(bs 24 []))),[some [],some [.var 42 [vi a.i0,l7 8 q8 a.a7]]]⟩
def c3H(a:z0):Option Bool:=
 ((D7 a.i0 0 3000).bind fun in_=>(bif in_ then ((a7a a.a7).bind fun L4=>some L4) else some false))
theorem f7C(a)(r):NF a5E r (d3i a) (fun s=>c3H a):=fun _ h=>PK<|rg<|j9 D5 G0 2 h fun in_ h=>j5 3 h (fun h=>j9 a26 b3q 6 h fun L4 h=>fE h) (fun h=>fE h)
def e8j(a:z0):Int->KS:=fun v8=>⟨a5E.k 2 [],(bs 1 (.ptr 1 0 0::(bs 4 (l7 8 q8 a.a7::(vi (a.a7.length:Int)::(vi v8::(bs 17 []))))))),[some [],some [.var 42 [vi a.i0,l7 8 q8 a.a7]]]⟩
def c0L(a:z0)(v8:Int):Option (j7 Bool Int Unit):=
 (bif decide (v8<(a.a7.length:Int)) then ((idx a.a7 v8).bind fun vote=>(bif decide (vote.a8>a.i0) then some (j7.ret false) else some (j7.nxt (m7 (v8+1))))) else some (j7.brk ()))
theorem f0j(a):LQ a5E (d3i a) (e8j a) (fun s=>c0L a s):=fun lc v8 h=>PK<|rg<|j5 0 h (fun h=>rg<|u0 q8 0 h fun vote K8 h=>rg<|j5 4 h (fun h=>rg<|fL lc h) (fun h=>rg<|(lc.nx h fun hI=>sk [] [1,6,7,8] [(1,0)] hI))) (fun h=>(lc.bk h fun hI=>sk [] [1] [(1,0)] hI))
def a9N(a:z0):Option Bool:=
 ((o7 (fun s:Int=>c0L a s) 0).bind fun x=>x.go (fun r=>some r) fun s=>c3H a)
theorem c6M{a}:OK a5E [.agg (a0Z a)] (a9N a):=
 o8 _ fun r h=>n9<|lp (f0j a) h (fun _ h=>a5E.rt h) (f7C a r) fun hI=>sk [] [1,6,7,8] [(1,0)] hI
def a5J:FS (Bool):=⟨78,Tryz.f78,[.val [] []],[none],[.val [some 7] []],fun r=>.b r,fun _=>[none],Tryz.func78⟩
def d3O(list:List m4):Unit->KS:=fun _=>⟨a5J.k 3 [false],(l7 7 s6 list::(bs 17 [])),[some []]⟩
def c24(list:List m4):Option Bool:=
 some (decide ((list.length:Int)<=40))
theorem d9x(list)(r):NF a5J r (d3O list) (fun s=>c24 list):=fun _ h=>PK<|rg<|fE h
def e1X(list:List m4):Int->KS:=fun v7=>⟨a5J.k 2 [],(l7 7 s6 list::(bs 4 (l7 7 s6 list::(vi (list.length:Int)::(vi v7::(bs 10 [])))))),[some []]⟩
def c0g(list:List m4)(v7:Int):Option (j7 Bool Int Unit):=
 (bif decide (v7<(list.length:Int)) then ((idx list v7).bind fun entry=>((a1T entry).bind fun F6=>(bif (!F6) then some (j7.ret false) else some (j7.nxt (m7 (v7+1)))))) else some (j7.brk ()))
theorem e7T(list):LQ a5J (d3O list) (e1X list) (fun s=>c0g list s):=fun lc v7 h=>PK<|rg<|j5 0 h (fun h=>rg<|u0 s6 0 h fun entry E9 h=>rg<|j9 a29 a4A 1 h fun F6 h=>j5 2 h (fun h=>rg<|fL lc h) (fun h=>rg<|(lc.nx h fun hI=>sk [] [0,5,6,7] [] hI))) (fun h=>(lc.bk h fun hI=>sk [] [0] [] hI))
def b0z(list:List m4):Option Bool:=
 ((o7 (fun s:Int=>c0g list s) 0).bind fun x=>x.go (fun r=>some r) fun s=>c24 list)
theorem c6g{list}:OK a5J [l7 7 s6 list] (b0z list):=
 o8 _ fun r h=>n9<|lp (e7T list) h (fun _ h=>a5J.rt h) (d9x list r) fun hI=>sk [] [0,5,6,7] [] hI
def a4n:FS (Bool):=⟨134,Tryz.f134,[.val [] []],[none],[.val [] []],fun r=>.b r,fun _=>[none],Tryz.func134⟩
def a3F(n:Int):Option Bool:=
 ((D7 n 0 3).bind fun in_=>some in_)
theorem a4U{n}:OK a4n [vi n] (a3F n):=
 o8 _ fun r h=>n9<|j9 D5 G0 1 h fun in_ h=>fE h
def c7y:FS (Bool):=⟨135,Tryz.f135,[.val [] []],[none],[.val [] []],fun r=>.b r,fun _=>[none],Tryz.func135⟩
def b6Y(n:Int):Option Bool:=
 ((D7 n 0 3).bind fun in_=>some in_)
theorem d05{n}:OK c7y [vi n] (b6Y n):=
 o8 _ fun r h=>n9<|j9 D5 G0 1 h fun in_ h=>fE h
def d1c:FS (Bool):=⟨89,Tryz.f89,[.val [] []],[none],[.val [] []],fun r=>.b r,fun _=>[none],Tryz.func89⟩
def b8H(x_:n8):Option Bool:=
 (bif (x_.a9==1) then ((a3F x_.A).bind fun c1=>(bif c1 then ((b6Y x_.B).bind fun c2=>(bif c2 then some (x_.N==0) else some false)) else some false)) else (bif (x_.a9==2) then ((b6Y x_.A).bind fun c21=>(bif c21 then ((a3F x_.B).bind fun c11=>(bif c11 then some (x_.N==0) else some false)) else some false)) else (bif (x_.a9==3) then ((a3F x_.A).bind fun c12=>(bif c12 then (bif (x_.B==0) then ((D7 x_.N (-1000000) 1000000).bind fun in_=>some in_) else some false) else some false)) else (bif (x_.a9==4) then ((a3F x_.A).bind fun c13=>(bif c13 then ((a3F x_.B).bind fun c14=>(bif c14 then some (x_.N==0) else some false)) else some false)) else (bif (x_.a9==5) then ((a3F x_.A).bind fun c15=>(bif c15 then ((a3F x_.B).bind fun c16=>(bif c16 then some (x_.N==0) else some false)) else some false)) else (bif (x_.a9==6) then ((a3F x_.A).bind fun c17=>(bif c17 then ((a3F x_.B).bind fun c18=>(bif c18 then ((D7 x_.N 1 10).bind fun in_1=>some in_1) else some false)) else some false)) else (bif (x_.a9==7) then (bif (x_.A==0) then (bif (x_.B==0) then some (x_.N==0) else some false) else some false) else some false)))))))
theorem f02{x_}:OK d1c [.agg (A6 x_)] (b8H x_):=
 o8 _ fun r h=>rg4<|rg<|j5 1 h (fun h=>rg<|j9 a4n a4U 3 h fun c1 h=>j5 4 h (fun h=>j9 c7y d05 8 h fun c2 h=>j5 10 h (fun h=>fE h) (fun h=>fE h)) (fun h=>fE h)) (fun h=>rg<|j5 1 h (fun h=>rg<|j9 c7y d05 3 h fun c21 h=>j5 4 h (fun h=>j9 a4n a4U 8 h fun c11 h=>j5 10 h (fun h=>fE h) (fun h=>fE h)) (fun h=>fE h)) (fun h=>rg<|j5 1 h (fun h=>rg<|j9 a4n a4U 3 h fun c12 h=>j5 4 h (fun h=>j5 9 h (fun h=>j9 D5 G0 12 h fun in_ h=>fE h) (fun h=>fE h)) (fun h=>fE h)) (fun h=>rg<|j5 1 h (fun h=>rg<|j9 a4n a4U 3 h fun c13 h=>j5 4 h (fun h=>j9 a4n a4U 8 h fun c14 h=>j5 10 h (fun h=>fE h) (fun h=>fE h)) (fun h=>fE h)) (fun h=>rg<|j5 1 h (fun h=>rg<|j9 a4n a4U 3 h fun c15 h=>j5 4 h (fun h=>j9 a4n a4U 8 h fun c16 h=>j5 10 h (fun h=>fE h) (fun h=>fE h)) (fun h=>fE h)) (fun h=>rg<|j5 1 h (fun h=>rg<|j9 a4n a4U 3 h fun c17 h=>j5 4 h (fun h=>j9 a4n a4U 8 h fun c18 h=>j5 10 h (fun h=>j9 D5 G0 13 h fun in_1 h=>fE h) (fun h=>fE h)) (fun h=>fE h)) (fun h=>rg<|j5 1 h (fun h=>rg<|j5 3 h (fun h=>j5 8 h (fun h=>fE h) (fun h=>fE h)) (fun h=>fE h)) (fun h=>rg<|fE h)))))))
def a3W:FS (Bool):=⟨43,Tryz.f43,[.val [] []],[none],[.val [some 4] []],fun r=>.b r,fun _=>[none],Tryz.func43⟩
def d8N(list:List n8):Unit->KS:=fun _=>⟨a3W.k 3 [false],(l7 4 A6 list::(bs 17 [])),[some []]⟩
def c2E(list:List n8):Option Bool:=
 some (decide ((list.length:Int)<=10))
theorem e8u(list)(r):NF a3W r (d8N list) (fun s=>c2E list):=fun _ h=>PK<|rg<|fE h
def f0y(list:List n8):Int->KS:=fun v7=>⟨a3W.k 2 [],(l7 4 A6 list::(bs 4 (l7 4 A6 list::(vi (list.length:Int)::(vi v7::(bs 10 [])))))),[some []]⟩
def b77(list:List n8)(v7:Int):Option (j7 Bool Int Unit):=
 (bif decide (v7<(list.length:Int)) then ((idx list v7).bind fun ins=>((b8H ins).bind fun Q3=>(bif (!Q3) then some (j7.ret false) else some (j7.nxt (m7 (v7+1)))))) else some (j7.brk ()))
theorem f6k(list):LQ a3W (d8N list) (f0y list) (fun s=>b77 list s):=fun lc v7 h=>PK<|rg<|j5 0 h (fun h=>rg<|u0 A6 0 h fun ins hins h=>rg<|j9 d1c f02 1 h fun Q3 h=>j5 2 h (fun h=>rg<|fL lc h) (fun h=>rg<|(lc.nx h fun hI=>sk [] [0,5,6,7] [] hI))) (fun h=>(lc.bk h fun hI=>sk [] [0] [] hI))
def a71(list:List n8):Option Bool:=
 ((o7 (fun s:Int=>b77 list s) 0).bind fun x=>x.go (fun r=>some r) fun s=>c2E list)
theorem b6u{list}:OK a3W [l7 4 A6 list] (a71 list):=
 o8 _ fun r h=>n9<|lp (f6k list) h (fun _ h=>a3W.rt h) (e8u list r) fun hI=>sk [] [0,5,6,7] [] hI
def c2I:FS (Int):=⟨131,Tryz.f131,[.val [] []],[none],[.val [] []],fun r=>vi r,fun _=>[none],Tryz.func131⟩
def b4x(bal:Int):Option Int:=
 ((D7 bal 1 3000).bind fun in_=>(bif (!in_) then some (-1) else some (f9p bal 3)))
theorem d39{bal}:OK c2I [vi bal] (b4x bal):=
 o8 _ fun r h=>n9<|j9 D5 G0 1 h fun in_ h=>j5 2 h (fun h=>rg<|fE h) (fun h=>rg<|om (3≠(0:Int)) (by decide)<|fE h)
def c3v:FS (Bool):=⟨132,Tryz.f132,[.val [] []],[none,none],[.val [some 1] [],.val [] []],fun r=>.b r,fun _=>[none,none],Tryz.func132⟩
def b5o(list:List Bool)(id:Int):Option Bool:=
 (bif ((list.length:Int)==3) then ((idx list id).bind fun y=>some y) else some false)
theorem d5y{list id}:OK c3v [l7 1 eB list,vi id] (b5o list id):=
 o8 _ fun r h=>n9<|j5 3 h (fun h=>u0 eB 6 h fun y hy h=>fE h) (fun h=>fE h)
def b6L:FS (Bool):=⟨87,Tryz.f87,[.val [] []],[none],[.val A8 []],fun r=>.b r,fun _=>[none],Tryz.func87⟩
def d9w(n:j6):Bool->KS:=fun b0q=>⟨b6L.k 2 [],(bs 1 (.ptr 1 0 0::(bs 1 (.b b0q::(bs 92 []))))),[some [],some [.var 54 (Y4 n)]]⟩
def b5E(n:j6)(b0q:Bool):Option Bool:=
 (bif (n.d6==0) then (bif (n.a8==0) then (bif ((n.c9.length:Int)==0) then (bif ((n.i4.length:Int)==0) then some b0q else some false) else some false) else some false) else ((b4x n.a8).bind fun a7r=>(bif (a7r != n.Id) then some false else (bif decide (n.a8>n.Acc.i0) then some false else ((a7a n.i4).bind fun L4=>(bif (!L4) then some false else (bif (n.d6==1) then ((b5o n.c9 n.Id).bind fun c9s=>(bif c9s then some b0q else some false)) else (bif (n.d6==2) then (bif ((n.c9.length:Int)==0) then some b0q else some false) else (bif (n.d6==3) then (bif ((n.c9.length:Int)==0) then ((a1T n.c8).bind fun F6=>(bif F6 then ((b5o n.a7 n.Id).bind fun d1A=>(bif d1A then some (decide ((n.a6.length:Int)<40)) else some false)) else some false)) else some false) else some false)))))))))
theorem d9c(n)(r):NF b6L r (d9w n) (fun s=>b5E n s):=fun b0q h=>PK<|n9<|j5 2 h (fun h=>rg<|j5 3 h (fun h=>j5 6 h (fun h=>j5 12 h (fun h=>fE h) (fun h=>fE h)) (fun h=>fE h)) (fun h=>fE h)) (fun h=>rg<|j9 c2I d39 2 h fun a7r h=>j5 6 h (fun h=>rg<|fE h) (fun h=>j5 14 h (fun h=>rg<|fE h) (fun h=>j9 a26 b3q 17 h fun L4 h=>j5 19 h (fun h=>rg<|fE h) (fun h=>n9<|j5 1 h (fun h=>rg<|j9 c3v d5y 4 h fun c9s h=>j5 5 h (fun h=>fE h) (fun h=>fE h)) (fun h=>rg<|j5 1 h (fun h=>rg<|j5 1 h (fun h=>fE h) (fun h=>fE h)) (fun h=>rg<|j5 1 h (fun h=>rg<|j5 1 h (fun h=>j9 a29 a4A 4 h fun F6 h=>j5 6 h (fun h=>j9 c3v d5y 11 h fun d1A h=>j5 13 h (fun h=>fE h) (fun h=>fE h)) (fun h=>fE h)) (fun h=>fE h)) (fun h=>rg<|fE h)))))))
def b3z(n:j6):Option Bool:=
 ((((a1H n.c8 (m4.mk false (n5.mk 0 0) (n7.mk [] [] 0 0))).bind fun G8=>(bif G8 then some (l9.brk ((n.a7.length:Int)==0)) else some (l9.brk false))):Option (l9 Bool Bool)).bind fun x=>x.go some fun j=>b5E n j)
theorem f1O{n}:OK b6L [.agg (x6 n)] (b3z n):=
 o8 _ fun r h=>rg<|A4 h (d9c n r) fun x1 h hc1=>rg<|j9 a4c a43 3 h fun G8 h=>j5 4 h (fun h=>(o9 h hc1 fun hI=>sk [] [1,3] [(1,0)] hI)) (fun h=>(o9 h hc1 fun hI=>sk [] [1,3] [(1,0)] hI))
def a04:FS (Bool):=⟨40,Tryz.f40,[.val [] []],[none],[.val A8 []],fun r=>.b r,fun _=>[none],Tryz.func40⟩
def d42(n:j6):Unit->KS:=fun _=>⟨a04.k 4 [false,false],(bs 1 (.ptr 1 0 0::(bs 87 []))),[some [],some [.var 54 (Y4 n)]]⟩
def f5T(n:j6):Unit->KS:=fun _=>⟨a04.k 6 [false,false,true,false],(bs 1 (.ptr 1 0 0::(bs 87 []))),[some [],some [.var 54 (Y4 n)]]⟩
def c5W(n:j6):Option Bool:=
 ((b3z n).bind fun a0t=>some a0t)
theorem d9W(n)(r):NF a04 r (f5T n) (fun s=>c5W n):=fun _ h=>PK<|rg<|j9 b6L f1O 1 h fun a0t h=>fE h
def b8r(n:j6):Option Bool:=
 (((bif n.i9 then ((a71 n.i6).bind fun E4=>(bif (!E4) then some (l9.ret false) else ((a1T n.b8).bind fun F6=>(bif (!F6) then some (l9.ret false) else (bif n.b8.i7 then some (l9.ret false) else (bif (!(([n.b8.a5.b9,n.b8.a5.Seq]:List Int)==[n.Id,n.Seq])) then some (l9.ret false) else some (l9.brk ()))))))) else (bif decide ((n.i6.length:Int)>0) then some (l9.ret false) else ((a1H n.b8 (m4.mk false (n5.mk 0 0) (n7.mk [] [] 0 0))).bind fun G8=>(bif (!G8) then some (l9.ret false) else some (l9.brk ()))))):Option (l9 Bool Unit)).bind fun x=>x.go some fun j=>c5W n)
theorem f4C(n)(r):NF a04 r (d42 n) (fun s=>b8r n):=fun _ h=>PK<|A4 h (d9W n r) fun x1 h hc1=>rg<|j5 1 h (fun h=>rg<|j9 a3W b6u 2 h fun E4 h=>j5 4 h (fun h=>rg<|(B8 h hc1 fun h=>fE h)) (fun h=>j9 a29 a4A 7 h fun F6 h=>j5 10 h (fun h=>rg<|(B8 h hc1 fun h=>fE h)) (fun h=>j5 15 h (fun h=>rg<|(B8 h hc1 fun h=>fE h)) (fun h=>j5 25 h (fun h=>rg<|(B8 h hc1 fun h=>fE h)) (fun h=>(o9 h hc1 fun hI=>sk [] [1] [(1,0)] hI)))))) (fun h=>rg<|j5 4 h (fun h=>rg<|(B8 h hc1 fun h=>fE h)) (fun h=>j9 a4c a43 8 h fun G8 h=>j5 10 h (fun h=>rg<|(B8 h hc1 fun h=>fE h)) (fun h=>(o9 h hc1 fun hI=>sk [] [1] [(1,0)] hI))))
def e5A(n:j6):Int->KS:=fun v36=>⟨a04.k 3 [false],(bs 1 (.ptr 1 0 0::(bs 32 (l7 7 s6 n.f0::(vi (n.f0.length:Int)::(vi v36::(bs 52 []))))))),[some [],some [.var 54 (Y4 n)]]⟩
def c0o(n:j6)(v36:Int):Option (j7 Bool Int Unit):=
 (bif decide (v36<(n.f0.length:Int)) then ((idx n.f0 v36).bind fun entry=>((a1T entry).bind fun a3l=>(bif (!a3l) then some (j7.ret false) else (bif entry.i7 then some (j7.ret false) else some (j7.nxt (m7 (v36+1))))))) else some (j7.brk ()))
theorem d84(n):LQ a04 (d42 n) (e5A n) (fun s=>c0o n s):=fun lc v36 h=>PK<|rg<|j5 0 h (fun h=>rg<|u0 s6 0 h fun entry E9 h=>rg<|j9 a29 a4A 1 h fun a3l h=>j5 3 h (fun h=>rg<|fL lc h) (fun h=>j5 6 h (fun h=>rg<|fL lc h) (fun h=>rg<|(lc.nx h fun hI=>sk [] [1,34,35,36] [(1,0)] hI)))) (fun h=>(lc.bk h fun hI=>sk [] [1] [(1,0)] hI))
def a4d(n:j6):Option Bool:=
 ((D7 n.Id 0 2).bind fun in_=>(bif (!in_) then some false else ((a9N n.Acc).bind fun O2=>(bif (!O2) then some false else ((b0z n.a6).bind fun G4=>(bif (!G4) then some false else ((D7 n.Seq 0 1000).bind fun in_1=>(bif (!in_1) then some false else (bif decide ((n.f0.length:Int)>4) then some false else ((o7 (fun s:Int=>c0o n s) 0).bind fun x=>x.go (fun r=>some r) fun s=>b8r n))))))))))
theorem a8Z{n}:OK a04 [.agg (x6 n)] (a4d n):=
 o8 _ fun r h=>n9<|j9 D5 G0 2 h fun in_ h=>j5 4 h (fun h=>rg<|fE h) (fun h=>j9 a5E c6M 7 h fun O2 h=>j5 10 h (fun h=>rg<|fE h) (fun h=>j9 a5J c6g 13 h fun G4 h=>j5 16 h (fun h=>rg<|fE h) (fun h=>j9 D5 G0 19 h fun in_1 h=>j5 22 h (fun h=>rg<|fE h) (fun h=>j5 27 h (fun h=>rg<|fE h) (fun h=>rg<|lp (d84 n) h (fun _ h=>a04.rt h) (f4C n r) fun hI=>sk [] [1,34,35,36] [(1,0)] hI)))))
def c1A:FS (Bool):=⟨41,Tryz.f41,[.val [] []],[none],[.val C2 []],fun r=>.b r,fun _=>[none],Tryz.func41⟩
def b2Q(m:l8):Option Bool:=
 ((D7 m.c9 0 2).bind fun in_=>(bif (!in_) then some false else ((D7 m.To 0 2).bind fun in_1=>(bif (!in_1) then some false else (bif (m.c9==m.To) then some false else ((D7 m.g8 0 40).bind fun in_2=>(bif (!in_2) then some false else ((D7 m.a8 1 3000).bind fun a0j=>((a1H m.g9 (m4.mk false (n5.mk 0 0) (n7.mk [] [] 0 0))).bind fun G8=>(bif (m.a9==1) then (bif a0j then (bif G8 then some ((m.a7.length:Int)==0) else some false) else some false) else (bif (m.a9==4) then (bif a0j then (bif G8 then some ((m.a7.length:Int)==0) else some false) else some false) else (bif (m.a9==2) then (bif a0j then (bif G8 then ((a7a m.a7).bind fun L4=>(bif L4 then some (decide ((m7 (m.g8+(m.a7.length:Int)))<=40)) else some false)) else some false) else some false) else (bif (m.a9==3) then (bif a0j then (bif decide (m.g8<40) then ((a1T m.g9).bind fun F6=>(bif F6 then some ((m.a7.length:Int)==0) else some false)) else some false) else some false) else (bif (m.a9==5) then (bif (m.a8==0) then (bif decide (m.g8<40) then ((a1T m.g9).bind fun a3l=>(bif a3l then some ((m.a7.length:Int)==0) else some false)) else some false) else some false) else (bif (m.a9==6) then (bif a0j then (bif (m.g8==0) then (bif G8 then some ((m.a7.length:Int)==0) else some false) else some false) else some false) else (bif (m.a9==7) then (bif (m.a8==0) then (bif (m.g8==0) then ((a1T m.g9).bind fun d0a=>(bif d0a then (bif (!m.g9.i7) then some ((m.a7.length:Int)==0) else some false) else some false)) else some false) else some false) else (bif (m.a9==8) then (bif (m.a8==0) then (bif G8 then some ((m.a7.length:Int)==0) else some false) else some false) else some false)))))))))))))))))
theorem d8S{m}:OK c1A [.agg (t7 m)] (b2Q m):=
 o8 _ fun r h=>n9<|j9 D5 G0 2 h fun in_ h=>j5 4 h (fun h=>rg<|fE h) (fun h=>j9 D5 G0 7 h fun in_1 h=>j5 10 h (fun h=>rg<|fE h) (fun h=>j5 17 h (fun h=>rg<|fE h) (fun h=>j9 D5 G0 20 h fun in_2 h=>j5 22 h (fun h=>rg<|fE h) (fun h=>rg<|j9 D5 G0 2 h fun a0j h=>rg<|j9 a4c a43 3 h fun G8 h=>L8<|j5 1 h (fun h=>rg<|j5 1 h (fun h=>j5 4 h (fun h=>fE h) (fun h=>fE h)) (fun h=>fE h)) (fun h=>rg<|j5 1 h (fun h=>rg<|j5 1 h (fun h=>j5 4 h (fun h=>fE h) (fun h=>fE h)) (fun h=>fE h)) (fun h=>rg<|j5 1 h (fun h=>rg<|j5 1 h (fun h=>j5 4 h (fun h=>j9 a26 b3q 7 h fun L4 h=>j5 9 h (fun h=>fE h) (fun h=>fE h)) (fun h=>fE h)) (fun h=>fE h)) (fun h=>rg<|j5 1 h (fun h=>rg<|j5 1 h (fun h=>j5 6 h (fun h=>j9 a29 a4A 9 h fun F6 h=>j5 11 h (fun h=>fE h) (fun h=>fE h)) (fun h=>fE h)) (fun h=>fE h)) (fun h=>rg<|j5 1 h (fun h=>rg<|j5 3 h (fun h=>j5 8 h (fun h=>j9 a29 a4A 11 h fun a3l h=>j5 13 h (fun h=>fE h) (fun h=>fE h)) (fun h=>fE h)) (fun h=>fE h)) (fun h=>rg<|j5 1 h (fun h=>rg<|j5 1 h (fun h=>j5 6 h (fun h=>j5 9 h (fun h=>fE h) (fun h=>fE h)) (fun h=>fE h)) (fun h=>fE h)) (fun h=>rg<|j5 1 h (fun h=>rg<|j5 3 h (fun h=>j5 8 h (fun h=>j9 a29 a4A 11 h fun d0a h=>j5 13 h (fun h=>j5 19 h (fun h=>fE h) (fun h=>fE h)) (fun h=>fE h)) (fun h=>fE h)) (fun h=>fE h)) (fun h=>rg<|j5 1 h (fun h=>rg<|j5 3 h (fun h=>j5 6 h (fun h=>fE h) (fun h=>fE h)) (fun h=>fE h)) (fun h=>rg<|fE h))))))))))))
def L7:FS (Bool):=⟨15,Tryz.f15,[.val [] []],[none],[.val C3 []],fun r=>.b r,fun _=>[none],Tryz.func15⟩
def c7B(w:m5):Unit->KS:=fun _=>⟨L7.k 4 [false,false],(bs 1 (.ptr 1 0 0::(bs 116 []))),[some [],some [.var 28 (B2 w)]]⟩
def c8d(w:m5):Unit->KS:=fun _=>⟨L7.k 6 [false,false,false],(bs 1 (.ptr 1 0 0::(bs 116 []))),[some [],some [.var 28 (B2 w)]]⟩
def d2B(w:m5):Unit->KS:=fun _=>⟨L7.k 8 [false,false,false,false],(bs 1 (.ptr 1 0 0::(bs 116 []))),[some [],some [.var 28 (B2 w)]]⟩
def d0S:Unit->KS:=fun _=>⟨L7.k 10 [false,false,false,false,false],(bs 118 []),[some []]⟩
def d8J:Option Bool:=
 some true
theorem e4N(r):NF L7 r d0S (fun s=>d8J):=fun _ h=>PK<|rg<|fE h
def f6z(w:m5):Int->KS:=fun v83=>⟨L7.k 9 [false,false,false,false],(bs 81 (l7 5 z5 w.Told::(vi (w.Told.length:Int)::(vi v83::(bs 34 []))))),[some []]⟩
def c03(w:m5)(v83:Int):Option (j7 Bool Int Unit):=
 (bif decide (v83<(w.Told.length:Int)) then ((idx w.Told v83).bind fun told=>((D7 told.Node 0 2).bind fun in_=>(bif (!in_) then some (j7.ret false) else ((a7v told.a5).bind fun a6B=>(bif (!a6B) then some (j7.ret false) else (bif (told.a5.b9 != told.Node) then some (j7.ret false) else ((D7 told.Code 0 4).bind fun in_1=>(bif (!in_1) then some (j7.ret false) else ((D7 told.d8 (-1000000) 1000000).bind fun in_2=>(bif (!in_2) then some (j7.ret false) else some (j7.nxt (m7 (v83+1))))))))))))) else some (j7.brk ()))
theorem f2w(w):LQ L7 d0S (f6z w) (fun s=>c03 w s):=fun lc v83 h=>PK<|rg<|j5 0 h (fun h=>rg<|u0 z5 0 h fun told a3M h=>rg<|j9 D5 G0 2 h fun in_ h=>j5 4 h (fun h=>rg<|fL lc h) (fun h=>j9 b1g b3d 7 h fun a6B h=>j5 10 h (fun h=>rg<|fL lc h) (fun h=>j5 18 h (fun h=>rg<|fL lc h) (fun h=>j9 D5 G0 21 h fun in_1 h=>j5 24 h (fun h=>rg<|fL lc h) (fun h=>j9 D5 G0 27 h fun in_2 h=>j5 29 h (fun h=>rg<|fL lc h) (fun h=>rg<|(lc.nx h fun hI=>sk [] [81,82,83] [] hI))))))) (fun h=>(lc.bk h fun hI=>sk [] [] [] hI))
def b9D(w:m5):Option Bool:=
 ((o7 (fun s:Int=>c03 w s) 0).bind fun x=>x.go (fun r=>some r) fun s=>d8J)
theorem f3y(w)(r):NF L7 r (d2B w) (fun s=>b9D w):=fun _ h=>PK<|rg<|lp (f2w w) h (fun _ h=>L7.rt h) (e4N r) fun hI=>sk [] [81,82,83] [] hI
def f0B(w:m5):Int->KS:=fun v65=>⟨L7.k 7 [false,false,false],(bs 1 (.ptr 1 0 0::(bs 61 (l7 3 C1 w.d9::(vi (w.d9.length:Int)::(vi v65::(bs 52 []))))))),[some [],some [.var 28 (B2 w)]]⟩
def b9R(w:m5)(v65:Int):Option (j7 Bool Int Unit):=
 (bif decide (v65<(w.d9.length:Int)) then ((idx w.d9 v65).bind fun asked=>((a7v asked.a5).bind fun b5m=>(bif (!b5m) then some (j7.ret false) else ((a71 asked.i6).bind fun E4=>(bif (!E4) then some (j7.ret false) else some (j7.nxt (m7 (v65+1)))))))) else some (j7.brk ()))
theorem f0I(w):LQ L7 (d2B w) (f0B w) (fun s=>b9R w s):=fun lc v65 h=>PK<|rg<|j5 0 h (fun h=>rg<|u0 C1 0 h fun asked a8z h=>rg<|j9 b1g b3d 2 h fun b5m h=>j5 4 h (fun h=>rg<|fL lc h) (fun h=>j9 a3W b6u 7 h fun E4 h=>j5 9 h (fun h=>rg<|fL lc h) (fun h=>rg<|(lc.nx h fun hI=>sk [] [1,63,64,65] [(1,0)] hI)))) (fun h=>(lc.bk h fun hI=>sk [] [1] [(1,0)] hI))
def b8s(w:m5):Option Bool:=
 ((o7 (fun s:Int=>b9R w s) 0).bind fun x=>x.go (fun r=>some r) fun s=>b9D w)
theorem e4U(w)(r):NF L7 r (c8d w) (fun s=>b8s w):=fun _ h=>PK<|rg<|lp (f0I w) h (fun _ h=>L7.rt h) (f3y w r) fun hI=>sk [] [1,63,64,65] [(1,0)] hI
def e0P(w:m5):Int->KS:=fun v54=>⟨L7.k 5 [false,false],(bs 1 (.ptr 1 0 0::(bs 50 (l7 13 t7 w.d7::(vi (w.d7.length:Int)::(vi v54::(bs 63 []))))))),[some [],some [.var 28 (B2 w)]]⟩
def b7l(w:m5)(v54:Int):Option (j7 Bool Int Unit):=
 (bif decide (v54<(w.d7.length:Int)) then ((idx w.d7 v54).bind fun msg=>((b2Q msg).bind fun Q8=>(bif (!Q8) then some (j7.ret false) else some (j7.nxt (m7 (v54+1)))))) else some (j7.brk ()))
theorem d9o(w):LQ L7 (c8d w) (e0P w) (fun s=>b7l w s):=fun lc v54 h=>PK<|rg<|j5 0 h (fun h=>rg<|u0 t7 0 h fun msg hmsg h=>rg<|j9 c1A d8S 1 h fun Q8 h=>j5 2 h (fun h=>rg<|fL lc h) (fun h=>rg<|(lc.nx h fun hI=>sk [] [1,52,53,54] [(1,0)] hI))) (fun h=>(lc.bk h fun hI=>sk [] [1] [(1,0)] hI))
def b9f(w:m5):Option Bool:=
 ((o7 (fun s:Int=>b7l w s) 0).bind fun x=>x.go (fun r=>some r) fun s=>b8s w)
theorem d97(w)(r):NF L7 r (c7B w) (fun s=>b9f w):=fun _ h=>PK<|rg<|lp (d9o w) h (fun _ h=>L7.rt h) (e4U w r) fun hI=>sk [] [1,52,53,54] [(1,0)] hI
def e20(w:m5):Int->KS:=fun v36=>⟨L7.k 3 [false],(bs 1 (.ptr 1 0 0::(bs 32 (l7 27 x6 w.a0::(vi (w.a0.length:Int)::(vi v36::(bs 81 []))))))),[some [],some [.var 28 (B2 w)]]⟩
def c0x(w:m5)(v36:Int):Option (j7 Bool Int Unit):=
 (bif decide (v36<(w.a0.length:Int)) then ((idx w.a0 v36).bind fun node=>(bif (node.Id != v36) then some (j7.ret false) else ((a4d node).bind fun D8=>(bif (!D8) then some (j7.ret false) else some (j7.nxt (m7 (v36+1))))))) else some (j7.brk ()))
theorem e1J(w):LQ L7 (c7B w) (e20 w) (fun s=>c0x w s):=fun lc v36 h=>PK<|rg<|j5 0 h (fun h=>rg<|u0 x6 1 h fun node hnode h=>rg<|j5 4 h (fun h=>rg<|fL lc h) (fun h=>j9 a04 a8Z 6 h fun D8 h=>j5 8 h (fun h=>rg<|fL lc h) (fun h=>rg<|(lc.nx h fun hI=>sk [] [1,34,35,36] [(1,0)] hI)))) (fun h=>(lc.bk h fun hI=>sk [] [1] [(1,0)] hI))
def a2L(w:m5):Option Bool:=
 (bif ((w.a0.length:Int) != 3) then some false else (bif decide ((w.d7.length:Int)>40) then some false else (bif decide ((w.d9.length:Int)>60) then some false else (bif decide ((w.Told.length:Int)>60) then some false else ((o7 (fun s:Int=>c0x w s) 0).bind fun x=>x.go (fun r=>some r) fun s=>b9f w)))))
theorem a4M{w}:OK L7 [.agg (J7 w)] (a2L w):=
 o8 _ fun r h=>n9<|j5 4 h (fun h=>rg<|fE h) (fun h=>j5 10 h (fun h=>rg<|fE h) (fun h=>j5 16 h (fun h=>rg<|fE h) (fun h=>j5 21 h (fun h=>rg<|fE h) (fun h=>rg<|lp (e1J w) h (fun _ h=>L7.rt h) (d97 w r) fun hI=>sk [] [1,34,35,36] [(1,0)] hI))))
def b4Y:FS (p7):=⟨138,Tryz.f138,[.ptr J4 om7],[none],[.val A8 []],fun r=>.optr 168 (b9c r),fun _=>[none],Tryz.func138⟩
def a7X(n:j6):Option p7:=
 ((a9A n).bind fun Y1=>some (p7.mk Y1 [] []))
theorem b95{n}:OK b4Y [.agg (x6 n)] (a7X n):=
 o8 _ fun r h=>n9<|j9 b4e b6y 1 h fun Y1 h=>K0 Y1<|fE h
def a4C:FS (j6×(List l8)×(List n6)×p7):=⟨139,Tryz.f139,[.val A8 [],.val [some 13] [],.val [some 5] []],[some (0,.ptr J4 [])],[.ptr J4 []],fun r=>.tup [.agg (x6 r.1),l7 13 t7 r.2.1,l7 5 z5 r.2.2.1],fun r=>[some (.optr 168 (c7T r.2.2.2))],Tryz.func139⟩
def a1N(a:p7):Option (j6×(List l8)×(List n6)×p7):=
 ((a9A a.n).bind fun Y1=>((b23 a.out).bind fun msgsCopy=>((c06 a.told).bind fun told=>some (Y1,msgsCopy,told,a))))
theorem a5H{a}:OK a4C [.optr 168 (c7T a)] (a1N a):=
 o8 _ fun r h=>n9<|j9 b4e b6y 4 h fun Y1 h=>j9 a6O d1O 9 h fun msgsCopy h=>j9 c1E d4Z 14 h fun told h=>K0 Y1<|C9 msgsCopy told<|fE h
def c5O:FS (List m9):=⟨36,Tryz.f36,[.val [some 2] [some 124]],[],[],fun r=>v6 124 2 x7 r,fun _=>[],Tryz.func36⟩
def b4y:Option (List m9):=
 (t5 (0<=(4:Int)/\(4:Int)*16<=140737488355328) (some (f8O (4:Int).toNat (m9.mk 0 0))))
theorem d26:OK c5O [] b4y:=
 o8 _ fun r h=>n9<|t9 h fun e1 h=>S8 0 2 124 2 16 x7 (m9.mk 0 0) b4N (.none) e1 (by decide) (by rfl)<|s8 (f8O (4:Int).toNat (m9.mk 0 0))<|fE h
def d5K:FS (u5):=⟨108,Tryz.f108,[.val [none,some 2,some 4] [none,some 124,some 183]],[],[],fun r=>.agg (b4j r),fun _=>[],Tryz.func108⟩
def b9b:Option u5:=
 ((b4y).bind fun a0H=>some (u5.mk 0 a0H []))
theorem f5C:OK d5K [] b9b:=
 o8 _ fun r h=>n9<|j9 c5O d26 0 h fun a0H h=>s8 a0H<|fE h
def a20:FS (Bool):=⟨80,Tryz.f80,[.val [] []],[none],[.val [some 2] []],fun r=>.b r,fun _=>[none],Tryz.func80⟩
def c9G(list:List m9):Unit->KS:=fun _=>⟨a20.k 3 [false],(l7 2 x7 list::(bs 24 [])),[some []]⟩
def c5J(list:List m9):Option Bool:=
 some ((list.length:Int)==4)
theorem e8w(list)(r):NF a20 r (c9G list) (fun s=>c5J list):=fun _ h=>PK<|rg<|fE h
def d9u(list:List m9):Int->KS:=fun v7=>⟨a20.k 2 [],(l7 2 x7 list::(bs 4 (l7 2 x7 list::(vi (list.length:Int)::(vi v7::(bs 17 [])))))),[some []]⟩
def b7j(list:List m9)(v7:Int):Option (j7 Bool Int Unit):=
 (bif decide (v7<(list.length:Int)) then ((idx list v7).bind fun box=>((D7 box.j4 0 1000000).bind fun in_=>(bif (!in_) then some (j7.ret false) else ((D7 box.d8 (-1000000) 1000000).bind fun in_1=>(bif (!in_1) then some (j7.ret false) else some (j7.nxt (m7 (v7+1)))))))) else some (j7.brk ()))
theorem f6h(list):LQ a20 (c9G list) (d9u list) (fun s=>b7j list s):=fun lc v7 h=>PK<|rg<|j5 0 h (fun h=>rg<|u0 x7 0 h fun box a11 h=>rg<|j9 D5 G0 2 h fun in_ h=>j5 4 h (fun h=>rg<|fL lc h) (fun h=>j9 D5 G0 7 h fun in_1 h=>j5 9 h (fun h=>rg<|fL lc h) (fun h=>rg<|(lc.nx h fun hI=>sk [] [0,5,6,7] [] hI)))) (fun h=>(lc.bk h fun hI=>sk [] [0] [] hI))
def a6h(list:List m9):Option Bool:=
 ((o7 (fun s:Int=>b7j list s) 0).bind fun x=>x.go (fun r=>some r) fun s=>c5J list)
theorem b3t{list}:OK a20 [l7 2 x7 list] (a6h list):=
 o8 _ fun r h=>n9<|lp (f6h list) h (fun _ h=>a20.rt h) (e8w list r) fun hI=>sk [] [0,5,6,7] [] hI
def a5o:FS (Bool):=⟨165,Tryz.f165,[.val [] []],[none],[.val [none,some 2,some 4] []],fun r=>.b r,fun _=>[none],Tryz.func165⟩
def c6T(s_:u5):Unit->KS:=fun _=>⟨a5o.k 3 [false],(bs 1 (.ptr 1 0 0::(bs 64 []))),[some [],some [.var 77 [vi s_.At,l7 2 x7 s_.g7,l7 4 B9 s_.i8]]]⟩
def c3b(s_:u5):Option Bool:=
 ((D7 s_.At 0 40).bind fun in_=>(bif in_ then ((a6h s_.g7).bind fun S4=>some S4) else some false))
theorem f8k(s_)(r):NF a5o r (c6T s_) (fun s=>c3b s_):=fun _ h=>PK<|rg<|j9 D5 G0 2 h fun in_ h=>j5 3 h (fun h=>j9 a20 b3t 6 h fun S4 h=>fE h) (fun h=>fE h)
def d2Q(s_:u5):Int->KS:=fun v8=>⟨a5o.k 2 [],(bs 1 (.ptr 1 0 0::(bs 4 (l7 4 B9 s_.i8::(vi (s_.i8.length:Int)::(vi v8::(bs 57 []))))))),[some [],some [.var 77 [vi s_.At,l7 2 x7 s_.g7,l7 4 B9 s_.i8]]]⟩
def d9K(s_:u5)(v8:Int):Unit->KS:=fun _=>⟨a5o.k 5 [true,false],(bs 1 (.ptr 1 0 0::(bs 4 (l7 4 B9 s_.i8::(vi (s_.i8.length:Int)::(vi v8::(bs 57 []))))))),[some [],some [.var 77 [vi s_.At,l7 2 x7 s_.g7,l7 4 B9 s_.i8]]]⟩
def c1n(v8:Int):Option (j7 Bool Int Unit):=
 some (j7.nxt (m7 (v8+1)))
theorem e0S(s_ v8)(lc:D4 a5o (c6T s_) (d2Q s_)):NL lc (d9K s_ v8) (fun s=>c1n v8):=fun _ h=>PK<|rg<|(lc.nx h fun hI=>sk [] [1,6,7,8] [(1,0)] hI)
def b3k(s_:u5)(v8:Int):Option (j7 Bool Int Unit):=
 (bif decide (v8<(s_.i8.length:Int)) then ((idx s_.i8 v8).bind fun done=>(((bif decide (v8>0) then ((idx s_.i8 (m7 (v8-1))).bind fun a5h=>(bif decide (a5h.a5.b9>=done.a5.b9) then some (l9.ret (j7.ret false)) else ((a7v done.a5).bind fun a6B=>(bif (!a6B) then some (l9.ret (j7.ret false)) else ((D7 done.Code 0 2).bind fun in_1=>(bif (!in_1) then some (l9.ret (j7.ret false)) else ((D7 done.d8 (-1000000) 1000000).bind fun in_2=>(bif (!in_2) then some (l9.ret (j7.ret false)) else (bif (done.Code != 0) then (bif (done.d8 != 0) then some (l9.ret (j7.ret false)) else some (l9.brk ())) else some (l9.brk ())))))))))) else ((a7v done.a5).bind fun b5m=>(bif (!b5m) then some (l9.ret (j7.ret false)) else ((D7 done.Code 0 2).bind fun a0j=>(bif (!a0j) then some (l9.ret (j7.ret false)) else ((D7 done.d8 (-1000000) 1000000).bind fun a4G=>(bif (!a4G) then some (l9.ret (j7.ret false)) else (bif (done.Code != 0) then (bif (done.d8 != 0) then some (l9.ret (j7.ret false)) else some (l9.brk ())) else some (l9.brk ()))))))))):Option (l9 (j7 Bool Int Unit) Unit)).bind fun x=>x.go some fun j=>c1n v8)) else some (j7.brk ()))
theorem e0H(s_):LQ a5o (c6T s_) (d2Q s_) (fun s=>b3k s_ s):=fun lc v8 h=>PK<|rg<|j5 0 h (fun h=>rg<|u0 B9 1 h fun done b83 h=>A4 h (e0S s_ v8 lc) fun x2 h hc2=>rg<|j5 2 h (fun h=>u0 B9 7 h fun a5h e5w h=>j5 16 h (fun h=>rg<|(B8 h hc2 fun h=>fL lc h)) (fun h=>j9 b1g b3d 19 h fun a6B h=>j5 22 h (fun h=>rg<|(B8 h hc2 fun h=>fL lc h)) (fun h=>j9 D5 G0 25 h fun in_1 h=>j5 28 h (fun h=>rg<|(B8 h hc2 fun h=>fL lc h)) (fun h=>j9 D5 G0 31 h fun in_2 h=>j5 34 h (fun h=>rg<|(B8 h hc2 fun h=>fL lc h)) (fun h=>j5 38 h (fun h=>j5 43 h (fun h=>rg<|(B8 h hc2 fun h=>fL lc h)) (fun h=>(o9 h hc2 fun hI=>sk [] [1,6,7,8] [(1,0)] hI))) (fun h=>(o9 h hc2 fun hI=>sk [] [1,6,7,8] [(1,0)] hI))))))) (fun h=>j9 b1g b3d 19 h fun b5m h=>j5 22 h (fun h=>rg<|(B8 h hc2 fun h=>fL lc h)) (fun h=>j9 D5 G0 25 h fun a0j h=>j5 28 h (fun h=>rg<|(B8 h hc2 fun h=>fL lc h)) (fun h=>j9 D5 G0 31 h fun a4G h=>j5 34 h (fun h=>rg<|(B8 h hc2 fun h=>fL lc h)) (fun h=>j5 38 h (fun h=>j5 43 h (fun h=>rg<|(B8 h hc2 fun h=>fL lc h)) (fun h=>(o9 h hc2 fun hI=>sk [] [1,6,7,8] [(1,0)] hI))) (fun h=>(o9 h hc2 fun hI=>sk [] [1,6,7,8] [(1,0)] hI))))))) (fun h=>(lc.bk h fun hI=>sk [] [1] [(1,0)] hI))
def b6i(s_:u5):Option Bool:=
 ((o7 (fun s:Int=>b3k s_ s) 0).bind fun x=>x.go (fun r=>some r) fun s=>c3b s_)
theorem e1H{s_}:OK a5o [.agg (a77 s_)] (b6i s_):=
 o8 _ fun r h=>n9<|lp (e0H s_) h (fun _ h=>a5o.rt h) (f8k s_ r) fun hI=>sk [] [1,6,7,8] [(1,0)] hI
def c0K:FS (List m9):=⟨81,Tryz.f81,[.val [some 2] [some 124]],[none],[.val [some 2] []],fun r=>v6 124 2 x7 r,fun _=>[none],Tryz.func81⟩
def a7E(list:List m9):Option (List m9):=
 (bif ((list.length:Int)==0) then some [] else (t5 (0<=(list.length:Int)/\(list.length:Int)*16<=140737488355328) ((t5 (list.length=(f8O (list.length:Int).toNat (m9.mk 0 0)).length) (some list)))))
theorem c3G{list}:OK c0K [l7 2 x7 list] (a7E list):=
 o8 _ fun r h=>n9<|j5 2 h (fun h=>rg<|fE h) (fun h=>rg<|t9 h fun e1 h=>S8 2 7 124 2 16 x7 (m9.mk 0 0) b4N (.none) e1 (by decide) (by rfl)<|rg<|t9 h fun e2 h=>om (s9.row 124 2 (f8O (list.length:Int).toNat (m9.mk 0 0)).length (list.map x7)=m6 124 2 x7 list) (a1h e2)<|s8 (f8O (list.length:Int).toNat (m9.mk 0 0))<|ob e2<|tl (2,{e:=some (m6 124 2 x7 list)})<|rg<|om ((f8O (list.length:Int).toNat (m9.mk 0 0)).length=list.length) (by simp)<|fE h)
def b17:FS (List q9):=⟨166,Tryz.f166,[.val [some 4] [some 183]],[none],[.val [some 4] []],fun r=>v6 183 4 B9 r,fun _=>[none],Tryz.func166⟩
def a6P(list:List q9):Option (List q9):=
 (bif ((list.length:Int)==0) then some [] else (t5 (0<=(list.length:Int)/\(list.length:Int)*32<=140737488355328) ((t5 (list.length=(f8O (list.length:Int).toNat (q9.mk (n5.mk 0 0) 0 0)).length) (some list)))))
theorem c6j{list}:OK b17 [l7 4 B9 list] (a6P list):=
 o8 _ fun r h=>n9<|j5 2 h (fun h=>rg<|fE h) (fun h=>rg<|t9 h fun e1 h=>S8 2 7 183 4 32 B9 (q9.mk (n5.mk 0 0) 0 0) c1w (.none) e1 (by decide) (by rfl)<|rg<|t9 h fun e2 h=>om (s9.row 183 4 (f8O (list.length:Int).toNat (q9.mk (n5.mk 0 0) 0 0)).length (list.map B9)=m6 183 4 B9 list) (a1h e2)<|s8 (f8O (list.length:Int).toNat (q9.mk (n5.mk 0 0) 0 0))<|ob e2<|tl (2,{e:=some (m6 183 4 B9 list)})<|rg<|om ((f8O (list.length:Int).toNat (q9.mk (n5.mk 0 0) 0 0)).length=list.length) (by simp)<|fE h)
def a7O:FS (Bool):=⟨167,Tryz.f167,[.val [] []],[none,none],[.val [some 2] [],.val O8 []],fun r=>.b r,fun _=>[none,none],Tryz.func167⟩
def d1a:Unit->KS:=fun _=>⟨a7O.k 4 [false,false],(bs 32 []),[some []]⟩
def d8B:Option Bool:=
 some true
theorem d9d(r):NF a7O r d1a (fun s=>d8B):=fun _ h=>PK<|rg<|fE h
def e7p(list:List m9)(r_:n7):Int->KS:=fun v18=>⟨a7O.k 3 [false],(l7 2 x7 list::(bs 15 (l7 2 w8 r_.b5::(vi (r_.b5.length:Int)::(vi v18::(bs 13 [])))))),[some []]⟩
def b63(list:List m9)(r_:n7)(v18:Int):Option (j7 Bool Int Unit):=
 (bif decide (v18<(r_.b5.length:Int)) then ((idx r_.b5 v18).bind fun read=>((idx list read.i5).bind fun box=>(bif (box.j4 != read.j4) then some (j7.ret false) else some (j7.nxt (m7 (v18+1)))))) else some (j7.brk ()))
theorem e3D(list r_):LQ a7O d1a (e7p list r_) (fun s=>b63 list r_ s):=fun lc v18 h=>PK<|rg<|j5 0 h (fun h=>rg<|u0 w8 0 h fun read a4r h=>rg<|u0 x7 3 h fun box a11 h=>j5 8 h (fun h=>rg<|fL lc h) (fun h=>rg<|(lc.nx h fun hI=>sk [] [0,16,17,18] [] hI))) (fun h=>(lc.bk h fun hI=>sk [] [] [] hI))
def b7n(list:List m9)(r_:n7):Option Bool:=
 ((a6h list).bind fun S4=>(bif (!S4) then some false else ((b1T r_).bind fun a1j=>(bif (!a1j) then some false else ((o7 (fun s:Int=>b63 list r_ s) 0).bind fun x=>x.go (fun r=>some r) fun s=>d8B)))))
theorem e7Z{list r_}:OK a7O [l7 2 x7 list,.agg (R9 r_)] (b7n list r_):=
 o8 _ fun r h=>n9<|j9 a20 b3t 1 h fun S4 h=>j5 3 h (fun h=>rg<|fE h) (fun h=>j9 a0q c61 5 h fun a1j h=>j5 7 h (fun h=>rg<|fE h) (fun h=>rg<|lp (e3D list r_) h (fun _ h=>a7O.rt h) (d9d r) fun hI=>sk [] [0,16,17,18] [] hI))
def a5V:FS (List m9):=⟨129,Tryz.f129,[.val [some 2] [some 124]],[none,none],[.val [some 2] [],.val O8 []],fun r=>v6 124 2 x7 r,fun _=>[none,none],Tryz.func129⟩
def d3E:(List m9)->KS:=fun out1=>⟨a5V.k 5 [false,false],(bs 5 (.own 1 0 2 0 out1.length::(bs 36 []))),[some [],some [m6 124 2 x7 out1]]⟩
def d55(out1:List m9):Option (List m9):=
 some out1
theorem f7e(r):NF a5V r d3E (fun s=>d55 s):=fun out1 h=>PK<|rg<|s8 out1<|fE h
def e4j(r_:n7):((List m9)×Int)->KS:=fun (out,v21)=>⟨a5V.k 4 [false],(bs 5 (.own 1 0 2 0 out.length::(bs 13 (l7 2 w9 r_.b7::(vi (r_.b7.length:Int)::(vi v21::(bs 20 []))))))),[some [],some [m6 124 2 x7 out]]⟩
def b6d(r_:n7)(out:List m9)(v21:Int):Option (j7 (List m9) ((List m9)×Int) (List m9)):=
 (bif decide (v21<(r_.b7.length:Int)) then ((idx r_.b7 v21).bind fun put=>((idx out put.i5).bind fun P8=>some (j7.nxt (out.set put.i5.toNat (m9.mk (if (m7 (P8.j4+1))<1000000 then (m7 (P8.j4+1)) else 1000000) put.d8),m7 (v21+1))))) else some (j7.brk out))
theorem f2e(r_):LQ a5V d3E (e4j r_) (fun s=>b6d r_ s.1 s.2):=fun lc (out,v21) h=>PK<|rg<|j5 0 h (fun h=>rg<|u0 w9 0 h fun put hput h=>rg<|B0 h fun P8 a7u h=>C0 a7u<|I6 x7 8 a7u<|C0 a7u<|Q6 124 2 x7 15 [] (m9.mk (if (m7 (P8.j4+1))<1000000 then (m7 (P8.j4+1)) else 1000000) put.d8) a7u<|rg<|(lc.nx h fun hI=>om ((.own 1 0 2 0 out.length:V)=.own 1 0 2 0 (out.set put.i5.toNat (m9.mk (if (m7 (P8.j4+1))<1000000 then (m7 (P8.j4+1)) else 1000000) put.d8)).length) (by simp)<|sk [.is (.tmp 5) (.own 1 0 2 0 (out.set put.i5.toNat (m9.mk (if (m7 (P8.j4+1))<1000000 then (m7 (P8.j4+1)) else 1000000) put.d8)).length)] [5,19,20,21] [(1,0)] hI)) (fun h=>(lc.bk h fun hI=>sk [] [5] [(1,0)] hI))
def b2K(list:List m9)(r_:n7):Option (List m9):=
 ((a6h list).bind fun S4=>(bif (!S4) then some [] else ((b1T r_).bind fun a1j=>(bif (!a1j) then some [] else ((a7E list).bind fun box=>((o7 (fun s:(List m9)×Int=>b6d r_ s.1 s.2) (box,0)).bind fun x=>x.go (fun r=>some r) fun s=>d55 s))))))
theorem d2V{list r_}:OK a5V [l7 2 x7 list,.agg (R9 r_)] (b2K list r_):=
 o8 _ fun r h=>n9<|j9 a20 b3t 1 h fun S4 h=>j5 3 h (fun h=>rg<|fE h) (fun h=>j9 a0q c61 5 h fun a1j h=>j5 7 h (fun h=>rg<|fE h) (fun h=>rg<|j9 c0K c3G 1 h fun box h=>rg<|lp (f2e r_) h (fun _ h=>a5V.rt h) (f7e r) fun hI=>sk [] [5,19,20,21] [(12,0)] hI))
def R4:FS (u5×Int):=⟨109,Tryz.f109,[.val [none,some 2,some 4] [none,some 124,some 183],.val [] []],[none,none],[.val [none,some 2,some 4] [],.val J5 []],fun r=>.tup [.agg (b4j r.1),vi r.2],fun _=>[none,none],Tryz.func109⟩
def c4Y(s_:u5)(e_:m4)(box:List m9):Unit->KS:=fun _=>⟨R4.k 6 [false,false,false],(bs 2 (.ptr 1 0 0::(.ptr 2 0 0::(.ptr 3 0 0::(bs 1 (.ptr 4 0 0::(bs 145 []))))))),[some [],some [.var 77 [vi s_.At,l7 2 x7 s_.g7,l7 4 B9 s_.i8]],some [.var 52 (a13 e_)],some [.var 77 [vi 0,.nil,.nil]],some [.var 77 [vi (m7 (s_.At+1)),.own 5 0 2 0 box.length,.nil]],some [m6 124 2 x7 box]]⟩
def f5z(s_:u5):(q9×List m9)->KS:=fun (own,g7)=>⟨R4.k 9 [false,false,false,true],(bs 2 (.ptr 1 0 0::(bs 1 (.ptr 2 0 0::(bs 1 (.ptr 3 0 0::(bs 2 (.ptr 5 0 0::(bs 142 []))))))))),[some [],some [.var 77 [vi s_.At,l7 2 x7 s_.g7,l7 4 B9 s_.i8]],some [.var 77 [vi 0,.nil,.nil]],some [.var 77 [vi (m7 (s_.At+1)),.own 4 0 2 0 g7.length,.nil]],some [m6 124 2 x7 g7],some [.var 183 [vi own.a5.b9,vi own.a5.Seq,vi own.Code,vi own.d8]]]⟩
def b6C(s_:u5)(own:q9)(g7:List m9):((List q9)×Bool)->KS:=fun (dones1,put1)=>⟨R4.k 13 [false,false,false,true,false],(bs 4 (.ptr 1 0 0::(bs 1 (.ptr 2 0 0::(bs 2 (.ptr 4 0 0::(.own 5 0 4 0 dones1.length::(.b put1::(bs 140 []))))))))),[some [],some [.var 77 [vi 0,.nil,.nil]],some [.var 77 [vi (m7 (s_.At+1)),.own 3 0 2 0 g7.length,.nil]],some [m6 124 2 x7 g7],some [.var 183 [vi own.a5.b9,vi own.a5.Seq,vi own.Code,vi own.d8]],some [m6 183 4 B9 dones1]]⟩
def f6Q(s_:u5)(own:q9)(g7:List m9):(List q9)->KS:=fun a96=>⟨R4.k 15 [false,false,false,true,false,true],(bs 4 (.ptr 1 0 0::(bs 1 (.ptr 2 0 0::(bs 2 (.ptr 4 0 0::(.own 5 0 4 0 a96.length::(bs 141 [])))))))),[some [],some [.var 77 [vi 0,.nil,.nil]],some [.var 77 [vi (m7 (s_.At+1)),.own 3 0 2 0 g7.length,.nil]],some [m6 124 2 x7 g7],some [.var 183 [vi own.a5.b9,vi own.a5.Seq,vi own.Code,vi own.d8]],some [m6 183 4 B9 a96]]⟩
def c5n(s_:u5)(own:q9)(g7:List m9)(a96:List q9):Option (u5×Int):=
 ((a6P a96).bind fun a5h=>some ((u5.mk (m7 (s_.At+1)) g7 a5h),own.Code))
theorem e3u(s_ own g7)(r):NF R4 r (f6Q s_ own g7) (fun s=>c5n s_ own g7 s):=fun a96 h=>PK<|rg<|cbS b17 c6j 1 (fun _=>(by simp [b17,L2,R8,O1,V.simple,vi,v6,B9,eI,F4])) (fun _=>(Q4 1)) h fun a5h h=>s8 a96<|rg<|C9 g7 a5h<|fE h
def c31(s_:u5)(own:q9)(g7:List m9)(dones1:List q9)(put1:Bool):Option (u5×Int):=
 (((bif (!put1) then (t5 ((dones1.length+1)*32<=140737488355328) (some (l9.brk (dones1++[own])))) else some (l9.brk dones1)):Option (l9 (u5×Int) (List q9))).bind fun x=>x.go some fun j=>c5n s_ own g7 j)
theorem f5F(s_ own g7)(r):NF R4 r (b6C s_ own g7) (fun s=>c31 s_ own g7 s.1 s.2):=fun (dones1,put1) h=>PK<|A4 h (e3u s_ own g7 r) fun x1 h hc1=>rg<|j5 1 h (fun h=>rg<|tk 2 []<|t9 h fun e1 h=>F7 3 11 183 4 32 B9 dones1 own e1<|E7 own<|(o9 h hc1 fun hI=>sk [] [4,6,9,10] [(1,0),(2,0),(3,0),(4,0),(11,0)] hI)) (fun h=>(o9 h hc1 fun hI=>sk [] [4,6,9,10] [(1,0),(2,0),(3,0),(4,0),(5,0)] hI))
def c5b(s_:u5)(own:q9)(g7:List m9):((List q9)×Int×Bool)->KS:=fun (dones,v109,put)=>⟨R4.k 12 [false,false,false,true],(bs 4 (.ptr 1 0 0::(bs 1 (.ptr 2 0 0::(bs 2 (.ptr 4 0 0::(.own 5 0 4 0 dones.length::(.b put::(bs 95 (l7 4 B9 s_.i8::(vi (s_.i8.length:Int)::(vi v109::(bs 42 []))))))))))))),[some [],some [.var 77 [vi 0,.nil,.nil]],some [.var 77 [vi (m7 (s_.At+1)),.own 3 0 2 0 g7.length,.nil]],some [m6 124 2 x7 g7],some [.var 183 [vi own.a5.b9,vi own.a5.Seq,vi own.Code,vi own.d8]],some [m6 183 4 B9 dones]]⟩
def f0v(s_:u5)(own:q9)(g7:List m9)(v109:Int)(done2:q9):((List q9)×Bool)->KS:=fun (dones3,put2)=>⟨R4.k 17 [false,false,false,true,true,true],(bs 4 (.ptr 1 0 0::(bs 1 (.ptr 2 0 0::(bs 2 (.ptr 4 0 0::(.own 5 0 4 0 dones3.length::(.b put2::(bs 1 (.ptr 6 0 0::(bs 93 (l7 4 B9 s_.i8::(vi (s_.i8.length:Int)::(vi v109::(bs 42 []))))))))))))))),[some [],some [.var 77 [vi 0,.nil,.nil]],some [.var 77 [vi (m7 (s_.At+1)),.own 3 0 2 0 g7.length,.nil]],some [m6 124 2 x7 g7],some [.var 183 [vi own.a5.b9,vi own.a5.Seq,vi own.Code,vi own.d8]],some [m6 183 4 B9 dones3],some [.var 183 [vi done2.a5.b9,vi done2.a5.Seq,vi done2.Code,vi done2.d8]]]⟩
def e79(s_:u5)(own:q9)(g7:List m9)(v109:Int)(put2:Bool):(List q9)->KS:=fun b28=>⟨R4.k 19 [false,false,false,true,true,true,true],(bs 4 (.ptr 1 0 0::(bs 1 (.ptr 2 0 0::(bs 2 (.ptr 4 0 0::(.own 5 0 4 0 b28.length::(.b put2::(bs 95 (l7 4 B9 s_.i8::(vi (s_.i8.length:Int)::(vi v109::(bs 42 []))))))))))))),[some [],some [.var 77 [vi 0,.nil,.nil]],some [.var 77 [vi (m7 (s_.At+1)),.own 3 0 2 0 g7.length,.nil]],some [m6 124 2 x7 g7],some [.var 183 [vi own.a5.b9,vi own.a5.Seq,vi own.Code,vi own.d8]],some [m6 183 4 B9 b28]]⟩
def c4D(v109:Int)(put2:Bool)(b28:List q9):Option (j7 (u5×Int) ((List q9)×Int×Bool) ((List q9)×Bool)):=
 some (j7.nxt (b28,m7 (v109+1),put2))
theorem e8S(s_ own g7 v109 put2)(lc:D4 R4 (b6C s_ own g7) (c5b s_ own g7)):NL lc (e79 s_ own g7 v109 put2) (fun s=>c4D v109 put2 s):=fun b28 h=>PK<|rg<|(lc.nx h fun hI=>sk [] [4,6,9,10,11,107,108,109] [(1,0),(2,0),(3,0),(4,0),(5,0)] hI)
def c6h(own:q9)(v109:Int)(done2:q9)(dones3:List q9)(put2:Bool):Option (j7 (u5×Int) ((List q9)×Int×Bool) ((List q9)×Bool)):=
 (((bif (done2.a5.b9 != own.a5.b9) then (t5 ((dones3.length+1)*32<=140737488355328) (some (l9.brk (dones3++[done2])))) else some (l9.brk dones3)):Option (l9 (j7 (u5×Int) ((List q9)×Int×Bool) ((List q9)×Bool)) (List q9))).bind fun x=>x.go some fun j=>c4D v109 put2 j)
theorem e3F(s_ own g7 v109 done2)(lc:D4 R4 (b6C s_ own g7) (c5b s_ own g7)):NL lc (f0v s_ own g7 v109 done2) (fun s=>c6h own v109 done2 s.1 s.2):=fun (dones3,put2) h=>PK<|A4 h (e8S s_ own g7 v109 put2 lc) fun x2 h hc2=>rg<|j5 6 h (fun h=>rg<|tk 2 []<|t9 h fun e2 h=>F7 3 17 183 4 32 B9 dones3 done2 e2<|E7 done2<|(o9 h hc2 fun hI=>sk [] [4,6,9,10,11,107,108,109] [(1,0),(2,0),(3,0),(4,0),(17,0)] hI)) (fun h=>(o9 h hc2 fun hI=>sk [] [4,6,9,10,11,107,108,109] [(1,0),(2,0),(3,0),(4,0),(5,0)] hI))
def b20(s_:u5)(own:q9)(dones:List q9)(v109:Int)(put:Bool):Option (j7 (u5×Int) ((List q9)×Int×Bool) ((List q9)×Bool)):=
 (bif decide (v109<(s_.i8.length:Int)) then ((idx s_.i8 v109).bind fun done2=>(((bif (!put) then (bif decide (done2.a5.b9>=own.a5.b9) then (t5 ((dones.length+1)*32<=140737488355328) (some (l9.brk (dones++[own],true)))) else some (l9.brk (dones,put))) else some (l9.brk (dones,put))):Option (l9 (j7 (u5×Int) ((List q9)×Int×Bool) ((List q9)×Bool)) ((List q9)×Bool))).bind fun x=>x.go some fun j=>c6h own v109 done2 j.1 j.2)) else some (j7.brk (dones,put)))
theorem e0b(s_ own g7):LQ R4 (b6C s_ own g7) (c5b s_ own g7) (fun s=>b20 s_ own s.1 s.2.1 s.2.2):=fun lc (dones,v109,put) h=>PK<|rg<|j5 0 h (fun h=>rg<|u0 B9 0 h fun done2 f8G h=>A4 h (e3F s_ own g7 v109 done2 lc) fun x2 h hc2=>rg<|j5 2 h (fun h=>j5 10 h (fun h=>rg<|tk 2 []<|t9 h fun e3 h=>F7 3 25 183 4 32 B9 dones own e3<|E7 own<|rg<|(o9 h hc2 fun hI=>sk [] [4,6,9,10,11,13,107,108,109] [(1,0),(2,0),(3,0),(4,0),(25,0),(9,0)] hI)) (fun h=>(o9 h hc2 fun hI=>sk [] [4,6,9,10,11,13,107,108,109] [(1,0),(2,0),(3,0),(4,0),(5,0),(9,0)] hI))) (fun h=>(o9 h hc2 fun hI=>sk [] [4,6,9,10,11,13,107,108,109] [(1,0),(2,0),(3,0),(4,0),(5,0),(9,0)] hI))) (fun h=>(lc.bk h fun hI=>sk [] [4,6,9,10,11] [(1,0),(2,0),(3,0),(4,0),(5,0)] hI))
def b8X(s_:u5)(own:q9)(g7:List m9):Option (u5×Int):=
 ((o7 (fun s:(List q9)×Int×Bool=>b20 s_ own s.1 s.2.1 s.2.2) ([],0,false)).bind fun x=>x.go (fun r=>some r) fun s=>c31 s_ own g7 s.1 s.2)
theorem e0z(s_)(r):NF R4 r (f5z s_) (fun s=>b8X s_ s.1 s.2):=fun (own,g7) h=>PK<|L8<|lp (e0b s_ own g7) h (fun _ h=>R4.rt h) (f5F s_ own g7 r) fun hI=>sk [.own (.tmp 10) 183 4] [4,6,9,10,11,107,108,109] [(2,0),(3,0),(4,0),(5,0),(12,0)] hI
def b9v(s_:u5)(e_:m4)(box:List m9):Option (u5×Int):=
 ((((b7n s_.g7 e_.b6).bind fun a6L=>(bif (!a6L) then some (l9.brk ((q9.mk e_.a5 1 0),box)) else (bif (e_.b6.Code != 0) then some (l9.brk ((q9.mk e_.a5 2 0),box)) else ((b2K s_.g7 e_.b6).bind fun b0X=>some (l9.brk ((q9.mk e_.a5 0 e_.b6.d8),b0X)))))):Option (l9 (u5×Int) (q9×List m9))).bind fun x=>x.go some fun j=>b8X s_ j.1 j.2)
theorem e8T(s_ e_ box)(r):NF R4 r (c4Y s_ e_ box) (fun s=>b9v s_ e_ box):=fun _ h=>PK<|rg<|A4 h (e0z s_ r) fun x1 h hc1=>rg<|j9 a7O e7Z 4 h fun a6L h=>j5 6 h (fun h=>rg<|(o9 h hc1 fun hI=>sk [] [2,4,6,9] [(1,0),(3,0),(4,0),(5,0),(9,0)] hI)) (fun h=>rg<|j5 4 h (fun h=>rg<|(o9 h hc1 fun hI=>sk [] [2,4,6,9] [(1,0),(3,0),(4,0),(5,0),(9,0)] hI)) (fun h=>n9<|j9 a5V d2V 4 h fun b0X h=>(o9 h hc1 fun hI=>sk [] [2,4,6,9] [(1,0),(3,0),(4,0),(32,0),(9,0)] hI)))
def d4V(s_:u5)(e_:m4)(box:List m9):Int->KS:=fun v45=>⟨R4.k 5 [false,false],(bs 2 (.ptr 1 0 0::(.ptr 2 0 0::(.ptr 3 0 0::(bs 1 (.ptr 4 0 0::(bs 36 (l7 4 B9 s_.i8::(vi (s_.i8.length:Int)::(vi v45::(bs 106 []))))))))))),[some [],some [.var 77 [vi s_.At,l7 2 x7 s_.g7,l7 4 B9 s_.i8]],some [.var 52 (a13 e_)],some [.var 77 [vi 0,.nil,.nil]],some [.var 77 [vi (m7 (s_.At+1)),.own 5 0 2 0 box.length,.nil]],some [m6 124 2 x7 box]]⟩
end
end Go.Proofs.YtmadcoimgjieeaaGreat
