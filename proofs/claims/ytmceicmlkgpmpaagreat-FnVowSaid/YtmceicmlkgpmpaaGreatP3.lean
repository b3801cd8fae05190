/- Abstract values and states of the program, functions of the program and what their calls come to, and what follows from it: part 3 of the text that the law leans on; long names are written short. -/
import Derived.Test.YtmceicmlkgpmpaaGreatP2
set_option linter.unusedVariables false
set_option linter.unusedSimpArgs false
set_option linter.unnecessarySimpa false
namespace Go.Proofs.YtmceicmlkgpmpaaGreat
open Go
open List renaming replicate->f8A
open Int renaming tmod->f9c
noncomputable section
theorem e0m{list slot}:OK d4s [j9 8 q8 list,vi slot] (b9n list slot):=
 o7 _ fun r h=>n9<|t9 h fun e1 h=>T1 1 3 89 8 96 q8 (m8.mk 0 (m4.mk false (n5.mk 0 0) (n7.mk [] [] 0 0))) b2k (.ck U9) e1 (by decide) (by rfl)<|rg<|l7 a4p c0w 2 h fun X4 h=>t9 h fun e2 h=>apL 3 8 89 8 96 q8 (f8A slot.toNat (m8.mk 0 (m4.mk false (n5.mk 0 0) (n7.mk [] [] 0 0)))) X4 e2<|s7 X4<|s7 ((f8A slot.toNat (m8.mk 0 (m4.mk false (n5.mk 0 0) (n7.mk [] [] 0 0))))++X4)<|fE h
def a1J:FS (List m8):=⟨225,Tryz.f225,[.val [some 8] []],[none,none],[.val [some 8] [],.val [some 8] []],fun r=>j9 8 q8 r,fun _=>[none,none],Tryz.func225⟩
def b3O:(List m8)->KS:=fun out1=>⟨a1J.k 4 [false],(bs 5 (.own 1 0 8 0 out1.length::(bs 52 []))),[some [],some [m6 89 8 q8 out1]]⟩
def d6E(out1:List m8):Option (List m8):=
 some out1
theorem e9l(r):NF a1J r b3O (fun s=>d6E s):=fun out1 h=>PK<|rg<|s7 out1<|fE h
def b99(a:List m8)(b:List m8):((List m8)×Int)->KS:=fun (out,i)=>⟨a1J.k 3 [],(j9 8 q8 a::(j9 8 q8 b::(bs 3 (.own 1 0 8 0 out.length::(vi i::(bs 51 [])))))),[some [],some [m6 89 8 q8 out]]⟩
def e93(a:List m8)(b:List m8)(out:List m8)(i:Int):Unit->KS:=fun _=>⟨a1J.k 4 [true],(j9 8 q8 a::(j9 8 q8 b::(bs 3 (.own 1 0 8 0 out.length::(vi i::(bs 51 [])))))),[some [],some [m6 89 8 q8 out]]⟩
def d9G(a:List m8)(b:List m8)(out:List m8)(i:Int):m8->KS:=fun v_=>⟨a1J.k 7 [true,true],(j9 8 q8 a::(j9 8 q8 b::(bs 3 (.own 1 0 8 0 out.length::(vi i::(.ptr 2 0 0::(bs 50 []))))))),[some [],some [m6 89 8 q8 out],some [.var 89 (d5n v_)]]⟩
def d9C(a:List m8)(b:List m8)(out:List m8)(i:Int):m8->KS:=fun v_1=>⟨a1J.k 9 [true,true,true],(j9 8 q8 a::(j9 8 q8 b::(bs 3 (.own 1 0 8 0 out.length::(vi i::(.ptr 2 0 0::(bs 50 []))))))),[some [],some [m6 89 8 q8 out],some [.var 89 (d5n v_1)]]⟩
def b7A(out:List m8)(i:Int)(v_1:m8):Option (j7 (List m8) ((List m8)×Int) (List m8)):=
 ((X7 v_1.g9).bind fun l5Entry=>(t5 ((out.length+1)*96<=140737488355328) (some (j7.nxt (out++[(m8.mk v_1.a8 l5Entry)],m7 (i+1))))))
theorem d8E(a b out i)(lc:D2 a1J b3O (b99 a b)):NL lc (d9C a b out i) (fun s=>b7A out i s):=fun v_1 h=>PK<|rg<|l7 a0z a01 5 h fun l5Entry h=>tk 7 U9<|t9 h fun e1 h=>F7 8 11 89 8 96 q8 out (m8.mk v_1.a8 l5Entry) e1<|E5 (m8.mk v_1.a8 l5Entry)<|rg<|(lc.nx h fun hI=>sk [] [0,1,5,6] [(11,0)] hI)
def b6h(b:List m8)(out:List m8)(i:Int)(v_:m8):Option (j7 (List m8) ((List m8)×Int) (List m8)):=
 (((bif decide (i<(b.length:Int)) then ((idx b i).bind fun vote=>(bif decide (vote.a8>v_.a8) then some (l9.brk vote) else some (l9.brk v_))) else some (l9.brk v_)):Option (l9 (j7 (List m8) ((List m8)×Int) (List m8)) m8)).bind fun x=>x.go some fun j=>b7A out i j)
theorem d9S(a b out i)(lc:D2 a1J b3O (b99 a b)):NL lc (d9G a b out i) (fun s=>b6h b out i s):=fun v_ h=>PK<|A3 h (d8E a b out i lc) fun x2 h hc2=>rg<|j5 4 h (fun h=>u0 q8 7 h fun vote K1 h=>j5 13 h (fun h=>rg<|I3 q8 2 K1<|(o9 h hc2 fun hI=>sk [] [0,1,5,6,7] [(1,0),(2,0)] hI)) (fun h=>(o9 h hc2 fun hI=>sk [] [0,1,5,6,7] [(1,0),(2,0)] hI))) (fun h=>(o9 h hc2 fun hI=>sk [] [0,1,5,6,7] [(1,0),(2,0)] hI))
def b5x(a:List m8)(b:List m8)(out:List m8)(i:Int):Option (j7 (List m8) ((List m8)×Int) (List m8)):=
 (((bif decide (i<(a.length:Int)) then ((idx a i).bind fun T2=>some (l9.brk T2)) else some (l9.brk (m8.mk 0 (m4.mk false (n5.mk 0 0) (n7.mk [] [] 0 0))))):Option (l9 (j7 (List m8) ((List m8)×Int) (List m8)) m8)).bind fun x=>x.go some fun j=>b6h b out i j)
theorem f1D(a b out i)(lc:D2 a1J b3O (b99 a b)):NL lc (e93 a b out i) (fun s=>b5x a b out i):=fun _ h=>PK<|rg<|A3 h (d9S a b out i lc) fun x2 h hc2=>rg<|j5 3 h (fun h=>rg<|u0 q8 2 h fun T2 a3Q h=>(o9 h hc2 fun hI=>sk [] [0,1,5,6,7] [(1,0),(3,0)] hI)) (fun h=>(o9 h hc2 fun hI=>sk [.frz (.cell 3 0 4) (some 2),.frz (.cell 3 0 5) (some 2)] [0,1,5,6,7] [(1,0),(3,0)] hI))
def a54(a:List m8)(b:List m8)(out:List m8)(i:Int):Option (j7 (List m8) ((List m8)×Int) (List m8)):=
 (((bif decide (i<(a.length:Int)) then some (l9.brk ()) else (bif decide (i<(b.length:Int)) then some (l9.brk ()) else some (l9.ret (j7.brk out)))):Option (l9 (j7 (List m8) ((List m8)×Int) (List m8)) Unit)).bind fun x=>x.go some fun j=>b5x a b out i)
theorem e5V(a b):LQ a1J b3O (b99 a b) (fun s=>a54 a b s.1 s.2):=fun lc (out,i) h=>PK<|A3 h (f1D a b out i lc) fun x2 h hc2=>rg<|j5 4 h (fun h=>(o9 h hc2 fun hI=>sk [] [0,1,5,6] [(1,0)] hI)) (fun h=>j5 9 h (fun h=>(o9 h hc2 fun hI=>sk [] [0,1,5,6] [(1,0)] hI)) (fun h=>(B2 h hc2 fun h=>(lc.bk h fun hI=>sk [] [5] [(1,0)] hI))))
def b9y(a:List m8)(b:List m8):Option (List m8):=
 ((o8 (fun s:(List m8)×Int=>a54 a b s.1 s.2) (([]:List m8),0)).bind fun x=>x.go (fun r=>some r) fun s=>d6E s)
theorem e1C{a b}:OK a1J [j9 8 q8 a,j9 8 q8 b] (b9y a b):=
 o7 _ fun r h=>n9<|tk 0 U9<|rg<|lp (e5V a b) h (fun _ h=>a1J.rt h) (e9l r) fun hI=>om ((.own 2 0 8 0 0:V)=.own 2 0 8 0 ([]:List m8).length) (by simp)<|sk [.is (.tmp 5) (.own 2 0 8 0 ([]:List m8).length)] [0,1,5,6] [(2,0)] hI
def c7z:FS (Int):=⟨231,Tryz.f231,[.val [] []],[none],[.val [] []],fun r=>vi r,fun _=>[none],Tryz.func231⟩
def c5k(b:Bool):Option Int:=
 (bif b then some 1 else some 0)
theorem e6r{b}:OK c7z [.b b] (c5k b):=
 o7 _ fun r h=>n9<|j5 0 h (fun h=>rg<|fE h) (fun h=>rg<|fE h)
def a6d:FS (Bool):=⟨227,Tryz.f227,[.val [] []],[none],[.val [some 1] []],fun r=>.b r,fun _=>[none],Tryz.func227⟩
def d76:Int->KS:=fun n1=>⟨a6d.k 4 [false],(bs 3 (vi n1::(bs 16 []))),[some []]⟩
def c4u(n1:Int):Option Bool:=
 some (decide (n1>=2))
theorem f6y(r):NF a6d r d76 (fun s=>c4u s):=fun n1 h=>PK<|rg<|fE h
def e3V(list:List Bool):(Int×Int)->KS:=fun (n,i)=>⟨a6d.k 3 [],(j9 1 eB list::(bs 2 (vi n::(vi i::(bs 15 []))))),[some []]⟩
def a4S(list:List Bool)(n:Int)(i:Int):Option (j7 Bool (Int×Int) Int):=
 (bif decide (i<(list.length:Int)) then ((idx list i).bind fun y=>((c5k y).bind fun d64=>some (j7.nxt (m7 (n+d64),m7 (i+1))))) else some (j7.brk n))
theorem e6K(list):LQ a6d d76 (e3V list) (fun s=>a4S list s.1 s.2):=fun lc (n,i) h=>PK<|rg<|j5 3 h (fun h=>rg<|u0 eB 3 h fun y hy h=>l7 c7z e6r 5 h fun d64 h=>rg<|(lc.nx h fun hI=>sk [] [0,3,4] [] hI)) (fun h=>(lc.bk h fun hI=>sk [] [3] [] hI))
def b4F(list:List Bool):Option Bool:=
 ((o8 (fun s:Int×Int=>a4S list s.1 s.2) (0,0)).bind fun x=>x.go (fun r=>some r) fun s=>c4u s)
theorem d1T{list}:OK a6d [j9 1 eB list] (b4F list):=
 o7 _ fun r h=>L8<|lp (e6K list) h (fun _ h=>a6d.rt h) (f6y r) fun hI=>sk [] [0,3,4] [] hI
def a5V:FS (Bool):=⟨230,Tryz.f230,[.val [] []],[none,none],[.val [some 8] [],.val [] []],fun r=>.b r,fun _=>[none,none],Tryz.func230⟩
def c8s:Unit->KS:=fun _=>⟨a5V.k 3 [false],(bs 19 []),[some []]⟩
def d2w:Option Bool:=
 some false
theorem f6u(r):NF a5V r c8s (fun s=>d2w):=fun _ h=>PK<|rg<|fE h
def e1v(list:List m8):Int->KS:=fun i=>⟨a5V.k 2 [],(j9 8 q8 list::(bs 4 (vi i::(bs 13 [])))),[some []]⟩
def a79(list:List m8)(i:Int):Option (j7 Bool Int Unit):=
 (bif decide (i<(list.length:Int)) then ((idx list i).bind fun vote=>(bif decide (vote.a8>0) then some (j7.ret true) else some (j7.nxt (m7 (i+1))))) else some (j7.brk ()))
theorem e3Z(list):LQ a5V c8s (e1v list) (fun s=>a79 list s):=fun lc i h=>PK<|rg<|j5 3 h (fun h=>rg<|u0 q8 2 h fun vote K1 h=>j5 5 h (fun h=>rg<|fL lc h) (fun h=>rg<|(lc.nx h fun hI=>sk [] [0,5] [] hI))) (fun h=>(lc.bk h fun hI=>sk [] [] [] hI))
def b5w(list:List m8)(from_:Int):Option Bool:=
 ((o8 (fun s:Int=>a79 list s) from_).bind fun x=>x.go (fun r=>some r) fun s=>d2w)
theorem f5E{list from_}:OK a5V [j9 8 q8 list,vi from_] (b5w list from_):=
 o7 _ fun r h=>n9<|lp (e3Z list) h (fun _ h=>a5V.rt h) (f6u r) fun hI=>sk [] [0,5] [] hI
def a2G:FS (Bool):=⟨229,Tryz.f229,[.val [] []],[none,none],[.val A8 [],.val [] []],fun r=>.b r,fun _=>[none,none],Tryz.func229⟩
def c3Y:Unit->KS:=fun _=>⟨a2G.k 3 [false],(bs 30 []),[some []]⟩
def d6s:Option Bool:=
 some false
theorem e02(r):NF a2G r c3Y (fun s=>d6s):=fun _ h=>PK<|rg<|fE h
def c7D(n:j6)(q:n5):Int->KS:=fun i=>⟨a2G.k 2 [],(bs 2 (.ptr 1 0 0::(.ptr 2 0 0::(bs 1 (vi i::(bs 24 [])))))),[some [],some [.var 55 (X6 n)],some [.var 47 [vi q.b9,vi q.Seq]]]⟩
def e4v(n:j6)(q:n5)(i:Int):Unit->KS:=fun _=>⟨a2G.k 4 [true,false],(bs 2 (.ptr 1 0 0::(.ptr 2 0 0::(bs 1 (vi i::(bs 24 [])))))),[some [],some [.var 55 (X6 n)],some [.var 47 [vi q.b9,vi q.Seq]]]⟩
def c5u(i:Int):Option (j7 Bool Int Unit):=
 some (j7.nxt (m7 (i+1)))
theorem f2C(n q i)(lc:D2 a2G c3Y (c7D n q)):NL lc (e4v n q i) (fun s=>c5u i):=fun _ h=>PK<|rg<|(lc.nx h fun hI=>sk [] [2,3,5] [(1,0),(2,0)] hI)
def b1d(n:j6)(q:n5)(i:Int):Option (j7 Bool Int Unit):=
 (bif decide (i<(n.a6.length:Int)) then ((((idx n.a6 i).bind fun entry=>(bif (!entry.i7) then (bif (([entry.a5.b9,entry.a5.Seq]:List Int)==[q.b9,q.Seq]) then some (l9.ret (j7.ret true)) else some (l9.brk ())) else some (l9.brk ()))):Option (l9 (j7 Bool Int Unit) Unit)).bind fun x=>x.go some fun j=>c5u i) else some (j7.brk ()))
theorem e3e(n q):LQ a2G c3Y (c7D n q) (fun s=>b1d n q s):=fun lc i h=>PK<|rg<|j5 4 h (fun h=>A3 h (f2C n q i lc) fun x2 h hc2=>rg<|u0 s5 3 h fun entry F3 h=>j5 7 h (fun h=>I3 s5 11 F3<|j5 16 h (fun h=>rg<|(B2 h hc2 fun h=>fL lc h)) (fun h=>(o9 h hc2 fun hI=>sk [] [2,3,5] [(1,0),(2,0)] hI))) (fun h=>(o9 h hc2 fun hI=>sk [] [2,3,5] [(1,0),(2,0)] hI))) (fun h=>(lc.bk h fun hI=>sk [] [] [] hI))
def a9w(n:j6)(q:n5):Option Bool:=
 ((o8 (fun s:Int=>b1d n q s) 0).bind fun x=>x.go (fun r=>some r) fun s=>d6s)
theorem b50{n q}:OK a2G [.agg (x6 n),.agg (F6 q)] (a9w n q):=
 o7 _ fun r h=>n9<|lp (e3e n q) h (fun _ h=>a2G.rt h) (e02 r) fun hI=>sk [] [2,3,5] [(1,0),(2,0)] hI
def a24:FS (j6×m4×Bool):=⟨220,Tryz.f220,[.val A8 H2,.val J3 [],.val [] []],[none],[.val A8 H2],fun r=>.tup [.agg (H4 r.1),.agg (s5 r.2.1),.b r.2.2],fun _=>[none],Tryz.func220⟩
def e5I(n:j6):Unit->KS:=fun _=>⟨a24.k 3 [false],(bs 1 (.ptr 1 0 0::(.ptr 2 0 0::(.ptr 3 0 0::(bs 1 (vi (n.a6.length:Int)::(bs 69 []))))))),[some (a9a n),some [.var 55 (a8q n)],some [.var 55 [vi 0,vi 0,.nil,.nil,vi 0,vi 0,vi 0,.nil,.nil,.b false,vi 0,vi 0,.nil,.nil,vi 0,vi 0,.nil,.b false,.nil,.b false,vi 0,vi 0,.nil,.nil,vi 0,vi 0,.nil]],some [.var 53 [.b false,vi 0,vi 0,.nil,.nil,vi 0,vi 0]]]⟩
def e2P(n:j6):Unit->KS:=fun _=>⟨a24.k 5 [false,false,false],(bs 1 (.ptr 1 0 0::(.ptr 2 0 0::(.ptr 3 0 0::(bs 71 []))))),[some (a9a n),some [.var 55 (a8q n)],some [.var 55 [vi 0,vi 0,.nil,.nil,vi 0,vi 0,vi 0,.nil,.nil,.b false,vi 0,vi 0,.nil,.nil,vi 0,vi 0,.nil,.b false,.nil,.b false,vi 0,vi 0,.nil,.nil,vi 0,vi 0,.nil]],some [.var 53 [.b false,vi 0,vi 0,.nil,.nil,vi 0,vi 0]]]⟩
def c7w(n:j6):(List m4)->KS:=fun b0p=>⟨a24.k 6 [false,false,false,false],(bs 1 (.ptr 1 0 0::(.ptr 3 0 0::(.ptr 4 0 0::(bs 71 []))))),[some [m6 89 8 q8 n.Acc.a7,m6 53 7 s5 n.a6,m6 4 1 eB n.c9,m6 4 1 eB n.a7,.dead],some [.var 55 ([vi n.Id,vi n.Acc.i0,.own 0 0 8 0 n.Acc.a7.length,.own 0 1 7 0 n.a6.length,vi n.Seq,vi n.d6,vi n.a8,.own 0 2 1 0 n.c9.length]++a6n n++[.own 0 3 1 0 n.a7.length]++a38 n++[.own 2 0 7 0 b0p.length])],some [m6 53 7 s5 b0p],some [.var 55 [vi 0,vi 0,.nil,.nil,vi 0,vi 0,vi 0,.nil,.nil,.b false,vi 0,vi 0,.nil,.nil,vi 0,vi 0,.nil,.b false,.nil,.b false,vi 0,vi 0,.nil,.nil,vi 0,vi 0,.nil]],some [.var 53 [.b false,vi 0,vi 0,.nil,.nil,vi 0,vi 0]]]⟩
def d3T(n:j6)(b0p:List m4):Option (j6×m4×Bool):=
 some ((j6.mk n.Id n.Acc n.a6 n.Seq n.d6 n.a8 n.c9 n.i4 n.c8 n.a7 n.i9 n.i6 n.b8 b0p),(m4.mk false (n5.mk 0 0) (n7.mk [] [] 0 0)),false)
theorem e71(n)(r):NF a24 r (c7w n) (fun s=>d3T n s):=fun b0p h=>PK<|rg<|s7 n.Acc.a7<|H9 n.a6 n.c9 n.a7 b0p<|fE h
def f5m(n:j6):(List m4)->KS:=fun f0=>⟨a24.k 5 [false,false,false],(bs 1 (.ptr 1 0 0::(.ptr 2 0 0::(.ptr 3 0 0::(bs 71 []))))),[some [m6 89 8 q8 n.Acc.a7,m6 53 7 s5 n.a6,m6 4 1 eB n.c9,m6 4 1 eB n.a7,.dead],some [.var 55 ([vi n.Id,vi n.Acc.i0,.own 0 0 8 0 n.Acc.a7.length,.own 0 1 7 0 n.a6.length,vi n.Seq,vi n.d6,vi n.a8,.own 0 2 1 0 n.c9.length]++a6n n++[.own 0 3 1 0 n.a7.length]++a38 n++[.own 4 0 7 0 f0.length])],some [.var 55 [vi 0,vi 0,.nil,.nil,vi 0,vi 0,vi 0,.nil,.nil,.b false,vi 0,vi 0,.nil,.nil,vi 0,vi 0,.nil,.b false,.nil,.b false,vi 0,vi 0,.nil,.nil,vi 0,vi 0,.nil]],some [.var 53 [.b false,vi 0,vi 0,.nil,.nil,vi 0,vi 0]],some [m6 53 7 s5 f0]]⟩
def b04(n:j6)(f0:List m4):Option (j7 (j6×m4×Bool) (List m4) (List m4)):=
 (bif decide ((f0.length:Int)>0) then ((idx f0 0).bind fun entry=>(t5 ((0:Int)<=1/\1<=(f0.length:Int)) ((t5 ((([]:List m4).length+(f0.length-(1:Int).toNat))*88<=140737488355328) (((a9w (j6.mk n.Id n.Acc n.a6 n.Seq n.d6 n.a8 n.c9 n.i4 n.c8 n.a7 n.i9 n.i6 n.b8 (([]:List m4)++(f0.drop (0+(1:Int).toNat)).take (f0.length-(1:Int).toNat))) entry.a5).bind fun a6j=>(bif (!a6j) then some (j7.ret ((j6.mk n.Id n.Acc n.a6 n.Seq n.d6 n.a8 n.c9 n.i4 n.c8 n.a7 n.i9 n.i6 n.b8 (([]:List m4)++(f0.drop (0+(1:Int).toNat)).take (f0.length-(1:Int).toNat))),entry,true)) else some (j7.nxt (([]:List m4)++(f0.drop (0+(1:Int).toNat)).take (f0.length-(1:Int).toNat)))))))))) else some (j7.brk f0))
theorem f2m(n):LQ a24 (c7w n) (f5m n) (fun s=>b04 n s):=fun lc f0 h=>PK<|rg<|j5 3 h (fun h=>rg<|B0 h fun entry F3 h=>C0 F3<|I4 s5 3 F3<|rg<|tk 0 J3<|t9 h fun e1 h=>ob e1.1<|ob e1.2<|t9 h fun e2 h=>om (V.own 19 0 7 0 (([]:List m4).length+(f0.length-(1:Int).toNat))=.own 19 0 7 0 (([]:List m4)++(f0.drop (0+(1:Int).toNat)).take (f0.length-(1:Int).toNat)).length) (c5I (by omega))<|om (s9.row 53 7 (([]:List m4).length+(f0.length-(1:Int).toNat)) (([]:List m4).map s5++((f0.map s5).drop (0+(1:Int).toNat)).take (f0.length-(1:Int).toNat))=m6 53 7 s5 (([]:List m4)++(f0.drop (0+(1:Int).toNat)).take (f0.length-(1:Int).toNat))) (c5z (by omega))<|A9 m4<|ob e2<|om ((0+(1:Int).toNat)+(f0.length-(1:Int).toNat)<=f0.length) (by omega)<|tl (4,{a:=.part,v:=some (.own 19 0 7 0 (([]:List m4)++(f0.drop (0+(1:Int).toNat)).take (f0.length-(1:Int).toNat)).length),e:=some (m6 53 7 s5 (([]:List m4)++(f0.drop (0+(1:Int).toNat)).take (f0.length-(1:Int).toNat)))})<|rg<|R4 a2G b50 3 2 h fun a6j h=>s7 n.Acc.a7<|H9 n.a6 n.c9 n.a7 (([]:List m4)++(f0.drop (0+(1:Int).toNat)).take (f0.length-(1:Int).toNat))<|j5 4 h (fun h=>rg<|s7 n.Acc.a7<|H9 n.a6 n.c9 n.a7 (([]:List m4)++(f0.drop (0+(1:Int).toNat)).take (f0.length-(1:Int).toNat))<|fL lc h) (fun h=>(lc.nx h fun hI=>sk [] [1,2,3] [(1,0),(2,0),(3,0),(19,0)] hI))) (fun h=>(lc.bk h fun hI=>sk [] [1,2,3] [(1,0),(4,0),(2,0),(3,0)] hI))
def b7N(n:j6):Option (j6×m4×Bool):=
 ((o8 (fun s:List m4=>b04 n s) n.f0).bind fun x=>x.go (fun r=>some r) fun s=>d3T n s)
theorem f7M(n)(r):NF a24 r (e2P n) (fun s=>b7N n):=fun _ h=>PK<|lp (f2m n) h (fun _ h=>a24.rt h) (e71 n r) fun hI=>sk [] [1,2,3] [(1,0),(2,0),(3,0),(0,4)] hI
def b5t(n:j6):Option (j6×m4×Bool):=
 ((b5w n.i4 (n.a6.length:Int)).bind fun c4Y=>(bif c4Y then some (n,(m4.mk true (n5.mk 0 0) (n7.mk [] [] 0 0)),true) else (((bif n.i9 then ((a9w n n.b8.a5).bind fun c9Q=>(bif (!c9Q) then ((X7 n.b8).bind fun l5Entry=>some (l9.ret (n,l5Entry,true))) else some (l9.brk ()))) else some (l9.brk ())):Option (l9 (j6×m4×Bool) Unit)).bind fun x=>x.go some fun j=>b7N n)))
theorem f4Y(n)(r):NF a24 r (e5I n) (fun s=>b5t n):=fun _ h=>PK<|rg<|cbE a5V.t f5E h fun c4Y c8e h=>cdT (a5V.t 3 false c4Y) h (fun _ h=>ob c8e<|rg<|A4 n<|fE h) (fun _ h=>ob c8e<|A3 h (f7M n r) fun x1 h hc1=>rg<|j5 2 h (fun h=>R4 a2G b50 7 2 h fun c9Q h=>A4 n<|j5 9 h (fun h=>rg<|l7 a0z a01 3 h fun l5Entry h=>(B2 h hc1 fun h=>A4 n<|fE h)) (fun h=>(o9 h hc1 fun hI=>sk [] [1,2,3] [(1,0),(2,0),(3,0)] hI))) (fun h=>(o9 h hc1 fun hI=>sk [] [1,2,3] [(1,0),(2,0),(3,0)] hI)))
def b8y(n:j6):Option (j6×m4×Bool):=
 (((bif decide ((n.a6.length:Int)<(n.i4.length:Int)) then ((idx n.i4 (n.a6.length:Int)).bind fun vote=>(bif decide (vote.a8>0) then ((X7 vote.g9).bind fun b3G=>some (l9.ret (n,b3G,true))) else some (l9.brk ()))) else some (l9.brk ())):Option (l9 (j6×m4×Bool) Unit)).bind fun x=>x.go some fun j=>b5t n)
theorem f4f{n}:OK a24 [.agg (H4 n)] (b8y n):=
 o7 _ fun r h=>n9<|A3 h (f4Y n r) fun x1 h hc1=>rg<|j5 5 h (fun h=>u0 q8 9 h fun vote K1 h=>j5 13 h (fun h=>rg<|I3 q8 4 K1<|l7 a0z a01 7 h fun b3G h=>(B2 h hc1 fun h=>A4 n<|fE h)) (fun h=>(o9 h hc1 fun hI=>sk [] [1,2,3,5] [(1,0),(2,0),(3,0)] hI))) (fun h=>(o9 h hc1 fun hI=>sk [] [1,2,3,5] [(1,0),(2,0),(3,0)] hI))
def a04:FS (Bool):=⟨114,Tryz.f114,[.val [] []],[none,none],[.val O7 [],.val O7 []],fun r=>.b r,fun _=>[none,none],Tryz.func114⟩
def d1z(a:n7)(b:n7):Unit->KS:=fun _=>⟨a04.k 4 [false,false],(bs 2 (.ptr 1 0 0::(.ptr 2 0 0::(bs 69 [])))),[some [],some [.var 51 (a0E a)],some [.var 51 (a0E b)]]⟩
def d0e:Unit->KS:=fun _=>⟨a04.k 6 [false,false,false],(bs 73 []),[some []]⟩
def d4p:Option Bool:=
 some true
theorem e6Z(r):NF a04 r d0e (fun s=>d4p):=fun _ h=>PK<|rg<|fE h
def e7g(a:n7)(b:n7):Int->KS:=fun i1=>⟨a04.k 5 [false,false],(bs 2 (.ptr 1 0 0::(.ptr 2 0 0::(bs 2 (vi i1::(bs 66 [])))))),[some [],some [.var 51 (a0E a)],some [.var 51 (a0E b)]]⟩
def b1X(a:n7)(b:n7)(i1:Int):Option (j7 Bool Int Unit):=
 (bif decide (i1<(a.b7.length:Int)) then ((idx a.b7 i1).bind fun put=>((idx b.b7 i1).bind fun put1=>(bif (!(([put.i5,put.d9]:List Int)==[put1.i5,put1.d9])) then some (j7.ret false) else some (j7.nxt (m7 (i1+1)))))) else some (j7.brk ()))
theorem f3U(a b):LQ a04 d0e (e7g a b) (fun s=>b1X a b s):=fun lc i1 h=>PK<|rg<|j5 4 h (fun h=>rg<|u0 w9 3 h fun put hput h=>u0 w9 8 h fun put1 b23 h=>j5 10 h (fun h=>rg<|fL lc h) (fun h=>rg<|(lc.nx h fun hI=>sk [] [2,3,6] [(1,0),(2,0)] hI))) (fun h=>(lc.bk h fun hI=>sk [] [] [] hI))
def c7u(a:n7)(b:n7):Option Bool:=
 ((o8 (fun s:Int=>b1X a b s) 0).bind fun x=>x.go (fun r=>some r) fun s=>d4p)
theorem f6G(a b)(r):NF a04 r (d1z a b) (fun s=>c7u a b):=fun _ h=>PK<|rg<|lp (f3U a b) h (fun _ h=>a04.rt h) (e6Z r) fun hI=>sk [] [2,3,6] [(1,0),(2,0)] hI
def e8S(a:n7)(b:n7):Int->KS:=fun i=>⟨a04.k 3 [false],(bs 2 (.ptr 1 0 0::(.ptr 2 0 0::(bs 1 (vi i::(bs 67 [])))))),[some [],some [.var 51 (a0E a)],some [.var 51 (a0E b)]]⟩
def b5i(a:n7)(b:n7)(i:Int):Option (j7 Bool Int Unit):=
 (bif decide (i<(a.b5.length:Int)) then ((idx a.b5 i).bind fun read=>((idx b.b5 i).bind fun S9=>(bif (!(([read.i5,read.j4]:List Int)==[S9.i5,S9.j4])) then some (j7.ret false) else some (j7.nxt (m7 (i+1)))))) else some (j7.brk ()))
theorem e9d(a b):LQ a04 (d1z a b) (e8S a b) (fun s=>b5i a b s):=fun lc i h=>PK<|rg<|j5 4 h (fun h=>rg<|u0 w8 3 h fun read a4x h=>u0 w8 8 h fun S9 d5T h=>j5 10 h (fun h=>rg<|fL lc h) (fun h=>rg<|(lc.nx h fun hI=>sk [] [2,3,5] [(1,0),(2,0)] hI))) (fun h=>(lc.bk h fun hI=>sk [] [2,3] [(1,0),(2,0)] hI))
def a8U(a:n7)(b:n7):Option Bool:=
 (bif (a.d9 != b.d9) then some false else (bif (a.Code != b.Code) then some false else (bif ((a.b5.length:Int) != (b.b5.length:Int)) then some false else (bif ((a.b7.length:Int) != (b.b7.length:Int)) then some false else ((o8 (fun s:Int=>b5i a b s) 0).bind fun x=>x.go (fun r=>some r) fun s=>c7u a b)))))
theorem b56{a b}:OK a04 [.agg (S4 a),.agg (S4 b)] (a8U a b):=
 o7 _ fun r h=>n9<|j5 5 h (fun h=>rg<|fE h) (fun h=>j5 12 h (fun h=>rg<|fE h) (fun h=>j5 21 h (fun h=>rg<|fE h) (fun h=>j5 29 h (fun h=>rg<|fE h) (fun h=>rg<|lp (e9d a b) h (fun _ h=>a04.rt h) (f6G a b r) fun hI=>sk [] [2,3,5] [(1,0),(2,0)] hI))))
def b9O:FS (Bool):=⟨111,Tryz.f111,[.val [] []],[none],[.val [] []],fun r=>.b r,fun _=>[none],Tryz.func111⟩
def b0z(q:n5):Option Bool:=
 (bif decide (q.b9>=0) then (bif decide (q.b9<3) then (bif decide (q.Seq>=1) then some (decide (q.Seq<=1000)) else some false) else some false) else some false)
theorem c7e{q}:OK b9O [.agg (F6 q)] (b0z q):=
 o7 _ fun r h=>n9<|j5 3 h (fun h=>j5 8 h (fun h=>j5 13 h (fun h=>fE h) (fun h=>fE h)) (fun h=>fE h)) (fun h=>fE h)
def a77:FS (Bool):=⟨174,Tryz.f174,[.val [] []],[none],[.val [] []],fun r=>.b r,fun _=>[none],Tryz.func174⟩
def a7l(n:Int):Option Bool:=
 (bif decide (n>=(-1000000)) then some (decide (n<=1000000)) else some false)
theorem b0I{n}:OK a77 [vi n] (a7l n):=
 o7 _ fun r h=>n9<|j5 2 h (fun h=>fE h) (fun h=>fE h)
def b1W:FS (Bool):=⟨205,Tryz.f205,[.val [] []],[none],[.val [] []],fun r=>.b r,fun _=>[none],Tryz.func205⟩
def a9f(n:Int):Option Bool:=
 (bif decide (n>=0) then some (decide (n<4)) else some false)
theorem b6V{n}:OK b1W [vi n] (a9f n):=
 o7 _ fun r h=>n9<|j5 2 h (fun h=>fE h) (fun h=>fE h)
def a7s:FS (Bool):=⟨209,Tryz.f209,[.val [] []],[none,none],[.val [some 2] [],.val [] []],fun r=>.b r,fun _=>[none,none],Tryz.func209⟩
def d5h:Unit->KS:=fun _=>⟨a7s.k 3 [false],(bs 19 []),[some []]⟩
def d0A:Option Bool:=
 some false
theorem f2s(r):NF a7s r d5h (fun s=>d0A):=fun _ h=>PK<|rg<|fE h
def f7b(list:List r9)(box:Int):Int->KS:=fun i=>⟨a7s.k 2 [],(j9 2 w8 list::(vi box::(bs 3 (vi i::(bs 13 []))))),[some []]⟩
def b81(list:List r9)(box:Int)(i:Int):Option (j7 Bool Int Unit):=
 (bif decide (i<(list.length:Int)) then ((idx list i).bind fun read=>(bif (read.i5==box) then some (j7.ret true) else some (j7.nxt (m7 (i+1))))) else some (j7.brk ()))
theorem f1u(list box):LQ a7s d5h (f7b list box) (fun s=>b81 list box s):=fun lc i h=>PK<|rg<|j5 3 h (fun h=>rg<|u0 w8 2 h fun read a4x h=>j5 6 h (fun h=>rg<|fL lc h) (fun h=>rg<|(lc.nx h fun hI=>sk [] [0,1,5] [] hI))) (fun h=>(lc.bk h fun hI=>sk [] [] [] hI))
def b41(list:List r9)(box:Int):Option Bool:=
 ((o8 (fun s:Int=>b81 list box s) 0).bind fun x=>x.go (fun r=>some r) fun s=>d0A)
theorem d1i{list box}:OK a7s [j9 2 w8 list,vi box] (b41 list box):=
 o7 _ fun r h=>n9<|lp (f1u list box) h (fun _ h=>a7s.rt h) (f2s r) fun hI=>sk [] [0,1,5] [] hI
def a5z:FS (Int):=⟨210,Tryz.f210,[.val [] []],[none,none],[.val [some 2] [],.val [] []],fun r=>vi r,fun _=>[none,none],Tryz.func210⟩
def c73:Unit->KS:=fun _=>⟨a5z.k 3 [false],(bs 20 []),[some []]⟩
def d7k:Option Int:=
 some (-1)
theorem e9y(r):NF a5z r c73 (fun s=>d7k):=fun _ h=>PK<|rg<|fE h
def e8s(list:List p8)(box:Int):Int->KS:=fun i=>⟨a5z.k 2 [],(j9 2 w9 list::(vi box::(bs 3 (vi i::(bs 14 []))))),[some []]⟩
def a5M(list:List p8)(box:Int)(i:Int):Option (j7 Int Int Unit):=
 (bif decide (i<(list.length:Int)) then ((idx list i).bind fun put=>(bif (put.i5==box) then some (j7.ret i) else some (j7.nxt (m7 (i+1))))) else some (j7.brk ()))
theorem f7L(list box):LQ a5z c73 (e8s list box) (fun s=>a5M list box s):=fun lc i h=>PK<|rg<|j5 3 h (fun h=>rg<|u0 w9 2 h fun put hput h=>j5 6 h (fun h=>rg<|fL lc h) (fun h=>rg<|(lc.nx h fun hI=>sk [] [0,1,5] [] hI))) (fun h=>(lc.bk h fun hI=>sk [] [] [] hI))
def a5Z(list:List p8)(box:Int):Option Int:=
 ((o8 (fun s:Int=>a5M list box s) 0).bind fun x=>x.go (fun r=>some r) fun s=>d7k)
theorem c6S{list box}:OK a5z [j9 2 w9 list,vi box] (a5Z list box):=
 o7 _ fun r h=>n9<|lp (f7L list box) h (fun _ h=>a5z.rt h) (e9y r) fun hI=>sk [] [0,1,5] [] hI
def a0G:FS (Bool):=⟨181,Tryz.f181,[.val [] []],[none],[.val O7 []],fun r=>.b r,fun _=>[none],Tryz.func181⟩
def e8A(r_:n7):Unit->KS:=fun _=>⟨a0G.k 2 [false],(bs 1 (.ptr 1 0 0::(bs 129 []))),[some [],some [.var 51 (a0E r_)]]⟩
def c9X(r_:n7):Unit->KS:=fun _=>⟨a0G.k 4 [false,false],(bs 1 (.ptr 1 0 0::(bs 129 []))),[some [],some [.var 51 (a0E r_)]]⟩
def d8A:Unit->KS:=fun _=>⟨a0G.k 6 [false,false,false],(bs 131 []),[some []]⟩
def c8u:Option Bool:=
 some true
theorem d9O(r):NF a0G r d8A (fun s=>c8u):=fun _ h=>PK<|rg<|fE h
def e0y(r_:n7):Int->KS:=fun i1=>⟨a0G.k 5 [false,false],(bs 1 (.ptr 1 0 0::(bs 2 (vi i1::(bs 126 []))))),[some [],some [.var 51 (a0E r_)]]⟩
def b27(r_:n7)(i1:Int):Option (j7 Bool Int Unit):=
 (bif decide (i1<(r_.b7.length:Int)) then ((idx r_.b7 i1).bind fun put=>((a9f put.i5).bind fun b1S=>(bif (!b1S) then some (j7.ret false) else ((a7l put.d9).bind fun a1m=>(bif (!a1m) then some (j7.ret false) else (t5 ((0:Int)<=i1/\i1<=(r_.b7.length:Int)) (((a5Z ((r_.b7.drop 0).take (i1.toNat-0)) put.i5).bind fun a2s=>(bif decide (a2s>=0) then some (j7.ret false) else some (j7.nxt (m7 (i1+1)))))))))))) else some (j7.brk ()))
theorem e5d(r_):LQ a0G d8A (e0y r_) (fun s=>b27 r_ s):=fun lc i1 h=>PK<|rg<|j5 4 h (fun h=>rg<|u0 w9 3 h fun put hput h=>l7 b1W b6V 6 h fun b1S h=>j5 8 h (fun h=>rg<|fL lc h) (fun h=>I3 w9 12 hput<|l7 a77 b0I 15 h fun a1m h=>j5 18 h (fun h=>rg<|fL lc h) (fun h=>t9 h fun e1 h=>om (V.sl 2 (i1.toNat-0) (((r_.b7.map w9).drop 0).take (i1.toNat-0))=j9 2 w9 ((r_.b7.drop 0).take (i1.toNat-0))) (b9f e1)<|ob e1.1<|ob e1.2<|tl (22,{v:=some (j9 2 w9 ((r_.b7.drop 0).take (i1.toNat-0)))})<|I3 w9 26 hput<|l7 a5z c6S 29 h fun a2s h=>j5 31 h (fun h=>rg<|fL lc h) (fun h=>rg<|(lc.nx h fun hI=>sk [] [1,4] [(1,0)] hI))))) (fun h=>(lc.bk h fun hI=>sk [] [] [] hI))
def c1d(r_:n7):Option Bool:=
 ((o8 (fun s:Int=>b27 r_ s) 0).bind fun x=>x.go (fun r=>some r) fun s=>c8u)
theorem f1v(r_)(r):NF a0G r (c9X r_) (fun s=>c1d r_):=fun _ h=>PK<|rg<|lp (e5d r_) h (fun _ h=>a0G.rt h) (d9O r) fun hI=>sk [] [1,4] [(1,0)] hI
def e2h(r_:n7):Int->KS:=fun i=>⟨a0G.k 3 [false],(bs 1 (.ptr 1 0 0::(bs 1 (vi i::(bs 127 []))))),[some [],some [.var 51 (a0E r_)]]⟩
def b28(r_:n7)(i:Int):Option (j7 Bool Int Unit):=
 (bif decide (i<(r_.b5.length:Int)) then ((idx r_.b5 i).bind fun read=>((a9f read.i5).bind fun b3R=>(bif (!b3R) then some (j7.ret false) else (bif decide (read.j4<0) then some (j7.ret false) else (bif decide (read.j4>1000000) then some (j7.ret false) else (t5 ((0:Int)<=i/\i<=(r_.b5.length:Int)) (((b41 ((r_.b5.drop 0).take (i.toNat-0)) read.i5).bind fun b14=>(bif b14 then some (j7.ret false) else some (j7.nxt (m7 (i+1)))))))))))) else some (j7.brk ()))
theorem d9I(r_):LQ a0G (c9X r_) (e2h r_) (fun s=>b28 r_ s):=fun lc i h=>PK<|rg<|j5 4 h (fun h=>rg<|u0 w8 3 h fun read a4x h=>l7 b1W b6V 6 h fun b3R h=>j5 8 h (fun h=>rg<|fL lc h) (fun h=>I3 w8 12 a4x<|j5 17 h (fun h=>rg<|fL lc h) (fun h=>I3 w8 21 a4x<|j5 26 h (fun h=>rg<|fL lc h) (fun h=>t9 h fun e2 h=>om (V.sl 2 (i.toNat-0) (((r_.b5.map w8).drop 0).take (i.toNat-0))=j9 2 w8 ((r_.b5.drop 0).take (i.toNat-0))) (b9f e2)<|ob e2.1<|ob e2.2<|tl (30,{v:=some (j9 2 w8 ((r_.b5.drop 0).take (i.toNat-0)))})<|I3 w8 34 a4x<|l7 a7s d1i 37 h fun b14 h=>j5 38 h (fun h=>rg<|fL lc h) (fun h=>rg<|(lc.nx h fun hI=>sk [] [1,3] [(1,0)] hI)))))) (fun h=>(lc.bk h fun hI=>sk [] [1] [(1,0)] hI))
def b6H(r_:n7):Option Bool:=
 ((o8 (fun s:Int=>b28 r_ s) 0).bind fun x=>x.go (fun r=>some r) fun s=>c1d r_)
theorem e0u(r_)(r):NF a0G r (e8A r_) (fun s=>b6H r_):=fun _ h=>PK<|rg<|lp (d9I r_) h (fun _ h=>a0G.rt h) (f1v r_ r) fun hI=>sk [] [1,3] [(1,0)] hI
def b1T(r_:n7):Option Bool:=
 (((bif decide (r_.Code<0) then some (l9.ret false) else (bif decide (r_.Code>3) then some (l9.ret false) else ((a7l r_.d9).bind fun d7m=>(bif (!d7m) then some (l9.ret false) else (bif (r_.Code != 0) then (bif (r_.d9 != 0) then some (l9.ret false) else (bif decide ((r_.b7.length:Int)>0) then some (l9.ret false) else (bif (r_.Code==3) then (bif decide ((r_.b5.length:Int)>0) then some (l9.ret false) else some (l9.brk ())) else some (l9.brk ())))) else (bif (r_.Code==3) then (bif decide ((r_.b5.length:Int)>0) then some (l9.ret false) else some (l9.brk ())) else some (l9.brk ()))))))):Option (l9 Bool Unit)).bind fun x=>x.go some fun j=>b6H r_)
theorem d3l{r_}:OK a0G [.agg (S4 r_)] (b1T r_):=
 o7 _ fun r h=>rg<|A3 h (e0u r_ r) fun x1 h hc1=>rg<|j5 3 h (fun h=>rg<|(B2 h hc1 fun h=>fE h)) (fun h=>j5 8 h (fun h=>rg<|(B2 h hc1 fun h=>fE h)) (fun h=>l7 a77 b0I 11 h fun d7m h=>j5 14 h (fun h=>rg<|(B2 h hc1 fun h=>fE h)) (fun h=>j5 18 h (fun h=>j5 22 h (fun h=>rg<|(B2 h hc1 fun h=>fE h)) (fun h=>j5 30 h (fun h=>rg<|(B2 h hc1 fun h=>fE h)) (fun h=>j5 34 h (fun h=>j5 40 h (fun h=>rg<|(B2 h hc1 fun h=>fE h)) (fun h=>(o9 h hc1 fun hI=>sk [] [1] [(1,0)] hI))) (fun h=>(o9 h hc1 fun hI=>sk [] [1] [(1,0)] hI))))) (fun h=>j5 34 h (fun h=>j5 40 h (fun h=>rg<|(B2 h hc1 fun h=>fE h)) (fun h=>(o9 h hc1 fun hI=>sk [] [1] [(1,0)] hI))) (fun h=>(o9 h hc1 fun hI=>sk [] [1] [(1,0)] hI))))))
def a2u:FS (Bool):=⟨123,Tryz.f123,[.val [] []],[none],[.val J3 []],fun r=>.b r,fun _=>[none],Tryz.func123⟩
def a1g(e_:m4):Option Bool:=
 (bif e_.i7 then (bif (([e_.a5.b9,e_.a5.Seq]:List Int)==[0,0]) then ((a8U e_.b6 (n7.mk [] [] 0 0)).bind fun a1e=>some a1e) else some false) else ((b0z e_.a5).bind fun a7m=>(bif a7m then ((b1T e_.b6).bind fun a1n=>(bif a1n then some (e_.b6.Code != 3) else some false)) else some false)))
theorem a3q{e_}:OK a2u [.agg (s5 e_)] (a1g e_):=
 o7 _ fun r h=>n9<|j5 1 h (fun h=>rg<|j5 4 h (fun h=>l7 a04 b56 8 h fun a1e h=>fE h) (fun h=>fE h)) (fun h=>rg<|l7 b9O c7e 2 h fun a7m h=>j5 3 h (fun h=>l7 a0G d3l 6 h fun a1n h=>j5 8 h (fun h=>fE h) (fun h=>fE h)) (fun h=>fE h))
def a8K:FS (z0×Bool):=⟨221,Tryz.f221,[.val [none,some 8] [none,some 9000000],.val [] []],[none,none,none,none],[.val [none,some 8] [],.val [] [],.val [] [],.val J3 []],fun r=>.tup [.agg [vi r.1.i0,.bot],.b r.2],fun _=>[none,none,none,none],Tryz.func221⟩
def b4A(a:z0)(bal:Int)(slot:Int)(e_:m4):Option (z0×Bool):=
 (bif decide (slot<0) then some (a,false) else (bif decide (slot>=40) then some (a,false) else ((a1g e_).bind fun F4=>(bif (!F4) then some (a,false) else ((b0N a bal).bind fun no=>(bif (!no.2) then some (a,false) else none))))))
theorem d7q{a bal slot e_}:OK a8K [.agg (a0J a),vi bal,vi slot,.agg (s5 e_)] (b4A a bal slot e_):=
 o7 _ fun r h=>n9<|j5 2 h (fun h=>rg<|fE h) (fun h=>j5 6 h (fun h=>rg<|fE h) (fun h=>l7 a2u a3q 8 h fun F4 h=>j5 10 h (fun h=>rg<|fE h) (fun h=>rg<|l7 a52 c25 2 h fun no h=>rg<|j5 1 h (fun h=>rg<|fE h) (fun h=>(nomatch h)))))
def b5N:FS (j6):=⟨186,Tryz.f186,[.val A8 H2],[none],[.val A8 H2],fun r=>.agg (H4 r),fun _=>[none],Tryz.func186⟩
def b5e(n:j6):Option j6:=
 some (j6.mk n.Id n.Acc n.a6 n.Seq 0 0 [] [] (m4.mk false (n5.mk 0 0) (n7.mk [] [] 0 0)) [] n.i9 n.i6 n.b8 n.f0)
theorem c1M{n}:OK b5N [.agg (H4 n)] (b5e n):=
 o7 _ fun r h=>rg4<|rg4<|Y3 n.Acc.a7 n.a6 n.f0<|fE h
def a0u:FS (List l8):=⟨189,Tryz.f189,[.val [some 13] [some 83]],[none,none],[.val [] [],.val C2 []],fun r=>v6 83 13 t6 r,fun _=>[none,none],Tryz.func189⟩
def c6x:(List l8)->KS:=fun out1=>⟨a0u.k 4 [false],(bs 5 (.own 1 0 13 0 out1.length::(bs 21 []))),[some [],some [m6 83 13 t6 out1]]⟩
def d58(out1:List l8):Option (List l8):=
 some out1
theorem f7o(r):NF a0u r c6x (fun s=>d58 s):=fun out1 h=>PK<|rg<|s7 out1<|fE h
def d0S(id:Int)(m:l8):((List l8)×Int)->KS:=fun (out,t_)=>⟨a0u.k 3 [],(vi id::(bs 2 (.ptr 1 0 0::(bs 1 (.own 2 0 13 0 out.length::(vi t_::(bs 20 []))))))),[some [],some [.var 83 (a5x m)],some [m6 83 13 t6 out]]⟩
def e5i(id:Int)(m:l8)(t_:Int):(List l8)->KS:=fun out2=>⟨a0u.k 9 [true,true],(vi id::(bs 2 (.ptr 1 0 0::(bs 1 (.own 2 0 13 0 out2.length::(vi t_::(bs 20 []))))))),[some [],some [.var 83 (a5x m)],some [m6 83 13 t6 out2]]⟩
def c3U(t_:Int)(out2:List l8):Option (j7 (List l8) ((List l8)×Int) (List l8)):=
 some (j7.nxt (out2,m7 (t_+1)))
theorem e8M(id m t_)(lc:D2 a0u c6x (d0S id m)):NL lc (e5i id m t_) (fun s=>c3U t_ s):=fun out2 h=>PK<|rg<|(lc.nx h fun hI=>sk [] [0,3,5,6] [(1,0),(2,0)] hI)
def a4V(id:Int)(m:l8)(out:List l8)(t_:Int):Option (j7 (List l8) ((List l8)×Int) (List l8)):=
 (bif decide (t_<3) then (((bif (t_ != id) then ((a8g m).bind fun G6=>(t5 ((out.length+1)*152<=140737488355328) (some (l9.brk (out++[(l8.mk G6.a9 id t_ G6.a8 G6.g8 G6.g9 G6.a7)]))))) else some (l9.brk out)):Option (l9 (j7 (List l8) ((List l8)×Int) (List l8)) (List l8))).bind fun x=>x.go some fun j=>c3U t_ j) else some (j7.brk out))
theorem f7P(id m):LQ a0u c6x (d0S id m) (fun s=>a4V id m s.1 s.2):=fun lc (out,t_) h=>PK<|rg<|j5 1 h (fun h=>A3 h (e8M id m t_ lc) fun x2 h hc2=>rg<|j5 2 h (fun h=>rg<|l7 b17 b5O 1 h fun G6 h=>L8<|tk 2 C2<|t9 h fun e1 h=>F7 3 21 83 13 152 t6 out (l8.mk G6.a9 id t_ G6.a8 G6.g8 G6.g9 G6.a7) e1<|E5 (l8.mk G6.a9 id t_ G6.a8 G6.g8 G6.g9 G6.a7)<|(o9 h hc2 fun hI=>sk [] [0,3,5,6] [(1,0),(21,0)] hI)) (fun h=>(o9 h hc2 fun hI=>sk [] [0,3,5,6] [(1,0),(2,0)] hI))) (fun h=>(lc.bk h fun hI=>sk [] [5] [(2,0)] hI))
def a3z(id:Int)(m:l8):Option (List l8):=
 ((o8 (fun s:(List l8)×Int=>a4V id m s.1 s.2) (([]:List l8),0)).bind fun x=>x.go (fun r=>some r) fun s=>d58 s)
theorem a59{id m}:OK a0u [vi id,.agg (t6 m)] (a3z id m):=
 o7 _ fun r h=>n9<|tk 0 C2<|rg<|lp (f7P id m) h (fun _ h=>a0u.rt h) (f7o r) fun hI=>om ((.own 3 0 13 0 0:V)=.own 3 0 13 0 ([]:List l8).length) (by simp)<|sk [.is (.tmp 5) (.own 3 0 13 0 ([]:List l8).length)] [0,3,5,6] [(1,0),(3,0)] hI
def a6N:FS (z0×Bool):=⟨221,Tryz.f221,[.val [none,some 8] [none,some 89],.val [] []],[none,none,none,none],[.val [none,some 8] [none,some 89],.val [] [],.val [] [],.val J3 []],fun r=>.tup [.agg [vi r.1.i0,v6 89 8 q8 r.1.a7],.b r.2],fun _=>[none,none,none,none],Tryz.func221⟩
def d3z(bal:Int)(slot:Int)(e_:m4)(l6Promise:z0×Bool):(List m8)->KS:=fun Z1=>⟨a6N.k 5 [false,false,false],(bs 1 (vi bal::(vi slot::(bs 4 (.ptr 1 0 0::(.ptr 2 0 0::(bs 1 (.ptr 3 0 0::(bs 42 []))))))))),[some [.dead],some [.var 53 (a1C e_)],some [.var 43 [vi 0,.nil]],some [.var 43 [vi l6Promise.1.i0,.own 4 0 8 0 Z1.length]],some [m6 89 8 q8 Z1]]⟩
def c2z(bal:Int)(slot:Int)(e_:m4)(l6Promise:z0×Bool)(Z1:List m8):Option (z0×Bool):=
 ((X7 e_).bind fun l5Entry=>((idx Z1 slot).bind fun vote=>some ((z0.mk l6Promise.1.i0 (Z1.set slot.toNat (m8.mk bal l5Entry))),true)))
theorem e32(bal slot e_ l6Promise)(r):NF a6N r (d3z bal slot e_ l6Promise) (fun s=>c2z bal slot e_ l6Promise s):=fun Z1 h=>PK<|rg<|l7 a0z a01 5 h fun l5Entry h=>B0 h fun vote K1 h=>C0 K1<|Q6 89 8 q8 8 U9 (m8.mk bal l5Entry) K1<|rg<|om (Z1.length=(Z1.set slot.toNat (m8.mk bal l5Entry)).length) (by simp)<|fE h
def e64(bal:Int)(slot:Int)(e_:m4)(l6Promise:z0×Bool):(List m8)->KS:=fun a7=>⟨a6N.k 4 [false,false],(bs 1 (vi bal::(vi slot::(bs 4 (.ptr 1 0 0::(.ptr 2 0 0::(bs 1 (.ptr 3 0 0::(bs 42 []))))))))),[some [.dead],some [.var 53 (a1C e_)],some [.var 43 [vi 0,.nil]],some [.var 43 [vi l6Promise.1.i0,.own 4 0 8 0 a7.length]],some [m6 89 8 q8 a7]]⟩
def a8c(slot:Int)(a7:List m8):Option (j7 (z0×Bool) (List m8) (List m8)):=
 (bif decide ((a7.length:Int)<=slot) then (t5 ((a7.length+1)*96<=140737488355328) (some (j7.nxt (a7++[(m8.mk 0 (m4.mk false (n5.mk 0 0) (n7.mk [] [] 0 0)))])))) else some (j7.brk a7))
theorem f4j(bal slot e_ l6Promise):LQ a6N (d3z bal slot e_ l6Promise) (e64 bal slot e_ l6Promise) (fun s=>a8c slot s):=fun lc a7 h=>PK<|rg<|j5 4 h (fun h=>rg<|tk 3 U9<|t9 h fun e1 h=>F7 4 14 89 8 96 q8 a7 (m8.mk 0 (m4.mk false (n5.mk 0 0) (n7.mk [] [] 0 0))) e1<|E5 (m8.mk 0 (m4.mk false (n5.mk 0 0) (n7.mk [] [] 0 0)))<|(lc.nx h fun hI=>sk [] [1,2,7,8,10] [(1,0),(2,0),(3,0),(14,0)] hI)) (fun h=>(lc.bk h fun hI=>sk [] [1,2,7,8,10] [(1,0),(2,0),(3,0),(4,0)] hI))
def b3X(a:z0)(bal:Int)(slot:Int)(e_:m4):Option (z0×Bool):=
 (bif decide (slot<0) then some (a,false) else (bif decide (slot>=40) then some (a,false) else ((a1g e_).bind fun F4=>(bif (!F4) then some (a,false) else (a5e (b0N a bal) (fun no=>(bif (!no.2) then some (a,false) else none)) (((a7N a bal).bind fun l6Promise=>(bif (!l6Promise.2) then none else ((o8 (fun s:List m8=>a8c slot s) l6Promise.1.a7).bind fun x=>x.go (fun r=>some r) fun s=>c2z bal slot e_ l6Promise s)))))))))
theorem c9U{a bal slot e_}:OK a6N [.agg [vi a.i0,v6 89 8 q8 a.a7],vi bal,vi slot,.agg (s5 e_)] (b3X a bal slot e_):=
 o7 _ fun r h=>n9<|j5 2 h (fun h=>rg<|s7 a.a7<|fE h) (fun h=>j5 6 h (fun h=>rg<|s7 a.a7<|fE h) (fun h=>l7 a2u a3q 8 h fun F4 h=>j5 10 h (fun h=>rg<|s7 a.a7<|fE h) (fun h=>rg<|cbA a52.t c25 2 true h (fun no h=>osc a52 no (by simp [a52,L0,R0,O4,V.simple,vi,v6,a0J,eB,s5,eI,w9,w8,F6,S4,q8]) (Q9 2)<|s7 a.a7<|rg<|j5 1 h (fun h=>rg<|s7 a.a7<|fE h) (fun h=>(nomatch h))) (fun h=>l7 b4m b7q 2 h fun l6Promise h=>s7 a.a7<|rg<|j5 1 h (fun h=>(nomatch h)) (fun h=>lp (f4j bal slot e_ l6Promise) h (fun _ h=>a6N.rt h) (e32 bal slot e_ l6Promise r) fun hI=>sk [] [1,2,7,8,10] [(2,0),(3,0),(22,0),(18,0)] hI)))))
def b0X:FS (j6×List l8):=⟨190,Tryz.f190,[.val A8 H2,.val [some 13] []],[none],[.val A8 H2],fun r=>.tup [.agg (H4 r.1),j9 13 t6 r.2],fun _=>[none],Tryz.func190⟩
def a6z(n:j6):Option (j6×List l8):=
 (bif (n.d6 != 2) then some (n,([]:List l8)) else (bif decide ((n.a6.length:Int)>=40) then some (n,([]:List l8)) else ((b8y n).bind fun H6=>(bif (!H6.2.2) then some (H6.1,([]:List l8)) else (a5e (b4A H6.1.Acc H6.1.a8 (H6.1.a6.length:Int) H6.2.1) (fun no=>(bif (!no.2) then ((b5e H6.1).bind fun N4=>some (N4,([]:List l8))) else none)) (((b3X H6.1.Acc H6.1.a8 (H6.1.a6.length:Int) H6.2.1).bind fun a5D=>(bif (!a5D.2) then none else ((X7 H6.2.1).bind fun l5Entry=>(t5 (0<=(3:Int)/\(3:Int)*1<=140737488355328) (((idx (f8A (3:Int).toNat false) H6.1.Id).bind fun y=>((a3z H6.1.Id (l8.mk 3 0 0 H6.1.a8 (H6.1.a6.length:Int) H6.2.1 [])).bind fun J9=>some ((j6.mk H6.1.Id a5D.1 H6.1.a6 H6.1.Seq 3 H6.1.a8 H6.1.c9 H6.1.i4 l5Entry ((f8A (3:Int).toNat false).set H6.1.Id.toNat true) H6.1.i9 H6.1.i6 H6.1.b8 H6.1.f0),J9))))))))))))))
theorem b2m{n}:OK b0X [.agg (H4 n)] (a6z n):=
 o7 _ fun r h=>n9<|j5 3 h (fun h=>rg<|tk 1 C2<|A4 n<|A9 l8<|fE h) (fun h=>j5 8 h (fun h=>rg<|tk 1 C2<|A4 n<|A9 l8<|fE h) (fun h=>rg<|l7 a24 f4f 1 h fun H6 h=>A4 n<|rg<|j5 1 h (fun h=>rg<|tk 1 C2<|A4 H6.1<|A9 l8<|fE h) (fun h=>rg<|cbA a8K.t d7q 8 true h (fun no h=>osc a8K no (by simp [a8K,L0,R0,O4,V.simple,vi,v6,a0J,eB,s5,eI,w9,w8,F6,S4,q8]) (Q9 4)<|s7 H6.1.Acc.a7<|rg<|j5 1 h (fun h=>rg<|l7 b5N c1M 1 h fun N4 h=>A4 H6.1<|tk 2 C2<|A4 N4<|A9 l8<|fE h) (fun h=>(nomatch h))) (fun h=>l7 a6N c9U 8 h fun a5D h=>s7 H6.1.Acc.a7<|rg<|j5 1 h (fun h=>(nomatch h)) (fun h=>L8<|l7 a0z a01 1 h fun l5Entry h=>rg<|t9 h fun e1 h=>T1 0 52 4 1 1 eB false ti4 (.none) e1 (by decide) (by rfl)<|rg<|B0 h fun y hy h=>C0 hy<|Q6 4 1 eB 5 [] true hy<|rg<|l7 a0u a59 10 h fun J9 h=>Y3 a5D.1.a7 H6.1.a6 H6.1.c9<|om ((f8A (3:Int).toNat false).length=((f8A (3:Int).toNat false).set H6.1.Id.toNat true).length) (by simp)<|C9 H6.1.f0 J9<|fE h)))))
def d25:FS (j6×List l8):=⟨212,Tryz.f212,[.val A8 H2,.val [some 13] []],[none,none],[.val A8 H2,.val C2 []],fun r=>.tup [.agg (H4 r.1),j9 13 t6 r.2],fun _=>[none,none],Tryz.func212⟩
def b8h(n:j6)(m:l8):Option (j6×List l8):=
 (bif (n.d6 != 1) then some (n,([]:List l8)) else (bif (m.a8 != n.a8) then some (n,([]:List l8)) else ((idx n.c9 m.c9).bind fun y=>((b9n m.a7 m.g8).bind fun c5O=>((b9y n.i4 c5O).bind fun c66=>((b4F (n.c9.set m.c9.toNat true)).bind fun b3P=>(bif (!b3P) then some ((j6.mk n.Id n.Acc n.a6 n.Seq n.d6 n.a8 (n.c9.set m.c9.toNat true) c66 n.c8 n.a7 n.i9 n.i6 n.b8 n.f0),([]:List l8)) else ((a6z (j6.mk n.Id n.Acc n.a6 n.Seq 2 n.a8 [] c66 n.c8 n.a7 n.i9 n.i6 n.b8 n.f0)).bind fun O1=>some (O1.1,O1.2)))))))))
theorem e0w{n m}:OK d25 [.agg (H4 n),.agg (t6 m)] (b8h n m):=
 o7 _ fun r h=>n9<|j5 3 h (fun h=>rg<|tk 1 C2<|A4 n<|A9 l8<|fE h) (fun h=>j5 9 h (fun h=>rg<|tk 1 C2<|A4 n<|A9 l8<|fE h) (fun h=>rg<|B0 h fun y hy h=>C0 hy<|Q6 4 1 eB 5 [] true hy<|rg<|l7 d4s e0m 6 h fun c5O h=>l7 a1J e1C 7 h fun c66 h=>s7 c5O<|rg<|R4 a6d d1T 2 1 h fun b3P h=>om (n.c9.length=(n.c9.set m.c9.toNat true).length) (by simp)<|j5 3 h (fun h=>rg<|tk 1 C2<|C9 n.Acc.a7 n.a6<|om (n.c9.length=(n.c9.set m.c9.toNat true).length) (by simp)<|C9 n.a7 n.f0<|A9 l8<|fE h) (fun h=>L8<|l7 b0X b2m 1 h fun O1 h=>H9 n.Acc.a7 n.a6 n.a7 n.f0<|A4 O1.1<|fE h)))
def b40:FS (j6):=⟨216,Tryz.f216,[.val A8 H2],[none,none],[.val A8 H2,.val [] []],fun r=>.agg (H4 r),fun _=>[none,none],Tryz.func216⟩
def e8m(n:j6):Unit->KS:=fun _=>⟨b40.k 2 [false],(bs 2 (.ptr 1 0 0::(bs 1 (.ptr 2 0 0::(bs 12 []))))),[some (a9a n),some [.var 55 (a8q n)],some [.var 55 [vi 0,vi 0,.nil,.nil,vi 0,vi 0,vi 0,.nil,.nil,.b false,vi 0,vi 0,.nil,.nil,vi 0,vi 0,.nil,.b false,.nil,.b false,vi 0,vi 0,.nil,.nil,vi 0,vi 0,.nil]]]⟩
def d2Z(n:j6):Option j6:=
 some n
theorem f8e(n)(r):NF b40 r (e8m n) (fun s=>d2Z n):=fun _ h=>PK<|rg<|A4 n<|fE h
def b4y(n:j6)(bal:Int):Option j6:=
 (((bif (n.d6 != 0) then (bif decide (bal>n.a8) then ((b5e n).bind fun N4=>some (l9.ret N4)) else some (l9.brk ())) else some (l9.brk ())):Option (l9 j6 Unit)).bind fun x=>x.go some fun j=>d2Z n)
theorem d1E{n bal}:OK b40 [.agg (H4 n),vi bal] (b4y n bal):=
 o7 _ fun r h=>rg<|A3 h (f8e n r) fun x1 h hc1=>rg<|j5 3 h (fun h=>j5 8 h (fun h=>rg<|l7 b5N c1M 1 h fun N4 h=>A4 n<|(B2 h hc1 fun h=>A4 N4<|fE h)) (fun h=>(o9 h hc1 fun hI=>sk [] [2,4] [(1,0),(2,0)] hI))) (fun h=>(o9 h hc1 fun hI=>sk [] [2,4] [(1,0),(2,0)] hI))
def d8z:FS (j6×List l8):=⟨213,Tryz.f213,[.val A8 H2,.val [some 13] []],[none,none],[.val A8 H2,.val C2 []],fun r=>.tup [.agg (H4 r.1),j9 13 t6 r.2],fun _=>[none,none],Tryz.func213⟩
def b9q(n:j6)(m:l8):Option (j6×List l8):=
 (a5e (b4A n.Acc m.a8 m.g8 m.g9) (fun no=>(bif (!no.2) then ((a5w m (l8.mk 6 0 0 n.Acc.i0 0 (m4.mk false (n5.mk 0 0) (n7.mk [] [] 0 0)) [])).bind fun a17=>some (n,a17)) else none)) (((b3X n.Acc m.a8 m.g8 m.g9).bind fun a5D=>(bif (!a5D.2) then none else ((b4y (j6.mk n.Id a5D.1 n.a6 n.Seq n.d6 n.a8 n.c9 n.i4 n.c8 n.a7 n.i9 n.i6 n.b8 n.f0) m.a8).bind fun K2=>((a5w m (l8.mk 4 0 0 m.a8 m.g8 (m4.mk false (n5.mk 0 0) (n7.mk [] [] 0 0)) [])).bind fun a5d=>some (K2,a5d)))))))
theorem e6m{n m}:OK d8z [.agg (H4 n),.agg (t6 m)] (b9q n m):=
 o7 _ fun r h=>n9<|cbA a8K.t d7q 8 true h (fun no h=>osc a8K no (by simp [a8K,L0,R0,O4,V.simple,vi,v6,a0J,eB,s5,eI,w9,w8,F6,S4,q8]) (Q9 4)<|s7 n.Acc.a7<|rg<|j5 1 h (fun h=>rg<|l7 a3W a8Y 6 h fun a17 h=>A4 n<|fE h) (fun h=>(nomatch h))) (fun h=>l7 a6N c9U 8 h fun a5D h=>s7 n.Acc.a7<|rg<|j5 1 h (fun h=>(nomatch h)) (fun h=>n9<|l7 b40 d1E 3 h fun K2 h=>s7 a5D.1.a7<|J8 n<|rg<|l7 a3W a8Y 7 h fun a5d h=>A4 K2<|fE h))
def c2S:FS (List m9):=⟨70,Tryz.f70,[.val [some 2] [some 142]],[],[],fun r=>v6 142 2 x7 r,fun _=>[],Tryz.func70⟩
def b1N:Option (List m9):=
 (t5 (0<=(4:Int)/\(4:Int)*16<=140737488355328) (some (f8A (4:Int).toNat (m9.mk 0 0))))
theorem d0V:OK c2S [] b1N:=
 o7 _ fun r h=>n9<|t9 h fun e1 h=>T1 0 2 142 2 16 x7 (m9.mk 0 0) b26 (.none) e1 (by decide) (by rfl)<|s7 (f8A (4:Int).toNat (m9.mk 0 0))<|fE h
def b33:FS (u5):=⟨117,Tryz.f117,[.val [none,some 2,some 4] [none,some 142,none]],[],[],fun r=>.agg (b3w r),fun _=>[],Tryz.func117⟩
def a7A:Option u5:=
 ((b1N).bind fun a05=>some (u5.mk 0 a05 []))
theorem b7I:OK b33 [] a7A:=
 o7 _ fun r h=>n9<|l7 c2S d0V 0 h fun a05 h=>s7 a05<|fE h
def a6Z:FS (q9×Bool):=⟨176,Tryz.f176,[.val [] [],.val [] []],[none,none],[.val [none,some 2,some 4] [],.val [] []],fun r=>.tup [.agg (B5 r.1),.b r.2],fun _=>[none,none],Tryz.func176⟩
def d4o:Unit->KS:=fun _=>⟨a6Z.k 3 [false],(bs 4 (.ptr 1 0 0::(bs 24 []))),[some [],some [.var 182 [vi 0,vi 0,vi 0,vi 0]]]⟩
def d60:Option (q9×Bool):=
 some ((q9.mk (n5.mk 0 0) 0 0),false)
theorem f0s(r):NF a6Z r d4o (fun s=>d60):=fun _ h=>PK<|rg<|fE h
def e5j(s_:u5)(who:Int):Int->KS:=fun i=>⟨a6Z.k 2 [],(bs 1 (vi who::(.ptr 1 0 0::(bs 1 (.ptr 2 0 0::(bs 1 (vi i::(bs 22 [])))))))),[some [],some [.var 104 [vi s_.At,j9 2 x7 s_.g7,j9 4 B5 s_.i8]],some [.var 182 [vi 0,vi 0,vi 0,vi 0]]]⟩
def b8H(s_:u5)(who:Int)(i:Int):Option (j7 (q9×Bool) Int Unit):=
 (bif decide (i<(s_.i8.length:Int)) then ((idx s_.i8 i).bind fun done=>(bif (done.a5.b9==who) then some (j7.ret (done,true)) else some (j7.nxt (m7 (i+1))))) else some (j7.brk ()))
theorem e2D(s_ who):LQ a6Z d4o (e5j s_ who) (fun s=>b8H s_ who s):=fun lc i h=>PK<|rg<|j5 4 h (fun h=>rg<|u0 B5 3 h fun done c0t h=>j5 8 h (fun h=>rg<|I3 B5 3 c0t<|fL lc h) (fun h=>rg<|(lc.nx h fun hI=>sk [] [1,2,4,6] [(1,0),(2,0)] hI))) (fun h=>(lc.bk h fun hI=>sk [] [4] [(2,0)] hI))
def b6l(s_:u5)(who:Int):Option (q9×Bool):=
 ((o8 (fun s:Int=>b8H s_ who s) 0).bind fun x=>x.go (fun r=>some r) fun s=>d60)
theorem f5c{s_ who}:OK a6Z [.agg (a82 s_),vi who] (b6l s_ who):=
 o7 _ fun r h=>n9<|lp (e2D s_ who) h (fun _ h=>a6Z.rt h) (f0s r) fun hI=>sk [] [1,2,4,6] [(1,0),(2,0)] hI
def a4F:FS (Bool):=⟨120,Tryz.f120,[.val [] []],[none],[.val [some 2] []],fun r=>.b r,fun _=>[none],Tryz.func120⟩
def c9N:Unit->KS:=fun _=>⟨a4F.k 4 [false,false],(bs 36 []),[some []]⟩
def d78:Option Bool:=
 some true
theorem d9d(r):NF a4F r c9N (fun s=>d78):=fun _ h=>PK<|rg<|fE h
def e09(list:List m9):Int->KS:=fun i=>⟨a4F.k 3 [false],(j9 2 x7 list::(bs 2 (vi i::(bs 32 [])))),[some []]⟩
def b9U(list:List m9)(i:Int):Option (j7 Bool Int Unit):=
 (bif decide (i<(list.length:Int)) then ((idx list i).bind fun box=>(bif decide (box.j4<0) then some (j7.ret false) else (bif decide (box.j4>1000000) then some (j7.ret false) else ((a7l box.d9).bind fun a1m=>(bif (!a1m) then some (j7.ret false) else some (j7.nxt (m7 (i+1)))))))) else some (j7.brk ()))
theorem f7w(list):LQ a4F c9N (e09 list) (fun s=>b9U list s):=fun lc i h=>PK<|rg<|j5 3 h (fun h=>rg<|u0 x7 2 h fun box a1B h=>j5 6 h (fun h=>rg<|fL lc h) (fun h=>I3 x7 9 a1B<|j5 14 h (fun h=>rg<|fL lc h) (fun h=>I3 x7 17 a1B<|l7 a77 b0I 20 h fun a1m h=>j5 22 h (fun h=>rg<|fL lc h) (fun h=>rg<|(lc.nx h fun hI=>sk [] [0,3] [] hI))))) (fun h=>(lc.bk h fun hI=>sk [] [] [] hI))
def b0Q(list:List m9):Option Bool:=
 (bif ((list.length:Int) != 4) then some false else ((o8 (fun s:Int=>b9U list s) 0).bind fun x=>x.go (fun r=>some r) fun s=>d78))
theorem c3z{list}:OK a4F [j9 2 x7 list] (b0Q list):=
 o7 _ fun r h=>n9<|j5 2 h (fun h=>rg<|fE h) (fun h=>rg<|lp (f7w list) h (fun _ h=>a4F.rt h) (d9d r) fun hI=>sk [] [0,3] [] hI)
def a37:FS (Bool):=⟨177,Tryz.f177,[.val [] []],[none,none],[.val [some 2] [],.val O7 []],fun r=>.b r,fun _=>[none,none],Tryz.func177⟩
def d4a:Unit->KS:=fun _=>⟨a37.k 4 [false,false],(bs 38 []),[some []]⟩
def c72:Option Bool:=
 some true
theorem e6w(r):NF a37 r d4a (fun s=>c72):=fun _ h=>PK<|rg<|fE h
def e1h(list:List m9)(r_:n7):Int->KS:=fun i=>⟨a37.k 3 [false],(j9 2 x7 list::(bs 2 (.ptr 1 0 0::(bs 1 (vi i::(bs 32 [])))))),[some [],some [.var 51 (a0E r_)]]⟩
def b6w(list:List m9)(r_:n7)(i:Int):Option (j7 Bool Int Unit):=
 (bif decide (i<(r_.b5.length:Int)) then ((idx r_.b5 i).bind fun read=>((idx list read.i5).bind fun box=>(bif (box.j4 != read.j4) then some (j7.ret false) else some (j7.nxt (m7 (i+1)))))) else some (j7.brk ()))
theorem e8G(list r_):LQ a37 d4a (e1h list r_) (fun s=>b6w list r_ s):=fun lc i h=>PK<|rg<|j5 4 h (fun h=>rg<|u0 w8 4 h fun read a4x h=>u0 x7 7 h fun box a1B h=>I3 w8 13 a4x<|j5 16 h (fun h=>rg<|fL lc h) (fun h=>rg<|(lc.nx h fun hI=>sk [] [0,3,5] [(1,0)] hI))) (fun h=>(lc.bk h fun hI=>sk [] [] [] hI))
def b9u(list:List m9)(r_:n7):Option Bool:=
 ((b0Q list).bind fun R5=>(bif (!R5) then some false else ((b1T r_).bind fun a1n=>(bif (!a1n) then some false else ((o8 (fun s:Int=>b6w list r_ s) 0).bind fun x=>x.go (fun r=>some r) fun s=>c72)))))
theorem e5S{list r_}:OK a37 [j9 2 x7 list,.agg (S4 r_)] (b9u list r_):=
 o7 _ fun r h=>n9<|l7 a4F c3z 1 h fun R5 h=>j5 3 h (fun h=>rg<|fE h) (fun h=>l7 a0G d3l 5 h fun a1n h=>j5 7 h (fun h=>rg<|fE h) (fun h=>rg<|lp (e8G list r_) h (fun _ h=>a37.rt h) (e6w r) fun hI=>sk [] [0,3,5] [(1,0)] hI))
def c9p:FS (Int):=⟨207,Tryz.f207,[.val [] []],[none,none],[.val [] [],.val [] []],fun r=>vi r,fun _=>[none,none],Tryz.func207⟩
def c4e(a:Int)(b:Int):Option Int:=
 (bif decide (a<b) then some a else some b)
theorem d8V{a b}:OK c9p [vi a,vi b] (c4e a b):=
 o7 _ fun r h=>n9<|j5 2 h (fun h=>rg<|fE h) (fun h=>rg<|fE h)
def a5n:FS (List m9):=⟨178,Tryz.f178,[.val [some 2] [some 142]],[none,none],[.val [some 2] [some 142],.val O7 []],fun r=>v6 142 2 x7 r,fun _=>[none,none],Tryz.func178⟩
def d1N:(List m9)->KS:=fun a98=>⟨a5n.k 3 [false],(.own 0 0 2 0 a98.length::(bs 37 [])),[some [m6 142 2 x7 a98]]⟩
def d29(a98:List m9):Option (List m9):=
 some a98
theorem e2Y(r):NF a5n r d1N (fun s=>d29 s):=fun a98 h=>PK<|rg<|s7 a98<|fE h
def f0I(r_:n7):((List m9)×Int)->KS:=fun (list1,i)=>⟨a5n.k 2 [],(.own 0 0 2 0 list1.length::(bs 2 (.ptr 1 0 0::(bs 1 (vi i::(bs 32 [])))))),[some [m6 142 2 x7 list1],some [.var 51 (a0E r_)]]⟩
def b8d(r_:n7)(list1:List m9)(i:Int):Option (j7 (List m9) ((List m9)×Int) (List m9)):=
 (bif decide (i<(r_.b7.length:Int)) then ((idx r_.b7 i).bind fun put=>((idx list1 put.i5).bind fun box=>((c4e 1000000 (m7 (box.j4+1))).bind fun b4U=>some (j7.nxt (list1.set put.i5.toNat (m9.mk b4U put.d9),m7 (i+1)))))) else some (j7.brk list1))
theorem e3x(r_):LQ a5n d1N (f0I r_) (fun s=>b8d r_ s.1 s.2):=fun lc (list1,i) h=>PK<|rg<|j5 4 h (fun h=>rg<|u0 w9 3 h fun put hput h=>rg<|B0 h fun box a1B h=>C0 a1B<|I4 x7 6 a1B<|l7 c9p d8V 8 h fun b4U h=>I3 w9 12 hput<|C0 a1B<|Q6 142 2 x7 17 [] (m9.mk b4U put.d9) a1B<|rg<|(lc.nx h fun hI=>om ((.own 0 0 2 0 list1.length:V)=.own 0 0 2 0 (list1.set put.i5.toNat (m9.mk b4U put.d9)).length) (by simp)<|sk [.is (.tmp 0) (.own 0 0 2 0 (list1.set put.i5.toNat (m9.mk b4U put.d9)).length)] [0,3,5] [(1,0)] hI)) (fun h=>(lc.bk h fun hI=>sk [] [0] [] hI))
def b2N(list:List m9)(r_:n7):Option (List m9):=
 ((o8 (fun s:(List m9)×Int=>b8d r_ s.1 s.2) (list,0)).bind fun x=>x.go (fun r=>some r) fun s=>d29 s)
theorem c9d{list r_}:OK a5n [v6 142 2 x7 list,.agg (S4 r_)] (b2N list r_):=
 o7 _ fun r h=>n9<|lp (e3x r_) h (fun _ h=>a5n.rt h) (e2Y r) fun hI=>sk [] [0,3,5] [(1,0)] hI
def a1S:FS (List q9):=⟨179,Tryz.f179,[.val [some 4] []],[none,none],[.val [some 4] [],.val [] []],fun r=>j9 4 B5 r,fun _=>[none,none],Tryz.func179⟩
def b7G(d:q9):((List q9)×Bool)->KS:=fun (out1,in_1)=>⟨a1S.k 5 [false],(bs 3 (.ptr 1 0 0::(bs 1 (.own 2 0 4 0 out1.length::(.b in_1::(bs 50 [])))))),[some [],some [.var 182 [vi d.a5.b9,vi d.a5.Seq,vi d.Code,vi d.d9]],some [m6 182 4 B5 out1]]⟩
def e5F:(List q9)->KS:=fun out2=>⟨a1S.k 7 [false,true],(bs 5 (.own 1 0 4 0 out2.length::(bs 51 []))),[some [],some [m6 182 4 B5 out2]]⟩
def c1Z(out2:List q9):Option (List q9):=
 some out2
theorem f7V(r):NF a1S r e5F (fun s=>c1Z s):=fun out2 h=>PK<|rg<|s7 out2<|fE h
def c4J(d:q9)(out1:List q9)(in_1:Bool):Option (List q9):=
 (((bif (!in_1) then (t5 ((out1.length+1)*32<=140737488355328) (some (l9.brk (out1++[d])))) else some (l9.brk out1)):Option (l9 (List q9) (List q9))).bind fun x=>x.go some fun j=>c1Z j)
theorem e1B(d)(r):NF a1S r (b7G d) (fun s=>c4J d s.1 s.2):=fun (out1,in_1) h=>PK<|A3 h (f7V r) fun x1 h hc1=>rg<|j5 1 h (fun h=>rg<|tk 2 []<|t9 h fun e1 h=>F7 3 8 182 4 32 B5 out1 d e1<|E5 d<|(o9 h hc1 fun hI=>sk [] [5] [(8,0)] hI)) (fun h=>(o9 h hc1 fun hI=>sk [] [5] [(2,0)] hI))
def c4D(list:List q9)(d:q9):((List q9)×Bool×Int)->KS:=fun (out,in_,i)=>⟨a1S.k 4 [],(j9 4 B5 list::(bs 2 (.ptr 1 0 0::(bs 1 (.own 2 0 4 0 out.length::(.b in_::(vi i::(bs 49 [])))))))),[some [],some [.var 182 [vi d.a5.b9,vi d.a5.Seq,vi d.Code,vi d.d9]],some [m6 182 4 B5 out]]⟩
def e56(list:List q9)(d:q9)(i:Int):((List q9)×Bool)->KS:=fun (out3,in_2)=>⟨a1S.k 8 [true,true],(j9 4 B5 list::(bs 2 (.ptr 1 0 0::(bs 1 (.own 2 0 4 0 out3.length::(.b in_2::(vi i::(bs 49 [])))))))),[some [],some [.var 182 [vi d.a5.b9,vi d.a5.Seq,vi d.Code,vi d.d9]],some [m6 182 4 B5 out3]]⟩
def f0p(list:List q9)(d:q9)(i:Int)(in_2:Bool):(List q9)->KS:=fun out4=>⟨a1S.k 10 [true,true,true],(j9 4 B5 list::(bs 2 (.ptr 1 0 0::(bs 1 (.own 2 0 4 0 out4.length::(.b in_2::(vi i::(bs 49 [])))))))),[some [],some [.var 182 [vi d.a5.b9,vi d.a5.Seq,vi d.Code,vi d.d9]],some [m6 182 4 B5 out4]]⟩
def c2D(i:Int)(in_2:Bool)(out4:List q9):Option (j7 (List q9) ((List q9)×Bool×Int) ((List q9)×Bool)):=
 some (j7.nxt (out4,in_2,m7 (i+1)))
theorem f6F(list d i in_2)(lc:D2 a1S (b7G d) (c4D list d)):NL lc (f0p list d i in_2) (fun s=>c2D i in_2 s):=fun out4 h=>PK<|rg<|(lc.nx h fun hI=>sk [] [0,3,5,6,7] [(1,0),(2,0)] hI)
def c6B(list:List q9)(d:q9)(i:Int)(out3:List q9)(in_2:Bool):Option (j7 (List q9) ((List q9)×Bool×Int) ((List q9)×Bool)):=
 ((((idx list i).bind fun done=>(bif (done.a5.b9 != d.a5.b9) then (t5 ((out3.length+1)*32<=140737488355328) (some (l9.brk (out3++[done])))) else some (l9.brk out3))):Option (l9 (j7 (List q9) ((List q9)×Bool×Int) ((List q9)×Bool)) (List q9))).bind fun x=>x.go some fun j=>c2D i in_2 j)
theorem e8f(list d i)(lc:D2 a1S (b7G d) (c4D list d)):NL lc (e56 list d i) (fun s=>c6B list d i s.1 s.2):=fun (out3,in_2) h=>PK<|A3 h (f6F list d i in_2 lc) fun x2 h hc2=>rg<|u0 B5 2 h fun done c0t h=>j5 9 h (fun h=>rg<|I3 B5 3 c0t<|tk 5 []<|t9 h fun e2 h=>F7 6 19 182 4 32 B5 out3 done e2<|E5 done<|(o9 h hc2 fun hI=>sk [] [0,3,5,6,7] [(1,0),(19,0)] hI)) (fun h=>(o9 h hc2 fun hI=>sk [] [0,3,5,6,7] [(1,0),(2,0)] hI))
def b2y(list:List q9)(d:q9)(out:List q9)(in_:Bool)(i:Int):Option (j7 (List q9) ((List q9)×Bool×Int) ((List q9)×Bool)):=
 (bif decide (i<(list.length:Int)) then (((bif (!in_) then ((idx list i).bind fun a5F=>(bif decide (a5F.a5.b9>=d.a5.b9) then (t5 ((out.length+1)*32<=140737488355328) (some (l9.brk (out++[d],true)))) else some (l9.brk (out,in_)))) else some (l9.brk (out,in_))):Option (l9 (j7 (List q9) ((List q9)×Bool×Int) ((List q9)×Bool)) ((List q9)×Bool))).bind fun x=>x.go some fun j=>c6B list d i j.1 j.2) else some (j7.brk (out,in_)))
theorem f1I(list d):LQ a1S (b7G d) (c4D list d) (fun s=>b2y list d s.1 s.2.1 s.2.2):=fun lc (out,in_,i) h=>PK<|rg<|j5 3 h (fun h=>A3 h (e8f list d i lc) fun x2 h hc2=>rg<|j5 2 h (fun h=>u0 B5 5 h fun a5F e1r h=>j5 13 h (fun h=>rg<|tk 2 []<|t9 h fun e3 h=>F7 3 24 182 4 32 B5 out d e3<|E5 d<|rg<|(o9 h hc2 fun hI=>sk [] [0,3,5,6,7] [(1,0),(24,0)] hI)) (fun h=>(o9 h hc2 fun hI=>sk [] [0,3,5,6,7] [(1,0),(2,0)] hI))) (fun h=>(o9 h hc2 fun hI=>sk [] [0,3,5,6,7] [(1,0),(2,0)] hI))) (fun h=>(lc.bk h fun hI=>sk [] [3,5,6] [(1,0),(2,0)] hI))
def b6p(list:List q9)(d:q9):Option (List q9):=
 ((o8 (fun s:(List q9)×Bool×Int=>b2y list d s.1 s.2.1 s.2.2) (([]:List q9),false,0)).bind fun x=>x.go (fun r=>some r) fun s=>c4J d s.1 s.2)
theorem e3n{list d}:OK a1S [j9 4 B5 list,.agg (B5 d)] (b6p list d):=
 o7 _ fun r h=>n9<|tk 0 []<|n9<|lp (f1I list d) h (fun _ h=>a1S.rt h) (e1B d r) fun hI=>om ((.own 3 0 4 0 0:V)=.own 3 0 4 0 ([]:List q9).length) (by simp)<|sk [.is (.tmp 5) (.own 3 0 4 0 ([]:List q9).length)] [0,3,5,6,7] [(1,0),(3,0)] hI
def a3x:FS (u5×Int):=⟨118,Tryz.f118,[.val [none,some 2,some 4] [none,some 142,none],.val [] []],[none,none],[.val [none,some 2,some 4] [none,some 142,none],.val J3 []],fun r=>.tup [.agg (b3w r.1),vi r.2],fun _=>[none,none],Tryz.func118⟩
def f5Y(s_:u5)(e_:m4):Unit->KS:=fun _=>⟨a3x.k 6 [false,false,false],(bs 2 (.ptr 1 0 0::(.ptr 2 0 0::(.ptr 3 0 0::(bs 78 []))))),[some [m6 142 2 x7 s_.g7],some [.var 104 [vi (m7 (s_.At+1)),.own 0 0 2 0 s_.g7.length,j9 4 B5 s_.i8]],some [.var 53 (a1C e_)],some [.var 104 [vi 0,.nil,.nil]]]⟩
def e91(s_:u5)(e_:m4):Int->KS:=fun a9V=>⟨a3x.k 9 [false,false,false,true],(bs 2 (.ptr 1 0 0::(.ptr 2 0 0::(.ptr 3 0 0::(bs 3 (.ptr 4 0 0::(bs 74 []))))))),[some [m6 142 2 x7 s_.g7],some [.var 104 [vi (m7 (s_.At+1)),.own 0 0 2 0 s_.g7.length,j9 4 B5 s_.i8]],some [.var 53 (a1C e_)],some [.var 104 [vi 0,.nil,.nil]],some [.var 182 [vi e_.a5.b9,vi e_.a5.Seq,vi a9V,vi 0]]]⟩
def f7n(s_:u5):(q9×List m9)->KS:=fun (d,g7)=>⟨a3x.k 13 [false,false,false,true,true],(bs 2 (.ptr 1 0 0::(bs 1 (.ptr 3 0 0::(bs 3 (.ptr 4 0 0::(bs 74 []))))))),[some [.dead],some [.var 104 [vi (m7 (s_.At+1)),.own 2 0 2 0 g7.length,j9 4 B5 s_.i8]],some [m6 142 2 x7 g7],some [.var 104 [vi 0,.nil,.nil]],some [.var 182 [vi d.a5.b9,vi d.a5.Seq,vi d.Code,vi d.d9]]]⟩
def c63(s_:u5)(d:q9)(g7:List m9):Option (u5×Int):=
 ((b6p s_.i8 d).bind fun d4Y=>some ((u5.mk (m7 (s_.At+1)) g7 d4Y),d.Code))
theorem e8F(s_)(r):NF a3x r (f7n s_) (fun s=>c63 s_ s.1 s.2):=fun (d,g7) h=>PK<|rg<|l7 a1S e3n 3 h fun d4Y h=>rg<|s7 g7<|fE h
def c1E(s_:u5)(e_:m4)(a9V:Int):Option (u5×Int):=
 (((bif (a9V==2) then (bif (e_.b6.Code==0) then ((b2N s_.g7 e_.b6).bind fun a93=>some (l9.brk ((q9.mk e_.a5 0 e_.b6.d9),a93))) else some (l9.brk ((q9.mk e_.a5 a9V 0),s_.g7))) else some (l9.brk ((q9.mk e_.a5 a9V 0),s_.g7))):Option (l9 (u5×Int) (q9×List m9))).bind fun x=>x.go some fun j=>c63 s_ j.1 j.2)
theorem e2k(s_ e_)(r):NF a3x r (e91 s_ e_) (fun s=>c1E s_ e_ s):=fun a9V h=>PK<|A3 h (e8F s_ r) fun x1 h hc1=>rg<|j5 3 h (fun h=>j5 8 h (fun h=>L8<|l7 a5n c9d 4 h fun a93 h=>s7 s_.g7<|(o9 h hc1 fun hI=>sk [] [2,4,8] [(1,0),(25,0),(3,0),(4,0)] hI)) (fun h=>(o9 h hc1 fun hI=>sk [] [2,4,8] [(1,0),(0,0),(3,0),(4,0)] hI))) (fun h=>(o9 h hc1 fun hI=>sk [] [2,4,8] [(1,0),(0,0),(3,0),(4,0)] hI))
def b8z(s_:u5)(e_:m4):Option (u5×Int):=
 ((((b9u s_.g7 e_.b6).bind fun a63=>(bif a63 then some (l9.brk 2) else some (l9.brk 1))):Option (l9 (u5×Int) Int)).bind fun x=>x.go some fun j=>c1E s_ e_ j)
theorem e0r(s_ e_)(r):NF a3x r (f5Y s_ e_) (fun s=>b8z s_ e_):=fun _ h=>PK<|rg<|A3 h (e2k s_ e_ r) fun x1 h hc1=>rg<|cbE a37.t e5S h fun a63 d18 h=>cdT (a37.t 4 true a63) h (fun _ h=>ob d18<|osc a37 a63 rfl (Q9 2)<|s7 s_.g7<|rg<|(o9 h hc1 fun hI=>sk [] [2,3,4,8] [(1,0),(2,0),(3,0),(7,0)] hI)) (fun _ h=>ob d18<|osc a37 a63 rfl (Q9 2)<|s7 s_.g7<|(o9 h hc1 fun hI=>sk [] [2,3,4,8] [(1,0),(2,0),(3,0),(7,0)] hI))
def a9i(s_:u5)(e_:m4):Option (u5×Int):=
 (bif e_.i7 then some ((u5.mk (m7 (s_.At+1)) s_.g7 s_.i8),5) else ((b6l (u5.mk (m7 (s_.At+1)) s_.g7 s_.i8) e_.a5.b9).bind fun a5Y=>(((bif a5Y.2 then (bif (([a5Y.1.a5.b9,a5Y.1.a5.Seq]:List Int)==[e_.a5.b9,e_.a5.Seq]) then some (l9.ret ((u5.mk (m7 (s_.At+1)) s_.g7 s_.i8),3)) else (bif a5Y.2 then (bif decide (a5Y.1.a5.Seq>e_.a5.Seq) then some (l9.ret ((u5.mk (m7 (s_.At+1)) s_.g7 s_.i8),4)) else some (l9.brk ())) else some (l9.brk ()))) else (bif a5Y.2 then (bif decide (a5Y.1.a5.Seq>e_.a5.Seq) then some (l9.ret ((u5.mk (m7 (s_.At+1)) s_.g7 s_.i8),4)) else some (l9.brk ())) else some (l9.brk ()))):Option (l9 (u5×Int) Unit)).bind fun x=>x.go some fun j=>b8z s_ e_)))
theorem b80{s_ e_}:OK a3x [.agg (b3w s_),.agg (s5 e_)] (a9i s_ e_):=
 o7 _ fun r h=>L8<|j5 1 h (fun h=>rg<|s7 s_.g7<|fE h) (fun h=>rg<|cbS a6Z f5c 4 (fun _=>(by simp [a6Z,L0,R0,O4,V.simple,vi,v6,eB,B5,eI,F6])) (fun _=>(Q9 2)) h fun a5Y h=>s7 s_.g7<|A3 h (e0r s_ e_ r) fun x1 h hc1=>rg<|j5 1 h (fun h=>j5 8 h (fun h=>rg<|(B2 h hc1 fun h=>s7 s_.g7<|fE h)) (fun h=>rg<|j5 1 h (fun h=>j5 10 h (fun h=>rg<|(B2 h hc1 fun h=>s7 s_.g7<|fE h)) (fun h=>(o9 h hc1 fun hI=>sk [] [2,3,4] [(1,0),(2,0),(3,0)] hI))) (fun h=>(o9 h hc1 fun hI=>sk [] [2,3,4] [(1,0),(2,0),(3,0)] hI)))) (fun h=>rg<|j5 1 h (fun h=>j5 10 h (fun h=>rg<|(B2 h hc1 fun h=>s7 s_.g7<|fE h)) (fun h=>(o9 h hc1 fun hI=>sk [] [2,3,4] [(1,0),(2,0),(3,0)] hI))) (fun h=>(o9 h hc1 fun hI=>sk [] [2,3,4] [(1,0),(2,0),(3,0)] hI))))
def d0P:FS (j6):=⟨233,Tryz.f233,[.val A8 H2],[none],[.val A8 H2],fun r=>.agg (H4 r),fun _=>[none],Tryz.func233⟩
def d2A(n:j6):Option j6:=
 some (j6.mk n.Id n.Acc n.a6 n.Seq n.d6 n.a8 n.c9 n.i4 n.c8 n.a7 false [] (m4.mk false (n5.mk 0 0) (n7.mk [] [] 0 0)) n.f0)
theorem f4b{n}:OK d0P [.agg (H4 n)] (d2A n):=
 o7 _ fun r h=>rg4<|rg<|A4 n<|fE h
def a44:FS (j6×List n6):=⟨232,Tryz.f232,[.val A8 H2,.val [some 5] []],[none],[.val A8 H2],fun r=>.tup [.agg (H4 r.1),j9 5 z5 r.2],fun _=>[none],Tryz.func232⟩
def c3u(n:j6):Unit->KS:=fun _=>⟨a44.k 5 [false,false],(bs 1 (.ptr 1 0 0::(.ptr 2 0 0::(bs 81 [])))),[some (a9a n),some [.var 55 (a8q n)],some [.var 55 [vi 0,vi 0,.nil,.nil,vi 0,vi 0,vi 0,.nil,.nil,.b false,vi 0,vi 0,.nil,.nil,vi 0,vi 0,.nil,.b false,.nil,.b false,vi 0,vi 0,.nil,.nil,vi 0,vi 0,.nil]]]⟩
def d20(n:j6):Option (j6×List n6):=
 some (n,([]:List n6))
theorem e1m(n)(r):NF a44 r (c3u n) (fun s=>d20 n):=fun _ h=>PK<|rg<|tk 1 []<|A4 n<|A9 n6<|fE h
def c92(n:j6):((List m9)×Int×Int×List q9)->KS:=fun (g7,i,sAt,sDones)=>⟨a44.k 4 [false],(bs 1 (.ptr 1 0 0::(.ptr 2 0 0::(bs 1 (.ptr 3 0 0::(vi i::(bs 78 []))))))),[some (a9a n),some [.var 55 (a8q n)],some [.var 55 [vi 0,vi 0,.nil,.nil,vi 0,vi 0,vi 0,.nil,.nil,.b false,vi 0,vi 0,.nil,.nil,vi 0,vi 0,.nil,.b false,.nil,.b false,vi 0,vi 0,.nil,.nil,vi 0,vi 0,.nil]],some [.var 104 [vi sAt,.own 4 0 2 0 g7.length,j9 4 B5 sDones]],some [m6 142 2 x7 g7]]⟩
def d9x(n:j6):(List n6)->KS:=fun out=>⟨a44.k 11 [false,true,false,true],(bs 1 (.ptr 1 0 0::(.ptr 2 0 0::(bs 5 (.own 3 0 5 0 out.length::(bs 75 [])))))),[some (a9a n),some [.var 55 (a8q n)],some [.var 55 [vi 0,vi 0,.nil,.nil,vi 0,vi 0,vi 0,.nil,.nil,.b false,vi 0,vi 0,.nil,.nil,vi 0,vi 0,.nil,.b false,.nil,.b false,vi 0,vi 0,.nil,.nil,vi 0,vi 0,.nil]],some [m6 76 5 z5 out]]⟩
def c3B(n:j6)(out:List n6):Option (j7 (j6×List n6) ((List m9)×Int×Int×List q9) Unit):=
 ((d2A n).bind fun c6E=>some (j7.ret (c6E,out)))
theorem f4O(n)(lc:D2 a44 (c3u n) (c92 n)):NL lc (d9x n) (fun s=>c3B n s):=fun out h=>PK<|rg<|l7 d0P f4b 1 h fun c6E h=>A4 n<|A4 c6E<|s7 out<|fL lc h
def b1b(n:j6)(g7:List m9)(i:Int)(sAt:Int)(sDones:List q9):Option (j7 (j6×List n6) ((List m9)×Int×Int×List q9) Unit):=
 (bif decide (i<(n.a6.length:Int)) then ((idx n.a6 i).bind fun entry=>((a9i (u5.mk sAt g7 sDones) entry).bind fun l5Apply=>(bif entry.i7 then some (j7.nxt (l5Apply.1.g7,m7 (i+1),l5Apply.1.At,l5Apply.1.i8)) else (bif (!(([entry.a5.b9,entry.a5.Seq]:List Int)==[n.b8.a5.b9,n.b8.a5.Seq])) then some (j7.nxt (l5Apply.1.g7,m7 (i+1),l5Apply.1.At,l5Apply.1.i8)) else (((bif (l5Apply.2==0) then ((idx [(n6.mk n.Id n.b8.a5 l5Apply.2 0)] 0).bind fun told=>some (l9.brk ([(n6.mk n.Id n.b8.a5 l5Apply.2 0)].set (0:Int).toNat (n6.mk told.Node told.a5 told.Code entry.b6.d9)))) else some (l9.brk [(n6.mk n.Id n.b8.a5 l5Apply.2 0)])):Option (l9 (j7 (j6×List n6) ((List m9)×Int×Int×List q9) Unit) (List n6))).bind fun x=>x.go some fun j=>c3B n j))))) else some (j7.brk ()))
theorem e7J(n):LQ a44 (c3u n) (c92 n) (fun s=>b1b n s.1 s.2.1 s.2.2.1 s.2.2.2):=fun lc (g7,i,sAt,sDones) h=>PK<|rg<|j5 4 h (fun h=>rg<|B0 h fun entry F3 h=>C0 F3<|I4 s5 5 F3<|l7 a3x b80 6 h fun l5Apply h=>s7 g7<|n9<|C0 F3<|I4 s5 5 F3<|j5 6 h (fun h=>rg<|(lc.nx h fun hI=>sk [] [1,2,4,5] [(1,0),(2,0),(3,0),(16,0)] hI)) (fun h=>C0 F3<|I4 s5 12 F3<|j5 17 h (fun h=>rg<|(lc.nx h fun hI=>sk [] [1,2,4,5] [(1,0),(2,0),(3,0),(16,0)] hI)) (fun h=>rg<|tk 7 []<|A3 h (f4O n lc) fun x2 h hc2=>rg<|j5 1 h (fun h=>rg<|C0 F3<|I4 s5 7 F3<|B0 h fun told a4y h=>ob (O8 a4y)<|om (0<((1:Nat):Int)) (by simpa using b3W a4y)<|Q6 76 5 z5 10 [] (n6.mk told.Node told.a5 told.Code entry.b6.d9) a4y<|(o9 h hc2 fun hI=>om ((.own 50 0 5 0 1:V)=.own 50 0 5 0 ([(n6.mk n.Id n.b8.a5 l5Apply.2 0)].set (0:Int).toNat (n6.mk told.Node told.a5 told.Code entry.b6.d9)).length) (by simp)<|sk [.is (.tmp 8) (.own 50 0 5 0 ([(n6.mk n.Id n.b8.a5 l5Apply.2 0)].set (0:Int).toNat (n6.mk told.Node told.a5 told.Code entry.b6.d9)).length)] [1,2,8] [(1,0),(2,0),(50,0)] hI)) (fun h=>(o9 h hc2 fun hI=>om ((.own 50 0 5 0 1:V)=.own 50 0 5 0 ([(n6.mk n.Id n.b8.a5 l5Apply.2 0)].length)) (by simp)<|sk [.is (.tmp 8) (.own 50 0 5 0 ([(n6.mk n.Id n.b8.a5 l5Apply.2 0)].length))] [1,2,8] [(1,0),(2,0),(50,0)] hI))))) (fun h=>(lc.bk h fun hI=>sk [] [1,2] [(1,0),(2,0)] hI))
def b5U(n:j6):Option (j6×List n6):=
 (bif (!n.i9) then some (n,([]:List n6)) else ((a9w n n.b8.a5).bind fun a6j=>(bif (!a6j) then some (n,([]:List n6)) else ((a7A).bind fun Q4=>((o8 (fun s:(List m9)×Int×Int×List q9=>b1b n s.1 s.2.1 s.2.2.1 s.2.2.2) (Q4.g7,0,Q4.At,Q4.i8)).bind fun x=>x.go (fun r=>some r) fun s=>d20 n)))))
theorem e5H{n}:OK a44 [.agg (H4 n)] (b5U n):=
 o7 _ fun r h=>n9<|j5 3 h (fun h=>rg<|tk 1 []<|A4 n<|A9 n6<|fE h) (fun h=>R4 a2G b50 8 2 h fun a6j h=>A4 n<|j5 10 h (fun h=>rg<|tk 1 []<|A4 n<|A9 n6<|fE h) (fun h=>rg<|l7 b33 b7I 0 h fun Q4 h=>rg<|lp (e7J n) h (fun _ h=>a44.rt h) (e1m n r) fun hI=>sk [] [1,2,4,5] [(1,0),(2,0),(16,0),(15,0)] hI))
def b5g:FS (j6×(List l8)×List n6):=⟨228,Tryz.f228,[.val A8 H2,.val [some 13] [],.val [some 5] []],[none,none],[.val A8 H2,.val J3 []],fun r=>.tup [.agg (H4 r.1),j9 13 t6 r.2.1,j9 5 z5 r.2.2],fun _=>[none,none],Tryz.func228⟩
def f6z(n:j6)(l5Entry:m4):((List Bool)×Int×Int×(List r9)×(List p8)×Int×Int×Int×Bool)->KS:=fun (a7,nCur,nCur1,nCur2,nCur3,nCur4,nCur5,nPhase,nCur6)=>⟨b5g.k 6 [true],(bs 2 (.ptr 1 0 0::(bs 1 (.ptr 3 0 0::(bs 33 []))))),[some [m6 89 8 q8 n.Acc.a7,.dead,m6 4 1 eB n.c9,.dead,m6 53 7 s5 n.f0],some [.var 55 ([vi n.Id,vi n.Acc.i0,.own 0 0 8 0 n.Acc.a7.length,.own 2 0 7 0 (n.a6++[l5Entry]).length,vi n.Seq,vi nPhase,vi n.a8,.own 0 2 1 0 n.c9.length,j9 8 q8 n.i4,.b nCur6,vi nCur,vi nCur1,j9 2 w8 nCur2,j9 2 w9 nCur3,vi nCur4,vi nCur5,.own 4 0 1 0 a7.length]++a38 n++[.own 0 4 7 0 n.f0.length])],some [m6 53 7 s5 (n.a6++[l5Entry])],some [.var 55 [vi 0,vi 0,.nil,.nil,vi 0,vi 0,vi 0,.nil,.nil,.b false,vi 0,vi 0,.nil,.nil,vi 0,vi 0,.nil,.b false,.nil,.b false,vi 0,vi 0,.nil,.nil,vi 0,vi 0,.nil]],some [m6 4 1 eB a7]]⟩
def b8p(n:j6)(l5Entry:m4)(a7:List Bool)(nCur:Int)(nCur1:Int)(nCur2:List r9)(nCur3:List p8)(nCur4:Int)(nCur5:Int)(nPhase:Int)(nCur6:Bool):Option (j6×(List l8)×List n6):=
 ((b5U (j6.mk n.Id n.Acc (n.a6++[l5Entry]) n.Seq nPhase n.a8 n.c9 n.i4 (m4.mk nCur6 (n5.mk nCur nCur1) (n7.mk nCur2 nCur3 nCur4 nCur5)) a7 n.i9 n.i6 n.b8 n.f0)).bind fun b6F=>((a6z b6F.1).bind fun O1=>some (O1.1,O1.2,b6F.2)))
theorem e4U(n l5Entry)(r):NF b5g r (f6z n l5Entry) (fun s=>b8p n l5Entry s.1 s.2.1 s.2.2.1 s.2.2.2.1 s.2.2.2.2.1 s.2.2.2.2.2.1 s.2.2.2.2.2.2.1 s.2.2.2.2.2.2.2.1 s.2.2.2.2.2.2.2.2):=fun (a7,nCur,nCur1,nCur2,nCur3,nCur4,nCur5,nPhase,nCur6) h=>PK<|rg<|l7 a44 e5H 1 h fun b6F h=>H9 n.Acc.a7 (n.a6++[l5Entry]) n.c9 a7<|s7 n.f0<|rg<|l7 b0X b2m 1 h fun O1 h=>A4 b6F.1<|rg<|A4 O1.1<|fE h
def b4R(n:j6)(e_:m4):Option (j6×(List l8)×List n6):=
 ((X7 e_).bind fun l5Entry=>(t5 ((n.a6.length+1)*88<=140737488355328) ((((bif (n.d6==3) then some (l9.brk ([],0,0,[],[],0,0,2,false)) else some (l9.brk (n.a7,n.c8.a5.b9,n.c8.a5.Seq,n.c8.b6.b5,n.c8.b6.b7,n.c8.b6.d9,n.c8.b6.Code,n.d6,n.c8.i7))):Option (l9 (j6×(List l8)×List n6) ((List Bool)×Int×Int×(List r9)×(List p8)×Int×Int×Int×Bool))).bind fun x=>x.go some fun j=>b8p n l5Entry j.1 j.2.1 j.2.2.1 j.2.2.2.1 j.2.2.2.2.1 j.2.2.2.2.2.1 j.2.2.2.2.2.2.1 j.2.2.2.2.2.2.2.1 j.2.2.2.2.2.2.2.2))))
theorem d0k{n e_}:OK b5g [.agg (H4 n),.agg (s5 e_)] (b4R n e_):=
 o7 _ fun r h=>n9<|l7 a0z a01 3 h fun l5Entry h=>tk 4 J3<|t9 h fun e1 h=>F7 5 11 53 7 88 s5 n.a6 l5Entry e1<|E5 l5Entry<|A3 h (e4U n l5Entry r) fun x1 h hc1=>rg<|j5 2 h (fun h=>L8<|(o9 h hc1 fun hI=>sk [.frz (.cell 1 0 12) (some 2),.frz (.cell 1 0 13) (some 2),.own (.cell 1 0 16) 4 1,.kill 0 3] [2,4] [(1,0),(11,0),(3,0),(24,0)] hI)) (fun h=>(o9 h hc1 fun hI=>sk [] [2,4] [(1,0),(11,0),(3,0),(0,3)] hI))
def d2I:FS (j6×(List l8)×List n6):=⟨214,Tryz.f214,[.val A8 H2,.val [some 13] [],.val [some 5] []],[none,none],[.val A8 H2,.val C2 []],fun r=>.tup [.agg (H4 r.1),j9 13 t6 r.2.1,j9 5 z5 r.2.2],fun _=>[none,none],Tryz.func214⟩
def b5u(n:j6)(m:l8):Option (j6×(List l8)×List n6):=
 (bif (n.d6 != 3) then some (n,([]:List l8),([]:List n6)) else (bif (m.a8 != n.a8) then some (n,([]:List l8),([]:List n6)) else (bif (m.g8 != (n.a6.length:Int)) then some (n,([]:List l8),([]:List n6)) else ((idx n.a7 m.c9).bind fun y=>((b4F (n.a7.set m.c9.toNat true)).bind fun b3P=>(bif (!b3P) then some ((j6.mk n.Id n.Acc n.a6 n.Seq n.d6 n.a8 n.c9 n.i4 n.c8 (n.a7.set m.c9.toNat true) n.i9 n.i6 n.b8 n.f0),([]:List l8),([]:List n6)) else ((X7 n.c8).bind fun l5Entry=>((a3z n.Id (l8.mk 5 0 0 0 (n.a6.length:Int) l5Entry [])).bind fun J9=>((b4R (j6.mk n.Id n.Acc n.a6 n.Seq n.d6 n.a8 n.c9 n.i4 n.c8 (n.a7.set m.c9.toNat true) n.i9 n.i6 n.b8 n.f0) l5Entry).bind fun a1x=>(t5 ((J9.length+a1x.2.1.length)*152<=140737488355328) (some (a1x.1,J9++a1x.2.1,a1x.2.2))))))))))))
theorem e8e{n m}:OK d2I [.agg (H4 n),.agg (t6 m)] (b5u n m):=
 o7 _ fun r h=>n9<|j5 3 h (fun h=>rg<|tk 1 C2<|tk 2 []<|A4 n<|A9 l8<|A9 n6<|fE h) (fun h=>j5 10 h (fun h=>rg<|tk 1 C2<|tk 2 []<|A4 n<|A9 l8<|A9 n6<|fE h) (fun h=>j5 17 h (fun h=>rg<|tk 1 C2<|tk 2 []<|A4 n<|A9 l8<|A9 n6<|fE h) (fun h=>rg<|B0 h fun y hy h=>C0 hy<|Q6 4 1 eB 5 [] true hy<|rg<|R4 a6d d1T 2 1 h fun b3P h=>om (n.a7.length=(n.a7.set m.c9.toNat true).length) (by simp)<|j5 3 h (fun h=>rg<|tk 1 C2<|tk 2 []<|Y3 n.Acc.a7 n.a6 n.c9<|om (n.a7.length=(n.a7.set m.c9.toNat true).length) (by simp)<|s7 n.f0<|A9 l8<|A9 n6<|fE h) (fun h=>rg<|l7 a0z a01 2 h fun l5Entry h=>rg<|l7 a0u a59 7 h fun J9 h=>rg<|l7 b5g d0k 2 h fun a1x h=>Y3 n.Acc.a7 n.a6 n.c9<|om (n.a7.length=(n.a7.set m.c9.toNat true).length) (by simp)<|s7 n.f0<|rg<|t9 h fun e1 h=>apL 3 62 83 13 152 t6 J9 a1x.2.1 e1<|A4 a1x.1<|s7 (J9++a1x.2.1)<|fE h))))
def d1d:FS (j6×(List l8)×List n6):=⟨215,Tryz.f215,[.val A8 H2,.val [some 13] [],.val [some 5] []],[none,none],[.val A8 H2,.val C2 []],fun r=>.tup [.agg (H4 r.1),j9 13 t6 r.2.1,j9 5 z5 r.2.2],fun _=>[none,none],Tryz.func215⟩
def b6P(n:j6)(m:l8):Option (j6×(List l8)×List n6):=
 (bif decide (m.g8<(n.a6.length:Int)) then some (n,([]:List l8),([]:List n6)) else (bif decide (m.g8>(n.a6.length:Int)) then ((a5w m (l8.mk 8 0 0 0 (n.a6.length:Int) (m4.mk false (n5.mk 0 0) (n7.mk [] [] 0 0)) [])).bind fun a17=>some (n,a17,([]:List n6))) else ((b4R n m.g9).bind fun a1x=>some (a1x.1,a1x.2.1,a1x.2.2))))
theorem e8j{n m}:OK d1d [.agg (H4 n),.agg (t6 m)] (b6P n m):=
 o7 _ fun r h=>n9<|j5 6 h (fun h=>rg<|tk 1 C2<|tk 2 []<|A4 n<|A9 l8<|A9 n6<|fE h) (fun h=>rg<|j5 6 h (fun h=>rg<|l7 a3W a8Y 6 h fun a17 h=>tk 7 []<|A4 n<|A9 n6<|fE h) (fun h=>rg<|l7 b5g d0k 3 h fun a1x h=>A4 n<|A4 a1x.1<|fE h))
def c9Z:FS (j6×List l8):=⟨217,Tryz.f217,[.val A8 H2,.val [some 13] []],[none,none],[.val A8 H2,.val C2 []],fun r=>.tup [.agg (H4 r.1),j9 13 t6 r.2],fun _=>[none,none],Tryz.func217⟩
def b5D(n:j6)(m:l8):Option (j6×List l8):=
 (bif (n.d6==0) then some (n,([]:List l8)) else (bif decide ((n.f0.length:Int)>=4) then some (n,([]:List l8)) else ((a9w n m.g9.a5).bind fun a6j=>(bif a6j then some (n,([]:List l8)) else ((X7 m.g9).bind fun l5Entry=>(t5 ((n.f0.length+1)*88<=140737488355328) (((a6z (j6.mk n.Id n.Acc n.a6 n.Seq n.d6 n.a8 n.c9 n.i4 n.c8 n.a7 n.i9 n.i6 n.b8 (n.f0++[l5Entry]))).bind fun O1=>some (O1.1,O1.2)))))))))
theorem d9t{n m}:OK c9Z [.agg (H4 n),.agg (t6 m)] (b5D n m):=
 o7 _ fun r h=>n9<|j5 3 h (fun h=>rg<|tk 1 C2<|A4 n<|A9 l8<|fE h) (fun h=>j5 9 h (fun h=>rg<|tk 1 C2<|A4 n<|A9 l8<|fE h) (fun h=>R4 a2G b50 14 2 h fun a6j h=>A4 n<|j5 15 h (fun h=>rg<|tk 1 C2<|A4 n<|A9 l8<|fE h) (fun h=>rg<|l7 a0z a01 4 h fun l5Entry h=>tk 5 J3<|t9 h fun e1 h=>F7 6 27 53 7 88 s5 n.f0 l5Entry e1<|E5 l5Entry<|rg<|l7 b0X b2m 1 h fun O1 h=>s7 n.Acc.a7<|H9 n.a6 n.c9 n.a7 (n.f0++[l5Entry])<|A4 O1.1<|fE h)))
def a9v:FS ((List l8)×j6):=⟨218,Tryz.f218,[.val [some 13] []],[some (0,.val A8 H2),none],[.val A8 H2,.val C2 []],fun r=>j9 13 t6 r.1,fun r=>[some (.agg (e0l r.2)),none],Tryz.func218⟩
def d2C(n:j6):(List l8)->KS:=fun out1=>⟨a9v.k 4 [false],(bs 5 (.own 1 0 13 0 out1.length::(bs 24 []))),[some [m6 89 8 q8 n.Acc.a7,m6 53 7 s5 n.a6,m6 4 1 eB n.c9,m6 4 1 eB n.a7,m6 53 7 s5 n.f0],some [m6 83 13 t6 out1]]⟩
def c9h(n:j6)(out1:List l8):Option ((List l8)×j6):=
 some (out1,n)
theorem e6A(n)(r):NF a9v r (d2C n) (fun s=>c9h n s):=fun out1 h=>PK<|rg<|s7 out1<|A4 n<|fE h
def f5C(n:j6)(m:l8):((List l8)×Int)->KS:=fun (out,s_)=>⟨a9v.k 3 [],(bs 2 (.ptr 1 0 0::(.ptr 2 0 0::(bs 1 (.own 3 0 13 0 out.length::(vi s_::(bs 23 []))))))),[some (a9a n),some [.var 55 (a8q n)],some [.var 83 (a5x m)],some [m6 83 13 t6 out]]⟩
def a5X(n:j6)(m:l8)(out:List l8)(s_:Int):Option (j7 ((List l8)×j6) ((List l8)×Int) (List l8)):=
 (bif decide (s_<(n.a6.length:Int)) then ((idx n.a6 s_).bind fun entry=>((X7 entry).bind fun l5Entry=>((a5w m (l8.mk 5 0 0 0 s_ l5Entry [])).bind fun a17=>(t5 ((out.length+a17.length)*152<=140737488355328) (some (j7.nxt (out++a17,m7 (s_+1)))))))) else some (j7.brk out))
theorem e4m(n m):LQ a9v (d2C n) (f5C n m) (fun s=>a5X n m s.1 s.2):=fun lc (out,s_) h=>PK<|rg<|j5 4 h (fun h=>rg<|B0 h fun entry F3 h=>C0 F3<|I4 s5 7 F3<|l7 a0z a01 8 h fun l5Entry h=>l7 a3W a8Y 10 h fun a17 h=>t9 h fun e1 h=>apL 11 20 83 13 152 t6 out a17 e1<|rg<|(lc.nx h fun hI=>sk [] [2,3,5,6] [(1,0),(2,0),(20,0)] hI)) (fun h=>(lc.bk h fun hI=>sk [] [5] [(3,0)] hI))
def b6Q(n:j6)(m:l8):Option ((List l8)×j6):=
 ((o8 (fun s:(List l8)×Int=>a5X n m s.1 s.2) (([]:List l8),m.g8)).bind fun x=>x.go (fun r=>some r) fun s=>c9h n s)
theorem e0v{n m}:OK a9v [.agg (H4 n),.agg (t6 m)] (b6Q n m):=
 o7 _ fun r h=>n9<|tk 0 C2<|rg<|lp (e4m n m) h (fun _ h=>a9v.rt h) (e6A n r) fun hI=>om ((.own 4 0 13 0 0:V)=.own 4 0 13 0 ([]:List l8).length) (by simp)<|sk [.is (.tmp 5) (.own 4 0 13 0 ([]:List l8).length)] [2,3,5,6] [(1,0),(2,0),(4,0)] hI
def b6Z:FS (j6×(List l8)×List n6):=⟨183,Tryz.f183,[.val A8 H2,.val [some 13] [],.val [some 5] []],[none,none],[.val A8 H2,.val C2 []],fun r=>.tup [.agg (H4 r.1),j9 13 t6 r.2.1,j9 5 z5 r.2.2],fun _=>[none,none],Tryz.func183⟩
def e8L:((List m8)×(List m4)×(List Bool)×(List Bool)×(List m4)×(List l8)×Int×Int×Int×Int×(List r9)×(List p8)×Int×Int×Bool×(List n8)×Bool×Int×Int×(List r9)×(List p8)×Int×Int×Int×Int×Int×(List m8)×Bool)->KS:=fun (Acc,a6,c9,a7,f0,out,nId,nAcc,nCur,nCur1,nCur2,nCur3,nCur4,nCur5,nBusy,nProg,nWant,nWant1,nWant2,nWant3,nWant4,nWant5,nWant6,nSeq,nPhase,nBal,nBest,nCur6)=>⟨b6Z.k 5 [true],(bs 2 (.ptr 1 0 0::(bs 1 (.ptr 7 0 0::(bs 2 (j9 13 t6 out::(bs 77 []))))))),[some [.dead,.dead,.dead,.dead,.dead],some [.var 55 [vi nId,vi nAcc,.own 2 0 8 0 Acc.length,.own 3 0 7 0 a6.length,vi nSeq,vi nPhase,vi nBal,.own 4 0 1 0 c9.length,j9 8 q8 nBest,.b nCur6,vi nCur,vi nCur1,j9 2 w8 nCur2,j9 2 w9 nCur3,vi nCur4,vi nCur5,.own 5 0 1 0 a7.length,.b nBusy,j9 4 A6 nProg,.b nWant,vi nWant1,vi nWant2,j9 2 w8 nWant3,j9 2 w9 nWant4,vi nWant5,vi nWant6,.own 6 0 7 0 f0.length]],some [m6 89 8 q8 Acc],some [m6 53 7 s5 a6],some [m6 4 1 eB c9],some [m6 4 1 eB a7],some [m6 53 7 s5 f0],some [.var 55 [vi 0,vi 0,.nil,.nil,vi 0,vi 0,vi 0,.nil,.nil,.b false,vi 0,vi 0,.nil,.nil,vi 0,vi 0,.nil,.b false,.nil,.b false,vi 0,vi 0,.nil,.nil,vi 0,vi 0,.nil]]]⟩
def d69(Acc:List m8)(a6:List m4)(c9:List Bool)(a7:List Bool)(f0:List m4)(out:List l8)(nId:Int)(nAcc:Int)(nCur:Int)(nCur1:Int)(nCur2:List r9)(nCur3:List p8)(nCur4:Int)(nCur5:Int)(nBusy:Bool)(nProg:List n8)(nWant:Bool)(nWant1:Int)(nWant2:Int)(nWant3:List r9)(nWant4:List p8)(nWant5:Int)(nWant6:Int)(nSeq:Int)(nPhase:Int)(nBal:Int)(nBest:List m8)(nCur6:Bool):Option (j6×(List l8)×List n6):=
 some ((j6.mk nId (z0.mk nAcc Acc) a6 nSeq nPhase nBal c9 nBest (m4.mk nCur6 (n5.mk nCur nCur1) (n7.mk nCur2 nCur3 nCur4 nCur5)) a7 nBusy nProg (m4.mk nWant (n5.mk nWant1 nWant2) (n7.mk nWant3 nWant4 nWant5 nWant6)) f0),out,([]:List n6))
theorem f3I(r):NF b6Z r e8L (fun s=>d69 s.1 s.2.1 s.2.2.1 s.2.2.2.1 s.2.2.2.2.1 s.2.2.2.2.2.1 s.2.2.2.2.2.2.1 s.2.2.2.2.2.2.2.1 s.2.2.2.2.2.2.2.2.1 s.2.2.2.2.2.2.2.2.2.1 s.2.2.2.2.2.2.2.2.2.2.1 s.2.2.2.2.2.2.2.2.2.2.2.1 s.2.2.2.2.2.2.2.2.2.2.2.2.1 s.2.2.2.2.2.2.2.2.2.2.2.2.2.1 s.2.2.2.2.2.2.2.2.2.2.2.2.2.2.1 s.2.2.2.2.2.2.2.2.2.2.2.2.2.2.2.1 s.2.2.2.2.2.2.2.2.2.2.2.2.2.2.2.2.1 s.2.2.2.2.2.2.2.2.2.2.2.2.2.2.2.2.2.1 s.2.2.2.2.2.2.2.2.2.2.2.2.2.2.2.2.2.2.1 s.2.2.2.2.2.2.2.2.2.2.2.2.2.2.2.2.2.2.2.1 s.2.2.2.2.2.2.2.2.2.2.2.2.2.2.2.2.2.2.2.2.1 s.2.2.2.2.2.2.2.2.2.2.2.2.2.2.2.2.2.2.2.2.2.1 s.2.2.2.2.2.2.2.2.2.2.2.2.2.2.2.2.2.2.2.2.2.2.1 s.2.2.2.2.2.2.2.2.2.2.2.2.2.2.2.2.2.2.2.2.2.2.2.1 s.2.2.2.2.2.2.2.2.2.2.2.2.2.2.2.2.2.2.2.2.2.2.2.2.1 s.2.2.2.2.2.2.2.2.2.2.2.2.2.2.2.2.2.2.2.2.2.2.2.2.2.1 s.2.2.2.2.2.2.2.2.2.2.2.2.2.2.2.2.2.2.2.2.2.2.2.2.2.2.1 s.2.2.2.2.2.2.2.2.2.2.2.2.2.2.2.2.2.2.2.2.2.2.2.2.2.2.2):=fun (Acc,a6,c9,a7,f0,out,nId,nAcc,nCur,nCur1,nCur2,nCur3,nCur4,nCur5,nBusy,nProg,nWant,nWant1,nWant2,nWant3,nWant4,nWant5,nWant6,nSeq,nPhase,nBal,nBest,nCur6) h=>PK<|rg<|tk 2 []<|H9 Acc a6 c9 a7<|s7 f0<|A9 n6<|fE h
def b9N(n:j6)(m:l8):Option (j6×(List l8)×List n6):=
 (((bif (m.a9==1) then ((b6X n m).bind fun L9=>some (l9.brk (L9.1.Acc.a7,L9.1.a6,L9.1.c9,L9.1.a7,L9.1.f0,L9.2,L9.1.Id,L9.1.Acc.i0,L9.1.c8.a5.b9,L9.1.c8.a5.Seq,L9.1.c8.b6.b5,L9.1.c8.b6.b7,L9.1.c8.b6.d9,L9.1.c8.b6.Code,L9.1.i9,L9.1.i6,L9.1.b8.i7,L9.1.b8.a5.b9,L9.1.b8.a5.Seq,L9.1.b8.b6.b5,L9.1.b8.b6.b7,L9.1.b8.b6.d9,L9.1.b8.b6.Code,L9.1.Seq,L9.1.d6,L9.1.a8,L9.1.i4,L9.1.c8.i7))) else (bif (m.a9==2) then ((b8h n m).bind fun M6=>some (l9.brk (M6.1.Acc.a7,M6.1.a6,M6.1.c9,M6.1.a7,M6.1.f0,M6.2,M6.1.Id,M6.1.Acc.i0,M6.1.c8.a5.b9,M6.1.c8.a5.Seq,M6.1.c8.b6.b5,M6.1.c8.b6.b7,M6.1.c8.b6.d9,M6.1.c8.b6.Code,M6.1.i9,M6.1.i6,M6.1.b8.i7,M6.1.b8.a5.b9,M6.1.b8.a5.Seq,M6.1.b8.b6.b5,M6.1.b8.b6.b7,M6.1.b8.b6.d9,M6.1.b8.b6.Code,M6.1.Seq,M6.1.d6,M6.1.a8,M6.1.i4,M6.1.c8.i7))) else (bif (m.a9==3) then ((b9q n m).bind fun M3=>some (l9.brk (M3.1.Acc.a7,M3.1.a6,M3.1.c9,M3.1.a7,M3.1.f0,M3.2,M3.1.Id,M3.1.Acc.i0,M3.1.c8.a5.b9,M3.1.c8.a5.Seq,M3.1.c8.b6.b5,M3.1.c8.b6.b7,M3.1.c8.b6.d9,M3.1.c8.b6.Code,M3.1.i9,M3.1.i6,M3.1.b8.i7,M3.1.b8.a5.b9,M3.1.b8.a5.Seq,M3.1.b8.b6.b5,M3.1.b8.b6.b7,M3.1.b8.b6.d9,M3.1.b8.b6.Code,M3.1.Seq,M3.1.d6,M3.1.a8,M3.1.i4,M3.1.c8.i7))) else (bif (m.a9==4) then ((b5u n m).bind fun b1R=>some (l9.ret (b1R.1,b1R.2.1,b1R.2.2))) else (bif (m.a9==5) then ((b6P n m).bind fun b4h=>some (l9.ret (b4h.1,b4h.2.1,b4h.2.2))) else (bif (m.a9==6) then ((a7N n.Acc m.a8).bind fun l6Promise=>((b4y (j6.mk n.Id l6Promise.1 n.a6 n.Seq n.d6 n.a8 n.c9 n.i4 n.c8 n.a7 n.i9 n.i6 n.b8 n.f0) m.a8).bind fun K2=>some (l9.brk (K2.Acc.a7,K2.a6,K2.c9,K2.a7,K2.f0,([]:List l8),K2.Id,K2.Acc.i0,K2.c8.a5.b9,K2.c8.a5.Seq,K2.c8.b6.b5,K2.c8.b6.b7,K2.c8.b6.d9,K2.c8.b6.Code,K2.i9,K2.i6,K2.b8.i7,K2.b8.a5.b9,K2.b8.a5.Seq,K2.b8.b6.b5,K2.b8.b6.b7,K2.b8.b6.d9,K2.b8.b6.Code,K2.Seq,K2.d6,K2.a8,K2.i4,K2.c8.i7)))) else (bif (m.a9==7) then ((b5D n m).bind fun M7=>some (l9.brk (M7.1.Acc.a7,M7.1.a6,M7.1.c9,M7.1.a7,M7.1.f0,M7.2,M7.1.Id,M7.1.Acc.i0,M7.1.c8.a5.b9,M7.1.c8.a5.Seq,M7.1.c8.b6.b5,M7.1.c8.b6.b7,M7.1.c8.b6.d9,M7.1.c8.b6.Code,M7.1.i9,M7.1.i6,M7.1.b8.i7,M7.1.b8.a5.b9,M7.1.b8.a5.Seq,M7.1.b8.b6.b5,M7.1.b8.b6.b7,M7.1.b8.b6.d9,M7.1.b8.b6.Code,M7.1.Seq,M7.1.d6,M7.1.a8,M7.1.i4,M7.1.c8.i7))) else (bif (m.a9==8) then ((b6Q n m).bind fun T0=>(t5 (n.Acc.a7.length=T0.2.Acc.a7.length) ((t5 (n.a6.length=T0.2.a6.length) ((t5 (n.c9.length=T0.2.c9.length) ((t5 (n.a7.length=T0.2.a7.length) ((t5 (n.f0.length=T0.2.f0.length) (some (l9.brk (T0.2.Acc.a7,T0.2.a6,T0.2.c9,T0.2.a7,T0.2.f0,T0.1,n.Id,n.Acc.i0,n.c8.a5.b9,n.c8.a5.Seq,n.c8.b6.b5,n.c8.b6.b7,n.c8.b6.d9,n.c8.b6.Code,n.i9,n.i6,n.b8.i7,n.b8.a5.b9,n.b8.a5.Seq,n.b8.b6.b5,n.b8.b6.b7,n.b8.b6.d9,n.b8.b6.Code,n.Seq,n.d6,n.a8,n.i4,n.c8.i7))))))))))))) else some (l9.brk (n.Acc.a7,n.a6,n.c9,n.a7,n.f0,([]:List l8),n.Id,n.Acc.i0,n.c8.a5.b9,n.c8.a5.Seq,n.c8.b6.b5,n.c8.b6.b7,n.c8.b6.d9,n.c8.b6.Code,n.i9,n.i6,n.b8.i7,n.b8.a5.b9,n.b8.a5.Seq,n.b8.b6.b5,n.b8.b6.b7,n.b8.b6.d9,n.b8.b6.Code,n.Seq,n.d6,n.a8,n.i4,n.c8.i7)))))))))):Option (l9 (j6×(List l8)×List n6) ((List m8)×(List m4)×(List Bool)×(List Bool)×(List m4)×(List l8)×Int×Int×Int×Int×(List r9)×(List p8)×Int×Int×Bool×(List n8)×Bool×Int×Int×(List r9)×(List p8)×Int×Int×Int×Int×Int×(List m8)×Bool))).bind fun x=>x.go some fun j=>d69 j.1 j.2.1 j.2.2.1 j.2.2.2.1 j.2.2.2.2.1 j.2.2.2.2.2.1 j.2.2.2.2.2.2.1 j.2.2.2.2.2.2.2.1 j.2.2.2.2.2.2.2.2.1 j.2.2.2.2.2.2.2.2.2.1 j.2.2.2.2.2.2.2.2.2.2.1 j.2.2.2.2.2.2.2.2.2.2.2.1 j.2.2.2.2.2.2.2.2.2.2.2.2.1 j.2.2.2.2.2.2.2.2.2.2.2.2.2.1 j.2.2.2.2.2.2.2.2.2.2.2.2.2.2.1 j.2.2.2.2.2.2.2.2.2.2.2.2.2.2.2.1 j.2.2.2.2.2.2.2.2.2.2.2.2.2.2.2.2.1 j.2.2.2.2.2.2.2.2.2.2.2.2.2.2.2.2.2.1 j.2.2.2.2.2.2.2.2.2.2.2.2.2.2.2.2.2.2.1 j.2.2.2.2.2.2.2.2.2.2.2.2.2.2.2.2.2.2.2.1 j.2.2.2.2.2.2.2.2.2.2.2.2.2.2.2.2.2.2.2.2.1 j.2.2.2.2.2.2.2.2.2.2.2.2.2.2.2.2.2.2.2.2.2.1 j.2.2.2.2.2.2.2.2.2.2.2.2.2.2.2.2.2.2.2.2.2.2.1 j.2.2.2.2.2.2.2.2.2.2.2.2.2.2.2.2.2.2.2.2.2.2.2.1 j.2.2.2.2.2.2.2.2.2.2.2.2.2.2.2.2.2.2.2.2.2.2.2.2.1 j.2.2.2.2.2.2.2.2.2.2.2.2.2.2.2.2.2.2.2.2.2.2.2.2.2.1 j.2.2.2.2.2.2.2.2.2.2.2.2.2.2.2.2.2.2.2.2.2.2.2.2.2.2.1 j.2.2.2.2.2.2.2.2.2.2.2.2.2.2.2.2.2.2.2.2.2.2.2.2.2.2.2)
set_option maxRecDepth 20000 in
theorem d86{n m}:OK b6Z [.agg (H4 n),.agg (t6 m)] (b9N n m):=
 o7 _ fun r h=>n9<|tk 0 C2<|rg<|A3 h (f3I r) fun x1 h hc1=>rg<|j5 1 h (fun h=>rg<|l7 d2H d9b 2 h fun L9 h=>A4 n<|(o9 h hc1 fun hI=>sk [] [2,4,7] [(1,0),(14,0),(14,1),(14,2),(14,3),(14,4),(3,0)] hI)) (fun h=>rg<|j5 1 h (fun h=>rg<|l7 d25 e0w 2 h fun M6 h=>A4 n<|(o9 h hc1 fun hI=>sk [] [2,4,7] [(1,0),(16,0),(16,1),(16,2),(16,3),(16,4),(3,0)] hI)) (fun h=>rg<|j5 1 h (fun h=>rg<|l7 d8z e6m 2 h fun M3 h=>A4 n<|(o9 h hc1 fun hI=>sk [] [2,4,7] [(1,0),(18,0),(18,1),(18,2),(18,3),(18,4),(3,0)] hI)) (fun h=>rg<|j5 1 h (fun h=>rg<|l7 d2I e8e 2 h fun b1R h=>A4 n<|(B2 h hc1 fun h=>A4 b1R.1<|fE h)) (fun h=>rg<|j5 1 h (fun h=>rg<|l7 d1d e8j 2 h fun b4h h=>A4 n<|(B2 h hc1 fun h=>A4 b4h.1<|fE h)) (fun h=>rg<|j5 1 h (fun h=>rg<|l7 b4m b7q 4 h fun l6Promise h=>s7 n.Acc.a7<|n9<|l7 b40 d1E 3 h fun K2 h=>s7 l6Promise.1.a7<|J8 n<|(o9 h hc1 fun hI=>A9 l8<|sk [.frz (.tmp 7) (none)] [2,4,7] [(1,0),(39,0),(39,1),(39,2),(39,3),(39,4),(3,0)] hI)) (fun h=>rg<|j5 1 h (fun h=>rg<|l7 c9Z d9t 2 h fun M7 h=>A4 n<|(o9 h hc1 fun hI=>sk [] [2,4,7] [(1,0),(26,0),(26,1),(26,2),(26,3),(26,4),(3,0)] hI)) (fun h=>rg<|j5 1 h (fun h=>rg<|l7 a9v e0v 2 h fun T0 h=>t9 h fun e1 h=>t9 h fun e2 h=>t9 h fun e3 h=>t9 h fun e4 h=>t9 h fun e5 h=>A4 n<|(o9 h hc1 fun hI=>om ((.own 0 0 8 0 n.Acc.a7.length:V)=.own 0 0 8 0 T0.2.Acc.a7.length) (by first|(simp;done)|(simp [e1,e2,e3,e4,e5];done))<|om ((.own 0 1 7 0 n.a6.length:V)=.own 0 1 7 0 T0.2.a6.length) (by first|(simp;done)|(simp [e1,e2,e3,e4,e5];done))<|om ((.own 0 2 1 0 n.c9.length:V)=.own 0 2 1 0 T0.2.c9.length) (by first|(simp;done)|(simp [e1,e2,e3,e4,e5];done))<|om ((.own 0 3 1 0 n.a7.length:V)=.own 0 3 1 0 T0.2.a7.length) (by first|(simp;done)|(simp [e1,e2,e3,e4,e5];done))<|om ((.own 0 4 7 0 n.f0.length:V)=.own 0 4 7 0 T0.2.f0.length) (by first|(simp;done)|(simp [e1,e2,e3,e4,e5];done))<|sk [.is (.cell 1 0 2) (.own 0 0 8 0 T0.2.Acc.a7.length),.is (.cell 1 0 3) (.own 0 1 7 0 T0.2.a6.length),.is (.cell 1 0 7) (.own 0 2 1 0 T0.2.c9.length),.is (.cell 1 0 16) (.own 0 3 1 0 T0.2.a7.length),.is (.cell 1 0 26) (.own 0 4 7 0 T0.2.f0.length)] [2,4,7] [(1,0),(0,0),(0,1),(0,2),(0,3),(0,4),(3,0)] hI)) (fun h=>(o9 h hc1 fun hI=>A9 l8<|sk [.frz (.tmp 7) (none)] [2,4,7] [(1,0),(0,0),(0,1),(0,2),(0,3),(0,4),(3,0)] hI)))))))))
def a2b:FS (m5):=⟨129,Tryz.f129,[.val C5 U3],[none,none],[.val C5 U3,.val [some 5] []],fun r=>.agg (V0 r),fun _=>[none,none],Tryz.func129⟩
def d6x(w:m5):(List n6)->KS:=fun Told1=>⟨a2b.k 3 [false],(bs 2 (.ptr 1 0 0::(bs 1 (.ptr 3 0 0::(bs 23 []))))),[some [C7 55 27 z7 w.a0,m6 83 13 t6 w.d7,m6 73 3 C1 w.d8,.dead],some [.var 30 [.own 0 0 27 0 w.a0.length,.own 0 1 13 0 w.d7.length,.own 0 2 3 0 w.d8.length,.own 2 0 5 0 Told1.length]],some [m6 76 5 z5 Told1],some [.var 30 [.nil,.nil,.nil,.nil]]]⟩
def d77(w:m5)(Told1:List n6):Option m5:=
 some (m5.mk w.a0 w.d7 w.d8 Told1)
theorem f3A(w)(r):NF a2b r (d6x w) (fun s=>d77 w s):=fun Told1 h=>PK<|rg<|H9 w.a0 w.d7 w.d8 Told1<|fE h
def e7L(w:m5)(list:List n6):((List n6)×Int)->KS:=fun (Told,i)=>⟨a2b.k 2 [],(bs 1 (j9 5 z5 list::(.ptr 1 0 0::(bs 1 (.ptr 2 0 0::(vi i::(bs 22 []))))))),[some [C7 55 27 z7 w.a0,m6 83 13 t6 w.d7,m6 73 3 C1 w.d8,.dead],some [.var 30 [.own 0 0 27 0 w.a0.length,.own 0 1 13 0 w.d7.length,.own 0 2 3 0 w.d8.length,.own 3 0 5 0 Told.length]],some [.var 30 [.nil,.nil,.nil,.nil]],some [m6 76 5 z5 Told]]⟩
def a3B(list:List n6)(Told:List n6)(i:Int):Option (j7 m5 ((List n6)×Int) (List n6)):=
 (bif decide (i<(list.length:Int)) then (bif decide ((Told.length:Int)<60) then ((idx list i).bind fun told=>(t5 ((Told.length+1)*40<=140737488355328) (some (j7.nxt (Told++[told],m7 (i+1)))))) else some (j7.brk Told)) else some (j7.brk Told))
theorem f1d(w list):LQ a2b (d6x w) (e7L w list) (fun s=>a3B list s.1 s.2):=fun lc (Told,i) h=>PK<|rg<|j5 4 h (fun h=>j5 9 h (fun h=>rg<|u0 z5 4 h fun told a4y h=>tk 6 []<|t9 h fun e1 h=>F7 7 21 76 5 40 z5 Told told e1<|E5 told<|rg<|(lc.nx h fun hI=>sk [] [1,2,4,5] [(1,0),(2,0),(21,0)] hI)) (fun h=>(lc.bk h fun hI=>sk [] [2,4] [(1,0),(3,0),(2,0)] hI))) (fun h=>(lc.bk h fun hI=>sk [] [2,4] [(1,0),(3,0),(2,0)] hI))
def a3Y(w:m5)(list:List n6):Option m5:=
 ((o8 (fun s:(List n6)×Int=>a3B list s.1 s.2) (w.Told,0)).bind fun x=>x.go (fun r=>some r) fun s=>d77 w s)
theorem a8i{w list}:OK a2b [.agg (V0 w),j9 5 z5 list] (a3Y w list):=
 o7 _ fun r h=>n9<|lp (f1d w list) h (fun _ h=>a2b.rt h) (f3A w r) fun hI=>sk [] [1,2,4,5] [(1,0),(2,0),(0,3)] hI
def b9z:FS (m5):=⟨124,Tryz.f124,[.val C5 U3],[none,none],[.val C5 U3,.val [none,none,some 4] []],fun r=>.agg (V0 r),fun _=>[none,none],Tryz.func124⟩
def b48(node:j6):List V:=([vi node.Id,vi node.Acc.i0,.own 40 0 8 0 node.Acc.a7.length,.own 40 1 7 0 node.a6.length,vi node.Seq,vi node.d6,vi node.a8,.own 40 2 1 0 node.c9.length]++a6n node++[.own 40 3 1 0 node.a7.length]++a38 node++[.own 40 4 7 0 node.f0.length])
def d7x(a2p:j6×(List l8)×List n6):List V:=(a6k a2p.1)
def a9K(w:m5)(e_:s6):Option m5:=
 (bif decide (e_.A<0) then some w else (bif decide (e_.A>=(w.d7.length:Int)) then some w else ((idx w.d7 e_.A).bind fun msg=>((a8g msg).bind fun G6=>(bif (e_.a9==4) then ((a3E w [G6]).bind fun a3m=>some a3m) else (bif (e_.a9==3) then ((b5q w e_.A).bind fun c3T=>some c3T) else ((b5q w e_.A).bind fun a0e=>((idx a0e.a0 G6.To).bind fun node=>((b9N node G6).bind fun a2p=>((a3E (m5.mk (a0e.a0.set G6.To.toNat a2p.1) a0e.d7 a0e.d8 a0e.Told) a2p.2.1).bind fun a3F=>((a3Y a3F a2p.2.2).bind fun a25=>some a25)))))))))))
set_option maxRecDepth 20000 in
theorem c3n{w e_}:OK b9z [.agg (V0 w),.agg (J5 e_)] (a9K w e_):=
 o7 _ fun r h=>n9<|j5 3 h (fun h=>rg<|B4 w<|fE h) (fun h=>j5 10 h (fun h=>rg<|B4 w<|fE h) (fun h=>rg<|B0 h fun msg hmsg h=>C0 hmsg<|I4 t6 5 hmsg<|l7 b17 b5O 6 h fun G6 h=>n9<|j5 1 h (fun h=>rg<|tk 2 C2<|l7 a1a a6Q 3 h fun a3m h=>B4 w<|E5 G6<|B4 a3m<|fE h) (fun h=>rg<|j5 1 h (fun h=>rg<|l7 c24 d4J 3 h fun c3T h=>B4 w<|B4 c3T<|fE h) (fun h=>rg<|l7 c24 d4J 3 h fun a0e h=>B4 w<|rg<|B0 h fun node hnode h=>C0 hnode<|ob (b3l (enc:=z7) hnode)<|tl (5,{a:=.drow (z7 node)})<|l7 b6Z d86 7 h fun a2p h=>A4 node<|rg<|C0 hnode<|om (s9.deep false 55 27 a0e.a0.length (((a0e.a0.map z7).set (0+G6.To.toNat) (b48 node)).set (0+G6.To.toNat) (d7x a2p))=C7 55 27 z7 (a0e.a0.set G6.To.toNat a2p.1)) (a9h (X0 (a0N rfl)) (by simp))<|om (I2 (((a0e.a0.map z7).set (0+G6.To.toNat) (b48 node)).set (0+G6.To.toNat) (d7x a2p))) (a8G (X0 (a0N rfl)) a6q)<|om (((a0e.a0.map z7).set (0+G6.To.toNat) (b48 node))[0+G6.To.toNat]?=some (b48 node)) (a15 (a2e hnode))<|A4 a2p.1<|tl (6,{a:=.dsc (b48 node) [none,none,some 8,some 7,none,none,none,some 1,some 8,none,none,none,some 2,some 2,none,none,some 1,none,some 4,none,none,none,some 2,some 2,none,none,some 7] [none,none,some 89,some 53,none,none,none,some 4,none,none,none,none,none,none,none,none,some 4,none,none,none,none,none,none,none,none,none,some 53],e:=some (C7 55 27 z7 (a0e.a0.set G6.To.toNat a2p.1))})<|rg<|l7 a1a a6Q 2 h fun a3F h=>om (a0e.a0.length=(a0e.a0.set G6.To.toNat a2p.1).length) (by simp)<|Y3 a0e.d7 a0e.d8 a0e.Told<|l7 a2b a8i 4 h fun a25 h=>B4 a3F<|B4 a25<|fE h))))
def d6K:FS (Bool):=⟨203,Tryz.f203,[.val [] []],[none],[.val U9 []],fun r=>.b r,fun _=>[none],Tryz.func203⟩
def c0y(v_:m8):Option Bool:=
 (bif (v_.a8==0) then (bif (!v_.g9.i7) then (bif (([v_.g9.a5.b9,v_.g9.a5.Seq]:List Int)==[0,0]) then ((a8U v_.g9.b6 (n7.mk [] [] 0 0)).bind fun a1e=>some a1e) else some false) else some false) else ((a1o v_.a8).bind fun Y8=>(bif Y8 then ((a1g v_.g9).bind fun F4=>some F4) else some false)))
theorem f7h{v_}:OK d6K [.agg (q8 v_)] (c0y v_):=
 o7 _ fun r h=>n9<|j5 2 h (fun h=>rg<|j5 4 h (fun h=>j5 11 h (fun h=>l7 a04 b56 16 h fun a1e h=>fE h) (fun h=>fE h)) (fun h=>fE h)) (fun h=>rg<|l7 a1Y a2A 2 h fun Y8 h=>j5 3 h (fun h=>l7 a2u a3q 6 h fun F4 h=>fE h) (fun h=>fE h))
def a3j:FS (Bool):=⟨172,Tryz.f172,[.val [] []],[none],[.val [some 8] []],fun r=>.b r,fun _=>[none],Tryz.func172⟩
def d7W:Unit->KS:=fun _=>⟨a3j.k 4 [false,false],(bs 19 []),[some []]⟩
def d5g:Option Bool:=
 some true
theorem e72(r):NF a3j r d7W (fun s=>d5g):=fun _ h=>PK<|rg<|fE h
def e5s(list:List m8):Int->KS:=fun i=>⟨a3j.k 3 [false],(j9 8 q8 list::(bs 2 (vi i::(bs 15 [])))),[some []]⟩
def b6y(list:List m8)(i:Int):Option (j7 Bool Int Unit):=
 (bif decide (i<(list.length:Int)) then ((idx list i).bind fun vote=>((c0y vote).bind fun c82=>(bif (!c82) then some (j7.ret false) else some (j7.nxt (m7 (i+1)))))) else some (j7.brk ()))
theorem e2j(list):LQ a3j d7W (e5s list) (fun s=>b6y list s):=fun lc i h=>PK<|rg<|j5 3 h (fun h=>rg<|u0 q8 2 h fun vote K1 h=>l7 d6K f7h 4 h fun c82 h=>j5 5 h (fun h=>rg<|fL lc h) (fun h=>rg<|(lc.nx h fun hI=>sk [] [0,3] [] hI))) (fun h=>(lc.bk h fun hI=>sk [] [] [] hI))
def a6G(list:List m8):Option Bool:=
 (bif decide ((list.length:Int)>40) then some false else ((o8 (fun s:Int=>b6y list s) 0).bind fun x=>x.go (fun r=>some r) fun s=>d5g))
theorem b2e{list}:OK a3j [j9 8 q8 list] (a6G list):=
 o7 _ fun r h=>n9<|j5 2 h (fun h=>rg<|fE h) (fun h=>rg<|lp (e2j list) h (fun _ h=>a3j.rt h) (e72 r) fun hI=>sk [] [0,3] [] hI)
def a7O:FS (Bool):=⟨167,Tryz.f167,[.val [] []],[none],[.val [none,some 8] []],fun r=>.b r,fun _=>[none],Tryz.func167⟩
def d7P:Unit->KS:=fun _=>⟨a7O.k 4 [false,false],(bs 34 []),[some []]⟩
def d30:Option Bool:=
 some true
theorem e2K(r):NF a7O r d7P (fun s=>d30):=fun _ h=>PK<|rg<|fE h
def e43(a:z0):Int->KS:=fun i=>⟨a7O.k 3 [false],(bs 1 (.ptr 1 0 0::(bs 1 (vi i::(bs 30 []))))),[some [],some [.var 43 [vi a.i0,j9 8 q8 a.a7]]]⟩
def c02(a:z0)(i:Int):Option (j7 Bool Int Unit):=
 (bif decide (i<(a.a7.length:Int)) then ((idx a.a7 i).bind fun vote=>(bif decide (vote.a8>a.i0) then some (j7.ret false) else some (j7.nxt (m7 (i+1))))) else some (j7.brk ()))
theorem e6R(a):LQ a7O d7P (e43 a) (fun s=>c02 a s):=fun lc i h=>PK<|rg<|j5 4 h (fun h=>rg<|u0 q8 3 h fun vote K1 h=>j5 8 h (fun h=>rg<|fL lc h) (fun h=>rg<|(lc.nx h fun hI=>sk [] [1,3] [(1,0)] hI))) (fun h=>(lc.bk h fun hI=>sk [] [] [] hI))
def b7s(a:z0):Option Bool:=
 (bif decide (a.i0<0) then some false else (bif decide (a.i0>3000) then some false else ((a6G a.a7).bind fun a6I=>(bif (!a6I) then some false else ((o8 (fun s:Int=>c02 a s) 0).bind fun x=>x.go (fun r=>some r) fun s=>d30)))))
theorem f2g{a}:OK a7O [.agg (a0J a)] (b7s a):=
 o7 _ fun r h=>n9<|j5 3 h (fun h=>rg<|fE h) (fun h=>j5 8 h (fun h=>rg<|fE h) (fun h=>l7 a3j b2e 11 h fun a6I h=>j5 13 h (fun h=>rg<|fE h) (fun h=>rg<|lp (e6R a) h (fun _ h=>a7O.rt h) (e2K r) fun hI=>sk [] [1,3] [(1,0)] hI)))
def a6w:FS (Bool):=⟨116,Tryz.f116,[.val [] []],[none],[.val [some 7] []],fun r=>.b r,fun _=>[none],Tryz.func116⟩
def d6y:Unit->KS:=fun _=>⟨a6w.k 4 [false,false],(bs 19 []),[some []]⟩
def d6p:Option Bool:=
 some true
theorem f5o(r):NF a6w r d6y (fun s=>d6p):=fun _ h=>PK<|rg<|fE h
def e20(list:List m4):Int->KS:=fun i=>⟨a6w.k 3 [false],(j9 7 s5 list::(bs 2 (vi i::(bs 15 [])))),[some []]⟩
def b5X(list:List m4)(i:Int):Option (j7 Bool Int Unit):=
 (bif decide (i<(list.length:Int)) then ((idx list i).bind fun entry=>((a1g entry).bind fun F4=>(bif (!F4) then some (j7.ret false) else some (j7.nxt (m7 (i+1)))))) else some (j7.brk ()))
theorem d9J(list):LQ a6w d6y (e20 list) (fun s=>b5X list s):=fun lc i h=>PK<|rg<|j5 3 h (fun h=>rg<|u0 s5 2 h fun entry F3 h=>l7 a2u a3q 4 h fun F4 h=>j5 5 h (fun h=>rg<|fL lc h) (fun h=>rg<|(lc.nx h fun hI=>sk [] [0,3] [] hI))) (fun h=>(lc.bk h fun hI=>sk [] [] [] hI))
def b3T(list:List m4):Option Bool:=
 (bif decide ((list.length:Int)>40) then some false else ((o8 (fun s:Int=>b5X list s) 0).bind fun x=>x.go (fun r=>some r) fun s=>d6p))
theorem c80{list}:OK a6w [j9 7 s5 list] (b3T list):=
 o7 _ fun r h=>n9<|j5 2 h (fun h=>rg<|fE h) (fun h=>rg<|lp (d9J list) h (fun _ h=>a6w.rt h) (f5o r) fun hI=>sk [] [0,3] [] hI)
def a9k:FS (Bool):=⟨170,Tryz.f170,[.val [] []],[none],[.val J3 []],fun r=>.b r,fun _=>[none],Tryz.func170⟩
def a4L(e_:m4):Option Bool:=
 (bif (!e_.i7) then (bif (([e_.a5.b9,e_.a5.Seq]:List Int)==[0,0]) then ((a8U e_.b6 (n7.mk [] [] 0 0)).bind fun a1e=>some a1e) else some false) else some false)
theorem a9X{e_}:OK a9k [.agg (s5 e_)] (a4L e_):=
 o7 _ fun r h=>n9<|j5 3 h (fun h=>j5 9 h (fun h=>l7 a04 b56 13 h fun a1e h=>fE h) (fun h=>fE h)) (fun h=>fE h)
def b68:FS (Int):=⟨202,Tryz.f202,[.val [] []],[none],[.val [] []],fun r=>vi r,fun _=>[none],Tryz.func202⟩
def a9E(bal:Int):Option Int:=
 ((a1o bal).bind fun Y8=>(bif (!Y8) then some (-1) else some (f9c bal 3)))
theorem c5i{bal}:OK b68 [vi bal] (a9E bal):=
 o7 _ fun r h=>n9<|l7 a1Y a2A 1 h fun Y8 h=>j5 2 h (fun h=>rg<|fE h) (fun h=>rg<|om (3≠(0:Int)) (by decide)<|fE h)
def d3n:FS (Bool):=⟨168,Tryz.f168,[.val [] []],[none],[.val A8 []],fun r=>.b r,fun _=>[none],Tryz.func168⟩
def b67(n:j6):Option Bool:=
 (bif (n.d6==0) then (bif (n.a8==0) then (bif ((n.c9.length:Int)==0) then (bif ((n.i4.length:Int)==0) then ((a4L n.c8).bind fun l7None=>(bif l7None then some ((n.a7.length:Int)==0) else some false)) else some false) else some false) else some false) else (bif (n.d6==1) then ((a1o n.a8).bind fun Y8=>(bif Y8 then (bif decide (n.a8<=n.Acc.i0) then ((a9E n.a8).bind fun a6o=>(bif (a6o==n.Id) then (bif ((n.c9.length:Int)==3) then ((idx n.c9 n.Id).bind fun y=>(bif y then ((a6G n.i4).bind fun a6I=>(bif a6I then ((a4L n.c8).bind fun d47=>(bif d47 then some ((n.a7.length:Int)==0) else some false)) else some false)) else some false)) else some false) else some false)) else some false) else some false)) else (bif (n.d6==2) then ((a1o n.a8).bind fun b2W=>(bif (!b2W) then some false else (bif decide (n.a8>n.Acc.i0) then some false else ((a9E n.a8).bind fun c9V=>(bif (c9V != n.Id) then some false else (bif ((n.c9.length:Int) != 0) then some false else ((a6G n.i4).bind fun c7R=>(bif (!c7R) then some false else (bif (n.d6==2) then ((a4L n.c8).bind fun d2N=>(bif d2N then some ((n.a7.length:Int)==0) else some false)) else ((a1g n.c8).bind fun F4=>(bif F4 then (bif ((n.a7.length:Int)==3) then ((idx n.a7 n.Id).bind fun y1=>(bif y1 then some (decide ((n.a6.length:Int)<40)) else some false)) else some false) else some false))))))))))) else (bif (n.d6==3) then ((a1o n.a8).bind fun b3S=>(bif (!b3S) then some false else (bif decide (n.a8>n.Acc.i0) then some false else ((a9E n.a8).bind fun c8n=>(bif (c8n != n.Id) then some false else (bif ((n.c9.length:Int) != 0) then some false else ((a6G n.i4).bind fun d16=>(bif (!d16) then some false else (bif (n.d6==2) then ((a4L n.c8).bind fun d5W=>(bif d5W then some ((n.a7.length:Int)==0) else some false)) else ((a1g n.c8).bind fun a2S=>(bif a2S then (bif ((n.a7.length:Int)==3) then ((idx n.a7 n.Id).bind fun y2=>(bif y2 then some (decide ((n.a6.length:Int)<40)) else some false)) else some false) else some false))))))))))) else some false))))
set_option maxRecDepth 20000 in
theorem e7X{n}:OK d3n [.agg (x6 n)] (b67 n):=
 o7 _ fun r h=>L8<|j5 1 h (fun h=>rg<|j5 3 h (fun h=>j5 9 h (fun h=>j5 15 h (fun h=>l7 a9k a9X 18 h fun l7None h=>j5 20 h (fun h=>fE h) (fun h=>fE h)) (fun h=>fE h)) (fun h=>fE h)) (fun h=>fE h)) (fun h=>rg<|j5 1 h (fun h=>rg<|l7 a1Y a2A 2 h fun Y8 h=>j5 3 h (fun h=>j5 11 h (fun h=>l7 b68 c5i 14 h fun a6o h=>j5 19 h (fun h=>j5 25 h (fun h=>u0 eB 30 h fun y hy h=>j5 33 h (fun h=>l7 a3j b2e 36 h fun a6I h=>j5 38 h (fun h=>l7 a9k a9X 41 h fun d47 h=>j5 43 h (fun h=>fE h) (fun h=>fE h)) (fun h=>fE h)) (fun h=>fE h)) (fun h=>fE h)) (fun h=>fE h)) (fun h=>fE h)) (fun h=>fE h)) (fun h=>rg<|j5 1 h (fun h=>rg<|l7 a1Y a2A 2 h fun b2W h=>j5 4 h (fun h=>rg<|fE h) (fun h=>j5 12 h (fun h=>rg<|fE h) (fun h=>l7 b68 c5i 15 h fun c9V h=>j5 20 h (fun h=>rg<|fE h) (fun h=>j5 26 h (fun h=>rg<|fE h) (fun h=>l7 a3j b2e 29 h fun c7R h=>j5 31 h (fun h=>rg<|fE h) (fun h=>rg<|j5 2 h (fun h=>rg<|l7 a9k a9X 2 h fun d2N h=>j5 3 h (fun h=>fE h) (fun h=>fE h)) (fun h=>rg<|l7 a2u a3q 2 h fun F4 h=>j5 3 h (fun h=>j5 9 h (fun h=>u0 eB 14 h fun y1 hy1 h=>j5 17 h (fun h=>fE h) (fun h=>fE h)) (fun h=>fE h)) (fun h=>fE h)))))))) (fun h=>rg<|j5 1 h (fun h=>rg<|l7 a1Y a2A 2 h fun b3S h=>j5 4 h (fun h=>rg<|fE h) (fun h=>j5 12 h (fun h=>rg<|fE h) (fun h=>l7 b68 c5i 15 h fun c8n h=>j5 20 h (fun h=>rg<|fE h) (fun h=>j5 26 h (fun h=>rg<|fE h) (fun h=>l7 a3j b2e 29 h fun d16 h=>j5 31 h (fun h=>rg<|fE h) (fun h=>rg<|j5 2 h (fun h=>rg<|l7 a9k a9X 2 h fun d5W h=>j5 3 h (fun h=>fE h) (fun h=>fE h)) (fun h=>rg<|l7 a2u a3q 2 h fun a2S h=>j5 3 h (fun h=>j5 9 h (fun h=>u0 eB 14 h fun y2 hy2 h=>j5 17 h (fun h=>fE h) (fun h=>fE h)) (fun h=>fE h)) (fun h=>fE h)))))))) (fun h=>rg<|fE h))))
def a33:FS (Bool):=⟨204,Tryz.f204,[.val [] []],[none],[.val [] []],fun r=>.b r,fun _=>[none],Tryz.func204⟩
def a2D(n:Int):Option Bool:=
 (bif decide (n>=0) then some (decide (n<4)) else some false)
theorem a5i{n}:OK a33 [vi n] (a2D n):=
 o7 _ fun r h=>n9<|j5 2 h (fun h=>fE h) (fun h=>fE h)
def d46:FS (Bool):=⟨173,Tryz.f173,[.val [] []],[none],[.val [] []],fun r=>.b r,fun _=>[none],Tryz.func173⟩
def b57(i:n8):Option Bool:=
 (bif (i.a9==1) then ((a2D i.A).bind fun c70=>(bif c70 then ((a9f i.B).bind fun b1S=>(bif b1S then some (i.N==0) else some false)) else some false)) else (bif (i.a9==2) then ((a9f i.A).bind fun b3R=>(bif b3R then ((a2D i.B).bind fun d6P=>(bif d6P then some (i.N==0) else some false)) else some false)) else (bif (i.a9==3) then ((a2D i.A).bind fun d2k=>(bif d2k then (bif (i.B==0) then ((a7l i.N).bind fun a1m=>some a1m) else some false) else some false)) else (bif (i.a9==4) then ((a2D i.A).bind fun d0R=>(bif d0R then ((a2D i.B).bind fun d40=>(bif d40 then some (i.N==0) else some false)) else some false)) else (bif (i.a9==5) then ((a2D i.A).bind fun d0C=>(bif d0C then ((a2D i.B).bind fun d4t=>(bif d4t then some (i.N==0) else some false)) else some false)) else (bif (i.a9==6) then ((a2D i.A).bind fun d4G=>(bif d4G then ((a2D i.B).bind fun d6r=>(bif d6r then (bif decide (i.N>=1) then some (decide (i.N<=10)) else some false) else some false)) else some false)) else (bif (i.a9==7) then (bif (i.A==0) then (bif (i.B==0) then some (i.N==0) else some false) else some false) else some false)))))))
theorem e4W{i}:OK d46 [.agg (A6 i)] (b57 i):=
 o7 _ fun r h=>L8<|j5 1 h (fun h=>rg<|l7 a33 a5i 2 h fun c70 h=>j5 3 h (fun h=>l7 b1W b6V 6 h fun b1S h=>j5 8 h (fun h=>fE h) (fun h=>fE h)) (fun h=>fE h)) (fun h=>rg<|j5 1 h (fun h=>rg<|l7 b1W b6V 2 h fun b3R h=>j5 3 h (fun h=>l7 a33 a5i 6 h fun d6P h=>j5 8 h (fun h=>fE h) (fun h=>fE h)) (fun h=>fE h)) (fun h=>rg<|j5 1 h (fun h=>rg<|l7 a33 a5i 2 h fun d2k h=>j5 3 h (fun h=>j5 8 h (fun h=>l7 a77 b0I 11 h fun a1m h=>fE h) (fun h=>fE h)) (fun h=>fE h)) (fun h=>rg<|j5 1 h (fun h=>rg<|l7 a33 a5i 2 h fun d0R h=>j5 3 h (fun h=>l7 a33 a5i 6 h fun d40 h=>j5 8 h (fun h=>fE h) (fun h=>fE h)) (fun h=>fE h)) (fun h=>rg<|j5 1 h (fun h=>rg<|l7 a33 a5i 2 h fun d0C h=>j5 3 h (fun h=>l7 a33 a5i 6 h fun d4t h=>j5 8 h (fun h=>fE h) (fun h=>fE h)) (fun h=>fE h)) (fun h=>rg<|j5 1 h (fun h=>rg<|l7 a33 a5i 2 h fun d4G h=>j5 3 h (fun h=>l7 a33 a5i 6 h fun d6r h=>j5 8 h (fun h=>j5 13 h (fun h=>fE h) (fun h=>fE h)) (fun h=>fE h)) (fun h=>fE h)) (fun h=>rg<|j5 1 h (fun h=>rg<|j5 3 h (fun h=>j5 8 h (fun h=>fE h) (fun h=>fE h)) (fun h=>fE h)) (fun h=>rg<|fE h)))))))
def a4J:FS (Bool):=⟨112,Tryz.f112,[.val [] []],[none],[.val [some 4] []],fun r=>.b r,fun _=>[none],Tryz.func112⟩
def d6F:Unit->KS:=fun _=>⟨a4J.k 4 [false,false],(bs 19 []),[some []]⟩
def d5z:Option Bool:=
 some true
theorem e5N(r):NF a4J r d6F (fun s=>d5z):=fun _ h=>PK<|rg<|fE h
def f8g(list:List n8):Int->KS:=fun i=>⟨a4J.k 3 [false],(j9 4 A6 list::(bs 2 (vi i::(bs 15 [])))),[some []]⟩
def c0i(list:List n8)(i:Int):Option (j7 Bool Int Unit):=
 (bif decide (i<(list.length:Int)) then ((idx list i).bind fun ins=>((b57 ins).bind fun d1w=>(bif (!d1w) then some (j7.ret false) else some (j7.nxt (m7 (i+1)))))) else some (j7.brk ()))
theorem e8g(list):LQ a4J d6F (f8g list) (fun s=>c0i list s):=fun lc i h=>PK<|rg<|j5 3 h (fun h=>rg<|u0 A6 2 h fun ins hins h=>l7 d46 e4W 4 h fun d1w h=>j5 5 h (fun h=>rg<|fL lc h) (fun h=>rg<|(lc.nx h fun hI=>sk [] [0,3] [] hI))) (fun h=>(lc.bk h fun hI=>sk [] [] [] hI))
def b1f(list:List n8):Option Bool:=
 (bif decide ((list.length:Int)>10) then some false else ((o8 (fun s:Int=>c0i list s) 0).bind fun x=>x.go (fun r=>some r) fun s=>d5z))
theorem c49{list}:OK a4J [j9 4 A6 list] (b1f list):=
 o7 _ fun r h=>n9<|j5 2 h (fun h=>rg<|fE h) (fun h=>rg<|lp (e8g list) h (fun _ h=>a4J.rt h) (e5N r) fun hI=>sk [] [0,3] [] hI)
def d6U:FS (Bool):=⟨169,Tryz.f169,[.val [] []],[none],[.val A8 []],fun r=>.b r,fun _=>[none],Tryz.func169⟩
def b96(n:j6):Option Bool:=
 (bif (!n.i9) then (bif ((n.i6.length:Int)==0) then ((a4L n.b8).bind fun l7None=>some l7None) else some false) else ((b1f n.i6).bind fun E4=>(bif E4 then ((a1g n.b8).bind fun F4=>(bif F4 then (bif (!n.b8.i7) then some (([n.b8.a5.b9,n.b8.a5.Seq]:List Int)==[n.Id,n.Seq]) else some false) else some false)) else some false)))
theorem f2j{n}:OK d6U [.agg (x6 n)] (b96 n):=
 o7 _ fun r h=>n9<|j5 2 h (fun h=>rg<|j5 4 h (fun h=>l7 a9k a9X 7 h fun l7None h=>fE h) (fun h=>fE h)) (fun h=>rg<|l7 a4J c49 2 h fun E4 h=>j5 3 h (fun h=>l7 a2u a3q 6 h fun F4 h=>j5 8 h (fun h=>j5 14 h (fun h=>fE h) (fun h=>fE h)) (fun h=>fE h)) (fun h=>fE h))
def a2m:FS (Bool):=⟨109,Tryz.f109,[.val [] []],[none],[.val A8 []],fun r=>.b r,fun _=>[none],Tryz.func109⟩
def d3Y:Unit->KS:=fun _=>⟨a2m.k 4 [false,false],(bs 72 []),[some []]⟩
def c5Q:Option Bool:=
 some true
theorem d99(r):NF a2m r d3Y (fun s=>c5Q):=fun _ h=>PK<|rg<|fE h
def f2Q(n:j6):Int->KS:=fun i=>⟨a2m.k 3 [false],(bs 1 (.ptr 1 0 0::(bs 1 (vi i::(bs 68 []))))),[some [],some [.var 55 (X6 n)]]⟩
def b8m(n:j6)(i:Int):Option (j7 Bool Int Unit):=
 (bif decide (i<(n.f0.length:Int)) then ((idx n.f0 i).bind fun entry=>((a1g entry).bind fun F4=>(bif (!F4) then some (j7.ret false) else (bif entry.i7 then some (j7.ret false) else some (j7.nxt (m7 (i+1))))))) else some (j7.brk ()))
theorem e3h(n):LQ a2m d3Y (f2Q n) (fun s=>b8m n s):=fun lc i h=>PK<|rg<|j5 4 h (fun h=>rg<|u0 s5 3 h fun entry F3 h=>l7 a2u a3q 5 h fun F4 h=>j5 7 h (fun h=>rg<|fL lc h) (fun h=>I3 s5 11 F3<|j5 14 h (fun h=>rg<|fL lc h) (fun h=>rg<|(lc.nx h fun hI=>sk [] [1,3] [(1,0)] hI)))) (fun h=>(lc.bk h fun hI=>sk [] [] [] hI))
def a5H(n:j6):Option Bool:=
 (bif decide (n.Id<0) then some false else (bif decide (n.Id>=3) then some false else ((b7s n.Acc).bind fun O2=>(bif (!O2) then some false else ((b3T n.a6).bind fun b4l=>(bif (!b4l) then some false else (bif decide (n.Seq<0) then some false else (bif decide (n.Seq>1000) then some false else (bif decide ((n.f0.length:Int)>4) then some false else ((b67 n).bind fun c8T=>(bif (!c8T) then some false else ((b96 n).bind fun d6O=>(bif (!d6O) then some false else ((o8 (fun s:Int=>b8m n s) 0).bind fun x=>x.go (fun r=>some r) fun s=>c5Q))))))))))))))
theorem b1k{n}:OK a2m [.agg (x6 n)] (a5H n):=
 o7 _ fun r h=>n9<|j5 3 h (fun h=>rg<|fE h) (fun h=>j5 8 h (fun h=>rg<|fE h) (fun h=>l7 a7O f2g 11 h fun O2 h=>j5 14 h (fun h=>rg<|fE h) (fun h=>l7 a6w c80 17 h fun b4l h=>j5 20 h (fun h=>rg<|fE h) (fun h=>j5 25 h (fun h=>rg<|fE h) (fun h=>j5 30 h (fun h=>rg<|fE h) (fun h=>j5 36 h (fun h=>rg<|fE h) (fun h=>l7 d3n e7X 38 h fun c8T h=>j5 41 h (fun h=>rg<|fE h) (fun h=>l7 d6U f2j 43 h fun d6O h=>j5 45 h (fun h=>rg<|fE h) (fun h=>rg<|lp (e3h n) h (fun _ h=>a2m.rt h) (d99 r) fun hI=>sk [] [1,3] [(1,0)] hI)))))))))
def d5E:FS (z0):=⟨191,Tryz.f191,[.val [none,some 8] [none,some 89]],[none],[.val [none,some 8] []],fun r=>.agg [vi r.i0,v6 89 8 q8 r.a7],fun _=>[none],Tryz.func191⟩
def c2H(a:z0):Option z0:=
 ((a8S a.a7).bind fun X4=>some (z0.mk a.i0 X4))
theorem f0x{a}:OK d5E [.agg (a0J a)] (c2H a):=
 o7 _ fun r h=>n9<|l7 a4p c0w 4 h fun X4 h=>s7 X4<|fE h
def a5k:FS (List m4):=⟨115,Tryz.f115,[.val [some 7] [some 53]],[none],[.val [some 7] []],fun r=>v6 53 7 s5 r,fun _=>[none],Tryz.func115⟩
def c7N:(List m4)->KS:=fun out1=>⟨a5k.k 4 [false],(bs 3 (.own 1 0 7 0 out1.length::(bs 17 []))),[some [],some [m6 53 7 s5 out1]]⟩
def d26(out1:List m4):Option (List m4):=
 some out1
theorem f2k(r):NF a5k r c7N (fun s=>d26 s):=fun out1 h=>PK<|rg<|s7 out1<|fE h
def e8k(list:List m4):((List m4)×Int)->KS:=fun (out,i)=>⟨a5k.k 3 [],(j9 7 s5 list::(bs 2 (.own 1 0 7 0 out.length::(vi i::(bs 16 []))))),[some [],some [m6 53 7 s5 out]]⟩
def b15(list:List m4)(out:List m4)(i:Int):Option (j7 (List m4) ((List m4)×Int) (List m4)):=
 (bif decide (i<(list.length:Int)) then ((idx list i).bind fun entry=>((X7 entry).bind fun l5Entry=>(t5 ((out.length+1)*88<=140737488355328) (some (j7.nxt (out++[l5Entry],m7 (i+1))))))) else some (j7.brk out))
theorem f1r(list):LQ a5k c7N (e8k list) (fun s=>b15 list s.1 s.2):=fun lc (out,i) h=>PK<|rg<|j5 3 h (fun h=>rg<|u0 s5 3 h fun entry F3 h=>l7 a0z a01 5 h fun l5Entry h=>tk 6 J3<|t9 h fun e1 h=>F7 7 13 53 7 88 s5 out l5Entry e1<|E5 l5Entry<|rg<|(lc.nx h fun hI=>sk [] [0,3,4] [(13,0)] hI)) (fun h=>(lc.bk h fun hI=>sk [] [3] [(1,0)] hI))
def a9G(list:List m4):Option (List m4):=
 ((o8 (fun s:(List m4)×Int=>b15 list s.1 s.2) (([]:List m4),0)).bind fun x=>x.go (fun r=>some r) fun s=>d26 s)
theorem c1C{list}:OK a5k [j9 7 s5 list] (a9G list):=
 o7 _ fun r h=>n9<|tk 0 J3<|rg<|lp (f1r list) h (fun _ h=>a5k.rt h) (f2k r) fun hI=>om ((.own 2 0 7 0 0:V)=.own 2 0 7 0 ([]:List m4).length) (by simp)<|sk [.is (.tmp 3) (.own 2 0 7 0 ([]:List m4).length)] [0,3,4] [(2,0)] hI
def b0t:FS (j6):=⟨132,Tryz.f132,[.val A8 H2],[none],[.val A8 []],fun r=>.agg (H4 r),fun _=>[none],Tryz.func132⟩
def a6v(n:j6):Option j6:=
 ((c2H n.Acc).bind fun c62=>((a9G n.a6).bind fun a8k=>(t5 ((([]:List Bool).length+n.c9.length)*1<=140737488355328) (((a8S n.i4).bind fun X4=>((X7 n.c8).bind fun l5Entry=>(t5 ((([]:List Bool).length+n.a7.length)*1<=140737488355328) ((t5 ((([]:List n8).length+n.i6.length)*32<=140737488355328) (((X7 n.b8).bind fun b3G=>((a9G n.f0).bind fun c2k=>some (j6.mk n.Id c62 a8k n.Seq n.d6 n.a8 (([]:List Bool)++n.c9) X4 l5Entry (([]:List Bool)++n.a7) n.i9 (([]:List n8)++n.i6) b3G c2k)))))))))))))
set_option maxRecDepth 20000 in
theorem b4x{n}:OK b0t [.agg (x6 n)] (a6v n):=
 o7 _ fun r h=>L8<|l7 d5E f0x 2 h fun c62 h=>rg<|l7 a5k c1C 2 h fun a8k h=>rg<|tk 0 []<|t9 h fun e1 h=>oa 19 0 1 ([]:List Bool) n.c9<|oz 4 1 eB ([]:List Bool) n.c9<|A9 Bool<|ob e1<|tl (3,{v:=some (.own 19 0 1 0 (([]:List Bool)++n.c9).length),e:=some (m6 4 1 eB (([]:List Bool)++n.c9))})<|rg<|l7 a4p c0w 2 h fun X4 h=>rg<|l7 a0z a01 2 h fun l5Entry h=>rg<|tk 0 []<|t9 h fun e2 h=>oa 35 0 1 ([]:List Bool) n.a7<|oz 4 1 eB ([]:List Bool) n.a7<|A9 Bool<|ob e2<|tl (3,{v:=some (.own 35 0 1 0 (([]:List Bool)++n.a7).length),e:=some (m6 4 1 eB (([]:List Bool)++n.a7))})<|rg<|tk 0 []<|t9 h fun e3 h=>oa 41 0 4 ([]:List n8) n.i6<|oz 80 4 A6 ([]:List n8) n.i6<|A9 n8<|ob e3<|tl (3,{v:=some (.own 41 0 4 0 (([]:List n8)++n.i6).length),e:=some (m6 80 4 A6 (([]:List n8)++n.i6))})<|rg<|l7 a0z a01 2 h fun b3G h=>rg<|l7 a5k c1C 2 h fun c2k h=>rg<|H9 c62.a7 a8k (([]:List Bool)++n.c9) X4<|Y3 (([]:List Bool)++n.a7) (([]:List n8)++n.i6) c2k<|fE h
def a6W:FS (u5):=⟨72,Tryz.f72,[.val [none,some 2,some 4] [none,some 142,none]],[none],[.val [some 7] []],fun r=>.agg (b3w r),fun _=>[none],Tryz.func72⟩
def d7z:((List m9)×Int×List q9)->KS:=fun (Boxes1,sAt1,sDones1)=>⟨a6W.k 5 [false,false],(bs 2 (.ptr 1 0 0::(.ptr 2 0 0::(bs 32 [])))),[some [],some [.var 104 [vi 0,.nil,.nil]],some [.var 104 [vi sAt1,.own 3 0 2 0 Boxes1.length,j9 4 B5 sDones1]],some [m6 142 2 x7 Boxes1]]⟩
def c7y(Boxes1:List m9)(sAt1:Int)(sDones1:List q9):Option u5:=
 some (u5.mk sAt1 Boxes1 sDones1)
theorem d8I(r):NF a6W r d7z (fun s=>c7y s.1 s.2.1 s.2.2):=fun (Boxes1,sAt1,sDones1) h=>PK<|rg<|s7 Boxes1<|fE h
def f2d(list:List m4):((List m9)×Int×Int×List q9)->KS:=fun (g7,i,sAt,sDones)=>⟨a6W.k 4 [false],(j9 7 s5 list::(bs 1 (.ptr 1 0 0::(.ptr 2 0 0::(vi i::(bs 31 [])))))),[some [],some [.var 104 [vi 0,.nil,.nil]],some [.var 104 [vi sAt,.own 3 0 2 0 g7.length,j9 4 B5 sDones]],some [m6 142 2 x7 g7]]⟩
def b1s(list:List m4)(g7:List m9)(i:Int)(sAt:Int)(sDones:List q9):Option (j7 u5 ((List m9)×Int×Int×List q9) ((List m9)×Int×List q9)):=
 (bif decide (i<(list.length:Int)) then ((idx list i).bind fun entry=>((a1g entry).bind fun F4=>(bif (!F4) then some (j7.ret (u5.mk 0 [] [])) else ((a9i (u5.mk sAt g7 sDones) entry).bind fun l5Apply=>some (j7.nxt (l5Apply.1.g7,m7 (i+1),l5Apply.1.At,l5Apply.1.i8)))))) else some (j7.brk (g7,sAt,sDones)))
theorem f2r(list):LQ a6W d7z (f2d list) (fun s=>b1s list s.1 s.2.1 s.2.2.1 s.2.2.2):=fun lc (g7,i,sAt,sDones) h=>PK<|rg<|j5 3 h (fun h=>rg<|u0 s5 2 h fun entry F3 h=>l7 a2u a3q 4 h fun F4 h=>j5 5 h (fun h=>rg<|fL lc h) (fun h=>rg<|I3 s5 3 F3<|l7 a3x b80 5 h fun l5Apply h=>s7 g7<|n9<|(lc.nx h fun hI=>sk [] [0,2,3,4] [(1,0),(2,0),(19,0)] hI))) (fun h=>(lc.bk h fun hI=>sk [] [2,3] [(1,0),(2,0),(3,0)] hI))
def b4o(list:List m4):Option u5:=
 ((a7A).bind fun Q4=>(bif decide ((list.length:Int)>40) then some (u5.mk 0 [] []) else ((o8 (fun s:(List m9)×Int×Int×List q9=>b1s list s.1 s.2.1 s.2.2.1 s.2.2.2) (Q4.g7,0,Q4.At,Q4.i8)).bind fun x=>x.go (fun r=>some r) fun s=>c7y s.1 s.2.1 s.2.2)))
theorem d0M{list}:OK a6W [j9 7 s5 list] (b4o list):=
 o7 _ fun r h=>n9<|l7 b33 b7I 0 h fun Q4 h=>rg<|j5 2 h (fun h=>rg<|fE h) (fun h=>rg<|lp (f2r list) h (fun _ h=>a6W.rt h) (d8I r) fun hI=>sk [] [0,2,3,4] [(1,0),(3,0),(2,0)] hI)
def d5r:FS (u5):=⟨219,Tryz.f219,[.val [none,some 2,some 4] []],[none],[.val A8 []],fun r=>.agg (a82 r),fun _=>[none],Tryz.func219⟩
def b8s(n:j6):Option u5:=
 ((a5H n).bind fun D7=>(bif (!D7) then some (u5.mk 0 [] []) else ((b4o n.a6).bind fun a0T=>some a0T)))
theorem f5d{n}:OK d5r [.agg (x6 n)] (b8s n):=
 o7 _ fun r h=>n9<|l7 a2m b1k 1 h fun D7 h=>j5 2 h (fun h=>rg<|fE h) (fun h=>rg<|l7 a6W d0M 2 h fun a0T h=>s7 a0T.g7<|fE h)
def b6g:FS (Int×n7):=⟨222,Tryz.f222,[.val [] [],.val O7 om4],[none,none,none],[.val [some 2] [],.val O7 om4,.val [] []],fun r=>.tup [vi r.1,.agg (a5R r.2)],fun _=>[none,none,none],Tryz.func222⟩
def e1T(list:List m9)(r_:n7)(box:Int):(List r9)->KS:=fun b5=>⟨b6g.k 5 [false,true],(j9 2 x7 list::(bs 1 (vi box::(bs 1 (.ptr 1 0 0::(bs 2 (.ptr 3 0 0::(bs 37 [])))))))),[some [.dead,m6 177 2 w9 r_.b7],some [.var 51 [.own 2 0 2 0 b5.length,.own 0 1 2 0 r_.b7.length,vi r_.d9,vi r_.Code]],some [m6 174 2 w8 b5],some [.var 51 [.nil,.nil,vi 0,vi 0]]]⟩
def c1z(list:List m9)(r_:n7)(box:Int)(b5:List r9):Option (Int×n7):=
 ((idx list box).bind fun Q1=>some (Q1.d9,(n7.mk b5 r_.b7 r_.d9 r_.Code)))
theorem e49(list r_ box)(r):NF b6g r (e1T list r_ box) (fun s=>c1z list r_ box s):=fun b5 h=>PK<|rg<|u0 x7 2 h fun Q1 a61 h=>C9 b5 r_.b7<|fE h
def c6q(list:List m9)(r_:n7)(box:Int):Option (Int×n7):=
 ((a5Z r_.b7 box).bind fun a2s=>(bif decide (a2s>=0) then ((idx r_.b7 a2s).bind fun put=>some (put.d9,r_)) else ((((b41 r_.b5 box).bind fun b14=>(bif (!b14) then ((idx list box).bind fun b7v=>(t5 ((r_.b5.length+1)*16<=140737488355328) (some (l9.brk (r_.b5++[(r9.mk box b7v.j4)]))))) else some (l9.brk r_.b5))):Option (l9 (Int×n7) (List r9))).bind fun x=>x.go some fun j=>c1z list r_ box j)))
theorem e4z{list r_ box}:OK b6g [j9 2 x7 list,.agg (a5R r_),vi box] (c6q list r_ box):=
 o7 _ fun r h=>n9<|R4 a5z c6S 3 2 h fun a2s h=>s7 r_.b7<|rg<|j5 1 h (fun h=>rg<|B0 h fun put hput h=>C0 hput<|I4 w9 5 hput<|olR r_<|fE h) (fun h=>A3 h (e49 list r_ box r) fun x1 h hc1=>rg<|R4 a7s d1i 3 2 h fun b14 h=>s7 r_.b5<|j5 4 h (fun h=>rg<|u0 x7 5 h fun b7v f8v h=>tk 9 []<|t9 h fun e1 h=>F7 10 26 174 2 16 w8 r_.b5 (r9.mk box b7v.j4) e1<|E5 (r9.mk box b7v.j4)<|(o9 h hc1 fun hI=>sk [] [0,2,4,7] [(1,0),(26,0),(3,0)] hI)) (fun h=>(o9 h hc1 fun hI=>sk [] [0,2,4,7] [(1,0),(0,0),(3,0)] hI)))
def d1M:FS (n7):=⟨223,Tryz.f223,[.val O7 om4],[none,none,none],[.val O7 om4,.val [] [],.val [] []],fun r=>.agg (a5R r),fun _=>[none,none,none],Tryz.func223⟩
def c2O(r_:n7)(box:Int)(val:Int):Option n7:=
 ((a5Z r_.b7 box).bind fun a2s=>(bif decide (a2s>=0) then ((idx r_.b7 a2s).bind fun put=>some (n7.mk r_.b5 (r_.b7.set a2s.toNat (p8.mk put.i5 val)) r_.d9 r_.Code)) else (t5 ((r_.b7.length+1)*16<=140737488355328) (some (n7.mk r_.b5 (r_.b7++[(p8.mk box val)]) r_.d9 r_.Code)))))
theorem e1I{r_ box val}:OK d1M [.agg (a5R r_),vi box,vi val] (c2O r_ box val):=
 o7 _ fun r h=>n9<|R4 a5z c6S 3 2 h fun a2s h=>s7 r_.b7<|rg<|j5 1 h (fun h=>rg<|B0 h fun put hput h=>C0 hput<|Q6 177 2 w9 6 [] (p8.mk put.i5 val) hput<|rg<|s7 r_.b5<|om (r_.b7.length=(r_.b7.set a2s.toNat (p8.mk put.i5 val)).length) (by simp)<|fE h) (fun h=>rg<|tk 5 []<|t9 h fun e1 h=>F7 6 16 177 2 16 w9 r_.b7 (p8.mk box val) e1<|E5 (p8.mk box val)<|rg<|C9 r_.b5 (r_.b7++[(p8.mk box val)])<|fE h)
def b1i:FS (n7×List Int):=⟨208,Tryz.f208,[.val O7 om4],[none,none,some (2,.row),none],[.val [some 2] [],.val O7 om4,.row,.val [] []],fun r=>.agg (a5R r.1),fun r=>[none,none,some (v6 3 1 eI r.2),none],Tryz.func208⟩
def e7w(i:n8):((List Int)×(List r9)×(List p8)×Int×Int)->KS:=fun (regs1,b5,b7,rVal,rCode)=>⟨b1i.k 6 [true],(bs 2 (.own 0 2 1 0 regs1.length::(bs 2 (.ptr 1 0 0::(bs 1 (.ptr 4 0 0::(.ptr 5 0 0::(bs 90 [])))))))),[some [.dead,.dead,m6 3 1 eI regs1],some [.var 51 [.own 2 0 2 0 b5.length,.own 3 0 2 0 b7.length,vi rVal,vi rCode]],some [m6 174 2 w8 b5],some [m6 177 2 w9 b7],some [.var 80 [vi i.a9,vi i.A,vi i.B,vi i.N]],some [.var 51 [.nil,.nil,vi 0,vi 0]]]⟩
def e42(regs1:List Int)(b5:List r9)(b7:List p8)(rVal:Int):Int->KS:=fun rCode1=>⟨b1i.k 8 [true,true],(bs 5 (.ptr 1 0 0::(bs 2 (.ptr 4 0 0::(bs 90 []))))),[some [.dead,.dead,m6 3 1 eI regs1],some [.var 51 [.own 2 0 2 0 b5.length,.own 3 0 2 0 b7.length,vi rVal,vi rCode1]],some [m6 174 2 w8 b5],some [m6 177 2 w9 b7],some [.var 51 [.nil,.nil,vi 0,vi 0]]]⟩
def b2h(regs1:List Int)(b5:List r9)(b7:List p8)(rVal:Int)(rCode1:Int):Option (n7×List Int):=
 some ((n7.mk b5 b7 rVal rCode1),regs1)
theorem f4P(regs1 b5 b7 rVal)(r):NF b1i r (e42 regs1 b5 b7 rVal) (fun s=>b2h regs1 b5 b7 rVal s):=fun rCode1 h=>PK<|rg<|Y3 b5 b7 regs1<|fE h
def a7W(i:n8)(regs1:List Int)(b5:List r9)(b7:List p8)(rVal:Int)(rCode:Int):Option (n7×List Int):=
 (((bif (i.a9 != 2) then ((idx regs1 i.A).bind fun y=>((a7l y).bind fun a1m=>(bif (!a1m) then some (l9.brk 2) else some (l9.brk rCode)))) else some (l9.brk rCode)):Option (l9 (n7×List Int) Int)).bind fun x=>x.go some fun j=>b2h regs1 b5 b7 rVal j)
theorem e00(i)(r):NF b1i r (e7w i) (fun s=>a7W i s.1 s.2.1 s.2.2.1 s.2.2.2.1 s.2.2.2.2):=fun (regs1,b5,b7,rVal,rCode) h=>PK<|A3 h (f4P regs1 b5 b7 rVal r) fun x1 h hc1=>rg<|j5 3 h (fun h=>B0 h fun y hy h=>C0 hy<|I4 eI 8 hy<|l7 a77 b0I 9 h fun a1m h=>j5 11 h (fun h=>rg<|(o9 h hc1 fun hI=>sk [] [5,8] [(1,0),(2,0),(3,0),(5,0)] hI)) (fun h=>(o9 h hc1 fun hI=>sk [] [5,8] [(1,0),(2,0),(3,0),(5,0)] hI))) (fun h=>(o9 h hc1 fun hI=>sk [] [5,8] [(1,0),(2,0),(3,0),(5,0)] hI))
def a9Z(list:List m9)(r_:n7)(regs:List Int)(i:n8):Option (n7×List Int):=
 (((bif (i.a9==1) then ((c6q list r_ i.B).bind fun a4H=>((idx regs i.A).bind fun y1=>some (l9.brk (regs.set i.A.toNat a4H.1,a4H.2.b5,a4H.2.b7,a4H.2.d9,a4H.2.Code)))) else (bif (i.a9==2) then ((idx regs i.B).bind fun y2=>((c2O r_ i.A y2).bind fun b10=>some (l9.brk (regs,b10.b5,b10.b7,b10.d9,b10.Code)))) else (bif (i.a9==3) then ((idx regs i.A).bind fun y3=>some (l9.brk (regs.set i.A.toNat i.N,r_.b5,r_.b7,r_.d9,r_.Code))) else (bif (i.a9==4) then ((idx regs i.A).bind fun y4=>((idx regs i.B).bind fun y5=>some (l9.brk (regs.set i.A.toNat (m7 (y4+y5)),r_.b5,r_.b7,r_.d9,r_.Code)))) else (bif (i.a9==5) then ((idx regs i.A).bind fun y6=>((idx regs i.B).bind fun y7=>some (l9.brk (regs.set i.A.toNat (m7 (y6-y7)),r_.b5,r_.b7,r_.d9,r_.Code)))) else (bif (i.a9==7) then some (l9.brk (regs,r_.b5,r_.b7,r_.d9,1)) else some (l9.brk (regs,r_.b5,r_.b7,r_.d9,r_.Code)))))))):Option (l9 (n7×List Int) ((List Int)×(List r9)×(List p8)×Int×Int))).bind fun x=>x.go some fun j=>a7W i j.1 j.2.1 j.2.2.1 j.2.2.2.1 j.2.2.2.2)
set_option maxRecDepth 20000 in
theorem f3X{list r_ regs i}:OK b1i [j9 2 x7 list,.agg (a5R r_),v6 3 1 eI regs,.agg (A6 i)] (a9Z list r_ regs i):=
 o7 _ fun r h=>n9<|A3 h (e00 i r) fun x1 h hc1=>rg<|j5 1 h (fun h=>rg<|l7 b6g e4z 4 h fun a4H h=>olR r_<|rg<|B0 h fun y1 hy1 h=>C0 hy1<|Q6 3 1 eI 5 [] a4H.1 hy1<|rg<|(o9 h hc1 fun hI=>om ((.own 0 2 1 0 regs.length:V)=.own 0 2 1 0 (regs.set i.A.toNat a4H.1).length) (by simp)<|sk [.is (.tmp 2) (.own 0 2 1 0 (regs.set i.A.toNat a4H.1).length)] [2,5,7,8] [(1,0),(12,0),(12,1),(2,0),(3,0)] hI)) (fun h=>rg<|j5 1 h (fun h=>rg<|B0 h fun y2 hy2 h=>C0 hy2<|I4 eI 7 hy2<|l7 d1M e1I 8 h fun b10 h=>olR r_<|(o9 h hc1 fun hI=>sk [] [2,5,7,8] [(1,0),(18,0),(18,1),(2,0),(3,0)] hI)) (fun h=>rg<|j5 1 h (fun h=>rg<|B0 h fun y3 hy3 h=>C0 hy3<|Q6 3 1 eI 6 [] i.N hy3<|(o9 h hc1 fun hI=>om ((.own 0 2 1 0 regs.length:V)=.own 0 2 1 0 (regs.set i.A.toNat i.N).length) (by simp)<|sk [.is (.tmp 2) (.own 0 2 1 0 (regs.set i.A.toNat i.N).length)] [2,5,7,8] [(1,0),(0,0),(0,1),(2,0),(3,0)] hI)) (fun h=>rg<|j5 1 h (fun h=>rg<|B0 h fun y4 hy4 h=>C0 hy4<|I4 eI 7 hy4<|B0 h fun y5 hy5 h=>C0 hy5<|I4 eI 12 hy5<|C0 hy4<|Q6 3 1 eI 15 [] (m7 (y4+y5)) hy4<|(o9 h hc1 fun hI=>om ((.own 0 2 1 0 regs.length:V)=.own 0 2 1 0 (regs.set i.A.toNat (m7 (y4+y5))).length) (by simp)<|sk [.is (.tmp 2) (.own 0 2 1 0 (regs.set i.A.toNat (m7 (y4+y5))).length)] [2,5,7,8] [(1,0),(0,0),(0,1),(2,0),(3,0)] hI)) (fun h=>rg<|j5 1 h (fun h=>rg<|B0 h fun y6 hy6 h=>C0 hy6<|I4 eI 7 hy6<|B0 h fun y7 hy7 h=>C0 hy7<|I4 eI 12 hy7<|C0 hy6<|Q6 3 1 eI 15 [] (m7 (y6-y7)) hy6<|(o9 h hc1 fun hI=>om ((.own 0 2 1 0 regs.length:V)=.own 0 2 1 0 (regs.set i.A.toNat (m7 (y6-y7))).length) (by simp)<|sk [.is (.tmp 2) (.own 0 2 1 0 (regs.set i.A.toNat (m7 (y6-y7))).length)] [2,5,7,8] [(1,0),(0,0),(0,1),(2,0),(3,0)] hI)) (fun h=>rg<|j5 1 h (fun h=>rg<|(o9 h hc1 fun hI=>sk [] [2,5,7,8] [(1,0),(0,0),(0,1),(2,0),(3,0)] hI)) (fun h=>(o9 h hc1 fun hI=>sk [] [2,5,7,8] [(1,0),(0,0),(0,1),(2,0),(3,0)] hI)))))))
def a3R:FS (n7):=⟨180,Tryz.f180,[.val O7 om4],[none,none],[.val [some 2] [],.val [some 4] []],fun r=>.agg (a5R r),fun _=>[none,none],Tryz.func180⟩
def c5f:((List r9)×(List p8)×(List Int)×Int×Int)->KS:=fun (Reads1,Puts1,regs1,rVal1,rCode1)=>⟨a3R.k 6 [false,false],(bs 4 (.ptr 1 0 0::(.ptr 2 0 0::(.own 5 0 1 0 regs1.length::(bs 61 []))))),[some [],some [.var 51 [.nil,.nil,vi 0,vi 0]],some [.var 51 [.own 3 0 2 0 Reads1.length,.own 4 0 2 0 Puts1.length,vi rVal1,vi rCode1]],some [m6 174 2 w8 Reads1],some [m6 177 2 w9 Puts1],some [m6 3 1 eI regs1]]⟩
def a7B(Reads1:List r9)(Puts1:List p8)(regs1:List Int)(rVal1:Int)(rCode1:Int):Option n7:=
 (bif (rCode1 != 0) then some (n7.mk Reads1 [] rVal1 rCode1) else ((idx regs1 0).bind fun y=>some (n7.mk Reads1 Puts1 y rCode1)))
theorem e2N(r):NF a3R r c5f (fun s=>a7B s.1 s.2.1 s.2.2.1 s.2.2.2.1 s.2.2.2.2):=fun (Reads1,Puts1,regs1,rVal1,rCode1) h=>PK<|rg<|j5 2 h (fun h=>n9<|s7 Reads1<|fE h) (fun h=>rg<|B0 h fun y hy h=>C0 hy<|I4 eI 2 hy<|rg<|C9 Reads1 Puts1<|fE h)
def d3S(list:List m9)(prog:List n8):((List Int)×(List r9)×(List p8)×Int×Int×Int)->KS:=fun (regs,b5,b7,k,rVal,rCode)=>⟨a3R.k 5 [false],(j9 2 x7 list::(j9 4 A6 prog::(bs 2 (.ptr 1 0 0::(.ptr 2 0 0::(.own 3 0 1 0 regs.length::(vi k::(bs 60 [])))))))),[some [],some [.var 51 [.nil,.nil,vi 0,vi 0]],some [.var 51 [.own 4 0 2 0 b5.length,.own 5 0 2 0 b7.length,vi rVal,vi rCode]],some [m6 3 1 eI regs],some [m6 174 2 w8 b5],some [m6 177 2 w9 b7]]⟩
def f0t(list:List m9)(prog:List n8)(regs:List Int)(b5:List r9)(b7:List p8)(rVal:Int)(rCode:Int):Int->KS:=fun k1=>⟨a3R.k 10 [false,true,true,true],(j9 2 x7 list::(j9 4 A6 prog::(bs 2 (.ptr 1 0 0::(.ptr 2 0 0::(.own 5 0 1 0 regs.length::(vi k1::(bs 60 [])))))))),[some [],some [.var 51 [.nil,.nil,vi 0,vi 0]],some [.var 51 [.own 3 0 2 0 b5.length,.own 4 0 2 0 b7.length,vi rVal,vi rCode]],some [m6 174 2 w8 b5],some [m6 177 2 w9 b7],some [m6 3 1 eI regs]]⟩
def c5V(regs:List Int)(b5:List r9)(b7:List p8)(rVal:Int)(rCode:Int)(k1:Int):Option (j7 n7 ((List Int)×(List r9)×(List p8)×Int×Int×Int) ((List r9)×(List p8)×(List Int)×Int×Int)):=
 some (j7.nxt (regs,b5,b7,m7 (k1+1),rVal,rCode))
theorem f7g(list prog regs b5 b7 rVal rCode)(lc:D2 a3R c5f (d3S list prog)):NL lc (f0t list prog regs b5 b7 rVal rCode) (fun s=>c5V regs b5 b7 rVal rCode s):=fun k1 h=>PK<|rg<|(lc.nx h fun hI=>sk [] [0,1,4,5,6,7] [(1,0),(2,0),(5,0),(3,0),(4,0)] hI)
def a1V(list:List m9)(prog:List n8)(regs:List Int)(b5:List r9)(b7:List p8)(k:Int)(rVal:Int)(rCode:Int):Option (j7 n7 ((List Int)×(List r9)×(List p8)×Int×Int×Int) ((List r9)×(List p8)×(List Int)×Int×Int)):=
 (bif decide (k<(prog.length:Int)) then (bif (rCode==0) then ((idx prog k).bind fun ins=>(bif (ins.a9==6) then ((((idx regs ins.A).bind fun y1=>((idx regs ins.B).bind fun y2=>(bif decide (y1<y2) then some (l9.brk (m7 (k+ins.N))) else some (l9.brk k)))):Option (l9 (j7 n7 ((List Int)×(List r9)×(List p8)×Int×Int×Int) ((List r9)×(List p8)×(List Int)×Int×Int)) Int)).bind fun x=>x.go some fun j=>c5V regs b5 b7 rVal rCode j) else ((a9Z list (n7.mk b5 b7 rVal rCode) regs ins).bind fun a5m=>(t5 (regs.length=a5m.2.length) (some (j7.nxt (a5m.2,a5m.1.b5,a5m.1.b7,m7 (k+1),a5m.1.d9,a5m.1.Code))))))) else some (j7.brk (b5,b7,regs,rVal,rCode))) else some (j7.brk (b5,b7,regs,rVal,rCode)))
theorem e0S(list prog):LQ a3R c5f (d3S list prog) (fun s=>a1V list prog s.1 s.2.1 s.2.2.1 s.2.2.2.1 s.2.2.2.2.1 s.2.2.2.2.2):=fun lc (regs,b5,b7,k,rVal,rCode) h=>PK<|rg<|j5 4 h (fun h=>j5 8 h (fun h=>rg<|u0 A6 2 h fun ins hins h=>rg<|j5 2 h (fun h=>A3 h (f7g list prog regs b5 b7 rVal rCode lc) fun x2 h hc2=>rg<|B0 h fun y1 hy1 h=>C0 hy1<|I4 eI 4 hy1<|B0 h fun y2 hy2 h=>C0 hy2<|I4 eI 9 hy2<|j5 10 h (fun h=>rg<|(o9 h hc2 fun hI=>sk [] [0,1,4,5,6,7] [(1,0),(2,0),(4,0),(5,0),(3,0)] hI)) (fun h=>(o9 h hc2 fun hI=>sk [] [0,1,4,5,6,7] [(1,0),(2,0),(4,0),(5,0),(3,0)] hI))) (fun h=>rg<|l7 b1i f3X 4 h fun a5m h=>t9 h fun e2 h=>Y3 b5 b7 regs<|rg<|(lc.nx h fun hI=>om ((.own 3 0 1 0 regs.length:V)=.own 3 0 1 0 a5m.2.length) (by first|(simp;done)|(simp [e2];done))<|sk [.is (.tmp 6) (.own 3 0 1 0 a5m.2.length)] [0,1,4,5,6,7] [(1,0),(2,0),(3,0),(28,0),(28,1)] hI))) (fun h=>(lc.bk h fun hI=>sk [] [4,5,6] [(1,0),(2,0),(4,0),(5,0),(3,0)] hI))) (fun h=>(lc.bk h fun hI=>sk [] [4,5,6] [(1,0),(2,0),(4,0),(5,0),(3,0)] hI))
def b4T(list:List m9)(prog:List n8):Option n7:=
 ((b0Q list).bind fun R5=>(bif (!R5) then some (n7.mk [] [] 0 3) else ((b1f prog).bind fun E4=>(bif (!E4) then some (n7.mk [] [] 0 3) else (t5 (0<=(4:Int)/\(4:Int)*8<=140737488355328) (((o8 (fun s:(List Int)×(List r9)×(List p8)×Int×Int×Int=>a1V list prog s.1 s.2.1 s.2.2.1 s.2.2.2.1 s.2.2.2.2.1 s.2.2.2.2.2) (f8A (4:Int).toNat (0:Int),[],[],0,0,0)).bind fun x=>x.go (fun r=>some r) fun s=>a7B s.1 s.2.1 s.2.2.1 s.2.2.2.1 s.2.2.2.2)))))))
theorem c78{list prog}:OK a3R [j9 2 x7 list,j9 4 A6 prog] (b4T list prog):=
 o7 _ fun r h=>n9<|l7 a4F c3z 1 h fun R5 h=>j5 3 h (fun h=>rg<|fE h) (fun h=>l7 a4J c49 5 h fun E4 h=>j5 7 h (fun h=>rg<|fE h) (fun h=>n9<|t9 h fun e1 h=>T1 0 13 3 1 8 eI (0:Int) ti3 (.none) e1 (by decide) (by rfl)<|rg<|lp (e0S list prog) h (fun _ h=>a3R.rt h) (e2N r) fun hI=>sk [.own (.cell 11 0 0) 174 2,.own (.cell 11 0 1) 177 2] [0,1,4,5,6,7] [(1,0),(11,0),(13,0),(16,0),(17,0)] hI))
def c88:FS (j6×(List l8)×List n6):=⟨184,Tryz.f184,[.val A8 H2,.val [some 13] [],.val [some 5] []],[none,none],[.val A8 H2,.val [some 4] []],fun r=>.tup [.agg (H4 r.1),j9 13 t6 r.2.1,j9 5 z5 r.2.2],fun _=>[none,none],Tryz.func184⟩
def b8I(n:j6)(prog:List n8):Option (j6×(List l8)×List n6):=
 ((a5H n).bind fun D7=>(bif (!D7) then some ((j6.mk 0 (z0.mk 0 []) [] 0 0 0 [] [] (m4.mk false (n5.mk 0 0) (n7.mk [] [] 0 0)) [] false [] (m4.mk false (n5.mk 0 0) (n7.mk [] [] 0 0)) []),([]:List l8),([]:List n6)) else ((a6v n).bind fun l8Copy=>((b8s n).bind fun b3N=>((b4T b3N.g7 prog).bind fun B3=>(bif n.i9 then some (l8Copy,([]:List l8),([]:List n6)) else (bif (n.Seq==1000) then some (l8Copy,([]:List l8),([]:List n6)) else (bif (B3.Code==3) then some (l8Copy,([]:List l8),([]:List n6)) else (t5 ((([]:List n8).length+prog.length)*32<=140737488355328) ((bif (l8Copy.d6==2) then ((a6z (j6.mk l8Copy.Id l8Copy.Acc l8Copy.a6 (m7 (l8Copy.Seq+1)) l8Copy.d6 l8Copy.a8 l8Copy.c9 l8Copy.i4 l8Copy.c8 l8Copy.a7 true (([]:List n8)++prog) (m4.mk false (n5.mk l8Copy.Id (m7 (l8Copy.Seq+1))) B3) l8Copy.f0)).bind fun O1=>some (O1.1,O1.2,([]:List n6))) else (bif (l8Copy.d6==0) then ((a3z l8Copy.Id (l8.mk 7 0 0 0 0 (m4.mk false (n5.mk l8Copy.Id (m7 (l8Copy.Seq+1))) B3) [])).bind fun J9=>some ((j6.mk l8Copy.Id l8Copy.Acc l8Copy.a6 (m7 (l8Copy.Seq+1)) l8Copy.d6 l8Copy.a8 l8Copy.c9 l8Copy.i4 l8Copy.c8 l8Copy.a7 true (([]:List n8)++prog) (m4.mk false (n5.mk l8Copy.Id (m7 (l8Copy.Seq+1))) B3) l8Copy.f0),J9,([]:List n6))) else some ((j6.mk l8Copy.Id l8Copy.Acc l8Copy.a6 (m7 (l8Copy.Seq+1)) l8Copy.d6 l8Copy.a8 l8Copy.c9 l8Copy.i4 l8Copy.c8 l8Copy.a7 true (([]:List n8)++prog) (m4.mk false (n5.mk l8Copy.Id (m7 (l8Copy.Seq+1))) B3) l8Copy.f0),([]:List l8),([]:List n6))))))))))))))
set_option maxRecDepth 20000 in
theorem d9c{n prog}:OK c88 [.agg (H4 n),j9 4 A6 prog] (b8I n prog):=
 o7 _ fun r h=>n9<|R4 a2m b1k 1 1 h fun D7 h=>A4 n<|j5 2 h (fun h=>rg<|tk 1 C2<|tk 2 []<|A9 l8<|A9 n6<|fE h) (fun h=>rg<|l7 b0t b4x 1 h fun l8Copy h=>A4 n<|rg<|l7 d5r f5d 1 h fun b3N h=>A4 n<|l7 a3R c78 4 h fun B3 h=>rg<|j5 2 h (fun h=>rg<|tk 1 C2<|tk 2 []<|A4 l8Copy<|A9 l8<|A9 n6<|fE h) (fun h=>j5 7 h (fun h=>rg<|tk 1 C2<|tk 2 []<|A4 l8Copy<|A9 l8<|A9 n6<|fE h) (fun h=>j5 11 h (fun h=>rg<|tk 1 C2<|tk 2 []<|A4 l8Copy<|A9 l8<|A9 n6<|fE h) (fun h=>L8<|tk 0 []<|t9 h fun e1 h=>oa 40 0 4 ([]:List n8) prog<|oz 80 4 A6 ([]:List n8) prog<|A9 n8<|ob e1<|tl (2,{v:=some (.own 40 0 4 0 (([]:List n8)++prog).length),e:=some (m6 80 4 A6 (([]:List n8)++prog))})<|n9<|j5 2 h (fun h=>rg<|l7 b0X b2m 1 h fun O1 h=>s7 l8Copy.Acc.a7<|H9 l8Copy.a6 l8Copy.c9 l8Copy.a7 (([]:List n8)++prog)<|olR B3<|s7 l8Copy.f0<|rg<|tk 2 []<|A4 O1.1<|A9 n6<|fE h) (fun h=>rg<|j5 2 h (fun h=>rg<|l7 a0u a59 6 h fun J9 h=>olR B3<|tk 7 []<|s7 l8Copy.Acc.a7<|H9 l8Copy.a6 l8Copy.c9 l8Copy.a7 (([]:List n8)++prog)<|olR B3<|C9 l8Copy.f0 J9<|A9 n6<|fE h) (fun h=>rg<|tk 1 C2<|tk 2 []<|s7 l8Copy.Acc.a7<|H9 l8Copy.a6 l8Copy.c9 l8Copy.a7 (([]:List n8)++prog)<|olR B3<|s7 l8Copy.f0<|A9 l8<|A9 n6<|fE h))))))
def d5I:FS (m5):=⟨125,Tryz.f125,[.val C5 U3],[none,none,none],[.val C5 U3,.val [] [],.val [some 4] []],fun r=>.agg (V0 r),fun _=>[none,none,none],Tryz.func125⟩
def a12(node:j6):List V:=([vi node.Id,vi node.Acc.i0,.own 11 0 8 0 node.Acc.a7.length,.own 11 1 7 0 node.a6.length,vi node.Seq,vi node.d6,vi node.a8,.own 11 2 1 0 node.c9.length]++a6n node++[.own 11 3 1 0 node.a7.length]++a38 node++[.own 11 4 7 0 node.f0.length])
def c0x(J0:j6×(List l8)×List n6):List V:=(a6k J0.1)
def b95(w:m5)(i:Int)(prog:List n8):Option m5:=
 (bif decide ((w.d8.length:Int)>=60) then some w else ((idx w.a0 i).bind fun node=>((b8I node prog).bind fun J0=>(bif decide (J0.1.Seq>node.Seq) then (t5 ((([]:List n8).length+prog.length)*32<=140737488355328) ((t5 ((w.d8.length+1)*40<=140737488355328) (((a3E (m5.mk (w.a0.set i.toNat J0.1) w.d7 (w.d8++[(x8.mk J0.1.b8.a5 (([]:List n8)++prog))]) w.Told) J0.2.1).bind fun a3m=>((a3Y a3m J0.2.2).bind fun a25=>some a25)))))) else ((a3E (m5.mk (w.a0.set i.toNat J0.1) w.d7 w.d8 w.Told) J0.2.1).bind fun a3F=>((a3Y a3F J0.2.2).bind fun a8V=>some a8V))))))
set_option maxRecDepth 20000 in
theorem e9z{w i prog}:OK d5I [.agg (V0 w),vi i,j9 4 A6 prog] (b95 w i prog):=
 o7 _ fun r h=>n9<|j5 3 h (fun h=>rg<|B4 w<|fE h) (fun h=>rg<|B0 h fun node hnode h=>C0 hnode<|ob (b3l (enc:=z7) hnode)<|tl (4,{a:=.drow (z7 node)})<|l7 c88 d9c 6 h fun J0 h=>A4 node<|rg<|C0 hnode<|om (((w.a0.map z7).set (0+i.toNat) (a12 node))[0+i.toNat]?=some (a12 node)) (a15 (a2e hnode))<|tl (7,{a:=.prow (a12 node)})<|j5 8 h (fun h=>rg<|tk 5 []<|t9 h fun e1 h=>oa 38 0 4 ([]:List n8) prog<|oz 80 4 A6 ([]:List n8) prog<|A9 n8<|ob e1<|tl (7,{v:=some (.own 38 0 4 0 (([]:List n8)++prog).length),e:=some (m6 80 4 A6 (([]:List n8)++prog))})<|s7 (([]:List n8)++prog)<|tk 9 [none,none,some 4]<|t9 h fun e2 h=>F7 10 41 73 3 40 C1 w.d8 (x8.mk J0.1.b8.a5 (([]:List n8)++prog)) e2<|E5 (x8.mk J0.1.b8.a5 (([]:List n8)++prog))<|rg<|C0 hnode<|om (s9.deep false 55 27 w.a0.length (((w.a0.map z7).set (0+i.toNat) (a12 node)).set (0+i.toNat) (c0x J0))=C7 55 27 z7 (w.a0.set i.toNat J0.1)) (a9h (X0 (a0N rfl)) (by simp))<|om (I2 (((w.a0.map z7).set (0+i.toNat) (a12 node)).set (0+i.toNat) (c0x J0))) (a8G (X0 (a0N rfl)) a6q)<|om (((w.a0.map z7).set (0+i.toNat) (a12 node))[0+i.toNat]?=some (a12 node)) (a15 (a2e hnode))<|A4 J0.1<|tl (5,{a:=.dsc (a12 node) [none,none,some 8,some 7,none,none,none,some 1,some 8,none,none,none,some 2,some 2,none,none,some 1,none,some 4,none,none,none,some 2,some 2,none,none,some 7] [none,none,some 89,some 53,none,none,none,some 4,none,none,none,none,none,none,none,none,some 4,none,none,none,none,none,none,none,none,none,some 53],e:=some (C7 55 27 z7 (w.a0.set i.toNat J0.1))})<|rg<|l7 a1a a6Q 2 h fun a3m h=>om (w.a0.length=(w.a0.set i.toNat J0.1).length) (by simp)<|Y3 w.d7 (w.d8++[(x8.mk J0.1.b8.a5 (([]:List n8)++prog))]) w.Told<|l7 a2b a8i 4 h fun a25 h=>B4 a3m<|B4 a25<|fE h) (fun h=>rg<|C0 hnode<|om (s9.deep false 55 27 w.a0.length (((w.a0.map z7).set (0+i.toNat) (a12 node)).set (0+i.toNat) (c0x J0))=C7 55 27 z7 (w.a0.set i.toNat J0.1)) (a9h (X0 (a0N rfl)) (by simp))<|om (I2 (((w.a0.map z7).set (0+i.toNat) (a12 node)).set (0+i.toNat) (c0x J0))) (a8G (X0 (a0N rfl)) a6q)<|om (((w.a0.map z7).set (0+i.toNat) (a12 node))[0+i.toNat]?=some (a12 node)) (a15 (a2e hnode))<|A4 J0.1<|tl (5,{a:=.dsc (a12 node) [none,none,some 8,some 7,none,none,none,some 1,some 8,none,none,none,some 2,some 2,none,none,some 1,none,some 4,none,none,none,some 2,some 2,none,none,some 7] [none,none,some 89,some 53,none,none,none,some 4,none,none,none,none,none,none,none,none,some 4,none,none,none,none,none,none,none,none,none,some 53],e:=some (C7 55 27 z7 (w.a0.set i.toNat J0.1))})<|rg<|l7 a1a a6Q 2 h fun a3F h=>om (w.a0.length=(w.a0.set i.toNat J0.1).length) (by simp)<|Y3 w.d7 w.d8 w.Told<|l7 a2b a8i 4 h fun a8V h=>B4 a3F<|B4 a8V<|fE h))
def a7H:FS (Int):=⟨185,Tryz.f185,[.val [] []],[none,none],[.val [] [],.val [] []],fun r=>vi r,fun _=>[none,none],Tryz.func185⟩
def d4T:Unit->KS:=fun _=>⟨a7H.k 4 [false,false],(bs 37 []),[some []]⟩
def d4A:Option Int:=
 some (-1)
theorem d9g(r):NF a7H r d4T (fun s=>d4A):=fun _ h=>PK<|rg<|fE h
def f3r(bal:Int)(who:Int):Int->KS:=fun b=>⟨a7H.k 3 [false],(vi bal::(vi who::(bs 3 (vi b::(bs 31 []))))),[some []]⟩
def a3Z(bal:Int)(who:Int)(b:Int):Option (j7 Int Int Unit):=
 (bif decide (b<=(m7 (bal+3))) then (bif decide (b<=3000) then (bif ((f9c b 3)==who) then some (j7.ret b) else some (j7.nxt (m7 (b+1)))) else some (j7.brk ())) else some (j7.brk ()))
theorem f1T(bal who):LQ a7H d4T (f3r bal who) (fun s=>a3Z bal who s):=fun lc b h=>PK<|rg<|j5 4 h (fun h=>j5 7 h (fun h=>rg<|om (3≠(0:Int)) (by decide)<|j5 3 h (fun h=>rg<|fL lc h) (fun h=>rg<|(lc.nx h fun hI=>sk [] [0,1,5] [] hI))) (fun h=>(lc.bk h fun hI=>sk [] [] [] hI))) (fun h=>(lc.bk h fun hI=>sk [] [] [] hI))
def b8N(bal:Int)(who:Int):Option Int:=
 (bif decide (bal<0) then some (-1) else (bif decide (bal>3000) then some (-1) else (bif decide (who<0) then some (-1) else (bif decide (who>=3) then some (-1) else ((o8 (fun s:Int=>a3Z bal who s) (m7 (bal+1))).bind fun x=>x.go (fun r=>some r) fun s=>d4A)))))
theorem d8Z{bal who}:OK a7H [vi bal,vi who] (b8N bal who):=
 o7 _ fun r h=>n9<|j5 2 h (fun h=>rg<|fE h) (fun h=>j5 6 h (fun h=>rg<|fE h) (fun h=>j5 10 h (fun h=>rg<|fE h) (fun h=>j5 13 h (fun h=>rg<|fE h) (fun h=>rg<|lp (f1T bal who) h (fun _ h=>a7H.rt h) (d9g r) fun hI=>sk [] [0,1,5] [] hI))))
def a7Y:FS ((List m8)×List m8):=⟨188,Tryz.f188,[.val [some 8] [some 89]],[some (0,.row)],[.row],fun r=>v6 89 8 q8 r.1,fun r=>[some (v6 89 8 q8 r.2)],Tryz.func188⟩
def d4q(list:List m8):(List m8)->KS:=fun out1=>⟨a7Y.k 4 [false],(bs 3 (.own 1 0 8 0 out1.length::(bs 24 []))),[some [m6 89 8 q8 list],some [m6 89 8 q8 out1]]⟩
def d06(list:List m8)(out1:List m8):Option ((List m8)×List m8):=
 some (out1,list)
theorem f6q(list)(r):NF a7Y r (d4q list) (fun s=>d06 list s):=fun out1 h=>PK<|rg<|C9 out1 list<|fE h
def f5M(list:List m8):((List m8)×Int)->KS:=fun (out,i)=>⟨a7Y.k 3 [],(.own 0 0 8 0 list.length::(bs 2 (.own 1 0 8 0 out.length::(vi i::(bs 23 []))))),[some [m6 89 8 q8 list],some [m6 89 8 q8 out]]⟩
def b5c(list:List m8)(out:List m8)(i:Int):Option (j7 ((List m8)×List m8) ((List m8)×Int) (List m8)):=
 (bif decide (i<(list.length:Int)) then ((idx list i).bind fun vote=>((X7 vote.g9).bind fun l5Entry=>(t5 ((out.length+1)*96<=140737488355328) (some (j7.nxt (out++[(m8.mk vote.a8 l5Entry)],m7 (i+1))))))) else some (j7.brk out))
theorem f2L(list):LQ a7Y (d4q list) (f5M list) (fun s=>b5c list s.1 s.2):=fun lc (out,i) h=>PK<|rg<|j5 3 h (fun h=>rg<|B0 h fun vote K1 h=>C0 K1<|I4 q8 5 K1<|C0 K1<|I4 q8 10 K1<|l7 a0z a01 11 h fun l5Entry h=>tk 13 U9<|t9 h fun e1 h=>F7 14 20 89 8 96 q8 out (m8.mk vote.a8 l5Entry) e1<|E5 (m8.mk vote.a8 l5Entry)<|rg<|(lc.nx h fun hI=>sk [] [0,3,4] [(20,0)] hI)) (fun h=>(lc.bk h fun hI=>sk [] [3] [(1,0)] hI))
def b9T(list:List m8):Option ((List m8)×List m8):=
 ((o8 (fun s:(List m8)×Int=>b5c list s.1 s.2) (([]:List m8),0)).bind fun x=>x.go (fun r=>some r) fun s=>d06 list s)
theorem f1b{list}:OK a7Y [v6 89 8 q8 list] (b9T list):=
 o7 _ fun r h=>n9<|tk 0 U9<|rg<|lp (f2L list) h (fun _ h=>a7Y.rt h) (f6q list r) fun hI=>om ((.own 2 0 8 0 0:V)=.own 2 0 8 0 ([]:List m8).length) (by simp)<|sk [.is (.tmp 3) (.own 2 0 8 0 ([]:List m8).length)] [0,3,4] [(2,0)] hI
def c9b:FS (j6×List l8):=⟨126,Tryz.f126,[.val A8 H2,.val [some 13] []],[none],[.val A8 H2],fun r=>.tup [.agg (H4 r.1),j9 13 t6 r.2],fun _=>[none],Tryz.func126⟩
def c00(n:j6):Option (j6×List l8):=
 ((a5H n).bind fun D7=>(bif (!D7) then some ((j6.mk 0 (z0.mk 0 []) [] 0 0 0 [] [] (m4.mk false (n5.mk 0 0) (n7.mk [] [] 0 0)) [] false [] (m4.mk false (n5.mk 0 0) (n7.mk [] [] 0 0)) []),([]:List l8)) else ((a6v n).bind fun l8Copy=>((b8N l8Copy.Acc.i0 l8Copy.Id).bind fun a29=>(bif decide (a29<0) then some (l8Copy,([]:List l8)) else ((b5e l8Copy).bind fun N4=>((a7N N4.Acc a29).bind fun l6Promise=>(t5 (0<=(3:Int)/\(3:Int)*1<=140737488355328) (((idx (f8A (3:Int).toNat false) N4.Id).bind fun y=>((b9T l6Promise.1.a7).bind fun o=>(t5 (l6Promise.1.a7.length=o.2.length) (((a3z N4.Id (l8.mk 1 0 0 a29 (N4.a6.length:Int) (m4.mk false (n5.mk 0 0) (n7.mk [] [] 0 0)) [])).bind fun J9=>some ((j6.mk N4.Id (z0.mk l6Promise.1.i0 o.2) N4.a6 N4.Seq 1 a29 ((f8A (3:Int).toNat false).set N4.Id.toNat true) o.1 N4.c8 N4.a7 N4.i9 N4.i6 N4.b8 N4.f0),J9)))))))))))))))
theorem f0k{n}:OK c9b [.agg (H4 n)] (c00 n):=
 o7 _ fun r h=>n9<|R4 a2m b1k 1 1 h fun D7 h=>A4 n<|j5 2 h (fun h=>rg<|tk 1 C2<|A9 l8<|fE h) (fun h=>rg<|l7 b0t b4x 1 h fun l8Copy h=>A4 n<|rg<|l7 a7H d8Z 5 h fun a29 h=>rg<|j5 1 h (fun h=>rg<|tk 1 C2<|A4 l8Copy<|A9 l8<|fE h) (fun h=>rg<|l7 b5N c1M 1 h fun N4 h=>A4 l8Copy<|rg<|l7 b4m b7q 3 h fun l6Promise h=>s7 N4.Acc.a7<|L8<|t9 h fun e1 h=>T1 0 37 4 1 1 eB false ti4 (.none) e1 (by decide) (by rfl)<|rg<|B0 h fun y hy h=>C0 hy<|Q6 4 1 eB 5 [] true hy<|rg<|l7 a7Y f1b 3 h fun o h=>t9 h fun e2 h=>s7 l6Promise.1.a7<|rg<|l7 a0u a59 8 h fun J9 h=>om (l6Promise.1.a7.length=o.2.length) (by first|(simp;done)|(simp [e2];done))<|s7 N4.a6<|om ((f8A (3:Int).toNat false).length=((f8A (3:Int).toNat false).set N4.Id.toNat true).length) (by first|(simp;done)|(simp [e2];done))<|H9 o.1 N4.a7 N4.f0 J9<|fE h))
def b9l:FS (j6×(List l8)×List n6):=⟨127,Tryz.f127,[.val A8 H2,.val [some 13] [],.val [some 5] []],[none],[.val A8 H2],fun r=>.tup [.agg (H4 r.1),j9 13 t6 r.2.1,j9 5 z5 r.2.2],fun _=>[none],Tryz.func127⟩
def e5x(n:j6)(l8Copy:j6):(List l8)->KS:=fun out=>⟨b9l.k 7 [false,true],(bs 2 (.ptr 1 0 0::(bs 2 (.ptr 2 0 0::(.own 8 0 13 0 out.length::(bs 72 [])))))),[some [b4N 8 q8 n.Acc.a7,b4N 7 s5 n.a6,b4N 1 eB n.c9,b4N 1 eB n.a7,b4N 7 s5 n.f0],some [.var 55 [vi 0,vi 0,.nil,.nil,vi 0,vi 0,vi 0,.nil,.nil,.b false,vi 0,vi 0,.nil,.nil,vi 0,vi 0,.nil,.b false,.nil,.b false,vi 0,vi 0,.nil,.nil,vi 0,vi 0,.nil]],some [.var 55 (f6j l8Copy)]]++e1j l8Copy++[some [m6 83 13 t6 out]]⟩
def d8s(l8Copy:j6)(out:List l8):Option (j6×(List l8)×List n6):=
 some (l8Copy,out,([]:List n6))
theorem f6c(n l8Copy)(r):NF b9l r (e5x n l8Copy) (fun s=>d8s l8Copy s):=fun out h=>PK<|rg<|tk 2 []<|A4 l8Copy<|s7 out<|A9 n6<|fE h
def b8J(n:j6):Option (j6×(List l8)×List n6):=
 ((a5H n).bind fun D7=>(bif (!D7) then some ((j6.mk 0 (z0.mk 0 []) [] 0 0 0 [] [] (m4.mk false (n5.mk 0 0) (n7.mk [] [] 0 0)) [] false [] (m4.mk false (n5.mk 0 0) (n7.mk [] [] 0 0)) []),([]:List l8),([]:List n6)) else ((a6v n).bind fun l8Copy=>((a3z l8Copy.Id (l8.mk 8 0 0 0 (l8Copy.a6.length:Int) (m4.mk false (n5.mk 0 0) (n7.mk [] [] 0 0)) [])).bind fun J9=>(((bif (l8Copy.d6==1) then ((a3z l8Copy.Id (l8.mk 1 0 0 l8Copy.a8 (l8Copy.a6.length:Int) (m4.mk false (n5.mk 0 0) (n7.mk [] [] 0 0)) [])).bind fun b46=>(t5 ((J9.length+b46.length)*152<=140737488355328) (some (l9.brk (J9++b46))))) else (bif (l8Copy.d6==2) then ((a6z l8Copy).bind fun O1=>(t5 ((J9.length+O1.2.length)*152<=140737488355328) (some (l9.ret (O1.1,J9++O1.2,([]:List n6)))))) else (bif (l8Copy.d6==3) then ((a3z l8Copy.Id (l8.mk 3 0 0 l8Copy.a8 (l8Copy.a6.length:Int) l8Copy.c8 [])).bind fun b3a=>(t5 ((J9.length+b3a.length)*152<=140737488355328) (some (l9.brk (J9++b3a))))) else (bif l8Copy.i9 then ((a3z l8Copy.Id (l8.mk 7 0 0 0 0 l8Copy.b8 [])).bind fun b4a=>(t5 ((J9.length+b4a.length)*152<=140737488355328) (some (l9.brk (J9++b4a))))) else some (l9.brk J9))))):Option (l9 (j6×(List l8)×List n6) (List l8))).bind fun x=>x.go some fun j=>d8s l8Copy j)))))
theorem d8U{n}:OK b9l [.agg (H4 n)] (b8J n):=
 o7 _ fun r h=>n9<|R4 a2m b1k 1 1 h fun D7 h=>A4 n<|j5 2 h (fun h=>rg<|tk 1 C2<|tk 2 []<|A9 l8<|A9 n6<|fE h) (fun h=>rg<|l7 b0t b4x 1 h fun l8Copy h=>A4 n<|rg<|l7 a0u a59 6 h fun J9 h=>rg<|A3 h (f6c n l8Copy r) fun x1 h hc1=>rg<|j5 1 h (fun h=>rg<|l7 a0u a59 9 h fun b46 h=>t9 h fun e1 h=>apL 10 34 83 13 152 t6 J9 b46 e1<|s7 b46<|(o9 h hc1 fun hI=>sk [] [2,5,6] [(2,0),(10,0),(9,0),(9,1),(9,2),(9,3),(9,4),(34,0)] hI)) (fun h=>rg<|j5 1 h (fun h=>rg<|l7 b0X b2m 1 h fun O1 h=>A4 l8Copy<|rg<|t9 h fun e2 h=>apL 3 37 83 13 152 t6 J9 O1.2 e2<|tk 4 []<|(B2 h hc1 fun h=>A4 O1.1<|s7 (J9++O1.2)<|A9 n6<|fE h)) (fun h=>rg<|j5 1 h (fun h=>rg<|l7 a0u a59 11 h fun b3a h=>t9 h fun e3 h=>apL 12 40 83 13 152 t6 J9 b3a e3<|s7 b3a<|(o9 h hc1 fun hI=>sk [] [2,5,6] [(2,0),(10,0),(9,0),(9,1),(9,2),(9,3),(9,4),(40,0)] hI)) (fun h=>rg<|j5 1 h (fun h=>rg<|l7 a0u a59 6 h fun b4a h=>t9 h fun e4 h=>apL 7 37 83 13 152 t6 J9 b4a e4<|s7 b4a<|(o9 h hc1 fun hI=>sk [] [2,5,6] [(2,0),(10,0),(9,0),(9,1),(9,2),(9,3),(9,4),(37,0)] hI)) (fun h=>(o9 h hc1 fun hI=>sk [] [2,5,6] [(2,0),(10,0),(9,0),(9,1),(9,2),(9,3),(9,4),(18,0)] hI))))))
def d1K:FS (j6):=⟨128,Tryz.f128,[.val A8 H2],[none],[.val A8 H2],fun r=>.agg (H4 r),fun _=>[none],Tryz.func128⟩
def b65(n:j6):Option j6:=
 ((a5H n).bind fun D7=>(bif (!D7) then some (j6.mk 0 (z0.mk 0 []) [] 0 0 0 [] [] (m4.mk false (n5.mk 0 0) (n7.mk [] [] 0 0)) [] false [] (m4.mk false (n5.mk 0 0) (n7.mk [] [] 0 0)) []) else ((a6v n).bind fun l8Copy=>some (j6.mk l8Copy.Id l8Copy.Acc l8Copy.a6 l8Copy.Seq 0 0 [] [] (m4.mk false (n5.mk 0 0) (n7.mk [] [] 0 0)) [] false [] (m4.mk false (n5.mk 0 0) (n7.mk [] [] 0 0)) []))))
theorem e5q{n}:OK d1K [.agg (H4 n)] (b65 n):=
 o7 _ fun r h=>n9<|R4 a2m b1k 1 1 h fun D7 h=>A4 n<|j5 2 h (fun h=>rg<|fE h) (fun h=>rg<|l7 b0t b4x 1 h fun l8Copy h=>A4 n<|rg<|C9 l8Copy.Acc.a7 l8Copy.a6<|fE h)
def b1Z:FS (m5):=⟨75,Tryz.f75,[.val C5 U3],[none,none],[.val C5 U3,.val [none,none,some 4] []],fun r=>.agg (V0 r),fun _=>[none,none],Tryz.func75⟩
def e0H(w:m5)(e_:s6)(node:j6):Unit->KS:=fun _=>⟨b1Z.k 8 [false,false,true],(bs 2 (.ptr 1 0 0::(.ptr 2 0 0::(.ptr 3 0 0::(bs 76 []))))),[some [C7 55 27 z7 (w.a0.set e_.A.toNat node),m6 83 13 t6 w.d7,m6 73 3 C1 w.d8,m6 76 5 z5 w.Told],some [.var 30 [.own 0 0 27 0 (w.a0.set e_.A.toNat node).length,.own 0 1 13 0 w.d7.length,.own 0 2 3 0 w.d8.length,.own 0 3 5 0 w.Told.length]],some [.var 35 [vi e_.a9,vi e_.A,j9 4 A6 e_.i6]],some [.var 30 [.nil,.nil,.nil,.nil]]]⟩
def c6I(w:m5)(e_:s6)(node:j6):Option m5:=
 ((b95 (m5.mk (w.a0.set e_.A.toNat node) w.d7 w.d8 w.Told) e_.A e_.i6).bind fun c4X=>some c4X)
theorem e3G(w e_ node)(r):NF b1Z r (e0H w e_ node) (fun s=>c6I w e_ node):=fun _ h=>PK<|rg<|l7 d5I e9z 5 h fun c4X h=>H9 (w.a0.set e_.A.toNat node) w.d7 w.d8 w.Told<|B4 c4X<|fE h
def N5(node:j6):List V:=([vi node.Id,vi node.Acc.i0,.own 30 0 8 0 node.Acc.a7.length,.own 30 1 7 0 node.a6.length,vi node.Seq,vi node.d6,vi node.a8,.own 30 2 1 0 node.c9.length]++a6n node++[.own 30 3 1 0 node.a7.length]++a38 node++[.own 30 4 7 0 node.f0.length])
def a7Z(node:j6):List V:=([vi node.Id,vi node.Acc.i0,v6 89 8 q8 node.Acc.a7,.own 30 1 7 0 node.a6.length,vi node.Seq,vi node.d6,vi node.a8,.own 30 2 1 0 node.c9.length]++a6n node++[.own 30 3 1 0 node.a7.length]++a38 node++[.own 30 4 7 0 node.f0.length])
def a9Y(node:j6):List V:=([vi node.Id,vi node.Acc.i0,v6 89 8 q8 node.Acc.a7,v6 53 7 s5 node.a6,vi node.Seq,vi node.d6,vi node.a8,.own 30 2 1 0 node.c9.length]++a6n node++[.own 30 3 1 0 node.a7.length]++a38 node++[.own 30 4 7 0 node.f0.length])
def b34(node:j6):List V:=([vi node.Id,vi node.Acc.i0,v6 89 8 q8 node.Acc.a7,v6 53 7 s5 node.a6,vi node.Seq,vi node.d6,vi node.a8,v6 4 1 eB node.c9,j9 8 q8 node.i4,.b node.c8.i7,vi node.c8.a5.b9,vi node.c8.a5.Seq,j9 2 w8 node.c8.b6.b5,j9 2 w9 node.c8.b6.b7,vi node.c8.b6.d9,vi node.c8.b6.Code,.own 30 3 1 0 node.a7.length]++a38 node++[.own 30 4 7 0 node.f0.length])
def b7S(node:j6):List V:=[vi node.Id,vi node.Acc.i0,v6 89 8 q8 node.Acc.a7,v6 53 7 s5 node.a6,vi node.Seq,vi node.d6,vi node.a8,v6 4 1 eB node.c9,j9 8 q8 node.i4,.b node.c8.i7,vi node.c8.a5.b9,vi node.c8.a5.Seq,j9 2 w8 node.c8.b6.b5,j9 2 w9 node.c8.b6.b7,vi node.c8.b6.d9,vi node.c8.b6.Code,v6 4 1 eB node.a7,.b node.i9,j9 4 A6 node.i6,.b node.b8.i7,vi node.b8.a5.b9,vi node.b8.a5.Seq,j9 2 w8 node.b8.b6.b5,j9 2 w9 node.b8.b6.b7,vi node.b8.b6.d9,vi node.b8.b6.Code,.own 30 4 7 0 node.f0.length]
def c6H(node:j6):List V:=(a6k node)
def d5y(a0L:j6×List l8):List V:=(a6k a0L.1)
def d5M(Z5:j6×(List l8)×List n6):List V:=(a6k Z5.1)
def c89(a16:j6):List V:=(a6k a16)
def b3n(w:m5)(e_:s6):Option m5:=
 (bif (e_.a9==2) then ((a9K w e_).bind fun c6Z=>some c6Z) else (bif (e_.a9==3) then ((a9K w e_).bind fun c1A=>some c1A) else (bif (e_.a9==4) then ((a9K w e_).bind fun c2C=>some c2C) else (bif decide (e_.A<0) then some w else (bif decide (e_.A>=3) then some w else ((idx w.a0 e_.A).bind fun node=>(bif (e_.a9==1) then c6I w e_ node else (bif (e_.a9==5) then ((c00 node).bind fun a0L=>((a3E (m5.mk (w.a0.set e_.A.toNat a0L.1) w.d7 w.d8 w.Told) a0L.2).bind fun a3m=>((a3Y a3m ([]:List n6)).bind fun a25=>some a25))) else (bif (e_.a9==6) then ((b8J node).bind fun Z5=>((a3E (m5.mk (w.a0.set e_.A.toNat Z5.1) w.d7 w.d8 w.Told) Z5.2.1).bind fun a3F=>((a3Y a3F Z5.2.2).bind fun a8V=>some a8V))) else (bif (e_.a9==7) then ((b65 node).bind fun a16=>((a3E (m5.mk (w.a0.set e_.A.toNat a16) w.d7 w.d8 w.Told) ([]:List l8)).bind fun c4r=>((a3Y c4r ([]:List n6)).bind fun c3m=>some c3m))) else ((a3E (m5.mk (w.a0.set e_.A.toNat node) w.d7 w.d8 w.Told) ([]:List l8)).bind fun c1o=>((a3Y c1o ([]:List n6)).bind fun c6P=>some c6P))))))))))))
set_option maxRecDepth 20000 in
theorem d6g{w e_}:OK b1Z [.agg (V0 w),.agg (J5 e_)] (b3n w e_):=
 o7 _ fun r h=>n9<|j5 3 h (fun h=>rg<|l7 b9z c3n 2 h fun c6Z h=>B4 w<|B4 c6Z<|fE h) (fun h=>j5 8 h (fun h=>rg<|l7 b9z c3n 2 h fun c1A h=>B4 w<|B4 c1A<|fE h) (fun h=>j5 12 h (fun h=>rg<|l7 b9z c3n 2 h fun c2C h=>B4 w<|B4 c2C<|fE h) (fun h=>rg<|j5 3 h (fun h=>rg<|B4 w<|fE h) (fun h=>j5 7 h (fun h=>rg<|B4 w<|fE h) (fun h=>rg<|B0 h fun node hnode h=>C0 hnode<|ob (b3l (enc:=z7) hnode)<|tl (5,{a:=.drow (z7 node)})<|rg<|tk 0 C2<|rg<|tk 0 []<|n9<|j5 1 h (fun h=>om (((w.a0.map z7).set (0+e_.A.toNat) (N5 node))[0+e_.A.toNat]?=some (N5 node)) (a15 (a2e hnode))<|s7 node.Acc.a7<|om ((((w.a0.map z7).set (0+e_.A.toNat) (N5 node)).set (0+e_.A.toNat) (a7Z node))[0+e_.A.toNat]?=some (a7Z node)) (a15 (a3T (a2e hnode)))<|s7 node.a6<|om (((((w.a0.map z7).set (0+e_.A.toNat) (N5 node)).set (0+e_.A.toNat) (a7Z node)).set (0+e_.A.toNat) (a9Y node))[0+e_.A.toNat]?=some (a9Y node)) (a15 (a3T (a3T (a2e hnode))))<|s7 node.c9<|om ((((((w.a0.map z7).set (0+e_.A.toNat) (N5 node)).set (0+e_.A.toNat) (a7Z node)).set (0+e_.A.toNat) (a9Y node)).set (0+e_.A.toNat) (b34 node))[0+e_.A.toNat]?=some (b34 node)) (a15 (a3T (a3T (a3T (a2e hnode)))))<|s7 node.a7<|om (((((((w.a0.map z7).set (0+e_.A.toNat) (N5 node)).set (0+e_.A.toNat) (a7Z node)).set (0+e_.A.toNat) (a9Y node)).set (0+e_.A.toNat) (b34 node)).set (0+e_.A.toNat) (b7S node))[0+e_.A.toNat]?=some (b7S node)) (a15 (a3T (a3T (a3T (a3T (a2e hnode))))))<|s7 node.f0<|om (((((((w.a0.map z7).set (0+e_.A.toNat) (N5 node)).set (0+e_.A.toNat) (a7Z node)).set (0+e_.A.toNat) (a9Y node)).set (0+e_.A.toNat) (b34 node)).set (0+e_.A.toNat) (b7S node)).set (0+e_.A.toNat) (c6H node)=(w.a0.set e_.A.toNat node).map z7) (X0 (X0 (X0 (X0 (X0 (a0N rfl))))))<|om (I2 ((w.a0.set e_.A.toNat node).map z7)) (I2.map a6q _)<|om (w.a0.length=(w.a0.set e_.A.toNat node).length) (by simp)<|om ((.own 0 0 27 0 w.a0.length:V)=.own 0 0 27 0 (w.a0.set e_.A.toNat node).length) (by simp)<|sk [.plug 0 0 (0+e_.A.toNat) 2 (N5 node) 89,.plug 0 0 (0+e_.A.toNat) 3 (a7Z node) 53,.plug 0 0 (0+e_.A.toNat) 7 (a9Y node) 4,.plug 0 0 (0+e_.A.toNat) 16 (b34 node) 4,.plug 0 0 (0+e_.A.toNat) 26 (b7S node) 53,.shut 0 0 (w.a0.set e_.A.toNat node).length ((w.a0.set e_.A.toNat node).map z7),.is (.cell 1 0 0) (.own 0 0 27 0 (w.a0.set e_.A.toNat node).length)] [2,3,4] [(1,0),(2,0),(3,0)] (e3G w e_ node r () h)) (fun h=>rg<|j5 1 h (fun h=>rg<|l7 c9b f0k 1 h fun a0L h=>A4 node<|rg<|C0 hnode<|om (s9.deep false 55 27 w.a0.length (((w.a0.map z7).set (0+e_.A.toNat) (N5 node)).set (0+e_.A.toNat) (d5y a0L))=C7 55 27 z7 (w.a0.set e_.A.toNat a0L.1)) (a9h (X0 (a0N rfl)) (by simp))<|om (I2 (((w.a0.map z7).set (0+e_.A.toNat) (N5 node)).set (0+e_.A.toNat) (d5y a0L))) (a8G (X0 (a0N rfl)) a6q)<|om (((w.a0.map z7).set (0+e_.A.toNat) (N5 node))[0+e_.A.toNat]?=some (N5 node)) (a15 (a2e hnode))<|A4 a0L.1<|tl (6,{a:=.dsc (N5 node) [none,none,some 8,some 7,none,none,none,some 1,some 8,none,none,none,some 2,some 2,none,none,some 1,none,some 4,none,none,none,some 2,some 2,none,none,some 7] [none,none,some 89,some 53,none,none,none,some 4,none,none,none,none,none,none,none,none,some 4,none,none,none,none,none,none,none,none,none,some 53],e:=some (C7 55 27 z7 (w.a0.set e_.A.toNat a0L.1))})<|rg<|l7 a1a a6Q 2 h fun a3m h=>om (w.a0.length=(w.a0.set e_.A.toNat a0L.1).length) (by simp)<|Y3 w.d7 w.d8 w.Told<|l7 a2b a8i 4 h fun a25 h=>B4 a3m<|A9 n6<|B4 a25<|fE h) (fun h=>rg<|j5 1 h (fun h=>rg<|l7 b9l d8U 1 h fun Z5 h=>A4 node<|rg<|C0 hnode<|om (s9.deep false 55 27 w.a0.length (((w.a0.map z7).set (0+e_.A.toNat) (N5 node)).set (0+e_.A.toNat) (d5M Z5))=C7 55 27 z7 (w.a0.set e_.A.toNat Z5.1)) (a9h (X0 (a0N rfl)) (by simp))<|om (I2 (((w.a0.map z7).set (0+e_.A.toNat) (N5 node)).set (0+e_.A.toNat) (d5M Z5))) (a8G (X0 (a0N rfl)) a6q)<|om (((w.a0.map z7).set (0+e_.A.toNat) (N5 node))[0+e_.A.toNat]?=some (N5 node)) (a15 (a2e hnode))<|A4 Z5.1<|tl (6,{a:=.dsc (N5 node) [none,none,some 8,some 7,none,none,none,some 1,some 8,none,none,none,some 2,some 2,none,none,some 1,none,some 4,none,none,none,some 2,some 2,none,none,some 7] [none,none,some 89,some 53,none,none,none,some 4,none,none,none,none,none,none,none,none,some 4,none,none,none,none,none,none,none,none,none,some 53],e:=some (C7 55 27 z7 (w.a0.set e_.A.toNat Z5.1))})<|rg<|l7 a1a a6Q 2 h fun a3F h=>om (w.a0.length=(w.a0.set e_.A.toNat Z5.1).length) (by simp)<|Y3 w.d7 w.d8 w.Told<|l7 a2b a8i 4 h fun a8V h=>B4 a3F<|B4 a8V<|fE h) (fun h=>rg<|j5 1 h (fun h=>rg<|l7 d1K e5q 1 h fun a16 h=>A4 node<|rg<|C0 hnode<|om (s9.deep false 55 27 w.a0.length (((w.a0.map z7).set (0+e_.A.toNat) (N5 node)).set (0+e_.A.toNat) (c89 a16))=C7 55 27 z7 (w.a0.set e_.A.toNat a16)) (a9h (X0 (a0N rfl)) (by simp))<|om (I2 (((w.a0.map z7).set (0+e_.A.toNat) (N5 node)).set (0+e_.A.toNat) (c89 a16))) (a8G (X0 (a0N rfl)) a6q)<|om (((w.a0.map z7).set (0+e_.A.toNat) (N5 node))[0+e_.A.toNat]?=some (N5 node)) (a15 (a2e hnode))<|A4 a16<|tl (6,{a:=.dsc (N5 node) [none,none,some 8,some 7,none,none,none,some 1,some 8,none,none,none,some 2,some 2,none,none,some 1,none,some 4,none,none,none,some 2,some 2,none,none,some 7] [none,none,some 89,some 53,none,none,none,some 4,none,none,none,none,none,none,none,none,some 4,none,none,none,none,none,none,none,none,none,some 53],e:=some (C7 55 27 z7 (w.a0.set e_.A.toNat a16))})<|rg<|l7 a1a a6Q 2 h fun c4r h=>om (w.a0.length=(w.a0.set e_.A.toNat a16).length) (by simp)<|Y3 w.d7 w.d8 w.Told<|A9 l8<|l7 a2b a8i 4 h fun c3m h=>B4 c4r<|A9 n6<|B4 c3m<|fE h) (fun h=>rg<|C0 hnode<|om (s9.deep false 55 27 w.a0.length (((w.a0.map z7).set (0+e_.A.toNat) (N5 node)).set (0+e_.A.toNat) (c6H node))=C7 55 27 z7 (w.a0.set e_.A.toNat node)) (a9h (X0 (a0N rfl)) (by simp))<|om (I2 (((w.a0.map z7).set (0+e_.A.toNat) (N5 node)).set (0+e_.A.toNat) (c6H node))) (a8G (X0 (a0N rfl)) a6q)<|om (((w.a0.map z7).set (0+e_.A.toNat) (N5 node))[0+e_.A.toNat]?=some (N5 node)) (a15 (a2e hnode))<|A4 node<|tl (6,{a:=.dsc (N5 node) [none,none,some 8,some 7,none,none,none,some 1,some 8,none,none,none,some 2,some 2,none,none,some 1,none,some 4,none,none,none,some 2,some 2,none,none,some 7] [none,none,some 89,some 53,none,none,none,some 4,none,none,none,none,none,none,none,none,some 4,none,none,none,none,none,none,none,none,none,some 53],e:=some (C7 55 27 z7 (w.a0.set e_.A.toNat node))})<|rg<|l7 a1a a6Q 2 h fun c1o h=>om (w.a0.length=(w.a0.set e_.A.toNat node).length) (by simp)<|Y3 w.d7 w.d8 w.Told<|A9 l8<|l7 a2b a8i 4 h fun c6P h=>B4 c1o<|A9 n6<|B4 c6P<|fE h)))))))))
def a2w:FS (m5×List s6):=⟨29,Tryz.f29,[.val C5 U3,.val [some 3] [some 35]],[none,none,none],[.val C5 U3,.val [some 3] [some 35],.val [none,none,some 4] []],fun r=>.tup [.agg (V0 r.1),v6 35 3 J5 r.2],fun _=>[none,none,none],Tryz.func29⟩
def a1r(w:m5)(out:List s6)(e_:s6):Option (m5×List s6):=
 ((b3n w e_).bind fun a4T=>(t5 ((out.length+1)*40<=140737488355328) (some (a4T,out++[e_]))))
theorem a3e{w out e_}:OK a2w [.agg (V0 w),v6 35 3 J5 out,.agg (J5 e_)] (a1r w out e_):=
 o7 _ fun r h=>n9<|l7 b1Z d6g 2 h fun a4T h=>B4 w<|tk 5 [none,none,some 4]<|t9 h fun e1 h=>F7 6 11 35 3 40 J5 out e_ e1<|E5 e_<|B4 a4T<|s7 (out++[e_])<|fE h
def a9P:FS (Int×t8):=⟨33,Tryz.f33,[.val [] []],[some (0,.ptr [some 1,none] []),none],[.ptr [some 1,none] [],.val [some 1] []],fun r=>vi r.1,fun r=>[some (.optr 67 (a0b r.2)),none],Tryz.func33⟩
def a6Y(r_:t8)(list:List Int):Option (Int×t8):=
 ((G2 r_ (list.length:Int)).bind fun pick=>((idx list pick.1).bind fun y=>some (y,pick.2)))
theorem b1Y{r_ list}:OK a9P [.optr 67 (a0b r_),j9 1 eI list] (a6Y r_ list):=
 o7 _ fun r h=>n9<|l7 G7 G9 4 h fun pick h=>u0 eI 5 h fun y hy h=>fE h
def d36:FS (Int):=⟨131,Tryz.f131,[.val [] []],[none,none],[.val [] [],.val [] []],fun r=>vi r,fun _=>[none,none],Tryz.func131⟩
def b7V(a:Int)(b:Int):Option Int:=
 (bif decide (a>b) then some a else some b)
theorem f3E{a b}:OK d36 [vi a,vi b] (b7V a b):=
 o7 _ fun r h=>n9<|j5 2 h (fun h=>rg<|fE h) (fun h=>rg<|fE h)
def b9K:FS (n8×t8):=⟨79,Tryz.f79,[.val [] []],[some (0,.ptr [some 1,none] [])],[.ptr [some 1,none] []],fun r=>.agg (A6 r.1),fun r=>[some (.optr 67 (a0b r.2))],Tryz.func79⟩
def f1f:(t8×n8)->KS:=fun (w,i)=>⟨b9K.k 6 [true],(bs 2 (.ptr 1 0 0::(.ptr 2 0 0::(bs 36 [])))),[some [.var 67 [j9 1 K5 w.b,vi w.p]],some [.var 80 [vi 0,vi 0,vi 0,vi 0]],some [.var 80 [vi i.a9,vi i.A,vi i.B,vi i.N]]]⟩
def d8l(w:t8)(i:n8):Option (n8×t8):=
 some (i,w)
theorem e5l(r):NF b9K r f1f (fun s=>d8l s.1 s.2):=fun (w,i) h=>PK<|rg<|fE h
def b7j(r_:t8):Option (n8×t8):=
 ((a6Y r_ [1,1,2,2,3,4,4,5,6,7]).bind fun num=>((G2 num.2 3).bind fun pick=>((G2 pick.2 3).bind fun G1=>(((bif (num.1==3) then ((a6Y G1.2 [0,1,5,(-2),100,1000000]).bind fun a7S=>some (l9.brk (a7S.2,(n8.mk num.1 pick.1 0 a7S.1)))) else (bif (num.1==6) then ((G2 G1.2 3).bind fun a0o=>some (l9.brk (a0o.2,(n8.mk num.1 pick.1 G1.1 (m7 (1+a0o.1)))))) else (bif (num.1==7) then ((G2 G1.2 3).bind fun Z2=>(bif decide (Z2.1>0) then ((G2 Z2.2 4).bind fun X2=>((G2 X2.2 4).bind fun a3A=>some (l9.ret ((n8.mk 4 X2.1 a3A.1 0),a3A.2)))) else some (l9.brk (Z2.2,(n8.mk num.1 0 0 0))))) else some (l9.brk (G1.2,(n8.mk num.1 pick.1 G1.1 0)))))):Option (l9 (n8×t8) (t8×n8))).bind fun x=>x.go some fun j=>d8l j.1 j.2))))
theorem e2F{r_}:OK b9K [.optr 67 (a0b r_)] (b7j r_):=
 o7 _ fun r h=>n9<|tk 1 []<|l7 a9P b1Y 2 h fun num h=>om (10=[1,1,2,2,3,4,4,5,6,7].length) (by simp)<|l7 G7 G9 4 h fun pick h=>l7 G7 G9 6 h fun G1 h=>rg<|A3 h (e5l r) fun x1 h hc1=>rg<|j5 1 h (fun h=>n9<|tk 1 []<|l7 a9P b1Y 2 h fun a7S h=>om (6=[0,1,5,(-2),100,1000000].length) (by simp)<|(o9 h hc1 fun hI=>sk [] [2,3] [(1,0),(10,0)] hI)) (fun h=>rg<|j5 1 h (fun h=>rg<|l7 G7 G9 1 h fun a0o h=>(o9 h hc1 fun hI=>sk [] [2,3] [(1,0),(10,0)] hI)) (fun h=>rg<|j5 1 h (fun h=>rg<|l7 G7 G9 1 h fun Z2 h=>j5 2 h (fun h=>rg<|l7 G7 G9 1 h fun X2 h=>l7 G7 G9 3 h fun a3A h=>(B2 h hc1 fun h=>fE h)) (fun h=>n9<|(o9 h hc1 fun hI=>sk [] [2,3] [(1,0),(10,0)] hI))) (fun h=>(o9 h hc1 fun hI=>sk [] [2,3] [(1,0),(10,0)] hI))))
def a3v:FS ((List n8)×t8):=⟨35,Tryz.f35,[.val [some 4] [some 80]],[some (0,.ptr [some 1,none] [])],[.ptr [some 1,none] []],fun r=>v6 80 4 A6 r.1,fun r=>[some (.optr 67 (a0b r.2))],Tryz.func35⟩
def d6N:(t8×List n8)->KS:=fun (w,out1)=>⟨a3v.k 5 [false,false],(bs 5 (.own 1 0 4 0 out1.length::(bs 31 []))),[some [.var 67 [j9 1 K5 w.b,vi w.p]],some [m6 80 4 A6 out1]]⟩
def d0Z(w:t8)(out1:List n8):Option ((List n8)×t8):=
 some (out1,w)
theorem f6x(r):NF a3v r d6N (fun s=>d0Z s.1 s.2):=fun (w,out1) h=>PK<|rg<|s7 out1<|fE h
def e2o:(t8×(List n8)×Int)->KS:=fun (r_1,out,i)=>⟨a3v.k 4 [false],(.ptr 0 0 0::(bs 4 (.own 1 0 4 0 out.length::(vi i::(bs 30 []))))),[some [.var 67 [j9 1 K5 r_1.b,vi r_1.p]],some [m6 80 4 A6 out]]⟩
def b8Z(r_1:t8)(out:List n8)(i:Int):Option (j7 ((List n8)×t8) (t8×(List n8)×Int) (t8×List n8)):=
 (bif decide (i>0) then ((b7j r_1).bind fun b31=>(t5 ((out.length+1)*32<=140737488355328) (some (j7.nxt (b31.2,out++[b31.1],m7 (i-1)))))) else some (j7.brk (r_1,out)))
theorem f02:LQ a3v d6N e2o (fun s=>b8Z s.1 s.2.1 s.2.2):=fun lc (r_1,out,i) h=>PK<|rg<|j5 1 h (fun h=>rg<|l7 b9K e2F 2 h fun b31 h=>tk 3 []<|t9 h fun e1 h=>F7 4 8 80 4 32 A6 out b31.1 e1<|E5 b31.1<|rg<|(lc.nx h fun hI=>sk [] [0,5,6] [(8,0)] hI)) (fun h=>(lc.bk h fun hI=>sk [] [5] [(1,0)] hI))
def a5A(r_:t8):Option ((List n8)×t8):=
 ((G2 r_ 3).bind fun pick=>(bif (pick.1==0) then ((G2 pick.2 3).bind fun G1=>((G2 G1.2 3).bind fun a0o=>((G2 a0o.2 3).bind fun Z2=>some ([(n8.mk 1 0 G1.1 0),(n8.mk 3 1 0 (m7 (1+Z2.1))),(n8.mk 4 0 1 0),(n8.mk 2 a0o.1 0 0)],Z2.2)))) else ((G2 pick.2 8).bind fun X2=>((o8 (fun s:t8×(List n8)×Int=>b8Z s.1 s.2.1 s.2.2) (X2.2,([]:List n8),X2.1)).bind fun x=>x.go (fun r=>some r) fun s=>d0Z s.1 s.2))))
theorem b5b{r_}:OK a3v [.optr 67 (a0b r_)] (a5A r_):=
 o7 _ fun r h=>n9<|l7 G7 G9 1 h fun pick h=>j5 2 h (fun h=>rg<|l7 G7 G9 1 h fun G1 h=>rg<|l7 G7 G9 1 h fun a0o h=>rg<|l7 G7 G9 3 h fun Z2 h=>tk 9 []<|om (4=[(n8.mk 1 0 G1.1 0),(n8.mk 3 1 0 (m7 (1+Z2.1))),(n8.mk 4 0 1 0),(n8.mk 2 a0o.1 0 0)].length) (by simp)<|fE h) (fun h=>rg<|tk 0 []<|rg<|l7 G7 G9 1 h fun X2 h=>lp (f02) h (fun _ h=>a3v.rt h) (f6x r) fun hI=>om ((.own 5 0 4 0 0:V)=.own 5 0 4 0 ([]:List n8).length) (by simp)<|sk [.is (.tmp 5) (.own 5 0 4 0 ([]:List n8).length)] [0,5,6] [(5,0)] hI)
def b6C:FS (s6×t8×m5):=⟨77,Tryz.f77,[.val [none,none,some 4] [none,none,some 80]],[some (0,.ptr [some 1,none] []),some (1,.val C5 U3)],[.ptr [some 1,none] [],.val C5 U3],fun r=>.agg [vi r.1.a9,vi r.1.A,v6 80 4 A6 r.1.i6],fun r=>[some (.optr 67 (a0b r.2.1)),some (.agg (V0 r.2.2))],Tryz.func77⟩
def d9P(w:m5)(pick:Int×t8):(t8×Int)->KS:=fun (w1,eKind)=>⟨b6C.k 12 [false,false,false,false,false,false,false,true,false],(bs 4 (.ptr 1 0 0::(.ptr 2 0 0::(bs 57 [])))),[some [.var 67 [j9 1 K5 w1.b,vi w1.p],C7 55 27 z7 w.a0,m6 83 13 t6 w.d7,m6 73 3 C1 w.d8,m6 76 5 z5 w.Told],some [.var 35 [vi 0,vi 0,.nil]],some [.var 35 [vi eKind,vi pick.1,.nil]]]⟩
def c8J(w:m5)(pick:Int×t8)(w1:t8)(eKind:Int):Option (s6×t8×m5):=
 some ((s6.mk eKind pick.1 []),w1,w)
theorem f1U(w pick)(r):NF b6C r (d9P w pick) (fun s=>c8J w pick s.1 s.2):=fun (w1,eKind) h=>PK<|rg<|B4 w<|fE h
def b73(r_:t8)(w:m5):Option (s6×t8×m5):=
 ((b7V 1 (w.d7.length:Int)).bind fun c8g=>((G2 r_ c8g).bind fun pick=>((G2 pick.2 24).bind fun G1=>(bif (G1.1==0) then ((G2 G1.2 3).bind fun a0o=>((a5A a0o.2).bind fun a46=>some ((s6.mk 1 a0o.1 a46.1),a46.2,w))) else (bif (G1.1==1) then ((G2 G1.2 3).bind fun Z2=>((a5A Z2.2).bind fun b8o=>some ((s6.mk 1 Z2.1 b8o.1),b8o.2,w))) else (bif (G1.1==2) then ((G2 G1.2 3).bind fun X2=>((a5A X2.2).bind fun b66=>some ((s6.mk 1 X2.1 b66.1),b66.2,w))) else (((bif (G1.1==3) then ((G2 G1.2 3).bind fun a3A=>((a5A a3A.2).bind fun b6b=>some (l9.ret ((s6.mk 1 a3A.1 b6b.1),b6b.2,w)))) else (bif (G1.1==4) then ((G2 G1.2 3).bind fun a75=>some (l9.ret ((s6.mk 5 a75.1 []),a75.2,w))) else (bif (G1.1==5) then ((G2 G1.2 3).bind fun a8B=>some (l9.ret ((s6.mk 6 a8B.1 []),a8B.2,w))) else (bif (G1.1==6) then ((G2 G1.2 3).bind fun a4E=>some (l9.ret ((s6.mk 6 a4E.1 []),a4E.2,w))) else (bif (G1.1==7) then ((G2 G1.2 2).bind fun a5I=>(bif (a5I.1==0) then ((G2 a5I.2 3).bind fun a6a=>some (l9.ret ((s6.mk 7 a6a.1 []),a6a.2,w))) else some (l9.brk (a5I.2,2)))) else (bif (G1.1==8) then some (l9.brk (G1.2,3)) else (bif (G1.1==9) then some (l9.brk (G1.2,4)) else (bif (G1.1==10) then ((G2 G1.2 3).bind fun a6F=>(bif (a6F.1==0) then ((G2 a6F.2 10).bind fun a7b=>((G2 a7b.2 5).bind fun c5E=>some (l9.ret ((s6.mk (m7 (a7b.1-1)) (m7 (c5E.1-1)) []),c5E.2,w)))) else some (l9.brk (a6F.2,2)))) else some (l9.brk (G1.2,2)))))))))):Option (l9 (s6×t8×m5) (t8×Int))).bind fun x=>x.go some fun j=>c8J w pick j.1 j.2)))))))
set_option maxRecDepth 20000 in
theorem f1M{r_ w}:OK b6C [.optr 67 (a0b r_),.agg (V0 w)] (b73 r_ w):=
 o7 _ fun r h=>n9<|l7 d36 f3E 4 h fun c8g h=>l7 G7 G9 5 h fun pick h=>rg<|l7 G7 G9 1 h fun G1 h=>rg<|j5 1 h (fun h=>rg<|l7 G7 G9 1 h fun a0o h=>l7 a3v b5b 3 h fun a46 h=>s7 a46.1<|B4 w<|fE h) (fun h=>rg<|j5 1 h (fun h=>rg<|l7 G7 G9 1 h fun Z2 h=>l7 a3v b5b 3 h fun b8o h=>s7 b8o.1<|B4 w<|fE h) (fun h=>rg<|j5 1 h (fun h=>rg<|l7 G7 G9 1 h fun X2 h=>l7 a3v b5b 3 h fun b66 h=>s7 b66.1<|B4 w<|fE h) (fun h=>A3 h (f1U w pick r) fun x1 h hc1=>rg<|j5 1 h (fun h=>rg<|l7 G7 G9 1 h fun a3A h=>l7 a3v b5b 3 h fun b6b h=>(B2 h hc1 fun h=>s7 b6b.1<|B4 w<|fE h)) (fun h=>rg<|j5 1 h (fun h=>rg<|l7 G7 G9 1 h fun a75 h=>(B2 h hc1 fun h=>B4 w<|fE h)) (fun h=>rg<|j5 1 h (fun h=>rg<|l7 G7 G9 1 h fun a8B h=>(B2 h hc1 fun h=>B4 w<|fE h)) (fun h=>rg<|j5 1 h (fun h=>rg<|l7 G7 G9 1 h fun a4E h=>(B2 h hc1 fun h=>B4 w<|fE h)) (fun h=>rg<|j5 1 h (fun h=>rg<|l7 G7 G9 1 h fun a5I h=>j5 2 h (fun h=>rg<|l7 G7 G9 1 h fun a6a h=>(B2 h hc1 fun h=>B4 w<|fE h)) (fun h=>(o9 h hc1 fun hI=>sk [] [4,5] [(2,0),(10,0)] hI))) (fun h=>rg<|j5 1 h (fun h=>rg<|(o9 h hc1 fun hI=>sk [] [4,5] [(2,0),(10,0)] hI)) (fun h=>rg<|j5 1 h (fun h=>rg<|(o9 h hc1 fun hI=>sk [] [4,5] [(2,0),(10,0)] hI)) (fun h=>rg<|j5 1 h (fun h=>rg<|l7 G7 G9 1 h fun a6F h=>j5 2 h (fun h=>rg<|l7 G7 G9 1 h fun a7b h=>l7 G7 G9 4 h fun c5E h=>(B2 h hc1 fun h=>B4 w<|fE h)) (fun h=>(o9 h hc1 fun hI=>sk [] [4,5] [(2,0),(10,0)] hI))) (fun h=>(o9 h hc1 fun hI=>sk [] [4,5] [(2,0),(10,0)] hI))))))))))))
def a9U:FS (Bool):=⟨110,Tryz.f110,[.val [] []],[none],[.val C2 []],fun r=>.b r,fun _=>[none],Tryz.func110⟩
def e86(m:l8):Unit->KS:=fun _=>⟨a9U.k 2 [false],(bs 1 (.ptr 1 0 0::(bs 158 []))),[some [],some [.var 83 (a5x m)]]⟩
def e5K(m:l8)(l7None:Bool):Bool->KS:=fun right=>⟨a9U.k 4 [false],(bs 1 (.ptr 1 0 0::(bs 1 (.b l7None::(.b right::(bs 155 [])))))),[some [],some [.var 83 (a5x m)]]⟩
def b2u(m:l8)(l7None:Bool)(right:Bool):Option Bool:=
 (bif (m.a9==1) then ((a1o m.a8).bind fun Y8=>(bif Y8 then some l7None else some false)) else (bif (m.a9==2) then ((a1o m.a8).bind fun b2W=>(bif b2W then (bif l7None then ((a6G m.a7).bind fun a6I=>(bif a6I then some (decide ((m7 (m.g8+(m.a7.length:Int)))<=40)) else some false)) else some false) else some false)) else (bif (m.a9==3) then ((a1o m.a8).bind fun b3S=>(bif b3S then some right else some false)) else (bif (m.a9==4) then ((a1o m.a8).bind fun d3g=>(bif d3g then some l7None else some false)) else (bif (m.a9==5) then (bif (m.a8==0) then some right else some false) else (bif (m.a9==6) then ((a1o m.a8).bind fun d4E=>(bif d4E then (bif l7None then some (m.g8==0) else some false) else some false)) else (bif (m.a9==7) then (bif (m.a8==0) then (bif (m.g8==0) then ((a1g m.g9).bind fun F4=>(bif F4 then some (!m.g9.i7) else some false)) else some false) else some false) else (bif (m.a9==8) then (bif (m.a8==0) then some l7None else some false) else some false))))))))
theorem e9w(m l7None)(r):NF a9U r (e5K m l7None) (fun s=>b2u m l7None s):=fun right h=>PK<|n9<|j5 1 h (fun h=>rg<|l7 a1Y a2A 2 h fun Y8 h=>j5 3 h (fun h=>fE h) (fun h=>fE h)) (fun h=>rg<|j5 1 h (fun h=>rg<|l7 a1Y a2A 2 h fun b2W h=>j5 3 h (fun h=>j5 6 h (fun h=>l7 a3j b2e 9 h fun a6I h=>j5 11 h (fun h=>fE h) (fun h=>fE h)) (fun h=>fE h)) (fun h=>fE h)) (fun h=>rg<|j5 1 h (fun h=>rg<|l7 a1Y a2A 2 h fun b3S h=>j5 3 h (fun h=>fE h) (fun h=>fE h)) (fun h=>rg<|j5 1 h (fun h=>rg<|l7 a1Y a2A 2 h fun d3g h=>j5 3 h (fun h=>fE h) (fun h=>fE h)) (fun h=>rg<|j5 1 h (fun h=>rg<|j5 3 h (fun h=>fE h) (fun h=>fE h)) (fun h=>rg<|j5 1 h (fun h=>rg<|l7 a1Y a2A 2 h fun d4E h=>j5 3 h (fun h=>j5 6 h (fun h=>fE h) (fun h=>fE h)) (fun h=>fE h)) (fun h=>rg<|j5 1 h (fun h=>rg<|j5 3 h (fun h=>j5 8 h (fun h=>l7 a2u a3q 11 h fun F4 h=>j5 13 h (fun h=>fE h) (fun h=>fE h)) (fun h=>fE h)) (fun h=>fE h)) (fun h=>rg<|j5 1 h (fun h=>rg<|j5 3 h (fun h=>fE h) (fun h=>fE h)) (fun h=>rg<|fE h))))))))
def b7U(m:l8):Option Bool:=
 ((a4L m.g9).bind fun l7None=>((((a1g m.g9).bind fun a2S=>(bif a2S then some (l9.brk (decide (m.g8<40))) else some (l9.brk false))):Option (l9 Bool Bool)).bind fun x=>x.go some fun j=>b2u m l7None j))
theorem f3C(m)(r):NF a9U r (e86 m) (fun s=>b7U m):=fun _ h=>PK<|rg<|l7 a9k a9X 2 h fun l7None h=>A3 h (e9w m l7None r) fun x1 h hc1=>rg<|l7 a2u a3q 2 h fun a2S h=>j5 3 h (fun h=>(o9 h hc1 fun hI=>sk [] [1,3,4] [(1,0)] hI)) (fun h=>(o9 h hc1 fun hI=>sk [] [1,3,4] [(1,0)] hI))
def b7n(m:l8):Option Bool:=
 (((bif decide (m.c9<0) then some (l9.ret false) else (bif decide (m.c9>=3) then some (l9.ret false) else (bif decide (m.To<0) then some (l9.ret false) else (bif decide (m.To>=3) then some (l9.ret false) else (bif (m.c9==m.To) then some (l9.ret false) else (bif decide (m.g8<0) then some (l9.ret false) else (bif decide (m.g8>40) then some (l9.ret false) else (bif (m.a9 != 2) then (bif decide ((m.a7.length:Int)>0) then some (l9.ret false) else some (l9.brk ())) else some (l9.brk ()))))))))):Option (l9 Bool Unit)).bind fun x=>x.go some fun j=>b7U m)
theorem e61{m}:OK a9U [.agg (t6 m)] (b7n m):=
 o7 _ fun r h=>rg<|A3 h (f3C m r) fun x1 h hc1=>rg<|j5 3 h (fun h=>rg<|(B2 h hc1 fun h=>fE h)) (fun h=>j5 8 h (fun h=>rg<|(B2 h hc1 fun h=>fE h)) (fun h=>j5 13 h (fun h=>rg<|(B2 h hc1 fun h=>fE h)) (fun h=>j5 18 h (fun h=>rg<|(B2 h hc1 fun h=>fE h)) (fun h=>j5 25 h (fun h=>rg<|(B2 h hc1 fun h=>fE h)) (fun h=>j5 30 h (fun h=>rg<|(B2 h hc1 fun h=>fE h)) (fun h=>j5 35 h (fun h=>rg<|(B2 h hc1 fun h=>fE h)) (fun h=>j5 39 h (fun h=>j5 45 h (fun h=>rg<|(B2 h hc1 fun h=>fE h)) (fun h=>(o9 h hc1 fun hI=>sk [] [1] [(1,0)] hI))) (fun h=>(o9 h hc1 fun hI=>sk [] [1] [(1,0)] hI)))))))))
def d2n:FS (Bool):=⟨113,Tryz.f113,[.val [] []],[none],[.val [] []],fun r=>.b r,fun _=>[none],Tryz.func113⟩
def b6q(a:n6):Option Bool:=
 (bif decide (a.Node>=0) then (bif decide (a.Node<3) then ((b0z a.a5).bind fun a7m=>(bif a7m then (bif (a.a5.b9==a.Node) then (bif decide (a.Code>=0) then (bif decide (a.Code<=4) then ((a7l a.d9).bind fun a1m=>some a1m) else some false) else some false) else some false) else some false)) else some false) else some false)
theorem e2R{a}:OK d2n [.agg (z5 a)] (b6q a):=
 o7 _ fun r h=>n9<|j5 3 h (fun h=>j5 8 h (fun h=>l7 b9O c7e 11 h fun a7m h=>j5 13 h (fun h=>j5 21 h (fun h=>j5 26 h (fun h=>j5 31 h (fun h=>l7 a77 b0I 34 h fun a1m h=>fE h) (fun h=>fE h)) (fun h=>fE h)) (fun h=>fE h)) (fun h=>fE h)) (fun h=>fE h)) (fun h=>fE h)
def J1:FS (Bool):=⟨61,Tryz.f61,[.val [] []],[none],[.val C5 []],fun r=>.b r,fun _=>[none],Tryz.func61⟩
def d3y(w:m5):Unit->KS:=fun _=>⟨J1.k 4 [false,false],(bs 1 (.ptr 1 0 0::(bs 104 []))),[some [],some [.var 30 (B9 w)]]⟩
def d24(w:m5):Unit->KS:=fun _=>⟨J1.k 6 [false,false,false],(bs 1 (.ptr 1 0 0::(bs 104 []))),[some [],some [.var 30 (B9 w)]]⟩
def d09(w:m5):Unit->KS:=fun _=>⟨J1.k 8 [false,false,false,false],(bs 1 (.ptr 1 0 0::(bs 104 []))),[some [],some [.var 30 (B9 w)]]⟩
def d3a:Unit->KS:=fun _=>⟨J1.k 10 [false,false,false,false,false],(bs 106 []),[some []]⟩
def c9r:Option Bool:=
 some true
theorem d9n(r):NF J1 r d3a (fun s=>c9r):=fun _ h=>PK<|rg<|fE h
def d8P(w:m5):Int->KS:=fun i3=>⟨J1.k 9 [false,false,false,false],(bs 1 (.ptr 1 0 0::(bs 4 (vi i3::(bs 99 []))))),[some [],some [.var 30 (B9 w)]]⟩
def c0n(w:m5)(i3:Int):Option (j7 Bool Int Unit):=
 (bif decide (i3<(w.Told.length:Int)) then ((idx w.Told i3).bind fun told=>((b6q told).bind fun c9j=>(bif (!c9j) then some (j7.ret false) else some (j7.nxt (m7 (i3+1)))))) else some (j7.brk ()))
theorem f4n(w):LQ J1 d3a (d8P w) (fun s=>c0n w s):=fun lc i3 h=>PK<|rg<|j5 4 h (fun h=>rg<|u0 z5 3 h fun told a4y h=>l7 d2n e2R 5 h fun c9j h=>j5 6 h (fun h=>rg<|fL lc h) (fun h=>rg<|(lc.nx h fun hI=>sk [] [1,6] [(1,0)] hI))) (fun h=>(lc.bk h fun hI=>sk [] [] [] hI))
def c0p(w:m5):Option Bool:=
 ((o8 (fun s:Int=>c0n w s) 0).bind fun x=>x.go (fun r=>some r) fun s=>c9r)
theorem f7D(w)(r):NF J1 r (d09 w) (fun s=>c0p w):=fun _ h=>PK<|rg<|lp (f4n w) h (fun _ h=>J1.rt h) (d9n r) fun hI=>sk [] [1,6] [(1,0)] hI
def e74(w:m5):Int->KS:=fun i2=>⟨J1.k 7 [false,false,false],(bs 1 (.ptr 1 0 0::(bs 3 (vi i2::(bs 100 []))))),[some [],some [.var 30 (B9 w)]]⟩
def b9r(w:m5)(i2:Int):Option (j7 Bool Int Unit):=
 (bif decide (i2<(w.d8.length:Int)) then ((idx w.d8 i2).bind fun asked=>((b0z asked.a5).bind fun a7m=>(bif (!a7m) then some (j7.ret false) else ((b1f asked.i6).bind fun E4=>(bif (!E4) then some (j7.ret false) else some (j7.nxt (m7 (i2+1)))))))) else some (j7.brk ()))
theorem e9J(w):LQ J1 (d09 w) (e74 w) (fun s=>b9r w s):=fun lc i2 h=>PK<|rg<|j5 4 h (fun h=>rg<|u0 C1 3 h fun asked a7V h=>l7 b9O c7e 6 h fun a7m h=>j5 8 h (fun h=>rg<|fL lc h) (fun h=>I3 C1 12 a7V<|l7 a4J c49 15 h fun E4 h=>j5 17 h (fun h=>rg<|fL lc h) (fun h=>rg<|(lc.nx h fun hI=>sk [] [1,5] [(1,0)] hI)))) (fun h=>(lc.bk h fun hI=>sk [] [1] [(1,0)] hI))
def b5A(w:m5):Option Bool:=
 ((o8 (fun s:Int=>b9r w s) 0).bind fun x=>x.go (fun r=>some r) fun s=>c0p w)
theorem f1W(w)(r):NF J1 r (d24 w) (fun s=>b5A w):=fun _ h=>PK<|rg<|lp (e9J w) h (fun _ h=>J1.rt h) (f7D w r) fun hI=>sk [] [1,5] [(1,0)] hI
def e6e(w:m5):Int->KS:=fun i1=>⟨J1.k 5 [false,false],(bs 1 (.ptr 1 0 0::(bs 2 (vi i1::(bs 101 []))))),[some [],some [.var 30 (B9 w)]]⟩
def b52(w:m5)(i1:Int):Option (j7 Bool Int Unit):=
 (bif decide (i1<(w.d7.length:Int)) then ((idx w.d7 i1).bind fun msg=>((b7n msg).bind fun Q7=>(bif (!Q7) then some (j7.ret false) else some (j7.nxt (m7 (i1+1)))))) else some (j7.brk ()))
theorem f5x(w):LQ J1 (d24 w) (e6e w) (fun s=>b52 w s):=fun lc i1 h=>PK<|rg<|j5 4 h (fun h=>rg<|u0 t6 3 h fun msg hmsg h=>l7 a9U e61 5 h fun Q7 h=>j5 6 h (fun h=>rg<|fL lc h) (fun h=>rg<|(lc.nx h fun hI=>sk [] [1,4] [(1,0)] hI))) (fun h=>(lc.bk h fun hI=>sk [] [1] [(1,0)] hI))
def b9Q(w:m5):Option Bool:=
 ((o8 (fun s:Int=>b52 w s) 0).bind fun x=>x.go (fun r=>some r) fun s=>b5A w)
theorem f2i(w)(r):NF J1 r (d3y w) (fun s=>b9Q w):=fun _ h=>PK<|rg<|lp (f5x w) h (fun _ h=>J1.rt h) (f1W w r) fun hI=>sk [] [1,4] [(1,0)] hI
def f7c(w:m5):Int->KS:=fun i=>⟨J1.k 3 [false],(bs 1 (.ptr 1 0 0::(bs 1 (vi i::(bs 102 []))))),[some [],some [.var 30 (B9 w)]]⟩
def b5y(w:m5)(i:Int):Option (j7 Bool Int Unit):=
 (bif decide (i<(w.a0.length:Int)) then ((idx w.a0 i).bind fun node=>(bif (node.Id != i) then some (j7.ret false) else ((a5H node).bind fun D7=>(bif (!D7) then some (j7.ret false) else some (j7.nxt (m7 (i+1))))))) else some (j7.brk ()))
theorem e4u(w):LQ J1 (d3y w) (f7c w) (fun s=>b5y w s):=fun lc i h=>PK<|rg<|j5 4 h (fun h=>rg<|u0 x6 3 h fun node hnode h=>j5 8 h (fun h=>rg<|fL lc h) (fun h=>I3 x6 12 hnode<|l7 a2m b1k 14 h fun D7 h=>j5 16 h (fun h=>rg<|fL lc h) (fun h=>rg<|(lc.nx h fun hI=>sk [] [1,3] [(1,0)] hI)))) (fun h=>(lc.bk h fun hI=>sk [] [1] [(1,0)] hI))
def a22(w:m5):Option Bool:=
 (bif ((w.a0.length:Int) != 3) then some false else (bif decide ((w.d7.length:Int)>40) then some false else (bif decide ((w.d8.length:Int)>60) then some false else (bif decide ((w.Told.length:Int)>60) then some false else ((o8 (fun s:Int=>b5y w s) 0).bind fun x=>x.go (fun r=>some r) fun s=>b9Q w)))))
theorem a5u{w}:OK J1 [.agg (K7 w)] (a22 w):=
 o7 _ fun r h=>n9<|j5 4 h (fun h=>rg<|fE h) (fun h=>j5 10 h (fun h=>rg<|fE h) (fun h=>j5 16 h (fun h=>rg<|fE h) (fun h=>j5 21 h (fun h=>rg<|fE h) (fun h=>rg<|lp (e4u w) h (fun _ h=>J1.rt h) (f2i w r) fun hI=>sk [] [1,3] [(1,0)] hI))))
def W9:FS (m5):=⟨78,Tryz.f78,[.val C5 U3],[none],[.val C5 []],fun r=>.agg (V0 r),fun _=>[none],Tryz.func78⟩
def d4g(w:m5):(List j6)->KS:=fun Nodes1=>⟨W9.k 4 [false],(bs 1 (.ptr 1 0 0::(.ptr 2 0 0::(.ptr 3 0 0::(bs 72 []))))),[some [],some [.var 30 (B9 w)],some [.var 30 [.nil,.nil,.nil,.nil]],some [.var 30 [.own 4 0 27 0 Nodes1.length,.nil,.nil,.own 5 0 5 0 (([]:List n6)++w.Told).length]],some [C7 55 27 z7 Nodes1],some [m6 76 5 z5 (([]:List n6)++w.Told)]]⟩
def d0y(w:m5)(Nodes1:List j6):(List l8)->KS:=fun Net1=>⟨W9.k 6 [false,false],(bs 1 (.ptr 1 0 0::(.ptr 2 0 0::(.ptr 3 0 0::(bs 72 []))))),[some [],some [.var 30 (B9 w)],some [.var 30 [.nil,.nil,.nil,.nil]],some [.var 30 [.own 4 0 27 0 Nodes1.length,.own 5 0 13 0 Net1.length,.nil,.own 6 0 5 0 (([]:List n6)++w.Told).length]],some [C7 55 27 z7 Nodes1],some [m6 83 13 t6 Net1],some [m6 76 5 z5 (([]:List n6)++w.Told)]]⟩
def d4N(w:m5)(Nodes1:List j6)(Net1:List l8):(List x8)->KS:=fun Asked1=>⟨W9.k 8 [false,false,false],(bs 2 (.ptr 1 0 0::(.ptr 2 0 0::(bs 72 [])))),[some [],some [.var 30 [.nil,.nil,.nil,.nil]],some [.var 30 [.own 3 0 27 0 Nodes1.length,.own 4 0 13 0 Net1.length,.own 5 0 3 0 Asked1.length,.own 6 0 5 0 (([]:List n6)++w.Told).length]],some [C7 55 27 z7 Nodes1],some [m6 83 13 t6 Net1],some [m6 73 3 C1 Asked1],some [m6 76 5 z5 (([]:List n6)++w.Told)]]⟩
def c7U(w:m5)(Nodes1:List j6)(Net1:List l8)(Asked1:List x8):Option m5:=
 some (m5.mk Nodes1 Net1 Asked1 (([]:List n6)++w.Told))
theorem d9j(w Nodes1 Net1)(r):NF W9 r (d4N w Nodes1 Net1) (fun s=>c7U w Nodes1 Net1 s):=fun Asked1 h=>PK<|rg<|H9 Nodes1 Net1 Asked1 (([]:List n6)++w.Told)<|fE h
def e0k(w:m5)(Nodes1:List j6)(Net1:List l8):((List x8)×Int)->KS:=fun (d8,i2)=>⟨W9.k 7 [false,false],(bs 1 (.ptr 1 0 0::(.ptr 2 0 0::(.ptr 3 0 0::(bs 2 (vi i2::(bs 69 []))))))),[some [],some [.var 30 (B9 w)],some [.var 30 [.nil,.nil,.nil,.nil]],some [.var 30 [.own 4 0 27 0 Nodes1.length,.own 5 0 13 0 Net1.length,.own 7 0 3 0 d8.length,.own 6 0 5 0 (([]:List n6)++w.Told).length]],some [C7 55 27 z7 Nodes1],some [m6 83 13 t6 Net1],some [m6 76 5 z5 (([]:List n6)++w.Told)],some [m6 73 3 C1 d8]]⟩
def b2J(w:m5)(d8:List x8)(i2:Int):Option (j7 m5 ((List x8)×Int) (List x8)):=
 (bif decide (i2<(w.d8.length:Int)) then ((idx w.d8 i2).bind fun asked=>(t5 ((([]:List n8).length+asked.i6.length)*32<=140737488355328) ((t5 ((d8.length+1)*40<=140737488355328) (some (j7.nxt (d8++[(x8.mk asked.a5 (([]:List n8)++asked.i6))],m7 (i2+1)))))))) else some (j7.brk d8))
theorem e9h(w Nodes1 Net1):LQ W9 (d4N w Nodes1 Net1) (e0k w Nodes1 Net1) (fun s=>b2J w s.1 s.2):=fun lc (d8,i2) h=>PK<|rg<|j5 4 h (fun h=>rg<|u0 C1 5 h fun asked a7V h=>tk 8 []<|I3 C1 12 a7V<|t9 h fun e2 h=>oa 28 0 4 ([]:List n8) asked.i6<|oz 80 4 A6 ([]:List n8) asked.i6<|A9 n8<|ob e2<|tl (15,{v:=some (.own 28 0 4 0 (([]:List n8)++asked.i6).length),e:=some (m6 80 4 A6 (([]:List n8)++asked.i6))})<|s7 (([]:List n8)++asked.i6)<|tk 17 [none,none,some 4]<|t9 h fun e3 h=>F7 18 31 73 3 40 C1 d8 (x8.mk asked.a5 (([]:List n8)++asked.i6)) e3<|E5 (x8.mk asked.a5 (([]:List n8)++asked.i6))<|rg<|(lc.nx h fun hI=>sk [] [1,2,3,6] [(1,0),(2,0),(3,0),(4,0),(5,0),(6,0),(31,0)] hI)) (fun h=>(lc.bk h fun hI=>sk [] [2,3] [(2,0),(3,0),(4,0),(5,0),(7,0),(6,0)] hI))
def c1H(w:m5)(Nodes1:List j6)(Net1:List l8):Option m5:=
 ((o8 (fun s:(List x8)×Int=>b2J w s.1 s.2) ([],0)).bind fun x=>x.go (fun r=>some r) fun s=>c7U w Nodes1 Net1 s)
theorem f3i(w Nodes1)(r):NF W9 r (d0y w Nodes1) (fun s=>c1H w Nodes1 s):=fun Net1 h=>PK<|rg<|lp (e9h w Nodes1 Net1) h (fun _ h=>W9.rt h) (d9j w Nodes1 Net1 r) fun hI=>sk [.own (.cell 3 0 2) 73 3] [1,2,3,6] [(1,0),(2,0),(3,0),(4,0),(5,0),(6,0),(8,0)] hI
def f1H(w:m5)(Nodes1:List j6):((List l8)×Int)->KS:=fun (d7,i1)=>⟨W9.k 5 [false],(bs 1 (.ptr 1 0 0::(.ptr 2 0 0::(.ptr 3 0 0::(bs 1 (vi i1::(bs 70 []))))))),[some [],some [.var 30 (B9 w)],some [.var 30 [.nil,.nil,.nil,.nil]],some [.var 30 [.own 4 0 27 0 Nodes1.length,.own 6 0 13 0 d7.length,.nil,.own 5 0 5 0 (([]:List n6)++w.Told).length]],some [C7 55 27 z7 Nodes1],some [m6 76 5 z5 (([]:List n6)++w.Told)],some [m6 83 13 t6 d7]]⟩
def b2t(w:m5)(d7:List l8)(i1:Int):Option (j7 m5 ((List l8)×Int) (List l8)):=
 (bif decide (i1<(w.d7.length:Int)) then ((idx w.d7 i1).bind fun msg=>((a8g msg).bind fun G6=>(t5 ((d7.length+1)*152<=140737488355328) (some (j7.nxt (d7++[G6],m7 (i1+1))))))) else some (j7.brk d7))
theorem e2B(w Nodes1):LQ W9 (d0y w Nodes1) (f1H w Nodes1) (fun s=>b2t w s.1 s.2):=fun lc (d7,i1) h=>PK<|rg<|j5 4 h (fun h=>rg<|u0 t6 5 h fun msg hmsg h=>l7 b17 b5O 7 h fun G6 h=>tk 8 C2<|t9 h fun e4 h=>F7 9 21 83 13 152 t6 d7 G6 e4<|E5 G6<|rg<|(lc.nx h fun hI=>sk [] [1,2,3,5] [(1,0),(2,0),(3,0),(4,0),(5,0),(21,0)] hI)) (fun h=>(lc.bk h fun hI=>sk [] [1,2,3] [(1,0),(2,0),(3,0),(4,0),(6,0),(5,0)] hI))
def c42(w:m5)(Nodes1:List j6):Option m5:=
 ((o8 (fun s:(List l8)×Int=>b2t w s.1 s.2) ([],0)).bind fun x=>x.go (fun r=>some r) fun s=>c1H w Nodes1 s)
theorem f3V(w)(r):NF W9 r (d4g w) (fun s=>c42 w s):=fun Nodes1 h=>PK<|rg<|lp (e2B w Nodes1) h (fun _ h=>W9.rt h) (f3i w Nodes1 r) fun hI=>sk [.own (.cell 3 0 1) 83 13] [1,2,3,5] [(1,0),(2,0),(3,0),(4,0),(5,0),(7,0)] hI
def e0D(w:m5):((List j6)×Int)->KS:=fun (a0,i)=>⟨W9.k 3 [],(bs 1 (.ptr 1 0 0::(.ptr 2 0 0::(.ptr 3 0 0::(vi i::(bs 71 [])))))),[some [],some [.var 30 (B9 w)],some [.var 30 [.nil,.nil,.nil,.nil]],some [.var 30 [.own 5 0 27 0 a0.length,.nil,.nil,.own 4 0 5 0 (([]:List n6)++w.Told).length]],some [m6 76 5 z5 (([]:List n6)++w.Told)],some [C7 55 27 z7 a0]]⟩
def e7N(l8Copy:j6):List V:=(a6k l8Copy)
def b2p(w:m5)(a0:List j6)(i:Int):Option (j7 m5 ((List j6)×Int) (List j6)):=
 (bif decide (i<(w.a0.length:Int)) then ((idx w.a0 i).bind fun node=>((a6v node).bind fun l8Copy=>(t5 ((a0.length+1)*392<=140737488355328) (some (j7.nxt (a0++[l8Copy],m7 (i+1))))))) else some (j7.brk a0))
theorem f1B(w):LQ W9 (d4g w) (e0D w) (fun s=>b2p w s.1 s.2):=fun lc (a0,i) h=>PK<|rg<|j5 4 h (fun h=>rg<|u0 x6 5 h fun node hnode h=>l7 b0t b4x 7 h fun l8Copy h=>om (s9.deep false 55 27 1 [(e7N l8Copy)]=C7 55 27 z7 [l8Copy]) rfl<|A4 l8Copy<|tl (8,{a:=.dck [none,none,some 8,some 7,none,none,none,some 1,some 8,none,none,none,some 2,some 2,none,none,some 1,none,some 4,none,none,none,some 2,some 2,none,none,some 7] [none,none,some 89,some 53,none,none,none,some 4,none,none,none,none,none,none,none,none,some 4,none,none,none,none,none,none,none,none,none,some 53],e:=some (C7 55 27 z7 [l8Copy])})<|t9 h fun e5 h=>om (V.own 20 0 27 0 (a0.length+1)=.own 20 0 27 0 (a0++[l8Copy]).length) (by simp)<|om (s9.deep false 55 27 (a0.length+1) (a0.map z7++[z7 l8Copy])=C7 55 27 z7 (a0++[l8Copy])) (c65 rfl)<|s7 a0<|ob e5<|om (1=1) rfl<|tl (9,{a:=.dck [] [],v:=some (.own 20 0 27 0 (a0++[l8Copy]).length),e:=some (C7 55 27 z7 (a0++[l8Copy]))})<|rg<|(lc.nx h fun hI=>sk [] [1,2,3,4] [(1,0),(2,0),(3,0),(4,0),(20,0)] hI)) (fun h=>(lc.bk h fun hI=>sk [] [1,2,3] [(1,0),(2,0),(3,0),(5,0),(4,0)] hI))
def c03(w:m5):Option m5:=
 (t5 ((([]:List n6).length+w.Told.length)*40<=140737488355328) (((o8 (fun s:(List j6)×Int=>b2p w s.1 s.2) ([],0)).bind fun x=>x.go (fun r=>some r) fun s=>c42 w s)))
theorem e3f{w}:OK W9 [.agg (K7 w)] (c03 w):=
 o7 _ fun r h=>n9<|tk 0 []<|t9 h fun e1 h=>oa 6 0 5 ([]:List n6) w.Told<|oz 76 5 z5 ([]:List n6) w.Told<|A9 n6<|ob e1<|tl (3,{v:=some (.own 6 0 5 0 (([]:List n6)++w.Told).length),e:=some (m6 76 5 z5 (([]:List n6)++w.Told))})<|rg<|lp (f1B w) h (fun _ h=>W9.rt h) (f3V w r) fun hI=>sk [.ownD (.cell 8 0 0) 55 27] [1,2,3,4] [(1,0),(2,0),(8,0),(6,0),(11,0)] hI
def a4Q:FS ((List s6)×t8):=⟨32,Tryz.f32,[.val [some 3] [some 35]],[some (0,.ptr [some 1,none] []),none,none],[.ptr [some 1,none] [],.val C5 U3,.val [] []],fun r=>v6 35 3 J5 r.1,fun r=>[some (.optr 67 (a0b r.2)),none,none],Tryz.func32⟩
def c6i:(t8×List s6)->KS:=fun (w1,out1)=>⟨a4Q.k 4 [false],(bs 7 (.own 1 0 3 0 out1.length::(bs 22 []))),[some [.var 67 [j9 1 K5 w1.b,vi w1.p],.dead,.dead,.dead,.dead],some [m6 35 3 J5 out1]]⟩
def c90(w1:t8)(out1:List s6):Option ((List s6)×t8):=
 some (out1,w1)
theorem e7G(r):NF a4Q r c6i (fun s=>c90 s.1 s.2):=fun (w1,out1) h=>PK<|rg<|s7 out1<|fE h
def d4H(n:Int):(t8×(List s6)×(List n6)×(List x8)×(List l8)×(List j6)×Int)->KS:=fun (r_1,out,Told,d8,d7,a0,i)=>⟨a4Q.k 3 [],(.ptr 0 0 0::(bs 1 (vi n::(bs 1 (.ptr 1 0 0::(bs 2 (.own 2 0 3 0 out.length::(vi i::(bs 21 []))))))))),[some [.var 67 [j9 1 K5 r_1.b,vi r_1.p],.dead,.dead,.dead,.dead],some [.var 30 [.own 6 0 27 0 a0.length,.own 5 0 13 0 d7.length,.own 4 0 3 0 d8.length,.own 3 0 5 0 Told.length]],some [m6 35 3 J5 out],some [m6 76 5 z5 Told],some [m6 73 3 C1 d8],some [m6 83 13 t6 d7],some [C7 55 27 z7 a0]]⟩
def e3i(n:Int)(out:List s6)(i:Int)(l9Event:s6×t8×m5):((List j6)×(List l8)×(List x8)×List n6)->KS:=fun (Nodes1,Net1,Asked1,Told1)=>⟨a4Q.k 8 [true,true],(.ptr 0 0 0::(bs 1 (vi n::(bs 1 (.ptr 1 0 0::(bs 2 (.own 6 0 3 0 (out++[l9Event.1]).length::(vi i::(bs 21 []))))))))),[some [.var 67 [j9 1 K5 l9Event.2.1.b,vi l9Event.2.1.p],.dead,.dead,.dead,.dead],some [.var 30 [.own 2 0 27 0 Nodes1.length,.own 3 0 13 0 Net1.length,.own 4 0 3 0 Asked1.length,.own 5 0 5 0 Told1.length]],some [C7 55 27 z7 Nodes1],some [m6 83 13 t6 Net1],some [m6 73 3 C1 Asked1],some [m6 76 5 z5 Told1],some [m6 35 3 J5 (out++[l9Event.1])]]⟩
def c1V(out:List s6)(i:Int)(l9Event:s6×t8×m5)(Nodes1:List j6)(Net1:List l8)(Asked1:List x8)(Told1:List n6):Option (j7 ((List s6)×t8) (t8×(List s6)×(List n6)×(List x8)×(List l8)×(List j6)×Int) (t8×List s6)):=
 some (j7.nxt (l9Event.2.1,out++[l9Event.1],Told1,Asked1,Net1,Nodes1,m7 (i+1)))
theorem e6c(n out i l9Event)(lc:D2 a4Q c6i (d4H n)):NL lc (e3i n out i l9Event) (fun s=>c1V out i l9Event s.1 s.2.1 s.2.2.1 s.2.2.2):=fun (Nodes1,Net1,Asked1,Told1) h=>PK<|rg<|(lc.nx h fun hI=>sk [] [0,2,4,7,8] [(1,0),(6,0),(5,0),(4,0),(3,0),(2,0)] hI)
def b8E(n:Int)(r_1:t8)(out:List s6)(Told:List n6)(d8:List x8)(d7:List l8)(a0:List j6)(i:Int):Option (j7 ((List s6)×t8) (t8×(List s6)×(List n6)×(List x8)×(List l8)×(List j6)×Int) (t8×List s6)):=
 (bif decide (i<n) then ((b73 r_1 (m5.mk a0 d7 d8 Told)).bind fun l9Event=>(t5 (a0.length=l9Event.2.2.a0.length) ((t5 (d7.length=l9Event.2.2.d7.length) ((t5 (d8.length=l9Event.2.2.d8.length) ((t5 (Told.length=l9Event.2.2.Told.length) ((t5 ((out.length+1)*40<=140737488355328) (((((a22 l9Event.2.2).bind fun A0=>(bif A0 then ((c03 l9Event.2.2).bind fun a8E=>((b3n a8E l9Event.1).bind fun a4T=>some (l9.brk (a4T.a0,a4T.d7,a4T.d8,a4T.Told)))) else some (l9.brk (l9Event.2.2.a0,l9Event.2.2.d7,l9Event.2.2.d8,l9Event.2.2.Told)))):Option (l9 (j7 ((List s6)×t8) (t8×(List s6)×(List n6)×(List x8)×(List l8)×(List j6)×Int) (t8×List s6)) ((List j6)×(List l8)×(List x8)×List n6))).bind fun x=>x.go some fun j=>c1V out i l9Event j.1 j.2.1 j.2.2.1 j.2.2.2)))))))))))) else some (j7.brk (r_1,out)))
set_option maxRecDepth 20000 in
theorem f4z(n):LQ a4Q c6i (d4H n) (fun s=>b8E n s.1 s.2.1 s.2.2.1 s.2.2.2.1 s.2.2.2.2.1 s.2.2.2.2.2.1 s.2.2.2.2.2.2):=fun lc (r_1,out,Told,d8,d7,a0,i) h=>PK<|rg<|j5 2 h (fun h=>rg<|l7 b6C f1M 2 h fun l9Event h=>t9 h fun e1 h=>t9 h fun e2 h=>t9 h fun e3 h=>t9 h fun e4 h=>H9 a0 d7 d8 Told<|rg<|s7 l9Event.1.i6<|tk 2 [none,none,some 4]<|t9 h fun e5 h=>F7 3 18 35 3 40 J5 out l9Event.1 e5<|E5 l9Event.1<|A3 h (e6c n out i l9Event lc) fun x2 h hc2=>rg<|B0 h fun A0 c7Q h=>cdT (J1.t 1 true A0) h (fun _ h=>om (a0I cx.P 61 [.agg [.sl 27 l9Event.2.2.a0.length (a1b (l9Event.2.2.a0.map z7)),j9 13 t6 l9Event.2.2.d7,j9 3 C1 l9Event.2.2.d8,j9 5 z5 l9Event.2.2.Told]] (J1.R A0) (J1.O A0)) (by simp only [c0O c7n];exact (a5u A0 c7Q))<|osc J1 A0 rfl (Q9 1)<|om (a0.length=l9Event.2.2.a0.length) (by first|(simp;done)|(simp [e1,e2,e3,e4];done))<|om (d7.length=l9Event.2.2.d7.length) (by first|(simp;done)|(simp [e1,e2,e3,e4];done))<|om (d8.length=l9Event.2.2.d8.length) (by first|(simp;done)|(simp [e1,e2,e3,e4];done))<|om (Told.length=l9Event.2.2.Told.length) (by first|(simp;done)|(simp [e1,e2,e3,e4];done))<|rg<|B0 h fun a8E e1k h=>om (a0I cx.P 78 [.agg [.sl 27 l9Event.2.2.a0.length (a1b (l9Event.2.2.a0.map z7)),j9 13 t6 l9Event.2.2.d7,j9 3 C1 l9Event.2.2.d8,j9 5 z5 l9Event.2.2.Told]] (W9.R a8E) (W9.O a8E)) (by simp only [c0O c7n];exact (e3f a8E e1k))<|om (a0.length=l9Event.2.2.a0.length) (by first|(simp;done)|(simp [e1,e2,e3,e4];done))<|om (d7.length=l9Event.2.2.d7.length) (by first|(simp;done)|(simp [e1,e2,e3,e4];done))<|om (d8.length=l9Event.2.2.d8.length) (by first|(simp;done)|(simp [e1,e2,e3,e4];done))<|om (Told.length=l9Event.2.2.Told.length) (by first|(simp;done)|(simp [e1,e2,e3,e4];done))<|tl (W9.t 1 false a8E)<|l7 b1Z d6g 3 h fun a4T h=>B4 a8E<|s7 l9Event.1.i6<|(o9 h hc2 fun hI=>sk [] [0,2,4,7,8] [(1,0),(25,0),(25,1),(25,2),(25,3),(18,0)] hI)) (fun _ h=>om (a0I cx.P 61 [.agg [.sl 27 l9Event.2.2.a0.length (a1b (l9Event.2.2.a0.map z7)),j9 13 t6 l9Event.2.2.d7,j9 3 C1 l9Event.2.2.d8,j9 5 z5 l9Event.2.2.Told]] (J1.R A0) (J1.O A0)) (by simp only [c0O c7n];exact (a5u A0 c7Q))<|osc J1 A0 rfl (Q9 1)<|om (a0.length=l9Event.2.2.a0.length) (by first|(simp;done)|(simp [e1,e2,e3,e4];done))<|om (d7.length=l9Event.2.2.d7.length) (by first|(simp;done)|(simp [e1,e2,e3,e4];done))<|om (d8.length=l9Event.2.2.d8.length) (by first|(simp;done)|(simp [e1,e2,e3,e4];done))<|om (Told.length=l9Event.2.2.Told.length) (by first|(simp;done)|(simp [e1,e2,e3,e4];done))<|(o9 h hc2 fun hI=>om ((.own 6 0 27 0 a0.length:V)=.own 6 0 27 0 l9Event.2.2.a0.length) (by first|(simp;done)|(simp [e1,e2,e3,e4];done))<|om ((.own 5 0 13 0 d7.length:V)=.own 5 0 13 0 l9Event.2.2.d7.length) (by first|(simp;done)|(simp [e1,e2,e3,e4];done))<|om ((.own 4 0 3 0 d8.length:V)=.own 4 0 3 0 l9Event.2.2.d8.length) (by first|(simp;done)|(simp [e1,e2,e3,e4];done))<|om ((.own 3 0 5 0 Told.length:V)=.own 3 0 5 0 l9Event.2.2.Told.length) (by first|(simp;done)|(simp [e1,e2,e3,e4];done))<|sk [.is (.cell 1 0 0) (.own 6 0 27 0 l9Event.2.2.a0.length),.is (.cell 1 0 1) (.own 5 0 13 0 l9Event.2.2.d7.length),.is (.cell 1 0 2) (.own 4 0 3 0 l9Event.2.2.d8.length),.is (.cell 1 0 3) (.own 3 0 5 0 l9Event.2.2.Told.length)] [0,2,4,7,8] [(1,0),(6,0),(5,0),(4,0),(3,0),(18,0)] hI))) (fun h=>(lc.bk h fun hI=>sk [] [7] [(2,0)] hI))
def c0r(r_:t8)(w:m5)(n:Int):Option ((List s6)×t8):=
 ((o8 (fun s:t8×(List s6)×(List n6)×(List x8)×(List l8)×(List j6)×Int=>b8E n s.1 s.2.1 s.2.2.1 s.2.2.2.1 s.2.2.2.2.1 s.2.2.2.2.2.1 s.2.2.2.2.2.2) (r_,([]:List s6),w.Told,w.d8,w.d7,w.a0,0)).bind fun x=>x.go (fun r=>some r) fun s=>c90 s.1 s.2)
theorem e92{r_ w n}:OK a4Q [.optr 67 (a0b r_),.agg (V0 w),vi n] (c0r r_ w n):=
 o7 _ fun r h=>n9<|tk 0 [none,none,some 4]<|rg<|lp (f4z n) h (fun _ h=>a4Q.rt h) (e7G r) fun hI=>om ((.own 3 0 3 0 0:V)=.own 3 0 3 0 ([]:List s6).length) (by simp)<|sk [.is (.tmp 7) (.own 3 0 3 0 ([]:List s6).length)] [0,2,4,7,8] [(1,0),(3,0),(0,4),(0,3),(0,2),(0,1)] hI
def a1D:FS (m5×(List s6)×t8):=⟨34,Tryz.f34,[.val C5 U3,.val [some 3] [some 35]],[some (0,.ptr [some 1,none] []),none,none],[.ptr [some 1,none] [],.val C5 U3,.val [some 3] [some 35]],fun r=>.tup [.agg (V0 r.1),v6 35 3 J5 r.2.1],fun r=>[some (.optr 67 (a0b r.2.2)),none,none],Tryz.func34⟩
def c5F(pick:Int×t8)(num:Int×t8):((List s6)×(List j6)×(List l8)×(List x8)×List n6)->KS:=fun (out2,Nodes1,Net1,Asked1,Told1)=>⟨a1D.k 4 [false],(.ptr 0 0 0::(bs 1 (.own 1 0 3 0 out2.length::(bs 1 (.ptr 2 0 0::(bs 1 (.ptr 7 0 0::(bs 1 (vi pick.1::(bs 52 [])))))))))),[some [.var 67 [j9 1 K5 num.2.b,vi num.2.p],.dead,.dead,.dead,.dead,.dead],some [m6 35 3 J5 out2],some [.var 30 [.own 3 0 27 0 Nodes1.length,.own 4 0 13 0 Net1.length,.own 5 0 3 0 Asked1.length,.own 6 0 5 0 Told1.length]],some [C7 55 27 z7 Nodes1],some [m6 83 13 t6 Net1],some [m6 73 3 C1 Asked1],some [m6 76 5 z5 Told1],some [.var 30 [.nil,.nil,.nil,.nil]]]⟩
def e9i(pick:Int×t8):(t8×(List s6)×(List j6)×(List l8)×(List x8)×List n6)->KS:=fun (w1,out3,Nodes2,Net2,Asked2,Told2)=>⟨a1D.k 6 [false,true],(bs 2 (.own 1 0 3 0 out3.length::(bs 1 (.ptr 2 0 0::(bs 1 (.ptr 7 0 0::(bs 1 (vi pick.1::(bs 52 []))))))))),[some [.var 67 [j9 1 K5 w1.b,vi w1.p],.dead,.dead,.dead,.dead,.dead],some [m6 35 3 J5 out3],some [.var 30 [.own 3 0 27 0 Nodes2.length,.own 4 0 13 0 Net2.length,.own 5 0 3 0 Asked2.length,.own 6 0 5 0 Told2.length]],some [C7 55 27 z7 Nodes2],some [m6 83 13 t6 Net2],some [m6 73 3 C1 Asked2],some [m6 76 5 z5 Told2],some [.var 30 [.nil,.nil,.nil,.nil]]]⟩
def c0c(pick:Int×t8)(w1:t8)(out3:List s6)(Nodes2:List j6)(Net2:List l8)(Asked2:List x8)(Told2:List n6):Option (m5×(List s6)×t8):=
 ((a1r (m5.mk Nodes2 Net2 Asked2 Told2) out3 (s6.mk 7 pick.1 [])).bind fun S6=>some (S6.1,S6.2,w1))
theorem f4s(pick)(r):NF a1D r (e9i pick) (fun s=>c0c pick s.1 s.2.1 s.2.2.1 s.2.2.2.1 s.2.2.2.2.1 s.2.2.2.2.2):=fun (w1,out3,Nodes2,Net2,Asked2,Told2) h=>PK<|rg<|l7 a2w a3e 4 h fun S6 h=>H9 Nodes2 Net2 Asked2 Told2<|s7 out3<|B4 S6.1<|s7 S6.2<|fE h
def c61(pick:Int×t8)(num:Int×t8)(out2:List s6)(Nodes1:List j6)(Net1:List l8)(Asked1:List x8)(Told1:List n6):Option (m5×(List s6)×t8):=
 (((bif decide ((Net1.length:Int)>0) then ((G2 num.2 (Net1.length:Int)).bind fun G1=>((a1r (m5.mk Nodes1 Net1 Asked1 Told1) out2 (s6.mk 2 G1.1 [])).bind fun a1W=>some (l9.brk (G1.2,a1W.2,a1W.1.a0,a1W.1.d7,a1W.1.d8,a1W.1.Told)))) else some (l9.brk (num.2,out2,Nodes1,Net1,Asked1,Told1))):Option (l9 (m5×(List s6)×t8) (t8×(List s6)×(List j6)×(List l8)×(List x8)×List n6))).bind fun x=>x.go some fun j=>c0c pick j.1 j.2.1 j.2.2.1 j.2.2.2.1 j.2.2.2.2.1 j.2.2.2.2.2)
theorem e59(pick num)(r):NF a1D r (c5F pick num) (fun s=>c61 pick num s.1 s.2.1 s.2.2.1 s.2.2.2.1 s.2.2.2.2):=fun (out2,Nodes1,Net1,Asked1,Told1) h=>PK<|A3 h (f4s pick r) fun x1 h hc1=>rg<|j5 3 h (fun h=>rg<|l7 G7 G9 6 h fun G1 h=>l7 a2w a3e 8 h fun a1W h=>H9 Nodes1 Net1 Asked1 Told1<|s7 out2<|(o9 h hc1 fun hI=>sk [] [2,4,6,8] [(20,4),(2,0),(20,0),(20,1),(20,2),(20,3),(7,0)] hI)) (fun h=>(o9 h hc1 fun hI=>sk [] [2,4,6,8] [(1,0),(2,0),(3,0),(4,0),(5,0),(6,0),(7,0)] hI))
def d71(pick:Int×t8)(num:Int×t8):((List n6)×(List x8)×(List l8)×(List j6)×(List s6)×Int)->KS:=fun (Told,d8,d7,a0,out1,i)=>⟨a1D.k 3 [],(.ptr 0 0 0::(bs 1 (.own 7 0 3 0 out1.length::(bs 1 (.ptr 1 0 0::(bs 1 (.ptr 2 0 0::(bs 1 (vi pick.1::(vi i::(bs 51 []))))))))))),[some [.var 67 [j9 1 K5 num.2.b,vi num.2.p],.dead,.dead,.dead,.dead,.dead],some [.var 30 [.own 6 0 27 0 a0.length,.own 5 0 13 0 d7.length,.own 4 0 3 0 d8.length,.own 3 0 5 0 Told.length]],some [.var 30 [.nil,.nil,.nil,.nil]],some [m6 76 5 z5 Told],some [m6 73 3 C1 d8],some [m6 83 13 t6 d7],some [C7 55 27 z7 a0],some [m6 35 3 J5 out1]]⟩
def d0v(pick:Int×t8)(num:Int×t8)(i:Int):((List s6)×(List j6)×(List l8)×(List x8)×List n6)->KS:=fun (out5,Nodes4,Net4,Asked4,Told4)=>⟨a1D.k 5 [true,false],(.ptr 0 0 0::(bs 1 (.own 1 0 3 0 out5.length::(bs 1 (.ptr 2 0 0::(bs 1 (.ptr 7 0 0::(bs 1 (vi pick.1::(vi i::(bs 51 []))))))))))),[some [.var 67 [j9 1 K5 num.2.b,vi num.2.p],.dead,.dead,.dead,.dead,.dead],some [m6 35 3 J5 out5],some [.var 30 [.own 3 0 27 0 Nodes4.length,.own 4 0 13 0 Net4.length,.own 5 0 3 0 Asked4.length,.own 6 0 5 0 Told4.length]],some [C7 55 27 z7 Nodes4],some [m6 83 13 t6 Net4],some [m6 73 3 C1 Asked4],some [m6 76 5 z5 Told4],some [.var 30 [.nil,.nil,.nil,.nil]]]⟩
def c7o(pick:Int×t8)(i:Int)(out5:List s6)(Nodes4:List j6)(Net4:List l8)(Asked4:List x8)(Told4:List n6):Option (j7 (m5×(List s6)×t8) ((List n6)×(List x8)×(List l8)×(List j6)×(List s6)×Int) ((List s6)×(List j6)×(List l8)×(List x8)×List n6)):=
 ((a1r (m5.mk Nodes4 Net4 Asked4 Told4) out5 (s6.mk 5 pick.1 [])).bind fun a1Z=>some (j7.nxt (a1Z.1.Told,a1Z.1.d8,a1Z.1.d7,a1Z.1.a0,a1Z.2,m7 (i-1))))
theorem e4r(pick num i)(lc:D2 a1D (c5F pick num) (d71 pick num)):NL lc (d0v pick num i) (fun s=>c7o pick i s.1 s.2.1 s.2.2.1 s.2.2.2.1 s.2.2.2.2):=fun (out5,Nodes4,Net4,Asked4,Told4) h=>PK<|rg<|l7 a2w a3e 4 h fun a1Z h=>H9 Nodes4 Net4 Asked4 Told4<|s7 out5<|rg<|(lc.nx h fun hI=>sk [] [0,2,4,6,8,9] [(2,0),(7,0),(12,3),(12,2),(12,1),(12,0),(12,4)] hI)
def f6J(pick:Int×t8)(num:Int×t8)(i:Int):((List s6)×(List j6)×(List l8)×(List x8)×List n6)->KS:=fun (out4,Nodes3,Net3,Asked3,Told3)=>⟨a1D.k 4 [true],(.ptr 0 0 0::(bs 1 (.own 1 0 3 0 out4.length::(bs 1 (.ptr 2 0 0::(bs 1 (.ptr 7 0 0::(bs 1 (vi pick.1::(vi i::(bs 51 []))))))))))),[some [.var 67 [j9 1 K5 num.2.b,vi num.2.p],.dead,.dead,.dead,.dead,.dead],some [m6 35 3 J5 out4],some [.var 30 [.own 3 0 27 0 Nodes3.length,.own 4 0 13 0 Net3.length,.own 5 0 3 0 Asked3.length,.own 6 0 5 0 Told3.length]],some [C7 55 27 z7 Nodes3],some [m6 83 13 t6 Net3],some [m6 73 3 C1 Asked3],some [m6 76 5 z5 Told3],some [.var 30 [.nil,.nil,.nil,.nil]]]⟩
def a7p(out4:List s6)(Nodes3:List j6)(Net3:List l8)(Asked3:List x8)(Told3:List n6):Option (j7 (m5×(List s6)×t8) ((List s6)×(List j6)×(List l8)×(List x8)×List n6) ((List s6)×(List j6)×(List l8)×(List x8)×List n6)):=
 (bif decide ((Net3.length:Int)>0) then ((a1r (m5.mk Nodes3 Net3 Asked3 Told3) out4 (s6.mk 3 0 [])).bind fun a2h=>some (j7.nxt (a2h.2,a2h.1.a0,a2h.1.d7,a2h.1.d8,a2h.1.Told))) else some (j7.brk (out4,Nodes3,Net3,Asked3,Told3)))
theorem e52(pick num i):LQ a1D (d0v pick num i) (f6J pick num i) (fun s=>a7p s.1 s.2.1 s.2.2.1 s.2.2.2.1 s.2.2.2.2):=fun lc (out4,Nodes3,Net3,Asked3,Told3) h=>PK<|rg<|j5 3 h (fun h=>rg<|l7 a2w a3e 3 h fun a2h h=>H9 Nodes3 Net3 Asked3 Told3<|s7 out4<|(lc.nx h fun hI=>sk [] [0,2,4,6,8,9] [(15,4),(2,0),(15,0),(15,1),(15,2),(15,3),(7,0)] hI)) (fun h=>(lc.bk h fun hI=>sk [] [0,2,4,6,8,9] [(1,0),(2,0),(3,0),(4,0),(5,0),(6,0),(7,0)] hI))
def b05(pick:Int×t8)(Told:List n6)(d8:List x8)(d7:List l8)(a0:List j6)(out1:List s6)(i:Int):Option (j7 (m5×(List s6)×t8) ((List n6)×(List x8)×(List l8)×(List j6)×(List s6)×Int) ((List s6)×(List j6)×(List l8)×(List x8)×List n6)):=
 (bif decide (i>0) then ((o8 (fun s:(List s6)×(List j6)×(List l8)×(List x8)×List n6=>a7p s.1 s.2.1 s.2.2.1 s.2.2.2.1 s.2.2.2.2) (out1,a0,d7,d8,Told)).bind fun x=>x.go (fun r=>some (j7.ret r)) fun s=>c7o pick i s.1 s.2.1 s.2.2.1 s.2.2.2.1 s.2.2.2.2) else some (j7.brk (out1,a0,d7,d8,Told)))
theorem f6Q(pick num):LQ a1D (c5F pick num) (d71 pick num) (fun s=>b05 pick s.1 s.2.1 s.2.2.1 s.2.2.2.1 s.2.2.2.2.1 s.2.2.2.2.2):=fun lc (Told,d8,d7,a0,out1,i) h=>PK<|rg<|j5 1 h (fun h=>lp (e52 pick num i) h (fun _ h=>lc.rt h) (e4r pick num i lc) fun hI=>sk [] [0,2,4,6,8,9] [(7,0),(1,0),(6,0),(5,0),(4,0),(3,0),(2,0)] hI) (fun h=>(lc.bk h fun hI=>sk [] [0,2,4,6,8] [(7,0),(1,0),(6,0),(5,0),(4,0),(3,0),(2,0)] hI))
def b8k(r_:t8)(w:m5)(out:List s6):Option (m5×(List s6)×t8):=
 ((G2 r_ 3).bind fun pick=>((a6Y pick.2 [3,8,20]).bind fun num=>((o8 (fun s:(List n6)×(List x8)×(List l8)×(List j6)×(List s6)×Int=>b05 pick s.1 s.2.1 s.2.2.1 s.2.2.2.1 s.2.2.2.2.1 s.2.2.2.2.2) (w.Told,w.d8,w.d7,w.a0,out,num.1)).bind fun x=>x.go (fun r=>some r) fun s=>c61 pick num s.1 s.2.1 s.2.2.1 s.2.2.2.1 s.2.2.2.2)))
theorem e1N{r_ w out}:OK a1D [.optr 67 (a0b r_),.agg (V0 w),v6 35 3 J5 out] (b8k r_ w out):=
 o7 _ fun r h=>n9<|l7 G7 G9 1 h fun pick h=>rg<|tk 1 []<|l7 a9P b1Y 2 h fun num h=>om (3=[3,8,20].length) (by simp)<|lp (f6Q pick num) h (fun _ h=>a1D.rt h) (e59 pick num r) fun hI=>sk [] [0,2,4,6,8,9] [(1,0),(2,0),(0,4),(0,3),(0,2),(0,1),(0,5)] hI
def Y9:FS ((List s6)×t8):=⟨9,Tryz.f9,[.val [some 3] [some 35]],[some (0,.ptr [some 1,none] [])],[.ptr [some 1,none] []],fun r=>v6 35 3 J5 r.1,fun r=>[some (.optr 67 (a0b r.2))],Tryz.func9⟩
def f1V:(t8×(List j6)×(List l8)×(List x8)×(List n6)×List s6)->KS:=fun (r_1,a0,d7,d8,Told,out)=>⟨Y9.k 5 [false,true],(.ptr 0 0 0::(bs 2 (.ptr 1 0 0::(.own 6 0 3 0 out.length::(bs 126 []))))),[some [.var 67 [j9 1 K5 r_1.b,vi r_1.p]],some [.var 30 [.own 2 0 27 0 a0.length,.own 3 0 13 0 d7.length,.own 4 0 3 0 d8.length,.own 5 0 5 0 Told.length]],some [C7 55 27 z7 a0],some [m6 83 13 t6 d7],some [m6 73 3 C1 d8],some [m6 76 5 z5 Told],some [m6 35 3 J5 out]]⟩
def b5P:(t8×List s6)->KS:=fun (w,out2)=>⟨Y9.k 7 [false,true,false],(bs 4 (.own 1 0 3 0 out2.length::(bs 126 []))),[some [.var 67 [j9 1 K5 w.b,vi w.p]],some [m6 35 3 J5 out2]]⟩
def d6M(w:t8)(out2:List s6):Option ((List s6)×t8):=
 some (out2,w)
theorem e51(r):NF Y9 r b5P (fun s=>d6M s.1 s.2):=fun (w,out2) h=>PK<|rg<|s7 out2<|fE h
def c5b:(t8×(List j6)×(List l8)×(List x8)×(List n6)×(List s6)×Int)->KS:=fun (r_2,Nodes1,Net1,Asked1,Told1,out1,i)=>⟨Y9.k 6 [false,true],(.ptr 0 0 0::(bs 2 (.ptr 1 0 0::(.own 6 0 3 0 out1.length::(vi i::(bs 125 [])))))),[some [.var 67 [j9 1 K5 r_2.b,vi r_2.p]],some [.var 30 [.own 2 0 27 0 Nodes1.length,.own 3 0 13 0 Net1.length,.own 4 0 3 0 Asked1.length,.own 5 0 5 0 Told1.length]],some [C7 55 27 z7 Nodes1],some [m6 83 13 t6 Net1],some [m6 73 3 C1 Asked1],some [m6 76 5 z5 Told1],some [m6 35 3 J5 out1]]⟩
def c5T(i:Int):(t8×(List j6)×(List l8)×(List x8)×(List n6)×List s6)->KS:=fun (r_4,Nodes3,Net3,Asked3,Told3,out4)=>⟨Y9.k 9 [false,true,true,false],(.ptr 0 0 0::(bs 2 (.ptr 1 0 0::(.own 6 0 3 0 out4.length::(vi i::(bs 125 [])))))),[some [.var 67 [j9 1 K5 r_4.b,vi r_4.p]],some [.var 30 [.own 2 0 27 0 Nodes3.length,.own 3 0 13 0 Net3.length,.own 4 0 3 0 Asked3.length,.own 5 0 5 0 Told3.length]],some [C7 55 27 z7 Nodes3],some [m6 83 13 t6 Net3],some [m6 73 3 C1 Asked3],some [m6 76 5 z5 Told3],some [m6 35 3 J5 out4]]⟩
def f0J(i:Int):(t8×(List j6)×(List l8)×(List x8)×(List n6)×List s6)->KS:=fun (r_5,Nodes4,Net4,Asked4,Told4,out5)=>⟨Y9.k 12 [false,true,true,false,true],(.ptr 0 0 0::(bs 2 (.ptr 1 0 0::(.own 6 0 3 0 out5.length::(vi i::(bs 125 [])))))),[some [.var 67 [j9 1 K5 r_5.b,vi r_5.p]],some [.var 30 [.own 2 0 27 0 Nodes4.length,.own 3 0 13 0 Net4.length,.own 4 0 3 0 Asked4.length,.own 5 0 5 0 Told4.length]],some [C7 55 27 z7 Nodes4],some [m6 83 13 t6 Net4],some [m6 73 3 C1 Asked4],some [m6 76 5 z5 Told4],some [m6 35 3 J5 out5]]⟩
def b6M(i:Int)(r_5:t8)(Nodes4:List j6)(Net4:List l8)(Asked4:List x8)(Told4:List n6)(out5:List s6):Option (j7 ((List s6)×t8) (t8×(List j6)×(List l8)×(List x8)×(List n6)×(List s6)×Int) (t8×List s6)):=
 ((G2 r_5 3).bind fun a3A=>((a1r (m5.mk Nodes4 Net4 Asked4 Told4) out5 (s6.mk 6 a3A.1 [])).bind fun a1Z=>some (j7.nxt (a3A.2,a1Z.1.a0,a1Z.1.d7,a1Z.1.d8,a1Z.1.Told,a1Z.2,m7 (i-1)))))
theorem d9E(i)(lc:D2 Y9 b5P c5b):NL lc (f0J i) (fun s=>b6M i s.1 s.2.1 s.2.2.1 s.2.2.2.1 s.2.2.2.2.1 s.2.2.2.2.2):=fun (r_5,Nodes4,Net4,Asked4,Told4,out5) h=>PK<|rg<|l7 G7 G9 3 h fun a3A h=>l7 a2w a3e 5 h fun a1Z h=>H9 Nodes4 Net4 Asked4 Told4<|s7 out5<|rg<|(lc.nx h fun hI=>sk [] [0,3,4,5] [(1,0),(12,0),(12,1),(12,2),(12,3),(12,4)] hI)
def c1m(i:Int)(r_4:t8)(Nodes3:List j6)(Net3:List l8)(Asked3:List x8)(Told3:List n6)(out4:List s6):Option (j7 ((List s6)×t8) (t8×(List j6)×(List l8)×(List x8)×(List n6)×(List s6)×Int) (t8×List s6)):=
 ((G2 r_4 4).bind fun X2=>(((bif (X2.1==0) then ((G2 X2.2 3).bind fun a75=>((a1r (m5.mk Nodes3 Net3 Asked3 Told3) out4 (s6.mk 7 a75.1 [])).bind fun a2h=>some (l9.brk (a75.2,a2h.1.a0,a2h.1.d7,a2h.1.d8,a2h.1.Told,a2h.2)))) else (bif (X2.1==1) then ((G2 X2.2 3).bind fun a8B=>((a1r (m5.mk Nodes3 Net3 Asked3 Told3) out4 (s6.mk 5 a8B.1 [])).bind fun b0i=>some (l9.brk (a8B.2,b0i.1.a0,b0i.1.d7,b0i.1.d8,b0i.1.Told,b0i.2)))) else some (l9.brk (X2.2,Nodes3,Net3,Asked3,Told3,out4)))):Option (l9 (j7 ((List s6)×t8) (t8×(List j6)×(List l8)×(List x8)×(List n6)×(List s6)×Int) (t8×List s6)) (t8×(List j6)×(List l8)×(List x8)×(List n6)×List s6))).bind fun x=>x.go some fun j=>b6M i j.1 j.2.1 j.2.2.1 j.2.2.2.1 j.2.2.2.2.1 j.2.2.2.2.2))
theorem f7s(i)(lc:D2 Y9 b5P c5b):NL lc (c5T i) (fun s=>c1m i s.1 s.2.1 s.2.2.1 s.2.2.2.1 s.2.2.2.2.1 s.2.2.2.2.2):=fun (r_4,Nodes3,Net3,Asked3,Told3,out4) h=>PK<|rg<|l7 G7 G9 1 h fun X2 h=>A3 h (d9E i lc) fun x2 h hc2=>rg<|j5 1 h (fun h=>rg<|l7 G7 G9 3 h fun a75 h=>l7 a2w a3e 5 h fun a2h h=>H9 Nodes3 Net3 Asked3 Told3<|s7 out4<|(o9 h hc2 fun hI=>sk [] [0,3,4,5] [(1,0),(16,0),(16,1),(16,2),(16,3),(16,4)] hI)) (fun h=>rg<|j5 1 h (fun h=>rg<|l7 G7 G9 3 h fun a8B h=>l7 a2w a3e 5 h fun b0i h=>H9 Nodes3 Net3 Asked3 Told3<|s7 out4<|(o9 h hc2 fun hI=>sk [] [0,3,4,5] [(1,0),(18,0),(18,1),(18,2),(18,3),(18,4)] hI)) (fun h=>(o9 h hc2 fun hI=>sk [] [0,3,4,5] [(1,0),(2,0),(3,0),(4,0),(5,0),(6,0)] hI)))
def c9P(i:Int):(t8×(List j6)×(List l8)×(List x8)×(List n6)×List s6)->KS:=fun (r_3,Nodes2,Net2,Asked2,Told2,out3)=>⟨Y9.k 8 [false,true,true],(.ptr 0 0 0::(bs 2 (.ptr 1 0 0::(.own 6 0 3 0 out3.length::(vi i::(bs 125 [])))))),[some [.var 67 [j9 1 K5 r_3.b,vi r_3.p]],some [.var 30 [.own 2 0 27 0 Nodes2.length,.own 3 0 13 0 Net2.length,.own 4 0 3 0 Asked2.length,.own 5 0 5 0 Told2.length]],some [C7 55 27 z7 Nodes2],some [m6 83 13 t6 Net2],some [m6 73 3 C1 Asked2],some [m6 76 5 z5 Told2],some [m6 35 3 J5 out3]]⟩
def f7H(i:Int):(t8×(List j6)×(List l8)×(List x8)×(List n6)×List s6)->KS:=fun (r_6,Nodes5,Net5,Asked5,Told5,out6)=>⟨Y9.k 11 [false,true,true,true,true],(.ptr 0 0 0::(bs 2 (.ptr 1 0 0::(.own 6 0 3 0 out6.length::(vi i::(bs 125 [])))))),[some [.var 67 [j9 1 K5 r_6.b,vi r_6.p]],some [.var 30 [.own 2 0 27 0 Nodes5.length,.own 3 0 13 0 Net5.length,.own 4 0 3 0 Asked5.length,.own 5 0 5 0 Told5.length]],some [C7 55 27 z7 Nodes5],some [m6 83 13 t6 Net5],some [m6 73 3 C1 Asked5],some [m6 76 5 z5 Told5],some [m6 35 3 J5 out6]]⟩
def b63(r_6:t8)(Nodes5:List j6)(Net5:List l8)(Asked5:List x8)(Told5:List n6)(out6:List s6):Option (j7 ((List s6)×t8) (t8×(List j6)×(List l8)×(List x8)×(List n6)×List s6) (t8×(List j6)×(List l8)×(List x8)×(List n6)×List s6)):=
 ((G2 r_6 (Net5.length:Int)).bind fun a5I=>((a6Y a5I.2 [0,0,a5I.1]).bind fun a7S=>((a1r (m5.mk Nodes5 Net5 Asked5 Told5) out6 (s6.mk 2 a7S.1 [])).bind fun b0S=>some (j7.nxt (a7S.2,b0S.1.a0,b0S.1.d7,b0S.1.d8,b0S.1.Told,b0S.2)))))
theorem f3f(i)(lc:D2 Y9 (c5T i) (c9P i)):NL lc (f7H i) (fun s=>b63 s.1 s.2.1 s.2.2.1 s.2.2.2.1 s.2.2.2.2.1 s.2.2.2.2.2):=fun (r_6,Nodes5,Net5,Asked5,Told5,out6) h=>PK<|rg<|l7 G7 G9 7 h fun a5I h=>tk 8 []<|l7 a9P b1Y 9 h fun a7S h=>om (3=[0,0,a5I.1].length) (by simp)<|l7 a2w a3e 11 h fun b0S h=>H9 Nodes5 Net5 Asked5 Told5<|s7 out6<|(lc.nx h fun hI=>sk [] [0,3,4,5] [(1,0),(18,0),(18,1),(18,2),(18,3),(18,4)] hI)
def b3g(r_3:t8)(Nodes2:List j6)(Net2:List l8)(Asked2:List x8)(Told2:List n6)(out3:List s6):Option (j7 ((List s6)×t8) (t8×(List j6)×(List l8)×(List x8)×(List n6)×List s6) (t8×(List j6)×(List l8)×(List x8)×(List n6)×List s6)):=
 (bif decide ((Net2.length:Int)>0) then ((G2 r_3 9).bind fun a4E=>(bif decide (a4E.1>0) then (bif decide ((out3.length:Int)<200) then ((((G2 a4E.2 8).bind fun a6a=>(bif (a6a.1==0) then ((G2 a6a.2 (Net2.length:Int)).bind fun a6F=>((a1r (m5.mk Nodes2 Net2 Asked2 Told2) out3 (s6.mk 4 a6F.1 [])).bind fun b1h=>some (l9.brk (a6F.2,b1h.1.a0,b1h.1.d7,b1h.1.d8,b1h.1.Told,b1h.2)))) else some (l9.brk (a6a.2,Nodes2,Net2,Asked2,Told2,out3)))):Option (l9 (j7 ((List s6)×t8) (t8×(List j6)×(List l8)×(List x8)×(List n6)×List s6) (t8×(List j6)×(List l8)×(List x8)×(List n6)×List s6)) (t8×(List j6)×(List l8)×(List x8)×(List n6)×List s6))).bind fun x=>x.go some fun j=>b63 j.1 j.2.1 j.2.2.1 j.2.2.2.1 j.2.2.2.2.1 j.2.2.2.2.2) else some (j7.brk (a4E.2,Nodes2,Net2,Asked2,Told2,out3))) else some (j7.brk (a4E.2,Nodes2,Net2,Asked2,Told2,out3)))) else some (j7.brk (r_3,Nodes2,Net2,Asked2,Told2,out3)))
theorem f5r(i):LQ Y9 (c5T i) (c9P i) (fun s=>b3g s.1 s.2.1 s.2.2.1 s.2.2.2.1 s.2.2.2.2.1 s.2.2.2.2.2):=fun lc (r_3,Nodes2,Net2,Asked2,Told2,out3) h=>PK<|rg<|j5 4 h (fun h=>l7 G7 G9 6 h fun a4E h=>j5 9 h (fun h=>j5 13 h (fun h=>A3 h (f3f i lc) fun x3 h hc3=>rg<|l7 G7 G9 1 h fun a6a h=>j5 2 h (fun h=>rg<|l7 G7 G9 6 h fun a6F h=>l7 a2w a3e 8 h fun b1h h=>H9 Nodes2 Net2 Asked2 Told2<|s7 out3<|(o9 h hc3 fun hI=>sk [] [0,3,4,5] [(1,0),(32,0),(32,1),(32,2),(32,3),(32,4)] hI)) (fun h=>(o9 h hc3 fun hI=>sk [] [0,3,4,5] [(1,0),(2,0),(3,0),(4,0),(5,0),(6,0)] hI))) (fun h=>(lc.bk h fun hI=>sk [] [0,3,4,5] [(1,0),(2,0),(3,0),(4,0),(5,0),(6,0)] hI))) (fun h=>(lc.bk h fun hI=>sk [] [0,3,4,5] [(1,0),(2,0),(3,0),(4,0),(5,0),(6,0)] hI))) (fun h=>(lc.bk h fun hI=>sk [] [0,3,4,5] [(1,0),(2,0),(3,0),(4,0),(5,0),(6,0)] hI))
def b0H(r_2:t8)(Nodes1:List j6)(Net1:List l8)(Asked1:List x8)(Told1:List n6)(out1:List s6)(i:Int):Option (j7 ((List s6)×t8) (t8×(List j6)×(List l8)×(List x8)×(List n6)×(List s6)×Int) (t8×List s6)):=
 (bif decide (i>0) then ((G2 r_2 3).bind fun Z2=>((a5A Z2.2).bind fun a46=>((a1r (m5.mk Nodes1 Net1 Asked1 Told1) out1 (s6.mk 1 Z2.1 a46.1)).bind fun a1W=>((o8 (fun s:t8×(List j6)×(List l8)×(List x8)×(List n6)×List s6=>b3g s.1 s.2.1 s.2.2.1 s.2.2.2.1 s.2.2.2.2.1 s.2.2.2.2.2) (a46.2,a1W.1.a0,a1W.1.d7,a1W.1.d8,a1W.1.Told,a1W.2)).bind fun x=>x.go (fun r=>some (j7.ret r)) fun s=>c1m i s.1 s.2.1 s.2.2.1 s.2.2.2.1 s.2.2.2.2.1 s.2.2.2.2.2)))) else some (j7.brk (r_2,out1)))
theorem e9j:LQ Y9 b5P c5b (fun s=>b0H s.1 s.2.1 s.2.2.1 s.2.2.2.1 s.2.2.2.2.1 s.2.2.2.2.2.1 s.2.2.2.2.2.2):=fun lc (r_2,Nodes1,Net1,Asked1,Told1,out1,i) h=>PK<|rg<|j5 1 h (fun h=>rg<|l7 G7 G9 3 h fun Z2 h=>l7 a3v b5b 5 h fun a46 h=>l7 a2w a3e 7 h fun a1W h=>H9 Nodes1 Net1 Asked1 Told1<|C9 out1 a46.1<|lp (f5r i) h (fun _ h=>lc.rt h) (f7s i lc) fun hI=>sk [] [0,3,4,5] [(1,0),(16,0),(16,1),(16,2),(16,3),(16,4)] hI) (fun h=>(lc.bk h fun hI=>sk [] [4] [(6,0)] hI))
def c0a(r_1:t8)(a0:List j6)(d7:List l8)(d8:List x8)(Told:List n6)(out:List s6):Option ((List s6)×t8):=
 ((G2 r_1 3).bind fun a0o=>((o8 (fun s:t8×(List j6)×(List l8)×(List x8)×(List n6)×(List s6)×Int=>b0H s.1 s.2.1 s.2.2.1 s.2.2.2.1 s.2.2.2.2.1 s.2.2.2.2.2.1 s.2.2.2.2.2.2) (a0o.2,a0,d7,d8,Told,out,m7 (3+a0o.1))).bind fun x=>x.go (fun r=>some r) fun s=>d6M s.1 s.2))
theorem e6n(r):NF Y9 r f1V (fun s=>c0a s.1 s.2.1 s.2.2.1 s.2.2.2.1 s.2.2.2.2.1 s.2.2.2.2.2):=fun (r_1,a0,d7,d8,Told,out) h=>PK<|rg<|l7 G7 G9 1 h fun a0o h=>lp (e9j) h (fun _ h=>Y9.rt h) (e51 r) fun hI=>sk [] [0,3,4,5] [(1,0),(2,0),(3,0),(4,0),(5,0),(6,0)] hI
def b9D(r_:t8):Option ((List s6)×t8):=
 ((c07).bind fun a8m=>((G2 r_ 3).bind fun pick=>((a1r a8m [] (s6.mk 5 pick.1 [])).bind fun S6=>((G2 pick.2 3).bind fun G1=>(bif decide (G1.1>0) then ((a6Y G1.2 [10,30,60,90]).bind fun num=>((c0r num.2 S6.1 num.1).bind fun a7D=>(t5 ((S6.2.length+a7D.1.length)*40<=140737488355328) (some (S6.2++a7D.1,a7D.2))))) else ((((G2 G1.2 5).bind fun a7b=>(bif (a7b.1==0) then ((b8k a7b.2 S6.1 S6.2).bind fun a9b=>some (l9.brk (a9b.2.2,a9b.1.a0,a9b.1.d7,a9b.1.d8,a9b.1.Told,a9b.2.1))) else some (l9.brk (a7b.2,S6.1.a0,S6.1.d7,S6.1.d8,S6.1.Told,S6.2)))):Option (l9 ((List s6)×t8) (t8×(List j6)×(List l8)×(List x8)×(List n6)×List s6))).bind fun x=>x.go some fun j=>c0a j.1 j.2.1 j.2.2.1 j.2.2.2.1 j.2.2.2.2.1 j.2.2.2.2.2))))))
theorem e4t{r_}:OK Y9 [.optr 67 (a0b r_)] (b9D r_):=
 o7 _ fun r h=>n9<|l7 a8H f0h 0 h fun a8m h=>l7 G7 G9 2 h fun pick h=>l7 a2w a3e 4 h fun S6 h=>B4 a8m<|rg<|l7 G7 G9 1 h fun G1 h=>j5 2 h (fun h=>rg<|tk 4 []<|l7 a9P b1Y 5 h fun num h=>om (4=[10,30,60,90].length) (by simp)<|l7 a4Q e92 6 h fun a7D h=>B4 S6.1<|t9 h fun e1 h=>apL 7 23 35 3 40 J5 S6.2 a7D.1 e1<|C9 a7D.1 (S6.2++a7D.1)<|fE h) (fun h=>A3 h (e6n r) fun x1 h hc1=>rg<|l7 G7 G9 1 h fun a7b h=>j5 2 h (fun h=>rg<|l7 a1D e1N 3 h fun a9b h=>B4 S6.1<|s7 S6.2<|(o9 h hc1 fun hI=>sk [] [0,3,4] [(10,0),(22,0),(22,1),(22,2),(22,3),(22,4)] hI)) (fun h=>(o9 h hc1 fun hI=>sk [] [0,3,4] [(10,0),(6,0),(6,1),(6,2),(6,3),(6,4)] hI)))
def d55:FS (List s6):=⟨4,Tryz.f4,[.val [some 3] []],[none],[.val [some 1] []],fun r=>j9 3 J5 r,fun _=>[none],Tryz.func4⟩
def b8C(code:List Int):Option (List s6):=
 ((b7Y code).bind fun d17=>((b9D d17).bind fun c3S=>some c3S.1))
theorem f5V{code}:OK d55 [j9 1 K5 code] (b8C code):=
 o7 _ fun r h=>n9<|l7 b8K e4e 1 h fun d17 h=>l7 Y9 e4t 2 h fun c3S h=>s7 c3S.1<|fE h
def D5:FS (Bool):=⟨36,Tryz.f36,[.val [] []],[none,none,none],[.val [] [],.val [] [],.val [] []],fun r=>.b r,fun _=>[none,none,none],Tryz.func36⟩
def D9(n:Int)(low:Int)(high:Int):Option Bool:=
 (bif decide (n>=low) then some (decide (n<=high)) else some false)
theorem F8{n low high}:OK D5 [vi n,vi low,vi high] (D9 n low high):=
 o7 _ fun r h=>n9<|j5 3 h (fun h=>fE h) (fun h=>fE h)
def d2i:FS (j6):=⟨11,Tryz.f11,[.val A8 []],[none],[.val [] []],fun r=>.agg (x6 r),fun _=>[none],Tryz.func11⟩
def b7w(id:Int):Option j6:=
 ((D9 id 0 2).bind fun in_=>(bif (!in_) then some (j6.mk 0 (z0.mk 0 []) [] 0 0 0 [] [] (m4.mk false (n5.mk 0 0) (n7.mk [] [] 0 0)) [] false [] (m4.mk false (n5.mk 0 0) (n7.mk [] [] 0 0)) []) else some (j6.mk id (z0.mk 0 []) [] 0 0 0 [] [] (m4.mk false (n5.mk 0 0) (n7.mk [] [] 0 0)) [] false [] (m4.mk false (n5.mk 0 0) (n7.mk [] [] 0 0)) [])))
theorem e4o{id}:OK d2i [vi id] (b7w id):=
 o7 _ fun r h=>n9<|l7 D5 F8 1 h fun in_ h=>j5 2 h (fun h=>rg<|fE h) (fun h=>rg<|fE h)
def d5O:FS (List j6):=⟨37,Tryz.f37,[.val [some 27] [some 55]],[none],[.val [some 27] []],fun r=>v6 55 27 x6 r,fun _=>[none],Tryz.func37⟩
def c2G(list:List j6):Option (List j6):=
 (bif ((list.length:Int)==0) then some [] else (t5 (0<=(list.length:Int)/\(list.length:Int)*392<=140737488355328) ((t5 (list.length=(f8A (list.length:Int).toNat (j6.mk 0 (z0.mk 0 []) [] 0 0 0 [] [] (m4.mk false (n5.mk 0 0) (n7.mk [] [] 0 0)) [] false [] (m4.mk false (n5.mk 0 0) (n7.mk [] [] 0 0)) [])).length) (some list)))))
theorem f1l{list}:OK d5O [j9 27 x6 list] (c2G list):=
 o7 _ fun r h=>n9<|j5 2 h (fun h=>rg<|fE h) (fun h=>rg<|t9 h fun e1 h=>T1 2 7 55 27 392 x6 (j6.mk 0 (z0.mk 0 []) [] 0 0 0 [] [] (m4.mk false (n5.mk 0 0) (n7.mk [] [] 0 0)) [] false [] (m4.mk false (n5.mk 0 0) (n7.mk [] [] 0 0)) []) c4c (.ck A8) e1 (by decide) (by rfl)<|rg<|t9 h fun e2 h=>om (s9.row 55 27 (f8A (list.length:Int).toNat (j6.mk 0 (z0.mk 0 []) [] 0 0 0 [] [] (m4.mk false (n5.mk 0 0) (n7.mk [] [] 0 0)) [] false [] (m4.mk false (n5.mk 0 0) (n7.mk [] [] 0 0)) [])).length (list.map x6)=m6 55 27 x6 list) (a1p e2)<|s7 (f8A (list.length:Int).toNat (j6.mk 0 (z0.mk 0 []) [] 0 0 0 [] [] (m4.mk false (n5.mk 0 0) (n7.mk [] [] 0 0)) [] false [] (m4.mk false (n5.mk 0 0) (n7.mk [] [] 0 0)) []))<|ob e2<|tl (2,{e:=some (m6 55 27 x6 list)})<|rg<|om ((f8A (list.length:Int).toNat (j6.mk 0 (z0.mk 0 []) [] 0 0 0 [] [] (m4.mk false (n5.mk 0 0) (n7.mk [] [] 0 0)) [] false [] (m4.mk false (n5.mk 0 0) (n7.mk [] [] 0 0)) [])).length=list.length) (by simp)<|fE h)
def d4h:FS (List l8):=⟨80,Tryz.f80,[.val [some 13] [some 83]],[none],[.val [some 13] []],fun r=>v6 83 13 t6 r,fun _=>[none],Tryz.func80⟩
def c7d(list:List l8):Option (List l8):=
 (bif ((list.length:Int)==0) then some [] else (t5 (0<=(list.length:Int)/\(list.length:Int)*152<=140737488355328) ((t5 (list.length=(f8A (list.length:Int).toNat (l8.mk 0 0 0 0 0 (m4.mk false (n5.mk 0 0) (n7.mk [] [] 0 0)) [])).length) (some list)))))
theorem f5f{list}:OK d4h [j9 13 t6 list] (c7d list):=
 o7 _ fun r h=>n9<|j5 2 h (fun h=>rg<|fE h) (fun h=>rg<|t9 h fun e1 h=>T1 2 7 83 13 152 t6 (l8.mk 0 0 0 0 0 (m4.mk false (n5.mk 0 0) (n7.mk [] [] 0 0)) []) c5l (.ck C2) e1 (by decide) (by rfl)<|rg<|t9 h fun e2 h=>om (s9.row 83 13 (f8A (list.length:Int).toNat (l8.mk 0 0 0 0 0 (m4.mk false (n5.mk 0 0) (n7.mk [] [] 0 0)) [])).length (list.map t6)=m6 83 13 t6 list) (a1p e2)<|s7 (f8A (list.length:Int).toNat (l8.mk 0 0 0 0 0 (m4.mk false (n5.mk 0 0) (n7.mk [] [] 0 0)) []))<|ob e2<|tl (2,{e:=some (m6 83 13 t6 list)})<|rg<|om ((f8A (list.length:Int).toNat (l8.mk 0 0 0 0 0 (m4.mk false (n5.mk 0 0) (n7.mk [] [] 0 0)) [])).length=list.length) (by simp)<|fE h)
def a2z:FS (List r9):=⟨192,Tryz.f192,[.val [some 2] [some 174]],[none],[.val [some 2] []],fun r=>v6 174 2 w8 r,fun _=>[none],Tryz.func192⟩
def a20(list:List r9):Option (List r9):=
 (bif ((list.length:Int)==0) then some [] else (t5 (0<=(list.length:Int)/\(list.length:Int)*16<=140737488355328) ((t5 (list.length=(f8A (list.length:Int).toNat (r9.mk 0 0)).length) (some list)))))
theorem b06{list}:OK a2z [j9 2 w8 list] (a20 list):=
 o7 _ fun r h=>n9<|j5 2 h (fun h=>rg<|fE h) (fun h=>rg<|t9 h fun e1 h=>T1 2 7 174 2 16 w8 (r9.mk 0 0) c2B (.none) e1 (by decide) (by rfl)<|rg<|t9 h fun e2 h=>om (s9.row 174 2 (f8A (list.length:Int).toNat (r9.mk 0 0)).length (list.map w8)=m6 174 2 w8 list) (a1p e2)<|s7 (f8A (list.length:Int).toNat (r9.mk 0 0))<|ob e2<|tl (2,{e:=some (m6 174 2 w8 list)})<|rg<|om ((f8A (list.length:Int).toNat (r9.mk 0 0)).length=list.length) (by simp)<|fE h)
def b69:FS (List p8):=⟨193,Tryz.f193,[.val [some 2] [some 177]],[none],[.val [some 2] []],fun r=>v6 177 2 w9 r,fun _=>[none],Tryz.func193⟩
def a9m(list:List p8):Option (List p8):=
 (bif ((list.length:Int)==0) then some [] else (t5 (0<=(list.length:Int)/\(list.length:Int)*16<=140737488355328) ((t5 (list.length=(f8A (list.length:Int).toNat (p8.mk 0 0)).length) (some list)))))
theorem d2T{list}:OK b69 [j9 2 w9 list] (a9m list):=
 o7 _ fun r h=>n9<|j5 2 h (fun h=>rg<|fE h) (fun h=>rg<|t9 h fun e1 h=>T1 2 7 177 2 16 w9 (p8.mk 0 0) c46 (.none) e1 (by decide) (by rfl)<|rg<|t9 h fun e2 h=>om (s9.row 177 2 (f8A (list.length:Int).toNat (p8.mk 0 0)).length (list.map w9)=m6 177 2 w9 list) (a1p e2)<|s7 (f8A (list.length:Int).toNat (p8.mk 0 0))<|ob e2<|tl (2,{e:=some (m6 177 2 w9 list)})<|rg<|om ((f8A (list.length:Int).toNat (p8.mk 0 0)).length=list.length) (by simp)<|fE h)
def d1k:FS (n7):=⟨136,Tryz.f136,[.val O7 []],[none],[.val O7 []],fun r=>.agg (S4 r),fun _=>[none],Tryz.func136⟩
def c5n(r_:n7):Option n7:=
 ((a20 r_.b5).bind fun read=>((a9m r_.b7).bind fun put=>some (n7.mk read put r_.d9 r_.Code)))
theorem e6U{r_}:OK d1k [.agg (S4 r_)] (c5n r_):=
 o7 _ fun r h=>n9<|l7 a2z b06 2 h fun read h=>l7 b69 d2T 5 h fun put h=>C9 read put<|fE h
def b0K:FS (m4):=⟨86,Tryz.f86,[.val J3 []],[none],[.val J3 []],fun r=>.agg (s5 r),fun _=>[none],Tryz.func86⟩
def a65(e_:m4):Option m4:=
 ((c5n e_.b6).bind fun d70=>some (m4.mk e_.i7 e_.a5 d70))
theorem b2v{e_}:OK b0K [.agg (s5 e_)] (a65 e_):=
 o7 _ fun r h=>n9<|l7 d1k e6U 6 h fun d70 h=>fE h
def d8a:FS (List m8):=⟨135,Tryz.f135,[.val [some 8] [some 89]],[none],[.val [some 8] []],fun r=>v6 89 8 q8 r,fun _=>[none],Tryz.func135⟩
def c2p(list:List m8):Option (List m8):=
 (bif ((list.length:Int)==0) then some [] else (t5 (0<=(list.length:Int)/\(list.length:Int)*96<=140737488355328) ((t5 (list.length=(f8A (list.length:Int).toNat (m8.mk 0 (m4.mk false (n5.mk 0 0) (n7.mk [] [] 0 0)))).length) (some list)))))
theorem f3D{list}:OK d8a [j9 8 q8 list] (c2p list):=
 o7 _ fun r h=>n9<|j5 2 h (fun h=>rg<|fE h) (fun h=>rg<|t9 h fun e1 h=>T1 2 7 89 8 96 q8 (m8.mk 0 (m4.mk false (n5.mk 0 0) (n7.mk [] [] 0 0))) b2k (.ck U9) e1 (by decide) (by rfl)<|rg<|t9 h fun e2 h=>om (s9.row 89 8 (f8A (list.length:Int).toNat (m8.mk 0 (m4.mk false (n5.mk 0 0) (n7.mk [] [] 0 0)))).length (list.map q8)=m6 89 8 q8 list) (a1p e2)<|s7 (f8A (list.length:Int).toNat (m8.mk 0 (m4.mk false (n5.mk 0 0) (n7.mk [] [] 0 0))))<|ob e2<|tl (2,{e:=some (m6 89 8 q8 list)})<|rg<|om ((f8A (list.length:Int).toNat (m8.mk 0 (m4.mk false (n5.mk 0 0) (n7.mk [] [] 0 0)))).length=list.length) (by simp)<|fE h)
def a3J:FS (List m8):=⟨85,Tryz.f85,[.val [some 8] [some 89]],[none],[.val [some 8] []],fun r=>v6 89 8 q8 r,fun _=>[none],Tryz.func85⟩
def d7X:(List m8)->KS:=fun out1=>⟨a3J.k 4 [false],(bs 3 (.own 1 0 8 0 out1.length::(bs 20 []))),[some [],some [m6 89 8 q8 out1]]⟩
def d8t(out1:List m8):Option (List m8):=
 some out1
theorem e3B(r):NF a3J r d7X (fun s=>d8t s):=fun out1 h=>PK<|rg<|s7 out1<|fE h
def e0e(vote:List m8):((List m8)×Int)->KS:=fun (out,v9)=>⟨a3J.k 3 [],(bs 3 (.own 1 0 8 0 out.length::(bs 4 (vi (vote.length:Int)::(vi v9::(bs 14 [])))))),[some [],some [m6 89 8 q8 out]]⟩
def b7z(vote:List m8)(out:List m8)(v9:Int):Option (j7 (List m8) ((List m8)×Int) (List m8)):=
 (bif decide (v9<(vote.length:Int)) then ((idx out v9).bind fun T2=>((a65 T2.g9).bind fun a0d=>some (j7.nxt (out.set v9.toNat (m8.mk T2.a8 a0d),m7 (v9+1))))) else some (j7.brk out))
theorem e2Q(vote):LQ a3J d7X (e0e vote) (fun s=>b7z vote s.1 s.2):=fun lc (out,v9) h=>PK<|rg<|j5 0 h (fun h=>n9<|B0 h fun T2 a3Q h=>C0 a3Q<|I4 q8 6 a3Q<|l7 b0K b2v 7 h fun a0d h=>C0 a3Q<|Q6 89 8 q8 10 J3 (m8.mk T2.a8 a0d) a3Q<|rg<|(lc.nx h fun hI=>om ((.own 1 0 8 0 out.length:V)=.own 1 0 8 0 (out.set v9.toNat (m8.mk T2.a8 a0d)).length) (by simp)<|sk [.is (.tmp 3) (.own 1 0 8 0 (out.set v9.toNat (m8.mk T2.a8 a0d)).length)] [3,8,9] [(1,0)] hI)) (fun h=>(lc.bk h fun hI=>sk [] [3] [(1,0)] hI))
def a9s(list:List m8):Option (List m8):=
 ((c2p list).bind fun vote=>((o8 (fun s:(List m8)×Int=>b7z vote s.1 s.2) (vote,0)).bind fun x=>x.go (fun r=>some r) fun s=>d8t s))
theorem b9V{list}:OK a3J [j9 8 q8 list] (a9s list):=
 o7 _ fun r h=>n9<|l7 d8a f3D 1 h fun vote h=>rg<|lp (e2Q vote) h (fun _ h=>a3J.rt h) (e3B r) fun hI=>sk [] [3,8,9] [(3,0)] hI
def d3q:FS (l8):=⟨81,Tryz.f81,[.val C2 []],[none],[.val C2 []],fun r=>.agg (t6 r),fun _=>[none],Tryz.func81⟩
def b7B(m:l8):Option l8:=
 ((a65 m.g9).bind fun a0d=>((a9s m.a7).bind fun a0F=>some (l8.mk m.a9 m.c9 m.To m.a8 m.g8 a0d a0F)))
theorem e1w{m}:OK d3q [.agg (t6 m)] (b7B m):=
 o7 _ fun r h=>L8<|l7 b0K b2v 2 h fun a0d h=>rg<|l7 a3J b9V 2 h fun a0F h=>rg<|s7 a0F<|fE h
def a5T:FS (List l8):=⟨38,Tryz.f38,[.val [some 13] [some 83]],[none],[.val [some 13] []],fun r=>v6 83 13 t6 r,fun _=>[none],Tryz.func38⟩
def d12:(List l8)->KS:=fun out1=>⟨a5T.k 4 [false],(bs 3 (.own 1 0 13 0 out1.length::(bs 18 []))),[some [],some [m6 83 13 t6 out1]]⟩
def c9R(out1:List l8):Option (List l8):=
 some out1
theorem e0V(r):NF a5T r d12 (fun s=>c9R s):=fun out1 h=>PK<|rg<|s7 out1<|fE h
def e4A(msg:List l8):((List l8)×Int)->KS:=fun (out,v9)=>⟨a5T.k 3 [],(bs 3 (.own 1 0 13 0 out.length::(bs 4 (vi (msg.length:Int)::(vi v9::(bs 12 [])))))),[some [],some [m6 83 13 t6 out]]⟩
def b8i(msg:List l8)(out:List l8)(v9:Int):Option (j7 (List l8) ((List l8)×Int) (List l8)):=
 (bif decide (v9<(msg.length:Int)) then ((idx out v9).bind fun c9t=>((b7B c9t).bind fun b4C=>some (j7.nxt (out.set v9.toNat b4C,m7 (v9+1))))) else some (j7.brk out))
theorem f5y(msg):LQ a5T d12 (e4A msg) (fun s=>b8i msg s.1 s.2):=fun lc (out,v9) h=>PK<|rg<|j5 0 h (fun h=>n9<|B0 h fun c9t b7E h=>C0 b7E<|I4 t6 5 b7E<|l7 d3q e1w 6 h fun b4C h=>C0 b7E<|Q6 83 13 t6 8 C2 b4C b7E<|rg<|(lc.nx h fun hI=>om ((.own 1 0 13 0 out.length:V)=.own 1 0 13 0 (out.set v9.toNat b4C).length) (by simp)<|sk [.is (.tmp 3) (.own 1 0 13 0 (out.set v9.toNat b4C).length)] [3,8,9] [(1,0)] hI)) (fun h=>(lc.bk h fun hI=>sk [] [3] [(1,0)] hI))
def b12(list:List l8):Option (List l8):=
 ((c7d list).bind fun msg=>((o8 (fun s:(List l8)×Int=>b8i msg s.1 s.2) (msg,0)).bind fun x=>x.go (fun r=>some r) fun s=>c9R s))
theorem d4w{list}:OK a5T [j9 13 t6 list] (b12 list):=
 o7 _ fun r h=>n9<|l7 d4h f5f 1 h fun msg h=>rg<|lp (f5y msg) h (fun _ h=>a5T.rt h) (e0V r) fun hI=>sk [] [3,8,9] [(3,0)] hI
def d0B:FS (List x8):=⟨39,Tryz.f39,[.val [some 3] [some 73]],[none],[.val [some 3] []],fun r=>v6 73 3 C1 r,fun _=>[none],Tryz.func39⟩
def c4B(list:List x8):Option (List x8):=
 (bif ((list.length:Int)==0) then some [] else (t5 (0<=(list.length:Int)/\(list.length:Int)*40<=140737488355328) ((t5 (list.length=(f8A (list.length:Int).toNat (x8.mk (n5.mk 0 0) [])).length) (some list)))))
theorem e3l{list}:OK d0B [j9 3 C1 list] (c4B list):=
 o7 _ fun r h=>n9<|j5 2 h (fun h=>rg<|fE h) (fun h=>rg<|t9 h fun e1 h=>T1 2 7 73 3 40 C1 (x8.mk (n5.mk 0 0) []) c7g (.ck [none,none,some 4]) e1 (by decide) (by rfl)<|rg<|t9 h fun e2 h=>om (s9.row 73 3 (f8A (list.length:Int).toNat (x8.mk (n5.mk 0 0) [])).length (list.map C1)=m6 73 3 C1 list) (a1p e2)<|s7 (f8A (list.length:Int).toNat (x8.mk (n5.mk 0 0) []))<|ob e2<|tl (2,{e:=some (m6 73 3 C1 list)})<|rg<|om ((f8A (list.length:Int).toNat (x8.mk (n5.mk 0 0) [])).length=list.length) (by simp)<|fE h)
def c6w:FS (List n6):=⟨40,Tryz.f40,[.val [some 5] [some 76]],[none],[.val [some 5] []],fun r=>v6 76 5 z5 r,fun _=>[none],Tryz.func40⟩
def b7P(list:List n6):Option (List n6):=
 (bif ((list.length:Int)==0) then some [] else (t5 (0<=(list.length:Int)/\(list.length:Int)*40<=140737488355328) ((t5 (list.length=(f8A (list.length:Int).toNat (n6.mk 0 (n5.mk 0 0) 0 0)).length) (some list)))))
theorem d2u{list}:OK c6w [j9 5 z5 list] (b7P list):=
 o7 _ fun r h=>n9<|j5 2 h (fun h=>rg<|fE h) (fun h=>rg<|t9 h fun e1 h=>T1 2 7 76 5 40 z5 (n6.mk 0 (n5.mk 0 0) 0 0) c6A (.none) e1 (by decide) (by rfl)<|rg<|t9 h fun e2 h=>om (s9.row 76 5 (f8A (list.length:Int).toNat (n6.mk 0 (n5.mk 0 0) 0 0)).length (list.map z5)=m6 76 5 z5 list) (a1p e2)<|s7 (f8A (list.length:Int).toNat (n6.mk 0 (n5.mk 0 0) 0 0))<|ob e2<|tl (2,{e:=some (m6 76 5 z5 list)})<|rg<|om ((f8A (list.length:Int).toNat (n6.mk 0 (n5.mk 0 0) 0 0)).length=list.length) (by simp)<|fE h)
def a8F:FS (z0):=⟨82,Tryz.f82,[.val [none,some 8] [none,some 89]],[none],[.val [none,some 8] []],fun r=>.agg [vi r.i0,v6 89 8 q8 r.a7],fun _=>[none],Tryz.func82⟩
def a5C(a:z0):Option z0:=
 ((a9s a.a7).bind fun a0F=>some (z0.mk a.i0 a0F))
theorem b1n{a}:OK a8F [.agg (a0J a)] (a5C a):=
 o7 _ fun r h=>n9<|l7 a3J b9V 4 h fun a0F h=>s7 a0F<|fE h
def d0K:FS (List m4):=⟨134,Tryz.f134,[.val [some 7] [some 53]],[none],[.val [some 7] []],fun r=>v6 53 7 s5 r,fun _=>[none],Tryz.func134⟩
def b6r(list:List m4):Option (List m4):=
 (bif ((list.length:Int)==0) then some [] else (t5 (0<=(list.length:Int)/\(list.length:Int)*88<=140737488355328) ((t5 (list.length=(f8A (list.length:Int).toNat (m4.mk false (n5.mk 0 0) (n7.mk [] [] 0 0))).length) (some list)))))
theorem e1n{list}:OK d0K [j9 7 s5 list] (b6r list):=
 o7 _ fun r h=>n9<|j5 2 h (fun h=>rg<|fE h) (fun h=>rg<|t9 h fun e1 h=>T1 2 7 53 7 88 s5 (m4.mk false (n5.mk 0 0) (n7.mk [] [] 0 0)) c4d (.ck J3) e1 (by decide) (by rfl)<|rg<|t9 h fun e2 h=>om (s9.row 53 7 (f8A (list.length:Int).toNat (m4.mk false (n5.mk 0 0) (n7.mk [] [] 0 0))).length (list.map s5)=m6 53 7 s5 list) (a1p e2)<|s7 (f8A (list.length:Int).toNat (m4.mk false (n5.mk 0 0) (n7.mk [] [] 0 0)))<|ob e2<|tl (2,{e:=some (m6 53 7 s5 list)})<|rg<|om ((f8A (list.length:Int).toNat (m4.mk false (n5.mk 0 0) (n7.mk [] [] 0 0))).length=list.length) (by simp)<|fE h)
def a5G:FS (List m4):=⟨83,Tryz.f83,[.val [some 7] [some 53]],[none],[.val [some 7] []],fun r=>v6 53 7 s5 r,fun _=>[none],Tryz.func83⟩
def d7T:(List m4)->KS:=fun out1=>⟨a5G.k 4 [false],(bs 3 (.own 1 0 7 0 out1.length::(bs 18 []))),[some [],some [m6 53 7 s5 out1]]⟩
def d0J(out1:List m4):Option (List m4):=
 some out1
theorem f5n(r):NF a5G r d7T (fun s=>d0J s):=fun out1 h=>PK<|rg<|s7 out1<|fE h
def e2y(entry:List m4):((List m4)×Int)->KS:=fun (out,v9)=>⟨a5G.k 3 [],(bs 3 (.own 1 0 7 0 out.length::(bs 4 (vi (entry.length:Int)::(vi v9::(bs 12 [])))))),[some [],some [m6 53 7 s5 out]]⟩
def b45(entry:List m4)(out:List m4)(v9:Int):Option (j7 (List m4) ((List m4)×Int) (List m4)):=
 (bif decide (v9<(entry.length:Int)) then ((idx out v9).bind fun a6g=>((a65 a6g).bind fun a0d=>some (j7.nxt (out.set v9.toNat a0d,m7 (v9+1))))) else some (j7.brk out))
theorem f3Z(entry):LQ a5G d7T (e2y entry) (fun s=>b45 entry s.1 s.2):=fun lc (out,v9) h=>PK<|rg<|j5 0 h (fun h=>n9<|B0 h fun a6g b0x h=>C0 b0x<|I4 s5 5 b0x<|l7 b0K b2v 6 h fun a0d h=>C0 b0x<|Q6 53 7 s5 8 J3 a0d b0x<|rg<|(lc.nx h fun hI=>om ((.own 1 0 7 0 out.length:V)=.own 1 0 7 0 (out.set v9.toNat a0d).length) (by simp)<|sk [.is (.tmp 3) (.own 1 0 7 0 (out.set v9.toNat a0d).length)] [3,8,9] [(1,0)] hI)) (fun h=>(lc.bk h fun hI=>sk [] [3] [(1,0)] hI))
def b0a(list:List m4):Option (List m4):=
 ((b6r list).bind fun entry=>((o8 (fun s:(List m4)×Int=>b45 entry s.1 s.2) (entry,0)).bind fun x=>x.go (fun r=>some r) fun s=>d0J s))
theorem c3G{list}:OK a5G [j9 7 s5 list] (b0a list):=
 o7 _ fun r h=>n9<|l7 d0K e1n 1 h fun entry h=>rg<|lp (f3Z entry) h (fun _ h=>a5G.rt h) (f5n r) fun hI=>sk [] [3,8,9] [(3,0)] hI
def c52:FS (List Bool):=⟨84,Tryz.f84,[.val [some 1] [some 4]],[none],[.val [some 1] []],fun r=>v6 4 1 eB r,fun _=>[none],Tryz.func84⟩
def b7u(list:List Bool):Option (List Bool):=
 (bif ((list.length:Int)==0) then some [] else (t5 (0<=(list.length:Int)/\(list.length:Int)*1<=140737488355328) ((t5 (list.length=(f8A (list.length:Int).toNat false).length) (some list)))))
theorem d5A{list}:OK c52 [j9 1 eB list] (b7u list):=
 o7 _ fun r h=>n9<|j5 2 h (fun h=>rg<|fE h) (fun h=>rg<|t9 h fun e1 h=>T1 2 7 4 1 1 eB false ti4 (.none) e1 (by decide) (by rfl)<|rg<|t9 h fun e2 h=>om (s9.row 4 1 (f8A (list.length:Int).toNat false).length (list.map eB)=m6 4 1 eB list) (a1p e2)<|s7 (f8A (list.length:Int).toNat false)<|ob e2<|tl (2,{e:=some (m6 4 1 eB list)})<|rg<|om ((f8A (list.length:Int).toNat false).length=list.length) (by simp)<|fE h)
def b8M:FS (List n8):=⟨42,Tryz.f42,[.val [some 4] [some 80]],[none],[.val [some 4] []],fun r=>v6 80 4 A6 r,fun _=>[none],Tryz.func42⟩
def a9g(list:List n8):Option (List n8):=
 (bif ((list.length:Int)==0) then some [] else (t5 (0<=(list.length:Int)/\(list.length:Int)*32<=140737488355328) ((t5 (list.length=(f8A (list.length:Int).toNat (n8.mk 0 0 0 0)).length) (some list)))))
theorem c4b{list}:OK b8M [j9 4 A6 list] (a9g list):=
 o7 _ fun r h=>n9<|j5 2 h (fun h=>rg<|fE h) (fun h=>rg<|t9 h fun e1 h=>T1 2 7 80 4 32 A6 (n8.mk 0 0 0 0) c6p (.none) e1 (by decide) (by rfl)<|rg<|t9 h fun e2 h=>om (s9.row 80 4 (f8A (list.length:Int).toNat (n8.mk 0 0 0 0)).length (list.map A6)=m6 80 4 A6 list) (a1p e2)<|s7 (f8A (list.length:Int).toNat (n8.mk 0 0 0 0))<|ob e2<|tl (2,{e:=some (m6 80 4 A6 list)})<|rg<|om ((f8A (list.length:Int).toNat (n8.mk 0 0 0 0)).length=list.length) (by simp)<|fE h)
def b3x:FS (j6):=⟨41,Tryz.f41,[.val A8 om3],[none],[.val A8 []],fun r=>.agg (f2U r),fun _=>[none],Tryz.func41⟩
def a80(n:j6):Option j6:=
 ((a5C n.Acc).bind fun R6=>((b0a n.a6).bind fun a9q=>((b7u n.c9).bind fun bool=>((a9s n.i4).bind fun a0F=>((a65 n.c8).bind fun a0d=>((b7u n.a7).bind fun c3b=>((a9g n.i6).bind fun ins=>((a65 n.b8).bind fun d6J=>((b0a n.f0).bind fun c41=>some (j6.mk n.Id R6 a9q n.Seq n.d6 n.a8 bool a0F a0d c3b n.i9 ins d6J c41))))))))))
theorem c0g{n}:OK b3x [.agg (x6 n)] (a80 n):=
 o7 _ fun r h=>L8<|l7 a8F b1n 2 h fun R6 h=>rg<|l7 a5G c3G 2 h fun a9q h=>rg<|l7 c52 d5A 2 h fun bool h=>rg<|l7 a3J b9V 2 h fun a0F h=>rg<|l7 b0K b2v 2 h fun a0d h=>rg<|l7 c52 d5A 2 h fun c3b h=>rg<|l7 b8M c4b 2 h fun ins h=>rg<|l7 b0K b2v 2 h fun d6J h=>rg<|l7 a5G c3G 2 h fun c41 h=>rg<|H9 R6.a7 a9q bool a0F<|Y3 c3b ins c41<|fE h
def a0g:FS (m5):=⟨12,Tryz.f12,[.val C5 om6],[none],[.val C5 []],fun r=>.agg (a9j r),fun _=>[none],Tryz.func12⟩
def c8h(msgsCopy:List l8)(asked:List x8)(told:List n6):(List j6)->KS:=fun Nodes1=>⟨a0g.k 4 [false],(bs 2 (.ptr 1 0 0::(.ptr 2 0 0::(bs 52 [])))),[some [],some [.var 30 [.nil,.nil,.nil,.nil]],some [.var 30 [.own 3 0 27 0 Nodes1.length,.own 4 0 13 0 msgsCopy.length,.own 5 0 3 0 asked.length,.own 6 0 5 0 told.length]],some [m6 55 27 x6 Nodes1],some [m6 83 13 t6 msgsCopy],some [m6 73 3 C1 asked],some [m6 76 5 z5 told]]⟩
def d4d(msgsCopy:List l8)(told:List n6)(Nodes1:List j6):(List x8)->KS:=fun Asked1=>⟨a0g.k 6 [false,false],(bs 2 (.ptr 1 0 0::(.ptr 2 0 0::(bs 52 [])))),[some [],some [.var 30 [.nil,.nil,.nil,.nil]],some [.var 30 [.own 3 0 27 0 Nodes1.length,.own 4 0 13 0 msgsCopy.length,.own 5 0 3 0 Asked1.length,.own 6 0 5 0 told.length]],some [m6 55 27 x6 Nodes1],some [m6 83 13 t6 msgsCopy],some [m6 73 3 C1 Asked1],some [m6 76 5 z5 told]]⟩
def d5b(msgsCopy:List l8)(told:List n6)(Nodes1:List j6)(Asked1:List x8):Option m5:=
 some (m5.mk Nodes1 msgsCopy Asked1 told)
theorem f3F(msgsCopy told Nodes1)(r):NF a0g r (d4d msgsCopy told Nodes1) (fun s=>d5b msgsCopy told Nodes1 s):=fun Asked1 h=>PK<|rg<|H9 Nodes1 msgsCopy Asked1 told<|fE h
def e5p(msgsCopy:List l8)(asked:List x8)(told:List n6)(Nodes1:List j6):((List x8)×Int)->KS:=fun (d8,v39)=>⟨a0g.k 5 [false],(bs 2 (.ptr 1 0 0::(.ptr 2 0 0::(bs 34 (vi (asked.length:Int)::(vi v39::(bs 16 []))))))),[some [],some [.var 30 [.nil,.nil,.nil,.nil]],some [.var 30 [.own 3 0 27 0 Nodes1.length,.own 4 0 13 0 msgsCopy.length,.own 5 0 3 0 d8.length,.own 6 0 5 0 told.length]],some [m6 55 27 x6 Nodes1],some [m6 83 13 t6 msgsCopy],some [m6 73 3 C1 d8],some [m6 76 5 z5 told]]⟩
def b7D(asked:List x8)(d8:List x8)(v39:Int):Option (j7 m5 ((List x8)×Int) (List x8)):=
 (bif decide (v39<(asked.length:Int)) then ((idx d8 v39).bind fun a92=>((a9g a92.i6).bind fun ins=>some (j7.nxt (d8.set v39.toNat (x8.mk a92.a5 ins),m7 (v39+1))))) else some (j7.brk d8))
theorem e33(msgsCopy asked told Nodes1):LQ a0g (d4d msgsCopy told Nodes1) (e5p msgsCopy asked told Nodes1) (fun s=>b7D asked s.1 s.2):=fun lc (d8,v39) h=>PK<|rg<|j5 0 h (fun h=>n9<|B0 h fun a92 c0V h=>C0 c0V<|I4 C1 8 c0V<|l7 b8M c4b 9 h fun ins h=>C0 c0V<|Q6 73 3 C1 12 [some 4] (x8.mk a92.a5 ins) c0V<|s7 ins<|rg<|(lc.nx h fun hI=>om ((.own 5 0 3 0 d8.length:V)=.own 5 0 3 0 (d8.set v39.toNat (x8.mk a92.a5 ins)).length) (by simp)<|sk [.is (.cell 2 0 2) (.own 5 0 3 0 (d8.set v39.toNat (x8.mk a92.a5 ins)).length)] [2,3,38,39] [(1,0),(2,0),(3,0),(4,0),(5,0),(6,0)] hI)) (fun h=>(lc.bk h fun hI=>sk [] [2,3] [(1,0),(2,0),(3,0),(4,0),(5,0),(6,0)] hI))
def c5t(msgsCopy:List l8)(asked:List x8)(told:List n6)(Nodes1:List j6):Option m5:=
 ((o8 (fun s:(List x8)×Int=>b7D asked s.1 s.2) (asked,0)).bind fun x=>x.go (fun r=>some r) fun s=>d5b msgsCopy told Nodes1 s)
theorem e9W(msgsCopy asked told)(r):NF a0g r (c8h msgsCopy asked told) (fun s=>c5t msgsCopy asked told s):=fun Nodes1 h=>PK<|rg<|lp (e33 msgsCopy asked told Nodes1) h (fun _ h=>a0g.rt h) (f3F msgsCopy told Nodes1 r) fun hI=>sk [] [2,3,38,39] [(1,0),(2,0),(3,0),(4,0),(5,0),(6,0)] hI
def e5O(node:List j6)(msgsCopy:List l8)(asked:List x8)(told:List n6):((List j6)×Int)->KS:=fun (a0,v22)=>⟨a0g.k 3 [],(bs 2 (.ptr 1 0 0::(.ptr 2 0 0::(bs 17 (vi (node.length:Int)::(vi v22::(bs 33 []))))))),[some [],some [.var 30 [.nil,.nil,.nil,.nil]],some [.var 30 [.own 3 0 27 0 a0.length,.own 4 0 13 0 msgsCopy.length,.own 5 0 3 0 asked.length,.own 6 0 5 0 told.length]],some [m6 55 27 x6 a0],some [m6 83 13 t6 msgsCopy],some [m6 73 3 C1 asked],some [m6 76 5 z5 told]]⟩
def b9d(node:List j6)(a0:List j6)(v22:Int):Option (j7 m5 ((List j6)×Int) (List j6)):=
 (bif decide (v22<(node.length:Int)) then ((idx a0 v22).bind fun node1=>((a80 node1).bind fun Y0=>some (j7.nxt (a0.set v22.toNat Y0,m7 (v22+1))))) else some (j7.brk a0))
theorem e6B(node msgsCopy asked told):LQ a0g (c8h msgsCopy asked told) (e5O node msgsCopy asked told) (fun s=>b9d node s.1 s.2):=fun lc (a0,v22) h=>PK<|rg<|j5 0 h (fun h=>n9<|B0 h fun node1 a0A h=>C0 a0A<|I4 x6 7 a0A<|l7 b3x c0g 8 h fun Y0 h=>C0 a0A<|Q6 55 27 x6 10 A8 Y0 a0A<|J8 Y0<|rg<|(lc.nx h fun hI=>om ((.own 3 0 27 0 a0.length:V)=.own 3 0 27 0 (a0.set v22.toNat Y0).length) (by simp)<|sk [.is (.cell 2 0 0) (.own 3 0 27 0 (a0.set v22.toNat Y0).length)] [2,3,21,22] [(1,0),(2,0),(3,0),(4,0),(5,0),(6,0)] hI)) (fun h=>(lc.bk h fun hI=>sk [] [2,3] [(1,0),(2,0),(3,0),(4,0),(5,0),(6,0)] hI))
def a2i(w:m5):Option m5:=
 ((c2G w.a0).bind fun node=>((b12 w.d7).bind fun msgsCopy=>((c4B w.d8).bind fun asked=>((b7P w.Told).bind fun told=>((o8 (fun s:(List j6)×Int=>b9d node s.1 s.2) (node,0)).bind fun x=>x.go (fun r=>some r) fun s=>c5t msgsCopy asked told s)))))
theorem b1o{w}:OK a0g [.agg (K7 w)] (a2i w):=
 o7 _ fun r h=>n9<|l7 d5O f1l 2 h fun node h=>l7 a5T d4w 5 h fun msgsCopy h=>l7 d0B e3l 8 h fun asked h=>l7 c6w d2u 11 h fun told h=>rg<|lp (e6B node msgsCopy asked told) h (fun _ h=>a0g.rt h) (e9W msgsCopy asked told r) fun hI=>sk [] [2,3,21,22] [(2,0),(16,0),(5,0),(8,0),(11,0),(14,0)] hI
def a8I:FS (m5):=⟨5,Tryz.f5,[.val C5 []],[],[],fun r=>.agg (K7 r),fun _=>[],Tryz.func5⟩
def d5G:(List j6)->KS:=fun Nodes1=>⟨a8I.k 4 [false],(.ptr 1 0 0::(.ptr 2 0 0::(bs 15 []))),[some [],some [.var 30 [.nil,.nil,.nil,.nil]],some [.var 30 [.own 3 0 27 0 Nodes1.length,.nil,.nil,.nil]],some [m6 55 27 x6 Nodes1]]⟩
def d1u(Nodes1:List j6):Option m5:=
 ((a2i (m5.mk Nodes1 [] [] [])).bind fun J6=>some J6)
theorem e97(r):NF a8I r d5G (fun s=>d1u s):=fun Nodes1 h=>PK<|rg<|l7 a0g b1o 1 h fun J6 h=>s7 Nodes1<|B4 J6<|fE h
def e1l:((List j6)×Int)->KS:=fun (a0,id)=>⟨a8I.k 3 [],(.ptr 1 0 0::(.ptr 2 0 0::(vi id::(bs 14 [])))),[some [],some [.var 30 [.nil,.nil,.nil,.nil]],some [.var 30 [.own 3 0 27 0 a0.length,.nil,.nil,.nil]],some [m6 55 27 x6 a0]]⟩
def b00(a0:List j6)(id:Int):Option (j7 m5 ((List j6)×Int) (List j6)):=
 (bif decide (id<3) then ((b7w id).bind fun X8=>(t5 ((a0.length+1)*392<=140737488355328) (some (j7.nxt (a0++[X8],m7 (id+1)))))) else some (j7.brk a0))
theorem d89:LQ a8I d5G e1l (fun s=>b00 s.1 s.2):=fun lc (a0,id) h=>PK<|rg<|j5 1 h (fun h=>rg<|l7 d2i e4o 3 h fun X8 h=>tk 4 A8<|t9 h fun e1 h=>F7 5 11 55 27 392 x6 a0 X8 e1<|E5 X8<|rg<|(lc.nx h fun hI=>sk [] [0,1,2] [(1,0),(2,0),(11,0)] hI)) (fun h=>(lc.bk h fun hI=>sk [] [0,1] [(1,0),(2,0),(3,0)] hI))
def c0H:Option m5:=
 ((o8 (fun s:(List j6)×Int=>b00 s.1 s.2) ([],0)).bind fun x=>x.go (fun r=>some r) fun s=>d1u s)
theorem e3W:OK a8I [] c0H:=
 o7 _ fun r h=>L8<|lp (d89) h (fun _ h=>a8I.rt h) (e97 r) fun hI=>sk [.own (.cell 3 0 0) 55 27] [0,1,2] [(1,0),(3,0),(6,0)] hI
def a9d:FS (Bool):=⟨161,Tryz.f161,[.val [] []],[none,none],[.val [some 2] [],.val [some 2] []],fun r=>.b r,fun _=>[none,none],Tryz.func161⟩
def d75:Unit->KS:=fun _=>⟨a9d.k 4 [false,false],(bs 26 []),[some []]⟩
def d39:Option Bool:=
 some true
theorem e8J(r):NF a9d r d75 (fun s=>d39):=fun _ h=>PK<|rg<|fE h
def e94(a:List r9)(b:List r9):Int->KS:=fun v13=>⟨a9d.k 3 [false],(j9 2 w8 a::(j9 2 w8 b::(bs 10 (vi (a.length:Int)::(vi v13::(bs 12 [])))))),[some []]⟩
def b7m(a:List r9)(b:List r9)(v13:Int):Option (j7 Bool Int Unit):=
 (bif decide (v13<(a.length:Int)) then ((idx a v13).bind fun read=>((idx b v13).bind fun S9=>(bif (!(([read.i5,read.j4]:List Int)==[S9.i5,S9.j4])) then some (j7.ret false) else some (j7.nxt (m7 (v13+1)))))) else some (j7.brk ()))
theorem f0U(a b):LQ a9d d75 (e94 a b) (fun s=>b7m a b s):=fun lc v13 h=>PK<|rg<|j5 0 h (fun h=>n9<|u0 w8 2 h fun read a4x h=>u0 w8 6 h fun S9 d5T h=>j5 8 h (fun h=>rg<|fL lc h) (fun h=>rg<|(lc.nx h fun hI=>sk [] [0,1,12,13] [] hI))) (fun h=>(lc.bk h fun hI=>sk [] [] [] hI))
def b7t(a:List r9)(b:List r9):Option Bool:=
 (bif ((a.length:Int) != (b.length:Int)) then some false else ((o8 (fun s:Int=>b7m a b s) 0).bind fun x=>x.go (fun r=>some r) fun s=>d39))
theorem e8K{a b}:OK a9d [j9 2 w8 a,j9 2 w8 b] (b7t a b):=
 o7 _ fun r h=>n9<|j5 4 h (fun h=>rg<|fE h) (fun h=>rg<|lp (f0U a b) h (fun _ h=>a9d.rt h) (e8J r) fun hI=>sk [] [0,1,12,13] [] hI)
def a8p:FS (Bool):=⟨162,Tryz.f162,[.val [] []],[none,none],[.val [some 2] [],.val [some 2] []],fun r=>.b r,fun _=>[none,none],Tryz.func162⟩
def c76:Unit->KS:=fun _=>⟨a8p.k 4 [false,false],(bs 26 []),[some []]⟩
def d1C:Option Bool:=
 some true
theorem f2S(r):NF a8p r c76 (fun s=>d1C):=fun _ h=>PK<|rg<|fE h
def e8y(a:List p8)(b:List p8):Int->KS:=fun v13=>⟨a8p.k 3 [false],(j9 2 w9 a::(j9 2 w9 b::(bs 10 (vi (a.length:Int)::(vi v13::(bs 12 [])))))),[some []]⟩
def b7r(a:List p8)(b:List p8)(v13:Int):Option (j7 Bool Int Unit):=
 (bif decide (v13<(a.length:Int)) then ((idx a v13).bind fun put=>((idx b v13).bind fun put1=>(bif (!(([put.i5,put.d9]:List Int)==[put1.i5,put1.d9])) then some (j7.ret false) else some (j7.nxt (m7 (v13+1)))))) else some (j7.brk ()))
theorem e0d(a b):LQ a8p c76 (e8y a b) (fun s=>b7r a b s):=fun lc v13 h=>PK<|rg<|j5 0 h (fun h=>n9<|u0 w9 2 h fun put hput h=>u0 w9 6 h fun put1 b23 h=>j5 8 h (fun h=>rg<|fL lc h) (fun h=>rg<|(lc.nx h fun hI=>sk [] [0,1,12,13] [] hI))) (fun h=>(lc.bk h fun hI=>sk [] [] [] hI))
def b8G(a:List p8)(b:List p8):Option Bool:=
 (bif ((a.length:Int) != (b.length:Int)) then some false else ((o8 (fun s:Int=>b7r a b s) 0).bind fun x=>x.go (fun r=>some r) fun s=>d1C))
theorem e5f{a b}:OK a8p [j9 2 w9 a,j9 2 w9 b] (b8G a b):=
 o7 _ fun r h=>n9<|j5 4 h (fun h=>rg<|fE h) (fun h=>rg<|lp (e0d a b) h (fun _ h=>a8p.rt h) (f2S r) fun hI=>sk [] [0,1,12,13] [] hI)
def c9v:FS (Bool):=⟨100,Tryz.f100,[.val [] []],[none,none],[.val O7 [],.val O7 []],fun r=>.b r,fun _=>[none,none],Tryz.func100⟩
def c0U(a:n7)(b:n7):Option Bool:=
 ((b7t a.b5 b.b5).bind fun read=>(bif read then ((b8G a.b7 b.b7).bind fun put=>(bif put then (bif (a.d9==b.d9) then some (a.Code==b.Code) else some false) else some false)) else some false))
theorem f6r{a b}:OK c9v [.agg (S4 a),.agg (S4 b)] (c0U a b):=
 o7 _ fun r h=>n9<|l7 a9d e8K 4 h fun read h=>j5 5 h (fun h=>l7 a8p e5f 10 h fun put h=>j5 12 h (fun h=>j5 19 h (fun h=>fE h) (fun h=>fE h)) (fun h=>fE h)) (fun h=>fE h)
def a4i:FS (Bool):=⟨49,Tryz.f49,[.val [] []],[none,none],[.val J3 [],.val J3 []],fun r=>.b r,fun _=>[none,none],Tryz.func49⟩
def a14(a:m4)(b:m4):Option Bool:=
 (bif (a.i7==b.i7) then (bif (([a.a5.b9,a.a5.Seq]:List Int)==[b.a5.b9,b.a5.Seq]) then ((c0U a.b6 b.b6).bind fun a1e=>some a1e) else some false) else some false)
theorem a5l{a b}:OK a4i [.agg (s5 a),.agg (s5 b)] (a14 a b):=
 o7 _ fun r h=>n9<|j5 5 h (fun h=>j5 12 h (fun h=>l7 c9v f6r 17 h fun a1e h=>fE h) (fun h=>fE h)) (fun h=>fE h)
def b09:FS (Bool):=⟨45,Tryz.f45,[.val [] []],[none],[.val [] []],fun r=>.b r,fun _=>[none],Tryz.func45⟩
def a68(q:n5):Option Bool:=
 ((D9 q.b9 0 2).bind fun in_=>(bif in_ then ((D9 q.Seq 1 1000).bind fun in_1=>some in_1) else some false))
theorem b3h{q}:OK b09 [.agg (F6 q)] (a68 q):=
 o7 _ fun r h=>n9<|l7 D5 F8 2 h fun in_ h=>j5 3 h (fun h=>l7 D5 F8 6 h fun in_1 h=>fE h) (fun h=>fE h)
def a0m:FS (Bool):=⟨137,Tryz.f137,[.val [] []],[none],[.val O7 []],fun r=>.b r,fun _=>[none],Tryz.func137⟩
def e2C(r_:n7):Unit->KS:=fun _=>⟨a0m.k 2 [false],(bs 1 (.ptr 1 0 0::(bs 98 []))),[some [],some [.var 51 (a0E r_)]]⟩
def c8w(r_:n7):Unit->KS:=fun _=>⟨a0m.k 5 [false,false],(bs 1 (.ptr 1 0 0::(bs 2 (.ptr 2 0 0::(bs 95 []))))),[some [],some [.var 51 (a0E r_)],some [.arr 191 1 4 ((f8A 4 false).map eB)]]⟩
def d6v:Unit->KS:=fun _=>⟨a0m.k 7 [false,false,false],(bs 100 []),[some []]⟩
def c7x:Option Bool:=
 some true
theorem e7Z(r):NF a0m r d6v (fun s=>c7x):=fun _ h=>PK<|rg<|fE h
def e5m(r_:n7):((List Bool)×Int)->KS:=fun (put,v76)=>⟨a0m.k 6 [false,false],(bs 4 (.ptr 1 0 0::(bs 69 (j9 2 w9 r_.b7::(vi (r_.b7.length:Int)::(vi v76::(bs 23 []))))))),[some [],some [.arr 191 1 4 (put.map eB)]]⟩
def b01(r_:n7)(put:List Bool)(v76:Int):Option (j7 Bool ((List Bool)×Int) Unit):=
 (bif decide (v76<(r_.b7.length:Int)) then ((idx r_.b7 v76).bind fun put1=>((D9 put1.i5 0 3).bind fun in_=>(bif (!in_) then some (j7.ret false) else ((idx put put1.i5).bind fun y=>(t5 (put1.i5<4) ((bif y then some (j7.ret false) else ((D9 put1.d9 (-1000000) 1000000).bind fun in_1=>(bif (!in_1) then some (j7.ret false) else (t5 (put1.i5<4) (some (j7.nxt (put.set put1.i5.toNat true,m7 (v76+1)))))))))))))) else some (j7.brk ()))
theorem f6Y(r_):LQ a0m d6v (e5m r_) (fun s=>b01 r_ s.1 s.2):=fun lc (put,v76) h=>PK<|rg<|j5 0 h (fun h=>rg<|u0 w9 0 h fun put1 b23 h=>rg<|l7 D5 F8 2 h fun in_ h=>j5 4 h (fun h=>rg<|fL lc h) (fun h=>B0 h fun y hy h=>t9 h fun e1 h=>ob (O8 hy)<|ob e1<|ob (U5 (enc:=eB) hy)<|tl (tr 8 (eB y))<|j5 10 h (fun h=>rg<|fL lc h) (fun h=>l7 D5 F8 13 h fun in_1 h=>j5 15 h (fun h=>rg<|fL lc h) (fun h=>rg<|t9 h fun e2 h=>ob (O8 hy)<|ob e2<|om (s9.arr 191 1 4 ((put.map eB).set (put1.i5.toNat) [.b true])=s9.arr 191 1 4 ((put.set put1.i5.toNat true).map eB)) (a7J rfl)<|ob (U5 (enc:=eB) hy)<|tl (3,{a:=.rowck (eB y) [],e:=some (.arr 191 1 4 ((put.set put1.i5.toNat true).map eB))})<|rg<|(lc.nx h fun hI=>sk [] [4,74,75,76] [(1,0)] hI))))) (fun h=>(lc.bk h fun hI=>sk [] [] [] hI))
def c4w(r_:n7):Option Bool:=
 ((o8 (fun s:(List Bool)×Int=>b01 r_ s.1 s.2) (f8A 4 false,0)).bind fun x=>x.go (fun r=>some r) fun s=>c7x)
theorem f7J(r_)(r):NF a0m r (c8w r_) (fun s=>c4w r_):=fun _ h=>PK<|rg<|lp (f6Y r_) h (fun _ h=>a0m.rt h) (e7Z r) fun hI=>sk [] [4,74,75,76] [(2,0)] hI
def e99(r_:n7):((List Bool)×Int)->KS:=fun (read,v49)=>⟨a0m.k 4 [false],(bs 1 (.ptr 1 0 0::(bs 1 (.ptr 2 0 0::(.ptr 3 0 0::(bs 42 (j9 2 w8 r_.b5::(vi (r_.b5.length:Int)::(vi v49::(bs 50 [])))))))))),[some [],some [.var 51 (a0E r_)],some [.arr 191 1 4 (read.map eB)],some [.arr 191 1 4 ((f8A 4 false).map eB)]]⟩
def b0B(r_:n7)(read:List Bool)(v49:Int):Option (j7 Bool ((List Bool)×Int) Unit):=
 (bif decide (v49<(r_.b5.length:Int)) then ((idx r_.b5 v49).bind fun S9=>((D9 S9.i5 0 3).bind fun in_2=>(bif (!in_2) then some (j7.ret false) else ((idx read S9.i5).bind fun y1=>(t5 (S9.i5<4) ((bif y1 then some (j7.ret false) else ((D9 S9.j4 0 1000000).bind fun a0w=>(bif (!a0w) then some (j7.ret false) else (t5 (S9.i5<4) (some (j7.nxt (read.set S9.i5.toNat true,m7 (v49+1)))))))))))))) else some (j7.brk ()))
theorem e6C(r_):LQ a0m (c8w r_) (e99 r_) (fun s=>b0B r_ s.1 s.2):=fun lc (read,v49) h=>PK<|rg<|j5 0 h (fun h=>rg<|u0 w8 0 h fun S9 d5T h=>rg<|l7 D5 F8 2 h fun in_2 h=>j5 4 h (fun h=>rg<|fL lc h) (fun h=>B0 h fun y1 hy1 h=>t9 h fun e3 h=>ob (O8 hy1)<|ob e3<|ob (U5 (enc:=eB) hy1)<|tl (tr 8 (eB y1))<|j5 10 h (fun h=>rg<|fL lc h) (fun h=>l7 D5 F8 13 h fun a0w h=>j5 15 h (fun h=>rg<|fL lc h) (fun h=>rg<|t9 h fun e4 h=>ob (O8 hy1)<|ob e4<|om (s9.arr 191 1 4 ((read.map eB).set (S9.i5.toNat) [.b true])=s9.arr 191 1 4 ((read.set S9.i5.toNat true).map eB)) (a7J rfl)<|ob (U5 (enc:=eB) hy1)<|tl (3,{a:=.rowck (eB y1) [],e:=some (.arr 191 1 4 ((read.set S9.i5.toNat true).map eB))})<|rg<|(lc.nx h fun hI=>sk [] [1,3,4,47,48,49] [(1,0),(2,0),(3,0)] hI))))) (fun h=>(lc.bk h fun hI=>sk [] [1,4] [(1,0),(3,0)] hI))
def b6W(r_:n7):Option Bool:=
 ((o8 (fun s:(List Bool)×Int=>b0B r_ s.1 s.2) (f8A 4 false,0)).bind fun x=>x.go (fun r=>some r) fun s=>c4w r_)
theorem e1t(r_)(r):NF a0m r (e2C r_) (fun s=>b6W r_):=fun _ h=>PK<|rg<|om ((f8A 4 ([.b false]:List V)).flatten=[.b false,.b false,.b false,.b false]/\([.b false]:List V).length=1) ⟨rfl,rfl⟩<|om ((f8A 4 ([.b false]:List V)).flatten=[.b false,.b false,.b false,.b false]/\([.b false]:List V).length=1) ⟨rfl,rfl⟩<|rg<|lp (e6C r_) h (fun _ h=>a0m.rt h) (f7J r_ r) fun hI=>sk [] [1,3,4,47,48,49] [(1,0),(2,0),(3,0)] hI
def b1e(r_:n7):Option Bool:=
 ((((D9 r_.Code 0 3).bind fun a5K=>(bif (!a5K) then some (l9.ret false) else ((D9 r_.d9 (-1000000) 1000000).bind fun b0U=>(bif (!b0U) then some (l9.ret false) else (bif (r_.Code != 0) then (bif (r_.d9 != 0) then some (l9.ret false) else (bif decide ((r_.b7.length:Int)>0) then some (l9.ret false) else (bif (r_.Code==3) then (bif decide ((r_.b5.length:Int)>0) then some (l9.ret false) else some (l9.brk ())) else some (l9.brk ())))) else (bif (r_.Code==3) then (bif decide ((r_.b5.length:Int)>0) then some (l9.ret false) else some (l9.brk ())) else some (l9.brk ()))))))):Option (l9 Bool Unit)).bind fun x=>x.go some fun j=>b6W r_)
theorem c4n{r_}:OK a0m [.agg (S4 r_)] (b1e r_):=
 o7 _ fun r h=>rg<|A3 h (e1t r_ r) fun x1 h hc1=>rg<|l7 D5 F8 2 h fun a5K h=>j5 4 h (fun h=>rg<|(B2 h hc1 fun h=>fE h)) (fun h=>l7 D5 F8 7 h fun b0U h=>j5 10 h (fun h=>rg<|(B2 h hc1 fun h=>fE h)) (fun h=>j5 14 h (fun h=>j5 18 h (fun h=>rg<|(B2 h hc1 fun h=>fE h)) (fun h=>j5 26 h (fun h=>rg<|(B2 h hc1 fun h=>fE h)) (fun h=>j5 30 h (fun h=>j5 36 h (fun h=>rg<|(B2 h hc1 fun h=>fE h)) (fun h=>(o9 h hc1 fun hI=>sk [] [1] [(1,0)] hI))) (fun h=>(o9 h hc1 fun hI=>sk [] [1] [(1,0)] hI))))) (fun h=>j5 30 h (fun h=>j5 36 h (fun h=>rg<|(B2 h hc1 fun h=>fE h)) (fun h=>(o9 h hc1 fun hI=>sk [] [1] [(1,0)] hI))) (fun h=>(o9 h hc1 fun hI=>sk [] [1] [(1,0)] hI)))))
def a3C:FS (Bool):=⟨89,Tryz.f89,[.val [] []],[none],[.val J3 []],fun r=>.b r,fun _=>[none],Tryz.func89⟩
def a1Q(e_:m4):Option Bool:=
 (bif e_.i7 then ((a14 e_ (m4.mk true (n5.mk 0 0) (n7.mk [] [] 0 0))).bind fun G8=>some G8) else ((a68 e_.a5).bind fun a6e=>(bif a6e then ((b1e e_.b6).bind fun a1n=>(bif a1n then some (e_.b6.Code != 3) else some false)) else some false)))
theorem a4d{e_}:OK a3C [.agg (s5 e_)] (a1Q e_):=
 o7 _ fun r h=>n9<|j5 1 h (fun h=>rg<|l7 a4i a5l 2 h fun G8 h=>fE h) (fun h=>rg<|l7 b09 b3h 2 h fun a6e h=>j5 3 h (fun h=>l7 a0m c4n 6 h fun a1n h=>j5 8 h (fun h=>fE h) (fun h=>fE h)) (fun h=>fE h))
def c9f:FS (Bool):=⟨140,Tryz.f140,[.val [] []],[none],[.val U9 []],fun r=>.b r,fun _=>[none],Tryz.func140⟩
def b83(v_:m8):Option Bool:=
 (bif (v_.a8==0) then ((a14 v_.g9 (m4.mk false (n5.mk 0 0) (n7.mk [] [] 0 0))).bind fun G8=>some G8) else ((D9 v_.a8 1 3000).bind fun in_=>(bif in_ then ((a1Q v_.g9).bind fun F4=>some F4) else some false)))
theorem d8H{v_}:OK c9f [.agg (q8 v_)] (b83 v_):=
 o7 _ fun r h=>n9<|j5 2 h (fun h=>rg<|l7 a4i a5l 3 h fun G8 h=>fE h) (fun h=>rg<|l7 D5 F8 2 h fun in_ h=>j5 3 h (fun h=>l7 a3C a4d 6 h fun F4 h=>fE h) (fun h=>fE h))
def a3r:FS (Bool):=⟨91,Tryz.f91,[.val [] []],[none],[.val [some 8] []],fun r=>.b r,fun _=>[none],Tryz.func91⟩
def d6i(list:List m8):Unit->KS:=fun _=>⟨a3r.k 3 [false],(j9 8 q8 list::(bs 17 [])),[some []]⟩
def c5M(list:List m8):Option Bool:=
 some (decide ((list.length:Int)<=40))
theorem e96(list)(r):NF a3r r (d6i list) (fun s=>c5M list):=fun _ h=>PK<|rg<|fE h
def e3P(list:List m8):Int->KS:=fun v7=>⟨a3r.k 2 [],(j9 8 q8 list::(bs 4 (j9 8 q8 list::(vi (list.length:Int)::(vi v7::(bs 10 [])))))),[some []]⟩
def b8P(list:List m8)(v7:Int):Option (j7 Bool Int Unit):=
 (bif decide (v7<(list.length:Int)) then ((idx list v7).bind fun vote=>((b83 vote).bind fun Z7=>(bif (!Z7) then some (j7.ret false) else some (j7.nxt (m7 (v7+1)))))) else some (j7.brk ()))
theorem e7V(list):LQ a3r (d6i list) (e3P list) (fun s=>b8P list s):=fun lc v7 h=>PK<|rg<|j5 0 h (fun h=>rg<|u0 q8 0 h fun vote K1 h=>rg<|l7 c9f d8H 1 h fun Z7 h=>j5 2 h (fun h=>rg<|fL lc h) (fun h=>rg<|(lc.nx h fun hI=>sk [] [0,5,6,7] [] hI))) (fun h=>(lc.bk h fun hI=>sk [] [0] [] hI))
def a6T(list:List m8):Option Bool:=
 ((o8 (fun s:Int=>b8P list s) 0).bind fun x=>x.go (fun r=>some r) fun s=>c5M list)
theorem b4W{list}:OK a3r [j9 8 q8 list] (a6T list):=
 o7 _ fun r h=>n9<|lp (e7V list) h (fun _ h=>a3r.rt h) (e96 list r) fun hI=>sk [] [0,5,6,7] [] hI
def a5L:FS (Bool):=⟨87,Tryz.f87,[.val [] []],[none],[.val [none,some 8] []],fun r=>.b r,fun _=>[none],Tryz.func87⟩
def c7P(a:z0):Unit->KS:=fun _=>⟨a5L.k 3 [false],(bs 1 (.ptr 1 0 0::(bs 24 []))),[some [],some [.var 43 [vi a.i0,j9 8 q8 a.a7]]]⟩
def c2e(a:z0):Option Bool:=
 ((D9 a.i0 0 3000).bind fun in_=>(bif in_ then ((a6T a.a7).bind fun L1=>some L1) else some false))
theorem f1G(a)(r):NF a5L r (c7P a) (fun s=>c2e a):=fun _ h=>PK<|rg<|l7 D5 F8 2 h fun in_ h=>j5 3 h (fun h=>l7 a3r b4W 6 h fun L1 h=>fE h) (fun h=>fE h)
def e8P(a:z0):Int->KS:=fun v8=>⟨a5L.k 2 [],(bs 1 (.ptr 1 0 0::(bs 4 (j9 8 q8 a.a7::(vi (a.a7.length:Int)::(vi v8::(bs 17 []))))))),[some [],some [.var 43 [vi a.i0,j9 8 q8 a.a7]]]⟩
def b8w(a:z0)(v8:Int):Option (j7 Bool Int Unit):=
 (bif decide (v8<(a.a7.length:Int)) then ((idx a.a7 v8).bind fun vote=>(bif decide (vote.a8>a.i0) then some (j7.ret false) else some (j7.nxt (m7 (v8+1))))) else some (j7.brk ()))
theorem e9K(a):LQ a5L (c7P a) (e8P a) (fun s=>b8w a s):=fun lc v8 h=>PK<|rg<|j5 0 h (fun h=>rg<|u0 q8 0 h fun vote K1 h=>rg<|j5 4 h (fun h=>rg<|fL lc h) (fun h=>rg<|(lc.nx h fun hI=>sk [] [1,6,7,8] [(1,0)] hI))) (fun h=>(lc.bk h fun hI=>sk [] [1] [(1,0)] hI))
def a96(a:z0):Option Bool:=
 ((o8 (fun s:Int=>b8w a s) 0).bind fun x=>x.go (fun r=>some r) fun s=>c2e a)
theorem c7r{a}:OK a5L [.agg (a0J a)] (a96 a):=
 o7 _ fun r h=>n9<|lp (e9K a) h (fun _ h=>a5L.rt h) (f1G a r) fun hI=>sk [] [1,6,7,8] [(1,0)] hI
def a5q:FS (Bool):=⟨88,Tryz.f88,[.val [] []],[none],[.val [some 7] []],fun r=>.b r,fun _=>[none],Tryz.func88⟩
def d7I(list:List m4):Unit->KS:=fun _=>⟨a5q.k 3 [false],(j9 7 s5 list::(bs 17 [])),[some []]⟩
def c6l(list:List m4):Option Bool:=
 some (decide ((list.length:Int)<=40))
theorem f5j(list)(r):NF a5q r (d7I list) (fun s=>c6l list):=fun _ h=>PK<|rg<|fE h
def f0y(list:List m4):Int->KS:=fun v7=>⟨a5q.k 2 [],(j9 7 s5 list::(bs 4 (j9 7 s5 list::(vi (list.length:Int)::(vi v7::(bs 10 [])))))),[some []]⟩
def b9A(list:List m4)(v7:Int):Option (j7 Bool Int Unit):=
 (bif decide (v7<(list.length:Int)) then ((idx list v7).bind fun entry=>((a1Q entry).bind fun F4=>(bif (!F4) then some (j7.ret false) else some (j7.nxt (m7 (v7+1)))))) else some (j7.brk ()))
theorem e66(list):LQ a5q (d7I list) (f0y list) (fun s=>b9A list s):=fun lc v7 h=>PK<|rg<|j5 0 h (fun h=>rg<|u0 s5 0 h fun entry F3 h=>rg<|l7 a3C a4d 1 h fun F4 h=>j5 2 h (fun h=>rg<|fL lc h) (fun h=>rg<|(lc.nx h fun hI=>sk [] [0,5,6,7] [] hI))) (fun h=>(lc.bk h fun hI=>sk [] [0] [] hI))
def b0l(list:List m4):Option Bool:=
 ((o8 (fun s:Int=>b9A list s) 0).bind fun x=>x.go (fun r=>some r) fun s=>c6l list)
theorem c4M{list}:OK a5q [j9 7 s5 list] (b0l list):=
 o7 _ fun r h=>n9<|lp (e66 list) h (fun _ h=>a5q.rt h) (f5j list r) fun hI=>sk [] [0,5,6,7] [] hI
def a3M:FS (Bool):=⟨141,Tryz.f141,[.val [] []],[none],[.val [] []],fun r=>.b r,fun _=>[none],Tryz.func141⟩
def a2Y(n:Int):Option Bool:=
 ((D9 n 0 3).bind fun in_=>some in_)
theorem a41{n}:OK a3M [vi n] (a2Y n):=
 o7 _ fun r h=>n9<|l7 D5 F8 1 h fun in_ h=>fE h
def c5U:FS (Bool):=⟨142,Tryz.f142,[.val [] []],[none],[.val [] []],fun r=>.b r,fun _=>[none],Tryz.func142⟩
def b74(n:Int):Option Bool:=
 ((D9 n 0 3).bind fun in_=>some in_)
theorem d8x{n}:OK c5U [vi n] (b74 n):=
 o7 _ fun r h=>n9<|l7 D5 F8 1 h fun in_ h=>fE h
def c9B:FS (Bool):=⟨92,Tryz.f92,[.val [] []],[none],[.val [] []],fun r=>.b r,fun _=>[none],Tryz.func92⟩
def b8l(x_:n8):Option Bool:=
 (bif (x_.a9==1) then ((a2Y x_.A).bind fun c1=>(bif c1 then ((b74 x_.B).bind fun c2=>(bif c2 then some (x_.N==0) else some false)) else some false)) else (bif (x_.a9==2) then ((b74 x_.A).bind fun c21=>(bif c21 then ((a2Y x_.B).bind fun c11=>(bif c11 then some (x_.N==0) else some false)) else some false)) else (bif (x_.a9==3) then ((a2Y x_.A).bind fun c12=>(bif c12 then (bif (x_.B==0) then ((D9 x_.N (-1000000) 1000000).bind fun in_=>some in_) else some false) else some false)) else (bif (x_.a9==4) then ((a2Y x_.A).bind fun c13=>(bif c13 then ((a2Y x_.B).bind fun c14=>(bif c14 then some (x_.N==0) else some false)) else some false)) else (bif (x_.a9==5) then ((a2Y x_.A).bind fun c15=>(bif c15 then ((a2Y x_.B).bind fun c16=>(bif c16 then some (x_.N==0) else some false)) else some false)) else (bif (x_.a9==6) then ((a2Y x_.A).bind fun c17=>(bif c17 then ((a2Y x_.B).bind fun c18=>(bif c18 then ((D9 x_.N 1 10).bind fun in_1=>some in_1) else some false)) else some false)) else (bif (x_.a9==7) then (bif (x_.A==0) then (bif (x_.B==0) then some (x_.N==0) else some false) else some false) else some false)))))))
theorem e9H{x_}:OK c9B [.agg (A6 x_)] (b8l x_):=
 o7 _ fun r h=>rg4<|rg<|j5 1 h (fun h=>rg<|l7 a3M a41 3 h fun c1 h=>j5 4 h (fun h=>l7 c5U d8x 8 h fun c2 h=>j5 10 h (fun h=>fE h) (fun h=>fE h)) (fun h=>fE h)) (fun h=>rg<|j5 1 h (fun h=>rg<|l7 c5U d8x 3 h fun c21 h=>j5 4 h (fun h=>l7 a3M a41 8 h fun c11 h=>j5 10 h (fun h=>fE h) (fun h=>fE h)) (fun h=>fE h)) (fun h=>rg<|j5 1 h (fun h=>rg<|l7 a3M a41 3 h fun c12 h=>j5 4 h (fun h=>j5 9 h (fun h=>l7 D5 F8 12 h fun in_ h=>fE h) (fun h=>fE h)) (fun h=>fE h)) (fun h=>rg<|j5 1 h (fun h=>rg<|l7 a3M a41 3 h fun c13 h=>j5 4 h (fun h=>l7 a3M a41 8 h fun c14 h=>j5 10 h (fun h=>fE h) (fun h=>fE h)) (fun h=>fE h)) (fun h=>rg<|j5 1 h (fun h=>rg<|l7 a3M a41 3 h fun c15 h=>j5 4 h (fun h=>l7 a3M a41 8 h fun c16 h=>j5 10 h (fun h=>fE h) (fun h=>fE h)) (fun h=>fE h)) (fun h=>rg<|j5 1 h (fun h=>rg<|l7 a3M a41 3 h fun c17 h=>j5 4 h (fun h=>l7 a3M a41 8 h fun c18 h=>j5 10 h (fun h=>l7 D5 F8 13 h fun in_1 h=>fE h) (fun h=>fE h)) (fun h=>fE h)) (fun h=>rg<|j5 1 h (fun h=>rg<|j5 3 h (fun h=>j5 8 h (fun h=>fE h) (fun h=>fE h)) (fun h=>fE h)) (fun h=>rg<|fE h)))))))
def a4B:FS (Bool):=⟨46,Tryz.f46,[.val [] []],[none],[.val [some 4] []],fun r=>.b r,fun _=>[none],Tryz.func46⟩
def c98(list:List n8):Unit->KS:=fun _=>⟨a4B.k 3 [false],(j9 4 A6 list::(bs 17 [])),[some []]⟩
def c6M(list:List n8):Option Bool:=
 some (decide ((list.length:Int)<=10))
theorem e1x(list)(r):NF a4B r (c98 list) (fun s=>c6M list):=fun _ h=>PK<|rg<|fE h
def e8X(list:List n8):Int->KS:=fun v7=>⟨a4B.k 2 [],(j9 4 A6 list::(bs 4 (j9 4 A6 list::(vi (list.length:Int)::(vi v7::(bs 10 [])))))),[some []]⟩
def b9B(list:List n8)(v7:Int):Option (j7 Bool Int Unit):=
 (bif decide (v7<(list.length:Int)) then ((idx list v7).bind fun ins=>((b8l ins).bind fun P8=>(bif (!P8) then some (j7.ret false) else some (j7.nxt (m7 (v7+1)))))) else some (j7.brk ()))
theorem e7m(list):LQ a4B (c98 list) (e8X list) (fun s=>b9B list s):=fun lc v7 h=>PK<|rg<|j5 0 h (fun h=>rg<|u0 A6 0 h fun ins hins h=>rg<|l7 c9B e9H 1 h fun P8 h=>j5 2 h (fun h=>rg<|fL lc h) (fun h=>rg<|(lc.nx h fun hI=>sk [] [0,5,6,7] [] hI))) (fun h=>(lc.bk h fun hI=>sk [] [0] [] hI))
def a8N(list:List n8):Option Bool:=
 ((o8 (fun s:Int=>b9B list s) 0).bind fun x=>x.go (fun r=>some r) fun s=>c6M list)
theorem b7y{list}:OK a4B [j9 4 A6 list] (a8N list):=
 o7 _ fun r h=>n9<|lp (e7m list) h (fun _ h=>a4B.rt h) (e1x list r) fun hI=>sk [] [0,5,6,7] [] hI
def c6c:FS (Int):=⟨138,Tryz.f138,[.val [] []],[none],[.val [] []],fun r=>vi r,fun _=>[none],Tryz.func138⟩
def b29(bal:Int):Option Int:=
 ((D9 bal 1 3000).bind fun in_=>(bif (!in_) then some (-1) else some (f9c bal 3)))
theorem d0w{bal}:OK c6c [vi bal] (b29 bal):=
 o7 _ fun r h=>n9<|l7 D5 F8 1 h fun in_ h=>j5 2 h (fun h=>rg<|fE h) (fun h=>rg<|om (3≠(0:Int)) (by decide)<|fE h)
def c3Z:FS (Bool):=⟨139,Tryz.f139,[.val [] []],[none,none],[.val [some 1] [],.val [] []],fun r=>.b r,fun _=>[none,none],Tryz.func139⟩
def b11(list:List Bool)(id:Int):Option Bool:=
 (bif ((list.length:Int)==3) then ((idx list id).bind fun y=>some y) else some false)
theorem d7B{list id}:OK c3Z [j9 1 eB list,vi id] (b11 list id):=
 o7 _ fun r h=>n9<|j5 3 h (fun h=>u0 eB 6 h fun y hy h=>fE h) (fun h=>fE h)
def b72:FS (Bool):=⟨90,Tryz.f90,[.val [] []],[none],[.val A8 []],fun r=>.b r,fun _=>[none],Tryz.func90⟩
def e7y(n:j6):Bool->KS:=fun b0b=>⟨b72.k 2 [],(bs 1 (.ptr 1 0 0::(bs 1 (.b b0b::(bs 92 []))))),[some [],some [.var 55 (X6 n)]]⟩
def b9b(n:j6)(b0b:Bool):Option Bool:=
 (bif (n.d6==0) then (bif (n.a8==0) then (bif ((n.c9.length:Int)==0) then (bif ((n.i4.length:Int)==0) then some b0b else some false) else some false) else some false) else ((b29 n.a8).bind fun a6o=>(bif (a6o != n.Id) then some false else (bif decide (n.a8>n.Acc.i0) then some false else ((a6T n.i4).bind fun L1=>(bif (!L1) then some false else (bif (n.d6==1) then ((b11 n.c9 n.Id).bind fun c8U=>(bif c8U then some b0b else some false)) else (bif (n.d6==2) then (bif ((n.c9.length:Int)==0) then some b0b else some false) else (bif (n.d6==3) then (bif ((n.c9.length:Int)==0) then ((a1Q n.c8).bind fun F4=>(bif F4 then ((b11 n.a7 n.Id).bind fun d10=>(bif d10 then some (decide ((n.a6.length:Int)<40)) else some false)) else some false)) else some false) else some false)))))))))
theorem e0f(n)(r):NF b72 r (e7y n) (fun s=>b9b n s):=fun b0b h=>PK<|n9<|j5 2 h (fun h=>rg<|j5 3 h (fun h=>j5 6 h (fun h=>j5 12 h (fun h=>fE h) (fun h=>fE h)) (fun h=>fE h)) (fun h=>fE h)) (fun h=>rg<|l7 c6c d0w 2 h fun a6o h=>j5 6 h (fun h=>rg<|fE h) (fun h=>j5 14 h (fun h=>rg<|fE h) (fun h=>l7 a3r b4W 17 h fun L1 h=>j5 19 h (fun h=>rg<|fE h) (fun h=>n9<|j5 1 h (fun h=>rg<|l7 c3Z d7B 4 h fun c8U h=>j5 5 h (fun h=>fE h) (fun h=>fE h)) (fun h=>rg<|j5 1 h (fun h=>rg<|j5 1 h (fun h=>fE h) (fun h=>fE h)) (fun h=>rg<|j5 1 h (fun h=>rg<|j5 1 h (fun h=>l7 a3C a4d 4 h fun F4 h=>j5 6 h (fun h=>l7 c3Z d7B 11 h fun d10 h=>j5 13 h (fun h=>fE h) (fun h=>fE h)) (fun h=>fE h)) (fun h=>fE h)) (fun h=>rg<|fE h)))))))
def b3c(n:j6):Option Bool:=
 ((((a14 n.c8 (m4.mk false (n5.mk 0 0) (n7.mk [] [] 0 0))).bind fun G8=>(bif G8 then some (l9.brk ((n.a7.length:Int)==0)) else some (l9.brk false))):Option (l9 Bool Bool)).bind fun x=>x.go some fun j=>b9b n j)
theorem f1h{n}:OK b72 [.agg (x6 n)] (b3c n):=
 o7 _ fun r h=>rg<|A3 h (e0f n r) fun x1 h hc1=>rg<|l7 a4i a5l 3 h fun G8 h=>j5 4 h (fun h=>(o9 h hc1 fun hI=>sk [] [1,3] [(1,0)] hI)) (fun h=>(o9 h hc1 fun hI=>sk [] [1,3] [(1,0)] hI))
def a0M:FS (Bool):=⟨43,Tryz.f43,[.val [] []],[none],[.val A8 []],fun r=>.b r,fun _=>[none],Tryz.func43⟩
def d0W(n:j6):Unit->KS:=fun _=>⟨a0M.k 4 [false,false],(bs 1 (.ptr 1 0 0::(bs 87 []))),[some [],some [.var 55 (X6 n)]]⟩
def e83(n:j6):Unit->KS:=fun _=>⟨a0M.k 6 [false,false,true,false],(bs 1 (.ptr 1 0 0::(bs 87 []))),[some [],some [.var 55 (X6 n)]]⟩
def c2r(n:j6):Option Bool:=
 ((b3c n).bind fun a0t=>some a0t)
theorem f0m(n)(r):NF a0M r (e83 n) (fun s=>c2r n):=fun _ h=>PK<|rg<|l7 b72 f1h 1 h fun a0t h=>fE h
def b71(n:j6):Option Bool:=
 (((bif n.i9 then ((a8N n.i6).bind fun E4=>(bif (!E4) then some (l9.ret false) else ((a1Q n.b8).bind fun F4=>(bif (!F4) then some (l9.ret false) else (bif n.b8.i7 then some (l9.ret false) else (bif (!(([n.b8.a5.b9,n.b8.a5.Seq]:List Int)==[n.Id,n.Seq])) then some (l9.ret false) else some (l9.brk ()))))))) else (bif decide ((n.i6.length:Int)>0) then some (l9.ret false) else ((a14 n.b8 (m4.mk false (n5.mk 0 0) (n7.mk [] [] 0 0))).bind fun G8=>(bif (!G8) then some (l9.ret false) else some (l9.brk ()))))):Option (l9 Bool Unit)).bind fun x=>x.go some fun j=>c2r n)
theorem f6m(n)(r):NF a0M r (d0W n) (fun s=>b71 n):=fun _ h=>PK<|A3 h (f0m n r) fun x1 h hc1=>rg<|j5 1 h (fun h=>rg<|l7 a4B b7y 2 h fun E4 h=>j5 4 h (fun h=>rg<|(B2 h hc1 fun h=>fE h)) (fun h=>l7 a3C a4d 7 h fun F4 h=>j5 10 h (fun h=>rg<|(B2 h hc1 fun h=>fE h)) (fun h=>j5 15 h (fun h=>rg<|(B2 h hc1 fun h=>fE h)) (fun h=>j5 25 h (fun h=>rg<|(B2 h hc1 fun h=>fE h)) (fun h=>(o9 h hc1 fun hI=>sk [] [1] [(1,0)] hI)))))) (fun h=>rg<|j5 4 h (fun h=>rg<|(B2 h hc1 fun h=>fE h)) (fun h=>l7 a4i a5l 8 h fun G8 h=>j5 10 h (fun h=>rg<|(B2 h hc1 fun h=>fE h)) (fun h=>(o9 h hc1 fun hI=>sk [] [1] [(1,0)] hI))))
def f6b(n:j6):Int->KS:=fun v36=>⟨a0M.k 3 [false],(bs 1 (.ptr 1 0 0::(bs 32 (j9 7 s5 n.f0::(vi (n.f0.length:Int)::(vi v36::(bs 52 []))))))),[some [],some [.var 55 (X6 n)]]⟩
def b9a(n:j6)(v36:Int):Option (j7 Bool Int Unit):=
 (bif decide (v36<(n.f0.length:Int)) then ((idx n.f0 v36).bind fun entry=>((a1Q entry).bind fun a2S=>(bif (!a2S) then some (j7.ret false) else (bif entry.i7 then some (j7.ret false) else some (j7.nxt (m7 (v36+1))))))) else some (j7.brk ()))
theorem f4U(n):LQ a0M (d0W n) (f6b n) (fun s=>b9a n s):=fun lc v36 h=>PK<|rg<|j5 0 h (fun h=>rg<|u0 s5 0 h fun entry F3 h=>rg<|l7 a3C a4d 1 h fun a2S h=>j5 3 h (fun h=>rg<|fL lc h) (fun h=>j5 6 h (fun h=>rg<|fL lc h) (fun h=>rg<|(lc.nx h fun hI=>sk [] [1,34,35,36] [(1,0)] hI)))) (fun h=>(lc.bk h fun hI=>sk [] [1] [(1,0)] hI))
def a3X(n:j6):Option Bool:=
 ((D9 n.Id 0 2).bind fun in_=>(bif (!in_) then some false else ((a96 n.Acc).bind fun O2=>(bif (!O2) then some false else ((b0l n.a6).bind fun G4=>(bif (!G4) then some false else ((D9 n.Seq 0 1000).bind fun in_1=>(bif (!in_1) then some false else (bif decide ((n.f0.length:Int)>4) then some false else ((o8 (fun s:Int=>b9a n s) 0).bind fun x=>x.go (fun r=>some r) fun s=>b71 n))))))))))
theorem a8r{n}:OK a0M [.agg (x6 n)] (a3X n):=
 o7 _ fun r h=>n9<|l7 D5 F8 2 h fun in_ h=>j5 4 h (fun h=>rg<|fE h) (fun h=>l7 a5L c7r 7 h fun O2 h=>j5 10 h (fun h=>rg<|fE h) (fun h=>l7 a5q c4M 13 h fun G4 h=>j5 16 h (fun h=>rg<|fE h) (fun h=>l7 D5 F8 19 h fun in_1 h=>j5 22 h (fun h=>rg<|fE h) (fun h=>j5 27 h (fun h=>rg<|fE h) (fun h=>rg<|lp (f4U n) h (fun _ h=>a0M.rt h) (f6m n r) fun hI=>sk [] [1,34,35,36] [(1,0)] hI)))))
def c5G:FS (Bool):=⟨44,Tryz.f44,[.val [] []],[none],[.val C2 []],fun r=>.b r,fun _=>[none],Tryz.func44⟩
def b2o(m:l8):Option Bool:=
 ((D9 m.c9 0 2).bind fun in_=>(bif (!in_) then some false else ((D9 m.To 0 2).bind fun in_1=>(bif (!in_1) then some false else (bif (m.c9==m.To) then some false else ((D9 m.g8 0 40).bind fun in_2=>(bif (!in_2) then some false else ((D9 m.a8 1 3000).bind fun a0w=>((a14 m.g9 (m4.mk false (n5.mk 0 0) (n7.mk [] [] 0 0))).bind fun G8=>(bif (m.a9==1) then (bif a0w then (bif G8 then some ((m.a7.length:Int)==0) else some false) else some false) else (bif (m.a9==4) then (bif a0w then (bif G8 then some ((m.a7.length:Int)==0) else some false) else some false) else (bif (m.a9==2) then (bif a0w then (bif G8 then ((a6T m.a7).bind fun L1=>(bif L1 then some (decide ((m7 (m.g8+(m.a7.length:Int)))<=40)) else some false)) else some false) else some false) else (bif (m.a9==3) then (bif a0w then (bif decide (m.g8<40) then ((a1Q m.g9).bind fun F4=>(bif F4 then some ((m.a7.length:Int)==0) else some false)) else some false) else some false) else (bif (m.a9==5) then (bif (m.a8==0) then (bif decide (m.g8<40) then ((a1Q m.g9).bind fun a2S=>(bif a2S then some ((m.a7.length:Int)==0) else some false)) else some false) else some false) else (bif (m.a9==6) then (bif a0w then (bif (m.g8==0) then (bif G8 then some ((m.a7.length:Int)==0) else some false) else some false) else some false) else (bif (m.a9==7) then (bif (m.a8==0) then (bif (m.g8==0) then ((a1Q m.g9).bind fun d1Z=>(bif d1Z then (bif (!m.g9.i7) then some ((m.a7.length:Int)==0) else some false) else some false)) else some false) else some false) else (bif (m.a9==8) then (bif (m.a8==0) then (bif G8 then some ((m.a7.length:Int)==0) else some false) else some false) else some false)))))))))))))))))
theorem d5o{m}:OK c5G [.agg (t6 m)] (b2o m):=
 o7 _ fun r h=>n9<|l7 D5 F8 2 h fun in_ h=>j5 4 h (fun h=>rg<|fE h) (fun h=>l7 D5 F8 7 h fun in_1 h=>j5 10 h (fun h=>rg<|fE h) (fun h=>j5 17 h (fun h=>rg<|fE h) (fun h=>l7 D5 F8 20 h fun in_2 h=>j5 22 h (fun h=>rg<|fE h) (fun h=>rg<|l7 D5 F8 2 h fun a0w h=>rg<|l7 a4i a5l 3 h fun G8 h=>L8<|j5 1 h (fun h=>rg<|j5 1 h (fun h=>j5 4 h (fun h=>fE h) (fun h=>fE h)) (fun h=>fE h)) (fun h=>rg<|j5 1 h (fun h=>rg<|j5 1 h (fun h=>j5 4 h (fun h=>fE h) (fun h=>fE h)) (fun h=>fE h)) (fun h=>rg<|j5 1 h (fun h=>rg<|j5 1 h (fun h=>j5 4 h (fun h=>l7 a3r b4W 7 h fun L1 h=>j5 9 h (fun h=>fE h) (fun h=>fE h)) (fun h=>fE h)) (fun h=>fE h)) (fun h=>rg<|j5 1 h (fun h=>rg<|j5 1 h (fun h=>j5 6 h (fun h=>l7 a3C a4d 9 h fun F4 h=>j5 11 h (fun h=>fE h) (fun h=>fE h)) (fun h=>fE h)) (fun h=>fE h)) (fun h=>rg<|j5 1 h (fun h=>rg<|j5 3 h (fun h=>j5 8 h (fun h=>l7 a3C a4d 11 h fun a2S h=>j5 13 h (fun h=>fE h) (fun h=>fE h)) (fun h=>fE h)) (fun h=>fE h)) (fun h=>rg<|j5 1 h (fun h=>rg<|j5 1 h (fun h=>j5 6 h (fun h=>j5 9 h (fun h=>fE h) (fun h=>fE h)) (fun h=>fE h)) (fun h=>fE h)) (fun h=>rg<|j5 1 h (fun h=>rg<|j5 3 h (fun h=>j5 8 h (fun h=>l7 a3C a4d 11 h fun d1Z h=>j5 13 h (fun h=>j5 19 h (fun h=>fE h) (fun h=>fE h)) (fun h=>fE h)) (fun h=>fE h)) (fun h=>fE h)) (fun h=>rg<|j5 1 h (fun h=>rg<|j5 3 h (fun h=>j5 6 h (fun h=>fE h) (fun h=>fE h)) (fun h=>fE h)) (fun h=>rg<|fE h))))))))))))
def M0:FS (Bool):=⟨13,Tryz.f13,[.val [] []],[none],[.val C5 []],fun r=>.b r,fun _=>[none],Tryz.func13⟩
def c94(w:m5):Unit->KS:=fun _=>⟨M0.k 4 [false,false],(bs 1 (.ptr 1 0 0::(bs 116 []))),[some [],some [.var 30 (B9 w)]]⟩
def d4y(w:m5):Unit->KS:=fun _=>⟨M0.k 6 [false,false,false],(bs 1 (.ptr 1 0 0::(bs 116 []))),[some [],some [.var 30 (B9 w)]]⟩
def c9E(w:m5):Unit->KS:=fun _=>⟨M0.k 8 [false,false,false,false],(bs 1 (.ptr 1 0 0::(bs 116 []))),[some [],some [.var 30 (B9 w)]]⟩
def c7E:Unit->KS:=fun _=>⟨M0.k 10 [false,false,false,false,false],(bs 118 []),[some []]⟩
def c8c:Option Bool:=
 some true
theorem e9T(r):NF M0 r c7E (fun s=>c8c):=fun _ h=>PK<|rg<|fE h
def f2P(w:m5):Int->KS:=fun v83=>⟨M0.k 9 [false,false,false,false],(bs 81 (j9 5 z5 w.Told::(vi (w.Told.length:Int)::(vi v83::(bs 34 []))))),[some []]⟩
def c05(w:m5)(v83:Int):Option (j7 Bool Int Unit):=
 (bif decide (v83<(w.Told.length:Int)) then ((idx w.Told v83).bind fun told=>((D9 told.Node 0 2).bind fun in_=>(bif (!in_) then some (j7.ret false) else ((a68 told.a5).bind fun a6e=>(bif (!a6e) then some (j7.ret false) else (bif (told.a5.b9 != told.Node) then some (j7.ret false) else ((D9 told.Code 0 4).bind fun in_1=>(bif (!in_1) then some (j7.ret false) else ((D9 told.d9 (-1000000) 1000000).bind fun in_2=>(bif (!in_2) then some (j7.ret false) else some (j7.nxt (m7 (v83+1))))))))))))) else some (j7.brk ()))
theorem e5U(w):LQ M0 c7E (f2P w) (fun s=>c05 w s):=fun lc v83 h=>PK<|rg<|j5 0 h (fun h=>rg<|u0 z5 0 h fun told a4y h=>rg<|l7 D5 F8 2 h fun in_ h=>j5 4 h (fun h=>rg<|fL lc h) (fun h=>l7 b09 b3h 7 h fun a6e h=>j5 10 h (fun h=>rg<|fL lc h) (fun h=>j5 18 h (fun h=>rg<|fL lc h) (fun h=>l7 D5 F8 21 h fun in_1 h=>j5 24 h (fun h=>rg<|fL lc h) (fun h=>l7 D5 F8 27 h fun in_2 h=>j5 29 h (fun h=>rg<|fL lc h) (fun h=>rg<|(lc.nx h fun hI=>sk [] [81,82,83] [] hI))))))) (fun h=>(lc.bk h fun hI=>sk [] [] [] hI))
def b91(w:m5):Option Bool:=
 ((o8 (fun s:Int=>c05 w s) 0).bind fun x=>x.go (fun r=>some r) fun s=>c8c)
theorem f3t(w)(r):NF M0 r (c9E w) (fun s=>b91 w):=fun _ h=>PK<|rg<|lp (e5U w) h (fun _ h=>M0.rt h) (e9T r) fun hI=>sk [] [81,82,83] [] hI
def d9k(w:m5):Int->KS:=fun v65=>⟨M0.k 7 [false,false,false],(bs 1 (.ptr 1 0 0::(bs 61 (j9 3 C1 w.d8::(vi (w.d8.length:Int)::(vi v65::(bs 52 []))))))),[some [],some [.var 30 (B9 w)]]⟩
def b5R(w:m5)(v65:Int):Option (j7 Bool Int Unit):=
 (bif decide (v65<(w.d8.length:Int)) then ((idx w.d8 v65).bind fun asked=>((a68 asked.a5).bind fun b4u=>(bif (!b4u) then some (j7.ret false) else ((a8N asked.i6).bind fun E4=>(bif (!E4) then some (j7.ret false) else some (j7.nxt (m7 (v65+1)))))))) else some (j7.brk ()))
theorem f4Z(w):LQ M0 (c9E w) (d9k w) (fun s=>b5R w s):=fun lc v65 h=>PK<|rg<|j5 0 h (fun h=>rg<|u0 C1 0 h fun asked a7V h=>rg<|l7 b09 b3h 2 h fun b4u h=>j5 4 h (fun h=>rg<|fL lc h) (fun h=>l7 a4B b7y 7 h fun E4 h=>j5 9 h (fun h=>rg<|fL lc h) (fun h=>rg<|(lc.nx h fun hI=>sk [] [1,63,64,65] [(1,0)] hI)))) (fun h=>(lc.bk h fun hI=>sk [] [1] [(1,0)] hI))
def b9R(w:m5):Option Bool:=
 ((o8 (fun s:Int=>b5R w s) 0).bind fun x=>x.go (fun r=>some r) fun s=>b91 w)
theorem e5r(w)(r):NF M0 r (d4y w) (fun s=>b9R w):=fun _ h=>PK<|rg<|lp (f4Z w) h (fun _ h=>M0.rt h) (f3t w r) fun hI=>sk [] [1,63,64,65] [(1,0)] hI
def e6z(w:m5):Int->KS:=fun v54=>⟨M0.k 5 [false,false],(bs 1 (.ptr 1 0 0::(bs 50 (j9 13 t6 w.d7::(vi (w.d7.length:Int)::(vi v54::(bs 63 []))))))),[some [],some [.var 30 (B9 w)]]⟩
def c0J(w:m5)(v54:Int):Option (j7 Bool Int Unit):=
 (bif decide (v54<(w.d7.length:Int)) then ((idx w.d7 v54).bind fun msg=>((b2o msg).bind fun Q7=>(bif (!Q7) then some (j7.ret false) else some (j7.nxt (m7 (v54+1)))))) else some (j7.brk ()))
theorem d9Q(w):LQ M0 (d4y w) (e6z w) (fun s=>c0J w s):=fun lc v54 h=>PK<|rg<|j5 0 h (fun h=>rg<|u0 t6 0 h fun msg hmsg h=>rg<|l7 c5G d5o 1 h fun Q7 h=>j5 2 h (fun h=>rg<|fL lc h) (fun h=>rg<|(lc.nx h fun hI=>sk [] [1,52,53,54] [(1,0)] hI))) (fun h=>(lc.bk h fun hI=>sk [] [1] [(1,0)] hI))
def b61(w:m5):Option Bool:=
 ((o8 (fun s:Int=>c0J w s) 0).bind fun x=>x.go (fun r=>some r) fun s=>b9R w)
theorem f1e(w)(r):NF M0 r (c94 w) (fun s=>b61 w):=fun _ h=>PK<|rg<|lp (d9Q w) h (fun _ h=>M0.rt h) (e5r w r) fun hI=>sk [] [1,52,53,54] [(1,0)] hI
def e1z(w:m5):Int->KS:=fun v36=>⟨M0.k 3 [false],(bs 1 (.ptr 1 0 0::(bs 32 (j9 27 x6 w.a0::(vi (w.a0.length:Int)::(vi v36::(bs 81 []))))))),[some [],some [.var 30 (B9 w)]]⟩
def b8A(w:m5)(v36:Int):Option (j7 Bool Int Unit):=
 (bif decide (v36<(w.a0.length:Int)) then ((idx w.a0 v36).bind fun node=>(bif (node.Id != v36) then some (j7.ret false) else ((a3X node).bind fun D7=>(bif (!D7) then some (j7.ret false) else some (j7.nxt (m7 (v36+1))))))) else some (j7.brk ()))
theorem d81(w):LQ M0 (c94 w) (e1z w) (fun s=>b8A w s):=fun lc v36 h=>PK<|rg<|j5 0 h (fun h=>rg<|u0 x6 1 h fun node hnode h=>rg<|j5 4 h (fun h=>rg<|fL lc h) (fun h=>l7 a0M a8r 6 h fun D7 h=>j5 8 h (fun h=>rg<|fL lc h) (fun h=>rg<|(lc.nx h fun hI=>sk [] [1,34,35,36] [(1,0)] hI)))) (fun h=>(lc.bk h fun hI=>sk [] [1] [(1,0)] hI))
def a2U(w:m5):Option Bool:=
 (bif ((w.a0.length:Int) != 3) then some false else (bif decide ((w.d7.length:Int)>40) then some false else (bif decide ((w.d8.length:Int)>60) then some false else (bif decide ((w.Told.length:Int)>60) then some false else ((o8 (fun s:Int=>b8A w s) 0).bind fun x=>x.go (fun r=>some r) fun s=>b61 w)))))
theorem a6U{w}:OK M0 [.agg (K7 w)] (a2U w):=
 o7 _ fun r h=>n9<|j5 4 h (fun h=>rg<|fE h) (fun h=>j5 10 h (fun h=>rg<|fE h) (fun h=>j5 16 h (fun h=>rg<|fE h) (fun h=>j5 21 h (fun h=>rg<|fE h) (fun h=>rg<|lp (d81 w) h (fun _ h=>M0.rt h) (f1e w r) fun hI=>sk [] [1,34,35,36] [(1,0)] hI))))
def b4I:FS (p7):=⟨143,Tryz.f143,[.ptr J4 om7],[none],[.val A8 []],fun r=>.optr 163 (b8v r),fun _=>[none],Tryz.func143⟩
def a74(n:j6):Option p7:=
 ((a80 n).bind fun Y0=>some (p7.mk Y0 [] []))
theorem b9w{n}:OK b4I [.agg (x6 n)] (a74 n):=
 o7 _ fun r h=>n9<|l7 b3x c0g 1 h fun Y0 h=>J8 Y0<|fE h
def a3O:FS (j6×(List l8)×(List n6)×p7):=⟨144,Tryz.f144,[.val A8 [],.val [some 13] [],.val [some 5] []],[some (0,.ptr J4 [])],[.ptr J4 []],fun r=>.tup [.agg (x6 r.1),j9 13 t6 r.2.1,j9 5 z5 r.2.2.1],fun r=>[some (.optr 163 (d74 r.2.2.2))],Tryz.func144⟩
def a1E(a:p7):Option (j6×(List l8)×(List n6)×p7):=
 ((a80 a.n).bind fun Y0=>((b12 a.out).bind fun msgsCopy=>((b7P a.told).bind fun told=>some (Y0,msgsCopy,told,a))))
theorem a40{a}:OK a3O [.optr 163 (d74 a)] (a1E a):=
 o7 _ fun r h=>n9<|l7 b3x c0g 4 h fun Y0 h=>l7 a5T d4w 9 h fun msgsCopy h=>l7 c6w d2u 14 h fun told h=>J8 Y0<|C9 msgsCopy told<|fE h
def c3f:FS (List m9):=⟨55,Tryz.f55,[.val [some 2] [some 142]],[],[],fun r=>v6 142 2 x7 r,fun _=>[],Tryz.func55⟩
def b3z:Option (List m9):=
 (t5 (0<=(4:Int)/\(4:Int)*16<=140737488355328) (some (f8A (4:Int).toNat (m9.mk 0 0))))
theorem c8D:OK c3f [] b3z:=
 o7 _ fun r h=>n9<|t9 h fun e1 h=>T1 0 2 142 2 16 x7 (m9.mk 0 0) b26 (.none) e1 (by decide) (by rfl)<|s7 (f8A (4:Int).toNat (m9.mk 0 0))<|fE h
def d6h:FS (u5):=⟨107,Tryz.f107,[.val [none,some 2,some 4] [none,some 142,some 182]],[],[],fun r=>.agg (b3J r),fun _=>[],Tryz.func107⟩
def c0f:Option u5:=
 ((b3z).bind fun a05=>some (u5.mk 0 a05 []))
theorem e3I:OK d6h [] c0f:=
 o7 _ fun r h=>n9<|l7 c3f c8D 0 h fun a05 h=>s7 a05<|fE h
def a3D:FS (Bool):=⟨102,Tryz.f102,[.val [] []],[none],[.val [some 2] []],fun r=>.b r,fun _=>[none],Tryz.func102⟩
def d8d(list:List m9):Unit->KS:=fun _=>⟨a3D.k 3 [false],(j9 2 x7 list::(bs 24 [])),[some []]⟩
def c3A(list:List m9):Option Bool:=
 some ((list.length:Int)==4)
theorem e5z(list)(r):NF a3D r (d8d list) (fun s=>c3A list):=fun _ h=>PK<|rg<|fE h
def e7u(list:List m9):Int->KS:=fun v7=>⟨a3D.k 2 [],(j9 2 x7 list::(bs 4 (j9 2 x7 list::(vi (list.length:Int)::(vi v7::(bs 17 [])))))),[some []]⟩
def b9P(list:List m9)(v7:Int):Option (j7 Bool Int Unit):=
 (bif decide (v7<(list.length:Int)) then ((idx list v7).bind fun box=>((D9 box.j4 0 1000000).bind fun in_=>(bif (!in_) then some (j7.ret false) else ((D9 box.d9 (-1000000) 1000000).bind fun in_1=>(bif (!in_1) then some (j7.ret false) else some (j7.nxt (m7 (v7+1)))))))) else some (j7.brk ()))
theorem e75(list):LQ a3D (d8d list) (e7u list) (fun s=>b9P list s):=fun lc v7 h=>PK<|rg<|j5 0 h (fun h=>rg<|u0 x7 0 h fun box a1B h=>rg<|l7 D5 F8 2 h fun in_ h=>j5 4 h (fun h=>rg<|fL lc h) (fun h=>l7 D5 F8 7 h fun in_1 h=>j5 9 h (fun h=>rg<|fL lc h) (fun h=>rg<|(lc.nx h fun hI=>sk [] [0,5,6,7] [] hI)))) (fun h=>(lc.bk h fun hI=>sk [] [0] [] hI))
def a6x(list:List m9):Option Bool:=
 ((o8 (fun s:Int=>b9P list s) 0).bind fun x=>x.go (fun r=>some r) fun s=>c3A list)
theorem b49{list}:OK a3D [j9 2 x7 list] (a6x list):=
 o7 _ fun r h=>n9<|lp (e75 list) h (fun _ h=>a3D.rt h) (e5z list r) fun hI=>sk [] [0,5,6,7] [] hI
def a5s:FS (Bool):=⟨164,Tryz.f164,[.val [] []],[none],[.val [none,some 2,some 4] []],fun r=>.b r,fun _=>[none],Tryz.func164⟩
def c3w(s_:u5):Unit->KS:=fun _=>⟨a5s.k 3 [false],(bs 1 (.ptr 1 0 0::(bs 64 []))),[some [],some [.var 104 [vi s_.At,j9 2 x7 s_.g7,j9 4 B5 s_.i8]]]⟩
def c1O(s_:u5):Option Bool:=
 ((D9 s_.At 0 40).bind fun in_=>(bif in_ then ((a6x s_.g7).bind fun R5=>some R5) else some false))
theorem f7i(s_)(r):NF a5s r (c3w s_) (fun s=>c1O s_):=fun _ h=>PK<|rg<|l7 D5 F8 2 h fun in_ h=>j5 3 h (fun h=>l7 a3D b49 6 h fun R5 h=>fE h) (fun h=>fE h)
def d3O(s_:u5):Int->KS:=fun v8=>⟨a5s.k 2 [],(bs 1 (.ptr 1 0 0::(bs 4 (j9 4 B5 s_.i8::(vi (s_.i8.length:Int)::(vi v8::(bs 57 []))))))),[some [],some [.var 104 [vi s_.At,j9 2 x7 s_.g7,j9 4 B5 s_.i8]]]⟩
def e39(s_:u5)(v8:Int):Unit->KS:=fun _=>⟨a5s.k 5 [true,false],(bs 1 (.ptr 1 0 0::(bs 4 (j9 4 B5 s_.i8::(vi (s_.i8.length:Int)::(vi v8::(bs 57 []))))))),[some [],some [.var 104 [vi s_.At,j9 2 x7 s_.g7,j9 4 B5 s_.i8]]]⟩
def c3I(v8:Int):Option (j7 Bool Int Unit):=
 some (j7.nxt (m7 (v8+1)))
theorem f4I(s_ v8)(lc:D2 a5s (c3w s_) (d3O s_)):NL lc (e39 s_ v8) (fun s=>c3I v8):=fun _ h=>PK<|rg<|(lc.nx h fun hI=>sk [] [1,6,7,8] [(1,0)] hI)
def b3s(s_:u5)(v8:Int):Option (j7 Bool Int Unit):=
 (bif decide (v8<(s_.i8.length:Int)) then ((idx s_.i8 v8).bind fun done=>(((bif decide (v8>0) then ((idx s_.i8 (m7 (v8-1))).bind fun a5F=>(bif decide (a5F.a5.b9>=done.a5.b9) then some (l9.ret (j7.ret false)) else ((a68 done.a5).bind fun a6e=>(bif (!a6e) then some (l9.ret (j7.ret false)) else ((D9 done.Code 0 2).bind fun in_1=>(bif (!in_1) then some (l9.ret (j7.ret false)) else ((D9 done.d9 (-1000000) 1000000).bind fun in_2=>(bif (!in_2) then some (l9.ret (j7.ret false)) else (bif (done.Code != 0) then (bif (done.d9 != 0) then some (l9.ret (j7.ret false)) else some (l9.brk ())) else some (l9.brk ())))))))))) else ((a68 done.a5).bind fun b4u=>(bif (!b4u) then some (l9.ret (j7.ret false)) else ((D9 done.Code 0 2).bind fun a0w=>(bif (!a0w) then some (l9.ret (j7.ret false)) else ((D9 done.d9 (-1000000) 1000000).bind fun a5K=>(bif (!a5K) then some (l9.ret (j7.ret false)) else (bif (done.Code != 0) then (bif (done.d9 != 0) then some (l9.ret (j7.ret false)) else some (l9.brk ())) else some (l9.brk ()))))))))):Option (l9 (j7 Bool Int Unit) Unit)).bind fun x=>x.go some fun j=>c3I v8)) else some (j7.brk ()))
theorem e53(s_):LQ a5s (c3w s_) (d3O s_) (fun s=>b3s s_ s):=fun lc v8 h=>PK<|rg<|j5 0 h (fun h=>rg<|u0 B5 1 h fun done c0t h=>A3 h (f4I s_ v8 lc) fun x2 h hc2=>rg<|j5 2 h (fun h=>u0 B5 7 h fun a5F e1r h=>j5 16 h (fun h=>rg<|(B2 h hc2 fun h=>fL lc h)) (fun h=>l7 b09 b3h 19 h fun a6e h=>j5 22 h (fun h=>rg<|(B2 h hc2 fun h=>fL lc h)) (fun h=>l7 D5 F8 25 h fun in_1 h=>j5 28 h (fun h=>rg<|(B2 h hc2 fun h=>fL lc h)) (fun h=>l7 D5 F8 31 h fun in_2 h=>j5 34 h (fun h=>rg<|(B2 h hc2 fun h=>fL lc h)) (fun h=>j5 38 h (fun h=>j5 43 h (fun h=>rg<|(B2 h hc2 fun h=>fL lc h)) (fun h=>(o9 h hc2 fun hI=>sk [] [1,6,7,8] [(1,0)] hI))) (fun h=>(o9 h hc2 fun hI=>sk [] [1,6,7,8] [(1,0)] hI))))))) (fun h=>l7 b09 b3h 19 h fun b4u h=>j5 22 h (fun h=>rg<|(B2 h hc2 fun h=>fL lc h)) (fun h=>l7 D5 F8 25 h fun a0w h=>j5 28 h (fun h=>rg<|(B2 h hc2 fun h=>fL lc h)) (fun h=>l7 D5 F8 31 h fun a5K h=>j5 34 h (fun h=>rg<|(B2 h hc2 fun h=>fL lc h)) (fun h=>j5 38 h (fun h=>j5 43 h (fun h=>rg<|(B2 h hc2 fun h=>fL lc h)) (fun h=>(o9 h hc2 fun hI=>sk [] [1,6,7,8] [(1,0)] hI))) (fun h=>(o9 h hc2 fun hI=>sk [] [1,6,7,8] [(1,0)] hI))))))) (fun h=>(lc.bk h fun hI=>sk [] [1] [(1,0)] hI))
def b5J(s_:u5):Option Bool:=
 ((o8 (fun s:Int=>b3s s_ s) 0).bind fun x=>x.go (fun r=>some r) fun s=>c1O s_)
theorem f1k{s_}:OK a5s [.agg (a82 s_)] (b5J s_):=
 o7 _ fun r h=>n9<|lp (e53 s_) h (fun _ h=>a5s.rt h) (f7i s_ r) fun hI=>sk [] [1,6,7,8] [(1,0)] hI
def b79:FS (List m9):=⟨103,Tryz.f103,[.val [some 2] [some 142]],[none],[.val [some 2] []],fun r=>v6 142 2 x7 r,fun _=>[none],Tryz.func103⟩
def a8O(list:List m9):Option (List m9):=
 (bif ((list.length:Int)==0) then some [] else (t5 (0<=(list.length:Int)/\(list.length:Int)*16<=140737488355328) ((t5 (list.length=(f8A (list.length:Int).toNat (m9.mk 0 0)).length) (some list)))))
theorem c4U{list}:OK b79 [j9 2 x7 list] (a8O list):=
 o7 _ fun r h=>n9<|j5 2 h (fun h=>rg<|fE h) (fun h=>rg<|t9 h fun e1 h=>T1 2 7 142 2 16 x7 (m9.mk 0 0) b26 (.none) e1 (by decide) (by rfl)<|rg<|t9 h fun e2 h=>om (s9.row 142 2 (f8A (list.length:Int).toNat (m9.mk 0 0)).length (list.map x7)=m6 142 2 x7 list) (a1p e2)<|s7 (f8A (list.length:Int).toNat (m9.mk 0 0))<|ob e2<|tl (2,{e:=some (m6 142 2 x7 list)})<|rg<|om ((f8A (list.length:Int).toNat (m9.mk 0 0)).length=list.length) (by simp)<|fE h)
def b3y:FS (List q9):=⟨165,Tryz.f165,[.val [some 4] [some 182]],[none],[.val [some 4] []],fun r=>v6 182 4 B5 r,fun _=>[none],Tryz.func165⟩
def a7e(list:List q9):Option (List q9):=
 (bif ((list.length:Int)==0) then some [] else (t5 (0<=(list.length:Int)/\(list.length:Int)*32<=140737488355328) ((t5 (list.length=(f8A (list.length:Int).toNat (q9.mk (n5.mk 0 0) 0 0)).length) (some list)))))
theorem c7f{list}:OK b3y [j9 4 B5 list] (a7e list):=
 o7 _ fun r h=>n9<|j5 2 h (fun h=>rg<|fE h) (fun h=>rg<|t9 h fun e1 h=>T1 2 7 182 4 32 B5 (q9.mk (n5.mk 0 0) 0 0) c1R (.none) e1 (by decide) (by rfl)<|rg<|t9 h fun e2 h=>om (s9.row 182 4 (f8A (list.length:Int).toNat (q9.mk (n5.mk 0 0) 0 0)).length (list.map B5)=m6 182 4 B5 list) (a1p e2)<|s7 (f8A (list.length:Int).toNat (q9.mk (n5.mk 0 0) 0 0))<|ob e2<|tl (2,{e:=some (m6 182 4 B5 list)})<|rg<|om ((f8A (list.length:Int).toNat (q9.mk (n5.mk 0 0) 0 0)).length=list.length) (by simp)<|fE h)
def a88:FS (Bool):=⟨166,Tryz.f166,[.val [] []],[none,none],[.val [some 2] [],.val O7 []],fun r=>.b r,fun _=>[none,none],Tryz.func166⟩
def c9M:Unit->KS:=fun _=>⟨a88.k 4 [false,false],(bs 32 []),[some []]⟩
def d7d:Option Bool:=
 some true
theorem f3O(r):NF a88 r c9M (fun s=>d7d):=fun _ h=>PK<|rg<|fE h
def e9V(list:List m9)(r_:n7):Int->KS:=fun v18=>⟨a88.k 3 [false],(j9 2 x7 list::(bs 15 (j9 2 w8 r_.b5::(vi (r_.b5.length:Int)::(vi v18::(bs 13 [])))))),[some []]⟩
def b5z(list:List m9)(r_:n7)(v18:Int):Option (j7 Bool Int Unit):=
 (bif decide (v18<(r_.b5.length:Int)) then ((idx r_.b5 v18).bind fun read=>((idx list read.i5).bind fun box=>(bif (box.j4 != read.j4) then some (j7.ret false) else some (j7.nxt (m7 (v18+1)))))) else some (j7.brk ()))
theorem f5I(list r_):LQ a88 c9M (e9V list r_) (fun s=>b5z list r_ s):=fun lc v18 h=>PK<|rg<|j5 0 h (fun h=>rg<|u0 w8 0 h fun read a4x h=>rg<|u0 x7 3 h fun box a1B h=>j5 8 h (fun h=>rg<|fL lc h) (fun h=>rg<|(lc.nx h fun hI=>sk [] [0,16,17,18] [] hI))) (fun h=>(lc.bk h fun hI=>sk [] [] [] hI))
def b5T(list:List m9)(r_:n7):Option Bool:=
 ((a6x list).bind fun R5=>(bif (!R5) then some false else ((b1e r_).bind fun a1n=>(bif (!a1n) then some false else ((o8 (fun s:Int=>b5z list r_ s) 0).bind fun x=>x.go (fun r=>some r) fun s=>d7d)))))
theorem f1m{list r_}:OK a88 [j9 2 x7 list,.agg (S4 r_)] (b5T list r_):=
 o7 _ fun r h=>n9<|l7 a3D b49 1 h fun R5 h=>j5 3 h (fun h=>rg<|fE h) (fun h=>l7 a0m c4n 5 h fun a1n h=>j5 7 h (fun h=>rg<|fE h) (fun h=>rg<|lp (f5I list r_) h (fun _ h=>a88.rt h) (f3O r) fun hI=>sk [] [0,16,17,18] [] hI))
def a6u:FS (List m9):=⟨163,Tryz.f163,[.val [some 2] [some 142]],[none,none],[.val [some 2] [],.val O7 []],fun r=>v6 142 2 x7 r,fun _=>[none,none],Tryz.func163⟩
def d4x:(List m9)->KS:=fun out1=>⟨a6u.k 5 [false,false],(bs 5 (.own 1 0 2 0 out1.length::(bs 36 []))),[some [],some [m6 142 2 x7 out1]]⟩
def c7H(out1:List m9):Option (List m9):=
 some out1
theorem e36(r):NF a6u r d4x (fun s=>c7H s):=fun out1 h=>PK<|rg<|s7 out1<|fE h
def f3c(r_:n7):((List m9)×Int)->KS:=fun (out,v21)=>⟨a6u.k 4 [false],(bs 5 (.own 1 0 2 0 out.length::(bs 13 (j9 2 w9 r_.b7::(vi (r_.b7.length:Int)::(vi v21::(bs 20 []))))))),[some [],some [m6 142 2 x7 out]]⟩
def b9C(r_:n7)(out:List m9)(v21:Int):Option (j7 (List m9) ((List m9)×Int) (List m9)):=
 (bif decide (v21<(r_.b7.length:Int)) then ((idx r_.b7 v21).bind fun put=>((idx out put.i5).bind fun Q1=>some (j7.nxt (out.set put.i5.toNat (m9.mk (if (m7 (Q1.j4+1))<1000000 then (m7 (Q1.j4+1)) else 1000000) put.d9),m7 (v21+1))))) else some (j7.brk out))
theorem e9u(r_):LQ a6u d4x (f3c r_) (fun s=>b9C r_ s.1 s.2):=fun lc (out,v21) h=>PK<|rg<|j5 0 h (fun h=>rg<|u0 w9 0 h fun put hput h=>rg<|B0 h fun Q1 a61 h=>C0 a61<|I4 x7 8 a61<|C0 a61<|Q6 142 2 x7 15 [] (m9.mk (if (m7 (Q1.j4+1))<1000000 then (m7 (Q1.j4+1)) else 1000000) put.d9) a61<|rg<|(lc.nx h fun hI=>om ((.own 1 0 2 0 out.length:V)=.own 1 0 2 0 (out.set put.i5.toNat (m9.mk (if (m7 (Q1.j4+1))<1000000 then (m7 (Q1.j4+1)) else 1000000) put.d9)).length) (by simp)<|sk [.is (.tmp 5) (.own 1 0 2 0 (out.set put.i5.toNat (m9.mk (if (m7 (Q1.j4+1))<1000000 then (m7 (Q1.j4+1)) else 1000000) put.d9)).length)] [5,19,20,21] [(1,0)] hI)) (fun h=>(lc.bk h fun hI=>sk [] [5] [(1,0)] hI))
def b2Y(list:List m9)(r_:n7):Option (List m9):=
 ((a6x list).bind fun R5=>(bif (!R5) then some [] else ((b1e r_).bind fun a1n=>(bif (!a1n) then some [] else ((a8O list).bind fun box=>((o8 (fun s:(List m9)×Int=>b9C r_ s.1 s.2) (box,0)).bind fun x=>x.go (fun r=>some r) fun s=>c7H s))))))
theorem d4D{list r_}:OK a6u [j9 2 x7 list,.agg (S4 r_)] (b2Y list r_):=
 o7 _ fun r h=>n9<|l7 a3D b49 1 h fun R5 h=>j5 3 h (fun h=>rg<|fE h) (fun h=>l7 a0m c4n 5 h fun a1n h=>j5 7 h (fun h=>rg<|fE h) (fun h=>rg<|l7 b79 c4U 1 h fun box h=>rg<|lp (e9u r_) h (fun _ h=>a6u.rt h) (e36 r) fun hI=>sk [] [5,19,20,21] [(12,0)] hI))
def R1:FS (u5×Int):=⟨108,Tryz.f108,[.val [none,some 2,some 4] [none,some 142,some 182],.val [] []],[none,none],[.val [none,some 2,some 4] [],.val J3 []],fun r=>.tup [.agg (b3J r.1),vi r.2],fun _=>[none,none],Tryz.func108⟩
def c6T(s_:u5)(e_:m4)(box:List m9):Unit->KS:=fun _=>⟨R1.k 6 [false,false,false],(bs 2 (.ptr 1 0 0::(.ptr 2 0 0::(.ptr 3 0 0::(bs 1 (.ptr 4 0 0::(bs 145 []))))))),[some [],some [.var 104 [vi s_.At,j9 2 x7 s_.g7,j9 4 B5 s_.i8]],some [.var 53 (a1C e_)],some [.var 104 [vi 0,.nil,.nil]],some [.var 104 [vi (m7 (s_.At+1)),.own 5 0 2 0 box.length,.nil]],some [m6 142 2 x7 box]]⟩
def e6N(s_:u5):(q9×List m9)->KS:=fun (own,g7)=>⟨R1.k 9 [false,false,false,true],(bs 2 (.ptr 1 0 0::(bs 1 (.ptr 2 0 0::(bs 1 (.ptr 3 0 0::(bs 2 (.ptr 5 0 0::(bs 142 []))))))))),[some [],some [.var 104 [vi s_.At,j9 2 x7 s_.g7,j9 4 B5 s_.i8]],some [.var 104 [vi 0,.nil,.nil]],some [.var 104 [vi (m7 (s_.At+1)),.own 4 0 2 0 g7.length,.nil]],some [m6 142 2 x7 g7],some [.var 182 [vi own.a5.b9,vi own.a5.Seq,vi own.Code,vi own.d9]]]⟩
def b7c(s_:u5)(own:q9)(g7:List m9):((List q9)×Bool)->KS:=fun (dones1,put1)=>⟨R1.k 13 [false,false,false,true,false],(bs 4 (.ptr 1 0 0::(bs 1 (.ptr 2 0 0::(bs 2 (.ptr 4 0 0::(.own 5 0 4 0 dones1.length::(.b put1::(bs 140 []))))))))),[some [],some [.var 104 [vi 0,.nil,.nil]],some [.var 104 [vi (m7 (s_.At+1)),.own 3 0 2 0 g7.length,.nil]],some [m6 142 2 x7 g7],some [.var 182 [vi own.a5.b9,vi own.a5.Seq,vi own.Code,vi own.d9]],some [m6 182 4 B5 dones1]]⟩
def f0z(s_:u5)(own:q9)(g7:List m9):(List q9)->KS:=fun b02=>⟨R1.k 15 [false,false,false,true,false,true],(bs 4 (.ptr 1 0 0::(bs 1 (.ptr 2 0 0::(bs 2 (.ptr 4 0 0::(.own 5 0 4 0 b02.length::(bs 141 [])))))))),[some [],some [.var 104 [vi 0,.nil,.nil]],some [.var 104 [vi (m7 (s_.At+1)),.own 3 0 2 0 g7.length,.nil]],some [m6 142 2 x7 g7],some [.var 182 [vi own.a5.b9,vi own.a5.Seq,vi own.Code,vi own.d9]],some [m6 182 4 B5 b02]]⟩
def c6r(s_:u5)(own:q9)(g7:List m9)(b02:List q9):Option (u5×Int):=
 ((a7e b02).bind fun a5F=>some ((u5.mk (m7 (s_.At+1)) g7 a5F),own.Code))
theorem e82(s_ own g7)(r):NF R1 r (f0z s_ own g7) (fun s=>c6r s_ own g7 s):=fun b02 h=>PK<|rg<|cbS b3y c7f 1 (fun _=>(by simp [b3y,L0,R0,O4,V.simple,vi,v6,B5,eI,F6])) (fun _=>(Q9 1)) h fun a5F h=>s7 b02<|rg<|C9 g7 a5F<|fE h
def c3X(s_:u5)(own:q9)(g7:List m9)(dones1:List q9)(put1:Bool):Option (u5×Int):=
 (((bif (!put1) then (t5 ((dones1.length+1)*32<=140737488355328) (some (l9.brk (dones1++[own])))) else some (l9.brk dones1)):Option (l9 (u5×Int) (List q9))).bind fun x=>x.go some fun j=>c6r s_ own g7 j)
theorem e24(s_ own g7)(r):NF R1 r (b7c s_ own g7) (fun s=>c3X s_ own g7 s.1 s.2):=fun (dones1,put1) h=>PK<|A3 h (e82 s_ own g7 r) fun x1 h hc1=>rg<|j5 1 h (fun h=>rg<|tk 2 []<|t9 h fun e1 h=>F7 3 11 182 4 32 B5 dones1 own e1<|E5 own<|(o9 h hc1 fun hI=>sk [] [4,6,9,10] [(1,0),(2,0),(3,0),(4,0),(11,0)] hI)) (fun h=>(o9 h hc1 fun hI=>sk [] [4,6,9,10] [(1,0),(2,0),(3,0),(4,0),(5,0)] hI))
def c4y(s_:u5)(own:q9)(g7:List m9):((List q9)×Int×Bool)->KS:=fun (dones,v109,put)=>⟨R1.k 12 [false,false,false,true],(bs 4 (.ptr 1 0 0::(bs 1 (.ptr 2 0 0::(bs 2 (.ptr 4 0 0::(.own 5 0 4 0 dones.length::(.b put::(bs 95 (j9 4 B5 s_.i8::(vi (s_.i8.length:Int)::(vi v109::(bs 42 []))))))))))))),[some [],some [.var 104 [vi 0,.nil,.nil]],some [.var 104 [vi (m7 (s_.At+1)),.own 3 0 2 0 g7.length,.nil]],some [m6 142 2 x7 g7],some [.var 182 [vi own.a5.b9,vi own.a5.Seq,vi own.Code,vi own.d9]],some [m6 182 4 B5 dones]]⟩
def e31(s_:u5)(own:q9)(g7:List m9)(v109:Int)(done2:q9):((List q9)×Bool)->KS:=fun (dones3,put2)=>⟨R1.k 17 [false,false,false,true,true,true],(bs 4 (.ptr 1 0 0::(bs 1 (.ptr 2 0 0::(bs 2 (.ptr 4 0 0::(.own 5 0 4 0 dones3.length::(.b put2::(bs 1 (.ptr 6 0 0::(bs 93 (j9 4 B5 s_.i8::(vi (s_.i8.length:Int)::(vi v109::(bs 42 []))))))))))))))),[some [],some [.var 104 [vi 0,.nil,.nil]],some [.var 104 [vi (m7 (s_.At+1)),.own 3 0 2 0 g7.length,.nil]],some [m6 142 2 x7 g7],some [.var 182 [vi own.a5.b9,vi own.a5.Seq,vi own.Code,vi own.d9]],some [m6 182 4 B5 dones3],some [.var 182 [vi done2.a5.b9,vi done2.a5.Seq,vi done2.Code,vi done2.d9]]]⟩
def e9r(s_:u5)(own:q9)(g7:List m9)(v109:Int)(put2:Bool):(List q9)->KS:=fun b3e=>⟨R1.k 19 [false,false,false,true,true,true,true],(bs 4 (.ptr 1 0 0::(bs 1 (.ptr 2 0 0::(bs 2 (.ptr 4 0 0::(.own 5 0 4 0 b3e.length::(.b put2::(bs 95 (j9 4 B5 s_.i8::(vi (s_.i8.length:Int)::(vi v109::(bs 42 []))))))))))))),[some [],some [.var 104 [vi 0,.nil,.nil]],some [.var 104 [vi (m7 (s_.At+1)),.own 3 0 2 0 g7.length,.nil]],some [m6 142 2 x7 g7],some [.var 182 [vi own.a5.b9,vi own.a5.Seq,vi own.Code,vi own.d9]],some [m6 182 4 B5 b3e]]⟩
def c34(v109:Int)(put2:Bool)(b3e:List q9):Option (j7 (u5×Int) ((List q9)×Int×Bool) ((List q9)×Bool)):=
 some (j7.nxt (b3e,m7 (v109+1),put2))
theorem e2i(s_ own g7 v109 put2)(lc:D2 R1 (b7c s_ own g7) (c4y s_ own g7)):NL lc (e9r s_ own g7 v109 put2) (fun s=>c34 v109 put2 s):=fun b3e h=>PK<|rg<|(lc.nx h fun hI=>sk [] [4,6,9,10,11,107,108,109] [(1,0),(2,0),(3,0),(4,0),(5,0)] hI)
def c4v(own:q9)(v109:Int)(done2:q9)(dones3:List q9)(put2:Bool):Option (j7 (u5×Int) ((List q9)×Int×Bool) ((List q9)×Bool)):=
 (((bif (done2.a5.b9 != own.a5.b9) then (t5 ((dones3.length+1)*32<=140737488355328) (some (l9.brk (dones3++[done2])))) else some (l9.brk dones3)):Option (l9 (j7 (u5×Int) ((List q9)×Int×Bool) ((List q9)×Bool)) (List q9))).bind fun x=>x.go some fun j=>c34 v109 put2 j)
theorem e76(s_ own g7 v109 done2)(lc:D2 R1 (b7c s_ own g7) (c4y s_ own g7)):NL lc (e31 s_ own g7 v109 done2) (fun s=>c4v own v109 done2 s.1 s.2):=fun (dones3,put2) h=>PK<|A3 h (e2i s_ own g7 v109 put2 lc) fun x2 h hc2=>rg<|j5 6 h (fun h=>rg<|tk 2 []<|t9 h fun e2 h=>F7 3 17 182 4 32 B5 dones3 done2 e2<|E5 done2<|(o9 h hc2 fun hI=>sk [] [4,6,9,10,11,107,108,109] [(1,0),(2,0),(3,0),(4,0),(17,0)] hI)) (fun h=>(o9 h hc2 fun hI=>sk [] [4,6,9,10,11,107,108,109] [(1,0),(2,0),(3,0),(4,0),(5,0)] hI))
def b21(s_:u5)(own:q9)(dones:List q9)(v109:Int)(put:Bool):Option (j7 (u5×Int) ((List q9)×Int×Bool) ((List q9)×Bool)):=
 (bif decide (v109<(s_.i8.length:Int)) then ((idx s_.i8 v109).bind fun done2=>(((bif (!put) then (bif decide (done2.a5.b9>=own.a5.b9) then (t5 ((dones.length+1)*32<=140737488355328) (some (l9.brk (dones++[own],true)))) else some (l9.brk (dones,put))) else some (l9.brk (dones,put))):Option (l9 (j7 (u5×Int) ((List q9)×Int×Bool) ((List q9)×Bool)) ((List q9)×Bool))).bind fun x=>x.go some fun j=>c4v own v109 done2 j.1 j.2)) else some (j7.brk (dones,put)))
theorem f5p(s_ own g7):LQ R1 (b7c s_ own g7) (c4y s_ own g7) (fun s=>b21 s_ own s.1 s.2.1 s.2.2):=fun lc (dones,v109,put) h=>PK<|rg<|j5 0 h (fun h=>rg<|u0 B5 0 h fun done2 f8u h=>A3 h (e76 s_ own g7 v109 done2 lc) fun x2 h hc2=>rg<|j5 2 h (fun h=>j5 10 h (fun h=>rg<|tk 2 []<|t9 h fun e3 h=>F7 3 25 182 4 32 B5 dones own e3<|E5 own<|rg<|(o9 h hc2 fun hI=>sk [] [4,6,9,10,11,13,107,108,109] [(1,0),(2,0),(3,0),(4,0),(25,0),(9,0)] hI)) (fun h=>(o9 h hc2 fun hI=>sk [] [4,6,9,10,11,13,107,108,109] [(1,0),(2,0),(3,0),(4,0),(5,0),(9,0)] hI))) (fun h=>(o9 h hc2 fun hI=>sk [] [4,6,9,10,11,13,107,108,109] [(1,0),(2,0),(3,0),(4,0),(5,0),(9,0)] hI))) (fun h=>(lc.bk h fun hI=>sk [] [4,6,9,10,11] [(1,0),(2,0),(3,0),(4,0),(5,0)] hI))
def b8t(s_:u5)(own:q9)(g7:List m9):Option (u5×Int):=
 ((o8 (fun s:(List q9)×Int×Bool=>b21 s_ own s.1 s.2.1 s.2.2) ([],0,false)).bind fun x=>x.go (fun r=>some r) fun s=>c3X s_ own g7 s.1 s.2)
theorem e3b(s_)(r):NF R1 r (e6N s_) (fun s=>b8t s_ s.1 s.2):=fun (own,g7) h=>PK<|L8<|lp (f5p s_ own g7) h (fun _ h=>R1.rt h) (e24 s_ own g7 r) fun hI=>sk [.own (.tmp 10) 182 4] [4,6,9,10,11,107,108,109] [(2,0),(3,0),(4,0),(5,0),(12,0)] hI
def b5V(s_:u5)(e_:m4)(box:List m9):Option (u5×Int):=
 ((((b5T s_.g7 e_.b6).bind fun a63=>(bif (!a63) then some (l9.brk ((q9.mk e_.a5 1 0),box)) else (bif (e_.b6.Code != 0) then some (l9.brk ((q9.mk e_.a5 2 0),box)) else ((b2Y s_.g7 e_.b6).bind fun b0R=>some (l9.brk ((q9.mk e_.a5 0 e_.b6.d9),b0R)))))):Option (l9 (u5×Int) (q9×List m9))).bind fun x=>x.go some fun j=>b8t s_ j.1 j.2)
theorem f5R(s_ e_ box)(r):NF R1 r (c6T s_ e_ box) (fun s=>b5V s_ e_ box):=fun _ h=>PK<|rg<|A3 h (e3b s_ r) fun x1 h hc1=>rg<|l7 a88 f1m 4 h fun a63 h=>j5 6 h (fun h=>rg<|(o9 h hc1 fun hI=>sk [] [2,4,6,9] [(1,0),(3,0),(4,0),(5,0),(9,0)] hI)) (fun h=>rg<|j5 4 h (fun h=>rg<|(o9 h hc1 fun hI=>sk [] [2,4,6,9] [(1,0),(3,0),(4,0),(5,0),(9,0)] hI)) (fun h=>n9<|l7 a6u d4D 4 h fun b0R h=>(o9 h hc1 fun hI=>sk [] [2,4,6,9] [(1,0),(3,0),(4,0),(32,0),(9,0)] hI)))
def d5m(s_:u5)(e_:m4)(box:List m9):Int->KS:=fun v45=>⟨R1.k 5 [false,false],(bs 2 (.ptr 1 0 0::(.ptr 2 0 0::(.ptr 3 0 0::(bs 1 (.ptr 4 0 0::(bs 36 (j9 4 B5 s_.i8::(vi (s_.i8.length:Int)::(vi v45::(bs 106 []))))))))))),[some [],some [.var 104 [vi s_.At,j9 2 x7 s_.g7,j9 4 B5 s_.i8]],some [.var 53 (a1C e_)],some [.var 104 [vi 0,.nil,.nil]],some [.var 104 [vi (m7 (s_.At+1)),.own 5 0 2 0 box.length,.nil]],some [m6 142 2 x7 box]]⟩
end
end Go.Proofs.YtmceicmlkgpmpaaGreat
