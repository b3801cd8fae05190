/- What the law leans on, part 4. -/
import Derived.Test.YtijjifellblecaaGreatP3
import Derived.IntWalk
set_option linter.unusedVariables false
set_option linter.unusedSimpArgs false
set_option linter.unnecessarySimpa false
namespace Go.Proofs.YtijjifellblecaaGreat
open Go
open Option renaming bind_some->f5Y
open List renaming getElem?_eq_getElem->f5Z,replicate->f6a,mem_append->f6b,getElem_mem->f6c,all_eq_true->f6e,getElem?_eq_some_iff->f6g,mem_singleton->f6h,range->f6i,mem_cons->f6j,length_append->f6l,eq_nil_of_length_eq_zero->f6m,getElem?_append_right->f6q,length_take->f6t,take_length->f6u,getElem?_set_ne->f6v,drop_eq_getElem_cons->f6w,getElem?_append_left->f6x,take_succ_eq_append_getElem->f6C,mem_or_eq_of_mem_set->f6K,any_eq_false->f6O,append_nil->f6P,getElem_of_mem->f6Q,take_zero->f6R,pairwise_iff_getElem->f6U,findIdx?_eq_some_iff_getElem->f6Y,mem_of_mem_take->f7e,mem_take_iff_getElem->f7f,mem_filter->f7g,length_cons->f7j,mem_range->f7m,getElem?_set_self->f7p,drop_zero->f7t,pairwise_cons->f7w,any_eq_true->f7B,getElem?_set->f7E,find?_cons->f7K,length_nil->f7L,all_eq_false->f7M,pairwise_append->f7P,findIdx?_eq_none_iff->f7Q,foldl_cons->f8a,set_getElem_self->f8g,any_cons->f8o,find?_eq_none->f8s,foldl_nil->f8u
open Bool renaming and_eq_true->f6d,not_true->f6f,true_and->f6n,not_false->f6H,not_eq_true'->f6J,false_or->f6N,and_true->f7x,eq_iff_iff->f7A,and_assoc->f7U,not_eq_true->f8m,not_not->f8t
open Nat renaming le_refl->f6s,le_trans->f6M
open Int renaming toNat_natCast->f6A,le_refl->f6B,tmod->f6D,tdiv->f8l
open Classical renaming byContradiction->f8q
noncomputable section
def b2I(s_:u7)(own:s7)(dones:List s7)(v109:Int)(put:Bool):Option (l7 (u7×Int) ((List s7)×Int×Bool) ((List s7)×Bool)):=
 (bif decide (v109<(s_.j4.length:Int)) then ((idx s_.j4 v109).bind fun done2=>(((bif (!put) then (bif decide (done2.a0.c8>=own.a0.c8) then (t5 ((dones.length+1)*32<=140737488355328) (some (m5.brk (dones++[own],true)))) else some (m5.brk (dones,put))) else some (m5.brk (dones,put))):Option (m5 (l7 (u7×Int) ((List s7)×Int×Bool) ((List s7)×Bool)) ((List s7)×Bool))).bind fun x=>x.go some fun j=>c1F own v109 done2 j.1 j.2)) else some (l7.brk (dones,put)))
theorem d8K(s_ own g9):LQ Q7 (b55 s_ own g9) (c2e s_ own g9) (fun s=>b2I s_ own s.1 s.2.1 s.2.2):=fun lc (dones,v109,put) h=>PK<|rg<|j6 0 h (fun h=>rg<|u9 B7 0 h fun done2 f5N h=>A9 h (e93 s_ own g9 v109 done2 lc) fun x2 h hc2=>rg<|j6 2 h (fun h=>j6 10 h (fun h=>rg<|tk 2 []<|u0 h fun e3 h=>F9 3 25 194 4 32 B7 dones own e3<|E8 own<|rg<|(p8 h hc2 fun hI=>sk [] [4,6,9,10,11,13,107,108,109] [(1,0),(2,0),(3,0),(4,0),(25,0),(9,0)] hI)) (fun h=>(p8 h hc2 fun hI=>sk [] [4,6,9,10,11,13,107,108,109] [(1,0),(2,0),(3,0),(4,0),(5,0),(9,0)] hI))) (fun h=>(p8 h hc2 fun hI=>sk [] [4,6,9,10,11,13,107,108,109] [(1,0),(2,0),(3,0),(4,0),(5,0),(9,0)] hI))) (fun h=>(lc.bk h fun hI=>sk [] [4,6,9,10,11] [(1,0),(2,0),(3,0),(4,0),(5,0)] hI))
def b8s(s_:u7)(own:s7)(g9:List n8):Option (u7×Int):=
 ((o9 (fun s:(List s7)×Int×Bool=>b2I s_ own s.1 s.2.1 s.2.2) ([],0,false)).bind fun x=>x.go (fun r=>some r) fun s=>c5B s_ own g9 s.1 s.2)
theorem e5i(s_)(r):NF Q7 r (e6v s_) (fun s=>b8s s_ s.1 s.2):=fun (own,g9) h=>PK<|N7<|lp (d8K s_ own g9) h (fun _ h=>Q7.rt h) (e6C s_ own g9 r) fun hI=>sk [.own (.tmp 10) 194 4] [4,6,9,10,11,107,108,109] [(2,0),(3,0),(4,0),(5,0),(12,0)] hI
def b5p(s_:u7)(e_:m6)(box:List n8):Option (u7×Int):=
 ((((b9Y s_.g9 e_.b8).bind fun a6o=>(bif (!a6o) then some (m5.brk ((s7.mk e_.a0 1 0),box)) else (bif (e_.b8.Code != 0) then some (m5.brk ((s7.mk e_.a0 2 0),box)) else ((b4y s_.g9 e_.b8).bind fun a9W=>some (m5.brk ((s7.mk e_.a0 0 e_.b8.g7),a9W)))))):Option (m5 (u7×Int) (s7×List n8))).bind fun x=>x.go some fun j=>b8s s_ j.1 j.2)
theorem f5f(s_ e_ box)(r):NF Q7 r (c31 s_ e_ box) (fun s=>b5p s_ e_ box):=fun _ h=>PK<|rg<|A9 h (e5i s_ r) fun x1 h hc1=>rg<|l8 a7z e5d 4 h fun a6o h=>j6 6 h (fun h=>rg<|(p8 h hc1 fun hI=>sk [] [2,4,6,9] [(1,0),(3,0),(4,0),(5,0),(9,0)] hI)) (fun h=>rg<|j6 4 h (fun h=>rg<|(p8 h hc1 fun hI=>sk [] [2,4,6,9] [(1,0),(3,0),(4,0),(5,0),(9,0)] hI)) (fun h=>n7<|l8 a7d d61 4 h fun a9W h=>(p8 h hc1 fun hI=>sk [] [2,4,6,9] [(1,0),(3,0),(4,0),(32,0),(9,0)] hI)))
def c77(s_:u7)(e_:m6)(box:List n8):Int->KS:=fun v45=>⟨Q7.k 5 [false,false],(bs 2 (.ptr 1 0 0::(.ptr 2 0 0::(.ptr 3 0 0::(bs 1 (.ptr 4 0 0::(bs 36 (j8 4 B7 s_.j4::(vi (s_.j4.length:Int)::(vi v45::(bs 106 []))))))))))),[some [],some [.var 123 [vi s_.At,j8 2 z7 s_.g9,j8 4 B7 s_.j4]],some [.var 50 (a3h e_)],some [.var 123 [vi 0,.nil,.nil]],some [.var 123 [vi (m8 (s_.At+1)),.own 5 0 2 0 box.length,.nil]],some [m7 156 2 z7 box]]⟩
def f04(s_:u7)(e_:m6)(box:List n8)(v45:Int):Unit->KS:=fun _=>⟨Q7.k 8 [false,false,true,false],(bs 2 (.ptr 1 0 0::(.ptr 2 0 0::(.ptr 3 0 0::(bs 1 (.ptr 4 0 0::(bs 36 (j8 4 B7 s_.j4::(vi (s_.j4.length:Int)::(vi v45::(bs 106 []))))))))))),[some [],some [.var 123 [vi s_.At,j8 2 z7 s_.g9,j8 4 B7 s_.j4]],some [.var 50 (a3h e_)],some [.var 123 [vi 0,.nil,.nil]],some [.var 123 [vi (m8 (s_.At+1)),.own 5 0 2 0 box.length,.nil]],some [m7 156 2 z7 box]]⟩
def c5U(v45:Int):Option (l7 (u7×Int) Int Unit):=
 some (l7.nxt (m8 (v45+1)))
theorem e83(s_ e_ box v45)(lc:F8 Q7 (c31 s_ e_ box) (c77 s_ e_ box)):NL lc (f04 s_ e_ box v45) (fun s=>c5U v45):=fun _ h=>PK<|rg<|(lc.nx h fun hI=>sk [] [2,3,4,6,43,44,45] [(1,0),(2,0),(3,0),(4,0),(5,0)] hI)
def b4U(s_:u7)(e_:m6)(box:List n8)(v45:Int):Option (l7 (u7×Int) Int Unit):=
 (bif decide (v45<(s_.j4.length:Int)) then ((idx s_.j4 v45).bind fun b4T=>(((bif (b4T.a0.c8==e_.a0.c8) then (bif decide (b4T.a0.Seq>=e_.a0.Seq) then ((a63 s_.j4).bind fun b4j=>(bif (b4T.a0.Seq==e_.a0.Seq) then some (m5.ret (l7.ret ((u7.mk (m8 (s_.At+1)) box b4j),3))) else some (m5.ret (l7.ret ((u7.mk (m8 (s_.At+1)) box b4j),4))))) else some (m5.brk ())) else some (m5.brk ())):Option (m5 (l7 (u7×Int) Int Unit) Unit)).bind fun x=>x.go some fun j=>c5U v45)) else some (l7.brk ()))
theorem e3a(s_ e_ box):LQ Q7 (c31 s_ e_ box) (c77 s_ e_ box) (fun s=>b4U s_ e_ box s):=fun lc v45 h=>PK<|rg<|j6 0 h (fun h=>rg<|u9 B7 0 h fun b4T f5T h=>A9 h (e83 s_ e_ box v45 lc) fun x2 h hc2=>rg<|j6 7 h (fun h=>j6 15 h (fun h=>rg<|l8 b3R c2H 2 h fun b4j h=>rg<|j6 6 h (fun h=>rg<|(B8 h hc2 fun h=>C7 box b4j<|fL lc h)) (fun h=>rg<|(B8 h hc2 fun h=>C7 box b4j<|fL lc h))) (fun h=>(p8 h hc2 fun hI=>sk [] [2,3,4,6,43,44,45] [(1,0),(2,0),(3,0),(4,0),(5,0)] hI))) (fun h=>(p8 h hc2 fun hI=>sk [] [2,3,4,6,43,44,45] [(1,0),(2,0),(3,0),(4,0),(5,0)] hI))) (fun h=>(lc.bk h fun hI=>sk [] [2,3,4,6] [(1,0),(2,0),(3,0),(4,0),(5,0)] hI))
def b8K(s_:u7)(e_:m6):Option (u7×Int):=
 ((b7N s_).bind fun d15=>(bif (!d15) then some ((u7.mk 0 [] []),(-1)) else ((a1z e_).bind fun E5=>(bif (!E5) then some ((u7.mk 0 [] []),(-1)) else (bif (s_.At==40) then some ((u7.mk 0 [] []),(-1)) else ((a8O s_.g9).bind fun box=>(bif e_.i8 then ((a63 s_.j4).bind fun done=>some ((u7.mk (m8 (s_.At+1)) box done),5)) else ((o9 (fun s:Int=>b4U s_ e_ box s) 0).bind fun x=>x.go (fun r=>some r) fun s=>b5p s_ e_ box))))))))
theorem f2x{s_ e_}:OK Q7 [.agg (a86 s_),.agg (t6 e_)] (b8K s_ e_):=
 o8 _ fun r h=>n7<|l8 a5p f0o 1 h fun d15 h=>j6 3 h (fun h=>rg<|fE h) (fun h=>l8 a3f a4p 5 h fun E5 h=>j6 8 h (fun h=>rg<|fE h) (fun h=>j6 12 h (fun h=>rg<|fE h) (fun h=>rg<|l8 b9W c00 5 h fun box h=>rg<|j6 1 h (fun h=>rg<|l8 b3R c2H 2 h fun done h=>rg<|C7 box done<|fE h) (fun h=>rg<|lp (e3a s_ e_ box) h (fun _ h=>Q7.rt h) (f5f s_ e_ box r) fun hI=>sk [] [2,3,4,6,43,44,45] [(1,0),(2,0),(3,0),(25,0),(23,0)] hI))))
def a3x:FS (u7×List Int):=⟨81,Tryz.f81,[.val [none,some 2,some 4] [none,some 156,some 194],.val [some 1] [some 3]],[none],[.val [some 7] []],fun r=>.tup [.agg (b4K r.1),v5 3 1 eI r.2],fun _=>[none],Tryz.func81⟩
def d3g:((List n8)×(List s7)×(List Int)×Int)->KS:=fun (Boxes1,Dones1,codes1,sAt1)=>⟨a3x.k 5 [false],(bs 2 (.ptr 1 0 0::(bs 1 (.ptr 2 0 0::(.own 5 0 1 0 codes1.length::(bs 25 [])))))),[some [],some [.var 123 [vi 0,.nil,.nil]],some [.var 123 [vi sAt1,.own 3 0 2 0 Boxes1.length,.own 4 0 4 0 Dones1.length]],some [m7 156 2 z7 Boxes1],some [m7 194 4 B7 Dones1],some [m7 3 1 eI codes1]]⟩
def d2d(Boxes1:List n8)(Dones1:List s7)(codes1:List Int)(sAt1:Int):Option (u7×List Int):=
 some ((u7.mk sAt1 Boxes1 Dones1),codes1)
theorem f2a(r):NF a3x r d3g (fun s=>d2d s.1 s.2.1 s.2.2.1 s.2.2.2):=fun (Boxes1,Dones1,codes1,sAt1) h=>PK<|rg<|X8 Boxes1 Dones1 codes1<|fE h
def d7t(list:List m6):((List n8)×(List s7)×(List Int)×Int×Int)->KS:=fun (g9,j4,codes,v13,sAt)=>⟨a3x.k 4 [],(bs 2 (.ptr 1 0 0::(bs 1 (.ptr 2 0 0::(.own 5 0 1 0 codes.length::(bs 5 (j8 7 t6 list::(vi (list.length:Int)::(vi v13::(bs 17 [])))))))))),[some [],some [.var 123 [vi 0,.nil,.nil]],some [.var 123 [vi sAt,.own 3 0 2 0 g9.length,.own 4 0 4 0 j4.length]],some [m7 156 2 z7 g9],some [m7 194 4 B7 j4],some [m7 3 1 eI codes]]⟩
def a1k(list:List m6)(g9:List n8)(j4:List s7)(codes:List Int)(v13:Int)(sAt:Int):Option (l7 (u7×List Int) ((List n8)×(List s7)×(List Int)×Int×Int) ((List n8)×(List s7)×(List Int)×Int)):=
 (bif decide (v13<(list.length:Int)) then ((idx list v13).bind fun entry=>((b8K (u7.mk sAt g9 j4) entry).bind fun a8J=>(t5 ((codes.length+1)*8<=140737488355328) (some (l7.nxt (a8J.1.g9,a8J.1.j4,codes++[a8J.2],m8 (v13+1),a8J.1.At)))))) else some (l7.brk (g9,j4,codes,sAt)))
theorem d8G(list):LQ a3x d3g (d7t list) (fun s=>a1k list s.1 s.2.1 s.2.2.1 s.2.2.2.1 s.2.2.2.2):=fun lc (g9,j4,codes,v13,sAt) h=>PK<|rg<|j6 0 h (fun h=>rg<|u9 t6 0 h fun entry G9 h=>rg<|cbS Q7 f2x 2 (fun _=>(by simp [Q7,K6,S8,P3,V.simple,vi,v5,b4K,z7,B7,eI,J0,a86])) (fun _=>(Q1 2)) h fun a8J h=>C7 g9 j4<|n7<|tk 2 []<|u0 h fun e1 h=>F9 3 25 3 1 8 eI codes a8J.2 e1<|E8 a8J.2<|rg<|(lc.nx h fun hI=>sk [] [2,4,5,11,12,13] [(1,0),(2,0),(13,0),(13,1),(25,0)] hI)) (fun h=>(lc.bk h fun hI=>sk [] [2,4,5] [(1,0),(2,0),(3,0),(4,0),(5,0)] hI))
def a8C(list:List m6):Option (u7×List Int):=
 ((b82).bind fun a1p=>((o9 (fun s:(List n8)×(List s7)×(List Int)×Int×Int=>a1k list s.1 s.2.1 s.2.2.1 s.2.2.2.1 s.2.2.2.2) (a1p.g9,a1p.j4,[],0,a1p.At)).bind fun x=>x.go (fun r=>some r) fun s=>d2d s.1 s.2.1 s.2.2.1 s.2.2.2))
theorem b7B{list}:OK a3x [j8 7 t6 list] (a8C list):=
 o8 _ fun r h=>n7<|l8 d1g e35 0 h fun a1p h=>n7<|lp (d8G list) h (fun _ h=>a3x.rt h) (f2a r) fun hI=>sk [.own (.tmp 5) 3 1] [2,4,5,11,12,13] [(1,0),(4,0),(3,0),(3,1),(10,0)] hI
def c2v:FS (u7):=⟨79,Tryz.f79,[.val [none,some 2,some 4] [none,some 156,none]],[none],[.val [some 7] []],fun r=>.agg (b2s r),fun _=>[none],Tryz.func79⟩
def b2x(list:List m6):Option u7:=
 ((b0V list).bind fun G6=>(bif (!G6) then some (u7.mk 0 [] []) else ((a8C list).bind fun s5=>some s5.1)))
theorem c8H{list}:OK c2v [j8 7 t6 list] (b2x list):=
 o8 _ fun r h=>n7<|l8 a5y c5d 1 h fun G6 h=>j6 2 h (fun h=>rg<|fE h) (fun h=>rg<|l8 a3x b7B 1 h fun s5 h=>rg<|C7 s5.1.g9 s5.1.j4<|fE h)
def c64:FS (u7):=⟨147,Tryz.f147,[.val [none,some 2,some 4] []],[none],[.val A8 []],fun r=>.agg (a86 r),fun _=>[none],Tryz.func147⟩
def b5V(n:j7):Option u7:=
 ((a4s n).bind fun D6=>(bif (!D6) then some (u7.mk 0 [] []) else ((b2x n.a5).bind fun a2Y=>some a2Y)))
theorem d7O{n}:OK c64 [.agg (w9 n)] (b5V n):=
 o8 _ fun r h=>n7<|l8 a0H a8p 1 h fun D6 h=>j6 2 h (fun h=>rg<|fE h) (fun h=>rg<|l8 c2v c8H 2 h fun a2Y h=>s9 a2Y.g9<|fE h)
def a5T:FS (Int):=⟨190,Tryz.f190,[.val [] []],[none,none],[.val O6 [],.val [] []],fun r=>vi r,fun _=>[none,none],Tryz.func190⟩
def c6i:Unit->KS:=fun _=>⟨a5T.k 3 [false],(bs 21 []),[some []]⟩
def d2z:Option Int:=
 some (-1)
theorem e7w(r):NF a5T r c6i (fun s=>d2z):=fun _ h=>PK<|rg<|fE h
def e6J(r_:n6)(box:Int):Int->KS:=fun v10=>⟨a5T.k 2 [],(bs 1 (vi box::(bs 6 (j8 2 w8 r_.b6::(vi (r_.b6.length:Int)::(vi v10::(bs 10 []))))))),[some []]⟩
def b2n(r_:n6)(box:Int)(v10:Int):Option (l7 Int Int Unit):=
 (bif decide (v10<(r_.b6.length:Int)) then ((idx r_.b6 v10).bind fun put=>(bif (put.i6==box) then some (l7.ret v10) else some (l7.nxt (m8 (v10+1))))) else some (l7.brk ()))
theorem e3j(r_ box):LQ a5T c6i (e6J r_ box) (fun s=>b2n r_ box s):=fun lc v10 h=>PK<|rg<|j6 0 h (fun h=>rg<|u9 w8 1 h fun put hput h=>rg<|j6 3 h (fun h=>rg<|fL lc h) (fun h=>rg<|(lc.nx h fun hI=>sk [] [1,8,9,10] [] hI))) (fun h=>(lc.bk h fun hI=>sk [] [] [] hI))
def b1J(r_:n6)(box:Int):Option Int:=
 ((o9 (fun s:Int=>b2n r_ box s) 0).bind fun x=>x.go (fun r=>some r) fun s=>d2z)
theorem d0h{r_ box}:OK a5T [.agg (Q9 r_),vi box] (b1J r_ box):=
 o8 _ fun r h=>n7<|lp (e3j r_ box) h (fun _ h=>a5T.rt h) (e7w r) fun hI=>sk [] [1,8,9,10] [] hI
def a7p:FS (Int):=⟨191,Tryz.f191,[.val [] []],[none,none],[.val O6 [],.val [] []],fun r=>vi r,fun _=>[none,none],Tryz.func191⟩
def d1o:Unit->KS:=fun _=>⟨a7p.k 3 [false],(bs 21 []),[some []]⟩
def d6x:Option Int:=
 some (-1)
theorem e0O(r):NF a7p r d1o (fun s=>d6x):=fun _ h=>PK<|rg<|fE h
def f0s(r_:n6)(box:Int):Int->KS:=fun v10=>⟨a7p.k 2 [],(bs 1 (vi box::(bs 6 (j8 2 w6 r_.b5::(vi (r_.b5.length:Int)::(vi v10::(bs 10 []))))))),[some []]⟩
def b1x(r_:n6)(box:Int)(v10:Int):Option (l7 Int Int Unit):=
 (bif decide (v10<(r_.b5.length:Int)) then ((idx r_.b5 v10).bind fun read=>(bif (read.i6==box) then some (l7.ret v10) else some (l7.nxt (m8 (v10+1))))) else some (l7.brk ()))
theorem f4P(r_ box):LQ a7p d1o (f0s r_ box) (fun s=>b1x r_ box s):=fun lc v10 h=>PK<|rg<|j6 0 h (fun h=>rg<|u9 w6 1 h fun read a4d h=>rg<|j6 3 h (fun h=>rg<|fL lc h) (fun h=>rg<|(lc.nx h fun hI=>sk [] [1,8,9,10] [] hI))) (fun h=>(lc.bk h fun hI=>sk [] [] [] hI))
def b30(r_:n6)(box:Int):Option Int:=
 ((o9 (fun s:Int=>b1x r_ box s) 0).bind fun x=>x.go (fun r=>some r) fun s=>d6x)
theorem e7E{r_ box}:OK a7p [.agg (Q9 r_),vi box] (b30 r_ box):=
 o8 _ fun r h=>n7<|lp (f4P r_ box) h (fun _ h=>a7p.rt h) (e0O r) fun hI=>sk [] [1,8,9,10] [] hI
def Q2:FS (n6):=⟨146,Tryz.f146,[.val O6 []],[none,none],[.val [some 2] [],.val [some 4] []],fun r=>.agg (Q9 r),fun _=>[none,none],Tryz.func146⟩
def a84:((List r9)×(List p7)×(List Int)×(List r9)×List p7)->KS:=fun (Reads2,Puts2,regs1,Reads3,Puts3)=>⟨Q2.k 6 [false,false],(bs 4 (.ptr 1 0 0::(.ptr 4 0 0::(.ptr 5 0 0::(bs 175 []))))),[some [],some [.var 48 [.own 2 0 2 0 Reads2.length,.own 3 0 2 0 Puts2.length,vi 0,vi 0]],some [m7 180 2 w6 Reads2],some [m7 183 2 w8 Puts2],some [.arr 199 1 4 (regs1.map eI)],some [.var 48 [.own 6 0 2 0 Reads3.length,.own 7 0 2 0 Puts3.length,vi 0,vi 0]],some [m7 180 2 w6 Reads3],some [m7 183 2 w8 Puts3]]⟩
def b4a(Reads2:List r9)(Puts2:List p7)(regs1:List Int)(Reads3:List r9)(Puts3:List p7):Option n6:=
 ((a29 Reads3).bind fun read=>((a70 Puts3).bind fun put=>((idx regs1 0).bind fun y=>(t5 ((0:Int)<4) (some (n6.mk read put y 0))))))
theorem e60(r):NF Q2 r a84 (fun s=>b4a s.1 s.2.1 s.2.2.1 s.2.2.2.1 s.2.2.2.2):=fun (Reads2,Puts2,regs1,Reads3,Puts3) h=>PK<|rg<|cbS a2m b0P 2 (fun _=>(by simp [a2m,K6,S8,P3,V.simple,vi,v5,eI,w6])) (fun _=>(Q1 1)) h fun read h=>s9 Reads3<|cbS b6E d0m 5 (fun _=>(by simp [b6E,K6,S8,P3,V.simple,vi,v5,eI,w8])) (fun _=>(Q1 1)) h fun put h=>s9 Puts3<|A7 h fun y hy h=>u0 h fun e1 h=>ob (O9 hy)<|ob e1<|ob (U9 (enc:=eI) hy)<|tl (tr 7 (eI y))<|C7 read put<|fE h
def b01(list:List n8)(prog:List n9):((List Int)×(List r9)×(List p7)×(List r9)×(List p7)×Int)->KS:=fun (regs,b5,b6,Reads1,Puts1,at_)=>⟨Q2.k 5 [false],(j8 2 z7 list::(j8 4 A0 prog::(bs 2 (.ptr 1 0 0::(.ptr 2 0 0::(.ptr 3 0 0::(vi at_::(bs 174 [])))))))),[some [],some [.var 48 [.own 4 0 2 0 b5.length,.own 5 0 2 0 b6.length,vi 0,vi 0]],some [.arr 199 1 4 (regs.map eI)],some [.var 48 [.own 6 0 2 0 Reads1.length,.own 7 0 2 0 Puts1.length,vi 0,vi 0]],some [m7 180 2 w6 b5],some [m7 183 2 w8 b6],some [m7 180 2 w6 Reads1],some [m7 183 2 w8 Puts1]]⟩
def c7H(list:List n8)(prog:List n9)(regs:List Int)(b5:List r9)(b6:List p7)(Reads1:List r9)(Puts1:List p7)(at_:Int)(ins:n9)(put1:p7):Unit->KS:=fun _=>⟨Q2.k 14 [false,true,true,true,false],(j8 2 z7 list::(j8 4 A0 prog::(bs 2 (.ptr 1 0 0::(.ptr 4 0 0::(.ptr 5 0 0::(vi at_::(bs 174 [])))))))),[some [],some [.var 48 [.own 2 0 2 0 b5.length,.own 3 0 2 0 b6.length,vi 0,vi 0]],some [m7 180 2 w6 b5],some [m7 183 2 w8 b6],some [.arr 199 1 4 ((regs.set ins.A.toNat put1.g7).map eI)],some [.var 48 [.own 6 0 2 0 Reads1.length,.own 7 0 2 0 Puts1.length,vi 0,vi 0]],some [m7 180 2 w6 Reads1],some [m7 183 2 w8 Puts1]]⟩
def c4C(regs:List Int)(b5:List r9)(b6:List p7)(Reads1:List r9)(Puts1:List p7)(at_:Int)(ins:n9)(put1:p7):Option (l7 n6 ((List Int)×(List r9)×(List p7)×(List r9)×(List p7)×Int) ((List r9)×(List p7)×(List Int)×(List r9)×List p7)):=
 some (l7.nxt (regs.set ins.A.toNat put1.g7,b5,b6,Reads1,Puts1,m8 (at_+1)))
theorem e2O(list prog regs b5 b6 Reads1 Puts1 at_ ins put1)(lc:F8 Q2 a84 (b01 list prog)):NL lc (c7H list prog regs b5 b6 Reads1 Puts1 at_ ins put1) (fun s=>c4C regs b5 b6 Reads1 Puts1 at_ ins put1):=fun _ h=>PK<|rg<|(lc.nx h fun hI=>sk [] [0,1,4,5,6,7] [(1,0),(4,0),(5,0),(2,0),(3,0),(6,0),(7,0)] hI)
def e6N(list:List n8)(prog:List n9)(regs:List Int)(b5:List r9)(b6:List p7)(Reads1:List r9)(Puts1:List p7)(at_:Int)(ins:n9)(put1:p7):Int->KS:=fun a7a=>⟨Q2.k 13 [false,true,true,true],(j8 2 z7 list::(j8 4 A0 prog::(bs 2 (.ptr 1 0 0::(.ptr 4 0 0::(.ptr 5 0 0::(vi at_::(bs 153 (.agg ((regs.set ins.A.toNat put1.g7).map eI).flatten::(vi a7a::(bs 19 []))))))))))),[some [],some [.var 48 [.own 2 0 2 0 b5.length,.own 3 0 2 0 b6.length,vi 0,vi 0]],some [m7 180 2 w6 b5],some [m7 183 2 w8 b6],some [.arr 199 1 4 ((regs.set ins.A.toNat put1.g7).map eI)],some [.var 48 [.own 6 0 2 0 Reads1.length,.own 7 0 2 0 Puts1.length,vi 0,vi 0]],some [m7 180 2 w6 Reads1],some [m7 183 2 w8 Puts1]]⟩
def b3m(regs:List Int)(Reads1:List r9)(ins:n9)(put1:p7)(a7a:Int):Option (l7 n6 Int Unit):=
 (bif decide (a7a<4) then ((idx (regs.set ins.A.toNat put1.g7) a7a).bind fun y2=>(t5 (a7a<4) (((D8 y2 (-1000000) 1000000).bind fun in_=>(bif (!in_) then ((a29 Reads1).bind fun T4=>some (l7.ret (n6.mk T4 [] 0 2))) else some (l7.nxt (m8 (a7a+1)))))))) else some (l7.brk ()))
theorem d8E(list prog regs b5 b6 Reads1 Puts1 at_ ins put1):LQ Q2 (c7H list prog regs b5 b6 Reads1 Puts1 at_ ins put1) (e6N list prog regs b5 b6 Reads1 Puts1 at_ ins put1) (fun s=>b3m regs Reads1 ins put1 s):=fun lc a7a h=>PK<|rg<|j6 0 h (fun h=>rg<|A7 h fun y2 hy2 h=>u0 h fun e3 h=>ob (O9 hy2)<|ob e3<|om (((regs.set ins.A.toNat put1.g7).map eI).flatten[a7a.toNat]?=some (vi y2)) (c3I (fun _=>rfl) hy2)<|tl (0,{a:=.val (vi y2)})<|rg<|l8 D2 E6 1 h fun in_ h=>j6 2 h (fun h=>rg<|cbS a2m b0P 2 (fun _=>(by simp [a2m,K6,S8,P3,V.simple,vi,v5,eI,w6])) (fun _=>(Q1 1)) h fun T4 h=>C7 Reads1 T4<|fL lc h) (fun h=>rg<|(lc.nx h fun hI=>om (V.agg (((regs.set ins.A.toNat put1.g7).map eI).flatten.map (W4 [(1,0),(2,0),(3,0),(4,0),(5,0),(6,0),(7,0)]))=.agg ((regs.set ins.A.toNat put1.g7).map eI).flatten) (congrArg V.agg (a8V (fun _=>rfl) _))<|skT [] [0,1,4,5,6,7,161,162] [(1,0),(2,0),(3,0),(4,0),(5,0),(6,0),(7,0)] [(161,.agg ((regs.set ins.A.toNat put1.g7).map eI).flatten)] hI))) (fun h=>(lc.bk h fun hI=>sk [] [0,1,4,5,6,7] [(1,0),(2,0),(3,0),(4,0),(5,0),(6,0),(7,0)] hI))
def e2B(list:List n8)(prog:List n9)(regs:List Int)(b5:List r9)(b6:List p7)(Puts1:List p7)(at_:Int)(ins:n9):(List r9)->KS:=fun Reads4=>⟨Q2.k 13 [false,true,true,false,true],(j8 2 z7 list::(j8 4 A0 prog::(bs 2 (.ptr 1 0 0::(.ptr 4 0 0::(.ptr 5 0 0::(vi at_::(.ptr 8 0 0::(bs 173 []))))))))),[some [],some [.var 48 [.own 2 0 2 0 b5.length,.own 3 0 2 0 b6.length,vi 0,vi 0]],some [m7 180 2 w6 b5],some [m7 183 2 w8 b6],some [.arr 199 1 4 (regs.map eI)],some [.var 48 [.own 6 0 2 0 Reads4.length,.own 7 0 2 0 Puts1.length,vi 0,vi 0]],some [m7 180 2 w6 Reads4],some [m7 183 2 w8 Puts1],some [.var 82 [vi ins.a9,vi ins.A,vi ins.B,vi ins.N]]]⟩
def d0n(list:List n8)(prog:List n9)(regs:List Int)(b5:List r9)(b6:List p7)(Puts1:List p7)(at_:Int)(ins:n9)(Reads4:List r9)(box:n8):Unit->KS:=fun _=>⟨Q2.k 16 [false,true,true,false,true,false],(j8 2 z7 list::(j8 4 A0 prog::(bs 2 (.ptr 1 0 0::(.ptr 4 0 0::(.ptr 5 0 0::(vi at_::(bs 174 [])))))))),[some [],some [.var 48 [.own 2 0 2 0 b5.length,.own 3 0 2 0 b6.length,vi 0,vi 0]],some [m7 180 2 w6 b5],some [m7 183 2 w8 b6],some [.arr 199 1 4 ((regs.set ins.A.toNat box.g7).map eI)],some [.var 48 [.own 6 0 2 0 Reads4.length,.own 7 0 2 0 Puts1.length,vi 0,vi 0]],some [m7 180 2 w6 Reads4],some [m7 183 2 w8 Puts1]]⟩
def b7x(regs:List Int)(b5:List r9)(b6:List p7)(Puts1:List p7)(at_:Int)(ins:n9)(Reads4:List r9)(box:n8):Option (l7 n6 ((List Int)×(List r9)×(List p7)×(List r9)×(List p7)×Int) ((List r9)×(List p7)×(List Int)×(List r9)×List p7)):=
 some (l7.nxt (regs.set ins.A.toNat box.g7,b5,b6,Reads4,Puts1,m8 (at_+1)))
theorem d80(list prog regs b5 b6 Puts1 at_ ins Reads4 box)(lc:F8 Q2 a84 (b01 list prog)):NL lc (d0n list prog regs b5 b6 Puts1 at_ ins Reads4 box) (fun s=>b7x regs b5 b6 Puts1 at_ ins Reads4 box):=fun _ h=>PK<|rg<|(lc.nx h fun hI=>sk [] [0,1,4,5,6,7] [(1,0),(4,0),(5,0),(2,0),(3,0),(6,0),(7,0)] hI)
def f1p(list:List n8)(prog:List n9)(regs:List Int)(b5:List r9)(b6:List p7)(Puts1:List p7)(at_:Int)(ins:n9)(Reads4:List r9)(box:n8):Int->KS:=fun a6q=>⟨Q2.k 15 [false,true,true,false,true],(j8 2 z7 list::(j8 4 A0 prog::(bs 2 (.ptr 1 0 0::(.ptr 4 0 0::(.ptr 5 0 0::(vi at_::(bs 153 (.agg ((regs.set ins.A.toNat box.g7).map eI).flatten::(vi a6q::(bs 19 []))))))))))),[some [],some [.var 48 [.own 2 0 2 0 b5.length,.own 3 0 2 0 b6.length,vi 0,vi 0]],some [m7 180 2 w6 b5],some [m7 183 2 w8 b6],some [.arr 199 1 4 ((regs.set ins.A.toNat box.g7).map eI)],some [.var 48 [.own 6 0 2 0 Reads4.length,.own 7 0 2 0 Puts1.length,vi 0,vi 0]],some [m7 180 2 w6 Reads4],some [m7 183 2 w8 Puts1]]⟩
def b2z(regs:List Int)(ins:n9)(Reads4:List r9)(box:n8)(a6q:Int):Option (l7 n6 Int Unit):=
 (bif decide (a6q<4) then ((idx (regs.set ins.A.toNat box.g7) a6q).bind fun y4=>(t5 (a6q<4) (((D8 y4 (-1000000) 1000000).bind fun in_1=>(bif (!in_1) then ((a29 Reads4).bind fun c1L=>some (l7.ret (n6.mk c1L [] 0 2))) else some (l7.nxt (m8 (a6q+1)))))))) else some (l7.brk ()))
theorem e9P(list prog regs b5 b6 Puts1 at_ ins Reads4 box):LQ Q2 (d0n list prog regs b5 b6 Puts1 at_ ins Reads4 box) (f1p list prog regs b5 b6 Puts1 at_ ins Reads4 box) (fun s=>b2z regs ins Reads4 box s):=fun lc a6q h=>PK<|rg<|j6 0 h (fun h=>rg<|A7 h fun y4 hy4 h=>u0 h fun e5 h=>ob (O9 hy4)<|ob e5<|om (((regs.set ins.A.toNat box.g7).map eI).flatten[a6q.toNat]?=some (vi y4)) (c3I (fun _=>rfl) hy4)<|tl (0,{a:=.val (vi y4)})<|rg<|l8 D2 E6 1 h fun in_1 h=>j6 2 h (fun h=>rg<|cbS a2m b0P 2 (fun _=>(by simp [a2m,K6,S8,P3,V.simple,vi,v5,eI,w6])) (fun _=>(Q1 1)) h fun c1L h=>C7 Reads4 c1L<|fL lc h) (fun h=>rg<|(lc.nx h fun hI=>om (V.agg (((regs.set ins.A.toNat box.g7).map eI).flatten.map (W4 [(1,0),(2,0),(3,0),(4,0),(5,0),(6,0),(7,0)]))=.agg ((regs.set ins.A.toNat box.g7).map eI).flatten) (congrArg V.agg (a8V (fun _=>rfl) _))<|skT [] [0,1,4,5,6,7,161,162] [(1,0),(2,0),(3,0),(4,0),(5,0),(6,0),(7,0)] [(161,.agg ((regs.set ins.A.toNat box.g7).map eI).flatten)] hI))) (fun h=>(lc.bk h fun hI=>sk [] [0,1,4,5,6,7] [(1,0),(2,0),(3,0),(4,0),(5,0),(6,0),(7,0)] hI))
def b5u(list:List n8)(regs:List Int)(b5:List r9)(b6:List p7)(Puts1:List p7)(at_:Int)(ins:n9)(Reads4:List r9):Option (l7 n6 ((List Int)×(List r9)×(List p7)×(List r9)×(List p7)×Int) ((List r9)×(List p7)×(List Int)×(List r9)×List p7)):=
 ((idx list ins.B).bind fun box=>((idx regs ins.A).bind fun y3=>(t5 (ins.A<4) (((o9 (fun s:Int=>b2z regs ins Reads4 box s) 0).bind fun x=>x.go (fun r=>some (l7.ret r)) fun s=>b7x regs b5 b6 Puts1 at_ ins Reads4 box)))))
theorem e2s(list prog regs b5 b6 Puts1 at_ ins)(lc:F8 Q2 a84 (b01 list prog)):NL lc (e2B list prog regs b5 b6 Puts1 at_ ins) (fun s=>b5u list regs b5 b6 Puts1 at_ ins s):=fun Reads4 h=>PK<|rg<|u9 z7 5 h fun box a2I h=>A7 h fun y3 hy3 h=>u0 h fun e4 h=>ob (O9 hy3)<|ob e4<|om (s8.arr 199 1 4 ((regs.map eI).set (ins.A.toNat) [vi box.g7])=s8.arr 199 1 4 ((regs.set ins.A.toNat box.g7).map eI)) (a7t rfl)<|ob (U9 (enc:=eI) hy3)<|tl (9,{a:=.rowck (eI y3) [],e:=some (.arr 199 1 4 ((regs.set ins.A.toNat box.g7).map eI))})<|rg<|om (4*1=4) rfl<|lp (e9P list prog regs b5 b6 Puts1 at_ ins Reads4 box) h (fun _ h=>lc.rt h) (d80 list prog regs b5 b6 Puts1 at_ ins Reads4 box lc) fun hI=>om (V.agg (((regs.set ins.A.toNat box.g7).map eI).flatten.map (W4 [(1,0),(2,0),(3,0),(4,0),(5,0),(6,0),(7,0)]))=.agg ((regs.set ins.A.toNat box.g7).map eI).flatten) (congrArg V.agg (a8V (fun _=>rfl) _))<|skT [] [0,1,4,5,6,7,161,162] [(1,0),(2,0),(3,0),(4,0),(5,0),(6,0),(7,0)] [(161,.agg ((regs.set ins.A.toNat box.g7).map eI).flatten)] hI
def e2I(list:List n8)(prog:List n9)(b5:List r9)(b6:List p7)(Reads1:List r9):((List Int)×(List p7)×Int)->KS:=fun (regs2,Puts4,at_1)=>⟨Q2.k 13 [false,true,false,true,true],(j8 2 z7 list::(j8 4 A0 prog::(bs 2 (.ptr 1 0 0::(.ptr 4 0 0::(.ptr 5 0 0::(vi at_1::(bs 174 [])))))))),[some [],some [.var 48 [.own 2 0 2 0 b5.length,.own 3 0 2 0 b6.length,vi 0,vi 0]],some [m7 180 2 w6 b5],some [m7 183 2 w8 b6],some [.arr 199 1 4 (regs2.map eI)],some [.var 48 [.own 6 0 2 0 Reads1.length,.own 7 0 2 0 Puts4.length,vi 0,vi 0]],some [m7 180 2 w6 Reads1],some [m7 183 2 w8 Puts4]]⟩
def c7Q(list:List n8)(prog:List n9)(b5:List r9)(b6:List p7)(Reads1:List r9)(regs2:List Int)(Puts4:List p7)(at_1:Int):Unit->KS:=fun _=>⟨Q2.k 15 [false,true,false,true,true,false],(j8 2 z7 list::(j8 4 A0 prog::(bs 2 (.ptr 1 0 0::(.ptr 4 0 0::(.ptr 5 0 0::(vi at_1::(bs 174 [])))))))),[some [],some [.var 48 [.own 2 0 2 0 b5.length,.own 3 0 2 0 b6.length,vi 0,vi 0]],some [m7 180 2 w6 b5],some [m7 183 2 w8 b6],some [.arr 199 1 4 (regs2.map eI)],some [.var 48 [.own 6 0 2 0 Reads1.length,.own 7 0 2 0 Puts4.length,vi 0,vi 0]],some [m7 180 2 w6 Reads1],some [m7 183 2 w8 Puts4]]⟩
def b2r(b5:List r9)(b6:List p7)(Reads1:List r9)(regs2:List Int)(Puts4:List p7)(at_1:Int):Option (l7 n6 ((List Int)×(List r9)×(List p7)×(List r9)×(List p7)×Int) ((List r9)×(List p7)×(List Int)×(List r9)×List p7)):=
 some (l7.nxt (regs2,b5,b6,Reads1,Puts4,m8 (at_1+1)))
theorem d9t(list prog b5 b6 Reads1 regs2 Puts4 at_1)(lc:F8 Q2 a84 (b01 list prog)):NL lc (c7Q list prog b5 b6 Reads1 regs2 Puts4 at_1) (fun s=>b2r b5 b6 Reads1 regs2 Puts4 at_1):=fun _ h=>PK<|rg<|(lc.nx h fun hI=>sk [] [0,1,4,5,6,7] [(1,0),(4,0),(5,0),(2,0),(3,0),(6,0),(7,0)] hI)
def e5P(list:List n8)(prog:List n9)(b5:List r9)(b6:List p7)(Reads1:List r9)(regs2:List Int)(Puts4:List p7)(at_1:Int):Int->KS:=fun a6B=>⟨Q2.k 14 [false,true,false,true,true],(j8 2 z7 list::(j8 4 A0 prog::(bs 2 (.ptr 1 0 0::(.ptr 4 0 0::(.ptr 5 0 0::(vi at_1::(bs 153 (.agg (regs2.map eI).flatten::(vi a6B::(bs 19 []))))))))))),[some [],some [.var 48 [.own 2 0 2 0 b5.length,.own 3 0 2 0 b6.length,vi 0,vi 0]],some [m7 180 2 w6 b5],some [m7 183 2 w8 b6],some [.arr 199 1 4 (regs2.map eI)],some [.var 48 [.own 6 0 2 0 Reads1.length,.own 7 0 2 0 Puts4.length,vi 0,vi 0]],some [m7 180 2 w6 Reads1],some [m7 183 2 w8 Puts4]]⟩
def b4f(Reads1:List r9)(regs2:List Int)(a6B:Int):Option (l7 n6 Int Unit):=
 (bif decide (a6B<4) then ((idx regs2 a6B).bind fun y5=>(t5 (a6B<4) (((D8 y5 (-1000000) 1000000).bind fun in_2=>(bif (!in_2) then ((a29 Reads1).bind fun c3e=>some (l7.ret (n6.mk c3e [] 0 2))) else some (l7.nxt (m8 (a6B+1)))))))) else some (l7.brk ()))
theorem f2K(list prog b5 b6 Reads1 regs2 Puts4 at_1):LQ Q2 (c7Q list prog b5 b6 Reads1 regs2 Puts4 at_1) (e5P list prog b5 b6 Reads1 regs2 Puts4 at_1) (fun s=>b4f Reads1 regs2 s):=fun lc a6B h=>PK<|rg<|j6 0 h (fun h=>rg<|A7 h fun y5 hy5 h=>u0 h fun e7 h=>ob (O9 hy5)<|ob e7<|om ((regs2.map eI).flatten[a6B.toNat]?=some (vi y5)) (c3I (fun _=>rfl) hy5)<|tl (0,{a:=.val (vi y5)})<|rg<|l8 D2 E6 1 h fun in_2 h=>j6 2 h (fun h=>rg<|cbS a2m b0P 2 (fun _=>(by simp [a2m,K6,S8,P3,V.simple,vi,v5,eI,w6])) (fun _=>(Q1 1)) h fun c3e h=>C7 Reads1 c3e<|fL lc h) (fun h=>rg<|(lc.nx h fun hI=>om (V.agg ((regs2.map eI).flatten.map (W4 [(1,0),(2,0),(3,0),(4,0),(5,0),(6,0),(7,0)]))=.agg (regs2.map eI).flatten) (congrArg V.agg (a8V (fun _=>rfl) _))<|skT [] [0,1,4,5,6,7,161,162] [(1,0),(2,0),(3,0),(4,0),(5,0),(6,0),(7,0)] [(161,.agg (regs2.map eI).flatten)] hI))) (fun h=>(lc.bk h fun hI=>sk [] [0,1,4,5,6,7] [(1,0),(2,0),(3,0),(4,0),(5,0),(6,0),(7,0)] hI))
def a9L(b5:List r9)(b6:List p7)(Reads1:List r9)(regs2:List Int)(Puts4:List p7)(at_1:Int):Option (l7 n6 ((List Int)×(List r9)×(List p7)×(List r9)×(List p7)×Int) ((List r9)×(List p7)×(List Int)×(List r9)×List p7)):=
 ((o9 (fun s:Int=>b4f Reads1 regs2 s) 0).bind fun x=>x.go (fun r=>some (l7.ret r)) fun s=>b2r b5 b6 Reads1 regs2 Puts4 at_1)
theorem d7U(list prog b5 b6 Reads1)(lc:F8 Q2 a84 (b01 list prog)):NL lc (e2I list prog b5 b6 Reads1) (fun s=>a9L b5 b6 Reads1 s.1 s.2.1 s.2.2):=fun (regs2,Puts4,at_1) h=>PK<|rg<|om (4*1=4) rfl<|lp (f2K list prog b5 b6 Reads1 regs2 Puts4 at_1) h (fun _ h=>lc.rt h) (d9t list prog b5 b6 Reads1 regs2 Puts4 at_1 lc) fun hI=>om (V.agg ((regs2.map eI).flatten.map (W4 [(1,0),(2,0),(3,0),(4,0),(5,0),(6,0),(7,0)]))=.agg (regs2.map eI).flatten) (congrArg V.agg (a8V (fun _=>rfl) _))<|skT [] [0,1,4,5,6,7,161,162] [(1,0),(2,0),(3,0),(4,0),(5,0),(6,0),(7,0)] [(161,.agg (regs2.map eI).flatten)] hI
def a3E(list:List n8)(prog:List n9)(regs:List Int)(b5:List r9)(b6:List p7)(Reads1:List r9)(Puts1:List p7)(at_:Int):Option (l7 n6 ((List Int)×(List r9)×(List p7)×(List r9)×(List p7)×Int) ((List r9)×(List p7)×(List Int)×(List r9)×List p7)):=
 (bif decide (at_<(prog.length:Int)) then ((idx prog at_).bind fun ins=>(bif (ins.a9==1) then ((b1J (n6.mk Reads1 Puts1 0 0) ins.B).bind fun V8=>(bif decide (V8>=0) then ((idx Puts1 V8).bind fun put1=>((idx regs ins.A).bind fun y1=>(t5 (ins.A<4) (((o9 (fun s:Int=>b3m regs Reads1 ins put1 s) 0).bind fun x=>x.go (fun r=>some (l7.ret r)) fun s=>c4C regs b5 b6 Reads1 Puts1 at_ ins put1))))) else ((((b30 (n6.mk Reads1 Puts1 0 0) ins.B).bind fun d5E=>(bif decide (d5E<0) then ((idx list ins.B).bind fun T9=>(t5 ((Reads1.length+1)*16<=140737488355328) (some (m5.brk (Reads1++[(r9.mk ins.B T9.j5)]))))) else some (m5.brk Reads1))):Option (m5 (l7 n6 ((List Int)×(List r9)×(List p7)×(List r9)×(List p7)×Int) ((List r9)×(List p7)×(List Int)×(List r9)×List p7)) (List r9))).bind fun x=>x.go some fun j=>b5u list regs b5 b6 Puts1 at_ ins j))) else (((bif (ins.a9==2) then ((b1J (n6.mk Reads1 Puts1 0 0) ins.A).bind fun a9i=>(bif decide (a9i>=0) then ((idx regs ins.B).bind fun y6=>(t5 (ins.B<4) (((idx Puts1 a9i).bind fun put2=>some (m5.brk (regs,Puts1.set a9i.toNat (p7.mk put2.i6 y6),at_)))))) else ((idx regs ins.B).bind fun y7=>(t5 (ins.B<4) ((t5 ((Puts1.length+1)*16<=140737488355328) (some (m5.brk (regs,Puts1++[(p7.mk ins.A y7)],at_))))))))) else (bif (ins.a9==3) then ((idx regs ins.A).bind fun y8=>(t5 (ins.A<4) (some (m5.brk (regs.set ins.A.toNat ins.N,Puts1,at_))))) else (bif (ins.a9==4) then ((idx regs ins.A).bind fun y9=>(t5 (ins.A<4) (((idx regs ins.B).bind fun y10=>(t5 (ins.B<4) ((t5 (ins.A<4) (some (m5.brk (regs.set ins.A.toNat (m8 (y9+y10)),Puts1,at_)))))))))) else (bif (ins.a9==5) then ((idx regs ins.A).bind fun y11=>(t5 (ins.A<4) (((idx regs ins.B).bind fun y12=>(t5 (ins.B<4) ((t5 (ins.A<4) (some (m5.brk (regs.set ins.A.toNat (m8 (y11-y12)),Puts1,at_)))))))))) else (bif (ins.a9==6) then ((idx regs ins.A).bind fun y13=>(t5 (ins.A<4) (((idx regs ins.B).bind fun y14=>(t5 (ins.B<4) ((bif decide (y13<y14) then some (m5.brk (regs,Puts1,m8 (at_+ins.N))) else some (m5.brk (regs,Puts1,at_))))))))) else (bif (ins.a9==7) then ((a29 Reads1).bind fun c34=>some (m5.ret (l7.ret (n6.mk c34 [] 0 1)))) else some (m5.brk (regs,Puts1,at_)))))))):Option (m5 (l7 n6 ((List Int)×(List r9)×(List p7)×(List r9)×(List p7)×Int) ((List r9)×(List p7)×(List Int)×(List r9)×List p7)) ((List Int)×(List p7)×Int))).bind fun x=>x.go some fun j=>a9L b5 b6 Reads1 j.1 j.2.1 j.2.2))) else some (l7.brk (b5,b6,regs,Reads1,Puts1)))
set_option maxRecDepth 20000 in
theorem e7n(list prog):LQ Q2 a84 (b01 list prog) (fun s=>a3E list prog s.1 s.2.1 s.2.2.1 s.2.2.2.1 s.2.2.2.2.1 s.2.2.2.2.2):=fun lc (regs,b5,b6,Reads1,Puts1,at_) h=>PK<|rg<|j6 3 h (fun h=>rg<|u9 A0 2 h fun ins hins h=>n7<|j6 1 h (fun h=>rg<|R8 a5T d0h 3 2 h fun V8 h=>C7 Reads1 Puts1<|rg<|j6 1 h (fun h=>rg<|A7 h fun put1 b4s h=>B5 b4s<|H9 w8 7 b4s<|A7 h fun y1 hy1 h=>u0 h fun e2 h=>ob (O9 hy1)<|ob e2<|om (s8.arr 199 1 4 ((regs.map eI).set (ins.A.toNat) [vi put1.g7])=s8.arr 199 1 4 ((regs.set ins.A.toNat put1.g7).map eI)) (a7t rfl)<|ob (U9 (enc:=eI) hy1)<|tl (9,{a:=.rowck (eI y1) [],e:=some (.arr 199 1 4 ((regs.set ins.A.toNat put1.g7).map eI))})<|rg<|om (4*1=4) rfl<|lp (d8E list prog regs b5 b6 Reads1 Puts1 at_ ins put1) h (fun _ h=>lc.rt h) (e2O list prog regs b5 b6 Reads1 Puts1 at_ ins put1 lc) fun hI=>om (V.agg (((regs.set ins.A.toNat put1.g7).map eI).flatten.map (W4 [(1,0),(4,0),(5,0),(2,0),(3,0),(6,0),(7,0)]))=.agg ((regs.set ins.A.toNat put1.g7).map eI).flatten) (congrArg V.agg (a8V (fun _=>rfl) _))<|skT [] [0,1,4,5,6,7,161,162] [(1,0),(4,0),(5,0),(2,0),(3,0),(6,0),(7,0)] [(161,.agg ((regs.set ins.A.toNat put1.g7).map eI).flatten)] hI) (fun h=>A9 h (e2s list prog regs b5 b6 Puts1 at_ ins lc) fun x2 h hc2=>rg<|R8 a7p e7E 3 2 h fun d5E h=>C7 Reads1 Puts1<|j6 4 h (fun h=>rg<|u9 z7 7 h fun T9 a7G h=>tk 11 []<|u0 h fun e6 h=>F9 12 46 180 2 16 w6 Reads1 (r9.mk ins.B T9.j5) e6<|E8 (r9.mk ins.B T9.j5)<|(p8 h hc2 fun hI=>sk [] [0,1,4,5,6,7,8] [(1,0),(4,0),(5,0),(2,0),(3,0),(46,0),(7,0),(16,0)] hI)) (fun h=>(p8 h hc2 fun hI=>sk [] [0,1,4,5,6,7,8] [(1,0),(4,0),(5,0),(2,0),(3,0),(6,0),(7,0),(16,0)] hI)))) (fun h=>A9 h (d7U list prog b5 b6 Reads1 lc) fun x2 h hc2=>rg<|j6 1 h (fun h=>rg<|R8 a5T d0h 3 2 h fun a9i h=>C7 Reads1 Puts1<|rg<|j6 1 h (fun h=>rg<|A7 h fun y6 hy6 h=>u0 h fun e8 h=>ob (O9 hy6)<|ob e8<|ob (U9 (enc:=eI) hy6)<|tl (tr 6 (eI y6))<|A7 h fun put2 c9l h=>B5 c9l<|Q6 183 2 w8 9 [] (p7.mk put2.i6 y6) c9l<|(p8 h hc2 fun hI=>om ((.own 7 0 2 0 Puts1.length:V)=.own 7 0 2 0 (Puts1.set a9i.toNat (p7.mk put2.i6 y6)).length) (by simp)<|sk [.is (.cell 3 0 1) (.own 7 0 2 0 (Puts1.set a9i.toNat (p7.mk put2.i6 y6)).length)] [0,1,4,5,6,7] [(1,0),(4,0),(5,0),(2,0),(3,0),(6,0),(7,0)] hI)) (fun h=>rg<|A7 h fun y7 hy7 h=>u0 h fun e9 h=>ob (O9 hy7)<|ob e9<|ob (U9 (enc:=eI) hy7)<|tl (tr 7 (eI y7))<|tk 9 []<|u0 h fun e10 h=>F9 10 41 183 2 16 w8 Puts1 (p7.mk ins.A y7) e10<|E8 (p7.mk ins.A y7)<|(p8 h hc2 fun hI=>sk [] [0,1,4,5,6,7] [(1,0),(4,0),(5,0),(2,0),(3,0),(6,0),(41,0)] hI))) (fun h=>rg<|j6 1 h (fun h=>rg<|A7 h fun y8 hy8 h=>u0 h fun e11 h=>ob (O9 hy8)<|ob e11<|om (s8.arr 199 1 4 ((regs.map eI).set (ins.A.toNat) [vi ins.N])=s8.arr 199 1 4 ((regs.set ins.A.toNat ins.N).map eI)) (a7t rfl)<|ob (U9 (enc:=eI) hy8)<|tl (5,{a:=.rowck (eI y8) [],e:=some (.arr 199 1 4 ((regs.set ins.A.toNat ins.N).map eI))})<|(p8 h hc2 fun hI=>sk [] [0,1,4,5,6,7] [(1,0),(4,0),(5,0),(2,0),(3,0),(6,0),(7,0)] hI)) (fun h=>rg<|j6 1 h (fun h=>rg<|A7 h fun y9 hy9 h=>u0 h fun e12 h=>ob (O9 hy9)<|ob e12<|ob (U9 (enc:=eI) hy9)<|tl (tr 3 (eI y9))<|A7 h fun y10 d1O h=>u0 h fun e13 h=>ob (O9 d1O)<|ob e13<|ob (U9 (enc:=eI) d1O)<|tl (tr 7 (eI y10))<|u0 h fun e14 h=>ob (O9 hy9)<|ob e14<|om (s8.arr 199 1 4 ((regs.map eI).set (ins.A.toNat) [vi (m8 (y9+y10))])=s8.arr 199 1 4 ((regs.set ins.A.toNat (m8 (y9+y10))).map eI)) (a7t rfl)<|ob (U9 (enc:=eI) hy9)<|tl (10,{a:=.rowck (eI y9) [],e:=some (.arr 199 1 4 ((regs.set ins.A.toNat (m8 (y9+y10))).map eI))})<|(p8 h hc2 fun hI=>sk [] [0,1,4,5,6,7] [(1,0),(4,0),(5,0),(2,0),(3,0),(6,0),(7,0)] hI)) (fun h=>rg<|j6 1 h (fun h=>rg<|A7 h fun y11 b93 h=>u0 h fun e15 h=>ob (O9 b93)<|ob e15<|ob (U9 (enc:=eI) b93)<|tl (tr 3 (eI y11))<|A7 h fun y12 d5p h=>u0 h fun e16 h=>ob (O9 d5p)<|ob e16<|ob (U9 (enc:=eI) d5p)<|tl (tr 7 (eI y12))<|u0 h fun e17 h=>ob (O9 b93)<|ob e17<|om (s8.arr 199 1 4 ((regs.map eI).set (ins.A.toNat) [vi (m8 (y11-y12))])=s8.arr 199 1 4 ((regs.set ins.A.toNat (m8 (y11-y12))).map eI)) (a7t rfl)<|ob (U9 (enc:=eI) b93)<|tl (10,{a:=.rowck (eI y11) [],e:=some (.arr 199 1 4 ((regs.set ins.A.toNat (m8 (y11-y12))).map eI))})<|(p8 h hc2 fun hI=>sk [] [0,1,4,5,6,7] [(1,0),(4,0),(5,0),(2,0),(3,0),(6,0),(7,0)] hI)) (fun h=>rg<|j6 1 h (fun h=>rg<|A7 h fun y13 d0N h=>u0 h fun e18 h=>ob (O9 d0N)<|ob e18<|ob (U9 (enc:=eI) d0N)<|tl (tr 3 (eI y13))<|A7 h fun y14 d6a h=>u0 h fun e19 h=>ob (O9 d6a)<|ob e19<|ob (U9 (enc:=eI) d6a)<|tl (tr 7 (eI y14))<|j6 8 h (fun h=>rg<|(p8 h hc2 fun hI=>sk [] [0,1,4,5,6,7] [(1,0),(4,0),(5,0),(2,0),(3,0),(6,0),(7,0)] hI)) (fun h=>(p8 h hc2 fun hI=>sk [] [0,1,4,5,6,7] [(1,0),(4,0),(5,0),(2,0),(3,0),(6,0),(7,0)] hI))) (fun h=>rg<|j6 1 h (fun h=>rg<|cbS a2m b0P 2 (fun _=>(by simp [a2m,K6,S8,P3,V.simple,vi,v5,eI,w6])) (fun _=>(Q1 1)) h fun c34 h=>s9 Reads1<|(B8 h hc2 fun h=>s9 c34<|fL lc h)) (fun h=>(p8 h hc2 fun hI=>sk [] [0,1,4,5,6,7] [(1,0),(4,0),(5,0),(2,0),(3,0),(6,0),(7,0)] hI))))))))) (fun h=>(lc.bk h fun hI=>sk [] [4,5,6] [(1,0),(4,0),(5,0),(2,0),(3,0),(6,0),(7,0)] hI))
def b4N(list:List n8)(prog:List n9):Option n6:=
 ((a5C list).bind fun W1=>(bif (!W1) then some (n6.mk [] [] 0 3) else ((a7P prog).bind fun E4=>(bif (!E4) then some (n6.mk [] [] 0 3) else ((o9 (fun s:(List Int)×(List r9)×(List p7)×(List r9)×(List p7)×Int=>a3E list prog s.1 s.2.1 s.2.2.1 s.2.2.2.1 s.2.2.2.2.1 s.2.2.2.2.2) (f6a 4 (0:Int),[],[],[],[],0)).bind fun x=>x.go (fun r=>some r) fun s=>b4a s.1 s.2.1 s.2.2.1 s.2.2.2.1 s.2.2.2.2)))))
theorem d67{list prog}:OK Q2 [j8 2 z7 list,j8 4 A0 prog] (b4N list prog):=
 o8 _ fun r h=>n7<|l8 a2U b4F 1 h fun W1 h=>j6 3 h (fun h=>rg<|fE h) (fun h=>l8 a4r b6i 5 h fun E4 h=>j6 7 h (fun h=>rg<|fE h) (fun h=>rg<|om ((f6a 4 ([vi 0]:List V)).flatten=[vi 0,vi 0,vi 0,vi 0]/\([vi 0]:List V).length=1) ⟨rfl,rfl⟩<|n7<|lp (e7n list prog) h (fun _ h=>Q2.rt h) (e60 r) fun hI=>sk [.own (.cell 1 0 0) 180 2,.own (.cell 1 0 1) 183 2,.own (.cell 12 0 0) 180 2,.own (.cell 12 0 1) 183 2] [0,1,4,5,6,7] [(1,0),(10,0),(12,0),(15,0),(16,0),(17,0),(18,0)] hI))
def a1A:FS (Int):=⟨80,Tryz.f80,[.val [] []],[none,none],[.val [some 7] [],.val [] []],fun r=>vi r,fun _=>[none,none],Tryz.func80⟩
def c2S:Unit->KS:=fun _=>⟨a1A.k 3 [false],(bs 25 []),[some []]⟩
def d6Z:Option Int:=
 some (-1)
theorem f0z(r):NF a1A r c2S (fun s=>d6Z):=fun _ h=>PK<|rg<|fE h
def d0G(list:List m6)(q:o7):Int->KS:=fun v9=>⟨a1A.k 2 [],(bs 3 (.ptr 1 0 0::(bs 3 (j8 7 t6 list::(vi (list.length:Int)::(vi v9::(bs 15 []))))))),[some [],some [.var 44 [vi q.c8,vi q.Seq]]]⟩
def e1S(list:List m6)(q:o7)(v9:Int):Unit->KS:=fun _=>⟨a1A.k 5 [true,false],(bs 3 (.ptr 1 0 0::(bs 3 (j8 7 t6 list::(vi (list.length:Int)::(vi v9::(bs 15 []))))))),[some [],some [.var 44 [vi q.c8,vi q.Seq]]]⟩
def c1Y(v9:Int):Option (l7 Int Int Unit):=
 some (l7.nxt (m8 (v9+1)))
theorem e1s(list q v9)(lc:F8 a1A c2S (d0G list q)):NL lc (e1S list q v9) (fun s=>c1Y v9):=fun _ h=>PK<|rg<|(lc.nx h fun hI=>sk [] [3,7,8,9] [(1,0)] hI)
def b0z(list:List m6)(q:o7)(v9:Int):Option (l7 Int Int Unit):=
 (bif decide (v9<(list.length:Int)) then ((idx list v9).bind fun entry=>(((bif (!entry.i8) then (bif (([entry.a0.c8,entry.a0.Seq]:List Int)==[q.c8,q.Seq]) then some (m5.ret (l7.ret v9)) else some (m5.brk ())) else some (m5.brk ())):Option (m5 (l7 Int Int Unit) Unit)).bind fun x=>x.go some fun j=>c1Y v9)) else some (l7.brk ()))
theorem e2l(list q):LQ a1A c2S (d0G list q) (fun s=>b0z list q s):=fun lc v9 h=>PK<|rg<|j6 0 h (fun h=>rg<|u9 t6 1 h fun entry G9 h=>A9 h (e1s list q v9 lc) fun x2 h hc2=>rg<|j6 3 h (fun h=>j6 8 h (fun h=>rg<|(B8 h hc2 fun h=>fL lc h)) (fun h=>(p8 h hc2 fun hI=>sk [] [3,7,8,9] [(1,0)] hI))) (fun h=>(p8 h hc2 fun hI=>sk [] [3,7,8,9] [(1,0)] hI))) (fun h=>(lc.bk h fun hI=>sk [] [] [] hI))
def a6P(list:List m6)(q:o7):Option Int:=
 ((o9 (fun s:Int=>b0z list q s) 0).bind fun x=>x.go (fun r=>some r) fun s=>d6Z)
theorem b2h{list q}:OK a1A [j8 7 t6 list,.agg (J0 q)] (a6P list q):=
 o8 _ fun r h=>n7<|lp (e2l list q) h (fun _ h=>a1A.rt h) (f0z r) fun hI=>sk [] [3,7,8,9] [(1,0)] hI
def c2L:FS (Bool×p6):=⟨197,Tryz.f197,[.val [] []],[some (0,.ptr I7 M3),none],[.ptr I7 M3,.val [] []],fun r=>.b r.1,fun r=>[some (.optr 171 (L8 r.2)),none],Tryz.func197⟩
def b2Z(a:p6)(q:o7):Option (Bool×p6):=
 ((a6P a.n.a5 q).bind fun first=>some (decide (first>=0),a))
theorem d5h{a q}:OK c2L [.optr 171 (L8 a),.agg (J0 q)] (b2Z a q):=
 o8 _ fun r h=>n7<|R8 a1A b2h 6 2 h fun first h=>s9 a.n.a5<|C9 a<|fE h
def a0i:FS (m6×Bool×p6):=⟨192,Tryz.f192,[.val K4 [],.val [] []],[some (0,.ptr I7 M3)],[.ptr I7 M3],fun r=>.tup [.agg (t6 r.1),.b r.2.1],fun r=>[some (.optr 171 (L8 r.2.2))],Tryz.func192⟩
def e6h(a:p6):Unit->KS:=fun _=>⟨a0i.k 3 [false],(.ptr 0 0 0::(bs 1 (.ptr 1 0 0::(bs 1 (vi (a.n.a5.length:Int)::(bs 112 [])))))),[some ([.var 171 (c0R a)]++c3O a),some [.var 50 [.b false,vi 0,vi 0,.nil,.nil,vi 0,vi 0]]]⟩
def c83(a:p6):Unit->KS:=fun _=>⟨a0i.k 5 [false,false],(.ptr 0 0 0::(bs 1 (.ptr 1 0 0::(bs 114 [])))),[some ([.var 171 (c0R a)]++c3O a),some [.var 50 [.b false,vi 0,vi 0,.nil,.nil,vi 0,vi 0]]]⟩
def f0u:p6->KS:=fun a1=>⟨a0i.k 6 [false,false,false],(.ptr 0 0 0::(bs 1 (.ptr 6 0 0::(bs 114 [])))),[some [.var 171 (b37 a1),.dead,.dead,.dead,.dead,.dead]]++a3e a1++[some [.var 50 [.b false,vi 0,vi 0,.nil,.nil,vi 0,vi 0]]]⟩
def c86:p6->KS:=fun w=>⟨a0i.k 7 [false,false,false,false],(bs 2 (.ptr 6 0 0::(bs 114 []))),[some [.var 171 (b37 w),.dead,.dead,.dead,.dead,.dead]]++a3e w++[some [.var 50 [.b false,vi 0,vi 0,.nil,.nil,vi 0,vi 0]]]⟩
def c62(w:p6):Option (m6×Bool×p6):=
 some ((m6.mk false (o7.mk 0 0) (n6.mk [] [] 0 0)),false,w)
theorem f2X(r):NF a0i r c86 (fun s=>c62 s):=fun w h=>PK<|rg<|C9 w<|fE h
def e1T:p6->KS:=fun a2=>⟨a0i.k 6 [false,false,false],(.ptr 0 0 0::(bs 1 (.ptr 6 0 0::(bs 114 [])))),[some [.var 171 (b37 a2),.dead,.dead,.dead,.dead,.dead]]++a3e a2++[some [.var 50 [.b false,vi 0,vi 0,.nil,.nil,vi 0,vi 0]]]⟩
def a4K(a2:p6):Option (l7 (m6×Bool×p6) p6 p6):=
 (bif decide ((a2.n.d9.length:Int)>0) then ((idx a2.n.d9 0).bind fun entry=>(t5 ((0:Int)<=1/\1<=(a2.n.d9.length:Int)) (((b2Z (p6.mk (j7.mk a2.n.Id a2.n.Acc a2.n.a5 a2.n.Seq a2.n.d8 a2.n.a8 a2.n.c9 a2.n.i5 a2.n.d6 a2.n.a7 a2.n.i9 a2.n.i7 a2.n.b7 ((a2.n.d9.drop (1:Int).toNat).take (a2.n.d9.length-(1:Int).toNat))) a2.out a2.told) entry.a0).bind fun b1L=>(bif (!b1L.1) then some (l7.ret (entry,true,b1L.2)) else some (l7.nxt b1L.2)))))) else some (l7.brk a2))
theorem f4a:LQ a0i c86 e1T (fun s=>a4K s):=fun lc a2 h=>PK<|rg<|j6 6 h (fun h=>rg<|u9 t6 5 h fun entry G9 h=>rg<|u0 h fun e1 h=>om (V.sl 7 (a2.n.d9.length-(1:Int).toNat) (((a2.n.d9.map t6).drop (1:Int).toNat).take (a2.n.d9.length-(1:Int).toNat))=j8 7 t6 ((a2.n.d9.drop (1:Int).toNat).take (a2.n.d9.length-(1:Int).toNat))) (b1C e1)<|ob e1.1<|ob e1.2<|tl (6,{v:=some (j8 7 t6 ((a2.n.d9.drop (1:Int).toNat).take (a2.n.d9.length-(1:Int).toNat)))})<|rg<|l8 c2L d5h 3 h fun b1L h=>C9 a2<|j6 4 h (fun h=>rg<|C9 b1L.2<|fL lc h) (fun h=>(lc.nx h fun hI=>sk [] [0,2] [(37,0),(37,1),(37,2),(37,3),(37,4),(6,0)] hI))) (fun h=>(lc.bk h fun hI=>sk [] [2] [(1,0),(2,0),(3,0),(4,0),(5,0),(6,0)] hI))
def b9Z(a1:p6):Option (m6×Bool×p6):=
 ((o9 (fun s:p6=>a4K s) a1).bind fun x=>x.go (fun r=>some r) fun s=>c62 s)
theorem f3B(r):NF a0i r f0u (fun s=>b9Z s):=fun a1 h=>PK<|lp (f4a) h (fun _ h=>a0i.rt h) (f2X r) fun hI=>sk [] [0,2] [(1,0),(2,0),(3,0),(4,0),(5,0),(6,0)] hI
def c5j(a:p6):Option (m6×Bool×p6):=
 (((bif a.n.i9 then ((b2Z a a.n.b7.a0).bind fun b1c=>(bif (!b1c.1) then some (m5.ret (b1c.2.n.b7,true,b1c.2)) else some (m5.brk b1c.2))) else some (m5.brk a)):Option (m5 (m6×Bool×p6) p6)).bind fun x=>x.go some fun j=>b9Z j)
theorem e5u(a)(r):NF a0i r (c83 a) (fun s=>c5j a):=fun _ h=>PK<|A9 h (f3B r) fun x1 h hc1=>rg<|j6 5 h (fun h=>l8 c2L d5h 13 h fun b1c h=>C9 a<|j6 15 h (fun h=>rg<|(B8 h hc1 fun h=>C9 b1c.2<|fE h)) (fun h=>(p8 h hc1 fun hI=>sk [] [0,2] [(15,0),(15,1),(15,2),(15,3),(15,4),(1,0)] hI))) (fun h=>(p8 h hc1 fun hI=>sk [] [0,2] [(0,1),(0,2),(0,3),(0,4),(0,5),(1,0)] hI))
def e3M(a:p6):Int->KS:=fun i=>⟨a0i.k 4 [false],(.ptr 0 0 0::(bs 1 (.ptr 1 0 0::(bs 2 (vi i::(bs 111 [])))))),[some ([.var 171 (c0R a)]++c3O a),some [.var 50 [.b false,vi 0,vi 0,.nil,.nil,vi 0,vi 0]]]⟩
def a4Q(a:p6)(i:Int):Option (l7 (m6×Bool×p6) Int Unit):=
 (bif decide (i<(a.n.i5.length:Int)) then ((idx a.n.i5 i).bind fun vote=>(bif (vote.a8 != 0) then some (l7.ret ((m6.mk true (o7.mk 0 0) (n6.mk [] [] 0 0)),true,a)) else some (l7.nxt (m8 (i+1))))) else some (l7.brk ()))
theorem e8m(a):LQ a0i (c83 a) (e3M a) (fun s=>a4Q a s):=fun lc i h=>PK<|rg<|j6 7 h (fun h=>rg<|u9 p9 6 h fun vote J3 h=>j6 9 h (fun h=>rg<|C9 a<|fL lc h) (fun h=>rg<|(lc.nx h fun hI=>sk [] [0,2,5] [(1,0)] hI))) (fun h=>(lc.bk h fun hI=>sk [] [0,2] [(1,0)] hI))
def b8C(a:p6):Option (m6×Bool×p6):=
 ((o9 (fun s:Int=>a4Q a s) (m8 ((a.n.a5.length:Int)+1))).bind fun x=>x.go (fun r=>some r) fun s=>c5j a)
theorem f2M(a)(r):NF a0i r (e6h a) (fun s=>b8C a):=fun _ h=>PK<|rg<|lp (e8m a) h (fun _ h=>a0i.rt h) (e5u a r) fun hI=>sk [] [0,2,5] [(1,0)] hI
def b9T(a:p6):Option (m6×Bool×p6):=
 (((bif decide ((a.n.a5.length:Int)<(a.n.i5.length:Int)) then ((idx a.n.i5 (a.n.a5.length:Int)).bind fun O4=>(bif (O4.a8 != 0) then some (m5.ret (O4.i0,true,a)) else some (m5.brk ()))) else some (m5.brk ())):Option (m5 (m6×Bool×p6) Unit)).bind fun x=>x.go some fun j=>b8C a)
theorem e9C{a}:OK a0i [.optr 171 (L8 a)] (b9T a):=
 o8 _ fun r h=>n7<|A9 h (f2M a r) fun x1 h hc1=>rg<|j6 8 h (fun h=>u9 p9 15 h fun O4 a2j h=>j6 19 h (fun h=>rg<|I8 p9 6 a2j<|(B8 h hc1 fun h=>C9 a<|fE h)) (fun h=>(p8 h hc1 fun hI=>sk [] [0,2,4] [(1,0)] hI))) (fun h=>(p8 h hc1 fun hI=>sk [] [0,2,4] [(1,0)] hI))
def d51:FS (z4×Bool):=⟨152,Tryz.f152,[.val [none,some 8] [none,some 108],.val [] []],[none,none],[.val [none,some 8] [],.val [] []],fun r=>.tup [.agg [vi r.1.i4,v5 108 8 p9 r.1.a7],.b r.2],fun _=>[none,none],Tryz.func152⟩
def c0k(a:z4)(bal:Int):Option (z4×Bool):=
 ((b07 a).bind fun P9=>(bif (!P9) then some ((z4.mk 0 []),false) else ((a4A a).bind fun Q8=>((D8 bal 1 3000).bind fun in_=>(bif (!in_) then some (Q8,false) else (bif decide (bal<a.i4) then some (Q8,false) else some ((z4.mk bal Q8.a7),true)))))))
theorem f2P{a bal}:OK d51 [.agg (Z1 a),vi bal] (c0k a bal):=
 o8 _ fun r h=>n7<|l8 a5e c55 1 h fun P9 h=>j6 2 h (fun h=>rg<|fE h) (fun h=>rg<|l8 a78 a9H 1 h fun Q8 h=>rg<|l8 D2 E6 1 h fun in_ h=>j6 3 h (fun h=>rg<|s9 Q8.a7<|fE h) (fun h=>j6 8 h (fun h=>rg<|s9 Q8.a7<|fE h) (fun h=>n7<|s9 Q8.a7<|fE h)))
def a5B:FS (z4×Bool):=⟨193,Tryz.f193,[.val [none,some 8] [],.val [] []],[none,none,none,none],[.val [none,some 8] [],.val [] [],.val [] [],.val K4 []],fun r=>.tup [.agg (Z1 r.1),.b r.2],fun _=>[none,none,none,none],Tryz.func193⟩
def d5q(bal:Int)(slot:Int)(e_:m6)(o:z4×Bool):(List m9)->KS:=fun Y9=>⟨a5B.k 5 [false,false,false],(bs 1 (vi bal::(vi slot::(bs 4 (.ptr 1 0 0::(.ptr 2 0 0::(bs 1 (.ptr 3 0 0::(bs 40 []))))))))),[some [],some [.var 50 (a3h e_)],some [.var 40 [vi 0,.nil]],some [.var 40 [vi o.1.i4,.own 4 0 8 0 Y9.length]],some [m7 108 8 p9 Y9]]⟩
def c3V(bal:Int)(slot:Int)(e_:m6)(o:z4×Bool)(Y9:List m9):Option (z4×Bool):=
 ((idx Y9 slot).bind fun vote=>((a4A (z4.mk o.1.i4 (Y9.set slot.toNat (m9.mk bal e_)))).bind fun c4Q=>some (c4Q,true)))
theorem e6A(bal slot e_ o)(r):NF a5B r (d5q bal slot e_ o) (fun s=>c3V bal slot e_ o s):=fun Y9 h=>PK<|rg<|A7 h fun vote J3 h=>B5 J3<|Q6 108 8 p9 7 V3 (m9.mk bal e_) J3<|rg<|l8 a78 a9H 1 h fun c4Q h=>om (Y9.length=(Y9.set slot.toNat (m9.mk bal e_)).length) (by simp)<|s9 c4Q.a7<|fE h
def e4P(bal:Int)(slot:Int)(e_:m6)(o:z4×Bool):(List m9)->KS:=fun a7=>⟨a5B.k 4 [false,false],(bs 1 (vi bal::(vi slot::(bs 4 (.ptr 1 0 0::(.ptr 2 0 0::(bs 1 (.ptr 3 0 0::(bs 40 []))))))))),[some [],some [.var 50 (a3h e_)],some [.var 40 [vi 0,.nil]],some [.var 40 [vi o.1.i4,.own 4 0 8 0 a7.length]],some [m7 108 8 p9 a7]]⟩
def a8o(slot:Int)(a7:List m9):Option (l7 (z4×Bool) (List m9) (List m9)):=
 (bif decide ((a7.length:Int)<=slot) then (t5 ((a7.length+1)*96<=140737488355328) (some (l7.nxt (a7++[(m9.mk 0 (m6.mk false (o7.mk 0 0) (n6.mk [] [] 0 0)))])))) else some (l7.brk a7))
theorem f2q(bal slot e_ o):LQ a5B (d5q bal slot e_ o) (e4P bal slot e_ o) (fun s=>a8o slot s):=fun lc a7 h=>PK<|rg<|j6 4 h (fun h=>rg<|tk 3 V3<|u0 h fun e1 h=>F9 4 14 108 8 96 p9 a7 (m9.mk 0 (m6.mk false (o7.mk 0 0) (n6.mk [] [] 0 0))) e1<|E8 (m9.mk 0 (m6.mk false (o7.mk 0 0) (n6.mk [] [] 0 0)))<|(lc.nx h fun hI=>sk [] [1,2,7,8,10] [(1,0),(2,0),(3,0),(14,0)] hI)) (fun h=>(lc.bk h fun hI=>sk [] [1,2,7,8,10] [(1,0),(2,0),(3,0),(4,0)] hI))
def b1I(a:z4)(bal:Int)(slot:Int)(e_:m6):Option (z4×Bool):=
 ((c0k a bal).bind fun o=>(bif (!o.2) then some (o.1,false) else ((D8 slot 0 39).bind fun in_=>(bif (!in_) then ((a4A a).bind fun Q8=>some (Q8,false)) else ((a1z e_).bind fun E5=>(bif (!E5) then ((a4A a).bind fun c5V=>some (c5V,false)) else ((o9 (fun s:List m9=>a8o slot s) o.1.a7).bind fun x=>x.go (fun r=>some r) fun s=>c3V bal slot e_ o s)))))))
theorem d2Q{a bal slot e_}:OK a5B [.agg (Z1 a),vi bal,vi slot,.agg (t6 e_)] (b1I a bal slot e_):=
 o8 _ fun r h=>n7<|l8 d51 f2P 2 h fun o h=>rg<|j6 1 h (fun h=>rg<|s9 o.1.a7<|fE h) (fun h=>rg<|l8 D2 E6 1 h fun in_ h=>j6 3 h (fun h=>rg<|l8 a78 a9H 1 h fun Q8 h=>s9 Q8.a7<|fE h) (fun h=>l8 a3f a4p 5 h fun E5 h=>j6 7 h (fun h=>rg<|l8 a78 a9H 1 h fun c5V h=>s9 c5V.a7<|fE h) (fun h=>lp (f2q bal slot e_ o) h (fun _ h=>a5B.rt h) (e6A bal slot e_ o r) fun hI=>sk [] [1,2,7,8,10] [(2,0),(3,0),(11,0),(7,0)] hI)))
def b7S:FS (p6):=⟨151,Tryz.f151,[],[some (0,.ptr I7 M3)],[.ptr I7 M3],fun _=>.tup [],fun r=>[some (.optr 171 (L8 r))],Tryz.func151⟩
def b4I(a:p6):Option p6:=
 some (p6.mk (j7.mk a.n.Id a.n.Acc a.n.a5 a.n.Seq 0 0 [] [] (m6.mk false (o7.mk 0 0) (n6.mk [] [] 0 0)) [] a.n.i9 a.n.i7 a.n.b7 a.n.d9) a.out a.told)
theorem c41{a}:OK b7S [.optr 171 (L8 a)] (b4I a):=
 o8 _ fun r h=>rg4<|n7<|X8 a.n.a5 a.out a.told<|fE h
def c4Z:FS ((List Bool)×p6):=⟨153,Tryz.f153,[.val [some 1] [some 4]],[some (0,.ptr I7 M3)],[.ptr I7 M3],fun r=>v5 4 1 eB r.1,fun r=>[some (.optr 171 (L8 r.2))],Tryz.func153⟩
def b1G(a:p6):Option ((List Bool)×p6):=
 (t5 (0<=(3:Int)/\(3:Int)*1<=140737488355328) (((idx (f6a (3:Int).toNat false) a.n.Id).bind fun y=>some ((f6a (3:Int).toNat false).set a.n.Id.toNat true,a))))
theorem d4p{a}:OK c4Z [.optr 171 (L8 a)] (b1G a):=
 o8 _ fun r h=>n7<|u0 h fun e1 h=>T3 0 2 4 1 1 eB false ti4 (.none) e1 (by decide) (by rfl)<|rg<|A7 h fun y hy h=>B5 hy<|Q6 4 1 eB 7 [] true hy<|rg<|om ((f6a (3:Int).toNat false).length=((f6a (3:Int).toNat false).set a.n.Id.toNat true).length) (by simp)<|C9 a<|fE h
def a5L:FS (p6):=⟨161,Tryz.f161,[],[some (0,.ptr I7 M3),none,none],[.ptr I7 M3,.val [] [],.val B9 []],fun _=>.tup [],fun r=>[some (.optr 171 (L8 r)),none,none],Tryz.func161⟩
def a4v(a:p6)(to:Int)(m:l9):Option p6:=
 (t5 ((a.out.length+1)*152<=140737488355328) (some (p6.mk a.n (a.out++[(l9.mk m.a9 a.n.Id to m.a8 m.g8 m.i0 m.a7)]) a.told)))
theorem a8x{a to m}:OK a5L [.optr 171 (L8 a),vi to,.agg (s6 m)] (a4v a to m):=
 o8 _ fun r h=>rg4<|tk 6 B9<|u0 h fun e1 h=>F9 7 19 66 13 152 s6 a.out (l9.mk m.a9 a.n.Id to m.a8 m.g8 m.i0 m.a7) e1<|E8 (l9.mk m.a9 a.n.Id to m.a8 m.g8 m.i0 m.a7)<|H0 a.n.a5 a.n.c9 a.n.a7 (a.out++[(l9.mk m.a9 a.n.Id to m.a8 m.g8 m.i0 m.a7)])<|s9 a.told<|fE h
def a1q:FS (p6):=⟨149,Tryz.f149,[],[some (0,.ptr I7 M3),none],[.ptr I7 M3,.val B9 []],fun _=>.tup [],fun r=>[some (.optr 171 (L8 r)),none],Tryz.func149⟩
def d1l(m:l9):(Int×p6)->KS:=fun (to,a1)=>⟨a1q.k 2 [],(.ptr 0 0 0::(bs 2 (.ptr 1 0 0::(vi to::(bs 15 []))))),[some [.var 171 (d7A a1),.dead,.dead,.dead,.dead,.dead],some [.var 66 (a5h m)]]++e3R a1⟩
def e3k(m:l9)(to:Int):p6->KS:=fun a2=>⟨a1q.k 5 [true,true],(.ptr 0 0 0::(bs 2 (.ptr 6 0 0::(vi to::(bs 15 []))))),[some [.var 171 (b37 a2),.dead,.dead,.dead,.dead,.dead]]++a3e a2++[some [.var 66 (a5h m)]]⟩
def c1w(to:Int)(a2:p6):Option (l7 p6 (Int×p6) Unit):=
 some (l7.nxt (m8 (to+1),a2))
theorem e20(m to)(lc:F8 a1q noK (d1l m)):NL lc (e3k m to) (fun s=>c1w to s):=fun a2 h=>PK<|rg<|(lc.nx h fun hI=>sk [] [0,3,4] [(6,0),(5,0),(4,0),(3,0),(2,0),(1,0)] hI)
def a4D(m:l9)(to:Int)(a1:p6):Option (l7 p6 (Int×p6) Unit):=
 (bif decide (to<3) then (((bif (to != a1.n.Id) then ((a4v a1 to m).bind fun Z3=>some (m5.brk Z3)) else some (m5.brk a1)):Option (m5 (l7 p6 (Int×p6) Unit) p6)).bind fun x=>x.go some fun j=>c1w to j) else some (l7.ret a1))
theorem d8y(m):LQ a1q noK (d1l m) (fun s=>a4D m s.1 s.2):=fun lc (to,a1) h=>PK<|rg<|j6 1 h (fun h=>A9 h (e20 m to lc) fun x2 h hc2=>rg<|j6 6 h (fun h=>rg<|l8 a5L a8x 3 h fun Z3 h=>C9 a1<|(p8 h hc2 fun hI=>sk [] [0,3,4] [(19,0),(19,1),(19,2),(19,3),(19,4),(1,0)] hI)) (fun h=>(p8 h hc2 fun hI=>sk [] [0,3,4] [(6,0),(5,0),(4,0),(3,0),(2,0),(1,0)] hI))) (fun h=>C9 a1<|fL lc h)
def a3u(a:p6)(m:l9):Option p6:=
 ((o9 (fun s:Int×p6=>a4D m s.1 s.2) (0,a)).bind fun x=>x.go (fun r=>some r) fun _=>none)
theorem a6D{a m}:OK a1q [.optr 171 (L8 a),.agg (s6 m)] (a3u a m):=
 o8 _ fun r h=>n7<|lp (d8y m) h (fun _ h=>a1q.rt h) (fun _ h=>nomatch h) fun hI=>sk [] [0,3,4] [(1,0),(0,5),(0,4),(0,3),(0,2),(0,1)] hI
def a9P:FS (p6):=⟨148,Tryz.f148,[],[some (0,.ptr I7 M3)],[.ptr I7 M3],fun _=>.tup [],fun r=>[some (.optr 171 (L8 r))],Tryz.func148⟩
def a6k(a:p6):Option p6:=
 (bif (a.n.d8 != 2) then some a else (bif decide ((a.n.a5.length:Int)>=40) then some a else ((b9T a).bind fun next=>(bif (!next.2.1) then some next.2.2 else ((b1I next.2.2.n.Acc next.2.2.n.a8 (next.2.2.n.a5.length:Int) next.1).bind fun a75=>(bif (!a75.2) then ((b4I next.2.2).bind fun follow=>some follow) else ((b1G (p6.mk (j7.mk next.2.2.n.Id a75.1 next.2.2.n.a5 next.2.2.n.Seq next.2.2.n.d8 next.2.2.n.a8 next.2.2.n.c9 next.2.2.n.i5 next.1 next.2.2.n.a7 next.2.2.n.i9 next.2.2.n.i7 next.2.2.n.b7 next.2.2.n.d9) next.2.2.out next.2.2.told)).bind fun F3=>((a3u (p6.mk (j7.mk F3.2.n.Id F3.2.n.Acc F3.2.n.a5 F3.2.n.Seq 3 F3.2.n.a8 F3.2.n.c9 F3.2.n.i5 F3.2.n.d6 F3.1 F3.2.n.i9 F3.2.n.i7 F3.2.n.b7 F3.2.n.d9) F3.2.out F3.2.told) (l9.mk 3 0 0 F3.2.n.a8 (F3.2.n.a5.length:Int) next.1 [])).bind fun all=>some all))))))))
theorem b3C{a}:OK a9P [.optr 171 (L8 a)] (a6k a):=
 o8 _ fun r h=>rg<|j6 6 h (fun h=>C9 a<|fE h) (fun h=>j6 14 h (fun h=>C9 a<|fE h) (fun h=>rg<|l8 a0i e9C 1 h fun next h=>C9 a<|rg<|j6 1 h (fun h=>C9 next.2.2<|fE h) (fun h=>rg<|l8 a5B d2Q 17 h fun a75 h=>rg<|j6 1 h (fun h=>rg<|l8 b7S c41 1 h fun follow h=>C9 next.2.2<|C9 follow<|fE h) (fun h=>N7<|l8 c4Z d4p 2 h fun F3 h=>C9 next.2.2<|n7<|l8 a1q a6D 14 h fun all h=>H0 F3.2.n.a5 F3.2.n.c9 F3.1 F3.2.out<|s9 F3.2.told<|C9 all<|fE h))))
def b7V:FS (j7×(List l9)×List n5):=⟨95,Tryz.f95,[.val A8 [],.val [some 13] [],.val [some 5] []],[none,none],[.val A8 [],.val [some 4] []],fun r=>.tup [.agg (w9 r.1),j8 13 s6 r.2.1,j8 5 x8 r.2.2],fun _=>[none,none],Tryz.func95⟩
def d9X:p6->KS:=fun a=>⟨b7V.k 11 [false,false,true],(bs 4 (.ptr 1 0 0::(bs 2 (.ptr 2 0 0::(bs 80 []))))),[some [],some [.var 52 [vi 0,vi 0,.nil,.nil,vi 0,vi 0,vi 0,.nil,.nil,.b false,vi 0,vi 0,.nil,.nil,vi 0,vi 0,.nil,.b false,.nil,.b false,vi 0,vi 0,.nil,.nil,vi 0,vi 0,.nil]],some [.var 171 (b3z a)]]++a3e a⟩
def b9y(a:p6):Option (j7×(List l9)×List n5):=
 ((a1X a).bind fun c0i=>some (c0i.1,c0i.2.1,c0i.2.2.1))
theorem f3l(r):NF b7V r d9X (fun s=>b9y s):=fun a h=>PK<|rg<|l8 a39 a4I 1 h fun c0i h=>C9 a<|fE h
def b5i(n:j7)(prog:List n9):Option (j7×(List l9)×List n5):=
 ((a4s n).bind fun D6=>(bif (!D6) then some ((j7.mk 0 (z4.mk 0 []) [] 0 0 0 [] [] (m6.mk false (o7.mk 0 0) (n6.mk [] [] 0 0)) [] false [] (m6.mk false (o7.mk 0 0) (n6.mk [] [] 0 0)) []),[],[]) else ((a7N n).bind fun begin=>(bif n.i9 then ((a1X begin).bind fun Y1=>some (Y1.1,Y1.2.1,Y1.2.2.1)) else (bif (n.Seq==1000) then ((a1X begin).bind fun a4x=>some (a4x.1,a4x.2.1,a4x.2.2.1)) else ((a7P prog).bind fun E4=>(bif (!E4) then ((a1X begin).bind fun a4U=>some (a4U.1,a4U.2.1,a4U.2.2.1)) else ((b5V n).bind fun b2N=>((b4N b2N.g9 prog).bind fun C2=>(((bif (n.d8==2) then ((a6k (p6.mk (j7.mk begin.n.Id begin.n.Acc begin.n.a5 (m8 (begin.n.Seq+1)) begin.n.d8 begin.n.a8 begin.n.c9 begin.n.i5 begin.n.d6 begin.n.a7 true prog (m6.mk false (o7.mk n.Id (m8 (begin.n.Seq+1))) C2) begin.n.d9) begin.out begin.told)).bind fun Z4=>some (m5.brk Z4)) else (bif (n.d8==0) then ((a3u (p6.mk (j7.mk begin.n.Id begin.n.Acc begin.n.a5 (m8 (begin.n.Seq+1)) begin.n.d8 begin.n.a8 begin.n.c9 begin.n.i5 begin.n.d6 begin.n.a7 true prog (m6.mk false (o7.mk n.Id (m8 (begin.n.Seq+1))) C2) begin.n.d9) begin.out begin.told) (l9.mk 7 0 0 0 0 (m6.mk false (o7.mk n.Id (m8 (begin.n.Seq+1))) C2) [])).bind fun all=>some (m5.brk all)) else some (m5.brk (p6.mk (j7.mk begin.n.Id begin.n.Acc begin.n.a5 (m8 (begin.n.Seq+1)) begin.n.d8 begin.n.a8 begin.n.c9 begin.n.i5 begin.n.d6 begin.n.a7 true prog (m6.mk false (o7.mk n.Id (m8 (begin.n.Seq+1))) C2) begin.n.d9) begin.out begin.told)))):Option (m5 (j7×(List l9)×List n5) p6)).bind fun x=>x.go some fun j=>b9y j))))))))))
theorem e7H{n prog}:OK b7V [.agg (w9 n),j8 4 A0 prog] (b5i n prog):=
 o8 _ fun r h=>n7<|l8 a0H a8p 1 h fun D6 h=>j6 2 h (fun h=>rg<|fE h) (fun h=>rg<|l8 b10 b5e 1 h fun begin h=>rg<|j6 2 h (fun h=>rg<|l8 a39 a4I 1 h fun Y1 h=>J5 begin.n<|C7 begin.out begin.told<|fE h) (fun h=>j6 7 h (fun h=>rg<|l8 a39 a4I 1 h fun a4x h=>J5 begin.n<|C7 begin.out begin.told<|fE h) (fun h=>l8 a4r b6i 9 h fun E4 h=>j6 11 h (fun h=>rg<|l8 a39 a4I 1 h fun a4U h=>J5 begin.n<|C7 begin.out begin.told<|fE h) (fun h=>rg4<|l8 c64 d7O 10 h fun b2N h=>l8 Q2 d67 13 h fun C2 h=>rg<|A9 h (f3l r) fun x1 h hc1=>rg<|j6 1 h (fun h=>rg<|l8 a9P b3C 1 h fun Z4 h=>J5 begin.n<|C7 begin.out begin.told<|(p8 h hc1 fun hI=>sk [] [4,7] [(2,0),(9,0),(68,0),(68,1),(68,2),(68,3),(68,4)] hI)) (fun h=>rg<|j6 1 h (fun h=>rg<|l8 a1q a6D 7 h fun all h=>J5 begin.n<|C7 begin.out begin.told<|(p8 h hc1 fun hI=>sk [] [4,7] [(2,0),(9,0),(76,0),(76,1),(76,2),(76,3),(76,4)] hI)) (fun h=>(p8 h hc1 fun hI=>s9 begin.n.d9<|sk [.frz (.cell 9 0 26) (none)] [4,7] [(2,0),(9,0),(9,1),(9,2),(9,3),(9,5),(9,6)] hI)))))))
def U1:FS (m4):=⟨96,Tryz.f96,[.val D4 om2],[none,none,none,none],[.val D4 om2,.val A8 [],.val [some 13] [],.val [some 5] []],fun r=>.agg (a8z r),fun _=>[none,none,none,none],Tryz.func96⟩
def c1h(w:m4)(n:j7)(told:List n5):(List l9)->KS:=fun Net1=>⟨U1.k 4 [false],(bs 3 (j8 5 x8 told::(.ptr 1 0 0::(bs 3 (.ptr 3 0 0::(bs 45 [])))))),[some [m7 52 27 w9 (w.a6.set n.Id.toNat n),.dead,m7 68 3 A2 w.d7,m7 62 5 x8 w.Told],some [.var 28 [.own 0 0 27 0 (w.a6.set n.Id.toNat n).length,.own 2 0 13 0 Net1.length,.own 0 2 3 0 w.d7.length,.own 0 3 5 0 w.Told.length]],some [m7 66 13 s6 Net1],some [.var 28 [.nil,.nil,.nil,.nil]]]⟩
def c2Q(w:m4)(n:j7)(Net1:List l9):(List n5)->KS:=fun Told1=>⟨U1.k 6 [false,false],(bs 4 (.ptr 1 0 0::(bs 3 (.ptr 4 0 0::(bs 45 []))))),[some [m7 52 27 w9 (w.a6.set n.Id.toNat n),.dead,m7 68 3 A2 w.d7,.dead],some [.var 28 [.own 0 0 27 0 (w.a6.set n.Id.toNat n).length,.own 2 0 13 0 Net1.length,.own 0 2 3 0 w.d7.length,.own 3 0 5 0 Told1.length]],some [m7 66 13 s6 Net1],some [m7 62 5 x8 Told1],some [.var 28 [.nil,.nil,.nil,.nil]]]⟩
def c4I(w:m4)(n:j7)(Net1:List l9)(Told1:List n5):Option m4:=
 some (m4.mk (w.a6.set n.Id.toNat n) Net1 w.d7 Told1)
theorem e78(w n Net1)(r):NF U1 r (c2Q w n Net1) (fun s=>c4I w n Net1 s):=fun Told1 h=>PK<|rg<|H0 (w.a6.set n.Id.toNat n) Net1 w.d7 Told1<|fE h
def d2B(w:m4)(n:j7)(told:List n5)(Net1:List l9):((List n5)×Int)->KS:=fun (Told,v38)=>⟨U1.k 5 [false],(bs 4 (.ptr 1 0 0::(bs 3 (.ptr 3 0 0::(bs 27 (j8 5 x8 told::(vi (told.length:Int)::(vi v38::(bs 15 []))))))))),[some [m7 52 27 w9 (w.a6.set n.Id.toNat n),.dead,m7 68 3 A2 w.d7,.dead],some [.var 28 [.own 0 0 27 0 (w.a6.set n.Id.toNat n).length,.own 2 0 13 0 Net1.length,.own 0 2 3 0 w.d7.length,.own 4 0 5 0 Told.length]],some [m7 66 13 s6 Net1],some [.var 28 [.nil,.nil,.nil,.nil]],some [m7 62 5 x8 Told]]⟩
def e1H(w:m4)(n:j7)(told:List n5)(Net1:List l9)(v38:Int):(List n5)->KS:=fun Told2=>⟨U1.k 9 [false,true,true],(bs 4 (.ptr 1 0 0::(bs 3 (.ptr 4 0 0::(bs 27 (j8 5 x8 told::(vi (told.length:Int)::(vi v38::(bs 15 []))))))))),[some [m7 52 27 w9 (w.a6.set n.Id.toNat n),.dead,m7 68 3 A2 w.d7,.dead],some [.var 28 [.own 0 0 27 0 (w.a6.set n.Id.toNat n).length,.own 2 0 13 0 Net1.length,.own 0 2 3 0 w.d7.length,.own 3 0 5 0 Told2.length]],some [m7 66 13 s6 Net1],some [m7 62 5 x8 Told2],some [.var 28 [.nil,.nil,.nil,.nil]]]⟩
def b8X(v38:Int)(Told2:List n5):Option (l7 m4 ((List n5)×Int) (List n5)):=
 some (l7.nxt (Told2,m8 (v38+1)))
theorem d8e(w n told Net1 v38)(lc:F8 U1 (c2Q w n Net1) (d2B w n told Net1)):NL lc (e1H w n told Net1 v38) (fun s=>b8X v38 s):=fun Told2 h=>PK<|rg<|(lc.nx h fun hI=>sk [] [4,8,36,37,38] [(1,0),(2,0),(4,0),(3,0)] hI)
def a3U(told:List n5)(Told:List n5)(v38:Int):Option (l7 m4 ((List n5)×Int) (List n5)):=
 (bif decide (v38<(told.length:Int)) then ((idx told v38).bind fun a3D=>(((bif decide ((Told.length:Int)<60) then (t5 ((Told.length+1)*40<=140737488355328) (some (m5.brk (Told++[a3D])))) else some (m5.brk Told)):Option (m5 (l7 m4 ((List n5)×Int) (List n5)) (List n5))).bind fun x=>x.go some fun j=>b8X v38 j)) else some (l7.brk Told))
theorem e0d(w n told Net1):LQ U1 (c2Q w n Net1) (d2B w n told Net1) (fun s=>a3U told s.1 s.2):=fun lc (Told,v38) h=>PK<|rg<|j6 0 h (fun h=>rg<|u9 x8 0 h fun a3D f3m h=>A9 h (d8e w n told Net1 v38 lc) fun x2 h hc2=>rg<|j6 3 h (fun h=>rg<|tk 3 []<|u0 h fun e1 h=>F9 4 18 62 5 40 x8 Told a3D e1<|E8 a3D<|(p8 h hc2 fun hI=>sk [] [4,8,36,37,38] [(1,0),(2,0),(18,0),(3,0)] hI)) (fun h=>(p8 h hc2 fun hI=>sk [] [4,8,36,37,38] [(1,0),(2,0),(4,0),(3,0)] hI))) (fun h=>(lc.bk h fun hI=>sk [] [4,8] [(1,0),(2,0),(4,0),(3,0)] hI))
def c5P(w:m4)(n:j7)(told:List n5)(Net1:List l9):Option m4:=
 ((o9 (fun s:(List n5)×Int=>a3U told s.1 s.2) (w.Told,0)).bind fun x=>x.go (fun r=>some r) fun s=>c4I w n Net1 s)
theorem e9X(w n told)(r):NF U1 r (c1h w n told) (fun s=>c5P w n told s):=fun Net1 h=>PK<|rg<|lp (e0d w n told Net1) h (fun _ h=>U1.rt h) (e78 w n Net1 r) fun hI=>sk [] [4,8,36,37,38] [(1,0),(2,0),(3,0),(0,3)] hI
def c8q(w:m4)(n:j7)(list:List l9)(told:List n5):((List l9)×Int)->KS:=fun (b9,v21)=>⟨U1.k 3 [],(bs 3 (j8 5 x8 told::(.ptr 1 0 0::(bs 3 (.ptr 2 0 0::(bs 10 (j8 13 s6 list::(vi (list.length:Int)::(vi v21::(bs 32 [])))))))))),[some [m7 52 27 w9 (w.a6.set n.Id.toNat n),.dead,m7 68 3 A2 w.d7,m7 62 5 x8 w.Told],some [.var 28 [.own 0 0 27 0 (w.a6.set n.Id.toNat n).length,.own 3 0 13 0 b9.length,.own 0 2 3 0 w.d7.length,.own 0 3 5 0 w.Told.length]],some [.var 28 [.nil,.nil,.nil,.nil]],some [m7 66 13 s6 b9]]⟩
def e0r(w:m4)(n:j7)(list:List l9)(told:List n5)(v21:Int):(List l9)->KS:=fun Net2=>⟨U1.k 7 [true,true],(bs 3 (j8 5 x8 told::(.ptr 1 0 0::(bs 3 (.ptr 3 0 0::(bs 10 (j8 13 s6 list::(vi (list.length:Int)::(vi v21::(bs 32 [])))))))))),[some [m7 52 27 w9 (w.a6.set n.Id.toNat n),.dead,m7 68 3 A2 w.d7,m7 62 5 x8 w.Told],some [.var 28 [.own 0 0 27 0 (w.a6.set n.Id.toNat n).length,.own 2 0 13 0 Net2.length,.own 0 2 3 0 w.d7.length,.own 0 3 5 0 w.Told.length]],some [m7 66 13 s6 Net2],some [.var 28 [.nil,.nil,.nil,.nil]]]⟩
def b7h(v21:Int)(Net2:List l9):Option (l7 m4 ((List l9)×Int) (List l9)):=
 some (l7.nxt (Net2,m8 (v21+1)))
theorem e1h(w n list told v21)(lc:F8 U1 (c1h w n told) (c8q w n list told)):NL lc (e0r w n list told v21) (fun s=>b7h v21 s):=fun Net2 h=>PK<|rg<|(lc.nx h fun hI=>sk [] [3,4,8,19,20,21] [(1,0),(3,0),(2,0)] hI)
def a4l(list:List l9)(b9:List l9)(v21:Int):Option (l7 m4 ((List l9)×Int) (List l9)):=
 (bif decide (v21<(list.length:Int)) then ((idx list v21).bind fun msg=>(((bif decide ((b9.length:Int)<40) then (t5 ((b9.length+1)*152<=140737488355328) (some (m5.brk (b9++[msg])))) else some (m5.brk b9)):Option (m5 (l7 m4 ((List l9)×Int) (List l9)) (List l9))).bind fun x=>x.go some fun j=>b7h v21 j)) else some (l7.brk b9))
theorem f1u(w n list told):LQ U1 (c1h w n told) (c8q w n list told) (fun s=>a4l list s.1 s.2):=fun lc (b9,v21) h=>PK<|rg<|j6 0 h (fun h=>rg<|u9 s6 0 h fun msg hmsg h=>A9 h (e1h w n list told v21 lc) fun x2 h hc2=>rg<|j6 3 h (fun h=>rg<|tk 3 B9<|u0 h fun e2 h=>F9 4 17 66 13 152 s6 b9 msg e2<|E8 msg<|(p8 h hc2 fun hI=>sk [] [3,4,8,19,20,21] [(1,0),(17,0),(2,0)] hI)) (fun h=>(p8 h hc2 fun hI=>sk [] [3,4,8,19,20,21] [(1,0),(3,0),(2,0)] hI))) (fun h=>(lc.bk h fun hI=>sk [] [3,4,8] [(1,0),(3,0),(2,0)] hI))
def a4F(w:m4)(n:j7)(list:List l9)(told:List n5):Option m4:=
 ((idx w.a6 n.Id).bind fun node=>((o9 (fun s:(List l9)×Int=>a4l list s.1 s.2) (w.b9,0)).bind fun x=>x.go (fun r=>some r) fun s=>c5P w n told s))
theorem b06{w n list told}:OK U1 [.agg (a8z w),.agg (w9 n),j8 13 s6 list,j8 5 x8 told] (a4F w n list told):=
 o8 _ fun r h=>n7<|A7 h fun node hnode h=>B5 hnode<|Q6 52 27 w9 6 A8 n hnode<|rg<|lp (f1u w n list told) h (fun _ h=>U1.rt h) (e9X w n told r) fun hI=>om ((.own 0 0 27 0 w.a6.length:V)=.own 0 0 27 0 (w.a6.set n.Id.toNat n).length) (by simp)<|sk [.is (.cell 1 0 0) (.own 0 0 27 0 (w.a6.set n.Id.toNat n).length)] [3,4,8,19,20,21] [(1,0),(3,0),(0,1)] hI
def a8Z:FS (Int):=⟨150,Tryz.f150,[.val [] []],[none,none],[.val [] [],.val [] []],fun r=>vi r,fun _=>[none,none],Tryz.func150⟩
def d4b:Unit->KS:=fun _=>⟨a8Z.k 4 [false,false],(bs 28 []),[some []]⟩
def c9D:Option Int:=
 some (-1)
theorem f5n(r):NF a8Z r d4b (fun s=>c9D):=fun _ h=>PK<|rg<|fE h
def e8F(who:Int):Int->KS:=fun n=>⟨a8Z.k 3 [false],(bs 1 (vi who::(bs 3 (vi n::(bs 22 []))))),[some []]⟩
def a2v(who:Int)(n:Int):Option (l7 Int Int Unit):=
 (bif decide (n<=3000) then (bif decide (n>0) then ((b39 n).bind fun a6L=>(bif (a6L==who) then some (l7.ret n) else some (l7.nxt (m8 (n+1))))) else some (l7.brk ())) else some (l7.brk ()))
theorem e7R(who):LQ a8Z d4b (e8F who) (fun s=>a2v who s):=fun lc n h=>PK<|rg<|j6 2 h (fun h=>j6 5 h (fun h=>rg<|l8 c3W c7L 1 h fun a6L h=>j6 3 h (fun h=>rg<|fL lc h) (fun h=>rg<|(lc.nx h fun hI=>sk [] [1,5] [] hI))) (fun h=>(lc.bk h fun hI=>sk [] [] [] hI))) (fun h=>(lc.bk h fun hI=>sk [] [] [] hI))
def b7p(bal:Int)(who:Int):Option Int:=
 (bif decide (bal<0) then some (-1) else ((D8 who 0 2).bind fun in_=>(bif (!in_) then some (-1) else ((o9 (fun s:Int=>a2v who s) (m8 (bal+1))).bind fun x=>x.go (fun r=>some r) fun s=>c9D))))
theorem f5y{bal who}:OK a8Z [vi bal,vi who] (b7p bal who):=
 o8 _ fun r h=>n7<|j6 2 h (fun h=>rg<|fE h) (fun h=>l8 D2 E6 4 h fun in_ h=>j6 6 h (fun h=>rg<|fE h) (fun h=>rg<|lp (e7R who) h (fun _ h=>a8Z.rt h) (f5n r) fun hI=>sk [] [1,5] [] hI))
def b5a:FS (z4×Bool):=⟨152,Tryz.f152,[.val [none,some 8] [],.val [] []],[none,none],[.val [none,some 8] [],.val [] []],fun r=>.tup [.agg (Z1 r.1),.b r.2],fun _=>[none,none],Tryz.func152⟩
def b0X(a:z4)(bal:Int):Option (z4×Bool):=
 ((b07 a).bind fun P9=>(bif (!P9) then some ((z4.mk 0 []),false) else ((a4A a).bind fun Q8=>((D8 bal 1 3000).bind fun in_=>(bif (!in_) then some (Q8,false) else (bif decide (bal<a.i4) then some (Q8,false) else some ((z4.mk bal Q8.a7),true)))))))
theorem c47{a bal}:OK b5a [.agg (Z1 a),vi bal] (b0X a bal):=
 o8 _ fun r h=>n7<|l8 a5e c55 1 h fun P9 h=>j6 2 h (fun h=>rg<|fE h) (fun h=>rg<|l8 a78 a9H 1 h fun Q8 h=>rg<|l8 D2 E6 1 h fun in_ h=>j6 3 h (fun h=>rg<|s9 Q8.a7<|fE h) (fun h=>j6 8 h (fun h=>rg<|s9 Q8.a7<|fE h) (fun h=>n7<|s9 Q8.a7<|fE h)))
def b6o:FS (j7×List l9):=⟨97,Tryz.f97,[.val A8 [],.val [some 13] []],[none],[.val A8 []],fun r=>.tup [.agg (w9 r.1),j8 13 s6 r.2],fun _=>[none],Tryz.func97⟩
def f4r:p6->KS:=fun a=>⟨b6o.k 12 [false,true],(bs 2 (.ptr 1 0 0::(bs 1 (.ptr 2 0 0::(bs 74 []))))),[some [],some [.var 52 [vi 0,vi 0,.nil,.nil,vi 0,vi 0,vi 0,.nil,.nil,.b false,vi 0,vi 0,.nil,.nil,vi 0,vi 0,.nil,.b false,.nil,.b false,vi 0,vi 0,.nil,.nil,vi 0,vi 0,.nil]],some [.var 171 (b3z a)]]++a3e a⟩
def b35(a:p6):Option (j7×List l9):=
 ((a1X a).bind fun Y1=>some (Y1.1,Y1.2.1))
theorem e4j(r):NF b6o r f4r (fun s=>b35 s):=fun a h=>PK<|rg<|l8 a39 a4I 1 h fun Y1 h=>C9 a<|rg<|fE h
def b53(n:j7):Option (j7×List l9):=
 ((a4s n).bind fun D6=>(bif (!D6) then some ((j7.mk 0 (z4.mk 0 []) [] 0 0 0 [] [] (m6.mk false (o7.mk 0 0) (n6.mk [] [] 0 0)) [] false [] (m6.mk false (o7.mk 0 0) (n6.mk [] [] 0 0)) []),[]) else ((a7N n).bind fun begin=>((b7p n.Acc.i4 n.Id).bind fun a3B=>(((bif decide (a3B>=0) then ((b4I begin).bind fun follow=>((b0X follow.n.Acc a3B).bind fun V5=>((b1G (p6.mk (j7.mk follow.n.Id V5.1 follow.n.a5 follow.n.Seq 1 a3B follow.n.c9 follow.n.i5 follow.n.d6 follow.n.a7 follow.n.i9 follow.n.i7 follow.n.b7 follow.n.d9) follow.out follow.told)).bind fun F3=>((a3u (p6.mk (j7.mk F3.2.n.Id F3.2.n.Acc F3.2.n.a5 F3.2.n.Seq F3.2.n.d8 F3.2.n.a8 F3.1 F3.2.n.Acc.a7 F3.2.n.d6 F3.2.n.a7 F3.2.n.i9 F3.2.n.i7 F3.2.n.b7 F3.2.n.d9) F3.2.out F3.2.told) (l9.mk 1 0 0 a3B (n.a5.length:Int) (m6.mk false (o7.mk 0 0) (n6.mk [] [] 0 0)) [])).bind fun all=>some (m5.brk all))))) else some (m5.brk begin)):Option (m5 (j7×List l9) p6)).bind fun x=>x.go some fun j=>b35 j)))))
theorem f1U{n}:OK b6o [.agg (w9 n)] (b53 n):=
 o8 _ fun r h=>n7<|l8 a0H a8p 1 h fun D6 h=>j6 2 h (fun h=>rg<|fE h) (fun h=>rg<|l8 b10 b5e 1 h fun begin h=>rg<|l8 a8Z f5y 5 h fun a3B h=>A9 h (e4j r) fun x1 h hc1=>rg<|j6 1 h (fun h=>rg<|l8 b7S c41 1 h fun follow h=>J5 begin.n<|C7 begin.out begin.told<|rg<|l8 b5a c47 7 h fun V5 h=>N7<|l8 c4Z d4p 2 h fun F3 h=>C9 follow<|n7<|l8 a1q a6D 6 h fun all h=>H0 F3.2.n.a5 F3.1 F3.2.n.a7 F3.2.out<|s9 F3.2.told<|(p8 h hc1 fun hI=>sk [] [2,4] [(2,0),(8,0),(71,0),(71,1),(71,2),(71,3),(71,4)] hI)) (fun h=>(p8 h hc1 fun hI=>s9 begin.n.d9<|sk [.frz (.cell 8 0 26) (none)] [2,4] [(2,0),(8,0),(8,1),(8,2),(8,3),(8,5),(8,6)] hI)))
def b6R:FS (j7×(List l9)×List n5):=⟨98,Tryz.f98,[.val A8 [],.val [some 13] [],.val [some 5] []],[none],[.val A8 []],fun r=>.tup [.agg (w9 r.1),j8 13 s6 r.2.1,j8 5 x8 r.2.2],fun _=>[none],Tryz.func98⟩
def f2G:p6->KS:=fun a=>⟨b6R.k 7 [false,true],(bs 2 (.ptr 1 0 0::(bs 2 (.ptr 2 0 0::(bs 55 []))))),[some [],some [.var 52 [vi 0,vi 0,.nil,.nil,vi 0,vi 0,vi 0,.nil,.nil,.b false,vi 0,vi 0,.nil,.nil,vi 0,vi 0,.nil,.b false,.nil,.b false,vi 0,vi 0,.nil,.nil,vi 0,vi 0,.nil]],some [.var 171 (b3z a)]]++a3e a⟩
def b90(a:p6):Option (j7×(List l9)×List n5):=
 ((a1X a).bind fun Y1=>some (Y1.1,Y1.2.1,Y1.2.2.1))
theorem f2v(r):NF b6R r f2G (fun s=>b90 s):=fun a h=>PK<|rg<|l8 a39 a4I 1 h fun Y1 h=>C9 a<|fE h
def b7U(n:j7):Option (j7×(List l9)×List n5):=
 ((a4s n).bind fun D6=>(bif (!D6) then some ((j7.mk 0 (z4.mk 0 []) [] 0 0 0 [] [] (m6.mk false (o7.mk 0 0) (n6.mk [] [] 0 0)) [] false [] (m6.mk false (o7.mk 0 0) (n6.mk [] [] 0 0)) []),[],[]) else ((a7N n).bind fun begin=>((a3u begin (l9.mk 8 0 0 0 (n.a5.length:Int) (m6.mk false (o7.mk 0 0) (n6.mk [] [] 0 0)) [])).bind fun all=>(((bif (n.d8==1) then ((a3u all (l9.mk 1 0 0 n.a8 (n.a5.length:Int) (m6.mk false (o7.mk 0 0) (n6.mk [] [] 0 0)) [])).bind fun c6U=>some (m5.brk c6U)) else (bif (n.d8==2) then ((a6k all).bind fun Z4=>some (m5.brk Z4)) else (bif (n.d8==3) then ((a3u all (l9.mk 3 0 0 n.a8 (n.a5.length:Int) n.d6 [])).bind fun d4z=>some (m5.brk d4z)) else (bif n.i9 then ((a3u all (l9.mk 7 0 0 0 0 n.b7 [])).bind fun d6j=>some (m5.brk d6j)) else some (m5.brk all))))):Option (m5 (j7×(List l9)×List n5) p6)).bind fun x=>x.go some fun j=>b90 j)))))
theorem e7g{n}:OK b6R [.agg (w9 n)] (b7U n):=
 o8 _ fun r h=>n7<|l8 a0H a8p 1 h fun D6 h=>j6 2 h (fun h=>rg<|fE h) (fun h=>rg<|l8 b10 b5e 1 h fun begin h=>n7<|l8 a1q a6D 3 h fun all h=>J5 begin.n<|C7 begin.out begin.told<|A9 h (f2v r) fun x1 h hc1=>rg<|j6 3 h (fun h=>rg<|l8 a1q a6D 5 h fun c6U h=>C9 all<|(p8 h hc1 fun hI=>sk [] [2,5] [(2,0),(9,0),(28,0),(28,1),(28,2),(28,3),(28,4)] hI)) (fun h=>rg<|j6 3 h (fun h=>rg<|l8 a9P b3C 1 h fun Z4 h=>C9 all<|(p8 h hc1 fun hI=>sk [] [2,5] [(2,0),(9,0),(28,0),(28,1),(28,2),(28,3),(28,4)] hI)) (fun h=>rg<|j6 3 h (fun h=>rg<|l8 a1q a6D 7 h fun d4z h=>C9 all<|(p8 h hc1 fun hI=>sk [] [2,5] [(2,0),(9,0),(38,0),(38,1),(38,2),(38,3),(38,4)] hI)) (fun h=>rg<|j6 2 h (fun h=>rg<|l8 a1q a6D 4 h fun d6j h=>C9 all<|(p8 h hc1 fun hI=>sk [] [2,5] [(2,0),(9,0),(38,0),(38,1),(38,2),(38,3),(38,4)] hI)) (fun h=>(p8 h hc1 fun hI=>sk [] [2,5] [(2,0),(9,0),(18,0),(18,1),(18,2),(18,3),(18,4)] hI))))))
def d5o:FS (j7):=⟨99,Tryz.f99,[.val A8 []],[none],[.val A8 []],fun r=>.agg (w9 r),fun _=>[none],Tryz.func99⟩
def b8E(n:j7):Option j7:=
 ((a4s n).bind fun D6=>(bif (!D6) then some (j7.mk 0 (z4.mk 0 []) [] 0 0 0 [] [] (m6.mk false (o7.mk 0 0) (n6.mk [] [] 0 0)) [] false [] (m6.mk false (o7.mk 0 0) (n6.mk [] [] 0 0)) []) else ((a7X (j7.mk n.Id n.Acc n.a5 n.Seq 0 0 [] [] (m6.mk false (o7.mk 0 0) (n6.mk [] [] 0 0)) [] false [] (m6.mk false (o7.mk 0 0) (n6.mk [] [] 0 0)) [])).bind fun Y4=>some Y4)))
theorem d8x{n}:OK d5o [.agg (w9 n)] (b8E n):=
 o8 _ fun r h=>n7<|l8 a0H a8p 1 h fun D6 h=>j6 2 h (fun h=>rg<|fE h) (fun h=>rg<|l8 b3c b56 9 h fun Y4 h=>J5 Y4<|fE h)
def a8K:FS (m4):=⟨44,Tryz.f44,[.val D4 om2],[none,none],[.val D4 om2,.val [none,none,some 4] []],fun r=>.agg (a8z r),fun _=>[none,none],Tryz.func44⟩
def e2D:m4->KS:=fun w1=>⟨a8K.k 9 [true,false,true],(bs 2 (.ptr 1 0 0::(bs 1 (.ptr 6 0 0::(bs 86 []))))),[some [.dead,.dead,.dead,.dead],some [.var 28 [.own 2 0 27 0 w1.a6.length,.own 3 0 13 0 w1.b9.length,.own 4 0 3 0 w1.d7.length,.own 5 0 5 0 w1.Told.length]],some [m7 52 27 w9 w1.a6],some [m7 66 13 s6 w1.b9],some [m7 68 3 A2 w1.d7],some [m7 62 5 x8 w1.Told],some [.var 28 [.nil,.nil,.nil,.nil]]]⟩
def b8b(w1:m4):Option m4:=
 some w1
theorem d9C(r):NF a8K r e2D (fun s=>b8b s):=fun w1 h=>PK<|rg<|B0 w1<|fE h
def a6l(w:m4)(e_:q9):Option m4:=
 ((idx w.a6 e_.A).bind fun node=>(((bif (e_.a9==1) then (bif decide ((w.d7.length:Int)>=60) then some (m5.ret w) else ((b5i node e_.i7).bind fun I4=>((a4F w I4.1 I4.2.1 I4.2.2).bind fun a27=>(bif (I4.1.Seq != node.Seq) then (t5 ((a27.d7.length+1)*40<=140737488355328) (some (m5.brk (m4.mk a27.a6 a27.b9 (a27.d7++[(x6.mk (o7.mk node.Id I4.1.Seq) e_.i7)]) a27.Told)))) else some (m5.brk a27))))) else (bif (e_.a9==5) then ((b53 node).bind fun a01=>((a4F w a01.1 a01.2 []).bind fun b1A=>some (m5.brk b1A))) else (bif (e_.a9==6) then ((b7U node).bind fun Y8=>((a4F w Y8.1 Y8.2.1 Y8.2.2).bind fun c6T=>some (m5.brk c6T))) else (bif (e_.a9==7) then ((b8E node).bind fun a2c=>((a4F w a2c [] []).bind fun d0d=>some (m5.brk d0d))) else some (m5.brk w))))):Option (m5 m4 m4)).bind fun x=>x.go some fun j=>b8b j))
theorem b6n{w e_}:OK a8K [.agg (a8z w),.agg (H2 e_)] (a6l w e_):=
 o8 _ fun r h=>n7<|A7 h fun node hnode h=>B5 hnode<|H9 w9 5 hnode<|rg<|A9 h (d9C r) fun x1 h hc1=>rg<|j6 1 h (fun h=>rg<|j6 3 h (fun h=>rg<|(B8 h hc1 fun h=>B0 w<|fE h)) (fun h=>rg<|l8 b7V e7H 3 h fun I4 h=>rg<|l8 U1 b06 4 h fun a27 h=>B0 w<|rg<|j6 4 h (fun h=>rg<|tk 10 [none,none,some 4]<|u0 h fun e1 h=>F9 11 54 68 3 40 A2 a27.d7 (x6.mk (o7.mk node.Id I4.1.Seq) e_.i7) e1<|E8 (x6.mk (o7.mk node.Id I4.1.Seq) e_.i7)<|(p8 h hc1 fun hI=>sk [] [2,4] [(1,0),(36,0),(36,1),(54,0),(36,3),(3,0)] hI)) (fun h=>(p8 h hc1 fun hI=>sk [] [2,4] [(1,0),(36,0),(36,1),(36,2),(36,3),(3,0)] hI)))) (fun h=>rg<|j6 1 h (fun h=>rg<|l8 b6o f1U 1 h fun a01 h=>rg<|l8 U1 b06 3 h fun b1A h=>B0 w<|(p8 h hc1 fun hI=>sk [] [2,4] [(1,0),(29,0),(29,1),(29,2),(29,3),(3,0)] hI)) (fun h=>rg<|j6 1 h (fun h=>rg<|l8 b6R e7g 1 h fun Y8 h=>rg<|l8 U1 b06 4 h fun c6T h=>B0 w<|(p8 h hc1 fun hI=>sk [] [2,4] [(1,0),(34,0),(34,1),(34,2),(34,3),(3,0)] hI)) (fun h=>rg<|j6 1 h (fun h=>rg<|l8 d5o d8x 2 h fun a2c h=>l8 U1 b06 3 h fun d0d h=>B0 w<|(p8 h hc1 fun hI=>sk [] [2,4] [(1,0),(25,0),(25,1),(25,2),(25,3),(3,0)] hI)) (fun h=>(p8 h hc1 fun hI=>sk [] [2,4] [(1,0),(0,0),(0,1),(0,2),(0,3),(3,0)] hI)))))
def c3R:FS (List l9):=⟨100,Tryz.f100,[.val [some 13] [some 66]],[none,none],[.val [some 13] [],.val [] []],fun r=>v5 66 13 s6 r,fun _=>[none,none],Tryz.func100⟩
def b4E(list:List l9)(at_:Int):Option (List l9):=
 (t5 ((0:Int)<=at_/\at_<=(list.length:Int)) ((t5 ((([]:List l9).length+((list.drop 0).take (at_.toNat-0)).length)*152<=140737488355328) ((t5 ((0:Int)<=m8 (at_+1)/\m8 (at_+1)<=(list.length:Int)) ((t5 (((([]:List l9)++((list.drop 0).take (at_.toNat-0))).length+((list.drop (m8 (at_+1)).toNat).take (list.length-(m8 (at_+1)).toNat)).length)*152<=140737488355328) (some ((([]:List l9)++((list.drop 0).take (at_.toNat-0)))++((list.drop (m8 (at_+1)).toNat).take (list.length-(m8 (at_+1)).toNat)))))))))))
theorem c9B{list at_}:OK c3R [j8 13 s6 list,vi at_] (b4E list at_):=
 o8 _ fun r h=>n7<|tk 0 B9<|u0 h fun e1 h=>om (V.sl 13 (at_.toNat-0) (((list.map s6).drop 0).take (at_.toNat-0))=j8 13 s6 ((list.drop 0).take (at_.toNat-0))) (b8p e1)<|ob e1.1<|ob e1.2<|tl (3,{v:=some (j8 13 s6 ((list.drop 0).take (at_.toNat-0)))})<|u0 h fun e2 h=>om (V.own 6 0 13 0 (([]:List l9).length+((list.drop 0).take (at_.toNat-0)).length)=.own 6 0 13 0 (([]:List l9)++((list.drop 0).take (at_.toNat-0))).length) (by first|exact congrArg (V.own 6 0 13 0) f6l.symm|simp)<|om (s8.row 66 13 (([]:List l9).length+((list.drop 0).take (at_.toNat-0)).length) (([]:List l9).map s6++((list.drop 0).take (at_.toNat-0)).map s6)=m7 66 13 s6 (([]:List l9)++((list.drop 0).take (at_.toNat-0)))) (by first|exact c3T rfl rfl|simp [m7])<|C1 l9<|ob e2<|tl (4,{v:=some (.own 6 0 13 0 (([]:List l9)++((list.drop 0).take (at_.toNat-0))).length),e:=some (m7 66 13 s6 (([]:List l9)++((list.drop 0).take (at_.toNat-0))))})<|u0 h fun e3 h=>om (V.sl 13 (list.length-(m8 (at_+1)).toNat) (((list.map s6).drop (m8 (at_+1)).toNat).take (list.length-(m8 (at_+1)).toNat))=j8 13 s6 ((list.drop (m8 (at_+1)).toNat).take (list.length-(m8 (at_+1)).toNat))) (b1C e3)<|ob e3.1<|ob e3.2<|tl (8,{v:=some (j8 13 s6 ((list.drop (m8 (at_+1)).toNat).take (list.length-(m8 (at_+1)).toNat)))})<|u0 h fun e4 h=>apL 9 11 66 13 152 s6 (([]:List l9)++((list.drop 0).take (at_.toNat-0))) ((list.drop (m8 (at_+1)).toNat).take (list.length-(m8 (at_+1)).toNat)) e4<|s9 ((([]:List l9)++((list.drop 0).take (at_.toNat-0)))++((list.drop (m8 (at_+1)).toNat).take (list.length-(m8 (at_+1)).toNat)))<|fE h
def b7b:FS (p6):=⟨159,Tryz.f159,[],[some (0,.ptr I7 M3),none],[.ptr I7 M3,.val [] []],fun _=>.tup [],fun r=>[some (.optr 171 (L8 r)),none],Tryz.func159⟩
def b0v(a:p6)(bal:Int):Option p6:=
 (bif (a.n.d8 != 0) then (bif decide (bal>a.n.a8) then ((b4I a).bind fun follow=>some follow) else some a) else some a)
theorem c29{a bal}:OK b7b [.optr 171 (L8 a),vi bal] (b0v a bal):=
 o8 _ fun r h=>rg<|j6 6 h (fun h=>j6 14 h (fun h=>rg<|l8 b7S c41 1 h fun follow h=>C9 a<|C9 follow<|fE h) (fun h=>C9 a<|fE h)) (fun h=>C9 a<|fE h)
def b9A:FS (p6):=⟨154,Tryz.f154,[],[some (0,.ptr I7 M3),none],[.ptr I7 M3,.val B9 []],fun _=>.tup [],fun r=>[some (.optr 171 (L8 r)),none],Tryz.func154⟩
def d7X(m:l9)(yield:p6):(List m9)->KS:=fun b6y=>⟨b9A.k 8 [false,true],(.ptr 0 0 0::(bs 2 (.ptr 6 0 0::(bs 2 (j8 8 p9 b6y::(bs 54 [])))))),[some [.var 171 (b37 yield),.dead,.dead,.dead,.dead,.dead]]++a3e yield++[some [.var 66 (a5h m)]]⟩
def b4W(m:l9)(yield:p6)(b6y:List m9):Option p6:=
 ((a4v yield m.c9 (l9.mk 2 0 0 m.a8 m.g8 (m6.mk false (o7.mk 0 0) (n6.mk [] [] 0 0)) b6y)).bind fun a74=>some a74)
theorem e5w(m yield)(r):NF b9A r (d7X m yield) (fun s=>b4W m yield s):=fun b6y h=>PK<|rg<|l8 a5L a8x 9 h fun a74 h=>C9 yield<|C9 a74<|fE h
def b7n(a:p6)(m:l9):Option p6:=
 ((b0X a.n.Acc m.a8).bind fun V5=>(bif (!V5.2) then ((a4v a m.c9 (l9.mk 6 0 0 a.n.Acc.i4 0 (m6.mk false (o7.mk 0 0) (n6.mk [] [] 0 0)) [])).bind fun Z3=>some Z3) else ((b0v (p6.mk (j7.mk a.n.Id V5.1 a.n.a5 a.n.Seq a.n.d8 a.n.a8 a.n.c9 a.n.i5 a.n.d6 a.n.a7 a.n.i9 a.n.i7 a.n.b7 a.n.d9) a.out a.told) m.a8).bind fun yield=>(((bif decide (m.g8<(V5.1.a7.length:Int)) then (t5 ((0:Int)<=m.g8/\m.g8<=(V5.1.a7.length:Int)) (some (m5.brk ((V5.1.a7.drop m.g8.toNat).take (V5.1.a7.length-m.g8.toNat))))) else some (m5.brk [])):Option (m5 p6 (List m9))).bind fun x=>x.go some fun j=>b4W m yield j))))
theorem e1Z{a m}:OK b9A [.optr 171 (L8 a),.agg (s6 m)] (b7n a m):=
 o8 _ fun r h=>n7<|l8 b5a c47 7 h fun V5 h=>rg<|j6 1 h (fun h=>rg<|l8 a5L a8x 10 h fun Z3 h=>C9 a<|C9 Z3<|fE h) (fun h=>n7<|l8 b7b c29 3 h fun yield h=>C9 a<|rg<|A9 h (e5w m yield r) fun x1 h hc1=>rg<|j6 5 h (fun h=>rg<|u0 h fun e1 h=>om (V.sl 8 (V5.1.a7.length-m.g8.toNat) (((V5.1.a7.map p9).drop m.g8.toNat).take (V5.1.a7.length-m.g8.toNat))=j8 8 p9 ((V5.1.a7.drop m.g8.toNat).take (V5.1.a7.length-m.g8.toNat))) (b1C e1)<|ob e1.1<|ob e1.2<|tl (4,{v:=some (j8 8 p9 ((V5.1.a7.drop m.g8.toNat).take (V5.1.a7.length-m.g8.toNat)))})<|(p8 h hc1 fun hI=>sk [] [0,3,6] [(27,0),(27,1),(27,2),(27,3),(27,4),(1,0)] hI)) (fun h=>(p8 h hc1 fun hI=>sk [.frz (.tmp 6) (some 8)] [0,3,6] [(27,0),(27,1),(27,2),(27,3),(27,4),(1,0)] hI)))
def a3v:FS (List m9):=⟨194,Tryz.f194,[.val [some 8] []],[none,none],[.val [some 8] [],.val [some 8] []],fun r=>j8 8 p9 r,fun _=>[none,none],Tryz.func194⟩
def b72:(List m9)->KS:=fun out1=>⟨a3v.k 5 [false,false],(bs 5 (.own 1 0 8 0 out1.length::(bs 67 []))),[some [],some [m7 108 8 p9 out1]]⟩
def c2d(out1:List m9):Option (List m9):=
 ((a7O out1).bind fun a02=>some a02)
theorem d8T(r):NF a3v r b72 (fun s=>c2d s):=fun out1 h=>PK<|rg<|l8 a4k b9D 1 h fun a02 h=>C7 out1 a02<|fE h
def c1q(a:List m9)(b:List m9):((List m9)×Int)->KS:=fun (out,i)=>⟨a3v.k 4 [false],(j8 8 p9 a::(j8 8 p9 b::(bs 3 (.own 1 0 8 0 out.length::(vi i::(bs 66 [])))))),[some [],some [m7 108 8 p9 out]]⟩
def e63(a:List m9)(b:List m9)(out:List m9)(i:Int):Unit->KS:=fun _=>⟨a3v.k 5 [false,true],(j8 8 p9 a::(j8 8 p9 b::(bs 3 (.own 1 0 8 0 out.length::(vi i::(bs 66 [])))))),[some [],some [m7 108 8 p9 out]]⟩
def d99(a:List m9)(b:List m9)(i:Int):(List m9)->KS:=fun out2=>⟨a3v.k 7 [false,true,true],(j8 8 p9 a::(j8 8 p9 b::(bs 3 (.own 1 0 8 0 out2.length::(vi i::(bs 66 [])))))),[some [],some [m7 108 8 p9 out2]]⟩
def c3U(i:Int)(out2:List m9):Option (l7 (List m9) ((List m9)×Int) (List m9)):=
 some (l7.nxt (out2,m8 (i+1)))
theorem e6i(a b i)(lc:F8 a3v b72 (c1q a b)):NL lc (d99 a b i) (fun s=>c3U i s):=fun out2 h=>PK<|rg<|(lc.nx h fun hI=>sk [] [0,1,5,6] [(1,0)] hI)
def b5O(a:List m9)(b:List m9)(out:List m9)(i:Int):Option (l7 (List m9) ((List m9)×Int) (List m9)):=
 (((bif decide (i>=(a.length:Int)) then ((idx b i).bind fun vote=>(t5 ((out.length+1)*96<=140737488355328) (some (m5.brk (out++[vote]))))) else (bif decide (i>=(b.length:Int)) then ((idx a i).bind fun O4=>(t5 ((out.length+1)*96<=140737488355328) (some (m5.brk (out++[O4]))))) else ((idx a i).bind fun b38=>((idx b i).bind fun b31=>(bif decide (b38.a8>=b31.a8) then (t5 ((out.length+1)*96<=140737488355328) (some (m5.brk (out++[b38])))) else (t5 ((out.length+1)*96<=140737488355328) (some (m5.brk (out++[b31]))))))))):Option (m5 (l7 (List m9) ((List m9)×Int) (List m9)) (List m9))).bind fun x=>x.go some fun j=>c3U i j)
theorem f3f(a b out i)(lc:F8 a3v b72 (c1q a b)):NL lc (e63 a b out i) (fun s=>b5O a b out i):=fun _ h=>PK<|A9 h (e6i a b i lc) fun x2 h hc2=>rg<|j6 4 h (fun h=>rg<|u9 p9 3 h fun vote J3 h=>tk 5 V3<|u0 h fun e1 h=>F9 6 13 108 8 96 p9 out vote e1<|E8 vote<|(p8 h hc2 fun hI=>sk [] [0,1,5,6] [(13,0)] hI)) (fun h=>rg<|j6 4 h (fun h=>rg<|u9 p9 3 h fun O4 a2j h=>tk 5 V3<|u0 h fun e2 h=>F9 6 31 108 8 96 p9 out O4 e2<|E8 O4<|(p8 h hc2 fun hI=>sk [] [0,1,5,6] [(31,0)] hI)) (fun h=>u9 p9 7 h fun b38 f2Z h=>u9 p9 12 h fun b31 e4d h=>j6 17 h (fun h=>rg<|I8 p9 3 f2Z<|tk 5 V3<|u0 h fun e3 h=>F9 6 31 108 8 96 p9 out b38 e3<|E8 b38<|(p8 h hc2 fun hI=>sk [] [0,1,5,6] [(31,0)] hI)) (fun h=>rg<|I8 p9 3 e4d<|tk 5 V3<|u0 h fun e4 h=>F9 6 31 108 8 96 p9 out b31 e4<|E8 b31<|(p8 h hc2 fun hI=>sk [] [0,1,5,6] [(31,0)] hI))))
def a51(a:List m9)(b:List m9)(out:List m9)(i:Int):Option (l7 (List m9) ((List m9)×Int) (List m9)):=
 (((bif decide (i<(a.length:Int)) then some (m5.brk ()) else (bif decide (i<(b.length:Int)) then some (m5.brk ()) else some (m5.ret (l7.brk out)))):Option (m5 (l7 (List m9) ((List m9)×Int) (List m9)) Unit)).bind fun x=>x.go some fun j=>b5O a b out i)
theorem f2S(a b):LQ a3v b72 (c1q a b) (fun s=>a51 a b s.1 s.2):=fun lc (out,i) h=>PK<|A9 h (f3f a b out i lc) fun x2 h hc2=>rg<|j6 4 h (fun h=>(p8 h hc2 fun hI=>sk [] [0,1,5,6] [(1,0)] hI)) (fun h=>j6 9 h (fun h=>(p8 h hc2 fun hI=>sk [] [0,1,5,6] [(1,0)] hI)) (fun h=>(B8 h hc2 fun h=>(lc.bk h fun hI=>sk [] [5] [(1,0)] hI))))
def b4S(a:List m9)(b:List m9):Option (List m9):=
 ((a5D a).bind fun M6=>(bif (!M6) then some [] else ((a5D b).bind fun c9V=>(bif (!c9V) then some [] else ((o9 (fun s:(List m9)×Int=>a51 a b s.1 s.2) ([],0)).bind fun x=>x.go (fun r=>some r) fun s=>c2d s)))))
theorem e9y{a b}:OK a3v [j8 8 p9 a,j8 8 p9 b] (b4S a b):=
 o8 _ fun r h=>n7<|l8 a2Q b2X 1 h fun M6 h=>j6 3 h (fun h=>rg<|fE h) (fun h=>l8 a2Q b2X 5 h fun c9V h=>j6 7 h (fun h=>rg<|fE h) (fun h=>n7<|lp (f2S a b) h (fun _ h=>a3v.rt h) (d8T r) fun hI=>sk [.own (.tmp 5) 108 8] [0,1,5,6] [(12,0)] hI))
def a3T:FS (Int):=⟨195,Tryz.f195,[.val [] []],[none],[.val [some 1] []],fun r=>vi r,fun _=>[none],Tryz.func195⟩
def c42:Int->KS:=fun n1=>⟨a3T.k 4 [false],(bs 3 (vi n1::(bs 13 []))),[some []]⟩
def d7g(n1:Int):Option Int:=
 some n1
theorem e5G(r):NF a3T r c42 (fun s=>d7g s):=fun n1 h=>PK<|rg<|fE h
def c88(list:List Bool):(Int×Int)->KS:=fun (n,v8)=>⟨a3T.k 3 [],(bs 3 (vi n::(bs 2 (j8 1 eB list::(vi (list.length:Int)::(vi v8::(bs 8 []))))))),[some []]⟩
def e9b(list:List Bool)(v8:Int):Int->KS:=fun n2=>⟨a3T.k 7 [true,true],(bs 3 (vi n2::(bs 2 (j8 1 eB list::(vi (list.length:Int)::(vi v8::(bs 8 []))))))),[some []]⟩
def c0X(v8:Int)(n2:Int):Option (l7 Int (Int×Int) Int):=
 some (l7.nxt (n2,m8 (v8+1)))
theorem e6l(list v8)(lc:F8 a3T c42 (c88 list)):NL lc (e9b list v8) (fun s=>c0X v8 s):=fun n2 h=>PK<|rg<|(lc.nx h fun hI=>sk [] [3,6,7,8] [] hI)
def a5a(list:List Bool)(n:Int)(v8:Int):Option (l7 Int (Int×Int) Int):=
 (bif decide (v8<(list.length:Int)) then ((idx list v8).bind fun y=>(((bif y then some (m5.brk (m8 (n+1))) else some (m5.brk n)):Option (m5 (l7 Int (Int×Int) Int) Int)).bind fun x=>x.go some fun j=>c0X v8 j)) else some (l7.brk n))
theorem e3C(list):LQ a3T c42 (c88 list) (fun s=>a5a list s.1 s.2):=fun lc (n,v8) h=>PK<|rg<|j6 0 h (fun h=>rg<|u9 eB 0 h fun y hy h=>A9 h (e6l list v8 lc) fun x2 h hc2=>rg<|j6 0 h (fun h=>rg<|(p8 h hc2 fun hI=>sk [] [3,6,7,8] [] hI)) (fun h=>(p8 h hc2 fun hI=>sk [] [3,6,7,8] [] hI))) (fun h=>(lc.bk h fun hI=>sk [] [3] [] hI))
def b3V(list:List Bool):Option Int:=
 ((o9 (fun s:Int×Int=>a5a list s.1 s.2) (0,0)).bind fun x=>x.go (fun r=>some r) fun s=>d7g s)
theorem d5L{list}:OK a3T [j8 1 eB list] (b3V list):=
 o8 _ fun r h=>N7<|lp (e3C list) h (fun _ h=>a3T.rt h) (e5G r) fun hI=>sk [] [3,6,7,8] [] hI
def d59:FS (p6):=⟨155,Tryz.f155,[],[some (0,.ptr I7 M3),none],[.ptr I7 M3,.val B9 []],fun _=>.tup [],fun r=>[some (.optr 171 (L8 r)),none],Tryz.func155⟩
def b8k(a:p6)(m:l9):Option p6:=
 (bif (a.n.d8 != 1) then some a else (bif (m.a8 != a.n.a8) then some a else ((idx a.n.c9 m.c9).bind fun y=>(t5 (0<=m.g8/\m.g8*96<=140737488355328) ((t5 (((f6a m.g8.toNat (m9.mk 0 (m6.mk false (o7.mk 0 0) (n6.mk [] [] 0 0)))).length+m.a7.length)*96<=140737488355328) (((b4S a.n.i5 ((f6a m.g8.toNat (m9.mk 0 (m6.mk false (o7.mk 0 0) (n6.mk [] [] 0 0))))++m.a7)).bind fun c27=>((b3V (a.n.c9.set m.c9.toNat true)).bind fun b3p=>(bif decide (b3p>=2) then ((a6k (p6.mk (j7.mk a.n.Id a.n.Acc a.n.a5 a.n.Seq 2 a.n.a8 [] c27 a.n.d6 a.n.a7 a.n.i9 a.n.i7 a.n.b7 a.n.d9) a.out a.told)).bind fun Z4=>some Z4) else some (p6.mk (j7.mk a.n.Id a.n.Acc a.n.a5 a.n.Seq a.n.d8 a.n.a8 (a.n.c9.set m.c9.toNat true) c27 a.n.d6 a.n.a7 a.n.i9 a.n.i7 a.n.b7 a.n.d9) a.out a.told)))))))))))
theorem e4J{a m}:OK d59 [.optr 171 (L8 a),.agg (s6 m)] (b8k a m):=
 o8 _ fun r h=>n7<|j6 6 h (fun h=>C9 a<|fE h) (fun h=>j6 15 h (fun h=>C9 a<|fE h) (fun h=>rg<|A7 h fun y hy h=>B5 hy<|Q6 4 1 eB 8 [] true hy<|rg<|u0 h fun e1 h=>T3 8 35 108 8 96 p9 (m9.mk 0 (m6.mk false (o7.mk 0 0) (n6.mk [] [] 0 0))) b4A (.ck V3) e1 (by decide) (by rfl)<|u0 h fun e2 h=>apL 11 38 108 8 96 p9 (f6a m.g8.toNat (m9.mk 0 (m6.mk false (o7.mk 0 0) (n6.mk [] [] 0 0)))) m.a7 e2<|l8 a3v e9y 12 h fun c27 h=>s9 ((f6a m.g8.toNat (m9.mk 0 (m6.mk false (o7.mk 0 0) (n6.mk [] [] 0 0))))++m.a7)<|rg<|R8 a3T d5L 5 1 h fun b3p h=>om (a.n.c9.length=(a.n.c9.set m.c9.toNat true).length) (by simp)<|j6 6 h (fun h=>N7<|l8 a9P b3C 1 h fun Z4 h=>H0 a.n.a5 a.n.a7 a.out a.told<|C9 Z4<|fE h) (fun h=>s9 a.n.a5<|om (a.n.c9.length=(a.n.c9.set m.c9.toNat true).length) (by simp)<|X8 a.n.a7 a.out a.told<|fE h)))
def c8m:FS (p6):=⟨156,Tryz.f156,[],[some (0,.ptr I7 M3),none],[.ptr I7 M3,.val B9 []],fun _=>.tup [],fun r=>[some (.optr 171 (L8 r)),none],Tryz.func156⟩
def b9K(a:p6)(m:l9):Option p6:=
 ((b1I a.n.Acc m.a8 m.g8 m.i0).bind fun a75=>(bif (!a75.2) then ((a4v a m.c9 (l9.mk 6 0 0 a.n.Acc.i4 0 (m6.mk false (o7.mk 0 0) (n6.mk [] [] 0 0)) [])).bind fun Z3=>some Z3) else ((b0v (p6.mk (j7.mk a.n.Id a75.1 a.n.a5 a.n.Seq a.n.d8 a.n.a8 a.n.c9 a.n.i5 a.n.d6 a.n.a7 a.n.i9 a.n.i7 a.n.b7 a.n.d9) a.out a.told) m.a8).bind fun yield=>((a4v yield m.c9 (l9.mk 4 0 0 m.a8 m.g8 (m6.mk false (o7.mk 0 0) (n6.mk [] [] 0 0)) [])).bind fun a74=>some a74))))
theorem d9A{a m}:OK c8m [.optr 171 (L8 a),.agg (s6 m)] (b9K a m):=
 o8 _ fun r h=>n7<|l8 a5B d2Q 11 h fun a75 h=>rg<|j6 1 h (fun h=>rg<|l8 a5L a8x 10 h fun Z3 h=>C9 a<|C9 Z3<|fE h) (fun h=>n7<|l8 b7b c29 3 h fun yield h=>C9 a<|rg<|l8 a5L a8x 8 h fun a74 h=>C9 yield<|C9 a74<|fE h)
def a2H:FS (p6):=⟨196,Tryz.f196,[],[some (0,.ptr I7 M3),none],[.ptr I7 M3,.val K4 []],fun _=>.tup [],fun r=>[some (.optr 171 (L8 r)),none],Tryz.func196⟩
def f4R:p6->KS:=fun a1=>⟨a2H.k 6 [true],(.ptr 0 0 0::(bs 123 [])),[some ([.var 171 (d2P a1),.dead,m7 4 1 eB a1.n.c9,.dead]++d6v a1)]++c8A a1⟩
def d65:p6->KS:=fun a2=>⟨a2H.k 16 [true,true,true],(.ptr 0 0 0::(bs 123 [])),[some [.var 171 (f4J a2),.dead,m7 4 1 eB a2.n.c9,.dead,m7 66 13 s6 a2.out,.dead]]++d8r a2⟩
def b7E(a2:p6):Option p6:=
 ((a6k a2).bind fun Z4=>some Z4)
theorem e0z(r):NF a2H r d65 (fun s=>b7E s):=fun a2 h=>PK<|rg<|l8 a9P b3C 1 h fun Z4 h=>C9 a2<|C9 Z4<|fE h
def d7m(a1:p6)(y:Int):Int->KS:=fun a9x=>⟨a2H.k 12 [true,true,true],(.ptr 0 0 0::(bs 6 (.ptr 3 0 0::(bs 116 [])))),[some ([.var 171 (d2P a1),.dead,m7 4 1 eB a1.n.c9,.dead]++d6v a1)]++c8A a1++[some [.var 62 [vi a1.n.Id,vi a1.n.b7.a0.c8,vi a1.n.b7.a0.Seq,vi y,vi a9x]]]⟩
def b5D(a1:p6)(y:Int)(a9x:Int):Option (m5 p6 p6):=
 (t5 ((a1.told.length+1)*40<=140737488355328) (some (m5.brk (p6.mk (j7.mk a1.n.Id a1.n.Acc a1.n.a5 a1.n.Seq a1.n.d8 a1.n.a8 a1.n.c9 a1.n.i5 a1.n.d6 a1.n.a7 false [] (m6.mk false (o7.mk 0 0) (n6.mk [] [] 0 0)) a1.n.d9) a1.out (a1.told++[(n5.mk a1.n.Id a1.n.b7.a0 y a9x)])))))
theorem e5S(a1 y)(r){x1}(hc1:JC (fun j=>FK cx a2H.X (a2H.R r) (a2H.O r) (d65 j)) r x1):NG a2H r (d7m a1 y) (fun s=>b5D a1 y s) x1:=fun a9x h=>PK<|rg<|tk 6 []<|u0 h fun e2 h=>F9 7 11 62 5 40 x8 a1.told (n5.mk a1.n.Id a1.n.b7.a0 y a9x) e2<|E8 (n5.mk a1.n.Id a1.n.b7.a0 y a9x)<|N7<|(p8 h hc1 fun hI=>sk [.frz (.cell 0 0 18) (some 4),.frz (.cell 0 0 22) (some 2),.frz (.cell 0 0 23) (some 2)] [0] [(1,0),(2,0),(11,0)] hI)
def b43(a1:p6):Option p6:=
 ((a6P a1.n.a5 a1.n.b7.a0).bind fun first=>(((bif a1.n.i9 then (bif decide (first>=0) then ((a8C a1.n.a5).bind fun s5=>((idx s5.2 first).bind fun y=>(((bif (y==0) then ((idx a1.n.a5 first).bind fun entry=>some (m5.brk entry.b8.g7)) else some (m5.brk 0)):Option (m5 (m5 p6 p6) Int)).bind fun x=>x.go some fun j=>b5D a1 y j))) else some (m5.brk a1)) else some (m5.brk a1)):Option (m5 p6 p6)).bind fun x=>x.go some fun j=>b7E j))
theorem e4Y(r):NF a2H r f4R (fun s=>b43 s):=fun a1 h=>PK<|rg<|R8 a1A b2h 11 2 h fun first h=>s9 a1.n.a5<|A9 h (e0z r) fun x1 h hc1=>rg<|j6 5 h (fun h=>j6 8 h (fun h=>rg<|cbS a3x b7B 5 (fun _=>(by simp [a3x,K6,S8,P3,V.simple,vi,v5,b4K,z7,B7,eI,J0,a86])) (fun _=>(Q1 1)) h fun s5 h=>s9 a1.n.a5<|rg<|A7 h fun y hy h=>B5 hy<|H9 eI 14 hy<|A9 h (e5S a1 y r hc1) fun x2 h hc2=>rg<|j6 2 h (fun h=>rg<|A7 h fun entry G9 h=>B5 G9<|H9 t6 9 G9<|(p8 h hc2 fun hI=>sk [] [0,7] [(1,0),(2,0),(53,0)] hI)) (fun h=>(p8 h hc2 fun hI=>sk [] [0,7] [(1,0),(2,0),(53,0)] hI))) (fun h=>(p8 h hc1 fun hI=>sk [] [0] [(1,0),(2,0),(0,5)] hI))) (fun h=>(p8 h hc1 fun hI=>sk [] [0] [(1,0),(2,0),(0,5)] hI))
def b2Q(a:p6)(e_:m6):Option p6:=
 (t5 ((a.n.a5.length+1)*88<=140737488355328) ((((bif (a.n.d8==3) then some (m5.brk (p6.mk (j7.mk a.n.Id a.n.Acc (a.n.a5++[e_]) a.n.Seq 2 a.n.a8 a.n.c9 a.n.i5 (m6.mk false (o7.mk 0 0) (n6.mk [] [] 0 0)) [] a.n.i9 a.n.i7 a.n.b7 a.n.d9) a.out a.told)) else some (m5.brk (p6.mk (j7.mk a.n.Id a.n.Acc (a.n.a5++[e_]) a.n.Seq a.n.d8 a.n.a8 a.n.c9 a.n.i5 a.n.d6 a.n.a7 a.n.i9 a.n.i7 a.n.b7 a.n.d9) a.out a.told))):Option (m5 p6 p6)).bind fun x=>x.go some fun j=>b43 j)))
theorem d0F{a e_}:OK a2H [.optr 171 (L8 a),.agg (t6 e_)] (b2Q a e_):=
 o8 _ fun r h=>n7<|tk 7 K4<|u0 h fun e1 h=>F9 8 10 50 7 88 t6 a.n.a5 e_ e1<|E8 e_<|A9 h (e4Y r) fun x1 h hc1=>rg<|j6 5 h (fun h=>N7<|(p8 h hc1 fun hI=>sk [.frz (.cell 0 0 12) (some 2),.frz (.cell 0 0 13) (some 2),.own (.cell 0 0 16) 4 1,.kill 0 3] [0] [(10,0),(37,0)] hI)) (fun h=>(p8 h hc1 fun hI=>sk [] [0] [(10,0),(0,3)] hI))
def d60:FS (p6):=⟨157,Tryz.f157,[],[some (0,.ptr I7 M3),none],[.ptr I7 M3,.val B9 []],fun _=>.tup [],fun r=>[some (.optr 171 (L8 r)),none],Tryz.func157⟩
def b9d(a:p6)(m:l9):Option p6:=
 (bif (a.n.d8 != 3) then some a else (bif (m.a8 != a.n.a8) then some a else (bif (m.g8 != (a.n.a5.length:Int)) then some a else ((idx a.n.a7 m.c9).bind fun y=>((b3V (a.n.a7.set m.c9.toNat true)).bind fun b3p=>(bif decide (b3p>=2) then ((a3u (p6.mk (j7.mk a.n.Id a.n.Acc a.n.a5 a.n.Seq a.n.d8 a.n.a8 a.n.c9 a.n.i5 a.n.d6 (a.n.a7.set m.c9.toNat true) a.n.i9 a.n.i7 a.n.b7 a.n.d9) a.out a.told) (l9.mk 5 0 0 0 m.g8 a.n.d6 [])).bind fun all=>((b2Q all all.n.d6).bind fun a9b=>some a9b)) else some (p6.mk (j7.mk a.n.Id a.n.Acc a.n.a5 a.n.Seq a.n.d8 a.n.a8 a.n.c9 a.n.i5 a.n.d6 (a.n.a7.set m.c9.toNat true) a.n.i9 a.n.i7 a.n.b7 a.n.d9) a.out a.told)))))))
theorem f1q{a m}:OK d60 [.optr 171 (L8 a),.agg (s6 m)] (b9d a m):=
 o8 _ fun r h=>n7<|j6 6 h (fun h=>C9 a<|fE h) (fun h=>j6 16 h (fun h=>C9 a<|fE h) (fun h=>j6 26 h (fun h=>C9 a<|fE h) (fun h=>rg<|A7 h fun y hy h=>B5 hy<|Q6 4 1 eB 8 [] true hy<|rg<|R8 a3T d5L 5 1 h fun b3p h=>om (a.n.a7.length=(a.n.a7.set m.c9.toNat true).length) (by simp)<|j6 6 h (fun h=>rg<|l8 a1q a6D 9 h fun all h=>C7 a.n.a5 a.n.c9<|om (a.n.a7.length=(a.n.a7.set m.c9.toNat true).length) (by simp)<|C7 a.out a.told<|rg<|l8 a2H d0F 6 h fun a9b h=>C9 all<|C9 a9b<|fE h) (fun h=>C7 a.n.a5 a.n.c9<|om (a.n.a7.length=(a.n.a7.set m.c9.toNat true).length) (by simp)<|C7 a.out a.told<|fE h))))
def d6L:FS (p6):=⟨158,Tryz.f158,[],[some (0,.ptr I7 M3),none],[.ptr I7 M3,.val B9 []],fun _=>.tup [],fun r=>[some (.optr 171 (L8 r)),none],Tryz.func158⟩
def b7d(a:p6)(m:l9):Option p6:=
 (bif decide (m.g8<(a.n.a5.length:Int)) then some a else (bif decide (m.g8>(a.n.a5.length:Int)) then ((a4v a m.c9 (l9.mk 8 0 0 0 (a.n.a5.length:Int) (m6.mk false (o7.mk 0 0) (n6.mk [] [] 0 0)) [])).bind fun Z3=>some Z3) else ((b2Q a m.i0).bind fun a9b=>some a9b)))
theorem d9W{a m}:OK d6L [.optr 171 (L8 a),.agg (s6 m)] (b7d a m):=
 o8 _ fun r h=>n7<|j6 9 h (fun h=>C9 a<|fE h) (fun h=>rg<|j6 9 h (fun h=>rg<|l8 a5L a8x 10 h fun Z3 h=>C9 a<|C9 Z3<|fE h) (fun h=>rg<|l8 a2H d0F 3 h fun a9b h=>C9 a<|C9 a9b<|fE h))
def c9d:FS (Bool×p6):=⟨197,Tryz.f197,[.val [] []],[some (0,.ptr I7 om7),none],[.ptr I7 om7,.val [] []],fun r=>.b r.1,fun r=>[some (.optr 171 (c0f r.2)),none],Tryz.func197⟩
def b9j(a:p6)(q:o7):Option (Bool×p6):=
 ((a6P a.n.a5 q).bind fun first=>some (decide (first>=0),a))
theorem f0R{a q}:OK c9d [.optr 171 (c0f a),.agg (J0 q)] (b9j a q):=
 o8 _ fun r h=>n7<|R8 a1A b2h 6 2 h fun first h=>s9 a.n.a5<|J5 a.n<|C7 a.out a.told<|fE h
def d1x:FS (p6):=⟨160,Tryz.f160,[],[some (0,.ptr I7 M3),none],[.ptr I7 om7,.val B9 []],fun _=>.tup [],fun r=>[some (.optr 171 (L8 r)),none],Tryz.func160⟩
def b7P(a:p6)(m:l9):Option p6:=
 (bif (a.n.d8==0) then some a else (bif decide ((a.n.d9.length:Int)>=4) then some a else ((b9j a m.i0.a0).bind fun v_=>(bif v_.1 then some v_.2 else (t5 ((v_.2.n.d9.length+1)*88<=140737488355328) (((a6k (p6.mk (j7.mk v_.2.n.Id v_.2.n.Acc v_.2.n.a5 v_.2.n.Seq v_.2.n.d8 v_.2.n.a8 v_.2.n.c9 v_.2.n.i5 v_.2.n.d6 v_.2.n.a7 v_.2.n.i9 v_.2.n.i7 v_.2.n.b7 (v_.2.n.d9++[m.i0])) v_.2.out v_.2.told)).bind fun Z4=>some Z4)))))))
theorem f4V{a m}:OK d1x [.optr 171 (c0f a),.agg (s6 m)] (b7P a m):=
 o8 _ fun r h=>n7<|j6 6 h (fun h=>J5 a.n<|C7 a.out a.told<|fE h) (fun h=>j6 15 h (fun h=>J5 a.n<|C7 a.out a.told<|fE h) (fun h=>l8 c9d f0R 20 h fun v_ h=>J5 a.n<|C7 a.out a.told<|j6 21 h (fun h=>J5 v_.2.n<|C7 v_.2.out v_.2.told<|fE h) (fun h=>rg<|tk 8 K4<|u0 h fun e1 h=>F9 9 33 50 7 88 t6 v_.2.n.d9 m.i0 e1<|E8 m.i0<|rg<|l8 a9P b3C 1 h fun Z4 h=>H0 v_.2.n.a5 v_.2.n.c9 v_.2.n.a7 (v_.2.n.d9++[m.i0])<|C7 v_.2.out v_.2.told<|C9 Z4<|fE h)))
def a2E:FS (j7×(List l9)×List n5):=⟨101,Tryz.f101,[.val A8 [],.val [some 13] [],.val [some 5] []],[none,none],[.val A8 [],.val B9 []],fun r=>.tup [.agg (w9 r.1),j8 13 s6 r.2.1,j8 5 x8 r.2.2],fun _=>[none,none],Tryz.func101⟩
def c6M:p6->KS:=fun a=>⟨a2E.k 7 [false,false,true],(bs 4 (.ptr 1 0 0::(bs 2 (.ptr 2 0 0::(bs 108 []))))),[some [],some [.var 52 [vi 0,vi 0,.nil,.nil,vi 0,vi 0,vi 0,.nil,.nil,.b false,vi 0,vi 0,.nil,.nil,vi 0,vi 0,.nil,.b false,.nil,.b false,vi 0,vi 0,.nil,.nil,vi 0,vi 0,.nil]],some [.var 171 (b3z a)]]++a3e a⟩
def b7C(a:p6):Option (j7×(List l9)×List n5):=
 ((a1X a).bind fun a4U=>some (a4U.1,a4U.2.1,a4U.2.2.1))
theorem e9Y(r):NF a2E r c6M (fun s=>b7C s):=fun a h=>PK<|rg<|l8 a39 a4I 1 h fun a4U h=>C9 a<|fE h
def d66:p6->KS:=fun a2=>⟨a2E.k 15 [false,false,false,false,false,false,false,false,false,true,false],(bs 4 (.ptr 1 0 0::(bs 2 (.ptr 2 0 0::(bs 108 []))))),[some [],some [.var 52 [vi 0,vi 0,.nil,.nil,vi 0,vi 0,vi 0,.nil,.nil,.b false,vi 0,vi 0,.nil,.nil,vi 0,vi 0,.nil,.b false,.nil,.b false,vi 0,vi 0,.nil,.nil,vi 0,vi 0,.nil]],some [.var 171 (b3z a2)]]++a3e a2⟩
def d0y(a2:p6):Option (m5 (j7×(List l9)×List n5) p6):=
 some (m5.brk a2)
theorem d8J(r){x1}(hc1:JC (fun j=>FK cx a2E.X (a2E.R r) (a2E.O r) (c6M j)) r x1):NG a2E r d66 (fun s=>d0y s) x1:=fun a2 h=>PK<|(p8 h hc1 fun hI=>sk [] [4,7] [(1,0),(2,0),(3,0),(4,0),(5,0),(6,0),(7,0)] hI)
def e72(m:l9):(Int×p6)->KS:=fun (i,a1)=>⟨a2E.k 14 [false,false,false,false,false,false,false,false,false,true],(bs 3 (.ptr 1 0 0::(.ptr 2 0 0::(bs 2 (.ptr 3 0 0::(vi i::(bs 107 []))))))),[some [],some [.var 66 (a5h m)],some [.var 52 [vi 0,vi 0,.nil,.nil,vi 0,vi 0,vi 0,.nil,.nil,.b false,vi 0,vi 0,.nil,.nil,vi 0,vi 0,.nil,.b false,.nil,.b false,vi 0,vi 0,.nil,.nil,vi 0,vi 0,.nil]],some [.var 171 (d9N a1)]]++a3e a1⟩
def a6U(m:l9)(i:Int)(a1:p6):Option (l7 (j7×(List l9)×List n5) (Int×p6) p6):=
 (bif decide (i<(a1.n.a5.length:Int)) then ((idx a1.n.a5 i).bind fun entry=>((a4v a1 m.c9 (l9.mk 5 0 0 0 i entry [])).bind fun Z3=>some (l7.nxt (m8 (i+1),Z3)))) else some (l7.brk a1))
theorem e94(m):LQ a2E d66 (e72 m) (fun s=>a6U m s.1 s.2):=fun lc (i,a1) h=>PK<|rg<|j6 7 h (fun h=>rg<|A7 h fun entry G9 h=>B5 G9<|H9 t6 11 G9<|l8 a5L a8x 13 h fun Z3 h=>C9 a1<|rg<|(lc.nx h fun hI=>sk [] [3,4,7,8] [(1,0),(2,0),(3,0),(30,0),(30,1),(30,2),(30,3),(30,4)] hI)) (fun h=>(lc.bk h fun hI=>sk [] [4,7] [(2,0),(3,0),(4,0),(5,0),(6,0),(7,0),(8,0)] hI))
def b5g(n:j7)(m:l9):Option (j7×(List l9)×List n5):=
 ((a4s n).bind fun D6=>(bif (!D6) then some ((j7.mk 0 (z4.mk 0 []) [] 0 0 0 [] [] (m6.mk false (o7.mk 0 0) (n6.mk [] [] 0 0)) [] false [] (m6.mk false (o7.mk 0 0) (n6.mk [] [] 0 0)) []),[],[]) else ((a7N n).bind fun begin=>((b3K m).bind fun Q5=>(bif (!Q5) then ((a1X begin).bind fun Y1=>some (Y1.1,Y1.2.1,Y1.2.2.1)) else (bif (m.To != n.Id) then ((a1X begin).bind fun a4x=>some (a4x.1,a4x.2.1,a4x.2.2.1)) else (((bif (m.a9==1) then ((b7n begin m).bind fun c80=>some (m5.brk c80)) else (bif (m.a9==2) then ((b8k begin m).bind fun c6s=>some (m5.brk c6s)) else (bif (m.a9==3) then ((b9K begin m).bind fun d1H=>some (m5.brk d1H)) else (bif (m.a9==4) then ((b9d begin m).bind fun c60=>some (m5.brk c60)) else (bif (m.a9==5) then ((b7d begin m).bind fun c9k=>some (m5.brk c9k)) else (bif (m.a9==6) then ((b0X begin.n.Acc m.a8).bind fun V5=>((b0v (p6.mk (j7.mk begin.n.Id V5.1 begin.n.a5 begin.n.Seq begin.n.d8 begin.n.a8 begin.n.c9 begin.n.i5 begin.n.d6 begin.n.a7 begin.n.i9 begin.n.i7 begin.n.b7 begin.n.d9) begin.out begin.told) m.a8).bind fun yield=>some (m5.brk yield))) else (bif (m.a9==7) then ((b7P begin m).bind fun asked=>some (m5.brk asked)) else (bif (m.a9==8) then ((o9 (fun s:Int×p6=>a6U m s.1 s.2) (m.g8,begin)).bind fun x=>x.go (fun r=>some (m5.ret r)) fun s=>d0y s) else some (m5.brk begin))))))))):Option (m5 (j7×(List l9)×List n5) p6)).bind fun x=>x.go some fun j=>b7C j)))))))
set_option maxRecDepth 20000 in
theorem d9Q{n m}:OK a2E [.agg (w9 n),.agg (s6 m)] (b5g n m):=
 o8 _ fun r h=>n7<|l8 a0H a8p 1 h fun D6 h=>j6 2 h (fun h=>rg<|fE h) (fun h=>rg<|l8 b10 b5e 1 h fun begin h=>rg<|l8 c4u c8a 1 h fun Q5 h=>j6 3 h (fun h=>rg<|l8 a39 a4I 1 h fun Y1 h=>J5 begin.n<|C7 begin.out begin.told<|fE h) (fun h=>j6 9 h (fun h=>rg<|l8 a39 a4I 1 h fun a4x h=>J5 begin.n<|C7 begin.out begin.told<|fE h) (fun h=>rg<|A9 h (e9Y r) fun x1 h hc1=>rg<|j6 1 h (fun h=>rg<|l8 b9A e1Z 2 h fun c80 h=>J5 begin.n<|C7 begin.out begin.told<|(p8 h hc1 fun hI=>sk [] [4,7] [(3,0),(10,0),(28,0),(28,1),(28,2),(28,3),(28,4)] hI)) (fun h=>rg<|j6 1 h (fun h=>rg<|l8 d59 e4J 2 h fun c6s h=>J5 begin.n<|C7 begin.out begin.told<|(p8 h hc1 fun hI=>sk [] [4,7] [(3,0),(10,0),(30,0),(30,1),(30,2),(30,3),(30,4)] hI)) (fun h=>rg<|j6 1 h (fun h=>rg<|l8 c8m d9A 2 h fun d1H h=>J5 begin.n<|C7 begin.out begin.told<|(p8 h hc1 fun hI=>sk [] [4,7] [(3,0),(10,0),(32,0),(32,1),(32,2),(32,3),(32,4)] hI)) (fun h=>rg<|j6 1 h (fun h=>rg<|l8 d60 f1q 2 h fun c60 h=>J5 begin.n<|C7 begin.out begin.told<|(p8 h hc1 fun hI=>sk [] [4,7] [(3,0),(10,0),(34,0),(34,1),(34,2),(34,3),(34,4)] hI)) (fun h=>rg<|j6 1 h (fun h=>rg<|l8 d6L d9W 2 h fun c9k h=>J5 begin.n<|C7 begin.out begin.told<|(p8 h hc1 fun hI=>sk [] [4,7] [(3,0),(10,0),(36,0),(36,1),(36,2),(36,3),(36,4)] hI)) (fun h=>rg<|j6 1 h (fun h=>rg<|l8 b5a c47 8 h fun V5 h=>rg<|l8 b7b c29 3 h fun yield h=>J5 begin.n<|C7 begin.out begin.told<|(p8 h hc1 fun hI=>sk [] [4,7] [(3,0),(10,0),(55,0),(55,1),(55,2),(55,3),(55,4)] hI)) (fun h=>rg<|j6 1 h (fun h=>rg<|l8 d1x f4V 2 h fun asked h=>J5 begin.n<|C7 begin.out begin.told<|(p8 h hc1 fun hI=>sk [] [4,7] [(3,0),(10,0),(40,0),(40,1),(40,2),(40,3),(40,4)] hI)) (fun h=>rg<|j6 1 h (fun h=>rg<|lp (e94 m) h (fun _ h=>a2E.rt (e5Z h hc1)) (d8J r hc1) fun hI=>s9 begin.n.d9<|sk [.frz (.cell 10 0 26) (none)] [3,4,7,8] [(2,0),(3,0),(10,0),(10,1),(10,2),(10,3),(10,5),(10,6)] hI) (fun h=>(p8 h hc1 fun hI=>s9 begin.n.d9<|sk [.frz (.cell 10 0 26) (none)] [4,7] [(3,0),(10,0),(10,1),(10,2),(10,3),(10,5),(10,6)] hI))))))))))))
def b0x:FS (m4):=⟨45,Tryz.f45,[.val D4 om2],[none,none],[.val D4 om2,.val [none,none,some 4] []],fun r=>.agg (a8z r),fun _=>[none,none],Tryz.func45⟩
def f1a:m4->KS:=fun w1=>⟨b0x.k 7 [true],(bs 2 (.ptr 1 0 0::(bs 1 (.ptr 6 0 0::(bs 58 []))))),[some [.dead,.dead,.dead,.dead],some [.var 28 [.own 2 0 27 0 w1.a6.length,.own 3 0 13 0 w1.b9.length,.own 4 0 3 0 w1.d7.length,.own 5 0 5 0 w1.Told.length]],some [m7 52 27 w9 w1.a6],some [m7 66 13 s6 w1.b9],some [m7 68 3 A2 w1.d7],some [m7 62 5 x8 w1.Told],some [.var 28 [.nil,.nil,.nil,.nil]]]⟩
def d6J(w1:m4):Option m4:=
 some w1
theorem f4n(r):NF b0x r f1a (fun s=>d6J s):=fun w1 h=>PK<|rg<|B0 w1<|fE h
def a7I(w:m4)(e_:q9):Option m4:=
 ((idx w.b9 e_.A).bind fun msg=>(((bif (e_.a9==2) then ((b4E w.b9 e_.A).bind fun off=>((idx w.a6 msg.To).bind fun node=>((b5g node msg).bind fun b8A=>((a4F (m4.mk w.a6 off w.d7 w.Told) b8A.1 b8A.2.1 b8A.2.2).bind fun a27=>some (m5.brk a27))))) else (bif (e_.a9==3) then ((b4E w.b9 e_.A).bind fun c6k=>some (m5.brk (m4.mk w.a6 c6k w.d7 w.Told))) else (bif (e_.a9==4) then ((idx w.a6 msg.To).bind fun node1=>((a4F w node1 [msg] []).bind fun b1A=>some (m5.brk b1A))) else some (m5.brk w)))):Option (m5 m4 m4)).bind fun x=>x.go some fun j=>d6J j))
theorem c5X{w e_}:OK b0x [.agg (a8z w),.agg (H2 e_)] (a7I w e_):=
 o8 _ fun r h=>n7<|A7 h fun msg hmsg h=>B5 hmsg<|H9 s6 5 hmsg<|rg<|A9 h (f4n r) fun x1 h hc1=>rg<|j6 1 h (fun h=>rg<|l8 c3R c9B 4 h fun off h=>s9 w.b9<|rg<|A7 h fun node hnode h=>B5 hnode<|H9 w9 5 hnode<|l8 a2E d9Q 7 h fun b8A h=>rg<|l8 U1 b06 4 h fun a27 h=>H0 w.a6 off w.d7 w.Told<|(p8 h hc1 fun hI=>sk [.kill 0 1] [2,4] [(1,0),(43,0),(43,1),(43,2),(43,3),(3,0)] hI)) (fun h=>rg<|j6 1 h (fun h=>rg<|l8 c3R c9B 4 h fun c6k h=>s9 w.b9<|(p8 h hc1 fun hI=>sk [.kill 0 1] [2,4] [(1,0),(0,0),(22,0),(0,2),(0,3),(3,0)] hI)) (fun h=>rg<|j6 1 h (fun h=>rg<|A7 h fun node1 a1K h=>B5 a1K<|H9 w9 6 a1K<|tk 8 B9<|l8 U1 b06 9 h fun b1A h=>B0 w<|E8 msg<|(p8 h hc1 fun hI=>sk [] [2,4] [(1,0),(29,0),(29,1),(29,2),(29,3),(3,0)] hI)) (fun h=>(p8 h hc1 fun hI=>sk [] [2,4] [(1,0),(0,0),(0,1),(0,2),(0,3),(3,0)] hI))))
def a2R:FS (m4):=⟨14,Tryz.f14,[.val D4 []],[none,none],[.val D4 [],.val [none,none,some 4] []],fun r=>.agg (P4 r),fun _=>[none,none],Tryz.func14⟩
def e4k:m4->KS:=fun out=>⟨a2R.k 6 [true,true,true],(bs 4 (.ptr 1 0 0::(.ptr 2 0 0::(bs 35 [])))),[some [],some [.var 28 [.nil,.nil,.nil,.nil]],some [.var 28 [.own 3 0 27 0 out.a6.length,.own 4 0 13 0 out.b9.length,.own 5 0 3 0 out.d7.length,.own 6 0 5 0 out.Told.length]],some [m7 52 27 w9 out.a6],some [m7 66 13 s6 out.b9],some [m7 68 3 A2 out.d7],some [m7 62 5 x8 out.Told]]⟩
def c51(out:m4):Option m4:=
 ((a1S out).bind fun c5Y=>some c5Y)
theorem f1A(r):NF a2R r e4k (fun s=>c51 s):=fun out h=>PK<|rg<|l8 X1 a71 1 h fun c5Y h=>B0 out<|B0 c5Y<|fE h
def e9n:m4->KS:=fun out1=>⟨a2R.k 7 [false,true,true,true],(bs 4 (.ptr 1 0 0::(.ptr 2 0 0::(bs 35 [])))),[some [],some [.var 28 [.nil,.nil,.nil,.nil]],some [.var 28 [.own 3 0 27 0 out1.a6.length,.own 4 0 13 0 out1.b9.length,.own 5 0 3 0 out1.d7.length,.own 6 0 5 0 out1.Told.length]],some [m7 52 27 w9 out1.a6],some [m7 66 13 s6 out1.b9],some [m7 68 3 A2 out1.d7],some [m7 62 5 x8 out1.Told]]⟩
def c3Q(out1:m4):Option m4:=
 ((a1S out1).bind fun c50=>some c50)
theorem f5t(r):NF a2R r e9n (fun s=>c3Q s):=fun out1 h=>PK<|rg<|l8 X1 a71 1 h fun c50 h=>B0 out1<|B0 c50<|fE h
def f5o:m4->KS:=fun out2=>⟨a2R.k 8 [false,false,true,true,true],(bs 4 (.ptr 1 0 0::(.ptr 2 0 0::(bs 35 [])))),[some [],some [.var 28 [.nil,.nil,.nil,.nil]],some [.var 28 [.own 3 0 27 0 out2.a6.length,.own 4 0 13 0 out2.b9.length,.own 5 0 3 0 out2.d7.length,.own 6 0 5 0 out2.Told.length]],some [m7 52 27 w9 out2.a6],some [m7 66 13 s6 out2.b9],some [m7 68 3 A2 out2.d7],some [m7 62 5 x8 out2.Told]]⟩
def c2Y(out2:m4):Option m4:=
 ((a1S out2).bind fun c4M=>some c4M)
theorem d7q(r):NF a2R r f5o (fun s=>c2Y s):=fun out2 h=>PK<|rg<|l8 X1 a71 1 h fun c4M h=>B0 out2<|B0 c4M<|fE h
def f2w:m4->KS:=fun out3=>⟨a2R.k 9 [false,false,false,true,true],(bs 4 (.ptr 1 0 0::(.ptr 2 0 0::(bs 35 [])))),[some [],some [.var 28 [.nil,.nil,.nil,.nil]],some [.var 28 [.own 3 0 27 0 out3.a6.length,.own 4 0 13 0 out3.b9.length,.own 5 0 3 0 out3.d7.length,.own 6 0 5 0 out3.Told.length]],some [m7 52 27 w9 out3.a6],some [m7 66 13 s6 out3.b9],some [m7 68 3 A2 out3.d7],some [m7 62 5 x8 out3.Told]]⟩
def b9I(out3:m4):Option m4:=
 ((a1S out3).bind fun c1W=>some c1W)
theorem e41(r):NF a2R r f2w (fun s=>b9I s):=fun out3 h=>PK<|rg<|l8 X1 a71 1 h fun c1W h=>B0 out3<|B0 c1W<|fE h
def b2W(w:m4)(e_:q9):Option m4:=
 ((a1S w).bind fun H4=>(bif (e_.a9==1) then ((((D8 e_.A 0 (m8 ((H4.a6.length:Int)-1))).bind fun in_=>(bif in_ then ((a6l H4 e_).bind fun c8w=>some (m5.brk c8w)) else some (m5.brk H4))):Option (m5 m4 m4)).bind fun x=>x.go some fun j=>c51 j) else (bif (e_.a9==5) then ((((D8 e_.A 0 (m8 ((H4.a6.length:Int)-1))).bind fun in_1=>(bif in_1 then ((a6l H4 e_).bind fun d1D=>some (m5.brk d1D)) else some (m5.brk H4))):Option (m5 m4 m4)).bind fun x=>x.go some fun j=>c3Q j) else (bif (e_.a9==6) then ((((D8 e_.A 0 (m8 ((H4.a6.length:Int)-1))).bind fun in_2=>(bif in_2 then ((a6l H4 e_).bind fun d3H=>some (m5.brk d3H)) else some (m5.brk H4))):Option (m5 m4 m4)).bind fun x=>x.go some fun j=>c2Y j) else (((bif (e_.a9==7) then ((D8 e_.A 0 (m8 ((H4.a6.length:Int)-1))).bind fun a0j=>(bif a0j then ((a6l H4 e_).bind fun d02=>some (m5.brk d02)) else some (m5.brk H4))) else (bif (e_.a9==2) then ((D8 e_.A 0 (m8 ((H4.b9.length:Int)-1))).bind fun a5k=>(bif a5k then ((a7I H4 e_).bind fun c7W=>some (m5.brk c7W)) else some (m5.brk H4))) else (bif (e_.a9==3) then ((D8 e_.A 0 (m8 ((H4.b9.length:Int)-1))).bind fun a9h=>(bif a9h then ((a7I H4 e_).bind fun d4o=>some (m5.brk d4o)) else some (m5.brk H4))) else (bif (e_.a9==4) then ((D8 e_.A 0 (m8 ((H4.b9.length:Int)-1))).bind fun c2n=>(bif c2n then ((a7I H4 e_).bind fun d0p=>some (m5.brk d0p)) else some (m5.brk H4))) else some (m5.brk H4))))):Option (m5 m4 m4)).bind fun x=>x.go some fun j=>b9I j)))))
set_option maxRecDepth 20000 in
theorem c8r{w e_}:OK a2R [.agg (P4 w),.agg (H2 e_)] (b2W w e_):=
 o8 _ fun r h=>n7<|l8 X1 a71 1 h fun H4 h=>n7<|j6 1 h (fun h=>A9 h (f1A r) fun x1 h hc1=>rg<|cbE D2.t E6 h fun in_ d3v h=>cdT (D2.t 6 false in_) h (fun _ h=>ob d3v<|rg<|l8 a8K b6n 2 h fun c8w h=>B0 H4<|(p8 h hc1 fun hI=>sk [] [4,5] [(3,0),(6,0),(21,0),(21,1),(21,2),(21,3)] hI)) (fun _ h=>ob d3v<|(p8 h hc1 fun hI=>sk [] [4,5] [(3,0),(6,0),(5,0),(5,1),(5,2),(5,3)] hI))) (fun h=>rg<|j6 1 h (fun h=>A9 h (f5t r) fun x1 h hc1=>rg<|cbE D2.t E6 h fun in_1 d1a h=>cdT (D2.t 6 false in_1) h (fun _ h=>ob d1a<|rg<|l8 a8K b6n 2 h fun d1D h=>B0 H4<|(p8 h hc1 fun hI=>sk [] [4,5] [(3,0),(6,0),(23,0),(23,1),(23,2),(23,3)] hI)) (fun _ h=>ob d1a<|(p8 h hc1 fun hI=>sk [] [4,5] [(3,0),(6,0),(5,0),(5,1),(5,2),(5,3)] hI))) (fun h=>rg<|j6 1 h (fun h=>A9 h (d7q r) fun x1 h hc1=>rg<|cbE D2.t E6 h fun in_2 c8Q h=>cdT (D2.t 6 false in_2) h (fun _ h=>ob c8Q<|rg<|l8 a8K b6n 2 h fun d3H h=>B0 H4<|(p8 h hc1 fun hI=>sk [] [4,5] [(3,0),(6,0),(25,0),(25,1),(25,2),(25,3)] hI)) (fun _ h=>ob c8Q<|(p8 h hc1 fun hI=>sk [] [4,5] [(3,0),(6,0),(5,0),(5,1),(5,2),(5,3)] hI))) (fun h=>A9 h (e41 r) fun x1 h hc1=>rg<|j6 1 h (fun h=>rg<|cbE D2.t E6 h fun a0j c9Y h=>cdT (D2.t 6 false a0j) h (fun _ h=>ob c9Y<|rg<|l8 a8K b6n 2 h fun d02 h=>B0 H4<|(p8 h hc1 fun hI=>sk [] [4,5] [(3,0),(6,0),(27,0),(27,1),(27,2),(27,3)] hI)) (fun _ h=>ob c9Y<|(p8 h hc1 fun hI=>sk [] [4,5] [(3,0),(6,0),(5,0),(5,1),(5,2),(5,3)] hI))) (fun h=>rg<|j6 1 h (fun h=>rg<|cbE D2.t E6 h fun a5k d5W h=>cdT (D2.t 6 false a5k) h (fun _ h=>ob d5W<|rg<|l8 b0x c5X 2 h fun c7W h=>B0 H4<|(p8 h hc1 fun hI=>sk [] [4,5] [(3,0),(6,0),(29,0),(29,1),(29,2),(29,3)] hI)) (fun _ h=>ob d5W<|(p8 h hc1 fun hI=>sk [] [4,5] [(3,0),(6,0),(5,0),(5,1),(5,2),(5,3)] hI))) (fun h=>rg<|j6 1 h (fun h=>rg<|cbE D2.t E6 h fun a9h c8i h=>cdT (D2.t 6 false a9h) h (fun _ h=>ob c8i<|rg<|l8 b0x c5X 2 h fun d4o h=>B0 H4<|(p8 h hc1 fun hI=>sk [] [4,5] [(3,0),(6,0),(31,0),(31,1),(31,2),(31,3)] hI)) (fun _ h=>ob c8i<|(p8 h hc1 fun hI=>sk [] [4,5] [(3,0),(6,0),(5,0),(5,1),(5,2),(5,3)] hI))) (fun h=>rg<|j6 1 h (fun h=>rg<|cbE D2.t E6 h fun c2n c7C h=>cdT (D2.t 6 false c2n) h (fun _ h=>ob c7C<|rg<|l8 b0x c5X 2 h fun d0p h=>B0 H4<|(p8 h hc1 fun hI=>sk [] [4,5] [(3,0),(6,0),(33,0),(33,1),(33,2),(33,3)] hI)) (fun _ h=>ob c7C<|(p8 h hc1 fun hI=>sk [] [4,5] [(3,0),(6,0),(5,0),(5,1),(5,2),(5,3)] hI))) (fun h=>(p8 h hc1 fun hI=>sk [] [4,5] [(3,0),(6,0),(5,0),(5,1),(5,2),(5,3)] hI))))))))
def a7A:FS (m4):=⟨4,Tryz.f4,[.val D4 []],[none,none],[.val D4 [],.val [some 3] []],fun r=>.agg (P4 r),fun _=>[none,none],Tryz.func4⟩
def c8x:m4->KS:=fun out1=>⟨a7A.k 5 [false,false],(bs 4 (.ptr 1 0 0::(.ptr 2 0 0::(bs 24 [])))),[some [],some [.var 28 [.nil,.nil,.nil,.nil]],some [.var 28 (D5 out1)]]⟩
def d38(out1:m4):Option m4:=
 some out1
theorem f03(r):NF a7A r c8x (fun s=>d38 s):=fun out1 h=>PK<|rg<|fE h
def f3E(events:List q9):(Int×m4)->KS:=fun (v21,out)=>⟨a7A.k 4 [false],(bs 4 (.ptr 1 0 0::(.ptr 2 0 0::(bs 13 (j8 3 H2 events::(vi (events.length:Int)::(vi v21::(bs 8 [])))))))),[some [],some [.var 28 [.nil,.nil,.nil,.nil]],some [.var 28 (D5 out)]]⟩
def a53(events:List q9)(v21:Int)(out:m4):Option (l7 m4 (Int×m4) m4):=
 (bif decide (v21<(events.length:Int)) then ((idx events v21).bind fun b2R=>((b2W out b2R).bind fun b3U=>some (l7.nxt (m8 (v21+1),b3U)))) else some (l7.brk out))
theorem e1x(events):LQ a7A c8x (f3E events) (fun s=>a53 events s.1 s.2):=fun lc (v21,out) h=>PK<|rg<|j6 0 h (fun h=>rg<|u9 H2 0 h fun b2R e2v h=>rg<|l8 a2R c8r 2 h fun b3U h=>rg<|(lc.nx h fun hI=>sk [] [4,5,19,20,21] [(1,0),(2,0)] hI)) (fun h=>(lc.bk h fun hI=>sk [] [4,5] [(1,0),(2,0)] hI))
def b1b(w:m4)(events:List q9):Option m4:=
 ((a2h w).bind fun B6=>(bif (!B6) then some (m4.mk [] [] [] []) else (bif decide ((events.length:Int)>400) then some (m4.mk [] [] [] []) else ((a1S w).bind fun H4=>((o9 (fun s:Int×m4=>a53 events s.1 s.2) (0,H4)).bind fun x=>x.go (fun r=>some r) fun s=>d38 s)))))
theorem f0K{w events}:OK a7A [.agg (P4 w),j8 3 H2 events] (b1b w events):=
 o8 _ fun r h=>n7<|l8 L1 a5o 1 h fun B6 h=>j6 3 h (fun h=>rg<|fE h) (fun h=>j6 7 h (fun h=>rg<|fE h) (fun h=>rg<|l8 X1 a71 1 h fun H4 h=>rg<|lp (e1x events) h (fun _ h=>a7A.rt h) (f03 r) fun hI=>B0 H4<|sk [.frz (.cell 13 0 0) (none),.frz (.cell 13 0 1) (none),.frz (.cell 13 0 2) (none),.frz (.cell 13 0 3) (none)] [4,5,19,20,21] [(2,0),(13,0)] hI))
def a5s:FS (m4):=⟨8,Tryz.f8,[.val D4 R5],[none,none],[.val D4 [],.val [some 3] []],fun r=>.agg (S4 r),fun _=>[none,none],Tryz.func8⟩
def d5m:((List j7)×(List l9)×(List x6)×List n5)->KS:=fun (Nodes1,Net1,Asked1,Told1)=>⟨a5s.k 5 [false,false],(bs 2 (.ptr 1 0 0::(bs 1 (.ptr 6 0 0::(bs 25 []))))),[some [],some [.var 28 [.own 2 0 27 0 Nodes1.length,.own 3 0 13 0 Net1.length,.own 4 0 3 0 Asked1.length,.own 5 0 5 0 Told1.length]],some [C4 52 27 z6 Nodes1],some [m7 66 13 s6 Net1],some [m7 68 3 A2 Asked1],some [m7 62 5 x8 Told1],some [.var 28 [.nil,.nil,.nil,.nil]]]⟩
def c7t(Nodes1:List j7)(Net1:List l9)(Asked1:List x6)(Told1:List n5):Option m4:=
 some (m4.mk Nodes1 Net1 Asked1 Told1)
theorem e7V(r):NF a5s r d5m (fun s=>c7t s.1 s.2.1 s.2.2.1 s.2.2.2):=fun (Nodes1,Net1,Asked1,Told1) h=>PK<|rg<|H0 Nodes1 Net1 Asked1 Told1<|fE h
def f0T(events:List q9):((List j7)×(List l9)×(List x6)×(List n5)×Int)->KS:=fun (a6,b9,d7,Told,i)=>⟨a5s.k 4 [false],(bs 1 (j8 3 H2 events::(.ptr 1 0 0::(bs 1 (.ptr 6 0 0::(vi i::(bs 24 []))))))),[some [],some [.var 28 [.own 2 0 27 0 a6.length,.own 3 0 13 0 b9.length,.own 4 0 3 0 d7.length,.own 5 0 5 0 Told.length]],some [C4 52 27 z6 a6],some [m7 66 13 s6 b9],some [m7 68 3 A2 d7],some [m7 62 5 x8 Told],some [.var 28 [.nil,.nil,.nil,.nil]]]⟩
def a5b(events:List q9)(a6:List j7)(b9:List l9)(d7:List x6)(Told:List n5)(i:Int):Option (l7 m4 ((List j7)×(List l9)×(List x6)×(List n5)×Int) ((List j7)×(List l9)×(List x6)×List n5)):=
 (bif decide (i<(events.length:Int)) then ((idx events i).bind fun b2R=>((b03 (m4.mk a6 b9 d7 Told) b2R).bind fun a0L=>some (l7.nxt (a0L.a6,a0L.b9,a0L.d7,a0L.Told,m8 (i+1))))) else some (l7.brk (a6,b9,d7,Told)))
theorem e43(events):LQ a5s d5m (f0T events) (fun s=>a5b events s.1 s.2.1 s.2.2.1 s.2.2.2.1 s.2.2.2.2):=fun lc (a6,b9,d7,Told,i) h=>PK<|rg<|j6 3 h (fun h=>rg<|u9 H2 3 h fun b2R e2v h=>l8 b1l c0n 5 h fun a0L h=>H0 a6 b9 d7 Told<|rg<|(lc.nx h fun hI=>sk [] [1,2,4,5] [(1,0),(16,0),(16,1),(16,2),(16,3),(6,0)] hI)) (fun h=>(lc.bk h fun hI=>sk [] [2,4] [(1,0),(2,0),(3,0),(4,0),(5,0),(6,0)] hI))
def b3i(w:m4)(events:List q9):Option m4:=
 ((b2v w).bind fun B6=>(bif (!B6) then some (m4.mk [] [] [] []) else (bif decide ((events.length:Int)>400) then some (m4.mk [] [] [] []) else ((b1T w).bind fun a1G=>((o9 (fun s:(List j7)×(List l9)×(List x6)×(List n5)×Int=>a5b events s.1 s.2.1 s.2.2.1 s.2.2.2.1 s.2.2.2.2) (a1G.a6,a1G.b9,a1G.d7,a1G.Told,0)).bind fun x=>x.go (fun r=>some r) fun s=>c7t s.1 s.2.1 s.2.2.1 s.2.2.2)))))
theorem e4g{w events}:OK a5s [.agg (P4 w),j8 3 H2 events] (b3i w events):=
 o8 _ fun r h=>n7<|l8 M5 c4J 1 h fun B6 h=>j6 3 h (fun h=>rg<|fE h) (fun h=>j6 7 h (fun h=>rg<|fE h) (fun h=>rg<|l8 V7 d1I 1 h fun a1G h=>rg<|lp (e43 events) h (fun _ h=>a5s.rt h) (e7V r) fun hI=>sk [] [1,2,4,5] [(1,0),(12,0),(12,1),(12,2),(12,3),(2,0)] hI))
def a7k:FS (Bool):=⟨18,Tryz.f18,[.val [] []],[none,none],[.val [some 5] [],.val [some 5] []],fun r=>.b r,fun _=>[none,none],Tryz.func18⟩
def d5K:Unit->KS:=fun _=>⟨a7k.k 4 [false,false],(bs 26 []),[some []]⟩
def c9R:Option Bool:=
 some true
theorem e51(r):NF a7k r d5K (fun s=>c9R):=fun _ h=>PK<|rg<|fE h
def e8b(a:List n5)(b:List n5):Int->KS:=fun v13=>⟨a7k.k 3 [false],(j8 5 x8 a::(j8 5 x8 b::(bs 10 (vi (a.length:Int)::(vi v13::(bs 12 [])))))),[some []]⟩
def c0j(a:List n5)(b:List n5)(v13:Int):Option (l7 Bool Int Unit):=
 (bif decide (v13<(a.length:Int)) then ((idx a v13).bind fun told=>((idx b v13).bind fun a3D=>(bif (!(([told.Node,told.a0.c8,told.a0.Seq,told.Code,told.g7]:List Int)==[a3D.Node,a3D.a0.c8,a3D.a0.Seq,a3D.Code,a3D.g7])) then some (l7.ret false) else some (l7.nxt (m8 (v13+1)))))) else some (l7.brk ()))
theorem d71(a b):LQ a7k d5K (e8b a b) (fun s=>c0j a b s):=fun lc v13 h=>PK<|rg<|j6 0 h (fun h=>n7<|u9 x8 2 h fun told a4G h=>u9 x8 6 h fun a3D f3m h=>j6 8 h (fun h=>rg<|fL lc h) (fun h=>rg<|(lc.nx h fun hI=>sk [] [0,1,12,13] [] hI))) (fun h=>(lc.bk h fun hI=>sk [] [] [] hI))
def b9e(a:List n5)(b:List n5):Option Bool:=
 (bif ((a.length:Int) != (b.length:Int)) then some false else ((o9 (fun s:Int=>c0j a b s) 0).bind fun x=>x.go (fun r=>some r) fun s=>c9R))
theorem e4M{a b}:OK a7k [j8 5 x8 a,j8 5 x8 b] (b9e a b):=
 o8 _ fun r h=>n7<|j6 4 h (fun h=>rg<|fE h) (fun h=>rg<|lp (d71 a b) h (fun _ h=>a7k.rt h) (e51 r) fun hI=>sk [] [0,1,12,13] [] hI)
def a4H:FS (Bool):=⟨55,Tryz.f55,[.val [] []],[none,none],[.val [some 8] [],.val [some 8] []],fun r=>.b r,fun _=>[none,none],Tryz.func55⟩
def c8F:Unit->KS:=fun _=>⟨a4H.k 4 [false,false],(bs 42 []),[some []]⟩
def c99:Option Bool:=
 some true
theorem e5h(r):NF a4H r c8F (fun s=>c99):=fun _ h=>PK<|rg<|fE h
def e84(a:List m9)(b:List m9):Int->KS:=fun v13=>⟨a4H.k 3 [false],(j8 8 p9 a::(j8 8 p9 b::(bs 10 (vi (a.length:Int)::(vi v13::(bs 28 [])))))),[some []]⟩
def b9a(a:List m9)(b:List m9)(v13:Int):Option (l7 Bool Int Unit):=
 (bif decide (v13<(a.length:Int)) then ((idx a v13).bind fun vote=>((idx b v13).bind fun O4=>(bif (vote.a8 != O4.a8) then some (l7.ret false) else ((W0 vote.i0 O4.i0).bind fun G3=>(bif (!G3) then some (l7.ret false) else some (l7.nxt (m8 (v13+1)))))))) else some (l7.brk ()))
theorem e2Y(a b):LQ a4H c8F (e84 a b) (fun s=>b9a a b s):=fun lc v13 h=>PK<|rg<|j6 0 h (fun h=>n7<|u9 p9 2 h fun vote J3 h=>u9 p9 7 h fun O4 a2j h=>j6 11 h (fun h=>rg<|fL lc h) (fun h=>I8 p9 14 J3<|I8 p9 19 a2j<|l8 a06 a09 22 h fun G3 h=>j6 24 h (fun h=>rg<|fL lc h) (fun h=>rg<|(lc.nx h fun hI=>sk [] [0,1,12,13] [] hI)))) (fun h=>(lc.bk h fun hI=>sk [] [] [] hI))
def a9U(a:List m9)(b:List m9):Option Bool:=
 (bif ((a.length:Int) != (b.length:Int)) then some false else ((o9 (fun s:Int=>b9a a b s) 0).bind fun x=>x.go (fun r=>some r) fun s=>c99))
theorem c4R{a b}:OK a4H [j8 8 p9 a,j8 8 p9 b] (a9U a b):=
 o8 _ fun r h=>n7<|j6 4 h (fun h=>rg<|fE h) (fun h=>rg<|lp (e2Y a b) h (fun _ h=>a4H.rt h) (e5h r) fun hI=>sk [] [0,1,12,13] [] hI)
def d6S:FS (Bool):=⟨52,Tryz.f52,[.val [] []],[none,none],[.val [none,some 8] [],.val [none,some 8] []],fun r=>.b r,fun _=>[none,none],Tryz.func52⟩
def c49(a:z4)(b:z4):Option Bool:=
 (bif (a.i4==b.i4) then ((a9U a.a7 b.a7).bind fun a6h=>some a6h) else some false)
theorem e1b{a b}:OK d6S [.agg (Z1 a),.agg (Z1 b)] (c49 a b):=
 o8 _ fun r h=>n7<|j6 5 h (fun h=>l8 a4H c4R 10 h fun a6h h=>fE h) (fun h=>fE h)
def a6I:FS (Bool):=⟨53,Tryz.f53,[.val [] []],[none,none],[.val [some 7] [],.val [some 7] []],fun r=>.b r,fun _=>[none,none],Tryz.func53⟩
def d0X:Unit->KS:=fun _=>⟨a6I.k 4 [false,false],(bs 27 []),[some []]⟩
def c7K:Option Bool:=
 some true
theorem e68(r):NF a6I r d0X (fun s=>c7K):=fun _ h=>PK<|rg<|fE h
def e37(a:List m6)(b:List m6):Int->KS:=fun v13=>⟨a6I.k 3 [false],(j8 7 t6 a::(j8 7 t6 b::(bs 10 (vi (a.length:Int)::(vi v13::(bs 13 [])))))),[some []]⟩
def b9O(a:List m6)(b:List m6)(v13:Int):Option (l7 Bool Int Unit):=
 (bif decide (v13<(a.length:Int)) then ((idx a v13).bind fun entry=>((idx b v13).bind fun a6r=>((W0 entry a6r).bind fun G3=>(bif (!G3) then some (l7.ret false) else some (l7.nxt (m8 (v13+1))))))) else some (l7.brk ()))
theorem e91(a b):LQ a6I d0X (e37 a b) (fun s=>b9O a b s):=fun lc v13 h=>PK<|rg<|j6 0 h (fun h=>n7<|u9 t6 2 h fun entry G9 h=>u9 t6 6 h fun a6r a9q h=>l8 a06 a09 8 h fun G3 h=>j6 9 h (fun h=>rg<|fL lc h) (fun h=>rg<|(lc.nx h fun hI=>sk [] [0,1,12,13] [] hI))) (fun h=>(lc.bk h fun hI=>sk [] [] [] hI))
def b2y(a:List m6)(b:List m6):Option Bool:=
 (bif ((a.length:Int) != (b.length:Int)) then some false else ((o9 (fun s:Int=>b9O a b s) 0).bind fun x=>x.go (fun r=>some r) fun s=>c7K))
theorem d1Q{a b}:OK a6I [j8 7 t6 a,j8 7 t6 b] (b2y a b):=
 o8 _ fun r h=>n7<|j6 4 h (fun h=>rg<|fE h) (fun h=>rg<|lp (e91 a b) h (fun _ h=>a6I.rt h) (e68 r) fun hI=>sk [] [0,1,12,13] [] hI)
def a6d:FS (Bool):=⟨54,Tryz.f54,[.val [] []],[none,none],[.val [some 1] [],.val [some 1] []],fun r=>.b r,fun _=>[none,none],Tryz.func54⟩
def c9W:Unit->KS:=fun _=>⟨a6d.k 4 [false,false],(bs 26 []),[some []]⟩
def c9j:Option Bool:=
 some true
theorem f1H(r):NF a6d r c9W (fun s=>c9j):=fun _ h=>PK<|rg<|fE h
def e6S(a:List Bool)(b:List Bool):Int->KS:=fun v13=>⟨a6d.k 3 [false],(j8 1 eB a::(j8 1 eB b::(bs 10 (vi (a.length:Int)::(vi v13::(bs 12 [])))))),[some []]⟩
def b5L(a:List Bool)(b:List Bool)(v13:Int):Option (l7 Bool Int Unit):=
 (bif decide (v13<(a.length:Int)) then ((idx a v13).bind fun y=>((idx b v13).bind fun y1=>(bif (!(y==y1)) then some (l7.ret false) else some (l7.nxt (m8 (v13+1)))))) else some (l7.brk ()))
theorem e4q(a b):LQ a6d c9W (e6S a b) (fun s=>b5L a b s):=fun lc v13 h=>PK<|rg<|j6 0 h (fun h=>n7<|u9 eB 2 h fun y hy h=>u9 eB 6 h fun y1 hy1 h=>j6 8 h (fun h=>rg<|fL lc h) (fun h=>rg<|(lc.nx h fun hI=>sk [] [0,1,12,13] [] hI))) (fun h=>(lc.bk h fun hI=>sk [] [] [] hI))
def b3I(a:List Bool)(b:List Bool):Option Bool:=
 (bif ((a.length:Int) != (b.length:Int)) then some false else ((o9 (fun s:Int=>b5L a b s) 0).bind fun x=>x.go (fun r=>some r) fun s=>c9j))
theorem d2b{a b}:OK a6d [j8 1 eB a,j8 1 eB b] (b3I a b):=
 o8 _ fun r h=>n7<|j6 4 h (fun h=>rg<|fE h) (fun h=>rg<|lp (e4q a b) h (fun _ h=>a6d.rt h) (f1H r) fun hI=>sk [] [0,1,12,13] [] hI)
def a8y:FS (Bool):=⟨57,Tryz.f57,[.val [] []],[none,none],[.val [some 4] [],.val [some 4] []],fun r=>.b r,fun _=>[none,none],Tryz.func57⟩
def d1R:Unit->KS:=fun _=>⟨a8y.k 4 [false,false],(bs 26 []),[some []]⟩
def d26:Option Bool:=
 some true
theorem f1z(r):NF a8y r d1R (fun s=>d26):=fun _ h=>PK<|rg<|fE h
def e4h(a:List n9)(b:List n9):Int->KS:=fun v13=>⟨a8y.k 3 [false],(j8 4 A0 a::(j8 4 A0 b::(bs 10 (vi (a.length:Int)::(vi v13::(bs 12 [])))))),[some []]⟩
def b7l(a:List n9)(b:List n9)(v13:Int):Option (l7 Bool Int Unit):=
 (bif decide (v13<(a.length:Int)) then ((idx a v13).bind fun ins=>((idx b v13).bind fun b4x=>(bif (!(([ins.a9,ins.A,ins.B,ins.N]:List Int)==[b4x.a9,b4x.A,b4x.B,b4x.N])) then some (l7.ret false) else some (l7.nxt (m8 (v13+1)))))) else some (l7.brk ()))
theorem e9V(a b):LQ a8y d1R (e4h a b) (fun s=>b7l a b s):=fun lc v13 h=>PK<|rg<|j6 0 h (fun h=>n7<|u9 A0 2 h fun ins hins h=>u9 A0 6 h fun b4x f5O h=>j6 8 h (fun h=>rg<|fL lc h) (fun h=>rg<|(lc.nx h fun hI=>sk [] [0,1,12,13] [] hI))) (fun h=>(lc.bk h fun hI=>sk [] [] [] hI))
def c2D(a:List n9)(b:List n9):Option Bool:=
 (bif ((a.length:Int) != (b.length:Int)) then some false else ((o9 (fun s:Int=>b7l a b s) 0).bind fun x=>x.go (fun r=>some r) fun s=>d26))
theorem f2T{a b}:OK a8y [j8 4 A0 a,j8 4 A0 b] (c2D a b):=
 o8 _ fun r h=>n7<|j6 4 h (fun h=>rg<|fE h) (fun h=>rg<|lp (e9V a b) h (fun _ h=>a8y.rt h) (f1z r) fun hI=>sk [] [0,1,12,13] [] hI)
def c35:FS (Bool):=⟨21,Tryz.f21,[.val [] []],[none,none],[.val [some 4] [],.val [some 4] []],fun r=>.b r,fun _=>[none,none],Tryz.func21⟩
def b3v(a:List n9)(b:List n9):Option Bool:=
 ((c2D a b).bind fun ins=>some ins)
theorem d1m{a b}:OK c35 [j8 4 A0 a,j8 4 A0 b] (b3v a b):=
 o8 _ fun r h=>n7<|l8 a8y f2T 2 h fun ins h=>fE h
def d4t:FS (Bool):=⟨19,Tryz.f19,[.val [] []],[none,none],[.val A8 [],.val A8 []],fun r=>.b r,fun _=>[none,none],Tryz.func19⟩
def b5d(a:j7)(b:j7):Option Bool:=
 (bif (a.Id==b.Id) then ((c49 a.Acc b.Acc).bind fun c9J=>(bif c9J then ((b2y a.a5 b.a5).bind fun c7R=>(bif c7R then (bif (a.Seq==b.Seq) then (bif (a.d8==b.d8) then (bif (a.a8==b.a8) then ((b3I a.c9 b.c9).bind fun bool=>(bif bool then ((a9U a.i5 b.i5).bind fun a6h=>(bif a6h then ((W0 a.d6 b.d6).bind fun G3=>(bif G3 then ((b3I a.a7 b.a7).bind fun b0T=>(bif b0T then (bif (a.i9==b.i9) then ((b3v a.i7 b.i7).bind fun b4h=>(bif b4h then ((W0 a.b7 b.b7).bind fun d54=>(bif d54 then ((b2y a.d9 b.d9).bind fun c8J=>some c8J) else some false)) else some false)) else some false) else some false)) else some false)) else some false)) else some false)) else some false) else some false) else some false) else some false)) else some false)) else some false)
theorem f0S{a b}:OK d4t [.agg (w9 a),.agg (w9 b)] (b5d a b):=
 o8 _ fun r h=>n7<|j6 5 h (fun h=>l8 d6S e1b 10 h fun c9J h=>j6 12 h (fun h=>l8 a6I d1Q 17 h fun c7R h=>j6 19 h (fun h=>j6 26 h (fun h=>j6 33 h (fun h=>j6 40 h (fun h=>l8 a6d d2b 45 h fun bool h=>j6 47 h (fun h=>l8 a4H c4R 52 h fun a6h h=>j6 54 h (fun h=>l8 a06 a09 59 h fun G3 h=>j6 61 h (fun h=>l8 a6d d2b 66 h fun b0T h=>j6 68 h (fun h=>j6 75 h (fun h=>l8 c35 d1m 80 h fun b4h h=>j6 82 h (fun h=>l8 a06 a09 87 h fun d54 h=>j6 89 h (fun h=>l8 a6I d1Q 94 h fun c8J h=>fE h) (fun h=>fE h)) (fun h=>fE h)) (fun h=>fE h)) (fun h=>fE h)) (fun h=>fE h)) (fun h=>fE h)) (fun h=>fE h)) (fun h=>fE h)) (fun h=>fE h)) (fun h=>fE h)) (fun h=>fE h)) (fun h=>fE h)) (fun h=>fE h)
def c9u:FS (Bool):=⟨20,Tryz.f20,[.val [] []],[none,none],[.val B9 [],.val B9 []],fun r=>.b r,fun _=>[none,none],Tryz.func20⟩
def c0N(a:l9)(b:l9):Option Bool:=
 (bif (a.a9==b.a9) then (bif (a.c9==b.c9) then (bif (a.To==b.To) then (bif (a.a8==b.a8) then (bif (a.g8==b.g8) then ((W0 a.i0 b.i0).bind fun G3=>(bif G3 then ((a9U a.a7 b.a7).bind fun a6h=>some a6h) else some false)) else some false) else some false) else some false) else some false) else some false)
theorem e5o{a b}:OK c9u [.agg (s6 a),.agg (s6 b)] (c0N a b):=
 o8 _ fun r h=>n7<|j6 5 h (fun h=>j6 12 h (fun h=>j6 19 h (fun h=>j6 26 h (fun h=>j6 33 h (fun h=>l8 a06 a09 38 h fun G3 h=>j6 40 h (fun h=>l8 a4H c4R 45 h fun a6h h=>fE h) (fun h=>fE h)) (fun h=>fE h)) (fun h=>fE h)) (fun h=>fE h)) (fun h=>fE h)) (fun h=>fE h)
def V4:FS (Bool):=⟨7,Tryz.f7,[.val [] []],[none,none],[.val D4 [],.val D4 []],fun r=>.b r,fun _=>[none,none],Tryz.func7⟩
def d2S(a:m4)(b:m4):Unit->KS:=fun _=>⟨V4.k 4 [false,false],(bs 2 (.ptr 1 0 0::(.ptr 2 0 0::(bs 111 [])))),[some [],some [.var 28 (D5 a)],some [.var 28 (D5 b)]]⟩
def d0r(a:m4)(b:m4):Unit->KS:=fun _=>⟨V4.k 6 [false,false,false],(bs 2 (.ptr 1 0 0::(.ptr 2 0 0::(bs 111 [])))),[some [],some [.var 28 (D5 a)],some [.var 28 (D5 b)]]⟩
def d3S:Unit->KS:=fun _=>⟨V4.k 8 [false,false,false,false],(bs 115 []),[some []]⟩
def d2N:Option Bool:=
 some true
theorem f3v(r):NF V4 r d3S (fun s=>d2N):=fun _ h=>PK<|rg<|fE h
def f2r(a:m4)(b:m4):Int->KS:=fun v82=>⟨V4.k 7 [false,false,false],(bs 2 (.ptr 1 0 0::(.ptr 2 0 0::(bs 77 (vi (a.d7.length:Int)::(vi v82::(bs 32 []))))))),[some [],some [.var 28 (D5 a)],some [.var 28 (D5 b)]]⟩
def b9S(a:m4)(b:m4)(v82:Int):Option (l7 Bool Int Unit):=
 (bif decide (v82<(a.d7.length:Int)) then ((idx a.d7 v82).bind fun asked=>((idx b.d7 v82).bind fun a3a=>(bif (!(([asked.a0.c8,asked.a0.Seq]:List Int)==[a3a.a0.c8,a3a.a0.Seq])) then some (l7.ret false) else ((b3v asked.i7 a3a.i7).bind fun b4h=>(bif (!b4h) then some (l7.ret false) else some (l7.nxt (m8 (v82+1)))))))) else some (l7.brk ()))
theorem d8I(a b):LQ V4 d3S (f2r a b) (fun s=>b9S a b s):=fun lc v82 h=>PK<|rg<|j6 0 h (fun h=>n7<|u9 A2 3 h fun asked a8W h=>u9 A2 9 h fun a3a b00 h=>j6 13 h (fun h=>rg<|fL lc h) (fun h=>I8 A2 17 a8W<|I8 A2 23 b00<|l8 c35 d1m 26 h fun b4h h=>j6 28 h (fun h=>rg<|fL lc h) (fun h=>rg<|(lc.nx h fun hI=>sk [] [2,3,81,82] [(1,0),(2,0)] hI)))) (fun h=>(lc.bk h fun hI=>sk [] [] [] hI))
def c54(a:m4)(b:m4):Option Bool:=
 ((o9 (fun s:Int=>b9S a b s) 0).bind fun x=>x.go (fun r=>some r) fun s=>d2N)
theorem e9D(a b)(r):NF V4 r (d0r a b) (fun s=>c54 a b):=fun _ h=>PK<|rg<|lp (d8I a b) h (fun _ h=>V4.rt h) (f3v r) fun hI=>sk [] [2,3,81,82] [(1,0),(2,0)] hI
def e3Q(a:m4)(b:m4):Int->KS:=fun v63=>⟨V4.k 5 [false,false],(bs 2 (.ptr 1 0 0::(.ptr 2 0 0::(bs 58 (vi (a.b9.length:Int)::(vi v63::(bs 51 []))))))),[some [],some [.var 28 (D5 a)],some [.var 28 (D5 b)]]⟩
def b9G(a:m4)(b:m4)(v63:Int):Option (l7 Bool Int Unit):=
 (bif decide (v63<(a.b9.length:Int)) then ((idx a.b9 v63).bind fun msg=>((idx b.b9 v63).bind fun b2D=>((c0N msg b2D).bind fun d4m=>(bif (!d4m) then some (l7.ret false) else some (l7.nxt (m8 (v63+1))))))) else some (l7.brk ()))
theorem e1L(a b):LQ V4 (d0r a b) (e3Q a b) (fun s=>b9G a b s):=fun lc v63 h=>PK<|rg<|j6 0 h (fun h=>n7<|u9 s6 3 h fun msg hmsg h=>u9 s6 8 h fun b2D b1X h=>l8 c9u e5o 10 h fun d4m h=>j6 11 h (fun h=>rg<|fL lc h) (fun h=>rg<|(lc.nx h fun hI=>sk [] [2,3,62,63] [(1,0),(2,0)] hI))) (fun h=>(lc.bk h fun hI=>sk [] [2,3] [(1,0),(2,0)] hI))
def c1k(a:m4)(b:m4):Option Bool:=
 ((o9 (fun s:Int=>b9G a b s) 0).bind fun x=>x.go (fun r=>some r) fun s=>c54 a b)
theorem e7O(a b)(r):NF V4 r (d2S a b) (fun s=>c1k a b):=fun _ h=>PK<|rg<|lp (e1L a b) h (fun _ h=>V4.rt h) (e9D a b r) fun hI=>sk [] [2,3,62,63] [(1,0),(2,0)] hI
def e1W(a:m4)(b:m4):Int->KS:=fun v44=>⟨V4.k 3 [false],(bs 2 (.ptr 1 0 0::(.ptr 2 0 0::(bs 39 (vi (a.a6.length:Int)::(vi v44::(bs 70 []))))))),[some [],some [.var 28 (D5 a)],some [.var 28 (D5 b)]]⟩
def b6m(a:m4)(b:m4)(v44:Int):Option (l7 Bool Int Unit):=
 (bif decide (v44<(a.a6.length:Int)) then ((idx a.a6 v44).bind fun node=>((idx b.a6 v44).bind fun node1=>((b5d node node1).bind fun d2h=>(bif (!d2h) then some (l7.ret false) else some (l7.nxt (m8 (v44+1))))))) else some (l7.brk ()))
theorem f0e(a b):LQ V4 (d2S a b) (e1W a b) (fun s=>b6m a b s):=fun lc v44 h=>PK<|rg<|j6 0 h (fun h=>n7<|u9 w9 3 h fun node hnode h=>u9 w9 8 h fun node1 a1K h=>l8 d4t f0S 10 h fun d2h h=>j6 11 h (fun h=>rg<|fL lc h) (fun h=>rg<|(lc.nx h fun hI=>sk [] [2,3,43,44] [(1,0),(2,0)] hI))) (fun h=>(lc.bk h fun hI=>sk [] [2,3] [(1,0),(2,0)] hI))
def b6M(a:m4)(b:m4):Option Bool:=
 (bif ((a.a6.length:Int) != (b.a6.length:Int)) then some false else (bif ((a.b9.length:Int) != (b.b9.length:Int)) then some false else (bif ((a.d7.length:Int) != (b.d7.length:Int)) then some false else ((b9e a.Told b.Told).bind fun told=>(bif (!told) then some false else ((o9 (fun s:Int=>b6m a b s) 0).bind fun x=>x.go (fun r=>some r) fun s=>c1k a b))))))
theorem e0E{a b}:OK V4 [.agg (P4 a),.agg (P4 b)] (b6M a b):=
 o8 _ fun r h=>n7<|j6 7 h (fun h=>rg<|fE h) (fun h=>j6 16 h (fun h=>rg<|fE h) (fun h=>j6 25 h (fun h=>rg<|fE h) (fun h=>l8 a7k e4M 30 h fun told h=>j6 32 h (fun h=>rg<|fE h) (fun h=>rg<|lp (f0e a b) h (fun _ h=>V4.rt h) (e7O a b r) fun hI=>sk [] [2,3,43,44] [(1,0),(2,0)] hI))))
def c5s:FS (m4):=⟨10,Tryz.f10,[.val D4 []],[none,none],[.val D4 [],.val [none,none,some 4] []],fun r=>.agg (P4 r),fun _=>[none,none],Tryz.func10⟩
def b2Y(w:m4)(e_:q9):Option m4:=
 ((a2h w).bind fun B6=>(bif (!B6) then some (m4.mk [] [] [] []) else ((b2W w e_).bind fun b3U=>some b3U)))
theorem c7S{w e_}:OK c5s [.agg (P4 w),.agg (H2 e_)] (b2Y w e_):=
 o8 _ fun r h=>n7<|l8 L1 a5o 1 h fun B6 h=>j6 2 h (fun h=>rg<|fE h) (fun h=>rg<|l8 a2R c8r 2 h fun b3U h=>fE h)
def a00:FS (Bool):=⟨26,Tryz.f26,[.val [] []],[none],[.val D4 []],fun r=>.b r,fun _=>[none],Tryz.func26⟩
def c0u:Unit->KS:=fun _=>⟨a00.k 4 [false,false],(bs 53 []),[some []]⟩
def d1e:Option Bool:=
 some true
theorem e44(r):NF a00 r c0u (fun s=>d1e):=fun _ h=>PK<|rg<|fE h
def d42(w:m4):Int->KS:=fun v14=>⟨a00.k 3 [false],(bs 1 (.ptr 1 0 0::(bs 10 (j8 27 w9 w.a6::(vi (w.a6.length:Int)::(vi v14::(bs 38 []))))))),[some [],some [.var 28 (D5 w)]]⟩
def c1R(w:m4)(v14:Int):Unit->KS:=fun _=>⟨a00.k 7 [false,true,false],(bs 1 (.ptr 1 0 0::(bs 10 (j8 27 w9 w.a6::(vi (w.a6.length:Int)::(vi v14::(bs 38 []))))))),[some [],some [.var 28 (D5 w)]]⟩
def c6g(v14:Int):Option (l7 Bool Int Unit):=
 some (l7.nxt (m8 (v14+1)))
theorem e9a(w v14)(lc:F8 a00 c0u (d42 w)):NL lc (c1R w v14) (fun s=>c6g v14):=fun _ h=>PK<|rg<|(lc.nx h fun hI=>sk [] [1,12,13,14] [(1,0)] hI)
def d4T(w:m4)(v14:Int)(node:j7):Int->KS:=fun v21=>⟨a00.k 6 [false,true],(bs 1 (.ptr 1 0 0::(bs 2 (.ptr 2 0 0::(bs 7 (j8 27 w9 w.a6::(vi (w.a6.length:Int)::(vi v14::(bs 4 (j8 27 w9 w.a6::(vi (w.a6.length:Int)::(vi v21::(bs 31 []))))))))))))),[some [],some [.var 28 (D5 w)],some [.var 52 (Y2 node)]]⟩
def c7F(w:m4)(v14:Int)(node:j7)(v21:Int):Unit->KS:=fun _=>⟨a00.k 10 [false,true,true,false],(bs 1 (.ptr 1 0 0::(bs 2 (.ptr 2 0 0::(bs 7 (j8 27 w9 w.a6::(vi (w.a6.length:Int)::(vi v14::(bs 4 (j8 27 w9 w.a6::(vi (w.a6.length:Int)::(vi v21::(bs 31 []))))))))))))),[some [],some [.var 28 (D5 w)],some [.var 52 (Y2 node)]]⟩
def c6C(v21:Int):Option (l7 Bool Int Unit):=
 some (l7.nxt (m8 (v21+1)))
theorem e8j(w v14 node v21)(lc:F8 a00 (c1R w v14) (d4T w v14 node)):NL lc (c7F w v14 node v21) (fun s=>c6C v21):=fun _ h=>PK<|rg<|(lc.nx h fun hI=>sk [] [1,4,12,13,14,19,20,21] [(1,0),(2,0)] hI)
def e7P(w:m4)(v14:Int)(node:j7)(v21:Int)(node1:j7):Int->KS:=fun i=>⟨a00.k 9 [false,true,true],(bs 1 (.ptr 1 0 0::(bs 2 (.ptr 2 0 0::(bs 1 (.ptr 3 0 0::(vi i::(bs 4 (j8 27 w9 w.a6::(vi (w.a6.length:Int)::(vi v14::(bs 4 (j8 27 w9 w.a6::(vi (w.a6.length:Int)::(vi v21::(bs 31 [])))))))))))))))),[some [],some [.var 28 (D5 w)],some [.var 52 (Y2 node)],some [.var 52 (Y2 node1)]]⟩
def b1t(node:j7)(node1:j7)(i:Int):Option (l7 Bool Int Unit):=
 (bif decide (i<(node.a5.length:Int)) then (bif decide (i<(node1.a5.length:Int)) then ((idx node.a5 i).bind fun entry=>((idx node1.a5 i).bind fun a6r=>((W0 entry a6r).bind fun G3=>(bif (!G3) then some (l7.ret false) else some (l7.nxt (m8 (i+1))))))) else some (l7.brk ())) else some (l7.brk ()))
theorem f3Q(w v14 node v21 node1):LQ a00 (c7F w v14 node v21) (e7P w v14 node v21 node1) (fun s=>b1t node node1 s):=fun lc i h=>PK<|rg<|j6 5 h (fun h=>j6 11 h (fun h=>rg<|u9 t6 3 h fun entry G9 h=>u9 t6 8 h fun a6r a9q h=>l8 a06 a09 10 h fun G3 h=>j6 11 h (fun h=>rg<|fL lc h) (fun h=>rg<|(lc.nx h fun hI=>sk [] [1,4,6,7,12,13,14,19,20,21] [(1,0),(2,0),(3,0)] hI))) (fun h=>(lc.bk h fun hI=>sk [] [1,4,12,13,14,19,20,21] [(1,0),(2,0)] hI))) (fun h=>(lc.bk h fun hI=>sk [] [1,4,12,13,14,19,20,21] [(1,0),(2,0)] hI))
def b3Y(w:m4)(node:j7)(v21:Int):Option (l7 Bool Int Unit):=
 (bif decide (v21<(w.a6.length:Int)) then ((idx w.a6 v21).bind fun node1=>((o9 (fun s:Int=>b1t node node1 s) 0).bind fun x=>x.go (fun r=>some (l7.ret r)) fun s=>c6C v21)) else some (l7.brk ()))
theorem e3m(w v14 node):LQ a00 (c1R w v14) (d4T w v14 node) (fun s=>b3Y w node s):=fun lc v21 h=>PK<|rg<|j6 0 h (fun h=>rg<|u9 w9 0 h fun node1 a1K h=>rg<|lp (f3Q w v14 node v21 node1) h (fun _ h=>lc.rt h) (e8j w v14 node v21 lc) fun hI=>sk [] [1,4,6,7,12,13,14,19,20,21] [(1,0),(2,0),(6,0)] hI) (fun h=>(lc.bk h fun hI=>sk [] [1,12,13,14] [(1,0)] hI))
def b6p(w:m4)(v14:Int):Option (l7 Bool Int Unit):=
 (bif decide (v14<(w.a6.length:Int)) then ((idx w.a6 v14).bind fun node=>((o9 (fun s:Int=>b3Y w node s) 0).bind fun x=>x.go (fun r=>some (l7.ret r)) fun s=>c6g v14)) else some (l7.brk ()))
theorem f1k(w):LQ a00 c0u (d42 w) (fun s=>b6p w s):=fun lc v14 h=>PK<|rg<|j6 0 h (fun h=>rg<|u9 w9 0 h fun node hnode h=>rg<|lp (e3m w v14 node) h (fun _ h=>lc.rt h) (e9a w v14 lc) fun hI=>sk [] [1,4,12,13,14,19,20,21] [(1,0),(5,0)] hI) (fun h=>(lc.bk h fun hI=>sk [] [] [] hI))
def b1N(w:m4):Option Bool:=
 ((a2h w).bind fun B6=>(bif (!B6) then some false else ((o9 (fun s:Int=>b6p w s) 0).bind fun x=>x.go (fun r=>some r) fun s=>d1e)))
theorem e6G{w}:OK a00 [.agg (P4 w)] (b1N w):=
 o8 _ fun r h=>n7<|l8 L1 a5o 1 h fun B6 h=>j6 2 h (fun h=>rg<|fE h) (fun h=>rg<|lp (f1k w) h (fun _ h=>a00.rt h) (e44 r) fun hI=>sk [] [1,12,13,14] [(1,0)] hI)
def Z5:FS (Bool):=⟨27,Tryz.f27,[.val [] []],[none],[.val D4 []],fun r=>.b r,fun _=>[none],Tryz.func27⟩
def c2u:Unit->KS:=fun _=>⟨Z5.k 4 [false,false],(bs 80 []),[some []]⟩
def c9U:Option Bool:=
 some true
theorem e0e(r):NF Z5 r c2u (fun s=>c9U):=fun _ h=>PK<|rg<|fE h
def d4G(w:m4):Int->KS:=fun v16=>⟨Z5.k 3 [false],(bs 1 (.ptr 1 0 0::(bs 12 (j8 27 w9 w.a6::(vi (w.a6.length:Int)::(vi v16::(bs 63 []))))))),[some [],some [.var 28 (D5 w)]]⟩
def c3x(w:m4)(v16:Int):Unit->KS:=fun _=>⟨Z5.k 7 [false,true,false],(bs 1 (.ptr 1 0 0::(bs 12 (j8 27 w9 w.a6::(vi (w.a6.length:Int)::(vi v16::(bs 63 []))))))),[some [],some [.var 28 (D5 w)]]⟩
def c5K(v16:Int):Option (l7 Bool Int Unit):=
 some (l7.nxt (m8 (v16+1)))
theorem f0A(w v16)(lc:F8 Z5 c2u (d4G w)):NL lc (c3x w v16) (fun s=>c5K v16):=fun _ h=>PK<|rg<|(lc.nx h fun hI=>sk [] [1,14,15,16] [(1,0)] hI)
def d6d(w:m4)(v16:Int)(node:j7):Int->KS:=fun v23=>⟨Z5.k 6 [false,true],(bs 1 (.ptr 1 0 0::(bs 2 (.ptr 2 0 0::(bs 9 (j8 27 w9 w.a6::(vi (w.a6.length:Int)::(vi v16::(bs 4 (j8 27 w9 w.a6::(vi (w.a6.length:Int)::(vi v23::(bs 56 []))))))))))))),[some [],some [.var 28 (D5 w)],some [.var 52 (Y2 node)]]⟩
def c22(w:m4)(v16:Int)(node:j7)(v23:Int):Unit->KS:=fun _=>⟨Z5.k 11 [false,true,true,false],(bs 1 (.ptr 1 0 0::(bs 2 (.ptr 2 0 0::(bs 9 (j8 27 w9 w.a6::(vi (w.a6.length:Int)::(vi v16::(bs 4 (j8 27 w9 w.a6::(vi (w.a6.length:Int)::(vi v23::(bs 56 []))))))))))))),[some [],some [.var 28 (D5 w)],some [.var 52 (Y2 node)]]⟩
def c5g(v23:Int):Option (l7 Bool Int Unit):=
 some (l7.nxt (m8 (v23+1)))
theorem d9k(w v16 node v23)(lc:F8 Z5 (c3x w v16) (d6d w v16 node)):NL lc (c22 w v16 node v23) (fun s=>c5g v23):=fun _ h=>PK<|rg<|(lc.nx h fun hI=>sk [] [1,4,14,15,16,21,22,23] [(1,0),(2,0)] hI)
def d24(w:m4)(v16:Int)(node:j7)(v23:Int)(node1:j7):Int->KS:=fun i=>⟨Z5.k 10 [false,true,true],(bs 1 (.ptr 1 0 0::(bs 2 (.ptr 2 0 0::(bs 2 (j8 8 p9 node.Acc.a7::(j8 8 p9 node1.Acc.a7::(vi i::(bs 4 (j8 27 w9 w.a6::(vi (w.a6.length:Int)::(vi v16::(bs 4 (j8 27 w9 w.a6::(vi (w.a6.length:Int)::(vi v23::(bs 56 []))))))))))))))))),[some [],some [.var 28 (D5 w)],some [.var 52 (Y2 node)]]⟩
def f0B(w:m4)(v16:Int)(node:j7)(v23:Int)(node1:j7)(i:Int):Unit->KS:=fun _=>⟨Z5.k 12 [false,true,true,true,false],(bs 1 (.ptr 1 0 0::(bs 2 (.ptr 2 0 0::(bs 2 (j8 8 p9 node.Acc.a7::(j8 8 p9 node1.Acc.a7::(vi i::(bs 4 (j8 27 w9 w.a6::(vi (w.a6.length:Int)::(vi v16::(bs 4 (j8 27 w9 w.a6::(vi (w.a6.length:Int)::(vi v23::(bs 56 []))))))))))))))))),[some [],some [.var 28 (D5 w)],some [.var 52 (Y2 node)]]⟩
def c3t(i:Int):Option (l7 Bool Int Unit):=
 some (l7.nxt (m8 (i+1)))
theorem e9z(w v16 node v23 node1 i)(lc:F8 Z5 (c22 w v16 node v23) (d24 w v16 node v23 node1)):NL lc (f0B w v16 node v23 node1 i) (fun s=>c3t i):=fun _ h=>PK<|rg<|(lc.nx h fun hI=>sk [] [1,4,7,8,9,14,15,16,21,22,23] [(1,0),(2,0)] hI)
def b3x(node:j7)(node1:j7)(i:Int):Option (l7 Bool Int Unit):=
 (bif decide (i<(node.Acc.a7.length:Int)) then (bif decide (i<(node1.Acc.a7.length:Int)) then ((((idx node.Acc.a7 i).bind fun vote=>(bif (vote.a8 != 0) then ((idx node1.Acc.a7 i).bind fun O4=>(bif (vote.a8==O4.a8) then ((W0 vote.i0 O4.i0).bind fun G3=>(bif (!G3) then some (m5.ret (l7.ret false)) else some (m5.brk ()))) else some (m5.brk ()))) else some (m5.brk ()))):Option (m5 (l7 Bool Int Unit) Unit)).bind fun x=>x.go some fun j=>c3t i) else some (l7.brk ())) else some (l7.brk ()))
theorem e9E(w v16 node v23 node1):LQ Z5 (c22 w v16 node v23) (d24 w v16 node v23 node1) (fun s=>b3x node node1 s):=fun lc i h=>PK<|rg<|j6 4 h (fun h=>j6 9 h (fun h=>A9 h (e9z w v16 node v23 node1 i lc) fun x4 h hc4=>rg<|u9 p9 2 h fun vote J3 h=>j6 6 h (fun h=>I8 p9 9 J3<|u9 p9 14 h fun O4 a2j h=>j6 19 h (fun h=>I8 p9 22 J3<|I8 p9 27 a2j<|l8 a06 a09 30 h fun G3 h=>j6 32 h (fun h=>rg<|(B8 h hc4 fun h=>fL lc h)) (fun h=>(p8 h hc4 fun hI=>sk [] [1,4,7,8,9,14,15,16,21,22,23] [(1,0),(2,0)] hI))) (fun h=>(p8 h hc4 fun hI=>sk [] [1,4,7,8,9,14,15,16,21,22,23] [(1,0),(2,0)] hI))) (fun h=>(p8 h hc4 fun hI=>sk [] [1,4,7,8,9,14,15,16,21,22,23] [(1,0),(2,0)] hI))) (fun h=>(lc.bk h fun hI=>sk [] [1,4,14,15,16,21,22,23] [(1,0),(2,0)] hI))) (fun h=>(lc.bk h fun hI=>sk [] [1,4,14,15,16,21,22,23] [(1,0),(2,0)] hI))
def b2F(w:m4)(node:j7)(v23:Int):Option (l7 Bool Int Unit):=
 (bif decide (v23<(w.a6.length:Int)) then ((idx w.a6 v23).bind fun node1=>((o9 (fun s:Int=>b3x node node1 s) 0).bind fun x=>x.go (fun r=>some (l7.ret r)) fun s=>c5g v23)) else some (l7.brk ()))
theorem e57(w v16 node):LQ Z5 (c3x w v16) (d6d w v16 node) (fun s=>b2F w node s):=fun lc v23 h=>PK<|rg<|j6 0 h (fun h=>rg<|u9 w9 0 h fun node1 a1K h=>n7<|lp (e9E w v16 node v23 node1) h (fun _ h=>lc.rt h) (d9k w v16 node v23 lc) fun hI=>sk [] [1,4,7,8,9,14,15,16,21,22,23] [(1,0),(2,0)] hI) (fun h=>(lc.bk h fun hI=>sk [] [1,14,15,16] [(1,0)] hI))
def b8f(w:m4)(v16:Int):Option (l7 Bool Int Unit):=
 (bif decide (v16<(w.a6.length:Int)) then ((idx w.a6 v16).bind fun node=>((o9 (fun s:Int=>b2F w node s) 0).bind fun x=>x.go (fun r=>some (l7.ret r)) fun s=>c5K v16)) else some (l7.brk ()))
theorem e3l(w):LQ Z5 c2u (d4G w) (fun s=>b8f w s):=fun lc v16 h=>PK<|rg<|j6 0 h (fun h=>rg<|u9 w9 0 h fun node hnode h=>rg<|lp (e57 w v16 node) h (fun _ h=>lc.rt h) (f0A w v16 lc) fun hI=>sk [] [1,4,14,15,16,21,22,23] [(1,0),(5,0)] hI) (fun h=>(lc.bk h fun hI=>sk [] [] [] hI))
def b19(w:m4):Option Bool:=
 ((a2h w).bind fun B6=>(bif (!B6) then some false else ((o9 (fun s:Int=>b8f w s) 0).bind fun x=>x.go (fun r=>some r) fun s=>c9U)))
theorem f2j{w}:OK Z5 [.agg (P4 w)] (b19 w):=
 o8 _ fun r h=>n7<|l8 L1 a5o 1 h fun B6 h=>j6 2 h (fun h=>rg<|fE h) (fun h=>rg<|lp (e3l w) h (fun _ h=>Z5.rt h) (e0e r) fun hI=>sk [] [1,14,15,16] [(1,0)] hI)
def a49:FS (Int):=⟨72,Tryz.f72,[.val [] []],[none,none,none],[.val D4 [],.val [] [],.val K4 []],fun r=>vi r,fun _=>[none,none,none],Tryz.func72⟩
def c3P:Int->KS:=fun n1=>⟨a49.k 4 [false],(bs 7 (vi n1::(bs 40 []))),[some []]⟩
def d4r(n1:Int):Option Int:=
 some n1
theorem e07(r):NF a49 r c3P (fun s=>d4r s):=fun n1 h=>PK<|rg<|fE h
def d5r(w:m4)(at_:Int)(e_:m6):(Int×Int)->KS:=fun (v13,n)=>⟨a49.k 3 [],(bs 1 (vi at_::(bs 3 (.ptr 1 0 0::(bs 1 (vi n::(bs 3 (j8 27 w9 w.a6::(vi (w.a6.length:Int)::(vi v13::(bs 34 []))))))))))),[some [],some [.var 50 (a3h e_)]]⟩
def d7V(w:m4)(at_:Int)(e_:m6)(v13:Int):Int->KS:=fun n2=>⟨a49.k 7 [true,true],(bs 1 (vi at_::(bs 3 (.ptr 1 0 0::(bs 1 (vi n2::(bs 3 (j8 27 w9 w.a6::(vi (w.a6.length:Int)::(vi v13::(bs 34 []))))))))))),[some [],some [.var 50 (a3h e_)]]⟩
def c48(v13:Int)(n2:Int):Option (l7 Int (Int×Int) Int):=
 some (l7.nxt (m8 (v13+1),n2))
theorem f2c(w at_ e_ v13)(lc:F8 a49 c3P (d5r w at_ e_)):NL lc (d7V w at_ e_ v13) (fun s=>c48 v13 s):=fun n2 h=>PK<|rg<|(lc.nx h fun hI=>sk [] [1,5,7,11,12,13] [(1,0)] hI)
def b0y(w:m4)(at_:Int)(e_:m6)(v13:Int)(n:Int):Option (l7 Int (Int×Int) Int):=
 (bif decide (v13<(w.a6.length:Int)) then ((idx w.a6 v13).bind fun node=>(((bif decide (at_<(node.Acc.a7.length:Int)) then ((idx node.Acc.a7 at_).bind fun vote=>(bif (vote.a8 != 0) then ((W0 vote.i0 e_).bind fun G3=>(bif G3 then some (m5.brk (m8 (n+1))) else some (m5.brk n))) else some (m5.brk n))) else some (m5.brk n)):Option (m5 (l7 Int (Int×Int) Int) Int)).bind fun x=>x.go some fun j=>c48 v13 j)) else some (l7.brk n))
theorem e8S(w at_ e_):LQ a49 c3P (d5r w at_ e_) (fun s=>b0y w at_ e_ s.1 s.2):=fun lc (v13,n) h=>PK<|rg<|j6 0 h (fun h=>rg<|u9 w9 0 h fun node hnode h=>A9 h (f2c w at_ e_ v13 lc) fun x2 h hc2=>rg<|j6 6 h (fun h=>u9 p9 11 h fun vote J3 h=>j6 16 h (fun h=>I8 p9 21 J3<|l8 a06 a09 25 h fun G3 h=>j6 26 h (fun h=>rg<|(p8 h hc2 fun hI=>sk [] [1,5,7,11,12,13] [(1,0)] hI)) (fun h=>(p8 h hc2 fun hI=>sk [] [1,5,7,11,12,13] [(1,0)] hI))) (fun h=>(p8 h hc2 fun hI=>sk [] [1,5,7,11,12,13] [(1,0)] hI))) (fun h=>(p8 h hc2 fun hI=>sk [] [1,5,7,11,12,13] [(1,0)] hI))) (fun h=>(lc.bk h fun hI=>sk [] [7] [] hI))
def b9N(w:m4)(at_:Int)(e_:m6):Option Int:=
 ((o9 (fun s:Int×Int=>b0y w at_ e_ s.1 s.2) (0,0)).bind fun x=>x.go (fun r=>some r) fun s=>d4r s)
theorem e1v{w at_ e_}:OK a49 [.agg (P4 w),vi at_,.agg (t6 e_)] (b9N w at_ e_):=
 o8 _ fun r h=>N7<|lp (e8S w at_ e_) h (fun _ h=>a49.rt h) (e07 r) fun hI=>sk [] [1,5,7,11,12,13] [(2,0)] hI
def a2V:FS (Bool):=⟨28,Tryz.f28,[.val [] []],[none],[.val D4 []],fun r=>.b r,fun _=>[none],Tryz.func28⟩
def c4e:Unit->KS:=fun _=>⟨a2V.k 4 [false,false],(bs 32 []),[some []]⟩
def c98:Option Bool:=
 some true
theorem e3u(r):NF a2V r c4e (fun s=>c98):=fun _ h=>PK<|rg<|fE h
def c7p(w:m4):Int->KS:=fun v13=>⟨a2V.k 3 [false],(bs 1 (.ptr 1 0 0::(bs 9 (j8 27 w9 w.a6::(vi (w.a6.length:Int)::(vi v13::(bs 18 []))))))),[some [],some [.var 28 (D5 w)]]⟩
def c95(w:m4)(v13:Int):Unit->KS:=fun _=>⟨a2V.k 7 [false,true,false],(bs 1 (.ptr 1 0 0::(bs 9 (j8 27 w9 w.a6::(vi (w.a6.length:Int)::(vi v13::(bs 18 []))))))),[some [],some [.var 28 (D5 w)]]⟩
def c1T(v13:Int):Option (l7 Bool Int Unit):=
 some (l7.nxt (m8 (v13+1)))
theorem e7B(w v13)(lc:F8 a2V c4e (c7p w)):NL lc (c95 w v13) (fun s=>c1T v13):=fun _ h=>PK<|rg<|(lc.nx h fun hI=>sk [] [1,11,12,13] [(1,0)] hI)
def e27(w:m4)(v13:Int)(node:j7):Int->KS:=fun v20=>⟨a2V.k 6 [false,true],(bs 1 (.ptr 1 0 0::(bs 9 (j8 27 w9 w.a6::(vi (w.a6.length:Int)::(vi v13::(bs 4 (j8 7 t6 node.a5::(vi (node.a5.length:Int)::(vi v20::(bs 11 []))))))))))),[some [],some [.var 28 (D5 w)]]⟩
def b3n(w:m4)(node:j7)(v20:Int):Option (l7 Bool Int Unit):=
 (bif decide (v20<(node.a5.length:Int)) then ((idx node.a5 v20).bind fun entry=>((b9N w v20 entry).bind fun d2g=>(bif decide (d2g<2) then some (l7.ret false) else some (l7.nxt (m8 (v20+1)))))) else some (l7.brk ()))
theorem d8M(w v13 node):LQ a2V (c95 w v13) (e27 w v13 node) (fun s=>b3n w node s):=fun lc v20 h=>PK<|rg<|j6 0 h (fun h=>rg<|u9 t6 1 h fun entry G9 h=>rg<|l8 a49 e1v 3 h fun d2g h=>j6 4 h (fun h=>rg<|fL lc h) (fun h=>rg<|(lc.nx h fun hI=>sk [] [1,11,12,13,18,19,20] [(1,0)] hI))) (fun h=>(lc.bk h fun hI=>sk [] [1,11,12,13] [(1,0)] hI))
def b8z(w:m4)(v13:Int):Option (l7 Bool Int Unit):=
 (bif decide (v13<(w.a6.length:Int)) then ((idx w.a6 v13).bind fun node=>((o9 (fun s:Int=>b3n w node s) 0).bind fun x=>x.go (fun r=>some (l7.ret r)) fun s=>c1T v13)) else some (l7.brk ()))
theorem e0P(w):LQ a2V c4e (c7p w) (fun s=>b8z w s):=fun lc v13 h=>PK<|rg<|j6 0 h (fun h=>rg<|u9 w9 0 h fun node hnode h=>rg<|lp (d8M w v13 node) h (fun _ h=>lc.rt h) (e7B w v13 lc) fun hI=>sk [] [1,11,12,13,18,19,20] [(1,0)] hI) (fun h=>(lc.bk h fun hI=>sk [] [] [] hI))
def b3k(w:m4):Option Bool:=
 ((a2h w).bind fun B6=>(bif (!B6) then some false else ((o9 (fun s:Int=>b8z w s) 0).bind fun x=>x.go (fun r=>some r) fun s=>c98)))
theorem e59{w}:OK a2V [.agg (P4 w)] (b3k w):=
 o8 _ fun r h=>n7<|l8 L1 a5o 1 h fun B6 h=>j6 2 h (fun h=>rg<|fE h) (fun h=>rg<|lp (e0P w) h (fun _ h=>a2V.rt h) (e3u r) fun hI=>sk [] [1,11,12,13] [(1,0)] hI)
def a0G:FS (Bool):=⟨29,Tryz.f29,[.val [] []],[none],[.val D4 []],fun r=>.b r,fun _=>[none],Tryz.func29⟩
def b8l:Unit->KS:=fun _=>⟨a0G.k 4 [false,false],(bs 80 []),[some []]⟩
def c8T:Option Bool:=
 some true
theorem e2n(r):NF a0G r b8l (fun s=>c8T):=fun _ h=>PK<|rg<|fE h
def c3f(w:m4):Int->KS:=fun v15=>⟨a0G.k 3 [false],(bs 1 (.ptr 1 0 0::(bs 11 (j8 27 w9 w.a6::(vi (w.a6.length:Int)::(vi v15::(bs 64 []))))))),[some [],some [.var 28 (D5 w)]]⟩
def c4z(w:m4)(v15:Int)(node:j7):Unit->KS:=fun _=>⟨a0G.k 7 [false,true,false],(bs 1 (.ptr 1 0 0::(bs 2 (.ptr 2 0 0::(bs 8 (j8 27 w9 w.a6::(vi (w.a6.length:Int)::(vi v15::(bs 64 []))))))))),[some [],some [.var 28 (D5 w)],some [.var 52 (Y2 node)]]⟩
def d73(w:m4)(v15:Int):Unit->KS:=fun _=>⟨a0G.k 12 [false,true,false,false,false,false],(bs 1 (.ptr 1 0 0::(bs 11 (j8 27 w9 w.a6::(vi (w.a6.length:Int)::(vi v15::(bs 64 []))))))),[some [],some [.var 28 (D5 w)]]⟩
def c1t(v15:Int):Option (l7 Bool Int Unit):=
 some (l7.nxt (m8 (v15+1)))
theorem d7r(w v15)(lc:F8 a0G b8l (c3f w)):NL lc (d73 w v15) (fun s=>c1t v15):=fun _ h=>PK<|rg<|(lc.nx h fun hI=>sk [] [1,13,14,15] [(1,0)] hI)
def b64(v15:Int)(node:j7):Option (l7 Bool Int Unit):=
 (bif (node.d8 != 3) then some (l7.nxt (m8 (v15+1))) else (bif decide ((node.a5.length:Int)>=(node.Acc.a7.length:Int)) then some (l7.ret false) else ((idx node.Acc.a7 (node.a5.length:Int)).bind fun vote=>(((bif decide (vote.a8<node.a8) then some (m5.ret (l7.ret false)) else (bif (vote.a8==node.a8) then ((W0 vote.i0 node.d6).bind fun G3=>(bif (!G3) then some (m5.ret (l7.ret false)) else some (m5.brk ()))) else some (m5.brk ()))):Option (m5 (l7 Bool Int Unit) Unit)).bind fun x=>x.go some fun j=>c1t v15))))
theorem f5b(w v15 node)(lc:F8 a0G b8l (c3f w)):NL lc (c4z w v15 node) (fun s=>b64 v15 node):=fun _ h=>PK<|rg<|j6 2 h (fun h=>rg<|(lc.nx h fun hI=>sk [] [1,13,14,15] [(1,0)] hI)) (fun h=>n7<|j6 5 h (fun h=>rg<|fL lc h) (fun h=>rg<|u9 p9 4 h fun vote J3 h=>A9 h (d7r w v15 lc) fun x2 h hc2=>rg<|j6 5 h (fun h=>rg<|(B8 h hc2 fun h=>fL lc h)) (fun h=>j6 11 h (fun h=>l8 a06 a09 16 h fun G3 h=>j6 19 h (fun h=>rg<|(B8 h hc2 fun h=>fL lc h)) (fun h=>(p8 h hc2 fun hI=>sk [] [1,13,14,15] [(1,0)] hI))) (fun h=>(p8 h hc2 fun hI=>sk [] [1,13,14,15] [(1,0)] hI)))))
def d3G(w:m4)(v15:Int)(node:j7):Int->KS:=fun v26=>⟨a0G.k 6 [false,true],(bs 1 (.ptr 1 0 0::(bs 2 (.ptr 2 0 0::(bs 8 (j8 27 w9 w.a6::(vi (w.a6.length:Int)::(vi v15::(bs 8 (j8 27 w9 ((w.a6.drop (m8 (v15+1)).toNat).take (w.a6.length-(m8 (v15+1)).toNat))::(vi (((w.a6.drop (m8 (v15+1)).toNat).take (w.a6.length-(m8 (v15+1)).toNat)).length:Int)::(vi v26::(bs 53 []))))))))))))),[some [],some [.var 28 (D5 w)],some [.var 52 (Y2 node)]]⟩
def d7M(w:m4)(v15:Int)(node:j7)(v26:Int):Unit->KS:=fun _=>⟨a0G.k 9 [false,true,true,false],(bs 1 (.ptr 1 0 0::(bs 2 (.ptr 2 0 0::(bs 8 (j8 27 w9 w.a6::(vi (w.a6.length:Int)::(vi v15::(bs 8 (j8 27 w9 ((w.a6.drop (m8 (v15+1)).toNat).take (w.a6.length-(m8 (v15+1)).toNat))::(vi (((w.a6.drop (m8 (v15+1)).toNat).take (w.a6.length-(m8 (v15+1)).toNat)).length:Int)::(vi v26::(bs 53 []))))))))))))),[some [],some [.var 28 (D5 w)],some [.var 52 (Y2 node)]]⟩
def c5h(v26:Int):Option (l7 Bool Int Unit):=
 some (l7.nxt (m8 (v26+1)))
theorem f4W(w v15 node v26)(lc:F8 a0G (c4z w v15 node) (d3G w v15 node)):NL lc (d7M w v15 node v26) (fun s=>c5h v26):=fun _ h=>PK<|rg<|(lc.nx h fun hI=>sk [] [1,4,13,14,15,24,25,26] [(1,0),(2,0)] hI)
def b1O(w:m4)(v15:Int)(node:j7)(v26:Int):Option (l7 Bool Int Unit):=
 (bif decide (v26<(((w.a6.drop (m8 (v15+1)).toNat).take (w.a6.length-(m8 (v15+1)).toNat)).length:Int)) then ((idx ((w.a6.drop (m8 (v15+1)).toNat).take (w.a6.length-(m8 (v15+1)).toNat)) v26).bind fun node1=>(((bif (node.a8 != 0) then (bif (node.a8==node1.a8) then some (m5.ret (l7.ret false)) else some (m5.brk ())) else some (m5.brk ())):Option (m5 (l7 Bool Int Unit) Unit)).bind fun x=>x.go some fun j=>c5h v26)) else some (l7.brk ()))
theorem e7l(w v15 node):LQ a0G (c4z w v15 node) (d3G w v15 node) (fun s=>b1O w v15 node s):=fun lc v26 h=>PK<|rg<|j6 0 h (fun h=>rg<|u9 w9 0 h fun node1 a1K h=>A9 h (f4W w v15 node v26 lc) fun x3 h hc3=>rg<|j6 3 h (fun h=>j6 9 h (fun h=>rg<|(B8 h hc3 fun h=>fL lc h)) (fun h=>(p8 h hc3 fun hI=>sk [] [1,4,13,14,15,24,25,26] [(1,0),(2,0)] hI))) (fun h=>(p8 h hc3 fun hI=>sk [] [1,4,13,14,15,24,25,26] [(1,0),(2,0)] hI))) (fun h=>(lc.bk h fun hI=>sk [] [1,4,13,14,15] [(1,0),(2,0)] hI))
def b61(w:m4)(v15:Int):Option (l7 Bool Int Unit):=
 (bif decide (v15<(w.a6.length:Int)) then ((idx w.a6 v15).bind fun node=>(t5 ((0:Int)<=m8 (v15+1)/\m8 (v15+1)<=(w.a6.length:Int)) (((o9 (fun s:Int=>b1O w v15 node s) 0).bind fun x=>x.go (fun r=>some (l7.ret r)) fun s=>b64 v15 node)))) else some (l7.brk ()))
theorem e45(w):LQ a0G b8l (c3f w) (fun s=>b61 w s):=fun lc v15 h=>PK<|rg<|j6 0 h (fun h=>rg<|u9 w9 1 h fun node hnode h=>rg<|u0 h fun e1 h=>om (V.sl 27 (w.a6.length-(m8 (v15+1)).toNat) (((w.a6.map w9).drop (m8 (v15+1)).toNat).take (w.a6.length-(m8 (v15+1)).toNat))=j8 27 w9 ((w.a6.drop (m8 (v15+1)).toNat).take (w.a6.length-(m8 (v15+1)).toNat))) (b1C e1)<|ob e1.1<|ob e1.2<|tl (4,{v:=some (j8 27 w9 ((w.a6.drop (m8 (v15+1)).toNat).take (w.a6.length-(m8 (v15+1)).toNat)))})<|lp (e7l w v15 node) h (fun _ h=>lc.rt h) (f5b w v15 node lc) fun hI=>sk [] [1,4,13,14,15,24,25,26] [(1,0),(6,0)] hI) (fun h=>(lc.bk h fun hI=>sk [] [] [] hI))
def b4G(w:m4):Option Bool:=
 ((a2h w).bind fun B6=>(bif (!B6) then some false else ((o9 (fun s:Int=>b61 w s) 0).bind fun x=>x.go (fun r=>some r) fun s=>c8T)))
theorem f1I{w}:OK a0G [.agg (P4 w)] (b4G w):=
 o8 _ fun r h=>n7<|l8 L1 a5o 1 h fun B6 h=>j6 2 h (fun h=>rg<|fE h) (fun h=>rg<|lp (e45 w) h (fun _ h=>a0G.rt h) (e2n r) fun hI=>sk [] [1,13,14,15] [(1,0)] hI)
def a4j:FS (List m6):=⟨73,Tryz.f73,[.val [some 7] []],[none],[.val D4 []],fun r=>j8 7 t6 r,fun _=>[none],Tryz.func73⟩
def c2b(w:m4):Int->KS:=fun b1S=>⟨a4j.k 4 [false],(bs 1 (.ptr 1 0 0::(bs 1 (vi b1S::(bs 36 []))))),[some [],some [.var 28 (D5 w)]]⟩
def c1V(w:m4)(b1S:Int):Option (List m6):=
 (bif decide (b1S<0) then some [] else ((idx w.a6 b1S).bind fun node=>((a9t node.a5).bind fun a8l=>some a8l)))
theorem d91(w)(r):NF a4j r (c2b w) (fun s=>c1V w s):=fun b1S h=>PK<|rg<|j6 1 h (fun h=>rg<|fE h) (fun h=>rg<|u9 w9 3 h fun node hnode h=>l8 a5t c53 6 h fun a8l h=>s9 a8l<|fE h)
def c9v(w:m4):(Int×Int)->KS:=fun (best,v9)=>⟨a4j.k 3 [],(bs 1 (.ptr 1 0 0::(bs 1 (vi best::(bs 3 (j8 27 w9 w.a6::(vi (w.a6.length:Int)::(vi v9::(bs 30 []))))))))),[some [],some [.var 28 (D5 w)]]⟩
def f3W(w:m4)(v9:Int):Int->KS:=fun b8B=>⟨a4j.k 7 [true,true],(bs 1 (.ptr 1 0 0::(bs 1 (vi b8B::(bs 3 (j8 27 w9 w.a6::(vi (w.a6.length:Int)::(vi v9::(bs 30 []))))))))),[some [],some [.var 28 (D5 w)]]⟩
def b4R(v9:Int)(b8B:Int):Option (l7 (List m6) (Int×Int) Int):=
 some (l7.nxt (b8B,m8 (v9+1)))
theorem e4p(w v9)(lc:F8 a4j (c2b w) (c9v w)):NL lc (f3W w v9) (fun s=>b4R v9 s):=fun b8B h=>PK<|rg<|(lc.nx h fun hI=>sk [] [1,3,7,8,9] [(1,0)] hI)
def a4W(w:m4)(best:Int)(v9:Int):Option (l7 (List m6) (Int×Int) Int):=
 (bif decide (v9<(w.a6.length:Int)) then ((idx w.a6 v9).bind fun node1=>(((bif decide (best<0) then some (m5.brk v9) else ((idx w.a6 best).bind fun c7P=>(bif decide ((node1.a5.length:Int)>(c7P.a5.length:Int)) then some (m5.brk v9) else some (m5.brk best)))):Option (m5 (l7 (List m6) (Int×Int) Int) Int)).bind fun x=>x.go some fun j=>b4R v9 j)) else some (l7.brk best))
theorem d98(w):LQ a4j (c2b w) (c9v w) (fun s=>a4W w s.1 s.2):=fun lc (best,v9) h=>PK<|rg<|j6 0 h (fun h=>rg<|u9 w9 1 h fun node1 a1K h=>A9 h (e4p w v9 lc) fun x2 h hc2=>rg<|j6 2 h (fun h=>rg<|(p8 h hc2 fun hI=>sk [] [1,3,7,8,9] [(1,0)] hI)) (fun h=>u9 w9 9 h fun c7P f5S h=>j6 14 h (fun h=>rg<|(p8 h hc2 fun hI=>sk [] [1,3,7,8,9] [(1,0)] hI)) (fun h=>(p8 h hc2 fun hI=>sk [] [1,3,7,8,9] [(1,0)] hI)))) (fun h=>(lc.bk h fun hI=>sk [] [1,3] [(1,0)] hI))
def b1w(w:m4):Option (List m6):=
 ((o9 (fun s:Int×Int=>a4W w s.1 s.2) ((-1),0)).bind fun x=>x.go (fun r=>some r) fun s=>c1V w s)
theorem d0I{w}:OK a4j [.agg (P4 w)] (b1w w):=
 o8 _ fun r h=>N7<|lp (d98 w) h (fun _ h=>a4j.rt h) (d91 w r) fun hI=>sk [] [1,3,7,8,9] [(1,0)] hI
def c0w:FS (List o7):=⟨127,Tryz.f127,[.val [some 2] [some 44]],[none],[.val [some 2] []],fun r=>v5 44 2 J0 r,fun _=>[none],Tryz.func127⟩
def b71(list:List o7):Option (List o7):=
 (bif ((list.length:Int)==0) then some [] else (t5 (0<=(list.length:Int)/\(list.length:Int)*16<=140737488355328) ((t5 (list.length=(f6a (list.length:Int).toNat (o7.mk 0 0)).length) (some list)))))
theorem d9S{list}:OK c0w [j8 2 J0 list] (b71 list):=
 o8 _ fun r h=>n7<|j6 2 h (fun h=>rg<|fE h) (fun h=>rg<|u0 h fun e1 h=>T3 2 7 44 2 16 J0 (o7.mk 0 0) c0S (.none) e1 (by decide) (by rfl)<|rg<|u0 h fun e2 h=>om (s8.row 44 2 (f6a (list.length:Int).toNat (o7.mk 0 0)).length (list.map J0)=m7 44 2 J0 list) (a1y e2)<|s9 (f6a (list.length:Int).toNat (o7.mk 0 0))<|ob e2<|tl (2,{e:=some (m7 44 2 J0 list)})<|rg<|om ((f6a (list.length:Int).toNat (o7.mk 0 0)).length=list.length) (by simp)<|fE h)
def a4y:FS (List o7):=⟨74,Tryz.f74,[.val [some 2] []],[none],[.val [some 7] []],fun r=>j8 2 J0 r,fun _=>[none],Tryz.func74⟩
def c30:(List o7)->KS:=fun out1=>⟨a4y.k 6 [false,false],(bs 5 (.own 1 0 2 0 out1.length::(bs 30 []))),[some [],some [m7 44 2 J0 out1]]⟩
def c24(out1:List o7):Option (List o7):=
 ((b71 out1).bind fun req=>some req)
theorem e3Z(r):NF a4y r c30 (fun s=>c24 s):=fun out1 h=>PK<|rg<|cbS c0w d9S 1 (fun _=>(by simp [c0w,K6,S8,P3,V.simple,vi,v5,eI,J0])) (fun _=>(Q1 1)) h fun req h=>C7 out1 req<|fE h
def c6G(list:List m6)(s5:u7×List Int):((List o7)×Int)->KS:=fun (out,v18)=>⟨a4y.k 5 [false],(bs 4 (.own 1 0 1 0 s5.2.length::(.own 2 0 2 0 out.length::(bs 10 (j8 7 t6 list::(vi (list.length:Int)::(vi v18::(bs 17 [])))))))),[some [],some [m7 3 1 eI s5.2],some [m7 44 2 J0 out]]⟩
def e1U(list:List m6)(s5:u7×List Int)(v18:Int):(List o7)->KS:=fun out2=>⟨a4y.k 9 [false,true,true],(bs 4 (.own 1 0 1 0 s5.2.length::(.own 2 0 2 0 out2.length::(bs 10 (j8 7 t6 list::(vi (list.length:Int)::(vi v18::(bs 17 [])))))))),[some [],some [m7 3 1 eI s5.2],some [m7 44 2 J0 out2]]⟩
def c1i(v18:Int)(out2:List o7):Option (l7 (List o7) ((List o7)×Int) (List o7)):=
 some (l7.nxt (out2,m8 (v18+1)))
theorem f1B(list s5 v18)(lc:F8 a4y c30 (c6G list s5)):NL lc (e1U list s5 v18) (fun s=>c1i v18 s):=fun out2 h=>PK<|rg<|(lc.nx h fun hI=>sk [] [4,5,16,17,18] [(1,0),(2,0)] hI)
def b0j(list:List m6)(s5:u7×List Int)(out:List o7)(v18:Int):Option (l7 (List o7) ((List o7)×Int) (List o7)):=
 (bif decide (v18<(list.length:Int)) then ((idx list v18).bind fun entry=>((((idx s5.2 v18).bind fun y=>(bif (y==0) then (t5 ((out.length+1)*16<=140737488355328) (some (m5.brk (out++[entry.a0])))) else some (m5.brk out))):Option (m5 (l7 (List o7) ((List o7)×Int) (List o7)) (List o7))).bind fun x=>x.go some fun j=>c1i v18 j)) else some (l7.brk out))
theorem e0s(list s5):LQ a4y c30 (c6G list s5) (fun s=>b0j list s5 s.1 s.2):=fun lc (out,v18) h=>PK<|rg<|j6 0 h (fun h=>rg<|u9 t6 1 h fun entry G9 h=>A9 h (f1B list s5 v18 lc) fun x2 h hc2=>rg<|A7 h fun y hy h=>B5 hy<|H9 eI 3 hy<|j6 4 h (fun h=>rg<|tk 3 []<|u0 h fun e1 h=>F9 4 19 44 2 16 J0 out entry.a0 e1<|E8 entry.a0<|(p8 h hc2 fun hI=>sk [] [4,5,16,17,18] [(1,0),(19,0)] hI)) (fun h=>(p8 h hc2 fun hI=>sk [] [4,5,16,17,18] [(1,0),(2,0)] hI))) (fun h=>(lc.bk h fun hI=>sk [] [5] [(2,0)] hI))
def b7I(list:List m6):Option (List o7):=
 ((b0V list).bind fun G6=>(bif (!G6) then some [] else ((a8C list).bind fun s5=>((o9 (fun s:(List o7)×Int=>b0j list s5 s.1 s.2) ([],0)).bind fun x=>x.go (fun r=>some r) fun s=>c24 s))))
theorem d9Y{list}:OK a4y [j8 7 t6 list] (b7I list):=
 o8 _ fun r h=>n7<|l8 a5y c5d 1 h fun G6 h=>j6 2 h (fun h=>rg<|fE h) (fun h=>rg<|l8 a3x b7B 1 h fun s5 h=>n7<|lp (e0s list s5) h (fun _ h=>a4y.rt h) (e3Z r) fun hI=>sk [.own (.tmp 5) 44 2] [4,5,16,17,18] [(6,2),(17,0)] hI)
def a88:FS ((List n9)×Bool):=⟨75,Tryz.f75,[.val [some 4] [some 82],.val [] []],[none,none],[.val D4 [],.val [] []],fun r=>.tup [v5 82 4 A0 r.1,.b r.2],fun _=>[none,none],Tryz.func75⟩
def d3r:Unit->KS:=fun _=>⟨a88.k 3 [false],(bs 23 []),[some []]⟩
def d2F:Option ((List n9)×Bool):=
 some ([],false)
theorem e1g(r):NF a88 r d3r (fun s=>d2F):=fun _ h=>PK<|rg<|fE h
def e2u(w:m4)(q:o7):Int->KS:=fun v11=>⟨a88.k 2 [],(bs 3 (.ptr 1 0 0::(bs 5 (j8 3 A2 w.d7::(vi (w.d7.length:Int)::(vi v11::(bs 11 []))))))),[some [],some [.var 44 [vi q.c8,vi q.Seq]]]⟩
def b8U(w:m4)(q:o7)(v11:Int):Option (l7 ((List n9)×Bool) Int Unit):=
 (bif decide (v11<(w.d7.length:Int)) then ((idx w.d7 v11).bind fun asked=>(bif (([asked.a0.c8,asked.a0.Seq]:List Int)==[q.c8,q.Seq]) then ((a9c asked.i7).bind fun ins=>some (l7.ret (ins,true))) else some (l7.nxt (m8 (v11+1))))) else some (l7.brk ()))
theorem e2J(w q):LQ a88 d3r (e2u w q) (fun s=>b8U w q s):=fun lc v11 h=>PK<|rg<|j6 0 h (fun h=>rg<|u9 A2 0 h fun asked a8W h=>rg<|j6 3 h (fun h=>rg<|l8 b9E c4U 2 h fun ins h=>s9 ins<|fL lc h) (fun h=>rg<|(lc.nx h fun hI=>sk [] [3,9,10,11] [(1,0)] hI))) (fun h=>(lc.bk h fun hI=>sk [] [] [] hI))
def b7L(w:m4)(q:o7):Option ((List n9)×Bool):=
 ((o9 (fun s:Int=>b8U w q s) 0).bind fun x=>x.go (fun r=>some r) fun s=>d2F)
theorem e46{w q}:OK a88 [.agg (P4 w),.agg (J0 q)] (b7L w q):=
 o8 _ fun r h=>n7<|lp (e2J w q) h (fun _ h=>a88.rt h) (e1g r) fun hI=>sk [] [3,9,10,11] [(2,0)] hI
def d5x:FS ((List n8)×Int×Int):=⟨130,Tryz.f130,[.val [some 2] [],.val [] [],.val [] []],[none,none],[.val [some 2] [],.val [some 4] []],fun r=>.tup [j8 2 z7 r.1,vi r.2.1,vi r.2.2],fun _=>[none,none],Tryz.func130⟩
def b9B(list:List n8)(prog:List n9):Option ((List n8)×Int×Int):=
 ((b4N list prog).bind fun C2=>(bif (C2.Code==3) then some ([],0,3) else ((b4y list C2).bind fun a9W=>some (a9W,C2.g7,C2.Code))))
theorem e7z{list prog}:OK d5x [j8 2 z7 list,j8 4 A0 prog] (b9B list prog):=
 o8 _ fun r h=>n7<|l8 Q2 d67 2 h fun C2 h=>rg<|j6 2 h (fun h=>rg<|fE h) (fun h=>rg<|l8 a7d d61 2 h fun a9W h=>s9 a9W<|fE h)
def c1c:FS (List Int):=⟨131,Tryz.f131,[.val [some 1] [some 3]],[none],[.val [some 1] []],fun r=>v5 3 1 eI r,fun _=>[none],Tryz.func131⟩
def b7Z(list:List Int):Option (List Int):=
 (bif ((list.length:Int)==0) then some [] else (t5 (0<=(list.length:Int)/\(list.length:Int)*8<=140737488355328) ((t5 (list.length=(f6a (list.length:Int).toNat (0:Int)).length) (some list)))))
theorem f0U{list}:OK c1c [j8 1 eI list] (b7Z list):=
 o8 _ fun r h=>n7<|j6 2 h (fun h=>rg<|fE h) (fun h=>rg<|u0 h fun e1 h=>T3 2 7 3 1 8 eI (0:Int) ti3 (.none) e1 (by decide) (by rfl)<|rg<|u0 h fun e2 h=>om (s8.row 3 1 (f6a (list.length:Int).toNat (0:Int)).length (list.map eI)=m7 3 1 eI list) (a1y e2)<|s9 (f6a (list.length:Int).toNat (0:Int))<|ob e2<|tl (2,{e:=some (m7 3 1 eI list)})<|rg<|om ((f6a (list.length:Int).toNat (0:Int)).length=list.length) (by simp)<|fE h)
def a8U:FS ((List n8)×List Int):=⟨76,Tryz.f76,[.val [some 2] [],.val [some 1] []],[none,none],[.val [some 2] [],.val [some 1] []],fun r=>.tup [j8 2 z7 r.1,j8 1 eI r.2],fun _=>[none,none],Tryz.func76⟩
def c6D:((List Int)×List n8)->KS:=fun (vals1,now1)=>⟨a8U.k 6 [false,false],(bs 6 (j8 2 z7 now1::(.own 1 0 1 0 vals1.length::(bs 39 [])))),[some [],some [m7 3 1 eI vals1]]⟩
def b6I(vals1:List Int)(now1:List n8):Option ((List n8)×List Int):=
 ((b7Z vals1).bind fun int=>some (now1,int))
theorem e6j(r):NF a8U r c6D (fun s=>b6I s.1 s.2):=fun (vals1,now1) h=>PK<|rg<|cbS c1c f0U 2 (fun _=>(by simp [c1c,K6,S8,P3,V.simple,vi,v5,eI])) (fun _=>(Q1 1)) h fun int h=>C7 vals1 int<|fE h
def f4G(progs:List (List n9)):((List Int)×Int×List n8)->KS:=fun (vals,v25,now)=>⟨a8U.k 5 [false],(bs 6 (j8 2 z7 now::(.own 1 0 1 0 vals.length::(bs 15 (j8 1 b0K progs::(vi (progs.length:Int)::(vi v25::(bs 21 [])))))))),[some [],some [m7 3 1 eI vals]]⟩
def b0A(progs:List (List n9))(vals:List Int)(v25:Int)(now:List n8):Option (l7 ((List n8)×List Int) ((List Int)×Int×List n8) ((List Int)×List n8)):=
 (bif decide (v25<(progs.length:Int)) then ((idx progs v25).bind fun y=>((b9B now y).bind fun N9=>(bif (N9.2.2==3) then some (l7.ret ([],[])) else (t5 ((vals.length+1)*8<=140737488355328) (some (l7.nxt (vals++[N9.2.1],m8 (v25+1),N9.1))))))) else some (l7.brk (vals,now)))
theorem e6n(progs):LQ a8U c6D (f4G progs) (fun s=>b0A progs s.1 s.2.1 s.2.2):=fun lc (vals,v25,now) h=>PK<|rg<|j6 0 h (fun h=>rg<|u9 b0K 0 h fun y hy h=>rg<|l8 d5x e7z 2 h fun N9 h=>rg<|j6 1 h (fun h=>rg<|fL lc h) (fun h=>n7<|tk 2 []<|u0 h fun e1 h=>F9 3 23 3 1 8 eI vals N9.2.1 e1<|E8 N9.2.1<|rg<|(lc.nx h fun hI=>sk [] [6,7,23,24,25] [(23,0)] hI))) (fun h=>(lc.bk h fun hI=>sk [] [6,7] [(1,0)] hI))
def b8o(list:List n8)(progs:List (List n9)):Option ((List n8)×List Int):=
 ((a5C list).bind fun W1=>(bif (!W1) then some ([],[]) else (bif decide ((progs.length:Int)>100) then some ([],[]) else ((a8O list).bind fun box=>((o9 (fun s:(List Int)×Int×List n8=>b0A progs s.1 s.2.1 s.2.2) ([],0,box)).bind fun x=>x.go (fun r=>some r) fun s=>b6I s.1 s.2)))))
theorem e9l{list progs}:OK a8U [j8 2 z7 list,j8 1 b0K progs] (b8o list progs):=
 o8 _ fun r h=>n7<|l8 a2U b4F 1 h fun W1 h=>j6 3 h (fun h=>rg<|fE h) (fun h=>j6 7 h (fun h=>rg<|fE h) (fun h=>rg<|l8 b9W c00 1 h fun box h=>n7<|lp (e6n progs) h (fun _ h=>a8U.rt h) (e6j r) fun hI=>s9 box<|sk [.frz (.tmp 6) (none),.own (.tmp 7) 3 1] [6,7,23,24,25] [(18,0)] hI))
def a8P:FS (Bool):=⟨132,Tryz.f132,[.val [] []],[none,none],[.val [some 2] [],.val [some 2] []],fun r=>.b r,fun _=>[none,none],Tryz.func132⟩
def d5H:Unit->KS:=fun _=>⟨a8P.k 4 [false,false],(bs 26 []),[some []]⟩
def d2Z:Option Bool:=
 some true
theorem e8A(r):NF a8P r d5H (fun s=>d2Z):=fun _ h=>PK<|rg<|fE h
def f1f(a:List n8)(b:List n8):Int->KS:=fun v13=>⟨a8P.k 3 [false],(j8 2 z7 a::(j8 2 z7 b::(bs 10 (vi (a.length:Int)::(vi v13::(bs 12 [])))))),[some []]⟩
def b4V(a:List n8)(b:List n8)(v13:Int):Option (l7 Bool Int Unit):=
 (bif decide (v13<(a.length:Int)) then ((idx a v13).bind fun box=>((idx b v13).bind fun T9=>(bif (!(([box.j5,box.g7]:List Int)==[T9.j5,T9.g7])) then some (l7.ret false) else some (l7.nxt (m8 (v13+1)))))) else some (l7.brk ()))
theorem e6Z(a b):LQ a8P d5H (f1f a b) (fun s=>b4V a b s):=fun lc v13 h=>PK<|rg<|j6 0 h (fun h=>n7<|u9 z7 2 h fun box a2I h=>u9 z7 6 h fun T9 a7G h=>j6 8 h (fun h=>rg<|fL lc h) (fun h=>rg<|(lc.nx h fun hI=>sk [] [0,1,12,13] [] hI))) (fun h=>(lc.bk h fun hI=>sk [] [] [] hI))
def c0o(a:List n8)(b:List n8):Option Bool:=
 (bif ((a.length:Int) != (b.length:Int)) then some false else ((o9 (fun s:Int=>b4V a b s) 0).bind fun x=>x.go (fun r=>some r) fun s=>d2Z))
theorem e1I{a b}:OK a8P [j8 2 z7 a,j8 2 z7 b] (c0o a b):=
 o8 _ fun r h=>n7<|j6 4 h (fun h=>rg<|fE h) (fun h=>rg<|lp (e6Z a b) h (fun _ h=>a8P.rt h) (e8A r) fun hI=>sk [] [0,1,12,13] [] hI)
def d1q:FS (Bool):=⟨78,Tryz.f78,[.val [] []],[none,none],[.val [some 2] [],.val [some 2] []],fun r=>.b r,fun _=>[none,none],Tryz.func78⟩
def b9V(a:List n8)(b:List n8):Option Bool:=
 ((c0o a b).bind fun box=>some box)
theorem e3g{a b}:OK d1q [j8 2 z7 a,j8 2 z7 b] (b9V a b):=
 o8 _ fun r h=>n7<|l8 a8P e1I 2 h fun box h=>fE h
def a2G:FS (Bool):=⟨30,Tryz.f30,[.val [] []],[none],[.val D4 []],fun r=>.b r,fun _=>[none],Tryz.func30⟩
def d3s(worldLog:List m6)(C3:List o7):(List (List n9))->KS:=fun a9Z=>⟨a2G.k 7 [false,false],(bs 3 (j8 7 t6 worldLog::(j8 2 J0 C3::(.own 1 0 1 0 a9Z.length::(bs 74 []))))),[some [],some [m7 35 1 b0K a9Z]]⟩
def d6F:Unit->KS:=fun _=>⟨a2G.k 11 [false,false,false,false],(bs 80 []),[some []]⟩
def c6x:Option Bool:=
 some true
theorem f4e(r):NF a2G r d6F (fun s=>c6x):=fun _ h=>PK<|rg<|fE h
def e8R(worldLog:List m6)(C3:List o7)(O1:(List n8)×List Int):Int->KS:=fun v61=>⟨a2G.k 10 [false,false,false],(bs 3 (j8 7 t6 worldLog::(bs 7 (j8 1 eI O1.2::(bs 47 (j8 2 J0 C3::(vi (C3.length:Int)::(vi v61::(bs 18 []))))))))),[some []]⟩
def b8P(worldLog:List m6)(C3:List o7)(O1:(List n8)×List Int)(v61:Int):Option (l7 Bool Int Unit):=
 (bif decide (v61<(C3.length:Int)) then ((idx C3 v61).bind fun req=>((idx O1.2 v61).bind fun y=>((a6P worldLog req).bind fun first=>((idx worldLog first).bind fun entry=>(bif (y != entry.b8.g7) then some (l7.ret false) else some (l7.nxt (m8 (v61+1)))))))) else some (l7.brk ()))
theorem e8K(worldLog C3 O1):LQ a2G d6F (e8R worldLog C3 O1) (fun s=>b8P worldLog C3 O1 s):=fun lc v61 h=>PK<|rg<|j6 0 h (fun h=>rg<|u9 J0 1 h fun req f5V h=>rg<|u9 eI 2 h fun y hy h=>l8 a1A b2h 7 h fun first h=>u9 t6 8 h fun entry G9 h=>j6 12 h (fun h=>rg<|fL lc h) (fun h=>rg<|(lc.nx h fun hI=>sk [] [3,11,59,60,61] [] hI))) (fun h=>(lc.bk h fun hI=>sk [] [] [] hI))
def b2C(worldLog:List m6)(C3:List o7)(a9Z:List (List n9)):Option Bool:=
 ((b4d).bind fun a26=>((b8o a26 a9Z).bind fun O1=>((b2x worldLog).bind fun a2Y=>((b9V O1.1 a2Y.g9).bind fun d5O=>(bif (!d5O) then some false else (bif ((O1.2.length:Int) != (C3.length:Int)) then some false else ((o9 (fun s:Int=>b8P worldLog C3 O1 s) 0).bind fun x=>x.go (fun r=>some r) fun s=>c6x)))))))
theorem e8H(worldLog C3)(r):NF a2G r (d3s worldLog C3) (fun s=>b2C worldLog C3 s):=fun a9Z h=>PK<|rg<|l8 c1s d6f 0 h fun a26 h=>l8 a8U e9l 2 h fun O1 h=>C7 a26 a9Z<|rg<|l8 c2v c8H 2 h fun a2Y h=>R8 d1q e3g 4 2 h fun d5O h=>s9 a2Y.g9<|j6 6 h (fun h=>rg<|fE h) (fun h=>j6 12 h (fun h=>rg<|fE h) (fun h=>rg<|lp (e8K worldLog C3 O1) h (fun _ h=>a2G.rt h) (f4e r) fun hI=>sk [] [3,11,59,60,61] [] hI))
def d8v(w:m4)(worldLog:List m6)(C3:List o7):((List (List n9))×Int)->KS:=fun (progs,v23)=>⟨a2G.k 6 [false],(bs 1 (.ptr 1 0 0::(bs 1 (j8 7 t6 worldLog::(j8 2 J0 C3::(.own 2 0 1 0 progs.length::(bs 15 (j8 2 J0 C3::(vi (C3.length:Int)::(vi v23::(bs 56 []))))))))))),[some [],some [.var 28 (D5 w)],some [m7 35 1 b0K progs]]⟩
def a6n(w:m4)(C3:List o7)(progs:List (List n9))(v23:Int):Option (l7 Bool ((List (List n9))×Int) (List (List n9))):=
 (bif decide (v23<(C3.length:Int)) then ((idx C3 v23).bind fun c8L=>((b7L w c8L).bind fun b0C=>(bif (!b0C.2) then some (l7.ret false) else (t5 ((progs.length+1)*24<=140737488355328) (some (l7.nxt (progs++[b0C.1],m8 (v23+1)))))))) else some (l7.brk progs))
theorem f1F(w worldLog C3):LQ a2G (d3s worldLog C3) (d8v w worldLog C3) (fun s=>a6n w C3 s.1 s.2):=fun lc (progs,v23) h=>PK<|rg<|j6 0 h (fun h=>rg<|u9 J0 0 h fun c8L f5X h=>rg<|l8 a88 e46 2 h fun b0C h=>rg<|j6 1 h (fun h=>rg<|fL lc h) (fun h=>rg<|s9 b0C.1<|tk 2 [some 4]<|u0 h fun e1 h=>F9 3 21 35 1 24 b0K progs b0C.1 e1<|E8 b0C.1<|rg<|(lc.nx h fun hI=>sk [] [1,3,4,5,21,22,23] [(1,0),(21,0)] hI))) (fun h=>(lc.bk h fun hI=>sk [] [3,4,5] [(2,0)] hI))
def c0b(w:m4):Option Bool:=
 ((a2h w).bind fun B6=>(bif (!B6) then some false else ((b1w w).bind fun worldLog=>((b7I worldLog).bind fun C3=>((o9 (fun s:(List (List n9))×Int=>a6n w C3 s.1 s.2) ([],0)).bind fun x=>x.go (fun r=>some r) fun s=>b2C worldLog C3 s)))))
theorem f4K{w}:OK a2G [.agg (P4 w)] (c0b w):=
 o8 _ fun r h=>n7<|l8 L1 a5o 1 h fun B6 h=>j6 2 h (fun h=>rg<|fE h) (fun h=>rg<|l8 a4j d0I 1 h fun worldLog h=>rg<|l8 a4y d9Y 1 h fun C3 h=>n7<|lp (f1F w worldLog C3) h (fun _ h=>a2G.rt h) (e8H worldLog C3 r) fun hI=>sk [.own (.tmp 5) 35 1] [1,3,4,5,21,22,23] [(1,0),(16,0)] hI)
def a4S:FS (Bool):=⟨31,Tryz.f31,[.val [] []],[none],[.val D4 []],fun r=>.b r,fun _=>[none],Tryz.func31⟩
def c1H:Unit->KS:=fun _=>⟨a4S.k 6 [false,false],(bs 56 []),[some []]⟩
def c7l:Option Bool:=
 some true
theorem f2N(r):NF a4S r c1H (fun s=>c7l):=fun _ h=>PK<|rg<|fE h
def c71(w:m4)(worldLog:List m6)(s5:u7×List Int):Int->KS:=fun v23=>⟨a4S.k 5 [false],(bs 3 (j8 7 t6 worldLog::(bs 1 (.own 1 0 1 0 s5.2.length::(bs 15 (j8 5 x8 w.Told::(vi (w.Told.length:Int)::(vi v23::(bs 32 []))))))))),[some [],some [m7 3 1 eI s5.2]]⟩
def f1R(w:m4)(worldLog:List m6)(s5:u7×List Int)(v23:Int)(told:n5):Int->KS:=fun val=>⟨a4S.k 12 [false,true,false,true],(bs 3 (j8 7 t6 worldLog::(bs 1 (.own 1 0 1 0 s5.2.length::(bs 1 (.ptr 2 0 0::(bs 1 (vi val::(bs 11 (j8 5 x8 w.Told::(vi (w.Told.length:Int)::(vi v23::(bs 32 []))))))))))))),[some [],some [m7 3 1 eI s5.2],some [.var 62 [vi told.Node,vi told.a0.c8,vi told.a0.Seq,vi told.Code,vi told.g7]]]⟩
def c1U(v23:Int)(told:n5)(val:Int):Option (l7 Bool Int Unit):=
 (bif (told.g7 != val) then some (l7.ret false) else some (l7.nxt (m8 (v23+1))))
theorem e4L(w worldLog s5 v23 told)(lc:F8 a4S c1H (c71 w worldLog s5)):NL lc (f1R w worldLog s5 v23 told) (fun s=>c1U v23 told s):=fun val h=>PK<|rg<|j6 3 h (fun h=>rg<|fL lc h) (fun h=>rg<|(lc.nx h fun hI=>sk [] [3,5,21,22,23] [(1,0)] hI))
def b5I(w:m4)(worldLog:List m6)(s5:u7×List Int)(v23:Int):Option (l7 Bool Int Unit):=
 (bif decide (v23<(w.Told.length:Int)) then ((idx w.Told v23).bind fun told=>((a6P worldLog told.a0).bind fun first=>(bif decide (first<0) then some (l7.ret false) else ((idx s5.2 first).bind fun y=>(bif (y != told.Code) then some (l7.ret false) else (((bif (told.Code==0) then ((idx worldLog first).bind fun entry=>some (m5.brk entry.b8.g7)) else some (m5.brk 0)):Option (m5 (l7 Bool Int Unit) Int)).bind fun x=>x.go some fun j=>c1U v23 told j)))))) else some (l7.brk ()))
theorem d8U(w worldLog s5):LQ a4S c1H (c71 w worldLog s5) (fun s=>b5I w worldLog s5 s):=fun lc v23 h=>PK<|rg<|j6 0 h (fun h=>rg<|u9 x8 0 h fun told a4G h=>rg<|l8 a1A b2h 3 h fun first h=>rg<|j6 2 h (fun h=>rg<|fL lc h) (fun h=>A7 h fun y hy h=>B5 hy<|H9 eI 6 hy<|j6 10 h (fun h=>rg<|fL lc h) (fun h=>rg<|A9 h (e4L w worldLog s5 v23 told lc) fun x2 h hc2=>rg<|j6 2 h (fun h=>rg<|u9 t6 2 h fun entry G9 h=>(p8 h hc2 fun hI=>sk [] [3,5,7,9,21,22,23] [(1,0),(5,0)] hI)) (fun h=>(p8 h hc2 fun hI=>sk [] [3,5,7,9,21,22,23] [(1,0),(5,0)] hI))))) (fun h=>(lc.bk h fun hI=>sk [] [] [] hI))
def b3f(w:m4):Option Bool:=
 ((a2h w).bind fun B6=>(bif (!B6) then some false else ((b1w w).bind fun worldLog=>((a8C worldLog).bind fun s5=>((o9 (fun s:Int=>b5I w worldLog s5 s) 0).bind fun x=>x.go (fun r=>some r) fun s=>c7l)))))
theorem f5q{w}:OK a4S [.agg (P4 w)] (b3f w):=
 o8 _ fun r h=>n7<|l8 L1 a5o 1 h fun B6 h=>j6 2 h (fun h=>rg<|fE h) (fun h=>rg<|l8 a4j d0I 1 h fun worldLog h=>rg<|l8 a3x b7B 1 h fun s5 h=>rg<|lp (d8U w worldLog s5) h (fun _ h=>a4S.rt h) (f2N r) fun hI=>sk [] [3,5,21,22,23] [(10,2)] hI)
def a8T:FS (Bool):=⟨32,Tryz.f32,[.val [] []],[none],[.val D4 []],fun r=>.b r,fun _=>[none],Tryz.func32⟩
def c9F:Unit->KS:=fun _=>⟨a8T.k 5 [false,false],(bs 25 []),[some []]⟩
def c9a:Option Bool:=
 some true
theorem f2e(r):NF a8T r c9F (fun s=>c9a):=fun _ h=>PK<|rg<|fE h
def e1Q(w:m4):((List o7)×Int)->KS:=fun (w1,v13)=>⟨a8T.k 4 [false],(bs 3 (.mp 1 0::(bs 7 (j8 5 x8 w.Told::(vi (w.Told.length:Int)::(vi v13::(bs 11 []))))))),[some [],some [.map 128 2 (w1.map fun x=>(H5 x,.b true))]]⟩
def b4r(w:m4)(w1:List o7)(v13:Int):Option (l7 Bool ((List o7)×Int) Unit):=
 (bif decide (v13<(w.Told.length:Int)) then ((idx w.Told v13).bind fun told=>(bif (w1.any fun x=>H5 told.a0==H5 x) then some (l7.ret false) else some (l7.nxt (a8S H5 w1 told.a0,m8 (v13+1))))) else some (l7.brk ()))
theorem e4Q(w):LQ a8T c9F (e1Q w) (fun s=>b4r w s.1 s.2):=fun lc (w1,v13) h=>PK<|rg<|j6 0 h (fun h=>rg<|u9 x8 0 h fun told a4G h=>rg<|cdT (3,{v:=some (.b (w1.any fun x=>H5 told.a0==H5 x))}) h (fun _ h=>om (a2W (w1.map fun x=>(H5 x,.b true)) (H5 told.a0) (.b false)=.b (w1.any fun x=>H5 told.a0==H5 x)) (c1J H5 _ _)<|rg<|fL lc h) (fun _ h=>om (a2W (w1.map fun x=>(H5 x,.b true)) (H5 told.a0) (.b false)=.b (w1.any fun x=>H5 told.a0==H5 x)) (c1J H5 _ _)<|rg<|om (s8.map 128 2 (a13 (w1.map fun x=>(H5 x,.b true)) (H5 told.a0) (.b true))=.map 128 2 ((a8S H5 w1 told.a0).map fun x=>(H5 x,.b true))) (congrArg (s8.map 128 2) (d36 H5 _ _))<|tl (3,{e:=some (.map 128 2 ((a8S H5 w1 told.a0).map fun x=>(H5 x,.b true)))})<|rg<|(lc.nx h fun hI=>sk [] [3,11,12,13] [(1,0)] hI))) (fun h=>(lc.bk h fun hI=>sk [] [] [] hI))
def b3N(w:m4):Option Bool:=
 ((a2h w).bind fun B6=>(bif (!B6) then some false else ((o9 (fun s:(List o7)×Int=>b4r w s.1 s.2) (([]:List o7),0)).bind fun x=>x.go (fun r=>some r) fun s=>c9a)))
theorem f0m{w}:OK a8T [.agg (P4 w)] (b3N w):=
 o8 _ fun r h=>n7<|l8 L1 a5o 1 h fun B6 h=>j6 2 h (fun h=>rg<|fE h) (fun h=>n7<|lp (e4Q w) h (fun _ h=>a8T.rt h) (f2e r) fun hI=>sk [] [3,11,12,13] [(6,0)] hI)
def c8v:FS (Bool):=⟨11,Tryz.f11,[.val [] []],[none],[.val D4 []],fun r=>.b r,fun _=>[none],Tryz.func11⟩
def b6U(w:m4):Option Bool:=
 ((b1N w).bind fun d5j=>(bif d5j then ((b19 w).bind fun d0k=>(bif d0k then ((b3k w).bind fun d17=>(bif d17 then ((b4G w).bind fun d69=>(bif d69 then ((c0b w).bind fun a7Z=>(bif a7Z then ((b3f w).bind fun d46=>(bif d46 then ((b3N w).bind fun d0o=>some d0o) else some false)) else some false)) else some false)) else some false)) else some false)) else some false))
theorem e8n{w}:OK c8v [.agg (P4 w)] (b6U w):=
 o8 _ fun r h=>n7<|l8 a00 e6G 1 h fun d5j h=>j6 2 h (fun h=>l8 Z5 f2j 4 h fun d0k h=>j6 6 h (fun h=>l8 a2V e59 8 h fun d17 h=>j6 10 h (fun h=>l8 a0G f1I 12 h fun d69 h=>j6 14 h (fun h=>l8 a2G f4K 16 h fun a7Z h=>j6 18 h (fun h=>l8 a4S f5q 20 h fun d46 h=>j6 22 h (fun h=>l8 a8T f0m 24 h fun d0o h=>fE h) (fun h=>fE h)) (fun h=>fE h)) (fun h=>fE h)) (fun h=>fE h)) (fun h=>fE h)) (fun h=>fE h)
def a0m:FS (Bool):=⟨3,Tryz.f3,[.val [] []],[none],[.val [some 1] []],fun r=>.b r,fun _=>[none],Tryz.func3⟩
def d1V(worldPlay:m4):m4->KS:=fun x_1=>⟨a0m.k 6 [false,false,false],(bs 3 (.ptr 1 0 0::(.ptr 2 0 0::(bs 85 [])))),[some [],some [.var 28 [j8 27 w9 worldPlay.a6,j8 13 s6 worldPlay.b9,j8 3 A2 worldPlay.d7,j8 5 x8 worldPlay.Told]],some [.var 28 [j8 27 w9 x_1.a6,j8 13 s6 x_1.b9,j8 3 A2 x_1.d7,j8 5 x8 x_1.Told]]]⟩
def d0Y(worldPlay:m4):m4->KS:=fun x_3=>⟨a0m.k 8 [false,false,false,false],(bs 3 (.ptr 1 0 0::(.ptr 2 0 0::(bs 85 [])))),[some [],some [.var 28 [j8 27 w9 worldPlay.a6,j8 13 s6 worldPlay.b9,j8 3 A2 worldPlay.d7,j8 5 x8 worldPlay.Told]],some [.var 28 [j8 27 w9 x_3.a6,j8 13 s6 x_3.b9,j8 3 A2 x_3.d7,j8 5 x8 x_3.Told]]]⟩
def c8G(worldPlay:m4)(x_3:m4):Unit->KS:=fun _=>⟨a0m.k 10 [false,false,false,false,false],(bs 3 (.ptr 1 0 0::(.ptr 2 0 0::(bs 85 [])))),[some [],some [.var 28 [j8 27 w9 worldPlay.a6,j8 13 s6 worldPlay.b9,j8 3 A2 worldPlay.d7,j8 5 x8 worldPlay.Told]],some [.var 28 [j8 27 w9 x_3.a6,j8 13 s6 x_3.b9,j8 3 A2 x_3.d7,j8 5 x8 x_3.Told]]]⟩
def c3b(worldPlay:m4)(x_3:m4):Option Bool:=
 ((b6U x_3).bind fun d1c=>(bif d1c then some ((x_3.Told.length:Int)==(worldPlay.Told.length:Int)) else some false))
theorem f4z(worldPlay x_3)(r):NF a0m r (c8G worldPlay x_3) (fun s=>c3b worldPlay x_3):=fun _ h=>PK<|rg<|l8 c8v e8n 1 h fun d1c h=>j6 2 h (fun h=>fE h) (fun h=>fE h)
def d7E(worldPlay:m4)(x_3:m4):Int->KS:=fun i1=>⟨a0m.k 9 [false,false,false,false],(bs 3 (.ptr 1 0 0::(.ptr 2 0 0::(bs 1 (vi i1::(bs 83 [])))))),[some [],some [.var 28 [j8 27 w9 worldPlay.a6,j8 13 s6 worldPlay.b9,j8 3 A2 worldPlay.d7,j8 5 x8 worldPlay.Told]],some [.var 28 [j8 27 w9 x_3.a6,j8 13 s6 x_3.b9,j8 3 A2 x_3.d7,j8 5 x8 x_3.Told]]]⟩
def a54(worldPlay:m4)(x_3:m4)(i1:Int):Option (l7 Bool Int Unit):=
 (bif decide (i1<3) then ((idx x_3.a6 i1).bind fun node=>((idx worldPlay.a6 i1).bind fun node1=>(bif ((node.a5.length:Int) != (node1.a5.length:Int)) then some (l7.ret false) else (bif node.i9 then some (l7.ret false) else (bif (node.d8 != 0) then some (l7.ret false) else some (l7.nxt (m8 (i1+1)))))))) else some (l7.brk ()))
theorem e4r(worldPlay x_3):LQ a0m (c8G worldPlay x_3) (d7E worldPlay x_3) (fun s=>a54 worldPlay x_3 s):=fun lc i1 h=>PK<|rg<|j6 1 h (fun h=>rg<|u9 w9 3 h fun node hnode h=>u9 w9 10 h fun node1 a1K h=>j6 15 h (fun h=>rg<|fL lc h) (fun h=>I8 w9 19 hnode<|j6 23 h (fun h=>rg<|fL lc h) (fun h=>I8 w9 27 hnode<|j6 31 h (fun h=>rg<|fL lc h) (fun h=>rg<|(lc.nx h fun hI=>sk [] [3,4,6] [(1,0),(2,0)] hI))))) (fun h=>(lc.bk h fun hI=>sk [] [3,4] [(1,0),(2,0)] hI))
def b7m(worldPlay:m4)(x_3:m4):Option Bool:=
 ((o9 (fun s:Int=>a54 worldPlay x_3 s) 0).bind fun x=>x.go (fun r=>some r) fun s=>c3b worldPlay x_3)
theorem e8t(worldPlay)(r):NF a0m r (d0Y worldPlay) (fun s=>b7m worldPlay s):=fun x_3 h=>PK<|rg<|lp (e4r worldPlay x_3) h (fun _ h=>a0m.rt h) (f4z worldPlay x_3 r) fun hI=>sk [] [3,4,6] [(1,0),(2,0)] hI
def e2L(worldPlay:m4):(Int×m4)->KS:=fun (i,x_2)=>⟨a0m.k 7 [false,false,false],(bs 3 (.ptr 1 0 0::(.ptr 2 0 0::(vi i::(bs 84 []))))),[some [],some [.var 28 [j8 27 w9 worldPlay.a6,j8 13 s6 worldPlay.b9,j8 3 A2 worldPlay.d7,j8 5 x8 worldPlay.Told]],some [.var 28 [j8 27 w9 x_2.a6,j8 13 s6 x_2.b9,j8 3 A2 x_2.d7,j8 5 x8 x_2.Told]]]⟩
def a4c(i:Int)(x_2:m4):Option (l7 Bool (Int×m4) m4):=
 (bif decide (i<3) then ((b2Y x_2 (q9.mk 7 i [])).bind fun c6j=>some (l7.nxt (m8 (i+1),c6j))) else some (l7.brk x_2))
theorem d8S(worldPlay):LQ a0m (d0Y worldPlay) (e2L worldPlay) (fun s=>a4c s.1 s.2):=fun lc (i,x_2) h=>PK<|rg<|j6 1 h (fun h=>rg<|l8 c5s c7S 3 h fun c6j h=>rg<|(lc.nx h fun hI=>sk [] [3,4,5] [(1,0),(2,0)] hI)) (fun h=>(lc.bk h fun hI=>sk [] [3,4] [(1,0),(2,0)] hI))
def c3p(worldPlay:m4)(x_1:m4):Option Bool:=
 ((o9 (fun s:Int×m4=>a4c s.1 s.2) (0,x_1)).bind fun x=>x.go (fun r=>some r) fun s=>b7m worldPlay s)
theorem e1A(worldPlay)(r):NF a0m r (d1V worldPlay) (fun s=>c3p worldPlay s):=fun x_1 h=>PK<|rg<|lp (d8S worldPlay) h (fun _ h=>a0m.rt h) (e8t worldPlay r) fun hI=>sk [] [3,4,5] [(1,0),(2,0)] hI
def f2u(worldPlay:m4):m4->KS:=fun x_=>⟨a0m.k 5 [false,false],(bs 3 (.ptr 1 0 0::(.ptr 2 0 0::(bs 85 [])))),[some [],some [.var 28 [j8 27 w9 worldPlay.a6,j8 13 s6 worldPlay.b9,j8 3 A2 worldPlay.d7,j8 5 x8 worldPlay.Told]],some [.var 28 [j8 27 w9 x_.a6,j8 13 s6 x_.b9,j8 3 A2 x_.d7,j8 5 x8 x_.Told]]]⟩
def a8R(x_:m4):Option (l7 Bool m4 m4):=
 (bif decide ((x_.b9.length:Int)>0) then ((b2Y x_ (q9.mk 3 0 [])).bind fun c8t=>some (l7.nxt c8t)) else some (l7.brk x_))
theorem d7Q(worldPlay):LQ a0m (d1V worldPlay) (f2u worldPlay) (fun s=>a8R s):=fun lc x_ h=>PK<|rg<|j6 3 h (fun h=>rg<|l8 c5s c7S 2 h fun c8t h=>(lc.nx h fun hI=>sk [] [3,4] [(1,0),(2,0)] hI)) (fun h=>(lc.bk h fun hI=>sk [] [3,4] [(1,0),(2,0)] hI))
def c4N(code:List Int):Option Bool:=
 (bif decide ((code.length:Int)>1048576) then some true else ((b6P).bind fun b0u=>((b4w code).bind fun d3T=>((b1b b0u d3T).bind fun worldPlay=>((b3q).bind fun a6C=>((b4w code).bind fun c0q=>((b3i a6C c0q).bind fun a2l=>((b6M worldPlay a2l).bind fun a7u=>(bif (!a7u) then some false else (bif ((worldPlay.a6.length:Int) != 3) then some false else ((o9 (fun s:m4=>a8R s) worldPlay).bind fun x=>x.go (fun r=>some r) fun s=>c3p worldPlay s)))))))))))
theorem f4j{code}:OK a0m [j8 1 K2 code] (c4N code):=
 o8 _ fun r h=>n7<|j6 2 h (fun h=>rg<|fE h) (fun h=>rg<|l8 a7h e31 0 h fun b0u h=>l8 c3l d3I 2 h fun d3T h=>l8 a7A f0K 3 h fun worldPlay h=>rg<|l8 a5E d5g 1 h fun a6C h=>l8 c3l d3I 3 h fun c0q h=>A7 h fun a2l e6X h=>om (Z0 cx.P 8 [.agg [.sl 27 a6C.a6.length (a0g (a6C.a6.map z6)),j8 13 s6 a6C.b9,j8 3 A2 a6C.d7,j8 5 x8 a6C.Told],j8 3 H2 c0q] (a5s.R a2l) (a5s.O a2l)) (by simp only [b0g b1U];exact (e4g a2l e6X))<|B0 a6C<|tl (a5s.t 4 false a2l)<|A7 h fun a7u f5l h=>om (Z0 cx.P 7 [.agg (P4 worldPlay),.agg [.sl 27 a2l.a6.length (a0g (a2l.a6.map z6)),j8 13 s6 a2l.b9,j8 3 A2 a2l.d7,j8 5 x8 a2l.Told]] (V4.R a7u) (V4.O a7u)) (by simp only [b0g b1U];exact (e0E a7u f5l))<|osc V4 a7u rfl (Q1 2)<|B0 a2l<|tl (V4.t 5 true a7u)<|j6 7 h (fun h=>rg<|fE h) (fun h=>j6 12 h (fun h=>rg<|fE h) (fun h=>rg<|lp (d7Q worldPlay) h (fun _ h=>a0m.rt h) (e1A worldPlay r) fun hI=>sk [] [3,4] [(9,0),(25,0)] hI)))
theorem e1E:b0F Tryz.prog 5 K2 a6z:=d7y Tryz.underlying5
theorem d7L:b0F Tryz.prog 22 (fun l:List Int=>[j8 1 K2 l]) (A3 1 a6z):=e92 Tryz.underlying22 e1E (by kernel_rfl) (by decide) (by kernel_rfl) (fun _=>rfl)
theorem C5{n:Int}(h1:-9223372036854775808<=n)(h2:n<=9223372036854775807):m8 n=n:=IntWalk.i64_in n ⟨h1,h2⟩
def t0{α:Type}(l:List α):Prop:=l.length<=140737488351232
theorem F6{α:Type}{l:List α}(hl:t0 l){k:Nat}(h:k<l.length):m8 ((k:Int)+1)=((k+1:Nat):Int):=by
 unfold t0 at hl;rw [C5 (by omega) (by omega)];omega
section
variable {R S B:Type} {body:S->Option (l7 R S B)}
theorem D9{s t:S}(h:body s=some (.nxt t)):o9 body s=o9 body t:=by rw [c2p,h]
theorem C8{s:S}{b:B}(h:body s=some (.brk b)):o9 body s=some (.brk b):=by rw [c2p,h]
theorem X4{s:S}{r:R}(h:body s=some (.ret r)):o9 body s=some (.ret r):=by rw [c2p,h]
theorem W7(st:Nat->S)(n:Nat)(h:∀k,k<n->body (st k)=some (.nxt (st (k+1)))):o9 body (st 0)=o9 body (st n):=by
 induction n with
 | zero=>rfl
 | succ n ih=>
  rw [ih fun k hk=>h k (by omega)];exact D9 (h n (by omega))
theorem a5z(st:Nat->S)(n:Nat)(ok:Nat->Bool)(r:Nat->R)(b:B)(h1:∀k,k<n->(∀j,j<k->ok j=true)->body (st k)=some (bif ok k then .nxt (st (k+1)) else .ret (r k)))(h2:(∀j,j<n->ok j=true)->body (st n)=some (.brk b)) :
  (o9 body (st 0)=some (.brk b)/\∀j,j<n->ok j=true)\/∃k,k<n/\ok k=false/\(∀j,j<k->ok j=true)/\o9 body (st 0)=some (.ret (r k)):=by
 by_cases hall:∀j,j<n->ok j=true
 ·left
  refine ⟨?_,hall⟩;rw [W7 st n fun k hk => ?_]
  ·exact C8 (h2 hall)
  ·rw [h1 k hk fun j hj=>hall j (by omega),hall k hk];rfl
 ·right
  have hex:∃k,k<n/\ok k=false:=by
   apply f8q;intro hn;apply hall;intro j hj;cases hj':ok j with
   | true=>rfl
   | false=>exact absurd ⟨j,hj,hj'⟩ hn
  obtain ⟨k,hk,ho,hb⟩:∃k,k<n/\ok k=false/\∀j,j<k->ok j=true:=by
   obtain ⟨k,hk,ho⟩:=hex;induction k using Nat.strongRecOn with
   | _ k ih=>
    by_cases hb:∀j,j<k->ok j=true
    ·exact ⟨k,hk,ho,hb⟩
    ·have:∃j,j<k/\ok j=false:=by
      apply f8q;intro hn;apply hb;intro j hj;cases hj':ok j with
      | true=>rfl
      | false=>exact absurd ⟨j,hj,hj'⟩ hn
     obtain ⟨j,hj,hjo⟩:=this;exact ih j hj (by omega) hjo
  refine ⟨k,hk,ho,hb,?_⟩;rw [W7 st k fun j hj => ?_]
  ·refine X4 ?_;rw [h1 k hk hb,ho];rfl
  ·rw [h1 j (by omega) fun i hi=>hb i (by omega),hb j hj];rfl
end
theorem c4K{R S B:Type}{body:S->Option (l7 R S B)}(I:Nat->S->Prop)(Q:m5 R B->Prop)(h:∀k s,I k s->∃st,body s=some st/\match st with | .ret r=>Q (.ret r) | .brk b=>Q (.brk b) | .nxt t => ∃k',k'<k/\I k' t):∀{k s},I k s->∃x,o9 body s=some x/\Q x:=by
 intro k;induction k using Nat.strongRecOn with
 | _ k ih=>
  intro s hs;obtain ⟨st,hb,hq⟩:=h k s hs;cases st with
  | ret r=>exact ⟨_,X4 hb,hq⟩
  | brk b=>exact ⟨_,C8 hb,hq⟩
  | nxt t=>
   obtain ⟨k',hk,ht⟩:=hq;obtain ⟨x,hx,hq⟩:=ih k' hk ht;exact ⟨x,by rw [D9 hb];exact hx,hq⟩
theorem v6{β:Type}{p:Prop}[Decidable p](h:p)(k:Option β):t5 p k=k:=if_pos h
theorem a7y{α:Type}(l:List α)(k:Nat):idx l (k:Int)=l[k]?:=by
 unfold idx;rw [if_pos (by omega)];rfl
theorem t9{α:Type}{l:List α}{k:Nat}(h:k<l.length):idx l (k:Int)=some l[k]:=by
 rw [a7y,f5Z h]
theorem x7{α:Type}(l:List α)(k:Nat)(h:k<l.length):decide ((k:Int)<(l.length:Int))=true:=by simpa using h
theorem z9{α:Type}(l:List α):decide ((l.length:Int)<(l.length:Int))=false:=by simp
theorem K9{α B:Type}{body:Int->Option (l7 Bool Int B)}(l:List α)(hl:t0 l)(ok:α->Bool)(v:Bool)(b:B)(h1:∀(k:Nat) (h:k<l.length),body (k:Int)=some (bif ok l[k] then .nxt (m8 ((k:Int)+1)) else .ret v))(h2:body (l.length:Int)=some (.brk b)):o9 body 0=some (bif l.all ok then .brk b else .ret v):=by
 have h:=a5z (body:=body) (fun k=>(k:Int)) l.length (fun k=>match l[k]? with|some x=>ok x|none=>true) (fun _=>v) b
  (fun k hk _=>by
   have:=h1 k hk;rw [F6 hl hk] at this;simpa [f5Z hk] using this) (fun _=>h2)
 rcases h with ⟨h,hall⟩|⟨k,hk,ho,_,h⟩
 ·have:l.all ok=true:=by
   rw [f6e];intro x hx;obtain ⟨i,hi,rfl⟩:=f6Q hx;have:=hall i hi;simpa [f5Z hi] using this
  rw [this];exact h
 ·have:l.all ok=false:=by
   rw [f7M];refine ⟨l[k],f6c hk,?_⟩;simpa [f5Z hk] using ho
  rw [this];exact h
theorem a2q{α B:Type}{body:Int->Option (l7 Bool Int B)}(l:List α)(hl:t0 l)(ok:Nat->Bool)(v:Bool)(b:B)(h1:∀(k:Nat) (h:k<l.length),(∀j,j<k->ok j=true)->body (k:Int)=some (bif ok k then .nxt (m8 ((k:Int)+1)) else .ret v))(h2:body (l.length:Int)=some (.brk b)):o9 body 0=some (bif (f6i l.length).all ok then .brk b else .ret v):=by
 have h:=a5z (body:=body) (fun k=>(k:Int)) l.length ok (fun _=>v) b
  (fun k hk hb=>by
   have:=h1 k hk hb;rw [F6 hl hk] at this;exact this) (fun _=>h2)
 rcases h with ⟨h,hall⟩|⟨k,hk,ho,_,h⟩
 ·have:(f6i l.length).all ok=true:=by
   rw [f6e];intro x hx;exact hall x (by simpa using hx)
  rw [this];exact h
 ·have:(f6i l.length).all ok=false:=by
   rw [f7M];exact ⟨k,by simpa using hk,by simp [ho]⟩
  rw [this];exact h
theorem b9f{α R B:Type}{body:Int->Option (l7 R Int B)}(l:List α)(hl:t0 l)(is:α->Bool)(f:α->R)(b:B)(h1:∀(k:Nat) (h:k<l.length),body (k:Int)=some (bif is l[k] then .ret (f l[k]) else .nxt (m8 ((k:Int)+1))))(h2:body (l.length:Int)=some (.brk b)):o9 body 0=some (match l.find? is with|some x=>.ret (f x)|none=>.brk b):=by
 have key:∀(m k:Nat),k+m=l.length->o9 body (k:Int)=some (match (l.drop k).find? is with|some x=>.ret (f x)|none=>.brk b):=by
  intro m;induction m with
  | zero=>
   intro k hk;have:k=l.length:=by omega
   subst this;rw [List.drop_length];exact C8 h2
  | succ m ih=>
   intro k hk;have hlt:k<l.length:=by omega
   have hb:=h1 k hlt;rw [f6w hlt,f7K];cases hq:is l[k] with
   | true=>
    rw [hq] at hb;exact X4 hb
   | false=>
    rw [hq] at hb;rw [D9 hb,F6 hl hlt];exact ih (k+1) (by omega)
 have:=key l.length 0 (by omega);simpa using this
theorem d2u{α S R B:Type}{body:S×Int->Option (l7 R (S×Int) B)}(l:List α)(hl:t0 l)(g:S->α->S)(s0:S)(b:S->B)(h1:∀(k:Nat) (h:k<l.length),body ((l.take k).foldl g s0,(k:Int))=some (.nxt (g ((l.take k).foldl g s0) l[k],m8 ((k:Int)+1))))(h2:body (l.foldl g s0,(l.length:Int))=some (.brk (b (l.foldl g s0)))):o9 body (s0,0)=some (.brk (b (l.foldl g s0))):=by
 have h:=W7 (body:=body) (fun k=>((l.take k).foldl g s0,(k:Int))) l.length (fun k hk=>by
  rw [h1 k hk,F6 hl hk,f6C hk,List.foldl_append];rfl)
 simp only [f6R,f8u,f6u] at h;rw [show ((0:Nat):Int)=0 from rfl] at h;rw [h];exact C8 h2
def c3a(x:o7):Prop:=I9 x.c8/\I9 x.Seq
def d25(x:r9):Prop:=I9 x.i6/\I9 x.j5
def d1r(x:p7):Prop:=I9 x.i6/\I9 x.g7
def b5F(x:n6):Prop:=(A3 16 d25) x.b5/\(A3 16 d1r) x.b6/\I9 x.g7/\I9 x.Code
def E9(x:m6):Prop:=c3a x.a0/\b5F x.b8
def S5(x:m9):Prop:=I9 x.a8/\E9 x.i0
def a5J(x:z4):Prop:=I9 x.i4/\(A3 96 S5) x.a7
def b4O(x:n9):Prop:=I9 x.a9/\I9 x.A/\I9 x.B/\I9 x.N
def P6(x:j7):Prop:=I9 x.Id/\a5J x.Acc/\(A3 88 E9) x.a5/\I9 x.Seq/\I9 x.d8/\I9 x.a8/\(A3 1 okT) x.c9/\(A3 96 S5) x.i5/\E9 x.d6/\(A3 1 okT) x.a7/\(A3 32 b4O) x.i7/\E9 x.b7/\(A3 88 E9) x.d9
def a0h(x:l9):Prop:=I9 x.a9/\I9 x.c9/\I9 x.To/\I9 x.a8/\I9 x.g8/\E9 x.i0/\(A3 96 S5) x.a7
def d3o(x:x6):Prop:=c3a x.a0/\(A3 32 b4O) x.i7
def d1B(x:n5):Prop:=I9 x.Node/\c3a x.a0/\I9 x.Code/\I9 x.g7
def R2(x:m4):Prop:=(A3 392 P6) x.a6/\(A3 152 a0h) x.b9/\(A3 40 d3o) x.d7/\(A3 40 d1B) x.Told
theorem A3.fits{α:Type}{bytes:Nat}{ok:α->Prop}{l:List α}(h:A3 bytes ok l)(hb:0<bytes):t0 l:=by
 obtain ⟨h,_⟩:=h;unfold t0;have:l.length*1<=l.length*bytes:=Nat.mul_le_mul_left _ hb;omega
def a2f(x:n6):Prop:=A3 16 okT x.b5/\A3 16 okT x.b6/\True
def a2d(x:m6):Prop:=True/\a2f x.b8
theorem A3.imp{α:Type}{bytes:Nat}{ok ok':α->Prop}{l:List α}(h:A3 bytes ok l)(hi:∀x,ok x->ok' x):A3 bytes ok' l:=⟨h.1,fun x hx=>hi x (h.2 x hx)⟩
theorem b5F.f{x:n6}(h:b5F x):a2f x:=⟨h.1.imp fun _ _=>trivial,h.2.1.imp fun _ _=>trivial,trivial⟩
theorem E9.f{x:m6}(h:E9 x):a2d x:=⟨trivial,h.2.f⟩
theorem okEntries.f{l:List m6}(h:A3 88 E9 l):A3 88 a2d l:=h.imp fun _ x=>x.f
def J2(l:List r9)(box:Int):Bool:=l.any (·.i6==box)
def J8(l:List p7)(box:Int):Bool:=l.any (·.i6==box)
theorem d2r{l:List r9}(h:t0 l)(box:Int):b3Q l box=some (J2 l box):=by
 unfold b3Q;rw [K9 l h (fun x => !(x.i6==box)) true ()]
 ·unfold J2;rw [List.any_eq_not_all_not];cases l.all fun x => !(x.i6==box)<;>rfl
 ·intro k hk;unfold b7Q;rw [x7 l k hk,t9 hk];cases hq:l[k].i6==box<;>simp [hq]
 ·unfold b7Q;rw [z9];rfl
theorem d2m{α B:Type}{body:Int->Option (l7 Int Int B)}(l:List α)(hl:t0 l)(is:α->Bool)(b:B)(h1:∀(k:Nat) (h:k<l.length),body (k:Int)=some (bif is l[k] then .ret (k:Int) else .nxt (m8 ((k:Int)+1))))(h2:body (l.length:Int)=some (.brk b)):(o9 body 0=some (.brk b)/\l.any is=false)\/∃k:Nat,o9 body 0=some (.ret (k:Int))/\l.any is=true:=by
 have h:=a5z (body:=body) (fun k=>(k:Int)) l.length (fun k=>match l[k]? with|some x => !is x|none=>true) (fun k=>(k:Int)) b
  (fun k hk _=>by
   have:=h1 k hk;rw [F6 hl hk] at this;rw [this];simp only [f5Z hk];cases is l[k]<;>rfl) (fun _=>h2)
 rcases h with ⟨h,hall⟩|⟨k,hk,ho,_,h⟩
 ·left
  refine ⟨h,?_⟩;rw [f6O];intro x hx;obtain ⟨i,hi,rfl⟩:=f6Q hx;have:=hall i hi;simpa [f5Z hi] using this
 ·right
  refine ⟨k,h,?_⟩;rw [f7B];refine ⟨l[k],f6c hk,?_⟩;simpa [f5Z hk] using ho
theorem f3a{l:List p7}(h:t0 l)(box:Int):∃v,a6i l box=some v/\decide (v>=0)=J8 l box:=by
 unfold a6i;rcases d2m (body:=fun s:Int=>a7e l box s) l h (fun x=>x.i6==box) () (by
  intro k hk;unfold a7e;rw [x7 l k hk,t9 hk];cases hq:l[k].i6==box<;>simp [hq]) (by unfold a7e;rw [z9];rfl) with ⟨h1,h2⟩|⟨k,h1,h2⟩
 ·rw [h1];exact ⟨-1,rfl,h2.symm⟩
 ·rw [h1];refine ⟨k,rfl,?_⟩;rw [show J8 l box=true from h2];simp
theorem e3v{x:n6}(h:t0 x.b5)(box:Int):∃v,b30 x box=some v/\decide (v>=0)=J2 x.b5 box:=by
 unfold b30;rcases d2m (body:=fun s:Int=>b1x x box s) x.b5 h (fun x=>x.i6==box) () (by
  intro k hk;unfold b1x;rw [x7 x.b5 k hk,t9 hk];cases hq:x.b5[k].i6==box<;>simp [hq]) (by unfold b1x;rw [z9];rfl) with ⟨h1,h2⟩|⟨k,h1,h2⟩
 ·rw [h1];exact ⟨-1,rfl,h2.symm⟩
 ·rw [h1];refine ⟨k,rfl,?_⟩;rw [show J2 x.b5 box=true from h2];simp
def q8(n lo hi:Int):Bool:=decide (lo<=n/\n<=hi)
theorem N2(n lo hi:Int):D8 n lo hi=some (q8 n lo hi):=by
 unfold D8 q8;by_cases h:n>=lo
 ·have h':lo<=n:=h;simp [h']
 ·have h':¬lo<=n:=h;simp [h']
theorem a8v(n:Int):a5P n=some (q8 n (-1000000) 1000000):=N2 n (-1000000) 1000000
theorem c2r(n:Int):a8e n=some (q8 n 0 3):=by
 rw [<-N2];unfold a8e D8;have:(n<4)=(n<=3):=by apply propext;omega
 simp only [this]
theorem b81(q:o7):a6m q=some (q8 q.c8 0 2&&q8 q.Seq 1 1000):=by
 unfold a6m;simp only [N2,f5Y];cases q8 q.c8 0 2<;>rfl
theorem c20(q:o7):a9X q=some (q8 q.c8 0 2&&q8 q.Seq 1 1000):=by
 have h3:(q.c8<3)=(q.c8<=2):=by apply propext;omega
 unfold a9X q8;simp only [h3];by_cases h1:q.c8>=0<;>by_cases h2:q.c8<=2<;>by_cases h4:q.Seq>=1<;>by_cases h5:q.Seq<=1000<;>simp [h1,h2,h4,h5]<;>omega
def W8(l:List r9)(k:Nat):Bool:=match l[k]? with
 | some x=>q8 x.i6 0 3&&(q8 x.j5 0 1000000 && !J2 (l.take k) x.i6)
 | none=>true
def W9(l:List p7)(k:Nat):Bool:=match l[k]? with
 | some x=>q8 x.i6 0 3&&(q8 x.g7 (-1000000) 1000000 && !J8 (l.take k) x.i6)
 | none=>true
theorem d6c{α:Type}{l:List α}(h:t0 l)(k:Nat):t0 (l.take k):=by
 unfold t0 at h⊢;rw [f6t];omega
theorem f4u{r:n6}(h:t0 r.b5):o9 (fun s:Int=>b2l r s) 0=some (bif (f6i r.b5.length).all (W8 r.b5) then .brk () else .ret false):=by
 refine a2q r.b5 h (W8 r.b5) false () ?_ ?_
 ·intro k hk _;unfold b2l W8 t5;rw [x7 _ k hk,t9 hk,f5Z hk];have hp:(0:Int)<=(k:Int)/\(k:Int)<=(r.b5.length:Int):=by constructor<;>omega
  simp only [f8v,f5Y,if_pos hp,c2r,f6A,Nat.sub_zero,f7t,d2r (d6c h k)];cases q8 r.b5[k].i6 0 3
  ·rfl
  ·unfold q8;by_cases h1:r.b5[k].j5<0
   ·have h1':¬0<=r.b5[k].j5:=by omega
    simp [h1,h1']
   ·have h1':0<=r.b5[k].j5:=by omega
    by_cases h2:r.b5[k].j5>1000000
    ·have h2':¬r.b5[k].j5<=1000000:=by omega
     simp [h1,h1',h2,h2']
    ·have h2':r.b5[k].j5<=1000000:=by omega
     simp only [h1,h1',h2,h2',decide_false,decide_true,f6f,f8w,f6n,and_self];cases J2 (r.b5.take k) r.b5[k].i6<;>rfl
 ·unfold b2l;rw [z9];rfl
theorem d9a{r:n6}(h:t0 r.b6):o9 (fun s:Int=>b16 r s) 0=some (bif (f6i r.b6.length).all (W9 r.b6) then .brk () else .ret false):=by
 refine a2q r.b6 h (W9 r.b6) false () ?_ ?_
 ·intro k hk _;obtain ⟨v,hv,hg⟩:=f3a (d6c h k) r.b6[k].i6;unfold b16 W9 t5;rw [x7 _ k hk,t9 hk,f5Z hk];have hp:(0:Int)<=(k:Int)/\(k:Int)<=(r.b6.length:Int):=by constructor<;>omega
  simp only [f8v,f5Y,if_pos hp,c2r,a8v,f6A,Nat.sub_zero,f7t,hv,hg];cases q8 r.b6[k].i6 0 3
  ·rfl
  ·cases q8 r.b6[k].g7 (-1000000) 1000000
   ·rfl
   ·cases J8 (r.b6.take k) r.b6[k].i6<;>rfl
 ·unfold b16;rw [z9];rfl
def b0H(f:Int->Bool):List Bool:=[f 0,f 1,f 2,f 3]
theorem d3f{f:Int->Bool}{b:Int}(h:q8 b 0 3=true):idx (b0H f) b=some (f b)/\b<4:=by
 have h:0<=b/\b<=3:=by simpa [q8] using h
 have:b=0\/b=1\/b=2\/b=3:=by omega
 rcases this with rfl|rfl|rfl|rfl<;>exact ⟨rfl,by decide⟩
theorem c8o{f g:Int->Bool}{b:Int}(h:q8 b 0 3=true)(hb:g b=true)(hne:∀c,c≠b->g c=f c):(b0H f).set b.toNat true=b0H g:=by
 have h:0<=b/\b<=3:=by simpa [q8] using h
 have:b=0\/b=1\/b=2\/b=3:=by omega
 unfold b0H;rcases this with rfl|rfl|rfl|rfl
 all_goals
  rw [show [g 0,g 1,g 2,g 3]=_ from rfl];first
   | rw [hb,hne 1 (by decide),hne 2 (by decide),hne 3 (by decide)];rfl
   | rw [hb,hne 0 (by decide),hne 2 (by decide),hne 3 (by decide)];rfl
   | rw [hb,hne 0 (by decide),hne 1 (by decide),hne 3 (by decide)];rfl
   | rw [hb,hne 0 (by decide),hne 1 (by decide),hne 2 (by decide)];rfl
theorem c8j{l:List r9}{k:Nat}(hk:k<l.length)(b:Int):J2 (l.take (k+1)) b=(J2 (l.take k) b||(l[k].i6==b)):=by
 unfold J2;rw [f6C hk,List.any_append];simp
theorem c8p{l:List p7}{k:Nat}(hk:k<l.length)(b:Int):J8 (l.take (k+1)) b=(J8 (l.take k) b||(l[k].i6==b)):=by
 unfold J8;rw [f6C hk,List.any_append];simp
theorem f3F{l:List r9}{k:Nat}(hk:k<l.length)(c:Int)(hc:c≠l[k].i6):J2 (l.take (k+1)) c=J2 (l.take k) c:=by
 have:(l[k].i6==c)=false:=by simpa using fun h=>hc h.symm
 rw [c8j hk,this,Bool.or_false]
theorem f2I{l:List p7}{k:Nat}(hk:k<l.length)(c:Int)(hc:c≠l[k].i6):J8 (l.take (k+1)) c=J8 (l.take k) c:=by
 have:(l[k].i6==c)=false:=by simpa using fun h=>hc h.symm
 rw [c8p hk,this,Bool.or_false]
theorem d6K{R S B:Type}{x:Option (m5 R B)}{n:Nat}{ok:Nat->Bool}{r:R}{b:B}(h:(x=some (.brk b)/\∀j,j<n->ok j=true)\/∃k,k<n/\ok k=false/\(∀j,j<k->ok j=true)/\x=some (.ret r)):x=some (bif (f6i n).all ok then .brk b else .ret r):=by
 rcases h with ⟨h,hall⟩|⟨k,hk,ho,_,h⟩
 ·have:(f6i n).all ok=true:=by
   rw [f6e];intro x hx;exact hall x (by simpa using hx)
  rw [this];exact h
 ·have:(f6i n).all ok=false:=by
   rw [f7M];exact ⟨k,by simpa using hk,by simp [ho]⟩
  rw [this];exact h
theorem e4t{r:n6}(h:t0 r.b5):o9 (fun s:List Bool×Int=>a9V r s.1 s.2) (f6a 4 false,0)=some (bif (f6i r.b5.length).all (W8 r.b5) then .brk () else .ret false):=by
 refine d6K (S:=List Bool×Int) (a5z (body:=fun s:List Bool×Int=>a9V r s.1 s.2) (fun k=>(b0H (J2 (r.b5.take k)),(k:Int))) r.b5.length (W8 r.b5) (fun _=>false) () ?_ ?_)
 ·intro k hk _;simp only;unfold a9V W8 t5;rw [x7 _ k hk,t9 hk,f5Z hk];simp only [f8v,f5Y,N2];cases hb:q8 r.b5[k].i6 0 3
  ·rfl
  ·obtain ⟨h1,h2⟩:=d3f (f:=J2 (r.b5.take k)) hb;rw [h1];simp only [if_pos h2,f6f,f8w,f5Y,f6n];cases hs:J2 (r.b5.take k) r.b5[k].i6
   ·cases q8 r.b5[k].j5 0 1000000
    ·rfl
    ·simp only [f6f,f8w,f6H,f6n,f8v];rw [c8o (f:=J2 (r.b5.take k)) (g:=J2 (r.b5.take (k+1))) hb (by rw [c8j hk];simp) (f3F hk),F6 h hk]
   ·cases q8 r.b5[k].j5 0 1000000<;>rfl
 ·intro _;simp only;unfold a9V;rw [z9];rfl
theorem e50{r:n6}(h:t0 r.b6):o9 (fun s:List Bool×Int=>a90 r s.1 s.2) (f6a 4 false,0)=some (bif (f6i r.b6.length).all (W9 r.b6) then .brk () else .ret false):=by
 refine d6K (S:=List Bool×Int) (a5z (body:=fun s:List Bool×Int=>a90 r s.1 s.2) (fun k=>(b0H (J8 (r.b6.take k)),(k:Int))) r.b6.length (W9 r.b6) (fun _=>false) () ?_ ?_)
 ·intro k hk _;simp only;unfold a90 W9 t5;rw [x7 _ k hk,t9 hk,f5Z hk];simp only [f8v,f5Y,N2];cases hb:q8 r.b6[k].i6 0 3
  ·rfl
  ·obtain ⟨h1,h2⟩:=d3f (f:=J8 (r.b6.take k)) hb;rw [h1];simp only [if_pos h2,f6f,f8w,f5Y,f6n];cases hs:J8 (r.b6.take k) r.b6[k].i6
   ·cases q8 r.b6[k].g7 (-1000000) 1000000
    ·rfl
    ·simp only [f6f,f8w,f6H,f6n,f8v];rw [c8o (f:=J8 (r.b6.take k)) (g:=J8 (r.b6.take (k+1))) hb (by rw [c8p hk];simp) (f2I hk),F6 h hk]
   ·cases q8 r.b6[k].g7 (-1000000) 1000000<;>rfl
 ·intro _;simp only;unfold a90;rw [z9];rfl
def U6(r:n6):Bool:=q8 r.Code 0 3&&(q8 r.g7 (-1000000) 1000000&&((r.Code==0||(r.g7==0&&r.b6.length==0))&&((r.Code != 3||r.b5.length==0)&&((f6i r.b5.length).all (W8 r.b5)&&(f6i r.b6.length).all (W9 r.b6)))))
theorem e0C{r:n6}(h:a2f r):b7O r=some ((f6i r.b5.length).all (W8 r.b5)&&(f6i r.b6.length).all (W9 r.b6)):=by
 unfold b7O c4l;rw [f4u (h.1.fits (by decide)),d9a (h.2.1.fits (by decide))];cases (f6i r.b5.length).all (W8 r.b5)<;>cases (f6i r.b6.length).all (W9 r.b6)<;>rfl
theorem d7G{r:n6}(h:a2f r):b7R r=some ((f6i r.b5.length).all (W8 r.b5)&&(f6i r.b6.length).all (W9 r.b6)):=by
 unfold b7R c4G;rw [e4t (h.1.fits (by decide)),e50 (h.2.1.fits (by decide))];cases (f6i r.b5.length).all (W8 r.b5)<;>cases (f6i r.b6.length).all (W9 r.b6)<;>rfl
theorem c75{α:Type}(l:List α):decide ((l.length:Int)>0) = !(l.length==0):=by
 cases l<;>simp
theorem d47{r:n6}(h:a2f r):b2i r=some (U6 r):=by
 unfold b2i U6;rw [e0C h];simp only [a8v,c75,f5Y,m5.go];generalize ((f6i r.b5.length).all (W8 r.b5)&&(f6i r.b6.length).all (W9 r.b6))=z;generalize (r.b6.length==0)=a;generalize (r.b5.length==0)=b;generalize q8 r.g7 (-1000000) 1000000=c;have h3:q8 r.Code 0 3=(!decide (r.Code<0) && !decide (r.Code>3)):=by
  unfold q8;by_cases h1:r.Code<0<;>by_cases h2:r.Code>3<;>simp [h1,h2]<;>omega
 rw [h3];unfold bne;cases decide (r.Code<0)<;>cases decide (r.Code>3)<;>cases c<;>cases (r.Code==0)<;>cases (r.g7==0)<;>cases a<;>cases (r.Code==3)<;>cases b<;>rfl
theorem c01{r:n6}(h:a2f r):b0m r=some (U6 r):=by
 unfold b0m U6;rw [d7G h];simp only [N2,c75,f5Y,m5.go];generalize ((f6i r.b5.length).all (W8 r.b5)&&(f6i r.b6.length).all (W9 r.b6))=z;generalize (r.b6.length==0)=a;generalize (r.b5.length==0)=b;generalize q8 r.g7 (-1000000) 1000000=c;generalize q8 r.Code 0 3=d;unfold bne;cases d<;>cases c<;>cases (r.Code==0)<;>cases (r.g7==0)<;>cases a<;>cases (r.Code==3)<;>cases b<;>rfl
def a2O(a b:List r9)(k:Nat):Bool:=match a[k]?,b[k]? with
 | some x,some y=>([x.i6,x.j5]:List Int)==[y.i6,y.j5]
 | _,_=>true
def a2z(a b:List p7)(k:Nat):Bool:=match a[k]?,b[k]? with
 | some x,some y=>([x.i6,x.g7]:List Int)==[y.i6,y.g7]
 | _,_=>true
theorem e64{a b:n6}(h:t0 a.b5)(hl:a.b5.length=b.b5.length):o9 (fun s:Int=>b1E a b s) 0=some (bif (f6i a.b5.length).all (a2O a.b5 b.b5) then .brk () else .ret false):=by
 refine a2q a.b5 h (a2O a.b5 b.b5) false () ?_ ?_
 ·intro k hk _;unfold b1E a2O;rw [x7 _ k hk,t9 hk,t9 (hl▸hk),f5Z hk,f5Z (hl▸hk)];simp only [f8v,f5Y];cases ([a.b5[k].i6,a.b5[k].j5]:List Int)==[(b.b5[k]'(hl▸hk)).i6,(b.b5[k]'(hl▸hk)).j5]<;>rfl
 ·unfold b1E;rw [z9];rfl
theorem e4U{a b:n6}(h:t0 a.b6)(hl:a.b6.length=b.b6.length):o9 (fun s:Int=>b1W a b s) 0=some (bif (f6i a.b6.length).all (a2z a.b6 b.b6) then .brk () else .ret false):=by
 refine a2q a.b6 h (a2z a.b6 b.b6) false () ?_ ?_
 ·intro k hk _;unfold b1W a2z;rw [x7 _ k hk,t9 hk,t9 (hl▸hk),f5Z hk,f5Z (hl▸hk)];simp only [f8v,f5Y];cases ([a.b6[k].i6,a.b6[k].g7]:List Int)==[(b.b6[k]'(hl▸hk)).i6,(b.b6[k]'(hl▸hk)).g7]<;>rfl
 ·unfold b1W;rw [z9];rfl
theorem e2F{a b:List r9}(h:t0 a):b9r a b=some (a.length==b.length&&(f6i a.length).all (a2O a b)):=by
 unfold b9r;by_cases hl:a.length=b.length
 ·rw [a2q a h (a2O a b) false ()]
  ·rw [hl];simp only [bne_self_eq_false,f8w,beq_self_eq_true,f6n];cases (f6i b.length).all (a2O a b)<;>rfl
  ·intro k hk _;unfold b86 a2O;rw [x7 _ k hk,t9 hk,t9 (hl▸hk),f5Z hk,f5Z (hl▸hk)];simp only [f8v,f5Y];cases ([a[k].i6,a[k].j5]:List Int)==[(b[k]'(hl▸hk)).i6,(b[k]'(hl▸hk)).j5]<;>rfl
  ·unfold b86;rw [z9];rfl
 ·have h1:((a.length:Int) != (b.length:Int))=true:=by simp;omega
  have h2:(a.length==b.length)=false:=by simpa using hl
  rw [h1,h2];rfl
theorem d9w{a b:List p7}(h:t0 a):b63 a b=some (a.length==b.length&&(f6i a.length).all (a2z a b)):=by
 unfold b63;by_cases hl:a.length=b.length
 ·rw [a2q a h (a2z a b) false ()]
  ·rw [hl];simp only [bne_self_eq_false,f8w,beq_self_eq_true,f6n];cases (f6i b.length).all (a2z a b)<;>rfl
  ·intro k hk _;unfold b5k a2z;rw [x7 _ k hk,t9 hk,t9 (hl▸hk),f5Z hk,f5Z (hl▸hk)];simp only [f8v,f5Y];cases ([a[k].i6,a[k].g7]:List Int)==[(b[k]'(hl▸hk)).i6,(b[k]'(hl▸hk)).g7]<;>rfl
  ·unfold b5k;rw [z9];rfl
 ·have h1:((a.length:Int) != (b.length:Int))=true:=by simp;omega
  have h2:(a.length==b.length)=false:=by simpa using hl
  rw [h1,h2];rfl
def a4m(a b:n6):Bool:=(a.b5.length==b.b5.length&&(f6i a.b5.length).all (a2O a.b5 b.b5))&&((a.b6.length==b.b6.length&&(f6i a.b6.length).all (a2z a.b6 b.b6))&&(a.g7==b.g7&&a.Code==b.Code))
theorem c9y{α β:Type}(a:List α)(b:List β):((a.length:Int) != (b.length:Int)) = !(a.length==b.length):=by
 unfold bne;congr 1
 by_cases h:a.length=b.length
 ·simp [h]
 ·have h1:((a.length:Int)==(b.length:Int))=false:=by simp;omega
  have h2:(a.length==b.length)=false:=by simpa using h
  rw [h1,h2]
theorem c07{a b:n6}(h:a2f a):b0n a b=some (a4m a b):=by
 unfold b0n a4m;rw [c9y,c9y];cases h1:a.b5.length==b.b5.length
 ·unfold bne;cases a.g7==b.g7<;>cases a.Code==b.Code<;>rfl
 cases h2:a.b6.length==b.b6.length
 ·unfold bne;cases a.g7==b.g7<;>cases a.Code==b.Code<;>simp
 unfold c3A;rw [e64 (h.1.fits (by decide)) (by simpa using h1),e4U (h.2.1.fits (by decide)) (by simpa using h2)];unfold bne;cases (f6i a.b5.length).all (a2O a.b5 b.b5)<;>cases (f6i a.b6.length).all (a2z a.b6 b.b6)<;>cases a.g7==b.g7<;>cases a.Code==b.Code<;>rfl
theorem c0H{a b:n6}(h:a2f a):b5c a b=some (a4m a b):=by
 unfold b5c a4m;rw [e2F (h.1.fits (by decide)),d9w (h.2.1.fits (by decide))];simp only [f5Y];generalize (a.b5.length==b.b5.length&&(f6i a.b5.length).all (a2O a.b5 b.b5))=x;generalize (a.b6.length==b.b6.length&&(f6i a.b6.length).all (a2z a.b6 b.b6))=y;cases x<;>cases y<;>cases a.g7==b.g7<;>rfl
def z5(e:m6):Bool:=bif e.i8 then (([e.a0.c8,e.a0.Seq]:List Int)==[0,0])&&a4m e.b8 (n6.mk [] [] 0 0) else (q8 e.a0.c8 0 2&&q8 e.a0.Seq 1 1000)&&(U6 e.b8&&e.b8.Code != 3)
theorem a4a{e:m6}(h:a2d e):a1m e=some (z5 e):=by
 unfold a1m z5;simp only [c07 h.2,c20,d47 h.2,f5Y];cases e.i8
 ·simp only [f8w];cases q8 e.a0.c8 0 2&&q8 e.a0.Seq 1 1000<;>cases U6 e.b8<;>rfl
 ·simp only [f8v];cases ([e.a0.c8,e.a0.Seq]:List Int)==[0,0]<;>rfl
theorem a6M{e:m6}(h:a2d e):a1z e=some (z5 e):=by
 unfold a1z W0 z5;simp only [c0H h.2,b81,c01 h.2,f5Y];cases e.i8
 ·simp only [f8w];cases q8 e.a0.c8 0 2&&q8 e.a0.Seq 1 1000<;>cases U6 e.b8<;>rfl
 ·simp only [f8v,beq_self_eq_true];cases ([e.a0.c8,e.a0.Seq]:List Int)==[0,0]<;>rfl
def G6(l:List m6):Bool:=decide (l.length<=40)&&l.all z5
theorem c0z{α:Type}(l:List α)(n:Nat):decide ((l.length:Int)<=(n:Int))=decide (l.length<=n):=by
 by_cases h:l.length<=n
 ·have:(l.length:Int)<=(n:Int):=by omega
  simp [h,this]
 ·have:¬(l.length:Int)<=(n:Int):=by omega
  simp [h,this]
theorem b05{α:Type}(l:List α)(n:Nat):decide ((l.length:Int)>(n:Int)) = !decide (l.length<=n):=by
 by_cases h:l.length<=n
 ·have:¬(l.length:Int)>(n:Int):=by omega
  simp [h,this]
 ·have:(l.length:Int)>(n:Int):=by omega
  simp [h,this]
theorem e8l{l:List m6}(h:A3 88 a2d l):b6D l=some (G6 l):=by
 unfold b6D G6;rw [show (40:Int)=((40:Nat):Int) from rfl,b05,K9 l (h.fits (by decide)) z5 false ()]
 ·cases decide (l.length<=40)
  ·rfl
  ·cases l.all z5<;>rfl
 ·intro k hk;unfold b9p;rw [x7 _ k hk,t9 hk];simp only [f8v,f5Y,a4a (h.2 _ (f6c hk))];cases z5 l[k]<;>rfl
 ·unfold b9p;rw [z9];rfl
theorem c44{l:List m6}(h:A3 88 a2d l):b0V l=some (G6 l):=by
 unfold b0V G6 c1d;rw [show (40:Int)=((40:Nat):Int) from rfl,c0z,K9 l (h.fits (by decide)) z5 false ()]
 ·cases l.all z5<;>cases decide (l.length<=40)<;>rfl
 ·intro k hk;unfold b6F;rw [x7 _ k hk,t9 hk];simp only [f8v,f5Y,a6M (h.2 _ (f6c hk))];cases z5 l[k]<;>rfl
 ·unfold b6F;rw [z9];rfl
def a3y(b:n8):Bool:=q8 b.j5 0 1000000&&q8 b.g7 (-1000000) 1000000
def D1(l:List n8):Bool:=l.length==4&&l.all a3y
theorem b6T{α:Type}(l:List α)(n:Nat):((l.length:Int) != (n:Int)) = !(l.length==n):=by
 unfold bne;congr 1
 by_cases h:l.length=n
 ·simp [h]
 ·have h1:((l.length:Int)==(n:Int))=false:=by simp;omega
  have h2:(l.length==n)=false:=by simpa using h
  rw [h1,h2]
theorem f4A{α:Type}(l:List α)(n:Nat):((l.length:Int)==(n:Int))=(l.length==n):=by
 have:=b6T l n;unfold bne at this;simpa using this
theorem d0Q{l:List n8}(h:t0 l):b4m l=some (D1 l):=by
 unfold b4m D1;rw [show (4:Int)=((4:Nat):Int) from rfl,b6T,K9 l h a3y false ()]
 ·cases l.length==4
  ·rfl
  ·cases l.all a3y<;>rfl
 ·intro k hk;unfold b5U a3y;rw [x7 _ k hk,t9 hk];simp only [f8v,f5Y,a8v];cases hq:q8 l[k].j5 0 1000000 with
  | false=>
   by_cases h1:l[k].j5<0
   ·simp [h1]
   ·have:l[k].j5>1000000:=by
     unfold q8 at hq;simp at hq;omega
    simp [h1,this]
  | true=>
   unfold q8 at hq;simp at hq;have h1:¬l[k].j5<0:=by omega
   have h2:¬l[k].j5>1000000:=by omega
   simp only [h1,h2,decide_false,f8w,f6n];cases q8 l[k].g7 (-1000000) 1000000<;>rfl
 ·unfold b5U;rw [z9];rfl
theorem b2L{l:List n8}(h:t0 l):a5C l=some (D1 l):=by
 unfold a5C D1 c1G;rw [show (4:Int)=((4:Nat):Int) from rfl,f4A,K9 l h a3y false ()]
 ·cases l.length==4<;>cases l.all a3y<;>rfl
 ·intro k hk;unfold b8v a3y;rw [x7 _ k hk,t9 hk];simp only [f8v,f5Y,N2];cases q8 l[k].j5 0 1000000<;>cases q8 l[k].g7 (-1000000) 1000000<;>rfl
 ·unfold b8v;rw [z9];rfl
theorem d2e{l:List r9}(h:(f6i l.length).all (W8 l)=true):∀x∈l,0<=x.i6/\x.i6<=3/\0<=x.j5/\x.j5<=1000000:=by
 intro x hx;obtain ⟨i,hi,rfl⟩:=f6Q hx;have:=f6e.1 h i (by simpa using hi);unfold W8 at this;rw [f5Z hi] at this;simp [q8] at this;omega
theorem d1U{l:List p7}(h:(f6i l.length).all (W9 l)=true):∀x∈l,0<=x.i6/\x.i6<=3/\-1000000<=x.g7/\x.g7<=1000000:=by
 intro x hx;obtain ⟨i,hi,rfl⟩:=f6Q hx;have:=f6e.1 h i (by simpa using hi);unfold W9 at this;rw [f5Z hi] at this;simp [q8] at this;omega
theorem a3r{r:n6}(h:U6 r=true):(0<=r.Code/\r.Code<=3)/\(-1000000<=r.g7/\r.g7<=1000000)/\(r.Code=0\/(r.g7=0/\r.b6=[]))/\(∀x∈r.b5,0<=x.i6/\x.i6<=3/\0<=x.j5/\x.j5<=1000000)/\∀x∈r.b6,0<=x.i6/\x.i6<=3/\-1000000<=x.g7/\x.g7<=1000000:=by
 unfold U6 at h;simp only [f6d,Bool.or_eq_true] at h;obtain ⟨h1,h2,h3,_,h4,h5⟩:=h;refine ⟨by simpa [q8] using h1,by simpa [q8] using h2,by simpa using h3,d2e h4,d1U h5⟩
def a0V(l:List n8)(r:n6):Bool:=r.b5.all fun x=>match l[x.i6.toNat]? with
 | some b=>b.j5==x.j5
 | none=>true
theorem a7K{l:List n8}(h:D1 l=true):l.length=4:=by
 unfold D1 at h;simp only [f6d,beq_iff_eq] at h;exact h.1
theorem a4z{l:List n8}(h:D1 l=true):t0 l:=by
 unfold t0;rw [a7K h];decide
theorem a41{l:List n8}(h:D1 l=true){b:Int}(hb:0<=b/\b<=3):∃x,idx l b=some x/\l[b.toNat]?=some x/\a3y x=true:=by
 have hl:=a7K h;have hlt:b.toNat<l.length:=by omega
 refine ⟨l[b.toNat],?_,f5Z hlt,?_⟩
 ·unfold idx;rw [if_pos hb.1,f5Z hlt]
 ·unfold D1 at h;simp only [f6d] at h;exact f6e.1 h.2 _ (f6c hlt)
theorem f2B{l:List n8}{r:n6}(hl:t0 l)(hr:a2f r):b6N l r=some (D1 l&&(U6 r&&a0V l r)):=by
 unfold b6N;rw [d0Q hl,d47 hr];simp only [f5Y];cases h1:D1 l
 ·rfl
 cases h2:U6 r
 ·rfl
 have hp:=a3r h2;simp only [f6f,f8w,f6n];rw [K9 r.b5 (hr.1.fits (by decide)) (fun x=>match l[x.i6.toNat]? with|some b=>b.j5==x.j5|none=>true) false ()]
 ·unfold a0V;cases r.b5.all _<;>rfl
 ·intro k hk;have hm:=hp.2.2.2.1 _ (f6c hk);obtain ⟨b,hb1,hb2,_⟩:=a41 h1 (b:=r.b5[k].i6) ⟨hm.1,hm.2.1⟩;unfold b5N;rw [x7 _ k hk,t9 hk];simp only [f8v,f5Y,hb1,hb2];unfold bne;cases b.j5==r.b5[k].j5<;>rfl
 ·unfold b5N;rw [z9];rfl
theorem e6o{l:List n8}{r:n6}(hl:t0 l)(hr:a2f r):b9Y l r=some (D1 l&&(U6 r&&a0V l r)):=by
 unfold b9Y;rw [b2L hl,c01 hr];simp only [f5Y];cases h1:D1 l
 ·rfl
 cases h2:U6 r
 ·rfl
 have hp:=a3r h2;simp only [f6f,f8w,f6n];rw [K9 r.b5 (hr.1.fits (by decide)) (fun x=>match l[x.i6.toNat]? with|some b=>b.j5==x.j5|none=>true) false ()]
 ·unfold a0V;cases r.b5.all _<;>rfl
 ·intro k hk;have hm:=hp.2.2.2.1 _ (f6c hk);obtain ⟨b,hb1,hb2,_⟩:=a41 h1 (b:=r.b5[k].i6) ⟨hm.1,hm.2.1⟩;unfold b6a;rw [x7 _ k hk,t9 hk];simp only [f8v,f5Y,hb1,hb2];unfold bne;cases b.j5==r.b5[k].j5<;>rfl
 ·unfold b6a;rw [z9];rfl
def a0o(l:List n8)(p:p7):List n8:=match l[p.i6.toNat]? with
 | some b=>l.set p.i6.toNat ⟨if b.j5+1<1000000 then b.j5+1 else 1000000,p.g7⟩
 | none=>l
def a0P(l:List n8)(ps:List p7):List n8:=ps.foldl a0o l
def a0q(x:p7):Prop:=0<=x.i6/\x.i6<=3/\-1000000<=x.g7/\x.g7<=1000000
theorem b8Q{l:List n8}{p:p7}{b:n8}(h:l[p.i6.toNat]?=some b):a0o l p=l.set p.i6.toNat ⟨if b.j5+1<1000000 then b.j5+1 else 1000000,p.g7⟩:=by
 unfold a0o;rw [h]
theorem b2M{b:n8}:a3y b=true↔(0<=b.j5/\b.j5<=1000000)/\(-1000000<=b.g7/\b.g7<=1000000):=by
 unfold a3y q8;simp
theorem f1C{l:List n8}:D1 l=true↔l.length=4/\∀b∈l,a3y b=true:=by
 unfold D1;simp
theorem c7j{l:List n8}{p:p7}(h:D1 l=true)(hp:a0q p):D1 (a0o l p)=true:=by
 obtain ⟨b,_,h2,h3⟩:=a41 h (b:=p.i6) ⟨hp.1,hp.2.1⟩;rw [f1C] at h⊢;unfold a0o;rw [h2];refine ⟨by simpa using h.1,fun x hx => ?_⟩;rcases f6K hx with hx|rfl
 ·exact h.2 x hx
 ·rw [b2M] at h3⊢;refine ⟨?_,hp.2.2⟩;simp only;split<;>omega
theorem b6Q:∀{ps:List p7} {l:List n8},D1 l=true->(∀p∈ps,a0q p)->D1 (a0P l ps)=true
 | [],l,h,_=>h
 | p::ps,l,h,hp=>b6Q (ps:=ps) (c7j h (hp p (by simp))) fun x hx=>hp x (by simp [hx])
theorem d3x{l:List n8}{ps:List p7}(h:D1 l=true)(hp:∀p∈ps,a0q p)(k:Nat):D1 ((ps.take k).foldl a0o l)=true:=
 b6Q h fun p hq=>hp p (f7e hq)
theorem e6f{l:List n8}{r:n6}(hl:D1 l=true)(hr:a2f r)(hp:∀p∈r.b6,a0q p):b7g l r=some (a0P l r.b6):=by
 unfold b7g;rw [d2u r.b6 (hr.2.1.fits (by decide)) a0o l id]
 ·rfl
 ·intro k hk;have hq:=hp _ (f6c hk);obtain ⟨b,h1,h2,h3⟩:=a41 (d3x hl hp k) (b:=r.b6[k].i6) ⟨hq.1,hq.2.1⟩;rw [b2M] at h3;unfold b9x;rw [x7 _ k hk,t9 hk];simp only [f8v,f5Y,h1];unfold c2W;rw [b8Q h2,C5 (n:=b.j5+1) (by omega) (by omega)];by_cases hv:b.j5+1<1000000
  ·have:¬(1000000:Int)<b.j5+1:=by omega
   simp [hv,this]
  ·by_cases hv2:(1000000:Int)<b.j5+1
   ·simp [hv,hv2]
   ·have:b.j5+1=1000000:=by omega
    simp [hv,hv2,this]
 ·unfold b9x;rw [z9];rfl
theorem c3D{l:List n8}(h:l.length*16<=140737488351232):a8O l=some l:=by
 unfold a8O t5;cases l with
 | nil=>rfl
 | cons x l=>
  have h1:(((x::l).length:Int)==0)=false:=by simp;omega
  rw [h1,f8w,if_pos (by constructor<;>omega),if_pos (by simp)]
theorem d4h{l:List s7}(h:l.length*32<=140737488351232):a63 l=some l:=by
 unfold a63 t5;cases l with
 | nil=>rfl
 | cons x l=>
  have h1:(((x::l).length:Int)==0)=false:=by simp;omega
  rw [h1,f8w,if_pos (by constructor<;>omega),if_pos (by simp)]
theorem d2C{l:List n8}{r:n6}(hl:D1 l=true)(hr:a2f r)(hok:U6 r=true):b4y l r=some (a0P l r.b6):=by
 have hp:∀p∈r.b6,a0q p:=(a3r hok).2.2.2.2
 unfold b4y;rw [b2L (a4z hl),c01 hr,hl,hok];simp only [f5Y,f6f,f8w];rw [c3D (by rw [a7K hl];decide),f5Y,d2u r.b6 (hr.2.1.fits (by decide)) a0o l id]
 ·rfl
 ·intro k hk;have hq:=hp _ (f6c hk);obtain ⟨b,h1,h2,h3⟩:=a41 (d3x hl hp k) (b:=r.b6[k].i6) ⟨hq.1,hq.2.1⟩;rw [b2M] at h3;unfold b8w;rw [x7 _ k hk,t9 hk];simp only [f8v,f5Y,h1];rw [b8Q h2,C5 (n:=b.j5+1) (by omega) (by omega)]
 ·unfold b8w;rw [z9];rfl
def a8A(d:s7):Bool:=(q8 d.a0.c8 0 2&&q8 d.a0.Seq 1 1000)&&(q8 d.Code 0 2&&(q8 d.g7 (-1000000) 1000000&&(d.Code==0||d.g7==0)))
def a3l(l:List s7):Prop:=l.Pairwise fun a b=>a.a0.c8<b.a0.c8
def M1(d:s7)(st:List s7×Bool)(x:s7):List s7×Bool:=
 bif !st.2&&decide (x.a0.c8>=d.a0.c8) then (bif x.a0.c8 != d.a0.c8 then (st.1++[d])++[x] else st.1++[d],true) else (bif x.a0.c8 != d.a0.c8 then st.1++[x] else st.1,st.2)
def a0x(l:List s7)(d:s7):List s7:=
 let r:=l.foldl (M1 d) ([],false);bif !r.2 then r.1++[d] else r.1
theorem e8p(d:s7)(st:List s7×Bool)(x:s7):(M1 d st x).1.length<=st.1.length+2:=by
 unfold M1;cases !st.2&&decide (x.a0.c8>=d.a0.c8)<;>cases x.a0.c8 != d.a0.c8<;>simp
theorem c56(d:s7):∀(l:List s7) (st:List s7×Bool),(l.foldl (M1 d) st).1.length<=st.1.length+2*l.length
 | [],st=>by simp
 | x::l,st=>by
  have h1:=c56 d l (M1 d st x);have h2:=e8p d st x;simp only [f8a,f7j];omega
theorem c5y(d:s7):∀{l:List s7} {o:List s7},(∀x∈l,d.a0.c8<x.a0.c8)->l.foldl (M1 d) (o,true)=(o++l,true)
 | [],o,_=>by simp
 | x::l,o,h=>by
  have hx:=h x (by simp);have hne:(x.a0.c8 != d.a0.c8)=true:=by simp;omega
  rw [f8a,show M1 d (o,true) x=(o++[x],true) from by unfold M1;simp [hne],c5y d fun y hy=>h y (by simp [hy])];simp
theorem d2w(d:s7):∀{l o:List s7},a3l l->
  (let r:=l.foldl (M1 d) (o,false);bif !r.2 then r.1++[d] else r.1)=o++(l.filter (fun x=>decide (x.a0.c8<d.a0.c8))++d::l.filter (fun x=>decide (d.a0.c8<x.a0.c8)))
 | [],o,_=>by simp
 | x::l,o,h=>by
  obtain ⟨h1,h2⟩:=f7w.1 h;rw [f8a];by_cases hlt:x.a0.c8<d.a0.c8
  ·have hge:¬x.a0.c8>=d.a0.c8:=by omega
   have hne:(x.a0.c8 != d.a0.c8)=true:=by simp;omega
   have hngt:¬d.a0.c8<x.a0.c8:=by omega
   rw [show M1 d (o,false) x=(o++[x],false) from by unfold M1;simp [hge,hne],d2w d h2];simp [hlt,hngt]
  ·have hge:x.a0.c8>=d.a0.c8:=by omega
   have hall:∀y∈l,d.a0.c8<y.a0.c8:=fun y hy=>by have:=h1 y hy;omega
   have hf1:l.filter (fun x=>decide (x.a0.c8<d.a0.c8))=[]:=by
    rw [List.filter_eq_nil_iff];intro y hy;have:=hall y hy;simp;omega
   have hf2:l.filter (fun x=>decide (d.a0.c8<x.a0.c8))=l:=by
    rw [List.filter_eq_self];intro y hy;simpa using hall y hy
   by_cases heq:x.a0.c8=d.a0.c8
   ·have hngt:¬d.a0.c8<x.a0.c8:=by omega
    rw [show M1 d (o,false) x=(o++[d],true) from by unfold M1;simp [hge,heq],c5y d hall];simp [hlt,hngt,hf1,hf2]
   ·have hgt:d.a0.c8<x.a0.c8:=by omega
    have hne:(x.a0.c8 != d.a0.c8)=true:=by simpa using heq
    rw [show M1 d (o,false) x=((o++[d])++[x],true) from by unfold M1;simp [hge,hne],c5y d hall];simp [hlt,hgt,hf1,hf2]
theorem b99{l:List s7}(d:s7)(h:a3l l):a0x l d=l.filter (fun x=>decide (x.a0.c8<d.a0.c8))++d::l.filter (fun x=>decide (d.a0.c8<x.a0.c8)):=by
 have:=d2w d (o:=[]) h;simpa [a0x] using this
theorem f3i{l:List s7}(d:s7)(h:a3l l):a3l (a0x l d):=by
 rw [b99 d h];unfold a3l;rw [f7P,f7w];refine ⟨h.filter _,⟨fun y hy=>by simpa using (f7g.1 hy).2,h.filter _⟩,fun a ha b hb => ?_⟩;have h1:a.a0.c8<d.a0.c8:=by simpa using (f7g.1 ha).2
 rcases f6j.1 hb with rfl|hb
 ·exact h1
 ·have h2:d.a0.c8<b.a0.c8:=by simpa using (f7g.1 hb).2
  omega
theorem d79{l:List s7}{d x:s7}(h:a3l l)(hx:x∈a0x l d):x∈l\/x=d:=by
 rw [b99 d h] at hx;rcases f6b.1 hx with hx|hx
 ·exact .inl (f7g.1 hx).1
 ·rcases f6j.1 hx with rfl|hx
  ·exact .inr rfl
  ·exact .inl (f7g.1 hx).1
theorem d6R{l:List s7}(d:s7)(h:a3l l):(a0x l d).length<=l.length+1:=by
 rw [b99 d h];have:(l.filter fun x=>decide (x.a0.c8<d.a0.c8)).length+(l.filter fun x=>decide (d.a0.c8<x.a0.c8)).length<=l.length:=by
  clear h;induction l with
  | nil=>simp
  | cons x l ih=>
   by_cases h1:x.a0.c8<d.a0.c8
   ·have h2:¬d.a0.c8<x.a0.c8:=by omega
    simp [h1,h2];omega
   ·by_cases h2:d.a0.c8<x.a0.c8
    ·simp [h1,h2];omega
    ·simp [h1,h2];omega
 simp only [f6l,f7j];omega
structure Y0(s:u7)(k:Nat):Prop where
 at_:s.At=(k:Int)
 le:k<=40
 boxes:D1 s.g9=true
 sorted:a3l s.j4
 dones:∀d∈s.j4,a8A d=true
 len:s.j4.length<=k
theorem Y0.fits{s:u7}{k:Nat}(h:Y0 s k):t0 s.j4:=by
 have:=h.len;have:=h.le;unfold t0;omega
theorem c7r{α:Type}{o:List α}{d:α}(h:o.length<=80):((o++[d]).length+1)*32<=140737488355328:=by
 rw [show (o++[d]).length=o.length+1 from by simp];omega
theorem f1Q{l:List s7}{d:s7}(hl:l.length<=40):b9H l d=some (a0x l d):=by
 have hf:t0 l:=by unfold t0;omega
 have hlen:∀k,k<=l.length->((l.take k).foldl (M1 d) ([],false)).1.length<=80:=by
  intro k hk;have:=c56 d (l.take k) ([],false);simp only [f7L,f6t] at this;omega
 unfold b9H;have hloop:=W7 (body:=fun s:(List s7)×Bool×Int=>b3w l d s.1 s.2.1 s.2.2) (fun k=>(((l.take k).foldl (M1 d) ([],false)).1,((l.take k).foldl (M1 d) ([],false)).2,(k:Int))) l.length (by
  intro k hk;have hb:=hlen k (by omega);rw [f6C hk,List.foldl_append];generalize (l.take k).foldl (M1 d) ([],false)=st at hb;obtain ⟨o,i⟩:=st;simp only at hb;simp only [f8a,f8u];unfold b3w c4S c3d M1;rw [x7 _ k hk,t9 hk,F6 hf hk];have n1:(o.length+1)*32<=140737488355328:=by omega
  have n2:((o++[d]).length+1)*32<=140737488355328:=c7r (by omega);cases i<;>cases h1:decide (l[k].a0.c8>=d.a0.c8)<;>cases h2:l[k].a0.c8 != d.a0.c8<;>simp only [h1,h2,v6 n1,v6 n2,f8v,f8w,f5Y,m5.go,f6f,f6H,f6n,Bool.false_and])
 simp only [f6R,f8u,f6u] at hloop;rw [show ((0:Nat):Int)=0 from rfl] at hloop;rw [hloop,C8 (b:=l.foldl (M1 d) ([],false))]
 ·have hb:=hlen l.length (f6s _);rw [f6u] at hb;unfold c5m c4W a0x;generalize l.foldl (M1 d) ([],false)=st at hb;obtain ⟨o,i⟩:=st;have n1:(o.length+1)*32<=140737488355328:=by simp only at hb;omega
  cases i<;>simp only [v6 n1,f8v,f8w,f5Y,m5.go,f6f,f6H]
 ·unfold b3w;rw [z9];rfl
def O0(s:u7)(e:m6):u7×Int:=
 bif a0V s.g9 e.b8 then
  (bif e.b8.Code==0 then (⟨s.At+1,a0P s.g9 e.b8.b6,a0x s.j4 ⟨e.a0,0,e.b8.g7⟩⟩,0)
  else (⟨s.At+1,s.g9,a0x s.j4 ⟨e.a0,2,0⟩⟩,2))
 else (⟨s.At+1,s.g9,a0x s.j4 ⟨e.a0,1,0⟩⟩,1)
def apply(s:u7)(e:m6):u7×Int:=
 bif e.i8 then (⟨s.At+1,s.g9,s.j4⟩,5) else
 match s.j4.find? (fun d=>d.a0.c8==e.a0.c8) with
 | some d=>bif d.a0.Seq==e.a0.Seq then (⟨s.At+1,s.g9,s.j4⟩,3) else bif decide (d.a0.Seq>e.a0.Seq) then (⟨s.At+1,s.g9,s.j4⟩,4) else O0 s e
 | none=>O0 s e
theorem a3Q{e:m6}(h:z5 e=true)(hn:e.i8=false):(0<=e.a0.c8/\e.a0.c8<=2)/\(1<=e.a0.Seq/\e.a0.Seq<=1000)/\U6 e.b8=true/\e.b8.Code≠3:=by
 unfold z5 at h;rw [hn] at h;simp [q8] at h;exact ⟨h.1.1,h.1.2,h.2.1,h.2.2⟩
theorem f3j{s:u7}(h:t0 s.j4)(who:Int):b6G s who=some (match s.j4.find? (fun d=>d.a0.c8==who) with|some d=>(d,true)|none=>(⟨⟨0,0⟩,0,0⟩,false)):=by
 unfold b6G;rw [b9f s.j4 h (fun d=>d.a0.c8==who) (fun d=>(d,true)) ()]
 ·cases s.j4.find? fun d=>d.a0.c8==who<;>rfl
 ·intro k hk;unfold b87;rw [x7 _ k hk,t9 hk];simp only [f8v,f5Y];cases s.j4[k].a0.c8==who<;>rfl
 ·unfold b87;rw [z9];rfl
theorem d0O{s:u7}{k:Nat}{e:m6}(hs:Y0 s k)(hk:k<40)(he:z5 e=true)(hf:a2d e):b29 s e=some (apply s e):=by
 have hw:m8 (s.At+1)=s.At+1:=by rw [hs.at_];exact C5 (by omega) (by omega)
 unfold b29 apply;rw [hw,f3j (s:=⟨s.At+1,s.g9,s.j4⟩) hs.fits];cases hn:e.i8;case true=>rfl
 obtain ⟨_,_,hr,hc3⟩:=a3Q he hn;have hp:∀p∈e.b8.b6,a0q p:=(a3r hr).2.2.2.2
 have hfr:b4X s e=some (O0 s e):=by
  unfold b4X c0I c4P O0;simp only [f2B (a4z hs.boxes) hf.2,hs.boxes,hr,f6n,f5Y,hw,f1Q (f6M hs.len (by omega)),e6f hs.boxes hf.2 hp];cases a0V s.g9 e.b8
  ·rfl
  ·cases e.b8.Code==0<;>rfl
 simp only [f8w,f5Y,hfr];cases hfd:s.j4.find? fun d=>d.a0.c8==e.a0.c8 with
 | none=>rfl
 | some d=>
  have hwho:d.a0.c8=e.a0.c8:=by simpa using List.find?_some hfd
  have hq:(([d.a0.c8,d.a0.Seq]:List Int)==[e.a0.c8,e.a0.Seq])=(d.a0.Seq==e.a0.Seq):=by
   rw [hwho];simp
  simp only [hq,f8v];cases d.a0.Seq==e.a0.Seq
  ·cases decide (d.a0.Seq>e.a0.Seq)<;>rfl
  ·rfl
theorem f5J{l:List s7}(h:a3l l)(who seq:Int):l.find? (fun d=>d.a0.c8==who&&decide (d.a0.Seq>=seq))=match l.find? (fun d=>d.a0.c8==who) with
  | some d=>bif decide (d.a0.Seq>=seq) then some d else none
  | none=>none:=by
 induction l with
 | nil=>rfl
 | cons x l ih=>
  obtain ⟨h1,h2⟩:=f7w.1 h;rw [f7K,f7K];cases hx:x.a0.c8==who with
  | false=>simpa using ih h2
  | true=>
   cases hs:decide (x.a0.Seq>=seq) with
   | true=>simp [hs]
   | false=>
    simp only [Bool.and_false,hs,f8w];rw [f8s];intro y hy;have:=h1 y hy;have hx':x.a0.c8=who:=by simpa using hx
    simp;intro hyw;omega
theorem e0o{s:u7}{k:Nat}(hs:Y0 s k):b7N s=some true:=by
 unfold b7N;have hloop:=W7 (body:=fun v:Int=>b3s s v) (fun j=>(j:Int)) s.j4.length (by
  intro j hj;have hd:=hs.dones _ (f6c hj);unfold a8A at hd;simp only [f6d,Bool.or_eq_true] at hd;obtain ⟨⟨d1,d2⟩,d3,d4,d5⟩:=hd;unfold b3s c5H;rw [x7 _ j hj,t9 hj,F6 hs.fits hj];simp only [f8v,f5Y,b81,N2,d1,d2,d3,d4,f7x,f6f,f8w];cases j with
  | zero=>
   rw [show decide (((0:Nat):Int)>0)=false from by decide];simp only [f8w];unfold bne;rcases d5 with d5|d5<;>simp [d5,m5.go,Option.bind]
  | succ j=>
   have hlt:(s.j4[j]'(by omega)).a0.c8<s.j4[j+1].a0.c8:=f6U.1 hs.sorted j (j+1) (by omega) hj (by omega);have hge:¬(s.j4[j]'(by omega)).a0.c8>=s.j4[j+1].a0.c8:=by omega
   have hle:=hs.fits;unfold t0 at hle;rw [show m8 (((j+1:Nat):Int)-1)=(j:Int) from by rw [C5 (by omega) (by omega)];omega,t9 (show j<s.j4.length by omega)];have hpos:decide (((j+1:Nat):Int)>0)=true:=by simp
   simp only [hpos,f8v,f5Y,hge,decide_false,f8w];unfold bne;rcases d5 with d5|d5<;>simp [d5,m5.go,Option.bind])
 rw [show ((0:Nat):Int)=0 from rfl] at hloop;rw [hloop,C8 (b:=())]
 ·unfold c1S;have:=hs.le;have ha:q8 s.At 0 40=true:=by rw [hs.at_];simp [q8];omega
  simp [m5.go,N2,ha,b2L (a4z hs.boxes),hs.boxes]
 ·unfold b3s;rw [z9];rfl
theorem c0p{s:u7}{own:s7}{bx:List n8}(hl:s.j4.length<=40)(hw:m8 (s.At+1)=s.At+1)(hd:a3l s.j4):b8s s own bx=some (⟨s.At+1,bx,a0x s.j4 own⟩,own.Code):=by
 have hf:t0 s.j4:=by unfold t0;omega
 have hlen:∀k,k<=s.j4.length->((s.j4.take k).foldl (M1 own) ([],false)).1.length<=80:=by
  intro k hk;have:=c56 own (s.j4.take k) ([],false);simp only [f7L,f6t] at this;omega
 unfold b8s;have hloop:=W7 (body:=fun x:(List s7)×Int×Bool=>b2I s own x.1 x.2.1 x.2.2) (fun k=>(((s.j4.take k).foldl (M1 own) ([],false)).1,(k:Int),((s.j4.take k).foldl (M1 own) ([],false)).2)) s.j4.length (by
  intro k hk;have hb:=hlen k (by omega);rw [f6C hk,List.foldl_append];generalize (s.j4.take k).foldl (M1 own) ([],false)=st at hb;obtain ⟨o,i⟩:=st;simp only at hb;simp only [f8a,f8u];unfold b2I c1F c1p M1;rw [x7 _ k hk,t9 hk,F6 hf hk];have n1:(o.length+1)*32<=140737488355328:=by omega
  have n2:((o++[own]).length+1)*32<=140737488355328:=c7r (by omega);cases i<;>cases h1:decide (s.j4[k].a0.c8>=own.a0.c8)<;>cases h2:s.j4[k].a0.c8 != own.a0.c8<;>simp only [h1,h2,v6 n1,v6 n2,f8v,f8w,f5Y,m5.go,f6f,f6H,f6n,Bool.false_and])
 simp only [f6R,f8u,f6u] at hloop;rw [show ((0:Nat):Int)=0 from rfl] at hloop;rw [hloop,C8 (b:=s.j4.foldl (M1 own) ([],false))]
 ·have hb:=hlen s.j4.length (f6s _);rw [f6u] at hb;have hpl:=d6R own hd;have hcp:a63 (a0x s.j4 own)=some (a0x s.j4 own):=d4h (by omega);unfold c5B c4h;unfold a0x at hcp⊢;generalize s.j4.foldl (M1 own) ([],false)=st at hb hcp;obtain ⟨o,i⟩:=st;have n1:(o.length+1)*32<=140737488355328:=by simp only at hb;omega
  cases i<;>simp only [v6 n1,f8v,f8w,f5Y,m5.go,f6f,f6H,hw] at hcp⊢ <;>rw [hcp]<;>rfl
 ·unfold b2I;rw [z9];rfl
theorem c3X{s:u7}{k:Nat}{e:m6}(hs:Y0 s k)(hk:k<40)(he:z5 e=true)(hf:a2d e):b8K s e=some (apply s e):=by
 have hw:m8 (s.At+1)=s.At+1:=by rw [hs.at_];exact C5 (by omega) (by omega)
 have hl:=hs.len;have hcd:a63 s.j4=some s.j4:=d4h (by omega);have hcb:a8O s.g9=some s.g9:=c3D (by rw [a7K hs.boxes];decide);have hat:(s.At==40)=false:=by rw [hs.at_];simp;omega
 unfold b8K apply;rw [e0o hs,a6M hf,he];simp only [f5Y,f6f,f8w,hat,hcb,hcd,hw];cases hn:e.i8;case true=>rfl
 obtain ⟨_,_,hr,hc3⟩:=a3Q he hn;have hfr:b5p s e s.g9=some (O0 s e):=by
  unfold b5p O0;simp only [e6o (a4z hs.boxes) hf.2,hs.boxes,hr,f6n,f5Y,d2C hs.boxes hf.2 hr];cases a0V s.g9 e.b8
  ·simp only [f6H,f8v,f8w,f5Y,m5.go];exact c0p (by omega) hw hs.sorted
  ·unfold bne;cases e.b8.Code==0
   ·simp only [f6H,f6f,f8v,f8w,f5Y,m5.go];exact c0p (by omega) hw hs.sorted
   ·simp only [f6f,f8v,f8w,f5Y,m5.go];exact c0p (by omega) hw hs.sorted
 simp only [f8w];rw [b9f s.j4 hs.fits (fun d=>d.a0.c8==e.a0.c8&&decide (d.a0.Seq>=e.a0.Seq)) (fun d=>(⟨s.At+1,s.g9,s.j4⟩,bif d.a0.Seq==e.a0.Seq then 3 else 4)) ()]
 ·rw [f5J hs.sorted];cases s.j4.find? fun d=>d.a0.c8==e.a0.c8 with
  | none=>simp only [f5Y,m5.go,hfr]
  | some d=>
   cases hq:d.a0.Seq==e.a0.Seq with
   | true=>
    have:d.a0.Seq>=e.a0.Seq:=by
     have:d.a0.Seq=e.a0.Seq:=by simpa using hq
     omega
    simp [this,m5.go,hq]
   | false=>
    have hne:d.a0.Seq≠e.a0.Seq:=by simpa using hq
    by_cases hg:d.a0.Seq>e.a0.Seq
    ·have:d.a0.Seq>=e.a0.Seq:=by omega
     simp [this,m5.go,hg,hq]
    ·have:¬d.a0.Seq>=e.a0.Seq:=by omega
     simp [this,m5.go,hg,hfr,hq]
 ·intro j hj;unfold b4U c5U;rw [x7 _ j hj,t9 hj];simp only [f8v,f5Y,hcd,hw];cases h1:s.j4[j].a0.c8==e.a0.c8<;>cases h2:decide (s.j4[j].a0.Seq>=e.a0.Seq)<;>cases h3:s.j4[j].a0.Seq==e.a0.Seq<;>simp only [f8v,f8w,f5Y,m5.go,f6n,Bool.false_and,f7x,Bool.and_false]
 ·unfold b4U;rw [z9];rfl
theorem f1e{s:u7}{k:Nat}{e:m6}(hs:Y0 s k)(hk:k<40)(he:z5 e=true)(hn:e.i8=false):Y0 (O0 s e).1 (k+1)/\0<=(O0 s e).2/\(O0 s e).2<=5:=by
  obtain ⟨h1,h2,hr,hc3⟩:=a3Q he hn;have hp:=a3r hr;have hat:s.At+1=((k+1:Nat):Int):=by rw [hs.at_];rfl
  have key:∀(bx:List n8) (d:s7),D1 bx=true->a8A d=true->Y0 ⟨s.At+1,bx,a0x s.j4 d⟩ (k+1):=fun bx d hb hd=>
    { at_:=hat,le:=by omega,boxes:=hb,sorted:=f3i d hs.sorted
      dones:=fun x hx=>by
        rcases d79 hs.sorted hx with hx|rfl
        · exact hs.dones x hx
        · exact hd
      len:=by
        have:=d6R d hs.sorted;have:=hs.len;simp only;omega}
  have hd0:∀c:Int,0<=c->c<=2->a8A ⟨e.a0,c,0⟩=true:=by
    intro c c1 c2;unfold a8A q8;simp;omega
  have hd1:a8A ⟨e.a0,0,e.b8.g7⟩=true:=by
    unfold a8A q8;simp;omega
  unfold O0;cases a0V s.g9 e.b8
  · exact ⟨key _ _ hs.boxes (hd0 1 (by decide) (by decide)),show (0:Int)<=1 from by decide,show (1:Int)<=5 from by decide⟩
  · cases e.b8.Code==0
    · exact ⟨key _ _ hs.boxes (hd0 2 (by decide) (by decide)),show (0:Int)<=2 from by decide,show (2:Int)<=5 from by decide⟩
    · exact ⟨key _ _ (b6Q hs.boxes hp.2.2.2.2) hd1,show (0:Int)<=0 from by decide,show (0:Int)<=5 from by decide⟩
theorem e5b{s:u7}{k:Nat}{e:m6}(hs:Y0 s k)(hk:k<40)(he:z5 e=true):Y0 (apply s e).1 (k+1)/\0<=(apply s e).2/\(apply s e).2<=5:=by
 have hat:s.At+1=((k+1:Nat):Int):=by rw [hs.at_];rfl
 have key:Y0 ⟨s.At+1,s.g9,s.j4⟩ (k+1):={at_:=hat,le:=by omega,boxes:=hs.boxes,sorted:=hs.sorted,dones:=hs.dones,len:=Nat.le_succ_of_le hs.len}
 unfold apply;cases hn:e.i8
 ·have hfr:=f1e hs hk he hn;simp only [f8w];cases s.j4.find? fun d=>d.a0.c8==e.a0.c8 with
  | none=>exact hfr
  | some d=>
   simp only;cases d.a0.Seq==e.a0.Seq
   ·cases decide (d.a0.Seq>e.a0.Seq)
    ·exact hfr
    ·exact ⟨key,show (0:Int)<=4 from by decide,show (4:Int)<=5 from by decide⟩
   ·exact ⟨key,show (0:Int)<=3 from by decide,show (3:Int)<=5 from by decide⟩
 ·exact ⟨key,show (0:Int)<=5 from by decide,show (5:Int)<=5 from by decide⟩
def W3:u7:=⟨0,f6a 4 ⟨0,0⟩,[]⟩
theorem f5G:Y0 W3 0:={at_:=rfl,le:=by omega,boxes:=by decide,sorted:=.nil,dones:=by simp [W3],len:=by simp [W3]}
theorem d4Q:b12=some W3:=by
 unfold b12 c2I;rw [v6 (by decide)];rfl
theorem e4B:b82=some W3:=by
 unfold b82 b4d;rw [v6 (by decide)];rfl
def b0q(st:u7×List Int)(e:m6):u7×List Int:=((apply st.1 e).1,st.2++[(apply st.1 e).2])
def s5(l:List m6):u7×List Int:=l.foldl b0q (W3,[])
theorem a19{l:List m6}{k:Nat}(hk:k<l.length):s5 (l.take (k+1))=b0q (s5 (l.take k)) l[k]:=by
 unfold s5;rw [f6C hk,List.foldl_append];rfl
theorem T2{l:List m6}(hl:l.length<=40)(he:l.all z5=true):∀k,k<=l.length->Y0 (s5 (l.take k)).1 k/\(s5 (l.take k)).2.length=k/\∀c∈(s5 (l.take k)).2,0<=c/\c<=5
 | 0,_=>by
  rw [f6R];exact ⟨f5G,rfl,by simp [s5]⟩
 | k+1,hk=>by
  obtain ⟨h1,h2,h3⟩:=T2 hl he k (by omega);have ha:=e5b h1 (by omega) (f6e.1 he _ (f6c (show k<l.length by omega)));rw [a19 (show k<l.length by omega)];refine ⟨ha.1,by simp [b0q,h2],fun c hc => ?_⟩;unfold b0q at hc;rcases f6b.1 hc with hc|hc
  ·exact h3 c hc
  ·rw [f6h] at hc;rw [hc];exact ha.2
theorem a07{l:List m6}(h:G6 l=true):l.length<=40/\l.all z5=true:=by
 unfold G6 at h;simpa using h
theorem b8m{l:List m6}(h:A3 88 a2d l)(hl:l.length<=40)(he:l.all z5=true):a8C l=some (s5 l):=by
  have hf:t0 l:=h.fits (by decide);unfold a8C;rw [e4B,f5Y];first
  | (have hloop:=W7 (body:=fun s:(List n8)×(List s7)×(List Int)×Int×Int=>a1k l s.1 s.2.1 s.2.2.1 s.2.2.2.1 s.2.2.2.2) (fun k=>((s5 (l.take k)).1.g9,(s5 (l.take k)).1.j4,(s5 (l.take k)).2,(k:Int),(s5 (l.take k)).1.At)) l.length (by
       intro k hk;obtain ⟨h1,h2,h3⟩:=T2 hl he k (by omega);have n1:((s5 (l.take k)).2.length+1)*8<=140737488355328:=by rw [h2];omega
       rw [a19 hk];unfold a1k;rw [x7 _ k hk,t9 hk,F6 hf hk];simp only [f8v,f5Y];rw [c3X h1 (by omega) (f6e.1 he _ (f6c hk)) (h.2 _ (f6c hk)),f5Y,v6 n1];rfl)
     rw [f6R,f6u] at hloop;rw [show ((0:Nat):Int)=0 from rfl] at hloop;rw [show o9 (fun s:(List n8)×(List s7)×(List Int)×Int×Int=>a1k l s.1 s.2.1 s.2.2.1 s.2.2.2.1 s.2.2.2.2) (W3.g9,W3.j4,([]:List Int),0,W3.At)=_ from hloop,C8 (b:=((s5 l).1.g9,(s5 l).1.j4,(s5 l).2,(s5 l).1.At))]
     · rfl
     · unfold a1k;rw [z9];rfl
     done)
  | (have hloop:=W7 (body:=fun s:u7×(List Int)×Int=>a1k l s.1 s.2.1 s.2.2) (fun k=>((s5 (l.take k)).1,(s5 (l.take k)).2,(k:Int))) l.length (by
       intro k hk;obtain ⟨h1,h2,h3⟩:=T2 hl he k (by omega);have n1:((s5 (l.take k)).2.length+1)*8<=140737488355328:=by rw [h2];omega
       rw [a19 hk];unfold a1k;rw [x7 _ k hk,t9 hk,F6 hf hk];simp only [f8v,f5Y];rw [c3X h1 (by omega) (f6e.1 he _ (f6c hk)) (h.2 _ (f6c hk)),f5Y,v6 n1];rfl)
     rw [f6R,f6u] at hloop;rw [show ((0:Nat):Int)=0 from rfl] at hloop;rw [show o9 (fun s:u7×(List Int)×Int=>a1k l s.1 s.2.1 s.2.2) (W3,[],0)=_ from hloop,C8 (b:=s5 l)]
     · rfl
     · unfold a1k;rw [z9];rfl
     done)
  | (have hloop:=W7 (body:=fun s:(List n8)×(List Int)×Int×Int×List s7=>a1k l s.1 s.2.1 s.2.2.1 s.2.2.2.1 s.2.2.2.2) (fun k=>((s5 (l.take k)).1.g9,(s5 (l.take k)).2,(k:Int),(s5 (l.take k)).1.At,(s5 (l.take k)).1.j4)) l.length (by
       intro k hk;obtain ⟨h1,h2,h3⟩:=T2 hl he k (by omega);have n1:((s5 (l.take k)).2.length+1)*8<=140737488355328:=by rw [h2];omega
       rw [a19 hk];unfold a1k;rw [x7 _ k hk,t9 hk,F6 hf hk];simp only [f8v,f5Y];rw [show (⟨(s5 (l.take k)).1.At,(s5 (l.take k)).1.g9,(s5 (l.take k)).1.j4⟩:u7)=(s5 (l.take k)).1 from rfl,c3X h1 (by omega) (f6e.1 he _ (f6c hk)) (h.2 _ (f6c hk)),f5Y,v6 n1];rfl)
     rw [f6R,f6u] at hloop;rw [show ((0:Nat):Int)=0 from rfl] at hloop;rw [show o9 (fun s:(List n8)×(List Int)×Int×Int×List s7=>a1k l s.1 s.2.1 s.2.2.1 s.2.2.2.1 s.2.2.2.2) (W3.g9,[],0,W3.At,W3.j4)=_ from hloop,C8 (b:=((s5 l).1.g9,(s5 l).2,(s5 l).1.At,(s5 l).1.j4))]
     · rfl
     · unfold a1k;rw [z9];rfl
     done)
def Rd(r:t8)(m:Nat):Prop:=(∀x∈r.b,a6z x)/\r.b.length<=2000/\0<=r.p/\r.p<=(m:Int)
theorem Rd.mono{r:t8}{m n:Nat}(h:Rd r m)(hn:m<=n):Rd r n:=⟨h.1,h.2.1,h.2.2.1,by have:=h.2.2.2;omega⟩
theorem f1d{x y:Int}(hx:0<=x)(hx2:x<4611686018427387904)(hy:0<=y)(hy2:y<4611686018427387904):0<=a6y .i64 x y/\a6y .i64 x y<4611686018427387904:=by
 obtain ⟨a,rfl⟩:∃a:Nat,x=(a:Int):=⟨x.toNat,by omega⟩
 obtain ⟨b,rfl⟩:∃b:Nat,y=(b:Int):=⟨y.toNat,by omega⟩
 have hxor:a ^^^ b<2 ^ 62:=Nat.xor_lt_two_pow (by omega) (by omega);have h:a6y .i64 (a:Int) (b:Int)=((a ^^^ b:Nat):Int):=by
  unfold a6y;rw [BitVec.toNat_xor];have e1:(BitVec.ofInt IntKind.i64.bits (a:Int)).toNat=a:=by
   show (BitVec.ofInt 64 (a:Int)).toNat=a
   rw [BitVec.toNat_ofInt];omega
  have e2:(BitVec.ofInt IntKind.i64.bits (b:Int)).toNat=b:=by
   show (BitVec.ofInt 64 (b:Int)).toNat=b
   rw [BitVec.toNat_ofInt];omega
  rw [e1,e2];exact IntWalk.i64_in _ ⟨by omega,by omega⟩
 rw [h];omega
theorem c2T{l:List Int}(h:∀x∈l,a6z x){i:Int}(h0:0<=i)(h1:i<l.length):∃y,idx l i=some y/\0<=y/\y<=255:=by
 have hlt:i.toNat<l.length:=by omega
 refine ⟨l[i.toNat],?_,h _ (f6c hlt)⟩;unfold idx;rw [if_pos h0,f5Z hlt]
theorem b9s{x n:Int}(hx:0<=x)(hn:1<=n):0<=f6D x n/\f6D x n<n:=by
 rw [Int.tmod_eq_emod_of_nonneg hx];exact ⟨Int.emod_nonneg _ (by omega),Int.emod_lt_of_pos _ (by omega)⟩
theorem c9w{x n:Int}(hx:0<=x)(hn:1<=n):0<=f8l x n/\f8l x n<=x:=by
 rw [Int.tdiv_eq_ediv_of_nonneg hx];exact ⟨Int.ediv_nonneg hx (by omega),Int.ediv_le_self _ hx⟩
theorem I5{r:t8}{m:Nat}(h:Rd r m)(hm:m<=1000000000)(n:Int):∃v r',F5 r n=some (v,r')/\Rd r' (m+1)/\0<=v/\(v<n\/v=0):=by
 obtain ⟨hb,hbl,hp0,hp1⟩:=h;have hw:m8 (r.p+1)=r.p+1:=C5 (by omega) (by omega);have hw2:m8 (r.p+1-1)=r.p:=by rw [C5 (by omega) (by omega)];omega
 have hr:Rd ⟨r.b,r.p+1⟩ (m+1):=⟨hb,hbl,by simp only;omega,by simp only;omega⟩
 unfold F5;simp only [hw,hw2];by_cases hn:n<1
 ·simp only [hn,decide_true,f8v];exact ⟨0,_,rfl,hr,by omega,.inr rfl⟩
 simp only [hn,decide_false,f8w];cases he:((r.b.length:Int)==0);case true=>exact ⟨0,_,rfl,hr,by omega,.inr rfl⟩
 have hpos:0<r.b.length:=by
  have:¬(r.b.length:Int)=0:=by simpa using he
  omega
 have hne:(r.b.length:Int)≠0:=by omega
 have hnn:n≠0:=by omega
 simp only [f8w];by_cases hlt:r.p<(r.b.length:Int)
 ·obtain ⟨y,h1,h2,h3⟩:=c2T hb hp0 hlt;simp only [hlt,decide_true,f8v,h1,f5Y,v6 hnn];rw [C5 (n:=y) (by omega) (by omega)];have:=b9s h2 (show 1<=n by omega);exact ⟨_,_,rfl,hr,this.1,.inl this.2⟩
 ·simp only [hlt,decide_false,f8w,v6 hne,v6 hnn];have t1:=b9s hp0 (show (1:Int)<=(r.b.length:Int) by omega);obtain ⟨y1,a1,a2,a3⟩:=c2T hb t1.1 t1.2;have w7:m8 (r.p*7)=r.p*7:=C5 (by omega) (by omega);have w73:m8 (r.p*7+3)=r.p*7+3:=C5 (by omega) (by omega);have t2:=b9s (show 0<=r.p*7+3 by omega) (show (1:Int)<=(r.b.length:Int) by omega);obtain ⟨y2,b1,b2,b3⟩:=c2T hb t2.1 t2.2;simp only [a1,w7,w73,b1,f5Y];have td:=c9w hp0 (show (1:Int)<=(r.b.length:Int) by omega);have c1:m8 (m8 y1*131)=y1*131:=by rw [C5 (n:=y1) (by omega) (by omega),C5 (by omega) (by omega)]
  have c2:m8 (m8 y2*1117)=y2*1117:=by rw [C5 (n:=y2) (by omega) (by omega),C5 (by omega) (by omega)]
  have c3:m8 (r.p*29)=r.p*29:=C5 (by omega) (by omega);have c4:m8 (m8 (f8l r.p (r.b.length:Int))*53)=f8l r.p (r.b.length:Int)*53:=by rw [C5 (n:=f8l r.p (r.b.length:Int)) (by omega) (by omega),C5 (by omega) (by omega)]
  simp only [c1,c2,c3,c4];generalize f8l r.p (r.b.length:Int)=q at td;rw [C5 (n:=y1*131+y2*1117) (by omega) (by omega),C5 (n:=y1*131+y2*1117+r.p*29) (by omega) (by omega),C5 (n:=y1*131+y2*1117+r.p*29+q*53) (by omega) (by omega)];have hA0:0<=y1*131+y2*1117+r.p*29+q*53:=by omega
  have hA1:y1*131+y2*1117+r.p*29+q*53<1000000000000:=by omega
  generalize y1*131+y2*1117+r.p*29+q*53=A at hA0 hA1;have t3:=c9w hA0 (show (1:Int)<=64 by omega);rw [C5 (n:=f8l A 64) (by omega) (by omega)];have hx:=f1d hA0 (by omega) t3.1 (by omega);have t4:=b9s hx.1 (show 1<=n by omega);exact ⟨_,_,rfl,hr,t4.1,.inl t4.2⟩
theorem b2a{r:t8}{m:Nat}(h:Rd r m)(hm:m<=1000000000)(l:List Int)(hl:0<l.length)(hl2:l.length<=1000):∃v r',a5A r l=some (v,r')/\Rd r' (m+1)/\v∈l:=by
 obtain ⟨v,r',h1,h2,h3,h4⟩:=I5 h hm (l.length:Int);unfold a5A;rw [h1,f5Y];have hlt:v.toNat<l.length:=by omega
 refine ⟨l[v.toNat],r',?_,h2,f6c hlt⟩;unfold idx;simp only [if_pos h3,f5Z hlt,f5Y]
theorem d8m{code:List Int}(h:∀x∈code,a6z x):∃r,b7o code=some r/\Rd r 0:=by
 unfold b7o c5O;by_cases hl:(code.length:Int)>2000
 ·simp only [hl,decide_true,f8v];rw [v6 ⟨by omega,by omega⟩];refine ⟨_,rfl,?_,?_,by simp,by simp⟩
  ·intro x hx;simp only [f7t] at hx;exact h x (f7e hx)
  ·simp only [f6t];have:(2000:Int).toNat-0=2000:=by decide
   omega
 ·simp only [hl,decide_false,f8w];exact ⟨_,rfl,h,by simp only;omega,by simp,by simp⟩
def P5(i:n9):Bool:=
 bif i.a9==1 then q8 i.A 0 3&&(q8 i.B 0 3&&i.N==0) else
 bif i.a9==2 then q8 i.A 0 3&&(q8 i.B 0 3&&i.N==0) else
 bif i.a9==3 then q8 i.A 0 3&&(i.B==0&&q8 i.N (-1000000) 1000000) else
 bif i.a9==4 then q8 i.A 0 3&&(q8 i.B 0 3&&i.N==0) else
 bif i.a9==5 then q8 i.A 0 3&&(q8 i.B 0 3&&i.N==0) else
 bif i.a9==6 then q8 i.A 0 3&&(q8 i.B 0 3&&q8 i.N 1 10) else
 bif i.a9==7 then i.A==0&&(i.B==0&&i.N==0) else false
theorem d95(n:Int):a2K n=some (q8 n 0 3):=by
 rw [<-N2];unfold a2K D8;have:(n<4)=(n<=3):=by apply propext;omega
 simp only [this]
theorem e0S(i:n9):b42 i=some (P5 i):=by
 unfold b42 P5;have h6:(bif decide (i.N>=1) then some (decide (i.N<=10)) else some false)=some (q8 i.N 1 10):=by
  unfold q8;by_cases h1:i.N>=1<;>by_cases h2:i.N<=10<;>simp [h1,h2]<;>omega
 simp only [d95,c2r,a8v,f5Y,h6];cases i.a9==1<;>cases i.a9==2<;>cases i.a9==3<;>cases i.a9==4<;>cases i.a9==5<;>cases i.a9==6<;>cases i.a9==7<;>cases q8 i.A 0 3<;>cases q8 i.B 0 3<;>cases i.A==0<;>cases i.B==0<;>rfl
def E4(l:List n9):Bool:=decide (l.length<=10)&&l.all P5
theorem c5T{l:List n9}(h:t0 l):b1m l=some (E4 l):=by
 unfold b1m E4;rw [show (10:Int)=((10:Nat):Int) from rfl,b05,K9 l h P5 false ()]
 ·cases decide (l.length<=10)
  ·rfl
  ·cases l.all P5<;>rfl
 ·intro k hk;unfold b58;rw [x7 _ k hk,t9 hk];simp only [f8v,f5Y,e0S];cases P5 l[k]<;>rfl
 ·unfold b58;rw [z9];rfl
theorem b1F{i:n9}(h:P5 i=true):(i.a9=1/\(0<=i.A/\i.A<=3)/\(0<=i.B/\i.B<=3))\/(i.a9=2/\(0<=i.A/\i.A<=3)/\(0<=i.B/\i.B<=3))\/(i.a9=3/\(0<=i.A/\i.A<=3)/\(-1000000<=i.N/\i.N<=1000000))\/
  (i.a9=4/\(0<=i.A/\i.A<=3)/\(0<=i.B/\i.B<=3))\/(i.a9=5/\(0<=i.A/\i.A<=3)/\(0<=i.B/\i.B<=3))\/(i.a9=6/\(0<=i.A/\i.A<=3)/\(0<=i.B/\i.B<=3)/\(1<=i.N/\i.N<=10))\/(i.a9=7/\i.A=0):=by
 unfold P5 q8 at h;by_cases h1:i.a9=1
 ·simp [h1] at h;exact .inl ⟨h1,h.1,h.2.1⟩
 by_cases h2:i.a9=2
 ·simp [h2] at h;exact .inr (.inl ⟨h2,h.1,h.2.1⟩)
 by_cases h3:i.a9=3
 ·simp [h3] at h;exact .inr (.inr (.inl ⟨h3,h.1,h.2.2⟩))
 by_cases h4:i.a9=4
 ·simp [h4] at h;exact .inr (.inr (.inr (.inl ⟨h4,h.1,h.2.1⟩)))
 by_cases h5:i.a9=5
 ·simp [h5] at h;exact .inr (.inr (.inr (.inr (.inl ⟨h5,h.1,h.2.1⟩))))
 by_cases h6:i.a9=6
 ·simp [h6] at h;exact .inr (.inr (.inr (.inr (.inr (.inl ⟨h6,h.1,h.2.1,h.2.2⟩)))))
 by_cases h7:i.a9=7
 ·simp [h7] at h;exact .inr (.inr (.inr (.inr (.inr (.inr ⟨h7,h.1⟩)))))
 ·have e1:(i.a9==1)=false:=by simpa using h1
  have e2:(i.a9==2)=false:=by simpa using h2
  have e3:(i.a9==3)=false:=by simpa using h3
  have e4:(i.a9==4)=false:=by simpa using h4
  have e5:(i.a9==5)=false:=by simpa using h5
  have e6:(i.a9==6)=false:=by simpa using h6
  have e7:(i.a9==7)=false:=by simpa using h7
  rw [e1,e2,e3,e4,e5,e6,e7] at h;cases h
def a3H(l:List r9):Bool:=(f6i l.length).all (W8 l)
def a14(l:List p7):Bool:=(f6i l.length).all (W9 l)
def c3w(x:r9):Prop:=0<=x.i6/\x.i6<=3/\0<=x.j5/\x.j5<=1000000
theorem d5F{l:List r9}:a3H l=true↔(∀x∈l,c3w x)/\l.Pairwise fun a b=>a.i6≠b.i6:=by
 unfold a3H;constructor
 ·intro h;refine ⟨d2e h,?_⟩;rw [f6U];intro i j hi hj hij heq;have:=f6e.1 h j (by simpa using hj);unfold W8 at this;rw [f5Z hj] at this;simp only [f6d,f6J] at this;have hs:=this.2.2;unfold J2 at hs;rw [f6O] at hs;refine hs l[i] ?_ (by simpa using heq);rw [f7f];exact ⟨i,by omega,rfl⟩
 ·rintro ⟨h1,h2⟩
  rw [f6e];intro k hk;have hk:k<l.length:=by simpa using hk
  unfold W8;rw [f5Z hk];have hf:=h1 _ (f6c hk);have hs:J2 (l.take k) l[k].i6=false:=by
   unfold J2;rw [f6O];intro x hx;obtain ⟨i,hi,rfl⟩:=f7f.1 hx;have:=f6U.1 h2 i k (by omega) hk (by omega);simpa using this
  simp only [hs,f6H,f7x,f6d];unfold c3w at hf;exact ⟨by simp [q8];omega,by simp [q8];omega⟩
theorem b1z{l:List p7}:a14 l=true↔(∀x∈l,a0q x)/\l.Pairwise fun a b=>a.i6≠b.i6:=by
 unfold a14;constructor
 ·intro h;refine ⟨d1U h,?_⟩;rw [f6U];intro i j hi hj hij heq;have:=f6e.1 h j (by simpa using hj);unfold W9 at this;rw [f5Z hj] at this;simp only [f6d,f6J] at this;have hs:=this.2.2;unfold J8 at hs;rw [f6O] at hs;refine hs l[i] ?_ (by simpa using heq);rw [f7f];exact ⟨i,by omega,rfl⟩
 ·rintro ⟨h1,h2⟩
  rw [f6e];intro k hk;have hk:k<l.length:=by simpa using hk
  unfold W9;rw [f5Z hk];have hf:=h1 _ (f6c hk);have hs:J8 (l.take k) l[k].i6=false:=by
   unfold J8;rw [f6O];intro x hx;obtain ⟨i,hi,rfl⟩:=f7f.1 hx;have:=f6U.1 h2 i k (by omega) hk (by omega);simpa using this
  simp only [hs,f6H,f7x,f6d];unfold a0q at hf;exact ⟨by simp [q8];omega,by simp [q8];omega⟩
theorem d9i{l:List r9}{x:r9}(h:a3H l=true)(hx:c3w x)(hs:J2 l x.i6=false):a3H (l++[x])=true:=by
 rw [d5F] at h⊢;refine ⟨fun y hy => ?_,?_⟩
 ·rcases f6b.1 hy with hy|hy
  ·exact h.1 y hy
  ·rw [f6h.1 hy];exact hx
 ·rw [f7P];refine ⟨h.2,by simp,fun a ha b hb => ?_⟩;rw [f6h.1 hb];unfold J2 at hs;rw [f6O] at hs;simpa using hs a ha
theorem f1Z{l:List p7}{x:p7}(h:a14 l=true)(hx:a0q x)(hs:J8 l x.i6=false):a14 (l++[x])=true:=by
 rw [b1z] at h⊢;refine ⟨fun y hy => ?_,?_⟩
 ·rcases f6b.1 hy with hy|hy
  ·exact h.1 y hy
  ·rw [f6h.1 hy];exact hx
 ·rw [f7P];refine ⟨h.2,by simp,fun a ha b hb => ?_⟩;rw [f6h.1 hb];unfold J8 at hs;rw [f6O] at hs;simpa using hs a ha
theorem d8l{l:List p7}{k:Nat}{v:Int}(h:a14 l=true)(hk:k<l.length)(hv:-1000000<=v/\v<=1000000):a14 (l.set k ⟨l[k].i6,v⟩)=true:=by
 rw [b1z] at h⊢;refine ⟨fun y hy => ?_,?_⟩
 ·rcases f6K hy with hy|rfl
  ·exact h.1 y hy
  ·have:=h.1 _ (f6c hk);exact ⟨this.1,this.2.1,hv⟩
 ·rw [f6U];intro i j hi hj hij;have hi':i<l.length:=by simpa using hi
  have hj':j<l.length:=by simpa using hj
  have hne:=f6U.1 h.2 i j hi' hj' hij;rw [List.getElem_set,List.getElem_set];split<;>split<;>simp_all
theorem a9K(r:n6):U6 r=(q8 r.Code 0 3&&(q8 r.g7 (-1000000) 1000000&&((r.Code==0||(r.g7==0&&r.b6.length==0))&&((r.Code != 3||r.b5.length==0)&&(a3H r.b5&&a14 r.b6))))):=rfl
def inV(v:Int):Prop := -1000000<=v/\v<=1000000
structure Way(r:n6)(n:Nat):Prop where
 val:r.g7=0
 reads:a3H r.b5=true
 puts:a14 r.b6=true
 rlen:r.b5.length<=n
 plen:r.b6.length<=n
structure Ran(r:n6):Prop where
 ok:U6 r=true
 rlen:r.b5.length<=40
 plen:r.b6.length<=40
theorem b7Y{r:n6}{n:Nat}(h:Way r n)(hn:n<=40)(hc:r.Code=0\/r.Code=1\/r.Code=2){v:Int}(hv:r.Code=0->inV v):Ran ⟨r.b5,bif r.Code != 0 then [] else r.b6,bif r.Code != 0 then r.g7 else v,r.Code⟩:=by
 have h1:=h.rlen;have h2:=h.plen;have hR:=h.reads;have hP:=h.puts;have hP0:a14 []=true:=rfl;rcases hc with hc|hc|hc
 ·have hv:=hv hc;unfold inV at hv;refine ⟨?_,by simp only;omega,by simp only [hc];simp;omega⟩;rw [a9K];simp [hc,hR,hP,q8,hv]
 ·refine ⟨?_,by simp only;omega,by simp [hc]⟩;rw [a9K];simp [hc,hR,hP0,q8,h.val]
 ·refine ⟨?_,by simp only;omega,by simp [hc]⟩;rw [a9K];simp [hc,hR,hP0,q8,h.val]
theorem e4i{r:t8}{m:Nat}(h:Rd r m)(hm:m<=100000000):∃i r',b5H r=some (i,r')/\Rd r' (m+10):=by
 obtain ⟨k,r1,a1,a2,a3⟩:=b2a h (by omega) [1,1,2,2,3,4,4,5,6,7] (by decide) (by decide);obtain ⟨p1,r2,b1,b2,b3,b4⟩:=I5 a2 (by omega) 3;obtain ⟨p2,r3,c1,c2,c3,c4⟩:=I5 b2 (by omega) 3;unfold b5H;simp only [a1,b1,c1,f5Y];cases h3:k==3
 ·cases h6:k==6
  ·cases h7:k==7
   ·exact ⟨_,_,rfl,c2.mono (by omega)⟩
   ·obtain ⟨p3,r4,d1,d2,d3,d4⟩:=I5 c2 (by omega) 3;simp only [f8v,f8w,d1,f5Y];cases decide (p3>0)
    ·exact ⟨_,_,rfl,d2.mono (by omega)⟩
    ·obtain ⟨p4,r5,e1,e2,e3,e4⟩:=I5 d2 (by omega) 4;obtain ⟨p5,r6,f1,f2,f3,f4⟩:=I5 e2 (by omega) 4;simp only [f8v,e1,f1,f5Y];exact ⟨_,_,rfl,f2.mono (by omega)⟩
  ·obtain ⟨p3,r4,d1,d2,d3,d4⟩:=I5 c2 (by omega) 3;simp only [f8v,f8w,d1,f5Y];exact ⟨_,_,rfl,d2.mono (by omega)⟩
 ·obtain ⟨n1,r4,d1,d2,d3⟩:=b2a c2 (by omega) [0,1,5,(-2),100,1000000] (by decide) (by decide);simp only [f8v,d1,f5Y];exact ⟨_,_,rfl,d2.mono (by omega)⟩
theorem c1O{r:t8}{m:Nat}(h:Rd r m)(hm:m<=50000000):∃p r',a4L r=some (p,r')/\Rd r' (m+200)/\p.length<=10:=by
 obtain ⟨v,r1,a1,a2,a3,a4⟩:=I5 h (by omega) 3;unfold a4L;simp only [a1,f5Y];cases v==0
 ·obtain ⟨k,r2,b1,b2,b3,b4⟩:=I5 a2 (by omega) 8;simp only [f8w,b1,f5Y];obtain ⟨x,hx,hq⟩:=c4K (body:=fun s:t8×(List n9)×Int=>b5b s.1 s.2.1 s.2.2)
   (fun j s=>s.2.2=(j:Int)/\j<=8/\Rd s.1 (m+2+10*(8-j))/\s.2.1.length+j<=8)
   (fun x=>match x with
    | .ret _=>False
    | .brk b=>Rd b.1 (m+200)/\b.2.length<=10)
   (by
    rintro j ⟨r,out,i⟩ ⟨q1,q2,q3,q4⟩
    simp only at q1 q3 q4⊢;subst q1;unfold b5b;cases j with
    | zero=>exact ⟨_,rfl,q3.mono (by omega),by simp only;omega⟩
    | succ j=>
     obtain ⟨i,r',d1,d2⟩:=e4i q3 (by omega);have hpos:decide (((j+1:Nat):Int)>0)=true:=by simp
     have n1:(out.length+1)*32<=140737488355328:=by omega
     rw [hpos,f8v,d1,f5Y,v6 n1,C5 (by omega) (by omega)];exact ⟨_,rfl,j,by omega,by simp only;omega,by omega,d2.mono (by omega),by simp;omega⟩) (k:=k.toNat) (s:=(r2,[],k)) ⟨by simp only;omega,by omega,b2.mono (by omega),by simp;omega⟩
  rw [hx,f5Y];cases x with
  | ret r=>cases hq
  | brk b=>exact ⟨_,_,rfl,hq.1,hq.2⟩
 ·obtain ⟨p1,r2,b1,b2,b3,b4⟩:=I5 a2 (by omega) 3;obtain ⟨p2,r3,c1,c2,c3,c4⟩:=I5 b2 (by omega) 3;obtain ⟨p3,r4,d1,d2,d3,d4⟩:=I5 c2 (by omega) 3;simp only [f8v,b1,c1,d1,f5Y];exact ⟨_,_,rfl,d2.mono (by omega),by simp⟩
def d9m(e:m6):Prop:=e.b8.b5.length<=40/\e.b8.b6.length<=40
def drawn(l:List m6):Prop:=l.length<=41/\∀e∈l,d9m e
theorem d0b{l:List m6}(h:A3 88 a2d l):b2x l=some (bif G6 l then (s5 l).1 else ⟨0,[],[]⟩):=by
 unfold b2x;rw [c44 h,f5Y];cases hok:G6 l
 ·rfl
 ·obtain ⟨hl,he⟩:=a07 hok;rw [f6f,f8w,b8m h hl he];rfl
theorem d8b{l:List m6}(h:A3 88 a2d l)(hok:G6 l=true):b9X l=some (s5 l).1:=by
 obtain ⟨hl,he⟩:=a07 hok;have hf:t0 l:=h.fits (by decide);unfold b9X;rw [d4Q,f5Y,show (40:Int)=((40:Nat):Int) from rfl,b05,decide_eq_true hl,f6f,f8w];have hloop:=W7 (body:=fun s:(List n8)×Int×Int×List s7=>a99 l s.1 s.2.1 s.2.2.1 s.2.2.2) (fun k=>((s5 (l.take k)).1.g9,(k:Int),(s5 (l.take k)).1.At,(s5 (l.take k)).1.j4)) l.length (by
  intro k hk;obtain ⟨h1,h2,h3⟩:=T2 hl he k (by omega);have hek:=f6e.1 he _ (f6c hk);have hfk:=h.2 _ (f6c hk);rw [a19 hk];unfold a99;rw [x7 _ k hk,t9 hk,F6 hf hk];simp only [f8v,f5Y,a4a hfk,hek,f6f,f8w];rw [show (⟨(s5 (l.take k)).1.At,(s5 (l.take k)).1.g9,(s5 (l.take k)).1.j4⟩:u7)=(s5 (l.take k)).1 from rfl,d0O h1 (by omega) hek hfk,f5Y];rfl)
 rw [f6R,f6u] at hloop;rw [show ((0:Nat):Int)=0 from rfl] at hloop;rw [show o9 (fun s:(List n8)×Int×Int×List s7=>a99 l s.1 s.2.1 s.2.2.1 s.2.2.2) (W3.g9,0,W3.At,W3.j4)=_ from hloop,C8 (b:=((s5 l).1.g9,(s5 l).1.At,(s5 l).1.j4))]
 ·rfl
 ·unfold a99;rw [z9];rfl
def W5(a b:List n8):Prop:=a.length=b.length/\∀(i:Nat) (x y:n8),a[i]?=some x->b[i]?=some y->x.j5<=y.j5
theorem W5.refl(a:List n8):W5 a a:=⟨rfl,fun i x y h1 h2=>by rw [h1] at h2;injection h2 with h2;rw [h2];exact f6B _⟩
theorem W5.trans{a b c:List n8}(h:W5 a b)(k:W5 b c):W5 a c:=by
 refine ⟨h.1.trans k.1,fun i x z hx hz => ?_⟩;have hi:i<b.length:=by
  have:=(f6g.1 hx).1;have:=h.1;omega
 have h1:=h.2 i x _ hx (f5Z hi);have h2:=k.2 i _ z (f5Z hi) hz;omega
theorem f2h{l:List n8}{p:p7}(h:D1 l=true)(hp:a0q p):W5 l (a0o l p):=by
 obtain ⟨b,_,h2,h3⟩:=a41 h (b:=p.i6) ⟨hp.1,hp.2.1⟩;rw [b2M] at h3;rw [b8Q h2];refine ⟨by simp,fun i x y hx hy => ?_⟩;rw [f7E] at hy;split at hy
 ·rename_i he;split at hy
  ·injection hy with hy;subst hy;rw [<-he,h2] at hx;injection hx with hx;subst hx;simp only;split<;>omega
  ·cases hy
 ·rw [hx] at hy;injection hy with hy;rw [hy];exact f6B _
theorem c73:∀{ps:List p7} {l:List n8},D1 l=true->(∀p∈ps,a0q p)->W5 l (a0P l ps)
 | [],l,_,_=>W5.refl _
 | p::ps,l,h,hp=>(f2h h (hp p (by simp))).trans (c73 (ps:=ps) (c7j h (hp p (by simp))) fun x hx=>hp x (by simp [hx]))
theorem e5p{s:u7}{k:Nat}{e:m6}(hs:Y0 s k)(he:z5 e=true):W5 s.g9 (apply s e).1.g9:=by
 have hfr:e.i8=false->W5 s.g9 (O0 s e).1.g9:=by
  intro hn;obtain ⟨_,_,hr,_⟩:=a3Q he hn;unfold O0;cases a0V s.g9 e.b8
  ·exact W5.refl _
  ·cases e.b8.Code==0
   ·exact W5.refl _
   ·exact c73 hs.boxes (a3r hr).2.2.2.2
 unfold apply;cases hn:e.i8
 ·simp only [f8w];cases s.j4.find? fun d=>d.a0.c8==e.a0.c8 with
  | none=>exact hfr hn
  | some d=>
   simp only;cases d.a0.Seq==e.a0.Seq
   ·cases decide (d.a0.Seq>e.a0.Seq)
    ·exact hfr hn
    ·exact W5.refl _
   ·exact W5.refl _
 ·exact W5.refl _
theorem d2H{l:List m6}(hl:l.length<=40)(he:l.all z5=true){j k:Nat}(hjk:j<=k)(hk:k<=l.length):W5 (s5 (l.take j)).1.g9 (s5 (l.take k)).1.g9:=by
 induction k with
 | zero=>
  have:j=0:=by omega
  subst this;exact W5.refl _
 | succ k ih=>
  by_cases hq:j=k+1
  ·subst hq;exact W5.refl _
  ·refine (ih (by omega) (by omega)).trans ?_;rw [a19 (show k<l.length by omega)];exact e5p (T2 hl he k (by omega)).1 (f6e.1 he _ (f6c _))
def a67(l:List m6)(codes:List Int)(box:Int)(i:Nat):Bool:=match codes[i]?,l[i]? with
 | some c,some e=>c==0&&J8 e.b8.b6 box
 | _,_=>false
theorem c9X{l:List n8}{p:p7}{i:Nat}(h:p.i6.toNat≠i):(a0o l p)[i]?=l[i]?:=by
 unfold a0o;cases l[p.i6.toNat]? with
 | none=>rfl
 | some b=>simp only;rw [f6v h]
theorem f4B{l:List n8}{p:p7}{x:n8}(hx:l[p.i6.toNat]?=some x):(a0o l p)[p.i6.toNat]?=some ⟨if x.j5+1<1000000 then x.j5+1 else 1000000,p.g7⟩:=by
 rw [b8Q hx,f7p (f6g.1 hx).1]
theorem e3W{ps:List p7}{b:Int}(h:J8 ps b=false):∀p∈ps,p.i6≠b:=by
 unfold J8 at h;rw [f6O] at h;intro p hp;simpa using h p hp
theorem c2K:∀{ps:List p7} {l:List n8} {b:Int},0<=b->(∀p∈ps,a0q p)->J8 ps b=false->(a0P l ps)[b.toNat]?=l[b.toNat]?
 | [],l,b,_,_,_=>rfl
 | p::ps,l,b,hb,hp,hs=>by
  have h1:=e3W hs;have hf:=hp p (by simp);have hne:p.i6.toNat≠b.toNat:=by
   have:=h1 p (by simp);have:=hf.1;omega
  have hs2:J8 ps b=false:=by
   unfold J8;rw [f6O];intro x hx;have:=h1 x (by simp [hx]);simpa using this
  show (a0P (a0o l p) ps)[b.toNat]?=_
  rw [c2K (l:=a0o l p) hb (fun x hx=>hp x (by simp [hx])) hs2,c9X hne]
theorem d5T:∀{ps:List p7} {l:List n8} {b:Int} {x:n8},0<=b->(∀p∈ps,a0q p)->ps.Pairwise (fun p q=>p.i6≠q.i6)->J8 ps b=true->l[b.toNat]?=some x->
  ∃v,(a0P l ps)[b.toNat]?=some ⟨if x.j5+1<1000000 then x.j5+1 else 1000000,v⟩
 | [],l,b,x,_,_,_,hs,_=>by cases hs
 | p::ps,l,b,x,hb,hp,hd,hs,hx=>by
  have hf:=hp p (by simp);obtain ⟨hd1,hd2⟩:=f7w.1 hd;by_cases he:p.i6=b
  ·have hs2:J8 ps b=false:=by
    unfold J8;rw [f6O];intro q hq;have:=hd1 q hq;simp only [beq_iff_eq];intro h;exact this (he.trans h.symm)
   refine ⟨p.g7,?_⟩;show (a0P (a0o l p) ps)[b.toNat]?=_
   rw [c2K hb (fun q hq=>hp q (by simp [hq])) hs2,<-he,f4B (by rw [he];exact hx)]
  ·have hne:p.i6.toNat≠b.toNat:=by
    have:=hf.1;omega
   have hs2:J8 ps b=true:=by
    unfold J8 at hs⊢;rw [f8o] at hs;have:(p.i6==b)=false:=by simpa using he
    rwa [this,f6N] at hs
   exact d5T (l:=a0o l p) hb (fun q hq=>hp q (by simp [hq])) hd2 hs2 (by rw [c9X hne];exact hx)
theorem d6s{r:n6}(h:U6 r=true):a14 r.b6=true:=by
 rw [a9K] at h;simp only [f6d] at h;exact h.2.2.2.2.2
theorem c4d{s:u7}{k:Nat}{e:m6}(hs:Y0 s k)(he:z5 e=true):((apply s e).2=0/\e.i8=false/\(apply s e).1.g9=a0P s.g9 e.b8.b6)\/((apply s e).2≠0/\(apply s e).1.g9=s.g9):=by
 have hfr:e.i8=false->((O0 s e).2=0/\e.i8=false/\(O0 s e).1.g9=a0P s.g9 e.b8.b6)\/((O0 s e).2≠0/\(O0 s e).1.g9=s.g9):=by
  intro hn;unfold O0;cases a0V s.g9 e.b8
  ·exact .inr ⟨show (1:Int)≠0 from by decide,rfl⟩
  ·cases e.b8.Code==0
   ·exact .inr ⟨show (2:Int)≠0 from by decide,rfl⟩
   ·exact .inl ⟨rfl,hn,rfl⟩
 unfold apply;cases hn:e.i8
 ·simp only [f8w];cases s.j4.find? fun d=>d.a0.c8==e.a0.c8 with
  | none=>
   rcases hfr hn with ⟨a,_,c⟩|h
   ·exact .inl ⟨a,by simp,c⟩
   ·exact .inr h
  | some d=>
   simp only;cases d.a0.Seq==e.a0.Seq
   ·cases decide (d.a0.Seq>e.a0.Seq)
    ·rcases hfr hn with ⟨a,_,c⟩|h
     ·exact .inl ⟨a,by simp,c⟩
     ·exact .inr h
    ·exact .inr ⟨show (4:Int)≠0 from by decide,rfl⟩
   ·exact .inr ⟨show (3:Int)≠0 from by decide,rfl⟩
 ·exact .inr ⟨show (5:Int)≠0 from by decide,rfl⟩
theorem b4L{l:List m6}(hl:l.length<=40)(he:l.all z5=true){k:Nat}(hk:k<l.length):(s5 l).2[k]?=some (apply (s5 (l.take k)).1 l[k]).2:=by
 have key:∀n,k<n->n<=l.length->(s5 (l.take n)).2[k]?=some (apply (s5 (l.take k)).1 l[k]).2:=by
  intro n;induction n with
  | zero=>intro h;omega
  | succ n ih=>
   intro h1 h2;have hlen:=(T2 hl he n (by omega)).2.1;rw [a19 (show n<l.length by omega)];unfold b0q;by_cases hq:k=n
   ·subst hq;simp only;rw [f6q (by omega),hlen,Nat.sub_self];rfl
   ·simp only;rw [f6x (by omega)];exact ih (by omega) (by omega)
 have:=key l.length hk (f6s _);rwa [f6u] at this
theorem c6t{l:List m6}(hl:l.length<=40)(he:l.all z5=true){k:Nat}(hk:k<l.length){b:Int}(h0:0<=b)(h:a67 l (s5 l).2 b k=false):(s5 (l.take (k+1))).1.g9[b.toNat]?=(s5 (l.take k)).1.g9[b.toNat]?:=by
 have hek:=f6e.1 he _ (f6c hk);have hin:=(T2 hl he k (by omega)).1;rw [a19 hk];show (apply (s5 (l.take k)).1 l[k]).1.g9[b.toNat]?=_
 rcases c4d hin hek with ⟨h1,h2,h3⟩|⟨h1,h2⟩
 ·rw [h3];obtain ⟨_,_,hr,_⟩:=a3Q hek h2;refine c2K h0 (a3r hr).2.2.2.2 ?_;unfold a67 at h;rw [b4L hl he hk,f5Z hk,h1] at h;simpa using h
 ·rw [h2]
theorem c6l{l:List m6}(hl:l.length<=40)(he:l.all z5=true){k:Nat}(hk:k<l.length){b:Int}(h:a67 l (s5 l).2 b k=true):(0<=b/\b<=3)/\∀x,(s5 (l.take k)).1.g9[b.toNat]?=some x->
  ∃v,(s5 (l.take (k+1))).1.g9[b.toNat]?=some ⟨if x.j5+1<1000000 then x.j5+1 else 1000000,v⟩:=by
 have hek:=f6e.1 he _ (f6c hk);have hin:=(T2 hl he k (by omega)).1;unfold a67 at h;rw [b4L hl he hk,f5Z hk] at h;simp only [f6d,beq_iff_eq] at h;rcases c4d hin hek with ⟨h1,h2,h3⟩|⟨h1,h2⟩
 ·obtain ⟨_,_,hr,_⟩:=a3Q hek h2;have hp:=(a3r hr).2.2.2.2;have hb:0<=b/\b<=3:=by
   have:=h.2;unfold J8 at this;rw [f7B] at this;obtain ⟨p,hp1,hp2⟩:=this;have hpb:p.i6=b:=by simpa using hp2
   have:=hp p hp1;omega
  refine ⟨hb,fun x hx => ?_⟩;rw [a19 hk];show ∃v,(apply (s5 (l.take k)).1 l[k]).1.g9[b.toNat]?=_
  rw [h3];exact d5T hb.1 hp (b1z.1 (d6s hr)).2 h.2 hx
 ·exact absurd h.1 h1
theorem c1a{l:List m6}(hl:l.length<=40)(he:l.all z5=true){b:Int}(hb:0<=b/\b<=3):∀k,k<=l.length->∃x,(s5 (l.take k)).1.g9[b.toNat]?=some x/\0<=x.j5/\x.j5<=(k:Int)
 | 0,_=>by
  rw [f6R];have:b=0\/b=1\/b=2\/b=3:=by omega
  rcases this with rfl|rfl|rfl|rfl<;>exact ⟨⟨0,0⟩,rfl,by decide,by decide⟩
 | k+1,hk=>by
  obtain ⟨x,h1,h2,h3⟩:=c1a hl he hb k (by omega);cases hp:a67 l (s5 l).2 b k
  ·rw [c6t hl he (by omega) hb.1 hp];exact ⟨x,h1,h2,by omega⟩
  ·obtain ⟨_,hq⟩:=c6l hl he (show k<l.length by omega) hp;obtain ⟨v,hv⟩:=hq x h1;refine ⟨_,hv,?_,?_⟩
   ·simp only;split<;>omega
   ·simp only;split<;>omega
theorem d2c{l:List m6}(hl:l.length<=40)(he:l.all z5=true){b:Int}(h0:0<=b){j:Nat}:∀k,j<=k->k<=l.length->(∀i,j<=i->i<k->a67 l (s5 l).2 b i=false)->(s5 (l.take k)).1.g9[b.toNat]?=(s5 (l.take j)).1.g9[b.toNat]?
 | 0,hj,_,_=>by
  have:j=0:=by omega
  rw [this]
 | k+1,hj,hk,h=>by
  by_cases hq:j=k+1
  ·rw [hq]
  ·rw [c6t hl he (by omega) h0 (h k (by omega) (by omega))];exact d2c hl he h0 k (by omega) (by omega) fun i h1 h2=>h i h1 (by omega)
def cnt(cs:List Int)(c:Int):Int:=((cs.filter fun x=>x==c).length:Int)
theorem e1P(cs:List Int)(c d:Int):cnt (cs++[c]) d=cnt cs d+(if c=d then 1 else 0):=by
 unfold cnt;rw [List.filter_append];by_cases h:c=d<;>simp [h]
theorem c0s(cs:List Int)(c:Int):0<=cnt cs c/\cnt cs c<=cs.length:=by
 unfold cnt;have:=List.length_filter_le (fun x=>x==c) cs;omega
def b7a(l:List m6)(cs:List Int)(k:Nat):List o7:=match cs[k]?,l[k]? with
 | some c,some e=>bif c==0 then [e.a0] else []
 | _,_=>[]
def told(l:List m6)(cs:List Int):Nat->List o7
 | 0=>[]
 | k+1=>told l cs k++b7a l cs k
theorem b7y{l:List m6}{cs:List Int}{k:Nat}(h1:k<l.length)(h2:k<cs.length):b7a l cs k=bif cs[k]==0 then [l[k].a0] else []:=by
 unfold b7a;rw [f5Z h1,f5Z h2]
theorem b83{l:List m6}{cs:List Int}(hc:cs.length=l.length):∀k,k<=l.length->((told l cs k).length:Int)=cnt (cs.take k) 0
 | 0,_=>rfl
 | k+1,hk=>by
  have h1:k<cs.length:=by omega
  have ih:=b83 hc k (by omega);unfold told;rw [f6C h1,e1P,b7y (show k<l.length by omega) h1,<-ih];by_cases hq:cs[k]=0
  ·simp [hq]
  ·have hq':(cs[k]==0)=false:=by simpa using hq
   simp [hq,hq']
def C3(l:List m6):List o7:=bif G6 l then told l (s5 l).2 l.length else []
theorem e1D{l:List o7}(h:l.length*16<=140737488351232):b71 l=some l:=by
 unfold b71 t5;cases l with
 | nil=>rfl
 | cons x l=>
  have h1:(((x::l).length:Int)==0)=false:=by simp;omega
  rw [h1,f8w,if_pos (by constructor<;>omega),if_pos (by simp)]
theorem f0n{l:List m6}(h:A3 88 a2d l):b7I l=some (C3 l):=by
 unfold b7I C3;rw [c44 h,f5Y];cases hok:G6 l
 ·rfl
 have hf:t0 l:=h.fits (by decide);obtain ⟨hl,he⟩:=a07 hok;obtain ⟨_,hlen,hc⟩:=T2 hl he l.length (f6s _);rw [f6u] at hlen hc;rw [f6f,f8w,f8v,b8m h hl he,f5Y];have hsm:∀k,k<=l.length->(told l (s5 l).2 k).length<=40:=by
  intro k hk;have h1:=b83 hlen k hk;have h2:=c0s ((s5 l).2.take k) 0;rw [f6t] at h2;omega
 have hloop:=W7 (body:=fun s:(List o7)×Int=>b0j l (s5 l) s.1 s.2) (fun k=>(told l (s5 l).2 k,(k:Int))) l.length (by
  intro k hk;have hk2:k<(s5 l).2.length:=by omega
  have hs:=hsm k (by omega);have n1:((told l (s5 l).2 k).length+1)*16<=140737488355328:=by omega
  show b0j l (s5 l) (told l (s5 l).2 k) (k:Int)=some (.nxt (told l (s5 l).2 k++b7a l (s5 l).2 k,((k+1:Nat):Int)))
  rw [b7y hk hk2];unfold b0j c1i;rw [x7 _ k hk,t9 hk,t9 hk2,F6 hf hk];simp only [f8v,f5Y,v6 n1];cases (s5 l).2[k]==0
  ·simp only [f8w,f5Y,m5.go,f6P]
  ·rfl)
 rw [show told l (s5 l).2 0=[] from rfl,show ((0:Nat):Int)=0 from rfl] at hloop;rw [hloop,C8 (b:=told l (s5 l).2 l.length)]
 ·simp only [f5Y,m5.go];unfold c24;rw [e1D (by have:=hsm l.length (f6s _);omega)];rfl
 ·unfold b0j;rw [z9];rfl
theorem a5V{ps:List p7}(h:ps.Pairwise fun p q=>p.i6≠q.i6)(b:Int):(ps.filter fun p=>p.i6==b).length<=1:=by
 have h2:=h.filter (fun p=>p.i6==b);cases hq:ps.filter fun p=>p.i6==b with
 | nil=>simp
 | cons x r=>
  cases r with
  | nil=>simp
  | cons y r=>
   rw [hq] at h2;have hne:=(f7w.1 h2).1 y (by simp);have hx:x∈ps.filter fun p=>p.i6==b:=by rw [hq];simp
   have hy:y∈ps.filter fun p=>p.i6==b:=by rw [hq];simp
   have hx:=(f7g.1 hx).2;have hy:=(f7g.1 hy).2;simp only [beq_iff_eq] at hx hy;omega
theorem c04:∀{ps:List p7},(∀p∈ps,a0q p)->ps.length=(ps.filter fun p=>p.i6==0).length+(ps.filter fun p=>p.i6==1).length+(ps.filter fun p=>p.i6==2).length+(ps.filter fun p=>p.i6==3).length
 | [],_=>rfl
 | p::ps,h=>by
  have ih:=c04 (ps:=ps) fun x hx=>h x (by simp [hx])
  have hp:=h p (by simp);have:p.i6=0\/p.i6=1\/p.i6=2\/p.i6=3:=by
   have:=hp.1;have:=hp.2.1;omega
  simp only [List.filter_cons,f7j];rcases this with q|q|q|q<;>simp [q]<;>omega
theorem e2i{r:n6}(h:U6 r=true):r.b6.length<=4:=by
 have h1:=(b1z.1 (d6s h))
 have h2:=c04 h1.1;have a:=a5V h1.2 0;have b:=a5V h1.2 1;have c:=a5V h1.2 2;have d:=a5V h1.2 3;omega
theorem okEntries.s{l:List m6}(h:A3 88 E9 l):A3 88 a2d l:=h.imp fun _ x=>x.f
theorem a3N(c x:Bool):(bif c then some x else some false)=some (c&&x):=by cases c<;>rfl
theorem b2P(c x:Bool):(bif c then some false else some x)=some (!c&&x):=by cases c<;>rfl
theorem e06(n lo hi:Int):q8 n lo hi=(!decide (n<lo) && !decide (n>hi)):=by
 unfold q8;by_cases h1:n<lo<;>by_cases h2:n>hi<;>simp [h1,h2]<;>omega
theorem rng{α:Type}(n lo hi:Int)(X Y:α):(bif decide (n<lo) then Y else bif decide (n>hi) then Y else X)=bif q8 n lo hi then X else Y:=by
 rw [e06];cases decide (n<lo)<;>cases decide (n>hi)<;>rfl
theorem c5r{α:Type}(n lo:Int)(X Y:α):(bif decide (n<lo) then Y else bif decide (n>=3) then Y else X)=bif q8 n lo 2 then X else Y:=by
 have e:decide (n>=3)=decide (n>2):=by
  by_cases h:n>2
  ·rw [decide_eq_true h,decide_eq_true (by omega)]
  ·rw [decide_eq_false h,decide_eq_false (by omega)]
 rw [<-rng,e]
theorem a5i(a b:Int):(!decide (a>b))=decide (a<=b):=by
 by_cases h:a<=b
 ·simp [h]
 ·simp [h];omega
theorem d5I{α:Type}(l:List α):decide ((l.length:Int)>0) = !((l.length:Int)==0):=by
 by_cases hp:l.length=0
 ·rw [decide_eq_false (by omega),show ((l.length:Int)==0)=true from by rw [hp];rfl];rfl
 ·rw [decide_eq_true (by omega),show ((l.length:Int)==0)=false from by rw [<-f8m,beq_iff_eq];omega];rfl
theorem b2S{α:Type}[BEq α](a b:α):(!(a != b))=(a==b):=by simp [bne]
abbrev zE:m6:=⟨false,⟨0,0⟩,⟨[],[],0,0⟩⟩
def M9(a b:m6):Bool:=(a.i8==b.i8)&&((([a.a0.c8,a.a0.Seq]:List Int)==[b.a0.c8,b.a0.Seq])&&a4m a.b8 b.b8)
theorem a6K{a b:m6}(h:E9 a):W0 a b=some (M9 a b):=by
 unfold W0 M9;simp only [c0H h.f.2,f5Y,a3N]
theorem c5S{e:m6}(h:E9 e):a5r e=some (M9 e zE):=by
 unfold a5r M9;simp only [c07 h.f.2,f5Y,a3N];cases e.i8<;>rfl
theorem b0Q(n:Int):a1o n=some (q8 n 1 3000):=N2 n 1 3000
def a0y(v:m9):Bool:=bif v.a8==0 then M9 v.i0 zE else q8 v.a8 1 3000&&z5 v.i0
theorem e6t{v:m9}(h:S5 v):b6C v=some (a0y v):=by
 unfold b6C a0y;simp only [a6K h.2,N2,a6M h.2.f,f5Y,a3N];cases v.a8==0<;>rfl
theorem e5s{v:m9}(h:S5 v):b5K v=some (a0y v):=by
 unfold b5K a0y M9;simp only [c07 h.2.f.2,b0Q,a4a h.2.f,f5Y,a3N];cases v.a8==0<;>cases v.i0.i8<;>rfl
def M6(l:List m9):Bool:=decide (l.length<=40)&&l.all a0y
theorem c3H{l:List m9}(h:A3 96 S5 l):a5W l=some (M6 l):=by
 unfold a5W M6;rw [show (40:Int)=((40:Nat):Int) from rfl,b05,K9 l (h.fits (by decide)) a0y false ()]
 ·cases decide (l.length<=40)
  ·rfl
  ·cases l.all a0y<;>rfl
 ·intro k hk;unfold b8u;rw [x7 _ k hk,t9 hk];simp only [f8v,f5Y,e5s (h.2 _ (f6c hk))];cases a0y l[k]<;>rfl
 ·unfold b8u;rw [z9];rfl
theorem b21{l:List m9}(h:A3 96 S5 l):a5D l=some (M6 l):=by
 unfold a5D M6 c2R;rw [show (40:Int)=((40:Nat):Int) from rfl,c0z,K9 l (h.fits (by decide)) a0y false ()]
 ·cases l.all a0y<;>cases decide (l.length<=40)<;>rfl
 ·intro k hk;unfold b5X;rw [x7 _ k hk,t9 hk];simp only [f8v,f5Y,e6t (h.2 _ (f6c hk))];cases a0y l[k]<;>rfl
 ·unfold b5X;rw [z9];rfl
def P9(a:z4):Bool:=q8 a.i4 0 3000&&(M6 a.a7&&a.a7.all fun v => !decide (v.a8>a.i4))
theorem d8n{a:z4}(h:a5J a):b5T a=some (P9 a):=by
 unfold b5T P9;rw [rng,c3H h.2,K9 a.a7 (h.2.fits (by decide)) (fun v => !decide (v.a8>a.i4)) false ()]
 ·simp only [f5Y];cases q8 a.i4 0 3000<;>cases M6 a.a7<;>cases a.a7.all (fun v => !decide (v.a8>a.i4))<;>rfl
 ·intro k hk;unfold b76;rw [x7 _ k hk,t9 hk];simp only [f8v,f5Y];cases decide (a.a7[k].a8>a.i4)<;>rfl
 ·unfold b76;rw [z9];rfl
theorem d0T{a:z4}(h:a5J a):b07 a=some (P9 a):=by
 unfold b07 P9;rw [K9 a.a7 (h.2.fits (by decide)) (fun v => !decide (v.a8>a.i4)) false ()]
 ·unfold c2c;simp only [N2,b21 h.2,f5Y];cases q8 a.i4 0 3000<;>cases M6 a.a7<;>cases a.a7.all (fun v => !decide (v.a8>a.i4))<;>rfl
 ·intro k hk;unfold b6g;rw [x7 _ k hk,t9 hk];simp only [f8v,f5Y];cases decide (a.a7[k].a8>a.i4)<;>rfl
 ·unfold b6g;rw [z9];rfl
theorem f4o(i:n9):b6r i=some (P5 i):=by
 unfold b6r P5 a2T b9t;simp only [N2,f5Y];cases i.a9==1<;>cases i.a9==2<;>cases i.a9==3<;>cases i.a9==4<;>cases i.a9==5<;>cases i.a9==6<;>cases i.a9==7<;>cases q8 i.A 0 3<;>cases q8 i.B 0 3<;>cases i.A==0<;>cases i.B==0<;>rfl
theorem b6u{l:List n9}(h:t0 l):a7P l=some (E4 l):=by
 unfold a7P E4 c3u;rw [show (10:Int)=((10:Nat):Int) from rfl,c0z,K9 l h P5 false ()]
 ·cases l.all P5<;>cases decide (l.length<=10)<;>rfl
 ·intro k hk;unfold b95;rw [x7 _ k hk,t9 hk];simp only [f8v,f5Y,f4o];cases P5 l[k]<;>rfl
 ·unfold b95;rw [z9];rfl
def a0a(b:Int):Int:=bif q8 b 1 3000 then f6D b 3 else -1
theorem e3K(b:Int):a9F b=some (a0a b):=by
 unfold a9F a0a;rw [b0Q,f5Y];cases q8 b 1 3000<;>rfl
theorem d4f(b:Int):b39 b=some (a0a b):=by
 unfold b39 a0a;rw [N2,f5Y];cases q8 b 1 3000<;>rfl
def b6b(l:List Bool)(id:Int):Bool:=(idx l id).getD false
def a44(l:List Bool)(id:Int):Bool:=((l.length:Int)==3)&&b6b l id
theorem c65{l:List Bool}{id:Int}(h:q8 id 0 2=true)(hl:((l.length:Int)==3)=true):idx l id=some (b6b l id):=by
 unfold q8 at h;simp only [decide_eq_true_eq] at h;simp only [beq_iff_eq] at hl;unfold b6b idx;rw [if_pos h.1,f5Z (by omega)];rfl
theorem e1f{l:List Bool}{id:Int}(h:q8 id 0 2=true)(x:Bool):(bif ((l.length:Int)==3) then (idx l id).bind fun y=>some (y&&x) else some false)=some (a44 l id&&x):=by
 unfold a44;cases hl:((l.length:Int)==3)
 ·rfl
 ·rw [c65 h hl];rfl
theorem d9g{l:List Bool}{id:Int}(h:q8 id 0 2=true):b15 l id=some (a44 l id):=by
 unfold b15 a44;cases hl:((l.length:Int)==3)
 ·rfl
 ·rw [c65 h hl];rfl
def a36(n:j7):Bool:=M9 n.d6 zE&&((n.a7.length:Int)==0)
def a0t(n:j7):Bool:=
  bif n.d8==0 then (n.a8==0)&&(((n.c9.length:Int)==0)&&(((n.i5.length:Int)==0)&&a36 n)) else
  (a0a n.a8==n.Id)&&(decide (n.a8<=n.Acc.i4)&&(M6 n.i5 &&
    (bif n.d8==1 then a44 n.c9 n.Id&&a36 n else
     bif n.d8==2 then ((n.c9.length:Int)==0)&&a36 n else
     bif n.d8==3 then ((n.c9.length:Int)==0)&&(z5 n.d6&&(a44 n.a7 n.Id&&decide ((n.a5.length:Int)<40))) else false)))
theorem c2k{n:j7}(h:q8 n.Id 0 2=true)(ho:(a0a n.a8==n.Id)=true):q8 n.a8 1 3000=true:=by
 cases hb:q8 n.a8 1 3000
 ·unfold a0a at ho;rw [hb] at ho;unfold q8 at h;simp only [decide_eq_true_eq,f8w,beq_iff_eq] at h ho;omega
 ·rfl
theorem e6z{n:j7}(h:P6 n)(hId:q8 n.Id 0 2=true):b3y n=some (a0t n):=by
 have hj:b3y n=b45 n (a36 n):=by
  unfold b3y a36;simp only [a6K h.2.2.2.2.2.2.2.2.1,f5Y];cases M9 n.d6 zE<;>rfl
 rw [hj];unfold b45 a0t;simp only [d4f,b21 h.2.2.2.2.2.2.2.1,d9g hId,a6M h.2.2.2.2.2.2.2.2.1.f,f5Y,a3N];cases n.d8==0
 ·simp only [f8w];cases n.d8==1<;>cases n.d8==2<;>cases n.d8==3<;>simp only [f8v,f8w,b2P,b2S,a5i,f8t]<;>(cases a0a n.a8==n.Id<;>cases decide (n.a8<=n.Acc.i4)<;>cases M6 n.i5<;>rfl)
 ·rfl
theorem f2n{n:j7}(h:P6 n)(hId:q8 n.Id 0 2=true):b8e n=some (a0t n):=by
 unfold b8e a0t;simp only [e3K,b0Q,c5S h.2.2.2.2.2.2.2.2.1,c3H h.2.2.2.2.2.2.2.1,a4a h.2.2.2.2.2.2.2.2.1.f,f5Y,a3N,b2P,e1f hId,b2S,a5i,f8t];have hb:=c2k (n:=n) hId;cases h0:n.d8==0
 ·cases h1:n.d8==1
  ·cases h2:n.d8==2
   ·cases h3:n.d8==3
    ·simp only [f8w,Bool.and_false]
    ·simp only [f8w,f8v,b2P,b2S,a5i,f8t];cases ho:a0a n.a8==n.Id
     ·simp
     ·rw [hb ho];cases decide (n.a8<=n.Acc.i4)<;>cases M6 n.i5<;>cases ((n.c9.length:Int)==0)<;>rfl
   ·simp only [f8w,f8v,b2P,b2S,a5i,f8t];cases ho:a0a n.a8==n.Id
    ·simp
    ·rw [hb ho];unfold a36;cases decide (n.a8<=n.Acc.i4)<;>cases M6 n.i5<;>cases ((n.c9.length:Int)==0)<;>rfl
  ·simp only [f8w,f8v,b2P,b2S,a5i,f8t];cases ho:a0a n.a8==n.Id
   ·simp
   ·rw [hb ho];unfold a36;cases decide (n.a8<=n.Acc.i4)<;>cases M6 n.i5<;>cases a44 n.c9 n.Id<;>rfl
 ·unfold a36;simp only [f8v]
def a35(n:j7):Bool:=
 bif n.i9 then E4 n.i7&&(z5 n.b7&&(!n.b7.i8&&(([n.b7.a0.c8,n.b7.a0.Seq]:List Int)==[n.Id,n.Seq]))) else ((n.i7.length:Int)==0)&&M9 n.b7 zE
theorem f4Q{n:j7}(h:P6 n):b7X n=some (a35 n):=by
 unfold b7X a35;have hw:=h.2.2.2.2.2.2.2.2.2.2.2.1;simp only [c5S hw,c5T (h.2.2.2.2.2.2.2.2.2.2.1.fits (by decide)),a4a hw.f,f5Y,a3N];cases n.i9<;>rfl
def b9k(l:List m6):Bool:=l.all fun e=>z5 e && !e.i8
def D6(n:j7):Bool:=q8 n.Id 0 2&&(P9 n.Acc&&(G6 n.a5&&(q8 n.Seq 0 1000&&(decide ((n.d9.length:Int)<=4)&&(a0t n&&(a35 n&&b9k n.d9))))))
theorem b04{n:j7}(h:P6 n):a5c n=some (D6 n):=by
 unfold a5c D6;rw [c5r];cases hId:q8 n.Id 0 2
 ·rfl
 ·rw [rng,d8n h.2.1,e8l (okEntries.s h.2.2.1),f2n h hId,f4Q h,K9 n.d9 (h.2.2.2.2.2.2.2.2.2.2.2.2.fits (by decide)) (fun e=>z5 e && !e.i8) false ()]
  ·unfold b9k c4L;rw [<-a5i];simp only [f5Y,f8v];cases P9 n.Acc<;>cases G6 n.a5<;>cases q8 n.Seq 0 1000<;>cases decide ((n.d9.length:Int)>4)<;>cases a0t n<;>cases a35 n<;>cases n.d9.all (fun e=>z5 e && !e.i8)<;>rfl
  ·intro k hk;unfold b5C;rw [x7 _ k hk,t9 hk];simp only [f8v,f5Y,a4a ((h.2.2.2.2.2.2.2.2.2.2.2.2).2 _ (f6c hk)).f];cases z5 n.d9[k]<;>cases n.d9[k].i8<;>rfl
  ·unfold b5C;rw [z9];rfl
theorem a8B{n:j7}(h:P6 n):a4s n=some (D6 n):=by
 unfold a4s D6;rw [N2,f5Y];cases hId:q8 n.Id 0 2
 ·rfl
 ·have hw:=h.2.2.2.2.2.2.2.2.2.2.2.1;have hk3:b8q n=some (a35 n&&a0t n):=by
   unfold b8q c0Y a35;simp only [b6u (h.2.2.2.2.2.2.2.2.2.2.1.fits (by decide)),a6M hw.f,a6K hw,e6z h hId,f5Y];cases n.i9
   ·rw [d5I];cases ((n.i7.length:Int)==0)<;>cases M9 n.b7 zE<;>rfl
   ·cases E4 n.i7<;>cases z5 n.b7<;>cases n.b7.i8<;>cases (([n.b7.a0.c8,n.b7.a0.Seq]:List Int)==[n.Id,n.Seq])<;>rfl
  rw [d0T h.2.1,c44 (okEntries.s h.2.2.1),N2,hk3,K9 n.d9 (h.2.2.2.2.2.2.2.2.2.2.2.2.fits (by decide)) (fun e=>z5 e && !e.i8) false ()]
  ·unfold b9k;rw [<-a5i];simp only [f5Y,f6f,f8w];cases P9 n.Acc<;>cases G6 n.a5<;>cases q8 n.Seq 0 1000<;>cases decide ((n.d9.length:Int)>4)<;>cases a0t n<;>cases a35 n<;>cases n.d9.all (fun e=>z5 e && !e.i8)<;>rfl
  ·intro k hk;unfold b6V;rw [x7 _ k hk,t9 hk];simp only [f8v,f5Y,a6M ((h.2.2.2.2.2.2.2.2.2.2.2.2).2 _ (f6c hk)).f];cases z5 n.d9[k]<;>cases n.d9[k].i8<;>rfl
  ·unfold b6V;rw [z9];rfl
def a6R(m:l9):Bool:=
 let bal:=q8 m.a8 1 3000;let non:=M9 m.i0 zE;let nv:=(m.a7.length:Int)==0;bif m.a9==1 then bal&&(non&&nv) else
 bif m.a9==4 then bal&&(non&&nv) else
 bif m.a9==2 then bal&&(non&&(M6 m.a7&&decide (m8 (m.g8+(m.a7.length:Int))<=40))) else
 bif m.a9==3 then bal&&(decide (m.g8<40)&&(z5 m.i0&&nv)) else
 bif m.a9==5 then (m.a8==0)&&(decide (m.g8<40)&&(z5 m.i0&&nv)) else
 bif m.a9==6 then bal&&((m.g8==0)&&(non&&nv)) else
 bif m.a9==7 then (m.a8==0)&&((m.g8==0)&&(z5 m.i0&&(!m.i0.i8&&nv))) else
 bif m.a9==8 then (m.a8==0)&&(non&&nv) else false
def Q5(m:l9):Bool:=q8 m.c9 0 2&&(q8 m.To 0 2&&(!(m.c9==m.To)&&(q8 m.g8 0 40&&a6R m)))
theorem d2D{m:l9}(h:a0h m):b3K m=some (Q5 m):=by
 unfold b3K Q5 a6R;have he:=h.2.2.2.2.2.1;simp only [N2,a6K he,a6M he.f,b21 h.2.2.2.2.2.2,f5Y,a3N];cases q8 m.c9 0 2
 ·rfl
 cases q8 m.To 0 2
 ·rfl
 cases m.c9==m.To;case true=>rfl
 cases q8 m.g8 0 40
 ·rfl
 cases m.a9==1<;>cases m.a9==4<;>cases m.a9==2<;>cases m.a9==3<;>cases m.a9==5<;>cases m.a9==6<;>cases m.a9==7<;>cases m.a9==8<;>rfl
theorem e7p{m:l9}(h:a0h m):b5r m=some (Q5 m):=by
 unfold b5r Q5;have he:=h.2.2.2.2.2.1;have hj2:b7M m=b4p m (M9 m.i0 zE) (z5 m.i0&&decide (m.g8<40)):=by
  unfold b7M;simp only [c5S he,a4a he.f,f5Y];cases z5 m.i0<;>rfl
 have hj:∀nv:Bool,nv=((m.a7.length:Int)==0)->(m.a9==2||nv)=true->b4p m (M9 m.i0 zE) (z5 m.i0&&decide (m.g8<40))=some (a6R m):=by
  intro nv hnv hk;unfold b4p a6R;simp only [b0Q,c3H h.2.2.2.2.2.2,a4a he.f,f5Y,a3N];rw [<-hnv];cases h1:m.a9==1;case true=>
   have:(m.a9==2)=false:=by
    simp only [beq_iff_eq] at h1;rw [h1];rfl
   rw [this,f6N] at hk;simp only [f8v,hk,f7x]
  cases h2:m.a9==2;case true=>
   cases h4:m.a9==4
   ·rfl
   ·simp only [beq_iff_eq] at h2 h4;omega
  rw [h2,f6N] at hk;subst hk;cases h3:m.a9==3;case true=>
   cases h4:m.a9==4
   ·simp only [f8v,f8w,f7x];cases q8 m.a8 1 3000<;>cases z5 m.i0<;>cases decide (m.g8<40)<;>rfl
   ·simp only [beq_iff_eq] at h3 h4;omega
  cases h4:m.a9==4;case true=>simp only [f8v,f8w,f7x]
  simp only [f8w];cases m.a9==5;case true=>
   simp only [f8v,f7x];cases m.a8==0<;>cases z5 m.i0<;>cases decide (m.g8<40)<;>rfl
  simp only [f8w];cases m.a9==6;case true=>
   simp only [f8v,f7x];cases q8 m.a8 1 3000<;>cases M9 m.i0 zE<;>cases m.g8==0<;>rfl
  cases m.a9==7<;>cases m.a9==8<;>simp only [f8v,f8w,f7x,f6n,Bool.false_and]
 rw [hj2,c5r];cases q8 m.c9 0 2
 ·rfl
 simp only [f8v,f6n];rw [c5r];cases q8 m.To 0 2
 ·rfl
 simp only [f8v,f6n];cases m.c9==m.To;case true=>rfl
 simp only [f8w,f6H,f6n];rw [rng];cases q8 m.g8 0 40
 ·rfl
 simp only [f8v,f6n];rw [d5I];cases h2:m.a9==2
 ·rw [show (m.a9 != 2)=true from by rw [bne,h2];rfl];cases hv:((m.a7.length:Int)==0)
  ·show some false=_
   have:a6R m=false:=by
    unfold a6R;rw [h2,hv];simp
   rw [this]
  ·exact hj true hv.symm (by simp)
 ·rw [show (m.a9 != 2)=false from by rw [bne,h2];rfl];exact hj _ rfl (by rw [h2];rfl)
def T0(t:n5):Bool:=q8 t.Node 0 2&&((q8 t.a0.c8 0 2&&q8 t.a0.Seq 1 1000)&&((t.a0.c8==t.Node)&&(q8 t.Code 0 4&&q8 t.g7 (-1000000) 1000000)))
theorem e1F(t:n5):b8h t=some (T0 t):=by
 unfold b8h T0;simp only [c20,a8v,f5Y,a3N];have e1:q8 t.Node 0 2=(decide (t.Node>=0)&&decide (t.Node<3)):=by
  unfold q8;by_cases h1:t.Node>=0<;>by_cases h2:t.Node<3<;>simp [h1,h2]<;>omega
 have e2:q8 t.Code 0 4=(decide (t.Code>=0)&&decide (t.Code<=4)):=by
  unfold q8;by_cases h1:t.Code>=0<;>by_cases h2:t.Code<=4<;>simp [h1,h2]<;>omega
 rw [e1,e2];simp only [f7U]
def Z2(x:x6):Bool:=(q8 x.a0.c8 0 2&&q8 x.a0.Seq 1 1000)&&E4 x.i7
def a34(w:m4)(k:Nat):Bool:=match w.a6[k]? with
 | some n=>(n.Id==(k:Int))&&D6 n
 | none=>true
def B6(w:m4):Bool:=((w.a6.length:Int)==3)&&(decide ((w.b9.length:Int)<=40)&&(decide ((w.d7.length:Int)<=60)&&(decide ((w.Told.length:Int)<=60)&&((f6i w.a6.length).all (a34 w)&&(w.b9.all Q5&&(w.d7.all Z2&&w.Told.all T0))))))
theorem c7T{w:m4}(h:R2 w):b2v w=some (B6 w):=by
 have k7:b5E w=some (w.Told.all T0):=by
  unfold b5E;rw [K9 w.Told (h.2.2.2.fits (by decide)) T0 false ()]
  ·cases w.Told.all T0<;>rfl
  ·intro k hk;unfold b94;rw [x7 _ k hk,t9 hk];simp only [f8v,f5Y,e1F];cases T0 w.Told[k]<;>rfl
  ·unfold b94;rw [z9];rfl
 have k9:b7A w=some (w.d7.all Z2&&w.Told.all T0):=by
  unfold b7A;rw [K9 w.d7 (h.2.2.1.fits (by decide)) Z2 false ()]
  ·rw [k7];cases w.d7.all Z2<;>rfl
  ·intro k hk;unfold b47;rw [x7 _ k hk,t9 hk];simp only [f8v,f5Y,c20,c5T ((h.2.2.1.2 _ (f6c hk)).2.fits (by decide))];unfold Z2;cases q8 w.d7[k].a0.c8 0 2&&q8 w.d7[k].a0.Seq 1 1000<;>cases E4 w.d7[k].i7<;>rfl
  ·unfold b47;rw [z9];rfl
 have k11:b9z w=some (w.b9.all Q5&&(w.d7.all Z2&&w.Told.all T0)):=by
  unfold b9z;rw [K9 w.b9 (h.2.1.fits (by decide)) Q5 false ()]
  ·rw [k9];cases w.b9.all Q5<;>rfl
  ·intro k hk;unfold b7t;rw [x7 _ k hk,t9 hk];simp only [f8v,f5Y,e7p (h.2.1.2 _ (f6c hk))];cases Q5 w.b9[k]<;>rfl
  ·unfold b7t;rw [z9];rfl
 unfold b2v B6;rw [a2q w.a6 (h.1.fits (by decide)) (a34 w) false ()]
 ·rw [k11];simp only [<-a5i];rw [show ((w.a6.length:Int)==3) = !((w.a6.length:Int) != 3) from by simp [bne]];cases ((w.a6.length:Int) != 3)<;>cases decide ((w.b9.length:Int)>40)<;>cases decide ((w.d7.length:Int)>60)<;>cases decide ((w.Told.length:Int)>60)<;>cases (f6i w.a6.length).all (a34 w)<;>rfl
 ·intro k hk _;unfold b7H;rw [x7 _ k hk,t9 hk];simp only [f8v,f5Y,b04 (h.1.2 _ (f6c hk)),a34,f5Z hk,bne];cases w.a6[k].Id==(k:Int)<;>cases D6 w.a6[k]<;>rfl
 ·unfold b7H;rw [z9];rfl
theorem a5q{w:m4}(h:R2 w):a2h w=some (B6 w):=by
 have k7:b6B w=some (w.Told.all T0):=by
  unfold b6B;rw [K9 w.Told (h.2.2.2.fits (by decide)) T0 false ()]
  ·cases w.Told.all T0<;>rfl
  ·intro k hk;unfold b9m;rw [x7 _ k hk,t9 hk];simp only [f8v,f5Y,N2,b81];unfold T0;rw [show (w.Told[k].a0.c8==w.Told[k].Node) = !(w.Told[k].a0.c8 != w.Told[k].Node) from by simp [bne]];cases q8 w.Told[k].Node 0 2<;>cases q8 w.Told[k].a0.c8 0 2&&q8 w.Told[k].a0.Seq 1 1000<;>cases (w.Told[k].a0.c8 != w.Told[k].Node)<;>cases q8 w.Told[k].Code 0 4<;>cases q8 w.Told[k].g7 (-1000000) 1000000<;>rfl
  ·unfold b9m;rw [z9];rfl
 have k9:b5t w=some (w.d7.all Z2&&w.Told.all T0):=by
  unfold b5t;rw [K9 w.d7 (h.2.2.1.fits (by decide)) Z2 false ()]
  ·rw [k7];cases w.d7.all Z2<;>rfl
  ·intro k hk;unfold c0g;rw [x7 _ k hk,t9 hk];simp only [f8v,f5Y,b81,b6u ((h.2.2.1.2 _ (f6c hk)).2.fits (by decide))];unfold Z2;cases q8 w.d7[k].a0.c8 0 2&&q8 w.d7[k].a0.Seq 1 1000<;>cases E4 w.d7[k].i7<;>rfl
  ·unfold c0g;rw [z9];rfl
 have k11:b6c w=some (w.b9.all Q5&&(w.d7.all Z2&&w.Told.all T0)):=by
  unfold b6c;rw [K9 w.b9 (h.2.1.fits (by decide)) Q5 false ()]
  ·rw [k9];cases w.b9.all Q5<;>rfl
  ·intro k hk;unfold b6j;rw [x7 _ k hk,t9 hk];simp only [f8v,f5Y,d2D (h.2.1.2 _ (f6c hk))];cases Q5 w.b9[k]<;>rfl
  ·unfold b6j;rw [z9];rfl
 unfold a2h B6;rw [a2q w.a6 (h.1.fits (by decide)) (a34 w) false ()]
 ·rw [k11];simp only [<-a5i];rw [show ((w.a6.length:Int)==3) = !((w.a6.length:Int) != 3) from by simp [bne]];cases ((w.a6.length:Int) != 3)<;>cases decide ((w.b9.length:Int)>40)<;>cases decide ((w.d7.length:Int)>60)<;>cases decide ((w.Told.length:Int)>60)<;>cases (f6i w.a6.length).all (a34 w)<;>rfl
 ·intro k hk _;unfold b5x;rw [x7 _ k hk,t9 hk];simp only [f8v,f5Y,a8B (h.1.2 _ (f6c hk)),a34,f5Z hk,bne];cases w.a6[k].Id==(k:Int)<;>cases D6 w.a6[k]<;>rfl
 ·unfold b5x;rw [z9];rfl
theorem d62{α:Type}{p:List α->List α->Nat->Bool}(hp:∀(a b:List α) (k:Nat) (x y:α),a[k]?=some x->b[k]?=some y->(p a b k=true↔x=y))(a b:List α):(a.length==b.length&&(f6i a.length).all (p a b))=true↔a=b:=by
 constructor
 ·intro h;simp only [f6d,beq_iff_eq,f6e,f7m] at h;refine List.ext_getElem h.1 fun i h1 h2 => ?_
  exact (hp a b i _ _ (f5Z h1) (f5Z h2)).1 (h.2 i h1)
 ·rintro rfl
  simp only [f6d,beq_iff_eq,f6e,f7m,true_and];intro k hk;exact (hp a a k _ _ (f5Z hk) (f5Z hk)).2 rfl
theorem c3F(a b:n6):a4m a b=true↔a=b:=by
 have h1:=d62 (p:=a2O) (fun a b k x y hx hy=>by
  unfold a2O;rw [hx,hy];cases x;cases y;simp) a.b5 b.b5
 have h2:=d62 (p:=a2z) (fun a b k x y hx hy=>by
  unfold a2z;rw [hx,hy];cases x;cases y;simp) a.b6 b.b6
 unfold a4m;rw [f6d,h1,f6d,h2,f6d,beq_iff_eq,beq_iff_eq];cases a;cases b;simp
theorem a1b(a b:m6):M9 a b=true↔a=b:=by
 unfold M9;rw [f6d,f6d,c3F];obtain ⟨n,⟨q1,q2⟩,r⟩:=a;obtain ⟨n',⟨q1',q2'⟩,r'⟩:=b;simp [and_assoc]
theorem H8{n lo hi:Int}:q8 n lo hi=true↔lo<=n/\n<=hi:=by unfold q8;simp
theorem c7v{w:m4}(h:B6 w=true):w.a6.length=3/\∀n∈w.a6,D6 n=true:=by
 unfold B6 at h;simp only [f6d,beq_iff_eq,f6e,f7m] at h;refine ⟨by omega,fun n hn => ?_⟩;obtain ⟨i,hi,rfl⟩:=f6Q hn;have:=h.2.2.2.2.1 i hi;unfold a34 at this;rw [f5Z hi] at this;simp only [f6d] at this;exact this.2
theorem b34{n:j7}(h:D6 n=true):q8 n.Id 0 2=true/\P9 n.Acc=true/\G6 n.a5=true/\a0t n=true/\a35 n=true:=by
 unfold D6 at h;simp only [f6d] at h;exact ⟨h.1,h.2.1,h.2.2.1,h.2.2.2.2.2.1,h.2.2.2.2.2.2.1⟩
theorem c7U{n:j7}(hId:q8 n.Id 0 2=true)(h:a0t n=true):0<=n.a8/\(n.d8=3->1<=n.a8):=by
 unfold a0t at h;cases h0:n.d8==0
 ·rw [h0] at h;simp only [f8w,f6d] at h;have:=H8.1 (c2k hId h.1);omega
 ·rw [h0] at h;simp only [f8v,f6d,beq_iff_eq] at h h0;omega
theorem e7G{l:List r9}(h:A3 16 d25 l):a29 l=some l:=by
 have hb:=h.1;unfold a29;cases hl:((l.length:Int)==0)
 ·rw [f8w,v6 (by constructor<;>omega),v6 (by simp)]
 ·simp only [beq_iff_eq] at hl;have:l=[]:=f6m (by omega);rw [this];rfl
theorem e9N{l:List p7}(h:A3 16 d1r l):a70 l=some l:=by
 have hb:=h.1;unfold a70;cases hl:((l.length:Int)==0)
 ·rw [f8w,v6 (by constructor<;>omega),v6 (by simp)]
 ·simp only [beq_iff_eq] at hl;have:l=[]:=f6m (by omega);rw [this];rfl
theorem b3P{e:m6}(h:E9 e):a6V e=some e:=by
 unfold a6V c3M;rw [e7G h.2.1,f5Y,e9N h.2.2.1];rfl
theorem a0Q{e:m6}(h:E9 e):X0 e=some e:=by
 have h1:=h.2.1.1;have h2:=h.2.2.1.1;unfold X0 c3j;rw [v6 (by simp;omega),v6 (by simp;omega)];rfl
theorem e1K{l:List m6}(h:A3 88 E9 l):b6O l=some l:=by
 have hb:=h.1;unfold b6O;cases hl:((l.length:Int)==0)
 ·rw [f8w,v6 (by constructor<;>omega),v6 (by simp)]
 ·simp only [beq_iff_eq] at hl;have:l=[]:=f6m (by omega);rw [this];rfl
theorem c2M{l:List m6}(h:A3 88 E9 l):a9t l=some l:=by
 have hf:t0 l:=h.fits (by decide);unfold a9t;rw [e1K h,f5Y];have hl:=W7 (body:=fun s:(List m6)×Int=>b2u l s.1 s.2) (fun k=>(l,(k:Int))) l.length (by
  intro k hk;unfold b2u;rw [x7 _ k hk,t9 hk];simp only [f8v,f5Y,b3P (h.2 _ (f6c hk)),F6 hf hk,f6A,f8g])
 rw [show ((0:Nat):Int)=0 from rfl] at hl;rw [hl,C8 (b:=l)]
 ·rfl
 ·unfold b2u;rw [z9];rfl
theorem d05{l:List m6}(h:A3 88 E9 l):b1D l=some l:=by
 have hf:t0 l:=h.fits (by decide);have hb:=h.1;unfold b1D;have hl:=W7 (body:=fun s:(List m6)×Int=>b28 l s.1 s.2) (fun k=>(l.take k,(k:Int))) l.length (by
  intro k hk;unfold b28;rw [x7 _ k hk,t9 hk];simp only [f8v,f5Y,a0Q (h.2 _ (f6c hk)),F6 hf hk];rw [v6 (by rw [f6t];omega),f6C hk])
 rw [show ((0:Nat):Int)=0 from rfl,f6R] at hl;rw [hl,f6u,C8 (b:=l)]
 ·rfl
 ·unfold b28;rw [z9];rfl
def best(w:m4):Nat->Nat
 | 0=>0
 | k+1=>match w.a6[k]?,w.a6[best w k]? with
  | some a,some b=>bif decide ((a.a5.length:Int)>(b.a5.length:Int)) then k else best w k
  | _,_=>best w k
theorem b0O(w:m4):∀k,0<w.a6.length->k<=w.a6.length->best w k<w.a6.length
 | 0,h,_=>h
 | k+1,h,hk=>by
  have hb:=b0O w k h (by omega);unfold best;rw [f5Z (show k<w.a6.length by omega),f5Z hb];simp only;cases decide ((w.a6[k].a5.length:Int)>(w.a6[best w k].a5.length:Int))
  ·exact hb
  ·exact hk
theorem c6J{w:m4}{k:Nat}(h:0<w.a6.length)(hk:k<w.a6.length):best w (k+1)=bif decide ((w.a6[k].a5.length:Int)>((w.a6[best w k]'(b0O w k h (by omega))).a5.length:Int)) then k else best w k:=by
 conv=>lhs;unfold best
 rw [f5Z hk,f5Z (b0O w k h (by omega))]
def ist(w:m4):Nat->Int×Int
 | 0=>(-1,0)
 | k+1=>((best w (k+1):Int),((k+1:Nat):Int))
def z0(w:m4):List m6:=match w.a6[best w w.a6.length]? with
 | some n=>n.a5
 | none=>[]
theorem d5f{w:m4}(h:R2 w)(hn:0<w.a6.length):b1w w=some (z0 w):=by
 have hf:t0 w.a6:=h.1.fits (by decide);unfold b1w;have hl:=W7 (body:=fun s:Int×Int=>a4W w s.1 s.2) (ist w) w.a6.length (by
  intro k hk;cases k with
  | zero=>
   show a4W w (-1) 0=some (.nxt ((best w (0+1):Int),((0+1:Nat):Int)))
   unfold a4W b4R;rw [show decide ((0:Int)<(w.a6.length:Int))=true from by simpa using hk,show idx w.a6 0=some w.a6[0] from t9 hk,show best w (0+1)=0 from by rw [c6J hn hk];cases decide ((w.a6[0].a5.length:Int)>(w.a6[best w 0].a5.length:Int))<;>rfl];simp only [f8v,f5Y];have:m8 ((0:Int)+1)=((0+1:Nat):Int):=F6 hf hk;rw [this];rfl
  | succ k=>
   have hb:=b0O w (k+1) hn (by omega);show a4W w (best w (k+1):Int) ((k+1:Nat):Int)=some (.nxt ((best w (k+1+1):Int),((k+1+1:Nat):Int)))
   unfold a4W b4R;rw [x7 _ (k+1) hk,t9 hk,t9 hb,c6J hn hk,show decide ((best w (k+1):Int)<0)=false from by simp];simp only [f8v,f8w,f5Y,F6 hf hk];cases decide ((w.a6[k+1].a5.length:Int)>(w.a6[best w (k+1)].a5.length:Int))<;>rfl)
 have hbn:=b0O w w.a6.length hn (f6s _);obtain ⟨m,hm⟩:∃m,w.a6.length=m+1:=⟨w.a6.length-1,by omega⟩
 rw [show ist w w.a6.length=((best w w.a6.length:Int),(w.a6.length:Int)) from by rw [hm];rfl] at hl;rw [show o9 (fun s:Int×Int=>a4W w s.1 s.2) ((-1:Int),(0:Int))=_ from hl,C8 (b:=(best w w.a6.length:Int))]
 ·simp only [f5Y,m5.go];unfold c1V z0;rw [show decide ((best w w.a6.length:Int)<0)=false from by simp,t9 hbn,f5Z hbn];simp only [f8w,f5Y,c2M (h.1.2 _ (f6c hbn)).2.2.1]
 ·unfold a4W;rw [z9];rfl
theorem d0x{w:m4}(h:R2 w)(hw:B6 w=true):0<w.a6.length/\A3 88 E9 (z0 w)/\G6 (z0 w)=true:=by
 obtain ⟨h3,hn⟩:=c7v hw;have h0:0<w.a6.length:=by omega
 have hb:=b0O w w.a6.length h0 (f6s _);refine ⟨h0,?_,?_⟩
 ·unfold z0;rw [f5Z hb];exact (h.1.2 _ (f6c hb)).2.2.1
 ·unfold z0;rw [f5Z hb];exact (b34 (hn _ (f6c hb))).2.2.1
def F4(q:o7)(e:m6):Bool := !e.i8&&(([e.a0.c8,e.a0.Seq]:List Int)==[q.c8,q.Seq])
theorem b7G{α R S B:Type}{body:S->Option (l7 R S B)}(st:Nat->S)(l:List α)(is:α->Bool)(r:Nat->R)(b:B)(h1:∀(k:Nat) (h:k<l.length),body (st k)=some (bif is l[k] then .ret (r k) else .nxt (st (k+1))))(h2:body (st l.length)=some (.brk b)) :
  o9 body (st 0)=some (match l.findIdx? is with|some k=>.ret (r k)|none=>.brk b):=by
 rcases a5z (body:=body) st l.length (fun k=>match l[k]? with|some x => !is x|none=>true) r b
  (fun k hk _=>by
   rw [h1 k hk,f5Z hk];simp only;cases is l[k]<;>rfl) (fun _=>h2) with ⟨h,hall⟩|⟨k,hk,ho,hb,h⟩
 ·have:l.findIdx? is=none:=by
   rw [f7Q];intro x hx;obtain ⟨i,hi,rfl⟩:=f6Q hx;have:=hall i hi;rw [f5Z hi] at this;simpa using this
  rw [this];exact h
 ·have:l.findIdx? is=some k:=by
   rw [f6Y];refine ⟨hk,?_,fun j hj => ?_⟩
   ·rw [f5Z hk] at ho;simpa using ho
   ·have:=hb j hj;rw [f5Z (show j<l.length by omega)] at this;simpa using this
  rw [this];exact h
theorem b11{l:List m6}(h:t0 l)(q:o7):a6P l q=some (match l.findIdx? (F4 q) with|some k=>(k:Int)|none => -1):=by
  unfold a6P;rw [show o9 (fun s:Int=>b0z l q s) 0=_ from b7G (body:=fun s:Int=>b0z l q s) (fun k=>(k:Int)) l (F4 q) (fun k=>(k:Int)) () (by
      intro k hk;unfold b0z c1Y F4;rw [x7 _ k hk,t9 hk,<-F6 h hk];simp only [f8v,f5Y];cases l[k].i8<;>cases (([l[k].a0.c8,l[k].a0.Seq]:List Int)==[q.c8,q.Seq])<;>rfl) (by
      unfold b0z;rw [z9];rfl)]
  cases l.findIdx? (F4 q)<;>rfl
theorem d7b{l:List m6}(hl:l.length<=40)(he:l.all z5=true){k:Nat}(hk:k<l.length):(s5 l).2[k]?=some (apply (s5 (l.take k)).1 l[k]).2:=by
 have key:∀m,k<m->m<=l.length->(s5 (l.take m)).2[k]?=some (apply (s5 (l.take k)).1 l[k]).2:=by
  intro m;induction m with
  | zero=>omega
  | succ m ih=>
   intro h1 h2;have hlen:=(T2 hl he m (by omega)).2.1;rw [a19 (show m<l.length by omega)];unfold b0q;simp only;by_cases q:k<m
   ·rw [f6x (by omega)];exact ih q (by omega)
   ·have:k=m:=by omega
    subst this;rw [f6q (by omega),hlen];simp
 have:=key l.length hk (f6s _);rwa [f6u] at this
def Q4(l:List m6)(k:Nat):Int:=(s5 l).2[k]?.getD 0
def a9s(l:List m6)(t:n5):Bool:=match l.findIdx? (F4 t.a0) with
 | some k=>(Q4 l k==t.Code)&&((bif t.Code==0 then (match l[k]? with|some e=>e.b8.g7|none=>0) else 0)==t.g7)
 | none=>false
theorem e00{w:m4}(h:R2 w)(hw:B6 w=true):b3f w=some (w.Told.all (a9s (z0 w))):=by
 unfold b3f;rw [a5q h,f5Y,hw];obtain ⟨h0,hlo,hok⟩:=d0x h hw;obtain ⟨hl,he⟩:=a07 hok;have hf:t0 w.Told:=h.2.2.2.fits (by decide);have hfl:t0 (z0 w):=hlo.fits (by decide);have hcl:(s5 (z0 w)).2.length=(z0 w).length:=by
  have:=(T2 hl he (z0 w).length (f6s _)).2.1;rwa [f6u] at this
 simp only [f6f,f8w];rw [d5f h h0,f5Y,b8m (okEntries.s hlo) hl he,f5Y];rw [K9 w.Told hf (a9s (z0 w)) false ()]
 ·cases w.Told.all (a9s (z0 w))<;>rfl
 ·intro k hk;unfold b5I c1U a9s;rw [x7 _ k hk,t9 hk];simp only [f8v,f5Y,b11 hfl];cases hfi:(z0 w).findIdx? (F4 w.Told[k].a0) with
  | none=>rfl
  | some i=>
   obtain ⟨hi,_⟩:=f6Y.1 hfi;simp only;rw [show decide ((i:Int)<0)=false from by simp,t9 (show i<(s5 (z0 w)).2.length by omega),t9 hi,f5Z hi];have hco:Q4 (z0 w) i=(s5 (z0 w)).2[i]'(by omega):=by unfold Q4;rw [f5Z (by omega)];rfl
   rw [hco];simp only [f8w,f5Y];cases hc:(s5 (z0 w)).2[i]'(by omega)==w.Told[k].Code
   ·rw [show ((s5 (z0 w)).2[i]'(by omega) != w.Told[k].Code)=true from by rw [bne,hc];rfl];rfl
   ·rw [show ((s5 (z0 w)).2[i]'(by omega) != w.Told[k].Code)=false from by rw [bne,hc];rfl];have hcomm:∀x:Int,(w.Told[k].g7==x)=(x==w.Told[k].g7):=fun x=>by
     rw [f7A,beq_iff_eq,beq_iff_eq];exact eq_comm
    cases w.Told[k].Code==0<;>simp only [f8v,f8w,f5Y,m5.go,bne,f6n,f6f,hcomm]<;>(cases (_:Int)==w.Told[k].g7<;>rfl)
 ·unfold b5I;rw [z9];rfl
end
end Go.Proofs.YtijjifellblecaaGreat
