/- Abstract values and states of the program, functions of the program and what their calls come to, and what follows from it: part 4 of the text that the law leans on; long names are written short. -/
import Derived.Test.YtmceicmlkgpmpaaGreatP3
import Derived.IntWalk
set_option linter.unusedVariables false
set_option linter.unusedSimpArgs false
set_option linter.unnecessarySimpa false
namespace Go.Proofs.YtmceicmlkgpmpaaGreat
open Go
open Option renaming bind_some->f8y
open List renaming getElem?_eq_getElem->f8z,replicate->f8A,mem_append->f8B,getElem_mem->f8C,all_eq_true->f8E,getElem?_eq_some_iff->f8G,mem_singleton->f8H,range->f8I,mem_cons->f8J,length_append->f8M,take_length->f8Q,length_take->f8S,getElem?_append_right->f8T,getElem?_set_ne->f8V,drop_eq_getElem_cons->f8W,getElem?_append_left->f8X,getElem_of_mem->f9a,take_succ_eq_append_getElem->f9e,mem_or_eq_of_mem_set->f9k,append_nil->f9o,take_zero->f9p,any_eq_false->f9q,pairwise_iff_getElem->f9t,mem_of_mem_take->f9F,mem_take_iff_getElem->f9G,mem_filter->f9H,length_cons->f9J,drop_zero->f9M,getElem?_set_self->f9Q,pairwise_cons->f9X,any_eq_true->g0b,getElem?_set->g0f,all_eq_false->g0g,find?_cons->g0m,length_nil->g0n,pairwise_append->g0r,foldl_cons->g0C,drop_length->g0O,any_cons->g0R,find?_eq_none->g0V,foldl_nil->g0Y
open Bool renaming and_eq_true->f8D,not_true->f8F,true_and->f8K,not_eq_true'->f9h,not_false->f9j,false_or->f9n,and_true->f9Y,not_eq_true->g0c,not_not->g0W
open Nat renaming le_refl->f8R,le_trans->f9m
open Int renaming le_refl->f8Z,toNat_natCast->f9b,tmod->f9c,tdiv->g0N
open Classical renaming byContradiction->g0s
noncomputable section
def e1p(s_:u5)(e_:m4)(box:List m9)(v45:Int):Unit->KS:=fun _=>⟨R1.k 8 [false,false,true,false],(bs 2 (.ptr 1 0 0::(.ptr 2 0 0::(.ptr 3 0 0::(bs 1 (.ptr 4 0 0::(bs 36 (j9 4 B5 s_.i8::(vi (s_.i8.length:Int)::(vi v45::(bs 106 []))))))))))),[some [],some [.var 104 [vi s_.At,j9 2 x7 s_.g7,j9 4 B5 s_.i8]],some [.var 53 (a1C e_)],some [.var 104 [vi 0,.nil,.nil]],some [.var 104 [vi (m7 (s_.At+1)),.own 5 0 2 0 box.length,.nil]],some [m6 142 2 x7 box]]⟩
def c6v(v45:Int):Option (j7 (u5×Int) Int Unit):=
 some (j7.nxt (m7 (v45+1)))
theorem e4R(s_ e_ box v45)(lc:D2 R1 (c6T s_ e_ box) (d5m s_ e_ box)):NL lc (e1p s_ e_ box v45) (fun s=>c6v v45):=fun _ h=>PK<|rg<|(lc.nx h fun hI=>sk [] [2,3,4,6,43,44,45] [(1,0),(2,0),(3,0),(4,0),(5,0)] hI)
def b5M(s_:u5)(e_:m4)(box:List m9)(v45:Int):Option (j7 (u5×Int) Int Unit):=
 (bif decide (v45<(s_.i8.length:Int)) then ((idx s_.i8 v45).bind fun b8B=>(((bif (b8B.a5.b9==e_.a5.b9) then (bif decide (b8B.a5.Seq>=e_.a5.Seq) then ((a7e s_.i8).bind fun b4P=>(bif (b8B.a5.Seq==e_.a5.Seq) then some (l9.ret (j7.ret ((u5.mk (m7 (s_.At+1)) box b4P),3))) else some (l9.ret (j7.ret ((u5.mk (m7 (s_.At+1)) box b4P),4))))) else some (l9.brk ())) else some (l9.brk ())):Option (l9 (j7 (u5×Int) Int Unit) Unit)).bind fun x=>x.go some fun j=>c6v v45)) else some (j7.brk ()))
theorem f5A(s_ e_ box):LQ R1 (c6T s_ e_ box) (d5m s_ e_ box) (fun s=>b5M s_ e_ box s):=fun lc v45 h=>PK<|rg<|j5 0 h (fun h=>rg<|u0 B5 0 h fun b8B f8s h=>A3 h (e4R s_ e_ box v45 lc) fun x2 h hc2=>rg<|j5 7 h (fun h=>j5 15 h (fun h=>rg<|l7 b3y c7f 2 h fun b4P h=>rg<|j5 6 h (fun h=>rg<|(B2 h hc2 fun h=>C9 box b4P<|fL lc h)) (fun h=>rg<|(B2 h hc2 fun h=>C9 box b4P<|fL lc h))) (fun h=>(o9 h hc2 fun hI=>sk [] [2,3,4,6,43,44,45] [(1,0),(2,0),(3,0),(4,0),(5,0)] hI))) (fun h=>(o9 h hc2 fun hI=>sk [] [2,3,4,6,43,44,45] [(1,0),(2,0),(3,0),(4,0),(5,0)] hI))) (fun h=>(lc.bk h fun hI=>sk [] [2,3,4,6] [(1,0),(2,0),(3,0),(4,0),(5,0)] hI))
def c0z(s_:u5)(e_:m4):Option (u5×Int):=
 ((b5J s_).bind fun d7v=>(bif (!d7v) then some ((u5.mk 0 [] []),(-1)) else ((a1Q e_).bind fun F4=>(bif (!F4) then some ((u5.mk 0 [] []),(-1)) else (bif (s_.At==40) then some ((u5.mk 0 [] []),(-1)) else ((a8O s_.g7).bind fun box=>(bif e_.i7 then ((a7e s_.i8).bind fun done=>some ((u5.mk (m7 (s_.At+1)) box done),5)) else ((o8 (fun s:Int=>b5M s_ e_ box s) 0).bind fun x=>x.go (fun r=>some r) fun s=>b5V s_ e_ box))))))))
theorem e46{s_ e_}:OK R1 [.agg (a82 s_),.agg (s5 e_)] (c0z s_ e_):=
 o7 _ fun r h=>n9<|l7 a5s f1k 1 h fun d7v h=>j5 3 h (fun h=>rg<|fE h) (fun h=>l7 a3C a4d 5 h fun F4 h=>j5 8 h (fun h=>rg<|fE h) (fun h=>j5 12 h (fun h=>rg<|fE h) (fun h=>rg<|l7 b79 c4U 5 h fun box h=>rg<|j5 1 h (fun h=>rg<|l7 b3y c7f 2 h fun done h=>rg<|C9 box done<|fE h) (fun h=>rg<|lp (f5A s_ e_ box) h (fun _ h=>R1.rt h) (f5R s_ e_ box r) fun hI=>sk [] [2,3,4,6,43,44,45] [(1,0),(2,0),(3,0),(25,0),(23,0)] hI))))
def a2V:FS (u5×List Int):=⟨59,Tryz.f59,[.val [none,some 2,some 4] [none,some 142,some 182],.val [some 1] [some 3]],[none],[.val [some 7] []],fun r=>.tup [.agg (b3J r.1),v6 3 1 eI r.2],fun _=>[none],Tryz.func59⟩
def c9x:((List m9)×(List q9)×(List Int)×Int)->KS:=fun (Boxes1,Dones1,codes1,sAt1)=>⟨a2V.k 5 [false],(bs 2 (.ptr 1 0 0::(bs 1 (.ptr 2 0 0::(.own 5 0 1 0 codes1.length::(bs 25 [])))))),[some [],some [.var 104 [vi 0,.nil,.nil]],some [.var 104 [vi sAt1,.own 3 0 2 0 Boxes1.length,.own 4 0 4 0 Dones1.length]],some [m6 142 2 x7 Boxes1],some [m6 182 4 B5 Dones1],some [m6 3 1 eI codes1]]⟩
def d1Q(Boxes1:List m9)(Dones1:List q9)(codes1:List Int)(sAt1:Int):Option (u5×List Int):=
 some ((u5.mk sAt1 Boxes1 Dones1),codes1)
theorem f3q(r):NF a2V r c9x (fun s=>d1Q s.1 s.2.1 s.2.2.1 s.2.2.2):=fun (Boxes1,Dones1,codes1,sAt1) h=>PK<|rg<|Y3 Boxes1 Dones1 codes1<|fE h
def e1R(list:List m4):((List m9)×(List q9)×(List Int)×Int×Int)->KS:=fun (g7,i8,codes,v13,sAt)=>⟨a2V.k 4 [],(bs 2 (.ptr 1 0 0::(bs 1 (.ptr 2 0 0::(.own 5 0 1 0 codes.length::(bs 5 (j9 7 s5 list::(vi (list.length:Int)::(vi v13::(bs 17 [])))))))))),[some [],some [.var 104 [vi 0,.nil,.nil]],some [.var 104 [vi sAt,.own 3 0 2 0 g7.length,.own 4 0 4 0 i8.length]],some [m6 142 2 x7 g7],some [m6 182 4 B5 i8],some [m6 3 1 eI codes]]⟩
def a1k(list:List m4)(g7:List m9)(i8:List q9)(codes:List Int)(v13:Int)(sAt:Int):Option (j7 (u5×List Int) ((List m9)×(List q9)×(List Int)×Int×Int) ((List m9)×(List q9)×(List Int)×Int)):=
 (bif decide (v13<(list.length:Int)) then ((idx list v13).bind fun entry=>((c0z (u5.mk sAt g7 i8) entry).bind fun a8o=>(t5 ((codes.length+1)*8<=140737488355328) (some (j7.nxt (a8o.1.g7,a8o.1.i8,codes++[a8o.2],m7 (v13+1),a8o.1.At)))))) else some (j7.brk (g7,i8,codes,sAt)))
theorem f2Z(list):LQ a2V c9x (e1R list) (fun s=>a1k list s.1 s.2.1 s.2.2.1 s.2.2.2.1 s.2.2.2.2):=fun lc (g7,i8,codes,v13,sAt) h=>PK<|rg<|j5 0 h (fun h=>rg<|u0 s5 0 h fun entry F3 h=>rg<|cbS R1 e46 2 (fun _=>(by simp [R1,L0,R0,O4,V.simple,vi,v6,b3J,x7,B5,eI,F6,a82])) (fun _=>(Q9 2)) h fun a8o h=>C9 g7 i8<|n9<|tk 2 []<|t9 h fun e1 h=>F7 3 25 3 1 8 eI codes a8o.2 e1<|E5 a8o.2<|rg<|(lc.nx h fun hI=>sk [] [2,4,5,11,12,13] [(1,0),(2,0),(13,0),(13,1),(25,0)] hI)) (fun h=>(lc.bk h fun hI=>sk [] [2,4,5] [(1,0),(2,0),(3,0),(4,0),(5,0)] hI))
def a72(list:List m4):Option (u5×List Int):=
 ((c0f).bind fun Q4=>((o8 (fun s:(List m9)×(List q9)×(List Int)×Int×Int=>a1k list s.1 s.2.1 s.2.2.1 s.2.2.2.1 s.2.2.2.2) (Q4.g7,Q4.i8,[],0,Q4.At)).bind fun x=>x.go (fun r=>some r) fun s=>d1Q s.1 s.2.1 s.2.2.1 s.2.2.2))
theorem b9F{list}:OK a2V [j9 7 s5 list] (a72 list):=
 o7 _ fun r h=>n9<|l7 d6h e3I 0 h fun Q4 h=>n9<|lp (f2Z list) h (fun _ h=>a2V.rt h) (f3q r) fun hI=>sk [.own (.tmp 5) 3 1] [2,4,5,11,12,13] [(1,0),(4,0),(3,0),(3,1),(10,0)] hI
def c2R:FS (u5):=⟨57,Tryz.f57,[.val [none,some 2,some 4] [none,some 142,none]],[none],[.val [some 7] []],fun r=>.agg (b3w r),fun _=>[none],Tryz.func57⟩
def b36(list:List m4):Option u5:=
 ((b0l list).bind fun G4=>(bif (!G4) then some (u5.mk 0 [] []) else ((a72 list).bind fun p6=>some p6.1)))
theorem d6L{list}:OK c2R [j9 7 s5 list] (b36 list):=
 o7 _ fun r h=>n9<|l7 a5q c4M 1 h fun G4 h=>j5 2 h (fun h=>rg<|fE h) (fun h=>rg<|l7 a2V b9F 1 h fun p6 h=>rg<|C9 p6.1.g7 p6.1.i8<|fE h)
def c8l:FS (u5):=⟨146,Tryz.f146,[.val [none,some 2,some 4] []],[none],[.val A8 []],fun r=>.agg (a82 r),fun _=>[none],Tryz.func146⟩
def b6u(n:j6):Option u5:=
 ((a3X n).bind fun D7=>(bif (!D7) then some (u5.mk 0 [] []) else ((b36 n.a6).bind fun a0T=>some a0T)))
theorem e1g{n}:OK c8l [.agg (x6 n)] (b6u n):=
 o7 _ fun r h=>n9<|l7 a0M a8r 1 h fun D7 h=>j5 2 h (fun h=>rg<|fE h) (fun h=>rg<|l7 c2R d6L 2 h fun a0T h=>s7 a0T.g7<|fE h)
def a6M:FS (Int):=⟨194,Tryz.f194,[.val [] []],[none,none],[.val O7 [],.val [] []],fun r=>vi r,fun _=>[none,none],Tryz.func194⟩
def c8E:Unit->KS:=fun _=>⟨a6M.k 3 [false],(bs 21 []),[some []]⟩
def c71:Option Int:=
 some (-1)
theorem f2o(r):NF a6M r c8E (fun s=>c71):=fun _ h=>PK<|rg<|fE h
def e6v(r_:n7)(box:Int):Int->KS:=fun v10=>⟨a6M.k 2 [],(bs 1 (vi box::(bs 6 (j9 2 w9 r_.b7::(vi (r_.b7.length:Int)::(vi v10::(bs 10 []))))))),[some []]⟩
def b4J(r_:n7)(box:Int)(v10:Int):Option (j7 Int Int Unit):=
 (bif decide (v10<(r_.b7.length:Int)) then ((idx r_.b7 v10).bind fun put=>(bif (put.i5==box) then some (j7.ret v10) else some (j7.nxt (m7 (v10+1))))) else some (j7.brk ()))
theorem e8v(r_ box):LQ a6M c8E (e6v r_ box) (fun s=>b4J r_ box s):=fun lc v10 h=>PK<|rg<|j5 0 h (fun h=>rg<|u0 w9 1 h fun put hput h=>rg<|j5 3 h (fun h=>rg<|fL lc h) (fun h=>rg<|(lc.nx h fun hI=>sk [] [1,8,9,10] [] hI))) (fun h=>(lc.bk h fun hI=>sk [] [] [] hI))
def b2E(r_:n7)(box:Int):Option Int:=
 ((o8 (fun s:Int=>b4J r_ box s) 0).bind fun x=>x.go (fun r=>some r) fun s=>c71)
theorem d6c{r_ box}:OK a6M [.agg (S4 r_),vi box] (b2E r_ box):=
 o7 _ fun r h=>n9<|lp (e8v r_ box) h (fun _ h=>a6M.rt h) (f2o r) fun hI=>sk [] [1,8,9,10] [] hI
def a8M:FS (Int):=⟨195,Tryz.f195,[.val [] []],[none,none],[.val O7 [],.val [] []],fun r=>vi r,fun _=>[none,none],Tryz.func195⟩
def d6t:Unit->KS:=fun _=>⟨a8M.k 3 [false],(bs 21 []),[some []]⟩
def d4u:Option Int:=
 some (-1)
theorem f4a(r):NF a8M r d6t (fun s=>d4u):=fun _ h=>PK<|rg<|fE h
def e4X(r_:n7)(box:Int):Int->KS:=fun v10=>⟨a8M.k 2 [],(bs 1 (vi box::(bs 6 (j9 2 w8 r_.b5::(vi (r_.b5.length:Int)::(vi v10::(bs 10 []))))))),[some []]⟩
def b4D(r_:n7)(box:Int)(v10:Int):Option (j7 Int Int Unit):=
 (bif decide (v10<(r_.b5.length:Int)) then ((idx r_.b5 v10).bind fun read=>(bif (read.i5==box) then some (j7.ret v10) else some (j7.nxt (m7 (v10+1))))) else some (j7.brk ()))
theorem f5H(r_ box):LQ a8M d6t (e4X r_ box) (fun s=>b4D r_ box s):=fun lc v10 h=>PK<|rg<|j5 0 h (fun h=>rg<|u0 w8 1 h fun read a4x h=>rg<|j5 3 h (fun h=>rg<|fL lc h) (fun h=>rg<|(lc.nx h fun hI=>sk [] [1,8,9,10] [] hI))) (fun h=>(lc.bk h fun hI=>sk [] [] [] hI))
def b37(r_:n7)(box:Int):Option Int:=
 ((o8 (fun s:Int=>b4D r_ box s) 0).bind fun x=>x.go (fun r=>some r) fun s=>d4u)
theorem f4D{r_ box}:OK a8M [.agg (S4 r_),vi box] (b37 r_ box):=
 o7 _ fun r h=>n9<|lp (f5H r_ box) h (fun _ h=>a8M.rt h) (f4a r) fun hI=>sk [] [1,8,9,10] [] hI
def Q3:FS (n7):=⟨145,Tryz.f145,[.val O7 []],[none,none],[.val [some 2] [],.val [some 4] []],fun r=>.agg (S4 r),fun _=>[none,none],Tryz.func145⟩
def a7P:((List r9)×(List p8)×(List Int)×(List r9)×List p8)->KS:=fun (Reads2,Puts2,regs1,Reads3,Puts3)=>⟨Q3.k 6 [false,false],(bs 4 (.ptr 1 0 0::(.ptr 4 0 0::(.ptr 5 0 0::(bs 175 []))))),[some [],some [.var 51 [.own 2 0 2 0 Reads2.length,.own 3 0 2 0 Puts2.length,vi 0,vi 0]],some [m6 174 2 w8 Reads2],some [m6 177 2 w9 Puts2],some [.arr 192 1 4 (regs1.map eI)],some [.var 51 [.own 6 0 2 0 Reads3.length,.own 7 0 2 0 Puts3.length,vi 0,vi 0]],some [m6 174 2 w8 Reads3],some [m6 177 2 w9 Puts3]]⟩
def b4M(Reads2:List r9)(Puts2:List p8)(regs1:List Int)(Reads3:List r9)(Puts3:List p8):Option n7:=
 ((a20 Reads3).bind fun read=>((a9m Puts3).bind fun put=>((idx regs1 0).bind fun y=>(t5 ((0:Int)<4) (some (n7.mk read put y 0))))))
theorem d90(r):NF Q3 r a7P (fun s=>b4M s.1 s.2.1 s.2.2.1 s.2.2.2.1 s.2.2.2.2):=fun (Reads2,Puts2,regs1,Reads3,Puts3) h=>PK<|rg<|cbS a2z b06 2 (fun _=>(by simp [a2z,L0,R0,O4,V.simple,vi,v6,eI,w8])) (fun _=>(Q9 1)) h fun read h=>s7 Reads3<|cbS b69 d2T 5 (fun _=>(by simp [b69,L0,R0,O4,V.simple,vi,v6,eI,w9])) (fun _=>(Q9 1)) h fun put h=>s7 Puts3<|B0 h fun y hy h=>t9 h fun e1 h=>ob (O8 hy)<|ob e1<|ob (U5 (enc:=eI) hy)<|tl (tr 7 (eI y))<|C9 read put<|fE h
def a9Q(list:List m9)(prog:List n8):((List Int)×(List r9)×(List p8)×(List r9)×(List p8)×Int)->KS:=fun (regs,b5,b7,Reads1,Puts1,at_)=>⟨Q3.k 5 [false],(j9 2 x7 list::(j9 4 A6 prog::(bs 2 (.ptr 1 0 0::(.ptr 2 0 0::(.ptr 3 0 0::(vi at_::(bs 174 [])))))))),[some [],some [.var 51 [.own 4 0 2 0 b5.length,.own 5 0 2 0 b7.length,vi 0,vi 0]],some [.arr 192 1 4 (regs.map eI)],some [.var 51 [.own 6 0 2 0 Reads1.length,.own 7 0 2 0 Puts1.length,vi 0,vi 0]],some [m6 174 2 w8 b5],some [m6 177 2 w9 b7],some [m6 174 2 w8 Reads1],some [m6 177 2 w9 Puts1]]⟩
def d5v(list:List m9)(prog:List n8)(regs:List Int)(b5:List r9)(b7:List p8)(Reads1:List r9)(Puts1:List p8)(at_:Int)(ins:n8)(put1:p8):Unit->KS:=fun _=>⟨Q3.k 14 [false,true,true,true,false],(j9 2 x7 list::(j9 4 A6 prog::(bs 2 (.ptr 1 0 0::(.ptr 4 0 0::(.ptr 5 0 0::(vi at_::(bs 174 [])))))))),[some [],some [.var 51 [.own 2 0 2 0 b5.length,.own 3 0 2 0 b7.length,vi 0,vi 0]],some [m6 174 2 w8 b5],some [m6 177 2 w9 b7],some [.arr 192 1 4 ((regs.set ins.A.toNat put1.d9).map eI)],some [.var 51 [.own 6 0 2 0 Reads1.length,.own 7 0 2 0 Puts1.length,vi 0,vi 0]],some [m6 174 2 w8 Reads1],some [m6 177 2 w9 Puts1]]⟩
def c4H(regs:List Int)(b5:List r9)(b7:List p8)(Reads1:List r9)(Puts1:List p8)(at_:Int)(ins:n8)(put1:p8):Option (j7 n7 ((List Int)×(List r9)×(List p8)×(List r9)×(List p8)×Int) ((List r9)×(List p8)×(List Int)×(List r9)×List p8)):=
 some (j7.nxt (regs.set ins.A.toNat put1.d9,b5,b7,Reads1,Puts1,m7 (at_+1)))
theorem e0O(list prog regs b5 b7 Reads1 Puts1 at_ ins put1)(lc:D2 Q3 a7P (a9Q list prog)):NL lc (d5v list prog regs b5 b7 Reads1 Puts1 at_ ins put1) (fun s=>c4H regs b5 b7 Reads1 Puts1 at_ ins put1):=fun _ h=>PK<|rg<|(lc.nx h fun hI=>sk [] [0,1,4,5,6,7] [(1,0),(4,0),(5,0),(2,0),(3,0),(6,0),(7,0)] hI)
def e7S(list:List m9)(prog:List n8)(regs:List Int)(b5:List r9)(b7:List p8)(Reads1:List r9)(Puts1:List p8)(at_:Int)(ins:n8)(put1:p8):Int->KS:=fun a53=>⟨Q3.k 13 [false,true,true,true],(j9 2 x7 list::(j9 4 A6 prog::(bs 2 (.ptr 1 0 0::(.ptr 4 0 0::(.ptr 5 0 0::(vi at_::(bs 153 (.agg ((regs.set ins.A.toNat put1.d9).map eI).flatten::(vi a53::(bs 19 []))))))))))),[some [],some [.var 51 [.own 2 0 2 0 b5.length,.own 3 0 2 0 b7.length,vi 0,vi 0]],some [m6 174 2 w8 b5],some [m6 177 2 w9 b7],some [.arr 192 1 4 ((regs.set ins.A.toNat put1.d9).map eI)],some [.var 51 [.own 6 0 2 0 Reads1.length,.own 7 0 2 0 Puts1.length,vi 0,vi 0]],some [m6 174 2 w8 Reads1],some [m6 177 2 w9 Puts1]]⟩
def b2S(regs:List Int)(Reads1:List r9)(ins:n8)(put1:p8)(a53:Int):Option (j7 n7 Int Unit):=
 (bif decide (a53<4) then ((idx (regs.set ins.A.toNat put1.d9) a53).bind fun y2=>(t5 (a53<4) (((D9 y2 (-1000000) 1000000).bind fun in_=>(bif (!in_) then ((a20 Reads1).bind fun S9=>some (j7.ret (n7.mk S9 [] 0 2))) else some (j7.nxt (m7 (a53+1)))))))) else some (j7.brk ()))
theorem f0T(list prog regs b5 b7 Reads1 Puts1 at_ ins put1):LQ Q3 (d5v list prog regs b5 b7 Reads1 Puts1 at_ ins put1) (e7S list prog regs b5 b7 Reads1 Puts1 at_ ins put1) (fun s=>b2S regs Reads1 ins put1 s):=fun lc a53 h=>PK<|rg<|j5 0 h (fun h=>rg<|B0 h fun y2 hy2 h=>t9 h fun e3 h=>ob (O8 hy2)<|ob e3<|om (((regs.set ins.A.toNat put1.d9).map eI).flatten[a53.toNat]?=some (vi y2)) (c4f (fun _=>rfl) hy2)<|tl (0,{a:=.val (vi y2)})<|rg<|l7 D5 F8 1 h fun in_ h=>j5 2 h (fun h=>rg<|cbS a2z b06 2 (fun _=>(by simp [a2z,L0,R0,O4,V.simple,vi,v6,eI,w8])) (fun _=>(Q9 1)) h fun S9 h=>C9 Reads1 S9<|fL lc h) (fun h=>rg<|(lc.nx h fun hI=>om (V.agg (((regs.set ins.A.toNat put1.d9).map eI).flatten.map (X1 [(1,0),(2,0),(3,0),(4,0),(5,0),(6,0),(7,0)]))=.agg ((regs.set ins.A.toNat put1.d9).map eI).flatten) (congrArg V.agg (a7L (fun _=>rfl) _))<|skT [] [0,1,4,5,6,7,161,162] [(1,0),(2,0),(3,0),(4,0),(5,0),(6,0),(7,0)] [(161,.agg ((regs.set ins.A.toNat put1.d9).map eI).flatten)] hI))) (fun h=>(lc.bk h fun hI=>sk [] [0,1,4,5,6,7] [(1,0),(2,0),(3,0),(4,0),(5,0),(6,0),(7,0)] hI))
def d88(list:List m9)(prog:List n8)(regs:List Int)(b5:List r9)(b7:List p8)(Puts1:List p8)(at_:Int)(ins:n8):(List r9)->KS:=fun Reads4=>⟨Q3.k 13 [false,true,true,false,true],(j9 2 x7 list::(j9 4 A6 prog::(bs 2 (.ptr 1 0 0::(.ptr 4 0 0::(.ptr 5 0 0::(vi at_::(.ptr 8 0 0::(bs 173 []))))))))),[some [],some [.var 51 [.own 2 0 2 0 b5.length,.own 3 0 2 0 b7.length,vi 0,vi 0]],some [m6 174 2 w8 b5],some [m6 177 2 w9 b7],some [.arr 192 1 4 (regs.map eI)],some [.var 51 [.own 6 0 2 0 Reads4.length,.own 7 0 2 0 Puts1.length,vi 0,vi 0]],some [m6 174 2 w8 Reads4],some [m6 177 2 w9 Puts1],some [.var 80 [vi ins.a9,vi ins.A,vi ins.B,vi ins.N]]]⟩
def d4k(list:List m9)(prog:List n8)(regs:List Int)(b5:List r9)(b7:List p8)(Puts1:List p8)(at_:Int)(ins:n8)(Reads4:List r9)(box:m9):Unit->KS:=fun _=>⟨Q3.k 16 [false,true,true,false,true,false],(j9 2 x7 list::(j9 4 A6 prog::(bs 2 (.ptr 1 0 0::(.ptr 4 0 0::(.ptr 5 0 0::(vi at_::(bs 174 [])))))))),[some [],some [.var 51 [.own 2 0 2 0 b5.length,.own 3 0 2 0 b7.length,vi 0,vi 0]],some [m6 174 2 w8 b5],some [m6 177 2 w9 b7],some [.arr 192 1 4 ((regs.set ins.A.toNat box.d9).map eI)],some [.var 51 [.own 6 0 2 0 Reads4.length,.own 7 0 2 0 Puts1.length,vi 0,vi 0]],some [m6 174 2 w8 Reads4],some [m6 177 2 w9 Puts1]]⟩
def b8r(regs:List Int)(b5:List r9)(b7:List p8)(Puts1:List p8)(at_:Int)(ins:n8)(Reads4:List r9)(box:m9):Option (j7 n7 ((List Int)×(List r9)×(List p8)×(List r9)×(List p8)×Int) ((List r9)×(List p8)×(List Int)×(List r9)×List p8)):=
 some (j7.nxt (regs.set ins.A.toNat box.d9,b5,b7,Reads4,Puts1,m7 (at_+1)))
theorem e3a(list prog regs b5 b7 Puts1 at_ ins Reads4 box)(lc:D2 Q3 a7P (a9Q list prog)):NL lc (d4k list prog regs b5 b7 Puts1 at_ ins Reads4 box) (fun s=>b8r regs b5 b7 Puts1 at_ ins Reads4 box):=fun _ h=>PK<|rg<|(lc.nx h fun hI=>sk [] [0,1,4,5,6,7] [(1,0),(4,0),(5,0),(2,0),(3,0),(6,0),(7,0)] hI)
def e9g(list:List m9)(prog:List n8)(regs:List Int)(b5:List r9)(b7:List p8)(Puts1:List p8)(at_:Int)(ins:n8)(Reads4:List r9)(box:m9):Int->KS:=fun a7f=>⟨Q3.k 15 [false,true,true,false,true],(j9 2 x7 list::(j9 4 A6 prog::(bs 2 (.ptr 1 0 0::(.ptr 4 0 0::(.ptr 5 0 0::(vi at_::(bs 153 (.agg ((regs.set ins.A.toNat box.d9).map eI).flatten::(vi a7f::(bs 19 []))))))))))),[some [],some [.var 51 [.own 2 0 2 0 b5.length,.own 3 0 2 0 b7.length,vi 0,vi 0]],some [m6 174 2 w8 b5],some [m6 177 2 w9 b7],some [.arr 192 1 4 ((regs.set ins.A.toNat box.d9).map eI)],some [.var 51 [.own 6 0 2 0 Reads4.length,.own 7 0 2 0 Puts1.length,vi 0,vi 0]],some [m6 174 2 w8 Reads4],some [m6 177 2 w9 Puts1]]⟩
def b38(regs:List Int)(ins:n8)(Reads4:List r9)(box:m9)(a7f:Int):Option (j7 n7 Int Unit):=
 (bif decide (a7f<4) then ((idx (regs.set ins.A.toNat box.d9) a7f).bind fun y4=>(t5 (a7f<4) (((D9 y4 (-1000000) 1000000).bind fun in_1=>(bif (!in_1) then ((a20 Reads4).bind fun c38=>some (j7.ret (n7.mk c38 [] 0 2))) else some (j7.nxt (m7 (a7f+1)))))))) else some (j7.brk ()))
theorem f6t(list prog regs b5 b7 Puts1 at_ ins Reads4 box):LQ Q3 (d4k list prog regs b5 b7 Puts1 at_ ins Reads4 box) (e9g list prog regs b5 b7 Puts1 at_ ins Reads4 box) (fun s=>b38 regs ins Reads4 box s):=fun lc a7f h=>PK<|rg<|j5 0 h (fun h=>rg<|B0 h fun y4 hy4 h=>t9 h fun e5 h=>ob (O8 hy4)<|ob e5<|om (((regs.set ins.A.toNat box.d9).map eI).flatten[a7f.toNat]?=some (vi y4)) (c4f (fun _=>rfl) hy4)<|tl (0,{a:=.val (vi y4)})<|rg<|l7 D5 F8 1 h fun in_1 h=>j5 2 h (fun h=>rg<|cbS a2z b06 2 (fun _=>(by simp [a2z,L0,R0,O4,V.simple,vi,v6,eI,w8])) (fun _=>(Q9 1)) h fun c38 h=>C9 Reads4 c38<|fL lc h) (fun h=>rg<|(lc.nx h fun hI=>om (V.agg (((regs.set ins.A.toNat box.d9).map eI).flatten.map (X1 [(1,0),(2,0),(3,0),(4,0),(5,0),(6,0),(7,0)]))=.agg ((regs.set ins.A.toNat box.d9).map eI).flatten) (congrArg V.agg (a7L (fun _=>rfl) _))<|skT [] [0,1,4,5,6,7,161,162] [(1,0),(2,0),(3,0),(4,0),(5,0),(6,0),(7,0)] [(161,.agg ((regs.set ins.A.toNat box.d9).map eI).flatten)] hI))) (fun h=>(lc.bk h fun hI=>sk [] [0,1,4,5,6,7] [(1,0),(2,0),(3,0),(4,0),(5,0),(6,0),(7,0)] hI))
def b6G(list:List m9)(regs:List Int)(b5:List r9)(b7:List p8)(Puts1:List p8)(at_:Int)(ins:n8)(Reads4:List r9):Option (j7 n7 ((List Int)×(List r9)×(List p8)×(List r9)×(List p8)×Int) ((List r9)×(List p8)×(List Int)×(List r9)×List p8)):=
 ((idx list ins.B).bind fun box=>((idx regs ins.A).bind fun y3=>(t5 (ins.A<4) (((o8 (fun s:Int=>b38 regs ins Reads4 box s) 0).bind fun x=>x.go (fun r=>some (j7.ret r)) fun s=>b8r regs b5 b7 Puts1 at_ ins Reads4 box)))))
theorem e9n(list prog regs b5 b7 Puts1 at_ ins)(lc:D2 Q3 a7P (a9Q list prog)):NL lc (d88 list prog regs b5 b7 Puts1 at_ ins) (fun s=>b6G list regs b5 b7 Puts1 at_ ins s):=fun Reads4 h=>PK<|rg<|u0 x7 5 h fun box a1B h=>B0 h fun y3 hy3 h=>t9 h fun e4 h=>ob (O8 hy3)<|ob e4<|om (s9.arr 192 1 4 ((regs.map eI).set (ins.A.toNat) [vi box.d9])=s9.arr 192 1 4 ((regs.set ins.A.toNat box.d9).map eI)) (a7J rfl)<|ob (U5 (enc:=eI) hy3)<|tl (9,{a:=.rowck (eI y3) [],e:=some (.arr 192 1 4 ((regs.set ins.A.toNat box.d9).map eI))})<|rg<|om (4*1=4) rfl<|lp (f6t list prog regs b5 b7 Puts1 at_ ins Reads4 box) h (fun _ h=>lc.rt h) (e3a list prog regs b5 b7 Puts1 at_ ins Reads4 box lc) fun hI=>om (V.agg (((regs.set ins.A.toNat box.d9).map eI).flatten.map (X1 [(1,0),(2,0),(3,0),(4,0),(5,0),(6,0),(7,0)]))=.agg ((regs.set ins.A.toNat box.d9).map eI).flatten) (congrArg V.agg (a7L (fun _=>rfl) _))<|skT [] [0,1,4,5,6,7,161,162] [(1,0),(2,0),(3,0),(4,0),(5,0),(6,0),(7,0)] [(161,.agg ((regs.set ins.A.toNat box.d9).map eI).flatten)] hI
def f7N(list:List m9)(prog:List n8)(b5:List r9)(b7:List p8)(Reads1:List r9):((List Int)×(List p8)×Int)->KS:=fun (regs2,Puts4,at_1)=>⟨Q3.k 13 [false,true,false,true,true],(j9 2 x7 list::(j9 4 A6 prog::(bs 2 (.ptr 1 0 0::(.ptr 4 0 0::(.ptr 5 0 0::(vi at_1::(bs 174 [])))))))),[some [],some [.var 51 [.own 2 0 2 0 b5.length,.own 3 0 2 0 b7.length,vi 0,vi 0]],some [m6 174 2 w8 b5],some [m6 177 2 w9 b7],some [.arr 192 1 4 (regs2.map eI)],some [.var 51 [.own 6 0 2 0 Reads1.length,.own 7 0 2 0 Puts4.length,vi 0,vi 0]],some [m6 174 2 w8 Reads1],some [m6 177 2 w9 Puts4]]⟩
def d2X(list:List m9)(prog:List n8)(b5:List r9)(b7:List p8)(Reads1:List r9)(regs2:List Int)(Puts4:List p8)(at_1:Int):Unit->KS:=fun _=>⟨Q3.k 15 [false,true,false,true,true,false],(j9 2 x7 list::(j9 4 A6 prog::(bs 2 (.ptr 1 0 0::(.ptr 4 0 0::(.ptr 5 0 0::(vi at_1::(bs 174 [])))))))),[some [],some [.var 51 [.own 2 0 2 0 b5.length,.own 3 0 2 0 b7.length,vi 0,vi 0]],some [m6 174 2 w8 b5],some [m6 177 2 w9 b7],some [.arr 192 1 4 (regs2.map eI)],some [.var 51 [.own 6 0 2 0 Reads1.length,.own 7 0 2 0 Puts4.length,vi 0,vi 0]],some [m6 174 2 w8 Reads1],some [m6 177 2 w9 Puts4]]⟩
def b4c(b5:List r9)(b7:List p8)(Reads1:List r9)(regs2:List Int)(Puts4:List p8)(at_1:Int):Option (j7 n7 ((List Int)×(List r9)×(List p8)×(List r9)×(List p8)×Int) ((List r9)×(List p8)×(List Int)×(List r9)×List p8)):=
 some (j7.nxt (regs2,b5,b7,Reads1,Puts4,m7 (at_1+1)))
theorem f6a(list prog b5 b7 Reads1 regs2 Puts4 at_1)(lc:D2 Q3 a7P (a9Q list prog)):NL lc (d2X list prog b5 b7 Reads1 regs2 Puts4 at_1) (fun s=>b4c b5 b7 Reads1 regs2 Puts4 at_1):=fun _ h=>PK<|rg<|(lc.nx h fun hI=>sk [] [0,1,4,5,6,7] [(1,0),(4,0),(5,0),(2,0),(3,0),(6,0),(7,0)] hI)
def f5w(list:List m9)(prog:List n8)(b5:List r9)(b7:List p8)(Reads1:List r9)(regs2:List Int)(Puts4:List p8)(at_1:Int):Int->KS:=fun a6R=>⟨Q3.k 14 [false,true,false,true,true],(j9 2 x7 list::(j9 4 A6 prog::(bs 2 (.ptr 1 0 0::(.ptr 4 0 0::(.ptr 5 0 0::(vi at_1::(bs 153 (.agg (regs2.map eI).flatten::(vi a6R::(bs 19 []))))))))))),[some [],some [.var 51 [.own 2 0 2 0 b5.length,.own 3 0 2 0 b7.length,vi 0,vi 0]],some [m6 174 2 w8 b5],some [m6 177 2 w9 b7],some [.arr 192 1 4 (regs2.map eI)],some [.var 51 [.own 6 0 2 0 Reads1.length,.own 7 0 2 0 Puts4.length,vi 0,vi 0]],some [m6 174 2 w8 Reads1],some [m6 177 2 w9 Puts4]]⟩
def b1U(Reads1:List r9)(regs2:List Int)(a6R:Int):Option (j7 n7 Int Unit):=
 (bif decide (a6R<4) then ((idx regs2 a6R).bind fun y5=>(t5 (a6R<4) (((D9 y5 (-1000000) 1000000).bind fun in_2=>(bif (!in_2) then ((a20 Reads1).bind fun c4z=>some (j7.ret (n7.mk c4z [] 0 2))) else some (j7.nxt (m7 (a6R+1)))))))) else some (j7.brk ()))
theorem e0L(list prog b5 b7 Reads1 regs2 Puts4 at_1):LQ Q3 (d2X list prog b5 b7 Reads1 regs2 Puts4 at_1) (f5w list prog b5 b7 Reads1 regs2 Puts4 at_1) (fun s=>b1U Reads1 regs2 s):=fun lc a6R h=>PK<|rg<|j5 0 h (fun h=>rg<|B0 h fun y5 hy5 h=>t9 h fun e7 h=>ob (O8 hy5)<|ob e7<|om ((regs2.map eI).flatten[a6R.toNat]?=some (vi y5)) (c4f (fun _=>rfl) hy5)<|tl (0,{a:=.val (vi y5)})<|rg<|l7 D5 F8 1 h fun in_2 h=>j5 2 h (fun h=>rg<|cbS a2z b06 2 (fun _=>(by simp [a2z,L0,R0,O4,V.simple,vi,v6,eI,w8])) (fun _=>(Q9 1)) h fun c4z h=>C9 Reads1 c4z<|fL lc h) (fun h=>rg<|(lc.nx h fun hI=>om (V.agg ((regs2.map eI).flatten.map (X1 [(1,0),(2,0),(3,0),(4,0),(5,0),(6,0),(7,0)]))=.agg (regs2.map eI).flatten) (congrArg V.agg (a7L (fun _=>rfl) _))<|skT [] [0,1,4,5,6,7,161,162] [(1,0),(2,0),(3,0),(4,0),(5,0),(6,0),(7,0)] [(161,.agg (regs2.map eI).flatten)] hI))) (fun h=>(lc.bk h fun hI=>sk [] [0,1,4,5,6,7] [(1,0),(2,0),(3,0),(4,0),(5,0),(6,0),(7,0)] hI))
def a9L(b5:List r9)(b7:List p8)(Reads1:List r9)(regs2:List Int)(Puts4:List p8)(at_1:Int):Option (j7 n7 ((List Int)×(List r9)×(List p8)×(List r9)×(List p8)×Int) ((List r9)×(List p8)×(List Int)×(List r9)×List p8)):=
 ((o8 (fun s:Int=>b1U Reads1 regs2 s) 0).bind fun x=>x.go (fun r=>some (j7.ret r)) fun s=>b4c b5 b7 Reads1 regs2 Puts4 at_1)
theorem f1i(list prog b5 b7 Reads1)(lc:D2 Q3 a7P (a9Q list prog)):NL lc (f7N list prog b5 b7 Reads1) (fun s=>a9L b5 b7 Reads1 s.1 s.2.1 s.2.2):=fun (regs2,Puts4,at_1) h=>PK<|rg<|om (4*1=4) rfl<|lp (e0L list prog b5 b7 Reads1 regs2 Puts4 at_1) h (fun _ h=>lc.rt h) (f6a list prog b5 b7 Reads1 regs2 Puts4 at_1 lc) fun hI=>om (V.agg ((regs2.map eI).flatten.map (X1 [(1,0),(2,0),(3,0),(4,0),(5,0),(6,0),(7,0)]))=.agg (regs2.map eI).flatten) (congrArg V.agg (a7L (fun _=>rfl) _))<|skT [] [0,1,4,5,6,7,161,162] [(1,0),(2,0),(3,0),(4,0),(5,0),(6,0),(7,0)] [(161,.agg (regs2.map eI).flatten)] hI
def a3y(list:List m9)(prog:List n8)(regs:List Int)(b5:List r9)(b7:List p8)(Reads1:List r9)(Puts1:List p8)(at_:Int):Option (j7 n7 ((List Int)×(List r9)×(List p8)×(List r9)×(List p8)×Int) ((List r9)×(List p8)×(List Int)×(List r9)×List p8)):=
 (bif decide (at_<(prog.length:Int)) then ((idx prog at_).bind fun ins=>(bif (ins.a9==1) then ((b2E (n7.mk Reads1 Puts1 0 0) ins.B).bind fun W5=>(bif decide (W5>=0) then ((idx Puts1 W5).bind fun put1=>((idx regs ins.A).bind fun y1=>(t5 (ins.A<4) (((o8 (fun s:Int=>b2S regs Reads1 ins put1 s) 0).bind fun x=>x.go (fun r=>some (j7.ret r)) fun s=>c4H regs b5 b7 Reads1 Puts1 at_ ins put1))))) else ((((b37 (n7.mk Reads1 Puts1 0 0) ins.B).bind fun d7Y=>(bif decide (d7Y<0) then ((idx list ins.B).bind fun Q1=>(t5 ((Reads1.length+1)*16<=140737488355328) (some (l9.brk (Reads1++[(r9.mk ins.B Q1.j4)]))))) else some (l9.brk Reads1))):Option (l9 (j7 n7 ((List Int)×(List r9)×(List p8)×(List r9)×(List p8)×Int) ((List r9)×(List p8)×(List Int)×(List r9)×List p8)) (List r9))).bind fun x=>x.go some fun j=>b6G list regs b5 b7 Puts1 at_ ins j))) else (((bif (ins.a9==2) then ((b2E (n7.mk Reads1 Puts1 0 0) ins.A).bind fun b0e=>(bif decide (b0e>=0) then ((idx regs ins.B).bind fun y6=>(t5 (ins.B<4) (((idx Puts1 b0e).bind fun put2=>some (l9.brk (regs,Puts1.set b0e.toNat (p8.mk put2.i5 y6),at_)))))) else ((idx regs ins.B).bind fun y7=>(t5 (ins.B<4) ((t5 ((Puts1.length+1)*16<=140737488355328) (some (l9.brk (regs,Puts1++[(p8.mk ins.A y7)],at_))))))))) else (bif (ins.a9==3) then ((idx regs ins.A).bind fun y8=>(t5 (ins.A<4) (some (l9.brk (regs.set ins.A.toNat ins.N,Puts1,at_))))) else (bif (ins.a9==4) then ((idx regs ins.A).bind fun y9=>(t5 (ins.A<4) (((idx regs ins.B).bind fun y10=>(t5 (ins.B<4) ((t5 (ins.A<4) (some (l9.brk (regs.set ins.A.toNat (m7 (y9+y10)),Puts1,at_)))))))))) else (bif (ins.a9==5) then ((idx regs ins.A).bind fun y11=>(t5 (ins.A<4) (((idx regs ins.B).bind fun y12=>(t5 (ins.B<4) ((t5 (ins.A<4) (some (l9.brk (regs.set ins.A.toNat (m7 (y11-y12)),Puts1,at_)))))))))) else (bif (ins.a9==6) then ((idx regs ins.A).bind fun y13=>(t5 (ins.A<4) (((idx regs ins.B).bind fun y14=>(t5 (ins.B<4) ((bif decide (y13<y14) then some (l9.brk (regs,Puts1,m7 (at_+ins.N))) else some (l9.brk (regs,Puts1,at_))))))))) else (bif (ins.a9==7) then ((a20 Reads1).bind fun c2J=>some (l9.ret (j7.ret (n7.mk c2J [] 0 1)))) else some (l9.brk (regs,Puts1,at_)))))))):Option (l9 (j7 n7 ((List Int)×(List r9)×(List p8)×(List r9)×(List p8)×Int) ((List r9)×(List p8)×(List Int)×(List r9)×List p8)) ((List Int)×(List p8)×Int))).bind fun x=>x.go some fun j=>a9L b5 b7 Reads1 j.1 j.2.1 j.2.2))) else some (j7.brk (b5,b7,regs,Reads1,Puts1)))
set_option maxRecDepth 20000 in
theorem e3v(list prog):LQ Q3 a7P (a9Q list prog) (fun s=>a3y list prog s.1 s.2.1 s.2.2.1 s.2.2.2.1 s.2.2.2.2.1 s.2.2.2.2.2):=fun lc (regs,b5,b7,Reads1,Puts1,at_) h=>PK<|rg<|j5 3 h (fun h=>rg<|u0 A6 2 h fun ins hins h=>n9<|j5 1 h (fun h=>rg<|R4 a6M d6c 3 2 h fun W5 h=>C9 Reads1 Puts1<|rg<|j5 1 h (fun h=>rg<|B0 h fun put1 b23 h=>C0 b23<|I4 w9 7 b23<|B0 h fun y1 hy1 h=>t9 h fun e2 h=>ob (O8 hy1)<|ob e2<|om (s9.arr 192 1 4 ((regs.map eI).set (ins.A.toNat) [vi put1.d9])=s9.arr 192 1 4 ((regs.set ins.A.toNat put1.d9).map eI)) (a7J rfl)<|ob (U5 (enc:=eI) hy1)<|tl (9,{a:=.rowck (eI y1) [],e:=some (.arr 192 1 4 ((regs.set ins.A.toNat put1.d9).map eI))})<|rg<|om (4*1=4) rfl<|lp (f0T list prog regs b5 b7 Reads1 Puts1 at_ ins put1) h (fun _ h=>lc.rt h) (e0O list prog regs b5 b7 Reads1 Puts1 at_ ins put1 lc) fun hI=>om (V.agg (((regs.set ins.A.toNat put1.d9).map eI).flatten.map (X1 [(1,0),(4,0),(5,0),(2,0),(3,0),(6,0),(7,0)]))=.agg ((regs.set ins.A.toNat put1.d9).map eI).flatten) (congrArg V.agg (a7L (fun _=>rfl) _))<|skT [] [0,1,4,5,6,7,161,162] [(1,0),(4,0),(5,0),(2,0),(3,0),(6,0),(7,0)] [(161,.agg ((regs.set ins.A.toNat put1.d9).map eI).flatten)] hI) (fun h=>A3 h (e9n list prog regs b5 b7 Puts1 at_ ins lc) fun x2 h hc2=>rg<|R4 a8M f4D 3 2 h fun d7Y h=>C9 Reads1 Puts1<|j5 4 h (fun h=>rg<|u0 x7 7 h fun Q1 a61 h=>tk 11 []<|t9 h fun e6 h=>F7 12 46 174 2 16 w8 Reads1 (r9.mk ins.B Q1.j4) e6<|E5 (r9.mk ins.B Q1.j4)<|(o9 h hc2 fun hI=>sk [] [0,1,4,5,6,7,8] [(1,0),(4,0),(5,0),(2,0),(3,0),(46,0),(7,0),(16,0)] hI)) (fun h=>(o9 h hc2 fun hI=>sk [] [0,1,4,5,6,7,8] [(1,0),(4,0),(5,0),(2,0),(3,0),(6,0),(7,0),(16,0)] hI)))) (fun h=>A3 h (f1i list prog b5 b7 Reads1 lc) fun x2 h hc2=>rg<|j5 1 h (fun h=>rg<|R4 a6M d6c 3 2 h fun b0e h=>C9 Reads1 Puts1<|rg<|j5 1 h (fun h=>rg<|B0 h fun y6 hy6 h=>t9 h fun e8 h=>ob (O8 hy6)<|ob e8<|ob (U5 (enc:=eI) hy6)<|tl (tr 6 (eI y6))<|B0 h fun put2 c9y h=>C0 c9y<|Q6 177 2 w9 9 [] (p8.mk put2.i5 y6) c9y<|(o9 h hc2 fun hI=>om ((.own 7 0 2 0 Puts1.length:V)=.own 7 0 2 0 (Puts1.set b0e.toNat (p8.mk put2.i5 y6)).length) (by simp)<|sk [.is (.cell 3 0 1) (.own 7 0 2 0 (Puts1.set b0e.toNat (p8.mk put2.i5 y6)).length)] [0,1,4,5,6,7] [(1,0),(4,0),(5,0),(2,0),(3,0),(6,0),(7,0)] hI)) (fun h=>rg<|B0 h fun y7 hy7 h=>t9 h fun e9 h=>ob (O8 hy7)<|ob e9<|ob (U5 (enc:=eI) hy7)<|tl (tr 7 (eI y7))<|tk 9 []<|t9 h fun e10 h=>F7 10 41 177 2 16 w9 Puts1 (p8.mk ins.A y7) e10<|E5 (p8.mk ins.A y7)<|(o9 h hc2 fun hI=>sk [] [0,1,4,5,6,7] [(1,0),(4,0),(5,0),(2,0),(3,0),(6,0),(41,0)] hI))) (fun h=>rg<|j5 1 h (fun h=>rg<|B0 h fun y8 hy8 h=>t9 h fun e11 h=>ob (O8 hy8)<|ob e11<|om (s9.arr 192 1 4 ((regs.map eI).set (ins.A.toNat) [vi ins.N])=s9.arr 192 1 4 ((regs.set ins.A.toNat ins.N).map eI)) (a7J rfl)<|ob (U5 (enc:=eI) hy8)<|tl (5,{a:=.rowck (eI y8) [],e:=some (.arr 192 1 4 ((regs.set ins.A.toNat ins.N).map eI))})<|(o9 h hc2 fun hI=>sk [] [0,1,4,5,6,7] [(1,0),(4,0),(5,0),(2,0),(3,0),(6,0),(7,0)] hI)) (fun h=>rg<|j5 1 h (fun h=>rg<|B0 h fun y9 hy9 h=>t9 h fun e12 h=>ob (O8 hy9)<|ob e12<|ob (U5 (enc:=eI) hy9)<|tl (tr 3 (eI y9))<|B0 h fun y10 c8f h=>t9 h fun e13 h=>ob (O8 c8f)<|ob e13<|ob (U5 (enc:=eI) c8f)<|tl (tr 7 (eI y10))<|t9 h fun e14 h=>ob (O8 hy9)<|ob e14<|om (s9.arr 192 1 4 ((regs.map eI).set (ins.A.toNat) [vi (m7 (y9+y10))])=s9.arr 192 1 4 ((regs.set ins.A.toNat (m7 (y9+y10))).map eI)) (a7J rfl)<|ob (U5 (enc:=eI) hy9)<|tl (10,{a:=.rowck (eI y9) [],e:=some (.arr 192 1 4 ((regs.set ins.A.toNat (m7 (y9+y10))).map eI))})<|(o9 h hc2 fun hI=>sk [] [0,1,4,5,6,7] [(1,0),(4,0),(5,0),(2,0),(3,0),(6,0),(7,0)] hI)) (fun h=>rg<|j5 1 h (fun h=>rg<|B0 h fun y11 b5H h=>t9 h fun e15 h=>ob (O8 b5H)<|ob e15<|ob (U5 (enc:=eI) b5H)<|tl (tr 3 (eI y11))<|B0 h fun y12 d5l h=>t9 h fun e16 h=>ob (O8 d5l)<|ob e16<|ob (U5 (enc:=eI) d5l)<|tl (tr 7 (eI y12))<|t9 h fun e17 h=>ob (O8 b5H)<|ob e17<|om (s9.arr 192 1 4 ((regs.map eI).set (ins.A.toNat) [vi (m7 (y11-y12))])=s9.arr 192 1 4 ((regs.set ins.A.toNat (m7 (y11-y12))).map eI)) (a7J rfl)<|ob (U5 (enc:=eI) b5H)<|tl (10,{a:=.rowck (eI y11) [],e:=some (.arr 192 1 4 ((regs.set ins.A.toNat (m7 (y11-y12))).map eI))})<|(o9 h hc2 fun hI=>sk [] [0,1,4,5,6,7] [(1,0),(4,0),(5,0),(2,0),(3,0),(6,0),(7,0)] hI)) (fun h=>rg<|j5 1 h (fun h=>rg<|B0 h fun y13 d7y h=>t9 h fun e18 h=>ob (O8 d7y)<|ob e18<|ob (U5 (enc:=eI) d7y)<|tl (tr 3 (eI y13))<|B0 h fun y14 d7C h=>t9 h fun e19 h=>ob (O8 d7C)<|ob e19<|ob (U5 (enc:=eI) d7C)<|tl (tr 7 (eI y14))<|j5 8 h (fun h=>rg<|(o9 h hc2 fun hI=>sk [] [0,1,4,5,6,7] [(1,0),(4,0),(5,0),(2,0),(3,0),(6,0),(7,0)] hI)) (fun h=>(o9 h hc2 fun hI=>sk [] [0,1,4,5,6,7] [(1,0),(4,0),(5,0),(2,0),(3,0),(6,0),(7,0)] hI))) (fun h=>rg<|j5 1 h (fun h=>rg<|cbS a2z b06 2 (fun _=>(by simp [a2z,L0,R0,O4,V.simple,vi,v6,eI,w8])) (fun _=>(Q9 1)) h fun c2J h=>s7 Reads1<|(B2 h hc2 fun h=>s7 c2J<|fL lc h)) (fun h=>(o9 h hc2 fun hI=>sk [] [0,1,4,5,6,7] [(1,0),(4,0),(5,0),(2,0),(3,0),(6,0),(7,0)] hI))))))))) (fun h=>(lc.bk h fun hI=>sk [] [4,5,6] [(1,0),(4,0),(5,0),(2,0),(3,0),(6,0),(7,0)] hI))
def b4E(list:List m9)(prog:List n8):Option n7:=
 ((a6x list).bind fun R5=>(bif (!R5) then some (n7.mk [] [] 0 3) else ((a8N prog).bind fun E4=>(bif (!E4) then some (n7.mk [] [] 0 3) else ((o8 (fun s:(List Int)×(List r9)×(List p8)×(List r9)×(List p8)×Int=>a3y list prog s.1 s.2.1 s.2.2.1 s.2.2.2.1 s.2.2.2.2.1 s.2.2.2.2.2) (f8A 4 (0:Int),[],[],[],[],0)).bind fun x=>x.go (fun r=>some r) fun s=>b4M s.1 s.2.1 s.2.2.1 s.2.2.2.1 s.2.2.2.2)))))
theorem d6Q{list prog}:OK Q3 [j9 2 x7 list,j9 4 A6 prog] (b4E list prog):=
 o7 _ fun r h=>n9<|l7 a3D b49 1 h fun R5 h=>j5 3 h (fun h=>rg<|fE h) (fun h=>l7 a4B b7y 5 h fun E4 h=>j5 7 h (fun h=>rg<|fE h) (fun h=>rg<|om ((f8A 4 ([vi 0]:List V)).flatten=[vi 0,vi 0,vi 0,vi 0]/\([vi 0]:List V).length=1) ⟨rfl,rfl⟩<|n9<|lp (e3v list prog) h (fun _ h=>Q3.rt h) (d90 r) fun hI=>sk [.own (.cell 1 0 0) 174 2,.own (.cell 1 0 1) 177 2,.own (.cell 12 0 0) 174 2,.own (.cell 12 0 1) 177 2] [0,1,4,5,6,7] [(1,0),(10,0),(12,0),(15,0),(16,0),(17,0),(18,0)] hI))
def a1F:FS (Int):=⟨58,Tryz.f58,[.val [] []],[none,none],[.val [some 7] [],.val [] []],fun r=>vi r,fun _=>[none,none],Tryz.func58⟩
def c29:Unit->KS:=fun _=>⟨a1F.k 3 [false],(bs 25 []),[some []]⟩
def d7l:Option Int:=
 some (-1)
theorem e7Q(r):NF a1F r c29 (fun s=>d7l):=fun _ h=>PK<|rg<|fE h
def d7w(list:List m4)(q:n5):Int->KS:=fun v9=>⟨a1F.k 2 [],(bs 3 (.ptr 1 0 0::(bs 3 (j9 7 s5 list::(vi (list.length:Int)::(vi v9::(bs 15 []))))))),[some [],some [.var 47 [vi q.b9,vi q.Seq]]]⟩
def e5C(list:List m4)(q:n5)(v9:Int):Unit->KS:=fun _=>⟨a1F.k 5 [true,false],(bs 3 (.ptr 1 0 0::(bs 3 (j9 7 s5 list::(vi (list.length:Int)::(vi v9::(bs 15 []))))))),[some [],some [.var 47 [vi q.b9,vi q.Seq]]]⟩
def c3h(v9:Int):Option (j7 Int Int Unit):=
 some (j7.nxt (m7 (v9+1)))
theorem e7K(list q v9)(lc:D2 a1F c29 (d7w list q)):NL lc (e5C list q v9) (fun s=>c3h v9):=fun _ h=>PK<|rg<|(lc.nx h fun hI=>sk [] [3,7,8,9] [(1,0)] hI)
def a9N(list:List m4)(q:n5)(v9:Int):Option (j7 Int Int Unit):=
 (bif decide (v9<(list.length:Int)) then ((idx list v9).bind fun entry=>(((bif (!entry.i7) then (bif (([entry.a5.b9,entry.a5.Seq]:List Int)==[q.b9,q.Seq]) then some (l9.ret (j7.ret v9)) else some (l9.brk ())) else some (l9.brk ())):Option (l9 (j7 Int Int Unit) Unit)).bind fun x=>x.go some fun j=>c3h v9)) else some (j7.brk ()))
theorem e4Q(list q):LQ a1F c29 (d7w list q) (fun s=>a9N list q s):=fun lc v9 h=>PK<|rg<|j5 0 h (fun h=>rg<|u0 s5 1 h fun entry F3 h=>A3 h (e7K list q v9 lc) fun x2 h hc2=>rg<|j5 3 h (fun h=>j5 8 h (fun h=>rg<|(B2 h hc2 fun h=>fL lc h)) (fun h=>(o9 h hc2 fun hI=>sk [] [3,7,8,9] [(1,0)] hI))) (fun h=>(o9 h hc2 fun hI=>sk [] [3,7,8,9] [(1,0)] hI))) (fun h=>(lc.bk h fun hI=>sk [] [] [] hI))
def a5U(list:List m4)(q:n5):Option Int:=
 ((o8 (fun s:Int=>a9N list q s) 0).bind fun x=>x.go (fun r=>some r) fun s=>d7l)
theorem b5d{list q}:OK a1F [j9 7 s5 list,.agg (F6 q)] (a5U list q):=
 o7 _ fun r h=>n9<|lp (e4Q list q) h (fun _ h=>a1F.rt h) (e7Q r) fun hI=>sk [] [3,7,8,9] [(1,0)] hI
def c4x:FS (Bool×p7):=⟨201,Tryz.f201,[.val [] []],[some (0,.ptr J4 N0),none],[.ptr J4 N0,.val [] []],fun r=>.b r.1,fun r=>[some (.optr 163 (N1 r.2)),none],Tryz.func201⟩
def b44(a:p7)(q:n5):Option (Bool×p7):=
 ((a5U a.n.a6 q).bind fun first=>some (decide (first>=0),a))
theorem d5D{a q}:OK c4x [.optr 163 (N1 a),.agg (F6 q)] (b44 a q):=
 o7 _ fun r h=>n9<|R4 a1F b5d 6 2 h fun first h=>s7 a.n.a6<|D1 a<|fE h
def a0v:FS (m4×Bool×p7):=⟨196,Tryz.f196,[.val J3 [],.val [] []],[some (0,.ptr J4 N0)],[.ptr J4 N0],fun r=>.tup [.agg (s5 r.1),.b r.2.1],fun r=>[some (.optr 163 (N1 r.2.2))],Tryz.func196⟩
def f7x(a:p7):Unit->KS:=fun _=>⟨a0v.k 3 [false],(.ptr 0 0 0::(bs 1 (.ptr 1 0 0::(bs 1 (vi (a.n.a6.length:Int)::(bs 112 [])))))),[some ([.var 163 (c2N a)]++c4S a),some [.var 53 [.b false,vi 0,vi 0,.nil,.nil,vi 0,vi 0]]]⟩
def d6C(a:p7):Unit->KS:=fun _=>⟨a0v.k 5 [false,false],(.ptr 0 0 0::(bs 1 (.ptr 1 0 0::(bs 114 [])))),[some ([.var 163 (c2N a)]++c4S a),some [.var 53 [.b false,vi 0,vi 0,.nil,.nil,vi 0,vi 0]]]⟩
def f3T:p7->KS:=fun a1=>⟨a0v.k 6 [false,false,false],(.ptr 0 0 0::(bs 1 (.ptr 6 0 0::(bs 114 [])))),[some [.var 163 (b1V a1),.dead,.dead,.dead,.dead,.dead]]++a3g a1++[some [.var 53 [.b false,vi 0,vi 0,.nil,.nil,vi 0,vi 0]]]⟩
def c84:p7->KS:=fun w=>⟨a0v.k 7 [false,false,false,false],(bs 2 (.ptr 6 0 0::(bs 114 []))),[some [.var 163 (b1V w),.dead,.dead,.dead,.dead,.dead]]++a3g w++[some [.var 53 [.b false,vi 0,vi 0,.nil,.nil,vi 0,vi 0]]]⟩
def c9g(w:p7):Option (m4×Bool×p7):=
 some ((m4.mk false (n5.mk 0 0) (n7.mk [] [] 0 0)),false,w)
theorem d9a(r):NF a0v r c84 (fun s=>c9g s):=fun w h=>PK<|rg<|D1 w<|fE h
def f0B:p7->KS:=fun a2=>⟨a0v.k 6 [false,false,false],(.ptr 0 0 0::(bs 1 (.ptr 6 0 0::(bs 114 [])))),[some [.var 163 (b1V a2),.dead,.dead,.dead,.dead,.dead]]++a3g a2++[some [.var 53 [.b false,vi 0,vi 0,.nil,.nil,vi 0,vi 0]]]⟩
def a4I(a2:p7):Option (j7 (m4×Bool×p7) p7 p7):=
 (bif decide ((a2.n.f0.length:Int)>0) then ((idx a2.n.f0 0).bind fun entry=>(t5 ((0:Int)<=1/\1<=(a2.n.f0.length:Int)) (((b44 (p7.mk (j6.mk a2.n.Id a2.n.Acc a2.n.a6 a2.n.Seq a2.n.d6 a2.n.a8 a2.n.c9 a2.n.i4 a2.n.c8 a2.n.a7 a2.n.i9 a2.n.i6 a2.n.b8 ((a2.n.f0.drop (1:Int).toNat).take (a2.n.f0.length-(1:Int).toNat))) a2.out a2.told) entry.a5).bind fun b2c=>(bif (!b2c.1) then some (j7.ret (entry,true,b2c.2)) else some (j7.nxt b2c.2)))))) else some (j7.brk a2))
theorem f06:LQ a0v c84 f0B (fun s=>a4I s):=fun lc a2 h=>PK<|rg<|j5 6 h (fun h=>rg<|u0 s5 5 h fun entry F3 h=>rg<|t9 h fun e1 h=>om (V.sl 7 (a2.n.f0.length-(1:Int).toNat) (((a2.n.f0.map s5).drop (1:Int).toNat).take (a2.n.f0.length-(1:Int).toNat))=j9 7 s5 ((a2.n.f0.drop (1:Int).toNat).take (a2.n.f0.length-(1:Int).toNat))) (b5m e1)<|ob e1.1<|ob e1.2<|tl (6,{v:=some (j9 7 s5 ((a2.n.f0.drop (1:Int).toNat).take (a2.n.f0.length-(1:Int).toNat)))})<|rg<|l7 c4x d5D 3 h fun b2c h=>D1 a2<|j5 4 h (fun h=>rg<|D1 b2c.2<|fL lc h) (fun h=>(lc.nx h fun hI=>sk [] [0,2] [(37,0),(37,1),(37,2),(37,3),(37,4),(6,0)] hI))) (fun h=>(lc.bk h fun hI=>sk [] [2] [(1,0),(2,0),(3,0),(4,0),(5,0),(6,0)] hI))
def b9x(a1:p7):Option (m4×Bool×p7):=
 ((o8 (fun s:p7=>a4I s) a1).bind fun x=>x.go (fun r=>some r) fun s=>c9g s)
theorem f6C(r):NF a0v r f3T (fun s=>b9x s):=fun a1 h=>PK<|lp (f06) h (fun _ h=>a0v.rt h) (d9a r) fun hI=>sk [] [0,2] [(1,0),(2,0),(3,0),(4,0),(5,0),(6,0)] hI
def c5c(a:p7):Option (m4×Bool×p7):=
 (((bif a.n.i9 then ((b44 a a.n.b8.a5).bind fun b0C=>(bif (!b0C.1) then some (l9.ret (b0C.2.n.b8,true,b0C.2)) else some (l9.brk b0C.2))) else some (l9.brk a)):Option (l9 (m4×Bool×p7) p7)).bind fun x=>x.go some fun j=>b9x j)
theorem d8R(a)(r):NF a0v r (d6C a) (fun s=>c5c a):=fun _ h=>PK<|A3 h (f6C r) fun x1 h hc1=>rg<|j5 5 h (fun h=>l7 c4x d5D 13 h fun b0C h=>D1 a<|j5 15 h (fun h=>rg<|(B2 h hc1 fun h=>D1 b0C.2<|fE h)) (fun h=>(o9 h hc1 fun hI=>sk [] [0,2] [(15,0),(15,1),(15,2),(15,3),(15,4),(1,0)] hI))) (fun h=>(o9 h hc1 fun hI=>sk [] [0,2] [(0,1),(0,2),(0,3),(0,4),(0,5),(1,0)] hI))
def e8D(a:p7):Int->KS:=fun i=>⟨a0v.k 4 [false],(.ptr 0 0 0::(bs 1 (.ptr 1 0 0::(bs 2 (vi i::(bs 111 [])))))),[some ([.var 163 (c2N a)]++c4S a),some [.var 53 [.b false,vi 0,vi 0,.nil,.nil,vi 0,vi 0]]]⟩
def a4U(a:p7)(i:Int):Option (j7 (m4×Bool×p7) Int Unit):=
 (bif decide (i<(a.n.i4.length:Int)) then ((idx a.n.i4 i).bind fun vote=>(bif (vote.a8 != 0) then some (j7.ret ((m4.mk true (n5.mk 0 0) (n7.mk [] [] 0 0)),true,a)) else some (j7.nxt (m7 (i+1))))) else some (j7.brk ()))
theorem e26(a):LQ a0v (d6C a) (e8D a) (fun s=>a4U a s):=fun lc i h=>PK<|rg<|j5 7 h (fun h=>rg<|u0 q8 6 h fun vote K1 h=>j5 9 h (fun h=>rg<|D1 a<|fL lc h) (fun h=>rg<|(lc.nx h fun hI=>sk [] [0,2,5] [(1,0)] hI))) (fun h=>(lc.bk h fun hI=>sk [] [0,2] [(1,0)] hI))
def b6L(a:p7):Option (m4×Bool×p7):=
 ((o8 (fun s:Int=>a4U a s) (m7 ((a.n.a6.length:Int)+1))).bind fun x=>x.go (fun r=>some r) fun s=>c5c a)
theorem e7C(a)(r):NF a0v r (f7x a) (fun s=>b6L a):=fun _ h=>PK<|rg<|lp (e26 a) h (fun _ h=>a0v.rt h) (d8R a r) fun hI=>sk [] [0,2,5] [(1,0)] hI
def b9W(a:p7):Option (m4×Bool×p7):=
 (((bif decide ((a.n.a6.length:Int)<(a.n.i4.length:Int)) then ((idx a.n.i4 (a.n.a6.length:Int)).bind fun T2=>(bif (T2.a8 != 0) then some (l9.ret (T2.g9,true,a)) else some (l9.brk ()))) else some (l9.brk ())):Option (l9 (m4×Bool×p7) Unit)).bind fun x=>x.go some fun j=>b6L a)
theorem e1D{a}:OK a0v [.optr 163 (N1 a)] (b9W a):=
 o7 _ fun r h=>n9<|A3 h (e7C a r) fun x1 h hc1=>rg<|j5 8 h (fun h=>u0 q8 15 h fun T2 a3Q h=>j5 19 h (fun h=>rg<|I3 q8 6 a3Q<|(B2 h hc1 fun h=>D1 a<|fE h)) (fun h=>(o9 h hc1 fun hI=>sk [] [0,2,4] [(1,0)] hI))) (fun h=>(o9 h hc1 fun hI=>sk [] [0,2,4] [(1,0)] hI))
def d5f:FS (z0×Bool):=⟨151,Tryz.f151,[.val [none,some 8] [none,some 89],.val [] []],[none,none],[.val [none,some 8] [],.val [] []],fun r=>.tup [.agg [vi r.1.i0,v6 89 8 q8 r.1.a7],.b r.2],fun _=>[none,none],Tryz.func151⟩
def c39(a:z0)(bal:Int):Option (z0×Bool):=
 ((a96 a).bind fun O2=>(bif (!O2) then some ((z0.mk 0 []),false) else ((a5C a).bind fun R6=>((D9 bal 1 3000).bind fun in_=>(bif (!in_) then some (R6,false) else (bif decide (bal<a.i0) then some (R6,false) else some ((z0.mk bal R6.a7),true)))))))
theorem f09{a bal}:OK d5f [.agg (a0J a),vi bal] (c39 a bal):=
 o7 _ fun r h=>n9<|l7 a5L c7r 1 h fun O2 h=>j5 2 h (fun h=>rg<|fE h) (fun h=>rg<|l7 a8F b1n 1 h fun R6 h=>rg<|l7 D5 F8 1 h fun in_ h=>j5 3 h (fun h=>rg<|s7 R6.a7<|fE h) (fun h=>j5 8 h (fun h=>rg<|s7 R6.a7<|fE h) (fun h=>n9<|s7 R6.a7<|fE h)))
def a6y:FS (z0×Bool):=⟨197,Tryz.f197,[.val [none,some 8] [],.val [] []],[none,none,none,none],[.val [none,some 8] [],.val [] [],.val [] [],.val J3 []],fun r=>.tup [.agg (a0J r.1),.b r.2],fun _=>[none,none,none,none],Tryz.func197⟩
def d8w(bal:Int)(slot:Int)(e_:m4)(o:z0×Bool):(List m8)->KS:=fun Z1=>⟨a6y.k 5 [false,false,false],(bs 1 (vi bal::(vi slot::(bs 4 (.ptr 1 0 0::(.ptr 2 0 0::(bs 1 (.ptr 3 0 0::(bs 40 []))))))))),[some [],some [.var 53 (a1C e_)],some [.var 43 [vi 0,.nil]],some [.var 43 [vi o.1.i0,.own 4 0 8 0 Z1.length]],some [m6 89 8 q8 Z1]]⟩
def c1s(bal:Int)(slot:Int)(e_:m4)(o:z0×Bool)(Z1:List m8):Option (z0×Bool):=
 ((idx Z1 slot).bind fun vote=>((a5C (z0.mk o.1.i0 (Z1.set slot.toNat (m8.mk bal e_)))).bind fun c5h=>some (c5h,true)))
theorem f0f(bal slot e_ o)(r):NF a6y r (d8w bal slot e_ o) (fun s=>c1s bal slot e_ o s):=fun Z1 h=>PK<|rg<|B0 h fun vote K1 h=>C0 K1<|Q6 89 8 q8 7 U9 (m8.mk bal e_) K1<|rg<|l7 a8F b1n 1 h fun c5h h=>om (Z1.length=(Z1.set slot.toNat (m8.mk bal e_)).length) (by simp)<|s7 c5h.a7<|fE h
def e3c(bal:Int)(slot:Int)(e_:m4)(o:z0×Bool):(List m8)->KS:=fun a7=>⟨a6y.k 4 [false,false],(bs 1 (vi bal::(vi slot::(bs 4 (.ptr 1 0 0::(.ptr 2 0 0::(bs 1 (.ptr 3 0 0::(bs 40 []))))))))),[some [],some [.var 53 (a1C e_)],some [.var 43 [vi 0,.nil]],some [.var 43 [vi o.1.i0,.own 4 0 8 0 a7.length]],some [m6 89 8 q8 a7]]⟩
def a8L(slot:Int)(a7:List m8):Option (j7 (z0×Bool) (List m8) (List m8)):=
 (bif decide ((a7.length:Int)<=slot) then (t5 ((a7.length+1)*96<=140737488355328) (some (j7.nxt (a7++[(m8.mk 0 (m4.mk false (n5.mk 0 0) (n7.mk [] [] 0 0)))])))) else some (j7.brk a7))
theorem e1X(bal slot e_ o):LQ a6y (d8w bal slot e_ o) (e3c bal slot e_ o) (fun s=>a8L slot s):=fun lc a7 h=>PK<|rg<|j5 4 h (fun h=>rg<|tk 3 U9<|t9 h fun e1 h=>F7 4 14 89 8 96 q8 a7 (m8.mk 0 (m4.mk false (n5.mk 0 0) (n7.mk [] [] 0 0))) e1<|E5 (m8.mk 0 (m4.mk false (n5.mk 0 0) (n7.mk [] [] 0 0)))<|(lc.nx h fun hI=>sk [] [1,2,7,8,10] [(1,0),(2,0),(3,0),(14,0)] hI)) (fun h=>(lc.bk h fun hI=>sk [] [1,2,7,8,10] [(1,0),(2,0),(3,0),(4,0)] hI))
def b5j(a:z0)(bal:Int)(slot:Int)(e_:m4):Option (z0×Bool):=
 ((c39 a bal).bind fun o=>(bif (!o.2) then some (o.1,false) else ((D9 slot 0 39).bind fun in_=>(bif (!in_) then ((a5C a).bind fun R6=>some (R6,false)) else ((a1Q e_).bind fun F4=>(bif (!F4) then ((a5C a).bind fun c3J=>some (c3J,false)) else ((o8 (fun s:List m8=>a8L slot s) o.1.a7).bind fun x=>x.go (fun r=>some r) fun s=>c1s bal slot e_ o s)))))))
theorem d1J{a bal slot e_}:OK a6y [.agg (a0J a),vi bal,vi slot,.agg (s5 e_)] (b5j a bal slot e_):=
 o7 _ fun r h=>n9<|l7 d5f f09 2 h fun o h=>rg<|j5 1 h (fun h=>rg<|s7 o.1.a7<|fE h) (fun h=>rg<|l7 D5 F8 1 h fun in_ h=>j5 3 h (fun h=>rg<|l7 a8F b1n 1 h fun R6 h=>s7 R6.a7<|fE h) (fun h=>l7 a3C a4d 5 h fun F4 h=>j5 7 h (fun h=>rg<|l7 a8F b1n 1 h fun c3J h=>s7 c3J.a7<|fE h) (fun h=>lp (e1X bal slot e_ o) h (fun _ h=>a6y.rt h) (f0f bal slot e_ o r) fun hI=>sk [] [1,2,7,8,10] [(2,0),(3,0),(11,0),(7,0)] hI)))
def b6d:FS (p7):=⟨150,Tryz.f150,[],[some (0,.ptr J4 N0)],[.ptr J4 N0],fun _=>.tup [],fun r=>[some (.optr 163 (N1 r))],Tryz.func150⟩
def b3p(a:p7):Option p7:=
 some (p7.mk (j6.mk a.n.Id a.n.Acc a.n.a6 a.n.Seq 0 0 [] [] (m4.mk false (n5.mk 0 0) (n7.mk [] [] 0 0)) [] a.n.i9 a.n.i6 a.n.b8 a.n.f0) a.out a.told)
theorem c5w{a}:OK b6d [.optr 163 (N1 a)] (b3p a):=
 o7 _ fun r h=>rg4<|n9<|Y3 a.n.a6 a.out a.told<|fE h
def c1G:FS ((List Bool)×p7):=⟨152,Tryz.f152,[.val [some 1] [some 4]],[some (0,.ptr J4 N0)],[.ptr J4 N0],fun r=>v6 4 1 eB r.1,fun r=>[some (.optr 163 (N1 r.2))],Tryz.func152⟩
def b4f(a:p7):Option ((List Bool)×p7):=
 (t5 (0<=(3:Int)/\(3:Int)*1<=140737488355328) (((idx (f8A (3:Int).toNat false) a.n.Id).bind fun y=>some ((f8A (3:Int).toNat false).set a.n.Id.toNat true,a))))
theorem d4n{a}:OK c1G [.optr 163 (N1 a)] (b4f a):=
 o7 _ fun r h=>n9<|t9 h fun e1 h=>T1 0 2 4 1 1 eB false ti4 (.none) e1 (by decide) (by rfl)<|rg<|B0 h fun y hy h=>C0 hy<|Q6 4 1 eB 7 [] true hy<|rg<|om ((f8A (3:Int).toNat false).length=((f8A (3:Int).toNat false).set a.n.Id.toNat true).length) (by simp)<|D1 a<|fE h
def a67:FS (p7):=⟨160,Tryz.f160,[],[some (0,.ptr J4 N0),none,none],[.ptr J4 N0,.val [] [],.val C2 []],fun _=>.tup [],fun r=>[some (.optr 163 (N1 r)),none,none],Tryz.func160⟩
def a4h(a:p7)(to:Int)(m:l8):Option p7:=
 (t5 ((a.out.length+1)*152<=140737488355328) (some (p7.mk a.n (a.out++[(l8.mk m.a9 a.n.Id to m.a8 m.g8 m.g9 m.a7)]) a.told)))
theorem a76{a to m}:OK a67 [.optr 163 (N1 a),vi to,.agg (t6 m)] (a4h a to m):=
 o7 _ fun r h=>rg4<|tk 6 C2<|t9 h fun e1 h=>F7 7 19 83 13 152 t6 a.out (l8.mk m.a9 a.n.Id to m.a8 m.g8 m.g9 m.a7) e1<|E5 (l8.mk m.a9 a.n.Id to m.a8 m.g8 m.g9 m.a7)<|H9 a.n.a6 a.n.c9 a.n.a7 (a.out++[(l8.mk m.a9 a.n.Id to m.a8 m.g8 m.g9 m.a7)])<|s7 a.told<|fE h
def a1c:FS (p7):=⟨148,Tryz.f148,[],[some (0,.ptr J4 N0),none],[.ptr J4 N0,.val C2 []],fun _=>.tup [],fun r=>[some (.optr 163 (N1 r)),none],Tryz.func148⟩
def d4S(m:l8):(Int×p7)->KS:=fun (to,a1)=>⟨a1c.k 2 [],(.ptr 0 0 0::(bs 2 (.ptr 1 0 0::(vi to::(bs 15 []))))),[some [.var 163 (e5g a1),.dead,.dead,.dead,.dead,.dead],some [.var 83 (a5x m)]]++e1H a1⟩
def f4h(m:l8)(to:Int):p7->KS:=fun a2=>⟨a1c.k 5 [true,true],(.ptr 0 0 0::(bs 2 (.ptr 6 0 0::(vi to::(bs 15 []))))),[some [.var 163 (b1V a2),.dead,.dead,.dead,.dead,.dead]]++a3g a2++[some [.var 83 (a5x m)]]⟩
def c2h(to:Int)(a2:p7):Option (j7 p7 (Int×p7) Unit):=
 some (j7.nxt (m7 (to+1),a2))
theorem f3v(m to)(lc:D2 a1c noK (d4S m)):NL lc (f4h m to) (fun s=>c2h to s):=fun a2 h=>PK<|rg<|(lc.nx h fun hI=>sk [] [0,3,4] [(6,0),(5,0),(4,0),(3,0),(2,0),(1,0)] hI)
def a4Y(m:l8)(to:Int)(a1:p7):Option (j7 p7 (Int×p7) Unit):=
 (bif decide (to<3) then (((bif (to != a1.n.Id) then ((a4h a1 to m).bind fun Z0=>some (l9.brk Z0)) else some (l9.brk a1)):Option (l9 (j7 p7 (Int×p7) Unit) p7)).bind fun x=>x.go some fun j=>c2h to j) else some (j7.ret a1))
theorem f4S(m):LQ a1c noK (d4S m) (fun s=>a4Y m s.1 s.2):=fun lc (to,a1) h=>PK<|rg<|j5 1 h (fun h=>A3 h (f3v m to lc) fun x2 h hc2=>rg<|j5 6 h (fun h=>rg<|l7 a67 a76 3 h fun Z0 h=>D1 a1<|(o9 h hc2 fun hI=>sk [] [0,3,4] [(19,0),(19,1),(19,2),(19,3),(19,4),(1,0)] hI)) (fun h=>(o9 h hc2 fun hI=>sk [] [0,3,4] [(6,0),(5,0),(4,0),(3,0),(2,0),(1,0)] hI))) (fun h=>D1 a1<|fL lc h)
def a3w(a:p7)(m:l8):Option p7:=
 ((o8 (fun s:Int×p7=>a4Y m s.1 s.2) (0,a)).bind fun x=>x.go (fun r=>some r) fun _=>none)
theorem a6L{a m}:OK a1c [.optr 163 (N1 a),.agg (t6 m)] (a3w a m):=
 o7 _ fun r h=>n9<|lp (f4S m) h (fun _ h=>a1c.rt h) (fun _ h=>nomatch h) fun hI=>sk [] [0,3,4] [(1,0),(0,5),(0,4),(0,3),(0,2),(0,1)] hI
def b0G:FS (p7):=⟨147,Tryz.f147,[],[some (0,.ptr J4 N0)],[.ptr J4 N0],fun _=>.tup [],fun r=>[some (.optr 163 (N1 r))],Tryz.func147⟩
def a7x(a:p7):Option p7:=
 (bif (a.n.d6 != 2) then some a else (bif decide ((a.n.a6.length:Int)>=40) then some a else ((b9W a).bind fun next=>(bif (!next.2.1) then some next.2.2 else ((b5j next.2.2.n.Acc next.2.2.n.a8 (next.2.2.n.a6.length:Int) next.1).bind fun a7y=>(bif (!a7y.2) then ((b3p next.2.2).bind fun follow=>some follow) else ((b4f (p7.mk (j6.mk next.2.2.n.Id a7y.1 next.2.2.n.a6 next.2.2.n.Seq next.2.2.n.d6 next.2.2.n.a8 next.2.2.n.c9 next.2.2.n.i4 next.1 next.2.2.n.a7 next.2.2.n.i9 next.2.2.n.i6 next.2.2.n.b8 next.2.2.n.f0) next.2.2.out next.2.2.told)).bind fun G0=>((a3w (p7.mk (j6.mk G0.2.n.Id G0.2.n.Acc G0.2.n.a6 G0.2.n.Seq 3 G0.2.n.a8 G0.2.n.c9 G0.2.n.i4 G0.2.n.c8 G0.1 G0.2.n.i9 G0.2.n.i6 G0.2.n.b8 G0.2.n.f0) G0.2.out G0.2.told) (l8.mk 3 0 0 G0.2.n.a8 (G0.2.n.a6.length:Int) next.1 [])).bind fun all=>some all))))))))
theorem b3t{a}:OK b0G [.optr 163 (N1 a)] (a7x a):=
 o7 _ fun r h=>rg<|j5 6 h (fun h=>D1 a<|fE h) (fun h=>j5 14 h (fun h=>D1 a<|fE h) (fun h=>rg<|l7 a0v e1D 1 h fun next h=>D1 a<|rg<|j5 1 h (fun h=>D1 next.2.2<|fE h) (fun h=>rg<|l7 a6y d1J 17 h fun a7y h=>rg<|j5 1 h (fun h=>rg<|l7 b6d c5w 1 h fun follow h=>D1 next.2.2<|D1 follow<|fE h) (fun h=>L8<|l7 c1G d4n 2 h fun G0 h=>D1 next.2.2<|n9<|l7 a1c a6L 14 h fun all h=>H9 G0.2.n.a6 G0.2.n.c9 G0.1 G0.2.out<|s7 G0.2.told<|D1 all<|fE h))))
def b98:FS (j6×(List l8)×List n6):=⟨93,Tryz.f93,[.val A8 [],.val [some 13] [],.val [some 5] []],[none,none],[.val A8 [],.val [some 4] []],fun r=>.tup [.agg (x6 r.1),j9 13 t6 r.2.1,j9 5 z5 r.2.2],fun _=>[none,none],Tryz.func93⟩
def e0B:p7->KS:=fun a=>⟨b98.k 11 [false,false,true],(bs 4 (.ptr 1 0 0::(bs 2 (.ptr 2 0 0::(bs 80 []))))),[some [],some [.var 55 [vi 0,vi 0,.nil,.nil,vi 0,vi 0,vi 0,.nil,.nil,.b false,vi 0,vi 0,.nil,.nil,vi 0,vi 0,.nil,.b false,.nil,.b false,vi 0,vi 0,.nil,.nil,vi 0,vi 0,.nil]],some [.var 163 (b3Y a)]]++a3g a⟩
def c01(a:p7):Option (j6×(List l8)×List n6):=
 ((a1E a).bind fun c0v=>some (c0v.1,c0v.2.1,c0v.2.2.1))
theorem f6V(r):NF b98 r e0B (fun s=>c01 s):=fun a h=>PK<|rg<|l7 a3O a40 1 h fun c0v h=>D1 a<|fE h
def b6K(n:j6)(prog:List n8):Option (j6×(List l8)×List n6):=
 ((a3X n).bind fun D7=>(bif (!D7) then some ((j6.mk 0 (z0.mk 0 []) [] 0 0 0 [] [] (m4.mk false (n5.mk 0 0) (n7.mk [] [] 0 0)) [] false [] (m4.mk false (n5.mk 0 0) (n7.mk [] [] 0 0)) []),[],[]) else ((a74 n).bind fun begin=>(bif n.i9 then ((a1E begin).bind fun X3=>some (X3.1,X3.2.1,X3.2.2.1)) else (bif (n.Seq==1000) then ((a1E begin).bind fun a49=>some (a49.1,a49.2.1,a49.2.2.1)) else ((a8N prog).bind fun E4=>(bif (!E4) then ((a1E begin).bind fun a5v=>some (a5v.1,a5v.2.1,a5v.2.2.1)) else ((b6u n).bind fun b3N=>((b4E b3N.g7 prog).bind fun B3=>(((bif (n.d6==2) then ((a7x (p7.mk (j6.mk begin.n.Id begin.n.Acc begin.n.a6 (m7 (begin.n.Seq+1)) begin.n.d6 begin.n.a8 begin.n.c9 begin.n.i4 begin.n.c8 begin.n.a7 true prog (m4.mk false (n5.mk n.Id (m7 (begin.n.Seq+1))) B3) begin.n.f0) begin.out begin.told)).bind fun a0a=>some (l9.brk a0a)) else (bif (n.d6==0) then ((a3w (p7.mk (j6.mk begin.n.Id begin.n.Acc begin.n.a6 (m7 (begin.n.Seq+1)) begin.n.d6 begin.n.a8 begin.n.c9 begin.n.i4 begin.n.c8 begin.n.a7 true prog (m4.mk false (n5.mk n.Id (m7 (begin.n.Seq+1))) B3) begin.n.f0) begin.out begin.told) (l8.mk 7 0 0 0 0 (m4.mk false (n5.mk n.Id (m7 (begin.n.Seq+1))) B3) [])).bind fun all=>some (l9.brk all)) else some (l9.brk (p7.mk (j6.mk begin.n.Id begin.n.Acc begin.n.a6 (m7 (begin.n.Seq+1)) begin.n.d6 begin.n.a8 begin.n.c9 begin.n.i4 begin.n.c8 begin.n.a7 true prog (m4.mk false (n5.mk n.Id (m7 (begin.n.Seq+1))) B3) begin.n.f0) begin.out begin.told)))):Option (l9 (j6×(List l8)×List n6) p7)).bind fun x=>x.go some fun j=>c01 j))))))))))
theorem e3E{n prog}:OK b98 [.agg (x6 n),j9 4 A6 prog] (b6K n prog):=
 o7 _ fun r h=>n9<|l7 a0M a8r 1 h fun D7 h=>j5 2 h (fun h=>rg<|fE h) (fun h=>rg<|l7 b4I b9w 1 h fun begin h=>rg<|j5 2 h (fun h=>rg<|l7 a3O a40 1 h fun X3 h=>J8 begin.n<|C9 begin.out begin.told<|fE h) (fun h=>j5 7 h (fun h=>rg<|l7 a3O a40 1 h fun a49 h=>J8 begin.n<|C9 begin.out begin.told<|fE h) (fun h=>l7 a4B b7y 9 h fun E4 h=>j5 11 h (fun h=>rg<|l7 a3O a40 1 h fun a5v h=>J8 begin.n<|C9 begin.out begin.told<|fE h) (fun h=>rg4<|l7 c8l e1g 10 h fun b3N h=>l7 Q3 d6Q 13 h fun B3 h=>rg<|A3 h (f6V r) fun x1 h hc1=>rg<|j5 1 h (fun h=>rg<|l7 b0G b3t 1 h fun a0a h=>J8 begin.n<|C9 begin.out begin.told<|(o9 h hc1 fun hI=>sk [] [4,7] [(2,0),(9,0),(68,0),(68,1),(68,2),(68,3),(68,4)] hI)) (fun h=>rg<|j5 1 h (fun h=>rg<|l7 a1c a6L 7 h fun all h=>J8 begin.n<|C9 begin.out begin.told<|(o9 h hc1 fun hI=>sk [] [4,7] [(2,0),(9,0),(76,0),(76,1),(76,2),(76,3),(76,4)] hI)) (fun h=>(o9 h hc1 fun hI=>s7 begin.n.f0<|sk [.frz (.cell 9 0 26) (none)] [4,7] [(2,0),(9,0),(9,1),(9,2),(9,3),(9,5),(9,6)] hI)))))))
def U8:FS (m5):=⟨94,Tryz.f94,[.val C5 om6],[none,none,none,none],[.val C5 om6,.val A8 [],.val [some 13] [],.val [some 5] []],fun r=>.agg (a9j r),fun _=>[none,none,none,none],Tryz.func94⟩
def c3y(w:m5)(n:j6)(told:List n6):(List l8)->KS:=fun Net1=>⟨U8.k 4 [false],(bs 3 (j9 5 z5 told::(.ptr 1 0 0::(bs 3 (.ptr 3 0 0::(bs 45 [])))))),[some [m6 55 27 x6 (w.a0.set n.Id.toNat n),.dead,m6 73 3 C1 w.d8,m6 76 5 z5 w.Told],some [.var 30 [.own 0 0 27 0 (w.a0.set n.Id.toNat n).length,.own 2 0 13 0 Net1.length,.own 0 2 3 0 w.d8.length,.own 0 3 5 0 w.Told.length]],some [m6 83 13 t6 Net1],some [.var 30 [.nil,.nil,.nil,.nil]]]⟩
def c26(w:m5)(n:j6)(Net1:List l8):(List n6)->KS:=fun Told1=>⟨U8.k 6 [false,false],(bs 4 (.ptr 1 0 0::(bs 3 (.ptr 4 0 0::(bs 45 []))))),[some [m6 55 27 x6 (w.a0.set n.Id.toNat n),.dead,m6 73 3 C1 w.d8,.dead],some [.var 30 [.own 0 0 27 0 (w.a0.set n.Id.toNat n).length,.own 2 0 13 0 Net1.length,.own 0 2 3 0 w.d8.length,.own 3 0 5 0 Told1.length]],some [m6 83 13 t6 Net1],some [m6 76 5 z5 Told1],some [.var 30 [.nil,.nil,.nil,.nil]]]⟩
def c4W(w:m5)(n:j6)(Net1:List l8)(Told1:List n6):Option m5:=
 some (m5.mk (w.a0.set n.Id.toNat n) Net1 w.d8 Told1)
theorem f03(w n Net1)(r):NF U8 r (c26 w n Net1) (fun s=>c4W w n Net1 s):=fun Told1 h=>PK<|rg<|H9 (w.a0.set n.Id.toNat n) Net1 w.d8 Told1<|fE h
def c8B(w:m5)(n:j6)(told:List n6)(Net1:List l8):((List n6)×Int)->KS:=fun (Told,v38)=>⟨U8.k 5 [false],(bs 4 (.ptr 1 0 0::(bs 3 (.ptr 3 0 0::(bs 27 (j9 5 z5 told::(vi (told.length:Int)::(vi v38::(bs 15 []))))))))),[some [m6 55 27 x6 (w.a0.set n.Id.toNat n),.dead,m6 73 3 C1 w.d8,.dead],some [.var 30 [.own 0 0 27 0 (w.a0.set n.Id.toNat n).length,.own 2 0 13 0 Net1.length,.own 0 2 3 0 w.d8.length,.own 4 0 5 0 Told.length]],some [m6 83 13 t6 Net1],some [.var 30 [.nil,.nil,.nil,.nil]],some [m6 76 5 z5 Told]]⟩
def e3O(w:m5)(n:j6)(told:List n6)(Net1:List l8)(v38:Int):(List n6)->KS:=fun Told2=>⟨U8.k 9 [false,true,true],(bs 4 (.ptr 1 0 0::(bs 3 (.ptr 4 0 0::(bs 27 (j9 5 z5 told::(vi (told.length:Int)::(vi v38::(bs 15 []))))))))),[some [m6 55 27 x6 (w.a0.set n.Id.toNat n),.dead,m6 73 3 C1 w.d8,.dead],some [.var 30 [.own 0 0 27 0 (w.a0.set n.Id.toNat n).length,.own 2 0 13 0 Net1.length,.own 0 2 3 0 w.d8.length,.own 3 0 5 0 Told2.length]],some [m6 83 13 t6 Net1],some [m6 76 5 z5 Told2],some [.var 30 [.nil,.nil,.nil,.nil]]]⟩
def b5E(v38:Int)(Told2:List n6):Option (j7 m5 ((List n6)×Int) (List n6)):=
 some (j7.nxt (Told2,m7 (v38+1)))
theorem d8M(w n told Net1 v38)(lc:D2 U8 (c26 w n Net1) (c8B w n told Net1)):NL lc (e3O w n told Net1 v38) (fun s=>b5E v38 s):=fun Told2 h=>PK<|rg<|(lc.nx h fun hI=>sk [] [4,8,36,37,38] [(1,0),(2,0),(4,0),(3,0)] hI)
def a34(told:List n6)(Told:List n6)(v38:Int):Option (j7 m5 ((List n6)×Int) (List n6)):=
 (bif decide (v38<(told.length:Int)) then ((idx told v38).bind fun a6V=>(((bif decide ((Told.length:Int)<60) then (t5 ((Told.length+1)*40<=140737488355328) (some (l9.brk (Told++[a6V])))) else some (l9.brk Told)):Option (l9 (j7 m5 ((List n6)×Int) (List n6)) (List n6))).bind fun x=>x.go some fun j=>b5E v38 j)) else some (j7.brk Told))
theorem e08(w n told Net1):LQ U8 (c26 w n Net1) (c8B w n told Net1) (fun s=>a34 told s.1 s.2):=fun lc (Told,v38) h=>PK<|rg<|j5 0 h (fun h=>rg<|u0 z5 0 h fun a6V f3R h=>A3 h (d8M w n told Net1 v38 lc) fun x2 h hc2=>rg<|j5 3 h (fun h=>rg<|tk 3 []<|t9 h fun e1 h=>F7 4 18 76 5 40 z5 Told a6V e1<|E5 a6V<|(o9 h hc2 fun hI=>sk [] [4,8,36,37,38] [(1,0),(2,0),(18,0),(3,0)] hI)) (fun h=>(o9 h hc2 fun hI=>sk [] [4,8,36,37,38] [(1,0),(2,0),(4,0),(3,0)] hI))) (fun h=>(lc.bk h fun hI=>sk [] [4,8] [(1,0),(2,0),(4,0),(3,0)] hI))
def c3D(w:m5)(n:j6)(told:List n6)(Net1:List l8):Option m5:=
 ((o8 (fun s:(List n6)×Int=>a34 told s.1 s.2) (w.Told,0)).bind fun x=>x.go (fun r=>some r) fun s=>c4W w n Net1 s)
theorem d8O(w n told)(r):NF U8 r (c3y w n told) (fun s=>c3D w n told s):=fun Net1 h=>PK<|rg<|lp (e08 w n told Net1) h (fun _ h=>U8.rt h) (f03 w n Net1 r) fun hI=>sk [] [4,8,36,37,38] [(1,0),(2,0),(3,0),(0,3)] hI
def d4R(w:m5)(n:j6)(list:List l8)(told:List n6):((List l8)×Int)->KS:=fun (d7,v21)=>⟨U8.k 3 [],(bs 3 (j9 5 z5 told::(.ptr 1 0 0::(bs 3 (.ptr 2 0 0::(bs 10 (j9 13 t6 list::(vi (list.length:Int)::(vi v21::(bs 32 [])))))))))),[some [m6 55 27 x6 (w.a0.set n.Id.toNat n),.dead,m6 73 3 C1 w.d8,m6 76 5 z5 w.Told],some [.var 30 [.own 0 0 27 0 (w.a0.set n.Id.toNat n).length,.own 3 0 13 0 d7.length,.own 0 2 3 0 w.d8.length,.own 0 3 5 0 w.Told.length]],some [.var 30 [.nil,.nil,.nil,.nil]],some [m6 83 13 t6 d7]]⟩
def f1s(w:m5)(n:j6)(list:List l8)(told:List n6)(v21:Int):(List l8)->KS:=fun Net2=>⟨U8.k 7 [true,true],(bs 3 (j9 5 z5 told::(.ptr 1 0 0::(bs 3 (.ptr 3 0 0::(bs 10 (j9 13 t6 list::(vi (list.length:Int)::(vi v21::(bs 32 [])))))))))),[some [m6 55 27 x6 (w.a0.set n.Id.toNat n),.dead,m6 73 3 C1 w.d8,m6 76 5 z5 w.Told],some [.var 30 [.own 0 0 27 0 (w.a0.set n.Id.toNat n).length,.own 2 0 13 0 Net2.length,.own 0 2 3 0 w.d8.length,.own 0 3 5 0 w.Told.length]],some [m6 83 13 t6 Net2],some [.var 30 [.nil,.nil,.nil,.nil]]]⟩
def b8W(v21:Int)(Net2:List l8):Option (j7 m5 ((List l8)×Int) (List l8)):=
 some (j7.nxt (Net2,m7 (v21+1)))
theorem f5s(w n list told v21)(lc:D2 U8 (c3y w n told) (d4R w n list told)):NL lc (f1s w n list told v21) (fun s=>b8W v21 s):=fun Net2 h=>PK<|rg<|(lc.nx h fun hI=>sk [] [3,4,8,19,20,21] [(1,0),(3,0),(2,0)] hI)
def a4e(list:List l8)(d7:List l8)(v21:Int):Option (j7 m5 ((List l8)×Int) (List l8)):=
 (bif decide (v21<(list.length:Int)) then ((idx list v21).bind fun msg=>(((bif decide ((d7.length:Int)<40) then (t5 ((d7.length+1)*152<=140737488355328) (some (l9.brk (d7++[msg])))) else some (l9.brk d7)):Option (l9 (j7 m5 ((List l8)×Int) (List l8)) (List l8))).bind fun x=>x.go some fun j=>b8W v21 j)) else some (j7.brk d7))
theorem f7y(w n list told):LQ U8 (c3y w n told) (d4R w n list told) (fun s=>a4e list s.1 s.2):=fun lc (d7,v21) h=>PK<|rg<|j5 0 h (fun h=>rg<|u0 t6 0 h fun msg hmsg h=>A3 h (f5s w n list told v21 lc) fun x2 h hc2=>rg<|j5 3 h (fun h=>rg<|tk 3 C2<|t9 h fun e2 h=>F7 4 17 83 13 152 t6 d7 msg e2<|E5 msg<|(o9 h hc2 fun hI=>sk [] [3,4,8,19,20,21] [(1,0),(17,0),(2,0)] hI)) (fun h=>(o9 h hc2 fun hI=>sk [] [3,4,8,19,20,21] [(1,0),(3,0),(2,0)] hI))) (fun h=>(lc.bk h fun hI=>sk [] [3,4,8] [(1,0),(3,0),(2,0)] hI))
def a4W(w:m5)(n:j6)(list:List l8)(told:List n6):Option m5:=
 ((idx w.a0 n.Id).bind fun node=>((o8 (fun s:(List l8)×Int=>a4e list s.1 s.2) (w.d7,0)).bind fun x=>x.go (fun r=>some r) fun s=>c3D w n told s))
theorem a95{w n list told}:OK U8 [.agg (a9j w),.agg (x6 n),j9 13 t6 list,j9 5 z5 told] (a4W w n list told):=
 o7 _ fun r h=>n9<|B0 h fun node hnode h=>C0 hnode<|Q6 55 27 x6 6 A8 n hnode<|rg<|lp (f7y w n list told) h (fun _ h=>U8.rt h) (d8O w n told r) fun hI=>om ((.own 0 0 27 0 w.a0.length:V)=.own 0 0 27 0 (w.a0.set n.Id.toNat n).length) (by simp)<|sk [.is (.cell 1 0 0) (.own 0 0 27 0 (w.a0.set n.Id.toNat n).length)] [3,4,8,19,20,21] [(1,0),(3,0),(0,1)] hI
def a9y:FS (Int):=⟨149,Tryz.f149,[.val [] []],[none,none],[.val [] [],.val [] []],fun r=>vi r,fun _=>[none,none],Tryz.func149⟩
def d1t:Unit->KS:=fun _=>⟨a9y.k 4 [false,false],(bs 28 []),[some []]⟩
def d02:Option Int:=
 some (-1)
theorem f7E(r):NF a9y r d1t (fun s=>d02):=fun _ h=>PK<|rg<|fE h
def e5t(who:Int):Int->KS:=fun n=>⟨a9y.k 3 [false],(bs 1 (vi who::(bs 3 (vi n::(bs 22 []))))),[some []]⟩
def a2N(who:Int)(n:Int):Option (j7 Int Int Unit):=
 (bif decide (n<=3000) then (bif decide (n>0) then ((b29 n).bind fun a6o=>(bif (a6o==who) then some (j7.ret n) else some (j7.nxt (m7 (n+1))))) else some (j7.brk ())) else some (j7.brk ()))
theorem e1J(who):LQ a9y d1t (e5t who) (fun s=>a2N who s):=fun lc n h=>PK<|rg<|j5 2 h (fun h=>j5 5 h (fun h=>rg<|l7 c6c d0w 1 h fun a6o h=>j5 3 h (fun h=>rg<|fL lc h) (fun h=>rg<|(lc.nx h fun hI=>sk [] [1,5] [] hI))) (fun h=>(lc.bk h fun hI=>sk [] [] [] hI))) (fun h=>(lc.bk h fun hI=>sk [] [] [] hI))
def c08(bal:Int)(who:Int):Option Int:=
 (bif decide (bal<0) then some (-1) else ((D9 who 0 2).bind fun in_=>(bif (!in_) then some (-1) else ((o8 (fun s:Int=>a2N who s) (m7 (bal+1))).bind fun x=>x.go (fun r=>some r) fun s=>d02))))
theorem e23{bal who}:OK a9y [vi bal,vi who] (c08 bal who):=
 o7 _ fun r h=>n9<|j5 2 h (fun h=>rg<|fE h) (fun h=>l7 D5 F8 4 h fun in_ h=>j5 6 h (fun h=>rg<|fE h) (fun h=>rg<|lp (e1J who) h (fun _ h=>a9y.rt h) (f7E r) fun hI=>sk [] [1,5] [] hI))
def b9h:FS (z0×Bool):=⟨151,Tryz.f151,[.val [none,some 8] [],.val [] []],[none,none],[.val [none,some 8] [],.val [] []],fun r=>.tup [.agg (a0J r.1),.b r.2],fun _=>[none,none],Tryz.func151⟩
def b1u(a:z0)(bal:Int):Option (z0×Bool):=
 ((a96 a).bind fun O2=>(bif (!O2) then some ((z0.mk 0 []),false) else ((a5C a).bind fun R6=>((D9 bal 1 3000).bind fun in_=>(bif (!in_) then some (R6,false) else (bif decide (bal<a.i0) then some (R6,false) else some ((z0.mk bal R6.a7),true)))))))
theorem c5N{a bal}:OK b9h [.agg (a0J a),vi bal] (b1u a bal):=
 o7 _ fun r h=>n9<|l7 a5L c7r 1 h fun O2 h=>j5 2 h (fun h=>rg<|fE h) (fun h=>rg<|l7 a8F b1n 1 h fun R6 h=>rg<|l7 D5 F8 1 h fun in_ h=>j5 3 h (fun h=>rg<|s7 R6.a7<|fE h) (fun h=>j5 8 h (fun h=>rg<|s7 R6.a7<|fE h) (fun h=>n9<|s7 R6.a7<|fE h)))
def b7W:FS (j6×List l8):=⟨95,Tryz.f95,[.val A8 [],.val [some 13] []],[none],[.val A8 []],fun r=>.tup [.agg (x6 r.1),j9 13 t6 r.2],fun _=>[none],Tryz.func95⟩
def e4a:p7->KS:=fun a=>⟨b7W.k 12 [false,true],(bs 2 (.ptr 1 0 0::(bs 1 (.ptr 2 0 0::(bs 74 []))))),[some [],some [.var 55 [vi 0,vi 0,.nil,.nil,vi 0,vi 0,vi 0,.nil,.nil,.b false,vi 0,vi 0,.nil,.nil,vi 0,vi 0,.nil,.b false,.nil,.b false,vi 0,vi 0,.nil,.nil,vi 0,vi 0,.nil]],some [.var 163 (b3Y a)]]++a3g a⟩
def b43(a:p7):Option (j6×List l8):=
 ((a1E a).bind fun X3=>some (X3.1,X3.2.1))
theorem e2O(r):NF b7W r e4a (fun s=>b43 s):=fun a h=>PK<|rg<|l7 a3O a40 1 h fun X3 h=>D1 a<|rg<|fE h
def b9m(n:j6):Option (j6×List l8):=
 ((a3X n).bind fun D7=>(bif (!D7) then some ((j6.mk 0 (z0.mk 0 []) [] 0 0 0 [] [] (m4.mk false (n5.mk 0 0) (n7.mk [] [] 0 0)) [] false [] (m4.mk false (n5.mk 0 0) (n7.mk [] [] 0 0)) []),[]) else ((a74 n).bind fun begin=>((c08 n.Acc.i0 n.Id).bind fun a29=>(((bif decide (a29>=0) then ((b3p begin).bind fun follow=>((b1u follow.n.Acc a29).bind fun W4=>((b4f (p7.mk (j6.mk follow.n.Id W4.1 follow.n.a6 follow.n.Seq 1 a29 follow.n.c9 follow.n.i4 follow.n.c8 follow.n.a7 follow.n.i9 follow.n.i6 follow.n.b8 follow.n.f0) follow.out follow.told)).bind fun G0=>((a3w (p7.mk (j6.mk G0.2.n.Id G0.2.n.Acc G0.2.n.a6 G0.2.n.Seq G0.2.n.d6 G0.2.n.a8 G0.1 G0.2.n.Acc.a7 G0.2.n.c8 G0.2.n.a7 G0.2.n.i9 G0.2.n.i6 G0.2.n.b8 G0.2.n.f0) G0.2.out G0.2.told) (l8.mk 1 0 0 a29 (n.a6.length:Int) (m4.mk false (n5.mk 0 0) (n7.mk [] [] 0 0)) [])).bind fun all=>some (l9.brk all))))) else some (l9.brk begin)):Option (l9 (j6×List l8) p7)).bind fun x=>x.go some fun j=>b43 j)))))
theorem e6o{n}:OK b7W [.agg (x6 n)] (b9m n):=
 o7 _ fun r h=>n9<|l7 a0M a8r 1 h fun D7 h=>j5 2 h (fun h=>rg<|fE h) (fun h=>rg<|l7 b4I b9w 1 h fun begin h=>rg<|l7 a9y e23 5 h fun a29 h=>A3 h (e2O r) fun x1 h hc1=>rg<|j5 1 h (fun h=>rg<|l7 b6d c5w 1 h fun follow h=>J8 begin.n<|C9 begin.out begin.told<|rg<|l7 b9h c5N 7 h fun W4 h=>L8<|l7 c1G d4n 2 h fun G0 h=>D1 follow<|n9<|l7 a1c a6L 6 h fun all h=>H9 G0.2.n.a6 G0.1 G0.2.n.a7 G0.2.out<|s7 G0.2.told<|(o9 h hc1 fun hI=>sk [] [2,4] [(2,0),(8,0),(71,0),(71,1),(71,2),(71,3),(71,4)] hI)) (fun h=>(o9 h hc1 fun hI=>s7 begin.n.f0<|sk [.frz (.cell 8 0 26) (none)] [2,4] [(2,0),(8,0),(8,1),(8,2),(8,3),(8,5),(8,6)] hI)))
def b6o:FS (j6×(List l8)×List n6):=⟨96,Tryz.f96,[.val A8 [],.val [some 13] [],.val [some 5] []],[none],[.val A8 []],fun r=>.tup [.agg (x6 r.1),j9 13 t6 r.2.1,j9 5 z5 r.2.2],fun _=>[none],Tryz.func96⟩
def f6X:p7->KS:=fun a=>⟨b6o.k 7 [false,true],(bs 2 (.ptr 1 0 0::(bs 2 (.ptr 2 0 0::(bs 55 []))))),[some [],some [.var 55 [vi 0,vi 0,.nil,.nil,vi 0,vi 0,vi 0,.nil,.nil,.b false,vi 0,vi 0,.nil,.nil,vi 0,vi 0,.nil,.b false,.nil,.b false,vi 0,vi 0,.nil,.nil,vi 0,vi 0,.nil]],some [.var 163 (b3Y a)]]++a3g a⟩
def b7R(a:p7):Option (j6×(List l8)×List n6):=
 ((a1E a).bind fun X3=>some (X3.1,X3.2.1,X3.2.2.1))
theorem e5W(r):NF b6o r f6X (fun s=>b7R s):=fun a h=>PK<|rg<|l7 a3O a40 1 h fun X3 h=>D1 a<|fE h
def b87(n:j6):Option (j6×(List l8)×List n6):=
 ((a3X n).bind fun D7=>(bif (!D7) then some ((j6.mk 0 (z0.mk 0 []) [] 0 0 0 [] [] (m4.mk false (n5.mk 0 0) (n7.mk [] [] 0 0)) [] false [] (m4.mk false (n5.mk 0 0) (n7.mk [] [] 0 0)) []),[],[]) else ((a74 n).bind fun begin=>((a3w begin (l8.mk 8 0 0 0 (n.a6.length:Int) (m4.mk false (n5.mk 0 0) (n7.mk [] [] 0 0)) [])).bind fun all=>(((bif (n.d6==1) then ((a3w all (l8.mk 1 0 0 n.a8 (n.a6.length:Int) (m4.mk false (n5.mk 0 0) (n7.mk [] [] 0 0)) [])).bind fun c8S=>some (l9.brk c8S)) else (bif (n.d6==2) then ((a7x all).bind fun a0a=>some (l9.brk a0a)) else (bif (n.d6==3) then ((a3w all (l8.mk 3 0 0 n.a8 (n.a6.length:Int) n.c8 [])).bind fun d6R=>some (l9.brk d6R)) else (bif n.i9 then ((a3w all (l8.mk 7 0 0 0 0 n.b8 [])).bind fun c75=>some (l9.brk c75)) else some (l9.brk all))))):Option (l9 (j6×(List l8)×List n6) p7)).bind fun x=>x.go some fun j=>b7R j)))))
theorem e01{n}:OK b6o [.agg (x6 n)] (b87 n):=
 o7 _ fun r h=>n9<|l7 a0M a8r 1 h fun D7 h=>j5 2 h (fun h=>rg<|fE h) (fun h=>rg<|l7 b4I b9w 1 h fun begin h=>n9<|l7 a1c a6L 3 h fun all h=>J8 begin.n<|C9 begin.out begin.told<|A3 h (e5W r) fun x1 h hc1=>rg<|j5 3 h (fun h=>rg<|l7 a1c a6L 5 h fun c8S h=>D1 all<|(o9 h hc1 fun hI=>sk [] [2,5] [(2,0),(9,0),(28,0),(28,1),(28,2),(28,3),(28,4)] hI)) (fun h=>rg<|j5 3 h (fun h=>rg<|l7 b0G b3t 1 h fun a0a h=>D1 all<|(o9 h hc1 fun hI=>sk [] [2,5] [(2,0),(9,0),(28,0),(28,1),(28,2),(28,3),(28,4)] hI)) (fun h=>rg<|j5 3 h (fun h=>rg<|l7 a1c a6L 7 h fun d6R h=>D1 all<|(o9 h hc1 fun hI=>sk [] [2,5] [(2,0),(9,0),(38,0),(38,1),(38,2),(38,3),(38,4)] hI)) (fun h=>rg<|j5 2 h (fun h=>rg<|l7 a1c a6L 4 h fun c75 h=>D1 all<|(o9 h hc1 fun hI=>sk [] [2,5] [(2,0),(9,0),(38,0),(38,1),(38,2),(38,3),(38,4)] hI)) (fun h=>(o9 h hc1 fun hI=>sk [] [2,5] [(2,0),(9,0),(18,0),(18,1),(18,2),(18,3),(18,4)] hI))))))
def d7A:FS (j6):=⟨97,Tryz.f97,[.val A8 []],[none],[.val A8 []],fun r=>.agg (x6 r),fun _=>[none],Tryz.func97⟩
def b6v(n:j6):Option j6:=
 ((a3X n).bind fun D7=>(bif (!D7) then some (j6.mk 0 (z0.mk 0 []) [] 0 0 0 [] [] (m4.mk false (n5.mk 0 0) (n7.mk [] [] 0 0)) [] false [] (m4.mk false (n5.mk 0 0) (n7.mk [] [] 0 0)) []) else ((a80 (j6.mk n.Id n.Acc n.a6 n.Seq 0 0 [] [] (m4.mk false (n5.mk 0 0) (n7.mk [] [] 0 0)) [] false [] (m4.mk false (n5.mk 0 0) (n7.mk [] [] 0 0)) [])).bind fun Y0=>some Y0)))
theorem e9o{n}:OK d7A [.agg (x6 n)] (b6v n):=
 o7 _ fun r h=>n9<|l7 a0M a8r 1 h fun D7 h=>j5 2 h (fun h=>rg<|fE h) (fun h=>rg<|l7 b3x c0g 9 h fun Y0 h=>J8 Y0<|fE h)
def a7G:FS (m5):=⟨47,Tryz.f47,[.val C5 om6],[none,none],[.val C5 om6,.val [none,none,some 4] []],fun r=>.agg (a9j r),fun _=>[none,none],Tryz.func47⟩
def e84:m5->KS:=fun w1=>⟨a7G.k 9 [true,false,true],(bs 2 (.ptr 1 0 0::(bs 1 (.ptr 6 0 0::(bs 86 []))))),[some [.dead,.dead,.dead,.dead],some [.var 30 [.own 2 0 27 0 w1.a0.length,.own 3 0 13 0 w1.d7.length,.own 4 0 3 0 w1.d8.length,.own 5 0 5 0 w1.Told.length]],some [m6 55 27 x6 w1.a0],some [m6 83 13 t6 w1.d7],some [m6 73 3 C1 w1.d8],some [m6 76 5 z5 w1.Told],some [.var 30 [.nil,.nil,.nil,.nil]]]⟩
def b8u(w1:m5):Option m5:=
 some w1
theorem f6I(r):NF a7G r e84 (fun s=>b8u s):=fun w1 h=>PK<|rg<|B4 w1<|fE h
def a6P(w:m5)(e_:s6):Option m5:=
 ((idx w.a0 e_.A).bind fun node=>(((bif (e_.a9==1) then (bif decide ((w.d8.length:Int)>=60) then some (l9.ret w) else ((b6K node e_.i6).bind fun J0=>((a4W w J0.1 J0.2.1 J0.2.2).bind fun a3f=>(bif (J0.1.Seq != node.Seq) then (t5 ((a3f.d8.length+1)*40<=140737488355328) (some (l9.brk (m5.mk a3f.a0 a3f.d7 (a3f.d8++[(x8.mk (n5.mk node.Id J0.1.Seq) e_.i6)]) a3f.Told)))) else some (l9.brk a3f))))) else (bif (e_.a9==5) then ((b9m node).bind fun a0L=>((a4W w a0L.1 a0L.2 []).bind fun b3V=>some (l9.brk b3V))) else (bif (e_.a9==6) then ((b87 node).bind fun Z5=>((a4W w Z5.1 Z5.2.1 Z5.2.2).bind fun d22=>some (l9.brk d22))) else (bif (e_.a9==7) then ((b6v node).bind fun a16=>((a4W w a16 [] []).bind fun d0c=>some (l9.brk d0c))) else some (l9.brk w))))):Option (l9 m5 m5)).bind fun x=>x.go some fun j=>b8u j))
theorem c0X{w e_}:OK a7G [.agg (a9j w),.agg (J5 e_)] (a6P w e_):=
 o7 _ fun r h=>n9<|B0 h fun node hnode h=>C0 hnode<|I4 x6 5 hnode<|rg<|A3 h (f6I r) fun x1 h hc1=>rg<|j5 1 h (fun h=>rg<|j5 3 h (fun h=>rg<|(B2 h hc1 fun h=>B4 w<|fE h)) (fun h=>rg<|l7 b98 e3E 3 h fun J0 h=>rg<|l7 U8 a95 4 h fun a3f h=>B4 w<|rg<|j5 4 h (fun h=>rg<|tk 10 [none,none,some 4]<|t9 h fun e1 h=>F7 11 54 73 3 40 C1 a3f.d8 (x8.mk (n5.mk node.Id J0.1.Seq) e_.i6) e1<|E5 (x8.mk (n5.mk node.Id J0.1.Seq) e_.i6)<|(o9 h hc1 fun hI=>sk [] [2,4] [(1,0),(36,0),(36,1),(54,0),(36,3),(3,0)] hI)) (fun h=>(o9 h hc1 fun hI=>sk [] [2,4] [(1,0),(36,0),(36,1),(36,2),(36,3),(3,0)] hI)))) (fun h=>rg<|j5 1 h (fun h=>rg<|l7 b7W e6o 1 h fun a0L h=>rg<|l7 U8 a95 3 h fun b3V h=>B4 w<|(o9 h hc1 fun hI=>sk [] [2,4] [(1,0),(29,0),(29,1),(29,2),(29,3),(3,0)] hI)) (fun h=>rg<|j5 1 h (fun h=>rg<|l7 b6o e01 1 h fun Z5 h=>rg<|l7 U8 a95 4 h fun d22 h=>B4 w<|(o9 h hc1 fun hI=>sk [] [2,4] [(1,0),(34,0),(34,1),(34,2),(34,3),(3,0)] hI)) (fun h=>rg<|j5 1 h (fun h=>rg<|l7 d7A e9o 2 h fun a16 h=>l7 U8 a95 3 h fun d0c h=>B4 w<|(o9 h hc1 fun hI=>sk [] [2,4] [(1,0),(25,0),(25,1),(25,2),(25,3),(3,0)] hI)) (fun h=>(o9 h hc1 fun hI=>sk [] [2,4] [(1,0),(0,0),(0,1),(0,2),(0,3),(3,0)] hI)))))
def c2Z:FS (List l8):=⟨98,Tryz.f98,[.val [some 13] [some 83]],[none,none],[.val [some 13] [],.val [] []],fun r=>v6 83 13 t6 r,fun _=>[none,none],Tryz.func98⟩
def b3b(list:List l8)(at_:Int):Option (List l8):=
 (t5 ((0:Int)<=at_/\at_<=(list.length:Int)) ((t5 ((([]:List l8).length+((list.drop 0).take (at_.toNat-0)).length)*152<=140737488355328) ((t5 ((0:Int)<=m7 (at_+1)/\m7 (at_+1)<=(list.length:Int)) ((t5 (((([]:List l8)++((list.drop 0).take (at_.toNat-0))).length+((list.drop (m7 (at_+1)).toNat).take (list.length-(m7 (at_+1)).toNat)).length)*152<=140737488355328) (some ((([]:List l8)++((list.drop 0).take (at_.toNat-0)))++((list.drop (m7 (at_+1)).toNat).take (list.length-(m7 (at_+1)).toNat)))))))))))
theorem d3V{list at_}:OK c2Z [j9 13 t6 list,vi at_] (b3b list at_):=
 o7 _ fun r h=>n9<|tk 0 C2<|t9 h fun e1 h=>om (V.sl 13 (at_.toNat-0) (((list.map t6).drop 0).take (at_.toNat-0))=j9 13 t6 ((list.drop 0).take (at_.toNat-0))) (b9f e1)<|ob e1.1<|ob e1.2<|tl (3,{v:=some (j9 13 t6 ((list.drop 0).take (at_.toNat-0)))})<|t9 h fun e2 h=>om (V.own 6 0 13 0 (([]:List l8).length+((list.drop 0).take (at_.toNat-0)).length)=.own 6 0 13 0 (([]:List l8)++((list.drop 0).take (at_.toNat-0))).length) (by first|exact congrArg (V.own 6 0 13 0) f8M.symm|simp)<|om (s9.row 83 13 (([]:List l8).length+((list.drop 0).take (at_.toNat-0)).length) (([]:List l8).map t6++((list.drop 0).take (at_.toNat-0)).map t6)=m6 83 13 t6 (([]:List l8)++((list.drop 0).take (at_.toNat-0)))) (by first|exact c40 rfl rfl|simp [m6])<|A9 l8<|ob e2<|tl (4,{v:=some (.own 6 0 13 0 (([]:List l8)++((list.drop 0).take (at_.toNat-0))).length),e:=some (m6 83 13 t6 (([]:List l8)++((list.drop 0).take (at_.toNat-0))))})<|t9 h fun e3 h=>om (V.sl 13 (list.length-(m7 (at_+1)).toNat) (((list.map t6).drop (m7 (at_+1)).toNat).take (list.length-(m7 (at_+1)).toNat))=j9 13 t6 ((list.drop (m7 (at_+1)).toNat).take (list.length-(m7 (at_+1)).toNat))) (b5m e3)<|ob e3.1<|ob e3.2<|tl (8,{v:=some (j9 13 t6 ((list.drop (m7 (at_+1)).toNat).take (list.length-(m7 (at_+1)).toNat)))})<|t9 h fun e4 h=>apL 9 11 83 13 152 t6 (([]:List l8)++((list.drop 0).take (at_.toNat-0))) ((list.drop (m7 (at_+1)).toNat).take (list.length-(m7 (at_+1)).toNat)) e4<|s7 ((([]:List l8)++((list.drop 0).take (at_.toNat-0)))++((list.drop (m7 (at_+1)).toNat).take (list.length-(m7 (at_+1)).toNat)))<|fE h
def b6T:FS (p7):=⟨158,Tryz.f158,[],[some (0,.ptr J4 N0),none],[.ptr J4 N0,.val [] []],fun _=>.tup [],fun r=>[some (.optr 163 (N1 r)),none],Tryz.func158⟩
def b1A(a:p7)(bal:Int):Option p7:=
 (bif (a.n.d6 != 0) then (bif decide (bal>a.n.a8) then ((b3p a).bind fun follow=>some follow) else some a) else some a)
theorem c6h{a bal}:OK b6T [.optr 163 (N1 a),vi bal] (b1A a bal):=
 o7 _ fun r h=>rg<|j5 6 h (fun h=>j5 14 h (fun h=>rg<|l7 b6d c5w 1 h fun follow h=>D1 a<|D1 follow<|fE h) (fun h=>D1 a<|fE h)) (fun h=>D1 a<|fE h)
def b9s:FS (p7):=⟨153,Tryz.f153,[],[some (0,.ptr J4 N0),none],[.ptr J4 N0,.val C2 []],fun _=>.tup [],fun r=>[some (.optr 163 (N1 r)),none],Tryz.func153⟩
def e9P(m:l8)(yield:p7):(List m8)->KS:=fun b7b=>⟨b9s.k 8 [false,true],(.ptr 0 0 0::(bs 2 (.ptr 6 0 0::(bs 2 (j9 8 q8 b7b::(bs 54 [])))))),[some [.var 163 (b1V yield),.dead,.dead,.dead,.dead,.dead]]++a3g yield++[some [.var 83 (a5x m)]]⟩
def b6t(m:l8)(yield:p7)(b7b:List m8):Option p7:=
 ((a4h yield m.c9 (l8.mk 2 0 0 m.a8 m.g8 (m4.mk false (n5.mk 0 0) (n7.mk [] [] 0 0)) b7b)).bind fun a7M=>some a7M)
theorem f0H(m yield)(r):NF b9s r (e9P m yield) (fun s=>b6t m yield s):=fun b7b h=>PK<|rg<|l7 a67 a76 9 h fun a7M h=>D1 yield<|D1 a7M<|fE h
def b8U(a:p7)(m:l8):Option p7:=
 ((b1u a.n.Acc m.a8).bind fun W4=>(bif (!W4.2) then ((a4h a m.c9 (l8.mk 6 0 0 a.n.Acc.i0 0 (m4.mk false (n5.mk 0 0) (n7.mk [] [] 0 0)) [])).bind fun Z0=>some Z0) else ((b1A (p7.mk (j6.mk a.n.Id W4.1 a.n.a6 a.n.Seq a.n.d6 a.n.a8 a.n.c9 a.n.i4 a.n.c8 a.n.a7 a.n.i9 a.n.i6 a.n.b8 a.n.f0) a.out a.told) m.a8).bind fun yield=>(((bif decide (m.g8<(W4.1.a7.length:Int)) then (t5 ((0:Int)<=m.g8/\m.g8<=(W4.1.a7.length:Int)) (some (l9.brk ((W4.1.a7.drop m.g8.toNat).take (W4.1.a7.length-m.g8.toNat))))) else some (l9.brk [])):Option (l9 p7 (List m8))).bind fun x=>x.go some fun j=>b6t m yield j))))
theorem f4k{a m}:OK b9s [.optr 163 (N1 a),.agg (t6 m)] (b8U a m):=
 o7 _ fun r h=>n9<|l7 b9h c5N 7 h fun W4 h=>rg<|j5 1 h (fun h=>rg<|l7 a67 a76 10 h fun Z0 h=>D1 a<|D1 Z0<|fE h) (fun h=>n9<|l7 b6T c6h 3 h fun yield h=>D1 a<|rg<|A3 h (f0H m yield r) fun x1 h hc1=>rg<|j5 5 h (fun h=>rg<|t9 h fun e1 h=>om (V.sl 8 (W4.1.a7.length-m.g8.toNat) (((W4.1.a7.map q8).drop m.g8.toNat).take (W4.1.a7.length-m.g8.toNat))=j9 8 q8 ((W4.1.a7.drop m.g8.toNat).take (W4.1.a7.length-m.g8.toNat))) (b5m e1)<|ob e1.1<|ob e1.2<|tl (4,{v:=some (j9 8 q8 ((W4.1.a7.drop m.g8.toNat).take (W4.1.a7.length-m.g8.toNat)))})<|(o9 h hc1 fun hI=>sk [] [0,3,6] [(27,0),(27,1),(27,2),(27,3),(27,4),(1,0)] hI)) (fun h=>(o9 h hc1 fun hI=>sk [.frz (.tmp 6) (some 8)] [0,3,6] [(27,0),(27,1),(27,2),(27,3),(27,4),(1,0)] hI)))
def a3s:FS (List m8):=⟨198,Tryz.f198,[.val [some 8] []],[none,none],[.val [some 8] [],.val [some 8] []],fun r=>j9 8 q8 r,fun _=>[none,none],Tryz.func198⟩
def b5B:(List m8)->KS:=fun out1=>⟨a3s.k 5 [false,false],(bs 5 (.own 1 0 8 0 out1.length::(bs 67 []))),[some [],some [m6 89 8 q8 out1]]⟩
def c4l(out1:List m8):Option (List m8):=
 ((a9s out1).bind fun a0F=>some a0F)
theorem e6h(r):NF a3s r b5B (fun s=>c4l s):=fun out1 h=>PK<|rg<|l7 a3J b9V 1 h fun a0F h=>C9 out1 a0F<|fE h
def c4G(a:List m8)(b:List m8):((List m8)×Int)->KS:=fun (out,i)=>⟨a3s.k 4 [false],(j9 8 q8 a::(j9 8 q8 b::(bs 3 (.own 1 0 8 0 out.length::(vi i::(bs 66 [])))))),[some [],some [m6 89 8 q8 out]]⟩
def f4N(a:List m8)(b:List m8)(out:List m8)(i:Int):Unit->KS:=fun _=>⟨a3s.k 5 [false,true],(j9 8 q8 a::(j9 8 q8 b::(bs 3 (.own 1 0 8 0 out.length::(vi i::(bs 66 [])))))),[some [],some [m6 89 8 q8 out]]⟩
def e5w(a:List m8)(b:List m8)(i:Int):(List m8)->KS:=fun out2=>⟨a3s.k 7 [false,true,true],(j9 8 q8 a::(j9 8 q8 b::(bs 3 (.own 1 0 8 0 out2.length::(vi i::(bs 66 [])))))),[some [],some [m6 89 8 q8 out2]]⟩
def c5A(i:Int)(out2:List m8):Option (j7 (List m8) ((List m8)×Int) (List m8)):=
 some (j7.nxt (out2,m7 (i+1)))
theorem f8o(a b i)(lc:D2 a3s b5B (c4G a b)):NL lc (e5w a b i) (fun s=>c5A i s):=fun out2 h=>PK<|rg<|(lc.nx h fun hI=>sk [] [0,1,5,6] [(1,0)] hI)
def b9g(a:List m8)(b:List m8)(out:List m8)(i:Int):Option (j7 (List m8) ((List m8)×Int) (List m8)):=
 (((bif decide (i>=(a.length:Int)) then ((idx b i).bind fun vote=>(t5 ((out.length+1)*96<=140737488355328) (some (l9.brk (out++[vote]))))) else (bif decide (i>=(b.length:Int)) then ((idx a i).bind fun T2=>(t5 ((out.length+1)*96<=140737488355328) (some (l9.brk (out++[T2]))))) else ((idx a i).bind fun b4X=>((idx b i).bind fun b24=>(bif decide (b4X.a8>=b24.a8) then (t5 ((out.length+1)*96<=140737488355328) (some (l9.brk (out++[b4X])))) else (t5 ((out.length+1)*96<=140737488355328) (some (l9.brk (out++[b24]))))))))):Option (l9 (j7 (List m8) ((List m8)×Int) (List m8)) (List m8))).bind fun x=>x.go some fun j=>c5A i j)
theorem f2a(a b out i)(lc:D2 a3s b5B (c4G a b)):NL lc (f4N a b out i) (fun s=>b9g a b out i):=fun _ h=>PK<|A3 h (f8o a b i lc) fun x2 h hc2=>rg<|j5 4 h (fun h=>rg<|u0 q8 3 h fun vote K1 h=>tk 5 U9<|t9 h fun e1 h=>F7 6 13 89 8 96 q8 out vote e1<|E5 vote<|(o9 h hc2 fun hI=>sk [] [0,1,5,6] [(13,0)] hI)) (fun h=>rg<|j5 4 h (fun h=>rg<|u0 q8 3 h fun T2 a3Q h=>tk 5 U9<|t9 h fun e2 h=>F7 6 31 89 8 96 q8 out T2 e2<|E5 T2<|(o9 h hc2 fun hI=>sk [] [0,1,5,6] [(31,0)] hI)) (fun h=>u0 q8 7 h fun b4X f1R h=>u0 q8 12 h fun b24 f0o h=>j5 17 h (fun h=>rg<|I3 q8 3 f1R<|tk 5 U9<|t9 h fun e3 h=>F7 6 31 89 8 96 q8 out b4X e3<|E5 b4X<|(o9 h hc2 fun hI=>sk [] [0,1,5,6] [(31,0)] hI)) (fun h=>rg<|I3 q8 3 f0o<|tk 5 U9<|t9 h fun e4 h=>F7 6 31 89 8 96 q8 out b24 e4<|E5 b24<|(o9 h hc2 fun hI=>sk [] [0,1,5,6] [(31,0)] hI))))
def a5Q(a:List m8)(b:List m8)(out:List m8)(i:Int):Option (j7 (List m8) ((List m8)×Int) (List m8)):=
 (((bif decide (i<(a.length:Int)) then some (l9.brk ()) else (bif decide (i<(b.length:Int)) then some (l9.brk ()) else some (l9.ret (j7.brk out)))):Option (l9 (j7 (List m8) ((List m8)×Int) (List m8)) Unit)).bind fun x=>x.go some fun j=>b9g a b out i)
theorem f7Q(a b):LQ a3s b5B (c4G a b) (fun s=>a5Q a b s.1 s.2):=fun lc (out,i) h=>PK<|A3 h (f2a a b out i lc) fun x2 h hc2=>rg<|j5 4 h (fun h=>(o9 h hc2 fun hI=>sk [] [0,1,5,6] [(1,0)] hI)) (fun h=>j5 9 h (fun h=>(o9 h hc2 fun hI=>sk [] [0,1,5,6] [(1,0)] hI)) (fun h=>(B2 h hc2 fun h=>(lc.bk h fun hI=>sk [] [5] [(1,0)] hI))))
def b7X(a:List m8)(b:List m8):Option (List m8):=
 ((a6T a).bind fun L1=>(bif (!L1) then some [] else ((a6T b).bind fun d6n=>(bif (!d6n) then some [] else ((o8 (fun s:(List m8)×Int=>a5Q a b s.1 s.2) ([],0)).bind fun x=>x.go (fun r=>some r) fun s=>c4l s)))))
theorem f4t{a b}:OK a3s [j9 8 q8 a,j9 8 q8 b] (b7X a b):=
 o7 _ fun r h=>n9<|l7 a3r b4W 1 h fun L1 h=>j5 3 h (fun h=>rg<|fE h) (fun h=>l7 a3r b4W 5 h fun d6n h=>j5 7 h (fun h=>rg<|fE h) (fun h=>n9<|lp (f7Q a b) h (fun _ h=>a3s.rt h) (e6h r) fun hI=>sk [.own (.tmp 5) 89 8] [0,1,5,6] [(12,0)] hI))
def a4C:FS (Int):=⟨199,Tryz.f199,[.val [] []],[none],[.val [some 1] []],fun r=>vi r,fun _=>[none],Tryz.func199⟩
def c4k:Int->KS:=fun n1=>⟨a4C.k 4 [false],(bs 3 (vi n1::(bs 13 []))),[some []]⟩
def d66(n1:Int):Option Int:=
 some n1
theorem e54(r):NF a4C r c4k (fun s=>d66 s):=fun n1 h=>PK<|rg<|fE h
def d8i(list:List Bool):(Int×Int)->KS:=fun (n,v8)=>⟨a4C.k 3 [],(bs 3 (vi n::(bs 2 (j9 1 eB list::(vi (list.length:Int)::(vi v8::(bs 8 []))))))),[some []]⟩
def e3M(list:List Bool)(v8:Int):Int->KS:=fun n2=>⟨a4C.k 7 [true,true],(bs 3 (vi n2::(bs 2 (j9 1 eB list::(vi (list.length:Int)::(vi v8::(bs 8 []))))))),[some []]⟩
def c43(v8:Int)(n2:Int):Option (j7 Int (Int×Int) Int):=
 some (j7.nxt (n2,m7 (v8+1)))
theorem d9f(list v8)(lc:D2 a4C c4k (d8i list)):NL lc (e3M list v8) (fun s=>c43 v8 s):=fun n2 h=>PK<|rg<|(lc.nx h fun hI=>sk [] [3,6,7,8] [] hI)
def a5o(list:List Bool)(n:Int)(v8:Int):Option (j7 Int (Int×Int) Int):=
 (bif decide (v8<(list.length:Int)) then ((idx list v8).bind fun y=>(((bif y then some (l9.brk (m7 (n+1))) else some (l9.brk n)):Option (l9 (j7 Int (Int×Int) Int) Int)).bind fun x=>x.go some fun j=>c43 v8 j)) else some (j7.brk n))
theorem f4i(list):LQ a4C c4k (d8i list) (fun s=>a5o list s.1 s.2):=fun lc (n,v8) h=>PK<|rg<|j5 0 h (fun h=>rg<|u0 eB 0 h fun y hy h=>A3 h (d9f list v8 lc) fun x2 h hc2=>rg<|j5 0 h (fun h=>rg<|(o9 h hc2 fun hI=>sk [] [3,6,7,8] [] hI)) (fun h=>(o9 h hc2 fun hI=>sk [] [3,6,7,8] [] hI))) (fun h=>(lc.bk h fun hI=>sk [] [3] [] hI))
def b3d(list:List Bool):Option Int:=
 ((o8 (fun s:Int×Int=>a5o list s.1 s.2) (0,0)).bind fun x=>x.go (fun r=>some r) fun s=>d66 s)
theorem d3Z{list}:OK a4C [j9 1 eB list] (b3d list):=
 o7 _ fun r h=>L8<|lp (f4i list) h (fun _ h=>a4C.rt h) (e54 r) fun hI=>sk [] [3,6,7,8] [] hI
def d0F:FS (p7):=⟨154,Tryz.f154,[],[some (0,.ptr J4 N0),none],[.ptr J4 N0,.val C2 []],fun _=>.tup [],fun r=>[some (.optr 163 (N1 r)),none],Tryz.func154⟩
def b6R(a:p7)(m:l8):Option p7:=
 (bif (a.n.d6 != 1) then some a else (bif (m.a8 != a.n.a8) then some a else ((idx a.n.c9 m.c9).bind fun y=>(t5 (0<=m.g8/\m.g8*96<=140737488355328) ((t5 (((f8A m.g8.toNat (m8.mk 0 (m4.mk false (n5.mk 0 0) (n7.mk [] [] 0 0)))).length+m.a7.length)*96<=140737488355328) (((b7X a.n.i4 ((f8A m.g8.toNat (m8.mk 0 (m4.mk false (n5.mk 0 0) (n7.mk [] [] 0 0))))++m.a7)).bind fun c1r=>((b3d (a.n.c9.set m.c9.toNat true)).bind fun b2f=>(bif decide (b2f>=2) then ((a7x (p7.mk (j6.mk a.n.Id a.n.Acc a.n.a6 a.n.Seq 2 a.n.a8 [] c1r a.n.c8 a.n.a7 a.n.i9 a.n.i6 a.n.b8 a.n.f0) a.out a.told)).bind fun a0a=>some a0a) else some (p7.mk (j6.mk a.n.Id a.n.Acc a.n.a6 a.n.Seq a.n.d6 a.n.a8 (a.n.c9.set m.c9.toNat true) c1r a.n.c8 a.n.a7 a.n.i9 a.n.i6 a.n.b8 a.n.f0) a.out a.told)))))))))))
theorem e4E{a m}:OK d0F [.optr 163 (N1 a),.agg (t6 m)] (b6R a m):=
 o7 _ fun r h=>n9<|j5 6 h (fun h=>D1 a<|fE h) (fun h=>j5 15 h (fun h=>D1 a<|fE h) (fun h=>rg<|B0 h fun y hy h=>C0 hy<|Q6 4 1 eB 8 [] true hy<|rg<|t9 h fun e1 h=>T1 8 35 89 8 96 q8 (m8.mk 0 (m4.mk false (n5.mk 0 0) (n7.mk [] [] 0 0))) b2k (.ck U9) e1 (by decide) (by rfl)<|t9 h fun e2 h=>apL 11 38 89 8 96 q8 (f8A m.g8.toNat (m8.mk 0 (m4.mk false (n5.mk 0 0) (n7.mk [] [] 0 0)))) m.a7 e2<|l7 a3s f4t 12 h fun c1r h=>s7 ((f8A m.g8.toNat (m8.mk 0 (m4.mk false (n5.mk 0 0) (n7.mk [] [] 0 0))))++m.a7)<|rg<|R4 a4C d3Z 5 1 h fun b2f h=>om (a.n.c9.length=(a.n.c9.set m.c9.toNat true).length) (by simp)<|j5 6 h (fun h=>L8<|l7 b0G b3t 1 h fun a0a h=>H9 a.n.a6 a.n.a7 a.out a.told<|D1 a0a<|fE h) (fun h=>s7 a.n.a6<|om (a.n.c9.length=(a.n.c9.set m.c9.toNat true).length) (by simp)<|Y3 a.n.a7 a.out a.told<|fE h)))
def d6a:FS (p7):=⟨155,Tryz.f155,[],[some (0,.ptr J4 N0),none],[.ptr J4 N0,.val C2 []],fun _=>.tup [],fun r=>[some (.optr 163 (N1 r)),none],Tryz.func155⟩
def b9X(a:p7)(m:l8):Option p7:=
 ((b5j a.n.Acc m.a8 m.g8 m.g9).bind fun a7y=>(bif (!a7y.2) then ((a4h a m.c9 (l8.mk 6 0 0 a.n.Acc.i0 0 (m4.mk false (n5.mk 0 0) (n7.mk [] [] 0 0)) [])).bind fun Z0=>some Z0) else ((b1A (p7.mk (j6.mk a.n.Id a7y.1 a.n.a6 a.n.Seq a.n.d6 a.n.a8 a.n.c9 a.n.i4 a.n.c8 a.n.a7 a.n.i9 a.n.i6 a.n.b8 a.n.f0) a.out a.told) m.a8).bind fun yield=>((a4h yield m.c9 (l8.mk 4 0 0 m.a8 m.g8 (m4.mk false (n5.mk 0 0) (n7.mk [] [] 0 0)) [])).bind fun a7M=>some a7M))))
theorem e2g{a m}:OK d6a [.optr 163 (N1 a),.agg (t6 m)] (b9X a m):=
 o7 _ fun r h=>n9<|l7 a6y d1J 11 h fun a7y h=>rg<|j5 1 h (fun h=>rg<|l7 a67 a76 10 h fun Z0 h=>D1 a<|D1 Z0<|fE h) (fun h=>n9<|l7 b6T c6h 3 h fun yield h=>D1 a<|rg<|l7 a67 a76 8 h fun a7M h=>D1 yield<|D1 a7M<|fE h)
def a2B:FS (p7):=⟨200,Tryz.f200,[],[some (0,.ptr J4 N0),none],[.ptr J4 N0,.val J3 []],fun _=>.tup [],fun r=>[some (.optr 163 (N1 r)),none],Tryz.func200⟩
def f0O:p7->KS:=fun a1=>⟨a2B.k 6 [true],(.ptr 0 0 0::(bs 123 [])),[some ([.var 163 (c7C a1),.dead,m6 4 1 eB a1.n.c9,.dead]++d7F a1)]++d38 a1⟩
def d6e:p7->KS:=fun a2=>⟨a2B.k 16 [true,true,true],(.ptr 0 0 0::(bs 123 [])),[some [.var 163 (e2w a2),.dead,m6 4 1 eB a2.n.c9,.dead,m6 83 13 t6 a2.out,.dead]]++d9H a2⟩
def b60(a2:p7):Option p7:=
 ((a7x a2).bind fun a0a=>some a0a)
theorem e3Q(r):NF a2B r d6e (fun s=>b60 s):=fun a2 h=>PK<|rg<|l7 b0G b3t 1 h fun a0a h=>D1 a2<|D1 a0a<|fE h
def f0M(a1:p7)(y:Int):Int->KS:=fun a97=>⟨a2B.k 12 [true,true,true],(.ptr 0 0 0::(bs 6 (.ptr 3 0 0::(bs 116 [])))),[some ([.var 163 (c7C a1),.dead,m6 4 1 eB a1.n.c9,.dead]++d7F a1)]++d38 a1++[some [.var 76 [vi a1.n.Id,vi a1.n.b8.a5.b9,vi a1.n.b8.a5.Seq,vi y,vi a97]]]⟩
def b6Y(a1:p7)(y:Int)(a97:Int):Option (l9 p7 p7):=
 (t5 ((a1.told.length+1)*40<=140737488355328) (some (l9.brk (p7.mk (j6.mk a1.n.Id a1.n.Acc a1.n.a6 a1.n.Seq a1.n.d6 a1.n.a8 a1.n.c9 a1.n.i4 a1.n.c8 a1.n.a7 false [] (m4.mk false (n5.mk 0 0) (n7.mk [] [] 0 0)) a1.n.f0) a1.out (a1.told++[(n6.mk a1.n.Id a1.n.b8.a5 y a97)])))))
theorem f3Y(a1 y)(r){x1}(hc1:JC (fun j=>FK cx a2B.X (a2B.R r) (a2B.O r) (d6e j)) r x1):NG a2B r (f0M a1 y) (fun s=>b6Y a1 y s) x1:=fun a97 h=>PK<|rg<|tk 6 []<|t9 h fun e2 h=>F7 7 11 76 5 40 z5 a1.told (n6.mk a1.n.Id a1.n.b8.a5 y a97) e2<|E5 (n6.mk a1.n.Id a1.n.b8.a5 y a97)<|L8<|(o9 h hc1 fun hI=>sk [.frz (.cell 0 0 18) (some 4),.frz (.cell 0 0 22) (some 2),.frz (.cell 0 0 23) (some 2)] [0] [(1,0),(2,0),(11,0)] hI)
def b7L(a1:p7):Option p7:=
 ((a5U a1.n.a6 a1.n.b8.a5).bind fun first=>(((bif a1.n.i9 then (bif decide (first>=0) then ((a72 a1.n.a6).bind fun p6=>((idx p6.2 first).bind fun y=>(((bif (y==0) then ((idx a1.n.a6 first).bind fun entry=>some (l9.brk entry.b6.d9)) else some (l9.brk 0)):Option (l9 (l9 p7 p7) Int)).bind fun x=>x.go some fun j=>b6Y a1 y j))) else some (l9.brk a1)) else some (l9.brk a1)):Option (l9 p7 p7)).bind fun x=>x.go some fun j=>b60 j))
theorem e9v(r):NF a2B r f0O (fun s=>b7L s):=fun a1 h=>PK<|rg<|R4 a1F b5d 11 2 h fun first h=>s7 a1.n.a6<|A3 h (e3Q r) fun x1 h hc1=>rg<|j5 5 h (fun h=>j5 8 h (fun h=>rg<|cbS a2V b9F 5 (fun _=>(by simp [a2V,L0,R0,O4,V.simple,vi,v6,b3J,x7,B5,eI,F6,a82])) (fun _=>(Q9 1)) h fun p6 h=>s7 a1.n.a6<|rg<|B0 h fun y hy h=>C0 hy<|I4 eI 14 hy<|A3 h (f3Y a1 y r hc1) fun x2 h hc2=>rg<|j5 2 h (fun h=>rg<|B0 h fun entry F3 h=>C0 F3<|I4 s5 9 F3<|(o9 h hc2 fun hI=>sk [] [0,7] [(1,0),(2,0),(53,0)] hI)) (fun h=>(o9 h hc2 fun hI=>sk [] [0,7] [(1,0),(2,0),(53,0)] hI))) (fun h=>(o9 h hc1 fun hI=>sk [] [0] [(1,0),(2,0),(0,5)] hI))) (fun h=>(o9 h hc1 fun hI=>sk [] [0] [(1,0),(2,0),(0,5)] hI))
def b3v(a:p7)(e_:m4):Option p7:=
 (t5 ((a.n.a6.length+1)*88<=140737488355328) ((((bif (a.n.d6==3) then some (l9.brk (p7.mk (j6.mk a.n.Id a.n.Acc (a.n.a6++[e_]) a.n.Seq 2 a.n.a8 a.n.c9 a.n.i4 (m4.mk false (n5.mk 0 0) (n7.mk [] [] 0 0)) [] a.n.i9 a.n.i6 a.n.b8 a.n.f0) a.out a.told)) else some (l9.brk (p7.mk (j6.mk a.n.Id a.n.Acc (a.n.a6++[e_]) a.n.Seq a.n.d6 a.n.a8 a.n.c9 a.n.i4 a.n.c8 a.n.a7 a.n.i9 a.n.i6 a.n.b8 a.n.f0) a.out a.told))):Option (l9 p7 p7)).bind fun x=>x.go some fun j=>b7L j)))
theorem d0h{a e_}:OK a2B [.optr 163 (N1 a),.agg (s5 e_)] (b3v a e_):=
 o7 _ fun r h=>n9<|tk 7 J3<|t9 h fun e1 h=>F7 8 10 53 7 88 s5 a.n.a6 e_ e1<|E5 e_<|A3 h (e9v r) fun x1 h hc1=>rg<|j5 5 h (fun h=>L8<|(o9 h hc1 fun hI=>sk [.frz (.cell 0 0 12) (some 2),.frz (.cell 0 0 13) (some 2),.own (.cell 0 0 16) 4 1,.kill 0 3] [0] [(10,0),(37,0)] hI)) (fun h=>(o9 h hc1 fun hI=>sk [] [0] [(10,0),(0,3)] hI))
def c81:FS (p7):=⟨156,Tryz.f156,[],[some (0,.ptr J4 N0),none],[.ptr J4 N0,.val C2 []],fun _=>.tup [],fun r=>[some (.optr 163 (N1 r)),none],Tryz.func156⟩
def b8e(a:p7)(m:l8):Option p7:=
 (bif (a.n.d6 != 3) then some a else (bif (m.a8 != a.n.a8) then some a else (bif (m.g8 != (a.n.a6.length:Int)) then some a else ((idx a.n.a7 m.c9).bind fun y=>((b3d (a.n.a7.set m.c9.toNat true)).bind fun b2f=>(bif decide (b2f>=2) then ((a3w (p7.mk (j6.mk a.n.Id a.n.Acc a.n.a6 a.n.Seq a.n.d6 a.n.a8 a.n.c9 a.n.i4 a.n.c8 (a.n.a7.set m.c9.toNat true) a.n.i9 a.n.i6 a.n.b8 a.n.f0) a.out a.told) (l8.mk 5 0 0 0 m.g8 a.n.c8 [])).bind fun all=>((b3v all all.n.c8).bind fun a8Z=>some a8Z)) else some (p7.mk (j6.mk a.n.Id a.n.Acc a.n.a6 a.n.Seq a.n.d6 a.n.a8 a.n.c9 a.n.i4 a.n.c8 (a.n.a7.set m.c9.toNat true) a.n.i9 a.n.i6 a.n.b8 a.n.f0) a.out a.told)))))))
theorem e1s{a m}:OK c81 [.optr 163 (N1 a),.agg (t6 m)] (b8e a m):=
 o7 _ fun r h=>n9<|j5 6 h (fun h=>D1 a<|fE h) (fun h=>j5 16 h (fun h=>D1 a<|fE h) (fun h=>j5 26 h (fun h=>D1 a<|fE h) (fun h=>rg<|B0 h fun y hy h=>C0 hy<|Q6 4 1 eB 8 [] true hy<|rg<|R4 a4C d3Z 5 1 h fun b2f h=>om (a.n.a7.length=(a.n.a7.set m.c9.toNat true).length) (by simp)<|j5 6 h (fun h=>rg<|l7 a1c a6L 9 h fun all h=>C9 a.n.a6 a.n.c9<|om (a.n.a7.length=(a.n.a7.set m.c9.toNat true).length) (by simp)<|C9 a.out a.told<|rg<|l7 a2B d0h 6 h fun a8Z h=>D1 all<|D1 a8Z<|fE h) (fun h=>C9 a.n.a6 a.n.c9<|om (a.n.a7.length=(a.n.a7.set m.c9.toNat true).length) (by simp)<|C9 a.out a.told<|fE h))))
def d6W:FS (p7):=⟨157,Tryz.f157,[],[some (0,.ptr J4 N0),none],[.ptr J4 N0,.val C2 []],fun _=>.tup [],fun r=>[some (.optr 163 (N1 r)),none],Tryz.func157⟩
def b62(a:p7)(m:l8):Option p7:=
 (bif decide (m.g8<(a.n.a6.length:Int)) then some a else (bif decide (m.g8>(a.n.a6.length:Int)) then ((a4h a m.c9 (l8.mk 8 0 0 0 (a.n.a6.length:Int) (m4.mk false (n5.mk 0 0) (n7.mk [] [] 0 0)) [])).bind fun Z0=>some Z0) else ((b3v a m.g9).bind fun a8Z=>some a8Z)))
theorem e5a{a m}:OK d6W [.optr 163 (N1 a),.agg (t6 m)] (b62 a m):=
 o7 _ fun r h=>n9<|j5 9 h (fun h=>D1 a<|fE h) (fun h=>rg<|j5 9 h (fun h=>rg<|l7 a67 a76 10 h fun Z0 h=>D1 a<|D1 Z0<|fE h) (fun h=>rg<|l7 a2B d0h 3 h fun a8Z h=>D1 a<|D1 a8Z<|fE h))
def d8o:FS (Bool×p7):=⟨201,Tryz.f201,[.val [] []],[some (0,.ptr J4 om7),none],[.ptr J4 om7,.val [] []],fun r=>.b r.1,fun r=>[some (.optr 163 (b8v r.2)),none],Tryz.func201⟩
def b7d(a:p7)(q:n5):Option (Bool×p7):=
 ((a5U a.n.a6 q).bind fun first=>some (decide (first>=0),a))
theorem e8r{a q}:OK d8o [.optr 163 (b8v a),.agg (F6 q)] (b7d a q):=
 o7 _ fun r h=>n9<|R4 a1F b5d 6 2 h fun first h=>s7 a.n.a6<|J8 a.n<|C9 a.out a.told<|fE h
def d07:FS (p7):=⟨159,Tryz.f159,[],[some (0,.ptr J4 N0),none],[.ptr J4 om7,.val C2 []],fun _=>.tup [],fun r=>[some (.optr 163 (N1 r)),none],Tryz.func159⟩
def c0I(a:p7)(m:l8):Option p7:=
 (bif (a.n.d6==0) then some a else (bif decide ((a.n.f0.length:Int)>=4) then some a else ((b7d a m.g9.a5).bind fun v_=>(bif v_.1 then some v_.2 else (t5 ((v_.2.n.f0.length+1)*88<=140737488355328) (((a7x (p7.mk (j6.mk v_.2.n.Id v_.2.n.Acc v_.2.n.a6 v_.2.n.Seq v_.2.n.d6 v_.2.n.a8 v_.2.n.c9 v_.2.n.i4 v_.2.n.c8 v_.2.n.a7 v_.2.n.i9 v_.2.n.i6 v_.2.n.b8 (v_.2.n.f0++[m.g9])) v_.2.out v_.2.told)).bind fun a0a=>some a0a)))))))
theorem e30{a m}:OK d07 [.optr 163 (b8v a),.agg (t6 m)] (c0I a m):=
 o7 _ fun r h=>n9<|j5 6 h (fun h=>J8 a.n<|C9 a.out a.told<|fE h) (fun h=>j5 15 h (fun h=>J8 a.n<|C9 a.out a.told<|fE h) (fun h=>l7 d8o e8r 20 h fun v_ h=>J8 a.n<|C9 a.out a.told<|j5 21 h (fun h=>J8 v_.2.n<|C9 v_.2.out v_.2.told<|fE h) (fun h=>rg<|tk 8 J3<|t9 h fun e1 h=>F7 9 33 53 7 88 s5 v_.2.n.f0 m.g9 e1<|E5 m.g9<|rg<|l7 b0G b3t 1 h fun a0a h=>H9 v_.2.n.a6 v_.2.n.c9 v_.2.n.a7 (v_.2.n.f0++[m.g9])<|C9 v_.2.out v_.2.told<|D1 a0a<|fE h)))
def a2H:FS (j6×(List l8)×List n6):=⟨99,Tryz.f99,[.val A8 [],.val [some 13] [],.val [some 5] []],[none,none],[.val A8 [],.val C2 []],fun r=>.tup [.agg (x6 r.1),j9 13 t6 r.2.1,j9 5 z5 r.2.2],fun _=>[none,none],Tryz.func99⟩
def c9W:p7->KS:=fun a=>⟨a2H.k 7 [false,false,true],(bs 4 (.ptr 1 0 0::(bs 2 (.ptr 2 0 0::(bs 108 []))))),[some [],some [.var 55 [vi 0,vi 0,.nil,.nil,vi 0,vi 0,vi 0,.nil,.nil,.b false,vi 0,vi 0,.nil,.nil,vi 0,vi 0,.nil,.b false,.nil,.b false,vi 0,vi 0,.nil,.nil,vi 0,vi 0,.nil]],some [.var 163 (b3Y a)]]++a3g a⟩
def b75(a:p7):Option (j6×(List l8)×List n6):=
 ((a1E a).bind fun a5v=>some (a5v.1,a5v.2.1,a5v.2.2.1))
theorem f2D(r):NF a2H r c9W (fun s=>b75 s):=fun a h=>PK<|rg<|l7 a3O a40 1 h fun a5v h=>D1 a<|fE h
def d4Q:p7->KS:=fun a2=>⟨a2H.k 15 [false,false,false,false,false,false,false,false,false,true,false],(bs 4 (.ptr 1 0 0::(bs 2 (.ptr 2 0 0::(bs 108 []))))),[some [],some [.var 55 [vi 0,vi 0,.nil,.nil,vi 0,vi 0,vi 0,.nil,.nil,.b false,vi 0,vi 0,.nil,.nil,vi 0,vi 0,.nil,.b false,.nil,.b false,vi 0,vi 0,.nil,.nil,vi 0,vi 0,.nil]],some [.var 163 (b3Y a2)]]++a3g a2⟩
def d35(a2:p7):Option (l9 (j6×(List l8)×List n6) p7):=
 some (l9.brk a2)
theorem e3Y(r){x1}(hc1:JC (fun j=>FK cx a2H.X (a2H.R r) (a2H.O r) (c9W j)) r x1):NG a2H r d4Q (fun s=>d35 s) x1:=fun a2 h=>PK<|(o9 h hc1 fun hI=>sk [] [4,7] [(1,0),(2,0),(3,0),(4,0),(5,0),(6,0),(7,0)] hI)
def e7d(m:l8):(Int×p7)->KS:=fun (i,a1)=>⟨a2H.k 14 [false,false,false,false,false,false,false,false,false,true],(bs 3 (.ptr 1 0 0::(.ptr 2 0 0::(bs 2 (.ptr 3 0 0::(vi i::(bs 107 []))))))),[some [],some [.var 83 (a5x m)],some [.var 55 [vi 0,vi 0,.nil,.nil,vi 0,vi 0,vi 0,.nil,.nil,.b false,vi 0,vi 0,.nil,.nil,vi 0,vi 0,.nil,.b false,.nil,.b false,vi 0,vi 0,.nil,.nil,vi 0,vi 0,.nil]],some [.var 163 (e3X a1)]]++a3g a1⟩
def a7i(m:l8)(i:Int)(a1:p7):Option (j7 (j6×(List l8)×List n6) (Int×p7) p7):=
 (bif decide (i<(a1.n.a6.length:Int)) then ((idx a1.n.a6 i).bind fun entry=>((a4h a1 m.c9 (l8.mk 5 0 0 0 i entry [])).bind fun Z0=>some (j7.nxt (m7 (i+1),Z0)))) else some (j7.brk a1))
theorem f1X(m):LQ a2H d4Q (e7d m) (fun s=>a7i m s.1 s.2):=fun lc (i,a1) h=>PK<|rg<|j5 7 h (fun h=>rg<|B0 h fun entry F3 h=>C0 F3<|I4 s5 11 F3<|l7 a67 a76 13 h fun Z0 h=>D1 a1<|rg<|(lc.nx h fun hI=>sk [] [3,4,7,8] [(1,0),(2,0),(3,0),(30,0),(30,1),(30,2),(30,3),(30,4)] hI)) (fun h=>(lc.bk h fun hI=>sk [] [4,7] [(2,0),(3,0),(4,0),(5,0),(6,0),(7,0),(8,0)] hI))
def b5W(n:j6)(m:l8):Option (j6×(List l8)×List n6):=
 ((a3X n).bind fun D7=>(bif (!D7) then some ((j6.mk 0 (z0.mk 0 []) [] 0 0 0 [] [] (m4.mk false (n5.mk 0 0) (n7.mk [] [] 0 0)) [] false [] (m4.mk false (n5.mk 0 0) (n7.mk [] [] 0 0)) []),[],[]) else ((a74 n).bind fun begin=>((b2o m).bind fun Q7=>(bif (!Q7) then ((a1E begin).bind fun X3=>some (X3.1,X3.2.1,X3.2.2.1)) else (bif (m.To != n.Id) then ((a1E begin).bind fun a49=>some (a49.1,a49.2.1,a49.2.2.1)) else (((bif (m.a9==1) then ((b8U begin m).bind fun d1B=>some (l9.brk d1B)) else (bif (m.a9==2) then ((b6R begin m).bind fun d1P=>some (l9.brk d1P)) else (bif (m.a9==3) then ((b9X begin m).bind fun c9w=>some (l9.brk c9w)) else (bif (m.a9==4) then ((b8e begin m).bind fun d7i=>some (l9.brk d7i)) else (bif (m.a9==5) then ((b62 begin m).bind fun d3H=>some (l9.brk d3H)) else (bif (m.a9==6) then ((b1u begin.n.Acc m.a8).bind fun W4=>((b1A (p7.mk (j6.mk begin.n.Id W4.1 begin.n.a6 begin.n.Seq begin.n.d6 begin.n.a8 begin.n.c9 begin.n.i4 begin.n.c8 begin.n.a7 begin.n.i9 begin.n.i6 begin.n.b8 begin.n.f0) begin.out begin.told) m.a8).bind fun yield=>some (l9.brk yield))) else (bif (m.a9==7) then ((c0I begin m).bind fun asked=>some (l9.brk asked)) else (bif (m.a9==8) then ((o8 (fun s:Int×p7=>a7i m s.1 s.2) (m.g8,begin)).bind fun x=>x.go (fun r=>some (l9.ret r)) fun s=>d35 s) else some (l9.brk begin))))))))):Option (l9 (j6×(List l8)×List n6) p7)).bind fun x=>x.go some fun j=>b75 j)))))))
set_option maxRecDepth 20000 in
theorem f8i{n m}:OK a2H [.agg (x6 n),.agg (t6 m)] (b5W n m):=
 o7 _ fun r h=>n9<|l7 a0M a8r 1 h fun D7 h=>j5 2 h (fun h=>rg<|fE h) (fun h=>rg<|l7 b4I b9w 1 h fun begin h=>rg<|l7 c5G d5o 1 h fun Q7 h=>j5 3 h (fun h=>rg<|l7 a3O a40 1 h fun X3 h=>J8 begin.n<|C9 begin.out begin.told<|fE h) (fun h=>j5 9 h (fun h=>rg<|l7 a3O a40 1 h fun a49 h=>J8 begin.n<|C9 begin.out begin.told<|fE h) (fun h=>rg<|A3 h (f2D r) fun x1 h hc1=>rg<|j5 1 h (fun h=>rg<|l7 b9s f4k 2 h fun d1B h=>J8 begin.n<|C9 begin.out begin.told<|(o9 h hc1 fun hI=>sk [] [4,7] [(3,0),(10,0),(28,0),(28,1),(28,2),(28,3),(28,4)] hI)) (fun h=>rg<|j5 1 h (fun h=>rg<|l7 d0F e4E 2 h fun d1P h=>J8 begin.n<|C9 begin.out begin.told<|(o9 h hc1 fun hI=>sk [] [4,7] [(3,0),(10,0),(30,0),(30,1),(30,2),(30,3),(30,4)] hI)) (fun h=>rg<|j5 1 h (fun h=>rg<|l7 d6a e2g 2 h fun c9w h=>J8 begin.n<|C9 begin.out begin.told<|(o9 h hc1 fun hI=>sk [] [4,7] [(3,0),(10,0),(32,0),(32,1),(32,2),(32,3),(32,4)] hI)) (fun h=>rg<|j5 1 h (fun h=>rg<|l7 c81 e1s 2 h fun d7i h=>J8 begin.n<|C9 begin.out begin.told<|(o9 h hc1 fun hI=>sk [] [4,7] [(3,0),(10,0),(34,0),(34,1),(34,2),(34,3),(34,4)] hI)) (fun h=>rg<|j5 1 h (fun h=>rg<|l7 d6W e5a 2 h fun d3H h=>J8 begin.n<|C9 begin.out begin.told<|(o9 h hc1 fun hI=>sk [] [4,7] [(3,0),(10,0),(36,0),(36,1),(36,2),(36,3),(36,4)] hI)) (fun h=>rg<|j5 1 h (fun h=>rg<|l7 b9h c5N 8 h fun W4 h=>rg<|l7 b6T c6h 3 h fun yield h=>J8 begin.n<|C9 begin.out begin.told<|(o9 h hc1 fun hI=>sk [] [4,7] [(3,0),(10,0),(55,0),(55,1),(55,2),(55,3),(55,4)] hI)) (fun h=>rg<|j5 1 h (fun h=>rg<|l7 d07 e30 2 h fun asked h=>J8 begin.n<|C9 begin.out begin.told<|(o9 h hc1 fun hI=>sk [] [4,7] [(3,0),(10,0),(40,0),(40,1),(40,2),(40,3),(40,4)] hI)) (fun h=>rg<|j5 1 h (fun h=>rg<|lp (f1X m) h (fun _ h=>a2H.rt (f5v h hc1)) (e3Y r hc1) fun hI=>s7 begin.n.f0<|sk [.frz (.cell 10 0 26) (none)] [3,4,7,8] [(2,0),(3,0),(10,0),(10,1),(10,2),(10,3),(10,5),(10,6)] hI) (fun h=>(o9 h hc1 fun hI=>s7 begin.n.f0<|sk [.frz (.cell 10 0 26) (none)] [4,7] [(3,0),(10,0),(10,1),(10,2),(10,3),(10,5),(10,6)] hI))))))))))))
def b1m:FS (m5):=⟨48,Tryz.f48,[.val C5 om6],[none,none],[.val C5 om6,.val [none,none,some 4] []],fun r=>.agg (a9j r),fun _=>[none,none],Tryz.func48⟩
def f7q:m5->KS:=fun w1=>⟨b1m.k 7 [true],(bs 2 (.ptr 1 0 0::(bs 1 (.ptr 6 0 0::(bs 58 []))))),[some [.dead,.dead,.dead,.dead],some [.var 30 [.own 2 0 27 0 w1.a0.length,.own 3 0 13 0 w1.d7.length,.own 4 0 3 0 w1.d8.length,.own 5 0 5 0 w1.Told.length]],some [m6 55 27 x6 w1.a0],some [m6 83 13 t6 w1.d7],some [m6 73 3 C1 w1.d8],some [m6 76 5 z5 w1.Told],some [.var 30 [.nil,.nil,.nil,.nil]]]⟩
def d8c(w1:m5):Option m5:=
 some w1
theorem e8U(r):NF b1m r f7q (fun s=>d8c s):=fun w1 h=>PK<|rg<|B4 w1<|fE h
def a8n(w:m5)(e_:s6):Option m5:=
 ((idx w.d7 e_.A).bind fun msg=>(((bif (e_.a9==2) then ((b3b w.d7 e_.A).bind fun off=>((idx w.a0 msg.To).bind fun node=>((b5W node msg).bind fun c0b=>((a4W (m5.mk w.a0 off w.d8 w.Told) c0b.1 c0b.2.1 c0b.2.2).bind fun a3f=>some (l9.brk a3f))))) else (bif (e_.a9==3) then ((b3b w.d7 e_.A).bind fun c9G=>some (l9.brk (m5.mk w.a0 c9G w.d8 w.Told))) else (bif (e_.a9==4) then ((idx w.a0 msg.To).bind fun node1=>((a4W w node1 [msg] []).bind fun b3V=>some (l9.brk b3V))) else some (l9.brk w)))):Option (l9 m5 m5)).bind fun x=>x.go some fun j=>d8c j))
theorem c69{w e_}:OK b1m [.agg (a9j w),.agg (J5 e_)] (a8n w e_):=
 o7 _ fun r h=>n9<|B0 h fun msg hmsg h=>C0 hmsg<|I4 t6 5 hmsg<|rg<|A3 h (e8U r) fun x1 h hc1=>rg<|j5 1 h (fun h=>rg<|l7 c2Z d3V 4 h fun off h=>s7 w.d7<|rg<|B0 h fun node hnode h=>C0 hnode<|I4 x6 5 hnode<|l7 a2H f8i 7 h fun c0b h=>rg<|l7 U8 a95 4 h fun a3f h=>H9 w.a0 off w.d8 w.Told<|(o9 h hc1 fun hI=>sk [.kill 0 1] [2,4] [(1,0),(43,0),(43,1),(43,2),(43,3),(3,0)] hI)) (fun h=>rg<|j5 1 h (fun h=>rg<|l7 c2Z d3V 4 h fun c9G h=>s7 w.d7<|(o9 h hc1 fun hI=>sk [.kill 0 1] [2,4] [(1,0),(0,0),(22,0),(0,2),(0,3),(3,0)] hI)) (fun h=>rg<|j5 1 h (fun h=>rg<|B0 h fun node1 a0A h=>C0 a0A<|I4 x6 6 a0A<|tk 8 C2<|l7 U8 a95 9 h fun b3V h=>B4 w<|E5 msg<|(o9 h hc1 fun hI=>sk [] [2,4] [(1,0),(29,0),(29,1),(29,2),(29,3),(3,0)] hI)) (fun h=>(o9 h hc1 fun hI=>sk [] [2,4] [(1,0),(0,0),(0,1),(0,2),(0,3),(3,0)] hI))))
def a4m:FS (m5):=⟨14,Tryz.f14,[.val C5 []],[none,none],[.val C5 [],.val [none,none,some 4] []],fun r=>.agg (K7 r),fun _=>[none,none],Tryz.func14⟩
def e2c:m5->KS:=fun out=>⟨a4m.k 6 [true,true,true],(bs 4 (.ptr 1 0 0::(.ptr 2 0 0::(bs 35 [])))),[some [],some [.var 30 [.nil,.nil,.nil,.nil]],some [.var 30 [.own 3 0 27 0 out.a0.length,.own 4 0 13 0 out.d7.length,.own 5 0 3 0 out.d8.length,.own 6 0 5 0 out.Told.length]],some [m6 55 27 x6 out.a0],some [m6 83 13 t6 out.d7],some [m6 73 3 C1 out.d8],some [m6 76 5 z5 out.Told]]⟩
def c10(out:m5):Option m5:=
 ((a2i out).bind fun c2E=>some c2E)
theorem e3s(r):NF a4m r e2c (fun s=>c10 s):=fun out h=>PK<|rg<|l7 a0g b1o 1 h fun c2E h=>B4 out<|B4 c2E<|fE h
def e8w:m5->KS:=fun out1=>⟨a4m.k 7 [false,true,true,true],(bs 4 (.ptr 1 0 0::(.ptr 2 0 0::(bs 35 [])))),[some [],some [.var 30 [.nil,.nil,.nil,.nil]],some [.var 30 [.own 3 0 27 0 out1.a0.length,.own 4 0 13 0 out1.d7.length,.own 5 0 3 0 out1.d8.length,.own 6 0 5 0 out1.Told.length]],some [m6 55 27 x6 out1.a0],some [m6 83 13 t6 out1.d7],some [m6 73 3 C1 out1.d8],some [m6 76 5 z5 out1.Told]]⟩
def c1I(out1:m5):Option m5:=
 ((a2i out1).bind fun c22=>some c22)
theorem f6S(r):NF a4m r e8w (fun s=>c1I s):=fun out1 h=>PK<|rg<|l7 a0g b1o 1 h fun c22 h=>B4 out1<|B4 c22<|fE h
def e2L:m5->KS:=fun out2=>⟨a4m.k 8 [false,false,true,true,true],(bs 4 (.ptr 1 0 0::(.ptr 2 0 0::(bs 35 [])))),[some [],some [.var 30 [.nil,.nil,.nil,.nil]],some [.var 30 [.own 3 0 27 0 out2.a0.length,.own 4 0 13 0 out2.d7.length,.own 5 0 3 0 out2.d8.length,.own 6 0 5 0 out2.Told.length]],some [m6 55 27 x6 out2.a0],some [m6 83 13 t6 out2.d7],some [m6 73 3 C1 out2.d8],some [m6 76 5 z5 out2.Told]]⟩
def c6W(out2:m5):Option m5:=
 ((a2i out2).bind fun c2g=>some c2g)
theorem f0d(r):NF a4m r e2L (fun s=>c6W s):=fun out2 h=>PK<|rg<|l7 a0g b1o 1 h fun c2g h=>B4 out2<|B4 c2g<|fE h
def f2y:m5->KS:=fun out3=>⟨a4m.k 9 [false,false,false,true,true],(bs 4 (.ptr 1 0 0::(.ptr 2 0 0::(bs 35 [])))),[some [],some [.var 30 [.nil,.nil,.nil,.nil]],some [.var 30 [.own 3 0 27 0 out3.a0.length,.own 4 0 13 0 out3.d7.length,.own 5 0 3 0 out3.d8.length,.own 6 0 5 0 out3.Told.length]],some [m6 55 27 x6 out3.a0],some [m6 83 13 t6 out3.d7],some [m6 73 3 C1 out3.d8],some [m6 76 5 z5 out3.Told]]⟩
def b58(out3:m5):Option m5:=
 ((a2i out3).bind fun c6s=>some c6s)
theorem f7z(r):NF a4m r f2y (fun s=>b58 s):=fun out3 h=>PK<|rg<|l7 a0g b1o 1 h fun c6s h=>B4 out3<|B4 c6s<|fE h
def c0d(w:m5)(e_:s6):Option m5:=
 ((a2i w).bind fun J6=>(bif (e_.a9==1) then ((((D9 e_.A 0 (m7 ((J6.a0.length:Int)-1))).bind fun in_=>(bif in_ then ((a6P J6 e_).bind fun d45=>some (l9.brk d45)) else some (l9.brk J6))):Option (l9 m5 m5)).bind fun x=>x.go some fun j=>c10 j) else (bif (e_.a9==5) then ((((D9 e_.A 0 (m7 ((J6.a0.length:Int)-1))).bind fun in_1=>(bif in_1 then ((a6P J6 e_).bind fun d3x=>some (l9.brk d3x)) else some (l9.brk J6))):Option (l9 m5 m5)).bind fun x=>x.go some fun j=>c1I j) else (bif (e_.a9==6) then ((((D9 e_.A 0 (m7 ((J6.a0.length:Int)-1))).bind fun in_2=>(bif in_2 then ((a6P J6 e_).bind fun d5K=>some (l9.brk d5K)) else some (l9.brk J6))):Option (l9 m5 m5)).bind fun x=>x.go some fun j=>c6W j) else (((bif (e_.a9==7) then ((D9 e_.A 0 (m7 ((J6.a0.length:Int)-1))).bind fun a0w=>(bif a0w then ((a6P J6 e_).bind fun c8p=>some (l9.brk c8p)) else some (l9.brk J6))) else (bif (e_.a9==2) then ((D9 e_.A 0 (m7 ((J6.d7.length:Int)-1))).bind fun a5K=>(bif a5K then ((a8n J6 e_).bind fun d7E=>some (l9.brk d7E)) else some (l9.brk J6))) else (bif (e_.a9==3) then ((D9 e_.A 0 (m7 ((J6.d7.length:Int)-1))).bind fun b0U=>(bif b0U then ((a8n J6 e_).bind fun d3I=>some (l9.brk d3I)) else some (l9.brk J6))) else (bif (e_.a9==4) then ((D9 e_.A 0 (m7 ((J6.d7.length:Int)-1))).bind fun c3V=>(bif c3V then ((a8n J6 e_).bind fun d1c=>some (l9.brk d1c)) else some (l9.brk J6))) else some (l9.brk J6))))):Option (l9 m5 m5)).bind fun x=>x.go some fun j=>b58 j)))))
set_option maxRecDepth 20000 in
theorem e0c{w e_}:OK a4m [.agg (K7 w),.agg (J5 e_)] (c0d w e_):=
 o7 _ fun r h=>n9<|l7 a0g b1o 1 h fun J6 h=>n9<|j5 1 h (fun h=>A3 h (e3s r) fun x1 h hc1=>rg<|cbE D5.t F8 h fun in_ c8O h=>cdT (D5.t 6 false in_) h (fun _ h=>ob c8O<|rg<|l7 a7G c0X 2 h fun d45 h=>B4 J6<|(o9 h hc1 fun hI=>sk [] [4,5] [(3,0),(6,0),(21,0),(21,1),(21,2),(21,3)] hI)) (fun _ h=>ob c8O<|(o9 h hc1 fun hI=>sk [] [4,5] [(3,0),(6,0),(5,0),(5,1),(5,2),(5,3)] hI))) (fun h=>rg<|j5 1 h (fun h=>A3 h (f6S r) fun x1 h hc1=>rg<|cbE D5.t F8 h fun in_1 d3p h=>cdT (D5.t 6 false in_1) h (fun _ h=>ob d3p<|rg<|l7 a7G c0X 2 h fun d3x h=>B4 J6<|(o9 h hc1 fun hI=>sk [] [4,5] [(3,0),(6,0),(23,0),(23,1),(23,2),(23,3)] hI)) (fun _ h=>ob d3p<|(o9 h hc1 fun hI=>sk [] [4,5] [(3,0),(6,0),(5,0),(5,1),(5,2),(5,3)] hI))) (fun h=>rg<|j5 1 h (fun h=>A3 h (f0d r) fun x1 h hc1=>rg<|cbE D5.t F8 h fun in_2 c8R h=>cdT (D5.t 6 false in_2) h (fun _ h=>ob c8R<|rg<|l7 a7G c0X 2 h fun d5K h=>B4 J6<|(o9 h hc1 fun hI=>sk [] [4,5] [(3,0),(6,0),(25,0),(25,1),(25,2),(25,3)] hI)) (fun _ h=>ob c8R<|(o9 h hc1 fun hI=>sk [] [4,5] [(3,0),(6,0),(5,0),(5,1),(5,2),(5,3)] hI))) (fun h=>A3 h (f7z r) fun x1 h hc1=>rg<|j5 1 h (fun h=>rg<|cbE D5.t F8 h fun a0w d5e h=>cdT (D5.t 6 false a0w) h (fun _ h=>ob d5e<|rg<|l7 a7G c0X 2 h fun c8p h=>B4 J6<|(o9 h hc1 fun hI=>sk [] [4,5] [(3,0),(6,0),(27,0),(27,1),(27,2),(27,3)] hI)) (fun _ h=>ob d5e<|(o9 h hc1 fun hI=>sk [] [4,5] [(3,0),(6,0),(5,0),(5,1),(5,2),(5,3)] hI))) (fun h=>rg<|j5 1 h (fun h=>rg<|cbE D5.t F8 h fun a5K d1O h=>cdT (D5.t 6 false a5K) h (fun _ h=>ob d1O<|rg<|l7 b1m c69 2 h fun d7E h=>B4 J6<|(o9 h hc1 fun hI=>sk [] [4,5] [(3,0),(6,0),(29,0),(29,1),(29,2),(29,3)] hI)) (fun _ h=>ob d1O<|(o9 h hc1 fun hI=>sk [] [4,5] [(3,0),(6,0),(5,0),(5,1),(5,2),(5,3)] hI))) (fun h=>rg<|j5 1 h (fun h=>rg<|cbE D5.t F8 h fun b0U d0x h=>cdT (D5.t 6 false b0U) h (fun _ h=>ob d0x<|rg<|l7 b1m c69 2 h fun d3I h=>B4 J6<|(o9 h hc1 fun hI=>sk [] [4,5] [(3,0),(6,0),(31,0),(31,1),(31,2),(31,3)] hI)) (fun _ h=>ob d0x<|(o9 h hc1 fun hI=>sk [] [4,5] [(3,0),(6,0),(5,0),(5,1),(5,2),(5,3)] hI))) (fun h=>rg<|j5 1 h (fun h=>rg<|cbE D5.t F8 h fun c3V d2D h=>cdT (D5.t 6 false c3V) h (fun _ h=>ob d2D<|rg<|l7 b1m c69 2 h fun d1c h=>B4 J6<|(o9 h hc1 fun hI=>sk [] [4,5] [(3,0),(6,0),(33,0),(33,1),(33,2),(33,3)] hI)) (fun _ h=>ob d2D<|(o9 h hc1 fun hI=>sk [] [4,5] [(3,0),(6,0),(5,0),(5,1),(5,2),(5,3)] hI))) (fun h=>(o9 h hc1 fun hI=>sk [] [4,5] [(3,0),(6,0),(5,0),(5,1),(5,2),(5,3)] hI))))))))
def c8r:FS (m5):=⟨6,Tryz.f6,[.val C5 []],[none,none],[.val C5 [],.val [none,none,some 4] []],fun r=>.agg (K7 r),fun _=>[none,none],Tryz.func6⟩
def b6I(w:m5)(e_:s6):Option m5:=
 ((a2U w).bind fun A0=>(bif (!A0) then some (m5.mk [] [] [] []) else ((c0d w e_).bind fun d52=>some d52)))
theorem e8l{w e_}:OK c8r [.agg (K7 w),.agg (J5 e_)] (b6I w e_):=
 o7 _ fun r h=>n9<|l7 M0 a6U 1 h fun A0 h=>j5 2 h (fun h=>rg<|fE h) (fun h=>rg<|l7 a4m e0c 2 h fun d52 h=>fE h)
def a0X:FS (Bool):=⟨15,Tryz.f15,[.val [] []],[none],[.val C5 []],fun r=>.b r,fun _=>[none],Tryz.func15⟩
def c3W:Unit->KS:=fun _=>⟨a0X.k 4 [false,false],(bs 53 []),[some []]⟩
def d3C:Option Bool:=
 some true
theorem f6N(r):NF a0X r c3W (fun s=>d3C):=fun _ h=>PK<|rg<|fE h
def d23(w:m5):Int->KS:=fun v14=>⟨a0X.k 3 [false],(bs 1 (.ptr 1 0 0::(bs 10 (j9 27 x6 w.a0::(vi (w.a0.length:Int)::(vi v14::(bs 38 []))))))),[some [],some [.var 30 (B9 w)]]⟩
def c3H(w:m5)(v14:Int):Unit->KS:=fun _=>⟨a0X.k 7 [false,true,false],(bs 1 (.ptr 1 0 0::(bs 10 (j9 27 x6 w.a0::(vi (w.a0.length:Int)::(vi v14::(bs 38 []))))))),[some [],some [.var 30 (B9 w)]]⟩
def d0m(v14:Int):Option (j7 Bool Int Unit):=
 some (j7.nxt (m7 (v14+1)))
theorem f8p(w v14)(lc:D2 a0X c3W (d23 w)):NL lc (c3H w v14) (fun s=>d0m v14):=fun _ h=>PK<|rg<|(lc.nx h fun hI=>sk [] [1,12,13,14] [(1,0)] hI)
def d5k(w:m5)(v14:Int)(node:j6):Int->KS:=fun v21=>⟨a0X.k 6 [false,true],(bs 1 (.ptr 1 0 0::(bs 2 (.ptr 2 0 0::(bs 7 (j9 27 x6 w.a0::(vi (w.a0.length:Int)::(vi v14::(bs 4 (j9 27 x6 w.a0::(vi (w.a0.length:Int)::(vi v21::(bs 31 []))))))))))))),[some [],some [.var 30 (B9 w)],some [.var 55 (X6 node)]]⟩
def d1m(w:m5)(v14:Int)(node:j6)(v21:Int):Unit->KS:=fun _=>⟨a0X.k 10 [false,true,true,false],(bs 1 (.ptr 1 0 0::(bs 2 (.ptr 2 0 0::(bs 7 (j9 27 x6 w.a0::(vi (w.a0.length:Int)::(vi v14::(bs 4 (j9 27 x6 w.a0::(vi (w.a0.length:Int)::(vi v21::(bs 31 []))))))))))))),[some [],some [.var 30 (B9 w)],some [.var 55 (X6 node)]]⟩
def d7u(v21:Int):Option (j7 Bool Int Unit):=
 some (j7.nxt (m7 (v21+1)))
theorem f4W(w v14 node v21)(lc:D2 a0X (c3H w v14) (d5k w v14 node)):NL lc (d1m w v14 node v21) (fun s=>d7u v21):=fun _ h=>PK<|rg<|(lc.nx h fun hI=>sk [] [1,4,12,13,14,19,20,21] [(1,0),(2,0)] hI)
def e81(w:m5)(v14:Int)(node:j6)(v21:Int)(node1:j6):Int->KS:=fun i=>⟨a0X.k 9 [false,true,true],(bs 1 (.ptr 1 0 0::(bs 2 (.ptr 2 0 0::(bs 1 (.ptr 3 0 0::(vi i::(bs 4 (j9 27 x6 w.a0::(vi (w.a0.length:Int)::(vi v14::(bs 4 (j9 27 x6 w.a0::(vi (w.a0.length:Int)::(vi v21::(bs 31 [])))))))))))))))),[some [],some [.var 30 (B9 w)],some [.var 55 (X6 node)],some [.var 55 (X6 node1)]]⟩
def b1I(node:j6)(node1:j6)(i:Int):Option (j7 Bool Int Unit):=
 (bif decide (i<(node.a6.length:Int)) then (bif decide (i<(node1.a6.length:Int)) then ((idx node.a6 i).bind fun entry=>((idx node1.a6 i).bind fun a6g=>((a14 entry a6g).bind fun G8=>(bif (!G8) then some (j7.ret false) else some (j7.nxt (m7 (i+1))))))) else some (j7.brk ())) else some (j7.brk ()))
theorem e1W(w v14 node v21 node1):LQ a0X (d1m w v14 node v21) (e81 w v14 node v21 node1) (fun s=>b1I node node1 s):=fun lc i h=>PK<|rg<|j5 5 h (fun h=>j5 11 h (fun h=>rg<|u0 s5 3 h fun entry F3 h=>u0 s5 8 h fun a6g b0x h=>l7 a4i a5l 10 h fun G8 h=>j5 11 h (fun h=>rg<|fL lc h) (fun h=>rg<|(lc.nx h fun hI=>sk [] [1,4,6,7,12,13,14,19,20,21] [(1,0),(2,0),(3,0)] hI))) (fun h=>(lc.bk h fun hI=>sk [] [1,4,12,13,14,19,20,21] [(1,0),(2,0)] hI))) (fun h=>(lc.bk h fun hI=>sk [] [1,4,12,13,14,19,20,21] [(1,0),(2,0)] hI))
def b4B(w:m5)(node:j6)(v21:Int):Option (j7 Bool Int Unit):=
 (bif decide (v21<(w.a0.length:Int)) then ((idx w.a0 v21).bind fun node1=>((o8 (fun s:Int=>b1I node node1 s) 0).bind fun x=>x.go (fun r=>some (j7.ret r)) fun s=>d7u v21)) else some (j7.brk ()))
theorem f8f(w v14 node):LQ a0X (c3H w v14) (d5k w v14 node) (fun s=>b4B w node s):=fun lc v21 h=>PK<|rg<|j5 0 h (fun h=>rg<|u0 x6 0 h fun node1 a0A h=>rg<|lp (e1W w v14 node v21 node1) h (fun _ h=>lc.rt h) (f4W w v14 node v21 lc) fun hI=>sk [] [1,4,6,7,12,13,14,19,20,21] [(1,0),(2,0),(6,0)] hI) (fun h=>(lc.bk h fun hI=>sk [] [1,12,13,14] [(1,0)] hI))
def c0G(w:m5)(v14:Int):Option (j7 Bool Int Unit):=
 (bif decide (v14<(w.a0.length:Int)) then ((idx w.a0 v14).bind fun node=>((o8 (fun s:Int=>b4B w node s) 0).bind fun x=>x.go (fun r=>some (j7.ret r)) fun s=>d0m v14)) else some (j7.brk ()))
theorem e2d(w):LQ a0X c3W (d23 w) (fun s=>c0G w s):=fun lc v14 h=>PK<|rg<|j5 0 h (fun h=>rg<|u0 x6 0 h fun node hnode h=>rg<|lp (f8f w v14 node) h (fun _ h=>lc.rt h) (f8p w v14 lc) fun hI=>sk [] [1,4,12,13,14,19,20,21] [(1,0),(5,0)] hI) (fun h=>(lc.bk h fun hI=>sk [] [] [] hI))
def b3H(w:m5):Option Bool:=
 ((a2U w).bind fun A0=>(bif (!A0) then some false else ((o8 (fun s:Int=>c0G w s) 0).bind fun x=>x.go (fun r=>some r) fun s=>d3C)))
theorem f0G{w}:OK a0X [.agg (K7 w)] (b3H w):=
 o7 _ fun r h=>n9<|l7 M0 a6U 1 h fun A0 h=>j5 2 h (fun h=>rg<|fE h) (fun h=>rg<|lp (e2d w) h (fun _ h=>a0X.rt h) (f6N r) fun hI=>sk [] [1,12,13,14] [(1,0)] hI)
def a0f:FS (Bool):=⟨16,Tryz.f16,[.val [] []],[none],[.val C5 []],fun r=>.b r,fun _=>[none],Tryz.func16⟩
def c1Q:Unit->KS:=fun _=>⟨a0f.k 4 [false,false],(bs 80 []),[some []]⟩
def d3u:Option Bool:=
 some true
theorem e6I(r):NF a0f r c1Q (fun s=>d3u):=fun _ h=>PK<|rg<|fE h
def d79(w:m5):Int->KS:=fun v16=>⟨a0f.k 3 [false],(bs 1 (.ptr 1 0 0::(bs 12 (j9 27 x6 w.a0::(vi (w.a0.length:Int)::(vi v16::(bs 63 []))))))),[some [],some [.var 30 (B9 w)]]⟩
def c3M(w:m5)(v16:Int):Unit->KS:=fun _=>⟨a0f.k 7 [false,true,false],(bs 1 (.ptr 1 0 0::(bs 12 (j9 27 x6 w.a0::(vi (w.a0.length:Int)::(vi v16::(bs 63 []))))))),[some [],some [.var 30 (B9 w)]]⟩
def c2P(v16:Int):Option (j7 Bool Int Unit):=
 some (j7.nxt (m7 (v16+1)))
theorem e5X(w v16)(lc:D2 a0f c1Q (d79 w)):NL lc (c3M w v16) (fun s=>c2P v16):=fun _ h=>PK<|rg<|(lc.nx h fun hI=>sk [] [1,14,15,16] [(1,0)] hI)
def c99(w:m5)(v16:Int)(node:j6):Int->KS:=fun v23=>⟨a0f.k 6 [false,true],(bs 1 (.ptr 1 0 0::(bs 2 (.ptr 2 0 0::(bs 9 (j9 27 x6 w.a0::(vi (w.a0.length:Int)::(vi v16::(bs 4 (j9 27 x6 w.a0::(vi (w.a0.length:Int)::(vi v23::(bs 56 []))))))))))))),[some [],some [.var 30 (B9 w)],some [.var 55 (X6 node)]]⟩
def c4Q(w:m5)(v16:Int)(node:j6)(v23:Int):Unit->KS:=fun _=>⟨a0f.k 11 [false,true,true,false],(bs 1 (.ptr 1 0 0::(bs 2 (.ptr 2 0 0::(bs 9 (j9 27 x6 w.a0::(vi (w.a0.length:Int)::(vi v16::(bs 4 (j9 27 x6 w.a0::(vi (w.a0.length:Int)::(vi v23::(bs 56 []))))))))))))),[some [],some [.var 30 (B9 w)],some [.var 55 (X6 node)]]⟩
def c6u(v23:Int):Option (j7 Bool Int Unit):=
 some (j7.nxt (m7 (v23+1)))
theorem f5P(w v16 node v23)(lc:D2 a0f (c3M w v16) (c99 w v16 node)):NL lc (c4Q w v16 node v23) (fun s=>c6u v23):=fun _ h=>PK<|rg<|(lc.nx h fun hI=>sk [] [1,4,14,15,16,21,22,23] [(1,0),(2,0)] hI)
def d0o(w:m5)(v16:Int)(node:j6)(v23:Int)(node1:j6):Int->KS:=fun i=>⟨a0f.k 10 [false,true,true],(bs 1 (.ptr 1 0 0::(bs 2 (.ptr 2 0 0::(bs 2 (j9 8 q8 node.Acc.a7::(j9 8 q8 node1.Acc.a7::(vi i::(bs 4 (j9 27 x6 w.a0::(vi (w.a0.length:Int)::(vi v16::(bs 4 (j9 27 x6 w.a0::(vi (w.a0.length:Int)::(vi v23::(bs 56 []))))))))))))))))),[some [],some [.var 30 (B9 w)],some [.var 55 (X6 node)]]⟩
def d8S(w:m5)(v16:Int)(node:j6)(v23:Int)(node1:j6)(i:Int):Unit->KS:=fun _=>⟨a0f.k 12 [false,true,true,true,false],(bs 1 (.ptr 1 0 0::(bs 2 (.ptr 2 0 0::(bs 2 (j9 8 q8 node.Acc.a7::(j9 8 q8 node1.Acc.a7::(vi i::(bs 4 (j9 27 x6 w.a0::(vi (w.a0.length:Int)::(vi v16::(bs 4 (j9 27 x6 w.a0::(vi (w.a0.length:Int)::(vi v23::(bs 56 []))))))))))))))))),[some [],some [.var 30 (B9 w)],some [.var 55 (X6 node)]]⟩
def c55(i:Int):Option (j7 Bool Int Unit):=
 some (j7.nxt (m7 (i+1)))
theorem e8d(w v16 node v23 node1 i)(lc:D2 a0f (c4Q w v16 node v23) (d0o w v16 node v23 node1)):NL lc (d8S w v16 node v23 node1 i) (fun s=>c55 i):=fun _ h=>PK<|rg<|(lc.nx h fun hI=>sk [] [1,4,7,8,9,14,15,16,21,22,23] [(1,0),(2,0)] hI)
def b3i(node:j6)(node1:j6)(i:Int):Option (j7 Bool Int Unit):=
 (bif decide (i<(node.Acc.a7.length:Int)) then (bif decide (i<(node1.Acc.a7.length:Int)) then ((((idx node.Acc.a7 i).bind fun vote=>(bif (vote.a8 != 0) then ((idx node1.Acc.a7 i).bind fun T2=>(bif (vote.a8==T2.a8) then ((a14 vote.g9 T2.g9).bind fun G8=>(bif (!G8) then some (l9.ret (j7.ret false)) else some (l9.brk ()))) else some (l9.brk ()))) else some (l9.brk ()))):Option (l9 (j7 Bool Int Unit) Unit)).bind fun x=>x.go some fun j=>c55 i) else some (j7.brk ())) else some (j7.brk ()))
theorem e7a(w v16 node v23 node1):LQ a0f (c4Q w v16 node v23) (d0o w v16 node v23 node1) (fun s=>b3i node node1 s):=fun lc i h=>PK<|rg<|j5 4 h (fun h=>j5 9 h (fun h=>A3 h (e8d w v16 node v23 node1 i lc) fun x4 h hc4=>rg<|u0 q8 2 h fun vote K1 h=>j5 6 h (fun h=>I3 q8 9 K1<|u0 q8 14 h fun T2 a3Q h=>j5 19 h (fun h=>I3 q8 22 K1<|I3 q8 27 a3Q<|l7 a4i a5l 30 h fun G8 h=>j5 32 h (fun h=>rg<|(B2 h hc4 fun h=>fL lc h)) (fun h=>(o9 h hc4 fun hI=>sk [] [1,4,7,8,9,14,15,16,21,22,23] [(1,0),(2,0)] hI))) (fun h=>(o9 h hc4 fun hI=>sk [] [1,4,7,8,9,14,15,16,21,22,23] [(1,0),(2,0)] hI))) (fun h=>(o9 h hc4 fun hI=>sk [] [1,4,7,8,9,14,15,16,21,22,23] [(1,0),(2,0)] hI))) (fun h=>(lc.bk h fun hI=>sk [] [1,4,14,15,16,21,22,23] [(1,0),(2,0)] hI))) (fun h=>(lc.bk h fun hI=>sk [] [1,4,14,15,16,21,22,23] [(1,0),(2,0)] hI))
def b3r(w:m5)(node:j6)(v23:Int):Option (j7 Bool Int Unit):=
 (bif decide (v23<(w.a0.length:Int)) then ((idx w.a0 v23).bind fun node1=>((o8 (fun s:Int=>b3i node node1 s) 0).bind fun x=>x.go (fun r=>some (j7.ret r)) fun s=>c6u v23)) else some (j7.brk ()))
theorem f5T(w v16 node):LQ a0f (c3M w v16) (c99 w v16 node) (fun s=>b3r w node s):=fun lc v23 h=>PK<|rg<|j5 0 h (fun h=>rg<|u0 x6 0 h fun node1 a0A h=>n9<|lp (e7a w v16 node v23 node1) h (fun _ h=>lc.rt h) (f5P w v16 node v23 lc) fun hI=>sk [] [1,4,7,8,9,14,15,16,21,22,23] [(1,0),(2,0)] hI) (fun h=>(lc.bk h fun hI=>sk [] [1,14,15,16] [(1,0)] hI))
def b7x(w:m5)(v16:Int):Option (j7 Bool Int Unit):=
 (bif decide (v16<(w.a0.length:Int)) then ((idx w.a0 v16).bind fun node=>((o8 (fun s:Int=>b3r w node s) 0).bind fun x=>x.go (fun r=>some (j7.ret r)) fun s=>c2P v16)) else some (j7.brk ()))
theorem f2b(w):LQ a0f c1Q (d79 w) (fun s=>b7x w s):=fun lc v16 h=>PK<|rg<|j5 0 h (fun h=>rg<|u0 x6 0 h fun node hnode h=>rg<|lp (f5T w v16 node) h (fun _ h=>lc.rt h) (e5X w v16 lc) fun hI=>sk [] [1,4,14,15,16,21,22,23] [(1,0),(5,0)] hI) (fun h=>(lc.bk h fun hI=>sk [] [] [] hI))
def b2B(w:m5):Option Bool:=
 ((a2U w).bind fun A0=>(bif (!A0) then some false else ((o8 (fun s:Int=>b7x w s) 0).bind fun x=>x.go (fun r=>some r) fun s=>d3u)))
theorem d8N{w}:OK a0f [.agg (K7 w)] (b2B w):=
 o7 _ fun r h=>n9<|l7 M0 a6U 1 h fun A0 h=>j5 2 h (fun h=>rg<|fE h) (fun h=>rg<|lp (f2b w) h (fun _ h=>a0f.rt h) (e6I r) fun hI=>sk [] [1,14,15,16] [(1,0)] hI)
def a5h:FS (Int):=⟨50,Tryz.f50,[.val [] []],[none,none,none],[.val C5 [],.val [] [],.val J3 []],fun r=>vi r,fun _=>[none,none,none],Tryz.func50⟩
def c6z:Int->KS:=fun n1=>⟨a5h.k 4 [false],(bs 7 (vi n1::(bs 40 []))),[some []]⟩
def d2e(n1:Int):Option Int:=
 some n1
theorem f5D(r):NF a5h r c6z (fun s=>d2e s):=fun n1 h=>PK<|rg<|fE h
def d6D(w:m5)(at_:Int)(e_:m4):(Int×Int)->KS:=fun (v13,n)=>⟨a5h.k 3 [],(bs 1 (vi at_::(bs 3 (.ptr 1 0 0::(bs 1 (vi n::(bs 3 (j9 27 x6 w.a0::(vi (w.a0.length:Int)::(vi v13::(bs 34 []))))))))))),[some [],some [.var 53 (a1C e_)]]⟩
def e5Q(w:m5)(at_:Int)(e_:m4)(v13:Int):Int->KS:=fun n2=>⟨a5h.k 7 [true,true],(bs 1 (vi at_::(bs 3 (.ptr 1 0 0::(bs 1 (vi n2::(bs 3 (j9 27 x6 w.a0::(vi (w.a0.length:Int)::(vi v13::(bs 34 []))))))))))),[some [],some [.var 53 (a1C e_)]]⟩
def c2F(v13:Int)(n2:Int):Option (j7 Int (Int×Int) Int):=
 some (j7.nxt (m7 (v13+1),n2))
theorem e5B(w at_ e_ v13)(lc:D2 a5h c6z (d6D w at_ e_)):NL lc (e5Q w at_ e_ v13) (fun s=>c2F v13 s):=fun n2 h=>PK<|rg<|(lc.nx h fun hI=>sk [] [1,5,7,11,12,13] [(1,0)] hI)
def b1F(w:m5)(at_:Int)(e_:m4)(v13:Int)(n:Int):Option (j7 Int (Int×Int) Int):=
 (bif decide (v13<(w.a0.length:Int)) then ((idx w.a0 v13).bind fun node=>(((bif decide (at_<(node.Acc.a7.length:Int)) then ((idx node.Acc.a7 at_).bind fun vote=>(bif (vote.a8 != 0) then ((a14 vote.g9 e_).bind fun G8=>(bif G8 then some (l9.brk (m7 (n+1))) else some (l9.brk n))) else some (l9.brk n))) else some (l9.brk n)):Option (l9 (j7 Int (Int×Int) Int) Int)).bind fun x=>x.go some fun j=>c2F v13 j)) else some (j7.brk n))
theorem f0w(w at_ e_):LQ a5h c6z (d6D w at_ e_) (fun s=>b1F w at_ e_ s.1 s.2):=fun lc (v13,n) h=>PK<|rg<|j5 0 h (fun h=>rg<|u0 x6 0 h fun node hnode h=>A3 h (e5B w at_ e_ v13 lc) fun x2 h hc2=>rg<|j5 6 h (fun h=>u0 q8 11 h fun vote K1 h=>j5 16 h (fun h=>I3 q8 21 K1<|l7 a4i a5l 25 h fun G8 h=>j5 26 h (fun h=>rg<|(o9 h hc2 fun hI=>sk [] [1,5,7,11,12,13] [(1,0)] hI)) (fun h=>(o9 h hc2 fun hI=>sk [] [1,5,7,11,12,13] [(1,0)] hI))) (fun h=>(o9 h hc2 fun hI=>sk [] [1,5,7,11,12,13] [(1,0)] hI))) (fun h=>(o9 h hc2 fun hI=>sk [] [1,5,7,11,12,13] [(1,0)] hI))) (fun h=>(lc.bk h fun hI=>sk [] [7] [] hI))
def b9k(w:m5)(at_:Int)(e_:m4):Option Int:=
 ((o8 (fun s:Int×Int=>b1F w at_ e_ s.1 s.2) (0,0)).bind fun x=>x.go (fun r=>some r) fun s=>d2e s)
theorem e4T{w at_ e_}:OK a5h [.agg (K7 w),vi at_,.agg (s5 e_)] (b9k w at_ e_):=
 o7 _ fun r h=>L8<|lp (f0w w at_ e_) h (fun _ h=>a5h.rt h) (f5D r) fun hI=>sk [] [1,5,7,11,12,13] [(2,0)] hI
def a3a:FS (Bool):=⟨17,Tryz.f17,[.val [] []],[none],[.val C5 []],fun r=>.b r,fun _=>[none],Tryz.func17⟩
def c3Q:Unit->KS:=fun _=>⟨a3a.k 4 [false,false],(bs 32 []),[some []]⟩
def d0E:Option Bool:=
 some true
theorem e3A(r):NF a3a r c3Q (fun s=>d0E):=fun _ h=>PK<|rg<|fE h
def c9L(w:m5):Int->KS:=fun v13=>⟨a3a.k 3 [false],(bs 1 (.ptr 1 0 0::(bs 9 (j9 27 x6 w.a0::(vi (w.a0.length:Int)::(vi v13::(bs 18 []))))))),[some [],some [.var 30 (B9 w)]]⟩
def d3M(w:m5)(v13:Int):Unit->KS:=fun _=>⟨a3a.k 7 [false,true,false],(bs 1 (.ptr 1 0 0::(bs 9 (j9 27 x6 w.a0::(vi (w.a0.length:Int)::(vi v13::(bs 18 []))))))),[some [],some [.var 30 (B9 w)]]⟩
def c37(v13:Int):Option (j7 Bool Int Unit):=
 some (j7.nxt (m7 (v13+1)))
theorem f2O(w v13)(lc:D2 a3a c3Q (c9L w)):NL lc (d3M w v13) (fun s=>c37 v13):=fun _ h=>PK<|rg<|(lc.nx h fun hI=>sk [] [1,11,12,13] [(1,0)] hI)
def e6a(w:m5)(v13:Int)(node:j6):Int->KS:=fun v20=>⟨a3a.k 6 [false,true],(bs 1 (.ptr 1 0 0::(bs 9 (j9 27 x6 w.a0::(vi (w.a0.length:Int)::(vi v13::(bs 4 (j9 7 s5 node.a6::(vi (node.a6.length:Int)::(vi v20::(bs 11 []))))))))))),[some [],some [.var 30 (B9 w)]]⟩
def b4Q(w:m5)(node:j6)(v20:Int):Option (j7 Bool Int Unit):=
 (bif decide (v20<(node.a6.length:Int)) then ((idx node.a6 v20).bind fun entry=>((b9k w v20 entry).bind fun d1r=>(bif decide (d1r<2) then some (j7.ret false) else some (j7.nxt (m7 (v20+1)))))) else some (j7.brk ()))
theorem f4E(w v13 node):LQ a3a (d3M w v13) (e6a w v13 node) (fun s=>b4Q w node s):=fun lc v20 h=>PK<|rg<|j5 0 h (fun h=>rg<|u0 s5 1 h fun entry F3 h=>rg<|l7 a5h e4T 3 h fun d1r h=>j5 4 h (fun h=>rg<|fL lc h) (fun h=>rg<|(lc.nx h fun hI=>sk [] [1,11,12,13,18,19,20] [(1,0)] hI))) (fun h=>(lc.bk h fun hI=>sk [] [1,11,12,13] [(1,0)] hI))
def b7Z(w:m5)(v13:Int):Option (j7 Bool Int Unit):=
 (bif decide (v13<(w.a0.length:Int)) then ((idx w.a0 v13).bind fun node=>((o8 (fun s:Int=>b4Q w node s) 0).bind fun x=>x.go (fun r=>some (j7.ret r)) fun s=>c37 v13)) else some (j7.brk ()))
theorem f4B(w):LQ a3a c3Q (c9L w) (fun s=>b7Z w s):=fun lc v13 h=>PK<|rg<|j5 0 h (fun h=>rg<|u0 x6 0 h fun node hnode h=>rg<|lp (f4E w v13 node) h (fun _ h=>lc.rt h) (f2O w v13 lc) fun hI=>sk [] [1,11,12,13,18,19,20] [(1,0)] hI) (fun h=>(lc.bk h fun hI=>sk [] [] [] hI))
def b3I(w:m5):Option Bool:=
 ((a2U w).bind fun A0=>(bif (!A0) then some false else ((o8 (fun s:Int=>b7Z w s) 0).bind fun x=>x.go (fun r=>some r) fun s=>d0E)))
theorem e1A{w}:OK a3a [.agg (K7 w)] (b3I w):=
 o7 _ fun r h=>n9<|l7 M0 a6U 1 h fun A0 h=>j5 2 h (fun h=>rg<|fE h) (fun h=>rg<|lp (f4B w) h (fun _ h=>a3a.rt h) (e3A r) fun hI=>sk [] [1,11,12,13] [(1,0)] hI)
def a0S:FS (Bool):=⟨18,Tryz.f18,[.val [] []],[none],[.val C5 []],fun r=>.b r,fun _=>[none],Tryz.func18⟩
def b5v:Unit->KS:=fun _=>⟨a0S.k 4 [false,false],(bs 80 []),[some []]⟩
def c8K:Option Bool:=
 some true
theorem e62(r):NF a0S r b5v (fun s=>c8K):=fun _ h=>PK<|rg<|fE h
def c1P(w:m5):Int->KS:=fun v15=>⟨a0S.k 3 [false],(bs 1 (.ptr 1 0 0::(bs 11 (j9 27 x6 w.a0::(vi (w.a0.length:Int)::(vi v15::(bs 64 []))))))),[some [],some [.var 30 (B9 w)]]⟩
def c1n(w:m5)(v15:Int)(node:j6):Unit->KS:=fun _=>⟨a0S.k 7 [false,true,false],(bs 1 (.ptr 1 0 0::(bs 2 (.ptr 2 0 0::(bs 8 (j9 27 x6 w.a0::(vi (w.a0.length:Int)::(vi v15::(bs 64 []))))))))),[some [],some [.var 30 (B9 w)],some [.var 55 (X6 node)]]⟩
def e3o(w:m5)(v15:Int):Unit->KS:=fun _=>⟨a0S.k 12 [false,true,false,false,false,false],(bs 1 (.ptr 1 0 0::(bs 11 (j9 27 x6 w.a0::(vi (w.a0.length:Int)::(vi v15::(bs 64 []))))))),[some [],some [.var 30 (B9 w)]]⟩
def c1t(v15:Int):Option (j7 Bool Int Unit):=
 some (j7.nxt (m7 (v15+1)))
theorem f5l(w v15)(lc:D2 a0S b5v (c1P w)):NL lc (e3o w v15) (fun s=>c1t v15):=fun _ h=>PK<|rg<|(lc.nx h fun hI=>sk [] [1,13,14,15] [(1,0)] hI)
def c0E(v15:Int)(node:j6):Option (j7 Bool Int Unit):=
 (bif (node.d6 != 3) then some (j7.nxt (m7 (v15+1))) else (bif decide ((node.a6.length:Int)>=(node.Acc.a7.length:Int)) then some (j7.ret false) else ((idx node.Acc.a7 (node.a6.length:Int)).bind fun vote=>(((bif decide (vote.a8<node.a8) then some (l9.ret (j7.ret false)) else (bif (vote.a8==node.a8) then ((a14 vote.g9 node.c8).bind fun G8=>(bif (!G8) then some (l9.ret (j7.ret false)) else some (l9.brk ()))) else some (l9.brk ()))):Option (l9 (j7 Bool Int Unit) Unit)).bind fun x=>x.go some fun j=>c1t v15))))
theorem e2X(w v15 node)(lc:D2 a0S b5v (c1P w)):NL lc (c1n w v15 node) (fun s=>c0E v15 node):=fun _ h=>PK<|rg<|j5 2 h (fun h=>rg<|(lc.nx h fun hI=>sk [] [1,13,14,15] [(1,0)] hI)) (fun h=>n9<|j5 5 h (fun h=>rg<|fL lc h) (fun h=>rg<|u0 q8 4 h fun vote K1 h=>A3 h (f5l w v15 lc) fun x2 h hc2=>rg<|j5 5 h (fun h=>rg<|(B2 h hc2 fun h=>fL lc h)) (fun h=>j5 11 h (fun h=>l7 a4i a5l 16 h fun G8 h=>j5 19 h (fun h=>rg<|(B2 h hc2 fun h=>fL lc h)) (fun h=>(o9 h hc2 fun hI=>sk [] [1,13,14,15] [(1,0)] hI))) (fun h=>(o9 h hc2 fun hI=>sk [] [1,13,14,15] [(1,0)] hI)))))
def c7X(w:m5)(v15:Int)(node:j6):Int->KS:=fun v26=>⟨a0S.k 6 [false,true],(bs 1 (.ptr 1 0 0::(bs 2 (.ptr 2 0 0::(bs 8 (j9 27 x6 w.a0::(vi (w.a0.length:Int)::(vi v15::(bs 8 (j9 27 x6 ((w.a0.drop (m7 (v15+1)).toNat).take (w.a0.length-(m7 (v15+1)).toNat))::(vi (((w.a0.drop (m7 (v15+1)).toNat).take (w.a0.length-(m7 (v15+1)).toNat)).length:Int)::(vi v26::(bs 53 []))))))))))))),[some [],some [.var 30 (B9 w)],some [.var 55 (X6 node)]]⟩
def f3w(w:m5)(v15:Int)(node:j6)(v26:Int):Unit->KS:=fun _=>⟨a0S.k 9 [false,true,true,false],(bs 1 (.ptr 1 0 0::(bs 2 (.ptr 2 0 0::(bs 8 (j9 27 x6 w.a0::(vi (w.a0.length:Int)::(vi v15::(bs 8 (j9 27 x6 ((w.a0.drop (m7 (v15+1)).toNat).take (w.a0.length-(m7 (v15+1)).toNat))::(vi (((w.a0.drop (m7 (v15+1)).toNat).take (w.a0.length-(m7 (v15+1)).toNat)).length:Int)::(vi v26::(bs 53 []))))))))))))),[some [],some [.var 30 (B9 w)],some [.var 55 (X6 node)]]⟩
def c7p(v26:Int):Option (j7 Bool Int Unit):=
 some (j7.nxt (m7 (v26+1)))
theorem f7C(w v15 node v26)(lc:D2 a0S (c1n w v15 node) (c7X w v15 node)):NL lc (f3w w v15 node v26) (fun s=>c7p v26):=fun _ h=>PK<|rg<|(lc.nx h fun hI=>sk [] [1,4,13,14,15,24,25,26] [(1,0),(2,0)] hI)
def b39(w:m5)(v15:Int)(node:j6)(v26:Int):Option (j7 Bool Int Unit):=
 (bif decide (v26<(((w.a0.drop (m7 (v15+1)).toNat).take (w.a0.length-(m7 (v15+1)).toNat)).length:Int)) then ((idx ((w.a0.drop (m7 (v15+1)).toNat).take (w.a0.length-(m7 (v15+1)).toNat)) v26).bind fun node1=>(((bif (node.a8 != 0) then (bif (node.a8==node1.a8) then some (l9.ret (j7.ret false)) else some (l9.brk ())) else some (l9.brk ())):Option (l9 (j7 Bool Int Unit) Unit)).bind fun x=>x.go some fun j=>c7p v26)) else some (j7.brk ()))
theorem e7F(w v15 node):LQ a0S (c1n w v15 node) (c7X w v15 node) (fun s=>b39 w v15 node s):=fun lc v26 h=>PK<|rg<|j5 0 h (fun h=>rg<|u0 x6 0 h fun node1 a0A h=>A3 h (f7C w v15 node v26 lc) fun x3 h hc3=>rg<|j5 3 h (fun h=>j5 9 h (fun h=>rg<|(B2 h hc3 fun h=>fL lc h)) (fun h=>(o9 h hc3 fun hI=>sk [] [1,4,13,14,15,24,25,26] [(1,0),(2,0)] hI))) (fun h=>(o9 h hc3 fun hI=>sk [] [1,4,13,14,15,24,25,26] [(1,0),(2,0)] hI))) (fun h=>(lc.bk h fun hI=>sk [] [1,4,13,14,15] [(1,0),(2,0)] hI))
def b55(w:m5)(v15:Int):Option (j7 Bool Int Unit):=
 (bif decide (v15<(w.a0.length:Int)) then ((idx w.a0 v15).bind fun node=>(t5 ((0:Int)<=m7 (v15+1)/\m7 (v15+1)<=(w.a0.length:Int)) (((o8 (fun s:Int=>b39 w v15 node s) 0).bind fun x=>x.go (fun r=>some (j7.ret r)) fun s=>c0E v15 node)))) else some (j7.brk ()))
theorem f2p(w):LQ a0S b5v (c1P w) (fun s=>b55 w s):=fun lc v15 h=>PK<|rg<|j5 0 h (fun h=>rg<|u0 x6 1 h fun node hnode h=>rg<|t9 h fun e1 h=>om (V.sl 27 (w.a0.length-(m7 (v15+1)).toNat) (((w.a0.map x6).drop (m7 (v15+1)).toNat).take (w.a0.length-(m7 (v15+1)).toNat))=j9 27 x6 ((w.a0.drop (m7 (v15+1)).toNat).take (w.a0.length-(m7 (v15+1)).toNat))) (b5m e1)<|ob e1.1<|ob e1.2<|tl (4,{v:=some (j9 27 x6 ((w.a0.drop (m7 (v15+1)).toNat).take (w.a0.length-(m7 (v15+1)).toNat)))})<|lp (e7F w v15 node) h (fun _ h=>lc.rt h) (e2X w v15 node lc) fun hI=>sk [] [1,4,13,14,15,24,25,26] [(1,0),(6,0)] hI) (fun h=>(lc.bk h fun hI=>sk [] [] [] hI))
def b5o(w:m5):Option Bool:=
 ((a2U w).bind fun A0=>(bif (!A0) then some false else ((o8 (fun s:Int=>b55 w s) 0).bind fun x=>x.go (fun r=>some r) fun s=>c8K)))
theorem e0Q{w}:OK a0S [.agg (K7 w)] (b5o w):=
 o7 _ fun r h=>n9<|l7 M0 a6U 1 h fun A0 h=>j5 2 h (fun h=>rg<|fE h) (fun h=>rg<|lp (f2p w) h (fun _ h=>a0S.rt h) (e62 r) fun hI=>sk [] [1,13,14,15] [(1,0)] hI)
def a4u:FS (List m4):=⟨51,Tryz.f51,[.val [some 7] []],[none],[.val C5 []],fun r=>j9 7 s5 r,fun _=>[none],Tryz.func51⟩
def c3r(w:m5):Int->KS:=fun a4A=>⟨a4u.k 4 [false],(bs 1 (.ptr 1 0 0::(bs 1 (vi a4A::(bs 36 []))))),[some [],some [.var 30 (B9 w)]]⟩
def c35(w:m5)(a4A:Int):Option (List m4):=
 (bif decide (a4A<0) then some [] else ((idx w.a0 a4A).bind fun node=>((b0a node.a6).bind fun a9q=>some a9q)))
theorem f2B(w)(r):NF a4u r (c3r w) (fun s=>c35 w s):=fun a4A h=>PK<|rg<|j5 1 h (fun h=>rg<|fE h) (fun h=>rg<|u0 x6 3 h fun node hnode h=>l7 a5G c3G 6 h fun a9q h=>s7 a9q<|fE h)
def d7g(w:m5):(Int×Int)->KS:=fun (best,v9)=>⟨a4u.k 3 [],(bs 1 (.ptr 1 0 0::(bs 1 (vi best::(bs 3 (j9 27 x6 w.a0::(vi (w.a0.length:Int)::(vi v9::(bs 30 []))))))))),[some [],some [.var 30 (B9 w)]]⟩
def e8O(w:m5)(v9:Int):Int->KS:=fun a5t=>⟨a4u.k 7 [true,true],(bs 1 (.ptr 1 0 0::(bs 1 (vi a5t::(bs 3 (j9 27 x6 w.a0::(vi (w.a0.length:Int)::(vi v9::(bs 30 []))))))))),[some [],some [.var 30 (B9 w)]]⟩
def b6S(v9:Int)(a5t:Int):Option (j7 (List m4) (Int×Int) Int):=
 some (j7.nxt (a5t,m7 (v9+1)))
theorem e1y(w v9)(lc:D2 a4u (c3r w) (d7g w)):NL lc (e8O w v9) (fun s=>b6S v9 s):=fun a5t h=>PK<|rg<|(lc.nx h fun hI=>sk [] [1,3,7,8,9] [(1,0)] hI)
def a5p(w:m5)(best:Int)(v9:Int):Option (j7 (List m4) (Int×Int) Int):=
 (bif decide (v9<(w.a0.length:Int)) then ((idx w.a0 v9).bind fun node1=>(((bif decide (best<0) then some (l9.brk v9) else ((idx w.a0 best).bind fun a6c=>(bif decide ((node1.a6.length:Int)>(a6c.a6.length:Int)) then some (l9.brk v9) else some (l9.brk best)))):Option (l9 (j7 (List m4) (Int×Int) Int) Int)).bind fun x=>x.go some fun j=>b6S v9 j)) else some (j7.brk best))
theorem e1K(w):LQ a4u (c3r w) (d7g w) (fun s=>a5p w s.1 s.2):=fun lc (best,v9) h=>PK<|rg<|j5 0 h (fun h=>rg<|u0 x6 1 h fun node1 a0A h=>A3 h (e1y w v9 lc) fun x2 h hc2=>rg<|j5 2 h (fun h=>rg<|(o9 h hc2 fun hI=>sk [] [1,3,7,8,9] [(1,0)] hI)) (fun h=>u0 x6 9 h fun a6c d7j h=>j5 14 h (fun h=>rg<|(o9 h hc2 fun hI=>sk [] [1,3,7,8,9] [(1,0)] hI)) (fun h=>(o9 h hc2 fun hI=>sk [] [1,3,7,8,9] [(1,0)] hI)))) (fun h=>(lc.bk h fun hI=>sk [] [1,3] [(1,0)] hI))
def b2Q(w:m5):Option (List m4):=
 ((o8 (fun s:Int×Int=>a5p w s.1 s.2) ((-1),0)).bind fun x=>x.go (fun r=>some r) fun s=>c35 w s)
theorem d0i{w}:OK a4u [.agg (K7 w)] (b2Q w):=
 o7 _ fun r h=>L8<|lp (e1K w) h (fun _ h=>a4u.rt h) (f2B w r) fun hI=>sk [] [1,3,7,8,9] [(1,0)] hI
def c1f:FS (List n5):=⟨101,Tryz.f101,[.val [some 2] [some 47]],[none],[.val [some 2] []],fun r=>v6 47 2 F6 r,fun _=>[none],Tryz.func101⟩
def b6s(list:List n5):Option (List n5):=
 (bif ((list.length:Int)==0) then some [] else (t5 (0<=(list.length:Int)/\(list.length:Int)*16<=140737488355328) ((t5 (list.length=(f8A (list.length:Int).toNat (n5.mk 0 0)).length) (some list)))))
theorem f5F{list}:OK c1f [j9 2 F6 list] (b6s list):=
 o7 _ fun r h=>n9<|j5 2 h (fun h=>rg<|fE h) (fun h=>rg<|t9 h fun e1 h=>T1 2 7 47 2 16 F6 (n5.mk 0 0) c1W (.none) e1 (by decide) (by rfl)<|rg<|t9 h fun e2 h=>om (s9.row 47 2 (f8A (list.length:Int).toNat (n5.mk 0 0)).length (list.map F6)=m6 47 2 F6 list) (a1p e2)<|s7 (f8A (list.length:Int).toNat (n5.mk 0 0))<|ob e2<|tl (2,{e:=some (m6 47 2 F6 list)})<|rg<|om ((f8A (list.length:Int).toNat (n5.mk 0 0)).length=list.length) (by simp)<|fE h)
def a4R:FS (List n5):=⟨52,Tryz.f52,[.val [some 2] []],[none],[.val [some 7] []],fun r=>j9 2 F6 r,fun _=>[none],Tryz.func52⟩
def c6y:(List n5)->KS:=fun out1=>⟨a4R.k 6 [false,false],(bs 5 (.own 1 0 2 0 out1.length::(bs 30 []))),[some [],some [m6 47 2 F6 out1]]⟩
def c6G(out1:List n5):Option (List n5):=
 ((b6s out1).bind fun req=>some req)
theorem f7R(r):NF a4R r c6y (fun s=>c6G s):=fun out1 h=>PK<|rg<|cbS c1f f5F 1 (fun _=>(by simp [c1f,L0,R0,O4,V.simple,vi,v6,eI,F6])) (fun _=>(Q9 1)) h fun req h=>C9 out1 req<|fE h
def c93(list:List m4)(p6:u5×List Int):((List n5)×Int)->KS:=fun (out,v18)=>⟨a4R.k 5 [false],(bs 4 (.own 1 0 1 0 p6.2.length::(.own 2 0 2 0 out.length::(bs 10 (j9 7 s5 list::(vi (list.length:Int)::(vi v18::(bs 17 [])))))))),[some [],some [m6 3 1 eI p6.2],some [m6 47 2 F6 out]]⟩
def f5a(list:List m4)(p6:u5×List Int)(v18:Int):(List n5)->KS:=fun out2=>⟨a4R.k 9 [false,true,true],(bs 4 (.own 1 0 1 0 p6.2.length::(.own 2 0 2 0 out2.length::(bs 10 (j9 7 s5 list::(vi (list.length:Int)::(vi v18::(bs 17 [])))))))),[some [],some [m6 3 1 eI p6.2],some [m6 47 2 F6 out2]]⟩
def c4R(v18:Int)(out2:List n5):Option (j7 (List n5) ((List n5)×Int) (List n5)):=
 some (j7.nxt (out2,m7 (v18+1)))
theorem e48(list p6 v18)(lc:D2 a4R c6y (c93 list p6)):NL lc (f5a list p6 v18) (fun s=>c4R v18 s):=fun out2 h=>PK<|rg<|(lc.nx h fun hI=>sk [] [4,5,16,17,18] [(1,0),(2,0)] hI)
def b1a(list:List m4)(p6:u5×List Int)(out:List n5)(v18:Int):Option (j7 (List n5) ((List n5)×Int) (List n5)):=
 (bif decide (v18<(list.length:Int)) then ((idx list v18).bind fun entry=>((((idx p6.2 v18).bind fun y=>(bif (y==0) then (t5 ((out.length+1)*16<=140737488355328) (some (l9.brk (out++[entry.a5])))) else some (l9.brk out))):Option (l9 (j7 (List n5) ((List n5)×Int) (List n5)) (List n5))).bind fun x=>x.go some fun j=>c4R v18 j)) else some (j7.brk out))
theorem e05(list p6):LQ a4R c6y (c93 list p6) (fun s=>b1a list p6 s.1 s.2):=fun lc (out,v18) h=>PK<|rg<|j5 0 h (fun h=>rg<|u0 s5 1 h fun entry F3 h=>A3 h (e48 list p6 v18 lc) fun x2 h hc2=>rg<|B0 h fun y hy h=>C0 hy<|I4 eI 3 hy<|j5 4 h (fun h=>rg<|tk 3 []<|t9 h fun e1 h=>F7 4 19 47 2 16 F6 out entry.a5 e1<|E5 entry.a5<|(o9 h hc2 fun hI=>sk [] [4,5,16,17,18] [(1,0),(19,0)] hI)) (fun h=>(o9 h hc2 fun hI=>sk [] [4,5,16,17,18] [(1,0),(2,0)] hI))) (fun h=>(lc.bk h fun hI=>sk [] [5] [(2,0)] hI))
def c0Y(list:List m4):Option (List n5):=
 ((b0l list).bind fun G4=>(bif (!G4) then some [] else ((a72 list).bind fun p6=>((o8 (fun s:(List n5)×Int=>b1a list p6 s.1 s.2) ([],0)).bind fun x=>x.go (fun r=>some r) fun s=>c6G s))))
theorem e8Y{list}:OK a4R [j9 7 s5 list] (c0Y list):=
 o7 _ fun r h=>n9<|l7 a5q c4M 1 h fun G4 h=>j5 2 h (fun h=>rg<|fE h) (fun h=>rg<|l7 a2V b9F 1 h fun p6 h=>n9<|lp (e05 list p6) h (fun _ h=>a4R.rt h) (f7R r) fun hI=>sk [.own (.tmp 5) 47 2] [4,5,16,17,18] [(6,2),(17,0)] hI)
def a7Q:FS ((List n8)×Bool):=⟨53,Tryz.f53,[.val [some 4] [some 80],.val [] []],[none,none],[.val C5 [],.val [] []],fun r=>.tup [v6 80 4 A6 r.1,.b r.2],fun _=>[none,none],Tryz.func53⟩
def d14:Unit->KS:=fun _=>⟨a7Q.k 3 [false],(bs 23 []),[some []]⟩
def d5R:Option ((List n8)×Bool):=
 some ([],false)
theorem e4p(r):NF a7Q r d14 (fun s=>d5R):=fun _ h=>PK<|rg<|fE h
def f7U(w:m5)(q:n5):Int->KS:=fun v11=>⟨a7Q.k 2 [],(bs 3 (.ptr 1 0 0::(bs 5 (j9 3 C1 w.d8::(vi (w.d8.length:Int)::(vi v11::(bs 11 []))))))),[some [],some [.var 47 [vi q.b9,vi q.Seq]]]⟩
def b54(w:m5)(q:n5)(v11:Int):Option (j7 ((List n8)×Bool) Int Unit):=
 (bif decide (v11<(w.d8.length:Int)) then ((idx w.d8 v11).bind fun asked=>(bif (([asked.a5.b9,asked.a5.Seq]:List Int)==[q.b9,q.Seq]) then ((a9g asked.i6).bind fun ins=>some (j7.ret (ins,true))) else some (j7.nxt (m7 (v11+1))))) else some (j7.brk ()))
theorem f6g(w q):LQ a7Q d14 (f7U w q) (fun s=>b54 w q s):=fun lc v11 h=>PK<|rg<|j5 0 h (fun h=>rg<|u0 C1 0 h fun asked a7V h=>rg<|j5 3 h (fun h=>rg<|l7 b8M c4b 2 h fun ins h=>s7 ins<|fL lc h) (fun h=>rg<|(lc.nx h fun hI=>sk [] [3,9,10,11] [(1,0)] hI))) (fun h=>(lc.bk h fun hI=>sk [] [] [] hI))
def b6n(w:m5)(q:n5):Option ((List n8)×Bool):=
 ((o8 (fun s:Int=>b54 w q s) 0).bind fun x=>x.go (fun r=>some r) fun s=>d5R)
theorem f8c{w q}:OK a7Q [.agg (K7 w),.agg (F6 q)] (b6n w q):=
 o7 _ fun r h=>n9<|lp (f6g w q) h (fun _ h=>a7Q.rt h) (e4p r) fun hI=>sk [] [3,9,10,11] [(2,0)] hI
def d61:FS ((List m9)×Int×Int):=⟨104,Tryz.f104,[.val [some 2] [],.val [] [],.val [] []],[none,none],[.val [some 2] [],.val [some 4] []],fun r=>.tup [j9 2 x7 r.1,vi r.2.1,vi r.2.2],fun _=>[none,none],Tryz.func104⟩
def b9G(list:List m9)(prog:List n8):Option ((List m9)×Int×Int):=
 ((b4E list prog).bind fun B3=>(bif (B3.Code==3) then some ([],0,3) else ((b2Y list B3).bind fun b0R=>some (b0R,B3.d9,B3.Code))))
theorem d9i{list prog}:OK d61 [j9 2 x7 list,j9 4 A6 prog] (b9G list prog):=
 o7 _ fun r h=>n9<|l7 Q3 d6Q 2 h fun B3 h=>rg<|j5 2 h (fun h=>rg<|fE h) (fun h=>rg<|l7 a6u d4D 2 h fun b0R h=>s7 b0R<|fE h)
def c5B:FS (List Int):=⟨105,Tryz.f105,[.val [some 1] [some 3]],[none],[.val [some 1] []],fun r=>v6 3 1 eI r,fun _=>[none],Tryz.func105⟩
def b5Q(list:List Int):Option (List Int):=
 (bif ((list.length:Int)==0) then some [] else (t5 (0<=(list.length:Int)/\(list.length:Int)*8<=140737488355328) ((t5 (list.length=(f8A (list.length:Int).toNat (0:Int)).length) (some list)))))
theorem f3u{list}:OK c5B [j9 1 eI list] (b5Q list):=
 o7 _ fun r h=>n9<|j5 2 h (fun h=>rg<|fE h) (fun h=>rg<|t9 h fun e1 h=>T1 2 7 3 1 8 eI (0:Int) ti3 (.none) e1 (by decide) (by rfl)<|rg<|t9 h fun e2 h=>om (s9.row 3 1 (f8A (list.length:Int).toNat (0:Int)).length (list.map eI)=m6 3 1 eI list) (a1p e2)<|s7 (f8A (list.length:Int).toNat (0:Int))<|ob e2<|tl (2,{e:=some (m6 3 1 eI list)})<|rg<|om ((f8A (list.length:Int).toNat (0:Int)).length=list.length) (by simp)<|fE h)
def a9e:FS ((List m9)×List Int):=⟨54,Tryz.f54,[.val [some 2] [],.val [some 1] []],[none,none],[.val [some 2] [],.val [some 1] []],fun r=>.tup [j9 2 x7 r.1,j9 1 eI r.2],fun _=>[none,none],Tryz.func54⟩
def d03:((List Int)×List m9)->KS:=fun (vals1,now1)=>⟨a9e.k 6 [false,false],(bs 6 (j9 2 x7 now1::(.own 1 0 1 0 vals1.length::(bs 39 [])))),[some [],some [m6 3 1 eI vals1]]⟩
def b8n(vals1:List Int)(now1:List m9):Option ((List m9)×List Int):=
 ((b5Q vals1).bind fun int=>some (now1,int))
theorem f5g(r):NF a9e r d03 (fun s=>b8n s.1 s.2):=fun (vals1,now1) h=>PK<|rg<|cbS c5B f3u 2 (fun _=>(by simp [c5B,L0,R0,O4,V.simple,vi,v6,eI])) (fun _=>(Q9 1)) h fun int h=>C9 vals1 int<|fE h
def f0i(progs:List (List n8)):((List Int)×Int×List m9)->KS:=fun (vals,v25,now)=>⟨a9e.k 5 [false],(bs 6 (j9 2 x7 now::(.own 1 0 1 0 vals.length::(bs 15 (j9 1 a1P progs::(vi (progs.length:Int)::(vi v25::(bs 21 [])))))))),[some [],some [m6 3 1 eI vals]]⟩
def b0M(progs:List (List n8))(vals:List Int)(v25:Int)(now:List m9):Option (j7 ((List m9)×List Int) ((List Int)×Int×List m9) ((List Int)×List m9)):=
 (bif decide (v25<(progs.length:Int)) then ((idx progs v25).bind fun y=>((b9G now y).bind fun H0=>(bif (H0.2.2==3) then some (j7.ret ([],[])) else (t5 ((vals.length+1)*8<=140737488355328) (some (j7.nxt (vals++[H0.2.1],m7 (v25+1),H0.1))))))) else some (j7.brk (vals,now)))
theorem f3K(progs):LQ a9e d03 (f0i progs) (fun s=>b0M progs s.1 s.2.1 s.2.2):=fun lc (vals,v25,now) h=>PK<|rg<|j5 0 h (fun h=>rg<|u0 a1P 0 h fun y hy h=>rg<|l7 d61 d9i 2 h fun H0 h=>rg<|j5 1 h (fun h=>rg<|fL lc h) (fun h=>n9<|tk 2 []<|t9 h fun e1 h=>F7 3 23 3 1 8 eI vals H0.2.1 e1<|E5 H0.2.1<|rg<|(lc.nx h fun hI=>sk [] [6,7,23,24,25] [(23,0)] hI))) (fun h=>(lc.bk h fun hI=>sk [] [6,7] [(1,0)] hI))
def b8R(list:List m9)(progs:List (List n8)):Option ((List m9)×List Int):=
 ((a6x list).bind fun R5=>(bif (!R5) then some ([],[]) else (bif decide ((progs.length:Int)>100) then some ([],[]) else ((a8O list).bind fun box=>((o8 (fun s:(List Int)×Int×List m9=>b0M progs s.1 s.2.1 s.2.2) ([],0,box)).bind fun x=>x.go (fun r=>some r) fun s=>b8n s.1 s.2)))))
theorem e9R{list progs}:OK a9e [j9 2 x7 list,j9 1 a1P progs] (b8R list progs):=
 o7 _ fun r h=>n9<|l7 a3D b49 1 h fun R5 h=>j5 3 h (fun h=>rg<|fE h) (fun h=>j5 7 h (fun h=>rg<|fE h) (fun h=>rg<|l7 b79 c4U 1 h fun box h=>n9<|lp (f3K progs) h (fun _ h=>a9e.rt h) (f5g r) fun hI=>s7 box<|sk [.frz (.tmp 6) (none),.own (.tmp 7) 3 1] [6,7,23,24,25] [(18,0)] hI))
def a8C:FS (Bool):=⟨106,Tryz.f106,[.val [] []],[none,none],[.val [some 2] [],.val [some 2] []],fun r=>.b r,fun _=>[none,none],Tryz.func106⟩
def d4C:Unit->KS:=fun _=>⟨a8C.k 4 [false,false],(bs 26 []),[some []]⟩
def d0a:Option Bool:=
 some true
theorem e9e(r):NF a8C r d4C (fun s=>d0a):=fun _ h=>PK<|rg<|fE h
def e6y(a:List m9)(b:List m9):Int->KS:=fun v13=>⟨a8C.k 3 [false],(j9 2 x7 a::(j9 2 x7 b::(bs 10 (vi (a.length:Int)::(vi v13::(bs 12 [])))))),[some []]⟩
def b7g(a:List m9)(b:List m9)(v13:Int):Option (j7 Bool Int Unit):=
 (bif decide (v13<(a.length:Int)) then ((idx a v13).bind fun box=>((idx b v13).bind fun Q1=>(bif (!(([box.j4,box.d9]:List Int)==[Q1.j4,Q1.d9])) then some (j7.ret false) else some (j7.nxt (m7 (v13+1)))))) else some (j7.brk ()))
theorem e3p(a b):LQ a8C d4C (e6y a b) (fun s=>b7g a b s):=fun lc v13 h=>PK<|rg<|j5 0 h (fun h=>n9<|u0 x7 2 h fun box a1B h=>u0 x7 6 h fun Q1 a61 h=>j5 8 h (fun h=>rg<|fL lc h) (fun h=>rg<|(lc.nx h fun hI=>sk [] [0,1,12,13] [] hI))) (fun h=>(lc.bk h fun hI=>sk [] [] [] hI))
def c4j(a:List m9)(b:List m9):Option Bool:=
 (bif ((a.length:Int) != (b.length:Int)) then some false else ((o8 (fun s:Int=>b7g a b s) 0).bind fun x=>x.go (fun r=>some r) fun s=>d0a))
theorem e2t{a b}:OK a8C [j9 2 x7 a,j9 2 x7 b] (c4j a b):=
 o7 _ fun r h=>n9<|j5 4 h (fun h=>rg<|fE h) (fun h=>rg<|lp (e3p a b) h (fun _ h=>a8C.rt h) (e9e r) fun hI=>sk [] [0,1,12,13] [] hI)
def d3o:FS (Bool):=⟨56,Tryz.f56,[.val [] []],[none,none],[.val [some 2] [],.val [some 2] []],fun r=>.b r,fun _=>[none,none],Tryz.func56⟩
def c0Z(a:List m9)(b:List m9):Option Bool:=
 ((c4j a b).bind fun box=>some box)
theorem e9A{a b}:OK d3o [j9 2 x7 a,j9 2 x7 b] (c0Z a b):=
 o7 _ fun r h=>n9<|l7 a8C e2t 2 h fun box h=>fE h
def a2L:FS (Bool):=⟨19,Tryz.f19,[.val [] []],[none],[.val C5 []],fun r=>.b r,fun _=>[none],Tryz.func19⟩
def c7S(worldLog:List m4)(z9:List n5):(List (List n8))->KS:=fun b1l=>⟨a2L.k 7 [false,false],(bs 3 (j9 7 s5 worldLog::(j9 2 F6 z9::(.own 1 0 1 0 b1l.length::(bs 74 []))))),[some [],some [m6 33 1 a1P b1l]]⟩
def d2q:Unit->KS:=fun _=>⟨a2L.k 11 [false,false,false,false],(bs 80 []),[some []]⟩
def d2y:Option Bool:=
 some true
theorem f3o(r):NF a2L r d2q (fun s=>d2y):=fun _ h=>PK<|rg<|fE h
def e7i(worldLog:List m4)(z9:List n5)(F5:(List m9)×List Int):Int->KS:=fun v61=>⟨a2L.k 10 [false,false,false],(bs 3 (j9 7 s5 worldLog::(bs 7 (j9 1 eI F5.2::(bs 47 (j9 2 F6 z9::(vi (z9.length:Int)::(vi v61::(bs 18 []))))))))),[some []]⟩
def b8F(worldLog:List m4)(z9:List n5)(F5:(List m9)×List Int)(v61:Int):Option (j7 Bool Int Unit):=
 (bif decide (v61<(z9.length:Int)) then ((idx z9 v61).bind fun req=>((idx F5.2 v61).bind fun y=>((a5U worldLog req).bind fun first=>((idx worldLog first).bind fun entry=>(bif (y != entry.b6.d9) then some (j7.ret false) else some (j7.nxt (m7 (v61+1)))))))) else some (j7.brk ()))
theorem e7v(worldLog z9 F5):LQ a2L d2q (e7i worldLog z9 F5) (fun s=>b8F worldLog z9 F5 s):=fun lc v61 h=>PK<|rg<|j5 0 h (fun h=>rg<|u0 F6 1 h fun req d8n h=>rg<|u0 eI 2 h fun y hy h=>l7 a1F b5d 7 h fun first h=>u0 s5 8 h fun entry F3 h=>j5 12 h (fun h=>rg<|fL lc h) (fun h=>rg<|(lc.nx h fun hI=>sk [] [3,11,59,60,61] [] hI))) (fun h=>(lc.bk h fun hI=>sk [] [] [] hI))
def b5r(worldLog:List m4)(z9:List n5)(b1l:List (List n8)):Option Bool:=
 ((b3z).bind fun a05=>((b8R a05 b1l).bind fun F5=>((b36 worldLog).bind fun a0T=>((c0Z F5.1 a0T.g7).bind fun b2x=>(bif (!b2x) then some false else (bif ((F5.2.length:Int) != (z9.length:Int)) then some false else ((o8 (fun s:Int=>b8F worldLog z9 F5 s) 0).bind fun x=>x.go (fun r=>some r) fun s=>d2y)))))))
theorem e7q(worldLog z9)(r):NF a2L r (c7S worldLog z9) (fun s=>b5r worldLog z9 s):=fun b1l h=>PK<|rg<|l7 c3f c8D 0 h fun a05 h=>l7 a9e e9R 2 h fun F5 h=>C9 a05 b1l<|rg<|l7 c2R d6L 2 h fun a0T h=>R4 d3o e9A 4 2 h fun b2x h=>s7 a0T.g7<|j5 6 h (fun h=>rg<|fE h) (fun h=>j5 12 h (fun h=>rg<|fE h) (fun h=>rg<|lp (e7v worldLog z9 F5) h (fun _ h=>a2L.rt h) (f3o r) fun hI=>sk [] [3,11,59,60,61] [] hI))
def e1f(w:m5)(worldLog:List m4)(z9:List n5):((List (List n8))×Int)->KS:=fun (progs,v23)=>⟨a2L.k 6 [false],(bs 1 (.ptr 1 0 0::(bs 1 (j9 7 s5 worldLog::(j9 2 F6 z9::(.own 2 0 1 0 progs.length::(bs 15 (j9 2 F6 z9::(vi (z9.length:Int)::(vi v23::(bs 56 []))))))))))),[some [],some [.var 30 (B9 w)],some [m6 33 1 a1P progs]]⟩
def a7j(w:m5)(z9:List n5)(progs:List (List n8))(v23:Int):Option (j7 Bool ((List (List n8))×Int) (List (List n8))):=
 (bif decide (v23<(z9.length:Int)) then ((idx z9 v23).bind fun c7M=>((b6n w c7M).bind fun a18=>(bif (!a18.2) then some (j7.ret false) else (t5 ((progs.length+1)*24<=140737488355328) (some (j7.nxt (progs++[a18.1],m7 (v23+1)))))))) else some (j7.brk progs))
theorem e8E(w worldLog z9):LQ a2L (c7S worldLog z9) (e1f w worldLog z9) (fun s=>a7j w z9 s.1 s.2):=fun lc (progs,v23) h=>PK<|rg<|j5 0 h (fun h=>rg<|u0 F6 0 h fun c7M f8r h=>rg<|l7 a7Q f8c 2 h fun a18 h=>rg<|j5 1 h (fun h=>rg<|fL lc h) (fun h=>rg<|s7 a18.1<|tk 2 [some 4]<|t9 h fun e1 h=>F7 3 21 33 1 24 a1P progs a18.1 e1<|E5 a18.1<|rg<|(lc.nx h fun hI=>sk [] [1,3,4,5,21,22,23] [(1,0),(21,0)] hI))) (fun h=>(lc.bk h fun hI=>sk [] [3,4,5] [(2,0)] hI))
def b7k(w:m5):Option Bool:=
 ((a2U w).bind fun A0=>(bif (!A0) then some false else ((b2Q w).bind fun worldLog=>((c0Y worldLog).bind fun z9=>((o8 (fun s:(List (List n8))×Int=>a7j w z9 s.1 s.2) ([],0)).bind fun x=>x.go (fun r=>some r) fun s=>b5r worldLog z9 s)))))
theorem e37{w}:OK a2L [.agg (K7 w)] (b7k w):=
 o7 _ fun r h=>n9<|l7 M0 a6U 1 h fun A0 h=>j5 2 h (fun h=>rg<|fE h) (fun h=>rg<|l7 a4u d0i 1 h fun worldLog h=>rg<|l7 a4R e8Y 1 h fun z9 h=>n9<|lp (e8E w worldLog z9) h (fun _ h=>a2L.rt h) (e7q worldLog z9 r) fun hI=>sk [.own (.tmp 5) 33 1] [1,3,4,5,21,22,23] [(1,0),(16,0)] hI)
def a42:FS (Bool):=⟨20,Tryz.f20,[.val [] []],[none],[.val C5 []],fun r=>.b r,fun _=>[none],Tryz.func20⟩
def c60:Unit->KS:=fun _=>⟨a42.k 6 [false,false],(bs 56 []),[some []]⟩
def d3L:Option Bool:=
 some true
theorem f7e(r):NF a42 r c60 (fun s=>d3L):=fun _ h=>PK<|rg<|fE h
def d2d(w:m5)(worldLog:List m4)(p6:u5×List Int):Int->KS:=fun v23=>⟨a42.k 5 [false],(bs 3 (j9 7 s5 worldLog::(bs 1 (.own 1 0 1 0 p6.2.length::(bs 15 (j9 5 z5 w.Told::(vi (w.Told.length:Int)::(vi v23::(bs 32 []))))))))),[some [],some [m6 3 1 eI p6.2]]⟩
def d92(w:m5)(worldLog:List m4)(p6:u5×List Int)(v23:Int)(told:n6):Int->KS:=fun val=>⟨a42.k 12 [false,true,false,true],(bs 3 (j9 7 s5 worldLog::(bs 1 (.own 1 0 1 0 p6.2.length::(bs 1 (.ptr 2 0 0::(bs 1 (vi val::(bs 11 (j9 5 z5 w.Told::(vi (w.Told.length:Int)::(vi v23::(bs 32 []))))))))))))),[some [],some [m6 3 1 eI p6.2],some [.var 76 [vi told.Node,vi told.a5.b9,vi told.a5.Seq,vi told.Code,vi told.d9]]]⟩
def c4C(v23:Int)(told:n6)(val:Int):Option (j7 Bool Int Unit):=
 (bif (told.d9 != val) then some (j7.ret false) else some (j7.nxt (m7 (v23+1))))
theorem e65(w worldLog p6 v23 told)(lc:D2 a42 c60 (d2d w worldLog p6)):NL lc (d92 w worldLog p6 v23 told) (fun s=>c4C v23 told s):=fun val h=>PK<|rg<|j5 3 h (fun h=>rg<|fL lc h) (fun h=>rg<|(lc.nx h fun hI=>sk [] [3,5,21,22,23] [(1,0)] hI))
def c0B(w:m5)(worldLog:List m4)(p6:u5×List Int)(v23:Int):Option (j7 Bool Int Unit):=
 (bif decide (v23<(w.Told.length:Int)) then ((idx w.Told v23).bind fun told=>((a5U worldLog told.a5).bind fun first=>(bif decide (first<0) then some (j7.ret false) else ((idx p6.2 first).bind fun y=>(bif (y != told.Code) then some (j7.ret false) else (((bif (told.Code==0) then ((idx worldLog first).bind fun entry=>some (l9.brk entry.b6.d9)) else some (l9.brk 0)):Option (l9 (j7 Bool Int Unit) Int)).bind fun x=>x.go some fun j=>c4C v23 told j)))))) else some (j7.brk ()))
theorem f8n(w worldLog p6):LQ a42 c60 (d2d w worldLog p6) (fun s=>c0B w worldLog p6 s):=fun lc v23 h=>PK<|rg<|j5 0 h (fun h=>rg<|u0 z5 0 h fun told a4y h=>rg<|l7 a1F b5d 3 h fun first h=>rg<|j5 2 h (fun h=>rg<|fL lc h) (fun h=>B0 h fun y hy h=>C0 hy<|I4 eI 6 hy<|j5 10 h (fun h=>rg<|fL lc h) (fun h=>rg<|A3 h (e65 w worldLog p6 v23 told lc) fun x2 h hc2=>rg<|j5 2 h (fun h=>rg<|u0 s5 2 h fun entry F3 h=>(o9 h hc2 fun hI=>sk [] [3,5,7,9,21,22,23] [(1,0),(5,0)] hI)) (fun h=>(o9 h hc2 fun hI=>sk [] [3,5,7,9,21,22,23] [(1,0),(5,0)] hI))))) (fun h=>(lc.bk h fun hI=>sk [] [] [] hI))
def b2a(w:m5):Option Bool:=
 ((a2U w).bind fun A0=>(bif (!A0) then some false else ((b2Q w).bind fun worldLog=>((a72 worldLog).bind fun p6=>((o8 (fun s:Int=>c0B w worldLog p6 s) 0).bind fun x=>x.go (fun r=>some r) fun s=>d3L)))))
theorem e6S{w}:OK a42 [.agg (K7 w)] (b2a w):=
 o7 _ fun r h=>n9<|l7 M0 a6U 1 h fun A0 h=>j5 2 h (fun h=>rg<|fE h) (fun h=>rg<|l7 a4u d0i 1 h fun worldLog h=>rg<|l7 a2V b9F 1 h fun p6 h=>rg<|lp (f8n w worldLog p6) h (fun _ h=>a42.rt h) (f7e r) fun hI=>sk [] [3,5,21,22,23] [(10,2)] hI)
def a8e:FS (Bool):=⟨21,Tryz.f21,[.val [] []],[none],[.val C5 []],fun r=>.b r,fun _=>[none],Tryz.func21⟩
def d5B:Unit->KS:=fun _=>⟨a8e.k 5 [false,false],(bs 25 []),[some []]⟩
def d1F:Option Bool:=
 some true
theorem f3L(r):NF a8e r d5B (fun s=>d1F):=fun _ h=>PK<|rg<|fE h
def e6l(w:m5):((List n5)×Int)->KS:=fun (w1,v13)=>⟨a8e.k 4 [false],(bs 3 (.mp 1 0::(bs 7 (j9 5 z5 w.Told::(vi (w.Told.length:Int)::(vi v13::(bs 11 []))))))),[some [],some [.map 109 2 (w1.map fun x=>(F9 x,.b true))]]⟩
def b3m(w:m5)(w1:List n5)(v13:Int):Option (j7 Bool ((List n5)×Int) Unit):=
 (bif decide (v13<(w.Told.length:Int)) then ((idx w.Told v13).bind fun told=>(bif (w1.any fun x=>F9 told.a5==F9 x) then some (j7.ret false) else some (j7.nxt (a9x F9 w1 told.a5,m7 (v13+1))))) else some (j7.brk ()))
theorem f2G(w):LQ a8e d5B (e6l w) (fun s=>b3m w s.1 s.2):=fun lc (w1,v13) h=>PK<|rg<|j5 0 h (fun h=>rg<|u0 z5 0 h fun told a4y h=>rg<|cdT (3,{v:=some (.b (w1.any fun x=>F9 told.a5==F9 x))}) h (fun _ h=>om (a27 (w1.map fun x=>(F9 x,.b true)) (F9 told.a5) (.b false)=.b (w1.any fun x=>F9 told.a5==F9 x)) (c6n F9 _ _)<|rg<|fL lc h) (fun _ h=>om (a27 (w1.map fun x=>(F9 x,.b true)) (F9 told.a5) (.b false)=.b (w1.any fun x=>F9 told.a5==F9 x)) (c6n F9 _ _)<|rg<|om (s9.map 109 2 (a1X (w1.map fun x=>(F9 x,.b true)) (F9 told.a5) (.b true))=.map 109 2 ((a9x F9 w1 told.a5).map fun x=>(F9 x,.b true))) (congrArg (s9.map 109 2) (d0L F9 _ _))<|tl (3,{e:=some (.map 109 2 ((a9x F9 w1 told.a5).map fun x=>(F9 x,.b true)))})<|rg<|(lc.nx h fun hI=>sk [] [3,11,12,13] [(1,0)] hI))) (fun h=>(lc.bk h fun hI=>sk [] [] [] hI))
def b16(w:m5):Option Bool:=
 ((a2U w).bind fun A0=>(bif (!A0) then some false else ((o8 (fun s:(List n5)×Int=>b3m w s.1 s.2) (([]:List n5),0)).bind fun x=>x.go (fun r=>some r) fun s=>d1F)))
theorem e2a{w}:OK a8e [.agg (K7 w)] (b16 w):=
 o7 _ fun r h=>n9<|l7 M0 a6U 1 h fun A0 h=>j5 2 h (fun h=>rg<|fE h) (fun h=>n9<|lp (f2G w) h (fun _ h=>a8e.rt h) (f3L r) fun hI=>sk [] [3,11,12,13] [(6,0)] hI)
def c1y:FS (Bool):=⟨7,Tryz.f7,[.val [] []],[none],[.val C5 []],fun r=>.b r,fun _=>[none],Tryz.func7⟩
def b2d(w:m5):Option Bool:=
 ((b3H w).bind fun b3F=>(bif b3F then ((b2B w).bind fun b25=>(bif b25 then ((b3I w).bind fun b4b=>(bif b4b then ((b5o w).bind fun b1O=>(bif b1O then ((b7k w).bind fun a2x=>(bif a2x then ((b2a w).bind fun b2L=>(bif b2L then ((b16 w).bind fun b3Z=>some b3Z) else some false)) else some false)) else some false)) else some false)) else some false)) else some false))
theorem d7f{w}:OK c1y [.agg (K7 w)] (b2d w):=
 o7 _ fun r h=>n9<|l7 a0X f0G 1 h fun b3F h=>j5 2 h (fun h=>l7 a0f d8N 4 h fun b25 h=>j5 6 h (fun h=>l7 a3a e1A 8 h fun b4b h=>j5 10 h (fun h=>l7 a0S e0Q 12 h fun b1O h=>j5 14 h (fun h=>l7 a2L e37 16 h fun a2x h=>j5 18 h (fun h=>l7 a42 e6S 20 h fun b2L h=>j5 22 h (fun h=>l7 a8e e2a 24 h fun b3Z h=>fE h) (fun h=>fE h)) (fun h=>fE h)) (fun h=>fE h)) (fun h=>fE h)) (fun h=>fE h)) (fun h=>fE h)
def b2V:FS (Bool):=⟨63,Tryz.f63,[.val [] []],[none,none],[.val J3 [],.val J3 []],fun r=>.b r,fun _=>[none,none],Tryz.func63⟩
def a8J(a:m4)(b:m4):Option Bool:=
 (bif (a.i7==b.i7) then (bif (([a.a5.b9,a.a5.Seq]:List Int)==[b.a5.b9,b.a5.Seq]) then ((a8U a.b6 b.b6).bind fun a1e=>some a1e) else some false) else some false)
theorem b8j{a b}:OK b2V [.agg (s5 a),.agg (s5 b)] (a8J a b):=
 o7 _ fun r h=>n9<|j5 5 h (fun h=>j5 12 h (fun h=>l7 a04 b56 17 h fun a1e h=>fE h) (fun h=>fE h)) (fun h=>fE h)
def a7E:FS (Bool):=⟨60,Tryz.f60,[.val [] []],[none,none],[.val [some 7] [],.val [some 7] []],fun r=>.b r,fun _=>[none,none],Tryz.func60⟩
def d7Z:Unit->KS:=fun _=>⟨a7E.k 3 [false],(bs 28 []),[some []]⟩
def c8A:Option Bool:=
 some true
theorem e0b(r):NF a7E r d7Z (fun s=>c8A):=fun _ h=>PK<|rg<|fE h
def f2q(a:List m4)(b:List m4):Int->KS:=fun i=>⟨a7E.k 2 [],(j9 7 s5 a::(j9 7 s5 b::(bs 3 (vi i::(bs 22 []))))),[some []]⟩
def c0W(a:List m4)(b:List m4)(i:Int):Option (j7 Bool Int Unit):=
 (bif decide (i<(a.length:Int)) then (bif decide (i<(b.length:Int)) then ((idx a i).bind fun entry=>((idx b i).bind fun a6g=>((a8J entry a6g).bind fun G8=>(bif (!G8) then some (j7.ret false) else some (j7.nxt (m7 (i+1))))))) else some (j7.brk ())) else some (j7.brk ()))
theorem f2T(a b):LQ a7E d7Z (f2q a b) (fun s=>c0W a b s):=fun lc i h=>PK<|rg<|j5 4 h (fun h=>j5 9 h (fun h=>rg<|u0 s5 2 h fun entry F3 h=>u0 s5 6 h fun a6g b0x h=>l7 b2V b8j 8 h fun G8 h=>j5 9 h (fun h=>rg<|fL lc h) (fun h=>rg<|(lc.nx h fun hI=>sk [] [0,1,5] [] hI))) (fun h=>(lc.bk h fun hI=>sk [] [] [] hI))) (fun h=>(lc.bk h fun hI=>sk [] [] [] hI))
def b9H(a:List m4)(b:List m4):Option Bool:=
 ((o8 (fun s:Int=>c0W a b s) 0).bind fun x=>x.go (fun r=>some r) fun s=>c8A)
theorem e44{a b}:OK a7E [j9 7 s5 a,j9 7 s5 b] (b9H a b):=
 o7 _ fun r h=>n9<|lp (f2T a b) h (fun _ h=>a7E.rt h) (e0b r) fun hI=>sk [] [0,1,5] [] hI
def a3p:FS (Bool):=⟨22,Tryz.f22,[.val [] []],[none],[.val C5 []],fun r=>.b r,fun _=>[none],Tryz.func22⟩
def c2c(w:m5):Unit->KS:=fun _=>⟨a3p.k 3 [false],(bs 1 (.ptr 1 0 0::(bs 31 []))),[some [],some [.var 30 (B9 w)]]⟩
def c6g(w:m5):Option Bool:=
 ((a22 w).bind fun A0=>some A0)
theorem f4X(w)(r):NF a3p r (c2c w) (fun s=>c6g w):=fun _ h=>PK<|rg<|l7 J1 a5u 1 h fun A0 h=>fE h
def d8q(w:m5):Int->KS:=fun i=>⟨a3p.k 2 [],(bs 1 (.ptr 1 0 0::(bs 1 (vi i::(bs 29 []))))),[some [],some [.var 30 (B9 w)]]⟩
def d0l(w:m5)(i:Int):Unit->KS:=fun _=>⟨a3p.k 5 [true,false],(bs 1 (.ptr 1 0 0::(bs 1 (vi i::(bs 29 []))))),[some [],some [.var 30 (B9 w)]]⟩
def d7Q(i:Int):Option (j7 Bool Int Unit):=
 some (j7.nxt (m7 (i+1)))
theorem e0n(w i)(lc:D2 a3p (c2c w) (d8q w)):NL lc (d0l w i) (fun s=>d7Q i):=fun _ h=>PK<|rg<|(lc.nx h fun hI=>sk [] [1,3] [(1,0)] hI)
def f2J(w:m5)(i:Int):Int->KS:=fun k=>⟨a3p.k 4 [true],(bs 1 (.ptr 1 0 0::(bs 1 (vi i::(vi k::(bs 28 [])))))),[some [],some [.var 30 (B9 w)]]⟩
def b5f(w:m5)(i:Int)(k:Int):Option (j7 Bool Int Unit):=
 (bif decide (k<i) then ((idx w.a0 i).bind fun node=>((idx w.a0 k).bind fun node1=>((b9H node.a6 node1.a6).bind fun d8u=>(bif (!d8u) then some (j7.ret false) else some (j7.nxt (m7 (k+1))))))) else some (j7.brk ()))
theorem e1O(w i):LQ a3p (d0l w i) (f2J w i) (fun s=>b5f w i s):=fun lc k h=>PK<|rg<|j5 2 h (fun h=>rg<|u0 x6 3 h fun node hnode h=>u0 x6 9 h fun node1 a0A h=>l7 a7E e44 12 h fun d8u h=>j5 13 h (fun h=>rg<|fL lc h) (fun h=>rg<|(lc.nx h fun hI=>sk [] [1,3,4] [(1,0)] hI))) (fun h=>(lc.bk h fun hI=>sk [] [1,3] [(1,0)] hI))
def b82(w:m5)(i:Int):Option (j7 Bool Int Unit):=
 (bif decide (i<(w.a0.length:Int)) then ((o8 (fun s:Int=>b5f w i s) 0).bind fun x=>x.go (fun r=>some (j7.ret r)) fun s=>d7Q i) else some (j7.brk ()))
theorem f3p(w):LQ a3p (c2c w) (d8q w) (fun s=>b82 w s):=fun lc i h=>PK<|rg<|j5 4 h (fun h=>rg<|lp (e1O w i) h (fun _ h=>lc.rt h) (e0n w i lc) fun hI=>sk [] [1,3,4] [(1,0)] hI) (fun h=>(lc.bk h fun hI=>sk [] [1] [(1,0)] hI))
def b47(w:m5):Option Bool:=
 ((o8 (fun s:Int=>b82 w s) 0).bind fun x=>x.go (fun r=>some r) fun s=>c6g w)
theorem e5y{w}:OK a3p [.agg (K7 w)] (b47 w):=
 o7 _ fun r h=>n9<|lp (f3p w) h (fun _ h=>a3p.rt h) (f4X w r) fun hI=>sk [] [1,3] [(1,0)] hI
def b2P:FS (m8):=⟨62,Tryz.f62,[.val U9 []],[none,none],[.val A8 [],.val [] []],fun r=>.agg (q8 r),fun _=>[none,none],Tryz.func62⟩
def a9c(n:j6)(slot:Int):Option m8:=
 (bif decide (slot<(n.Acc.a7.length:Int)) then ((idx n.Acc.a7 slot).bind fun vote=>some vote) else some (m8.mk 0 (m4.mk false (n5.mk 0 0) (n7.mk [] [] 0 0))))
theorem b8c{n slot}:OK b2P [.agg (x6 n),vi slot] (a9c n slot):=
 o7 _ fun r h=>n9<|j5 5 h (fun h=>rg<|u0 q8 4 h fun vote K1 h=>fE h) (fun h=>rg<|fE h)
def Z3:FS (Bool):=⟨23,Tryz.f23,[.val [] []],[none],[.val C5 []],fun r=>.b r,fun _=>[none],Tryz.func23⟩
def c3O:Unit->KS:=fun _=>⟨Z3.k 4 [false,false],(bs 59 []),[some []]⟩
def d1G:Option Bool:=
 some true
theorem f6Z(r):NF Z3 r c3O (fun s=>d1G):=fun _ h=>PK<|rg<|fE h
def c9C(w:m5):Int->KS:=fun s_=>⟨Z3.k 3 [false],(bs 1 (.ptr 1 0 0::(bs 1 (vi s_::(bs 55 []))))),[some [],some [.var 30 (B9 w)]]⟩
def c6m(w:m5)(s_:Int):Unit->KS:=fun _=>⟨Z3.k 6 [false,true,false],(bs 1 (.ptr 1 0 0::(bs 1 (vi s_::(bs 55 []))))),[some [],some [.var 30 (B9 w)]]⟩
def c19(s_:Int):Option (j7 Bool Int Unit):=
 some (j7.nxt (m7 (s_+1)))
theorem f7u(w s_)(lc:D2 Z3 c3O (c9C w)):NL lc (c6m w s_) (fun s=>c19 s_):=fun _ h=>PK<|rg<|(lc.nx h fun hI=>sk [] [1,3] [(1,0)] hI)
def c9e(w:m5)(s_:Int):Int->KS:=fun i=>⟨Z3.k 5 [false,true],(bs 1 (.ptr 1 0 0::(bs 1 (vi s_::(vi i::(bs 54 [])))))),[some [],some [.var 30 (B9 w)]]⟩
def c4N(w:m5)(s_:Int)(i:Int):Unit->KS:=fun _=>⟨Z3.k 8 [false,true,true,false],(bs 1 (.ptr 1 0 0::(bs 1 (vi s_::(vi i::(bs 54 [])))))),[some [],some [.var 30 (B9 w)]]⟩
def c2Y(i:Int):Option (j7 Bool Int Unit):=
 some (j7.nxt (m7 (i+1)))
theorem e5v(w s_ i)(lc:D2 Z3 (c6m w s_) (c9e w s_)):NL lc (c4N w s_ i) (fun s=>c2Y i):=fun _ h=>PK<|rg<|(lc.nx h fun hI=>sk [] [1,3,4] [(1,0)] hI)
def d48(w:m5)(s_:Int)(i:Int):Int->KS:=fun k=>⟨Z3.k 7 [false,true,true],(bs 1 (.ptr 1 0 0::(bs 1 (vi s_::(vi i::(vi k::(bs 53 []))))))),[some [],some [.var 30 (B9 w)]]⟩
def f4r(w:m5)(s_:Int)(i:Int)(k:Int):Unit->KS:=fun _=>⟨Z3.k 11 [false,true,true,true,false],(bs 1 (.ptr 1 0 0::(bs 1 (vi s_::(vi i::(vi k::(bs 53 []))))))),[some [],some [.var 30 (B9 w)]]⟩
def c2w(k:Int):Option (j7 Bool Int Unit):=
 some (j7.nxt (m7 (k+1)))
theorem e3m(w s_ i k)(lc:D2 Z3 (c4N w s_ i) (d48 w s_ i)):NL lc (f4r w s_ i k) (fun s=>c2w k):=fun _ h=>PK<|rg<|(lc.nx h fun hI=>sk [] [1,3,4,5] [(1,0)] hI)
def b4e(w:m5)(s_:Int)(i:Int)(k:Int):Option (j7 Bool Int Unit):=
 (bif decide (k<i) then ((idx w.a0 i).bind fun node=>((a9c node s_).bind fun a1N=>((idx w.a0 k).bind fun node1=>((a9c node1 s_).bind fun c30=>(((bif decide (a1N.a8>0) then (bif (a1N.a8==c30.a8) then ((a8J a1N.g9 c30.g9).bind fun G8=>(bif (!G8) then some (l9.ret (j7.ret false)) else some (l9.brk ()))) else some (l9.brk ())) else some (l9.brk ())):Option (l9 (j7 Bool Int Unit) Unit)).bind fun x=>x.go some fun j=>c2w k))))) else some (j7.brk ()))
theorem e22(w s_ i):LQ Z3 (c4N w s_ i) (d48 w s_ i) (fun s=>b4e w s_ i s):=fun lc k h=>PK<|rg<|j5 2 h (fun h=>rg<|u0 x6 3 h fun node hnode h=>l7 b2P b8c 6 h fun a1N h=>rg<|u0 x6 3 h fun node1 a0A h=>l7 b2P b8c 6 h fun c30 h=>A3 h (e3m w s_ i k lc) fun x4 h hc4=>rg<|j5 3 h (fun h=>j5 10 h (fun h=>l7 b2V b8j 15 h fun G8 h=>j5 17 h (fun h=>rg<|(B2 h hc4 fun h=>fL lc h)) (fun h=>(o9 h hc4 fun hI=>sk [] [1,3,4,5] [(1,0)] hI))) (fun h=>(o9 h hc4 fun hI=>sk [] [1,3,4,5] [(1,0)] hI))) (fun h=>(o9 h hc4 fun hI=>sk [] [1,3,4,5] [(1,0)] hI))) (fun h=>(lc.bk h fun hI=>sk [] [1,3,4] [(1,0)] hI))
def b4S(w:m5)(s_:Int)(i:Int):Option (j7 Bool Int Unit):=
 (bif decide (i<(w.a0.length:Int)) then ((o8 (fun s:Int=>b4e w s_ i s) 0).bind fun x=>x.go (fun r=>some (j7.ret r)) fun s=>c2Y i) else some (j7.brk ()))
theorem e2s(w s_):LQ Z3 (c6m w s_) (c9e w s_) (fun s=>b4S w s_ s):=fun lc i h=>PK<|rg<|j5 4 h (fun h=>rg<|lp (e22 w s_ i) h (fun _ h=>lc.rt h) (e5v w s_ i lc) fun hI=>sk [] [1,3,4,5] [(1,0)] hI) (fun h=>(lc.bk h fun hI=>sk [] [1,3] [(1,0)] hI))
def b2O(w:m5)(s_:Int):Option (j7 Bool Int Unit):=
 (bif decide (s_<40) then ((o8 (fun s:Int=>b4S w s_ s) 0).bind fun x=>x.go (fun r=>some (j7.ret r)) fun s=>c19 s_) else some (j7.brk ()))
theorem e2e(w):LQ Z3 c3O (c9C w) (fun s=>b2O w s):=fun lc s_ h=>PK<|rg<|j5 1 h (fun h=>rg<|lp (e2s w s_) h (fun _ h=>lc.rt h) (f7u w s_ lc) fun hI=>sk [] [1,3,4] [(1,0)] hI) (fun h=>(lc.bk h fun hI=>sk [] [] [] hI))
def b3U(w:m5):Option Bool:=
 ((a22 w).bind fun A0=>(bif (!A0) then some false else ((o8 (fun s:Int=>b2O w s) 0).bind fun x=>x.go (fun r=>some r) fun s=>d1G)))
theorem f7k{w}:OK Z3 [.agg (K7 w)] (b3U w):=
 o7 _ fun r h=>n9<|l7 J1 a5u 1 h fun A0 h=>j5 2 h (fun h=>rg<|fE h) (fun h=>rg<|lp (e2e w) h (fun _ h=>Z3.rt h) (f6Z r) fun hI=>sk [] [1,3] [(1,0)] hI)
def a4O:FS (Int):=⟨64,Tryz.f64,[.val [] []],[none,none,none],[.val C5 [],.val [] [],.val J3 []],fun r=>vi r,fun _=>[none,none,none],Tryz.func64⟩
def c4a:Int->KS:=fun n1=>⟨a4O.k 4 [false],(bs 7 (vi n1::(bs 28 []))),[some []]⟩
def d6f(n1:Int):Option Int:=
 some n1
theorem e9Q(r):NF a4O r c4a (fun s=>d6f s):=fun n1 h=>PK<|rg<|fE h
def d1q(w:m5)(slot:Int)(e_:m4):(Int×Int)->KS:=fun (n,i)=>⟨a4O.k 3 [],(bs 1 (vi slot::(bs 1 (.ptr 1 0 0::(bs 1 (.ptr 2 0 0::(bs 1 (vi n::(vi i::(bs 27 [])))))))))),[some [],some [.var 30 (B9 w)],some [.var 53 (a1C e_)]]⟩
def f7p(w:m5)(slot:Int)(e_:m4)(i:Int):Int->KS:=fun n2=>⟨a4O.k 7 [true,true],(bs 1 (vi slot::(bs 1 (.ptr 1 0 0::(bs 1 (.ptr 2 0 0::(bs 1 (vi n2::(vi i::(bs 27 [])))))))))),[some [],some [.var 30 (B9 w)],some [.var 53 (a1C e_)]]⟩
def c3o(i:Int)(n2:Int):Option (j7 Int (Int×Int) Int):=
 some (j7.nxt (n2,m7 (i+1)))
theorem e9m(w slot e_ i)(lc:D2 a4O c4a (d1q w slot e_)):NL lc (f7p w slot e_ i) (fun s=>c3o i s):=fun n2 h=>PK<|rg<|(lc.nx h fun hI=>sk [] [1,3,5,7,8] [(1,0),(2,0)] hI)
def b0A(w:m5)(slot:Int)(e_:m4)(n:Int)(i:Int):Option (j7 Int (Int×Int) Int):=
 (bif decide (i<(w.a0.length:Int)) then ((idx w.a0 i).bind fun node=>((a9c node slot).bind fun a1N=>(((bif decide (a1N.a8>0) then ((a8J a1N.g9 e_).bind fun G8=>(bif G8 then some (l9.brk (m7 (n+1))) else some (l9.brk n))) else some (l9.brk n)):Option (l9 (j7 Int (Int×Int) Int) Int)).bind fun x=>x.go some fun j=>c3o i j))) else some (j7.brk n))
theorem d9D(w slot e_):LQ a4O c4a (d1q w slot e_) (fun s=>b0A w slot e_ s.1 s.2):=fun lc (n,i) h=>PK<|rg<|j5 4 h (fun h=>rg<|u0 x6 3 h fun node hnode h=>l7 b2P b8c 6 h fun a1N h=>A3 h (e9m w slot e_ i lc) fun x2 h hc2=>rg<|j5 3 h (fun h=>l7 b2V b8j 7 h fun G8 h=>j5 8 h (fun h=>rg<|(o9 h hc2 fun hI=>sk [] [1,3,5,7,8] [(1,0),(2,0)] hI)) (fun h=>(o9 h hc2 fun hI=>sk [] [1,3,5,7,8] [(1,0),(2,0)] hI))) (fun h=>(o9 h hc2 fun hI=>sk [] [1,3,5,7,8] [(1,0),(2,0)] hI))) (fun h=>(lc.bk h fun hI=>sk [] [7] [] hI))
def b8a(w:m5)(slot:Int)(e_:m4):Option Int:=
 ((o8 (fun s:Int×Int=>b0A w slot e_ s.1 s.2) (0,0)).bind fun x=>x.go (fun r=>some r) fun s=>d6f s)
theorem f4q{w slot e_}:OK a4O [.agg (K7 w),vi slot,.agg (s5 e_)] (b8a w slot e_):=
 o7 _ fun r h=>L8<|lp (d9D w slot e_) h (fun _ h=>a4O.rt h) (e9Q r) fun hI=>sk [] [1,3,5,7,8] [(1,0),(2,0)] hI
def a3t:FS (Bool):=⟨24,Tryz.f24,[.val [] []],[none],[.val C5 []],fun r=>.b r,fun _=>[none],Tryz.func24⟩
def c31:Unit->KS:=fun _=>⟨a3t.k 4 [false,false],(bs 39 []),[some []]⟩
def d0H:Option Bool:=
 some true
theorem f7d(r):NF a3t r c31 (fun s=>d0H):=fun _ h=>PK<|rg<|fE h
def d2E(w:m5):Int->KS:=fun i=>⟨a3t.k 3 [false],(bs 1 (.ptr 1 0 0::(bs 1 (vi i::(bs 35 []))))),[some [],some [.var 30 (B9 w)]]⟩
def d8k(w:m5)(i:Int):Unit->KS:=fun _=>⟨a3t.k 6 [false,true,false],(bs 1 (.ptr 1 0 0::(bs 1 (vi i::(bs 35 []))))),[some [],some [.var 30 (B9 w)]]⟩
def c7i(i:Int):Option (j7 Bool Int Unit):=
 some (j7.nxt (m7 (i+1)))
theorem d8Y(w i)(lc:D2 a3t c31 (d2E w)):NL lc (d8k w i) (fun s=>c7i i):=fun _ h=>PK<|rg<|(lc.nx h fun hI=>sk [] [1,3] [(1,0)] hI)
def f4m(w:m5)(i:Int):Int->KS:=fun s_=>⟨a3t.k 5 [false,true],(bs 1 (.ptr 1 0 0::(bs 1 (vi i::(vi s_::(bs 34 [])))))),[some [],some [.var 30 (B9 w)]]⟩
def b4g(w:m5)(i:Int)(s_:Int):Option (j7 Bool Int Unit):=
 ((idx w.a0 i).bind fun node=>(bif decide (s_<(node.a6.length:Int)) then ((idx node.a6 s_).bind fun entry=>((b8a w s_ entry).bind fun c7Z=>(bif decide (c7Z<2) then some (j7.ret false) else some (j7.nxt (m7 (s_+1)))))) else some (j7.brk ())))
theorem d9y(w i):LQ a3t (d8k w i) (f4m w i) (fun s=>b4g w i s):=fun lc s_ h=>PK<|rg<|u0 x6 4 h fun node hnode h=>j5 8 h (fun h=>rg<|I3 x6 5 hnode<|u0 s5 9 h fun entry F3 h=>l7 a4O f4q 11 h fun c7Z h=>j5 12 h (fun h=>rg<|fL lc h) (fun h=>rg<|(lc.nx h fun hI=>sk [] [1,3,4] [(1,0)] hI))) (fun h=>(lc.bk h fun hI=>sk [] [1,3] [(1,0)] hI))
def b5S(w:m5)(i:Int):Option (j7 Bool Int Unit):=
 (bif decide (i<(w.a0.length:Int)) then ((o8 (fun s:Int=>b4g w i s) 0).bind fun x=>x.go (fun r=>some (j7.ret r)) fun s=>c7i i) else some (j7.brk ()))
theorem e2v(w):LQ a3t c31 (d2E w) (fun s=>b5S w s):=fun lc i h=>PK<|rg<|j5 4 h (fun h=>rg<|lp (d9y w i) h (fun _ h=>lc.rt h) (d8Y w i lc) fun hI=>sk [] [1,3,4] [(1,0)] hI) (fun h=>(lc.bk h fun hI=>sk [] [] [] hI))
def b3E(w:m5):Option Bool:=
 ((a22 w).bind fun A0=>(bif (!A0) then some false else ((o8 (fun s:Int=>b5S w s) 0).bind fun x=>x.go (fun r=>some r) fun s=>d0H)))
theorem e0G{w}:OK a3t [.agg (K7 w)] (b3E w):=
 o7 _ fun r h=>n9<|l7 J1 a5u 1 h fun A0 h=>j5 2 h (fun h=>rg<|fE h) (fun h=>rg<|lp (e2v w) h (fun _ h=>a3t.rt h) (f7d r) fun hI=>sk [] [1,3] [(1,0)] hI)
def d0s:FS (Bool):=⟨65,Tryz.f65,[.val [] []],[none],[.val A8 []],fun r=>.b r,fun _=>[none],Tryz.func65⟩
def c0K(n:j6):Option Bool:=
 (bif (n.d6 != 3) then some true else ((a9c n (n.a6.length:Int)).bind fun a1N=>(bif decide (a1N.a8>=n.a8) then (bif decide (a1N.a8>n.a8) then some true else ((a8J a1N.g9 n.c8).bind fun G8=>some G8)) else some false)))
theorem e8H{n}:OK d0s [.agg (x6 n)] (c0K n):=
 o7 _ fun r h=>n9<|j5 2 h (fun h=>rg<|fE h) (fun h=>rg<|l7 b2P b8c 4 h fun a1N h=>rg<|j5 5 h (fun h=>j5 11 h (fun h=>fE h) (fun h=>l7 b2V b8j 16 h fun G8 h=>fE h)) (fun h=>fE h))
def a2c:FS (Bool):=⟨25,Tryz.f25,[.val [] []],[none],[.val C5 []],fun r=>.b r,fun _=>[none],Tryz.func25⟩
def c5P:Unit->KS:=fun _=>⟨a2c.k 4 [false,false],(bs 49 []),[some []]⟩
def d6A:Option Bool:=
 some true
theorem e6X(r):NF a2c r c5P (fun s=>d6A):=fun _ h=>PK<|rg<|fE h
def d5q(w:m5):Int->KS:=fun i=>⟨a2c.k 3 [false],(bs 1 (.ptr 1 0 0::(bs 1 (vi i::(bs 45 []))))),[some [],some [.var 30 (B9 w)]]⟩
def c3p(w:m5)(i:Int):Unit->KS:=fun _=>⟨a2c.k 7 [false,true,false,false],(bs 1 (.ptr 1 0 0::(bs 1 (vi i::(bs 45 []))))),[some [],some [.var 30 (B9 w)]]⟩
def c5y(i:Int):Option (j7 Bool Int Unit):=
 some (j7.nxt (m7 (i+1)))
theorem f2M(w i)(lc:D2 a2c c5P (d5q w)):NL lc (c3p w i) (fun s=>c5y i):=fun _ h=>PK<|rg<|(lc.nx h fun hI=>sk [] [1,3] [(1,0)] hI)
def d6q(w:m5)(i:Int):Int->KS:=fun k=>⟨a2c.k 6 [false,true,false],(bs 1 (.ptr 1 0 0::(bs 1 (vi i::(vi k::(bs 44 [])))))),[some [],some [.var 30 (B9 w)]]⟩
def d9B(w:m5)(i:Int)(k:Int):Unit->KS:=fun _=>⟨a2c.k 8 [false,true,false,true,false],(bs 1 (.ptr 1 0 0::(bs 1 (vi i::(vi k::(bs 44 [])))))),[some [],some [.var 30 (B9 w)]]⟩
def c5W(k:Int):Option (j7 Bool Int Unit):=
 some (j7.nxt (m7 (k+1)))
theorem e1P(w i k)(lc:D2 a2c (c3p w i) (d6q w i)):NL lc (d9B w i k) (fun s=>c5W k):=fun _ h=>PK<|rg<|(lc.nx h fun hI=>sk [] [1,3,4] [(1,0)] hI)
def b3o(w:m5)(i:Int)(k:Int):Option (j7 Bool Int Unit):=
 (bif decide (k<i) then ((((idx w.a0 i).bind fun node1=>(bif decide (node1.a8>0) then ((idx w.a0 k).bind fun a6c=>(bif (node1.a8==a6c.a8) then some (l9.ret (j7.ret false)) else some (l9.brk ()))) else some (l9.brk ()))):Option (l9 (j7 Bool Int Unit) Unit)).bind fun x=>x.go some fun j=>c5W k) else some (j7.brk ()))
theorem d95(w i):LQ a2c (c3p w i) (d6q w i) (fun s=>b3o w i s):=fun lc k h=>PK<|rg<|j5 2 h (fun h=>A3 h (e1P w i k lc) fun x3 h hc3=>rg<|u0 x6 3 h fun node1 a0A h=>j5 7 h (fun h=>I3 x6 11 a0A<|u0 x6 17 h fun a6c d7j h=>j5 21 h (fun h=>rg<|(B2 h hc3 fun h=>fL lc h)) (fun h=>(o9 h hc3 fun hI=>sk [] [1,3,4] [(1,0)] hI))) (fun h=>(o9 h hc3 fun hI=>sk [] [1,3,4] [(1,0)] hI))) (fun h=>(lc.bk h fun hI=>sk [] [1,3] [(1,0)] hI))
def c0N(w:m5)(i:Int):Option (j7 Bool Int Unit):=
 (bif decide (i<(w.a0.length:Int)) then ((idx w.a0 i).bind fun node=>((c0K node).bind fun d1I=>(bif (!d1I) then some (j7.ret false) else ((o8 (fun s:Int=>b3o w i s) 0).bind fun x=>x.go (fun r=>some (j7.ret r)) fun s=>c5y i)))) else some (j7.brk ()))
theorem f8m(w):LQ a2c c5P (d5q w) (fun s=>c0N w s):=fun lc i h=>PK<|rg<|j5 4 h (fun h=>rg<|u0 x6 3 h fun node hnode h=>l7 d0s e8H 5 h fun d1I h=>j5 6 h (fun h=>rg<|fL lc h) (fun h=>rg<|lp (d95 w i) h (fun _ h=>lc.rt h) (f2M w i lc) fun hI=>sk [] [1,3,4] [(1,0)] hI)) (fun h=>(lc.bk h fun hI=>sk [] [] [] hI))
def b3L(w:m5):Option Bool:=
 ((a22 w).bind fun A0=>(bif (!A0) then some false else ((o8 (fun s:Int=>c0N w s) 0).bind fun x=>x.go (fun r=>some r) fun s=>d6A)))
theorem e4L{w}:OK a2c [.agg (K7 w)] (b3L w):=
 o7 _ fun r h=>n9<|l7 J1 a5u 1 h fun A0 h=>j5 2 h (fun h=>rg<|fE h) (fun h=>rg<|lp (f8m w) h (fun _ h=>a2c.rt h) (e6X r) fun hI=>sk [] [1,3] [(1,0)] hI)
def a30:FS (List m4):=⟨66,Tryz.f66,[.val [some 7] []],[none],[.val C5 []],fun r=>j9 7 s5 r,fun _=>[none],Tryz.func66⟩
def c4L(w:m5):Int->KS:=fun a4A=>⟨a30.k 4 [false],(bs 1 (.ptr 1 0 0::(bs 1 (vi a4A::(bs 36 []))))),[some [],some [.var 30 (B9 w)]]⟩
def c2W(w:m5)(a4A:Int):Option (List m4):=
 (bif ((w.a0.length:Int)==0) then some ([]:List m4) else ((idx w.a0 a4A).bind fun node=>((a9G node.a6).bind fun a8k=>some a8k)))
theorem e0W(w)(r):NF a30 r (c4L w) (fun s=>c2W w s):=fun a4A h=>PK<|rg<|j5 3 h (fun h=>rg<|tk 0 J3<|A9 m4<|fE h) (fun h=>rg<|u0 x6 3 h fun node hnode h=>l7 a5k c1C 6 h fun a8k h=>s7 a8k<|fE h)
def d2G(w:m5):(Int×Int)->KS:=fun (best,i)=>⟨a30.k 3 [],(bs 1 (.ptr 1 0 0::(bs 1 (vi best::(vi i::(bs 35 [])))))),[some [],some [.var 30 (B9 w)]]⟩
def f3m(w:m5)(i:Int):Int->KS:=fun a5t=>⟨a30.k 6 [true,true],(bs 1 (.ptr 1 0 0::(bs 1 (vi a5t::(vi i::(bs 35 [])))))),[some [],some [.var 30 (B9 w)]]⟩
def c5s(i:Int)(a5t:Int):Option (j7 (List m4) (Int×Int) Int):=
 some (j7.nxt (a5t,m7 (i+1)))
theorem f00(w i)(lc:D2 a30 (c4L w) (d2G w)):NL lc (f3m w i) (fun s=>c5s i s):=fun a5t h=>PK<|rg<|(lc.nx h fun hI=>sk [] [1,3,4] [(1,0)] hI)
def b3u(w:m5)(best:Int)(i:Int):Option (j7 (List m4) (Int×Int) Int):=
 (bif decide (i<(w.a0.length:Int)) then ((((idx w.a0 i).bind fun node1=>((idx w.a0 best).bind fun a6c=>(bif decide ((node1.a6.length:Int)>(a6c.a6.length:Int)) then some (l9.brk i) else some (l9.brk best)))):Option (l9 (j7 (List m4) (Int×Int) Int) Int)).bind fun x=>x.go some fun j=>c5s i j) else some (j7.brk best))
theorem e0M(w):LQ a30 (c4L w) (d2G w) (fun s=>b3u w s.1 s.2):=fun lc (best,i) h=>PK<|rg<|j5 4 h (fun h=>A3 h (f00 w i lc) fun x2 h hc2=>rg<|u0 x6 3 h fun node1 a0A h=>u0 x6 10 h fun a6c d7j h=>j5 14 h (fun h=>rg<|(o9 h hc2 fun hI=>sk [] [1,3,4] [(1,0)] hI)) (fun h=>(o9 h hc2 fun hI=>sk [] [1,3,4] [(1,0)] hI))) (fun h=>(lc.bk h fun hI=>sk [] [1,3] [(1,0)] hI))
def b4k(w:m5):Option (List m4):=
 ((o8 (fun s:Int×Int=>b3u w s.1 s.2) (0,0)).bind fun x=>x.go (fun r=>some r) fun s=>c2W w s)
theorem d8B{w}:OK a30 [.agg (K7 w)] (b4k w):=
 o7 _ fun r h=>L8<|lp (e0M w) h (fun _ h=>a30.rt h) (e0W w r) fun hI=>sk [] [1,3,4] [(1,0)] hI
def a4G:FS (List n5):=⟨67,Tryz.f67,[.val [some 2] []],[none],[.val [some 7] []],fun r=>j9 2 F6 r,fun _=>[none],Tryz.func67⟩
def c7a:(List n5)->KS:=fun out1=>⟨a4G.k 6 [false,false],(bs 3 (.own 1 0 2 0 out1.length::(bs 37 []))),[some [],some [m6 47 2 F6 out1]]⟩
def d5i(out1:List n5):Option (List n5):=
 some out1
theorem f0b(r):NF a4G r c7a (fun s=>d5i s):=fun out1 h=>PK<|rg<|s7 out1<|fE h
def d3E(list:List m4):((List n5)×(List m9)×Int×Int×List q9)->KS:=fun (out,g7,i,sAt,sDones)=>⟨a4G.k 5 [false],(j9 7 s5 list::(bs 2 (.own 1 0 2 0 out.length::(.ptr 2 0 0::(vi i::(bs 35 [])))))),[some [],some [m6 47 2 F6 out],some [.var 104 [vi sAt,.own 3 0 2 0 g7.length,j9 4 B5 sDones]],some [m6 142 2 x7 g7]]⟩
def f6H(list:List m4)(i:Int)(l5Apply:u5×Int):(List n5)->KS:=fun out2=>⟨a4G.k 10 [false,true,true],(j9 7 s5 list::(bs 2 (.own 1 0 2 0 out2.length::(.ptr 2 0 0::(vi i::(bs 35 [])))))),[some [],some [m6 47 2 F6 out2],some [.var 104 [vi l5Apply.1.At,.own 3 0 2 0 l5Apply.1.g7.length,j9 4 B5 l5Apply.1.i8]],some [m6 142 2 x7 l5Apply.1.g7]]⟩
def c5q(i:Int)(l5Apply:u5×Int)(out2:List n5):Option (j7 (List n5) ((List n5)×(List m9)×Int×Int×List q9) (List n5)):=
 some (j7.nxt (out2,l5Apply.1.g7,m7 (i+1),l5Apply.1.At,l5Apply.1.i8))
theorem e4F(list i l5Apply)(lc:D2 a4G c7a (d3E list)):NL lc (f6H list i l5Apply) (fun s=>c5q i l5Apply s):=fun out2 h=>PK<|rg<|(lc.nx h fun hI=>sk [] [0,3,4,5] [(1,0),(2,0),(3,0)] hI)
def a7X(list:List m4)(out:List n5)(g7:List m9)(i:Int)(sAt:Int)(sDones:List q9):Option (j7 (List n5) ((List n5)×(List m9)×Int×Int×List q9) (List n5)):=
 (bif decide (i<(list.length:Int)) then ((idx list i).bind fun entry=>((a9i (u5.mk sAt g7 sDones) entry).bind fun l5Apply=>(((bif (l5Apply.2==0) then (t5 ((out.length+1)*16<=140737488355328) (some (l9.brk (out++[entry.a5])))) else some (l9.brk out)):Option (l9 (j7 (List n5) ((List n5)×(List m9)×Int×Int×List q9) (List n5)) (List n5))).bind fun x=>x.go some fun j=>c5q i l5Apply j))) else some (j7.brk out))
theorem f0q(list):LQ a4G c7a (d3E list) (fun s=>a7X list s.1 s.2.1 s.2.2.1 s.2.2.2.1 s.2.2.2.2):=fun lc (out,g7,i,sAt,sDones) h=>PK<|rg<|j5 3 h (fun h=>rg<|u0 s5 3 h fun entry F3 h=>l7 a3x b80 5 h fun l5Apply h=>s7 g7<|rg<|A3 h (e4F list i l5Apply lc) fun x2 h hc2=>rg<|j5 1 h (fun h=>rg<|I3 s5 3 F3<|tk 6 []<|t9 h fun e1 h=>F7 7 31 47 2 16 F6 out entry.a5 e1<|E5 entry.a5<|(o9 h hc2 fun hI=>sk [] [0,3,4,5] [(31,0),(2,0),(13,0)] hI)) (fun h=>(o9 h hc2 fun hI=>sk [] [0,3,4,5] [(1,0),(2,0),(13,0)] hI))) (fun h=>(lc.bk h fun hI=>sk [] [3] [(1,0)] hI))
def b8L(list:List m4):Option (List n5):=
 ((b3T list).bind fun b4l=>(bif (!b4l) then some ([]:List n5) else ((a7A).bind fun Q4=>((o8 (fun s:(List n5)×(List m9)×Int×Int×List q9=>a7X list s.1 s.2.1 s.2.2.1 s.2.2.2.1 s.2.2.2.2) (([]:List n5),Q4.g7,0,Q4.At,Q4.i8)).bind fun x=>x.go (fun r=>some r) fun s=>d5i s))))
theorem f7T{list}:OK a4G [j9 7 s5 list] (b8L list):=
 o7 _ fun r h=>n9<|tk 0 []<|rg<|l7 a6w c80 1 h fun b4l h=>j5 2 h (fun h=>rg<|A9 n5<|fE h) (fun h=>rg<|l7 b33 b7I 0 h fun Q4 h=>rg<|lp (f0q list) h (fun _ h=>a4G.rt h) (f0b r) fun hI=>om ((.own 2 0 2 0 0:V)=.own 2 0 2 0 ([]:List n5).length) (by simp)<|sk [.is (.tmp 3) (.own 2 0 2 0 ([]:List n5).length)] [0,3,4,5] [(2,0),(8,0),(7,0)] hI)
def a9o:FS ((List n8)×Bool):=⟨119,Tryz.f119,[.val [some 4] [some 80],.val [] []],[none,none],[.val C5 [],.val [] []],fun r=>.tup [v6 80 4 A6 r.1,.b r.2],fun _=>[none,none],Tryz.func119⟩
def d6I:Unit->KS:=fun _=>⟨a9o.k 3 [false],(bs 30 []),[some []]⟩
def d2S:Option ((List n8)×Bool):=
 some ([],false)
theorem f0e(r):NF a9o r d6I (fun s=>d2S):=fun _ h=>PK<|rg<|fE h
def f2A(w:m5)(q:n5):Int->KS:=fun i=>⟨a9o.k 2 [],(bs 2 (.ptr 1 0 0::(.ptr 2 0 0::(bs 2 (vi i::(bs 23 [])))))),[some [],some [.var 30 (B9 w)],some [.var 47 [vi q.b9,vi q.Seq]]]⟩
def b86(w:m5)(q:n5)(i:Int):Option (j7 ((List n8)×Bool) Int Unit):=
 (bif decide (i<(w.d8.length:Int)) then ((idx w.d8 i).bind fun asked=>(bif (([asked.a5.b9,asked.a5.Seq]:List Int)==[q.b9,q.Seq]) then (t5 ((([]:List n8).length+asked.i6.length)*32<=140737488355328) (some (j7.ret (([]:List n8)++asked.i6,true)))) else some (j7.nxt (m7 (i+1))))) else some (j7.brk ()))
theorem f1O(w q):LQ a9o d6I (f2A w q) (fun s=>b86 w q s):=fun lc i h=>PK<|rg<|j5 4 h (fun h=>rg<|u0 C1 3 h fun asked a7V h=>j5 7 h (fun h=>rg<|tk 0 []<|I3 C1 4 a7V<|t9 h fun e1 h=>oa 23 0 4 ([]:List n8) asked.i6<|oz 80 4 A6 ([]:List n8) asked.i6<|A9 n8<|ob e1<|tl (7,{v:=some (.own 23 0 4 0 (([]:List n8)++asked.i6).length),e:=some (m6 80 4 A6 (([]:List n8)++asked.i6))})<|s7 (([]:List n8)++asked.i6)<|fL lc h) (fun h=>rg<|(lc.nx h fun hI=>sk [] [2,3,6] [(1,0),(2,0)] hI))) (fun h=>(lc.bk h fun hI=>sk [] [] [] hI))
def b6A(w:m5)(q:n5):Option ((List n8)×Bool):=
 ((o8 (fun s:Int=>b86 w q s) 0).bind fun x=>x.go (fun r=>some r) fun s=>d2S)
theorem e0E{w q}:OK a9o [.agg (K7 w),.agg (F6 q)] (b6A w q):=
 o7 _ fun r h=>n9<|lp (f1O w q) h (fun _ h=>a9o.rt h) (f0e r) fun hI=>sk [] [2,3,6] [(1,0),(2,0)] hI
def a7C:FS ((List (List n8))×Bool):=⟨68,Tryz.f68,[.val [some 1] [],.val [] []],[none,none],[.val C5 [],.val [some 2] []],fun r=>.tup [j9 1 a1P r.1,.b r.2],fun _=>[none,none],Tryz.func68⟩
def d1h:(List (List n8))->KS:=fun out1=>⟨a7C.k 4 [false],(bs 6 (.own 1 0 1 0 out1.length::(bs 26 []))),[some [],some [m6 33 1 a1P out1]]⟩
def c4Z(out1:List (List n8)):Option ((List (List n8))×Bool):=
 some (out1,true)
theorem e6D(r):NF a7C r d1h (fun s=>c4Z s):=fun out1 h=>PK<|rg<|s7 out1<|fE h
def d9X(w:m5)(list:List n5):((List (List n8))×Int)->KS:=fun (out,i)=>⟨a7C.k 3 [],(bs 1 (j9 2 F6 list::(.ptr 1 0 0::(bs 3 (.own 2 0 1 0 out.length::(vi i::(bs 25 []))))))),[some [],some [.var 30 (B9 w)],some [m6 33 1 a1P out]]⟩
def a7v(w:m5)(list:List n5)(out:List (List n8))(i:Int):Option (j7 ((List (List n8))×Bool) ((List (List n8))×Int) (List (List n8))):=
 (bif decide (i<(list.length:Int)) then ((idx list i).bind fun req=>((b6A w req).bind fun a18=>(bif (!a18.2) then some (j7.ret ([],false)) else (t5 ((out.length+1)*24<=140737488355328) (some (j7.nxt (out++[a18.1],m7 (i+1)))))))) else some (j7.brk out))
theorem e8z(w list):LQ a7C d1h (d9X w list) (fun s=>a7v w list s.1 s.2):=fun lc (out,i) h=>PK<|rg<|j5 3 h (fun h=>rg<|u0 F6 3 h fun req d8n h=>l7 a9o e0E 5 h fun a18 h=>rg<|j5 1 h (fun h=>rg<|fL lc h) (fun h=>rg<|s7 a18.1<|tk 2 [some 4]<|t9 h fun e1 h=>F7 3 23 33 1 24 a1P out a18.1 e1<|E5 a18.1<|rg<|(lc.nx h fun hI=>sk [] [1,2,6,7] [(1,0),(23,0)] hI))) (fun h=>(lc.bk h fun hI=>sk [] [6] [(2,0)] hI))
def c3a(w:m5)(list:List n5):Option ((List (List n8))×Bool):=
 ((o8 (fun s:(List (List n8))×Int=>a7v w list s.1 s.2) (([]:List (List n8)),0)).bind fun x=>x.go (fun r=>some r) fun s=>c4Z s)
theorem e0X{w list}:OK a7C [.agg (K7 w),j9 2 F6 list] (c3a w list):=
 o7 _ fun r h=>n9<|tk 0 [some 4]<|rg<|lp (e8z w list) h (fun _ h=>a7C.rt h) (e6D r) fun hI=>om ((.own 4 0 1 0 0:V)=.own 4 0 1 0 ([]:List (List n8)).length) (by simp)<|sk [.is (.tmp 6) (.own 4 0 1 0 ([]:List (List n8)).length)] [1,2,6,7] [(1,0),(4,0)] hI
def c2Q:FS (List m9):=⟨121,Tryz.f121,[.val [some 2] [some 142]],[none],[.val [some 2] []],fun r=>v6 142 2 x7 r,fun _=>[none],Tryz.func121⟩
def b4L(list:List m9):Option (List m9):=
 (t5 ((([]:List m9).length+list.length)*16<=140737488355328) (some (([]:List m9)++list)))
theorem d2r{list}:OK c2Q [j9 2 x7 list] (b4L list):=
 o7 _ fun r h=>n9<|tk 0 []<|t9 h fun e1 h=>oa 4 0 2 ([]:List m9) list<|oz 142 2 x7 ([]:List m9) list<|A9 m9<|ob e1<|tl (2,{v:=some (.own 4 0 2 0 (([]:List m9)++list).length),e:=some (m6 142 2 x7 (([]:List m9)++list))})<|s7 (([]:List m9)++list)<|fE h
def d72:FS ((List m9)×Int×Int):=⟨122,Tryz.f122,[.val [some 2] [],.val [] [],.val [] []],[none,none],[.val [some 2] [],.val [some 4] []],fun r=>.tup [j9 2 x7 r.1,vi r.2.1,vi r.2.2],fun _=>[none,none],Tryz.func122⟩
def c0P(list:List m9)(prog:List n8):Option ((List m9)×Int×Int):=
 ((b4T list prog).bind fun B3=>(bif (B3.Code==3) then some (([]:List m9),0,3) else ((b4L list).bind fun a9t=>((b2N a9t B3).bind fun a93=>some (a93,B3.d9,B3.Code)))))
theorem d98{list prog}:OK d72 [j9 2 x7 list,j9 4 A6 prog] (c0P list prog):=
 o7 _ fun r h=>n9<|l7 a3R c78 2 h fun B3 h=>rg<|j5 2 h (fun h=>rg<|tk 0 []<|A9 m9<|fE h) (fun h=>rg<|l7 c2Q d2r 1 h fun a9t h=>cbS a5n c9d 3 (fun _=>(by simp [a5n,L0,R0,O4,V.simple,vi,v6,x7,eI])) (fun _=>(Q9 2)) h fun a93 h=>s7 a9t<|olR B3<|s7 a93<|fE h)
def a9r:FS ((List m9)×List Int):=⟨69,Tryz.f69,[.val [some 2] [],.val [some 1] []],[none,none],[.val [some 2] [],.val [some 1] []],fun r=>.tup [j9 2 x7 r.1,j9 1 eI r.2],fun _=>[none,none],Tryz.func69⟩
def c9m:((List Int)×List m9)->KS:=fun (out1,x_1)=>⟨a9r.k 6 [false,false],(bs 6 (.own 1 0 1 0 out1.length::(j9 2 x7 x_1::(bs 44 [])))),[some [],some [m6 3 1 eI out1]]⟩
def c2j(out1:List Int)(x_1:List m9):Option ((List m9)×List Int):=
 some (x_1,out1)
theorem d82(r):NF a9r r c9m (fun s=>c2j s.1 s.2):=fun (out1,x_1) h=>PK<|rg<|s7 out1<|fE h
def f2I(progs:List (List n8)):((List Int)×(List m9)×Int)->KS:=fun (out,x_,i)=>⟨a9r.k 5 [false],(bs 1 (j9 1 a1P progs::(bs 4 (.own 1 0 1 0 out.length::(j9 2 x7 x_::(vi i::(bs 43 []))))))),[some [],some [m6 3 1 eI out]]⟩
def a90(progs:List (List n8))(out:List Int)(x_:List m9)(i:Int):Option (j7 ((List m9)×List Int) ((List Int)×(List m9)×Int) ((List Int)×List m9)):=
 (bif decide (i<(progs.length:Int)) then ((idx progs i).bind fun y=>((c0P x_ y).bind fun H0=>(bif (H0.2.2==3) then some (j7.ret (([]:List m9),([]:List Int))) else (t5 ((out.length+1)*8<=140737488355328) (some (j7.nxt (out++[H0.2.1],H0.1,m7 (i+1)))))))) else some (j7.brk (out,x_)))
theorem f1F(progs):LQ a9r c9m (f2I progs) (fun s=>a90 progs s.1 s.2.1 s.2.2):=fun lc (out,x_,i) h=>PK<|rg<|j5 3 h (fun h=>rg<|u0 a1P 3 h fun y hy h=>l7 d72 d98 5 h fun H0 h=>rg<|j5 1 h (fun h=>rg<|tk 0 []<|tk 1 []<|A9 m9<|A9 Int<|fL lc h) (fun h=>n9<|tk 2 []<|t9 h fun e1 h=>F7 3 26 3 1 8 eI out H0.2.1 e1<|E5 H0.2.1<|rg<|(lc.nx h fun hI=>sk [] [1,6,7,8] [(26,0)] hI))) (fun h=>(lc.bk h fun hI=>sk [] [6,7] [(1,0)] hI))
def b9E(list:List m9)(progs:List (List n8)):Option ((List m9)×List Int):=
 ((b0Q list).bind fun R5=>(bif (!R5) then some (([]:List m9),([]:List Int)) else (bif decide ((progs.length:Int)>100) then some (([]:List m9),([]:List Int)) else ((b4L list).bind fun a9t=>((o8 (fun s:(List Int)×(List m9)×Int=>a90 progs s.1 s.2.1 s.2.2) (([]:List Int),a9t,0)).bind fun x=>x.go (fun r=>some r) fun s=>c2j s.1 s.2)))))
theorem e4G{list progs}:OK a9r [j9 2 x7 list,j9 1 a1P progs] (b9E list progs):=
 o7 _ fun r h=>n9<|l7 a4F c3z 1 h fun R5 h=>j5 3 h (fun h=>rg<|tk 0 []<|tk 1 []<|A9 m9<|A9 Int<|fE h) (fun h=>j5 7 h (fun h=>rg<|tk 0 []<|tk 1 []<|A9 m9<|A9 Int<|fE h) (fun h=>rg<|tk 0 []<|rg<|l7 c2Q d2r 1 h fun a9t h=>rg<|lp (f1F progs) h (fun _ h=>a9r.rt h) (d82 r) fun hI=>s7 a9t<|om ((.own 11 0 1 0 0:V)=.own 11 0 1 0 ([]:List Int).length) (by simp)<|sk [.frz (.tmp 7) (none),.is (.tmp 6) (.own 11 0 1 0 ([]:List Int).length)] [1,6,7,8] [(11,0)] hI))
def a8s:FS (Bool):=⟨71,Tryz.f71,[.val [] []],[none,none],[.val [some 2] [],.val [some 2] []],fun r=>.b r,fun _=>[none,none],Tryz.func71⟩
def d21:Unit->KS:=fun _=>⟨a8s.k 4 [false,false],(bs 26 []),[some []]⟩
def d1l:Option Bool:=
 some true
theorem f3d(r):NF a8s r d21 (fun s=>d1l):=fun _ h=>PK<|rg<|fE h
def d8D(a:List m9)(b:List m9):Int->KS:=fun i=>⟨a8s.k 3 [false],(j9 2 x7 a::(j9 2 x7 b::(bs 3 (vi i::(bs 20 []))))),[some []]⟩
def b7p(a:List m9)(b:List m9)(i:Int):Option (j7 Bool Int Unit):=
 (bif decide (i<(a.length:Int)) then ((idx a i).bind fun box=>((idx b i).bind fun Q1=>(bif (!(([box.j4,box.d9]:List Int)==[Q1.j4,Q1.d9])) then some (j7.ret false) else some (j7.nxt (m7 (i+1)))))) else some (j7.brk ()))
theorem f4c(a b):LQ a8s d21 (d8D a b) (fun s=>b7p a b s):=fun lc i h=>PK<|rg<|j5 3 h (fun h=>rg<|u0 x7 2 h fun box a1B h=>u0 x7 6 h fun Q1 a61 h=>j5 8 h (fun h=>rg<|fL lc h) (fun h=>rg<|(lc.nx h fun hI=>sk [] [0,1,5] [] hI))) (fun h=>(lc.bk h fun hI=>sk [] [] [] hI))
def b8Q(a:List m9)(b:List m9):Option Bool:=
 (bif ((a.length:Int) != (b.length:Int)) then some false else ((o8 (fun s:Int=>b7p a b s) 0).bind fun x=>x.go (fun r=>some r) fun s=>d1l))
theorem f3z{a b}:OK a8s [j9 2 x7 a,j9 2 x7 b] (b8Q a b):=
 o7 _ fun r h=>n9<|j5 4 h (fun h=>rg<|fE h) (fun h=>rg<|lp (f4c a b) h (fun _ h=>a8s.rt h) (f3d r) fun hI=>sk [] [0,1,5] [] hI)
def a35:FS (Int):=⟨73,Tryz.f73,[.val [] []],[none,none],[.val [some 7] [],.val [] []],fun r=>vi r,fun _=>[none,none],Tryz.func73⟩
def c53:Unit->KS:=fun _=>⟨a35.k 3 [false],(bs 33 []),[some []]⟩
def c8x:Option Int:=
 some 0
theorem e9p(r):NF a35 r c53 (fun s=>c8x):=fun _ h=>PK<|rg<|fE h
def d08(list:List m4)(q:n5):Int->KS:=fun i=>⟨a35.k 2 [],(j9 7 s5 list::(bs 2 (.ptr 1 0 0::(bs 1 (vi i::(bs 27 [])))))),[some [],some [.var 47 [vi q.b9,vi q.Seq]]]⟩
def e4O(list:List m4)(q:n5)(i:Int):Unit->KS:=fun _=>⟨a35.k 4 [true,false],(j9 7 s5 list::(bs 2 (.ptr 1 0 0::(bs 1 (vi i::(bs 27 [])))))),[some [],some [.var 47 [vi q.b9,vi q.Seq]]]⟩
def c48(i:Int):Option (j7 Int Int Unit):=
 some (j7.nxt (m7 (i+1)))
theorem e6L(list q i)(lc:D2 a35 c53 (d08 list q)):NL lc (e4O list q i) (fun s=>c48 i):=fun _ h=>PK<|rg<|(lc.nx h fun hI=>sk [] [0,3,5] [(1,0)] hI)
def b07(list:List m4)(q:n5)(i:Int):Option (j7 Int Int Unit):=
 (bif decide (i<(list.length:Int)) then ((((idx list i).bind fun entry=>(bif (!entry.i7) then (bif (([entry.a5.b9,entry.a5.Seq]:List Int)==[q.b9,q.Seq]) then some (l9.ret (j7.ret entry.b6.d9)) else some (l9.brk ())) else some (l9.brk ()))):Option (l9 (j7 Int Int Unit) Unit)).bind fun x=>x.go some fun j=>c48 i) else some (j7.brk ()))
theorem e0N(list q):LQ a35 c53 (d08 list q) (fun s=>b07 list q s):=fun lc i h=>PK<|rg<|j5 3 h (fun h=>A3 h (e6L list q i lc) fun x2 h hc2=>rg<|u0 s5 2 h fun entry F3 h=>j5 6 h (fun h=>I3 s5 9 F3<|j5 14 h (fun h=>rg<|I3 s5 2 F3<|(B2 h hc2 fun h=>fL lc h)) (fun h=>(o9 h hc2 fun hI=>sk [] [0,3,5] [(1,0)] hI))) (fun h=>(o9 h hc2 fun hI=>sk [] [0,3,5] [(1,0)] hI))) (fun h=>(lc.bk h fun hI=>sk [] [] [] hI))
def b0Y(list:List m4)(q:n5):Option Int:=
 ((o8 (fun s:Int=>b07 list q s) 0).bind fun x=>x.go (fun r=>some r) fun s=>c8x)
theorem d7h{list q}:OK a35 [j9 7 s5 list,.agg (F6 q)] (b0Y list q):=
 o7 _ fun r h=>n9<|lp (e0N list q) h (fun _ h=>a35.rt h) (e9p r) fun hI=>sk [] [0,3,5] [(1,0)] hI
def a8h:FS (Bool):=⟨26,Tryz.f26,[.val [] []],[none],[.val C5 []],fun r=>.b r,fun _=>[none],Tryz.func26⟩
def d6d:Unit->KS:=fun _=>⟨a8h.k 10 [false,false,false,false],(bs 61 []),[some []]⟩
def d37:Option Bool:=
 some true
theorem f6e(r):NF a8h r d6d (fun s=>d37):=fun _ h=>PK<|rg<|fE h
def e2S(worldLog:List m4)(z9:List n5)(F5:(List m9)×List Int):Int->KS:=fun i=>⟨a8h.k 9 [false,false,false],(bs 3 (j9 7 s5 worldLog::(j9 2 F6 z9::(bs 3 (j9 1 eI F5.2::(vi i::(bs 51 []))))))),[some []]⟩
def b93(worldLog:List m4)(z9:List n5)(F5:(List m9)×List Int)(i:Int):Option (j7 Bool Int Unit):=
 (bif decide (i<(z9.length:Int)) then ((idx F5.2 i).bind fun y=>((idx z9 i).bind fun req=>((b0Y worldLog req).bind fun b1J=>(bif (y != b1J) then some (j7.ret false) else some (j7.nxt (m7 (i+1))))))) else some (j7.brk ()))
theorem e4g(worldLog z9 F5):LQ a8h d6d (e2S worldLog z9 F5) (fun s=>b93 worldLog z9 F5 s):=fun lc i h=>PK<|rg<|j5 3 h (fun h=>rg<|u0 eI 2 h fun y hy h=>u0 F6 7 h fun req d8n h=>l7 a35 d7h 9 h fun b1J h=>j5 10 h (fun h=>rg<|fL lc h) (fun h=>rg<|(lc.nx h fun hI=>sk [] [3,4,8,9] [] hI))) (fun h=>(lc.bk h fun hI=>sk [] [] [] hI))
def b8b(w:m5):Option Bool:=
 ((a22 w).bind fun A0=>(bif (!A0) then some false else ((b4k w).bind fun worldLog=>((b8L worldLog).bind fun z9=>((c3a w z9).bind fun c1U=>(bif (!c1U.2) then some false else ((b1N).bind fun a05=>((b9E a05 c1U.1).bind fun F5=>(bif ((F5.2.length:Int) != (z9.length:Int)) then some false else ((b4o worldLog).bind fun a0T=>((b8Q F5.1 a0T.g7).bind fun b2x=>(bif (!b2x) then some false else ((o8 (fun s:Int=>b93 worldLog z9 F5 s) 0).bind fun x=>x.go (fun r=>some r) fun s=>d37)))))))))))))
theorem f7l{w}:OK a8h [.agg (K7 w)] (b8b w):=
 o7 _ fun r h=>n9<|l7 J1 a5u 1 h fun A0 h=>j5 2 h (fun h=>rg<|fE h) (fun h=>rg<|l7 a30 d8B 1 h fun worldLog h=>rg<|l7 a4G f7T 1 h fun z9 h=>rg<|l7 a7C e0X 2 h fun c1U h=>rg<|j5 1 h (fun h=>rg<|fE h) (fun h=>rg<|l7 c2S d0V 0 h fun a05 h=>l7 a9r e4G 2 h fun F5 h=>s7 a05<|rg<|j5 5 h (fun h=>rg<|fE h) (fun h=>l7 a6W d0M 8 h fun a0T h=>R4 a8s f3z 10 2 h fun b2x h=>s7 a0T.g7<|j5 12 h (fun h=>rg<|fE h) (fun h=>rg<|lp (e4g worldLog z9 F5) h (fun _ h=>a8h.rt h) (f6e r) fun hI=>sk [] [3,4,8,9] [] hI))))
def a47:FS (Int×Bool):=⟨74,Tryz.f74,[.val [] [],.val [] []],[none,none],[.val [some 7] [],.val [] []],fun r=>.tup [vi r.1,.b r.2],fun _=>[none,none],Tryz.func74⟩
def c3l:Unit->KS:=fun _=>⟨a47.k 4 [false],(bs 43 []),[some []]⟩
def d1X:Option (Int×Bool):=
 some (0,false)
theorem e0F(r):NF a47 r c3l (fun s=>d1X):=fun _ h=>PK<|rg<|fE h
def d53(list:List m4)(q:n5):((List m9)×Int×Int×List q9)->KS:=fun (g7,i,sAt,sDones)=>⟨a47.k 3 [],(j9 7 s5 list::(bs 2 (.ptr 1 0 0::(bs 2 (.ptr 2 0 0::(vi i::(bs 35 []))))))),[some [],some [.var 47 [vi q.b9,vi q.Seq]],some [.var 104 [vi sAt,.own 3 0 2 0 g7.length,j9 4 B5 sDones]],some [m6 142 2 x7 g7]]⟩
def e0Y(list:List m4)(q:n5)(i:Int)(l5Apply:u5×Int):Unit->KS:=fun _=>⟨a47.k 7 [true,false],(j9 7 s5 list::(bs 2 (.ptr 1 0 0::(bs 2 (.ptr 2 0 0::(vi i::(bs 35 []))))))),[some [],some [.var 47 [vi q.b9,vi q.Seq]],some [.var 104 [vi l5Apply.1.At,.own 3 0 2 0 l5Apply.1.g7.length,j9 4 B5 l5Apply.1.i8]],some [m6 142 2 x7 l5Apply.1.g7]]⟩
def c5X(i:Int)(l5Apply:u5×Int):Option (j7 (Int×Bool) ((List m9)×Int×Int×List q9) Unit):=
 some (j7.nxt (l5Apply.1.g7,m7 (i+1),l5Apply.1.At,l5Apply.1.i8))
theorem f2w(list q i l5Apply)(lc:D2 a47 c3l (d53 list q)):NL lc (e0Y list q i l5Apply) (fun s=>c5X i l5Apply):=fun _ h=>PK<|rg<|(lc.nx h fun hI=>sk [] [0,3,6,7] [(1,0),(2,0),(3,0)] hI)
def a9D(list:List m4)(q:n5)(g7:List m9)(i:Int)(sAt:Int)(sDones:List q9):Option (j7 (Int×Bool) ((List m9)×Int×Int×List q9) Unit):=
 (bif decide (i<(list.length:Int)) then ((idx list i).bind fun entry=>((a9i (u5.mk sAt g7 sDones) entry).bind fun l5Apply=>(((bif (!entry.i7) then (bif (([entry.a5.b9,entry.a5.Seq]:List Int)==[q.b9,q.Seq]) then some (l9.ret (j7.ret (l5Apply.2,true))) else some (l9.brk ())) else some (l9.brk ())):Option (l9 (j7 (Int×Bool) ((List m9)×Int×Int×List q9) Unit) Unit)).bind fun x=>x.go some fun j=>c5X i l5Apply))) else some (j7.brk ()))
theorem f0X(list q):LQ a47 c3l (d53 list q) (fun s=>a9D list q s.1 s.2.1 s.2.2.1 s.2.2.2):=fun lc (g7,i,sAt,sDones) h=>PK<|rg<|j5 3 h (fun h=>rg<|u0 s5 3 h fun entry F3 h=>l7 a3x b80 5 h fun l5Apply h=>s7 g7<|rg<|A3 h (f2w list q i l5Apply lc) fun x2 h hc2=>rg<|I3 s5 2 F3<|j5 6 h (fun h=>I3 s5 9 F3<|j5 14 h (fun h=>rg<|(B2 h hc2 fun h=>fL lc h)) (fun h=>(o9 h hc2 fun hI=>sk [] [0,3,6,7] [(1,0),(2,0),(13,0)] hI))) (fun h=>(o9 h hc2 fun hI=>sk [] [0,3,6,7] [(1,0),(2,0),(13,0)] hI))) (fun h=>(lc.bk h fun hI=>sk [] [] [] hI))
def b9o(list:List m4)(q:n5):Option (Int×Bool):=
 ((a7A).bind fun Q4=>((o8 (fun s:(List m9)×Int×Int×List q9=>a9D list q s.1 s.2.1 s.2.2.1 s.2.2.2) (Q4.g7,0,Q4.At,Q4.i8)).bind fun x=>x.go (fun r=>some r) fun s=>d1X))
theorem f4g{list q}:OK a47 [j9 7 s5 list,.agg (F6 q)] (b9o list q):=
 o7 _ fun r h=>n9<|l7 b33 b7I 0 h fun Q4 h=>rg<|lp (f0X list q) h (fun _ h=>a47.rt h) (e0F r) fun hI=>sk [] [0,3,6,7] [(1,0),(5,0),(4,0)] hI
def a5f:FS (Bool):=⟨27,Tryz.f27,[.val [] []],[none],[.val C5 []],fun r=>.b r,fun _=>[none],Tryz.func27⟩
def c3C:Unit->KS:=fun _=>⟨a5f.k 5 [false,false],(bs 53 []),[some []]⟩
def d34:Option Bool:=
 some true
theorem e9F(r):NF a5f r c3C (fun s=>d34):=fun _ h=>PK<|rg<|fE h
def d2j(w:m5)(worldLog:List m4):Int->KS:=fun i=>⟨a5f.k 4 [false],(bs 1 (.ptr 1 0 0::(bs 1 (j9 7 s5 worldLog::(vi i::(bs 48 [])))))),[some [],some [.var 30 (B9 w)]]⟩
def f6l(w:m5)(worldLog:List m4)(i:Int)(told:n6)(l10Code:Int×Bool):Int->KS:=fun v_=>⟨a5f.k 10 [false,true,true],(bs 1 (.ptr 1 0 0::(bs 1 (j9 7 s5 worldLog::(vi i::(.ptr 2 0 0::(vi l10Code.1::(.b l10Code.2::(vi v_::(bs 44 [])))))))))),[some [],some [.var 30 (B9 w)],some [.var 76 [vi told.Node,vi told.a5.b9,vi told.a5.Seq,vi told.Code,vi told.d9]]]⟩
def c6N(i:Int)(told:n6)(l10Code:Int×Bool)(v_:Int):Option (j7 Bool Int Unit):=
 (bif (!l10Code.2) then some (j7.ret false) else (bif (l10Code.1 != told.Code) then some (j7.ret false) else (bif (v_ != told.d9) then some (j7.ret false) else some (j7.nxt (m7 (i+1))))))
theorem e70(w worldLog i told l10Code)(lc:D2 a5f c3C (d2j w worldLog)):NL lc (f6l w worldLog i told l10Code) (fun s=>c6N i told l10Code s):=fun v_ h=>PK<|rg<|j5 2 h (fun h=>rg<|fL lc h) (fun h=>j5 8 h (fun h=>rg<|fL lc h) (fun h=>j5 13 h (fun h=>rg<|fL lc h) (fun h=>rg<|(lc.nx h fun hI=>sk [] [1,3,4] [(1,0)] hI))))
def b6j(w:m5)(worldLog:List m4)(i:Int):Option (j7 Bool Int Unit):=
 (bif decide (i<(w.Told.length:Int)) then ((idx w.Told i).bind fun told=>((b9o worldLog told.a5).bind fun l10Code=>(((bif (l10Code.1==0) then ((b0Y worldLog told.a5).bind fun b1J=>some (l9.brk b1J)) else some (l9.brk 0)):Option (l9 (j7 Bool Int Unit) Int)).bind fun x=>x.go some fun j=>c6N i told l10Code j))) else some (j7.brk ()))
theorem e58(w worldLog):LQ a5f c3C (d2j w worldLog) (fun s=>b6j w worldLog s):=fun lc i h=>PK<|rg<|j5 4 h (fun h=>rg<|u0 z5 3 h fun told a4y h=>rg<|l7 a47 f4g 3 h fun l10Code h=>rg<|A3 h (e70 w worldLog i told l10Code lc) fun x2 h hc2=>rg<|j5 1 h (fun h=>rg<|l7 a35 d7h 3 h fun b1J h=>(o9 h hc2 fun hI=>sk [] [1,3,4,5,6,7,8] [(1,0),(12,0)] hI)) (fun h=>(o9 h hc2 fun hI=>sk [] [1,3,4,5,6,7,8] [(1,0),(12,0)] hI))) (fun h=>(lc.bk h fun hI=>sk [] [] [] hI))
def b3B(w:m5):Option Bool:=
 ((a22 w).bind fun A0=>(bif (!A0) then some false else ((b4k w).bind fun worldLog=>((o8 (fun s:Int=>b6j w worldLog s) 0).bind fun x=>x.go (fun r=>some r) fun s=>d34))))
theorem d9q{w}:OK a5f [.agg (K7 w)] (b3B w):=
 o7 _ fun r h=>n9<|l7 J1 a5u 1 h fun A0 h=>j5 2 h (fun h=>rg<|fE h) (fun h=>rg<|l7 a30 d8B 1 h fun worldLog h=>rg<|lp (e58 w worldLog) h (fun _ h=>a5f.rt h) (e9F r) fun hI=>sk [] [1,3,4] [(1,0)] hI)
def a28:FS (Bool):=⟨28,Tryz.f28,[.val [] []],[none],[.val C5 []],fun r=>.b r,fun _=>[none],Tryz.func28⟩
def c4o(w:m5):Unit->KS:=fun _=>⟨a28.k 3 [false],(bs 1 (.ptr 1 0 0::(bs 30 []))),[some [],some [.var 30 (B9 w)]]⟩
def c4h(w:m5):Option Bool:=
 ((a22 w).bind fun A0=>some A0)
theorem f4L(w)(r):NF a28 r (c4o w) (fun s=>c4h w):=fun _ h=>PK<|rg<|l7 J1 a5u 1 h fun A0 h=>fE h
def d5J(w:m5):Int->KS:=fun i=>⟨a28.k 2 [],(bs 1 (.ptr 1 0 0::(bs 1 (vi i::(bs 28 []))))),[some [],some [.var 30 (B9 w)]]⟩
def d7p(w:m5)(i:Int):Unit->KS:=fun _=>⟨a28.k 5 [true,false],(bs 1 (.ptr 1 0 0::(bs 1 (vi i::(bs 28 []))))),[some [],some [.var 30 (B9 w)]]⟩
def c7T(i:Int):Option (j7 Bool Int Unit):=
 some (j7.nxt (m7 (i+1)))
theorem e9G(w i)(lc:D2 a28 (c4o w) (d5J w)):NL lc (d7p w i) (fun s=>c7T i):=fun _ h=>PK<|rg<|(lc.nx h fun hI=>sk [] [1,3] [(1,0)] hI)
def e0A(w:m5)(i:Int):Int->KS:=fun k=>⟨a28.k 4 [true],(bs 1 (.ptr 1 0 0::(bs 1 (vi i::(vi k::(bs 27 [])))))),[some [],some [.var 30 (B9 w)]]⟩
def b1L(w:m5)(i:Int)(k:Int):Option (j7 Bool Int Unit):=
 (bif decide (k<i) then ((idx w.Told k).bind fun told=>((idx w.Told i).bind fun a6V=>(bif (([told.a5.b9,told.a5.Seq]:List Int)==[a6V.a5.b9,a6V.a5.Seq]) then some (j7.ret false) else some (j7.nxt (m7 (k+1)))))) else some (j7.brk ()))
theorem e3K(w i):LQ a28 (d7p w i) (e0A w i) (fun s=>b1L w i s):=fun lc k h=>PK<|rg<|j5 2 h (fun h=>rg<|u0 z5 3 h fun told a4y h=>u0 z5 9 h fun a6V f3R h=>j5 12 h (fun h=>rg<|fL lc h) (fun h=>rg<|(lc.nx h fun hI=>sk [] [1,3,4] [(1,0)] hI))) (fun h=>(lc.bk h fun hI=>sk [] [1,3] [(1,0)] hI))
def b8g(w:m5)(i:Int):Option (j7 Bool Int Unit):=
 (bif decide (i<(w.Told.length:Int)) then ((o8 (fun s:Int=>b1L w i s) 0).bind fun x=>x.go (fun r=>some (j7.ret r)) fun s=>c7T i) else some (j7.brk ()))
theorem d96(w):LQ a28 (c4o w) (d5J w) (fun s=>b8g w s):=fun lc i h=>PK<|rg<|j5 4 h (fun h=>rg<|lp (e3K w i) h (fun _ h=>lc.rt h) (e9G w i lc) fun hI=>sk [] [1,3,4] [(1,0)] hI) (fun h=>(lc.bk h fun hI=>sk [] [1] [(1,0)] hI))
def b4Z(w:m5):Option Bool:=
 ((o8 (fun s:Int=>b8g w s) 0).bind fun x=>x.go (fun r=>some r) fun s=>c4h w)
theorem f4K{w}:OK a28 [.agg (K7 w)] (b4Z w):=
 o7 _ fun r h=>n9<|lp (d96 w) h (fun _ h=>a28.rt h) (f4L w r) fun hI=>sk [] [1,3] [(1,0)] hI
def d2c:FS (Bool):=⟨8,Tryz.f8,[.val [] []],[none],[.val C5 []],fun r=>.b r,fun _=>[none],Tryz.func8⟩
def b9j(w:m5):Option Bool:=
 ((b47 w).bind fun b3F=>(bif b3F then ((b3U w).bind fun b25=>(bif b25 then ((b3E w).bind fun b4b=>(bif b4b then ((b3L w).bind fun b1O=>(bif b1O then ((b8b w).bind fun a2x=>(bif a2x then ((b3B w).bind fun b2L=>(bif b2L then ((b4Z w).bind fun b3Z=>some b3Z) else some false)) else some false)) else some false)) else some false)) else some false)) else some false))
theorem e5R{w}:OK d2c [.agg (K7 w)] (b9j w):=
 o7 _ fun r h=>n9<|l7 a3p e5y 1 h fun b3F h=>j5 2 h (fun h=>l7 Z3 f7k 4 h fun b25 h=>j5 6 h (fun h=>l7 a3t e0G 8 h fun b4b h=>j5 10 h (fun h=>l7 a2c e4L 12 h fun b1O h=>j5 14 h (fun h=>l7 a8h f7l 16 h fun a2x h=>j5 18 h (fun h=>l7 a5f d9q 20 h fun b2L h=>j5 22 h (fun h=>l7 a28 f4K 24 h fun b3Z h=>fE h) (fun h=>fE h)) (fun h=>fE h)) (fun h=>fE h)) (fun h=>fE h)) (fun h=>fE h)) (fun h=>fE h)
def a7n:FS (Bool):=⟨3,Tryz.f3,[.val [] []],[none],[.val [some 1] []],fun r=>.b r,fun _=>[none],Tryz.func3⟩
def c7l:m5->KS:=fun w1=>⟨a7n.k 7 [false,false,false],(bs 4 (.ptr 1 0 0::(bs 37 []))),[some [],some [.var 30 [j9 27 x6 w1.a0,j9 13 t6 w1.d7,j9 3 C1 w1.d8,j9 5 z5 w1.Told]]]⟩
def c67(w1:m5):Option Bool:=
 ((b2d w1).bind fun d8r=>(bif d8r then ((b9j w1).bind fun d6k=>some d6k) else some false))
theorem f8h(r):NF a7n r c7l (fun s=>c67 s):=fun w1 h=>PK<|rg<|l7 c1y d7f 1 h fun d8r h=>j5 2 h (fun h=>l7 d2c e5R 4 h fun d6k h=>fE h) (fun h=>fE h)
def d7r(drawWorldStory:List s6):(Int×m5)->KS:=fun (i,w)=>⟨a7n.k 6 [false,false],(bs 3 (j9 3 J5 drawWorldStory::(.ptr 1 0 0::(vi i::(bs 36 []))))),[some [],some [.var 30 [j9 27 x6 w.a0,j9 13 t6 w.d7,j9 3 C1 w.d8,j9 5 z5 w.Told]]]⟩
def f5B(drawWorldStory:List s6)(i:Int)(worldDo:m5):Unit->KS:=fun _=>⟨a7n.k 9 [false,false,true,false],(bs 3 (j9 3 J5 drawWorldStory::(.ptr 1 0 0::(vi i::(bs 36 []))))),[some [],some [.var 30 [j9 27 x6 worldDo.a0,j9 13 t6 worldDo.d7,j9 3 C1 worldDo.d8,j9 5 z5 worldDo.Told]]]⟩
def c3R(i:Int)(worldDo:m5):Option (j7 Bool (Int×m5) m5):=
 some (j7.nxt (m7 (i+1),worldDo))
theorem f0Y(drawWorldStory i worldDo)(lc:D2 a7n c7l (d7r drawWorldStory)):NL lc (f5B drawWorldStory i worldDo) (fun s=>c3R i worldDo):=fun _ h=>PK<|rg<|(lc.nx h fun hI=>sk [] [3,4,5] [(1,0)] hI)
def a64(drawWorldStory:List s6)(i:Int)(w:m5):Option (j7 Bool (Int×m5) m5):=
 (bif decide (i<(drawWorldStory.length:Int)) then ((idx drawWorldStory i).bind fun c7O=>((b6I w c7O).bind fun worldDo=>(((bif ((f9c i 5)==4) then ((b2d worldDo).bind fun c7V=>(bif (!c7V) then some (l9.ret (j7.ret false)) else some (l9.brk ()))) else some (l9.brk ())):Option (l9 (j7 Bool (Int×m5) m5) Unit)).bind fun x=>x.go some fun j=>c3R i worldDo))) else some (j7.brk w))
theorem f7r(drawWorldStory):LQ a7n c7l (d7r drawWorldStory) (fun s=>a64 drawWorldStory s.1 s.2):=fun lc (i,w) h=>PK<|rg<|j5 3 h (fun h=>rg<|u0 J5 3 h fun c7O f8w h=>l7 c8r e8l 5 h fun worldDo h=>A3 h (f0Y drawWorldStory i worldDo lc) fun x2 h hc2=>rg<|om (5≠(0:Int)) (by decide)<|j5 3 h (fun h=>l7 c1y d7f 5 h fun c7V h=>j5 7 h (fun h=>rg<|(B2 h hc2 fun h=>fL lc h)) (fun h=>(o9 h hc2 fun hI=>sk [] [3,4,5] [(1,0)] hI))) (fun h=>(o9 h hc2 fun hI=>sk [] [3,4,5] [(1,0)] hI))) (fun h=>(lc.bk h fun hI=>sk [] [4] [(1,0)] hI))
def c6t(code:List Int):Option Bool:=
 (bif decide ((code.length:Int)>1048576) then some true else ((b8C code).bind fun drawWorldStory=>((c0H).bind fun a8m=>(bif ((a8m.a0.length:Int) != 3) then some false else ((o8 (fun s:Int×m5=>a64 drawWorldStory s.1 s.2) (0,a8m)).bind fun x=>x.go (fun r=>some r) fun s=>c67 s)))))
theorem f1P{code}:OK a7n [j9 1 K5 code] (c6t code):=
 o7 _ fun r h=>n9<|j5 2 h (fun h=>rg<|fE h) (fun h=>rg<|l7 d55 f5V 1 h fun drawWorldStory h=>rg<|l7 a8I e3W 0 h fun a8m h=>rg<|j5 3 h (fun h=>rg<|fE h) (fun h=>rg<|lp (f7r drawWorldStory) h (fun _ h=>a7n.rt h) (f8h r) fun hI=>sk [] [3,4,5] [(9,0)] hI))
theorem e7D:b0V Tryz.prog 5 K5 a50:=f5e Tryz.underlying5
theorem e2G:b0V Tryz.prog 22 (fun l:List Int=>[j9 1 K5 l]) (A2 1 a50):=e8t Tryz.underlying22 e7D (by kernel_rfl) (by decide) (by kernel_rfl) (fun _=>rfl)
theorem C4{n:Int}(h1:-9223372036854775808<=n)(h2:n<=9223372036854775807):m7 n=n:=IntWalk.i64_in n ⟨h1,h2⟩
def s8{α:Type}(l:List α):Prop:=l.length<=140737488351232
theorem E6{α:Type}{l:List α}(hl:s8 l){k:Nat}(h:k<l.length):m7 ((k:Int)+1)=((k+1:Nat):Int):=by
 unfold s8 at hl;rw [C4 (by omega) (by omega)];omega
section
variable {R S B:Type} {body:S->Option (j7 R S B)}
theorem E7{s t:S}(h:body s=some (.nxt t)):o8 body s=o8 body t:=by rw [c5o,h]
theorem C8{s:S}{b:B}(h:body s=some (.brk b)):o8 body s=some (.brk b):=by rw [c5o,h]
theorem W3{s:S}{r:R}(h:body s=some (.ret r)):o8 body s=some (.ret r):=by rw [c5o,h]
theorem V9(st:Nat->S)(n:Nat)(h:∀k,k<n->body (st k)=some (.nxt (st (k+1)))):o8 body (st 0)=o8 body (st n):=by
 induction n with
 | zero=>rfl
 | succ n ih=>
  rw [ih fun k hk=>h k (by omega)];exact E7 (h n (by omega))
theorem a45(st:Nat->S)(n:Nat)(ok:Nat->Bool)(r:Nat->R)(b:B)(h1:∀k,k<n->(∀j,j<k->ok j=true)->body (st k)=some (bif ok k then .nxt (st (k+1)) else .ret (r k)))(h2:(∀j,j<n->ok j=true)->body (st n)=some (.brk b)) :
  (o8 body (st 0)=some (.brk b)/\∀j,j<n->ok j=true)\/∃k,k<n/\ok k=false/\(∀j,j<k->ok j=true)/\o8 body (st 0)=some (.ret (r k)):=by
 by_cases hall:∀j,j<n->ok j=true
 ·left
  refine ⟨?_,hall⟩;rw [V9 st n fun k hk => ?_]
  ·exact C8 (h2 hall)
  ·rw [h1 k hk fun j hj=>hall j (by omega),hall k hk];rfl
 ·right
  have hex:∃k,k<n/\ok k=false:=by
   apply g0s;intro hn;apply hall;intro j hj;cases hj':ok j with
   | true=>rfl
   | false=>exact absurd ⟨j,hj,hj'⟩ hn
  obtain ⟨k,hk,ho,hb⟩:∃k,k<n/\ok k=false/\∀j,j<k->ok j=true:=by
   obtain ⟨k,hk,ho⟩:=hex;induction k using Nat.strongRecOn with
   | _ k ih=>
    by_cases hb:∀j,j<k->ok j=true
    ·exact ⟨k,hk,ho,hb⟩
    ·have:∃j,j<k/\ok j=false:=by
      apply g0s;intro hn;apply hb;intro j hj;cases hj':ok j with
      | true=>rfl
      | false=>exact absurd ⟨j,hj,hj'⟩ hn
     obtain ⟨j,hj,hjo⟩:=this;exact ih j hj (by omega) hjo
  refine ⟨k,hk,ho,hb,?_⟩;rw [V9 st k fun j hj => ?_]
  ·refine W3 ?_;rw [h1 k hk hb,ho];rfl
  ·rw [h1 j (by omega) fun i hi=>hb i (by omega),hb j hj];rfl
end
theorem c5r{R S B:Type}{body:S->Option (j7 R S B)}(I:Nat->S->Prop)(Q:l9 R B->Prop)(h:∀k s,I k s->∃st,body s=some st/\match st with | .ret r=>Q (.ret r) | .brk b=>Q (.brk b) | .nxt t => ∃k',k'<k/\I k' t):∀{k s},I k s->∃x,o8 body s=some x/\Q x:=by
 intro k;induction k using Nat.strongRecOn with
 | _ k ih=>
  intro s hs;obtain ⟨st,hb,hq⟩:=h k s hs;cases st with
  | ret r=>exact ⟨_,W3 hb,hq⟩
  | brk b=>exact ⟨_,C8 hb,hq⟩
  | nxt t=>
   obtain ⟨k',hk,ht⟩:=hq;obtain ⟨x,hx,hq⟩:=ih k' hk ht;exact ⟨x,by rw [E7 hb];exact hx,hq⟩
theorem v5{β:Type}{p:Prop}[Decidable p](h:p)(k:Option β):t5 p k=k:=if_pos h
theorem a9l{α:Type}(l:List α)(k:Nat):idx l (k:Int)=l[k]?:=by
 unfold idx;rw [if_pos (by omega)];rfl
theorem t0{α:Type}{l:List α}{k:Nat}(h:k<l.length):idx l (k:Int)=some l[k]:=by
 rw [a9l,f8z h]
theorem w6{α:Type}(l:List α)(k:Nat)(h:k<l.length):decide ((k:Int)<(l.length:Int))=true:=by simpa using h
theorem z8{α:Type}(l:List α):decide ((l.length:Int)<(l.length:Int))=false:=by simp
theorem I5{α B:Type}{body:Int->Option (j7 Bool Int B)}(l:List α)(hl:s8 l)(ok:α->Bool)(v:Bool)(b:B)(h1:∀(k:Nat) (h:k<l.length),body (k:Int)=some (bif ok l[k] then .nxt (m7 ((k:Int)+1)) else .ret v))(h2:body (l.length:Int)=some (.brk b)):o8 body 0=some (bif l.all ok then .brk b else .ret v):=by
 have h:=a45 (body:=body) (fun k=>(k:Int)) l.length (fun k=>match l[k]? with|some x=>ok x|none=>true) (fun _=>v) b
  (fun k hk _=>by
   have:=h1 k hk;rw [E6 hl hk] at this;simpa [f8z hk] using this) (fun _=>h2)
 rcases h with ⟨h,hall⟩|⟨k,hk,ho,_,h⟩
 ·have:l.all ok=true:=by
   rw [f8E];intro x hx;obtain ⟨i,hi,rfl⟩:=f9a hx;have:=hall i hi;simpa [f8z hi] using this
  rw [this];exact h
 ·have:l.all ok=false:=by
   rw [g0g];refine ⟨l[k],f8C hk,?_⟩;simpa [f8z hk] using ho
  rw [this];exact h
theorem V8{α B:Type}{body:Int->Option (j7 Bool Int B)}(l:List α)(hl:s8 l)(ok:Nat->Bool)(v:Bool)(b:B)(h1:∀(k:Nat) (h:k<l.length),(∀j,j<k->ok j=true)->body (k:Int)=some (bif ok k then .nxt (m7 ((k:Int)+1)) else .ret v))(h2:body (l.length:Int)=some (.brk b)):o8 body 0=some (bif (f8I l.length).all ok then .brk b else .ret v):=by
 have h:=a45 (body:=body) (fun k=>(k:Int)) l.length ok (fun _=>v) b
  (fun k hk hb=>by
   have:=h1 k hk hb;rw [E6 hl hk] at this;exact this) (fun _=>h2)
 rcases h with ⟨h,hall⟩|⟨k,hk,ho,_,h⟩
 ·have:(f8I l.length).all ok=true:=by
   rw [f8E];intro x hx;exact hall x (by simpa using hx)
  rw [this];exact h
 ·have:(f8I l.length).all ok=false:=by
   rw [g0g];exact ⟨k,by simpa using hk,by simp [ho]⟩
  rw [this];exact h
theorem b4V{α R B:Type}{body:Int->Option (j7 R Int B)}(l:List α)(hl:s8 l)(is:α->Bool)(f:α->R)(b:B)(h1:∀(k:Nat) (h:k<l.length),body (k:Int)=some (bif is l[k] then .ret (f l[k]) else .nxt (m7 ((k:Int)+1))))(h2:body (l.length:Int)=some (.brk b)):o8 body 0=some (match l.find? is with|some x=>.ret (f x)|none=>.brk b):=by
 have key:∀(m k:Nat),k+m=l.length->o8 body (k:Int)=some (match (l.drop k).find? is with|some x=>.ret (f x)|none=>.brk b):=by
  intro m;induction m with
  | zero=>
   intro k hk;have:k=l.length:=by omega
   subst this;rw [g0O];exact C8 h2
  | succ m ih=>
   intro k hk;have hlt:k<l.length:=by omega
   have hb:=h1 k hlt;rw [f8W hlt,g0m];cases hq:is l[k] with
   | true=>
    rw [hq] at hb;exact W3 hb
   | false=>
    rw [hq] at hb;rw [E7 hb,E6 hl hlt];exact ih (k+1) (by omega)
 have:=key l.length 0 (by omega);simpa using this
theorem d3r{α S R B:Type}{body:S×Int->Option (j7 R (S×Int) B)}(l:List α)(hl:s8 l)(g:S->α->S)(s0:S)(b:S->B)(h1:∀(k:Nat) (h:k<l.length),body ((l.take k).foldl g s0,(k:Int))=some (.nxt (g ((l.take k).foldl g s0) l[k],m7 ((k:Int)+1))))(h2:body (l.foldl g s0,(l.length:Int))=some (.brk (b (l.foldl g s0)))):o8 body (s0,0)=some (.brk (b (l.foldl g s0))):=by
 have h:=V9 (body:=body) (fun k=>((l.take k).foldl g s0,(k:Int))) l.length (fun k hk=>by
  rw [h1 k hk,E6 hl hk,f9e hk,List.foldl_append];rfl)
 simp only [f9p,g0Y,f8Q] at h;rw [show ((0:Nat):Int)=0 from rfl] at h;rw [h];exact C8 h2
def c7k(x:n5):Prop:=H3 x.b9/\H3 x.Seq
def d2Q(x:r9):Prop:=H3 x.i5/\H3 x.j4
def d4b(x:p8):Prop:=H3 x.i5/\H3 x.d9
def b78(x:n7):Prop:=(A2 16 d2Q) x.b5/\(A2 16 d4b) x.b7/\H3 x.d9/\H3 x.Code
def E9(x:m4):Prop:=c7k x.a5/\b78 x.b6
def T7(x:m8):Prop:=H3 x.a8/\E9 x.g9
def a7c(x:z0):Prop:=H3 x.i0/\(A2 96 T7) x.a7
def b2H(x:n8):Prop:=H3 x.a9/\H3 x.A/\H3 x.B/\H3 x.N
def O6(x:j6):Prop:=H3 x.Id/\a7c x.Acc/\(A2 88 E9) x.a6/\H3 x.Seq/\H3 x.d6/\H3 x.a8/\(A2 1 okT) x.c9/\(A2 96 T7) x.i4/\E9 x.c8/\(A2 1 okT) x.a7/\(A2 32 b2H) x.i6/\E9 x.b8/\(A2 88 E9) x.f0
def a0x(x:l8):Prop:=H3 x.a9/\H3 x.c9/\H3 x.To/\H3 x.a8/\H3 x.g8/\E9 x.g9/\(A2 96 T7) x.a7
def d4B(x:x8):Prop:=c7k x.a5/\(A2 32 b2H) x.i6
def c9n(x:n6):Prop:=H3 x.Node/\c7k x.a5/\H3 x.Code/\H3 x.d9
def L3(x:m5):Prop:=(A2 392 O6) x.a0/\(A2 152 a0x) x.d7/\(A2 40 d4B) x.d8/\(A2 40 c9n) x.Told
theorem A2.fits{α:Type}{bytes:Nat}{ok:α->Prop}{l:List α}(h:A2 bytes ok l)(hb:0<bytes):s8 l:=by
 obtain ⟨h,_⟩:=h;unfold s8;have:l.length*1<=l.length*bytes:=Nat.mul_le_mul_left _ hb;omega
def a1z(x:n7):Prop:=A2 16 okT x.b5/\A2 16 okT x.b7/\True
def a09(x:m4):Prop:=True/\a1z x.b6
theorem A2.imp{α:Type}{bytes:Nat}{ok ok':α->Prop}{l:List α}(h:A2 bytes ok l)(hi:∀x,ok x->ok' x):A2 bytes ok' l:=⟨h.1,fun x hx=>hi x (h.2 x hx)⟩
theorem b78.f{x:n7}(h:b78 x):a1z x:=⟨h.1.imp fun _ _=>trivial,h.2.1.imp fun _ _=>trivial,trivial⟩
theorem E9.f{x:m4}(h:E9 x):a09 x:=⟨trivial,h.2.f⟩
theorem okEntries.f{l:List m4}(h:A2 88 E9 l):A2 88 a09 l:=h.imp fun _ x=>x.f
def J7(l:List r9)(box:Int):Bool:=l.any (·.i5==box)
def K8(l:List p8)(box:Int):Bool:=l.any (·.i5==box)
theorem d65{l:List r9}(h:s8 l)(box:Int):b41 l box=some (J7 l box):=by
 unfold b41;rw [I5 l h (fun x => !(x.i5==box)) true ()]
 ·unfold J7;rw [List.any_eq_not_all_not];cases l.all fun x => !(x.i5==box)<;>rfl
 ·intro k hk;unfold b81;rw [w6 l k hk,t0 hk];cases hq:l[k].i5==box<;>simp [hq]
 ·unfold b81;rw [z8];rfl
theorem d4Z{α B:Type}{body:Int->Option (j7 Int Int B)}(l:List α)(hl:s8 l)(is:α->Bool)(b:B)(h1:∀(k:Nat) (h:k<l.length),body (k:Int)=some (bif is l[k] then .ret (k:Int) else .nxt (m7 ((k:Int)+1))))(h2:body (l.length:Int)=some (.brk b)):(o8 body 0=some (.brk b)/\l.any is=false)\/∃k:Nat,o8 body 0=some (.ret (k:Int))/\l.any is=true:=by
 have h:=a45 (body:=body) (fun k=>(k:Int)) l.length (fun k=>match l[k]? with|some x => !is x|none=>true) (fun k=>(k:Int)) b
  (fun k hk _=>by
   have:=h1 k hk;rw [E6 hl hk] at this;rw [this];simp only [f8z hk];cases is l[k]<;>rfl) (fun _=>h2)
 rcases h with ⟨h,hall⟩|⟨k,hk,ho,_,h⟩
 ·left
  refine ⟨h,?_⟩;rw [f9q];intro x hx;obtain ⟨i,hi,rfl⟩:=f9a hx;have:=hall i hi;simpa [f8z hi] using this
 ·right
  refine ⟨k,h,?_⟩;rw [g0b];refine ⟨l[k],f8C hk,?_⟩;simpa [f8z hk] using ho
theorem d8J{l:List p8}(h:s8 l)(box:Int):∃v,a5Z l box=some v/\decide (v>=0)=K8 l box:=by
 unfold a5Z;rcases d4Z (body:=fun s:Int=>a5M l box s) l h (fun x=>x.i5==box) () (by
  intro k hk;unfold a5M;rw [w6 l k hk,t0 hk];cases hq:l[k].i5==box<;>simp [hq]) (by unfold a5M;rw [z8];rfl) with ⟨h1,h2⟩|⟨k,h1,h2⟩
 ·rw [h1];exact ⟨-1,rfl,h2.symm⟩
 ·rw [h1];refine ⟨k,rfl,?_⟩;rw [show K8 l box=true from h2];simp
theorem f4J{x:n7}(h:s8 x.b5)(box:Int):∃v,b37 x box=some v/\decide (v>=0)=J7 x.b5 box:=by
 unfold b37;rcases d4Z (body:=fun s:Int=>b4D x box s) x.b5 h (fun x=>x.i5==box) () (by
  intro k hk;unfold b4D;rw [w6 x.b5 k hk,t0 hk];cases hq:x.b5[k].i5==box<;>simp [hq]) (by unfold b4D;rw [z8];rfl) with ⟨h1,h2⟩|⟨k,h1,h2⟩
 ·rw [h1];exact ⟨-1,rfl,h2.symm⟩
 ·rw [h1];refine ⟨k,rfl,?_⟩;rw [show J7 x.b5 box=true from h2];simp
def p9(n lo hi:Int):Bool:=decide (lo<=n/\n<=hi)
theorem N8(n lo hi:Int):D9 n lo hi=some (p9 n lo hi):=by
 unfold D9 p9;by_cases h:n>=lo
 ·have h':lo<=n:=h;simp [h']
 ·have h':¬lo<=n:=h;simp [h']
theorem a73(n:Int):a7l n=some (p9 n (-1000000) 1000000):=N8 n (-1000000) 1000000
theorem c1w(n:Int):a9f n=some (p9 n 0 3):=by
 rw [<-N8];unfold a9f D9;have:(n<4)=(n<=3):=by apply propext;omega
 simp only [this]
theorem c0q(q:n5):a68 q=some (p9 q.b9 0 2&&p9 q.Seq 1 1000):=by
 unfold a68;simp only [N8,f8y];cases p9 q.b9 0 2<;>rfl
theorem c6b(q:n5):b0z q=some (p9 q.b9 0 2&&p9 q.Seq 1 1000):=by
 have h3:(q.b9<3)=(q.b9<=2):=by apply propext;omega
 unfold b0z p9;simp only [h3];by_cases h1:q.b9>=0<;>by_cases h2:q.b9<=2<;>by_cases h4:q.Seq>=1<;>by_cases h5:q.Seq<=1000<;>simp [h1,h2,h4,h5]<;>omega
def Y4(l:List r9)(k:Nat):Bool:=match l[k]? with
 | some x=>p9 x.i5 0 3&&(p9 x.j4 0 1000000 && !J7 (l.take k) x.i5)
 | none=>true
def Y1(l:List p8)(k:Nat):Bool:=match l[k]? with
 | some x=>p9 x.i5 0 3&&(p9 x.d9 (-1000000) 1000000 && !K8 (l.take k) x.i5)
 | none=>true
theorem b4p{α:Type}{l:List α}(h:s8 l)(k:Nat):s8 (l.take k):=by
 unfold s8 at h ⊢;rw [f8S];omega
theorem e6W{r:n7}(h:s8 r.b5):o8 (fun s:Int=>b28 r s) 0=some (bif (f8I r.b5.length).all (Y4 r.b5) then .brk () else .ret false):=by
 refine V8 r.b5 h (Y4 r.b5) false () ?_ ?_
 ·intro k hk _;unfold b28 Y4 t5;rw [w6 _ k hk,t0 hk,f8z hk];have hp:(0:Int)<=(k:Int)/\(k:Int)<=(r.b5.length:Int):=by constructor<;>omega
  simp only [g0Z,f8y,if_pos hp,c1w,f9b,Nat.sub_zero,f9M,d65 (b4p h k)];cases p9 r.b5[k].i5 0 3
  ·rfl
  ·unfold p9;by_cases h1:r.b5[k].j4<0
   ·have h1':¬0<=r.b5[k].j4:=by omega
    simp [h1,h1']
   ·have h1':0<=r.b5[k].j4:=by omega
    by_cases h2:r.b5[k].j4>1000000
    ·have h2':¬r.b5[k].j4<=1000000:=by omega
     simp [h1,h1',h2,h2']
    ·have h2':r.b5[k].j4<=1000000:=by omega
     simp only [h1,h1',h2,h2',decide_false,decide_true,f8F,g00,f8K,and_self];cases J7 (r.b5.take k) r.b5[k].i5<;>rfl
 ·unfold b28;rw [z8];rfl
theorem f4H{r:n7}(h:s8 r.b7):o8 (fun s:Int=>b27 r s) 0=some (bif (f8I r.b7.length).all (Y1 r.b7) then .brk () else .ret false):=by
 refine V8 r.b7 h (Y1 r.b7) false () ?_ ?_
 ·intro k hk _;obtain ⟨v,hv,hg⟩:=d8J (b4p h k) r.b7[k].i5;unfold b27 Y1 t5;rw [w6 _ k hk,t0 hk,f8z hk];have hp:(0:Int)<=(k:Int)/\(k:Int)<=(r.b7.length:Int):=by constructor<;>omega
  simp only [g0Z,f8y,if_pos hp,c1w,a73,f9b,Nat.sub_zero,f9M,hv,hg];cases p9 r.b7[k].i5 0 3
  ·rfl
  ·cases p9 r.b7[k].d9 (-1000000) 1000000
   ·rfl
   ·cases K8 (r.b7.take k) r.b7[k].i5<;>rfl
 ·unfold b27;rw [z8];rfl
def b1w(f:Int->Bool):List Bool:=[f 0,f 1,f 2,f 3]
theorem d3J{f:Int->Bool}{b:Int}(h:p9 b 0 3=true):idx (b1w f) b=some (f b)/\b<4:=by
 have h:0<=b/\b<=3:=by simpa [p9] using h
 have:b=0\/b=1\/b=2\/b=3:=by omega
 rcases this with rfl|rfl|rfl|rfl<;>exact ⟨rfl,by decide⟩
theorem c8b{f g:Int->Bool}{b:Int}(h:p9 b 0 3=true)(hb:g b=true)(hne:∀c,c≠b->g c=f c):(b1w f).set b.toNat true=b1w g:=by
 have h:0<=b/\b<=3:=by simpa [p9] using h
 have:b=0\/b=1\/b=2\/b=3:=by omega
 unfold b1w;rcases this with rfl|rfl|rfl|rfl
 all_goals
  rw [show [g 0,g 1,g 2,g 3]=_ from rfl];first
   | rw [hb,hne 1 (by decide),hne 2 (by decide),hne 3 (by decide)];rfl
   | rw [hb,hne 0 (by decide),hne 2 (by decide),hne 3 (by decide)];rfl
   | rw [hb,hne 0 (by decide),hne 1 (by decide),hne 3 (by decide)];rfl
   | rw [hb,hne 0 (by decide),hne 1 (by decide),hne 2 (by decide)];rfl
theorem d2P{l:List r9}{k:Nat}(hk:k<l.length)(b:Int):J7 (l.take (k+1)) b=(J7 (l.take k) b||(l[k].i5==b)):=by
 unfold J7;rw [f9e hk,List.any_append];simp
theorem d2B{l:List p8}{k:Nat}(hk:k<l.length)(b:Int):K8 (l.take (k+1)) b=(K8 (l.take k) b||(l[k].i5==b)):=by
 unfold K8;rw [f9e hk,List.any_append];simp
theorem e1o{l:List r9}{k:Nat}(hk:k<l.length)(c:Int)(hc:c≠l[k].i5):J7 (l.take (k+1)) c=J7 (l.take k) c:=by
 have:(l[k].i5==c)=false:=by simpa using fun h=>hc h.symm
 rw [d2P hk,this,Bool.or_false]
theorem f7O{l:List p8}{k:Nat}(hk:k<l.length)(c:Int)(hc:c≠l[k].i5):K8 (l.take (k+1)) c=K8 (l.take k) c:=by
 have:(l[k].i5==c)=false:=by simpa using fun h=>hc h.symm
 rw [d2B hk,this,Bool.or_false]
theorem d32{R S B:Type}{x:Option (l9 R B)}{n:Nat}{ok:Nat->Bool}{r:R}{b:B}(h:(x=some (.brk b)/\∀j,j<n->ok j=true)\/∃k,k<n/\ok k=false/\(∀j,j<k->ok j=true)/\x=some (.ret r)):x=some (bif (f8I n).all ok then .brk b else .ret r):=by
 rcases h with ⟨h,hall⟩|⟨k,hk,ho,_,h⟩
 ·have:(f8I n).all ok=true:=by
   rw [f8E];intro x hx;exact hall x (by simpa using hx)
  rw [this];exact h
 ·have:(f8I n).all ok=false:=by
   rw [g0g];exact ⟨k,by simpa using hk,by simp [ho]⟩
  rw [this];exact h
theorem e7j{r:n7}(h:s8 r.b5):o8 (fun s:List Bool×Int=>b0B r s.1 s.2) (f8A 4 false,0)=some (bif (f8I r.b5.length).all (Y4 r.b5) then .brk () else .ret false):=by
 refine d32 (S:=List Bool×Int) (a45 (body:=fun s:List Bool×Int=>b0B r s.1 s.2) (fun k=>(b1w (J7 (r.b5.take k)),(k:Int))) r.b5.length (Y4 r.b5) (fun _=>false) () ?_ ?_)
 ·intro k hk _;simp only;unfold b0B Y4 t5;rw [w6 _ k hk,t0 hk,f8z hk];simp only [g0Z,f8y,N8];cases hb:p9 r.b5[k].i5 0 3
  ·rfl
  ·obtain ⟨h1,h2⟩:=d3J (f:=J7 (r.b5.take k)) hb;rw [h1];simp only [if_pos h2,f8F,g00,f8y,f8K];cases hs:J7 (r.b5.take k) r.b5[k].i5
   ·cases p9 r.b5[k].j4 0 1000000
    ·rfl
    ·simp only [f8F,g00,f9j,f8K,g0Z];rw [c8b (f:=J7 (r.b5.take k)) (g:=J7 (r.b5.take (k+1))) hb (by rw [d2P hk];simp) (e1o hk),E6 h hk]
   ·cases p9 r.b5[k].j4 0 1000000<;>rfl
 ·intro _;simp only;unfold b0B;rw [z8];rfl
theorem e4w{r:n7}(h:s8 r.b7):o8 (fun s:List Bool×Int=>b01 r s.1 s.2) (f8A 4 false,0)=some (bif (f8I r.b7.length).all (Y1 r.b7) then .brk () else .ret false):=by
 refine d32 (S:=List Bool×Int) (a45 (body:=fun s:List Bool×Int=>b01 r s.1 s.2) (fun k=>(b1w (K8 (r.b7.take k)),(k:Int))) r.b7.length (Y1 r.b7) (fun _=>false) () ?_ ?_)
 ·intro k hk _;simp only;unfold b01 Y1 t5;rw [w6 _ k hk,t0 hk,f8z hk];simp only [g0Z,f8y,N8];cases hb:p9 r.b7[k].i5 0 3
  ·rfl
  ·obtain ⟨h1,h2⟩:=d3J (f:=K8 (r.b7.take k)) hb;rw [h1];simp only [if_pos h2,f8F,g00,f8y,f8K];cases hs:K8 (r.b7.take k) r.b7[k].i5
   ·cases p9 r.b7[k].d9 (-1000000) 1000000
    ·rfl
    ·simp only [f8F,g00,f9j,f8K,g0Z];rw [c8b (f:=K8 (r.b7.take k)) (g:=K8 (r.b7.take (k+1))) hb (by rw [d2B hk];simp) (f7O hk),E6 h hk]
   ·cases p9 r.b7[k].d9 (-1000000) 1000000<;>rfl
 ·intro _;simp only;unfold b01;rw [z8];rfl
def V3(r:n7):Bool:=p9 r.Code 0 3&&(p9 r.d9 (-1000000) 1000000&&((r.Code==0||(r.d9==0&&r.b7.length==0))&&((r.Code != 3||r.b5.length==0)&&((f8I r.b5.length).all (Y4 r.b5)&&(f8I r.b7.length).all (Y1 r.b7)))))
theorem e8p{r:n7}(h:a1z r):b6H r=some ((f8I r.b5.length).all (Y4 r.b5)&&(f8I r.b7.length).all (Y1 r.b7)):=by
 unfold b6H c1d;rw [e6W (h.1.fits (by decide)),f4H (h.2.1.fits (by decide))];cases (f8I r.b5.length).all (Y4 r.b5)<;>cases (f8I r.b7.length).all (Y1 r.b7)<;>rfl
theorem e4i{r:n7}(h:a1z r):b6W r=some ((f8I r.b5.length).all (Y4 r.b5)&&(f8I r.b7.length).all (Y1 r.b7)):=by
 unfold b6W c4w;rw [e7j (h.1.fits (by decide)),e4w (h.2.1.fits (by decide))];cases (f8I r.b5.length).all (Y4 r.b5)<;>cases (f8I r.b7.length).all (Y1 r.b7)<;>rfl
theorem d4U{α:Type}(l:List α):decide ((l.length:Int)>0) = !(l.length==0):=by
 cases l<;>simp
theorem d6o{r:n7}(h:a1z r):b1T r=some (V3 r):=by
 unfold b1T V3;rw [e8p h];simp only [a73,d4U,f8y,l9.go];generalize ((f8I r.b5.length).all (Y4 r.b5)&&(f8I r.b7.length).all (Y1 r.b7))=z;generalize (r.b7.length==0)=a;generalize (r.b5.length==0)=b;generalize p9 r.d9 (-1000000) 1000000=c;have h3:p9 r.Code 0 3=(!decide (r.Code<0) && !decide (r.Code>3)):=by
  unfold p9;by_cases h1:r.Code<0<;>by_cases h2:r.Code>3<;>simp [h1,h2]<;>omega
 rw [h3];unfold bne;cases decide (r.Code<0)<;>cases decide (r.Code>3)<;>cases c<;>cases (r.Code==0)<;>cases (r.d9==0)<;>cases a<;>cases (r.Code==3)<;>cases b<;>rfl
theorem c4E{r:n7}(h:a1z r):b1e r=some (V3 r):=by
 unfold b1e V3;rw [e4i h];simp only [N8,d4U,f8y,l9.go];generalize ((f8I r.b5.length).all (Y4 r.b5)&&(f8I r.b7.length).all (Y1 r.b7))=z;generalize (r.b7.length==0)=a;generalize (r.b5.length==0)=b;generalize p9 r.d9 (-1000000) 1000000=c;generalize p9 r.Code 0 3=d;unfold bne;cases d<;>cases c<;>cases (r.Code==0)<;>cases (r.d9==0)<;>cases a<;>cases (r.Code==3)<;>cases b<;>rfl
def a2y(a b:List r9)(k:Nat):Bool:=match a[k]?,b[k]? with
 | some x,some y=>([x.i5,x.j4]:List Int)==[y.i5,y.j4]
 | _,_=>true
def a2R(a b:List p8)(k:Nat):Bool:=match a[k]?,b[k]? with
 | some x,some y=>([x.i5,x.d9]:List Int)==[y.i5,y.d9]
 | _,_=>true
theorem f2f{a b:n7}(h:s8 a.b5)(hl:a.b5.length=b.b5.length):o8 (fun s:Int=>b5i a b s) 0=some (bif (f8I a.b5.length).all (a2y a.b5 b.b5) then .brk () else .ret false):=by
 refine V8 a.b5 h (a2y a.b5 b.b5) false () ?_ ?_
 ·intro k hk _;unfold b5i a2y;rw [w6 _ k hk,t0 hk,t0 (hl▸hk),f8z hk,f8z (hl▸hk)];simp only [g0Z,f8y];cases ([a.b5[k].i5,a.b5[k].j4]:List Int)==[(b.b5[k]'(hl▸hk)).i5,(b.b5[k]'(hl▸hk)).j4]<;>rfl
 ·unfold b5i;rw [z8];rfl
theorem e7I{a b:n7}(h:s8 a.b7)(hl:a.b7.length=b.b7.length):o8 (fun s:Int=>b1X a b s) 0=some (bif (f8I a.b7.length).all (a2R a.b7 b.b7) then .brk () else .ret false):=by
 refine V8 a.b7 h (a2R a.b7 b.b7) false () ?_ ?_
 ·intro k hk _;unfold b1X a2R;rw [w6 _ k hk,t0 hk,t0 (hl▸hk),f8z hk,f8z (hl▸hk)];simp only [g0Z,f8y];cases ([a.b7[k].i5,a.b7[k].d9]:List Int)==[(b.b7[k]'(hl▸hk)).i5,(b.b7[k]'(hl▸hk)).d9]<;>rfl
 ·unfold b1X;rw [z8];rfl
theorem e4k{a b:List r9}(h:s8 a):b7t a b=some (a.length==b.length&&(f8I a.length).all (a2y a b)):=by
 unfold b7t;by_cases hl:a.length=b.length
 ·rw [V8 a h (a2y a b) false ()]
  ·rw [hl];simp only [bne_self_eq_false,g00,beq_self_eq_true,f8K];cases (f8I b.length).all (a2y a b)<;>rfl
  ·intro k hk _;unfold b7m a2y;rw [w6 _ k hk,t0 hk,t0 (hl▸hk),f8z hk,f8z (hl▸hk)];simp only [g0Z,f8y];cases ([a[k].i5,a[k].j4]:List Int)==[(b[k]'(hl▸hk)).i5,(b[k]'(hl▸hk)).j4]<;>rfl
  ·unfold b7m;rw [z8];rfl
 ·have h1:((a.length:Int) != (b.length:Int))=true:=by simp;omega
  have h2:(a.length==b.length)=false:=by simpa using hl
  rw [h1,h2];rfl
theorem f4C{a b:List p8}(h:s8 a):b8G a b=some (a.length==b.length&&(f8I a.length).all (a2R a b)):=by
 unfold b8G;by_cases hl:a.length=b.length
 ·rw [V8 a h (a2R a b) false ()]
  ·rw [hl];simp only [bne_self_eq_false,g00,beq_self_eq_true,f8K];cases (f8I b.length).all (a2R a b)<;>rfl
  ·intro k hk _;unfold b7r a2R;rw [w6 _ k hk,t0 hk,t0 (hl▸hk),f8z hk,f8z (hl▸hk)];simp only [g0Z,f8y];cases ([a[k].i5,a[k].d9]:List Int)==[(b[k]'(hl▸hk)).i5,(b[k]'(hl▸hk)).d9]<;>rfl
  ·unfold b7r;rw [z8];rfl
 ·have h1:((a.length:Int) != (b.length:Int))=true:=by simp;omega
  have h2:(a.length==b.length)=false:=by simpa using hl
  rw [h1,h2];rfl
def a4X(a b:n7):Bool:=(a.b5.length==b.b5.length&&(f8I a.b5.length).all (a2y a.b5 b.b5))&&((a.b7.length==b.b7.length&&(f8I a.b7.length).all (a2R a.b7 b.b7))&&(a.d9==b.d9&&a.Code==b.Code))
theorem c7A{α β:Type}(a:List α)(b:List β):((a.length:Int) != (b.length:Int)) = !(a.length==b.length):=by
 unfold bne;congr 1
 by_cases h:a.length=b.length
 ·simp [h]
 ·have h1:((a.length:Int)==(b.length:Int))=false:=by simp;omega
  have h2:(a.length==b.length)=false:=by simpa using h
  rw [h1,h2]
theorem b8O{a b:n7}(h:a1z a):a8U a b=some (a4X a b):=by
 unfold a8U a4X;rw [c7A,c7A];cases h1:a.b5.length==b.b5.length
 ·unfold bne;cases a.d9==b.d9<;>cases a.Code==b.Code<;>rfl
 cases h2:a.b7.length==b.b7.length
 ·unfold bne;cases a.d9==b.d9<;>cases a.Code==b.Code<;>simp
 unfold c7u;rw [f2f (h.1.fits (by decide)) (by simpa using h1),e7I (h.2.1.fits (by decide)) (by simpa using h2)];unfold bne;cases (f8I a.b5.length).all (a2y a.b5 b.b5)<;>cases (f8I a.b7.length).all (a2R a.b7 b.b7)<;>cases a.d9==b.d9<;>cases a.Code==b.Code<;>rfl
theorem d49{a b:n7}(h:a1z a):c0U a b=some (a4X a b):=by
 unfold c0U a4X;rw [e4k (h.1.fits (by decide)),f4C (h.2.1.fits (by decide))];simp only [f8y];generalize (a.b5.length==b.b5.length&&(f8I a.b5.length).all (a2y a.b5 b.b5))=x;generalize (a.b7.length==b.b7.length&&(f8I a.b7.length).all (a2R a.b7 b.b7))=y;cases x<;>cases y<;>cases a.d9==b.d9<;>rfl
def z4(e:m4):Bool:=bif e.i7 then (([e.a5.b9,e.a5.Seq]:List Int)==[0,0])&&a4X e.b6 (n7.mk [] [] 0 0) else (p9 e.a5.b9 0 2&&p9 e.a5.Seq 1 1000)&&(V3 e.b6&&e.b6.Code != 3)
theorem a4k{e:m4}(h:a09 e):a1g e=some (z4 e):=by
 unfold a1g z4;simp only [b8O h.2,c6b,d6o h.2,f8y];cases e.i7
 ·simp only [g00];cases p9 e.a5.b9 0 2&&p9 e.a5.Seq 1 1000<;>cases V3 e.b6<;>rfl
 ·simp only [g0Z];cases ([e.a5.b9,e.a5.Seq]:List Int)==[0,0]<;>rfl
theorem a7t{e:m4}(h:a09 e):a1Q e=some (z4 e):=by
 unfold a1Q a14 z4;simp only [d49 h.2,c0q,c4E h.2,f8y];cases e.i7
 ·simp only [g00];cases p9 e.a5.b9 0 2&&p9 e.a5.Seq 1 1000<;>cases V3 e.b6<;>rfl
 ·simp only [g0Z,beq_self_eq_true];cases ([e.a5.b9,e.a5.Seq]:List Int)==[0,0]<;>rfl
def G4(l:List m4):Bool:=decide (l.length<=40)&&l.all z4
theorem c1h{α:Type}(l:List α)(n:Nat):decide ((l.length:Int)<=(n:Int))=decide (l.length<=n):=by
 by_cases h:l.length<=n
 ·have:(l.length:Int)<=(n:Int):=by omega
  simp [h,this]
 ·have:¬(l.length:Int)<=(n:Int):=by omega
  simp [h,this]
theorem b6i{α:Type}(l:List α)(n:Nat):decide ((l.length:Int)>(n:Int)) = !decide (l.length<=n):=by
 by_cases h:l.length<=n
 ·have:¬(l.length:Int)>(n:Int):=by omega
  simp [h,this]
 ·have:(l.length:Int)>(n:Int):=by omega
  simp [h,this]
theorem d2F{l:List m4}(h:A2 88 a09 l):b3T l=some (G4 l):=by
 unfold b3T G4;rw [show (40:Int)=((40:Nat):Int) from rfl,b6i,I5 l (h.fits (by decide)) z4 false ()]
 ·cases decide (l.length<=40)
  ·rfl
  ·cases l.all z4<;>rfl
 ·intro k hk;unfold b5X;rw [w6 _ k hk,t0 hk];simp only [g0Z,f8y,a4k (h.2 _ (f8C hk))];cases z4 l[k]<;>rfl
 ·unfold b5X;rw [z8];rfl
theorem c64{l:List m4}(h:A2 88 a09 l):b0l l=some (G4 l):=by
 unfold b0l G4 c6l;rw [show (40:Int)=((40:Nat):Int) from rfl,c1h,I5 l (h.fits (by decide)) z4 false ()]
 ·cases l.all z4<;>cases decide (l.length<=40)<;>rfl
 ·intro k hk;unfold b9A;rw [w6 _ k hk,t0 hk];simp only [g0Z,f8y,a7t (h.2 _ (f8C hk))];cases z4 l[k]<;>rfl
 ·unfold b9A;rw [z8];rfl
def a3G(b:m9):Bool:=p9 b.j4 0 1000000&&p9 b.d9 (-1000000) 1000000
def C6(l:List m9):Bool:=l.length==4&&l.all a3G
theorem b0v{α:Type}(l:List α)(n:Nat):((l.length:Int) != (n:Int)) = !(l.length==n):=by
 unfold bne;congr 1
 by_cases h:l.length=n
 ·simp [h]
 ·have h1:((l.length:Int)==(n:Int))=false:=by simp;omega
  have h2:(l.length==n)=false:=by simpa using h
  rw [h1,h2]
theorem e5Y{α:Type}(l:List α)(n:Nat):((l.length:Int)==(n:Int))=(l.length==n):=by
 have:=b0v l n;unfold bne at this;simpa using this
theorem c3k{l:List m9}(h:s8 l):b0Q l=some (C6 l):=by
 unfold b0Q C6;rw [show (4:Int)=((4:Nat):Int) from rfl,b0v,I5 l h a3G false ()]
 ·cases l.length==4
  ·rfl
  ·cases l.all a3G<;>rfl
 ·intro k hk;unfold b9U a3G;rw [w6 _ k hk,t0 hk];simp only [g0Z,f8y,a73];cases hq:p9 l[k].j4 0 1000000 with
  | false=>
   by_cases h1:l[k].j4<0
   ·simp [h1]
   ·have:l[k].j4>1000000:=by
     unfold p9 at hq;simp at hq;omega
    simp [h1,this]
  | true=>
   unfold p9 at hq;simp at hq;have h1:¬l[k].j4<0:=by omega
   have h2:¬l[k].j4>1000000:=by omega
   simp only [h1,h2,decide_false,g00,f8K];cases p9 l[k].d9 (-1000000) 1000000<;>rfl
 ·unfold b9U;rw [z8];rfl
theorem b5k{l:List m9}(h:s8 l):a6x l=some (C6 l):=by
 unfold a6x C6 c3A;rw [show (4:Int)=((4:Nat):Int) from rfl,e5Y,I5 l h a3G false ()]
 ·cases l.length==4<;>cases l.all a3G<;>rfl
 ·intro k hk;unfold b9P a3G;rw [w6 _ k hk,t0 hk];simp only [g0Z,f8y,N8];cases p9 l[k].j4 0 1000000<;>cases p9 l[k].d9 (-1000000) 1000000<;>rfl
 ·unfold b9P;rw [z8];rfl
theorem d8e{l:List r9}(h:(f8I l.length).all (Y4 l)=true):∀x∈l,0<=x.i5/\x.i5<=3/\0<=x.j4/\x.j4<=1000000:=by
 intro x hx;obtain ⟨i,hi,rfl⟩:=f9a hx;have:=f8E.1 h i (by simpa using hi);unfold Y4 at this;rw [f8z hi] at this;simp [p9] at this;omega
theorem d8p{l:List p8}(h:(f8I l.length).all (Y1 l)=true):∀x∈l,0<=x.i5/\x.i5<=3/\-1000000<=x.d9/\x.d9<=1000000:=by
 intro x hx;obtain ⟨i,hi,rfl⟩:=f9a hx;have:=f8E.1 h i (by simpa using hi);unfold Y1 at this;rw [f8z hi] at this;simp [p9] at this;omega
theorem a2W{r:n7}(h:V3 r=true):(0<=r.Code/\r.Code<=3)/\(-1000000<=r.d9/\r.d9<=1000000)/\(r.Code=0\/(r.d9=0/\r.b7=[]))/\(∀x∈r.b5,0<=x.i5/\x.i5<=3/\0<=x.j4/\x.j4<=1000000)/\∀x∈r.b7,0<=x.i5/\x.i5<=3/\-1000000<=x.d9/\x.d9<=1000000:=by
 unfold V3 at h;simp only [f8D,Bool.or_eq_true] at h;obtain ⟨h1,h2,h3,_,h4,h5⟩:=h;refine ⟨by simpa [p9] using h1,by simpa [p9] using h2,by simpa using h3,d8e h4,d8p h5⟩
def a0P(l:List m9)(r:n7):Bool:=r.b5.all fun x=>match l[x.i5.toNat]? with
 | some b=>b.j4==x.j4
 | none=>true
theorem a7r{l:List m9}(h:C6 l=true):l.length=4:=by
 unfold C6 at h;simp only [f8D,beq_iff_eq] at h;exact h.1
theorem a3k{l:List m9}(h:C6 l=true):s8 l:=by
 unfold s8;rw [a7r h];decide
theorem a4N{l:List m9}(h:C6 l=true){b:Int}(hb:0<=b/\b<=3):∃x,idx l b=some x/\l[b.toNat]?=some x/\a3G x=true:=by
 have hl:=a7r h;have hlt:b.toNat<l.length:=by omega
 refine ⟨l[b.toNat],?_,f8z hlt,?_⟩
 ·unfold idx;rw [if_pos hb.1,f8z hlt]
 ·unfold C6 at h;simp only [f8D] at h;exact f8E.1 h.2 _ (f8C hlt)
theorem f3Q{l:List m9}{r:n7}(hl:s8 l)(hr:a1z r):b9u l r=some (C6 l&&(V3 r&&a0P l r)):=by
 unfold b9u;rw [c3k hl,d6o hr];simp only [f8y];cases h1:C6 l
 ·rfl
 cases h2:V3 r
 ·rfl
 have hp:=a2W h2;simp only [f8F,g00,f8K];rw [I5 r.b5 (hr.1.fits (by decide)) (fun x=>match l[x.i5.toNat]? with|some b=>b.j4==x.j4|none=>true) false ()]
 ·unfold a0P;cases r.b5.all _<;>rfl
 ·intro k hk;have hm:=hp.2.2.2.1 _ (f8C hk);obtain ⟨b,hb1,hb2,_⟩:=a4N h1 (b:=r.b5[k].i5) ⟨hm.1,hm.2.1⟩;unfold b6w;rw [w6 _ k hk,t0 hk];simp only [g0Z,f8y,hb1,hb2];unfold bne;cases b.j4==r.b5[k].j4<;>rfl
 ·unfold b6w;rw [z8];rfl
theorem f6d{l:List m9}{r:n7}(hl:s8 l)(hr:a1z r):b5T l r=some (C6 l&&(V3 r&&a0P l r)):=by
 unfold b5T;rw [b5k hl,c4E hr];simp only [f8y];cases h1:C6 l
 ·rfl
 cases h2:V3 r
 ·rfl
 have hp:=a2W h2;simp only [f8F,g00,f8K];rw [I5 r.b5 (hr.1.fits (by decide)) (fun x=>match l[x.i5.toNat]? with|some b=>b.j4==x.j4|none=>true) false ()]
 ·unfold a0P;cases r.b5.all _<;>rfl
 ·intro k hk;have hm:=hp.2.2.2.1 _ (f8C hk);obtain ⟨b,hb1,hb2,_⟩:=a4N h1 (b:=r.b5[k].i5) ⟨hm.1,hm.2.1⟩;unfold b5z;rw [w6 _ k hk,t0 hk];simp only [g0Z,f8y,hb1,hb2];unfold bne;cases b.j4==r.b5[k].j4<;>rfl
 ·unfold b5z;rw [z8];rfl
def a0s(l:List m9)(p:p8):List m9:=match l[p.i5.toNat]? with
 | some b=>l.set p.i5.toNat ⟨if b.j4+1<1000000 then b.j4+1 else 1000000,p.d9⟩
 | none=>l
def a0Q(l:List m9)(ps:List p8):List m9:=ps.foldl a0s l
def a0n(x:p8):Prop:=0<=x.i5/\x.i5<=3/\-1000000<=x.d9/\x.d9<=1000000
theorem b6B{l:List m9}{p:p8}{b:m9}(h:l[p.i5.toNat]?=some b):a0s l p=l.set p.i5.toNat ⟨if b.j4+1<1000000 then b.j4+1 else 1000000,p.d9⟩:=by
 unfold a0s;rw [h]
theorem b2w{b:m9}:a3G b=true↔(0<=b.j4/\b.j4<=1000000)/\(-1000000<=b.d9/\b.d9<=1000000):=by
 unfold a3G p9;simp
theorem e4s{l:List m9}:C6 l=true↔l.length=4/\∀b∈l,a3G b=true:=by
 unfold C6;simp
theorem d8m{l:List m9}{p:p8}(h:C6 l=true)(hp:a0n p):C6 (a0s l p)=true:=by
 obtain ⟨b,_,h2,h3⟩:=a4N h (b:=p.i5) ⟨hp.1,hp.2.1⟩;rw [e4s] at h ⊢;unfold a0s;rw [h2];refine ⟨by simpa using h.1,fun x hx => ?_⟩;rcases f9k hx with hx|rfl
 ·exact h.2 x hx
 ·rw [b2w] at h3 ⊢;refine ⟨?_,hp.2.2⟩;simp only;split<;>omega
theorem b7Q:∀{ps:List p8} {l:List m9},C6 l=true->(∀p∈ps,a0n p)->C6 (a0Q l ps)=true
 | [],l,h,_=>h
 | p::ps,l,h,hp=>b7Q (ps:=ps) (d8m h (hp p (by simp))) fun x hx=>hp x (by simp [hx])
theorem d6u{l:List m9}{ps:List p8}(h:C6 l=true)(hp:∀p∈ps,a0n p)(k:Nat):C6 ((ps.take k).foldl a0s l)=true:=
 b7Q h fun p hq=>hp p (f9F hq)
theorem c97{l:List m9}{r:n7}(hl:C6 l=true)(hr:a1z r)(hp:∀p∈r.b7,a0n p):b2N l r=some (a0Q l r.b7):=by
 unfold b2N;rw [d3r r.b7 (hr.2.1.fits (by decide)) a0s l id]
 ·rfl
 ·intro k hk;have hq:=hp _ (f8C hk);obtain ⟨b,h1,h2,h3⟩:=a4N (d6u hl hp k) (b:=r.b7[k].i5) ⟨hq.1,hq.2.1⟩;rw [b2w] at h3;unfold b8d;rw [w6 _ k hk,t0 hk];simp only [g0Z,f8y,h1];unfold c4e;rw [b6B h2,C4 (n:=b.j4+1) (by omega) (by omega)];by_cases hv:b.j4+1<1000000
  ·have:¬(1000000:Int)<b.j4+1:=by omega
   simp [hv,this]
  ·by_cases hv2:(1000000:Int)<b.j4+1
   ·simp [hv,hv2]
   ·have:b.j4+1=1000000:=by omega
    simp [hv,hv2,this]
 ·unfold b8d;rw [z8];rfl
theorem c3E{l:List m9}(h:l.length*16<=140737488351232):a8O l=some l:=by
 unfold a8O t5;cases l with
 | nil=>rfl
 | cons x l=>
  have h1:(((x::l).length:Int)==0)=false:=by simp;omega
  rw [h1,g00,if_pos (by constructor<;>omega),if_pos (by simp)]
theorem d5c{l:List q9}(h:l.length*32<=140737488351232):a7e l=some l:=by
 unfold a7e t5;cases l with
 | nil=>rfl
 | cons x l=>
  have h1:(((x::l).length:Int)==0)=false:=by simp;omega
  rw [h1,g00,if_pos (by constructor<;>omega),if_pos (by simp)]
theorem d4f{l:List m9}{r:n7}(hl:C6 l=true)(hr:a1z r)(hok:V3 r=true):b2Y l r=some (a0Q l r.b7):=by
 have hp:∀p∈r.b7,a0n p:=(a2W hok).2.2.2.2
 unfold b2Y;rw [b5k (a3k hl),c4E hr,hl,hok];simp only [f8y,f8F,g00];rw [c3E (by rw [a7r hl];decide),f8y,d3r r.b7 (hr.2.1.fits (by decide)) a0s l id]
 ·rfl
 ·intro k hk;have hq:=hp _ (f8C hk);obtain ⟨b,h1,h2,h3⟩:=a4N (d6u hl hp k) (b:=r.b7[k].i5) ⟨hq.1,hq.2.1⟩;rw [b2w] at h3;unfold b9C;rw [w6 _ k hk,t0 hk];simp only [g0Z,f8y,h1];rw [b6B h2,C4 (n:=b.j4+1) (by omega) (by omega)]
 ·unfold b9C;rw [z8];rfl
def a84(d:q9):Bool:=(p9 d.a5.b9 0 2&&p9 d.a5.Seq 1 1000)&&(p9 d.Code 0 2&&(p9 d.d9 (-1000000) 1000000&&(d.Code==0||d.d9==0)))
def a3c(l:List q9):Prop:=l.Pairwise fun a b=>a.a5.b9<b.a5.b9
def M8(d:q9)(st:List q9×Bool)(x:q9):List q9×Bool:=
 bif !st.2&&decide (x.a5.b9>=d.a5.b9) then (bif x.a5.b9 != d.a5.b9 then (st.1++[d])++[x] else st.1++[d],true) else (bif x.a5.b9 != d.a5.b9 then st.1++[x] else st.1,st.2)
def a0k(l:List q9)(d:q9):List q9:=
 let r:=l.foldl (M8 d) ([],false);bif !r.2 then r.1++[d] else r.1
theorem e0j(d:q9)(st:List q9×Bool)(x:q9):(M8 d st x).1.length<=st.1.length+2:=by
 unfold M8;cases !st.2&&decide (x.a5.b9>=d.a5.b9)<;>cases x.a5.b9 != d.a5.b9<;>simp
theorem c6U(d:q9):∀(l:List q9) (st:List q9×Bool),(l.foldl (M8 d) st).1.length<=st.1.length+2*l.length
 | [],st=>by simp
 | x::l,st=>by
  have h1:=c6U d l (M8 d st x);have h2:=e0j d st x;simp only [g0C,f9J];omega
theorem c3c(d:q9):∀{l:List q9} {o:List q9},(∀x∈l,d.a5.b9<x.a5.b9)->l.foldl (M8 d) (o,true)=(o++l,true)
 | [],o,_=>by simp
 | x::l,o,h=>by
  have hx:=h x (by simp);have hne:(x.a5.b9 != d.a5.b9)=true:=by simp;omega
  rw [g0C,show M8 d (o,true) x=(o++[x],true) from by unfold M8;simp [hne],c3c d fun y hy=>h y (by simp [hy])];simp
theorem c7G(d:q9):∀{l o:List q9},a3c l->
  (let r:=l.foldl (M8 d) (o,false);bif !r.2 then r.1++[d] else r.1)=o++(l.filter (fun x=>decide (x.a5.b9<d.a5.b9))++d::l.filter (fun x=>decide (d.a5.b9<x.a5.b9)))
 | [],o,_=>by simp
 | x::l,o,h=>by
  obtain ⟨h1,h2⟩:=f9X.1 h;rw [g0C];by_cases hlt:x.a5.b9<d.a5.b9
  ·have hge:¬x.a5.b9>=d.a5.b9:=by omega
   have hne:(x.a5.b9 != d.a5.b9)=true:=by simp;omega
   have hngt:¬d.a5.b9<x.a5.b9:=by omega
   rw [show M8 d (o,false) x=(o++[x],false) from by unfold M8;simp [hge,hne],c7G d h2];simp [hlt,hngt]
  ·have hge:x.a5.b9>=d.a5.b9:=by omega
   have hall:∀y∈l,d.a5.b9<y.a5.b9:=fun y hy=>by have:=h1 y hy;omega
   have hf1:l.filter (fun x=>decide (x.a5.b9<d.a5.b9))=[]:=by
    rw [List.filter_eq_nil_iff];intro y hy;have:=hall y hy;simp;omega
   have hf2:l.filter (fun x=>decide (d.a5.b9<x.a5.b9))=l:=by
    rw [List.filter_eq_self];intro y hy;simpa using hall y hy
   by_cases heq:x.a5.b9=d.a5.b9
   ·have hngt:¬d.a5.b9<x.a5.b9:=by omega
    rw [show M8 d (o,false) x=(o++[d],true) from by unfold M8;simp [hge,heq],c3c d hall];simp [hlt,hngt,hf1,hf2]
   ·have hgt:d.a5.b9<x.a5.b9:=by omega
    have hne:(x.a5.b9 != d.a5.b9)=true:=by simpa using heq
    rw [show M8 d (o,false) x=((o++[d])++[x],true) from by unfold M8;simp [hge,hne],c3c d hall];simp [hlt,hgt,hf1,hf2]
theorem c0A{l:List q9}(d:q9)(h:a3c l):a0k l d=l.filter (fun x=>decide (x.a5.b9<d.a5.b9))++d::l.filter (fun x=>decide (d.a5.b9<x.a5.b9)):=by
 have:=c7G d (o:=[]) h;simpa [a0k] using this
theorem e2A{l:List q9}(d:q9)(h:a3c l):a3c (a0k l d):=by
 rw [c0A d h];unfold a3c;rw [g0r,f9X];refine ⟨h.filter _,⟨fun y hy=>by simpa using (f9H.1 hy).2,h.filter _⟩,fun a ha b hb => ?_⟩;have h1:a.a5.b9<d.a5.b9:=by simpa using (f9H.1 ha).2
 rcases f8J.1 hb with rfl|hb
 ·exact h1
 ·have h2:d.a5.b9<b.a5.b9:=by simpa using (f9H.1 hb).2
  omega
theorem f0E{l:List q9}{d x:q9}(h:a3c l)(hx:x∈a0k l d):x∈l\/x=d:=by
 rw [c0A d h] at hx;rcases f8B.1 hx with hx|hx
 ·exact .inl (f9H.1 hx).1
 ·rcases f8J.1 hx with rfl|hx
  ·exact .inr rfl
  ·exact .inl (f9H.1 hx).1
theorem d8f{l:List q9}(d:q9)(h:a3c l):(a0k l d).length<=l.length+1:=by
 rw [c0A d h];have:(l.filter fun x=>decide (x.a5.b9<d.a5.b9)).length+(l.filter fun x=>decide (d.a5.b9<x.a5.b9)).length<=l.length:=by
  clear h;induction l with
  | nil=>simp
  | cons x l ih=>
   by_cases h1:x.a5.b9<d.a5.b9
   ·have h2:¬d.a5.b9<x.a5.b9:=by omega
    simp [h1,h2];omega
   ·by_cases h2:d.a5.b9<x.a5.b9
    ·simp [h1,h2];omega
    ·simp [h1,h2];omega
 simp only [f8M,f9J];omega
structure X5(s:u5)(k:Nat):Prop where
 at_:s.At=(k:Int)
 le:k<=40
 boxes:C6 s.g7=true
 sorted:a3c s.i8
 dones:∀d∈s.i8,a84 d=true
 len:s.i8.length<=k
theorem X5.fits{s:u5}{k:Nat}(h:X5 s k):s8 s.i8:=by
 have:=h.len;have:=h.le;unfold s8;omega
theorem d2V{α:Type}{o:List α}{d:α}(h:o.length<=80):((o++[d]).length+1)*32<=140737488355328:=by
 rw [show (o++[d]).length=o.length+1 from by simp];omega
theorem d9U{l:List q9}{d:q9}(hl:l.length<=40):b6p l d=some (a0k l d):=by
 have hf:s8 l:=by unfold s8;omega
 have hlen:∀k,k<=l.length->((l.take k).foldl (M8 d) ([],false)).1.length<=80:=by
  intro k hk;have:=c6U d (l.take k) ([],false);simp only [g0n,f8S] at this;omega
 unfold b6p;have hloop:=V9 (body:=fun s:(List q9)×Bool×Int=>b2y l d s.1 s.2.1 s.2.2) (fun k=>(((l.take k).foldl (M8 d) ([],false)).1,((l.take k).foldl (M8 d) ([],false)).2,(k:Int))) l.length (by
  intro k hk;have hb:=hlen k (by omega);rw [f9e hk,List.foldl_append];generalize (l.take k).foldl (M8 d) ([],false)=st at hb;obtain ⟨o,i⟩:=st;simp only at hb;simp only [g0C,g0Y];unfold b2y c6B c2D M8;rw [w6 _ k hk,t0 hk,E6 hf hk];have n1:(o.length+1)*32<=140737488355328:=by omega
  have n2:((o++[d]).length+1)*32<=140737488355328:=d2V (by omega);cases i<;>cases h1:decide (l[k].a5.b9>=d.a5.b9)<;>cases h2:l[k].a5.b9 != d.a5.b9<;>simp only [h1,h2,v5 n1,v5 n2,g0Z,g00,f8y,l9.go,f8F,f9j,f8K,Bool.false_and])
 simp only [f9p,g0Y,f8Q] at hloop;rw [show ((0:Nat):Int)=0 from rfl] at hloop;rw [hloop,C8 (b:=l.foldl (M8 d) ([],false))]
 ·have hb:=hlen l.length (f8R _);rw [f8Q] at hb;unfold c4J c1Z a0k;generalize l.foldl (M8 d) ([],false)=st at hb;obtain ⟨o,i⟩:=st;have n1:(o.length+1)*32<=140737488355328:=by simp only at hb;omega
  cases i<;>simp only [v5 n1,g0Z,g00,f8y,l9.go,f8F,f9j]
 ·unfold b2y;rw [z8];rfl
def O3(s:u5)(e:m4):u5×Int:=
 bif a0P s.g7 e.b6 then
  (bif e.b6.Code==0 then (⟨s.At+1,a0Q s.g7 e.b6.b7,a0k s.i8 ⟨e.a5,0,e.b6.d9⟩⟩,0)
  else (⟨s.At+1,s.g7,a0k s.i8 ⟨e.a5,2,0⟩⟩,2))
 else (⟨s.At+1,s.g7,a0k s.i8 ⟨e.a5,1,0⟩⟩,1)
def apply(s:u5)(e:m4):u5×Int:=
 bif e.i7 then (⟨s.At+1,s.g7,s.i8⟩,5) else
 match s.i8.find? (fun d=>d.a5.b9==e.a5.b9) with
 | some d=>bif d.a5.Seq==e.a5.Seq then (⟨s.At+1,s.g7,s.i8⟩,3) else bif decide (d.a5.Seq>e.a5.Seq) then (⟨s.At+1,s.g7,s.i8⟩,4) else O3 s e
 | none=>O3 s e
theorem a3V{e:m4}(h:z4 e=true)(hn:e.i7=false):(0<=e.a5.b9/\e.a5.b9<=2)/\(1<=e.a5.Seq/\e.a5.Seq<=1000)/\V3 e.b6=true/\e.b6.Code≠3:=by
 unfold z4 at h;rw [hn] at h;simp [p9] at h;exact ⟨h.1.1,h.1.2,h.2.1,h.2.2⟩
theorem f5U{s:u5}(h:s8 s.i8)(who:Int):b6l s who=some (match s.i8.find? (fun d=>d.a5.b9==who) with|some d=>(d,true)|none=>(⟨⟨0,0⟩,0,0⟩,false)):=by
 unfold b6l;rw [b4V s.i8 h (fun d=>d.a5.b9==who) (fun d=>(d,true)) ()]
 ·cases s.i8.find? fun d=>d.a5.b9==who<;>rfl
 ·intro k hk;unfold b8H;rw [w6 _ k hk,t0 hk];simp only [g0Z,f8y];cases s.i8[k].a5.b9==who<;>rfl
 ·unfold b8H;rw [z8];rfl
theorem b9L{s:u5}{k:Nat}{e:m4}(hs:X5 s k)(hk:k<40)(he:z4 e=true)(hf:a09 e):a9i s e=some (apply s e):=by
 have hw:m7 (s.At+1)=s.At+1:=by rw [hs.at_];exact C4 (by omega) (by omega)
 unfold a9i apply;rw [hw,f5U (s:=⟨s.At+1,s.g7,s.i8⟩) hs.fits];cases hn:e.i7;case true=>rfl
 obtain ⟨_,_,hr,hc3⟩:=a3V he hn;have hp:∀p∈e.b6.b7,a0n p:=(a2W hr).2.2.2.2
 have hfr:b8z s e=some (O3 s e):=by
  unfold b8z c1E c63 O3;simp only [f3Q (a3k hs.boxes) hf.2,hs.boxes,hr,f8K,f8y,hw,d9U (f9m hs.len (by omega)),c97 hs.boxes hf.2 hp];cases a0P s.g7 e.b6
  ·rfl
  ·cases e.b6.Code==0<;>rfl
 simp only [g00,f8y,hfr];cases hfd:s.i8.find? fun d=>d.a5.b9==e.a5.b9 with
 | none=>rfl
 | some d=>
  have hwho:d.a5.b9=e.a5.b9:=by simpa using List.find?_some hfd
  have hq:(([d.a5.b9,d.a5.Seq]:List Int)==[e.a5.b9,e.a5.Seq])=(d.a5.Seq==e.a5.Seq):=by
   rw [hwho];simp
  simp only [hq,g0Z];cases d.a5.Seq==e.a5.Seq
  ·cases decide (d.a5.Seq>e.a5.Seq)<;>rfl
  ·rfl
theorem e7l{l:List q9}(h:a3c l)(who seq:Int):l.find? (fun d=>d.a5.b9==who&&decide (d.a5.Seq>=seq))=match l.find? (fun d=>d.a5.b9==who) with
  | some d=>bif decide (d.a5.Seq>=seq) then some d else none
  | none=>none:=by
 induction l with
 | nil=>rfl
 | cons x l ih=>
  obtain ⟨h1,h2⟩:=f9X.1 h;rw [g0m,g0m];cases hx:x.a5.b9==who with
  | false=>simpa using ih h2
  | true=>
   cases hs:decide (x.a5.Seq>=seq) with
   | true=>simp [hs]
   | false=>
    simp only [Bool.and_false,hs,g00];rw [g0V];intro y hy;have:=h1 y hy;have hx':x.a5.b9=who:=by simpa using hx
    simp;intro hyw;omega
theorem d93{s:u5}{k:Nat}(hs:X5 s k):b5J s=some true:=by
 unfold b5J;have hloop:=V9 (body:=fun v:Int=>b3s s v) (fun j=>(j:Int)) s.i8.length (by
  intro j hj;have hd:=hs.dones _ (f8C hj);unfold a84 at hd;simp only [f8D,Bool.or_eq_true] at hd;obtain ⟨⟨d1,d2⟩,d3,d4,d5⟩:=hd;unfold b3s c3I;rw [w6 _ j hj,t0 hj,E6 hs.fits hj];simp only [g0Z,f8y,c0q,N8,d1,d2,d3,d4,f9Y,f8F,g00];cases j with
  | zero=>
   rw [show decide (((0:Nat):Int)>0)=false from by decide];simp only [g00];unfold bne;rcases d5 with d5|d5<;>simp [d5,l9.go,Option.bind]
  | succ j=>
   have hlt:(s.i8[j]'(by omega)).a5.b9<s.i8[j+1].a5.b9:=f9t.1 hs.sorted j (j+1) (by omega) hj (by omega);have hge:¬(s.i8[j]'(by omega)).a5.b9>=s.i8[j+1].a5.b9:=by omega
   have hle:=hs.fits;unfold s8 at hle;rw [show m7 (((j+1:Nat):Int)-1)=(j:Int) from by rw [C4 (by omega) (by omega)];omega,t0 (show j<s.i8.length by omega)];have hpos:decide (((j+1:Nat):Int)>0)=true:=by simp
   simp only [hpos,g0Z,f8y,hge,decide_false,g00];unfold bne;rcases d5 with d5|d5<;>simp [d5,l9.go,Option.bind])
 rw [show ((0:Nat):Int)=0 from rfl] at hloop;rw [hloop,C8 (b:=())]
 ·unfold c1O;have:=hs.le;have ha:p9 s.At 0 40=true:=by rw [hs.at_];simp [p9];omega
  simp [l9.go,N8,ha,b5k (a3k hs.boxes),hs.boxes]
 ·unfold b3s;rw [z8];rfl
theorem c3L{s:u5}{own:q9}{bx:List m9}(hl:s.i8.length<=40)(hw:m7 (s.At+1)=s.At+1)(hd:a3c s.i8):b8t s own bx=some (⟨s.At+1,bx,a0k s.i8 own⟩,own.Code):=by
 have hf:s8 s.i8:=by unfold s8;omega
 have hlen:∀k,k<=s.i8.length->((s.i8.take k).foldl (M8 own) ([],false)).1.length<=80:=by
  intro k hk;have:=c6U own (s.i8.take k) ([],false);simp only [g0n,f8S] at this;omega
 unfold b8t;have hloop:=V9 (body:=fun x:(List q9)×Int×Bool=>b21 s own x.1 x.2.1 x.2.2) (fun k=>(((s.i8.take k).foldl (M8 own) ([],false)).1,(k:Int),((s.i8.take k).foldl (M8 own) ([],false)).2)) s.i8.length (by
  intro k hk;have hb:=hlen k (by omega);rw [f9e hk,List.foldl_append];generalize (s.i8.take k).foldl (M8 own) ([],false)=st at hb;obtain ⟨o,i⟩:=st;simp only at hb;simp only [g0C,g0Y];unfold b21 c4v c34 M8;rw [w6 _ k hk,t0 hk,E6 hf hk];have n1:(o.length+1)*32<=140737488355328:=by omega
  have n2:((o++[own]).length+1)*32<=140737488355328:=d2V (by omega);cases i<;>cases h1:decide (s.i8[k].a5.b9>=own.a5.b9)<;>cases h2:s.i8[k].a5.b9 != own.a5.b9<;>simp only [h1,h2,v5 n1,v5 n2,g0Z,g00,f8y,l9.go,f8F,f9j,f8K,Bool.false_and])
 simp only [f9p,g0Y,f8Q] at hloop;rw [show ((0:Nat):Int)=0 from rfl] at hloop;rw [hloop,C8 (b:=s.i8.foldl (M8 own) ([],false))]
 ·have hb:=hlen s.i8.length (f8R _);rw [f8Q] at hb;have hpl:=d8f own hd;have hcp:a7e (a0k s.i8 own)=some (a0k s.i8 own):=d5c (by omega);unfold c3X c6r;unfold a0k at hcp ⊢;generalize s.i8.foldl (M8 own) ([],false)=st at hb hcp;obtain ⟨o,i⟩:=st;have n1:(o.length+1)*32<=140737488355328:=by simp only at hb;omega
  cases i<;>simp only [v5 n1,g0Z,g00,f8y,l9.go,f8F,f9j,hw] at hcp ⊢ <;>rw [hcp]<;>rfl
 ·unfold b21;rw [z8];rfl
theorem c20{s:u5}{k:Nat}{e:m4}(hs:X5 s k)(hk:k<40)(he:z4 e=true)(hf:a09 e):c0z s e=some (apply s e):=by
 have hw:m7 (s.At+1)=s.At+1:=by rw [hs.at_];exact C4 (by omega) (by omega)
 have hl:=hs.len;have hcd:a7e s.i8=some s.i8:=d5c (by omega);have hcb:a8O s.g7=some s.g7:=c3E (by rw [a7r hs.boxes];decide);have hat:(s.At==40)=false:=by rw [hs.at_];simp;omega
 unfold c0z apply;rw [d93 hs,a7t hf,he];simp only [f8y,f8F,g00,hat,hcb,hcd,hw];cases hn:e.i7;case true=>rfl
 obtain ⟨_,_,hr,hc3⟩:=a3V he hn;have hfr:b5V s e s.g7=some (O3 s e):=by
  unfold b5V O3;simp only [f6d (a3k hs.boxes) hf.2,hs.boxes,hr,f8K,f8y,d4f hs.boxes hf.2 hr];cases a0P s.g7 e.b6
  ·simp only [f9j,g0Z,g00,f8y,l9.go];exact c3L (by omega) hw hs.sorted
  ·unfold bne;cases e.b6.Code==0
   ·simp only [f9j,f8F,g0Z,g00,f8y,l9.go];exact c3L (by omega) hw hs.sorted
   ·simp only [f8F,g0Z,g00,f8y,l9.go];exact c3L (by omega) hw hs.sorted
 simp only [g00];rw [b4V s.i8 hs.fits (fun d=>d.a5.b9==e.a5.b9&&decide (d.a5.Seq>=e.a5.Seq)) (fun d=>(⟨s.At+1,s.g7,s.i8⟩,bif d.a5.Seq==e.a5.Seq then 3 else 4)) ()]
 ·rw [e7l hs.sorted];cases s.i8.find? fun d=>d.a5.b9==e.a5.b9 with
  | none=>simp only [f8y,l9.go,hfr]
  | some d=>
   cases hq:d.a5.Seq==e.a5.Seq with
   | true=>
    have:d.a5.Seq>=e.a5.Seq:=by
     have:d.a5.Seq=e.a5.Seq:=by simpa using hq
     omega
    simp [this,l9.go,hq]
   | false=>
    have hne:d.a5.Seq≠e.a5.Seq:=by simpa using hq
    by_cases hg:d.a5.Seq>e.a5.Seq
    ·have:d.a5.Seq>=e.a5.Seq:=by omega
     simp [this,l9.go,hg,hq]
    ·have:¬d.a5.Seq>=e.a5.Seq:=by omega
     simp [this,l9.go,hg,hfr,hq]
 ·intro j hj;unfold b5M c6v;rw [w6 _ j hj,t0 hj];simp only [g0Z,f8y,hcd,hw];cases h1:s.i8[j].a5.b9==e.a5.b9<;>cases h2:decide (s.i8[j].a5.Seq>=e.a5.Seq)<;>cases h3:s.i8[j].a5.Seq==e.a5.Seq<;>simp only [g0Z,g00,f8y,l9.go,f8K,Bool.false_and,f9Y,Bool.and_false]
 ·unfold b5M;rw [z8];rfl
theorem e2r{s:u5}{k:Nat}{e:m4}(hs:X5 s k)(hk:k<40)(he:z4 e=true)(hn:e.i7=false):X5 (O3 s e).1 (k+1)/\0<=(O3 s e).2/\(O3 s e).2<=5:=by
  obtain ⟨h1,h2,hr,hc3⟩:=a3V he hn;have hp:=a2W hr;have hat:s.At+1=((k+1:Nat):Int):=by rw [hs.at_];rfl
  have key:∀(bx:List m9) (d:q9),C6 bx=true->a84 d=true->X5 ⟨s.At+1,bx,a0k s.i8 d⟩ (k+1):=fun bx d hb hd=>
    { at_:=hat,le:=by omega,boxes:=hb,sorted:=e2A d hs.sorted
      dones:=fun x hx=>by
        rcases f0E hs.sorted hx with hx|rfl
        · exact hs.dones x hx
        · exact hd
      len:=by
        have:=d8f d hs.sorted;have:=hs.len;simp only;omega}
  have hd0:∀c:Int,0<=c->c<=2->a84 ⟨e.a5,c,0⟩=true:=by
    intro c c1 c2;unfold a84 p9;simp;omega
  have hd1:a84 ⟨e.a5,0,e.b6.d9⟩=true:=by
    unfold a84 p9;simp;omega
  unfold O3;cases a0P s.g7 e.b6
  · exact ⟨key _ _ hs.boxes (hd0 1 (by decide) (by decide)),show (0:Int)<=1 from by decide,show (1:Int)<=5 from by decide⟩
  · cases e.b6.Code==0
    · exact ⟨key _ _ hs.boxes (hd0 2 (by decide) (by decide)),show (0:Int)<=2 from by decide,show (2:Int)<=5 from by decide⟩
    · exact ⟨key _ _ (b7Q hs.boxes hp.2.2.2.2) hd1,show (0:Int)<=0 from by decide,show (0:Int)<=5 from by decide⟩
theorem f6w{s:u5}{k:Nat}{e:m4}(hs:X5 s k)(hk:k<40)(he:z4 e=true):X5 (apply s e).1 (k+1)/\0<=(apply s e).2/\(apply s e).2<=5:=by
 have hat:s.At+1=((k+1:Nat):Int):=by rw [hs.at_];rfl
 have key:X5 ⟨s.At+1,s.g7,s.i8⟩ (k+1):={at_:=hat,le:=by omega,boxes:=hs.boxes,sorted:=hs.sorted,dones:=hs.dones,len:=Nat.le_succ_of_le hs.len}
 unfold apply;cases hn:e.i7
 ·have hfr:=e2r hs hk he hn;simp only [g00];cases s.i8.find? fun d=>d.a5.b9==e.a5.b9 with
  | none=>exact hfr
  | some d=>
   simp only;cases d.a5.Seq==e.a5.Seq
   ·cases decide (d.a5.Seq>e.a5.Seq)
    ·exact hfr
    ·exact ⟨key,show (0:Int)<=4 from by decide,show (4:Int)<=5 from by decide⟩
   ·exact ⟨key,show (0:Int)<=3 from by decide,show (3:Int)<=5 from by decide⟩
 ·exact ⟨key,show (0:Int)<=5 from by decide,show (5:Int)<=5 from by decide⟩
def P7:u5:=⟨0,f8A 4 ⟨0,0⟩,[]⟩
theorem f0Q:X5 P7 0:={at_:=rfl,le:=by omega,boxes:=by decide,sorted:=.nil,dones:=by simp [P7],len:=by simp [P7]}
theorem c0s:a7A=some P7:=by
 unfold a7A b1N;rw [v5 (by decide)];rfl
theorem f0P:c0f=some P7:=by
 unfold c0f b3z;rw [v5 (by decide)];rfl
def a99(st:u5×List Int)(e:m4):u5×List Int:=((apply st.1 e).1,st.2++[(apply st.1 e).2])
def p6(l:List m4):u5×List Int:=l.foldl a99 (P7,[])
theorem a0K{l:List m4}{k:Nat}(hk:k<l.length):p6 (l.take (k+1))=a99 (p6 (l.take k)) l[k]:=by
 unfold p6;rw [f9e hk,List.foldl_append];rfl
theorem P5{l:List m4}(hl:l.length<=40)(he:l.all z4=true):∀k,k<=l.length->X5 (p6 (l.take k)).1 k/\(p6 (l.take k)).2.length=k/\∀c∈(p6 (l.take k)).2,0<=c/\c<=5
 | 0,_=>by
  rw [f9p];exact ⟨f0Q,rfl,by simp [p6]⟩
 | k+1,hk=>by
  obtain ⟨h1,h2,h3⟩:=P5 hl he k (by omega);have ha:=f6w h1 (by omega) (f8E.1 he _ (f8C (show k<l.length by omega)));rw [a0K (show k<l.length by omega)];refine ⟨ha.1,by simp [a99,h2],fun c hc => ?_⟩;unfold a99 at hc;rcases f8B.1 hc with hc|hc
  ·exact h3 c hc
  ·rw [f8H] at hc;rw [hc];exact ha.2
theorem W8{l:List m4}(h:G4 l=true):l.length<=40/\l.all z4=true:=by
 unfold G4 at h;simpa using h
theorem b9Z{l:List m4}(h:A2 88 a09 l)(hl:l.length<=40)(he:l.all z4=true):a72 l=some (p6 l):=by
  have hf:s8 l:=h.fits (by decide);unfold a72;rw [f0P,f8y];first
  | (have hloop:=V9 (body:=fun s:(List m9)×(List q9)×(List Int)×Int×Int=>a1k l s.1 s.2.1 s.2.2.1 s.2.2.2.1 s.2.2.2.2) (fun k=>((p6 (l.take k)).1.g7,(p6 (l.take k)).1.i8,(p6 (l.take k)).2,(k:Int),(p6 (l.take k)).1.At)) l.length (by
       intro k hk;obtain ⟨h1,h2,h3⟩:=P5 hl he k (by omega);have n1:((p6 (l.take k)).2.length+1)*8<=140737488355328:=by rw [h2];omega
       rw [a0K hk];unfold a1k;rw [w6 _ k hk,t0 hk,E6 hf hk];simp only [g0Z,f8y];rw [c20 h1 (by omega) (f8E.1 he _ (f8C hk)) (h.2 _ (f8C hk)),f8y,v5 n1];rfl)
     rw [f9p,f8Q] at hloop;rw [show ((0:Nat):Int)=0 from rfl] at hloop;rw [show o8 (fun s:(List m9)×(List q9)×(List Int)×Int×Int=>a1k l s.1 s.2.1 s.2.2.1 s.2.2.2.1 s.2.2.2.2) (P7.g7,P7.i8,([]:List Int),0,P7.At)=_ from hloop,C8 (b:=((p6 l).1.g7,(p6 l).1.i8,(p6 l).2,(p6 l).1.At))]
     · rfl
     · unfold a1k;rw [z8];rfl
     done)
  | (have hloop:=V9 (body:=fun s:u5×(List Int)×Int=>a1k l s.1 s.2.1 s.2.2) (fun k=>((p6 (l.take k)).1,(p6 (l.take k)).2,(k:Int))) l.length (by
       intro k hk;obtain ⟨h1,h2,h3⟩:=P5 hl he k (by omega);have n1:((p6 (l.take k)).2.length+1)*8<=140737488355328:=by rw [h2];omega
       rw [a0K hk];unfold a1k;rw [w6 _ k hk,t0 hk,E6 hf hk];simp only [g0Z,f8y];rw [c20 h1 (by omega) (f8E.1 he _ (f8C hk)) (h.2 _ (f8C hk)),f8y,v5 n1];rfl)
     rw [f9p,f8Q] at hloop;rw [show ((0:Nat):Int)=0 from rfl] at hloop;rw [show o8 (fun s:u5×(List Int)×Int=>a1k l s.1 s.2.1 s.2.2) (P7,[],0)=_ from hloop,C8 (b:=p6 l)]
     · rfl
     · unfold a1k;rw [z8];rfl
     done)
  | (have hloop:=V9 (body:=fun s:(List m9)×(List Int)×Int×Int×List q9=>a1k l s.1 s.2.1 s.2.2.1 s.2.2.2.1 s.2.2.2.2) (fun k=>((p6 (l.take k)).1.g7,(p6 (l.take k)).2,(k:Int),(p6 (l.take k)).1.At,(p6 (l.take k)).1.i8)) l.length (by
       intro k hk;obtain ⟨h1,h2,h3⟩:=P5 hl he k (by omega);have n1:((p6 (l.take k)).2.length+1)*8<=140737488355328:=by rw [h2];omega
       rw [a0K hk];unfold a1k;rw [w6 _ k hk,t0 hk,E6 hf hk];simp only [g0Z,f8y];rw [show (⟨(p6 (l.take k)).1.At,(p6 (l.take k)).1.g7,(p6 (l.take k)).1.i8⟩:u5)=(p6 (l.take k)).1 from rfl,c20 h1 (by omega) (f8E.1 he _ (f8C hk)) (h.2 _ (f8C hk)),f8y,v5 n1];rfl)
     rw [f9p,f8Q] at hloop;rw [show ((0:Nat):Int)=0 from rfl] at hloop;rw [show o8 (fun s:(List m9)×(List Int)×Int×Int×List q9=>a1k l s.1 s.2.1 s.2.2.1 s.2.2.2.1 s.2.2.2.2) (P7.g7,[],0,P7.At,P7.i8)=_ from hloop,C8 (b:=((p6 l).1.g7,(p6 l).2,(p6 l).1.At,(p6 l).1.i8))]
     · rfl
     · unfold a1k;rw [z8];rfl
     done)
def Rd(r:t8)(m:Nat):Prop:=(∀x∈r.b,a50 x)/\r.b.length<=2000/\0<=r.p/\r.p<=(m:Int)
theorem Rd.mono{r:t8}{m n:Nat}(h:Rd r m)(hn:m<=n):Rd r n:=⟨h.1,h.2.1,h.2.2.1,by have:=h.2.2.2;omega⟩
theorem e5Z{x y:Int}(hx:0<=x)(hx2:x<4611686018427387904)(hy:0<=y)(hy2:y<4611686018427387904):0<=a7u .i64 x y/\a7u .i64 x y<4611686018427387904:=by
 obtain ⟨a,rfl⟩:∃a:Nat,x=(a:Int):=⟨x.toNat,by omega⟩
 obtain ⟨b,rfl⟩:∃b:Nat,y=(b:Int):=⟨y.toNat,by omega⟩
 have hxor:a ^^^ b<2 ^ 62:=Nat.xor_lt_two_pow (by omega) (by omega);have h:a7u .i64 (a:Int) (b:Int)=((a ^^^ b:Nat):Int):=by
  unfold a7u;rw [BitVec.toNat_xor];have e1:(BitVec.ofInt IntKind.i64.bits (a:Int)).toNat=a:=by
   show (BitVec.ofInt 64 (a:Int)).toNat=a
   rw [BitVec.toNat_ofInt];omega
  have e2:(BitVec.ofInt IntKind.i64.bits (b:Int)).toNat=b:=by
   show (BitVec.ofInt 64 (b:Int)).toNat=b
   rw [BitVec.toNat_ofInt];omega
  rw [e1,e2];exact IntWalk.i64_in _ ⟨by omega,by omega⟩
 rw [h];omega
theorem c5K{l:List Int}(h:∀x∈l,a50 x){i:Int}(h0:0<=i)(h1:i<l.length):∃y,idx l i=some y/\0<=y/\y<=255:=by
 have hlt:i.toNat<l.length:=by omega
 refine ⟨l[i.toNat],?_,h _ (f8C hlt)⟩;unfold idx;rw [if_pos h0,f8z hlt]
theorem b7C{x n:Int}(hx:0<=x)(hn:1<=n):0<=f9c x n/\f9c x n<n:=by
 rw [Int.tmod_eq_emod_of_nonneg hx];exact ⟨Int.emod_nonneg _ (by omega),Int.emod_lt_of_pos _ (by omega)⟩
theorem c74{x n:Int}(hx:0<=x)(hn:1<=n):0<=g0N x n/\g0N x n<=x:=by
 rw [Int.tdiv_eq_ediv_of_nonneg hx];exact ⟨Int.ediv_nonneg hx (by omega),Int.ediv_le_self _ hx⟩
theorem J2{r:t8}{m:Nat}(h:Rd r m)(hm:m<=1000000000)(n:Int):∃v r',G2 r n=some (v,r')/\Rd r' (m+1)/\0<=v/\(v<n\/v=0):=by
 obtain ⟨hb,hbl,hp0,hp1⟩:=h;have hw:m7 (r.p+1)=r.p+1:=C4 (by omega) (by omega);have hw2:m7 (r.p+1-1)=r.p:=by rw [C4 (by omega) (by omega)];omega
 have hr:Rd ⟨r.b,r.p+1⟩ (m+1):=⟨hb,hbl,by simp only;omega,by simp only;omega⟩
 unfold G2;simp only [hw,hw2];by_cases hn:n<1
 ·simp only [hn,decide_true,g0Z];exact ⟨0,_,rfl,hr,by omega,.inr rfl⟩
 simp only [hn,decide_false,g00];cases he:((r.b.length:Int)==0);case true=>exact ⟨0,_,rfl,hr,by omega,.inr rfl⟩
 have hpos:0<r.b.length:=by
  have:¬(r.b.length:Int)=0:=by simpa using he
  omega
 have hne:(r.b.length:Int)≠0:=by omega
 have hnn:n≠0:=by omega
 simp only [g00];by_cases hlt:r.p<(r.b.length:Int)
 ·obtain ⟨y,h1,h2,h3⟩:=c5K hb hp0 hlt;simp only [hlt,decide_true,g0Z,h1,f8y,v5 hnn];rw [C4 (n:=y) (by omega) (by omega)];have:=b7C h2 (show 1<=n by omega);exact ⟨_,_,rfl,hr,this.1,.inl this.2⟩
 ·simp only [hlt,decide_false,g00,v5 hne,v5 hnn];have t1:=b7C hp0 (show (1:Int)<=(r.b.length:Int) by omega);obtain ⟨y1,a1,a2,a3⟩:=c5K hb t1.1 t1.2;have w7:m7 (r.p*7)=r.p*7:=C4 (by omega) (by omega);have w73:m7 (r.p*7+3)=r.p*7+3:=C4 (by omega) (by omega);have t2:=b7C (show 0<=r.p*7+3 by omega) (show (1:Int)<=(r.b.length:Int) by omega);obtain ⟨y2,b1,b2,b3⟩:=c5K hb t2.1 t2.2;simp only [a1,w7,w73,b1,f8y];have td:=c74 hp0 (show (1:Int)<=(r.b.length:Int) by omega);have c1:m7 (m7 y1*131)=y1*131:=by rw [C4 (n:=y1) (by omega) (by omega),C4 (by omega) (by omega)]
  have c2:m7 (m7 y2*1117)=y2*1117:=by rw [C4 (n:=y2) (by omega) (by omega),C4 (by omega) (by omega)]
  have c3:m7 (r.p*29)=r.p*29:=C4 (by omega) (by omega);have c4:m7 (m7 (g0N r.p (r.b.length:Int))*53)=g0N r.p (r.b.length:Int)*53:=by rw [C4 (n:=g0N r.p (r.b.length:Int)) (by omega) (by omega),C4 (by omega) (by omega)]
  simp only [c1,c2,c3,c4];generalize g0N r.p (r.b.length:Int)=q at td;rw [C4 (n:=y1*131+y2*1117) (by omega) (by omega),C4 (n:=y1*131+y2*1117+r.p*29) (by omega) (by omega),C4 (n:=y1*131+y2*1117+r.p*29+q*53) (by omega) (by omega)];have hA0:0<=y1*131+y2*1117+r.p*29+q*53:=by omega
  have hA1:y1*131+y2*1117+r.p*29+q*53<1000000000000:=by omega
  generalize y1*131+y2*1117+r.p*29+q*53=A at hA0 hA1;have t3:=c74 hA0 (show (1:Int)<=64 by omega);rw [C4 (n:=g0N A 64) (by omega) (by omega)];have hx:=e5Z hA0 (by omega) t3.1 (by omega);have t4:=b7C hx.1 (show 1<=n by omega);exact ⟨_,_,rfl,hr,t4.1,.inl t4.2⟩
theorem b35{r:t8}{m:Nat}(h:Rd r m)(hm:m<=1000000000)(l:List Int)(hl:0<l.length)(hl2:l.length<=1000):∃v r',a6Y r l=some (v,r')/\Rd r' (m+1)/\v∈l:=by
 obtain ⟨v,r',h1,h2,h3,h4⟩:=J2 h hm (l.length:Int);unfold a6Y;rw [h1,f8y];have hlt:v.toNat<l.length:=by omega
 refine ⟨l[v.toNat],r',?_,h2,f8C hlt⟩;unfold idx;simp only [if_pos h3,f8z hlt,f8y]
theorem e9k{code:List Int}(h:∀x∈code,a50 x):∃r,b7Y code=some r/\Rd r 0:=by
 unfold b7Y c6L;by_cases hl:(code.length:Int)>2000
 ·simp only [hl,decide_true,g0Z];rw [v5 ⟨by omega,by omega⟩];refine ⟨_,rfl,?_,?_,by simp,by simp⟩
  ·intro x hx;simp only [f9M] at hx;exact h x (f9F hx)
  ·simp only [f8S];have:(2000:Int).toNat-0=2000:=by decide
   omega
 ·simp only [hl,decide_false,g00];exact ⟨_,rfl,h,by simp only;omega,by simp,by simp⟩
def P8(i:n8):Bool:=
 bif i.a9==1 then p9 i.A 0 3&&(p9 i.B 0 3&&i.N==0) else
 bif i.a9==2 then p9 i.A 0 3&&(p9 i.B 0 3&&i.N==0) else
 bif i.a9==3 then p9 i.A 0 3&&(i.B==0&&p9 i.N (-1000000) 1000000) else
 bif i.a9==4 then p9 i.A 0 3&&(p9 i.B 0 3&&i.N==0) else
 bif i.a9==5 then p9 i.A 0 3&&(p9 i.B 0 3&&i.N==0) else
 bif i.a9==6 then p9 i.A 0 3&&(p9 i.B 0 3&&p9 i.N 1 10) else
 bif i.a9==7 then i.A==0&&(i.B==0&&i.N==0) else false
theorem e04(n:Int):a2D n=some (p9 n 0 3):=by
 rw [<-N8];unfold a2D D9;have:(n<4)=(n<=3):=by apply propext;omega
 simp only [this]
theorem e9t(i:n8):b57 i=some (P8 i):=by
 unfold b57 P8;have h6:(bif decide (i.N>=1) then some (decide (i.N<=10)) else some false)=some (p9 i.N 1 10):=by
  unfold p9;by_cases h1:i.N>=1<;>by_cases h2:i.N<=10<;>simp [h1,h2]<;>omega
 simp only [e04,c1w,a73,f8y,h6];cases i.a9==1<;>cases i.a9==2<;>cases i.a9==3<;>cases i.a9==4<;>cases i.a9==5<;>cases i.a9==6<;>cases i.a9==7<;>cases p9 i.A 0 3<;>cases p9 i.B 0 3<;>cases i.A==0<;>cases i.B==0<;>rfl
def E4(l:List n8):Bool:=decide (l.length<=10)&&l.all P8
theorem c3e{l:List n8}(h:s8 l):b1f l=some (E4 l):=by
 unfold b1f E4;rw [show (10:Int)=((10:Nat):Int) from rfl,b6i,I5 l h P8 false ()]
 ·cases decide (l.length<=10)
  ·rfl
  ·cases l.all P8<;>rfl
 ·intro k hk;unfold c0i;rw [w6 _ k hk,t0 hk];simp only [g0Z,f8y,e9t];cases P8 l[k]<;>rfl
 ·unfold c0i;rw [z8];rfl
theorem b3j{i:n8}(h:P8 i=true):(i.a9=1/\(0<=i.A/\i.A<=3)/\(0<=i.B/\i.B<=3))\/(i.a9=2/\(0<=i.A/\i.A<=3)/\(0<=i.B/\i.B<=3))\/(i.a9=3/\(0<=i.A/\i.A<=3)/\(-1000000<=i.N/\i.N<=1000000))\/
  (i.a9=4/\(0<=i.A/\i.A<=3)/\(0<=i.B/\i.B<=3))\/(i.a9=5/\(0<=i.A/\i.A<=3)/\(0<=i.B/\i.B<=3))\/(i.a9=6/\(0<=i.A/\i.A<=3)/\(0<=i.B/\i.B<=3)/\(1<=i.N/\i.N<=10))\/(i.a9=7/\i.A=0):=by
 unfold P8 p9 at h;by_cases h1:i.a9=1
 ·simp [h1] at h;exact .inl ⟨h1,h.1,h.2.1⟩
 by_cases h2:i.a9=2
 ·simp [h2] at h;exact .inr (.inl ⟨h2,h.1,h.2.1⟩)
 by_cases h3:i.a9=3
 ·simp [h3] at h;exact .inr (.inr (.inl ⟨h3,h.1,h.2.2⟩))
 by_cases h4:i.a9=4
 ·simp [h4] at h;exact .inr (.inr (.inr (.inl ⟨h4,h.1,h.2.1⟩)))
 by_cases h5:i.a9=5
 ·simp [h5] at h;exact .inr (.inr (.inr (.inr (.inl ⟨h5,h.1,h.2.1⟩))))
 by_cases h6:i.a9=6
 ·simp [h6] at h;exact .inr (.inr (.inr (.inr (.inr (.inl ⟨h6,h.1,h.2.1,h.2.2⟩)))))
 by_cases h7:i.a9=7
 ·simp [h7] at h;exact .inr (.inr (.inr (.inr (.inr (.inr ⟨h7,h.1⟩)))))
 ·have e1:(i.a9==1)=false:=by simpa using h1
  have e2:(i.a9==2)=false:=by simpa using h2
  have e3:(i.a9==3)=false:=by simpa using h3
  have e4:(i.a9==4)=false:=by simpa using h4
  have e5:(i.a9==5)=false:=by simpa using h5
  have e6:(i.a9==6)=false:=by simpa using h6
  have e7:(i.a9==7)=false:=by simpa using h7
  rw [e1,e2,e3,e4,e5,e6,e7] at h;cases h
def a4o(l:List r9):Bool:=(f8I l.length).all (Y4 l)
def a13(l:List p8):Bool:=(f8I l.length).all (Y1 l)
def c1e(x:r9):Prop:=0<=x.i5/\x.i5<=3/\0<=x.j4/\x.j4<=1000000
theorem d59{l:List r9}:a4o l=true↔(∀x∈l,c1e x)/\l.Pairwise fun a b=>a.i5≠b.i5:=by
 unfold a4o;constructor
 ·intro h;refine ⟨d8e h,?_⟩;rw [f9t];intro i j hi hj hij heq;have:=f8E.1 h j (by simpa using hj);unfold Y4 at this;rw [f8z hj] at this;simp only [f8D,f9h] at this;have hs:=this.2.2;unfold J7 at hs;rw [f9q] at hs;refine hs l[i] ?_ (by simpa using heq);rw [f9G];exact ⟨i,by omega,rfl⟩
 ·rintro ⟨h1,h2⟩
  rw [f8E];intro k hk;have hk:k<l.length:=by simpa using hk
  unfold Y4;rw [f8z hk];have hf:=h1 _ (f8C hk);have hs:J7 (l.take k) l[k].i5=false:=by
   unfold J7;rw [f9q];intro x hx;obtain ⟨i,hi,rfl⟩:=f9G.1 hx;have:=f9t.1 h2 i k (by omega) hk (by omega);simpa using this
  simp only [hs,f9j,f9Y,f8D];unfold c1e at hf;exact ⟨by simp [p9];omega,by simp [p9];omega⟩
theorem b20{l:List p8}:a13 l=true↔(∀x∈l,a0n x)/\l.Pairwise fun a b=>a.i5≠b.i5:=by
 unfold a13;constructor
 ·intro h;refine ⟨d8p h,?_⟩;rw [f9t];intro i j hi hj hij heq;have:=f8E.1 h j (by simpa using hj);unfold Y1 at this;rw [f8z hj] at this;simp only [f8D,f9h] at this;have hs:=this.2.2;unfold K8 at hs;rw [f9q] at hs;refine hs l[i] ?_ (by simpa using heq);rw [f9G];exact ⟨i,by omega,rfl⟩
 ·rintro ⟨h1,h2⟩
  rw [f8E];intro k hk;have hk:k<l.length:=by simpa using hk
  unfold Y1;rw [f8z hk];have hf:=h1 _ (f8C hk);have hs:K8 (l.take k) l[k].i5=false:=by
   unfold K8;rw [f9q];intro x hx;obtain ⟨i,hi,rfl⟩:=f9G.1 hx;have:=f9t.1 h2 i k (by omega) hk (by omega);simpa using this
  simp only [hs,f9j,f9Y,f8D];unfold a0n at hf;exact ⟨by simp [p9];omega,by simp [p9];omega⟩
theorem f1o{l:List r9}{x:r9}(h:a4o l=true)(hx:c1e x)(hs:J7 l x.i5=false):a4o (l++[x])=true:=by
 rw [d59] at h ⊢;refine ⟨fun y hy => ?_,?_⟩
 ·rcases f8B.1 hy with hy|hy
  ·exact h.1 y hy
  ·rw [f8H.1 hy];exact hx
 ·rw [g0r];refine ⟨h.2,by simp,fun a ha b hb => ?_⟩;rw [f8H.1 hb];unfold J7 at hs;rw [f9q] at hs;simpa using hs a ha
theorem e3t{l:List p8}{x:p8}(h:a13 l=true)(hx:a0n x)(hs:K8 l x.i5=false):a13 (l++[x])=true:=by
 rw [b20] at h ⊢;refine ⟨fun y hy => ?_,?_⟩
 ·rcases f8B.1 hy with hy|hy
  ·exact h.1 y hy
  ·rw [f8H.1 hy];exact hx
 ·rw [g0r];refine ⟨h.2,by simp,fun a ha b hb => ?_⟩;rw [f8H.1 hb];unfold K8 at hs;rw [f9q] at hs;simpa using hs a ha
theorem e8B{l:List p8}{k:Nat}{v:Int}(h:a13 l=true)(hk:k<l.length)(hv:-1000000<=v/\v<=1000000):a13 (l.set k ⟨l[k].i5,v⟩)=true:=by
 rw [b20] at h ⊢;refine ⟨fun y hy => ?_,?_⟩
 ·rcases f9k hy with hy|rfl
  ·exact h.1 y hy
  ·have:=h.1 _ (f8C hk);exact ⟨this.1,this.2.1,hv⟩
 ·rw [f9t];intro i j hi hj hij;have hi':i<l.length:=by simpa using hi
  have hj':j<l.length:=by simpa using hj
  have hne:=f9t.1 h.2 i j hi' hj' hij;rw [List.getElem_set,List.getElem_set];split<;>split<;>simp_all
theorem a9B(r:n7):V3 r=(p9 r.Code 0 3&&(p9 r.d9 (-1000000) 1000000&&((r.Code==0||(r.d9==0&&r.b7.length==0))&&((r.Code != 3||r.b5.length==0)&&(a4o r.b5&&a13 r.b7))))):=rfl
def inV(v:Int):Prop := -1000000<=v/\v<=1000000
structure Way(r:n7)(n:Nat):Prop where
 val:r.d9=0
 reads:a4o r.b5=true
 puts:a13 r.b7=true
 rlen:r.b5.length<=n
 plen:r.b7.length<=n
structure Ran(r:n7):Prop where
 ok:V3 r=true
 rlen:r.b5.length<=40
 plen:r.b7.length<=40
theorem b7O{r:n7}{n:Nat}(h:Way r n)(hn:n<=40)(hc:r.Code=0\/r.Code=1\/r.Code=2){v:Int}(hv:r.Code=0->inV v):Ran ⟨r.b5,bif r.Code != 0 then [] else r.b7,bif r.Code != 0 then r.d9 else v,r.Code⟩:=by
 have h1:=h.rlen;have h2:=h.plen;have hR:=h.reads;have hP:=h.puts;have hP0:a13 []=true:=rfl;rcases hc with hc|hc|hc
 ·have hv:=hv hc;unfold inV at hv;refine ⟨?_,by simp only;omega,by simp only [hc];simp;omega⟩;rw [a9B];simp [hc,hR,hP,p9,hv]
 ·refine ⟨?_,by simp only;omega,by simp [hc]⟩;rw [a9B];simp [hc,hR,hP0,p9,h.val]
 ·refine ⟨?_,by simp only;omega,by simp [hc]⟩;rw [a9B];simp [hc,hR,hP0,p9,h.val]
theorem e5k{r:t8}{m:Nat}(h:Rd r m)(hm:m<=100000000):∃i r',b7j r=some (i,r')/\Rd r' (m+10):=by
 obtain ⟨k,r1,a1,a2,a3⟩:=b35 h (by omega) [1,1,2,2,3,4,4,5,6,7] (by decide) (by decide);obtain ⟨p1,r2,b1,b2,b3,b4⟩:=J2 a2 (by omega) 3;obtain ⟨p2,r3,c1,c2,c3,c4⟩:=J2 b2 (by omega) 3;unfold b7j;simp only [a1,b1,c1,f8y];cases h3:k==3
 ·cases h6:k==6
  ·cases h7:k==7
   ·exact ⟨_,_,rfl,c2.mono (by omega)⟩
   ·obtain ⟨p3,r4,d1,d2,d3,d4⟩:=J2 c2 (by omega) 3;simp only [g0Z,g00,d1,f8y];cases decide (p3>0)
    ·exact ⟨_,_,rfl,d2.mono (by omega)⟩
    ·obtain ⟨p4,r5,e1,e2,e3,e4⟩:=J2 d2 (by omega) 4;obtain ⟨p5,r6,f1,f2,f3,f4⟩:=J2 e2 (by omega) 4;simp only [g0Z,e1,f1,f8y];exact ⟨_,_,rfl,f2.mono (by omega)⟩
  ·obtain ⟨p3,r4,d1,d2,d3,d4⟩:=J2 c2 (by omega) 3;simp only [g0Z,g00,d1,f8y];exact ⟨_,_,rfl,d2.mono (by omega)⟩
 ·obtain ⟨n1,r4,d1,d2,d3⟩:=b35 c2 (by omega) [0,1,5,(-2),100,1000000] (by decide) (by decide);simp only [g0Z,d1,f8y];exact ⟨_,_,rfl,d2.mono (by omega)⟩
theorem c1b{r:t8}{m:Nat}(h:Rd r m)(hm:m<=50000000):∃p r',a5A r=some (p,r')/\Rd r' (m+200)/\p.length<=10:=by
 obtain ⟨v,r1,a1,a2,a3,a4⟩:=J2 h (by omega) 3;unfold a5A;simp only [a1,f8y];cases v==0
 ·obtain ⟨k,r2,b1,b2,b3,b4⟩:=J2 a2 (by omega) 8;simp only [g00,b1,f8y];obtain ⟨x,hx,hq⟩:=c5r (body:=fun s:t8×(List n8)×Int=>b8Z s.1 s.2.1 s.2.2)
   (fun j s=>s.2.2=(j:Int)/\j<=8/\Rd s.1 (m+2+10*(8-j))/\s.2.1.length+j<=8)
   (fun x=>match x with
    | .ret _=>False
    | .brk b=>Rd b.1 (m+200)/\b.2.length<=10)
   (by
    rintro j ⟨r,out,i⟩ ⟨q1,q2,q3,q4⟩
    simp only at q1 q3 q4 ⊢;subst q1;unfold b8Z;cases j with
    | zero=>exact ⟨_,rfl,q3.mono (by omega),by simp only;omega⟩
    | succ j=>
     obtain ⟨i,r',d1,d2⟩:=e5k q3 (by omega);have hpos:decide (((j+1:Nat):Int)>0)=true:=by simp
     have n1:(out.length+1)*32<=140737488355328:=by omega
     rw [hpos,g0Z,d1,f8y,v5 n1,C4 (by omega) (by omega)];exact ⟨_,rfl,j,by omega,by simp only;omega,by omega,d2.mono (by omega),by simp;omega⟩) (k:=k.toNat) (s:=(r2,[],k)) ⟨by simp only;omega,by omega,b2.mono (by omega),by simp;omega⟩
  rw [hx,f8y];cases x with
  | ret r=>cases hq
  | brk b=>exact ⟨_,_,rfl,hq.1,hq.2⟩
 ·obtain ⟨p1,r2,b1,b2,b3,b4⟩:=J2 a2 (by omega) 3;obtain ⟨p2,r3,c1,c2,c3,c4⟩:=J2 b2 (by omega) 3;obtain ⟨p3,r4,d1,d2,d3,d4⟩:=J2 c2 (by omega) 3;simp only [g0Z,b1,c1,d1,f8y];exact ⟨_,_,rfl,d2.mono (by omega),by simp⟩
def f8q(e:m4):Prop:=e.b6.b5.length<=40/\e.b6.b7.length<=40
def drawn(l:List m4):Prop:=l.length<=41/\∀e∈l,f8q e
theorem d0n{l:List m4}(h:A2 88 a09 l):b36 l=some (bif G4 l then (p6 l).1 else ⟨0,[],[]⟩):=by
 unfold b36;rw [c64 h,f8y];cases hok:G4 l
 ·rfl
 ·obtain ⟨hl,he⟩:=W8 hok;rw [f8F,g00,b9Z h hl he];rfl
theorem c85{l:List m4}(h:A2 88 a09 l)(hok:G4 l=true):b4o l=some (p6 l).1:=by
 obtain ⟨hl,he⟩:=W8 hok;have hf:s8 l:=h.fits (by decide);unfold b4o;rw [c0s,f8y,show (40:Int)=((40:Nat):Int) from rfl,b6i,decide_eq_true hl,f8F,g00];have hloop:=V9 (body:=fun s:(List m9)×Int×Int×List q9=>b1s l s.1 s.2.1 s.2.2.1 s.2.2.2) (fun k=>((p6 (l.take k)).1.g7,(k:Int),(p6 (l.take k)).1.At,(p6 (l.take k)).1.i8)) l.length (by
  intro k hk;obtain ⟨h1,h2,h3⟩:=P5 hl he k (by omega);have hek:=f8E.1 he _ (f8C hk);have hfk:=h.2 _ (f8C hk);rw [a0K hk];unfold b1s;rw [w6 _ k hk,t0 hk,E6 hf hk];simp only [g0Z,f8y,a4k hfk,hek,f8F,g00];rw [show (⟨(p6 (l.take k)).1.At,(p6 (l.take k)).1.g7,(p6 (l.take k)).1.i8⟩:u5)=(p6 (l.take k)).1 from rfl,b9L h1 (by omega) hek hfk,f8y];rfl)
 rw [f9p,f8Q] at hloop;rw [show ((0:Nat):Int)=0 from rfl] at hloop;rw [show o8 (fun s:(List m9)×Int×Int×List q9=>b1s l s.1 s.2.1 s.2.2.1 s.2.2.2) (P7.g7,0,P7.At,P7.i8)=_ from hloop,C8 (b:=((p6 l).1.g7,(p6 l).1.At,(p6 l).1.i8))]
 ·rfl
 ·unfold b1s;rw [z8];rfl
def W6(a b:List m9):Prop:=a.length=b.length/\∀(i:Nat) (x y:m9),a[i]?=some x->b[i]?=some y->x.j4<=y.j4
theorem W6.refl(a:List m9):W6 a a:=⟨rfl,fun i x y h1 h2=>by rw [h1] at h2;injection h2 with h2;rw [h2];exact f8Z _⟩
theorem W6.trans{a b c:List m9}(h:W6 a b)(k:W6 b c):W6 a c:=by
 refine ⟨h.1.trans k.1,fun i x z hx hz => ?_⟩;have hi:i<b.length:=by
  have:=(f8G.1 hx).1;have:=h.1;omega
 have h1:=h.2 i x _ hx (f8z hi);have h2:=k.2 i _ z (f8z hi) hz;omega
theorem e6j{l:List m9}{p:p8}(h:C6 l=true)(hp:a0n p):W6 l (a0s l p):=by
 obtain ⟨b,_,h2,h3⟩:=a4N h (b:=p.i5) ⟨hp.1,hp.2.1⟩;rw [b2w] at h3;rw [b6B h2];refine ⟨by simp,fun i x y hx hy => ?_⟩;rw [g0f] at hy;split at hy
 ·rename_i he;split at hy
  ·injection hy with hy;subst hy;rw [<-he,h2] at hx;injection hx with hx;subst hx;simp only;split<;>omega
  ·cases hy
 ·rw [hx] at hy;injection hy with hy;rw [hy];exact f8Z _
theorem d1b:∀{ps:List p8} {l:List m9},C6 l=true->(∀p∈ps,a0n p)->W6 l (a0Q l ps)
 | [],l,_,_=>W6.refl _
 | p::ps,l,h,hp=>(e6j h (hp p (by simp))).trans (d1b (ps:=ps) (d8m h (hp p (by simp))) fun x hx=>hp x (by simp [hx]))
theorem f4Q{s:u5}{k:Nat}{e:m4}(hs:X5 s k)(he:z4 e=true):W6 s.g7 (apply s e).1.g7:=by
 have hfr:e.i7=false->W6 s.g7 (O3 s e).1.g7:=by
  intro hn;obtain ⟨_,_,hr,_⟩:=a3V he hn;unfold O3;cases a0P s.g7 e.b6
  ·exact W6.refl _
  ·cases e.b6.Code==0
   ·exact W6.refl _
   ·exact d1b hs.boxes (a2W hr).2.2.2.2
 unfold apply;cases hn:e.i7
 ·simp only [g00];cases s.i8.find? fun d=>d.a5.b9==e.a5.b9 with
  | none=>exact hfr hn
  | some d=>
   simp only;cases d.a5.Seq==e.a5.Seq
   ·cases decide (d.a5.Seq>e.a5.Seq)
    ·exact hfr hn
    ·exact W6.refl _
   ·exact W6.refl _
 ·exact W6.refl _
theorem d1s{l:List m4}(hl:l.length<=40)(he:l.all z4=true){j k:Nat}(hjk:j<=k)(hk:k<=l.length):W6 (p6 (l.take j)).1.g7 (p6 (l.take k)).1.g7:=by
 induction k with
 | zero=>
  have:j=0:=by omega
  subst this;exact W6.refl _
 | succ k ih=>
  by_cases hq:j=k+1
  ·subst hq;exact W6.refl _
  ·refine (ih (by omega) (by omega)).trans ?_;rw [a0K (show k<l.length by omega)];exact f4Q (P5 hl he k (by omega)).1 (f8E.1 he _ (f8C _))
def a6H(l:List m4)(codes:List Int)(box:Int)(i:Nat):Bool:=match codes[i]?,l[i]? with
 | some c,some e=>c==0&&K8 e.b6.b7 box
 | _,_=>false
theorem d5t{l:List m9}{p:p8}{i:Nat}(h:p.i5.toNat≠i):(a0s l p)[i]?=l[i]?:=by
 unfold a0s;cases l[p.i5.toNat]? with
 | none=>rfl
 | some b=>simp only;rw [f8V h]
theorem d9L{l:List m9}{p:p8}{x:m9}(hx:l[p.i5.toNat]?=some x):(a0s l p)[p.i5.toNat]?=some ⟨if x.j4+1<1000000 then x.j4+1 else 1000000,p.d9⟩:=by
 rw [b6B hx,f9Q (f8G.1 hx).1]
theorem e7O{ps:List p8}{b:Int}(h:K8 ps b=false):∀p∈ps,p.i5≠b:=by
 unfold K8 at h;rw [f9q] at h;intro p hp;simpa using h p hp
theorem c6e:∀{ps:List p8} {l:List m9} {b:Int},0<=b->(∀p∈ps,a0n p)->K8 ps b=false->(a0Q l ps)[b.toNat]?=l[b.toNat]?
 | [],l,b,_,_,_=>rfl
 | p::ps,l,b,hb,hp,hs=>by
  have h1:=e7O hs;have hf:=hp p (by simp);have hne:p.i5.toNat≠b.toNat:=by
   have:=h1 p (by simp);have:=hf.1;omega
  have hs2:K8 ps b=false:=by
   unfold K8;rw [f9q];intro x hx;have:=h1 x (by simp [hx]);simpa using this
  show (a0Q (a0s l p) ps)[b.toNat]?=_
  rw [c6e (l:=a0s l p) hb (fun x hx=>hp x (by simp [hx])) hs2,d5t hne]
theorem d7K:∀{ps:List p8} {l:List m9} {b:Int} {x:m9},0<=b->(∀p∈ps,a0n p)->ps.Pairwise (fun p q=>p.i5≠q.i5)->K8 ps b=true->l[b.toNat]?=some x->
  ∃v,(a0Q l ps)[b.toNat]?=some ⟨if x.j4+1<1000000 then x.j4+1 else 1000000,v⟩
 | [],l,b,x,_,_,_,hs,_=>by cases hs
 | p::ps,l,b,x,hb,hp,hd,hs,hx=>by
  have hf:=hp p (by simp);obtain ⟨hd1,hd2⟩:=f9X.1 hd;by_cases he:p.i5=b
  ·have hs2:K8 ps b=false:=by
    unfold K8;rw [f9q];intro q hq;have:=hd1 q hq;simp only [beq_iff_eq];intro h;exact this (he.trans h.symm)
   refine ⟨p.d9,?_⟩;show (a0Q (a0s l p) ps)[b.toNat]?=_
   rw [c6e hb (fun q hq=>hp q (by simp [hq])) hs2,<-he,d9L (by rw [he];exact hx)]
  ·have hne:p.i5.toNat≠b.toNat:=by
    have:=hf.1;omega
   have hs2:K8 ps b=true:=by
    unfold K8 at hs ⊢;rw [g0R] at hs;have:(p.i5==b)=false:=by simpa using he
    rwa [this,f9n] at hs
   exact d7K (l:=a0s l p) hb (fun q hq=>hp q (by simp [hq])) hd2 hs2 (by rw [d5t hne];exact hx)
theorem d1j{r:n7}(h:V3 r=true):a13 r.b7=true:=by
 rw [a9B] at h;simp only [f8D] at h;exact h.2.2.2.2.2
theorem c5m{s:u5}{k:Nat}{e:m4}(hs:X5 s k)(he:z4 e=true):((apply s e).2=0/\e.i7=false/\(apply s e).1.g7=a0Q s.g7 e.b6.b7)\/((apply s e).2≠0/\(apply s e).1.g7=s.g7):=by
 have hfr:e.i7=false->((O3 s e).2=0/\e.i7=false/\(O3 s e).1.g7=a0Q s.g7 e.b6.b7)\/((O3 s e).2≠0/\(O3 s e).1.g7=s.g7):=by
  intro hn;unfold O3;cases a0P s.g7 e.b6
  ·exact .inr ⟨show (1:Int)≠0 from by decide,rfl⟩
  ·cases e.b6.Code==0
   ·exact .inr ⟨show (2:Int)≠0 from by decide,rfl⟩
   ·exact .inl ⟨rfl,hn,rfl⟩
 unfold apply;cases hn:e.i7
 ·simp only [g00];cases s.i8.find? fun d=>d.a5.b9==e.a5.b9 with
  | none=>
   rcases hfr hn with ⟨a,_,c⟩|h
   ·exact .inl ⟨a,by simp,c⟩
   ·exact .inr h
  | some d=>
   simp only;cases d.a5.Seq==e.a5.Seq
   ·cases decide (d.a5.Seq>e.a5.Seq)
    ·rcases hfr hn with ⟨a,_,c⟩|h
     ·exact .inl ⟨a,by simp,c⟩
     ·exact .inr h
    ·exact .inr ⟨show (4:Int)≠0 from by decide,rfl⟩
   ·exact .inr ⟨show (3:Int)≠0 from by decide,rfl⟩
 ·exact .inr ⟨show (5:Int)≠0 from by decide,rfl⟩
theorem b1v{l:List m4}(hl:l.length<=40)(he:l.all z4=true){k:Nat}(hk:k<l.length):(p6 l).2[k]?=some (apply (p6 (l.take k)).1 l[k]).2:=by
 have key:∀n,k<n->n<=l.length->(p6 (l.take n)).2[k]?=some (apply (p6 (l.take k)).1 l[k]).2:=by
  intro n;induction n with
  | zero=>intro h;omega
  | succ n ih=>
   intro h1 h2;have hlen:=(P5 hl he n (by omega)).2.1;rw [a0K (show n<l.length by omega)];unfold a99;by_cases hq:k=n
   ·subst hq;simp only;rw [f8T (by omega),hlen,Nat.sub_self];rfl
   ·simp only;rw [f8X (by omega)];exact ih (by omega) (by omega)
 have:=key l.length hk (f8R _);rwa [f8Q] at this
theorem d3b{l:List m4}(hl:l.length<=40)(he:l.all z4=true){k:Nat}(hk:k<l.length){b:Int}(h0:0<=b)(h:a6H l (p6 l).2 b k=false):(p6 (l.take (k+1))).1.g7[b.toNat]?=(p6 (l.take k)).1.g7[b.toNat]?:=by
 have hek:=f8E.1 he _ (f8C hk);have hin:=(P5 hl he k (by omega)).1;rw [a0K hk];show (apply (p6 (l.take k)).1 l[k]).1.g7[b.toNat]?=_
 rcases c5m hin hek with ⟨h1,h2,h3⟩|⟨h1,h2⟩
 ·rw [h3];obtain ⟨_,_,hr,_⟩:=a3V hek h2;refine c6e h0 (a2W hr).2.2.2.2 ?_;unfold a6H at h;rw [b1v hl he hk,f8z hk,h1] at h;simpa using h
 ·rw [h2]
theorem d01{l:List m4}(hl:l.length<=40)(he:l.all z4=true){k:Nat}(hk:k<l.length){b:Int}(h:a6H l (p6 l).2 b k=true):(0<=b/\b<=3)/\∀x,(p6 (l.take k)).1.g7[b.toNat]?=some x->
  ∃v,(p6 (l.take (k+1))).1.g7[b.toNat]?=some ⟨if x.j4+1<1000000 then x.j4+1 else 1000000,v⟩:=by
 have hek:=f8E.1 he _ (f8C hk);have hin:=(P5 hl he k (by omega)).1;unfold a6H at h;rw [b1v hl he hk,f8z hk] at h;simp only [f8D,beq_iff_eq] at h;rcases c5m hin hek with ⟨h1,h2,h3⟩|⟨h1,h2⟩
 ·obtain ⟨_,_,hr,_⟩:=a3V hek h2;have hp:=(a2W hr).2.2.2.2;have hb:0<=b/\b<=3:=by
   have:=h.2;unfold K8 at this;rw [g0b] at this;obtain ⟨p,hp1,hp2⟩:=this;have hpb:p.i5=b:=by simpa using hp2
   have:=hp p hp1;omega
  refine ⟨hb,fun x hx => ?_⟩;rw [a0K hk];show ∃v,(apply (p6 (l.take k)).1 l[k]).1.g7[b.toNat]?=_
  rw [h3];exact d7K hb.1 hp (b20.1 (d1j hr)).2 h.2 hx
 ·exact absurd h.1 h1
theorem c27{l:List m4}(hl:l.length<=40)(he:l.all z4=true){b:Int}(hb:0<=b/\b<=3):∀k,k<=l.length->∃x,(p6 (l.take k)).1.g7[b.toNat]?=some x/\0<=x.j4/\x.j4<=(k:Int)
 | 0,_=>by
  rw [f9p];have:b=0\/b=1\/b=2\/b=3:=by omega
  rcases this with rfl|rfl|rfl|rfl<;>exact ⟨⟨0,0⟩,rfl,by decide,by decide⟩
 | k+1,hk=>by
  obtain ⟨x,h1,h2,h3⟩:=c27 hl he hb k (by omega);cases hp:a6H l (p6 l).2 b k
  ·rw [d3b hl he (by omega) hb.1 hp];exact ⟨x,h1,h2,by omega⟩
  ·obtain ⟨_,hq⟩:=d01 hl he (show k<l.length by omega) hp;obtain ⟨v,hv⟩:=hq x h1;refine ⟨_,hv,?_,?_⟩
   ·simp only;split<;>omega
   ·simp only;split<;>omega
theorem c8k{l:List m4}(hl:l.length<=40)(he:l.all z4=true){b:Int}(h0:0<=b){j:Nat}:∀k,j<=k->k<=l.length->(∀i,j<=i->i<k->a6H l (p6 l).2 b i=false)->(p6 (l.take k)).1.g7[b.toNat]?=(p6 (l.take j)).1.g7[b.toNat]?
 | 0,hj,_,_=>by
  have:j=0:=by omega
  rw [this]
 | k+1,hj,hk,h=>by
  by_cases hq:j=k+1
  ·rw [hq]
  ·rw [d3b hl he (by omega) h0 (h k (by omega) (by omega))];exact c8k hl he h0 k (by omega) (by omega) fun i h1 h2=>h i h1 (by omega)
def cnt(cs:List Int)(c:Int):Int:=((cs.filter fun x=>x==c).length:Int)
theorem e6q(cs:List Int)(c d:Int):cnt (cs++[c]) d=cnt cs d+(if c=d then 1 else 0):=by
 unfold cnt;rw [List.filter_append];by_cases h:c=d<;>simp [h]
theorem c6V(cs:List Int)(c:Int):0<=cnt cs c/\cnt cs c<=cs.length:=by
 unfold cnt;have:=List.length_filter_le (fun x=>x==c) cs;omega
def b2z(l:List m4)(cs:List Int)(k:Nat):List n5:=match cs[k]?,l[k]? with
 | some c,some e=>bif c==0 then [e.a5] else []
 | _,_=>[]
def told(l:List m4)(cs:List Int):Nat->List n5
 | 0=>[]
 | k+1=>told l cs k++b2z l cs k
theorem b2b{l:List m4}{cs:List Int}{k:Nat}(h1:k<l.length)(h2:k<cs.length):b2z l cs k=bif cs[k]==0 then [l[k].a5] else []:=by
 unfold b2z;rw [f8z h1,f8z h2]
theorem b6c{l:List m4}{cs:List Int}(hc:cs.length=l.length):∀k,k<=l.length->((told l cs k).length:Int)=cnt (cs.take k) 0
 | 0,_=>rfl
 | k+1,hk=>by
  have h1:k<cs.length:=by omega
  have ih:=b6c hc k (by omega);unfold told;rw [f9e h1,e6q,b2b (show k<l.length by omega) h1,<-ih];by_cases hq:cs[k]=0
  ·simp [hq]
  ·have hq':(cs[k]==0)=false:=by simpa using hq
   simp [hq,hq']
def z9(l:List m4):List n5:=bif G4 l then told l (p6 l).2 l.length else []
theorem e7z{l:List n5}(h:l.length*16<=140737488351232):b6s l=some l:=by
 unfold b6s t5;cases l with
 | nil=>rfl
 | cons x l=>
  have h1:(((x::l).length:Int)==0)=false:=by simp;omega
  rw [h1,g00,if_pos (by constructor<;>omega),if_pos (by simp)]
theorem e78{l:List m4}(h:A2 88 a09 l):c0Y l=some (z9 l):=by
 unfold c0Y z9;rw [c64 h,f8y];cases hok:G4 l
 ·rfl
 have hf:s8 l:=h.fits (by decide);obtain ⟨hl,he⟩:=W8 hok;obtain ⟨_,hlen,hc⟩:=P5 hl he l.length (f8R _);rw [f8Q] at hlen hc;rw [f8F,g00,g0Z,b9Z h hl he,f8y];have hsm:∀k,k<=l.length->(told l (p6 l).2 k).length<=40:=by
  intro k hk;have h1:=b6c hlen k hk;have h2:=c6V ((p6 l).2.take k) 0;rw [f8S] at h2;omega
 have hloop:=V9 (body:=fun s:(List n5)×Int=>b1a l (p6 l) s.1 s.2) (fun k=>(told l (p6 l).2 k,(k:Int))) l.length (by
  intro k hk;have hk2:k<(p6 l).2.length:=by omega
  have hs:=hsm k (by omega);have n1:((told l (p6 l).2 k).length+1)*16<=140737488355328:=by omega
  show b1a l (p6 l) (told l (p6 l).2 k) (k:Int)=some (.nxt (told l (p6 l).2 k++b2z l (p6 l).2 k,((k+1:Nat):Int)))
  rw [b2b hk hk2];unfold b1a c4R;rw [w6 _ k hk,t0 hk,t0 hk2,E6 hf hk];simp only [g0Z,f8y,v5 n1];cases (p6 l).2[k]==0
  ·simp only [g00,f8y,l9.go,f9o]
  ·rfl)
 rw [show told l (p6 l).2 0=[] from rfl,show ((0:Nat):Int)=0 from rfl] at hloop;rw [hloop,C8 (b:=told l (p6 l).2 l.length)]
 ·simp only [f8y,l9.go];unfold c6G;rw [e7z (by have:=hsm l.length (f8R _);omega)];rfl
 ·unfold b1a;rw [z8];rfl
theorem a6E{ps:List p8}(h:ps.Pairwise fun p q=>p.i5≠q.i5)(b:Int):(ps.filter fun p=>p.i5==b).length<=1:=by
 have h2:=h.filter (fun p=>p.i5==b);cases hq:ps.filter fun p=>p.i5==b with
 | nil=>simp
 | cons x r=>
  cases r with
  | nil=>simp
  | cons y r=>
   rw [hq] at h2;have hne:=(f9X.1 h2).1 y (by simp);have hx:x∈ps.filter fun p=>p.i5==b:=by rw [hq];simp
   have hy:y∈ps.filter fun p=>p.i5==b:=by rw [hq];simp
   have hx:=(f9H.1 hx).2;have hy:=(f9H.1 hy).2;simp only [beq_iff_eq] at hx hy;omega
theorem c4I:∀{ps:List p8},(∀p∈ps,a0n p)->ps.length=(ps.filter fun p=>p.i5==0).length+(ps.filter fun p=>p.i5==1).length+(ps.filter fun p=>p.i5==2).length+(ps.filter fun p=>p.i5==3).length
 | [],_=>rfl
 | p::ps,h=>by
  have ih:=c4I (ps:=ps) fun x hx=>h x (by simp [hx])
  have hp:=h p (by simp);have:p.i5=0\/p.i5=1\/p.i5=2\/p.i5=3:=by
   have:=hp.1;have:=hp.2.1;omega
  simp only [List.filter_cons,f9J];rcases this with q|q|q|q<;>simp [q]<;>omega
theorem e4S{r:n7}(h:V3 r=true):r.b7.length<=4:=by
 have h1:=(b20.1 (d1j h))
 have h2:=c4I h1.1;have a:=a6E h1.2 0;have b:=a6E h1.2 1;have c:=a6E h1.2 2;have d:=a6E h1.2 3;omega
theorem okEntries.s{l:List m4}(h:A2 88 E9 l):A2 88 a09 l:=h.imp fun _ x=>x.f
theorem a3u(c x:Bool):(bif c then some x else some false)=some (c&&x):=by cases c<;>rfl
theorem b4O(c x:Bool):(bif c then some false else some x)=some (!c&&x):=by cases c<;>rfl
theorem e0t(n lo hi:Int):p9 n lo hi=(!decide (n<lo) && !decide (n>hi)):=by
 unfold p9;by_cases h1:n<lo<;>by_cases h2:n>hi<;>simp [h1,h2]<;>omega
theorem rng{α:Type}(n lo hi:Int)(X Y:α):(bif decide (n<lo) then Y else bif decide (n>hi) then Y else X)=bif p9 n lo hi then X else Y:=by
 rw [e0t];cases decide (n<lo)<;>cases decide (n>hi)<;>rfl
theorem c6D{α:Type}(n lo:Int)(X Y:α):(bif decide (n<lo) then Y else bif decide (n>=3) then Y else X)=bif p9 n lo 2 then X else Y:=by
 have e:decide (n>=3)=decide (n>2):=by
  by_cases h:n>2
  ·rw [decide_eq_true h,decide_eq_true (by omega)]
  ·rw [decide_eq_false h,decide_eq_false (by omega)]
 rw [<-rng,e]
theorem a5r(a b:Int):(!decide (a>b))=decide (a<=b):=by
 by_cases h:a<=b
 ·simp [h]
 ·simp [h];omega
theorem c9u{α:Type}(l:List α):decide ((l.length:Int)>0) = !((l.length:Int)==0):=by
 by_cases hp:l.length=0
 ·rw [decide_eq_false (by omega),show ((l.length:Int)==0)=true from by rw [hp];rfl];rfl
 ·rw [decide_eq_true (by omega),show ((l.length:Int)==0)=false from by rw [<-g0c,beq_iff_eq];omega];rfl
theorem b5a{α:Type}[BEq α](a b:α):(!(a != b))=(a==b):=by simp [bne]
abbrev zE:m4:=⟨false,⟨0,0⟩,⟨[],[],0,0⟩⟩
def I9(a b:m4):Bool:=(a.i7==b.i7)&&((([a.a5.b9,a.a5.Seq]:List Int)==[b.a5.b9,b.a5.Seq])&&a4X a.b6 b.b6)
theorem a6t{a b:m4}(h:E9 a):a14 a b=some (I9 a b):=by
 unfold a14 I9;simp only [d49 h.f.2,f8y,a3u]
theorem c1u{e:m4}(h:E9 e):a4L e=some (I9 e zE):=by
 unfold a4L I9;simp only [b8O h.f.2,f8y,a3u];cases e.i7<;>rfl
theorem b0d(n:Int):a1o n=some (p9 n 1 3000):=N8 n 1 3000
def Z7(v:m8):Bool:=bif v.a8==0 then I9 v.g9 zE else p9 v.a8 1 3000&&z4 v.g9
theorem f4M{v:m8}(h:T7 v):b83 v=some (Z7 v):=by
 unfold b83 Z7;simp only [a6t h.2,N8,a7t h.2.f,f8y,a3u];cases v.a8==0<;>rfl
theorem f4e{v:m8}(h:T7 v):c0y v=some (Z7 v):=by
 unfold c0y Z7 I9;simp only [b8O h.2.f.2,b0d,a4k h.2.f,f8y,a3u];cases v.a8==0<;>cases v.g9.i7<;>rfl
def L1(l:List m8):Bool:=decide (l.length<=40)&&l.all Z7
theorem c6Q{l:List m8}(h:A2 96 T7 l):a6G l=some (L1 l):=by
 unfold a6G L1;rw [show (40:Int)=((40:Nat):Int) from rfl,b6i,I5 l (h.fits (by decide)) Z7 false ()]
 ·cases decide (l.length<=40)
  ·rfl
  ·cases l.all Z7<;>rfl
 ·intro k hk;unfold b6y;rw [w6 _ k hk,t0 hk];simp only [g0Z,f8y,f4e (h.2 _ (f8C hk))];cases Z7 l[k]<;>rfl
 ·unfold b6y;rw [z8];rfl
theorem b4w{l:List m8}(h:A2 96 T7 l):a6T l=some (L1 l):=by
 unfold a6T L1 c5M;rw [show (40:Int)=((40:Nat):Int) from rfl,c1h,I5 l (h.fits (by decide)) Z7 false ()]
 ·cases l.all Z7<;>cases decide (l.length<=40)<;>rfl
 ·intro k hk;unfold b8P;rw [w6 _ k hk,t0 hk];simp only [g0Z,f8y,f4M (h.2 _ (f8C hk))];cases Z7 l[k]<;>rfl
 ·unfold b8P;rw [z8];rfl
def O2(a:z0):Bool:=p9 a.i0 0 3000&&(L1 a.a7&&a.a7.all fun v => !decide (v.a8>a.i0))
theorem e6F{a:z0}(h:a7c a):b7s a=some (O2 a):=by
 unfold b7s O2;rw [rng,c6Q h.2,I5 a.a7 (h.2.fits (by decide)) (fun v => !decide (v.a8>a.i0)) false ()]
 ·simp only [f8y];cases p9 a.i0 0 3000<;>cases L1 a.a7<;>cases a.a7.all (fun v => !decide (v.a8>a.i0))<;>rfl
 ·intro k hk;unfold c02;rw [w6 _ k hk,t0 hk];simp only [g0Z,f8y];cases decide (a.a7[k].a8>a.i0)<;>rfl
 ·unfold c02;rw [z8];rfl
theorem d5x{a:z0}(h:a7c a):a96 a=some (O2 a):=by
 unfold a96 O2;rw [I5 a.a7 (h.2.fits (by decide)) (fun v => !decide (v.a8>a.i0)) false ()]
 ·unfold c2e;simp only [N8,b4w h.2,f8y];cases p9 a.i0 0 3000<;>cases L1 a.a7<;>cases a.a7.all (fun v => !decide (v.a8>a.i0))<;>rfl
 ·intro k hk;unfold b8w;rw [w6 _ k hk,t0 hk];simp only [g0Z,f8y];cases decide (a.a7[k].a8>a.i0)<;>rfl
 ·unfold b8w;rw [z8];rfl
theorem f3a(i:n8):b8l i=some (P8 i):=by
 unfold b8l P8 a2Y b74;simp only [N8,f8y];cases i.a9==1<;>cases i.a9==2<;>cases i.a9==3<;>cases i.a9==4<;>cases i.a9==5<;>cases i.a9==6<;>cases i.a9==7<;>cases p9 i.A 0 3<;>cases p9 i.B 0 3<;>cases i.A==0<;>cases i.B==0<;>rfl
theorem c0m{l:List n8}(h:s8 l):a8N l=some (E4 l):=by
 unfold a8N E4 c6M;rw [show (10:Int)=((10:Nat):Int) from rfl,c1h,I5 l h P8 false ()]
 ·cases l.all P8<;>cases decide (l.length<=10)<;>rfl
 ·intro k hk;unfold b9B;rw [w6 _ k hk,t0 hk];simp only [g0Z,f8y,f3a];cases P8 l[k]<;>rfl
 ·unfold b9B;rw [z8];rfl
def a0i(b:Int):Int:=bif p9 b 1 3000 then f9c b 3 else -1
theorem f7W(b:Int):a9E b=some (a0i b):=by
 unfold a9E a0i;rw [b0d,f8y];cases p9 b 1 3000<;>rfl
theorem d2h(b:Int):b29 b=some (a0i b):=by
 unfold b29 a0i;rw [N8,f8y];cases p9 b 1 3000<;>rfl
def b7l(l:List Bool)(id:Int):Bool:=(idx l id).getD false
def a4K(l:List Bool)(id:Int):Bool:=((l.length:Int)==3)&&b7l l id
theorem d1R{l:List Bool}{id:Int}(h:p9 id 0 2=true)(hl:((l.length:Int)==3)=true):idx l id=some (b7l l id):=by
 unfold p9 at h;simp only [decide_eq_true_eq] at h;simp only [beq_iff_eq] at hl;unfold b7l idx;rw [if_pos h.1,f8z (by omega)];rfl
theorem e6G{l:List Bool}{id:Int}(h:p9 id 0 2=true)(x:Bool):(bif ((l.length:Int)==3) then (idx l id).bind fun y=>some (y&&x) else some false)=some (a4K l id&&x):=by
 unfold a4K;cases hl:((l.length:Int)==3)
 ·rfl
 ·rw [d1R h hl];rfl
theorem e4P{l:List Bool}{id:Int}(h:p9 id 0 2=true):b11 l id=some (a4K l id):=by
 unfold b11 a4K;cases hl:((l.length:Int)==3)
 ·rfl
 ·rw [d1R h hl];rfl
def a4w(n:j6):Bool:=I9 n.c8 zE&&((n.a7.length:Int)==0)
def a0t(n:j6):Bool:=
  bif n.d6==0 then (n.a8==0)&&(((n.c9.length:Int)==0)&&(((n.i4.length:Int)==0)&&a4w n)) else
  (a0i n.a8==n.Id)&&(decide (n.a8<=n.Acc.i0)&&(L1 n.i4 &&
    (bif n.d6==1 then a4K n.c9 n.Id&&a4w n else
     bif n.d6==2 then ((n.c9.length:Int)==0)&&a4w n else
     bif n.d6==3 then ((n.c9.length:Int)==0)&&(z4 n.c8&&(a4K n.a7 n.Id&&decide ((n.a6.length:Int)<40))) else false)))
theorem c2V{n:j6}(h:p9 n.Id 0 2=true)(ho:(a0i n.a8==n.Id)=true):p9 n.a8 1 3000=true:=by
 cases hb:p9 n.a8 1 3000
 ·unfold a0i at ho;rw [hb] at ho;unfold p9 at h;simp only [decide_eq_true_eq,g00,beq_iff_eq] at h ho;omega
 ·rfl
theorem e63{n:j6}(h:O6 n)(hId:p9 n.Id 0 2=true):b3c n=some (a0t n):=by
 have hj:b3c n=b9b n (a4w n):=by
  unfold b3c a4w;simp only [a6t h.2.2.2.2.2.2.2.2.1,f8y];cases I9 n.c8 zE<;>rfl
 rw [hj];unfold b9b a0t;simp only [d2h,b4w h.2.2.2.2.2.2.2.1,e4P hId,a7t h.2.2.2.2.2.2.2.2.1.f,f8y,a3u];cases n.d6==0
 ·simp only [g00];cases n.d6==1<;>cases n.d6==2<;>cases n.d6==3<;>simp only [g0Z,g00,b4O,b5a,a5r,g0W]<;>(cases a0i n.a8==n.Id<;>cases decide (n.a8<=n.Acc.i0)<;>cases L1 n.i4<;>rfl)
 ·rfl
theorem f8j{n:j6}(h:O6 n)(hId:p9 n.Id 0 2=true):b67 n=some (a0t n):=by
 unfold b67 a0t;simp only [f7W,b0d,c1u h.2.2.2.2.2.2.2.2.1,c6Q h.2.2.2.2.2.2.2.1,a4k h.2.2.2.2.2.2.2.2.1.f,f8y,a3u,b4O,e6G hId,b5a,a5r,g0W];have hb:=c2V (n:=n) hId;cases h0:n.d6==0
 ·cases h1:n.d6==1
  ·cases h2:n.d6==2
   ·cases h3:n.d6==3
    ·simp only [g00,Bool.and_false]
    ·simp only [g00,g0Z,b4O,b5a,a5r,g0W];cases ho:a0i n.a8==n.Id
     ·simp
     ·rw [hb ho];cases decide (n.a8<=n.Acc.i0)<;>cases L1 n.i4<;>cases ((n.c9.length:Int)==0)<;>rfl
   ·simp only [g00,g0Z,b4O,b5a,a5r,g0W];cases ho:a0i n.a8==n.Id
    ·simp
    ·rw [hb ho];unfold a4w;cases decide (n.a8<=n.Acc.i0)<;>cases L1 n.i4<;>cases ((n.c9.length:Int)==0)<;>rfl
  ·simp only [g00,g0Z,b4O,b5a,a5r,g0W];cases ho:a0i n.a8==n.Id
   ·simp
   ·rw [hb ho];unfold a4w;cases decide (n.a8<=n.Acc.i0)<;>cases L1 n.i4<;>cases a4K n.c9 n.Id<;>rfl
 ·unfold a4w;simp only [g0Z]
def a3U(n:j6):Bool:=
 bif n.i9 then E4 n.i6&&(z4 n.b8&&(!n.b8.i7&&(([n.b8.a5.b9,n.b8.a5.Seq]:List Int)==[n.Id,n.Seq]))) else ((n.i6.length:Int)==0)&&I9 n.b8 zE
theorem e5h{n:j6}(h:O6 n):b96 n=some (a3U n):=by
 unfold b96 a3U;have hw:=h.2.2.2.2.2.2.2.2.2.2.2.1;simp only [c1u hw,c3e (h.2.2.2.2.2.2.2.2.2.2.1.fits (by decide)),a4k hw.f,f8y,a3u];cases n.i9<;>rfl
def c0C(l:List m4):Bool:=l.all fun e=>z4 e && !e.i7
def D7(n:j6):Bool:=p9 n.Id 0 2&&(O2 n.Acc&&(G4 n.a6&&(p9 n.Seq 0 1000&&(decide ((n.f0.length:Int)<=4)&&(a0t n&&(a3U n&&c0C n.f0))))))
theorem b1G{n:j6}(h:O6 n):a5H n=some (D7 n):=by
 unfold a5H D7;rw [c6D];cases hId:p9 n.Id 0 2
 ·rfl
 ·rw [rng,e6F h.2.1,d2F (okEntries.s h.2.2.1),f8j h hId,e5h h,I5 n.f0 (h.2.2.2.2.2.2.2.2.2.2.2.2.fits (by decide)) (fun e=>z4 e && !e.i7) false ()]
  ·unfold c0C c5Q;rw [<-a5r];simp only [f8y,g0Z];cases O2 n.Acc<;>cases G4 n.a6<;>cases p9 n.Seq 0 1000<;>cases decide ((n.f0.length:Int)>4)<;>cases a0t n<;>cases a3U n<;>cases n.f0.all (fun e=>z4 e && !e.i7)<;>rfl
  ·intro k hk;unfold b8m;rw [w6 _ k hk,t0 hk];simp only [g0Z,f8y,a4k ((h.2.2.2.2.2.2.2.2.2.2.2.2).2 _ (f8C hk)).f];cases z4 n.f0[k]<;>cases n.f0[k].i7<;>rfl
  ·unfold b8m;rw [z8];rfl
end
end Go.Proofs.YtmceicmlkgpmpaaGreat
