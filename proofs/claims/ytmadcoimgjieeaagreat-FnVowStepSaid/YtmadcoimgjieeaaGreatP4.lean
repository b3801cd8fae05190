/- What the law leans on, part 4. -/
import Derived.Test.YtmadcoimgjieeaaGreatP3
import Derived.IntWalk
set_option linter.unusedVariables false
set_option linter.unusedSimpArgs false
set_option linter.unnecessarySimpa false
namespace Go.Proofs.YtmadcoimgjieeaaGreat
open Go
open Option renaming bind_some->f8M
open List renaming getElem?_eq_getElem->f8N,replicate->f8O,mem_append->f8P,getElem_mem->f8Q,all_eq_true->f8S,getElem?_eq_some_iff->f8U,mem_singleton->f8V,range->f8W,mem_cons->f8X,length_append->f9a,take_length->f9e,length_take->f9g,getElem?_append_right->f9h,drop_eq_getElem_cons->f9j,getElem?_set_ne->f9k,getElem?_append_left->f9l,getElem_of_mem->f9o,take_succ_eq_append_getElem->f9s,mem_or_eq_of_mem_set->f9y,append_nil->f9C,take_zero->f9D,any_eq_false->f9E,pairwise_iff_getElem->f9H,mem_of_mem_take->f9T,mem_take_iff_getElem->f9U,mem_filter->f9V,length_cons->f9X,drop_zero->g0a,getElem?_set_self->g0e,pairwise_cons->g0l,any_eq_true->g0p,getElem?_set->g0t,all_eq_false->g0u,find?_cons->g0A,length_nil->g0B,pairwise_append->g0F,foldl_cons->g0R,drop_length->g02,any_cons->g05,find?_eq_none->g09,foldl_nil->g1c
open Bool renaming and_eq_true->f8R,not_true->f8T,true_and->f8Y,not_eq_true'->f9v,not_false->f9x,false_or->f9B,and_true->g0m,not_eq_true->g0q,not_not->g1a
open Nat renaming le_refl->f9f,le_trans->f9A
open Int renaming le_refl->f9n,tmod->f9p,toNat_natCast->f9r,tdiv->g0N
open Classical renaming byContradiction->g0G
noncomputable section
def e2O(s_:u5)(e_:m4)(box:List m9)(v45:Int):Unit->KS:=fun _=>⟨R4.k 8 [false,false,true,false],(bs 2 (.ptr 1 0 0::(.ptr 2 0 0::(.ptr 3 0 0::(bs 1 (.ptr 4 0 0::(bs 36 (l7 4 B9 s_.i8::(vi (s_.i8.length:Int)::(vi v45::(bs 106 []))))))))))),[some [],some [.var 77 [vi s_.At,l7 2 x7 s_.g7,l7 4 B9 s_.i8]],some [.var 52 (a13 e_)],some [.var 77 [vi 0,.nil,.nil]],some [.var 77 [vi (m7 (s_.At+1)),.own 5 0 2 0 box.length,.nil]],some [m6 124 2 x7 box]]⟩
def c4d(v45:Int):Option (j7 (u5×Int) Int Unit):=
 some (j7.nxt (m7 (v45+1)))
theorem f09(s_ e_ box v45)(lc:D4 R4 (c4Y s_ e_ box) (d4V s_ e_ box)):NL lc (e2O s_ e_ box v45) (fun s=>c4d v45):=fun _ h=>PK<|rg<|(lc.nx h fun hI=>sk [] [2,3,4,6,43,44,45] [(1,0),(2,0),(3,0),(4,0),(5,0)] hI)
def b9H(s_:u5)(e_:m4)(box:List m9)(v45:Int):Option (j7 (u5×Int) Int Unit):=
 (bif decide (v45<(s_.i8.length:Int)) then ((idx s_.i8 v45).bind fun b7T=>(((bif (b7T.a5.b9==e_.a5.b9) then (bif decide (b7T.a5.Seq>=e_.a5.Seq) then ((a6P s_.i8).bind fun b3B=>(bif (b7T.a5.Seq==e_.a5.Seq) then some (l9.ret (j7.ret ((u5.mk (m7 (s_.At+1)) box b3B),3))) else some (l9.ret (j7.ret ((u5.mk (m7 (s_.At+1)) box b3B),4))))) else some (l9.brk ())) else some (l9.brk ())):Option (l9 (j7 (u5×Int) Int Unit) Unit)).bind fun x=>x.go some fun j=>c4d v45)) else some (j7.brk ()))
theorem e6J(s_ e_ box):LQ R4 (c4Y s_ e_ box) (d4V s_ e_ box) (fun s=>b9H s_ e_ box s):=fun lc v45 h=>PK<|rg<|j5 0 h (fun h=>rg<|u0 B9 0 h fun b7T f8L h=>A4 h (f09 s_ e_ box v45 lc) fun x2 h hc2=>rg<|j5 7 h (fun h=>j5 15 h (fun h=>rg<|j9 b17 c6j 2 h fun b3B h=>rg<|j5 6 h (fun h=>rg<|(B8 h hc2 fun h=>C9 box b3B<|fL lc h)) (fun h=>rg<|(B8 h hc2 fun h=>C9 box b3B<|fL lc h))) (fun h=>(o9 h hc2 fun hI=>sk [] [2,3,4,6,43,44,45] [(1,0),(2,0),(3,0),(4,0),(5,0)] hI))) (fun h=>(o9 h hc2 fun hI=>sk [] [2,3,4,6,43,44,45] [(1,0),(2,0),(3,0),(4,0),(5,0)] hI))) (fun h=>(lc.bk h fun hI=>sk [] [2,3,4,6] [(1,0),(2,0),(3,0),(4,0),(5,0)] hI))
def b8B(s_:u5)(e_:m4):Option (u5×Int):=
 ((b6i s_).bind fun d0P=>(bif (!d0P) then some ((u5.mk 0 [] []),(-1)) else ((a1T e_).bind fun F6=>(bif (!F6) then some ((u5.mk 0 [] []),(-1)) else (bif (s_.At==40) then some ((u5.mk 0 [] []),(-1)) else ((a7E s_.g7).bind fun box=>(bif e_.i7 then ((a6P s_.i8).bind fun done=>some ((u5.mk (m7 (s_.At+1)) box done),5)) else ((o7 (fun s:Int=>b9H s_ e_ box s) 0).bind fun x=>x.go (fun r=>some r) fun s=>b9v s_ e_ box))))))))
theorem f7m{s_ e_}:OK R4 [.agg (a77 s_),.agg (s6 e_)] (b8B s_ e_):=
 o8 _ fun r h=>n9<|j9 a5o e1H 1 h fun d0P h=>j5 3 h (fun h=>rg<|fE h) (fun h=>j9 a29 a4A 5 h fun F6 h=>j5 8 h (fun h=>rg<|fE h) (fun h=>j5 12 h (fun h=>rg<|fE h) (fun h=>rg<|j9 c0K c3G 5 h fun box h=>rg<|j5 1 h (fun h=>rg<|j9 b17 c6j 2 h fun done h=>rg<|C9 box done<|fE h) (fun h=>rg<|lp (e6J s_ e_ box) h (fun _ h=>R4.rt h) (e8T s_ e_ box r) fun hI=>sk [] [2,3,4,6,43,44,45] [(1,0),(2,0),(3,0),(25,0),(23,0)] hI))))
def a3w:FS (u5×List Int):=⟨60,Tryz.f60,[.val [none,some 2,some 4] [none,some 124,some 183],.val [some 1] [some 3]],[none],[.val [some 7] []],fun r=>.tup [.agg (b4j r.1),v6 3 1 eI r.2],fun _=>[none],Tryz.func60⟩
def d6f:((List m9)×(List q9)×(List Int)×Int)->KS:=fun (Boxes1,Dones1,codes1,sAt1)=>⟨a3w.k 5 [false],(bs 2 (.ptr 1 0 0::(bs 1 (.ptr 2 0 0::(.own 5 0 1 0 codes1.length::(bs 25 [])))))),[some [],some [.var 77 [vi 0,.nil,.nil]],some [.var 77 [vi sAt1,.own 3 0 2 0 Boxes1.length,.own 4 0 4 0 Dones1.length]],some [m6 124 2 x7 Boxes1],some [m6 183 4 B9 Dones1],some [m6 3 1 eI codes1]]⟩
def d0Y(Boxes1:List m9)(Dones1:List q9)(codes1:List Int)(sAt1:Int):Option (u5×List Int):=
 some ((u5.mk sAt1 Boxes1 Dones1),codes1)
theorem e5p(r):NF a3w r d6f (fun s=>d0Y s.1 s.2.1 s.2.2.1 s.2.2.2):=fun (Boxes1,Dones1,codes1,sAt1) h=>PK<|rg<|Y2 Boxes1 Dones1 codes1<|fE h
def e87(list:List m4):((List m9)×(List q9)×(List Int)×Int×Int)->KS:=fun (g7,i8,codes,v13,sAt)=>⟨a3w.k 4 [],(bs 2 (.ptr 1 0 0::(bs 1 (.ptr 2 0 0::(.own 5 0 1 0 codes.length::(bs 5 (l7 7 s6 list::(vi (list.length:Int)::(vi v13::(bs 17 [])))))))))),[some [],some [.var 77 [vi 0,.nil,.nil]],some [.var 77 [vi sAt,.own 3 0 2 0 g7.length,.own 4 0 4 0 i8.length]],some [m6 124 2 x7 g7],some [m6 183 4 B9 i8],some [m6 3 1 eI codes]]⟩
def a1u(list:List m4)(g7:List m9)(i8:List q9)(codes:List Int)(v13:Int)(sAt:Int):Option (j7 (u5×List Int) ((List m9)×(List q9)×(List Int)×Int×Int) ((List m9)×(List q9)×(List Int)×Int)):=
 (bif decide (v13<(list.length:Int)) then ((idx list v13).bind fun entry=>((b8B (u5.mk sAt g7 i8) entry).bind fun a7S=>(t5 ((codes.length+1)*8<=140737488355328) (some (j7.nxt (a7S.1.g7,a7S.1.i8,codes++[a7S.2],m7 (v13+1),a7S.1.At)))))) else some (j7.brk (g7,i8,codes,sAt)))
theorem f5t(list):LQ a3w d6f (e87 list) (fun s=>a1u list s.1 s.2.1 s.2.2.1 s.2.2.2.1 s.2.2.2.2):=fun lc (g7,i8,codes,v13,sAt) h=>PK<|rg<|j5 0 h (fun h=>rg<|u0 s6 0 h fun entry E9 h=>rg<|cbS R4 f7m 2 (fun _=>(by simp [R4,L2,R8,O1,V.simple,vi,v6,b4j,x7,B9,eI,F4,a77])) (fun _=>(Q4 2)) h fun a7S h=>C9 g7 i8<|n9<|tk 2 []<|t9 h fun e1 h=>F7 3 25 3 1 8 eI codes a7S.2 e1<|E7 a7S.2<|rg<|(lc.nx h fun hI=>sk [] [2,4,5,11,12,13] [(1,0),(2,0),(13,0),(13,1),(25,0)] hI)) (fun h=>(lc.bk h fun hI=>sk [] [2,4,5] [(1,0),(2,0),(3,0),(4,0),(5,0)] hI))
def a80(list:List m4):Option (u5×List Int):=
 ((b9b).bind fun Q7=>((o7 (fun s:(List m9)×(List q9)×(List Int)×Int×Int=>a1u list s.1 s.2.1 s.2.2.1 s.2.2.2.1 s.2.2.2.2) (Q7.g7,Q7.i8,[],0,Q7.At)).bind fun x=>x.go (fun r=>some r) fun s=>d0Y s.1 s.2.1 s.2.2.1 s.2.2.2))
theorem c1d{list}:OK a3w [l7 7 s6 list] (a80 list):=
 o8 _ fun r h=>n9<|j9 d5K f5C 0 h fun Q7 h=>n9<|lp (f5t list) h (fun _ h=>a3w.rt h) (e5p r) fun hI=>sk [.own (.tmp 5) 3 1] [2,4,5,11,12,13] [(1,0),(4,0),(3,0),(3,1),(10,0)] hI
def c7v:FS (u5):=⟨38,Tryz.f38,[.val [none,some 2,some 4] [none,some 124,none]],[none],[.val [some 7] []],fun r=>.agg (b2E r),fun _=>[none],Tryz.func38⟩
def b1X(list:List m4):Option u5:=
 ((b0z list).bind fun G4=>(bif (!G4) then some (u5.mk 0 [] []) else ((a80 list).bind fun p6=>some p6.1)))
theorem d77{list}:OK c7v [l7 7 s6 list] (b1X list):=
 o8 _ fun r h=>n9<|j9 a5J c6g 1 h fun G4 h=>j5 2 h (fun h=>rg<|fE h) (fun h=>rg<|j9 a3w c1d 1 h fun p6 h=>rg<|C9 p6.1.g7 p6.1.i8<|fE h)
def d1r:FS (u5):=⟨140,Tryz.f140,[.val [none,some 2,some 4] []],[none],[.val A8 []],fun r=>.agg (a77 r),fun _=>[none],Tryz.func140⟩
def c0y(n:j6):Option u5:=
 ((a4d n).bind fun D8=>(bif (!D8) then some (u5.mk 0 [] []) else ((b1X n.a6).bind fun a05=>some a05)))
theorem f6U{n}:OK d1r [.agg (x6 n)] (c0y n):=
 o8 _ fun r h=>n9<|j9 a04 a8Z 1 h fun D8 h=>j5 2 h (fun h=>rg<|fE h) (fun h=>rg<|j9 c7v d77 2 h fun a05 h=>s8 a05.g7<|fE h)
def a51:FS (Int):=⟨183,Tryz.f183,[.val [] []],[none,none],[.val O8 [],.val [] []],fun r=>vi r,fun _=>[none,none],Tryz.func183⟩
def c8A:Unit->KS:=fun _=>⟨a51.k 3 [false],(bs 21 []),[some []]⟩
def d50:Option Int:=
 some (-1)
theorem f3q(r):NF a51 r c8A (fun s=>d50):=fun _ h=>PK<|rg<|fE h
def e7t(r_:n7)(box:Int):Int->KS:=fun v10=>⟨a51.k 2 [],(bs 1 (vi box::(bs 6 (l7 2 w9 r_.b7::(vi (r_.b7.length:Int)::(vi v10::(bs 10 []))))))),[some []]⟩
def b3m(r_:n7)(box:Int)(v10:Int):Option (j7 Int Int Unit):=
 (bif decide (v10<(r_.b7.length:Int)) then ((idx r_.b7 v10).bind fun put=>(bif (put.i5==box) then some (j7.ret v10) else some (j7.nxt (m7 (v10+1))))) else some (j7.brk ()))
theorem f08(r_ box):LQ a51 c8A (e7t r_ box) (fun s=>b3m r_ box s):=fun lc v10 h=>PK<|rg<|j5 0 h (fun h=>rg<|u0 w9 1 h fun put hput h=>rg<|j5 3 h (fun h=>rg<|fL lc h) (fun h=>rg<|(lc.nx h fun hI=>sk [] [1,8,9,10] [] hI))) (fun h=>(lc.bk h fun hI=>sk [] [] [] hI))
def b2d(r_:n7)(box:Int):Option Int:=
 ((o7 (fun s:Int=>b3m r_ box s) 0).bind fun x=>x.go (fun r=>some r) fun s=>d50)
theorem c9Z{r_ box}:OK a51 [.agg (R9 r_),vi box] (b2d r_ box):=
 o8 _ fun r h=>n9<|lp (f08 r_ box) h (fun _ h=>a51.rt h) (f3q r) fun hI=>sk [] [1,8,9,10] [] hI
def a9p:FS (Int):=⟨184,Tryz.f184,[.val [] []],[none,none],[.val O8 [],.val [] []],fun r=>vi r,fun _=>[none,none],Tryz.func184⟩
def d01:Unit->KS:=fun _=>⟨a9p.k 3 [false],(bs 21 []),[some []]⟩
def d6F:Option Int:=
 some (-1)
theorem e3J(r):NF a9p r d01 (fun s=>d6F):=fun _ h=>PK<|rg<|fE h
def e3c(r_:n7)(box:Int):Int->KS:=fun v10=>⟨a9p.k 2 [],(bs 1 (vi box::(bs 6 (l7 2 w8 r_.b5::(vi (r_.b5.length:Int)::(vi v10::(bs 10 []))))))),[some []]⟩
def b4a(r_:n7)(box:Int)(v10:Int):Option (j7 Int Int Unit):=
 (bif decide (v10<(r_.b5.length:Int)) then ((idx r_.b5 v10).bind fun read=>(bif (read.i5==box) then some (j7.ret v10) else some (j7.nxt (m7 (v10+1))))) else some (j7.brk ()))
theorem e4x(r_ box):LQ a9p d01 (e3c r_ box) (fun s=>b4a r_ box s):=fun lc v10 h=>PK<|rg<|j5 0 h (fun h=>rg<|u0 w8 1 h fun read a4r h=>rg<|j5 3 h (fun h=>rg<|fL lc h) (fun h=>rg<|(lc.nx h fun hI=>sk [] [1,8,9,10] [] hI))) (fun h=>(lc.bk h fun hI=>sk [] [] [] hI))
def b5a(r_:n7)(box:Int):Option Int:=
 ((o7 (fun s:Int=>b4a r_ box s) 0).bind fun x=>x.go (fun r=>some r) fun s=>d6F)
theorem e0g{r_ box}:OK a9p [.agg (R9 r_),vi box] (b5a r_ box):=
 o8 _ fun r h=>n9<|lp (e4x r_ box) h (fun _ h=>a9p.rt h) (e3J r) fun hI=>sk [] [1,8,9,10] [] hI
def R0:FS (n7):=⟨128,Tryz.f128,[.val O8 []],[none,none],[.val [some 2] [],.val [some 4] []],fun r=>.agg (R9 r),fun _=>[none,none],Tryz.func128⟩
def a8y:((List r9)×(List p8)×(List Int)×(List r9)×List p8)->KS:=fun (Reads2,Puts2,regs1,Reads3,Puts3)=>⟨R0.k 6 [false,false],(bs 4 (.ptr 1 0 0::(.ptr 4 0 0::(.ptr 5 0 0::(bs 175 []))))),[some [],some [.var 50 [.own 2 0 2 0 Reads2.length,.own 3 0 2 0 Puts2.length,vi 0,vi 0]],some [m6 153 2 w8 Reads2],some [m6 156 2 w9 Puts2],some [.arr 188 1 4 (regs1.map eI)],some [.var 50 [.own 6 0 2 0 Reads3.length,.own 7 0 2 0 Puts3.length,vi 0,vi 0]],some [m6 153 2 w8 Reads3],some [m6 156 2 w9 Puts3]]⟩
def b2j(Reads2:List r9)(Puts2:List p8)(regs1:List Int)(Reads3:List r9)(Puts3:List p8):Option n7:=
 ((a3j Reads3).bind fun read=>((a8i Puts3).bind fun put=>((idx regs1 0).bind fun y=>(t5 ((0:Int)<4) (some (n7.mk read put y 0))))))
theorem e5H(r):NF R0 r a8y (fun s=>b2j s.1 s.2.1 s.2.2.1 s.2.2.2.1 s.2.2.2.2):=fun (Reads2,Puts2,regs1,Reads3,Puts3) h=>PK<|rg<|cbS a2w b1b 2 (fun _=>(by simp [a2w,L2,R8,O1,V.simple,vi,v6,eI,w8])) (fun _=>(Q4 1)) h fun read h=>s8 Reads3<|cbS c0R c7C 5 (fun _=>(by simp [c0R,L2,R8,O1,V.simple,vi,v6,eI,w9])) (fun _=>(Q4 1)) h fun put h=>s8 Puts3<|B0 h fun y hy h=>t9 h fun e1 h=>ob (P5 hy)<|ob e1<|ob (V5 (enc:=eI) hy)<|tl (tr 7 (eI y))<|C9 read put<|fE h
def b0W(list:List m9)(prog:List n8):((List Int)×(List r9)×(List p8)×(List r9)×(List p8)×Int)->KS:=fun (regs,b5,b7,Reads1,Puts1,at_)=>⟨R0.k 5 [false],(l7 2 x7 list::(l7 4 A6 prog::(bs 2 (.ptr 1 0 0::(.ptr 2 0 0::(.ptr 3 0 0::(vi at_::(bs 174 [])))))))),[some [],some [.var 50 [.own 4 0 2 0 b5.length,.own 5 0 2 0 b7.length,vi 0,vi 0]],some [.arr 188 1 4 (regs.map eI)],some [.var 50 [.own 6 0 2 0 Reads1.length,.own 7 0 2 0 Puts1.length,vi 0,vi 0]],some [m6 153 2 w8 b5],some [m6 156 2 w9 b7],some [m6 153 2 w8 Reads1],some [m6 156 2 w9 Puts1]]⟩
def c8R(list:List m9)(prog:List n8)(regs:List Int)(b5:List r9)(b7:List p8)(Reads1:List r9)(Puts1:List p8)(at_:Int)(ins:n8)(put1:p8):Unit->KS:=fun _=>⟨R0.k 14 [false,true,true,true,false],(l7 2 x7 list::(l7 4 A6 prog::(bs 2 (.ptr 1 0 0::(.ptr 4 0 0::(.ptr 5 0 0::(vi at_::(bs 174 [])))))))),[some [],some [.var 50 [.own 2 0 2 0 b5.length,.own 3 0 2 0 b7.length,vi 0,vi 0]],some [m6 153 2 w8 b5],some [m6 156 2 w9 b7],some [.arr 188 1 4 ((regs.set ins.A.toNat put1.d8).map eI)],some [.var 50 [.own 6 0 2 0 Reads1.length,.own 7 0 2 0 Puts1.length,vi 0,vi 0]],some [m6 153 2 w8 Reads1],some [m6 156 2 w9 Puts1]]⟩
def c4X(regs:List Int)(b5:List r9)(b7:List p8)(Reads1:List r9)(Puts1:List p8)(at_:Int)(ins:n8)(put1:p8):Option (j7 n7 ((List Int)×(List r9)×(List p8)×(List r9)×(List p8)×Int) ((List r9)×(List p8)×(List Int)×(List r9)×List p8)):=
 some (j7.nxt (regs.set ins.A.toNat put1.d8,b5,b7,Reads1,Puts1,m7 (at_+1)))
theorem e7s(list prog regs b5 b7 Reads1 Puts1 at_ ins put1)(lc:D4 R0 a8y (b0W list prog)):NL lc (c8R list prog regs b5 b7 Reads1 Puts1 at_ ins put1) (fun s=>c4X regs b5 b7 Reads1 Puts1 at_ ins put1):=fun _ h=>PK<|rg<|(lc.nx h fun hI=>sk [] [0,1,4,5,6,7] [(1,0),(4,0),(5,0),(2,0),(3,0),(6,0),(7,0)] hI)
def e9d(list:List m9)(prog:List n8)(regs:List Int)(b5:List r9)(b7:List p8)(Reads1:List r9)(Puts1:List p8)(at_:Int)(ins:n8)(put1:p8):Int->KS:=fun a7x=>⟨R0.k 13 [false,true,true,true],(l7 2 x7 list::(l7 4 A6 prog::(bs 2 (.ptr 1 0 0::(.ptr 4 0 0::(.ptr 5 0 0::(vi at_::(bs 153 (.agg ((regs.set ins.A.toNat put1.d8).map eI).flatten::(vi a7x::(bs 19 []))))))))))),[some [],some [.var 50 [.own 2 0 2 0 b5.length,.own 3 0 2 0 b7.length,vi 0,vi 0]],some [m6 153 2 w8 b5],some [m6 156 2 w9 b7],some [.arr 188 1 4 ((regs.set ins.A.toNat put1.d8).map eI)],some [.var 50 [.own 6 0 2 0 Reads1.length,.own 7 0 2 0 Puts1.length,vi 0,vi 0]],some [m6 153 2 w8 Reads1],some [m6 156 2 w9 Puts1]]⟩
def b2i(regs:List Int)(Reads1:List r9)(ins:n8)(put1:p8)(a7x:Int):Option (j7 n7 Int Unit):=
 (bif decide (a7x<4) then ((idx (regs.set ins.A.toNat put1.d8) a7x).bind fun y2=>(t5 (a7x<4) (((D7 y2 (-1000000) 1000000).bind fun in_=>(bif (!in_) then ((a3j Reads1).bind fun T2=>some (j7.ret (n7.mk T2 [] 0 2))) else some (j7.nxt (m7 (a7x+1)))))))) else some (j7.brk ()))
theorem f7P(list prog regs b5 b7 Reads1 Puts1 at_ ins put1):LQ R0 (c8R list prog regs b5 b7 Reads1 Puts1 at_ ins put1) (e9d list prog regs b5 b7 Reads1 Puts1 at_ ins put1) (fun s=>b2i regs Reads1 ins put1 s):=fun lc a7x h=>PK<|rg<|j5 0 h (fun h=>rg<|B0 h fun y2 hy2 h=>t9 h fun e3 h=>ob (P5 hy2)<|ob e3<|om (((regs.set ins.A.toNat put1.d8).map eI).flatten[a7x.toNat]?=some (vi y2)) (c43 (fun _=>rfl) hy2)<|tl (0,{a:=.val (vi y2)})<|rg<|j9 D5 G0 1 h fun in_ h=>j5 2 h (fun h=>rg<|cbS a2w b1b 2 (fun _=>(by simp [a2w,L2,R8,O1,V.simple,vi,v6,eI,w8])) (fun _=>(Q4 1)) h fun T2 h=>C9 Reads1 T2<|fL lc h) (fun h=>rg<|(lc.nx h fun hI=>om (V.agg (((regs.set ins.A.toNat put1.d8).map eI).flatten.map (W7 [(1,0),(2,0),(3,0),(4,0),(5,0),(6,0),(7,0)]))=.agg ((regs.set ins.A.toNat put1.d8).map eI).flatten) (congrArg V.agg (a79 (fun _=>rfl) _))<|skT [] [0,1,4,5,6,7,161,162] [(1,0),(2,0),(3,0),(4,0),(5,0),(6,0),(7,0)] [(161,.agg ((regs.set ins.A.toNat put1.d8).map eI).flatten)] hI))) (fun h=>(lc.bk h fun hI=>sk [] [0,1,4,5,6,7] [(1,0),(2,0),(3,0),(4,0),(5,0),(6,0),(7,0)] hI))
def e34(list:List m9)(prog:List n8)(regs:List Int)(b5:List r9)(b7:List p8)(Puts1:List p8)(at_:Int)(ins:n8):(List r9)->KS:=fun Reads4=>⟨R0.k 13 [false,true,true,false,true],(l7 2 x7 list::(l7 4 A6 prog::(bs 2 (.ptr 1 0 0::(.ptr 4 0 0::(.ptr 5 0 0::(vi at_::(.ptr 8 0 0::(bs 173 []))))))))),[some [],some [.var 50 [.own 2 0 2 0 b5.length,.own 3 0 2 0 b7.length,vi 0,vi 0]],some [m6 153 2 w8 b5],some [m6 156 2 w9 b7],some [.arr 188 1 4 (regs.map eI)],some [.var 50 [.own 6 0 2 0 Reads4.length,.own 7 0 2 0 Puts1.length,vi 0,vi 0]],some [m6 153 2 w8 Reads4],some [m6 156 2 w9 Puts1],some [.var 98 [vi ins.a9,vi ins.A,vi ins.B,vi ins.N]]]⟩
def d5h(list:List m9)(prog:List n8)(regs:List Int)(b5:List r9)(b7:List p8)(Puts1:List p8)(at_:Int)(ins:n8)(Reads4:List r9)(box:m9):Unit->KS:=fun _=>⟨R0.k 16 [false,true,true,false,true,false],(l7 2 x7 list::(l7 4 A6 prog::(bs 2 (.ptr 1 0 0::(.ptr 4 0 0::(.ptr 5 0 0::(vi at_::(bs 174 [])))))))),[some [],some [.var 50 [.own 2 0 2 0 b5.length,.own 3 0 2 0 b7.length,vi 0,vi 0]],some [m6 153 2 w8 b5],some [m6 156 2 w9 b7],some [.arr 188 1 4 ((regs.set ins.A.toNat box.d8).map eI)],some [.var 50 [.own 6 0 2 0 Reads4.length,.own 7 0 2 0 Puts1.length,vi 0,vi 0]],some [m6 153 2 w8 Reads4],some [m6 156 2 w9 Puts1]]⟩
def b9Q(regs:List Int)(b5:List r9)(b7:List p8)(Puts1:List p8)(at_:Int)(ins:n8)(Reads4:List r9)(box:m9):Option (j7 n7 ((List Int)×(List r9)×(List p8)×(List r9)×(List p8)×Int) ((List r9)×(List p8)×(List Int)×(List r9)×List p8)):=
 some (j7.nxt (regs.set ins.A.toNat box.d8,b5,b7,Reads4,Puts1,m7 (at_+1)))
theorem d9P(list prog regs b5 b7 Puts1 at_ ins Reads4 box)(lc:D4 R0 a8y (b0W list prog)):NL lc (d5h list prog regs b5 b7 Puts1 at_ ins Reads4 box) (fun s=>b9Q regs b5 b7 Puts1 at_ ins Reads4 box):=fun _ h=>PK<|rg<|(lc.nx h fun hI=>sk [] [0,1,4,5,6,7] [(1,0),(4,0),(5,0),(2,0),(3,0),(6,0),(7,0)] hI)
def f3I(list:List m9)(prog:List n8)(regs:List Int)(b5:List r9)(b7:List p8)(Puts1:List p8)(at_:Int)(ins:n8)(Reads4:List r9)(box:m9):Int->KS:=fun a62=>⟨R0.k 15 [false,true,true,false,true],(l7 2 x7 list::(l7 4 A6 prog::(bs 2 (.ptr 1 0 0::(.ptr 4 0 0::(.ptr 5 0 0::(vi at_::(bs 153 (.agg ((regs.set ins.A.toNat box.d8).map eI).flatten::(vi a62::(bs 19 []))))))))))),[some [],some [.var 50 [.own 2 0 2 0 b5.length,.own 3 0 2 0 b7.length,vi 0,vi 0]],some [m6 153 2 w8 b5],some [m6 156 2 w9 b7],some [.arr 188 1 4 ((regs.set ins.A.toNat box.d8).map eI)],some [.var 50 [.own 6 0 2 0 Reads4.length,.own 7 0 2 0 Puts1.length,vi 0,vi 0]],some [m6 153 2 w8 Reads4],some [m6 156 2 w9 Puts1]]⟩
def b3T(regs:List Int)(ins:n8)(Reads4:List r9)(box:m9)(a62:Int):Option (j7 n7 Int Unit):=
 (bif decide (a62<4) then ((idx (regs.set ins.A.toNat box.d8) a62).bind fun y4=>(t5 (a62<4) (((D7 y4 (-1000000) 1000000).bind fun in_1=>(bif (!in_1) then ((a3j Reads4).bind fun c2l=>some (j7.ret (n7.mk c2l [] 0 2))) else some (j7.nxt (m7 (a62+1)))))))) else some (j7.brk ()))
theorem f4q(list prog regs b5 b7 Puts1 at_ ins Reads4 box):LQ R0 (d5h list prog regs b5 b7 Puts1 at_ ins Reads4 box) (f3I list prog regs b5 b7 Puts1 at_ ins Reads4 box) (fun s=>b3T regs ins Reads4 box s):=fun lc a62 h=>PK<|rg<|j5 0 h (fun h=>rg<|B0 h fun y4 hy4 h=>t9 h fun e5 h=>ob (P5 hy4)<|ob e5<|om (((regs.set ins.A.toNat box.d8).map eI).flatten[a62.toNat]?=some (vi y4)) (c43 (fun _=>rfl) hy4)<|tl (0,{a:=.val (vi y4)})<|rg<|j9 D5 G0 1 h fun in_1 h=>j5 2 h (fun h=>rg<|cbS a2w b1b 2 (fun _=>(by simp [a2w,L2,R8,O1,V.simple,vi,v6,eI,w8])) (fun _=>(Q4 1)) h fun c2l h=>C9 Reads4 c2l<|fL lc h) (fun h=>rg<|(lc.nx h fun hI=>om (V.agg (((regs.set ins.A.toNat box.d8).map eI).flatten.map (W7 [(1,0),(2,0),(3,0),(4,0),(5,0),(6,0),(7,0)]))=.agg ((regs.set ins.A.toNat box.d8).map eI).flatten) (congrArg V.agg (a79 (fun _=>rfl) _))<|skT [] [0,1,4,5,6,7,161,162] [(1,0),(2,0),(3,0),(4,0),(5,0),(6,0),(7,0)] [(161,.agg ((regs.set ins.A.toNat box.d8).map eI).flatten)] hI))) (fun h=>(lc.bk h fun hI=>sk [] [0,1,4,5,6,7] [(1,0),(2,0),(3,0),(4,0),(5,0),(6,0),(7,0)] hI))
def c0V(list:List m9)(regs:List Int)(b5:List r9)(b7:List p8)(Puts1:List p8)(at_:Int)(ins:n8)(Reads4:List r9):Option (j7 n7 ((List Int)×(List r9)×(List p8)×(List r9)×(List p8)×Int) ((List r9)×(List p8)×(List Int)×(List r9)×List p8)):=
 ((idx list ins.B).bind fun box=>((idx regs ins.A).bind fun y3=>(t5 (ins.A<4) (((o7 (fun s:Int=>b3T regs ins Reads4 box s) 0).bind fun x=>x.go (fun r=>some (j7.ret r)) fun s=>b9Q regs b5 b7 Puts1 at_ ins Reads4 box)))))
theorem f2T(list prog regs b5 b7 Puts1 at_ ins)(lc:D4 R0 a8y (b0W list prog)):NL lc (e34 list prog regs b5 b7 Puts1 at_ ins) (fun s=>c0V list regs b5 b7 Puts1 at_ ins s):=fun Reads4 h=>PK<|rg<|u0 x7 5 h fun box a11 h=>B0 h fun y3 hy3 h=>t9 h fun e4 h=>ob (P5 hy3)<|ob e4<|om (s9.arr 188 1 4 ((regs.map eI).set (ins.A.toNat) [vi box.d8])=s9.arr 188 1 4 ((regs.set ins.A.toNat box.d8).map eI)) (a9h rfl)<|ob (V5 (enc:=eI) hy3)<|tl (9,{a:=.rowck (eI y3) [],e:=some (.arr 188 1 4 ((regs.set ins.A.toNat box.d8).map eI))})<|rg<|om (4*1=4) rfl<|lp (f4q list prog regs b5 b7 Puts1 at_ ins Reads4 box) h (fun _ h=>lc.rt h) (d9P list prog regs b5 b7 Puts1 at_ ins Reads4 box lc) fun hI=>om (V.agg (((regs.set ins.A.toNat box.d8).map eI).flatten.map (W7 [(1,0),(2,0),(3,0),(4,0),(5,0),(6,0),(7,0)]))=.agg ((regs.set ins.A.toNat box.d8).map eI).flatten) (congrArg V.agg (a79 (fun _=>rfl) _))<|skT [] [0,1,4,5,6,7,161,162] [(1,0),(2,0),(3,0),(4,0),(5,0),(6,0),(7,0)] [(161,.agg ((regs.set ins.A.toNat box.d8).map eI).flatten)] hI
def f3r(list:List m9)(prog:List n8)(b5:List r9)(b7:List p8)(Reads1:List r9):((List Int)×(List p8)×Int)->KS:=fun (regs2,Puts4,at_1)=>⟨R0.k 13 [false,true,false,true,true],(l7 2 x7 list::(l7 4 A6 prog::(bs 2 (.ptr 1 0 0::(.ptr 4 0 0::(.ptr 5 0 0::(vi at_1::(bs 174 [])))))))),[some [],some [.var 50 [.own 2 0 2 0 b5.length,.own 3 0 2 0 b7.length,vi 0,vi 0]],some [m6 153 2 w8 b5],some [m6 156 2 w9 b7],some [.arr 188 1 4 (regs2.map eI)],some [.var 50 [.own 6 0 2 0 Reads1.length,.own 7 0 2 0 Puts4.length,vi 0,vi 0]],some [m6 153 2 w8 Reads1],some [m6 156 2 w9 Puts4]]⟩
def d3K(list:List m9)(prog:List n8)(b5:List r9)(b7:List p8)(Reads1:List r9)(regs2:List Int)(Puts4:List p8)(at_1:Int):Unit->KS:=fun _=>⟨R0.k 15 [false,true,false,true,true,false],(l7 2 x7 list::(l7 4 A6 prog::(bs 2 (.ptr 1 0 0::(.ptr 4 0 0::(.ptr 5 0 0::(vi at_1::(bs 174 [])))))))),[some [],some [.var 50 [.own 2 0 2 0 b5.length,.own 3 0 2 0 b7.length,vi 0,vi 0]],some [m6 153 2 w8 b5],some [m6 156 2 w9 b7],some [.arr 188 1 4 (regs2.map eI)],some [.var 50 [.own 6 0 2 0 Reads1.length,.own 7 0 2 0 Puts4.length,vi 0,vi 0]],some [m6 153 2 w8 Reads1],some [m6 156 2 w9 Puts4]]⟩
def b3W(b5:List r9)(b7:List p8)(Reads1:List r9)(regs2:List Int)(Puts4:List p8)(at_1:Int):Option (j7 n7 ((List Int)×(List r9)×(List p8)×(List r9)×(List p8)×Int) ((List r9)×(List p8)×(List Int)×(List r9)×List p8)):=
 some (j7.nxt (regs2,b5,b7,Reads1,Puts4,m7 (at_1+1)))
theorem d9j(list prog b5 b7 Reads1 regs2 Puts4 at_1)(lc:D4 R0 a8y (b0W list prog)):NL lc (d3K list prog b5 b7 Reads1 regs2 Puts4 at_1) (fun s=>b3W b5 b7 Reads1 regs2 Puts4 at_1):=fun _ h=>PK<|rg<|(lc.nx h fun hI=>sk [] [0,1,4,5,6,7] [(1,0),(4,0),(5,0),(2,0),(3,0),(6,0),(7,0)] hI)
def e94(list:List m9)(prog:List n8)(b5:List r9)(b7:List p8)(Reads1:List r9)(regs2:List Int)(Puts4:List p8)(at_1:Int):Int->KS:=fun a7q=>⟨R0.k 14 [false,true,false,true,true],(l7 2 x7 list::(l7 4 A6 prog::(bs 2 (.ptr 1 0 0::(.ptr 4 0 0::(.ptr 5 0 0::(vi at_1::(bs 153 (.agg (regs2.map eI).flatten::(vi a7q::(bs 19 []))))))))))),[some [],some [.var 50 [.own 2 0 2 0 b5.length,.own 3 0 2 0 b7.length,vi 0,vi 0]],some [m6 153 2 w8 b5],some [m6 156 2 w9 b7],some [.arr 188 1 4 (regs2.map eI)],some [.var 50 [.own 6 0 2 0 Reads1.length,.own 7 0 2 0 Puts4.length,vi 0,vi 0]],some [m6 153 2 w8 Reads1],some [m6 156 2 w9 Puts4]]⟩
def b2q(Reads1:List r9)(regs2:List Int)(a7q:Int):Option (j7 n7 Int Unit):=
 (bif decide (a7q<4) then ((idx regs2 a7q).bind fun y5=>(t5 (a7q<4) (((D7 y5 (-1000000) 1000000).bind fun in_2=>(bif (!in_2) then ((a3j Reads1).bind fun c4c=>some (j7.ret (n7.mk c4c [] 0 2))) else some (j7.nxt (m7 (a7q+1)))))))) else some (j7.brk ()))
theorem e9i(list prog b5 b7 Reads1 regs2 Puts4 at_1):LQ R0 (d3K list prog b5 b7 Reads1 regs2 Puts4 at_1) (e94 list prog b5 b7 Reads1 regs2 Puts4 at_1) (fun s=>b2q Reads1 regs2 s):=fun lc a7q h=>PK<|rg<|j5 0 h (fun h=>rg<|B0 h fun y5 hy5 h=>t9 h fun e7 h=>ob (P5 hy5)<|ob e7<|om ((regs2.map eI).flatten[a7q.toNat]?=some (vi y5)) (c43 (fun _=>rfl) hy5)<|tl (0,{a:=.val (vi y5)})<|rg<|j9 D5 G0 1 h fun in_2 h=>j5 2 h (fun h=>rg<|cbS a2w b1b 2 (fun _=>(by simp [a2w,L2,R8,O1,V.simple,vi,v6,eI,w8])) (fun _=>(Q4 1)) h fun c4c h=>C9 Reads1 c4c<|fL lc h) (fun h=>rg<|(lc.nx h fun hI=>om (V.agg ((regs2.map eI).flatten.map (W7 [(1,0),(2,0),(3,0),(4,0),(5,0),(6,0),(7,0)]))=.agg (regs2.map eI).flatten) (congrArg V.agg (a79 (fun _=>rfl) _))<|skT [] [0,1,4,5,6,7,161,162] [(1,0),(2,0),(3,0),(4,0),(5,0),(6,0),(7,0)] [(161,.agg (regs2.map eI).flatten)] hI))) (fun h=>(lc.bk h fun hI=>sk [] [0,1,4,5,6,7] [(1,0),(2,0),(3,0),(4,0),(5,0),(6,0),(7,0)] hI))
def b1w(b5:List r9)(b7:List p8)(Reads1:List r9)(regs2:List Int)(Puts4:List p8)(at_1:Int):Option (j7 n7 ((List Int)×(List r9)×(List p8)×(List r9)×(List p8)×Int) ((List r9)×(List p8)×(List Int)×(List r9)×List p8)):=
 ((o7 (fun s:Int=>b2q Reads1 regs2 s) 0).bind fun x=>x.go (fun r=>some (j7.ret r)) fun s=>b3W b5 b7 Reads1 regs2 Puts4 at_1)
theorem e2g(list prog b5 b7 Reads1)(lc:D4 R0 a8y (b0W list prog)):NL lc (f3r list prog b5 b7 Reads1) (fun s=>b1w b5 b7 Reads1 s.1 s.2.1 s.2.2):=fun (regs2,Puts4,at_1) h=>PK<|rg<|om (4*1=4) rfl<|lp (e9i list prog b5 b7 Reads1 regs2 Puts4 at_1) h (fun _ h=>lc.rt h) (d9j list prog b5 b7 Reads1 regs2 Puts4 at_1 lc) fun hI=>om (V.agg ((regs2.map eI).flatten.map (W7 [(1,0),(2,0),(3,0),(4,0),(5,0),(6,0),(7,0)]))=.agg (regs2.map eI).flatten) (congrArg V.agg (a79 (fun _=>rfl) _))<|skT [] [0,1,4,5,6,7,161,162] [(1,0),(2,0),(3,0),(4,0),(5,0),(6,0),(7,0)] [(161,.agg (regs2.map eI).flatten)] hI
def a3J(list:List m9)(prog:List n8)(regs:List Int)(b5:List r9)(b7:List p8)(Reads1:List r9)(Puts1:List p8)(at_:Int):Option (j7 n7 ((List Int)×(List r9)×(List p8)×(List r9)×(List p8)×Int) ((List r9)×(List p8)×(List Int)×(List r9)×List p8)):=
 (bif decide (at_<(prog.length:Int)) then ((idx prog at_).bind fun ins=>(bif (ins.a9==1) then ((b2d (n7.mk Reads1 Puts1 0 0) ins.B).bind fun W2=>(bif decide (W2>=0) then ((idx Puts1 W2).bind fun put1=>((idx regs ins.A).bind fun y1=>(t5 (ins.A<4) (((o7 (fun s:Int=>b2i regs Reads1 ins put1 s) 0).bind fun x=>x.go (fun r=>some (j7.ret r)) fun s=>c4X regs b5 b7 Reads1 Puts1 at_ ins put1))))) else ((((b5a (n7.mk Reads1 Puts1 0 0) ins.B).bind fun d8d=>(bif decide (d8d<0) then ((idx list ins.B).bind fun P8=>(t5 ((Reads1.length+1)*16<=140737488355328) (some (l9.brk (Reads1++[(r9.mk ins.B P8.j4)]))))) else some (l9.brk Reads1))):Option (l9 (j7 n7 ((List Int)×(List r9)×(List p8)×(List r9)×(List p8)×Int) ((List r9)×(List p8)×(List Int)×(List r9)×List p8)) (List r9))).bind fun x=>x.go some fun j=>c0V list regs b5 b7 Puts1 at_ ins j))) else (((bif (ins.a9==2) then ((b2d (n7.mk Reads1 Puts1 0 0) ins.A).bind fun b0L=>(bif decide (b0L>=0) then ((idx regs ins.B).bind fun y6=>(t5 (ins.B<4) (((idx Puts1 b0L).bind fun put2=>some (l9.brk (regs,Puts1.set b0L.toNat (p8.mk put2.i5 y6),at_)))))) else ((idx regs ins.B).bind fun y7=>(t5 (ins.B<4) ((t5 ((Puts1.length+1)*16<=140737488355328) (some (l9.brk (regs,Puts1++[(p8.mk ins.A y7)],at_))))))))) else (bif (ins.a9==3) then ((idx regs ins.A).bind fun y8=>(t5 (ins.A<4) (some (l9.brk (regs.set ins.A.toNat ins.N,Puts1,at_))))) else (bif (ins.a9==4) then ((idx regs ins.A).bind fun y9=>(t5 (ins.A<4) (((idx regs ins.B).bind fun y10=>(t5 (ins.B<4) ((t5 (ins.A<4) (some (l9.brk (regs.set ins.A.toNat (m7 (y9+y10)),Puts1,at_)))))))))) else (bif (ins.a9==5) then ((idx regs ins.A).bind fun y11=>(t5 (ins.A<4) (((idx regs ins.B).bind fun y12=>(t5 (ins.B<4) ((t5 (ins.A<4) (some (l9.brk (regs.set ins.A.toNat (m7 (y11-y12)),Puts1,at_)))))))))) else (bif (ins.a9==6) then ((idx regs ins.A).bind fun y13=>(t5 (ins.A<4) (((idx regs ins.B).bind fun y14=>(t5 (ins.B<4) ((bif decide (y13<y14) then some (l9.brk (regs,Puts1,m7 (at_+ins.N))) else some (l9.brk (regs,Puts1,at_))))))))) else (bif (ins.a9==7) then ((a3j Reads1).bind fun c3C=>some (l9.ret (j7.ret (n7.mk c3C [] 0 1)))) else some (l9.brk (regs,Puts1,at_)))))))):Option (l9 (j7 n7 ((List Int)×(List r9)×(List p8)×(List r9)×(List p8)×Int) ((List r9)×(List p8)×(List Int)×(List r9)×List p8)) ((List Int)×(List p8)×Int))).bind fun x=>x.go some fun j=>b1w b5 b7 Reads1 j.1 j.2.1 j.2.2))) else some (j7.brk (b5,b7,regs,Reads1,Puts1)))
set_option maxRecDepth 20000 in
theorem f2c(list prog):LQ R0 a8y (b0W list prog) (fun s=>a3J list prog s.1 s.2.1 s.2.2.1 s.2.2.2.1 s.2.2.2.2.1 s.2.2.2.2.2):=fun lc (regs,b5,b7,Reads1,Puts1,at_) h=>PK<|rg<|j5 3 h (fun h=>rg<|u0 A6 2 h fun ins hins h=>n9<|j5 1 h (fun h=>rg<|R3 a51 c9Z 3 2 h fun W2 h=>C9 Reads1 Puts1<|rg<|j5 1 h (fun h=>rg<|B0 h fun put1 b26 h=>C0 b26<|I6 w9 7 b26<|B0 h fun y1 hy1 h=>t9 h fun e2 h=>ob (P5 hy1)<|ob e2<|om (s9.arr 188 1 4 ((regs.map eI).set (ins.A.toNat) [vi put1.d8])=s9.arr 188 1 4 ((regs.set ins.A.toNat put1.d8).map eI)) (a9h rfl)<|ob (V5 (enc:=eI) hy1)<|tl (9,{a:=.rowck (eI y1) [],e:=some (.arr 188 1 4 ((regs.set ins.A.toNat put1.d8).map eI))})<|rg<|om (4*1=4) rfl<|lp (f7P list prog regs b5 b7 Reads1 Puts1 at_ ins put1) h (fun _ h=>lc.rt h) (e7s list prog regs b5 b7 Reads1 Puts1 at_ ins put1 lc) fun hI=>om (V.agg (((regs.set ins.A.toNat put1.d8).map eI).flatten.map (W7 [(1,0),(4,0),(5,0),(2,0),(3,0),(6,0),(7,0)]))=.agg ((regs.set ins.A.toNat put1.d8).map eI).flatten) (congrArg V.agg (a79 (fun _=>rfl) _))<|skT [] [0,1,4,5,6,7,161,162] [(1,0),(4,0),(5,0),(2,0),(3,0),(6,0),(7,0)] [(161,.agg ((regs.set ins.A.toNat put1.d8).map eI).flatten)] hI) (fun h=>A4 h (f2T list prog regs b5 b7 Puts1 at_ ins lc) fun x2 h hc2=>rg<|R3 a9p e0g 3 2 h fun d8d h=>C9 Reads1 Puts1<|j5 4 h (fun h=>rg<|u0 x7 7 h fun P8 a7u h=>tk 11 []<|t9 h fun e6 h=>F7 12 46 153 2 16 w8 Reads1 (r9.mk ins.B P8.j4) e6<|E7 (r9.mk ins.B P8.j4)<|(o9 h hc2 fun hI=>sk [] [0,1,4,5,6,7,8] [(1,0),(4,0),(5,0),(2,0),(3,0),(46,0),(7,0),(16,0)] hI)) (fun h=>(o9 h hc2 fun hI=>sk [] [0,1,4,5,6,7,8] [(1,0),(4,0),(5,0),(2,0),(3,0),(6,0),(7,0),(16,0)] hI)))) (fun h=>A4 h (e2g list prog b5 b7 Reads1 lc) fun x2 h hc2=>rg<|j5 1 h (fun h=>rg<|R3 a51 c9Z 3 2 h fun b0L h=>C9 Reads1 Puts1<|rg<|j5 1 h (fun h=>rg<|B0 h fun y6 hy6 h=>t9 h fun e8 h=>ob (P5 hy6)<|ob e8<|ob (V5 (enc:=eI) hy6)<|tl (tr 6 (eI y6))<|B0 h fun put2 d7i h=>C0 d7i<|Q6 156 2 w9 9 [] (p8.mk put2.i5 y6) d7i<|(o9 h hc2 fun hI=>om ((.own 7 0 2 0 Puts1.length:V)=.own 7 0 2 0 (Puts1.set b0L.toNat (p8.mk put2.i5 y6)).length) (by simp)<|sk [.is (.cell 3 0 1) (.own 7 0 2 0 (Puts1.set b0L.toNat (p8.mk put2.i5 y6)).length)] [0,1,4,5,6,7] [(1,0),(4,0),(5,0),(2,0),(3,0),(6,0),(7,0)] hI)) (fun h=>rg<|B0 h fun y7 hy7 h=>t9 h fun e9 h=>ob (P5 hy7)<|ob e9<|ob (V5 (enc:=eI) hy7)<|tl (tr 7 (eI y7))<|tk 9 []<|t9 h fun e10 h=>F7 10 41 156 2 16 w9 Puts1 (p8.mk ins.A y7) e10<|E7 (p8.mk ins.A y7)<|(o9 h hc2 fun hI=>sk [] [0,1,4,5,6,7] [(1,0),(4,0),(5,0),(2,0),(3,0),(6,0),(41,0)] hI))) (fun h=>rg<|j5 1 h (fun h=>rg<|B0 h fun y8 hy8 h=>t9 h fun e11 h=>ob (P5 hy8)<|ob e11<|om (s9.arr 188 1 4 ((regs.map eI).set (ins.A.toNat) [vi ins.N])=s9.arr 188 1 4 ((regs.set ins.A.toNat ins.N).map eI)) (a9h rfl)<|ob (V5 (enc:=eI) hy8)<|tl (5,{a:=.rowck (eI y8) [],e:=some (.arr 188 1 4 ((regs.set ins.A.toNat ins.N).map eI))})<|(o9 h hc2 fun hI=>sk [] [0,1,4,5,6,7] [(1,0),(4,0),(5,0),(2,0),(3,0),(6,0),(7,0)] hI)) (fun h=>rg<|j5 1 h (fun h=>rg<|B0 h fun y9 hy9 h=>t9 h fun e12 h=>ob (P5 hy9)<|ob e12<|ob (V5 (enc:=eI) hy9)<|tl (tr 3 (eI y9))<|B0 h fun y10 d1P h=>t9 h fun e13 h=>ob (P5 d1P)<|ob e13<|ob (V5 (enc:=eI) d1P)<|tl (tr 7 (eI y10))<|t9 h fun e14 h=>ob (P5 hy9)<|ob e14<|om (s9.arr 188 1 4 ((regs.map eI).set (ins.A.toNat) [vi (m7 (y9+y10))])=s9.arr 188 1 4 ((regs.set ins.A.toNat (m7 (y9+y10))).map eI)) (a9h rfl)<|ob (V5 (enc:=eI) hy9)<|tl (10,{a:=.rowck (eI y9) [],e:=some (.arr 188 1 4 ((regs.set ins.A.toNat (m7 (y9+y10))).map eI))})<|(o9 h hc2 fun hI=>sk [] [0,1,4,5,6,7] [(1,0),(4,0),(5,0),(2,0),(3,0),(6,0),(7,0)] hI)) (fun h=>rg<|j5 1 h (fun h=>rg<|B0 h fun y11 c0Z h=>t9 h fun e15 h=>ob (P5 c0Z)<|ob e15<|ob (V5 (enc:=eI) c0Z)<|tl (tr 3 (eI y11))<|B0 h fun y12 c8g h=>t9 h fun e16 h=>ob (P5 c8g)<|ob e16<|ob (V5 (enc:=eI) c8g)<|tl (tr 7 (eI y12))<|t9 h fun e17 h=>ob (P5 c0Z)<|ob e17<|om (s9.arr 188 1 4 ((regs.map eI).set (ins.A.toNat) [vi (m7 (y11-y12))])=s9.arr 188 1 4 ((regs.set ins.A.toNat (m7 (y11-y12))).map eI)) (a9h rfl)<|ob (V5 (enc:=eI) c0Z)<|tl (10,{a:=.rowck (eI y11) [],e:=some (.arr 188 1 4 ((regs.set ins.A.toNat (m7 (y11-y12))).map eI))})<|(o9 h hc2 fun hI=>sk [] [0,1,4,5,6,7] [(1,0),(4,0),(5,0),(2,0),(3,0),(6,0),(7,0)] hI)) (fun h=>rg<|j5 1 h (fun h=>rg<|B0 h fun y13 d2E h=>t9 h fun e18 h=>ob (P5 d2E)<|ob e18<|ob (V5 (enc:=eI) d2E)<|tl (tr 3 (eI y13))<|B0 h fun y14 d7S h=>t9 h fun e19 h=>ob (P5 d7S)<|ob e19<|ob (V5 (enc:=eI) d7S)<|tl (tr 7 (eI y14))<|j5 8 h (fun h=>rg<|(o9 h hc2 fun hI=>sk [] [0,1,4,5,6,7] [(1,0),(4,0),(5,0),(2,0),(3,0),(6,0),(7,0)] hI)) (fun h=>(o9 h hc2 fun hI=>sk [] [0,1,4,5,6,7] [(1,0),(4,0),(5,0),(2,0),(3,0),(6,0),(7,0)] hI))) (fun h=>rg<|j5 1 h (fun h=>rg<|cbS a2w b1b 2 (fun _=>(by simp [a2w,L2,R8,O1,V.simple,vi,v6,eI,w8])) (fun _=>(Q4 1)) h fun c3C h=>s8 Reads1<|(B8 h hc2 fun h=>s8 c3C<|fL lc h)) (fun h=>(o9 h hc2 fun hI=>sk [] [0,1,4,5,6,7] [(1,0),(4,0),(5,0),(2,0),(3,0),(6,0),(7,0)] hI))))))))) (fun h=>(lc.bk h fun hI=>sk [] [4,5,6] [(1,0),(4,0),(5,0),(2,0),(3,0),(6,0),(7,0)] hI))
def b2t(list:List m9)(prog:List n8):Option n7:=
 ((a6h list).bind fun S4=>(bif (!S4) then some (n7.mk [] [] 0 3) else ((a71 prog).bind fun E4=>(bif (!E4) then some (n7.mk [] [] 0 3) else ((o7 (fun s:(List Int)×(List r9)×(List p8)×(List r9)×(List p8)×Int=>a3J list prog s.1 s.2.1 s.2.2.1 s.2.2.2.1 s.2.2.2.2.1 s.2.2.2.2.2) (f8O 4 (0:Int),[],[],[],[],0)).bind fun x=>x.go (fun r=>some r) fun s=>b2j s.1 s.2.1 s.2.2.1 s.2.2.2.1 s.2.2.2.2)))))
theorem d7o{list prog}:OK R0 [l7 2 x7 list,l7 4 A6 prog] (b2t list prog):=
 o8 _ fun r h=>n9<|j9 a20 b3t 1 h fun S4 h=>j5 3 h (fun h=>rg<|fE h) (fun h=>j9 a3W b6u 5 h fun E4 h=>j5 7 h (fun h=>rg<|fE h) (fun h=>rg<|om ((f8O 4 ([vi 0]:List V)).flatten=[vi 0,vi 0,vi 0,vi 0]/\([vi 0]:List V).length=1) ⟨rfl,rfl⟩<|n9<|lp (f2c list prog) h (fun _ h=>R0.rt h) (e5H r) fun hI=>sk [.own (.cell 1 0 0) 153 2,.own (.cell 1 0 1) 156 2,.own (.cell 12 0 0) 153 2,.own (.cell 12 0 1) 156 2] [0,1,4,5,6,7] [(1,0),(10,0),(12,0),(15,0),(16,0),(17,0),(18,0)] hI))
def a15:FS (Int):=⟨39,Tryz.f39,[.val [] []],[none,none],[.val [some 7] [],.val [] []],fun r=>vi r,fun _=>[none,none],Tryz.func39⟩
def c5j:Unit->KS:=fun _=>⟨a15.k 3 [false],(bs 25 []),[some []]⟩
def d2F:Option Int:=
 some (-1)
theorem e6O(r):NF a15 r c5j (fun s=>d2F):=fun _ h=>PK<|rg<|fE h
def d1V(list:List m4)(q:n5):Int->KS:=fun v9=>⟨a15.k 2 [],(bs 3 (.ptr 1 0 0::(bs 3 (l7 7 s6 list::(vi (list.length:Int)::(vi v9::(bs 15 []))))))),[some [],some [.var 46 [vi q.b9,vi q.Seq]]]⟩
def e08(list:List m4)(q:n5)(v9:Int):Unit->KS:=fun _=>⟨a15.k 5 [true,false],(bs 3 (.ptr 1 0 0::(bs 3 (l7 7 s6 list::(vi (list.length:Int)::(vi v9::(bs 15 []))))))),[some [],some [.var 46 [vi q.b9,vi q.Seq]]]⟩
def c57(v9:Int):Option (j7 Int Int Unit):=
 some (j7.nxt (m7 (v9+1)))
theorem f2r(list q v9)(lc:D4 a15 c5j (d1V list q)):NL lc (e08 list q v9) (fun s=>c57 v9):=fun _ h=>PK<|rg<|(lc.nx h fun hI=>sk [] [3,7,8,9] [(1,0)] hI)
def b0x(list:List m4)(q:n5)(v9:Int):Option (j7 Int Int Unit):=
 (bif decide (v9<(list.length:Int)) then ((idx list v9).bind fun entry=>(((bif (!entry.i7) then (bif (([entry.a5.b9,entry.a5.Seq]:List Int)==[q.b9,q.Seq]) then some (l9.ret (j7.ret v9)) else some (l9.brk ())) else some (l9.brk ())):Option (l9 (j7 Int Int Unit) Unit)).bind fun x=>x.go some fun j=>c57 v9)) else some (j7.brk ()))
theorem e1k(list q):LQ a15 c5j (d1V list q) (fun s=>b0x list q s):=fun lc v9 h=>PK<|rg<|j5 0 h (fun h=>rg<|u0 s6 1 h fun entry E9 h=>A4 h (f2r list q v9 lc) fun x2 h hc2=>rg<|j5 3 h (fun h=>j5 8 h (fun h=>rg<|(B8 h hc2 fun h=>fL lc h)) (fun h=>(o9 h hc2 fun hI=>sk [] [3,7,8,9] [(1,0)] hI))) (fun h=>(o9 h hc2 fun hI=>sk [] [3,7,8,9] [(1,0)] hI))) (fun h=>(lc.bk h fun hI=>sk [] [] [] hI))
def a6E(list:List m4)(q:n5):Option Int:=
 ((o7 (fun s:Int=>b0x list q s) 0).bind fun x=>x.go (fun r=>some r) fun s=>d2F)
theorem b2e{list q}:OK a15 [l7 7 s6 list,.agg (F4 q)] (a6E list q):=
 o8 _ fun r h=>n9<|lp (e1k list q) h (fun _ h=>a15.rt h) (e6O r) fun hI=>sk [] [3,7,8,9] [(1,0)] hI
def c6Q:FS (Bool×p7):=⟨192,Tryz.f192,[.val [] []],[some (0,.ptr J4 M2),none],[.ptr J4 M2,.val [] []],fun r=>.b r.1,fun r=>[some (.optr 168 (M0 r.2)),none],Tryz.func192⟩
def b3Q(a:p7)(q:n5):Option (Bool×p7):=
 ((a6E a.n.a6 q).bind fun first=>some (decide (first>=0),a))
theorem d8L{a q}:OK c6Q [.optr 168 (M0 a),.agg (F4 q)] (b3Q a q):=
 o8 _ fun r h=>n9<|R3 a15 b2e 6 2 h fun first h=>s8 a.n.a6<|D2 a<|fE h
def a0x:FS (m4×Bool×p7):=⟨187,Tryz.f187,[.val J5 [],.val [] []],[some (0,.ptr J4 M2)],[.ptr J4 M2],fun r=>.tup [.agg (s6 r.1),.b r.2.1],fun r=>[some (.optr 168 (M0 r.2.2))],Tryz.func187⟩
def f4s(a:p7):Unit->KS:=fun _=>⟨a0x.k 3 [false],(.ptr 0 0 0::(bs 1 (.ptr 1 0 0::(bs 1 (vi (a.n.a6.length:Int)::(bs 112 [])))))),[some ([.var 168 (c1X a)]++c5s a),some [.var 52 [.b false,vi 0,vi 0,.nil,.nil,vi 0,vi 0]]]⟩
def d6M(a:p7):Unit->KS:=fun _=>⟨a0x.k 5 [false,false],(.ptr 0 0 0::(bs 1 (.ptr 1 0 0::(bs 114 [])))),[some ([.var 168 (c1X a)]++c5s a),some [.var 52 [.b false,vi 0,vi 0,.nil,.nil,vi 0,vi 0]]]⟩
def f7x:p7->KS:=fun a1=>⟨a0x.k 6 [false,false,false],(.ptr 0 0 0::(bs 1 (.ptr 6 0 0::(bs 114 [])))),[some [.var 168 (b3V a1),.dead,.dead,.dead,.dead,.dead]]++a2W a1++[some [.var 52 [.b false,vi 0,vi 0,.nil,.nil,vi 0,vi 0]]]⟩
def c8o:p7->KS:=fun w=>⟨a0x.k 7 [false,false,false,false],(bs 2 (.ptr 6 0 0::(bs 114 []))),[some [.var 168 (b3V w),.dead,.dead,.dead,.dead,.dead]]++a2W w++[some [.var 52 [.b false,vi 0,vi 0,.nil,.nil,vi 0,vi 0]]]⟩
def d3X(w:p7):Option (m4×Bool×p7):=
 some ((m4.mk false (n5.mk 0 0) (n7.mk [] [] 0 0)),false,w)
theorem e7V(r):NF a0x r c8o (fun s=>d3X s):=fun w h=>PK<|rg<|D2 w<|fE h
def f8D:p7->KS:=fun a2=>⟨a0x.k 6 [false,false,false],(.ptr 0 0 0::(bs 1 (.ptr 6 0 0::(bs 114 [])))),[some [.var 168 (b3V a2),.dead,.dead,.dead,.dead,.dead]]++a2W a2++[some [.var 52 [.b false,vi 0,vi 0,.nil,.nil,vi 0,vi 0]]]⟩
def a5j(a2:p7):Option (j7 (m4×Bool×p7) p7 p7):=
 (bif decide ((a2.n.f0.length:Int)>0) then ((idx a2.n.f0 0).bind fun entry=>(t5 ((0:Int)<=1/\1<=(a2.n.f0.length:Int)) (((b3Q (p7.mk (j6.mk a2.n.Id a2.n.Acc a2.n.a6 a2.n.Seq a2.n.d6 a2.n.a8 a2.n.c9 a2.n.i4 a2.n.c8 a2.n.a7 a2.n.i9 a2.n.i6 a2.n.b8 ((a2.n.f0.drop (1:Int).toNat).take (a2.n.f0.length-(1:Int).toNat))) a2.out a2.told) entry.a5).bind fun b31=>(bif (!b31.1) then some (j7.ret (entry,true,b31.2)) else some (j7.nxt b31.2)))))) else some (j7.brk a2))
theorem f7l:LQ a0x c8o f8D (fun s=>a5j s):=fun lc a2 h=>PK<|rg<|j5 6 h (fun h=>rg<|u0 s6 5 h fun entry E9 h=>rg<|t9 h fun e1 h=>om (V.sl 7 (a2.n.f0.length-(1:Int).toNat) (((a2.n.f0.map s6).drop (1:Int).toNat).take (a2.n.f0.length-(1:Int).toNat))=l7 7 s6 ((a2.n.f0.drop (1:Int).toNat).take (a2.n.f0.length-(1:Int).toNat))) (b33 e1)<|ob e1.1<|ob e1.2<|tl (6,{v:=some (l7 7 s6 ((a2.n.f0.drop (1:Int).toNat).take (a2.n.f0.length-(1:Int).toNat)))})<|rg<|j9 c6Q d8L 3 h fun b31 h=>D2 a2<|j5 4 h (fun h=>rg<|D2 b31.2<|fL lc h) (fun h=>(lc.nx h fun hI=>sk [] [0,2] [(37,0),(37,1),(37,2),(37,3),(37,4),(6,0)] hI))) (fun h=>(lc.bk h fun hI=>sk [] [2] [(1,0),(2,0),(3,0),(4,0),(5,0),(6,0)] hI))
def b7G(a1:p7):Option (m4×Bool×p7):=
 ((o7 (fun s:p7=>a5j s) a1).bind fun x=>x.go (fun r=>some r) fun s=>d3X s)
theorem e4E(r):NF a0x r f7x (fun s=>b7G s):=fun a1 h=>PK<|lp (f7l) h (fun _ h=>a0x.rt h) (e7V r) fun hI=>sk [] [0,2] [(1,0),(2,0),(3,0),(4,0),(5,0),(6,0)] hI
def c5a(a:p7):Option (m4×Bool×p7):=
 (((bif a.n.i9 then ((b3Q a a.n.b8.a5).bind fun b0c=>(bif (!b0c.1) then some (l9.ret (b0c.2.n.b8,true,b0c.2)) else some (l9.brk b0c.2))) else some (l9.brk a)):Option (l9 (m4×Bool×p7) p7)).bind fun x=>x.go some fun j=>b7G j)
theorem f8s(a)(r):NF a0x r (d6M a) (fun s=>c5a a):=fun _ h=>PK<|A4 h (e4E r) fun x1 h hc1=>rg<|j5 5 h (fun h=>j9 c6Q d8L 13 h fun b0c h=>D2 a<|j5 15 h (fun h=>rg<|(B8 h hc1 fun h=>D2 b0c.2<|fE h)) (fun h=>(o9 h hc1 fun hI=>sk [] [0,2] [(15,0),(15,1),(15,2),(15,3),(15,4),(1,0)] hI))) (fun h=>(o9 h hc1 fun hI=>sk [] [0,2] [(0,1),(0,2),(0,3),(0,4),(0,5),(1,0)] hI))
def d9B(a:p7):Int->KS:=fun i=>⟨a0x.k 4 [false],(.ptr 0 0 0::(bs 1 (.ptr 1 0 0::(bs 2 (vi i::(bs 111 [])))))),[some ([.var 168 (c1X a)]++c5s a),some [.var 52 [.b false,vi 0,vi 0,.nil,.nil,vi 0,vi 0]]]⟩
def a47(a:p7)(i:Int):Option (j7 (m4×Bool×p7) Int Unit):=
 (bif decide (i<(a.n.i4.length:Int)) then ((idx a.n.i4 i).bind fun vote=>(bif (vote.a8 != 0) then some (j7.ret ((m4.mk true (n5.mk 0 0) (n7.mk [] [] 0 0)),true,a)) else some (j7.nxt (m7 (i+1))))) else some (j7.brk ()))
theorem d9X(a):LQ a0x (d6M a) (d9B a) (fun s=>a47 a s):=fun lc i h=>PK<|rg<|j5 7 h (fun h=>rg<|u0 q8 6 h fun vote K8 h=>j5 9 h (fun h=>rg<|D2 a<|fL lc h) (fun h=>rg<|(lc.nx h fun hI=>sk [] [0,2,5] [(1,0)] hI))) (fun h=>(lc.bk h fun hI=>sk [] [0,2] [(1,0)] hI))
def b6X(a:p7):Option (m4×Bool×p7):=
 ((o7 (fun s:Int=>a47 a s) (m7 ((a.n.a6.length:Int)+1))).bind fun x=>x.go (fun r=>some r) fun s=>c5a a)
theorem e3B(a)(r):NF a0x r (f4s a) (fun s=>b6X a):=fun _ h=>PK<|rg<|lp (d9X a) h (fun _ h=>a0x.rt h) (f8s a r) fun hI=>sk [] [0,2,5] [(1,0)] hI
def c0S(a:p7):Option (m4×Bool×p7):=
 (((bif decide ((a.n.a6.length:Int)<(a.n.i4.length:Int)) then ((idx a.n.i4 (a.n.a6.length:Int)).bind fun S6=>(bif (S6.a8 != 0) then some (l9.ret (S6.g9,true,a)) else some (l9.brk ()))) else some (l9.brk ())):Option (l9 (m4×Bool×p7) Unit)).bind fun x=>x.go some fun j=>b6X a)
theorem e4O{a}:OK a0x [.optr 168 (M0 a)] (c0S a):=
 o8 _ fun r h=>n9<|A4 h (e3B a r) fun x1 h hc1=>rg<|j5 8 h (fun h=>u0 q8 15 h fun S6 a4k h=>j5 19 h (fun h=>rg<|I1 q8 6 a4k<|(B8 h hc1 fun h=>D2 a<|fE h)) (fun h=>(o9 h hc1 fun hI=>sk [] [0,2,4] [(1,0)] hI))) (fun h=>(o9 h hc1 fun hI=>sk [] [0,2,4] [(1,0)] hI))
def d3M:FS (z0×Bool):=⟨145,Tryz.f145,[.val [none,some 8] [none,some 61],.val [] []],[none,none],[.val [none,some 8] [],.val [] []],fun r=>.tup [.agg [vi r.1.i0,v6 61 8 q8 r.1.a7],.b r.2],fun _=>[none,none],Tryz.func145⟩
def c6k(a:z0)(bal:Int):Option (z0×Bool):=
 ((a9N a).bind fun O2=>(bif (!O2) then some ((z0.mk 0 []),false) else ((a5f a).bind fun R5=>((D7 bal 1 3000).bind fun in_=>(bif (!in_) then some (R5,false) else (bif decide (bal<a.i0) then some (R5,false) else some ((z0.mk bal R5.a7),true)))))))
theorem e3n{a bal}:OK d3M [.agg (a0Z a),vi bal] (c6k a bal):=
 o8 _ fun r h=>n9<|j9 a5E c6M 1 h fun O2 h=>j5 2 h (fun h=>rg<|fE h) (fun h=>rg<|j9 a9d b1K 1 h fun R5 h=>rg<|j9 D5 G0 1 h fun in_ h=>j5 3 h (fun h=>rg<|s8 R5.a7<|fE h) (fun h=>j5 8 h (fun h=>rg<|s8 R5.a7<|fE h) (fun h=>n9<|s8 R5.a7<|fE h)))
def a6U:FS (z0×Bool):=⟨188,Tryz.f188,[.val [none,some 8] [],.val [] []],[none,none,none,none],[.val [none,some 8] [],.val [] [],.val [] [],.val J5 []],fun r=>.tup [.agg (a0Z r.1),.b r.2],fun _=>[none,none,none,none],Tryz.func188⟩
def c8F(bal:Int)(slot:Int)(e_:m4)(o:z0×Bool):(List m8)->KS:=fun Z0=>⟨a6U.k 5 [false,false,false],(bs 1 (vi bal::(vi slot::(bs 4 (.ptr 1 0 0::(.ptr 2 0 0::(bs 1 (.ptr 3 0 0::(bs 40 []))))))))),[some [],some [.var 52 (a13 e_)],some [.var 42 [vi 0,.nil]],some [.var 42 [vi o.1.i0,.own 4 0 8 0 Z0.length]],some [m6 61 8 q8 Z0]]⟩
def c1m(bal:Int)(slot:Int)(e_:m4)(o:z0×Bool)(Z0:List m8):Option (z0×Bool):=
 ((idx Z0 slot).bind fun vote=>((a5f (z0.mk o.1.i0 (Z0.set slot.toNat (m8.mk bal e_)))).bind fun c1G=>some (c1G,true)))
theorem e8C(bal slot e_ o)(r):NF a6U r (c8F bal slot e_ o) (fun s=>c1m bal slot e_ o s):=fun Z0 h=>PK<|rg<|B0 h fun vote K8 h=>C0 K8<|Q6 61 8 q8 7 U8 (m8.mk bal e_) K8<|rg<|j9 a9d b1K 1 h fun c1G h=>om (Z0.length=(Z0.set slot.toNat (m8.mk bal e_)).length) (by simp)<|s8 c1G.a7<|fE h
def e5g(bal:Int)(slot:Int)(e_:m4)(o:z0×Bool):(List m8)->KS:=fun a7=>⟨a6U.k 4 [false,false],(bs 1 (vi bal::(vi slot::(bs 4 (.ptr 1 0 0::(.ptr 2 0 0::(bs 1 (.ptr 3 0 0::(bs 40 []))))))))),[some [],some [.var 52 (a13 e_)],some [.var 42 [vi 0,.nil]],some [.var 42 [vi o.1.i0,.own 4 0 8 0 a7.length]],some [m6 61 8 q8 a7]]⟩
def a8n(slot:Int)(a7:List m8):Option (j7 (z0×Bool) (List m8) (List m8)):=
 (bif decide ((a7.length:Int)<=slot) then (t5 ((a7.length+1)*96<=140737488355328) (some (j7.nxt (a7++[(m8.mk 0 (m4.mk false (n5.mk 0 0) (n7.mk [] [] 0 0)))])))) else some (j7.brk a7))
theorem e3s(bal slot e_ o):LQ a6U (c8F bal slot e_ o) (e5g bal slot e_ o) (fun s=>a8n slot s):=fun lc a7 h=>PK<|rg<|j5 4 h (fun h=>rg<|tk 3 U8<|t9 h fun e1 h=>F7 4 14 61 8 96 q8 a7 (m8.mk 0 (m4.mk false (n5.mk 0 0) (n7.mk [] [] 0 0))) e1<|E7 (m8.mk 0 (m4.mk false (n5.mk 0 0) (n7.mk [] [] 0 0)))<|(lc.nx h fun hI=>sk [] [1,2,7,8,10] [(1,0),(2,0),(3,0),(14,0)] hI)) (fun h=>(lc.bk h fun hI=>sk [] [1,2,7,8,10] [(1,0),(2,0),(3,0),(4,0)] hI))
def b5v(a:z0)(bal:Int)(slot:Int)(e_:m4):Option (z0×Bool):=
 ((c6k a bal).bind fun o=>(bif (!o.2) then some (o.1,false) else ((D7 slot 0 39).bind fun in_=>(bif (!in_) then ((a5f a).bind fun R5=>some (R5,false)) else ((a1T e_).bind fun F6=>(bif (!F6) then ((a5f a).bind fun c7f=>some (c7f,false)) else ((o7 (fun s:List m8=>a8n slot s) o.1.a7).bind fun x=>x.go (fun r=>some r) fun s=>c1m bal slot e_ o s)))))))
theorem d5M{a bal slot e_}:OK a6U [.agg (a0Z a),vi bal,vi slot,.agg (s6 e_)] (b5v a bal slot e_):=
 o8 _ fun r h=>n9<|j9 d3M e3n 2 h fun o h=>rg<|j5 1 h (fun h=>rg<|s8 o.1.a7<|fE h) (fun h=>rg<|j9 D5 G0 1 h fun in_ h=>j5 3 h (fun h=>rg<|j9 a9d b1K 1 h fun R5 h=>s8 R5.a7<|fE h) (fun h=>j9 a29 a4A 5 h fun F6 h=>j5 7 h (fun h=>rg<|j9 a9d b1K 1 h fun c7f h=>s8 c7f.a7<|fE h) (fun h=>lp (e3s bal slot e_ o) h (fun _ h=>a6U.rt h) (e8C bal slot e_ o r) fun hI=>sk [] [1,2,7,8,10] [(2,0),(3,0),(11,0),(7,0)] hI)))
def c0f:FS (p7):=⟨144,Tryz.f144,[],[some (0,.ptr J4 M2)],[.ptr J4 M2],fun _=>.tup [],fun r=>[some (.optr 168 (M0 r))],Tryz.func144⟩
def b2X(a:p7):Option p7:=
 some (p7.mk (j6.mk a.n.Id a.n.Acc a.n.a6 a.n.Seq 0 0 [] [] (m4.mk false (n5.mk 0 0) (n7.mk [] [] 0 0)) [] a.n.i9 a.n.i6 a.n.b8 a.n.f0) a.out a.told)
theorem c52{a}:OK c0f [.optr 168 (M0 a)] (b2X a):=
 o8 _ fun r h=>rg4<|n9<|Y2 a.n.a6 a.out a.told<|fE h
def c6i:FS ((List Bool)×p7):=⟨146,Tryz.f146,[.val [some 1] [some 4]],[some (0,.ptr J4 M2)],[.ptr J4 M2],fun r=>v6 4 1 eB r.1,fun r=>[some (.optr 168 (M0 r.2))],Tryz.func146⟩
def b5f(a:p7):Option ((List Bool)×p7):=
 (t5 (0<=(3:Int)/\(3:Int)*1<=140737488355328) (((idx (f8O (3:Int).toNat false) a.n.Id).bind fun y=>some ((f8O (3:Int).toNat false).set a.n.Id.toNat true,a))))
theorem c99{a}:OK c6i [.optr 168 (M0 a)] (b5f a):=
 o8 _ fun r h=>n9<|t9 h fun e1 h=>S8 0 2 4 1 1 eB false ti4 (.none) e1 (by decide) (by rfl)<|rg<|B0 h fun y hy h=>C0 hy<|Q6 4 1 eB 7 [] true hy<|rg<|om ((f8O (3:Int).toNat false).length=((f8O (3:Int).toNat false).set a.n.Id.toNat true).length) (by simp)<|D2 a<|fE h
def a7g:FS (p7):=⟨154,Tryz.f154,[],[some (0,.ptr J4 M2),none,none],[.ptr J4 M2,.val [] [],.val C2 []],fun _=>.tup [],fun r=>[some (.optr 168 (M0 r)),none,none],Tryz.func154⟩
def a4h(a:p7)(to:Int)(m:l8):Option p7:=
 (t5 ((a.out.length+1)*152<=140737488355328) (some (p7.mk a.n (a.out++[(l8.mk m.a9 a.n.Id to m.a8 m.g8 m.g9 m.a7)]) a.told)))
theorem a7I{a to m}:OK a7g [.optr 168 (M0 a),vi to,.agg (t7 m)] (a4h a to m):=
 o8 _ fun r h=>rg4<|tk 6 C2<|t9 h fun e1 h=>F7 7 19 82 13 152 t7 a.out (l8.mk m.a9 a.n.Id to m.a8 m.g8 m.g9 m.a7) e1<|E7 (l8.mk m.a9 a.n.Id to m.a8 m.g8 m.g9 m.a7)<|H8 a.n.a6 a.n.c9 a.n.a7 (a.out++[(l8.mk m.a9 a.n.Id to m.a8 m.g8 m.g9 m.a7)])<|s8 a.told<|fE h
def a09:FS (p7):=⟨142,Tryz.f142,[],[some (0,.ptr J4 M2),none],[.ptr J4 M2,.val C2 []],fun _=>.tup [],fun r=>[some (.optr 168 (M0 r)),none],Tryz.func142⟩
def d7D(m:l8):(Int×p7)->KS:=fun (to,a1)=>⟨a09.k 2 [],(.ptr 0 0 0::(bs 2 (.ptr 1 0 0::(vi to::(bs 15 []))))),[some [.var 168 (d90 a1),.dead,.dead,.dead,.dead,.dead],some [.var 82 (a4I m)]]++f2m a1⟩
def f3z(m:l8)(to:Int):p7->KS:=fun a2=>⟨a09.k 5 [true,true],(.ptr 0 0 0::(bs 2 (.ptr 6 0 0::(vi to::(bs 15 []))))),[some [.var 168 (b3V a2),.dead,.dead,.dead,.dead,.dead]]++a2W a2++[some [.var 82 (a4I m)]]⟩
def c27(to:Int)(a2:p7):Option (j7 p7 (Int×p7) Unit):=
 some (j7.nxt (m7 (to+1),a2))
theorem e0f(m to)(lc:D4 a09 noK (d7D m)):NL lc (f3z m to) (fun s=>c27 to s):=fun a2 h=>PK<|rg<|(lc.nx h fun hI=>sk [] [0,3,4] [(6,0),(5,0),(4,0),(3,0),(2,0),(1,0)] hI)
def a4V(m:l8)(to:Int)(a1:p7):Option (j7 p7 (Int×p7) Unit):=
 (bif decide (to<3) then (((bif (to != a1.n.Id) then ((a4h a1 to m).bind fun Z5=>some (l9.brk Z5)) else some (l9.brk a1)):Option (l9 (j7 p7 (Int×p7) Unit) p7)).bind fun x=>x.go some fun j=>c27 to j) else some (j7.ret a1))
theorem f7Q(m):LQ a09 noK (d7D m) (fun s=>a4V m s.1 s.2):=fun lc (to,a1) h=>PK<|rg<|j5 1 h (fun h=>A4 h (e0f m to lc) fun x2 h hc2=>rg<|j5 6 h (fun h=>rg<|j9 a7g a7I 3 h fun Z5 h=>D2 a1<|(o9 h hc2 fun hI=>sk [] [0,3,4] [(19,0),(19,1),(19,2),(19,3),(19,4),(1,0)] hI)) (fun h=>(o9 h hc2 fun hI=>sk [] [0,3,4] [(6,0),(5,0),(4,0),(3,0),(2,0),(1,0)] hI))) (fun h=>D2 a1<|fL lc h)
def a3a(a:p7)(m:l8):Option p7:=
 ((o7 (fun s:Int×p7=>a4V m s.1 s.2) (0,a)).bind fun x=>x.go (fun r=>some r) fun _=>none)
theorem a61{a m}:OK a09 [.optr 168 (M0 a),.agg (t7 m)] (a3a a m):=
 o8 _ fun r h=>n9<|lp (f7Q m) h (fun _ h=>a09.rt h) (fun _ h=>nomatch h) fun hI=>sk [] [0,3,4] [(1,0),(0,5),(0,4),(0,3),(0,2),(0,1)] hI
def b0H:FS (p7):=⟨141,Tryz.f141,[],[some (0,.ptr J4 M2)],[.ptr J4 M2],fun _=>.tup [],fun r=>[some (.optr 168 (M0 r))],Tryz.func141⟩
def a6a(a:p7):Option p7:=
 (bif (a.n.d6 != 2) then some a else (bif decide ((a.n.a6.length:Int)>=40) then some a else ((c0S a).bind fun next=>(bif (!next.2.1) then some next.2.2 else ((b5v next.2.2.n.Acc next.2.2.n.a8 (next.2.2.n.a6.length:Int) next.1).bind fun a86=>(bif (!a86.2) then ((b2X next.2.2).bind fun follow=>some follow) else ((b5f (p7.mk (j6.mk next.2.2.n.Id a86.1 next.2.2.n.a6 next.2.2.n.Seq next.2.2.n.d6 next.2.2.n.a8 next.2.2.n.c9 next.2.2.n.i4 next.1 next.2.2.n.a7 next.2.2.n.i9 next.2.2.n.i6 next.2.2.n.b8 next.2.2.n.f0) next.2.2.out next.2.2.told)).bind fun F9=>((a3a (p7.mk (j6.mk F9.2.n.Id F9.2.n.Acc F9.2.n.a6 F9.2.n.Seq 3 F9.2.n.a8 F9.2.n.c9 F9.2.n.i4 F9.2.n.c8 F9.1 F9.2.n.i9 F9.2.n.i6 F9.2.n.b8 F9.2.n.f0) F9.2.out F9.2.told) (l8.mk 3 0 0 F9.2.n.a8 (F9.2.n.a6.length:Int) next.1 [])).bind fun all=>some all))))))))
theorem b41{a}:OK b0H [.optr 168 (M0 a)] (a6a a):=
 o8 _ fun r h=>rg<|j5 6 h (fun h=>D2 a<|fE h) (fun h=>j5 14 h (fun h=>D2 a<|fE h) (fun h=>rg<|j9 a0x e4O 1 h fun next h=>D2 a<|rg<|j5 1 h (fun h=>D2 next.2.2<|fE h) (fun h=>rg<|j9 a6U d5M 17 h fun a86 h=>rg<|j5 1 h (fun h=>rg<|j9 c0f c52 1 h fun follow h=>D2 next.2.2<|D2 follow<|fE h) (fun h=>L8<|j9 c6i c99 2 h fun F9 h=>D2 next.2.2<|n9<|j9 a09 a61 14 h fun all h=>H8 F9.2.n.a6 F9.2.n.c9 F9.1 F9.2.out<|s8 F9.2.told<|D2 all<|fE h))))
def b7J:FS (j6×(List l8)×List n6):=⟨96,Tryz.f96,[.val A8 [],.val [some 13] [],.val [some 5] []],[none,none],[.val A8 [],.val [some 4] []],fun r=>.tup [.agg (x6 r.1),l7 13 t7 r.2.1,l7 5 z5 r.2.2],fun _=>[none,none],Tryz.func96⟩
def e8W:p7->KS:=fun a=>⟨b7J.k 11 [false,false,true],(bs 4 (.ptr 1 0 0::(bs 2 (.ptr 2 0 0::(bs 80 []))))),[some [],some [.var 54 [vi 0,vi 0,.nil,.nil,vi 0,vi 0,vi 0,.nil,.nil,.b false,vi 0,vi 0,.nil,.nil,vi 0,vi 0,.nil,.b false,.nil,.b false,vi 0,vi 0,.nil,.nil,vi 0,vi 0,.nil]],some [.var 168 (b37 a)]]++a2W a⟩
def b6N(a:p7):Option (j6×(List l8)×List n6):=
 ((a1N a).bind fun c0t=>some (c0t.1,c0t.2.1,c0t.2.2.1))
theorem f5o(r):NF b7J r e8W (fun s=>b6N s):=fun a h=>PK<|rg<|j9 a4C a5H 1 h fun c0t h=>D2 a<|fE h
def b9k(n:j6)(prog:List n8):Option (j6×(List l8)×List n6):=
 ((a4d n).bind fun D8=>(bif (!D8) then some ((j6.mk 0 (z0.mk 0 []) [] 0 0 0 [] [] (m4.mk false (n5.mk 0 0) (n7.mk [] [] 0 0)) [] false [] (m4.mk false (n5.mk 0 0) (n7.mk [] [] 0 0)) []),[],[]) else ((a7X n).bind fun begin=>(bif n.i9 then ((a1N begin).bind fun X6=>some (X6.1,X6.2.1,X6.2.2.1)) else (bif (n.Seq==1000) then ((a1N begin).bind fun a4P=>some (a4P.1,a4P.2.1,a4P.2.2.1)) else ((a71 prog).bind fun E4=>(bif (!E4) then ((a1N begin).bind fun a5K=>some (a5K.1,a5K.2.1,a5K.2.2.1)) else ((c0y n).bind fun b4q=>((b2t b4q.g7 prog).bind fun B5=>(((bif (n.d6==2) then ((a6a (p7.mk (j6.mk begin.n.Id begin.n.Acc begin.n.a6 (m7 (begin.n.Seq+1)) begin.n.d6 begin.n.a8 begin.n.c9 begin.n.i4 begin.n.c8 begin.n.a7 true prog (m4.mk false (n5.mk n.Id (m7 (begin.n.Seq+1))) B5) begin.n.f0) begin.out begin.told)).bind fun Z3=>some (l9.brk Z3)) else (bif (n.d6==0) then ((a3a (p7.mk (j6.mk begin.n.Id begin.n.Acc begin.n.a6 (m7 (begin.n.Seq+1)) begin.n.d6 begin.n.a8 begin.n.c9 begin.n.i4 begin.n.c8 begin.n.a7 true prog (m4.mk false (n5.mk n.Id (m7 (begin.n.Seq+1))) B5) begin.n.f0) begin.out begin.told) (l8.mk 7 0 0 0 0 (m4.mk false (n5.mk n.Id (m7 (begin.n.Seq+1))) B5) [])).bind fun all=>some (l9.brk all)) else some (l9.brk (p7.mk (j6.mk begin.n.Id begin.n.Acc begin.n.a6 (m7 (begin.n.Seq+1)) begin.n.d6 begin.n.a8 begin.n.c9 begin.n.i4 begin.n.c8 begin.n.a7 true prog (m4.mk false (n5.mk n.Id (m7 (begin.n.Seq+1))) B5) begin.n.f0) begin.out begin.told)))):Option (l9 (j6×(List l8)×List n6) p7)).bind fun x=>x.go some fun j=>b6N j))))))))))
theorem e1N{n prog}:OK b7J [.agg (x6 n),l7 4 A6 prog] (b9k n prog):=
 o8 _ fun r h=>n9<|j9 a04 a8Z 1 h fun D8 h=>j5 2 h (fun h=>rg<|fE h) (fun h=>rg<|j9 b4Y b95 1 h fun begin h=>rg<|j5 2 h (fun h=>rg<|j9 a4C a5H 1 h fun X6 h=>K0 begin.n<|C9 begin.out begin.told<|fE h) (fun h=>j5 7 h (fun h=>rg<|j9 a4C a5H 1 h fun a4P h=>K0 begin.n<|C9 begin.out begin.told<|fE h) (fun h=>j9 a3W b6u 9 h fun E4 h=>j5 11 h (fun h=>rg<|j9 a4C a5H 1 h fun a5K h=>K0 begin.n<|C9 begin.out begin.told<|fE h) (fun h=>rg4<|j9 d1r f6U 10 h fun b4q h=>j9 R0 d7o 13 h fun B5 h=>rg<|A4 h (f5o r) fun x1 h hc1=>rg<|j5 1 h (fun h=>rg<|j9 b0H b41 1 h fun Z3 h=>K0 begin.n<|C9 begin.out begin.told<|(o9 h hc1 fun hI=>sk [] [4,7] [(2,0),(9,0),(68,0),(68,1),(68,2),(68,3),(68,4)] hI)) (fun h=>rg<|j5 1 h (fun h=>rg<|j9 a09 a61 7 h fun all h=>K0 begin.n<|C9 begin.out begin.told<|(o9 h hc1 fun hI=>sk [] [4,7] [(2,0),(9,0),(76,0),(76,1),(76,2),(76,3),(76,4)] hI)) (fun h=>(o9 h hc1 fun hI=>s8 begin.n.f0<|sk [.frz (.cell 9 0 26) (none)] [4,7] [(2,0),(9,0),(9,1),(9,2),(9,3),(9,5),(9,6)] hI)))))))
def U4:FS (m5):=⟨97,Tryz.f97,[.val C3 om2],[none,none,none,none],[.val C3 om2,.val A8 [],.val [some 13] [],.val [some 5] []],fun r=>.agg (a72 r),fun _=>[none,none,none,none],Tryz.func97⟩
def c3E(w:m5)(n:j6)(told:List n6):(List l8)->KS:=fun Net1=>⟨U4.k 4 [false],(bs 3 (l7 5 z5 told::(.ptr 1 0 0::(bs 3 (.ptr 3 0 0::(bs 45 [])))))),[some [m6 54 27 x6 (w.a0.set n.Id.toNat n),.dead,m6 85 3 C1 w.d9,m6 89 5 z5 w.Told],some [.var 28 [.own 0 0 27 0 (w.a0.set n.Id.toNat n).length,.own 2 0 13 0 Net1.length,.own 0 2 3 0 w.d9.length,.own 0 3 5 0 w.Told.length]],some [m6 82 13 t7 Net1],some [.var 28 [.nil,.nil,.nil,.nil]]]⟩
def c3y(w:m5)(n:j6)(Net1:List l8):(List n6)->KS:=fun Told1=>⟨U4.k 6 [false,false],(bs 4 (.ptr 1 0 0::(bs 3 (.ptr 4 0 0::(bs 45 []))))),[some [m6 54 27 x6 (w.a0.set n.Id.toNat n),.dead,m6 85 3 C1 w.d9,.dead],some [.var 28 [.own 0 0 27 0 (w.a0.set n.Id.toNat n).length,.own 2 0 13 0 Net1.length,.own 0 2 3 0 w.d9.length,.own 3 0 5 0 Told1.length]],some [m6 82 13 t7 Net1],some [m6 89 5 z5 Told1],some [.var 28 [.nil,.nil,.nil,.nil]]]⟩
def c3V(w:m5)(n:j6)(Net1:List l8)(Told1:List n6):Option m5:=
 some (m5.mk (w.a0.set n.Id.toNat n) Net1 w.d9 Told1)
theorem f7V(w n Net1)(r):NF U4 r (c3y w n Net1) (fun s=>c3V w n Net1 s):=fun Told1 h=>PK<|rg<|H8 (w.a0.set n.Id.toNat n) Net1 w.d9 Told1<|fE h
def c9c(w:m5)(n:j6)(told:List n6)(Net1:List l8):((List n6)×Int)->KS:=fun (Told,v38)=>⟨U4.k 5 [false],(bs 4 (.ptr 1 0 0::(bs 3 (.ptr 3 0 0::(bs 27 (l7 5 z5 told::(vi (told.length:Int)::(vi v38::(bs 15 []))))))))),[some [m6 54 27 x6 (w.a0.set n.Id.toNat n),.dead,m6 85 3 C1 w.d9,.dead],some [.var 28 [.own 0 0 27 0 (w.a0.set n.Id.toNat n).length,.own 2 0 13 0 Net1.length,.own 0 2 3 0 w.d9.length,.own 4 0 5 0 Told.length]],some [m6 82 13 t7 Net1],some [.var 28 [.nil,.nil,.nil,.nil]],some [m6 89 5 z5 Told]]⟩
def f3X(w:m5)(n:j6)(told:List n6)(Net1:List l8)(v38:Int):(List n6)->KS:=fun Told2=>⟨U4.k 9 [false,true,true],(bs 4 (.ptr 1 0 0::(bs 3 (.ptr 4 0 0::(bs 27 (l7 5 z5 told::(vi (told.length:Int)::(vi v38::(bs 15 []))))))))),[some [m6 54 27 x6 (w.a0.set n.Id.toNat n),.dead,m6 85 3 C1 w.d9,.dead],some [.var 28 [.own 0 0 27 0 (w.a0.set n.Id.toNat n).length,.own 2 0 13 0 Net1.length,.own 0 2 3 0 w.d9.length,.own 3 0 5 0 Told2.length]],some [m6 82 13 t7 Net1],some [m6 89 5 z5 Told2],some [.var 28 [.nil,.nil,.nil,.nil]]]⟩
def c0T(v38:Int)(Told2:List n6):Option (j7 m5 ((List n6)×Int) (List n6)):=
 some (j7.nxt (Told2,m7 (v38+1)))
theorem e0q(w n told Net1 v38)(lc:D4 U4 (c3y w n Net1) (c9c w n told Net1)):NL lc (f3X w n told Net1 v38) (fun s=>c0T v38 s):=fun Told2 h=>PK<|rg<|(lc.nx h fun hI=>sk [] [4,8,36,37,38] [(1,0),(2,0),(4,0),(3,0)] hI)
def a31(told:List n6)(Told:List n6)(v38:Int):Option (j7 m5 ((List n6)×Int) (List n6)):=
 (bif decide (v38<(told.length:Int)) then ((idx told v38).bind fun a6u=>(((bif decide ((Told.length:Int)<60) then (t5 ((Told.length+1)*40<=140737488355328) (some (l9.brk (Told++[a6u])))) else some (l9.brk Told)):Option (l9 (j7 m5 ((List n6)×Int) (List n6)) (List n6))).bind fun x=>x.go some fun j=>c0T v38 j)) else some (j7.brk Told))
theorem f06(w n told Net1):LQ U4 (c3y w n Net1) (c9c w n told Net1) (fun s=>a31 told s.1 s.2):=fun lc (Told,v38) h=>PK<|rg<|j5 0 h (fun h=>rg<|u0 z5 0 h fun a6u e9B h=>A4 h (e0q w n told Net1 v38 lc) fun x2 h hc2=>rg<|j5 3 h (fun h=>rg<|tk 3 []<|t9 h fun e1 h=>F7 4 18 89 5 40 z5 Told a6u e1<|E7 a6u<|(o9 h hc2 fun hI=>sk [] [4,8,36,37,38] [(1,0),(2,0),(18,0),(3,0)] hI)) (fun h=>(o9 h hc2 fun hI=>sk [] [4,8,36,37,38] [(1,0),(2,0),(4,0),(3,0)] hI))) (fun h=>(lc.bk h fun hI=>sk [] [4,8] [(1,0),(2,0),(4,0),(3,0)] hI))
def c3h(w:m5)(n:j6)(told:List n6)(Net1:List l8):Option m5:=
 ((o7 (fun s:(List n6)×Int=>a31 told s.1 s.2) (w.Told,0)).bind fun x=>x.go (fun r=>some r) fun s=>c3V w n Net1 s)
theorem e1p(w n told)(r):NF U4 r (c3E w n told) (fun s=>c3h w n told s):=fun Net1 h=>PK<|rg<|lp (f06 w n told Net1) h (fun _ h=>U4.rt h) (f7V w n Net1 r) fun hI=>sk [] [4,8,36,37,38] [(1,0),(2,0),(3,0),(0,3)] hI
def d68(w:m5)(n:j6)(list:List l8)(told:List n6):((List l8)×Int)->KS:=fun (d7,v21)=>⟨U4.k 3 [],(bs 3 (l7 5 z5 told::(.ptr 1 0 0::(bs 3 (.ptr 2 0 0::(bs 10 (l7 13 t7 list::(vi (list.length:Int)::(vi v21::(bs 32 [])))))))))),[some [m6 54 27 x6 (w.a0.set n.Id.toNat n),.dead,m6 85 3 C1 w.d9,m6 89 5 z5 w.Told],some [.var 28 [.own 0 0 27 0 (w.a0.set n.Id.toNat n).length,.own 3 0 13 0 d7.length,.own 0 2 3 0 w.d9.length,.own 0 3 5 0 w.Told.length]],some [.var 28 [.nil,.nil,.nil,.nil]],some [m6 82 13 t7 d7]]⟩
def f6w(w:m5)(n:j6)(list:List l8)(told:List n6)(v21:Int):(List l8)->KS:=fun Net2=>⟨U4.k 7 [true,true],(bs 3 (l7 5 z5 told::(.ptr 1 0 0::(bs 3 (.ptr 3 0 0::(bs 10 (l7 13 t7 list::(vi (list.length:Int)::(vi v21::(bs 32 [])))))))))),[some [m6 54 27 x6 (w.a0.set n.Id.toNat n),.dead,m6 85 3 C1 w.d9,m6 89 5 z5 w.Told],some [.var 28 [.own 0 0 27 0 (w.a0.set n.Id.toNat n).length,.own 2 0 13 0 Net2.length,.own 0 2 3 0 w.d9.length,.own 0 3 5 0 w.Told.length]],some [m6 82 13 t7 Net2],some [.var 28 [.nil,.nil,.nil,.nil]]]⟩
def b8g(v21:Int)(Net2:List l8):Option (j7 m5 ((List l8)×Int) (List l8)):=
 some (j7.nxt (Net2,m7 (v21+1)))
theorem f2q(w n list told v21)(lc:D4 U4 (c3E w n told) (d68 w n list told)):NL lc (f6w w n list told v21) (fun s=>b8g v21 s):=fun Net2 h=>PK<|rg<|(lc.nx h fun hI=>sk [] [3,4,8,19,20,21] [(1,0),(3,0),(2,0)] hI)
def a4a(list:List l8)(d7:List l8)(v21:Int):Option (j7 m5 ((List l8)×Int) (List l8)):=
 (bif decide (v21<(list.length:Int)) then ((idx list v21).bind fun msg=>(((bif decide ((d7.length:Int)<40) then (t5 ((d7.length+1)*152<=140737488355328) (some (l9.brk (d7++[msg])))) else some (l9.brk d7)):Option (l9 (j7 m5 ((List l8)×Int) (List l8)) (List l8))).bind fun x=>x.go some fun j=>b8g v21 j)) else some (j7.brk d7))
theorem e00(w n list told):LQ U4 (c3E w n told) (d68 w n list told) (fun s=>a4a list s.1 s.2):=fun lc (d7,v21) h=>PK<|rg<|j5 0 h (fun h=>rg<|u0 t7 0 h fun msg hmsg h=>A4 h (f2q w n list told v21 lc) fun x2 h hc2=>rg<|j5 3 h (fun h=>rg<|tk 3 C2<|t9 h fun e2 h=>F7 4 17 82 13 152 t7 d7 msg e2<|E7 msg<|(o9 h hc2 fun hI=>sk [] [3,4,8,19,20,21] [(1,0),(17,0),(2,0)] hI)) (fun h=>(o9 h hc2 fun hI=>sk [] [3,4,8,19,20,21] [(1,0),(3,0),(2,0)] hI))) (fun h=>(lc.bk h fun hI=>sk [] [3,4,8] [(1,0),(3,0),(2,0)] hI))
def a5G(w:m5)(n:j6)(list:List l8)(told:List n6):Option m5:=
 ((idx w.a0 n.Id).bind fun node=>((o7 (fun s:(List l8)×Int=>a4a list s.1 s.2) (w.d7,0)).bind fun x=>x.go (fun r=>some r) fun s=>c3h w n told s))
theorem a91{w n list told}:OK U4 [.agg (a72 w),.agg (x6 n),l7 13 t7 list,l7 5 z5 told] (a5G w n list told):=
 o8 _ fun r h=>n9<|B0 h fun node hnode h=>C0 hnode<|Q6 54 27 x6 6 A8 n hnode<|rg<|lp (e00 w n list told) h (fun _ h=>U4.rt h) (e1p w n told r) fun hI=>om ((.own 0 0 27 0 w.a0.length:V)=.own 0 0 27 0 (w.a0.set n.Id.toNat n).length) (by simp)<|sk [.is (.cell 1 0 0) (.own 0 0 27 0 (w.a0.set n.Id.toNat n).length)] [3,4,8,19,20,21] [(1,0),(3,0),(0,1)] hI
def a7L:FS (Int):=⟨143,Tryz.f143,[.val [] []],[none,none],[.val [] [],.val [] []],fun r=>vi r,fun _=>[none,none],Tryz.func143⟩
def d2g:Unit->KS:=fun _=>⟨a7L.k 4 [false,false],(bs 28 []),[some []]⟩
def d6W:Option Int:=
 some (-1)
theorem e8Y(r):NF a7L r d2g (fun s=>d6W):=fun _ h=>PK<|rg<|fE h
def e9c(who:Int):Int->KS:=fun n=>⟨a7L.k 3 [false],(bs 1 (vi who::(bs 3 (vi n::(bs 22 []))))),[some []]⟩
def a2A(who:Int)(n:Int):Option (j7 Int Int Unit):=
 (bif decide (n<=3000) then (bif decide (n>0) then ((b4x n).bind fun a7r=>(bif (a7r==who) then some (j7.ret n) else some (j7.nxt (m7 (n+1))))) else some (j7.brk ())) else some (j7.brk ()))
theorem f3B(who):LQ a7L d2g (e9c who) (fun s=>a2A who s):=fun lc n h=>PK<|rg<|j5 2 h (fun h=>j5 5 h (fun h=>rg<|j9 c2I d39 1 h fun a7r h=>j5 3 h (fun h=>rg<|fL lc h) (fun h=>rg<|(lc.nx h fun hI=>sk [] [1,5] [] hI))) (fun h=>(lc.bk h fun hI=>sk [] [] [] hI))) (fun h=>(lc.bk h fun hI=>sk [] [] [] hI))
def b88(bal:Int)(who:Int):Option Int:=
 (bif decide (bal<0) then some (-1) else ((D7 who 0 2).bind fun in_=>(bif (!in_) then some (-1) else ((o7 (fun s:Int=>a2A who s) (m7 (bal+1))).bind fun x=>x.go (fun r=>some r) fun s=>d6W))))
theorem e7E{bal who}:OK a7L [vi bal,vi who] (b88 bal who):=
 o8 _ fun r h=>n9<|j5 2 h (fun h=>rg<|fE h) (fun h=>j9 D5 G0 4 h fun in_ h=>j5 6 h (fun h=>rg<|fE h) (fun h=>rg<|lp (f3B who) h (fun _ h=>a7L.rt h) (e8Y r) fun hI=>sk [] [1,5] [] hI))
def b60:FS (z0×Bool):=⟨145,Tryz.f145,[.val [none,some 8] [],.val [] []],[none,none],[.val [none,some 8] [],.val [] []],fun r=>.tup [.agg (a0Z r.1),.b r.2],fun _=>[none,none],Tryz.func145⟩
def a9Q(a:z0)(bal:Int):Option (z0×Bool):=
 ((a9N a).bind fun O2=>(bif (!O2) then some ((z0.mk 0 []),false) else ((a5f a).bind fun R5=>((D7 bal 1 3000).bind fun in_=>(bif (!in_) then some (R5,false) else (bif decide (bal<a.i0) then some (R5,false) else some ((z0.mk bal R5.a7),true)))))))
theorem c33{a bal}:OK b60 [.agg (a0Z a),vi bal] (a9Q a bal):=
 o8 _ fun r h=>n9<|j9 a5E c6M 1 h fun O2 h=>j5 2 h (fun h=>rg<|fE h) (fun h=>rg<|j9 a9d b1K 1 h fun R5 h=>rg<|j9 D5 G0 1 h fun in_ h=>j5 3 h (fun h=>rg<|s8 R5.a7<|fE h) (fun h=>j5 8 h (fun h=>rg<|s8 R5.a7<|fE h) (fun h=>n9<|s8 R5.a7<|fE h)))
def c0i:FS (j6×List l8):=⟨98,Tryz.f98,[.val A8 [],.val [some 13] []],[none],[.val A8 []],fun r=>.tup [.agg (x6 r.1),l7 13 t7 r.2],fun _=>[none],Tryz.func98⟩
def f6c:p7->KS:=fun a=>⟨c0i.k 12 [false,true],(bs 2 (.ptr 1 0 0::(bs 1 (.ptr 2 0 0::(bs 74 []))))),[some [],some [.var 54 [vi 0,vi 0,.nil,.nil,vi 0,vi 0,vi 0,.nil,.nil,.b false,vi 0,vi 0,.nil,.nil,vi 0,vi 0,.nil,.b false,.nil,.b false,vi 0,vi 0,.nil,.nil,vi 0,vi 0,.nil]],some [.var 168 (b37 a)]]++a2W a⟩
def b5r(a:p7):Option (j6×List l8):=
 ((a1N a).bind fun X6=>some (X6.1,X6.2.1))
theorem e1x(r):NF c0i r f6c (fun s=>b5r s):=fun a h=>PK<|rg<|j9 a4C a5H 1 h fun X6 h=>D2 a<|rg<|fE h
def b7k(n:j6):Option (j6×List l8):=
 ((a4d n).bind fun D8=>(bif (!D8) then some ((j6.mk 0 (z0.mk 0 []) [] 0 0 0 [] [] (m4.mk false (n5.mk 0 0) (n7.mk [] [] 0 0)) [] false [] (m4.mk false (n5.mk 0 0) (n7.mk [] [] 0 0)) []),[]) else ((a7X n).bind fun begin=>((b88 n.Acc.i0 n.Id).bind fun a3k=>(((bif decide (a3k>=0) then ((b2X begin).bind fun follow=>((a9Q follow.n.Acc a3k).bind fun W6=>((b5f (p7.mk (j6.mk follow.n.Id W6.1 follow.n.a6 follow.n.Seq 1 a3k follow.n.c9 follow.n.i4 follow.n.c8 follow.n.a7 follow.n.i9 follow.n.i6 follow.n.b8 follow.n.f0) follow.out follow.told)).bind fun F9=>((a3a (p7.mk (j6.mk F9.2.n.Id F9.2.n.Acc F9.2.n.a6 F9.2.n.Seq F9.2.n.d6 F9.2.n.a8 F9.1 F9.2.n.Acc.a7 F9.2.n.c8 F9.2.n.a7 F9.2.n.i9 F9.2.n.i6 F9.2.n.b8 F9.2.n.f0) F9.2.out F9.2.told) (l8.mk 1 0 0 a3k (n.a6.length:Int) (m4.mk false (n5.mk 0 0) (n7.mk [] [] 0 0)) [])).bind fun all=>some (l9.brk all))))) else some (l9.brk begin)):Option (l9 (j6×List l8) p7)).bind fun x=>x.go some fun j=>b5r j)))))
theorem d95{n}:OK c0i [.agg (x6 n)] (b7k n):=
 o8 _ fun r h=>n9<|j9 a04 a8Z 1 h fun D8 h=>j5 2 h (fun h=>rg<|fE h) (fun h=>rg<|j9 b4Y b95 1 h fun begin h=>rg<|j9 a7L e7E 5 h fun a3k h=>A4 h (e1x r) fun x1 h hc1=>rg<|j5 1 h (fun h=>rg<|j9 c0f c52 1 h fun follow h=>K0 begin.n<|C9 begin.out begin.told<|rg<|j9 b60 c33 7 h fun W6 h=>L8<|j9 c6i c99 2 h fun F9 h=>D2 follow<|n9<|j9 a09 a61 6 h fun all h=>H8 F9.2.n.a6 F9.1 F9.2.n.a7 F9.2.out<|s8 F9.2.told<|(o9 h hc1 fun hI=>sk [] [2,4] [(2,0),(8,0),(71,0),(71,1),(71,2),(71,3),(71,4)] hI)) (fun h=>(o9 h hc1 fun hI=>s8 begin.n.f0<|sk [.frz (.cell 8 0 26) (none)] [2,4] [(2,0),(8,0),(8,1),(8,2),(8,3),(8,5),(8,6)] hI)))
def c0h:FS (j6×(List l8)×List n6):=⟨99,Tryz.f99,[.val A8 [],.val [some 13] [],.val [some 5] []],[none],[.val A8 []],fun r=>.tup [.agg (x6 r.1),l7 13 t7 r.2.1,l7 5 z5 r.2.2],fun _=>[none],Tryz.func99⟩
def d9g:p7->KS:=fun a=>⟨c0h.k 7 [false,true],(bs 2 (.ptr 1 0 0::(bs 2 (.ptr 2 0 0::(bs 55 []))))),[some [],some [.var 54 [vi 0,vi 0,.nil,.nil,vi 0,vi 0,vi 0,.nil,.nil,.b false,vi 0,vi 0,.nil,.nil,vi 0,vi 0,.nil,.b false,.nil,.b false,vi 0,vi 0,.nil,.nil,vi 0,vi 0,.nil]],some [.var 168 (b37 a)]]++a2W a⟩
def c0w(a:p7):Option (j6×(List l8)×List n6):=
 ((a1N a).bind fun X6=>some (X6.1,X6.2.1,X6.2.2.1))
theorem f2d(r):NF c0h r d9g (fun s=>c0w s):=fun a h=>PK<|rg<|j9 a4C a5H 1 h fun X6 h=>D2 a<|fE h
def b7h(n:j6):Option (j6×(List l8)×List n6):=
 ((a4d n).bind fun D8=>(bif (!D8) then some ((j6.mk 0 (z0.mk 0 []) [] 0 0 0 [] [] (m4.mk false (n5.mk 0 0) (n7.mk [] [] 0 0)) [] false [] (m4.mk false (n5.mk 0 0) (n7.mk [] [] 0 0)) []),[],[]) else ((a7X n).bind fun begin=>((a3a begin (l8.mk 8 0 0 0 (n.a6.length:Int) (m4.mk false (n5.mk 0 0) (n7.mk [] [] 0 0)) [])).bind fun all=>(((bif (n.d6==1) then ((a3a all (l8.mk 1 0 0 n.a8 (n.a6.length:Int) (m4.mk false (n5.mk 0 0) (n7.mk [] [] 0 0)) [])).bind fun c8x=>some (l9.brk c8x)) else (bif (n.d6==2) then ((a6a all).bind fun Z3=>some (l9.brk Z3)) else (bif (n.d6==3) then ((a3a all (l8.mk 3 0 0 n.a8 (n.a6.length:Int) n.c8 [])).bind fun d0D=>some (l9.brk d0D)) else (bif n.i9 then ((a3a all (l8.mk 7 0 0 0 0 n.b8 [])).bind fun c87=>some (l9.brk c87)) else some (l9.brk all))))):Option (l9 (j6×(List l8)×List n6) p7)).bind fun x=>x.go some fun j=>c0w j)))))
theorem e8J{n}:OK c0h [.agg (x6 n)] (b7h n):=
 o8 _ fun r h=>n9<|j9 a04 a8Z 1 h fun D8 h=>j5 2 h (fun h=>rg<|fE h) (fun h=>rg<|j9 b4Y b95 1 h fun begin h=>n9<|j9 a09 a61 3 h fun all h=>K0 begin.n<|C9 begin.out begin.told<|A4 h (f2d r) fun x1 h hc1=>rg<|j5 3 h (fun h=>rg<|j9 a09 a61 5 h fun c8x h=>D2 all<|(o9 h hc1 fun hI=>sk [] [2,5] [(2,0),(9,0),(28,0),(28,1),(28,2),(28,3),(28,4)] hI)) (fun h=>rg<|j5 3 h (fun h=>rg<|j9 b0H b41 1 h fun Z3 h=>D2 all<|(o9 h hc1 fun hI=>sk [] [2,5] [(2,0),(9,0),(28,0),(28,1),(28,2),(28,3),(28,4)] hI)) (fun h=>rg<|j5 3 h (fun h=>rg<|j9 a09 a61 7 h fun d0D h=>D2 all<|(o9 h hc1 fun hI=>sk [] [2,5] [(2,0),(9,0),(38,0),(38,1),(38,2),(38,3),(38,4)] hI)) (fun h=>rg<|j5 2 h (fun h=>rg<|j9 a09 a61 4 h fun c87 h=>D2 all<|(o9 h hc1 fun hI=>sk [] [2,5] [(2,0),(9,0),(38,0),(38,1),(38,2),(38,3),(38,4)] hI)) (fun h=>(o9 h hc1 fun hI=>sk [] [2,5] [(2,0),(9,0),(18,0),(18,1),(18,2),(18,3),(18,4)] hI))))))
def d8Q:FS (j6):=⟨100,Tryz.f100,[.val A8 []],[none],[.val A8 []],fun r=>.agg (x6 r),fun _=>[none],Tryz.func100⟩
def b82(n:j6):Option j6:=
 ((a4d n).bind fun D8=>(bif (!D8) then some (j6.mk 0 (z0.mk 0 []) [] 0 0 0 [] [] (m4.mk false (n5.mk 0 0) (n7.mk [] [] 0 0)) [] false [] (m4.mk false (n5.mk 0 0) (n7.mk [] [] 0 0)) []) else ((a9A (j6.mk n.Id n.Acc n.a6 n.Seq 0 0 [] [] (m4.mk false (n5.mk 0 0) (n7.mk [] [] 0 0)) [] false [] (m4.mk false (n5.mk 0 0) (n7.mk [] [] 0 0)) [])).bind fun Y1=>some Y1)))
theorem e0F{n}:OK d8Q [.agg (x6 n)] (b82 n):=
 o8 _ fun r h=>n9<|j9 a04 a8Z 1 h fun D8 h=>j5 2 h (fun h=>rg<|fE h) (fun h=>rg<|j9 b4e b6y 9 h fun Y1 h=>K0 Y1<|fE h)
def a9j:FS (m5):=⟨51,Tryz.f51,[.val C3 om2],[none,none],[.val C3 om2,.val [none,none,some 4] []],fun r=>.agg (a72 r),fun _=>[none,none],Tryz.func51⟩
def f3b:m5->KS:=fun w1=>⟨a9j.k 9 [true,false,true],(bs 2 (.ptr 1 0 0::(bs 1 (.ptr 6 0 0::(bs 86 []))))),[some [.dead,.dead,.dead,.dead],some [.var 28 [.own 2 0 27 0 w1.a0.length,.own 3 0 13 0 w1.d7.length,.own 4 0 3 0 w1.d9.length,.own 5 0 5 0 w1.Told.length]],some [m6 54 27 x6 w1.a0],some [m6 82 13 t7 w1.d7],some [m6 85 3 C1 w1.d9],some [m6 89 5 z5 w1.Told],some [.var 28 [.nil,.nil,.nil,.nil]]]⟩
def b9z(w1:m5):Option m5:=
 some w1
theorem f6l(r):NF a9j r f3b (fun s=>b9z s):=fun w1 h=>PK<|rg<|B3 w1<|fE h
def a5W(w:m5)(e_:s5):Option m5:=
 ((idx w.a0 e_.A).bind fun node=>(((bif (e_.a9==1) then (bif decide ((w.d9.length:Int)>=60) then some (l9.ret w) else ((b9k node e_.i6).bind fun J2=>((a5G w J2.1 J2.2.1 J2.2.2).bind fun a3s=>(bif (J2.1.Seq != node.Seq) then (t5 ((a3s.d9.length+1)*40<=140737488355328) (some (l9.brk (m5.mk a3s.a0 a3s.d7 (a3s.d9++[(x8.mk (n5.mk node.Id J2.1.Seq) e_.i6)]) a3s.Told)))) else some (l9.brk a3s))))) else (bif (e_.a9==5) then ((b7k node).bind fun a0X=>((a5G w a0X.1 a0X.2 []).bind fun b13=>some (l9.brk b13))) else (bif (e_.a9==6) then ((b7h node).bind fun a0h=>((a5G w a0h.1 a0h.2.1 a0h.2.2).bind fun d5x=>some (l9.brk d5x))) else (bif (e_.a9==7) then ((b82 node).bind fun a1G=>((a5G w a1G [] []).bind fun d2t=>some (l9.brk d2t))) else some (l9.brk w))))):Option (l9 m5 m5)).bind fun x=>x.go some fun j=>b9z j))
theorem b9V{w e_}:OK a9j [.agg (a72 w),.agg (J6 e_)] (a5W w e_):=
 o8 _ fun r h=>n9<|B0 h fun node hnode h=>C0 hnode<|I6 x6 5 hnode<|rg<|A4 h (f6l r) fun x1 h hc1=>rg<|j5 1 h (fun h=>rg<|j5 3 h (fun h=>rg<|(B8 h hc1 fun h=>B3 w<|fE h)) (fun h=>rg<|j9 b7J e1N 3 h fun J2 h=>rg<|j9 U4 a91 4 h fun a3s h=>B3 w<|rg<|j5 4 h (fun h=>rg<|tk 10 [none,none,some 4]<|t9 h fun e1 h=>F7 11 54 85 3 40 C1 a3s.d9 (x8.mk (n5.mk node.Id J2.1.Seq) e_.i6) e1<|E7 (x8.mk (n5.mk node.Id J2.1.Seq) e_.i6)<|(o9 h hc1 fun hI=>sk [] [2,4] [(1,0),(36,0),(36,1),(54,0),(36,3),(3,0)] hI)) (fun h=>(o9 h hc1 fun hI=>sk [] [2,4] [(1,0),(36,0),(36,1),(36,2),(36,3),(3,0)] hI)))) (fun h=>rg<|j5 1 h (fun h=>rg<|j9 c0i d95 1 h fun a0X h=>rg<|j9 U4 a91 3 h fun b13 h=>B3 w<|(o9 h hc1 fun hI=>sk [] [2,4] [(1,0),(29,0),(29,1),(29,2),(29,3),(3,0)] hI)) (fun h=>rg<|j5 1 h (fun h=>rg<|j9 c0h e8J 1 h fun a0h h=>rg<|j9 U4 a91 4 h fun d5x h=>B3 w<|(o9 h hc1 fun hI=>sk [] [2,4] [(1,0),(34,0),(34,1),(34,2),(34,3),(3,0)] hI)) (fun h=>rg<|j5 1 h (fun h=>rg<|j9 d8Q e0F 2 h fun a1G h=>j9 U4 a91 3 h fun d2t h=>B3 w<|(o9 h hc1 fun hI=>sk [] [2,4] [(1,0),(25,0),(25,1),(25,2),(25,3),(3,0)] hI)) (fun h=>(o9 h hc1 fun hI=>sk [] [2,4] [(1,0),(0,0),(0,1),(0,2),(0,3),(3,0)] hI)))))
def c6H:FS (List l8):=⟨101,Tryz.f101,[.val [some 13] [some 82]],[none,none],[.val [some 13] [],.val [] []],fun r=>v6 82 13 t7 r,fun _=>[none,none],Tryz.func101⟩
def b3I(list:List l8)(at_:Int):Option (List l8):=
 (t5 ((0:Int)<=at_/\at_<=(list.length:Int)) ((t5 ((([]:List l8).length+((list.drop 0).take (at_.toNat-0)).length)*152<=140737488355328) ((t5 ((0:Int)<=m7 (at_+1)/\m7 (at_+1)<=(list.length:Int)) ((t5 (((([]:List l8)++((list.drop 0).take (at_.toNat-0))).length+((list.drop (m7 (at_+1)).toNat).take (list.length-(m7 (at_+1)).toNat)).length)*152<=140737488355328) (some ((([]:List l8)++((list.drop 0).take (at_.toNat-0)))++((list.drop (m7 (at_+1)).toNat).take (list.length-(m7 (at_+1)).toNat)))))))))))
theorem d2X{list at_}:OK c6H [l7 13 t7 list,vi at_] (b3I list at_):=
 o8 _ fun r h=>n9<|tk 0 C2<|t9 h fun e1 h=>om (V.sl 13 (at_.toNat-0) (((list.map t7).drop 0).take (at_.toNat-0))=l7 13 t7 ((list.drop 0).take (at_.toNat-0))) (b8C e1)<|ob e1.1<|ob e1.2<|tl (3,{v:=some (l7 13 t7 ((list.drop 0).take (at_.toNat-0)))})<|t9 h fun e2 h=>om (V.own 6 0 13 0 (([]:List l8).length+((list.drop 0).take (at_.toNat-0)).length)=.own 6 0 13 0 (([]:List l8)++((list.drop 0).take (at_.toNat-0))).length) (by first|exact congrArg (V.own 6 0 13 0) f9a.symm|simp)<|om (s9.row 82 13 (([]:List l8).length+((list.drop 0).take (at_.toNat-0)).length) (([]:List l8).map t7++((list.drop 0).take (at_.toNat-0)).map t7)=m6 82 13 t7 (([]:List l8)++((list.drop 0).take (at_.toNat-0)))) (by first|exact c6f rfl rfl|simp [m6])<|A9 l8<|ob e2<|tl (4,{v:=some (.own 6 0 13 0 (([]:List l8)++((list.drop 0).take (at_.toNat-0))).length),e:=some (m6 82 13 t7 (([]:List l8)++((list.drop 0).take (at_.toNat-0))))})<|t9 h fun e3 h=>om (V.sl 13 (list.length-(m7 (at_+1)).toNat) (((list.map t7).drop (m7 (at_+1)).toNat).take (list.length-(m7 (at_+1)).toNat))=l7 13 t7 ((list.drop (m7 (at_+1)).toNat).take (list.length-(m7 (at_+1)).toNat))) (b33 e3)<|ob e3.1<|ob e3.2<|tl (8,{v:=some (l7 13 t7 ((list.drop (m7 (at_+1)).toNat).take (list.length-(m7 (at_+1)).toNat)))})<|t9 h fun e4 h=>apL 9 11 82 13 152 t7 (([]:List l8)++((list.drop 0).take (at_.toNat-0))) ((list.drop (m7 (at_+1)).toNat).take (list.length-(m7 (at_+1)).toNat)) e4<|s8 ((([]:List l8)++((list.drop 0).take (at_.toNat-0)))++((list.drop (m7 (at_+1)).toNat).take (list.length-(m7 (at_+1)).toNat)))<|fE h
def b79:FS (p7):=⟨152,Tryz.f152,[],[some (0,.ptr J4 M2),none],[.ptr J4 M2,.val [] []],fun _=>.tup [],fun r=>[some (.optr 168 (M0 r)),none],Tryz.func152⟩
def b1D(a:p7)(bal:Int):Option p7:=
 (bif (a.n.d6 != 0) then (bif decide (bal>a.n.a8) then ((b2X a).bind fun follow=>some follow) else some a) else some a)
theorem c1u{a bal}:OK b79 [.optr 168 (M0 a),vi bal] (b1D a bal):=
 o8 _ fun r h=>rg<|j5 6 h (fun h=>j5 14 h (fun h=>rg<|j9 c0f c52 1 h fun follow h=>D2 a<|D2 follow<|fE h) (fun h=>D2 a<|fE h)) (fun h=>D2 a<|fE h)
def b9T:FS (p7):=⟨147,Tryz.f147,[],[some (0,.ptr J4 M2),none],[.ptr J4 M2,.val C2 []],fun _=>.tup [],fun r=>[some (.optr 168 (M0 r)),none],Tryz.func147⟩
def d8Y(m:l8)(yield:p7):(List m8)->KS:=fun b75=>⟨b9T.k 8 [false,true],(.ptr 0 0 0::(bs 2 (.ptr 6 0 0::(bs 2 (l7 8 q8 b75::(bs 54 [])))))),[some [.var 168 (b3V yield),.dead,.dead,.dead,.dead,.dead]]++a2W yield++[some [.var 82 (a4I m)]]⟩
def b56(m:l8)(yield:p7)(b75:List m8):Option p7:=
 ((a4h yield m.c9 (l8.mk 2 0 0 m.a8 m.g8 (m4.mk false (n5.mk 0 0) (n7.mk [] [] 0 0)) b75)).bind fun a70=>some a70)
theorem e46(m yield)(r):NF b9T r (d8Y m yield) (fun s=>b56 m yield s):=fun b75 h=>PK<|rg<|j9 a7g a7I 9 h fun a70 h=>D2 yield<|D2 a70<|fE h
def b8O(a:p7)(m:l8):Option p7:=
 ((a9Q a.n.Acc m.a8).bind fun W6=>(bif (!W6.2) then ((a4h a m.c9 (l8.mk 6 0 0 a.n.Acc.i0 0 (m4.mk false (n5.mk 0 0) (n7.mk [] [] 0 0)) [])).bind fun Z5=>some Z5) else ((b1D (p7.mk (j6.mk a.n.Id W6.1 a.n.a6 a.n.Seq a.n.d6 a.n.a8 a.n.c9 a.n.i4 a.n.c8 a.n.a7 a.n.i9 a.n.i6 a.n.b8 a.n.f0) a.out a.told) m.a8).bind fun yield=>(((bif decide (m.g8<(W6.1.a7.length:Int)) then (t5 ((0:Int)<=m.g8/\m.g8<=(W6.1.a7.length:Int)) (some (l9.brk ((W6.1.a7.drop m.g8.toNat).take (W6.1.a7.length-m.g8.toNat))))) else some (l9.brk [])):Option (l9 p7 (List m8))).bind fun x=>x.go some fun j=>b56 m yield j))))
theorem f7y{a m}:OK b9T [.optr 168 (M0 a),.agg (t7 m)] (b8O a m):=
 o8 _ fun r h=>n9<|j9 b60 c33 7 h fun W6 h=>rg<|j5 1 h (fun h=>rg<|j9 a7g a7I 10 h fun Z5 h=>D2 a<|D2 Z5<|fE h) (fun h=>n9<|j9 b79 c1u 3 h fun yield h=>D2 a<|rg<|A4 h (e46 m yield r) fun x1 h hc1=>rg<|j5 5 h (fun h=>rg<|t9 h fun e1 h=>om (V.sl 8 (W6.1.a7.length-m.g8.toNat) (((W6.1.a7.map q8).drop m.g8.toNat).take (W6.1.a7.length-m.g8.toNat))=l7 8 q8 ((W6.1.a7.drop m.g8.toNat).take (W6.1.a7.length-m.g8.toNat))) (b33 e1)<|ob e1.1<|ob e1.2<|tl (4,{v:=some (l7 8 q8 ((W6.1.a7.drop m.g8.toNat).take (W6.1.a7.length-m.g8.toNat)))})<|(o9 h hc1 fun hI=>sk [] [0,3,6] [(27,0),(27,1),(27,2),(27,3),(27,4),(1,0)] hI)) (fun h=>(o9 h hc1 fun hI=>sk [.frz (.tmp 6) (some 8)] [0,3,6] [(27,0),(27,1),(27,2),(27,3),(27,4),(1,0)] hI)))
def a3x:FS (List m8):=⟨189,Tryz.f189,[.val [some 8] []],[none,none],[.val [some 8] [],.val [some 8] []],fun r=>l7 8 q8 r,fun _=>[none,none],Tryz.func189⟩
def b5N:(List m8)->KS:=fun out1=>⟨a3x.k 5 [false,false],(bs 5 (.own 1 0 8 0 out1.length::(bs 67 []))),[some [],some [m6 61 8 q8 out1]]⟩
def c6K(out1:List m8):Option (List m8):=
 ((a89 out1).bind fun a0I=>some a0I)
theorem e64(r):NF a3x r b5N (fun s=>c6K s):=fun out1 h=>PK<|rg<|j9 a4j b94 1 h fun a0I h=>C9 out1 a0I<|fE h
def c4b(a:List m8)(b:List m8):((List m8)×Int)->KS:=fun (out,i)=>⟨a3x.k 4 [false],(l7 8 q8 a::(l7 8 q8 b::(bs 3 (.own 1 0 8 0 out.length::(vi i::(bs 66 [])))))),[some [],some [m6 61 8 q8 out]]⟩
def e2o(a:List m8)(b:List m8)(out:List m8)(i:Int):Unit->KS:=fun _=>⟨a3x.k 5 [false,true],(l7 8 q8 a::(l7 8 q8 b::(bs 3 (.own 1 0 8 0 out.length::(vi i::(bs 66 [])))))),[some [],some [m6 61 8 q8 out]]⟩
def e1C(a:List m8)(b:List m8)(i:Int):(List m8)->KS:=fun out2=>⟨a3x.k 7 [false,true,true],(l7 8 q8 a::(l7 8 q8 b::(bs 3 (.own 1 0 8 0 out2.length::(vi i::(bs 66 [])))))),[some [],some [m6 61 8 q8 out2]]⟩
def c1N(i:Int)(out2:List m8):Option (j7 (List m8) ((List m8)×Int) (List m8)):=
 some (j7.nxt (out2,m7 (i+1)))
theorem f0J(a b i)(lc:D4 a3x b5N (c4b a b)):NL lc (e1C a b i) (fun s=>c1N i s):=fun out2 h=>PK<|rg<|(lc.nx h fun hI=>sk [] [0,1,5,6] [(1,0)] hI)
def c09(a:List m8)(b:List m8)(out:List m8)(i:Int):Option (j7 (List m8) ((List m8)×Int) (List m8)):=
 (((bif decide (i>=(a.length:Int)) then ((idx b i).bind fun vote=>(t5 ((out.length+1)*96<=140737488355328) (some (l9.brk (out++[vote]))))) else (bif decide (i>=(b.length:Int)) then ((idx a i).bind fun S6=>(t5 ((out.length+1)*96<=140737488355328) (some (l9.brk (out++[S6]))))) else ((idx a i).bind fun b3R=>((idx b i).bind fun b3w=>(bif decide (b3R.a8>=b3w.a8) then (t5 ((out.length+1)*96<=140737488355328) (some (l9.brk (out++[b3R])))) else (t5 ((out.length+1)*96<=140737488355328) (some (l9.brk (out++[b3w]))))))))):Option (l9 (j7 (List m8) ((List m8)×Int) (List m8)) (List m8))).bind fun x=>x.go some fun j=>c1N i j)
theorem e5L(a b out i)(lc:D4 a3x b5N (c4b a b)):NL lc (e2o a b out i) (fun s=>c09 a b out i):=fun _ h=>PK<|A4 h (f0J a b i lc) fun x2 h hc2=>rg<|j5 4 h (fun h=>rg<|u0 q8 3 h fun vote K8 h=>tk 5 U8<|t9 h fun e1 h=>F7 6 13 61 8 96 q8 out vote e1<|E7 vote<|(o9 h hc2 fun hI=>sk [] [0,1,5,6] [(13,0)] hI)) (fun h=>rg<|j5 4 h (fun h=>rg<|u0 q8 3 h fun S6 a4k h=>tk 5 U8<|t9 h fun e2 h=>F7 6 31 61 8 96 q8 out S6 e2<|E7 S6<|(o9 h hc2 fun hI=>sk [] [0,1,5,6] [(31,0)] hI)) (fun h=>u0 q8 7 h fun b3R e5X h=>u0 q8 12 h fun b3w f0N h=>j5 17 h (fun h=>rg<|I1 q8 3 e5X<|tk 5 U8<|t9 h fun e3 h=>F7 6 31 61 8 96 q8 out b3R e3<|E7 b3R<|(o9 h hc2 fun hI=>sk [] [0,1,5,6] [(31,0)] hI)) (fun h=>rg<|I1 q8 3 f0N<|tk 5 U8<|t9 h fun e4 h=>F7 6 31 61 8 96 q8 out b3w e4<|E7 b3w<|(o9 h hc2 fun hI=>sk [] [0,1,5,6] [(31,0)] hI))))
def a63(a:List m8)(b:List m8)(out:List m8)(i:Int):Option (j7 (List m8) ((List m8)×Int) (List m8)):=
 (((bif decide (i<(a.length:Int)) then some (l9.brk ()) else (bif decide (i<(b.length:Int)) then some (l9.brk ()) else some (l9.ret (j7.brk out)))):Option (l9 (j7 (List m8) ((List m8)×Int) (List m8)) Unit)).bind fun x=>x.go some fun j=>c09 a b out i)
theorem f3v(a b):LQ a3x b5N (c4b a b) (fun s=>a63 a b s.1 s.2):=fun lc (out,i) h=>PK<|A4 h (e5L a b out i lc) fun x2 h hc2=>rg<|j5 4 h (fun h=>(o9 h hc2 fun hI=>sk [] [0,1,5,6] [(1,0)] hI)) (fun h=>j5 9 h (fun h=>(o9 h hc2 fun hI=>sk [] [0,1,5,6] [(1,0)] hI)) (fun h=>(B8 h hc2 fun h=>(lc.bk h fun hI=>sk [] [5] [(1,0)] hI))))
def b6S(a:List m8)(b:List m8):Option (List m8):=
 ((a7a a).bind fun L4=>(bif (!L4) then some [] else ((a7a b).bind fun d2l=>(bif (!d2l) then some [] else ((o7 (fun s:(List m8)×Int=>a63 a b s.1 s.2) ([],0)).bind fun x=>x.go (fun r=>some r) fun s=>c6K s)))))
theorem e6q{a b}:OK a3x [l7 8 q8 a,l7 8 q8 b] (b6S a b):=
 o8 _ fun r h=>n9<|j9 a26 b3q 1 h fun L4 h=>j5 3 h (fun h=>rg<|fE h) (fun h=>j9 a26 b3q 5 h fun d2l h=>j5 7 h (fun h=>rg<|fE h) (fun h=>n9<|lp (f3v a b) h (fun _ h=>a3x.rt h) (e64 r) fun hI=>sk [.own (.tmp 5) 61 8] [0,1,5,6] [(12,0)] hI))
def a4m:FS (Int):=⟨190,Tryz.f190,[.val [] []],[none],[.val [some 1] []],fun r=>vi r,fun _=>[none],Tryz.func190⟩
def c56:Int->KS:=fun n1=>⟨a4m.k 4 [false],(bs 3 (vi n1::(bs 13 []))),[some []]⟩
def d2J(n1:Int):Option Int:=
 some n1
theorem e9z(r):NF a4m r c56 (fun s=>d2J s):=fun n1 h=>PK<|rg<|fE h
def d3e(list:List Bool):(Int×Int)->KS:=fun (n,v8)=>⟨a4m.k 3 [],(bs 3 (vi n::(bs 2 (l7 1 eB list::(vi (list.length:Int)::(vi v8::(bs 8 []))))))),[some []]⟩
def e44(list:List Bool)(v8:Int):Int->KS:=fun n2=>⟨a4m.k 7 [true,true],(bs 3 (vi n2::(bs 2 (l7 1 eB list::(vi (list.length:Int)::(vi v8::(bs 8 []))))))),[some []]⟩
def c3q(v8:Int)(n2:Int):Option (j7 Int (Int×Int) Int):=
 some (j7.nxt (n2,m7 (v8+1)))
theorem e2c(list v8)(lc:D4 a4m c56 (d3e list)):NL lc (e44 list v8) (fun s=>c3q v8 s):=fun n2 h=>PK<|rg<|(lc.nx h fun hI=>sk [] [3,6,7,8] [] hI)
def a5d(list:List Bool)(n:Int)(v8:Int):Option (j7 Int (Int×Int) Int):=
 (bif decide (v8<(list.length:Int)) then ((idx list v8).bind fun y=>(((bif y then some (l9.brk (m7 (n+1))) else some (l9.brk n)):Option (l9 (j7 Int (Int×Int) Int) Int)).bind fun x=>x.go some fun j=>c3q v8 j)) else some (j7.brk n))
theorem e7R(list):LQ a4m c56 (d3e list) (fun s=>a5d list s.1 s.2):=fun lc (n,v8) h=>PK<|rg<|j5 0 h (fun h=>rg<|u0 eB 0 h fun y hy h=>A4 h (e2c list v8 lc) fun x2 h hc2=>rg<|j5 0 h (fun h=>rg<|(o9 h hc2 fun hI=>sk [] [3,6,7,8] [] hI)) (fun h=>(o9 h hc2 fun hI=>sk [] [3,6,7,8] [] hI))) (fun h=>(lc.bk h fun hI=>sk [] [3] [] hI))
def b4M(list:List Bool):Option Int:=
 ((o7 (fun s:Int×Int=>a5d list s.1 s.2) (0,0)).bind fun x=>x.go (fun r=>some r) fun s=>d2J s)
theorem d4U{list}:OK a4m [l7 1 eB list] (b4M list):=
 o8 _ fun r h=>L8<|lp (e7R list) h (fun _ h=>a4m.rt h) (e9z r) fun hI=>sk [] [3,6,7,8] [] hI
def d6X:FS (p7):=⟨148,Tryz.f148,[],[some (0,.ptr J4 M2),none],[.ptr J4 M2,.val C2 []],fun _=>.tup [],fun r=>[some (.optr 168 (M0 r)),none],Tryz.func148⟩
def b8c(a:p7)(m:l8):Option p7:=
 (bif (a.n.d6 != 1) then some a else (bif (m.a8 != a.n.a8) then some a else ((idx a.n.c9 m.c9).bind fun y=>(t5 (0<=m.g8/\m.g8*96<=140737488355328) ((t5 (((f8O m.g8.toNat (m8.mk 0 (m4.mk false (n5.mk 0 0) (n7.mk [] [] 0 0)))).length+m.a7.length)*96<=140737488355328) (((b6S a.n.i4 ((f8O m.g8.toNat (m8.mk 0 (m4.mk false (n5.mk 0 0) (n7.mk [] [] 0 0))))++m.a7)).bind fun c2b=>((b4M (a.n.c9.set m.c9.toNat true)).bind fun b5w=>(bif decide (b5w>=2) then ((a6a (p7.mk (j6.mk a.n.Id a.n.Acc a.n.a6 a.n.Seq 2 a.n.a8 [] c2b a.n.c8 a.n.a7 a.n.i9 a.n.i6 a.n.b8 a.n.f0) a.out a.told)).bind fun Z3=>some Z3) else some (p7.mk (j6.mk a.n.Id a.n.Acc a.n.a6 a.n.Seq a.n.d6 a.n.a8 (a.n.c9.set m.c9.toNat true) c2b a.n.c8 a.n.a7 a.n.i9 a.n.i6 a.n.b8 a.n.f0) a.out a.told)))))))))))
theorem f0q{a m}:OK d6X [.optr 168 (M0 a),.agg (t7 m)] (b8c a m):=
 o8 _ fun r h=>n9<|j5 6 h (fun h=>D2 a<|fE h) (fun h=>j5 15 h (fun h=>D2 a<|fE h) (fun h=>rg<|B0 h fun y hy h=>C0 hy<|Q6 4 1 eB 8 [] true hy<|rg<|t9 h fun e1 h=>S8 8 35 61 8 96 q8 (m8.mk 0 (m4.mk false (n5.mk 0 0) (n7.mk [] [] 0 0))) b3a (.ck U8) e1 (by decide) (by rfl)<|t9 h fun e2 h=>apL 11 38 61 8 96 q8 (f8O m.g8.toNat (m8.mk 0 (m4.mk false (n5.mk 0 0) (n7.mk [] [] 0 0)))) m.a7 e2<|j9 a3x e6q 12 h fun c2b h=>s8 ((f8O m.g8.toNat (m8.mk 0 (m4.mk false (n5.mk 0 0) (n7.mk [] [] 0 0))))++m.a7)<|rg<|R3 a4m d4U 5 1 h fun b5w h=>om (a.n.c9.length=(a.n.c9.set m.c9.toNat true).length) (by simp)<|j5 6 h (fun h=>L8<|j9 b0H b41 1 h fun Z3 h=>H8 a.n.a6 a.n.a7 a.out a.told<|D2 Z3<|fE h) (fun h=>s8 a.n.a6<|om (a.n.c9.length=(a.n.c9.set m.c9.toNat true).length) (by simp)<|Y2 a.n.a7 a.out a.told<|fE h)))
def d8x:FS (p7):=⟨149,Tryz.f149,[],[some (0,.ptr J4 M2),none],[.ptr J4 M2,.val C2 []],fun _=>.tup [],fun r=>[some (.optr 168 (M0 r)),none],Tryz.func149⟩
def b9L(a:p7)(m:l8):Option p7:=
 ((b5v a.n.Acc m.a8 m.g8 m.g9).bind fun a86=>(bif (!a86.2) then ((a4h a m.c9 (l8.mk 6 0 0 a.n.Acc.i0 0 (m4.mk false (n5.mk 0 0) (n7.mk [] [] 0 0)) [])).bind fun Z5=>some Z5) else ((b1D (p7.mk (j6.mk a.n.Id a86.1 a.n.a6 a.n.Seq a.n.d6 a.n.a8 a.n.c9 a.n.i4 a.n.c8 a.n.a7 a.n.i9 a.n.i6 a.n.b8 a.n.f0) a.out a.told) m.a8).bind fun yield=>((a4h yield m.c9 (l8.mk 4 0 0 m.a8 m.g8 (m4.mk false (n5.mk 0 0) (n7.mk [] [] 0 0)) [])).bind fun a70=>some a70))))
theorem f3m{a m}:OK d8x [.optr 168 (M0 a),.agg (t7 m)] (b9L a m):=
 o8 _ fun r h=>n9<|j9 a6U d5M 11 h fun a86 h=>rg<|j5 1 h (fun h=>rg<|j9 a7g a7I 10 h fun Z5 h=>D2 a<|D2 Z5<|fE h) (fun h=>n9<|j9 b79 c1u 3 h fun yield h=>D2 a<|rg<|j9 a7g a7I 8 h fun a70 h=>D2 yield<|D2 a70<|fE h)
def a2N:FS (p7):=⟨191,Tryz.f191,[],[some (0,.ptr J4 M2),none],[.ptr J4 M2,.val J5 []],fun _=>.tup [],fun r=>[some (.optr 168 (M0 r)),none],Tryz.func191⟩
def e35:p7->KS:=fun a1=>⟨a2N.k 6 [true],(.ptr 0 0 0::(bs 123 [])),[some ([.var 168 (d1U a1),.dead,m6 4 1 eB a1.n.c9,.dead]++d5N a1)]++d8D a1⟩
def d1M:p7->KS:=fun a2=>⟨a2N.k 16 [true,true,true],(.ptr 0 0 0::(bs 123 [])),[some [.var 168 (e9h a2),.dead,m6 4 1 eB a2.n.c9,.dead,m6 82 13 t7 a2.out,.dead]]++e0A a2⟩
def b8L(a2:p7):Option p7:=
 ((a6a a2).bind fun Z3=>some Z3)
theorem f3Y(r):NF a2N r d1M (fun s=>b8L s):=fun a2 h=>PK<|rg<|j9 b0H b41 1 h fun Z3 h=>D2 a2<|D2 Z3<|fE h
def e43(a1:p7)(y:Int):Int->KS:=fun b0v=>⟨a2N.k 12 [true,true,true],(.ptr 0 0 0::(bs 6 (.ptr 3 0 0::(bs 116 [])))),[some ([.var 168 (d1U a1),.dead,m6 4 1 eB a1.n.c9,.dead]++d5N a1)]++d8D a1++[some [.var 89 [vi a1.n.Id,vi a1.n.b8.a5.b9,vi a1.n.b8.a5.Seq,vi y,vi b0v]]]⟩
def b8h(a1:p7)(y:Int)(b0v:Int):Option (l9 p7 p7):=
 (t5 ((a1.told.length+1)*40<=140737488355328) (some (l9.brk (p7.mk (j6.mk a1.n.Id a1.n.Acc a1.n.a6 a1.n.Seq a1.n.d6 a1.n.a8 a1.n.c9 a1.n.i4 a1.n.c8 a1.n.a7 false [] (m4.mk false (n5.mk 0 0) (n7.mk [] [] 0 0)) a1.n.f0) a1.out (a1.told++[(n6.mk a1.n.Id a1.n.b8.a5 y b0v)])))))
theorem e1v(a1 y)(r){x1}(hc1:JC (fun j=>FK cx a2N.X (a2N.R r) (a2N.O r) (d1M j)) r x1):NG a2N r (e43 a1 y) (fun s=>b8h a1 y s) x1:=fun b0v h=>PK<|rg<|tk 6 []<|t9 h fun e2 h=>F7 7 11 89 5 40 z5 a1.told (n6.mk a1.n.Id a1.n.b8.a5 y b0v) e2<|E7 (n6.mk a1.n.Id a1.n.b8.a5 y b0v)<|L8<|(o9 h hc1 fun hI=>sk [.frz (.cell 0 0 18) (some 4),.frz (.cell 0 0 22) (some 2),.frz (.cell 0 0 23) (some 2)] [0] [(1,0),(2,0),(11,0)] hI)
def b9r(a1:p7):Option p7:=
 ((a6E a1.n.a6 a1.n.b8.a5).bind fun first=>(((bif a1.n.i9 then (bif decide (first>=0) then ((a80 a1.n.a6).bind fun p6=>((idx p6.2 first).bind fun y=>(((bif (y==0) then ((idx a1.n.a6 first).bind fun entry=>some (l9.brk entry.b6.d8)) else some (l9.brk 0)):Option (l9 (l9 p7 p7) Int)).bind fun x=>x.go some fun j=>b8h a1 y j))) else some (l9.brk a1)) else some (l9.brk a1)):Option (l9 p7 p7)).bind fun x=>x.go some fun j=>b8L j))
theorem f1W(r):NF a2N r e35 (fun s=>b9r s):=fun a1 h=>PK<|rg<|R3 a15 b2e 11 2 h fun first h=>s8 a1.n.a6<|A4 h (f3Y r) fun x1 h hc1=>rg<|j5 5 h (fun h=>j5 8 h (fun h=>rg<|cbS a3w c1d 5 (fun _=>(by simp [a3w,L2,R8,O1,V.simple,vi,v6,b4j,x7,B9,eI,F4,a77])) (fun _=>(Q4 1)) h fun p6 h=>s8 a1.n.a6<|rg<|B0 h fun y hy h=>C0 hy<|I6 eI 14 hy<|A4 h (e1v a1 y r hc1) fun x2 h hc2=>rg<|j5 2 h (fun h=>rg<|B0 h fun entry E9 h=>C0 E9<|I6 s6 9 E9<|(o9 h hc2 fun hI=>sk [] [0,7] [(1,0),(2,0),(53,0)] hI)) (fun h=>(o9 h hc2 fun hI=>sk [] [0,7] [(1,0),(2,0),(53,0)] hI))) (fun h=>(o9 h hc1 fun hI=>sk [] [0] [(1,0),(2,0),(0,5)] hI))) (fun h=>(o9 h hc1 fun hI=>sk [] [0] [(1,0),(2,0),(0,5)] hI))
def b5z(a:p7)(e_:m4):Option p7:=
 (t5 ((a.n.a6.length+1)*88<=140737488355328) ((((bif (a.n.d6==3) then some (l9.brk (p7.mk (j6.mk a.n.Id a.n.Acc (a.n.a6++[e_]) a.n.Seq 2 a.n.a8 a.n.c9 a.n.i4 (m4.mk false (n5.mk 0 0) (n7.mk [] [] 0 0)) [] a.n.i9 a.n.i6 a.n.b8 a.n.f0) a.out a.told)) else some (l9.brk (p7.mk (j6.mk a.n.Id a.n.Acc (a.n.a6++[e_]) a.n.Seq a.n.d6 a.n.a8 a.n.c9 a.n.i4 a.n.c8 a.n.a7 a.n.i9 a.n.i6 a.n.b8 a.n.f0) a.out a.told))):Option (l9 p7 p7)).bind fun x=>x.go some fun j=>b9r j)))
theorem d0X{a e_}:OK a2N [.optr 168 (M0 a),.agg (s6 e_)] (b5z a e_):=
 o8 _ fun r h=>n9<|tk 7 J5<|t9 h fun e1 h=>F7 8 10 52 7 88 s6 a.n.a6 e_ e1<|E7 e_<|A4 h (f1W r) fun x1 h hc1=>rg<|j5 5 h (fun h=>L8<|(o9 h hc1 fun hI=>sk [.frz (.cell 0 0 12) (some 2),.frz (.cell 0 0 13) (some 2),.own (.cell 0 0 16) 4 1,.kill 0 3] [0] [(10,0),(37,0)] hI)) (fun h=>(o9 h hc1 fun hI=>sk [] [0] [(10,0),(0,3)] hI))
def d6L:FS (p7):=⟨150,Tryz.f150,[],[some (0,.ptr J4 M2),none],[.ptr J4 M2,.val C2 []],fun _=>.tup [],fun r=>[some (.optr 168 (M0 r)),none],Tryz.func150⟩
def b6U(a:p7)(m:l8):Option p7:=
 (bif (a.n.d6 != 3) then some a else (bif (m.a8 != a.n.a8) then some a else (bif (m.g8 != (a.n.a6.length:Int)) then some a else ((idx a.n.a7 m.c9).bind fun y=>((b4M (a.n.a7.set m.c9.toNat true)).bind fun b5w=>(bif decide (b5w>=2) then ((a3a (p7.mk (j6.mk a.n.Id a.n.Acc a.n.a6 a.n.Seq a.n.d6 a.n.a8 a.n.c9 a.n.i4 a.n.c8 (a.n.a7.set m.c9.toNat true) a.n.i9 a.n.i6 a.n.b8 a.n.f0) a.out a.told) (l8.mk 5 0 0 0 m.g8 a.n.c8 [])).bind fun all=>((b5z all all.n.c8).bind fun a7N=>some a7N)) else some (p7.mk (j6.mk a.n.Id a.n.Acc a.n.a6 a.n.Seq a.n.d6 a.n.a8 a.n.c9 a.n.i4 a.n.c8 (a.n.a7.set m.c9.toNat true) a.n.i9 a.n.i6 a.n.b8 a.n.f0) a.out a.told)))))))
theorem e3h{a m}:OK d6L [.optr 168 (M0 a),.agg (t7 m)] (b6U a m):=
 o8 _ fun r h=>n9<|j5 6 h (fun h=>D2 a<|fE h) (fun h=>j5 16 h (fun h=>D2 a<|fE h) (fun h=>j5 26 h (fun h=>D2 a<|fE h) (fun h=>rg<|B0 h fun y hy h=>C0 hy<|Q6 4 1 eB 8 [] true hy<|rg<|R3 a4m d4U 5 1 h fun b5w h=>om (a.n.a7.length=(a.n.a7.set m.c9.toNat true).length) (by simp)<|j5 6 h (fun h=>rg<|j9 a09 a61 9 h fun all h=>C9 a.n.a6 a.n.c9<|om (a.n.a7.length=(a.n.a7.set m.c9.toNat true).length) (by simp)<|C9 a.out a.told<|rg<|j9 a2N d0X 6 h fun a7N h=>D2 all<|D2 a7N<|fE h) (fun h=>C9 a.n.a6 a.n.c9<|om (a.n.a7.length=(a.n.a7.set m.c9.toNat true).length) (by simp)<|C9 a.out a.told<|fE h))))
def c8W:FS (p7):=⟨151,Tryz.f151,[],[some (0,.ptr J4 M2),none],[.ptr J4 M2,.val C2 []],fun _=>.tup [],fun r=>[some (.optr 168 (M0 r)),none],Tryz.func151⟩
def b9N(a:p7)(m:l8):Option p7:=
 (bif decide (m.g8<(a.n.a6.length:Int)) then some a else (bif decide (m.g8>(a.n.a6.length:Int)) then ((a4h a m.c9 (l8.mk 8 0 0 0 (a.n.a6.length:Int) (m4.mk false (n5.mk 0 0) (n7.mk [] [] 0 0)) [])).bind fun Z5=>some Z5) else ((b5z a m.g9).bind fun a7N=>some a7N)))
theorem e9e{a m}:OK c8W [.optr 168 (M0 a),.agg (t7 m)] (b9N a m):=
 o8 _ fun r h=>n9<|j5 9 h (fun h=>D2 a<|fE h) (fun h=>rg<|j5 9 h (fun h=>rg<|j9 a7g a7I 10 h fun Z5 h=>D2 a<|D2 Z5<|fE h) (fun h=>rg<|j9 a2N d0X 3 h fun a7N h=>D2 a<|D2 a7N<|fE h))
def d4r:FS (Bool×p7):=⟨192,Tryz.f192,[.val [] []],[some (0,.ptr J4 om7),none],[.ptr J4 om7,.val [] []],fun r=>.b r.1,fun r=>[some (.optr 168 (b9c r.2)),none],Tryz.func192⟩
def b6G(a:p7)(q:n5):Option (Bool×p7):=
 ((a6E a.n.a6 q).bind fun first=>some (decide (first>=0),a))
theorem e0X{a q}:OK d4r [.optr 168 (b9c a),.agg (F4 q)] (b6G a q):=
 o8 _ fun r h=>n9<|R3 a15 b2e 6 2 h fun first h=>s8 a.n.a6<|K0 a.n<|C9 a.out a.told<|fE h
def d66:FS (p7):=⟨153,Tryz.f153,[],[some (0,.ptr J4 M2),none],[.ptr J4 om7,.val C2 []],fun _=>.tup [],fun r=>[some (.optr 168 (M0 r)),none],Tryz.func153⟩
def b7c(a:p7)(m:l8):Option p7:=
 (bif (a.n.d6==0) then some a else (bif decide ((a.n.f0.length:Int)>=4) then some a else ((b6G a m.g9.a5).bind fun v_=>(bif v_.1 then some v_.2 else (t5 ((v_.2.n.f0.length+1)*88<=140737488355328) (((a6a (p7.mk (j6.mk v_.2.n.Id v_.2.n.Acc v_.2.n.a6 v_.2.n.Seq v_.2.n.d6 v_.2.n.a8 v_.2.n.c9 v_.2.n.i4 v_.2.n.c8 v_.2.n.a7 v_.2.n.i9 v_.2.n.i6 v_.2.n.b8 (v_.2.n.f0++[m.g9])) v_.2.out v_.2.told)).bind fun Z3=>some Z3)))))))
theorem e70{a m}:OK d66 [.optr 168 (b9c a),.agg (t7 m)] (b7c a m):=
 o8 _ fun r h=>n9<|j5 6 h (fun h=>K0 a.n<|C9 a.out a.told<|fE h) (fun h=>j5 15 h (fun h=>K0 a.n<|C9 a.out a.told<|fE h) (fun h=>j9 d4r e0X 20 h fun v_ h=>K0 a.n<|C9 a.out a.told<|j5 21 h (fun h=>K0 v_.2.n<|C9 v_.2.out v_.2.told<|fE h) (fun h=>rg<|tk 8 J5<|t9 h fun e1 h=>F7 9 33 52 7 88 s6 v_.2.n.f0 m.g9 e1<|E7 m.g9<|rg<|j9 b0H b41 1 h fun Z3 h=>H8 v_.2.n.a6 v_.2.n.c9 v_.2.n.a7 (v_.2.n.f0++[m.g9])<|C9 v_.2.out v_.2.told<|D2 Z3<|fE h)))
def a2z:FS (j6×(List l8)×List n6):=⟨102,Tryz.f102,[.val A8 [],.val [some 13] [],.val [some 5] []],[none,none],[.val A8 [],.val C2 []],fun r=>.tup [.agg (x6 r.1),l7 13 t7 r.2.1,l7 5 z5 r.2.2],fun _=>[none,none],Tryz.func102⟩
def c76:p7->KS:=fun a=>⟨a2z.k 7 [false,false,true],(bs 4 (.ptr 1 0 0::(bs 2 (.ptr 2 0 0::(bs 108 []))))),[some [],some [.var 54 [vi 0,vi 0,.nil,.nil,vi 0,vi 0,vi 0,.nil,.nil,.b false,vi 0,vi 0,.nil,.nil,vi 0,vi 0,.nil,.b false,.nil,.b false,vi 0,vi 0,.nil,.nil,vi 0,vi 0,.nil]],some [.var 168 (b37 a)]]++a2W a⟩
def c0j(a:p7):Option (j6×(List l8)×List n6):=
 ((a1N a).bind fun a5K=>some (a5K.1,a5K.2.1,a5K.2.2.1))
theorem f0h(r):NF a2z r c76 (fun s=>c0j s):=fun a h=>PK<|rg<|j9 a4C a5H 1 h fun a5K h=>D2 a<|fE h
def d5l:p7->KS:=fun a2=>⟨a2z.k 15 [false,false,false,false,false,false,false,false,false,true,false],(bs 4 (.ptr 1 0 0::(bs 2 (.ptr 2 0 0::(bs 108 []))))),[some [],some [.var 54 [vi 0,vi 0,.nil,.nil,vi 0,vi 0,vi 0,.nil,.nil,.b false,vi 0,vi 0,.nil,.nil,vi 0,vi 0,.nil,.b false,.nil,.b false,vi 0,vi 0,.nil,.nil,vi 0,vi 0,.nil]],some [.var 168 (b37 a2)]]++a2W a2⟩
def c7R(a2:p7):Option (l9 (j6×(List l8)×List n6) p7):=
 some (l9.brk a2)
theorem f5B(r){x1}(hc1:JC (fun j=>FK cx a2z.X (a2z.R r) (a2z.O r) (c76 j)) r x1):NG a2z r d5l (fun s=>c7R s) x1:=fun a2 h=>PK<|(o9 h hc1 fun hI=>sk [] [4,7] [(1,0),(2,0),(3,0),(4,0),(5,0),(6,0),(7,0)] hI)
def e6s(m:l8):(Int×p7)->KS:=fun (i,a1)=>⟨a2z.k 14 [false,false,false,false,false,false,false,false,false,true],(bs 3 (.ptr 1 0 0::(.ptr 2 0 0::(bs 2 (.ptr 3 0 0::(vi i::(bs 107 []))))))),[some [],some [.var 82 (a4I m)],some [.var 54 [vi 0,vi 0,.nil,.nil,vi 0,vi 0,vi 0,.nil,.nil,.b false,vi 0,vi 0,.nil,.nil,vi 0,vi 0,.nil,.b false,.nil,.b false,vi 0,vi 0,.nil,.nil,vi 0,vi 0,.nil]],some [.var 168 (e4B a1)]]++a2W a1⟩
def a55(m:l8)(i:Int)(a1:p7):Option (j7 (j6×(List l8)×List n6) (Int×p7) p7):=
 (bif decide (i<(a1.n.a6.length:Int)) then ((idx a1.n.a6 i).bind fun entry=>((a4h a1 m.c9 (l8.mk 5 0 0 0 i entry [])).bind fun Z5=>some (j7.nxt (m7 (i+1),Z5)))) else some (j7.brk a1))
theorem f8a(m):LQ a2z d5l (e6s m) (fun s=>a55 m s.1 s.2):=fun lc (i,a1) h=>PK<|rg<|j5 7 h (fun h=>rg<|B0 h fun entry E9 h=>C0 E9<|I6 s6 11 E9<|j9 a7g a7I 13 h fun Z5 h=>D2 a1<|rg<|(lc.nx h fun hI=>sk [] [3,4,7,8] [(1,0),(2,0),(3,0),(30,0),(30,1),(30,2),(30,3),(30,4)] hI)) (fun h=>(lc.bk h fun hI=>sk [] [4,7] [(2,0),(3,0),(4,0),(5,0),(6,0),(7,0),(8,0)] hI))
def b5F(n:j6)(m:l8):Option (j6×(List l8)×List n6):=
 ((a4d n).bind fun D8=>(bif (!D8) then some ((j6.mk 0 (z0.mk 0 []) [] 0 0 0 [] [] (m4.mk false (n5.mk 0 0) (n7.mk [] [] 0 0)) [] false [] (m4.mk false (n5.mk 0 0) (n7.mk [] [] 0 0)) []),[],[]) else ((a7X n).bind fun begin=>((b2Q m).bind fun Q8=>(bif (!Q8) then ((a1N begin).bind fun X6=>some (X6.1,X6.2.1,X6.2.2.1)) else (bif (m.To != n.Id) then ((a1N begin).bind fun a4P=>some (a4P.1,a4P.2.1,a4P.2.2.1)) else (((bif (m.a9==1) then ((b8O begin m).bind fun c7I=>some (l9.brk c7I)) else (bif (m.a9==2) then ((b8c begin m).bind fun d0F=>some (l9.brk d0F)) else (bif (m.a9==3) then ((b9L begin m).bind fun d3D=>some (l9.brk d3D)) else (bif (m.a9==4) then ((b6U begin m).bind fun d4X=>some (l9.brk d4X)) else (bif (m.a9==5) then ((b9N begin m).bind fun c9K=>some (l9.brk c9K)) else (bif (m.a9==6) then ((a9Q begin.n.Acc m.a8).bind fun W6=>((b1D (p7.mk (j6.mk begin.n.Id W6.1 begin.n.a6 begin.n.Seq begin.n.d6 begin.n.a8 begin.n.c9 begin.n.i4 begin.n.c8 begin.n.a7 begin.n.i9 begin.n.i6 begin.n.b8 begin.n.f0) begin.out begin.told) m.a8).bind fun yield=>some (l9.brk yield))) else (bif (m.a9==7) then ((b7c begin m).bind fun asked=>some (l9.brk asked)) else (bif (m.a9==8) then ((o7 (fun s:Int×p7=>a55 m s.1 s.2) (m.g8,begin)).bind fun x=>x.go (fun r=>some (l9.ret r)) fun s=>c7R s) else some (l9.brk begin))))))))):Option (l9 (j6×(List l8)×List n6) p7)).bind fun x=>x.go some fun j=>c0j j)))))))
set_option maxRecDepth 20000 in
theorem e8U{n m}:OK a2z [.agg (x6 n),.agg (t7 m)] (b5F n m):=
 o8 _ fun r h=>n9<|j9 a04 a8Z 1 h fun D8 h=>j5 2 h (fun h=>rg<|fE h) (fun h=>rg<|j9 b4Y b95 1 h fun begin h=>rg<|j9 c1A d8S 1 h fun Q8 h=>j5 3 h (fun h=>rg<|j9 a4C a5H 1 h fun X6 h=>K0 begin.n<|C9 begin.out begin.told<|fE h) (fun h=>j5 9 h (fun h=>rg<|j9 a4C a5H 1 h fun a4P h=>K0 begin.n<|C9 begin.out begin.told<|fE h) (fun h=>rg<|A4 h (f0h r) fun x1 h hc1=>rg<|j5 1 h (fun h=>rg<|j9 b9T f7y 2 h fun c7I h=>K0 begin.n<|C9 begin.out begin.told<|(o9 h hc1 fun hI=>sk [] [4,7] [(3,0),(10,0),(28,0),(28,1),(28,2),(28,3),(28,4)] hI)) (fun h=>rg<|j5 1 h (fun h=>rg<|j9 d6X f0q 2 h fun d0F h=>K0 begin.n<|C9 begin.out begin.told<|(o9 h hc1 fun hI=>sk [] [4,7] [(3,0),(10,0),(30,0),(30,1),(30,2),(30,3),(30,4)] hI)) (fun h=>rg<|j5 1 h (fun h=>rg<|j9 d8x f3m 2 h fun d3D h=>K0 begin.n<|C9 begin.out begin.told<|(o9 h hc1 fun hI=>sk [] [4,7] [(3,0),(10,0),(32,0),(32,1),(32,2),(32,3),(32,4)] hI)) (fun h=>rg<|j5 1 h (fun h=>rg<|j9 d6L e3h 2 h fun d4X h=>K0 begin.n<|C9 begin.out begin.told<|(o9 h hc1 fun hI=>sk [] [4,7] [(3,0),(10,0),(34,0),(34,1),(34,2),(34,3),(34,4)] hI)) (fun h=>rg<|j5 1 h (fun h=>rg<|j9 c8W e9e 2 h fun c9K h=>K0 begin.n<|C9 begin.out begin.told<|(o9 h hc1 fun hI=>sk [] [4,7] [(3,0),(10,0),(36,0),(36,1),(36,2),(36,3),(36,4)] hI)) (fun h=>rg<|j5 1 h (fun h=>rg<|j9 b60 c33 8 h fun W6 h=>rg<|j9 b79 c1u 3 h fun yield h=>K0 begin.n<|C9 begin.out begin.told<|(o9 h hc1 fun hI=>sk [] [4,7] [(3,0),(10,0),(55,0),(55,1),(55,2),(55,3),(55,4)] hI)) (fun h=>rg<|j5 1 h (fun h=>rg<|j9 d66 e70 2 h fun asked h=>K0 begin.n<|C9 begin.out begin.told<|(o9 h hc1 fun hI=>sk [] [4,7] [(3,0),(10,0),(40,0),(40,1),(40,2),(40,3),(40,4)] hI)) (fun h=>rg<|j5 1 h (fun h=>rg<|lp (f8a m) h (fun _ h=>a2z.rt (e2F h hc1)) (f5B r hc1) fun hI=>s8 begin.n.f0<|sk [.frz (.cell 10 0 26) (none)] [3,4,7,8] [(2,0),(3,0),(10,0),(10,1),(10,2),(10,3),(10,5),(10,6)] hI) (fun h=>(o9 h hc1 fun hI=>s8 begin.n.f0<|sk [.frz (.cell 10 0 26) (none)] [4,7] [(3,0),(10,0),(10,1),(10,2),(10,3),(10,5),(10,6)] hI))))))))))))
def b1h:FS (m5):=⟨52,Tryz.f52,[.val C3 om2],[none,none],[.val C3 om2,.val [none,none,some 4] []],fun r=>.agg (a72 r),fun _=>[none,none],Tryz.func52⟩
def e97:m5->KS:=fun w1=>⟨b1h.k 7 [true],(bs 2 (.ptr 1 0 0::(bs 1 (.ptr 6 0 0::(bs 58 []))))),[some [.dead,.dead,.dead,.dead],some [.var 28 [.own 2 0 27 0 w1.a0.length,.own 3 0 13 0 w1.d7.length,.own 4 0 3 0 w1.d9.length,.own 5 0 5 0 w1.Told.length]],some [m6 54 27 x6 w1.a0],some [m6 82 13 t7 w1.d7],some [m6 85 3 C1 w1.d9],some [m6 89 5 z5 w1.Told],some [.var 28 [.nil,.nil,.nil,.nil]]]⟩
def d6R(w1:m5):Option m5:=
 some w1
theorem e4s(r):NF b1h r e97 (fun s=>d6R s):=fun w1 h=>PK<|rg<|B3 w1<|fE h
def a8X(w:m5)(e_:s5):Option m5:=
 ((idx w.d7 e_.A).bind fun msg=>(((bif (e_.a9==2) then ((b3I w.d7 e_.A).bind fun off=>((idx w.a0 msg.To).bind fun node=>((b5F node msg).bind fun b6n=>((a5G (m5.mk w.a0 off w.d9 w.Told) b6n.1 b6n.2.1 b6n.2.2).bind fun a3s=>some (l9.brk a3s))))) else (bif (e_.a9==3) then ((b3I w.d7 e_.A).bind fun d4d=>some (l9.brk (m5.mk w.a0 d4d w.d9 w.Told))) else (bif (e_.a9==4) then ((idx w.a0 msg.To).bind fun node1=>((a5G w node1 [msg] []).bind fun b13=>some (l9.brk b13))) else some (l9.brk w)))):Option (l9 m5 m5)).bind fun x=>x.go some fun j=>d6R j))
theorem c22{w e_}:OK b1h [.agg (a72 w),.agg (J6 e_)] (a8X w e_):=
 o8 _ fun r h=>n9<|B0 h fun msg hmsg h=>C0 hmsg<|I6 t7 5 hmsg<|rg<|A4 h (e4s r) fun x1 h hc1=>rg<|j5 1 h (fun h=>rg<|j9 c6H d2X 4 h fun off h=>s8 w.d7<|rg<|B0 h fun node hnode h=>C0 hnode<|I6 x6 5 hnode<|j9 a2z e8U 7 h fun b6n h=>rg<|j9 U4 a91 4 h fun a3s h=>H8 w.a0 off w.d9 w.Told<|(o9 h hc1 fun hI=>sk [.kill 0 1] [2,4] [(1,0),(43,0),(43,1),(43,2),(43,3),(3,0)] hI)) (fun h=>rg<|j5 1 h (fun h=>rg<|j9 c6H d2X 4 h fun d4d h=>s8 w.d7<|(o9 h hc1 fun hI=>sk [.kill 0 1] [2,4] [(1,0),(0,0),(22,0),(0,2),(0,3),(3,0)] hI)) (fun h=>rg<|j5 1 h (fun h=>rg<|B0 h fun node1 a0u h=>C0 a0u<|I6 x6 6 a0u<|tk 8 C2<|j9 U4 a91 9 h fun b13 h=>B3 w<|E7 msg<|(o9 h hc1 fun hI=>sk [] [2,4] [(1,0),(29,0),(29,1),(29,2),(29,3),(3,0)] hI)) (fun h=>(o9 h hc1 fun hI=>sk [] [2,4] [(1,0),(0,0),(0,1),(0,2),(0,3),(3,0)] hI))))
def a28:FS (m5):=⟨17,Tryz.f17,[.val C3 []],[none,none],[.val C3 [],.val [none,none,some 4] []],fun r=>.agg (J7 r),fun _=>[none,none],Tryz.func17⟩
def e2A:m5->KS:=fun out=>⟨a28.k 6 [true,true,true],(bs 4 (.ptr 1 0 0::(.ptr 2 0 0::(bs 35 [])))),[some [],some [.var 28 [.nil,.nil,.nil,.nil]],some [.var 28 [.own 3 0 27 0 out.a0.length,.own 4 0 13 0 out.d7.length,.own 5 0 3 0 out.d9.length,.own 6 0 5 0 out.Told.length]],some [m6 54 27 x6 out.a0],some [m6 82 13 t7 out.d7],some [m6 85 3 C1 out.d9],some [m6 89 5 z5 out.Told]]⟩
def c2Q(out:m5):Option m5:=
 ((a1U out).bind fun c5c=>some c5c)
theorem e7U(r):NF a28 r e2A (fun s=>c2Q s):=fun out h=>PK<|rg<|j9 Y5 a7C 1 h fun c5c h=>B3 out<|B3 c5c<|fE h
def e6i:m5->KS:=fun out1=>⟨a28.k 7 [false,true,true,true],(bs 4 (.ptr 1 0 0::(.ptr 2 0 0::(bs 35 [])))),[some [],some [.var 28 [.nil,.nil,.nil,.nil]],some [.var 28 [.own 3 0 27 0 out1.a0.length,.own 4 0 13 0 out1.d7.length,.own 5 0 3 0 out1.d9.length,.own 6 0 5 0 out1.Told.length]],some [m6 54 27 x6 out1.a0],some [m6 82 13 t7 out1.d7],some [m6 85 3 C1 out1.d9],some [m6 89 5 z5 out1.Told]]⟩
def c3O(out1:m5):Option m5:=
 ((a1U out1).bind fun c7r=>some c7r)
theorem e3W(r):NF a28 r e6i (fun s=>c3O s):=fun out1 h=>PK<|rg<|j9 Y5 a7C 1 h fun c7r h=>B3 out1<|B3 c7r<|fE h
def e3k:m5->KS:=fun out2=>⟨a28.k 8 [false,false,true,true,true],(bs 4 (.ptr 1 0 0::(.ptr 2 0 0::(bs 35 [])))),[some [],some [.var 28 [.nil,.nil,.nil,.nil]],some [.var 28 [.own 3 0 27 0 out2.a0.length,.own 4 0 13 0 out2.d7.length,.own 5 0 3 0 out2.d9.length,.own 6 0 5 0 out2.Told.length]],some [m6 54 27 x6 out2.a0],some [m6 82 13 t7 out2.d7],some [m6 85 3 C1 out2.d9],some [m6 89 5 z5 out2.Told]]⟩
def c2k(out2:m5):Option m5:=
 ((a1U out2).bind fun c4j=>some c4j)
theorem f6e(r):NF a28 r e3k (fun s=>c2k s):=fun out2 h=>PK<|rg<|j9 Y5 a7C 1 h fun c4j h=>B3 out2<|B3 c4j<|fE h
def e29:m5->KS:=fun out3=>⟨a28.k 9 [false,false,false,true,true],(bs 4 (.ptr 1 0 0::(.ptr 2 0 0::(bs 35 [])))),[some [],some [.var 28 [.nil,.nil,.nil,.nil]],some [.var 28 [.own 3 0 27 0 out3.a0.length,.own 4 0 13 0 out3.d7.length,.own 5 0 3 0 out3.d9.length,.own 6 0 5 0 out3.Told.length]],some [m6 54 27 x6 out3.a0],some [m6 82 13 t7 out3.d7],some [m6 85 3 C1 out3.d9],some [m6 89 5 z5 out3.Told]]⟩
def b8j(out3:m5):Option m5:=
 ((a1U out3).bind fun c1R=>some c1R)
theorem f1E(r):NF a28 r e29 (fun s=>b8j s):=fun out3 h=>PK<|rg<|j9 Y5 a7C 1 h fun c1R h=>B3 out3<|B3 c1R<|fE h
def b19(w:m5)(e_:s5):Option m5:=
 ((a1U w).bind fun H6=>(bif (e_.a9==1) then ((((D7 e_.A 0 (m7 ((H6.a0.length:Int)-1))).bind fun in_=>(bif in_ then ((a5W H6 e_).bind fun d7K=>some (l9.brk d7K)) else some (l9.brk H6))):Option (l9 m5 m5)).bind fun x=>x.go some fun j=>c2Q j) else (bif (e_.a9==5) then ((((D7 e_.A 0 (m7 ((H6.a0.length:Int)-1))).bind fun in_1=>(bif in_1 then ((a5W H6 e_).bind fun d40=>some (l9.brk d40)) else some (l9.brk H6))):Option (l9 m5 m5)).bind fun x=>x.go some fun j=>c3O j) else (bif (e_.a9==6) then ((((D7 e_.A 0 (m7 ((H6.a0.length:Int)-1))).bind fun in_2=>(bif in_2 then ((a5W H6 e_).bind fun d0i=>some (l9.brk d0i)) else some (l9.brk H6))):Option (l9 m5 m5)).bind fun x=>x.go some fun j=>c2k j) else (((bif (e_.a9==7) then ((D7 e_.A 0 (m7 ((H6.a0.length:Int)-1))).bind fun a0j=>(bif a0j then ((a5W H6 e_).bind fun d7q=>some (l9.brk d7q)) else some (l9.brk H6))) else (bif (e_.a9==2) then ((D7 e_.A 0 (m7 ((H6.d7.length:Int)-1))).bind fun a4G=>(bif a4G then ((a8X H6 e_).bind fun d5j=>some (l9.brk d5j)) else some (l9.brk H6))) else (bif (e_.a9==3) then ((D7 e_.A 0 (m7 ((H6.d7.length:Int)-1))).bind fun a9V=>(bif a9V then ((a8X H6 e_).bind fun d4j=>some (l9.brk d4j)) else some (l9.brk H6))) else (bif (e_.a9==4) then ((D7 e_.A 0 (m7 ((H6.d7.length:Int)-1))).bind fun c2c=>(bif c2c then ((a8X H6 e_).bind fun d3h=>some (l9.brk d3h)) else some (l9.brk H6))) else some (l9.brk H6))))):Option (l9 m5 m5)).bind fun x=>x.go some fun j=>b8j j)))))
set_option maxRecDepth 20000 in
theorem d0I{w e_}:OK a28 [.agg (J7 w),.agg (J6 e_)] (b19 w e_):=
 o8 _ fun r h=>n9<|j9 Y5 a7C 1 h fun H6 h=>n9<|j5 1 h (fun h=>A4 h (e7U r) fun x1 h hc1=>rg<|cbE D5.t G0 h fun in_ d5R h=>cdT (D5.t 6 false in_) h (fun _ h=>ob d5R<|rg<|j9 a9j b9V 2 h fun d7K h=>B3 H6<|(o9 h hc1 fun hI=>sk [] [4,5] [(3,0),(6,0),(21,0),(21,1),(21,2),(21,3)] hI)) (fun _ h=>ob d5R<|(o9 h hc1 fun hI=>sk [] [4,5] [(3,0),(6,0),(5,0),(5,1),(5,2),(5,3)] hI))) (fun h=>rg<|j5 1 h (fun h=>A4 h (e3W r) fun x1 h hc1=>rg<|cbE D5.t G0 h fun in_1 d2u h=>cdT (D5.t 6 false in_1) h (fun _ h=>ob d2u<|rg<|j9 a9j b9V 2 h fun d40 h=>B3 H6<|(o9 h hc1 fun hI=>sk [] [4,5] [(3,0),(6,0),(23,0),(23,1),(23,2),(23,3)] hI)) (fun _ h=>ob d2u<|(o9 h hc1 fun hI=>sk [] [4,5] [(3,0),(6,0),(5,0),(5,1),(5,2),(5,3)] hI))) (fun h=>rg<|j5 1 h (fun h=>A4 h (f6e r) fun x1 h hc1=>rg<|cbE D5.t G0 h fun in_2 d3j h=>cdT (D5.t 6 false in_2) h (fun _ h=>ob d3j<|rg<|j9 a9j b9V 2 h fun d0i h=>B3 H6<|(o9 h hc1 fun hI=>sk [] [4,5] [(3,0),(6,0),(25,0),(25,1),(25,2),(25,3)] hI)) (fun _ h=>ob d3j<|(o9 h hc1 fun hI=>sk [] [4,5] [(3,0),(6,0),(5,0),(5,1),(5,2),(5,3)] hI))) (fun h=>A4 h (f1E r) fun x1 h hc1=>rg<|j5 1 h (fun h=>rg<|cbE D5.t G0 h fun a0j d65 h=>cdT (D5.t 6 false a0j) h (fun _ h=>ob d65<|rg<|j9 a9j b9V 2 h fun d7q h=>B3 H6<|(o9 h hc1 fun hI=>sk [] [4,5] [(3,0),(6,0),(27,0),(27,1),(27,2),(27,3)] hI)) (fun _ h=>ob d65<|(o9 h hc1 fun hI=>sk [] [4,5] [(3,0),(6,0),(5,0),(5,1),(5,2),(5,3)] hI))) (fun h=>rg<|j5 1 h (fun h=>rg<|cbE D5.t G0 h fun a4G d2y h=>cdT (D5.t 6 false a4G) h (fun _ h=>ob d2y<|rg<|j9 b1h c22 2 h fun d5j h=>B3 H6<|(o9 h hc1 fun hI=>sk [] [4,5] [(3,0),(6,0),(29,0),(29,1),(29,2),(29,3)] hI)) (fun _ h=>ob d2y<|(o9 h hc1 fun hI=>sk [] [4,5] [(3,0),(6,0),(5,0),(5,1),(5,2),(5,3)] hI))) (fun h=>rg<|j5 1 h (fun h=>rg<|cbE D5.t G0 h fun a9V d8j h=>cdT (D5.t 6 false a9V) h (fun _ h=>ob d8j<|rg<|j9 b1h c22 2 h fun d4j h=>B3 H6<|(o9 h hc1 fun hI=>sk [] [4,5] [(3,0),(6,0),(31,0),(31,1),(31,2),(31,3)] hI)) (fun _ h=>ob d8j<|(o9 h hc1 fun hI=>sk [] [4,5] [(3,0),(6,0),(5,0),(5,1),(5,2),(5,3)] hI))) (fun h=>rg<|j5 1 h (fun h=>rg<|cbE D5.t G0 h fun c2c d2r h=>cdT (D5.t 6 false c2c) h (fun _ h=>ob d2r<|rg<|j9 b1h c22 2 h fun d3h h=>B3 H6<|(o9 h hc1 fun hI=>sk [] [4,5] [(3,0),(6,0),(33,0),(33,1),(33,2),(33,3)] hI)) (fun _ h=>ob d2r<|(o9 h hc1 fun hI=>sk [] [4,5] [(3,0),(6,0),(5,0),(5,1),(5,2),(5,3)] hI))) (fun h=>(o9 h hc1 fun hI=>sk [] [4,5] [(3,0),(6,0),(5,0),(5,1),(5,2),(5,3)] hI))))))))
def a8g:FS (m5):=⟨4,Tryz.f4,[.val C3 []],[none,none],[.val C3 [],.val [some 3] []],fun r=>.agg (J7 r),fun _=>[none,none],Tryz.func4⟩
def c7N:m5->KS:=fun out1=>⟨a8g.k 5 [false,false],(bs 4 (.ptr 1 0 0::(.ptr 2 0 0::(bs 24 [])))),[some [],some [.var 28 [.nil,.nil,.nil,.nil]],some [.var 28 (B2 out1)]]⟩
def d0A(out1:m5):Option m5:=
 some out1
theorem f0T(r):NF a8g r c7N (fun s=>d0A s):=fun out1 h=>PK<|rg<|fE h
def e3U(events:List s5):(Int×m5)->KS:=fun (v21,out)=>⟨a8g.k 4 [false],(bs 4 (.ptr 1 0 0::(.ptr 2 0 0::(bs 13 (l7 3 J6 events::(vi (events.length:Int)::(vi v21::(bs 8 [])))))))),[some [],some [.var 28 [.nil,.nil,.nil,.nil]],some [.var 28 (B2 out)]]⟩
def a7n(events:List s5)(v21:Int)(out:m5):Option (j7 m5 (Int×m5) m5):=
 (bif decide (v21<(events.length:Int)) then ((idx events v21).bind fun c9a=>((b19 out c9a).bind fun b2n=>some (j7.nxt (m7 (v21+1),b2n)))) else some (j7.brk out))
theorem e0u(events):LQ a8g c7N (e3U events) (fun s=>a7n events s.1 s.2):=fun lc (v21,out) h=>PK<|rg<|j5 0 h (fun h=>rg<|u0 J6 0 h fun c9a f8H h=>rg<|j9 a28 d0I 2 h fun b2n h=>rg<|(lc.nx h fun hI=>sk [] [4,5,19,20,21] [(1,0),(2,0)] hI)) (fun h=>(lc.bk h fun hI=>sk [] [4,5] [(1,0),(2,0)] hI))
def b2G(w:m5)(events:List s5):Option m5:=
 ((a2L w).bind fun z9=>(bif (!z9) then some (m5.mk [] [] [] []) else (bif decide ((events.length:Int)>400) then some (m5.mk [] [] [] []) else ((a1U w).bind fun H6=>((o7 (fun s:Int×m5=>a7n events s.1 s.2) (0,H6)).bind fun x=>x.go (fun r=>some r) fun s=>d0A s)))))
theorem e9A{w events}:OK a8g [.agg (J7 w),l7 3 J6 events] (b2G w events):=
 o8 _ fun r h=>n9<|j9 L7 a4M 1 h fun z9 h=>j5 3 h (fun h=>rg<|fE h) (fun h=>j5 7 h (fun h=>rg<|fE h) (fun h=>rg<|j9 Y5 a7C 1 h fun H6 h=>rg<|lp (e0u events) h (fun _ h=>a8g.rt h) (f0T r) fun hI=>B3 H6<|sk [.frz (.cell 13 0 0) (none),.frz (.cell 13 0 1) (none),.frz (.cell 13 0 2) (none),.frz (.cell 13 0 3) (none)] [4,5,19,20,21] [(2,0),(13,0)] hI))
def a0B:FS (Bool):=⟨10,Tryz.f10,[.val [] []],[none],[.val C3 []],fun r=>.b r,fun _=>[none],Tryz.func10⟩
def c2Y:Unit->KS:=fun _=>⟨a0B.k 4 [false,false],(bs 53 []),[some []]⟩
def d8G:Option Bool:=
 some true
theorem e31(r):NF a0B r c2Y (fun s=>d8G):=fun _ h=>PK<|rg<|fE h
def d28(w:m5):Int->KS:=fun v14=>⟨a0B.k 3 [false],(bs 1 (.ptr 1 0 0::(bs 10 (l7 27 x6 w.a0::(vi (w.a0.length:Int)::(vi v14::(bs 38 []))))))),[some [],some [.var 28 (B2 w)]]⟩
def c47(w:m5)(v14:Int):Unit->KS:=fun _=>⟨a0B.k 7 [false,true,false],(bs 1 (.ptr 1 0 0::(bs 10 (l7 27 x6 w.a0::(vi (w.a0.length:Int)::(vi v14::(bs 38 []))))))),[some [],some [.var 28 (B2 w)]]⟩
def d2a(v14:Int):Option (j7 Bool Int Unit):=
 some (j7.nxt (m7 (v14+1)))
theorem f0K(w v14)(lc:D4 a0B c2Y (d28 w)):NL lc (c47 w v14) (fun s=>d2a v14):=fun _ h=>PK<|rg<|(lc.nx h fun hI=>sk [] [1,12,13,14] [(1,0)] hI)
def d8T(w:m5)(v14:Int)(node:j6):Int->KS:=fun v21=>⟨a0B.k 6 [false,true],(bs 1 (.ptr 1 0 0::(bs 2 (.ptr 2 0 0::(bs 7 (l7 27 x6 w.a0::(vi (w.a0.length:Int)::(vi v14::(bs 4 (l7 27 x6 w.a0::(vi (w.a0.length:Int)::(vi v21::(bs 31 []))))))))))))),[some [],some [.var 28 (B2 w)],some [.var 54 (Y4 node)]]⟩
def d7L(w:m5)(v14:Int)(node:j6)(v21:Int):Unit->KS:=fun _=>⟨a0B.k 10 [false,true,true,false],(bs 1 (.ptr 1 0 0::(bs 2 (.ptr 2 0 0::(bs 7 (l7 27 x6 w.a0::(vi (w.a0.length:Int)::(vi v14::(bs 4 (l7 27 x6 w.a0::(vi (w.a0.length:Int)::(vi v21::(bs 31 []))))))))))))),[some [],some [.var 28 (B2 w)],some [.var 54 (Y4 node)]]⟩
def d2s(v21:Int):Option (j7 Bool Int Unit):=
 some (j7.nxt (m7 (v21+1)))
theorem f6W(w v14 node v21)(lc:D4 a0B (c47 w v14) (d8T w v14 node)):NL lc (d7L w v14 node v21) (fun s=>d2s v21):=fun _ h=>PK<|rg<|(lc.nx h fun hI=>sk [] [1,4,12,13,14,19,20,21] [(1,0),(2,0)] hI)
def f3C(w:m5)(v14:Int)(node:j6)(v21:Int)(node1:j6):Int->KS:=fun i=>⟨a0B.k 9 [false,true,true],(bs 1 (.ptr 1 0 0::(bs 2 (.ptr 2 0 0::(bs 1 (.ptr 3 0 0::(vi i::(bs 4 (l7 27 x6 w.a0::(vi (w.a0.length:Int)::(vi v14::(bs 4 (l7 27 x6 w.a0::(vi (w.a0.length:Int)::(vi v21::(bs 31 [])))))))))))))))),[some [],some [.var 28 (B2 w)],some [.var 54 (Y4 node)],some [.var 54 (Y4 node1)]]⟩
def b4i(node:j6)(node1:j6)(i:Int):Option (j7 Bool Int Unit):=
 (bif decide (i<(node.a6.length:Int)) then (bif decide (i<(node1.a6.length:Int)) then ((idx node.a6 i).bind fun entry=>((idx node1.a6 i).bind fun a5U=>((a1H entry a5U).bind fun G8=>(bif (!G8) then some (j7.ret false) else some (j7.nxt (m7 (i+1))))))) else some (j7.brk ())) else some (j7.brk ()))
theorem e5F(w v14 node v21 node1):LQ a0B (d7L w v14 node v21) (f3C w v14 node v21 node1) (fun s=>b4i node node1 s):=fun lc i h=>PK<|rg<|j5 5 h (fun h=>j5 11 h (fun h=>rg<|u0 s6 3 h fun entry E9 h=>u0 s6 8 h fun a5U b1d h=>j9 a4c a43 10 h fun G8 h=>j5 11 h (fun h=>rg<|fL lc h) (fun h=>rg<|(lc.nx h fun hI=>sk [] [1,4,6,7,12,13,14,19,20,21] [(1,0),(2,0),(3,0)] hI))) (fun h=>(lc.bk h fun hI=>sk [] [1,4,12,13,14,19,20,21] [(1,0),(2,0)] hI))) (fun h=>(lc.bk h fun hI=>sk [] [1,4,12,13,14,19,20,21] [(1,0),(2,0)] hI))
def b4K(w:m5)(node:j6)(v21:Int):Option (j7 Bool Int Unit):=
 (bif decide (v21<(w.a0.length:Int)) then ((idx w.a0 v21).bind fun node1=>((o7 (fun s:Int=>b4i node node1 s) 0).bind fun x=>x.go (fun r=>some (j7.ret r)) fun s=>d2s v21)) else some (j7.brk ()))
theorem e7M(w v14 node):LQ a0B (c47 w v14) (d8T w v14 node) (fun s=>b4K w node s):=fun lc v21 h=>PK<|rg<|j5 0 h (fun h=>rg<|u0 x6 0 h fun node1 a0u h=>rg<|lp (e5F w v14 node v21 node1) h (fun _ h=>lc.rt h) (f6W w v14 node v21 lc) fun hI=>sk [] [1,4,6,7,12,13,14,19,20,21] [(1,0),(2,0),(6,0)] hI) (fun h=>(lc.bk h fun hI=>sk [] [1,12,13,14] [(1,0)] hI))
def b93(w:m5)(v14:Int):Option (j7 Bool Int Unit):=
 (bif decide (v14<(w.a0.length:Int)) then ((idx w.a0 v14).bind fun node=>((o7 (fun s:Int=>b4K w node s) 0).bind fun x=>x.go (fun r=>some (j7.ret r)) fun s=>d2a v14)) else some (j7.brk ()))
theorem f2j(w):LQ a0B c2Y (d28 w) (fun s=>b93 w s):=fun lc v14 h=>PK<|rg<|j5 0 h (fun h=>rg<|u0 x6 0 h fun node hnode h=>rg<|lp (e7M w v14 node) h (fun _ h=>lc.rt h) (f0K w v14 lc) fun hI=>sk [] [1,4,12,13,14,19,20,21] [(1,0),(5,0)] hI) (fun h=>(lc.bk h fun hI=>sk [] [] [] hI))
def a9Y(w:m5):Option Bool:=
 ((a2L w).bind fun z9=>(bif (!z9) then some false else ((o7 (fun s:Int=>b93 w s) 0).bind fun x=>x.go (fun r=>some r) fun s=>d8G)))
theorem d1m{w}:OK a0B [.agg (J7 w)] (a9Y w):=
 o8 _ fun r h=>n9<|j9 L7 a4M 1 h fun z9 h=>j5 2 h (fun h=>rg<|fE h) (fun h=>rg<|lp (f2j w) h (fun _ h=>a0B.rt h) (e31 r) fun hI=>sk [] [1,12,13,14] [(1,0)] hI)
def X8:FS (Bool):=⟨11,Tryz.f11,[.val [] []],[none],[.val C3 []],fun r=>.b r,fun _=>[none],Tryz.func11⟩
def c2U:Unit->KS:=fun _=>⟨X8.k 4 [false,false],(bs 80 []),[some []]⟩
def d7U:Option Bool:=
 some true
theorem d9V(r):NF X8 r c2U (fun s=>d7U):=fun _ h=>PK<|rg<|fE h
def c9u(w:m5):Int->KS:=fun v16=>⟨X8.k 3 [false],(bs 1 (.ptr 1 0 0::(bs 12 (l7 27 x6 w.a0::(vi (w.a0.length:Int)::(vi v16::(bs 63 []))))))),[some [],some [.var 28 (B2 w)]]⟩
def c7p(w:m5)(v16:Int):Unit->KS:=fun _=>⟨X8.k 7 [false,true,false],(bs 1 (.ptr 1 0 0::(bs 12 (l7 27 x6 w.a0::(vi (w.a0.length:Int)::(vi v16::(bs 63 []))))))),[some [],some [.var 28 (B2 w)]]⟩
def c4k(v16:Int):Option (j7 Bool Int Unit):=
 some (j7.nxt (m7 (v16+1)))
theorem f0D(w v16)(lc:D4 X8 c2U (c9u w)):NL lc (c7p w v16) (fun s=>c4k v16):=fun _ h=>PK<|rg<|(lc.nx h fun hI=>sk [] [1,14,15,16] [(1,0)] hI)
def d0R(w:m5)(v16:Int)(node:j6):Int->KS:=fun v23=>⟨X8.k 6 [false,true],(bs 1 (.ptr 1 0 0::(bs 2 (.ptr 2 0 0::(bs 9 (l7 27 x6 w.a0::(vi (w.a0.length:Int)::(vi v16::(bs 4 (l7 27 x6 w.a0::(vi (w.a0.length:Int)::(vi v23::(bs 56 []))))))))))))),[some [],some [.var 28 (B2 w)],some [.var 54 (Y4 node)]]⟩
def c1F(w:m5)(v16:Int)(node:j6)(v23:Int):Unit->KS:=fun _=>⟨X8.k 11 [false,true,true,false],(bs 1 (.ptr 1 0 0::(bs 2 (.ptr 2 0 0::(bs 9 (l7 27 x6 w.a0::(vi (w.a0.length:Int)::(vi v16::(bs 4 (l7 27 x6 w.a0::(vi (w.a0.length:Int)::(vi v23::(bs 56 []))))))))))))),[some [],some [.var 28 (B2 w)],some [.var 54 (Y4 node)]]⟩
def c39(v23:Int):Option (j7 Bool Int Unit):=
 some (j7.nxt (m7 (v23+1)))
theorem e6r(w v16 node v23)(lc:D4 X8 (c7p w v16) (d0R w v16 node)):NL lc (c1F w v16 node v23) (fun s=>c39 v23):=fun _ h=>PK<|rg<|(lc.nx h fun hI=>sk [] [1,4,14,15,16,21,22,23] [(1,0),(2,0)] hI)
def d5s(w:m5)(v16:Int)(node:j6)(v23:Int)(node1:j6):Int->KS:=fun i=>⟨X8.k 10 [false,true,true],(bs 1 (.ptr 1 0 0::(bs 2 (.ptr 2 0 0::(bs 2 (l7 8 q8 node.Acc.a7::(l7 8 q8 node1.Acc.a7::(vi i::(bs 4 (l7 27 x6 w.a0::(vi (w.a0.length:Int)::(vi v16::(bs 4 (l7 27 x6 w.a0::(vi (w.a0.length:Int)::(vi v23::(bs 56 []))))))))))))))))),[some [],some [.var 28 (B2 w)],some [.var 54 (Y4 node)]]⟩
def f4I(w:m5)(v16:Int)(node:j6)(v23:Int)(node1:j6)(i:Int):Unit->KS:=fun _=>⟨X8.k 12 [false,true,true,true,false],(bs 1 (.ptr 1 0 0::(bs 2 (.ptr 2 0 0::(bs 2 (l7 8 q8 node.Acc.a7::(l7 8 q8 node1.Acc.a7::(vi i::(bs 4 (l7 27 x6 w.a0::(vi (w.a0.length:Int)::(vi v16::(bs 4 (l7 27 x6 w.a0::(vi (w.a0.length:Int)::(vi v23::(bs 56 []))))))))))))))))),[some [],some [.var 28 (B2 w)],some [.var 54 (Y4 node)]]⟩
def c4s(i:Int):Option (j7 Bool Int Unit):=
 some (j7.nxt (m7 (i+1)))
theorem f0M(w v16 node v23 node1 i)(lc:D4 X8 (c1F w v16 node v23) (d5s w v16 node v23 node1)):NL lc (f4I w v16 node v23 node1 i) (fun s=>c4s i):=fun _ h=>PK<|rg<|(lc.nx h fun hI=>sk [] [1,4,7,8,9,14,15,16,21,22,23] [(1,0),(2,0)] hI)
def b3P(node:j6)(node1:j6)(i:Int):Option (j7 Bool Int Unit):=
 (bif decide (i<(node.Acc.a7.length:Int)) then (bif decide (i<(node1.Acc.a7.length:Int)) then ((((idx node.Acc.a7 i).bind fun vote=>(bif (vote.a8 != 0) then ((idx node1.Acc.a7 i).bind fun S6=>(bif (vote.a8==S6.a8) then ((a1H vote.g9 S6.g9).bind fun G8=>(bif (!G8) then some (l9.ret (j7.ret false)) else some (l9.brk ()))) else some (l9.brk ()))) else some (l9.brk ()))):Option (l9 (j7 Bool Int Unit) Unit)).bind fun x=>x.go some fun j=>c4s i) else some (j7.brk ())) else some (j7.brk ()))
theorem f8z(w v16 node v23 node1):LQ X8 (c1F w v16 node v23) (d5s w v16 node v23 node1) (fun s=>b3P node node1 s):=fun lc i h=>PK<|rg<|j5 4 h (fun h=>j5 9 h (fun h=>A4 h (f0M w v16 node v23 node1 i lc) fun x4 h hc4=>rg<|u0 q8 2 h fun vote K8 h=>j5 6 h (fun h=>I1 q8 9 K8<|u0 q8 14 h fun S6 a4k h=>j5 19 h (fun h=>I1 q8 22 K8<|I1 q8 27 a4k<|j9 a4c a43 30 h fun G8 h=>j5 32 h (fun h=>rg<|(B8 h hc4 fun h=>fL lc h)) (fun h=>(o9 h hc4 fun hI=>sk [] [1,4,7,8,9,14,15,16,21,22,23] [(1,0),(2,0)] hI))) (fun h=>(o9 h hc4 fun hI=>sk [] [1,4,7,8,9,14,15,16,21,22,23] [(1,0),(2,0)] hI))) (fun h=>(o9 h hc4 fun hI=>sk [] [1,4,7,8,9,14,15,16,21,22,23] [(1,0),(2,0)] hI))) (fun h=>(lc.bk h fun hI=>sk [] [1,4,14,15,16,21,22,23] [(1,0),(2,0)] hI))) (fun h=>(lc.bk h fun hI=>sk [] [1,4,14,15,16,21,22,23] [(1,0),(2,0)] hI))
def b3K(w:m5)(node:j6)(v23:Int):Option (j7 Bool Int Unit):=
 (bif decide (v23<(w.a0.length:Int)) then ((idx w.a0 v23).bind fun node1=>((o7 (fun s:Int=>b3P node node1 s) 0).bind fun x=>x.go (fun r=>some (j7.ret r)) fun s=>c39 v23)) else some (j7.brk ()))
theorem e21(w v16 node):LQ X8 (c7p w v16) (d0R w v16 node) (fun s=>b3K w node s):=fun lc v23 h=>PK<|rg<|j5 0 h (fun h=>rg<|u0 x6 0 h fun node1 a0u h=>n9<|lp (f8z w v16 node v23 node1) h (fun _ h=>lc.rt h) (e6r w v16 node v23 lc) fun hI=>sk [] [1,4,7,8,9,14,15,16,21,22,23] [(1,0),(2,0)] hI) (fun h=>(lc.bk h fun hI=>sk [] [1,14,15,16] [(1,0)] hI))
def b7u(w:m5)(v16:Int):Option (j7 Bool Int Unit):=
 (bif decide (v16<(w.a0.length:Int)) then ((idx w.a0 v16).bind fun node=>((o7 (fun s:Int=>b3K w node s) 0).bind fun x=>x.go (fun r=>some (j7.ret r)) fun s=>c4k v16)) else some (j7.brk ()))
theorem e8e(w):LQ X8 c2U (c9u w) (fun s=>b7u w s):=fun lc v16 h=>PK<|rg<|j5 0 h (fun h=>rg<|u0 x6 0 h fun node hnode h=>rg<|lp (e21 w v16 node) h (fun _ h=>lc.rt h) (f0D w v16 lc) fun hI=>sk [] [1,4,14,15,16,21,22,23] [(1,0),(5,0)] hI) (fun h=>(lc.bk h fun hI=>sk [] [] [] hI))
def b1N(w:m5):Option Bool:=
 ((a2L w).bind fun z9=>(bif (!z9) then some false else ((o7 (fun s:Int=>b7u w s) 0).bind fun x=>x.go (fun r=>some r) fun s=>d7U)))
theorem d7j{w}:OK X8 [.agg (J7 w)] (b1N w):=
 o8 _ fun r h=>n9<|j9 L7 a4M 1 h fun z9 h=>j5 2 h (fun h=>rg<|fE h) (fun h=>rg<|lp (e8e w) h (fun _ h=>X8.rt h) (d9V r) fun hI=>sk [] [1,14,15,16] [(1,0)] hI)
def a4W:FS (Int):=⟨31,Tryz.f31,[.val [] []],[none,none,none],[.val C3 [],.val [] [],.val J5 []],fun r=>vi r,fun _=>[none,none,none],Tryz.func31⟩
def c5V:Int->KS:=fun n1=>⟨a4W.k 4 [false],(bs 7 (vi n1::(bs 40 []))),[some []]⟩
def d1Z(n1:Int):Option Int:=
 some n1
theorem f8g(r):NF a4W r c5V (fun s=>d1Z s):=fun n1 h=>PK<|rg<|fE h
def d60(w:m5)(at_:Int)(e_:m4):(Int×Int)->KS:=fun (v13,n)=>⟨a4W.k 3 [],(bs 1 (vi at_::(bs 3 (.ptr 1 0 0::(bs 1 (vi n::(bs 3 (l7 27 x6 w.a0::(vi (w.a0.length:Int)::(vi v13::(bs 34 []))))))))))),[some [],some [.var 52 (a13 e_)]]⟩
def e1y(w:m5)(at_:Int)(e_:m4)(v13:Int):Int->KS:=fun n2=>⟨a4W.k 7 [true,true],(bs 1 (vi at_::(bs 3 (.ptr 1 0 0::(bs 1 (vi n2::(bs 3 (l7 27 x6 w.a0::(vi (w.a0.length:Int)::(vi v13::(bs 34 []))))))))))),[some [],some [.var 52 (a13 e_)]]⟩
def c64(v13:Int)(n2:Int):Option (j7 Int (Int×Int) Int):=
 some (j7.nxt (m7 (v13+1),n2))
theorem e9g(w at_ e_ v13)(lc:D4 a4W c5V (d60 w at_ e_)):NL lc (e1y w at_ e_ v13) (fun s=>c64 v13 s):=fun n2 h=>PK<|rg<|(lc.nx h fun hI=>sk [] [1,5,7,11,12,13] [(1,0)] hI)
def b0t(w:m5)(at_:Int)(e_:m4)(v13:Int)(n:Int):Option (j7 Int (Int×Int) Int):=
 (bif decide (v13<(w.a0.length:Int)) then ((idx w.a0 v13).bind fun node=>(((bif decide (at_<(node.Acc.a7.length:Int)) then ((idx node.Acc.a7 at_).bind fun vote=>(bif (vote.a8 != 0) then ((a1H vote.g9 e_).bind fun G8=>(bif G8 then some (l9.brk (m7 (n+1))) else some (l9.brk n))) else some (l9.brk n))) else some (l9.brk n)):Option (l9 (j7 Int (Int×Int) Int) Int)).bind fun x=>x.go some fun j=>c64 v13 j)) else some (j7.brk n))
theorem f5X(w at_ e_):LQ a4W c5V (d60 w at_ e_) (fun s=>b0t w at_ e_ s.1 s.2):=fun lc (v13,n) h=>PK<|rg<|j5 0 h (fun h=>rg<|u0 x6 0 h fun node hnode h=>A4 h (e9g w at_ e_ v13 lc) fun x2 h hc2=>rg<|j5 6 h (fun h=>u0 q8 11 h fun vote K8 h=>j5 16 h (fun h=>I1 q8 21 K8<|j9 a4c a43 25 h fun G8 h=>j5 26 h (fun h=>rg<|(o9 h hc2 fun hI=>sk [] [1,5,7,11,12,13] [(1,0)] hI)) (fun h=>(o9 h hc2 fun hI=>sk [] [1,5,7,11,12,13] [(1,0)] hI))) (fun h=>(o9 h hc2 fun hI=>sk [] [1,5,7,11,12,13] [(1,0)] hI))) (fun h=>(o9 h hc2 fun hI=>sk [] [1,5,7,11,12,13] [(1,0)] hI))) (fun h=>(lc.bk h fun hI=>sk [] [7] [] hI))
def b61(w:m5)(at_:Int)(e_:m4):Option Int:=
 ((o7 (fun s:Int×Int=>b0t w at_ e_ s.1 s.2) (0,0)).bind fun x=>x.go (fun r=>some r) fun s=>d1Z s)
theorem e4V{w at_ e_}:OK a4W [.agg (J7 w),vi at_,.agg (s6 e_)] (b61 w at_ e_):=
 o8 _ fun r h=>L8<|lp (f5X w at_ e_) h (fun _ h=>a4W.rt h) (f8g r) fun hI=>sk [] [1,5,7,11,12,13] [(2,0)] hI
def a2I:FS (Bool):=⟨12,Tryz.f12,[.val [] []],[none],[.val C3 []],fun r=>.b r,fun _=>[none],Tryz.func12⟩
def c3p:Unit->KS:=fun _=>⟨a2I.k 4 [false,false],(bs 32 []),[some []]⟩
def d3P:Option Bool:=
 some true
theorem e7g(r):NF a2I r c3p (fun s=>d3P):=fun _ h=>PK<|rg<|fE h
def d2o(w:m5):Int->KS:=fun v13=>⟨a2I.k 3 [false],(bs 1 (.ptr 1 0 0::(bs 9 (l7 27 x6 w.a0::(vi (w.a0.length:Int)::(vi v13::(bs 18 []))))))),[some [],some [.var 28 (B2 w)]]⟩
def c8n(w:m5)(v13:Int):Unit->KS:=fun _=>⟨a2I.k 7 [false,true,false],(bs 1 (.ptr 1 0 0::(bs 9 (l7 27 x6 w.a0::(vi (w.a0.length:Int)::(vi v13::(bs 18 []))))))),[some [],some [.var 28 (B2 w)]]⟩
def c5y(v13:Int):Option (j7 Bool Int Unit):=
 some (j7.nxt (m7 (v13+1)))
theorem e7L(w v13)(lc:D4 a2I c3p (d2o w)):NL lc (c8n w v13) (fun s=>c5y v13):=fun _ h=>PK<|rg<|(lc.nx h fun hI=>sk [] [1,11,12,13] [(1,0)] hI)
def f2J(w:m5)(v13:Int)(node:j6):Int->KS:=fun v20=>⟨a2I.k 6 [false,true],(bs 1 (.ptr 1 0 0::(bs 9 (l7 27 x6 w.a0::(vi (w.a0.length:Int)::(vi v13::(bs 4 (l7 7 s6 node.a6::(vi (node.a6.length:Int)::(vi v20::(bs 11 []))))))))))),[some [],some [.var 28 (B2 w)]]⟩
def b35(w:m5)(node:j6)(v20:Int):Option (j7 Bool Int Unit):=
 (bif decide (v20<(node.a6.length:Int)) then ((idx node.a6 v20).bind fun entry=>((b61 w v20 entry).bind fun d10=>(bif decide (d10<2) then some (j7.ret false) else some (j7.nxt (m7 (v20+1)))))) else some (j7.brk ()))
theorem f4h(w v13 node):LQ a2I (c8n w v13) (f2J w v13 node) (fun s=>b35 w node s):=fun lc v20 h=>PK<|rg<|j5 0 h (fun h=>rg<|u0 s6 1 h fun entry E9 h=>rg<|j9 a4W e4V 3 h fun d10 h=>j5 4 h (fun h=>rg<|fL lc h) (fun h=>rg<|(lc.nx h fun hI=>sk [] [1,11,12,13,18,19,20] [(1,0)] hI))) (fun h=>(lc.bk h fun hI=>sk [] [1,11,12,13] [(1,0)] hI))
def b78(w:m5)(v13:Int):Option (j7 Bool Int Unit):=
 (bif decide (v13<(w.a0.length:Int)) then ((idx w.a0 v13).bind fun node=>((o7 (fun s:Int=>b35 w node s) 0).bind fun x=>x.go (fun r=>some (j7.ret r)) fun s=>c5y v13)) else some (j7.brk ()))
theorem f6I(w):LQ a2I c3p (d2o w) (fun s=>b78 w s):=fun lc v13 h=>PK<|rg<|j5 0 h (fun h=>rg<|u0 x6 0 h fun node hnode h=>rg<|lp (f4h w v13 node) h (fun _ h=>lc.rt h) (e7L w v13 lc) fun hI=>sk [] [1,11,12,13,18,19,20] [(1,0)] hI) (fun h=>(lc.bk h fun hI=>sk [] [] [] hI))
def b1F(w:m5):Option Bool:=
 ((a2L w).bind fun z9=>(bif (!z9) then some false else ((o7 (fun s:Int=>b78 w s) 0).bind fun x=>x.go (fun r=>some r) fun s=>d3P)))
theorem d67{w}:OK a2I [.agg (J7 w)] (b1F w):=
 o8 _ fun r h=>n9<|j9 L7 a4M 1 h fun z9 h=>j5 2 h (fun h=>rg<|fE h) (fun h=>rg<|lp (f6I w) h (fun _ h=>a2I.rt h) (e7g r) fun hI=>sk [] [1,11,12,13] [(1,0)] hI)
def a0v:FS (Bool):=⟨13,Tryz.f13,[.val [] []],[none],[.val C3 []],fun r=>.b r,fun _=>[none],Tryz.func13⟩
def b8k:Unit->KS:=fun _=>⟨a0v.k 4 [false,false],(bs 80 []),[some []]⟩
def d08:Option Bool:=
 some true
theorem f3g(r):NF a0v r b8k (fun s=>d08):=fun _ h=>PK<|rg<|fE h
def c1j(w:m5):Int->KS:=fun v15=>⟨a0v.k 3 [false],(bs 1 (.ptr 1 0 0::(bs 11 (l7 27 x6 w.a0::(vi (w.a0.length:Int)::(vi v15::(bs 64 []))))))),[some [],some [.var 28 (B2 w)]]⟩
def c4K(w:m5)(v15:Int)(node:j6):Unit->KS:=fun _=>⟨a0v.k 7 [false,true,false],(bs 1 (.ptr 1 0 0::(bs 2 (.ptr 2 0 0::(bs 8 (l7 27 x6 w.a0::(vi (w.a0.length:Int)::(vi v15::(bs 64 []))))))))),[some [],some [.var 28 (B2 w)],some [.var 54 (Y4 node)]]⟩
def e5J(w:m5)(v15:Int):Unit->KS:=fun _=>⟨a0v.k 12 [false,true,false,false,false,false],(bs 1 (.ptr 1 0 0::(bs 11 (l7 27 x6 w.a0::(vi (w.a0.length:Int)::(vi v15::(bs 64 []))))))),[some [],some [.var 28 (B2 w)]]⟩
def c6F(v15:Int):Option (j7 Bool Int Unit):=
 some (j7.nxt (m7 (v15+1)))
theorem e4y(w v15)(lc:D4 a0v b8k (c1j w)):NL lc (e5J w v15) (fun s=>c6F v15):=fun _ h=>PK<|rg<|(lc.nx h fun hI=>sk [] [1,13,14,15] [(1,0)] hI)
def c1g(v15:Int)(node:j6):Option (j7 Bool Int Unit):=
 (bif (node.d6 != 3) then some (j7.nxt (m7 (v15+1))) else (bif decide ((node.a6.length:Int)>=(node.Acc.a7.length:Int)) then some (j7.ret false) else ((idx node.Acc.a7 (node.a6.length:Int)).bind fun vote=>(((bif decide (vote.a8<node.a8) then some (l9.ret (j7.ret false)) else (bif (vote.a8==node.a8) then ((a1H vote.g9 node.c8).bind fun G8=>(bif (!G8) then some (l9.ret (j7.ret false)) else some (l9.brk ()))) else some (l9.brk ()))):Option (l9 (j7 Bool Int Unit) Unit)).bind fun x=>x.go some fun j=>c6F v15))))
theorem e1j(w v15 node)(lc:D4 a0v b8k (c1j w)):NL lc (c4K w v15 node) (fun s=>c1g v15 node):=fun _ h=>PK<|rg<|j5 2 h (fun h=>rg<|(lc.nx h fun hI=>sk [] [1,13,14,15] [(1,0)] hI)) (fun h=>n9<|j5 5 h (fun h=>rg<|fL lc h) (fun h=>rg<|u0 q8 4 h fun vote K8 h=>A4 h (e4y w v15 lc) fun x2 h hc2=>rg<|j5 5 h (fun h=>rg<|(B8 h hc2 fun h=>fL lc h)) (fun h=>j5 11 h (fun h=>j9 a4c a43 16 h fun G8 h=>j5 19 h (fun h=>rg<|(B8 h hc2 fun h=>fL lc h)) (fun h=>(o9 h hc2 fun hI=>sk [] [1,13,14,15] [(1,0)] hI))) (fun h=>(o9 h hc2 fun hI=>sk [] [1,13,14,15] [(1,0)] hI)))))
def c85(w:m5)(v15:Int)(node:j6):Int->KS:=fun v26=>⟨a0v.k 6 [false,true],(bs 1 (.ptr 1 0 0::(bs 2 (.ptr 2 0 0::(bs 8 (l7 27 x6 w.a0::(vi (w.a0.length:Int)::(vi v15::(bs 8 (l7 27 x6 ((w.a0.drop (m7 (v15+1)).toNat).take (w.a0.length-(m7 (v15+1)).toNat))::(vi (((w.a0.drop (m7 (v15+1)).toNat).take (w.a0.length-(m7 (v15+1)).toNat)).length:Int)::(vi v26::(bs 53 []))))))))))))),[some [],some [.var 28 (B2 w)],some [.var 54 (Y4 node)]]⟩
def f1o(w:m5)(v15:Int)(node:j6)(v26:Int):Unit->KS:=fun _=>⟨a0v.k 9 [false,true,true,false],(bs 1 (.ptr 1 0 0::(bs 2 (.ptr 2 0 0::(bs 8 (l7 27 x6 w.a0::(vi (w.a0.length:Int)::(vi v15::(bs 8 (l7 27 x6 ((w.a0.drop (m7 (v15+1)).toNat).take (w.a0.length-(m7 (v15+1)).toNat))::(vi (((w.a0.drop (m7 (v15+1)).toNat).take (w.a0.length-(m7 (v15+1)).toNat)).length:Int)::(vi v26::(bs 53 []))))))))))))),[some [],some [.var 28 (B2 w)],some [.var 54 (Y4 node)]]⟩
def c4u(v26:Int):Option (j7 Bool Int Unit):=
 some (j7.nxt (m7 (v26+1)))
theorem e3V(w v15 node v26)(lc:D4 a0v (c4K w v15 node) (c85 w v15 node)):NL lc (f1o w v15 node v26) (fun s=>c4u v26):=fun _ h=>PK<|rg<|(lc.nx h fun hI=>sk [] [1,4,13,14,15,24,25,26] [(1,0),(2,0)] hI)
def b5y(w:m5)(v15:Int)(node:j6)(v26:Int):Option (j7 Bool Int Unit):=
 (bif decide (v26<(((w.a0.drop (m7 (v15+1)).toNat).take (w.a0.length-(m7 (v15+1)).toNat)).length:Int)) then ((idx ((w.a0.drop (m7 (v15+1)).toNat).take (w.a0.length-(m7 (v15+1)).toNat)) v26).bind fun node1=>(((bif (node.a8 != 0) then (bif (node.a8==node1.a8) then some (l9.ret (j7.ret false)) else some (l9.brk ())) else some (l9.brk ())):Option (l9 (j7 Bool Int Unit) Unit)).bind fun x=>x.go some fun j=>c4u v26)) else some (j7.brk ()))
theorem f3L(w v15 node):LQ a0v (c4K w v15 node) (c85 w v15 node) (fun s=>b5y w v15 node s):=fun lc v26 h=>PK<|rg<|j5 0 h (fun h=>rg<|u0 x6 0 h fun node1 a0u h=>A4 h (e3V w v15 node v26 lc) fun x3 h hc3=>rg<|j5 3 h (fun h=>j5 9 h (fun h=>rg<|(B8 h hc3 fun h=>fL lc h)) (fun h=>(o9 h hc3 fun hI=>sk [] [1,4,13,14,15,24,25,26] [(1,0),(2,0)] hI))) (fun h=>(o9 h hc3 fun hI=>sk [] [1,4,13,14,15,24,25,26] [(1,0),(2,0)] hI))) (fun h=>(lc.bk h fun hI=>sk [] [1,4,13,14,15] [(1,0),(2,0)] hI))
def b6q(w:m5)(v15:Int):Option (j7 Bool Int Unit):=
 (bif decide (v15<(w.a0.length:Int)) then ((idx w.a0 v15).bind fun node=>(t5 ((0:Int)<=m7 (v15+1)/\m7 (v15+1)<=(w.a0.length:Int)) (((o7 (fun s:Int=>b5y w v15 node s) 0).bind fun x=>x.go (fun r=>some (j7.ret r)) fun s=>c1g v15 node)))) else some (j7.brk ()))
theorem e5P(w):LQ a0v b8k (c1j w) (fun s=>b6q w s):=fun lc v15 h=>PK<|rg<|j5 0 h (fun h=>rg<|u0 x6 1 h fun node hnode h=>rg<|t9 h fun e1 h=>om (V.sl 27 (w.a0.length-(m7 (v15+1)).toNat) (((w.a0.map x6).drop (m7 (v15+1)).toNat).take (w.a0.length-(m7 (v15+1)).toNat))=l7 27 x6 ((w.a0.drop (m7 (v15+1)).toNat).take (w.a0.length-(m7 (v15+1)).toNat))) (b33 e1)<|ob e1.1<|ob e1.2<|tl (4,{v:=some (l7 27 x6 ((w.a0.drop (m7 (v15+1)).toNat).take (w.a0.length-(m7 (v15+1)).toNat)))})<|lp (f3L w v15 node) h (fun _ h=>lc.rt h) (e1j w v15 node lc) fun hI=>sk [] [1,4,13,14,15,24,25,26] [(1,0),(6,0)] hI) (fun h=>(lc.bk h fun hI=>sk [] [] [] hI))
def b1k(w:m5):Option Bool:=
 ((a2L w).bind fun z9=>(bif (!z9) then some false else ((o7 (fun s:Int=>b6q w s) 0).bind fun x=>x.go (fun r=>some r) fun s=>d08)))
theorem d5b{w}:OK a0v [.agg (J7 w)] (b1k w):=
 o8 _ fun r h=>n9<|j9 L7 a4M 1 h fun z9 h=>j5 2 h (fun h=>rg<|fE h) (fun h=>rg<|lp (e5P w) h (fun _ h=>a0v.rt h) (f3g r) fun hI=>sk [] [1,13,14,15] [(1,0)] hI)
def a37:FS (List m4):=⟨32,Tryz.f32,[.val [some 7] []],[none],[.val C3 []],fun r=>l7 7 s6 r,fun _=>[none],Tryz.func32⟩
def c41(w:m5):Int->KS:=fun a30=>⟨a37.k 4 [false],(bs 1 (.ptr 1 0 0::(bs 1 (vi a30::(bs 36 []))))),[some [],some [.var 28 (B2 w)]]⟩
def c29(w:m5)(a30:Int):Option (List m4):=
 (bif decide (a30<0) then some [] else ((idx w.a0 a30).bind fun node=>((b0Y node.a6).bind fun a74=>some a74)))
theorem e7a(w)(r):NF a37 r (c41 w) (fun s=>c29 w s):=fun a30 h=>PK<|rg<|j5 1 h (fun h=>rg<|fE h) (fun h=>rg<|u0 x6 3 h fun node hnode h=>j9 a5l c6B 6 h fun a74 h=>s8 a74<|fE h)
def d4D(w:m5):(Int×Int)->KS:=fun (best,v9)=>⟨a37.k 3 [],(bs 1 (.ptr 1 0 0::(bs 1 (vi best::(bs 3 (l7 27 x6 w.a0::(vi (w.a0.length:Int)::(vi v9::(bs 30 []))))))))),[some [],some [.var 28 (B2 w)]]⟩
def f3j(w:m5)(v9:Int):Int->KS:=fun a5m=>⟨a37.k 7 [true,true],(bs 1 (.ptr 1 0 0::(bs 1 (vi a5m::(bs 3 (l7 27 x6 w.a0::(vi (w.a0.length:Int)::(vi v9::(bs 30 []))))))))),[some [],some [.var 28 (B2 w)]]⟩
def b7s(v9:Int)(a5m:Int):Option (j7 (List m4) (Int×Int) Int):=
 some (j7.nxt (a5m,m7 (v9+1)))
theorem f0d(w v9)(lc:D4 a37 (c41 w) (d4D w)):NL lc (f3j w v9) (fun s=>b7s v9 s):=fun a5m h=>PK<|rg<|(lc.nx h fun hI=>sk [] [1,3,7,8,9] [(1,0)] hI)
def a5O(w:m5)(best:Int)(v9:Int):Option (j7 (List m4) (Int×Int) Int):=
 (bif decide (v9<(w.a0.length:Int)) then ((idx w.a0 v9).bind fun node1=>(((bif decide (best<0) then some (l9.brk v9) else ((idx w.a0 best).bind fun a59=>(bif decide ((node1.a6.length:Int)>(a59.a6.length:Int)) then some (l9.brk v9) else some (l9.brk best)))):Option (l9 (j7 (List m4) (Int×Int) Int) Int)).bind fun x=>x.go some fun j=>b7s v9 j)) else some (j7.brk best))
theorem e2N(w):LQ a37 (c41 w) (d4D w) (fun s=>a5O w s.1 s.2):=fun lc (best,v9) h=>PK<|rg<|j5 0 h (fun h=>rg<|u0 x6 1 h fun node1 a0u h=>A4 h (f0d w v9 lc) fun x2 h hc2=>rg<|j5 2 h (fun h=>rg<|(o9 h hc2 fun hI=>sk [] [1,3,7,8,9] [(1,0)] hI)) (fun h=>u0 x6 9 h fun a59 d43 h=>j5 14 h (fun h=>rg<|(o9 h hc2 fun hI=>sk [] [1,3,7,8,9] [(1,0)] hI)) (fun h=>(o9 h hc2 fun hI=>sk [] [1,3,7,8,9] [(1,0)] hI)))) (fun h=>(lc.bk h fun hI=>sk [] [1,3] [(1,0)] hI))
def b4U(w:m5):Option (List m4):=
 ((o7 (fun s:Int×Int=>a5O w s.1 s.2) ((-1),0)).bind fun x=>x.go (fun r=>some r) fun s=>c29 w s)
theorem d6d{w}:OK a37 [.agg (J7 w)] (b4U w):=
 o8 _ fun r h=>L8<|lp (e2N w) h (fun _ h=>a37.rt h) (e7a w r) fun hI=>sk [] [1,3,7,8,9] [(1,0)] hI
def c4O:FS (List n5):=⟨79,Tryz.f79,[.val [some 2] [some 46]],[none],[.val [some 2] []],fun r=>v6 46 2 F4 r,fun _=>[none],Tryz.func79⟩
def b9j(list:List n5):Option (List n5):=
 (bif ((list.length:Int)==0) then some [] else (t5 (0<=(list.length:Int)/\(list.length:Int)*16<=140737488355328) ((t5 (list.length=(f8O (list.length:Int).toNat (n5.mk 0 0)).length) (some list)))))
theorem e5j{list}:OK c4O [l7 2 F4 list] (b9j list):=
 o8 _ fun r h=>n9<|j5 2 h (fun h=>rg<|fE h) (fun h=>rg<|t9 h fun e1 h=>S8 2 7 46 2 16 F4 (n5.mk 0 0) c37 (.none) e1 (by decide) (by rfl)<|rg<|t9 h fun e2 h=>om (s9.row 46 2 (f8O (list.length:Int).toNat (n5.mk 0 0)).length (list.map F4)=m6 46 2 F4 list) (a1h e2)<|s8 (f8O (list.length:Int).toNat (n5.mk 0 0))<|ob e2<|tl (2,{e:=some (m6 46 2 F4 list)})<|rg<|om ((f8O (list.length:Int).toNat (n5.mk 0 0)).length=list.length) (by simp)<|fE h)
def a4Q:FS (List n5):=⟨33,Tryz.f33,[.val [some 2] []],[none],[.val [some 7] []],fun r=>l7 2 F4 r,fun _=>[none],Tryz.func33⟩
def c2W:(List n5)->KS:=fun out1=>⟨a4Q.k 6 [false,false],(bs 5 (.own 1 0 2 0 out1.length::(bs 30 []))),[some [],some [m6 46 2 F4 out1]]⟩
def c4z(out1:List n5):Option (List n5):=
 ((b9j out1).bind fun req=>some req)
theorem f2i(r):NF a4Q r c2W (fun s=>c4z s):=fun out1 h=>PK<|rg<|cbS c4O e5j 1 (fun _=>(by simp [c4O,L2,R8,O1,V.simple,vi,v6,eI,F4])) (fun _=>(Q4 1)) h fun req h=>C9 out1 req<|fE h
def d2c(list:List m4)(p6:u5×List Int):((List n5)×Int)->KS:=fun (out,v18)=>⟨a4Q.k 5 [false],(bs 4 (.own 1 0 1 0 p6.2.length::(.own 2 0 2 0 out.length::(bs 10 (l7 7 s6 list::(vi (list.length:Int)::(vi v18::(bs 17 [])))))))),[some [],some [m6 3 1 eI p6.2],some [m6 46 2 F4 out]]⟩
def d9J(list:List m4)(p6:u5×List Int)(v18:Int):(List n5)->KS:=fun out2=>⟨a4Q.k 9 [false,true,true],(bs 4 (.own 1 0 1 0 p6.2.length::(.own 2 0 2 0 out2.length::(bs 10 (l7 7 s6 list::(vi (list.length:Int)::(vi v18::(bs 17 [])))))))),[some [],some [m6 3 1 eI p6.2],some [m6 46 2 F4 out2]]⟩
def c2R(v18:Int)(out2:List n5):Option (j7 (List n5) ((List n5)×Int) (List n5)):=
 some (j7.nxt (out2,m7 (v18+1)))
theorem e65(list p6 v18)(lc:D4 a4Q c2W (d2c list p6)):NL lc (d9J list p6 v18) (fun s=>c2R v18 s):=fun out2 h=>PK<|rg<|(lc.nx h fun hI=>sk [] [4,5,16,17,18] [(1,0),(2,0)] hI)
def a97(list:List m4)(p6:u5×List Int)(out:List n5)(v18:Int):Option (j7 (List n5) ((List n5)×Int) (List n5)):=
 (bif decide (v18<(list.length:Int)) then ((idx list v18).bind fun entry=>((((idx p6.2 v18).bind fun y=>(bif (y==0) then (t5 ((out.length+1)*16<=140737488355328) (some (l9.brk (out++[entry.a5])))) else some (l9.brk out))):Option (l9 (j7 (List n5) ((List n5)×Int) (List n5)) (List n5))).bind fun x=>x.go some fun j=>c2R v18 j)) else some (j7.brk out))
theorem e5U(list p6):LQ a4Q c2W (d2c list p6) (fun s=>a97 list p6 s.1 s.2):=fun lc (out,v18) h=>PK<|rg<|j5 0 h (fun h=>rg<|u0 s6 1 h fun entry E9 h=>A4 h (e65 list p6 v18 lc) fun x2 h hc2=>rg<|B0 h fun y hy h=>C0 hy<|I6 eI 3 hy<|j5 4 h (fun h=>rg<|tk 3 []<|t9 h fun e1 h=>F7 4 19 46 2 16 F4 out entry.a5 e1<|E7 entry.a5<|(o9 h hc2 fun hI=>sk [] [4,5,16,17,18] [(1,0),(19,0)] hI)) (fun h=>(o9 h hc2 fun hI=>sk [] [4,5,16,17,18] [(1,0),(2,0)] hI))) (fun h=>(lc.bk h fun hI=>sk [] [5] [(2,0)] hI))
def c0B(list:List m4):Option (List n5):=
 ((b0z list).bind fun G4=>(bif (!G4) then some [] else ((a80 list).bind fun p6=>((o7 (fun s:(List n5)×Int=>a97 list p6 s.1 s.2) ([],0)).bind fun x=>x.go (fun r=>some r) fun s=>c4z s))))
theorem f6A{list}:OK a4Q [l7 7 s6 list] (c0B list):=
 o8 _ fun r h=>n9<|j9 a5J c6g 1 h fun G4 h=>j5 2 h (fun h=>rg<|fE h) (fun h=>rg<|j9 a3w c1d 1 h fun p6 h=>n9<|lp (e5U list p6) h (fun _ h=>a4Q.rt h) (f2i r) fun hI=>sk [.own (.tmp 5) 46 2] [4,5,16,17,18] [(6,2),(17,0)] hI)
def a8r:FS ((List n8)×Bool):=⟨34,Tryz.f34,[.val [some 4] [some 98],.val [] []],[none,none],[.val C3 [],.val [] []],fun r=>.tup [v6 98 4 A6 r.1,.b r.2],fun _=>[none,none],Tryz.func34⟩
def d0h:Unit->KS:=fun _=>⟨a8r.k 3 [false],(bs 23 []),[some []]⟩
def d3g:Option ((List n8)×Bool):=
 some ([],false)
theorem e0W(r):NF a8r r d0h (fun s=>d3g):=fun _ h=>PK<|rg<|fE h
def e0a(w:m5)(q:n5):Int->KS:=fun v11=>⟨a8r.k 2 [],(bs 3 (.ptr 1 0 0::(bs 5 (l7 3 C1 w.d9::(vi (w.d9.length:Int)::(vi v11::(bs 11 []))))))),[some [],some [.var 46 [vi q.b9,vi q.Seq]]]⟩
def b8J(w:m5)(q:n5)(v11:Int):Option (j7 ((List n8)×Bool) Int Unit):=
 (bif decide (v11<(w.d9.length:Int)) then ((idx w.d9 v11).bind fun asked=>(bif (([asked.a5.b9,asked.a5.Seq]:List Int)==[q.b9,q.Seq]) then ((a9x asked.i6).bind fun ins=>some (j7.ret (ins,true))) else some (j7.nxt (m7 (v11+1))))) else some (j7.brk ()))
theorem e8l(w q):LQ a8r d0h (e0a w q) (fun s=>b8J w q s):=fun lc v11 h=>PK<|rg<|j5 0 h (fun h=>rg<|u0 C1 0 h fun asked a8z h=>rg<|j5 3 h (fun h=>rg<|j9 c0u c2a 2 h fun ins h=>s8 ins<|fL lc h) (fun h=>rg<|(lc.nx h fun hI=>sk [] [3,9,10,11] [(1,0)] hI))) (fun h=>(lc.bk h fun hI=>sk [] [] [] hI))
def b5W(w:m5)(q:n5):Option ((List n8)×Bool):=
 ((o7 (fun s:Int=>b8J w q s) 0).bind fun x=>x.go (fun r=>some r) fun s=>d3g)
theorem e4A{w q}:OK a8r [.agg (J7 w),.agg (F4 q)] (b5W w q):=
 o8 _ fun r h=>n9<|lp (e8l w q) h (fun _ h=>a8r.rt h) (e0W r) fun hI=>sk [] [3,9,10,11] [(2,0)] hI
def d0E:FS ((List m9)×Int×Int):=⟨82,Tryz.f82,[.val [some 2] [],.val [] [],.val [] []],[none,none],[.val [some 2] [],.val [some 4] []],fun r=>.tup [l7 2 x7 r.1,vi r.2.1,vi r.2.2],fun _=>[none,none],Tryz.func82⟩
def b9o(list:List m9)(prog:List n8):Option ((List m9)×Int×Int):=
 ((b2t list prog).bind fun B5=>(bif (B5.Code==3) then some ([],0,3) else ((b2K list B5).bind fun b0X=>some (b0X,B5.d8,B5.Code))))
theorem e0E{list prog}:OK d0E [l7 2 x7 list,l7 4 A6 prog] (b9o list prog):=
 o8 _ fun r h=>n9<|j9 R0 d7o 2 h fun B5 h=>rg<|j5 2 h (fun h=>rg<|fE h) (fun h=>rg<|j9 a5V d2V 2 h fun b0X h=>s8 b0X<|fE h)
def c4V:FS (List Int):=⟨83,Tryz.f83,[.val [some 1] [some 3]],[none],[.val [some 1] []],fun r=>v6 3 1 eI r,fun _=>[none],Tryz.func83⟩
def c0O(list:List Int):Option (List Int):=
 (bif ((list.length:Int)==0) then some [] else (t5 (0<=(list.length:Int)/\(list.length:Int)*8<=140737488355328) ((t5 (list.length=(f8O (list.length:Int).toNat (0:Int)).length) (some list)))))
theorem e2L{list}:OK c4V [l7 1 eI list] (c0O list):=
 o8 _ fun r h=>n9<|j5 2 h (fun h=>rg<|fE h) (fun h=>rg<|t9 h fun e1 h=>S8 2 7 3 1 8 eI (0:Int) ti3 (.none) e1 (by decide) (by rfl)<|rg<|t9 h fun e2 h=>om (s9.row 3 1 (f8O (list.length:Int).toNat (0:Int)).length (list.map eI)=m6 3 1 eI list) (a1h e2)<|s8 (f8O (list.length:Int).toNat (0:Int))<|ob e2<|tl (2,{e:=some (m6 3 1 eI list)})<|rg<|om ((f8O (list.length:Int).toNat (0:Int)).length=list.length) (by simp)<|fE h)
def a78:FS ((List m9)×List Int):=⟨35,Tryz.f35,[.val [some 2] [],.val [some 1] []],[none,none],[.val [some 2] [],.val [some 1] []],fun r=>.tup [l7 2 x7 r.1,l7 1 eI r.2],fun _=>[none,none],Tryz.func35⟩
def d0q:((List Int)×List m9)->KS:=fun (vals1,now1)=>⟨a78.k 6 [false,false],(bs 6 (l7 2 x7 now1::(.own 1 0 1 0 vals1.length::(bs 39 [])))),[some [],some [m6 3 1 eI vals1]]⟩
def b8G(vals1:List Int)(now1:List m9):Option ((List m9)×List Int):=
 ((c0O vals1).bind fun int=>some (now1,int))
theorem e6W(r):NF a78 r d0q (fun s=>b8G s.1 s.2):=fun (vals1,now1) h=>PK<|rg<|cbS c4V e2L 2 (fun _=>(by simp [c4V,L2,R8,O1,V.simple,vi,v6,eI])) (fun _=>(Q4 1)) h fun int h=>C9 vals1 int<|fE h
def f7z(progs:List (List n8)):((List Int)×Int×List m9)->KS:=fun (vals,v25,now)=>⟨a78.k 5 [false],(bs 6 (l7 2 x7 now::(.own 1 0 1 0 vals.length::(bs 15 (l7 1 a10 progs::(vi (progs.length:Int)::(vi v25::(bs 21 [])))))))),[some [],some [m6 3 1 eI vals]]⟩
def a9O(progs:List (List n8))(vals:List Int)(v25:Int)(now:List m9):Option (j7 ((List m9)×List Int) ((List Int)×Int×List m9) ((List Int)×List m9)):=
 (bif decide (v25<(progs.length:Int)) then ((idx progs v25).bind fun y=>((b9o now y).bind fun G9=>(bif (G9.2.2==3) then some (j7.ret ([],[])) else (t5 ((vals.length+1)*8<=140737488355328) (some (j7.nxt (vals++[G9.2.1],m7 (v25+1),G9.1))))))) else some (j7.brk (vals,now)))
theorem e3O(progs):LQ a78 d0q (f7z progs) (fun s=>a9O progs s.1 s.2.1 s.2.2):=fun lc (vals,v25,now) h=>PK<|rg<|j5 0 h (fun h=>rg<|u0 a10 0 h fun y hy h=>rg<|j9 d0E e0E 2 h fun G9 h=>rg<|j5 1 h (fun h=>rg<|fL lc h) (fun h=>n9<|tk 2 []<|t9 h fun e1 h=>F7 3 23 3 1 8 eI vals G9.2.1 e1<|E7 G9.2.1<|rg<|(lc.nx h fun hI=>sk [] [6,7,23,24,25] [(23,0)] hI))) (fun h=>(lc.bk h fun hI=>sk [] [6,7] [(1,0)] hI))
def b6D(list:List m9)(progs:List (List n8)):Option ((List m9)×List Int):=
 ((a6h list).bind fun S4=>(bif (!S4) then some ([],[]) else (bif decide ((progs.length:Int)>100) then some ([],[]) else ((a7E list).bind fun box=>((o7 (fun s:(List Int)×Int×List m9=>a9O progs s.1 s.2.1 s.2.2) ([],0,box)).bind fun x=>x.go (fun r=>some r) fun s=>b8G s.1 s.2)))))
theorem e7e{list progs}:OK a78 [l7 2 x7 list,l7 1 a10 progs] (b6D list progs):=
 o8 _ fun r h=>n9<|j9 a20 b3t 1 h fun S4 h=>j5 3 h (fun h=>rg<|fE h) (fun h=>j5 7 h (fun h=>rg<|fE h) (fun h=>rg<|j9 c0K c3G 1 h fun box h=>n9<|lp (e3O progs) h (fun _ h=>a78.rt h) (e6W r) fun hI=>s8 box<|sk [.frz (.tmp 6) (none),.own (.tmp 7) 3 1] [6,7,23,24,25] [(18,0)] hI))
def a8q:FS (Bool):=⟨84,Tryz.f84,[.val [] []],[none,none],[.val [some 2] [],.val [some 2] []],fun r=>.b r,fun _=>[none,none],Tryz.func84⟩
def d1s:Unit->KS:=fun _=>⟨a8q.k 4 [false,false],(bs 26 []),[some []]⟩
def c8z:Option Bool:=
 some true
theorem f6K(r):NF a8q r d1s (fun s=>c8z):=fun _ h=>PK<|rg<|fE h
def f6t(a:List m9)(b:List m9):Int->KS:=fun v13=>⟨a8q.k 3 [false],(l7 2 x7 a::(l7 2 x7 b::(bs 10 (vi (a.length:Int)::(vi v13::(bs 12 [])))))),[some []]⟩
def b65(a:List m9)(b:List m9)(v13:Int):Option (j7 Bool Int Unit):=
 (bif decide (v13<(a.length:Int)) then ((idx a v13).bind fun box=>((idx b v13).bind fun P8=>(bif (!(([box.j4,box.d8]:List Int)==[P8.j4,P8.d8])) then some (j7.ret false) else some (j7.nxt (m7 (v13+1)))))) else some (j7.brk ()))
theorem e6t(a b):LQ a8q d1s (f6t a b) (fun s=>b65 a b s):=fun lc v13 h=>PK<|rg<|j5 0 h (fun h=>n9<|u0 x7 2 h fun box a11 h=>u0 x7 6 h fun P8 a7u h=>j5 8 h (fun h=>rg<|fL lc h) (fun h=>rg<|(lc.nx h fun hI=>sk [] [0,1,12,13] [] hI))) (fun h=>(lc.bk h fun hI=>sk [] [] [] hI))
def c3j(a:List m9)(b:List m9):Option Bool:=
 (bif ((a.length:Int) != (b.length:Int)) then some false else ((o7 (fun s:Int=>b65 a b s) 0).bind fun x=>x.go (fun r=>some r) fun s=>c8z))
theorem f7u{a b}:OK a8q [l7 2 x7 a,l7 2 x7 b] (c3j a b):=
 o8 _ fun r h=>n9<|j5 4 h (fun h=>rg<|fE h) (fun h=>rg<|lp (e6t a b) h (fun _ h=>a8q.rt h) (f6K r) fun hI=>sk [] [0,1,12,13] [] hI)
def d5v:FS (Bool):=⟨37,Tryz.f37,[.val [] []],[none,none],[.val [some 2] [],.val [some 2] []],fun r=>.b r,fun _=>[none,none],Tryz.func37⟩
def b6j(a:List m9)(b:List m9):Option Bool:=
 ((c3j a b).bind fun box=>some box)
theorem e56{a b}:OK d5v [l7 2 x7 a,l7 2 x7 b] (b6j a b):=
 o8 _ fun r h=>n9<|j9 a8q f7u 2 h fun box h=>fE h
def a1E:FS (Bool):=⟨14,Tryz.f14,[.val [] []],[none],[.val C3 []],fun r=>.b r,fun _=>[none],Tryz.func14⟩
def c9v(worldLog:List m4)(A0:List n5):(List (List n8))->KS:=fun b0A=>⟨a1E.k 7 [false,false],(bs 3 (l7 7 s6 worldLog::(l7 2 F4 A0::(.own 1 0 1 0 b0A.length::(bs 74 []))))),[some [],some [m6 34 1 a10 b0A]]⟩
def d4k:Unit->KS:=fun _=>⟨a1E.k 11 [false,false,false,false],(bs 80 []),[some []]⟩
def d3s:Option Bool:=
 some true
theorem e4J(r):NF a1E r d4k (fun s=>d3s):=fun _ h=>PK<|rg<|fE h
def e40(worldLog:List m4)(A0:List n5)(F5:(List m9)×List Int):Int->KS:=fun v61=>⟨a1E.k 10 [false,false,false],(bs 3 (l7 7 s6 worldLog::(bs 7 (l7 1 eI F5.2::(bs 47 (l7 2 F4 A0::(vi (A0.length:Int)::(vi v61::(bs 18 []))))))))),[some []]⟩
def b5V(worldLog:List m4)(A0:List n5)(F5:(List m9)×List Int)(v61:Int):Option (j7 Bool Int Unit):=
 (bif decide (v61<(A0.length:Int)) then ((idx A0 v61).bind fun req=>((idx F5.2 v61).bind fun y=>((a6E worldLog req).bind fun first=>((idx worldLog first).bind fun entry=>(bif (y != entry.b6.d8) then some (j7.ret false) else some (j7.nxt (m7 (v61+1)))))))) else some (j7.brk ()))
theorem e0s(worldLog A0 F5):LQ a1E d4k (e40 worldLog A0 F5) (fun s=>b5V worldLog A0 F5 s):=fun lc v61 h=>PK<|rg<|j5 0 h (fun h=>rg<|u0 F4 1 h fun req c9h h=>rg<|u0 eI 2 h fun y hy h=>j9 a15 b2e 7 h fun first h=>u0 s6 8 h fun entry E9 h=>j5 12 h (fun h=>rg<|fL lc h) (fun h=>rg<|(lc.nx h fun hI=>sk [] [3,11,59,60,61] [] hI))) (fun h=>(lc.bk h fun hI=>sk [] [] [] hI))
def b3s(worldLog:List m4)(A0:List n5)(b0A:List (List n8)):Option Bool:=
 ((b4y).bind fun a0H=>((b6D a0H b0A).bind fun F5=>((b1X worldLog).bind fun a05=>((b6j F5.1 a05.g7).bind fun b21=>(bif (!b21) then some false else (bif ((F5.2.length:Int) != (A0.length:Int)) then some false else ((o7 (fun s:Int=>b5V worldLog A0 F5 s) 0).bind fun x=>x.go (fun r=>some r) fun s=>d3s)))))))
theorem e3P(worldLog A0)(r):NF a1E r (c9v worldLog A0) (fun s=>b3s worldLog A0 s):=fun b0A h=>PK<|rg<|j9 c5O d26 0 h fun a0H h=>j9 a78 e7e 2 h fun F5 h=>C9 a0H b0A<|rg<|j9 c7v d77 2 h fun a05 h=>R3 d5v e56 4 2 h fun b21 h=>s8 a05.g7<|j5 6 h (fun h=>rg<|fE h) (fun h=>j5 12 h (fun h=>rg<|fE h) (fun h=>rg<|lp (e0s worldLog A0 F5) h (fun _ h=>a1E.rt h) (e4J r) fun hI=>sk [] [3,11,59,60,61] [] hI))
def f6v(w:m5)(worldLog:List m4)(A0:List n5):((List (List n8))×Int)->KS:=fun (progs,v23)=>⟨a1E.k 6 [false],(bs 1 (.ptr 1 0 0::(bs 1 (l7 7 s6 worldLog::(l7 2 F4 A0::(.own 2 0 1 0 progs.length::(bs 15 (l7 2 F4 A0::(vi (A0.length:Int)::(vi v23::(bs 56 []))))))))))),[some [],some [.var 28 (B2 w)],some [m6 34 1 a10 progs]]⟩
def a6Z(w:m5)(A0:List n5)(progs:List (List n8))(v23:Int):Option (j7 Bool ((List (List n8))×Int) (List (List n8))):=
 (bif decide (v23<(A0.length:Int)) then ((idx A0 v23).bind fun d7H=>((b5W w d7H).bind fun a2i=>(bif (!a2i.2) then some (j7.ret false) else (t5 ((progs.length+1)*24<=140737488355328) (some (j7.nxt (progs++[a2i.1],m7 (v23+1)))))))) else some (j7.brk progs))
theorem e0L(w worldLog A0):LQ a1E (c9v worldLog A0) (f6v w worldLog A0) (fun s=>a6Z w A0 s.1 s.2):=fun lc (progs,v23) h=>PK<|rg<|j5 0 h (fun h=>rg<|u0 F4 0 h fun d7H f8F h=>rg<|j9 a8r e4A 2 h fun a2i h=>rg<|j5 1 h (fun h=>rg<|fL lc h) (fun h=>rg<|s8 a2i.1<|tk 2 [some 4]<|t9 h fun e1 h=>F7 3 21 34 1 24 a10 progs a2i.1 e1<|E7 a2i.1<|rg<|(lc.nx h fun hI=>sk [] [1,3,4,5,21,22,23] [(1,0),(21,0)] hI))) (fun h=>(lc.bk h fun hI=>sk [] [3,4,5] [(2,0)] hI))
def b4v(w:m5):Option Bool:=
 ((a2L w).bind fun z9=>(bif (!z9) then some false else ((b4U w).bind fun worldLog=>((c0B worldLog).bind fun A0=>((o7 (fun s:(List (List n8))×Int=>a6Z w A0 s.1 s.2) ([],0)).bind fun x=>x.go (fun r=>some r) fun s=>b3s worldLog A0 s)))))
theorem d53{w}:OK a1E [.agg (J7 w)] (b4v w):=
 o8 _ fun r h=>n9<|j9 L7 a4M 1 h fun z9 h=>j5 2 h (fun h=>rg<|fE h) (fun h=>rg<|j9 a37 d6d 1 h fun worldLog h=>rg<|j9 a4Q f6A 1 h fun A0 h=>n9<|lp (e0L w worldLog A0) h (fun _ h=>a1E.rt h) (e3P worldLog A0 r) fun hI=>sk [.own (.tmp 5) 34 1] [1,3,4,5,21,22,23] [(1,0),(16,0)] hI)
def a46:FS (Bool):=⟨21,Tryz.f21,[.val [] []],[none],[.val C3 []],fun r=>.b r,fun _=>[none],Tryz.func21⟩
def c6e:Unit->KS:=fun _=>⟨a46.k 6 [false,false],(bs 56 []),[some []]⟩
def d2n:Option Bool:=
 some true
theorem e5M(r):NF a46 r c6e (fun s=>d2n):=fun _ h=>PK<|rg<|fE h
def d3Q(w:m5)(worldLog:List m4)(p6:u5×List Int):Int->KS:=fun v23=>⟨a46.k 5 [false],(bs 3 (l7 7 s6 worldLog::(bs 1 (.own 1 0 1 0 p6.2.length::(bs 15 (l7 5 z5 w.Told::(vi (w.Told.length:Int)::(vi v23::(bs 32 []))))))))),[some [],some [m6 3 1 eI p6.2]]⟩
def f8b(w:m5)(worldLog:List m4)(p6:u5×List Int)(v23:Int)(told:n6):Int->KS:=fun val=>⟨a46.k 12 [false,true,false,true],(bs 3 (l7 7 s6 worldLog::(bs 1 (.own 1 0 1 0 p6.2.length::(bs 1 (.ptr 2 0 0::(bs 1 (vi val::(bs 11 (l7 5 z5 w.Told::(vi (w.Told.length:Int)::(vi v23::(bs 32 []))))))))))))),[some [],some [m6 3 1 eI p6.2],some [.var 89 [vi told.Node,vi told.a5.b9,vi told.a5.Seq,vi told.Code,vi told.d8]]]⟩
def c4i(v23:Int)(told:n6)(val:Int):Option (j7 Bool Int Unit):=
 (bif (told.d8 != val) then some (j7.ret false) else some (j7.nxt (m7 (v23+1))))
theorem e2u(w worldLog p6 v23 told)(lc:D4 a46 c6e (d3Q w worldLog p6)):NL lc (f8b w worldLog p6 v23 told) (fun s=>c4i v23 told s):=fun val h=>PK<|rg<|j5 3 h (fun h=>rg<|fL lc h) (fun h=>rg<|(lc.nx h fun hI=>sk [] [3,5,21,22,23] [(1,0)] hI))
def b9B(w:m5)(worldLog:List m4)(p6:u5×List Int)(v23:Int):Option (j7 Bool Int Unit):=
 (bif decide (v23<(w.Told.length:Int)) then ((idx w.Told v23).bind fun told=>((a6E worldLog told.a5).bind fun first=>(bif decide (first<0) then some (j7.ret false) else ((idx p6.2 first).bind fun y=>(bif (y != told.Code) then some (j7.ret false) else (((bif (told.Code==0) then ((idx worldLog first).bind fun entry=>some (l9.brk entry.b6.d8)) else some (l9.brk 0)):Option (l9 (j7 Bool Int Unit) Int)).bind fun x=>x.go some fun j=>c4i v23 told j)))))) else some (j7.brk ()))
theorem e6z(w worldLog p6):LQ a46 c6e (d3Q w worldLog p6) (fun s=>b9B w worldLog p6 s):=fun lc v23 h=>PK<|rg<|j5 0 h (fun h=>rg<|u0 z5 0 h fun told a3M h=>rg<|j9 a15 b2e 3 h fun first h=>rg<|j5 2 h (fun h=>rg<|fL lc h) (fun h=>B0 h fun y hy h=>C0 hy<|I6 eI 6 hy<|j5 10 h (fun h=>rg<|fL lc h) (fun h=>rg<|A4 h (e2u w worldLog p6 v23 told lc) fun x2 h hc2=>rg<|j5 2 h (fun h=>rg<|u0 s6 2 h fun entry E9 h=>(o9 h hc2 fun hI=>sk [] [3,5,7,9,21,22,23] [(1,0),(5,0)] hI)) (fun h=>(o9 h hc2 fun hI=>sk [] [3,5,7,9,21,22,23] [(1,0),(5,0)] hI))))) (fun h=>(lc.bk h fun hI=>sk [] [] [] hI))
def b2M(w:m5):Option Bool:=
 ((a2L w).bind fun z9=>(bif (!z9) then some false else ((b4U w).bind fun worldLog=>((a80 worldLog).bind fun p6=>((o7 (fun s:Int=>b9B w worldLog p6 s) 0).bind fun x=>x.go (fun r=>some r) fun s=>d2n)))))
theorem e9D{w}:OK a46 [.agg (J7 w)] (b2M w):=
 o8 _ fun r h=>n9<|j9 L7 a4M 1 h fun z9 h=>j5 2 h (fun h=>rg<|fE h) (fun h=>rg<|j9 a37 d6d 1 h fun worldLog h=>rg<|j9 a3w c1d 1 h fun p6 h=>rg<|lp (e6z w worldLog p6) h (fun _ h=>a46.rt h) (e5M r) fun hI=>sk [] [3,5,21,22,23] [(10,2)] hI)
def a8T:FS (Bool):=⟨22,Tryz.f22,[.val [] []],[none],[.val C3 []],fun r=>.b r,fun _=>[none],Tryz.func22⟩
def c91:Unit->KS:=fun _=>⟨a8T.k 5 [false,false],(bs 25 []),[some []]⟩
def d4S:Option Bool:=
 some true
theorem f5M(r):NF a8T r c91 (fun s=>d4S):=fun _ h=>PK<|rg<|fE h
def e9W(w:m5):((List n5)×Int)->KS:=fun (w1,v13)=>⟨a8T.k 4 [false],(bs 3 (.mp 1 0::(bs 7 (l7 5 z5 w.Told::(vi (w.Told.length:Int)::(vi v13::(bs 11 []))))))),[some [],some [.map 110 2 (w1.map fun x=>(G1 x,.b true))]]⟩
def b5l(w:m5)(w1:List n5)(v13:Int):Option (j7 Bool ((List n5)×Int) Unit):=
 (bif decide (v13<(w.Told.length:Int)) then ((idx w.Told v13).bind fun told=>(bif (w1.any fun x=>G1 told.a5==G1 x) then some (j7.ret false) else some (j7.nxt (a8H G1 w1 told.a5,m7 (v13+1))))) else some (j7.brk ()))
theorem e7n(w):LQ a8T c91 (e9W w) (fun s=>b5l w s.1 s.2):=fun lc (w1,v13) h=>PK<|rg<|j5 0 h (fun h=>rg<|u0 z5 0 h fun told a3M h=>rg<|cdT (3,{v:=some (.b (w1.any fun x=>G1 told.a5==G1 x))}) h (fun _ h=>om (a3e (w1.map fun x=>(G1 x,.b true)) (G1 told.a5) (.b false)=.b (w1.any fun x=>G1 told.a5==G1 x)) (c7a G1 _ _)<|rg<|fL lc h) (fun _ h=>om (a3e (w1.map fun x=>(G1 x,.b true)) (G1 told.a5) (.b false)=.b (w1.any fun x=>G1 told.a5==G1 x)) (c7a G1 _ _)<|rg<|om (s9.map 110 2 (a2f (w1.map fun x=>(G1 x,.b true)) (G1 told.a5) (.b true))=.map 110 2 ((a8H G1 w1 told.a5).map fun x=>(G1 x,.b true))) (congrArg (s9.map 110 2) (d1y G1 _ _))<|tl (3,{e:=some (.map 110 2 ((a8H G1 w1 told.a5).map fun x=>(G1 x,.b true)))})<|rg<|(lc.nx h fun hI=>sk [] [3,11,12,13] [(1,0)] hI))) (fun h=>(lc.bk h fun hI=>sk [] [] [] hI))
def b4u(w:m5):Option Bool:=
 ((a2L w).bind fun z9=>(bif (!z9) then some false else ((o7 (fun s:(List n5)×Int=>b5l w s.1 s.2) (([]:List n5),0)).bind fun x=>x.go (fun r=>some r) fun s=>d4S)))
theorem f1L{w}:OK a8T [.agg (J7 w)] (b4u w):=
 o8 _ fun r h=>n9<|j9 L7 a4M 1 h fun z9 h=>j5 2 h (fun h=>rg<|fE h) (fun h=>n9<|lp (e7n w) h (fun _ h=>a8T.rt h) (f5M r) fun hI=>sk [] [3,11,12,13] [(6,0)] hI)
def c9j:FS (Bool):=⟨7,Tryz.f7,[.val [] []],[none],[.val C3 []],fun r=>.b r,fun _=>[none],Tryz.func7⟩
def b68(w:m5):Option Bool:=
 ((a9Y w).bind fun a6y=>(bif a6y then ((b1N w).bind fun a6K=>(bif a6K then ((b1F w).bind fun a6C=>(bif a6C then ((b1k w).bind fun a50=>(bif a50 then ((b4v w).bind fun a06=>(bif a06 then ((b2M w).bind fun b2y=>(bif b2y then ((b4u w).bind fun b2u=>some b2u) else some false)) else some false)) else some false)) else some false)) else some false)) else some false))
theorem e4W{w}:OK c9j [.agg (J7 w)] (b68 w):=
 o8 _ fun r h=>n9<|j9 a0B d1m 1 h fun a6y h=>j5 2 h (fun h=>j9 X8 d7j 4 h fun a6K h=>j5 6 h (fun h=>j9 a2I d67 8 h fun a6C h=>j5 10 h (fun h=>j9 a0v d5b 12 h fun a50 h=>j5 14 h (fun h=>j9 a1E d53 16 h fun a06 h=>j5 18 h (fun h=>j9 a46 e9D 20 h fun b2y h=>j5 22 h (fun h=>j9 a8T f1L 24 h fun b2u h=>fE h) (fun h=>fE h)) (fun h=>fE h)) (fun h=>fE h)) (fun h=>fE h)) (fun h=>fE h)) (fun h=>fE h)
def b3b:FS (Bool):=⟨64,Tryz.f64,[.val [] []],[none,none],[.val J5 [],.val J5 []],fun r=>.b r,fun _=>[none,none],Tryz.func64⟩
def a7F(a:m4)(b:m4):Option Bool:=
 (bif (a.i7==b.i7) then (bif (([a.a5.b9,a.a5.Seq]:List Int)==[b.a5.b9,b.a5.Seq]) then ((a8a a.b6 b.b6).bind fun a1m=>some a1m) else some false) else some false)
theorem b6e{a b}:OK b3b [.agg (s6 a),.agg (s6 b)] (a7F a b):=
 o8 _ fun r h=>n9<|j5 5 h (fun h=>j5 12 h (fun h=>j9 a0D b5H 17 h fun a1m h=>fE h) (fun h=>fE h)) (fun h=>fE h)
def a9n:FS (Bool):=⟨61,Tryz.f61,[.val [] []],[none,none],[.val [some 7] [],.val [some 7] []],fun r=>.b r,fun _=>[none,none],Tryz.func61⟩
def d8g:Unit->KS:=fun _=>⟨a9n.k 3 [false],(bs 28 []),[some []]⟩
def d5u:Option Bool:=
 some true
theorem e5h(r):NF a9n r d8g (fun s=>d5u):=fun _ h=>PK<|rg<|fE h
def f0O(a:List m4)(b:List m4):Int->KS:=fun i=>⟨a9n.k 2 [],(l7 7 s6 a::(l7 7 s6 b::(bs 3 (vi i::(bs 22 []))))),[some []]⟩
def b9a(a:List m4)(b:List m4)(i:Int):Option (j7 Bool Int Unit):=
 (bif decide (i<(a.length:Int)) then (bif decide (i<(b.length:Int)) then ((idx a i).bind fun entry=>((idx b i).bind fun a5U=>((a7F entry a5U).bind fun G8=>(bif (!G8) then some (j7.ret false) else some (j7.nxt (m7 (i+1))))))) else some (j7.brk ())) else some (j7.brk ()))
theorem f2z(a b):LQ a9n d8g (f0O a b) (fun s=>b9a a b s):=fun lc i h=>PK<|rg<|j5 4 h (fun h=>j5 9 h (fun h=>rg<|u0 s6 2 h fun entry E9 h=>u0 s6 6 h fun a5U b1d h=>j9 b3b b6e 8 h fun G8 h=>j5 9 h (fun h=>rg<|fL lc h) (fun h=>rg<|(lc.nx h fun hI=>sk [] [0,1,5] [] hI))) (fun h=>(lc.bk h fun hI=>sk [] [] [] hI))) (fun h=>(lc.bk h fun hI=>sk [] [] [] hI))
def b9J(a:List m4)(b:List m4):Option Bool:=
 ((o7 (fun s:Int=>b9a a b s) 0).bind fun x=>x.go (fun r=>some r) fun s=>d5u)
theorem f3x{a b}:OK a9n [l7 7 s6 a,l7 7 s6 b] (b9J a b):=
 o8 _ fun r h=>n9<|lp (f2z a b) h (fun _ h=>a9n.rt h) (e5h r) fun hI=>sk [] [0,1,5] [] hI
def a3I:FS (Bool):=⟨23,Tryz.f23,[.val [] []],[none],[.val C3 []],fun r=>.b r,fun _=>[none],Tryz.func23⟩
def c5C(w:m5):Unit->KS:=fun _=>⟨a3I.k 3 [false],(bs 1 (.ptr 1 0 0::(bs 31 []))),[some [],some [.var 28 (B2 w)]]⟩
def c6p(w:m5):Option Bool:=
 ((a3A w).bind fun z9=>some z9)
theorem e36(w)(r):NF a3I r (c5C w) (fun s=>c6p w):=fun _ h=>PK<|rg<|j9 J0 a48 1 h fun z9 h=>fE h
def c7U(w:m5):Int->KS:=fun i=>⟨a3I.k 2 [],(bs 1 (.ptr 1 0 0::(bs 1 (vi i::(bs 29 []))))),[some [],some [.var 28 (B2 w)]]⟩
def d6m(w:m5)(i:Int):Unit->KS:=fun _=>⟨a3I.k 5 [true,false],(bs 1 (.ptr 1 0 0::(bs 1 (vi i::(bs 29 []))))),[some [],some [.var 28 (B2 w)]]⟩
def c8r(i:Int):Option (j7 Bool Int Unit):=
 some (j7.nxt (m7 (i+1)))
theorem e8x(w i)(lc:D4 a3I (c5C w) (c7U w)):NL lc (d6m w i) (fun s=>c8r i):=fun _ h=>PK<|rg<|(lc.nx h fun hI=>sk [] [1,3] [(1,0)] hI)
def d9a(w:m5)(i:Int):Int->KS:=fun k=>⟨a3I.k 4 [true],(bs 1 (.ptr 1 0 0::(bs 1 (vi i::(vi k::(bs 28 [])))))),[some [],some [.var 28 (B2 w)]]⟩
def b3u(w:m5)(i:Int)(k:Int):Option (j7 Bool Int Unit):=
 (bif decide (k<i) then ((idx w.a0 i).bind fun node=>((idx w.a0 k).bind fun node1=>((b9J node.a6 node1.a6).bind fun d2i=>(bif (!d2i) then some (j7.ret false) else some (j7.nxt (m7 (k+1))))))) else some (j7.brk ()))
theorem f5V(w i):LQ a3I (d6m w i) (d9a w i) (fun s=>b3u w i s):=fun lc k h=>PK<|rg<|j5 2 h (fun h=>rg<|u0 x6 3 h fun node hnode h=>u0 x6 9 h fun node1 a0u h=>j9 a9n f3x 12 h fun d2i h=>j5 13 h (fun h=>rg<|fL lc h) (fun h=>rg<|(lc.nx h fun hI=>sk [] [1,3,4] [(1,0)] hI))) (fun h=>(lc.bk h fun hI=>sk [] [1,3] [(1,0)] hI))
def b8i(w:m5)(i:Int):Option (j7 Bool Int Unit):=
 (bif decide (i<(w.a0.length:Int)) then ((o7 (fun s:Int=>b3u w i s) 0).bind fun x=>x.go (fun r=>some (j7.ret r)) fun s=>c8r i) else some (j7.brk ()))
theorem d88(w):LQ a3I (c5C w) (c7U w) (fun s=>b8i w s):=fun lc i h=>PK<|rg<|j5 4 h (fun h=>rg<|lp (f5V w i) h (fun _ h=>lc.rt h) (e8x w i lc) fun hI=>sk [] [1,3,4] [(1,0)] hI) (fun h=>(lc.bk h fun hI=>sk [] [1] [(1,0)] hI))
def b3S(w:m5):Option Bool:=
 ((o7 (fun s:Int=>b8i w s) 0).bind fun x=>x.go (fun r=>some r) fun s=>c6p w)
theorem e9Q{w}:OK a3I [.agg (J7 w)] (b3S w):=
 o8 _ fun r h=>n9<|lp (d88 w) h (fun _ h=>a3I.rt h) (e36 w r) fun hI=>sk [] [1,3] [(1,0)] hI
def b1U:FS (m8):=⟨63,Tryz.f63,[.val U8 []],[none,none],[.val A8 [],.val [] []],fun r=>.agg (q8 r),fun _=>[none,none],Tryz.func63⟩
def a75(n:j6)(slot:Int):Option m8:=
 (bif decide (slot<(n.Acc.a7.length:Int)) then ((idx n.Acc.a7 slot).bind fun vote=>some vote) else some (m8.mk 0 (m4.mk false (n5.mk 0 0) (n7.mk [] [] 0 0))))
theorem c0Q{n slot}:OK b1U [.agg (x6 n),vi slot] (a75 n slot):=
 o8 _ fun r h=>n9<|j5 5 h (fun h=>rg<|u0 q8 4 h fun vote K8 h=>fE h) (fun h=>rg<|fE h)
def Z4:FS (Bool):=⟨24,Tryz.f24,[.val [] []],[none],[.val C3 []],fun r=>.b r,fun _=>[none],Tryz.func24⟩
def c3W:Unit->KS:=fun _=>⟨Z4.k 4 [false,false],(bs 59 []),[some []]⟩
def d0r:Option Bool:=
 some true
theorem e22(r):NF Z4 r c3W (fun s=>d0r):=fun _ h=>PK<|rg<|fE h
def d8f(w:m5):Int->KS:=fun s_=>⟨Z4.k 3 [false],(bs 1 (.ptr 1 0 0::(bs 1 (vi s_::(bs 55 []))))),[some [],some [.var 28 (B2 w)]]⟩
def c5u(w:m5)(s_:Int):Unit->KS:=fun _=>⟨Z4.k 6 [false,true,false],(bs 1 (.ptr 1 0 0::(bs 1 (vi s_::(bs 55 []))))),[some [],some [.var 28 (B2 w)]]⟩
def c26(s_:Int):Option (j7 Bool Int Unit):=
 some (j7.nxt (m7 (s_+1)))
theorem e23(w s_)(lc:D4 Z4 c3W (d8f w)):NL lc (c5u w s_) (fun s=>c26 s_):=fun _ h=>PK<|rg<|(lc.nx h fun hI=>sk [] [1,3] [(1,0)] hI)
def d6r(w:m5)(s_:Int):Int->KS:=fun i=>⟨Z4.k 5 [false,true],(bs 1 (.ptr 1 0 0::(bs 1 (vi s_::(vi i::(bs 54 [])))))),[some [],some [.var 28 (B2 w)]]⟩
def c2i(w:m5)(s_:Int)(i:Int):Unit->KS:=fun _=>⟨Z4.k 8 [false,true,true,false],(bs 1 (.ptr 1 0 0::(bs 1 (vi s_::(vi i::(bs 54 [])))))),[some [],some [.var 28 (B2 w)]]⟩
def c4p(i:Int):Option (j7 Bool Int Unit):=
 some (j7.nxt (m7 (i+1)))
theorem e8D(w s_ i)(lc:D4 Z4 (c5u w s_) (d6r w s_)):NL lc (c2i w s_ i) (fun s=>c4p i):=fun _ h=>PK<|rg<|(lc.nx h fun hI=>sk [] [1,3,4] [(1,0)] hI)
def c8f(w:m5)(s_:Int)(i:Int):Int->KS:=fun k=>⟨Z4.k 7 [false,true,true],(bs 1 (.ptr 1 0 0::(bs 1 (vi s_::(vi i::(vi k::(bs 53 []))))))),[some [],some [.var 28 (B2 w)]]⟩
def f7j(w:m5)(s_:Int)(i:Int)(k:Int):Unit->KS:=fun _=>⟨Z4.k 11 [false,true,true,true,false],(bs 1 (.ptr 1 0 0::(bs 1 (vi s_::(vi i::(vi k::(bs 53 []))))))),[some [],some [.var 28 (B2 w)]]⟩
def c1O(k:Int):Option (j7 Bool Int Unit):=
 some (j7.nxt (m7 (k+1)))
theorem f0V(w s_ i k)(lc:D4 Z4 (c2i w s_ i) (c8f w s_ i)):NL lc (f7j w s_ i k) (fun s=>c1O k):=fun _ h=>PK<|rg<|(lc.nx h fun hI=>sk [] [1,3,4,5] [(1,0)] hI)
def b42(w:m5)(s_:Int)(i:Int)(k:Int):Option (j7 Bool Int Unit):=
 (bif decide (k<i) then ((idx w.a0 i).bind fun node=>((a75 node s_).bind fun a1W=>((idx w.a0 k).bind fun node1=>((a75 node1 s_).bind fun c2y=>(((bif decide (a1W.a8>0) then (bif (a1W.a8==c2y.a8) then ((a7F a1W.g9 c2y.g9).bind fun G8=>(bif (!G8) then some (l9.ret (j7.ret false)) else some (l9.brk ()))) else some (l9.brk ())) else some (l9.brk ())):Option (l9 (j7 Bool Int Unit) Unit)).bind fun x=>x.go some fun j=>c1O k))))) else some (j7.brk ()))
theorem f0P(w s_ i):LQ Z4 (c2i w s_ i) (c8f w s_ i) (fun s=>b42 w s_ i s):=fun lc k h=>PK<|rg<|j5 2 h (fun h=>rg<|u0 x6 3 h fun node hnode h=>j9 b1U c0Q 6 h fun a1W h=>rg<|u0 x6 3 h fun node1 a0u h=>j9 b1U c0Q 6 h fun c2y h=>A4 h (f0V w s_ i k lc) fun x4 h hc4=>rg<|j5 3 h (fun h=>j5 10 h (fun h=>j9 b3b b6e 15 h fun G8 h=>j5 17 h (fun h=>rg<|(B8 h hc4 fun h=>fL lc h)) (fun h=>(o9 h hc4 fun hI=>sk [] [1,3,4,5] [(1,0)] hI))) (fun h=>(o9 h hc4 fun hI=>sk [] [1,3,4,5] [(1,0)] hI))) (fun h=>(o9 h hc4 fun hI=>sk [] [1,3,4,5] [(1,0)] hI))) (fun h=>(lc.bk h fun hI=>sk [] [1,3,4] [(1,0)] hI))
def b4r(w:m5)(s_:Int)(i:Int):Option (j7 Bool Int Unit):=
 (bif decide (i<(w.a0.length:Int)) then ((o7 (fun s:Int=>b42 w s_ i s) 0).bind fun x=>x.go (fun r=>some (j7.ret r)) fun s=>c4p i) else some (j7.brk ()))
theorem f7G(w s_):LQ Z4 (c5u w s_) (d6r w s_) (fun s=>b4r w s_ s):=fun lc i h=>PK<|rg<|j5 4 h (fun h=>rg<|lp (f0P w s_ i) h (fun _ h=>lc.rt h) (e8D w s_ i lc) fun hI=>sk [] [1,3,4,5] [(1,0)] hI) (fun h=>(lc.bk h fun hI=>sk [] [1,3] [(1,0)] hI))
def b3l(w:m5)(s_:Int):Option (j7 Bool Int Unit):=
 (bif decide (s_<40) then ((o7 (fun s:Int=>b4r w s_ s) 0).bind fun x=>x.go (fun r=>some (j7.ret r)) fun s=>c26 s_) else some (j7.brk ()))
theorem e6P(w):LQ Z4 c3W (d8f w) (fun s=>b3l w s):=fun lc s_ h=>PK<|rg<|j5 1 h (fun h=>rg<|lp (f7G w s_) h (fun _ h=>lc.rt h) (e23 w s_ lc) fun hI=>sk [] [1,3,4] [(1,0)] hI) (fun h=>(lc.bk h fun hI=>sk [] [] [] hI))
def b5d(w:m5):Option Bool:=
 ((a3A w).bind fun z9=>(bif (!z9) then some false else ((o7 (fun s:Int=>b3l w s) 0).bind fun x=>x.go (fun r=>some r) fun s=>d0r)))
theorem f4K{w}:OK Z4 [.agg (J7 w)] (b5d w):=
 o8 _ fun r h=>n9<|j9 J0 a48 1 h fun z9 h=>j5 2 h (fun h=>rg<|fE h) (fun h=>rg<|lp (e6P w) h (fun _ h=>Z4.rt h) (e22 r) fun hI=>sk [] [1,3] [(1,0)] hI)
def a5C:FS (Int):=⟨65,Tryz.f65,[.val [] []],[none,none,none],[.val C3 [],.val [] [],.val J5 []],fun r=>vi r,fun _=>[none,none,none],Tryz.func65⟩
def c2r:Int->KS:=fun n1=>⟨a5C.k 4 [false],(bs 7 (vi n1::(bs 28 []))),[some []]⟩
def d54(n1:Int):Option Int:=
 some n1
theorem f2v(r):NF a5C r c2r (fun s=>d54 s):=fun n1 h=>PK<|rg<|fE h
def c9e(w:m5)(slot:Int)(e_:m4):(Int×Int)->KS:=fun (n,i)=>⟨a5C.k 3 [],(bs 1 (vi slot::(bs 1 (.ptr 1 0 0::(bs 1 (.ptr 2 0 0::(bs 1 (vi n::(vi i::(bs 27 [])))))))))),[some [],some [.var 28 (B2 w)],some [.var 52 (a13 e_)]]⟩
def f4P(w:m5)(slot:Int)(e_:m4)(i:Int):Int->KS:=fun n2=>⟨a5C.k 7 [true,true],(bs 1 (vi slot::(bs 1 (.ptr 1 0 0::(bs 1 (.ptr 2 0 0::(bs 1 (vi n2::(vi i::(bs 27 [])))))))))),[some [],some [.var 28 (B2 w)],some [.var 52 (a13 e_)]]⟩
def c3R(i:Int)(n2:Int):Option (j7 Int (Int×Int) Int):=
 some (j7.nxt (n2,m7 (i+1)))
theorem f7v(w slot e_ i)(lc:D4 a5C c2r (c9e w slot e_)):NL lc (f4P w slot e_ i) (fun s=>c3R i s):=fun n2 h=>PK<|rg<|(lc.nx h fun hI=>sk [] [1,3,5,7,8] [(1,0),(2,0)] hI)
def b1l(w:m5)(slot:Int)(e_:m4)(n:Int)(i:Int):Option (j7 Int (Int×Int) Int):=
 (bif decide (i<(w.a0.length:Int)) then ((idx w.a0 i).bind fun node=>((a75 node slot).bind fun a1W=>(((bif decide (a1W.a8>0) then ((a7F a1W.g9 e_).bind fun G8=>(bif G8 then some (l9.brk (m7 (n+1))) else some (l9.brk n))) else some (l9.brk n)):Option (l9 (j7 Int (Int×Int) Int) Int)).bind fun x=>x.go some fun j=>c3R i j))) else some (j7.brk n))
theorem e6o(w slot e_):LQ a5C c2r (c9e w slot e_) (fun s=>b1l w slot e_ s.1 s.2):=fun lc (n,i) h=>PK<|rg<|j5 4 h (fun h=>rg<|u0 x6 3 h fun node hnode h=>j9 b1U c0Q 6 h fun a1W h=>A4 h (f7v w slot e_ i lc) fun x2 h hc2=>rg<|j5 3 h (fun h=>j9 b3b b6e 7 h fun G8 h=>j5 8 h (fun h=>rg<|(o9 h hc2 fun hI=>sk [] [1,3,5,7,8] [(1,0),(2,0)] hI)) (fun h=>(o9 h hc2 fun hI=>sk [] [1,3,5,7,8] [(1,0),(2,0)] hI))) (fun h=>(o9 h hc2 fun hI=>sk [] [1,3,5,7,8] [(1,0),(2,0)] hI))) (fun h=>(lc.bk h fun hI=>sk [] [7] [] hI))
def b9I(w:m5)(slot:Int)(e_:m4):Option Int:=
 ((o7 (fun s:Int×Int=>b1l w slot e_ s.1 s.2) (0,0)).bind fun x=>x.go (fun r=>some r) fun s=>d54 s)
theorem e3z{w slot e_}:OK a5C [.agg (J7 w),vi slot,.agg (s6 e_)] (b9I w slot e_):=
 o8 _ fun r h=>L8<|lp (e6o w slot e_) h (fun _ h=>a5C.rt h) (f2v r) fun hI=>sk [] [1,3,5,7,8] [(1,0),(2,0)] hI
def a3G:FS (Bool):=⟨25,Tryz.f25,[.val [] []],[none],[.val C3 []],fun r=>.b r,fun _=>[none],Tryz.func25⟩
def c1J:Unit->KS:=fun _=>⟨a3G.k 4 [false,false],(bs 39 []),[some []]⟩
def d2Z:Option Bool:=
 some true
theorem e6w(r):NF a3G r c1J (fun s=>d2Z):=fun _ h=>PK<|rg<|fE h
def d3R(w:m5):Int->KS:=fun i=>⟨a3G.k 3 [false],(bs 1 (.ptr 1 0 0::(bs 1 (vi i::(bs 35 []))))),[some [],some [.var 28 (B2 w)]]⟩
def d18(w:m5)(i:Int):Unit->KS:=fun _=>⟨a3G.k 6 [false,true,false],(bs 1 (.ptr 1 0 0::(bs 1 (vi i::(bs 35 []))))),[some [],some [.var 28 (B2 w)]]⟩
def c1V(i:Int):Option (j7 Bool Int Unit):=
 some (j7.nxt (m7 (i+1)))
theorem f5W(w i)(lc:D4 a3G c1J (d3R w)):NL lc (d18 w i) (fun s=>c1V i):=fun _ h=>PK<|rg<|(lc.nx h fun hI=>sk [] [1,3] [(1,0)] hI)
def e3H(w:m5)(i:Int):Int->KS:=fun s_=>⟨a3G.k 5 [false,true],(bs 1 (.ptr 1 0 0::(bs 1 (vi i::(vi s_::(bs 34 [])))))),[some [],some [.var 28 (B2 w)]]⟩
def b3o(w:m5)(i:Int)(s_:Int):Option (j7 Bool Int Unit):=
 ((idx w.a0 i).bind fun node=>(bif decide (s_<(node.a6.length:Int)) then ((idx node.a6 s_).bind fun entry=>((b9I w s_ entry).bind fun d4Q=>(bif decide (d4Q<2) then some (j7.ret false) else some (j7.nxt (m7 (s_+1)))))) else some (j7.brk ())))
theorem f3Q(w i):LQ a3G (d18 w i) (e3H w i) (fun s=>b3o w i s):=fun lc s_ h=>PK<|rg<|u0 x6 4 h fun node hnode h=>j5 8 h (fun h=>rg<|I1 x6 5 hnode<|u0 s6 9 h fun entry E9 h=>j9 a5C e3z 11 h fun d4Q h=>j5 12 h (fun h=>rg<|fL lc h) (fun h=>rg<|(lc.nx h fun hI=>sk [] [1,3,4] [(1,0)] hI))) (fun h=>(lc.bk h fun hI=>sk [] [1,3] [(1,0)] hI))
def b81(w:m5)(i:Int):Option (j7 Bool Int Unit):=
 (bif decide (i<(w.a0.length:Int)) then ((o7 (fun s:Int=>b3o w i s) 0).bind fun x=>x.go (fun r=>some (j7.ret r)) fun s=>c1V i) else some (j7.brk ()))
theorem f5U(w):LQ a3G c1J (d3R w) (fun s=>b81 w s):=fun lc i h=>PK<|rg<|j5 4 h (fun h=>rg<|lp (f3Q w i) h (fun _ h=>lc.rt h) (f5W w i lc) fun hI=>sk [] [1,3,4] [(1,0)] hI) (fun h=>(lc.bk h fun hI=>sk [] [] [] hI))
def b2f(w:m5):Option Bool:=
 ((a3A w).bind fun z9=>(bif (!z9) then some false else ((o7 (fun s:Int=>b81 w s) 0).bind fun x=>x.go (fun r=>some r) fun s=>d2Z)))
theorem f0A{w}:OK a3G [.agg (J7 w)] (b2f w):=
 o8 _ fun r h=>n9<|j9 J0 a48 1 h fun z9 h=>j5 2 h (fun h=>rg<|fE h) (fun h=>rg<|lp (f5U w) h (fun _ h=>a3G.rt h) (e6w r) fun hI=>sk [] [1,3] [(1,0)] hI)
def d6B:FS (Bool):=⟨66,Tryz.f66,[.val [] []],[none],[.val A8 []],fun r=>.b r,fun _=>[none],Tryz.func66⟩
def b89(n:j6):Option Bool:=
 (bif (n.d6 != 3) then some true else ((a75 n (n.a6.length:Int)).bind fun a1W=>(bif decide (a1W.a8>=n.a8) then (bif decide (a1W.a8>n.a8) then some true else ((a7F a1W.g9 n.c8).bind fun G8=>some G8)) else some false)))
theorem e5c{n}:OK d6B [.agg (x6 n)] (b89 n):=
 o8 _ fun r h=>n9<|j5 2 h (fun h=>rg<|fE h) (fun h=>rg<|j9 b1U c0Q 4 h fun a1W h=>rg<|j5 5 h (fun h=>j5 11 h (fun h=>fE h) (fun h=>j9 b3b b6e 16 h fun G8 h=>fE h)) (fun h=>fE h))
def a1C:FS (Bool):=⟨26,Tryz.f26,[.val [] []],[none],[.val C3 []],fun r=>.b r,fun _=>[none],Tryz.func26⟩
def c6v:Unit->KS:=fun _=>⟨a1C.k 4 [false,false],(bs 49 []),[some []]⟩
def d4W:Option Bool:=
 some true
theorem f2C(r):NF a1C r c6v (fun s=>d4W):=fun _ h=>PK<|rg<|fE h
def d4g(w:m5):Int->KS:=fun i=>⟨a1C.k 3 [false],(bs 1 (.ptr 1 0 0::(bs 1 (vi i::(bs 45 []))))),[some [],some [.var 28 (B2 w)]]⟩
def c1i(w:m5)(i:Int):Unit->KS:=fun _=>⟨a1C.k 7 [false,true,false,false],(bs 1 (.ptr 1 0 0::(bs 1 (vi i::(bs 45 []))))),[some [],some [.var 28 (B2 w)]]⟩
def c3f(i:Int):Option (j7 Bool Int Unit):=
 some (j7.nxt (m7 (i+1)))
theorem e3e(w i)(lc:D4 a1C c6v (d4g w)):NL lc (c1i w i) (fun s=>c3f i):=fun _ h=>PK<|rg<|(lc.nx h fun hI=>sk [] [1,3] [(1,0)] hI)
def d3I(w:m5)(i:Int):Int->KS:=fun k=>⟨a1C.k 6 [false,true,false],(bs 1 (.ptr 1 0 0::(bs 1 (vi i::(vi k::(bs 44 [])))))),[some [],some [.var 28 (B2 w)]]⟩
def f6g(w:m5)(i:Int)(k:Int):Unit->KS:=fun _=>⟨a1C.k 8 [false,true,false,true,false],(bs 1 (.ptr 1 0 0::(bs 1 (vi i::(vi k::(bs 44 [])))))),[some [],some [.var 28 (B2 w)]]⟩
def c1W(k:Int):Option (j7 Bool Int Unit):=
 some (j7.nxt (m7 (k+1)))
theorem e4F(w i k)(lc:D4 a1C (c1i w i) (d3I w i)):NL lc (f6g w i k) (fun s=>c1W k):=fun _ h=>PK<|rg<|(lc.nx h fun hI=>sk [] [1,3,4] [(1,0)] hI)
def b4s(w:m5)(i:Int)(k:Int):Option (j7 Bool Int Unit):=
 (bif decide (k<i) then ((((idx w.a0 i).bind fun node1=>(bif decide (node1.a8>0) then ((idx w.a0 k).bind fun a59=>(bif (node1.a8==a59.a8) then some (l9.ret (j7.ret false)) else some (l9.brk ()))) else some (l9.brk ()))):Option (l9 (j7 Bool Int Unit) Unit)).bind fun x=>x.go some fun j=>c1W k) else some (j7.brk ()))
theorem e5f(w i):LQ a1C (c1i w i) (d3I w i) (fun s=>b4s w i s):=fun lc k h=>PK<|rg<|j5 2 h (fun h=>A4 h (e4F w i k lc) fun x3 h hc3=>rg<|u0 x6 3 h fun node1 a0u h=>j5 7 h (fun h=>I1 x6 11 a0u<|u0 x6 17 h fun a59 d43 h=>j5 21 h (fun h=>rg<|(B8 h hc3 fun h=>fL lc h)) (fun h=>(o9 h hc3 fun hI=>sk [] [1,3,4] [(1,0)] hI))) (fun h=>(o9 h hc3 fun hI=>sk [] [1,3,4] [(1,0)] hI))) (fun h=>(lc.bk h fun hI=>sk [] [1,3] [(1,0)] hI))
def c0q(w:m5)(i:Int):Option (j7 Bool Int Unit):=
 (bif decide (i<(w.a0.length:Int)) then ((idx w.a0 i).bind fun node=>((b89 node).bind fun d44=>(bif (!d44) then some (j7.ret false) else ((o7 (fun s:Int=>b4s w i s) 0).bind fun x=>x.go (fun r=>some (j7.ret r)) fun s=>c3f i)))) else some (j7.brk ()))
theorem e0n(w):LQ a1C c6v (d4g w) (fun s=>c0q w s):=fun lc i h=>PK<|rg<|j5 4 h (fun h=>rg<|u0 x6 3 h fun node hnode h=>j9 d6B e5c 5 h fun d44 h=>j5 6 h (fun h=>rg<|fL lc h) (fun h=>rg<|lp (e5f w i) h (fun _ h=>lc.rt h) (e3e w i lc) fun hI=>sk [] [1,3,4] [(1,0)] hI)) (fun h=>(lc.bk h fun hI=>sk [] [] [] hI))
def b2p(w:m5):Option Bool:=
 ((a3A w).bind fun z9=>(bif (!z9) then some false else ((o7 (fun s:Int=>c0q w s) 0).bind fun x=>x.go (fun r=>some r) fun s=>d4W)))
theorem f3A{w}:OK a1C [.agg (J7 w)] (b2p w):=
 o8 _ fun r h=>n9<|j9 J0 a48 1 h fun z9 h=>j5 2 h (fun h=>rg<|fE h) (fun h=>rg<|lp (e0n w) h (fun _ h=>a1C.rt h) (f2C r) fun hI=>sk [] [1,3] [(1,0)] hI)
def a3N:FS (List m4):=⟨67,Tryz.f67,[.val [some 7] []],[none],[.val C3 []],fun r=>l7 7 s6 r,fun _=>[none],Tryz.func67⟩
def c5G(w:m5):Int->KS:=fun a30=>⟨a3N.k 4 [false],(bs 1 (.ptr 1 0 0::(bs 1 (vi a30::(bs 36 []))))),[some [],some [.var 28 (B2 w)]]⟩
def c5z(w:m5)(a30:Int):Option (List m4):=
 (bif ((w.a0.length:Int)==0) then some ([]:List m4) else ((idx w.a0 a30).bind fun node=>((a94 node.a6).bind fun a8P=>some a8P)))
theorem f5y(w)(r):NF a3N r (c5G w) (fun s=>c5z w s):=fun a30 h=>PK<|rg<|j5 3 h (fun h=>rg<|tk 0 J5<|A9 m4<|fE h) (fun h=>rg<|u0 x6 3 h fun node hnode h=>j9 a5B c66 6 h fun a8P h=>s8 a8P<|fE h)
def c97(w:m5):(Int×Int)->KS:=fun (best,i)=>⟨a3N.k 3 [],(bs 1 (.ptr 1 0 0::(bs 1 (vi best::(vi i::(bs 35 [])))))),[some [],some [.var 28 (B2 w)]]⟩
def f1S(w:m5)(i:Int):Int->KS:=fun a5m=>⟨a3N.k 6 [true,true],(bs 1 (.ptr 1 0 0::(bs 1 (vi a5m::(vi i::(bs 35 [])))))),[some [],some [.var 28 (B2 w)]]⟩
def c2t(i:Int)(a5m:Int):Option (j7 (List m4) (Int×Int) Int):=
 some (j7.nxt (a5m,m7 (i+1)))
theorem f2L(w i)(lc:D4 a3N (c5G w) (c97 w)):NL lc (f1S w i) (fun s=>c2t i s):=fun a5m h=>PK<|rg<|(lc.nx h fun hI=>sk [] [1,3,4] [(1,0)] hI)
def b3c(w:m5)(best:Int)(i:Int):Option (j7 (List m4) (Int×Int) Int):=
 (bif decide (i<(w.a0.length:Int)) then ((((idx w.a0 i).bind fun node1=>((idx w.a0 best).bind fun a59=>(bif decide ((node1.a6.length:Int)>(a59.a6.length:Int)) then some (l9.brk i) else some (l9.brk best)))):Option (l9 (j7 (List m4) (Int×Int) Int) Int)).bind fun x=>x.go some fun j=>c2t i j) else some (j7.brk best))
theorem e39(w):LQ a3N (c5G w) (c97 w) (fun s=>b3c w s.1 s.2):=fun lc (best,i) h=>PK<|rg<|j5 4 h (fun h=>A4 h (f2L w i lc) fun x2 h hc2=>rg<|u0 x6 3 h fun node1 a0u h=>u0 x6 10 h fun a59 d43 h=>j5 14 h (fun h=>rg<|(o9 h hc2 fun hI=>sk [] [1,3,4] [(1,0)] hI)) (fun h=>(o9 h hc2 fun hI=>sk [] [1,3,4] [(1,0)] hI))) (fun h=>(lc.bk h fun hI=>sk [] [1,3] [(1,0)] hI))
def b2k(w:m5):Option (List m4):=
 ((o7 (fun s:Int×Int=>b3c w s.1 s.2) (0,0)).bind fun x=>x.go (fun r=>some r) fun s=>c5z w s)
theorem d1g{w}:OK a3N [.agg (J7 w)] (b2k w):=
 o8 _ fun r h=>L8<|lp (e39 w) h (fun _ h=>a3N.rt h) (f5y w r) fun hI=>sk [] [1,3,4] [(1,0)] hI
def a49:FS (List n5):=⟨68,Tryz.f68,[.val [some 2] []],[none],[.val [some 7] []],fun r=>l7 2 F4 r,fun _=>[none],Tryz.func68⟩
def c3k:(List n5)->KS:=fun out1=>⟨a49.k 6 [false,false],(bs 3 (.own 1 0 2 0 out1.length::(bs 37 []))),[some [],some [m6 46 2 F4 out1]]⟩
def d5Z(out1:List n5):Option (List n5):=
 some out1
theorem f4a(r):NF a49 r c3k (fun s=>d5Z s):=fun out1 h=>PK<|rg<|s8 out1<|fE h
def d7d(list:List m4):((List n5)×(List m9)×Int×Int×List q9)->KS:=fun (out,g7,i,sAt,sDones)=>⟨a49.k 5 [false],(l7 7 s6 list::(bs 2 (.own 1 0 2 0 out.length::(.ptr 2 0 0::(vi i::(bs 35 [])))))),[some [],some [m6 46 2 F4 out],some [.var 77 [vi sAt,.own 3 0 2 0 g7.length,l7 4 B9 sDones]],some [m6 124 2 x7 g7]]⟩
def f8w(list:List m4)(i:Int)(l5Apply:u5×Int):(List n5)->KS:=fun out2=>⟨a49.k 10 [false,true,true],(l7 7 s6 list::(bs 2 (.own 1 0 2 0 out2.length::(.ptr 2 0 0::(vi i::(bs 35 [])))))),[some [],some [m6 46 2 F4 out2],some [.var 77 [vi l5Apply.1.At,.own 3 0 2 0 l5Apply.1.g7.length,l7 4 B9 l5Apply.1.i8]],some [m6 124 2 x7 l5Apply.1.g7]]⟩
def c6a(i:Int)(l5Apply:u5×Int)(out2:List n5):Option (j7 (List n5) ((List n5)×(List m9)×Int×Int×List q9) (List n5)):=
 some (j7.nxt (out2,l5Apply.1.g7,m7 (i+1),l5Apply.1.At,l5Apply.1.i8))
theorem f5D(list i l5Apply)(lc:D4 a49 c3k (d7d list)):NL lc (f8w list i l5Apply) (fun s=>c6a i l5Apply s):=fun out2 h=>PK<|rg<|(lc.nx h fun hI=>sk [] [0,3,4,5] [(1,0),(2,0),(3,0)] hI)
def a84(list:List m4)(out:List n5)(g7:List m9)(i:Int)(sAt:Int)(sDones:List q9):Option (j7 (List n5) ((List n5)×(List m9)×Int×Int×List q9) (List n5)):=
 (bif decide (i<(list.length:Int)) then ((idx list i).bind fun entry=>((a7W (u5.mk sAt g7 sDones) entry).bind fun l5Apply=>(((bif (l5Apply.2==0) then (t5 ((out.length+1)*16<=140737488355328) (some (l9.brk (out++[entry.a5])))) else some (l9.brk out)):Option (l9 (j7 (List n5) ((List n5)×(List m9)×Int×Int×List q9) (List n5)) (List n5))).bind fun x=>x.go some fun j=>c6a i l5Apply j))) else some (j7.brk out))
theorem e62(list):LQ a49 c3k (d7d list) (fun s=>a84 list s.1 s.2.1 s.2.2.1 s.2.2.2.1 s.2.2.2.2):=fun lc (out,g7,i,sAt,sDones) h=>PK<|rg<|j5 3 h (fun h=>rg<|u0 s6 3 h fun entry E9 h=>j9 a2Y b7d 5 h fun l5Apply h=>s8 g7<|rg<|A4 h (f5D list i l5Apply lc) fun x2 h hc2=>rg<|j5 1 h (fun h=>rg<|I1 s6 3 E9<|tk 6 []<|t9 h fun e1 h=>F7 7 31 46 2 16 F4 out entry.a5 e1<|E7 entry.a5<|(o9 h hc2 fun hI=>sk [] [0,3,4,5] [(31,0),(2,0),(13,0)] hI)) (fun h=>(o9 h hc2 fun hI=>sk [] [0,3,4,5] [(1,0),(2,0),(13,0)] hI))) (fun h=>(lc.bk h fun hI=>sk [] [3] [(1,0)] hI))
def b8S(list:List m4):Option (List n5):=
 ((b5t list).bind fun b3E=>(bif (!b3E) then some ([]:List n5) else ((a9v).bind fun Q7=>((o7 (fun s:(List n5)×(List m9)×Int×Int×List q9=>a84 list s.1 s.2.1 s.2.2.1 s.2.2.2.1 s.2.2.2.2) (([]:List n5),Q7.g7,0,Q7.At,Q7.i8)).bind fun x=>x.go (fun r=>some r) fun s=>d5Z s))))
theorem e8m{list}:OK a49 [l7 7 s6 list] (b8S list):=
 o8 _ fun r h=>n9<|tk 0 []<|rg<|j9 a6X c8a 1 h fun b3E h=>j5 2 h (fun h=>rg<|A9 n5<|fE h) (fun h=>rg<|j9 b3g b80 0 h fun Q7 h=>rg<|lp (e62 list) h (fun _ h=>a49.rt h) (f4a r) fun hI=>om ((.own 2 0 2 0 0:V)=.own 2 0 2 0 ([]:List n5).length) (by simp)<|sk [.is (.tmp 3) (.own 2 0 2 0 ([]:List n5).length)] [0,3,4,5] [(2,0),(8,0),(7,0)] hI)
def a8m:FS ((List n8)×Bool):=⟨120,Tryz.f120,[.val [some 4] [some 98],.val [] []],[none,none],[.val C3 [],.val [] []],fun r=>.tup [v6 98 4 A6 r.1,.b r.2],fun _=>[none,none],Tryz.func120⟩
def c72:Unit->KS:=fun _=>⟨a8m.k 3 [false],(bs 30 []),[some []]⟩
def d6q:Option ((List n8)×Bool):=
 some ([],false)
theorem f1A(r):NF a8m r c72 (fun s=>d6q):=fun _ h=>PK<|rg<|fE h
def e61(w:m5)(q:n5):Int->KS:=fun i=>⟨a8m.k 2 [],(bs 2 (.ptr 1 0 0::(.ptr 2 0 0::(bs 2 (vi i::(bs 23 [])))))),[some [],some [.var 28 (B2 w)],some [.var 46 [vi q.b9,vi q.Seq]]]⟩
def b7O(w:m5)(q:n5)(i:Int):Option (j7 ((List n8)×Bool) Int Unit):=
 (bif decide (i<(w.d9.length:Int)) then ((idx w.d9 i).bind fun asked=>(bif (([asked.a5.b9,asked.a5.Seq]:List Int)==[q.b9,q.Seq]) then (t5 ((([]:List n8).length+asked.i6.length)*32<=140737488355328) (some (j7.ret (([]:List n8)++asked.i6,true)))) else some (j7.nxt (m7 (i+1))))) else some (j7.brk ()))
theorem f4k(w q):LQ a8m c72 (e61 w q) (fun s=>b7O w q s):=fun lc i h=>PK<|rg<|j5 4 h (fun h=>rg<|u0 C1 3 h fun asked a8z h=>j5 7 h (fun h=>rg<|tk 0 []<|I1 C1 4 a8z<|t9 h fun e1 h=>oa 23 0 4 ([]:List n8) asked.i6<|oz 98 4 A6 ([]:List n8) asked.i6<|A9 n8<|ob e1<|tl (7,{v:=some (.own 23 0 4 0 (([]:List n8)++asked.i6).length),e:=some (m6 98 4 A6 (([]:List n8)++asked.i6))})<|s8 (([]:List n8)++asked.i6)<|fL lc h) (fun h=>rg<|(lc.nx h fun hI=>sk [] [2,3,6] [(1,0),(2,0)] hI))) (fun h=>(lc.bk h fun hI=>sk [] [] [] hI))
def c0n(w:m5)(q:n5):Option ((List n8)×Bool):=
 ((o7 (fun s:Int=>b7O w q s) 0).bind fun x=>x.go (fun r=>some r) fun s=>d6q)
theorem f01{w q}:OK a8m [.agg (J7 w),.agg (F4 q)] (c0n w q):=
 o8 _ fun r h=>n9<|lp (f4k w q) h (fun _ h=>a8m.rt h) (f1A r) fun hI=>sk [] [2,3,6] [(1,0),(2,0)] hI
def a9r:FS ((List (List n8))×Bool):=⟨69,Tryz.f69,[.val [some 1] [],.val [] []],[none,none],[.val C3 [],.val [some 2] []],fun r=>.tup [l7 1 a10 r.1,.b r.2],fun _=>[none,none],Tryz.func69⟩
def d1q:(List (List n8))->KS:=fun out1=>⟨a9r.k 4 [false],(bs 6 (.own 1 0 1 0 out1.length::(bs 26 []))),[some [],some [m6 34 1 a10 out1]]⟩
def c53(out1:List (List n8)):Option ((List (List n8))×Bool):=
 some (out1,true)
theorem e6h(r):NF a9r r d1q (fun s=>c53 s):=fun out1 h=>PK<|rg<|s8 out1<|fE h
def e1e(w:m5)(list:List n5):((List (List n8))×Int)->KS:=fun (out,i)=>⟨a9r.k 3 [],(bs 1 (l7 2 F4 list::(.ptr 1 0 0::(bs 3 (.own 2 0 1 0 out.length::(vi i::(bs 25 []))))))),[some [],some [.var 28 (B2 w)],some [m6 34 1 a10 out]]⟩
def a6S(w:m5)(list:List n5)(out:List (List n8))(i:Int):Option (j7 ((List (List n8))×Bool) ((List (List n8))×Int) (List (List n8))):=
 (bif decide (i<(list.length:Int)) then ((idx list i).bind fun req=>((c0n w req).bind fun a2i=>(bif (!a2i.2) then some (j7.ret ([],false)) else (t5 ((out.length+1)*24<=140737488355328) (some (j7.nxt (out++[a2i.1],m7 (i+1)))))))) else some (j7.brk out))
theorem e2Z(w list):LQ a9r d1q (e1e w list) (fun s=>a6S w list s.1 s.2):=fun lc (out,i) h=>PK<|rg<|j5 3 h (fun h=>rg<|u0 F4 3 h fun req c9h h=>j9 a8m f01 5 h fun a2i h=>rg<|j5 1 h (fun h=>rg<|fL lc h) (fun h=>rg<|s8 a2i.1<|tk 2 [some 4]<|t9 h fun e1 h=>F7 3 23 34 1 24 a10 out a2i.1 e1<|E7 a2i.1<|rg<|(lc.nx h fun hI=>sk [] [1,2,6,7] [(1,0),(23,0)] hI))) (fun h=>(lc.bk h fun hI=>sk [] [6] [(2,0)] hI))
def c4e(w:m5)(list:List n5):Option ((List (List n8))×Bool):=
 ((o7 (fun s:(List (List n8))×Int=>a6S w list s.1 s.2) (([]:List (List n8)),0)).bind fun x=>x.go (fun r=>some r) fun s=>c53 s)
theorem e7K{w list}:OK a9r [.agg (J7 w),l7 2 F4 list] (c4e w list):=
 o8 _ fun r h=>n9<|tk 0 [some 4]<|rg<|lp (e2Z w list) h (fun _ h=>a9r.rt h) (e6h r) fun hI=>om ((.own 4 0 1 0 0:V)=.own 4 0 1 0 ([]:List (List n8)).length) (by simp)<|sk [.is (.tmp 6) (.own 4 0 1 0 ([]:List (List n8)).length)] [1,2,6,7] [(1,0),(4,0)] hI
def c7l:FS (List m9):=⟨122,Tryz.f122,[.val [some 2] [some 124]],[none],[.val [some 2] []],fun r=>v6 124 2 x7 r,fun _=>[none],Tryz.func122⟩
def b43(list:List m9):Option (List m9):=
 (t5 ((([]:List m9).length+list.length)*16<=140737488355328) (some (([]:List m9)++list)))
theorem d3u{list}:OK c7l [l7 2 x7 list] (b43 list):=
 o8 _ fun r h=>n9<|tk 0 []<|t9 h fun e1 h=>oa 4 0 2 ([]:List m9) list<|oz 124 2 x7 ([]:List m9) list<|A9 m9<|ob e1<|tl (2,{v:=some (.own 4 0 2 0 (([]:List m9)++list).length),e:=some (m6 124 2 x7 (([]:List m9)++list))})<|s8 (([]:List m9)++list)<|fE h
def d0U:FS ((List m9)×Int×Int):=⟨123,Tryz.f123,[.val [some 2] [],.val [] [],.val [] []],[none,none],[.val [some 2] [],.val [some 4] []],fun r=>.tup [l7 2 x7 r.1,vi r.2.1,vi r.2.2],fun _=>[none,none],Tryz.func123⟩
def b9y(list:List m9)(prog:List n8):Option ((List m9)×Int×Int):=
 ((b3y list prog).bind fun B5=>(bif (B5.Code==3) then some (([]:List m9),0,3) else ((b43 list).bind fun a8A=>((b3i a8A B5).bind fun b0b=>some (b0b,B5.d8,B5.Code)))))
theorem e7H{list prog}:OK d0U [l7 2 x7 list,l7 4 A6 prog] (b9y list prog):=
 o8 _ fun r h=>n9<|j9 a4v d2m 2 h fun B5 h=>rg<|j5 2 h (fun h=>rg<|tk 0 []<|A9 m9<|fE h) (fun h=>rg<|j9 c7l d3u 1 h fun a8A h=>cbS a45 d3m 3 (fun _=>(by simp [a45,L2,R8,O1,V.simple,vi,v6,x7,eI])) (fun _=>(Q4 2)) h fun b0b h=>s8 a8A<|olR B5<|s8 b0b<|fE h)
def a9b:FS ((List m9)×List Int):=⟨70,Tryz.f70,[.val [some 2] [],.val [some 1] []],[none,none],[.val [some 2] [],.val [some 1] []],fun r=>.tup [l7 2 x7 r.1,l7 1 eI r.2],fun _=>[none,none],Tryz.func70⟩
def d21:((List Int)×List m9)->KS:=fun (out1,x_1)=>⟨a9b.k 6 [false,false],(bs 6 (.own 1 0 1 0 out1.length::(l7 2 x7 x_1::(bs 44 [])))),[some [],some [m6 3 1 eI out1]]⟩
def c2m(out1:List Int)(x_1:List m9):Option ((List m9)×List Int):=
 some (x_1,out1)
theorem e3v(r):NF a9b r d21 (fun s=>c2m s.1 s.2):=fun (out1,x_1) h=>PK<|rg<|s8 out1<|fE h
def e58(progs:List (List n8)):((List Int)×(List m9)×Int)->KS:=fun (out,x_,i)=>⟨a9b.k 5 [false],(bs 1 (l7 1 a10 progs::(bs 4 (.own 1 0 1 0 out.length::(l7 2 x7 x_::(vi i::(bs 43 []))))))),[some [],some [m6 3 1 eI out]]⟩
def a93(progs:List (List n8))(out:List Int)(x_:List m9)(i:Int):Option (j7 ((List m9)×List Int) ((List Int)×(List m9)×Int) ((List Int)×List m9)):=
 (bif decide (i<(progs.length:Int)) then ((idx progs i).bind fun y=>((b9y x_ y).bind fun G9=>(bif (G9.2.2==3) then some (j7.ret (([]:List m9),([]:List Int))) else (t5 ((out.length+1)*8<=140737488355328) (some (j7.nxt (out++[G9.2.1],G9.1,m7 (i+1)))))))) else some (j7.brk (out,x_)))
theorem f0C(progs):LQ a9b d21 (e58 progs) (fun s=>a93 progs s.1 s.2.1 s.2.2):=fun lc (out,x_,i) h=>PK<|rg<|j5 3 h (fun h=>rg<|u0 a10 3 h fun y hy h=>j9 d0U e7H 5 h fun G9 h=>rg<|j5 1 h (fun h=>rg<|tk 0 []<|tk 1 []<|A9 m9<|A9 Int<|fL lc h) (fun h=>n9<|tk 2 []<|t9 h fun e1 h=>F7 3 26 3 1 8 eI out G9.2.1 e1<|E7 G9.2.1<|rg<|(lc.nx h fun hI=>sk [] [1,6,7,8] [(26,0)] hI))) (fun h=>(lc.bk h fun hI=>sk [] [6,7] [(1,0)] hI))
def b8z(list:List m9)(progs:List (List n8)):Option ((List m9)×List Int):=
 ((b1O list).bind fun S4=>(bif (!S4) then some (([]:List m9),([]:List Int)) else (bif decide ((progs.length:Int)>100) then some (([]:List m9),([]:List Int)) else ((b43 list).bind fun a8A=>((o7 (fun s:(List Int)×(List m9)×Int=>a93 progs s.1 s.2.1 s.2.2) (([]:List Int),a8A,0)).bind fun x=>x.go (fun r=>some r) fun s=>c2m s.1 s.2)))))
theorem e6X{list progs}:OK a9b [l7 2 x7 list,l7 1 a10 progs] (b8z list progs):=
 o8 _ fun r h=>n9<|j9 a41 c2X 1 h fun S4 h=>j5 3 h (fun h=>rg<|tk 0 []<|tk 1 []<|A9 m9<|A9 Int<|fE h) (fun h=>j5 7 h (fun h=>rg<|tk 0 []<|tk 1 []<|A9 m9<|A9 Int<|fE h) (fun h=>rg<|tk 0 []<|rg<|j9 c7l d3u 1 h fun a8A h=>rg<|lp (f0C progs) h (fun _ h=>a9b.rt h) (e3v r) fun hI=>s8 a8A<|om ((.own 11 0 1 0 0:V)=.own 11 0 1 0 ([]:List Int).length) (by simp)<|sk [.frz (.tmp 7) (none),.is (.tmp 6) (.own 11 0 1 0 ([]:List Int).length)] [1,6,7,8] [(11,0)] hI))
def a8p:FS (Bool):=⟨72,Tryz.f72,[.val [] []],[none,none],[.val [some 2] [],.val [some 2] []],fun r=>.b r,fun _=>[none,none],Tryz.func72⟩
def d0Q:Unit->KS:=fun _=>⟨a8p.k 4 [false,false],(bs 26 []),[some []]⟩
def c8E:Option Bool:=
 some true
theorem e4q(r):NF a8p r d0Q (fun s=>c8E):=fun _ h=>PK<|rg<|fE h
def f0F(a:List m9)(b:List m9):Int->KS:=fun i=>⟨a8p.k 3 [false],(l7 2 x7 a::(l7 2 x7 b::(bs 3 (vi i::(bs 20 []))))),[some []]⟩
def b6b(a:List m9)(b:List m9)(i:Int):Option (j7 Bool Int Unit):=
 (bif decide (i<(a.length:Int)) then ((idx a i).bind fun box=>((idx b i).bind fun P8=>(bif (!(([box.j4,box.d8]:List Int)==[P8.j4,P8.d8])) then some (j7.ret false) else some (j7.nxt (m7 (i+1)))))) else some (j7.brk ()))
theorem f5i(a b):LQ a8p d0Q (f0F a b) (fun s=>b6b a b s):=fun lc i h=>PK<|rg<|j5 3 h (fun h=>rg<|u0 x7 2 h fun box a11 h=>u0 x7 6 h fun P8 a7u h=>j5 8 h (fun h=>rg<|fL lc h) (fun h=>rg<|(lc.nx h fun hI=>sk [] [0,1,5] [] hI))) (fun h=>(lc.bk h fun hI=>sk [] [] [] hI))
def b9K(a:List m9)(b:List m9):Option Bool:=
 (bif ((a.length:Int) != (b.length:Int)) then some false else ((o7 (fun s:Int=>b6b a b s) 0).bind fun x=>x.go (fun r=>some r) fun s=>c8E))
theorem e99{a b}:OK a8p [l7 2 x7 a,l7 2 x7 b] (b9K a b):=
 o8 _ fun r h=>n9<|j5 4 h (fun h=>rg<|fE h) (fun h=>rg<|lp (f5i a b) h (fun _ h=>a8p.rt h) (e4q r) fun hI=>sk [] [0,1,5] [] hI)
def a4q:FS (Int):=⟨74,Tryz.f74,[.val [] []],[none,none],[.val [some 7] [],.val [] []],fun r=>vi r,fun _=>[none,none],Tryz.func74⟩
def c3P:Unit->KS:=fun _=>⟨a4q.k 3 [false],(bs 33 []),[some []]⟩
def d5F:Option Int:=
 some 0
theorem e8Q(r):NF a4q r c3P (fun s=>d5F):=fun _ h=>PK<|rg<|fE h
def d56(list:List m4)(q:n5):Int->KS:=fun i=>⟨a4q.k 2 [],(l7 7 s6 list::(bs 2 (.ptr 1 0 0::(bs 1 (vi i::(bs 27 [])))))),[some [],some [.var 46 [vi q.b9,vi q.Seq]]]⟩
def f7r(list:List m4)(q:n5)(i:Int):Unit->KS:=fun _=>⟨a4q.k 4 [true,false],(l7 7 s6 list::(bs 2 (.ptr 1 0 0::(bs 1 (vi i::(bs 27 [])))))),[some [],some [.var 46 [vi q.b9,vi q.Seq]]]⟩
def c6m(i:Int):Option (j7 Int Int Unit):=
 some (j7.nxt (m7 (i+1)))
theorem f1C(list q i)(lc:D4 a4q c3P (d56 list q)):NL lc (f7r list q i) (fun s=>c6m i):=fun _ h=>PK<|rg<|(lc.nx h fun hI=>sk [] [0,3,5] [(1,0)] hI)
def b0m(list:List m4)(q:n5)(i:Int):Option (j7 Int Int Unit):=
 (bif decide (i<(list.length:Int)) then ((((idx list i).bind fun entry=>(bif (!entry.i7) then (bif (([entry.a5.b9,entry.a5.Seq]:List Int)==[q.b9,q.Seq]) then some (l9.ret (j7.ret entry.b6.d8)) else some (l9.brk ())) else some (l9.brk ()))):Option (l9 (j7 Int Int Unit) Unit)).bind fun x=>x.go some fun j=>c6m i) else some (j7.brk ()))
theorem e8R(list q):LQ a4q c3P (d56 list q) (fun s=>b0m list q s):=fun lc i h=>PK<|rg<|j5 3 h (fun h=>A4 h (f1C list q i lc) fun x2 h hc2=>rg<|u0 s6 2 h fun entry E9 h=>j5 6 h (fun h=>I1 s6 9 E9<|j5 14 h (fun h=>rg<|I1 s6 2 E9<|(B8 h hc2 fun h=>fL lc h)) (fun h=>(o9 h hc2 fun hI=>sk [] [0,3,5] [(1,0)] hI))) (fun h=>(o9 h hc2 fun hI=>sk [] [0,3,5] [(1,0)] hI))) (fun h=>(lc.bk h fun hI=>sk [] [] [] hI))
def b09(list:List m4)(q:n5):Option Int:=
 ((o7 (fun s:Int=>b0m list q s) 0).bind fun x=>x.go (fun r=>some r) fun s=>d5F)
theorem d06{list q}:OK a4q [l7 7 s6 list,.agg (F4 q)] (b09 list q):=
 o8 _ fun r h=>n9<|lp (e8R list q) h (fun _ h=>a4q.rt h) (e8Q r) fun hI=>sk [] [0,3,5] [(1,0)] hI
def a8V:FS (Bool):=⟨27,Tryz.f27,[.val [] []],[none],[.val C3 []],fun r=>.b r,fun _=>[none],Tryz.func27⟩
def c9k:Unit->KS:=fun _=>⟨a8V.k 10 [false,false,false,false],(bs 61 []),[some []]⟩
def c9L:Option Bool:=
 some true
theorem f7I(r):NF a8V r c9k (fun s=>c9L):=fun _ h=>PK<|rg<|fE h
def e8A(worldLog:List m4)(A0:List n5)(F5:(List m9)×List Int):Int->KS:=fun i=>⟨a8V.k 9 [false,false,false],(bs 3 (l7 7 s6 worldLog::(l7 2 F4 A0::(bs 3 (l7 1 eI F5.2::(vi i::(bs 51 []))))))),[some []]⟩
def b76(worldLog:List m4)(A0:List n5)(F5:(List m9)×List Int)(i:Int):Option (j7 Bool Int Unit):=
 (bif decide (i<(A0.length:Int)) then ((idx F5.2 i).bind fun y=>((idx A0 i).bind fun req=>((b09 worldLog req).bind fun b2a=>(bif (y != b2a) then some (j7.ret false) else some (j7.nxt (m7 (i+1))))))) else some (j7.brk ()))
theorem f7F(worldLog A0 F5):LQ a8V c9k (e8A worldLog A0 F5) (fun s=>b76 worldLog A0 F5 s):=fun lc i h=>PK<|rg<|j5 3 h (fun h=>rg<|u0 eI 2 h fun y hy h=>u0 F4 7 h fun req c9h h=>j9 a4q d06 9 h fun b2a h=>j5 10 h (fun h=>rg<|fL lc h) (fun h=>rg<|(lc.nx h fun hI=>sk [] [3,4,8,9] [] hI))) (fun h=>(lc.bk h fun hI=>sk [] [] [] hI))
def b6J(w:m5):Option Bool:=
 ((a3A w).bind fun z9=>(bif (!z9) then some false else ((b2k w).bind fun worldLog=>((b8S worldLog).bind fun A0=>((c4e w A0).bind fun c4S=>(bif (!c4S.2) then some false else ((b4Q).bind fun a0H=>((b8z a0H c4S.1).bind fun F5=>(bif ((F5.2.length:Int) != (A0.length:Int)) then some false else ((b3G worldLog).bind fun a05=>((b9K F5.1 a05.g7).bind fun b21=>(bif (!b21) then some false else ((o7 (fun s:Int=>b76 worldLog A0 F5 s) 0).bind fun x=>x.go (fun r=>some r) fun s=>c9L)))))))))))))
theorem f8t{w}:OK a8V [.agg (J7 w)] (b6J w):=
 o8 _ fun r h=>n9<|j9 J0 a48 1 h fun z9 h=>j5 2 h (fun h=>rg<|fE h) (fun h=>rg<|j9 a3N d1g 1 h fun worldLog h=>rg<|j9 a49 e8m 1 h fun A0 h=>rg<|j9 a9r e7K 2 h fun c4S h=>rg<|j5 1 h (fun h=>rg<|fE h) (fun h=>rg<|j9 c7k d5q 0 h fun a0H h=>j9 a9b e6X 2 h fun F5 h=>s8 a0H<|rg<|j5 5 h (fun h=>rg<|fE h) (fun h=>j9 a6H d69 8 h fun a05 h=>R3 a8p e99 10 2 h fun b21 h=>s8 a05.g7<|j5 12 h (fun h=>rg<|fE h) (fun h=>rg<|lp (f7F worldLog A0 F5) h (fun _ h=>a8V.rt h) (f7I r) fun hI=>sk [] [3,4,8,9] [] hI))))
def a4E:FS (Int×Bool):=⟨75,Tryz.f75,[.val [] [],.val [] []],[none,none],[.val [some 7] [],.val [] []],fun r=>.tup [vi r.1,.b r.2],fun _=>[none,none],Tryz.func75⟩
def c5L:Unit->KS:=fun _=>⟨a4E.k 4 [false],(bs 43 []),[some []]⟩
def c9P:Option (Int×Bool):=
 some (0,false)
theorem f3s(r):NF a4E r c5L (fun s=>c9P):=fun _ h=>PK<|rg<|fE h
def d1e(list:List m4)(q:n5):((List m9)×Int×Int×List q9)->KS:=fun (g7,i,sAt,sDones)=>⟨a4E.k 3 [],(l7 7 s6 list::(bs 2 (.ptr 1 0 0::(bs 2 (.ptr 2 0 0::(vi i::(bs 35 []))))))),[some [],some [.var 46 [vi q.b9,vi q.Seq]],some [.var 77 [vi sAt,.own 3 0 2 0 g7.length,l7 4 B9 sDones]],some [m6 124 2 x7 g7]]⟩
def e8t(list:List m4)(q:n5)(i:Int)(l5Apply:u5×Int):Unit->KS:=fun _=>⟨a4E.k 7 [true,false],(l7 7 s6 list::(bs 2 (.ptr 1 0 0::(bs 2 (.ptr 2 0 0::(vi i::(bs 35 []))))))),[some [],some [.var 46 [vi q.b9,vi q.Seq]],some [.var 77 [vi l5Apply.1.At,.own 3 0 2 0 l5Apply.1.g7.length,l7 4 B9 l5Apply.1.i8]],some [m6 124 2 x7 l5Apply.1.g7]]⟩
def c2D(i:Int)(l5Apply:u5×Int):Option (j7 (Int×Bool) ((List m9)×Int×Int×List q9) Unit):=
 some (j7.nxt (l5Apply.1.g7,m7 (i+1),l5Apply.1.At,l5Apply.1.i8))
theorem f3e(list q i l5Apply)(lc:D4 a4E c5L (d1e list q)):NL lc (e8t list q i l5Apply) (fun s=>c2D i l5Apply):=fun _ h=>PK<|rg<|(lc.nx h fun hI=>sk [] [0,3,6,7] [(1,0),(2,0),(3,0)] hI)
def b0Q(list:List m4)(q:n5)(g7:List m9)(i:Int)(sAt:Int)(sDones:List q9):Option (j7 (Int×Bool) ((List m9)×Int×Int×List q9) Unit):=
 (bif decide (i<(list.length:Int)) then ((idx list i).bind fun entry=>((a7W (u5.mk sAt g7 sDones) entry).bind fun l5Apply=>(((bif (!entry.i7) then (bif (([entry.a5.b9,entry.a5.Seq]:List Int)==[q.b9,q.Seq]) then some (l9.ret (j7.ret (l5Apply.2,true))) else some (l9.brk ())) else some (l9.brk ())):Option (l9 (j7 (Int×Bool) ((List m9)×Int×Int×List q9) Unit) Unit)).bind fun x=>x.go some fun j=>c2D i l5Apply))) else some (j7.brk ()))
theorem f0t(list q):LQ a4E c5L (d1e list q) (fun s=>b0Q list q s.1 s.2.1 s.2.2.1 s.2.2.2):=fun lc (g7,i,sAt,sDones) h=>PK<|rg<|j5 3 h (fun h=>rg<|u0 s6 3 h fun entry E9 h=>j9 a2Y b7d 5 h fun l5Apply h=>s8 g7<|rg<|A4 h (f3e list q i l5Apply lc) fun x2 h hc2=>rg<|I1 s6 2 E9<|j5 6 h (fun h=>I1 s6 9 E9<|j5 14 h (fun h=>rg<|(B8 h hc2 fun h=>fL lc h)) (fun h=>(o9 h hc2 fun hI=>sk [] [0,3,6,7] [(1,0),(2,0),(13,0)] hI))) (fun h=>(o9 h hc2 fun hI=>sk [] [0,3,6,7] [(1,0),(2,0),(13,0)] hI))) (fun h=>(lc.bk h fun hI=>sk [] [] [] hI))
def b57(list:List m4)(q:n5):Option (Int×Bool):=
 ((a9v).bind fun Q7=>((o7 (fun s:(List m9)×Int×Int×List q9=>b0Q list q s.1 s.2.1 s.2.2.1 s.2.2.2) (Q7.g7,0,Q7.At,Q7.i8)).bind fun x=>x.go (fun r=>some r) fun s=>c9P))
theorem e8y{list q}:OK a4E [l7 7 s6 list,.agg (F4 q)] (b57 list q):=
 o8 _ fun r h=>n9<|j9 b3g b80 0 h fun Q7 h=>rg<|lp (f0t list q) h (fun _ h=>a4E.rt h) (f3s r) fun hI=>sk [] [0,3,6,7] [(1,0),(5,0),(4,0)] hI
def a5u:FS (Bool):=⟨28,Tryz.f28,[.val [] []],[none],[.val C3 []],fun r=>.b r,fun _=>[none],Tryz.func28⟩
def c5T:Unit->KS:=fun _=>⟨a5u.k 5 [false,false],(bs 53 []),[some []]⟩
def d61:Option Bool:=
 some true
theorem e0h(r):NF a5u r c5T (fun s=>d61):=fun _ h=>PK<|rg<|fE h
def d6s(w:m5)(worldLog:List m4):Int->KS:=fun i=>⟨a5u.k 4 [false],(bs 1 (.ptr 1 0 0::(bs 1 (l7 7 s6 worldLog::(vi i::(bs 48 [])))))),[some [],some [.var 28 (B2 w)]]⟩
def d9h(w:m5)(worldLog:List m4)(i:Int)(told:n6)(l10Code:Int×Bool):Int->KS:=fun v_=>⟨a5u.k 10 [false,true,true],(bs 1 (.ptr 1 0 0::(bs 1 (l7 7 s6 worldLog::(vi i::(.ptr 2 0 0::(vi l10Code.1::(.b l10Code.2::(vi v_::(bs 44 [])))))))))),[some [],some [.var 28 (B2 w)],some [.var 89 [vi told.Node,vi told.a5.b9,vi told.a5.Seq,vi told.Code,vi told.d8]]]⟩
def c4I(i:Int)(told:n6)(l10Code:Int×Bool)(v_:Int):Option (j7 Bool Int Unit):=
 (bif (!l10Code.2) then some (j7.ret false) else (bif (l10Code.1 != told.Code) then some (j7.ret false) else (bif (v_ != told.d8) then some (j7.ret false) else some (j7.nxt (m7 (i+1))))))
theorem f2D(w worldLog i told l10Code)(lc:D4 a5u c5T (d6s w worldLog)):NL lc (d9h w worldLog i told l10Code) (fun s=>c4I i told l10Code s):=fun v_ h=>PK<|rg<|j5 2 h (fun h=>rg<|fL lc h) (fun h=>j5 8 h (fun h=>rg<|fL lc h) (fun h=>j5 13 h (fun h=>rg<|fL lc h) (fun h=>rg<|(lc.nx h fun hI=>sk [] [1,3,4] [(1,0)] hI))))
def b6O(w:m5)(worldLog:List m4)(i:Int):Option (j7 Bool Int Unit):=
 (bif decide (i<(w.Told.length:Int)) then ((idx w.Told i).bind fun told=>((b57 worldLog told.a5).bind fun l10Code=>(((bif (l10Code.1==0) then ((b09 worldLog told.a5).bind fun b2a=>some (l9.brk b2a)) else some (l9.brk 0)):Option (l9 (j7 Bool Int Unit) Int)).bind fun x=>x.go some fun j=>c4I i told l10Code j))) else some (j7.brk ()))
theorem e6M(w worldLog):LQ a5u c5T (d6s w worldLog) (fun s=>b6O w worldLog s):=fun lc i h=>PK<|rg<|j5 4 h (fun h=>rg<|u0 z5 3 h fun told a3M h=>rg<|j9 a4E e8y 3 h fun l10Code h=>rg<|A4 h (f2D w worldLog i told l10Code lc) fun x2 h hc2=>rg<|j5 1 h (fun h=>rg<|j9 a4q d06 3 h fun b2a h=>(o9 h hc2 fun hI=>sk [] [1,3,4,5,6,7,8] [(1,0),(12,0)] hI)) (fun h=>(o9 h hc2 fun hI=>sk [] [1,3,4,5,6,7,8] [(1,0),(12,0)] hI))) (fun h=>(lc.bk h fun hI=>sk [] [] [] hI))
def b4I(w:m5):Option Bool:=
 ((a3A w).bind fun z9=>(bif (!z9) then some false else ((b2k w).bind fun worldLog=>((o7 (fun s:Int=>b6O w worldLog s) 0).bind fun x=>x.go (fun r=>some r) fun s=>d61))))
theorem e5d{w}:OK a5u [.agg (J7 w)] (b4I w):=
 o8 _ fun r h=>n9<|j9 J0 a48 1 h fun z9 h=>j5 2 h (fun h=>rg<|fE h) (fun h=>rg<|j9 a3N d1g 1 h fun worldLog h=>rg<|lp (e6M w worldLog) h (fun _ h=>a5u.rt h) (e0h r) fun hI=>sk [] [1,3,4] [(1,0)] hI)
def a2V:FS (Bool):=⟨29,Tryz.f29,[.val [] []],[none],[.val C3 []],fun r=>.b r,fun _=>[none],Tryz.func29⟩
def c4C(w:m5):Unit->KS:=fun _=>⟨a2V.k 3 [false],(bs 1 (.ptr 1 0 0::(bs 30 []))),[some [],some [.var 28 (B2 w)]]⟩
def c6O(w:m5):Option Bool:=
 ((a3A w).bind fun z9=>some z9)
theorem d9R(w)(r):NF a2V r (c4C w) (fun s=>c6O w):=fun _ h=>PK<|rg<|j9 J0 a48 1 h fun z9 h=>fE h
def d3b(w:m5):Int->KS:=fun i=>⟨a2V.k 2 [],(bs 1 (.ptr 1 0 0::(bs 1 (vi i::(bs 28 []))))),[some [],some [.var 28 (B2 w)]]⟩
def d2N(w:m5)(i:Int):Unit->KS:=fun _=>⟨a2V.k 5 [true,false],(bs 1 (.ptr 1 0 0::(bs 1 (vi i::(bs 28 []))))),[some [],some [.var 28 (B2 w)]]⟩
def d7Z(i:Int):Option (j7 Bool Int Unit):=
 some (j7.nxt (m7 (i+1)))
theorem e2K(w i)(lc:D4 a2V (c4C w) (d3b w)):NL lc (d2N w i) (fun s=>d7Z i):=fun _ h=>PK<|rg<|(lc.nx h fun hI=>sk [] [1,3] [(1,0)] hI)
def e6x(w:m5)(i:Int):Int->KS:=fun k=>⟨a2V.k 4 [true],(bs 1 (.ptr 1 0 0::(bs 1 (vi i::(vi k::(bs 27 [])))))),[some [],some [.var 28 (B2 w)]]⟩
def b4D(w:m5)(i:Int)(k:Int):Option (j7 Bool Int Unit):=
 (bif decide (k<i) then ((idx w.Told k).bind fun told=>((idx w.Told i).bind fun a6u=>(bif (([told.a5.b9,told.a5.Seq]:List Int)==[a6u.a5.b9,a6u.a5.Seq]) then some (j7.ret false) else some (j7.nxt (m7 (k+1)))))) else some (j7.brk ()))
theorem f4X(w i):LQ a2V (d2N w i) (e6x w i) (fun s=>b4D w i s):=fun lc k h=>PK<|rg<|j5 2 h (fun h=>rg<|u0 z5 3 h fun told a3M h=>u0 z5 9 h fun a6u e9B h=>j5 12 h (fun h=>rg<|fL lc h) (fun h=>rg<|(lc.nx h fun hI=>sk [] [1,3,4] [(1,0)] hI))) (fun h=>(lc.bk h fun hI=>sk [] [1,3] [(1,0)] hI))
def b5X(w:m5)(i:Int):Option (j7 Bool Int Unit):=
 (bif decide (i<(w.Told.length:Int)) then ((o7 (fun s:Int=>b4D w i s) 0).bind fun x=>x.go (fun r=>some (j7.ret r)) fun s=>d7Z i) else some (j7.brk ()))
theorem d9S(w):LQ a2V (c4C w) (d3b w) (fun s=>b5X w s):=fun lc i h=>PK<|rg<|j5 4 h (fun h=>rg<|lp (f4X w i) h (fun _ h=>lc.rt h) (e2K w i lc) fun hI=>sk [] [1,3,4] [(1,0)] hI) (fun h=>(lc.bk h fun hI=>sk [] [1] [(1,0)] hI))
def b25(w:m5):Option Bool:=
 ((o7 (fun s:Int=>b5X w s) 0).bind fun x=>x.go (fun r=>some r) fun s=>c6O w)
theorem f4r{w}:OK a2V [.agg (J7 w)] (b25 w):=
 o8 _ fun r h=>n9<|lp (d9S w) h (fun _ h=>a2V.rt h) (d9R w r) fun hI=>sk [] [1,3] [(1,0)] hI
def c9Y:FS (Bool):=⟨8,Tryz.f8,[.val [] []],[none],[.val C3 []],fun r=>.b r,fun _=>[none],Tryz.func8⟩
def b6H(w:m5):Option Bool:=
 ((b3S w).bind fun a6y=>(bif a6y then ((b5d w).bind fun a6K=>(bif a6K then ((b2f w).bind fun a6C=>(bif a6C then ((b2p w).bind fun a50=>(bif a50 then ((b6J w).bind fun a06=>(bif a06 then ((b4I w).bind fun b2y=>(bif b2y then ((b25 w).bind fun b2u=>some b2u) else some false)) else some false)) else some false)) else some false)) else some false)) else some false))
theorem e1B{w}:OK c9Y [.agg (J7 w)] (b6H w):=
 o8 _ fun r h=>n9<|j9 a3I e9Q 1 h fun a6y h=>j5 2 h (fun h=>j9 Z4 f4K 4 h fun a6K h=>j5 6 h (fun h=>j9 a3G f0A 8 h fun a6C h=>j5 10 h (fun h=>j9 a1C f3A 12 h fun a50 h=>j5 14 h (fun h=>j9 a8V f8t 16 h fun a06 h=>j5 18 h (fun h=>j9 a5u e5d 20 h fun b2y h=>j5 22 h (fun h=>j9 a2V f4r 24 h fun b2u h=>fE h) (fun h=>fE h)) (fun h=>fE h)) (fun h=>fE h)) (fun h=>fE h)) (fun h=>fE h)) (fun h=>fE h)
def d7M:FS (m5):=⟨9,Tryz.f9,[.val C3 []],[none,none],[.val C3 [],.val [none,none,some 4] []],fun r=>.agg (J7 r),fun _=>[none,none],Tryz.func9⟩
def b7L(w:m5)(e_:s5):Option m5:=
 ((a2L w).bind fun z9=>(bif (!z9) then some (m5.mk [] [] [] []) else ((b19 w e_).bind fun b2n=>some b2n)))
theorem f1U{w e_}:OK d7M [.agg (J7 w),.agg (J6 e_)] (b7L w e_):=
 o8 _ fun r h=>n9<|j9 L7 a4M 1 h fun z9 h=>j5 2 h (fun h=>rg<|fE h) (fun h=>rg<|j9 a28 d0I 2 h fun b2n h=>fE h)
def b1R:FS (Bool):=⟨3,Tryz.f3,[.val [] []],[none,none],[.val [some 1] [],.val [some 1] []],fun r=>.b r,fun _=>[none,none],Tryz.func3⟩
def d4x:Unit->KS:=fun _=>⟨b1R.k 6 [false,false,false],(bs 72 []),[some []]⟩
def c9Q:Option Bool:=
 some true
theorem f4e(r):NF b1R r d4x (fun s=>c9Q):=fun _ h=>PK<|rg<|fE h
def e5W(more:List Int)(worldPlay:m5):Int->KS:=fun i=>⟨b1R.k 5 [false,false],(bs 1 (l7 1 J8 more::(bs 3 (.ptr 1 0 0::(vi i::(bs 65 [])))))),[some [],some [.var 28 [l7 27 x6 worldPlay.a0,l7 13 t7 worldPlay.d7,l7 3 C1 worldPlay.d9,l7 5 z5 worldPlay.Told]]]⟩
def a6t(more:List Int)(worldPlay:m5)(i:Int):Option (j7 Bool Int Unit):=
 (bif decide (i<4) then ((b7L worldPlay (s5.mk (m7 (1+(f9p (m7 ((more.length:Int)+i)) 7))) (f9p (m7 ((m7 (g0N (more.length:Int) 7))+i)) 12) [])).bind fun b0U=>((a9Y b0U).bind fun a6y=>(bif (!a6y) then some (j7.ret false) else ((b1N b0U).bind fun a6K=>(bif (!a6K) then some (j7.ret false) else ((b1F b0U).bind fun a6C=>(bif (!a6C) then some (j7.ret false) else ((b1k b0U).bind fun a50=>(bif (!a50) then some (j7.ret false) else ((b4v b0U).bind fun a06=>(bif (!a06) then some (j7.ret false) else some (j7.nxt (m7 (i+1)))))))))))))) else some (j7.brk ()))
theorem f3l(more worldPlay):LQ b1R d4x (e5W more worldPlay) (fun s=>a6t more worldPlay s):=fun lc i h=>PK<|rg<|j5 1 h (fun h=>rg<|om (7≠(0:Int)) (by decide)<|om (7≠(0:Int)) (by decide)<|om (12≠(0:Int)) (by decide)<|rg<|j9 d7M f1U 2 h fun b0U h=>rg<|j9 a0B d1m 1 h fun a6y h=>j5 3 h (fun h=>rg<|fL lc h) (fun h=>j9 X8 d7j 5 h fun a6K h=>j5 8 h (fun h=>rg<|fL lc h) (fun h=>j9 a2I d67 10 h fun a6C h=>j5 13 h (fun h=>rg<|fL lc h) (fun h=>j9 a0v d5b 15 h fun a50 h=>j5 18 h (fun h=>rg<|fL lc h) (fun h=>j9 a1E d53 20 h fun a06 h=>j5 22 h (fun h=>rg<|fL lc h) (fun h=>rg<|(lc.nx h fun hI=>sk [] [1,5,6] [(1,0)] hI))))))) (fun h=>(lc.bk h fun hI=>sk [] [] [] hI))
def c5d(code:List Int)(more:List Int):Option Bool:=
 (bif decide ((code.length:Int)>1048576) then some true else (bif decide ((more.length:Int)>1048576) then some true else ((b7t).bind fun b1r=>((b55 code).bind fun d1f=>((b2G b1r d1f).bind fun worldPlay=>((b68 worldPlay).bind fun d7W=>(bif (!d7W) then some false else ((b6H worldPlay).bind fun d4o=>(bif (!d4o) then some false else ((o7 (fun s:Int=>a6t more worldPlay s) 0).bind fun x=>x.go (fun r=>some r) fun s=>c9Q))))))))))
theorem e2i{code more}:OK b1R [l7 1 J8 code,l7 1 J8 more] (c5d code more):=
 o8 _ fun r h=>n9<|j5 3 h (fun h=>rg<|fE h) (fun h=>j5 7 h (fun h=>rg<|fE h) (fun h=>rg<|j9 a7G f1a 0 h fun b1r h=>j9 d6i e8V 2 h fun d1f h=>j9 a8g e9A 3 h fun worldPlay h=>rg<|j9 c9j e4W 1 h fun d7W h=>j5 3 h (fun h=>rg<|fE h) (fun h=>j9 c9Y e1B 5 h fun d4o h=>j5 7 h (fun h=>rg<|fE h) (fun h=>rg<|lp (f3l more worldPlay) h (fun _ h=>b1R.rt h) (f4e r) fun hI=>sk [] [1,5,6] [(14,0)] hI))))
theorem f5E:a90 Tryz.prog 5 J8 a5g:=e3f Tryz.underlying5
theorem d38:a90 Tryz.prog 22 (fun l:List Int=>[l7 1 J8 l]) (A2 1 a5g):=e9v Tryz.underlying22 f5E (by kernel_rfl) (by decide) (by kernel_rfl) (fun _=>rfl)
theorem C5{n:Int}(h1:-9223372036854775808<=n)(h2:n<=9223372036854775807):m7 n=n:=IntWalk.i64_in n ⟨h1,h2⟩
def s7{α:Type}(l:List α):Prop:=l.length<=140737488351232
theorem E6{α:Type}{l:List α}(hl:s7 l){k:Nat}(h:k<l.length):m7 ((k:Int)+1)=((k+1:Nat):Int):=by
 unfold s7 at hl;rw [C5 (by omega) (by omega)];omega
section
variable {R S B:Type} {body:S->Option (j7 R S B)}
theorem E8{s t:S}(h:body s=some (.nxt t)):o7 body s=o7 body t:=by rw [c6E,h]
theorem C7{s:S}{b:B}(h:body s=some (.brk b)):o7 body s=some (.brk b):=by rw [c6E,h]
theorem W4{s:S}{r:R}(h:body s=some (.ret r)):o7 body s=some (.ret r):=by rw [c6E,h]
theorem V0(st:Nat->S)(n:Nat)(h:∀k,k<n->body (st k)=some (.nxt (st (k+1)))):o7 body (st 0)=o7 body (st n):=by
 induction n with
 | zero=>rfl
 | succ n ih=>
  rw [ih fun k hk=>h k (by omega)];exact E8 (h n (by omega))
theorem a4O(st:Nat->S)(n:Nat)(ok:Nat->Bool)(r:Nat->R)(b:B)(h1:∀k,k<n->(∀j,j<k->ok j=true)->body (st k)=some (bif ok k then .nxt (st (k+1)) else .ret (r k)))(h2:(∀j,j<n->ok j=true)->body (st n)=some (.brk b)) :
  (o7 body (st 0)=some (.brk b)/\∀j,j<n->ok j=true)\/∃k,k<n/\ok k=false/\(∀j,j<k->ok j=true)/\o7 body (st 0)=some (.ret (r k)):=by
 by_cases hall:∀j,j<n->ok j=true
 ·left
  refine ⟨?_,hall⟩;rw [V0 st n fun k hk => ?_]
  ·exact C7 (h2 hall)
  ·rw [h1 k hk fun j hj=>hall j (by omega),hall k hk];rfl
 ·right
  have hex:∃k,k<n/\ok k=false:=by
   apply g0G;intro hn;apply hall;intro j hj;cases hj':ok j with
   | true=>rfl
   | false=>exact absurd ⟨j,hj,hj'⟩ hn
  obtain ⟨k,hk,ho,hb⟩:∃k,k<n/\ok k=false/\∀j,j<k->ok j=true:=by
   obtain ⟨k,hk,ho⟩:=hex;induction k using Nat.strongRecOn with
   | _ k ih=>
    by_cases hb:∀j,j<k->ok j=true
    ·exact ⟨k,hk,ho,hb⟩
    ·have:∃j,j<k/\ok j=false:=by
      apply g0G;intro hn;apply hb;intro j hj;cases hj':ok j with
      | true=>rfl
      | false=>exact absurd ⟨j,hj,hj'⟩ hn
     obtain ⟨j,hj,hjo⟩:=this;exact ih j hj (by omega) hjo
  refine ⟨k,hk,ho,hb,?_⟩;rw [V0 st k fun j hj => ?_]
  ·refine W4 ?_;rw [h1 k hk hb,ho];rfl
  ·rw [h1 j (by omega) fun i hi=>hb i (by omega),hb j hj];rfl
end
theorem c1M{R S B:Type}{body:S->Option (j7 R S B)}(I:Nat->S->Prop)(Q:l9 R B->Prop)(h:∀k s,I k s->∃st,body s=some st/\match st with | .ret r=>Q (.ret r) | .brk b=>Q (.brk b) | .nxt t => ∃k',k'<k/\I k' t):∀{k s},I k s->∃x,o7 body s=some x/\Q x:=by
 intro k;induction k using Nat.strongRecOn with
 | _ k ih=>
  intro s hs;obtain ⟨st,hb,hq⟩:=h k s hs;cases st with
  | ret r=>exact ⟨_,W4 hb,hq⟩
  | brk b=>exact ⟨_,C7 hb,hq⟩
  | nxt t=>
   obtain ⟨k',hk,ht⟩:=hq;obtain ⟨x,hx,hq⟩:=ih k' hk ht;exact ⟨x,by rw [E8 hb];exact hx,hq⟩
theorem v5{β:Type}{p:Prop}[Decidable p](h:p)(k:Option β):t5 p k=k:=if_pos h
theorem a8G{α:Type}(l:List α)(k:Nat):idx l (k:Int)=l[k]?:=by
 unfold idx;rw [if_pos (by omega)];rfl
theorem t0{α:Type}{l:List α}{k:Nat}(h:k<l.length):idx l (k:Int)=some l[k]:=by
 rw [a8G,f8N h]
theorem w6{α:Type}(l:List α)(k:Nat)(h:k<l.length):decide ((k:Int)<(l.length:Int))=true:=by simpa using h
theorem z8{α:Type}(l:List α):decide ((l.length:Int)<(l.length:Int))=false:=by simp
theorem I5{α B:Type}{body:Int->Option (j7 Bool Int B)}(l:List α)(hl:s7 l)(ok:α->Bool)(v:Bool)(b:B)(h1:∀(k:Nat) (h:k<l.length),body (k:Int)=some (bif ok l[k] then .nxt (m7 ((k:Int)+1)) else .ret v))(h2:body (l.length:Int)=some (.brk b)):o7 body 0=some (bif l.all ok then .brk b else .ret v):=by
 have h:=a4O (body:=body) (fun k=>(k:Int)) l.length (fun k=>match l[k]? with|some x=>ok x|none=>true) (fun _=>v) b
  (fun k hk _=>by
   have:=h1 k hk;rw [E6 hl hk] at this;simpa [f8N hk] using this) (fun _=>h2)
 rcases h with ⟨h,hall⟩|⟨k,hk,ho,_,h⟩
 ·have:l.all ok=true:=by
   rw [f8S];intro x hx;obtain ⟨i,hi,rfl⟩:=f9o hx;have:=hall i hi;simpa [f8N hi] using this
  rw [this];exact h
 ·have:l.all ok=false:=by
   rw [g0u];refine ⟨l[k],f8Q hk,?_⟩;simpa [f8N hk] using ho
  rw [this];exact h
theorem W1{α B:Type}{body:Int->Option (j7 Bool Int B)}(l:List α)(hl:s7 l)(ok:Nat->Bool)(v:Bool)(b:B)(h1:∀(k:Nat) (h:k<l.length),(∀j,j<k->ok j=true)->body (k:Int)=some (bif ok k then .nxt (m7 ((k:Int)+1)) else .ret v))(h2:body (l.length:Int)=some (.brk b)):o7 body 0=some (bif (f8W l.length).all ok then .brk b else .ret v):=by
 have h:=a4O (body:=body) (fun k=>(k:Int)) l.length ok (fun _=>v) b
  (fun k hk hb=>by
   have:=h1 k hk hb;rw [E6 hl hk] at this;exact this) (fun _=>h2)
 rcases h with ⟨h,hall⟩|⟨k,hk,ho,_,h⟩
 ·have:(f8W l.length).all ok=true:=by
   rw [f8S];intro x hx;exact hall x (by simpa using hx)
  rw [this];exact h
 ·have:(f8W l.length).all ok=false:=by
   rw [g0u];exact ⟨k,by simpa using hk,by simp [ho]⟩
  rw [this];exact h
theorem b2b{α R B:Type}{body:Int->Option (j7 R Int B)}(l:List α)(hl:s7 l)(is:α->Bool)(f:α->R)(b:B)(h1:∀(k:Nat) (h:k<l.length),body (k:Int)=some (bif is l[k] then .ret (f l[k]) else .nxt (m7 ((k:Int)+1))))(h2:body (l.length:Int)=some (.brk b)):o7 body 0=some (match l.find? is with|some x=>.ret (f x)|none=>.brk b):=by
 have key:∀(m k:Nat),k+m=l.length->o7 body (k:Int)=some (match (l.drop k).find? is with|some x=>.ret (f x)|none=>.brk b):=by
  intro m;induction m with
  | zero=>
   intro k hk;have:k=l.length:=by omega
   subst this;rw [g02];exact C7 h2
  | succ m ih=>
   intro k hk;have hlt:k<l.length:=by omega
   have hb:=h1 k hlt;rw [f9j hlt,g0A];cases hq:is l[k] with
   | true=>
    rw [hq] at hb;exact W4 hb
   | false=>
    rw [hq] at hb;rw [E8 hb,E6 hl hlt];exact ih (k+1) (by omega)
 have:=key l.length 0 (by omega);simpa using this
theorem d3H{α S R B:Type}{body:S×Int->Option (j7 R (S×Int) B)}(l:List α)(hl:s7 l)(g:S->α->S)(s0:S)(b:S->B)(h1:∀(k:Nat) (h:k<l.length),body ((l.take k).foldl g s0,(k:Int))=some (.nxt (g ((l.take k).foldl g s0) l[k],m7 ((k:Int)+1))))(h2:body (l.foldl g s0,(l.length:Int))=some (.brk (b (l.foldl g s0)))):o7 body (s0,0)=some (.brk (b (l.foldl g s0))):=by
 have h:=V0 (body:=body) (fun k=>((l.take k).foldl g s0,(k:Int))) l.length (fun k hk=>by
  rw [h1 k hk,E6 hl hk,f9s hk,List.foldl_append];rfl)
 simp only [f9D,g1c,f9e] at h;rw [show ((0:Nat):Int)=0 from rfl] at h;rw [h];exact C7 h2
def c3Z(x:n5):Prop:=H3 x.b9/\H3 x.Seq
def d7G(x:r9):Prop:=H3 x.i5/\H3 x.j4
def d6k(x:p8):Prop:=H3 x.i5/\H3 x.d8
def b9G(x:n7):Prop:=(A2 16 d7G) x.b5/\(A2 16 d6k) x.b7/\H3 x.d8/\H3 x.Code
def F3(x:m4):Prop:=c3Z x.a5/\b9G x.b6
def T1(x:m8):Prop:=H3 x.a8/\F3 x.g9
def a6N(x:z0):Prop:=H3 x.i0/\(A2 96 T1) x.a7
def b30(x:n8):Prop:=H3 x.a9/\H3 x.A/\H3 x.B/\H3 x.N
def O6(x:j6):Prop:=H3 x.Id/\a6N x.Acc/\(A2 88 F3) x.a6/\H3 x.Seq/\H3 x.d6/\H3 x.a8/\(A2 1 okT) x.c9/\(A2 96 T1) x.i4/\F3 x.c8/\(A2 1 okT) x.a7/\(A2 32 b30) x.i6/\F3 x.b8/\(A2 88 F3) x.f0
def a0n(x:l8):Prop:=H3 x.a9/\H3 x.c9/\H3 x.To/\H3 x.a8/\H3 x.g8/\F3 x.g9/\(A2 96 T1) x.a7
def c9A(x:x8):Prop:=c3Z x.a5/\(A2 32 b30) x.i6
def d1N(x:n6):Prop:=H3 x.Node/\c3Z x.a5/\H3 x.Code/\H3 x.d8
def K5(x:m5):Prop:=(A2 392 O6) x.a0/\(A2 152 a0n) x.d7/\(A2 40 c9A) x.d9/\(A2 40 d1N) x.Told
theorem A2.fits{α:Type}{bytes:Nat}{ok:α->Prop}{l:List α}(h:A2 bytes ok l)(hb:0<bytes):s7 l:=by
 obtain ⟨h,_⟩:=h;unfold s7;have:l.length*1<=l.length*bytes:=Nat.mul_le_mul_left _ hb;omega
def a18(x:n7):Prop:=A2 16 okT x.b5/\A2 16 okT x.b7/\True
def a1n(x:m4):Prop:=True/\a18 x.b6
theorem A2.imp{α:Type}{bytes:Nat}{ok ok':α->Prop}{l:List α}(h:A2 bytes ok l)(hi:∀x,ok x->ok' x):A2 bytes ok' l:=⟨h.1,fun x hx=>hi x (h.2 x hx)⟩
theorem b9G.f{x:n7}(h:b9G x):a18 x:=⟨h.1.imp fun _ _=>trivial,h.2.1.imp fun _ _=>trivial,trivial⟩
theorem F3.f{x:m4}(h:F3 x):a1n x:=⟨trivial,h.2.f⟩
theorem okEntries.f{l:List m4}(h:A2 88 F3 l):A2 88 a1n l:=h.imp fun _ x=>x.f
def J9(l:List r9)(box:Int):Bool:=l.any (·.i5==box)
def K9(l:List p8)(box:Int):Bool:=l.any (·.i5==box)
theorem d6T{l:List r9}(h:s7 l)(box:Int):b2W l box=some (J9 l box):=by
 unfold b2W;rw [I5 l h (fun x => !(x.i5==box)) true ()]
 ·unfold J9;rw [List.any_eq_not_all_not];cases l.all fun x => !(x.i5==box)<;>rfl
 ·intro k hk;unfold b5D;rw [w6 l k hk,t0 hk];cases hq:l[k].i5==box<;>simp [hq]
 ·unfold b5D;rw [z8];rfl
theorem d7C{α B:Type}{body:Int->Option (j7 Int Int B)}(l:List α)(hl:s7 l)(is:α->Bool)(b:B)(h1:∀(k:Nat) (h:k<l.length),body (k:Int)=some (bif is l[k] then .ret (k:Int) else .nxt (m7 ((k:Int)+1))))(h2:body (l.length:Int)=some (.brk b)):(o7 body 0=some (.brk b)/\l.any is=false)\/∃k:Nat,o7 body 0=some (.ret (k:Int))/\l.any is=true:=by
 have h:=a4O (body:=body) (fun k=>(k:Int)) l.length (fun k=>match l[k]? with|some x => !is x|none=>true) (fun k=>(k:Int)) b
  (fun k hk _=>by
   have:=h1 k hk;rw [E6 hl hk] at this;rw [this];simp only [f8N hk];cases is l[k]<;>rfl) (fun _=>h2)
 rcases h with ⟨h,hall⟩|⟨k,hk,ho,_,h⟩
 ·left
  refine ⟨h,?_⟩;rw [f9E];intro x hx;obtain ⟨i,hi,rfl⟩:=f9o hx;have:=hall i hi;simpa [f8N hi] using this
 ·right
  refine ⟨k,h,?_⟩;rw [g0p];refine ⟨l[k],f8Q hk,?_⟩;simpa [f8N hk] using ho
theorem f7b{l:List p8}(h:s7 l)(box:Int):∃v,a6W l box=some v/\decide (v>=0)=K9 l box:=by
 unfold a6W;rcases d7C (body:=fun s:Int=>a60 l box s) l h (fun x=>x.i5==box) () (by
  intro k hk;unfold a60;rw [w6 l k hk,t0 hk];cases hq:l[k].i5==box<;>simp [hq]) (by unfold a60;rw [z8];rfl) with ⟨h1,h2⟩|⟨k,h1,h2⟩
 ·rw [h1];exact ⟨-1,rfl,h2.symm⟩
 ·rw [h1];refine ⟨k,rfl,?_⟩;rw [show K9 l box=true from h2];simp
theorem f5e{x:n7}(h:s7 x.b5)(box:Int):∃v,b5a x box=some v/\decide (v>=0)=J9 x.b5 box:=by
 unfold b5a;rcases d7C (body:=fun s:Int=>b4a x box s) x.b5 h (fun x=>x.i5==box) () (by
  intro k hk;unfold b4a;rw [w6 x.b5 k hk,t0 hk];cases hq:x.b5[k].i5==box<;>simp [hq]) (by unfold b4a;rw [z8];rfl) with ⟨h1,h2⟩|⟨k,h1,h2⟩
 ·rw [h1];exact ⟨-1,rfl,h2.symm⟩
 ·rw [h1];refine ⟨k,rfl,?_⟩;rw [show J9 x.b5 box=true from h2];simp
def p9(n lo hi:Int):Bool:=decide (lo<=n/\n<=hi)
theorem N7(n lo hi:Int):D7 n lo hi=some (p9 n lo hi):=by
 unfold D7 p9;by_cases h:n>=lo
 ·have h':lo<=n:=h;simp [h']
 ·have h':¬lo<=n:=h;simp [h']
theorem a8O(n:Int):a7j n=some (p9 n (-1000000) 1000000):=N7 n (-1000000) 1000000
theorem c4T(n:Int):a7K n=some (p9 n 0 3):=by
 rw [<-N7];unfold a7K D7;have:(n<4)=(n<=3):=by apply propext;omega
 simp only [this]
theorem b9p(q:n5):a7v q=some (p9 q.b9 0 2&&p9 q.Seq 1 1000):=by
 unfold a7v;simp only [N7,f8M];cases p9 q.b9 0 2<;>rfl
theorem c3F(q:n5):a99 q=some (p9 q.b9 0 2&&p9 q.Seq 1 1000):=by
 have h3:(q.b9<3)=(q.b9<=2):=by apply propext;omega
 unfold a99 p9;simp only [h3];by_cases h1:q.b9>=0<;>by_cases h2:q.b9<=2<;>by_cases h4:q.Seq>=1<;>by_cases h5:q.Seq<=1000<;>simp [h1,h2,h4,h5]<;>omega
def X4(l:List r9)(k:Nat):Bool:=match l[k]? with
 | some x=>p9 x.i5 0 3&&(p9 x.j4 0 1000000 && !J9 (l.take k) x.i5)
 | none=>true
def Y9(l:List p8)(k:Nat):Bool:=match l[k]? with
 | some x=>p9 x.i5 0 3&&(p9 x.d8 (-1000000) 1000000 && !K9 (l.take k) x.i5)
 | none=>true
theorem b2h{α:Type}{l:List α}(h:s7 l)(k:Nat):s7 (l.take k):=by
 unfold s7 at h⊢;rw [f9g];omega
theorem e0v{r:n7}(h:s7 r.b5):o7 (fun s:Int=>b5x r s) 0=some (bif (f8W r.b5.length).all (X4 r.b5) then .brk () else .ret false):=by
 refine W1 r.b5 h (X4 r.b5) false () ?_ ?_
 ·intro k hk _;unfold b5x X4 t5;rw [w6 _ k hk,t0 hk,f8N hk];have hp:(0:Int)<=(k:Int)/\(k:Int)<=(r.b5.length:Int):=by constructor<;>omega
  simp only [g1d,f8M,if_pos hp,c4T,f9r,Nat.sub_zero,g0a,d6T (b2h h k)];cases p9 r.b5[k].i5 0 3
  ·rfl
  ·unfold p9;by_cases h1:r.b5[k].j4<0
   ·have h1':¬0<=r.b5[k].j4:=by omega
    simp [h1,h1']
   ·have h1':0<=r.b5[k].j4:=by omega
    by_cases h2:r.b5[k].j4>1000000
    ·have h2':¬r.b5[k].j4<=1000000:=by omega
     simp [h1,h1',h2,h2']
    ·have h2':r.b5[k].j4<=1000000:=by omega
     simp only [h1,h1',h2,h2',decide_false,decide_true,f8T,g1e,f8Y,and_self];cases J9 (r.b5.take k) r.b5[k].i5<;>rfl
 ·unfold b5x;rw [z8];rfl
theorem e9w{r:n7}(h:s7 r.b7):o7 (fun s:Int=>b4t r s) 0=some (bif (f8W r.b7.length).all (Y9 r.b7) then .brk () else .ret false):=by
 refine W1 r.b7 h (Y9 r.b7) false () ?_ ?_
 ·intro k hk _;obtain ⟨v,hv,hg⟩:=f7b (b2h h k) r.b7[k].i5;unfold b4t Y9 t5;rw [w6 _ k hk,t0 hk,f8N hk];have hp:(0:Int)<=(k:Int)/\(k:Int)<=(r.b7.length:Int):=by constructor<;>omega
  simp only [g1d,f8M,if_pos hp,c4T,a8O,f9r,Nat.sub_zero,g0a,hv,hg];cases p9 r.b7[k].i5 0 3
  ·rfl
  ·cases p9 r.b7[k].d8 (-1000000) 1000000
   ·rfl
   ·cases K9 (r.b7.take k) r.b7[k].i5<;>rfl
 ·unfold b4t;rw [z8];rfl
def b1f(f:Int->Bool):List Bool:=[f 0,f 1,f 2,f 3]
theorem d2H{f:Int->Bool}{b:Int}(h:p9 b 0 3=true):idx (b1f f) b=some (f b)/\b<4:=by
 have h:0<=b/\b<=3:=by simpa [p9] using h
 have:b=0\/b=1\/b=2\/b=3:=by omega
 rcases this with rfl|rfl|rfl|rfl<;>exact ⟨rfl,by decide⟩
theorem d3r{f g:Int->Bool}{b:Int}(h:p9 b 0 3=true)(hb:g b=true)(hne:∀c,c≠b->g c=f c):(b1f f).set b.toNat true=b1f g:=by
 have h:0<=b/\b<=3:=by simpa [p9] using h
 have:b=0\/b=1\/b=2\/b=3:=by omega
 unfold b1f;rcases this with rfl|rfl|rfl|rfl
 all_goals
  rw [show [g 0,g 1,g 2,g 3]=_ from rfl];first
   | rw [hb,hne 1 (by decide),hne 2 (by decide),hne 3 (by decide)];rfl
   | rw [hb,hne 0 (by decide),hne 2 (by decide),hne 3 (by decide)];rfl
   | rw [hb,hne 0 (by decide),hne 1 (by decide),hne 3 (by decide)];rfl
   | rw [hb,hne 0 (by decide),hne 1 (by decide),hne 2 (by decide)];rfl
theorem d3n{l:List r9}{k:Nat}(hk:k<l.length)(b:Int):J9 (l.take (k+1)) b=(J9 (l.take k) b||(l[k].i5==b)):=by
 unfold J9;rw [f9s hk,List.any_append];simp
theorem d27{l:List p8}{k:Nat}(hk:k<l.length)(b:Int):K9 (l.take (k+1)) b=(K9 (l.take k) b||(l[k].i5==b)):=by
 unfold K9;rw [f9s hk,List.any_append];simp
theorem e3C{l:List r9}{k:Nat}(hk:k<l.length)(c:Int)(hc:c≠l[k].i5):J9 (l.take (k+1)) c=J9 (l.take k) c:=by
 have:(l[k].i5==c)=false:=by simpa using fun h=>hc h.symm
 rw [d3n hk,this,Bool.or_false]
theorem e6Q{l:List p8}{k:Nat}(hk:k<l.length)(c:Int)(hc:c≠l[k].i5):K9 (l.take (k+1)) c=K9 (l.take k) c:=by
 have:(l[k].i5==c)=false:=by simpa using fun h=>hc h.symm
 rw [d27 hk,this,Bool.or_false]
theorem d8q{R S B:Type}{x:Option (l9 R B)}{n:Nat}{ok:Nat->Bool}{r:R}{b:B}(h:(x=some (.brk b)/\∀j,j<n->ok j=true)\/∃k,k<n/\ok k=false/\(∀j,j<k->ok j=true)/\x=some (.ret r)):x=some (bif (f8W n).all ok then .brk b else .ret r):=by
 rcases h with ⟨h,hall⟩|⟨k,hk,ho,_,h⟩
 ·have:(f8W n).all ok=true:=by
   rw [f8S];intro x hx;exact hall x (by simpa using hx)
  rw [this];exact h
 ·have:(f8W n).all ok=false:=by
   rw [g0u];exact ⟨k,by simpa using hk,by simp [ho]⟩
  rw [this];exact h
theorem e6H{r:n7}(h:s7 r.b5):o7 (fun s:List Bool×Int=>b0h r s.1 s.2) (f8O 4 false,0)=some (bif (f8W r.b5.length).all (X4 r.b5) then .brk () else .ret false):=by
 refine d8q (S:=List Bool×Int) (a4O (body:=fun s:List Bool×Int=>b0h r s.1 s.2) (fun k=>(b1f (J9 (r.b5.take k)),(k:Int))) r.b5.length (X4 r.b5) (fun _=>false) () ?_ ?_)
 ·intro k hk _;simp only;unfold b0h X4 t5;rw [w6 _ k hk,t0 hk,f8N hk];simp only [g1d,f8M,N7];cases hb:p9 r.b5[k].i5 0 3
  ·rfl
  ·obtain ⟨h1,h2⟩:=d2H (f:=J9 (r.b5.take k)) hb;rw [h1];simp only [if_pos h2,f8T,g1e,f8M,f8Y];cases hs:J9 (r.b5.take k) r.b5[k].i5
   ·cases p9 r.b5[k].j4 0 1000000
    ·rfl
    ·simp only [f8T,g1e,f9x,f8Y,g1d];rw [d3r (f:=J9 (r.b5.take k)) (g:=J9 (r.b5.take (k+1))) hb (by rw [d3n hk];simp) (e3C hk),E6 h hk]
   ·cases p9 r.b5[k].j4 0 1000000<;>rfl
 ·intro _;simp only;unfold b0h;rw [z8];rfl
theorem f8u{r:n7}(h:s7 r.b7):o7 (fun s:List Bool×Int=>b0C r s.1 s.2) (f8O 4 false,0)=some (bif (f8W r.b7.length).all (Y9 r.b7) then .brk () else .ret false):=by
 refine d8q (S:=List Bool×Int) (a4O (body:=fun s:List Bool×Int=>b0C r s.1 s.2) (fun k=>(b1f (K9 (r.b7.take k)),(k:Int))) r.b7.length (Y9 r.b7) (fun _=>false) () ?_ ?_)
 ·intro k hk _;simp only;unfold b0C Y9 t5;rw [w6 _ k hk,t0 hk,f8N hk];simp only [g1d,f8M,N7];cases hb:p9 r.b7[k].i5 0 3
  ·rfl
  ·obtain ⟨h1,h2⟩:=d2H (f:=K9 (r.b7.take k)) hb;rw [h1];simp only [if_pos h2,f8T,g1e,f8M,f8Y];cases hs:K9 (r.b7.take k) r.b7[k].i5
   ·cases p9 r.b7[k].d8 (-1000000) 1000000
    ·rfl
    ·simp only [f8T,g1e,f9x,f8Y,g1d];rw [d3r (f:=K9 (r.b7.take k)) (g:=K9 (r.b7.take (k+1))) hb (by rw [d27 hk];simp) (e6Q hk),E6 h hk]
   ·cases p9 r.b7[k].d8 (-1000000) 1000000<;>rfl
 ·intro _;simp only;unfold b0C;rw [z8];rfl
def V4(r:n7):Bool:=p9 r.Code 0 3&&(p9 r.d8 (-1000000) 1000000&&((r.Code==0||(r.d8==0&&r.b7.length==0))&&((r.Code != 3||r.b5.length==0)&&((f8W r.b5.length).all (X4 r.b5)&&(f8W r.b7.length).all (Y9 r.b7)))))
theorem e1D{r:n7}(h:a18 r):b8R r=some ((f8W r.b5.length).all (X4 r.b5)&&(f8W r.b7.length).all (Y9 r.b7)):=by
 unfold b8R c3w;rw [e0v (h.1.fits (by decide)),e9w (h.2.1.fits (by decide))];cases (f8W r.b5.length).all (X4 r.b5)<;>cases (f8W r.b7.length).all (Y9 r.b7)<;>rfl
theorem f6i{r:n7}(h:a18 r):b7p r=some ((f8W r.b5.length).all (X4 r.b5)&&(f8W r.b7.length).all (Y9 r.b7)):=by
 unfold b7p c5Z;rw [e6H (h.1.fits (by decide)),f8u (h.2.1.fits (by decide))];cases (f8W r.b5.length).all (X4 r.b5)<;>cases (f8W r.b7.length).all (Y9 r.b7)<;>rfl
theorem c98{α:Type}(l:List α):decide ((l.length:Int)>0) = !(l.length==0):=by
 cases l<;>simp
theorem d6S{r:n7}(h:a18 r):b2N r=some (V4 r):=by
 unfold b2N V4;rw [e1D h];simp only [a8O,c98,f8M,l9.go];generalize ((f8W r.b5.length).all (X4 r.b5)&&(f8W r.b7.length).all (Y9 r.b7))=z;generalize (r.b7.length==0)=a;generalize (r.b5.length==0)=b;generalize p9 r.d8 (-1000000) 1000000=c;have h3:p9 r.Code 0 3=(!decide (r.Code<0) && !decide (r.Code>3)):=by
  unfold p9;by_cases h1:r.Code<0<;>by_cases h2:r.Code>3<;>simp [h1,h2]<;>omega
 rw [h3];unfold bne;cases decide (r.Code<0)<;>cases decide (r.Code>3)<;>cases c<;>cases (r.Code==0)<;>cases (r.d8==0)<;>cases a<;>cases (r.Code==3)<;>cases b<;>rfl
theorem c4g{r:n7}(h:a18 r):b1T r=some (V4 r):=by
 unfold b1T V4;rw [f6i h];simp only [N7,c98,f8M,l9.go];generalize ((f8W r.b5.length).all (X4 r.b5)&&(f8W r.b7.length).all (Y9 r.b7))=z;generalize (r.b7.length==0)=a;generalize (r.b5.length==0)=b;generalize p9 r.d8 (-1000000) 1000000=c;generalize p9 r.Code 0 3=d;unfold bne;cases d<;>cases c<;>cases (r.Code==0)<;>cases (r.d8==0)<;>cases a<;>cases (r.Code==3)<;>cases b<;>rfl
def a2y(a b:List r9)(k:Nat):Bool:=match a[k]?,b[k]? with
 | some x,some y=>([x.i5,x.j4]:List Int)==[y.i5,y.j4]
 | _,_=>true
def a2S(a b:List p8)(k:Nat):Bool:=match a[k]?,b[k]? with
 | some x,some y=>([x.i5,x.d8]:List Int)==[y.i5,y.d8]
 | _,_=>true
theorem e7b{a b:n7}(h:s7 a.b5)(hl:a.b5.length=b.b5.length):o7 (fun s:Int=>b4m a b s) 0=some (bif (f8W a.b5.length).all (a2y a.b5 b.b5) then .brk () else .ret false):=by
 refine W1 a.b5 h (a2y a.b5 b.b5) false () ?_ ?_
 ·intro k hk _;unfold b4m a2y;rw [w6 _ k hk,t0 hk,t0 (hl▸hk),f8N hk,f8N (hl▸hk)];simp only [g1d,f8M];cases ([a.b5[k].i5,a.b5[k].j4]:List Int)==[(b.b5[k]'(hl▸hk)).i5,(b.b5[k]'(hl▸hk)).j4]<;>rfl
 ·unfold b4m;rw [z8];rfl
theorem f1V{a b:n7}(h:s7 a.b7)(hl:a.b7.length=b.b7.length):o7 (fun s:Int=>b1Z a b s) 0=some (bif (f8W a.b7.length).all (a2S a.b7 b.b7) then .brk () else .ret false):=by
 refine W1 a.b7 h (a2S a.b7 b.b7) false () ?_ ?_
 ·intro k hk _;unfold b1Z a2S;rw [w6 _ k hk,t0 hk,t0 (hl▸hk),f8N hk,f8N (hl▸hk)];simp only [g1d,f8M];cases ([a.b7[k].i5,a.b7[k].d8]:List Int)==[(b.b7[k]'(hl▸hk)).i5,(b.b7[k]'(hl▸hk)).d8]<;>rfl
 ·unfold b1Z;rw [z8];rfl
theorem d9U{a b:List r9}(h:s7 a):b9x a b=some (a.length==b.length&&(f8W a.length).all (a2y a b)):=by
 unfold b9x;by_cases hl:a.length=b.length
 ·rw [W1 a h (a2y a b) false ()]
  ·rw [hl];simp only [bne_self_eq_false,g1e,beq_self_eq_true,f8Y];cases (f8W b.length).all (a2y a b)<;>rfl
  ·intro k hk _;unfold b8b a2y;rw [w6 _ k hk,t0 hk,t0 (hl▸hk),f8N hk,f8N (hl▸hk)];simp only [g1d,f8M];cases ([a[k].i5,a[k].j4]:List Int)==[(b[k]'(hl▸hk)).i5,(b[k]'(hl▸hk)).j4]<;>rfl
  ·unfold b8b;rw [z8];rfl
 ·have h1:((a.length:Int) != (b.length:Int))=true:=by simp;omega
  have h2:(a.length==b.length)=false:=by simpa using hl
  rw [h1,h2];rfl
theorem e7W{a b:List p8}(h:s7 a):c0M a b=some (a.length==b.length&&(f8W a.length).all (a2S a b)):=by
 unfold c0M;by_cases hl:a.length=b.length
 ·rw [W1 a h (a2S a b) false ()]
  ·rw [hl];simp only [bne_self_eq_false,g1e,beq_self_eq_true,f8Y];cases (f8W b.length).all (a2S a b)<;>rfl
  ·intro k hk _;unfold b9u a2S;rw [w6 _ k hk,t0 hk,t0 (hl▸hk),f8N hk,f8N (hl▸hk)];simp only [g1d,f8M];cases ([a[k].i5,a[k].d8]:List Int)==[(b[k]'(hl▸hk)).i5,(b[k]'(hl▸hk)).d8]<;>rfl
  ·unfold b9u;rw [z8];rfl
 ·have h1:((a.length:Int) != (b.length:Int))=true:=by simp;omega
  have h2:(a.length==b.length)=false:=by simpa using hl
  rw [h1,h2];rfl
def a4L(a b:n7):Bool:=(a.b5.length==b.b5.length&&(f8W a.b5.length).all (a2y a.b5 b.b5))&&((a.b7.length==b.b7.length&&(f8W a.b7.length).all (a2S a.b7 b.b7))&&(a.d8==b.d8&&a.Code==b.Code))
theorem d6l{α β:Type}(a:List α)(b:List β):((a.length:Int) != (b.length:Int)) = !(a.length==b.length):=by
 unfold bne;congr 1
 by_cases h:a.length=b.length
 ·simp [h]
 ·have h1:((a.length:Int)==(b.length:Int))=false:=by simp;omega
  have h2:(a.length==b.length)=false:=by simpa using h
  rw [h1,h2]
theorem b8E{a b:n7}(h:a18 a):a8a a b=some (a4L a b):=by
 unfold a8a a4L;rw [d6l,d6l];cases h1:a.b5.length==b.b5.length
 ·unfold bne;cases a.d8==b.d8<;>cases a.Code==b.Code<;>rfl
 cases h2:a.b7.length==b.b7.length
 ·unfold bne;cases a.d8==b.d8<;>cases a.Code==b.Code<;>simp
 unfold c3n;rw [e7b (h.1.fits (by decide)) (by simpa using h1),f1V (h.2.1.fits (by decide)) (by simpa using h2)];unfold bne;cases (f8W a.b5.length).all (a2y a.b5 b.b5)<;>cases (f8W a.b7.length).all (a2S a.b7 b.b7)<;>cases a.d8==b.d8<;>cases a.Code==b.Code<;>rfl
theorem d70{a b:n7}(h:a18 a):b8m a b=some (a4L a b):=by
 unfold b8m a4L;rw [d9U (h.1.fits (by decide)),e7W (h.2.1.fits (by decide))];simp only [f8M];generalize (a.b5.length==b.b5.length&&(f8W a.b5.length).all (a2y a.b5 b.b5))=x;generalize (a.b7.length==b.b7.length&&(f8W a.b7.length).all (a2S a.b7 b.b7))=y;cases x<;>cases y<;>cases a.d8==b.d8<;>rfl
def z4(e:m4):Bool:=bif e.i7 then (([e.a5.b9,e.a5.Seq]:List Int)==[0,0])&&a4L e.b6 (n7.mk [] [] 0 0) else (p9 e.a5.b9 0 2&&p9 e.a5.Seq 1 1000)&&(V4 e.b6&&e.b6.Code != 3)
theorem a4b{e:m4}(h:a1n e):a1r e=some (z4 e):=by
 unfold a1r z4;simp only [b8E h.2,c3F,d6S h.2,f8M];cases e.i7
 ·simp only [g1e];cases p9 e.a5.b9 0 2&&p9 e.a5.Seq 1 1000<;>cases V4 e.b6<;>rfl
 ·simp only [g1d];cases ([e.a5.b9,e.a5.Seq]:List Int)==[0,0]<;>rfl
theorem a6R{e:m4}(h:a1n e):a1T e=some (z4 e):=by
 unfold a1T a1H z4;simp only [d70 h.2,b9p,c4g h.2,f8M];cases e.i7
 ·simp only [g1e];cases p9 e.a5.b9 0 2&&p9 e.a5.Seq 1 1000<;>cases V4 e.b6<;>rfl
 ·simp only [g1d,beq_self_eq_true];cases ([e.a5.b9,e.a5.Seq]:List Int)==[0,0]<;>rfl
def G4(l:List m4):Bool:=decide (l.length<=40)&&l.all z4
theorem c6U{α:Type}(l:List α)(n:Nat):decide ((l.length:Int)<=(n:Int))=decide (l.length<=n):=by
 by_cases h:l.length<=n
 ·have:(l.length:Int)<=(n:Int):=by omega
  simp [h,this]
 ·have:¬(l.length:Int)<=(n:Int):=by omega
  simp [h,this]
theorem b2P{α:Type}(l:List α)(n:Nat):decide ((l.length:Int)>(n:Int)) = !decide (l.length<=n):=by
 by_cases h:l.length<=n
 ·have:¬(l.length:Int)>(n:Int):=by omega
  simp [h,this]
 ·have:(l.length:Int)>(n:Int):=by omega
  simp [h,this]
theorem c8Y{l:List m4}(h:A2 88 a1n l):b5t l=some (G4 l):=by
 unfold b5t G4;rw [show (40:Int)=((40:Nat):Int) from rfl,b2P,I5 l (h.fits (by decide)) z4 false ()]
 ·cases decide (l.length<=40)
  ·rfl
  ·cases l.all z4<;>rfl
 ·intro k hk;unfold b5T;rw [w6 _ k hk,t0 hk];simp only [g1d,f8M,a4b (h.2 _ (f8Q hk))];cases z4 l[k]<;>rfl
 ·unfold b5T;rw [z8];rfl
theorem c63{l:List m4}(h:A2 88 a1n l):b0z l=some (G4 l):=by
 unfold b0z G4 c24;rw [show (40:Int)=((40:Nat):Int) from rfl,c6U,I5 l (h.fits (by decide)) z4 false ()]
 ·cases l.all z4<;>cases decide (l.length<=40)<;>rfl
 ·intro k hk;unfold c0g;rw [w6 _ k hk,t0 hk];simp only [g1d,f8M,a6R (h.2 _ (f8Q hk))];cases z4 l[k]<;>rfl
 ·unfold c0g;rw [z8];rfl
def a22(b:m9):Bool:=p9 b.j4 0 1000000&&p9 b.d8 (-1000000) 1000000
def C8(l:List m9):Bool:=l.length==4&&l.all a22
theorem b1m{α:Type}(l:List α)(n:Nat):((l.length:Int) != (n:Int)) = !(l.length==n):=by
 unfold bne;congr 1
 by_cases h:l.length=n
 ·simp [h]
 ·have h1:((l.length:Int)==(n:Int))=false:=by simp;omega
  have h2:(l.length==n)=false:=by simpa using h
  rw [h1,h2]
theorem e0O{α:Type}(l:List α)(n:Nat):((l.length:Int)==(n:Int))=(l.length==n):=by
 have:=b1m l n;unfold bne at this;simpa using this
theorem c1s{l:List m9}(h:s7 l):b1O l=some (C8 l):=by
 unfold b1O C8;rw [show (4:Int)=((4:Nat):Int) from rfl,b1m,I5 l h a22 false ()]
 ·cases l.length==4
  ·rfl
  ·cases l.all a22<;>rfl
 ·intro k hk;unfold b7D a22;rw [w6 _ k hk,t0 hk];simp only [g1d,f8M,a8O];cases hq:p9 l[k].j4 0 1000000 with
  | false=>
   by_cases h1:l[k].j4<0
   ·simp [h1]
   ·have:l[k].j4>1000000:=by
     unfold p9 at hq;simp at hq;omega
    simp [h1,this]
  | true=>
   unfold p9 at hq;simp at hq;have h1:¬l[k].j4<0:=by omega
   have h2:¬l[k].j4>1000000:=by omega
   simp only [h1,h2,decide_false,g1e,f8Y];cases p9 l[k].d8 (-1000000) 1000000<;>rfl
 ·unfold b7D;rw [z8];rfl
theorem b4h{l:List m9}(h:s7 l):a6h l=some (C8 l):=by
 unfold a6h C8 c5J;rw [show (4:Int)=((4:Nat):Int) from rfl,e0O,I5 l h a22 false ()]
 ·cases l.length==4<;>cases l.all a22<;>rfl
 ·intro k hk;unfold b7j a22;rw [w6 _ k hk,t0 hk];simp only [g1d,f8M,N7];cases p9 l[k].j4 0 1000000<;>cases p9 l[k].d8 (-1000000) 1000000<;>rfl
 ·unfold b7j;rw [z8];rfl
theorem c9f{l:List r9}(h:(f8W l.length).all (X4 l)=true):∀x∈l,0<=x.i5/\x.i5<=3/\0<=x.j4/\x.j4<=1000000:=by
 intro x hx;obtain ⟨i,hi,rfl⟩:=f9o hx;have:=f8S.1 h i (by simpa using hi);unfold X4 at this;rw [f8N hi] at this;simp [p9] at this;omega
theorem c9w{l:List p8}(h:(f8W l.length).all (Y9 l)=true):∀x∈l,0<=x.i5/\x.i5<=3/\-1000000<=x.d8/\x.d8<=1000000:=by
 intro x hx;obtain ⟨i,hi,rfl⟩:=f9o hx;have:=f8S.1 h i (by simpa using hi);unfold Y9 at this;rw [f8N hi] at this;simp [p9] at this;omega
theorem a3b{r:n7}(h:V4 r=true):(0<=r.Code/\r.Code<=3)/\(-1000000<=r.d8/\r.d8<=1000000)/\(r.Code=0\/(r.d8=0/\r.b7=[]))/\(∀x∈r.b5,0<=x.i5/\x.i5<=3/\0<=x.j4/\x.j4<=1000000)/\∀x∈r.b7,0<=x.i5/\x.i5<=3/\-1000000<=x.d8/\x.d8<=1000000:=by
 unfold V4 at h;simp only [f8R,Bool.or_eq_true] at h;obtain ⟨h1,h2,h3,_,h4,h5⟩:=h;refine ⟨by simpa [p9] using h1,by simpa [p9] using h2,by simpa using h3,c9f h4,c9w h5⟩
def a02(l:List m9)(r:n7):Bool:=r.b5.all fun x=>match l[x.i5.toNat]? with
 | some b=>b.j4==x.j4
 | none=>true
theorem a6o{l:List m9}(h:C8 l=true):l.length=4:=by
 unfold C8 at h;simp only [f8R,beq_iff_eq] at h;exact h.1
theorem a3c{l:List m9}(h:C8 l=true):s7 l:=by
 unfold s7;rw [a6o h];decide
theorem a5v{l:List m9}(h:C8 l=true){b:Int}(hb:0<=b/\b<=3):∃x,idx l b=some x/\l[b.toNat]?=some x/\a22 x=true:=by
 have hl:=a6o h;have hlt:b.toNat<l.length:=by omega
 refine ⟨l[b.toNat],?_,f8N hlt,?_⟩
 ·unfold idx;rw [if_pos hb.1,f8N hlt]
 ·unfold C8 at h;simp only [f8R] at h;exact f8S.1 h.2 _ (f8Q hlt)
theorem f1M{l:List m9}{r:n7}(hl:s7 l)(hr:a18 r):b7y l r=some (C8 l&&(V4 r&&a02 l r)):=by
 unfold b7y;rw [c1s hl,d6S hr];simp only [f8M];cases h1:C8 l
 ·rfl
 cases h2:V4 r
 ·rfl
 have hp:=a3b h2;simp only [f8T,g1e,f8Y];rw [I5 r.b5 (hr.1.fits (by decide)) (fun x=>match l[x.i5.toNat]? with|some b=>b.j4==x.j4|none=>true) false ()]
 ·unfold a02;cases r.b5.all _<;>rfl
 ·intro k hk;have hm:=hp.2.2.2.1 _ (f8Q hk);obtain ⟨b,hb1,hb2,_⟩:=a5v h1 (b:=r.b5[k].i5) ⟨hm.1,hm.2.1⟩;unfold b7v;rw [w6 _ k hk,t0 hk];simp only [g1d,f8M,hb1,hb2];unfold bne;cases b.j4==r.b5[k].j4<;>rfl
 ·unfold b7v;rw [z8];rfl
theorem e6a{l:List m9}{r:n7}(hl:s7 l)(hr:a18 r):b7n l r=some (C8 l&&(V4 r&&a02 l r)):=by
 unfold b7n;rw [b4h hl,c4g hr];simp only [f8M];cases h1:C8 l
 ·rfl
 cases h2:V4 r
 ·rfl
 have hp:=a3b h2;simp only [f8T,g1e,f8Y];rw [I5 r.b5 (hr.1.fits (by decide)) (fun x=>match l[x.i5.toNat]? with|some b=>b.j4==x.j4|none=>true) false ()]
 ·unfold a02;cases r.b5.all _<;>rfl
 ·intro k hk;have hm:=hp.2.2.2.1 _ (f8Q hk);obtain ⟨b,hb1,hb2,_⟩:=a5v h1 (b:=r.b5[k].i5) ⟨hm.1,hm.2.1⟩;unfold b63;rw [w6 _ k hk,t0 hk];simp only [g1d,f8M,hb1,hb2];unfold bne;cases b.j4==r.b5[k].j4<;>rfl
 ·unfold b63;rw [z8];rfl
def a0C(l:List m9)(p:p8):List m9:=match l[p.i5.toNat]? with
 | some b=>l.set p.i5.toNat ⟨if b.j4+1<1000000 then b.j4+1 else 1000000,p.d8⟩
 | none=>l
def a0T(l:List m9)(ps:List p8):List m9:=ps.foldl a0C l
def a0k(x:p8):Prop:=0<=x.i5/\x.i5<=3/\-1000000<=x.d8/\x.d8<=1000000
theorem b8e{l:List m9}{p:p8}{b:m9}(h:l[p.i5.toNat]?=some b):a0C l p=l.set p.i5.toNat ⟨if b.j4+1<1000000 then b.j4+1 else 1000000,p.d8⟩:=by
 unfold a0C;rw [h]
theorem b3M{b:m9}:a22 b=true↔(0<=b.j4/\b.j4<=1000000)/\(-1000000<=b.d8/\b.d8<=1000000):=by
 unfold a22 p9;simp
theorem e9E{l:List m9}:C8 l=true↔l.length=4/\∀b∈l,a22 b=true:=by
 unfold C8;simp
theorem d1j{l:List m9}{p:p8}(h:C8 l=true)(hp:a0k p):C8 (a0C l p)=true:=by
 obtain ⟨b,_,h2,h3⟩:=a5v h (b:=p.i5) ⟨hp.1,hp.2.1⟩;rw [e9E] at h⊢;unfold a0C;rw [h2];refine ⟨by simpa using h.1,fun x hx => ?_⟩;rcases f9y hx with hx|rfl
 ·exact h.2 x hx
 ·rw [b3M] at h3⊢;refine ⟨?_,hp.2.2⟩;simp only;split<;>omega
theorem b5P:∀{ps:List p8} {l:List m9},C8 l=true->(∀p∈ps,a0k p)->C8 (a0T l ps)=true
 | [],l,h,_=>h
 | p::ps,l,h,hp=>b5P (ps:=ps) (d1j h (hp p (by simp))) fun x hx=>hp x (by simp [hx])
theorem d78{l:List m9}{ps:List p8}(h:C8 l=true)(hp:∀p∈ps,a0k p)(k:Nat):C8 ((ps.take k).foldl a0C l)=true:=
 b5P h fun p hq=>hp p (f9T hq)
theorem d72{l:List m9}{r:n7}(hl:C8 l=true)(hr:a18 r)(hp:∀p∈r.b7,a0k p):b3i l r=some (a0T l r.b7):=by
 unfold b3i;rw [d3H r.b7 (hr.2.1.fits (by decide)) a0C l id]
 ·rfl
 ·intro k hk;have hq:=hp _ (f8Q hk);obtain ⟨b,h1,h2,h3⟩:=a5v (d78 hl hp k) (b:=r.b7[k].i5) ⟨hq.1,hq.2.1⟩;rw [b3M] at h3;unfold b7K;rw [w6 _ k hk,t0 hk];simp only [g1d,f8M,h1];unfold c4U;rw [b8e h2,C5 (n:=b.j4+1) (by omega) (by omega)];by_cases hv:b.j4+1<1000000
  ·have:¬(1000000:Int)<b.j4+1:=by omega
   simp [hv,this]
  ·by_cases hv2:(1000000:Int)<b.j4+1
   ·simp [hv,hv2]
   ·have:b.j4+1=1000000:=by omega
    simp [hv,hv2,this]
 ·unfold b7K;rw [z8];rfl
theorem c5H{l:List m9}(h:l.length*16<=140737488351232):a7E l=some l:=by
 unfold a7E t5;cases l with
 | nil=>rfl
 | cons x l=>
  have h1:(((x::l).length:Int)==0)=false:=by simp;omega
  rw [h1,g1e,if_pos (by constructor<;>omega),if_pos (by simp)]
theorem d48{l:List q9}(h:l.length*32<=140737488351232):a6P l=some l:=by
 unfold a6P t5;cases l with
 | nil=>rfl
 | cons x l=>
  have h1:(((x::l).length:Int)==0)=false:=by simp;omega
  rw [h1,g1e,if_pos (by constructor<;>omega),if_pos (by simp)]
theorem d7r{l:List m9}{r:n7}(hl:C8 l=true)(hr:a18 r)(hok:V4 r=true):b2K l r=some (a0T l r.b7):=by
 have hp:∀p∈r.b7,a0k p:=(a3b hok).2.2.2.2
 unfold b2K;rw [b4h (a3c hl),c4g hr,hl,hok];simp only [f8M,f8T,g1e];rw [c5H (by rw [a6o hl];decide),f8M,d3H r.b7 (hr.2.1.fits (by decide)) a0C l id]
 ·rfl
 ·intro k hk;have hq:=hp _ (f8Q hk);obtain ⟨b,h1,h2,h3⟩:=a5v (d78 hl hp k) (b:=r.b7[k].i5) ⟨hq.1,hq.2.1⟩;rw [b3M] at h3;unfold b6d;rw [w6 _ k hk,t0 hk];simp only [g1d,f8M,h1];rw [b8e h2,C5 (n:=b.j4+1) (by omega) (by omega)]
 ·unfold b6d;rw [z8];rfl
def a8F(d:q9):Bool:=(p9 d.a5.b9 0 2&&p9 d.a5.Seq 1 1000)&&(p9 d.Code 0 2&&(p9 d.d8 (-1000000) 1000000&&(d.Code==0||d.d8==0)))
def a3D(l:List q9):Prop:=l.Pairwise fun a b=>a.a5.b9<b.a5.b9
def M5(d:q9)(st:List q9×Bool)(x:q9):List q9×Bool:=
 bif !st.2&&decide (x.a5.b9>=d.a5.b9) then (bif x.a5.b9 != d.a5.b9 then (st.1++[d])++[x] else st.1++[d],true) else (bif x.a5.b9 != d.a5.b9 then st.1++[x] else st.1,st.2)
def a0l(l:List q9)(d:q9):List q9:=
 let r:=l.foldl (M5 d) ([],false);bif !r.2 then r.1++[d] else r.1
theorem f5f(d:q9)(st:List q9×Bool)(x:q9):(M5 d st x).1.length<=st.1.length+2:=by
 unfold M5;cases !st.2&&decide (x.a5.b9>=d.a5.b9)<;>cases x.a5.b9 != d.a5.b9<;>simp
theorem c5e(d:q9):∀(l:List q9) (st:List q9×Bool),(l.foldl (M5 d) st).1.length<=st.1.length+2*l.length
 | [],st=>by simp
 | x::l,st=>by
  have h1:=c5e d l (M5 d st x);have h2:=f5f d st x;simp only [g0R,f9X];omega
theorem c4R(d:q9):∀{l:List q9} {o:List q9},(∀x∈l,d.a5.b9<x.a5.b9)->l.foldl (M5 d) (o,true)=(o++l,true)
 | [],o,_=>by simp
 | x::l,o,h=>by
  have hx:=h x (by simp);have hne:(x.a5.b9 != d.a5.b9)=true:=by simp;omega
  rw [g0R,show M5 d (o,true) x=(o++[x],true) from by unfold M5;simp [hne],c4R d fun y hy=>h y (by simp [hy])];simp
theorem c8N(d:q9):∀{l o:List q9},a3D l->
  (let r:=l.foldl (M5 d) (o,false);bif !r.2 then r.1++[d] else r.1)=o++(l.filter (fun x=>decide (x.a5.b9<d.a5.b9))++d::l.filter (fun x=>decide (d.a5.b9<x.a5.b9)))
 | [],o,_=>by simp
 | x::l,o,h=>by
  obtain ⟨h1,h2⟩:=g0l.1 h;rw [g0R];by_cases hlt:x.a5.b9<d.a5.b9
  ·have hge:¬x.a5.b9>=d.a5.b9:=by omega
   have hne:(x.a5.b9 != d.a5.b9)=true:=by simp;omega
   have hngt:¬d.a5.b9<x.a5.b9:=by omega
   rw [show M5 d (o,false) x=(o++[x],false) from by unfold M5;simp [hge,hne],c8N d h2];simp [hlt,hngt]
  ·have hge:x.a5.b9>=d.a5.b9:=by omega
   have hall:∀y∈l,d.a5.b9<y.a5.b9:=fun y hy=>by have:=h1 y hy;omega
   have hf1:l.filter (fun x=>decide (x.a5.b9<d.a5.b9))=[]:=by
    rw [List.filter_eq_nil_iff];intro y hy;have:=hall y hy;simp;omega
   have hf2:l.filter (fun x=>decide (d.a5.b9<x.a5.b9))=l:=by
    rw [List.filter_eq_self];intro y hy;simpa using hall y hy
   by_cases heq:x.a5.b9=d.a5.b9
   ·have hngt:¬d.a5.b9<x.a5.b9:=by omega
    rw [show M5 d (o,false) x=(o++[d],true) from by unfold M5;simp [hge,heq],c4R d hall];simp [hlt,hngt,hf1,hf2]
   ·have hgt:d.a5.b9<x.a5.b9:=by omega
    have hne:(x.a5.b9 != d.a5.b9)=true:=by simpa using heq
    rw [show M5 d (o,false) x=((o++[d])++[x],true) from by unfold M5;simp [hge,hne],c4R d hall];simp [hlt,hgt,hf1,hf2]
theorem b7w{l:List q9}(d:q9)(h:a3D l):a0l l d=l.filter (fun x=>decide (x.a5.b9<d.a5.b9))++d::l.filter (fun x=>decide (d.a5.b9<x.a5.b9)):=by
 have:=c8N d (o:=[]) h;simpa [a0l] using this
theorem e1g{l:List q9}(d:q9)(h:a3D l):a3D (a0l l d):=by
 rw [b7w d h];unfold a3D;rw [g0F,g0l];refine ⟨h.filter _,⟨fun y hy=>by simpa using (f9V.1 hy).2,h.filter _⟩,fun a ha b hb => ?_⟩;have h1:a.a5.b9<d.a5.b9:=by simpa using (f9V.1 ha).2
 rcases f8X.1 hb with rfl|hb
 ·exact h1
 ·have h2:d.a5.b9<b.a5.b9:=by simpa using (f9V.1 hb).2
  omega
theorem f1n{l:List q9}{d x:q9}(h:a3D l)(hx:x∈a0l l d):x∈l\/x=d:=by
 rw [b7w d h] at hx;rcases f8P.1 hx with hx|hx
 ·exact .inl (f9V.1 hx).1
 ·rcases f8X.1 hx with rfl|hx
  ·exact .inr rfl
  ·exact .inl (f9V.1 hx).1
theorem d00{l:List q9}(d:q9)(h:a3D l):(a0l l d).length<=l.length+1:=by
 rw [b7w d h];have:(l.filter fun x=>decide (x.a5.b9<d.a5.b9)).length+(l.filter fun x=>decide (d.a5.b9<x.a5.b9)).length<=l.length:=by
  clear h;induction l with
  | nil=>simp
  | cons x l ih=>
   by_cases h1:x.a5.b9<d.a5.b9
   ·have h2:¬d.a5.b9<x.a5.b9:=by omega
    simp [h1,h2];omega
   ·by_cases h2:d.a5.b9<x.a5.b9
    ·simp [h1,h2];omega
    ·simp [h1,h2];omega
 simp only [f9a,f9X];omega
structure X5(s:u5)(k:Nat):Prop where
 at_:s.At=(k:Int)
 le:k<=40
 boxes:C8 s.g7=true
 sorted:a3D s.i8
 dones:∀d∈s.i8,a8F d=true
 len:s.i8.length<=k
theorem X5.fits{s:u5}{k:Nat}(h:X5 s k):s7 s.i8:=by
 have:=h.len;have:=h.le;unfold s7;omega
theorem c93{α:Type}{o:List α}{d:α}(h:o.length<=80):((o++[d]).length+1)*32<=140737488355328:=by
 rw [show (o++[d]).length=o.length+1 from by simp];omega
theorem e1I{l:List q9}{d:q9}(hl:l.length<=40):c0I l d=some (a0l l d):=by
 have hf:s7 l:=by unfold s7;omega
 have hlen:∀k,k<=l.length->((l.take k).foldl (M5 d) ([],false)).1.length<=80:=by
  intro k hk;have:=c5e d (l.take k) ([],false);simp only [g0B,f9g] at this;omega
 unfold c0I;have hloop:=V0 (body:=fun s:(List q9)×Bool×Int=>b4S l d s.1 s.2.1 s.2.2) (fun k=>(((l.take k).foldl (M5 d) ([],false)).1,((l.take k).foldl (M5 d) ([],false)).2,(k:Int))) l.length (by
  intro k hk;have hb:=hlen k (by omega);rw [f9s hk,List.foldl_append];generalize (l.take k).foldl (M5 d) ([],false)=st at hb;obtain ⟨o,i⟩:=st;simp only at hb;simp only [g0R,g1c];unfold b4S c5Y c6J M5;rw [w6 _ k hk,t0 hk,E6 hf hk];have n1:(o.length+1)*32<=140737488355328:=by omega
  have n2:((o++[d]).length+1)*32<=140737488355328:=c93 (by omega);cases i<;>cases h1:decide (l[k].a5.b9>=d.a5.b9)<;>cases h2:l[k].a5.b9 != d.a5.b9<;>simp only [h1,h2,v5 n1,v5 n2,g1d,g1e,f8M,l9.go,f8T,f9x,f8Y,Bool.false_and])
 simp only [f9D,g1c,f9e] at hloop;rw [show ((0:Nat):Int)=0 from rfl] at hloop;rw [hloop,C7 (b:=l.foldl (M5 d) ([],false))]
 ·have hb:=hlen l.length (f9f _);rw [f9e] at hb;unfold c4x c1y a0l;generalize l.foldl (M5 d) ([],false)=st at hb;obtain ⟨o,i⟩:=st;have n1:(o.length+1)*32<=140737488355328:=by simp only at hb;omega
  cases i<;>simp only [v5 n1,g1d,g1e,f8M,l9.go,f8T,f9x]
 ·unfold b4S;rw [z8];rfl
def O3(s:u5)(e:m4):u5×Int:=
 bif a02 s.g7 e.b6 then
  (bif e.b6.Code==0 then (⟨s.At+1,a0T s.g7 e.b6.b7,a0l s.i8 ⟨e.a5,0,e.b6.d8⟩⟩,0)
  else (⟨s.At+1,s.g7,a0l s.i8 ⟨e.a5,2,0⟩⟩,2))
 else (⟨s.At+1,s.g7,a0l s.i8 ⟨e.a5,1,0⟩⟩,1)
def apply(s:u5)(e:m4):u5×Int:=
 bif e.i7 then (⟨s.At+1,s.g7,s.i8⟩,5) else
 match s.i8.find? (fun d=>d.a5.b9==e.a5.b9) with
 | some d=>bif d.a5.Seq==e.a5.Seq then (⟨s.At+1,s.g7,s.i8⟩,3) else bif decide (d.a5.Seq>e.a5.Seq) then (⟨s.At+1,s.g7,s.i8⟩,4) else O3 s e
 | none=>O3 s e
theorem a4p{e:m4}(h:z4 e=true)(hn:e.i7=false):(0<=e.a5.b9/\e.a5.b9<=2)/\(1<=e.a5.Seq/\e.a5.Seq<=1000)/\V4 e.b6=true/\e.b6.Code≠3:=by
 unfold z4 at h;rw [hn] at h;simp [p9] at h;exact ⟨h.1.1,h.1.2,h.2.1,h.2.2⟩
theorem f0e{s:u5}(h:s7 s.i8)(who:Int):b9E s who=some (match s.i8.find? (fun d=>d.a5.b9==who) with|some d=>(d,true)|none=>(⟨⟨0,0⟩,0,0⟩,false)):=by
 unfold b9E;rw [b2b s.i8 h (fun d=>d.a5.b9==who) (fun d=>(d,true)) ()]
 ·cases s.i8.find? fun d=>d.a5.b9==who<;>rfl
 ·intro k hk;unfold b6a;rw [w6 _ k hk,t0 hk];simp only [g1d,f8M];cases s.i8[k].a5.b9==who<;>rfl
 ·unfold b6a;rw [z8];rfl
theorem b9W{s:u5}{k:Nat}{e:m4}(hs:X5 s k)(hk:k<40)(he:z4 e=true)(hf:a1n e):a7W s e=some (apply s e):=by
 have hw:m7 (s.At+1)=s.At+1:=by rw [hs.at_];exact C5 (by omega) (by omega)
 unfold a7W apply;rw [hw,f0e (s:=⟨s.At+1,s.g7,s.i8⟩) hs.fits];cases hn:e.i7;case true=>rfl
 obtain ⟨_,_,hr,hc3⟩:=a4p he hn;have hp:∀p∈e.b6.b7,a0k p:=(a3b hr).2.2.2.2
 have hfr:b8w s e=some (O3 s e):=by
  unfold b8w c5k c4M O3;simp only [f1M (a3c hs.boxes) hf.2,hs.boxes,hr,f8Y,f8M,hw,e1I (f9A hs.len (by omega)),d72 hs.boxes hf.2 hp];cases a02 s.g7 e.b6
  ·rfl
  ·cases e.b6.Code==0<;>rfl
 simp only [g1e,f8M,hfr];cases hfd:s.i8.find? fun d=>d.a5.b9==e.a5.b9 with
 | none=>rfl
 | some d=>
  have hwho:d.a5.b9=e.a5.b9:=by simpa using List.find?_some hfd
  have hq:(([d.a5.b9,d.a5.Seq]:List Int)==[e.a5.b9,e.a5.Seq])=(d.a5.Seq==e.a5.Seq):=by
   rw [hwho];simp
  simp only [hq,g1d];cases d.a5.Seq==e.a5.Seq
  ·cases decide (d.a5.Seq>e.a5.Seq)<;>rfl
  ·rfl
theorem d85{l:List q9}(h:a3D l)(who seq:Int):l.find? (fun d=>d.a5.b9==who&&decide (d.a5.Seq>=seq))=match l.find? (fun d=>d.a5.b9==who) with
  | some d=>bif decide (d.a5.Seq>=seq) then some d else none
  | none=>none:=by
 induction l with
 | nil=>rfl
 | cons x l ih=>
  obtain ⟨h1,h2⟩:=g0l.1 h;rw [g0A,g0A];cases hx:x.a5.b9==who with
  | false=>simpa using ih h2
  | true=>
   cases hs:decide (x.a5.Seq>=seq) with
   | true=>simp [hs]
   | false=>
    simp only [Bool.and_false,hs,g1e];rw [g09];intro y hy;have:=h1 y hy;have hx':x.a5.b9=who:=by simpa using hx
    simp;intro hyw;omega
theorem f5h{s:u5}{k:Nat}(hs:X5 s k):b6i s=some true:=by
 unfold b6i;have hloop:=V0 (body:=fun v:Int=>b3k s v) (fun j=>(j:Int)) s.i8.length (by
  intro j hj;have hd:=hs.dones _ (f8Q hj);unfold a8F at hd;simp only [f8R,Bool.or_eq_true] at hd;obtain ⟨⟨d1,d2⟩,d3,d4,d5⟩:=hd;unfold b3k c1n;rw [w6 _ j hj,t0 hj,E6 hs.fits hj];simp only [g1d,f8M,b9p,N7,d1,d2,d3,d4,g0m,f8T,g1e];cases j with
  | zero=>
   rw [show decide (((0:Nat):Int)>0)=false from by decide];simp only [g1e];unfold bne;rcases d5 with d5|d5<;>simp [d5,l9.go,Option.bind]
  | succ j=>
   have hlt:(s.i8[j]'(by omega)).a5.b9<s.i8[j+1].a5.b9:=f9H.1 hs.sorted j (j+1) (by omega) hj (by omega);have hge:¬(s.i8[j]'(by omega)).a5.b9>=s.i8[j+1].a5.b9:=by omega
   have hle:=hs.fits;unfold s7 at hle;rw [show m7 (((j+1:Nat):Int)-1)=(j:Int) from by rw [C5 (by omega) (by omega)];omega,t0 (show j<s.i8.length by omega)];have hpos:decide (((j+1:Nat):Int)>0)=true:=by simp
   simp only [hpos,g1d,f8M,hge,decide_false,g1e];unfold bne;rcases d5 with d5|d5<;>simp [d5,l9.go,Option.bind])
 rw [show ((0:Nat):Int)=0 from rfl] at hloop;rw [hloop,C7 (b:=())]
 ·unfold c3b;have:=hs.le;have ha:p9 s.At 0 40=true:=by rw [hs.at_];simp [p9];omega
  simp [l9.go,N7,ha,b4h (a3c hs.boxes),hs.boxes]
 ·unfold b3k;rw [z8];rfl
theorem c2Z{s:u5}{own:q9}{bx:List m9}(hl:s.i8.length<=40)(hw:m7 (s.At+1)=s.At+1)(hd:a3D s.i8):b8X s own bx=some (⟨s.At+1,bx,a0l s.i8 own⟩,own.Code):=by
 have hf:s7 s.i8:=by unfold s7;omega
 have hlen:∀k,k<=s.i8.length->((s.i8.take k).foldl (M5 own) ([],false)).1.length<=80:=by
  intro k hk;have:=c5e own (s.i8.take k) ([],false);simp only [g0B,f9g] at this;omega
 unfold b8X;have hloop:=V0 (body:=fun x:(List q9)×Int×Bool=>b20 s own x.1 x.2.1 x.2.2) (fun k=>(((s.i8.take k).foldl (M5 own) ([],false)).1,(k:Int),((s.i8.take k).foldl (M5 own) ([],false)).2)) s.i8.length (by
  intro k hk;have hb:=hlen k (by omega);rw [f9s hk,List.foldl_append];generalize (s.i8.take k).foldl (M5 own) ([],false)=st at hb;obtain ⟨o,i⟩:=st;simp only at hb;simp only [g0R,g1c];unfold b20 c6h c4D M5;rw [w6 _ k hk,t0 hk,E6 hf hk];have n1:(o.length+1)*32<=140737488355328:=by omega
  have n2:((o++[own]).length+1)*32<=140737488355328:=c93 (by omega);cases i<;>cases h1:decide (s.i8[k].a5.b9>=own.a5.b9)<;>cases h2:s.i8[k].a5.b9 != own.a5.b9<;>simp only [h1,h2,v5 n1,v5 n2,g1d,g1e,f8M,l9.go,f8T,f9x,f8Y,Bool.false_and])
 simp only [f9D,g1c,f9e] at hloop;rw [show ((0:Nat):Int)=0 from rfl] at hloop;rw [hloop,C7 (b:=s.i8.foldl (M5 own) ([],false))]
 ·have hb:=hlen s.i8.length (f9f _);rw [f9e] at hb;have hpl:=d00 own hd;have hcp:a6P (a0l s.i8 own)=some (a0l s.i8 own):=d48 (by omega);unfold c31 c5n;unfold a0l at hcp⊢;generalize s.i8.foldl (M5 own) ([],false)=st at hb hcp;obtain ⟨o,i⟩:=st;have n1:(o.length+1)*32<=140737488355328:=by simp only at hb;omega
  cases i<;>simp only [v5 n1,g1d,g1e,f8M,l9.go,f8T,f9x,hw] at hcp⊢ <;>rw [hcp]<;>rfl
 ·unfold b20;rw [z8];rfl
theorem c5F{s:u5}{k:Nat}{e:m4}(hs:X5 s k)(hk:k<40)(he:z4 e=true)(hf:a1n e):b8B s e=some (apply s e):=by
 have hw:m7 (s.At+1)=s.At+1:=by rw [hs.at_];exact C5 (by omega) (by omega)
 have hl:=hs.len;have hcd:a6P s.i8=some s.i8:=d48 (by omega);have hcb:a7E s.g7=some s.g7:=c5H (by rw [a6o hs.boxes];decide);have hat:(s.At==40)=false:=by rw [hs.at_];simp;omega
 unfold b8B apply;rw [f5h hs,a6R hf,he];simp only [f8M,f8T,g1e,hat,hcb,hcd,hw];cases hn:e.i7;case true=>rfl
 obtain ⟨_,_,hr,hc3⟩:=a4p he hn;have hfr:b9v s e s.g7=some (O3 s e):=by
  unfold b9v O3;simp only [e6a (a3c hs.boxes) hf.2,hs.boxes,hr,f8Y,f8M,d7r hs.boxes hf.2 hr];cases a02 s.g7 e.b6
  ·simp only [f9x,g1d,g1e,f8M,l9.go];exact c2Z (by omega) hw hs.sorted
  ·unfold bne;cases e.b6.Code==0
   ·simp only [f9x,f8T,g1d,g1e,f8M,l9.go];exact c2Z (by omega) hw hs.sorted
   ·simp only [f8T,g1d,g1e,f8M,l9.go];exact c2Z (by omega) hw hs.sorted
 simp only [g1e];rw [b2b s.i8 hs.fits (fun d=>d.a5.b9==e.a5.b9&&decide (d.a5.Seq>=e.a5.Seq)) (fun d=>(⟨s.At+1,s.g7,s.i8⟩,bif d.a5.Seq==e.a5.Seq then 3 else 4)) ()]
 ·rw [d85 hs.sorted];cases s.i8.find? fun d=>d.a5.b9==e.a5.b9 with
  | none=>simp only [f8M,l9.go,hfr]
  | some d=>
   cases hq:d.a5.Seq==e.a5.Seq with
   | true=>
    have:d.a5.Seq>=e.a5.Seq:=by
     have:d.a5.Seq=e.a5.Seq:=by simpa using hq
     omega
    simp [this,l9.go,hq]
   | false=>
    have hne:d.a5.Seq≠e.a5.Seq:=by simpa using hq
    by_cases hg:d.a5.Seq>e.a5.Seq
    ·have:d.a5.Seq>=e.a5.Seq:=by omega
     simp [this,l9.go,hg,hq]
    ·have:¬d.a5.Seq>=e.a5.Seq:=by omega
     simp [this,l9.go,hg,hfr,hq]
 ·intro j hj;unfold b9H c4d;rw [w6 _ j hj,t0 hj];simp only [g1d,f8M,hcd,hw];cases h1:s.i8[j].a5.b9==e.a5.b9<;>cases h2:decide (s.i8[j].a5.Seq>=e.a5.Seq)<;>cases h3:s.i8[j].a5.Seq==e.a5.Seq<;>simp only [g1d,g1e,f8M,l9.go,f8Y,Bool.false_and,g0m,Bool.and_false]
 ·unfold b9H;rw [z8];rfl
theorem e4C{s:u5}{k:Nat}{e:m4}(hs:X5 s k)(hk:k<40)(he:z4 e=true)(hn:e.i7=false):X5 (O3 s e).1 (k+1)/\0<=(O3 s e).2/\(O3 s e).2<=5:=by
  obtain ⟨h1,h2,hr,hc3⟩:=a4p he hn;have hp:=a3b hr;have hat:s.At+1=((k+1:Nat):Int):=by rw [hs.at_];rfl
  have key:∀(bx:List m9) (d:q9),C8 bx=true->a8F d=true->X5 ⟨s.At+1,bx,a0l s.i8 d⟩ (k+1):=fun bx d hb hd=>
    { at_:=hat,le:=by omega,boxes:=hb,sorted:=e1g d hs.sorted
      dones:=fun x hx=>by
        rcases f1n hs.sorted hx with hx|rfl
        · exact hs.dones x hx
        · exact hd
      len:=by
        have:=d00 d hs.sorted;have:=hs.len;simp only;omega}
  have hd0:∀c:Int,0<=c->c<=2->a8F ⟨e.a5,c,0⟩=true:=by
    intro c c1 c2;unfold a8F p9;simp;omega
  have hd1:a8F ⟨e.a5,0,e.b6.d8⟩=true:=by
    unfold a8F p9;simp;omega
  unfold O3;cases a02 s.g7 e.b6
  · exact ⟨key _ _ hs.boxes (hd0 1 (by decide) (by decide)),show (0:Int)<=1 from by decide,show (1:Int)<=5 from by decide⟩
  · cases e.b6.Code==0
    · exact ⟨key _ _ hs.boxes (hd0 2 (by decide) (by decide)),show (0:Int)<=2 from by decide,show (2:Int)<=5 from by decide⟩
    · exact ⟨key _ _ (b5P hs.boxes hp.2.2.2.2) hd1,show (0:Int)<=0 from by decide,show (0:Int)<=5 from by decide⟩
theorem e2E{s:u5}{k:Nat}{e:m4}(hs:X5 s k)(hk:k<40)(he:z4 e=true):X5 (apply s e).1 (k+1)/\0<=(apply s e).2/\(apply s e).2<=5:=by
 have hat:s.At+1=((k+1:Nat):Int):=by rw [hs.at_];rfl
 have key:X5 ⟨s.At+1,s.g7,s.i8⟩ (k+1):={at_:=hat,le:=by omega,boxes:=hs.boxes,sorted:=hs.sorted,dones:=hs.dones,len:=Nat.le_succ_of_le hs.len}
 unfold apply;cases hn:e.i7
 ·have hfr:=e4C hs hk he hn;simp only [g1e];cases s.i8.find? fun d=>d.a5.b9==e.a5.b9 with
  | none=>exact hfr
  | some d=>
   simp only;cases d.a5.Seq==e.a5.Seq
   ·cases decide (d.a5.Seq>e.a5.Seq)
    ·exact hfr
    ·exact ⟨key,show (0:Int)<=4 from by decide,show (4:Int)<=5 from by decide⟩
   ·exact ⟨key,show (0:Int)<=3 from by decide,show (3:Int)<=5 from by decide⟩
 ·exact ⟨key,show (0:Int)<=5 from by decide,show (5:Int)<=5 from by decide⟩
def P9:u5:=⟨0,f8O 4 ⟨0,0⟩,[]⟩
theorem e2R:X5 P9 0:={at_:=rfl,le:=by omega,boxes:=by decide,sorted:=.nil,dones:=by simp [P9],len:=by simp [P9]}
theorem b6A:a9v=some P9:=by
 unfold a9v b4Q;rw [v5 (by decide)];rfl
theorem f6B:b9b=some P9:=by
 unfold b9b b4y;rw [v5 (by decide)];rfl
def b0s(st:u5×List Int)(e:m4):u5×List Int:=((apply st.1 e).1,st.2++[(apply st.1 e).2])
def p6(l:List m4):u5×List Int:=l.foldl b0s (P9,[])
theorem a0W{l:List m4}{k:Nat}(hk:k<l.length):p6 (l.take (k+1))=b0s (p6 (l.take k)) l[k]:=by
 unfold p6;rw [f9s hk,List.foldl_append];rfl
theorem P6{l:List m4}(hl:l.length<=40)(he:l.all z4=true):∀k,k<=l.length->X5 (p6 (l.take k)).1 k/\(p6 (l.take k)).2.length=k/\∀c∈(p6 (l.take k)).2,0<=c/\c<=5
 | 0,_=>by
  rw [f9D];exact ⟨e2R,rfl,by simp [p6]⟩
 | k+1,hk=>by
  obtain ⟨h1,h2,h3⟩:=P6 hl he k (by omega);have ha:=e2E h1 (by omega) (f8S.1 he _ (f8Q (show k<l.length by omega)));rw [a0W (show k<l.length by omega)];refine ⟨ha.1,by simp [b0s,h2],fun c hc => ?_⟩;unfold b0s at hc;rcases f8P.1 hc with hc|hc
  ·exact h3 c hc
  ·rw [f8V] at hc;rw [hc];exact ha.2
theorem W8{l:List m4}(h:G4 l=true):l.length<=40/\l.all z4=true:=by
 unfold G4 at h;simpa using h
theorem b7e{l:List m4}(h:A2 88 a1n l)(hl:l.length<=40)(he:l.all z4=true):a80 l=some (p6 l):=by
  have hf:s7 l:=h.fits (by decide);unfold a80;rw [f6B,f8M];first
  | (have hloop:=V0 (body:=fun s:(List m9)×(List q9)×(List Int)×Int×Int=>a1u l s.1 s.2.1 s.2.2.1 s.2.2.2.1 s.2.2.2.2) (fun k=>((p6 (l.take k)).1.g7,(p6 (l.take k)).1.i8,(p6 (l.take k)).2,(k:Int),(p6 (l.take k)).1.At)) l.length (by
       intro k hk;obtain ⟨h1,h2,h3⟩:=P6 hl he k (by omega);have n1:((p6 (l.take k)).2.length+1)*8<=140737488355328:=by rw [h2];omega
       rw [a0W hk];unfold a1u;rw [w6 _ k hk,t0 hk,E6 hf hk];simp only [g1d,f8M];rw [c5F h1 (by omega) (f8S.1 he _ (f8Q hk)) (h.2 _ (f8Q hk)),f8M,v5 n1];rfl)
     rw [f9D,f9e] at hloop;rw [show ((0:Nat):Int)=0 from rfl] at hloop;rw [show o7 (fun s:(List m9)×(List q9)×(List Int)×Int×Int=>a1u l s.1 s.2.1 s.2.2.1 s.2.2.2.1 s.2.2.2.2) (P9.g7,P9.i8,([]:List Int),0,P9.At)=_ from hloop,C7 (b:=((p6 l).1.g7,(p6 l).1.i8,(p6 l).2,(p6 l).1.At))]
     · rfl
     · unfold a1u;rw [z8];rfl
     done)
  | (have hloop:=V0 (body:=fun s:u5×(List Int)×Int=>a1u l s.1 s.2.1 s.2.2) (fun k=>((p6 (l.take k)).1,(p6 (l.take k)).2,(k:Int))) l.length (by
       intro k hk;obtain ⟨h1,h2,h3⟩:=P6 hl he k (by omega);have n1:((p6 (l.take k)).2.length+1)*8<=140737488355328:=by rw [h2];omega
       rw [a0W hk];unfold a1u;rw [w6 _ k hk,t0 hk,E6 hf hk];simp only [g1d,f8M];rw [c5F h1 (by omega) (f8S.1 he _ (f8Q hk)) (h.2 _ (f8Q hk)),f8M,v5 n1];rfl)
     rw [f9D,f9e] at hloop;rw [show ((0:Nat):Int)=0 from rfl] at hloop;rw [show o7 (fun s:u5×(List Int)×Int=>a1u l s.1 s.2.1 s.2.2) (P9,[],0)=_ from hloop,C7 (b:=p6 l)]
     · rfl
     · unfold a1u;rw [z8];rfl
     done)
  | (have hloop:=V0 (body:=fun s:(List m9)×(List Int)×Int×Int×List q9=>a1u l s.1 s.2.1 s.2.2.1 s.2.2.2.1 s.2.2.2.2) (fun k=>((p6 (l.take k)).1.g7,(p6 (l.take k)).2,(k:Int),(p6 (l.take k)).1.At,(p6 (l.take k)).1.i8)) l.length (by
       intro k hk;obtain ⟨h1,h2,h3⟩:=P6 hl he k (by omega);have n1:((p6 (l.take k)).2.length+1)*8<=140737488355328:=by rw [h2];omega
       rw [a0W hk];unfold a1u;rw [w6 _ k hk,t0 hk,E6 hf hk];simp only [g1d,f8M];rw [show (⟨(p6 (l.take k)).1.At,(p6 (l.take k)).1.g7,(p6 (l.take k)).1.i8⟩:u5)=(p6 (l.take k)).1 from rfl,c5F h1 (by omega) (f8S.1 he _ (f8Q hk)) (h.2 _ (f8Q hk)),f8M,v5 n1];rfl)
     rw [f9D,f9e] at hloop;rw [show ((0:Nat):Int)=0 from rfl] at hloop;rw [show o7 (fun s:(List m9)×(List Int)×Int×Int×List q9=>a1u l s.1 s.2.1 s.2.2.1 s.2.2.2.1 s.2.2.2.2) (P9.g7,[],0,P9.At,P9.i8)=_ from hloop,C7 (b:=((p6 l).1.g7,(p6 l).2,(p6 l).1.At,(p6 l).1.i8))]
     · rfl
     · unfold a1u;rw [z8];rfl
     done)
def Rd(r:t8)(m:Nat):Prop:=(∀x∈r.b,a5g x)/\r.b.length<=2000/\0<=r.p/\r.p<=(m:Int)
theorem Rd.mono{r:t8}{m n:Nat}(h:Rd r m)(hn:m<=n):Rd r n:=⟨h.1,h.2.1,h.2.2.1,by have:=h.2.2.2;omega⟩
theorem e05{x y:Int}(hx:0<=x)(hx2:x<4611686018427387904)(hy:0<=y)(hy2:y<4611686018427387904):0<=a7l .i64 x y/\a7l .i64 x y<4611686018427387904:=by
 obtain ⟨a,rfl⟩:∃a:Nat,x=(a:Int):=⟨x.toNat,by omega⟩
 obtain ⟨b,rfl⟩:∃b:Nat,y=(b:Int):=⟨y.toNat,by omega⟩
 have hxor:a ^^^ b<2 ^ 62:=Nat.xor_lt_two_pow (by omega) (by omega);have h:a7l .i64 (a:Int) (b:Int)=((a ^^^ b:Nat):Int):=by
  unfold a7l;rw [BitVec.toNat_xor];have e1:(BitVec.ofInt IntKind.i64.bits (a:Int)).toNat=a:=by
   show (BitVec.ofInt 64 (a:Int)).toNat=a
   rw [BitVec.toNat_ofInt];omega
  have e2:(BitVec.ofInt IntKind.i64.bits (b:Int)).toNat=b:=by
   show (BitVec.ofInt 64 (b:Int)).toNat=b
   rw [BitVec.toNat_ofInt];omega
  rw [e1,e2];exact IntWalk.i64_in _ ⟨by omega,by omega⟩
 rw [h];omega
theorem c69{l:List Int}(h:∀x∈l,a5g x){i:Int}(h0:0<=i)(h1:i<l.length):∃y,idx l i=some y/\0<=y/\y<=255:=by
 have hlt:i.toNat<l.length:=by omega
 refine ⟨l[i.toNat],?_,h _ (f8Q hlt)⟩;unfold idx;rw [if_pos h0,f8N hlt]
theorem b8l{x n:Int}(hx:0<=x)(hn:1<=n):0<=f9p x n/\f9p x n<n:=by
 rw [Int.tmod_eq_emod_of_nonneg hx];exact ⟨Int.emod_nonneg _ (by omega),Int.emod_lt_of_pos _ (by omega)⟩
theorem d8F{x n:Int}(hx:0<=x)(hn:1<=n):0<=g0N x n/\g0N x n<=x:=by
 rw [Int.tdiv_eq_ediv_of_nonneg hx];exact ⟨Int.ediv_nonneg hx (by omega),Int.ediv_le_self _ hx⟩
theorem I9{r:t8}{m:Nat}(h:Rd r m)(hm:m<=1000000000)(n:Int):∃v r',G2 r n=some (v,r')/\Rd r' (m+1)/\0<=v/\(v<n\/v=0):=by
 obtain ⟨hb,hbl,hp0,hp1⟩:=h;have hw:m7 (r.p+1)=r.p+1:=C5 (by omega) (by omega);have hw2:m7 (r.p+1-1)=r.p:=by rw [C5 (by omega) (by omega)];omega
 have hr:Rd ⟨r.b,r.p+1⟩ (m+1):=⟨hb,hbl,by simp only;omega,by simp only;omega⟩
 unfold G2;simp only [hw,hw2];by_cases hn:n<1
 ·simp only [hn,decide_true,g1d];exact ⟨0,_,rfl,hr,by omega,.inr rfl⟩
 simp only [hn,decide_false,g1e];cases he:((r.b.length:Int)==0);case true=>exact ⟨0,_,rfl,hr,by omega,.inr rfl⟩
 have hpos:0<r.b.length:=by
  have:¬(r.b.length:Int)=0:=by simpa using he
  omega
 have hne:(r.b.length:Int)≠0:=by omega
 have hnn:n≠0:=by omega
 simp only [g1e];by_cases hlt:r.p<(r.b.length:Int)
 ·obtain ⟨y,h1,h2,h3⟩:=c69 hb hp0 hlt;simp only [hlt,decide_true,g1d,h1,f8M,v5 hnn];rw [C5 (n:=y) (by omega) (by omega)];have:=b8l h2 (show 1<=n by omega);exact ⟨_,_,rfl,hr,this.1,.inl this.2⟩
 ·simp only [hlt,decide_false,g1e,v5 hne,v5 hnn];have t1:=b8l hp0 (show (1:Int)<=(r.b.length:Int) by omega);obtain ⟨y1,a1,a2,a3⟩:=c69 hb t1.1 t1.2;have w7:m7 (r.p*7)=r.p*7:=C5 (by omega) (by omega);have w73:m7 (r.p*7+3)=r.p*7+3:=C5 (by omega) (by omega);have t2:=b8l (show 0<=r.p*7+3 by omega) (show (1:Int)<=(r.b.length:Int) by omega);obtain ⟨y2,b1,b2,b3⟩:=c69 hb t2.1 t2.2;simp only [a1,w7,w73,b1,f8M];have td:=d8F hp0 (show (1:Int)<=(r.b.length:Int) by omega);have c1:m7 (m7 y1*131)=y1*131:=by rw [C5 (n:=y1) (by omega) (by omega),C5 (by omega) (by omega)]
  have c2:m7 (m7 y2*1117)=y2*1117:=by rw [C5 (n:=y2) (by omega) (by omega),C5 (by omega) (by omega)]
  have c3:m7 (r.p*29)=r.p*29:=C5 (by omega) (by omega);have c4:m7 (m7 (g0N r.p (r.b.length:Int))*53)=g0N r.p (r.b.length:Int)*53:=by rw [C5 (n:=g0N r.p (r.b.length:Int)) (by omega) (by omega),C5 (by omega) (by omega)]
  simp only [c1,c2,c3,c4];generalize g0N r.p (r.b.length:Int)=q at td;rw [C5 (n:=y1*131+y2*1117) (by omega) (by omega),C5 (n:=y1*131+y2*1117+r.p*29) (by omega) (by omega),C5 (n:=y1*131+y2*1117+r.p*29+q*53) (by omega) (by omega)];have hA0:0<=y1*131+y2*1117+r.p*29+q*53:=by omega
  have hA1:y1*131+y2*1117+r.p*29+q*53<1000000000000:=by omega
  generalize y1*131+y2*1117+r.p*29+q*53=A at hA0 hA1;have t3:=d8F hA0 (show (1:Int)<=64 by omega);rw [C5 (n:=g0N A 64) (by omega) (by omega)];have hx:=e05 hA0 (by omega) t3.1 (by omega);have t4:=b8l hx.1 (show 1<=n by omega);exact ⟨_,_,rfl,hr,t4.1,.inl t4.2⟩
theorem b4d{r:t8}{m:Nat}(h:Rd r m)(hm:m<=1000000000)(l:List Int)(hl:0<l.length)(hl2:l.length<=1000):∃v r',a7s r l=some (v,r')/\Rd r' (m+1)/\v∈l:=by
 obtain ⟨v,r',h1,h2,h3,h4⟩:=I9 h hm (l.length:Int);unfold a7s;rw [h1,f8M];have hlt:v.toNat<l.length:=by omega
 refine ⟨l[v.toNat],r',?_,h2,f8Q hlt⟩;unfold idx;simp only [if_pos h3,f8N hlt,f8M]
theorem e4P{code:List Int}(h:∀x∈code,a5g x):∃r,b9X code=some r/\Rd r 0:=by
 unfold b9X c25;by_cases hl:(code.length:Int)>2000
 ·simp only [hl,decide_true,g1d];rw [v5 ⟨by omega,by omega⟩];refine ⟨_,rfl,?_,?_,by simp,by simp⟩
  ·intro x hx;simp only [g0a] at hx;exact h x (f9T hx)
  ·simp only [f9g];have:(2000:Int).toNat-0=2000:=by decide
   omega
 ·simp only [hl,decide_false,g1e];exact ⟨_,rfl,h,by simp only;omega,by simp,by simp⟩
def Q3(i:n8):Bool:=
 bif i.a9==1 then p9 i.A 0 3&&(p9 i.B 0 3&&i.N==0) else
 bif i.a9==2 then p9 i.A 0 3&&(p9 i.B 0 3&&i.N==0) else
 bif i.a9==3 then p9 i.A 0 3&&(i.B==0&&p9 i.N (-1000000) 1000000) else
 bif i.a9==4 then p9 i.A 0 3&&(p9 i.B 0 3&&i.N==0) else
 bif i.a9==5 then p9 i.A 0 3&&(p9 i.B 0 3&&i.N==0) else
 bif i.a9==6 then p9 i.A 0 3&&(p9 i.B 0 3&&p9 i.N 1 10) else
 bif i.a9==7 then i.A==0&&(i.B==0&&i.N==0) else false
theorem f05(n:Int):a2B n=some (p9 n 0 3):=by
 rw [<-N7];unfold a2B D7;have:(n<4)=(n<=3):=by apply propext;omega
 simp only [this]
theorem e8k(i:n8):b9l i=some (Q3 i):=by
 unfold b9l Q3;have h6:(bif decide (i.N>=1) then some (decide (i.N<=10)) else some false)=some (p9 i.N 1 10):=by
  unfold p9;by_cases h1:i.N>=1<;>by_cases h2:i.N<=10<;>simp [h1,h2]<;>omega
 simp only [f05,c4T,a8O,f8M,h6];cases i.a9==1<;>cases i.a9==2<;>cases i.a9==3<;>cases i.a9==4<;>cases i.a9==5<;>cases i.a9==6<;>cases i.a9==7<;>cases p9 i.A 0 3<;>cases p9 i.B 0 3<;>cases i.A==0<;>cases i.B==0<;>rfl
def E4(l:List n8):Bool:=decide (l.length<=10)&&l.all Q3
theorem c4F{l:List n8}(h:s7 l):b0K l=some (E4 l):=by
 unfold b0K E4;rw [show (10:Int)=((10:Nat):Int) from rfl,b2P,I5 l h Q3 false ()]
 ·cases decide (l.length<=10)
  ·rfl
  ·cases l.all Q3<;>rfl
 ·intro k hk;unfold c0Y;rw [w6 _ k hk,t0 hk];simp only [g1d,f8M,e8k];cases Q3 l[k]<;>rfl
 ·unfold c0Y;rw [z8];rfl
theorem b4c{i:n8}(h:Q3 i=true):(i.a9=1/\(0<=i.A/\i.A<=3)/\(0<=i.B/\i.B<=3))\/(i.a9=2/\(0<=i.A/\i.A<=3)/\(0<=i.B/\i.B<=3))\/(i.a9=3/\(0<=i.A/\i.A<=3)/\(-1000000<=i.N/\i.N<=1000000))\/
  (i.a9=4/\(0<=i.A/\i.A<=3)/\(0<=i.B/\i.B<=3))\/(i.a9=5/\(0<=i.A/\i.A<=3)/\(0<=i.B/\i.B<=3))\/(i.a9=6/\(0<=i.A/\i.A<=3)/\(0<=i.B/\i.B<=3)/\(1<=i.N/\i.N<=10))\/(i.a9=7/\i.A=0):=by
 unfold Q3 p9 at h;by_cases h1:i.a9=1
 ·simp [h1] at h;exact .inl ⟨h1,h.1,h.2.1⟩
 by_cases h2:i.a9=2
 ·simp [h2] at h;exact .inr (.inl ⟨h2,h.1,h.2.1⟩)
 by_cases h3:i.a9=3
 ·simp [h3] at h;exact .inr (.inr (.inl ⟨h3,h.1,h.2.2⟩))
 by_cases h4:i.a9=4
 ·simp [h4] at h;exact .inr (.inr (.inr (.inl ⟨h4,h.1,h.2.1⟩)))
 by_cases h5:i.a9=5
 ·simp [h5] at h;exact .inr (.inr (.inr (.inr (.inl ⟨h5,h.1,h.2.1⟩))))
 by_cases h6:i.a9=6
 ·simp [h6] at h;exact .inr (.inr (.inr (.inr (.inr (.inl ⟨h6,h.1,h.2.1,h.2.2⟩)))))
 by_cases h7:i.a9=7
 ·simp [h7] at h;exact .inr (.inr (.inr (.inr (.inr (.inr ⟨h7,h.1⟩)))))
 ·have e1:(i.a9==1)=false:=by simpa using h1
  have e2:(i.a9==2)=false:=by simpa using h2
  have e3:(i.a9==3)=false:=by simpa using h3
  have e4:(i.a9==4)=false:=by simpa using h4
  have e5:(i.a9==5)=false:=by simpa using h5
  have e6:(i.a9==6)=false:=by simpa using h6
  have e7:(i.a9==7)=false:=by simpa using h7
  rw [e1,e2,e3,e4,e5,e6,e7] at h;cases h
def a34(l:List r9):Bool:=(f8W l.length).all (X4 l)
def a2h(l:List p8):Bool:=(f8W l.length).all (Y9 l)
def c6z(x:r9):Prop:=0<=x.i5/\x.i5<=3/\0<=x.j4/\x.j4<=1000000
theorem d2T{l:List r9}:a34 l=true↔(∀x∈l,c6z x)/\l.Pairwise fun a b=>a.i5≠b.i5:=by
 unfold a34;constructor
 ·intro h;refine ⟨c9f h,?_⟩;rw [f9H];intro i j hi hj hij heq;have:=f8S.1 h j (by simpa using hj);unfold X4 at this;rw [f8N hj] at this;simp only [f8R,f9v] at this;have hs:=this.2.2;unfold J9 at hs;rw [f9E] at hs;refine hs l[i] ?_ (by simpa using heq);rw [f9U];exact ⟨i,by omega,rfl⟩
 ·rintro ⟨h1,h2⟩
  rw [f8S];intro k hk;have hk:k<l.length:=by simpa using hk
  unfold X4;rw [f8N hk];have hf:=h1 _ (f8Q hk);have hs:J9 (l.take k) l[k].i5=false:=by
   unfold J9;rw [f9E];intro x hx;obtain ⟨i,hi,rfl⟩:=f9U.1 hx;have:=f9H.1 h2 i k (by omega) hk (by omega);simpa using this
  simp only [hs,f9x,g0m,f8R];unfold c6z at hf;exact ⟨by simp [p9];omega,by simp [p9];omega⟩
theorem b4X{l:List p8}:a2h l=true↔(∀x∈l,a0k x)/\l.Pairwise fun a b=>a.i5≠b.i5:=by
 unfold a2h;constructor
 ·intro h;refine ⟨c9w h,?_⟩;rw [f9H];intro i j hi hj hij heq;have:=f8S.1 h j (by simpa using hj);unfold Y9 at this;rw [f8N hj] at this;simp only [f8R,f9v] at this;have hs:=this.2.2;unfold K9 at hs;rw [f9E] at hs;refine hs l[i] ?_ (by simpa using heq);rw [f9U];exact ⟨i,by omega,rfl⟩
 ·rintro ⟨h1,h2⟩
  rw [f8S];intro k hk;have hk:k<l.length:=by simpa using hk
  unfold Y9;rw [f8N hk];have hf:=h1 _ (f8Q hk);have hs:K9 (l.take k) l[k].i5=false:=by
   unfold K9;rw [f9E];intro x hx;obtain ⟨i,hi,rfl⟩:=f9U.1 hx;have:=f9H.1 h2 i k (by omega) hk (by omega);simpa using this
  simp only [hs,f9x,g0m,f8R];unfold a0k at hf;exact ⟨by simp [p9];omega,by simp [p9];omega⟩
theorem e2r{l:List r9}{x:r9}(h:a34 l=true)(hx:c6z x)(hs:J9 l x.i5=false):a34 (l++[x])=true:=by
 rw [d2T] at h⊢;refine ⟨fun y hy => ?_,?_⟩
 ·rcases f8P.1 hy with hy|hy
  ·exact h.1 y hy
  ·rw [f8V.1 hy];exact hx
 ·rw [g0F];refine ⟨h.2,by simp,fun a ha b hb => ?_⟩;rw [f8V.1 hb];unfold J9 at hs;rw [f9E] at hs;simpa using hs a ha
theorem f2G{l:List p8}{x:p8}(h:a2h l=true)(hx:a0k x)(hs:K9 l x.i5=false):a2h (l++[x])=true:=by
 rw [b4X] at h⊢;refine ⟨fun y hy => ?_,?_⟩
 ·rcases f8P.1 hy with hy|hy
  ·exact h.1 y hy
  ·rw [f8V.1 hy];exact hx
 ·rw [g0F];refine ⟨h.2,by simp,fun a ha b hb => ?_⟩;rw [f8V.1 hb];unfold K9 at hs;rw [f9E] at hs;simpa using hs a ha
theorem e9M{l:List p8}{k:Nat}{v:Int}(h:a2h l=true)(hk:k<l.length)(hv:-1000000<=v/\v<=1000000):a2h (l.set k ⟨l[k].i5,v⟩)=true:=by
 rw [b4X] at h⊢;refine ⟨fun y hy => ?_,?_⟩
 ·rcases f9y hy with hy|rfl
  ·exact h.1 y hy
  ·have:=h.1 _ (f8Q hk);exact ⟨this.1,this.2.1,hv⟩
 ·rw [f9H];intro i j hi hj hij;have hi':i<l.length:=by simpa using hi
  have hj':j<l.length:=by simpa using hj
  have hne:=f9H.1 h.2 i j hi' hj' hij;rw [List.getElem_set,List.getElem_set];split<;>split<;>simp_all
theorem b0V(r:n7):V4 r=(p9 r.Code 0 3&&(p9 r.d8 (-1000000) 1000000&&((r.Code==0||(r.d8==0&&r.b7.length==0))&&((r.Code != 3||r.b5.length==0)&&(a34 r.b5&&a2h r.b7))))):=rfl
def inV(v:Int):Prop := -1000000<=v/\v<=1000000
structure Way(r:n7)(n:Nat):Prop where
 val:r.d8=0
 reads:a34 r.b5=true
 puts:a2h r.b7=true
 rlen:r.b5.length<=n
 plen:r.b7.length<=n
structure Ran(r:n7):Prop where
 ok:V4 r=true
 rlen:r.b5.length<=40
 plen:r.b7.length<=40
theorem b6r{r:n7}{n:Nat}(h:Way r n)(hn:n<=40)(hc:r.Code=0\/r.Code=1\/r.Code=2){v:Int}(hv:r.Code=0->inV v):Ran ⟨r.b5,bif r.Code != 0 then [] else r.b7,bif r.Code != 0 then r.d8 else v,r.Code⟩:=by
 have h1:=h.rlen;have h2:=h.plen;have hR:=h.reads;have hP:=h.puts;have hP0:a2h []=true:=rfl;rcases hc with hc|hc|hc
 ·have hv:=hv hc;unfold inV at hv;refine ⟨?_,by simp only;omega,by simp only [hc];simp;omega⟩;rw [b0V];simp [hc,hR,hP,p9,hv]
 ·refine ⟨?_,by simp only;omega,by simp [hc]⟩;rw [b0V];simp [hc,hR,hP0,p9,h.val]
 ·refine ⟨?_,by simp only;omega,by simp [hc]⟩;rw [b0V];simp [hc,hR,hP0,p9,h.val]
theorem d9Z{r:t8}{m:Nat}(h:Rd r m)(hm:m<=100000000):∃i r',b7m r=some (i,r')/\Rd r' (m+10):=by
 obtain ⟨k,r1,a1,a2,a3⟩:=b4d h (by omega) [1,1,2,2,3,4,4,5,6,7] (by decide) (by decide);obtain ⟨p1,r2,b1,b2,b3,b4⟩:=I9 a2 (by omega) 3;obtain ⟨p2,r3,c1,c2,c3,c4⟩:=I9 b2 (by omega) 3;unfold b7m;simp only [a1,b1,c1,f8M];cases h3:k==3
 ·cases h6:k==6
  ·cases h7:k==7
   ·exact ⟨_,_,rfl,c2.mono (by omega)⟩
   ·obtain ⟨p3,r4,d1,d2,d3,d4⟩:=I9 c2 (by omega) 3;simp only [g1d,g1e,d1,f8M];cases decide (p3>0)
    ·exact ⟨_,_,rfl,d2.mono (by omega)⟩
    ·obtain ⟨p4,r5,e1,e2,e3,e4⟩:=I9 d2 (by omega) 4;obtain ⟨p5,r6,f1,f2,f3,f4⟩:=I9 e2 (by omega) 4;simp only [g1d,e1,f1,f8M];exact ⟨_,_,rfl,f2.mono (by omega)⟩
  ·obtain ⟨p3,r4,d1,d2,d3,d4⟩:=I9 c2 (by omega) 3;simp only [g1d,g1e,d1,f8M];exact ⟨_,_,rfl,d2.mono (by omega)⟩
 ·obtain ⟨n1,r4,d1,d2,d3⟩:=b4d c2 (by omega) [0,1,5,(-2),100,1000000] (by decide) (by decide);simp only [g1d,d1,f8M];exact ⟨_,_,rfl,d2.mono (by omega)⟩
theorem c3c{r:t8}{m:Nat}(h:Rd r m)(hm:m<=50000000):∃p r',a4N r=some (p,r')/\Rd r' (m+200)/\p.length<=10:=by
 obtain ⟨v,r1,a1,a2,a3,a4⟩:=I9 h (by omega) 3;unfold a4N;simp only [a1,f8M];cases v==0
 ·obtain ⟨k,r2,b1,b2,b3,b4⟩:=I9 a2 (by omega) 8;simp only [g1e,b1,f8M];obtain ⟨x,hx,hq⟩:=c1M (body:=fun s:t8×(List n8)×Int=>b7r s.1 s.2.1 s.2.2)
   (fun j s=>s.2.2=(j:Int)/\j<=8/\Rd s.1 (m+2+10*(8-j))/\s.2.1.length+j<=8)
   (fun x=>match x with
    | .ret _=>False
    | .brk b=>Rd b.1 (m+200)/\b.2.length<=10)
   (by
    rintro j ⟨r,out,i⟩ ⟨q1,q2,q3,q4⟩
    simp only at q1 q3 q4⊢;subst q1;unfold b7r;cases j with
    | zero=>exact ⟨_,rfl,q3.mono (by omega),by simp only;omega⟩
    | succ j=>
     obtain ⟨i,r',d1,d2⟩:=d9Z q3 (by omega);have hpos:decide (((j+1:Nat):Int)>0)=true:=by simp
     have n1:(out.length+1)*32<=140737488355328:=by omega
     rw [hpos,g1d,d1,f8M,v5 n1,C5 (by omega) (by omega)];exact ⟨_,rfl,j,by omega,by simp only;omega,by omega,d2.mono (by omega),by simp;omega⟩) (k:=k.toNat) (s:=(r2,[],k)) ⟨by simp only;omega,by omega,b2.mono (by omega),by simp;omega⟩
  rw [hx,f8M];cases x with
  | ret r=>cases hq
  | brk b=>exact ⟨_,_,rfl,hq.1,hq.2⟩
 ·obtain ⟨p1,r2,b1,b2,b3,b4⟩:=I9 a2 (by omega) 3;obtain ⟨p2,r3,c1,c2,c3,c4⟩:=I9 b2 (by omega) 3;obtain ⟨p3,r4,d1,d2,d3,d4⟩:=I9 c2 (by omega) 3;simp only [g1d,b1,c1,d1,f8M];exact ⟨_,_,rfl,d2.mono (by omega),by simp⟩
def f6L(e:m4):Prop:=e.b6.b5.length<=40/\e.b6.b7.length<=40
def drawn(l:List m4):Prop:=l.length<=41/\∀e∈l,f6L e
theorem d6Z{l:List m4}(h:A2 88 a1n l):b1X l=some (bif G4 l then (p6 l).1 else ⟨0,[],[]⟩):=by
 unfold b1X;rw [c63 h,f8M];cases hok:G4 l
 ·rfl
 ·obtain ⟨hl,he⟩:=W8 hok;rw [f8T,g1e,b7e h hl he];rfl
theorem d5D{l:List m4}(h:A2 88 a1n l)(hok:G4 l=true):b3G l=some (p6 l).1:=by
 obtain ⟨hl,he⟩:=W8 hok;have hf:s7 l:=h.fits (by decide);unfold b3G;rw [b6A,f8M,show (40:Int)=((40:Nat):Int) from rfl,b2P,decide_eq_true hl,f8T,g1e];have hloop:=V0 (body:=fun s:(List m9)×Int×Int×List q9=>b1C l s.1 s.2.1 s.2.2.1 s.2.2.2) (fun k=>((p6 (l.take k)).1.g7,(k:Int),(p6 (l.take k)).1.At,(p6 (l.take k)).1.i8)) l.length (by
  intro k hk;obtain ⟨h1,h2,h3⟩:=P6 hl he k (by omega);have hek:=f8S.1 he _ (f8Q hk);have hfk:=h.2 _ (f8Q hk);rw [a0W hk];unfold b1C;rw [w6 _ k hk,t0 hk,E6 hf hk];simp only [g1d,f8M,a4b hfk,hek,f8T,g1e];rw [show (⟨(p6 (l.take k)).1.At,(p6 (l.take k)).1.g7,(p6 (l.take k)).1.i8⟩:u5)=(p6 (l.take k)).1 from rfl,b9W h1 (by omega) hek hfk,f8M];rfl)
 rw [f9D,f9e] at hloop;rw [show ((0:Nat):Int)=0 from rfl] at hloop;rw [show o7 (fun s:(List m9)×Int×Int×List q9=>b1C l s.1 s.2.1 s.2.2.1 s.2.2.2) (P9.g7,0,P9.At,P9.i8)=_ from hloop,C7 (b:=((p6 l).1.g7,(p6 l).1.At,(p6 l).1.i8))]
 ·rfl
 ·unfold b1C;rw [z8];rfl
def W9(a b:List m9):Prop:=a.length=b.length/\∀(i:Nat) (x y:m9),a[i]?=some x->b[i]?=some y->x.j4<=y.j4
theorem W9.refl(a:List m9):W9 a a:=⟨rfl,fun i x y h1 h2=>by rw [h1] at h2;injection h2 with h2;rw [h2];exact f9n _⟩
theorem W9.trans{a b c:List m9}(h:W9 a b)(k:W9 b c):W9 a c:=by
 refine ⟨h.1.trans k.1,fun i x z hx hz => ?_⟩;have hi:i<b.length:=by
  have:=(f8U.1 hx).1;have:=h.1;omega
 have h1:=h.2 i x _ hx (f8N hi);have h2:=k.2 i _ z (f8N hi) hz;omega
theorem f6T{l:List m9}{p:p8}(h:C8 l=true)(hp:a0k p):W9 l (a0C l p):=by
 obtain ⟨b,_,h2,h3⟩:=a5v h (b:=p.i5) ⟨hp.1,hp.2.1⟩;rw [b3M] at h3;rw [b8e h2];refine ⟨by simp,fun i x y hx hy => ?_⟩;rw [g0t] at hy;split at hy
 ·rename_i he;split at hy
  ·injection hy with hy;subst hy;rw [<-he,h2] at hx;injection hx with hx;subst hx;simp only;split<;>omega
  ·cases hy
 ·rw [hx] at hy;injection hy with hy;rw [hy];exact f9n _
theorem d0o:∀{ps:List p8} {l:List m9},C8 l=true->(∀p∈ps,a0k p)->W9 l (a0T l ps)
 | [],l,_,_=>W9.refl _
 | p::ps,l,h,hp=>(f6T h (hp p (by simp))).trans (d0o (ps:=ps) (d1j h (hp p (by simp))) fun x hx=>hp x (by simp [hx]))
theorem e3i{s:u5}{k:Nat}{e:m4}(hs:X5 s k)(he:z4 e=true):W9 s.g7 (apply s e).1.g7:=by
 have hfr:e.i7=false->W9 s.g7 (O3 s e).1.g7:=by
  intro hn;obtain ⟨_,_,hr,_⟩:=a4p he hn;unfold O3;cases a02 s.g7 e.b6
  ·exact W9.refl _
  ·cases e.b6.Code==0
   ·exact W9.refl _
   ·exact d0o hs.boxes (a3b hr).2.2.2.2
 unfold apply;cases hn:e.i7
 ·simp only [g1e];cases s.i8.find? fun d=>d.a5.b9==e.a5.b9 with
  | none=>exact hfr hn
  | some d=>
   simp only;cases d.a5.Seq==e.a5.Seq
   ·cases decide (d.a5.Seq>e.a5.Seq)
    ·exact hfr hn
    ·exact W9.refl _
   ·exact W9.refl _
 ·exact W9.refl _
theorem d7b{l:List m4}(hl:l.length<=40)(he:l.all z4=true){j k:Nat}(hjk:j<=k)(hk:k<=l.length):W9 (p6 (l.take j)).1.g7 (p6 (l.take k)).1.g7:=by
 induction k with
 | zero=>
  have:j=0:=by omega
  subst this;exact W9.refl _
 | succ k ih=>
  by_cases hq:j=k+1
  ·subst hq;exact W9.refl _
  ·refine (ih (by omega) (by omega)).trans ?_;rw [a0W (show k<l.length by omega)];exact e3i (P6 hl he k (by omega)).1 (f8S.1 he _ (f8Q _))
def a53(l:List m4)(codes:List Int)(box:Int)(i:Nat):Bool:=match codes[i]?,l[i]? with
 | some c,some e=>c==0&&K9 e.b6.b7 box
 | _,_=>false
theorem d5X{l:List m9}{p:p8}{i:Nat}(h:p.i5.toNat≠i):(a0C l p)[i]?=l[i]?:=by
 unfold a0C;cases l[p.i5.toNat]? with
 | none=>rfl
 | some b=>simp only;rw [f9k h]
theorem e07{l:List m9}{p:p8}{x:m9}(hx:l[p.i5.toNat]?=some x):(a0C l p)[p.i5.toNat]?=some ⟨if x.j4+1<1000000 then x.j4+1 else 1000000,p.d8⟩:=by
 rw [b8e hx,g0e (f8U.1 hx).1]
theorem f1p{ps:List p8}{b:Int}(h:K9 ps b=false):∀p∈ps,p.i5≠b:=by
 unfold K9 at h;rw [f9E] at h;intro p hp;simpa using h p hp
theorem c2M:∀{ps:List p8} {l:List m9} {b:Int},0<=b->(∀p∈ps,a0k p)->K9 ps b=false->(a0T l ps)[b.toNat]?=l[b.toNat]?
 | [],l,b,_,_,_=>rfl
 | p::ps,l,b,hb,hp,hs=>by
  have h1:=f1p hs;have hf:=hp p (by simp);have hne:p.i5.toNat≠b.toNat:=by
   have:=h1 p (by simp);have:=hf.1;omega
  have hs2:K9 ps b=false:=by
   unfold K9;rw [f9E];intro x hx;have:=h1 x (by simp [hx]);simpa using this
  show (a0T (a0C l p) ps)[b.toNat]?=_
  rw [c2M (l:=a0C l p) hb (fun x hx=>hp x (by simp [hx])) hs2,d5X hne]
theorem d5d:∀{ps:List p8} {l:List m9} {b:Int} {x:m9},0<=b->(∀p∈ps,a0k p)->ps.Pairwise (fun p q=>p.i5≠q.i5)->K9 ps b=true->l[b.toNat]?=some x->
  ∃v,(a0T l ps)[b.toNat]?=some ⟨if x.j4+1<1000000 then x.j4+1 else 1000000,v⟩
 | [],l,b,x,_,_,_,hs,_=>by cases hs
 | p::ps,l,b,x,hb,hp,hd,hs,hx=>by
  have hf:=hp p (by simp);obtain ⟨hd1,hd2⟩:=g0l.1 hd;by_cases he:p.i5=b
  ·have hs2:K9 ps b=false:=by
    unfold K9;rw [f9E];intro q hq;have:=hd1 q hq;simp only [beq_iff_eq];intro h;exact this (he.trans h.symm)
   refine ⟨p.d8,?_⟩;show (a0T (a0C l p) ps)[b.toNat]?=_
   rw [c2M hb (fun q hq=>hp q (by simp [hq])) hs2,<-he,e07 (by rw [he];exact hx)]
  ·have hne:p.i5.toNat≠b.toNat:=by
    have:=hf.1;omega
   have hs2:K9 ps b=true:=by
    unfold K9 at hs⊢;rw [g05] at hs;have:(p.i5==b)=false:=by simpa using he
    rwa [this,f9B] at hs
   exact d5d (l:=a0C l p) hb (fun q hq=>hp q (by simp [hq])) hd2 hs2 (by rw [d5X hne];exact hx)
theorem c8K{r:n7}(h:V4 r=true):a2h r.b7=true:=by
 rw [b0V] at h;simp only [f8R] at h;exact h.2.2.2.2.2
theorem c4W{s:u5}{k:Nat}{e:m4}(hs:X5 s k)(he:z4 e=true):((apply s e).2=0/\e.i7=false/\(apply s e).1.g7=a0T s.g7 e.b6.b7)\/((apply s e).2≠0/\(apply s e).1.g7=s.g7):=by
 have hfr:e.i7=false->((O3 s e).2=0/\e.i7=false/\(O3 s e).1.g7=a0T s.g7 e.b6.b7)\/((O3 s e).2≠0/\(O3 s e).1.g7=s.g7):=by
  intro hn;unfold O3;cases a02 s.g7 e.b6
  ·exact .inr ⟨show (1:Int)≠0 from by decide,rfl⟩
  ·cases e.b6.Code==0
   ·exact .inr ⟨show (2:Int)≠0 from by decide,rfl⟩
   ·exact .inl ⟨rfl,hn,rfl⟩
 unfold apply;cases hn:e.i7
 ·simp only [g1e];cases s.i8.find? fun d=>d.a5.b9==e.a5.b9 with
  | none=>
   rcases hfr hn with ⟨a,_,c⟩|h
   ·exact .inl ⟨a,by simp,c⟩
   ·exact .inr h
  | some d=>
   simp only;cases d.a5.Seq==e.a5.Seq
   ·cases decide (d.a5.Seq>e.a5.Seq)
    ·rcases hfr hn with ⟨a,_,c⟩|h
     ·exact .inl ⟨a,by simp,c⟩
     ·exact .inr h
    ·exact .inr ⟨show (4:Int)≠0 from by decide,rfl⟩
   ·exact .inr ⟨show (3:Int)≠0 from by decide,rfl⟩
 ·exact .inr ⟨show (5:Int)≠0 from by decide,rfl⟩
theorem b0a{l:List m4}(hl:l.length<=40)(he:l.all z4=true){k:Nat}(hk:k<l.length):(p6 l).2[k]?=some (apply (p6 (l.take k)).1 l[k]).2:=by
 have key:∀n,k<n->n<=l.length->(p6 (l.take n)).2[k]?=some (apply (p6 (l.take k)).1 l[k]).2:=by
  intro n;induction n with
  | zero=>intro h;omega
  | succ n ih=>
   intro h1 h2;have hlen:=(P6 hl he n (by omega)).2.1;rw [a0W (show n<l.length by omega)];unfold b0s;by_cases hq:k=n
   ·subst hq;simp only;rw [f9h (by omega),hlen,Nat.sub_self];rfl
   ·simp only;rw [f9l (by omega)];exact ih (by omega) (by omega)
 have:=key l.length hk (f9f _);rwa [f9e] at this
theorem c7z{l:List m4}(hl:l.length<=40)(he:l.all z4=true){k:Nat}(hk:k<l.length){b:Int}(h0:0<=b)(h:a53 l (p6 l).2 b k=false):(p6 (l.take (k+1))).1.g7[b.toNat]?=(p6 (l.take k)).1.g7[b.toNat]?:=by
 have hek:=f8S.1 he _ (f8Q hk);have hin:=(P6 hl he k (by omega)).1;rw [a0W hk];show (apply (p6 (l.take k)).1 l[k]).1.g7[b.toNat]?=_
 rcases c4W hin hek with ⟨h1,h2,h3⟩|⟨h1,h2⟩
 ·rw [h3];obtain ⟨_,_,hr,_⟩:=a4p hek h2;refine c2M h0 (a3b hr).2.2.2.2 ?_;unfold a53 at h;rw [b0a hl he hk,f8N hk,h1] at h;simpa using h
 ·rw [h2]
theorem d8A{l:List m4}(hl:l.length<=40)(he:l.all z4=true){k:Nat}(hk:k<l.length){b:Int}(h:a53 l (p6 l).2 b k=true):(0<=b/\b<=3)/\∀x,(p6 (l.take k)).1.g7[b.toNat]?=some x->
  ∃v,(p6 (l.take (k+1))).1.g7[b.toNat]?=some ⟨if x.j4+1<1000000 then x.j4+1 else 1000000,v⟩:=by
 have hek:=f8S.1 he _ (f8Q hk);have hin:=(P6 hl he k (by omega)).1;unfold a53 at h;rw [b0a hl he hk,f8N hk] at h;simp only [f8R,beq_iff_eq] at h;rcases c4W hin hek with ⟨h1,h2,h3⟩|⟨h1,h2⟩
 ·obtain ⟨_,_,hr,_⟩:=a4p hek h2;have hp:=(a3b hr).2.2.2.2;have hb:0<=b/\b<=3:=by
   have:=h.2;unfold K9 at this;rw [g0p] at this;obtain ⟨p,hp1,hp2⟩:=this;have hpb:p.i5=b:=by simpa using hp2
   have:=hp p hp1;omega
  refine ⟨hb,fun x hx => ?_⟩;rw [a0W hk];show ∃v,(apply (p6 (l.take k)).1 l[k]).1.g7[b.toNat]?=_
  rw [h3];exact d5d hb.1 hp (b4X.1 (c8K hr)).2 h.2 hx
 ·exact absurd h.1 h1
theorem c4w{l:List m4}(hl:l.length<=40)(he:l.all z4=true){b:Int}(hb:0<=b/\b<=3):∀k,k<=l.length->∃x,(p6 (l.take k)).1.g7[b.toNat]?=some x/\0<=x.j4/\x.j4<=(k:Int)
 | 0,_=>by
  rw [f9D];have:b=0\/b=1\/b=2\/b=3:=by omega
  rcases this with rfl|rfl|rfl|rfl<;>exact ⟨⟨0,0⟩,rfl,by decide,by decide⟩
 | k+1,hk=>by
  obtain ⟨x,h1,h2,h3⟩:=c4w hl he hb k (by omega);cases hp:a53 l (p6 l).2 b k
  ·rw [c7z hl he (by omega) hb.1 hp];exact ⟨x,h1,h2,by omega⟩
  ·obtain ⟨_,hq⟩:=d8A hl he (show k<l.length by omega) hp;obtain ⟨v,hv⟩:=hq x h1;refine ⟨_,hv,?_,?_⟩
   ·simp only;split<;>omega
   ·simp only;split<;>omega
theorem d1x{l:List m4}(hl:l.length<=40)(he:l.all z4=true){b:Int}(h0:0<=b){j:Nat}:∀k,j<=k->k<=l.length->(∀i,j<=i->i<k->a53 l (p6 l).2 b i=false)->(p6 (l.take k)).1.g7[b.toNat]?=(p6 (l.take j)).1.g7[b.toNat]?
 | 0,hj,_,_=>by
  have:j=0:=by omega
  rw [this]
 | k+1,hj,hk,h=>by
  by_cases hq:j=k+1
  ·rw [hq]
  ·rw [c7z hl he (by omega) h0 (h k (by omega) (by omega))];exact d1x hl he h0 k (by omega) (by omega) fun i h1 h2=>h i h1 (by omega)
def cnt(cs:List Int)(c:Int):Int:=((cs.filter fun x=>x==c).length:Int)
theorem e9X(cs:List Int)(c d:Int):cnt (cs++[c]) d=cnt cs d+(if c=d then 1 else 0):=by
 unfold cnt;rw [List.filter_append];by_cases h:c=d<;>simp [h]
theorem c5t(cs:List Int)(c:Int):0<=cnt cs c/\cnt cs c<=cs.length:=by
 unfold cnt;have:=List.length_filter_le (fun x=>x==c) cs;omega
def b5q(l:List m4)(cs:List Int)(k:Nat):List n5:=match cs[k]?,l[k]? with
 | some c,some e=>bif c==0 then [e.a5] else []
 | _,_=>[]
def told(l:List m4)(cs:List Int):Nat->List n5
 | 0=>[]
 | k+1=>told l cs k++b5q l cs k
theorem b46{l:List m4}{cs:List Int}{k:Nat}(h1:k<l.length)(h2:k<cs.length):b5q l cs k=bif cs[k]==0 then [l[k].a5] else []:=by
 unfold b5q;rw [f8N h1,f8N h2]
theorem b6z{l:List m4}{cs:List Int}(hc:cs.length=l.length):∀k,k<=l.length->((told l cs k).length:Int)=cnt (cs.take k) 0
 | 0,_=>rfl
 | k+1,hk=>by
  have h1:k<cs.length:=by omega
  have ih:=b6z hc k (by omega);unfold told;rw [f9s h1,e9X,b46 (show k<l.length by omega) h1,<-ih];by_cases hq:cs[k]=0
  ·simp [hq]
  ·have hq':(cs[k]==0)=false:=by simpa using hq
   simp [hq,hq']
def A0(l:List m4):List n5:=bif G4 l then told l (p6 l).2 l.length else []
theorem e8f{l:List n5}(h:l.length*16<=140737488351232):b9j l=some l:=by
 unfold b9j t5;cases l with
 | nil=>rfl
 | cons x l=>
  have h1:(((x::l).length:Int)==0)=false:=by simp;omega
  rw [h1,g1e,if_pos (by constructor<;>omega),if_pos (by simp)]
theorem e2v{l:List m4}(h:A2 88 a1n l):c0B l=some (A0 l):=by
 unfold c0B A0;rw [c63 h,f8M];cases hok:G4 l
 ·rfl
 have hf:s7 l:=h.fits (by decide);obtain ⟨hl,he⟩:=W8 hok;obtain ⟨_,hlen,hc⟩:=P6 hl he l.length (f9f _);rw [f9e] at hlen hc;rw [f8T,g1e,g1d,b7e h hl he,f8M];have hsm:∀k,k<=l.length->(told l (p6 l).2 k).length<=40:=by
  intro k hk;have h1:=b6z hlen k hk;have h2:=c5t ((p6 l).2.take k) 0;rw [f9g] at h2;omega
 have hloop:=V0 (body:=fun s:(List n5)×Int=>a97 l (p6 l) s.1 s.2) (fun k=>(told l (p6 l).2 k,(k:Int))) l.length (by
  intro k hk;have hk2:k<(p6 l).2.length:=by omega
  have hs:=hsm k (by omega);have n1:((told l (p6 l).2 k).length+1)*16<=140737488355328:=by omega
  show a97 l (p6 l) (told l (p6 l).2 k) (k:Int)=some (.nxt (told l (p6 l).2 k++b5q l (p6 l).2 k,((k+1:Nat):Int)))
  rw [b46 hk hk2];unfold a97 c2R;rw [w6 _ k hk,t0 hk,t0 hk2,E6 hf hk];simp only [g1d,f8M,v5 n1];cases (p6 l).2[k]==0
  ·simp only [g1e,f8M,l9.go,f9C]
  ·rfl)
 rw [show told l (p6 l).2 0=[] from rfl,show ((0:Nat):Int)=0 from rfl] at hloop;rw [hloop,C7 (b:=told l (p6 l).2 l.length)]
 ·simp only [f8M,l9.go];unfold c4z;rw [e8f (by have:=hsm l.length (f9f _);omega)];rfl
 ·unfold a97;rw [z8];rfl
theorem a5S{ps:List p8}(h:ps.Pairwise fun p q=>p.i5≠q.i5)(b:Int):(ps.filter fun p=>p.i5==b).length<=1:=by
 have h2:=h.filter (fun p=>p.i5==b);cases hq:ps.filter fun p=>p.i5==b with
 | nil=>simp
 | cons x r=>
  cases r with
  | nil=>simp
  | cons y r=>
   rw [hq] at h2;have hne:=(g0l.1 h2).1 y (by simp);have hx:x∈ps.filter fun p=>p.i5==b:=by rw [hq];simp
   have hy:y∈ps.filter fun p=>p.i5==b:=by rw [hq];simp
   have hx:=(f9V.1 hx).2;have hy:=(f9V.1 hy).2;simp only [beq_iff_eq] at hx hy;omega
theorem c5D:∀{ps:List p8},(∀p∈ps,a0k p)->ps.length=(ps.filter fun p=>p.i5==0).length+(ps.filter fun p=>p.i5==1).length+(ps.filter fun p=>p.i5==2).length+(ps.filter fun p=>p.i5==3).length
 | [],_=>rfl
 | p::ps,h=>by
  have ih:=c5D (ps:=ps) fun x hx=>h x (by simp [hx])
  have hp:=h p (by simp);have:p.i5=0\/p.i5=1\/p.i5=2\/p.i5=3:=by
   have:=hp.1;have:=hp.2.1;omega
  simp only [List.filter_cons,f9X];rcases this with q|q|q|q<;>simp [q]<;>omega
theorem f3V{r:n7}(h:V4 r=true):r.b7.length<=4:=by
 have h1:=(b4X.1 (c8K h))
 have h2:=c5D h1.1;have a:=a5S h1.2 0;have b:=a5S h1.2 1;have c:=a5S h1.2 2;have d:=a5S h1.2 3;omega
theorem okEntries.s{l:List m4}(h:A2 88 F3 l):A2 88 a1n l:=h.imp fun _ x=>x.f
theorem a2X(c x:Bool):(bif c then some x else some false)=some (c&&x):=by cases c<;>rfl
theorem b4n(c x:Bool):(bif c then some false else some x)=some (!c&&x):=by cases c<;>rfl
theorem f8x(n lo hi:Int):p9 n lo hi=(!decide (n<lo) && !decide (n>hi)):=by
 unfold p9;by_cases h1:n<lo<;>by_cases h2:n>hi<;>simp [h1,h2]<;>omega
theorem rng{α:Type}(n lo hi:Int)(X Y:α):(bif decide (n<lo) then Y else bif decide (n>hi) then Y else X)=bif p9 n lo hi then X else Y:=by
 rw [f8x];cases decide (n<lo)<;>cases decide (n>hi)<;>rfl
theorem c50{α:Type}(n lo:Int)(X Y:α):(bif decide (n<lo) then Y else bif decide (n>=3) then Y else X)=bif p9 n lo 2 then X else Y:=by
 have e:decide (n>=3)=decide (n>2):=by
  by_cases h:n>2
  ·rw [decide_eq_true h,decide_eq_true (by omega)]
  ·rw [decide_eq_false h,decide_eq_false (by omega)]
 rw [<-rng,e]
theorem a4R(a b:Int):(!decide (a>b))=decide (a<=b):=by
 by_cases h:a<=b
 ·simp [h]
 ·simp [h];omega
theorem d2R{α:Type}(l:List α):decide ((l.length:Int)>0) = !((l.length:Int)==0):=by
 by_cases hp:l.length=0
 ·rw [decide_eq_false (by omega),show ((l.length:Int)==0)=true from by rw [hp];rfl];rfl
 ·rw [decide_eq_true (by omega),show ((l.length:Int)==0)=false from by rw [<-g0q,beq_iff_eq];omega];rfl
theorem b5s{α:Type}[BEq α](a b:α):(!(a != b))=(a==b):=by simp [bne]
abbrev zE:m4:=⟨false,⟨0,0⟩,⟨[],[],0,0⟩⟩
def J3(a b:m4):Bool:=(a.i7==b.i7)&&((([a.a5.b9,a.a5.Seq]:List Int)==[b.a5.b9,b.a5.Seq])&&a4L a.b6 b.b6)
theorem a6F{a b:m4}(h:F3 a):a1H a b=some (J3 a b):=by
 unfold a1H J3;simp only [d70 h.f.2,f8M,a2X]
theorem c62{e:m4}(h:F3 e):a5q e=some (J3 e zE):=by
 unfold a5q J3;simp only [b8E h.f.2,f8M,a2X];cases e.i7<;>rfl
theorem b0j(n:Int):a1b n=some (p9 n 1 3000):=N7 n 1 3000
def a0e(v:m8):Bool:=bif v.a8==0 then J3 v.g9 zE else p9 v.a8 1 3000&&z4 v.g9
theorem f2x{v:m8}(h:T1 v):b6t v=some (a0e v):=by
 unfold b6t a0e;simp only [a6F h.2,N7,a6R h.2.f,f8M,a2X];cases v.a8==0<;>rfl
theorem e9u{v:m8}(h:T1 v):b70 v=some (a0e v):=by
 unfold b70 a0e J3;simp only [b8E h.2.f.2,b0j,a4b h.2.f,f8M,a2X];cases v.a8==0<;>cases v.g9.i7<;>rfl
def L4(l:List m8):Bool:=decide (l.length<=40)&&l.all a0e
theorem c6S{l:List m8}(h:A2 96 T1 l):a56 l=some (L4 l):=by
 unfold a56 L4;rw [show (40:Int)=((40:Nat):Int) from rfl,b2P,I5 l (h.fits (by decide)) a0e false ()]
 ·cases decide (l.length<=40)
  ·rfl
  ·cases l.all a0e<;>rfl
 ·intro k hk;unfold b54;rw [w6 _ k hk,t0 hk];simp only [g1d,f8M,e9u (h.2 _ (f8Q hk))];cases a0e l[k]<;>rfl
 ·unfold b54;rw [z8];rfl
theorem b4A{l:List m8}(h:A2 96 T1 l):a7a l=some (L4 l):=by
 unfold a7a L4 c3S;rw [show (40:Int)=((40:Nat):Int) from rfl,c6U,I5 l (h.fits (by decide)) a0e false ()]
 ·cases l.all a0e<;>cases decide (l.length<=40)<;>rfl
 ·intro k hk;unfold c0E;rw [w6 _ k hk,t0 hk];simp only [g1d,f8M,f2x (h.2 _ (f8Q hk))];cases a0e l[k]<;>rfl
 ·unfold c0E;rw [z8];rfl
def O2(a:z0):Bool:=p9 a.i0 0 3000&&(L4 a.a7&&a.a7.all fun v => !decide (v.a8>a.i0))
theorem e2n{a:z0}(h:a6N a):c0a a=some (O2 a):=by
 unfold c0a O2;rw [rng,c6S h.2,I5 a.a7 (h.2.fits (by decide)) (fun v => !decide (v.a8>a.i0)) false ()]
 ·simp only [f8M];cases p9 a.i0 0 3000<;>cases L4 a.a7<;>cases a.a7.all (fun v => !decide (v.a8>a.i0))<;>rfl
 ·intro k hk;unfold b6v;rw [w6 _ k hk,t0 hk];simp only [g1d,f8M];cases decide (a.a7[k].a8>a.i0)<;>rfl
 ·unfold b6v;rw [z8];rfl
theorem d8W{a:z0}(h:a6N a):a9N a=some (O2 a):=by
 unfold a9N O2;rw [I5 a.a7 (h.2.fits (by decide)) (fun v => !decide (v.a8>a.i0)) false ()]
 ·unfold c3H;simp only [N7,b4A h.2,f8M];cases p9 a.i0 0 3000<;>cases L4 a.a7<;>cases a.a7.all (fun v => !decide (v.a8>a.i0))<;>rfl
 ·intro k hk;unfold c0L;rw [w6 _ k hk,t0 hk];simp only [g1d,f8M];cases decide (a.a7[k].a8>a.i0)<;>rfl
 ·unfold c0L;rw [z8];rfl
theorem f0o(i:n8):b8H i=some (Q3 i):=by
 unfold b8H Q3 a3F b6Y;simp only [N7,f8M];cases i.a9==1<;>cases i.a9==2<;>cases i.a9==3<;>cases i.a9==4<;>cases i.a9==5<;>cases i.a9==6<;>cases i.a9==7<;>cases p9 i.A 0 3<;>cases p9 i.B 0 3<;>cases i.A==0<;>cases i.B==0<;>rfl
theorem c0d{l:List n8}(h:s7 l):a71 l=some (E4 l):=by
 unfold a71 E4 c2E;rw [show (10:Int)=((10:Nat):Int) from rfl,c6U,I5 l h Q3 false ()]
 ·cases l.all Q3<;>cases decide (l.length<=10)<;>rfl
 ·intro k hk;unfold b77;rw [w6 _ k hk,t0 hk];simp only [g1d,f8M,f0o];cases Q3 l[k]<;>rfl
 ·unfold b77;rw [z8];rfl
def a0d(b:Int):Int:=bif p9 b 1 3000 then f9p b 3 else -1
theorem d9E(b:Int):b1v b=some (a0d b):=by
 unfold b1v a0d;rw [b0j,f8M];cases p9 b 1 3000<;>rfl
theorem d7u(b:Int):b4x b=some (a0d b):=by
 unfold b4x a0d;rw [N7,f8M];cases p9 b 1 3000<;>rfl
def c0F(l:List Bool)(id:Int):Bool:=(idx l id).getD false
def a5F(l:List Bool)(id:Int):Bool:=((l.length:Int)==3)&&c0F l id
theorem d3Y{l:List Bool}{id:Int}(h:p9 id 0 2=true)(hl:((l.length:Int)==3)=true):idx l id=some (c0F l id):=by
 unfold p9 at h;simp only [decide_eq_true_eq] at h;simp only [beq_iff_eq] at hl;unfold c0F idx;rw [if_pos h.1,f8N (by omega)];rfl
theorem f1K{l:List Bool}{id:Int}(h:p9 id 0 2=true)(x:Bool):(bif ((l.length:Int)==3) then (idx l id).bind fun y=>some (y&&x) else some false)=some (a5F l id&&x):=by
 unfold a5F;cases hl:((l.length:Int)==3)
 ·rfl
 ·rw [d3Y h hl];rfl
theorem f2P{l:List Bool}{id:Int}(h:p9 id 0 2=true):b5o l id=some (a5F l id):=by
 unfold b5o a5F;cases hl:((l.length:Int)==3)
 ·rfl
 ·rw [d3Y h hl];rfl
def a4x(n:j6):Bool:=J3 n.c8 zE&&((n.a7.length:Int)==0)
def a0t(n:j6):Bool:=
  bif n.d6==0 then (n.a8==0)&&(((n.c9.length:Int)==0)&&(((n.i4.length:Int)==0)&&a4x n)) else
  (a0d n.a8==n.Id)&&(decide (n.a8<=n.Acc.i0)&&(L4 n.i4 &&
    (bif n.d6==1 then a5F n.c9 n.Id&&a4x n else
     bif n.d6==2 then ((n.c9.length:Int)==0)&&a4x n else
     bif n.d6==3 then ((n.c9.length:Int)==0)&&(z4 n.c8&&(a5F n.a7 n.Id&&decide ((n.a6.length:Int)<40))) else false)))
theorem c6c{n:j6}(h:p9 n.Id 0 2=true)(ho:(a0d n.a8==n.Id)=true):p9 n.a8 1 3000=true:=by
 cases hb:p9 n.a8 1 3000
 ·unfold a0d at ho;rw [hb] at ho;unfold p9 at h;simp only [decide_eq_true_eq,g1e,beq_iff_eq] at h ho;omega
 ·rfl
theorem e8F{n:j6}(h:O6 n)(hId:p9 n.Id 0 2=true):b3z n=some (a0t n):=by
 have hj:b3z n=b5E n (a4x n):=by
  unfold b3z a4x;simp only [a6F h.2.2.2.2.2.2.2.2.1,f8M];cases J3 n.c8 zE<;>rfl
 rw [hj];unfold b5E a0t;simp only [d7u,b4A h.2.2.2.2.2.2.2.1,f2P hId,a6R h.2.2.2.2.2.2.2.2.1.f,f8M,a2X];cases n.d6==0
 ·simp only [g1e];cases n.d6==1<;>cases n.d6==2<;>cases n.d6==3<;>simp only [g1d,g1e,b4n,b5s,a4R,g1a]<;>(cases a0d n.a8==n.Id<;>cases decide (n.a8<=n.Acc.i0)<;>cases L4 n.i4<;>rfl)
 ·rfl
theorem e7u{n:j6}(h:O6 n)(hId:p9 n.Id 0 2=true):b7H n=some (a0t n):=by
 unfold b7H a0t;simp only [d9E,b0j,c62 h.2.2.2.2.2.2.2.2.1,c6S h.2.2.2.2.2.2.2.1,a4b h.2.2.2.2.2.2.2.2.1.f,f8M,a2X,b4n,f1K hId,b5s,a4R,g1a];have hb:=c6c (n:=n) hId;cases h0:n.d6==0
 ·cases h1:n.d6==1
  ·cases h2:n.d6==2
   ·cases h3:n.d6==3
    ·simp only [g1e,Bool.and_false]
    ·simp only [g1e,g1d,b4n,b5s,a4R,g1a];cases ho:a0d n.a8==n.Id
     ·simp
     ·rw [hb ho];cases decide (n.a8<=n.Acc.i0)<;>cases L4 n.i4<;>cases ((n.c9.length:Int)==0)<;>rfl
   ·simp only [g1e,g1d,b4n,b5s,a4R,g1a];cases ho:a0d n.a8==n.Id
    ·simp
    ·rw [hb ho];unfold a4x;cases decide (n.a8<=n.Acc.i0)<;>cases L4 n.i4<;>cases ((n.c9.length:Int)==0)<;>rfl
  ·simp only [g1e,g1d,b4n,b5s,a4R,g1a];cases ho:a0d n.a8==n.Id
   ·simp
   ·rw [hb ho];unfold a4x;cases decide (n.a8<=n.Acc.i0)<;>cases L4 n.i4<;>cases a5F n.c9 n.Id<;>rfl
 ·unfold a4x;simp only [g1d]
end
end Go.Proofs.YtmadcoimgjieeaaGreat
