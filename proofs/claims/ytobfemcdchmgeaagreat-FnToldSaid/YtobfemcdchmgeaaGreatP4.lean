/- Abstract values and states of the program, functions of the program and what their calls come to, and what follows from it: part 4 of the text that the law leans on; long names are written short. -/
import Derived.Test.YtobfemcdchmgeaaGreatP3
import Derived.IntWalk
set_option linter.unusedVariables false
set_option linter.unusedSimpArgs false
set_option linter.unnecessarySimpa false
namespace Go.Proofs.YtobfemcdchmgeaaGreat
open Go
open Option renaming bind_some → f5i, map_some → f6x, getD_some → f6D, map_eq_some_iff → f6J
open List renaming getElem?_eq_getElem → f5j, replicate → f5k, getElem_mem → f5l, getElem?_eq_some_iff → f5o, mem_singleton → f5p, range → f5q, mem_cons → f5r, nodup_append → f5s, eq_nil_of_length_eq_zero → f5t, length_append → f5u, mem_of_getElem? → f5w, getD_eq_getElem?_getD → f5x, drop_eq_getElem_cons → f5z, getElem?_append_right → f5A, append_assoc → f5B, take_length → f5C, getElem?_set_ne → f5D, getElem?_append_left → f5E, drop_eq_nil_of_le → f5F, length_take → f5G, flatten_cons → f5L, take_succ_eq_append_getElem → f5N, getElem?_eq_none → f5O, map_cons → f5Q, append_nil → f5S, take_zero → f5T, any_eq_false → f5U, take_of_length_le → f5V, take_append_of_le_length → f5W, pairwise_iff_getElem → f5X, length_map → f5Y, mem_replicate → f5Z, findIdx?_eq_some_iff_getElem → f6a, nil_append → f6b, take_append_drop → f6e, getElem_of_mem → f6g, mem_flatten → f6h, getElem?_map → f6i, mem_of_mem_drop → f6j, mem_of_mem_take → f6k, getElem?_set_self → f6l, length_cons → f6n, length_singleton → f6o, getElem?_cons_zero → f6p, drop_zero → f6q, mem_take_iff_getElem → f6t, mem_range → f6u, map_append → f6v, getElem?_cons_succ → f6w, pairwise_cons → f6z, length_set → f6B, nodup_cons → f6C, any_eq_true → f6E, mem_append_left → f6G, getElem?_set → f6H, getElem?_drop → f6K, getElem?_take → f6L, find?_cons → f6N, length_nil → f6O, all_eq_false → f6Q, sublist_append_right → f6S, getElem?_of_mem → f6T, pairwise_append → f6U, Perm → f6W, drop_drop → f6X, cons_append → f6Z, getElem_map → f7a, take_succ_cons → f7b, replicate_succ → f7c, foldl_cons → f7d, drop_append_of_le_length → f7e, size_toArray → f7f, toArray → f7g, map_map → f7h, Sublist → f7i, set_getElem_self → f7j, length_replicate → f7l, getElem?_append → f7m, not_mem_nil → f7n, drop_length → f7p, mem_cons_of_mem → f7q, any_cons → f7r, flatten_append → f7s, findIdx?_eq_none_iff → f7t, mem_of_find?_eq_some → f7u, find?_eq_none → f7v, foldl_nil → f7x
open Bool renaming and_eq_true → f5m, not_true → f5n, true_and → f5v, not_false → f5J, false_or → f5R, not_eq_true' → f6c, or_eq_false_iff → f6s, false_eq_true → f6y, and_true → f6A, eq_iff_iff → f6P, and_assoc → f6Y, true_or → f7k, not_not → f7w
open Nat renaming le_refl → f5y, mul_le_mul_right → f5M, eq_of_beq_eq_true → f5P, zero_add → f6m, succ_mul → f6r, lt_of_lt_of_le → f6F, le_mul_of_pos_right → f6I, add_zero → f6M, le_succ_of_le → f6R, zero_le → f6V
open Int renaming le_refl → f5H, toNat_natCast → f5I, tmod → f5K, le_trans → f6d, tdiv → f7o
open Option.some renaming inj → f6f
noncomputable section
def e1t(s_:u0)(own:q8)(g7:List m9)(v109:Int)(done2:q8):((List q8)×Bool)->KS:=fun (dones3,put2)=>⟨R3.k 17 [false,false,false,true,true,true],(bs 4 (.ptr 1 0 0::(bs 1 (.ptr 2 0 0::(bs 2 (.ptr 4 0 0::(.own 5 0 4 0 dones3.length::(.b put2::(bs 1 (.ptr 6 0 0::(bs 93 (j9 4 B7 s_.i8::(vi (s_.i8.length:Int)::(vi v109::(bs 42 []))))))))))))))),[some [],some [.var 89 [vi 0,.nil,.nil]],some [.var 89 [vi (m8 (s_.At+1)),.own 3 0 2 0 g7.length,.nil]],some [m6 140 2 x7 g7],some [.var 174 [vi own.a0.b9,vi own.a0.Seq,vi own.Code,vi own.d9]],some [m6 174 4 B7 dones3],some [.var 174 [vi done2.a0.b9,vi done2.a0.Seq,vi done2.Code,vi done2.d9]]]⟩
def f4X(s_:u0)(own:q8)(g7:List m9)(v109:Int)(put2:Bool):(List q8)->KS:=fun b29=>⟨R3.k 19 [false,false,false,true,true,true,true],(bs 4 (.ptr 1 0 0::(bs 1 (.ptr 2 0 0::(bs 2 (.ptr 4 0 0::(.own 5 0 4 0 b29.length::(.b put2::(bs 95 (j9 4 B7 s_.i8::(vi (s_.i8.length:Int)::(vi v109::(bs 42 []))))))))))))),[some [],some [.var 89 [vi 0,.nil,.nil]],some [.var 89 [vi (m8 (s_.At+1)),.own 3 0 2 0 g7.length,.nil]],some [m6 140 2 x7 g7],some [.var 174 [vi own.a0.b9,vi own.a0.Seq,vi own.Code,vi own.d9]],some [m6 174 4 B7 b29]]⟩
def c1I(v109:Int)(put2:Bool)(b29:List q8):Option (l7 (u0×Int) ((List q8)×Int×Bool) ((List q8)×Bool)) :=
 some (l7.nxt (b29,m8 (v109+1),put2))
theorem d7O(s_ own g7 v109 put2)(lc:H2 R3 (b7s s_ own g7) (c5D s_ own g7)):NL lc (f4X s_ own g7 v109 put2) (fun s=>c1I v109 put2 s):=fun b29 h=>PK<|rg<|(lc.nx h fun hI=>sk [] [4,6,9,10,11,107,108,109] [(1,0),(2,0),(3,0),(4,0),(5,0)] hI)
def c5b(own:q8)(v109:Int)(done2:q8)(dones3:List q8)(put2:Bool):Option (l7 (u0×Int) ((List q8)×Int×Bool) ((List q8)×Bool)) :=
 (((bif (done2.a0.b9 != own.a0.b9) then (t5 ((dones3.length+1)*32<=140737488355328) (some (l9.brk (dones3++[done2])))) else some (l9.brk dones3)):Option (l9 (l7 (u0×Int) ((List q8)×Int×Bool) ((List q8)×Bool)) (List q8))).bind fun x=>x.go some fun j=>c1I v109 put2 j)
theorem d70(s_ own g7 v109 done2)(lc:H2 R3 (b7s s_ own g7) (c5D s_ own g7)):NL lc (e1t s_ own g7 v109 done2) (fun s=>c5b own v109 done2 s.1 s.2):=fun (dones3,put2) h=>PK<|A7 h (d7O s_ own g7 v109 put2 lc) fun x2 h hc2=>rg<|j5 6 h (fun h=>rg<|tk 2 []<|t8 h fun e2 h=>F6 3 17 174 4 32 B7 dones3 done2 e2<|E4 done2<|(p7 h hc2 fun hI=>sk [] [4,6,9,10,11,107,108,109] [(1,0),(2,0),(3,0),(4,0),(17,0)] hI)) (fun h=>(p7 h hc2 fun hI=>sk [] [4,6,9,10,11,107,108,109] [(1,0),(2,0),(3,0),(4,0),(5,0)] hI))
def b1U(s_:u0)(own:q8)(dones:List q8)(v109:Int)(put:Bool):Option (l7 (u0×Int) ((List q8)×Int×Bool) ((List q8)×Bool)) :=
 (bif decide (v109<(s_.i8.length:Int)) then ((idx s_.i8 v109).bind fun done2=>(((bif (!put) then (bif decide (done2.a0.b9>=own.a0.b9) then (t5 ((dones.length+1)*32<=140737488355328) (some (l9.brk (dones++[own],true)))) else some (l9.brk (dones,put))) else some (l9.brk (dones,put))):Option (l9 (l7 (u0×Int) ((List q8)×Int×Bool) ((List q8)×Bool)) ((List q8)×Bool))).bind fun x=>x.go some fun j=>c5b own v109 done2 j.1 j.2)) else some (l7.brk (dones,put)))
theorem d9e(s_ own g7):LQ R3 (b7s s_ own g7) (c5D s_ own g7) (fun s=>b1U s_ own s.1 s.2.1 s.2.2):=fun lc (dones,v109,put) h=>PK<|rg<|j5 0 h (fun h=>rg<|v5 B7 0 h fun done2 f5b h=>A7 h (d70 s_ own g7 v109 done2 lc) fun x2 h hc2=>rg<|j5 2 h (fun h=>j5 10 h (fun h=>rg<|tk 2 []<|t8 h fun e3 h=>F6 3 25 174 4 32 B7 dones own e3<|E4 own<|rg<|(p7 h hc2 fun hI=>sk [] [4,6,9,10,11,13,107,108,109] [(1,0),(2,0),(3,0),(4,0),(25,0),(9,0)] hI)) (fun h=>(p7 h hc2 fun hI=>sk [] [4,6,9,10,11,13,107,108,109] [(1,0),(2,0),(3,0),(4,0),(5,0),(9,0)] hI))) (fun h=>(p7 h hc2 fun hI=>sk [] [4,6,9,10,11,13,107,108,109] [(1,0),(2,0),(3,0),(4,0),(5,0),(9,0)] hI))) (fun h=>(lc.bk h fun hI=>sk [] [4,6,9,10,11] [(1,0),(2,0),(3,0),(4,0),(5,0)] hI))
def b9x(s_:u0)(own:q8)(g7:List m9):Option (u0×Int) :=
 ((p8 (fun s:(List q8)×Int×Bool=>b1U s_ own s.1 s.2.1 s.2.2) ([],0,false)).bind fun x=>x.go (fun r=>some r) fun s=>c2s s_ own g7 s.1 s.2)
theorem e2E(s_)(r):NF R3 r (e9W s_) (fun s=>b9x s_ s.1 s.2):=fun (own,g7) h=>PK<|N1<|lp (d9e s_ own g7) h (fun _ h=>R3.rt h) (f08 s_ own g7 r) fun hI=>sk [.own (.tmp 10) 174 4] [4,6,9,10,11,107,108,109] [(2,0),(3,0),(4,0),(5,0),(12,0)] hI
def b7e(s_:u0)(e_:m4)(box:List m9):Option (u0×Int) :=
 ((((b5V s_.g7 e_.b7).bind fun a7l=>(bif (!a7l) then some (l9.brk ((q8.mk e_.a0 1 0),box)) else (bif (e_.b7.Code != 0) then some (l9.brk ((q8.mk e_.a0 2 0),box)) else ((b2k s_.g7 e_.b7).bind fun b0m=>some (l9.brk ((q8.mk e_.a0 0 e_.b7.d9),b0m)))))):Option (l9 (u0×Int) (q8×List m9))).bind fun x=>x.go some fun j=>b9x s_ j.1 j.2)
theorem e5t(s_ e_ box)(r):NF R3 r (c2A s_ e_ box) (fun s=>b7e s_ e_ box):=fun _ h=>PK<|rg<|A7 h (e2E s_ r) fun x1 h hc1=>rg<|j8 a8b e44 4 h fun a7l h=>j5 6 h (fun h=>rg<|(p7 h hc1 fun hI=>sk [] [2,4,6,9] [(1,0),(3,0),(4,0),(5,0),(9,0)] hI)) (fun h=>rg<|j5 4 h (fun h=>rg<|(p7 h hc1 fun hI=>sk [] [2,4,6,9] [(1,0),(3,0),(4,0),(5,0),(9,0)] hI)) (fun h=>n9<|j8 a5M c9o 4 h fun b0m h=>(p7 h hc1 fun hI=>sk [] [2,4,6,9] [(1,0),(3,0),(4,0),(32,0),(9,0)] hI)))
def c8x(s_:u0)(e_:m4)(box:List m9):Int->KS:=fun v45=>⟨R3.k 5 [false,false],(bs 2 (.ptr 1 0 0::(.ptr 2 0 0::(.ptr 3 0 0::(bs 1 (.ptr 4 0 0::(bs 36 (j9 4 B7 s_.i8::(vi (s_.i8.length:Int)::(vi v45::(bs 106 []))))))))))),[some [],some [.var 89 [vi s_.At,j9 2 x7 s_.g7,j9 4 B7 s_.i8]],some [.var 56 (a5d e_)],some [.var 89 [vi 0,.nil,.nil]],some [.var 89 [vi (m8 (s_.At+1)),.own 5 0 2 0 box.length,.nil]],some [m6 140 2 x7 box]]⟩
def f01(s_:u0)(e_:m4)(box:List m9)(v45:Int):Unit->KS:=fun _=>⟨R3.k 8 [false,false,true,false],(bs 2 (.ptr 1 0 0::(.ptr 2 0 0::(.ptr 3 0 0::(bs 1 (.ptr 4 0 0::(bs 36 (j9 4 B7 s_.i8::(vi (s_.i8.length:Int)::(vi v45::(bs 106 []))))))))))),[some [],some [.var 89 [vi s_.At,j9 2 x7 s_.g7,j9 4 B7 s_.i8]],some [.var 56 (a5d e_)],some [.var 89 [vi 0,.nil,.nil]],some [.var 89 [vi (m8 (s_.At+1)),.own 5 0 2 0 box.length,.nil]],some [m6 140 2 x7 box]]⟩
def c4f(v45:Int):Option (l7 (u0×Int) Int Unit) :=
 some (l7.nxt (m8 (v45+1)))
theorem e53(s_ e_ box v45)(lc:H2 R3 (c2A s_ e_ box) (c8x s_ e_ box)):NL lc (f01 s_ e_ box v45) (fun s=>c4f v45):=fun _ h=>PK<|rg<|(lc.nx h fun hI=>sk [] [2,3,4,6,43,44,45] [(1,0),(2,0),(3,0),(4,0),(5,0)] hI)
def b5j(s_:u0)(e_:m4)(box:List m9)(v45:Int):Option (l7 (u0×Int) Int Unit) :=
 (bif decide (v45<(s_.i8.length:Int)) then ((idx s_.i8 v45).bind fun b7d=>(((bif (b7d.a0.b9==e_.a0.b9) then (bif decide (b7d.a0.Seq>=e_.a0.Seq) then ((a7g s_.i8).bind fun b3i=>(bif (b7d.a0.Seq==e_.a0.Seq) then some (l9.ret (l7.ret ((u0.mk (m8 (s_.At+1)) box b3i),3))) else some (l9.ret (l7.ret ((u0.mk (m8 (s_.At+1)) box b3i),4))))) else some (l9.brk ())) else some (l9.brk ())):Option (l9 (l7 (u0×Int) Int Unit) Unit)).bind fun x=>x.go some fun j=>c4f v45)) else some (l7.brk ()))
theorem e5R(s_ e_ box):LQ R3 (c2A s_ e_ box) (c8x s_ e_ box) (fun s=>b5j s_ e_ box s):=fun lc v45 h=>PK<|rg<|j5 0 h (fun h=>rg<|v5 B7 0 h fun b7d f5f h=>A7 h (e53 s_ e_ box v45 lc) fun x2 h hc2=>rg<|j5 7 h (fun h=>j5 15 h (fun h=>rg<|j8 b37 c2L 2 h fun b3i h=>rg<|j5 6 h (fun h=>rg<|(C1 h hc2 fun h=>C7 box b3i<|fL lc h)) (fun h=>rg<|(C1 h hc2 fun h=>C7 box b3i<|fL lc h))) (fun h=>(p7 h hc2 fun hI=>sk [] [2,3,4,6,43,44,45] [(1,0),(2,0),(3,0),(4,0),(5,0)] hI))) (fun h=>(p7 h hc2 fun hI=>sk [] [2,3,4,6,43,44,45] [(1,0),(2,0),(3,0),(4,0),(5,0)] hI))) (fun h=>(lc.bk h fun hI=>sk [] [2,3,4,6] [(1,0),(2,0),(3,0),(4,0),(5,0)] hI))
def b55(s_:u0)(e_:m4):Option (u0×Int) :=
 ((b7m s_).bind fun d3C=>(bif (!d3C) then some ((u0.mk 0 [] []),(-1)) else ((a1u e_).bind fun E5=>(bif (!E5) then some ((u0.mk 0 [] []),(-1)) else (bif (s_.At==40) then some ((u0.mk 0 [] []),(-1)) else ((a78 s_.g7).bind fun box=>(bif e_.i7 then ((a7g s_.i8).bind fun done=>some ((u0.mk (m8 (s_.At+1)) box done),5)) else ((p8 (fun s:Int=>b5j s_ e_ box s) 0).bind fun x=>x.go (fun r=>some r) fun s=>b7e s_ e_ box))))))))
theorem e22{s_ e_}:OK R3 [.agg (a7X s_),.agg (s7 e_)] (b55 s_ e_) :=
 o7 _ fun r h=>n9<|j8 a4S e6v 1 h fun d3C h=>j5 3 h (fun h=>rg<|fE h) (fun h=>j8 a2J a4n 5 h fun E5 h=>j5 8 h (fun h=>rg<|fE h) (fun h=>j5 12 h (fun h=>rg<|fE h) (fun h=>rg<|j8 b7F c0z 5 h fun box h=>rg<|j5 1 h (fun h=>rg<|j8 b37 c2L 2 h fun done h=>rg<|C7 box done<|fE h) (fun h=>rg<|lp (e5R s_ e_ box) h (fun _ h=>R3.rt h) (e5t s_ e_ box r) fun hI=>sk [] [2,3,4,6,43,44,45] [(1,0),(2,0),(3,0),(25,0),(23,0)] hI))))
def a2I:FS (u0×List Int):=⟨42,Tryz.f42,[.val [none,some 2,some 4] [none,some 140,some 174],.val [some 1] [some 3]],[none],[.val [some 7] []],fun r=>.tup [.agg (b4Y r.1),u9 3 1 eI r.2],fun _=>[none],Tryz.func42⟩
def d6C:((List m9)×(List q8)×(List Int)×Int)->KS:=fun (Boxes1,Dones1,codes1,sAt1)=>⟨a2I.k 5 [false],(bs 2 (.ptr 1 0 0::(bs 1 (.ptr 2 0 0::(.own 5 0 1 0 codes1.length::(bs 25 [])))))),[some [],some [.var 89 [vi 0,.nil,.nil]],some [.var 89 [vi sAt1,.own 3 0 2 0 Boxes1.length,.own 4 0 4 0 Dones1.length]],some [m6 140 2 x7 Boxes1],some [m6 174 4 B7 Dones1],some [m6 3 1 eI codes1]]⟩
def d5r(Boxes1:List m9)(Dones1:List q8)(codes1:List Int)(sAt1:Int):Option (u0×List Int) :=
 some ((u0.mk sAt1 Boxes1 Dones1),codes1)
theorem f4l(r):NF a2I r d6C (fun s=>d5r s.1 s.2.1 s.2.2.1 s.2.2.2):=fun (Boxes1,Dones1,codes1,sAt1) h=>PK<|rg<|W7 Boxes1 Dones1 codes1<|fE h
def e40(list:List m4):((List m9)×(List q8)×(List Int)×Int×Int)->KS:=fun (g7,i8,codes,v13,sAt)=>⟨a2I.k 4 [],(bs 2 (.ptr 1 0 0::(bs 1 (.ptr 2 0 0::(.own 5 0 1 0 codes.length::(bs 5 (j9 7 s7 list::(vi (list.length:Int)::(vi v13::(bs 17 [])))))))))),[some [],some [.var 89 [vi 0,.nil,.nil]],some [.var 89 [vi sAt,.own 3 0 2 0 g7.length,.own 4 0 4 0 i8.length]],some [m6 140 2 x7 g7],some [m6 174 4 B7 i8],some [m6 3 1 eI codes]]⟩
def a1k(list:List m4)(g7:List m9)(i8:List q8)(codes:List Int)(v13:Int)(sAt:Int):Option (l7 (u0×List Int) ((List m9)×(List q8)×(List Int)×Int×Int) ((List m9)×(List q8)×(List Int)×Int)) :=
 (bif decide (v13<(list.length:Int)) then ((idx list v13).bind fun entry=>((b55 (u0.mk sAt g7 i8) entry).bind fun a7q=>(t5 ((codes.length+1)*8<=140737488355328) (some (l7.nxt (a7q.1.g7,a7q.1.i8,codes++[a7q.2],m8 (v13+1),a7q.1.At)))))) else some (l7.brk (g7,i8,codes,sAt)))
theorem e5y(list):LQ a2I d6C (e40 list) (fun s=>a1k list s.1 s.2.1 s.2.2.1 s.2.2.2.1 s.2.2.2.2):=fun lc (g7,i8,codes,v13,sAt) h=>PK<|rg<|j5 0 h (fun h=>rg<|v5 s7 0 h fun entry F8 h=>rg<|cbS R3 e22 2 (fun _=>(by simp [R3,K2,R6,N6,V.simple,vi,u9,b4Y,x7,B7,eI,E6,a7X])) (fun _=>(O9 2)) h fun a7q h=>C7 g7 i8<|n9<|tk 2 []<|t8 h fun e1 h=>F6 3 25 3 1 8 eI codes a7q.2 e1<|E4 a7q.2<|rg<|(lc.nx h fun hI=>sk [] [2,4,5,11,12,13] [(1,0),(2,0),(13,0),(13,1),(25,0)] hI)) (fun h=>(lc.bk h fun hI=>sk [] [2,4,5] [(1,0),(2,0),(3,0),(4,0),(5,0)] hI))
def a8y(list:List m4):Option (u0×List Int) :=
 ((b9u).bind fun Q0=>((p8 (fun s:(List m9)×(List q8)×(List Int)×Int×Int=>a1k list s.1 s.2.1 s.2.2.1 s.2.2.2.1 s.2.2.2.2) (Q0.g7,Q0.i8,[],0,Q0.At)).bind fun x=>x.go (fun r=>some r) fun s=>d5r s.1 s.2.1 s.2.2.1 s.2.2.2))
theorem b8Z{list}:OK a2I [j9 7 s7 list] (a8y list) :=
 o7 _ fun r h=>n9<|j8 c6O d7m 0 h fun Q0 h=>n9<|lp (e5y list) h (fun _ h=>a2I.rt h) (f4l r) fun hI=>sk [.own (.tmp 5) 3 1] [2,4,5,11,12,13] [(1,0),(4,0),(3,0),(3,1),(10,0)] hI
def c5F:FS (u0):=⟨40,Tryz.f40,[.val [none,some 2,some 4] [none,some 140,none]],[none],[.val [some 7] []],fun r=>.agg (b1R r),fun _=>[none],Tryz.func40⟩
def b1T(list:List m4):Option u0 :=
 ((b1v list).bind fun G0=>(bif (!G0) then some (u0.mk 0 [] []) else ((a8y list).bind fun o8=>some o8.1)))
theorem c8h{list}:OK c5F [j9 7 s7 list] (b1T list) :=
 o7 _ fun r h=>n9<|j8 a5g c50 1 h fun G0 h=>j5 2 h (fun h=>rg<|fE h) (fun h=>rg<|j8 a2I b8Z 1 h fun o8 h=>rg<|C7 o8.1.g7 o8.1.i8<|fE h)
def d6H:FS (u0):=⟨169,Tryz.f169,[.val [none,some 2,some 4] []],[none],[.val B0 []],fun r=>.agg (a7X r),fun _=>[none],Tryz.func169⟩
def b6d(n:j6):Option u0 :=
 ((a4s n).bind fun D8=>(bif (!D8) then some (u0.mk 0 [] []) else ((b1T n.a5).bind fun a0A=>some a0A)))
theorem d8y{n}:OK d6H [.agg (A6 n)] (b6d n) :=
 o7 _ fun r h=>n9<|j8 a0J a8U 1 h fun D8 h=>j5 2 h (fun h=>rg<|fE h) (fun h=>rg<|j8 c5F c8h 2 h fun a0A h=>s6 a0A.g7<|fE h)
def a6F:FS (Int):=⟨202,Tryz.f202,[.val [] []],[none,none],[.val O2 [],.val [] []],fun r=>vi r,fun _=>[none,none],Tryz.func202⟩
def c6Q:Unit->KS:=fun _=>⟨a6F.k 3 [false],(bs 21 []),[some []]⟩
def c86:Option Int :=
 some (-1)
theorem e8w(r):NF a6F r c6Q (fun s=>c86):=fun _ h=>PK<|rg<|fE h
def e4z(r_:n6)(box:Int):Int->KS:=fun v10=>⟨a6F.k 2 [],(bs 1 (vi box::(bs 6 (j9 2 w8 r_.b6::(vi (r_.b6.length:Int)::(vi v10::(bs 10 []))))))),[some []]⟩
def b2h(r_:n6)(box:Int)(v10:Int):Option (l7 Int Int Unit) :=
 (bif decide (v10<(r_.b6.length:Int)) then ((idx r_.b6 v10).bind fun put=>(bif (put.i5==box) then some (l7.ret v10) else some (l7.nxt (m8 (v10+1))))) else some (l7.brk ()))
theorem e9C(r_ box):LQ a6F c6Q (e4z r_ box) (fun s=>b2h r_ box s):=fun lc v10 h=>PK<|rg<|j5 0 h (fun h=>rg<|v5 w8 1 h fun put hput h=>rg<|j5 3 h (fun h=>rg<|fL lc h) (fun h=>rg<|(lc.nx h fun hI=>sk [] [1,8,9,10] [] hI))) (fun h=>(lc.bk h fun hI=>sk [] [] [] hI))
def b3q(r_:n6)(box:Int):Option Int :=
 ((p8 (fun s:Int=>b2h r_ box s) 0).bind fun x=>x.go (fun r=>some r) fun s=>c86)
theorem c6r{r_ box}:OK a6F [.agg (Q7 r_),vi box] (b3q r_ box) :=
 o7 _ fun r h=>n9<|lp (e9C r_ box) h (fun _ h=>a6F.rt h) (e8w r) fun hI=>sk [] [1,8,9,10] [] hI
def a7W:FS (Int):=⟨203,Tryz.f203,[.val [] []],[none,none],[.val O2 [],.val [] []],fun r=>vi r,fun _=>[none,none],Tryz.func203⟩
def c8S:Unit->KS:=fun _=>⟨a7W.k 3 [false],(bs 21 []),[some []]⟩
def d41:Option Int :=
 some (-1)
theorem d8G(r):NF a7W r c8S (fun s=>d41):=fun _ h=>PK<|rg<|fE h
def f0g(r_:n6)(box:Int):Int->KS:=fun v10=>⟨a7W.k 2 [],(bs 1 (vi box::(bs 6 (j9 2 v6 r_.b5::(vi (r_.b5.length:Int)::(vi v10::(bs 10 []))))))),[some []]⟩
def b2P(r_:n6)(box:Int)(v10:Int):Option (l7 Int Int Unit) :=
 (bif decide (v10<(r_.b5.length:Int)) then ((idx r_.b5 v10).bind fun read=>(bif (read.i5==box) then some (l7.ret v10) else some (l7.nxt (m8 (v10+1))))) else some (l7.brk ()))
theorem e8A(r_ box):LQ a7W c8S (f0g r_ box) (fun s=>b2P r_ box s):=fun lc v10 h=>PK<|rg<|j5 0 h (fun h=>rg<|v5 v6 1 h fun read a3D h=>rg<|j5 3 h (fun h=>rg<|fL lc h) (fun h=>rg<|(lc.nx h fun hI=>sk [] [1,8,9,10] [] hI))) (fun h=>(lc.bk h fun hI=>sk [] [] [] hI))
def b3n(r_:n6)(box:Int):Option Int :=
 ((p8 (fun s:Int=>b2P r_ box s) 0).bind fun x=>x.go (fun r=>some r) fun s=>d41)
theorem e3t{r_ box}:OK a7W [.agg (Q7 r_),vi box] (b3n r_ box) :=
 o7 _ fun r h=>n9<|lp (e8A r_ box) h (fun _ h=>a7W.rt h) (d8G r) fun hI=>sk [] [1,8,9,10] [] hI
def Q5:FS (n6):=⟨152,Tryz.f152,[.val O2 []],[none,none],[.val [some 2] [],.val [some 4] []],fun r=>.agg (Q7 r),fun _=>[none,none],Tryz.func152⟩
def a8x:((List r9)×(List p6)×(List Int)×(List r9)×List p6)->KS:=fun (Reads2,Puts2,regs1,Reads3,Puts3)=>⟨Q5.k 6 [false,false],(bs 4 (.ptr 1 0 0::(.ptr 4 0 0::(.ptr 5 0 0::(bs 175 []))))),[some [],some [.var 54 [.own 2 0 2 0 Reads2.length,.own 3 0 2 0 Puts2.length,vi 0,vi 0]],some [m6 192 2 v6 Reads2],some [m6 195 2 w8 Puts2],some [.arr 203 1 4 (regs1.map eI)],some [.var 54 [.own 6 0 2 0 Reads3.length,.own 7 0 2 0 Puts3.length,vi 0,vi 0]],some [m6 192 2 v6 Reads3],some [m6 195 2 w8 Puts3]]⟩
def b3r(Reads2:List r9)(Puts2:List p6)(regs1:List Int)(Reads3:List r9)(Puts3:List p6):Option n6 :=
 ((a25 Reads3).bind fun read=>((a7x Puts3).bind fun put=>((idx regs1 0).bind fun y=>(t5 ((0:Int)<4) (some (n6.mk read put y 0))))))
theorem d7M(r):NF Q5 r a8x (fun s=>b3r s.1 s.2.1 s.2.2.1 s.2.2.2.1 s.2.2.2.2):=fun (Reads2,Puts2,regs1,Reads3,Puts3) h=>PK<|rg<|cbS a2e b0B 2 (fun _=>(by simp [a2e,K2,R6,N6,V.simple,vi,u9,eI,v6])) (fun _=>(O9 1)) h fun read h=>s6 Reads3<|cbS b9U d0a 5 (fun _=>(by simp [b9U,K2,R6,N6,V.simple,vi,u9,eI,w8])) (fun _=>(O9 1)) h fun put h=>s6 Puts3<|A9 h fun y hy h=>t8 h fun e1 h=>ob (N9 hy)<|ob e1<|ob (U7 (enc:=eI) hy)<|tl (tr 7 (eI y))<|C7 read put<|fE h
def b1q(list:List m9)(prog:List n8):((List Int)×(List r9)×(List p6)×(List r9)×(List p6)×Int)->KS:=fun (regs,b5,b6,Reads1,Puts1,at_)=>⟨Q5.k 5 [false],(j9 2 x7 list::(j9 4 A0 prog::(bs 2 (.ptr 1 0 0::(.ptr 2 0 0::(.ptr 3 0 0::(vi at_::(bs 174 [])))))))),[some [],some [.var 54 [.own 4 0 2 0 b5.length,.own 5 0 2 0 b6.length,vi 0,vi 0]],some [.arr 203 1 4 (regs.map eI)],some [.var 54 [.own 6 0 2 0 Reads1.length,.own 7 0 2 0 Puts1.length,vi 0,vi 0]],some [m6 192 2 v6 b5],some [m6 195 2 w8 b6],some [m6 192 2 v6 Reads1],some [m6 195 2 w8 Puts1]]⟩
def c9l(list:List m9)(prog:List n8)(regs:List Int)(b5:List r9)(b6:List p6)(Reads1:List r9)(Puts1:List p6)(at_:Int)(ins:n8)(put1:p6):Unit->KS:=fun _=>⟨Q5.k 14 [false,true,true,true,false],(j9 2 x7 list::(j9 4 A0 prog::(bs 2 (.ptr 1 0 0::(.ptr 4 0 0::(.ptr 5 0 0::(vi at_::(bs 174 [])))))))),[some [],some [.var 54 [.own 2 0 2 0 b5.length,.own 3 0 2 0 b6.length,vi 0,vi 0]],some [m6 192 2 v6 b5],some [m6 195 2 w8 b6],some [.arr 203 1 4 ((regs.set ins.A.toNat put1.d9).map eI)],some [.var 54 [.own 6 0 2 0 Reads1.length,.own 7 0 2 0 Puts1.length,vi 0,vi 0]],some [m6 192 2 v6 Reads1],some [m6 195 2 w8 Puts1]]⟩
def c4U(regs:List Int)(b5:List r9)(b6:List p6)(Reads1:List r9)(Puts1:List p6)(at_:Int)(ins:n8)(put1:p6):Option (l7 n6 ((List Int)×(List r9)×(List p6)×(List r9)×(List p6)×Int) ((List r9)×(List p6)×(List Int)×(List r9)×List p6)) :=
 some (l7.nxt (regs.set ins.A.toNat put1.d9,b5,b6,Reads1,Puts1,m8 (at_+1)))
theorem f1U(list prog regs b5 b6 Reads1 Puts1 at_ ins put1)(lc:H2 Q5 a8x (b1q list prog)):NL lc (c9l list prog regs b5 b6 Reads1 Puts1 at_ ins put1) (fun s=>c4U regs b5 b6 Reads1 Puts1 at_ ins put1):=fun _ h=>PK<|rg<|(lc.nx h fun hI=>sk [] [0,1,4,5,6,7] [(1,0),(4,0),(5,0),(2,0),(3,0),(6,0),(7,0)] hI)
def f4J(list:List m9)(prog:List n8)(regs:List Int)(b5:List r9)(b6:List p6)(Reads1:List r9)(Puts1:List p6)(at_:Int)(ins:n8)(put1:p6):Int->KS:=fun a6z=>⟨Q5.k 13 [false,true,true,true],(j9 2 x7 list::(j9 4 A0 prog::(bs 2 (.ptr 1 0 0::(.ptr 4 0 0::(.ptr 5 0 0::(vi at_::(bs 153 (.agg ((regs.set ins.A.toNat put1.d9).map eI).flatten::(vi a6z::(bs 19 []))))))))))),[some [],some [.var 54 [.own 2 0 2 0 b5.length,.own 3 0 2 0 b6.length,vi 0,vi 0]],some [m6 192 2 v6 b5],some [m6 195 2 w8 b6],some [.arr 203 1 4 ((regs.set ins.A.toNat put1.d9).map eI)],some [.var 54 [.own 6 0 2 0 Reads1.length,.own 7 0 2 0 Puts1.length,vi 0,vi 0]],some [m6 192 2 v6 Reads1],some [m6 195 2 w8 Puts1]]⟩
def b2y(regs:List Int)(Reads1:List r9)(ins:n8)(put1:p6)(a6z:Int):Option (l7 n6 Int Unit) :=
 (bif decide (a6z<4) then ((idx (regs.set ins.A.toNat put1.d9) a6z).bind fun y2=>(t5 (a6z<4) (((D4 y2 (-1000000) 1000000).bind fun in_=>(bif (!in_) then ((a25 Reads1).bind fun U1=>some (l7.ret (n6.mk U1 [] 0 2))) else some (l7.nxt (m8 (a6z+1)))))))) else some (l7.brk ()))
theorem f2r(list prog regs b5 b6 Reads1 Puts1 at_ ins put1):LQ Q5 (c9l list prog regs b5 b6 Reads1 Puts1 at_ ins put1) (f4J list prog regs b5 b6 Reads1 Puts1 at_ ins put1) (fun s=>b2y regs Reads1 ins put1 s):=fun lc a6z h=>PK<|rg<|j5 0 h (fun h=>rg<|A9 h fun y2 hy2 h=>t8 h fun e3 h=>ob (N9 hy2)<|ob e3<|om (((regs.set ins.A.toNat put1.d9).map eI).flatten[a6z.toNat]?=some (vi y2)) (c27 (fun _=>rfl) hy2)<|tl (0,{a:=.val (vi y2)})<|rg<|j8 D1 F4 1 h fun in_ h=>j5 2 h (fun h=>rg<|cbS a2e b0B 2 (fun _=>(by simp [a2e,K2,R6,N6,V.simple,vi,u9,eI,v6])) (fun _=>(O9 1)) h fun U1 h=>C7 Reads1 U1<|fL lc h) (fun h=>rg<|(lc.nx h fun hI=>om (V.agg (((regs.set ins.A.toNat put1.d9).map eI).flatten.map (W6 [(1,0),(2,0),(3,0),(4,0),(5,0),(6,0),(7,0)]))=.agg ((regs.set ins.A.toNat put1.d9).map eI).flatten) (congrArg V.agg (a7y (fun _=>rfl) _))<|skT [] [0,1,4,5,6,7,161,162] [(1,0),(2,0),(3,0),(4,0),(5,0),(6,0),(7,0)] [(161,.agg ((regs.set ins.A.toNat put1.d9).map eI).flatten)] hI))) (fun h=>(lc.bk h fun hI=>sk [] [0,1,4,5,6,7] [(1,0),(2,0),(3,0),(4,0),(5,0),(6,0),(7,0)] hI))
def f2d(list:List m9)(prog:List n8)(regs:List Int)(b5:List r9)(b6:List p6)(Puts1:List p6)(at_:Int)(ins:n8):(List r9)->KS:=fun Reads4=>⟨Q5.k 13 [false,true,true,false,true],(j9 2 x7 list::(j9 4 A0 prog::(bs 2 (.ptr 1 0 0::(.ptr 4 0 0::(.ptr 5 0 0::(vi at_::(.ptr 8 0 0::(bs 173 []))))))))),[some [],some [.var 54 [.own 2 0 2 0 b5.length,.own 3 0 2 0 b6.length,vi 0,vi 0]],some [m6 192 2 v6 b5],some [m6 195 2 w8 b6],some [.arr 203 1 4 (regs.map eI)],some [.var 54 [.own 6 0 2 0 Reads4.length,.own 7 0 2 0 Puts1.length,vi 0,vi 0]],some [m6 192 2 v6 Reads4],some [m6 195 2 w8 Puts1],some [.var 115 [vi ins.a8,vi ins.A,vi ins.B,vi ins.N]]]⟩
def d0H(list:List m9)(prog:List n8)(regs:List Int)(b5:List r9)(b6:List p6)(Puts1:List p6)(at_:Int)(ins:n8)(Reads4:List r9)(box:m9):Unit->KS:=fun _=>⟨Q5.k 16 [false,true,true,false,true,false],(j9 2 x7 list::(j9 4 A0 prog::(bs 2 (.ptr 1 0 0::(.ptr 4 0 0::(.ptr 5 0 0::(vi at_::(bs 174 [])))))))),[some [],some [.var 54 [.own 2 0 2 0 b5.length,.own 3 0 2 0 b6.length,vi 0,vi 0]],some [m6 192 2 v6 b5],some [m6 195 2 w8 b6],some [.arr 203 1 4 ((regs.set ins.A.toNat box.d9).map eI)],some [.var 54 [.own 6 0 2 0 Reads4.length,.own 7 0 2 0 Puts1.length,vi 0,vi 0]],some [m6 192 2 v6 Reads4],some [m6 195 2 w8 Puts1]]⟩
def b5Q(regs:List Int)(b5:List r9)(b6:List p6)(Puts1:List p6)(at_:Int)(ins:n8)(Reads4:List r9)(box:m9):Option (l7 n6 ((List Int)×(List r9)×(List p6)×(List r9)×(List p6)×Int) ((List r9)×(List p6)×(List Int)×(List r9)×List p6)) :=
 some (l7.nxt (regs.set ins.A.toNat box.d9,b5,b6,Reads4,Puts1,m8 (at_+1)))
theorem f2V(list prog regs b5 b6 Puts1 at_ ins Reads4 box)(lc:H2 Q5 a8x (b1q list prog)):NL lc (d0H list prog regs b5 b6 Puts1 at_ ins Reads4 box) (fun s=>b5Q regs b5 b6 Puts1 at_ ins Reads4 box):=fun _ h=>PK<|rg<|(lc.nx h fun hI=>sk [] [0,1,4,5,6,7] [(1,0),(4,0),(5,0),(2,0),(3,0),(6,0),(7,0)] hI)
def d86(list:List m9)(prog:List n8)(regs:List Int)(b5:List r9)(b6:List p6)(Puts1:List p6)(at_:Int)(ins:n8)(Reads4:List r9)(box:m9):Int->KS:=fun a6g=>⟨Q5.k 15 [false,true,true,false,true],(j9 2 x7 list::(j9 4 A0 prog::(bs 2 (.ptr 1 0 0::(.ptr 4 0 0::(.ptr 5 0 0::(vi at_::(bs 153 (.agg ((regs.set ins.A.toNat box.d9).map eI).flatten::(vi a6g::(bs 19 []))))))))))),[some [],some [.var 54 [.own 2 0 2 0 b5.length,.own 3 0 2 0 b6.length,vi 0,vi 0]],some [m6 192 2 v6 b5],some [m6 195 2 w8 b6],some [.arr 203 1 4 ((regs.set ins.A.toNat box.d9).map eI)],some [.var 54 [.own 6 0 2 0 Reads4.length,.own 7 0 2 0 Puts1.length,vi 0,vi 0]],some [m6 192 2 v6 Reads4],some [m6 195 2 w8 Puts1]]⟩
def b4s(regs:List Int)(ins:n8)(Reads4:List r9)(box:m9)(a6g:Int):Option (l7 n6 Int Unit) :=
 (bif decide (a6g<4) then ((idx (regs.set ins.A.toNat box.d9) a6g).bind fun y4=>(t5 (a6g<4) (((D4 y4 (-1000000) 1000000).bind fun in_1=>(bif (!in_1) then ((a25 Reads4).bind fun c1w=>some (l7.ret (n6.mk c1w [] 0 2))) else some (l7.nxt (m8 (a6g+1)))))))) else some (l7.brk ()))
theorem e6U(list prog regs b5 b6 Puts1 at_ ins Reads4 box):LQ Q5 (d0H list prog regs b5 b6 Puts1 at_ ins Reads4 box) (d86 list prog regs b5 b6 Puts1 at_ ins Reads4 box) (fun s=>b4s regs ins Reads4 box s):=fun lc a6g h=>PK<|rg<|j5 0 h (fun h=>rg<|A9 h fun y4 hy4 h=>t8 h fun e5 h=>ob (N9 hy4)<|ob e5<|om (((regs.set ins.A.toNat box.d9).map eI).flatten[a6g.toNat]?=some (vi y4)) (c27 (fun _=>rfl) hy4)<|tl (0,{a:=.val (vi y4)})<|rg<|j8 D1 F4 1 h fun in_1 h=>j5 2 h (fun h=>rg<|cbS a2e b0B 2 (fun _=>(by simp [a2e,K2,R6,N6,V.simple,vi,u9,eI,v6])) (fun _=>(O9 1)) h fun c1w h=>C7 Reads4 c1w<|fL lc h) (fun h=>rg<|(lc.nx h fun hI=>om (V.agg (((regs.set ins.A.toNat box.d9).map eI).flatten.map (W6 [(1,0),(2,0),(3,0),(4,0),(5,0),(6,0),(7,0)]))=.agg ((regs.set ins.A.toNat box.d9).map eI).flatten) (congrArg V.agg (a7y (fun _=>rfl) _))<|skT [] [0,1,4,5,6,7,161,162] [(1,0),(2,0),(3,0),(4,0),(5,0),(6,0),(7,0)] [(161,.agg ((regs.set ins.A.toNat box.d9).map eI).flatten)] hI))) (fun h=>(lc.bk h fun hI=>sk [] [0,1,4,5,6,7] [(1,0),(2,0),(3,0),(4,0),(5,0),(6,0),(7,0)] hI))
def b5A(list:List m9)(regs:List Int)(b5:List r9)(b6:List p6)(Puts1:List p6)(at_:Int)(ins:n8)(Reads4:List r9):Option (l7 n6 ((List Int)×(List r9)×(List p6)×(List r9)×(List p6)×Int) ((List r9)×(List p6)×(List Int)×(List r9)×List p6)) :=
 ((idx list ins.B).bind fun box=>((idx regs ins.A).bind fun y3=>(t5 (ins.A<4) (((p8 (fun s:Int=>b4s regs ins Reads4 box s) 0).bind fun x=>x.go (fun r=>some (l7.ret r)) fun s=>b5Q regs b5 b6 Puts1 at_ ins Reads4 box)))))
theorem e5k(list prog regs b5 b6 Puts1 at_ ins)(lc:H2 Q5 a8x (b1q list prog)):NL lc (f2d list prog regs b5 b6 Puts1 at_ ins) (fun s=>b5A list regs b5 b6 Puts1 at_ ins s):=fun Reads4 h=>PK<|rg<|v5 x7 5 h fun box a14 h=>A9 h fun y3 hy3 h=>t8 h fun e4 h=>ob (N9 hy3)<|ob e4<|om (s8.arr 203 1 4 ((regs.map eI).set (ins.A.toNat) [vi box.d9])=s8.arr 203 1 4 ((regs.set ins.A.toNat box.d9).map eI)) (a9h rfl)<|ob (U7 (enc:=eI) hy3)<|tl (9,{a:=.rowck (eI y3) [],e:=some (.arr 203 1 4 ((regs.set ins.A.toNat box.d9).map eI))})<|rg<|om (4*1=4) rfl<|lp (e6U list prog regs b5 b6 Puts1 at_ ins Reads4 box) h (fun _ h=>lc.rt h) (f2V list prog regs b5 b6 Puts1 at_ ins Reads4 box lc) fun hI=>om (V.agg (((regs.set ins.A.toNat box.d9).map eI).flatten.map (W6 [(1,0),(2,0),(3,0),(4,0),(5,0),(6,0),(7,0)]))=.agg ((regs.set ins.A.toNat box.d9).map eI).flatten) (congrArg V.agg (a7y (fun _=>rfl) _))<|skT [] [0,1,4,5,6,7,161,162] [(1,0),(2,0),(3,0),(4,0),(5,0),(6,0),(7,0)] [(161,.agg ((regs.set ins.A.toNat box.d9).map eI).flatten)] hI
def d85(list:List m9)(prog:List n8)(b5:List r9)(b6:List p6)(Reads1:List r9):((List Int)×(List p6)×Int)->KS:=fun (regs2,Puts4,at_1)=>⟨Q5.k 13 [false,true,false,true,true],(j9 2 x7 list::(j9 4 A0 prog::(bs 2 (.ptr 1 0 0::(.ptr 4 0 0::(.ptr 5 0 0::(vi at_1::(bs 174 [])))))))),[some [],some [.var 54 [.own 2 0 2 0 b5.length,.own 3 0 2 0 b6.length,vi 0,vi 0]],some [m6 192 2 v6 b5],some [m6 195 2 w8 b6],some [.arr 203 1 4 (regs2.map eI)],some [.var 54 [.own 6 0 2 0 Reads1.length,.own 7 0 2 0 Puts4.length,vi 0,vi 0]],some [m6 192 2 v6 Reads1],some [m6 195 2 w8 Puts4]]⟩
def d4J(list:List m9)(prog:List n8)(b5:List r9)(b6:List p6)(Reads1:List r9)(regs2:List Int)(Puts4:List p6)(at_1:Int):Unit->KS:=fun _=>⟨Q5.k 15 [false,true,false,true,true,false],(j9 2 x7 list::(j9 4 A0 prog::(bs 2 (.ptr 1 0 0::(.ptr 4 0 0::(.ptr 5 0 0::(vi at_1::(bs 174 [])))))))),[some [],some [.var 54 [.own 2 0 2 0 b5.length,.own 3 0 2 0 b6.length,vi 0,vi 0]],some [m6 192 2 v6 b5],some [m6 195 2 w8 b6],some [.arr 203 1 4 (regs2.map eI)],some [.var 54 [.own 6 0 2 0 Reads1.length,.own 7 0 2 0 Puts4.length,vi 0,vi 0]],some [m6 192 2 v6 Reads1],some [m6 195 2 w8 Puts4]]⟩
def b35(b5:List r9)(b6:List p6)(Reads1:List r9)(regs2:List Int)(Puts4:List p6)(at_1:Int):Option (l7 n6 ((List Int)×(List r9)×(List p6)×(List r9)×(List p6)×Int) ((List r9)×(List p6)×(List Int)×(List r9)×List p6)) :=
 some (l7.nxt (regs2,b5,b6,Reads1,Puts4,m8 (at_1+1)))
theorem d7X(list prog b5 b6 Reads1 regs2 Puts4 at_1)(lc:H2 Q5 a8x (b1q list prog)):NL lc (d4J list prog b5 b6 Reads1 regs2 Puts4 at_1) (fun s=>b35 b5 b6 Reads1 regs2 Puts4 at_1):=fun _ h=>PK<|rg<|(lc.nx h fun hI=>sk [] [0,1,4,5,6,7] [(1,0),(4,0),(5,0),(2,0),(3,0),(6,0),(7,0)] hI)
def e6Z(list:List m9)(prog:List n8)(b5:List r9)(b6:List p6)(Reads1:List r9)(regs2:List Int)(Puts4:List p6)(at_1:Int):Int->KS:=fun a6j=>⟨Q5.k 14 [false,true,false,true,true],(j9 2 x7 list::(j9 4 A0 prog::(bs 2 (.ptr 1 0 0::(.ptr 4 0 0::(.ptr 5 0 0::(vi at_1::(bs 153 (.agg (regs2.map eI).flatten::(vi a6j::(bs 19 []))))))))))),[some [],some [.var 54 [.own 2 0 2 0 b5.length,.own 3 0 2 0 b6.length,vi 0,vi 0]],some [m6 192 2 v6 b5],some [m6 195 2 w8 b6],some [.arr 203 1 4 (regs2.map eI)],some [.var 54 [.own 6 0 2 0 Reads1.length,.own 7 0 2 0 Puts4.length,vi 0,vi 0]],some [m6 192 2 v6 Reads1],some [m6 195 2 w8 Puts4]]⟩
def b4M(Reads1:List r9)(regs2:List Int)(a6j:Int):Option (l7 n6 Int Unit) :=
 (bif decide (a6j<4) then ((idx regs2 a6j).bind fun y5=>(t5 (a6j<4) (((D4 y5 (-1000000) 1000000).bind fun in_2=>(bif (!in_2) then ((a25 Reads1).bind fun c3w=>some (l7.ret (n6.mk c3w [] 0 2))) else some (l7.nxt (m8 (a6j+1)))))))) else some (l7.brk ()))
theorem e1q(list prog b5 b6 Reads1 regs2 Puts4 at_1):LQ Q5 (d4J list prog b5 b6 Reads1 regs2 Puts4 at_1) (e6Z list prog b5 b6 Reads1 regs2 Puts4 at_1) (fun s=>b4M Reads1 regs2 s):=fun lc a6j h=>PK<|rg<|j5 0 h (fun h=>rg<|A9 h fun y5 hy5 h=>t8 h fun e7 h=>ob (N9 hy5)<|ob e7<|om ((regs2.map eI).flatten[a6j.toNat]?=some (vi y5)) (c27 (fun _=>rfl) hy5)<|tl (0,{a:=.val (vi y5)})<|rg<|j8 D1 F4 1 h fun in_2 h=>j5 2 h (fun h=>rg<|cbS a2e b0B 2 (fun _=>(by simp [a2e,K2,R6,N6,V.simple,vi,u9,eI,v6])) (fun _=>(O9 1)) h fun c3w h=>C7 Reads1 c3w<|fL lc h) (fun h=>rg<|(lc.nx h fun hI=>om (V.agg ((regs2.map eI).flatten.map (W6 [(1,0),(2,0),(3,0),(4,0),(5,0),(6,0),(7,0)]))=.agg (regs2.map eI).flatten) (congrArg V.agg (a7y (fun _=>rfl) _))<|skT [] [0,1,4,5,6,7,161,162] [(1,0),(2,0),(3,0),(4,0),(5,0),(6,0),(7,0)] [(161,.agg (regs2.map eI).flatten)] hI))) (fun h=>(lc.bk h fun hI=>sk [] [0,1,4,5,6,7] [(1,0),(2,0),(3,0),(4,0),(5,0),(6,0),(7,0)] hI))
def b0v(b5:List r9)(b6:List p6)(Reads1:List r9)(regs2:List Int)(Puts4:List p6)(at_1:Int):Option (l7 n6 ((List Int)×(List r9)×(List p6)×(List r9)×(List p6)×Int) ((List r9)×(List p6)×(List Int)×(List r9)×List p6)) :=
 ((p8 (fun s:Int=>b4M Reads1 regs2 s) 0).bind fun x=>x.go (fun r=>some (l7.ret r)) fun s=>b35 b5 b6 Reads1 regs2 Puts4 at_1)
theorem f4C(list prog b5 b6 Reads1)(lc:H2 Q5 a8x (b1q list prog)):NL lc (d85 list prog b5 b6 Reads1) (fun s=>b0v b5 b6 Reads1 s.1 s.2.1 s.2.2):=fun (regs2,Puts4,at_1) h=>PK<|rg<|om (4*1=4) rfl<|lp (e1q list prog b5 b6 Reads1 regs2 Puts4 at_1) h (fun _ h=>lc.rt h) (d7X list prog b5 b6 Reads1 regs2 Puts4 at_1 lc) fun hI=>om (V.agg ((regs2.map eI).flatten.map (W6 [(1,0),(2,0),(3,0),(4,0),(5,0),(6,0),(7,0)]))=.agg (regs2.map eI).flatten) (congrArg V.agg (a7y (fun _=>rfl) _))<|skT [] [0,1,4,5,6,7,161,162] [(1,0),(2,0),(3,0),(4,0),(5,0),(6,0),(7,0)] [(161,.agg (regs2.map eI).flatten)] hI
def a2V(list:List m9)(prog:List n8)(regs:List Int)(b5:List r9)(b6:List p6)(Reads1:List r9)(Puts1:List p6)(at_:Int):Option (l7 n6 ((List Int)×(List r9)×(List p6)×(List r9)×(List p6)×Int) ((List r9)×(List p6)×(List Int)×(List r9)×List p6)) :=
 (bif decide (at_<(prog.length:Int)) then ((idx prog at_).bind fun ins=>(bif (ins.a8==1) then ((b3q (n6.mk Reads1 Puts1 0 0) ins.B).bind fun X7=>(bif decide (X7>=0) then ((idx Puts1 X7).bind fun put1=>((idx regs ins.A).bind fun y1=>(t5 (ins.A<4) (((p8 (fun s:Int=>b2y regs Reads1 ins put1 s) 0).bind fun x=>x.go (fun r=>some (l7.ret r)) fun s=>c4U regs b5 b6 Reads1 Puts1 at_ ins put1))))) else ((((b3n (n6.mk Reads1 Puts1 0 0) ins.B).bind fun d6a=>(bif decide (d6a<0) then ((idx list ins.B).bind fun P9=>(t5 ((Reads1.length+1)*16<=140737488355328) (some (l9.brk (Reads1++[(r9.mk ins.B P9.j4)]))))) else some (l9.brk Reads1))):Option (l9 (l7 n6 ((List Int)×(List r9)×(List p6)×(List r9)×(List p6)×Int) ((List r9)×(List p6)×(List Int)×(List r9)×List p6)) (List r9))).bind fun x=>x.go some fun j=>b5A list regs b5 b6 Puts1 at_ ins j))) else (((bif (ins.a8==2) then ((b3q (n6.mk Reads1 Puts1 0 0) ins.A).bind fun b0L=>(bif decide (b0L>=0) then ((idx regs ins.B).bind fun y6=>(t5 (ins.B<4) (((idx Puts1 b0L).bind fun put2=>some (l9.brk (regs,Puts1.set b0L.toNat (p6.mk put2.i5 y6),at_)))))) else ((idx regs ins.B).bind fun y7=>(t5 (ins.B<4) ((t5 ((Puts1.length+1)*16<=140737488355328) (some (l9.brk (regs,Puts1++[(p6.mk ins.A y7)],at_))))))))) else (bif (ins.a8==3) then ((idx regs ins.A).bind fun y8=>(t5 (ins.A<4) (some (l9.brk (regs.set ins.A.toNat ins.N,Puts1,at_))))) else (bif (ins.a8==4) then ((idx regs ins.A).bind fun y9=>(t5 (ins.A<4) (((idx regs ins.B).bind fun y10=>(t5 (ins.B<4) ((t5 (ins.A<4) (some (l9.brk (regs.set ins.A.toNat (m8 (y9+y10)),Puts1,at_)))))))))) else (bif (ins.a8==5) then ((idx regs ins.A).bind fun y11=>(t5 (ins.A<4) (((idx regs ins.B).bind fun y12=>(t5 (ins.B<4) ((t5 (ins.A<4) (some (l9.brk (regs.set ins.A.toNat (m8 (y11-y12)),Puts1,at_)))))))))) else (bif (ins.a8==6) then ((idx regs ins.A).bind fun y13=>(t5 (ins.A<4) (((idx regs ins.B).bind fun y14=>(t5 (ins.B<4) ((bif decide (y13<y14) then some (l9.brk (regs,Puts1,m8 (at_+ins.N))) else some (l9.brk (regs,Puts1,at_))))))))) else (bif (ins.a8==7) then ((a25 Reads1).bind fun c3f=>some (l9.ret (l7.ret (n6.mk c3f [] 0 1)))) else some (l9.brk (regs,Puts1,at_)))))))):Option (l9 (l7 n6 ((List Int)×(List r9)×(List p6)×(List r9)×(List p6)×Int) ((List r9)×(List p6)×(List Int)×(List r9)×List p6)) ((List Int)×(List p6)×Int))).bind fun x=>x.go some fun j=>b0v b5 b6 Reads1 j.1 j.2.1 j.2.2))) else some (l7.brk (b5,b6,regs,Reads1,Puts1)))
set_option maxRecDepth 20000 in
theorem e47(list prog):LQ Q5 a8x (b1q list prog) (fun s=>a2V list prog s.1 s.2.1 s.2.2.1 s.2.2.2.1 s.2.2.2.2.1 s.2.2.2.2.2):=fun lc (regs,b5,b6,Reads1,Puts1,at_) h=>PK<|rg<|j5 3 h (fun h=>rg<|v5 A0 2 h fun ins hins h=>n9<|j5 1 h (fun h=>rg<|R5 a6F c6r 3 2 h fun X7 h=>C7 Reads1 Puts1<|rg<|j5 1 h (fun h=>rg<|A9 h fun put1 b2z h=>B9 b2z<|H9 w8 7 b2z<|A9 h fun y1 hy1 h=>t8 h fun e2 h=>ob (N9 hy1)<|ob e2<|om (s8.arr 203 1 4 ((regs.map eI).set (ins.A.toNat) [vi put1.d9])=s8.arr 203 1 4 ((regs.set ins.A.toNat put1.d9).map eI)) (a9h rfl)<|ob (U7 (enc:=eI) hy1)<|tl (9,{a:=.rowck (eI y1) [],e:=some (.arr 203 1 4 ((regs.set ins.A.toNat put1.d9).map eI))})<|rg<|om (4*1=4) rfl<|lp (f2r list prog regs b5 b6 Reads1 Puts1 at_ ins put1) h (fun _ h=>lc.rt h) (f1U list prog regs b5 b6 Reads1 Puts1 at_ ins put1 lc) fun hI=>om (V.agg (((regs.set ins.A.toNat put1.d9).map eI).flatten.map (W6 [(1,0),(4,0),(5,0),(2,0),(3,0),(6,0),(7,0)]))=.agg ((regs.set ins.A.toNat put1.d9).map eI).flatten) (congrArg V.agg (a7y (fun _=>rfl) _))<|skT [] [0,1,4,5,6,7,161,162] [(1,0),(4,0),(5,0),(2,0),(3,0),(6,0),(7,0)] [(161,.agg ((regs.set ins.A.toNat put1.d9).map eI).flatten)] hI) (fun h=>A7 h (e5k list prog regs b5 b6 Puts1 at_ ins lc) fun x2 h hc2=>rg<|R5 a7W e3t 3 2 h fun d6a h=>C7 Reads1 Puts1<|j5 4 h (fun h=>rg<|v5 x7 7 h fun P9 a6N h=>tk 11 []<|t8 h fun e6 h=>F6 12 46 192 2 16 v6 Reads1 (r9.mk ins.B P9.j4) e6<|E4 (r9.mk ins.B P9.j4)<|(p7 h hc2 fun hI=>sk [] [0,1,4,5,6,7,8] [(1,0),(4,0),(5,0),(2,0),(3,0),(46,0),(7,0),(16,0)] hI)) (fun h=>(p7 h hc2 fun hI=>sk [] [0,1,4,5,6,7,8] [(1,0),(4,0),(5,0),(2,0),(3,0),(6,0),(7,0),(16,0)] hI)))) (fun h=>A7 h (f4C list prog b5 b6 Reads1 lc) fun x2 h hc2=>rg<|j5 1 h (fun h=>rg<|R5 a6F c6r 3 2 h fun b0L h=>C7 Reads1 Puts1<|rg<|j5 1 h (fun h=>rg<|A9 h fun y6 hy6 h=>t8 h fun e8 h=>ob (N9 hy6)<|ob e8<|ob (U7 (enc:=eI) hy6)<|tl (tr 6 (eI y6))<|A9 h fun put2 d1d h=>B9 d1d<|Q4 195 2 w8 9 [] (p6.mk put2.i5 y6) d1d<|(p7 h hc2 fun hI=>om ((.own 7 0 2 0 Puts1.length:V)=.own 7 0 2 0 (Puts1.set b0L.toNat (p6.mk put2.i5 y6)).length) (by simp)<|sk [.is (.cell 3 0 1) (.own 7 0 2 0 (Puts1.set b0L.toNat (p6.mk put2.i5 y6)).length)] [0,1,4,5,6,7] [(1,0),(4,0),(5,0),(2,0),(3,0),(6,0),(7,0)] hI)) (fun h=>rg<|A9 h fun y7 hy7 h=>t8 h fun e9 h=>ob (N9 hy7)<|ob e9<|ob (U7 (enc:=eI) hy7)<|tl (tr 7 (eI y7))<|tk 9 []<|t8 h fun e10 h=>F6 10 41 195 2 16 w8 Puts1 (p6.mk ins.A y7) e10<|E4 (p6.mk ins.A y7)<|(p7 h hc2 fun hI=>sk [] [0,1,4,5,6,7] [(1,0),(4,0),(5,0),(2,0),(3,0),(6,0),(41,0)] hI))) (fun h=>rg<|j5 1 h (fun h=>rg<|A9 h fun y8 hy8 h=>t8 h fun e11 h=>ob (N9 hy8)<|ob e11<|om (s8.arr 203 1 4 ((regs.map eI).set (ins.A.toNat) [vi ins.N])=s8.arr 203 1 4 ((regs.set ins.A.toNat ins.N).map eI)) (a9h rfl)<|ob (U7 (enc:=eI) hy8)<|tl (5,{a:=.rowck (eI y8) [],e:=some (.arr 203 1 4 ((regs.set ins.A.toNat ins.N).map eI))})<|(p7 h hc2 fun hI=>sk [] [0,1,4,5,6,7] [(1,0),(4,0),(5,0),(2,0),(3,0),(6,0),(7,0)] hI)) (fun h=>rg<|j5 1 h (fun h=>rg<|A9 h fun y9 hy9 h=>t8 h fun e12 h=>ob (N9 hy9)<|ob e12<|ob (U7 (enc:=eI) hy9)<|tl (tr 3 (eI y9))<|A9 h fun y10 d0R h=>t8 h fun e13 h=>ob (N9 d0R)<|ob e13<|ob (U7 (enc:=eI) d0R)<|tl (tr 7 (eI y10))<|t8 h fun e14 h=>ob (N9 hy9)<|ob e14<|om (s8.arr 203 1 4 ((regs.map eI).set (ins.A.toNat) [vi (m8 (y9+y10))])=s8.arr 203 1 4 ((regs.set ins.A.toNat (m8 (y9+y10))).map eI)) (a9h rfl)<|ob (U7 (enc:=eI) hy9)<|tl (10,{a:=.rowck (eI y9) [],e:=some (.arr 203 1 4 ((regs.set ins.A.toNat (m8 (y9+y10))).map eI))})<|(p7 h hc2 fun hI=>sk [] [0,1,4,5,6,7] [(1,0),(4,0),(5,0),(2,0),(3,0),(6,0),(7,0)] hI)) (fun h=>rg<|j5 1 h (fun h=>rg<|A9 h fun y11 b9i h=>t8 h fun e15 h=>ob (N9 b9i)<|ob e15<|ob (U7 (enc:=eI) b9i)<|tl (tr 3 (eI y11))<|A9 h fun y12 d5c h=>t8 h fun e16 h=>ob (N9 d5c)<|ob e16<|ob (U7 (enc:=eI) d5c)<|tl (tr 7 (eI y12))<|t8 h fun e17 h=>ob (N9 b9i)<|ob e17<|om (s8.arr 203 1 4 ((regs.map eI).set (ins.A.toNat) [vi (m8 (y11-y12))])=s8.arr 203 1 4 ((regs.set ins.A.toNat (m8 (y11-y12))).map eI)) (a9h rfl)<|ob (U7 (enc:=eI) b9i)<|tl (10,{a:=.rowck (eI y11) [],e:=some (.arr 203 1 4 ((regs.set ins.A.toNat (m8 (y11-y12))).map eI))})<|(p7 h hc2 fun hI=>sk [] [0,1,4,5,6,7] [(1,0),(4,0),(5,0),(2,0),(3,0),(6,0),(7,0)] hI)) (fun h=>rg<|j5 1 h (fun h=>rg<|A9 h fun y13 c8L h=>t8 h fun e18 h=>ob (N9 c8L)<|ob e18<|ob (U7 (enc:=eI) c8L)<|tl (tr 3 (eI y13))<|A9 h fun y14 d6r h=>t8 h fun e19 h=>ob (N9 d6r)<|ob e19<|ob (U7 (enc:=eI) d6r)<|tl (tr 7 (eI y14))<|j5 8 h (fun h=>rg<|(p7 h hc2 fun hI=>sk [] [0,1,4,5,6,7] [(1,0),(4,0),(5,0),(2,0),(3,0),(6,0),(7,0)] hI)) (fun h=>(p7 h hc2 fun hI=>sk [] [0,1,4,5,6,7] [(1,0),(4,0),(5,0),(2,0),(3,0),(6,0),(7,0)] hI))) (fun h=>rg<|j5 1 h (fun h=>rg<|cbS a2e b0B 2 (fun _=>(by simp [a2e,K2,R6,N6,V.simple,vi,u9,eI,v6])) (fun _=>(O9 1)) h fun c3f h=>s6 Reads1<|(C1 h hc2 fun h=>s6 c3f<|fL lc h)) (fun h=>(p7 h hc2 fun hI=>sk [] [0,1,4,5,6,7] [(1,0),(4,0),(5,0),(2,0),(3,0),(6,0),(7,0)] hI))))))))) (fun h=>(lc.bk h fun hI=>sk [] [4,5,6] [(1,0),(4,0),(5,0),(2,0),(3,0),(6,0),(7,0)] hI))
def b3N(list:List m9)(prog:List n8):Option n6 :=
 ((a65 list).bind fun R9=>(bif (!R9) then some (n6.mk [] [] 0 3) else ((a8D prog).bind fun E2=>(bif (!E2) then some (n6.mk [] [] 0 3) else ((p8 (fun s:(List Int)×(List r9)×(List p6)×(List r9)×(List p6)×Int=>a2V list prog s.1 s.2.1 s.2.2.1 s.2.2.2.1 s.2.2.2.2.1 s.2.2.2.2.2) (f5k 4 (0:Int),[],[],[],[],0)).bind fun x=>x.go (fun r=>some r) fun s=>b3r s.1 s.2.1 s.2.2.1 s.2.2.2.1 s.2.2.2.2)))))
theorem d3K{list prog}:OK Q5 [j9 2 x7 list,j9 4 A0 prog] (b3N list prog) :=
 o7 _ fun r h=>n9<|j8 a3a b4j 1 h fun R9 h=>j5 3 h (fun h=>rg<|fE h) (fun h=>j8 a37 b9T 5 h fun E2 h=>j5 7 h (fun h=>rg<|fE h) (fun h=>rg<|om ((f5k 4 ([vi 0]:List V)).flatten=[vi 0,vi 0,vi 0,vi 0]/\([vi 0]:List V).length=1) ⟨rfl,rfl⟩<|n9<|lp (e47 list prog) h (fun _ h=>Q5.rt h) (d7M r) fun hI=>sk [.own (.cell 1 0 0) 192 2,.own (.cell 1 0 1) 195 2,.own (.cell 12 0 0) 192 2,.own (.cell 12 0 1) 195 2] [0,1,4,5,6,7] [(1,0),(10,0),(12,0),(15,0),(16,0),(17,0),(18,0)] hI))
def a1I:FS (Int):=⟨41,Tryz.f41,[.val [] []],[none,none],[.val [some 7] [],.val [] []],fun r=>vi r,fun _=>[none,none],Tryz.func41⟩
def c35:Unit->KS:=fun _=>⟨a1I.k 3 [false],(bs 25 []),[some []]⟩
def d08:Option Int :=
 some (-1)
theorem d62(r):NF a1I r c35 (fun s=>d08):=fun _ h=>PK<|rg<|fE h
def c8V(list:List m4)(q:n7):Int->KS:=fun v9=>⟨a1I.k 2 [],(bs 3 (.ptr 1 0 0::(bs 3 (j9 7 s7 list::(vi (list.length:Int)::(vi v9::(bs 15 []))))))),[some [],some [.var 50 [vi q.b9,vi q.Seq]]]⟩
def e3f(list:List m4)(q:n7)(v9:Int):Unit->KS:=fun _=>⟨a1I.k 5 [true,false],(bs 3 (.ptr 1 0 0::(bs 3 (j9 7 s7 list::(vi (list.length:Int)::(vi v9::(bs 15 []))))))),[some [],some [.var 50 [vi q.b9,vi q.Seq]]]⟩
def c4W(v9:Int):Option (l7 Int Int Unit) :=
 some (l7.nxt (m8 (v9+1)))
theorem d7h(list q v9)(lc:H2 a1I c35 (c8V list q)):NL lc (e3f list q v9) (fun s=>c4W v9):=fun _ h=>PK<|rg<|(lc.nx h fun hI=>sk [] [3,7,8,9] [(1,0)] hI)
def a9B(list:List m4)(q:n7)(v9:Int):Option (l7 Int Int Unit) :=
 (bif decide (v9<(list.length:Int)) then ((idx list v9).bind fun entry=>(((bif (!entry.i7) then (bif (([entry.a0.b9,entry.a0.Seq]:List Int)==[q.b9,q.Seq]) then some (l9.ret (l7.ret v9)) else some (l9.brk ())) else some (l9.brk ())):Option (l9 (l7 Int Int Unit) Unit)).bind fun x=>x.go some fun j=>c4W v9)) else some (l7.brk ()))
theorem e8L(list q):LQ a1I c35 (c8V list q) (fun s=>a9B list q s):=fun lc v9 h=>PK<|rg<|j5 0 h (fun h=>rg<|v5 s7 1 h fun entry F8 h=>A7 h (d7h list q v9 lc) fun x2 h hc2=>rg<|j5 3 h (fun h=>j5 8 h (fun h=>rg<|(C1 h hc2 fun h=>fL lc h)) (fun h=>(p7 h hc2 fun hI=>sk [] [3,7,8,9] [(1,0)] hI))) (fun h=>(p7 h hc2 fun hI=>sk [] [3,7,8,9] [(1,0)] hI))) (fun h=>(lc.bk h fun hI=>sk [] [] [] hI))
def a5U(list:List m4)(q:n7):Option Int :=
 ((p8 (fun s:Int=>a9B list q s) 0).bind fun x=>x.go (fun r=>some r) fun s=>d08)
theorem b2N{list q}:OK a1I [j9 7 s7 list,.agg (E6 q)] (a5U list q) :=
 o7 _ fun r h=>n9<|lp (e8L list q) h (fun _ h=>a1I.rt h) (d62 r) fun hI=>sk [] [3,7,8,9] [(1,0)] hI
def c2l:FS (Bool×o9):=⟨215,Tryz.f215,[.val [] []],[some (0,.ptr I7 L3),none],[.ptr I7 L3,.val [] []],fun r=>.b r.1,fun r=>[some (.optr 184 (L8 r.2)),none],Tryz.func215⟩
def b3e(a:o9)(q:n7):Option (Bool×o9) :=
 ((a5U a.n.a5 q).bind fun first=>some (decide (first>=0),a))
theorem d1F{a q}:OK c2l [.optr 184 (L8 a),.agg (E6 q)] (b3e a q) :=
 o7 _ fun r h=>n9<|R5 a1I b2N 6 2 h fun first h=>s6 a.n.a5<|C8 a<|fE h
def a0s:FS (m4×Bool×o9):=⟨210,Tryz.f210,[.val K6 [],.val [] []],[some (0,.ptr I7 L3)],[.ptr I7 L3],fun r=>.tup [.agg (s7 r.1),.b r.2.1],fun r=>[some (.optr 184 (L8 r.2.2))],Tryz.func210⟩
def f0s(a:o9):Unit->KS:=fun _=>⟨a0s.k 3 [false],(.ptr 0 0 0::(bs 1 (.ptr 1 0 0::(bs 1 (vi (a.n.a5.length:Int)::(bs 112 [])))))),[some ([.var 184 (c5M a)]++c4c a),some [.var 56 [.b false,vi 0,vi 0,.nil,.nil,vi 0,vi 0]]]⟩
def d1r(a:o9):Unit->KS:=fun _=>⟨a0s.k 5 [false,false],(.ptr 0 0 0::(bs 1 (.ptr 1 0 0::(bs 114 [])))),[some ([.var 184 (c5M a)]++c4c a),some [.var 56 [.b false,vi 0,vi 0,.nil,.nil,vi 0,vi 0]]]⟩
def d91:o9->KS:=fun a1=>⟨a0s.k 6 [false,false,false],(.ptr 0 0 0::(bs 1 (.ptr 6 0 0::(bs 114 [])))),[some [.var 184 (b2G a1),.dead,.dead,.dead,.dead,.dead]]++a3k a1++[some [.var 56 [.b false,vi 0,vi 0,.nil,.nil,vi 0,vi 0]]]⟩
def c7o:o9->KS:=fun w=>⟨a0s.k 7 [false,false,false,false],(bs 2 (.ptr 6 0 0::(bs 114 []))),[some [.var 184 (b2G w),.dead,.dead,.dead,.dead,.dead]]++a3k w++[some [.var 56 [.b false,vi 0,vi 0,.nil,.nil,vi 0,vi 0]]]⟩
def c6o(w:o9):Option (m4×Bool×o9) :=
 some ((m4.mk false (n7.mk 0 0) (n6.mk [] [] 0 0)),false,w)
theorem e5S(r):NF a0s r c7o (fun s=>c6o s):=fun w h=>PK<|rg<|C8 w<|fE h
def e2k:o9->KS:=fun a2=>⟨a0s.k 6 [false,false,false],(.ptr 0 0 0::(bs 1 (.ptr 6 0 0::(bs 114 [])))),[some [.var 184 (b2G a2),.dead,.dead,.dead,.dead,.dead]]++a3k a2++[some [.var 56 [.b false,vi 0,vi 0,.nil,.nil,vi 0,vi 0]]]⟩
def a43(a2:o9):Option (l7 (m4×Bool×o9) o9 o9) :=
 (bif decide ((a2.n.f0.length:Int)>0) then ((idx a2.n.f0 0).bind fun entry=>(t5 ((0:Int)<=1/\1<=(a2.n.f0.length:Int)) (((b3e (o9.mk (j6.mk a2.n.Id a2.n.Acc a2.n.a5 a2.n.Seq a2.n.d8 a2.n.a7 a2.n.c9 a2.n.i0 a2.n.d6 a2.n.a6 a2.n.i9 a2.n.i6 a2.n.b8 ((a2.n.f0.drop (1:Int).toNat).take (a2.n.f0.length-(1:Int).toNat))) a2.out a2.told) entry.a0).bind fun b2Z=>(bif (!b2Z.1) then some (l7.ret (entry,true,b2Z.2)) else some (l7.nxt b2Z.2)))))) else some (l7.brk a2))
theorem e6K:LQ a0s c7o e2k (fun s=>a43 s):=fun lc a2 h=>PK<|rg<|j5 6 h (fun h=>rg<|v5 s7 5 h fun entry F8 h=>rg<|t8 h fun e1 h=>om (V.sl 7 (a2.n.f0.length-(1:Int).toNat) (((a2.n.f0.map s7).drop (1:Int).toNat).take (a2.n.f0.length-(1:Int).toNat))=j9 7 s7 ((a2.n.f0.drop (1:Int).toNat).take (a2.n.f0.length-(1:Int).toNat))) (b5C e1)<|ob e1.1<|ob e1.2<|tl (6,{v:=some (j9 7 s7 ((a2.n.f0.drop (1:Int).toNat).take (a2.n.f0.length-(1:Int).toNat)))})<|rg<|j8 c2l d1F 3 h fun b2Z h=>C8 a2<|j5 4 h (fun h=>rg<|C8 b2Z.2<|fL lc h) (fun h=>(lc.nx h fun hI=>sk [] [0,2] [(37,0),(37,1),(37,2),(37,3),(37,4),(6,0)] hI))) (fun h=>(lc.bk h fun hI=>sk [] [2] [(1,0),(2,0),(3,0),(4,0),(5,0),(6,0)] hI))
def b95(a1:o9):Option (m4×Bool×o9) :=
 ((p8 (fun s:o9=>a43 s) a1).bind fun x=>x.go (fun r=>some r) fun s=>c6o s)
theorem d6R(r):NF a0s r d91 (fun s=>b95 s):=fun a1 h=>PK<|lp (e6K) h (fun _ h=>a0s.rt h) (e5S r) fun hI=>sk [] [0,2] [(1,0),(2,0),(3,0),(4,0),(5,0),(6,0)] hI
def c1C(a:o9):Option (m4×Bool×o9) :=
 (((bif a.n.i9 then ((b3e a a.n.b8.a0).bind fun a9I=>(bif (!a9I.1) then some (l9.ret (a9I.2.n.b8,true,a9I.2)) else some (l9.brk a9I.2))) else some (l9.brk a)):Option (l9 (m4×Bool×o9) o9)).bind fun x=>x.go some fun j=>b95 j)
theorem f4R(a)(r):NF a0s r (d1r a) (fun s=>c1C a):=fun _ h=>PK<|A7 h (d6R r) fun x1 h hc1=>rg<|j5 5 h (fun h=>j8 c2l d1F 13 h fun a9I h=>C8 a<|j5 15 h (fun h=>rg<|(C1 h hc1 fun h=>C8 a9I.2<|fE h)) (fun h=>(p7 h hc1 fun hI=>sk [] [0,2] [(15,0),(15,1),(15,2),(15,3),(15,4),(1,0)] hI))) (fun h=>(p7 h hc1 fun hI=>sk [] [0,2] [(0,1),(0,2),(0,3),(0,4),(0,5),(1,0)] hI))
def e1T(a:o9):Int->KS:=fun i=>⟨a0s.k 4 [false],(.ptr 0 0 0::(bs 1 (.ptr 1 0 0::(bs 2 (vi i::(bs 111 [])))))),[some ([.var 184 (c5M a)]++c4c a),some [.var 56 [.b false,vi 0,vi 0,.nil,.nil,vi 0,vi 0]]]⟩
def a4G(a:o9)(i:Int):Option (l7 (m4×Bool×o9) Int Unit) :=
 (bif decide (i<(a.n.i0.length:Int)) then ((idx a.n.i0 i).bind fun vote=>(bif (vote.a7 != 0) then some (l7.ret ((m4.mk true (n7.mk 0 0) (n6.mk [] [] 0 0)),true,a)) else some (l7.nxt (m8 (i+1))))) else some (l7.brk ()))
theorem e8P(a):LQ a0s (d1r a) (e1T a) (fun s=>a4G a s):=fun lc i h=>PK<|rg<|j5 7 h (fun h=>rg<|v5 q9 6 h fun vote N7 h=>j5 9 h (fun h=>rg<|C8 a<|fL lc h) (fun h=>rg<|(lc.nx h fun hI=>sk [] [0,2,5] [(1,0)] hI))) (fun h=>(lc.bk h fun hI=>sk [] [0,2] [(1,0)] hI))
def b7g(a:o9):Option (m4×Bool×o9) :=
 ((p8 (fun s:Int=>a4G a s) (m8 ((a.n.a5.length:Int)+1))).bind fun x=>x.go (fun r=>some r) fun s=>c1C a)
theorem e9e(a)(r):NF a0s r (f0s a) (fun s=>b7g a):=fun _ h=>PK<|rg<|lp (e8P a) h (fun _ h=>a0s.rt h) (f4R a r) fun hI=>sk [] [0,2,5] [(1,0)] hI
def b8a(a:o9):Option (m4×Bool×o9) :=
 (((bif decide ((a.n.a5.length:Int)<(a.n.i0.length:Int)) then ((idx a.n.i0 (a.n.a5.length:Int)).bind fun T3=>(bif (T3.a7 != 0) then some (l9.ret (T3.i4,true,a)) else some (l9.brk ()))) else some (l9.brk ())):Option (l9 (m4×Bool×o9) Unit)).bind fun x=>x.go some fun j=>b7g a)
theorem e5C{a}:OK a0s [.optr 184 (L8 a)] (b8a a) :=
 o7 _ fun r h=>n9<|A7 h (e9e a r) fun x1 h hc1=>rg<|j5 8 h (fun h=>v5 q9 15 h fun T3 a4b h=>j5 19 h (fun h=>rg<|J0 q9 6 a4b<|(C1 h hc1 fun h=>C8 a<|fE h)) (fun h=>(p7 h hc1 fun hI=>sk [] [0,2,4] [(1,0)] hI))) (fun h=>(p7 h hc1 fun hI=>sk [] [0,2,4] [(1,0)] hI))
def d0s:FS (z0×Bool):=⟨174,Tryz.f174,[.val [none,some 8] [none,some 158],.val [] []],[none,none],[.val [none,some 8] [],.val [] []],fun r=>.tup [.agg [vi r.1.g9,u9 158 8 q9 r.1.a6],.b r.2],fun _=>[none,none],Tryz.func174⟩
def c5V(a:z0)(bal:Int):Option (z0×Bool) :=
 ((b0G a).bind fun O8=>(bif (!O8) then some ((z0.mk 0 []),false) else ((a5s a).bind fun R2=>((D4 bal 1 3000).bind fun in_=>(bif (!in_) then some (R2,false) else (bif decide (bal<a.g9) then some (R2,false) else some ((z0.mk bal R2.a6),true)))))))
theorem e0F{a bal}:OK d0s [.agg (Z4 a),vi bal] (c5V a bal) :=
 o7 _ fun r h=>n9<|j8 a4X c38 1 h fun O8 h=>j5 2 h (fun h=>rg<|fE h) (fun h=>rg<|j8 a83 b0F 1 h fun R2 h=>rg<|j8 D1 F4 1 h fun in_ h=>j5 3 h (fun h=>rg<|s6 R2.a6<|fE h) (fun h=>j5 8 h (fun h=>rg<|s6 R2.a6<|fE h) (fun h=>n9<|s6 R2.a6<|fE h)))
def a6Z:FS (z0×Bool):=⟨211,Tryz.f211,[.val [none,some 8] [],.val [] []],[none,none,none,none],[.val [none,some 8] [],.val [] [],.val [] [],.val K6 []],fun r=>.tup [.agg (Z4 r.1),.b r.2],fun _=>[none,none,none,none],Tryz.func211⟩
def d3v(bal:Int)(slot:Int)(e_:m4)(o:z0×Bool):(List m7)->KS:=fun a0a=>⟨a6Z.k 5 [false,false,false],(bs 1 (vi bal::(vi slot::(bs 4 (.ptr 1 0 0::(.ptr 2 0 0::(bs 1 (.ptr 3 0 0::(bs 40 []))))))))),[some [],some [.var 56 (a5d e_)],some [.var 46 [vi 0,.nil]],some [.var 46 [vi o.1.g9,.own 4 0 8 0 a0a.length]],some [m6 158 8 q9 a0a]]⟩
def c1X(bal:Int)(slot:Int)(e_:m4)(o:z0×Bool)(a0a:List m7):Option (z0×Bool) :=
 ((idx a0a slot).bind fun vote=>((a5s (z0.mk o.1.g9 (a0a.set slot.toNat (m7.mk bal e_)))).bind fun c5L=>some (c5L,true)))
theorem f0F(bal slot e_ o)(r):NF a6Z r (d3v bal slot e_ o) (fun s=>c1X bal slot e_ o s):=fun a0a h=>PK<|rg<|A9 h fun vote N7 h=>B9 N7<|Q4 158 8 q9 7 V5 (m7.mk bal e_) N7<|rg<|j8 a83 b0F 1 h fun c5L h=>om (a0a.length=(a0a.set slot.toNat (m7.mk bal e_)).length) (by simp)<|s6 c5L.a6<|fE h
def f3F(bal:Int)(slot:Int)(e_:m4)(o:z0×Bool):(List m7)->KS:=fun a6=>⟨a6Z.k 4 [false,false],(bs 1 (vi bal::(vi slot::(bs 4 (.ptr 1 0 0::(.ptr 2 0 0::(bs 1 (.ptr 3 0 0::(bs 40 []))))))))),[some [],some [.var 56 (a5d e_)],some [.var 46 [vi 0,.nil]],some [.var 46 [vi o.1.g9,.own 4 0 8 0 a6.length]],some [m6 158 8 q9 a6]]⟩
def a8V(slot:Int)(a6:List m7):Option (l7 (z0×Bool) (List m7) (List m7)) :=
 (bif decide ((a6.length:Int)<=slot) then (t5 ((a6.length+1)*96<=140737488355328) (some (l7.nxt (a6++[(m7.mk 0 (m4.mk false (n7.mk 0 0) (n6.mk [] [] 0 0)))])))) else some (l7.brk a6))
theorem e24(bal slot e_ o):LQ a6Z (d3v bal slot e_ o) (f3F bal slot e_ o) (fun s=>a8V slot s):=fun lc a6 h=>PK<|rg<|j5 4 h (fun h=>rg<|tk 3 V5<|t8 h fun e1 h=>F6 4 14 158 8 96 q9 a6 (m7.mk 0 (m4.mk false (n7.mk 0 0) (n6.mk [] [] 0 0))) e1<|E4 (m7.mk 0 (m4.mk false (n7.mk 0 0) (n6.mk [] [] 0 0)))<|(lc.nx h fun hI=>sk [] [1,2,7,8,10] [(1,0),(2,0),(3,0),(14,0)] hI)) (fun h=>(lc.bk h fun hI=>sk [] [1,2,7,8,10] [(1,0),(2,0),(3,0),(4,0)] hI))
def b2M(a:z0)(bal:Int)(slot:Int)(e_:m4):Option (z0×Bool) :=
 ((c5V a bal).bind fun o=>(bif (!o.2) then some (o.1,false) else ((D4 slot 0 39).bind fun in_=>(bif (!in_) then ((a5s a).bind fun R2=>some (R2,false)) else ((a1u e_).bind fun E5=>(bif (!E5) then ((a5s a).bind fun c05=>some (c05,false)) else ((p8 (fun s:List m7=>a8V slot s) o.1.a6).bind fun x=>x.go (fun r=>some r) fun s=>c1X bal slot e_ o s)))))))
theorem d1T{a bal slot e_}:OK a6Z [.agg (Z4 a),vi bal,vi slot,.agg (s7 e_)] (b2M a bal slot e_) :=
 o7 _ fun r h=>n9<|j8 d0s e0F 2 h fun o h=>rg<|j5 1 h (fun h=>rg<|s6 o.1.a6<|fE h) (fun h=>rg<|j8 D1 F4 1 h fun in_ h=>j5 3 h (fun h=>rg<|j8 a83 b0F 1 h fun R2 h=>s6 R2.a6<|fE h) (fun h=>j8 a2J a4n 5 h fun E5 h=>j5 7 h (fun h=>rg<|j8 a83 b0F 1 h fun c05 h=>s6 c05.a6<|fE h) (fun h=>lp (e24 bal slot e_ o) h (fun _ h=>a6Z.rt h) (f0F bal slot e_ o r) fun hI=>sk [] [1,2,7,8,10] [(2,0),(3,0),(11,0),(7,0)] hI)))
def b8w:FS (o9):=⟨173,Tryz.f173,[],[some (0,.ptr I7 L3)],[.ptr I7 L3],fun _=>.tup [],fun r=>[some (.optr 184 (L8 r))],Tryz.func173⟩
def b34(a:o9):Option o9 :=
 some (o9.mk (j6.mk a.n.Id a.n.Acc a.n.a5 a.n.Seq 0 0 [] [] (m4.mk false (n7.mk 0 0) (n6.mk [] [] 0 0)) [] a.n.i9 a.n.i6 a.n.b8 a.n.f0) a.out a.told)
theorem c40{a}:OK b8w [.optr 184 (L8 a)] (b34 a) :=
 o7 _ fun r h=>rg4<|n9<|W7 a.n.a5 a.out a.told<|fE h
def c5r:FS ((List Bool)×o9):=⟨175,Tryz.f175,[.val [some 1] [some 4]],[some (0,.ptr I7 L3)],[.ptr I7 L3],fun r=>u9 4 1 eB r.1,fun r=>[some (.optr 184 (L8 r.2))],Tryz.func175⟩
def b1K(a:o9):Option ((List Bool)×o9) :=
 (t5 (0<=(3:Int)/\(3:Int)*1<=140737488355328) (((idx (f5k (3:Int).toNat false) a.n.Id).bind fun y=>some ((f5k (3:Int).toNat false).set a.n.Id.toNat true,a))))
theorem d5O{a}:OK c5r [.optr 184 (L8 a)] (b1K a) :=
 o7 _ fun r h=>n9<|t8 h fun e1 h=>U0 0 2 4 1 1 eB false ti4 (.none) e1 (by decide) (by rfl)<|rg<|A9 h fun y hy h=>B9 hy<|Q4 4 1 eB 7 [] true hy<|rg<|om ((f5k (3:Int).toNat false).length=((f5k (3:Int).toNat false).set a.n.Id.toNat true).length) (by simp)<|C8 a<|fE h
def a7n:FS (o9):=⟨183,Tryz.f183,[],[some (0,.ptr I7 L3),none,none],[.ptr I7 L3,.val [] [],.val C0 []],fun _=>.tup [],fun r=>[some (.optr 184 (L8 r)),none,none],Tryz.func183⟩
def a4t(a:o9)(to:Int)(m:l8):Option o9 :=
 (t5 ((a.out.length+1)*152<=140737488355328) (some (o9.mk a.n (a.out++[(l8.mk m.a8 a.n.Id to m.a7 m.g8 m.i4 m.a6)]) a.told)))
theorem a8K{a to m}:OK a7n [.optr 184 (L8 a),vi to,.agg (t0 m)] (a4t a to m) :=
 o7 _ fun r h=>rg4<|tk 6 C0<|t8 h fun e1 h=>F6 7 19 66 13 152 t0 a.out (l8.mk m.a8 a.n.Id to m.a7 m.g8 m.i4 m.a6) e1<|E4 (l8.mk m.a8 a.n.Id to m.a7 m.g8 m.i4 m.a6)<|H1 a.n.a5 a.n.c9 a.n.a6 (a.out++[(l8.mk m.a8 a.n.Id to m.a7 m.g8 m.i4 m.a6)])<|s6 a.told<|fE h
def a1b:FS (o9):=⟨171,Tryz.f171,[],[some (0,.ptr I7 L3),none],[.ptr I7 L3,.val C0 []],fun _=>.tup [],fun r=>[some (.optr 184 (L8 r)),none],Tryz.func171⟩
def c9I(m:l8):(Int×o9)->KS:=fun (to,a1)=>⟨a1b.k 2 [],(.ptr 0 0 0::(bs 2 (.ptr 1 0 0::(vi to::(bs 15 []))))),[some [.var 184 (d9a a1),.dead,.dead,.dead,.dead,.dead],some [.var 66 (a4M m)]]++e3B a1⟩
def f3t(m:l8)(to:Int):o9->KS:=fun a2=>⟨a1b.k 5 [true,true],(.ptr 0 0 0::(bs 2 (.ptr 6 0 0::(vi to::(bs 15 []))))),[some [.var 184 (b2G a2),.dead,.dead,.dead,.dead,.dead]]++a3k a2++[some [.var 66 (a4M m)]]⟩
def c2q(to:Int)(a2:o9):Option (l7 o9 (Int×o9) Unit) :=
 some (l7.nxt (m8 (to+1),a2))
theorem e2t(m to)(lc:H2 a1b noK (c9I m)):NL lc (f3t m to) (fun s=>c2q to s):=fun a2 h=>PK<|rg<|(lc.nx h fun hI=>sk [] [0,3,4] [(6,0),(5,0),(4,0),(3,0),(2,0),(1,0)] hI)
def a5l(m:l8)(to:Int)(a1:o9):Option (l7 o9 (Int×o9) Unit) :=
 (bif decide (to<3) then (((bif (to != a1.n.Id) then ((a4t a1 to m).bind fun Z6=>some (l9.brk Z6)) else some (l9.brk a1)):Option (l9 (l7 o9 (Int×o9) Unit) o9)).bind fun x=>x.go some fun j=>c2q to j) else some (l7.ret a1))
theorem e3x(m):LQ a1b noK (c9I m) (fun s=>a5l m s.1 s.2):=fun lc (to,a1) h=>PK<|rg<|j5 1 h (fun h=>A7 h (e2t m to lc) fun x2 h hc2=>rg<|j5 6 h (fun h=>rg<|j8 a7n a8K 3 h fun Z6 h=>C8 a1<|(p7 h hc2 fun hI=>sk [] [0,3,4] [(19,0),(19,1),(19,2),(19,3),(19,4),(1,0)] hI)) (fun h=>(p7 h hc2 fun hI=>sk [] [0,3,4] [(6,0),(5,0),(4,0),(3,0),(2,0),(1,0)] hI))) (fun h=>C8 a1<|fL lc h)
def a3u(a:o9)(m:l8):Option o9 :=
 ((p8 (fun s:Int×o9=>a5l m s.1 s.2) (0,a)).bind fun x=>x.go (fun r=>some r) fun _=>none)
theorem a64{a m}:OK a1b [.optr 184 (L8 a),.agg (t0 m)] (a3u a m) :=
 o7 _ fun r h=>n9<|lp (e3x m) h (fun _ h=>a1b.rt h) (fun _ h=>nomatch h) fun hI=>sk [] [0,3,4] [(1,0),(0,5),(0,4),(0,3),(0,2),(0,1)] hI
def b0f:FS (o9):=⟨170,Tryz.f170,[],[some (0,.ptr I7 L3)],[.ptr I7 L3],fun _=>.tup [],fun r=>[some (.optr 184 (L8 r))],Tryz.func170⟩
def a5W(a:o9):Option o9 :=
 (bif (a.n.d8 != 2) then some a else (bif decide ((a.n.a5.length:Int)>=40) then some a else ((b8a a).bind fun next=>(bif (!next.2.1) then some next.2.2 else ((b2M next.2.2.n.Acc next.2.2.n.a7 (next.2.2.n.a5.length:Int) next.1).bind fun a8R=>(bif (!a8R.2) then ((b34 next.2.2).bind fun follow=>some follow) else ((b1K (o9.mk (j6.mk next.2.2.n.Id a8R.1 next.2.2.n.a5 next.2.2.n.Seq next.2.2.n.d8 next.2.2.n.a7 next.2.2.n.c9 next.2.2.n.i0 next.1 next.2.2.n.a6 next.2.2.n.i9 next.2.2.n.i6 next.2.2.n.b8 next.2.2.n.f0) next.2.2.out next.2.2.told)).bind fun F7=>((a3u (o9.mk (j6.mk F7.2.n.Id F7.2.n.Acc F7.2.n.a5 F7.2.n.Seq 3 F7.2.n.a7 F7.2.n.c9 F7.2.n.i0 F7.2.n.d6 F7.1 F7.2.n.i9 F7.2.n.i6 F7.2.n.b8 F7.2.n.f0) F7.2.out F7.2.told) (l8.mk 3 0 0 F7.2.n.a7 (F7.2.n.a5.length:Int) next.1 [])).bind fun all=>some all))))))))
theorem b3v{a}:OK b0f [.optr 184 (L8 a)] (a5W a) :=
 o7 _ fun r h=>rg<|j5 6 h (fun h=>C8 a<|fE h) (fun h=>j5 14 h (fun h=>C8 a<|fE h) (fun h=>rg<|j8 a0s e5C 1 h fun next h=>C8 a<|rg<|j5 1 h (fun h=>C8 next.2.2<|fE h) (fun h=>rg<|j8 a6Z d1T 17 h fun a8R h=>rg<|j5 1 h (fun h=>rg<|j8 b8w c40 1 h fun follow h=>C8 next.2.2<|C8 follow<|fE h) (fun h=>N1<|j8 c5r d5O 2 h fun F7 h=>C8 next.2.2<|n9<|j8 a1b a64 14 h fun all h=>H1 F7.2.n.a5 F7.2.n.c9 F7.1 F7.2.out<|s6 F7.2.told<|C8 all<|fE h))))
def b5g:FS (j6×(List l8)×List n5):=⟨118,Tryz.f118,[.val B0 [],.val [some 13] [],.val [some 5] []],[none,none],[.val B0 [],.val [some 4] []],fun r=>.tup [.agg (A6 r.1),j9 13 t0 r.2.1,j9 5 z4 r.2.2],fun _=>[none,none],Tryz.func118⟩
def d72:o9->KS:=fun a=>⟨b5g.k 11 [false,false,true],(bs 4 (.ptr 1 0 0::(bs 2 (.ptr 2 0 0::(bs 80 []))))),[some [],some [.var 58 [vi 0,vi 0,.nil,.nil,vi 0,vi 0,vi 0,.nil,.nil,.b false,vi 0,vi 0,.nil,.nil,vi 0,vi 0,.nil,.b false,.nil,.b false,vi 0,vi 0,.nil,.nil,vi 0,vi 0,.nil]],some [.var 184 (b1O a)]]++a3k a⟩
def b9L(a:o9):Option (j6×(List l8)×List n5) :=
 ((a1y a).bind fun b7Y=>some (b7Y.1,b7Y.2.1,b7Y.2.2.1))
theorem f4O(r):NF b5g r d72 (fun s=>b9L s):=fun a h=>PK<|rg<|j8 a36 a5r 1 h fun b7Y h=>C8 a<|fE h
def b59(n:j6)(prog:List n8):Option (j6×(List l8)×List n5) :=
 ((a4s n).bind fun D8=>(bif (!D8) then some ((j6.mk 0 (z0.mk 0 []) [] 0 0 0 [] [] (m4.mk false (n7.mk 0 0) (n6.mk [] [] 0 0)) [] false [] (m4.mk false (n7.mk 0 0) (n6.mk [] [] 0 0)) []),[],[]) else ((a7u n).bind fun begin=>(bif n.i9 then ((a1y begin).bind fun Y0=>some (Y0.1,Y0.2.1,Y0.2.2.1)) else (bif (n.Seq==1000) then ((a1y begin).bind fun a4x=>some (a4x.1,a4x.2.1,a4x.2.2.1)) else ((a8D prog).bind fun E2=>(bif (!E2) then ((a1y begin).bind fun a4E=>some (a4E.1,a4E.2.1,a4E.2.2.1)) else ((b6d n).bind fun b3A=>((b3N b3A.g7 prog).bind fun B8=>(((bif (n.d8==2) then ((a5W (o9.mk (j6.mk begin.n.Id begin.n.Acc begin.n.a5 (m8 (begin.n.Seq+1)) begin.n.d8 begin.n.a7 begin.n.c9 begin.n.i0 begin.n.d6 begin.n.a6 true prog (m4.mk false (n7.mk n.Id (m8 (begin.n.Seq+1))) B8) begin.n.f0) begin.out begin.told)).bind fun Z5=>some (l9.brk Z5)) else (bif (n.d8==0) then ((a3u (o9.mk (j6.mk begin.n.Id begin.n.Acc begin.n.a5 (m8 (begin.n.Seq+1)) begin.n.d8 begin.n.a7 begin.n.c9 begin.n.i0 begin.n.d6 begin.n.a6 true prog (m4.mk false (n7.mk n.Id (m8 (begin.n.Seq+1))) B8) begin.n.f0) begin.out begin.told) (l8.mk 7 0 0 0 0 (m4.mk false (n7.mk n.Id (m8 (begin.n.Seq+1))) B8) [])).bind fun all=>some (l9.brk all)) else some (l9.brk (o9.mk (j6.mk begin.n.Id begin.n.Acc begin.n.a5 (m8 (begin.n.Seq+1)) begin.n.d8 begin.n.a7 begin.n.c9 begin.n.i0 begin.n.d6 begin.n.a6 true prog (m4.mk false (n7.mk n.Id (m8 (begin.n.Seq+1))) B8) begin.n.f0) begin.out begin.told)))):Option (l9 (j6×(List l8)×List n5) o9)).bind fun x=>x.go some fun j=>b9L j))))))))))
theorem f4i{n prog}:OK b5g [.agg (A6 n),j9 4 A0 prog] (b59 n prog) :=
 o7 _ fun r h=>n9<|j8 a0J a8U 1 h fun D8 h=>j5 2 h (fun h=>rg<|fE h) (fun h=>rg<|j8 b4u b8T 1 h fun begin h=>rg<|j5 2 h (fun h=>rg<|j8 a36 a5r 1 h fun Y0 h=>J2 begin.n<|C7 begin.out begin.told<|fE h) (fun h=>j5 7 h (fun h=>rg<|j8 a36 a5r 1 h fun a4x h=>J2 begin.n<|C7 begin.out begin.told<|fE h) (fun h=>j8 a37 b9T 9 h fun E2 h=>j5 11 h (fun h=>rg<|j8 a36 a5r 1 h fun a4E h=>J2 begin.n<|C7 begin.out begin.told<|fE h) (fun h=>rg4<|j8 d6H d8y 10 h fun b3A h=>j8 Q5 d3K 13 h fun B8 h=>rg<|A7 h (f4O r) fun x1 h hc1=>rg<|j5 1 h (fun h=>rg<|j8 b0f b3v 1 h fun Z5 h=>J2 begin.n<|C7 begin.out begin.told<|(p7 h hc1 fun hI=>sk [] [4,7] [(2,0),(9,0),(68,0),(68,1),(68,2),(68,3),(68,4)] hI)) (fun h=>rg<|j5 1 h (fun h=>rg<|j8 a1b a64 7 h fun all h=>J2 begin.n<|C7 begin.out begin.told<|(p7 h hc1 fun hI=>sk [] [4,7] [(2,0),(9,0),(76,0),(76,1),(76,2),(76,3),(76,4)] hI)) (fun h=>(p7 h hc1 fun hI=>s6 begin.n.f0<|sk [.frz (.cell 9 0 26) (none)] [4,7] [(2,0),(9,0),(9,1),(9,2),(9,3),(9,5),(9,6)] hI)))))))
def U8:FS (m5):=⟨119,Tryz.f119,[.val E0 om6],[none,none,none,none],[.val E0 om6,.val B0 [],.val [some 13] [],.val [some 5] []],fun r=>.agg (a7D r),fun _=>[none,none,none,none],Tryz.func119⟩
def c2B(w:m5)(n:j6)(told:List n5):(List l8)->KS:=fun Net1=>⟨U8.k 4 [false],(bs 3 (j9 5 z4 told::(.ptr 1 0 0::(bs 3 (.ptr 3 0 0::(bs 45 [])))))),[some [m6 58 27 A6 (w.a9.set n.Id.toNat n),.dead,m6 68 3 B3 w.d7,m6 62 5 z4 w.Told],some [.var 30 [.own 0 0 27 0 (w.a9.set n.Id.toNat n).length,.own 2 0 13 0 Net1.length,.own 0 2 3 0 w.d7.length,.own 0 3 5 0 w.Told.length]],some [m6 66 13 t0 Net1],some [.var 30 [.nil,.nil,.nil,.nil]]]⟩
def c2D(w:m5)(n:j6)(Net1:List l8):(List n5)->KS:=fun Told1=>⟨U8.k 6 [false,false],(bs 4 (.ptr 1 0 0::(bs 3 (.ptr 4 0 0::(bs 45 []))))),[some [m6 58 27 A6 (w.a9.set n.Id.toNat n),.dead,m6 68 3 B3 w.d7,.dead],some [.var 30 [.own 0 0 27 0 (w.a9.set n.Id.toNat n).length,.own 2 0 13 0 Net1.length,.own 0 2 3 0 w.d7.length,.own 3 0 5 0 Told1.length]],some [m6 66 13 t0 Net1],some [m6 62 5 z4 Told1],some [.var 30 [.nil,.nil,.nil,.nil]]]⟩
def c5q(w:m5)(n:j6)(Net1:List l8)(Told1:List n5):Option m5 :=
 some (m5.mk (w.a9.set n.Id.toNat n) Net1 w.d7 Told1)
theorem e7L(w n Net1)(r):NF U8 r (c2D w n Net1) (fun s=>c5q w n Net1 s):=fun Told1 h=>PK<|rg<|H1 (w.a9.set n.Id.toNat n) Net1 w.d7 Told1<|fE h
def d2w(w:m5)(n:j6)(told:List n5)(Net1:List l8):((List n5)×Int)->KS:=fun (Told,v38)=>⟨U8.k 5 [false],(bs 4 (.ptr 1 0 0::(bs 3 (.ptr 3 0 0::(bs 27 (j9 5 z4 told::(vi (told.length:Int)::(vi v38::(bs 15 []))))))))),[some [m6 58 27 A6 (w.a9.set n.Id.toNat n),.dead,m6 68 3 B3 w.d7,.dead],some [.var 30 [.own 0 0 27 0 (w.a9.set n.Id.toNat n).length,.own 2 0 13 0 Net1.length,.own 0 2 3 0 w.d7.length,.own 4 0 5 0 Told.length]],some [m6 66 13 t0 Net1],some [.var 30 [.nil,.nil,.nil,.nil]],some [m6 62 5 z4 Told]]⟩
def d9K(w:m5)(n:j6)(told:List n5)(Net1:List l8)(v38:Int):(List n5)->KS:=fun Told2=>⟨U8.k 9 [false,true,true],(bs 4 (.ptr 1 0 0::(bs 3 (.ptr 4 0 0::(bs 27 (j9 5 z4 told::(vi (told.length:Int)::(vi v38::(bs 15 []))))))))),[some [m6 58 27 A6 (w.a9.set n.Id.toNat n),.dead,m6 68 3 B3 w.d7,.dead],some [.var 30 [.own 0 0 27 0 (w.a9.set n.Id.toNat n).length,.own 2 0 13 0 Net1.length,.own 0 2 3 0 w.d7.length,.own 3 0 5 0 Told2.length]],some [m6 66 13 t0 Net1],some [m6 62 5 z4 Told2],some [.var 30 [.nil,.nil,.nil,.nil]]]⟩
def c0k(v38:Int)(Told2:List n5):Option (l7 m5 ((List n5)×Int) (List n5)) :=
 some (l7.nxt (Told2,m8 (v38+1)))
theorem f0v(w n told Net1 v38)(lc:H2 U8 (c2D w n Net1) (d2w w n told Net1)):NL lc (d9K w n told Net1 v38) (fun s=>c0k v38 s):=fun Told2 h=>PK<|rg<|(lc.nx h fun hI=>sk [] [4,8,36,37,38] [(1,0),(2,0),(4,0),(3,0)] hI)
def a33(told:List n5)(Told:List n5)(v38:Int):Option (l7 m5 ((List n5)×Int) (List n5)) :=
 (bif decide (v38<(told.length:Int)) then ((idx told v38).bind fun a20=>(((bif decide ((Told.length:Int)<60) then (t5 ((Told.length+1)*40<=140737488355328) (some (l9.brk (Told++[a20])))) else some (l9.brk Told)):Option (l9 (l7 m5 ((List n5)×Int) (List n5)) (List n5))).bind fun x=>x.go some fun j=>c0k v38 j)) else some (l7.brk Told))
theorem d8J(w n told Net1):LQ U8 (c2D w n Net1) (d2w w n told Net1) (fun s=>a33 told s.1 s.2):=fun lc (Told,v38) h=>PK<|rg<|j5 0 h (fun h=>rg<|v5 z4 0 h fun a20 e1n h=>A7 h (f0v w n told Net1 v38 lc) fun x2 h hc2=>rg<|j5 3 h (fun h=>rg<|tk 3 []<|t8 h fun e1 h=>F6 4 18 62 5 40 z4 Told a20 e1<|E4 a20<|(p7 h hc2 fun hI=>sk [] [4,8,36,37,38] [(1,0),(2,0),(18,0),(3,0)] hI)) (fun h=>(p7 h hc2 fun hI=>sk [] [4,8,36,37,38] [(1,0),(2,0),(4,0),(3,0)] hI))) (fun h=>(lc.bk h fun hI=>sk [] [4,8] [(1,0),(2,0),(4,0),(3,0)] hI))
def c1k(w:m5)(n:j6)(told:List n5)(Net1:List l8):Option m5 :=
 ((p8 (fun s:(List n5)×Int=>a33 told s.1 s.2) (w.Told,0)).bind fun x=>x.go (fun r=>some r) fun s=>c5q w n Net1 s)
theorem e7y(w n told)(r):NF U8 r (c2B w n told) (fun s=>c1k w n told s):=fun Net1 h=>PK<|rg<|lp (d8J w n told Net1) h (fun _ h=>U8.rt h) (e7L w n Net1 r) fun hI=>sk [] [4,8,36,37,38] [(1,0),(2,0),(3,0),(0,3)] hI
def c8O(w:m5)(n:j6)(list:List l8)(told:List n5):((List l8)×Int)->KS:=fun (c8,v21)=>⟨U8.k 3 [],(bs 3 (j9 5 z4 told::(.ptr 1 0 0::(bs 3 (.ptr 2 0 0::(bs 10 (j9 13 t0 list::(vi (list.length:Int)::(vi v21::(bs 32 [])))))))))),[some [m6 58 27 A6 (w.a9.set n.Id.toNat n),.dead,m6 68 3 B3 w.d7,m6 62 5 z4 w.Told],some [.var 30 [.own 0 0 27 0 (w.a9.set n.Id.toNat n).length,.own 3 0 13 0 c8.length,.own 0 2 3 0 w.d7.length,.own 0 3 5 0 w.Told.length]],some [.var 30 [.nil,.nil,.nil,.nil]],some [m6 66 13 t0 c8]]⟩
def f2m(w:m5)(n:j6)(list:List l8)(told:List n5)(v21:Int):(List l8)->KS:=fun Net2=>⟨U8.k 7 [true,true],(bs 3 (j9 5 z4 told::(.ptr 1 0 0::(bs 3 (.ptr 3 0 0::(bs 10 (j9 13 t0 list::(vi (list.length:Int)::(vi v21::(bs 32 [])))))))))),[some [m6 58 27 A6 (w.a9.set n.Id.toNat n),.dead,m6 68 3 B3 w.d7,m6 62 5 z4 w.Told],some [.var 30 [.own 0 0 27 0 (w.a9.set n.Id.toNat n).length,.own 2 0 13 0 Net2.length,.own 0 2 3 0 w.d7.length,.own 0 3 5 0 w.Told.length]],some [m6 66 13 t0 Net2],some [.var 30 [.nil,.nil,.nil,.nil]]]⟩
def c0e(v21:Int)(Net2:List l8):Option (l7 m5 ((List l8)×Int) (List l8)) :=
 some (l7.nxt (Net2,m8 (v21+1)))
theorem e9T(w n list told v21)(lc:H2 U8 (c2B w n told) (c8O w n list told)):NL lc (f2m w n list told v21) (fun s=>c0e v21 s):=fun Net2 h=>PK<|rg<|(lc.nx h fun hI=>sk [] [3,4,8,19,20,21] [(1,0),(3,0),(2,0)] hI)
def a4p(list:List l8)(c8:List l8)(v21:Int):Option (l7 m5 ((List l8)×Int) (List l8)) :=
 (bif decide (v21<(list.length:Int)) then ((idx list v21).bind fun msg=>(((bif decide ((c8.length:Int)<40) then (t5 ((c8.length+1)*152<=140737488355328) (some (l9.brk (c8++[msg])))) else some (l9.brk c8)):Option (l9 (l7 m5 ((List l8)×Int) (List l8)) (List l8))).bind fun x=>x.go some fun j=>c0e v21 j)) else some (l7.brk c8))
theorem d7b(w n list told):LQ U8 (c2B w n told) (c8O w n list told) (fun s=>a4p list s.1 s.2):=fun lc (c8,v21) h=>PK<|rg<|j5 0 h (fun h=>rg<|v5 t0 0 h fun msg hmsg h=>A7 h (e9T w n list told v21 lc) fun x2 h hc2=>rg<|j5 3 h (fun h=>rg<|tk 3 C0<|t8 h fun e2 h=>F6 4 17 66 13 152 t0 c8 msg e2<|E4 msg<|(p7 h hc2 fun hI=>sk [] [3,4,8,19,20,21] [(1,0),(17,0),(2,0)] hI)) (fun h=>(p7 h hc2 fun hI=>sk [] [3,4,8,19,20,21] [(1,0),(3,0),(2,0)] hI))) (fun h=>(lc.bk h fun hI=>sk [] [3,4,8] [(1,0),(3,0),(2,0)] hI))
def a4C(w:m5)(n:j6)(list:List l8)(told:List n5):Option m5 :=
 ((idx w.a9 n.Id).bind fun node=>((p8 (fun s:(List l8)×Int=>a4p list s.1 s.2) (w.c8,0)).bind fun x=>x.go (fun r=>some r) fun s=>c1k w n told s))
theorem b1f{w n list told}:OK U8 [.agg (a7D w),.agg (A6 n),j9 13 t0 list,j9 5 z4 told] (a4C w n list told) :=
 o7 _ fun r h=>n9<|A9 h fun node hnode h=>B9 hnode<|Q4 58 27 A6 6 B0 n hnode<|rg<|lp (d7b w n list told) h (fun _ h=>U8.rt h) (e7y w n told r) fun hI=>om ((.own 0 0 27 0 w.a9.length:V)=.own 0 0 27 0 (w.a9.set n.Id.toNat n).length) (by simp)<|sk [.is (.cell 1 0 0) (.own 0 0 27 0 (w.a9.set n.Id.toNat n).length)] [3,4,8,19,20,21] [(1,0),(3,0),(0,1)] hI
def a7V:FS (Int):=⟨172,Tryz.f172,[.val [] []],[none,none],[.val [] [],.val [] []],fun r=>vi r,fun _=>[none,none],Tryz.func172⟩
def c6G:Unit->KS:=fun _=>⟨a7V.k 4 [false,false],(bs 28 []),[some []]⟩
def c6T:Option Int :=
 some (-1)
theorem e52(r):NF a7V r c6G (fun s=>c6T):=fun _ h=>PK<|rg<|fE h
def e8r(who:Int):Int->KS:=fun n=>⟨a7V.k 3 [false],(bs 1 (vi who::(bs 3 (vi n::(bs 22 []))))),[some []]⟩
def a2r(who:Int)(n:Int):Option (l7 Int Int Unit) :=
 (bif decide (n<=3000) then (bif decide (n>0) then ((b4H n).bind fun a5L=>(bif (a5L==who) then some (l7.ret n) else some (l7.nxt (m8 (n+1))))) else some (l7.brk ())) else some (l7.brk ()))
theorem d89(who):LQ a7V c6G (e8r who) (fun s=>a2r who s):=fun lc n h=>PK<|rg<|j5 2 h (fun h=>j5 5 h (fun h=>rg<|j8 c5j d6q 1 h fun a5L h=>j5 3 h (fun h=>rg<|fL lc h) (fun h=>rg<|(lc.nx h fun hI=>sk [] [1,5] [] hI))) (fun h=>(lc.bk h fun hI=>sk [] [] [] hI))) (fun h=>(lc.bk h fun hI=>sk [] [] [] hI))
def c0s(bal:Int)(who:Int):Option Int :=
 (bif decide (bal<0) then some (-1) else ((D4 who 0 2).bind fun in_=>(bif (!in_) then some (-1) else ((p8 (fun s:Int=>a2r who s) (m8 (bal+1))).bind fun x=>x.go (fun r=>some r) fun s=>c6T))))
theorem f02{bal who}:OK a7V [vi bal,vi who] (c0s bal who) :=
 o7 _ fun r h=>n9<|j5 2 h (fun h=>rg<|fE h) (fun h=>j8 D1 F4 4 h fun in_ h=>j5 6 h (fun h=>rg<|fE h) (fun h=>rg<|lp (d89 who) h (fun _ h=>a7V.rt h) (e52 r) fun hI=>sk [] [1,5] [] hI))
def b9g:FS (z0×Bool):=⟨174,Tryz.f174,[.val [none,some 8] [],.val [] []],[none,none],[.val [none,some 8] [],.val [] []],fun r=>.tup [.agg (Z4 r.1),.b r.2],fun _=>[none,none],Tryz.func174⟩
def b0i(a:z0)(bal:Int):Option (z0×Bool) :=
 ((b0G a).bind fun O8=>(bif (!O8) then some ((z0.mk 0 []),false) else ((a5s a).bind fun R2=>((D4 bal 1 3000).bind fun in_=>(bif (!in_) then some (R2,false) else (bif decide (bal<a.g9) then some (R2,false) else some ((z0.mk bal R2.a6),true)))))))
theorem c4e{a bal}:OK b9g [.agg (Z4 a),vi bal] (b0i a bal) :=
 o7 _ fun r h=>n9<|j8 a4X c38 1 h fun O8 h=>j5 2 h (fun h=>rg<|fE h) (fun h=>rg<|j8 a83 b0F 1 h fun R2 h=>rg<|j8 D1 F4 1 h fun in_ h=>j5 3 h (fun h=>rg<|s6 R2.a6<|fE h) (fun h=>j5 8 h (fun h=>rg<|s6 R2.a6<|fE h) (fun h=>n9<|s6 R2.a6<|fE h)))
def b5z:FS (j6×List l8):=⟨120,Tryz.f120,[.val B0 [],.val [some 13] []],[none],[.val B0 []],fun r=>.tup [.agg (A6 r.1),j9 13 t0 r.2],fun _=>[none],Tryz.func120⟩
def e3d:o9->KS:=fun a=>⟨b5z.k 12 [false,true],(bs 2 (.ptr 1 0 0::(bs 1 (.ptr 2 0 0::(bs 74 []))))),[some [],some [.var 58 [vi 0,vi 0,.nil,.nil,vi 0,vi 0,vi 0,.nil,.nil,.b false,vi 0,vi 0,.nil,.nil,vi 0,vi 0,.nil,.b false,.nil,.b false,vi 0,vi 0,.nil,.nil,vi 0,vi 0,.nil]],some [.var 184 (b1O a)]]++a3k a⟩
def b2j(a:o9):Option (j6×List l8) :=
 ((a1y a).bind fun Y0=>some (Y0.1,Y0.2.1))
theorem f2R(r):NF b5z r e3d (fun s=>b2j s):=fun a h=>PK<|rg<|j8 a36 a5r 1 h fun Y0 h=>C8 a<|rg<|fE h
def b6B(n:j6):Option (j6×List l8) :=
 ((a4s n).bind fun D8=>(bif (!D8) then some ((j6.mk 0 (z0.mk 0 []) [] 0 0 0 [] [] (m4.mk false (n7.mk 0 0) (n6.mk [] [] 0 0)) [] false [] (m4.mk false (n7.mk 0 0) (n6.mk [] [] 0 0)) []),[]) else ((a7u n).bind fun begin=>((c0s n.Acc.g9 n.Id).bind fun a2M=>(((bif decide (a2M>=0) then ((b34 begin).bind fun follow=>((b0i follow.n.Acc a2M).bind fun V7=>((b1K (o9.mk (j6.mk follow.n.Id V7.1 follow.n.a5 follow.n.Seq 1 a2M follow.n.c9 follow.n.i0 follow.n.d6 follow.n.a6 follow.n.i9 follow.n.i6 follow.n.b8 follow.n.f0) follow.out follow.told)).bind fun F7=>((a3u (o9.mk (j6.mk F7.2.n.Id F7.2.n.Acc F7.2.n.a5 F7.2.n.Seq F7.2.n.d8 F7.2.n.a7 F7.1 F7.2.n.Acc.a6 F7.2.n.d6 F7.2.n.a6 F7.2.n.i9 F7.2.n.i6 F7.2.n.b8 F7.2.n.f0) F7.2.out F7.2.told) (l8.mk 1 0 0 a2M (n.a5.length:Int) (m4.mk false (n7.mk 0 0) (n6.mk [] [] 0 0)) [])).bind fun all=>some (l9.brk all))))) else some (l9.brk begin)):Option (l9 (j6×List l8) o9)).bind fun x=>x.go some fun j=>b2j j)))))
theorem e3a{n}:OK b5z [.agg (A6 n)] (b6B n) :=
 o7 _ fun r h=>n9<|j8 a0J a8U 1 h fun D8 h=>j5 2 h (fun h=>rg<|fE h) (fun h=>rg<|j8 b4u b8T 1 h fun begin h=>rg<|j8 a7V f02 5 h fun a2M h=>A7 h (f2R r) fun x1 h hc1=>rg<|j5 1 h (fun h=>rg<|j8 b8w c40 1 h fun follow h=>J2 begin.n<|C7 begin.out begin.told<|rg<|j8 b9g c4e 7 h fun V7 h=>N1<|j8 c5r d5O 2 h fun F7 h=>C8 follow<|n9<|j8 a1b a64 6 h fun all h=>H1 F7.2.n.a5 F7.1 F7.2.n.a6 F7.2.out<|s6 F7.2.told<|(p7 h hc1 fun hI=>sk [] [2,4] [(2,0),(8,0),(71,0),(71,1),(71,2),(71,3),(71,4)] hI)) (fun h=>(p7 h hc1 fun hI=>s6 begin.n.f0<|sk [.frz (.cell 8 0 26) (none)] [2,4] [(2,0),(8,0),(8,1),(8,2),(8,3),(8,5),(8,6)] hI)))
def b5a:FS (j6×(List l8)×List n5):=⟨121,Tryz.f121,[.val B0 [],.val [some 13] [],.val [some 5] []],[none],[.val B0 []],fun r=>.tup [.agg (A6 r.1),j9 13 t0 r.2.1,j9 5 z4 r.2.2],fun _=>[none],Tryz.func121⟩
def d71:o9->KS:=fun a=>⟨b5a.k 7 [false,true],(bs 2 (.ptr 1 0 0::(bs 2 (.ptr 2 0 0::(bs 55 []))))),[some [],some [.var 58 [vi 0,vi 0,.nil,.nil,vi 0,vi 0,vi 0,.nil,.nil,.b false,vi 0,vi 0,.nil,.nil,vi 0,vi 0,.nil,.b false,.nil,.b false,vi 0,vi 0,.nil,.nil,vi 0,vi 0,.nil]],some [.var 184 (b1O a)]]++a3k a⟩
def b8U(a:o9):Option (j6×(List l8)×List n5) :=
 ((a1y a).bind fun Y0=>some (Y0.1,Y0.2.1,Y0.2.2.1))
theorem e3O(r):NF b5a r d71 (fun s=>b8U s):=fun a h=>PK<|rg<|j8 a36 a5r 1 h fun Y0 h=>C8 a<|fE h
def b9z(n:j6):Option (j6×(List l8)×List n5) :=
 ((a4s n).bind fun D8=>(bif (!D8) then some ((j6.mk 0 (z0.mk 0 []) [] 0 0 0 [] [] (m4.mk false (n7.mk 0 0) (n6.mk [] [] 0 0)) [] false [] (m4.mk false (n7.mk 0 0) (n6.mk [] [] 0 0)) []),[],[]) else ((a7u n).bind fun begin=>((a3u begin (l8.mk 8 0 0 0 (n.a5.length:Int) (m4.mk false (n7.mk 0 0) (n6.mk [] [] 0 0)) [])).bind fun all=>(((bif (n.d8==1) then ((a3u all (l8.mk 1 0 0 n.a7 (n.a5.length:Int) (m4.mk false (n7.mk 0 0) (n6.mk [] [] 0 0)) [])).bind fun d3S=>some (l9.brk d3S)) else (bif (n.d8==2) then ((a5W all).bind fun Z5=>some (l9.brk Z5)) else (bif (n.d8==3) then ((a3u all (l8.mk 3 0 0 n.a7 (n.a5.length:Int) n.d6 [])).bind fun d1h=>some (l9.brk d1h)) else (bif n.i9 then ((a3u all (l8.mk 7 0 0 0 0 n.b8 [])).bind fun c9g=>some (l9.brk c9g)) else some (l9.brk all))))):Option (l9 (j6×(List l8)×List n5) o9)).bind fun x=>x.go some fun j=>b8U j)))))
theorem e7H{n}:OK b5a [.agg (A6 n)] (b9z n) :=
 o7 _ fun r h=>n9<|j8 a0J a8U 1 h fun D8 h=>j5 2 h (fun h=>rg<|fE h) (fun h=>rg<|j8 b4u b8T 1 h fun begin h=>n9<|j8 a1b a64 3 h fun all h=>J2 begin.n<|C7 begin.out begin.told<|A7 h (e3O r) fun x1 h hc1=>rg<|j5 3 h (fun h=>rg<|j8 a1b a64 5 h fun d3S h=>C8 all<|(p7 h hc1 fun hI=>sk [] [2,5] [(2,0),(9,0),(28,0),(28,1),(28,2),(28,3),(28,4)] hI)) (fun h=>rg<|j5 3 h (fun h=>rg<|j8 b0f b3v 1 h fun Z5 h=>C8 all<|(p7 h hc1 fun hI=>sk [] [2,5] [(2,0),(9,0),(28,0),(28,1),(28,2),(28,3),(28,4)] hI)) (fun h=>rg<|j5 3 h (fun h=>rg<|j8 a1b a64 7 h fun d1h h=>C8 all<|(p7 h hc1 fun hI=>sk [] [2,5] [(2,0),(9,0),(38,0),(38,1),(38,2),(38,3),(38,4)] hI)) (fun h=>rg<|j5 2 h (fun h=>rg<|j8 a1b a64 4 h fun c9g h=>C8 all<|(p7 h hc1 fun hI=>sk [] [2,5] [(2,0),(9,0),(38,0),(38,1),(38,2),(38,3),(38,4)] hI)) (fun h=>(p7 h hc1 fun hI=>sk [] [2,5] [(2,0),(9,0),(18,0),(18,1),(18,2),(18,3),(18,4)] hI))))))
def d2C:FS (j6):=⟨122,Tryz.f122,[.val B0 []],[none],[.val B0 []],fun r=>.agg (A6 r),fun _=>[none],Tryz.func122⟩
def b8K(n:j6):Option j6 :=
 ((a4s n).bind fun D8=>(bif (!D8) then some (j6.mk 0 (z0.mk 0 []) [] 0 0 0 [] [] (m4.mk false (n7.mk 0 0) (n6.mk [] [] 0 0)) [] false [] (m4.mk false (n7.mk 0 0) (n6.mk [] [] 0 0)) []) else ((a8O (j6.mk n.Id n.Acc n.a5 n.Seq 0 0 [] [] (m4.mk false (n7.mk 0 0) (n6.mk [] [] 0 0)) [] false [] (m4.mk false (n7.mk 0 0) (n6.mk [] [] 0 0)) [])).bind fun Y4=>some Y4)))
theorem e3J{n}:OK d2C [.agg (A6 n)] (b8K n) :=
 o7 _ fun r h=>n9<|j8 a0J a8U 1 h fun D8 h=>j5 2 h (fun h=>rg<|fE h) (fun h=>rg<|j8 b4N b9a 9 h fun Y4 h=>J2 Y4<|fE h)
def a7Y:FS (m5):=⟨64,Tryz.f64,[.val E0 om6],[none,none],[.val E0 om6,.val [none,none,some 4] []],fun r=>.agg (a7D r),fun _=>[none,none],Tryz.func64⟩
def e1H:m5->KS:=fun w1=>⟨a7Y.k 9 [true,false,true],(bs 2 (.ptr 1 0 0::(bs 1 (.ptr 6 0 0::(bs 86 []))))),[some [.dead,.dead,.dead,.dead],some [.var 30 [.own 2 0 27 0 w1.a9.length,.own 3 0 13 0 w1.c8.length,.own 4 0 3 0 w1.d7.length,.own 5 0 5 0 w1.Told.length]],some [m6 58 27 A6 w1.a9],some [m6 66 13 t0 w1.c8],some [m6 68 3 B3 w1.d7],some [m6 62 5 z4 w1.Told],some [.var 30 [.nil,.nil,.nil,.nil]]]⟩
def b6C(w1:m5):Option m5 :=
 some w1
theorem e1y(r):NF a7Y r e1H (fun s=>b6C s):=fun w1 h=>PK<|rg<|B2 w1<|fE h
def a5F(w:m5)(e_:s5):Option m5 :=
 ((idx w.a9 e_.A).bind fun node=>(((bif (e_.a8==1) then (bif decide ((w.d7.length:Int)>=60) then some (l9.ret w) else ((b59 node e_.i6).bind fun I5=>((a4C w I5.1 I5.2.1 I5.2.2).bind fun a2G=>(bif (I5.1.Seq != node.Seq) then (t5 ((a2G.d7.length+1)*40<=140737488355328) (some (l9.brk (m5.mk a2G.a9 a2G.c8 (a2G.d7++[(x6.mk (n7.mk node.Id I5.1.Seq) e_.i6)]) a2G.Told)))) else some (l9.brk a2G))))) else (bif (e_.a8==5) then ((b6B node).bind fun a0H=>((a4C w a0H.1 a0H.2 []).bind fun b3l=>some (l9.brk b3l))) else (bif (e_.a8==6) then ((b9z node).bind fun Y6=>((a4C w Y6.1 Y6.2.1 Y6.2.2).bind fun d02=>some (l9.brk d02))) else (bif (e_.a8==7) then ((b8K node).bind fun a1M=>((a4C w a1M [] []).bind fun d5S=>some (l9.brk d5S))) else some (l9.brk w))))):Option (l9 m5 m5)).bind fun x=>x.go some fun j=>b6C j))
theorem c0m{w e_}:OK a7Y [.agg (a7D w),.agg (H3 e_)] (a5F w e_) :=
 o7 _ fun r h=>n9<|A9 h fun node hnode h=>B9 hnode<|H9 A6 5 hnode<|rg<|A7 h (e1y r) fun x1 h hc1=>rg<|j5 1 h (fun h=>rg<|j5 3 h (fun h=>rg<|(C1 h hc1 fun h=>B2 w<|fE h)) (fun h=>rg<|j8 b5g f4i 3 h fun I5 h=>rg<|j8 U8 b1f 4 h fun a2G h=>B2 w<|rg<|j5 4 h (fun h=>rg<|tk 10 [none,none,some 4]<|t8 h fun e1 h=>F6 11 54 68 3 40 B3 a2G.d7 (x6.mk (n7.mk node.Id I5.1.Seq) e_.i6) e1<|E4 (x6.mk (n7.mk node.Id I5.1.Seq) e_.i6)<|(p7 h hc1 fun hI=>sk [] [2,4] [(1,0),(36,0),(36,1),(54,0),(36,3),(3,0)] hI)) (fun h=>(p7 h hc1 fun hI=>sk [] [2,4] [(1,0),(36,0),(36,1),(36,2),(36,3),(3,0)] hI)))) (fun h=>rg<|j5 1 h (fun h=>rg<|j8 b5z e3a 1 h fun a0H h=>rg<|j8 U8 b1f 3 h fun b3l h=>B2 w<|(p7 h hc1 fun hI=>sk [] [2,4] [(1,0),(29,0),(29,1),(29,2),(29,3),(3,0)] hI)) (fun h=>rg<|j5 1 h (fun h=>rg<|j8 b5a e7H 1 h fun Y6 h=>rg<|j8 U8 b1f 4 h fun d02 h=>B2 w<|(p7 h hc1 fun hI=>sk [] [2,4] [(1,0),(34,0),(34,1),(34,2),(34,3),(3,0)] hI)) (fun h=>rg<|j5 1 h (fun h=>rg<|j8 d2C e3J 2 h fun a1M h=>j8 U8 b1f 3 h fun d5S h=>B2 w<|(p7 h hc1 fun hI=>sk [] [2,4] [(1,0),(25,0),(25,1),(25,2),(25,3),(3,0)] hI)) (fun h=>(p7 h hc1 fun hI=>sk [] [2,4] [(1,0),(0,0),(0,1),(0,2),(0,3),(3,0)] hI)))))
def c3F:FS (List l8):=⟨123,Tryz.f123,[.val [some 13] [some 66]],[none,none],[.val [some 13] [],.val [] []],fun r=>u9 66 13 t0 r,fun _=>[none,none],Tryz.func123⟩
def b4l(list:List l8)(at_:Int):Option (List l8) :=
 (t5 ((0:Int)<=at_/\at_<=(list.length:Int)) ((t5 ((([]:List l8).length+((list.drop 0).take (at_.toNat-0)).length)*152<=140737488355328) ((t5 ((0:Int)<=m8 (at_+1)/\m8 (at_+1)<=(list.length:Int)) ((t5 (((([]:List l8)++((list.drop 0).take (at_.toNat-0))).length+((list.drop (m8 (at_+1)).toNat).take (list.length-(m8 (at_+1)).toNat)).length)*152<=140737488355328) (some ((([]:List l8)++((list.drop 0).take (at_.toNat-0)))++((list.drop (m8 (at_+1)).toNat).take (list.length-(m8 (at_+1)).toNat)))))))))))
theorem d2E{list at_}:OK c3F [j9 13 t0 list,vi at_] (b4l list at_) :=
 o7 _ fun r h=>n9<|tk 0 C0<|t8 h fun e1 h=>om (V.sl 13 (at_.toNat-0) (((list.map t0).drop 0).take (at_.toNat-0))=j9 13 t0 ((list.drop 0).take (at_.toNat-0))) (b93 e1)<|ob e1.1<|ob e1.2<|tl (3,{v:=some (j9 13 t0 ((list.drop 0).take (at_.toNat-0)))})<|t8 h fun e2 h=>om (V.own 6 0 13 0 (([]:List l8).length+((list.drop 0).take (at_.toNat-0)).length)=.own 6 0 13 0 (([]:List l8)++((list.drop 0).take (at_.toNat-0))).length) (by first|exact congrArg (V.own 6 0 13 0) f5u.symm|simp)<|om (s8.row 66 13 (([]:List l8).length+((list.drop 0).take (at_.toNat-0)).length) (([]:List l8).map t0++((list.drop 0).take (at_.toNat-0)).map t0)=m6 66 13 t0 (([]:List l8)++((list.drop 0).take (at_.toNat-0)))) (by first|exact c3j rfl rfl|simp [m6])<|A8 l8<|ob e2<|tl (4,{v:=some (.own 6 0 13 0 (([]:List l8)++((list.drop 0).take (at_.toNat-0))).length),e:=some (m6 66 13 t0 (([]:List l8)++((list.drop 0).take (at_.toNat-0))))})<|t8 h fun e3 h=>om (V.sl 13 (list.length-(m8 (at_+1)).toNat) (((list.map t0).drop (m8 (at_+1)).toNat).take (list.length-(m8 (at_+1)).toNat))=j9 13 t0 ((list.drop (m8 (at_+1)).toNat).take (list.length-(m8 (at_+1)).toNat))) (b5C e3)<|ob e3.1<|ob e3.2<|tl (8,{v:=some (j9 13 t0 ((list.drop (m8 (at_+1)).toNat).take (list.length-(m8 (at_+1)).toNat)))})<|t8 h fun e4 h=>apL 9 11 66 13 152 t0 (([]:List l8)++((list.drop 0).take (at_.toNat-0))) ((list.drop (m8 (at_+1)).toNat).take (list.length-(m8 (at_+1)).toNat)) e4<|s6 ((([]:List l8)++((list.drop 0).take (at_.toNat-0)))++((list.drop (m8 (at_+1)).toNat).take (list.length-(m8 (at_+1)).toNat)))<|fE h
def c0i:FS (o9):=⟨181,Tryz.f181,[],[some (0,.ptr I7 L3),none],[.ptr I7 L3,.val [] []],fun _=>.tup [],fun r=>[some (.optr 184 (L8 r)),none],Tryz.func181⟩
def a92(a:o9)(bal:Int):Option o9 :=
 (bif (a.n.d8 != 0) then (bif decide (bal>a.n.a7) then ((b34 a).bind fun follow=>some follow) else some a) else some a)
theorem c42{a bal}:OK c0i [.optr 184 (L8 a),vi bal] (a92 a bal) :=
 o7 _ fun r h=>rg<|j5 6 h (fun h=>j5 14 h (fun h=>rg<|j8 b8w c40 1 h fun follow h=>C8 a<|C8 follow<|fE h) (fun h=>C8 a<|fE h)) (fun h=>C8 a<|fE h)
def b6W:FS (o9):=⟨176,Tryz.f176,[],[some (0,.ptr I7 L3),none],[.ptr I7 L3,.val C0 []],fun _=>.tup [],fun r=>[some (.optr 184 (L8 r)),none],Tryz.func176⟩
def d65(m:l8)(yield:o9):(List m7)->KS:=fun c0j=>⟨b6W.k 8 [false,true],(.ptr 0 0 0::(bs 2 (.ptr 6 0 0::(bs 2 (j9 8 q9 c0j::(bs 54 [])))))),[some [.var 184 (b2G yield),.dead,.dead,.dead,.dead,.dead]]++a3k yield++[some [.var 66 (a4M m)]]⟩
def b6q(m:l8)(yield:o9)(c0j:List m7):Option o9 :=
 ((a4t yield m.c9 (l8.mk 2 0 0 m.a7 m.g8 (m4.mk false (n7.mk 0 0) (n6.mk [] [] 0 0)) c0j)).bind fun a9p=>some a9p)
theorem e2q(m yield)(r):NF b6W r (d65 m yield) (fun s=>b6q m yield s):=fun c0j h=>PK<|rg<|j8 a7n a8K 9 h fun a9p h=>C8 yield<|C8 a9p<|fE h
def b7v(a:o9)(m:l8):Option o9 :=
 ((b0i a.n.Acc m.a7).bind fun V7=>(bif (!V7.2) then ((a4t a m.c9 (l8.mk 6 0 0 a.n.Acc.g9 0 (m4.mk false (n7.mk 0 0) (n6.mk [] [] 0 0)) [])).bind fun Z6=>some Z6) else ((a92 (o9.mk (j6.mk a.n.Id V7.1 a.n.a5 a.n.Seq a.n.d8 a.n.a7 a.n.c9 a.n.i0 a.n.d6 a.n.a6 a.n.i9 a.n.i6 a.n.b8 a.n.f0) a.out a.told) m.a7).bind fun yield=>(((bif decide (m.g8<(V7.1.a6.length:Int)) then (t5 ((0:Int)<=m.g8/\m.g8<=(V7.1.a6.length:Int)) (some (l9.brk ((V7.1.a6.drop m.g8.toNat).take (V7.1.a6.length-m.g8.toNat))))) else some (l9.brk [])):Option (l9 o9 (List m7))).bind fun x=>x.go some fun j=>b6q m yield j))))
theorem d8U{a m}:OK b6W [.optr 184 (L8 a),.agg (t0 m)] (b7v a m) :=
 o7 _ fun r h=>n9<|j8 b9g c4e 7 h fun V7 h=>rg<|j5 1 h (fun h=>rg<|j8 a7n a8K 10 h fun Z6 h=>C8 a<|C8 Z6<|fE h) (fun h=>n9<|j8 c0i c42 3 h fun yield h=>C8 a<|rg<|A7 h (e2q m yield r) fun x1 h hc1=>rg<|j5 5 h (fun h=>rg<|t8 h fun e1 h=>om (V.sl 8 (V7.1.a6.length-m.g8.toNat) (((V7.1.a6.map q9).drop m.g8.toNat).take (V7.1.a6.length-m.g8.toNat))=j9 8 q9 ((V7.1.a6.drop m.g8.toNat).take (V7.1.a6.length-m.g8.toNat))) (b5C e1)<|ob e1.1<|ob e1.2<|tl (4,{v:=some (j9 8 q9 ((V7.1.a6.drop m.g8.toNat).take (V7.1.a6.length-m.g8.toNat)))})<|(p7 h hc1 fun hI=>sk [] [0,3,6] [(27,0),(27,1),(27,2),(27,3),(27,4),(1,0)] hI)) (fun h=>(p7 h hc1 fun hI=>sk [.frz (.tmp 6) (some 8)] [0,3,6] [(27,0),(27,1),(27,2),(27,3),(27,4),(1,0)] hI)))
def a3j:FS (List m7):=⟨212,Tryz.f212,[.val [some 8] []],[none,none],[.val [some 8] [],.val [some 8] []],fun r=>j9 8 q9 r,fun _=>[none,none],Tryz.func212⟩
def b6S:(List m7)->KS:=fun out1=>⟨a3j.k 5 [false,false],(bs 5 (.own 1 0 8 0 out1.length::(bs 67 []))),[some [],some [m6 158 8 q9 out1]]⟩
def c3u(out1:List m7):Option (List m7) :=
 ((a87 out1).bind fun a0P=>some a0P)
theorem d9n(r):NF a3j r b6S (fun s=>c3u s):=fun out1 h=>PK<|rg<|j8 a3T b7B 1 h fun a0P h=>C7 out1 a0P<|fE h
def c5O(a:List m7)(b:List m7):((List m7)×Int)->KS:=fun (out,i)=>⟨a3j.k 4 [false],(j9 8 q9 a::(j9 8 q9 b::(bs 3 (.own 1 0 8 0 out.length::(vi i::(bs 66 [])))))),[some [],some [m6 158 8 q9 out]]⟩
def f0S(a:List m7)(b:List m7)(out:List m7)(i:Int):Unit->KS:=fun _=>⟨a3j.k 5 [false,true],(j9 8 q9 a::(j9 8 q9 b::(bs 3 (.own 1 0 8 0 out.length::(vi i::(bs 66 [])))))),[some [],some [m6 158 8 q9 out]]⟩
def d9S(a:List m7)(b:List m7)(i:Int):(List m7)->KS:=fun out2=>⟨a3j.k 7 [false,true,true],(j9 8 q9 a::(j9 8 q9 b::(bs 3 (.own 1 0 8 0 out2.length::(vi i::(bs 66 [])))))),[some [],some [m6 158 8 q9 out2]]⟩
def c26(i:Int)(out2:List m7):Option (l7 (List m7) ((List m7)×Int) (List m7)) :=
 some (l7.nxt (out2,m8 (i+1)))
theorem e2w(a b i)(lc:H2 a3j b6S (c5O a b)):NL lc (d9S a b i) (fun s=>c26 i s):=fun out2 h=>PK<|rg<|(lc.nx h fun hI=>sk [] [0,1,5,6] [(1,0)] hI)
def b99(a:List m7)(b:List m7)(out:List m7)(i:Int):Option (l7 (List m7) ((List m7)×Int) (List m7)) :=
 (((bif decide (i>=(a.length:Int)) then ((idx b i).bind fun vote=>(t5 ((out.length+1)*96<=140737488355328) (some (l9.brk (out++[vote]))))) else (bif decide (i>=(b.length:Int)) then ((idx a i).bind fun T3=>(t5 ((out.length+1)*96<=140737488355328) (some (l9.brk (out++[T3]))))) else ((idx a i).bind fun b3a=>((idx b i).bind fun b3O=>(bif decide (b3a.a7>=b3O.a7) then (t5 ((out.length+1)*96<=140737488355328) (some (l9.brk (out++[b3a])))) else (t5 ((out.length+1)*96<=140737488355328) (some (l9.brk (out++[b3O]))))))))):Option (l9 (l7 (List m7) ((List m7)×Int) (List m7)) (List m7))).bind fun x=>x.go some fun j=>c26 i j)
theorem f3B(a b out i)(lc:H2 a3j b6S (c5O a b)):NL lc (f0S a b out i) (fun s=>b99 a b out i):=fun _ h=>PK<|A7 h (e2w a b i lc) fun x2 h hc2=>rg<|j5 4 h (fun h=>rg<|v5 q9 3 h fun vote N7 h=>tk 5 V5<|t8 h fun e1 h=>F6 6 13 158 8 96 q9 out vote e1<|E4 vote<|(p7 h hc2 fun hI=>sk [] [0,1,5,6] [(13,0)] hI)) (fun h=>rg<|j5 4 h (fun h=>rg<|v5 q9 3 h fun T3 a4b h=>tk 5 V5<|t8 h fun e2 h=>F6 6 31 158 8 96 q9 out T3 e2<|E4 T3<|(p7 h hc2 fun hI=>sk [] [0,1,5,6] [(31,0)] hI)) (fun h=>v5 q9 7 h fun b3a e4X h=>v5 q9 12 h fun b3O d6X h=>j5 17 h (fun h=>rg<|J0 q9 3 e4X<|tk 5 V5<|t8 h fun e3 h=>F6 6 31 158 8 96 q9 out b3a e3<|E4 b3a<|(p7 h hc2 fun hI=>sk [] [0,1,5,6] [(31,0)] hI)) (fun h=>rg<|J0 q9 3 d6X<|tk 5 V5<|t8 h fun e4 h=>F6 6 31 158 8 96 q9 out b3O e4<|E4 b3O<|(p7 h hc2 fun hI=>sk [] [0,1,5,6] [(31,0)] hI))))
def a66(a:List m7)(b:List m7)(out:List m7)(i:Int):Option (l7 (List m7) ((List m7)×Int) (List m7)) :=
 (((bif decide (i<(a.length:Int)) then some (l9.brk ()) else (bif decide (i<(b.length:Int)) then some (l9.brk ()) else some (l9.ret (l7.brk out)))):Option (l9 (l7 (List m7) ((List m7)×Int) (List m7)) Unit)).bind fun x=>x.go some fun j=>b99 a b out i)
theorem f4m(a b):LQ a3j b6S (c5O a b) (fun s=>a66 a b s.1 s.2):=fun lc (out,i) h=>PK<|A7 h (f3B a b out i lc) fun x2 h hc2=>rg<|j5 4 h (fun h=>(p7 h hc2 fun hI=>sk [] [0,1,5,6] [(1,0)] hI)) (fun h=>j5 9 h (fun h=>(p7 h hc2 fun hI=>sk [] [0,1,5,6] [(1,0)] hI)) (fun h=>(C1 h hc2 fun h=>(lc.bk h fun hI=>sk [] [5] [(1,0)] hI))))
def b69(a:List m7)(b:List m7):Option (List m7) :=
 ((a60 a).bind fun M2=>(bif (!M2) then some [] else ((a60 b).bind fun d6F=>(bif (!d6F) then some [] else ((p8 (fun s:(List m7)×Int=>a66 a b s.1 s.2) ([],0)).bind fun x=>x.go (fun r=>some r) fun s=>c3u s)))))
theorem d9k{a b}:OK a3j [j9 8 q9 a,j9 8 q9 b] (b69 a b) :=
 o7 _ fun r h=>n9<|j8 a3i b1Q 1 h fun M2 h=>j5 3 h (fun h=>rg<|fE h) (fun h=>j8 a3i b1Q 5 h fun d6F h=>j5 7 h (fun h=>rg<|fE h) (fun h=>n9<|lp (f4m a b) h (fun _ h=>a3j.rt h) (d9n r) fun hI=>sk [.own (.tmp 5) 158 8] [0,1,5,6] [(12,0)] hI))
def a4j:FS (Int):=⟨213,Tryz.f213,[.val [] []],[none],[.val [some 1] []],fun r=>vi r,fun _=>[none],Tryz.func213⟩
def c5w:Int->KS:=fun n1=>⟨a4j.k 4 [false],(bs 3 (vi n1::(bs 13 []))),[some []]⟩
def c8i(n1:Int):Option Int :=
 some n1
theorem e4T(r):NF a4j r c5w (fun s=>c8i s):=fun n1 h=>PK<|rg<|fE h
def c9j(list:List Bool):(Int×Int)->KS:=fun (n,v8)=>⟨a4j.k 3 [],(bs 3 (vi n::(bs 2 (j9 1 eB list::(vi (list.length:Int)::(vi v8::(bs 8 []))))))),[some []]⟩
def e4x(list:List Bool)(v8:Int):Int->KS:=fun n2=>⟨a4j.k 7 [true,true],(bs 3 (vi n2::(bs 2 (j9 1 eB list::(vi (list.length:Int)::(vi v8::(bs 8 []))))))),[some []]⟩
def c1x(v8:Int)(n2:Int):Option (l7 Int (Int×Int) Int) :=
 some (l7.nxt (n2,m8 (v8+1)))
theorem e4k(list v8)(lc:H2 a4j c5w (c9j list)):NL lc (e4x list v8) (fun s=>c1x v8 s):=fun n2 h=>PK<|rg<|(lc.nx h fun hI=>sk [] [3,6,7,8] [] hI)
def a4Y(list:List Bool)(n:Int)(v8:Int):Option (l7 Int (Int×Int) Int) :=
 (bif decide (v8<(list.length:Int)) then ((idx list v8).bind fun y=>(((bif y then some (l9.brk (m8 (n+1))) else some (l9.brk n)):Option (l9 (l7 Int (Int×Int) Int) Int)).bind fun x=>x.go some fun j=>c1x v8 j)) else some (l7.brk n))
theorem e1h(list):LQ a4j c5w (c9j list) (fun s=>a4Y list s.1 s.2):=fun lc (n,v8) h=>PK<|rg<|j5 0 h (fun h=>rg<|v5 eB 0 h fun y hy h=>A7 h (e4k list v8 lc) fun x2 h hc2=>rg<|j5 0 h (fun h=>rg<|(p7 h hc2 fun hI=>sk [] [3,6,7,8] [] hI)) (fun h=>(p7 h hc2 fun hI=>sk [] [3,6,7,8] [] hI))) (fun h=>(lc.bk h fun hI=>sk [] [3] [] hI))
def b12(list:List Bool):Option Int :=
 ((p8 (fun s:Int×Int=>a4Y list s.1 s.2) (0,0)).bind fun x=>x.go (fun r=>some r) fun s=>c8i s)
theorem d0v{list}:OK a4j [j9 1 eB list] (b12 list) :=
 o7 _ fun r h=>N1<|lp (e1h list) h (fun _ h=>a4j.rt h) (e4T r) fun hI=>sk [] [3,6,7,8] [] hI
def d1H:FS (o9):=⟨177,Tryz.f177,[],[some (0,.ptr I7 L3),none],[.ptr I7 L3,.val C0 []],fun _=>.tup [],fun r=>[some (.optr 184 (L8 r)),none],Tryz.func177⟩
def b5x(a:o9)(m:l8):Option o9 :=
 (bif (a.n.d8 != 1) then some a else (bif (m.a7 != a.n.a7) then some a else ((idx a.n.c9 m.c9).bind fun y=>(t5 (0<=m.g8/\m.g8*96<=140737488355328) ((t5 (((f5k m.g8.toNat (m7.mk 0 (m4.mk false (n7.mk 0 0) (n6.mk [] [] 0 0)))).length+m.a6.length)*96<=140737488355328) (((b69 a.n.i0 ((f5k m.g8.toNat (m7.mk 0 (m4.mk false (n7.mk 0 0) (n6.mk [] [] 0 0))))++m.a6)).bind fun c1O=>((b12 (a.n.c9.set m.c9.toNat true)).bind fun b2Q=>(bif decide (b2Q>=2) then ((a5W (o9.mk (j6.mk a.n.Id a.n.Acc a.n.a5 a.n.Seq 2 a.n.a7 [] c1O a.n.d6 a.n.a6 a.n.i9 a.n.i6 a.n.b8 a.n.f0) a.out a.told)).bind fun Z5=>some Z5) else some (o9.mk (j6.mk a.n.Id a.n.Acc a.n.a5 a.n.Seq a.n.d8 a.n.a7 (a.n.c9.set m.c9.toNat true) c1O a.n.d6 a.n.a6 a.n.i9 a.n.i6 a.n.b8 a.n.f0) a.out a.told)))))))))))
theorem e35{a m}:OK d1H [.optr 184 (L8 a),.agg (t0 m)] (b5x a m) :=
 o7 _ fun r h=>n9<|j5 6 h (fun h=>C8 a<|fE h) (fun h=>j5 15 h (fun h=>C8 a<|fE h) (fun h=>rg<|A9 h fun y hy h=>B9 hy<|Q4 4 1 eB 8 [] true hy<|rg<|t8 h fun e1 h=>U0 8 35 158 8 96 q9 (m7.mk 0 (m4.mk false (n7.mk 0 0) (n6.mk [] [] 0 0))) b3d (.ck V5) e1 (by decide) (by rfl)<|t8 h fun e2 h=>apL 11 38 158 8 96 q9 (f5k m.g8.toNat (m7.mk 0 (m4.mk false (n7.mk 0 0) (n6.mk [] [] 0 0)))) m.a6 e2<|j8 a3j d9k 12 h fun c1O h=>s6 ((f5k m.g8.toNat (m7.mk 0 (m4.mk false (n7.mk 0 0) (n6.mk [] [] 0 0))))++m.a6)<|rg<|R5 a4j d0v 5 1 h fun b2Q h=>om (a.n.c9.length=(a.n.c9.set m.c9.toNat true).length) (by simp)<|j5 6 h (fun h=>N1<|j8 b0f b3v 1 h fun Z5 h=>H1 a.n.a5 a.n.a6 a.out a.told<|C8 Z5<|fE h) (fun h=>s6 a.n.a5<|om (a.n.c9.length=(a.n.c9.set m.c9.toNat true).length) (by simp)<|W7 a.n.a6 a.out a.told<|fE h)))
def c7u:FS (o9):=⟨178,Tryz.f178,[],[some (0,.ptr I7 L3),none],[.ptr I7 L3,.val C0 []],fun _=>.tup [],fun r=>[some (.optr 184 (L8 r)),none],Tryz.func178⟩
def b45(a:o9)(m:l8):Option o9 :=
 ((b2M a.n.Acc m.a7 m.g8 m.i4).bind fun a8R=>(bif (!a8R.2) then ((a4t a m.c9 (l8.mk 6 0 0 a.n.Acc.g9 0 (m4.mk false (n7.mk 0 0) (n6.mk [] [] 0 0)) [])).bind fun Z6=>some Z6) else ((a92 (o9.mk (j6.mk a.n.Id a8R.1 a.n.a5 a.n.Seq a.n.d8 a.n.a7 a.n.c9 a.n.i0 a.n.d6 a.n.a6 a.n.i9 a.n.i6 a.n.b8 a.n.f0) a.out a.told) m.a7).bind fun yield=>((a4t yield m.c9 (l8.mk 4 0 0 m.a7 m.g8 (m4.mk false (n7.mk 0 0) (n6.mk [] [] 0 0)) [])).bind fun a9p=>some a9p))))
theorem e6A{a m}:OK c7u [.optr 184 (L8 a),.agg (t0 m)] (b45 a m) :=
 o7 _ fun r h=>n9<|j8 a6Z d1T 11 h fun a8R h=>rg<|j5 1 h (fun h=>rg<|j8 a7n a8K 10 h fun Z6 h=>C8 a<|C8 Z6<|fE h) (fun h=>n9<|j8 c0i c42 3 h fun yield h=>C8 a<|rg<|j8 a7n a8K 8 h fun a9p h=>C8 yield<|C8 a9p<|fE h)
def a2i:FS (o9):=⟨214,Tryz.f214,[],[some (0,.ptr I7 L3),none],[.ptr I7 L3,.val K6 []],fun _=>.tup [],fun r=>[some (.optr 184 (L8 r)),none],Tryz.func214⟩
def e9P:o9->KS:=fun a1=>⟨a2i.k 6 [true],(.ptr 0 0 0::(bs 123 [])),[some ([.var 184 (d2j a1),.dead,m6 4 1 eB a1.n.c9,.dead]++d4I a1)]++d6m a1⟩
def d5g:o9->KS:=fun a2=>⟨a2i.k 16 [true,true,true],(.ptr 0 0 0::(bs 123 [])),[some [.var 184 (e6b a2),.dead,m6 4 1 eB a2.n.c9,.dead,m6 66 13 t0 a2.out,.dead]]++e6R a2⟩
def b9r(a2:o9):Option o9 :=
 ((a5W a2).bind fun Z5=>some Z5)
theorem e2J(r):NF a2i r d5g (fun s=>b9r s):=fun a2 h=>PK<|rg<|j8 b0f b3v 1 h fun Z5 h=>C8 a2<|C8 Z5<|fE h
def e1K(a1:o9)(y:Int):Int->KS:=fun a9Y=>⟨a2i.k 12 [true,true,true],(.ptr 0 0 0::(bs 6 (.ptr 3 0 0::(bs 116 [])))),[some ([.var 184 (d2j a1),.dead,m6 4 1 eB a1.n.c9,.dead]++d4I a1)]++d6m a1++[some [.var 62 [vi a1.n.Id,vi a1.n.b8.a0.b9,vi a1.n.b8.a0.Seq,vi y,vi a9Y]]]⟩
def b8p(a1:o9)(y:Int)(a9Y:Int):Option (l9 o9 o9) :=
 (t5 ((a1.told.length+1)*40<=140737488355328) (some (l9.brk (o9.mk (j6.mk a1.n.Id a1.n.Acc a1.n.a5 a1.n.Seq a1.n.d8 a1.n.a7 a1.n.c9 a1.n.i0 a1.n.d6 a1.n.a6 false [] (m4.mk false (n7.mk 0 0) (n6.mk [] [] 0 0)) a1.n.f0) a1.out (a1.told++[(n5.mk a1.n.Id a1.n.b8.a0 y a9Y)])))))
theorem e4n(a1 y)(r){x1}(hc1:JC (fun j=>FK cx a2i.X (a2i.R r) (a2i.O r) (d5g j)) r x1):NG a2i r (e1K a1 y) (fun s=>b8p a1 y s) x1:=fun a9Y h=>PK<|rg<|tk 6 []<|t8 h fun e2 h=>F6 7 11 62 5 40 z4 a1.told (n5.mk a1.n.Id a1.n.b8.a0 y a9Y) e2<|E4 (n5.mk a1.n.Id a1.n.b8.a0 y a9Y)<|N1<|(p7 h hc1 fun hI=>sk [.frz (.cell 0 0 18) (some 4),.frz (.cell 0 0 22) (some 2),.frz (.cell 0 0 23) (some 2)] [0] [(1,0),(2,0),(11,0)] hI)
def b91(a1:o9):Option o9 :=
 ((a5U a1.n.a5 a1.n.b8.a0).bind fun first=>(((bif a1.n.i9 then (bif decide (first>=0) then ((a8y a1.n.a5).bind fun o8=>((idx o8.2 first).bind fun y=>(((bif (y==0) then ((idx a1.n.a5 first).bind fun entry=>some (l9.brk entry.b7.d9)) else some (l9.brk 0)):Option (l9 (l9 o9 o9) Int)).bind fun x=>x.go some fun j=>b8p a1 y j))) else some (l9.brk a1)) else some (l9.brk a1)):Option (l9 o9 o9)).bind fun x=>x.go some fun j=>b9r j))
theorem e5f(r):NF a2i r e9P (fun s=>b91 s):=fun a1 h=>PK<|rg<|R5 a1I b2N 11 2 h fun first h=>s6 a1.n.a5<|A7 h (e2J r) fun x1 h hc1=>rg<|j5 5 h (fun h=>j5 8 h (fun h=>rg<|cbS a2I b8Z 5 (fun _=>(by simp [a2I,K2,R6,N6,V.simple,vi,u9,b4Y,x7,B7,eI,E6,a7X])) (fun _=>(O9 1)) h fun o8 h=>s6 a1.n.a5<|rg<|A9 h fun y hy h=>B9 hy<|H9 eI 14 hy<|A7 h (e4n a1 y r hc1) fun x2 h hc2=>rg<|j5 2 h (fun h=>rg<|A9 h fun entry F8 h=>B9 F8<|H9 s7 9 F8<|(p7 h hc2 fun hI=>sk [] [0,7] [(1,0),(2,0),(53,0)] hI)) (fun h=>(p7 h hc2 fun hI=>sk [] [0,7] [(1,0),(2,0),(53,0)] hI))) (fun h=>(p7 h hc1 fun hI=>sk [] [0] [(1,0),(2,0),(0,5)] hI))) (fun h=>(p7 h hc1 fun hI=>sk [] [0] [(1,0),(2,0),(0,5)] hI))
def b2L(a:o9)(e_:m4):Option o9 :=
 (t5 ((a.n.a5.length+1)*88<=140737488355328) ((((bif (a.n.d8==3) then some (l9.brk (o9.mk (j6.mk a.n.Id a.n.Acc (a.n.a5++[e_]) a.n.Seq 2 a.n.a7 a.n.c9 a.n.i0 (m4.mk false (n7.mk 0 0) (n6.mk [] [] 0 0)) [] a.n.i9 a.n.i6 a.n.b8 a.n.f0) a.out a.told)) else some (l9.brk (o9.mk (j6.mk a.n.Id a.n.Acc (a.n.a5++[e_]) a.n.Seq a.n.d8 a.n.a7 a.n.c9 a.n.i0 a.n.d6 a.n.a6 a.n.i9 a.n.i6 a.n.b8 a.n.f0) a.out a.told))):Option (l9 o9 o9)).bind fun x=>x.go some fun j=>b91 j)))
theorem d39{a e_}:OK a2i [.optr 184 (L8 a),.agg (s7 e_)] (b2L a e_) :=
 o7 _ fun r h=>n9<|tk 7 K6<|t8 h fun e1 h=>F6 8 10 56 7 88 s7 a.n.a5 e_ e1<|E4 e_<|A7 h (e5f r) fun x1 h hc1=>rg<|j5 5 h (fun h=>N1<|(p7 h hc1 fun hI=>sk [.frz (.cell 0 0 12) (some 2),.frz (.cell 0 0 13) (some 2),.own (.cell 0 0 16) 4 1,.kill 0 3] [0] [(10,0),(37,0)] hI)) (fun h=>(p7 h hc1 fun hI=>sk [] [0] [(10,0),(0,3)] hI))
def d0P:FS (o9):=⟨179,Tryz.f179,[],[some (0,.ptr I7 L3),none],[.ptr I7 L3,.val C0 []],fun _=>.tup [],fun r=>[some (.optr 184 (L8 r)),none],Tryz.func179⟩
def b47(a:o9)(m:l8):Option o9 :=
 (bif (a.n.d8 != 3) then some a else (bif (m.a7 != a.n.a7) then some a else (bif (m.g8 != (a.n.a5.length:Int)) then some a else ((idx a.n.a6 m.c9).bind fun y=>((b12 (a.n.a6.set m.c9.toNat true)).bind fun b2Q=>(bif decide (b2Q>=2) then ((a3u (o9.mk (j6.mk a.n.Id a.n.Acc a.n.a5 a.n.Seq a.n.d8 a.n.a7 a.n.c9 a.n.i0 a.n.d6 (a.n.a6.set m.c9.toNat true) a.n.i9 a.n.i6 a.n.b8 a.n.f0) a.out a.told) (l8.mk 5 0 0 0 m.g8 a.n.d6 [])).bind fun all=>((b2L all all.n.d6).bind fun a8i=>some a8i)) else some (o9.mk (j6.mk a.n.Id a.n.Acc a.n.a5 a.n.Seq a.n.d8 a.n.a7 a.n.c9 a.n.i0 a.n.d6 (a.n.a6.set m.c9.toNat true) a.n.i9 a.n.i6 a.n.b8 a.n.f0) a.out a.told)))))))
theorem f2w{a m}:OK d0P [.optr 184 (L8 a),.agg (t0 m)] (b47 a m) :=
 o7 _ fun r h=>n9<|j5 6 h (fun h=>C8 a<|fE h) (fun h=>j5 16 h (fun h=>C8 a<|fE h) (fun h=>j5 26 h (fun h=>C8 a<|fE h) (fun h=>rg<|A9 h fun y hy h=>B9 hy<|Q4 4 1 eB 8 [] true hy<|rg<|R5 a4j d0v 5 1 h fun b2Q h=>om (a.n.a6.length=(a.n.a6.set m.c9.toNat true).length) (by simp)<|j5 6 h (fun h=>rg<|j8 a1b a64 9 h fun all h=>C7 a.n.a5 a.n.c9<|om (a.n.a6.length=(a.n.a6.set m.c9.toNat true).length) (by simp)<|C7 a.out a.told<|rg<|j8 a2i d39 6 h fun a8i h=>C8 all<|C8 a8i<|fE h) (fun h=>C7 a.n.a5 a.n.c9<|om (a.n.a6.length=(a.n.a6.set m.c9.toNat true).length) (by simp)<|C7 a.out a.told<|fE h))))
def d21:FS (o9):=⟨180,Tryz.f180,[],[some (0,.ptr I7 L3),none],[.ptr I7 L3,.val C0 []],fun _=>.tup [],fun r=>[some (.optr 184 (L8 r)),none],Tryz.func180⟩
def b81(a:o9)(m:l8):Option o9 :=
 (bif decide (m.g8<(a.n.a5.length:Int)) then some a else (bif decide (m.g8>(a.n.a5.length:Int)) then ((a4t a m.c9 (l8.mk 8 0 0 0 (a.n.a5.length:Int) (m4.mk false (n7.mk 0 0) (n6.mk [] [] 0 0)) [])).bind fun Z6=>some Z6) else ((b2L a m.i4).bind fun a8i=>some a8i)))
theorem e85{a m}:OK d21 [.optr 184 (L8 a),.agg (t0 m)] (b81 a m) :=
 o7 _ fun r h=>n9<|j5 9 h (fun h=>C8 a<|fE h) (fun h=>rg<|j5 9 h (fun h=>rg<|j8 a7n a8K 10 h fun Z6 h=>C8 a<|C8 Z6<|fE h) (fun h=>rg<|j8 a2i d39 3 h fun a8i h=>C8 a<|C8 a8i<|fE h))
def d6c:FS (Bool×o9):=⟨215,Tryz.f215,[.val [] []],[some (0,.ptr I7 om7),none],[.ptr I7 om7,.val [] []],fun r=>.b r.1,fun r=>[some (.optr 184 (c0t r.2)),none],Tryz.func215⟩
def b5q(a:o9)(q:n7):Option (Bool×o9) :=
 ((a5U a.n.a5 q).bind fun first=>some (decide (first>=0),a))
theorem d75{a q}:OK d6c [.optr 184 (c0t a),.agg (E6 q)] (b5q a q) :=
 o7 _ fun r h=>n9<|R5 a1I b2N 6 2 h fun first h=>s6 a.n.a5<|J2 a.n<|C7 a.out a.told<|fE h
def d3L:FS (o9):=⟨182,Tryz.f182,[],[some (0,.ptr I7 L3),none],[.ptr I7 om7,.val C0 []],fun _=>.tup [],fun r=>[some (.optr 184 (L8 r)),none],Tryz.func182⟩
def b7T(a:o9)(m:l8):Option o9 :=
 (bif (a.n.d8==0) then some a else (bif decide ((a.n.f0.length:Int)>=4) then some a else ((b5q a m.i4.a0).bind fun v_=>(bif v_.1 then some v_.2 else (t5 ((v_.2.n.f0.length+1)*88<=140737488355328) (((a5W (o9.mk (j6.mk v_.2.n.Id v_.2.n.Acc v_.2.n.a5 v_.2.n.Seq v_.2.n.d8 v_.2.n.a7 v_.2.n.c9 v_.2.n.i0 v_.2.n.d6 v_.2.n.a6 v_.2.n.i9 v_.2.n.i6 v_.2.n.b8 (v_.2.n.f0++[m.i4])) v_.2.out v_.2.told)).bind fun Z5=>some Z5)))))))
theorem e5m{a m}:OK d3L [.optr 184 (c0t a),.agg (t0 m)] (b7T a m) :=
 o7 _ fun r h=>n9<|j5 6 h (fun h=>J2 a.n<|C7 a.out a.told<|fE h) (fun h=>j5 15 h (fun h=>J2 a.n<|C7 a.out a.told<|fE h) (fun h=>j8 d6c d75 20 h fun v_ h=>J2 a.n<|C7 a.out a.told<|j5 21 h (fun h=>J2 v_.2.n<|C7 v_.2.out v_.2.told<|fE h) (fun h=>rg<|tk 8 K6<|t8 h fun e1 h=>F6 9 33 56 7 88 s7 v_.2.n.f0 m.i4 e1<|E4 m.i4<|rg<|j8 b0f b3v 1 h fun Z5 h=>H1 v_.2.n.a5 v_.2.n.c9 v_.2.n.a6 (v_.2.n.f0++[m.i4])<|C7 v_.2.out v_.2.told<|C8 Z5<|fE h)))
def a2F:FS (j6×(List l8)×List n5):=⟨124,Tryz.f124,[.val B0 [],.val [some 13] [],.val [some 5] []],[none,none],[.val B0 [],.val C0 []],fun r=>.tup [.agg (A6 r.1),j9 13 t0 r.2.1,j9 5 z4 r.2.2],fun _=>[none,none],Tryz.func124⟩
def c9S:o9->KS:=fun a=>⟨a2F.k 7 [false,false,true],(bs 4 (.ptr 1 0 0::(bs 2 (.ptr 2 0 0::(bs 108 []))))),[some [],some [.var 58 [vi 0,vi 0,.nil,.nil,vi 0,vi 0,vi 0,.nil,.nil,.b false,vi 0,vi 0,.nil,.nil,vi 0,vi 0,.nil,.b false,.nil,.b false,vi 0,vi 0,.nil,.nil,vi 0,vi 0,.nil]],some [.var 184 (b1O a)]]++a3k a⟩
def b7R(a:o9):Option (j6×(List l8)×List n5) :=
 ((a1y a).bind fun a4E=>some (a4E.1,a4E.2.1,a4E.2.2.1))
theorem f2H(r):NF a2F r c9S (fun s=>b7R s):=fun a h=>PK<|rg<|j8 a36 a5r 1 h fun a4E h=>C8 a<|fE h
def c6K:o9->KS:=fun a2=>⟨a2F.k 15 [false,false,false,false,false,false,false,false,false,true,false],(bs 4 (.ptr 1 0 0::(bs 2 (.ptr 2 0 0::(bs 108 []))))),[some [],some [.var 58 [vi 0,vi 0,.nil,.nil,vi 0,vi 0,vi 0,.nil,.nil,.b false,vi 0,vi 0,.nil,.nil,vi 0,vi 0,.nil,.b false,.nil,.b false,vi 0,vi 0,.nil,.nil,vi 0,vi 0,.nil]],some [.var 184 (b1O a2)]]++a3k a2⟩
def d07(a2:o9):Option (l9 (j6×(List l8)×List n5) o9) :=
 some (l9.brk a2)
theorem d9V(r){x1}(hc1:JC (fun j=>FK cx a2F.X (a2F.R r) (a2F.O r) (c9S j)) r x1):NG a2F r c6K (fun s=>d07 s) x1:=fun a2 h=>PK<|(p7 h hc1 fun hI=>sk [] [4,7] [(1,0),(2,0),(3,0),(4,0),(5,0),(6,0),(7,0)] hI)
def d7J(m:l8):(Int×o9)->KS:=fun (i,a1)=>⟨a2F.k 14 [false,false,false,false,false,false,false,false,false,true],(bs 3 (.ptr 1 0 0::(.ptr 2 0 0::(bs 2 (.ptr 3 0 0::(vi i::(bs 107 []))))))),[some [],some [.var 66 (a4M m)],some [.var 58 [vi 0,vi 0,.nil,.nil,vi 0,vi 0,vi 0,.nil,.nil,.b false,vi 0,vi 0,.nil,.nil,vi 0,vi 0,.nil,.b false,.nil,.b false,vi 0,vi 0,.nil,.nil,vi 0,vi 0,.nil]],some [.var 184 (e90 a1)]]++a3k a1⟩
def a7o(m:l8)(i:Int)(a1:o9):Option (l7 (j6×(List l8)×List n5) (Int×o9) o9) :=
 (bif decide (i<(a1.n.a5.length:Int)) then ((idx a1.n.a5 i).bind fun entry=>((a4t a1 m.c9 (l8.mk 5 0 0 0 i entry [])).bind fun Z6=>some (l7.nxt (m8 (i+1),Z6)))) else some (l7.brk a1))
theorem f1Y(m):LQ a2F c6K (d7J m) (fun s=>a7o m s.1 s.2):=fun lc (i,a1) h=>PK<|rg<|j5 7 h (fun h=>rg<|A9 h fun entry F8 h=>B9 F8<|H9 s7 11 F8<|j8 a7n a8K 13 h fun Z6 h=>C8 a1<|rg<|(lc.nx h fun hI=>sk [] [3,4,7,8] [(1,0),(2,0),(3,0),(30,0),(30,1),(30,2),(30,3),(30,4)] hI)) (fun h=>(lc.bk h fun hI=>sk [] [4,7] [(2,0),(3,0),(4,0),(5,0),(6,0),(7,0),(8,0)] hI))
def b7M(n:j6)(m:l8):Option (j6×(List l8)×List n5) :=
 ((a4s n).bind fun D8=>(bif (!D8) then some ((j6.mk 0 (z0.mk 0 []) [] 0 0 0 [] [] (m4.mk false (n7.mk 0 0) (n6.mk [] [] 0 0)) [] false [] (m4.mk false (n7.mk 0 0) (n6.mk [] [] 0 0)) []),[],[]) else ((a7u n).bind fun begin=>((b3h m).bind fun Q1=>(bif (!Q1) then ((a1y begin).bind fun Y0=>some (Y0.1,Y0.2.1,Y0.2.2.1)) else (bif (m.To != n.Id) then ((a1y begin).bind fun a4x=>some (a4x.1,a4x.2.1,a4x.2.2.1)) else (((bif (m.a8==1) then ((b7v begin m).bind fun d6f=>some (l9.brk d6f)) else (bif (m.a8==2) then ((b5x begin m).bind fun d0f=>some (l9.brk d0f)) else (bif (m.a8==3) then ((b45 begin m).bind fun d5J=>some (l9.brk d5J)) else (bif (m.a8==4) then ((b47 begin m).bind fun d4j=>some (l9.brk d4j)) else (bif (m.a8==5) then ((b81 begin m).bind fun c84=>some (l9.brk c84)) else (bif (m.a8==6) then ((b0i begin.n.Acc m.a7).bind fun V7=>((a92 (o9.mk (j6.mk begin.n.Id V7.1 begin.n.a5 begin.n.Seq begin.n.d8 begin.n.a7 begin.n.c9 begin.n.i0 begin.n.d6 begin.n.a6 begin.n.i9 begin.n.i6 begin.n.b8 begin.n.f0) begin.out begin.told) m.a7).bind fun yield=>some (l9.brk yield))) else (bif (m.a8==7) then ((b7T begin m).bind fun asked=>some (l9.brk asked)) else (bif (m.a8==8) then ((p8 (fun s:Int×o9=>a7o m s.1 s.2) (m.g8,begin)).bind fun x=>x.go (fun r=>some (l9.ret r)) fun s=>d07 s) else some (l9.brk begin))))))))):Option (l9 (j6×(List l8)×List n5) o9)).bind fun x=>x.go some fun j=>b7R j)))))))
set_option maxRecDepth 20000 in
theorem e7o{n m}:OK a2F [.agg (A6 n),.agg (t0 m)] (b7M n m) :=
 o7 _ fun r h=>n9<|j8 a0J a8U 1 h fun D8 h=>j5 2 h (fun h=>rg<|fE h) (fun h=>rg<|j8 b4u b8T 1 h fun begin h=>rg<|j8 c2d d4C 1 h fun Q1 h=>j5 3 h (fun h=>rg<|j8 a36 a5r 1 h fun Y0 h=>J2 begin.n<|C7 begin.out begin.told<|fE h) (fun h=>j5 9 h (fun h=>rg<|j8 a36 a5r 1 h fun a4x h=>J2 begin.n<|C7 begin.out begin.told<|fE h) (fun h=>rg<|A7 h (f2H r) fun x1 h hc1=>rg<|j5 1 h (fun h=>rg<|j8 b6W d8U 2 h fun d6f h=>J2 begin.n<|C7 begin.out begin.told<|(p7 h hc1 fun hI=>sk [] [4,7] [(3,0),(10,0),(28,0),(28,1),(28,2),(28,3),(28,4)] hI)) (fun h=>rg<|j5 1 h (fun h=>rg<|j8 d1H e35 2 h fun d0f h=>J2 begin.n<|C7 begin.out begin.told<|(p7 h hc1 fun hI=>sk [] [4,7] [(3,0),(10,0),(30,0),(30,1),(30,2),(30,3),(30,4)] hI)) (fun h=>rg<|j5 1 h (fun h=>rg<|j8 c7u e6A 2 h fun d5J h=>J2 begin.n<|C7 begin.out begin.told<|(p7 h hc1 fun hI=>sk [] [4,7] [(3,0),(10,0),(32,0),(32,1),(32,2),(32,3),(32,4)] hI)) (fun h=>rg<|j5 1 h (fun h=>rg<|j8 d0P f2w 2 h fun d4j h=>J2 begin.n<|C7 begin.out begin.told<|(p7 h hc1 fun hI=>sk [] [4,7] [(3,0),(10,0),(34,0),(34,1),(34,2),(34,3),(34,4)] hI)) (fun h=>rg<|j5 1 h (fun h=>rg<|j8 d21 e85 2 h fun c84 h=>J2 begin.n<|C7 begin.out begin.told<|(p7 h hc1 fun hI=>sk [] [4,7] [(3,0),(10,0),(36,0),(36,1),(36,2),(36,3),(36,4)] hI)) (fun h=>rg<|j5 1 h (fun h=>rg<|j8 b9g c4e 8 h fun V7 h=>rg<|j8 c0i c42 3 h fun yield h=>J2 begin.n<|C7 begin.out begin.told<|(p7 h hc1 fun hI=>sk [] [4,7] [(3,0),(10,0),(55,0),(55,1),(55,2),(55,3),(55,4)] hI)) (fun h=>rg<|j5 1 h (fun h=>rg<|j8 d3L e5m 2 h fun asked h=>J2 begin.n<|C7 begin.out begin.told<|(p7 h hc1 fun hI=>sk [] [4,7] [(3,0),(10,0),(40,0),(40,1),(40,2),(40,3),(40,4)] hI)) (fun h=>rg<|j5 1 h (fun h=>rg<|lp (f1Y m) h (fun _ h=>a2F.rt (f0L h hc1)) (d9V r hc1) fun hI=>s6 begin.n.f0<|sk [.frz (.cell 10 0 26) (none)] [3,4,7,8] [(2,0),(3,0),(10,0),(10,1),(10,2),(10,3),(10,5),(10,6)] hI) (fun h=>(p7 h hc1 fun hI=>s6 begin.n.f0<|sk [.frz (.cell 10 0 26) (none)] [4,7] [(3,0),(10,0),(10,1),(10,2),(10,3),(10,5),(10,6)] hI))))))))))))
def b0z:FS (m5):=⟨65,Tryz.f65,[.val E0 om6],[none,none],[.val E0 om6,.val [none,none,some 4] []],fun r=>.agg (a7D r),fun _=>[none,none],Tryz.func65⟩
def d7Z:m5->KS:=fun w1=>⟨b0z.k 7 [true],(bs 2 (.ptr 1 0 0::(bs 1 (.ptr 6 0 0::(bs 58 []))))),[some [.dead,.dead,.dead,.dead],some [.var 30 [.own 2 0 27 0 w1.a9.length,.own 3 0 13 0 w1.c8.length,.own 4 0 3 0 w1.d7.length,.own 5 0 5 0 w1.Told.length]],some [m6 58 27 A6 w1.a9],some [m6 66 13 t0 w1.c8],some [m6 68 3 B3 w1.d7],some [m6 62 5 z4 w1.Told],some [.var 30 [.nil,.nil,.nil,.nil]]]⟩
def c56(w1:m5):Option m5 :=
 some w1
theorem e3g(r):NF b0z r d7Z (fun s=>c56 s):=fun w1 h=>PK<|rg<|B2 w1<|fE h
def a8Z(w:m5)(e_:s5):Option m5 :=
 ((idx w.c8 e_.A).bind fun msg=>(((bif (e_.a8==2) then ((b4l w.c8 e_.A).bind fun off=>((idx w.a9 msg.To).bind fun node=>((b7M node msg).bind fun b62=>((a4C (m5.mk w.a9 off w.d7 w.Told) b62.1 b62.2.1 b62.2.2).bind fun a2G=>some (l9.brk a2G))))) else (bif (e_.a8==3) then ((b4l w.c8 e_.A).bind fun d6h=>some (l9.brk (m5.mk w.a9 d6h w.d7 w.Told))) else (bif (e_.a8==4) then ((idx w.a9 msg.To).bind fun a1l=>((a4C w a1l [msg] []).bind fun b3l=>some (l9.brk b3l))) else some (l9.brk w)))):Option (l9 m5 m5)).bind fun x=>x.go some fun j=>c56 j))
theorem c4V{w e_}:OK b0z [.agg (a7D w),.agg (H3 e_)] (a8Z w e_) :=
 o7 _ fun r h=>n9<|A9 h fun msg hmsg h=>B9 hmsg<|H9 t0 5 hmsg<|rg<|A7 h (e3g r) fun x1 h hc1=>rg<|j5 1 h (fun h=>rg<|j8 c3F d2E 4 h fun off h=>s6 w.c8<|rg<|A9 h fun node hnode h=>B9 hnode<|H9 A6 5 hnode<|j8 a2F e7o 7 h fun b62 h=>rg<|j8 U8 b1f 4 h fun a2G h=>H1 w.a9 off w.d7 w.Told<|(p7 h hc1 fun hI=>sk [.kill 0 1] [2,4] [(1,0),(43,0),(43,1),(43,2),(43,3),(3,0)] hI)) (fun h=>rg<|j5 1 h (fun h=>rg<|j8 c3F d2E 4 h fun d6h h=>s6 w.c8<|(p7 h hc1 fun hI=>sk [.kill 0 1] [2,4] [(1,0),(0,0),(22,0),(0,2),(0,3),(3,0)] hI)) (fun h=>rg<|j5 1 h (fun h=>rg<|A9 h fun a1l a4o h=>B9 a4o<|H9 A6 6 a4o<|tk 8 C0<|j8 U8 b1f 9 h fun b3l h=>B2 w<|E4 msg<|(p7 h hc1 fun hI=>sk [] [2,4] [(1,0),(29,0),(29,1),(29,2),(29,3),(3,0)] hI)) (fun h=>(p7 h hc1 fun hI=>sk [] [2,4] [(1,0),(0,0),(0,1),(0,2),(0,3),(3,0)] hI))))
def a3A:FS (m5):=⟨19,Tryz.f19,[.val E0 []],[none,none],[.val E0 [],.val [none,none,some 4] []],fun r=>.agg (R8 r),fun _=>[none,none],Tryz.func19⟩
def d9P:m5->KS:=fun out=>⟨a3A.k 6 [true,true,true],(bs 4 (.ptr 1 0 0::(.ptr 2 0 0::(bs 35 [])))),[some [],some [.var 30 [.nil,.nil,.nil,.nil]],some [.var 30 [.own 3 0 27 0 out.a9.length,.own 4 0 13 0 out.c8.length,.own 5 0 3 0 out.d7.length,.own 6 0 5 0 out.Told.length]],some [m6 58 27 A6 out.a9],some [m6 66 13 t0 out.c8],some [m6 68 3 B3 out.d7],some [m6 62 5 z4 out.Told]]⟩
def c1q(out:m5):Option m5 :=
 ((a1S out).bind fun c0D=>some c0D)
theorem f2v(r):NF a3A r d9P (fun s=>c1q s):=fun out h=>PK<|rg<|j8 X2 a8w 1 h fun c0D h=>B2 out<|B2 c0D<|fE h
def e0C:m5->KS:=fun out1=>⟨a3A.k 7 [false,true,true,true],(bs 4 (.ptr 1 0 0::(.ptr 2 0 0::(bs 35 [])))),[some [],some [.var 30 [.nil,.nil,.nil,.nil]],some [.var 30 [.own 3 0 27 0 out1.a9.length,.own 4 0 13 0 out1.c8.length,.own 5 0 3 0 out1.d7.length,.own 6 0 5 0 out1.Told.length]],some [m6 58 27 A6 out1.a9],some [m6 66 13 t0 out1.c8],some [m6 68 3 B3 out1.d7],some [m6 62 5 z4 out1.Told]]⟩
def c2J(out1:m5):Option m5 :=
 ((a1S out1).bind fun c0Q=>some c0Q)
theorem f0i(r):NF a3A r e0C (fun s=>c2J s):=fun out1 h=>PK<|rg<|j8 X2 a8w 1 h fun c0Q h=>B2 out1<|B2 c0Q<|fE h
def e3H:m5->KS:=fun out2=>⟨a3A.k 8 [false,false,true,true,true],(bs 4 (.ptr 1 0 0::(.ptr 2 0 0::(bs 35 [])))),[some [],some [.var 30 [.nil,.nil,.nil,.nil]],some [.var 30 [.own 3 0 27 0 out2.a9.length,.own 4 0 13 0 out2.c8.length,.own 5 0 3 0 out2.d7.length,.own 6 0 5 0 out2.Told.length]],some [m6 58 27 A6 out2.a9],some [m6 66 13 t0 out2.c8],some [m6 68 3 B3 out2.d7],some [m6 62 5 z4 out2.Told]]⟩
def c3a(out2:m5):Option m5 :=
 ((a1S out2).bind fun c4l=>some c4l)
theorem f0W(r):NF a3A r e3H (fun s=>c3a s):=fun out2 h=>PK<|rg<|j8 X2 a8w 1 h fun c4l h=>B2 out2<|B2 c4l<|fE h
def f3K:m5->KS:=fun out3=>⟨a3A.k 9 [false,false,false,true,true],(bs 4 (.ptr 1 0 0::(.ptr 2 0 0::(bs 35 [])))),[some [],some [.var 30 [.nil,.nil,.nil,.nil]],some [.var 30 [.own 3 0 27 0 out3.a9.length,.own 4 0 13 0 out3.c8.length,.own 5 0 3 0 out3.d7.length,.own 6 0 5 0 out3.Told.length]],some [m6 58 27 A6 out3.a9],some [m6 66 13 t0 out3.c8],some [m6 68 3 B3 out3.d7],some [m6 62 5 z4 out3.Told]]⟩
def b7H(out3:m5):Option m5 :=
 ((a1S out3).bind fun c2C=>some c2C)
theorem e4g(r):NF a3A r f3K (fun s=>b7H s):=fun out3 h=>PK<|rg<|j8 X2 a8w 1 h fun c2C h=>B2 out3<|B2 c2C<|fE h
def b7G(w:m5)(e_:s5):Option m5 :=
 ((a1S w).bind fun H4=>(bif (e_.a8==1) then ((((D4 e_.A 0 (m8 ((H4.a9.length:Int)-1))).bind fun in_=>(bif in_ then ((a5F H4 e_).bind fun c7p=>some (l9.brk c7p)) else some (l9.brk H4))):Option (l9 m5 m5)).bind fun x=>x.go some fun j=>c1q j) else (bif (e_.a8==5) then ((((D4 e_.A 0 (m8 ((H4.a9.length:Int)-1))).bind fun in_1=>(bif in_1 then ((a5F H4 e_).bind fun d4m=>some (l9.brk d4m)) else some (l9.brk H4))):Option (l9 m5 m5)).bind fun x=>x.go some fun j=>c2J j) else (bif (e_.a8==6) then ((((D4 e_.A 0 (m8 ((H4.a9.length:Int)-1))).bind fun in_2=>(bif in_2 then ((a5F H4 e_).bind fun d3j=>some (l9.brk d3j)) else some (l9.brk H4))):Option (l9 m5 m5)).bind fun x=>x.go some fun j=>c3a j) else (((bif (e_.a8==7) then ((D4 e_.A 0 (m8 ((H4.a9.length:Int)-1))).bind fun a0f=>(bif a0f then ((a5F H4 e_).bind fun c9J=>some (l9.brk c9J)) else some (l9.brk H4))) else (bif (e_.a8==2) then ((D4 e_.A 0 (m8 ((H4.c8.length:Int)-1))).bind fun a4F=>(bif a4F then ((a8Z H4 e_).bind fun c9B=>some (l9.brk c9B)) else some (l9.brk H4))) else (bif (e_.a8==3) then ((D4 e_.A 0 (m8 ((H4.c8.length:Int)-1))).bind fun b0K=>(bif b0K then ((a8Z H4 e_).bind fun d2I=>some (l9.brk d2I)) else some (l9.brk H4))) else (bif (e_.a8==4) then ((D4 e_.A 0 (m8 ((H4.c8.length:Int)-1))).bind fun c4E=>(bif c4E then ((a8Z H4 e_).bind fun d13=>some (l9.brk d13)) else some (l9.brk H4))) else some (l9.brk H4))))):Option (l9 m5 m5)).bind fun x=>x.go some fun j=>b7H j)))))
set_option maxRecDepth 20000 in
theorem e67{w e_}:OK a3A [.agg (R8 w),.agg (H3 e_)] (b7G w e_) :=
 o7 _ fun r h=>n9<|j8 X2 a8w 1 h fun H4 h=>n9<|j5 1 h (fun h=>A7 h (f2v r) fun x1 h hc1=>rg<|cbE D1.t F4 h fun in_ c6e h=>cdT (D1.t 6 false in_) h (fun _ h=>ob c6e<|rg<|j8 a7Y c0m 2 h fun c7p h=>B2 H4<|(p7 h hc1 fun hI=>sk [] [4,5] [(3,0),(6,0),(21,0),(21,1),(21,2),(21,3)] hI)) (fun _ h=>ob c6e<|(p7 h hc1 fun hI=>sk [] [4,5] [(3,0),(6,0),(5,0),(5,1),(5,2),(5,3)] hI))) (fun h=>rg<|j5 1 h (fun h=>A7 h (f0i r) fun x1 h hc1=>rg<|cbE D1.t F4 h fun in_1 d1y h=>cdT (D1.t 6 false in_1) h (fun _ h=>ob d1y<|rg<|j8 a7Y c0m 2 h fun d4m h=>B2 H4<|(p7 h hc1 fun hI=>sk [] [4,5] [(3,0),(6,0),(23,0),(23,1),(23,2),(23,3)] hI)) (fun _ h=>ob d1y<|(p7 h hc1 fun hI=>sk [] [4,5] [(3,0),(6,0),(5,0),(5,1),(5,2),(5,3)] hI))) (fun h=>rg<|j5 1 h (fun h=>A7 h (f0W r) fun x1 h hc1=>rg<|cbE D1.t F4 h fun in_2 d3U h=>cdT (D1.t 6 false in_2) h (fun _ h=>ob d3U<|rg<|j8 a7Y c0m 2 h fun d3j h=>B2 H4<|(p7 h hc1 fun hI=>sk [] [4,5] [(3,0),(6,0),(25,0),(25,1),(25,2),(25,3)] hI)) (fun _ h=>ob d3U<|(p7 h hc1 fun hI=>sk [] [4,5] [(3,0),(6,0),(5,0),(5,1),(5,2),(5,3)] hI))) (fun h=>A7 h (e4g r) fun x1 h hc1=>rg<|j5 1 h (fun h=>rg<|cbE D1.t F4 h fun a0f c9F h=>cdT (D1.t 6 false a0f) h (fun _ h=>ob c9F<|rg<|j8 a7Y c0m 2 h fun c9J h=>B2 H4<|(p7 h hc1 fun hI=>sk [] [4,5] [(3,0),(6,0),(27,0),(27,1),(27,2),(27,3)] hI)) (fun _ h=>ob c9F<|(p7 h hc1 fun hI=>sk [] [4,5] [(3,0),(6,0),(5,0),(5,1),(5,2),(5,3)] hI))) (fun h=>rg<|j5 1 h (fun h=>rg<|cbE D1.t F4 h fun a4F d3q h=>cdT (D1.t 6 false a4F) h (fun _ h=>ob d3q<|rg<|j8 b0z c4V 2 h fun c9B h=>B2 H4<|(p7 h hc1 fun hI=>sk [] [4,5] [(3,0),(6,0),(29,0),(29,1),(29,2),(29,3)] hI)) (fun _ h=>ob d3q<|(p7 h hc1 fun hI=>sk [] [4,5] [(3,0),(6,0),(5,0),(5,1),(5,2),(5,3)] hI))) (fun h=>rg<|j5 1 h (fun h=>rg<|cbE D1.t F4 h fun b0K c59 h=>cdT (D1.t 6 false b0K) h (fun _ h=>ob c59<|rg<|j8 b0z c4V 2 h fun d2I h=>B2 H4<|(p7 h hc1 fun hI=>sk [] [4,5] [(3,0),(6,0),(31,0),(31,1),(31,2),(31,3)] hI)) (fun _ h=>ob c59<|(p7 h hc1 fun hI=>sk [] [4,5] [(3,0),(6,0),(5,0),(5,1),(5,2),(5,3)] hI))) (fun h=>rg<|j5 1 h (fun h=>rg<|cbE D1.t F4 h fun c4E d25 h=>cdT (D1.t 6 false c4E) h (fun _ h=>ob d25<|rg<|j8 b0z c4V 2 h fun d13 h=>B2 H4<|(p7 h hc1 fun hI=>sk [] [4,5] [(3,0),(6,0),(33,0),(33,1),(33,2),(33,3)] hI)) (fun _ h=>ob d25<|(p7 h hc1 fun hI=>sk [] [4,5] [(3,0),(6,0),(5,0),(5,1),(5,2),(5,3)] hI))) (fun h=>(p7 h hc1 fun hI=>sk [] [4,5] [(3,0),(6,0),(5,0),(5,1),(5,2),(5,3)] hI))))))))
def a8E:FS (m5):=⟨5,Tryz.f5,[.val E0 []],[none,none],[.val E0 [],.val [some 3] []],fun r=>.agg (R8 r),fun _=>[none,none],Tryz.func5⟩
def d4D:m5->KS:=fun out1=>⟨a8E.k 5 [false,false],(bs 4 (.ptr 1 0 0::(.ptr 2 0 0::(bs 24 [])))),[some [],some [.var 30 [.nil,.nil,.nil,.nil]],some [.var 30 (G8 out1)]]⟩
def d1n(out1:m5):Option m5 :=
 some out1
theorem e7T(r):NF a8E r d4D (fun s=>d1n s):=fun out1 h=>PK<|rg<|fE h
def e2r(events:List s5):(Int×m5)->KS:=fun (v21,out)=>⟨a8E.k 4 [false],(bs 4 (.ptr 1 0 0::(.ptr 2 0 0::(bs 13 (j9 3 H3 events::(vi (events.length:Int)::(vi v21::(bs 8 [])))))))),[some [],some [.var 30 [.nil,.nil,.nil,.nil]],some [.var 30 (G8 out)]]⟩
def a6X(events:List s5)(v21:Int)(out:m5):Option (l7 m5 (Int×m5) m5) :=
 (bif decide (v21<(events.length:Int)) then ((idx events v21).bind fun b16=>((b7G out b16).bind fun d3M=>some (l7.nxt (m8 (v21+1),d3M)))) else some (l7.brk out))
theorem d6Q(events):LQ a8E d4D (e2r events) (fun s=>a6X events s.1 s.2):=fun lc (v21,out) h=>PK<|rg<|j5 0 h (fun h=>rg<|v5 H3 0 h fun b16 f1W h=>rg<|j8 a3A e67 2 h fun d3M h=>rg<|(lc.nx h fun hI=>sk [] [4,5,19,20,21] [(1,0),(2,0)] hI)) (fun h=>(lc.bk h fun hI=>sk [] [4,5] [(1,0),(2,0)] hI))
def b3L(w:m5)(events:List s5):Option m5 :=
 ((a52 w).bind fun C9=>(bif (!C9) then some (m5.mk [] [] [] []) else (bif decide ((events.length:Int)>400) then some (m5.mk [] [] [] []) else ((a1S w).bind fun H4=>((p8 (fun s:Int×m5=>a6X events s.1 s.2) (0,H4)).bind fun x=>x.go (fun r=>some r) fun s=>d1n s)))))
theorem e56{w events}:OK a8E [.agg (R8 w),j9 3 H3 events] (b3L w events) :=
 o7 _ fun r h=>n9<|j8 O4 b1S 1 h fun C9 h=>j5 3 h (fun h=>rg<|fE h) (fun h=>j5 7 h (fun h=>rg<|fE h) (fun h=>rg<|j8 X2 a8w 1 h fun H4 h=>rg<|lp (d6Q events) h (fun _ h=>a8E.rt h) (e7T r) fun hI=>B2 H4<|sk [.frz (.cell 13 0 0) (none),.frz (.cell 13 0 1) (none),.frz (.cell 13 0 2) (none),.frz (.cell 13 0 3) (none)] [4,5,19,20,21] [(2,0),(13,0)] hI))
def a41:FS (m5):=⟨8,Tryz.f8,[.val E0 T2],[none,none],[.val E0 [],.val [some 3] []],fun r=>.agg (T1 r),fun _=>[none,none],Tryz.func8⟩
def d0w:((List j6)×(List l8)×(List x6)×List n5)->KS:=fun (Nodes1,Net1,Asked1,Told1)=>⟨a41.k 5 [false,false],(bs 2 (.ptr 1 0 0::(bs 1 (.ptr 6 0 0::(bs 25 []))))),[some [],some [.var 30 [.own 2 0 27 0 Nodes1.length,.own 3 0 13 0 Net1.length,.own 4 0 3 0 Asked1.length,.own 5 0 5 0 Told1.length]],some [C3 58 27 z6 Nodes1],some [m6 66 13 t0 Net1],some [m6 68 3 B3 Asked1],some [m6 62 5 z4 Told1],some [.var 30 [.nil,.nil,.nil,.nil]]]⟩
def c9U(Nodes1:List j6)(Net1:List l8)(Asked1:List x6)(Told1:List n5):Option m5 :=
 some (m5.mk Nodes1 Net1 Asked1 Told1)
theorem e6a(r):NF a41 r d0w (fun s=>c9U s.1 s.2.1 s.2.2.1 s.2.2.2):=fun (Nodes1,Net1,Asked1,Told1) h=>PK<|rg<|H1 Nodes1 Net1 Asked1 Told1<|fE h
def e33(events:List s5):((List j6)×(List l8)×(List x6)×(List n5)×Int)->KS:=fun (a9,c8,d7,Told,i)=>⟨a41.k 4 [false],(bs 1 (j9 3 H3 events::(.ptr 1 0 0::(bs 1 (.ptr 6 0 0::(vi i::(bs 24 []))))))),[some [],some [.var 30 [.own 2 0 27 0 a9.length,.own 3 0 13 0 c8.length,.own 4 0 3 0 d7.length,.own 5 0 5 0 Told.length]],some [C3 58 27 z6 a9],some [m6 66 13 t0 c8],some [m6 68 3 B3 d7],some [m6 62 5 z4 Told],some [.var 30 [.nil,.nil,.nil,.nil]]]⟩
def a48(events:List s5)(a9:List j6)(c8:List l8)(d7:List x6)(Told:List n5)(i:Int):Option (l7 m5 ((List j6)×(List l8)×(List x6)×(List n5)×Int) ((List j6)×(List l8)×(List x6)×List n5)) :=
 (bif decide (i<(events.length:Int)) then ((idx events i).bind fun b16=>((b0d (m5.mk a9 c8 d7 Told) b16).bind fun a0V=>some (l7.nxt (a0V.a9,a0V.c8,a0V.d7,a0V.Told,m8 (i+1))))) else some (l7.brk (a9,c8,d7,Told)))
theorem d9d(events):LQ a41 d0w (e33 events) (fun s=>a48 events s.1 s.2.1 s.2.2.1 s.2.2.2.1 s.2.2.2.2):=fun lc (a9,c8,d7,Told,i) h=>PK<|rg<|j5 3 h (fun h=>rg<|v5 H3 3 h fun b16 f1W h=>j8 b0U c1o 5 h fun a0V h=>H1 a9 c8 d7 Told<|rg<|(lc.nx h fun hI=>sk [] [1,2,4,5] [(1,0),(16,0),(16,1),(16,2),(16,3),(6,0)] hI)) (fun h=>(lc.bk h fun hI=>sk [] [2,4] [(1,0),(2,0),(3,0),(4,0),(5,0),(6,0)] hI))
def b4D(w:m5)(events:List s5):Option m5 :=
 ((a8J w).bind fun C9=>(bif (!C9) then some (m5.mk [] [] [] []) else (bif decide ((events.length:Int)>400) then some (m5.mk [] [] [] []) else ((b2d w).bind fun a1Z=>((p8 (fun s:(List j6)×(List l8)×(List x6)×(List n5)×Int=>a48 events s.1 s.2.1 s.2.2.1 s.2.2.2.1 s.2.2.2.2) (a1Z.a9,a1Z.c8,a1Z.d7,a1Z.Told,0)).bind fun x=>x.go (fun r=>some r) fun s=>c9U s.1 s.2.1 s.2.2.1 s.2.2.2)))))
theorem e0Z{w events}:OK a41 [.agg (R8 w),j9 3 H3 events] (b4D w events) :=
 o7 _ fun r h=>n9<|j8 K3 b3T 1 h fun C9 h=>j5 3 h (fun h=>rg<|fE h) (fun h=>j5 7 h (fun h=>rg<|fE h) (fun h=>rg<|j8 V6 d0L 1 h fun a1Z h=>rg<|lp (d9d events) h (fun _ h=>a41.rt h) (e6a r) fun hI=>sk [] [1,2,4,5] [(1,0),(12,0),(12,1),(12,2),(12,3),(2,0)] hI))
def a7S:FS (Bool):=⟨21,Tryz.f21,[.val [] []],[none,none],[.val [some 5] [],.val [some 5] []],fun r=>.b r,fun _=>[none,none],Tryz.func21⟩
def d04:Unit->KS:=fun _=>⟨a7S.k 4 [false,false],(bs 26 []),[some []]⟩
def d5n:Option Bool :=
 some true
theorem e1J(r):NF a7S r d04 (fun s=>d5n):=fun _ h=>PK<|rg<|fE h
def e0P(a:List n5)(b:List n5):Int->KS:=fun v13=>⟨a7S.k 3 [false],(j9 5 z4 a::(j9 5 z4 b::(bs 10 (vi (a.length:Int)::(vi v13::(bs 12 [])))))),[some []]⟩
def b87(a:List n5)(b:List n5)(v13:Int):Option (l7 Bool Int Unit) :=
 (bif decide (v13<(a.length:Int)) then ((idx a v13).bind fun told=>((idx b v13).bind fun a20=>(bif (!(([told.Node,told.a0.b9,told.a0.Seq,told.Code,told.d9]:List Int)==[a20.Node,a20.a0.b9,a20.a0.Seq,a20.Code,a20.d9])) then some (l7.ret false) else some (l7.nxt (m8 (v13+1)))))) else some (l7.brk ()))
theorem d8h(a b):LQ a7S d04 (e0P a b) (fun s=>b87 a b s):=fun lc v13 h=>PK<|rg<|j5 0 h (fun h=>n9<|v5 z4 2 h fun told a3Q h=>v5 z4 6 h fun a20 e1n h=>j5 8 h (fun h=>rg<|fL lc h) (fun h=>rg<|(lc.nx h fun hI=>sk [] [0,1,12,13] [] hI))) (fun h=>(lc.bk h fun hI=>sk [] [] [] hI))
def c0g(a:List n5)(b:List n5):Option Bool :=
 (bif ((a.length:Int) != (b.length:Int)) then some false else ((p8 (fun s:Int=>b87 a b s) 0).bind fun x=>x.go (fun r=>some r) fun s=>d5n))
theorem e95{a b}:OK a7S [j9 5 z4 a,j9 5 z4 b] (c0g a b) :=
 o7 _ fun r h=>n9<|j5 4 h (fun h=>rg<|fE h) (fun h=>rg<|lp (d8h a b) h (fun _ h=>a7S.rt h) (e1J r) fun hI=>sk [] [0,1,12,13] [] hI)
def a5f:FS (Bool):=⟨69,Tryz.f69,[.val [] []],[none,none],[.val [some 8] [],.val [some 8] []],fun r=>.b r,fun _=>[none,none],Tryz.func69⟩
def d6k:Unit->KS:=fun _=>⟨a5f.k 4 [false,false],(bs 42 []),[some []]⟩
def c6Y:Option Bool :=
 some true
theorem e4C(r):NF a5f r d6k (fun s=>c6Y):=fun _ h=>PK<|rg<|fE h
def d7l(a:List m7)(b:List m7):Int->KS:=fun v13=>⟨a5f.k 3 [false],(j9 8 q9 a::(j9 8 q9 b::(bs 10 (vi (a.length:Int)::(vi v13::(bs 28 [])))))),[some []]⟩
def b7W(a:List m7)(b:List m7)(v13:Int):Option (l7 Bool Int Unit) :=
 (bif decide (v13<(a.length:Int)) then ((idx a v13).bind fun vote=>((idx b v13).bind fun T3=>(bif (vote.a7 != T3.a7) then some (l7.ret false) else ((a0r vote.i4 T3.i4).bind fun K7=>(bif (!K7) then some (l7.ret false) else some (l7.nxt (m8 (v13+1)))))))) else some (l7.brk ()))
theorem f1e(a b):LQ a5f d6k (d7l a b) (fun s=>b7W a b s):=fun lc v13 h=>PK<|rg<|j5 0 h (fun h=>n9<|v5 q9 2 h fun vote N7 h=>v5 q9 7 h fun T3 a4b h=>j5 11 h (fun h=>rg<|fL lc h) (fun h=>J0 q9 14 N7<|J0 q9 19 a4b<|j8 a24 a38 22 h fun K7 h=>j5 24 h (fun h=>rg<|fL lc h) (fun h=>rg<|(lc.nx h fun hI=>sk [] [0,1,12,13] [] hI)))) (fun h=>(lc.bk h fun hI=>sk [] [] [] hI))
def a93(a:List m7)(b:List m7):Option Bool :=
 (bif ((a.length:Int) != (b.length:Int)) then some false else ((p8 (fun s:Int=>b7W a b s) 0).bind fun x=>x.go (fun r=>some r) fun s=>c6Y))
theorem c3B{a b}:OK a5f [j9 8 q9 a,j9 8 q9 b] (a93 a b) :=
 o7 _ fun r h=>n9<|j5 4 h (fun h=>rg<|fE h) (fun h=>rg<|lp (f1e a b) h (fun _ h=>a5f.rt h) (e4C r) fun hI=>sk [] [0,1,12,13] [] hI)
def c9Z:FS (Bool):=⟨66,Tryz.f66,[.val [] []],[none,none],[.val [none,some 8] [],.val [none,some 8] []],fun r=>.b r,fun _=>[none,none],Tryz.func66⟩
def c3l(a:z0)(b:z0):Option Bool :=
 (bif (a.g9==b.g9) then ((a93 a.a6 b.a6).bind fun a6u=>some a6u) else some false)
theorem e4e{a b}:OK c9Z [.agg (Z4 a),.agg (Z4 b)] (c3l a b) :=
 o7 _ fun r h=>n9<|j5 5 h (fun h=>j8 a5f c3B 10 h fun a6u h=>fE h) (fun h=>fE h)
def a7j:FS (Bool):=⟨67,Tryz.f67,[.val [] []],[none,none],[.val [some 7] [],.val [some 7] []],fun r=>.b r,fun _=>[none,none],Tryz.func67⟩
def c9H:Unit->KS:=fun _=>⟨a7j.k 4 [false,false],(bs 27 []),[some []]⟩
def d1q:Option Bool :=
 some true
theorem e1a(r):NF a7j r c9H (fun s=>d1q):=fun _ h=>PK<|rg<|fE h
def d74(a:List m4)(b:List m4):Int->KS:=fun v13=>⟨a7j.k 3 [false],(j9 7 s7 a::(j9 7 s7 b::(bs 10 (vi (a.length:Int)::(vi v13::(bs 13 [])))))),[some []]⟩
def b8b(a:List m4)(b:List m4)(v13:Int):Option (l7 Bool Int Unit) :=
 (bif decide (v13<(a.length:Int)) then ((idx a v13).bind fun entry=>((idx b v13).bind fun b3V=>((a0r entry b3V).bind fun K7=>(bif (!K7) then some (l7.ret false) else some (l7.nxt (m8 (v13+1))))))) else some (l7.brk ()))
theorem d9z(a b):LQ a7j c9H (d74 a b) (fun s=>b8b a b s):=fun lc v13 h=>PK<|rg<|j5 0 h (fun h=>n9<|v5 s7 2 h fun entry F8 h=>v5 s7 6 h fun b3V b4z h=>j8 a24 a38 8 h fun K7 h=>j5 9 h (fun h=>rg<|fL lc h) (fun h=>rg<|(lc.nx h fun hI=>sk [] [0,1,12,13] [] hI))) (fun h=>(lc.bk h fun hI=>sk [] [] [] hI))
def b1D(a:List m4)(b:List m4):Option Bool :=
 (bif ((a.length:Int) != (b.length:Int)) then some false else ((p8 (fun s:Int=>b8b a b s) 0).bind fun x=>x.go (fun r=>some r) fun s=>d1q))
theorem d1e{a b}:OK a7j [j9 7 s7 a,j9 7 s7 b] (b1D a b) :=
 o7 _ fun r h=>n9<|j5 4 h (fun h=>rg<|fE h) (fun h=>rg<|lp (d9z a b) h (fun _ h=>a7j.rt h) (e1a r) fun hI=>sk [] [0,1,12,13] [] hI)
def a5V:FS (Bool):=⟨68,Tryz.f68,[.val [] []],[none,none],[.val [some 1] [],.val [some 1] []],fun r=>.b r,fun _=>[none,none],Tryz.func68⟩
def d43:Unit->KS:=fun _=>⟨a5V.k 4 [false,false],(bs 26 []),[some []]⟩
def d4K:Option Bool :=
 some true
theorem d8f(r):NF a5V r d43 (fun s=>d4K):=fun _ h=>PK<|rg<|fE h
def e9p(a:List Bool)(b:List Bool):Int->KS:=fun v13=>⟨a5V.k 3 [false],(j9 1 eB a::(j9 1 eB b::(bs 10 (vi (a.length:Int)::(vi v13::(bs 12 [])))))),[some []]⟩
def b46(a:List Bool)(b:List Bool)(v13:Int):Option (l7 Bool Int Unit) :=
 (bif decide (v13<(a.length:Int)) then ((idx a v13).bind fun y=>((idx b v13).bind fun y1=>(bif (!(y==y1)) then some (l7.ret false) else some (l7.nxt (m8 (v13+1)))))) else some (l7.brk ()))
theorem e6o(a b):LQ a5V d43 (e9p a b) (fun s=>b46 a b s):=fun lc v13 h=>PK<|rg<|j5 0 h (fun h=>n9<|v5 eB 2 h fun y hy h=>v5 eB 6 h fun y1 hy1 h=>j5 8 h (fun h=>rg<|fL lc h) (fun h=>rg<|(lc.nx h fun hI=>sk [] [0,1,12,13] [] hI))) (fun h=>(lc.bk h fun hI=>sk [] [] [] hI))
def b2l(a:List Bool)(b:List Bool):Option Bool :=
 (bif ((a.length:Int) != (b.length:Int)) then some false else ((p8 (fun s:Int=>b46 a b s) 0).bind fun x=>x.go (fun r=>some r) fun s=>d4K))
theorem d1N{a b}:OK a5V [j9 1 eB a,j9 1 eB b] (b2l a b) :=
 o7 _ fun r h=>n9<|j5 4 h (fun h=>rg<|fE h) (fun h=>rg<|lp (e6o a b) h (fun _ h=>a5V.rt h) (d8f r) fun hI=>sk [] [0,1,12,13] [] hI)
def a7I:FS (Bool):=⟨71,Tryz.f71,[.val [] []],[none,none],[.val [some 4] [],.val [some 4] []],fun r=>.b r,fun _=>[none,none],Tryz.func71⟩
def c88:Unit->KS:=fun _=>⟨a7I.k 4 [false,false],(bs 26 []),[some []]⟩
def d19:Option Bool :=
 some true
theorem e2V(r):NF a7I r c88 (fun s=>d19):=fun _ h=>PK<|rg<|fE h
def d9W(a:List n8)(b:List n8):Int->KS:=fun v13=>⟨a7I.k 3 [false],(j9 4 A0 a::(j9 4 A0 b::(bs 10 (vi (a.length:Int)::(vi v13::(bs 12 [])))))),[some []]⟩
def b5r(a:List n8)(b:List n8)(v13:Int):Option (l7 Bool Int Unit) :=
 (bif decide (v13<(a.length:Int)) then ((idx a v13).bind fun ins=>((idx b v13).bind fun b1Z=>(bif (!(([ins.a8,ins.A,ins.B,ins.N]:List Int)==[b1Z.a8,b1Z.A,b1Z.B,b1Z.N])) then some (l7.ret false) else some (l7.nxt (m8 (v13+1)))))) else some (l7.brk ()))
theorem d8m(a b):LQ a7I c88 (d9W a b) (fun s=>b5r a b s):=fun lc v13 h=>PK<|rg<|j5 0 h (fun h=>n9<|v5 A0 2 h fun ins hins h=>v5 A0 6 h fun b1Z f5h h=>j5 8 h (fun h=>rg<|fL lc h) (fun h=>rg<|(lc.nx h fun hI=>sk [] [0,1,12,13] [] hI))) (fun h=>(lc.bk h fun hI=>sk [] [] [] hI))
def c5p(a:List n8)(b:List n8):Option Bool :=
 (bif ((a.length:Int) != (b.length:Int)) then some false else ((p8 (fun s:Int=>b5r a b s) 0).bind fun x=>x.go (fun r=>some r) fun s=>d19))
theorem f2T{a b}:OK a7I [j9 4 A0 a,j9 4 A0 b] (c5p a b) :=
 o7 _ fun r h=>n9<|j5 4 h (fun h=>rg<|fE h) (fun h=>rg<|lp (d8m a b) h (fun _ h=>a7I.rt h) (e2V r) fun hI=>sk [] [0,1,12,13] [] hI)
def c3m:FS (Bool):=⟨24,Tryz.f24,[.val [] []],[none,none],[.val [some 4] [],.val [some 4] []],fun r=>.b r,fun _=>[none,none],Tryz.func24⟩
def b1J(a:List n8)(b:List n8):Option Bool :=
 ((c5p a b).bind fun ins=>some ins)
theorem d2e{a b}:OK c3m [j9 4 A0 a,j9 4 A0 b] (b1J a b) :=
 o7 _ fun r h=>n9<|j8 a7I f2T 2 h fun ins h=>fE h
def c7q:FS (Bool):=⟨22,Tryz.f22,[.val [] []],[none,none],[.val B0 [],.val B0 []],fun r=>.b r,fun _=>[none,none],Tryz.func22⟩
def b7l(a:j6)(b:j6):Option Bool :=
 (bif (a.Id==b.Id) then ((c3l a.Acc b.Acc).bind fun c6j=>(bif c6j then ((b1D a.a5 b.a5).bind fun d2z=>(bif d2z then (bif (a.Seq==b.Seq) then (bif (a.d8==b.d8) then (bif (a.a7==b.a7) then ((b2l a.c9 b.c9).bind fun bool=>(bif bool then ((a93 a.i0 b.i0).bind fun a6u=>(bif a6u then ((a0r a.d6 b.d6).bind fun K7=>(bif K7 then ((b2l a.a6 b.a6).bind fun b1g=>(bif b1g then (bif (a.i9==b.i9) then ((b1J a.i6 b.i6).bind fun b2w=>(bif b2w then ((a0r a.b8 b.b8).bind fun d1S=>(bif d1S then ((b1D a.f0 b.f0).bind fun c72=>some c72) else some false)) else some false)) else some false) else some false)) else some false)) else some false)) else some false)) else some false) else some false) else some false) else some false)) else some false)) else some false)
theorem e94{a b}:OK c7q [.agg (A6 a),.agg (A6 b)] (b7l a b) :=
 o7 _ fun r h=>n9<|j5 5 h (fun h=>j8 c9Z e4e 10 h fun c6j h=>j5 12 h (fun h=>j8 a7j d1e 17 h fun d2z h=>j5 19 h (fun h=>j5 26 h (fun h=>j5 33 h (fun h=>j5 40 h (fun h=>j8 a5V d1N 45 h fun bool h=>j5 47 h (fun h=>j8 a5f c3B 52 h fun a6u h=>j5 54 h (fun h=>j8 a24 a38 59 h fun K7 h=>j5 61 h (fun h=>j8 a5V d1N 66 h fun b1g h=>j5 68 h (fun h=>j5 75 h (fun h=>j8 c3m d2e 80 h fun b2w h=>j5 82 h (fun h=>j8 a24 a38 87 h fun d1S h=>j5 89 h (fun h=>j8 a7j d1e 94 h fun c72 h=>fE h) (fun h=>fE h)) (fun h=>fE h)) (fun h=>fE h)) (fun h=>fE h)) (fun h=>fE h)) (fun h=>fE h)) (fun h=>fE h)) (fun h=>fE h)) (fun h=>fE h)) (fun h=>fE h)) (fun h=>fE h)) (fun h=>fE h)) (fun h=>fE h)
def c6X:FS (Bool):=⟨23,Tryz.f23,[.val [] []],[none,none],[.val C0 [],.val C0 []],fun r=>.b r,fun _=>[none,none],Tryz.func23⟩
def c5o(a:l8)(b:l8):Option Bool :=
 (bif (a.a8==b.a8) then (bif (a.c9==b.c9) then (bif (a.To==b.To) then (bif (a.a7==b.a7) then (bif (a.g8==b.g8) then ((a0r a.i4 b.i4).bind fun K7=>(bif K7 then ((a93 a.a6 b.a6).bind fun a6u=>some a6u) else some false)) else some false) else some false) else some false) else some false) else some false)
theorem e9f{a b}:OK c6X [.agg (t0 a),.agg (t0 b)] (c5o a b) :=
 o7 _ fun r h=>n9<|j5 5 h (fun h=>j5 12 h (fun h=>j5 19 h (fun h=>j5 26 h (fun h=>j5 33 h (fun h=>j8 a24 a38 38 h fun K7 h=>j5 40 h (fun h=>j8 a5f c3B 45 h fun a6u h=>fE h) (fun h=>fE h)) (fun h=>fE h)) (fun h=>fE h)) (fun h=>fE h)) (fun h=>fE h)) (fun h=>fE h)
def W1:FS (Bool):=⟨7,Tryz.f7,[.val [] []],[none,none],[.val E0 [],.val E0 []],fun r=>.b r,fun _=>[none,none],Tryz.func7⟩
def d2N(a:m5)(b:m5):Unit->KS:=fun _=>⟨W1.k 4 [false,false],(bs 2 (.ptr 1 0 0::(.ptr 2 0 0::(bs 111 [])))),[some [],some [.var 30 (G8 a)],some [.var 30 (G8 b)]]⟩
def d4f(a:m5)(b:m5):Unit->KS:=fun _=>⟨W1.k 6 [false,false,false],(bs 2 (.ptr 1 0 0::(.ptr 2 0 0::(bs 111 [])))),[some [],some [.var 30 (G8 a)],some [.var 30 (G8 b)]]⟩
def d4G:Unit->KS:=fun _=>⟨W1.k 8 [false,false,false,false],(bs 115 []),[some []]⟩
def d6J:Option Bool :=
 some true
theorem f3e(r):NF W1 r d4G (fun s=>d6J):=fun _ h=>PK<|rg<|fE h
def f1L(a:m5)(b:m5):Int->KS:=fun v82=>⟨W1.k 7 [false,false,false],(bs 2 (.ptr 1 0 0::(.ptr 2 0 0::(bs 77 (vi (a.d7.length:Int)::(vi v82::(bs 32 []))))))),[some [],some [.var 30 (G8 a)],some [.var 30 (G8 b)]]⟩
def b5D(a:m5)(b:m5)(v82:Int):Option (l7 Bool Int Unit) :=
 (bif decide (v82<(a.d7.length:Int)) then ((idx a.d7 v82).bind fun asked=>((idx b.d7 v82).bind fun a2O=>(bif (!(([asked.a0.b9,asked.a0.Seq]:List Int)==[a2O.a0.b9,a2O.a0.Seq])) then some (l7.ret false) else ((b1J asked.i6 a2O.i6).bind fun b2w=>(bif (!b2w) then some (l7.ret false) else some (l7.nxt (m8 (v82+1)))))))) else some (l7.brk ()))
theorem d9t(a b):LQ W1 d4G (f1L a b) (fun s=>b5D a b s):=fun lc v82 h=>PK<|rg<|j5 0 h (fun h=>n9<|v5 B3 3 h fun asked a4U h=>v5 B3 9 h fun a2O b0N h=>j5 13 h (fun h=>rg<|fL lc h) (fun h=>J0 B3 17 a4U<|J0 B3 23 b0N<|j8 c3m d2e 26 h fun b2w h=>j5 28 h (fun h=>rg<|fL lc h) (fun h=>rg<|(lc.nx h fun hI=>sk [] [2,3,81,82] [(1,0),(2,0)] hI)))) (fun h=>(lc.bk h fun hI=>sk [] [] [] hI))
def c4y(a:m5)(b:m5):Option Bool :=
 ((p8 (fun s:Int=>b5D a b s) 0).bind fun x=>x.go (fun r=>some r) fun s=>d6J)
theorem e9a(a b)(r):NF W1 r (d4f a b) (fun s=>c4y a b):=fun _ h=>PK<|rg<|lp (d9t a b) h (fun _ h=>W1.rt h) (f3e r) fun hI=>sk [] [2,3,81,82] [(1,0),(2,0)] hI
def f4N(a:m5)(b:m5):Int->KS:=fun v63=>⟨W1.k 5 [false,false],(bs 2 (.ptr 1 0 0::(.ptr 2 0 0::(bs 58 (vi (a.c8.length:Int)::(vi v63::(bs 51 []))))))),[some [],some [.var 30 (G8 a)],some [.var 30 (G8 b)]]⟩
def c0l(a:m5)(b:m5)(v63:Int):Option (l7 Bool Int Unit) :=
 (bif decide (v63<(a.c8.length:Int)) then ((idx a.c8 v63).bind fun msg=>((idx b.c8 v63).bind fun b4y=>((c5o msg b4y).bind fun d3Z=>(bif (!d3Z) then some (l7.ret false) else some (l7.nxt (m8 (v63+1))))))) else some (l7.brk ()))
theorem f1A(a b):LQ W1 (d4f a b) (f4N a b) (fun s=>c0l a b s):=fun lc v63 h=>PK<|rg<|j5 0 h (fun h=>n9<|v5 t0 3 h fun msg hmsg h=>v5 t0 8 h fun b4y b4A h=>j8 c6X e9f 10 h fun d3Z h=>j5 11 h (fun h=>rg<|fL lc h) (fun h=>rg<|(lc.nx h fun hI=>sk [] [2,3,62,63] [(1,0),(2,0)] hI))) (fun h=>(lc.bk h fun hI=>sk [] [2,3] [(1,0),(2,0)] hI))
def c2E(a:m5)(b:m5):Option Bool :=
 ((p8 (fun s:Int=>c0l a b s) 0).bind fun x=>x.go (fun r=>some r) fun s=>c4y a b)
theorem e4F(a b)(r):NF W1 r (d2N a b) (fun s=>c2E a b):=fun _ h=>PK<|rg<|lp (f1A a b) h (fun _ h=>W1.rt h) (e9a a b r) fun hI=>sk [] [2,3,62,63] [(1,0),(2,0)] hI
def f2i(a:m5)(b:m5):Int->KS:=fun v44=>⟨W1.k 3 [false],(bs 2 (.ptr 1 0 0::(.ptr 2 0 0::(bs 39 (vi (a.a9.length:Int)::(vi v44::(bs 70 []))))))),[some [],some [.var 30 (G8 a)],some [.var 30 (G8 b)]]⟩
def b8d(a:m5)(b:m5)(v44:Int):Option (l7 Bool Int Unit) :=
 (bif decide (v44<(a.a9.length:Int)) then ((idx a.a9 v44).bind fun node=>((idx b.a9 v44).bind fun a1l=>((b7l node a1l).bind fun c8X=>(bif (!c8X) then some (l7.ret false) else some (l7.nxt (m8 (v44+1))))))) else some (l7.brk ()))
theorem d8W(a b):LQ W1 (d2N a b) (f2i a b) (fun s=>b8d a b s):=fun lc v44 h=>PK<|rg<|j5 0 h (fun h=>n9<|v5 A6 3 h fun node hnode h=>v5 A6 8 h fun a1l a4o h=>j8 c7q e94 10 h fun c8X h=>j5 11 h (fun h=>rg<|fL lc h) (fun h=>rg<|(lc.nx h fun hI=>sk [] [2,3,43,44] [(1,0),(2,0)] hI))) (fun h=>(lc.bk h fun hI=>sk [] [2,3] [(1,0),(2,0)] hI))
def b84(a:m5)(b:m5):Option Bool :=
 (bif ((a.a9.length:Int) != (b.a9.length:Int)) then some false else (bif ((a.c8.length:Int) != (b.c8.length:Int)) then some false else (bif ((a.d7.length:Int) != (b.d7.length:Int)) then some false else ((c0g a.Told b.Told).bind fun told=>(bif (!told) then some false else ((p8 (fun s:Int=>b8d a b s) 0).bind fun x=>x.go (fun r=>some r) fun s=>c2E a b))))))
theorem f4y{a b}:OK W1 [.agg (R8 a),.agg (R8 b)] (b84 a b) :=
 o7 _ fun r h=>n9<|j5 7 h (fun h=>rg<|fE h) (fun h=>j5 16 h (fun h=>rg<|fE h) (fun h=>j5 25 h (fun h=>rg<|fE h) (fun h=>j8 a7S e95 30 h fun told h=>j5 32 h (fun h=>rg<|fE h) (fun h=>rg<|lp (d8W a b) h (fun _ h=>W1.rt h) (e4F a b r) fun hI=>sk [] [2,3,43,44] [(1,0),(2,0)] hI))))
def a3P:FS (List m4):=⟨34,Tryz.f34,[.val [some 7] []],[none],[.val E0 []],fun r=>j9 7 s7 r,fun _=>[none],Tryz.func34⟩
def c3v(w:m5):Int->KS:=fun a3X=>⟨a3P.k 4 [false],(bs 1 (.ptr 1 0 0::(bs 1 (vi a3X::(bs 36 []))))),[some [],some [.var 30 (G8 w)]]⟩
def c4x(w:m5)(a3X:Int):Option (List m4) :=
 (bif decide (a3X<0) then some [] else ((idx w.a9 a3X).bind fun node=>((b09 node.a5).bind fun a8j=>some a8j)))
theorem f03(w)(r):NF a3P r (c3v w) (fun s=>c4x w s):=fun a3X h=>PK<|rg<|j5 1 h (fun h=>rg<|fE h) (fun h=>rg<|v5 A6 3 h fun node hnode h=>j8 a4Z c5v 6 h fun a8j h=>s6 a8j<|fE h)
def d5j(w:m5):(Int×Int)->KS:=fun (best,v9)=>⟨a3P.k 3 [],(bs 1 (.ptr 1 0 0::(bs 1 (vi best::(bs 3 (j9 27 A6 w.a9::(vi (w.a9.length:Int)::(vi v9::(bs 30 []))))))))),[some [],some [.var 30 (G8 w)]]⟩
def d9l(w:m5)(v9:Int):Int->KS:=fun a5m=>⟨a3P.k 7 [true,true],(bs 1 (.ptr 1 0 0::(bs 1 (vi a5m::(bs 3 (j9 27 A6 w.a9::(vi (w.a9.length:Int)::(vi v9::(bs 30 []))))))))),[some [],some [.var 30 (G8 w)]]⟩
def b5L(v9:Int)(a5m:Int):Option (l7 (List m4) (Int×Int) Int) :=
 some (l7.nxt (a5m,m8 (v9+1)))
theorem f2K(w v9)(lc:H2 a3P (c3v w) (d5j w)):NL lc (d9l w v9) (fun s=>b5L v9 s):=fun a5m h=>PK<|rg<|(lc.nx h fun hI=>sk [] [1,3,7,8,9] [(1,0)] hI)
def a5k(w:m5)(best:Int)(v9:Int):Option (l7 (List m4) (Int×Int) Int) :=
 (bif decide (v9<(w.a9.length:Int)) then ((idx w.a9 v9).bind fun a1l=>(((bif decide (best<0) then some (l9.brk v9) else ((idx w.a9 best).bind fun b2u=>(bif decide ((a1l.a5.length:Int)>(b2u.a5.length:Int)) then some (l9.brk v9) else some (l9.brk best)))):Option (l9 (l7 (List m4) (Int×Int) Int) Int)).bind fun x=>x.go some fun j=>b5L v9 j)) else some (l7.brk best))
theorem d6U(w):LQ a3P (c3v w) (d5j w) (fun s=>a5k w s.1 s.2):=fun lc (best,v9) h=>PK<|rg<|j5 0 h (fun h=>rg<|v5 A6 1 h fun a1l a4o h=>A7 h (f2K w v9 lc) fun x2 h hc2=>rg<|j5 2 h (fun h=>rg<|(p7 h hc2 fun hI=>sk [] [1,3,7,8,9] [(1,0)] hI)) (fun h=>v5 A6 9 h fun b2u d9s h=>j5 14 h (fun h=>rg<|(p7 h hc2 fun hI=>sk [] [1,3,7,8,9] [(1,0)] hI)) (fun h=>(p7 h hc2 fun hI=>sk [] [1,3,7,8,9] [(1,0)] hI)))) (fun h=>(lc.bk h fun hI=>sk [] [1,3] [(1,0)] hI))
def b0O(w:m5):Option (List m4) :=
 ((p8 (fun s:Int×Int=>a5k w s.1 s.2) ((-1),0)).bind fun x=>x.go (fun r=>some r) fun s=>c4x w s)
theorem c89{w}:OK a3P [.agg (R8 w)] (b0O w) :=
 o7 _ fun r h=>N1<|lp (d6U w) h (fun _ h=>a3P.rt h) (f03 w r) fun hI=>sk [] [1,3,7,8,9] [(1,0)] hI
def c3p:FS (List n7):=⟨93,Tryz.f93,[.val [some 2] [some 50]],[none],[.val [some 2] []],fun r=>u9 50 2 E6 r,fun _=>[none],Tryz.func93⟩
def b7N(list:List n7):Option (List n7) :=
 (bif ((list.length:Int)==0) then some [] else (t5 (0<=(list.length:Int)/\(list.length:Int)*16<=140737488355328) ((t5 (list.length=(f5k (list.length:Int).toNat (n7.mk 0 0)).length) (some list)))))
theorem f0n{list}:OK c3p [j9 2 E6 list] (b7N list) :=
 o7 _ fun r h=>n9<|j5 2 h (fun h=>rg<|fE h) (fun h=>rg<|t8 h fun e1 h=>U0 2 7 50 2 16 E6 (n7.mk 0 0) c2U (.none) e1 (by decide) (by rfl)<|rg<|t8 h fun e2 h=>om (s8.row 50 2 (f5k (list.length:Int).toNat (n7.mk 0 0)).length (list.map E6)=m6 50 2 E6 list) (a1c e2)<|s6 (f5k (list.length:Int).toNat (n7.mk 0 0))<|ob e2<|tl (2,{e:=some (m6 50 2 E6 list)})<|rg<|om ((f5k (list.length:Int).toNat (n7.mk 0 0)).length=list.length) (by simp)<|fE h)
def a5n:FS (List n7):=⟨35,Tryz.f35,[.val [some 2] []],[none],[.val [some 7] []],fun r=>j9 2 E6 r,fun _=>[none],Tryz.func35⟩
def c0Z:(List n7)->KS:=fun out1=>⟨a5n.k 6 [false,false],(bs 5 (.own 1 0 2 0 out1.length::(bs 30 []))),[some [],some [m6 50 2 E6 out1]]⟩
def c3h(out1:List n7):Option (List n7) :=
 ((b7N out1).bind fun req=>some req)
theorem e9E(r):NF a5n r c0Z (fun s=>c3h s):=fun out1 h=>PK<|rg<|cbS c3p f0n 1 (fun _=>(by simp [c3p,K2,R6,N6,V.simple,vi,u9,eI,E6])) (fun _=>(O9 1)) h fun req h=>C7 out1 req<|fE h
def c9v(list:List m4)(o8:u0×List Int):((List n7)×Int)->KS:=fun (out,v18)=>⟨a5n.k 5 [false],(bs 4 (.own 1 0 1 0 o8.2.length::(.own 2 0 2 0 out.length::(bs 10 (j9 7 s7 list::(vi (list.length:Int)::(vi v18::(bs 17 [])))))))),[some [],some [m6 3 1 eI o8.2],some [m6 50 2 E6 out]]⟩
def e1v(list:List m4)(o8:u0×List Int)(v18:Int):(List n7)->KS:=fun out2=>⟨a5n.k 9 [false,true,true],(bs 4 (.own 1 0 1 0 o8.2.length::(.own 2 0 2 0 out2.length::(bs 10 (j9 7 s7 list::(vi (list.length:Int)::(vi v18::(bs 17 [])))))))),[some [],some [m6 3 1 eI o8.2],some [m6 50 2 E6 out2]]⟩
def c2x(v18:Int)(out2:List n7):Option (l7 (List n7) ((List n7)×Int) (List n7)) :=
 some (l7.nxt (out2,m8 (v18+1)))
theorem d9h(list o8 v18)(lc:H2 a5n c0Z (c9v list o8)):NL lc (e1v list o8 v18) (fun s=>c2x v18 s):=fun out2 h=>PK<|rg<|(lc.nx h fun hI=>sk [] [4,5,16,17,18] [(1,0),(2,0)] hI)
def b0X(list:List m4)(o8:u0×List Int)(out:List n7)(v18:Int):Option (l7 (List n7) ((List n7)×Int) (List n7)) :=
 (bif decide (v18<(list.length:Int)) then ((idx list v18).bind fun entry=>((((idx o8.2 v18).bind fun y=>(bif (y==0) then (t5 ((out.length+1)*16<=140737488355328) (some (l9.brk (out++[entry.a0])))) else some (l9.brk out))):Option (l9 (l7 (List n7) ((List n7)×Int) (List n7)) (List n7))).bind fun x=>x.go some fun j=>c2x v18 j)) else some (l7.brk out))
theorem d7z(list o8):LQ a5n c0Z (c9v list o8) (fun s=>b0X list o8 s.1 s.2):=fun lc (out,v18) h=>PK<|rg<|j5 0 h (fun h=>rg<|v5 s7 1 h fun entry F8 h=>A7 h (d9h list o8 v18 lc) fun x2 h hc2=>rg<|A9 h fun y hy h=>B9 hy<|H9 eI 3 hy<|j5 4 h (fun h=>rg<|tk 3 []<|t8 h fun e1 h=>F6 4 19 50 2 16 E6 out entry.a0 e1<|E4 entry.a0<|(p7 h hc2 fun hI=>sk [] [4,5,16,17,18] [(1,0),(19,0)] hI)) (fun h=>(p7 h hc2 fun hI=>sk [] [4,5,16,17,18] [(1,0),(2,0)] hI))) (fun h=>(lc.bk h fun hI=>sk [] [5] [(2,0)] hI))
def b60(list:List m4):Option (List n7) :=
 ((b1v list).bind fun G0=>(bif (!G0) then some [] else ((a8y list).bind fun o8=>((p8 (fun s:(List n7)×Int=>b0X list o8 s.1 s.2) ([],0)).bind fun x=>x.go (fun r=>some r) fun s=>c3h s))))
theorem f3Z{list}:OK a5n [j9 7 s7 list] (b60 list) :=
 o7 _ fun r h=>n9<|j8 a5g c50 1 h fun G0 h=>j5 2 h (fun h=>rg<|fE h) (fun h=>rg<|j8 a2I b8Z 1 h fun o8 h=>n9<|lp (d7z list o8) h (fun _ h=>a5n.rt h) (e9E r) fun hI=>sk [.own (.tmp 5) 50 2] [4,5,16,17,18] [(6,2),(17,0)] hI)
def a8A:FS ((List n8)×Bool):=⟨36,Tryz.f36,[.val [some 4] [some 115],.val [] []],[none,none],[.val E0 [],.val [] []],fun r=>.tup [u9 115 4 A0 r.1,.b r.2],fun _=>[none,none],Tryz.func36⟩
def c82:Unit->KS:=fun _=>⟨a8A.k 3 [false],(bs 23 []),[some []]⟩
def d1a:Option ((List n8)×Bool) :=
 some ([],false)
theorem d8I(r):NF a8A r c82 (fun s=>d1a):=fun _ h=>PK<|rg<|fE h
def e6J(w:m5)(q:n7):Int->KS:=fun v11=>⟨a8A.k 2 [],(bs 3 (.ptr 1 0 0::(bs 5 (j9 3 B3 w.d7::(vi (w.d7.length:Int)::(vi v11::(bs 11 []))))))),[some [],some [.var 50 [vi q.b9,vi q.Seq]]]⟩
def b5B(w:m5)(q:n7)(v11:Int):Option (l7 ((List n8)×Bool) Int Unit) :=
 (bif decide (v11<(w.d7.length:Int)) then ((idx w.d7 v11).bind fun asked=>(bif (([asked.a0.b9,asked.a0.Seq]:List Int)==[q.b9,q.Seq]) then ((a8l asked.i6).bind fun ins=>some (l7.ret (ins,true))) else some (l7.nxt (m8 (v11+1))))) else some (l7.brk ()))
theorem d8K(w q):LQ a8A c82 (e6J w q) (fun s=>b5B w q s):=fun lc v11 h=>PK<|rg<|j5 0 h (fun h=>rg<|v5 B3 0 h fun asked a4U h=>rg<|j5 3 h (fun h=>rg<|j8 b5S c0X 2 h fun ins h=>s6 ins<|fL lc h) (fun h=>rg<|(lc.nx h fun hI=>sk [] [3,9,10,11] [(1,0)] hI))) (fun h=>(lc.bk h fun hI=>sk [] [] [] hI))
def b8F(w:m5)(q:n7):Option ((List n8)×Bool) :=
 ((p8 (fun s:Int=>b5B w q s) 0).bind fun x=>x.go (fun r=>some r) fun s=>d1a)
theorem f1v{w q}:OK a8A [.agg (R8 w),.agg (E6 q)] (b8F w q) :=
 o7 _ fun r h=>n9<|lp (d8K w q) h (fun _ h=>a8A.rt h) (d8I r) fun hI=>sk [] [3,9,10,11] [(2,0)] hI
def c7K:FS ((List m9)×Int×Int):=⟨96,Tryz.f96,[.val [some 2] [],.val [] [],.val [] []],[none,none],[.val [some 2] [],.val [some 4] []],fun r=>.tup [j9 2 x7 r.1,vi r.2.1,vi r.2.2],fun _=>[none,none],Tryz.func96⟩
def b7j(list:List m9)(prog:List n8):Option ((List m9)×Int×Int) :=
 ((b3N list prog).bind fun B8=>(bif (B8.Code==3) then some ([],0,3) else ((b2k list B8).bind fun b0m=>some (b0m,B8.d9,B8.Code))))
theorem e63{list prog}:OK c7K [j9 2 x7 list,j9 4 A0 prog] (b7j list prog) :=
 o7 _ fun r h=>n9<|j8 Q5 d3K 2 h fun B8 h=>rg<|j5 2 h (fun h=>rg<|fE h) (fun h=>rg<|j8 a5M c9o 2 h fun b0m h=>s6 b0m<|fE h)
def c0v:FS (List Int):=⟨97,Tryz.f97,[.val [some 1] [some 3]],[none],[.val [some 1] []],fun r=>u9 3 1 eI r,fun _=>[none],Tryz.func97⟩
def b6M(list:List Int):Option (List Int) :=
 (bif ((list.length:Int)==0) then some [] else (t5 (0<=(list.length:Int)/\(list.length:Int)*8<=140737488355328) ((t5 (list.length=(f5k (list.length:Int).toNat (0:Int)).length) (some list)))))
theorem e7a{list}:OK c0v [j9 1 eI list] (b6M list) :=
 o7 _ fun r h=>n9<|j5 2 h (fun h=>rg<|fE h) (fun h=>rg<|t8 h fun e1 h=>U0 2 7 3 1 8 eI (0:Int) ti3 (.none) e1 (by decide) (by rfl)<|rg<|t8 h fun e2 h=>om (s8.row 3 1 (f5k (list.length:Int).toNat (0:Int)).length (list.map eI)=m6 3 1 eI list) (a1c e2)<|s6 (f5k (list.length:Int).toNat (0:Int))<|ob e2<|tl (2,{e:=some (m6 3 1 eI list)})<|rg<|om ((f5k (list.length:Int).toNat (0:Int)).length=list.length) (by simp)<|fE h)
def a81:FS ((List m9)×List Int):=⟨37,Tryz.f37,[.val [some 2] [],.val [some 1] []],[none,none],[.val [some 2] [],.val [some 1] []],fun r=>.tup [j9 2 x7 r.1,j9 1 eI r.2],fun _=>[none,none],Tryz.func37⟩
def d0V:((List Int)×List m9)->KS:=fun (vals1,now1)=>⟨a81.k 6 [false,false],(bs 6 (j9 2 x7 now1::(.own 1 0 1 0 vals1.length::(bs 39 [])))),[some [],some [m6 3 1 eI vals1]]⟩
def b6E(vals1:List Int)(now1:List m9):Option ((List m9)×List Int) :=
 ((b6M vals1).bind fun int=>some (now1,int))
theorem f4n(r):NF a81 r d0V (fun s=>b6E s.1 s.2):=fun (vals1,now1) h=>PK<|rg<|cbS c0v e7a 2 (fun _=>(by simp [c0v,K2,R6,N6,V.simple,vi,u9,eI])) (fun _=>(O9 1)) h fun int h=>C7 vals1 int<|fE h
def e8p(progs:List (List n8)):((List Int)×Int×List m9)->KS:=fun (vals,v25,now)=>⟨a81.k 5 [false],(bs 6 (j9 2 x7 now::(.own 1 0 1 0 vals.length::(bs 15 (j9 1 a13 progs::(vi (progs.length:Int)::(vi v25::(bs 21 [])))))))),[some [],some [m6 3 1 eI vals]]⟩
def b0M(progs:List (List n8))(vals:List Int)(v25:Int)(now:List m9):Option (l7 ((List m9)×List Int) ((List Int)×Int×List m9) ((List Int)×List m9)) :=
 (bif decide (v25<(progs.length:Int)) then ((idx progs v25).bind fun y=>((b7j now y).bind fun G7=>(bif (G7.2.2==3) then some (l7.ret ([],[])) else (t5 ((vals.length+1)*8<=140737488355328) (some (l7.nxt (vals++[G7.2.1],m8 (v25+1),G7.1))))))) else some (l7.brk (vals,now)))
theorem f0m(progs):LQ a81 d0V (e8p progs) (fun s=>b0M progs s.1 s.2.1 s.2.2):=fun lc (vals,v25,now) h=>PK<|rg<|j5 0 h (fun h=>rg<|v5 a13 0 h fun y hy h=>rg<|j8 c7K e63 2 h fun G7 h=>rg<|j5 1 h (fun h=>rg<|fL lc h) (fun h=>n9<|tk 2 []<|t8 h fun e1 h=>F6 3 23 3 1 8 eI vals G7.2.1 e1<|E4 G7.2.1<|rg<|(lc.nx h fun hI=>sk [] [6,7,23,24,25] [(23,0)] hI))) (fun h=>(lc.bk h fun hI=>sk [] [6,7] [(1,0)] hI))
def b7k(list:List m9)(progs:List (List n8)):Option ((List m9)×List Int) :=
 ((a65 list).bind fun R9=>(bif (!R9) then some ([],[]) else (bif decide ((progs.length:Int)>100) then some ([],[]) else ((a78 list).bind fun box=>((p8 (fun s:(List Int)×Int×List m9=>b0M progs s.1 s.2.1 s.2.2) ([],0,box)).bind fun x=>x.go (fun r=>some r) fun s=>b6E s.1 s.2)))))
theorem d7C{list progs}:OK a81 [j9 2 x7 list,j9 1 a13 progs] (b7k list progs) :=
 o7 _ fun r h=>n9<|j8 a3a b4j 1 h fun R9 h=>j5 3 h (fun h=>rg<|fE h) (fun h=>j5 7 h (fun h=>rg<|fE h) (fun h=>rg<|j8 b7F c0z 1 h fun box h=>n9<|lp (f0m progs) h (fun _ h=>a81.rt h) (f4n r) fun hI=>s6 box<|sk [.frz (.tmp 6) (none),.own (.tmp 7) 3 1] [6,7,23,24,25] [(18,0)] hI))
def a73:FS (Bool):=⟨98,Tryz.f98,[.val [] []],[none,none],[.val [some 2] [],.val [some 2] []],fun r=>.b r,fun _=>[none,none],Tryz.func98⟩
def d4p:Unit->KS:=fun _=>⟨a73.k 4 [false,false],(bs 26 []),[some []]⟩
def d3m:Option Bool :=
 some true
theorem f2S(r):NF a73 r d4p (fun s=>d3m):=fun _ h=>PK<|rg<|fE h
def d9c(a:List m9)(b:List m9):Int->KS:=fun v13=>⟨a73.k 3 [false],(j9 2 x7 a::(j9 2 x7 b::(bs 10 (vi (a.length:Int)::(vi v13::(bs 12 [])))))),[some []]⟩
def b8N(a:List m9)(b:List m9)(v13:Int):Option (l7 Bool Int Unit) :=
 (bif decide (v13<(a.length:Int)) then ((idx a v13).bind fun box=>((idx b v13).bind fun P9=>(bif (!(([box.j4,box.d9]:List Int)==[P9.j4,P9.d9])) then some (l7.ret false) else some (l7.nxt (m8 (v13+1)))))) else some (l7.brk ()))
theorem e5p(a b):LQ a73 d4p (d9c a b) (fun s=>b8N a b s):=fun lc v13 h=>PK<|rg<|j5 0 h (fun h=>n9<|v5 x7 2 h fun box a14 h=>v5 x7 6 h fun P9 a6N h=>j5 8 h (fun h=>rg<|fL lc h) (fun h=>rg<|(lc.nx h fun hI=>sk [] [0,1,12,13] [] hI))) (fun h=>(lc.bk h fun hI=>sk [] [] [] hI))
def c3X(a:List m9)(b:List m9):Option Bool :=
 (bif ((a.length:Int) != (b.length:Int)) then some false else ((p8 (fun s:Int=>b8N a b s) 0).bind fun x=>x.go (fun r=>some r) fun s=>d3m))
theorem d7H{a b}:OK a73 [j9 2 x7 a,j9 2 x7 b] (c3X a b) :=
 o7 _ fun r h=>n9<|j5 4 h (fun h=>rg<|fE h) (fun h=>rg<|lp (e5p a b) h (fun _ h=>a73.rt h) (f2S r) fun hI=>sk [] [0,1,12,13] [] hI)
def c7Z:FS (Bool):=⟨39,Tryz.f39,[.val [] []],[none,none],[.val [some 2] [],.val [some 2] []],fun r=>.b r,fun _=>[none,none],Tryz.func39⟩
def b7E(a:List m9)(b:List m9):Option Bool :=
 ((c3X a b).bind fun box=>some box)
theorem f0E{a b}:OK c7Z [j9 2 x7 a,j9 2 x7 b] (b7E a b) :=
 o7 _ fun r h=>n9<|j8 a73 d7H 2 h fun box h=>fE h
def a2v:FS (Bool):=⟨11,Tryz.f11,[.val [] []],[none],[.val E0 []],fun r=>.b r,fun _=>[none],Tryz.func11⟩
def d05(worldLog:List m4)(z8:List n7):(List (List n8))->KS:=fun b0a=>⟨a2v.k 7 [false,false],(bs 3 (j9 7 s7 worldLog::(j9 2 E6 z8::(.own 1 0 1 0 b0a.length::(bs 74 []))))),[some [],some [m6 40 1 a13 b0a]]⟩
def d5d:Unit->KS:=fun _=>⟨a2v.k 11 [false,false,false,false],(bs 80 []),[some []]⟩
def d6K:Option Bool :=
 some true
theorem f3W(r):NF a2v r d5d (fun s=>d6K):=fun _ h=>PK<|rg<|fE h
def f1Z(worldLog:List m4)(z8:List n7)(E7:(List m9)×List Int):Int->KS:=fun v61=>⟨a2v.k 10 [false,false,false],(bs 3 (j9 7 s7 worldLog::(bs 7 (j9 1 eI E7.2::(bs 47 (j9 2 E6 z8::(vi (z8.length:Int)::(vi v61::(bs 18 []))))))))),[some []]⟩
def b6t(worldLog:List m4)(z8:List n7)(E7:(List m9)×List Int)(v61:Int):Option (l7 Bool Int Unit) :=
 (bif decide (v61<(z8.length:Int)) then ((idx z8 v61).bind fun req=>((idx E7.2 v61).bind fun y=>((a5U worldLog req).bind fun first=>((idx worldLog first).bind fun entry=>(bif (y != entry.b7.d9) then some (l7.ret false) else some (l7.nxt (m8 (v61+1)))))))) else some (l7.brk ()))
theorem e0Q(worldLog z8 E7):LQ a2v d5d (f1Z worldLog z8 E7) (fun s=>b6t worldLog z8 E7 s):=fun lc v61 h=>PK<|rg<|j5 0 h (fun h=>rg<|v5 E6 1 h fun req d3b h=>rg<|v5 eI 2 h fun y hy h=>j8 a1I b2N 7 h fun first h=>v5 s7 8 h fun entry F8 h=>j5 12 h (fun h=>rg<|fL lc h) (fun h=>rg<|(lc.nx h fun hI=>sk [] [3,11,59,60,61] [] hI))) (fun h=>(lc.bk h fun hI=>sk [] [] [] hI))
def b3I(worldLog:List m4)(z8:List n7)(b0a:List (List n8)):Option Bool :=
 ((b3C).bind fun a0T=>((b7k a0T b0a).bind fun E7=>((b1T worldLog).bind fun a0A=>((b7E E7.1 a0A.g7).bind fun b4w=>(bif (!b4w) then some false else (bif ((E7.2.length:Int) != (z8.length:Int)) then some false else ((p8 (fun s:Int=>b6t worldLog z8 E7 s) 0).bind fun x=>x.go (fun r=>some r) fun s=>d6K)))))))
theorem e1s(worldLog z8)(r):NF a2v r (d05 worldLog z8) (fun s=>b3I worldLog z8 s):=fun b0a h=>PK<|rg<|j8 c0N c7O 0 h fun a0T h=>j8 a81 d7C 2 h fun E7 h=>C7 a0T b0a<|rg<|j8 c5F c8h 2 h fun a0A h=>R5 c7Z f0E 4 2 h fun b4w h=>s6 a0A.g7<|j5 6 h (fun h=>rg<|fE h) (fun h=>j5 12 h (fun h=>rg<|fE h) (fun h=>rg<|lp (e0Q worldLog z8 E7) h (fun _ h=>a2v.rt h) (f3W r) fun hI=>sk [] [3,11,59,60,61] [] hI))
def d8l(w:m5)(worldLog:List m4)(z8:List n7):((List (List n8))×Int)->KS:=fun (progs,v23)=>⟨a2v.k 6 [false],(bs 1 (.ptr 1 0 0::(bs 1 (j9 7 s7 worldLog::(j9 2 E6 z8::(.own 2 0 1 0 progs.length::(bs 15 (j9 2 E6 z8::(vi (z8.length:Int)::(vi v23::(bs 56 []))))))))))),[some [],some [.var 30 (G8 w)],some [m6 40 1 a13 progs]]⟩
def a55(w:m5)(z8:List n7)(progs:List (List n8))(v23:Int):Option (l7 Bool ((List (List n8))×Int) (List (List n8))) :=
 (bif decide (v23<(z8.length:Int)) then ((idx z8 v23).bind fun d0y=>((b8F w d0y).bind fun a1A=>(bif (!a1A.2) then some (l7.ret false) else (t5 ((progs.length+1)*24<=140737488355328) (some (l7.nxt (progs++[a1A.1],m8 (v23+1)))))))) else some (l7.brk progs))
theorem f3D(w worldLog z8):LQ a2v (d05 worldLog z8) (d8l w worldLog z8) (fun s=>a55 w z8 s.1 s.2):=fun lc (progs,v23) h=>PK<|rg<|j5 0 h (fun h=>rg<|v5 E6 0 h fun d0y f5g h=>rg<|j8 a8A f1v 2 h fun a1A h=>rg<|j5 1 h (fun h=>rg<|fL lc h) (fun h=>rg<|s6 a1A.1<|tk 2 [some 4]<|t8 h fun e1 h=>F6 3 21 40 1 24 a13 progs a1A.1 e1<|E4 a1A.1<|rg<|(lc.nx h fun hI=>sk [] [1,3,4,5,21,22,23] [(1,0),(21,0)] hI))) (fun h=>(lc.bk h fun hI=>sk [] [3,4,5] [(2,0)] hI))
def b5Z(w:m5):Option Bool :=
 ((a52 w).bind fun C9=>(bif (!C9) then some false else ((b0O w).bind fun worldLog=>((b60 worldLog).bind fun z8=>((p8 (fun s:(List (List n8))×Int=>a55 w z8 s.1 s.2) ([],0)).bind fun x=>x.go (fun r=>some r) fun s=>b3I worldLog z8 s)))))
theorem d8o{w}:OK a2v [.agg (R8 w)] (b5Z w) :=
 o7 _ fun r h=>n9<|j8 O4 b1S 1 h fun C9 h=>j5 2 h (fun h=>rg<|fE h) (fun h=>rg<|j8 a3P c89 1 h fun worldLog h=>rg<|j8 a5n f3Z 1 h fun z8 h=>n9<|lp (f3D w worldLog z8) h (fun _ h=>a2v.rt h) (e1s worldLog z8 r) fun hI=>sk [.own (.tmp 5) 40 1] [1,3,4,5,21,22,23] [(1,0),(16,0)] hI)
def a5c:FS (Bool):=⟨12,Tryz.f12,[.val [] []],[none],[.val E0 []],fun r=>.b r,fun _=>[none],Tryz.func12⟩
def c3C:Unit->KS:=fun _=>⟨a5c.k 6 [false,false],(bs 56 []),[some []]⟩
def c7y:Option Bool :=
 some true
theorem d92(r):NF a5c r c3C (fun s=>c7y):=fun _ h=>PK<|rg<|fE h
def c8H(w:m5)(worldLog:List m4)(o8:u0×List Int):Int->KS:=fun v23=>⟨a5c.k 5 [false],(bs 3 (j9 7 s7 worldLog::(bs 1 (.own 1 0 1 0 o8.2.length::(bs 15 (j9 5 z4 w.Told::(vi (w.Told.length:Int)::(vi v23::(bs 32 []))))))))),[some [],some [m6 3 1 eI o8.2]]⟩
def f3n(w:m5)(worldLog:List m4)(o8:u0×List Int)(v23:Int)(told:n5):Int->KS:=fun val=>⟨a5c.k 12 [false,true,false,true],(bs 3 (j9 7 s7 worldLog::(bs 1 (.own 1 0 1 0 o8.2.length::(bs 1 (.ptr 2 0 0::(bs 1 (vi val::(bs 11 (j9 5 z4 w.Told::(vi (w.Told.length:Int)::(vi v23::(bs 32 []))))))))))))),[some [],some [m6 3 1 eI o8.2],some [.var 62 [vi told.Node,vi told.a0.b9,vi told.a0.Seq,vi told.Code,vi told.d9]]]⟩
def c0U(v23:Int)(told:n5)(val:Int):Option (l7 Bool Int Unit) :=
 (bif (told.d9 != val) then some (l7.ret false) else some (l7.nxt (m8 (v23+1))))
theorem f4k(w worldLog o8 v23 told)(lc:H2 a5c c3C (c8H w worldLog o8)):NL lc (f3n w worldLog o8 v23 told) (fun s=>c0U v23 told s):=fun val h=>PK<|rg<|j5 3 h (fun h=>rg<|fL lc h) (fun h=>rg<|(lc.nx h fun hI=>sk [] [3,5,21,22,23] [(1,0)] hI))
def b5l(w:m5)(worldLog:List m4)(o8:u0×List Int)(v23:Int):Option (l7 Bool Int Unit) :=
 (bif decide (v23<(w.Told.length:Int)) then ((idx w.Told v23).bind fun told=>((a5U worldLog told.a0).bind fun first=>(bif decide (first<0) then some (l7.ret false) else ((idx o8.2 first).bind fun y=>(bif (y != told.Code) then some (l7.ret false) else (((bif (told.Code==0) then ((idx worldLog first).bind fun entry=>some (l9.brk entry.b7.d9)) else some (l9.brk 0)):Option (l9 (l7 Bool Int Unit) Int)).bind fun x=>x.go some fun j=>c0U v23 told j)))))) else some (l7.brk ()))
theorem d96(w worldLog o8):LQ a5c c3C (c8H w worldLog o8) (fun s=>b5l w worldLog o8 s):=fun lc v23 h=>PK<|rg<|j5 0 h (fun h=>rg<|v5 z4 0 h fun told a3Q h=>rg<|j8 a1I b2N 3 h fun first h=>rg<|j5 2 h (fun h=>rg<|fL lc h) (fun h=>A9 h fun y hy h=>B9 hy<|H9 eI 6 hy<|j5 10 h (fun h=>rg<|fL lc h) (fun h=>rg<|A7 h (f4k w worldLog o8 v23 told lc) fun x2 h hc2=>rg<|j5 2 h (fun h=>rg<|v5 s7 2 h fun entry F8 h=>(p7 h hc2 fun hI=>sk [] [3,5,7,9,21,22,23] [(1,0),(5,0)] hI)) (fun h=>(p7 h hc2 fun hI=>sk [] [3,5,7,9,21,22,23] [(1,0),(5,0)] hI))))) (fun h=>(lc.bk h fun hI=>sk [] [] [] hI))
def b3Q(w:m5):Option Bool :=
 ((a52 w).bind fun C9=>(bif (!C9) then some false else ((b0O w).bind fun worldLog=>((a8y worldLog).bind fun o8=>((p8 (fun s:Int=>b5l w worldLog o8 s) 0).bind fun x=>x.go (fun r=>some r) fun s=>c7y)))))
theorem e7d{w}:OK a5c [.agg (R8 w)] (b3Q w) :=
 o7 _ fun r h=>n9<|j8 O4 b1S 1 h fun C9 h=>j5 2 h (fun h=>rg<|fE h) (fun h=>rg<|j8 a3P c89 1 h fun worldLog h=>rg<|j8 a2I b8Z 1 h fun o8 h=>rg<|lp (d96 w worldLog o8) h (fun _ h=>a5c.rt h) (d92 r) fun hI=>sk [] [3,5,21,22,23] [(10,2)] hI)
def a79:FS (Bool):=⟨13,Tryz.f13,[.val [] []],[none],[.val E0 []],fun r=>.b r,fun _=>[none],Tryz.func13⟩
def c7j:Unit->KS:=fun _=>⟨a79.k 5 [false,false],(bs 25 []),[some []]⟩
def d2c:Option Bool :=
 some true
theorem f0A(r):NF a79 r c7j (fun s=>d2c):=fun _ h=>PK<|rg<|fE h
def f2h(w:m5):((List n7)×Int)->KS:=fun (w1,v13)=>⟨a79.k 4 [false],(bs 3 (.mp 1 0::(bs 7 (j9 5 z4 w.Told::(vi (w.Told.length:Int)::(vi v13::(bs 11 []))))))),[some [],some [.map 94 2 (w1.map fun x=>(H5 x,.b true))]]⟩
def b4X(w:m5)(w1:List n7)(v13:Int):Option (l7 Bool ((List n7)×Int) Unit) :=
 (bif decide (v13<(w.Told.length:Int)) then ((idx w.Told v13).bind fun told=>(bif (w1.any fun x=>H5 told.a0==H5 x) then some (l7.ret false) else some (l7.nxt (a8e H5 w1 told.a0,m8 (v13+1))))) else some (l7.brk ()))
theorem d87(w):LQ a79 c7j (f2h w) (fun s=>b4X w s.1 s.2):=fun lc (w1,v13) h=>PK<|rg<|j5 0 h (fun h=>rg<|v5 z4 0 h fun told a3Q h=>rg<|cdT (3,{v:=some (.b (w1.any fun x=>H5 told.a0==H5 x))}) h (fun _ h=>om (a22 (w1.map fun x=>(H5 x,.b true)) (H5 told.a0) (.b false)=.b (w1.any fun x=>H5 told.a0==H5 x)) (c4R H5 _ _)<|rg<|fL lc h) (fun _ h=>om (a22 (w1.map fun x=>(H5 x,.b true)) (H5 told.a0) (.b false)=.b (w1.any fun x=>H5 told.a0==H5 x)) (c4R H5 _ _)<|rg<|om (s8.map 94 2 (a1X (w1.map fun x=>(H5 x,.b true)) (H5 told.a0) (.b true))=.map 94 2 ((a8e H5 w1 told.a0).map fun x=>(H5 x,.b true))) (congrArg (s8.map 94 2) (c7i H5 _ _))<|tl (3,{e:=some (.map 94 2 ((a8e H5 w1 told.a0).map fun x=>(H5 x,.b true)))})<|rg<|(lc.nx h fun hI=>sk [] [3,11,12,13] [(1,0)] hI))) (fun h=>(lc.bk h fun hI=>sk [] [] [] hI))
def b4m(w:m5):Option Bool :=
 ((a52 w).bind fun C9=>(bif (!C9) then some false else ((p8 (fun s:(List n7)×Int=>b4X w s.1 s.2) (([]:List n7),0)).bind fun x=>x.go (fun r=>some r) fun s=>d2c)))
theorem e5N{w}:OK a79 [.agg (R8 w)] (b4m w) :=
 o7 _ fun r h=>n9<|j8 O4 b1S 1 h fun C9 h=>j5 2 h (fun h=>rg<|fE h) (fun h=>n9<|lp (d87 w) h (fun _ h=>a79.rt h) (f0A r) fun hI=>sk [] [3,11,12,13] [(6,0)] hI)
def a3G:FS (List m4):=⟨43,Tryz.f43,[.val [some 7] []],[none],[.val E0 []],fun r=>j9 7 s7 r,fun _=>[none],Tryz.func43⟩
def c3Y(w:m5):Int->KS:=fun a3X=>⟨a3G.k 4 [false],(bs 1 (.ptr 1 0 0::(bs 1 (vi a3X::(bs 36 []))))),[some [],some [.var 30 (G8 w)]]⟩
def c5T(w:m5)(a3X:Int):Option (List m4) :=
 (bif ((w.a9.length:Int)==0) then some ([]:List m4) else ((idx w.a9 a3X).bind fun node=>((b0A node.a5).bind fun a7E=>some a7E)))
theorem e7D(w)(r):NF a3G r (c3Y w) (fun s=>c5T w s):=fun a3X h=>PK<|rg<|j5 3 h (fun h=>rg<|tk 0 K6<|A8 m4<|fE h) (fun h=>rg<|v5 A6 3 h fun node hnode h=>j8 a4N c04 6 h fun a7E h=>s6 a7E<|fE h)
def d1I(w:m5):(Int×Int)->KS:=fun (best,i)=>⟨a3G.k 3 [],(bs 1 (.ptr 1 0 0::(bs 1 (vi best::(vi i::(bs 35 [])))))),[some [],some [.var 30 (G8 w)]]⟩
def e4G(w:m5)(i:Int):Int->KS:=fun a5m=>⟨a3G.k 6 [true,true],(bs 1 (.ptr 1 0 0::(bs 1 (vi a5m::(vi i::(bs 35 [])))))),[some [],some [.var 30 (G8 w)]]⟩
def c2c(i:Int)(a5m:Int):Option (l7 (List m4) (Int×Int) Int) :=
 some (l7.nxt (a5m,m8 (i+1)))
theorem d8i(w i)(lc:H2 a3G (c3Y w) (d1I w)):NL lc (e4G w i) (fun s=>c2c i s):=fun a5m h=>PK<|rg<|(lc.nx h fun hI=>sk [] [1,3,4] [(1,0)] hI)
def b3u(w:m5)(best:Int)(i:Int):Option (l7 (List m4) (Int×Int) Int) :=
 (bif decide (i<(w.a9.length:Int)) then ((((idx w.a9 i).bind fun a1l=>((idx w.a9 best).bind fun b2u=>(bif decide ((a1l.a5.length:Int)>(b2u.a5.length:Int)) then some (l9.brk i) else some (l9.brk best)))):Option (l9 (l7 (List m4) (Int×Int) Int) Int)).bind fun x=>x.go some fun j=>c2c i j) else some (l7.brk best))
theorem e4c(w):LQ a3G (c3Y w) (d1I w) (fun s=>b3u w s.1 s.2):=fun lc (best,i) h=>PK<|rg<|j5 4 h (fun h=>A7 h (d8i w i lc) fun x2 h hc2=>rg<|v5 A6 3 h fun a1l a4o h=>v5 A6 10 h fun b2u d9s h=>j5 14 h (fun h=>rg<|(p7 h hc2 fun hI=>sk [] [1,3,4] [(1,0)] hI)) (fun h=>(p7 h hc2 fun hI=>sk [] [1,3,4] [(1,0)] hI))) (fun h=>(lc.bk h fun hI=>sk [] [1,3] [(1,0)] hI))
def b1l(w:m5):Option (List m4) :=
 ((p8 (fun s:Int×Int=>b3u w s.1 s.2) (0,0)).bind fun x=>x.go (fun r=>some r) fun s=>c5T w s)
theorem d2R{w}:OK a3G [.agg (R8 w)] (b1l w) :=
 o7 _ fun r h=>N1<|lp (e4c w) h (fun _ h=>a3G.rt h) (e7D w r) fun hI=>sk [] [1,3,4] [(1,0)] hI
def a5x:FS (List n7):=⟨44,Tryz.f44,[.val [some 2] []],[none],[.val [some 7] []],fun r=>j9 2 E6 r,fun _=>[none],Tryz.func44⟩
def c4p:(List n7)->KS:=fun out1=>⟨a5x.k 6 [false,false],(bs 3 (.own 1 0 2 0 out1.length::(bs 37 []))),[some [],some [m6 50 2 E6 out1]]⟩
def d2Z(out1:List n7):Option (List n7) :=
 some out1
theorem e5J(r):NF a5x r c4p (fun s=>d2Z s):=fun out1 h=>PK<|rg<|s6 out1<|fE h
def c7r(list:List m4):((List n7)×(List m9)×Int×Int×List q8)->KS:=fun (out,g7,i,sAt,sDones)=>⟨a5x.k 5 [false],(j9 7 s7 list::(bs 2 (.own 1 0 2 0 out.length::(.ptr 2 0 0::(vi i::(bs 35 [])))))),[some [],some [m6 50 2 E6 out],some [.var 89 [vi sAt,.own 3 0 2 0 g7.length,j9 4 B7 sDones]],some [m6 140 2 x7 g7]]⟩
def e3c(list:List m4)(i:Int)(l5Apply:u0×Int):(List n7)->KS:=fun out2=>⟨a5x.k 10 [false,true,true],(j9 7 s7 list::(bs 2 (.own 1 0 2 0 out2.length::(.ptr 2 0 0::(vi i::(bs 35 [])))))),[some [],some [m6 50 2 E6 out2],some [.var 89 [vi l5Apply.1.At,.own 3 0 2 0 l5Apply.1.g7.length,j9 4 B7 l5Apply.1.i8]],some [m6 140 2 x7 l5Apply.1.g7]]⟩
def c4X(i:Int)(l5Apply:u0×Int)(out2:List n7):Option (l7 (List n7) ((List n7)×(List m9)×Int×Int×List q8) (List n7)) :=
 some (l7.nxt (out2,l5Apply.1.g7,m8 (i+1),l5Apply.1.At,l5Apply.1.i8))
theorem e7z(list i l5Apply)(lc:H2 a5x c4p (c7r list)):NL lc (e3c list i l5Apply) (fun s=>c4X i l5Apply s):=fun out2 h=>PK<|rg<|(lc.nx h fun hI=>sk [] [0,3,4,5] [(1,0),(2,0),(3,0)] hI)
def a7H(list:List m4)(out:List n7)(g7:List m9)(i:Int)(sAt:Int)(sDones:List q8):Option (l7 (List n7) ((List n7)×(List m9)×Int×Int×List q8) (List n7)) :=
 (bif decide (i<(list.length:Int)) then ((idx list i).bind fun entry=>((a8f (u0.mk sAt g7 sDones) entry).bind fun l5Apply=>(((bif (l5Apply.2==0) then (t5 ((out.length+1)*16<=140737488355328) (some (l9.brk (out++[entry.a0])))) else some (l9.brk out)):Option (l9 (l7 (List n7) ((List n7)×(List m9)×Int×Int×List q8) (List n7)) (List n7))).bind fun x=>x.go some fun j=>c4X i l5Apply j))) else some (l7.brk out))
theorem f2A(list):LQ a5x c4p (c7r list) (fun s=>a7H list s.1 s.2.1 s.2.2.1 s.2.2.2.1 s.2.2.2.2):=fun lc (out,g7,i,sAt,sDones) h=>PK<|rg<|j5 3 h (fun h=>rg<|v5 s7 3 h fun entry F8 h=>j8 a2S b8L 5 h fun l5Apply h=>s6 g7<|rg<|A7 h (e7z list i l5Apply lc) fun x2 h hc2=>rg<|j5 1 h (fun h=>rg<|J0 s7 3 F8<|tk 6 []<|t8 h fun e1 h=>F6 7 31 50 2 16 E6 out entry.a0 e1<|E4 entry.a0<|(p7 h hc2 fun hI=>sk [] [0,3,4,5] [(31,0),(2,0),(13,0)] hI)) (fun h=>(p7 h hc2 fun hI=>sk [] [0,3,4,5] [(1,0),(2,0),(13,0)] hI))) (fun h=>(lc.bk h fun hI=>sk [] [3] [(1,0)] hI))
def b6J(list:List m4):Option (List n7) :=
 ((b1H list).bind fun b4Q=>(bif (!b4Q) then some ([]:List n7) else ((a8Q).bind fun Q0=>((p8 (fun s:(List n7)×(List m9)×Int×Int×List q8=>a7H list s.1 s.2.1 s.2.2.1 s.2.2.2.1 s.2.2.2.2) (([]:List n7),Q0.g7,0,Q0.At,Q0.i8)).bind fun x=>x.go (fun r=>some r) fun s=>d2Z s))))
theorem f2z{list}:OK a5x [j9 7 s7 list] (b6J list) :=
 o7 _ fun r h=>n9<|tk 0 []<|rg<|j8 a6k c7E 1 h fun b4Q h=>j5 2 h (fun h=>rg<|A8 n7<|fE h) (fun h=>rg<|j8 b2B b8X 0 h fun Q0 h=>rg<|lp (f2A list) h (fun _ h=>a5x.rt h) (e5J r) fun hI=>om ((.own 2 0 2 0 0:V)=.own 2 0 2 0 ([]:List n7).length) (by simp)<|sk [.is (.tmp 3) (.own 2 0 2 0 ([]:List n7).length)] [0,3,4,5] [(2,0),(8,0),(7,0)] hI)
def a70:FS ((List n8)×Bool):=⟨105,Tryz.f105,[.val [some 4] [some 115],.val [] []],[none,none],[.val E0 [],.val [] []],fun r=>.tup [u9 115 4 A0 r.1,.b r.2],fun _=>[none,none],Tryz.func105⟩
def c8Z:Unit->KS:=fun _=>⟨a70.k 3 [false],(bs 30 []),[some []]⟩
def d52:Option ((List n8)×Bool) :=
 some ([],false)
theorem f3Y(r):NF a70 r c8Z (fun s=>d52):=fun _ h=>PK<|rg<|fE h
def e6k(w:m5)(q:n7):Int->KS:=fun i=>⟨a70.k 2 [],(bs 2 (.ptr 1 0 0::(.ptr 2 0 0::(bs 2 (vi i::(bs 23 [])))))),[some [],some [.var 30 (G8 w)],some [.var 50 [vi q.b9,vi q.Seq]]]⟩
def b7A(w:m5)(q:n7)(i:Int):Option (l7 ((List n8)×Bool) Int Unit) :=
 (bif decide (i<(w.d7.length:Int)) then ((idx w.d7 i).bind fun asked=>(bif (([asked.a0.b9,asked.a0.Seq]:List Int)==[q.b9,q.Seq]) then (t5 ((([]:List n8).length+asked.i6.length)*32<=140737488355328) (some (l7.ret (([]:List n8)++asked.i6,true)))) else some (l7.nxt (m8 (i+1))))) else some (l7.brk ()))
theorem e2O(w q):LQ a70 c8Z (e6k w q) (fun s=>b7A w q s):=fun lc i h=>PK<|rg<|j5 4 h (fun h=>rg<|v5 B3 3 h fun asked a4U h=>j5 7 h (fun h=>rg<|tk 0 []<|J0 B3 4 a4U<|t8 h fun e1 h=>oa 23 0 4 ([]:List n8) asked.i6<|oz 115 4 A0 ([]:List n8) asked.i6<|A8 n8<|ob e1<|tl (7,{v:=some (.own 23 0 4 0 (([]:List n8)++asked.i6).length),e:=some (m6 115 4 A0 (([]:List n8)++asked.i6))})<|s6 (([]:List n8)++asked.i6)<|fL lc h) (fun h=>rg<|(lc.nx h fun hI=>sk [] [2,3,6] [(1,0),(2,0)] hI))) (fun h=>(lc.bk h fun hI=>sk [] [] [] hI))
def b8O(w:m5)(q:n7):Option ((List n8)×Bool) :=
 ((p8 (fun s:Int=>b7A w q s) 0).bind fun x=>x.go (fun r=>some r) fun s=>d52)
theorem f3S{w q}:OK a70 [.agg (R8 w),.agg (E6 q)] (b8O w q) :=
 o7 _ fun r h=>n9<|lp (e2O w q) h (fun _ h=>a70.rt h) (f3Y r) fun hI=>sk [] [2,3,6] [(1,0),(2,0)] hI
def a9m:FS ((List (List n8))×Bool):=⟨45,Tryz.f45,[.val [some 1] [],.val [] []],[none,none],[.val E0 [],.val [some 2] []],fun r=>.tup [j9 1 a13 r.1,.b r.2],fun _=>[none,none],Tryz.func45⟩
def c68:(List (List n8))->KS:=fun out1=>⟨a9m.k 4 [false],(bs 6 (.own 1 0 1 0 out1.length::(bs 26 []))),[some [],some [m6 40 1 a13 out1]]⟩
def c2F(out1:List (List n8)):Option ((List (List n8))×Bool) :=
 some (out1,true)
theorem e49(r):NF a9m r c68 (fun s=>c2F s):=fun out1 h=>PK<|rg<|s6 out1<|fE h
def e8m(w:m5)(list:List n7):((List (List n8))×Int)->KS:=fun (out,i)=>⟨a9m.k 3 [],(bs 1 (j9 2 E6 list::(.ptr 1 0 0::(bs 3 (.own 2 0 1 0 out.length::(vi i::(bs 25 []))))))),[some [],some [.var 30 (G8 w)],some [m6 40 1 a13 out]]⟩
def a56(w:m5)(list:List n7)(out:List (List n8))(i:Int):Option (l7 ((List (List n8))×Bool) ((List (List n8))×Int) (List (List n8))) :=
 (bif decide (i<(list.length:Int)) then ((idx list i).bind fun req=>((b8O w req).bind fun a1A=>(bif (!a1A.2) then some (l7.ret ([],false)) else (t5 ((out.length+1)*24<=140737488355328) (some (l7.nxt (out++[a1A.1],m8 (i+1)))))))) else some (l7.brk out))
theorem e2B(w list):LQ a9m c68 (e8m w list) (fun s=>a56 w list s.1 s.2):=fun lc (out,i) h=>PK<|rg<|j5 3 h (fun h=>rg<|v5 E6 3 h fun req d3b h=>j8 a70 f3S 5 h fun a1A h=>rg<|j5 1 h (fun h=>rg<|fL lc h) (fun h=>rg<|s6 a1A.1<|tk 2 [some 4]<|t8 h fun e1 h=>F6 3 23 40 1 24 a13 out a1A.1 e1<|E4 a1A.1<|rg<|(lc.nx h fun hI=>sk [] [1,2,6,7] [(1,0),(23,0)] hI))) (fun h=>(lc.bk h fun hI=>sk [] [6] [(2,0)] hI))
def c48(w:m5)(list:List n7):Option ((List (List n8))×Bool) :=
 ((p8 (fun s:(List (List n8))×Int=>a56 w list s.1 s.2) (([]:List (List n8)),0)).bind fun x=>x.go (fun r=>some r) fun s=>c2F s)
theorem f2l{w list}:OK a9m [.agg (R8 w),j9 2 E6 list] (c48 w list) :=
 o7 _ fun r h=>n9<|tk 0 [some 4]<|rg<|lp (e2B w list) h (fun _ h=>a9m.rt h) (e49 r) fun hI=>om ((.own 4 0 1 0 0:V)=.own 4 0 1 0 ([]:List (List n8)).length) (by simp)<|sk [.is (.tmp 6) (.own 4 0 1 0 ([]:List (List n8)).length)] [1,2,6,7] [(1,0),(4,0)] hI
def c30:FS (List m9):=⟨107,Tryz.f107,[.val [some 2] [some 140]],[none],[.val [some 2] []],fun r=>u9 140 2 x7 r,fun _=>[none],Tryz.func107⟩
def b2p(list:List m9):Option (List m9) :=
 (t5 ((([]:List m9).length+list.length)*16<=140737488355328) (some (([]:List m9)++list)))
theorem d2O{list}:OK c30 [j9 2 x7 list] (b2p list) :=
 o7 _ fun r h=>n9<|tk 0 []<|t8 h fun e1 h=>oa 4 0 2 ([]:List m9) list<|oz 140 2 x7 ([]:List m9) list<|A8 m9<|ob e1<|tl (2,{v:=some (.own 4 0 2 0 (([]:List m9)++list).length),e:=some (m6 140 2 x7 (([]:List m9)++list))})<|s6 (([]:List m9)++list)<|fE h
def d2P:FS ((List m9)×Int×Int):=⟨108,Tryz.f108,[.val [some 2] [],.val [] [],.val [] []],[none,none],[.val [some 2] [],.val [some 4] []],fun r=>.tup [j9 2 x7 r.1,vi r.2.1,vi r.2.2],fun _=>[none,none],Tryz.func108⟩
def b9n(list:List m9)(prog:List n8):Option ((List m9)×Int×Int) :=
 ((a7N list prog).bind fun B8=>(bif (B8.Code==3) then some (([]:List m9),0,3) else ((b2p list).bind fun a8X=>((b3D a8X B8).bind fun a9F=>some (a9F,B8.d9,B8.Code)))))
theorem e0d{list prog}:OK d2P [j9 2 x7 list,j9 4 A0 prog] (b9n list prog) :=
 o7 _ fun r h=>n9<|j8 a4g c61 2 h fun B8 h=>rg<|j5 2 h (fun h=>rg<|tk 0 []<|A8 m9<|fE h) (fun h=>rg<|j8 c30 d2O 1 h fun a8X h=>cbS a5C d3e 3 (fun _=>(by simp [a5C,K2,R6,N6,V.simple,vi,u9,x7,eI])) (fun _=>(O9 2)) h fun a9F h=>s6 a8X<|olR B8<|s6 a9F<|fE h)
def a88:FS ((List m9)×List Int):=⟨46,Tryz.f46,[.val [some 2] [],.val [some 1] []],[none,none],[.val [some 2] [],.val [some 1] []],fun r=>.tup [j9 2 x7 r.1,j9 1 eI r.2],fun _=>[none,none],Tryz.func46⟩
def d3V:((List Int)×List m9)->KS:=fun (out1,x_1)=>⟨a88.k 6 [false,false],(bs 6 (.own 1 0 1 0 out1.length::(j9 2 x7 x_1::(bs 44 [])))),[some [],some [m6 3 1 eI out1]]⟩
def c4m(out1:List Int)(x_1:List m9):Option ((List m9)×List Int) :=
 some (x_1,out1)
theorem e3T(r):NF a88 r d3V (fun s=>c4m s.1 s.2):=fun (out1,x_1) h=>PK<|rg<|s6 out1<|fE h
def e2i(progs:List (List n8)):((List Int)×(List m9)×Int)->KS:=fun (out,x_,i)=>⟨a88.k 5 [false],(bs 1 (j9 1 a13 progs::(bs 4 (.own 1 0 1 0 out.length::(j9 2 x7 x_::(vi i::(bs 43 []))))))),[some [],some [m6 3 1 eI out]]⟩
def b0E(progs:List (List n8))(out:List Int)(x_:List m9)(i:Int):Option (l7 ((List m9)×List Int) ((List Int)×(List m9)×Int) ((List Int)×List m9)) :=
 (bif decide (i<(progs.length:Int)) then ((idx progs i).bind fun y=>((b9n x_ y).bind fun G7=>(bif (G7.2.2==3) then some (l7.ret (([]:List m9),([]:List Int))) else (t5 ((out.length+1)*8<=140737488355328) (some (l7.nxt (out++[G7.2.1],G7.1,m8 (i+1)))))))) else some (l7.brk (out,x_)))
theorem e9N(progs):LQ a88 d3V (e2i progs) (fun s=>b0E progs s.1 s.2.1 s.2.2):=fun lc (out,x_,i) h=>PK<|rg<|j5 3 h (fun h=>rg<|v5 a13 3 h fun y hy h=>j8 d2P e0d 5 h fun G7 h=>rg<|j5 1 h (fun h=>rg<|tk 0 []<|tk 1 []<|A8 m9<|A8 Int<|fL lc h) (fun h=>n9<|tk 2 []<|t8 h fun e1 h=>F6 3 26 3 1 8 eI out G7.2.1 e1<|E4 G7.2.1<|rg<|(lc.nx h fun hI=>sk [] [1,6,7,8] [(26,0)] hI))) (fun h=>(lc.bk h fun hI=>sk [] [6,7] [(1,0)] hI))
def b7S(list:List m9)(progs:List (List n8)):Option ((List m9)×List Int) :=
 ((b1b list).bind fun R9=>(bif (!R9) then some (([]:List m9),([]:List Int)) else (bif decide ((progs.length:Int)>100) then some (([]:List m9),([]:List Int)) else ((b2p list).bind fun a8X=>((p8 (fun s:(List Int)×(List m9)×Int=>b0E progs s.1 s.2.1 s.2.2) (([]:List Int),a8X,0)).bind fun x=>x.go (fun r=>some r) fun s=>c4m s.1 s.2)))))
theorem f1M{list progs}:OK a88 [j9 2 x7 list,j9 1 a13 progs] (b7S list progs) :=
 o7 _ fun r h=>n9<|j8 a4T c4J 1 h fun R9 h=>j5 3 h (fun h=>rg<|tk 0 []<|tk 1 []<|A8 m9<|A8 Int<|fE h) (fun h=>j5 7 h (fun h=>rg<|tk 0 []<|tk 1 []<|A8 m9<|A8 Int<|fE h) (fun h=>rg<|tk 0 []<|rg<|j8 c30 d2O 1 h fun a8X h=>rg<|lp (e9N progs) h (fun _ h=>a88.rt h) (e3T r) fun hI=>s6 a8X<|om ((.own 11 0 1 0 0:V)=.own 11 0 1 0 ([]:List Int).length) (by simp)<|sk [.frz (.tmp 7) (none),.is (.tmp 6) (.own 11 0 1 0 ([]:List Int).length)] [1,6,7,8] [(11,0)] hI))
def a89:FS (Bool):=⟨48,Tryz.f48,[.val [] []],[none,none],[.val [some 2] [],.val [some 2] []],fun r=>.b r,fun _=>[none,none],Tryz.func48⟩
def d59:Unit->KS:=fun _=>⟨a89.k 4 [false,false],(bs 26 []),[some []]⟩
def d49:Option Bool :=
 some true
theorem d7E(r):NF a89 r d59 (fun s=>d49):=fun _ h=>PK<|rg<|fE h
def d8t(a:List m9)(b:List m9):Int->KS:=fun i=>⟨a89.k 3 [false],(j9 2 x7 a::(j9 2 x7 b::(bs 3 (vi i::(bs 20 []))))),[some []]⟩
def b5h(a:List m9)(b:List m9)(i:Int):Option (l7 Bool Int Unit) :=
 (bif decide (i<(a.length:Int)) then ((idx a i).bind fun box=>((idx b i).bind fun P9=>(bif (!(([box.j4,box.d9]:List Int)==[P9.j4,P9.d9])) then some (l7.ret false) else some (l7.nxt (m8 (i+1)))))) else some (l7.brk ()))
theorem e6e(a b):LQ a89 d59 (d8t a b) (fun s=>b5h a b s):=fun lc i h=>PK<|rg<|j5 3 h (fun h=>rg<|v5 x7 2 h fun box a14 h=>v5 x7 6 h fun P9 a6N h=>j5 8 h (fun h=>rg<|fL lc h) (fun h=>rg<|(lc.nx h fun hI=>sk [] [0,1,5] [] hI))) (fun h=>(lc.bk h fun hI=>sk [] [] [] hI))
def b6v(a:List m9)(b:List m9):Option Bool :=
 (bif ((a.length:Int) != (b.length:Int)) then some false else ((p8 (fun s:Int=>b5h a b s) 0).bind fun x=>x.go (fun r=>some r) fun s=>d49))
theorem f4D{a b}:OK a89 [j9 2 x7 a,j9 2 x7 b] (b6v a b) :=
 o7 _ fun r h=>n9<|j5 4 h (fun h=>rg<|fE h) (fun h=>rg<|lp (e6e a b) h (fun _ h=>a89.rt h) (d7E r) fun hI=>sk [] [0,1,5] [] hI)
def a4k:FS (Int):=⟨50,Tryz.f50,[.val [] []],[none,none],[.val [some 7] [],.val [] []],fun r=>vi r,fun _=>[none,none],Tryz.func50⟩
def c1j:Unit->KS:=fun _=>⟨a4k.k 3 [false],(bs 33 []),[some []]⟩
def d3G:Option Int :=
 some 0
theorem e6M(r):NF a4k r c1j (fun s=>d3G):=fun _ h=>PK<|rg<|fE h
def c6J(list:List m4)(q:n7):Int->KS:=fun i=>⟨a4k.k 2 [],(j9 7 s7 list::(bs 2 (.ptr 1 0 0::(bs 1 (vi i::(bs 27 [])))))),[some [],some [.var 50 [vi q.b9,vi q.Seq]]]⟩
def e0f(list:List m4)(q:n7)(i:Int):Unit->KS:=fun _=>⟨a4k.k 4 [true,false],(j9 7 s7 list::(bs 2 (.ptr 1 0 0::(bs 1 (vi i::(bs 27 [])))))),[some [],some [.var 50 [vi q.b9,vi q.Seq]]]⟩
def c5W(i:Int):Option (l7 Int Int Unit) :=
 some (l7.nxt (m8 (i+1)))
theorem e2G(list q i)(lc:H2 a4k c1j (c6J list q)):NL lc (e0f list q i) (fun s=>c5W i):=fun _ h=>PK<|rg<|(lc.nx h fun hI=>sk [] [0,3,5] [(1,0)] hI)
def a9P(list:List m4)(q:n7)(i:Int):Option (l7 Int Int Unit) :=
 (bif decide (i<(list.length:Int)) then ((((idx list i).bind fun entry=>(bif (!entry.i7) then (bif (([entry.a0.b9,entry.a0.Seq]:List Int)==[q.b9,q.Seq]) then some (l9.ret (l7.ret entry.b7.d9)) else some (l9.brk ())) else some (l9.brk ()))):Option (l9 (l7 Int Int Unit) Unit)).bind fun x=>x.go some fun j=>c5W i) else some (l7.brk ()))
theorem e7E(list q):LQ a4k c1j (c6J list q) (fun s=>a9P list q s):=fun lc i h=>PK<|rg<|j5 3 h (fun h=>A7 h (e2G list q i lc) fun x2 h hc2=>rg<|v5 s7 2 h fun entry F8 h=>j5 6 h (fun h=>J0 s7 9 F8<|j5 14 h (fun h=>rg<|J0 s7 2 F8<|(C1 h hc2 fun h=>fL lc h)) (fun h=>(p7 h hc2 fun hI=>sk [] [0,3,5] [(1,0)] hI))) (fun h=>(p7 h hc2 fun hI=>sk [] [0,3,5] [(1,0)] hI))) (fun h=>(lc.bk h fun hI=>sk [] [] [] hI))
def a9x(list:List m4)(q:n7):Option Int :=
 ((p8 (fun s:Int=>a9P list q s) 0).bind fun x=>x.go (fun r=>some r) fun s=>d3G)
theorem d4Z{list q}:OK a4k [j9 7 s7 list,.agg (E6 q)] (a9x list q) :=
 o7 _ fun r h=>n9<|lp (e7E list q) h (fun _ h=>a4k.rt h) (e6M r) fun hI=>sk [] [0,3,5] [(1,0)] hI
def a8n:FS (Bool):=⟨14,Tryz.f14,[.val [] []],[none],[.val E0 []],fun r=>.b r,fun _=>[none],Tryz.func14⟩
def d1s:Unit->KS:=fun _=>⟨a8n.k 10 [false,false,false,false],(bs 61 []),[some []]⟩
def d0j:Option Bool :=
 some true
theorem e5B(r):NF a8n r d1s (fun s=>d0j):=fun _ h=>PK<|rg<|fE h
def d68(worldLog:List m4)(z8:List n7)(E7:(List m9)×List Int):Int->KS:=fun i=>⟨a8n.k 9 [false,false,false],(bs 3 (j9 7 s7 worldLog::(j9 2 E6 z8::(bs 3 (j9 1 eI E7.2::(vi i::(bs 51 []))))))),[some []]⟩
def b9w(worldLog:List m4)(z8:List n7)(E7:(List m9)×List Int)(i:Int):Option (l7 Bool Int Unit) :=
 (bif decide (i<(z8.length:Int)) then ((idx E7.2 i).bind fun y=>((idx z8 i).bind fun req=>((a9x worldLog req).bind fun b3x=>(bif (y != b3x) then some (l7.ret false) else some (l7.nxt (m8 (i+1))))))) else some (l7.brk ()))
theorem f3m(worldLog z8 E7):LQ a8n d1s (d68 worldLog z8 E7) (fun s=>b9w worldLog z8 E7 s):=fun lc i h=>PK<|rg<|j5 3 h (fun h=>rg<|v5 eI 2 h fun y hy h=>v5 E6 7 h fun req d3b h=>j8 a4k d4Z 9 h fun b3x h=>j5 10 h (fun h=>rg<|fL lc h) (fun h=>rg<|(lc.nx h fun hI=>sk [] [3,4,8,9] [] hI))) (fun h=>(lc.bk h fun hI=>sk [] [] [] hI))
def b5M(w:m5):Option Bool :=
 ((a8J w).bind fun C9=>(bif (!C9) then some false else ((b1l w).bind fun worldLog=>((b6J worldLog).bind fun z8=>((c48 w z8).bind fun c5x=>(bif (!c5x.2) then some false else ((b31).bind fun a0T=>((b7S a0T c5x.1).bind fun E7=>(bif ((E7.2.length:Int) != (z8.length:Int)) then some false else ((b3b worldLog).bind fun a0A=>((b6v E7.1 a0A.g7).bind fun b4w=>(bif (!b4w) then some false else ((p8 (fun s:Int=>b9w worldLog z8 E7 s) 0).bind fun x=>x.go (fun r=>some r) fun s=>d0j)))))))))))))
theorem e2D{w}:OK a8n [.agg (R8 w)] (b5M w) :=
 o7 _ fun r h=>n9<|j8 K3 b3T 1 h fun C9 h=>j5 2 h (fun h=>rg<|fE h) (fun h=>rg<|j8 a3G d2R 1 h fun worldLog h=>rg<|j8 a5x f2z 1 h fun z8 h=>rg<|j8 a9m f2l 2 h fun c5x h=>rg<|j5 1 h (fun h=>rg<|fE h) (fun h=>rg<|j8 c1t c6s 0 h fun a0T h=>j8 a88 f1M 2 h fun E7 h=>s6 a0T<|rg<|j5 5 h (fun h=>rg<|fE h) (fun h=>j8 a58 c7e 8 h fun a0A h=>R5 a89 f4D 10 2 h fun b4w h=>s6 a0A.g7<|j5 12 h (fun h=>rg<|fE h) (fun h=>rg<|lp (f3m worldLog z8 E7) h (fun _ h=>a8n.rt h) (e5B r) fun hI=>sk [] [3,4,8,9] [] hI))))
def a5p:FS (Int×Bool):=⟨51,Tryz.f51,[.val [] [],.val [] []],[none,none],[.val [some 7] [],.val [] []],fun r=>.tup [vi r.1,.b r.2],fun _=>[none,none],Tryz.func51⟩
def c53:Unit->KS:=fun _=>⟨a5p.k 4 [false],(bs 43 []),[some []]⟩
def d3E:Option (Int×Bool) :=
 some (0,false)
theorem e1L(r):NF a5p r c53 (fun s=>d3E):=fun _ h=>PK<|rg<|fE h
def d3s(list:List m4)(q:n7):((List m9)×Int×Int×List q8)->KS:=fun (g7,i,sAt,sDones)=>⟨a5p.k 3 [],(j9 7 s7 list::(bs 2 (.ptr 1 0 0::(bs 2 (.ptr 2 0 0::(vi i::(bs 35 []))))))),[some [],some [.var 50 [vi q.b9,vi q.Seq]],some [.var 89 [vi sAt,.own 3 0 2 0 g7.length,j9 4 B7 sDones]],some [m6 140 2 x7 g7]]⟩
def e7r(list:List m4)(q:n7)(i:Int)(l5Apply:u0×Int):Unit->KS:=fun _=>⟨a5p.k 7 [true,false],(j9 7 s7 list::(bs 2 (.ptr 1 0 0::(bs 2 (.ptr 2 0 0::(vi i::(bs 35 []))))))),[some [],some [.var 50 [vi q.b9,vi q.Seq]],some [.var 89 [vi l5Apply.1.At,.own 3 0 2 0 l5Apply.1.g7.length,j9 4 B7 l5Apply.1.i8]],some [m6 140 2 x7 l5Apply.1.g7]]⟩
def c3g(i:Int)(l5Apply:u0×Int):Option (l7 (Int×Bool) ((List m9)×Int×Int×List q8) Unit) :=
 some (l7.nxt (l5Apply.1.g7,m8 (i+1),l5Apply.1.At,l5Apply.1.i8))
theorem e0s(list q i l5Apply)(lc:H2 a5p c53 (d3s list q)):NL lc (e7r list q i l5Apply) (fun s=>c3g i l5Apply):=fun _ h=>PK<|rg<|(lc.nx h fun hI=>sk [] [0,3,6,7] [(1,0),(2,0),(3,0)] hI)
def a98(list:List m4)(q:n7)(g7:List m9)(i:Int)(sAt:Int)(sDones:List q8):Option (l7 (Int×Bool) ((List m9)×Int×Int×List q8) Unit) :=
 (bif decide (i<(list.length:Int)) then ((idx list i).bind fun entry=>((a8f (u0.mk sAt g7 sDones) entry).bind fun l5Apply=>(((bif (!entry.i7) then (bif (([entry.a0.b9,entry.a0.Seq]:List Int)==[q.b9,q.Seq]) then some (l9.ret (l7.ret (l5Apply.2,true))) else some (l9.brk ())) else some (l9.brk ())):Option (l9 (l7 (Int×Bool) ((List m9)×Int×Int×List q8) Unit) Unit)).bind fun x=>x.go some fun j=>c3g i l5Apply))) else some (l7.brk ()))
theorem d7n(list q):LQ a5p c53 (d3s list q) (fun s=>a98 list q s.1 s.2.1 s.2.2.1 s.2.2.2):=fun lc (g7,i,sAt,sDones) h=>PK<|rg<|j5 3 h (fun h=>rg<|v5 s7 3 h fun entry F8 h=>j8 a2S b8L 5 h fun l5Apply h=>s6 g7<|rg<|A7 h (e0s list q i l5Apply lc) fun x2 h hc2=>rg<|J0 s7 2 F8<|j5 6 h (fun h=>J0 s7 9 F8<|j5 14 h (fun h=>rg<|(C1 h hc2 fun h=>fL lc h)) (fun h=>(p7 h hc2 fun hI=>sk [] [0,3,6,7] [(1,0),(2,0),(13,0)] hI))) (fun h=>(p7 h hc2 fun hI=>sk [] [0,3,6,7] [(1,0),(2,0),(13,0)] hI))) (fun h=>(lc.bk h fun hI=>sk [] [] [] hI))
def b8W(list:List m4)(q:n7):Option (Int×Bool) :=
 ((a8Q).bind fun Q0=>((p8 (fun s:(List m9)×Int×Int×List q8=>a98 list q s.1 s.2.1 s.2.2.1 s.2.2.2) (Q0.g7,0,Q0.At,Q0.i8)).bind fun x=>x.go (fun r=>some r) fun s=>d3E))
theorem d9Q{list q}:OK a5p [j9 7 s7 list,.agg (E6 q)] (b8W list q) :=
 o7 _ fun r h=>n9<|j8 b2B b8X 0 h fun Q0 h=>rg<|lp (d7n list q) h (fun _ h=>a5p.rt h) (e1L r) fun hI=>sk [] [0,3,6,7] [(1,0),(5,0),(4,0)] hI
def a5h:FS (Bool):=⟨15,Tryz.f15,[.val [] []],[none],[.val E0 []],fun r=>.b r,fun _=>[none],Tryz.func15⟩
def c4Q:Unit->KS:=fun _=>⟨a5h.k 5 [false,false],(bs 53 []),[some []]⟩
def d2o:Option Bool :=
 some true
theorem e1O(r):NF a5h r c4Q (fun s=>d2o):=fun _ h=>PK<|rg<|fE h
def c6u(w:m5)(worldLog:List m4):Int->KS:=fun i=>⟨a5h.k 4 [false],(bs 1 (.ptr 1 0 0::(bs 1 (j9 7 s7 worldLog::(vi i::(bs 48 [])))))),[some [],some [.var 30 (G8 w)]]⟩
def e29(w:m5)(worldLog:List m4)(i:Int)(told:n5)(l10Code:Int×Bool):Int->KS:=fun v_=>⟨a5h.k 10 [false,true,true],(bs 1 (.ptr 1 0 0::(bs 1 (j9 7 s7 worldLog::(vi i::(.ptr 2 0 0::(vi l10Code.1::(.b l10Code.2::(vi v_::(bs 44 [])))))))))),[some [],some [.var 30 (G8 w)],some [.var 62 [vi told.Node,vi told.a0.b9,vi told.a0.Seq,vi told.Code,vi told.d9]]]⟩
def c00(i:Int)(told:n5)(l10Code:Int×Bool)(v_:Int):Option (l7 Bool Int Unit) :=
 (bif (!l10Code.2) then some (l7.ret false) else (bif (l10Code.1 != told.Code) then some (l7.ret false) else (bif (v_ != told.d9) then some (l7.ret false) else some (l7.nxt (m8 (i+1))))))
theorem e3o(w worldLog i told l10Code)(lc:H2 a5h c4Q (c6u w worldLog)):NL lc (e29 w worldLog i told l10Code) (fun s=>c00 i told l10Code s):=fun v_ h=>PK<|rg<|j5 2 h (fun h=>rg<|fL lc h) (fun h=>j5 8 h (fun h=>rg<|fL lc h) (fun h=>j5 13 h (fun h=>rg<|fL lc h) (fun h=>rg<|(lc.nx h fun hI=>sk [] [1,3,4] [(1,0)] hI))))
def b9c(w:m5)(worldLog:List m4)(i:Int):Option (l7 Bool Int Unit) :=
 (bif decide (i<(w.Told.length:Int)) then ((idx w.Told i).bind fun told=>((b8W worldLog told.a0).bind fun l10Code=>(((bif (l10Code.1==0) then ((a9x worldLog told.a0).bind fun b3x=>some (l9.brk b3x)) else some (l9.brk 0)):Option (l9 (l7 Bool Int Unit) Int)).bind fun x=>x.go some fun j=>c00 i told l10Code j))) else some (l7.brk ()))
theorem e9J(w worldLog):LQ a5h c4Q (c6u w worldLog) (fun s=>b9c w worldLog s):=fun lc i h=>PK<|rg<|j5 4 h (fun h=>rg<|v5 z4 3 h fun told a3Q h=>rg<|j8 a5p d9Q 3 h fun l10Code h=>rg<|A7 h (e3o w worldLog i told l10Code lc) fun x2 h hc2=>rg<|j5 1 h (fun h=>rg<|j8 a4k d4Z 3 h fun b3x h=>(p7 h hc2 fun hI=>sk [] [1,3,4,5,6,7,8] [(1,0),(12,0)] hI)) (fun h=>(p7 h hc2 fun hI=>sk [] [1,3,4,5,6,7,8] [(1,0),(12,0)] hI))) (fun h=>(lc.bk h fun hI=>sk [] [] [] hI))
def b4Z(w:m5):Option Bool :=
 ((a8J w).bind fun C9=>(bif (!C9) then some false else ((b1l w).bind fun worldLog=>((p8 (fun s:Int=>b9c w worldLog s) 0).bind fun x=>x.go (fun r=>some r) fun s=>d2o))))
theorem e9g{w}:OK a5h [.agg (R8 w)] (b4Z w) :=
 o7 _ fun r h=>n9<|j8 K3 b3T 1 h fun C9 h=>j5 2 h (fun h=>rg<|fE h) (fun h=>rg<|j8 a3G d2R 1 h fun worldLog h=>rg<|lp (e9J w worldLog) h (fun _ h=>a5h.rt h) (e1O r) fun hI=>sk [] [1,3,4] [(1,0)] hI)
def e9y:FS (Bool):=⟨3,Tryz.f3,[.val [] []],[none],[.val [some 1] []],fun r=>.b r,fun _=>[none],Tryz.func3⟩
def c2a(code:List Int):Option Bool :=
 (bif decide ((code.length:Int)>1048576) then some true else ((b64 code).bind fun b7D=>((b7U).bind fun a95=>((b3L a95 b7D).bind fun a5E=>((b14).bind fun a5P=>((b4D a5P b7D).bind fun a2b=>((b84 a5E a2b).bind fun a9g=>(bif a9g then ((a52 a5E).bind fun C9=>(bif C9 then ((b5Z a5E).bind fun a4Q=>(bif a4Q then ((b3Q a5E).bind fun c8F=>(bif c8F then ((b4m a5E).bind fun d4c=>(bif d4c then ((b5M a5E).bind fun d4y=>(bif d4y then ((b4Z a5E).bind fun d5b=>some d5b) else some false)) else some false)) else some false)) else some false)) else some false)) else some false))))))))
set_option maxRecDepth 20000 in
theorem f1w{code}:OK e9y [j9 1 K0 code] (c2a code) :=
 o7 _ fun r h=>n9<|j5 2 h (fun h=>rg<|fE h) (fun h=>rg<|j8 c8n e76 1 h fun b7D h=>rg<|j8 a8N e9O 0 h fun a95 h=>j8 a8E e56 2 h fun a5E h=>rg<|j8 a6y d2a 1 h fun a5P h=>A9 h fun a2b e5s h=>om (a0c cx.P 8 [.agg [.sl 27 a5P.a9.length (a0x (a5P.a9.map z6)),j9 13 t0 a5P.c8,j9 3 B3 a5P.d7,j9 5 z4 a5P.Told],j9 3 H3 b7D] (a41.R a2b) (a41.O a2b)) (by simp only [b06 b4x];exact (e0Z a2b e5s))<|B2 a5P<|tl (a41.t 3 false a2b)<|A9 h fun a9g e5Y h=>om (a0c cx.P 7 [.agg (R8 a5E),.agg [.sl 27 a2b.a9.length (a0x (a2b.a9.map z6)),j9 13 t0 a2b.c8,j9 3 B3 a2b.d7,j9 5 z4 a2b.Told]] (W1.R a9g) (W1.O a9g)) (by simp only [b06 b4x];exact (f4y a9g e5Y))<|osc W1 a9g rfl (O9 2)<|B2 a2b<|tl (W1.t 4 true a9g)<|j5 5 h (fun h=>j8 O4 b1S 7 h fun C9 h=>j5 9 h (fun h=>j8 a2v d8o 11 h fun a4Q h=>j5 13 h (fun h=>j8 a5c e7d 15 h fun c8F h=>j5 17 h (fun h=>j8 a79 e5N 19 h fun d4c h=>j5 21 h (fun h=>j8 a8n e2D 23 h fun d4y h=>j5 25 h (fun h=>j8 a5h e9g 27 h fun d5b h=>fE h) (fun h=>fE h)) (fun h=>fE h)) (fun h=>fE h)) (fun h=>fE h)) (fun h=>fE h)) (fun h=>fE h))
theorem d9E:a9N Tryz.prog 5 K0 a6i:=d7D Tryz.underlying5
theorem f3x:a9N Tryz.prog 22 (fun l:List Int=>[j9 1 K0 l]) (A3 1 a6i):=e9i Tryz.underlying22 d9E (by kernel_rfl) (by decide) (by kernel_rfl) (fun _=>rfl)
theorem C2{n:Int}(h1:-9223372036854775808<=n)(h2:n<=9223372036854775807):m8 n=n:=IntWalk.i64_in n ⟨h1,h2⟩
def s9{α:Type}(l:List α):Prop:=l.length<=140737488351232
theorem E9{α:Type}{l:List α}(hl:s9 l){k:Nat}(h:k<l.length):m8 ((k:Int)+1)=((k+1:Nat):Int):=by
 unfold s9 at hl;rw [C2 (by omega) (by omega)];omega
section
variable {R S B:Type} {body:S->Option (l7 R S B)}
theorem E3{s t:S}(h:body s=some (.nxt t)):p8 body s=p8 body t:=by rw [c47,h]
theorem C6{s:S}{b:B}(h:body s=some (.brk b)):p8 body s=some (.brk b):=by rw [c47,h]
theorem V8{s:S}{r:R}(h:body s=some (.ret r)):p8 body s=some (.ret r):=by rw [c47,h]
theorem W4(st:Nat->S)(n:Nat)(h:∀k,k<n->body (st k)=some (.nxt (st (k+1)))):p8 body (st 0)=p8 body (st n):=by
 induction n with
 | zero=>rfl
 | succ n ih =>
  rw [ih fun k hk=>h k (by omega)];exact E3 (h n (by omega))
theorem a4v(st:Nat->S)(n:Nat)(ok:Nat->Bool)(r:Nat->R)(b:B)(h1:∀k,k<n->(∀j,j<k->ok j=true)->body (st k)=some (bif ok k then .nxt (st (k+1)) else .ret (r k)))(h2:(∀j,j<n->ok j=true)->body (st n)=some (.brk b)) :
  (p8 body (st 0)=some (.brk b)/\∀j,j<n->ok j=true)\/∃k,k<n/\ok k=false/\(∀j,j<k->ok j=true)/\p8 body (st 0)=some (.ret (r k)):=by
 by_cases hall:∀j,j<n->ok j=true
 ·left
  refine ⟨?_,hall⟩;rw [W4 st n fun k hk => ?_]
  ·exact C6 (h2 hall)
  ·rw [h1 k hk fun j hj=>hall j (by omega),hall k hk];rfl
 ·right
  have hex:∃k,k<n/\ok k=false:=by
   apply Classical.byContradiction;intro hn;apply hall;intro j hj;cases hj':ok j with
   | true=>rfl
   | false=>exact absurd ⟨j,hj,hj'⟩ hn
  obtain ⟨k,hk,ho,hb⟩:∃k,k<n/\ok k=false/\∀j,j<k->ok j=true:=by
   obtain ⟨k,hk,ho⟩:=hex;induction k using Nat.strongRecOn with
   | _ k ih =>
    by_cases hb:∀j,j<k->ok j=true
    ·exact ⟨k,hk,ho,hb⟩
    ·have:∃j,j<k/\ok j=false:=by
      apply Classical.byContradiction;intro hn;apply hb;intro j hj;cases hj':ok j with
      | true=>rfl
      | false=>exact absurd ⟨j,hj,hj'⟩ hn
     obtain ⟨j,hj,hjo⟩:=this;exact ih j hj (by omega) hjo
  refine ⟨k,hk,ho,hb,?_⟩;rw [W4 st k fun j hj => ?_]
  ·refine V8 ?_;rw [h1 k hk hb,ho];rfl
  ·rw [h1 j (by omega) fun i hi=>hb i (by omega),hb j hj];rfl
end
theorem b9C{R S B:Type}{body:S->Option (l7 R S B)}(I:Nat->S->Prop)(Q:l9 R B->Prop)(h:∀k s,I k s->∃st,body s=some st/\match st with | .ret r=>Q (.ret r) | .brk b=>Q (.brk b) | .nxt t => ∃k',k'<k/\I k' t):∀{k s},I k s->∃x,p8 body s=some x/\Q x:=by
 intro k;induction k using Nat.strongRecOn with
 | _ k ih =>
  intro s hs;obtain ⟨st,hb,hq⟩:=h k s hs;cases st with
  | ret r=>exact ⟨_,V8 hb,hq⟩
  | brk b=>exact ⟨_,C6 hb,hq⟩
  | nxt t =>
   obtain ⟨k',hk,ht⟩:=hq;obtain ⟨x,hx,hq⟩:=ih k' hk ht;exact ⟨x,by rw [E3 hb];exact hx,hq⟩
theorem u7{β:Type}{p:Prop}[Decidable p](h:p)(k:Option β):t5 p k=k:=if_pos h
theorem a8S{α:Type}(l:List α)(k:Nat):idx l (k:Int)=l[k]?:=by
 unfold idx;rw [if_pos (by omega)];rfl
theorem t9{α:Type}{l:List α}{k:Nat}(h:k<l.length):idx l (k:Int)=some l[k]:=by
 rw [a8S,f5j h]
theorem x8{α:Type}(l:List α)(k:Nat)(h:k<l.length):decide ((k:Int)<(l.length:Int))=true:=by simpa using h
theorem z9{α:Type}(l:List α):decide ((l.length:Int)<(l.length:Int))=false:=by simp
theorem R1{α B:Type}{body:Int->Option (l7 Bool Int B)}(l:List α)(hl:s9 l)(ok:α->Bool)(v:Bool)(b:B)(h1:∀(k:Nat) (h:k<l.length),body (k:Int)=some (bif ok l[k] then .nxt (m8 ((k:Int)+1)) else .ret v))(h2:body (l.length:Int)=some (.brk b)):p8 body 0=some (bif l.all ok then .brk b else .ret v):=by
 have h:=a4v (body:=body) (fun k=>(k:Int)) l.length (fun k=>match l[k]? with|some x=>ok x|none=>true) (fun _=>v) b
  (fun k hk _=>by
   have:=h1 k hk;rw [E9 hl hk] at this;simpa [f5j hk] using this) (fun _=>h2)
 rcases h with ⟨h,hall⟩|⟨k,hk,ho,_,h⟩
 ·have:l.all ok=true:=by
   rw [List.all_eq_true];intro x hx;obtain ⟨i,hi,rfl⟩:=f6g hx;have:=hall i hi;simpa [f5j hi] using this
  rw [this];exact h
 ·have:l.all ok=false:=by
   rw [f6Q];refine ⟨l[k],f5l hk,?_⟩;simpa [f5j hk] using ho
  rw [this];exact h
theorem a2t{α B:Type}{body:Int->Option (l7 Bool Int B)}(l:List α)(hl:s9 l)(ok:Nat->Bool)(v:Bool)(b:B)(h1:∀(k:Nat) (h:k<l.length),(∀j,j<k->ok j=true)->body (k:Int)=some (bif ok k then .nxt (m8 ((k:Int)+1)) else .ret v))(h2:body (l.length:Int)=some (.brk b)):p8 body 0=some (bif (f5q l.length).all ok then .brk b else .ret v):=by
 have h:=a4v (body:=body) (fun k=>(k:Int)) l.length ok (fun _=>v) b
  (fun k hk hb=>by
   have:=h1 k hk hb;rw [E9 hl hk] at this;exact this) (fun _=>h2)
 rcases h with ⟨h,hall⟩|⟨k,hk,ho,_,h⟩
 ·have:(f5q l.length).all ok=true:=by
   rw [List.all_eq_true];intro x hx;exact hall x (by simpa using hx)
  rw [this];exact h
 ·have:(f5q l.length).all ok=false:=by
   rw [f6Q];exact ⟨k,by simpa using hk,by simp [ho]⟩
  rw [this];exact h
theorem b3G{α R B:Type}{body:Int->Option (l7 R Int B)}(l:List α)(hl:s9 l)(is:α->Bool)(f:α->R)(b:B)(h1:∀(k:Nat) (h:k<l.length),body (k:Int)=some (bif is l[k] then .ret (f l[k]) else .nxt (m8 ((k:Int)+1))))(h2:body (l.length:Int)=some (.brk b)):p8 body 0=some (match l.find? is with|some x=>.ret (f x)|none=>.brk b):=by
 have key:∀(m k:Nat),k+m=l.length->p8 body (k:Int)=some (match (l.drop k).find? is with|some x=>.ret (f x)|none=>.brk b):=by
  intro m;induction m with
  | zero =>
   intro k hk;have:k=l.length:=by omega
   subst this;rw [f7p];exact C6 h2
  | succ m ih =>
   intro k hk;have hlt:k<l.length:=by omega
   have hb:=h1 k hlt;rw [f5z hlt,f6N];cases hq:is l[k] with
   | true =>
    rw [hq] at hb;exact V8 hb
   | false =>
    rw [hq] at hb;rw [E3 hb,E9 hl hlt];exact ih (k+1) (by omega)
 have:=key l.length 0 (by omega);simpa using this
theorem d28{α S R B:Type}{body:S×Int->Option (l7 R (S×Int) B)}(l:List α)(hl:s9 l)(g:S->α->S)(s0:S)(b:S->B)(h1:∀(k:Nat) (h:k<l.length),body ((l.take k).foldl g s0,(k:Int))=some (.nxt (g ((l.take k).foldl g s0) l[k],m8 ((k:Int)+1))))(h2:body (l.foldl g s0,(l.length:Int))=some (.brk (b (l.foldl g s0)))):p8 body (s0,0)=some (.brk (b (l.foldl g s0))):=by
 have h:=W4 (body:=body) (fun k=>((l.take k).foldl g s0,(k:Int))) l.length (fun k hk=>by
  rw [h1 k hk,E9 hl hk,f5N hk,List.foldl_append];rfl)
 simp only [f5T,f7x,f5C] at h;rw [show ((0:Nat):Int)=0 from rfl] at h;rw [h];exact C6 h2
def c3K(x:n7):Prop:=I8 x.b9/\I8 x.Seq
def c65(x:r9):Prop:=I8 x.i5/\I8 x.j4
def d3O(x:p6):Prop:=I8 x.i5/\I8 x.d9
def b88(x:n6):Prop:=(A3 16 c65) x.b5/\(A3 16 d3O) x.b6/\I8 x.d9/\I8 x.Code
def F3(x:m4):Prop:=c3K x.a0/\b88 x.b7
def T7(x:m7):Prop:=I8 x.a7/\F3 x.i4
def a7a(x:z0):Prop:=I8 x.g9/\(A3 96 T7) x.a6
def b3c(x:n8):Prop:=I8 x.a8/\I8 x.A/\I8 x.B/\I8 x.N
def S4(x:j6):Prop:=I8 x.Id/\a7a x.Acc/\(A3 88 F3) x.a5/\I8 x.Seq/\I8 x.d8/\I8 x.a7/\(A3 1 okT) x.c9/\(A3 96 T7) x.i0/\F3 x.d6/\(A3 1 okT) x.a6/\(A3 32 b3c) x.i6/\F3 x.b8/\(A3 88 F3) x.f0
def a0j(x:l8):Prop:=I8 x.a8/\I8 x.c9/\I8 x.To/\I8 x.a7/\I8 x.g8/\F3 x.i4/\(A3 96 T7) x.a6
def d0B(x:x6):Prop:=c3K x.a0/\(A3 32 b3c) x.i6
def c7b(x:n5):Prop:=I8 x.Node/\c3K x.a0/\I8 x.Code/\I8 x.d9
def R7(x:m5):Prop:=(A3 392 S4) x.a9/\(A3 152 a0j) x.c8/\(A3 40 d0B) x.d7/\(A3 40 c7b) x.Told
theorem A3.fits{α:Type}{bytes:Nat}{ok:α->Prop}{l:List α}(h:A3 bytes ok l)(hb:0<bytes):s9 l:=by
 obtain ⟨h,_⟩:=h;unfold s9;have:l.length*1<=l.length*bytes:=Nat.mul_le_mul_left _ hb;omega
def a1F(x:n6):Prop:=A3 16 okT x.b5/\A3 16 okT x.b6/\True
def a1a(x:m4):Prop:=True/\a1F x.b7
theorem A3.imp{α:Type}{bytes:Nat}{ok ok':α->Prop}{l:List α}(h:A3 bytes ok l)(hi:∀x,ok x->ok' x):A3 bytes ok' l:=⟨h.1,fun x hx=>hi x (h.2 x hx)⟩
theorem b88.f{x:n6}(h:b88 x):a1F x:=⟨h.1.imp fun _ _=>trivial,h.2.1.imp fun _ _=>trivial,trivial⟩
theorem F3.f{x:m4}(h:F3 x):a1a x:=⟨trivial,h.2.f⟩
theorem okEntries.f{l:List m4}(h:A3 88 F3 l):A3 88 a1a l:=h.imp fun _ x=>x.f
def J3(l:List r9)(box:Int):Bool:=l.any (·.i5==box)
def J4(l:List p6)(box:Int):Bool:=l.any (·.i5==box)
theorem c33{l:List r9}(h:s9 l)(box:Int):b3j l box=some (J3 l box):=by
 unfold b3j;rw [R1 l h (fun x => !(x.i5==box)) true ()]
 ·unfold J3;rw [List.any_eq_not_all_not];cases l.all fun x => !(x.i5==box)<;>rfl
 ·intro k hk;unfold b9G;rw [x8 l k hk,t9 hk];cases hq:l[k].i5==box<;>simp [hq]
 ·unfold b9G;rw [z9];rfl
theorem c8B{α B:Type}{body:Int->Option (l7 Int Int B)}(l:List α)(hl:s9 l)(is:α->Bool)(b:B)(h1:∀(k:Nat) (h:k<l.length),body (k:Int)=some (bif is l[k] then .ret (k:Int) else .nxt (m8 ((k:Int)+1))))(h2:body (l.length:Int)=some (.brk b)):(p8 body 0=some (.brk b)/\l.any is=false)\/∃k:Nat,p8 body 0=some (.ret (k:Int))/\l.any is=true:=by
 have h:=a4v (body:=body) (fun k=>(k:Int)) l.length (fun k=>match l[k]? with|some x => !is x|none=>true) (fun k=>(k:Int)) b
  (fun k hk _=>by
   have:=h1 k hk;rw [E9 hl hk] at this;rw [this];simp only [f5j hk];cases is l[k]<;>rfl) (fun _=>h2)
 rcases h with ⟨h,hall⟩|⟨k,hk,ho,_,h⟩
 ·left
  refine ⟨h,?_⟩;rw [f5U];intro x hx;obtain ⟨i,hi,rfl⟩:=f6g hx;have:=hall i hi;simpa [f5j hi] using this
 ·right
  refine ⟨k,h,?_⟩;rw [f6E];refine ⟨l[k],f5l hk,?_⟩;simpa [f5j hk] using ho
theorem e2g{l:List p6}(h:s9 l)(box:Int):∃v,a2H l box=some v/\decide (v>=0)=J4 l box:=by
 unfold a2H;rcases c8B (body:=fun s:Int=>a1B l box s) l h (fun x=>x.i5==box) () (by
  intro k hk;unfold a1B;rw [x8 l k hk,t9 hk];cases hq:l[k].i5==box<;>simp [hq]) (by unfold a1B;rw [z9];rfl) with ⟨h1,h2⟩|⟨k,h1,h2⟩
 ·rw [h1];exact ⟨-1,rfl,h2.symm⟩
 ·rw [h1];refine ⟨k,rfl,?_⟩;rw [show J4 l box=true from h2];simp
theorem e0D{x:n6}(h:s9 x.b5)(box:Int):∃v,b3n x box=some v/\decide (v>=0)=J3 x.b5 box:=by
 unfold b3n;rcases c8B (body:=fun s:Int=>b2P x box s) x.b5 h (fun x=>x.i5==box) () (by
  intro k hk;unfold b2P;rw [x8 x.b5 k hk,t9 hk];cases hq:x.b5[k].i5==box<;>simp [hq]) (by unfold b2P;rw [z9];rfl) with ⟨h1,h2⟩|⟨k,h1,h2⟩
 ·rw [h1];exact ⟨-1,rfl,h2.symm⟩
 ·rw [h1];refine ⟨k,rfl,?_⟩;rw [show J3 x.b5 box=true from h2];simp
def p9(n lo hi:Int):Bool:=decide (lo<=n/\n<=hi)
theorem M7(n lo hi:Int):D4 n lo hi=some (p9 n lo hi):=by
 unfold D4 p9;by_cases h:n>=lo
 ·have h':lo<=n:=h;simp [h']
 ·have h':¬lo<=n:=h;simp [h']
theorem a6R(n:Int):a6I n=some (p9 n (-1000000) 1000000):=M7 n (-1000000) 1000000
theorem c1U(n:Int):a7s n=some (p9 n 0 3):=by
 rw [<-M7];unfold a7s D4;have:(n<4)=(n<=3):=by apply propext;omega
 simp only [this]
theorem b8M(q:n7):a6w q=some (p9 q.b9 0 2&&p9 q.Seq 1 1000):=by
 unfold a6w;simp only [M7,f5i];cases p9 q.b9 0 2<;>rfl
theorem c2i(q:n7):a90 q=some (p9 q.b9 0 2&&p9 q.Seq 1 1000):=by
 have h3:(q.b9<3)=(q.b9<=2):=by apply propext;omega
 unfold a90 p9;simp only [h3];by_cases h1:q.b9>=0<;>by_cases h2:q.b9<=2<;>by_cases h4:q.Seq>=1<;>by_cases h5:q.Seq<=1000<;>simp [h1,h2,h4,h5]<;>omega
def X5(l:List r9)(k:Nat):Bool:=match l[k]? with
 | some x=>p9 x.i5 0 3&&(p9 x.j4 0 1000000 && !J3 (l.take k) x.i5)
 | none=>true
def W8(l:List p6)(k:Nat):Bool:=match l[k]? with
 | some x=>p9 x.i5 0 3&&(p9 x.d9 (-1000000) 1000000 && !J4 (l.take k) x.i5)
 | none=>true
theorem c9X{α:Type}{l:List α}(h:s9 l)(k:Nat):s9 (l.take k):=by
 unfold s9 at h ⊢;rw [f5G];omega
theorem f0u{r:n6}(h:s9 r.b5):p8 (fun s:Int=>b4G r s) 0=some (bif (f5q r.b5.length).all (X5 r.b5) then .brk () else .ret false):=by
 refine a2t r.b5 h (X5 r.b5) false () ?_ ?_
 ·intro k hk _;unfold b4G X5 t5;rw [x8 _ k hk,t9 hk,f5j hk];have hp:(0:Int)<=(k:Int)/\(k:Int)<=(r.b5.length:Int):=by constructor<;>omega
  simp only [cond_true,f5i,if_pos hp,c1U,f5I,Nat.sub_zero,f6q,c33 (c9X h k)];cases p9 r.b5[k].i5 0 3
  ·rfl
  ·unfold p9;by_cases h1:r.b5[k].j4<0
   ·have h1':¬0<=r.b5[k].j4:=by omega
    simp [h1,h1']
   ·have h1':0<=r.b5[k].j4:=by omega
    by_cases h2:r.b5[k].j4>1000000
    ·have h2':¬r.b5[k].j4<=1000000:=by omega
     simp [h1,h1',h2,h2']
    ·have h2':r.b5[k].j4<=1000000:=by omega
     simp only [h1,h1',h2,h2',decide_false,decide_true,f5n,cond_false,f5v,and_self];cases J3 (r.b5.take k) r.b5[k].i5<;>rfl
 ·unfold b4G;rw [z9];rfl
theorem f1B{r:n6}(h:s9 r.b6):p8 (fun s:Int=>b4E r s) 0=some (bif (f5q r.b6.length).all (W8 r.b6) then .brk () else .ret false):=by
 refine a2t r.b6 h (W8 r.b6) false () ?_ ?_
 ·intro k hk _;obtain ⟨v,hv,hg⟩:=e2g (c9X h k) r.b6[k].i5;unfold b4E W8 t5;rw [x8 _ k hk,t9 hk,f5j hk];have hp:(0:Int)<=(k:Int)/\(k:Int)<=(r.b6.length:Int):=by constructor<;>omega
  simp only [cond_true,f5i,if_pos hp,c1U,a6R,f5I,Nat.sub_zero,f6q,hv,hg];cases p9 r.b6[k].i5 0 3
  ·rfl
  ·cases p9 r.b6[k].d9 (-1000000) 1000000
   ·rfl
   ·cases J4 (r.b6.take k) r.b6[k].i5<;>rfl
 ·unfold b4E;rw [z9];rfl
def a9z(f:Int->Bool):List Bool:=[f 0,f 1,f 2,f 3]
theorem c9i{f:Int->Bool}{b:Int}(h:p9 b 0 3=true):idx (a9z f) b=some (f b)/\b<4:=by
 have h:0<=b/\b<=3:=by simpa [p9] using h
 have:b=0\/b=1\/b=2\/b=3:=by omega
 rcases this with rfl|rfl|rfl|rfl<;>exact ⟨rfl,by decide⟩
theorem d0O{f g:Int->Bool}{b:Int}(h:p9 b 0 3=true)(hb:g b=true)(hne:∀c,c≠b->g c=f c):(a9z f).set b.toNat true=a9z g:=by
 have h:0<=b/\b<=3:=by simpa [p9] using h
 have:b=0\/b=1\/b=2\/b=3:=by omega
 unfold a9z;rcases this with rfl|rfl|rfl|rfl
 all_goals
  rw [show [g 0,g 1,g 2,g 3]=_ from rfl];first
   | rw [hb,hne 1 (by decide),hne 2 (by decide),hne 3 (by decide)];rfl
   | rw [hb,hne 0 (by decide),hne 2 (by decide),hne 3 (by decide)];rfl
   | rw [hb,hne 0 (by decide),hne 1 (by decide),hne 3 (by decide)];rfl
   | rw [hb,hne 0 (by decide),hne 1 (by decide),hne 2 (by decide)];rfl
theorem d4d{l:List r9}{k:Nat}(hk:k<l.length)(b:Int):J3 (l.take (k+1)) b=(J3 (l.take k) b||(l[k].i5==b)):=by
 unfold J3;rw [f5N hk,List.any_append];simp
theorem d4L{l:List p6}{k:Nat}(hk:k<l.length)(b:Int):J4 (l.take (k+1)) b=(J4 (l.take k) b||(l[k].i5==b)):=by
 unfold J4;rw [f5N hk,List.any_append];simp
theorem e3u{l:List r9}{k:Nat}(hk:k<l.length)(c:Int)(hc:c≠l[k].i5):J3 (l.take (k+1)) c=J3 (l.take k) c:=by
 have:(l[k].i5==c)=false:=by simpa using fun h=>hc h.symm
 rw [d4d hk,this,Bool.or_false]
theorem e55{l:List p6}{k:Nat}(hk:k<l.length)(c:Int)(hc:c≠l[k].i5):J4 (l.take (k+1)) c=J4 (l.take k) c:=by
 have:(l[k].i5==c)=false:=by simpa using fun h=>hc h.symm
 rw [d4L hk,this,Bool.or_false]
theorem c90{R S B:Type}{x:Option (l9 R B)}{n:Nat}{ok:Nat->Bool}{r:R}{b:B}(h:(x=some (.brk b)/\∀j,j<n->ok j=true)\/∃k,k<n/\ok k=false/\(∀j,j<k->ok j=true)/\x=some (.ret r)):x=some (bif (f5q n).all ok then .brk b else .ret r):=by
 rcases h with ⟨h,hall⟩|⟨k,hk,ho,_,h⟩
 ·have:(f5q n).all ok=true:=by
   rw [List.all_eq_true];intro x hx;exact hall x (by simpa using hx)
  rw [this];exact h
 ·have:(f5q n).all ok=false:=by
   rw [f6Q];exact ⟨k,by simpa using hk,by simp [ho]⟩
  rw [this];exact h
theorem e4Q{r:n6}(h:s9 r.b5):p8 (fun s:List Bool×Int=>b02 r s.1 s.2) (f5k 4 false,0)=some (bif (f5q r.b5.length).all (X5 r.b5) then .brk () else .ret false):=by
 refine c90 (S:=List Bool×Int) (a4v (body:=fun s:List Bool×Int=>b02 r s.1 s.2) (fun k=>(a9z (J3 (r.b5.take k)),(k:Int))) r.b5.length (X5 r.b5) (fun _=>false) () ?_ ?_)
 ·intro k hk _;simp only;unfold b02 X5 t5;rw [x8 _ k hk,t9 hk,f5j hk];simp only [cond_true,f5i,M7];cases hb:p9 r.b5[k].i5 0 3
  ·rfl
  ·obtain ⟨h1,h2⟩:=c9i (f:=J3 (r.b5.take k)) hb;rw [h1];simp only [if_pos h2,f5n,cond_false,f5i,f5v];cases hs:J3 (r.b5.take k) r.b5[k].i5
   ·cases p9 r.b5[k].j4 0 1000000
    ·rfl
    ·simp only [f5n,cond_false,f5J,f5v,cond_true];rw [d0O (f:=J3 (r.b5.take k)) (g:=J3 (r.b5.take (k+1))) hb (by rw [d4d hk];simp) (e3u hk),E9 h hk]
   ·cases p9 r.b5[k].j4 0 1000000<;>rfl
 ·intro _;simp only;unfold b02;rw [z9];rfl
theorem e39{r:n6}(h:s9 r.b6):p8 (fun s:List Bool×Int=>b0k r s.1 s.2) (f5k 4 false,0)=some (bif (f5q r.b6.length).all (W8 r.b6) then .brk () else .ret false):=by
 refine c90 (S:=List Bool×Int) (a4v (body:=fun s:List Bool×Int=>b0k r s.1 s.2) (fun k=>(a9z (J4 (r.b6.take k)),(k:Int))) r.b6.length (W8 r.b6) (fun _=>false) () ?_ ?_)
 ·intro k hk _;simp only;unfold b0k W8 t5;rw [x8 _ k hk,t9 hk,f5j hk];simp only [cond_true,f5i,M7];cases hb:p9 r.b6[k].i5 0 3
  ·rfl
  ·obtain ⟨h1,h2⟩:=c9i (f:=J4 (r.b6.take k)) hb;rw [h1];simp only [if_pos h2,f5n,cond_false,f5i,f5v];cases hs:J4 (r.b6.take k) r.b6[k].i5
   ·cases p9 r.b6[k].d9 (-1000000) 1000000
    ·rfl
    ·simp only [f5n,cond_false,f5J,f5v,cond_true];rw [d0O (f:=J4 (r.b6.take k)) (g:=J4 (r.b6.take (k+1))) hb (by rw [d4L hk];simp) (e55 hk),E9 h hk]
   ·cases p9 r.b6[k].d9 (-1000000) 1000000<;>rfl
 ·intro _;simp only;unfold b0k;rw [z9];rfl
def U2(r:n6):Bool:=p9 r.Code 0 3&&(p9 r.d9 (-1000000) 1000000&&((r.Code==0||(r.d9==0&&r.b6.length==0))&&((r.Code != 3||r.b5.length==0)&&((f5q r.b5.length).all (X5 r.b5)&&(f5q r.b6.length).all (W8 r.b6)))))
theorem f4T{r:n6}(h:a1F r):b6h r=some ((f5q r.b5.length).all (X5 r.b5)&&(f5q r.b6.length).all (W8 r.b6)):=by
 unfold b6h c32;rw [f0u (h.1.fits (by decide)),f1B (h.2.1.fits (by decide))];cases (f5q r.b5.length).all (X5 r.b5)<;>cases (f5q r.b6.length).all (W8 r.b6)<;>rfl
theorem d7I{r:n6}(h:a1F r):b6O r=some ((f5q r.b5.length).all (X5 r.b5)&&(f5q r.b6.length).all (W8 r.b6)):=by
 unfold b6O c39;rw [e4Q (h.1.fits (by decide)),e39 (h.2.1.fits (by decide))];cases (f5q r.b5.length).all (X5 r.b5)<;>cases (f5q r.b6.length).all (W8 r.b6)<;>rfl
theorem d5o{α:Type}(l:List α):decide ((l.length:Int)>0) = !(l.length==0):=by
 cases l<;>simp
theorem d2U{r:n6}(h:a1F r):b4O r=some (U2 r):=by
 unfold b4O U2;rw [f4T h];simp only [a6R,d5o,f5i,l9.go];generalize ((f5q r.b5.length).all (X5 r.b5)&&(f5q r.b6.length).all (W8 r.b6))=z;generalize (r.b6.length==0)=a;generalize (r.b5.length==0)=b;generalize p9 r.d9 (-1000000) 1000000=c;have h3:p9 r.Code 0 3=(!decide (r.Code<0) && !decide (r.Code>3)):=by
  unfold p9;by_cases h1:r.Code<0<;>by_cases h2:r.Code>3<;>simp [h1,h2]<;>omega
 rw [h3];unfold bne;cases decide (r.Code<0)<;>cases decide (r.Code>3)<;>cases c<;>cases (r.Code==0)<;>cases (r.d9==0)<;>cases a<;>cases (r.Code==3)<;>cases b<;>rfl
theorem c4F{r:n6}(h:a1F r):b1s r=some (U2 r):=by
 unfold b1s U2;rw [d7I h];simp only [M7,d5o,f5i,l9.go];generalize ((f5q r.b5.length).all (X5 r.b5)&&(f5q r.b6.length).all (W8 r.b6))=z;generalize (r.b6.length==0)=a;generalize (r.b5.length==0)=b;generalize p9 r.d9 (-1000000) 1000000=c;generalize p9 r.Code 0 3=d;unfold bne;cases d<;>cases c<;>cases (r.Code==0)<;>cases (r.d9==0)<;>cases a<;>cases (r.Code==3)<;>cases b<;>rfl
def a2j(a b:List r9)(k:Nat):Bool:=match a[k]?,b[k]? with
 | some x,some y=>([x.i5,x.j4]:List Int)==[y.i5,y.j4]
 | _,_=>true
def a2w(a b:List p6)(k:Nat):Bool:=match a[k]?,b[k]? with
 | some x,some y=>([x.i5,x.d9]:List Int)==[y.i5,y.d9]
 | _,_=>true
theorem e5D{a b:n6}(h:s9 a.b5)(hl:a.b5.length=b.b5.length):p8 (fun s:Int=>b4B a b s) 0=some (bif (f5q a.b5.length).all (a2j a.b5 b.b5) then .brk () else .ret false):=by
 refine a2t a.b5 h (a2j a.b5 b.b5) false () ?_ ?_
 ·intro k hk _;unfold b4B a2j;rw [x8 _ k hk,t9 hk,t9 (hl▸hk),f5j hk,f5j (hl▸hk)];simp only [cond_true,f5i];cases ([a.b5[k].i5,a.b5[k].j4]:List Int)==[(b.b5[k]'(hl▸hk)).i5,(b.b5[k]'(hl▸hk)).j4]<;>rfl
 ·unfold b4B;rw [z9];rfl
theorem d94{a b:n6}(h:s9 a.b6)(hl:a.b6.length=b.b6.length):p8 (fun s:Int=>b3W a b s) 0=some (bif (f5q a.b6.length).all (a2w a.b6 b.b6) then .brk () else .ret false):=by
 refine a2t a.b6 h (a2w a.b6 b.b6) false () ?_ ?_
 ·intro k hk _;unfold b3W a2w;rw [x8 _ k hk,t9 hk,t9 (hl▸hk),f5j hk,f5j (hl▸hk)];simp only [cond_true,f5i];cases ([a.b6[k].i5,a.b6[k].d9]:List Int)==[(b.b6[k]'(hl▸hk)).i5,(b.b6[k]'(hl▸hk)).d9]<;>rfl
 ·unfold b3W;rw [z9];rfl
theorem f3f{a b:List r9}(h:s9 a):b7z a b=some (a.length==b.length&&(f5q a.length).all (a2j a b)):=by
 unfold b7z;by_cases hl:a.length=b.length
 ·rw [a2t a h (a2j a b) false ()]
  ·rw [hl];simp only [bne_self_eq_false,cond_false,beq_self_eq_true,f5v];cases (f5q b.length).all (a2j a b)<;>rfl
  ·intro k hk _;unfold c0q a2j;rw [x8 _ k hk,t9 hk,t9 (hl▸hk),f5j hk,f5j (hl▸hk)];simp only [cond_true,f5i];cases ([a[k].i5,a[k].j4]:List Int)==[(b[k]'(hl▸hk)).i5,(b[k]'(hl▸hk)).j4]<;>rfl
  ·unfold c0q;rw [z9];rfl
 ·have h1:((a.length:Int) != (b.length:Int))=true:=by simp;omega
  have h2:(a.length==b.length)=false:=by simpa using hl
  rw [h1,h2];rfl
theorem f0f{a b:List p6}(h:s9 a):b8c a b=some (a.length==b.length&&(f5q a.length).all (a2w a b)):=by
 unfold b8c;by_cases hl:a.length=b.length
 ·rw [a2t a h (a2w a b) false ()]
  ·rw [hl];simp only [bne_self_eq_false,cond_false,beq_self_eq_true,f5v];cases (f5q b.length).all (a2w a b)<;>rfl
  ·intro k hk _;unfold b8f a2w;rw [x8 _ k hk,t9 hk,t9 (hl▸hk),f5j hk,f5j (hl▸hk)];simp only [cond_true,f5i];cases ([a[k].i5,a[k].d9]:List Int)==[(b[k]'(hl▸hk)).i5,(b[k]'(hl▸hk)).d9]<;>rfl
  ·unfold b8f;rw [z9];rfl
 ·have h1:((a.length:Int) != (b.length:Int))=true:=by simp;omega
  have h2:(a.length==b.length)=false:=by simpa using hl
  rw [h1,h2];rfl
def a4i(a b:n6):Bool:=(a.b5.length==b.b5.length&&(f5q a.b5.length).all (a2j a.b5 b.b5))&&((a.b6.length==b.b6.length&&(f5q a.b6.length).all (a2w a.b6 b.b6))&&(a.d9==b.d9&&a.Code==b.Code))
theorem d1X{α β:Type}(a:List α)(b:List β):((a.length:Int) != (b.length:Int)) = !(a.length==b.length):=by
 unfold bne;congr 1
 by_cases h:a.length=b.length
 ·simp [h]
 ·have h1:((a.length:Int)==(b.length:Int))=false:=by simp;omega
  have h2:(a.length==b.length)=false:=by simpa using h
  rw [h1,h2]
theorem c4n{a b:n6}(h:a1F a):b0T a b=some (a4i a b):=by
 unfold b0T a4i;rw [d1X,d1X];cases h1:a.b5.length==b.b5.length
 ·unfold bne;cases a.d9==b.d9<;>cases a.Code==b.Code<;>rfl
 cases h2:a.b6.length==b.b6.length
 ·unfold bne;cases a.d9==b.d9<;>cases a.Code==b.Code<;>simp
 unfold c3x;rw [e5D (h.1.fits (by decide)) (by simpa using h1),d94 (h.2.1.fits (by decide)) (by simpa using h2)];unfold bne;cases (f5q a.b5.length).all (a2j a.b5 b.b5)<;>cases (f5q a.b6.length).all (a2w a.b6 b.b6)<;>cases a.d9==b.d9<;>cases a.Code==b.Code<;>rfl
theorem c3Z{a b:n6}(h:a1F a):c0h a b=some (a4i a b):=by
 unfold c0h a4i;rw [f3f (h.1.fits (by decide)),f0f (h.2.1.fits (by decide))];simp only [f5i];generalize (a.b5.length==b.b5.length&&(f5q a.b5.length).all (a2j a.b5 b.b5))=x;generalize (a.b6.length==b.b6.length&&(f5q a.b6.length).all (a2w a.b6 b.b6))=y;cases x<;>cases y<;>cases a.d9==b.d9<;>rfl
def z5(e:m4):Bool:=bif e.i7 then (([e.a0.b9,e.a0.Seq]:List Int)==[0,0])&&a4i e.b7 (n6.mk [] [] 0 0) else (p9 e.a0.b9 0 2&&p9 e.a0.Seq 1 1000)&&(U2 e.b7&&e.b7.Code != 3)
theorem a4h{e:m4}(h:a1a e):a1e e=some (z5 e):=by
 unfold a1e z5;simp only [c4n h.2,c2i,d2U h.2,f5i];cases e.i7
 ·simp only [cond_false];cases p9 e.a0.b9 0 2&&p9 e.a0.Seq 1 1000<;>cases U2 e.b7<;>rfl
 ·simp only [cond_true];cases ([e.a0.b9,e.a0.Seq]:List Int)==[0,0]<;>rfl
theorem a6E{e:m4}(h:a1a e):a1u e=some (z5 e):=by
 unfold a1u a0r z5;simp only [c3Z h.2,b8M,c4F h.2,f5i];cases e.i7
 ·simp only [cond_false];cases p9 e.a0.b9 0 2&&p9 e.a0.Seq 1 1000<;>cases U2 e.b7<;>rfl
 ·simp only [cond_true,beq_self_eq_true];cases ([e.a0.b9,e.a0.Seq]:List Int)==[0,0]<;>rfl
def G0(l:List m4):Bool:=decide (l.length<=40)&&l.all z5
theorem c0F{α:Type}(l:List α)(n:Nat):decide ((l.length:Int)<=(n:Int))=decide (l.length<=n):=by
 by_cases h:l.length<=n
 ·have:(l.length:Int)<=(n:Int):=by omega
  simp [h,this]
 ·have:¬(l.length:Int)<=(n:Int):=by omega
  simp [h,this]
theorem b04{α:Type}(l:List α)(n:Nat):decide ((l.length:Int)>(n:Int)) = !decide (l.length<=n):=by
 by_cases h:l.length<=n
 ·have:¬(l.length:Int)>(n:Int):=by omega
  simp [h,this]
 ·have:(l.length:Int)>(n:Int):=by omega
  simp [h,this]
theorem c8a{l:List m4}(h:A3 88 a1a l):b1H l=some (G0 l):=by
 unfold b1H G0;rw [show (40:Int)=((40:Nat):Int) from rfl,b04,R1 l (h.fits (by decide)) z5 false ()]
 ·cases decide (l.length<=40)
  ·rfl
  ·cases l.all z5<;>rfl
 ·intro k hk;unfold b7X;rw [x8 _ k hk,t9 hk];simp only [cond_true,f5i,a4h (h.2 _ (f5l hk))];cases z5 l[k]<;>rfl
 ·unfold b7X;rw [z9];rfl
theorem c4r{l:List m4}(h:A3 88 a1a l):b1v l=some (G0 l):=by
 unfold b1v G0 c2Z;rw [show (40:Int)=((40:Nat):Int) from rfl,c0F,R1 l (h.fits (by decide)) z5 false ()]
 ·cases l.all z5<;>cases decide (l.length<=40)<;>rfl
 ·intro k hk;unfold b5y;rw [x8 _ k hk,t9 hk];simp only [cond_true,f5i,a6E (h.2 _ (f5l hk))];cases z5 l[k]<;>rfl
 ·unfold b5y;rw [z9];rfl
def a3e(b:m9):Bool:=p9 b.j4 0 1000000&&p9 b.d9 (-1000000) 1000000
def C4(l:List m9):Bool:=l.length==4&&l.all a3e
theorem b0l{α:Type}(l:List α)(n:Nat):((l.length:Int) != (n:Int)) = !(l.length==n):=by
 unfold bne;congr 1
 by_cases h:l.length=n
 ·simp [h]
 ·have h1:((l.length:Int)==(n:Int))=false:=by simp;omega
  have h2:(l.length==n)=false:=by simpa using h
  rw [h1,h2]
theorem e0X{α:Type}(l:List α)(n:Nat):((l.length:Int)==(n:Int))=(l.length==n):=by
 have:=b0l l n;unfold bne at this;simpa using this
theorem b72{l:List m9}(h:s9 l):b1b l=some (C4 l):=by
 unfold b1b C4;rw [show (4:Int)=((4:Nat):Int) from rfl,b0l,R1 l h a3e false ()]
 ·cases l.length==4
  ·rfl
  ·cases l.all a3e<;>rfl
 ·intro k hk;unfold b9B a3e;rw [x8 _ k hk,t9 hk];simp only [cond_true,f5i,a6R];cases hq:p9 l[k].j4 0 1000000 with
  | false =>
   by_cases h1:l[k].j4<0
   ·simp [h1]
   ·have:l[k].j4>1000000:=by
     unfold p9 at hq;simp at hq;omega
    simp [h1,this]
  | true =>
   unfold p9 at hq;simp at hq;have h1:¬l[k].j4<0:=by omega
   have h2:¬l[k].j4>1000000:=by omega
   simp only [h1,h2,decide_false,cond_false,f5v];cases p9 l[k].d9 (-1000000) 1000000<;>rfl
 ·unfold b9B;rw [z9];rfl
theorem b4g{l:List m9}(h:s9 l):a65 l=some (C4 l):=by
 unfold a65 C4 c37;rw [show (4:Int)=((4:Nat):Int) from rfl,e0X,R1 l h a3e false ()]
 ·cases l.length==4<;>cases l.all a3e<;>rfl
 ·intro k hk;unfold b5s a3e;rw [x8 _ k hk,t9 hk];simp only [cond_true,f5i,M7];cases p9 l[k].j4 0 1000000<;>cases p9 l[k].d9 (-1000000) 1000000<;>rfl
 ·unfold b5s;rw [z9];rfl
theorem d17{l:List r9}(h:(f5q l.length).all (X5 l)=true):∀x∈l,0<=x.i5/\x.i5<=3/\0<=x.j4/\x.j4<=1000000:=by
 intro x hx;obtain ⟨i,hi,rfl⟩:=f6g hx;have:=List.all_eq_true.1 h i (by simpa using hi);unfold X5 at this;rw [f5j hi] at this;simp [p9] at this;omega
theorem d4V{l:List p6}(h:(f5q l.length).all (W8 l)=true):∀x∈l,0<=x.i5/\x.i5<=3/\-1000000<=x.d9/\x.d9<=1000000:=by
 intro x hx;obtain ⟨i,hi,rfl⟩:=f6g hx;have:=List.all_eq_true.1 h i (by simpa using hi);unfold W8 at this;rw [f5j hi] at this;simp [p9] at this;omega
theorem a21{r:n6}(h:U2 r=true):(0<=r.Code/\r.Code<=3)/\(-1000000<=r.d9/\r.d9<=1000000)/\(r.Code=0\/(r.d9=0/\r.b6=[]))/\(∀x∈r.b5,0<=x.i5/\x.i5<=3/\0<=x.j4/\x.j4<=1000000)/\∀x∈r.b6,0<=x.i5/\x.i5<=3/\-1000000<=x.d9/\x.d9<=1000000:=by
 unfold U2 at h;simp only [f5m,Bool.or_eq_true] at h;obtain ⟨h1,h2,h3,_,h4,h5⟩:=h;refine ⟨by simpa [p9] using h1,by simpa [p9] using h2,by simpa using h3,d17 h4,d4V h5⟩
def a0z(l:List m9)(r:n6):Bool:=r.b5.all fun x=>match l[x.i5.toNat]? with
 | some b=>b.j4==x.j4
 | none=>true
theorem a6b{l:List m9}(h:C4 l=true):l.length=4:=by
 unfold C4 at h;simp only [f5m,beq_iff_eq] at h;exact h.1
theorem a1P{l:List m9}(h:C4 l=true):s9 l:=by
 unfold s9;rw [a6b h];decide
theorem a4K{l:List m9}(h:C4 l=true){b:Int}(hb:0<=b/\b<=3):∃x,idx l b=some x/\l[b.toNat]?=some x/\a3e x=true:=by
 have hl:=a6b h;have hlt:b.toNat<l.length:=by omega
 refine ⟨l[b.toNat],?_,f5j hlt,?_⟩
 ·unfold idx;rw [if_pos hb.1,f5j hlt]
 ·unfold C4 at h;simp only [f5m] at h;exact List.all_eq_true.1 h.2 _ (f5l hlt)
theorem e00{l:List m9}{r:n6}(hl:s9 l)(hr:a1F r):b6n l r=some (C4 l&&(U2 r&&a0z l r)):=by
 unfold b6n;rw [b72 hl,d2U hr];simp only [f5i];cases h1:C4 l
 ·rfl
 cases h2:U2 r
 ·rfl
 have hp:=a21 h2;simp only [f5n,cond_false,f5v];rw [R1 r.b5 (hr.1.fits (by decide)) (fun x=>match l[x.i5.toNat]? with|some b=>b.j4==x.j4|none=>true) false ()]
 ·unfold a0z;cases r.b5.all _<;>rfl
 ·intro k hk;have hm:=hp.2.2.2.1 _ (f5l hk);obtain ⟨b,hb1,hb2,_⟩:=a4K h1 (b:=r.b5[k].i5) ⟨hm.1,hm.2.1⟩;unfold b6R;rw [x8 _ k hk,t9 hk];simp only [cond_true,f5i,hb1,hb2];unfold bne;cases b.j4==r.b5[k].j4<;>rfl
 ·unfold b6R;rw [z9];rfl
theorem f1H{l:List m9}{r:n6}(hl:s9 l)(hr:a1F r):b5V l r=some (C4 l&&(U2 r&&a0z l r)):=by
 unfold b5V;rw [b4g hl,c4F hr];simp only [f5i];cases h1:C4 l
 ·rfl
 cases h2:U2 r
 ·rfl
 have hp:=a21 h2;simp only [f5n,cond_false,f5v];rw [R1 r.b5 (hr.1.fits (by decide)) (fun x=>match l[x.i5.toNat]? with|some b=>b.j4==x.j4|none=>true) false ()]
 ·unfold a0z;cases r.b5.all _<;>rfl
 ·intro k hk;have hm:=hp.2.2.2.1 _ (f5l hk);obtain ⟨b,hb1,hb2,_⟩:=a4K h1 (b:=r.b5[k].i5) ⟨hm.1,hm.2.1⟩;unfold b8j;rw [x8 _ k hk,t9 hk];simp only [cond_true,f5i,hb1,hb2];unfold bne;cases b.j4==r.b5[k].j4<;>rfl
 ·unfold b8j;rw [z9];rfl
def a0e(l:List m9)(p:p6):List m9:=match l[p.i5.toNat]? with
 | some b=>l.set p.i5.toNat ⟨if b.j4+1<1000000 then b.j4+1 else 1000000,p.d9⟩
 | none=>l
def a0S(l:List m9)(ps:List p6):List m9:=ps.foldl a0e l
def a0u(x:p6):Prop:=0<=x.i5/\x.i5<=3/\-1000000<=x.d9/\x.d9<=1000000
theorem b94{l:List m9}{p:p6}{b:m9}(h:l[p.i5.toNat]?=some b):a0e l p=l.set p.i5.toNat ⟨if b.j4+1<1000000 then b.j4+1 else 1000000,p.d9⟩:=by
 unfold a0e;rw [h]
theorem b4f{b:m9}:a3e b=true↔(0<=b.j4/\b.j4<=1000000)/\(-1000000<=b.d9/\b.d9<=1000000):=by
 unfold a3e p9;simp
theorem e7b{l:List m9}:C4 l=true↔l.length=4/\∀b∈l,a3e b=true:=by
 unfold C4;simp
theorem d0X{l:List m9}{p:p6}(h:C4 l=true)(hp:a0u p):C4 (a0e l p)=true:=by
 obtain ⟨b,_,h2,h3⟩:=a4K h (b:=p.i5) ⟨hp.1,hp.2.1⟩;rw [e7b] at h ⊢;unfold a0e;rw [h2];refine ⟨by simpa using h.1,fun x hx => ?_⟩;rcases List.mem_or_eq_of_mem_set hx with hx|rfl
 ·exact h.2 x hx
 ·rw [b4f] at h3 ⊢;refine ⟨?_,hp.2.2⟩;simp only;split<;>omega
theorem b8x:∀{ps:List p6} {l:List m9},C4 l=true->(∀p∈ps,a0u p)->C4 (a0S l ps)=true
 | [],l,h,_=>h
 | p::ps,l,h,hp=>b8x (ps:=ps) (d0X h (hp p (by simp))) fun x hx=>hp x (by simp [hx])
theorem d5D{l:List m9}{ps:List p6}(h:C4 l=true)(hp:∀p∈ps,a0u p)(k:Nat):C4 ((ps.take k).foldl a0e l)=true :=
 b8x h fun p hq=>hp p (f6k hq)
theorem d1Z{l:List m9}{r:n6}(hl:C4 l=true)(hr:a1F r)(hp:∀p∈r.b6,a0u p):b3D l r=some (a0S l r.b6):=by
 unfold b3D;rw [d28 r.b6 (hr.2.1.fits (by decide)) a0e l id]
 ·rfl
 ·intro k hk;have hq:=hp _ (f5l hk);obtain ⟨b,h1,h2,h3⟩:=a4K (d5D hl hp k) (b:=r.b6[k].i5) ⟨hq.1,hq.2.1⟩;rw [b4f] at h3;unfold b63;rw [x8 _ k hk,t9 hk];simp only [cond_true,f5i,h1];unfold c0I;rw [b94 h2,C2 (n:=b.j4+1) (by omega) (by omega)];by_cases hv:b.j4+1<1000000
  ·have:¬(1000000:Int)<b.j4+1:=by omega
   simp [hv,this]
  ·by_cases hv2:(1000000:Int)<b.j4+1
   ·simp [hv,hv2]
   ·have:b.j4+1=1000000:=by omega
    simp [hv,hv2,this]
 ·unfold b63;rw [z9];rfl
theorem c06{l:List m9}(h:l.length*16<=140737488351232):a78 l=some l:=by
 unfold a78 t5;cases l with
 | nil=>rfl
 | cons x l =>
  have h1:(((x::l).length:Int)==0)=false:=by simp;omega
  rw [h1,cond_false,if_pos (by constructor<;>omega),if_pos (by simp)]
theorem d24{l:List q8}(h:l.length*32<=140737488351232):a7g l=some l:=by
 unfold a7g t5;cases l with
 | nil=>rfl
 | cons x l =>
  have h1:(((x::l).length:Int)==0)=false:=by simp;omega
  rw [h1,cond_false,if_pos (by constructor<;>omega),if_pos (by simp)]
theorem c6g{l:List m9}{r:n6}(hl:C4 l=true)(hr:a1F r)(hok:U2 r=true):b2k l r=some (a0S l r.b6):=by
 have hp:∀p∈r.b6,a0u p:=(a21 hok).2.2.2.2
 unfold b2k;rw [b4g (a1P hl),c4F hr,hl,hok];simp only [f5i,f5n,cond_false];rw [c06 (by rw [a6b hl];decide),f5i,d28 r.b6 (hr.2.1.fits (by decide)) a0e l id]
 ·rfl
 ·intro k hk;have hq:=hp _ (f5l hk);obtain ⟨b,h1,h2,h3⟩:=a4K (d5D hl hp k) (b:=r.b6[k].i5) ⟨hq.1,hq.2.1⟩;rw [b4f] at h3;unfold c0o;rw [x8 _ k hk,t9 hk];simp only [cond_true,f5i,h1];rw [b94 h2,C2 (n:=b.j4+1) (by omega) (by omega)]
 ·unfold c0o;rw [z9];rfl
def a7Z(d:q8):Bool:=(p9 d.a0.b9 0 2&&p9 d.a0.Seq 1 1000)&&(p9 d.Code 0 2&&(p9 d.d9 (-1000000) 1000000&&(d.Code==0||d.d9==0)))
def a2Y(l:List q8):Prop:=l.Pairwise fun a b=>a.a0.b9<b.a0.b9
def L4(d:q8)(st:List q8×Bool)(x:q8):List q8×Bool :=
 bif !st.2&&decide (x.a0.b9>=d.a0.b9) then (bif x.a0.b9 != d.a0.b9 then (st.1++[d])++[x] else st.1++[d],true) else (bif x.a0.b9 != d.a0.b9 then st.1++[x] else st.1,st.2)
def a0g(l:List q8)(d:q8):List q8 :=
 let r:=l.foldl (L4 d) ([],false);bif !r.2 then r.1++[d] else r.1
theorem e4r(d:q8)(st:List q8×Bool)(x:q8):(L4 d st x).1.length<=st.1.length+2:=by
 unfold L4;cases !st.2&&decide (x.a0.b9>=d.a0.b9)<;>cases x.a0.b9 != d.a0.b9<;>simp
theorem c5n(d:q8):∀(l:List q8) (st:List q8×Bool),(l.foldl (L4 d) st).1.length<=st.1.length+2*l.length
 | [],st=>by simp
 | x::l,st=>by
  have h1:=c5n d l (L4 d st x);have h2:=e4r d st x;simp only [f7d,f6n];omega
theorem c4G(d:q8):∀{l:List q8} {o:List q8},(∀x∈l,d.a0.b9<x.a0.b9)->l.foldl (L4 d) (o,true)=(o++l,true)
 | [],o,_=>by simp
 | x::l,o,h=>by
  have hx:=h x (by simp);have hne:(x.a0.b9 != d.a0.b9)=true:=by simp;omega
  rw [f7d,show L4 d (o,true) x=(o++[x],true) from by unfold L4;simp [hne],c4G d fun y hy=>h y (by simp [hy])];simp
theorem d3P(d:q8):∀{l o:List q8},a2Y l->
  (let r:=l.foldl (L4 d) (o,false);bif !r.2 then r.1++[d] else r.1)=o++(l.filter (fun x=>decide (x.a0.b9<d.a0.b9))++d::l.filter (fun x=>decide (d.a0.b9<x.a0.b9)))
 | [],o,_=>by simp
 | x::l,o,h=>by
  obtain ⟨h1,h2⟩:=f6z.1 h;rw [f7d];by_cases hlt:x.a0.b9<d.a0.b9
  ·have hge:¬x.a0.b9>=d.a0.b9:=by omega
   have hne:(x.a0.b9 != d.a0.b9)=true:=by simp;omega
   have hngt:¬d.a0.b9<x.a0.b9:=by omega
   rw [show L4 d (o,false) x=(o++[x],false) from by unfold L4;simp [hge,hne],d3P d h2];simp [hlt,hngt]
  ·have hge:x.a0.b9>=d.a0.b9:=by omega
   have hall:∀y∈l,d.a0.b9<y.a0.b9:=fun y hy=>by have:=h1 y hy;omega
   have hf1:l.filter (fun x=>decide (x.a0.b9<d.a0.b9))=[]:=by
    rw [List.filter_eq_nil_iff];intro y hy;have:=hall y hy;simp;omega
   have hf2:l.filter (fun x=>decide (d.a0.b9<x.a0.b9))=l:=by
    rw [List.filter_eq_self];intro y hy;simpa using hall y hy
   by_cases heq:x.a0.b9=d.a0.b9
   ·have hngt:¬d.a0.b9<x.a0.b9:=by omega
    rw [show L4 d (o,false) x=(o++[d],true) from by unfold L4;simp [hge,heq],c4G d hall];simp [hlt,hngt,hf1,hf2]
   ·have hgt:d.a0.b9<x.a0.b9:=by omega
    have hne:(x.a0.b9 != d.a0.b9)=true:=by simpa using heq
    rw [show L4 d (o,false) x=((o++[d])++[x],true) from by unfold L4;simp [hge,hne],c4G d hall];simp [hlt,hgt,hf1,hf2]
theorem b7p{l:List q8}(d:q8)(h:a2Y l):a0g l d=l.filter (fun x=>decide (x.a0.b9<d.a0.b9))++d::l.filter (fun x=>decide (d.a0.b9<x.a0.b9)):=by
 have:=d3P d (o:=[]) h;simpa [a0g] using this
theorem e59{l:List q8}(d:q8)(h:a2Y l):a2Y (a0g l d):=by
 rw [b7p d h];unfold a2Y;rw [f6U,f6z];refine ⟨h.filter _,⟨fun y hy=>by simpa using (List.mem_filter.1 hy).2,h.filter _⟩,fun a ha b hb => ?_⟩;have h1:a.a0.b9<d.a0.b9:=by simpa using (List.mem_filter.1 ha).2
 rcases f5r.1 hb with rfl|hb
 ·exact h1
 ·have h2:d.a0.b9<b.a0.b9:=by simpa using (List.mem_filter.1 hb).2
  omega
theorem d7Q{l:List q8}{d x:q8}(h:a2Y l)(hx:x∈a0g l d):x∈l\/x=d:=by
 rw [b7p d h] at hx;rcases List.mem_append.1 hx with hx|hx
 ·exact .inl (List.mem_filter.1 hx).1
 ·rcases f5r.1 hx with rfl|hx
  ·exact .inr rfl
  ·exact .inl (List.mem_filter.1 hx).1
theorem d45{l:List q8}(d:q8)(h:a2Y l):(a0g l d).length<=l.length+1:=by
 rw [b7p d h];have:(l.filter fun x=>decide (x.a0.b9<d.a0.b9)).length+(l.filter fun x=>decide (d.a0.b9<x.a0.b9)).length<=l.length:=by
  clear h;induction l with
  | nil=>simp
  | cons x l ih =>
   by_cases h1:x.a0.b9<d.a0.b9
   ·have h2:¬d.a0.b9<x.a0.b9:=by omega
    simp [h1,h2];omega
   ·by_cases h2:d.a0.b9<x.a0.b9
    ·simp [h1,h2];omega
    ·simp [h1,h2];omega
 simp only [f5u,f6n];omega
structure X9(s:u0)(k:Nat):Prop where
 at_:s.At=(k:Int)
 le:k<=40
 boxes:C4 s.g7=true
 sorted:a2Y s.i8
 dones:∀d∈s.i8,a7Z d=true
 len:s.i8.length<=k
theorem X9.fits{s:u0}{k:Nat}(h:X9 s k):s9 s.i8:=by
 have:=h.len;have:=h.le;unfold s9;omega
theorem c7a{α:Type}{o:List α}{d:α}(h:o.length<=80):((o++[d]).length+1)*32<=140737488355328:=by
 rw [show (o++[d]).length=o.length+1 from by simp];omega
theorem e0w{l:List q8}{d:q8}(hl:l.length<=40):b9b l d=some (a0g l d):=by
 have hf:s9 l:=by unfold s9;omega
 have hlen:∀k,k<=l.length->((l.take k).foldl (L4 d) ([],false)).1.length<=80:=by
  intro k hk;have:=c5n d (l.take k) ([],false);simp only [f6O,f5G] at this;omega
 unfold b9b;have hloop:=W4 (body:=fun s:(List q8)×Bool×Int=>b19 l d s.1 s.2.1 s.2.2) (fun k=>(((l.take k).foldl (L4 d) ([],false)).1,((l.take k).foldl (L4 d) ([],false)).2,(k:Int))) l.length (by
  intro k hk;have hb:=hlen k (by omega);rw [f5N hk,List.foldl_append];generalize (l.take k).foldl (L4 d) ([],false)=st at hb;obtain ⟨o,i⟩:=st;simp only at hb;simp only [f7d,f7x];unfold b19 c3d c3s L4;rw [x8 _ k hk,t9 hk,E9 hf hk];have n1:(o.length+1)*32<=140737488355328:=by omega
  have n2:((o++[d]).length+1)*32<=140737488355328:=c7a (by omega);cases i<;>cases h1:decide (l[k].a0.b9>=d.a0.b9)<;>cases h2:l[k].a0.b9 != d.a0.b9<;>simp only [h1,h2,u7 n1,u7 n2,cond_true,cond_false,f5i,l9.go,f5n,f5J,f5v,Bool.false_and])
 simp only [f5T,f7x,f5C] at hloop;rw [show ((0:Nat):Int)=0 from rfl] at hloop;rw [hloop,C6 (b:=l.foldl (L4 d) ([],false))]
 ·have hb:=hlen l.length (f5y _);rw [f5C] at hb;unfold c51 c0O a0g;generalize l.foldl (L4 d) ([],false)=st at hb;obtain ⟨o,i⟩:=st;have n1:(o.length+1)*32<=140737488355328:=by simp only at hb;omega
  cases i<;>simp only [u7 n1,cond_true,cond_false,f5i,l9.go,f5n,f5J]
 ·unfold b19;rw [z9];rfl
def N5(s:u0)(e:m4):u0×Int :=
 bif a0z s.g7 e.b7 then
  (bif e.b7.Code==0 then (⟨s.At+1,a0S s.g7 e.b7.b6,a0g s.i8 ⟨e.a0,0,e.b7.d9⟩⟩,0)
  else (⟨s.At+1,s.g7,a0g s.i8 ⟨e.a0,2,0⟩⟩,2))
 else (⟨s.At+1,s.g7,a0g s.i8 ⟨e.a0,1,0⟩⟩,1)
def apply(s:u0)(e:m4):u0×Int :=
 bif e.i7 then (⟨s.At+1,s.g7,s.i8⟩,5) else
 match s.i8.find? (fun d=>d.a0.b9==e.a0.b9) with
 | some d=>bif d.a0.Seq==e.a0.Seq then (⟨s.At+1,s.g7,s.i8⟩,3) else bif decide (d.a0.Seq>e.a0.Seq) then (⟨s.At+1,s.g7,s.i8⟩,4) else N5 s e
 | none=>N5 s e
theorem a3B{e:m4}(h:z5 e=true)(hn:e.i7=false):(0<=e.a0.b9/\e.a0.b9<=2)/\(1<=e.a0.Seq/\e.a0.Seq<=1000)/\U2 e.b7=true/\e.b7.Code≠3:=by
 unfold z5 at h;rw [hn] at h;simp [p9] at h;exact ⟨h.1.1,h.1.2,h.2.1,h.2.2⟩
theorem f3T{s:u0}(h:s9 s.i8)(who:Int):b9y s who=some (match s.i8.find? (fun d=>d.a0.b9==who) with|some d=>(d,true)|none=>(⟨⟨0,0⟩,0,0⟩,false)):=by
 unfold b9y;rw [b3G s.i8 h (fun d=>d.a0.b9==who) (fun d=>(d,true)) ()]
 ·cases s.i8.find? fun d=>d.a0.b9==who<;>rfl
 ·intro k hk;unfold b6D;rw [x8 _ k hk,t9 hk];simp only [cond_true,f5i];cases s.i8[k].a0.b9==who<;>rfl
 ·unfold b6D;rw [z9];rfl
theorem b5H{s:u0}{k:Nat}{e:m4}(hs:X9 s k)(hk:k<40)(he:z5 e=true)(hf:a1a e):a8f s e=some (apply s e):=by
 have hw:m8 (s.At+1)=s.At+1:=by rw [hs.at_];exact C2 (by omega) (by omega)
 unfold a8f apply;rw [hw,f3T (s:=⟨s.At+1,s.g7,s.i8⟩) hs.fits];cases hn:e.i7;case true=>rfl
 obtain ⟨_,_,hr,hc3⟩:=a3B he hn;have hp:∀p∈e.b7.b6,a0u p:=(a21 hr).2.2.2.2
 have hfr:b7c s e=some (N5 s e):=by
  unfold b7c c2z c2k N5;simp only [e00 (a1P hs.boxes) hf.2,hs.boxes,hr,f5v,f5i,hw,e0w (Nat.le_trans hs.len (by omega)),d1Z hs.boxes hf.2 hp];cases a0z s.g7 e.b7
  ·rfl
  ·cases e.b7.Code==0<;>rfl
 simp only [cond_false,f5i,hfr];cases hfd:s.i8.find? fun d=>d.a0.b9==e.a0.b9 with
 | none=>rfl
 | some d =>
  have hwho:d.a0.b9=e.a0.b9:=by simpa using List.find?_some hfd
  have hq:(([d.a0.b9,d.a0.Seq]:List Int)==[e.a0.b9,e.a0.Seq])=(d.a0.Seq==e.a0.Seq):=by
   rw [hwho];simp
  simp only [hq,cond_true];cases d.a0.Seq==e.a0.Seq
  ·cases decide (d.a0.Seq>e.a0.Seq)<;>rfl
  ·rfl
theorem e2Y{l:List q8}(h:a2Y l)(who seq:Int):l.find? (fun d=>d.a0.b9==who&&decide (d.a0.Seq>=seq))=match l.find? (fun d=>d.a0.b9==who) with
  | some d=>bif decide (d.a0.Seq>=seq) then some d else none
  | none=>none:=by
 induction l with
 | nil=>rfl
 | cons x l ih =>
  obtain ⟨h1,h2⟩:=f6z.1 h;rw [f6N,f6N];cases hx:x.a0.b9==who with
  | false=>simpa using ih h2
  | true =>
   cases hs:decide (x.a0.Seq>=seq) with
   | true=>simp [hs]
   | false =>
    simp only [Bool.and_false,hs,cond_false];rw [f7v];intro y hy;have:=h1 y hy;have hx':x.a0.b9=who:=by simpa using hx
    simp;intro hyw;omega
theorem e5u{s:u0}{k:Nat}(hs:X9 s k):b7m s=some true:=by
 unfold b7m;have hloop:=W4 (body:=fun v:Int=>b4K s v) (fun j=>(j:Int)) s.i8.length (by
  intro j hj;have hd:=hs.dones _ (f5l hj);unfold a7Z at hd;simp only [f5m,Bool.or_eq_true] at hd;obtain ⟨⟨d1,d2⟩,d3,d4,d5⟩:=hd;unfold b4K c1S;rw [x8 _ j hj,t9 hj,E9 hs.fits hj];simp only [cond_true,f5i,b8M,M7,d1,d2,d3,d4,f6A,f5n,cond_false];cases j with
  | zero =>
   rw [show decide (((0:Nat):Int)>0)=false from by decide];simp only [cond_false];unfold bne;rcases d5 with d5|d5<;>simp [d5,l9.go,Option.bind]
  | succ j =>
   have hlt:(s.i8[j]'(by omega)).a0.b9<s.i8[j+1].a0.b9:=f5X.1 hs.sorted j (j+1) (by omega) hj (by omega);have hge:¬(s.i8[j]'(by omega)).a0.b9>=s.i8[j+1].a0.b9:=by omega
   have hle:=hs.fits;unfold s9 at hle;rw [show m8 (((j+1:Nat):Int)-1)=(j:Int) from by rw [C2 (by omega) (by omega)];omega,t9 (show j<s.i8.length by omega)];have hpos:decide (((j+1:Nat):Int)>0)=true:=by simp
   simp only [hpos,cond_true,f5i,hge,decide_false,cond_false];unfold bne;rcases d5 with d5|d5<;>simp [d5,l9.go,Option.bind])
 rw [show ((0:Nat):Int)=0 from rfl] at hloop;rw [hloop,C6 (b:=())]
 ·unfold c1T;have:=hs.le;have ha:p9 s.At 0 40=true:=by rw [hs.at_];simp [p9];omega
  simp [l9.go,M7,ha,b4g (a1P hs.boxes),hs.boxes]
 ·unfold b4K;rw [z9];rfl
theorem c1a{s:u0}{own:q8}{bx:List m9}(hl:s.i8.length<=40)(hw:m8 (s.At+1)=s.At+1)(hd:a2Y s.i8):b9x s own bx=some (⟨s.At+1,bx,a0g s.i8 own⟩,own.Code):=by
 have hf:s9 s.i8:=by unfold s9;omega
 have hlen:∀k,k<=s.i8.length->((s.i8.take k).foldl (L4 own) ([],false)).1.length<=80:=by
  intro k hk;have:=c5n own (s.i8.take k) ([],false);simp only [f6O,f5G] at this;omega
 unfold b9x;have hloop:=W4 (body:=fun x:(List q8)×Int×Bool=>b1U s own x.1 x.2.1 x.2.2) (fun k=>(((s.i8.take k).foldl (L4 own) ([],false)).1,(k:Int),((s.i8.take k).foldl (L4 own) ([],false)).2)) s.i8.length (by
  intro k hk;have hb:=hlen k (by omega);rw [f5N hk,List.foldl_append];generalize (s.i8.take k).foldl (L4 own) ([],false)=st at hb;obtain ⟨o,i⟩:=st;simp only at hb;simp only [f7d,f7x];unfold b1U c5b c1I L4;rw [x8 _ k hk,t9 hk,E9 hf hk];have n1:(o.length+1)*32<=140737488355328:=by omega
  have n2:((o++[own]).length+1)*32<=140737488355328:=c7a (by omega);cases i<;>cases h1:decide (s.i8[k].a0.b9>=own.a0.b9)<;>cases h2:s.i8[k].a0.b9 != own.a0.b9<;>simp only [h1,h2,u7 n1,u7 n2,cond_true,cond_false,f5i,l9.go,f5n,f5J,f5v,Bool.false_and])
 simp only [f5T,f7x,f5C] at hloop;rw [show ((0:Nat):Int)=0 from rfl] at hloop;rw [hloop,C6 (b:=s.i8.foldl (L4 own) ([],false))]
 ·have hb:=hlen s.i8.length (f5y _);rw [f5C] at hb;have hpl:=d45 own hd;have hcp:a7g (a0g s.i8 own)=some (a0g s.i8 own):=d24 (by omega);unfold c2s c3U;unfold a0g at hcp ⊢;generalize s.i8.foldl (L4 own) ([],false)=st at hb hcp;obtain ⟨o,i⟩:=st;have n1:(o.length+1)*32<=140737488355328:=by simp only at hb;omega
  cases i<;>simp only [u7 n1,cond_true,cond_false,f5i,l9.go,f5n,f5J,hw] at hcp ⊢ <;>rw [hcp]<;>rfl
 ·unfold b1U;rw [z9];rfl
theorem c5E{s:u0}{k:Nat}{e:m4}(hs:X9 s k)(hk:k<40)(he:z5 e=true)(hf:a1a e):b55 s e=some (apply s e):=by
 have hw:m8 (s.At+1)=s.At+1:=by rw [hs.at_];exact C2 (by omega) (by omega)
 have hl:=hs.len;have hcd:a7g s.i8=some s.i8:=d24 (by omega);have hcb:a78 s.g7=some s.g7:=c06 (by rw [a6b hs.boxes];decide);have hat:(s.At==40)=false:=by rw [hs.at_];simp;omega
 unfold b55 apply;rw [e5u hs,a6E hf,he];simp only [f5i,f5n,cond_false,hat,hcb,hcd,hw];cases hn:e.i7;case true=>rfl
 obtain ⟨_,_,hr,hc3⟩:=a3B he hn;have hfr:b7e s e s.g7=some (N5 s e):=by
  unfold b7e N5;simp only [f1H (a1P hs.boxes) hf.2,hs.boxes,hr,f5v,f5i,c6g hs.boxes hf.2 hr];cases a0z s.g7 e.b7
  ·simp only [f5J,cond_true,cond_false,f5i,l9.go];exact c1a (by omega) hw hs.sorted
  ·unfold bne;cases e.b7.Code==0
   ·simp only [f5J,f5n,cond_true,cond_false,f5i,l9.go];exact c1a (by omega) hw hs.sorted
   ·simp only [f5n,cond_true,cond_false,f5i,l9.go];exact c1a (by omega) hw hs.sorted
 simp only [cond_false];rw [b3G s.i8 hs.fits (fun d=>d.a0.b9==e.a0.b9&&decide (d.a0.Seq>=e.a0.Seq)) (fun d=>(⟨s.At+1,s.g7,s.i8⟩,bif d.a0.Seq==e.a0.Seq then 3 else 4)) ()]
 ·rw [e2Y hs.sorted];cases s.i8.find? fun d=>d.a0.b9==e.a0.b9 with
  | none=>simp only [f5i,l9.go,hfr]
  | some d =>
   cases hq:d.a0.Seq==e.a0.Seq with
   | true =>
    have:d.a0.Seq>=e.a0.Seq:=by
     have:d.a0.Seq=e.a0.Seq:=by simpa using hq
     omega
    simp [this,l9.go,hq]
   | false =>
    have hne:d.a0.Seq≠e.a0.Seq:=by simpa using hq
    by_cases hg:d.a0.Seq>e.a0.Seq
    ·have:d.a0.Seq>=e.a0.Seq:=by omega
     simp [this,l9.go,hg,hq]
    ·have:¬d.a0.Seq>=e.a0.Seq:=by omega
     simp [this,l9.go,hg,hfr,hq]
 ·intro j hj;unfold b5j c4f;rw [x8 _ j hj,t9 hj];simp only [cond_true,f5i,hcd,hw];cases h1:s.i8[j].a0.b9==e.a0.b9<;>cases h2:decide (s.i8[j].a0.Seq>=e.a0.Seq)<;>cases h3:s.i8[j].a0.Seq==e.a0.Seq<;>simp only [cond_true,cond_false,f5i,l9.go,f5v,Bool.false_and,f6A,Bool.and_false]
 ·unfold b5j;rw [z9];rfl
theorem e2P{s:u0}{k:Nat}{e:m4}(hs:X9 s k)(hk:k<40)(he:z5 e=true)(hn:e.i7=false):X9 (N5 s e).1 (k+1)/\0<=(N5 s e).2/\(N5 s e).2<=5:=by
  obtain ⟨h1,h2,hr,hc3⟩:=a3B he hn;have hp:=a21 hr;have hat:s.At+1=((k+1:Nat):Int):=by rw [hs.at_];rfl
  have key:∀(bx:List m9) (d:q8),C4 bx=true->a7Z d=true->X9 ⟨s.At+1,bx,a0g s.i8 d⟩ (k+1):=fun bx d hb hd =>
    { at_:=hat,le:=by omega,boxes:=hb,sorted:=e59 d hs.sorted
      dones:=fun x hx=>by
        rcases d7Q hs.sorted hx with hx|rfl
        · exact hs.dones x hx
        · exact hd
      len:=by
        have:=d45 d hs.sorted;have:=hs.len;simp only;omega}
  have hd0:∀c:Int,0<=c->c<=2->a7Z ⟨e.a0,c,0⟩=true:=by
    intro c c1 c2;unfold a7Z p9;simp;omega
  have hd1:a7Z ⟨e.a0,0,e.b7.d9⟩=true:=by
    unfold a7Z p9;simp;omega
  unfold N5;cases a0z s.g7 e.b7
  · exact ⟨key _ _ hs.boxes (hd0 1 (by decide) (by decide)),show (0:Int)<=1 from by decide,show (1:Int)<=5 from by decide⟩
  · cases e.b7.Code==0
    · exact ⟨key _ _ hs.boxes (hd0 2 (by decide) (by decide)),show (0:Int)<=2 from by decide,show (2:Int)<=5 from by decide⟩
    · exact ⟨key _ _ (b8x hs.boxes hp.2.2.2.2) hd1,show (0:Int)<=0 from by decide,show (0:Int)<=5 from by decide⟩
theorem e34{s:u0}{k:Nat}{e:m4}(hs:X9 s k)(hk:k<40)(he:z5 e=true):X9 (apply s e).1 (k+1)/\0<=(apply s e).2/\(apply s e).2<=5:=by
 have hat:s.At+1=((k+1:Nat):Int):=by rw [hs.at_];rfl
 have key:X9 ⟨s.At+1,s.g7,s.i8⟩ (k+1):={at_:=hat,le:=by omega,boxes:=hs.boxes,sorted:=hs.sorted,dones:=hs.dones,len:=f6R hs.len}
 unfold apply;cases hn:e.i7
 ·have hfr:=e2P hs hk he hn;simp only [cond_false];cases s.i8.find? fun d=>d.a0.b9==e.a0.b9 with
  | none=>exact hfr
  | some d =>
   simp only;cases d.a0.Seq==e.a0.Seq
   ·cases decide (d.a0.Seq>e.a0.Seq)
    ·exact hfr
    ·exact ⟨key,show (0:Int)<=4 from by decide,show (4:Int)<=5 from by decide⟩
   ·exact ⟨key,show (0:Int)<=3 from by decide,show (3:Int)<=5 from by decide⟩
 ·exact ⟨key,show (0:Int)<=5 from by decide,show (5:Int)<=5 from by decide⟩
def P4:u0:=⟨0,f5k 4 ⟨0,0⟩,[]⟩
theorem e28:X9 P4 0:={at_:=rfl,le:=by omega,boxes:=by decide,sorted:=.nil,dones:=by simp [P4],len:=by simp [P4]}
theorem b90:a8Q=some P4:=by
 unfold a8Q b31;rw [u7 (by decide)];rfl
theorem e5v:b9u=some P4:=by
 unfold b9u b3C;rw [u7 (by decide)];rfl
def b0D(st:u0×List Int)(e:m4):u0×List Int:=((apply st.1 e).1,st.2++[(apply st.1 e).2])
def o8(l:List m4):u0×List Int:=l.foldl b0D (P4,[])
theorem a0L{l:List m4}{k:Nat}(hk:k<l.length):o8 (l.take (k+1))=b0D (o8 (l.take k)) l[k]:=by
 unfold o8;rw [f5N hk,List.foldl_append];rfl
theorem P3{l:List m4}(hl:l.length<=40)(he:l.all z5=true):∀k,k<=l.length->X9 (o8 (l.take k)).1 k/\(o8 (l.take k)).2.length=k/\∀c∈(o8 (l.take k)).2,0<=c/\c<=5
 | 0,_=>by
  rw [f5T];exact ⟨e28,rfl,by simp [o8]⟩
 | k+1,hk=>by
  obtain ⟨h1,h2,h3⟩:=P3 hl he k (by omega);have ha:=e34 h1 (by omega) (List.all_eq_true.1 he _ (f5l (show k<l.length by omega)));rw [a0L (show k<l.length by omega)];refine ⟨ha.1,by simp [b0D,h2],fun c hc => ?_⟩;unfold b0D at hc;rcases List.mem_append.1 hc with hc|hc
  ·exact h3 c hc
  ·rw [f5p] at hc;rw [hc];exact ha.2
theorem X0{l:List m4}(h:G0 l=true):l.length<=40/\l.all z5=true:=by
 unfold G0 at h;simpa using h
theorem b5f{l:List m4}(h:A3 88 a1a l)(hl:l.length<=40)(he:l.all z5=true):a8y l=some (o8 l):=by
  have hf:s9 l:=h.fits (by decide);unfold a8y;rw [e5v,f5i];first
  | (have hloop:=W4 (body:=fun s:(List m9)×(List q8)×(List Int)×Int×Int=>a1k l s.1 s.2.1 s.2.2.1 s.2.2.2.1 s.2.2.2.2) (fun k=>((o8 (l.take k)).1.g7,(o8 (l.take k)).1.i8,(o8 (l.take k)).2,(k:Int),(o8 (l.take k)).1.At)) l.length (by
       intro k hk;obtain ⟨h1,h2,h3⟩:=P3 hl he k (by omega);have n1:((o8 (l.take k)).2.length+1)*8<=140737488355328:=by rw [h2];omega
       rw [a0L hk];unfold a1k;rw [x8 _ k hk,t9 hk,E9 hf hk];simp only [cond_true,f5i];rw [c5E h1 (by omega) (List.all_eq_true.1 he _ (f5l hk)) (h.2 _ (f5l hk)),f5i,u7 n1];rfl)
     rw [f5T,f5C] at hloop;rw [show ((0:Nat):Int)=0 from rfl] at hloop;rw [show p8 (fun s:(List m9)×(List q8)×(List Int)×Int×Int=>a1k l s.1 s.2.1 s.2.2.1 s.2.2.2.1 s.2.2.2.2) (P4.g7,P4.i8,([]:List Int),0,P4.At)=_ from hloop,C6 (b:=((o8 l).1.g7,(o8 l).1.i8,(o8 l).2,(o8 l).1.At))]
     · rfl
     · unfold a1k;rw [z9];rfl
     done)
  | (have hloop:=W4 (body:=fun s:u0×(List Int)×Int=>a1k l s.1 s.2.1 s.2.2) (fun k=>((o8 (l.take k)).1,(o8 (l.take k)).2,(k:Int))) l.length (by
       intro k hk;obtain ⟨h1,h2,h3⟩:=P3 hl he k (by omega);have n1:((o8 (l.take k)).2.length+1)*8<=140737488355328:=by rw [h2];omega
       rw [a0L hk];unfold a1k;rw [x8 _ k hk,t9 hk,E9 hf hk];simp only [cond_true,f5i];rw [c5E h1 (by omega) (List.all_eq_true.1 he _ (f5l hk)) (h.2 _ (f5l hk)),f5i,u7 n1];rfl)
     rw [f5T,f5C] at hloop;rw [show ((0:Nat):Int)=0 from rfl] at hloop;rw [show p8 (fun s:u0×(List Int)×Int=>a1k l s.1 s.2.1 s.2.2) (P4,[],0)=_ from hloop,C6 (b:=o8 l)]
     · rfl
     · unfold a1k;rw [z9];rfl
     done)
  | (have hloop:=W4 (body:=fun s:(List m9)×(List Int)×Int×Int×List q8=>a1k l s.1 s.2.1 s.2.2.1 s.2.2.2.1 s.2.2.2.2) (fun k=>((o8 (l.take k)).1.g7,(o8 (l.take k)).2,(k:Int),(o8 (l.take k)).1.At,(o8 (l.take k)).1.i8)) l.length (by
       intro k hk;obtain ⟨h1,h2,h3⟩:=P3 hl he k (by omega);have n1:((o8 (l.take k)).2.length+1)*8<=140737488355328:=by rw [h2];omega
       rw [a0L hk];unfold a1k;rw [x8 _ k hk,t9 hk,E9 hf hk];simp only [cond_true,f5i];rw [show (⟨(o8 (l.take k)).1.At,(o8 (l.take k)).1.g7,(o8 (l.take k)).1.i8⟩:u0)=(o8 (l.take k)).1 from rfl,c5E h1 (by omega) (List.all_eq_true.1 he _ (f5l hk)) (h.2 _ (f5l hk)),f5i,u7 n1];rfl)
     rw [f5T,f5C] at hloop;rw [show ((0:Nat):Int)=0 from rfl] at hloop;rw [show p8 (fun s:(List m9)×(List Int)×Int×Int×List q8=>a1k l s.1 s.2.1 s.2.2.1 s.2.2.2.1 s.2.2.2.2) (P4.g7,[],0,P4.At,P4.i8)=_ from hloop,C6 (b:=((o8 l).1.g7,(o8 l).2,(o8 l).1.At,(o8 l).1.i8))]
     · rfl
     · unfold a1k;rw [z9];rfl
     done)
def Rd(r:t7)(m:Nat):Prop:=(∀x∈r.b,a6i x)/\r.b.length<=2000/\0<=r.p/\r.p<=(m:Int)
theorem Rd.mono{r:t7}{m n:Nat}(h:Rd r m)(hn:m<=n):Rd r n:=⟨h.1,h.2.1,h.2.2.1,by have:=h.2.2.2;omega⟩
theorem e1b{x y:Int}(hx:0<=x)(hx2:x<4611686018427387904)(hy:0<=y)(hy2:y<4611686018427387904):0<=a6D .i64 x y/\a6D .i64 x y<4611686018427387904:=by
 obtain ⟨a,rfl⟩:∃a:Nat,x=(a:Int):=⟨x.toNat,by omega⟩
 obtain ⟨b,rfl⟩:∃b:Nat,y=(b:Int):=⟨y.toNat,by omega⟩
 have hxor:a ^^^ b<2 ^ 62:=Nat.xor_lt_two_pow (by omega) (by omega);have h:a6D .i64 (a:Int) (b:Int)=((a ^^^ b:Nat):Int):=by
  unfold a6D;rw [BitVec.toNat_xor];have e1:(BitVec.ofInt IntKind.i64.bits (a:Int)).toNat=a:=by
   show (BitVec.ofInt 64 (a:Int)).toNat=a
   rw [BitVec.toNat_ofInt];omega
  have e2:(BitVec.ofInt IntKind.i64.bits (b:Int)).toNat=b:=by
   show (BitVec.ofInt 64 (b:Int)).toNat=b
   rw [BitVec.toNat_ofInt];omega
  rw [e1,e2];exact IntWalk.i64_in _ ⟨by omega,by omega⟩
 rw [h];omega
theorem c1u{l:List Int}(h:∀x∈l,a6i x){i:Int}(h0:0<=i)(h1:i<l.length):∃y,idx l i=some y/\0<=y/\y<=255:=by
 have hlt:i.toNat<l.length:=by omega
 refine ⟨l[i.toNat],?_,h _ (f5l hlt)⟩;unfold idx;rw [if_pos h0,f5j hlt]
theorem b7n{x n:Int}(hx:0<=x)(hn:1<=n):0<=f5K x n/\f5K x n<n:=by
 rw [Int.tmod_eq_emod_of_nonneg hx];exact ⟨Int.emod_nonneg _ (by omega),Int.emod_lt_of_pos _ (by omega)⟩
theorem d6L{x n:Int}(hx:0<=x)(hn:1<=n):0<=f7o x n/\f7o x n<=x:=by
 rw [Int.tdiv_eq_ediv_of_nonneg hx];exact ⟨Int.ediv_nonneg hx (by omega),Int.ediv_le_self _ hx⟩
theorem I6{r:t7}{m:Nat}(h:Rd r m)(hm:m<=1000000000)(n:Int):∃v r',F9 r n=some (v,r')/\Rd r' (m+1)/\0<=v/\(v<n\/v=0):=by
 obtain ⟨hb,hbl,hp0,hp1⟩:=h;have hw:m8 (r.p+1)=r.p+1:=C2 (by omega) (by omega);have hw2:m8 (r.p+1-1)=r.p:=by rw [C2 (by omega) (by omega)];omega
 have hr:Rd ⟨r.b,r.p+1⟩ (m+1):=⟨hb,hbl,by simp only;omega,by simp only;omega⟩
 unfold F9;simp only [hw,hw2];by_cases hn:n<1
 ·simp only [hn,decide_true,cond_true];exact ⟨0,_,rfl,hr,by omega,.inr rfl⟩
 simp only [hn,decide_false,cond_false];cases he:((r.b.length:Int)==0);case true=>exact ⟨0,_,rfl,hr,by omega,.inr rfl⟩
 have hpos:0<r.b.length:=by
  have:¬(r.b.length:Int)=0:=by simpa using he
  omega
 have hne:(r.b.length:Int)≠0:=by omega
 have hnn:n≠0:=by omega
 simp only [cond_false];by_cases hlt:r.p<(r.b.length:Int)
 ·obtain ⟨y,h1,h2,h3⟩:=c1u hb hp0 hlt;simp only [hlt,decide_true,cond_true,h1,f5i,u7 hnn];rw [C2 (n:=y) (by omega) (by omega)];have:=b7n h2 (show 1<=n by omega);exact ⟨_,_,rfl,hr,this.1,.inl this.2⟩
 ·simp only [hlt,decide_false,cond_false,u7 hne,u7 hnn];have t1:=b7n hp0 (show (1:Int)<=(r.b.length:Int) by omega);obtain ⟨y1,a1,a2,a3⟩:=c1u hb t1.1 t1.2;have w7:m8 (r.p*7)=r.p*7:=C2 (by omega) (by omega);have w73:m8 (r.p*7+3)=r.p*7+3:=C2 (by omega) (by omega);have t2:=b7n (show 0<=r.p*7+3 by omega) (show (1:Int)<=(r.b.length:Int) by omega);obtain ⟨y2,b1,b2,b3⟩:=c1u hb t2.1 t2.2;simp only [a1,w7,w73,b1,f5i];have td:=d6L hp0 (show (1:Int)<=(r.b.length:Int) by omega);have c1:m8 (m8 y1*131)=y1*131:=by rw [C2 (n:=y1) (by omega) (by omega),C2 (by omega) (by omega)]
  have c2:m8 (m8 y2*1117)=y2*1117:=by rw [C2 (n:=y2) (by omega) (by omega),C2 (by omega) (by omega)]
  have c3:m8 (r.p*29)=r.p*29:=C2 (by omega) (by omega);have c4:m8 (m8 (f7o r.p (r.b.length:Int))*53)=f7o r.p (r.b.length:Int)*53:=by rw [C2 (n:=f7o r.p (r.b.length:Int)) (by omega) (by omega),C2 (by omega) (by omega)]
  simp only [c1,c2,c3,c4];generalize f7o r.p (r.b.length:Int)=q at td;rw [C2 (n:=y1*131+y2*1117) (by omega) (by omega),C2 (n:=y1*131+y2*1117+r.p*29) (by omega) (by omega),C2 (n:=y1*131+y2*1117+r.p*29+q*53) (by omega) (by omega)];have hA0:0<=y1*131+y2*1117+r.p*29+q*53:=by omega
  have hA1:y1*131+y2*1117+r.p*29+q*53<1000000000000:=by omega
  generalize y1*131+y2*1117+r.p*29+q*53=A at hA0 hA1;have t3:=d6L hA0 (show (1:Int)<=64 by omega);rw [C2 (n:=f7o A 64) (by omega) (by omega)];have hx:=e1b hA0 (by omega) t3.1 (by omega);have t4:=b7n hx.1 (show 1<=n by omega);exact ⟨_,_,rfl,hr,t4.1,.inl t4.2⟩
theorem b3M{r:t7}{m:Nat}(h:Rd r m)(hm:m<=1000000000)(l:List Int)(hl:0<l.length)(hl2:l.length<=1000):∃v r',a6A r l=some (v,r')/\Rd r' (m+1)/\v∈l:=by
 obtain ⟨v,r',h1,h2,h3,h4⟩:=I6 h hm (l.length:Int);unfold a6A;rw [h1,f5i];have hlt:v.toNat<l.length:=by omega
 refine ⟨l[v.toNat],r',?_,h2,f5l hlt⟩;unfold idx;simp only [if_pos h3,f5j hlt,f5i]
theorem e4Z{code:List Int}(h:∀x∈code,a6i x):∃r,b8A code=some r/\Rd r 0:=by
 unfold b8A c2y;by_cases hl:(code.length:Int)>2000
 ·simp only [hl,decide_true,cond_true];rw [u7 ⟨by omega,by omega⟩];refine ⟨_,rfl,?_,?_,by simp,by simp⟩
  ·intro x hx;simp only [f6q] at hx;exact h x (f6k hx)
  ·simp only [f5G];have:(2000:Int).toNat-0=2000:=by decide
   omega
 ·simp only [hl,decide_false,cond_false];exact ⟨_,rfl,h,by simp only;omega,by simp,by simp⟩
def R0(i:n8):Bool :=
 bif i.a8==1 then p9 i.A 0 3&&(p9 i.B 0 3&&i.N==0) else
 bif i.a8==2 then p9 i.A 0 3&&(p9 i.B 0 3&&i.N==0) else
 bif i.a8==3 then p9 i.A 0 3&&(i.B==0&&p9 i.N (-1000000) 1000000) else
 bif i.a8==4 then p9 i.A 0 3&&(p9 i.B 0 3&&i.N==0) else
 bif i.a8==5 then p9 i.A 0 3&&(p9 i.B 0 3&&i.N==0) else
 bif i.a8==6 then p9 i.A 0 3&&(p9 i.B 0 3&&p9 i.N 1 10) else
 bif i.a8==7 then i.A==0&&(i.B==0&&i.N==0) else false
theorem e4o(n:Int):a2u n=some (p9 n 0 3):=by
 rw [<-M7];unfold a2u D4;have:(n<4)=(n<=3):=by apply propext;omega
 simp only [this]
theorem d99(i:n8):b8S i=some (R0 i):=by
 unfold b8S R0;have h6:(bif decide (i.N>=1) then some (decide (i.N<=10)) else some false)=some (p9 i.N 1 10):=by
  unfold p9;by_cases h1:i.N>=1<;>by_cases h2:i.N<=10<;>simp [h1,h2]<;>omega
 simp only [e4o,c1U,a6R,f5i,h6];cases i.a8==1<;>cases i.a8==2<;>cases i.a8==3<;>cases i.a8==4<;>cases i.a8==5<;>cases i.a8==6<;>cases i.a8==7<;>cases p9 i.A 0 3<;>cases p9 i.B 0 3<;>cases i.A==0<;>cases i.B==0<;>rfl
def E2(l:List n8):Bool:=decide (l.length<=10)&&l.all R0
theorem b97{l:List n8}(h:s9 l):a9K l=some (E2 l):=by
 unfold a9K E2;rw [show (10:Int)=((10:Nat):Int) from rfl,b04,R1 l h R0 false ()]
 ·cases decide (l.length<=10)
  ·rfl
  ·cases l.all R0<;>rfl
 ·intro k hk;unfold b5u;rw [x8 _ k hk,t9 hk];simp only [cond_true,f5i,d99];cases R0 l[k]<;>rfl
 ·unfold b5u;rw [z9];rfl
theorem a9j{i:n8}(h:R0 i=true):(i.a8=1/\(0<=i.A/\i.A<=3)/\(0<=i.B/\i.B<=3))\/(i.a8=2/\(0<=i.A/\i.A<=3)/\(0<=i.B/\i.B<=3))\/(i.a8=3/\(0<=i.A/\i.A<=3)/\(-1000000<=i.N/\i.N<=1000000))\/
  (i.a8=4/\(0<=i.A/\i.A<=3)/\(0<=i.B/\i.B<=3))\/(i.a8=5/\(0<=i.A/\i.A<=3)/\(0<=i.B/\i.B<=3))\/(i.a8=6/\(0<=i.A/\i.A<=3)/\(0<=i.B/\i.B<=3)/\(1<=i.N/\i.N<=10))\/(i.a8=7/\i.A=0):=by
 unfold R0 p9 at h;by_cases h1:i.a8=1
 ·simp [h1] at h;exact .inl ⟨h1,h.1,h.2.1⟩
 by_cases h2:i.a8=2
 ·simp [h2] at h;exact .inr (.inl ⟨h2,h.1,h.2.1⟩)
 by_cases h3:i.a8=3
 ·simp [h3] at h;exact .inr (.inr (.inl ⟨h3,h.1,h.2.2⟩))
 by_cases h4:i.a8=4
 ·simp [h4] at h;exact .inr (.inr (.inr (.inl ⟨h4,h.1,h.2.1⟩)))
 by_cases h5:i.a8=5
 ·simp [h5] at h;exact .inr (.inr (.inr (.inr (.inl ⟨h5,h.1,h.2.1⟩))))
 by_cases h6:i.a8=6
 ·simp [h6] at h;exact .inr (.inr (.inr (.inr (.inr (.inl ⟨h6,h.1,h.2.1,h.2.2⟩)))))
 by_cases h7:i.a8=7
 ·simp [h7] at h;exact .inr (.inr (.inr (.inr (.inr (.inr ⟨h7,h.1⟩)))))
 ·have e1:(i.a8==1)=false:=by simpa using h1
  have e2:(i.a8==2)=false:=by simpa using h2
  have e3:(i.a8==3)=false:=by simpa using h3
  have e4:(i.a8==4)=false:=by simpa using h4
  have e5:(i.a8==5)=false:=by simpa using h5
  have e6:(i.a8==6)=false:=by simpa using h6
  have e7:(i.a8==7)=false:=by simpa using h7
  rw [e1,e2,e3,e4,e5,e6,e7] at h;cases h
def a8Y(l:List r9):Bool:=(f5q l.length).all (X5 l)
def a3H(l:List p6):Bool:=(f5q l.length).all (W8 l)
def c5y(x:r9):Prop:=0<=x.i5/\x.i5<=3/\0<=x.j4/\x.j4<=1000000
theorem d40{l:List r9}:a8Y l=true↔(∀x∈l,c5y x)/\l.Pairwise fun a b=>a.i5≠b.i5:=by
 unfold a8Y;constructor
 ·intro h;refine ⟨d17 h,?_⟩;rw [f5X];intro i j hi hj hij heq;have:=List.all_eq_true.1 h j (by simpa using hj);unfold X5 at this;rw [f5j hj] at this;simp only [f5m,f6c] at this;have hs:=this.2.2;unfold J3 at hs;rw [f5U] at hs;refine hs l[i] ?_ (by simpa using heq);rw [f6t];exact ⟨i,by omega,rfl⟩
 ·rintro ⟨h1,h2⟩
  rw [List.all_eq_true];intro k hk;have hk:k<l.length:=by simpa using hk
  unfold X5;rw [f5j hk];have hf:=h1 _ (f5l hk);have hs:J3 (l.take k) l[k].i5=false:=by
   unfold J3;rw [f5U];intro x hx;obtain ⟨i,hi,rfl⟩:=f6t.1 hx;have:=f5X.1 h2 i k (by omega) hk (by omega);simpa using this
  simp only [hs,f5J,f6A,f5m];unfold c5y at hf;exact ⟨by simp [p9];omega,by simp [p9];omega⟩
theorem a9T{l:List p6}:a3H l=true↔(∀x∈l,a0u x)/\l.Pairwise fun a b=>a.i5≠b.i5:=by
 unfold a3H;constructor
 ·intro h;refine ⟨d4V h,?_⟩;rw [f5X];intro i j hi hj hij heq;have:=List.all_eq_true.1 h j (by simpa using hj);unfold W8 at this;rw [f5j hj] at this;simp only [f5m,f6c] at this;have hs:=this.2.2;unfold J4 at hs;rw [f5U] at hs;refine hs l[i] ?_ (by simpa using heq);rw [f6t];exact ⟨i,by omega,rfl⟩
 ·rintro ⟨h1,h2⟩
  rw [List.all_eq_true];intro k hk;have hk:k<l.length:=by simpa using hk
  unfold W8;rw [f5j hk];have hf:=h1 _ (f5l hk);have hs:J4 (l.take k) l[k].i5=false:=by
   unfold J4;rw [f5U];intro x hx;obtain ⟨i,hi,rfl⟩:=f6t.1 hx;have:=f5X.1 h2 i k (by omega) hk (by omega);simpa using this
  simp only [hs,f5J,f6A,f5m];unfold a0u at hf;exact ⟨by simp [p9];omega,by simp [p9];omega⟩
theorem f4Z{l:List r9}{x:r9}(h:a8Y l=true)(hx:c5y x)(hs:J3 l x.i5=false):a8Y (l++[x])=true:=by
 rw [d40] at h ⊢;refine ⟨fun y hy => ?_,?_⟩
 ·rcases List.mem_append.1 hy with hy|hy
  ·exact h.1 y hy
  ·rw [f5p.1 hy];exact hx
 ·rw [f6U];refine ⟨h.2,by simp,fun a ha b hb => ?_⟩;rw [f5p.1 hb];unfold J3 at hs;rw [f5U] at hs;simpa using hs a ha
theorem e8I{l:List p6}{x:p6}(h:a3H l=true)(hx:a0u x)(hs:J4 l x.i5=false):a3H (l++[x])=true:=by
 rw [a9T] at h ⊢;refine ⟨fun y hy => ?_,?_⟩
 ·rcases List.mem_append.1 hy with hy|hy
  ·exact h.1 y hy
  ·rw [f5p.1 hy];exact hx
 ·rw [f6U];refine ⟨h.2,by simp,fun a ha b hb => ?_⟩;rw [f5p.1 hb];unfold J4 at hs;rw [f5U] at hs;simpa using hs a ha
theorem e7k{l:List p6}{k:Nat}{v:Int}(h:a3H l=true)(hk:k<l.length)(hv:-1000000<=v/\v<=1000000):a3H (l.set k ⟨l[k].i5,v⟩)=true:=by
 rw [a9T] at h ⊢;refine ⟨fun y hy => ?_,?_⟩
 ·rcases List.mem_or_eq_of_mem_set hy with hy|rfl
  ·exact h.1 y hy
  ·have:=h.1 _ (f5l hk);exact ⟨this.1,this.2.1,hv⟩
 ·rw [f5X];intro i j hi hj hij;have hi':i<l.length:=by simpa using hi
  have hj':j<l.length:=by simpa using hj
  have hne:=f5X.1 h.2 i j hi' hj' hij;rw [List.getElem_set,List.getElem_set];split<;>split<;>simp_all
theorem b1k(r:n6):U2 r=(p9 r.Code 0 3&&(p9 r.d9 (-1000000) 1000000&&((r.Code==0||(r.d9==0&&r.b6.length==0))&&((r.Code != 3||r.b5.length==0)&&(a8Y r.b5&&a3H r.b6))))):=rfl
theorem d1G{l:List p6}(h:s9 l)(box:Int):(a2H l box=some (-1)/\J4 l box=false)\/∃k:Nat,a2H l box=some (k:Int)/\∃hk:k<l.length,l[k].i5=box:=by
 have hc:=a4v (body:=fun s:Int=>a1B l box s) (fun k=>(k:Int)) l.length (fun k=>match l[k]? with|some x => !(x.i5==box)|none=>true) (fun k=>(k:Int)) ()
  (fun k hk _=>by
   unfold a1B;rw [x8 l k hk,t9 hk,E9 h hk];simp only [cond_true,f5i,f5j hk];cases l[k].i5==box<;>rfl) (fun _=>by unfold a1B;rw [z9];rfl)
 unfold a2H;rcases hc with ⟨h1,hall⟩|⟨k,hk,ho,_,h1⟩
 ·left
  rw [show p8 (fun s:Int=>a1B l box s) 0=_ from h1];refine ⟨rfl,?_⟩;unfold J4;rw [f5U];intro x hx;obtain ⟨i,hi,rfl⟩:=f6g hx;have:=hall i hi;simpa [f5j hi] using this
 ·right
  rw [show p8 (fun s:Int=>a1B l box s) 0=_ from h1];refine ⟨k,rfl,hk,?_⟩;simpa [f5j hk] using ho
def inV(v:Int):Prop := -1000000<=v/\v<=1000000
def a9f(regs:List Int):Prop:=regs.length=4/\∀v∈regs,inV v
theorem a3g{regs:List Int}(h:regs.length=4){a:Int}(ha:0<=a/\a<=3):∃v,idx regs a=some v/\v∈regs:=by
 have hlt:a.toNat<regs.length:=by omega
 refine ⟨regs[a.toNat],?_,f5l hlt⟩;unfold idx;rw [if_pos ha.1,f5j hlt]
theorem f1b{regs:List Int}{a:Nat}{v w:Int}(h:w∈regs.set a v):w∈regs\/w=v:=List.mem_or_eq_of_mem_set h
structure X6(r:n6)(n:Nat):Prop where
 val:r.d9=0
 reads:a8Y r.b5=true
 puts:a3H r.b6=true
 rlen:r.b5.length<=n
 plen:r.b6.length<=n
theorem X6.fitsR{r:n6}{n:Nat}(h:X6 r n)(hn:n<=100):s9 r.b5:=by
 have:=h.rlen;unfold s9;omega
theorem X6.fitsP{r:n6}{n:Nat}(h:X6 r n)(hn:n<=100):s9 r.b6:=by
 have:=h.plen;unfold s9;omega
theorem e0x{l:List m9}{r:n6}{n:Nat}{box:Int}(hl:C4 l=true)(hr:X6 r n)(hn:n<=100)(hb:0<=box/\box<=3):∃v r',b2C l r box=some (v,r')/\X6 r' (n+1)/\r'.Code=r.Code/\inV v:=by
 have hp:=(a9T.1 hr.puts).1;unfold b2C;rcases d1G (hr.fitsP hn) box with ⟨h1,h2⟩|⟨k,h1,hk,h2⟩
 ·rw [h1,f5i,show decide ((-1:Int)>=0)=false from by decide,cond_false,c33 (hr.fitsR hn),f5i];obtain ⟨b,b1,b2,b3⟩:=a4K hl hb;rw [b4f] at b3;cases hs:J3 r.b5 box
  ·simp only [f5J,cond_true,b1,f5i];have n1:(r.b5.length+1)*16<=140737488355328:=by have:=hr.rlen;omega
   simp only [u7 n1,f5i,l9.go];unfold b1G;rw [b1,f5i];refine ⟨_,_,rfl,⟨hr.val,f4Z hr.reads ⟨hb.1,hb.2,b3.1⟩ hs,hr.puts,?_,?_⟩,rfl,b3.2⟩
   ·have:=hr.rlen;simp;omega
   ·have:=hr.plen;simp only;omega
  ·simp only [f5n,cond_false,f5i,l9.go];unfold b1G;rw [b1,f5i];refine ⟨_,_,rfl,⟨hr.val,hr.reads,hr.puts,?_,?_⟩,rfl,b3.2⟩
   ·have:=hr.rlen;simp only;omega
   ·have:=hr.plen;simp only;omega
 ·rw [h1,f5i,show decide (((k:Nat):Int)>=0)=true from by simp,cond_true,t9 hk,f5i];have hf:=hp _ (f5l hk);exact ⟨_,_,rfl,⟨hr.val,hr.reads,hr.puts,f6R hr.rlen,f6R hr.plen⟩,rfl,hf.2.2⟩
theorem d7o{r:n6}{n:Nat}{box v:Int}(hr:X6 r n)(hn:n<=100)(hb:0<=box/\box<=3)(hv:inV v):∃r',b2b r box v=some r'/\X6 r' (n+1)/\r'.Code=r.Code:=by
 unfold b2b;rcases d1G (hr.fitsP hn) box with ⟨h1,h2⟩|⟨k,h1,hk,h2⟩
 ·rw [h1,f5i,show decide ((-1:Int)>=0)=false from by decide,cond_false];have n1:(r.b6.length+1)*16<=140737488355328:=by have:=hr.plen;omega
  rw [u7 n1];refine ⟨_,rfl,⟨hr.val,hr.reads,e8I hr.puts ⟨hb.1,hb.2,hv⟩ h2,?_,?_⟩,rfl⟩
  ·have:=hr.rlen;simp only;omega
  ·have:=hr.plen;simp;omega
 ·rw [h1,f5i,show decide (((k:Nat):Int)>=0)=true from by simp,cond_true,t9 hk,f5i];refine ⟨_,rfl,⟨hr.val,hr.reads,?_,f6R hr.rlen,?_⟩,rfl⟩
  ·simp only [f5I];exact e7k hr.puts hk hv
  ·have:=hr.plen;simp;omega
theorem e5Z{l:List m9}{r:n6}{n:Nat}{regs:List Int}{i:n8}(hl:C4 l=true)(hr:X6 r n)(hn:n<=100)(hc:r.Code=0)(hg:a9f regs)(hi:R0 i=true)(h6:i.a8≠6) :
  ∃r' regs',a7b l r regs i=some (r',regs')/\X6 r' (n+1)/\regs'.length=4/\(r'.Code=0\/r'.Code=1\/r'.Code=2)/\(r'.Code=0->a9f regs'):=by
 have hend:∀(regs':List Int) (r':n6),X6 r' (n+1)->(r'.Code=0\/r'.Code=1)->regs'.length=4->i.a8≠2->(0<=i.A/\i.A<=3)->(∀v,idx regs' i.A=some v->inV v->a9f regs')->
   ∃r2 regs2,a3J i regs' r'.b5 r'.b6 r'.d9 r'.Code=some (r2,regs2)/\X6 r2 (n+1)/\regs2.length=4/\(r2.Code=0\/r2.Code=1\/r2.Code=2)/\(r2.Code=0->a9f regs2):=by
  intro regs' r' w1 w2 w3 w4 w5 w6;obtain ⟨v,v1,v2⟩:=a3g w3 w5;have hk:(i.a8 != 2)=true:=by simpa using w4
  unfold a3J a8k;rw [hk,cond_true,v1,f5i,a6R,f5i];cases hv:p9 v (-1000000) 1000000
  ·simp only [f5J,cond_true,f5i,l9.go];exact ⟨_,_,rfl,⟨w1.val,w1.reads,w1.puts,w1.rlen,w1.plen⟩,w3,.inr (.inr rfl),fun h=>absurd h (show ¬(2:Int)=0 from by decide)⟩
  ·simp only [f5n,cond_false,f5i,l9.go];have hv':inV v:=by simpa [p9,inV] using hv
   refine ⟨_,_,rfl,⟨w1.val,w1.reads,w1.puts,w1.rlen,w1.plen⟩,w3,?_,fun _=>w6 v v1 hv'⟩;rcases w2 with w2|w2
   ·exact .inl w2
   ·exact .inr (.inl w2)
 have hset:∀(a:Int) (x:Int),(0<=a/\a<=3)->(regs.set a.toNat x).length=4/\∀v,idx (regs.set a.toNat x) a=some v->inV v->a9f (regs.set a.toNat x):=by
  intro a x ha;have hlt:a.toNat<regs.length:=by have:=hg.1;omega
  refine ⟨by simpa using hg.1,fun v hv hin=>⟨by simpa using hg.1,fun w hw => ?_⟩⟩;rcases f1b hw with hw|rfl
  ·exact hg.2 w hw
  ·unfold idx at hv;rw [if_pos ha.1,f6l hlt] at hv;injection hv with hv;subst hv;exact hin
 have hw1:X6 r (n+1):=⟨hr.val,hr.reads,hr.puts,f6R hr.rlen,f6R hr.plen⟩
 unfold a7b;rcases a9j hi with ⟨k,ha,hb⟩|⟨k,ha,hb⟩|⟨k,ha,hN⟩|⟨k,ha,hb⟩|⟨k,ha,hb⟩|⟨k,_⟩|⟨k,ha⟩
 ·obtain ⟨v,r',q1,q2,q3,q4⟩:=e0x hl hr hn hb;obtain ⟨y,y1,_⟩:=a3g hg.1 ha;simp only [k,q1,y1,beq_self_eq_true,cond_true,f5i,l9.go];exact hend _ r' q2 (.inl (q3.trans hc)) (hset i.A v ha).1 (by omega) ha (hset i.A v ha).2
 ·obtain ⟨y,y1,y2⟩:=a3g hg.1 hb;obtain ⟨r',q1,q2,q3⟩:=d7o hr hn ha (hg.2 y y2);have e1:((2:Int)==1)=false:=by decide
  simp only [k,e1,y1,q1,beq_self_eq_true,cond_true,cond_false,f5i,l9.go];unfold a3J a8k;simp only [k,bne_self_eq_false,cond_false,f5i,l9.go];exact ⟨_,_,rfl,⟨q2.val,q2.reads,q2.puts,q2.rlen,q2.plen⟩,hg.1,.inl (q3.trans hc),fun _=>hg⟩
 ·obtain ⟨y,y1,_⟩:=a3g hg.1 ha;have e1:((3:Int)==1)=false:=by decide
  have e2:((3:Int)==2)=false:=by decide
  simp only [k,e1,e2,y1,beq_self_eq_true,cond_true,cond_false,f5i,l9.go];exact hend _ r hw1 (.inl hc) (hset i.A i.N ha).1 (by omega) ha (hset i.A i.N ha).2
 ·obtain ⟨y,y1,_⟩:=a3g hg.1 ha;obtain ⟨z,z1,_⟩:=a3g hg.1 hb;have e1:((4:Int)==1)=false:=by decide
  have e2:((4:Int)==2)=false:=by decide
  have e3:((4:Int)==3)=false:=by decide
  simp only [k,e1,e2,e3,y1,z1,beq_self_eq_true,cond_true,cond_false,f5i,l9.go];exact hend _ r hw1 (.inl hc) (hset i.A _ ha).1 (by omega) ha (hset i.A _ ha).2
 ·obtain ⟨y,y1,_⟩:=a3g hg.1 ha;obtain ⟨z,z1,_⟩:=a3g hg.1 hb;have e1:((5:Int)==1)=false:=by decide
  have e2:((5:Int)==2)=false:=by decide
  have e3:((5:Int)==3)=false:=by decide
  have e4:((5:Int)==4)=false:=by decide
  simp only [k,e1,e2,e3,e4,y1,z1,beq_self_eq_true,cond_true,cond_false,f5i,l9.go];exact hend _ r hw1 (.inl hc) (hset i.A _ ha).1 (by omega) ha (hset i.A _ ha).2
 ·exact absurd k h6
 ·have e1:((7:Int)==1)=false:=by decide
  have e2:((7:Int)==2)=false:=by decide
  have e3:((7:Int)==3)=false:=by decide
  have e4:((7:Int)==4)=false:=by decide
  have e5:((7:Int)==5)=false:=by decide
  simp only [k,e1,e2,e3,e4,e5,beq_self_eq_true,cond_true,cond_false,f5i,l9.go];have:=hend regs ⟨r.b5,r.b6,r.d9,1⟩ ⟨hw1.val,hw1.reads,hw1.puts,hw1.rlen,hw1.plen⟩ (.inr rfl) hg.1 (by omega) ⟨by omega,by omega⟩ (fun _ _ _=>hg);exact this
structure Ran(r:n6):Prop where
 ok:U2 r=true
 rlen:r.b5.length<=40
 plen:r.b6.length<=40
theorem e6E{r:n6}{n:Nat}(h:X6 r n)(hn:n<=40)(hc:r.Code=0\/r.Code=1\/r.Code=2){v:Int}(hv:r.Code=0->inV v):Ran ⟨r.b5,bif r.Code != 0 then [] else r.b6,bif r.Code != 0 then r.d9 else v,r.Code⟩:=by
 have h1:=h.rlen;have h2:=h.plen;have hR:=h.reads;have hP:=h.puts;have hP0:a3H []=true:=rfl;rcases hc with hc|hc|hc
 ·have hv:=hv hc;unfold inV at hv;refine ⟨?_,by simp only;omega,by simp only [hc];simp;omega⟩;rw [b1k];simp [hc,hR,hP,p9,hv]
 ·refine ⟨?_,by simp only;omega,by simp [hc]⟩;rw [b1k];simp [hc,hR,hP0,p9,h.val]
 ·refine ⟨?_,by simp only;omega,by simp [hc]⟩;rw [b1k];simp [hc,hR,hP0,p9,h.val]
theorem e25{l:List m9}{prog:List n8}(hl:s9 l)(hp:s9 prog):∃r,a7N l prog=some r/\(C4 l=true->Ran r)/\r.b5.length<=40/\r.b6.length<=40:=by
 unfold a7N;rw [b72 hl,b97 hp];have h0:Ran ⟨[],[],0,3⟩:=⟨by decide,by simp,by simp⟩
 cases hb:C4 l
 ·exact ⟨_,rfl,(fun h=>by cases h),by simp,by simp⟩
 cases hpo:E2 prog
 ·exact ⟨_,rfl,fun _=>h0,by simp,by simp⟩
 simp only [f5i,f5n,cond_false];rw [u7 (by decide)];have hlen:prog.length<=10:=by
  unfold E2 at hpo;simp only [f5m,decide_eq_true_eq] at hpo;exact hpo.1
 have hins:∀i∈prog,R0 i=true:=by
  unfold E2 at hpo;simp only [f5m] at hpo;exact List.all_eq_true.1 hpo.2
 obtain ⟨x,hx,hq⟩:=b9C (body:=fun s:(List Int)×(List r9)×(List p6)×Int×Int×Int=>a0U l prog s.1 s.2.1 s.2.2.1 s.2.2.2.1 s.2.2.2.2.1 s.2.2.2.2.2)
  (fun m s => ∃k:Nat,s.2.2.2.1=(k:Int)/\k<=30/\k+m=31/\X6 ⟨s.2.1,s.2.2.1,s.2.2.2.2.1,s.2.2.2.2.2⟩ k/\s.1.length=4/\(s.2.2.2.2.2=0\/s.2.2.2.2.2=1\/s.2.2.2.2.2=2)/\(s.2.2.2.2.2=0->a9f s.1))
  (fun x=>match x with
   | .ret _=>False
   | .brk b=>X6 ⟨b.1,b.2.1,b.2.2.2.1,b.2.2.2.2⟩ 30/\b.2.2.1.length=4/\(b.2.2.2.2=0\/b.2.2.2.2=1\/b.2.2.2.2=2)/\(b.2.2.2.2=0->a9f b.2.2.1))
  (by
   rintro m ⟨regs,b5,b6,kk,rVal,rCode⟩ ⟨k,hk,hk30,hm,hway,hreg,hcode,hrok⟩
   simp only at hk hway hreg hcode hrok ⊢;subst hk;have hend:X6 ⟨b5,b6,rVal,rCode⟩ 30:=⟨hway.val,hway.reads,hway.puts,Nat.le_trans hway.rlen hk30,Nat.le_trans hway.plen hk30⟩
   unfold a0U;by_cases hlt:k<prog.length
   ·rw [x8 _ k hlt,t9 hlt];cases hc:rCode==0
    ·exact ⟨_,rfl,hend,hreg,hcode,hrok⟩
    have hc0:rCode=0:=by simpa using hc
    have hi:=hins _ (f5l hlt);simp only [cond_true,f5i];cases h6:prog[k].a8==6
    ·obtain ⟨r',regs',q1,q2,q3,q4,q5⟩:=e5Z hb hway (by omega) hc0 (hrok hc0) hi (by simpa using h6);simp only [cond_false,q1,f5i];rw [u7 (by rw [q3];exact hreg),C2 (by omega) (by omega)];exact ⟨_,rfl,m-1,by omega,k+1,by simp,by omega,by omega,q2,q3,q4,q5⟩
    ·have h6':prog[k].a8=6:=by simpa using h6
     obtain ⟨_,ha,hbb,hN⟩:prog[k].a8=6/\(0<=prog[k].A/\prog[k].A<=3)/\(0<=prog[k].B/\prog[k].B<=3)/\(1<=prog[k].N/\prog[k].N<=10):=by
      rcases a9j hi with ⟨q,_⟩|⟨q,_⟩|⟨q,_⟩|⟨q,_⟩|⟨q,_⟩|q|⟨q,_⟩
      ·omega
      ·omega
      ·omega
      ·omega
      ·omega
      ·exact q
      ·omega
     obtain ⟨y,y1,_⟩:=a3g hreg ha;obtain ⟨z,z1,_⟩:=a3g hreg hbb;simp only [cond_true,y1,z1,f5i];have hw2:∀j:Nat,k<=j->X6 ⟨b5,b6,rVal,rCode⟩ (j+1):=fun j h=>⟨hway.val,hway.reads,hway.puts,Nat.le_trans hway.rlen (by omega),Nat.le_trans hway.plen (by omega)⟩
     unfold b6u;by_cases hyz:y<z
     ·simp only [hyz,decide_true,cond_true,f5i,l9.go];have e1:m8 ((k:Int)+prog[k].N)=((k+prog[k].N.toNat:Nat):Int):=by
       rw [C2 (n:=(k:Int)+prog[k].N) (by omega) (by omega)];omega
      rw [e1,C2 (n:=((k+prog[k].N.toNat:Nat):Int)+1) (by omega) (by omega)];exact ⟨_,rfl,31-(k+prog[k].N.toNat+1),by omega,k+prog[k].N.toNat+1,rfl,by omega,by omega,hw2 _ (by omega),hreg,hcode,hrok⟩
     ·simp only [hyz,decide_false,cond_false,f5i,l9.go];rw [C2 (n:=(k:Int)+1) (by omega) (by omega)];exact ⟨_,rfl,31-(k+1),by omega,k+1,rfl,by omega,by omega,hw2 k (by omega),hreg,hcode,hrok⟩
   ·have:decide ((k:Int)<(prog.length:Int))=false:=by simp;omega
    rw [this,cond_false];exact ⟨_,rfl,hend,hreg,hcode,hrok⟩) (k:=31) (s:=(f5k (4:Int).toNat 0,[],[],0,0,0)) ⟨0,rfl,by omega,by omega,⟨rfl,rfl,rfl,by simp,by simp⟩,rfl,.inl rfl,fun _=>⟨rfl,by simp [inV]⟩⟩
 rw [hx,f5i];cases x with
 | ret r=>cases hq
 | brk b =>
  obtain ⟨b5,b6,regs,rVal,rCode⟩:=b;obtain ⟨q1,q2,q3,q4⟩:=hq;simp only at q1 q2 q3 q4;simp only [l9.go];unfold a5O;obtain ⟨v,v1,v2⟩:=a3g q2 (a:=0) ⟨by omega,by omega⟩;have hran:=e6E q1 (by omega) q3 (v:=v) (fun h=>(q4 h).2 v v2);have q1r:=q1.rlen;have q1p:=q1.plen;simp only at hran q1r q1p;cases hc:rCode != 0
  ·rw [hc] at hran;simp only [cond_false,v1,f5i] at hran ⊢;exact ⟨_,rfl,fun _=>hran,by simp only;omega,by simp only;omega⟩
  ·rw [hc] at hran;simp only [cond_true] at hran ⊢;exact ⟨_,rfl,fun _=>hran,by simp only;omega,by simp⟩
theorem e46{r:t7}{m:Nat}(h:Rd r m)(hm:m<=100000000):∃i r',b8i r=some (i,r')/\Rd r' (m+10):=by
 obtain ⟨k,r1,a1,a2,a3⟩:=b3M h (by omega) [1,1,2,2,3,4,4,5,6,7] (by decide) (by decide);obtain ⟨p1,r2,b1,b2,b3,b4⟩:=I6 a2 (by omega) 3;obtain ⟨p2,r3,c1,c2,c3,c4⟩:=I6 b2 (by omega) 3;unfold b8i;simp only [a1,b1,c1,f5i];cases h3:k==3
 ·cases h6:k==6
  ·cases h7:k==7
   ·exact ⟨_,_,rfl,c2.mono (by omega)⟩
   ·obtain ⟨p3,r4,d1,d2,d3,d4⟩:=I6 c2 (by omega) 3;simp only [cond_true,cond_false,d1,f5i];cases decide (p3>0)
    ·exact ⟨_,_,rfl,d2.mono (by omega)⟩
    ·obtain ⟨p4,r5,e1,e2,e3,e4⟩:=I6 d2 (by omega) 4;obtain ⟨p5,r6,f1,f2,f3,f4⟩:=I6 e2 (by omega) 4;simp only [cond_true,e1,f1,f5i];exact ⟨_,_,rfl,f2.mono (by omega)⟩
  ·obtain ⟨p3,r4,d1,d2,d3,d4⟩:=I6 c2 (by omega) 3;simp only [cond_true,cond_false,d1,f5i];exact ⟨_,_,rfl,d2.mono (by omega)⟩
 ·obtain ⟨n1,r4,d1,d2,d3⟩:=b3M c2 (by omega) [0,1,5,(-2),100,1000000] (by decide) (by decide);simp only [cond_true,d1,f5i];exact ⟨_,_,rfl,d2.mono (by omega)⟩
theorem c1y{r:t7}{m:Nat}(h:Rd r m)(hm:m<=50000000):∃p r',a49 r=some (p,r')/\Rd r' (m+200)/\p.length<=10:=by
 obtain ⟨v,r1,a1,a2,a3,a4⟩:=I6 h (by omega) 3;unfold a49;simp only [a1,f5i];cases v==0
 ·obtain ⟨k,r2,b1,b2,b3,b4⟩:=I6 a2 (by omega) 8;simp only [cond_false,b1,f5i];obtain ⟨x,hx,hq⟩:=b9C (body:=fun s:t7×(List n8)×Int=>b7u s.1 s.2.1 s.2.2)
   (fun j s=>s.2.2=(j:Int)/\j<=8/\Rd s.1 (m+2+10*(8-j))/\s.2.1.length+j<=8)
   (fun x=>match x with
    | .ret _=>False
    | .brk b=>Rd b.1 (m+200)/\b.2.length<=10)
   (by
    rintro j ⟨r,out,i⟩ ⟨q1,q2,q3,q4⟩
    simp only at q1 q3 q4 ⊢;subst q1;unfold b7u;cases j with
    | zero=>exact ⟨_,rfl,q3.mono (by omega),by simp only;omega⟩
    | succ j =>
     obtain ⟨i,r',d1,d2⟩:=e46 q3 (by omega);have hpos:decide (((j+1:Nat):Int)>0)=true:=by simp
     have n1:(out.length+1)*32<=140737488355328:=by omega
     rw [hpos,cond_true,d1,f5i,u7 n1,C2 (by omega) (by omega)];exact ⟨_,rfl,j,by omega,by simp only;omega,by omega,d2.mono (by omega),by simp;omega⟩) (k:=k.toNat) (s:=(r2,[],k)) ⟨by simp only;omega,by omega,b2.mono (by omega),by simp;omega⟩
  rw [hx,f5i];cases x with
  | ret r=>cases hq
  | brk b=>exact ⟨_,_,rfl,hq.1,hq.2⟩
 ·obtain ⟨p1,r2,b1,b2,b3,b4⟩:=I6 a2 (by omega) 3;obtain ⟨p2,r3,c1,c2,c3,c4⟩:=I6 b2 (by omega) 3;obtain ⟨p3,r4,d1,d2,d3,d4⟩:=I6 c2 (by omega) 3;simp only [cond_true,b1,c1,d1,f5i];exact ⟨_,_,rfl,d2.mono (by omega),by simp⟩
def f4z(e:m4):Prop:=e.b7.b5.length<=40/\e.b7.b6.length<=40
def drawn(l:List m4):Prop:=l.length<=41/\∀e∈l,f4z e
theorem d2y{l:List m4}(h:A3 88 a1a l):b1T l=some (bif G0 l then (o8 l).1 else ⟨0,[],[]⟩):=by
 unfold b1T;rw [c4r h,f5i];cases hok:G0 l
 ·rfl
 ·obtain ⟨hl,he⟩:=X0 hok;rw [f5n,cond_false,b5f h hl he];rfl
theorem c9x{l:List m4}(h:A3 88 a1a l)(hok:G0 l=true):b3b l=some (o8 l).1:=by
 obtain ⟨hl,he⟩:=X0 hok;have hf:s9 l:=h.fits (by decide);unfold b3b;rw [b90,f5i,show (40:Int)=((40:Nat):Int) from rfl,b04,decide_eq_true hl,f5n,cond_false];have hloop:=W4 (body:=fun s:(List m9)×Int×Int×List q8=>b0c l s.1 s.2.1 s.2.2.1 s.2.2.2) (fun k=>((o8 (l.take k)).1.g7,(k:Int),(o8 (l.take k)).1.At,(o8 (l.take k)).1.i8)) l.length (by
  intro k hk;obtain ⟨h1,h2,h3⟩:=P3 hl he k (by omega);have hek:=List.all_eq_true.1 he _ (f5l hk);have hfk:=h.2 _ (f5l hk);rw [a0L hk];unfold b0c;rw [x8 _ k hk,t9 hk,E9 hf hk];simp only [cond_true,f5i,a4h hfk,hek,f5n,cond_false];rw [show (⟨(o8 (l.take k)).1.At,(o8 (l.take k)).1.g7,(o8 (l.take k)).1.i8⟩:u0)=(o8 (l.take k)).1 from rfl,b5H h1 (by omega) hek hfk,f5i];rfl)
 rw [f5T,f5C] at hloop;rw [show ((0:Nat):Int)=0 from rfl] at hloop;rw [show p8 (fun s:(List m9)×Int×Int×List q8=>b0c l s.1 s.2.1 s.2.2.1 s.2.2.2) (P4.g7,0,P4.At,P4.i8)=_ from hloop,C6 (b:=((o8 l).1.g7,(o8 l).1.At,(o8 l).1.i8))]
 ·rfl
 ·unfold b0c;rw [z9];rfl
def W3(a b:List m9):Prop:=a.length=b.length/\∀(i:Nat) (x y:m9),a[i]?=some x->b[i]?=some y->x.j4<=y.j4
theorem W3.refl(a:List m9):W3 a a:=⟨rfl,fun i x y h1 h2=>by rw [h1] at h2;injection h2 with h2;rw [h2];exact f5H _⟩
theorem W3.trans{a b c:List m9}(h:W3 a b)(k:W3 b c):W3 a c:=by
 refine ⟨h.1.trans k.1,fun i x z hx hz => ?_⟩;have hi:i<b.length:=by
  have:=(f5o.1 hx).1;have:=h.1;omega
 have h1:=h.2 i x _ hx (f5j hi);have h2:=k.2 i _ z (f5j hi) hz;omega
theorem f1V{l:List m9}{p:p6}(h:C4 l=true)(hp:a0u p):W3 l (a0e l p):=by
 obtain ⟨b,_,h2,h3⟩:=a4K h (b:=p.i5) ⟨hp.1,hp.2.1⟩;rw [b4f] at h3;rw [b94 h2];refine ⟨by simp,fun i x y hx hy => ?_⟩;rw [f6H] at hy;split at hy
 ·rename_i he;split at hy
  ·injection hy with hy;subst hy;rw [<-he,h2] at hx;injection hx with hx;subst hx;simp only;split<;>omega
  ·cases hy
 ·rw [hx] at hy;injection hy with hy;rw [hy];exact f5H _
theorem d2r:∀{ps:List p6} {l:List m9},C4 l=true->(∀p∈ps,a0u p)->W3 l (a0S l ps)
 | [],l,_,_=>W3.refl _
 | p::ps,l,h,hp=>(f1V h (hp p (by simp))).trans (d2r (ps:=ps) (d0X h (hp p (by simp))) fun x hx=>hp x (by simp [hx]))
theorem f1C{s:u0}{k:Nat}{e:m4}(hs:X9 s k)(he:z5 e=true):W3 s.g7 (apply s e).1.g7:=by
 have hfr:e.i7=false->W3 s.g7 (N5 s e).1.g7:=by
  intro hn;obtain ⟨_,_,hr,_⟩:=a3B he hn;unfold N5;cases a0z s.g7 e.b7
  ·exact W3.refl _
  ·cases e.b7.Code==0
   ·exact W3.refl _
   ·exact d2r hs.boxes (a21 hr).2.2.2.2
 unfold apply;cases hn:e.i7
 ·simp only [cond_false];cases s.i8.find? fun d=>d.a0.b9==e.a0.b9 with
  | none=>exact hfr hn
  | some d =>
   simp only;cases d.a0.Seq==e.a0.Seq
   ·cases decide (d.a0.Seq>e.a0.Seq)
    ·exact hfr hn
    ·exact W3.refl _
   ·exact W3.refl _
 ·exact W3.refl _
theorem d3Y{l:List m4}(hl:l.length<=40)(he:l.all z5=true){j k:Nat}(hjk:j<=k)(hk:k<=l.length):W3 (o8 (l.take j)).1.g7 (o8 (l.take k)).1.g7:=by
 induction k with
 | zero =>
  have:j=0:=by omega
  subst this;exact W3.refl _
 | succ k ih =>
  by_cases hq:j=k+1
  ·subst hq;exact W3.refl _
  ·refine (ih (by omega) (by omega)).trans ?_;rw [a0L (show k<l.length by omega)];exact f1C (P3 hl he k (by omega)).1 (List.all_eq_true.1 he _ (f5l _))
def a6T(l:List m4)(codes:List Int)(box:Int)(i:Nat):Bool:=match codes[i]?,l[i]? with
 | some c,some e=>c==0&&J4 e.b7.b6 box
 | _,_=>false
theorem d3z{l:List m9}{p:p6}{i:Nat}(h:p.i5.toNat≠i):(a0e l p)[i]?=l[i]?:=by
 unfold a0e;cases l[p.i5.toNat]? with
 | none=>rfl
 | some b=>simp only;rw [f5D h]
theorem f1j{l:List m9}{p:p6}{x:m9}(hx:l[p.i5.toNat]?=some x):(a0e l p)[p.i5.toNat]?=some ⟨if x.j4+1<1000000 then x.j4+1 else 1000000,p.d9⟩:=by
 rw [b94 hx,f6l (f5o.1 hx).1]
theorem e7i{ps:List p6}{b:Int}(h:J4 ps b=false):∀p∈ps,p.i5≠b:=by
 unfold J4 at h;rw [f5U] at h;intro p hp;simpa using h p hp
theorem c3q:∀{ps:List p6} {l:List m9} {b:Int},0<=b->(∀p∈ps,a0u p)->J4 ps b=false->(a0S l ps)[b.toNat]?=l[b.toNat]?
 | [],l,b,_,_,_=>rfl
 | p::ps,l,b,hb,hp,hs=>by
  have h1:=e7i hs;have hf:=hp p (by simp);have hne:p.i5.toNat≠b.toNat:=by
   have:=h1 p (by simp);have:=hf.1;omega
  have hs2:J4 ps b=false:=by
   unfold J4;rw [f5U];intro x hx;have:=h1 x (by simp [hx]);simpa using this
  show (a0S (a0e l p) ps)[b.toNat]?=_
  rw [c3q (l:=a0e l p) hb (fun x hx=>hp x (by simp [hx])) hs2,d3z hne]
theorem c6L:∀{ps:List p6} {l:List m9} {b:Int} {x:m9},0<=b->(∀p∈ps,a0u p)->ps.Pairwise (fun p q=>p.i5≠q.i5)->J4 ps b=true->l[b.toNat]?=some x->
  ∃v,(a0S l ps)[b.toNat]?=some ⟨if x.j4+1<1000000 then x.j4+1 else 1000000,v⟩
 | [],l,b,x,_,_,_,hs,_=>by cases hs
 | p::ps,l,b,x,hb,hp,hd,hs,hx=>by
  have hf:=hp p (by simp);obtain ⟨hd1,hd2⟩:=f6z.1 hd;by_cases he:p.i5=b
  ·have hs2:J4 ps b=false:=by
    unfold J4;rw [f5U];intro q hq;have:=hd1 q hq;simp only [beq_iff_eq];intro h;exact this (he.trans h.symm)
   refine ⟨p.d9,?_⟩;show (a0S (a0e l p) ps)[b.toNat]?=_
   rw [c3q hb (fun q hq=>hp q (by simp [hq])) hs2,<-he,f1j (by rw [he];exact hx)]
  ·have hne:p.i5.toNat≠b.toNat:=by
    have:=hf.1;omega
   have hs2:J4 ps b=true:=by
    unfold J4 at hs ⊢;rw [f7r] at hs;have:(p.i5==b)=false:=by simpa using he
    rwa [this,f5R] at hs
   exact c6L (l:=a0e l p) hb (fun q hq=>hp q (by simp [hq])) hd2 hs2 (by rw [d3z hne];exact hx)
theorem d2S{r:n6}(h:U2 r=true):a3H r.b6=true:=by
 rw [b1k] at h;simp only [f5m] at h;exact h.2.2.2.2.2
theorem c34{s:u0}{k:Nat}{e:m4}(hs:X9 s k)(he:z5 e=true):((apply s e).2=0/\e.i7=false/\(apply s e).1.g7=a0S s.g7 e.b7.b6)\/((apply s e).2≠0/\(apply s e).1.g7=s.g7):=by
 have hfr:e.i7=false->((N5 s e).2=0/\e.i7=false/\(N5 s e).1.g7=a0S s.g7 e.b7.b6)\/((N5 s e).2≠0/\(N5 s e).1.g7=s.g7):=by
  intro hn;unfold N5;cases a0z s.g7 e.b7
  ·exact .inr ⟨show (1:Int)≠0 from by decide,rfl⟩
  ·cases e.b7.Code==0
   ·exact .inr ⟨show (2:Int)≠0 from by decide,rfl⟩
   ·exact .inl ⟨rfl,hn,rfl⟩
 unfold apply;cases hn:e.i7
 ·simp only [cond_false];cases s.i8.find? fun d=>d.a0.b9==e.a0.b9 with
  | none =>
   rcases hfr hn with ⟨a,_,c⟩|h
   ·exact .inl ⟨a,by simp,c⟩
   ·exact .inr h
  | some d =>
   simp only;cases d.a0.Seq==e.a0.Seq
   ·cases decide (d.a0.Seq>e.a0.Seq)
    ·rcases hfr hn with ⟨a,_,c⟩|h
     ·exact .inl ⟨a,by simp,c⟩
     ·exact .inr h
    ·exact .inr ⟨show (4:Int)≠0 from by decide,rfl⟩
   ·exact .inr ⟨show (3:Int)≠0 from by decide,rfl⟩
 ·exact .inr ⟨show (5:Int)≠0 from by decide,rfl⟩
theorem a9S{l:List m4}(hl:l.length<=40)(he:l.all z5=true){k:Nat}(hk:k<l.length):(o8 l).2[k]?=some (apply (o8 (l.take k)).1 l[k]).2:=by
 have key:∀n,k<n->n<=l.length->(o8 (l.take n)).2[k]?=some (apply (o8 (l.take k)).1 l[k]).2:=by
  intro n;induction n with
  | zero=>intro h;omega
  | succ n ih =>
   intro h1 h2;have hlen:=(P3 hl he n (by omega)).2.1;rw [a0L (show n<l.length by omega)];unfold b0D;by_cases hq:k=n
   ·subst hq;simp only;rw [f5A (by omega),hlen,Nat.sub_self];rfl
   ·simp only;rw [f5E (by omega)];exact ih (by omega) (by omega)
 have:=key l.length hk (f5y _);rwa [f5C] at this
theorem c7F{l:List m4}(hl:l.length<=40)(he:l.all z5=true){k:Nat}(hk:k<l.length){b:Int}(h0:0<=b)(h:a6T l (o8 l).2 b k=false):(o8 (l.take (k+1))).1.g7[b.toNat]?=(o8 (l.take k)).1.g7[b.toNat]?:=by
 have hek:=List.all_eq_true.1 he _ (f5l hk);have hin:=(P3 hl he k (by omega)).1;rw [a0L hk];show (apply (o8 (l.take k)).1 l[k]).1.g7[b.toNat]?=_
 rcases c34 hin hek with ⟨h1,h2,h3⟩|⟨h1,h2⟩
 ·rw [h3];obtain ⟨_,_,hr,_⟩:=a3B hek h2;refine c3q h0 (a21 hr).2.2.2.2 ?_;unfold a6T at h;rw [a9S hl he hk,f5j hk,h1] at h;simpa using h
 ·rw [h2]
theorem d4g{l:List m4}(hl:l.length<=40)(he:l.all z5=true){k:Nat}(hk:k<l.length){b:Int}(h:a6T l (o8 l).2 b k=true):(0<=b/\b<=3)/\∀x,(o8 (l.take k)).1.g7[b.toNat]?=some x->
  ∃v,(o8 (l.take (k+1))).1.g7[b.toNat]?=some ⟨if x.j4+1<1000000 then x.j4+1 else 1000000,v⟩:=by
 have hek:=List.all_eq_true.1 he _ (f5l hk);have hin:=(P3 hl he k (by omega)).1;unfold a6T at h;rw [a9S hl he hk,f5j hk] at h;simp only [f5m,beq_iff_eq] at h;rcases c34 hin hek with ⟨h1,h2,h3⟩|⟨h1,h2⟩
 ·obtain ⟨_,_,hr,_⟩:=a3B hek h2;have hp:=(a21 hr).2.2.2.2;have hb:0<=b/\b<=3:=by
   have:=h.2;unfold J4 at this;rw [f6E] at this;obtain ⟨p,hp1,hp2⟩:=this;have hpb:p.i5=b:=by simpa using hp2
   have:=hp p hp1;omega
  refine ⟨hb,fun x hx => ?_⟩;rw [a0L hk];show ∃v,(apply (o8 (l.take k)).1 l[k]).1.g7[b.toNat]?=_
  rw [h3];exact c6L hb.1 hp (a9T.1 (d2S hr)).2 h.2 hx
 ·exact absurd h.1 h1
theorem c03{l:List m4}(hl:l.length<=40)(he:l.all z5=true){b:Int}(hb:0<=b/\b<=3):∀k,k<=l.length->∃x,(o8 (l.take k)).1.g7[b.toNat]?=some x/\0<=x.j4/\x.j4<=(k:Int)
 | 0,_=>by
  rw [f5T];have:b=0\/b=1\/b=2\/b=3:=by omega
  rcases this with rfl|rfl|rfl|rfl<;>exact ⟨⟨0,0⟩,rfl,by decide,by decide⟩
 | k+1,hk=>by
  obtain ⟨x,h1,h2,h3⟩:=c03 hl he hb k (by omega);cases hp:a6T l (o8 l).2 b k
  ·rw [c7F hl he (by omega) hb.1 hp];exact ⟨x,h1,h2,by omega⟩
  ·obtain ⟨_,hq⟩:=d4g hl he (show k<l.length by omega) hp;obtain ⟨v,hv⟩:=hq x h1;refine ⟨_,hv,?_,?_⟩
   ·simp only;split<;>omega
   ·simp only;split<;>omega
theorem d22{l:List m4}(hl:l.length<=40)(he:l.all z5=true){b:Int}(h0:0<=b){j:Nat}:∀k,j<=k->k<=l.length->(∀i,j<=i->i<k->a6T l (o8 l).2 b i=false)->(o8 (l.take k)).1.g7[b.toNat]?=(o8 (l.take j)).1.g7[b.toNat]?
 | 0,hj,_,_=>by
  have:j=0:=by omega
  rw [this]
 | k+1,hj,hk,h=>by
  by_cases hq:j=k+1
  ·rw [hq]
  ·rw [c7F hl he (by omega) h0 (h k (by omega) (by omega))];exact d22 hl he h0 k (by omega) (by omega) fun i h1 h2=>h i h1 (by omega)
def cnt(cs:List Int)(c:Int):Int:=((cs.filter fun x=>x==c).length:Int)
theorem f0p(cs:List Int)(c d:Int):cnt (cs++[c]) d=cnt cs d+(if c=d then 1 else 0):=by
 unfold cnt;rw [List.filter_append];by_cases h:c=d<;>simp [h]
theorem c2g(cs:List Int)(c:Int):0<=cnt cs c/\cnt cs c<=cs.length:=by
 unfold cnt;have:=List.length_filter_le (fun x=>x==c) cs;omega
def b1W(l:List m4)(cs:List Int)(k:Nat):List n7:=match cs[k]?,l[k]? with
 | some c,some e=>bif c==0 then [e.a0] else []
 | _,_=>[]
def told(l:List m4)(cs:List Int):Nat->List n7
 | 0=>[]
 | k+1=>told l cs k++b1W l cs k
theorem b1V{l:List m4}{cs:List Int}{k:Nat}(h1:k<l.length)(h2:k<cs.length):b1W l cs k=bif cs[k]==0 then [l[k].a0] else []:=by
 unfold b1W;rw [f5j h1,f5j h2]
theorem b75{l:List m4}{cs:List Int}(hc:cs.length=l.length):∀k,k<=l.length->((told l cs k).length:Int)=cnt (cs.take k) 0
 | 0,_=>rfl
 | k+1,hk=>by
  have h1:k<cs.length:=by omega
  have ih:=b75 hc k (by omega);unfold told;rw [f5N h1,f0p,b1V (show k<l.length by omega) h1,<-ih];by_cases hq:cs[k]=0
  ·simp [hq]
  ·have hq':(cs[k]==0)=false:=by simpa using hq
   simp [hq,hq']
def z8(l:List m4):List n7:=bif G0 l then told l (o8 l).2 l.length else []
theorem e4s{l:List n7}(h:l.length*16<=140737488351232):b7N l=some l:=by
 unfold b7N t5;cases l with
 | nil=>rfl
 | cons x l =>
  have h1:(((x::l).length:Int)==0)=false:=by simp;omega
  rw [h1,cond_false,if_pos (by constructor<;>omega),if_pos (by simp)]
theorem d6Y{l:List m4}(h:A3 88 a1a l):b60 l=some (z8 l):=by
 unfold b60 z8;rw [c4r h,f5i];cases hok:G0 l
 ·rfl
 have hf:s9 l:=h.fits (by decide);obtain ⟨hl,he⟩:=X0 hok;obtain ⟨_,hlen,hc⟩:=P3 hl he l.length (f5y _);rw [f5C] at hlen hc;rw [f5n,cond_false,cond_true,b5f h hl he,f5i];have hsm:∀k,k<=l.length->(told l (o8 l).2 k).length<=40:=by
  intro k hk;have h1:=b75 hlen k hk;have h2:=c2g ((o8 l).2.take k) 0;rw [f5G] at h2;omega
 have hloop:=W4 (body:=fun s:(List n7)×Int=>b0X l (o8 l) s.1 s.2) (fun k=>(told l (o8 l).2 k,(k:Int))) l.length (by
  intro k hk;have hk2:k<(o8 l).2.length:=by omega
  have hs:=hsm k (by omega);have n1:((told l (o8 l).2 k).length+1)*16<=140737488355328:=by omega
  show b0X l (o8 l) (told l (o8 l).2 k) (k:Int)=some (.nxt (told l (o8 l).2 k++b1W l (o8 l).2 k,((k+1:Nat):Int)))
  rw [b1V hk hk2];unfold b0X c2x;rw [x8 _ k hk,t9 hk,t9 hk2,E9 hf hk];simp only [cond_true,f5i,u7 n1];cases (o8 l).2[k]==0
  ·simp only [cond_false,f5i,l9.go,f5S]
  ·rfl)
 rw [show told l (o8 l).2 0=[] from rfl,show ((0:Nat):Int)=0 from rfl] at hloop;rw [hloop,C6 (b:=told l (o8 l).2 l.length)]
 ·simp only [f5i,l9.go];unfold c3h;rw [e4s (by have:=hsm l.length (f5y _);omega)];rfl
 ·unfold b0X;rw [z9];rfl
theorem a6U{ps:List p6}(h:ps.Pairwise fun p q=>p.i5≠q.i5)(b:Int):(ps.filter fun p=>p.i5==b).length<=1:=by
 have h2:=h.filter (fun p=>p.i5==b);cases hq:ps.filter fun p=>p.i5==b with
 | nil=>simp
 | cons x r =>
  cases r with
  | nil=>simp
  | cons y r =>
   rw [hq] at h2;have hne:=(f6z.1 h2).1 y (by simp);have hx:x∈ps.filter fun p=>p.i5==b:=by rw [hq];simp
   have hy:y∈ps.filter fun p=>p.i5==b:=by rw [hq];simp
   have hx:=(List.mem_filter.1 hx).2;have hy:=(List.mem_filter.1 hy).2;simp only [beq_iff_eq] at hx hy;omega
theorem c1B:∀{ps:List p6},(∀p∈ps,a0u p)->ps.length=(ps.filter fun p=>p.i5==0).length+(ps.filter fun p=>p.i5==1).length+(ps.filter fun p=>p.i5==2).length+(ps.filter fun p=>p.i5==3).length
 | [],_=>rfl
 | p::ps,h=>by
  have ih:=c1B (ps:=ps) fun x hx=>h x (by simp [hx])
  have hp:=h p (by simp);have:p.i5=0\/p.i5=1\/p.i5=2\/p.i5=3:=by
   have:=hp.1;have:=hp.2.1;omega
  simp only [List.filter_cons,f6n];rcases this with q|q|q|q<;>simp [q]<;>omega
theorem e3S{r:n6}(h:U2 r=true):r.b6.length<=4:=by
 have h1:=(a9T.1 (d2S h))
 have h2:=c1B h1.1;have a:=a6U h1.2 0;have b:=a6U h1.2 1;have c:=a6U h1.2 2;have d:=a6U h1.2 3;omega
theorem okEntries.s{l:List m4}(h:A3 88 F3 l):A3 88 a1a l:=h.imp fun _ x=>x.f
theorem a3E(c x:Bool):(bif c then some x else some false)=some (c&&x):=by cases c<;>rfl
theorem b4h(c x:Bool):(bif c then some false else some x)=some (!c&&x):=by cases c<;>rfl
theorem f1h(n lo hi:Int):p9 n lo hi=(!decide (n<lo) && !decide (n>hi)):=by
 unfold p9;by_cases h1:n<lo<;>by_cases h2:n>hi<;>simp [h1,h2]<;>omega
theorem rng{α:Type}(n lo hi:Int)(X Y:α):(bif decide (n<lo) then Y else bif decide (n>hi) then Y else X)=bif p9 n lo hi then X else Y:=by
 rw [f1h];cases decide (n<lo)<;>cases decide (n>hi)<;>rfl
theorem c1s{α:Type}(n lo:Int)(X Y:α):(bif decide (n<lo) then Y else bif decide (n>=3) then Y else X)=bif p9 n lo 2 then X else Y:=by
 have e:decide (n>=3)=decide (n>2):=by
  by_cases h:n>2
  ·rw [decide_eq_true h,decide_eq_true (by omega)]
  ·rw [decide_eq_false h,decide_eq_false (by omega)]
 rw [<-rng,e]
theorem a5D(a b:Int):(!decide (a>b))=decide (a<=b):=by
 by_cases h:a<=b
 ·simp [h]
 ·simp [h];omega
theorem c7w{α:Type}(l:List α):decide ((l.length:Int)>0) = !((l.length:Int)==0):=by
 by_cases hp:l.length=0
 ·rw [decide_eq_false (by omega),show ((l.length:Int)==0)=true from by rw [hp];rfl];rfl
 ·rw [decide_eq_true (by omega),show ((l.length:Int)==0)=false from by rw [<-Bool.not_eq_true,beq_iff_eq];omega];rfl
theorem b3o{α:Type}[BEq α](a b:α):(!(a != b))=(a==b):=by simp [bne]
abbrev zE:m4:=⟨false,⟨0,0⟩,⟨[],[],0,0⟩⟩
def Z3(a b:m4):Bool:=(a.i7==b.i7)&&((([a.a0.b9,a.a0.Seq]:List Int)==[b.a0.b9,b.a0.Seq])&&a4i a.b7 b.b7)
theorem b5F{a b:m4}(h:F3 a):a0r a b=some (Z3 a b):=by
 unfold a0r Z3;simp only [c3Z h.f.2,f5i,a3E]
theorem c5c{e:m4}(h:F3 e):a4W e=some (Z3 e zE):=by
 unfold a4W Z3;simp only [c4n h.f.2,f5i,a3E];cases e.i7<;>rfl
theorem b0b(n:Int):a1i n=some (p9 n 1 3000):=M7 n 1 3000
def a0p(v:m7):Bool:=bif v.a7==0 then Z3 v.i4 zE else p9 v.a7 1 3000&&z5 v.i4
theorem f0b{v:m7}(h:T7 v):b5U v=some (a0p v):=by
 unfold b5U a0p;simp only [b5F h.2,M7,a6E h.2.f,f5i,a3E];cases v.a7==0<;>rfl
theorem f4b{v:m7}(h:T7 v):b8s v=some (a0p v):=by
 unfold b8s a0p Z3;simp only [c4n h.2.f.2,b0b,a4h h.2.f,f5i,a3E];cases v.a7==0<;>cases v.i4.i7<;>rfl
def M2(l:List m7):Bool:=decide (l.length<=40)&&l.all a0p
theorem c3S{l:List m7}(h:A3 96 T7 l):a7m l=some (M2 l):=by
 unfold a7m M2;rw [show (40:Int)=((40:Nat):Int) from rfl,b04,R1 l (h.fits (by decide)) a0p false ()]
 ·cases decide (l.length<=40)
  ·rfl
  ·cases l.all a0p<;>rfl
 ·intro k hk;unfold b9f;rw [x8 _ k hk,t9 hk];simp only [cond_true,f5i,f4b (h.2 _ (f5l hk))];cases a0p l[k]<;>rfl
 ·unfold b9f;rw [z9];rfl
theorem b3m{l:List m7}(h:A3 96 T7 l):a60 l=some (M2 l):=by
 unfold a60 M2 c4C;rw [show (40:Int)=((40:Nat):Int) from rfl,c0F,R1 l (h.fits (by decide)) a0p false ()]
 ·cases l.all a0p<;>cases decide (l.length<=40)<;>rfl
 ·intro k hk;unfold b79;rw [x8 _ k hk,t9 hk];simp only [cond_true,f5i,f0b (h.2 _ (f5l hk))];cases a0p l[k]<;>rfl
 ·unfold b79;rw [z9];rfl
def O8(a:z0):Bool:=p9 a.g9 0 3000&&(M2 a.a6&&a.a6.all fun v => !decide (v.a7>a.g9))
theorem f3R{a:z0}(h:a7a a):b5k a=some (O8 a):=by
 unfold b5k O8;rw [rng,c3S h.2,R1 a.a6 (h.2.fits (by decide)) (fun v => !decide (v.a7>a.g9)) false ()]
 ·simp only [f5i];cases p9 a.g9 0 3000<;>cases M2 a.a6<;>cases a.a6.all (fun v => !decide (v.a7>a.g9))<;>rfl
 ·intro k hk;unfold b9e;rw [x8 _ k hk,t9 hk];simp only [cond_true,f5i];cases decide (a.a6[k].a7>a.g9)<;>rfl
 ·unfold b9e;rw [z9];rfl
theorem d0W{a:z0}(h:a7a a):b0G a=some (O8 a):=by
 unfold b0G O8;rw [R1 a.a6 (h.2.fits (by decide)) (fun v => !decide (v.a7>a.g9)) false ()]
 ·unfold c3k;simp only [M7,b3m h.2,f5i];cases p9 a.g9 0 3000<;>cases M2 a.a6<;>cases a.a6.all (fun v => !decide (v.a7>a.g9))<;>rfl
 ·intro k hk;unfold b9O;rw [x8 _ k hk,t9 hk];simp only [cond_true,f5i];cases decide (a.a6[k].a7>a.g9)<;>rfl
 ·unfold b9O;rw [z9];rfl
theorem e6W(i:n8):b9D i=some (R0 i):=by
 unfold b9D R0 a3h b5w;simp only [M7,f5i];cases i.a8==1<;>cases i.a8==2<;>cases i.a8==3<;>cases i.a8==4<;>cases i.a8==5<;>cases i.a8==6<;>cases i.a8==7<;>cases p9 i.A 0 3<;>cases p9 i.B 0 3<;>cases i.A==0<;>cases i.B==0<;>rfl
theorem b8y{l:List n8}(h:s9 l):a8D l=some (E2 l):=by
 unfold a8D E2 c2j;rw [show (10:Int)=((10:Nat):Int) from rfl,c0F,R1 l h R0 false ()]
 ·cases l.all R0<;>cases decide (l.length<=10)<;>rfl
 ·intro k hk;unfold b6V;rw [x8 _ k hk,t9 hk];simp only [cond_true,f5i,e6W];cases R0 l[k]<;>rfl
 ·unfold b6V;rw [z9];rfl
def Z2(b:Int):Int:=bif p9 b 1 3000 then f5K b 3 else -1
theorem f0O(b:Int):b0r b=some (Z2 b):=by
 unfold b0r Z2;rw [b0b,f5i];cases p9 b 1 3000<;>rfl
theorem d6e(b:Int):b4H b=some (Z2 b):=by
 unfold b4H Z2;rw [M7,f5i];cases p9 b 1 3000<;>rfl
def b5d(l:List Bool)(id:Int):Bool:=(idx l id).getD false
def a5q(l:List Bool)(id:Int):Bool:=((l.length:Int)==3)&&b5d l id
theorem d4q{l:List Bool}{id:Int}(h:p9 id 0 2=true)(hl:((l.length:Int)==3)=true):idx l id=some (b5d l id):=by
 unfold p9 at h;simp only [decide_eq_true_eq] at h;simp only [beq_iff_eq] at hl;unfold b5d idx;rw [if_pos h.1,f5j (by omega)];rfl
theorem f2W{l:List Bool}{id:Int}(h:p9 id 0 2=true)(x:Bool):(bif ((l.length:Int)==3) then (idx l id).bind fun y=>some (y&&x) else some false)=some (a5q l id&&x):=by
 unfold a5q;cases hl:((l.length:Int)==3)
 ·rfl
 ·rw [d4q h hl];rfl
theorem d7T{l:List Bool}{id:Int}(h:p9 id 0 2=true):b2n l id=some (a5q l id):=by
 unfold b2n a5q;cases hl:((l.length:Int)==3)
 ·rfl
 ·rw [d4q h hl];rfl
def a3S(n:j6):Bool:=Z3 n.d6 zE&&((n.a6.length:Int)==0)
def a06(n:j6):Bool :=
  bif n.d8==0 then (n.a7==0)&&(((n.c9.length:Int)==0)&&(((n.i0.length:Int)==0)&&a3S n)) else
  (Z2 n.a7==n.Id)&&(decide (n.a7<=n.Acc.g9)&&(M2 n.i0 &&
    (bif n.d8==1 then a5q n.c9 n.Id&&a3S n else
     bif n.d8==2 then ((n.c9.length:Int)==0)&&a3S n else
     bif n.d8==3 then ((n.c9.length:Int)==0)&&(z5 n.d6&&(a5q n.a6 n.Id&&decide ((n.a5.length:Int)<40))) else false)))
theorem d1k{n:j6}(h:p9 n.Id 0 2=true)(ho:(Z2 n.a7==n.Id)=true):p9 n.a7 1 3000=true:=by
 cases hb:p9 n.a7 1 3000
 ·unfold Z2 at ho;rw [hb] at ho;unfold p9 at h;simp only [decide_eq_true_eq,cond_false,beq_iff_eq] at h ho;omega
 ·rfl
theorem e3z{n:j6}(h:S4 n)(hId:p9 n.Id 0 2=true):b4U n=some (a06 n):=by
 have hj:b4U n=b6k n (a3S n):=by
  unfold b4U a3S;simp only [b5F h.2.2.2.2.2.2.2.2.1,f5i];cases Z3 n.d6 zE<;>rfl
 rw [hj];unfold b6k a06;simp only [d6e,b3m h.2.2.2.2.2.2.2.1,d7T hId,a6E h.2.2.2.2.2.2.2.2.1.f,f5i,a3E];cases n.d8==0
 ·simp only [cond_false];cases n.d8==1<;>cases n.d8==2<;>cases n.d8==3<;>simp only [cond_true,cond_false,b4h,b3o,a5D,f7w]<;>(cases Z2 n.a7==n.Id<;>cases decide (n.a7<=n.Acc.g9)<;>cases M2 n.i0<;>rfl)
 ·rfl
theorem e01{n:j6}(h:S4 n)(hId:p9 n.Id 0 2=true):b41 n=some (a06 n):=by
 unfold b41 a06;simp only [f0O,b0b,c5c h.2.2.2.2.2.2.2.2.1,c3S h.2.2.2.2.2.2.2.1,a4h h.2.2.2.2.2.2.2.2.1.f,f5i,a3E,b4h,f2W hId,b3o,a5D,f7w];have hb:=d1k (n:=n) hId;cases h0:n.d8==0
 ·cases h1:n.d8==1
  ·cases h2:n.d8==2
   ·cases h3:n.d8==3
    ·simp only [cond_false,Bool.and_false]
    ·simp only [cond_false,cond_true,b4h,b3o,a5D,f7w];cases ho:Z2 n.a7==n.Id
     ·simp
     ·rw [hb ho];cases decide (n.a7<=n.Acc.g9)<;>cases M2 n.i0<;>cases ((n.c9.length:Int)==0)<;>rfl
   ·simp only [cond_false,cond_true,b4h,b3o,a5D,f7w];cases ho:Z2 n.a7==n.Id
    ·simp
    ·rw [hb ho];unfold a3S;cases decide (n.a7<=n.Acc.g9)<;>cases M2 n.i0<;>cases ((n.c9.length:Int)==0)<;>rfl
  ·simp only [cond_false,cond_true,b4h,b3o,a5D,f7w];cases ho:Z2 n.a7==n.Id
   ·simp
   ·rw [hb ho];unfold a3S;cases decide (n.a7<=n.Acc.g9)<;>cases M2 n.i0<;>cases a5q n.c9 n.Id<;>rfl
 ·unfold a3S;simp only [cond_true]
def a3Y(n:j6):Bool :=
 bif n.i9 then E2 n.i6&&(z5 n.b8&&(!n.b8.i7&&(([n.b8.a0.b9,n.b8.a0.Seq]:List Int)==[n.Id,n.Seq]))) else ((n.i6.length:Int)==0)&&Z3 n.b8 zE
theorem f09{n:j6}(h:S4 n):b49 n=some (a3Y n):=by
 unfold b49 a3Y;have hw:=h.2.2.2.2.2.2.2.2.2.2.2.1;simp only [c5c hw,b97 (h.2.2.2.2.2.2.2.2.2.2.1.fits (by decide)),a4h hw.f,f5i,a3E];cases n.i9<;>rfl
def b6L(l:List m4):Bool:=l.all fun e=>z5 e && !e.i7
def D8(n:j6):Bool:=p9 n.Id 0 2&&(O8 n.Acc&&(G0 n.a5&&(p9 n.Seq 0 1000&&(decide ((n.f0.length:Int)<=4)&&(a06 n&&(a3Y n&&b6L n.f0))))))
theorem b0e{n:j6}(h:S4 n):a5B n=some (D8 n):=by
 unfold a5B D8;rw [c1s];cases hId:p9 n.Id 0 2
 ·rfl
 ·rw [rng,f3R h.2.1,c8a (okEntries.s h.2.2.1),e01 h hId,f09 h,R1 n.f0 (h.2.2.2.2.2.2.2.2.2.2.2.2.fits (by decide)) (fun e=>z5 e && !e.i7) false ()]
  ·unfold b6L c5C;rw [<-a5D];simp only [f5i,cond_true];cases O8 n.Acc<;>cases G0 n.a5<;>cases p9 n.Seq 0 1000<;>cases decide ((n.f0.length:Int)>4)<;>cases a06 n<;>cases a3Y n<;>cases n.f0.all (fun e=>z5 e && !e.i7)<;>rfl
  ·intro k hk;unfold b7h;rw [x8 _ k hk,t9 hk];simp only [cond_true,f5i,a4h ((h.2.2.2.2.2.2.2.2.2.2.2.2).2 _ (f5l hk)).f];cases z5 n.f0[k]<;>cases n.f0[k].i7<;>rfl
  ·unfold b7h;rw [z9];rfl
theorem a8d{n:j6}(h:S4 n):a4s n=some (D8 n):=by
 unfold a4s D8;rw [M7,f5i];cases hId:p9 n.Id 0 2
 ·rfl
 ·have hw:=h.2.2.2.2.2.2.2.2.2.2.2.1;have hk3:b58 n=some (a3Y n&&a06 n):=by
   unfold b58 c2R a3Y;simp only [b8y (h.2.2.2.2.2.2.2.2.2.2.1.fits (by decide)),a6E hw.f,b5F hw,e3z h hId,f5i];cases n.i9
   ·rw [c7w];cases ((n.i6.length:Int)==0)<;>cases Z3 n.b8 zE<;>rfl
   ·cases E2 n.i6<;>cases z5 n.b8<;>cases n.b8.i7<;>cases (([n.b8.a0.b9,n.b8.a0.Seq]:List Int)==[n.Id,n.Seq])<;>rfl
  rw [d0W h.2.1,c4r (okEntries.s h.2.2.1),M7,hk3,R1 n.f0 (h.2.2.2.2.2.2.2.2.2.2.2.2.fits (by decide)) (fun e=>z5 e && !e.i7) false ()]
  ·unfold b6L;rw [<-a5D];simp only [f5i,f5n,cond_false];cases O8 n.Acc<;>cases G0 n.a5<;>cases p9 n.Seq 0 1000<;>cases decide ((n.f0.length:Int)>4)<;>cases a06 n<;>cases a3Y n<;>cases n.f0.all (fun e=>z5 e && !e.i7)<;>rfl
  ·intro k hk;unfold b7V;rw [x8 _ k hk,t9 hk];simp only [cond_true,f5i,a6E ((h.2.2.2.2.2.2.2.2.2.2.2.2).2 _ (f5l hk)).f];cases z5 n.f0[k]<;>cases n.f0[k].i7<;>rfl
  ·unfold b7V;rw [z9];rfl
def a7c(m:l8):Bool :=
 let bal:=p9 m.a7 1 3000;let non:=Z3 m.i4 zE;let nv:=(m.a6.length:Int)==0;bif m.a8==1 then bal&&(non&&nv) else
 bif m.a8==4 then bal&&(non&&nv) else
 bif m.a8==2 then bal&&(non&&(M2 m.a6&&decide (m8 (m.g8+(m.a6.length:Int))<=40))) else
 bif m.a8==3 then bal&&(decide (m.g8<40)&&(z5 m.i4&&nv)) else
 bif m.a8==5 then (m.a7==0)&&(decide (m.g8<40)&&(z5 m.i4&&nv)) else
 bif m.a8==6 then bal&&((m.g8==0)&&(non&&nv)) else
 bif m.a8==7 then (m.a7==0)&&((m.g8==0)&&(z5 m.i4&&(!m.i4.i7&&nv))) else
 bif m.a8==8 then (m.a7==0)&&(non&&nv) else false
def Q1(m:l8):Bool:=p9 m.c9 0 2&&(p9 m.To 0 2&&(!(m.c9==m.To)&&(p9 m.g8 0 40&&a7c m)))
theorem d29{m:l8}(h:a0j m):b3h m=some (Q1 m):=by
 unfold b3h Q1 a7c;have he:=h.2.2.2.2.2.1;simp only [M7,b5F he,a6E he.f,b3m h.2.2.2.2.2.2,f5i,a3E];cases p9 m.c9 0 2
 ·rfl
 cases p9 m.To 0 2
 ·rfl
 cases m.c9==m.To;case true=>rfl
 cases p9 m.g8 0 40
 ·rfl
 cases m.a8==1<;>cases m.a8==4<;>cases m.a8==2<;>cases m.a8==3<;>cases m.a8==5<;>cases m.a8==6<;>cases m.a8==7<;>cases m.a8==8<;>rfl
theorem d7S{m:l8}(h:a0j m):b9q m=some (Q1 m):=by
 unfold b9q Q1;have he:=h.2.2.2.2.2.1;have hj2:b9H m=b20 m (Z3 m.i4 zE) (z5 m.i4&&decide (m.g8<40)):=by
  unfold b9H;simp only [c5c he,a4h he.f,f5i];cases z5 m.i4<;>rfl
 have hj:∀nv:Bool,nv=((m.a6.length:Int)==0)->(m.a8==2||nv)=true->b20 m (Z3 m.i4 zE) (z5 m.i4&&decide (m.g8<40))=some (a7c m):=by
  intro nv hnv hk;unfold b20 a7c;simp only [b0b,c3S h.2.2.2.2.2.2,a4h he.f,f5i,a3E];rw [<-hnv];cases h1:m.a8==1;case true =>
   have:(m.a8==2)=false:=by
    simp only [beq_iff_eq] at h1;rw [h1];rfl
   rw [this,f5R] at hk;simp only [cond_true,hk,f6A]
  cases h2:m.a8==2;case true =>
   cases h4:m.a8==4
   ·rfl
   ·simp only [beq_iff_eq] at h2 h4;omega
  rw [h2,f5R] at hk;subst hk;cases h3:m.a8==3;case true =>
   cases h4:m.a8==4
   ·simp only [cond_true,cond_false,f6A];cases p9 m.a7 1 3000<;>cases z5 m.i4<;>cases decide (m.g8<40)<;>rfl
   ·simp only [beq_iff_eq] at h3 h4;omega
  cases h4:m.a8==4;case true=>simp only [cond_true,cond_false,f6A]
  simp only [cond_false];cases m.a8==5;case true =>
   simp only [cond_true,f6A];cases m.a7==0<;>cases z5 m.i4<;>cases decide (m.g8<40)<;>rfl
  simp only [cond_false];cases m.a8==6;case true =>
   simp only [cond_true,f6A];cases p9 m.a7 1 3000<;>cases Z3 m.i4 zE<;>cases m.g8==0<;>rfl
  cases m.a8==7<;>cases m.a8==8<;>simp only [cond_true,cond_false,f6A,f5v,Bool.false_and]
 rw [hj2,c1s];cases p9 m.c9 0 2
 ·rfl
 simp only [cond_true,f5v];rw [c1s];cases p9 m.To 0 2
 ·rfl
 simp only [cond_true,f5v];cases m.c9==m.To;case true=>rfl
 simp only [cond_false,f5J,f5v];rw [rng];cases p9 m.g8 0 40
 ·rfl
 simp only [cond_true,f5v];rw [c7w];cases h2:m.a8==2
 ·rw [show (m.a8 != 2)=true from by rw [bne,h2];rfl];cases hv:((m.a6.length:Int)==0)
  ·show some false=_
   have:a7c m=false:=by
    unfold a7c;rw [h2,hv];simp
   rw [this]
  ·exact hj true hv.symm (by simp)
 ·rw [show (m.a8 != 2)=false from by rw [bne,h2];rfl];exact hj _ rfl (by rw [h2];rfl)
def S0(t:n5):Bool:=p9 t.Node 0 2&&((p9 t.a0.b9 0 2&&p9 t.a0.Seq 1 1000)&&((t.a0.b9==t.Node)&&(p9 t.Code 0 4&&p9 t.d9 (-1000000) 1000000)))
theorem e8x(t:n5):b9l t=some (S0 t):=by
 unfold b9l S0;simp only [c2i,a6R,f5i,a3E];have e1:p9 t.Node 0 2=(decide (t.Node>=0)&&decide (t.Node<3)):=by
  unfold p9;by_cases h1:t.Node>=0<;>by_cases h2:t.Node<3<;>simp [h1,h2]<;>omega
 have e2:p9 t.Code 0 4=(decide (t.Code>=0)&&decide (t.Code<=4)):=by
  unfold p9;by_cases h1:t.Code>=0<;>by_cases h2:t.Code<=4<;>simp [h1,h2]<;>omega
 rw [e1,e2];simp only [f6Y]
def a0m(x:x6):Bool:=(p9 x.a0.b9 0 2&&p9 x.a0.Seq 1 1000)&&E2 x.i6
def a3z(w:m5)(k:Nat):Bool:=match w.a9[k]? with
 | some n=>(n.Id==(k:Int))&&D8 n
 | none=>true
def C9(w:m5):Bool:=((w.a9.length:Int)==3)&&(decide ((w.c8.length:Int)<=40)&&(decide ((w.d7.length:Int)<=60)&&(decide ((w.Told.length:Int)<=60)&&((f5q w.a9.length).all (a3z w)&&(w.c8.all Q1&&(w.d7.all a0m&&w.Told.all S0))))))
end
end Go.Proofs.YtobfemcdchmgeaaGreat
