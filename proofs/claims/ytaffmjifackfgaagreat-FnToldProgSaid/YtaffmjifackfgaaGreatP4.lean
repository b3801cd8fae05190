/- Abstract values and states of the program, functions of the program and what their calls come to, and what follows from it: part 4 of the text that the law leans on; long names are written short. -/
import Derived.Test.YtaffmjifackfgaaGreatP3
import Derived.IntWalk
set_option linter.unusedVariables false
set_option linter.unusedSimpArgs false
set_option linter.unnecessarySimpa false
namespace Go.Proofs.YtaffmjifackfgaaGreat
open Go
open Option renaming bind_some → e9J, map_some → f0J, getD_some → f0R, map_eq_some_iff → f0X
open List renaming getElem?_eq_getElem → e9K, replicate → e9L, getElem_mem → e9M, getElem?_eq_some_iff → e9P, mem_singleton → e9Q, mem_cons → e9R, nodup_append → e9S, length_append → e9T, range → e9U, eq_nil_of_length_eq_zero → e9V, mem_of_getElem? → e9W, getD_eq_getElem?_getD → e9X, append_assoc → e9Y, getElem?_append_right → e9Z, getElem?_set_ne → e90, drop_eq_nil_of_le → e91, getElem?_append_left → e94, length_take → e96, drop_eq_getElem_cons → e97, flatten_cons → f0a, getElem?_eq_none → f0c, map_cons → f0e, take_length → f0f, take_of_length_le → f0g, take_append_of_le_length → f0h, take_succ_eq_append_getElem → f0j, mem_of_mem_take → f0l, append_nil → f0m, mem_replicate → f0n, pairwise_iff_getElem → f0o, take_zero → f0p, nil_append → f0r, take_append_drop → f0s, mem_flatten → f0t, mem_of_mem_drop → f0u, length_cons → f0w, getElem_of_mem → f0x, length_singleton → f0y, getElem?_map → f0z, any_eq_false → f0A, getElem?_cons_zero → f0B, length_map → f0D, getElem?_set_self → f0F, mem_range → f0H, getElem?_cons_succ → f0I, drop_zero → f0N, length_set → f0O, nodup_cons → f0P, findIdx?_eq_some_iff_getElem → f0Q, pairwise_cons → f0T, mem_take_iff_getElem → f0U, map_append → f0V, getElem?_drop → f0Y, getElem?_take → f0Z, length_nil → f01, getElem?_set → f02, sublist_append_right → f04, getElem?_of_mem → f05, pairwise_append → f06, mem_append_left → f07, Perm → f09, drop_drop → f1a, any_eq_true → f1b, take_succ_cons → f1d, replicate_succ → f1e, foldl_cons → f1f, drop_append_of_le_length → f1g, size_toArray → f1h, all_eq_false → f1i, toArray → f1j, map_map → f1k, Sublist → f1l, set_getElem_self → f1n, length_replicate → f1o, getElem?_append → f1p, cons_append → f1q, mem_cons_of_mem → f1s, flatten_append → f1t, mem_of_find?_eq_some → f1u, foldl_nil → f1w
open Bool renaming and_eq_true → e9N, not_true → e9O, true_and → e93, not_false → e98, false_or → f0i, or_eq_false_iff → f0E, not_eq_true' → f0G, false_eq_true → f0L, and_true → f0M, true_or → f1c, and_assoc → f1m
open Int renaming toNat_natCast → e92, tmod → e99, le_refl → f0b, le_trans → f0q, tdiv → f1r
open Nat renaming mul_le_mul_right → e95, le_refl → f0d, eq_of_beq_eq_true → f0k, zero_add → f0v, succ_mul → f0C, lt_of_lt_of_le → f0S, le_mul_of_pos_right → f0W, add_zero → f00, le_succ_of_le → f03, zero_le → f08, sub_zero → f1v
open Option.some renaming inj → f0K
noncomputable section
def d3F(s_:v6)(e_:m4)(box:List q9)(v45:Int):Unit->KS:=fun _=>⟨O7.k 8 [false,false,true,false],(bs 2 (.ptr 1 0 0::(.ptr 2 0 0::(.ptr 3 0 0::(bs 1 (.ptr 4 0 0::(bs 36 (l7 4 B3 s_.i9::(vi (s_.i9.length:Int)::(vi v45::(bs 106 []))))))))))),[some [],some [.var 52 [vi s_.At,l7 2 z5 s_.i4,l7 4 B3 s_.i9]],some [.var 43 (a4D e_)],some [.var 52 [vi 0,.nil,.nil]],some [.var 52 [vi (m8 (s_.At+1)),.own 5 0 2 0 box.length,.nil]],some [m5 95 2 z5 box]]⟩
def c2n(v45:Int):Option (l8 (v6×Int) Int Unit) :=
 some (l8.nxt (m8 (v45+1)))
theorem d37(s_ e_ box v45)(lc:I5 O7 (c1g s_ e_ box) (c9H s_ e_ box)):NL lc (d3F s_ e_ box v45) (fun s=>c2n v45):=fun _ h=>PK<|rg<|(lc.nx h fun hI=>sk [] [2,3,4,6,43,44,45] [(1,0),(2,0),(3,0),(4,0),(5,0)] hI)
def b5i(s_:v6)(e_:m4)(box:List q9)(v45:Int):Option (l8 (v6×Int) Int Unit) :=
 (bif decide (v45<(s_.i9.length:Int)) then ((idx s_.i9 v45).bind fun b6l=>(((bif (b6l.a5.d8==e_.a5.d8) then (bif decide (b6l.a5.Seq>=e_.a5.Seq) then ((a42 s_.i9).bind fun b1d=>(bif (b6l.a5.Seq==e_.a5.Seq) then some (l9.ret (l8.ret ((v6.mk (m8 (s_.At+1)) box b1d),3))) else some (l9.ret (l8.ret ((v6.mk (m8 (s_.At+1)) box b1d),4))))) else some (l9.brk ())) else some (l9.brk ())):Option (l9 (l8 (v6×Int) Int Unit) Unit)).bind fun x=>x.go some fun j=>c2n v45)) else some (l8.brk ()))
theorem e1b(s_ e_ box):LQ O7 (c1g s_ e_ box) (c9H s_ e_ box) (fun s=>b5i s_ e_ box s):=fun lc v45 h=>PK<|rg<|j5 0 h (fun h=>rg<|w9 B3 0 h fun b6l e9C h=>B2 h (d37 s_ e_ box v45 lc) fun x2 h hc2=>rg<|j5 7 h (fun h=>j5 15 h (fun h=>rg<|j9 b2K b9q 2 h fun b1d h=>rg<|j5 6 h (fun h=>rg<|(B7 h hc2 fun h=>C2 box b1d<|fL lc h)) (fun h=>rg<|(B7 h hc2 fun h=>C2 box b1d<|fL lc h))) (fun h=>(o8 h hc2 fun hI=>sk [] [2,3,4,6,43,44,45] [(1,0),(2,0),(3,0),(4,0),(5,0)] hI))) (fun h=>(o8 h hc2 fun hI=>sk [] [2,3,4,6,43,44,45] [(1,0),(2,0),(3,0),(4,0),(5,0)] hI))) (fun h=>(lc.bk h fun hI=>sk [] [2,3,4,6] [(1,0),(2,0),(3,0),(4,0),(5,0)] hI))
def b7H(s_:v6)(e_:m4):Option (v6×Int) :=
 ((b31 s_).bind fun d1Q=>(bif (!d1Q) then some ((v6.mk 0 [] []),(-1)) else ((a1z e_).bind fun D7=>(bif (!D7) then some ((v6.mk 0 [] []),(-1)) else (bif (s_.At==40) then some ((v6.mk 0 [] []),(-1)) else ((a8B s_.i4).bind fun box=>(bif e_.i8 then ((a42 s_.i9).bind fun done=>some ((v6.mk (m8 (s_.At+1)) box done),5)) else ((p8 (fun s:Int=>b5i s_ e_ box s) 0).bind fun x=>x.go (fun r=>some r) fun s=>b5Z s_ e_ box))))))))
theorem e9v{s_ e_}:OK O7 [.agg (a7O s_),.agg (t0 e_)] (b7H s_ e_) :=
 n8 _ fun r h=>n6<|j9 a4B e5E 1 h fun d1Q h=>j5 3 h (fun h=>rg<|fE h) (fun h=>j9 a2g a3L 5 h fun D7 h=>j5 8 h (fun h=>rg<|fE h) (fun h=>j5 12 h (fun h=>rg<|fE h) (fun h=>rg<|j9 c2X c5F 5 h fun box h=>rg<|j5 1 h (fun h=>rg<|j9 b2K b9q 2 h fun done h=>rg<|C2 box done<|fE h) (fun h=>rg<|lp (e1b s_ e_ box) h (fun _ h=>O7.rt h) (d9M s_ e_ box r) fun hI=>sk [] [2,3,4,6,43,44,45] [(1,0),(2,0),(3,0),(25,0),(23,0)] hI))))
def a4R:FS (v6×List Int):=⟨41,Tryz.f41,[.val [none,some 2,some 4] [none,some 95,some 166],.val [some 1] [some 3]],[none],[.val [some 7] []],fun r=>.tup [.agg (b2r r.1),u7 3 1 eI r.2],fun _=>[none],Tryz.func41⟩
def d1N:((List q9)×(List r9)×(List Int)×Int)->KS:=fun (Boxes1,Dones1,codes1,sAt1)=>⟨a4R.k 5 [false],(bs 2 (.ptr 1 0 0::(bs 1 (.ptr 2 0 0::(.own 5 0 1 0 codes1.length::(bs 25 [])))))),[some [],some [.var 52 [vi 0,.nil,.nil]],some [.var 52 [vi sAt1,.own 3 0 2 0 Boxes1.length,.own 4 0 4 0 Dones1.length]],some [m5 95 2 z5 Boxes1],some [m5 166 4 B3 Dones1],some [m5 3 1 eI codes1]]⟩
def c9z(Boxes1:List q9)(Dones1:List r9)(codes1:List Int)(sAt1:Int):Option (v6×List Int) :=
 some ((v6.mk sAt1 Boxes1 Dones1),codes1)
theorem d9z(r):NF a4R r d1N (fun s=>c9z s.1 s.2.1 s.2.2.1 s.2.2.2):=fun (Boxes1,Dones1,codes1,sAt1) h=>PK<|rg<|W0 Boxes1 Dones1 codes1<|fE h
def d8T(list:List m4):((List q9)×(List r9)×(List Int)×Int×Int)->KS:=fun (i4,i9,codes,v13,sAt)=>⟨a4R.k 4 [],(bs 2 (.ptr 1 0 0::(bs 1 (.ptr 2 0 0::(.own 5 0 1 0 codes.length::(bs 5 (l7 7 t0 list::(vi (list.length:Int)::(vi v13::(bs 17 [])))))))))),[some [],some [.var 52 [vi 0,.nil,.nil]],some [.var 52 [vi sAt,.own 3 0 2 0 i4.length,.own 4 0 4 0 i9.length]],some [m5 95 2 z5 i4],some [m5 166 4 B3 i9],some [m5 3 1 eI codes]]⟩
def a0T(list:List m4)(i4:List q9)(i9:List r9)(codes:List Int)(v13:Int)(sAt:Int):Option (l8 (v6×List Int) ((List q9)×(List r9)×(List Int)×Int×Int) ((List q9)×(List r9)×(List Int)×Int)) :=
 (bif decide (v13<(list.length:Int)) then ((idx list v13).bind fun entry=>((b7H (v6.mk sAt i4 i9) entry).bind fun a7w=>(t5 ((codes.length+1)*8<=140737488355328) (some (l8.nxt (a7w.1.i4,a7w.1.i9,codes++[a7w.2],m8 (v13+1),a7w.1.At)))))) else some (l8.brk (i4,i9,codes,sAt)))
theorem d3Q(list):LQ a4R d1N (d8T list) (fun s=>a0T list s.1 s.2.1 s.2.2.1 s.2.2.2.1 s.2.2.2.2):=fun lc (i4,i9,codes,v13,sAt) h=>PK<|rg<|j5 0 h (fun h=>rg<|w9 t0 0 h fun entry H0 h=>rg<|cbS O7 e9v 2 (fun _=>(by simp [O7,M3,T9,O4,V.simple,vi,u7,b2r,z5,B3,eI,Z1,a7O])) (fun _=>(P8 2)) h fun a7w h=>C2 i4 i9<|n6<|tk 2 []<|t6 h fun e1 h=>F7 3 25 3 1 8 eI codes a7w.2 e1<|E5 a7w.2<|rg<|(lc.nx h fun hI=>sk [] [2,4,5,11,12,13] [(1,0),(2,0),(13,0),(13,1),(25,0)] hI)) (fun h=>(lc.bk h fun hI=>sk [] [2,4,5] [(1,0),(2,0),(3,0),(4,0),(5,0)] hI))
def b3x(list:List m4):Option (v6×List Int) :=
 ((b8f).bind fun a0Y=>((p8 (fun s:(List q9)×(List r9)×(List Int)×Int×Int=>a0T list s.1 s.2.1 s.2.2.1 s.2.2.2.1 s.2.2.2.2) (a0Y.i4,a0Y.i9,[],0,a0Y.At)).bind fun x=>x.go (fun r=>some r) fun s=>c9z s.1 s.2.1 s.2.2.1 s.2.2.2))
theorem c83{list}:OK a4R [l7 7 t0 list] (b3x list) :=
 n8 _ fun r h=>n6<|j9 c6u e3o 0 h fun a0Y h=>n6<|lp (d3Q list) h (fun _ h=>a4R.rt h) (d9z r) fun hI=>sk [.own (.tmp 5) 3 1] [2,4,5,11,12,13] [(1,0),(4,0),(3,0),(3,1),(10,0)] hI
def c1b:FS (v6):=⟨14,Tryz.f14,[.val [none,some 2,some 4] [none,some 95,none]],[none],[.val [some 7] []],fun r=>.agg (b0z r),fun _=>[none],Tryz.func14⟩
def b09(list:List m4):Option v6 :=
 ((b2F list).bind fun G5=>(bif (!G5) then some (v6.mk 0 [] []) else ((b3x list).bind fun z4=>some z4.1)))
theorem c7l{list}:OK c1b [l7 7 t0 list] (b09 list) :=
 n8 _ fun r h=>n6<|j9 a5A c4O 1 h fun G5 h=>j5 2 h (fun h=>rg<|fE h) (fun h=>rg<|j9 a4R c83 1 h fun z4 h=>rg<|C2 z4.1.i4 z4.1.i9<|fE h)
def c8u:FS (v6):=⟨139,Tryz.f139,[.val [none,some 2,some 4] []],[none],[.val A3 []],fun r=>.agg (a7O r),fun _=>[none],Tryz.func139⟩
def b7S(n:j6):Option v6 :=
 ((a3B n).bind fun C7=>(bif (!C7) then some (v6.mk 0 [] []) else ((b09 n.a0).bind fun a2W=>some a2W)))
theorem e6d{n}:OK c8u [.agg (A2 n)] (b7S n) :=
 n8 _ fun r h=>n6<|j9 a0z a8j 1 h fun C7 h=>j5 2 h (fun h=>rg<|fE h) (fun h=>rg<|j9 c1b c7l 2 h fun a2W h=>s7 a2W.i4<|fE h)
def a5y:FS (Int):=⟨35,Tryz.f35,[.val [] []],[none,none],[.val N6 [],.val [] []],fun r=>vi r,fun _=>[none,none],Tryz.func35⟩
def c8i:Unit->KS:=fun _=>⟨a5y.k 3 [false],(bs 21 []),[some []]⟩
def c6e:Option Int :=
 some (-1)
theorem e0r(r):NF a5y r c8i (fun s=>c6e):=fun _ h=>PK<|rg<|fE h
def d8E(r_:n5)(box:Int):Int->KS:=fun v10=>⟨a5y.k 2 [],(bs 1 (vi box::(bs 6 (l7 2 u6 r_.b6::(vi (r_.b6.length:Int)::(vi v10::(bs 10 []))))))),[some []]⟩
def b01(r_:n5)(box:Int)(v10:Int):Option (l8 Int Int Unit) :=
 (bif decide (v10<(r_.b6.length:Int)) then ((idx r_.b6 v10).bind fun put=>(bif (put.i6==box) then some (l8.ret v10) else some (l8.nxt (m8 (v10+1))))) else some (l8.brk ()))
theorem e1C(r_ box):LQ a5y c8i (d8E r_ box) (fun s=>b01 r_ box s):=fun lc v10 h=>PK<|rg<|j5 0 h (fun h=>rg<|w9 u6 1 h fun put hput h=>rg<|j5 3 h (fun h=>rg<|fL lc h) (fun h=>rg<|(lc.nx h fun hI=>sk [] [1,8,9,10] [] hI))) (fun h=>(lc.bk h fun hI=>sk [] [] [] hI))
def b0Q(r_:n5)(box:Int):Option Int :=
 ((p8 (fun s:Int=>b01 r_ box s) 0).bind fun x=>x.go (fun r=>some r) fun s=>c6e)
theorem c5L{r_ box}:OK a5y [.agg (P3 r_),vi box] (b0Q r_ box) :=
 n8 _ fun r h=>n6<|lp (e1C r_ box) h (fun _ h=>a5y.rt h) (e0r r) fun hI=>sk [] [1,8,9,10] [] hI
def a6X:FS (Int):=⟨36,Tryz.f36,[.val [] []],[none,none],[.val N6 [],.val [] []],fun r=>vi r,fun _=>[none,none],Tryz.func36⟩
def c6U:Unit->KS:=fun _=>⟨a6X.k 3 [false],(bs 21 []),[some []]⟩
def c6P:Option Int :=
 some (-1)
theorem e0P(r):NF a6X r c6U (fun s=>c6P):=fun _ h=>PK<|rg<|fE h
def e2W(r_:n5)(box:Int):Int->KS:=fun v10=>⟨a6X.k 2 [],(bs 1 (vi box::(bs 6 (l7 2 u5 r_.b5::(vi (r_.b5.length:Int)::(vi v10::(bs 10 []))))))),[some []]⟩
def b1R(r_:n5)(box:Int)(v10:Int):Option (l8 Int Int Unit) :=
 (bif decide (v10<(r_.b5.length:Int)) then ((idx r_.b5 v10).bind fun read=>(bif (read.i6==box) then some (l8.ret v10) else some (l8.nxt (m8 (v10+1))))) else some (l8.brk ()))
theorem d8P(r_ box):LQ a6X c6U (e2W r_ box) (fun s=>b1R r_ box s):=fun lc v10 h=>PK<|rg<|j5 0 h (fun h=>rg<|w9 u5 1 h fun read a3I h=>rg<|j5 3 h (fun h=>rg<|fL lc h) (fun h=>rg<|(lc.nx h fun hI=>sk [] [1,8,9,10] [] hI))) (fun h=>(lc.bk h fun hI=>sk [] [] [] hI))
def b26(r_:n5)(box:Int):Option Int :=
 ((p8 (fun s:Int=>b1R r_ box s) 0).bind fun x=>x.go (fun r=>some r) fun s=>c6P)
theorem d6m{r_ box}:OK a6X [.agg (P3 r_),vi box] (b26 r_ box) :=
 n8 _ fun r h=>n6<|lp (d8P r_ box) h (fun _ h=>a6X.rt h) (e0P r) fun hI=>sk [] [1,8,9,10] [] hI
def O3:FS (n5):=⟨13,Tryz.f13,[.val N6 []],[none,none],[.val [some 2] [],.val [some 4] []],fun r=>.agg (P3 r),fun _=>[none,none],Tryz.func13⟩
def a7T:((List p9)×(List n9)×(List Int)×(List p9)×List n9)->KS:=fun (Reads2,Puts2,regs1,Reads3,Puts3)=>⟨O3.k 6 [false,false],(bs 4 (.ptr 1 0 0::(.ptr 4 0 0::(.ptr 5 0 0::(bs 175 []))))),[some [],some [.var 41 [.own 2 0 2 0 Reads2.length,.own 3 0 2 0 Puts2.length,vi 0,vi 0]],some [m5 86 2 u5 Reads2],some [m5 89 2 u6 Puts2],some [.arr 92 1 4 (regs1.map eI)],some [.var 41 [.own 6 0 2 0 Reads3.length,.own 7 0 2 0 Puts3.length,vi 0,vi 0]],some [m5 86 2 u5 Reads3],some [m5 89 2 u6 Puts3]]⟩
def b04(Reads2:List p9)(Puts2:List n9)(regs1:List Int)(Reads3:List p9)(Puts3:List n9):Option n5 :=
 ((a2M Reads3).bind fun read=>((a6L Puts3).bind fun put=>((idx regs1 0).bind fun y=>(t5 ((0:Int)<4) (some (n5.mk read put y 0))))))
theorem e38(r):NF O3 r a7T (fun s=>b04 s.1 s.2.1 s.2.2.1 s.2.2.2.1 s.2.2.2.2):=fun (Reads2,Puts2,regs1,Reads3,Puts3) h=>PK<|rg<|cbS a1Y b0p 2 (fun _=>(by simp [a1Y,M3,T9,O4,V.simple,vi,u7,eI,u5])) (fun _=>(P8 1)) h fun read h=>s7 Reads3<|cbS b5P d1n 5 (fun _=>(by simp [b5P,M3,T9,O4,V.simple,vi,u7,eI,u6])) (fun _=>(P8 1)) h fun put h=>s7 Puts3<|A6 h fun y hy h=>t6 h fun e1 h=>ob (N2 hy)<|ob e1<|ob (T0 (enc:=eI) hy)<|tl (tr 7 (eI y))<|C2 read put<|fE h
def a9Z(list:List q9)(prog:List o9):((List Int)×(List p9)×(List n9)×(List p9)×(List n9)×Int)->KS:=fun (regs,b5,b6,Reads1,Puts1,at_)=>⟨O3.k 5 [false],(l7 2 z5 list::(l7 4 z6 prog::(bs 2 (.ptr 1 0 0::(.ptr 2 0 0::(.ptr 3 0 0::(vi at_::(bs 174 [])))))))),[some [],some [.var 41 [.own 4 0 2 0 b5.length,.own 5 0 2 0 b6.length,vi 0,vi 0]],some [.arr 92 1 4 (regs.map eI)],some [.var 41 [.own 6 0 2 0 Reads1.length,.own 7 0 2 0 Puts1.length,vi 0,vi 0]],some [m5 86 2 u5 b5],some [m5 89 2 u6 b6],some [m5 86 2 u5 Reads1],some [m5 89 2 u6 Puts1]]⟩
def d0G(list:List q9)(prog:List o9)(regs:List Int)(b5:List p9)(b6:List n9)(Reads1:List p9)(Puts1:List n9)(at_:Int)(ins:o9)(put1:n9):Unit->KS:=fun _=>⟨O3.k 14 [false,true,true,true,false],(l7 2 z5 list::(l7 4 z6 prog::(bs 2 (.ptr 1 0 0::(.ptr 4 0 0::(.ptr 5 0 0::(vi at_::(bs 174 [])))))))),[some [],some [.var 41 [.own 2 0 2 0 b5.length,.own 3 0 2 0 b6.length,vi 0,vi 0]],some [m5 86 2 u5 b5],some [m5 89 2 u6 b6],some [.arr 92 1 4 ((regs.set ins.A.toNat put1.f0).map eI)],some [.var 41 [.own 6 0 2 0 Reads1.length,.own 7 0 2 0 Puts1.length,vi 0,vi 0]],some [m5 86 2 u5 Reads1],some [m5 89 2 u6 Puts1]]⟩
def c2K(regs:List Int)(b5:List p9)(b6:List n9)(Reads1:List p9)(Puts1:List n9)(at_:Int)(ins:o9)(put1:n9):Option (l8 n5 ((List Int)×(List p9)×(List n9)×(List p9)×(List n9)×Int) ((List p9)×(List n9)×(List Int)×(List p9)×List n9)) :=
 some (l8.nxt (regs.set ins.A.toNat put1.f0,b5,b6,Reads1,Puts1,m8 (at_+1)))
theorem d9x(list prog regs b5 b6 Reads1 Puts1 at_ ins put1)(lc:I5 O3 a7T (a9Z list prog)):NL lc (d0G list prog regs b5 b6 Reads1 Puts1 at_ ins put1) (fun s=>c2K regs b5 b6 Reads1 Puts1 at_ ins put1):=fun _ h=>PK<|rg<|(lc.nx h fun hI=>sk [] [0,1,4,5,6,7] [(1,0),(4,0),(5,0),(2,0),(3,0),(6,0),(7,0)] hI)
def e9z(list:List q9)(prog:List o9)(regs:List Int)(b5:List p9)(b6:List n9)(Reads1:List p9)(Puts1:List n9)(at_:Int)(ins:o9)(put1:n9):Int->KS:=fun a5F=>⟨O3.k 13 [false,true,true,true],(l7 2 z5 list::(l7 4 z6 prog::(bs 2 (.ptr 1 0 0::(.ptr 4 0 0::(.ptr 5 0 0::(vi at_::(bs 153 (.agg ((regs.set ins.A.toNat put1.f0).map eI).flatten::(vi a5F::(bs 19 []))))))))))),[some [],some [.var 41 [.own 2 0 2 0 b5.length,.own 3 0 2 0 b6.length,vi 0,vi 0]],some [m5 86 2 u5 b5],some [m5 89 2 u6 b6],some [.arr 92 1 4 ((regs.set ins.A.toNat put1.f0).map eI)],some [.var 41 [.own 6 0 2 0 Reads1.length,.own 7 0 2 0 Puts1.length,vi 0,vi 0]],some [m5 86 2 u5 Reads1],some [m5 89 2 u6 Puts1]]⟩
def b25(regs:List Int)(Reads1:List p9)(ins:o9)(put1:n9)(a5F:Int):Option (l8 n5 Int Unit) :=
 (bif decide (a5F<4) then ((idx (regs.set ins.A.toNat put1.f0) a5F).bind fun y2=>(t5 (a5F<4) (((C5 y2 (-1000000) 1000000).bind fun in_=>(bif (!in_) then ((a2M Reads1).bind fun Q0=>some (l8.ret (n5.mk Q0 [] 0 2))) else some (l8.nxt (m8 (a5F+1)))))))) else some (l8.brk ()))
theorem d9u(list prog regs b5 b6 Reads1 Puts1 at_ ins put1):LQ O3 (d0G list prog regs b5 b6 Reads1 Puts1 at_ ins put1) (e9z list prog regs b5 b6 Reads1 Puts1 at_ ins put1) (fun s=>b25 regs Reads1 ins put1 s):=fun lc a5F h=>PK<|rg<|j5 0 h (fun h=>rg<|A6 h fun y2 hy2 h=>t6 h fun e3 h=>ob (N2 hy2)<|ob e3<|om (((regs.set ins.A.toNat put1.f0).map eI).flatten[a5F.toNat]?=some (vi y2)) (c2O (fun _=>rfl) hy2)<|tl (0,{a:=.val (vi y2)})<|rg<|j9 C3 D8 1 h fun in_ h=>j5 2 h (fun h=>rg<|cbS a1Y b0p 2 (fun _=>(by simp [a1Y,M3,T9,O4,V.simple,vi,u7,eI,u5])) (fun _=>(P8 1)) h fun Q0 h=>C2 Reads1 Q0<|fL lc h) (fun h=>rg<|(lc.nx h fun hI=>om (V.agg (((regs.set ins.A.toNat put1.f0).map eI).flatten.map (U5 [(1,0),(2,0),(3,0),(4,0),(5,0),(6,0),(7,0)]))=.agg ((regs.set ins.A.toNat put1.f0).map eI).flatten) (congrArg V.agg (a7R (fun _=>rfl) _))<|skT [] [0,1,4,5,6,7,161,162] [(1,0),(2,0),(3,0),(4,0),(5,0),(6,0),(7,0)] [(161,.agg ((regs.set ins.A.toNat put1.f0).map eI).flatten)] hI))) (fun h=>(lc.bk h fun hI=>sk [] [0,1,4,5,6,7] [(1,0),(2,0),(3,0),(4,0),(5,0),(6,0),(7,0)] hI))
def e7p(list:List q9)(prog:List o9)(regs:List Int)(b5:List p9)(b6:List n9)(Puts1:List n9)(at_:Int)(ins:o9):(List p9)->KS:=fun Reads4=>⟨O3.k 13 [false,true,true,false,true],(l7 2 z5 list::(l7 4 z6 prog::(bs 2 (.ptr 1 0 0::(.ptr 4 0 0::(.ptr 5 0 0::(vi at_::(.ptr 8 0 0::(bs 173 []))))))))),[some [],some [.var 41 [.own 2 0 2 0 b5.length,.own 3 0 2 0 b6.length,vi 0,vi 0]],some [m5 86 2 u5 b5],some [m5 89 2 u6 b6],some [.arr 92 1 4 (regs.map eI)],some [.var 41 [.own 6 0 2 0 Reads4.length,.own 7 0 2 0 Puts1.length,vi 0,vi 0]],some [m5 86 2 u5 Reads4],some [m5 89 2 u6 Puts1],some [.var 83 [vi ins.a8,vi ins.A,vi ins.B,vi ins.N]]]⟩
def c47(list:List q9)(prog:List o9)(regs:List Int)(b5:List p9)(b6:List n9)(Puts1:List n9)(at_:Int)(ins:o9)(Reads4:List p9)(box:q9):Unit->KS:=fun _=>⟨O3.k 16 [false,true,true,false,true,false],(l7 2 z5 list::(l7 4 z6 prog::(bs 2 (.ptr 1 0 0::(.ptr 4 0 0::(.ptr 5 0 0::(vi at_::(bs 174 [])))))))),[some [],some [.var 41 [.own 2 0 2 0 b5.length,.own 3 0 2 0 b6.length,vi 0,vi 0]],some [m5 86 2 u5 b5],some [m5 89 2 u6 b6],some [.arr 92 1 4 ((regs.set ins.A.toNat box.f0).map eI)],some [.var 41 [.own 6 0 2 0 Reads4.length,.own 7 0 2 0 Puts1.length,vi 0,vi 0]],some [m5 86 2 u5 Reads4],some [m5 89 2 u6 Puts1]]⟩
def b7E(regs:List Int)(b5:List p9)(b6:List n9)(Puts1:List n9)(at_:Int)(ins:o9)(Reads4:List p9)(box:q9):Option (l8 n5 ((List Int)×(List p9)×(List n9)×(List p9)×(List n9)×Int) ((List p9)×(List n9)×(List Int)×(List p9)×List n9)) :=
 some (l8.nxt (regs.set ins.A.toNat box.f0,b5,b6,Reads4,Puts1,m8 (at_+1)))
theorem d7M(list prog regs b5 b6 Puts1 at_ ins Reads4 box)(lc:I5 O3 a7T (a9Z list prog)):NL lc (c47 list prog regs b5 b6 Puts1 at_ ins Reads4 box) (fun s=>b7E regs b5 b6 Puts1 at_ ins Reads4 box):=fun _ h=>PK<|rg<|(lc.nx h fun hI=>sk [] [0,1,4,5,6,7] [(1,0),(4,0),(5,0),(2,0),(3,0),(6,0),(7,0)] hI)
def e36(list:List q9)(prog:List o9)(regs:List Int)(b5:List p9)(b6:List n9)(Puts1:List n9)(at_:Int)(ins:o9)(Reads4:List p9)(box:q9):Int->KS:=fun a55=>⟨O3.k 15 [false,true,true,false,true],(l7 2 z5 list::(l7 4 z6 prog::(bs 2 (.ptr 1 0 0::(.ptr 4 0 0::(.ptr 5 0 0::(vi at_::(bs 153 (.agg ((regs.set ins.A.toNat box.f0).map eI).flatten::(vi a55::(bs 19 []))))))))))),[some [],some [.var 41 [.own 2 0 2 0 b5.length,.own 3 0 2 0 b6.length,vi 0,vi 0]],some [m5 86 2 u5 b5],some [m5 89 2 u6 b6],some [.arr 92 1 4 ((regs.set ins.A.toNat box.f0).map eI)],some [.var 41 [.own 6 0 2 0 Reads4.length,.own 7 0 2 0 Puts1.length,vi 0,vi 0]],some [m5 86 2 u5 Reads4],some [m5 89 2 u6 Puts1]]⟩
def b0L(regs:List Int)(ins:o9)(Reads4:List p9)(box:q9)(a55:Int):Option (l8 n5 Int Unit) :=
 (bif decide (a55<4) then ((idx (regs.set ins.A.toNat box.f0) a55).bind fun y4=>(t5 (a55<4) (((C5 y4 (-1000000) 1000000).bind fun in_1=>(bif (!in_1) then ((a2M Reads4).bind fun b9J=>some (l8.ret (n5.mk b9J [] 0 2))) else some (l8.nxt (m8 (a55+1)))))))) else some (l8.brk ()))
theorem e8s(list prog regs b5 b6 Puts1 at_ ins Reads4 box):LQ O3 (c47 list prog regs b5 b6 Puts1 at_ ins Reads4 box) (e36 list prog regs b5 b6 Puts1 at_ ins Reads4 box) (fun s=>b0L regs ins Reads4 box s):=fun lc a55 h=>PK<|rg<|j5 0 h (fun h=>rg<|A6 h fun y4 hy4 h=>t6 h fun e5 h=>ob (N2 hy4)<|ob e5<|om (((regs.set ins.A.toNat box.f0).map eI).flatten[a55.toNat]?=some (vi y4)) (c2O (fun _=>rfl) hy4)<|tl (0,{a:=.val (vi y4)})<|rg<|j9 C3 D8 1 h fun in_1 h=>j5 2 h (fun h=>rg<|cbS a1Y b0p 2 (fun _=>(by simp [a1Y,M3,T9,O4,V.simple,vi,u7,eI,u5])) (fun _=>(P8 1)) h fun b9J h=>C2 Reads4 b9J<|fL lc h) (fun h=>rg<|(lc.nx h fun hI=>om (V.agg (((regs.set ins.A.toNat box.f0).map eI).flatten.map (U5 [(1,0),(2,0),(3,0),(4,0),(5,0),(6,0),(7,0)]))=.agg ((regs.set ins.A.toNat box.f0).map eI).flatten) (congrArg V.agg (a7R (fun _=>rfl) _))<|skT [] [0,1,4,5,6,7,161,162] [(1,0),(2,0),(3,0),(4,0),(5,0),(6,0),(7,0)] [(161,.agg ((regs.set ins.A.toNat box.f0).map eI).flatten)] hI))) (fun h=>(lc.bk h fun hI=>sk [] [0,1,4,5,6,7] [(1,0),(2,0),(3,0),(4,0),(5,0),(6,0),(7,0)] hI))
def b7W(list:List q9)(regs:List Int)(b5:List p9)(b6:List n9)(Puts1:List n9)(at_:Int)(ins:o9)(Reads4:List p9):Option (l8 n5 ((List Int)×(List p9)×(List n9)×(List p9)×(List n9)×Int) ((List p9)×(List n9)×(List Int)×(List p9)×List n9)) :=
 ((idx list ins.B).bind fun box=>((idx regs ins.A).bind fun y3=>(t5 (ins.A<4) (((p8 (fun s:Int=>b0L regs ins Reads4 box s) 0).bind fun x=>x.go (fun r=>some (l8.ret r)) fun s=>b7E regs b5 b6 Puts1 at_ ins Reads4 box)))))
theorem e2k(list prog regs b5 b6 Puts1 at_ ins)(lc:I5 O3 a7T (a9Z list prog)):NL lc (e7p list prog regs b5 b6 Puts1 at_ ins) (fun s=>b7W list regs b5 b6 Puts1 at_ ins s):=fun Reads4 h=>PK<|rg<|w9 z5 5 h fun box a2s h=>A6 h fun y3 hy3 h=>t6 h fun e4 h=>ob (N2 hy3)<|ob e4<|om (s6.arr 92 1 4 ((regs.map eI).set (ins.A.toNat) [vi box.f0])=s6.arr 92 1 4 ((regs.set ins.A.toNat box.f0).map eI)) (a60 rfl)<|ob (T0 (enc:=eI) hy3)<|tl (9,{a:=.rowck (eI y3) [],e:=some (.arr 92 1 4 ((regs.set ins.A.toNat box.f0).map eI))})<|rg<|om (4*1=4) rfl<|lp (e8s list prog regs b5 b6 Puts1 at_ ins Reads4 box) h (fun _ h=>lc.rt h) (d7M list prog regs b5 b6 Puts1 at_ ins Reads4 box lc) fun hI=>om (V.agg (((regs.set ins.A.toNat box.f0).map eI).flatten.map (U5 [(1,0),(2,0),(3,0),(4,0),(5,0),(6,0),(7,0)]))=.agg ((regs.set ins.A.toNat box.f0).map eI).flatten) (congrArg V.agg (a7R (fun _=>rfl) _))<|skT [] [0,1,4,5,6,7,161,162] [(1,0),(2,0),(3,0),(4,0),(5,0),(6,0),(7,0)] [(161,.agg ((regs.set ins.A.toNat box.f0).map eI).flatten)] hI
def e7d(list:List q9)(prog:List o9)(b5:List p9)(b6:List n9)(Reads1:List p9):((List Int)×(List n9)×Int)->KS:=fun (regs2,Puts4,at_1)=>⟨O3.k 13 [false,true,false,true,true],(l7 2 z5 list::(l7 4 z6 prog::(bs 2 (.ptr 1 0 0::(.ptr 4 0 0::(.ptr 5 0 0::(vi at_1::(bs 174 [])))))))),[some [],some [.var 41 [.own 2 0 2 0 b5.length,.own 3 0 2 0 b6.length,vi 0,vi 0]],some [m5 86 2 u5 b5],some [m5 89 2 u6 b6],some [.arr 92 1 4 (regs2.map eI)],some [.var 41 [.own 6 0 2 0 Reads1.length,.own 7 0 2 0 Puts4.length,vi 0,vi 0]],some [m5 86 2 u5 Reads1],some [m5 89 2 u6 Puts4]]⟩
def d27(list:List q9)(prog:List o9)(b5:List p9)(b6:List n9)(Reads1:List p9)(regs2:List Int)(Puts4:List n9)(at_1:Int):Unit->KS:=fun _=>⟨O3.k 15 [false,true,false,true,true,false],(l7 2 z5 list::(l7 4 z6 prog::(bs 2 (.ptr 1 0 0::(.ptr 4 0 0::(.ptr 5 0 0::(vi at_1::(bs 174 [])))))))),[some [],some [.var 41 [.own 2 0 2 0 b5.length,.own 3 0 2 0 b6.length,vi 0,vi 0]],some [m5 86 2 u5 b5],some [m5 89 2 u6 b6],some [.arr 92 1 4 (regs2.map eI)],some [.var 41 [.own 6 0 2 0 Reads1.length,.own 7 0 2 0 Puts4.length,vi 0,vi 0]],some [m5 86 2 u5 Reads1],some [m5 89 2 u6 Puts4]]⟩
def b2T(b5:List p9)(b6:List n9)(Reads1:List p9)(regs2:List Int)(Puts4:List n9)(at_1:Int):Option (l8 n5 ((List Int)×(List p9)×(List n9)×(List p9)×(List n9)×Int) ((List p9)×(List n9)×(List Int)×(List p9)×List n9)) :=
 some (l8.nxt (regs2,b5,b6,Reads1,Puts4,m8 (at_1+1)))
theorem e31(list prog b5 b6 Reads1 regs2 Puts4 at_1)(lc:I5 O3 a7T (a9Z list prog)):NL lc (d27 list prog b5 b6 Reads1 regs2 Puts4 at_1) (fun s=>b2T b5 b6 Reads1 regs2 Puts4 at_1):=fun _ h=>PK<|rg<|(lc.nx h fun hI=>sk [] [0,1,4,5,6,7] [(1,0),(4,0),(5,0),(2,0),(3,0),(6,0),(7,0)] hI)
def e3L(list:List q9)(prog:List o9)(b5:List p9)(b6:List n9)(Reads1:List p9)(regs2:List Int)(Puts4:List n9)(at_1:Int):Int->KS:=fun a5P=>⟨O3.k 14 [false,true,false,true,true],(l7 2 z5 list::(l7 4 z6 prog::(bs 2 (.ptr 1 0 0::(.ptr 4 0 0::(.ptr 5 0 0::(vi at_1::(bs 153 (.agg (regs2.map eI).flatten::(vi a5P::(bs 19 []))))))))))),[some [],some [.var 41 [.own 2 0 2 0 b5.length,.own 3 0 2 0 b6.length,vi 0,vi 0]],some [m5 86 2 u5 b5],some [m5 89 2 u6 b6],some [.arr 92 1 4 (regs2.map eI)],some [.var 41 [.own 6 0 2 0 Reads1.length,.own 7 0 2 0 Puts4.length,vi 0,vi 0]],some [m5 86 2 u5 Reads1],some [m5 89 2 u6 Puts4]]⟩
def b0M(Reads1:List p9)(regs2:List Int)(a5P:Int):Option (l8 n5 Int Unit) :=
 (bif decide (a5P<4) then ((idx regs2 a5P).bind fun y5=>(t5 (a5P<4) (((C5 y5 (-1000000) 1000000).bind fun in_2=>(bif (!in_2) then ((a2M Reads1).bind fun c2o=>some (l8.ret (n5.mk c2o [] 0 2))) else some (l8.nxt (m8 (a5P+1)))))))) else some (l8.brk ()))
theorem d86(list prog b5 b6 Reads1 regs2 Puts4 at_1):LQ O3 (d27 list prog b5 b6 Reads1 regs2 Puts4 at_1) (e3L list prog b5 b6 Reads1 regs2 Puts4 at_1) (fun s=>b0M Reads1 regs2 s):=fun lc a5P h=>PK<|rg<|j5 0 h (fun h=>rg<|A6 h fun y5 hy5 h=>t6 h fun e7 h=>ob (N2 hy5)<|ob e7<|om ((regs2.map eI).flatten[a5P.toNat]?=some (vi y5)) (c2O (fun _=>rfl) hy5)<|tl (0,{a:=.val (vi y5)})<|rg<|j9 C3 D8 1 h fun in_2 h=>j5 2 h (fun h=>rg<|cbS a1Y b0p 2 (fun _=>(by simp [a1Y,M3,T9,O4,V.simple,vi,u7,eI,u5])) (fun _=>(P8 1)) h fun c2o h=>C2 Reads1 c2o<|fL lc h) (fun h=>rg<|(lc.nx h fun hI=>om (V.agg ((regs2.map eI).flatten.map (U5 [(1,0),(2,0),(3,0),(4,0),(5,0),(6,0),(7,0)]))=.agg (regs2.map eI).flatten) (congrArg V.agg (a7R (fun _=>rfl) _))<|skT [] [0,1,4,5,6,7,161,162] [(1,0),(2,0),(3,0),(4,0),(5,0),(6,0),(7,0)] [(161,.agg (regs2.map eI).flatten)] hI))) (fun h=>(lc.bk h fun hI=>sk [] [0,1,4,5,6,7] [(1,0),(2,0),(3,0),(4,0),(5,0),(6,0),(7,0)] hI))
def a9z(b5:List p9)(b6:List n9)(Reads1:List p9)(regs2:List Int)(Puts4:List n9)(at_1:Int):Option (l8 n5 ((List Int)×(List p9)×(List n9)×(List p9)×(List n9)×Int) ((List p9)×(List n9)×(List Int)×(List p9)×List n9)) :=
 ((p8 (fun s:Int=>b0M Reads1 regs2 s) 0).bind fun x=>x.go (fun r=>some (l8.ret r)) fun s=>b2T b5 b6 Reads1 regs2 Puts4 at_1)
theorem d91(list prog b5 b6 Reads1)(lc:I5 O3 a7T (a9Z list prog)):NL lc (e7d list prog b5 b6 Reads1) (fun s=>a9z b5 b6 Reads1 s.1 s.2.1 s.2.2):=fun (regs2,Puts4,at_1) h=>PK<|rg<|om (4*1=4) rfl<|lp (d86 list prog b5 b6 Reads1 regs2 Puts4 at_1) h (fun _ h=>lc.rt h) (e31 list prog b5 b6 Reads1 regs2 Puts4 at_1 lc) fun hI=>om (V.agg ((regs2.map eI).flatten.map (U5 [(1,0),(2,0),(3,0),(4,0),(5,0),(6,0),(7,0)]))=.agg (regs2.map eI).flatten) (congrArg V.agg (a7R (fun _=>rfl) _))<|skT [] [0,1,4,5,6,7,161,162] [(1,0),(2,0),(3,0),(4,0),(5,0),(6,0),(7,0)] [(161,.agg (regs2.map eI).flatten)] hI
def a20(list:List q9)(prog:List o9)(regs:List Int)(b5:List p9)(b6:List n9)(Reads1:List p9)(Puts1:List n9)(at_:Int):Option (l8 n5 ((List Int)×(List p9)×(List n9)×(List p9)×(List n9)×Int) ((List p9)×(List n9)×(List Int)×(List p9)×List n9)) :=
 (bif decide (at_<(prog.length:Int)) then ((idx prog at_).bind fun ins=>(bif (ins.a8==1) then ((b0Q (n5.mk Reads1 Puts1 0 0) ins.B).bind fun a0x=>(bif decide (a0x>=0) then ((idx Puts1 a0x).bind fun put1=>((idx regs ins.A).bind fun y1=>(t5 (ins.A<4) (((p8 (fun s:Int=>b25 regs Reads1 ins put1 s) 0).bind fun x=>x.go (fun r=>some (l8.ret r)) fun s=>c2K regs b5 b6 Reads1 Puts1 at_ ins put1))))) else ((((b26 (n5.mk Reads1 Puts1 0 0) ins.B).bind fun d0u=>(bif decide (d0u<0) then ((idx list ins.B).bind fun X8=>(t5 ((Reads1.length+1)*16<=140737488355328) (some (l9.brk (Reads1++[(p9.mk ins.B X8.j4)]))))) else some (l9.brk Reads1))):Option (l9 (l8 n5 ((List Int)×(List p9)×(List n9)×(List p9)×(List n9)×Int) ((List p9)×(List n9)×(List Int)×(List p9)×List n9)) (List p9))).bind fun x=>x.go some fun j=>b7W list regs b5 b6 Puts1 at_ ins j))) else (((bif (ins.a8==2) then ((b0Q (n5.mk Reads1 Puts1 0 0) ins.A).bind fun b0g=>(bif decide (b0g>=0) then ((idx regs ins.B).bind fun y6=>(t5 (ins.B<4) (((idx Puts1 b0g).bind fun put2=>some (l9.brk (regs,Puts1.set b0g.toNat (n9.mk put2.i6 y6),at_)))))) else ((idx regs ins.B).bind fun y7=>(t5 (ins.B<4) ((t5 ((Puts1.length+1)*16<=140737488355328) (some (l9.brk (regs,Puts1++[(n9.mk ins.A y7)],at_))))))))) else (bif (ins.a8==3) then ((idx regs ins.A).bind fun y8=>(t5 (ins.A<4) (some (l9.brk (regs.set ins.A.toNat ins.N,Puts1,at_))))) else (bif (ins.a8==4) then ((idx regs ins.A).bind fun y9=>(t5 (ins.A<4) (((idx regs ins.B).bind fun y10=>(t5 (ins.B<4) ((t5 (ins.A<4) (some (l9.brk (regs.set ins.A.toNat (m8 (y9+y10)),Puts1,at_)))))))))) else (bif (ins.a8==5) then ((idx regs ins.A).bind fun y11=>(t5 (ins.A<4) (((idx regs ins.B).bind fun y12=>(t5 (ins.B<4) ((t5 (ins.A<4) (some (l9.brk (regs.set ins.A.toNat (m8 (y11-y12)),Puts1,at_)))))))))) else (bif (ins.a8==6) then ((idx regs ins.A).bind fun y13=>(t5 (ins.A<4) (((idx regs ins.B).bind fun y14=>(t5 (ins.B<4) ((bif decide (y13<y14) then some (l9.brk (regs,Puts1,m8 (at_+ins.N))) else some (l9.brk (regs,Puts1,at_))))))))) else (bif (ins.a8==7) then ((a2M Reads1).bind fun c2J=>some (l9.ret (l8.ret (n5.mk c2J [] 0 1)))) else some (l9.brk (regs,Puts1,at_)))))))):Option (l9 (l8 n5 ((List Int)×(List p9)×(List n9)×(List p9)×(List n9)×Int) ((List p9)×(List n9)×(List Int)×(List p9)×List n9)) ((List Int)×(List n9)×Int))).bind fun x=>x.go some fun j=>a9z b5 b6 Reads1 j.1 j.2.1 j.2.2))) else some (l8.brk (b5,b6,regs,Reads1,Puts1)))
set_option maxRecDepth 20000 in
theorem e3a(list prog):LQ O3 a7T (a9Z list prog) (fun s=>a20 list prog s.1 s.2.1 s.2.2.1 s.2.2.2.1 s.2.2.2.2.1 s.2.2.2.2.2):=fun lc (regs,b5,b6,Reads1,Puts1,at_) h=>PK<|rg<|j5 3 h (fun h=>rg<|w9 z6 2 h fun ins hins h=>n6<|j5 1 h (fun h=>rg<|S0 a5y c5L 3 2 h fun a0x h=>C2 Reads1 Puts1<|rg<|j5 1 h (fun h=>rg<|A6 h fun put1 b2v h=>B4 b2v<|H8 u6 7 b2v<|A6 h fun y1 hy1 h=>t6 h fun e2 h=>ob (N2 hy1)<|ob e2<|om (s6.arr 92 1 4 ((regs.map eI).set (ins.A.toNat) [vi put1.f0])=s6.arr 92 1 4 ((regs.set ins.A.toNat put1.f0).map eI)) (a60 rfl)<|ob (T0 (enc:=eI) hy1)<|tl (9,{a:=.rowck (eI y1) [],e:=some (.arr 92 1 4 ((regs.set ins.A.toNat put1.f0).map eI))})<|rg<|om (4*1=4) rfl<|lp (d9u list prog regs b5 b6 Reads1 Puts1 at_ ins put1) h (fun _ h=>lc.rt h) (d9x list prog regs b5 b6 Reads1 Puts1 at_ ins put1 lc) fun hI=>om (V.agg (((regs.set ins.A.toNat put1.f0).map eI).flatten.map (U5 [(1,0),(4,0),(5,0),(2,0),(3,0),(6,0),(7,0)]))=.agg ((regs.set ins.A.toNat put1.f0).map eI).flatten) (congrArg V.agg (a7R (fun _=>rfl) _))<|skT [] [0,1,4,5,6,7,161,162] [(1,0),(4,0),(5,0),(2,0),(3,0),(6,0),(7,0)] [(161,.agg ((regs.set ins.A.toNat put1.f0).map eI).flatten)] hI) (fun h=>B2 h (e2k list prog regs b5 b6 Puts1 at_ ins lc) fun x2 h hc2=>rg<|S0 a6X d6m 3 2 h fun d0u h=>C2 Reads1 Puts1<|j5 4 h (fun h=>rg<|w9 z5 7 h fun X8 a9u h=>tk 11 []<|t6 h fun e6 h=>F7 12 46 86 2 16 u5 Reads1 (p9.mk ins.B X8.j4) e6<|E5 (p9.mk ins.B X8.j4)<|(o8 h hc2 fun hI=>sk [] [0,1,4,5,6,7,8] [(1,0),(4,0),(5,0),(2,0),(3,0),(46,0),(7,0),(16,0)] hI)) (fun h=>(o8 h hc2 fun hI=>sk [] [0,1,4,5,6,7,8] [(1,0),(4,0),(5,0),(2,0),(3,0),(6,0),(7,0),(16,0)] hI)))) (fun h=>B2 h (d91 list prog b5 b6 Reads1 lc) fun x2 h hc2=>rg<|j5 1 h (fun h=>rg<|S0 a5y c5L 3 2 h fun b0g h=>C2 Reads1 Puts1<|rg<|j5 1 h (fun h=>rg<|A6 h fun y6 hy6 h=>t6 h fun e8 h=>ob (N2 hy6)<|ob e8<|ob (T0 (enc:=eI) hy6)<|tl (tr 6 (eI y6))<|A6 h fun put2 c4A h=>B4 c4A<|O6 89 2 u6 9 [] (n9.mk put2.i6 y6) c4A<|(o8 h hc2 fun hI=>om ((.own 7 0 2 0 Puts1.length:V)=.own 7 0 2 0 (Puts1.set b0g.toNat (n9.mk put2.i6 y6)).length) (by simp)<|sk [.is (.cell 3 0 1) (.own 7 0 2 0 (Puts1.set b0g.toNat (n9.mk put2.i6 y6)).length)] [0,1,4,5,6,7] [(1,0),(4,0),(5,0),(2,0),(3,0),(6,0),(7,0)] hI)) (fun h=>rg<|A6 h fun y7 hy7 h=>t6 h fun e9 h=>ob (N2 hy7)<|ob e9<|ob (T0 (enc:=eI) hy7)<|tl (tr 7 (eI y7))<|tk 9 []<|t6 h fun e10 h=>F7 10 41 89 2 16 u6 Puts1 (n9.mk ins.A y7) e10<|E5 (n9.mk ins.A y7)<|(o8 h hc2 fun hI=>sk [] [0,1,4,5,6,7] [(1,0),(4,0),(5,0),(2,0),(3,0),(6,0),(41,0)] hI))) (fun h=>rg<|j5 1 h (fun h=>rg<|A6 h fun y8 hy8 h=>t6 h fun e11 h=>ob (N2 hy8)<|ob e11<|om (s6.arr 92 1 4 ((regs.map eI).set (ins.A.toNat) [vi ins.N])=s6.arr 92 1 4 ((regs.set ins.A.toNat ins.N).map eI)) (a60 rfl)<|ob (T0 (enc:=eI) hy8)<|tl (5,{a:=.rowck (eI y8) [],e:=some (.arr 92 1 4 ((regs.set ins.A.toNat ins.N).map eI))})<|(o8 h hc2 fun hI=>sk [] [0,1,4,5,6,7] [(1,0),(4,0),(5,0),(2,0),(3,0),(6,0),(7,0)] hI)) (fun h=>rg<|j5 1 h (fun h=>rg<|A6 h fun y9 hy9 h=>t6 h fun e12 h=>ob (N2 hy9)<|ob e12<|ob (T0 (enc:=eI) hy9)<|tl (tr 3 (eI y9))<|A6 h fun y10 d2Y h=>t6 h fun e13 h=>ob (N2 d2Y)<|ob e13<|ob (T0 (enc:=eI) d2Y)<|tl (tr 7 (eI y10))<|t6 h fun e14 h=>ob (N2 hy9)<|ob e14<|om (s6.arr 92 1 4 ((regs.map eI).set (ins.A.toNat) [vi (m8 (y9+y10))])=s6.arr 92 1 4 ((regs.set ins.A.toNat (m8 (y9+y10))).map eI)) (a60 rfl)<|ob (T0 (enc:=eI) hy9)<|tl (10,{a:=.rowck (eI y9) [],e:=some (.arr 92 1 4 ((regs.set ins.A.toNat (m8 (y9+y10))).map eI))})<|(o8 h hc2 fun hI=>sk [] [0,1,4,5,6,7] [(1,0),(4,0),(5,0),(2,0),(3,0),(6,0),(7,0)] hI)) (fun h=>rg<|j5 1 h (fun h=>rg<|A6 h fun y11 b6f h=>t6 h fun e15 h=>ob (N2 b6f)<|ob e15<|ob (T0 (enc:=eI) b6f)<|tl (tr 3 (eI y11))<|A6 h fun y12 c7I h=>t6 h fun e16 h=>ob (N2 c7I)<|ob e16<|ob (T0 (enc:=eI) c7I)<|tl (tr 7 (eI y12))<|t6 h fun e17 h=>ob (N2 b6f)<|ob e17<|om (s6.arr 92 1 4 ((regs.map eI).set (ins.A.toNat) [vi (m8 (y11-y12))])=s6.arr 92 1 4 ((regs.set ins.A.toNat (m8 (y11-y12))).map eI)) (a60 rfl)<|ob (T0 (enc:=eI) b6f)<|tl (10,{a:=.rowck (eI y11) [],e:=some (.arr 92 1 4 ((regs.set ins.A.toNat (m8 (y11-y12))).map eI))})<|(o8 h hc2 fun hI=>sk [] [0,1,4,5,6,7] [(1,0),(4,0),(5,0),(2,0),(3,0),(6,0),(7,0)] hI)) (fun h=>rg<|j5 1 h (fun h=>rg<|A6 h fun y13 c4a h=>t6 h fun e18 h=>ob (N2 c4a)<|ob e18<|ob (T0 (enc:=eI) c4a)<|tl (tr 3 (eI y13))<|A6 h fun y14 c3G h=>t6 h fun e19 h=>ob (N2 c3G)<|ob e19<|ob (T0 (enc:=eI) c3G)<|tl (tr 7 (eI y14))<|j5 8 h (fun h=>rg<|(o8 h hc2 fun hI=>sk [] [0,1,4,5,6,7] [(1,0),(4,0),(5,0),(2,0),(3,0),(6,0),(7,0)] hI)) (fun h=>(o8 h hc2 fun hI=>sk [] [0,1,4,5,6,7] [(1,0),(4,0),(5,0),(2,0),(3,0),(6,0),(7,0)] hI))) (fun h=>rg<|j5 1 h (fun h=>rg<|cbS a1Y b0p 2 (fun _=>(by simp [a1Y,M3,T9,O4,V.simple,vi,u7,eI,u5])) (fun _=>(P8 1)) h fun c2J h=>s7 Reads1<|(B7 h hc2 fun h=>s7 c2J<|fL lc h)) (fun h=>(o8 h hc2 fun hI=>sk [] [0,1,4,5,6,7] [(1,0),(4,0),(5,0),(2,0),(3,0),(6,0),(7,0)] hI))))))))) (fun h=>(lc.bk h fun hI=>sk [] [4,5,6] [(1,0),(4,0),(5,0),(2,0),(3,0),(6,0),(7,0)] hI))
def b0y(list:List q9)(prog:List o9):Option n5 :=
 ((a7V list).bind fun X2=>(bif (!X2) then some (n5.mk [] [] 0 3) else ((a64 prog).bind fun D5=>(bif (!D5) then some (n5.mk [] [] 0 3) else ((p8 (fun s:(List Int)×(List p9)×(List n9)×(List p9)×(List n9)×Int=>a20 list prog s.1 s.2.1 s.2.2.1 s.2.2.2.1 s.2.2.2.2.1 s.2.2.2.2.2) (e9L 4 (0:Int),[],[],[],[],0)).bind fun x=>x.go (fun r=>some r) fun s=>b04 s.1 s.2.1 s.2.2.1 s.2.2.2.1 s.2.2.2.2)))))
theorem c8G{list prog}:OK O3 [l7 2 z5 list,l7 4 z6 prog] (b0y list prog) :=
 n8 _ fun r h=>n6<|j9 a3O b54 1 h fun X2 h=>j5 3 h (fun h=>rg<|fE h) (fun h=>j9 a3r b5C 5 h fun D5 h=>j5 7 h (fun h=>rg<|fE h) (fun h=>rg<|om ((e9L 4 ([vi 0]:List V)).flatten=[vi 0,vi 0,vi 0,vi 0]/\([vi 0]:List V).length=1) ⟨rfl,rfl⟩<|n6<|lp (e3a list prog) h (fun _ h=>O3.rt h) (e38 r) fun hI=>sk [.own (.cell 1 0 0) 86 2,.own (.cell 1 0 1) 89 2,.own (.cell 12 0 0) 86 2,.own (.cell 12 0 1) 89 2] [0,1,4,5,6,7] [(1,0),(10,0),(12,0),(15,0),(16,0),(17,0),(18,0)] hI))
def a2l:FS (Int):=⟨192,Tryz.f192,[.val [] []],[none,none],[.val [some 7] [],.val [] []],fun r=>vi r,fun _=>[none,none],Tryz.func192⟩
def b9v:Unit->KS:=fun _=>⟨a2l.k 3 [false],(bs 25 []),[some []]⟩
def c34:Option Int :=
 some (-1)
theorem d74(r):NF a2l r b9v (fun s=>c34):=fun _ h=>PK<|rg<|fE h
def c63(list:List m4)(q:q8):Int->KS:=fun v9=>⟨a2l.k 2 [],(bs 3 (.ptr 1 0 0::(bs 3 (l7 7 t0 list::(vi (list.length:Int)::(vi v9::(bs 15 []))))))),[some [],some [.var 37 [vi q.d8,vi q.Seq]]]⟩
def e3r(list:List m4)(q:q8)(v9:Int):Unit->KS:=fun _=>⟨a2l.k 5 [true,false],(bs 3 (.ptr 1 0 0::(bs 3 (l7 7 t0 list::(vi (list.length:Int)::(vi v9::(bs 15 []))))))),[some [],some [.var 37 [vi q.d8,vi q.Seq]]]⟩
def c1R(v9:Int):Option (l8 Int Int Unit) :=
 some (l8.nxt (m8 (v9+1)))
theorem d5z(list q v9)(lc:I5 a2l b9v (c63 list q)):NL lc (e3r list q v9) (fun s=>c1R v9):=fun _ h=>PK<|rg<|(lc.nx h fun hI=>sk [] [3,7,8,9] [(1,0)] hI)
def a85(list:List m4)(q:q8)(v9:Int):Option (l8 Int Int Unit) :=
 (bif decide (v9<(list.length:Int)) then ((idx list v9).bind fun entry=>(((bif (!entry.i8) then (bif (([entry.a5.d8,entry.a5.Seq]:List Int)==[q.d8,q.Seq]) then some (l9.ret (l8.ret v9)) else some (l9.brk ())) else some (l9.brk ())):Option (l9 (l8 Int Int Unit) Unit)).bind fun x=>x.go some fun j=>c1R v9)) else some (l8.brk ()))
theorem d59(list q):LQ a2l b9v (c63 list q) (fun s=>a85 list q s):=fun lc v9 h=>PK<|rg<|j5 0 h (fun h=>rg<|w9 t0 1 h fun entry H0 h=>B2 h (d5z list q v9 lc) fun x2 h hc2=>rg<|j5 3 h (fun h=>j5 8 h (fun h=>rg<|(B7 h hc2 fun h=>fL lc h)) (fun h=>(o8 h hc2 fun hI=>sk [] [3,7,8,9] [(1,0)] hI))) (fun h=>(o8 h hc2 fun hI=>sk [] [3,7,8,9] [(1,0)] hI))) (fun h=>(lc.bk h fun hI=>sk [] [] [] hI))
def a8H(list:List m4)(q:q8):Option Int :=
 ((p8 (fun s:Int=>a85 list q s) 0).bind fun x=>x.go (fun r=>some r) fun s=>c34)
theorem c3k{list q}:OK a2l [l7 7 t0 list,.agg (Z1 q)] (a8H list q) :=
 n8 _ fun r h=>n6<|lp (d59 list q) h (fun _ h=>a2l.rt h) (d74 r) fun hI=>sk [] [3,7,8,9] [(1,0)] hI
def c2d:FS (Bool×n7):=⟨179,Tryz.f179,[.val [] []],[some (0,.ptr H6 L4),none],[.ptr H6 L4,.val [] []],fun r=>.b r.1,fun r=>[some (.optr 175 (K8 r.2)),none],Tryz.func179⟩
def b2C(a:n7)(q:q8):Option (Bool×n7) :=
 ((a8H a.n.a0 q).bind fun first=>some (decide (first>=0),a))
theorem c8C{a q}:OK c2d [.optr 175 (K8 a),.agg (Z1 q)] (b2C a q) :=
 n8 _ fun r h=>n6<|S0 a2l c3k 6 2 h fun first h=>s7 a.n.a0<|C1 a<|fE h
def Z8:FS (m4×Bool×n7):=⟨174,Tryz.f174,[.val J9 [],.val [] []],[some (0,.ptr H6 L4)],[.ptr H6 L4],fun r=>.tup [.agg (t0 r.1),.b r.2.1],fun r=>[some (.optr 175 (K8 r.2.2))],Tryz.func174⟩
def d9n(a:n7):Unit->KS:=fun _=>⟨Z8.k 3 [false],(.ptr 0 0 0::(bs 1 (.ptr 1 0 0::(bs 1 (vi (a.n.a0.length:Int)::(bs 112 [])))))),[some ([.var 175 (c0b a)]++c1D a),some [.var 43 [.b false,vi 0,vi 0,.nil,.nil,vi 0,vi 0]]]⟩
def d0X(a:n7):Unit->KS:=fun _=>⟨Z8.k 5 [false,false],(.ptr 0 0 0::(bs 1 (.ptr 1 0 0::(bs 114 [])))),[some ([.var 175 (c0b a)]++c1D a),some [.var 43 [.b false,vi 0,vi 0,.nil,.nil,vi 0,vi 0]]]⟩
def d8X:n7->KS:=fun a1=>⟨Z8.k 6 [false,false,false],(.ptr 0 0 0::(bs 1 (.ptr 6 0 0::(bs 114 [])))),[some [.var 175 (b1q a1),.dead,.dead,.dead,.dead,.dead]]++a22 a1++[some [.var 43 [.b false,vi 0,vi 0,.nil,.nil,vi 0,vi 0]]]⟩
def c75:n7->KS:=fun w=>⟨Z8.k 7 [false,false,false,false],(bs 2 (.ptr 6 0 0::(bs 114 []))),[some [.var 175 (b1q w),.dead,.dead,.dead,.dead,.dead]]++a22 w++[some [.var 43 [.b false,vi 0,vi 0,.nil,.nil,vi 0,vi 0]]]⟩
def c8b(w:n7):Option (m4×Bool×n7) :=
 some ((m4.mk false (q8.mk 0 0) (n5.mk [] [] 0 0)),false,w)
theorem d34(r):NF Z8 r c75 (fun s=>c8b s):=fun w h=>PK<|rg<|C1 w<|fE h
def e6R:n7->KS:=fun a2=>⟨Z8.k 6 [false,false,false],(.ptr 0 0 0::(bs 1 (.ptr 6 0 0::(bs 114 [])))),[some [.var 175 (b1q a2),.dead,.dead,.dead,.dead,.dead]]++a22 a2++[some [.var 43 [.b false,vi 0,vi 0,.nil,.nil,vi 0,vi 0]]]⟩
def a4c(a2:n7):Option (l8 (m4×Bool×n7) n7 n7) :=
 (bif decide ((a2.n.d9.length:Int)>0) then ((idx a2.n.d9 0).bind fun entry=>(t5 ((0:Int)<=1/\1<=(a2.n.d9.length:Int)) (((b2C (n7.mk (j6.mk a2.n.Id a2.n.Acc a2.n.a0 a2.n.Seq a2.n.d6 a2.n.a7 a2.n.c8 a2.n.g9 a2.n.c9 a2.n.a6 a2.n.i7 a2.n.i5 a2.n.b7 ((a2.n.d9.drop (1:Int).toNat).take (a2.n.d9.length-(1:Int).toNat))) a2.out a2.told) entry.a5).bind fun b1L=>(bif (!b1L.1) then some (l8.ret (entry,true,b1L.2)) else some (l8.nxt b1L.2)))))) else some (l8.brk a2))
theorem e57:LQ Z8 c75 e6R (fun s=>a4c s):=fun lc a2 h=>PK<|rg<|j5 6 h (fun h=>rg<|w9 t0 5 h fun entry H0 h=>rg<|t6 h fun e1 h=>om (V.sl 7 (a2.n.d9.length-(1:Int).toNat) (((a2.n.d9.map t0).drop (1:Int).toNat).take (a2.n.d9.length-(1:Int).toNat))=l7 7 t0 ((a2.n.d9.drop (1:Int).toNat).take (a2.n.d9.length-(1:Int).toNat))) (b5O e1)<|ob e1.1<|ob e1.2<|tl (6,{v:=some (l7 7 t0 ((a2.n.d9.drop (1:Int).toNat).take (a2.n.d9.length-(1:Int).toNat)))})<|rg<|j9 c2d c8C 3 h fun b1L h=>C1 a2<|j5 4 h (fun h=>rg<|C1 b1L.2<|fL lc h) (fun h=>(lc.nx h fun hI=>sk [] [0,2] [(37,0),(37,1),(37,2),(37,3),(37,4),(6,0)] hI))) (fun h=>(lc.bk h fun hI=>sk [] [2] [(1,0),(2,0),(3,0),(4,0),(5,0),(6,0)] hI))
def b7h(a1:n7):Option (m4×Bool×n7) :=
 ((p8 (fun s:n7=>a4c s) a1).bind fun x=>x.go (fun r=>some r) fun s=>c8b s)
theorem e8Q(r):NF Z8 r d8X (fun s=>b7h s):=fun a1 h=>PK<|lp (e57) h (fun _ h=>Z8.rt h) (d34 r) fun hI=>sk [] [0,2] [(1,0),(2,0),(3,0),(4,0),(5,0),(6,0)] hI
def c1G(a:n7):Option (m4×Bool×n7) :=
 (((bif a.n.i7 then ((b2C a a.n.b7.a5).bind fun a9l=>(bif (!a9l.1) then some (l9.ret (a9l.2.n.b7,true,a9l.2)) else some (l9.brk a9l.2))) else some (l9.brk a)):Option (l9 (m4×Bool×n7) n7)).bind fun x=>x.go some fun j=>b7h j)
theorem e1P(a)(r):NF Z8 r (d0X a) (fun s=>c1G a):=fun _ h=>PK<|B2 h (e8Q r) fun x1 h hc1=>rg<|j5 5 h (fun h=>j9 c2d c8C 13 h fun a9l h=>C1 a<|j5 15 h (fun h=>rg<|(B7 h hc1 fun h=>C1 a9l.2<|fE h)) (fun h=>(o8 h hc1 fun hI=>sk [] [0,2] [(15,0),(15,1),(15,2),(15,3),(15,4),(1,0)] hI))) (fun h=>(o8 h hc1 fun hI=>sk [] [0,2] [(0,1),(0,2),(0,3),(0,4),(0,5),(1,0)] hI))
def e2N(a:n7):Int->KS:=fun i=>⟨Z8.k 4 [false],(.ptr 0 0 0::(bs 1 (.ptr 1 0 0::(bs 2 (vi i::(bs 111 [])))))),[some ([.var 175 (c0b a)]++c1D a),some [.var 43 [.b false,vi 0,vi 0,.nil,.nil,vi 0,vi 0]]]⟩
def a4a(a:n7)(i:Int):Option (l8 (m4×Bool×n7) Int Unit) :=
 (bif decide (i<(a.n.g9.length:Int)) then ((idx a.n.g9 i).bind fun vote=>(bif (vote.a7 != 0) then some (l8.ret ((m4.mk true (q8.mk 0 0) (n5.mk [] [] 0 0)),true,a)) else some (l8.nxt (m8 (i+1))))) else some (l8.brk ()))
theorem d4Y(a):LQ Z8 (d0X a) (e2N a) (fun s=>a4a a s):=fun lc i h=>PK<|rg<|j5 7 h (fun h=>rg<|w9 p6 6 h fun vote M9 h=>j5 9 h (fun h=>rg<|C1 a<|fL lc h) (fun h=>rg<|(lc.nx h fun hI=>sk [] [0,2,5] [(1,0)] hI))) (fun h=>(lc.bk h fun hI=>sk [] [0,2] [(1,0)] hI))
def b32(a:n7):Option (m4×Bool×n7) :=
 ((p8 (fun s:Int=>a4a a s) (m8 ((a.n.a0.length:Int)+1))).bind fun x=>x.go (fun r=>some r) fun s=>c1G a)
theorem d81(a)(r):NF Z8 r (d9n a) (fun s=>b32 a):=fun _ h=>PK<|rg<|lp (d4Y a) h (fun _ h=>Z8.rt h) (e1P a r) fun hI=>sk [] [0,2,5] [(1,0)] hI
def b5y(a:n7):Option (m4×Bool×n7) :=
 (((bif decide ((a.n.a0.length:Int)<(a.n.g9.length:Int)) then ((idx a.n.g9 (a.n.a0.length:Int)).bind fun R0=>(bif (R0.a7 != 0) then some (l9.ret (R0.i0,true,a)) else some (l9.brk ()))) else some (l9.brk ())):Option (l9 (m4×Bool×n7) Unit)).bind fun x=>x.go some fun j=>b32 a)
theorem d4X{a}:OK Z8 [.optr 175 (K8 a)] (b5y a) :=
 n8 _ fun r h=>n6<|B2 h (d81 a r) fun x1 h hc1=>rg<|j5 8 h (fun h=>w9 p6 15 h fun R0 a29 h=>j5 19 h (fun h=>rg<|L7 p6 6 a29<|(B7 h hc1 fun h=>C1 a<|fE h)) (fun h=>(o8 h hc1 fun hI=>sk [] [0,2,4] [(1,0)] hI))) (fun h=>(o8 h hc1 fun hI=>sk [] [0,2,4] [(1,0)] hI))
def c6r:FS (x6×Bool):=⟨144,Tryz.f144,[.val [none,some 8] [none,some 152],.val [] []],[none,none],[.val [none,some 8] [],.val [] []],fun r=>.tup [.agg [vi r.1.g8,u7 152 8 p6 r.1.a6],.b r.2],fun _=>[none,none],Tryz.func144⟩
def b9M(a:x6)(bal:Int):Option (x6×Bool) :=
 ((a9R a).bind fun O0=>(bif (!O0) then some ((x6.mk 0 []),false) else ((a4x a).bind fun O8=>((C5 bal 1 3000).bind fun in_=>(bif (!in_) then some (O8,false) else (bif decide (bal<a.g8) then some (O8,false) else some ((x6.mk bal O8.a6),true)))))))
theorem e4d{a bal}:OK c6r [.agg (Y5 a),vi bal] (b9M a bal) :=
 n8 _ fun r h=>n6<|j9 a4X b94 1 h fun O0 h=>j5 2 h (fun h=>rg<|fE h) (fun h=>rg<|j9 a8u b0m 1 h fun O8 h=>rg<|j9 C3 D8 1 h fun in_ h=>j5 3 h (fun h=>rg<|s7 O8.a6<|fE h) (fun h=>j5 8 h (fun h=>rg<|s7 O8.a6<|fE h) (fun h=>n6<|s7 O8.a6<|fE h)))
def a6A:FS (x6×Bool):=⟨175,Tryz.f175,[.val [none,some 8] [],.val [] []],[none,none,none,none],[.val [none,some 8] [],.val [] [],.val [] [],.val J9 []],fun r=>.tup [.agg (Y5 r.1),.b r.2],fun _=>[none,none,none,none],Tryz.func175⟩
def c4m(bal:Int)(slot:Int)(e_:m4)(o:x6×Bool):(List m7)->KS:=fun Y1=>⟨a6A.k 5 [false,false,false],(bs 1 (vi bal::(vi slot::(bs 4 (.ptr 1 0 0::(.ptr 2 0 0::(bs 1 (.ptr 3 0 0::(bs 40 []))))))))),[some [],some [.var 43 (a4D e_)],some [.var 62 [vi 0,.nil]],some [.var 62 [vi o.1.g8,.own 4 0 8 0 Y1.length]],some [m5 152 8 p6 Y1]]⟩
def c1f(bal:Int)(slot:Int)(e_:m4)(o:x6×Bool)(Y1:List m7):Option (x6×Bool) :=
 ((idx Y1 slot).bind fun vote=>((a4x (x6.mk o.1.g8 (Y1.set slot.toNat (m7.mk bal e_)))).bind fun c0d=>some (c0d,true)))
theorem d4i(bal slot e_ o)(r):NF a6A r (c4m bal slot e_ o) (fun s=>c1f bal slot e_ o s):=fun Y1 h=>PK<|rg<|A6 h fun vote M9 h=>B4 M9<|O6 152 8 p6 7 T5 (m7.mk bal e_) M9<|rg<|j9 a8u b0m 1 h fun c0d h=>om (Y1.length=(Y1.set slot.toNat (m7.mk bal e_)).length) (by simp)<|s7 c0d.a6<|fE h
def e4f(bal:Int)(slot:Int)(e_:m4)(o:x6×Bool):(List m7)->KS:=fun a6=>⟨a6A.k 4 [false,false],(bs 1 (vi bal::(vi slot::(bs 4 (.ptr 1 0 0::(.ptr 2 0 0::(bs 1 (.ptr 3 0 0::(bs 40 []))))))))),[some [],some [.var 43 (a4D e_)],some [.var 62 [vi 0,.nil]],some [.var 62 [vi o.1.g8,.own 4 0 8 0 a6.length]],some [m5 152 8 p6 a6]]⟩
def a8c(slot:Int)(a6:List m7):Option (l8 (x6×Bool) (List m7) (List m7)) :=
 (bif decide ((a6.length:Int)<=slot) then (t5 ((a6.length+1)*96<=140737488355328) (some (l8.nxt (a6++[(m7.mk 0 (m4.mk false (q8.mk 0 0) (n5.mk [] [] 0 0)))])))) else some (l8.brk a6))
theorem d9C(bal slot e_ o):LQ a6A (c4m bal slot e_ o) (e4f bal slot e_ o) (fun s=>a8c slot s):=fun lc a6 h=>PK<|rg<|j5 4 h (fun h=>rg<|tk 3 T5<|t6 h fun e1 h=>F7 4 14 152 8 96 p6 a6 (m7.mk 0 (m4.mk false (q8.mk 0 0) (n5.mk [] [] 0 0))) e1<|E5 (m7.mk 0 (m4.mk false (q8.mk 0 0) (n5.mk [] [] 0 0)))<|(lc.nx h fun hI=>sk [] [1,2,7,8,10] [(1,0),(2,0),(3,0),(14,0)] hI)) (fun h=>(lc.bk h fun hI=>sk [] [1,2,7,8,10] [(1,0),(2,0),(3,0),(4,0)] hI))
def b29(a:x6)(bal:Int)(slot:Int)(e_:m4):Option (x6×Bool) :=
 ((b9M a bal).bind fun o=>(bif (!o.2) then some (o.1,false) else ((C5 slot 0 39).bind fun in_=>(bif (!in_) then ((a4x a).bind fun O8=>some (O8,false)) else ((a1z e_).bind fun D7=>(bif (!D7) then ((a4x a).bind fun b8Q=>some (b8Q,false)) else ((p8 (fun s:List m7=>a8c slot s) o.1.a6).bind fun x=>x.go (fun r=>some r) fun s=>c1f bal slot e_ o s)))))))
theorem d1h{a bal slot e_}:OK a6A [.agg (Y5 a),vi bal,vi slot,.agg (t0 e_)] (b29 a bal slot e_) :=
 n8 _ fun r h=>n6<|j9 c6r e4d 2 h fun o h=>rg<|j5 1 h (fun h=>rg<|s7 o.1.a6<|fE h) (fun h=>rg<|j9 C3 D8 1 h fun in_ h=>j5 3 h (fun h=>rg<|j9 a8u b0m 1 h fun O8 h=>s7 O8.a6<|fE h) (fun h=>j9 a2g a3L 5 h fun D7 h=>j5 7 h (fun h=>rg<|j9 a8u b0m 1 h fun b8Q h=>s7 b8Q.a6<|fE h) (fun h=>lp (d9C bal slot e_ o) h (fun _ h=>a6A.rt h) (d4i bal slot e_ o r) fun hI=>sk [] [1,2,7,8,10] [(2,0),(3,0),(11,0),(7,0)] hI)))
def b4M:FS (n7):=⟨143,Tryz.f143,[],[some (0,.ptr H6 L4)],[.ptr H6 L4],fun _=>.tup [],fun r=>[some (.optr 175 (K8 r))],Tryz.func143⟩
def b1E(a:n7):Option n7 :=
 some (n7.mk (j6.mk a.n.Id a.n.Acc a.n.a0 a.n.Seq 0 0 [] [] (m4.mk false (q8.mk 0 0) (n5.mk [] [] 0 0)) [] a.n.i7 a.n.i5 a.n.b7 a.n.d9) a.out a.told)
theorem c1C{a}:OK b4M [.optr 175 (K8 a)] (b1E a) :=
 n8 _ fun r h=>rg4<|n6<|W0 a.n.a0 a.out a.told<|fE h
def c1q:FS ((List Bool)×n7):=⟨145,Tryz.f145,[.val [some 1] [some 4]],[some (0,.ptr H6 L4)],[.ptr H6 L4],fun r=>u7 4 1 eB r.1,fun r=>[some (.optr 175 (K8 r.2))],Tryz.func145⟩
def b1Y(a:n7):Option ((List Bool)×n7) :=
 (t5 (0<=(3:Int)/\(3:Int)*1<=140737488355328) (((idx (e9L (3:Int).toNat false) a.n.Id).bind fun y=>some ((e9L (3:Int).toNat false).set a.n.Id.toNat true,a))))
theorem c54{a}:OK c1q [.optr 175 (K8 a)] (b1Y a) :=
 n8 _ fun r h=>n6<|t6 h fun e1 h=>U1 0 2 4 1 1 eB false ti4 (.none) e1 (by decide) (by rfl)<|rg<|A6 h fun y hy h=>B4 hy<|O6 4 1 eB 7 [] true hy<|rg<|om ((e9L (3:Int).toNat false).length=((e9L (3:Int).toNat false).set a.n.Id.toNat true).length) (by simp)<|C1 a<|fE h
def a6b:FS (n7):=⟨153,Tryz.f153,[],[some (0,.ptr H6 L4),none,none],[.ptr H6 L4,.val [] [],.val B5 []],fun _=>.tup [],fun r=>[some (.optr 175 (K8 r)),none,none],Tryz.func153⟩
def a3A(a:n7)(to:Int)(m:j8):Option n7 :=
 (t5 ((a.out.length+1)*152<=140737488355328) (some (n7.mk a.n (a.out++[(j8.mk m.a8 a.n.Id to m.a7 m.g7 m.i0 m.a6)]) a.told)))
theorem a7d{a to m}:OK a6b [.optr 175 (K8 a),vi to,.agg (s5 m)] (a3A a to m) :=
 n8 _ fun r h=>rg4<|tk 6 B5<|t6 h fun e1 h=>F7 7 19 76 13 152 s5 a.out (j8.mk m.a8 a.n.Id to m.a7 m.g7 m.i0 m.a6) e1<|E5 (j8.mk m.a8 a.n.Id to m.a7 m.g7 m.i0 m.a6)<|G0 a.n.a0 a.n.c8 a.n.a6 (a.out++[(j8.mk m.a8 a.n.Id to m.a7 m.g7 m.i0 m.a6)])<|s7 a.told<|fE h
def a05:FS (n7):=⟨141,Tryz.f141,[],[some (0,.ptr H6 L4),none],[.ptr H6 L4,.val B5 []],fun _=>.tup [],fun r=>[some (.optr 175 (K8 r)),none],Tryz.func141⟩
def c8M(m:j8):(Int×n7)->KS:=fun (to,a1)=>⟨a05.k 2 [],(.ptr 0 0 0::(bs 2 (.ptr 1 0 0::(vi to::(bs 15 []))))),[some [.var 175 (e5T a1),.dead,.dead,.dead,.dead,.dead],some [.var 76 (a38 m)]]++e5o a1⟩
def e73(m:j8)(to:Int):n7->KS:=fun a2=>⟨a05.k 5 [true,true],(.ptr 0 0 0::(bs 2 (.ptr 6 0 0::(vi to::(bs 15 []))))),[some [.var 175 (b1q a2),.dead,.dead,.dead,.dead,.dead]]++a22 a2++[some [.var 76 (a38 m)]]⟩
def c0C(to:Int)(a2:n7):Option (l8 n7 (Int×n7) Unit) :=
 some (l8.nxt (m8 (to+1),a2))
theorem e2I(m to)(lc:I5 a05 noK (c8M m)):NL lc (e73 m to) (fun s=>c0C to s):=fun a2 h=>PK<|rg<|(lc.nx h fun hI=>sk [] [0,3,4] [(6,0),(5,0),(4,0),(3,0),(2,0),(1,0)] hI)
def a4j(m:j8)(to:Int)(a1:n7):Option (l8 n7 (Int×n7) Unit) :=
 (bif decide (to<3) then (((bif (to != a1.n.Id) then ((a3A a1 to m).bind fun W9=>some (l9.brk W9)) else some (l9.brk a1)):Option (l9 (l8 n7 (Int×n7) Unit) n7)).bind fun x=>x.go some fun j=>c0C to j) else some (l8.ret a1))
theorem e76(m):LQ a05 noK (c8M m) (fun s=>a4j m s.1 s.2):=fun lc (to,a1) h=>PK<|rg<|j5 1 h (fun h=>B2 h (e2I m to lc) fun x2 h hc2=>rg<|j5 6 h (fun h=>rg<|j9 a6b a7d 3 h fun W9 h=>C1 a1<|(o8 h hc2 fun hI=>sk [] [0,3,4] [(19,0),(19,1),(19,2),(19,3),(19,4),(1,0)] hI)) (fun h=>(o8 h hc2 fun hI=>sk [] [0,3,4] [(6,0),(5,0),(4,0),(3,0),(2,0),(1,0)] hI))) (fun h=>C1 a1<|fL lc h)
def a2r(a:n7)(m:j8):Option n7 :=
 ((p8 (fun s:Int×n7=>a4j m s.1 s.2) (0,a)).bind fun x=>x.go (fun r=>some r) fun _=>none)
theorem a6l{a m}:OK a05 [.optr 175 (K8 a),.agg (s5 m)] (a2r a m) :=
 n8 _ fun r h=>n6<|lp (e76 m) h (fun _ h=>a05.rt h) (fun _ h=>nomatch h) fun hI=>sk [] [0,3,4] [(1,0),(0,5),(0,4),(0,3),(0,2),(0,1)] hI
def a9O:FS (n7):=⟨140,Tryz.f140,[],[some (0,.ptr H6 L4)],[.ptr H6 L4],fun _=>.tup [],fun r=>[some (.optr 175 (K8 r))],Tryz.func140⟩
def a51(a:n7):Option n7 :=
 (bif (a.n.d6 != 2) then some a else (bif decide ((a.n.a0.length:Int)>=40) then some a else ((b5y a).bind fun next=>(bif (!next.2.1) then some next.2.2 else ((b29 next.2.2.n.Acc next.2.2.n.a7 (next.2.2.n.a0.length:Int) next.1).bind fun a8l=>(bif (!a8l.2) then ((b1E next.2.2).bind fun follow=>some follow) else ((b1Y (n7.mk (j6.mk next.2.2.n.Id a8l.1 next.2.2.n.a0 next.2.2.n.Seq next.2.2.n.d6 next.2.2.n.a7 next.2.2.n.c8 next.2.2.n.g9 next.1 next.2.2.n.a6 next.2.2.n.i7 next.2.2.n.i5 next.2.2.n.b7 next.2.2.n.d9) next.2.2.out next.2.2.told)).bind fun D9=>((a2r (n7.mk (j6.mk D9.2.n.Id D9.2.n.Acc D9.2.n.a0 D9.2.n.Seq 3 D9.2.n.a7 D9.2.n.c8 D9.2.n.g9 D9.2.n.c9 D9.1 D9.2.n.i7 D9.2.n.i5 D9.2.n.b7 D9.2.n.d9) D9.2.out D9.2.told) (j8.mk 3 0 0 D9.2.n.a7 (D9.2.n.a0.length:Int) next.1 [])).bind fun all=>some all))))))))
theorem b1T{a}:OK a9O [.optr 175 (K8 a)] (a51 a) :=
 n8 _ fun r h=>rg<|j5 6 h (fun h=>C1 a<|fE h) (fun h=>j5 14 h (fun h=>C1 a<|fE h) (fun h=>rg<|j9 Z8 d4X 1 h fun next h=>C1 a<|rg<|j5 1 h (fun h=>C1 next.2.2<|fE h) (fun h=>rg<|j9 a6A d1h 17 h fun a8l h=>rg<|j5 1 h (fun h=>rg<|j9 b4M c1C 1 h fun follow h=>C1 next.2.2<|C1 follow<|fE h) (fun h=>M5<|j9 c1q c54 2 h fun D9 h=>C1 next.2.2<|n6<|j9 a05 a6l 14 h fun all h=>G0 D9.2.n.a0 D9.2.n.c8 D9.1 D9.2.out<|s7 D9.2.told<|C1 all<|fE h))))
def b4C:FS (j6×(List j8)×List m9):=⟨92,Tryz.f92,[.val A3 [],.val [some 13] [],.val [some 5] []],[none,none],[.val A3 [],.val [some 4] []],fun r=>.tup [.agg (A2 r.1),l7 13 s5 r.2.1,l7 5 x7 r.2.2],fun _=>[none,none],Tryz.func92⟩
def d5R:n7->KS:=fun a=>⟨b4C.k 11 [false,false,true],(bs 4 (.ptr 1 0 0::(bs 2 (.ptr 2 0 0::(bs 80 []))))),[some [],some [.var 65 [vi 0,vi 0,.nil,.nil,vi 0,vi 0,vi 0,.nil,.nil,.b false,vi 0,vi 0,.nil,.nil,vi 0,vi 0,.nil,.b false,.nil,.b false,vi 0,vi 0,.nil,.nil,vi 0,vi 0,.nil]],some [.var 175 (b2j a)]]++a22 a⟩
def b78(a:n7):Option (j6×(List j8)×List m9) :=
 ((a1l a).bind fun b4U=>some (b4U.1,b4U.2.1,b4U.2.2.1))
theorem e5g(r):NF b4C r d5R (fun s=>b78 s):=fun a h=>PK<|rg<|j9 a27 a4k 1 h fun b4U h=>C1 a<|fE h
def b8p(n:j6)(prog:List o9):Option (j6×(List j8)×List m9) :=
 ((a3B n).bind fun C7=>(bif (!C7) then some ((j6.mk 0 (x6.mk 0 []) [] 0 0 0 [] [] (m4.mk false (q8.mk 0 0) (n5.mk [] [] 0 0)) [] false [] (m4.mk false (q8.mk 0 0) (n5.mk [] [] 0 0)) []),[],[]) else ((a8w n).bind fun begin=>(bif n.i7 then ((a1l begin).bind fun U9=>some (U9.1,U9.2.1,U9.2.2.1)) else (bif (n.Seq==1000) then ((a1l begin).bind fun a4d=>some (a4d.1,a4d.2.1,a4d.2.2.1)) else ((a64 prog).bind fun D5=>(bif (!D5) then ((a1l begin).bind fun a4U=>some (a4U.1,a4U.2.1,a4U.2.2.1)) else ((b7S n).bind fun b2f=>((b0y b2f.i4 prog).bind fun D4=>(((bif (n.d6==2) then ((a51 (n7.mk (j6.mk begin.n.Id begin.n.Acc begin.n.a0 (m8 (begin.n.Seq+1)) begin.n.d6 begin.n.a7 begin.n.c8 begin.n.g9 begin.n.c9 begin.n.a6 true prog (m4.mk false (q8.mk n.Id (m8 (begin.n.Seq+1))) D4) begin.n.d9) begin.out begin.told)).bind fun X5=>some (l9.brk X5)) else (bif (n.d6==0) then ((a2r (n7.mk (j6.mk begin.n.Id begin.n.Acc begin.n.a0 (m8 (begin.n.Seq+1)) begin.n.d6 begin.n.a7 begin.n.c8 begin.n.g9 begin.n.c9 begin.n.a6 true prog (m4.mk false (q8.mk n.Id (m8 (begin.n.Seq+1))) D4) begin.n.d9) begin.out begin.told) (j8.mk 7 0 0 0 0 (m4.mk false (q8.mk n.Id (m8 (begin.n.Seq+1))) D4) [])).bind fun all=>some (l9.brk all)) else some (l9.brk (n7.mk (j6.mk begin.n.Id begin.n.Acc begin.n.a0 (m8 (begin.n.Seq+1)) begin.n.d6 begin.n.a7 begin.n.c8 begin.n.g9 begin.n.c9 begin.n.a6 true prog (m4.mk false (q8.mk n.Id (m8 (begin.n.Seq+1))) D4) begin.n.d9) begin.out begin.told)))):Option (l9 (j6×(List j8)×List m9) n7)).bind fun x=>x.go some fun j=>b78 j))))))))))
theorem e8i{n prog}:OK b4C [.agg (A2 n),l7 4 z6 prog] (b8p n prog) :=
 n8 _ fun r h=>n6<|j9 a0z a8j 1 h fun C7 h=>j5 2 h (fun h=>rg<|fE h) (fun h=>rg<|j9 b3m b3E 1 h fun begin h=>rg<|j5 2 h (fun h=>rg<|j9 a27 a4k 1 h fun U9 h=>I3 begin.n<|C2 begin.out begin.told<|fE h) (fun h=>j5 7 h (fun h=>rg<|j9 a27 a4k 1 h fun a4d h=>I3 begin.n<|C2 begin.out begin.told<|fE h) (fun h=>j9 a3r b5C 9 h fun D5 h=>j5 11 h (fun h=>rg<|j9 a27 a4k 1 h fun a4U h=>I3 begin.n<|C2 begin.out begin.told<|fE h) (fun h=>rg4<|j9 c8u e6d 10 h fun b2f h=>j9 O3 c8G 13 h fun D4 h=>rg<|B2 h (e5g r) fun x1 h hc1=>rg<|j5 1 h (fun h=>rg<|j9 a9O b1T 1 h fun X5 h=>I3 begin.n<|C2 begin.out begin.told<|(o8 h hc1 fun hI=>sk [] [4,7] [(2,0),(9,0),(68,0),(68,1),(68,2),(68,3),(68,4)] hI)) (fun h=>rg<|j5 1 h (fun h=>rg<|j9 a05 a6l 7 h fun all h=>I3 begin.n<|C2 begin.out begin.told<|(o8 h hc1 fun hI=>sk [] [4,7] [(2,0),(9,0),(76,0),(76,1),(76,2),(76,3),(76,4)] hI)) (fun h=>(o8 h hc1 fun hI=>s7 begin.n.d9<|sk [.frz (.cell 9 0 26) (none)] [4,7] [(2,0),(9,0),(9,1),(9,2),(9,3),(9,5),(9,6)] hI)))))))
def T1:FS (m6):=⟨93,Tryz.f93,[.val E4 om2],[none,none,none,none],[.val E4 om2,.val A3 [],.val [some 13] [],.val [some 5] []],fun r=>.agg (a6U r),fun _=>[none,none,none,none],Tryz.func93⟩
def c3C(w:m6)(n:j6)(told:List m9):(List j8)->KS:=fun Net1=>⟨T1.k 4 [false],(bs 3 (l7 5 x7 told::(.ptr 1 0 0::(bs 3 (.ptr 3 0 0::(bs 45 [])))))),[some [m5 65 27 A2 (w.a9.set n.Id.toNat n),.dead,m5 78 3 A7 w.d7,m5 72 5 x7 w.Told],some [.var 28 [.own 0 0 27 0 (w.a9.set n.Id.toNat n).length,.own 2 0 13 0 Net1.length,.own 0 2 3 0 w.d7.length,.own 0 3 5 0 w.Told.length]],some [m5 76 13 s5 Net1],some [.var 28 [.nil,.nil,.nil,.nil]]]⟩
def c04(w:m6)(n:j6)(Net1:List j8):(List m9)->KS:=fun Told1=>⟨T1.k 6 [false,false],(bs 4 (.ptr 1 0 0::(bs 3 (.ptr 4 0 0::(bs 45 []))))),[some [m5 65 27 A2 (w.a9.set n.Id.toNat n),.dead,m5 78 3 A7 w.d7,.dead],some [.var 28 [.own 0 0 27 0 (w.a9.set n.Id.toNat n).length,.own 2 0 13 0 Net1.length,.own 0 2 3 0 w.d7.length,.own 3 0 5 0 Told1.length]],some [m5 76 13 s5 Net1],some [m5 72 5 x7 Told1],some [.var 28 [.nil,.nil,.nil,.nil]]]⟩
def c2k(w:m6)(n:j6)(Net1:List j8)(Told1:List m9):Option m6 :=
 some (m6.mk (w.a9.set n.Id.toNat n) Net1 w.d7 Told1)
theorem e6H(w n Net1)(r):NF T1 r (c04 w n Net1) (fun s=>c2k w n Net1 s):=fun Told1 h=>PK<|rg<|G0 (w.a9.set n.Id.toNat n) Net1 w.d7 Told1<|fE h
def c8w(w:m6)(n:j6)(told:List m9)(Net1:List j8):((List m9)×Int)->KS:=fun (Told,v38)=>⟨T1.k 5 [false],(bs 4 (.ptr 1 0 0::(bs 3 (.ptr 3 0 0::(bs 27 (l7 5 x7 told::(vi (told.length:Int)::(vi v38::(bs 15 []))))))))),[some [m5 65 27 A2 (w.a9.set n.Id.toNat n),.dead,m5 78 3 A7 w.d7,.dead],some [.var 28 [.own 0 0 27 0 (w.a9.set n.Id.toNat n).length,.own 2 0 13 0 Net1.length,.own 0 2 3 0 w.d7.length,.own 4 0 5 0 Told.length]],some [m5 76 13 s5 Net1],some [.var 28 [.nil,.nil,.nil,.nil]],some [m5 72 5 x7 Told]]⟩
def e44(w:m6)(n:j6)(told:List m9)(Net1:List j8)(v38:Int):(List m9)->KS:=fun Told2=>⟨T1.k 9 [false,true,true],(bs 4 (.ptr 1 0 0::(bs 3 (.ptr 4 0 0::(bs 27 (l7 5 x7 told::(vi (told.length:Int)::(vi v38::(bs 15 []))))))))),[some [m5 65 27 A2 (w.a9.set n.Id.toNat n),.dead,m5 78 3 A7 w.d7,.dead],some [.var 28 [.own 0 0 27 0 (w.a9.set n.Id.toNat n).length,.own 2 0 13 0 Net1.length,.own 0 2 3 0 w.d7.length,.own 3 0 5 0 Told2.length]],some [m5 76 13 s5 Net1],some [m5 72 5 x7 Told2],some [.var 28 [.nil,.nil,.nil,.nil]]]⟩
def b6A(v38:Int)(Told2:List m9):Option (l8 m6 ((List m9)×Int) (List m9)) :=
 some (l8.nxt (Told2,m8 (v38+1)))
theorem e4u(w n told Net1 v38)(lc:I5 T1 (c04 w n Net1) (c8w w n told Net1)):NL lc (e44 w n told Net1 v38) (fun s=>b6A v38 s):=fun Told2 h=>PK<|rg<|(lc.nx h fun hI=>sk [] [4,8,36,37,38] [(1,0),(2,0),(4,0),(3,0)] hI)
def a3t(told:List m9)(Told:List m9)(v38:Int):Option (l8 m6 ((List m9)×Int) (List m9)) :=
 (bif decide (v38<(told.length:Int)) then ((idx told v38).bind fun a2h=>(((bif decide ((Told.length:Int)<60) then (t5 ((Told.length+1)*40<=140737488355328) (some (l9.brk (Told++[a2h])))) else some (l9.brk Told)):Option (l9 (l8 m6 ((List m9)×Int) (List m9)) (List m9))).bind fun x=>x.go some fun j=>b6A v38 j)) else some (l8.brk Told))
theorem e2m(w n told Net1):LQ T1 (c04 w n Net1) (c8w w n told Net1) (fun s=>a3t told s.1 s.2):=fun lc (Told,v38) h=>PK<|rg<|j5 0 h (fun h=>rg<|w9 x7 0 h fun a2h d7L h=>B2 h (e4u w n told Net1 v38 lc) fun x2 h hc2=>rg<|j5 3 h (fun h=>rg<|tk 3 []<|t6 h fun e1 h=>F7 4 18 72 5 40 x7 Told a2h e1<|E5 a2h<|(o8 h hc2 fun hI=>sk [] [4,8,36,37,38] [(1,0),(2,0),(18,0),(3,0)] hI)) (fun h=>(o8 h hc2 fun hI=>sk [] [4,8,36,37,38] [(1,0),(2,0),(4,0),(3,0)] hI))) (fun h=>(lc.bk h fun hI=>sk [] [4,8] [(1,0),(2,0),(4,0),(3,0)] hI))
def c0H(w:m6)(n:j6)(told:List m9)(Net1:List j8):Option m6 :=
 ((p8 (fun s:(List m9)×Int=>a3t told s.1 s.2) (w.Told,0)).bind fun x=>x.go (fun r=>some r) fun s=>c2k w n Net1 s)
theorem d7N(w n told)(r):NF T1 r (c3C w n told) (fun s=>c0H w n told s):=fun Net1 h=>PK<|rg<|lp (e2m w n told Net1) h (fun _ h=>T1.rt h) (e6H w n Net1 r) fun hI=>sk [] [4,8,36,37,38] [(1,0),(2,0),(3,0),(0,3)] hI
def c5o(w:m6)(n:j6)(list:List j8)(told:List m9):((List j8)×Int)->KS:=fun (b9,v21)=>⟨T1.k 3 [],(bs 3 (l7 5 x7 told::(.ptr 1 0 0::(bs 3 (.ptr 2 0 0::(bs 10 (l7 13 s5 list::(vi (list.length:Int)::(vi v21::(bs 32 [])))))))))),[some [m5 65 27 A2 (w.a9.set n.Id.toNat n),.dead,m5 78 3 A7 w.d7,m5 72 5 x7 w.Told],some [.var 28 [.own 0 0 27 0 (w.a9.set n.Id.toNat n).length,.own 3 0 13 0 b9.length,.own 0 2 3 0 w.d7.length,.own 0 3 5 0 w.Told.length]],some [.var 28 [.nil,.nil,.nil,.nil]],some [m5 76 13 s5 b9]]⟩
def e8j(w:m6)(n:j6)(list:List j8)(told:List m9)(v21:Int):(List j8)->KS:=fun Net2=>⟨T1.k 7 [true,true],(bs 3 (l7 5 x7 told::(.ptr 1 0 0::(bs 3 (.ptr 3 0 0::(bs 10 (l7 13 s5 list::(vi (list.length:Int)::(vi v21::(bs 32 [])))))))))),[some [m5 65 27 A2 (w.a9.set n.Id.toNat n),.dead,m5 78 3 A7 w.d7,m5 72 5 x7 w.Told],some [.var 28 [.own 0 0 27 0 (w.a9.set n.Id.toNat n).length,.own 2 0 13 0 Net2.length,.own 0 2 3 0 w.d7.length,.own 0 3 5 0 w.Told.length]],some [m5 76 13 s5 Net2],some [.var 28 [.nil,.nil,.nil,.nil]]]⟩
def b4K(v21:Int)(Net2:List j8):Option (l8 m6 ((List j8)×Int) (List j8)) :=
 some (l8.nxt (Net2,m8 (v21+1)))
theorem e72(w n list told v21)(lc:I5 T1 (c3C w n told) (c5o w n list told)):NL lc (e8j w n list told v21) (fun s=>b4K v21 s):=fun Net2 h=>PK<|rg<|(lc.nx h fun hI=>sk [] [3,4,8,19,20,21] [(1,0),(3,0),(2,0)] hI)
def a24(list:List j8)(b9:List j8)(v21:Int):Option (l8 m6 ((List j8)×Int) (List j8)) :=
 (bif decide (v21<(list.length:Int)) then ((idx list v21).bind fun msg=>(((bif decide ((b9.length:Int)<40) then (t5 ((b9.length+1)*152<=140737488355328) (some (l9.brk (b9++[msg])))) else some (l9.brk b9)):Option (l9 (l8 m6 ((List j8)×Int) (List j8)) (List j8))).bind fun x=>x.go some fun j=>b4K v21 j)) else some (l8.brk b9))
theorem e2G(w n list told):LQ T1 (c3C w n told) (c5o w n list told) (fun s=>a24 list s.1 s.2):=fun lc (b9,v21) h=>PK<|rg<|j5 0 h (fun h=>rg<|w9 s5 0 h fun msg hmsg h=>B2 h (e72 w n list told v21 lc) fun x2 h hc2=>rg<|j5 3 h (fun h=>rg<|tk 3 B5<|t6 h fun e2 h=>F7 4 17 76 13 152 s5 b9 msg e2<|E5 msg<|(o8 h hc2 fun hI=>sk [] [3,4,8,19,20,21] [(1,0),(17,0),(2,0)] hI)) (fun h=>(o8 h hc2 fun hI=>sk [] [3,4,8,19,20,21] [(1,0),(3,0),(2,0)] hI))) (fun h=>(lc.bk h fun hI=>sk [] [3,4,8] [(1,0),(3,0),(2,0)] hI))
def a4I(w:m6)(n:j6)(list:List j8)(told:List m9):Option m6 :=
 ((idx w.a9 n.Id).bind fun node=>((p8 (fun s:(List j8)×Int=>a24 list s.1 s.2) (w.b9,0)).bind fun x=>x.go (fun r=>some r) fun s=>c0H w n told s))
theorem a8I{w n list told}:OK T1 [.agg (a6U w),.agg (A2 n),l7 13 s5 list,l7 5 x7 told] (a4I w n list told) :=
 n8 _ fun r h=>n6<|A6 h fun node hnode h=>B4 hnode<|O6 65 27 A2 6 A3 n hnode<|rg<|lp (e2G w n list told) h (fun _ h=>T1.rt h) (d7N w n told r) fun hI=>om ((.own 0 0 27 0 w.a9.length:V)=.own 0 0 27 0 (w.a9.set n.Id.toNat n).length) (by simp)<|sk [.is (.cell 1 0 0) (.own 0 0 27 0 (w.a9.set n.Id.toNat n).length)] [3,4,8,19,20,21] [(1,0),(3,0),(0,1)] hI
def a7N:FS (Int):=⟨142,Tryz.f142,[.val [] []],[none,none],[.val [] [],.val [] []],fun r=>vi r,fun _=>[none,none],Tryz.func142⟩
def c9T:Unit->KS:=fun _=>⟨a7N.k 4 [false,false],(bs 28 []),[some []]⟩
def d3j:Option Int :=
 some (-1)
theorem e7A(r):NF a7N r c9T (fun s=>d3j):=fun _ h=>PK<|rg<|fE h
def e8B(who:Int):Int->KS:=fun n=>⟨a7N.k 3 [false],(bs 1 (vi who::(bs 3 (vi n::(bs 22 []))))),[some []]⟩
def a10(who:Int)(n:Int):Option (l8 Int Int Unit) :=
 (bif decide (n<=3000) then (bif decide (n>0) then ((b2H n).bind fun a5f=>(bif (a5f==who) then some (l8.ret n) else some (l8.nxt (m8 (n+1))))) else some (l8.brk ())) else some (l8.brk ()))
theorem d8n(who):LQ a7N c9T (e8B who) (fun s=>a10 who s):=fun lc n h=>PK<|rg<|j5 2 h (fun h=>j5 5 h (fun h=>rg<|j9 c0g d2n 1 h fun a5f h=>j5 3 h (fun h=>rg<|fL lc h) (fun h=>rg<|(lc.nx h fun hI=>sk [] [1,5] [] hI))) (fun h=>(lc.bk h fun hI=>sk [] [] [] hI))) (fun h=>(lc.bk h fun hI=>sk [] [] [] hI))
def b3T(bal:Int)(who:Int):Option Int :=
 (bif decide (bal<0) then some (-1) else ((C5 who 0 2).bind fun in_=>(bif (!in_) then some (-1) else ((p8 (fun s:Int=>a10 who s) (m8 (bal+1))).bind fun x=>x.go (fun r=>some r) fun s=>d3j))))
theorem d3K{bal who}:OK a7N [vi bal,vi who] (b3T bal who) :=
 n8 _ fun r h=>n6<|j5 2 h (fun h=>rg<|fE h) (fun h=>j9 C3 D8 4 h fun in_ h=>j5 6 h (fun h=>rg<|fE h) (fun h=>rg<|lp (d8n who) h (fun _ h=>a7N.rt h) (e7A r) fun hI=>sk [] [1,5] [] hI))
def b8B:FS (x6×Bool):=⟨144,Tryz.f144,[.val [none,some 8] [],.val [] []],[none,none],[.val [none,some 8] [],.val [] []],fun r=>.tup [.agg (Y5 r.1),.b r.2],fun _=>[none,none],Tryz.func144⟩
def a83(a:x6)(bal:Int):Option (x6×Bool) :=
 ((a9R a).bind fun O0=>(bif (!O0) then some ((x6.mk 0 []),false) else ((a4x a).bind fun O8=>((C5 bal 1 3000).bind fun in_=>(bif (!in_) then some (O8,false) else (bif decide (bal<a.g8) then some (O8,false) else some ((x6.mk bal O8.a6),true)))))))
theorem b92{a bal}:OK b8B [.agg (Y5 a),vi bal] (a83 a bal) :=
 n8 _ fun r h=>n6<|j9 a4X b94 1 h fun O0 h=>j5 2 h (fun h=>rg<|fE h) (fun h=>rg<|j9 a8u b0m 1 h fun O8 h=>rg<|j9 C3 D8 1 h fun in_ h=>j5 3 h (fun h=>rg<|s7 O8.a6<|fE h) (fun h=>j5 8 h (fun h=>rg<|s7 O8.a6<|fE h) (fun h=>n6<|s7 O8.a6<|fE h)))
def b5G:FS (j6×List j8):=⟨94,Tryz.f94,[.val A3 [],.val [some 13] []],[none],[.val A3 []],fun r=>.tup [.agg (A2 r.1),l7 13 s5 r.2],fun _=>[none],Tryz.func94⟩
def e7Y:n7->KS:=fun a=>⟨b5G.k 12 [false,true],(bs 2 (.ptr 1 0 0::(bs 1 (.ptr 2 0 0::(bs 74 []))))),[some [],some [.var 65 [vi 0,vi 0,.nil,.nil,vi 0,vi 0,vi 0,.nil,.nil,.b false,vi 0,vi 0,.nil,.nil,vi 0,vi 0,.nil,.b false,.nil,.b false,vi 0,vi 0,.nil,.nil,vi 0,vi 0,.nil]],some [.var 175 (b2j a)]]++a22 a⟩
def b2i(a:n7):Option (j6×List j8) :=
 ((a1l a).bind fun U9=>some (U9.1,U9.2.1))
theorem e60(r):NF b5G r e7Y (fun s=>b2i s):=fun a h=>PK<|rg<|j9 a27 a4k 1 h fun U9 h=>C1 a<|rg<|fE h
def b4L(n:j6):Option (j6×List j8) :=
 ((a3B n).bind fun C7=>(bif (!C7) then some ((j6.mk 0 (x6.mk 0 []) [] 0 0 0 [] [] (m4.mk false (q8.mk 0 0) (n5.mk [] [] 0 0)) [] false [] (m4.mk false (q8.mk 0 0) (n5.mk [] [] 0 0)) []),[]) else ((a8w n).bind fun begin=>((b3T n.Acc.g8 n.Id).bind fun a2t=>(((bif decide (a2t>=0) then ((b1E begin).bind fun follow=>((a83 follow.n.Acc a2t).bind fun T8=>((b1Y (n7.mk (j6.mk follow.n.Id T8.1 follow.n.a0 follow.n.Seq 1 a2t follow.n.c8 follow.n.g9 follow.n.c9 follow.n.a6 follow.n.i7 follow.n.i5 follow.n.b7 follow.n.d9) follow.out follow.told)).bind fun D9=>((a2r (n7.mk (j6.mk D9.2.n.Id D9.2.n.Acc D9.2.n.a0 D9.2.n.Seq D9.2.n.d6 D9.2.n.a7 D9.1 D9.2.n.Acc.a6 D9.2.n.c9 D9.2.n.a6 D9.2.n.i7 D9.2.n.i5 D9.2.n.b7 D9.2.n.d9) D9.2.out D9.2.told) (j8.mk 1 0 0 a2t (n.a0.length:Int) (m4.mk false (q8.mk 0 0) (n5.mk [] [] 0 0)) [])).bind fun all=>some (l9.brk all))))) else some (l9.brk begin)):Option (l9 (j6×List j8) n7)).bind fun x=>x.go some fun j=>b2i j)))))
theorem e1N{n}:OK b5G [.agg (A2 n)] (b4L n) :=
 n8 _ fun r h=>n6<|j9 a0z a8j 1 h fun C7 h=>j5 2 h (fun h=>rg<|fE h) (fun h=>rg<|j9 b3m b3E 1 h fun begin h=>rg<|j9 a7N d3K 5 h fun a2t h=>B2 h (e60 r) fun x1 h hc1=>rg<|j5 1 h (fun h=>rg<|j9 b4M c1C 1 h fun follow h=>I3 begin.n<|C2 begin.out begin.told<|rg<|j9 b8B b92 7 h fun T8 h=>M5<|j9 c1q c54 2 h fun D9 h=>C1 follow<|n6<|j9 a05 a6l 6 h fun all h=>G0 D9.2.n.a0 D9.1 D9.2.n.a6 D9.2.out<|s7 D9.2.told<|(o8 h hc1 fun hI=>sk [] [2,4] [(2,0),(8,0),(71,0),(71,1),(71,2),(71,3),(71,4)] hI)) (fun h=>(o8 h hc1 fun hI=>s7 begin.n.d9<|sk [.frz (.cell 8 0 26) (none)] [2,4] [(2,0),(8,0),(8,1),(8,2),(8,3),(8,5),(8,6)] hI)))
def b3V:FS (j6×(List j8)×List m9):=⟨95,Tryz.f95,[.val A3 [],.val [some 13] [],.val [some 5] []],[none],[.val A3 []],fun r=>.tup [.agg (A2 r.1),l7 13 s5 r.2.1,l7 5 x7 r.2.2],fun _=>[none],Tryz.func95⟩
def e6m:n7->KS:=fun a=>⟨b3V.k 7 [false,true],(bs 2 (.ptr 1 0 0::(bs 2 (.ptr 2 0 0::(bs 55 []))))),[some [],some [.var 65 [vi 0,vi 0,.nil,.nil,vi 0,vi 0,vi 0,.nil,.nil,.b false,vi 0,vi 0,.nil,.nil,vi 0,vi 0,.nil,.b false,.nil,.b false,vi 0,vi 0,.nil,.nil,vi 0,vi 0,.nil]],some [.var 175 (b2j a)]]++a22 a⟩
def b68(a:n7):Option (j6×(List j8)×List m9) :=
 ((a1l a).bind fun U9=>some (U9.1,U9.2.1,U9.2.2.1))
theorem e75(r):NF b3V r e6m (fun s=>b68 s):=fun a h=>PK<|rg<|j9 a27 a4k 1 h fun U9 h=>C1 a<|fE h
def b5J(n:j6):Option (j6×(List j8)×List m9) :=
 ((a3B n).bind fun C7=>(bif (!C7) then some ((j6.mk 0 (x6.mk 0 []) [] 0 0 0 [] [] (m4.mk false (q8.mk 0 0) (n5.mk [] [] 0 0)) [] false [] (m4.mk false (q8.mk 0 0) (n5.mk [] [] 0 0)) []),[],[]) else ((a8w n).bind fun begin=>((a2r begin (j8.mk 8 0 0 0 (n.a0.length:Int) (m4.mk false (q8.mk 0 0) (n5.mk [] [] 0 0)) [])).bind fun all=>(((bif (n.d6==1) then ((a2r all (j8.mk 1 0 0 n.a7 (n.a0.length:Int) (m4.mk false (q8.mk 0 0) (n5.mk [] [] 0 0)) [])).bind fun c9X=>some (l9.brk c9X)) else (bif (n.d6==2) then ((a51 all).bind fun X5=>some (l9.brk X5)) else (bif (n.d6==3) then ((a2r all (j8.mk 3 0 0 n.a7 (n.a0.length:Int) n.c9 [])).bind fun c7D=>some (l9.brk c7D)) else (bif n.i7 then ((a2r all (j8.mk 7 0 0 0 0 n.b7 [])).bind fun d0q=>some (l9.brk d0q)) else some (l9.brk all))))):Option (l9 (j6×(List j8)×List m9) n7)).bind fun x=>x.go some fun j=>b68 j)))))
theorem e22{n}:OK b3V [.agg (A2 n)] (b5J n) :=
 n8 _ fun r h=>n6<|j9 a0z a8j 1 h fun C7 h=>j5 2 h (fun h=>rg<|fE h) (fun h=>rg<|j9 b3m b3E 1 h fun begin h=>n6<|j9 a05 a6l 3 h fun all h=>I3 begin.n<|C2 begin.out begin.told<|B2 h (e75 r) fun x1 h hc1=>rg<|j5 3 h (fun h=>rg<|j9 a05 a6l 5 h fun c9X h=>C1 all<|(o8 h hc1 fun hI=>sk [] [2,5] [(2,0),(9,0),(28,0),(28,1),(28,2),(28,3),(28,4)] hI)) (fun h=>rg<|j5 3 h (fun h=>rg<|j9 a9O b1T 1 h fun X5 h=>C1 all<|(o8 h hc1 fun hI=>sk [] [2,5] [(2,0),(9,0),(28,0),(28,1),(28,2),(28,3),(28,4)] hI)) (fun h=>rg<|j5 3 h (fun h=>rg<|j9 a05 a6l 7 h fun c7D h=>C1 all<|(o8 h hc1 fun hI=>sk [] [2,5] [(2,0),(9,0),(38,0),(38,1),(38,2),(38,3),(38,4)] hI)) (fun h=>rg<|j5 2 h (fun h=>rg<|j9 a05 a6l 4 h fun d0q h=>C1 all<|(o8 h hc1 fun hI=>sk [] [2,5] [(2,0),(9,0),(38,0),(38,1),(38,2),(38,3),(38,4)] hI)) (fun h=>(o8 h hc1 fun hI=>sk [] [2,5] [(2,0),(9,0),(18,0),(18,1),(18,2),(18,3),(18,4)] hI))))))
def c5R:FS (j6):=⟨96,Tryz.f96,[.val A3 []],[none],[.val A3 []],fun r=>.agg (A2 r),fun _=>[none],Tryz.func96⟩
def b46(n:j6):Option j6 :=
 ((a3B n).bind fun C7=>(bif (!C7) then some (j6.mk 0 (x6.mk 0 []) [] 0 0 0 [] [] (m4.mk false (q8.mk 0 0) (n5.mk [] [] 0 0)) [] false [] (m4.mk false (q8.mk 0 0) (n5.mk [] [] 0 0)) []) else ((a7C (j6.mk n.Id n.Acc n.a0 n.Seq 0 0 [] [] (m4.mk false (q8.mk 0 0) (n5.mk [] [] 0 0)) [] false [] (m4.mk false (q8.mk 0 0) (n5.mk [] [] 0 0)) [])).bind fun V6=>some V6)))
theorem e3O{n}:OK c5R [.agg (A2 n)] (b46 n) :=
 n8 _ fun r h=>n6<|j9 a0z a8j 1 h fun C7 h=>j5 2 h (fun h=>rg<|fE h) (fun h=>rg<|j9 b2k b38 9 h fun V6 h=>I3 V6<|fE h)
def a7Z:FS (m6):=⟨50,Tryz.f50,[.val E4 om2],[none,none],[.val E4 om2,.val [none,none,some 4] []],fun r=>.agg (a6U r),fun _=>[none,none],Tryz.func50⟩
def d33:m6->KS:=fun w1=>⟨a7Z.k 9 [true,false,true],(bs 2 (.ptr 1 0 0::(bs 1 (.ptr 6 0 0::(bs 86 []))))),[some [.dead,.dead,.dead,.dead],some [.var 28 [.own 2 0 27 0 w1.a9.length,.own 3 0 13 0 w1.b9.length,.own 4 0 3 0 w1.d7.length,.own 5 0 5 0 w1.Told.length]],some [m5 65 27 A2 w1.a9],some [m5 76 13 s5 w1.b9],some [m5 78 3 A7 w1.d7],some [m5 72 5 x7 w1.Told],some [.var 28 [.nil,.nil,.nil,.nil]]]⟩
def b6b(w1:m6):Option m6 :=
 some w1
theorem d7P(r):NF a7Z r d33 (fun s=>b6b s):=fun w1 h=>PK<|rg<|A5 w1<|fE h
def a57(w:m6)(e_:p7):Option m6 :=
 ((idx w.a9 e_.A).bind fun node=>(((bif (e_.a8==1) then (bif decide ((w.d7.length:Int)>=60) then some (l9.ret w) else ((b8p node e_.i5).bind fun H5=>((a4I w H5.1 H5.2.1 H5.2.2).bind fun a2p=>(bif (H5.1.Seq != node.Seq) then (t5 ((a2p.d7.length+1)*40<=140737488355328) (some (l9.brk (m6.mk a2p.a9 a2p.b9 (a2p.d7++[(v5.mk (q8.mk node.Id H5.1.Seq) e_.i5)]) a2p.Told)))) else some (l9.brk a2p))))) else (bif (e_.a8==5) then ((b4L node).bind fun a0t=>((a4I w a0t.1 a0t.2 []).bind fun b3b=>some (l9.brk b3b))) else (bif (e_.a8==6) then ((b5J node).bind fun X3=>((a4I w X3.1 X3.2.1 X3.2.2).bind fun c5M=>some (l9.brk c5M))) else (bif (e_.a8==7) then ((b46 node).bind fun a1w=>((a4I w a1w [] []).bind fun c5i=>some (l9.brk c5i))) else some (l9.brk w))))):Option (l9 m6 m6)).bind fun x=>x.go some fun j=>b6b j))
theorem b50{w e_}:OK a7Z [.agg (a6U w),.agg (G1 e_)] (a57 w e_) :=
 n8 _ fun r h=>n6<|A6 h fun node hnode h=>B4 hnode<|H8 A2 5 hnode<|rg<|B2 h (d7P r) fun x1 h hc1=>rg<|j5 1 h (fun h=>rg<|j5 3 h (fun h=>rg<|(B7 h hc1 fun h=>A5 w<|fE h)) (fun h=>rg<|j9 b4C e8i 3 h fun H5 h=>rg<|j9 T1 a8I 4 h fun a2p h=>A5 w<|rg<|j5 4 h (fun h=>rg<|tk 10 [none,none,some 4]<|t6 h fun e1 h=>F7 11 54 78 3 40 A7 a2p.d7 (v5.mk (q8.mk node.Id H5.1.Seq) e_.i5) e1<|E5 (v5.mk (q8.mk node.Id H5.1.Seq) e_.i5)<|(o8 h hc1 fun hI=>sk [] [2,4] [(1,0),(36,0),(36,1),(54,0),(36,3),(3,0)] hI)) (fun h=>(o8 h hc1 fun hI=>sk [] [2,4] [(1,0),(36,0),(36,1),(36,2),(36,3),(3,0)] hI)))) (fun h=>rg<|j5 1 h (fun h=>rg<|j9 b5G e1N 1 h fun a0t h=>rg<|j9 T1 a8I 3 h fun b3b h=>A5 w<|(o8 h hc1 fun hI=>sk [] [2,4] [(1,0),(29,0),(29,1),(29,2),(29,3),(3,0)] hI)) (fun h=>rg<|j5 1 h (fun h=>rg<|j9 b3V e22 1 h fun X3 h=>rg<|j9 T1 a8I 4 h fun c5M h=>A5 w<|(o8 h hc1 fun hI=>sk [] [2,4] [(1,0),(34,0),(34,1),(34,2),(34,3),(3,0)] hI)) (fun h=>rg<|j5 1 h (fun h=>rg<|j9 c5R e3O 2 h fun a1w h=>j9 T1 a8I 3 h fun c5i h=>A5 w<|(o8 h hc1 fun hI=>sk [] [2,4] [(1,0),(25,0),(25,1),(25,2),(25,3),(3,0)] hI)) (fun h=>(o8 h hc1 fun hI=>sk [] [2,4] [(1,0),(0,0),(0,1),(0,2),(0,3),(3,0)] hI)))))
def b9l:FS (List j8):=⟨97,Tryz.f97,[.val [some 13] [some 76]],[none,none],[.val [some 13] [],.val [] []],fun r=>u7 76 13 s5 r,fun _=>[none,none],Tryz.func97⟩
def b3c(list:List j8)(at_:Int):Option (List j8) :=
 (t5 ((0:Int)<=at_/\at_<=(list.length:Int)) ((t5 ((([]:List j8).length+((list.drop 0).take (at_.toNat-0)).length)*152<=140737488355328) ((t5 ((0:Int)<=m8 (at_+1)/\m8 (at_+1)<=(list.length:Int)) ((t5 (((([]:List j8)++((list.drop 0).take (at_.toNat-0))).length+((list.drop (m8 (at_+1)).toNat).take (list.length-(m8 (at_+1)).toNat)).length)*152<=140737488355328) (some ((([]:List j8)++((list.drop 0).take (at_.toNat-0)))++((list.drop (m8 (at_+1)).toNat).take (list.length-(m8 (at_+1)).toNat)))))))))))
theorem c8P{list at_}:OK b9l [l7 13 s5 list,vi at_] (b3c list at_) :=
 n8 _ fun r h=>n6<|tk 0 B5<|t6 h fun e1 h=>om (V.sl 13 (at_.toNat-0) (((list.map s5).drop 0).take (at_.toNat-0))=l7 13 s5 ((list.drop 0).take (at_.toNat-0))) (b1X e1)<|ob e1.1<|ob e1.2<|tl (3,{v:=some (l7 13 s5 ((list.drop 0).take (at_.toNat-0)))})<|t6 h fun e2 h=>om (V.own 6 0 13 0 (([]:List j8).length+((list.drop 0).take (at_.toNat-0)).length)=.own 6 0 13 0 (([]:List j8)++((list.drop 0).take (at_.toNat-0))).length) (by first|exact congrArg (V.own 6 0 13 0) e9T.symm|simp)<|om (s6.row 76 13 (([]:List j8).length+((list.drop 0).take (at_.toNat-0)).length) (([]:List j8).map s5++((list.drop 0).take (at_.toNat-0)).map s5)=m5 76 13 s5 (([]:List j8)++((list.drop 0).take (at_.toNat-0)))) (by first|exact c0q rfl rfl|simp [m5])<|B6 j8<|ob e2<|tl (4,{v:=some (.own 6 0 13 0 (([]:List j8)++((list.drop 0).take (at_.toNat-0))).length),e:=some (m5 76 13 s5 (([]:List j8)++((list.drop 0).take (at_.toNat-0))))})<|t6 h fun e3 h=>om (V.sl 13 (list.length-(m8 (at_+1)).toNat) (((list.map s5).drop (m8 (at_+1)).toNat).take (list.length-(m8 (at_+1)).toNat))=l7 13 s5 ((list.drop (m8 (at_+1)).toNat).take (list.length-(m8 (at_+1)).toNat))) (b5O e3)<|ob e3.1<|ob e3.2<|tl (8,{v:=some (l7 13 s5 ((list.drop (m8 (at_+1)).toNat).take (list.length-(m8 (at_+1)).toNat)))})<|t6 h fun e4 h=>apL 9 11 76 13 152 s5 (([]:List j8)++((list.drop 0).take (at_.toNat-0))) ((list.drop (m8 (at_+1)).toNat).take (list.length-(m8 (at_+1)).toNat)) e4<|s7 ((([]:List j8)++((list.drop 0).take (at_.toNat-0)))++((list.drop (m8 (at_+1)).toNat).take (list.length-(m8 (at_+1)).toNat)))<|fE h
def b4J:FS (n7):=⟨151,Tryz.f151,[],[some (0,.ptr H6 L4),none],[.ptr H6 L4,.val [] []],fun _=>.tup [],fun r=>[some (.optr 175 (K8 r)),none],Tryz.func151⟩
def a91(a:n7)(bal:Int):Option n7 :=
 (bif (a.n.d6 != 0) then (bif decide (bal>a.n.a7) then ((b1E a).bind fun follow=>some follow) else some a) else some a)
theorem c0E{a bal}:OK b4J [.optr 175 (K8 a),vi bal] (a91 a bal) :=
 n8 _ fun r h=>rg<|j5 6 h (fun h=>j5 14 h (fun h=>rg<|j9 b4M c1C 1 h fun follow h=>C1 a<|C1 follow<|fE h) (fun h=>C1 a<|fE h)) (fun h=>C1 a<|fE h)
def b65:FS (n7):=⟨146,Tryz.f146,[],[some (0,.ptr H6 L4),none],[.ptr H6 L4,.val B5 []],fun _=>.tup [],fun r=>[some (.optr 175 (K8 r)),none],Tryz.func146⟩
def e1r(m:j8)(yield:n7):(List m7)->KS:=fun b45=>⟨b65.k 8 [false,true],(.ptr 0 0 0::(bs 2 (.ptr 6 0 0::(bs 2 (l7 8 p6 b45::(bs 54 [])))))),[some [.var 175 (b1q yield),.dead,.dead,.dead,.dead,.dead]]++a22 yield++[some [.var 76 (a38 m)]]⟩
def b4x(m:j8)(yield:n7)(b45:List m7):Option n7 :=
 ((a3A yield m.c8 (j8.mk 2 0 0 m.a7 m.g7 (m4.mk false (q8.mk 0 0) (n5.mk [] [] 0 0)) b45)).bind fun a7g=>some a7g)
theorem e6Z(m yield)(r):NF b65 r (e1r m yield) (fun s=>b4x m yield s):=fun b45 h=>PK<|rg<|j9 a6b a7d 9 h fun a7g h=>C1 yield<|C1 a7g<|fE h
def b8a(a:n7)(m:j8):Option n7 :=
 ((a83 a.n.Acc m.a7).bind fun T8=>(bif (!T8.2) then ((a3A a m.c8 (j8.mk 6 0 0 a.n.Acc.g8 0 (m4.mk false (q8.mk 0 0) (n5.mk [] [] 0 0)) [])).bind fun W9=>some W9) else ((a91 (n7.mk (j6.mk a.n.Id T8.1 a.n.a0 a.n.Seq a.n.d6 a.n.a7 a.n.c8 a.n.g9 a.n.c9 a.n.a6 a.n.i7 a.n.i5 a.n.b7 a.n.d9) a.out a.told) m.a7).bind fun yield=>(((bif decide (m.g7<(T8.1.a6.length:Int)) then (t5 ((0:Int)<=m.g7/\m.g7<=(T8.1.a6.length:Int)) (some (l9.brk ((T8.1.a6.drop m.g7.toNat).take (T8.1.a6.length-m.g7.toNat))))) else some (l9.brk [])):Option (l9 n7 (List m7))).bind fun x=>x.go some fun j=>b4x m yield j))))
theorem e4h{a m}:OK b65 [.optr 175 (K8 a),.agg (s5 m)] (b8a a m) :=
 n8 _ fun r h=>n6<|j9 b8B b92 7 h fun T8 h=>rg<|j5 1 h (fun h=>rg<|j9 a6b a7d 10 h fun W9 h=>C1 a<|C1 W9<|fE h) (fun h=>n6<|j9 b4J c0E 3 h fun yield h=>C1 a<|rg<|B2 h (e6Z m yield r) fun x1 h hc1=>rg<|j5 5 h (fun h=>rg<|t6 h fun e1 h=>om (V.sl 8 (T8.1.a6.length-m.g7.toNat) (((T8.1.a6.map p6).drop m.g7.toNat).take (T8.1.a6.length-m.g7.toNat))=l7 8 p6 ((T8.1.a6.drop m.g7.toNat).take (T8.1.a6.length-m.g7.toNat))) (b5O e1)<|ob e1.1<|ob e1.2<|tl (4,{v:=some (l7 8 p6 ((T8.1.a6.drop m.g7.toNat).take (T8.1.a6.length-m.g7.toNat)))})<|(o8 h hc1 fun hI=>sk [] [0,3,6] [(27,0),(27,1),(27,2),(27,3),(27,4),(1,0)] hI)) (fun h=>(o8 h hc1 fun hI=>sk [.frz (.tmp 6) (some 8)] [0,3,6] [(27,0),(27,1),(27,2),(27,3),(27,4),(1,0)] hI)))
def a2z:FS (List m7):=⟨176,Tryz.f176,[.val [some 8] []],[none,none],[.val [some 8] [],.val [some 8] []],fun r=>l7 8 p6 r,fun _=>[none,none],Tryz.func176⟩
def b7I:(List m7)->KS:=fun out1=>⟨a2z.k 5 [false,false],(bs 5 (.own 1 0 8 0 out1.length::(bs 67 []))),[some [],some [m5 152 8 p6 out1]]⟩
def c3i(out1:List m7):Option (List m7) :=
 ((a8m out1).bind fun a0n=>some a0n)
theorem d32(r):NF a2z r b7I (fun s=>c3i s):=fun out1 h=>PK<|rg<|j9 a3X b5z 1 h fun a0n h=>C2 out1 a0n<|fE h
def c1j(a:List m7)(b:List m7):((List m7)×Int)->KS:=fun (out,i)=>⟨a2z.k 4 [false],(l7 8 p6 a::(l7 8 p6 b::(bs 3 (.own 1 0 8 0 out.length::(vi i::(bs 66 [])))))),[some [],some [m5 152 8 p6 out]]⟩
def d4c(a:List m7)(b:List m7)(out:List m7)(i:Int):Unit->KS:=fun _=>⟨a2z.k 5 [false,true],(l7 8 p6 a::(l7 8 p6 b::(bs 3 (.own 1 0 8 0 out.length::(vi i::(bs 66 [])))))),[some [],some [m5 152 8 p6 out]]⟩
def d5H(a:List m7)(b:List m7)(i:Int):(List m7)->KS:=fun out2=>⟨a2z.k 7 [false,true,true],(l7 8 p6 a::(l7 8 p6 b::(bs 3 (.own 1 0 8 0 out2.length::(vi i::(bs 66 [])))))),[some [],some [m5 152 8 p6 out2]]⟩
def c2T(i:Int)(out2:List m7):Option (l8 (List m7) ((List m7)×Int) (List m7)) :=
 some (l8.nxt (out2,m8 (i+1)))
theorem d7A(a b i)(lc:I5 a2z b7I (c1j a b)):NL lc (d5H a b i) (fun s=>c2T i s):=fun out2 h=>PK<|rg<|(lc.nx h fun hI=>sk [] [0,1,5,6] [(1,0)] hI)
def b4D(a:List m7)(b:List m7)(out:List m7)(i:Int):Option (l8 (List m7) ((List m7)×Int) (List m7)) :=
 (((bif decide (i>=(a.length:Int)) then ((idx b i).bind fun vote=>(t5 ((out.length+1)*96<=140737488355328) (some (l9.brk (out++[vote]))))) else (bif decide (i>=(b.length:Int)) then ((idx a i).bind fun R0=>(t5 ((out.length+1)*96<=140737488355328) (some (l9.brk (out++[R0]))))) else ((idx a i).bind fun b2d=>((idx b i).bind fun b0U=>(bif decide (b2d.a7>=b0U.a7) then (t5 ((out.length+1)*96<=140737488355328) (some (l9.brk (out++[b2d])))) else (t5 ((out.length+1)*96<=140737488355328) (some (l9.brk (out++[b0U]))))))))):Option (l9 (l8 (List m7) ((List m7)×Int) (List m7)) (List m7))).bind fun x=>x.go some fun j=>c2T i j)
theorem d6s(a b out i)(lc:I5 a2z b7I (c1j a b)):NL lc (d4c a b out i) (fun s=>b4D a b out i):=fun _ h=>PK<|B2 h (d7A a b i lc) fun x2 h hc2=>rg<|j5 4 h (fun h=>rg<|w9 p6 3 h fun vote M9 h=>tk 5 T5<|t6 h fun e1 h=>F7 6 13 152 8 96 p6 out vote e1<|E5 vote<|(o8 h hc2 fun hI=>sk [] [0,1,5,6] [(13,0)] hI)) (fun h=>rg<|j5 4 h (fun h=>rg<|w9 p6 3 h fun R0 a29 h=>tk 5 T5<|t6 h fun e2 h=>F7 6 31 152 8 96 p6 out R0 e2<|E5 R0<|(o8 h hc2 fun hI=>sk [] [0,1,5,6] [(31,0)] hI)) (fun h=>w9 p6 7 h fun b2d d7l h=>w9 p6 12 h fun b0U d7b h=>j5 17 h (fun h=>rg<|L7 p6 3 d7l<|tk 5 T5<|t6 h fun e3 h=>F7 6 31 152 8 96 p6 out b2d e3<|E5 b2d<|(o8 h hc2 fun hI=>sk [] [0,1,5,6] [(31,0)] hI)) (fun h=>rg<|L7 p6 3 d7b<|tk 5 T5<|t6 h fun e4 h=>F7 6 31 152 8 96 p6 out b0U e4<|E5 b0U<|(o8 h hc2 fun hI=>sk [] [0,1,5,6] [(31,0)] hI))))
def a5X(a:List m7)(b:List m7)(out:List m7)(i:Int):Option (l8 (List m7) ((List m7)×Int) (List m7)) :=
 (((bif decide (i<(a.length:Int)) then some (l9.brk ()) else (bif decide (i<(b.length:Int)) then some (l9.brk ()) else some (l9.ret (l8.brk out)))):Option (l9 (l8 (List m7) ((List m7)×Int) (List m7)) Unit)).bind fun x=>x.go some fun j=>b4D a b out i)
theorem e1Q(a b):LQ a2z b7I (c1j a b) (fun s=>a5X a b s.1 s.2):=fun lc (out,i) h=>PK<|B2 h (d6s a b out i lc) fun x2 h hc2=>rg<|j5 4 h (fun h=>(o8 h hc2 fun hI=>sk [] [0,1,5,6] [(1,0)] hI)) (fun h=>j5 9 h (fun h=>(o8 h hc2 fun hI=>sk [] [0,1,5,6] [(1,0)] hI)) (fun h=>(B7 h hc2 fun h=>(lc.bk h fun hI=>sk [] [5] [(1,0)] hI))))
def b4O(a:List m7)(b:List m7):Option (List m7) :=
 ((a52 a).bind fun K2=>(bif (!K2) then some [] else ((a52 b).bind fun d0o=>(bif (!d0o) then some [] else ((p8 (fun s:(List m7)×Int=>a5X a b s.1 s.2) ([],0)).bind fun x=>x.go (fun r=>some r) fun s=>c3i s)))))
theorem e8N{a b}:OK a2z [l7 8 p6 a,l7 8 p6 b] (b4O a b) :=
 n8 _ fun r h=>n6<|j9 a2D b0x 1 h fun K2 h=>j5 3 h (fun h=>rg<|fE h) (fun h=>j9 a2D b0x 5 h fun d0o h=>j5 7 h (fun h=>rg<|fE h) (fun h=>n6<|lp (e1Q a b) h (fun _ h=>a2z.rt h) (d32 r) fun hI=>sk [.own (.tmp 5) 152 8] [0,1,5,6] [(12,0)] hI))
def a3H:FS (Int):=⟨177,Tryz.f177,[.val [] []],[none],[.val [some 1] []],fun r=>vi r,fun _=>[none],Tryz.func177⟩
def c1A:Int->KS:=fun n1=>⟨a3H.k 4 [false],(bs 3 (vi n1::(bs 13 []))),[some []]⟩
def c9f(n1:Int):Option Int :=
 some n1
theorem e7W(r):NF a3H r c1A (fun s=>c9f s):=fun n1 h=>PK<|rg<|fE h
def c57(list:List Bool):(Int×Int)->KS:=fun (n,v8)=>⟨a3H.k 3 [],(bs 3 (vi n::(bs 2 (l7 1 eB list::(vi (list.length:Int)::(vi v8::(bs 8 []))))))),[some []]⟩
def d8d(list:List Bool)(v8:Int):Int->KS:=fun n2=>⟨a3H.k 7 [true,true],(bs 3 (vi n2::(bs 2 (l7 1 eB list::(vi (list.length:Int)::(vi v8::(bs 8 []))))))),[some []]⟩
def c2F(v8:Int)(n2:Int):Option (l8 Int (Int×Int) Int) :=
 some (l8.nxt (n2,m8 (v8+1)))
theorem d6o(list v8)(lc:I5 a3H c1A (c57 list)):NL lc (d8d list v8) (fun s=>c2F v8 s):=fun n2 h=>PK<|rg<|(lc.nx h fun hI=>sk [] [3,6,7,8] [] hI)
def a4H(list:List Bool)(n:Int)(v8:Int):Option (l8 Int (Int×Int) Int) :=
 (bif decide (v8<(list.length:Int)) then ((idx list v8).bind fun y=>(((bif y then some (l9.brk (m8 (n+1))) else some (l9.brk n)):Option (l9 (l8 Int (Int×Int) Int) Int)).bind fun x=>x.go some fun j=>c2F v8 j)) else some (l8.brk n))
theorem e4x(list):LQ a3H c1A (c57 list) (fun s=>a4H list s.1 s.2):=fun lc (n,v8) h=>PK<|rg<|j5 0 h (fun h=>rg<|w9 eB 0 h fun y hy h=>B2 h (d6o list v8 lc) fun x2 h hc2=>rg<|j5 0 h (fun h=>rg<|(o8 h hc2 fun hI=>sk [] [3,6,7,8] [] hI)) (fun h=>(o8 h hc2 fun hI=>sk [] [3,6,7,8] [] hI))) (fun h=>(lc.bk h fun hI=>sk [] [3] [] hI))
def b0T(list:List Bool):Option Int :=
 ((p8 (fun s:Int×Int=>a4H list s.1 s.2) (0,0)).bind fun x=>x.go (fun r=>some r) fun s=>c9f s)
theorem c8Q{list}:OK a3H [l7 1 eB list] (b0T list) :=
 n8 _ fun r h=>M5<|lp (e4x list) h (fun _ h=>a3H.rt h) (e7W r) fun hI=>sk [] [3,6,7,8] [] hI
def c4r:FS (n7):=⟨147,Tryz.f147,[],[some (0,.ptr H6 L4),none],[.ptr H6 L4,.val B5 []],fun _=>.tup [],fun r=>[some (.optr 175 (K8 r)),none],Tryz.func147⟩
def b4b(a:n7)(m:j8):Option n7 :=
 (bif (a.n.d6 != 1) then some a else (bif (m.a7 != a.n.a7) then some a else ((idx a.n.c8 m.c8).bind fun y=>(t5 (0<=m.g7/\m.g7*96<=140737488355328) ((t5 (((e9L m.g7.toNat (m7.mk 0 (m4.mk false (q8.mk 0 0) (n5.mk [] [] 0 0)))).length+m.a6.length)*96<=140737488355328) (((b4O a.n.g9 ((e9L m.g7.toNat (m7.mk 0 (m4.mk false (q8.mk 0 0) (n5.mk [] [] 0 0))))++m.a6)).bind fun b9t=>((b0T (a.n.c8.set m.c8.toNat true)).bind fun b18=>(bif decide (b18>=2) then ((a51 (n7.mk (j6.mk a.n.Id a.n.Acc a.n.a0 a.n.Seq 2 a.n.a7 [] b9t a.n.c9 a.n.a6 a.n.i7 a.n.i5 a.n.b7 a.n.d9) a.out a.told)).bind fun X5=>some X5) else some (n7.mk (j6.mk a.n.Id a.n.Acc a.n.a0 a.n.Seq a.n.d6 a.n.a7 (a.n.c8.set m.c8.toNat true) b9t a.n.c9 a.n.a6 a.n.i7 a.n.i5 a.n.b7 a.n.d9) a.out a.told)))))))))))
theorem e9x{a m}:OK c4r [.optr 175 (K8 a),.agg (s5 m)] (b4b a m) :=
 n8 _ fun r h=>n6<|j5 6 h (fun h=>C1 a<|fE h) (fun h=>j5 15 h (fun h=>C1 a<|fE h) (fun h=>rg<|A6 h fun y hy h=>B4 hy<|O6 4 1 eB 8 [] true hy<|rg<|t6 h fun e1 h=>U1 8 35 152 8 96 p6 (m7.mk 0 (m4.mk false (q8.mk 0 0) (n5.mk [] [] 0 0))) b3B (.ck T5) e1 (by decide) (by rfl)<|t6 h fun e2 h=>apL 11 38 152 8 96 p6 (e9L m.g7.toNat (m7.mk 0 (m4.mk false (q8.mk 0 0) (n5.mk [] [] 0 0)))) m.a6 e2<|j9 a2z e8N 12 h fun b9t h=>s7 ((e9L m.g7.toNat (m7.mk 0 (m4.mk false (q8.mk 0 0) (n5.mk [] [] 0 0))))++m.a6)<|rg<|S0 a3H c8Q 5 1 h fun b18 h=>om (a.n.c8.length=(a.n.c8.set m.c8.toNat true).length) (by simp)<|j5 6 h (fun h=>M5<|j9 a9O b1T 1 h fun X5 h=>G0 a.n.a0 a.n.a6 a.out a.told<|C1 X5<|fE h) (fun h=>s7 a.n.a0<|om (a.n.c8.length=(a.n.c8.set m.c8.toNat true).length) (by simp)<|W0 a.n.a6 a.out a.told<|fE h)))
def c96:FS (n7):=⟨148,Tryz.f148,[],[some (0,.ptr H6 L4),none],[.ptr H6 L4,.val B5 []],fun _=>.tup [],fun r=>[some (.optr 175 (K8 r)),none],Tryz.func148⟩
def b8E(a:n7)(m:j8):Option n7 :=
 ((b29 a.n.Acc m.a7 m.g7 m.i0).bind fun a8l=>(bif (!a8l.2) then ((a3A a m.c8 (j8.mk 6 0 0 a.n.Acc.g8 0 (m4.mk false (q8.mk 0 0) (n5.mk [] [] 0 0)) [])).bind fun W9=>some W9) else ((a91 (n7.mk (j6.mk a.n.Id a8l.1 a.n.a0 a.n.Seq a.n.d6 a.n.a7 a.n.c8 a.n.g9 a.n.c9 a.n.a6 a.n.i7 a.n.i5 a.n.b7 a.n.d9) a.out a.told) m.a7).bind fun yield=>((a3A yield m.c8 (j8.mk 4 0 0 m.a7 m.g7 (m4.mk false (q8.mk 0 0) (n5.mk [] [] 0 0)) [])).bind fun a7g=>some a7g))))
theorem e3b{a m}:OK c96 [.optr 175 (K8 a),.agg (s5 m)] (b8E a m) :=
 n8 _ fun r h=>n6<|j9 a6A d1h 11 h fun a8l h=>rg<|j5 1 h (fun h=>rg<|j9 a6b a7d 10 h fun W9 h=>C1 a<|C1 W9<|fE h) (fun h=>n6<|j9 b4J c0E 3 h fun yield h=>C1 a<|rg<|j9 a6b a7d 8 h fun a7g h=>C1 yield<|C1 a7g<|fE h)
def a2a:FS (n7):=⟨178,Tryz.f178,[],[some (0,.ptr H6 L4),none],[.ptr H6 L4,.val J9 []],fun _=>.tup [],fun r=>[some (.optr 175 (K8 r)),none],Tryz.func178⟩
def e0E:n7->KS:=fun a1=>⟨a2a.k 6 [true],(.ptr 0 0 0::(bs 123 [])),[some ([.var 175 (d08 a1),.dead,m5 4 1 eB a1.n.c8,.dead]++d0Q a1)]++c8m a1⟩
def d0L:n7->KS:=fun a2=>⟨a2a.k 16 [true,true,true],(.ptr 0 0 0::(bs 123 [])),[some [.var 175 (d7q a2),.dead,m5 4 1 eB a2.n.c8,.dead,m5 76 13 s5 a2.out,.dead]]++d8e a2⟩
def b5r(a2:n7):Option n7 :=
 ((a51 a2).bind fun X5=>some X5)
theorem e1R(r):NF a2a r d0L (fun s=>b5r s):=fun a2 h=>PK<|rg<|j9 a9O b1T 1 h fun X5 h=>C1 a2<|C1 X5<|fE h
def e5b(a1:n7)(y:Int):Int->KS:=fun a9E=>⟨a2a.k 12 [true,true,true],(.ptr 0 0 0::(bs 6 (.ptr 3 0 0::(bs 116 [])))),[some ([.var 175 (d08 a1),.dead,m5 4 1 eB a1.n.c8,.dead]++d0Q a1)]++c8m a1++[some [.var 72 [vi a1.n.Id,vi a1.n.b7.a5.d8,vi a1.n.b7.a5.Seq,vi y,vi a9E]]]⟩
def b8F(a1:n7)(y:Int)(a9E:Int):Option (l9 n7 n7) :=
 (t5 ((a1.told.length+1)*40<=140737488355328) (some (l9.brk (n7.mk (j6.mk a1.n.Id a1.n.Acc a1.n.a0 a1.n.Seq a1.n.d6 a1.n.a7 a1.n.c8 a1.n.g9 a1.n.c9 a1.n.a6 false [] (m4.mk false (q8.mk 0 0) (n5.mk [] [] 0 0)) a1.n.d9) a1.out (a1.told++[(m9.mk a1.n.Id a1.n.b7.a5 y a9E)])))))
theorem d3S(a1 y)(r){x1}(hc1:JC (fun j=>FK cx a2a.X (a2a.R r) (a2a.O r) (d0L j)) r x1):NG a2a r (e5b a1 y) (fun s=>b8F a1 y s) x1:=fun a9E h=>PK<|rg<|tk 6 []<|t6 h fun e2 h=>F7 7 11 72 5 40 x7 a1.told (m9.mk a1.n.Id a1.n.b7.a5 y a9E) e2<|E5 (m9.mk a1.n.Id a1.n.b7.a5 y a9E)<|M5<|(o8 h hc1 fun hI=>sk [.frz (.cell 0 0 18) (some 4),.frz (.cell 0 0 22) (some 2),.frz (.cell 0 0 23) (some 2)] [0] [(1,0),(2,0),(11,0)] hI)
def b7q(a1:n7):Option n7 :=
 ((a8H a1.n.a0 a1.n.b7.a5).bind fun first=>(((bif a1.n.i7 then (bif decide (first>=0) then ((b3x a1.n.a0).bind fun z4=>((idx z4.2 first).bind fun y=>(((bif (y==0) then ((idx a1.n.a0 first).bind fun entry=>some (l9.brk entry.b8.f0)) else some (l9.brk 0)):Option (l9 (l9 n7 n7) Int)).bind fun x=>x.go some fun j=>b8F a1 y j))) else some (l9.brk a1)) else some (l9.brk a1)):Option (l9 n7 n7)).bind fun x=>x.go some fun j=>b5r j))
theorem d9N(r):NF a2a r e0E (fun s=>b7q s):=fun a1 h=>PK<|rg<|S0 a2l c3k 11 2 h fun first h=>s7 a1.n.a0<|B2 h (e1R r) fun x1 h hc1=>rg<|j5 5 h (fun h=>j5 8 h (fun h=>rg<|cbS a4R c83 5 (fun _=>(by simp [a4R,M3,T9,O4,V.simple,vi,u7,b2r,z5,B3,eI,Z1,a7O])) (fun _=>(P8 1)) h fun z4 h=>s7 a1.n.a0<|rg<|A6 h fun y hy h=>B4 hy<|H8 eI 14 hy<|B2 h (d3S a1 y r hc1) fun x2 h hc2=>rg<|j5 2 h (fun h=>rg<|A6 h fun entry H0 h=>B4 H0<|H8 t0 9 H0<|(o8 h hc2 fun hI=>sk [] [0,7] [(1,0),(2,0),(53,0)] hI)) (fun h=>(o8 h hc2 fun hI=>sk [] [0,7] [(1,0),(2,0),(53,0)] hI))) (fun h=>(o8 h hc1 fun hI=>sk [] [0] [(1,0),(2,0),(0,5)] hI))) (fun h=>(o8 h hc1 fun hI=>sk [] [0] [(1,0),(2,0),(0,5)] hI))
def b1b(a:n7)(e_:m4):Option n7 :=
 (t5 ((a.n.a0.length+1)*88<=140737488355328) ((((bif (a.n.d6==3) then some (l9.brk (n7.mk (j6.mk a.n.Id a.n.Acc (a.n.a0++[e_]) a.n.Seq 2 a.n.a7 a.n.c8 a.n.g9 (m4.mk false (q8.mk 0 0) (n5.mk [] [] 0 0)) [] a.n.i7 a.n.i5 a.n.b7 a.n.d9) a.out a.told)) else some (l9.brk (n7.mk (j6.mk a.n.Id a.n.Acc (a.n.a0++[e_]) a.n.Seq a.n.d6 a.n.a7 a.n.c8 a.n.g9 a.n.c9 a.n.a6 a.n.i7 a.n.i5 a.n.b7 a.n.d9) a.out a.told))):Option (l9 n7 n7)).bind fun x=>x.go some fun j=>b7q j)))
theorem d3z{a e_}:OK a2a [.optr 175 (K8 a),.agg (t0 e_)] (b1b a e_) :=
 n8 _ fun r h=>n6<|tk 7 J9<|t6 h fun e1 h=>F7 8 10 43 7 88 t0 a.n.a0 e_ e1<|E5 e_<|B2 h (d9N r) fun x1 h hc1=>rg<|j5 5 h (fun h=>M5<|(o8 h hc1 fun hI=>sk [.frz (.cell 0 0 12) (some 2),.frz (.cell 0 0 13) (some 2),.own (.cell 0 0 16) 4 1,.kill 0 3] [0] [(10,0),(37,0)] hI)) (fun h=>(o8 h hc1 fun hI=>sk [] [0] [(10,0),(0,3)] hI))
def c8c:FS (n7):=⟨149,Tryz.f149,[],[some (0,.ptr H6 L4),none],[.ptr H6 L4,.val B5 []],fun _=>.tup [],fun r=>[some (.optr 175 (K8 r)),none],Tryz.func149⟩
def b6k(a:n7)(m:j8):Option n7 :=
 (bif (a.n.d6 != 3) then some a else (bif (m.a7 != a.n.a7) then some a else (bif (m.g7 != (a.n.a0.length:Int)) then some a else ((idx a.n.a6 m.c8).bind fun y=>((b0T (a.n.a6.set m.c8.toNat true)).bind fun b18=>(bif decide (b18>=2) then ((a2r (n7.mk (j6.mk a.n.Id a.n.Acc a.n.a0 a.n.Seq a.n.d6 a.n.a7 a.n.c8 a.n.g9 a.n.c9 (a.n.a6.set m.c8.toNat true) a.n.i7 a.n.i5 a.n.b7 a.n.d9) a.out a.told) (j8.mk 5 0 0 0 m.g7 a.n.c9 [])).bind fun all=>((b1b all all.n.c9).bind fun a77=>some a77)) else some (n7.mk (j6.mk a.n.Id a.n.Acc a.n.a0 a.n.Seq a.n.d6 a.n.a7 a.n.c8 a.n.g9 a.n.c9 (a.n.a6.set m.c8.toNat true) a.n.i7 a.n.i5 a.n.b7 a.n.d9) a.out a.told)))))))
theorem d8B{a m}:OK c8c [.optr 175 (K8 a),.agg (s5 m)] (b6k a m) :=
 n8 _ fun r h=>n6<|j5 6 h (fun h=>C1 a<|fE h) (fun h=>j5 16 h (fun h=>C1 a<|fE h) (fun h=>j5 26 h (fun h=>C1 a<|fE h) (fun h=>rg<|A6 h fun y hy h=>B4 hy<|O6 4 1 eB 8 [] true hy<|rg<|S0 a3H c8Q 5 1 h fun b18 h=>om (a.n.a6.length=(a.n.a6.set m.c8.toNat true).length) (by simp)<|j5 6 h (fun h=>rg<|j9 a05 a6l 9 h fun all h=>C2 a.n.a0 a.n.c8<|om (a.n.a6.length=(a.n.a6.set m.c8.toNat true).length) (by simp)<|C2 a.out a.told<|rg<|j9 a2a d3z 6 h fun a77 h=>C1 all<|C1 a77<|fE h) (fun h=>C2 a.n.a0 a.n.c8<|om (a.n.a6.length=(a.n.a6.set m.c8.toNat true).length) (by simp)<|C2 a.out a.told<|fE h))))
def d0h:FS (n7):=⟨150,Tryz.f150,[],[some (0,.ptr H6 L4),none],[.ptr H6 L4,.val B5 []],fun _=>.tup [],fun r=>[some (.optr 175 (K8 r)),none],Tryz.func150⟩
def b6E(a:n7)(m:j8):Option n7 :=
 (bif decide (m.g7<(a.n.a0.length:Int)) then some a else (bif decide (m.g7>(a.n.a0.length:Int)) then ((a3A a m.c8 (j8.mk 8 0 0 0 (a.n.a0.length:Int) (m4.mk false (q8.mk 0 0) (n5.mk [] [] 0 0)) [])).bind fun W9=>some W9) else ((b1b a m.i0).bind fun a77=>some a77)))
theorem e7R{a m}:OK d0h [.optr 175 (K8 a),.agg (s5 m)] (b6E a m) :=
 n8 _ fun r h=>n6<|j5 9 h (fun h=>C1 a<|fE h) (fun h=>rg<|j5 9 h (fun h=>rg<|j9 a6b a7d 10 h fun W9 h=>C1 a<|C1 W9<|fE h) (fun h=>rg<|j9 a2a d3z 3 h fun a77 h=>C1 a<|C1 a77<|fE h))
def d2P:FS (Bool×n7):=⟨179,Tryz.f179,[.val [] []],[some (0,.ptr H6 om7),none],[.ptr H6 om7,.val [] []],fun r=>.b r.1,fun r=>[some (.optr 175 (b7U r.2)),none],Tryz.func179⟩
def b3K(a:n7)(q:q8):Option (Bool×n7) :=
 ((a8H a.n.a0 q).bind fun first=>some (decide (first>=0),a))
theorem d4f{a q}:OK d2P [.optr 175 (b7U a),.agg (Z1 q)] (b3K a q) :=
 n8 _ fun r h=>n6<|S0 a2l c3k 6 2 h fun first h=>s7 a.n.a0<|I3 a.n<|C2 a.out a.told<|fE h
def c6N:FS (n7):=⟨152,Tryz.f152,[],[some (0,.ptr H6 L4),none],[.ptr H6 om7,.val B5 []],fun _=>.tup [],fun r=>[some (.optr 175 (K8 r)),none],Tryz.func152⟩
def b7T(a:n7)(m:j8):Option n7 :=
 (bif (a.n.d6==0) then some a else (bif decide ((a.n.d9.length:Int)>=4) then some a else ((b3K a m.i0.a5).bind fun v_=>(bif v_.1 then some v_.2 else (t5 ((v_.2.n.d9.length+1)*88<=140737488355328) (((a51 (n7.mk (j6.mk v_.2.n.Id v_.2.n.Acc v_.2.n.a0 v_.2.n.Seq v_.2.n.d6 v_.2.n.a7 v_.2.n.c8 v_.2.n.g9 v_.2.n.c9 v_.2.n.a6 v_.2.n.i7 v_.2.n.i5 v_.2.n.b7 (v_.2.n.d9++[m.i0])) v_.2.out v_.2.told)).bind fun X5=>some X5)))))))
theorem e7v{a m}:OK c6N [.optr 175 (b7U a),.agg (s5 m)] (b7T a m) :=
 n8 _ fun r h=>n6<|j5 6 h (fun h=>I3 a.n<|C2 a.out a.told<|fE h) (fun h=>j5 15 h (fun h=>I3 a.n<|C2 a.out a.told<|fE h) (fun h=>j9 d2P d4f 20 h fun v_ h=>I3 a.n<|C2 a.out a.told<|j5 21 h (fun h=>I3 v_.2.n<|C2 v_.2.out v_.2.told<|fE h) (fun h=>rg<|tk 8 J9<|t6 h fun e1 h=>F7 9 33 43 7 88 t0 v_.2.n.d9 m.i0 e1<|E5 m.i0<|rg<|j9 a9O b1T 1 h fun X5 h=>G0 v_.2.n.a0 v_.2.n.c8 v_.2.n.a6 (v_.2.n.d9++[m.i0])<|C2 v_.2.out v_.2.told<|C1 X5<|fE h)))
def a1W:FS (j6×(List j8)×List m9):=⟨98,Tryz.f98,[.val A3 [],.val [some 13] [],.val [some 5] []],[none,none],[.val A3 [],.val B5 []],fun r=>.tup [.agg (A2 r.1),l7 13 s5 r.2.1,l7 5 x7 r.2.2],fun _=>[none,none],Tryz.func98⟩
def c73:n7->KS:=fun a=>⟨a1W.k 7 [false,false,true],(bs 4 (.ptr 1 0 0::(bs 2 (.ptr 2 0 0::(bs 108 []))))),[some [],some [.var 65 [vi 0,vi 0,.nil,.nil,vi 0,vi 0,vi 0,.nil,.nil,.b false,vi 0,vi 0,.nil,.nil,vi 0,vi 0,.nil,.b false,.nil,.b false,vi 0,vi 0,.nil,.nil,vi 0,vi 0,.nil]],some [.var 175 (b2j a)]]++a22 a⟩
def b4z(a:n7):Option (j6×(List j8)×List m9) :=
 ((a1l a).bind fun a4U=>some (a4U.1,a4U.2.1,a4U.2.2.1))
theorem e5q(r):NF a1W r c73 (fun s=>b4z s):=fun a h=>PK<|rg<|j9 a27 a4k 1 h fun a4U h=>C1 a<|fE h
def c7H:n7->KS:=fun a2=>⟨a1W.k 15 [false,false,false,false,false,false,false,false,false,true,false],(bs 4 (.ptr 1 0 0::(bs 2 (.ptr 2 0 0::(bs 108 []))))),[some [],some [.var 65 [vi 0,vi 0,.nil,.nil,vi 0,vi 0,vi 0,.nil,.nil,.b false,vi 0,vi 0,.nil,.nil,vi 0,vi 0,.nil,.b false,.nil,.b false,vi 0,vi 0,.nil,.nil,vi 0,vi 0,.nil]],some [.var 175 (b2j a2)]]++a22 a2⟩
def c8Y(a2:n7):Option (l9 (j6×(List j8)×List m9) n7) :=
 some (l9.brk a2)
theorem d9r(r){x1}(hc1:JC (fun j=>FK cx a1W.X (a1W.R r) (a1W.O r) (c73 j)) r x1):NG a1W r c7H (fun s=>c8Y s) x1:=fun a2 h=>PK<|(o8 h hc1 fun hI=>sk [] [4,7] [(1,0),(2,0),(3,0),(4,0),(5,0),(6,0),(7,0)] hI)
def e5z(m:j8):(Int×n7)->KS:=fun (i,a1)=>⟨a1W.k 14 [false,false,false,false,false,false,false,false,false,true],(bs 3 (.ptr 1 0 0::(.ptr 2 0 0::(bs 2 (.ptr 3 0 0::(vi i::(bs 107 []))))))),[some [],some [.var 76 (a38 m)],some [.var 65 [vi 0,vi 0,.nil,.nil,vi 0,vi 0,vi 0,.nil,.nil,.b false,vi 0,vi 0,.nil,.nil,vi 0,vi 0,.nil,.b false,.nil,.b false,vi 0,vi 0,.nil,.nil,vi 0,vi 0,.nil]],some [.var 175 (d78 a1)]]++a22 a1⟩
def a5B(m:j8)(i:Int)(a1:n7):Option (l8 (j6×(List j8)×List m9) (Int×n7) n7) :=
 (bif decide (i<(a1.n.a0.length:Int)) then ((idx a1.n.a0 i).bind fun entry=>((a3A a1 m.c8 (j8.mk 5 0 0 0 i entry [])).bind fun W9=>some (l8.nxt (m8 (i+1),W9)))) else some (l8.brk a1))
theorem e2O(m):LQ a1W c7H (e5z m) (fun s=>a5B m s.1 s.2):=fun lc (i,a1) h=>PK<|rg<|j5 7 h (fun h=>rg<|A6 h fun entry H0 h=>B4 H0<|H8 t0 11 H0<|j9 a6b a7d 13 h fun W9 h=>C1 a1<|rg<|(lc.nx h fun hI=>sk [] [3,4,7,8] [(1,0),(2,0),(3,0),(30,0),(30,1),(30,2),(30,3),(30,4)] hI)) (fun h=>(lc.bk h fun hI=>sk [] [4,7] [(2,0),(3,0),(4,0),(5,0),(6,0),(7,0),(8,0)] hI))
def b7Q(n:j6)(m:j8):Option (j6×(List j8)×List m9) :=
 ((a3B n).bind fun C7=>(bif (!C7) then some ((j6.mk 0 (x6.mk 0 []) [] 0 0 0 [] [] (m4.mk false (q8.mk 0 0) (n5.mk [] [] 0 0)) [] false [] (m4.mk false (q8.mk 0 0) (n5.mk [] [] 0 0)) []),[],[]) else ((a8w n).bind fun begin=>((b2s m).bind fun O2=>(bif (!O2) then ((a1l begin).bind fun U9=>some (U9.1,U9.2.1,U9.2.2.1)) else (bif (m.To != n.Id) then ((a1l begin).bind fun a4d=>some (a4d.1,a4d.2.1,a4d.2.2.1)) else (((bif (m.a8==1) then ((b8a begin m).bind fun d2H=>some (l9.brk d2H)) else (bif (m.a8==2) then ((b4b begin m).bind fun c5Y=>some (l9.brk c5Y)) else (bif (m.a8==3) then ((b8E begin m).bind fun c8j=>some (l9.brk c8j)) else (bif (m.a8==4) then ((b6k begin m).bind fun c8K=>some (l9.brk c8K)) else (bif (m.a8==5) then ((b6E begin m).bind fun c6V=>some (l9.brk c6V)) else (bif (m.a8==6) then ((a83 begin.n.Acc m.a7).bind fun T8=>((a91 (n7.mk (j6.mk begin.n.Id T8.1 begin.n.a0 begin.n.Seq begin.n.d6 begin.n.a7 begin.n.c8 begin.n.g9 begin.n.c9 begin.n.a6 begin.n.i7 begin.n.i5 begin.n.b7 begin.n.d9) begin.out begin.told) m.a7).bind fun yield=>some (l9.brk yield))) else (bif (m.a8==7) then ((b7T begin m).bind fun asked=>some (l9.brk asked)) else (bif (m.a8==8) then ((p8 (fun s:Int×n7=>a5B m s.1 s.2) (m.g7,begin)).bind fun x=>x.go (fun r=>some (l9.ret r)) fun s=>c8Y s) else some (l9.brk begin))))))))):Option (l9 (j6×(List j8)×List m9) n7)).bind fun x=>x.go some fun j=>b4z j)))))))
set_option maxRecDepth 20000 in
theorem e0f{n m}:OK a1W [.agg (A2 n),.agg (s5 m)] (b7Q n m) :=
 n8 _ fun r h=>n6<|j9 a0z a8j 1 h fun C7 h=>j5 2 h (fun h=>rg<|fE h) (fun h=>rg<|j9 b3m b3E 1 h fun begin h=>rg<|j9 b9m d0K 1 h fun O2 h=>j5 3 h (fun h=>rg<|j9 a27 a4k 1 h fun U9 h=>I3 begin.n<|C2 begin.out begin.told<|fE h) (fun h=>j5 9 h (fun h=>rg<|j9 a27 a4k 1 h fun a4d h=>I3 begin.n<|C2 begin.out begin.told<|fE h) (fun h=>rg<|B2 h (e5q r) fun x1 h hc1=>rg<|j5 1 h (fun h=>rg<|j9 b65 e4h 2 h fun d2H h=>I3 begin.n<|C2 begin.out begin.told<|(o8 h hc1 fun hI=>sk [] [4,7] [(3,0),(10,0),(28,0),(28,1),(28,2),(28,3),(28,4)] hI)) (fun h=>rg<|j5 1 h (fun h=>rg<|j9 c4r e9x 2 h fun c5Y h=>I3 begin.n<|C2 begin.out begin.told<|(o8 h hc1 fun hI=>sk [] [4,7] [(3,0),(10,0),(30,0),(30,1),(30,2),(30,3),(30,4)] hI)) (fun h=>rg<|j5 1 h (fun h=>rg<|j9 c96 e3b 2 h fun c8j h=>I3 begin.n<|C2 begin.out begin.told<|(o8 h hc1 fun hI=>sk [] [4,7] [(3,0),(10,0),(32,0),(32,1),(32,2),(32,3),(32,4)] hI)) (fun h=>rg<|j5 1 h (fun h=>rg<|j9 c8c d8B 2 h fun c8K h=>I3 begin.n<|C2 begin.out begin.told<|(o8 h hc1 fun hI=>sk [] [4,7] [(3,0),(10,0),(34,0),(34,1),(34,2),(34,3),(34,4)] hI)) (fun h=>rg<|j5 1 h (fun h=>rg<|j9 d0h e7R 2 h fun c6V h=>I3 begin.n<|C2 begin.out begin.told<|(o8 h hc1 fun hI=>sk [] [4,7] [(3,0),(10,0),(36,0),(36,1),(36,2),(36,3),(36,4)] hI)) (fun h=>rg<|j5 1 h (fun h=>rg<|j9 b8B b92 8 h fun T8 h=>rg<|j9 b4J c0E 3 h fun yield h=>I3 begin.n<|C2 begin.out begin.told<|(o8 h hc1 fun hI=>sk [] [4,7] [(3,0),(10,0),(55,0),(55,1),(55,2),(55,3),(55,4)] hI)) (fun h=>rg<|j5 1 h (fun h=>rg<|j9 c6N e7v 2 h fun asked h=>I3 begin.n<|C2 begin.out begin.told<|(o8 h hc1 fun hI=>sk [] [4,7] [(3,0),(10,0),(40,0),(40,1),(40,2),(40,3),(40,4)] hI)) (fun h=>rg<|j5 1 h (fun h=>rg<|lp (e2O m) h (fun _ h=>a1W.rt (e9e h hc1)) (d9r r hc1) fun hI=>s7 begin.n.d9<|sk [.frz (.cell 10 0 26) (none)] [3,4,7,8] [(2,0),(3,0),(10,0),(10,1),(10,2),(10,3),(10,5),(10,6)] hI) (fun h=>(o8 h hc1 fun hI=>s7 begin.n.d9<|sk [.frz (.cell 10 0 26) (none)] [4,7] [(3,0),(10,0),(10,1),(10,2),(10,3),(10,5),(10,6)] hI))))))))))))
def a9s:FS (m6):=⟨51,Tryz.f51,[.val E4 om2],[none,none],[.val E4 om2,.val [none,none,some 4] []],fun r=>.agg (a6U r),fun _=>[none,none],Tryz.func51⟩
def e8f:m6->KS:=fun w1=>⟨a9s.k 7 [true],(bs 2 (.ptr 1 0 0::(bs 1 (.ptr 6 0 0::(bs 58 []))))),[some [.dead,.dead,.dead,.dead],some [.var 28 [.own 2 0 27 0 w1.a9.length,.own 3 0 13 0 w1.b9.length,.own 4 0 3 0 w1.d7.length,.own 5 0 5 0 w1.Told.length]],some [m5 65 27 A2 w1.a9],some [m5 76 13 s5 w1.b9],some [m5 78 3 A7 w1.d7],some [m5 72 5 x7 w1.Told],some [.var 28 [.nil,.nil,.nil,.nil]]]⟩
def c70(w1:m6):Option m6 :=
 some w1
theorem d9Q(r):NF a9s r e8f (fun s=>c70 s):=fun w1 h=>PK<|rg<|A5 w1<|fE h
def a6H(w:m6)(e_:p7):Option m6 :=
 ((idx w.b9 e_.A).bind fun msg=>(((bif (e_.a8==2) then ((b3c w.b9 e_.A).bind fun off=>((idx w.a9 msg.To).bind fun node=>((b7Q node msg).bind fun b7L=>((a4I (m6.mk w.a9 off w.d7 w.Told) b7L.1 b7L.2.1 b7L.2.2).bind fun a2p=>some (l9.brk a2p))))) else (bif (e_.a8==3) then ((b3c w.b9 e_.A).bind fun c5K=>some (l9.brk (m6.mk w.a9 c5K w.d7 w.Told))) else (bif (e_.a8==4) then ((idx w.a9 msg.To).bind fun a2U=>((a4I w a2U [msg] []).bind fun b3b=>some (l9.brk b3b))) else some (l9.brk w)))):Option (l9 m6 m6)).bind fun x=>x.go some fun j=>c70 j))
theorem c2A{w e_}:OK a9s [.agg (a6U w),.agg (G1 e_)] (a6H w e_) :=
 n8 _ fun r h=>n6<|A6 h fun msg hmsg h=>B4 hmsg<|H8 s5 5 hmsg<|rg<|B2 h (d9Q r) fun x1 h hc1=>rg<|j5 1 h (fun h=>rg<|j9 b9l c8P 4 h fun off h=>s7 w.b9<|rg<|A6 h fun node hnode h=>B4 hnode<|H8 A2 5 hnode<|j9 a1W e0f 7 h fun b7L h=>rg<|j9 T1 a8I 4 h fun a2p h=>G0 w.a9 off w.d7 w.Told<|(o8 h hc1 fun hI=>sk [.kill 0 1] [2,4] [(1,0),(43,0),(43,1),(43,2),(43,3),(3,0)] hI)) (fun h=>rg<|j5 1 h (fun h=>rg<|j9 b9l c8P 4 h fun c5K h=>s7 w.b9<|(o8 h hc1 fun hI=>sk [.kill 0 1] [2,4] [(1,0),(0,0),(22,0),(0,2),(0,3),(3,0)] hI)) (fun h=>rg<|j5 1 h (fun h=>rg<|A6 h fun a2U a40 h=>B4 a40<|H8 A2 6 a40<|tk 8 B5<|j9 T1 a8I 9 h fun b3b h=>A5 w<|E5 msg<|(o8 h hc1 fun hI=>sk [] [2,4] [(1,0),(29,0),(29,1),(29,2),(29,3),(3,0)] hI)) (fun h=>(o8 h hc1 fun hI=>sk [] [2,4] [(1,0),(0,0),(0,1),(0,2),(0,3),(3,0)] hI))))
def a3n:FS (m6):=⟨17,Tryz.f17,[.val E4 []],[none,none],[.val E4 [],.val [none,none,some 4] []],fun r=>.agg (a0h r),fun _=>[none,none],Tryz.func17⟩
def d76:m6->KS:=fun out=>⟨a3n.k 6 [true,true,true],(bs 4 (.ptr 1 0 0::(.ptr 2 0 0::(bs 35 [])))),[some [],some [.var 28 [.nil,.nil,.nil,.nil]],some [.var 28 [.own 3 0 27 0 out.a9.length,.own 4 0 13 0 out.b9.length,.own 5 0 3 0 out.d7.length,.own 6 0 5 0 out.Told.length]],some [m5 65 27 A2 out.a9],some [m5 76 13 s5 out.b9],some [m5 78 3 A7 out.d7],some [m5 72 5 x7 out.Told]]⟩
def c1E(out:m6):Option m6 :=
 ((a1g out).bind fun c3r=>some c3r)
theorem e3n(r):NF a3n r d76 (fun s=>c1E s):=fun out h=>PK<|rg<|j9 V9 a6W 1 h fun c3r h=>A5 out<|A5 c3r<|fE h
def e3g:m6->KS:=fun out1=>⟨a3n.k 7 [false,true,true,true],(bs 4 (.ptr 1 0 0::(.ptr 2 0 0::(bs 35 [])))),[some [],some [.var 28 [.nil,.nil,.nil,.nil]],some [.var 28 [.own 3 0 27 0 out1.a9.length,.own 4 0 13 0 out1.b9.length,.own 5 0 3 0 out1.d7.length,.own 6 0 5 0 out1.Told.length]],some [m5 65 27 A2 out1.a9],some [m5 76 13 s5 out1.b9],some [m5 78 3 A7 out1.d7],some [m5 72 5 x7 out1.Told]]⟩
def c0r(out1:m6):Option m6 :=
 ((a1g out1).bind fun c2Q=>some c2Q)
theorem d79(r):NF a3n r e3g (fun s=>c0r s):=fun out1 h=>PK<|rg<|j9 V9 a6W 1 h fun c2Q h=>A5 out1<|A5 c2Q<|fE h
def e4L:m6->KS:=fun out2=>⟨a3n.k 8 [false,false,true,true,true],(bs 4 (.ptr 1 0 0::(.ptr 2 0 0::(bs 35 [])))),[some [],some [.var 28 [.nil,.nil,.nil,.nil]],some [.var 28 [.own 3 0 27 0 out2.a9.length,.own 4 0 13 0 out2.b9.length,.own 5 0 3 0 out2.d7.length,.own 6 0 5 0 out2.Told.length]],some [m5 65 27 A2 out2.a9],some [m5 76 13 s5 out2.b9],some [m5 78 3 A7 out2.d7],some [m5 72 5 x7 out2.Told]]⟩
def c3v(out2:m6):Option m6 :=
 ((a1g out2).bind fun c3x=>some c3x)
theorem e7n(r):NF a3n r e4L (fun s=>c3v s):=fun out2 h=>PK<|rg<|j9 V9 a6W 1 h fun c3x h=>A5 out2<|A5 c3x<|fE h
def d4R:m6->KS:=fun out3=>⟨a3n.k 9 [false,false,false,true,true],(bs 4 (.ptr 1 0 0::(.ptr 2 0 0::(bs 35 [])))),[some [],some [.var 28 [.nil,.nil,.nil,.nil]],some [.var 28 [.own 3 0 27 0 out3.a9.length,.own 4 0 13 0 out3.b9.length,.own 5 0 3 0 out3.d7.length,.own 6 0 5 0 out3.Told.length]],some [m5 65 27 A2 out3.a9],some [m5 76 13 s5 out3.b9],some [m5 78 3 A7 out3.d7],some [m5 72 5 x7 out3.Told]]⟩
def b3O(out3:m6):Option m6 :=
 ((a1g out3).bind fun c2s=>some c2s)
theorem e5a(r):NF a3n r d4R (fun s=>b3O s):=fun out3 h=>PK<|rg<|j9 V9 a6W 1 h fun c2s h=>A5 out3<|A5 c2s<|fE h
def b7e(w:m6)(e_:p7):Option m6 :=
 ((a1g w).bind fun G2=>(bif (e_.a8==1) then ((((C5 e_.A 0 (m8 ((G2.a9.length:Int)-1))).bind fun in_=>(bif in_ then ((a57 G2 e_).bind fun c9K=>some (l9.brk c9K)) else some (l9.brk G2))):Option (l9 m6 m6)).bind fun x=>x.go some fun j=>c1E j) else (bif (e_.a8==5) then ((((C5 e_.A 0 (m8 ((G2.a9.length:Int)-1))).bind fun in_1=>(bif in_1 then ((a57 G2 e_).bind fun d1V=>some (l9.brk d1V)) else some (l9.brk G2))):Option (l9 m6 m6)).bind fun x=>x.go some fun j=>c0r j) else (bif (e_.a8==6) then ((((C5 e_.A 0 (m8 ((G2.a9.length:Int)-1))).bind fun in_2=>(bif in_2 then ((a57 G2 e_).bind fun d3d=>some (l9.brk d3d)) else some (l9.brk G2))):Option (l9 m6 m6)).bind fun x=>x.go some fun j=>c3v j) else (((bif (e_.a8==7) then ((C5 e_.A 0 (m8 ((G2.a9.length:Int)-1))).bind fun a0a=>(bif a0a then ((a57 G2 e_).bind fun c4f=>some (l9.brk c4f)) else some (l9.brk G2))) else (bif (e_.a8==2) then ((C5 e_.A 0 (m8 ((G2.b9.length:Int)-1))).bind fun a4A=>(bif a4A then ((a6H G2 e_).bind fun d1q=>some (l9.brk d1q)) else some (l9.brk G2))) else (bif (e_.a8==3) then ((C5 e_.A 0 (m8 ((G2.b9.length:Int)-1))).bind fun a9o=>(bif a9o then ((a6H G2 e_).bind fun d1u=>some (l9.brk d1u)) else some (l9.brk G2))) else (bif (e_.a8==4) then ((C5 e_.A 0 (m8 ((G2.b9.length:Int)-1))).bind fun c1X=>(bif c1X then ((a6H G2 e_).bind fun c4g=>some (l9.brk c4g)) else some (l9.brk G2))) else some (l9.brk G2))))):Option (l9 m6 m6)).bind fun x=>x.go some fun j=>b3O j)))))
set_option maxRecDepth 20000 in
theorem d9J{w e_}:OK a3n [.agg (a0h w),.agg (G1 e_)] (b7e w e_) :=
 n8 _ fun r h=>n6<|j9 V9 a6W 1 h fun G2 h=>n6<|j5 1 h (fun h=>B2 h (e3n r) fun x1 h hc1=>rg<|cbE C3.t D8 h fun in_ c6F h=>cdT (C3.t 6 false in_) h (fun _ h=>ob c6F<|rg<|j9 a7Z b50 2 h fun c9K h=>A5 G2<|(o8 h hc1 fun hI=>sk [] [4,5] [(3,0),(6,0),(21,0),(21,1),(21,2),(21,3)] hI)) (fun _ h=>ob c6F<|(o8 h hc1 fun hI=>sk [] [4,5] [(3,0),(6,0),(5,0),(5,1),(5,2),(5,3)] hI))) (fun h=>rg<|j5 1 h (fun h=>B2 h (d79 r) fun x1 h hc1=>rg<|cbE C3.t D8 h fun in_1 c4k h=>cdT (C3.t 6 false in_1) h (fun _ h=>ob c4k<|rg<|j9 a7Z b50 2 h fun d1V h=>A5 G2<|(o8 h hc1 fun hI=>sk [] [4,5] [(3,0),(6,0),(23,0),(23,1),(23,2),(23,3)] hI)) (fun _ h=>ob c4k<|(o8 h hc1 fun hI=>sk [] [4,5] [(3,0),(6,0),(5,0),(5,1),(5,2),(5,3)] hI))) (fun h=>rg<|j5 1 h (fun h=>B2 h (e7n r) fun x1 h hc1=>rg<|cbE C3.t D8 h fun in_2 d1b h=>cdT (C3.t 6 false in_2) h (fun _ h=>ob d1b<|rg<|j9 a7Z b50 2 h fun d3d h=>A5 G2<|(o8 h hc1 fun hI=>sk [] [4,5] [(3,0),(6,0),(25,0),(25,1),(25,2),(25,3)] hI)) (fun _ h=>ob d1b<|(o8 h hc1 fun hI=>sk [] [4,5] [(3,0),(6,0),(5,0),(5,1),(5,2),(5,3)] hI))) (fun h=>B2 h (e5a r) fun x1 h hc1=>rg<|j5 1 h (fun h=>rg<|cbE C3.t D8 h fun a0a c9x h=>cdT (C3.t 6 false a0a) h (fun _ h=>ob c9x<|rg<|j9 a7Z b50 2 h fun c4f h=>A5 G2<|(o8 h hc1 fun hI=>sk [] [4,5] [(3,0),(6,0),(27,0),(27,1),(27,2),(27,3)] hI)) (fun _ h=>ob c9x<|(o8 h hc1 fun hI=>sk [] [4,5] [(3,0),(6,0),(5,0),(5,1),(5,2),(5,3)] hI))) (fun h=>rg<|j5 1 h (fun h=>rg<|cbE C3.t D8 h fun a4A c9Q h=>cdT (C3.t 6 false a4A) h (fun _ h=>ob c9Q<|rg<|j9 a9s c2A 2 h fun d1q h=>A5 G2<|(o8 h hc1 fun hI=>sk [] [4,5] [(3,0),(6,0),(29,0),(29,1),(29,2),(29,3)] hI)) (fun _ h=>ob c9Q<|(o8 h hc1 fun hI=>sk [] [4,5] [(3,0),(6,0),(5,0),(5,1),(5,2),(5,3)] hI))) (fun h=>rg<|j5 1 h (fun h=>rg<|cbE C3.t D8 h fun a9o c8h h=>cdT (C3.t 6 false a9o) h (fun _ h=>ob c8h<|rg<|j9 a9s c2A 2 h fun d1u h=>A5 G2<|(o8 h hc1 fun hI=>sk [] [4,5] [(3,0),(6,0),(31,0),(31,1),(31,2),(31,3)] hI)) (fun _ h=>ob c8h<|(o8 h hc1 fun hI=>sk [] [4,5] [(3,0),(6,0),(5,0),(5,1),(5,2),(5,3)] hI))) (fun h=>rg<|j5 1 h (fun h=>rg<|cbE C3.t D8 h fun c1X c6A h=>cdT (C3.t 6 false c1X) h (fun _ h=>ob c6A<|rg<|j9 a9s c2A 2 h fun c4g h=>A5 G2<|(o8 h hc1 fun hI=>sk [] [4,5] [(3,0),(6,0),(33,0),(33,1),(33,2),(33,3)] hI)) (fun _ h=>ob c6A<|(o8 h hc1 fun hI=>sk [] [4,5] [(3,0),(6,0),(5,0),(5,1),(5,2),(5,3)] hI))) (fun h=>(o8 h hc1 fun hI=>sk [] [4,5] [(3,0),(6,0),(5,0),(5,1),(5,2),(5,3)] hI))))))))
def a7A:FS (m6):=⟨4,Tryz.f4,[.val E4 []],[none,none],[.val E4 [],.val [some 3] []],fun r=>.agg (a0h r),fun _=>[none,none],Tryz.func4⟩
def c4J:m6->KS:=fun out1=>⟨a7A.k 5 [false,false],(bs 4 (.ptr 1 0 0::(.ptr 2 0 0::(bs 24 [])))),[some [],some [.var 28 [.nil,.nil,.nil,.nil]],some [.var 28 (I0 out1)]]⟩
def d25(out1:m6):Option m6 :=
 some out1
theorem d80(r):NF a7A r c4J (fun s=>d25 s):=fun out1 h=>PK<|rg<|fE h
def e9w(events:List p7):(Int×m6)->KS:=fun (v21,out)=>⟨a7A.k 4 [false],(bs 4 (.ptr 1 0 0::(.ptr 2 0 0::(bs 13 (l7 3 G1 events::(vi (events.length:Int)::(vi v21::(bs 8 [])))))))),[some [],some [.var 28 [.nil,.nil,.nil,.nil]],some [.var 28 (I0 out)]]⟩
def a6i(events:List p7)(v21:Int)(out:m6):Option (l8 m6 (Int×m6) m6) :=
 (bif decide (v21<(events.length:Int)) then ((idx events v21).bind fun b0D=>((b7e out b0D).bind fun d2z=>some (l8.nxt (m8 (v21+1),d2z)))) else some (l8.brk out))
theorem d6S(events):LQ a7A c4J (e9w events) (fun s=>a6i events s.1 s.2):=fun lc (v21,out) h=>PK<|rg<|j5 0 h (fun h=>rg<|w9 G1 0 h fun b0D e6F h=>rg<|j9 a3n d9J 2 h fun d2z h=>rg<|(lc.nx h fun hI=>sk [] [4,5,19,20,21] [(1,0),(2,0)] hI)) (fun h=>(lc.bk h fun hI=>sk [] [4,5] [(1,0),(2,0)] hI))
def b03(w:m6)(events:List p7):Option m6 :=
 ((b6B w).bind fun J2=>(bif (!J2) then some (m6.mk [] [] [] []) else (bif decide ((events.length:Int)>400) then some (m6.mk [] [] [] []) else ((a1g w).bind fun G2=>((p8 (fun s:Int×m6=>a6i events s.1 s.2) (0,G2)).bind fun x=>x.go (fun r=>some r) fun s=>d25 s)))))
theorem e3v{w events}:OK a7A [.agg (a0h w),l7 3 G1 events] (b03 w events) :=
 n8 _ fun r h=>n6<|j9 Q5 e5Z 1 h fun J2 h=>j5 3 h (fun h=>rg<|fE h) (fun h=>j5 7 h (fun h=>rg<|fE h) (fun h=>rg<|j9 V9 a6W 1 h fun G2 h=>rg<|lp (d6S events) h (fun _ h=>a7A.rt h) (d80 r) fun hI=>A5 G2<|sk [.frz (.cell 13 0 0) (none),.frz (.cell 13 0 1) (none),.frz (.cell 13 0 2) (none),.frz (.cell 13 0 3) (none)] [4,5,19,20,21] [(2,0),(13,0)] hI))
def a4z:FS (m6):=⟨8,Tryz.f8,[.val E4 Q2],[none,none],[.val E4 [],.val [some 3] []],fun r=>.agg (R7 r),fun _=>[none,none],Tryz.func8⟩
def d22:((List j6)×(List j8)×(List v5)×List m9)->KS:=fun (Nodes1,Net1,Asked1,Told1)=>⟨a4z.k 5 [false,false],(bs 2 (.ptr 1 0 0::(bs 1 (.ptr 6 0 0::(bs 25 []))))),[some [],some [.var 28 [.own 2 0 27 0 Nodes1.length,.own 3 0 13 0 Net1.length,.own 4 0 3 0 Asked1.length,.own 5 0 5 0 Told1.length]],some [B8 65 27 x9 Nodes1],some [m5 76 13 s5 Net1],some [m5 78 3 A7 Asked1],some [m5 72 5 x7 Told1],some [.var 28 [.nil,.nil,.nil,.nil]]]⟩
def d0w(Nodes1:List j6)(Net1:List j8)(Asked1:List v5)(Told1:List m9):Option m6 :=
 some (m6.mk Nodes1 Net1 Asked1 Told1)
theorem d9U(r):NF a4z r d22 (fun s=>d0w s.1 s.2.1 s.2.2.1 s.2.2.2):=fun (Nodes1,Net1,Asked1,Told1) h=>PK<|rg<|G0 Nodes1 Net1 Asked1 Told1<|fE h
def d7c(events:List p7):((List j6)×(List j8)×(List v5)×(List m9)×Int)->KS:=fun (a9,b9,d7,Told,i)=>⟨a4z.k 4 [false],(bs 1 (l7 3 G1 events::(.ptr 1 0 0::(bs 1 (.ptr 6 0 0::(vi i::(bs 24 []))))))),[some [],some [.var 28 [.own 2 0 27 0 a9.length,.own 3 0 13 0 b9.length,.own 4 0 3 0 d7.length,.own 5 0 5 0 Told.length]],some [B8 65 27 x9 a9],some [m5 76 13 s5 b9],some [m5 78 3 A7 d7],some [m5 72 5 x7 Told],some [.var 28 [.nil,.nil,.nil,.nil]]]⟩
def a4q(events:List p7)(a9:List j6)(b9:List j8)(d7:List v5)(Told:List m9)(i:Int):Option (l8 m6 ((List j6)×(List j8)×(List v5)×(List m9)×Int) ((List j6)×(List j8)×(List v5)×List m9)) :=
 (bif decide (i<(events.length:Int)) then ((idx events i).bind fun b0D=>((b0r (m6.mk a9 b9 d7 Told) b0D).bind fun a0C=>some (l8.nxt (a0C.a9,a0C.b9,a0C.d7,a0C.Told,m8 (i+1))))) else some (l8.brk (a9,b9,d7,Told)))
theorem e1n(events):LQ a4z d22 (d7c events) (fun s=>a4q events s.1 s.2.1 s.2.2.1 s.2.2.2.1 s.2.2.2.2):=fun lc (a9,b9,d7,Told,i) h=>PK<|rg<|j5 3 h (fun h=>rg<|w9 G1 3 h fun b0D e6F h=>j9 a86 c0U 5 h fun a0C h=>G0 a9 b9 d7 Told<|rg<|(lc.nx h fun hI=>sk [] [1,2,4,5] [(1,0),(16,0),(16,1),(16,2),(16,3),(6,0)] hI)) (fun h=>(lc.bk h fun hI=>sk [] [2,4] [(1,0),(2,0),(3,0),(4,0),(5,0),(6,0)] hI))
def b14(w:m6)(events:List p7):Option m6 :=
 ((b0R w).bind fun J2=>(bif (!J2) then some (m6.mk [] [] [] []) else (bif decide ((events.length:Int)>400) then some (m6.mk [] [] [] []) else ((b1t w).bind fun a1h=>((p8 (fun s:(List j6)×(List j8)×(List v5)×(List m9)×Int=>a4q events s.1 s.2.1 s.2.2.1 s.2.2.2.1 s.2.2.2.2) (a1h.a9,a1h.b9,a1h.d7,a1h.Told,0)).bind fun x=>x.go (fun r=>some r) fun s=>d0w s.1 s.2.1 s.2.2.1 s.2.2.2)))))
theorem d89{w events}:OK a4z [.agg (a0h w),l7 3 G1 events] (b14 w events) :=
 n8 _ fun r h=>n6<|j9 K1 c0N 1 h fun J2 h=>j5 3 h (fun h=>rg<|fE h) (fun h=>j5 7 h (fun h=>rg<|fE h) (fun h=>rg<|j9 T3 c5a 1 h fun a1h h=>rg<|lp (e1n events) h (fun _ h=>a4z.rt h) (d9U r) fun hI=>sk [] [1,2,4,5] [(1,0),(12,0),(12,1),(12,2),(12,3),(2,0)] hI))
def a7F:FS (Bool):=⟨21,Tryz.f21,[.val [] []],[none,none],[.val [some 5] [],.val [some 5] []],fun r=>.b r,fun _=>[none,none],Tryz.func21⟩
def c7G:Unit->KS:=fun _=>⟨a7F.k 4 [false,false],(bs 26 []),[some []]⟩
def c74:Option Bool :=
 some true
theorem e8t(r):NF a7F r c7G (fun s=>c74):=fun _ h=>PK<|rg<|fE h
def d52(a:List m9)(b:List m9):Int->KS:=fun v13=>⟨a7F.k 3 [false],(l7 5 x7 a::(l7 5 x7 b::(bs 10 (vi (a.length:Int)::(vi v13::(bs 12 [])))))),[some []]⟩
def b6R(a:List m9)(b:List m9)(v13:Int):Option (l8 Bool Int Unit) :=
 (bif decide (v13<(a.length:Int)) then ((idx a v13).bind fun told=>((idx b v13).bind fun a2h=>(bif (!(([told.Node,told.a5.d8,told.a5.Seq,told.Code,told.f0]:List Int)==[a2h.Node,a2h.a5.d8,a2h.a5.Seq,a2h.Code,a2h.f0])) then some (l8.ret false) else some (l8.nxt (m8 (v13+1)))))) else some (l8.brk ()))
theorem e7i(a b):LQ a7F c7G (d52 a b) (fun s=>b6R a b s):=fun lc v13 h=>PK<|rg<|j5 0 h (fun h=>n6<|w9 x7 2 h fun told a7l h=>w9 x7 6 h fun a2h d7L h=>j5 8 h (fun h=>rg<|fL lc h) (fun h=>rg<|(lc.nx h fun hI=>sk [] [0,1,12,13] [] hI))) (fun h=>(lc.bk h fun hI=>sk [] [] [] hI))
def b8g(a:List m9)(b:List m9):Option Bool :=
 (bif ((a.length:Int) != (b.length:Int)) then some false else ((p8 (fun s:Int=>b6R a b s) 0).bind fun x=>x.go (fun r=>some r) fun s=>c74))
theorem e7b{a b}:OK a7F [l7 5 x7 a,l7 5 x7 b] (b8g a b) :=
 n8 _ fun r h=>n6<|j5 4 h (fun h=>rg<|fE h) (fun h=>rg<|lp (e7i a b) h (fun _ h=>a7F.rt h) (e8t r) fun hI=>sk [] [0,1,12,13] [] hI)
def a4t:FS (Bool):=⟨61,Tryz.f61,[.val [] []],[none,none],[.val [some 8] [],.val [some 8] []],fun r=>.b r,fun _=>[none,none],Tryz.func61⟩
def c6h:Unit->KS:=fun _=>⟨a4t.k 4 [false,false],(bs 42 []),[some []]⟩
def c6m:Option Bool :=
 some true
theorem d5C(r):NF a4t r c6h (fun s=>c6m):=fun _ h=>PK<|rg<|fE h
def e1g(a:List m7)(b:List m7):Int->KS:=fun v13=>⟨a4t.k 3 [false],(l7 8 p6 a::(l7 8 p6 b::(bs 10 (vi (a.length:Int)::(vi v13::(bs 28 [])))))),[some []]⟩
def b7x(a:List m7)(b:List m7)(v13:Int):Option (l8 Bool Int Unit) :=
 (bif decide (v13<(a.length:Int)) then ((idx a v13).bind fun vote=>((idx b v13).bind fun R0=>(bif (vote.a7 != R0.a7) then some (l8.ret false) else ((Z9 vote.i0 R0.i0).bind fun J8=>(bif (!J8) then some (l8.ret false) else some (l8.nxt (m8 (v13+1)))))))) else some (l8.brk ()))
theorem e3h(a b):LQ a4t c6h (e1g a b) (fun s=>b7x a b s):=fun lc v13 h=>PK<|rg<|j5 0 h (fun h=>n6<|w9 p6 2 h fun vote M9 h=>w9 p6 7 h fun R0 a29 h=>j5 11 h (fun h=>rg<|fL lc h) (fun h=>L7 p6 14 M9<|L7 p6 19 a29<|j9 a2J a3e 22 h fun J8 h=>j5 24 h (fun h=>rg<|fL lc h) (fun h=>rg<|(lc.nx h fun hI=>sk [] [0,1,12,13] [] hI)))) (fun h=>(lc.bk h fun hI=>sk [] [] [] hI))
def a8V(a:List m7)(b:List m7):Option Bool :=
 (bif ((a.length:Int) != (b.length:Int)) then some false else ((p8 (fun s:Int=>b7x a b s) 0).bind fun x=>x.go (fun r=>some r) fun s=>c6m))
theorem c2j{a b}:OK a4t [l7 8 p6 a,l7 8 p6 b] (a8V a b) :=
 n8 _ fun r h=>n6<|j5 4 h (fun h=>rg<|fE h) (fun h=>rg<|lp (e3h a b) h (fun _ h=>a4t.rt h) (d5C r) fun hI=>sk [] [0,1,12,13] [] hI)
def d2S:FS (Bool):=⟨58,Tryz.f58,[.val [] []],[none,none],[.val [none,some 8] [],.val [none,some 8] []],fun r=>.b r,fun _=>[none,none],Tryz.func58⟩
def b89(a:x6)(b:x6):Option Bool :=
 (bif (a.g8==b.g8) then ((a8V a.a6 b.a6).bind fun a5r=>some a5r) else some false)
theorem d3G{a b}:OK d2S [.agg (Y5 a),.agg (Y5 b)] (b89 a b) :=
 n8 _ fun r h=>n6<|j5 5 h (fun h=>j9 a4t c2j 10 h fun a5r h=>fE h) (fun h=>fE h)
def a6z:FS (Bool):=⟨59,Tryz.f59,[.val [] []],[none,none],[.val [some 7] [],.val [some 7] []],fun r=>.b r,fun _=>[none,none],Tryz.func59⟩
def c35:Unit->KS:=fun _=>⟨a6z.k 4 [false,false],(bs 27 []),[some []]⟩
def c7c:Option Bool :=
 some true
theorem d8k(r):NF a6z r c35 (fun s=>c7c):=fun _ h=>PK<|rg<|fE h
def e0x(a:List m4)(b:List m4):Int->KS:=fun v13=>⟨a6z.k 3 [false],(l7 7 t0 a::(l7 7 t0 b::(bs 10 (vi (a.length:Int)::(vi v13::(bs 13 [])))))),[some []]⟩
def b7V(a:List m4)(b:List m4)(v13:Int):Option (l8 Bool Int Unit) :=
 (bif decide (v13<(a.length:Int)) then ((idx a v13).bind fun entry=>((idx b v13).bind fun a53=>((Z9 entry a53).bind fun J8=>(bif (!J8) then some (l8.ret false) else some (l8.nxt (m8 (v13+1))))))) else some (l8.brk ()))
theorem e0O(a b):LQ a6z c35 (e0x a b) (fun s=>b7V a b s):=fun lc v13 h=>PK<|rg<|j5 0 h (fun h=>n6<|w9 t0 2 h fun entry H0 h=>w9 t0 6 h fun a53 a8D h=>j9 a2J a3e 8 h fun J8 h=>j5 9 h (fun h=>rg<|fL lc h) (fun h=>rg<|(lc.nx h fun hI=>sk [] [0,1,12,13] [] hI))) (fun h=>(lc.bk h fun hI=>sk [] [] [] hI))
def b2D(a:List m4)(b:List m4):Option Bool :=
 (bif ((a.length:Int) != (b.length:Int)) then some false else ((p8 (fun s:Int=>b7V a b s) 0).bind fun x=>x.go (fun r=>some r) fun s=>c7c))
theorem c3I{a b}:OK a6z [l7 7 t0 a,l7 7 t0 b] (b2D a b) :=
 n8 _ fun r h=>n6<|j5 4 h (fun h=>rg<|fE h) (fun h=>rg<|lp (e0O a b) h (fun _ h=>a6z.rt h) (d8k r) fun hI=>sk [] [0,1,12,13] [] hI)
def a5j:FS (Bool):=⟨60,Tryz.f60,[.val [] []],[none,none],[.val [some 1] [],.val [some 1] []],fun r=>.b r,fun _=>[none,none],Tryz.func60⟩
def d2w:Unit->KS:=fun _=>⟨a5j.k 4 [false,false],(bs 26 []),[some []]⟩
def d1F:Option Bool :=
 some true
theorem e0s(r):NF a5j r d2w (fun s=>d1F):=fun _ h=>PK<|rg<|fE h
def e3e(a:List Bool)(b:List Bool):Int->KS:=fun v13=>⟨a5j.k 3 [false],(l7 1 eB a::(l7 1 eB b::(bs 10 (vi (a.length:Int)::(vi v13::(bs 12 [])))))),[some []]⟩
def b8z(a:List Bool)(b:List Bool)(v13:Int):Option (l8 Bool Int Unit) :=
 (bif decide (v13<(a.length:Int)) then ((idx a v13).bind fun y=>((idx b v13).bind fun y1=>(bif (!(y==y1)) then some (l8.ret false) else some (l8.nxt (m8 (v13+1)))))) else some (l8.brk ()))
theorem e0X(a b):LQ a5j d2w (e3e a b) (fun s=>b8z a b s):=fun lc v13 h=>PK<|rg<|j5 0 h (fun h=>n6<|w9 eB 2 h fun y hy h=>w9 eB 6 h fun y1 hy1 h=>j5 8 h (fun h=>rg<|fL lc h) (fun h=>rg<|(lc.nx h fun hI=>sk [] [0,1,12,13] [] hI))) (fun h=>(lc.bk h fun hI=>sk [] [] [] hI))
def b2E(a:List Bool)(b:List Bool):Option Bool :=
 (bif ((a.length:Int) != (b.length:Int)) then some false else ((p8 (fun s:Int=>b8z a b s) 0).bind fun x=>x.go (fun r=>some r) fun s=>d1F))
theorem d3b{a b}:OK a5j [l7 1 eB a,l7 1 eB b] (b2E a b) :=
 n8 _ fun r h=>n6<|j5 4 h (fun h=>rg<|fE h) (fun h=>rg<|lp (e0X a b) h (fun _ h=>a5j.rt h) (e0s r) fun hI=>sk [] [0,1,12,13] [] hI)
def a7X:FS (Bool):=⟨63,Tryz.f63,[.val [] []],[none,none],[.val [some 4] [],.val [some 4] []],fun r=>.b r,fun _=>[none,none],Tryz.func63⟩
def c9j:Unit->KS:=fun _=>⟨a7X.k 4 [false,false],(bs 26 []),[some []]⟩
def d03:Option Bool :=
 some true
theorem e23(r):NF a7X r c9j (fun s=>d03):=fun _ h=>PK<|rg<|fE h
def d4O(a:List o9)(b:List o9):Int->KS:=fun v13=>⟨a7X.k 3 [false],(l7 4 z6 a::(l7 4 z6 b::(bs 10 (vi (a.length:Int)::(vi v13::(bs 12 [])))))),[some []]⟩
def b6Z(a:List o9)(b:List o9)(v13:Int):Option (l8 Bool Int Unit) :=
 (bif decide (v13<(a.length:Int)) then ((idx a v13).bind fun ins=>((idx b v13).bind fun b0P=>(bif (!(([ins.a8,ins.A,ins.B,ins.N]:List Int)==[b0P.a8,b0P.A,b0P.B,b0P.N])) then some (l8.ret false) else some (l8.nxt (m8 (v13+1)))))) else some (l8.brk ()))
theorem e2a(a b):LQ a7X c9j (d4O a b) (fun s=>b6Z a b s):=fun lc v13 h=>PK<|rg<|j5 0 h (fun h=>n6<|w9 z6 2 h fun ins hins h=>w9 z6 6 h fun b0P e9E h=>j5 8 h (fun h=>rg<|fL lc h) (fun h=>rg<|(lc.nx h fun hI=>sk [] [0,1,12,13] [] hI))) (fun h=>(lc.bk h fun hI=>sk [] [] [] hI))
def b9N(a:List o9)(b:List o9):Option Bool :=
 (bif ((a.length:Int) != (b.length:Int)) then some false else ((p8 (fun s:Int=>b6Z a b s) 0).bind fun x=>x.go (fun r=>some r) fun s=>d03))
theorem d6U{a b}:OK a7X [l7 4 z6 a,l7 4 z6 b] (b9N a b) :=
 n8 _ fun r h=>n6<|j5 4 h (fun h=>rg<|fE h) (fun h=>rg<|lp (e2a a b) h (fun _ h=>a7X.rt h) (e23 r) fun hI=>sk [] [0,1,12,13] [] hI)
def b9c:FS (Bool):=⟨24,Tryz.f24,[.val [] []],[none,none],[.val [some 4] [],.val [some 4] []],fun r=>.b r,fun _=>[none,none],Tryz.func24⟩
def b2B(a:List o9)(b:List o9):Option Bool :=
 ((b9N a b).bind fun ins=>some ins)
theorem c7j{a b}:OK b9c [l7 4 z6 a,l7 4 z6 b] (b2B a b) :=
 n8 _ fun r h=>n6<|j9 a7X d6U 2 h fun ins h=>fE h
def c5g:FS (Bool):=⟨22,Tryz.f22,[.val [] []],[none,none],[.val A3 [],.val A3 []],fun r=>.b r,fun _=>[none,none],Tryz.func22⟩
def b6h(a:j6)(b:j6):Option Bool :=
 (bif (a.Id==b.Id) then ((b89 a.Acc b.Acc).bind fun c7Y=>(bif c7Y then ((b2D a.a0 b.a0).bind fun c5G=>(bif c5G then (bif (a.Seq==b.Seq) then (bif (a.d6==b.d6) then (bif (a.a7==b.a7) then ((b2E a.c8 b.c8).bind fun bool=>(bif bool then ((a8V a.g9 b.g9).bind fun a5r=>(bif a5r then ((Z9 a.c9 b.c9).bind fun J8=>(bif J8 then ((b2E a.a6 b.a6).bind fun a95=>(bif a95 then (bif (a.i7==b.i7) then ((b2B a.i5 b.i5).bind fun b0K=>(bif b0K then ((Z9 a.b7 b.b7).bind fun c38=>(bif c38 then ((b2D a.d9 b.d9).bind fun c3T=>some c3T) else some false)) else some false)) else some false) else some false)) else some false)) else some false)) else some false)) else some false) else some false) else some false) else some false)) else some false)) else some false)
theorem d39{a b}:OK c5g [.agg (A2 a),.agg (A2 b)] (b6h a b) :=
 n8 _ fun r h=>n6<|j5 5 h (fun h=>j9 d2S d3G 10 h fun c7Y h=>j5 12 h (fun h=>j9 a6z c3I 17 h fun c5G h=>j5 19 h (fun h=>j5 26 h (fun h=>j5 33 h (fun h=>j5 40 h (fun h=>j9 a5j d3b 45 h fun bool h=>j5 47 h (fun h=>j9 a4t c2j 52 h fun a5r h=>j5 54 h (fun h=>j9 a2J a3e 59 h fun J8 h=>j5 61 h (fun h=>j9 a5j d3b 66 h fun a95 h=>j5 68 h (fun h=>j5 75 h (fun h=>j9 b9c c7j 80 h fun b0K h=>j5 82 h (fun h=>j9 a2J a3e 87 h fun c38 h=>j5 89 h (fun h=>j9 a6z c3I 94 h fun c3T h=>fE h) (fun h=>fE h)) (fun h=>fE h)) (fun h=>fE h)) (fun h=>fE h)) (fun h=>fE h)) (fun h=>fE h)) (fun h=>fE h)) (fun h=>fE h)) (fun h=>fE h)) (fun h=>fE h)) (fun h=>fE h)) (fun h=>fE h)) (fun h=>fE h)
def c4E:FS (Bool):=⟨23,Tryz.f23,[.val [] []],[none,none],[.val B5 [],.val B5 []],fun r=>.b r,fun _=>[none,none],Tryz.func23⟩
def c0L(a:j8)(b:j8):Option Bool :=
 (bif (a.a8==b.a8) then (bif (a.c8==b.c8) then (bif (a.To==b.To) then (bif (a.a7==b.a7) then (bif (a.g7==b.g7) then ((Z9 a.i0 b.i0).bind fun J8=>(bif J8 then ((a8V a.a6 b.a6).bind fun a5r=>some a5r) else some false)) else some false) else some false) else some false) else some false) else some false)
theorem e2z{a b}:OK c4E [.agg (s5 a),.agg (s5 b)] (c0L a b) :=
 n8 _ fun r h=>n6<|j5 5 h (fun h=>j5 12 h (fun h=>j5 19 h (fun h=>j5 26 h (fun h=>j5 33 h (fun h=>j9 a2J a3e 38 h fun J8 h=>j5 40 h (fun h=>j9 a4t c2j 45 h fun a5r h=>fE h) (fun h=>fE h)) (fun h=>fE h)) (fun h=>fE h)) (fun h=>fE h)) (fun h=>fE h)) (fun h=>fE h)
def T6:FS (Bool):=⟨7,Tryz.f7,[.val [] []],[none,none],[.val E4 [],.val E4 []],fun r=>.b r,fun _=>[none,none],Tryz.func7⟩
def c68(a:m6)(b:m6):Unit->KS:=fun _=>⟨T6.k 4 [false,false],(bs 2 (.ptr 1 0 0::(.ptr 2 0 0::(bs 111 [])))),[some [],some [.var 28 (I0 a)],some [.var 28 (I0 b)]]⟩
def c6i(a:m6)(b:m6):Unit->KS:=fun _=>⟨T6.k 6 [false,false,false],(bs 2 (.ptr 1 0 0::(.ptr 2 0 0::(bs 111 [])))),[some [],some [.var 28 (I0 a)],some [.var 28 (I0 b)]]⟩
def c8B:Unit->KS:=fun _=>⟨T6.k 8 [false,false,false,false],(bs 115 []),[some []]⟩
def c5C:Option Bool :=
 some true
theorem d4P(r):NF T6 r c8B (fun s=>c5C):=fun _ h=>PK<|rg<|fE h
def d8r(a:m6)(b:m6):Int->KS:=fun v82=>⟨T6.k 7 [false,false,false],(bs 2 (.ptr 1 0 0::(.ptr 2 0 0::(bs 77 (vi (a.d7.length:Int)::(vi v82::(bs 32 []))))))),[some [],some [.var 28 (I0 a)],some [.var 28 (I0 b)]]⟩
def b4B(a:m6)(b:m6)(v82:Int):Option (l8 Bool Int Unit) :=
 (bif decide (v82<(a.d7.length:Int)) then ((idx a.d7 v82).bind fun asked=>((idx b.d7 v82).bind fun a2B=>(bif (!(([asked.a5.d8,asked.a5.Seq]:List Int)==[a2B.a5.d8,a2B.a5.Seq])) then some (l8.ret false) else ((b2B asked.i5 a2B.i5).bind fun b0K=>(bif (!b0K) then some (l8.ret false) else some (l8.nxt (m8 (v82+1)))))))) else some (l8.brk ()))
theorem d6V(a b):LQ T6 c8B (d8r a b) (fun s=>b4B a b s):=fun lc v82 h=>PK<|rg<|j5 0 h (fun h=>n6<|w9 A7 3 h fun asked a7k h=>w9 A7 9 h fun a2B a8y h=>j5 13 h (fun h=>rg<|fL lc h) (fun h=>L7 A7 17 a7k<|L7 A7 23 a8y<|j9 b9c c7j 26 h fun b0K h=>j5 28 h (fun h=>rg<|fL lc h) (fun h=>rg<|(lc.nx h fun hI=>sk [] [2,3,81,82] [(1,0),(2,0)] hI)))) (fun h=>(lc.bk h fun hI=>sk [] [] [] hI))
def c3o(a:m6)(b:m6):Option Bool :=
 ((p8 (fun s:Int=>b4B a b s) 0).bind fun x=>x.go (fun r=>some r) fun s=>c5C)
theorem e7D(a b)(r):NF T6 r (c6i a b) (fun s=>c3o a b):=fun _ h=>PK<|rg<|lp (d6V a b) h (fun _ h=>T6.rt h) (d4P r) fun hI=>sk [] [2,3,81,82] [(1,0),(2,0)] hI
def d6I(a:m6)(b:m6):Int->KS:=fun v63=>⟨T6.k 5 [false,false],(bs 2 (.ptr 1 0 0::(.ptr 2 0 0::(bs 58 (vi (a.b9.length:Int)::(vi v63::(bs 51 []))))))),[some [],some [.var 28 (I0 a)],some [.var 28 (I0 b)]]⟩
def b5R(a:m6)(b:m6)(v63:Int):Option (l8 Bool Int Unit) :=
 (bif decide (v63<(a.b9.length:Int)) then ((idx a.b9 v63).bind fun msg=>((idx b.b9 v63).bind fun b3q=>((c0L msg b3q).bind fun c5m=>(bif (!c5m) then some (l8.ret false) else some (l8.nxt (m8 (v63+1))))))) else some (l8.brk ()))
theorem d7o(a b):LQ T6 (c6i a b) (d6I a b) (fun s=>b5R a b s):=fun lc v63 h=>PK<|rg<|j5 0 h (fun h=>n6<|w9 s5 3 h fun msg hmsg h=>w9 s5 8 h fun b3q b3o h=>j9 c4E e2z 10 h fun c5m h=>j5 11 h (fun h=>rg<|fL lc h) (fun h=>rg<|(lc.nx h fun hI=>sk [] [2,3,62,63] [(1,0),(2,0)] hI))) (fun h=>(lc.bk h fun hI=>sk [] [2,3] [(1,0),(2,0)] hI))
def b9h(a:m6)(b:m6):Option Bool :=
 ((p8 (fun s:Int=>b5R a b s) 0).bind fun x=>x.go (fun r=>some r) fun s=>c3o a b)
theorem d48(a b)(r):NF T6 r (c68 a b) (fun s=>b9h a b):=fun _ h=>PK<|rg<|lp (d7o a b) h (fun _ h=>T6.rt h) (e7D a b r) fun hI=>sk [] [2,3,62,63] [(1,0),(2,0)] hI
def e9c(a:m6)(b:m6):Int->KS:=fun v44=>⟨T6.k 3 [false],(bs 2 (.ptr 1 0 0::(.ptr 2 0 0::(bs 39 (vi (a.a9.length:Int)::(vi v44::(bs 70 []))))))),[some [],some [.var 28 (I0 a)],some [.var 28 (I0 b)]]⟩
def b72(a:m6)(b:m6)(v44:Int):Option (l8 Bool Int Unit) :=
 (bif decide (v44<(a.a9.length:Int)) then ((idx a.a9 v44).bind fun node=>((idx b.a9 v44).bind fun a2U=>((b6h node a2U).bind fun d09=>(bif (!d09) then some (l8.ret false) else some (l8.nxt (m8 (v44+1))))))) else some (l8.brk ()))
theorem d5w(a b):LQ T6 (c68 a b) (e9c a b) (fun s=>b72 a b s):=fun lc v44 h=>PK<|rg<|j5 0 h (fun h=>n6<|w9 A2 3 h fun node hnode h=>w9 A2 8 h fun a2U a40 h=>j9 c5g d39 10 h fun d09 h=>j5 11 h (fun h=>rg<|fL lc h) (fun h=>rg<|(lc.nx h fun hI=>sk [] [2,3,43,44] [(1,0),(2,0)] hI))) (fun h=>(lc.bk h fun hI=>sk [] [2,3] [(1,0),(2,0)] hI))
def b5Y(a:m6)(b:m6):Option Bool :=
 (bif ((a.a9.length:Int) != (b.a9.length:Int)) then some false else (bif ((a.b9.length:Int) != (b.b9.length:Int)) then some false else (bif ((a.d7.length:Int) != (b.d7.length:Int)) then some false else ((b8g a.Told b.Told).bind fun told=>(bif (!told) then some false else ((p8 (fun s:Int=>b72 a b s) 0).bind fun x=>x.go (fun r=>some r) fun s=>b9h a b))))))
theorem e0p{a b}:OK T6 [.agg (a0h a),.agg (a0h b)] (b5Y a b) :=
 n8 _ fun r h=>n6<|j5 7 h (fun h=>rg<|fE h) (fun h=>j5 16 h (fun h=>rg<|fE h) (fun h=>j5 25 h (fun h=>rg<|fE h) (fun h=>j9 a7F e7b 30 h fun told h=>j5 32 h (fun h=>rg<|fE h) (fun h=>rg<|lp (d5w a b) h (fun _ h=>T6.rt h) (d48 a b r) fun hI=>sk [] [2,3,43,44] [(1,0),(2,0)] hI))))
def a4Q:FS (List m4):=⟨10,Tryz.f10,[.val [some 7] []],[none],[.val E4 []],fun r=>l7 7 t0 r,fun _=>[none],Tryz.func10⟩
def c0n(w:m6):Int->KS:=fun b3v=>⟨a4Q.k 4 [false],(bs 1 (.ptr 1 0 0::(bs 1 (vi b3v::(bs 36 []))))),[some [],some [.var 28 (I0 w)]]⟩
def b9g(w:m6)(b3v:Int):Option (List m4) :=
 (bif decide (b3v<0) then some [] else ((idx w.a9 b3v).bind fun node=>((a9a node.a0).bind fun a61=>some a61)))
theorem d6F(w)(r):NF a4Q r (c0n w) (fun s=>b9g w s):=fun b3v h=>PK<|rg<|j5 1 h (fun h=>rg<|fE h) (fun h=>rg<|w9 A2 3 h fun node hnode h=>j9 a4h c1N 6 h fun a61 h=>s7 a61<|fE h)
def c8Z(w:m6):(Int×Int)->KS:=fun (best,v9)=>⟨a4Q.k 3 [],(bs 1 (.ptr 1 0 0::(bs 1 (vi best::(bs 3 (l7 27 A2 w.a9::(vi (w.a9.length:Int)::(vi v9::(bs 30 []))))))))),[some [],some [.var 28 (I0 w)]]⟩
def e7q(w:m6)(v9:Int):Int->KS:=fun b4I=>⟨a4Q.k 7 [true,true],(bs 1 (.ptr 1 0 0::(bs 1 (vi b4I::(bs 3 (l7 27 A2 w.a9::(vi (w.a9.length:Int)::(vi v9::(bs 30 []))))))))),[some [],some [.var 28 (I0 w)]]⟩
def b41(v9:Int)(b4I:Int):Option (l8 (List m4) (Int×Int) Int) :=
 some (l8.nxt (b4I,m8 (v9+1)))
theorem e2R(w v9)(lc:I5 a4Q (c0n w) (c8Z w)):NL lc (e7q w v9) (fun s=>b41 v9 s):=fun b4I h=>PK<|rg<|(lc.nx h fun hI=>sk [] [1,3,7,8,9] [(1,0)] hI)
def a4f(w:m6)(best:Int)(v9:Int):Option (l8 (List m4) (Int×Int) Int) :=
 (bif decide (v9<(w.a9.length:Int)) then ((idx w.a9 v9).bind fun a2U=>(((bif decide (best<0) then some (l9.brk v9) else ((idx w.a9 best).bind fun c7V=>(bif decide ((a2U.a0.length:Int)>(c7V.a0.length:Int)) then some (l9.brk v9) else some (l9.brk best)))):Option (l9 (l8 (List m4) (Int×Int) Int) Int)).bind fun x=>x.go some fun j=>b41 v9 j)) else some (l8.brk best))
theorem e1V(w):LQ a4Q (c0n w) (c8Z w) (fun s=>a4f w s.1 s.2):=fun lc (best,v9) h=>PK<|rg<|j5 0 h (fun h=>rg<|w9 A2 1 h fun a2U a40 h=>B2 h (e2R w v9 lc) fun x2 h hc2=>rg<|j5 2 h (fun h=>rg<|(o8 h hc2 fun hI=>sk [] [1,3,7,8,9] [(1,0)] hI)) (fun h=>w9 A2 9 h fun c7V e9D h=>j5 14 h (fun h=>rg<|(o8 h hc2 fun hI=>sk [] [1,3,7,8,9] [(1,0)] hI)) (fun h=>(o8 h hc2 fun hI=>sk [] [1,3,7,8,9] [(1,0)] hI)))) (fun h=>(lc.bk h fun hI=>sk [] [1,3] [(1,0)] hI))
def b6n(w:m6):Option (List m4) :=
 ((p8 (fun s:Int×Int=>a4f w s.1 s.2) ((-1),0)).bind fun x=>x.go (fun r=>some r) fun s=>b9g w s)
theorem e4B{w}:OK a4Q [.agg (a0h w)] (b6n w) :=
 n8 _ fun r h=>M5<|lp (e1V w) h (fun _ h=>a4Q.rt h) (d6F w r) fun hI=>sk [] [1,3,7,8,9] [(1,0)] hI
def a6M:FS ((List o9)×Bool):=⟨11,Tryz.f11,[.val [some 4] [],.val [] []],[none,none],[.val E4 [],.val [] []],fun r=>.tup [l7 4 z6 r.1,.b r.2],fun _=>[none,none],Tryz.func11⟩
def c5p:Unit->KS:=fun _=>⟨a6M.k 3 [false],(bs 23 []),[some []]⟩
def d1j:Option ((List o9)×Bool) :=
 some ([],false)
theorem e63(r):NF a6M r c5p (fun s=>d1j):=fun _ h=>PK<|rg<|fE h
def e3F(w:m6)(q:q8):Int->KS:=fun v11=>⟨a6M.k 2 [],(bs 3 (.ptr 1 0 0::(bs 5 (l7 3 A7 w.d7::(vi (w.d7.length:Int)::(vi v11::(bs 11 []))))))),[some [],some [.var 37 [vi q.d8,vi q.Seq]]]⟩
def b7g(w:m6)(q:q8)(v11:Int):Option (l8 ((List o9)×Bool) Int Unit) :=
 (bif decide (v11<(w.d7.length:Int)) then ((idx w.d7 v11).bind fun asked=>(bif (([asked.a5.d8,asked.a5.Seq]:List Int)==[q.d8,q.Seq]) then ((a8q asked.i5).bind fun ins=>some (l8.ret (ins,true))) else some (l8.nxt (m8 (v11+1))))) else some (l8.brk ()))
theorem d9c(w q):LQ a6M c5p (e3F w q) (fun s=>b7g w q s):=fun lc v11 h=>PK<|rg<|j5 0 h (fun h=>rg<|w9 A7 0 h fun asked a7k h=>rg<|j5 3 h (fun h=>rg<|j9 b8l c2R 2 h fun ins h=>s7 ins<|fL lc h) (fun h=>rg<|(lc.nx h fun hI=>sk [] [3,9,10,11] [(1,0)] hI))) (fun h=>(lc.bk h fun hI=>sk [] [] [] hI))
def b6H(w:m6)(q:q8):Option ((List o9)×Bool) :=
 ((p8 (fun s:Int=>b7g w q s) 0).bind fun x=>x.go (fun r=>some r) fun s=>d1j)
theorem d7D{w q}:OK a6M [.agg (a0h w),.agg (Z1 q)] (b6H w q) :=
 n8 _ fun r h=>n6<|lp (d9c w q) h (fun _ h=>a6M.rt h) (e63 r) fun hI=>sk [] [3,9,10,11] [(2,0)] hI
def a3P:FS (Bool):=⟨3,Tryz.f3,[.val [] []],[none],[.val [some 1] []],fun r=>.b r,fun _=>[none],Tryz.func3⟩
def c2P:Unit->KS:=fun _=>⟨a3P.k 7 [false,false,false],(bs 72 []),[some []]⟩
def d2D:Option Bool :=
 some true
theorem e2y(r):NF a3P r c2P (fun s=>d2D):=fun _ h=>PK<|rg<|fE h
def c7e(worldPlay:m6)(worldLog:List m4):Int->KS:=fun i=>⟨a3P.k 6 [false,false],(bs 3 (.ptr 1 0 0::(l7 7 t0 worldLog::(vi i::(bs 66 []))))),[some [],some [.var 28 [l7 27 A2 worldPlay.a9,l7 13 s5 worldPlay.b9,l7 3 A7 worldPlay.d7,l7 5 x7 worldPlay.Told]]]⟩
def c6R(worldPlay:m6)(worldLog:List m4)(i:Int):Bool->KS:=fun b5T=>⟨a3P.k 13 [false,false,true,false,false,false],(bs 3 (.ptr 1 0 0::(l7 7 t0 worldLog::(vi i::(bs 2 (.b b5T::(bs 63 []))))))),[some [],some [.var 28 [l7 27 A2 worldPlay.a9,l7 13 s5 worldPlay.b9,l7 3 A7 worldPlay.d7,l7 5 x7 worldPlay.Told]]]⟩
def b8W(i:Int)(b5T:Bool):Option (l8 Bool Int Unit) :=
 (bif (!b5T) then some (l8.ret false) else some (l8.nxt (m8 (i+1))))
theorem e1O(worldPlay worldLog i)(lc:I5 a3P c2P (c7e worldPlay worldLog)):NL lc (c6R worldPlay worldLog i) (fun s=>b8W i s):=fun b5T h=>PK<|rg<|j5 1 h (fun h=>rg<|fL lc h) (fun h=>rg<|(lc.nx h fun hI=>sk [] [3,4,5] [(1,0)] hI))
def e04(worldPlay:m6)(worldLog:List m4)(i:Int)(toldProg:(List o9)×Bool):(Bool×Int)->KS:=fun (some_,k)=>⟨a3P.k 12 [false,false,true,false,false],(bs 3 (.ptr 1 0 0::(l7 7 t0 worldLog::(vi i::(l7 4 z6 toldProg.1::(bs 1 (.b some_::(vi k::(bs 62 []))))))))),[some [],some [.var 28 [l7 27 A2 worldPlay.a9,l7 13 s5 worldPlay.b9,l7 3 A7 worldPlay.d7,l7 5 x7 worldPlay.Told]]]⟩
def a59(worldLog:List m4)(i:Int)(toldProg:(List o9)×Bool)(some_:Bool)(k:Int):Option (l8 Bool (Bool×Int) Bool) :=
 (bif decide (k<=i) then (bif some_ then some (l8.nxt (true,m8 (k+1))) else (t5 ((0:Int)<=k/\k<=(worldLog.length:Int)) (((b09 ((worldLog.drop 0).take (k.toNat-0))).bind fun a2W=>((b0y a2W.i4 toldProg.1).bind fun D4=>((idx worldLog i).bind fun a53=>((b2R D4 a53.b8).bind fun a0U=>some (l8.nxt (a0U,m8 (k+1)))))))))) else some (l8.brk some_))
theorem e6k(worldPlay worldLog i toldProg):LQ a3P (c6R worldPlay worldLog i) (e04 worldPlay worldLog i toldProg) (fun s=>a59 worldLog i toldProg s.1 s.2):=fun lc (some_,k) h=>PK<|rg<|j5 2 h (fun h=>rg<|j5 1 h (fun h=>rg<|(lc.nx h fun hI=>sk [] [3,4,5,6,8,9] [(1,0)] hI)) (fun h=>t6 h fun e1 h=>om (V.sl 7 (k.toNat-0) (((worldLog.map t0).drop 0).take (k.toNat-0))=l7 7 t0 ((worldLog.drop 0).take (k.toNat-0))) (b1X e1)<|ob e1.1<|ob e1.2<|tl (4,{v:=some (l7 7 t0 ((worldLog.drop 0).take (k.toNat-0)))})<|j9 c1b c7l 5 h fun a2W h=>j9 O3 c8G 8 h fun D4 h=>s7 a2W.i4<|w9 t0 11 h fun a53 a8D h=>j9 c2G c6Y 14 h fun a0U h=>rg<|(lc.nx h fun hI=>sk [] [3,4,5,6,8,9] [(1,0)] hI))) (fun h=>(lc.bk h fun hI=>sk [] [3,4,5,8] [(1,0)] hI))
def b6J(worldPlay:m6)(worldLog:List m4)(i:Int):Option (l8 Bool Int Unit) :=
 (bif decide (i<(worldLog.length:Int)) then ((idx worldLog i).bind fun entry=>(bif entry.i8 then some (l8.nxt (m8 (i+1))) else ((b6H worldPlay entry.a5).bind fun toldProg=>(bif (!toldProg.2) then some (l8.ret false) else ((p8 (fun s:Bool×Int=>a59 worldLog i toldProg s.1 s.2) (false,0)).bind fun x=>x.go (fun r=>some (l8.ret r)) fun s=>b8W i s))))) else some (l8.brk ()))
theorem d5i(worldPlay worldLog):LQ a3P c2P (c7e worldPlay worldLog) (fun s=>b6J worldPlay worldLog s):=fun lc i h=>PK<|rg<|j5 3 h (fun h=>rg<|w9 t0 2 h fun entry H0 h=>j5 4 h (fun h=>rg<|(lc.nx h fun hI=>sk [] [3,4,5] [(1,0)] hI)) (fun h=>rg<|L7 t0 3 H0<|j9 a6M d7D 6 h fun toldProg h=>rg<|j5 1 h (fun h=>rg<|fL lc h) (fun h=>n6<|lp (e6k worldPlay worldLog i toldProg) h (fun _ h=>lc.rt h) (e1O worldPlay worldLog i lc) fun hI=>sk [] [3,4,5,6,8,9] [(1,0)] hI))) (fun h=>(lc.bk h fun hI=>sk [] [] [] hI))
def b87(code:List Int):Option Bool :=
 (bif decide ((code.length:Int)>1048576) then some true else ((b5M).bind fun a8z=>((b20 code).bind fun c6c=>((b03 a8z c6c).bind fun worldPlay=>((b19).bind fun a6k=>((b20 code).bind fun c3b=>((b14 a6k c3b).bind fun a1J=>((b5Y worldPlay a1J).bind fun a8a=>(bif (!a8a) then some false else ((b6n worldPlay).bind fun worldLog=>((p8 (fun s:Int=>b6J worldPlay worldLog s) 0).bind fun x=>x.go (fun r=>some r) fun s=>d2D)))))))))))
theorem e7u{code}:OK a3P [l7 1 J0 code] (b87 code) :=
 n8 _ fun r h=>n6<|j5 2 h (fun h=>rg<|fE h) (fun h=>rg<|j9 a6V e4a 0 h fun a8z h=>j9 c1L d3A 2 h fun c6c h=>j9 a7A e3v 3 h fun worldPlay h=>rg<|j9 a5I d16 1 h fun a6k h=>j9 c1L d3A 3 h fun c3b h=>A6 h fun a1J e2K h=>om (X7 cx.P 8 [.agg [.sl 27 a6k.a9.length (Z6 (a6k.a9.map x9)),l7 13 s5 a6k.b9,l7 3 A7 a6k.d7,l7 5 x7 a6k.Told],l7 3 G1 c3b] (a4z.R a1J) (a4z.O a1J)) (by simp only [a9b b23];exact (d89 a1J e2K))<|A5 a6k<|tl (a4z.t 4 false a1J)<|A6 h fun a8a e6s h=>om (X7 cx.P 7 [.agg (a0h worldPlay),.agg [.sl 27 a1J.a9.length (Z6 (a1J.a9.map x9)),l7 13 s5 a1J.b9,l7 3 A7 a1J.d7,l7 5 x7 a1J.Told]] (T6.R a8a) (T6.O a8a)) (by simp only [a9b b23];exact (e0p a8a e6s))<|osc T6 a8a rfl (P8 2)<|A5 a1J<|tl (T6.t 5 true a8a)<|j5 6 h (fun h=>rg<|fE h) (fun h=>rg<|j9 a4Q e4B 1 h fun worldLog h=>rg<|lp (d5i worldPlay worldLog) h (fun _ h=>a3P.rt h) (e2y r) fun hI=>sk [] [3,4,5] [(9,0)] hI))
theorem e62:b0f Tryz.prog 5 J0 a5R:=e3G Tryz.underlying5
theorem d55:b0f Tryz.prog 22 (fun l:List Int=>[l7 1 J0 l]) (z7 1 a5R):=d58 Tryz.underlying22 e62 (by kernel_rfl) (by decide) (by kernel_rfl) (fun _=>rfl)
theorem B9{n:Int}(h1:-9223372036854775808<=n)(h2:n<=9223372036854775807):m8 n=n:=IntWalk.i64_in n ⟨h1,h2⟩
def t8{α:Type}(l:List α):Prop:=l.length<=140737488351232
theorem F3{α:Type}{l:List α}(hl:t8 l){k:Nat}(h:k<l.length):m8 ((k:Int)+1)=((k+1:Nat):Int):=by
 unfold t8 at hl;rw [B9 (by omega) (by omega)];omega
section
variable {R S B:Type} {body:S->Option (l8 R S B)}
theorem E1{s t:S}(h:body s=some (.nxt t)):p8 body s=p8 body t:=by rw [c2E,h]
theorem C6{s:S}{b:B}(h:body s=some (.brk b)):p8 body s=some (.brk b):=by rw [c2E,h]
theorem Z4{s:S}{r:R}(h:body s=some (.ret r)):p8 body s=some (.ret r):=by rw [c2E,h]
theorem W6(st:Nat->S)(n:Nat)(h:∀k,k<n->body (st k)=some (.nxt (st (k+1)))):p8 body (st 0)=p8 body (st n):=by
 induction n with
 | zero=>rfl
 | succ n ih =>
  rw [ih fun k hk=>h k (by omega)];exact E1 (h n (by omega))
theorem a5J(st:Nat->S)(n:Nat)(ok:Nat->Bool)(r:Nat->R)(b:B)(h1:∀k,k<n->(∀j,j<k->ok j=true)->body (st k)=some (bif ok k then .nxt (st (k+1)) else .ret (r k)))(h2:(∀j,j<n->ok j=true)->body (st n)=some (.brk b)) :
  (p8 body (st 0)=some (.brk b)/\∀j,j<n->ok j=true)\/∃k,k<n/\ok k=false/\(∀j,j<k->ok j=true)/\p8 body (st 0)=some (.ret (r k)):=by
 by_cases hall:∀j,j<n->ok j=true
 ·left
  refine ⟨?_,hall⟩;rw [W6 st n fun k hk => ?_]
  ·exact C6 (h2 hall)
  ·rw [h1 k hk fun j hj=>hall j (by omega),hall k hk];rfl
 ·right
  have hex:∃k,k<n/\ok k=false:=by
   apply Classical.byContradiction;intro hn;apply hall;intro j hj;cases hj':ok j with
   | true=>rfl
   | false=>exact absurd ⟨j,hj,hj'⟩ hn
  obtain ⟨k,hk,ho,hb⟩:∃k,k<n/\ok k=false/\∀j,j<k->ok j=true:=by
   obtain ⟨k,hk,ho⟩:=hex;induction k using Nat.strongRecOn with
   | _ k ih =>
    by_cases hb:∀j,j<k->ok j=true
    ·exact ⟨k,hk,ho,hb⟩
    ·have:∃j,j<k/\ok j=false:=by
      apply Classical.byContradiction;intro hn;apply hb;intro j hj;cases hj':ok j with
      | true=>rfl
      | false=>exact absurd ⟨j,hj,hj'⟩ hn
     obtain ⟨j,hj,hjo⟩:=this;exact ih j hj (by omega) hjo
  refine ⟨k,hk,ho,hb,?_⟩;rw [W6 st k fun j hj => ?_]
  ·refine Z4 ?_;rw [h1 k hk hb,ho];rfl
  ·rw [h1 j (by omega) fun i hi=>hb i (by omega),hb j hj];rfl
end
theorem b6w{R S B:Type}{body:S->Option (l8 R S B)}(I:Nat->S->Prop)(Q:l9 R B->Prop)(h:∀k s,I k s->∃st,body s=some st/\match st with | .ret r=>Q (.ret r) | .brk b=>Q (.brk b) | .nxt t => ∃k',k'<k/\I k' t):∀{k s},I k s->∃x,p8 body s=some x/\Q x:=by
 intro k;induction k using Nat.strongRecOn with
 | _ k ih =>
  intro s hs;obtain ⟨st,hb,hq⟩:=h k s hs;cases st with
  | ret r=>exact ⟨_,Z4 hb,hq⟩
  | brk b=>exact ⟨_,C6 hb,hq⟩
  | nxt t =>
   obtain ⟨k',hk,ht⟩:=hq;obtain ⟨x,hx,hq⟩:=ih k' hk ht;exact ⟨x,by rw [E1 hb];exact hx,hq⟩
theorem t9{β:Type}{p:Prop}[Decidable p](h:p)(k:Option β):t5 p k=k:=if_pos h
theorem a7W{α:Type}(l:List α)(k:Nat):idx l (k:Int)=l[k]?:=by
 unfold idx;rw [if_pos (by omega)];rfl
theorem u0{α:Type}{l:List α}{k:Nat}(h:k<l.length):idx l (k:Int)=some l[k]:=by
 rw [a7W,e9K h]
theorem x8{α:Type}(l:List α)(k:Nat)(h:k<l.length):decide ((k:Int)<(l.length:Int))=true:=by simpa using h
theorem A4{α:Type}(l:List α):decide ((l.length:Int)<(l.length:Int))=false:=by simp
theorem P9{α B:Type}{body:Int->Option (l8 Bool Int B)}(l:List α)(hl:t8 l)(ok:α->Bool)(v:Bool)(b:B)(h1:∀(k:Nat) (h:k<l.length),body (k:Int)=some (bif ok l[k] then .nxt (m8 ((k:Int)+1)) else .ret v))(h2:body (l.length:Int)=some (.brk b)):p8 body 0=some (bif l.all ok then .brk b else .ret v):=by
 have h:=a5J (body:=body) (fun k=>(k:Int)) l.length (fun k=>match l[k]? with|some x=>ok x|none=>true) (fun _=>v) b
  (fun k hk _=>by
   have:=h1 k hk;rw [F3 hl hk] at this;simpa [e9K hk] using this) (fun _=>h2)
 rcases h with ⟨h,hall⟩|⟨k,hk,ho,_,h⟩
 ·have:l.all ok=true:=by
   rw [List.all_eq_true];intro x hx;obtain ⟨i,hi,rfl⟩:=f0x hx;have:=hall i hi;simpa [e9K hi] using this
  rw [this];exact h
 ·have:l.all ok=false:=by
   rw [f1i];refine ⟨l[k],e9M hk,?_⟩;simpa [e9K hk] using ho
  rw [this];exact h
theorem a6j{α B:Type}{body:Int->Option (l8 Bool Int B)}(l:List α)(hl:t8 l)(ok:Nat->Bool)(v:Bool)(b:B)(h1:∀(k:Nat) (h:k<l.length),(∀j,j<k->ok j=true)->body (k:Int)=some (bif ok k then .nxt (m8 ((k:Int)+1)) else .ret v))(h2:body (l.length:Int)=some (.brk b)):p8 body 0=some (bif (e9U l.length).all ok then .brk b else .ret v):=by
 have h:=a5J (body:=body) (fun k=>(k:Int)) l.length ok (fun _=>v) b
  (fun k hk hb=>by
   have:=h1 k hk hb;rw [F3 hl hk] at this;exact this) (fun _=>h2)
 rcases h with ⟨h,hall⟩|⟨k,hk,ho,_,h⟩
 ·have:(e9U l.length).all ok=true:=by
   rw [List.all_eq_true];intro x hx;exact hall x (by simpa using hx)
  rw [this];exact h
 ·have:(e9U l.length).all ok=false:=by
   rw [f1i];exact ⟨k,by simpa using hk,by simp [ho]⟩
  rw [this];exact h
theorem b64{α R B:Type}{body:Int->Option (l8 R Int B)}(l:List α)(hl:t8 l)(is:α->Bool)(f:α->R)(b:B)(h1:∀(k:Nat) (h:k<l.length),body (k:Int)=some (bif is l[k] then .ret (f l[k]) else .nxt (m8 ((k:Int)+1))))(h2:body (l.length:Int)=some (.brk b)):p8 body 0=some (match l.find? is with|some x=>.ret (f x)|none=>.brk b):=by
 have key:∀(m k:Nat),k+m=l.length->p8 body (k:Int)=some (match (l.drop k).find? is with|some x=>.ret (f x)|none=>.brk b):=by
  intro m;induction m with
  | zero =>
   intro k hk;have:k=l.length:=by omega
   subst this;rw [List.drop_length];exact C6 h2
  | succ m ih =>
   intro k hk;have hlt:k<l.length:=by omega
   have hb:=h1 k hlt;rw [e97 hlt,List.find?_cons];cases hq:is l[k] with
   | true =>
    rw [hq] at hb;exact Z4 hb
   | false =>
    rw [hq] at hb;rw [E1 hb,F3 hl hlt];exact ih (k+1) (by omega)
 have:=key l.length 0 (by omega);simpa using this
theorem c4Z{α S R B:Type}{body:S×Int->Option (l8 R (S×Int) B)}(l:List α)(hl:t8 l)(g:S->α->S)(s0:S)(b:S->B)(h1:∀(k:Nat) (h:k<l.length),body ((l.take k).foldl g s0,(k:Int))=some (.nxt (g ((l.take k).foldl g s0) l[k],m8 ((k:Int)+1))))(h2:body (l.foldl g s0,(l.length:Int))=some (.brk (b (l.foldl g s0)))):p8 body (s0,0)=some (.brk (b (l.foldl g s0))):=by
 have h:=W6 (body:=body) (fun k=>((l.take k).foldl g s0,(k:Int))) l.length (fun k hk=>by
  rw [h1 k hk,F3 hl hk,f0j hk,List.foldl_append];rfl)
 simp only [f0p,f1w,f0f] at h;rw [show ((0:Nat):Int)=0 from rfl] at h;rw [h];exact C6 h2
def c05(x:q8):Prop:=H7 x.d8/\H7 x.Seq
def c4i(x:p9):Prop:=H7 x.i6/\H7 x.j4
def d0j(x:n9):Prop:=H7 x.i6/\H7 x.f0
def b43(x:n5):Prop:=(z7 16 c4i) x.b5/\(z7 16 d0j) x.b6/\H7 x.f0/\H7 x.Code
def E3(x:m4):Prop:=c05 x.a5/\b43 x.b8
def R2(x:m7):Prop:=H7 x.a7/\E3 x.i0
def a5l(x:x6):Prop:=H7 x.g8/\(z7 96 R2) x.a6
def b1B(x:o9):Prop:=H7 x.a8/\H7 x.A/\H7 x.B/\H7 x.N
def Q1(x:j6):Prop:=H7 x.Id/\a5l x.Acc/\(z7 88 E3) x.a0/\H7 x.Seq/\H7 x.d6/\H7 x.a7/\(z7 1 okT) x.c8/\(z7 96 R2) x.g9/\E3 x.c9/\(z7 1 okT) x.a6/\(z7 32 b1B) x.i5/\E3 x.b7/\(z7 88 E3) x.d9
def a0b(x:j8):Prop:=H7 x.a8/\H7 x.c8/\H7 x.To/\H7 x.a7/\H7 x.g7/\E3 x.i0/\(z7 96 R2) x.a6
def d2r(x:v5):Prop:=c05 x.a5/\(z7 32 b1B) x.i5
def c8U(x:m9):Prop:=H7 x.Node/\c05 x.a5/\H7 x.Code/\H7 x.f0
def a09(x:m6):Prop:=(z7 392 Q1) x.a9/\(z7 152 a0b) x.b9/\(z7 40 d2r) x.d7/\(z7 40 c8U) x.Told
theorem z7.fits{α:Type}{bytes:Nat}{ok:α->Prop}{l:List α}(h:z7 bytes ok l)(hb:0<bytes):t8 l:=by
 obtain ⟨h,_⟩:=h;unfold t8;have:l.length*1<=l.length*bytes:=Nat.mul_le_mul_left _ hb;omega
def a1I(x:n5):Prop:=z7 16 okT x.b5/\z7 16 okT x.b6/\True
def a0R(x:m4):Prop:=True/\a1I x.b8
theorem z7.imp{α:Type}{bytes:Nat}{ok ok':α->Prop}{l:List α}(h:z7 bytes ok l)(hi:∀x,ok x->ok' x):z7 bytes ok' l:=⟨h.1,fun x hx=>hi x (h.2 x hx)⟩
theorem b43.f{x:n5}(h:b43 x):a1I x:=⟨h.1.imp fun _ _=>trivial,h.2.1.imp fun _ _=>trivial,trivial⟩
theorem E3.f{x:m4}(h:E3 x):a0R x:=⟨trivial,h.2.f⟩
theorem okEntries.f{l:List m4}(h:z7 88 E3 l):z7 88 a0R l:=h.imp fun _ x=>x.f
def M8(l:List p9)(box:Int):Bool:=l.any (·.i6==box)
def S6(l:List n9)(box:Int):Bool:=l.any (·.i6==box)
theorem c0o{l:List p9}(h:t8 l)(box:Int):b1o l box=some (M8 l box):=by
 unfold b1o;rw [P9 l h (fun x => !(x.i6==box)) true ()]
 ·unfold M8;rw [List.any_eq_not_all_not];cases l.all fun x => !(x.i6==box)<;>rfl
 ·intro k hk;unfold b5e;rw [x8 l k hk,u0 hk];cases hq:l[k].i6==box<;>simp [hq]
 ·unfold b5e;rw [A4];rfl
theorem c3P{α B:Type}{body:Int->Option (l8 Int Int B)}(l:List α)(hl:t8 l)(is:α->Bool)(b:B)(h1:∀(k:Nat) (h:k<l.length),body (k:Int)=some (bif is l[k] then .ret (k:Int) else .nxt (m8 ((k:Int)+1))))(h2:body (l.length:Int)=some (.brk b)):(p8 body 0=some (.brk b)/\l.any is=false)\/∃k:Nat,p8 body 0=some (.ret (k:Int))/\l.any is=true:=by
 have h:=a5J (body:=body) (fun k=>(k:Int)) l.length (fun k=>match l[k]? with|some x => !is x|none=>true) (fun k=>(k:Int)) b
  (fun k hk _=>by
   have:=h1 k hk;rw [F3 hl hk] at this;rw [this];simp only [e9K hk];cases is l[k]<;>rfl) (fun _=>h2)
 rcases h with ⟨h,hall⟩|⟨k,hk,ho,_,h⟩
 ·left
  refine ⟨h,?_⟩;rw [f0A];intro x hx;obtain ⟨i,hi,rfl⟩:=f0x hx;have:=hall i hi;simpa [e9K hi] using this
 ·right
  refine ⟨k,h,?_⟩;rw [f1b];refine ⟨l[k],e9M hk,?_⟩;simpa [e9K hk] using ho
theorem e2c{l:List n9}(h:t8 l)(box:Int):∃v,a2A l box=some v/\decide (v>=0)=S6 l box:=by
 unfold a2A;rcases c3P (body:=fun s:Int=>a1j l box s) l h (fun x=>x.i6==box) () (by
  intro k hk;unfold a1j;rw [x8 l k hk,u0 hk];cases hq:l[k].i6==box<;>simp [hq]) (by unfold a1j;rw [A4];rfl) with ⟨h1,h2⟩|⟨k,h1,h2⟩
 ·rw [h1];exact ⟨-1,rfl,h2.symm⟩
 ·rw [h1];refine ⟨k,rfl,?_⟩;rw [show S6 l box=true from h2];simp
theorem e26{x:n5}(h:t8 x.b5)(box:Int):∃v,b26 x box=some v/\decide (v>=0)=M8 x.b5 box:=by
 unfold b26;rcases c3P (body:=fun s:Int=>b1R x box s) x.b5 h (fun x=>x.i6==box) () (by
  intro k hk;unfold b1R;rw [x8 x.b5 k hk,u0 hk];cases hq:x.b5[k].i6==box<;>simp [hq]) (by unfold b1R;rw [A4];rfl) with ⟨h1,h2⟩|⟨k,h1,h2⟩
 ·rw [h1];exact ⟨-1,rfl,h2.symm⟩
 ·rw [h1];refine ⟨k,rfl,?_⟩;rw [show M8 x.b5 box=true from h2];simp
def o7(n lo hi:Int):Bool:=decide (lo<=n/\n<=hi)
theorem M0(n lo hi:Int):C5 n lo hi=some (o7 n lo hi):=by
 unfold C5 o7;by_cases h:n>=lo
 ·have h':lo<=n:=h;simp [h']
 ·have h':¬lo<=n:=h;simp [h']
theorem a5e(n:Int):a5Z n=some (o7 n (-1000000) 1000000):=M0 n (-1000000) 1000000
theorem b9F(n:Int):a66 n=some (o7 n 0 3):=by
 rw [<-M0];unfold a66 C5;have:(n<4)=(n<=3):=by apply propext;omega
 simp only [this]
theorem b7f(q:q8):a6p q=some (o7 q.d8 0 2&&o7 q.Seq 1 1000):=by
 unfold a6p;simp only [M0,e9J];cases o7 q.d8 0 2<;>rfl
theorem b9k(q:q8):a8C q=some (o7 q.d8 0 2&&o7 q.Seq 1 1000):=by
 have h3:(q.d8<3)=(q.d8<=2):=by apply propext;omega
 unfold a8C o7;simp only [h3];by_cases h1:q.d8>=0<;>by_cases h2:q.d8<=2<;>by_cases h4:q.Seq>=1<;>by_cases h5:q.Seq<=1000<;>simp [h1,h2,h4,h5]<;>omega
def U7(l:List p9)(k:Nat):Bool:=match l[k]? with
 | some x=>o7 x.i6 0 3&&(o7 x.j4 0 1000000 && !M8 (l.take k) x.i6)
 | none=>true
def V7(l:List n9)(k:Nat):Bool:=match l[k]? with
 | some x=>o7 x.i6 0 3&&(o7 x.f0 (-1000000) 1000000 && !S6 (l.take k) x.i6)
 | none=>true
theorem c6n{α:Type}{l:List α}(h:t8 l)(k:Nat):t8 (l.take k):=by
 unfold t8 at h ⊢;rw [e96];omega
theorem d8N{r:n5}(h:t8 r.b5):p8 (fun s:Int=>b3z r s) 0=some (bif (e9U r.b5.length).all (U7 r.b5) then .brk () else .ret false):=by
 refine a6j r.b5 h (U7 r.b5) false () ?_ ?_
 ·intro k hk _;unfold b3z U7 t5;rw [x8 _ k hk,u0 hk,e9K hk];have hp:(0:Int)<=(k:Int)/\(k:Int)<=(r.b5.length:Int):=by constructor<;>omega
  simp only [cond_true,e9J,if_pos hp,b9F,e92,f1v,f0N,c0o (c6n h k)];cases o7 r.b5[k].i6 0 3
  ·rfl
  ·unfold o7;by_cases h1:r.b5[k].j4<0
   ·have h1':¬0<=r.b5[k].j4:=by omega
    simp [h1,h1']
   ·have h1':0<=r.b5[k].j4:=by omega
    by_cases h2:r.b5[k].j4>1000000
    ·have h2':¬r.b5[k].j4<=1000000:=by omega
     simp [h1,h1',h2,h2']
    ·have h2':r.b5[k].j4<=1000000:=by omega
     simp only [h1,h1',h2,h2',decide_false,decide_true,e9O,cond_false,e93,and_self];cases M8 (r.b5.take k) r.b5[k].i6<;>rfl
 ·unfold b3z;rw [A4];rfl
theorem e2f{r:n5}(h:t8 r.b6):p8 (fun s:Int=>b3w r s) 0=some (bif (e9U r.b6.length).all (V7 r.b6) then .brk () else .ret false):=by
 refine a6j r.b6 h (V7 r.b6) false () ?_ ?_
 ·intro k hk _;obtain ⟨v,hv,hg⟩:=e2c (c6n h k) r.b6[k].i6;unfold b3w V7 t5;rw [x8 _ k hk,u0 hk,e9K hk];have hp:(0:Int)<=(k:Int)/\(k:Int)<=(r.b6.length:Int):=by constructor<;>omega
  simp only [cond_true,e9J,if_pos hp,b9F,a5e,e92,f1v,f0N,hv,hg];cases o7 r.b6[k].i6 0 3
  ·rfl
  ·cases o7 r.b6[k].f0 (-1000000) 1000000
   ·rfl
   ·cases S6 (r.b6.take k) r.b6[k].i6<;>rfl
 ·unfold b3w;rw [A4];rfl
def a90(f:Int->Bool):List Bool:=[f 0,f 1,f 2,f 3]
theorem d1M{f:Int->Bool}{b:Int}(h:o7 b 0 3=true):idx (a90 f) b=some (f b)/\b<4:=by
 have h:0<=b/\b<=3:=by simpa [o7] using h
 have:b=0\/b=1\/b=2\/b=3:=by omega
 rcases this with rfl|rfl|rfl|rfl<;>exact ⟨rfl,by decide⟩
theorem c6f{f g:Int->Bool}{b:Int}(h:o7 b 0 3=true)(hb:g b=true)(hne:∀c,c≠b->g c=f c):(a90 f).set b.toNat true=a90 g:=by
 have h:0<=b/\b<=3:=by simpa [o7] using h
 have:b=0\/b=1\/b=2\/b=3:=by omega
 unfold a90;rcases this with rfl|rfl|rfl|rfl
 all_goals
  rw [show [g 0,g 1,g 2,g 3]=_ from rfl];first
   | rw [hb,hne 1 (by decide),hne 2 (by decide),hne 3 (by decide)];rfl
   | rw [hb,hne 0 (by decide),hne 2 (by decide),hne 3 (by decide)];rfl
   | rw [hb,hne 0 (by decide),hne 1 (by decide),hne 3 (by decide)];rfl
   | rw [hb,hne 0 (by decide),hne 1 (by decide),hne 2 (by decide)];rfl
theorem c3R{l:List p9}{k:Nat}(hk:k<l.length)(b:Int):M8 (l.take (k+1)) b=(M8 (l.take k) b||(l[k].i6==b)):=by
 unfold M8;rw [f0j hk,List.any_append];simp
theorem c5P{l:List n9}{k:Nat}(hk:k<l.length)(b:Int):S6 (l.take (k+1)) b=(S6 (l.take k) b||(l[k].i6==b)):=by
 unfold S6;rw [f0j hk,List.any_append];simp
theorem d4v{l:List p9}{k:Nat}(hk:k<l.length)(c:Int)(hc:c≠l[k].i6):M8 (l.take (k+1)) c=M8 (l.take k) c:=by
 have:(l[k].i6==c)=false:=by simpa using fun h=>hc h.symm
 rw [c3R hk,this,Bool.or_false]
theorem d9l{l:List n9}{k:Nat}(hk:k<l.length)(c:Int)(hc:c≠l[k].i6):S6 (l.take (k+1)) c=S6 (l.take k) c:=by
 have:(l[k].i6==c)=false:=by simpa using fun h=>hc h.symm
 rw [c5P hk,this,Bool.or_false]
theorem c6j{R S B:Type}{x:Option (l9 R B)}{n:Nat}{ok:Nat->Bool}{r:R}{b:B}(h:(x=some (.brk b)/\∀j,j<n->ok j=true)\/∃k,k<n/\ok k=false/\(∀j,j<k->ok j=true)/\x=some (.ret r)):x=some (bif (e9U n).all ok then .brk b else .ret r):=by
 rcases h with ⟨h,hall⟩|⟨k,hk,ho,_,h⟩
 ·have:(e9U n).all ok=true:=by
   rw [List.all_eq_true];intro x hx;exact hall x (by simpa using hx)
  rw [this];exact h
 ·have:(e9U n).all ok=false:=by
   rw [f1i];exact ⟨k,by simpa using hk,by simp [ho]⟩
  rw [this];exact h
theorem e1x{r:n5}(h:t8 r.b5):p8 (fun s:List Bool×Int=>a8E r s.1 s.2) (e9L 4 false,0)=some (bif (e9U r.b5.length).all (U7 r.b5) then .brk () else .ret false):=by
 refine c6j (S:=List Bool×Int) (a5J (body:=fun s:List Bool×Int=>a8E r s.1 s.2) (fun k=>(a90 (M8 (r.b5.take k)),(k:Int))) r.b5.length (U7 r.b5) (fun _=>false) () ?_ ?_)
 ·intro k hk _;simp only;unfold a8E U7 t5;rw [x8 _ k hk,u0 hk,e9K hk];simp only [cond_true,e9J,M0];cases hb:o7 r.b5[k].i6 0 3
  ·rfl
  ·obtain ⟨h1,h2⟩:=d1M (f:=M8 (r.b5.take k)) hb;rw [h1];simp only [if_pos h2,e9O,cond_false,e9J,e93];cases hs:M8 (r.b5.take k) r.b5[k].i6
   ·cases o7 r.b5[k].j4 0 1000000
    ·rfl
    ·simp only [e9O,cond_false,e98,e93,cond_true];rw [c6f (f:=M8 (r.b5.take k)) (g:=M8 (r.b5.take (k+1))) hb (by rw [c3R hk];simp) (d4v hk),F3 h hk]
   ·cases o7 r.b5[k].j4 0 1000000<;>rfl
 ·intro _;simp only;unfold a8E;rw [A4];rfl
theorem d9m{r:n5}(h:t8 r.b6):p8 (fun s:List Bool×Int=>a9r r s.1 s.2) (e9L 4 false,0)=some (bif (e9U r.b6.length).all (V7 r.b6) then .brk () else .ret false):=by
 refine c6j (S:=List Bool×Int) (a5J (body:=fun s:List Bool×Int=>a9r r s.1 s.2) (fun k=>(a90 (S6 (r.b6.take k)),(k:Int))) r.b6.length (V7 r.b6) (fun _=>false) () ?_ ?_)
 ·intro k hk _;simp only;unfold a9r V7 t5;rw [x8 _ k hk,u0 hk,e9K hk];simp only [cond_true,e9J,M0];cases hb:o7 r.b6[k].i6 0 3
  ·rfl
  ·obtain ⟨h1,h2⟩:=d1M (f:=S6 (r.b6.take k)) hb;rw [h1];simp only [if_pos h2,e9O,cond_false,e9J,e93];cases hs:S6 (r.b6.take k) r.b6[k].i6
   ·cases o7 r.b6[k].f0 (-1000000) 1000000
    ·rfl
    ·simp only [e9O,cond_false,e98,e93,cond_true];rw [c6f (f:=S6 (r.b6.take k)) (g:=S6 (r.b6.take (k+1))) hb (by rw [c5P hk];simp) (d9l hk),F3 h hk]
   ·cases o7 r.b6[k].f0 (-1000000) 1000000<;>rfl
 ·intro _;simp only;unfold a9r;rw [A4];rfl
def S4(r:n5):Bool:=o7 r.Code 0 3&&(o7 r.f0 (-1000000) 1000000&&((r.Code==0||(r.f0==0&&r.b6.length==0))&&((r.Code != 3||r.b5.length==0)&&((e9U r.b5.length).all (U7 r.b5)&&(e9U r.b6.length).all (V7 r.b6)))))
theorem e02{r:n5}(h:a1I r):b4A r=some ((e9U r.b5.length).all (U7 r.b5)&&(e9U r.b6.length).all (V7 r.b6)):=by
 unfold b4A c0p;rw [d8N (h.1.fits (by decide)),e2f (h.2.1.fits (by decide))];cases (e9U r.b5.length).all (U7 r.b5)<;>cases (e9U r.b6.length).all (V7 r.b6)<;>rfl
theorem e00{r:n5}(h:a1I r):b8d r=some ((e9U r.b5.length).all (U7 r.b5)&&(e9U r.b6.length).all (V7 r.b6)):=by
 unfold b8d c0K;rw [e1x (h.1.fits (by decide)),d9m (h.2.1.fits (by decide))];cases (e9U r.b5.length).all (U7 r.b5)<;>cases (e9U r.b6.length).all (V7 r.b6)<;>rfl
theorem c8d{α:Type}(l:List α):decide ((l.length:Int)>0) = !(l.length==0):=by
 cases l<;>simp
theorem c5V{r:n5}(h:a1I r):b2b r=some (S4 r):=by
 unfold b2b S4;rw [e02 h];simp only [a5e,c8d,e9J,l9.go];generalize ((e9U r.b5.length).all (U7 r.b5)&&(e9U r.b6.length).all (V7 r.b6))=z;generalize (r.b6.length==0)=a;generalize (r.b5.length==0)=b;generalize o7 r.f0 (-1000000) 1000000=c;have h3:o7 r.Code 0 3=(!decide (r.Code<0) && !decide (r.Code>3)):=by
  unfold o7;by_cases h1:r.Code<0<;>by_cases h2:r.Code>3<;>simp [h1,h2]<;>omega
 rw [h3];unfold bne;cases decide (r.Code<0)<;>cases decide (r.Code>3)<;>cases c<;>cases (r.Code==0)<;>cases (r.f0==0)<;>cases a<;>cases (r.Code==3)<;>cases b<;>rfl
theorem b8L{r:n5}(h:a1I r):a9I r=some (S4 r):=by
 unfold a9I S4;rw [e00 h];simp only [M0,c8d,e9J,l9.go];generalize ((e9U r.b5.length).all (U7 r.b5)&&(e9U r.b6.length).all (V7 r.b6))=z;generalize (r.b6.length==0)=a;generalize (r.b5.length==0)=b;generalize o7 r.f0 (-1000000) 1000000=c;generalize o7 r.Code 0 3=d;unfold bne;cases d<;>cases c<;>cases (r.Code==0)<;>cases (r.f0==0)<;>cases a<;>cases (r.Code==3)<;>cases b<;>rfl
def a11(a b:List p9)(k:Nat):Bool:=match a[k]?,b[k]? with
 | some x,some y=>([x.i6,x.j4]:List Int)==[y.i6,y.j4]
 | _,_=>true
def a16(a b:List n9)(k:Nat):Bool:=match a[k]?,b[k]? with
 | some x,some y=>([x.i6,x.f0]:List Int)==[y.i6,y.f0]
 | _,_=>true
theorem e0Z{a b:n5}(h:t8 a.b5)(hl:a.b5.length=b.b5.length):p8 (fun s:Int=>b2X a b s) 0=some (bif (e9U a.b5.length).all (a11 a.b5 b.b5) then .brk () else .ret false):=by
 refine a6j a.b5 h (a11 a.b5 b.b5) false () ?_ ?_
 ·intro k hk _;unfold b2X a11;rw [x8 _ k hk,u0 hk,u0 (hl▸hk),e9K hk,e9K (hl▸hk)];simp only [cond_true,e9J];cases ([a.b5[k].i6,a.b5[k].j4]:List Int)==[(b.b5[k]'(hl▸hk)).i6,(b.b5[k]'(hl▸hk)).j4]<;>rfl
 ·unfold b2X;rw [A4];rfl
theorem e8d{a b:n5}(h:t8 a.b6)(hl:a.b6.length=b.b6.length):p8 (fun s:Int=>b11 a b s) 0=some (bif (e9U a.b6.length).all (a16 a.b6 b.b6) then .brk () else .ret false):=by
 refine a6j a.b6 h (a16 a.b6 b.b6) false () ?_ ?_
 ·intro k hk _;unfold b11 a16;rw [x8 _ k hk,u0 hk,u0 (hl▸hk),e9K hk,e9K (hl▸hk)];simp only [cond_true,e9J];cases ([a.b6[k].i6,a.b6[k].f0]:List Int)==[(b.b6[k]'(hl▸hk)).i6,(b.b6[k]'(hl▸hk)).f0]<;>rfl
 ·unfold b11;rw [A4];rfl
theorem e5F{a b:List p9}(h:t8 a):b58 a b=some (a.length==b.length&&(e9U a.length).all (a11 a b)):=by
 unfold b58;by_cases hl:a.length=b.length
 ·rw [a6j a h (a11 a b) false ()]
  ·rw [hl];simp only [bne_self_eq_false,cond_false,beq_self_eq_true,e93];cases (e9U b.length).all (a11 a b)<;>rfl
  ·intro k hk _;unfold b7m a11;rw [x8 _ k hk,u0 hk,u0 (hl▸hk),e9K hk,e9K (hl▸hk)];simp only [cond_true,e9J];cases ([a[k].i6,a[k].j4]:List Int)==[(b[k]'(hl▸hk)).i6,(b[k]'(hl▸hk)).j4]<;>rfl
  ·unfold b7m;rw [A4];rfl
 ·have h1:((a.length:Int) != (b.length:Int))=true:=by simp;omega
  have h2:(a.length==b.length)=false:=by simpa using hl
  rw [h1,h2];rfl
theorem e7L{a b:List n9}(h:t8 a):b5S a b=some (a.length==b.length&&(e9U a.length).all (a16 a b)):=by
 unfold b5S;by_cases hl:a.length=b.length
 ·rw [a6j a h (a16 a b) false ()]
  ·rw [hl];simp only [bne_self_eq_false,cond_false,beq_self_eq_true,e93];cases (e9U b.length).all (a16 a b)<;>rfl
  ·intro k hk _;unfold b5U a16;rw [x8 _ k hk,u0 hk,u0 (hl▸hk),e9K hk,e9K (hl▸hk)];simp only [cond_true,e9J];cases ([a[k].i6,a[k].f0]:List Int)==[(b[k]'(hl▸hk)).i6,(b[k]'(hl▸hk)).f0]<;>rfl
  ·unfold b5U;rw [A4];rfl
 ·have h1:((a.length:Int) != (b.length:Int))=true:=by simp;omega
  have h2:(a.length==b.length)=false:=by simpa using hl
  rw [h1,h2];rfl
def a0p(a b:n5):Bool:=(a.b5.length==b.b5.length&&(e9U a.b5.length).all (a11 a.b5 b.b5))&&((a.b6.length==b.b6.length&&(e9U a.b6.length).all (a16 a.b6 b.b6))&&(a.f0==b.f0&&a.Code==b.Code))
theorem c5U{α β:Type}(a:List α)(b:List β):((a.length:Int) != (b.length:Int)) = !(a.length==b.length):=by
 unfold bne;congr 1
 by_cases h:a.length=b.length
 ·simp [h]
 ·have h1:((a.length:Int)==(b.length:Int))=false:=by simp;omega
  have h2:(a.length==b.length)=false:=by simpa using h
  rw [h1,h2]
theorem c0T{a b:n5}(h:a1I a):a9V a b=some (a0p a b):=by
 unfold a9V a0p;rw [c5U,c5U];cases h1:a.b5.length==b.b5.length
 ·unfold bne;cases a.f0==b.f0<;>cases a.Code==b.Code<;>rfl
 cases h2:a.b6.length==b.b6.length
 ·unfold bne;cases a.f0==b.f0<;>cases a.Code==b.Code<;>simp
 unfold c1p;rw [e0Z (h.1.fits (by decide)) (by simpa using h1),e8d (h.2.1.fits (by decide)) (by simpa using h2)];unfold bne;cases (e9U a.b5.length).all (a11 a.b5 b.b5)<;>cases (e9U a.b6.length).all (a16 a.b6 b.b6)<;>cases a.f0==b.f0<;>cases a.Code==b.Code<;>rfl
theorem b4e{a b:n5}(h:a1I a):b2R a b=some (a0p a b):=by
 unfold b2R a0p;rw [e5F (h.1.fits (by decide)),e7L (h.2.1.fits (by decide))];simp only [e9J];generalize (a.b5.length==b.b5.length&&(e9U a.b5.length).all (a11 a.b5 b.b5))=x;generalize (a.b6.length==b.b6.length&&(e9U a.b6.length).all (a16 a.b6 b.b6))=y;cases x<;>cases y<;>cases a.f0==b.f0<;>rfl
def z3(e:m4):Bool:=bif e.i8 then (([e.a5.d8,e.a5.Seq]:List Int)==[0,0])&&a0p e.b8 (n5.mk [] [] 0 0) else (o7 e.a5.d8 0 2&&o7 e.a5.Seq 1 1000)&&(S4 e.b8&&e.b8.Code != 3)
theorem a3T{e:m4}(h:a0R e):a0L e=some (z3 e):=by
 unfold a0L z3;simp only [c0T h.2,b9k,c5V h.2,e9J];cases e.i8
 ·simp only [cond_false];cases o7 e.a5.d8 0 2&&o7 e.a5.Seq 1 1000<;>cases S4 e.b8<;>rfl
 ·simp only [cond_true];cases ([e.a5.d8,e.a5.Seq]:List Int)==[0,0]<;>rfl
theorem a6e{e:m4}(h:a0R e):a1z e=some (z3 e):=by
 unfold a1z Z9 z3;simp only [b4e h.2,b7f,b8L h.2,e9J];cases e.i8
 ·simp only [cond_false];cases o7 e.a5.d8 0 2&&o7 e.a5.Seq 1 1000<;>cases S4 e.b8<;>rfl
 ·simp only [cond_true,beq_self_eq_true];cases ([e.a5.d8,e.a5.Seq]:List Int)==[0,0]<;>rfl
def G5(l:List m4):Bool:=decide (l.length<=40)&&l.all z3
theorem c08{α:Type}(l:List α)(n:Nat):decide ((l.length:Int)<=(n:Int))=decide (l.length<=n):=by
 by_cases h:l.length<=n
 ·have:(l.length:Int)<=(n:Int):=by omega
  simp [h,this]
 ·have:¬(l.length:Int)<=(n:Int):=by omega
  simp [h,this]
theorem b0q{α:Type}(l:List α)(n:Nat):decide ((l.length:Int)>(n:Int)) = !decide (l.length<=n):=by
 by_cases h:l.length<=n
 ·have:¬(l.length:Int)>(n:Int):=by omega
  simp [h,this]
 ·have:(l.length:Int)>(n:Int):=by omega
  simp [h,this]
theorem e0J{l:List m4}(h:z7 88 a0R l):b3J l=some (G5 l):=by
 unfold b3J G5;rw [show (40:Int)=((40:Nat):Int) from rfl,b0q,P9 l (h.fits (by decide)) z3 false ()]
 ·cases decide (l.length<=40)
  ·rfl
  ·cases l.all z3<;>rfl
 ·intro k hk;unfold b6V;rw [x8 _ k hk,u0 hk];simp only [cond_true,e9J,a3T (h.2 _ (e9M hk))];cases z3 l[k]<;>rfl
 ·unfold b6V;rw [A4];rfl
theorem c6B{l:List m4}(h:z7 88 a0R l):b2F l=some (G5 l):=by
 unfold b2F G5 c20;rw [show (40:Int)=((40:Nat):Int) from rfl,c08,P9 l (h.fits (by decide)) z3 false ()]
 ·cases l.all z3<;>cases decide (l.length<=40)<;>rfl
 ·intro k hk;unfold b62;rw [x8 _ k hk,u0 hk];simp only [cond_true,e9J,a6e (h.2 _ (e9M hk))];cases z3 l[k]<;>rfl
 ·unfold b62;rw [A4];rfl
def a2I(b:q9):Bool:=o7 b.j4 0 1000000&&o7 b.f0 (-1000000) 1000000
def F6(l:List q9):Bool:=l.length==4&&l.all a2I
theorem d1o{α:Type}(l:List α)(n:Nat):((l.length:Int) != (n:Int)) = !(l.length==n):=by
 unfold bne;congr 1
 by_cases h:l.length=n
 ·simp [h]
 ·have h1:((l.length:Int)==(n:Int))=false:=by simp;omega
  have h2:(l.length==n)=false:=by simpa using h
  rw [h1,h2]
theorem e3c{α:Type}(l:List α)(n:Nat):((l.length:Int)==(n:Int))=(l.length==n):=by
 have:=d1o l n;unfold bne at this;simpa using this
theorem c0v{l:List q9}(h:t8 l):b2u l=some (F6 l):=by
 unfold b2u F6;rw [show (4:Int)=((4:Nat):Int) from rfl,d1o,P9 l h a2I false ()]
 ·cases l.length==4
  ·rfl
  ·cases l.all a2I<;>rfl
 ·intro k hk;unfold b6x a2I;rw [x8 _ k hk,u0 hk];simp only [cond_true,e9J,a5e];cases hq:o7 l[k].j4 0 1000000 with
  | false =>
   by_cases h1:l[k].j4<0
   ·simp [h1]
   ·have:l[k].j4>1000000:=by
     unfold o7 at hq;simp at hq;omega
    simp [h1,this]
  | true =>
   unfold o7 at hq;simp at hq;have h1:¬l[k].j4<0:=by omega
   have h2:¬l[k].j4>1000000:=by omega
   simp only [h1,h2,decide_false,cond_false,e93];cases o7 l[k].f0 (-1000000) 1000000<;>rfl
 ·unfold b6x;rw [A4];rfl
theorem b6c{l:List q9}(h:t8 l):a7V l=some (F6 l):=by
 unfold a7V F6 c0z;rw [show (4:Int)=((4:Nat):Int) from rfl,e3c,P9 l h a2I false ()]
 ·cases l.length==4<;>cases l.all a2I<;>rfl
 ·intro k hk;unfold b8e a2I;rw [x8 _ k hk,u0 hk];simp only [cond_true,e9J,M0];cases o7 l[k].j4 0 1000000<;>cases o7 l[k].f0 (-1000000) 1000000<;>rfl
 ·unfold b8e;rw [A4];rfl
theorem d2x{l:List p9}(h:(e9U l.length).all (U7 l)=true):∀x∈l,0<=x.i6/\x.i6<=3/\0<=x.j4/\x.j4<=1000000:=by
 intro x hx;obtain ⟨i,hi,rfl⟩:=f0x hx;have:=List.all_eq_true.1 h i (by simpa using hi);unfold U7 at this;rw [e9K hi] at this;simp [o7] at this;omega
theorem c5j{l:List n9}(h:(e9U l.length).all (V7 l)=true):∀x∈l,0<=x.i6/\x.i6<=3/\-1000000<=x.f0/\x.f0<=1000000:=by
 intro x hx;obtain ⟨i,hi,rfl⟩:=f0x hx;have:=List.all_eq_true.1 h i (by simpa using hi);unfold V7 at this;rw [e9K hi] at this;simp [o7] at this;omega
theorem a6F{r:n5}(h:S4 r=true):(0<=r.Code/\r.Code<=3)/\(-1000000<=r.f0/\r.f0<=1000000)/\(r.Code=0\/(r.f0=0/\r.b6=[]))/\(∀x∈r.b5,0<=x.i6/\x.i6<=3/\0<=x.j4/\x.j4<=1000000)/\∀x∈r.b6,0<=x.i6/\x.i6<=3/\-1000000<=x.f0/\x.f0<=1000000:=by
 unfold S4 at h;simp only [e9N,Bool.or_eq_true] at h;obtain ⟨h1,h2,h3,_,h4,h5⟩:=h;refine ⟨by simpa [o7] using h1,by simpa [o7] using h2,by simpa using h3,d2x h4,c5j h5⟩
def a36(l:List q9)(r:n5):Bool:=r.b5.all fun x=>match l[x.i6.toNat]? with
 | some b=>b.j4==x.j4
 | none=>true
theorem b8o{l:List q9}(h:F6 l=true):l.length=4:=by
 unfold F6 at h;simp only [e9N,beq_iff_eq] at h;exact h.1
theorem a4l{l:List q9}(h:F6 l=true):t8 l:=by
 unfold t8;rw [b8o h];decide
theorem a50{l:List q9}(h:F6 l=true){b:Int}(hb:0<=b/\b<=3):∃x,idx l b=some x/\l[b.toNat]?=some x/\a2I x=true:=by
 have hl:=b8o h;have hlt:b.toNat<l.length:=by omega
 refine ⟨l[b.toNat],?_,e9K hlt,?_⟩
 ·unfold idx;rw [if_pos hb.1,e9K hlt]
 ·unfold F6 at h;simp only [e9N] at h;exact List.all_eq_true.1 h.2 _ (e9M hlt)
theorem d8c{l:List q9}{r:n5}(hl:t8 l)(hr:a1I r):b5I l r=some (F6 l&&(S4 r&&a36 l r)):=by
 unfold b5I;rw [c0v hl,c5V hr];simp only [e9J];cases h1:F6 l
 ·rfl
 cases h2:S4 r
 ·rfl
 have hp:=a6F h2;simp only [e9O,cond_false,e93];rw [P9 r.b5 (hr.1.fits (by decide)) (fun x=>match l[x.i6.toNat]? with|some b=>b.j4==x.j4|none=>true) false ()]
 ·unfold a36;cases r.b5.all _<;>rfl
 ·intro k hk;have hm:=hp.2.2.2.1 _ (e9M hk);obtain ⟨b,hb1,hb2,_⟩:=a50 h1 (b:=r.b5[k].i6) ⟨hm.1,hm.2.1⟩;unfold b3U;rw [x8 _ k hk,u0 hk];simp only [cond_true,e9J,hb1,hb2];unfold bne;cases b.j4==r.b5[k].j4<;>rfl
 ·unfold b3U;rw [A4];rfl
theorem e1s{l:List q9}{r:n5}(hl:t8 l)(hr:a1I r):b5c l r=some (F6 l&&(S4 r&&a36 l r)):=by
 unfold b5c;rw [b6c hl,b8L hr];simp only [e9J];cases h1:F6 l
 ·rfl
 cases h2:S4 r
 ·rfl
 have hp:=a6F h2;simp only [e9O,cond_false,e93];rw [P9 r.b5 (hr.1.fits (by decide)) (fun x=>match l[x.i6.toNat]? with|some b=>b.j4==x.j4|none=>true) false ()]
 ·unfold a36;cases r.b5.all _<;>rfl
 ·intro k hk;have hm:=hp.2.2.2.1 _ (e9M hk);obtain ⟨b,hb1,hb2,_⟩:=a50 h1 (b:=r.b5[k].i6) ⟨hm.1,hm.2.1⟩;unfold b44;rw [x8 _ k hk,u0 hk];simp only [cond_true,e9J,hb1,hb2];unfold bne;cases b.j4==r.b5[k].j4<;>rfl
 ·unfold b44;rw [A4];rfl
def a6x(l:List q9)(p:n9):List q9:=match l[p.i6.toNat]? with
 | some b=>l.set p.i6.toNat ⟨if b.j4+1<1000000 then b.j4+1 else 1000000,p.f0⟩
 | none=>l
def b3W(l:List q9)(ps:List n9):List q9:=ps.foldl a6x l
def a2m(x:n9):Prop:=0<=x.i6/\x.i6<=3/\-1000000<=x.f0/\x.f0<=1000000
theorem c9y{l:List q9}{p:n9}{b:q9}(h:l[p.i6.toNat]?=some b):a6x l p=l.set p.i6.toNat ⟨if b.j4+1<1000000 then b.j4+1 else 1000000,p.f0⟩:=by
 unfold a6x;rw [h]
theorem b5E{b:q9}:a2I b=true↔(0<=b.j4/\b.j4<=1000000)/\(-1000000<=b.f0/\b.f0<=1000000):=by
 unfold a2I o7;simp
theorem e7f{l:List q9}:F6 l=true↔l.length=4/\∀b∈l,a2I b=true:=by
 unfold F6;simp
theorem e1S{l:List q9}{p:n9}(h:F6 l=true)(hp:a2m p):F6 (a6x l p)=true:=by
 obtain ⟨b,_,h2,h3⟩:=a50 h (b:=p.i6) ⟨hp.1,hp.2.1⟩;rw [e7f] at h ⊢;unfold a6x;rw [h2];refine ⟨by simpa using h.1,fun x hx => ?_⟩;rcases List.mem_or_eq_of_mem_set hx with hx|rfl
 ·exact h.2 x hx
 ·rw [b5E] at h3 ⊢;refine ⟨?_,hp.2.2⟩;simp only;split<;>omega
theorem c1V:∀{ps:List n9} {l:List q9},F6 l=true->(∀p∈ps,a2m p)->F6 (b3W l ps)=true
 | [],l,h,_=>h
 | p::ps,l,h,hp=>c1V (ps:=ps) (e1S h (hp p (by simp))) fun x hx=>hp x (by simp [hx])
theorem c6b{l:List q9}{ps:List n9}(h:F6 l=true)(hp:∀p∈ps,a2m p)(k:Nat):F6 ((ps.take k).foldl a6x l)=true :=
 c1V h fun p hq=>hp p (f0l hq)
theorem e85{l:List q9}{r:n5}(hl:F6 l=true)(hr:a1I r)(hp:∀p∈r.b6,a2m p):b5Q l r=some (b3W l r.b6):=by
 unfold b5Q;rw [c4Z r.b6 (hr.2.1.fits (by decide)) a6x l id]
 ·rfl
 ·intro k hk;have hq:=hp _ (e9M hk);obtain ⟨b,h1,h2,h3⟩:=a50 (c6b hl hp k) (b:=r.b6[k].i6) ⟨hq.1,hq.2.1⟩;rw [b5E] at h3;unfold b47;rw [x8 _ k hk,u0 hk];simp only [cond_true,e9J,h1];unfold c0j;rw [c9y h2,B9 (n:=b.j4+1) (by omega) (by omega)];by_cases hv:b.j4+1<1000000
  ·have:¬(1000000:Int)<b.j4+1:=by omega
   simp [hv,this]
  ·by_cases hv2:(1000000:Int)<b.j4+1
   ·simp [hv,hv2]
   ·have:b.j4+1=1000000:=by omega
    simp [hv,hv2,this]
 ·unfold b47;rw [A4];rfl
theorem d2t{l:List q9}(h:l.length*16<=140737488351232):a8B l=some l:=by
 unfold a8B t5;cases l with
 | nil=>rfl
 | cons x l =>
  have h1:(((x::l).length:Int)==0)=false:=by simp;omega
  rw [h1,cond_false,if_pos (by constructor<;>omega),if_pos (by simp)]
theorem c49{l:List r9}(h:l.length*32<=140737488351232):a42 l=some l:=by
 unfold a42 t5;cases l with
 | nil=>rfl
 | cons x l =>
  have h1:(((x::l).length:Int)==0)=false:=by simp;omega
  rw [h1,cond_false,if_pos (by constructor<;>omega),if_pos (by simp)]
theorem e1k{l:List q9}{r:n5}(hl:F6 l=true)(hr:a1I r)(hok:S4 r=true):b70 l r=some (b3W l r.b6):=by
 have hp:∀p∈r.b6,a2m p:=(a6F hok).2.2.2.2
 unfold b70;rw [b6c (a4l hl),b8L hr,hl,hok];simp only [e9J,e9O,cond_false];rw [d2t (by rw [b8o hl];decide),e9J,c4Z r.b6 (hr.2.1.fits (by decide)) a6x l id]
 ·rfl
 ·intro k hk;have hq:=hp _ (e9M hk);obtain ⟨b,h1,h2,h3⟩:=a50 (c6b hl hp k) (b:=r.b6[k].i6) ⟨hq.1,hq.2.1⟩;rw [b5E] at h3;unfold b48;rw [x8 _ k hk,u0 hk];simp only [cond_true,e9J,h1];rw [c9y h2,B9 (n:=b.j4+1) (by omega) (by omega)]
 ·unfold b48;rw [A4];rfl
def a6K(d:r9):Bool:=(o7 d.a5.d8 0 2&&o7 d.a5.Seq 1 1000)&&(o7 d.Code 0 2&&(o7 d.f0 (-1000000) 1000000&&(d.Code==0||d.f0==0)))
def a3o(l:List r9):Prop:=l.Pairwise fun a b=>a.a5.d8<b.a5.d8
def K4(d:r9)(st:List r9×Bool)(x:r9):List r9×Bool :=
 bif !st.2&&decide (x.a5.d8>=d.a5.d8) then (bif x.a5.d8 != d.a5.d8 then (st.1++[d])++[x] else st.1++[d],true) else (bif x.a5.d8 != d.a5.d8 then st.1++[x] else st.1,st.2)
def a0o(l:List r9)(d:r9):List r9 :=
 let r:=l.foldl (K4 d) ([],false);bif !r.2 then r.1++[d] else r.1
theorem e6r(d:r9)(st:List r9×Bool)(x:r9):(K4 d st x).1.length<=st.1.length+2:=by
 unfold K4;cases !st.2&&decide (x.a5.d8>=d.a5.d8)<;>cases x.a5.d8 != d.a5.d8<;>simp
theorem b8M(d:r9):∀(l:List r9) (st:List r9×Bool),(l.foldl (K4 d) st).1.length<=st.1.length+2*l.length
 | [],st=>by simp
 | x::l,st=>by
  have h1:=b8M d l (K4 d st x);have h2:=e6r d st x;simp only [f1f,f0w];omega
theorem c09(d:r9):∀{l:List r9} {o:List r9},(∀x∈l,d.a5.d8<x.a5.d8)->l.foldl (K4 d) (o,true)=(o++l,true)
 | [],o,_=>by simp
 | x::l,o,h=>by
  have hx:=h x (by simp);have hne:(x.a5.d8 != d.a5.d8)=true:=by simp;omega
  rw [f1f,show K4 d (o,true) x=(o++[x],true) from by unfold K4;simp [hne],c09 d fun y hy=>h y (by simp [hy])];simp
theorem d3a(d:r9):∀{l o:List r9},a3o l->
  (let r:=l.foldl (K4 d) (o,false);bif !r.2 then r.1++[d] else r.1)=o++(l.filter (fun x=>decide (x.a5.d8<d.a5.d8))++d::l.filter (fun x=>decide (d.a5.d8<x.a5.d8)))
 | [],o,_=>by simp
 | x::l,o,h=>by
  obtain ⟨h1,h2⟩:=f0T.1 h;rw [f1f];by_cases hlt:x.a5.d8<d.a5.d8
  ·have hge:¬x.a5.d8>=d.a5.d8:=by omega
   have hne:(x.a5.d8 != d.a5.d8)=true:=by simp;omega
   have hngt:¬d.a5.d8<x.a5.d8:=by omega
   rw [show K4 d (o,false) x=(o++[x],false) from by unfold K4;simp [hge,hne],d3a d h2];simp [hlt,hngt]
  ·have hge:x.a5.d8>=d.a5.d8:=by omega
   have hall:∀y∈l,d.a5.d8<y.a5.d8:=fun y hy=>by have:=h1 y hy;omega
   have hf1:l.filter (fun x=>decide (x.a5.d8<d.a5.d8))=[]:=by
    rw [List.filter_eq_nil_iff];intro y hy;have:=hall y hy;simp;omega
   have hf2:l.filter (fun x=>decide (d.a5.d8<x.a5.d8))=l:=by
    rw [List.filter_eq_self];intro y hy;simpa using hall y hy
   by_cases heq:x.a5.d8=d.a5.d8
   ·have hngt:¬d.a5.d8<x.a5.d8:=by omega
    rw [show K4 d (o,false) x=(o++[d],true) from by unfold K4;simp [hge,heq],c09 d hall];simp [hlt,hngt,hf1,hf2]
   ·have hgt:d.a5.d8<x.a5.d8:=by omega
    have hne:(x.a5.d8 != d.a5.d8)=true:=by simpa using heq
    rw [show K4 d (o,false) x=((o++[d])++[x],true) from by unfold K4;simp [hge,hne],c09 d hall];simp [hlt,hgt,hf1,hf2]
theorem c0Q{l:List r9}(d:r9)(h:a3o l):a0o l d=l.filter (fun x=>decide (x.a5.d8<d.a5.d8))++d::l.filter (fun x=>decide (d.a5.d8<x.a5.d8)):=by
 have:=d3a d (o:=[]) h;simpa [a0o] using this
theorem e7t{l:List r9}(d:r9)(h:a3o l):a3o (a0o l d):=by
 rw [c0Q d h];unfold a3o;rw [f06,f0T];refine ⟨h.filter _,⟨fun y hy=>by simpa using (List.mem_filter.1 hy).2,h.filter _⟩,fun a ha b hb => ?_⟩;have h1:a.a5.d8<d.a5.d8:=by simpa using (List.mem_filter.1 ha).2
 rcases e9R.1 hb with rfl|hb
 ·exact h1
 ·have h2:d.a5.d8<b.a5.d8:=by simpa using (List.mem_filter.1 hb).2
  omega
theorem d9G{l:List r9}{d x:r9}(h:a3o l)(hx:x∈a0o l d):x∈l\/x=d:=by
 rw [c0Q d h] at hx;rcases List.mem_append.1 hx with hx|hx
 ·exact .inl (List.mem_filter.1 hx).1
 ·rcases e9R.1 hx with rfl|hx
  ·exact .inr rfl
  ·exact .inl (List.mem_filter.1 hx).1
theorem d0I{l:List r9}(d:r9)(h:a3o l):(a0o l d).length<=l.length+1:=by
 rw [c0Q d h];have:(l.filter fun x=>decide (x.a5.d8<d.a5.d8)).length+(l.filter fun x=>decide (d.a5.d8<x.a5.d8)).length<=l.length:=by
  clear h;induction l with
  | nil=>simp
  | cons x l ih =>
   by_cases h1:x.a5.d8<d.a5.d8
   ·have h2:¬d.a5.d8<x.a5.d8:=by omega
    simp [h1,h2];omega
   ·by_cases h2:d.a5.d8<x.a5.d8
    ·simp [h1,h2];omega
    ·simp [h1,h2];omega
 simp only [e9T,f0w];omega
structure Inv(s:v6)(k:Nat):Prop where
 at_:s.At=(k:Int)
 le:k<=40
 boxes:F6 s.i4=true
 sorted:a3o s.i9
 dones:∀d∈s.i9,a6K d=true
 len:s.i9.length<=k
theorem Inv.fits{s:v6}{k:Nat}(h:Inv s k):t8 s.i9:=by
 have:=h.len;have:=h.le;unfold t8;omega
theorem d2Z{α:Type}{o:List α}{d:α}(h:o.length<=80):((o++[d]).length+1)*32<=140737488355328:=by
 rw [show (o++[d]).length=o.length+1 from by simp];omega
theorem e9n{l:List r9}{d:r9}(hl:l.length<=40):b5h l d=some (a0o l d):=by
 have hf:t8 l:=by unfold t8;omega
 have hlen:∀k,k<=l.length->((l.take k).foldl (K4 d) ([],false)).1.length<=80:=by
  intro k hk;have:=b8M d (l.take k) ([],false);simp only [f01,e96] at this;omega
 unfold b5h;have hloop:=W6 (body:=fun s:(List r9)×Bool×Int=>b1A l d s.1 s.2.1 s.2.2) (fun k=>(((l.take k).foldl (K4 d) ([],false)).1,((l.take k).foldl (K4 d) ([],false)).2,(k:Int))) l.length (by
  intro k hk;have hb:=hlen k (by omega);rw [f0j hk,List.foldl_append];generalize (l.take k).foldl (K4 d) ([],false)=st at hb;obtain ⟨o,i⟩:=st;simp only at hb;simp only [f1f,f1w];unfold b1A c2S c1H K4;rw [x8 _ k hk,u0 hk,F3 hf hk];have n1:(o.length+1)*32<=140737488355328:=by omega
  have n2:((o++[d]).length+1)*32<=140737488355328:=d2Z (by omega);cases i<;>cases h1:decide (l[k].a5.d8>=d.a5.d8)<;>cases h2:l[k].a5.d8 != d.a5.d8<;>simp only [h1,h2,t9 n1,t9 n2,cond_true,cond_false,e9J,l9.go,e9O,e98,e93,Bool.false_and])
 simp only [f0p,f1w,f0f] at hloop;rw [show ((0:Nat):Int)=0 from rfl] at hloop;rw [hloop,C6 (b:=l.foldl (K4 d) ([],false))]
 ·have hb:=hlen l.length (f0d _);rw [f0f] at hb;unfold c1S c1P a0o;generalize l.foldl (K4 d) ([],false)=st at hb;obtain ⟨o,i⟩:=st;have n1:(o.length+1)*32<=140737488355328:=by simp only at hb;omega
  cases i<;>simp only [t9 n1,cond_true,cond_false,e9J,l9.go,e9O,e98]
 ·unfold b1A;rw [A4];rfl
def a1s(s:v6)(e:m4):v6×Int :=
 bif a36 s.i4 e.b8 then
  (bif e.b8.Code==0 then (⟨s.At+1,b3W s.i4 e.b8.b6,a0o s.i9 ⟨e.a5,0,e.b8.f0⟩⟩,0)
  else (⟨s.At+1,s.i4,a0o s.i9 ⟨e.a5,2,0⟩⟩,2))
 else (⟨s.At+1,s.i4,a0o s.i9 ⟨e.a5,1,0⟩⟩,1)
def apply(s:v6)(e:m4):v6×Int :=
 bif e.i8 then (⟨s.At+1,s.i4,s.i9⟩,5) else
 match s.i9.find? (fun d=>d.a5.d8==e.a5.d8) with
 | some d=>bif d.a5.Seq==e.a5.Seq then (⟨s.At+1,s.i4,s.i9⟩,3) else bif decide (d.a5.Seq>e.a5.Seq) then (⟨s.At+1,s.i4,s.i9⟩,4) else a1s s e
 | none=>a1s s e
theorem a8L{e:m4}(h:z3 e=true)(hn:e.i8=false):(0<=e.a5.d8/\e.a5.d8<=2)/\(1<=e.a5.Seq/\e.a5.Seq<=1000)/\S4 e.b8=true/\e.b8.Code≠3:=by
 unfold z3 at h;rw [hn] at h;simp [o7] at h;exact ⟨h.1.1,h.1.2,h.2.1,h.2.2⟩
theorem e5D{s:v6}(h:t8 s.i9)(who:Int):b7N s who=some (match s.i9.find? (fun d=>d.a5.d8==who) with|some d=>(d,true)|none=>(⟨⟨0,0⟩,0,0⟩,false)):=by
 unfold b7N;rw [b64 s.i9 h (fun d=>d.a5.d8==who) (fun d=>(d,true)) ()]
 ·cases s.i9.find? fun d=>d.a5.d8==who<;>rfl
 ·intro k hk;unfold b52;rw [x8 _ k hk,u0 hk];simp only [cond_true,e9J];cases s.i9[k].a5.d8==who<;>rfl
 ·unfold b52;rw [A4];rfl
theorem c97{s:v6}{k:Nat}{e:m4}(hs:Inv s k)(hk:k<40)(he:z3 e=true)(hf:a0R e):b3t s e=some (apply s e):=by
 have hw:m8 (s.At+1)=s.At+1:=by rw [hs.at_];exact B9 (by omega) (by omega)
 unfold b3t apply;rw [hw,e5D (s:=⟨s.At+1,s.i4,s.i9⟩) hs.fits];cases hn:e.i8;case true=>rfl
 obtain ⟨_,_,hr,hc3⟩:=a8L he hn;have hp:∀p∈e.b8.b6,a2m p:=(a6F hr).2.2.2.2
 have hfr:b4c s e=some (a1s s e):=by
  unfold b4c c0w c3A a1s;simp only [d8c (a4l hs.boxes) hf.2,hs.boxes,hr,e93,e9J,hw,e9n (Nat.le_trans hs.len (by omega)),e85 hs.boxes hf.2 hp];cases a36 s.i4 e.b8
  ·rfl
  ·cases e.b8.Code==0<;>rfl
 simp only [cond_false,e9J,hfr];cases hfd:s.i9.find? fun d=>d.a5.d8==e.a5.d8 with
 | none=>rfl
 | some d =>
  have hwho:d.a5.d8=e.a5.d8:=by simpa using List.find?_some hfd
  have hq:(([d.a5.d8,d.a5.Seq]:List Int)==[e.a5.d8,e.a5.Seq])=(d.a5.Seq==e.a5.Seq):=by
   rw [hwho];simp
  simp only [hq,cond_true];cases d.a5.Seq==e.a5.Seq
  ·cases decide (d.a5.Seq>e.a5.Seq)<;>rfl
  ·rfl
theorem e42{l:List r9}(h:a3o l)(who seq:Int):l.find? (fun d=>d.a5.d8==who&&decide (d.a5.Seq>=seq))=match l.find? (fun d=>d.a5.d8==who) with
  | some d=>bif decide (d.a5.Seq>=seq) then some d else none
  | none=>none:=by
 induction l with
 | nil=>rfl
 | cons x l ih =>
  obtain ⟨h1,h2⟩:=f0T.1 h;rw [List.find?_cons,List.find?_cons];cases hx:x.a5.d8==who with
  | false=>simpa using ih h2
  | true =>
   cases hs:decide (x.a5.Seq>=seq) with
   | true=>simp [hs]
   | false =>
    simp only [Bool.and_false,hs,cond_false];rw [List.find?_eq_none];intro y hy;have:=h1 y hy;have hx':x.a5.d8=who:=by simpa using hx
    simp;intro hyw;omega
theorem d92{s:v6}{k:Nat}(hs:Inv s k):b31 s=some true:=by
 unfold b31;have hloop:=W6 (body:=fun v:Int=>b1m s v) (fun j=>(j:Int)) s.i9.length (by
  intro j hj;have hd:=hs.dones _ (e9M hj);unfold a6K at hd;simp only [e9N,Bool.or_eq_true] at hd;obtain ⟨⟨d1,d2⟩,d3,d4,d5⟩:=hd;unfold b1m c3s;rw [x8 _ j hj,u0 hj,F3 hs.fits hj];simp only [cond_true,e9J,b7f,M0,d1,d2,d3,d4,f0M,e9O,cond_false];cases j with
  | zero =>
   rw [show decide (((0:Nat):Int)>0)=false from by decide];simp only [cond_false];unfold bne;rcases d5 with d5|d5<;>simp [d5,l9.go,Option.bind]
  | succ j =>
   have hlt:(s.i9[j]'(by omega)).a5.d8<s.i9[j+1].a5.d8:=f0o.1 hs.sorted j (j+1) (by omega) hj (by omega);have hge:¬(s.i9[j]'(by omega)).a5.d8>=s.i9[j+1].a5.d8:=by omega
   have hle:=hs.fits;unfold t8 at hle;rw [show m8 (((j+1:Nat):Int)-1)=(j:Int) from by rw [B9 (by omega) (by omega)];omega,u0 (show j<s.i9.length by omega)];have hpos:decide (((j+1:Nat):Int)>0)=true:=by simp
   simp only [hpos,cond_true,e9J,hge,decide_false,cond_false];unfold bne;rcases d5 with d5|d5<;>simp [d5,l9.go,Option.bind])
 rw [show ((0:Nat):Int)=0 from rfl] at hloop;rw [hloop,C6 (b:=())]
 ·unfold c3w;have:=hs.le;have ha:o7 s.At 0 40=true:=by rw [hs.at_];simp [o7];omega
  simp [l9.go,M0,ha,b6c (a4l hs.boxes),hs.boxes]
 ·unfold b1m;rw [A4];rfl
theorem b8P{s:v6}{own:r9}{bx:List q9}(hl:s.i9.length<=40)(hw:m8 (s.At+1)=s.At+1)(hd:a3o s.i9):b8x s own bx=some (⟨s.At+1,bx,a0o s.i9 own⟩,own.Code):=by
 have hf:t8 s.i9:=by unfold t8;omega
 have hlen:∀k,k<=s.i9.length->((s.i9.take k).foldl (K4 own) ([],false)).1.length<=80:=by
  intro k hk;have:=b8M own (s.i9.take k) ([],false);simp only [f01,e96] at this;omega
 unfold b8x;have hloop:=W6 (body:=fun x:(List r9)×Int×Bool=>b0I s own x.1 x.2.1 x.2.2) (fun k=>(((s.i9.take k).foldl (K4 own) ([],false)).1,(k:Int),((s.i9.take k).foldl (K4 own) ([],false)).2)) s.i9.length (by
  intro k hk;have hb:=hlen k (by omega);rw [f0j hk,List.foldl_append];generalize (s.i9.take k).foldl (K4 own) ([],false)=st at hb;obtain ⟨o,i⟩:=st;simp only at hb;simp only [f1f,f1w];unfold b0I c1y c2c K4;rw [x8 _ k hk,u0 hk,F3 hf hk];have n1:(o.length+1)*32<=140737488355328:=by omega
  have n2:((o++[own]).length+1)*32<=140737488355328:=d2Z (by omega);cases i<;>cases h1:decide (s.i9[k].a5.d8>=own.a5.d8)<;>cases h2:s.i9[k].a5.d8 != own.a5.d8<;>simp only [h1,h2,t9 n1,t9 n2,cond_true,cond_false,e9J,l9.go,e9O,e98,e93,Bool.false_and])
 simp only [f0p,f1w,f0f] at hloop;rw [show ((0:Nat):Int)=0 from rfl] at hloop;rw [hloop,C6 (b:=s.i9.foldl (K4 own) ([],false))]
 ·have hb:=hlen s.i9.length (f0d _);rw [f0f] at hb;have hpl:=d0I own hd;have hcp:a42 (a0o s.i9 own)=some (a0o s.i9 own):=c49 (by omega);unfold c2w b8Y;unfold a0o at hcp ⊢;generalize s.i9.foldl (K4 own) ([],false)=st at hb hcp;obtain ⟨o,i⟩:=st;have n1:(o.length+1)*32<=140737488355328:=by simp only at hb;omega
  cases i<;>simp only [t9 n1,cond_true,cond_false,e9J,l9.go,e9O,e98,hw] at hcp ⊢ <;>rw [hcp]<;>rfl
 ·unfold b0I;rw [A4];rfl
theorem b9T{s:v6}{k:Nat}{e:m4}(hs:Inv s k)(hk:k<40)(he:z3 e=true)(hf:a0R e):b7H s e=some (apply s e):=by
 have hw:m8 (s.At+1)=s.At+1:=by rw [hs.at_];exact B9 (by omega) (by omega)
 have hl:=hs.len;have hcd:a42 s.i9=some s.i9:=c49 (by omega);have hcb:a8B s.i4=some s.i4:=d2t (by rw [b8o hs.boxes];decide);have hat:(s.At==40)=false:=by rw [hs.at_];simp;omega
 unfold b7H apply;rw [d92 hs,a6e hf,he];simp only [e9J,e9O,cond_false,hat,hcb,hcd,hw];cases hn:e.i8;case true=>rfl
 obtain ⟨_,_,hr,hc3⟩:=a8L he hn;have hfr:b5Z s e s.i4=some (a1s s e):=by
  unfold b5Z a1s;simp only [e1s (a4l hs.boxes) hf.2,hs.boxes,hr,e93,e9J,e1k hs.boxes hf.2 hr];cases a36 s.i4 e.b8
  ·simp only [e98,cond_true,cond_false,e9J,l9.go];exact b8P (by omega) hw hs.sorted
  ·unfold bne;cases e.b8.Code==0
   ·simp only [e98,e9O,cond_true,cond_false,e9J,l9.go];exact b8P (by omega) hw hs.sorted
   ·simp only [e9O,cond_true,cond_false,e9J,l9.go];exact b8P (by omega) hw hs.sorted
 simp only [cond_false];rw [b64 s.i9 hs.fits (fun d=>d.a5.d8==e.a5.d8&&decide (d.a5.Seq>=e.a5.Seq)) (fun d=>(⟨s.At+1,s.i4,s.i9⟩,bif d.a5.Seq==e.a5.Seq then 3 else 4)) ()]
 ·rw [e42 hs.sorted];cases s.i9.find? fun d=>d.a5.d8==e.a5.d8 with
  | none=>simp only [e9J,l9.go,hfr]
  | some d =>
   cases hq:d.a5.Seq==e.a5.Seq with
   | true =>
    have:d.a5.Seq>=e.a5.Seq:=by
     have:d.a5.Seq=e.a5.Seq:=by simpa using hq
     omega
    simp [this,l9.go,hq]
   | false =>
    have hne:d.a5.Seq≠e.a5.Seq:=by simpa using hq
    by_cases hg:d.a5.Seq>e.a5.Seq
    ·have:d.a5.Seq>=e.a5.Seq:=by omega
     simp [this,l9.go,hg,hq]
    ·have:¬d.a5.Seq>=e.a5.Seq:=by omega
     simp [this,l9.go,hg,hfr,hq]
 ·intro j hj;unfold b5i c2n;rw [x8 _ j hj,u0 hj];simp only [cond_true,e9J,hcd,hw];cases h1:s.i9[j].a5.d8==e.a5.d8<;>cases h2:decide (s.i9[j].a5.Seq>=e.a5.Seq)<;>cases h3:s.i9[j].a5.Seq==e.a5.Seq<;>simp only [cond_true,cond_false,e9J,l9.go,e93,Bool.false_and,f0M,Bool.and_false]
 ·unfold b5i;rw [A4];rfl
theorem e1h{s:v6}{k:Nat}{e:m4}(hs:Inv s k)(hk:k<40)(he:z3 e=true)(hn:e.i8=false):Inv (a1s s e).1 (k+1)/\0<=(a1s s e).2/\(a1s s e).2<=5:=by
  obtain ⟨h1,h2,hr,hc3⟩:=a8L he hn;have hp:=a6F hr;have hat:s.At+1=((k+1:Nat):Int):=by rw [hs.at_];rfl
  have key:∀(bx:List q9) (d:r9),F6 bx=true->a6K d=true->Inv ⟨s.At+1,bx,a0o s.i9 d⟩ (k+1):=fun bx d hb hd =>
    { at_:=hat,le:=by omega,boxes:=hb,sorted:=e7t d hs.sorted
      dones:=fun x hx=>by
        rcases d9G hs.sorted hx with hx|rfl
        · exact hs.dones x hx
        · exact hd
      len:=by
        have:=d0I d hs.sorted;have:=hs.len;simp only;omega}
  have hd0:∀c:Int,0<=c->c<=2->a6K ⟨e.a5,c,0⟩=true:=by
    intro c c1 c2;unfold a6K o7;simp;omega
  have hd1:a6K ⟨e.a5,0,e.b8.f0⟩=true:=by
    unfold a6K o7;simp;omega
  unfold a1s;cases a36 s.i4 e.b8
  · exact ⟨key _ _ hs.boxes (hd0 1 (by decide) (by decide)),show (0:Int)<=1 from by decide,show (1:Int)<=5 from by decide⟩
  · cases e.b8.Code==0
    · exact ⟨key _ _ hs.boxes (hd0 2 (by decide) (by decide)),show (0:Int)<=2 from by decide,show (2:Int)<=5 from by decide⟩
    · exact ⟨key _ _ (c1V hs.boxes hp.2.2.2.2) hd1,show (0:Int)<=0 from by decide,show (0:Int)<=5 from by decide⟩
theorem e79{s:v6}{k:Nat}{e:m4}(hs:Inv s k)(hk:k<40)(he:z3 e=true):Inv (apply s e).1 (k+1)/\0<=(apply s e).2/\(apply s e).2<=5:=by
 have hat:s.At+1=((k+1:Nat):Int):=by rw [hs.at_];rfl
 have key:Inv ⟨s.At+1,s.i4,s.i9⟩ (k+1):={at_:=hat,le:=by omega,boxes:=hs.boxes,sorted:=hs.sorted,dones:=hs.dones,len:=f03 hs.len}
 unfold apply;cases hn:e.i8
 ·have hfr:=e1h hs hk he hn;simp only [cond_false];cases s.i9.find? fun d=>d.a5.d8==e.a5.d8 with
  | none=>exact hfr
  | some d =>
   simp only;cases d.a5.Seq==e.a5.Seq
   ·cases decide (d.a5.Seq>e.a5.Seq)
    ·exact hfr
    ·exact ⟨key,show (0:Int)<=4 from by decide,show (4:Int)<=5 from by decide⟩
   ·exact ⟨key,show (0:Int)<=3 from by decide,show (3:Int)<=5 from by decide⟩
 ·exact ⟨key,show (0:Int)<=5 from by decide,show (5:Int)<=5 from by decide⟩
def U3:v6:=⟨0,e9L 4 ⟨0,0⟩,[]⟩
theorem e1L:Inv U3 0:={at_:=rfl,le:=by omega,boxes:=by decide,sorted:=.nil,dones:=by simp [U3],len:=by simp [U3]}
theorem d2X:b1x=some U3:=by
 unfold b1x c1e;rw [t9 (by decide)];rfl
theorem d4k:b8f=some U3:=by
 unfold b8f c1v;rw [t9 (by decide)];rfl
def b3a(st:v6×List Int)(e:m4):v6×List Int:=((apply st.1 e).1,st.2++[(apply st.1 e).2])
def z4(l:List m4):v6×List Int:=l.foldl b3a (U3,[])
theorem a6T{l:List m4}{k:Nat}(hk:k<l.length):z4 (l.take (k+1))=b3a (z4 (l.take k)) l[k]:=by
 unfold z4;rw [f0j hk,List.foldl_append];rfl
theorem a3w{l:List m4}(hl:l.length<=40)(he:l.all z3=true):∀k,k<=l.length->Inv (z4 (l.take k)).1 k/\(z4 (l.take k)).2.length=k/\∀c∈(z4 (l.take k)).2,0<=c/\c<=5
 | 0,_=>by
  rw [f0p];exact ⟨e1L,rfl,by simp [z4]⟩
 | k+1,hk=>by
  obtain ⟨h1,h2,h3⟩:=a3w hl he k (by omega);have ha:=e79 h1 (by omega) (List.all_eq_true.1 he _ (e9M (show k<l.length by omega)));rw [a6T (show k<l.length by omega)];refine ⟨ha.1,by simp [b3a,h2],fun c hc => ?_⟩;unfold b3a at hc;rcases List.mem_append.1 hc with hc|hc
  ·exact h3 c hc
  ·rw [e9Q] at hc;rw [hc];exact ha.2
theorem a34{l:List m4}(h:G5 l=true):l.length<=40/\l.all z3=true:=by
 unfold G5 at h;simpa using h
theorem c9C{l:List m4}(h:z7 88 a0R l)(hl:l.length<=40)(he:l.all z3=true):b3x l=some (z4 l):=by
  have hf:t8 l:=h.fits (by decide);unfold b3x;rw [d4k,e9J];first
  | (have hloop:=W6 (body:=fun s:(List q9)×(List r9)×(List Int)×Int×Int=>a0T l s.1 s.2.1 s.2.2.1 s.2.2.2.1 s.2.2.2.2) (fun k=>((z4 (l.take k)).1.i4,(z4 (l.take k)).1.i9,(z4 (l.take k)).2,(k:Int),(z4 (l.take k)).1.At)) l.length (by
       intro k hk;obtain ⟨h1,h2,h3⟩:=a3w hl he k (by omega);have n1:((z4 (l.take k)).2.length+1)*8<=140737488355328:=by rw [h2];omega
       rw [a6T hk];unfold a0T;rw [x8 _ k hk,u0 hk,F3 hf hk];simp only [cond_true,e9J];rw [b9T h1 (by omega) (List.all_eq_true.1 he _ (e9M hk)) (h.2 _ (e9M hk)),e9J,t9 n1];rfl)
     rw [f0p,f0f] at hloop;rw [show ((0:Nat):Int)=0 from rfl] at hloop;rw [show p8 (fun s:(List q9)×(List r9)×(List Int)×Int×Int=>a0T l s.1 s.2.1 s.2.2.1 s.2.2.2.1 s.2.2.2.2) (U3.i4,U3.i9,([]:List Int),0,U3.At)=_ from hloop,C6 (b:=((z4 l).1.i4,(z4 l).1.i9,(z4 l).2,(z4 l).1.At))]
     · rfl
     · unfold a0T;rw [A4];rfl
     done)
  | (have hloop:=W6 (body:=fun s:v6×(List Int)×Int=>a0T l s.1 s.2.1 s.2.2) (fun k=>((z4 (l.take k)).1,(z4 (l.take k)).2,(k:Int))) l.length (by
       intro k hk;obtain ⟨h1,h2,h3⟩:=a3w hl he k (by omega);have n1:((z4 (l.take k)).2.length+1)*8<=140737488355328:=by rw [h2];omega
       rw [a6T hk];unfold a0T;rw [x8 _ k hk,u0 hk,F3 hf hk];simp only [cond_true,e9J];rw [b9T h1 (by omega) (List.all_eq_true.1 he _ (e9M hk)) (h.2 _ (e9M hk)),e9J,t9 n1];rfl)
     rw [f0p,f0f] at hloop;rw [show ((0:Nat):Int)=0 from rfl] at hloop;rw [show p8 (fun s:v6×(List Int)×Int=>a0T l s.1 s.2.1 s.2.2) (U3,[],0)=_ from hloop,C6 (b:=z4 l)]
     · rfl
     · unfold a0T;rw [A4];rfl
     done)
  | (have hloop:=W6 (body:=fun s:(List q9)×(List Int)×Int×Int×List r9=>a0T l s.1 s.2.1 s.2.2.1 s.2.2.2.1 s.2.2.2.2) (fun k=>((z4 (l.take k)).1.i4,(z4 (l.take k)).2,(k:Int),(z4 (l.take k)).1.At,(z4 (l.take k)).1.i9)) l.length (by
       intro k hk;obtain ⟨h1,h2,h3⟩:=a3w hl he k (by omega);have n1:((z4 (l.take k)).2.length+1)*8<=140737488355328:=by rw [h2];omega
       rw [a6T hk];unfold a0T;rw [x8 _ k hk,u0 hk,F3 hf hk];simp only [cond_true,e9J];rw [show (⟨(z4 (l.take k)).1.At,(z4 (l.take k)).1.i4,(z4 (l.take k)).1.i9⟩:v6)=(z4 (l.take k)).1 from rfl,b9T h1 (by omega) (List.all_eq_true.1 he _ (e9M hk)) (h.2 _ (e9M hk)),e9J,t9 n1];rfl)
     rw [f0p,f0f] at hloop;rw [show ((0:Nat):Int)=0 from rfl] at hloop;rw [show p8 (fun s:(List q9)×(List Int)×Int×Int×List r9=>a0T l s.1 s.2.1 s.2.2.1 s.2.2.2.1 s.2.2.2.2) (U3.i4,[],0,U3.At,U3.i9)=_ from hloop,C6 (b:=((z4 l).1.i4,(z4 l).2,(z4 l).1.At,(z4 l).1.i9))]
     · rfl
     · unfold a0T;rw [A4];rfl
     done)
def Rd(r:s9)(m:Nat):Prop:=(∀x∈r.b,a5R x)/\r.b.length<=2000/\0<=r.p/\r.p<=(m:Int)
theorem Rd.mono{r:s9}{m n:Nat}(h:Rd r m)(hn:m<=n):Rd r n:=⟨h.1,h.2.1,h.2.2.1,by have:=h.2.2.2;omega⟩
theorem d9g{x y:Int}(hx:0<=x)(hx2:x<4611686018427387904)(hy:0<=y)(hy2:y<4611686018427387904):0<=a5z .i64 x y/\a5z .i64 x y<4611686018427387904:=by
 obtain ⟨a,rfl⟩:∃a:Nat,x=(a:Int):=⟨x.toNat,by omega⟩
 obtain ⟨b,rfl⟩:∃b:Nat,y=(b:Int):=⟨y.toNat,by omega⟩
 have hxor:a ^^^ b<2 ^ 62:=Nat.xor_lt_two_pow (by omega) (by omega);have h:a5z .i64 (a:Int) (b:Int)=((a ^^^ b:Nat):Int):=by
  unfold a5z;rw [BitVec.toNat_xor];have e1:(BitVec.ofInt IntKind.i64.bits (a:Int)).toNat=a:=by
   show (BitVec.ofInt 64 (a:Int)).toNat=a
   rw [BitVec.toNat_ofInt];omega
  have e2:(BitVec.ofInt IntKind.i64.bits (b:Int)).toNat=b:=by
   show (BitVec.ofInt 64 (b:Int)).toNat=b
   rw [BitVec.toNat_ofInt];omega
  rw [e1,e2];exact IntWalk.i64_in _ ⟨by omega,by omega⟩
 rw [h];omega
theorem c2z{l:List Int}(h:∀x∈l,a5R x){i:Int}(h0:0<=i)(h1:i<l.length):∃y,idx l i=some y/\0<=y/\y<=255:=by
 have hlt:i.toNat<l.length:=by omega
 refine ⟨l[i.toNat],?_,h _ (e9M hlt)⟩;unfold idx;rw [if_pos h0,e9K hlt]
theorem b6K{x n:Int}(hx:0<=x)(hn:1<=n):0<=e99 x n/\e99 x n<n:=by
 rw [Int.tmod_eq_emod_of_nonneg hx];exact ⟨Int.emod_nonneg _ (by omega),Int.emod_lt_of_pos _ (by omega)⟩
theorem c78{x n:Int}(hx:0<=x)(hn:1<=n):0<=f1r x n/\f1r x n<=x:=by
 rw [Int.tdiv_eq_ediv_of_nonneg hx];exact ⟨Int.ediv_nonneg hx (by omega),Int.ediv_le_self _ hx⟩
theorem H3{r:s9}{m:Nat}(h:Rd r m)(hm:m<=1000000000)(n:Int):∃v r',E2 r n=some (v,r')/\Rd r' (m+1)/\0<=v/\(v<n\/v=0):=by
 obtain ⟨hb,hbl,hp0,hp1⟩:=h;have hw:m8 (r.p+1)=r.p+1:=B9 (by omega) (by omega);have hw2:m8 (r.p+1-1)=r.p:=by rw [B9 (by omega) (by omega)];omega
 have hr:Rd ⟨r.b,r.p+1⟩ (m+1):=⟨hb,hbl,by simp only;omega,by simp only;omega⟩
 unfold E2;simp only [hw,hw2];by_cases hn:n<1
 ·simp only [hn,decide_true,cond_true];exact ⟨0,_,rfl,hr,by omega,.inr rfl⟩
 simp only [hn,decide_false,cond_false];cases he:((r.b.length:Int)==0);case true=>exact ⟨0,_,rfl,hr,by omega,.inr rfl⟩
 have hpos:0<r.b.length:=by
  have:¬(r.b.length:Int)=0:=by simpa using he
  omega
 have hne:(r.b.length:Int)≠0:=by omega
 have hnn:n≠0:=by omega
 simp only [cond_false];by_cases hlt:r.p<(r.b.length:Int)
 ·obtain ⟨y,h1,h2,h3⟩:=c2z hb hp0 hlt;simp only [hlt,decide_true,cond_true,h1,e9J,t9 hnn];rw [B9 (n:=y) (by omega) (by omega)];have:=b6K h2 (show 1<=n by omega);exact ⟨_,_,rfl,hr,this.1,.inl this.2⟩
 ·simp only [hlt,decide_false,cond_false,t9 hne,t9 hnn];have t1:=b6K hp0 (show (1:Int)<=(r.b.length:Int) by omega);obtain ⟨y1,a1,a2,a3⟩:=c2z hb t1.1 t1.2;have w7:m8 (r.p*7)=r.p*7:=B9 (by omega) (by omega);have w73:m8 (r.p*7+3)=r.p*7+3:=B9 (by omega) (by omega);have t2:=b6K (show 0<=r.p*7+3 by omega) (show (1:Int)<=(r.b.length:Int) by omega);obtain ⟨y2,b1,b2,b3⟩:=c2z hb t2.1 t2.2;simp only [a1,w7,w73,b1,e9J];have td:=c78 hp0 (show (1:Int)<=(r.b.length:Int) by omega);have c1:m8 (m8 y1*131)=y1*131:=by rw [B9 (n:=y1) (by omega) (by omega),B9 (by omega) (by omega)]
  have c2:m8 (m8 y2*1117)=y2*1117:=by rw [B9 (n:=y2) (by omega) (by omega),B9 (by omega) (by omega)]
  have c3:m8 (r.p*29)=r.p*29:=B9 (by omega) (by omega);have c4:m8 (m8 (f1r r.p (r.b.length:Int))*53)=f1r r.p (r.b.length:Int)*53:=by rw [B9 (n:=f1r r.p (r.b.length:Int)) (by omega) (by omega),B9 (by omega) (by omega)]
  simp only [c1,c2,c3,c4];generalize f1r r.p (r.b.length:Int)=q at td;rw [B9 (n:=y1*131+y2*1117) (by omega) (by omega),B9 (n:=y1*131+y2*1117+r.p*29) (by omega) (by omega),B9 (n:=y1*131+y2*1117+r.p*29+q*53) (by omega) (by omega)];have hA0:0<=y1*131+y2*1117+r.p*29+q*53:=by omega
  have hA1:y1*131+y2*1117+r.p*29+q*53<1000000000000:=by omega
  generalize y1*131+y2*1117+r.p*29+q*53=A at hA0 hA1;have t3:=c78 hA0 (show (1:Int)<=64 by omega);rw [B9 (n:=f1r A 64) (by omega) (by omega)];have hx:=d9g hA0 (by omega) t3.1 (by omega);have t4:=b6K hx.1 (show 1<=n by omega);exact ⟨_,_,rfl,hr,t4.1,.inl t4.2⟩
theorem b3n{r:s9}{m:Nat}(h:Rd r m)(hm:m<=1000000000)(l:List Int)(hl:0<l.length)(hl2:l.length<=1000):∃v r',a5Q r l=some (v,r')/\Rd r' (m+1)/\v∈l:=by
 obtain ⟨v,r',h1,h2,h3,h4⟩:=H3 h hm (l.length:Int);unfold a5Q;rw [h1,e9J];have hlt:v.toNat<l.length:=by omega
 refine ⟨l[v.toNat],r',?_,h2,e9M hlt⟩;unfold idx;simp only [if_pos h3,e9K hlt,e9J]
theorem e1p{code:List Int}(h:∀x∈code,a5R x):∃r,b7n code=some r/\Rd r 0:=by
 unfold b7n c3z;by_cases hl:(code.length:Int)>2000
 ·simp only [hl,decide_true,cond_true];rw [t9 ⟨by omega,by omega⟩];refine ⟨_,rfl,?_,?_,by simp,by simp⟩
  ·intro x hx;simp only [f0N] at hx;exact h x (f0l hx)
  ·simp only [e96];have:(2000:Int).toNat-0=2000:=by decide
   omega
 ·simp only [hl,decide_false,cond_false];exact ⟨_,rfl,h,by simp only;omega,by simp,by simp⟩
def P4(i:o9):Bool :=
 bif i.a8==1 then o7 i.A 0 3&&(o7 i.B 0 3&&i.N==0) else
 bif i.a8==2 then o7 i.A 0 3&&(o7 i.B 0 3&&i.N==0) else
 bif i.a8==3 then o7 i.A 0 3&&(i.B==0&&o7 i.N (-1000000) 1000000) else
 bif i.a8==4 then o7 i.A 0 3&&(o7 i.B 0 3&&i.N==0) else
 bif i.a8==5 then o7 i.A 0 3&&(o7 i.B 0 3&&i.N==0) else
 bif i.a8==6 then o7 i.A 0 3&&(o7 i.B 0 3&&o7 i.N 1 10) else
 bif i.a8==7 then i.A==0&&(i.B==0&&i.N==0) else false
theorem d7x(n:Int):a1L n=some (o7 n 0 3):=by
 rw [<-M0];unfold a1L C5;have:(n<4)=(n<=3):=by apply propext;omega
 simp only [this]
theorem e5I(i:o9):b6r i=some (P4 i):=by
 unfold b6r P4;have h6:(bif decide (i.N>=1) then some (decide (i.N<=10)) else some false)=some (o7 i.N 1 10):=by
  unfold o7;by_cases h1:i.N>=1<;>by_cases h2:i.N<=10<;>simp [h1,h2]<;>omega
 simp only [d7x,b9F,a5e,e9J,h6];cases i.a8==1<;>cases i.a8==2<;>cases i.a8==3<;>cases i.a8==4<;>cases i.a8==5<;>cases i.a8==6<;>cases i.a8==7<;>cases o7 i.A 0 3<;>cases o7 i.B 0 3<;>cases i.A==0<;>cases i.B==0<;>rfl
def D5(l:List o9):Bool:=decide (l.length<=10)&&l.all P4
theorem b6o{l:List o9}(h:t8 l):b0b l=some (D5 l):=by
 unfold b0b D5;rw [show (10:Int)=((10:Nat):Int) from rfl,b0q,P9 l h P4 false ()]
 ·cases decide (l.length<=10)
  ·rfl
  ·cases l.all P4<;>rfl
 ·intro k hk;unfold b6F;rw [x8 _ k hk,u0 hk];simp only [cond_true,e9J,e5I];cases P4 l[k]<;>rfl
 ·unfold b6F;rw [A4];rfl
theorem a8g{i:o9}(h:P4 i=true):(i.a8=1/\(0<=i.A/\i.A<=3)/\(0<=i.B/\i.B<=3))\/(i.a8=2/\(0<=i.A/\i.A<=3)/\(0<=i.B/\i.B<=3))\/(i.a8=3/\(0<=i.A/\i.A<=3)/\(-1000000<=i.N/\i.N<=1000000))\/
  (i.a8=4/\(0<=i.A/\i.A<=3)/\(0<=i.B/\i.B<=3))\/(i.a8=5/\(0<=i.A/\i.A<=3)/\(0<=i.B/\i.B<=3))\/(i.a8=6/\(0<=i.A/\i.A<=3)/\(0<=i.B/\i.B<=3)/\(1<=i.N/\i.N<=10))\/(i.a8=7/\i.A=0):=by
 unfold P4 o7 at h;by_cases h1:i.a8=1
 ·simp [h1] at h;exact .inl ⟨h1,h.1,h.2.1⟩
 by_cases h2:i.a8=2
 ·simp [h2] at h;exact .inr (.inl ⟨h2,h.1,h.2.1⟩)
 by_cases h3:i.a8=3
 ·simp [h3] at h;exact .inr (.inr (.inl ⟨h3,h.1,h.2.2⟩))
 by_cases h4:i.a8=4
 ·simp [h4] at h;exact .inr (.inr (.inr (.inl ⟨h4,h.1,h.2.1⟩)))
 by_cases h5:i.a8=5
 ·simp [h5] at h;exact .inr (.inr (.inr (.inr (.inl ⟨h5,h.1,h.2.1⟩))))
 by_cases h6:i.a8=6
 ·simp [h6] at h;exact .inr (.inr (.inr (.inr (.inr (.inl ⟨h6,h.1,h.2.1,h.2.2⟩)))))
 by_cases h7:i.a8=7
 ·simp [h7] at h;exact .inr (.inr (.inr (.inr (.inr (.inr ⟨h7,h.1⟩)))))
 ·have e1:(i.a8==1)=false:=by simpa using h1
  have e2:(i.a8==2)=false:=by simpa using h2
  have e3:(i.a8==3)=false:=by simpa using h3
  have e4:(i.a8==4)=false:=by simpa using h4
  have e5:(i.a8==5)=false:=by simpa using h5
  have e6:(i.a8==6)=false:=by simpa using h6
  have e7:(i.a8==7)=false:=by simpa using h7
  rw [e1,e2,e3,e4,e5,e6,e7] at h;cases h
def a67(l:List p9):Bool:=(e9U l.length).all (U7 l)
def a3b(l:List n9):Bool:=(e9U l.length).all (V7 l)
def c0i(x:p9):Prop:=0<=x.i6/\x.i6<=3/\0<=x.j4/\x.j4<=1000000
theorem c5t{l:List p9}:a67 l=true↔(∀x∈l,c0i x)/\l.Pairwise fun a b=>a.i6≠b.i6:=by
 unfold a67;constructor
 ·intro h;refine ⟨d2x h,?_⟩;rw [f0o];intro i j hi hj hij heq;have:=List.all_eq_true.1 h j (by simpa using hj);unfold U7 at this;rw [e9K hj] at this;simp only [e9N,f0G] at this;have hs:=this.2.2;unfold M8 at hs;rw [f0A] at hs;refine hs l[i] ?_ (by simpa using heq);rw [f0U];exact ⟨i,by omega,rfl⟩
 ·rintro ⟨h1,h2⟩
  rw [List.all_eq_true];intro k hk;have hk:k<l.length:=by simpa using hk
  unfold U7;rw [e9K hk];have hf:=h1 _ (e9M hk);have hs:M8 (l.take k) l[k].i6=false:=by
   unfold M8;rw [f0A];intro x hx;obtain ⟨i,hi,rfl⟩:=f0U.1 hx;have:=f0o.1 h2 i k (by omega) hk (by omega);simpa using this
  simp only [hs,e98,f0M,e9N];unfold c0i at hf;exact ⟨by simp [o7];omega,by simp [o7];omega⟩
theorem b74{l:List n9}:a3b l=true↔(∀x∈l,a2m x)/\l.Pairwise fun a b=>a.i6≠b.i6:=by
 unfold a3b;constructor
 ·intro h;refine ⟨c5j h,?_⟩;rw [f0o];intro i j hi hj hij heq;have:=List.all_eq_true.1 h j (by simpa using hj);unfold V7 at this;rw [e9K hj] at this;simp only [e9N,f0G] at this;have hs:=this.2.2;unfold S6 at hs;rw [f0A] at hs;refine hs l[i] ?_ (by simpa using heq);rw [f0U];exact ⟨i,by omega,rfl⟩
 ·rintro ⟨h1,h2⟩
  rw [List.all_eq_true];intro k hk;have hk:k<l.length:=by simpa using hk
  unfold V7;rw [e9K hk];have hf:=h1 _ (e9M hk);have hs:S6 (l.take k) l[k].i6=false:=by
   unfold S6;rw [f0A];intro x hx;obtain ⟨i,hi,rfl⟩:=f0U.1 hx;have:=f0o.1 h2 i k (by omega) hk (by omega);simpa using this
  simp only [hs,e98,f0M,e9N];unfold a2m at hf;exact ⟨by simp [o7];omega,by simp [o7];omega⟩
theorem d6P{l:List p9}{x:p9}(h:a67 l=true)(hx:c0i x)(hs:M8 l x.i6=false):a67 (l++[x])=true:=by
 rw [c5t] at h ⊢;refine ⟨fun y hy => ?_,?_⟩
 ·rcases List.mem_append.1 hy with hy|hy
  ·exact h.1 y hy
  ·rw [e9Q.1 hy];exact hx
 ·rw [f06];refine ⟨h.2,by simp,fun a ha b hb => ?_⟩;rw [e9Q.1 hb];unfold M8 at hs;rw [f0A] at hs;simpa using hs a ha
theorem d5a{l:List n9}{x:n9}(h:a3b l=true)(hx:a2m x)(hs:S6 l x.i6=false):a3b (l++[x])=true:=by
 rw [b74] at h ⊢;refine ⟨fun y hy => ?_,?_⟩
 ·rcases List.mem_append.1 hy with hy|hy
  ·exact h.1 y hy
  ·rw [e9Q.1 hy];exact hx
 ·rw [f06];refine ⟨h.2,by simp,fun a ha b hb => ?_⟩;rw [e9Q.1 hb];unfold S6 at hs;rw [f0A] at hs;simpa using hs a ha
theorem e2P{l:List n9}{k:Nat}{v:Int}(h:a3b l=true)(hk:k<l.length)(hv:-1000000<=v/\v<=1000000):a3b (l.set k ⟨l[k].i6,v⟩)=true:=by
 rw [b74] at h ⊢;refine ⟨fun y hy => ?_,?_⟩
 ·rcases List.mem_or_eq_of_mem_set hy with hy|rfl
  ·exact h.1 y hy
  ·have:=h.1 _ (e9M hk);exact ⟨this.1,this.2.1,hv⟩
 ·rw [f0o];intro i j hi hj hij;have hi':i<l.length:=by simpa using hi
  have hj':j<l.length:=by simpa using hj
  have hne:=f0o.1 h.2 i j hi' hj' hij;rw [List.getElem_set,List.getElem_set];split<;>split<;>simp_all
theorem b3y(r:n5):S4 r=(o7 r.Code 0 3&&(o7 r.f0 (-1000000) 1000000&&((r.Code==0||(r.f0==0&&r.b6.length==0))&&((r.Code != 3||r.b5.length==0)&&(a67 r.b5&&a3b r.b6))))):=rfl
theorem d0s{l:List n9}(h:t8 l)(box:Int):(a2A l box=some (-1)/\S6 l box=false)\/∃k:Nat,a2A l box=some (k:Int)/\∃hk:k<l.length,l[k].i6=box:=by
 have hc:=a5J (body:=fun s:Int=>a1j l box s) (fun k=>(k:Int)) l.length (fun k=>match l[k]? with|some x => !(x.i6==box)|none=>true) (fun k=>(k:Int)) ()
  (fun k hk _=>by
   unfold a1j;rw [x8 l k hk,u0 hk,F3 h hk];simp only [cond_true,e9J,e9K hk];cases l[k].i6==box<;>rfl) (fun _=>by unfold a1j;rw [A4];rfl)
 unfold a2A;rcases hc with ⟨h1,hall⟩|⟨k,hk,ho,_,h1⟩
 ·left
  rw [show p8 (fun s:Int=>a1j l box s) 0=_ from h1];refine ⟨rfl,?_⟩;unfold S6;rw [f0A];intro x hx;obtain ⟨i,hi,rfl⟩:=f0x hx;have:=hall i hi;simpa [e9K hi] using this
 ·right
  rw [show p8 (fun s:Int=>a1j l box s) 0=_ from h1];refine ⟨k,rfl,hk,?_⟩;simpa [e9K hk] using ho
def inV(v:Int):Prop := -1000000<=v/\v<=1000000
def a8b(regs:List Int):Prop:=regs.length=4/\∀v∈regs,inV v
theorem a2O{regs:List Int}(h:regs.length=4){a:Int}(ha:0<=a/\a<=3):∃v,idx regs a=some v/\v∈regs:=by
 have hlt:a.toNat<regs.length:=by omega
 refine ⟨regs[a.toNat],?_,e9M hlt⟩;unfold idx;rw [if_pos ha.1,e9K hlt]
theorem e9q{regs:List Int}{a:Nat}{v w:Int}(h:w∈regs.set a v):w∈regs\/w=v:=List.mem_or_eq_of_mem_set h
structure V8(r:n5)(n:Nat):Prop where
 val:r.f0=0
 reads:a67 r.b5=true
 puts:a3b r.b6=true
 rlen:r.b5.length<=n
 plen:r.b6.length<=n
theorem V8.fitsR{r:n5}{n:Nat}(h:V8 r n)(hn:n<=100):t8 r.b5:=by
 have:=h.rlen;unfold t8;omega
theorem V8.fitsP{r:n5}{n:Nat}(h:V8 r n)(hn:n<=100):t8 r.b6:=by
 have:=h.plen;unfold t8;omega
theorem d7R{l:List q9}{r:n5}{n:Nat}{box:Int}(hl:F6 l=true)(hr:V8 r n)(hn:n<=100)(hb:0<=box/\box<=3):∃v r',b0u l r box=some (v,r')/\V8 r' (n+1)/\r'.Code=r.Code/\inV v:=by
 have hp:=(b74.1 hr.puts).1;unfold b0u;rcases d0s (hr.fitsP hn) box with ⟨h1,h2⟩|⟨k,h1,hk,h2⟩
 ·rw [h1,e9J,show decide ((-1:Int)>=0)=false from by decide,cond_false,c0o (hr.fitsR hn),e9J];obtain ⟨b,b1,b2,b3⟩:=a50 hl hb;rw [b5E] at b3;cases hs:M8 r.b5 box
  ·simp only [e98,cond_true,b1,e9J];have n1:(r.b5.length+1)*16<=140737488355328:=by have:=hr.rlen;omega
   simp only [t9 n1,e9J,l9.go];unfold b2o;rw [b1,e9J];refine ⟨_,_,rfl,⟨hr.val,d6P hr.reads ⟨hb.1,hb.2,b3.1⟩ hs,hr.puts,?_,?_⟩,rfl,b3.2⟩
   ·have:=hr.rlen;simp;omega
   ·have:=hr.plen;simp only;omega
  ·simp only [e9O,cond_false,e9J,l9.go];unfold b2o;rw [b1,e9J];refine ⟨_,_,rfl,⟨hr.val,hr.reads,hr.puts,?_,?_⟩,rfl,b3.2⟩
   ·have:=hr.rlen;simp only;omega
   ·have:=hr.plen;simp only;omega
 ·rw [h1,e9J,show decide (((k:Nat):Int)>=0)=true from by simp,cond_true,u0 hk,e9J];have hf:=hp _ (e9M hk);exact ⟨_,_,rfl,⟨hr.val,hr.reads,hr.puts,f03 hr.rlen,f03 hr.plen⟩,rfl,hf.2.2⟩
theorem e1i{r:n5}{n:Nat}{box v:Int}(hr:V8 r n)(hn:n<=100)(hb:0<=box/\box<=3)(hv:inV v):∃r',b2l r box v=some r'/\V8 r' (n+1)/\r'.Code=r.Code:=by
 unfold b2l;rcases d0s (hr.fitsP hn) box with ⟨h1,h2⟩|⟨k,h1,hk,h2⟩
 ·rw [h1,e9J,show decide ((-1:Int)>=0)=false from by decide,cond_false];have n1:(r.b6.length+1)*16<=140737488355328:=by have:=hr.plen;omega
  rw [t9 n1];refine ⟨_,rfl,⟨hr.val,hr.reads,d5a hr.puts ⟨hb.1,hb.2,hv⟩ h2,?_,?_⟩,rfl⟩
  ·have:=hr.rlen;simp only;omega
  ·have:=hr.plen;simp;omega
 ·rw [h1,e9J,show decide (((k:Nat):Int)>=0)=true from by simp,cond_true,u0 hk,e9J];refine ⟨_,rfl,⟨hr.val,hr.reads,?_,f03 hr.rlen,?_⟩,rfl⟩
  ·simp only [e92];exact e2P hr.puts hk hv
  ·have:=hr.plen;simp;omega
theorem e61{l:List q9}{r:n5}{n:Nat}{regs:List Int}{i:o9}(hl:F6 l=true)(hr:V8 r n)(hn:n<=100)(hc:r.Code=0)(hg:a8b regs)(hi:P4 i=true)(h6:i.a8≠6) :
  ∃r' regs',a6E l r regs i=some (r',regs')/\V8 r' (n+1)/\regs'.length=4/\(r'.Code=0\/r'.Code=1\/r'.Code=2)/\(r'.Code=0->a8b regs'):=by
 have hend:∀(regs':List Int) (r':n5),V8 r' (n+1)->(r'.Code=0\/r'.Code=1)->regs'.length=4->i.a8≠2->(0<=i.A/\i.A<=3)->(∀v,idx regs' i.A=some v->inV v->a8b regs')->
   ∃r2 regs2,a3J i regs' r'.b5 r'.b6 r'.f0 r'.Code=some (r2,regs2)/\V8 r2 (n+1)/\regs2.length=4/\(r2.Code=0\/r2.Code=1\/r2.Code=2)/\(r2.Code=0->a8b regs2):=by
  intro regs' r' w1 w2 w3 w4 w5 w6;obtain ⟨v,v1,v2⟩:=a2O w3 w5;have hk:(i.a8 != 2)=true:=by simpa using w4
  unfold a3J a7M;rw [hk,cond_true,v1,e9J,a5e,e9J];cases hv:o7 v (-1000000) 1000000
  ·simp only [e98,cond_true,e9J,l9.go];exact ⟨_,_,rfl,⟨w1.val,w1.reads,w1.puts,w1.rlen,w1.plen⟩,w3,.inr (.inr rfl),fun h=>absurd h (show ¬(2:Int)=0 from by decide)⟩
  ·simp only [e9O,cond_false,e9J,l9.go];have hv':inV v:=by simpa [o7,inV] using hv
   refine ⟨_,_,rfl,⟨w1.val,w1.reads,w1.puts,w1.rlen,w1.plen⟩,w3,?_,fun _=>w6 v v1 hv'⟩;rcases w2 with w2|w2
   ·exact .inl w2
   ·exact .inr (.inl w2)
 have hset:∀(a:Int) (x:Int),(0<=a/\a<=3)->(regs.set a.toNat x).length=4/\∀v,idx (regs.set a.toNat x) a=some v->inV v->a8b (regs.set a.toNat x):=by
  intro a x ha;have hlt:a.toNat<regs.length:=by have:=hg.1;omega
  refine ⟨by simpa using hg.1,fun v hv hin=>⟨by simpa using hg.1,fun w hw => ?_⟩⟩;rcases e9q hw with hw|rfl
  ·exact hg.2 w hw
  ·unfold idx at hv;rw [if_pos ha.1,f0F hlt] at hv;injection hv with hv;subst hv;exact hin
 have hw1:V8 r (n+1):=⟨hr.val,hr.reads,hr.puts,f03 hr.rlen,f03 hr.plen⟩
 unfold a6E;rcases a8g hi with ⟨k,ha,hb⟩|⟨k,ha,hb⟩|⟨k,ha,hN⟩|⟨k,ha,hb⟩|⟨k,ha,hb⟩|⟨k,_⟩|⟨k,ha⟩
 ·obtain ⟨v,r',q1,q2,q3,q4⟩:=d7R hl hr hn hb;obtain ⟨y,y1,_⟩:=a2O hg.1 ha;simp only [k,q1,y1,beq_self_eq_true,cond_true,e9J,l9.go];exact hend _ r' q2 (.inl (q3.trans hc)) (hset i.A v ha).1 (by omega) ha (hset i.A v ha).2
 ·obtain ⟨y,y1,y2⟩:=a2O hg.1 hb;obtain ⟨r',q1,q2,q3⟩:=e1i hr hn ha (hg.2 y y2);have e1:((2:Int)==1)=false:=by decide
  simp only [k,e1,y1,q1,beq_self_eq_true,cond_true,cond_false,e9J,l9.go];unfold a3J a7M;simp only [k,bne_self_eq_false,cond_false,e9J,l9.go];exact ⟨_,_,rfl,⟨q2.val,q2.reads,q2.puts,q2.rlen,q2.plen⟩,hg.1,.inl (q3.trans hc),fun _=>hg⟩
 ·obtain ⟨y,y1,_⟩:=a2O hg.1 ha;have e1:((3:Int)==1)=false:=by decide
  have e2:((3:Int)==2)=false:=by decide
  simp only [k,e1,e2,y1,beq_self_eq_true,cond_true,cond_false,e9J,l9.go];exact hend _ r hw1 (.inl hc) (hset i.A i.N ha).1 (by omega) ha (hset i.A i.N ha).2
 ·obtain ⟨y,y1,_⟩:=a2O hg.1 ha;obtain ⟨z,z1,_⟩:=a2O hg.1 hb;have e1:((4:Int)==1)=false:=by decide
  have e2:((4:Int)==2)=false:=by decide
  have e3:((4:Int)==3)=false:=by decide
  simp only [k,e1,e2,e3,y1,z1,beq_self_eq_true,cond_true,cond_false,e9J,l9.go];exact hend _ r hw1 (.inl hc) (hset i.A _ ha).1 (by omega) ha (hset i.A _ ha).2
 ·obtain ⟨y,y1,_⟩:=a2O hg.1 ha;obtain ⟨z,z1,_⟩:=a2O hg.1 hb;have e1:((5:Int)==1)=false:=by decide
  have e2:((5:Int)==2)=false:=by decide
  have e3:((5:Int)==3)=false:=by decide
  have e4:((5:Int)==4)=false:=by decide
  simp only [k,e1,e2,e3,e4,y1,z1,beq_self_eq_true,cond_true,cond_false,e9J,l9.go];exact hend _ r hw1 (.inl hc) (hset i.A _ ha).1 (by omega) ha (hset i.A _ ha).2
 ·exact absurd k h6
 ·have e1:((7:Int)==1)=false:=by decide
  have e2:((7:Int)==2)=false:=by decide
  have e3:((7:Int)==3)=false:=by decide
  have e4:((7:Int)==4)=false:=by decide
  have e5:((7:Int)==5)=false:=by decide
  simp only [k,e1,e2,e3,e4,e5,beq_self_eq_true,cond_true,cond_false,e9J,l9.go];have:=hend regs ⟨r.b5,r.b6,r.f0,1⟩ ⟨hw1.val,hw1.reads,hw1.puts,hw1.rlen,hw1.plen⟩ (.inr rfl) hg.1 (by omega) ⟨by omega,by omega⟩ (fun _ _ _=>hg);exact this
structure Ran(r:n5):Prop where
 ok:S4 r=true
 rlen:r.b5.length<=40
 plen:r.b6.length<=40
theorem e6n{r:n5}{n:Nat}(h:V8 r n)(hn:n<=40)(hc:r.Code=0\/r.Code=1\/r.Code=2){v:Int}(hv:r.Code=0->inV v):Ran ⟨r.b5,bif r.Code != 0 then [] else r.b6,bif r.Code != 0 then r.f0 else v,r.Code⟩:=by
 have h1:=h.rlen;have h2:=h.plen;have hR:=h.reads;have hP:=h.puts;have hP0:a3b []=true:=rfl;rcases hc with hc|hc|hc
 ·have hv:=hv hc;unfold inV at hv;refine ⟨?_,by simp only;omega,by simp only [hc];simp;omega⟩;rw [b3y];simp [hc,hR,hP,o7,hv]
 ·refine ⟨?_,by simp only;omega,by simp [hc]⟩;rw [b3y];simp [hc,hR,hP0,o7,h.val]
 ·refine ⟨?_,by simp only;omega,by simp [hc]⟩;rw [b3y];simp [hc,hR,hP0,o7,h.val]
theorem e5x{l:List q9}{prog:List o9}(hl:t8 l)(hp:t8 prog):∃r,a89 l prog=some r/\(F6 l=true->Ran r)/\r.b5.length<=40/\r.b6.length<=40:=by
 unfold a89;rw [c0v hl,b6o hp];have h0:Ran ⟨[],[],0,3⟩:=⟨by decide,by simp,by simp⟩
 cases hb:F6 l
 ·exact ⟨_,rfl,(fun h=>by cases h),by simp,by simp⟩
 cases hpo:D5 prog
 ·exact ⟨_,rfl,fun _=>h0,by simp,by simp⟩
 simp only [e9J,e9O,cond_false];rw [t9 (by decide)];have hlen:prog.length<=10:=by
  unfold D5 at hpo;simp only [e9N,decide_eq_true_eq] at hpo;exact hpo.1
 have hins:∀i∈prog,P4 i=true:=by
  unfold D5 at hpo;simp only [e9N] at hpo;exact List.all_eq_true.1 hpo.2
 obtain ⟨x,hx,hq⟩:=b6w (body:=fun s:(List Int)×(List p9)×(List n9)×Int×Int×Int=>a0B l prog s.1 s.2.1 s.2.2.1 s.2.2.2.1 s.2.2.2.2.1 s.2.2.2.2.2)
  (fun m s => ∃k:Nat,s.2.2.2.1=(k:Int)/\k<=30/\k+m=31/\V8 ⟨s.2.1,s.2.2.1,s.2.2.2.2.1,s.2.2.2.2.2⟩ k/\s.1.length=4/\(s.2.2.2.2.2=0\/s.2.2.2.2.2=1\/s.2.2.2.2.2=2)/\(s.2.2.2.2.2=0->a8b s.1))
  (fun x=>match x with
   | .ret _=>False
   | .brk b=>V8 ⟨b.1,b.2.1,b.2.2.2.1,b.2.2.2.2⟩ 30/\b.2.2.1.length=4/\(b.2.2.2.2=0\/b.2.2.2.2=1\/b.2.2.2.2=2)/\(b.2.2.2.2=0->a8b b.2.2.1))
  (by
   rintro m ⟨regs,b5,b6,kk,rVal,rCode⟩ ⟨k,hk,hk30,hm,hway,hreg,hcode,hrok⟩
   simp only at hk hway hreg hcode hrok ⊢;subst hk;have hend:V8 ⟨b5,b6,rVal,rCode⟩ 30:=⟨hway.val,hway.reads,hway.puts,Nat.le_trans hway.rlen hk30,Nat.le_trans hway.plen hk30⟩
   unfold a0B;by_cases hlt:k<prog.length
   ·rw [x8 _ k hlt,u0 hlt];cases hc:rCode==0
    ·exact ⟨_,rfl,hend,hreg,hcode,hrok⟩
    have hc0:rCode=0:=by simpa using hc
    have hi:=hins _ (e9M hlt);simp only [cond_true,e9J];cases h6:prog[k].a8==6
    ·obtain ⟨r',regs',q1,q2,q3,q4,q5⟩:=e61 hb hway (by omega) hc0 (hrok hc0) hi (by simpa using h6);simp only [cond_false,q1,e9J];rw [t9 (by rw [q3];exact hreg),B9 (by omega) (by omega)];exact ⟨_,rfl,m-1,by omega,k+1,by simp,by omega,by omega,q2,q3,q4,q5⟩
    ·have h6':prog[k].a8=6:=by simpa using h6
     obtain ⟨_,ha,hbb,hN⟩:prog[k].a8=6/\(0<=prog[k].A/\prog[k].A<=3)/\(0<=prog[k].B/\prog[k].B<=3)/\(1<=prog[k].N/\prog[k].N<=10):=by
      rcases a8g hi with ⟨q,_⟩|⟨q,_⟩|⟨q,_⟩|⟨q,_⟩|⟨q,_⟩|q|⟨q,_⟩
      ·omega
      ·omega
      ·omega
      ·omega
      ·omega
      ·exact q
      ·omega
     obtain ⟨y,y1,_⟩:=a2O hreg ha;obtain ⟨z,z1,_⟩:=a2O hreg hbb;simp only [cond_true,y1,z1,e9J];have hw2:∀j:Nat,k<=j->V8 ⟨b5,b6,rVal,rCode⟩ (j+1):=fun j h=>⟨hway.val,hway.reads,hway.puts,Nat.le_trans hway.rlen (by omega),Nat.le_trans hway.plen (by omega)⟩
     unfold b5a;by_cases hyz:y<z
     ·simp only [hyz,decide_true,cond_true,e9J,l9.go];have e1:m8 ((k:Int)+prog[k].N)=((k+prog[k].N.toNat:Nat):Int):=by
       rw [B9 (n:=(k:Int)+prog[k].N) (by omega) (by omega)];omega
      rw [e1,B9 (n:=((k+prog[k].N.toNat:Nat):Int)+1) (by omega) (by omega)];exact ⟨_,rfl,31-(k+prog[k].N.toNat+1),by omega,k+prog[k].N.toNat+1,rfl,by omega,by omega,hw2 _ (by omega),hreg,hcode,hrok⟩
     ·simp only [hyz,decide_false,cond_false,e9J,l9.go];rw [B9 (n:=(k:Int)+1) (by omega) (by omega)];exact ⟨_,rfl,31-(k+1),by omega,k+1,rfl,by omega,by omega,hw2 k (by omega),hreg,hcode,hrok⟩
   ·have:decide ((k:Int)<(prog.length:Int))=false:=by simp;omega
    rw [this,cond_false];exact ⟨_,rfl,hend,hreg,hcode,hrok⟩) (k:=31) (s:=(e9L (4:Int).toNat 0,[],[],0,0,0)) ⟨0,rfl,by omega,by omega,⟨rfl,rfl,rfl,by simp,by simp⟩,rfl,.inl rfl,fun _=>⟨rfl,by simp [inV]⟩⟩
 rw [hx,e9J];cases x with
 | ret r=>cases hq
 | brk b =>
  obtain ⟨b5,b6,regs,rVal,rCode⟩:=b;obtain ⟨q1,q2,q3,q4⟩:=hq;simp only at q1 q2 q3 q4;simp only [l9.go];unfold a46;obtain ⟨v,v1,v2⟩:=a2O q2 (a:=0) ⟨by omega,by omega⟩;have hran:=e6n q1 (by omega) q3 (v:=v) (fun h=>(q4 h).2 v v2);have q1r:=q1.rlen;have q1p:=q1.plen;simp only at hran q1r q1p;cases hc:rCode != 0
  ·rw [hc] at hran;simp only [cond_false,v1,e9J] at hran ⊢;exact ⟨_,rfl,fun _=>hran,by simp only;omega,by simp only;omega⟩
  ·rw [hc] at hran;simp only [cond_true] at hran ⊢;exact ⟨_,rfl,fun _=>hran,by simp only;omega,by simp⟩
theorem e6o{r:s9}{m:Nat}(h:Rd r m)(hm:m<=100000000):∃i r',b6Y r=some (i,r')/\Rd r' (m+10):=by
 obtain ⟨k,r1,a1,a2,a3⟩:=b3n h (by omega) [1,1,2,2,3,4,4,5,6,7] (by decide) (by decide);obtain ⟨p1,r2,b1,b2,b3,b4⟩:=H3 a2 (by omega) 3;obtain ⟨p2,r3,c1,c2,c3,c4⟩:=H3 b2 (by omega) 3;unfold b6Y;simp only [a1,b1,c1,e9J];cases h3:k==3
 ·cases h6:k==6
  ·cases h7:k==7
   ·exact ⟨_,_,rfl,c2.mono (by omega)⟩
   ·obtain ⟨p3,r4,d1,d2,d3,d4⟩:=H3 c2 (by omega) 3;simp only [cond_true,cond_false,d1,e9J];cases decide (p3>0)
    ·exact ⟨_,_,rfl,d2.mono (by omega)⟩
    ·obtain ⟨p4,r5,e1,e2,e3,e4⟩:=H3 d2 (by omega) 4;obtain ⟨p5,r6,f1,f2,f3,f4⟩:=H3 e2 (by omega) 4;simp only [cond_true,e1,f1,e9J];exact ⟨_,_,rfl,f2.mono (by omega)⟩
  ·obtain ⟨p3,r4,d1,d2,d3,d4⟩:=H3 c2 (by omega) 3;simp only [cond_true,cond_false,d1,e9J];exact ⟨_,_,rfl,d2.mono (by omega)⟩
 ·obtain ⟨n1,r4,d1,d2,d3⟩:=b3n c2 (by omega) [0,1,5,(-2),100,1000000] (by decide) (by decide);simp only [cond_true,d1,e9J];exact ⟨_,_,rfl,d2.mono (by omega)⟩
theorem b9p{r:s9}{m:Nat}(h:Rd r m)(hm:m<=50000000):∃p r',a4K r=some (p,r')/\Rd r' (m+200)/\p.length<=10:=by
 obtain ⟨v,r1,a1,a2,a3,a4⟩:=H3 h (by omega) 3;unfold a4K;simp only [a1,e9J];cases v==0
 ·obtain ⟨k,r2,b1,b2,b3,b4⟩:=H3 a2 (by omega) 8;simp only [cond_false,b1,e9J];obtain ⟨x,hx,hq⟩:=b6w (body:=fun s:s9×(List o9)×Int=>b4u s.1 s.2.1 s.2.2)
   (fun j s=>s.2.2=(j:Int)/\j<=8/\Rd s.1 (m+2+10*(8-j))/\s.2.1.length+j<=8)
   (fun x=>match x with
    | .ret _=>False
    | .brk b=>Rd b.1 (m+200)/\b.2.length<=10)
   (by
    rintro j ⟨r,out,i⟩ ⟨q1,q2,q3,q4⟩
    simp only at q1 q3 q4 ⊢;subst q1;unfold b4u;cases j with
    | zero=>exact ⟨_,rfl,q3.mono (by omega),by simp only;omega⟩
    | succ j =>
     obtain ⟨i,r',d1,d2⟩:=e6o q3 (by omega);have hpos:decide (((j+1:Nat):Int)>0)=true:=by simp
     have n1:(out.length+1)*32<=140737488355328:=by omega
     rw [hpos,cond_true,d1,e9J,t9 n1,B9 (by omega) (by omega)];exact ⟨_,rfl,j,by omega,by simp only;omega,by omega,d2.mono (by omega),by simp;omega⟩) (k:=k.toNat) (s:=(r2,[],k)) ⟨by simp only;omega,by omega,b2.mono (by omega),by simp;omega⟩
  rw [hx,e9J];cases x with
  | ret r=>cases hq
  | brk b=>exact ⟨_,_,rfl,hq.1,hq.2⟩
 ·obtain ⟨p1,r2,b1,b2,b3,b4⟩:=H3 a2 (by omega) 3;obtain ⟨p2,r3,c1,c2,c3,c4⟩:=H3 b2 (by omega) 3;obtain ⟨p3,r4,d1,d2,d3,d4⟩:=H3 c2 (by omega) 3;simp only [cond_true,b1,c1,d1,e9J];exact ⟨_,_,rfl,d2.mono (by omega),by simp⟩
def d5g(e:m4):Prop:=e.b8.b5.length<=40/\e.b8.b6.length<=40
def drawn(l:List m4):Prop:=l.length<=41/\∀e∈l,d5g e
theorem d7s{l:List m4}(hl:l.length<=40)(he:l.all z3=true):G5 l=true:=by
 unfold G5;simp [hl,he]
theorem e3s{l:List m4}(h:G5 l=true)(k:Nat):G5 (l.take k)=true:=by
 obtain ⟨h1,h2⟩:=a34 h;refine d7s ?_ ?_
 ·rw [e96];omega
 ·rw [List.all_eq_true] at h2 ⊢;exact fun x hx=>h2 x (f0l hx)
theorem e2x{l:List m4}(h:z7 88 a0R l)(k:Nat):z7 88 a0R (l.take k):=by
 refine ⟨?_,fun x hx=>h.2 x (f0l hx)⟩;have:=h.1;rw [e96];have:min k l.length*88<=l.length*88:=e95 _ (Nat.min_le_right _ _);omega
theorem c8k{l:List m4}(h:z7 88 a0R l):b09 l=some (bif G5 l then (z4 l).1 else ⟨0,[],[]⟩):=by
 unfold b09;rw [c6B h,e9J];cases hok:G5 l
 ·rfl
 ·obtain ⟨hl,he⟩:=a34 hok;rw [e9O,cond_false,c9C h hl he];rfl
theorem e4g{l:List m4}(h:z7 88 a0R l)(hok:G5 l=true):b7u l=some (z4 l).1:=by
 obtain ⟨hl,he⟩:=a34 hok;have hf:t8 l:=h.fits (by decide);unfold b7u;rw [d2X,e9J,show (40:Int)=((40:Nat):Int) from rfl,b0q,decide_eq_true hl,e9O,cond_false];have hloop:=W6 (body:=fun s:(List q9)×Int×Int×List r9=>a9t l s.1 s.2.1 s.2.2.1 s.2.2.2) (fun k=>((z4 (l.take k)).1.i4,(k:Int),(z4 (l.take k)).1.At,(z4 (l.take k)).1.i9)) l.length (by
  intro k hk;obtain ⟨h1,h2,h3⟩:=a3w hl he k (by omega);have hek:=List.all_eq_true.1 he _ (e9M hk);have hfk:=h.2 _ (e9M hk);rw [a6T hk];unfold a9t;rw [x8 _ k hk,u0 hk,F3 hf hk];simp only [cond_true,e9J,a3T hfk,hek,e9O,cond_false];rw [show (⟨(z4 (l.take k)).1.At,(z4 (l.take k)).1.i4,(z4 (l.take k)).1.i9⟩:v6)=(z4 (l.take k)).1 from rfl,c97 h1 (by omega) hek hfk,e9J];rfl)
 rw [f0p,f0f] at hloop;rw [show ((0:Nat):Int)=0 from rfl] at hloop;rw [show p8 (fun s:(List q9)×Int×Int×List r9=>a9t l s.1 s.2.1 s.2.2.1 s.2.2.2) (U3.i4,0,U3.At,U3.i9)=_ from hloop,C6 (b:=((z4 l).1.i4,(z4 l).1.At,(z4 l).1.i9))]
 ·rfl
 ·unfold a9t;rw [A4];rfl
theorem e30{r:n5}(h:S4 r=true):a3b r.b6=true:=by
 rw [b3y] at h;simp only [e9N] at h;exact h.2.2.2.2.2
def e80(l:List m4)(cs:List Int)(k:Nat):List q8:=match cs[k]?,l[k]? with
 | some c,some e=>bif c==0 then [e.a5] else []
 | _,_=>[]
def told(l:List m4)(cs:List Int):Nat->List q8
 | 0=>[]
 | k+1=>told l cs k++e80 l cs k
theorem a5g{ps:List n9}(h:ps.Pairwise fun p q=>p.i6≠q.i6)(b:Int):(ps.filter fun p=>p.i6==b).length<=1:=by
 have h2:=h.filter (fun p=>p.i6==b);cases hq:ps.filter fun p=>p.i6==b with
 | nil=>simp
 | cons x r =>
  cases r with
  | nil=>simp
  | cons y r =>
   rw [hq] at h2;have hne:=(f0T.1 h2).1 y (by simp);have hx:x∈ps.filter fun p=>p.i6==b:=by rw [hq];simp
   have hy:y∈ps.filter fun p=>p.i6==b:=by rw [hq];simp
   have hx:=(List.mem_filter.1 hx).2;have hy:=(List.mem_filter.1 hy).2;simp only [beq_iff_eq] at hx hy;omega
theorem b9C:∀{ps:List n9},(∀p∈ps,a2m p)->ps.length=(ps.filter fun p=>p.i6==0).length+(ps.filter fun p=>p.i6==1).length+(ps.filter fun p=>p.i6==2).length+(ps.filter fun p=>p.i6==3).length
 | [],_=>rfl
 | p::ps,h=>by
  have ih:=b9C (ps:=ps) fun x hx=>h x (by simp [hx])
  have hp:=h p (by simp);have:p.i6=0\/p.i6=1\/p.i6=2\/p.i6=3:=by
   have:=hp.1;have:=hp.2.1;omega
  simp only [List.filter_cons,f0w];rcases this with q|q|q|q<;>simp [q]<;>omega
theorem e2q{r:n5}(h:S4 r=true):r.b6.length<=4:=by
 have h1:=(b74.1 (e30 h))
 have h2:=b9C h1.1;have a:=a5g h1.2 0;have b:=a5g h1.2 1;have c:=a5g h1.2 2;have d:=a5g h1.2 3;omega
theorem okEntries.s{l:List m4}(h:z7 88 E3 l):z7 88 a0R l:=h.imp fun _ x=>x.f
theorem a23(c x:Bool):(bif c then some x else some false)=some (c&&x):=by cases c<;>rfl
theorem b3A(c x:Bool):(bif c then some false else some x)=some (!c&&x):=by cases c<;>rfl
theorem e4q(n lo hi:Int):o7 n lo hi=(!decide (n<lo) && !decide (n>hi)):=by
 unfold o7;by_cases h1:n<lo<;>by_cases h2:n>hi<;>simp [h1,h2]<;>omega
theorem rng{α:Type}(n lo hi:Int)(X Y:α):(bif decide (n<lo) then Y else bif decide (n>hi) then Y else X)=bif o7 n lo hi then X else Y:=by
 rw [e4q];cases decide (n<lo)<;>cases decide (n>hi)<;>rfl
theorem c0J{α:Type}(n lo:Int)(X Y:α):(bif decide (n<lo) then Y else bif decide (n>=3) then Y else X)=bif o7 n lo 2 then X else Y:=by
 have e:decide (n>=3)=decide (n>2):=by
  by_cases h:n>2
  ·rw [decide_eq_true h,decide_eq_true (by omega)]
  ·rw [decide_eq_false h,decide_eq_false (by omega)]
 rw [<-rng,e]
theorem a35(a b:Int):(!decide (a>b))=decide (a<=b):=by
 by_cases h:a<=b
 ·simp [h]
 ·simp [h];omega
theorem d0J{α:Type}(l:List α):decide ((l.length:Int)>0) = !((l.length:Int)==0):=by
 by_cases hp:l.length=0
 ·rw [decide_eq_false (by omega),show ((l.length:Int)==0)=true from by rw [hp];rfl];rfl
 ·rw [decide_eq_true (by omega),show ((l.length:Int)==0)=false from by rw [<-Bool.not_eq_true,beq_iff_eq];omega];rfl
theorem b1D{α:Type}[BEq α](a b:α):(!(a != b))=(a==b):=by simp [bne]
abbrev zE:m4:=⟨false,⟨0,0⟩,⟨[],[],0,0⟩⟩
def X1(a b:m4):Bool:=(a.i8==b.i8)&&((([a.a5.d8,a.a5.Seq]:List Int)==[b.a5.d8,b.a5.Seq])&&a0p a.b8 b.b8)
theorem b6a{a b:m4}(h:E3 a):Z9 a b=some (X1 a b):=by
 unfold Z9 X1;simp only [b4e h.f.2,e9J,a23]
theorem c0k{e:m4}(h:E3 e):a4J e=some (X1 e zE):=by
 unfold a4J X1;simp only [c0T h.f.2,e9J,a23];cases e.i8<;>rfl
theorem a87(n:Int):a0K n=some (o7 n 1 3000):=M0 n 1 3000
def Y8(v:m7):Bool:=bif v.a7==0 then X1 v.i0 zE else o7 v.a7 1 3000&&z3 v.i0
theorem d6H{v:m7}(h:R2 v):b3Y v=some (Y8 v):=by
 unfold b3Y Y8;simp only [b6a h.2,M0,a6e h.2.f,e9J,a23];cases v.a7==0<;>rfl
theorem d95{v:m7}(h:R2 v):b5K v=some (Y8 v):=by
 unfold b5K Y8 X1;simp only [c0T h.2.f.2,a87,a3T h.2.f,e9J,a23];cases v.a7==0<;>cases v.i0.i8<;>rfl
def K2(l:List m7):Bool:=decide (l.length<=40)&&l.all Y8
theorem b9r{l:List m7}(h:z7 96 R2 l):a5c l=some (K2 l):=by
 unfold a5c K2;rw [show (40:Int)=((40:Nat):Int) from rfl,b0q,P9 l (h.fits (by decide)) Y8 false ()]
 ·cases decide (l.length<=40)
  ·rfl
  ·cases l.all Y8<;>rfl
 ·intro k hk;unfold b7G;rw [x8 _ k hk,u0 hk];simp only [cond_true,e9J,d95 (h.2 _ (e9M hk))];cases Y8 l[k]<;>rfl
 ·unfold b7G;rw [A4];rfl
theorem b2z{l:List m7}(h:z7 96 R2 l):a52 l=some (K2 l):=by
 unfold a52 K2 c1k;rw [show (40:Int)=((40:Nat):Int) from rfl,c08,P9 l (h.fits (by decide)) Y8 false ()]
 ·cases l.all Y8<;>cases decide (l.length<=40)<;>rfl
 ·intro k hk;unfold b76;rw [x8 _ k hk,u0 hk];simp only [cond_true,e9J,d6H (h.2 _ (e9M hk))];cases Y8 l[k]<;>rfl
 ·unfold b76;rw [A4];rfl
def O0(a:x6):Bool:=o7 a.g8 0 3000&&(K2 a.a6&&a.a6.all fun v => !decide (v.a7>a.g8))
theorem e2v{a:x6}(h:a5l a):b75 a=some (O0 a):=by
 unfold b75 O0;rw [rng,b9r h.2,P9 a.a6 (h.2.fits (by decide)) (fun v => !decide (v.a7>a.g8)) false ()]
 ·simp only [e9J];cases o7 a.g8 0 3000<;>cases K2 a.a6<;>cases a.a6.all (fun v => !decide (v.a7>a.g8))<;>rfl
 ·intro k hk;unfold b79;rw [x8 _ k hk,u0 hk];simp only [cond_true,e9J];cases decide (a.a6[k].a7>a.g8)<;>rfl
 ·unfold b79;rw [A4];rfl
theorem c3J{a:x6}(h:a5l a):a9R a=some (O0 a):=by
 unfold a9R O0;rw [P9 a.a6 (h.2.fits (by decide)) (fun v => !decide (v.a7>a.g8)) false ()]
 ·unfold c06;simp only [M0,b2z h.2,e9J];cases o7 a.g8 0 3000<;>cases K2 a.a6<;>cases a.a6.all (fun v => !decide (v.a7>a.g8))<;>rfl
 ·intro k hk;unfold b37;rw [x8 _ k hk,u0 hk];simp only [cond_true,e9J];cases decide (a.a6[k].a7>a.g8)<;>rfl
 ·unfold b37;rw [A4];rfl
theorem d6c(i:o9):b57 i=some (P4 i):=by
 unfold b57 P4 a2H b6T;simp only [M0,e9J];cases i.a8==1<;>cases i.a8==2<;>cases i.a8==3<;>cases i.a8==4<;>cases i.a8==5<;>cases i.a8==6<;>cases i.a8==7<;>cases o7 i.A 0 3<;>cases o7 i.B 0 3<;>cases i.A==0<;>cases i.B==0<;>rfl
theorem b7s{l:List o9}(h:t8 l):a64 l=some (D5 l):=by
 unfold a64 D5 c2e;rw [show (10:Int)=((10:Nat):Int) from rfl,c08,P9 l h P4 false ()]
 ·cases l.all P4<;>cases decide (l.length<=10)<;>rfl
 ·intro k hk;unfold b5D;rw [x8 _ k hk,u0 hk];simp only [cond_true,e9J,d6c];cases P4 l[k]<;>rfl
 ·unfold b5D;rw [A4];rfl
def Y0(b:Int):Int:=bif o7 b 1 3000 then e99 b 3 else -1
theorem d6y(b:Int):a9W b=some (Y0 b):=by
 unfold a9W Y0;rw [a87,e9J];cases o7 b 1 3000<;>rfl
theorem c5f(b:Int):b2H b=some (Y0 b):=by
 unfold b2H Y0;rw [M0,e9J];cases o7 b 1 3000<;>rfl
def b8t(l:List Bool)(id:Int):Bool:=(idx l id).getD false
def a4v(l:List Bool)(id:Int):Bool:=((l.length:Int)==3)&&b8t l id
theorem c8V{l:List Bool}{id:Int}(h:o7 id 0 2=true)(hl:((l.length:Int)==3)=true):idx l id=some (b8t l id):=by
 unfold o7 at h;simp only [decide_eq_true_eq] at h;simp only [beq_iff_eq] at hl;unfold b8t idx;rw [if_pos h.1,e9K (by omega)];rfl
theorem e3m{l:List Bool}{id:Int}(h:o7 id 0 2=true)(x:Bool):(bif ((l.length:Int)==3) then (idx l id).bind fun y=>some (y&&x) else some false)=some (a4v l id&&x):=by
 unfold a4v;cases hl:((l.length:Int)==3)
 ·rfl
 ·rw [c8V h hl];rfl
theorem d8t{l:List Bool}{id:Int}(h:o7 id 0 2=true):b1O l id=some (a4v l id):=by
 unfold b1O a4v;cases hl:((l.length:Int)==3)
 ·rfl
 ·rw [c8V h hl];rfl
def a28(n:j6):Bool:=X1 n.c9 zE&&((n.a6.length:Int)==0)
def a0Z(n:j6):Bool :=
  bif n.d6==0 then (n.a7==0)&&(((n.c8.length:Int)==0)&&(((n.g9.length:Int)==0)&&a28 n)) else
  (Y0 n.a7==n.Id)&&(decide (n.a7<=n.Acc.g8)&&(K2 n.g9 &&
    (bif n.d6==1 then a4v n.c8 n.Id&&a28 n else
     bif n.d6==2 then ((n.c8.length:Int)==0)&&a28 n else
     bif n.d6==3 then ((n.c8.length:Int)==0)&&(z3 n.c9&&(a4v n.a6 n.Id&&decide ((n.a0.length:Int)<40))) else false)))
theorem c5A{n:j6}(h:o7 n.Id 0 2=true)(ho:(Y0 n.a7==n.Id)=true):o7 n.a7 1 3000=true:=by
 cases hb:o7 n.a7 1 3000
 ·unfold Y0 at ho;rw [hb] at ho;unfold o7 at h;simp only [decide_eq_true_eq,cond_false,beq_iff_eq] at h ho;omega
 ·rfl
theorem d5x{n:j6}(h:Q1 n)(hId:o7 n.Id 0 2=true):b1h n=some (a0Z n):=by
 have hj:b1h n=b6g n (a28 n):=by
  unfold b1h a28;simp only [b6a h.2.2.2.2.2.2.2.2.1,e9J];cases X1 n.c9 zE<;>rfl
 rw [hj];unfold b6g a0Z;simp only [c5f,b2z h.2.2.2.2.2.2.2.1,d8t hId,a6e h.2.2.2.2.2.2.2.2.1.f,e9J,a23];cases n.d6==0
 ·simp only [cond_false];cases n.d6==1<;>cases n.d6==2<;>cases n.d6==3<;>simp only [cond_true,cond_false,b3A,b1D,a35,Bool.not_not]<;>(cases Y0 n.a7==n.Id<;>cases decide (n.a7<=n.Acc.g8)<;>cases K2 n.g9<;>rfl)
 ·rfl
theorem e1D{n:j6}(h:Q1 n)(hId:o7 n.Id 0 2=true):b59 n=some (a0Z n):=by
 unfold b59 a0Z;simp only [d6y,a87,c0k h.2.2.2.2.2.2.2.2.1,b9r h.2.2.2.2.2.2.2.1,a3T h.2.2.2.2.2.2.2.2.1.f,e9J,a23,b3A,e3m hId,b1D,a35,Bool.not_not];have hb:=c5A (n:=n) hId;cases h0:n.d6==0
 ·cases h1:n.d6==1
  ·cases h2:n.d6==2
   ·cases h3:n.d6==3
    ·simp only [cond_false,Bool.and_false]
    ·simp only [cond_false,cond_true,b3A,b1D,a35,Bool.not_not];cases ho:Y0 n.a7==n.Id
     ·simp
     ·rw [hb ho];cases decide (n.a7<=n.Acc.g8)<;>cases K2 n.g9<;>cases ((n.c8.length:Int)==0)<;>rfl
   ·simp only [cond_false,cond_true,b3A,b1D,a35,Bool.not_not];cases ho:Y0 n.a7==n.Id
    ·simp
    ·rw [hb ho];unfold a28;cases decide (n.a7<=n.Acc.g8)<;>cases K2 n.g9<;>cases ((n.c8.length:Int)==0)<;>rfl
  ·simp only [cond_false,cond_true,b3A,b1D,a35,Bool.not_not];cases ho:Y0 n.a7==n.Id
   ·simp
   ·rw [hb ho];unfold a28;cases decide (n.a7<=n.Acc.g8)<;>cases K2 n.g9<;>cases a4v n.c8 n.Id<;>rfl
 ·unfold a28;simp only [cond_true]
def a3a(n:j6):Bool :=
 bif n.i7 then D5 n.i5&&(z3 n.b7&&(!n.b7.i8&&(([n.b7.a5.d8,n.b7.a5.Seq]:List Int)==[n.Id,n.Seq]))) else ((n.i5.length:Int)==0)&&X1 n.b7 zE
theorem d8O{n:j6}(h:Q1 n):b77 n=some (a3a n):=by
 unfold b77 a3a;have hw:=h.2.2.2.2.2.2.2.2.2.2.2.1;simp only [c0k hw,b6o (h.2.2.2.2.2.2.2.2.2.2.1.fits (by decide)),a3T hw.f,e9J,a23];cases n.i7<;>rfl
def b5F(l:List m4):Bool:=l.all fun e=>z3 e && !e.i8
def C7(n:j6):Bool:=o7 n.Id 0 2&&(O0 n.Acc&&(G5 n.a0&&(o7 n.Seq 0 1000&&(decide ((n.d9.length:Int)<=4)&&(a0Z n&&(a3a n&&b5F n.d9))))))
theorem a9T{n:j6}(h:Q1 n):a4s n=some (C7 n):=by
 unfold a4s C7;rw [c0J];cases hId:o7 n.Id 0 2
 ·rfl
 ·rw [rng,e2v h.2.1,e0J (okEntries.s h.2.2.1),e1D h hId,d8O h,P9 n.d9 (h.2.2.2.2.2.2.2.2.2.2.2.2.fits (by decide)) (fun e=>z3 e && !e.i8) false ()]
  ·unfold b5F c3d;rw [<-a35];simp only [e9J,cond_true];cases O0 n.Acc<;>cases G5 n.a0<;>cases o7 n.Seq 0 1000<;>cases decide ((n.d9.length:Int)>4)<;>cases a0Z n<;>cases a3a n<;>cases n.d9.all (fun e=>z3 e && !e.i8)<;>rfl
  ·intro k hk;unfold b4X;rw [x8 _ k hk,u0 hk];simp only [cond_true,e9J,a3T ((h.2.2.2.2.2.2.2.2.2.2.2.2).2 _ (e9M hk)).f];cases z3 n.d9[k]<;>cases n.d9[k].i8<;>rfl
  ·unfold b4X;rw [A4];rfl
theorem a8v{n:j6}(h:Q1 n):a3B n=some (C7 n):=by
 unfold a3B C7;rw [M0,e9J];cases hId:o7 n.Id 0 2
 ·rfl
 ·have hw:=h.2.2.2.2.2.2.2.2.2.2.2.1;have hk3:b3G n=some (a3a n&&a0Z n):=by
   unfold b3G b9o a3a;simp only [b7s (h.2.2.2.2.2.2.2.2.2.2.1.fits (by decide)),a6e hw.f,b6a hw,d5x h hId,e9J];cases n.i7
   ·rw [d0J];cases ((n.i5.length:Int)==0)<;>cases X1 n.b7 zE<;>rfl
   ·cases D5 n.i5<;>cases z3 n.b7<;>cases n.b7.i8<;>cases (([n.b7.a5.d8,n.b7.a5.Seq]:List Int)==[n.Id,n.Seq])<;>rfl
  rw [c3J h.2.1,c6B (okEntries.s h.2.2.1),M0,hk3,P9 n.d9 (h.2.2.2.2.2.2.2.2.2.2.2.2.fits (by decide)) (fun e=>z3 e && !e.i8) false ()]
  ·unfold b5F;rw [<-a35];simp only [e9J,e9O,cond_false];cases O0 n.Acc<;>cases G5 n.a0<;>cases o7 n.Seq 0 1000<;>cases decide ((n.d9.length:Int)>4)<;>cases a0Z n<;>cases a3a n<;>cases n.d9.all (fun e=>z3 e && !e.i8)<;>rfl
  ·intro k hk;unfold b4F;rw [x8 _ k hk,u0 hk];simp only [cond_true,e9J,a6e ((h.2.2.2.2.2.2.2.2.2.2.2.2).2 _ (e9M hk)).f];cases z3 n.d9[k]<;>cases n.d9[k].i8<;>rfl
  ·unfold b4F;rw [A4];rfl
def a5C(m:j8):Bool :=
 let bal:=o7 m.a7 1 3000;let non:=X1 m.i0 zE;let nv:=(m.a6.length:Int)==0;bif m.a8==1 then bal&&(non&&nv) else
 bif m.a8==4 then bal&&(non&&nv) else
 bif m.a8==2 then bal&&(non&&(K2 m.a6&&decide (m8 (m.g7+(m.a6.length:Int))<=40))) else
 bif m.a8==3 then bal&&(decide (m.g7<40)&&(z3 m.i0&&nv)) else
 bif m.a8==5 then (m.a7==0)&&(decide (m.g7<40)&&(z3 m.i0&&nv)) else
 bif m.a8==6 then bal&&((m.g7==0)&&(non&&nv)) else
 bif m.a8==7 then (m.a7==0)&&((m.g7==0)&&(z3 m.i0&&(!m.i0.i8&&nv))) else
 bif m.a8==8 then (m.a7==0)&&(non&&nv) else false
def O2(m:j8):Bool:=o7 m.c8 0 2&&(o7 m.To 0 2&&(!(m.c8==m.To)&&(o7 m.g7 0 40&&a5C m)))
theorem c9n{m:j8}(h:a0b m):b2s m=some (O2 m):=by
 unfold b2s O2 a5C;have he:=h.2.2.2.2.2.1;simp only [M0,b6a he,a6e he.f,b2z h.2.2.2.2.2.2,e9J,a23];cases o7 m.c8 0 2
 ·rfl
 cases o7 m.To 0 2
 ·rfl
 cases m.c8==m.To;case true=>rfl
 cases o7 m.g7 0 40
 ·rfl
 cases m.a8==1<;>cases m.a8==4<;>cases m.a8==2<;>cases m.a8==3<;>cases m.a8==5<;>cases m.a8==6<;>cases m.a8==7<;>cases m.a8==8<;>rfl
theorem e5K{m:j8}(h:a0b m):b7X m=some (O2 m):=by
 unfold b7X O2;have he:=h.2.2.2.2.2.1;have hj2:b4h m=b1z m (X1 m.i0 zE) (z3 m.i0&&decide (m.g7<40)):=by
  unfold b4h;simp only [c0k he,a3T he.f,e9J];cases z3 m.i0<;>rfl
 have hj:∀nv:Bool,nv=((m.a6.length:Int)==0)->(m.a8==2||nv)=true->b1z m (X1 m.i0 zE) (z3 m.i0&&decide (m.g7<40))=some (a5C m):=by
  intro nv hnv hk;unfold b1z a5C;simp only [a87,b9r h.2.2.2.2.2.2,a3T he.f,e9J,a23];rw [<-hnv];cases h1:m.a8==1;case true =>
   have:(m.a8==2)=false:=by
    simp only [beq_iff_eq] at h1;rw [h1];rfl
   rw [this,f0i] at hk;simp only [cond_true,hk,f0M]
  cases h2:m.a8==2;case true =>
   cases h4:m.a8==4
   ·rfl
   ·simp only [beq_iff_eq] at h2 h4;omega
  rw [h2,f0i] at hk;subst hk;cases h3:m.a8==3;case true =>
   cases h4:m.a8==4
   ·simp only [cond_true,cond_false,f0M];cases o7 m.a7 1 3000<;>cases z3 m.i0<;>cases decide (m.g7<40)<;>rfl
   ·simp only [beq_iff_eq] at h3 h4;omega
  cases h4:m.a8==4;case true=>simp only [cond_true,cond_false,f0M]
  simp only [cond_false];cases m.a8==5;case true =>
   simp only [cond_true,f0M];cases m.a7==0<;>cases z3 m.i0<;>cases decide (m.g7<40)<;>rfl
  simp only [cond_false];cases m.a8==6;case true =>
   simp only [cond_true,f0M];cases o7 m.a7 1 3000<;>cases X1 m.i0 zE<;>cases m.g7==0<;>rfl
  cases m.a8==7<;>cases m.a8==8<;>simp only [cond_true,cond_false,f0M,e93,Bool.false_and]
 rw [hj2,c0J];cases o7 m.c8 0 2
 ·rfl
 simp only [cond_true,e93];rw [c0J];cases o7 m.To 0 2
 ·rfl
 simp only [cond_true,e93];cases m.c8==m.To;case true=>rfl
 simp only [cond_false,e98,e93];rw [rng];cases o7 m.g7 0 40
 ·rfl
 simp only [cond_true,e93];rw [d0J];cases h2:m.a8==2
 ·rw [show (m.a8 != 2)=true from by rw [bne,h2];rfl];cases hv:((m.a6.length:Int)==0)
  ·show some false=_
   have:a5C m=false:=by
    unfold a5C;rw [h2,hv];simp
   rw [this]
  ·exact hj true hv.symm (by simp)
 ·rw [show (m.a8 != 2)=false from by rw [bne,h2];rfl];exact hj _ rfl (by rw [h2];rfl)
def Q7(t:m9):Bool:=o7 t.Node 0 2&&((o7 t.a5.d8 0 2&&o7 t.a5.Seq 1 1000)&&((t.a5.d8==t.Node)&&(o7 t.Code 0 4&&o7 t.f0 (-1000000) 1000000)))
theorem e0F(t:m9):b4p t=some (Q7 t):=by
 unfold b4p Q7;simp only [b9k,a5e,e9J,a23];have e1:o7 t.Node 0 2=(decide (t.Node>=0)&&decide (t.Node<3)):=by
  unfold o7;by_cases h1:t.Node>=0<;>by_cases h2:t.Node<3<;>simp [h1,h2]<;>omega
 have e2:o7 t.Code 0 4=(decide (t.Code>=0)&&decide (t.Code<=4)):=by
  unfold o7;by_cases h1:t.Code>=0<;>by_cases h2:t.Code<=4<;>simp [h1,h2]<;>omega
 rw [e1,e2];simp only [f1m]
def W4(x:v5):Bool:=(o7 x.a5.d8 0 2&&o7 x.a5.Seq 1 1000)&&D5 x.i5
def a3p(w:m6)(k:Nat):Bool:=match w.a9[k]? with
 | some n=>(n.Id==(k:Int))&&C7 n
 | none=>true
def J2(w:m6):Bool:=((w.a9.length:Int)==3)&&(decide ((w.b9.length:Int)<=40)&&(decide ((w.d7.length:Int)<=60)&&(decide ((w.Told.length:Int)<=60)&&((e9U w.a9.length).all (a3p w)&&(w.b9.all O2&&(w.d7.all W4&&w.Told.all Q7))))))
theorem d1w{w:m6}(h:a09 w):b0R w=some (J2 w):=by
 have k7:b5b w=some (w.Told.all Q7):=by
  unfold b5b;rw [P9 w.Told (h.2.2.2.fits (by decide)) Q7 false ()]
  ·cases w.Told.all Q7<;>rfl
  ·intro k hk;unfold b3D;rw [x8 _ k hk,u0 hk];simp only [cond_true,e9J,e0F];cases Q7 w.Told[k]<;>rfl
  ·unfold b3D;rw [A4];rfl
 have k9:b4W w=some (w.d7.all W4&&w.Told.all Q7):=by
  unfold b4W;rw [P9 w.d7 (h.2.2.1.fits (by decide)) W4 false ()]
  ·rw [k7];cases w.d7.all W4<;>rfl
  ·intro k hk;unfold b7j;rw [x8 _ k hk,u0 hk];simp only [cond_true,e9J,b9k,b6o ((h.2.2.1.2 _ (e9M hk)).2.fits (by decide))];unfold W4;cases o7 w.d7[k].a5.d8 0 2&&o7 w.d7[k].a5.Seq 1 1000<;>cases D5 w.d7[k].i5<;>rfl
  ·unfold b7j;rw [A4];rfl
 have k11:b7b w=some (w.b9.all O2&&(w.d7.all W4&&w.Told.all Q7)):=by
  unfold b7b;rw [P9 w.b9 (h.2.1.fits (by decide)) O2 false ()]
  ·rw [k9];cases w.b9.all O2<;>rfl
  ·intro k hk;unfold b3M;rw [x8 _ k hk,u0 hk];simp only [cond_true,e9J,e5K (h.2.1.2 _ (e9M hk))];cases O2 w.b9[k]<;>rfl
  ·unfold b3M;rw [A4];rfl
 unfold b0R J2;rw [a6j w.a9 (h.1.fits (by decide)) (a3p w) false ()]
 ·rw [k11];simp only [<-a35];rw [show ((w.a9.length:Int)==3) = !((w.a9.length:Int) != 3) from by simp [bne]];cases ((w.a9.length:Int) != 3)<;>cases decide ((w.b9.length:Int)>40)<;>cases decide ((w.d7.length:Int)>60)<;>cases decide ((w.Told.length:Int)>60)<;>cases (e9U w.a9.length).all (a3p w)<;>rfl
 ·intro k hk _;unfold b7k;rw [x8 _ k hk,u0 hk];simp only [cond_true,e9J,a9T (h.1.2 _ (e9M hk)),a3p,e9K hk,bne];cases w.a9[k].Id==(k:Int)<;>cases C7 w.a9[k]<;>rfl
 ·unfold b7k;rw [A4];rfl
theorem d8C{w:m6}(h:a09 w):b6B w=some (J2 w):=by
 have k7:b69 w=some (w.Told.all Q7):=by
  unfold b69;rw [P9 w.Told (h.2.2.2.fits (by decide)) Q7 false ()]
  ·cases w.Told.all Q7<;>rfl
  ·intro k hk;unfold b4r;rw [x8 _ k hk,u0 hk];simp only [cond_true,e9J,M0,b7f];unfold Q7;rw [show (w.Told[k].a5.d8==w.Told[k].Node) = !(w.Told[k].a5.d8 != w.Told[k].Node) from by simp [bne]];cases o7 w.Told[k].Node 0 2<;>cases o7 w.Told[k].a5.d8 0 2&&o7 w.Told[k].a5.Seq 1 1000<;>cases (w.Told[k].a5.d8 != w.Told[k].Node)<;>cases o7 w.Told[k].Code 0 4<;>cases o7 w.Told[k].f0 (-1000000) 1000000<;>rfl
  ·unfold b4r;rw [A4];rfl
 have k9:b7D w=some (w.d7.all W4&&w.Told.all Q7):=by
  unfold b7D;rw [P9 w.d7 (h.2.2.1.fits (by decide)) W4 false ()]
  ·rw [k7];cases w.d7.all W4<;>rfl
  ·intro k hk;unfold b60;rw [x8 _ k hk,u0 hk];simp only [cond_true,e9J,b7f,b7s ((h.2.2.1.2 _ (e9M hk)).2.fits (by decide))];unfold W4;cases o7 w.d7[k].a5.d8 0 2&&o7 w.d7[k].a5.Seq 1 1000<;>cases D5 w.d7[k].i5<;>rfl
  ·unfold b60;rw [A4];rfl
 have k11:b6d w=some (w.b9.all O2&&(w.d7.all W4&&w.Told.all Q7)):=by
  unfold b6d;rw [P9 w.b9 (h.2.1.fits (by decide)) O2 false ()]
  ·rw [k9];cases w.b9.all O2<;>rfl
  ·intro k hk;unfold b7B;rw [x8 _ k hk,u0 hk];simp only [cond_true,e9J,c9n (h.2.1.2 _ (e9M hk))];cases O2 w.b9[k]<;>rfl
  ·unfold b7B;rw [A4];rfl
 unfold b6B J2;rw [a6j w.a9 (h.1.fits (by decide)) (a3p w) false ()]
 ·rw [k11];simp only [<-a35];rw [show ((w.a9.length:Int)==3) = !((w.a9.length:Int) != 3) from by simp [bne]];cases ((w.a9.length:Int) != 3)<;>cases decide ((w.b9.length:Int)>40)<;>cases decide ((w.d7.length:Int)>60)<;>cases decide ((w.Told.length:Int)>60)<;>cases (e9U w.a9.length).all (a3p w)<;>rfl
 ·intro k hk _;unfold b5k;rw [x8 _ k hk,u0 hk];simp only [cond_true,e9J,a8v (h.1.2 _ (e9M hk)),a3p,e9K hk,bne];cases w.a9[k].Id==(k:Int)<;>cases C7 w.a9[k]<;>rfl
 ·unfold b5k;rw [A4];rfl
theorem c4s{α:Type}{p:List α->List α->Nat->Bool}(hp:∀(a b:List α) (k:Nat) (x y:α),a[k]?=some x->b[k]?=some y->(p a b k=true↔x=y))(a b:List α):(a.length==b.length&&(e9U a.length).all (p a b))=true↔a=b:=by
 constructor
 ·intro h;simp only [e9N,beq_iff_eq,List.all_eq_true,f0H] at h;refine List.ext_getElem h.1 fun i h1 h2 => ?_
  exact (hp a b i _ _ (e9K h1) (e9K h2)).1 (h.2 i h1)
 ·rintro rfl
  simp only [e9N,beq_iff_eq,List.all_eq_true,f0H,true_and];intro k hk;exact (hp a a k _ _ (e9K hk) (e9K hk)).2 rfl
theorem b30(a b:n5):a0p a b=true↔a=b:=by
 have h1:=c4s (p:=a11) (fun a b k x y hx hy=>by
  unfold a11;rw [hx,hy];cases x;cases y;simp) a.b5 b.b5
 have h2:=c4s (p:=a16) (fun a b k x y hx hy=>by
  unfold a16;rw [hx,hy];cases x;cases y;simp) a.b6 b.b6
 unfold a0p;rw [e9N,h1,e9N,h2,e9N,beq_iff_eq,beq_iff_eq];cases a;cases b;simp
theorem a33(a b:m4):X1 a b=true↔a=b:=by
 unfold X1;rw [e9N,e9N,b30];obtain ⟨n,⟨q1,q2⟩,r⟩:=a;obtain ⟨n',⟨q1',q2'⟩,r'⟩:=b;simp [and_assoc]
theorem I4{n lo hi:Int}:o7 n lo hi=true↔lo<=n/\n<=hi:=by unfold o7;simp
theorem d9I{w:m6}(h:J2 w=true):w.a9.length=3/\∀n∈w.a9,C7 n=true:=by
 unfold J2 at h;simp only [e9N,beq_iff_eq,List.all_eq_true,f0H] at h;refine ⟨by omega,fun n hn => ?_⟩;obtain ⟨i,hi,rfl⟩:=f0x hn;have:=h.2.2.2.2.1 i hi;unfold a3p at this;rw [e9K hi] at this;simp only [e9N] at this;exact this.2
theorem e6g{n:j6}(h:C7 n=true):o7 n.Id 0 2=true/\O0 n.Acc=true/\G5 n.a0=true/\a0Z n=true/\a3a n=true:=by
 unfold C7 at h;simp only [e9N] at h;exact ⟨h.1,h.2.1,h.2.2.1,h.2.2.2.2.2.1,h.2.2.2.2.2.2.1⟩
theorem e4D{l:List p9}(h:z7 16 c4i l):a2M l=some l:=by
 have hb:=h.1;unfold a2M;cases hl:((l.length:Int)==0)
 ·rw [cond_false,t9 (by constructor<;>omega),t9 (by simp)]
 ·simp only [beq_iff_eq] at hl;have:l=[]:=e9V (by omega);rw [this];rfl
theorem d4J{l:List n9}(h:z7 16 d0j l):a6L l=some l:=by
 have hb:=h.1;unfold a6L;cases hl:((l.length:Int)==0)
 ·rw [cond_false,t9 (by constructor<;>omega),t9 (by simp)]
 ·simp only [beq_iff_eq] at hl;have:l=[]:=e9V (by omega);rw [this];rfl
theorem b1r{e:m4}(h:E3 e):a54 e=some e:=by
 unfold a54 b9Z;rw [e4D h.2.1,e9J,d4J h.2.2.1];rfl
theorem a0g{e:m4}(h:E3 e):V5 e=some e:=by
 have h1:=h.2.1.1;have h2:=h.2.2.1.1;unfold V5 c1t;rw [t9 (by simp;omega),t9 (by simp;omega)];rfl
theorem e7C{l:List m4}(h:z7 88 E3 l):b7K l=some l:=by
 have hb:=h.1;unfold b7K;cases hl:((l.length:Int)==0)
 ·rw [cond_false,t9 (by constructor<;>omega),t9 (by simp)]
 ·simp only [beq_iff_eq] at hl;have:l=[]:=e9V (by omega);rw [this];rfl
theorem c0c{l:List m4}(h:z7 88 E3 l):a9a l=some l:=by
 have hf:t8 l:=h.fits (by decide);unfold a9a;rw [e7C h,e9J];have hl:=W6 (body:=fun s:(List m4)×Int=>b2y l s.1 s.2) (fun k=>(l,(k:Int))) l.length (by
  intro k hk;unfold b2y;rw [x8 _ k hk,u0 hk];simp only [cond_true,e9J,b1r (h.2 _ (e9M hk)),F3 hf hk,e92,f1n])
 rw [show ((0:Nat):Int)=0 from rfl] at hl;rw [hl,C6 (b:=l)]
 ·rfl
 ·unfold b2y;rw [A4];rfl
theorem c6y{l:List m4}(h:z7 88 E3 l):b2Q l=some l:=by
 have hf:t8 l:=h.fits (by decide);have hb:=h.1;unfold b2Q;have hl:=W6 (body:=fun s:(List m4)×Int=>b0V l s.1 s.2) (fun k=>(l.take k,(k:Int))) l.length (by
  intro k hk;unfold b0V;rw [x8 _ k hk,u0 hk];simp only [cond_true,e9J,a0g (h.2 _ (e9M hk)),F3 hf hk];rw [t9 (by rw [e96];omega),f0j hk])
 rw [show ((0:Nat):Int)=0 from rfl,f0p] at hl;rw [hl,f0f,C6 (b:=l)]
 ·rfl
 ·unfold b0V;rw [A4];rfl
def best(w:m6):Nat->Nat
 | 0=>0
 | k+1=>match w.a9[k]?,w.a9[best w k]? with
  | some a,some b=>bif decide ((a.a0.length:Int)>(b.a0.length:Int)) then k else best w k
  | _,_=>best w k
theorem a93(w:m6):∀k,0<w.a9.length->k<=w.a9.length->best w k<w.a9.length
 | 0,h,_=>h
 | k+1,h,hk=>by
  have hb:=a93 w k h (by omega);unfold best;rw [e9K (show k<w.a9.length by omega),e9K hb];simp only;cases decide ((w.a9[k].a0.length:Int)>(w.a9[best w k].a0.length:Int))
  ·exact hb
  ·exact hk
theorem c62{w:m6}{k:Nat}(h:0<w.a9.length)(hk:k<w.a9.length):best w (k+1)=bif decide ((w.a9[k].a0.length:Int)>((w.a9[best w k]'(a93 w k h (by omega))).a0.length:Int)) then k else best w k:=by
 conv=>lhs;unfold best
 rw [e9K hk,e9K (a93 w k h (by omega))]
def ist(w:m6):Nat->Int×Int
 | 0=>(-1,0)
 | k+1=>((best w (k+1):Int),((k+1:Nat):Int))
def D6(w:m6):List m4:=match w.a9[best w w.a9.length]? with
 | some n=>n.a0
 | none=>[]
theorem e2p{w:m6}(h:a09 w)(hn:0<w.a9.length):b6n w=some (D6 w):=by
 have hf:t8 w.a9:=h.1.fits (by decide);unfold b6n;have hl:=W6 (body:=fun s:Int×Int=>a4f w s.1 s.2) (ist w) w.a9.length (by
  intro k hk;cases k with
  | zero =>
   show a4f w (-1) 0=some (.nxt ((best w (0+1):Int),((0+1:Nat):Int)))
   unfold a4f b41;rw [show decide ((0:Int)<(w.a9.length:Int))=true from by simpa using hk,show idx w.a9 0=some w.a9[0] from u0 hk,show best w (0+1)=0 from by rw [c62 hn hk];cases decide ((w.a9[0].a0.length:Int)>(w.a9[best w 0].a0.length:Int))<;>rfl];simp only [cond_true,e9J];have:m8 ((0:Int)+1)=((0+1:Nat):Int):=F3 hf hk;rw [this];rfl
  | succ k =>
   have hb:=a93 w (k+1) hn (by omega);show a4f w (best w (k+1):Int) ((k+1:Nat):Int)=some (.nxt ((best w (k+1+1):Int),((k+1+1:Nat):Int)))
   unfold a4f b41;rw [x8 _ (k+1) hk,u0 hk,u0 hb,c62 hn hk,show decide ((best w (k+1):Int)<0)=false from by simp];simp only [cond_true,cond_false,e9J,F3 hf hk];cases decide ((w.a9[k+1].a0.length:Int)>(w.a9[best w (k+1)].a0.length:Int))<;>rfl)
 have hbn:=a93 w w.a9.length hn (f0d _);obtain ⟨m,hm⟩:∃m,w.a9.length=m+1:=⟨w.a9.length-1,by omega⟩
 rw [show ist w w.a9.length=((best w w.a9.length:Int),(w.a9.length:Int)) from by rw [hm];rfl] at hl;rw [show p8 (fun s:Int×Int=>a4f w s.1 s.2) ((-1:Int),(0:Int))=_ from hl,C6 (b:=(best w w.a9.length:Int))]
 ·simp only [e9J,l9.go];unfold b9g D6;rw [show decide ((best w w.a9.length:Int)<0)=false from by simp,u0 hbn,e9K hbn];simp only [cond_false,e9J,c0c (h.1.2 _ (e9M hbn)).2.2.1]
 ·unfold a4f;rw [A4];rfl
theorem c7h{w:m6}(h:a09 w)(hw:J2 w=true):0<w.a9.length/\z7 88 E3 (D6 w)/\G5 (D6 w)=true:=by
 obtain ⟨h3,hn⟩:=d9I hw;have h0:0<w.a9.length:=by omega
 have hb:=a93 w w.a9.length h0 (f0d _);refine ⟨h0,?_,?_⟩
 ·unfold D6;rw [e9K hb];exact (h.1.2 _ (e9M hb)).2.2.1
 ·unfold D6;rw [e9K hb];exact (e6g (hn _ (e9M hb))).2.2.1
def H1(q:q8)(e:m4):Bool := !e.i8&&(([e.a5.d8,e.a5.Seq]:List Int)==[q.d8,q.Seq])
theorem b8w{α R S B:Type}{body:S->Option (l8 R S B)}(st:Nat->S)(l:List α)(is:α->Bool)(r:Nat->R)(b:B)(h1:∀(k:Nat) (h:k<l.length),body (st k)=some (bif is l[k] then .ret (r k) else .nxt (st (k+1))))(h2:body (st l.length)=some (.brk b)) :
  p8 body (st 0)=some (match l.findIdx? is with|some k=>.ret (r k)|none=>.brk b):=by
 rcases a5J (body:=body) st l.length (fun k=>match l[k]? with|some x => !is x|none=>true) r b
  (fun k hk _=>by
   rw [h1 k hk,e9K hk];simp only;cases is l[k]<;>rfl) (fun _=>h2) with ⟨h,hall⟩|⟨k,hk,ho,hb,h⟩
 ·have:l.findIdx? is=none:=by
   rw [List.findIdx?_eq_none_iff];intro x hx;obtain ⟨i,hi,rfl⟩:=f0x hx;have:=hall i hi;rw [e9K hi] at this;simpa using this
  rw [this];exact h
 ·have:l.findIdx? is=some k:=by
   rw [f0Q];refine ⟨hk,?_,fun j hj => ?_⟩
   ·rw [e9K hk] at ho;simpa using ho
   ·have:=hb j hj;rw [e9K (show j<l.length by omega)] at this;simpa using this
  rw [this];exact h
theorem b9i{l:List m4}(h:t8 l)(q:q8):a8H l q=some (match l.findIdx? (H1 q) with|some k=>(k:Int)|none => -1):=by
  unfold a8H;rw [show p8 (fun s:Int=>a85 l q s) 0=_ from b8w (body:=fun s:Int=>a85 l q s) (fun k=>(k:Int)) l (H1 q) (fun k=>(k:Int)) () (by
      intro k hk;unfold a85 c1R H1;rw [x8 _ k hk,u0 hk,<-F3 h hk];simp only [cond_true,e9J];cases l[k].i8<;>cases (([l[k].a5.d8,l[k].a5.Seq]:List Int)==[q.d8,q.Seq])<;>rfl) (by
      unfold a85;rw [A4];rfl)]
  cases l.findIdx? (H1 q)<;>rfl
theorem d0N{l:List m4}(hl:l.length<=40)(he:l.all z3=true){k:Nat}(hk:k<l.length):(z4 l).2[k]?=some (apply (z4 (l.take k)).1 l[k]).2:=by
 have key:∀m,k<m->m<=l.length->(z4 (l.take m)).2[k]?=some (apply (z4 (l.take k)).1 l[k]).2:=by
  intro m;induction m with
  | zero=>omega
  | succ m ih =>
   intro h1 h2;have hlen:=(a3w hl he m (by omega)).2.1;rw [a6T (show m<l.length by omega)];unfold b3a;simp only;by_cases q:k<m
   ·rw [e94 (by omega)];exact ih q (by omega)
   ·have:k=m:=by omega
    subst this;rw [e9Z (by omega),hlen];simp
 have:=key l.length hk (f0d _);rwa [f0f] at this
def T2(l:List m4)(k:Nat):Int:=(z4 l).2[k]?.getD 0
theorem c3h{α B R:Type}{body:Int->Option (l8 R Int B)}(l:List α)(hl:t8 l)(ok:α->Bool)(v:R)(b:B)(h1:∀(k:Nat) (h:k<l.length),body (k:Int)=some (bif ok l[k] then .nxt (m8 ((k:Int)+1)) else .ret v))(h2:body (l.length:Int)=some (.brk b)):p8 body 0=some (bif l.all ok then .brk b else .ret v):=by
 have h:=a5J (body:=body) (fun k=>(k:Int)) l.length (fun k=>match l[k]? with|some x=>ok x|none=>true) (fun _=>v) b
  (fun k hk _=>by
   have:=h1 k hk;rw [F3 hl hk] at this;simpa [e9K hk] using this) (fun _=>h2)
 rcases h with ⟨h,hall⟩|⟨k,hk,ho,_,h⟩
 ·have:l.all ok=true:=by
   rw [List.all_eq_true];intro x hx;obtain ⟨i,hi,rfl⟩:=f0x hx;have:=hall i hi;simpa [e9K hi] using this
  rw [this];exact h
 ·have:l.all ok=false:=by
   rw [f1i];refine ⟨l[k],e9M hk,?_⟩;simpa [e9K hk] using ho
  rw [this];exact h
theorem b3s{l:List p9}(h:l.length<=1000):a2M l=some l:=by
 unfold a2M;cases hl:((l.length:Int)==0)
 ·rw [cond_false,t9 (by constructor<;>omega),t9 (by simp)]
 ·simp only [beq_iff_eq] at hl;have:l=[]:=e9V (by omega);rw [this];rfl
theorem e1v{l:List n9}(h:l.length<=1000):a6L l=some l:=by
 unfold a6L;cases hl:((l.length:Int)==0)
 ·rw [cond_false,t9 (by constructor<;>omega),t9 (by simp)]
 ·simp only [beq_iff_eq] at hl;have:l=[]:=e9V (by omega);rw [this];rfl
def a0x(ps:List n9)(b:Int):Option Nat:=ps.findIdx? (·.i6==b)
def atI:Option Nat->Int
 | some k=>(k:Int)
 | none => -1
theorem c9w{l:List n9}(h:t8 l)(b:Int):a2A l b=some (atI (a0x l b)):=by
 unfold a2A;rw [show (0:Int)=((0:Nat):Int) from rfl,b8w (body:=fun s:Int=>a1j l b s) (fun k=>(k:Int)) l (·.i6==b) (fun k=>(k:Int)) ()]
 ·unfold a0x;cases l.findIdx? (·.i6==b)<;>rfl
 ·intro k hk;unfold a1j;rw [x8 _ k hk,u0 hk,F3 h hk];simp only [cond_true,e9J];cases l[k].i6==b<;>rfl
 ·unfold a1j;rw [A4];rfl
theorem c7q{x:n5}(h:t8 x.b6)(b:Int):b0Q x b=some (atI (a0x x.b6 b)):=by
 unfold b0Q;rw [show (0:Int)=((0:Nat):Int) from rfl,b8w (body:=fun s:Int=>b01 x b s) (fun k=>(k:Int)) x.b6 (·.i6==b) (fun k=>(k:Int)) ()]
 ·unfold a0x;cases x.b6.findIdx? (·.i6==b)<;>rfl
 ·intro k hk;unfold b01;rw [x8 _ k hk,u0 hk,F3 h hk];simp only [cond_true,e9J];cases x.b6[k].i6==b<;>rfl
 ·unfold b01;rw [A4];rfl
theorem b7r{ps:List n9}{b:Int}{k:Nat}(h:a0x ps b=some k):k<ps.length:=by
 obtain ⟨hk,_⟩:=f0Q.1 h;exact hk
theorem b5L(k:Nat):decide (atI (some k)>=0)=true:=by simp [atI]
theorem b8H:decide (atI none>=0)=false:=by simp [atI]
theorem e3M{x:n5}(h:t8 x.b5)(b:Int):∃v,b26 x b=some v/\decide (v<0) = !(M8 x.b5 b):=by
 obtain ⟨v,h1,h2⟩:=e26 h b;refine ⟨v,h1,?_⟩;rw [<-h2];by_cases q:v>=0
 ·have:¬v<0:=by omega
  simp [q,this]
 ·have:v<0:=by omega
  simp [q,this]
def I9(v:Int):Bool:=o7 v (-1000000) 1000000
def I7(regs:List Int)(a:Int):Int:=regs.getD a.toNat 0
theorem K0{regs:List Int}(h:regs.length=4){a:Int}(ha:0<=a/\a<=3):idx regs a=some (I7 regs a):=by
 obtain ⟨k,rfl⟩:=Int.eq_ofNat_of_zero_le ha.1;have hk:k<regs.length:=by omega
 rw [u0 hk];unfold I7;simp [hk]
theorem e4M{regs:List Int}(h:regs.length=4){a v:Int}(ha:0<=a/\a<=3):I7 (regs.set a.toNat v) a=v:=by
 unfold I7;have:a.toNat<regs.length:=by omega
 simp [this]
theorem e47{regs:List Int}(h:regs.length=4)(hr:regs.all I9=true){a v:Int}(ha:0<=a/\a<=3):(regs.set a.toNat v).all I9=I9 v:=by
 cases hv:I9 v
 ·rw [f1i];exact ⟨v,e9W (i:=a.toNat) (by rw [f0F (by omega)]),by simp [hv]⟩
 ·rw [List.all_eq_true] at hr ⊢;intro x hx;rcases List.mem_or_eq_of_mem_set hx with hx|rfl
  ·exact hr x hx
  ·exact hv
theorem a4n{regs:List Int}(h:regs.length=4)(hr:regs.all I9=true){a:Int}(ha:0<=a/\a<=3):-1000000<=I7 regs a/\I7 regs a<=1000000:=by
 have hi:=K0 h ha;have hm:I7 regs a∈regs:=e9W (b4E hi).2.2;have:=List.all_eq_true.1 hr _ hm;simpa [I9,o7] using this
structure EI(regs:List Int)(rs:List p9)(ps:List n9)(k:Nat):Prop where
 len:regs.length=4
 rng:regs.all I9=true
 rl:rs.length<=k
 pl:ps.length<=k
theorem EI.fr{regs:List Int}{rs:List p9}{ps:List n9}{k:Nat}(h:EI regs rs ps k)(hk:k<=100):t8 rs:=by
 have:=h.rl;unfold t8;omega
theorem EI.fp{regs:List Int}{rs:List p9}{ps:List n9}{k:Nat}(h:EI regs rs ps k)(hk:k<=100):t8 ps:=by
 have:=h.pl;unfold t8;omega
def I2(l:List q9)(i:o9)(regs:List Int)(rs:List p9)(ps:List n9):List Int×List p9×List n9 :=
 bif i.a8==1 then (match a0x ps i.B with
  | some k=>(match ps[k]? with
   | some p=>(regs.set i.A.toNat p.f0,rs,ps)
   | none=>(regs,rs,ps))
  | none=>match l[i.B.toNat]? with
   | some b=>(regs.set i.A.toNat b.f0,bif M8 rs i.B then rs else rs++[⟨i.B,b.j4⟩],ps)
   | none=>(regs,rs,ps))
 else bif i.a8==2 then (regs,rs,match a0x ps i.A with
  | some k=>(match ps[k]? with
   | some p=>ps.set k ⟨p.i6,I7 regs i.B⟩
   | none=>ps)
  | none=>ps++[⟨i.A,I7 regs i.B⟩])
 else bif i.a8==3 then (regs.set i.A.toNat i.N,rs,ps)
 else bif i.a8==4 then (regs.set i.A.toNat (I7 regs i.A+I7 regs i.B),rs,ps)
 else bif i.a8==5 then (regs.set i.A.toNat (I7 regs i.A-I7 regs i.B),rs,ps)
 else (regs,rs,ps)
def a1O(l:List q9)(prog:List o9):Nat->Nat->List Int->List p9->List n9->n5
 | 0,_,regs,rs,ps=>⟨rs,ps,I7 regs 0,0⟩
 | f+1,k,regs,rs,ps=>match prog[k]? with
  | none=>⟨rs,ps,I7 regs 0,0⟩
  | some i=>bif i.a8==6 then a1O l prog f (bif decide (I7 regs i.A<I7 regs i.B) then k+i.N.toNat+1 else k+1) regs rs ps
   else bif i.a8==7 then ⟨rs,[],0,1⟩
   else bif (I2 l i regs rs ps).1.all I9 then a1O l prog f (k+1) (I2 l i regs rs ps).1 (I2 l i regs rs ps).2.1 (I2 l i regs rs ps).2.2
   else ⟨(I2 l i regs rs ps).2.1,[],0,2⟩
def D4(l:List q9)(prog:List o9):n5:=bif F6 l&&D5 prog then a1O l prog (prog.length+1) 0 [0,0,0,0] [] [] else ⟨[],[],0,3⟩
section
variable {l:List q9} {regs:List Int} {rs:List p9} {ps:List n9} {k:Nat} {i:o9}
theorem c7A(h:regs.length=4):(I2 l i regs rs ps).1.length=4:=by
 unfold I2;cases i.a8==1<;>cases i.a8==2<;>cases i.a8==3<;>cases i.a8==4<;>cases i.a8==5<;>simp only [cond_true,cond_false,f0O,h]
 all_goals
  split
  ·split<;>simp [h]
  ·split<;>simp [h]
theorem e7V(h:rs.length<=k):(I2 l i regs rs ps).2.1.length<=k+1:=by
 unfold I2;cases i.a8==1<;>cases i.a8==2<;>cases i.a8==3<;>cases i.a8==4<;>cases i.a8==5<;>simp only [cond_true,cond_false]<;>try omega
 all_goals
  split
  ·split<;>(simp only;omega)
  ·split
   ·cases M8 rs i.B<;>simp only [cond_true,cond_false,e9T,f0y]<;>omega
   ·simp only;omega
theorem e0V(h:ps.length<=k):(I2 l i regs rs ps).2.2.length<=k+1:=by
 unfold I2;cases i.a8==1<;>cases i.a8==2<;>cases i.a8==3<;>cases i.a8==4<;>cases i.a8==5<;>simp only [cond_true,cond_false]<;>try omega
 all_goals (repeat' split)
 all_goals (try simp only [f0O,e9T,f0y])
 all_goals omega
theorem EI.next(h:EI regs rs ps k)(ha:(I2 l i regs rs ps).1.all I9=true):EI (I2 l i regs rs ps).1 (I2 l i regs rs ps).2.1 (I2 l i regs rs ps).2.2 (k+1) :=
 ⟨c7A h.len,ha,e7V h.rl,e0V h.pl⟩
theorem b5W{x:Int}(h:-1000000<=x/\x<=1000000){y:Int}(h':-1000000<=y/\y<=1000000):m8 (x+y)=x+y/\m8 (x-y)=x-y:=⟨B9 (by omega) (by omega),B9 (by omega) (by omega)⟩
theorem d6M(hl:F6 l=true)(he:EI regs rs ps k)(hk:k<=100)(hi:P4 i=true)(h6:i.a8≠6)(h7:i.a8≠7) :
  a6E l ⟨rs,ps,0,0⟩ regs i=some (⟨(I2 l i regs rs ps).2.1,(I2 l i regs rs ps).2.2,0,bif (I2 l i regs rs ps).1.all I9 then 0 else 2⟩,(I2 l i regs rs ps).1):=by
 have hfr:=he.fr hk;have hfp:=he.fp hk;have hrl:=he.rl;have hpl:=he.pl;have n1:(rs.length+1)*16<=140737488355328:=by omega
 have n2:(ps.length+1)*16<=140737488355328:=by omega
 have fin:∀(a v:Int) (rs':List p9) (ps':List n9),0<=a/\a<=3->i.a8≠2->i.A=a->a3J i (regs.set a.toNat v) rs' ps' 0 0=some (⟨rs',ps',0,bif (regs.set a.toNat v).all I9 then 0 else 2⟩,regs.set a.toNat v):=by
  intro a v rs' ps' ha h2 hia;unfold a3J a7M;rw [show (i.a8 != 2)=true from by simpa using h2,cond_true,hia,K0 (by simpa using he.len) ha,e9J,a5e,e9J,e4M he.len ha,e47 he.len he.rng ha];unfold I9;cases o7 v (-1000000) 1000000<;>rfl
 unfold a6E I2;rcases a8g hi with ⟨h,ha,hb⟩|⟨h,ha,hb⟩|⟨h,ha,hn⟩|⟨h,ha,hb⟩|⟨h,ha,hb⟩|⟨h,_⟩|⟨h,_⟩
 ·simp only [h,show ((1:Int)==1)=true from rfl,cond_true];unfold b0u b2o;rw [c9w hfp,e9J];cases hp:a0x ps i.B with
  | some j =>
   have hj:=b7r hp;simp only [b5L,cond_true,e9K hj];simp only [atI,u0 hj,e9J,K0 he.len ha,l9.go];exact fin i.A _ rs ps ha (by omega) rfl
  | none =>
   obtain ⟨b,hb1,hb2,_⟩:=a50 hl hb;simp only [b8H,cond_false,c0o hfr,e9J,hb1,hb2,t9 n1];cases hs:M8 rs i.B
   ·simp only [e98,cond_true,cond_false,e9J,l9.go,hb1,K0 he.len ha];exact fin i.A _ _ _ ha (by omega) rfl
   ·simp only [e9O,cond_true,cond_false,e9J,l9.go,hb1,K0 he.len ha];exact fin i.A _ _ _ ha (by omega) rfl
 ·simp only [h,show ((2:Int)==1)=false from rfl,show ((2:Int)==2)=true from rfl,cond_true,cond_false,K0 he.len hb,e9J];unfold b2l;rw [c9w hfp,e9J];have fin2:∀ps':List n9,a3J i regs rs ps' 0 0=some (⟨rs,ps',0,bif regs.all I9 then 0 else 2⟩,regs):=by
   intro ps';unfold a3J a7M;rw [he.rng,h];rfl
  cases hp:a0x ps i.A with
  | some j =>
   have hj:=b7r hp;simp only [b5L,cond_true,e9K hj];simp only [atI,u0 hj,e9J,l9.go,e92];exact fin2 _
  | none =>
   simp only [b8H,cond_false,t9 n2,e9J,l9.go];exact fin2 _
 ·simp only [h,show ((3:Int)==1)=false from rfl,show ((3:Int)==2)=false from rfl,show ((3:Int)==3)=true from rfl,cond_true,cond_false,K0 he.len ha,e9J,l9.go];exact fin i.A _ _ _ ha (by omega) rfl
 ·simp only [h,show ((4:Int)==1)=false from rfl,show ((4:Int)==2)=false from rfl,show ((4:Int)==3)=false from rfl,show ((4:Int)==4)=true from rfl,cond_true,cond_false,K0 he.len ha,K0 he.len hb,e9J,l9.go,(b5W (a4n he.len he.rng ha) (a4n he.len he.rng hb)).1];exact fin i.A _ _ _ ha (by omega) rfl
 ·simp only [h,show ((5:Int)==1)=false from rfl,show ((5:Int)==2)=false from rfl,show ((5:Int)==3)=false from rfl,show ((5:Int)==4)=false from rfl,show ((5:Int)==5)=true from rfl,cond_true,cond_false,K0 he.len ha,K0 he.len hb,e9J,l9.go,(b5W (a4n he.len he.rng ha) (a4n he.len he.rng hb)).2];exact fin i.A _ _ _ ha (by omega) rfl
 ·exact absurd h h6
 ·exact absurd h h7
theorem d94(hi:i.a8=7)(ha:i.A=0)(he:EI regs rs ps k):a6E l ⟨rs,ps,0,0⟩ regs i=some (⟨rs,ps,0,1⟩,regs):=by
 have hin:=a4n he.len he.rng (a:=0) (by omega);unfold a6E a3J a7M;simp only [hi,ha,show ((7:Int)==1)=false from rfl,show ((7:Int)==2)=false from rfl,show ((7:Int)==3)=false from rfl,show ((7:Int)==4)=false from rfl,show ((7:Int)==5)=false from rfl,show ((7:Int)==7)=true from rfl,show ((7:Int) != 2)=true from rfl,cond_true,cond_false,e9J,l9.go,K0 he.len (a:=0) (by omega),a5e];rw [show o7 (I7 regs 0) (-1000000) 1000000=true from by simp [o7];exact hin];rfl
theorem d0z(l:List q9){prog:List o9}{f k:Nat}{regs:List Int}{rs:List p9}{ps:List n9}(h:prog.length<=k):a1O l prog f k regs rs ps=⟨rs,ps,I7 regs 0,0⟩:=by
 cases f with
 | zero=>rfl
 | succ f =>
  unfold a1O;rw [f0c h]
theorem c2V{prog:List o9}(hp:D5 prog=true):prog.length<=10/\∀i∈prog,P4 i=true:=by
 unfold D5 at hp;simpa using hp
theorem c7Z(l:List q9)(prog:List o9)(regs:List Int)(rs:List p9)(ps:List n9)(k c:Int)(hc:(c==0)=false) :
  ((p8 (fun s:(List Int)×(List p9)×(List n9)×Int×Int×Int=>a0B l prog s.1 s.2.1 s.2.2.1 s.2.2.2.1 s.2.2.2.2.1 s.2.2.2.2.2) (regs,rs,ps,k,0,c)).bind fun x=>x.go (fun r=>some r) fun s=>a46 s.1 s.2.1 s.2.2.1 s.2.2.2.1 s.2.2.2.2)=some ⟨rs,[],0,c⟩:=by
 rw [C6 (b:=(rs,ps,regs,0,c))]
 ·simp only [e9J,l9.go];unfold a46;rw [bne,hc];rfl
 ·unfold a0B;simp only [hc,cond_false];cases decide (k<(prog.length:Int))<;>rfl
theorem e6p(hl:F6 l=true){prog:List o9}(hp:D5 prog=true):∀(f k:Nat) (regs:List Int) (rs:List p9) (ps:List n9),EI regs rs ps k->prog.length<k+f->k<=prog.length+10->
  ((p8 (fun s:(List Int)×(List p9)×(List n9)×Int×Int×Int=>a0B l prog s.1 s.2.1 s.2.2.1 s.2.2.2.1 s.2.2.2.2.1 s.2.2.2.2.2) (regs,rs,ps,(k:Int),0,0)).bind fun x=>x.go (fun r=>some r) fun s=>a46 s.1 s.2.1 s.2.2.1 s.2.2.2.1 s.2.2.2.2)=some (a1O l prog f k regs rs ps):=by
 obtain ⟨hlen,hins⟩:=c2V hp;intro f;induction f with
 | zero =>
  intro k regs rs ps he hf hk;rw [C6 (b:=(rs,ps,regs,0,0))]
  ·simp only [e9J,l9.go];unfold a46;rw [show ((0:Int) != 0)=false from rfl,cond_false,K0 he.len (a:=0) (by omega)];rfl
  ·unfold a0B;rw [show decide ((k:Int)<(prog.length:Int))=false from by simp;omega];rfl
 | succ f ih =>
  intro k regs rs ps he hf hk;by_cases hlt:k<prog.length
  ·have hi:=hins _ (e9M hlt);unfold a1O;rw [e9K hlt];simp only;by_cases h6:prog[k].a8=6
   ·obtain ⟨ha,hb,hn⟩:(0<=prog[k].A/\prog[k].A<=3)/\(0<=prog[k].B/\prog[k].B<=3)/\1<=prog[k].N/\prog[k].N<=10:=by
     rcases a8g hi with ⟨h,_⟩|⟨h,_⟩|⟨h,_⟩|⟨h,_⟩|⟨h,_⟩|⟨h,x⟩|⟨h,_⟩
     all_goals first|(exact x)|(exfalso;omega)
    have hb1:a0B l prog regs rs ps (k:Int) 0 0=some (.nxt (regs,rs,ps,((bif decide (I7 regs prog[k].A<I7 regs prog[k].B) then k+prog[k].N.toNat+1 else k+1:Nat):Int),0,0)):=by
     unfold a0B b5a;rw [x8 _ k hlt,u0 hlt];simp only [cond_true,e9J,h6,show ((6:Int)==6)=true from rfl,show ((0:Int)==0)=true from rfl,K0 he.len ha,K0 he.len hb];cases decide (I7 regs prog[k].A<I7 regs prog[k].B)
     ·simp only [cond_false,e9J,l9.go];rw [B9 (by omega) (by omega)];rfl
     ·simp only [cond_true,e9J,l9.go];rw [B9 (n:=(k:Int)+prog[k].N) (by omega) (by omega),B9 (by omega) (by omega),show ((k+prog[k].N.toNat+1:Nat):Int)=(k:Int)+prog[k].N+1 from by omega]
    rw [E1 hb1,h6];simp only [show ((6:Int)==6)=true from rfl,cond_true];refine ih _ _ _ _ ⟨he.len,he.rng,?_,?_⟩ ?_ ?_;all_goals
     have h1:=he.rl;have h2:=he.pl;cases decide (I7 regs prog[k].A<I7 regs prog[k].B)<;>simp only [cond_true,cond_false]<;>omega
   by_cases h7:prog[k].a8=7
   ·have ha:prog[k].A=0:=by
     rcases a8g hi with ⟨h,_⟩|⟨h,_⟩|⟨h,_⟩|⟨h,_⟩|⟨h,_⟩|⟨h,_⟩|⟨h,x⟩
     all_goals first|(exact x)|(exfalso;omega)
    have hb1:a0B l prog regs rs ps (k:Int) 0 0=some (.nxt (regs,rs,ps,m8 ((k:Int)+1),0,1)):=by
     unfold a0B;rw [x8 _ k hlt,u0 hlt];simp only [cond_true,e9J,show ((0:Int)==0)=true from rfl,d94 h7 ha he,h7,show ((7:Int)==6)=false from rfl,cond_false];rw [t9 trivial]
    rw [E1 hb1,c7Z _ _ _ _ _ _ _ rfl,h7];rfl
   ·have hs:=d6M hl he (by omega) hi h6 h7;have hb1:a0B l prog regs rs ps (k:Int) 0 0=some (.nxt ((I2 l prog[k] regs rs ps).1,(I2 l prog[k] regs rs ps).2.1,(I2 l prog[k] regs rs ps).2.2,((k+1:Nat):Int),0,bif (I2 l prog[k] regs rs ps).1.all I9 then 0 else 2)):=by
     unfold a0B;rw [x8 _ k hlt,u0 hlt];simp only [cond_true,e9J,show ((0:Int)==0)=true from rfl,hs,show (prog[k].a8==6)=false from by simpa using h6,cond_false];rw [t9 (by rw [c7A he.len];exact he.len),B9 (by omega) (by omega)];rfl
    rw [E1 hb1,show (prog[k].a8==6)=false from by simpa using h6,show (prog[k].a8==7)=false from by simpa using h7,cond_false,cond_false];cases hall:(I2 l prog[k] regs rs ps).1.all I9
    ·rw [cond_false,cond_false,c7Z _ _ _ _ _ _ _ rfl]
    ·rw [cond_true,cond_true];exact ih _ _ _ _ (he.next hall) (by omega) (by omega)
  ·rw [d0z l (by omega),C6 (b:=(rs,ps,regs,0,0))]
   ·simp only [e9J,l9.go];unfold a46;rw [show ((0:Int) != 0)=false from rfl,cond_false,K0 he.len (a:=0) (by omega)];rfl
   ·unfold a0B;rw [show decide ((k:Int)<(prog.length:Int))=false from by simp;omega];rfl
theorem ei0:EI [0,0,0,0] [] [] 0:=⟨rfl,by decide,by simp,by simp⟩
theorem d2G{l:List q9}{prog:List o9}(hl:t8 l)(hp:t8 prog):a89 l prog=some (D4 l prog):=by
 unfold a89 D4;rw [c0v hl,e9J,b6o hp,e9J];cases hb:F6 l
 ·rfl
 cases ho:D5 prog
 ·rfl
 rw [e9O,cond_false,cond_false,t9 (by decide)];have:=e6p hb ho (prog.length+1) 0 [0,0,0,0] [] [] ei0 (by omega) (by omega);exact this
theorem e2S{regs:List Int}{Reads1:List p9}{ins:o9}{put1:n9}(h:regs.length=4)(hr:Reads1.length<=1000):p8 (fun s:Int=>b25 regs Reads1 ins put1 s) 0=some (bif (regs.set ins.A.toNat put1.f0).all I9 then .brk () else .ret ⟨Reads1,[],0,2⟩):=by
 have hl:(regs.set ins.A.toNat put1.f0).length=4:=by simpa using h
 refine c3h (regs.set ins.A.toNat put1.f0) (by unfold t8;omega) I9 _ () (fun k hk => ?_) ?_
 ·have hk4:(k:Int)<4:=by omega
  unfold b25;rw [decide_eq_true hk4,u0 hk,cond_true,e9J,t9 hk4,M0,e9J,b3s hr];unfold I9;cases o7 (regs.set ins.A.toNat put1.f0)[k] (-1000000) 1000000<;>rfl
 ·unfold b25;rw [hl];rfl
theorem c8s{regs:List Int}{Reads1:List p9}{ins:o9}{box:q9}(h:regs.length=4)(hr:Reads1.length<=1000):p8 (fun s:Int=>b0L regs ins Reads1 box s) 0=some (bif (regs.set ins.A.toNat box.f0).all I9 then .brk () else .ret ⟨Reads1,[],0,2⟩):=by
 have hl:(regs.set ins.A.toNat box.f0).length=4:=by simpa using h
 refine c3h (regs.set ins.A.toNat box.f0) (by unfold t8;omega) I9 _ () (fun k hk => ?_) ?_
 ·have hk4:(k:Int)<4:=by omega
  unfold b0L;rw [decide_eq_true hk4,u0 hk,cond_true,e9J,t9 hk4,M0,e9J,b3s hr];unfold I9;cases o7 (regs.set ins.A.toNat box.f0)[k] (-1000000) 1000000<;>rfl
 ·unfold b0L;rw [hl];rfl
theorem b9A{regs:List Int}{Reads1:List p9}(h:regs.length=4)(hr:Reads1.length<=1000):p8 (fun s:Int=>b0M Reads1 regs s) 0=some (bif regs.all I9 then .brk () else .ret ⟨Reads1,[],0,2⟩):=by
 refine c3h regs (by unfold t8;omega) I9 _ () (fun k hk => ?_) ?_
 ·have hk4:(k:Int)<4:=by omega
  unfold b0M;rw [decide_eq_true hk4,u0 hk,cond_true,e9J,t9 hk4,M0,e9J,b3s hr];unfold I9;cases o7 regs[k] (-1000000) 1000000<;>rfl
 ·unfold b0M;rw [h];rfl
theorem d8I(hl:F6 l=true)(he:EI regs rs ps k)(hk:k<=100){prog:List o9}(hkl:k<prog.length)(hpl:prog.length<=10)(R:List p9)(P:List n9)(hi:P4 prog[k]=true)(h6:prog[k].a8≠6)(h7:prog[k].a8≠7) :
  a20 l prog regs R P rs ps (k:Int)=some (bif (I2 l prog[k] regs rs ps).1.all I9 then .nxt ((I2 l prog[k] regs rs ps).1,R,P,(I2 l prog[k] regs rs ps).2.1,(I2 l prog[k] regs rs ps).2.2,((k+1:Nat):Int)) else .ret ⟨(I2 l prog[k] regs rs ps).2.1,[],0,2⟩):=by
 have hfr:=he.fr hk;have hfp:=he.fp hk;have hrl:=he.rl;have hpl:=he.pl;have n1:(rs.length+1)*16<=140737488355328:=by omega
 have n2:(ps.length+1)*16<=140737488355328:=by omega
 have hw:m8 ((k:Int)+1)=((k+1:Nat):Int):=by rw [B9 (by omega) (by omega)];rfl
 have fin:∀(regs':List Int) (ps':List n9),regs'.length=4->a9z R P rs regs' ps' (k:Int)=some (bif regs'.all I9 then .nxt (regs',R,P,rs,ps',((k+1:Nat):Int)) else .ret ⟨rs,[],0,2⟩):=by
  intro regs' ps' h;unfold a9z b2T;rw [b9A h (by omega),hw];cases regs'.all I9<;>rfl
 have hset:∀(a:Nat) (v:Int),(regs.set a v).length=4:=fun a v=>by simpa using he.len
 unfold a20 I2;generalize hin:prog[k]=i at hi h6 h7;rw [x8 _ k hkl,u0 hkl,hin,cond_true,e9J];rcases a8g hi with ⟨h,ha,hb⟩|⟨h,ha,hb⟩|⟨h,ha,hn⟩|⟨h,ha,hb⟩|⟨h,ha,hb⟩|⟨h,_⟩|⟨h,_⟩
 ·have na:i.A<4:=by omega
  simp only [h,show ((1:Int)==1)=true from rfl,cond_true];rw [c7q (x:=⟨rs,ps,0,0⟩) hfp,e9J];simp only;cases hp:a0x ps i.B with
  | some j =>
   have hj:=b7r hp;simp only [b5L,cond_true,e9K hj];simp only [atI,u0 hj,e9J,K0 he.len ha];rw [t9 na,e2S he.len (by omega)];unfold c2K;rw [hw];cases (regs.set i.A.toNat ps[j].f0).all I9<;>rfl
  | none =>
   obtain ⟨b,hb1,hb2,_⟩:=a50 hl hb;obtain ⟨v,hv1,hv2⟩:=e3M (x:=⟨rs,ps,0,0⟩) hfr i.B;simp only [b8H,cond_false,hv1,hv2,e9J,hb1,hb2,t9 n1];cases hs:M8 rs i.B
   ·simp only [e98,cond_true,cond_false,e9J,l9.go];unfold b7W b7E;rw [hb1,e9J,K0 he.len ha,e9J,t9 na,c8s he.len (by simp;omega),hw];cases (regs.set i.A.toNat b.f0).all I9<;>rfl
   ·simp only [e9O,cond_true,cond_false,e9J,l9.go];unfold b7W b7E;rw [hb1,e9J,K0 he.len ha,e9J,t9 na,c8s he.len (by omega),hw];cases (regs.set i.A.toNat b.f0).all I9<;>rfl
 ·have nb:i.B<4:=by omega
  simp only [h,show ((2:Int)==1)=false from rfl,show ((2:Int)==2)=true from rfl,cond_true,cond_false];rw [c7q (x:=⟨rs,ps,0,0⟩) hfp,e9J];simp only;cases hp:a0x ps i.A with
  | some j =>
   have hj:=b7r hp;simp only [b5L,cond_true,e9K hj];simp only [atI,u0 hj,e9J,K0 he.len hb,e92];rw [t9 nb];simp only [e9J,l9.go];exact fin _ _ he.len
  | none =>
   simp only [b8H,cond_false,e9J,K0 he.len hb];rw [t9 nb,t9 n2];simp only [e9J,l9.go];exact fin _ _ he.len
 ·have na:i.A<4:=by omega
  simp only [h,show ((3:Int)==1)=false from rfl,show ((3:Int)==2)=false from rfl,show ((3:Int)==3)=true from rfl,cond_true,cond_false,K0 he.len ha,e9J];rw [t9 na];simp only [e9J,l9.go];exact fin _ _ (hset _ _)
 ·have na:i.A<4:=by omega
  have nb:i.B<4:=by omega
  simp only [h,show ((4:Int)==1)=false from rfl,show ((4:Int)==2)=false from rfl,show ((4:Int)==3)=false from rfl,show ((4:Int)==4)=true from rfl,cond_true,cond_false,K0 he.len ha,K0 he.len hb,e9J,(b5W (a4n he.len he.rng ha) (a4n he.len he.rng hb)).1,t9 na,t9 nb,l9.go];exact fin _ _ (hset _ _)
 ·have na:i.A<4:=by omega
  have nb:i.B<4:=by omega
  simp only [h,show ((5:Int)==1)=false from rfl,show ((5:Int)==2)=false from rfl,show ((5:Int)==3)=false from rfl,show ((5:Int)==4)=false from rfl,show ((5:Int)==5)=true from rfl,cond_true,cond_false,K0 he.len ha,K0 he.len hb,e9J,(b5W (a4n he.len he.rng ha) (a4n he.len he.rng hb)).2,t9 na,t9 nb,l9.go];exact fin _ _ (hset _ _)
 ·exact absurd h h6
 ·exact absurd h h7
theorem e2d(hl:F6 l=true){prog:List o9}(hp:D5 prog=true)(R:List p9)(P:List n9):∀(f k:Nat) (regs:List Int) (rs:List p9) (ps:List n9),EI regs rs ps k->prog.length<k+f->k<=prog.length+10->
  ((p8 (fun s:(List Int)×(List p9)×(List n9)×(List p9)×(List n9)×Int=>a20 l prog s.1 s.2.1 s.2.2.1 s.2.2.2.1 s.2.2.2.2.1 s.2.2.2.2.2) (regs,R,P,rs,ps,(k:Int))).bind fun x=>x.go (fun r=>some r) fun s=>b04 s.1 s.2.1 s.2.2.1 s.2.2.2.1 s.2.2.2.2)=some (a1O l prog f k regs rs ps):=by
 obtain ⟨hlen,hins⟩:=c2V hp;have stop:∀(k:Nat) (regs:List Int) (rs:List p9) (ps:List n9),EI regs rs ps k->prog.length<=k->k<=prog.length+10->((p8 (fun s:(List Int)×(List p9)×(List n9)×(List p9)×(List n9)×Int=>a20 l prog s.1 s.2.1 s.2.2.1 s.2.2.2.1 s.2.2.2.2.1 s.2.2.2.2.2) (regs,R,P,rs,ps,(k:Int))).bind fun x=>x.go (fun r=>some r) fun s=>b04 s.1 s.2.1 s.2.2.1 s.2.2.2.1 s.2.2.2.2)=some ⟨rs,ps,I7 regs 0,0⟩:=by
  intro k regs rs ps he h1 h2;have h3:=he.rl;have h4:=he.pl;rw [C6 (b:=(R,P,regs,rs,ps))]
  ·simp only [e9J,l9.go];unfold b04;rw [b3s (by omega),e9J,e1v (by omega),e9J,K0 he.len (a:=0) (by omega),e9J,t9 (by decide)]
  ·unfold a20;rw [show decide ((k:Int)<(prog.length:Int))=false from by simp;omega];rfl
 intro f;induction f with
 | zero =>
  intro k regs rs ps he hf hk;exact stop k regs rs ps he (by omega) hk
 | succ f ih =>
  intro k regs rs ps he hf hk;by_cases hlt:k<prog.length
  ·have hi:=hins _ (e9M hlt);unfold a1O;rw [e9K hlt];simp only;by_cases h6:prog[k].a8=6
   ·obtain ⟨ha,hb,hn⟩:(0<=prog[k].A/\prog[k].A<=3)/\(0<=prog[k].B/\prog[k].B<=3)/\1<=prog[k].N/\prog[k].N<=10:=by
     rcases a8g hi with ⟨h,_⟩|⟨h,_⟩|⟨h,_⟩|⟨h,_⟩|⟨h,_⟩|⟨h,x⟩|⟨h,_⟩
     all_goals first|(exact x)|(exfalso;omega)
    have hrl:=he.rl;have hb1:a20 l prog regs R P rs ps (k:Int)=some (.nxt (regs,R,P,rs,ps,((bif decide (I7 regs prog[k].A<I7 regs prog[k].B) then k+prog[k].N.toNat+1 else k+1:Nat):Int))):=by
     have na:prog[k].A<4:=by omega
     have nb:prog[k].B<4:=by omega
     unfold a20;rw [x8 _ k hlt,u0 hlt];simp only [cond_true,e9J,h6,show ((6:Int)==1)=false from rfl,show ((6:Int)==2)=false from rfl,show ((6:Int)==3)=false from rfl,show ((6:Int)==4)=false from rfl,show ((6:Int)==5)=false from rfl,show ((6:Int)==6)=true from rfl,cond_false,K0 he.len ha,K0 he.len hb,t9 na,t9 nb];cases decide (I7 regs prog[k].A<I7 regs prog[k].B)
     ·simp only [cond_false,e9J,l9.go];unfold a9z b2T;rw [b9A he.len (by omega),he.rng,B9 (by omega) (by omega)];rfl
     ·simp only [cond_true,e9J,l9.go];unfold a9z b2T;rw [b9A he.len (by omega),he.rng,B9 (n:=(k:Int)+prog[k].N) (by omega) (by omega),B9 (by omega) (by omega),show ((k+prog[k].N.toNat+1:Nat):Int)=(k:Int)+prog[k].N+1 from by omega];rfl
    rw [E1 hb1,h6];simp only [show ((6:Int)==6)=true from rfl,cond_true];refine ih _ _ _ _ ⟨he.len,he.rng,?_,?_⟩ ?_ ?_;all_goals
     have h1:=he.rl;have h2:=he.pl;cases decide (I7 regs prog[k].A<I7 regs prog[k].B)<;>simp only [cond_true,cond_false]<;>omega
   by_cases h7:prog[k].a8=7
   ·have hrl:=he.rl;have hb1:a20 l prog regs R P rs ps (k:Int)=some (.ret ⟨rs,[],0,1⟩):=by
     unfold a20;rw [x8 _ k hlt,u0 hlt];simp only [cond_true,e9J,h7,show ((7:Int)==1)=false from rfl,show ((7:Int)==2)=false from rfl,show ((7:Int)==3)=false from rfl,show ((7:Int)==4)=false from rfl,show ((7:Int)==5)=false from rfl,show ((7:Int)==6)=false from rfl,show ((7:Int)==7)=true from rfl,cond_false];rw [b3s (by omega)];rfl
    rw [Z4 hb1,h7];rfl
   ·have hb1:=d8I hl he (by omega) hlt hlen R P hi h6 h7;rw [show (prog[k].a8==6)=false from by simpa using h6,show (prog[k].a8==7)=false from by simpa using h7,cond_false,cond_false];cases hall:(I2 l prog[k] regs rs ps).1.all I9
    ·rw [hall,cond_false] at hb1;rw [Z4 hb1];rfl
    ·rw [hall,cond_true] at hb1;rw [E1 hb1,cond_true];exact ih _ _ _ _ (he.next hall) (by omega) (by omega)
  ·rw [d0z l (by omega)];exact stop k regs rs ps he (by omega) hk
theorem d21{l:List q9}{prog:List o9}(hl:t8 l)(hp:t8 prog):b0y l prog=some (D4 l prog):=by
 unfold b0y D4;rw [b6c hl,e9J,b7s hp,e9J];cases hb:F6 l
 ·rfl
 cases ho:D5 prog
 ·rfl
 rw [e9O,cond_false,cond_false];exact e2d hb ho [] [] (prog.length+1) 0 [0,0,0,0] [] [] ei0 (by omega) (by omega)
end
theorem c6o{l:List q9}{p:List o9}(hl:F6 l=true)(hp:t8 p):Ran (D4 l p):=by
 obtain ⟨r,h1,h2,_⟩:=e5x (a4l hl) hp;rw [d2G (a4l hl) hp] at h1;injection h1 with h1;rw [h1];exact h2 hl
theorem Ran.f{r:n5}(h:Ran r):a1I r:=by
 have h1:=h.rlen;have h2:=h.plen;exact ⟨⟨by omega,fun _ _=>trivial⟩,⟨by omega,fun _ _=>trivial⟩,trivial⟩
def b3X(w:m6)(q:q8):Option v5:=w.d7.find? fun a=>(([a.a5.d8,a.a5.Seq]:List Int)==[q.d8,q.Seq])
def b0t(w:m6)(q:q8):List o9×Bool:=match b3X w q with
 | some a=>(a.i5,true)
 | none=>([],false)
theorem d4t{l:List o9}(h:l.length*32<=140737488351232):a8q l=some l:=by
 unfold a8q;cases hl:((l.length:Int)==0)
 ·rw [cond_false,t9 (by constructor<;>omega),t9 (by simp)]
 ·simp only [beq_iff_eq] at hl;have:l=[]:=e9V (by omega);rw [this];rfl
theorem d2o{w:m6}(h:a09 w){a:v5}(ha:a∈w.d7):a.i5.length*32<=140737488351232:=(h.2.2.1.2 a ha).2.1
theorem d41{w:m6}(h:a09 w)(q:q8):b6H w q=some (b0t w q):=by
 have hf:t8 w.d7:=h.2.2.1.fits (by decide);unfold b6H b0t b3X;rw [b64 w.d7 hf (fun a=>(([a.a5.d8,a.a5.Seq]:List Int)==[q.d8,q.Seq])) (fun a=>(a.i5,true)) ()]
 ·cases w.d7.find? (fun a=>(([a.a5.d8,a.a5.Seq]:List Int)==[q.d8,q.Seq]))<;>rfl
 ·intro k hk;have:=d2o h (e9M hk);unfold b7g;rw [x8 _ k hk,u0 hk];simp only [cond_true,e9J,d4t this];cases (([w.d7[k].a5.d8,w.d7[k].a5.Seq]:List Int)==[q.d8,q.Seq])<;>rfl
 ·unfold b7g;rw [A4];rfl
theorem d3R{w:m6}(h:a09 w)(q:q8):t8 (b0t w q).1:=by
 unfold b0t b3X;cases hf:w.d7.find? (fun a=>(([a.a5.d8,a.a5.Seq]:List Int)==[q.d8,q.Seq])) with
 | none=>simp [t8]
 | some a =>
  have:=d2o h (f1u hf);show a.i5.length<=_
  omega
def a1i(l:List m4)(q:q8):Int:=match l.findIdx? (H1 q) with
 | some k=>(match l[k]? with|some e=>e.b8.f0|none=>0)
 | none=>0
def e9B(a b:m7):Bool := !(decide (a.a7>0)&&((a.a7==b.a7) && !X1 a.i0 b.i0))
def other(a b:j6):Bool := !(decide (a.a7>0)&&(a.a7==b.a7))
def eN:m4:=⟨true,⟨0,0⟩,⟨[],[],0,0⟩⟩
def v0:m7:=⟨0,zE⟩
def a8W(b:Int):Bool:=o7 b 1 3000
def G6(a:x6)(b:Int):Option x6:=bif a8W b&&decide (a.g8<=b) then some ⟨b,a.a6⟩ else none
def Q9(vs:List m7)(n:Nat):List m7:=vs++e9L (n-vs.length) v0
def J3(a:x6)(b slot:Int)(e:m4):Option x6 :=
 bif o7 slot 0 39&&z3 e then (G6 a b).map fun x=>⟨x.g8,(Q9 x.a6 (slot.toNat+1)).set slot.toNat ⟨b,e⟩⟩ else none
def C8:List m7->List m7->List m7
 | [],b=>b
 | a,[]=>a
 | x::a,y::b=>(bif decide (y.a7>x.a7) then y else x)::C8 a b
def L6(b who:Int):Int :=
 bif decide (b+1<=3000)&&(e99 (b+1) 3==who) then b+1 else
 bif decide (b+2<=3000)&&(e99 (b+2) 3==who) then b+2 else
 bif decide (b+3<=3000)&&(e99 (b+3) 3==who) then b+3 else -1
def a3Y(n:j6):j6:={n with d6:=0,a7:=0,c8:=[],g9:=[],c9:=zE,a6:=[]}
def a6d(n:j6):j6:={n with i7:=false,i5:=[],b7:=zE}
def M2(l:List m4)(q:q8):Bool:=l.any (H1 q)
def a0G(id:Int):List Bool:=(e9L 3 false).set id.toNat true
def M1(l:List Bool):Bool:=decide (2<=(l.filter (· == true)).length)
def H2(id:Int)(m:j8):List j8:=(([0,1,2]:List Int).filter (· != id)).map fun t=>{m with c8:=id,To:=t}
def L5(m out:j8):j8:={out with c8:=m.To,To:=m.c8}
def L8(n:j6)(b:Int):j6:=bif n.d6 != 0&&decide (b>n.a7) then a3Y n else n
def R4(known:List m4):List m4->List m4×Option m4
 | []=>([],none)
 | e::q=>bif M2 known e.a5 then R4 known q else (q,some e)
def a4m(n:j6):j6×Option m4 :=
 bif (n.g9.drop n.a0.length).any (fun v=>decide (v.a7>0)) then (n,some eN)
 else bif n.i7 && !M2 n.a0 n.b7.a5 then (n,some n.b7)
 else ({n with d9:=(R4 n.a0 n.d9).1},(R4 n.a0 n.d9).2)
def a0j(n:j6):j6×Option m4:=match n.g9[n.a0.length]? with
 | some v=>bif decide (v.a7>0) then (n,some v.i0) else a4m n
 | none=>a4m n
def a5u(x:j6)(e:m4):j6×List j8:=match J3 x.Acc x.a7 (x.a0.length:Int) e with
 | some a=>({x with Acc:=a,d6:=3,c9:=e,a6:=a0G x.Id},H2 x.Id ⟨3,0,0,x.a7,(x.a0.length:Int),e,[]⟩)
 | none=>(a3Y x,[])
def L2(n:j6):j6×List j8 :=
 bif n.d6 != 2||decide (40<=n.a0.length) then (n,[]) else match a0j n with
  | (x,some e)=>a5u x e
  | (x,none)=>(x,[])
def S9(n:j6):j6×List m9 :=
 bif n.i7 then (match n.a0.findIdx? (H1 n.b7.a5) with
  | some k=>(a6d n,[⟨n.Id,n.b7.a5,T2 n.a0 k,bif T2 n.a0 k==0 then a1i n.a0 n.b7.a5 else 0⟩])
  | none=>(n,[]))
 else (n,[])
def D1(n:j6)(e:m4):j6 :=
 bif n.d6==3 then {n with a0:=n.a0++[e],d6:=2,c9:=zE,a6:=[]} else {n with a0:=n.a0++[e]}
def U8(n:j6)(e:m4):j6×List j8×List m9 :=
 ((L2 (S9 (D1 n e)).1).1,(L2 (S9 (D1 n e)).1).2,(S9 (D1 n e)).2)
def a1p(n:j6)(m:j8):j6×List j8:=match G6 n.Acc m.a7 with
 | some a=>(L8 {n with Acc:=a} m.a7,[L5 m ⟨2,0,0,m.a7,m.g7,zE,a.a6.drop m.g7.toNat⟩])
 | none=>(n,[L5 m ⟨6,0,0,n.Acc.g8,0,zE,[]⟩])
def a1m(n:j6)(m:j8):j6×List j8:=match J3 n.Acc m.a7 m.g7 m.i0 with
 | some a=>(L8 {n with Acc:=a} m.a7,[L5 m ⟨4,0,0,m.a7,m.g7,zE,[]⟩])
 | none=>(n,[L5 m ⟨6,0,0,n.Acc.g8,0,zE,[]⟩])
def a1B(n:j6)(m:j8):j6×List j8 :=
 bif n.d6 != 1||m.a7 != n.a7 then (n,[]) else
 bif M1 (n.c8.set m.c8.toNat true) then
  L2 {n with c8:=[],g9:=C8 n.g9 (e9L m.g7.toNat v0++m.a6),d6:=2}
 else ({n with c8:=n.c8.set m.c8.toNat true,g9:=C8 n.g9 (e9L m.g7.toNat v0++m.a6)},[])
def a1V(n:j6)(m:j8):j6×List j8×List m9 :=
 bif n.d6 != 3||(m.a7 != n.a7||m.g7 != (n.a0.length:Int)) then (n,[],[]) else
 bif M1 (n.a6.set m.c8.toNat true) then
  ((U8 {n with a6:=n.a6.set m.c8.toNat true} n.c9).1,H2 n.Id ⟨5,0,0,0,(n.a0.length:Int),n.c9,[]⟩++(U8 {n with a6:=n.a6.set m.c8.toNat true} n.c9).2.1,(U8 {n with a6:=n.a6.set m.c8.toNat true} n.c9).2.2)
 else ({n with a6:=n.a6.set m.c8.toNat true},[],[])
def a1X(n:j6)(m:j8):j6×List j8×List m9 :=
 bif decide (m.g7<(n.a0.length:Int)) then (n,[],[]) else
 bif decide (m.g7>(n.a0.length:Int)) then (n,[L5 m ⟨8,0,0,0,(n.a0.length:Int),zE,[]⟩],[])
 else U8 n m.i0
def a1k(n:j6)(m:j8):j6×List j8 :=
 bif n.d6==0||(decide (4<=n.d9.length)||M2 n.a0 m.i0.a5) then (n,[]) else L2 {n with d9:=n.d9++[m.i0]}
def a0V(n:j6)(m:j8)(s:Nat):List j8:=match n.a0[s]? with
 | some e=>[L5 m ⟨5,0,0,0,(s:Int),e,[]⟩]
 | none=>[]
def a3h(n:j6)(m:j8):List j8:=((e9U (n.a0.length-m.g7.toNat)).map fun j=>a0V n m (m.g7.toNat+j)).flatten
def U4(n:j6)(m:j8):j6×List j8×List m9 :=
 bif m.a8==1 then ((a1p n m).1,(a1p n m).2,[]) else
 bif m.a8==2 then ((a1B n m).1,(a1B n m).2,[]) else
 bif m.a8==3 then ((a1m n m).1,(a1m n m).2,[]) else
 bif m.a8==4 then a1V n m else
 bif m.a8==5 then a1X n m else
 bif m.a8==6 then (L8 {n with Acc:=(G6 n.Acc m.a7).getD n.Acc} m.a7,[],[]) else
 bif m.a8==7 then ((a1k n m).1,(a1k n m).2,[]) else
 bif m.a8==8 then (n,a3h n m,[]) else (n,[],[])
def J4(n:j6)(prog:List o9):j6×List j8 :=
 bif n.i7||(n.Seq==1000||(D4 (z4 n.a0).1.i4 prog).Code==3) then (n,[]) else
 bif n.d6==2 then L2 {n with Seq:=n.Seq+1,i7:=true,i5:=prog,b7:=⟨false,⟨n.Id,n.Seq+1⟩,D4 (z4 n.a0).1.i4 prog⟩}
 else ({n with Seq:=n.Seq+1,i7:=true,i5:=prog,b7:=⟨false,⟨n.Id,n.Seq+1⟩,D4 (z4 n.a0).1.i4 prog⟩},
  bif n.d6==0 then H2 n.Id ⟨7,0,0,0,0,⟨false,⟨n.Id,n.Seq+1⟩,D4 (z4 n.a0).1.i4 prog⟩,[]⟩ else [])
def V3(n:j6):j6×List j8 :=
 bif decide (L6 n.Acc.g8 n.Id<0) then (n,[]) else
 ({a3Y n with Acc:=⟨L6 n.Acc.g8 n.Id,n.Acc.a6⟩,d6:=1,a7:=L6 n.Acc.g8 n.Id,c8:=a0G n.Id,g9:=n.Acc.a6},
  H2 n.Id ⟨1,0,0,L6 n.Acc.g8 n.Id,(n.a0.length:Int),zE,[]⟩)
def U0(n:j6):j6×List j8 :=
 bif n.d6==1 then (n,H2 n.Id ⟨8,0,0,0,(n.a0.length:Int),zE,[]⟩++H2 n.Id ⟨1,0,0,n.a7,(n.a0.length:Int),zE,[]⟩) else
 bif n.d6==2 then ((L2 n).1,H2 n.Id ⟨8,0,0,0,(n.a0.length:Int),zE,[]⟩++(L2 n).2) else
 bif n.d6==3 then (n,H2 n.Id ⟨8,0,0,0,(n.a0.length:Int),zE,[]⟩++H2 n.Id ⟨3,0,0,n.a7,(n.a0.length:Int),n.c9,[]⟩) else
 bif n.i7 then (n,H2 n.Id ⟨8,0,0,0,(n.a0.length:Int),zE,[]⟩++H2 n.Id ⟨7,0,0,0,0,n.b7,[]⟩) else
 (n,H2 n.Id ⟨8,0,0,0,(n.a0.length:Int),zE,[]⟩)
def C0(id:Int):j6:=⟨id,⟨0,[]⟩,[],0,0,0,[],[],zE,[],false,[],zE,[]⟩
def a0J(n:j6):j6:={C0 n.Id with Acc:=n.Acc,a0:=n.a0,Seq:=n.Seq}
def N7:m6:=⟨[C0 0,C0 1,C0 2],[],[],[]⟩
def a0l(w:m6)(l:List j8):m6:={w with b9:=w.b9++l.take (40-w.b9.length)}
def a8t(w:m6)(l:List m9):m6:={w with Told:=w.Told++l.take (60-w.Told.length)}
def M7(w:m6)(i:Int)(n:j6):m6:={w with a9:=w.a9.set i.toNat n}
def a2E(w:m6)(i:Int):m6:={w with b9:=w.b9.take i.toNat++w.b9.drop (i.toNat+1)}
def H4(w:m6)(i:Int):j6:=w.a9.getD i.toNat (C0 0)
def a3c(w:m6)(i:Int)(prog:List o9):m6 :=
 bif decide (60<=w.d7.length) then w else
 a0l (M7 (bif decide ((J4 (H4 w i) prog).1.Seq>(H4 w i).Seq) then {w with d7:=w.d7++[⟨(J4 (H4 w i) prog).1.b7.a5,prog⟩]} else w) i (J4 (H4 w i) prog).1) (J4 (H4 w i) prog).2
def a0F(w:m6)(e:p7):m6:=bif decide (0<=e.A) then (match w.b9[e.A.toNat]? with
 | some m=>bif e.a8==4 then a0l w [m] else bif e.a8==3 then a2E w e.A else
  a8t (a0l (M7 (a2E w e.A) m.To (U4 (H4 w m.To) m).1) (U4 (H4 w m.To) m).2.1) (U4 (H4 w m.To) m).2.2
 | none=>w) else w
def C4(w:m6)(e:p7):m6 :=
 bif e.a8==2||(e.a8==3||e.a8==4) then a0F w e else
 bif !o7 e.A 0 2 then w else
 bif e.a8==1 then a3c w e.A e.i5 else
 bif e.a8==5 then a0l (M7 w e.A (V3 (H4 w e.A)).1) (V3 (H4 w e.A)).2 else
 bif e.a8==6 then a0l (M7 w e.A (U0 (H4 w e.A)).1) (U0 (H4 w e.A)).2 else
 bif e.a8==7 then M7 w e.A (a0J (H4 w e.A)) else w
def a0X(w:m6)(l:List p7):m6:=l.foldl C4 w
theorem Z0:H7 0:=⟨by decide,by decide⟩
theorem R9{α:Type}{b:Nat}{ok:α->Prop}:z7 b ok ([]:List α):=⟨by simp,fun x hx=>by cases hx⟩
theorem a0N:E3 zE:=⟨⟨Z0,Z0⟩,R9,R9,Z0,Z0⟩
theorem c9d:E3 eN:=⟨⟨Z0,Z0⟩,R9,R9,Z0,Z0⟩
theorem c8D:R2 v0:=⟨Z0,a0N⟩
theorem a5L{α R B:Type}{body:List α×Int->Option (l8 R (List α×Int) B)}(l:List α)(hl:t8 l)(f:List α->B)(h1:∀(k:Nat) (h:k<l.length),body (l.take k,(k:Int))=some (.nxt (l.take k++[l[k]],m8 ((k:Int)+1))))(h2:body (l,(l.length:Int))=some (.brk (f l))):p8 body ([],0)=some (.brk (f l)):=by
 have h:=W6 (body:=body) (fun k=>(l.take k,(k:Int))) l.length (by
  intro k hk;rw [h1 k hk,F3 hl hk,f0j hk])
 rw [show ((0:Nat):Int)=0 from rfl,f0p] at h;rw [h,f0f];exact C6 h2
theorem b6u{l:List m7}(h:z7 96 R2 l):a7i l=some l:=by
 have hf:t8 l:=h.fits (by decide);have hb:=h.1;unfold a7i;rw [a5L (body:=fun s:(List m7)×Int=>b2m l s.1 s.2) l hf (fun l=>l) (by
  intro k hk;unfold b2m;rw [x8 _ k hk,u0 hk];simp only [cond_true,e9J,a0g (h.2 _ (e9M hk)).2];rw [t9 (by rw [e96];omega)]) (by
  unfold b2m;rw [A4];rfl)]
 rfl
theorem e8H{l:List m7}(h:z7 96 R2 l):b6W l=some (l,l):=by
 have hf:t8 l:=h.fits (by decide);have hb:=h.1;unfold b6W;rw [a5L (body:=fun s:(List m7)×Int=>b1Z l s.1 s.2) l hf (fun l=>l) (by
  intro k hk;unfold b1Z;rw [x8 _ k hk,u0 hk];simp only [cond_true,e9J,a0g (h.2 _ (e9M hk)).2];rw [t9 (by rw [e96];omega)]) (by
  unfold b1Z;rw [A4];rfl)]
 rfl
theorem e8r{e:m4}(h:E3 e):b3R e=some e:=by
 have h1:=h.2.1.1;have h2:=h.2.2.1.1;unfold b3R c25;rw [t9 (by simp;omega),t9 (by simp;omega)];rfl
theorem d7v{l:List m7}(h:z7 96 R2 l):b8n l=some l:=by
 have hf:t8 l:=h.fits (by decide);have hb:=h.1;unfold b8n;rw [a5L (body:=fun s:(List m7)×Int=>b1f l s.1 s.2) l hf (fun l=>l) (by
  intro k hk;unfold b1f;rw [x8 _ k hk,u0 hk];simp only [cond_true,e9J,e8r (h.2 _ (e9M hk)).2];rw [t9 (by rw [e96];omega)]) (by
  unfold b1f;rw [A4];rfl)]
 rfl
theorem b4a{m:j8}(h:a0b m):a7e m=some m:=by
 unfold a7e;rw [a0g h.2.2.2.2.2.1,e9J,b6u h.2.2.2.2.2.2];rfl
theorem b2A{α:Type}{b:Nat}{ok:α->Prop}{l:List α}(h:z7 b ok l):(([]:List α).length+l.length)*b<=140737488355328:=by
 have:=h.1;simp only [f01,f0v];omega
theorem b2x{n:j6}(h:Q1 n):a6h n=some n:=by
 obtain ⟨h1,h2,h3,h4,h5,h6,h7,h8,h9,h10,h11,h12,h13⟩:=h;unfold a6h b9W;rw [b6u h2.2,e9J,e9J,c6y h3,e9J,t9 (b2A h7),b6u h8,e9J,a0g h9,e9J,t9 (b2A h10),t9 (b2A h11),a0g h12,e9J,c6y h13];rfl
theorem c00{a:x6}{b:Int}:a9A a b=match G6 a b with|some _=>none|none=>some (a,false):=by
 unfold a9A G6 a8W;rw [a87,e9J];cases o7 b 1 3000
 ·rfl
 ·by_cases h:b<a.g8
  ·simp [h,show ¬a.g8<=b by omega]
  ·simp [h,show a.g8<=b by omega]
theorem b8j{a:x6}{b:Int}:a6Q a b=some (match G6 a b with|some x=>(x,true)|none=>(a,false)):=by
 unfold a6Q G6 a8W;rw [a87,e9J];cases o7 b 1 3000
 ·rfl
 ·by_cases h:b<a.g8
  ·simp [h,show ¬a.g8<=b by omega]
  ·simp [h,show a.g8<=b by omega]
theorem d1d{a:x6}{b s:Int}{e:m4}(he:E3 e):b2V a b s e=match J3 a b s e with|some _=>none|none=>some (a,false):=by
 unfold b2V J3;rw [a3T he.f,e9J,c00];by_cases h1:s<0
 ·simp [h1,o7,show ¬(0<=s/\s<=39) by omega]
 ·by_cases h2:s>=40
  ·simp [h1,h2,o7,show ¬(0<=s/\s<=39) by omega]
  ·simp only [h1,h2,decide_false,cond_false,o7,show (0<=s/\s<=39) by omega,and_self,decide_true,e93];cases z3 e
   ·rfl
   ·simp only [e9O,cond_false,cond_true];cases G6 a b<;>rfl
theorem c5B(slot:Nat)(hs:slot<40):∀(m:Nat) (vs:List m7),slot+1-vs.length=m->p8 (fun s:List m7=>a7B (slot:Int) s) vs=some (.brk (Q9 vs (slot+1)))
 | 0,vs,h=>by
  refine C6 ?_;unfold a7B Q9;rw [h,show decide ((vs.length:Int)<=(slot:Int))=false by simp;omega];simp
 | m+1,vs,h=>by
  have hb:a7B (slot:Int) vs=some (.nxt (vs++[v0])):=by
   unfold a7B;rw [show decide ((vs.length:Int)<=(slot:Int))=true by simp;omega,cond_true,t9 (by omega)];rfl
  rw [E1 (body:=fun s:List m7=>a7B (slot:Int) s) hb,c5B slot hs m (vs++[v0]) (by simp;omega)];congr 2
  unfold Q9;rw [h,e9T,show slot+1-(vs.length+[v0].length)=m by simp;omega,e9Y];rfl
theorem b5v(vs:List m7)(n:Nat):(Q9 vs n).length=max vs.length n:=by
 unfold Q9;simp;omega
theorem c7J{a:x6}{b s:Int}{e:m4}(he:E3 e):b1l a b s e=some (match J3 a b s e with|some x=>(x,true)|none=>(a,false)):=by
 unfold b1l J3;rw [a3T he.f,e9J,c00,b8j,e9J];by_cases h1:s<0
 ·simp [h1,o7,show ¬(0<=s/\s<=39) by omega]
 ·by_cases h2:s>=40
  ·simp [h1,h2,o7,show ¬(0<=s/\s<=39) by omega]
  ·simp only [h1,h2,decide_false,cond_false,o7,show (0<=s/\s<=39) by omega,and_self,decide_true,e93];cases z3 e
   ·rfl
   ·simp only [e9O,cond_false,cond_true];cases G6 a b with
    | none=>rfl
    | some x =>
     obtain ⟨k,rfl⟩:∃k:Nat,s=(k:Int):=⟨s.toNat,by omega⟩
     have hk:k<(Q9 x.a6 (k+1)).length:=by rw [b5v];omega
     simp only [a4e,e9O,cond_false,c5B k (by omega) _ _ rfl,e9J,l9.go,c28,a0g he,u0 hk,f0J,e92]
theorem b5A{n:j6}{q:q8}(h:t8 n.a0):a70 n q=some (M2 n.a0 q):=by
  unfold a70;rw [show p8 (fun s:Int=>a8P n q s) 0=_ from b64 (body:=fun s:Int=>a8P n q s) n.a0 h (H1 q) (fun _=>true) () (by
      intro k hk;unfold a8P c29 H1;rw [x8 _ k hk,u0 hk];simp only [cond_true,e9J];cases n.a0[k].i8<;>cases (([n.a0[k].a5.d8,n.a0[k].a5.Seq]:List Int)==[q.d8,q.Seq])<;>rfl) (by
      unfold a8P;rw [A4];rfl)]
  unfold M2;cases hf:n.a0.find? (H1 q) with
  | none =>
    have:n.a0.any (H1 q)=false:=by
      rw [f0A];intro x hx;exact List.find?_eq_none.1 hf x hx
    rw [this];rfl
  | some x =>
    have:n.a0.any (H1 q)=true:=f1b.2 ⟨x,f1u hf,List.find?_some hf⟩;rw [this];rfl
def a0M(id:Int)(m:j8)(o:List j8)(t:Int):List j8:=bif t != id then o++[{m with c8:=id,To:=t}] else o
theorem c64(id:Int)(m:j8)(o:List j8)(t:Int):(a0M id m o t).length<=o.length+1:=by
 unfold a0M;cases t != id<;>simp
theorem a6D{id:Int}(hid:0<=id/\id<=2){m:j8}(h:a0b m):a2C id m=some (H2 id m):=by
 have e:∀(o:List j8) (t:Int),o.length<=3->0<=t->t<3->a4V id m o t=some (.nxt (a0M id m o t,t+1)):=by
  intro o t ho ht0 ht;unfold a4V c3D a0M;rw [show decide (t<3)=true by simpa using ht,cond_true,b4a h,e9J,t9 (by omega),B9 (by omega) (by omega)];cases t != id<;>rfl
 have l1:=c64 id m [] 0;have l2:=c64 id m (a0M id m [] 0) (0+1);have h0:=E1 (body:=fun s:(List j8)×Int=>a4V id m s.1 s.2) (s:=([],0)) (e [] 0 (by simp) (by omega) (by omega));have h1:=E1 (body:=fun s:(List j8)×Int=>a4V id m s.1 s.2) (s:=(a0M id m [] 0,0+1)) (e (a0M id m [] 0) (0+1) (by simp at l1;omega) (by omega) (by omega));have h2:=E1 (body:=fun s:(List j8)×Int=>a4V id m s.1 s.2) (s:=(a0M id m (a0M id m [] 0) (0+1),0+1+1)) (e (a0M id m (a0M id m [] 0) (0+1)) (0+1+1) (by simp at l1;omega) (by omega) (by omega));have h3:=C6 (body:=fun s:(List j8)×Int=>a4V id m s.1 s.2) (s:=(a0M id m (a0M id m (a0M id m [] 0) (0+1)) (0+1+1),0+1+1+1)) (show a4V id m _ (0+1+1+1)=_ from rfl);unfold a2C;rw [h0,h1,h2,h3];obtain rfl|rfl|rfl:id=0\/id=1\/id=2:=by omega
 all_goals rfl
theorem c4H:∀(l:List Bool) (hl:t8 l) (m k:Nat) (c:Int),k+m=l.length->0<=c->c<=k->p8 (fun s:Int×Int=>a4N l s.1 s.2) (c,(k:Int))=some (.brk (c+(((l.drop k).filter (· == true)).length:Int)))
 | l,hl,0,k,c,hk,h0,h1=>by
  have:k=l.length:=by omega
  subst this;refine C6 ?_;show a4N l c (l.length:Int)=_
  unfold a4N;rw [A4];simp
 | l,hl,m+1,k,c,hk,h0,h1=>by
  have hlt:k<l.length:=by omega
  have hfl:(l.length:Int)<=140737488351232:=by have:=hl;unfold t8 at this;omega
  have hb:a4N l c (k:Int)=some (.nxt (c+(bif l[k] then 1 else 0),((k+1:Nat):Int))):=by
   unfold a4N b8S;rw [x8 _ k hlt,u0 hlt,cond_true,e9J,F3 hl hlt];cases l[k]<;>simp only [cond_true,cond_false,e9J]<;>rw [B9 (by omega) (by omega)]
  rw [E1 (body:=fun s:Int×Int=>a4N l s.1 s.2) hb,c4H l hl m (k+1) _ (by omega) (by cases l[k]<;>simp<;>omega) (by cases l[k]<;>simp<;>omega),e97 hlt];cases l[k]<;>simp
  omega
theorem d3y{l:List Bool}(h:t8 l):b0H l=some (M1 l):=by
 unfold b0H;rw [show p8 (fun s:Int×Int=>a4N l s.1 s.2) (0,0)=_ from c4H l h l.length 0 0 (by omega) (by omega) (by omega)];simp only [e9J,l9.go,c2U,M1,f0N];congr 1
 simp;omega
theorem d9j{l:List m7}{s:Int}(h:z7 96 R2 l)(hl:l.length<=40)(hs:0<=s/\s<=40):b5o l s=some (e9L s.toNat v0++l):=by
 unfold b5o;rw [t9 (by omega),b6u h,e9J,t9 (by simp;omega)];rfl
theorem a7o:∀a b:List m7,(C8 a b).length=max a.length b.length
 | [],b=>by simp [C8]
 | x::a,[]=>by simp [C8]
 | x::a,y::b=>by simp only [C8,f0w,a7o a b];omega
theorem b0c:∀(a b:List m7) (k:Nat),(C8 a b)[k]?=match a[k]?,b[k]? with
  | some x,some y=>some (bif decide (y.a7>x.a7) then y else x)
  | some x,none=>some x
  | none,some y=>some y
  | none,none=>none
 | [],b,k=>by simp [C8];cases b[k]?<;>rfl
 | x::a,[],k=>by simp [C8];cases (x::a)[k]?<;>rfl
 | x::a,y::b,0=>by simp [C8]
 | x::a,y::b,k+1=>by simp only [C8,f0I];exact b0c a b k
theorem a8Z{a b:List m7}{v:m7}(h:v∈C8 a b):v∈a\/v∈b:=by
 obtain ⟨k,hk⟩:=f05 h;rw [b0c] at hk;cases ha:a[k]? with
 | none =>
  cases hb:b[k]? with
  | none=>rw [ha,hb] at hk;cases hk
  | some y=>rw [ha,hb] at hk;injection hk with hk;subst hk;exact .inr (e9W hb)
 | some x =>
  cases hb:b[k]? with
  | none=>rw [ha,hb] at hk;injection hk with hk;subst hk;exact .inl (e9W ha)
  | some y =>
   rw [ha,hb] at hk;simp only at hk;cases hd:decide (y.a7>x.a7)
   ·rw [hd] at hk;injection hk with hk;subst hk;exact .inl (e9W ha)
   ·rw [hd] at hk;injection hk with hk;subst hk;exact .inr (e9W hb)
end
end Go.Proofs.YtaffmjifackfgaaGreat
