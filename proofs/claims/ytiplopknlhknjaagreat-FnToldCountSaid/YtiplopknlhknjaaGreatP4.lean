/- Abstract values and states of the program, functions of the program and what their calls come to, and what follows from it: part 4 of the text that the law leans on; long names are written short. -/
import Derived.Test.YtiplopknlhknjaaGreatP3
import Derived.IntWalk
set_option linter.unusedVariables false
set_option linter.unusedSimpArgs false
set_option linter.unnecessarySimpa false
namespace Go.Proofs.YtiplopknlhknjaaGreat
open Go
open Option renaming bind_some → e8C, map_some → e9w, getD_some → e9D, map_eq_some_iff → e9K
open List renaming getElem?_eq_getElem → e8D, replicate → e8E, getElem_mem → e8F, getElem?_eq_some_iff → e8I, mem_singleton → e8J, mem_cons → e8K, nodup_append → e8L, range → e8M, eq_nil_of_length_eq_zero → e8N, length_append → e8O, mem_of_getElem? → e8P, getD_eq_getElem?_getD → e8Q, append_assoc → e8R, drop_eq_nil_of_le → e8S, getElem?_append_right → e8T, getElem?_set_ne → e8U, drop_eq_getElem_cons → e8X, getElem?_append_left → e8Y, flatten_cons → e8Z, length_take → e83, map_cons → e84, take_length → e85, take_of_length_le → e86, take_succ_eq_append_getElem → e87, getElem?_eq_none → e88, append_nil → e9b, take_append_of_le_length → e9c, pairwise_iff_getElem → e9d, take_zero → e9e, mem_replicate → e9f, nil_append → e9g, mem_of_mem_drop → e9i, mem_of_mem_take → e9j, length_cons → e9l, mem_flatten → e9m, take_append_drop → e9n, getElem?_map → e9o, any_eq_false → e9p, length_map → e9r, getElem_of_mem → e9s, mem_range → e9u, getElem?_set_self → e9v, nodup_cons → e9x, length_singleton → e9z, findIdx?_eq_some_iff_getElem → e9C, drop_zero → e9F, pairwise_cons → e9G, map_append → e9H, getElem?_cons_succ → e9I, length_set → e9N, sublist_append_right → e9P, getElem?_of_mem → e9Q, pairwise_append → e9R, mem_take_iff_getElem → e9S, Perm → e9U, drop_drop → e9V, any_eq_true → e9W, take_succ_cons → e9X, replicate_succ → e9Y, getElem?_cons_zero → e9Z, getElem?_take → e90, foldl_cons → e91, length_nil → e92, drop_append_of_le_length → e93, size_toArray → e94, all_eq_false → e95, toArray → e96, map_map → e97, Sublist → e98, set_getElem_self → f0a, cons_append → f0c, mem_cons_of_mem → f0e, flatten_append → f0f, foldl_nil → f0g
open Bool renaming and_eq_true → e8G, not_true → e8H, true_and → e8V, not_false → e8W, false_or → e9a, not_eq_true' → e9t, false_eq_true → e9A, and_true → e9B, or_eq_false_iff → e9T, and_assoc → e99, true_or → f0b
open Nat renaming mul_le_mul_right → e80, eq_of_beq_eq_true → e89, le_refl → e9h, zero_add → e9k, succ_mul → e9q, lt_of_lt_of_le → e9E, le_mul_of_pos_right → e9J, zero_le → e9L, add_zero → e9M, le_succ_of_le → e9O
open Int renaming tmod → e81, toNat_natCast → e82, tdiv → f0d
open Option.some renaming inj → e9y
noncomputable section
def e0r(s_:u6)(e_:m4)(box:List q8)(v45:Int):Unit->KS:=fun _=>⟨O4.k 8 [false,false,true,false],(bs 2 (.ptr 1 0 0::(.ptr 2 0 0::(.ptr 3 0 0::(bs 1 (.ptr 4 0 0::(bs 36 (j9 4 A8 s_.i9::(vi (s_.i9.length:Int)::(vi v45::(bs 106 []))))))))))),[some [],some [.var 147 [vi s_.At,j9 2 x8 s_.g8,j9 4 A8 s_.i9]],some [.var 51 (a3x e_)],some [.var 147 [vi 0,.nil,.nil]],some [.var 147 [vi (m7 (s_.At+1)),.own 5 0 2 0 box.length,.nil]],some [l9 172 2 x8 box]]⟩
def b9Z(v45:Int):Option (l7 (u6×Int) Int Unit) :=
 some (l7.nxt (m7 (v45+1)))
theorem d8S(s_ e_ box v45)(lc:H8 O4 (c0L s_ e_ box) (d2B s_ e_ box)):NL lc (e0r s_ e_ box v45) (fun s=>b9Z v45):=fun _ h=>PK<|rg<|(lc.nx h fun hI=>sk [] [2,3,4,6,43,44,45] [(1,0),(2,0),(3,0),(4,0),(5,0)] hI)
def b7v(s_:u6)(e_:m4)(box:List q8)(v45:Int):Option (l7 (u6×Int) Int Unit) :=
 (bif decide (v45<(s_.i9.length:Int)) then ((idx s_.i9 v45).bind fun b4v=>(((bif (b4v.a0.d6==e_.a0.d6) then (bif decide (b4v.a0.Seq>=e_.a0.Seq) then ((a4B s_.i9).bind fun b0Y=>(bif (b4v.a0.Seq==e_.a0.Seq) then some (l8.ret (l7.ret ((u6.mk (m7 (s_.At+1)) box b0Y),3))) else some (l8.ret (l7.ret ((u6.mk (m7 (s_.At+1)) box b0Y),4))))) else some (l8.brk ())) else some (l8.brk ())):Option (l8 (l7 (u6×Int) Int Unit) Unit)).bind fun x=>x.go some fun j=>b9Z v45)) else some (l7.brk ()))
theorem d4y(s_ e_ box):LQ O4 (c0L s_ e_ box) (d2B s_ e_ box) (fun s=>b7v s_ e_ box s):=fun lc v45 h=>PK<|rg<|j4 0 h (fun h=>rg<|v5 A8 0 h fun b4v e8x h=>B0 h (d8S s_ e_ box v45 lc) fun x2 h hc2=>rg<|j4 7 h (fun h=>j4 15 h (fun h=>rg<|j8 a99 b9y 2 h fun b0Y h=>rg<|j4 6 h (fun h=>rg<|(B4 h hc2 fun h=>B8 box b0Y<|fL lc h)) (fun h=>rg<|(B4 h hc2 fun h=>B8 box b0Y<|fL lc h))) (fun h=>(o6 h hc2 fun hI=>sk [] [2,3,4,6,43,44,45] [(1,0),(2,0),(3,0),(4,0),(5,0)] hI))) (fun h=>(o6 h hc2 fun hI=>sk [] [2,3,4,6,43,44,45] [(1,0),(2,0),(3,0),(4,0),(5,0)] hI))) (fun h=>(lc.bk h fun hI=>sk [] [2,3,4,6] [(1,0),(2,0),(3,0),(4,0),(5,0)] hI))
def b68(s_:u6)(e_:m4):Option (u6×Int) :=
 ((b3l s_).bind fun d1B=>(bif (!d1B) then some ((u6.mk 0 [] []),(-1)) else ((a1j e_).bind fun C8=>(bif (!C8) then some ((u6.mk 0 [] []),(-1)) else (bif (s_.At==40) then some ((u6.mk 0 [] []),(-1)) else ((a9P s_.g8).bind fun box=>(bif e_.i8 then ((a4B s_.i9).bind fun done=>some ((u6.mk (m7 (s_.At+1)) box done),5)) else ((o9 (fun s:Int=>b7v s_ e_ box s) 0).bind fun x=>x.go (fun r=>some r) fun s=>b4D s_ e_ box))))))))
theorem e60{s_ e_}:OK O4 [.agg (a7g s_),.agg (s8 e_)] (b68 s_ e_) :=
 n7 _ fun r h=>n5<|j8 a35 e74 1 h fun d1B h=>j4 3 h (fun h=>rg<|fE h) (fun h=>j8 a2u a3d 5 h fun C8 h=>j4 8 h (fun h=>rg<|fE h) (fun h=>j4 12 h (fun h=>rg<|fE h) (fun h=>rg<|j8 b8k c7v 5 h fun box h=>rg<|j4 1 h (fun h=>rg<|j8 a99 b9y 2 h fun done h=>rg<|B8 box done<|fE h) (fun h=>rg<|lp (d4y s_ e_ box) h (fun _ h=>O4.rt h) (e2x s_ e_ box r) fun hI=>sk [] [2,3,4,6,43,44,45] [(1,0),(2,0),(3,0),(25,0),(23,0)] hI))))
def a3S:FS (u6×List Int):=⟨182,Tryz.f182,[.val [none,some 2,some 4] [none,some 172,some 202],.val [some 1] [some 3]],[none],[.val [some 7] []],fun r=>.tup [.agg (b1N r.1),t7 3 1 eI r.2],fun _=>[none],Tryz.func182⟩
def d1u:((List q8)×(List q9)×(List Int)×Int)->KS:=fun (Boxes1,Dones1,codes1,sAt1)=>⟨a3S.k 5 [false],(bs 2 (.ptr 1 0 0::(bs 1 (.ptr 2 0 0::(.own 5 0 1 0 codes1.length::(bs 25 [])))))),[some [],some [.var 147 [vi 0,.nil,.nil]],some [.var 147 [vi sAt1,.own 3 0 2 0 Boxes1.length,.own 4 0 4 0 Dones1.length]],some [l9 172 2 x8 Boxes1],some [l9 202 4 A8 Dones1],some [l9 3 1 eI codes1]]⟩
def d2G(Boxes1:List q8)(Dones1:List q9)(codes1:List Int)(sAt1:Int):Option (u6×List Int) :=
 some ((u6.mk sAt1 Boxes1 Dones1),codes1)
theorem e1F(r):NF a3S r d1u (fun s=>d2G s.1 s.2.1 s.2.2.1 s.2.2.2):=fun (Boxes1,Dones1,codes1,sAt1) h=>PK<|rg<|U5 Boxes1 Dones1 codes1<|fE h
def d6I(list:List m4):((List q8)×(List q9)×(List Int)×Int×Int)->KS:=fun (g8,i9,codes,v13,sAt)=>⟨a3S.k 4 [],(bs 2 (.ptr 1 0 0::(bs 1 (.ptr 2 0 0::(.own 5 0 1 0 codes.length::(bs 5 (j9 7 s8 list::(vi (list.length:Int)::(vi v13::(bs 17 [])))))))))),[some [],some [.var 147 [vi 0,.nil,.nil]],some [.var 147 [vi sAt,.own 3 0 2 0 g8.length,.own 4 0 4 0 i9.length]],some [l9 172 2 x8 g8],some [l9 202 4 A8 i9],some [l9 3 1 eI codes]]⟩
def a0K(list:List m4)(g8:List q8)(i9:List q9)(codes:List Int)(v13:Int)(sAt:Int):Option (l7 (u6×List Int) ((List q8)×(List q9)×(List Int)×Int×Int) ((List q8)×(List q9)×(List Int)×Int)) :=
 (bif decide (v13<(list.length:Int)) then ((idx list v13).bind fun entry=>((b68 (u6.mk sAt g8 i9) entry).bind fun a7P=>(s7 ((codes.length+1)*8<=140737488355328) (some (l7.nxt (a7P.1.g8,a7P.1.i9,codes++[a7P.2],m7 (v13+1),a7P.1.At)))))) else some (l7.brk (g8,i9,codes,sAt)))
theorem e2k(list):LQ a3S d1u (d6I list) (fun s=>a0K list s.1 s.2.1 s.2.2.1 s.2.2.2.1 s.2.2.2.2):=fun lc (g8,i9,codes,v13,sAt) h=>PK<|rg<|j4 0 h (fun h=>rg<|v5 s8 0 h fun entry G9 h=>rg<|cbS O4 e60 2 (fun _=>(by simp [O4,K6,S9,N5,V.simple,vi,t7,b1N,x8,A8,eI,Y5,a7g])) (fun _=>(P1 2)) h fun a7P h=>B8 g8 i9<|n5<|tk 2 []<|s9 h fun e1 h=>E8 3 25 3 1 8 eI codes a7P.2 e1<|D8 a7P.2<|rg<|(lc.nx h fun hI=>sk [] [2,4,5,11,12,13] [(1,0),(2,0),(13,0),(13,1),(25,0)] hI)) (fun h=>(lc.bk h fun hI=>sk [] [2,4,5] [(1,0),(2,0),(3,0),(4,0),(5,0)] hI))
def b02(list:List m4):Option (u6×List Int) :=
 ((b7i).bind fun a0q=>((o9 (fun s:(List q8)×(List q9)×(List Int)×Int×Int=>a0K list s.1 s.2.1 s.2.2.1 s.2.2.2.1 s.2.2.2.2) (a0q.g8,a0q.i9,[],0,a0q.At)).bind fun x=>x.go (fun r=>some r) fun s=>d2G s.1 s.2.1 s.2.2.1 s.2.2.2))
theorem d1i{list}:OK a3S [j9 7 s8 list] (b02 list) :=
 n7 _ fun r h=>n5<|j8 c9S d9A 0 h fun a0q h=>n5<|lp (e2k list) h (fun _ h=>a3S.rt h) (e1F r) fun hI=>sk [.own (.tmp 5) 3 1] [2,4,5,11,12,13] [(1,0),(4,0),(3,0),(3,1),(10,0)] hI
def c54:FS (u6):=⟨163,Tryz.f163,[.val [none,some 2,some 4] [none,some 172,none]],[none],[.val [some 7] []],fun r=>.agg (a9U r),fun _=>[none],Tryz.func163⟩
def b24(list:List m4):Option u6 :=
 ((b0x list).bind fun I3=>(bif (!I3) then some (u6.mk 0 [] []) else ((b02 list).bind fun z5=>some z5.1)))
theorem e3n{list}:OK c54 [j9 7 s8 list] (b24 list) :=
 n7 _ fun r h=>n5<|j8 a42 c4P 1 h fun I3 h=>j4 2 h (fun h=>rg<|fE h) (fun h=>rg<|j8 a3S d1i 1 h fun z5 h=>rg<|B8 z5.1.g8 z5.1.i9<|fE h)
def c62:FS (u6):=⟨121,Tryz.f121,[.val [none,some 2,some 4] []],[none],[.val A0 []],fun r=>.agg (a7g r),fun _=>[none],Tryz.func121⟩
def b6b(n:j5):Option u6 :=
 ((a3m n).bind fun C5=>(bif (!C5) then some (u6.mk 0 [] []) else ((b24 n.a6).bind fun a7J=>some a7J)))
theorem e8d{n}:OK c62 [.agg (z9 n)] (b6b n) :=
 n7 _ fun r h=>n5<|j8 a0g a64 1 h fun C5 h=>j4 2 h (fun h=>rg<|fE h) (fun h=>rg<|j8 c54 e3n 2 h fun a7J h=>s4 a7J.g8<|fE h)
def a5M:FS (Int):=⟨161,Tryz.f161,[.val [] []],[none,none],[.val M7 [],.val [] []],fun r=>vi r,fun _=>[none,none],Tryz.func161⟩
def c8K:Unit->KS:=fun _=>⟨a5M.k 3 [false],(bs 21 []),[some []]⟩
def d1r:Option Int :=
 some (-1)
theorem e3K(r):NF a5M r c8K (fun s=>d1r):=fun _ h=>PK<|rg<|fE h
def d58(r_:m9)(box:Int):Int->KS:=fun v10=>⟨a5M.k 2 [],(bs 1 (vi box::(bs 6 (j9 2 t9 r_.b7::(vi (r_.b7.length:Int)::(vi v10::(bs 10 []))))))),[some []]⟩
def b0h(r_:m9)(box:Int)(v10:Int):Option (l7 Int Int Unit) :=
 (bif decide (v10<(r_.b7.length:Int)) then ((idx r_.b7 v10).bind fun put=>(bif (put.i6==box) then some (l7.ret v10) else some (l7.nxt (m7 (v10+1))))) else some (l7.brk ()))
theorem e5s(r_ box):LQ a5M c8K (d58 r_ box) (fun s=>b0h r_ box s):=fun lc v10 h=>PK<|rg<|j4 0 h (fun h=>rg<|v5 t9 1 h fun put hput h=>rg<|j4 3 h (fun h=>rg<|fL lc h) (fun h=>rg<|(lc.nx h fun hI=>sk [] [1,8,9,10] [] hI))) (fun h=>(lc.bk h fun hI=>sk [] [] [] hI))
def a91(r_:m9)(box:Int):Option Int :=
 ((o9 (fun s:Int=>b0h r_ box s) 0).bind fun x=>x.go (fun r=>some r) fun s=>d1r)
theorem c3a{r_ box}:OK a5M [.agg (O6 r_),vi box] (a91 r_ box) :=
 n7 _ fun r h=>n5<|lp (e5s r_ box) h (fun _ h=>a5M.rt h) (e3K r) fun hI=>sk [] [1,8,9,10] [] hI
def a7U:FS (Int):=⟨162,Tryz.f162,[.val [] []],[none,none],[.val M7 [],.val [] []],fun r=>vi r,fun _=>[none,none],Tryz.func162⟩
def c3m:Unit->KS:=fun _=>⟨a7U.k 3 [false],(bs 21 []),[some []]⟩
def c58:Option Int :=
 some (-1)
theorem d7Z(r):NF a7U r c3m (fun s=>c58):=fun _ h=>PK<|rg<|fE h
def d5F(r_:m9)(box:Int):Int->KS:=fun v10=>⟨a7U.k 2 [],(bs 1 (vi box::(bs 6 (j9 2 t8 r_.b5::(vi (r_.b5.length:Int)::(vi v10::(bs 10 []))))))),[some []]⟩
def b2K(r_:m9)(box:Int)(v10:Int):Option (l7 Int Int Unit) :=
 (bif decide (v10<(r_.b5.length:Int)) then ((idx r_.b5 v10).bind fun read=>(bif (read.i6==box) then some (l7.ret v10) else some (l7.nxt (m7 (v10+1))))) else some (l7.brk ()))
theorem d4A(r_ box):LQ a7U c3m (d5F r_ box) (fun s=>b2K r_ box s):=fun lc v10 h=>PK<|rg<|j4 0 h (fun h=>rg<|v5 t8 1 h fun read a2O h=>rg<|j4 3 h (fun h=>rg<|fL lc h) (fun h=>rg<|(lc.nx h fun hI=>sk [] [1,8,9,10] [] hI))) (fun h=>(lc.bk h fun hI=>sk [] [] [] hI))
def b0n(r_:m9)(box:Int):Option Int :=
 ((o9 (fun s:Int=>b2K r_ box s) 0).bind fun x=>x.go (fun r=>some r) fun s=>c58)
theorem e2j{r_ box}:OK a7U [.agg (O6 r_),vi box] (b0n r_ box) :=
 n7 _ fun r h=>n5<|lp (d4A r_ box) h (fun _ h=>a7U.rt h) (d7Z r) fun hI=>sk [] [1,8,9,10] [] hI
def O0:FS (m9):=⟨120,Tryz.f120,[.val M7 []],[none,none],[.val [some 2] [],.val [some 4] []],fun r=>.agg (O6 r),fun _=>[none,none],Tryz.func120⟩
def a73:((List p7)×(List n8)×(List Int)×(List p7)×List n8)->KS:=fun (Reads2,Puts2,regs1,Reads3,Puts3)=>⟨O0.k 6 [false,false],(bs 4 (.ptr 1 0 0::(.ptr 4 0 0::(.ptr 5 0 0::(bs 175 []))))),[some [],some [.var 49 [.own 2 0 2 0 Reads2.length,.own 3 0 2 0 Puts2.length,vi 0,vi 0]],some [l9 155 2 t8 Reads2],some [l9 158 2 t9 Puts2],some [.arr 169 1 4 (regs1.map eI)],some [.var 49 [.own 6 0 2 0 Reads3.length,.own 7 0 2 0 Puts3.length,vi 0,vi 0]],some [l9 155 2 t8 Reads3],some [l9 158 2 t9 Puts3]]⟩
def b0p(Reads2:List p7)(Puts2:List n8)(regs1:List Int)(Reads3:List p7)(Puts3:List n8):Option m9 :=
 ((a1W Reads3).bind fun read=>((a6F Puts3).bind fun put=>((idx regs1 0).bind fun y=>(s7 ((0:Int)<4) (some (m9.mk read put y 0))))))
theorem e6S(r):NF O0 r a73 (fun s=>b0p s.1 s.2.1 s.2.2.1 s.2.2.2.1 s.2.2.2.2):=fun (Reads2,Puts2,regs1,Reads3,Puts3) h=>PK<|rg<|cbS a1N a8x 2 (fun _=>(by simp [a1N,K6,S9,N5,V.simple,vi,t7,eI,t8])) (fun _=>(P1 1)) h fun read h=>s4 Reads3<|cbS b7d c8n 5 (fun _=>(by simp [b7d,K6,S9,N5,V.simple,vi,t7,eI,t9])) (fun _=>(P1 1)) h fun put h=>s4 Puts3<|A4 h fun y hy h=>s9 h fun e1 h=>ob (M6 hy)<|ob e1<|ob (R8 (enc:=eI) hy)<|tl (tr 7 (eI y))<|B8 read put<|fE h
def a9E(list:List q8)(prog:List o8):((List Int)×(List p7)×(List n8)×(List p7)×(List n8)×Int)->KS:=fun (regs,b5,b7,Reads1,Puts1,at_)=>⟨O0.k 5 [false],(j9 2 x8 list::(j9 4 z0 prog::(bs 2 (.ptr 1 0 0::(.ptr 2 0 0::(.ptr 3 0 0::(vi at_::(bs 174 [])))))))),[some [],some [.var 49 [.own 4 0 2 0 b5.length,.own 5 0 2 0 b7.length,vi 0,vi 0]],some [.arr 169 1 4 (regs.map eI)],some [.var 49 [.own 6 0 2 0 Reads1.length,.own 7 0 2 0 Puts1.length,vi 0,vi 0]],some [l9 155 2 t8 b5],some [l9 158 2 t9 b7],some [l9 155 2 t8 Reads1],some [l9 158 2 t9 Puts1]]⟩
def d1h(list:List q8)(prog:List o8)(regs:List Int)(b5:List p7)(b7:List n8)(Reads1:List p7)(Puts1:List n8)(at_:Int)(ins:o8)(put1:n8):Unit->KS:=fun _=>⟨O0.k 14 [false,true,true,true,false],(j9 2 x8 list::(j9 4 z0 prog::(bs 2 (.ptr 1 0 0::(.ptr 4 0 0::(.ptr 5 0 0::(vi at_::(bs 174 [])))))))),[some [],some [.var 49 [.own 2 0 2 0 b5.length,.own 3 0 2 0 b7.length,vi 0,vi 0]],some [l9 155 2 t8 b5],some [l9 158 2 t9 b7],some [.arr 169 1 4 ((regs.set ins.A.toNat put1.f0).map eI)],some [.var 49 [.own 6 0 2 0 Reads1.length,.own 7 0 2 0 Puts1.length,vi 0,vi 0]],some [l9 155 2 t8 Reads1],some [l9 158 2 t9 Puts1]]⟩
def c2p(regs:List Int)(b5:List p7)(b7:List n8)(Reads1:List p7)(Puts1:List n8)(at_:Int)(ins:o8)(put1:n8):Option (l7 m9 ((List Int)×(List p7)×(List n8)×(List p7)×(List n8)×Int) ((List p7)×(List n8)×(List Int)×(List p7)×List n8)) :=
 some (l7.nxt (regs.set ins.A.toNat put1.f0,b5,b7,Reads1,Puts1,m7 (at_+1)))
theorem d4O(list prog regs b5 b7 Reads1 Puts1 at_ ins put1)(lc:H8 O0 a73 (a9E list prog)):NL lc (d1h list prog regs b5 b7 Reads1 Puts1 at_ ins put1) (fun s=>c2p regs b5 b7 Reads1 Puts1 at_ ins put1):=fun _ h=>PK<|rg<|(lc.nx h fun hI=>sk [] [0,1,4,5,6,7] [(1,0),(4,0),(5,0),(2,0),(3,0),(6,0),(7,0)] hI)
def d9Z(list:List q8)(prog:List o8)(regs:List Int)(b5:List p7)(b7:List n8)(Reads1:List p7)(Puts1:List n8)(at_:Int)(ins:o8)(put1:n8):Int->KS:=fun a45=>⟨O0.k 13 [false,true,true,true],(j9 2 x8 list::(j9 4 z0 prog::(bs 2 (.ptr 1 0 0::(.ptr 4 0 0::(.ptr 5 0 0::(vi at_::(bs 153 (.agg ((regs.set ins.A.toNat put1.f0).map eI).flatten::(vi a45::(bs 19 []))))))))))),[some [],some [.var 49 [.own 2 0 2 0 b5.length,.own 3 0 2 0 b7.length,vi 0,vi 0]],some [l9 155 2 t8 b5],some [l9 158 2 t9 b7],some [.arr 169 1 4 ((regs.set ins.A.toNat put1.f0).map eI)],some [.var 49 [.own 6 0 2 0 Reads1.length,.own 7 0 2 0 Puts1.length,vi 0,vi 0]],some [l9 155 2 t8 Reads1],some [l9 158 2 t9 Puts1]]⟩
def a95(regs:List Int)(Reads1:List p7)(ins:o8)(put1:n8)(a45:Int):Option (l7 m9 Int Unit) :=
 (bif decide (a45<4) then ((idx (regs.set ins.A.toNat put1.f0) a45).bind fun y2=>(s7 (a45<4) (((C0 y2 (-1000000) 1000000).bind fun in_=>(bif (!in_) then ((a1W Reads1).bind fun P8=>some (l7.ret (m9.mk P8 [] 0 2))) else some (l7.nxt (m7 (a45+1)))))))) else some (l7.brk ()))
theorem d5S(list prog regs b5 b7 Reads1 Puts1 at_ ins put1):LQ O0 (d1h list prog regs b5 b7 Reads1 Puts1 at_ ins put1) (d9Z list prog regs b5 b7 Reads1 Puts1 at_ ins put1) (fun s=>a95 regs Reads1 ins put1 s):=fun lc a45 h=>PK<|rg<|j4 0 h (fun h=>rg<|A4 h fun y2 hy2 h=>s9 h fun e3 h=>ob (M6 hy2)<|ob e3<|om (((regs.set ins.A.toNat put1.f0).map eI).flatten[a45.toNat]?=some (vi y2)) (c0Y (fun _=>rfl) hy2)<|tl (0,{a:=.val (vi y2)})<|rg<|j8 B9 D1 1 h fun in_ h=>j4 2 h (fun h=>rg<|cbS a1N a8x 2 (fun _=>(by simp [a1N,K6,S9,N5,V.simple,vi,t7,eI,t8])) (fun _=>(P1 1)) h fun P8 h=>B8 Reads1 P8<|fL lc h) (fun h=>rg<|(lc.nx h fun hI=>om (V.agg (((regs.set ins.A.toNat put1.f0).map eI).flatten.map (T2 [(1,0),(2,0),(3,0),(4,0),(5,0),(6,0),(7,0)]))=.agg ((regs.set ins.A.toNat put1.f0).map eI).flatten) (congrArg V.agg (a7j (fun _=>rfl) _))<|skT [] [0,1,4,5,6,7,161,162] [(1,0),(2,0),(3,0),(4,0),(5,0),(6,0),(7,0)] [(161,.agg ((regs.set ins.A.toNat put1.f0).map eI).flatten)] hI))) (fun h=>(lc.bk h fun hI=>sk [] [0,1,4,5,6,7] [(1,0),(2,0),(3,0),(4,0),(5,0),(6,0),(7,0)] hI))
def d9C(list:List q8)(prog:List o8)(regs:List Int)(b5:List p7)(b7:List n8)(Puts1:List n8)(at_:Int)(ins:o8):(List p7)->KS:=fun Reads4=>⟨O0.k 13 [false,true,true,false,true],(j9 2 x8 list::(j9 4 z0 prog::(bs 2 (.ptr 1 0 0::(.ptr 4 0 0::(.ptr 5 0 0::(vi at_::(.ptr 8 0 0::(bs 173 []))))))))),[some [],some [.var 49 [.own 2 0 2 0 b5.length,.own 3 0 2 0 b7.length,vi 0,vi 0]],some [l9 155 2 t8 b5],some [l9 158 2 t9 b7],some [.arr 169 1 4 (regs.map eI)],some [.var 49 [.own 6 0 2 0 Reads4.length,.own 7 0 2 0 Puts1.length,vi 0,vi 0]],some [l9 155 2 t8 Reads4],some [l9 158 2 t9 Puts1],some [.var 74 [vi ins.a7,vi ins.A,vi ins.B,vi ins.N]]]⟩
def c3q(list:List q8)(prog:List o8)(regs:List Int)(b5:List p7)(b7:List n8)(Puts1:List n8)(at_:Int)(ins:o8)(Reads4:List p7)(box:q8):Unit->KS:=fun _=>⟨O0.k 16 [false,true,true,false,true,false],(j9 2 x8 list::(j9 4 z0 prog::(bs 2 (.ptr 1 0 0::(.ptr 4 0 0::(.ptr 5 0 0::(vi at_::(bs 174 [])))))))),[some [],some [.var 49 [.own 2 0 2 0 b5.length,.own 3 0 2 0 b7.length,vi 0,vi 0]],some [l9 155 2 t8 b5],some [l9 158 2 t9 b7],some [.arr 169 1 4 ((regs.set ins.A.toNat box.f0).map eI)],some [.var 49 [.own 6 0 2 0 Reads4.length,.own 7 0 2 0 Puts1.length,vi 0,vi 0]],some [l9 155 2 t8 Reads4],some [l9 158 2 t9 Puts1]]⟩
def b37(regs:List Int)(b5:List p7)(b7:List n8)(Puts1:List n8)(at_:Int)(ins:o8)(Reads4:List p7)(box:q8):Option (l7 m9 ((List Int)×(List p7)×(List n8)×(List p7)×(List n8)×Int) ((List p7)×(List n8)×(List Int)×(List p7)×List n8)) :=
 some (l7.nxt (regs.set ins.A.toNat box.f0,b5,b7,Reads4,Puts1,m7 (at_+1)))
theorem d3C(list prog regs b5 b7 Puts1 at_ ins Reads4 box)(lc:H8 O0 a73 (a9E list prog)):NL lc (c3q list prog regs b5 b7 Puts1 at_ ins Reads4 box) (fun s=>b37 regs b5 b7 Puts1 at_ ins Reads4 box):=fun _ h=>PK<|rg<|(lc.nx h fun hI=>sk [] [0,1,4,5,6,7] [(1,0),(4,0),(5,0),(2,0),(3,0),(6,0),(7,0)] hI)
def e38(list:List q8)(prog:List o8)(regs:List Int)(b5:List p7)(b7:List n8)(Puts1:List n8)(at_:Int)(ins:o8)(Reads4:List p7)(box:q8):Int->KS:=fun a6c=>⟨O0.k 15 [false,true,true,false,true],(j9 2 x8 list::(j9 4 z0 prog::(bs 2 (.ptr 1 0 0::(.ptr 4 0 0::(.ptr 5 0 0::(vi at_::(bs 153 (.agg ((regs.set ins.A.toNat box.f0).map eI).flatten::(vi a6c::(bs 19 []))))))))))),[some [],some [.var 49 [.own 2 0 2 0 b5.length,.own 3 0 2 0 b7.length,vi 0,vi 0]],some [l9 155 2 t8 b5],some [l9 158 2 t9 b7],some [.arr 169 1 4 ((regs.set ins.A.toNat box.f0).map eI)],some [.var 49 [.own 6 0 2 0 Reads4.length,.own 7 0 2 0 Puts1.length,vi 0,vi 0]],some [l9 155 2 t8 Reads4],some [l9 158 2 t9 Puts1]]⟩
def b2E(regs:List Int)(ins:o8)(Reads4:List p7)(box:q8)(a6c:Int):Option (l7 m9 Int Unit) :=
 (bif decide (a6c<4) then ((idx (regs.set ins.A.toNat box.f0) a6c).bind fun y4=>(s7 (a6c<4) (((C0 y4 (-1000000) 1000000).bind fun in_1=>(bif (!in_1) then ((a1W Reads4).bind fun c0e=>some (l7.ret (m9.mk c0e [] 0 2))) else some (l7.nxt (m7 (a6c+1)))))))) else some (l7.brk ()))
theorem e1p(list prog regs b5 b7 Puts1 at_ ins Reads4 box):LQ O0 (c3q list prog regs b5 b7 Puts1 at_ ins Reads4 box) (e38 list prog regs b5 b7 Puts1 at_ ins Reads4 box) (fun s=>b2E regs ins Reads4 box s):=fun lc a6c h=>PK<|rg<|j4 0 h (fun h=>rg<|A4 h fun y4 hy4 h=>s9 h fun e5 h=>ob (M6 hy4)<|ob e5<|om (((regs.set ins.A.toNat box.f0).map eI).flatten[a6c.toNat]?=some (vi y4)) (c0Y (fun _=>rfl) hy4)<|tl (0,{a:=.val (vi y4)})<|rg<|j8 B9 D1 1 h fun in_1 h=>j4 2 h (fun h=>rg<|cbS a1N a8x 2 (fun _=>(by simp [a1N,K6,S9,N5,V.simple,vi,t7,eI,t8])) (fun _=>(P1 1)) h fun c0e h=>B8 Reads4 c0e<|fL lc h) (fun h=>rg<|(lc.nx h fun hI=>om (V.agg (((regs.set ins.A.toNat box.f0).map eI).flatten.map (T2 [(1,0),(2,0),(3,0),(4,0),(5,0),(6,0),(7,0)]))=.agg ((regs.set ins.A.toNat box.f0).map eI).flatten) (congrArg V.agg (a7j (fun _=>rfl) _))<|skT [] [0,1,4,5,6,7,161,162] [(1,0),(2,0),(3,0),(4,0),(5,0),(6,0),(7,0)] [(161,.agg ((regs.set ins.A.toNat box.f0).map eI).flatten)] hI))) (fun h=>(lc.bk h fun hI=>sk [] [0,1,4,5,6,7] [(1,0),(2,0),(3,0),(4,0),(5,0),(6,0),(7,0)] hI))
def b47(list:List q8)(regs:List Int)(b5:List p7)(b7:List n8)(Puts1:List n8)(at_:Int)(ins:o8)(Reads4:List p7):Option (l7 m9 ((List Int)×(List p7)×(List n8)×(List p7)×(List n8)×Int) ((List p7)×(List n8)×(List Int)×(List p7)×List n8)) :=
 ((idx list ins.B).bind fun box=>((idx regs ins.A).bind fun y3=>(s7 (ins.A<4) (((o9 (fun s:Int=>b2E regs ins Reads4 box s) 0).bind fun x=>x.go (fun r=>some (l7.ret r)) fun s=>b37 regs b5 b7 Puts1 at_ ins Reads4 box)))))
theorem e5X(list prog regs b5 b7 Puts1 at_ ins)(lc:H8 O0 a73 (a9E list prog)):NL lc (d9C list prog regs b5 b7 Puts1 at_ ins) (fun s=>b47 list regs b5 b7 Puts1 at_ ins s):=fun Reads4 h=>PK<|rg<|v5 x8 5 h fun box a2s h=>A4 h fun y3 hy3 h=>s9 h fun e4 h=>ob (M6 hy3)<|ob e4<|om (r9.arr 169 1 4 ((regs.map eI).set (ins.A.toNat) [vi box.f0])=r9.arr 169 1 4 ((regs.set ins.A.toNat box.f0).map eI)) (a6v rfl)<|ob (R8 (enc:=eI) hy3)<|tl (9,{a:=.rowck (eI y3) [],e:=some (.arr 169 1 4 ((regs.set ins.A.toNat box.f0).map eI))})<|rg<|om (4*1=4) rfl<|lp (e1p list prog regs b5 b7 Puts1 at_ ins Reads4 box) h (fun _ h=>lc.rt h) (d3C list prog regs b5 b7 Puts1 at_ ins Reads4 box lc) fun hI=>om (V.agg (((regs.set ins.A.toNat box.f0).map eI).flatten.map (T2 [(1,0),(2,0),(3,0),(4,0),(5,0),(6,0),(7,0)]))=.agg ((regs.set ins.A.toNat box.f0).map eI).flatten) (congrArg V.agg (a7j (fun _=>rfl) _))<|skT [] [0,1,4,5,6,7,161,162] [(1,0),(2,0),(3,0),(4,0),(5,0),(6,0),(7,0)] [(161,.agg ((regs.set ins.A.toNat box.f0).map eI).flatten)] hI
def e1J(list:List q8)(prog:List o8)(b5:List p7)(b7:List n8)(Reads1:List p7):((List Int)×(List n8)×Int)->KS:=fun (regs2,Puts4,at_1)=>⟨O0.k 13 [false,true,false,true,true],(j9 2 x8 list::(j9 4 z0 prog::(bs 2 (.ptr 1 0 0::(.ptr 4 0 0::(.ptr 5 0 0::(vi at_1::(bs 174 [])))))))),[some [],some [.var 49 [.own 2 0 2 0 b5.length,.own 3 0 2 0 b7.length,vi 0,vi 0]],some [l9 155 2 t8 b5],some [l9 158 2 t9 b7],some [.arr 169 1 4 (regs2.map eI)],some [.var 49 [.own 6 0 2 0 Reads1.length,.own 7 0 2 0 Puts4.length,vi 0,vi 0]],some [l9 155 2 t8 Reads1],some [l9 158 2 t9 Puts4]]⟩
def c4l(list:List q8)(prog:List o8)(b5:List p7)(b7:List n8)(Reads1:List p7)(regs2:List Int)(Puts4:List n8)(at_1:Int):Unit->KS:=fun _=>⟨O0.k 15 [false,true,false,true,true,false],(j9 2 x8 list::(j9 4 z0 prog::(bs 2 (.ptr 1 0 0::(.ptr 4 0 0::(.ptr 5 0 0::(vi at_1::(bs 174 [])))))))),[some [],some [.var 49 [.own 2 0 2 0 b5.length,.own 3 0 2 0 b7.length,vi 0,vi 0]],some [l9 155 2 t8 b5],some [l9 158 2 t9 b7],some [.arr 169 1 4 (regs2.map eI)],some [.var 49 [.own 6 0 2 0 Reads1.length,.own 7 0 2 0 Puts4.length,vi 0,vi 0]],some [l9 155 2 t8 Reads1],some [l9 158 2 t9 Puts4]]⟩
def b1d(b5:List p7)(b7:List n8)(Reads1:List p7)(regs2:List Int)(Puts4:List n8)(at_1:Int):Option (l7 m9 ((List Int)×(List p7)×(List n8)×(List p7)×(List n8)×Int) ((List p7)×(List n8)×(List Int)×(List p7)×List n8)) :=
 some (l7.nxt (regs2,b5,b7,Reads1,Puts4,m7 (at_1+1)))
theorem d7p(list prog b5 b7 Reads1 regs2 Puts4 at_1)(lc:H8 O0 a73 (a9E list prog)):NL lc (c4l list prog b5 b7 Reads1 regs2 Puts4 at_1) (fun s=>b1d b5 b7 Reads1 regs2 Puts4 at_1):=fun _ h=>PK<|rg<|(lc.nx h fun hI=>sk [] [0,1,4,5,6,7] [(1,0),(4,0),(5,0),(2,0),(3,0),(6,0),(7,0)] hI)
def d7O(list:List q8)(prog:List o8)(b5:List p7)(b7:List n8)(Reads1:List p7)(regs2:List Int)(Puts4:List n8)(at_1:Int):Int->KS:=fun a5T=>⟨O0.k 14 [false,true,false,true,true],(j9 2 x8 list::(j9 4 z0 prog::(bs 2 (.ptr 1 0 0::(.ptr 4 0 0::(.ptr 5 0 0::(vi at_1::(bs 153 (.agg (regs2.map eI).flatten::(vi a5T::(bs 19 []))))))))))),[some [],some [.var 49 [.own 2 0 2 0 b5.length,.own 3 0 2 0 b7.length,vi 0,vi 0]],some [l9 155 2 t8 b5],some [l9 158 2 t9 b7],some [.arr 169 1 4 (regs2.map eI)],some [.var 49 [.own 6 0 2 0 Reads1.length,.own 7 0 2 0 Puts4.length,vi 0,vi 0]],some [l9 155 2 t8 Reads1],some [l9 158 2 t9 Puts4]]⟩
def b1p(Reads1:List p7)(regs2:List Int)(a5T:Int):Option (l7 m9 Int Unit) :=
 (bif decide (a5T<4) then ((idx regs2 a5T).bind fun y5=>(s7 (a5T<4) (((C0 y5 (-1000000) 1000000).bind fun in_2=>(bif (!in_2) then ((a1W Reads1).bind fun c2N=>some (l7.ret (m9.mk c2N [] 0 2))) else some (l7.nxt (m7 (a5T+1)))))))) else some (l7.brk ()))
theorem e7x(list prog b5 b7 Reads1 regs2 Puts4 at_1):LQ O0 (c4l list prog b5 b7 Reads1 regs2 Puts4 at_1) (d7O list prog b5 b7 Reads1 regs2 Puts4 at_1) (fun s=>b1p Reads1 regs2 s):=fun lc a5T h=>PK<|rg<|j4 0 h (fun h=>rg<|A4 h fun y5 hy5 h=>s9 h fun e7 h=>ob (M6 hy5)<|ob e7<|om ((regs2.map eI).flatten[a5T.toNat]?=some (vi y5)) (c0Y (fun _=>rfl) hy5)<|tl (0,{a:=.val (vi y5)})<|rg<|j8 B9 D1 1 h fun in_2 h=>j4 2 h (fun h=>rg<|cbS a1N a8x 2 (fun _=>(by simp [a1N,K6,S9,N5,V.simple,vi,t7,eI,t8])) (fun _=>(P1 1)) h fun c2N h=>B8 Reads1 c2N<|fL lc h) (fun h=>rg<|(lc.nx h fun hI=>om (V.agg ((regs2.map eI).flatten.map (T2 [(1,0),(2,0),(3,0),(4,0),(5,0),(6,0),(7,0)]))=.agg (regs2.map eI).flatten) (congrArg V.agg (a7j (fun _=>rfl) _))<|skT [] [0,1,4,5,6,7,161,162] [(1,0),(2,0),(3,0),(4,0),(5,0),(6,0),(7,0)] [(161,.agg (regs2.map eI).flatten)] hI))) (fun h=>(lc.bk h fun hI=>sk [] [0,1,4,5,6,7] [(1,0),(2,0),(3,0),(4,0),(5,0),(6,0),(7,0)] hI))
def a78(b5:List p7)(b7:List n8)(Reads1:List p7)(regs2:List Int)(Puts4:List n8)(at_1:Int):Option (l7 m9 ((List Int)×(List p7)×(List n8)×(List p7)×(List n8)×Int) ((List p7)×(List n8)×(List Int)×(List p7)×List n8)) :=
 ((o9 (fun s:Int=>b1p Reads1 regs2 s) 0).bind fun x=>x.go (fun r=>some (l7.ret r)) fun s=>b1d b5 b7 Reads1 regs2 Puts4 at_1)
theorem e4d(list prog b5 b7 Reads1)(lc:H8 O0 a73 (a9E list prog)):NL lc (e1J list prog b5 b7 Reads1) (fun s=>a78 b5 b7 Reads1 s.1 s.2.1 s.2.2):=fun (regs2,Puts4,at_1) h=>PK<|rg<|om (4*1=4) rfl<|lp (e7x list prog b5 b7 Reads1 regs2 Puts4 at_1) h (fun _ h=>lc.rt h) (d7p list prog b5 b7 Reads1 regs2 Puts4 at_1 lc) fun hI=>om (V.agg ((regs2.map eI).flatten.map (T2 [(1,0),(2,0),(3,0),(4,0),(5,0),(6,0),(7,0)]))=.agg (regs2.map eI).flatten) (congrArg V.agg (a7j (fun _=>rfl) _))<|skT [] [0,1,4,5,6,7,161,162] [(1,0),(2,0),(3,0),(4,0),(5,0),(6,0),(7,0)] [(161,.agg (regs2.map eI).flatten)] hI
def a2q(list:List q8)(prog:List o8)(regs:List Int)(b5:List p7)(b7:List n8)(Reads1:List p7)(Puts1:List n8)(at_:Int):Option (l7 m9 ((List Int)×(List p7)×(List n8)×(List p7)×(List n8)×Int) ((List p7)×(List n8)×(List Int)×(List p7)×List n8)) :=
 (bif decide (at_<(prog.length:Int)) then ((idx prog at_).bind fun ins=>(bif (ins.a7==1) then ((a91 (m9.mk Reads1 Puts1 0 0) ins.B).bind fun a0i=>(bif decide (a0i>=0) then ((idx Puts1 a0i).bind fun put1=>((idx regs ins.A).bind fun y1=>(s7 (ins.A<4) (((o9 (fun s:Int=>a95 regs Reads1 ins put1 s) 0).bind fun x=>x.go (fun r=>some (l7.ret r)) fun s=>c2p regs b5 b7 Reads1 Puts1 at_ ins put1))))) else ((((b0n (m9.mk Reads1 Puts1 0 0) ins.B).bind fun c9h=>(bif decide (c9h<0) then ((idx list ins.B).bind fun V8=>(s7 ((Reads1.length+1)*16<=140737488355328) (some (l8.brk (Reads1++[(p7.mk ins.B V8.j3)]))))) else some (l8.brk Reads1))):Option (l8 (l7 m9 ((List Int)×(List p7)×(List n8)×(List p7)×(List n8)×Int) ((List p7)×(List n8)×(List Int)×(List p7)×List n8)) (List p7))).bind fun x=>x.go some fun j=>b47 list regs b5 b7 Puts1 at_ ins j))) else (((bif (ins.a7==2) then ((a91 (m9.mk Reads1 Puts1 0 0) ins.A).bind fun a9O=>(bif decide (a9O>=0) then ((idx regs ins.B).bind fun y6=>(s7 (ins.B<4) (((idx Puts1 a9O).bind fun put2=>some (l8.brk (regs,Puts1.set a9O.toNat (n8.mk put2.i6 y6),at_)))))) else ((idx regs ins.B).bind fun y7=>(s7 (ins.B<4) ((s7 ((Puts1.length+1)*16<=140737488355328) (some (l8.brk (regs,Puts1++[(n8.mk ins.A y7)],at_))))))))) else (bif (ins.a7==3) then ((idx regs ins.A).bind fun y8=>(s7 (ins.A<4) (some (l8.brk (regs.set ins.A.toNat ins.N,Puts1,at_))))) else (bif (ins.a7==4) then ((idx regs ins.A).bind fun y9=>(s7 (ins.A<4) (((idx regs ins.B).bind fun y10=>(s7 (ins.B<4) ((s7 (ins.A<4) (some (l8.brk (regs.set ins.A.toNat (m7 (y9+y10)),Puts1,at_)))))))))) else (bif (ins.a7==5) then ((idx regs ins.A).bind fun y11=>(s7 (ins.A<4) (((idx regs ins.B).bind fun y12=>(s7 (ins.B<4) ((s7 (ins.A<4) (some (l8.brk (regs.set ins.A.toNat (m7 (y11-y12)),Puts1,at_)))))))))) else (bif (ins.a7==6) then ((idx regs ins.A).bind fun y13=>(s7 (ins.A<4) (((idx regs ins.B).bind fun y14=>(s7 (ins.B<4) ((bif decide (y13<y14) then some (l8.brk (regs,Puts1,m7 (at_+ins.N))) else some (l8.brk (regs,Puts1,at_))))))))) else (bif (ins.a7==7) then ((a1W Reads1).bind fun c0j=>some (l8.ret (l7.ret (m9.mk c0j [] 0 1)))) else some (l8.brk (regs,Puts1,at_)))))))):Option (l8 (l7 m9 ((List Int)×(List p7)×(List n8)×(List p7)×(List n8)×Int) ((List p7)×(List n8)×(List Int)×(List p7)×List n8)) ((List Int)×(List n8)×Int))).bind fun x=>x.go some fun j=>a78 b5 b7 Reads1 j.1 j.2.1 j.2.2))) else some (l7.brk (b5,b7,regs,Reads1,Puts1)))
set_option maxRecDepth 20000 in
theorem d4p(list prog):LQ O0 a73 (a9E list prog) (fun s=>a2q list prog s.1 s.2.1 s.2.2.1 s.2.2.2.1 s.2.2.2.2.1 s.2.2.2.2.2):=fun lc (regs,b5,b7,Reads1,Puts1,at_) h=>PK<|rg<|j4 3 h (fun h=>rg<|v5 z0 2 h fun ins hins h=>n5<|j4 1 h (fun h=>rg<|R0 a5M c3a 3 2 h fun a0i h=>B8 Reads1 Puts1<|rg<|j4 1 h (fun h=>rg<|A4 h fun put1 b1T h=>A9 b1T<|G7 t9 7 b1T<|A4 h fun y1 hy1 h=>s9 h fun e2 h=>ob (M6 hy1)<|ob e2<|om (r9.arr 169 1 4 ((regs.map eI).set (ins.A.toNat) [vi put1.f0])=r9.arr 169 1 4 ((regs.set ins.A.toNat put1.f0).map eI)) (a6v rfl)<|ob (R8 (enc:=eI) hy1)<|tl (9,{a:=.rowck (eI y1) [],e:=some (.arr 169 1 4 ((regs.set ins.A.toNat put1.f0).map eI))})<|rg<|om (4*1=4) rfl<|lp (d5S list prog regs b5 b7 Reads1 Puts1 at_ ins put1) h (fun _ h=>lc.rt h) (d4O list prog regs b5 b7 Reads1 Puts1 at_ ins put1 lc) fun hI=>om (V.agg (((regs.set ins.A.toNat put1.f0).map eI).flatten.map (T2 [(1,0),(4,0),(5,0),(2,0),(3,0),(6,0),(7,0)]))=.agg ((regs.set ins.A.toNat put1.f0).map eI).flatten) (congrArg V.agg (a7j (fun _=>rfl) _))<|skT [] [0,1,4,5,6,7,161,162] [(1,0),(4,0),(5,0),(2,0),(3,0),(6,0),(7,0)] [(161,.agg ((regs.set ins.A.toNat put1.f0).map eI).flatten)] hI) (fun h=>B0 h (e5X list prog regs b5 b7 Puts1 at_ ins lc) fun x2 h hc2=>rg<|R0 a7U e2j 3 2 h fun c9h h=>B8 Reads1 Puts1<|j4 4 h (fun h=>rg<|v5 x8 7 h fun V8 a9e h=>tk 11 []<|s9 h fun e6 h=>E8 12 46 155 2 16 t8 Reads1 (p7.mk ins.B V8.j3) e6<|D8 (p7.mk ins.B V8.j3)<|(o6 h hc2 fun hI=>sk [] [0,1,4,5,6,7,8] [(1,0),(4,0),(5,0),(2,0),(3,0),(46,0),(7,0),(16,0)] hI)) (fun h=>(o6 h hc2 fun hI=>sk [] [0,1,4,5,6,7,8] [(1,0),(4,0),(5,0),(2,0),(3,0),(6,0),(7,0),(16,0)] hI)))) (fun h=>B0 h (e4d list prog b5 b7 Reads1 lc) fun x2 h hc2=>rg<|j4 1 h (fun h=>rg<|R0 a5M c3a 3 2 h fun a9O h=>B8 Reads1 Puts1<|rg<|j4 1 h (fun h=>rg<|A4 h fun y6 hy6 h=>s9 h fun e8 h=>ob (M6 hy6)<|ob e8<|ob (R8 (enc:=eI) hy6)<|tl (tr 6 (eI y6))<|A4 h fun put2 c3w h=>A9 c3w<|N8 158 2 t9 9 [] (n8.mk put2.i6 y6) c3w<|(o6 h hc2 fun hI=>om ((.own 7 0 2 0 Puts1.length:V)=.own 7 0 2 0 (Puts1.set a9O.toNat (n8.mk put2.i6 y6)).length) (by simp)<|sk [.is (.cell 3 0 1) (.own 7 0 2 0 (Puts1.set a9O.toNat (n8.mk put2.i6 y6)).length)] [0,1,4,5,6,7] [(1,0),(4,0),(5,0),(2,0),(3,0),(6,0),(7,0)] hI)) (fun h=>rg<|A4 h fun y7 hy7 h=>s9 h fun e9 h=>ob (M6 hy7)<|ob e9<|ob (R8 (enc:=eI) hy7)<|tl (tr 7 (eI y7))<|tk 9 []<|s9 h fun e10 h=>E8 10 41 158 2 16 t9 Puts1 (n8.mk ins.A y7) e10<|D8 (n8.mk ins.A y7)<|(o6 h hc2 fun hI=>sk [] [0,1,4,5,6,7] [(1,0),(4,0),(5,0),(2,0),(3,0),(6,0),(41,0)] hI))) (fun h=>rg<|j4 1 h (fun h=>rg<|A4 h fun y8 hy8 h=>s9 h fun e11 h=>ob (M6 hy8)<|ob e11<|om (r9.arr 169 1 4 ((regs.map eI).set (ins.A.toNat) [vi ins.N])=r9.arr 169 1 4 ((regs.set ins.A.toNat ins.N).map eI)) (a6v rfl)<|ob (R8 (enc:=eI) hy8)<|tl (5,{a:=.rowck (eI y8) [],e:=some (.arr 169 1 4 ((regs.set ins.A.toNat ins.N).map eI))})<|(o6 h hc2 fun hI=>sk [] [0,1,4,5,6,7] [(1,0),(4,0),(5,0),(2,0),(3,0),(6,0),(7,0)] hI)) (fun h=>rg<|j4 1 h (fun h=>rg<|A4 h fun y9 hy9 h=>s9 h fun e12 h=>ob (M6 hy9)<|ob e12<|ob (R8 (enc:=eI) hy9)<|tl (tr 3 (eI y9))<|A4 h fun y10 c92 h=>s9 h fun e13 h=>ob (M6 c92)<|ob e13<|ob (R8 (enc:=eI) c92)<|tl (tr 7 (eI y10))<|s9 h fun e14 h=>ob (M6 hy9)<|ob e14<|om (r9.arr 169 1 4 ((regs.map eI).set (ins.A.toNat) [vi (m7 (y9+y10))])=r9.arr 169 1 4 ((regs.set ins.A.toNat (m7 (y9+y10))).map eI)) (a6v rfl)<|ob (R8 (enc:=eI) hy9)<|tl (10,{a:=.rowck (eI y9) [],e:=some (.arr 169 1 4 ((regs.set ins.A.toNat (m7 (y9+y10))).map eI))})<|(o6 h hc2 fun hI=>sk [] [0,1,4,5,6,7] [(1,0),(4,0),(5,0),(2,0),(3,0),(6,0),(7,0)] hI)) (fun h=>rg<|j4 1 h (fun h=>rg<|A4 h fun y11 b7K h=>s9 h fun e15 h=>ob (M6 b7K)<|ob e15<|ob (R8 (enc:=eI) b7K)<|tl (tr 3 (eI y11))<|A4 h fun y12 d1d h=>s9 h fun e16 h=>ob (M6 d1d)<|ob e16<|ob (R8 (enc:=eI) d1d)<|tl (tr 7 (eI y12))<|s9 h fun e17 h=>ob (M6 b7K)<|ob e17<|om (r9.arr 169 1 4 ((regs.map eI).set (ins.A.toNat) [vi (m7 (y11-y12))])=r9.arr 169 1 4 ((regs.set ins.A.toNat (m7 (y11-y12))).map eI)) (a6v rfl)<|ob (R8 (enc:=eI) b7K)<|tl (10,{a:=.rowck (eI y11) [],e:=some (.arr 169 1 4 ((regs.set ins.A.toNat (m7 (y11-y12))).map eI))})<|(o6 h hc2 fun hI=>sk [] [0,1,4,5,6,7] [(1,0),(4,0),(5,0),(2,0),(3,0),(6,0),(7,0)] hI)) (fun h=>rg<|j4 1 h (fun h=>rg<|A4 h fun y13 d0F h=>s9 h fun e18 h=>ob (M6 d0F)<|ob e18<|ob (R8 (enc:=eI) d0F)<|tl (tr 3 (eI y13))<|A4 h fun y14 c6n h=>s9 h fun e19 h=>ob (M6 c6n)<|ob e19<|ob (R8 (enc:=eI) c6n)<|tl (tr 7 (eI y14))<|j4 8 h (fun h=>rg<|(o6 h hc2 fun hI=>sk [] [0,1,4,5,6,7] [(1,0),(4,0),(5,0),(2,0),(3,0),(6,0),(7,0)] hI)) (fun h=>(o6 h hc2 fun hI=>sk [] [0,1,4,5,6,7] [(1,0),(4,0),(5,0),(2,0),(3,0),(6,0),(7,0)] hI))) (fun h=>rg<|j4 1 h (fun h=>rg<|cbS a1N a8x 2 (fun _=>(by simp [a1N,K6,S9,N5,V.simple,vi,t7,eI,t8])) (fun _=>(P1 1)) h fun c0j h=>s4 Reads1<|(B4 h hc2 fun h=>s4 c0j<|fL lc h)) (fun h=>(o6 h hc2 fun hI=>sk [] [0,1,4,5,6,7] [(1,0),(4,0),(5,0),(2,0),(3,0),(6,0),(7,0)] hI))))))))) (fun h=>(lc.bk h fun hI=>sk [] [4,5,6] [(1,0),(4,0),(5,0),(2,0),(3,0),(6,0),(7,0)] hI))
def b7t(list:List q8)(prog:List o8):Option m9 :=
 ((a6i list).bind fun V3=>(bif (!V3) then some (m9.mk [] [] 0 3) else ((a7V prog).bind fun C7=>(bif (!C7) then some (m9.mk [] [] 0 3) else ((o9 (fun s:(List Int)×(List p7)×(List n8)×(List p7)×(List n8)×Int=>a2q list prog s.1 s.2.1 s.2.2.1 s.2.2.2.1 s.2.2.2.2.1 s.2.2.2.2.2) (e8E 4 (0:Int),[],[],[],[],0)).bind fun x=>x.go (fun r=>some r) fun s=>b0p s.1 s.2.1 s.2.2.1 s.2.2.2.1 s.2.2.2.2)))))
theorem e43{list prog}:OK O0 [j9 2 x8 list,j9 4 z0 prog] (b7t list prog) :=
 n7 _ fun r h=>n5<|j8 a2X b5y 1 h fun V3 h=>j4 3 h (fun h=>rg<|fE h) (fun h=>j8 a2I b49 5 h fun C7 h=>j4 7 h (fun h=>rg<|fE h) (fun h=>rg<|om ((e8E 4 ([vi 0]:List V)).flatten=[vi 0,vi 0,vi 0,vi 0]/\([vi 0]:List V).length=1) ⟨rfl,rfl⟩<|n5<|lp (d4p list prog) h (fun _ h=>O0.rt h) (e6S r) fun hI=>sk [.own (.cell 1 0 0) 155 2,.own (.cell 1 0 1) 158 2,.own (.cell 12 0 0) 155 2,.own (.cell 12 0 1) 158 2] [0,1,4,5,6,7] [(1,0),(10,0),(12,0),(15,0),(16,0),(17,0),(18,0)] hI))
def a2d:FS (Int):=⟨183,Tryz.f183,[.val [] []],[none,none],[.val [some 7] [],.val [] []],fun r=>vi r,fun _=>[none,none],Tryz.func183⟩
def b8z:Unit->KS:=fun _=>⟨a2d.k 3 [false],(bs 25 []),[some []]⟩
def c3M:Option Int :=
 some (-1)
theorem e6W(r):NF a2d r b8z (fun s=>c3M):=fun _ h=>PK<|rg<|fE h
def c45(list:List m4)(q:p8):Int->KS:=fun v9=>⟨a2d.k 2 [],(bs 3 (.ptr 1 0 0::(bs 3 (j9 7 s8 list::(vi (list.length:Int)::(vi v9::(bs 15 []))))))),[some [],some [.var 38 [vi q.d6,vi q.Seq]]]⟩
def e24(list:List m4)(q:p8)(v9:Int):Unit->KS:=fun _=>⟨a2d.k 5 [true,false],(bs 3 (.ptr 1 0 0::(bs 3 (j9 7 s8 list::(vi (list.length:Int)::(vi v9::(bs 15 []))))))),[some [],some [.var 38 [vi q.d6,vi q.Seq]]]⟩
def b8t(v9:Int):Option (l7 Int Int Unit) :=
 some (l7.nxt (m7 (v9+1)))
theorem d74(list q v9)(lc:H8 a2d b8z (c45 list q)):NL lc (e24 list q v9) (fun s=>b8t v9):=fun _ h=>PK<|rg<|(lc.nx h fun hI=>sk [] [3,7,8,9] [(1,0)] hI)
def a8k(list:List m4)(q:p8)(v9:Int):Option (l7 Int Int Unit) :=
 (bif decide (v9<(list.length:Int)) then ((idx list v9).bind fun entry=>(((bif (!entry.i8) then (bif (([entry.a0.d6,entry.a0.Seq]:List Int)==[q.d6,q.Seq]) then some (l8.ret (l7.ret v9)) else some (l8.brk ())) else some (l8.brk ())):Option (l8 (l7 Int Int Unit) Unit)).bind fun x=>x.go some fun j=>b8t v9)) else some (l7.brk ()))
theorem d21(list q):LQ a2d b8z (c45 list q) (fun s=>a8k list q s):=fun lc v9 h=>PK<|rg<|j4 0 h (fun h=>rg<|v5 s8 1 h fun entry G9 h=>B0 h (d74 list q v9 lc) fun x2 h hc2=>rg<|j4 3 h (fun h=>j4 8 h (fun h=>rg<|(B4 h hc2 fun h=>fL lc h)) (fun h=>(o6 h hc2 fun hI=>sk [] [3,7,8,9] [(1,0)] hI))) (fun h=>(o6 h hc2 fun hI=>sk [] [3,7,8,9] [(1,0)] hI))) (fun h=>(lc.bk h fun hI=>sk [] [] [] hI))
def a8q(list:List m4)(q:p8):Option Int :=
 ((o9 (fun s:Int=>a8k list q s) 0).bind fun x=>x.go (fun r=>some r) fun s=>c3M)
theorem c1v{list q}:OK a2d [j9 7 s8 list,.agg (Y5 q)] (a8q list q) :=
 n7 _ fun r h=>n5<|lp (d21 list q) h (fun _ h=>a2d.rt h) (e6W r) fun hI=>sk [] [3,7,8,9] [(1,0)] hI
def b9c:FS (Bool×n6):=⟨169,Tryz.f169,[.val [] []],[some (0,.ptr G5 J2),none],[.ptr G5 J2,.val [] []],fun r=>.b r.1,fun r=>[some (.optr 142 (J5 r.2)),none],Tryz.func169⟩
def b2z(a:n6)(q:p8):Option (Bool×n6) :=
 ((a8q a.n.a6 q).bind fun first=>some (decide (first>=0),a))
theorem c3U{a q}:OK b9c [.optr 142 (J5 a),.agg (Y5 q)] (b2z a q) :=
 n7 _ fun r h=>n5<|R0 a2d c1v 6 2 h fun first h=>s4 a.n.a6<|B7 a<|fE h
def X1:FS (m4×Bool×n6):=⟨164,Tryz.f164,[.val I4 [],.val [] []],[some (0,.ptr G5 J2)],[.ptr G5 J2],fun r=>.tup [.agg (s8 r.1),.b r.2.1],fun r=>[some (.optr 142 (J5 r.2.2))],Tryz.func164⟩
def d2R(a:n6):Unit->KS:=fun _=>⟨X1.k 3 [false],(.ptr 0 0 0::(bs 1 (.ptr 1 0 0::(bs 1 (vi (a.n.a6.length:Int)::(bs 112 [])))))),[some ([.var 142 (b8W a)]++c1c a),some [.var 51 [.b false,vi 0,vi 0,.nil,.nil,vi 0,vi 0]]]⟩
def c88(a:n6):Unit->KS:=fun _=>⟨X1.k 5 [false,false],(.ptr 0 0 0::(bs 1 (.ptr 1 0 0::(bs 114 [])))),[some ([.var 142 (b8W a)]++c1c a),some [.var 51 [.b false,vi 0,vi 0,.nil,.nil,vi 0,vi 0]]]⟩
def e1a:n6->KS:=fun a1=>⟨X1.k 6 [false,false,false],(.ptr 0 0 0::(bs 1 (.ptr 6 0 0::(bs 114 [])))),[some [.var 142 (b1A a1),.dead,.dead,.dead,.dead,.dead]]++a1R a1++[some [.var 51 [.b false,vi 0,vi 0,.nil,.nil,vi 0,vi 0]]]⟩
def d1j:n6->KS:=fun w=>⟨X1.k 7 [false,false,false,false],(bs 2 (.ptr 6 0 0::(bs 114 []))),[some [.var 142 (b1A w),.dead,.dead,.dead,.dead,.dead]]++a1R w++[some [.var 51 [.b false,vi 0,vi 0,.nil,.nil,vi 0,vi 0]]]⟩
def c53(w:n6):Option (m4×Bool×n6) :=
 some ((m4.mk false (p8.mk 0 0) (m9.mk [] [] 0 0)),false,w)
theorem e6Q(r):NF X1 r d1j (fun s=>c53 s):=fun w h=>PK<|rg<|B7 w<|fE h
def e1z:n6->KS:=fun a2=>⟨X1.k 6 [false,false,false],(.ptr 0 0 0::(bs 1 (.ptr 6 0 0::(bs 114 [])))),[some [.var 142 (b1A a2),.dead,.dead,.dead,.dead,.dead]]++a1R a2++[some [.var 51 [.b false,vi 0,vi 0,.nil,.nil,vi 0,vi 0]]]⟩
def a3B(a2:n6):Option (l7 (m4×Bool×n6) n6 n6) :=
 (bif decide ((a2.n.d8.length:Int)>0) then ((idx a2.n.d8 0).bind fun entry=>(s7 ((0:Int)<=1/\1<=(a2.n.d8.length:Int)) (((b2z (n6.mk (j5.mk a2.n.Id a2.n.Acc a2.n.a6 a2.n.Seq a2.n.d9 a2.n.a8 a2.n.d7 a2.n.g9 a2.n.c8 a2.n.a5 a2.n.i7 a2.n.i5 a2.n.b6 ((a2.n.d8.drop (1:Int).toNat).take (a2.n.d8.length-(1:Int).toNat))) a2.out a2.told) entry.a0).bind fun b2q=>(bif (!b2q.1) then some (l7.ret (entry,true,b2q.2)) else some (l7.nxt b2q.2)))))) else some (l7.brk a2))
theorem e08:LQ X1 d1j e1z (fun s=>a3B s):=fun lc a2 h=>PK<|rg<|j4 6 h (fun h=>rg<|v5 s8 5 h fun entry G9 h=>rg<|s9 h fun e1 h=>om (V.sl 7 (a2.n.d8.length-(1:Int).toNat) (((a2.n.d8.map s8).drop (1:Int).toNat).take (a2.n.d8.length-(1:Int).toNat))=j9 7 s8 ((a2.n.d8.drop (1:Int).toNat).take (a2.n.d8.length-(1:Int).toNat))) (b3Z e1)<|ob e1.1<|ob e1.2<|tl (6,{v:=some (j9 7 s8 ((a2.n.d8.drop (1:Int).toNat).take (a2.n.d8.length-(1:Int).toNat)))})<|rg<|j8 b9c c3U 3 h fun b2q h=>B7 a2<|j4 4 h (fun h=>rg<|B7 b2q.2<|fL lc h) (fun h=>(lc.nx h fun hI=>sk [] [0,2] [(37,0),(37,1),(37,2),(37,3),(37,4),(6,0)] hI))) (fun h=>(lc.bk h fun hI=>sk [] [2] [(1,0),(2,0),(3,0),(4,0),(5,0),(6,0)] hI))
def b29(a1:n6):Option (m4×Bool×n6) :=
 ((o9 (fun s:n6=>a3B s) a1).bind fun x=>x.go (fun r=>some r) fun s=>c53 s)
theorem d22(r):NF X1 r e1a (fun s=>b29 s):=fun a1 h=>PK<|lp (e08) h (fun _ h=>X1.rt h) (e6Q r) fun hI=>sk [] [0,2] [(1,0),(2,0),(3,0),(4,0),(5,0),(6,0)] hI
def c2H(a:n6):Option (m4×Bool×n6) :=
 (((bif a.n.i7 then ((b2z a a.n.b6.a0).bind fun a8I=>(bif (!a8I.1) then some (l8.ret (a8I.2.n.b6,true,a8I.2)) else some (l8.brk a8I.2))) else some (l8.brk a)):Option (l8 (m4×Bool×n6) n6)).bind fun x=>x.go some fun j=>b29 j)
theorem d7E(a)(r):NF X1 r (c88 a) (fun s=>c2H a):=fun _ h=>PK<|B0 h (d22 r) fun x1 h hc1=>rg<|j4 5 h (fun h=>j8 b9c c3U 13 h fun a8I h=>B7 a<|j4 15 h (fun h=>rg<|(B4 h hc1 fun h=>B7 a8I.2<|fE h)) (fun h=>(o6 h hc1 fun hI=>sk [] [0,2] [(15,0),(15,1),(15,2),(15,3),(15,4),(1,0)] hI))) (fun h=>(o6 h hc1 fun hI=>sk [] [0,2] [(0,1),(0,2),(0,3),(0,4),(0,5),(1,0)] hI))
def e3A(a:n6):Int->KS:=fun i=>⟨X1.k 4 [false],(.ptr 0 0 0::(bs 1 (.ptr 1 0 0::(bs 2 (vi i::(bs 111 [])))))),[some ([.var 142 (b8W a)]++c1c a),some [.var 51 [.b false,vi 0,vi 0,.nil,.nil,vi 0,vi 0]]]⟩
def a3W(a:n6)(i:Int):Option (l7 (m4×Bool×n6) Int Unit) :=
 (bif decide (i<(a.n.g9.length:Int)) then ((idx a.n.g9 i).bind fun vote=>(bif (vote.a8 != 0) then some (l7.ret ((m4.mk true (p8.mk 0 0) (m9.mk [] [] 0 0)),true,a)) else some (l7.nxt (m7 (i+1))))) else some (l7.brk ()))
theorem e2J(a):LQ X1 (c88 a) (e3A a) (fun s=>a3W a s):=fun lc i h=>PK<|rg<|j4 7 h (fun h=>rg<|v5 o7 6 h fun vote L7 h=>j4 9 h (fun h=>rg<|B7 a<|fL lc h) (fun h=>rg<|(lc.nx h fun hI=>sk [] [0,2,5] [(1,0)] hI))) (fun h=>(lc.bk h fun hI=>sk [] [0,2] [(1,0)] hI))
def b6L(a:n6):Option (m4×Bool×n6) :=
 ((o9 (fun s:Int=>a3W a s) (m7 ((a.n.a6.length:Int)+1))).bind fun x=>x.go (fun r=>some r) fun s=>c2H a)
theorem e8o(a)(r):NF X1 r (d2R a) (fun s=>b6L a):=fun _ h=>PK<|rg<|lp (e2J a) h (fun _ h=>X1.rt h) (d7E a r) fun hI=>sk [] [0,2,5] [(1,0)] hI
def b4q(a:n6):Option (m4×Bool×n6) :=
 (((bif decide ((a.n.a6.length:Int)<(a.n.g9.length:Int)) then ((idx a.n.g9 (a.n.a6.length:Int)).bind fun Q6=>(bif (Q6.a8 != 0) then some (l8.ret (Q6.i0,true,a)) else some (l8.brk ()))) else some (l8.brk ())):Option (l8 (m4×Bool×n6) Unit)).bind fun x=>x.go some fun j=>b6L a)
theorem d4d{a}:OK X1 [.optr 142 (J5 a)] (b4q a) :=
 n7 _ fun r h=>n5<|B0 h (e8o a r) fun x1 h hc1=>rg<|j4 8 h (fun h=>v5 o7 15 h fun Q6 a2P h=>j4 19 h (fun h=>rg<|I5 o7 6 a2P<|(B4 h hc1 fun h=>B7 a<|fE h)) (fun h=>(o6 h hc1 fun hI=>sk [] [0,2,4] [(1,0)] hI))) (fun h=>(o6 h hc1 fun hI=>sk [] [0,2,4] [(1,0)] hI))
def c6Q:FS (v6×Bool):=⟨126,Tryz.f126,[.val [none,some 8] [none,some 126],.val [] []],[none,none],[.val [none,some 8] [],.val [] []],fun r=>.tup [.agg [vi r.1.i4,t7 126 8 o7 r.1.a5],.b r.2],fun _=>[none,none],Tryz.func126⟩
def c0k(a:v6)(bal:Int):Option (v6×Bool) :=
 ((a8O a).bind fun N4=>(bif (!N4) then some ((v6.mk 0 []),false) else ((a4q a).bind fun O7=>((C0 bal 1 3000).bind fun in_=>(bif (!in_) then some (O7,false) else (bif decide (bal<a.i4) then some (O7,false) else some ((v6.mk bal O7.a5),true)))))))
theorem d4Y{a bal}:OK c6Q [.agg (W9 a),vi bal] (c0k a bal) :=
 n7 _ fun r h=>n5<|j8 a3P b85 1 h fun N4 h=>j4 2 h (fun h=>rg<|fE h) (fun h=>rg<|j8 a6w a9m 1 h fun O7 h=>rg<|j8 B9 D1 1 h fun in_ h=>j4 3 h (fun h=>rg<|s4 O7.a5<|fE h) (fun h=>j4 8 h (fun h=>rg<|s4 O7.a5<|fE h) (fun h=>n5<|s4 O7.a5<|fE h)))
def a5z:FS (v6×Bool):=⟨165,Tryz.f165,[.val [none,some 8] [],.val [] []],[none,none,none,none],[.val [none,some 8] [],.val [] [],.val [] [],.val I4 []],fun r=>.tup [.agg (W9 r.1),.b r.2],fun _=>[none,none,none,none],Tryz.func165⟩
def c5T(bal:Int)(slot:Int)(e_:m4)(o:v6×Bool):(List m6)->KS:=fun W1=>⟨a5z.k 5 [false,false,false],(bs 1 (vi bal::(vi slot::(bs 4 (.ptr 1 0 0::(.ptr 2 0 0::(bs 1 (.ptr 3 0 0::(bs 40 []))))))))),[some [],some [.var 51 (a3x e_)],some [.var 43 [vi 0,.nil]],some [.var 43 [vi o.1.i4,.own 4 0 8 0 W1.length]],some [l9 126 8 o7 W1]]⟩
def c2w(bal:Int)(slot:Int)(e_:m4)(o:v6×Bool)(W1:List m6):Option (v6×Bool) :=
 ((idx W1 slot).bind fun vote=>((a4q (v6.mk o.1.i4 (W1.set slot.toNat (m6.mk bal e_)))).bind fun b8R=>some (b8R,true)))
theorem e3r(bal slot e_ o)(r):NF a5z r (c5T bal slot e_ o) (fun s=>c2w bal slot e_ o s):=fun W1 h=>PK<|rg<|A4 h fun vote L7 h=>A9 L7<|N8 126 8 o7 7 S7 (m6.mk bal e_) L7<|rg<|j8 a6w a9m 1 h fun b8R h=>om (W1.length=(W1.set slot.toNat (m6.mk bal e_)).length) (by simp)<|s4 b8R.a5<|fE h
def d88(bal:Int)(slot:Int)(e_:m4)(o:v6×Bool):(List m6)->KS:=fun a5=>⟨a5z.k 4 [false,false],(bs 1 (vi bal::(vi slot::(bs 4 (.ptr 1 0 0::(.ptr 2 0 0::(bs 1 (.ptr 3 0 0::(bs 40 []))))))))),[some [],some [.var 51 (a3x e_)],some [.var 43 [vi 0,.nil]],some [.var 43 [vi o.1.i4,.own 4 0 8 0 a5.length]],some [l9 126 8 o7 a5]]⟩
def a7o(slot:Int)(a5:List m6):Option (l7 (v6×Bool) (List m6) (List m6)) :=
 (bif decide ((a5.length:Int)<=slot) then (s7 ((a5.length+1)*96<=140737488355328) (some (l7.nxt (a5++[(m6.mk 0 (m4.mk false (p8.mk 0 0) (m9.mk [] [] 0 0)))])))) else some (l7.brk a5))
theorem d3F(bal slot e_ o):LQ a5z (c5T bal slot e_ o) (d88 bal slot e_ o) (fun s=>a7o slot s):=fun lc a5 h=>PK<|rg<|j4 4 h (fun h=>rg<|tk 3 S7<|s9 h fun e1 h=>E8 4 14 126 8 96 o7 a5 (m6.mk 0 (m4.mk false (p8.mk 0 0) (m9.mk [] [] 0 0))) e1<|D8 (m6.mk 0 (m4.mk false (p8.mk 0 0) (m9.mk [] [] 0 0)))<|(lc.nx h fun hI=>sk [] [1,2,7,8,10] [(1,0),(2,0),(3,0),(14,0)] hI)) (fun h=>(lc.bk h fun hI=>sk [] [1,2,7,8,10] [(1,0),(2,0),(3,0),(4,0)] hI))
def b2Q(a:v6)(bal:Int)(slot:Int)(e_:m4):Option (v6×Bool) :=
 ((c0k a bal).bind fun o=>(bif (!o.2) then some (o.1,false) else ((C0 slot 0 39).bind fun in_=>(bif (!in_) then ((a4q a).bind fun O7=>some (O7,false)) else ((a1j e_).bind fun C8=>(bif (!C8) then ((a4q a).bind fun b8P=>some (b8P,false)) else ((o9 (fun s:List m6=>a7o slot s) o.1.a5).bind fun x=>x.go (fun r=>some r) fun s=>c2w bal slot e_ o s)))))))
theorem c6V{a bal slot e_}:OK a5z [.agg (W9 a),vi bal,vi slot,.agg (s8 e_)] (b2Q a bal slot e_) :=
 n7 _ fun r h=>n5<|j8 c6Q d4Y 2 h fun o h=>rg<|j4 1 h (fun h=>rg<|s4 o.1.a5<|fE h) (fun h=>rg<|j8 B9 D1 1 h fun in_ h=>j4 3 h (fun h=>rg<|j8 a6w a9m 1 h fun O7 h=>s4 O7.a5<|fE h) (fun h=>j8 a2u a3d 5 h fun C8 h=>j4 7 h (fun h=>rg<|j8 a6w a9m 1 h fun b8P h=>s4 b8P.a5<|fE h) (fun h=>lp (d3F bal slot e_ o) h (fun _ h=>a5z.rt h) (e3r bal slot e_ o r) fun hI=>sk [] [1,2,7,8,10] [(2,0),(3,0),(11,0),(7,0)] hI)))
def b60:FS (n6):=⟨125,Tryz.f125,[],[some (0,.ptr G5 J2)],[.ptr G5 J2],fun _=>.tup [],fun r=>[some (.optr 142 (J5 r))],Tryz.func125⟩
def a9Z(a:n6):Option n6 :=
 some (n6.mk (j5.mk a.n.Id a.n.Acc a.n.a6 a.n.Seq 0 0 [] [] (m4.mk false (p8.mk 0 0) (m9.mk [] [] 0 0)) [] a.n.i7 a.n.i5 a.n.b6 a.n.d8) a.out a.told)
theorem c1t{a}:OK b60 [.optr 142 (J5 a)] (a9Z a) :=
 n7 _ fun r h=>rg4<|n5<|U5 a.n.a6 a.out a.told<|fE h
def c2q:FS ((List Bool)×n6):=⟨127,Tryz.f127,[.val [some 1] [some 4]],[some (0,.ptr G5 J2)],[.ptr G5 J2],fun r=>t7 4 1 eB r.1,fun r=>[some (.optr 142 (J5 r.2))],Tryz.func127⟩
def b1s(a:n6):Option ((List Bool)×n6) :=
 (s7 (0<=(3:Int)/\(3:Int)*1<=140737488355328) (((idx (e8E (3:Int).toNat false) a.n.Id).bind fun y=>some ((e8E (3:Int).toNat false).set a.n.Id.toNat true,a))))
theorem d15{a}:OK c2q [.optr 142 (J5 a)] (b1s a) :=
 n7 _ fun r h=>n5<|s9 h fun e1 h=>S6 0 2 4 1 1 eB false ti4 (.none) e1 (by decide) (by rfl)<|rg<|A4 h fun y hy h=>A9 hy<|N8 4 1 eB 7 [] true hy<|rg<|om ((e8E (3:Int).toNat false).length=((e8E (3:Int).toNat false).set a.n.Id.toNat true).length) (by simp)<|B7 a<|fE h
def a56:FS (n6):=⟨135,Tryz.f135,[],[some (0,.ptr G5 J2),none,none],[.ptr G5 J2,.val [] [],.val B2 []],fun _=>.tup [],fun r=>[some (.optr 142 (J5 r)),none,none],Tryz.func135⟩
def a2Z(a:n6)(to:Int)(m:j7):Option n6 :=
 (s7 ((a.out.length+1)*152<=140737488355328) (some (n6.mk a.n (a.out++[(j7.mk m.a7 a.n.Id to m.a8 m.g7 m.i0 m.a5)]) a.told)))
theorem a7k{a to m}:OK a56 [.optr 142 (J5 a),vi to,.agg (p9 m)] (a2Z a to m) :=
 n7 _ fun r h=>rg4<|tk 6 B2<|s9 h fun e1 h=>E8 7 19 68 13 152 p9 a.out (j7.mk m.a7 a.n.Id to m.a8 m.g7 m.i0 m.a5) e1<|D8 (j7.mk m.a7 a.n.Id to m.a8 m.g7 m.i0 m.a5)<|E9 a.n.a6 a.n.d7 a.n.a5 (a.out++[(j7.mk m.a7 a.n.Id to m.a8 m.g7 m.i0 m.a5)])<|s4 a.told<|fE h
def a0F:FS (n6):=⟨123,Tryz.f123,[],[some (0,.ptr G5 J2),none],[.ptr G5 J2,.val B2 []],fun _=>.tup [],fun r=>[some (.optr 142 (J5 r)),none],Tryz.func123⟩
def c93(m:j7):(Int×n6)->KS:=fun (to,a1)=>⟨a0F.k 2 [],(.ptr 0 0 0::(bs 2 (.ptr 1 0 0::(vi to::(bs 15 []))))),[some [.var 142 (d8H a1),.dead,.dead,.dead,.dead,.dead],some [.var 68 (a3K m)]]++e4M a1⟩
def e3T(m:j7)(to:Int):n6->KS:=fun a2=>⟨a0F.k 5 [true,true],(.ptr 0 0 0::(bs 2 (.ptr 6 0 0::(vi to::(bs 15 []))))),[some [.var 142 (b1A a2),.dead,.dead,.dead,.dead,.dead]]++a1R a2++[some [.var 68 (a3K m)]]⟩
def c2C(to:Int)(a2:n6):Option (l7 n6 (Int×n6) Unit) :=
 some (l7.nxt (m7 (to+1),a2))
theorem d78(m to)(lc:H8 a0F noK (c93 m)):NL lc (e3T m to) (fun s=>c2C to s):=fun a2 h=>PK<|rg<|(lc.nx h fun hI=>sk [] [0,3,4] [(6,0),(5,0),(4,0),(3,0),(2,0),(1,0)] hI)
def a4l(m:j7)(to:Int)(a1:n6):Option (l7 n6 (Int×n6) Unit) :=
 (bif decide (to<3) then (((bif (to != a1.n.Id) then ((a2Z a1 to m).bind fun W7=>some (l8.brk W7)) else some (l8.brk a1)):Option (l8 (l7 n6 (Int×n6) Unit) n6)).bind fun x=>x.go some fun j=>c2C to j) else some (l7.ret a1))
theorem e4F(m):LQ a0F noK (c93 m) (fun s=>a4l m s.1 s.2):=fun lc (to,a1) h=>PK<|rg<|j4 1 h (fun h=>B0 h (d78 m to lc) fun x2 h hc2=>rg<|j4 6 h (fun h=>rg<|j8 a56 a7k 3 h fun W7 h=>B7 a1<|(o6 h hc2 fun hI=>sk [] [0,3,4] [(19,0),(19,1),(19,2),(19,3),(19,4),(1,0)] hI)) (fun h=>(o6 h hc2 fun hI=>sk [] [0,3,4] [(6,0),(5,0),(4,0),(3,0),(2,0),(1,0)] hI))) (fun h=>B7 a1<|fL lc h)
def a2h(a:n6)(m:j7):Option n6 :=
 ((o9 (fun s:Int×n6=>a4l m s.1 s.2) (0,a)).bind fun x=>x.go (fun r=>some r) fun _=>none)
theorem a41{a m}:OK a0F [.optr 142 (J5 a),.agg (p9 m)] (a2h a m) :=
 n7 _ fun r h=>n5<|lp (e4F m) h (fun _ h=>a0F.rt h) (fun _ h=>nomatch h) fun hI=>sk [] [0,3,4] [(1,0),(0,5),(0,4),(0,3),(0,2),(0,1)] hI
def a82:FS (n6):=⟨122,Tryz.f122,[],[some (0,.ptr G5 J2)],[.ptr G5 J2],fun _=>.tup [],fun r=>[some (.optr 142 (J5 r))],Tryz.func122⟩
def a5G(a:n6):Option n6 :=
 (bif (a.n.d9 != 2) then some a else (bif decide ((a.n.a6.length:Int)>=40) then some a else ((b4q a).bind fun next=>(bif (!next.2.1) then some next.2.2 else ((b2Q next.2.2.n.Acc next.2.2.n.a8 (next.2.2.n.a6.length:Int) next.1).bind fun a7s=>(bif (!a7s.2) then ((a9Z next.2.2).bind fun follow=>some follow) else ((b1s (n6.mk (j5.mk next.2.2.n.Id a7s.1 next.2.2.n.a6 next.2.2.n.Seq next.2.2.n.d9 next.2.2.n.a8 next.2.2.n.d7 next.2.2.n.g9 next.1 next.2.2.n.a5 next.2.2.n.i7 next.2.2.n.i5 next.2.2.n.b6 next.2.2.n.d8) next.2.2.out next.2.2.told)).bind fun D2=>((a2h (n6.mk (j5.mk D2.2.n.Id D2.2.n.Acc D2.2.n.a6 D2.2.n.Seq 3 D2.2.n.a8 D2.2.n.d7 D2.2.n.g9 D2.2.n.c8 D2.1 D2.2.n.i7 D2.2.n.i5 D2.2.n.b6 D2.2.n.d8) D2.2.out D2.2.told) (j7.mk 3 0 0 D2.2.n.a8 (D2.2.n.a6.length:Int) next.1 [])).bind fun all=>some all))))))))
theorem b1C{a}:OK a82 [.optr 142 (J5 a)] (a5G a) :=
 n7 _ fun r h=>rg<|j4 6 h (fun h=>B7 a<|fE h) (fun h=>j4 14 h (fun h=>B7 a<|fE h) (fun h=>rg<|j8 X1 d4d 1 h fun next h=>B7 a<|rg<|j4 1 h (fun h=>B7 next.2.2<|fE h) (fun h=>rg<|j8 a5z c6V 17 h fun a7s h=>rg<|j4 1 h (fun h=>rg<|j8 b60 c1t 1 h fun follow h=>B7 next.2.2<|B7 follow<|fE h) (fun h=>M3<|j8 c2q d15 2 h fun D2 h=>B7 next.2.2<|n5<|j8 a0F a41 14 h fun all h=>E9 D2.2.n.a6 D2.2.n.d7 D2.1 D2.2.out<|s4 D2.2.told<|B7 all<|fE h))))
def b3z:FS (j5×(List j7)×List m8):=⟨77,Tryz.f77,[.val A0 [],.val [some 13] [],.val [some 5] []],[none,none],[.val A0 [],.val [some 4] []],fun r=>.tup [.agg (z9 r.1),j9 13 p9 r.2.1,j9 5 u9 r.2.2],fun _=>[none,none],Tryz.func77⟩
def d8X:n6->KS:=fun a=>⟨b3z.k 11 [false,false,true],(bs 4 (.ptr 1 0 0::(bs 2 (.ptr 2 0 0::(bs 80 []))))),[some [],some [.var 53 [vi 0,vi 0,.nil,.nil,vi 0,vi 0,vi 0,.nil,.nil,.b false,vi 0,vi 0,.nil,.nil,vi 0,vi 0,.nil,.b false,.nil,.b false,vi 0,vi 0,.nil,.nil,vi 0,vi 0,.nil]],some [.var 142 (b1u a)]]++a1R a⟩
def b5Z(a:n6):Option (j5×(List j7)×List m8) :=
 ((a0W a).bind fun b5G=>some (b5G.1,b5G.2.1,b5G.2.2.1))
theorem e5V(r):NF b3z r d8X (fun s=>b5Z s):=fun a h=>PK<|rg<|j8 a3f a3M 1 h fun b5G h=>B7 a<|fE h
def b3j(n:j5)(prog:List o8):Option (j5×(List j7)×List m8) :=
 ((a3m n).bind fun C5=>(bif (!C5) then some ((j5.mk 0 (v6.mk 0 []) [] 0 0 0 [] [] (m4.mk false (p8.mk 0 0) (m9.mk [] [] 0 0)) [] false [] (m4.mk false (p8.mk 0 0) (m9.mk [] [] 0 0)) []),[],[]) else ((a6g n).bind fun begin=>(bif n.i7 then ((a0W begin).bind fun U6=>some (U6.1,U6.2.1,U6.2.2.1)) else (bif (n.Seq==1000) then ((a0W begin).bind fun a32=>some (a32.1,a32.2.1,a32.2.2.1)) else ((a7V prog).bind fun C7=>(bif (!C7) then ((a0W begin).bind fun a4c=>some (a4c.1,a4c.2.1,a4c.2.2.1)) else ((b6b n).bind fun b2J=>((b7t b2J.g8 prog).bind fun E5=>(((bif (n.d9==2) then ((a5G (n6.mk (j5.mk begin.n.Id begin.n.Acc begin.n.a6 (m7 (begin.n.Seq+1)) begin.n.d9 begin.n.a8 begin.n.d7 begin.n.g9 begin.n.c8 begin.n.a5 true prog (m4.mk false (p8.mk n.Id (m7 (begin.n.Seq+1))) E5) begin.n.d8) begin.out begin.told)).bind fun W3=>some (l8.brk W3)) else (bif (n.d9==0) then ((a2h (n6.mk (j5.mk begin.n.Id begin.n.Acc begin.n.a6 (m7 (begin.n.Seq+1)) begin.n.d9 begin.n.a8 begin.n.d7 begin.n.g9 begin.n.c8 begin.n.a5 true prog (m4.mk false (p8.mk n.Id (m7 (begin.n.Seq+1))) E5) begin.n.d8) begin.out begin.told) (j7.mk 7 0 0 0 0 (m4.mk false (p8.mk n.Id (m7 (begin.n.Seq+1))) E5) [])).bind fun all=>some (l8.brk all)) else some (l8.brk (n6.mk (j5.mk begin.n.Id begin.n.Acc begin.n.a6 (m7 (begin.n.Seq+1)) begin.n.d9 begin.n.a8 begin.n.d7 begin.n.g9 begin.n.c8 begin.n.a5 true prog (m4.mk false (p8.mk n.Id (m7 (begin.n.Seq+1))) E5) begin.n.d8) begin.out begin.told)))):Option (l8 (j5×(List j7)×List m8) n6)).bind fun x=>x.go some fun j=>b5Z j))))))))))
theorem d8h{n prog}:OK b3z [.agg (z9 n),j9 4 z0 prog] (b3j n prog) :=
 n7 _ fun r h=>n5<|j8 a0g a64 1 h fun C5 h=>j4 2 h (fun h=>rg<|fE h) (fun h=>rg<|j8 b2d b5M 1 h fun begin h=>rg<|j4 2 h (fun h=>rg<|j8 a3f a3M 1 h fun U6 h=>H1 begin.n<|B8 begin.out begin.told<|fE h) (fun h=>j4 7 h (fun h=>rg<|j8 a3f a3M 1 h fun a32 h=>H1 begin.n<|B8 begin.out begin.told<|fE h) (fun h=>j8 a2I b49 9 h fun C7 h=>j4 11 h (fun h=>rg<|j8 a3f a3M 1 h fun a4c h=>H1 begin.n<|B8 begin.out begin.told<|fE h) (fun h=>rg4<|j8 c62 e8d 10 h fun b2J h=>j8 O0 e43 13 h fun E5 h=>rg<|B0 h (e5V r) fun x1 h hc1=>rg<|j4 1 h (fun h=>rg<|j8 a82 b1C 1 h fun W3 h=>H1 begin.n<|B8 begin.out begin.told<|(o6 h hc1 fun hI=>sk [] [4,7] [(2,0),(9,0),(68,0),(68,1),(68,2),(68,3),(68,4)] hI)) (fun h=>rg<|j4 1 h (fun h=>rg<|j8 a0F a41 7 h fun all h=>H1 begin.n<|B8 begin.out begin.told<|(o6 h hc1 fun hI=>sk [] [4,7] [(2,0),(9,0),(76,0),(76,1),(76,2),(76,3),(76,4)] hI)) (fun h=>(o6 h hc1 fun hI=>s4 begin.n.d8<|sk [.frz (.cell 9 0 26) (none)] [4,7] [(2,0),(9,0),(9,1),(9,2),(9,3),(9,5),(9,6)] hI)))))))
def R9:FS (m5):=⟨78,Tryz.f78,[.val E2 om2],[none,none,none,none],[.val E2 om2,.val A0 [],.val [some 13] [],.val [some 5] []],fun r=>.agg (a6u r),fun _=>[none,none,none,none],Tryz.func78⟩
def c24(w:m5)(n:j5)(told:List m8):(List j7)->KS:=fun Net1=>⟨R9.k 4 [false],(bs 3 (j9 5 u9 told::(.ptr 1 0 0::(bs 3 (.ptr 3 0 0::(bs 45 [])))))),[some [l9 53 27 z9 (w.a9.set n.Id.toNat n),.dead,l9 70 3 z8 w.c9,l9 40 5 u9 w.Told],some [.var 28 [.own 0 0 27 0 (w.a9.set n.Id.toNat n).length,.own 2 0 13 0 Net1.length,.own 0 2 3 0 w.c9.length,.own 0 3 5 0 w.Told.length]],some [l9 68 13 p9 Net1],some [.var 28 [.nil,.nil,.nil,.nil]]]⟩
def c2J(w:m5)(n:j5)(Net1:List j7):(List m8)->KS:=fun Told1=>⟨R9.k 6 [false,false],(bs 4 (.ptr 1 0 0::(bs 3 (.ptr 4 0 0::(bs 45 []))))),[some [l9 53 27 z9 (w.a9.set n.Id.toNat n),.dead,l9 70 3 z8 w.c9,.dead],some [.var 28 [.own 0 0 27 0 (w.a9.set n.Id.toNat n).length,.own 2 0 13 0 Net1.length,.own 0 2 3 0 w.c9.length,.own 3 0 5 0 Told1.length]],some [l9 68 13 p9 Net1],some [l9 40 5 u9 Told1],some [.var 28 [.nil,.nil,.nil,.nil]]]⟩
def c07(w:m5)(n:j5)(Net1:List j7)(Told1:List m8):Option m5 :=
 some (m5.mk (w.a9.set n.Id.toNat n) Net1 w.c9 Told1)
theorem e6Y(w n Net1)(r):NF R9 r (c2J w n Net1) (fun s=>c07 w n Net1 s):=fun Told1 h=>PK<|rg<|E9 (w.a9.set n.Id.toNat n) Net1 w.c9 Told1<|fE h
def d2s(w:m5)(n:j5)(told:List m8)(Net1:List j7):((List m8)×Int)->KS:=fun (Told,v38)=>⟨R9.k 5 [false],(bs 4 (.ptr 1 0 0::(bs 3 (.ptr 3 0 0::(bs 27 (j9 5 u9 told::(vi (told.length:Int)::(vi v38::(bs 15 []))))))))),[some [l9 53 27 z9 (w.a9.set n.Id.toNat n),.dead,l9 70 3 z8 w.c9,.dead],some [.var 28 [.own 0 0 27 0 (w.a9.set n.Id.toNat n).length,.own 2 0 13 0 Net1.length,.own 0 2 3 0 w.c9.length,.own 4 0 5 0 Told.length]],some [l9 68 13 p9 Net1],some [.var 28 [.nil,.nil,.nil,.nil]],some [l9 40 5 u9 Told]]⟩
def d8y(w:m5)(n:j5)(told:List m8)(Net1:List j7)(v38:Int):(List m8)->KS:=fun Told2=>⟨R9.k 9 [false,true,true],(bs 4 (.ptr 1 0 0::(bs 3 (.ptr 4 0 0::(bs 27 (j9 5 u9 told::(vi (told.length:Int)::(vi v38::(bs 15 []))))))))),[some [l9 53 27 z9 (w.a9.set n.Id.toNat n),.dead,l9 70 3 z8 w.c9,.dead],some [.var 28 [.own 0 0 27 0 (w.a9.set n.Id.toNat n).length,.own 2 0 13 0 Net1.length,.own 0 2 3 0 w.c9.length,.own 3 0 5 0 Told2.length]],some [l9 68 13 p9 Net1],some [l9 40 5 u9 Told2],some [.var 28 [.nil,.nil,.nil,.nil]]]⟩
def b4z(v38:Int)(Told2:List m8):Option (l7 m5 ((List m8)×Int) (List m8)) :=
 some (l7.nxt (Told2,m7 (v38+1)))
theorem d3X(w n told Net1 v38)(lc:H8 R9 (c2J w n Net1) (d2s w n told Net1)):NL lc (d8y w n told Net1 v38) (fun s=>b4z v38 s):=fun Told2 h=>PK<|rg<|(lc.nx h fun hI=>sk [] [4,8,36,37,38] [(1,0),(2,0),(4,0),(3,0)] hI)
def a3n(told:List m8)(Told:List m8)(v38:Int):Option (l7 m5 ((List m8)×Int) (List m8)) :=
 (bif decide (v38<(told.length:Int)) then ((idx told v38).bind fun Y7=>(((bif decide ((Told.length:Int)<60) then (s7 ((Told.length+1)*40<=140737488355328) (some (l8.brk (Told++[Y7])))) else some (l8.brk Told)):Option (l8 (l7 m5 ((List m8)×Int) (List m8)) (List m8))).bind fun x=>x.go some fun j=>b4z v38 j)) else some (l7.brk Told))
theorem e27(w n told Net1):LQ R9 (c2J w n Net1) (d2s w n told Net1) (fun s=>a3n told s.1 s.2):=fun lc (Told,v38) h=>PK<|rg<|j4 0 h (fun h=>rg<|v5 u9 0 h fun Y7 b5b h=>B0 h (d3X w n told Net1 v38 lc) fun x2 h hc2=>rg<|j4 3 h (fun h=>rg<|tk 3 []<|s9 h fun e1 h=>E8 4 18 40 5 40 u9 Told Y7 e1<|D8 Y7<|(o6 h hc2 fun hI=>sk [] [4,8,36,37,38] [(1,0),(2,0),(18,0),(3,0)] hI)) (fun h=>(o6 h hc2 fun hI=>sk [] [4,8,36,37,38] [(1,0),(2,0),(4,0),(3,0)] hI))) (fun h=>(lc.bk h fun hI=>sk [] [4,8] [(1,0),(2,0),(4,0),(3,0)] hI))
def c2c(w:m5)(n:j5)(told:List m8)(Net1:List j7):Option m5 :=
 ((o9 (fun s:(List m8)×Int=>a3n told s.1 s.2) (w.Told,0)).bind fun x=>x.go (fun r=>some r) fun s=>c07 w n Net1 s)
theorem d5v(w n told)(r):NF R9 r (c24 w n told) (fun s=>c2c w n told s):=fun Net1 h=>PK<|rg<|lp (e27 w n told Net1) h (fun _ h=>R9.rt h) (e6Y w n Net1 r) fun hI=>sk [] [4,8,36,37,38] [(1,0),(2,0),(3,0),(0,3)] hI
def c4T(w:m5)(n:j5)(list:List j7)(told:List m8):((List j7)×Int)->KS:=fun (b9,v21)=>⟨R9.k 3 [],(bs 3 (j9 5 u9 told::(.ptr 1 0 0::(bs 3 (.ptr 2 0 0::(bs 10 (j9 13 p9 list::(vi (list.length:Int)::(vi v21::(bs 32 [])))))))))),[some [l9 53 27 z9 (w.a9.set n.Id.toNat n),.dead,l9 70 3 z8 w.c9,l9 40 5 u9 w.Told],some [.var 28 [.own 0 0 27 0 (w.a9.set n.Id.toNat n).length,.own 3 0 13 0 b9.length,.own 0 2 3 0 w.c9.length,.own 0 3 5 0 w.Told.length]],some [.var 28 [.nil,.nil,.nil,.nil]],some [l9 68 13 p9 b9]]⟩
def e44(w:m5)(n:j5)(list:List j7)(told:List m8)(v21:Int):(List j7)->KS:=fun Net2=>⟨R9.k 7 [true,true],(bs 3 (j9 5 u9 told::(.ptr 1 0 0::(bs 3 (.ptr 3 0 0::(bs 10 (j9 13 p9 list::(vi (list.length:Int)::(vi v21::(bs 32 [])))))))))),[some [l9 53 27 z9 (w.a9.set n.Id.toNat n),.dead,l9 70 3 z8 w.c9,l9 40 5 u9 w.Told],some [.var 28 [.own 0 0 27 0 (w.a9.set n.Id.toNat n).length,.own 2 0 13 0 Net2.length,.own 0 2 3 0 w.c9.length,.own 0 3 5 0 w.Told.length]],some [l9 68 13 p9 Net2],some [.var 28 [.nil,.nil,.nil,.nil]]]⟩
def b6A(v21:Int)(Net2:List j7):Option (l7 m5 ((List j7)×Int) (List j7)) :=
 some (l7.nxt (Net2,m7 (v21+1)))
theorem d51(w n list told v21)(lc:H8 R9 (c24 w n told) (c4T w n list told)):NL lc (e44 w n list told v21) (fun s=>b6A v21 s):=fun Net2 h=>PK<|rg<|(lc.nx h fun hI=>sk [] [3,4,8,19,20,21] [(1,0),(3,0),(2,0)] hI)
def a3k(list:List j7)(b9:List j7)(v21:Int):Option (l7 m5 ((List j7)×Int) (List j7)) :=
 (bif decide (v21<(list.length:Int)) then ((idx list v21).bind fun msg=>(((bif decide ((b9.length:Int)<40) then (s7 ((b9.length+1)*152<=140737488355328) (some (l8.brk (b9++[msg])))) else some (l8.brk b9)):Option (l8 (l7 m5 ((List j7)×Int) (List j7)) (List j7))).bind fun x=>x.go some fun j=>b6A v21 j)) else some (l7.brk b9))
theorem e8e(w n list told):LQ R9 (c24 w n told) (c4T w n list told) (fun s=>a3k list s.1 s.2):=fun lc (b9,v21) h=>PK<|rg<|j4 0 h (fun h=>rg<|v5 p9 0 h fun msg hmsg h=>B0 h (d51 w n list told v21 lc) fun x2 h hc2=>rg<|j4 3 h (fun h=>rg<|tk 3 B2<|s9 h fun e2 h=>E8 4 17 68 13 152 p9 b9 msg e2<|D8 msg<|(o6 h hc2 fun hI=>sk [] [3,4,8,19,20,21] [(1,0),(17,0),(2,0)] hI)) (fun h=>(o6 h hc2 fun hI=>sk [] [3,4,8,19,20,21] [(1,0),(3,0),(2,0)] hI))) (fun h=>(lc.bk h fun hI=>sk [] [3,4,8] [(1,0),(3,0),(2,0)] hI))
def a31(w:m5)(n:j5)(list:List j7)(told:List m8):Option m5 :=
 ((idx w.a9 n.Id).bind fun node=>((o9 (fun s:(List j7)×Int=>a3k list s.1 s.2) (w.b9,0)).bind fun x=>x.go (fun r=>some r) fun s=>c2c w n told s))
theorem a8p{w n list told}:OK R9 [.agg (a6u w),.agg (z9 n),j9 13 p9 list,j9 5 u9 told] (a31 w n list told) :=
 n7 _ fun r h=>n5<|A4 h fun node hnode h=>A9 hnode<|N8 53 27 z9 6 A0 n hnode<|rg<|lp (e8e w n list told) h (fun _ h=>R9.rt h) (d5v w n told r) fun hI=>om ((.own 0 0 27 0 w.a9.length:V)=.own 0 0 27 0 (w.a9.set n.Id.toNat n).length) (by simp)<|sk [.is (.cell 1 0 0) (.own 0 0 27 0 (w.a9.set n.Id.toNat n).length)] [3,4,8,19,20,21] [(1,0),(3,0),(0,1)] hI
def a7t:FS (Int):=⟨124,Tryz.f124,[.val [] []],[none,none],[.val [] [],.val [] []],fun r=>vi r,fun _=>[none,none],Tryz.func124⟩
def c7x:Unit->KS:=fun _=>⟨a7t.k 4 [false,false],(bs 28 []),[some []]⟩
def c4g:Option Int :=
 some (-1)
theorem d4M(r):NF a7t r c7x (fun s=>c4g):=fun _ h=>PK<|rg<|fE h
def e0D(who:Int):Int->KS:=fun n=>⟨a7t.k 3 [false],(bs 1 (vi who::(bs 3 (vi n::(bs 22 []))))),[some []]⟩
def a1z(who:Int)(n:Int):Option (l7 Int Int Unit) :=
 (bif decide (n<=3000) then (bif decide (n>0) then ((b0B n).bind fun a52=>(bif (a52==who) then some (l7.ret n) else some (l7.nxt (m7 (n+1))))) else some (l7.brk ())) else some (l7.brk ()))
theorem e7m(who):LQ a7t c7x (e0D who) (fun s=>a1z who s):=fun lc n h=>PK<|rg<|j4 2 h (fun h=>j4 5 h (fun h=>rg<|j8 b8w c46 1 h fun a52 h=>j4 3 h (fun h=>rg<|fL lc h) (fun h=>rg<|(lc.nx h fun hI=>sk [] [1,5] [] hI))) (fun h=>(lc.bk h fun hI=>sk [] [] [] hI))) (fun h=>(lc.bk h fun hI=>sk [] [] [] hI))
def b61(bal:Int)(who:Int):Option Int :=
 (bif decide (bal<0) then some (-1) else ((C0 who 0 2).bind fun in_=>(bif (!in_) then some (-1) else ((o9 (fun s:Int=>a1z who s) (m7 (bal+1))).bind fun x=>x.go (fun r=>some r) fun s=>c4g))))
theorem d33{bal who}:OK a7t [vi bal,vi who] (b61 bal who) :=
 n7 _ fun r h=>n5<|j4 2 h (fun h=>rg<|fE h) (fun h=>j8 B9 D1 4 h fun in_ h=>j4 6 h (fun h=>rg<|fE h) (fun h=>rg<|lp (e7m who) h (fun _ h=>a7t.rt h) (d4M r) fun hI=>sk [] [1,5] [] hI))
def b36:FS (v6×Bool):=⟨126,Tryz.f126,[.val [none,some 8] [],.val [] []],[none,none],[.val [none,some 8] [],.val [] []],fun r=>.tup [.agg (W9 r.1),.b r.2],fun _=>[none,none],Tryz.func126⟩
def a9L(a:v6)(bal:Int):Option (v6×Bool) :=
 ((a8O a).bind fun N4=>(bif (!N4) then some ((v6.mk 0 []),false) else ((a4q a).bind fun O7=>((C0 bal 1 3000).bind fun in_=>(bif (!in_) then some (O7,false) else (bif decide (bal<a.i4) then some (O7,false) else some ((v6.mk bal O7.a5),true)))))))
theorem c1e{a bal}:OK b36 [.agg (W9 a),vi bal] (a9L a bal) :=
 n7 _ fun r h=>n5<|j8 a3P b85 1 h fun N4 h=>j4 2 h (fun h=>rg<|fE h) (fun h=>rg<|j8 a6w a9m 1 h fun O7 h=>rg<|j8 B9 D1 1 h fun in_ h=>j4 3 h (fun h=>rg<|s4 O7.a5<|fE h) (fun h=>j4 8 h (fun h=>rg<|s4 O7.a5<|fE h) (fun h=>n5<|s4 O7.a5<|fE h)))
def b6O:FS (j5×List j7):=⟨79,Tryz.f79,[.val A0 [],.val [some 13] []],[none],[.val A0 []],fun r=>.tup [.agg (z9 r.1),j9 13 p9 r.2],fun _=>[none],Tryz.func79⟩
def e75:n6->KS:=fun a=>⟨b6O.k 12 [false,true],(bs 2 (.ptr 1 0 0::(bs 1 (.ptr 2 0 0::(bs 74 []))))),[some [],some [.var 53 [vi 0,vi 0,.nil,.nil,vi 0,vi 0,vi 0,.nil,.nil,.b false,vi 0,vi 0,.nil,.nil,vi 0,vi 0,.nil,.b false,.nil,.b false,vi 0,vi 0,.nil,.nil,vi 0,vi 0,.nil]],some [.var 142 (b1u a)]]++a1R a⟩
def a94(a:n6):Option (j5×List j7) :=
 ((a0W a).bind fun U6=>some (U6.1,U6.2.1))
theorem d62(r):NF b6O r e75 (fun s=>a94 s):=fun a h=>PK<|rg<|j8 a3f a3M 1 h fun U6 h=>B7 a<|rg<|fE h
def b6Y(n:j5):Option (j5×List j7) :=
 ((a3m n).bind fun C5=>(bif (!C5) then some ((j5.mk 0 (v6.mk 0 []) [] 0 0 0 [] [] (m4.mk false (p8.mk 0 0) (m9.mk [] [] 0 0)) [] false [] (m4.mk false (p8.mk 0 0) (m9.mk [] [] 0 0)) []),[]) else ((a6g n).bind fun begin=>((b61 n.Acc.i4 n.Id).bind fun a10=>(((bif decide (a10>=0) then ((a9Z begin).bind fun follow=>((a9L follow.n.Acc a10).bind fun S5=>((b1s (n6.mk (j5.mk follow.n.Id S5.1 follow.n.a6 follow.n.Seq 1 a10 follow.n.d7 follow.n.g9 follow.n.c8 follow.n.a5 follow.n.i7 follow.n.i5 follow.n.b6 follow.n.d8) follow.out follow.told)).bind fun D2=>((a2h (n6.mk (j5.mk D2.2.n.Id D2.2.n.Acc D2.2.n.a6 D2.2.n.Seq D2.2.n.d9 D2.2.n.a8 D2.1 D2.2.n.Acc.a5 D2.2.n.c8 D2.2.n.a5 D2.2.n.i7 D2.2.n.i5 D2.2.n.b6 D2.2.n.d8) D2.2.out D2.2.told) (j7.mk 1 0 0 a10 (n.a6.length:Int) (m4.mk false (p8.mk 0 0) (m9.mk [] [] 0 0)) [])).bind fun all=>some (l8.brk all))))) else some (l8.brk begin)):Option (l8 (j5×List j7) n6)).bind fun x=>x.go some fun j=>a94 j)))))
theorem e64{n}:OK b6O [.agg (z9 n)] (b6Y n) :=
 n7 _ fun r h=>n5<|j8 a0g a64 1 h fun C5 h=>j4 2 h (fun h=>rg<|fE h) (fun h=>rg<|j8 b2d b5M 1 h fun begin h=>rg<|j8 a7t d33 5 h fun a10 h=>B0 h (d62 r) fun x1 h hc1=>rg<|j4 1 h (fun h=>rg<|j8 b60 c1t 1 h fun follow h=>H1 begin.n<|B8 begin.out begin.told<|rg<|j8 b36 c1e 7 h fun S5 h=>M3<|j8 c2q d15 2 h fun D2 h=>B7 follow<|n5<|j8 a0F a41 6 h fun all h=>E9 D2.2.n.a6 D2.1 D2.2.n.a5 D2.2.out<|s4 D2.2.told<|(o6 h hc1 fun hI=>sk [] [2,4] [(2,0),(8,0),(71,0),(71,1),(71,2),(71,3),(71,4)] hI)) (fun h=>(o6 h hc1 fun hI=>s4 begin.n.d8<|sk [.frz (.cell 8 0 26) (none)] [2,4] [(2,0),(8,0),(8,1),(8,2),(8,3),(8,5),(8,6)] hI)))
def b5d:FS (j5×(List j7)×List m8):=⟨80,Tryz.f80,[.val A0 [],.val [some 13] [],.val [some 5] []],[none],[.val A0 []],fun r=>.tup [.agg (z9 r.1),j9 13 p9 r.2.1,j9 5 u9 r.2.2],fun _=>[none],Tryz.func80⟩
def d5K:n6->KS:=fun a=>⟨b5d.k 7 [false,true],(bs 2 (.ptr 1 0 0::(bs 2 (.ptr 2 0 0::(bs 55 []))))),[some [],some [.var 53 [vi 0,vi 0,.nil,.nil,vi 0,vi 0,vi 0,.nil,.nil,.b false,vi 0,vi 0,.nil,.nil,vi 0,vi 0,.nil,.b false,.nil,.b false,vi 0,vi 0,.nil,.nil,vi 0,vi 0,.nil]],some [.var 142 (b1u a)]]++a1R a⟩
def b6Q(a:n6):Option (j5×(List j7)×List m8) :=
 ((a0W a).bind fun U6=>some (U6.1,U6.2.1,U6.2.2.1))
theorem d29(r):NF b5d r d5K (fun s=>b6Q s):=fun a h=>PK<|rg<|j8 a3f a3M 1 h fun U6 h=>B7 a<|fE h
def b7D(n:j5):Option (j5×(List j7)×List m8) :=
 ((a3m n).bind fun C5=>(bif (!C5) then some ((j5.mk 0 (v6.mk 0 []) [] 0 0 0 [] [] (m4.mk false (p8.mk 0 0) (m9.mk [] [] 0 0)) [] false [] (m4.mk false (p8.mk 0 0) (m9.mk [] [] 0 0)) []),[],[]) else ((a6g n).bind fun begin=>((a2h begin (j7.mk 8 0 0 0 (n.a6.length:Int) (m4.mk false (p8.mk 0 0) (m9.mk [] [] 0 0)) [])).bind fun all=>(((bif (n.d9==1) then ((a2h all (j7.mk 1 0 0 n.a8 (n.a6.length:Int) (m4.mk false (p8.mk 0 0) (m9.mk [] [] 0 0)) [])).bind fun d0H=>some (l8.brk d0H)) else (bif (n.d9==2) then ((a5G all).bind fun W3=>some (l8.brk W3)) else (bif (n.d9==3) then ((a2h all (j7.mk 3 0 0 n.a8 (n.a6.length:Int) n.c8 [])).bind fun c9K=>some (l8.brk c9K)) else (bif n.i7 then ((a2h all (j7.mk 7 0 0 0 0 n.b6 [])).bind fun d0A=>some (l8.brk d0A)) else some (l8.brk all))))):Option (l8 (j5×(List j7)×List m8) n6)).bind fun x=>x.go some fun j=>b6Q j)))))
theorem d9I{n}:OK b5d [.agg (z9 n)] (b7D n) :=
 n7 _ fun r h=>n5<|j8 a0g a64 1 h fun C5 h=>j4 2 h (fun h=>rg<|fE h) (fun h=>rg<|j8 b2d b5M 1 h fun begin h=>n5<|j8 a0F a41 3 h fun all h=>H1 begin.n<|B8 begin.out begin.told<|B0 h (d29 r) fun x1 h hc1=>rg<|j4 3 h (fun h=>rg<|j8 a0F a41 5 h fun d0H h=>B7 all<|(o6 h hc1 fun hI=>sk [] [2,5] [(2,0),(9,0),(28,0),(28,1),(28,2),(28,3),(28,4)] hI)) (fun h=>rg<|j4 3 h (fun h=>rg<|j8 a82 b1C 1 h fun W3 h=>B7 all<|(o6 h hc1 fun hI=>sk [] [2,5] [(2,0),(9,0),(28,0),(28,1),(28,2),(28,3),(28,4)] hI)) (fun h=>rg<|j4 3 h (fun h=>rg<|j8 a0F a41 7 h fun c9K h=>B7 all<|(o6 h hc1 fun hI=>sk [] [2,5] [(2,0),(9,0),(38,0),(38,1),(38,2),(38,3),(38,4)] hI)) (fun h=>rg<|j4 2 h (fun h=>rg<|j8 a0F a41 4 h fun d0A h=>B7 all<|(o6 h hc1 fun hI=>sk [] [2,5] [(2,0),(9,0),(38,0),(38,1),(38,2),(38,3),(38,4)] hI)) (fun h=>(o6 h hc1 fun hI=>sk [] [2,5] [(2,0),(9,0),(18,0),(18,1),(18,2),(18,3),(18,4)] hI))))))
def c5z:FS (j5):=⟨81,Tryz.f81,[.val A0 []],[none],[.val A0 []],fun r=>.agg (z9 r),fun _=>[none],Tryz.func81⟩
def b5j(n:j5):Option j5 :=
 ((a3m n).bind fun C5=>(bif (!C5) then some (j5.mk 0 (v6.mk 0 []) [] 0 0 0 [] [] (m4.mk false (p8.mk 0 0) (m9.mk [] [] 0 0)) [] false [] (m4.mk false (p8.mk 0 0) (m9.mk [] [] 0 0)) []) else ((a67 (j5.mk n.Id n.Acc n.a6 n.Seq 0 0 [] [] (m4.mk false (p8.mk 0 0) (m9.mk [] [] 0 0)) [] false [] (m4.mk false (p8.mk 0 0) (m9.mk [] [] 0 0)) [])).bind fun U3=>some U3)))
theorem d7e{n}:OK c5z [.agg (z9 n)] (b5j n) :=
 n7 _ fun r h=>n5<|j8 a0g a64 1 h fun C5 h=>j4 2 h (fun h=>rg<|fE h) (fun h=>rg<|j8 b0i b4i 9 h fun U3 h=>H1 U3<|fE h)
def a7T:FS (m5):=⟨36,Tryz.f36,[.val E2 om2],[none,none],[.val E2 om2,.val [none,none,some 4] []],fun r=>.agg (a6u r),fun _=>[none,none],Tryz.func36⟩
def d54:m5->KS:=fun w1=>⟨a7T.k 9 [true,false,true],(bs 2 (.ptr 1 0 0::(bs 1 (.ptr 6 0 0::(bs 86 []))))),[some [.dead,.dead,.dead,.dead],some [.var 28 [.own 2 0 27 0 w1.a9.length,.own 3 0 13 0 w1.b9.length,.own 4 0 3 0 w1.c9.length,.own 5 0 5 0 w1.Told.length]],some [l9 53 27 z9 w1.a9],some [l9 68 13 p9 w1.b9],some [l9 70 3 z8 w1.c9],some [l9 40 5 u9 w1.Told],some [.var 28 [.nil,.nil,.nil,.nil]]]⟩
def b4B(w1:m5):Option m5 :=
 some w1
theorem d8b(r):NF a7T r d54 (fun s=>b4B s):=fun w1 h=>PK<|rg<|A2 w1<|fE h
def a5Q(w:m5)(e_:p6):Option m5 :=
 ((idx w.a9 e_.A).bind fun node=>(((bif (e_.a7==1) then (bif decide ((w.c9.length:Int)>=60) then some (l8.ret w) else ((b3j node e_.i5).bind fun G6=>((a31 w G6.1 G6.2.1 G6.2.2).bind fun a1V=>(bif (G6.1.Seq != node.Seq) then (s7 ((a1V.c9.length+1)*40<=140737488355328) (some (l8.brk (m5.mk a1V.a9 a1V.b9 (a1V.c9++[(u5.mk (p8.mk node.Id G6.1.Seq) e_.i5)]) a1V.Told)))) else some (l8.brk a1V))))) else (bif (e_.a7==5) then ((b6Y node).bind fun a0d=>((a31 w a0d.1 a0d.2 []).bind fun b1j=>some (l8.brk b1j))) else (bif (e_.a7==6) then ((b7D node).bind fun U8=>((a31 w U8.1 U8.2.1 U8.2.2).bind fun c3S=>some (l8.brk c3S))) else (bif (e_.a7==7) then ((b5j node).bind fun a0N=>((a31 w a0N [] []).bind fun c8A=>some (l8.brk c8A))) else some (l8.brk w))))):Option (l8 m5 m5)).bind fun x=>x.go some fun j=>b4B j))
theorem b3k{w e_}:OK a7T [.agg (a6u w),.agg (F6 e_)] (a5Q w e_) :=
 n7 _ fun r h=>n5<|A4 h fun node hnode h=>A9 hnode<|G7 z9 5 hnode<|rg<|B0 h (d8b r) fun x1 h hc1=>rg<|j4 1 h (fun h=>rg<|j4 3 h (fun h=>rg<|(B4 h hc1 fun h=>A2 w<|fE h)) (fun h=>rg<|j8 b3z d8h 3 h fun G6 h=>rg<|j8 R9 a8p 4 h fun a1V h=>A2 w<|rg<|j4 4 h (fun h=>rg<|tk 10 [none,none,some 4]<|s9 h fun e1 h=>E8 11 54 70 3 40 z8 a1V.c9 (u5.mk (p8.mk node.Id G6.1.Seq) e_.i5) e1<|D8 (u5.mk (p8.mk node.Id G6.1.Seq) e_.i5)<|(o6 h hc1 fun hI=>sk [] [2,4] [(1,0),(36,0),(36,1),(54,0),(36,3),(3,0)] hI)) (fun h=>(o6 h hc1 fun hI=>sk [] [2,4] [(1,0),(36,0),(36,1),(36,2),(36,3),(3,0)] hI)))) (fun h=>rg<|j4 1 h (fun h=>rg<|j8 b6O e64 1 h fun a0d h=>rg<|j8 R9 a8p 3 h fun b1j h=>A2 w<|(o6 h hc1 fun hI=>sk [] [2,4] [(1,0),(29,0),(29,1),(29,2),(29,3),(3,0)] hI)) (fun h=>rg<|j4 1 h (fun h=>rg<|j8 b5d d9I 1 h fun U8 h=>rg<|j8 R9 a8p 4 h fun c3S h=>A2 w<|(o6 h hc1 fun hI=>sk [] [2,4] [(1,0),(34,0),(34,1),(34,2),(34,3),(3,0)] hI)) (fun h=>rg<|j4 1 h (fun h=>rg<|j8 c5z d7e 2 h fun a0N h=>j8 R9 a8p 3 h fun c8A h=>A2 w<|(o6 h hc1 fun hI=>sk [] [2,4] [(1,0),(25,0),(25,1),(25,2),(25,3),(3,0)] hI)) (fun h=>(o6 h hc1 fun hI=>sk [] [2,4] [(1,0),(0,0),(0,1),(0,2),(0,3),(3,0)] hI)))))
def c1O:FS (List j7):=⟨82,Tryz.f82,[.val [some 13] [some 68]],[none,none],[.val [some 13] [],.val [] []],fun r=>t7 68 13 p9 r,fun _=>[none,none],Tryz.func82⟩
def b1B(list:List j7)(at_:Int):Option (List j7) :=
 (s7 ((0:Int)<=at_/\at_<=(list.length:Int)) ((s7 ((([]:List j7).length+((list.drop 0).take (at_.toNat-0)).length)*152<=140737488355328) ((s7 ((0:Int)<=m7 (at_+1)/\m7 (at_+1)<=(list.length:Int)) ((s7 (((([]:List j7)++((list.drop 0).take (at_.toNat-0))).length+((list.drop (m7 (at_+1)).toNat).take (list.length-(m7 (at_+1)).toNat)).length)*152<=140737488355328) (some ((([]:List j7)++((list.drop 0).take (at_.toNat-0)))++((list.drop (m7 (at_+1)).toNat).take (list.length-(m7 (at_+1)).toNat)))))))))))
theorem c5v{list at_}:OK c1O [j9 13 p9 list,vi at_] (b1B list at_) :=
 n7 _ fun r h=>n5<|tk 0 B2<|s9 h fun e1 h=>om (V.sl 13 (at_.toNat-0) (((list.map p9).drop 0).take (at_.toNat-0))=j9 13 p9 ((list.drop 0).take (at_.toNat-0))) (b7o e1)<|ob e1.1<|ob e1.2<|tl (3,{v:=some (j9 13 p9 ((list.drop 0).take (at_.toNat-0)))})<|s9 h fun e2 h=>om (V.own 6 0 13 0 (([]:List j7).length+((list.drop 0).take (at_.toNat-0)).length)=.own 6 0 13 0 (([]:List j7)++((list.drop 0).take (at_.toNat-0))).length) (by first|exact congrArg (V.own 6 0 13 0) e8O.symm|simp)<|om (r9.row 68 13 (([]:List j7).length+((list.drop 0).take (at_.toNat-0)).length) (([]:List j7).map p9++((list.drop 0).take (at_.toNat-0)).map p9)=l9 68 13 p9 (([]:List j7)++((list.drop 0).take (at_.toNat-0)))) (by first|exact b9a rfl rfl|simp [l9])<|B3 j7<|ob e2<|tl (4,{v:=some (.own 6 0 13 0 (([]:List j7)++((list.drop 0).take (at_.toNat-0))).length),e:=some (l9 68 13 p9 (([]:List j7)++((list.drop 0).take (at_.toNat-0))))})<|s9 h fun e3 h=>om (V.sl 13 (list.length-(m7 (at_+1)).toNat) (((list.map p9).drop (m7 (at_+1)).toNat).take (list.length-(m7 (at_+1)).toNat))=j9 13 p9 ((list.drop (m7 (at_+1)).toNat).take (list.length-(m7 (at_+1)).toNat))) (b3Z e3)<|ob e3.1<|ob e3.2<|tl (8,{v:=some (j9 13 p9 ((list.drop (m7 (at_+1)).toNat).take (list.length-(m7 (at_+1)).toNat)))})<|s9 h fun e4 h=>apL 9 11 68 13 152 p9 (([]:List j7)++((list.drop 0).take (at_.toNat-0))) ((list.drop (m7 (at_+1)).toNat).take (list.length-(m7 (at_+1)).toNat)) e4<|s4 ((([]:List j7)++((list.drop 0).take (at_.toNat-0)))++((list.drop (m7 (at_+1)).toNat).take (list.length-(m7 (at_+1)).toNat)))<|fE h
def b6T:FS (n6):=⟨133,Tryz.f133,[],[some (0,.ptr G5 J2),none],[.ptr G5 J2,.val [] []],fun _=>.tup [],fun r=>[some (.optr 142 (J5 r)),none],Tryz.func133⟩
def a8K(a:n6)(bal:Int):Option n6 :=
 (bif (a.n.d9 != 0) then (bif decide (bal>a.n.a8) then ((a9Z a).bind fun follow=>some follow) else some a) else some a)
theorem b9S{a bal}:OK b6T [.optr 142 (J5 a),vi bal] (a8K a bal) :=
 n7 _ fun r h=>rg<|j4 6 h (fun h=>j4 14 h (fun h=>rg<|j8 b60 c1t 1 h fun follow h=>B7 a<|B7 follow<|fE h) (fun h=>B7 a<|fE h)) (fun h=>B7 a<|fE h)
def b7w:FS (n6):=⟨128,Tryz.f128,[],[some (0,.ptr G5 J2),none],[.ptr G5 J2,.val B2 []],fun _=>.tup [],fun r=>[some (.optr 142 (J5 r)),none],Tryz.func128⟩
def d76(m:j7)(yield:n6):(List m6)->KS:=fun b4O=>⟨b7w.k 8 [false,true],(.ptr 0 0 0::(bs 2 (.ptr 6 0 0::(bs 2 (j9 8 o7 b4O::(bs 54 [])))))),[some [.var 142 (b1A yield),.dead,.dead,.dead,.dead,.dead]]++a1R yield++[some [.var 68 (a3K m)]]⟩
def b6p(m:j7)(yield:n6)(b4O:List m6):Option n6 :=
 ((a2Z yield m.d7 (j7.mk 2 0 0 m.a8 m.g7 (m4.mk false (p8.mk 0 0) (m9.mk [] [] 0 0)) b4O)).bind fun a71=>some a71)
theorem d5I(m yield)(r):NF b7w r (d76 m yield) (fun s=>b6p m yield s):=fun b4O h=>PK<|rg<|j8 a56 a7k 9 h fun a71 h=>B7 yield<|B7 a71<|fE h
def b3J(a:n6)(m:j7):Option n6 :=
 ((a9L a.n.Acc m.a8).bind fun S5=>(bif (!S5.2) then ((a2Z a m.d7 (j7.mk 6 0 0 a.n.Acc.i4 0 (m4.mk false (p8.mk 0 0) (m9.mk [] [] 0 0)) [])).bind fun W7=>some W7) else ((a8K (n6.mk (j5.mk a.n.Id S5.1 a.n.a6 a.n.Seq a.n.d9 a.n.a8 a.n.d7 a.n.g9 a.n.c8 a.n.a5 a.n.i7 a.n.i5 a.n.b6 a.n.d8) a.out a.told) m.a8).bind fun yield=>(((bif decide (m.g7<(S5.1.a5.length:Int)) then (s7 ((0:Int)<=m.g7/\m.g7<=(S5.1.a5.length:Int)) (some (l8.brk ((S5.1.a5.drop m.g7.toNat).take (S5.1.a5.length-m.g7.toNat))))) else some (l8.brk [])):Option (l8 n6 (List m6))).bind fun x=>x.go some fun j=>b6p m yield j))))
theorem e4L{a m}:OK b7w [.optr 142 (J5 a),.agg (p9 m)] (b3J a m) :=
 n7 _ fun r h=>n5<|j8 b36 c1e 7 h fun S5 h=>rg<|j4 1 h (fun h=>rg<|j8 a56 a7k 10 h fun W7 h=>B7 a<|B7 W7<|fE h) (fun h=>n5<|j8 b6T b9S 3 h fun yield h=>B7 a<|rg<|B0 h (d5I m yield r) fun x1 h hc1=>rg<|j4 5 h (fun h=>rg<|s9 h fun e1 h=>om (V.sl 8 (S5.1.a5.length-m.g7.toNat) (((S5.1.a5.map o7).drop m.g7.toNat).take (S5.1.a5.length-m.g7.toNat))=j9 8 o7 ((S5.1.a5.drop m.g7.toNat).take (S5.1.a5.length-m.g7.toNat))) (b3Z e1)<|ob e1.1<|ob e1.2<|tl (4,{v:=some (j9 8 o7 ((S5.1.a5.drop m.g7.toNat).take (S5.1.a5.length-m.g7.toNat)))})<|(o6 h hc1 fun hI=>sk [] [0,3,6] [(27,0),(27,1),(27,2),(27,3),(27,4),(1,0)] hI)) (fun h=>(o6 h hc1 fun hI=>sk [.frz (.tmp 6) (some 8)] [0,3,6] [(27,0),(27,1),(27,2),(27,3),(27,4),(1,0)] hI)))
def a13:FS (List m6):=⟨166,Tryz.f166,[.val [some 8] []],[none,none],[.val [some 8] [],.val [some 8] []],fun r=>j9 8 o7 r,fun _=>[none,none],Tryz.func166⟩
def b5r:(List m6)->KS:=fun out1=>⟨a13.k 5 [false,false],(bs 5 (.own 1 0 8 0 out1.length::(bs 67 []))),[some [],some [l9 126 8 o7 out1]]⟩
def b9u(out1:List m6):Option (List m6) :=
 ((a7w out1).bind fun Z6=>some Z6)
theorem d5E(r):NF a13 r b5r (fun s=>b9u s):=fun out1 h=>PK<|rg<|j8 a2M b5P 1 h fun Z6 h=>B8 out1 Z6<|fE h
def c1E(a:List m6)(b:List m6):((List m6)×Int)->KS:=fun (out,i)=>⟨a13.k 4 [false],(j9 8 o7 a::(j9 8 o7 b::(bs 3 (.own 1 0 8 0 out.length::(vi i::(bs 66 [])))))),[some [],some [l9 126 8 o7 out]]⟩
def e6i(a:List m6)(b:List m6)(out:List m6)(i:Int):Unit->KS:=fun _=>⟨a13.k 5 [false,true],(j9 8 o7 a::(j9 8 o7 b::(bs 3 (.own 1 0 8 0 out.length::(vi i::(bs 66 [])))))),[some [],some [l9 126 8 o7 out]]⟩
def e46(a:List m6)(b:List m6)(i:Int):(List m6)->KS:=fun out2=>⟨a13.k 7 [false,true,true],(j9 8 o7 a::(j9 8 o7 b::(bs 3 (.own 1 0 8 0 out2.length::(vi i::(bs 66 [])))))),[some [],some [l9 126 8 o7 out2]]⟩
def c1I(i:Int)(out2:List m6):Option (l7 (List m6) ((List m6)×Int) (List m6)) :=
 some (l7.nxt (out2,m7 (i+1)))
theorem e5c(a b i)(lc:H8 a13 b5r (c1E a b)):NL lc (e46 a b i) (fun s=>c1I i s):=fun out2 h=>PK<|rg<|(lc.nx h fun hI=>sk [] [0,1,5,6] [(1,0)] hI)
def b3f(a:List m6)(b:List m6)(out:List m6)(i:Int):Option (l7 (List m6) ((List m6)×Int) (List m6)) :=
 (((bif decide (i>=(a.length:Int)) then ((idx b i).bind fun vote=>(s7 ((out.length+1)*96<=140737488355328) (some (l8.brk (out++[vote]))))) else (bif decide (i>=(b.length:Int)) then ((idx a i).bind fun Q6=>(s7 ((out.length+1)*96<=140737488355328) (some (l8.brk (out++[Q6]))))) else ((idx a i).bind fun b2c=>((idx b i).bind fun b01=>(bif decide (b2c.a8>=b01.a8) then (s7 ((out.length+1)*96<=140737488355328) (some (l8.brk (out++[b2c])))) else (s7 ((out.length+1)*96<=140737488355328) (some (l8.brk (out++[b01]))))))))):Option (l8 (l7 (List m6) ((List m6)×Int) (List m6)) (List m6))).bind fun x=>x.go some fun j=>c1I i j)
theorem d9O(a b out i)(lc:H8 a13 b5r (c1E a b)):NL lc (e6i a b out i) (fun s=>b3f a b out i):=fun _ h=>PK<|B0 h (e5c a b i lc) fun x2 h hc2=>rg<|j4 4 h (fun h=>rg<|v5 o7 3 h fun vote L7 h=>tk 5 S7<|s9 h fun e1 h=>E8 6 13 126 8 96 o7 out vote e1<|D8 vote<|(o6 h hc2 fun hI=>sk [] [0,1,5,6] [(13,0)] hI)) (fun h=>rg<|j4 4 h (fun h=>rg<|v5 o7 3 h fun Q6 a2P h=>tk 5 S7<|s9 h fun e2 h=>E8 6 31 126 8 96 o7 out Q6 e2<|D8 Q6<|(o6 h hc2 fun hI=>sk [] [0,1,5,6] [(31,0)] hI)) (fun h=>v5 o7 7 h fun b2c e1g h=>v5 o7 12 h fun b01 e7w h=>j4 17 h (fun h=>rg<|I5 o7 3 e1g<|tk 5 S7<|s9 h fun e3 h=>E8 6 31 126 8 96 o7 out b2c e3<|D8 b2c<|(o6 h hc2 fun hI=>sk [] [0,1,5,6] [(31,0)] hI)) (fun h=>rg<|I5 o7 3 e7w<|tk 5 S7<|s9 h fun e4 h=>E8 6 31 126 8 96 o7 out b01 e4<|D8 b01<|(o6 h hc2 fun hI=>sk [] [0,1,5,6] [(31,0)] hI))))
def a4M(a:List m6)(b:List m6)(out:List m6)(i:Int):Option (l7 (List m6) ((List m6)×Int) (List m6)) :=
 (((bif decide (i<(a.length:Int)) then some (l8.brk ()) else (bif decide (i<(b.length:Int)) then some (l8.brk ()) else some (l8.ret (l7.brk out)))):Option (l8 (l7 (List m6) ((List m6)×Int) (List m6)) Unit)).bind fun x=>x.go some fun j=>b3f a b out i)
theorem e2b(a b):LQ a13 b5r (c1E a b) (fun s=>a4M a b s.1 s.2):=fun lc (out,i) h=>PK<|B0 h (d9O a b out i lc) fun x2 h hc2=>rg<|j4 4 h (fun h=>(o6 h hc2 fun hI=>sk [] [0,1,5,6] [(1,0)] hI)) (fun h=>j4 9 h (fun h=>(o6 h hc2 fun hI=>sk [] [0,1,5,6] [(1,0)] hI)) (fun h=>(B4 h hc2 fun h=>(lc.bk h fun hI=>sk [] [5] [(1,0)] hI))))
def b3U(a:List m6)(b:List m6):Option (List m6) :=
 ((a4Y a).bind fun K4=>(bif (!K4) then some [] else ((a4Y b).bind fun c5D=>(bif (!c5D) then some [] else ((o9 (fun s:(List m6)×Int=>a4M a b s.1 s.2) ([],0)).bind fun x=>x.go (fun r=>some r) fun s=>b9u s)))))
theorem e0P{a b}:OK a13 [j9 8 o7 a,j9 8 o7 b] (b3U a b) :=
 n7 _ fun r h=>n5<|j8 a1Q b1t 1 h fun K4 h=>j4 3 h (fun h=>rg<|fE h) (fun h=>j8 a1Q b1t 5 h fun c5D h=>j4 7 h (fun h=>rg<|fE h) (fun h=>n5<|lp (e2b a b) h (fun _ h=>a13.rt h) (d5E r) fun hI=>sk [.own (.tmp 5) 126 8] [0,1,5,6] [(12,0)] hI))
def a2V:FS (Int):=⟨167,Tryz.f167,[.val [] []],[none],[.val [some 1] []],fun r=>vi r,fun _=>[none],Tryz.func167⟩
def c2u:Int->KS:=fun n1=>⟨a2V.k 4 [false],(bs 3 (vi n1::(bs 13 []))),[some []]⟩
def c3O(n1:Int):Option Int :=
 some n1
theorem e6G(r):NF a2V r c2u (fun s=>c3O s):=fun n1 h=>PK<|rg<|fE h
def d07(list:List Bool):(Int×Int)->KS:=fun (n,v8)=>⟨a2V.k 3 [],(bs 3 (vi n::(bs 2 (j9 1 eB list::(vi (list.length:Int)::(vi v8::(bs 8 []))))))),[some []]⟩
def e61(list:List Bool)(v8:Int):Int->KS:=fun n2=>⟨a2V.k 7 [true,true],(bs 3 (vi n2::(bs 2 (j9 1 eB list::(vi (list.length:Int)::(vi v8::(bs 8 []))))))),[some []]⟩
def c0F(v8:Int)(n2:Int):Option (l7 Int (Int×Int) Int) :=
 some (l7.nxt (n2,m7 (v8+1)))
theorem e7P(list v8)(lc:H8 a2V c2u (d07 list)):NL lc (e61 list v8) (fun s=>c0F v8 s):=fun n2 h=>PK<|rg<|(lc.nx h fun hI=>sk [] [3,6,7,8] [] hI)
def a30(list:List Bool)(n:Int)(v8:Int):Option (l7 Int (Int×Int) Int) :=
 (bif decide (v8<(list.length:Int)) then ((idx list v8).bind fun y=>(((bif y then some (l8.brk (m7 (n+1))) else some (l8.brk n)):Option (l8 (l7 Int (Int×Int) Int) Int)).bind fun x=>x.go some fun j=>c0F v8 j)) else some (l7.brk n))
theorem e1U(list):LQ a2V c2u (d07 list) (fun s=>a30 list s.1 s.2):=fun lc (n,v8) h=>PK<|rg<|j4 0 h (fun h=>rg<|v5 eB 0 h fun y hy h=>B0 h (e7P list v8 lc) fun x2 h hc2=>rg<|j4 0 h (fun h=>rg<|(o6 h hc2 fun hI=>sk [] [3,6,7,8] [] hI)) (fun h=>(o6 h hc2 fun hI=>sk [] [3,6,7,8] [] hI))) (fun h=>(lc.bk h fun hI=>sk [] [3] [] hI))
def b1o(list:List Bool):Option Int :=
 ((o9 (fun s:Int×Int=>a30 list s.1 s.2) (0,0)).bind fun x=>x.go (fun r=>some r) fun s=>c3O s)
theorem c8c{list}:OK a2V [j9 1 eB list] (b1o list) :=
 n7 _ fun r h=>M3<|lp (e1U list) h (fun _ h=>a2V.rt h) (e6G r) fun hI=>sk [] [3,6,7,8] [] hI
def c7j:FS (n6):=⟨129,Tryz.f129,[],[some (0,.ptr G5 J2),none],[.ptr G5 J2,.val B2 []],fun _=>.tup [],fun r=>[some (.optr 142 (J5 r)),none],Tryz.func129⟩
def b7J(a:n6)(m:j7):Option n6 :=
 (bif (a.n.d9 != 1) then some a else (bif (m.a8 != a.n.a8) then some a else ((idx a.n.d7 m.d7).bind fun y=>(s7 (0<=m.g7/\m.g7*96<=140737488355328) ((s7 (((e8E m.g7.toNat (m6.mk 0 (m4.mk false (p8.mk 0 0) (m9.mk [] [] 0 0)))).length+m.a5.length)*96<=140737488355328) (((b3U a.n.g9 ((e8E m.g7.toNat (m6.mk 0 (m4.mk false (p8.mk 0 0) (m9.mk [] [] 0 0))))++m.a5)).bind fun b8d=>((b1o (a.n.d7.set m.d7.toNat true)).bind fun b0s=>(bif decide (b0s>=2) then ((a5G (n6.mk (j5.mk a.n.Id a.n.Acc a.n.a6 a.n.Seq 2 a.n.a8 [] b8d a.n.c8 a.n.a5 a.n.i7 a.n.i5 a.n.b6 a.n.d8) a.out a.told)).bind fun W3=>some W3) else some (n6.mk (j5.mk a.n.Id a.n.Acc a.n.a6 a.n.Seq a.n.d9 a.n.a8 (a.n.d7.set m.d7.toNat true) b8d a.n.c8 a.n.a5 a.n.i7 a.n.i5 a.n.b6 a.n.d8) a.out a.told)))))))))))
theorem d5T{a m}:OK c7j [.optr 142 (J5 a),.agg (p9 m)] (b7J a m) :=
 n7 _ fun r h=>n5<|j4 6 h (fun h=>B7 a<|fE h) (fun h=>j4 15 h (fun h=>B7 a<|fE h) (fun h=>rg<|A4 h fun y hy h=>A9 hy<|N8 4 1 eB 8 [] true hy<|rg<|s9 h fun e1 h=>S6 8 35 126 8 96 o7 (m6.mk 0 (m4.mk false (p8.mk 0 0) (m9.mk [] [] 0 0))) b2H (.ck S7) e1 (by decide) (by rfl)<|s9 h fun e2 h=>apL 11 38 126 8 96 o7 (e8E m.g7.toNat (m6.mk 0 (m4.mk false (p8.mk 0 0) (m9.mk [] [] 0 0)))) m.a5 e2<|j8 a13 e0P 12 h fun b8d h=>s4 ((e8E m.g7.toNat (m6.mk 0 (m4.mk false (p8.mk 0 0) (m9.mk [] [] 0 0))))++m.a5)<|rg<|R0 a2V c8c 5 1 h fun b0s h=>om (a.n.d7.length=(a.n.d7.set m.d7.toNat true).length) (by simp)<|j4 6 h (fun h=>M3<|j8 a82 b1C 1 h fun W3 h=>E9 a.n.a6 a.n.a5 a.out a.told<|B7 W3<|fE h) (fun h=>s4 a.n.a6<|om (a.n.d7.length=(a.n.d7.set m.d7.toNat true).length) (by simp)<|U5 a.n.a5 a.out a.told<|fE h)))
def c3P:FS (n6):=⟨130,Tryz.f130,[],[some (0,.ptr G5 J2),none],[.ptr G5 J2,.val B2 []],fun _=>.tup [],fun r=>[some (.optr 142 (J5 r)),none],Tryz.func130⟩
def b4w(a:n6)(m:j7):Option n6 :=
 ((b2Q a.n.Acc m.a8 m.g7 m.i0).bind fun a7s=>(bif (!a7s.2) then ((a2Z a m.d7 (j7.mk 6 0 0 a.n.Acc.i4 0 (m4.mk false (p8.mk 0 0) (m9.mk [] [] 0 0)) [])).bind fun W7=>some W7) else ((a8K (n6.mk (j5.mk a.n.Id a7s.1 a.n.a6 a.n.Seq a.n.d9 a.n.a8 a.n.d7 a.n.g9 a.n.c8 a.n.a5 a.n.i7 a.n.i5 a.n.b6 a.n.d8) a.out a.told) m.a8).bind fun yield=>((a2Z yield m.d7 (j7.mk 4 0 0 m.a8 m.g7 (m4.mk false (p8.mk 0 0) (m9.mk [] [] 0 0)) [])).bind fun a71=>some a71))))
theorem e1K{a m}:OK c3P [.optr 142 (J5 a),.agg (p9 m)] (b4w a m) :=
 n7 _ fun r h=>n5<|j8 a5z c6V 11 h fun a7s h=>rg<|j4 1 h (fun h=>rg<|j8 a56 a7k 10 h fun W7 h=>B7 a<|B7 W7<|fE h) (fun h=>n5<|j8 b6T b9S 3 h fun yield h=>B7 a<|rg<|j8 a56 a7k 8 h fun a71 h=>B7 yield<|B7 a71<|fE h)
def a1s:FS (n6):=⟨168,Tryz.f168,[],[some (0,.ptr G5 J2),none],[.ptr G5 J2,.val I4 []],fun _=>.tup [],fun r=>[some (.optr 142 (J5 r)),none],Tryz.func168⟩
def e0J:n6->KS:=fun a1=>⟨a1s.k 6 [true],(.ptr 0 0 0::(bs 123 [])),[some ([.var 142 (c7V a1),.dead,l9 4 1 eB a1.n.d7,.dead]++c7R a1)]++d1o a1⟩
def c3T:n6->KS:=fun a2=>⟨a1s.k 16 [true,true,true],(.ptr 0 0 0::(bs 123 [])),[some [.var 142 (d9D a2),.dead,l9 4 1 eB a2.n.d7,.dead,l9 68 13 p9 a2.out,.dead]]++e1k a2⟩
def b34(a2:n6):Option n6 :=
 ((a5G a2).bind fun W3=>some W3)
theorem e0F(r):NF a1s r c3T (fun s=>b34 s):=fun a2 h=>PK<|rg<|j8 a82 b1C 1 h fun W3 h=>B7 a2<|B7 W3<|fE h
def d85(a1:n6)(y:Int):Int->KS:=fun a8g=>⟨a1s.k 12 [true,true,true],(.ptr 0 0 0::(bs 6 (.ptr 3 0 0::(bs 116 [])))),[some ([.var 142 (c7V a1),.dead,l9 4 1 eB a1.n.d7,.dead]++c7R a1)]++d1o a1++[some [.var 40 [vi a1.n.Id,vi a1.n.b6.a0.d6,vi a1.n.b6.a0.Seq,vi y,vi a8g]]]⟩
def b7S(a1:n6)(y:Int)(a8g:Int):Option (l8 n6 n6) :=
 (s7 ((a1.told.length+1)*40<=140737488355328) (some (l8.brk (n6.mk (j5.mk a1.n.Id a1.n.Acc a1.n.a6 a1.n.Seq a1.n.d9 a1.n.a8 a1.n.d7 a1.n.g9 a1.n.c8 a1.n.a5 false [] (m4.mk false (p8.mk 0 0) (m9.mk [] [] 0 0)) a1.n.d8) a1.out (a1.told++[(m8.mk a1.n.Id a1.n.b6.a0 y a8g)])))))
theorem e0N(a1 y)(r){x1}(hc1:JC (fun j=>FK cx a1s.X (a1s.R r) (a1s.O r) (c3T j)) r x1):NG a1s r (d85 a1 y) (fun s=>b7S a1 y s) x1:=fun a8g h=>PK<|rg<|tk 6 []<|s9 h fun e2 h=>E8 7 11 40 5 40 u9 a1.told (m8.mk a1.n.Id a1.n.b6.a0 y a8g) e2<|D8 (m8.mk a1.n.Id a1.n.b6.a0 y a8g)<|M3<|(o6 h hc1 fun hI=>sk [.frz (.cell 0 0 18) (some 4),.frz (.cell 0 0 22) (some 2),.frz (.cell 0 0 23) (some 2)] [0] [(1,0),(2,0),(11,0)] hI)
def b4G(a1:n6):Option n6 :=
 ((a8q a1.n.a6 a1.n.b6.a0).bind fun first=>(((bif a1.n.i7 then (bif decide (first>=0) then ((b02 a1.n.a6).bind fun z5=>((idx z5.2 first).bind fun y=>(((bif (y==0) then ((idx a1.n.a6 first).bind fun entry=>some (l8.brk entry.b8.f0)) else some (l8.brk 0)):Option (l8 (l8 n6 n6) Int)).bind fun x=>x.go some fun j=>b7S a1 y j))) else some (l8.brk a1)) else some (l8.brk a1)):Option (l8 n6 n6)).bind fun x=>x.go some fun j=>b34 j))
theorem e0x(r):NF a1s r e0J (fun s=>b4G s):=fun a1 h=>PK<|rg<|R0 a2d c1v 11 2 h fun first h=>s4 a1.n.a6<|B0 h (e0F r) fun x1 h hc1=>rg<|j4 5 h (fun h=>j4 8 h (fun h=>rg<|cbS a3S d1i 5 (fun _=>(by simp [a3S,K6,S9,N5,V.simple,vi,t7,b1N,x8,A8,eI,Y5,a7g])) (fun _=>(P1 1)) h fun z5 h=>s4 a1.n.a6<|rg<|A4 h fun y hy h=>A9 hy<|G7 eI 14 hy<|B0 h (e0N a1 y r hc1) fun x2 h hc2=>rg<|j4 2 h (fun h=>rg<|A4 h fun entry G9 h=>A9 G9<|G7 s8 9 G9<|(o6 h hc2 fun hI=>sk [] [0,7] [(1,0),(2,0),(53,0)] hI)) (fun h=>(o6 h hc2 fun hI=>sk [] [0,7] [(1,0),(2,0),(53,0)] hI))) (fun h=>(o6 h hc1 fun hI=>sk [] [0] [(1,0),(2,0),(0,5)] hI))) (fun h=>(o6 h hc1 fun hI=>sk [] [0] [(1,0),(2,0),(0,5)] hI))
def b1h(a:n6)(e_:m4):Option n6 :=
 (s7 ((a.n.a6.length+1)*88<=140737488355328) ((((bif (a.n.d9==3) then some (l8.brk (n6.mk (j5.mk a.n.Id a.n.Acc (a.n.a6++[e_]) a.n.Seq 2 a.n.a8 a.n.d7 a.n.g9 (m4.mk false (p8.mk 0 0) (m9.mk [] [] 0 0)) [] a.n.i7 a.n.i5 a.n.b6 a.n.d8) a.out a.told)) else some (l8.brk (n6.mk (j5.mk a.n.Id a.n.Acc (a.n.a6++[e_]) a.n.Seq a.n.d9 a.n.a8 a.n.d7 a.n.g9 a.n.c8 a.n.a5 a.n.i7 a.n.i5 a.n.b6 a.n.d8) a.out a.told))):Option (l8 n6 n6)).bind fun x=>x.go some fun j=>b4G j)))
theorem c4L{a e_}:OK a1s [.optr 142 (J5 a),.agg (s8 e_)] (b1h a e_) :=
 n7 _ fun r h=>n5<|tk 7 I4<|s9 h fun e1 h=>E8 8 10 51 7 88 s8 a.n.a6 e_ e1<|D8 e_<|B0 h (e0x r) fun x1 h hc1=>rg<|j4 5 h (fun h=>M3<|(o6 h hc1 fun hI=>sk [.frz (.cell 0 0 12) (some 2),.frz (.cell 0 0 13) (some 2),.own (.cell 0 0 16) 4 1,.kill 0 3] [0] [(10,0),(37,0)] hI)) (fun h=>(o6 h hc1 fun hI=>sk [] [0] [(10,0),(0,3)] hI))
def c9O:FS (n6):=⟨131,Tryz.f131,[],[some (0,.ptr G5 J2),none],[.ptr G5 J2,.val B2 []],fun _=>.tup [],fun r=>[some (.optr 142 (J5 r)),none],Tryz.func131⟩
def b5T(a:n6)(m:j7):Option n6 :=
 (bif (a.n.d9 != 3) then some a else (bif (m.a8 != a.n.a8) then some a else (bif (m.g7 != (a.n.a6.length:Int)) then some a else ((idx a.n.a5 m.d7).bind fun y=>((b1o (a.n.a5.set m.d7.toNat true)).bind fun b0s=>(bif decide (b0s>=2) then ((a2h (n6.mk (j5.mk a.n.Id a.n.Acc a.n.a6 a.n.Seq a.n.d9 a.n.a8 a.n.d7 a.n.g9 a.n.c8 (a.n.a5.set m.d7.toNat true) a.n.i7 a.n.i5 a.n.b6 a.n.d8) a.out a.told) (j7.mk 5 0 0 0 m.g7 a.n.c8 [])).bind fun all=>((b1h all all.n.c8).bind fun a7A=>some a7A)) else some (n6.mk (j5.mk a.n.Id a.n.Acc a.n.a6 a.n.Seq a.n.d9 a.n.a8 a.n.d7 a.n.g9 a.n.c8 (a.n.a5.set m.d7.toNat true) a.n.i7 a.n.i5 a.n.b6 a.n.d8) a.out a.told)))))))
theorem d6X{a m}:OK c9O [.optr 142 (J5 a),.agg (p9 m)] (b5T a m) :=
 n7 _ fun r h=>n5<|j4 6 h (fun h=>B7 a<|fE h) (fun h=>j4 16 h (fun h=>B7 a<|fE h) (fun h=>j4 26 h (fun h=>B7 a<|fE h) (fun h=>rg<|A4 h fun y hy h=>A9 hy<|N8 4 1 eB 8 [] true hy<|rg<|R0 a2V c8c 5 1 h fun b0s h=>om (a.n.a5.length=(a.n.a5.set m.d7.toNat true).length) (by simp)<|j4 6 h (fun h=>rg<|j8 a0F a41 9 h fun all h=>B8 a.n.a6 a.n.d7<|om (a.n.a5.length=(a.n.a5.set m.d7.toNat true).length) (by simp)<|B8 a.out a.told<|rg<|j8 a1s c4L 6 h fun a7A h=>B7 all<|B7 a7A<|fE h) (fun h=>B8 a.n.a6 a.n.d7<|om (a.n.a5.length=(a.n.a5.set m.d7.toNat true).length) (by simp)<|B8 a.out a.told<|fE h))))
def c7k:FS (n6):=⟨132,Tryz.f132,[],[some (0,.ptr G5 J2),none],[.ptr G5 J2,.val B2 []],fun _=>.tup [],fun r=>[some (.optr 142 (J5 r)),none],Tryz.func132⟩
def b4Z(a:n6)(m:j7):Option n6 :=
 (bif decide (m.g7<(a.n.a6.length:Int)) then some a else (bif decide (m.g7>(a.n.a6.length:Int)) then ((a2Z a m.d7 (j7.mk 8 0 0 0 (a.n.a6.length:Int) (m4.mk false (p8.mk 0 0) (m9.mk [] [] 0 0)) [])).bind fun W7=>some W7) else ((b1h a m.i0).bind fun a7A=>some a7A)))
theorem e7Z{a m}:OK c7k [.optr 142 (J5 a),.agg (p9 m)] (b4Z a m) :=
 n7 _ fun r h=>n5<|j4 9 h (fun h=>B7 a<|fE h) (fun h=>rg<|j4 9 h (fun h=>rg<|j8 a56 a7k 10 h fun W7 h=>B7 a<|B7 W7<|fE h) (fun h=>rg<|j8 a1s c4L 3 h fun a7A h=>B7 a<|B7 a7A<|fE h))
def d0h:FS (Bool×n6):=⟨169,Tryz.f169,[.val [] []],[some (0,.ptr G5 om7),none],[.ptr G5 om7,.val [] []],fun r=>.b r.1,fun r=>[some (.optr 142 (b6n r.2)),none],Tryz.func169⟩
def b32(a:n6)(q:p8):Option (Bool×n6) :=
 ((a8q a.n.a6 q).bind fun first=>some (decide (first>=0),a))
theorem e8j{a q}:OK d0h [.optr 142 (b6n a),.agg (Y5 q)] (b32 a q) :=
 n7 _ fun r h=>n5<|R0 a2d c1v 6 2 h fun first h=>s4 a.n.a6<|H1 a.n<|B8 a.out a.told<|fE h
def c3g:FS (n6):=⟨134,Tryz.f134,[],[some (0,.ptr G5 J2),none],[.ptr G5 om7,.val B2 []],fun _=>.tup [],fun r=>[some (.optr 142 (J5 r)),none],Tryz.func134⟩
def b4e(a:n6)(m:j7):Option n6 :=
 (bif (a.n.d9==0) then some a else (bif decide ((a.n.d8.length:Int)>=4) then some a else ((b32 a m.i0.a0).bind fun v_=>(bif v_.1 then some v_.2 else (s7 ((v_.2.n.d8.length+1)*88<=140737488355328) (((a5G (n6.mk (j5.mk v_.2.n.Id v_.2.n.Acc v_.2.n.a6 v_.2.n.Seq v_.2.n.d9 v_.2.n.a8 v_.2.n.d7 v_.2.n.g9 v_.2.n.c8 v_.2.n.a5 v_.2.n.i7 v_.2.n.i5 v_.2.n.b6 (v_.2.n.d8++[m.i0])) v_.2.out v_.2.told)).bind fun W3=>some W3)))))))
theorem e2R{a m}:OK c3g [.optr 142 (b6n a),.agg (p9 m)] (b4e a m) :=
 n7 _ fun r h=>n5<|j4 6 h (fun h=>H1 a.n<|B8 a.out a.told<|fE h) (fun h=>j4 15 h (fun h=>H1 a.n<|B8 a.out a.told<|fE h) (fun h=>j8 d0h e8j 20 h fun v_ h=>H1 a.n<|B8 a.out a.told<|j4 21 h (fun h=>H1 v_.2.n<|B8 v_.2.out v_.2.told<|fE h) (fun h=>rg<|tk 8 I4<|s9 h fun e1 h=>E8 9 33 51 7 88 s8 v_.2.n.d8 m.i0 e1<|D8 m.i0<|rg<|j8 a82 b1C 1 h fun W3 h=>E9 v_.2.n.a6 v_.2.n.d7 v_.2.n.a5 (v_.2.n.d8++[m.i0])<|B8 v_.2.out v_.2.told<|B7 W3<|fE h)))
def a1r:FS (j5×(List j7)×List m8):=⟨83,Tryz.f83,[.val A0 [],.val [some 13] [],.val [some 5] []],[none,none],[.val A0 [],.val B2 []],fun r=>.tup [.agg (z9 r.1),j9 13 p9 r.2.1,j9 5 u9 r.2.2],fun _=>[none,none],Tryz.func83⟩
def c7I:n6->KS:=fun a=>⟨a1r.k 7 [false,false,true],(bs 4 (.ptr 1 0 0::(bs 2 (.ptr 2 0 0::(bs 108 []))))),[some [],some [.var 53 [vi 0,vi 0,.nil,.nil,vi 0,vi 0,vi 0,.nil,.nil,.b false,vi 0,vi 0,.nil,.nil,vi 0,vi 0,.nil,.b false,.nil,.b false,vi 0,vi 0,.nil,.nil,vi 0,vi 0,.nil]],some [.var 142 (b1u a)]]++a1R a⟩
def b6x(a:n6):Option (j5×(List j7)×List m8) :=
 ((a0W a).bind fun a4c=>some (a4c.1,a4c.2.1,a4c.2.2.1))
theorem d5g(r):NF a1r r c7I (fun s=>b6x s):=fun a h=>PK<|rg<|j8 a3f a3M 1 h fun a4c h=>B7 a<|fE h
def c3G:n6->KS:=fun a2=>⟨a1r.k 15 [false,false,false,false,false,false,false,false,false,true,false],(bs 4 (.ptr 1 0 0::(bs 2 (.ptr 2 0 0::(bs 108 []))))),[some [],some [.var 53 [vi 0,vi 0,.nil,.nil,vi 0,vi 0,vi 0,.nil,.nil,.b false,vi 0,vi 0,.nil,.nil,vi 0,vi 0,.nil,.b false,.nil,.b false,vi 0,vi 0,.nil,.nil,vi 0,vi 0,.nil]],some [.var 142 (b1u a2)]]++a1R a2⟩
def d2x(a2:n6):Option (l8 (j5×(List j7)×List m8) n6) :=
 some (l8.brk a2)
theorem e7A(r){x1}(hc1:JC (fun j=>FK cx a1r.X (a1r.R r) (a1r.O r) (c7I j)) r x1):NG a1r r c3G (fun s=>d2x s) x1:=fun a2 h=>PK<|(o6 h hc1 fun hI=>sk [] [4,7] [(1,0),(2,0),(3,0),(4,0),(5,0),(6,0),(7,0)] hI)
def d8R(m:j7):(Int×n6)->KS:=fun (i,a1)=>⟨a1r.k 14 [false,false,false,false,false,false,false,false,false,true],(bs 3 (.ptr 1 0 0::(.ptr 2 0 0::(bs 2 (.ptr 3 0 0::(vi i::(bs 107 []))))))),[some [],some [.var 68 (a3K m)],some [.var 53 [vi 0,vi 0,.nil,.nil,vi 0,vi 0,vi 0,.nil,.nil,.b false,vi 0,vi 0,.nil,.nil,vi 0,vi 0,.nil,.b false,.nil,.b false,vi 0,vi 0,.nil,.nil,vi 0,vi 0,.nil]],some [.var 142 (e56 a1)]]++a1R a1⟩
def a4T(m:j7)(i:Int)(a1:n6):Option (l7 (j5×(List j7)×List m8) (Int×n6) n6) :=
 (bif decide (i<(a1.n.a6.length:Int)) then ((idx a1.n.a6 i).bind fun entry=>((a2Z a1 m.d7 (j7.mk 5 0 0 0 i entry [])).bind fun W7=>some (l7.nxt (m7 (i+1),W7)))) else some (l7.brk a1))
theorem d3c(m):LQ a1r c3G (d8R m) (fun s=>a4T m s.1 s.2):=fun lc (i,a1) h=>PK<|rg<|j4 7 h (fun h=>rg<|A4 h fun entry G9 h=>A9 G9<|G7 s8 11 G9<|j8 a56 a7k 13 h fun W7 h=>B7 a1<|rg<|(lc.nx h fun hI=>sk [] [3,4,7,8] [(1,0),(2,0),(3,0),(30,0),(30,1),(30,2),(30,3),(30,4)] hI)) (fun h=>(lc.bk h fun hI=>sk [] [4,7] [(2,0),(3,0),(4,0),(5,0),(6,0),(7,0),(8,0)] hI))
def b3h(n:j5)(m:j7):Option (j5×(List j7)×List m8) :=
 ((a3m n).bind fun C5=>(bif (!C5) then some ((j5.mk 0 (v6.mk 0 []) [] 0 0 0 [] [] (m4.mk false (p8.mk 0 0) (m9.mk [] [] 0 0)) [] false [] (m4.mk false (p8.mk 0 0) (m9.mk [] [] 0 0)) []),[],[]) else ((a6g n).bind fun begin=>((b0H m).bind fun N3=>(bif (!N3) then ((a0W begin).bind fun U6=>some (U6.1,U6.2.1,U6.2.2.1)) else (bif (m.To != n.Id) then ((a0W begin).bind fun a32=>some (a32.1,a32.2.1,a32.2.2.1)) else (((bif (m.a7==1) then ((b3J begin m).bind fun c9D=>some (l8.brk c9D)) else (bif (m.a7==2) then ((b7J begin m).bind fun c8G=>some (l8.brk c8G)) else (bif (m.a7==3) then ((b4w begin m).bind fun c6H=>some (l8.brk c6H)) else (bif (m.a7==4) then ((b5T begin m).bind fun c7Y=>some (l8.brk c7Y)) else (bif (m.a7==5) then ((b4Z begin m).bind fun d0X=>some (l8.brk d0X)) else (bif (m.a7==6) then ((a9L begin.n.Acc m.a8).bind fun S5=>((a8K (n6.mk (j5.mk begin.n.Id S5.1 begin.n.a6 begin.n.Seq begin.n.d9 begin.n.a8 begin.n.d7 begin.n.g9 begin.n.c8 begin.n.a5 begin.n.i7 begin.n.i5 begin.n.b6 begin.n.d8) begin.out begin.told) m.a8).bind fun yield=>some (l8.brk yield))) else (bif (m.a7==7) then ((b4e begin m).bind fun asked=>some (l8.brk asked)) else (bif (m.a7==8) then ((o9 (fun s:Int×n6=>a4T m s.1 s.2) (m.g7,begin)).bind fun x=>x.go (fun r=>some (l8.ret r)) fun s=>d2x s) else some (l8.brk begin))))))))):Option (l8 (j5×(List j7)×List m8) n6)).bind fun x=>x.go some fun j=>b6x j)))))))
set_option maxRecDepth 20000 in
theorem e4W{n m}:OK a1r [.agg (z9 n),.agg (p9 m)] (b3h n m) :=
 n7 _ fun r h=>n5<|j8 a0g a64 1 h fun C5 h=>j4 2 h (fun h=>rg<|fE h) (fun h=>rg<|j8 b2d b5M 1 h fun begin h=>rg<|j8 b9H c7o 1 h fun N3 h=>j4 3 h (fun h=>rg<|j8 a3f a3M 1 h fun U6 h=>H1 begin.n<|B8 begin.out begin.told<|fE h) (fun h=>j4 9 h (fun h=>rg<|j8 a3f a3M 1 h fun a32 h=>H1 begin.n<|B8 begin.out begin.told<|fE h) (fun h=>rg<|B0 h (d5g r) fun x1 h hc1=>rg<|j4 1 h (fun h=>rg<|j8 b7w e4L 2 h fun c9D h=>H1 begin.n<|B8 begin.out begin.told<|(o6 h hc1 fun hI=>sk [] [4,7] [(3,0),(10,0),(28,0),(28,1),(28,2),(28,3),(28,4)] hI)) (fun h=>rg<|j4 1 h (fun h=>rg<|j8 c7j d5T 2 h fun c8G h=>H1 begin.n<|B8 begin.out begin.told<|(o6 h hc1 fun hI=>sk [] [4,7] [(3,0),(10,0),(30,0),(30,1),(30,2),(30,3),(30,4)] hI)) (fun h=>rg<|j4 1 h (fun h=>rg<|j8 c3P e1K 2 h fun c6H h=>H1 begin.n<|B8 begin.out begin.told<|(o6 h hc1 fun hI=>sk [] [4,7] [(3,0),(10,0),(32,0),(32,1),(32,2),(32,3),(32,4)] hI)) (fun h=>rg<|j4 1 h (fun h=>rg<|j8 c9O d6X 2 h fun c7Y h=>H1 begin.n<|B8 begin.out begin.told<|(o6 h hc1 fun hI=>sk [] [4,7] [(3,0),(10,0),(34,0),(34,1),(34,2),(34,3),(34,4)] hI)) (fun h=>rg<|j4 1 h (fun h=>rg<|j8 c7k e7Z 2 h fun d0X h=>H1 begin.n<|B8 begin.out begin.told<|(o6 h hc1 fun hI=>sk [] [4,7] [(3,0),(10,0),(36,0),(36,1),(36,2),(36,3),(36,4)] hI)) (fun h=>rg<|j4 1 h (fun h=>rg<|j8 b36 c1e 8 h fun S5 h=>rg<|j8 b6T b9S 3 h fun yield h=>H1 begin.n<|B8 begin.out begin.told<|(o6 h hc1 fun hI=>sk [] [4,7] [(3,0),(10,0),(55,0),(55,1),(55,2),(55,3),(55,4)] hI)) (fun h=>rg<|j4 1 h (fun h=>rg<|j8 c3g e2R 2 h fun asked h=>H1 begin.n<|B8 begin.out begin.told<|(o6 h hc1 fun hI=>sk [] [4,7] [(3,0),(10,0),(40,0),(40,1),(40,2),(40,3),(40,4)] hI)) (fun h=>rg<|j4 1 h (fun h=>rg<|lp (d3c m) h (fun _ h=>a1r.rt (d4g h hc1)) (e7A r hc1) fun hI=>s4 begin.n.d8<|sk [.frz (.cell 10 0 26) (none)] [3,4,7,8] [(2,0),(3,0),(10,0),(10,1),(10,2),(10,3),(10,5),(10,6)] hI) (fun h=>(o6 h hc1 fun hI=>s4 begin.n.d8<|sk [.frz (.cell 10 0 26) (none)] [4,7] [(3,0),(10,0),(10,1),(10,2),(10,3),(10,5),(10,6)] hI))))))))))))
def a8u:FS (m5):=⟨37,Tryz.f37,[.val E2 om2],[none,none],[.val E2 om2,.val [none,none,some 4] []],fun r=>.agg (a6u r),fun _=>[none,none],Tryz.func37⟩
def d7q:m5->KS:=fun w1=>⟨a8u.k 7 [true],(bs 2 (.ptr 1 0 0::(bs 1 (.ptr 6 0 0::(bs 58 []))))),[some [.dead,.dead,.dead,.dead],some [.var 28 [.own 2 0 27 0 w1.a9.length,.own 3 0 13 0 w1.b9.length,.own 4 0 3 0 w1.c9.length,.own 5 0 5 0 w1.Told.length]],some [l9 53 27 z9 w1.a9],some [l9 68 13 p9 w1.b9],some [l9 70 3 z8 w1.c9],some [l9 40 5 u9 w1.Told],some [.var 28 [.nil,.nil,.nil,.nil]]]⟩
def c69(w1:m5):Option m5 :=
 some w1
theorem d2T(r):NF a8u r d7q (fun s=>c69 s):=fun w1 h=>PK<|rg<|A2 w1<|fE h
def a7C(w:m5)(e_:p6):Option m5 :=
 ((idx w.b9 e_.A).bind fun msg=>(((bif (e_.a7==2) then ((b1B w.b9 e_.A).bind fun off=>((idx w.a9 msg.To).bind fun node=>((b3h node msg).bind fun b6E=>((a31 (m5.mk w.a9 off w.c9 w.Told) b6E.1 b6E.2.1 b6E.2.2).bind fun a1V=>some (l8.brk a1V))))) else (bif (e_.a7==3) then ((b1B w.b9 e_.A).bind fun c52=>some (l8.brk (m5.mk w.a9 c52 w.c9 w.Told))) else (bif (e_.a7==4) then ((idx w.a9 msg.To).bind fun a1C=>((a31 w a1C [msg] []).bind fun b1j=>some (l8.brk b1j))) else some (l8.brk w)))):Option (l8 m5 m5)).bind fun x=>x.go some fun j=>c69 j))
theorem c2K{w e_}:OK a8u [.agg (a6u w),.agg (F6 e_)] (a7C w e_) :=
 n7 _ fun r h=>n5<|A4 h fun msg hmsg h=>A9 hmsg<|G7 p9 5 hmsg<|rg<|B0 h (d2T r) fun x1 h hc1=>rg<|j4 1 h (fun h=>rg<|j8 c1O c5v 4 h fun off h=>s4 w.b9<|rg<|A4 h fun node hnode h=>A9 hnode<|G7 z9 5 hnode<|j8 a1r e4W 7 h fun b6E h=>rg<|j8 R9 a8p 4 h fun a1V h=>E9 w.a9 off w.c9 w.Told<|(o6 h hc1 fun hI=>sk [.kill 0 1] [2,4] [(1,0),(43,0),(43,1),(43,2),(43,3),(3,0)] hI)) (fun h=>rg<|j4 1 h (fun h=>rg<|j8 c1O c5v 4 h fun c52 h=>s4 w.b9<|(o6 h hc1 fun hI=>sk [.kill 0 1] [2,4] [(1,0),(0,0),(22,0),(0,2),(0,3),(3,0)] hI)) (fun h=>rg<|j4 1 h (fun h=>rg<|A4 h fun a1C a3X h=>A9 a3X<|G7 z9 6 a3X<|tk 8 B2<|j8 R9 a8p 9 h fun b1j h=>A2 w<|D8 msg<|(o6 h hc1 fun hI=>sk [] [2,4] [(1,0),(29,0),(29,1),(29,2),(29,3),(3,0)] hI)) (fun h=>(o6 h hc1 fun hI=>sk [] [2,4] [(1,0),(0,0),(0,1),(0,2),(0,3),(3,0)] hI))))
def a3q:FS (m5):=⟨13,Tryz.f13,[.val E2 []],[none,none],[.val E2 [],.val [none,none,some 4] []],fun r=>.agg (a0J r),fun _=>[none,none],Tryz.func13⟩
def e7c:m5->KS:=fun out=>⟨a3q.k 6 [true,true,true],(bs 4 (.ptr 1 0 0::(.ptr 2 0 0::(bs 35 [])))),[some [],some [.var 28 [.nil,.nil,.nil,.nil]],some [.var 28 [.own 3 0 27 0 out.a9.length,.own 4 0 13 0 out.b9.length,.own 5 0 3 0 out.c9.length,.own 6 0 5 0 out.Told.length]],some [l9 53 27 z9 out.a9],some [l9 68 13 p9 out.b9],some [l9 70 3 z8 out.c9],some [l9 40 5 u9 out.Told]]⟩
def b8q(out:m5):Option m5 :=
 ((a0O out).bind fun c08=>some c08)
theorem d6G(r):NF a3q r e7c (fun s=>b8q s):=fun out h=>PK<|rg<|j8 T9 a7h 1 h fun c08 h=>A2 out<|A2 c08<|fE h
def e7N:m5->KS:=fun out1=>⟨a3q.k 7 [false,true,true,true],(bs 4 (.ptr 1 0 0::(.ptr 2 0 0::(bs 35 [])))),[some [],some [.var 28 [.nil,.nil,.nil,.nil]],some [.var 28 [.own 3 0 27 0 out1.a9.length,.own 4 0 13 0 out1.b9.length,.own 5 0 3 0 out1.c9.length,.own 6 0 5 0 out1.Told.length]],some [l9 53 27 z9 out1.a9],some [l9 68 13 p9 out1.b9],some [l9 70 3 z8 out1.c9],some [l9 40 5 u9 out1.Told]]⟩
def c02(out1:m5):Option m5 :=
 ((a0O out1).bind fun c25=>some c25)
theorem d2W(r):NF a3q r e7N (fun s=>c02 s):=fun out1 h=>PK<|rg<|j8 T9 a7h 1 h fun c25 h=>A2 out1<|A2 c25<|fE h
def d4W:m5->KS:=fun out2=>⟨a3q.k 8 [false,false,true,true,true],(bs 4 (.ptr 1 0 0::(.ptr 2 0 0::(bs 35 [])))),[some [],some [.var 28 [.nil,.nil,.nil,.nil]],some [.var 28 [.own 3 0 27 0 out2.a9.length,.own 4 0 13 0 out2.b9.length,.own 5 0 3 0 out2.c9.length,.own 6 0 5 0 out2.Told.length]],some [l9 53 27 z9 out2.a9],some [l9 68 13 p9 out2.b9],some [l9 70 3 z8 out2.c9],some [l9 40 5 u9 out2.Told]]⟩
def c2s(out2:m5):Option m5 :=
 ((a0O out2).bind fun b8Z=>some b8Z)
theorem e5j(r):NF a3q r d4W (fun s=>c2s s):=fun out2 h=>PK<|rg<|j8 T9 a7h 1 h fun b8Z h=>A2 out2<|A2 b8Z<|fE h
def d7y:m5->KS:=fun out3=>⟨a3q.k 9 [false,false,false,true,true],(bs 4 (.ptr 1 0 0::(.ptr 2 0 0::(bs 35 [])))),[some [],some [.var 28 [.nil,.nil,.nil,.nil]],some [.var 28 [.own 3 0 27 0 out3.a9.length,.own 4 0 13 0 out3.b9.length,.own 5 0 3 0 out3.c9.length,.own 6 0 5 0 out3.Told.length]],some [l9 53 27 z9 out3.a9],some [l9 68 13 p9 out3.b9],some [l9 70 3 z8 out3.c9],some [l9 40 5 u9 out3.Told]]⟩
def b4t(out3:m5):Option m5 :=
 ((a0O out3).bind fun b9T=>some b9T)
theorem e5Q(r):NF a3q r d7y (fun s=>b4t s):=fun out3 h=>PK<|rg<|j8 T9 a7h 1 h fun b9T h=>A2 out3<|A2 b9T<|fE h
def b6F(w:m5)(e_:p6):Option m5 :=
 ((a0O w).bind fun F7=>(bif (e_.a7==1) then ((((C0 e_.A 0 (m7 ((F7.a9.length:Int)-1))).bind fun in_=>(bif in_ then ((a5Q F7 e_).bind fun c9c=>some (l8.brk c9c)) else some (l8.brk F7))):Option (l8 m5 m5)).bind fun x=>x.go some fun j=>b8q j) else (bif (e_.a7==5) then ((((C0 e_.A 0 (m7 ((F7.a9.length:Int)-1))).bind fun in_1=>(bif in_1 then ((a5Q F7 e_).bind fun c8E=>some (l8.brk c8E)) else some (l8.brk F7))):Option (l8 m5 m5)).bind fun x=>x.go some fun j=>c02 j) else (bif (e_.a7==6) then ((((C0 e_.A 0 (m7 ((F7.a9.length:Int)-1))).bind fun in_2=>(bif in_2 then ((a5Q F7 e_).bind fun c9V=>some (l8.brk c9V)) else some (l8.brk F7))):Option (l8 m5 m5)).bind fun x=>x.go some fun j=>c2s j) else (((bif (e_.a7==7) then ((C0 e_.A 0 (m7 ((F7.a9.length:Int)-1))).bind fun Y3=>(bif Y3 then ((a5Q F7 e_).bind fun d0o=>some (l8.brk d0o)) else some (l8.brk F7))) else (bif (e_.a7==2) then ((C0 e_.A 0 (m7 ((F7.b9.length:Int)-1))).bind fun a36=>(bif a36 then ((a7C F7 e_).bind fun c8k=>some (l8.brk c8k)) else some (l8.brk F7))) else (bif (e_.a7==3) then ((C0 e_.A 0 (m7 ((F7.b9.length:Int)-1))).bind fun a9n=>(bif a9n then ((a7C F7 e_).bind fun c7H=>some (l8.brk c7H)) else some (l8.brk F7))) else (bif (e_.a7==4) then ((C0 e_.A 0 (m7 ((F7.b9.length:Int)-1))).bind fun c09=>(bif c09 then ((a7C F7 e_).bind fun d2n=>some (l8.brk d2n)) else some (l8.brk F7))) else some (l8.brk F7))))):Option (l8 m5 m5)).bind fun x=>x.go some fun j=>b4t j)))))
set_option maxRecDepth 20000 in
theorem e6o{w e_}:OK a3q [.agg (a0J w),.agg (F6 e_)] (b6F w e_) :=
 n7 _ fun r h=>n5<|j8 T9 a7h 1 h fun F7 h=>n5<|j4 1 h (fun h=>B0 h (d6G r) fun x1 h hc1=>rg<|cbE B9.t D1 h fun in_ c7G h=>cdT (B9.t 6 false in_) h (fun _ h=>ob c7G<|rg<|j8 a7T b3k 2 h fun c9c h=>A2 F7<|(o6 h hc1 fun hI=>sk [] [4,5] [(3,0),(6,0),(21,0),(21,1),(21,2),(21,3)] hI)) (fun _ h=>ob c7G<|(o6 h hc1 fun hI=>sk [] [4,5] [(3,0),(6,0),(5,0),(5,1),(5,2),(5,3)] hI))) (fun h=>rg<|j4 1 h (fun h=>B0 h (d2W r) fun x1 h hc1=>rg<|cbE B9.t D1 h fun in_1 c3Q h=>cdT (B9.t 6 false in_1) h (fun _ h=>ob c3Q<|rg<|j8 a7T b3k 2 h fun c8E h=>A2 F7<|(o6 h hc1 fun hI=>sk [] [4,5] [(3,0),(6,0),(23,0),(23,1),(23,2),(23,3)] hI)) (fun _ h=>ob c3Q<|(o6 h hc1 fun hI=>sk [] [4,5] [(3,0),(6,0),(5,0),(5,1),(5,2),(5,3)] hI))) (fun h=>rg<|j4 1 h (fun h=>B0 h (e5j r) fun x1 h hc1=>rg<|cbE B9.t D1 h fun in_2 c5e h=>cdT (B9.t 6 false in_2) h (fun _ h=>ob c5e<|rg<|j8 a7T b3k 2 h fun c9V h=>A2 F7<|(o6 h hc1 fun hI=>sk [] [4,5] [(3,0),(6,0),(25,0),(25,1),(25,2),(25,3)] hI)) (fun _ h=>ob c5e<|(o6 h hc1 fun hI=>sk [] [4,5] [(3,0),(6,0),(5,0),(5,1),(5,2),(5,3)] hI))) (fun h=>B0 h (e5Q r) fun x1 h hc1=>rg<|j4 1 h (fun h=>rg<|cbE B9.t D1 h fun Y3 c5O h=>cdT (B9.t 6 false Y3) h (fun _ h=>ob c5O<|rg<|j8 a7T b3k 2 h fun d0o h=>A2 F7<|(o6 h hc1 fun hI=>sk [] [4,5] [(3,0),(6,0),(27,0),(27,1),(27,2),(27,3)] hI)) (fun _ h=>ob c5O<|(o6 h hc1 fun hI=>sk [] [4,5] [(3,0),(6,0),(5,0),(5,1),(5,2),(5,3)] hI))) (fun h=>rg<|j4 1 h (fun h=>rg<|cbE B9.t D1 h fun a36 d0s h=>cdT (B9.t 6 false a36) h (fun _ h=>ob d0s<|rg<|j8 a8u c2K 2 h fun c8k h=>A2 F7<|(o6 h hc1 fun hI=>sk [] [4,5] [(3,0),(6,0),(29,0),(29,1),(29,2),(29,3)] hI)) (fun _ h=>ob d0s<|(o6 h hc1 fun hI=>sk [] [4,5] [(3,0),(6,0),(5,0),(5,1),(5,2),(5,3)] hI))) (fun h=>rg<|j4 1 h (fun h=>rg<|cbE B9.t D1 h fun a9n d2a h=>cdT (B9.t 6 false a9n) h (fun _ h=>ob d2a<|rg<|j8 a8u c2K 2 h fun c7H h=>A2 F7<|(o6 h hc1 fun hI=>sk [] [4,5] [(3,0),(6,0),(31,0),(31,1),(31,2),(31,3)] hI)) (fun _ h=>ob d2a<|(o6 h hc1 fun hI=>sk [] [4,5] [(3,0),(6,0),(5,0),(5,1),(5,2),(5,3)] hI))) (fun h=>rg<|j4 1 h (fun h=>rg<|cbE B9.t D1 h fun c09 c5c h=>cdT (B9.t 6 false c09) h (fun _ h=>ob c5c<|rg<|j8 a8u c2K 2 h fun d2n h=>A2 F7<|(o6 h hc1 fun hI=>sk [] [4,5] [(3,0),(6,0),(33,0),(33,1),(33,2),(33,3)] hI)) (fun _ h=>ob c5c<|(o6 h hc1 fun hI=>sk [] [4,5] [(3,0),(6,0),(5,0),(5,1),(5,2),(5,3)] hI))) (fun h=>(o6 h hc1 fun hI=>sk [] [4,5] [(3,0),(6,0),(5,0),(5,1),(5,2),(5,3)] hI))))))))
def a6K:FS (m5):=⟨4,Tryz.f4,[.val E2 []],[none,none],[.val E2 [],.val [some 3] []],fun r=>.agg (a0J r),fun _=>[none,none],Tryz.func4⟩
def c3e:m5->KS:=fun out1=>⟨a6K.k 5 [false,false],(bs 4 (.ptr 1 0 0::(.ptr 2 0 0::(bs 24 [])))),[some [],some [.var 28 [.nil,.nil,.nil,.nil]],some [.var 28 (I6 out1)]]⟩
def c7W(out1:m5):Option m5 :=
 some out1
theorem e5r(r):NF a6K r c3e (fun s=>c7W s):=fun out1 h=>PK<|rg<|fE h
def d8j(events:List p6):(Int×m5)->KS:=fun (v21,out)=>⟨a6K.k 4 [false],(bs 4 (.ptr 1 0 0::(.ptr 2 0 0::(bs 13 (j9 3 F6 events::(vi (events.length:Int)::(vi v21::(bs 8 [])))))))),[some [],some [.var 28 [.nil,.nil,.nil,.nil]],some [.var 28 (I6 out)]]⟩
def a5J(events:List p6)(v21:Int)(out:m5):Option (l7 m5 (Int×m5) m5) :=
 (bif decide (v21<(events.length:Int)) then ((idx events v21).bind fun b2r=>((b6F out b2r).bind fun c9E=>some (l7.nxt (m7 (v21+1),c9E)))) else some (l7.brk out))
theorem e7U(events):LQ a6K c3e (d8j events) (fun s=>a5J events s.1 s.2):=fun lc (v21,out) h=>PK<|rg<|j4 0 h (fun h=>rg<|v5 F6 0 h fun b2r e2W h=>rg<|j8 a3q e6o 2 h fun c9E h=>rg<|(lc.nx h fun hI=>sk [] [4,5,19,20,21] [(1,0),(2,0)] hI)) (fun h=>(lc.bk h fun hI=>sk [] [4,5] [(1,0),(2,0)] hI))
def b2o(w:m5)(events:List p6):Option m5 :=
 ((b3e w).bind fun L0=>(bif (!L0) then some (m5.mk [] [] [] []) else (bif decide ((events.length:Int)>400) then some (m5.mk [] [] [] []) else ((a0O w).bind fun F7=>((o9 (fun s:Int×m5=>a5J events s.1 s.2) (0,F7)).bind fun x=>x.go (fun r=>some r) fun s=>c7W s)))))
theorem e23{w events}:OK a6K [.agg (a0J w),j9 3 F6 events] (b2o w events) :=
 n7 _ fun r h=>n5<|j8 P6 d4s 1 h fun L0 h=>j4 3 h (fun h=>rg<|fE h) (fun h=>j4 7 h (fun h=>rg<|fE h) (fun h=>rg<|j8 T9 a7h 1 h fun F7 h=>rg<|lp (e7U events) h (fun _ h=>a6K.rt h) (e5r r) fun hI=>A2 F7<|sk [.frz (.cell 13 0 0) (none),.frz (.cell 13 0 1) (none),.frz (.cell 13 0 2) (none),.frz (.cell 13 0 3) (none)] [4,5,19,20,21] [(2,0),(13,0)] hI))
def a3u:FS (m5):=⟨8,Tryz.f8,[.val E2 Q2],[none,none],[.val E2 [],.val [some 3] []],fun r=>.agg (P9 r),fun _=>[none,none],Tryz.func8⟩
def d1X:((List j5)×(List j7)×(List u5)×List m8)->KS:=fun (Nodes1,Net1,Asked1,Told1)=>⟨a3u.k 5 [false,false],(bs 2 (.ptr 1 0 0::(bs 1 (.ptr 6 0 0::(bs 25 []))))),[some [],some [.var 28 [.own 2 0 27 0 Nodes1.length,.own 3 0 13 0 Net1.length,.own 4 0 3 0 Asked1.length,.own 5 0 5 0 Told1.length]],some [B5 53 27 w9 Nodes1],some [l9 68 13 p9 Net1],some [l9 70 3 z8 Asked1],some [l9 40 5 u9 Told1],some [.var 28 [.nil,.nil,.nil,.nil]]]⟩
def d1y(Nodes1:List j5)(Net1:List j7)(Asked1:List u5)(Told1:List m8):Option m5 :=
 some (m5.mk Nodes1 Net1 Asked1 Told1)
theorem d45(r):NF a3u r d1X (fun s=>d1y s.1 s.2.1 s.2.2.1 s.2.2.2):=fun (Nodes1,Net1,Asked1,Told1) h=>PK<|rg<|E9 Nodes1 Net1 Asked1 Told1<|fE h
def d4S(events:List p6):((List j5)×(List j7)×(List u5)×(List m8)×Int)->KS:=fun (a9,b9,c9,Told,i)=>⟨a3u.k 4 [false],(bs 1 (j9 3 F6 events::(.ptr 1 0 0::(bs 1 (.ptr 6 0 0::(vi i::(bs 24 []))))))),[some [],some [.var 28 [.own 2 0 27 0 a9.length,.own 3 0 13 0 b9.length,.own 4 0 3 0 c9.length,.own 5 0 5 0 Told.length]],some [B5 53 27 w9 a9],some [l9 68 13 p9 b9],some [l9 70 3 z8 c9],some [l9 40 5 u9 Told],some [.var 28 [.nil,.nil,.nil,.nil]]]⟩
def a3I(events:List p6)(a9:List j5)(b9:List j7)(c9:List u5)(Told:List m8)(i:Int):Option (l7 m5 ((List j5)×(List j7)×(List u5)×(List m8)×Int) ((List j5)×(List j7)×(List u5)×List m8)) :=
 (bif decide (i<(events.length:Int)) then ((idx events i).bind fun b2r=>((a79 (m5.mk a9 b9 c9 Told) b2r).bind fun a0e=>some (l7.nxt (a0e.a9,a0e.b9,a0e.c9,a0e.Told,m7 (i+1))))) else some (l7.brk (a9,b9,c9,Told)))
theorem d5h(events):LQ a3u d1X (d4S events) (fun s=>a3I events s.1 s.2.1 s.2.2.1 s.2.2.2.1 s.2.2.2.2):=fun lc (a9,b9,c9,Told,i) h=>PK<|rg<|j4 3 h (fun h=>rg<|v5 F6 3 h fun b2r e2W h=>j8 a8A b82 5 h fun a0e h=>E9 a9 b9 c9 Told<|rg<|(lc.nx h fun hI=>sk [] [1,2,4,5] [(1,0),(16,0),(16,1),(16,2),(16,3),(6,0)] hI)) (fun h=>(lc.bk h fun hI=>sk [] [2,4] [(1,0),(2,0),(3,0),(4,0),(5,0),(6,0)] hI))
def b2N(w:m5)(events:List p6):Option m5 :=
 ((b2C w).bind fun L0=>(bif (!L0) then some (m5.mk [] [] [] []) else (bif decide ((events.length:Int)>400) then some (m5.mk [] [] [] []) else ((b1F w).bind fun a06=>((o9 (fun s:(List j5)×(List j7)×(List u5)×(List m8)×Int=>a3I events s.1 s.2.1 s.2.2.1 s.2.2.2.1 s.2.2.2.2) (a06.a9,a06.b9,a06.c9,a06.Told,0)).bind fun x=>x.go (fun r=>some r) fun s=>d1y s.1 s.2.1 s.2.2.1 s.2.2.2)))))
theorem e35{w events}:OK a3u [.agg (a0J w),j9 3 F6 events] (b2N w events) :=
 n7 _ fun r h=>n5<|j8 J8 c06 1 h fun L0 h=>j4 3 h (fun h=>rg<|fE h) (fun h=>j4 7 h (fun h=>rg<|fE h) (fun h=>rg<|j8 S8 c4O 1 h fun a06 h=>rg<|lp (d5h events) h (fun _ h=>a3u.rt h) (d45 r) fun hI=>sk [] [1,2,4,5] [(1,0),(12,0),(12,1),(12,2),(12,3),(2,0)] hI))
def a6L:FS (Bool):=⟨17,Tryz.f17,[.val [] []],[none,none],[.val [some 5] [],.val [some 5] []],fun r=>.b r,fun _=>[none,none],Tryz.func17⟩
def c7M:Unit->KS:=fun _=>⟨a6L.k 4 [false,false],(bs 26 []),[some []]⟩
def c31:Option Bool :=
 some true
theorem d81(r):NF a6L r c7M (fun s=>c31):=fun _ h=>PK<|rg<|fE h
def d6k(a:List m8)(b:List m8):Int->KS:=fun v13=>⟨a6L.k 3 [false],(j9 5 u9 a::(j9 5 u9 b::(bs 10 (vi (a.length:Int)::(vi v13::(bs 12 [])))))),[some []]⟩
def b6v(a:List m8)(b:List m8)(v13:Int):Option (l7 Bool Int Unit) :=
 (bif decide (v13<(a.length:Int)) then ((idx a v13).bind fun told=>((idx b v13).bind fun Y7=>(bif (!(([told.Node,told.a0.d6,told.a0.Seq,told.Code,told.f0]:List Int)==[Y7.Node,Y7.a0.d6,Y7.a0.Seq,Y7.Code,Y7.f0])) then some (l7.ret false) else some (l7.nxt (m7 (v13+1)))))) else some (l7.brk ()))
theorem d7U(a b):LQ a6L c7M (d6k a b) (fun s=>b6v a b s):=fun lc v13 h=>PK<|rg<|j4 0 h (fun h=>n5<|v5 u9 2 h fun told a5V h=>v5 u9 6 h fun Y7 b5b h=>j4 8 h (fun h=>rg<|fL lc h) (fun h=>rg<|(lc.nx h fun hI=>sk [] [0,1,12,13] [] hI))) (fun h=>(lc.bk h fun hI=>sk [] [] [] hI))
def b3q(a:List m8)(b:List m8):Option Bool :=
 (bif ((a.length:Int) != (b.length:Int)) then some false else ((o9 (fun s:Int=>b6v a b s) 0).bind fun x=>x.go (fun r=>some r) fun s=>c31))
theorem e7L{a b}:OK a6L [j9 5 u9 a,j9 5 u9 b] (b3q a b) :=
 n7 _ fun r h=>n5<|j4 4 h (fun h=>rg<|fE h) (fun h=>rg<|lp (d7U a b) h (fun _ h=>a6L.rt h) (d81 r) fun hI=>sk [] [0,1,12,13] [] hI)
def a3L:FS (Bool):=⟨47,Tryz.f47,[.val [] []],[none,none],[.val [some 8] [],.val [some 8] []],fun r=>.b r,fun _=>[none,none],Tryz.func47⟩
def c9B:Unit->KS:=fun _=>⟨a3L.k 4 [false,false],(bs 42 []),[some []]⟩
def c4M:Option Bool :=
 some true
theorem d6f(r):NF a3L r c9B (fun s=>c4M):=fun _ h=>PK<|rg<|fE h
def d6Y(a:List m6)(b:List m6):Int->KS:=fun v13=>⟨a3L.k 3 [false],(j9 8 o7 a::(j9 8 o7 b::(bs 10 (vi (a.length:Int)::(vi v13::(bs 28 [])))))),[some []]⟩
def b5e(a:List m6)(b:List m6)(v13:Int):Option (l7 Bool Int Unit) :=
 (bif decide (v13<(a.length:Int)) then ((idx a v13).bind fun vote=>((idx b v13).bind fun Q6=>(bif (vote.a8 != Q6.a8) then some (l7.ret false) else ((Z1 vote.i0 Q6.i0).bind fun I8=>(bif (!I8) then some (l7.ret false) else some (l7.nxt (m7 (v13+1)))))))) else some (l7.brk ()))
theorem d4E(a b):LQ a3L c9B (d6Y a b) (fun s=>b5e a b s):=fun lc v13 h=>PK<|rg<|j4 0 h (fun h=>n5<|v5 o7 2 h fun vote L7 h=>v5 o7 7 h fun Q6 a2P h=>j4 11 h (fun h=>rg<|fL lc h) (fun h=>I5 o7 14 L7<|I5 o7 19 a2P<|j8 a2l a24 22 h fun I8 h=>j4 24 h (fun h=>rg<|fL lc h) (fun h=>rg<|(lc.nx h fun hI=>sk [] [0,1,12,13] [] hI)))) (fun h=>(lc.bk h fun hI=>sk [] [] [] hI))
def a77(a:List m6)(b:List m6):Option Bool :=
 (bif ((a.length:Int) != (b.length:Int)) then some false else ((o9 (fun s:Int=>b5e a b s) 0).bind fun x=>x.go (fun r=>some r) fun s=>c4M))
theorem b9U{a b}:OK a3L [j9 8 o7 a,j9 8 o7 b] (a77 a b) :=
 n7 _ fun r h=>n5<|j4 4 h (fun h=>rg<|fE h) (fun h=>rg<|lp (d4E a b) h (fun _ h=>a3L.rt h) (d6f r) fun hI=>sk [] [0,1,12,13] [] hI)
def c4C:FS (Bool):=⟨44,Tryz.f44,[.val [] []],[none,none],[.val [none,some 8] [],.val [none,some 8] []],fun r=>.b r,fun _=>[none,none],Tryz.func44⟩
def c2X(a:v6)(b:v6):Option Bool :=
 (bif (a.i4==b.i4) then ((a77 a.a5 b.a5).bind fun a5h=>some a5h) else some false)
theorem d9B{a b}:OK c4C [.agg (W9 a),.agg (W9 b)] (c2X a b) :=
 n7 _ fun r h=>n5<|j4 5 h (fun h=>j8 a3L b9U 10 h fun a5h h=>fE h) (fun h=>fE h)
def a5k:FS (Bool):=⟨45,Tryz.f45,[.val [] []],[none,none],[.val [some 7] [],.val [some 7] []],fun r=>.b r,fun _=>[none,none],Tryz.func45⟩
def d0i:Unit->KS:=fun _=>⟨a5k.k 4 [false,false],(bs 27 []),[some []]⟩
def c6P:Option Bool :=
 some true
theorem e4R(r):NF a5k r d0i (fun s=>c6P):=fun _ h=>PK<|rg<|fE h
def d2K(a:List m4)(b:List m4):Int->KS:=fun v13=>⟨a5k.k 3 [false],(j9 7 s8 a::(j9 7 s8 b::(bs 10 (vi (a.length:Int)::(vi v13::(bs 13 [])))))),[some []]⟩
def b28(a:List m4)(b:List m4)(v13:Int):Option (l7 Bool Int Unit) :=
 (bif decide (v13<(a.length:Int)) then ((idx a v13).bind fun entry=>((idx b v13).bind fun b0G=>((Z1 entry b0G).bind fun I8=>(bif (!I8) then some (l7.ret false) else some (l7.nxt (m7 (v13+1))))))) else some (l7.brk ()))
theorem e2T(a b):LQ a5k d0i (d2K a b) (fun s=>b28 a b s):=fun lc v13 h=>PK<|rg<|j4 0 h (fun h=>n5<|v5 s8 2 h fun entry G9 h=>v5 s8 6 h fun b0G b2m h=>j8 a2l a24 8 h fun I8 h=>j4 9 h (fun h=>rg<|fL lc h) (fun h=>rg<|(lc.nx h fun hI=>sk [] [0,1,12,13] [] hI))) (fun h=>(lc.bk h fun hI=>sk [] [] [] hI))
def b2s(a:List m4)(b:List m4):Option Bool :=
 (bif ((a.length:Int) != (b.length:Int)) then some false else ((o9 (fun s:Int=>b28 a b s) 0).bind fun x=>x.go (fun r=>some r) fun s=>c6P))
theorem c6z{a b}:OK a5k [j9 7 s8 a,j9 7 s8 b] (b2s a b) :=
 n7 _ fun r h=>n5<|j4 4 h (fun h=>rg<|fE h) (fun h=>rg<|lp (e2T a b) h (fun _ h=>a5k.rt h) (e4R r) fun hI=>sk [] [0,1,12,13] [] hI)
def a55:FS (Bool):=⟨46,Tryz.f46,[.val [] []],[none,none],[.val [some 1] [],.val [some 1] []],fun r=>.b r,fun _=>[none,none],Tryz.func46⟩
def c8v:Unit->KS:=fun _=>⟨a55.k 4 [false,false],(bs 26 []),[some []]⟩
def d0x:Option Bool :=
 some true
theorem d48(r):NF a55 r c8v (fun s=>d0x):=fun _ h=>PK<|rg<|fE h
def e1q(a:List Bool)(b:List Bool):Int->KS:=fun v13=>⟨a55.k 3 [false],(j9 1 eB a::(j9 1 eB b::(bs 10 (vi (a.length:Int)::(vi v13::(bs 12 [])))))),[some []]⟩
def b5a(a:List Bool)(b:List Bool)(v13:Int):Option (l7 Bool Int Unit) :=
 (bif decide (v13<(a.length:Int)) then ((idx a v13).bind fun y=>((idx b v13).bind fun y1=>(bif (!(y==y1)) then some (l7.ret false) else some (l7.nxt (m7 (v13+1)))))) else some (l7.brk ()))
theorem d6l(a b):LQ a55 c8v (e1q a b) (fun s=>b5a a b s):=fun lc v13 h=>PK<|rg<|j4 0 h (fun h=>n5<|v5 eB 2 h fun y hy h=>v5 eB 6 h fun y1 hy1 h=>j4 8 h (fun h=>rg<|fL lc h) (fun h=>rg<|(lc.nx h fun hI=>sk [] [0,1,12,13] [] hI))) (fun h=>(lc.bk h fun hI=>sk [] [] [] hI))
def b07(a:List Bool)(b:List Bool):Option Bool :=
 (bif ((a.length:Int) != (b.length:Int)) then some false else ((o9 (fun s:Int=>b5a a b s) 0).bind fun x=>x.go (fun r=>some r) fun s=>d0x))
theorem d2e{a b}:OK a55 [j9 1 eB a,j9 1 eB b] (b07 a b) :=
 n7 _ fun r h=>n5<|j4 4 h (fun h=>rg<|fE h) (fun h=>rg<|lp (d6l a b) h (fun _ h=>a55.rt h) (d48 r) fun hI=>sk [] [0,1,12,13] [] hI)
def a61:FS (Bool):=⟨49,Tryz.f49,[.val [] []],[none,none],[.val [some 4] [],.val [some 4] []],fun r=>.b r,fun _=>[none,none],Tryz.func49⟩
def c6F:Unit->KS:=fun _=>⟨a61.k 4 [false,false],(bs 26 []),[some []]⟩
def d2l:Option Bool :=
 some true
theorem d55(r):NF a61 r c6F (fun s=>d2l):=fun _ h=>PK<|rg<|fE h
def d4N(a:List o8)(b:List o8):Int->KS:=fun v13=>⟨a61.k 3 [false],(j9 4 z0 a::(j9 4 z0 b::(bs 10 (vi (a.length:Int)::(vi v13::(bs 12 [])))))),[some []]⟩
def b7X(a:List o8)(b:List o8)(v13:Int):Option (l7 Bool Int Unit) :=
 (bif decide (v13<(a.length:Int)) then ((idx a v13).bind fun ins=>((idx b v13).bind fun b16=>(bif (!(([ins.a7,ins.A,ins.B,ins.N]:List Int)==[b16.a7,b16.A,b16.B,b16.N])) then some (l7.ret false) else some (l7.nxt (m7 (v13+1)))))) else some (l7.brk ()))
theorem e0z(a b):LQ a61 c6F (d4N a b) (fun s=>b7X a b s):=fun lc v13 h=>PK<|rg<|j4 0 h (fun h=>n5<|v5 z0 2 h fun ins hins h=>v5 z0 6 h fun b16 e8y h=>j4 8 h (fun h=>rg<|fL lc h) (fun h=>rg<|(lc.nx h fun hI=>sk [] [0,1,12,13] [] hI))) (fun h=>(lc.bk h fun hI=>sk [] [] [] hI))
def b9Q(a:List o8)(b:List o8):Option Bool :=
 (bif ((a.length:Int) != (b.length:Int)) then some false else ((o9 (fun s:Int=>b7X a b s) 0).bind fun x=>x.go (fun r=>some r) fun s=>d2l))
theorem e8r{a b}:OK a61 [j9 4 z0 a,j9 4 z0 b] (b9Q a b) :=
 n7 _ fun r h=>n5<|j4 4 h (fun h=>rg<|fE h) (fun h=>rg<|lp (e0z a b) h (fun _ h=>a61.rt h) (d55 r) fun hI=>sk [] [0,1,12,13] [] hI)
def c1d:FS (Bool):=⟨20,Tryz.f20,[.val [] []],[none,none],[.val [some 4] [],.val [some 4] []],fun r=>.b r,fun _=>[none,none],Tryz.func20⟩
def b12(a:List o8)(b:List o8):Option Bool :=
 ((b9Q a b).bind fun ins=>some ins)
theorem c7w{a b}:OK c1d [j9 4 z0 a,j9 4 z0 b] (b12 a b) :=
 n7 _ fun r h=>n5<|j8 a61 e8r 2 h fun ins h=>fE h
def c9a:FS (Bool):=⟨18,Tryz.f18,[.val [] []],[none,none],[.val A0 [],.val A0 []],fun r=>.b r,fun _=>[none,none],Tryz.func18⟩
def b52(a:j5)(b:j5):Option Bool :=
 (bif (a.Id==b.Id) then ((c2X a.Acc b.Acc).bind fun c3r=>(bif c3r then ((b2s a.a6 b.a6).bind fun c8M=>(bif c8M then (bif (a.Seq==b.Seq) then (bif (a.d9==b.d9) then (bif (a.a8==b.a8) then ((b07 a.d7 b.d7).bind fun bool=>(bif bool then ((a77 a.g9 b.g9).bind fun a5h=>(bif a5h then ((Z1 a.c8 b.c8).bind fun I8=>(bif I8 then ((b07 a.a5 b.a5).bind fun a9B=>(bif a9B then (bif (a.i7==b.i7) then ((b12 a.i5 b.i5).bind fun b1g=>(bif b1g then ((Z1 a.b6 b.b6).bind fun c8V=>(bif c8V then ((b2s a.d8 b.d8).bind fun d0y=>some d0y) else some false)) else some false)) else some false) else some false)) else some false)) else some false)) else some false)) else some false) else some false) else some false) else some false)) else some false)) else some false)
theorem e3P{a b}:OK c9a [.agg (z9 a),.agg (z9 b)] (b52 a b) :=
 n7 _ fun r h=>n5<|j4 5 h (fun h=>j8 c4C d9B 10 h fun c3r h=>j4 12 h (fun h=>j8 a5k c6z 17 h fun c8M h=>j4 19 h (fun h=>j4 26 h (fun h=>j4 33 h (fun h=>j4 40 h (fun h=>j8 a55 d2e 45 h fun bool h=>j4 47 h (fun h=>j8 a3L b9U 52 h fun a5h h=>j4 54 h (fun h=>j8 a2l a24 59 h fun I8 h=>j4 61 h (fun h=>j8 a55 d2e 66 h fun a9B h=>j4 68 h (fun h=>j4 75 h (fun h=>j8 c1d c7w 80 h fun b1g h=>j4 82 h (fun h=>j8 a2l a24 87 h fun c8V h=>j4 89 h (fun h=>j8 a5k c6z 94 h fun d0y h=>fE h) (fun h=>fE h)) (fun h=>fE h)) (fun h=>fE h)) (fun h=>fE h)) (fun h=>fE h)) (fun h=>fE h)) (fun h=>fE h)) (fun h=>fE h)) (fun h=>fE h)) (fun h=>fE h)) (fun h=>fE h)) (fun h=>fE h)) (fun h=>fE h)
def c91:FS (Bool):=⟨19,Tryz.f19,[.val [] []],[none,none],[.val B2 [],.val B2 []],fun r=>.b r,fun _=>[none,none],Tryz.func19⟩
def b9V(a:j7)(b:j7):Option Bool :=
 (bif (a.a7==b.a7) then (bif (a.d7==b.d7) then (bif (a.To==b.To) then (bif (a.a8==b.a8) then (bif (a.g7==b.g7) then ((Z1 a.i0 b.i0).bind fun I8=>(bif I8 then ((a77 a.a5 b.a5).bind fun a5h=>some a5h) else some false)) else some false) else some false) else some false) else some false) else some false)
theorem d9V{a b}:OK c91 [.agg (p9 a),.agg (p9 b)] (b9V a b) :=
 n7 _ fun r h=>n5<|j4 5 h (fun h=>j4 12 h (fun h=>j4 19 h (fun h=>j4 26 h (fun h=>j4 33 h (fun h=>j8 a2l a24 38 h fun I8 h=>j4 40 h (fun h=>j8 a3L b9U 45 h fun a5h h=>fE h) (fun h=>fE h)) (fun h=>fE h)) (fun h=>fE h)) (fun h=>fE h)) (fun h=>fE h)) (fun h=>fE h)
def S4:FS (Bool):=⟨7,Tryz.f7,[.val [] []],[none,none],[.val E2 [],.val E2 []],fun r=>.b r,fun _=>[none,none],Tryz.func7⟩
def d14(a:m5)(b:m5):Unit->KS:=fun _=>⟨S4.k 4 [false,false],(bs 2 (.ptr 1 0 0::(.ptr 2 0 0::(bs 111 [])))),[some [],some [.var 28 (I6 a)],some [.var 28 (I6 b)]]⟩
def c5X(a:m5)(b:m5):Unit->KS:=fun _=>⟨S4.k 6 [false,false,false],(bs 2 (.ptr 1 0 0::(.ptr 2 0 0::(bs 111 [])))),[some [],some [.var 28 (I6 a)],some [.var 28 (I6 b)]]⟩
def c5g:Unit->KS:=fun _=>⟨S4.k 8 [false,false,false,false],(bs 115 []),[some []]⟩
def c6C:Option Bool :=
 some true
theorem e06(r):NF S4 r c5g (fun s=>c6C):=fun _ h=>PK<|rg<|fE h
def d3m(a:m5)(b:m5):Int->KS:=fun v82=>⟨S4.k 7 [false,false,false],(bs 2 (.ptr 1 0 0::(.ptr 2 0 0::(bs 77 (vi (a.c9.length:Int)::(vi v82::(bs 32 []))))))),[some [],some [.var 28 (I6 a)],some [.var 28 (I6 b)]]⟩
def b5m(a:m5)(b:m5)(v82:Int):Option (l7 Bool Int Unit) :=
 (bif decide (v82<(a.c9.length:Int)) then ((idx a.c9 v82).bind fun asked=>((idx b.c9 v82).bind fun a1T=>(bif (!(([asked.a0.d6,asked.a0.Seq]:List Int)==[a1T.a0.d6,a1T.a0.Seq])) then some (l7.ret false) else ((b12 asked.i5 a1T.i5).bind fun b1g=>(bif (!b1g) then some (l7.ret false) else some (l7.nxt (m7 (v82+1)))))))) else some (l7.brk ()))
theorem e2M(a b):LQ S4 c5g (d3m a b) (fun s=>b5m a b s):=fun lc v82 h=>PK<|rg<|j4 0 h (fun h=>n5<|v5 z8 3 h fun asked a6A h=>v5 z8 9 h fun a1T a8m h=>j4 13 h (fun h=>rg<|fL lc h) (fun h=>I5 z8 17 a6A<|I5 z8 23 a8m<|j8 c1d c7w 26 h fun b1g h=>j4 28 h (fun h=>rg<|fL lc h) (fun h=>rg<|(lc.nx h fun hI=>sk [] [2,3,81,82] [(1,0),(2,0)] hI)))) (fun h=>(lc.bk h fun hI=>sk [] [] [] hI))
def c0i(a:m5)(b:m5):Option Bool :=
 ((o9 (fun s:Int=>b5m a b s) 0).bind fun x=>x.go (fun r=>some r) fun s=>c6C)
theorem e6p(a b)(r):NF S4 r (c5X a b) (fun s=>c0i a b):=fun _ h=>PK<|rg<|lp (e2M a b) h (fun _ h=>S4.rt h) (e06 r) fun hI=>sk [] [2,3,81,82] [(1,0),(2,0)] hI
def e6c(a:m5)(b:m5):Int->KS:=fun v63=>⟨S4.k 5 [false,false],(bs 2 (.ptr 1 0 0::(.ptr 2 0 0::(bs 58 (vi (a.b9.length:Int)::(vi v63::(bs 51 []))))))),[some [],some [.var 28 (I6 a)],some [.var 28 (I6 b)]]⟩
def b5A(a:m5)(b:m5)(v63:Int):Option (l7 Bool Int Unit) :=
 (bif decide (v63<(a.b9.length:Int)) then ((idx a.b9 v63).bind fun msg=>((idx b.b9 v63).bind fun b1H=>((b9V msg b1H).bind fun c74=>(bif (!c74) then some (l7.ret false) else some (l7.nxt (m7 (v63+1))))))) else some (l7.brk ()))
theorem d3I(a b):LQ S4 (c5X a b) (e6c a b) (fun s=>b5A a b s):=fun lc v63 h=>PK<|rg<|j4 0 h (fun h=>n5<|v5 p9 3 h fun msg hmsg h=>v5 p9 8 h fun b1H b1c h=>j8 c91 d9V 10 h fun c74 h=>j4 11 h (fun h=>rg<|fL lc h) (fun h=>rg<|(lc.nx h fun hI=>sk [] [2,3,62,63] [(1,0),(2,0)] hI))) (fun h=>(lc.bk h fun hI=>sk [] [2,3] [(1,0),(2,0)] hI))
def b9d(a:m5)(b:m5):Option Bool :=
 ((o9 (fun s:Int=>b5A a b s) 0).bind fun x=>x.go (fun r=>some r) fun s=>c0i a b)
theorem e1n(a b)(r):NF S4 r (d14 a b) (fun s=>b9d a b):=fun _ h=>PK<|rg<|lp (d3I a b) h (fun _ h=>S4.rt h) (e6p a b r) fun hI=>sk [] [2,3,62,63] [(1,0),(2,0)] hI
def e3z(a:m5)(b:m5):Int->KS:=fun v44=>⟨S4.k 3 [false],(bs 2 (.ptr 1 0 0::(.ptr 2 0 0::(bs 39 (vi (a.a9.length:Int)::(vi v44::(bs 70 []))))))),[some [],some [.var 28 (I6 a)],some [.var 28 (I6 b)]]⟩
def b3c(a:m5)(b:m5)(v44:Int):Option (l7 Bool Int Unit) :=
 (bif decide (v44<(a.a9.length:Int)) then ((idx a.a9 v44).bind fun node=>((idx b.a9 v44).bind fun a1C=>((b52 node a1C).bind fun c96=>(bif (!c96) then some (l7.ret false) else some (l7.nxt (m7 (v44+1))))))) else some (l7.brk ()))
theorem e8n(a b):LQ S4 (d14 a b) (e3z a b) (fun s=>b3c a b s):=fun lc v44 h=>PK<|rg<|j4 0 h (fun h=>n5<|v5 z9 3 h fun node hnode h=>v5 z9 8 h fun a1C a3X h=>j8 c9a e3P 10 h fun c96 h=>j4 11 h (fun h=>rg<|fL lc h) (fun h=>rg<|(lc.nx h fun hI=>sk [] [2,3,43,44] [(1,0),(2,0)] hI))) (fun h=>(lc.bk h fun hI=>sk [] [2,3] [(1,0),(2,0)] hI))
def b4H(a:m5)(b:m5):Option Bool :=
 (bif ((a.a9.length:Int) != (b.a9.length:Int)) then some false else (bif ((a.b9.length:Int) != (b.b9.length:Int)) then some false else (bif ((a.c9.length:Int) != (b.c9.length:Int)) then some false else ((b3q a.Told b.Told).bind fun told=>(bif (!told) then some false else ((o9 (fun s:Int=>b3c a b s) 0).bind fun x=>x.go (fun r=>some r) fun s=>b9d a b))))))
theorem e7J{a b}:OK S4 [.agg (a0J a),.agg (a0J b)] (b4H a b) :=
 n7 _ fun r h=>n5<|j4 7 h (fun h=>rg<|fE h) (fun h=>j4 16 h (fun h=>rg<|fE h) (fun h=>j4 25 h (fun h=>rg<|fE h) (fun h=>j8 a6L e7L 30 h fun told h=>j4 32 h (fun h=>rg<|fE h) (fun h=>rg<|lp (e8n a b) h (fun _ h=>S4.rt h) (e1n a b r) fun hI=>sk [] [2,3,43,44] [(1,0),(2,0)] hI))))
def a6B:FS ((List o8)×Bool):=⟨10,Tryz.f10,[.val [some 4] [some 74],.val [] []],[none,none],[.val E2 [],.val [] []],fun r=>.tup [t7 74 4 z0 r.1,.b r.2],fun _=>[none,none],Tryz.func10⟩
def c68:Unit->KS:=fun _=>⟨a6B.k 3 [false],(bs 23 []),[some []]⟩
def c3s:Option ((List o8)×Bool) :=
 some ([],false)
theorem d3a(r):NF a6B r c68 (fun s=>c3s):=fun _ h=>PK<|rg<|fE h
def d9s(w:m5)(q:p8):Int->KS:=fun v11=>⟨a6B.k 2 [],(bs 3 (.ptr 1 0 0::(bs 5 (j9 3 z8 w.c9::(vi (w.c9.length:Int)::(vi v11::(bs 11 []))))))),[some [],some [.var 38 [vi q.d6,vi q.Seq]]]⟩
def b72(w:m5)(q:p8)(v11:Int):Option (l7 ((List o8)×Bool) Int Unit) :=
 (bif decide (v11<(w.c9.length:Int)) then ((idx w.c9 v11).bind fun asked=>(bif (([asked.a0.d6,asked.a0.Seq]:List Int)==[q.d6,q.Seq]) then ((a6h asked.i5).bind fun ins=>some (l7.ret (ins,true))) else some (l7.nxt (m7 (v11+1))))) else some (l7.brk ()))
theorem e4G(w q):LQ a6B c68 (d9s w q) (fun s=>b72 w q s):=fun lc v11 h=>PK<|rg<|j4 0 h (fun h=>rg<|v5 z8 0 h fun asked a6A h=>rg<|j4 3 h (fun h=>rg<|j8 b3N c1V 2 h fun ins h=>s4 ins<|fL lc h) (fun h=>rg<|(lc.nx h fun hI=>sk [] [3,9,10,11] [(1,0)] hI))) (fun h=>(lc.bk h fun hI=>sk [] [] [] hI))
def b7z(w:m5)(q:p8):Option ((List o8)×Bool) :=
 ((o9 (fun s:Int=>b72 w q s) 0).bind fun x=>x.go (fun r=>some r) fun s=>c3s)
theorem e3I{w q}:OK a6B [.agg (a0J w),.agg (Y5 q)] (b7z w q) :=
 n7 _ fun r h=>n5<|lp (e4G w q) h (fun _ h=>a6B.rt h) (d3a r) fun hI=>sk [] [3,9,10,11] [(2,0)] hI
def Z9:FS (Bool):=⟨3,Tryz.f3,[.val [] []],[none],[.val [some 1] []],fun r=>.b r,fun _=>[none],Tryz.func3⟩
def c6E(worldPlay:m5):Unit->KS:=fun _=>⟨Z9.k 6 [false,false,false],(bs 3 (.ptr 1 0 0::(bs 100 []))),[some [],some [.var 28 [j9 27 z9 worldPlay.a9,j9 13 p9 worldPlay.b9,j9 3 z8 worldPlay.c9,j9 5 u9 worldPlay.Told]]]⟩
def b9e(worldPlay:m5):Unit->KS:=fun _=>⟨Z9.k 8 [false,false,false,false],(bs 3 (.ptr 1 0 0::(bs 100 []))),[some [],some [.var 28 [j9 27 z9 worldPlay.a9,j9 13 p9 worldPlay.b9,j9 3 z8 worldPlay.c9,j9 5 u9 worldPlay.Told]]]⟩
def c0r(worldPlay:m5):Option Bool :=
 some (decide ((worldPlay.Told.length:Int)<=(worldPlay.c9.length:Int)))
theorem d8u(worldPlay)(r):NF Z9 r (b9e worldPlay) (fun s=>c0r worldPlay):=fun _ h=>PK<|rg<|fE h
def c9W(worldPlay:m5):Int->KS:=fun i1=>⟨Z9.k 7 [false,false,false],(bs 3 (.ptr 1 0 0::(bs 3 (vi i1::(bs 96 []))))),[some [],some [.var 28 [j9 27 z9 worldPlay.a9,j9 13 p9 worldPlay.b9,j9 3 z8 worldPlay.c9,j9 5 u9 worldPlay.Told]]]⟩
def d1f(worldPlay:m5)(i1:Int):Unit->KS:=fun _=>⟨Z9.k 11 [false,false,false,true,false,false],(bs 3 (.ptr 1 0 0::(bs 3 (vi i1::(bs 96 []))))),[some [],some [.var 28 [j9 27 z9 worldPlay.a9,j9 13 p9 worldPlay.b9,j9 3 z8 worldPlay.c9,j9 5 u9 worldPlay.Told]]]⟩
def b83(i1:Int):Option (l7 Bool Int Unit) :=
 some (l7.nxt (m7 (i1+1)))
theorem d9j(worldPlay i1)(lc:H8 Z9 (b9e worldPlay) (c9W worldPlay)):NL lc (d1f worldPlay i1) (fun s=>b83 i1):=fun _ h=>PK<|rg<|(lc.nx h fun hI=>sk [] [3,7] [(1,0)] hI)
def e2V(worldPlay:m5)(i1:Int):Int->KS:=fun k=>⟨Z9.k 10 [false,false,false,true,false],(bs 3 (.ptr 1 0 0::(bs 3 (vi i1::(vi k::(bs 95 [])))))),[some [],some [.var 28 [j9 27 z9 worldPlay.a9,j9 13 p9 worldPlay.b9,j9 3 z8 worldPlay.c9,j9 5 u9 worldPlay.Told]]]⟩
def b6U(worldPlay:m5)(i1:Int)(k:Int):Option (l7 Bool Int Unit) :=
 (bif decide (k<(worldPlay.Told.length:Int)) then ((idx worldPlay.Told k).bind fun told=>((idx worldPlay.a9 i1).bind fun a1C=>(bif (([told.a0.d6,told.a0.Seq]:List Int)==[a1C.b6.a0.d6,a1C.b6.a0.Seq]) then some (l7.ret false) else some (l7.nxt (m7 (k+1)))))) else some (l7.brk ()))
theorem e3J(worldPlay i1):LQ Z9 (d1f worldPlay i1) (e2V worldPlay i1) (fun s=>b6U worldPlay i1 s):=fun lc k h=>PK<|rg<|j4 4 h (fun h=>rg<|v5 u9 3 h fun told a5V h=>v5 z9 9 h fun a1C a3X h=>j4 13 h (fun h=>rg<|fL lc h) (fun h=>rg<|(lc.nx h fun hI=>sk [] [3,7,8] [(1,0)] hI))) (fun h=>(lc.bk h fun hI=>sk [] [3,7] [(1,0)] hI))
def a4y(worldPlay:m5)(i1:Int):Option (l7 Bool Int Unit) :=
 (bif decide (i1<3) then ((idx worldPlay.a9 i1).bind fun node=>(bif (!node.i7) then some (l7.nxt (m7 (i1+1))) else ((o9 (fun s:Int=>b6U worldPlay i1 s) 0).bind fun x=>x.go (fun r=>some (l7.ret r)) fun s=>b83 i1))) else some (l7.brk ()))
theorem d5b(worldPlay):LQ Z9 (b9e worldPlay) (c9W worldPlay) (fun s=>a4y worldPlay s):=fun lc i1 h=>PK<|rg<|j4 1 h (fun h=>rg<|v5 z9 3 h fun node hnode h=>j4 6 h (fun h=>rg<|(lc.nx h fun hI=>sk [] [3,7] [(1,0)] hI)) (fun h=>rg<|lp (e3J worldPlay i1) h (fun _ h=>lc.rt h) (d9j worldPlay i1 lc) fun hI=>sk [] [3,7,8] [(1,0)] hI)) (fun h=>(lc.bk h fun hI=>sk [] [3] [(1,0)] hI))
def b8y(worldPlay:m5):Option Bool :=
 ((o9 (fun s:Int=>a4y worldPlay s) 0).bind fun x=>x.go (fun r=>some r) fun s=>c0r worldPlay)
theorem d8n(worldPlay)(r):NF Z9 r (c6E worldPlay) (fun s=>b8y worldPlay):=fun _ h=>PK<|rg<|lp (d5b worldPlay) h (fun _ h=>Z9.rt h) (d8u worldPlay r) fun hI=>sk [] [3,7] [(1,0)] hI
def d9l(worldPlay:m5):Int->KS:=fun i=>⟨Z9.k 5 [false,false],(bs 3 (.ptr 1 0 0::(vi i::(bs 99 [])))),[some [],some [.var 28 [j9 27 z9 worldPlay.a9,j9 13 p9 worldPlay.b9,j9 3 z8 worldPlay.c9,j9 5 u9 worldPlay.Told]]]⟩
def b0t(worldPlay:m5)(i:Int):Option (l7 Bool Int Unit) :=
 (bif decide (i<(worldPlay.Told.length:Int)) then ((idx worldPlay.Told i).bind fun Y7=>((b7z worldPlay Y7.a0).bind fun c71=>(bif (!c71.2) then some (l7.ret false) else (bif (Y7.Node != Y7.a0.d6) then some (l7.ret false) else some (l7.nxt (m7 (i+1))))))) else some (l7.brk ()))
theorem e0C(worldPlay):LQ Z9 (c6E worldPlay) (d9l worldPlay) (fun s=>b0t worldPlay s):=fun lc i h=>PK<|rg<|j4 4 h (fun h=>rg<|v5 u9 4 h fun Y7 b5b h=>j8 a6B e3I 7 h fun c71 h=>rg<|j4 2 h (fun h=>rg<|fL lc h) (fun h=>I5 u9 6 b5b<|I5 u9 12 b5b<|j4 17 h (fun h=>rg<|fL lc h) (fun h=>rg<|(lc.nx h fun hI=>sk [] [3,4] [(1,0)] hI)))) (fun h=>(lc.bk h fun hI=>sk [] [3] [(1,0)] hI))
def c1D(code:List Int):Option Bool :=
 (bif decide ((code.length:Int)>1048576) then some true else ((b4I).bind fun a9F=>((a96 code).bind fun c9M=>((b2o a9F c9M).bind fun worldPlay=>((b1U).bind fun a4R=>((a96 code).bind fun b9z=>((b2N a4R b9z).bind fun a1p=>((b4H worldPlay a1p).bind fun a6Q=>(bif (!a6Q) then some false else (bif ((worldPlay.a9.length:Int) != 3) then some false else ((o9 (fun s:Int=>b0t worldPlay s) 0).bind fun x=>x.go (fun r=>some r) fun s=>b8y worldPlay)))))))))))
theorem d5Q{code}:OK Z9 [j9 1 H7 code] (c1D code) :=
 n7 _ fun r h=>n5<|j4 2 h (fun h=>rg<|fE h) (fun h=>rg<|j8 a6U e1V 0 h fun a9F h=>j8 c2v d1P 2 h fun c9M h=>j8 a6K e23 3 h fun worldPlay h=>rg<|j8 a5I c6I 1 h fun a4R h=>j8 c2v d1P 3 h fun b9z h=>A4 h fun a1p d6a h=>om (W4 cx.P 8 [.agg [.sl 27 a4R.a9.length (Z0 (a4R.a9.map w9)),j9 13 p9 a4R.b9,j9 3 z8 a4R.c9,j9 5 u9 a4R.Told],j9 3 F6 b9z] (a3u.R a1p) (a3u.O a1p)) (by simp only [a8H b2g];exact (e35 a1p d6a))<|A2 a4R<|tl (a3u.t 4 false a1p)<|A4 h fun a6Q d7k h=>om (W4 cx.P 7 [.agg (a0J worldPlay),.agg [.sl 27 a1p.a9.length (Z0 (a1p.a9.map w9)),j9 13 p9 a1p.b9,j9 3 z8 a1p.c9,j9 5 u9 a1p.Told]] (S4.R a6Q) (S4.O a6Q)) (by simp only [a8H b2g];exact (e7J a6Q d7k))<|osc S4 a6Q rfl (P1 2)<|A2 a1p<|tl (S4.t 5 true a6Q)<|j4 7 h (fun h=>rg<|fE h) (fun h=>j4 12 h (fun h=>rg<|fE h) (fun h=>rg<|lp (e0C worldPlay) h (fun _ h=>Z9.rt h) (d8n worldPlay r) fun hI=>sk [] [3,4] [(9,0)] hI)))
theorem e6M:a9i Tryz.prog 5 H7 a5L:=e71 Tryz.underlying5
theorem e05:a9i Tryz.prog 22 (fun l:List Int=>[j9 1 H7 l]) (z7 1 a5L):=d5Z Tryz.underlying22 e6M (by kernel_rfl) (by decide) (by kernel_rfl) (fun _=>rfl)
theorem B6{n:Int}(h1:-9223372036854775808<=n)(h2:n<=9223372036854775807):m7 n=n:=IntWalk.i64_in n ⟨h1,h2⟩
def t6{α:Type}(l:List α):Prop:=l.length<=140737488351232
theorem F3{α:Type}{l:List α}(hl:t6 l){k:Nat}(h:k<l.length):m7 ((k:Int)+1)=((k+1:Nat):Int):=by
 unfold t6 at hl;rw [B6 (by omega) (by omega)];omega
section
variable {R S B:Type} {body:S->Option (l7 R S B)}
theorem C9{s t:S}(h:body s=some (.nxt t)):o9 body s=o9 body t:=by rw [b9g,h]
theorem C2{s:S}{b:B}(h:body s=some (.brk b)):o9 body s=some (.brk b):=by rw [b9g,h]
theorem X7{s:S}{r:R}(h:body s=some (.ret r)):o9 body s=some (.ret r):=by rw [b9g,h]
theorem X3(st:Nat->S)(n:Nat)(h:∀k,k<n->body (st k)=some (.nxt (st (k+1)))):o9 body (st 0)=o9 body (st n):=by
 induction n with
 | zero=>rfl
 | succ n ih =>
  rw [ih fun k hk=>h k (by omega)];exact C9 (h n (by omega))
theorem a47(st:Nat->S)(n:Nat)(ok:Nat->Bool)(r:Nat->R)(b:B)(h1:∀k,k<n->(∀j,j<k->ok j=true)->body (st k)=some (bif ok k then .nxt (st (k+1)) else .ret (r k)))(h2:(∀j,j<n->ok j=true)->body (st n)=some (.brk b)) :
  (o9 body (st 0)=some (.brk b)/\∀j,j<n->ok j=true)\/∃k,k<n/\ok k=false/\(∀j,j<k->ok j=true)/\o9 body (st 0)=some (.ret (r k)):=by
 by_cases hall:∀j,j<n->ok j=true
 ·left
  refine ⟨?_,hall⟩;rw [X3 st n fun k hk => ?_]
  ·exact C2 (h2 hall)
  ·rw [h1 k hk fun j hj=>hall j (by omega),hall k hk];rfl
 ·right
  have hex:∃k,k<n/\ok k=false:=by
   apply Classical.byContradiction;intro hn;apply hall;intro j hj;cases hj':ok j with
   | true=>rfl
   | false=>exact absurd ⟨j,hj,hj'⟩ hn
  obtain ⟨k,hk,ho,hb⟩:∃k,k<n/\ok k=false/\∀j,j<k->ok j=true:=by
   obtain ⟨k,hk,ho⟩:=hex;induction k using Nat.strongRecOn with
   | _ k ih =>
    by_cases hb:∀j,j<k->ok j=true
    ·exact ⟨k,hk,ho,hb⟩
    ·have:∃j,j<k/\ok j=false:=by
      apply Classical.byContradiction;intro hn;apply hb;intro j hj;cases hj':ok j with
      | true=>rfl
      | false=>exact absurd ⟨j,hj,hj'⟩ hn
     obtain ⟨j,hj,hjo⟩:=this;exact ih j hj (by omega) hjo
  refine ⟨k,hk,ho,hb,?_⟩;rw [X3 st k fun j hj => ?_]
  ·refine X7 ?_;rw [h1 k hk hb,ho];rfl
  ·rw [h1 j (by omega) fun i hi=>hb i (by omega),hb j hj];rfl
end
theorem b3m{R S B:Type}{body:S->Option (l7 R S B)}(I:Nat->S->Prop)(Q:l8 R B->Prop)(h:∀k s,I k s->∃st,body s=some st/\match st with | .ret r=>Q (.ret r) | .brk b=>Q (.brk b) | .nxt t => ∃k',k'<k/\I k' t):∀{k s},I k s->∃x,o9 body s=some x/\Q x:=by
 intro k;induction k using Nat.strongRecOn with
 | _ k ih =>
  intro s hs;obtain ⟨st,hb,hq⟩:=h k s hs;cases st with
  | ret r=>exact ⟨_,X7 hb,hq⟩
  | brk b=>exact ⟨_,C2 hb,hq⟩
  | nxt t =>
   obtain ⟨k',hk,ht⟩:=hq;obtain ⟨x,hx,hq⟩:=ih k' hk ht;exact ⟨x,by rw [C9 hb];exact hx,hq⟩
theorem t5{β:Type}{p:Prop}[Decidable p](h:p)(k:Option β):s7 p k=k:=if_pos h
theorem a6p{α:Type}(l:List α)(k:Nat):idx l (k:Int)=l[k]?:=by
 unfold idx;rw [if_pos (by omega)];rfl
theorem u0{α:Type}{l:List α}{k:Nat}(h:k<l.length):idx l (k:Int)=some l[k]:=by
 rw [a6p,e8D h]
theorem w8{α:Type}(l:List α)(k:Nat)(h:k<l.length):decide ((k:Int)<(l.length:Int))=true:=by simpa using h
theorem A3{α:Type}(l:List α):decide ((l.length:Int)<(l.length:Int))=false:=by simp
theorem O3{α B:Type}{body:Int->Option (l7 Bool Int B)}(l:List α)(hl:t6 l)(ok:α->Bool)(v:Bool)(b:B)(h1:∀(k:Nat) (h:k<l.length),body (k:Int)=some (bif ok l[k] then .nxt (m7 ((k:Int)+1)) else .ret v))(h2:body (l.length:Int)=some (.brk b)):o9 body 0=some (bif l.all ok then .brk b else .ret v):=by
 have h:=a47 (body:=body) (fun k=>(k:Int)) l.length (fun k=>match l[k]? with|some x=>ok x|none=>true) (fun _=>v) b
  (fun k hk _=>by
   have:=h1 k hk;rw [F3 hl hk] at this;simpa [e8D hk] using this) (fun _=>h2)
 rcases h with ⟨h,hall⟩|⟨k,hk,ho,_,h⟩
 ·have:l.all ok=true:=by
   rw [List.all_eq_true];intro x hx;obtain ⟨i,hi,rfl⟩:=e9s hx;have:=hall i hi;simpa [e8D hi] using this
  rw [this];exact h
 ·have:l.all ok=false:=by
   rw [e95];refine ⟨l[k],e8F hk,?_⟩;simpa [e8D hk] using ho
  rw [this];exact h
theorem a5K{α B:Type}{body:Int->Option (l7 Bool Int B)}(l:List α)(hl:t6 l)(ok:Nat->Bool)(v:Bool)(b:B)(h1:∀(k:Nat) (h:k<l.length),(∀j,j<k->ok j=true)->body (k:Int)=some (bif ok k then .nxt (m7 ((k:Int)+1)) else .ret v))(h2:body (l.length:Int)=some (.brk b)):o9 body 0=some (bif (e8M l.length).all ok then .brk b else .ret v):=by
 have h:=a47 (body:=body) (fun k=>(k:Int)) l.length ok (fun _=>v) b
  (fun k hk hb=>by
   have:=h1 k hk hb;rw [F3 hl hk] at this;exact this) (fun _=>h2)
 rcases h with ⟨h,hall⟩|⟨k,hk,ho,_,h⟩
 ·have:(e8M l.length).all ok=true:=by
   rw [List.all_eq_true];intro x hx;exact hall x (by simpa using hx)
  rw [this];exact h
 ·have:(e8M l.length).all ok=false:=by
   rw [e95];exact ⟨k,by simpa using hk,by simp [ho]⟩
  rw [this];exact h
theorem b6w{α R B:Type}{body:Int->Option (l7 R Int B)}(l:List α)(hl:t6 l)(is:α->Bool)(f:α->R)(b:B)(h1:∀(k:Nat) (h:k<l.length),body (k:Int)=some (bif is l[k] then .ret (f l[k]) else .nxt (m7 ((k:Int)+1))))(h2:body (l.length:Int)=some (.brk b)):o9 body 0=some (match l.find? is with|some x=>.ret (f x)|none=>.brk b):=by
 have key:∀(m k:Nat),k+m=l.length->o9 body (k:Int)=some (match (l.drop k).find? is with|some x=>.ret (f x)|none=>.brk b):=by
  intro m;induction m with
  | zero =>
   intro k hk;have:k=l.length:=by omega
   subst this;rw [List.drop_length];exact C2 h2
  | succ m ih =>
   intro k hk;have hlt:k<l.length:=by omega
   have hb:=h1 k hlt;rw [e8X hlt,List.find?_cons];cases hq:is l[k] with
   | true =>
    rw [hq] at hb;exact X7 hb
   | false =>
    rw [hq] at hb;rw [C9 hb,F3 hl hlt];exact ih (k+1) (by omega)
 have:=key l.length 0 (by omega);simpa using this
theorem c65{α S R B:Type}{body:S×Int->Option (l7 R (S×Int) B)}(l:List α)(hl:t6 l)(g:S->α->S)(s0:S)(b:S->B)(h1:∀(k:Nat) (h:k<l.length),body ((l.take k).foldl g s0,(k:Int))=some (.nxt (g ((l.take k).foldl g s0) l[k],m7 ((k:Int)+1))))(h2:body (l.foldl g s0,(l.length:Int))=some (.brk (b (l.foldl g s0)))):o9 body (s0,0)=some (.brk (b (l.foldl g s0))):=by
 have h:=X3 (body:=body) (fun k=>((l.take k).foldl g s0,(k:Int))) l.length (fun k hk=>by
  rw [h1 k hk,F3 hl hk,e87 hk,List.foldl_append];rfl)
 simp only [e9e,f0g,e85] at h;rw [show ((0:Nat):Int)=0 from rfl] at h;rw [h];exact C2 h2
def c2B(x:p8):Prop:=G8 x.d6/\G8 x.Seq
def c8d(x:p7):Prop:=G8 x.i6/\G8 x.j3
def c5m(x:n8):Prop:=G8 x.i6/\G8 x.f0
def b53(x:m9):Prop:=(z7 16 c8d) x.b5/\(z7 16 c5m) x.b7/\G8 x.f0/\G8 x.Code
def D7(x:m4):Prop:=c2B x.a0/\b53 x.b8
def P7(x:m6):Prop:=G8 x.a8/\D7 x.i0
def a5a(x:v6):Prop:=G8 x.i4/\(z7 96 P7) x.a5
def b0w(x:o8):Prop:=G8 x.a7/\G8 x.A/\G8 x.B/\G8 x.N
def Q1(x:j5):Prop:=G8 x.Id/\a5a x.Acc/\(z7 88 D7) x.a6/\G8 x.Seq/\G8 x.d9/\G8 x.a8/\(z7 1 okT) x.d7/\(z7 96 P7) x.g9/\D7 x.c8/\(z7 1 okT) x.a5/\(z7 32 b0w) x.i5/\D7 x.b6/\(z7 88 D7) x.d8
def X9(x:j7):Prop:=G8 x.a7/\G8 x.d7/\G8 x.To/\G8 x.a8/\G8 x.g7/\D7 x.i0/\(z7 96 P7) x.a5
def c3n(x:u5):Prop:=c2B x.a0/\(z7 32 b0w) x.i5
def c27(x:m8):Prop:=G8 x.Node/\c2B x.a0/\G8 x.Code/\G8 x.f0
def a2C(x:m5):Prop:=(z7 392 Q1) x.a9/\(z7 152 X9) x.b9/\(z7 40 c3n) x.c9/\(z7 40 c27) x.Told
theorem z7.fits{α:Type}{bytes:Nat}{ok:α->Prop}{l:List α}(h:z7 bytes ok l)(hb:0<bytes):t6 l:=by
 obtain ⟨h,_⟩:=h;unfold t6;have:l.length*1<=l.length*bytes:=Nat.mul_le_mul_left _ hb;omega
def a1m(x:m9):Prop:=z7 16 okT x.b5/\z7 16 okT x.b7/\True
def a1F(x:m4):Prop:=True/\a1m x.b8
theorem z7.imp{α:Type}{bytes:Nat}{ok ok':α->Prop}{l:List α}(h:z7 bytes ok l)(hi:∀x,ok x->ok' x):z7 bytes ok' l:=⟨h.1,fun x hx=>hi x (h.2 x hx)⟩
theorem b53.f{x:m9}(h:b53 x):a1m x:=⟨h.1.imp fun _ _=>trivial,h.2.1.imp fun _ _=>trivial,trivial⟩
theorem D7.f{x:m4}(h:D7 x):a1F x:=⟨trivial,h.2.f⟩
theorem okEntries.f{l:List m4}(h:z7 88 D7 l):z7 88 a1F l:=h.imp fun _ x=>x.f
def L2(l:List p7)(box:Int):Bool:=l.any (·.i6==box)
def R5(l:List n8)(box:Int):Bool:=l.any (·.i6==box)
theorem c19{l:List p7}(h:t6 l)(box:Int):b1l l box=some (L2 l box):=by
 unfold b1l;rw [O3 l h (fun x => !(x.i6==box)) true ()]
 ·unfold L2;rw [List.any_eq_not_all_not];cases l.all fun x => !(x.i6==box)<;>rfl
 ·intro k hk;unfold b5h;rw [w8 l k hk,u0 hk];cases hq:l[k].i6==box<;>simp [hq]
 ·unfold b5h;rw [A3];rfl
theorem d0D{α B:Type}{body:Int->Option (l7 Int Int B)}(l:List α)(hl:t6 l)(is:α->Bool)(b:B)(h1:∀(k:Nat) (h:k<l.length),body (k:Int)=some (bif is l[k] then .ret (k:Int) else .nxt (m7 ((k:Int)+1))))(h2:body (l.length:Int)=some (.brk b)):(o9 body 0=some (.brk b)/\l.any is=false)\/∃k:Nat,o9 body 0=some (.ret (k:Int))/\l.any is=true:=by
 have h:=a47 (body:=body) (fun k=>(k:Int)) l.length (fun k=>match l[k]? with|some x => !is x|none=>true) (fun k=>(k:Int)) b
  (fun k hk _=>by
   have:=h1 k hk;rw [F3 hl hk] at this;rw [this];simp only [e8D hk];cases is l[k]<;>rfl) (fun _=>h2)
 rcases h with ⟨h,hall⟩|⟨k,hk,ho,_,h⟩
 ·left
  refine ⟨h,?_⟩;rw [e9p];intro x hx;obtain ⟨i,hi,rfl⟩:=e9s hx;have:=hall i hi;simpa [e8D hi] using this
 ·right
  refine ⟨k,h,?_⟩;rw [e9W];refine ⟨l[k],e8F hk,?_⟩;simpa [e8D hk] using ho
theorem d8B{l:List n8}(h:t6 l)(box:Int):∃v,a2g l box=some v/\decide (v>=0)=R5 l box:=by
 unfold a2g;rcases d0D (body:=fun s:Int=>a05 l box s) l h (fun x=>x.i6==box) () (by
  intro k hk;unfold a05;rw [w8 l k hk,u0 hk];cases hq:l[k].i6==box<;>simp [hq]) (by unfold a05;rw [A3];rfl) with ⟨h1,h2⟩|⟨k,h1,h2⟩
 ·rw [h1];exact ⟨-1,rfl,h2.symm⟩
 ·rw [h1];refine ⟨k,rfl,?_⟩;rw [show R5 l box=true from h2];simp
theorem e3X{x:m9}(h:t6 x.b5)(box:Int):∃v,b0n x box=some v/\decide (v>=0)=L2 x.b5 box:=by
 unfold b0n;rcases d0D (body:=fun s:Int=>b2K x box s) x.b5 h (fun x=>x.i6==box) () (by
  intro k hk;unfold b2K;rw [w8 x.b5 k hk,u0 hk];cases hq:x.b5[k].i6==box<;>simp [hq]) (by unfold b2K;rw [A3];rfl) with ⟨h1,h2⟩|⟨k,h1,h2⟩
 ·rw [h1];exact ⟨-1,rfl,h2.symm⟩
 ·rw [h1];refine ⟨k,rfl,?_⟩;rw [show L2 x.b5 box=true from h2];simp
def n9(n lo hi:Int):Bool:=decide (lo<=n/\n<=hi)
theorem K9(n lo hi:Int):C0 n lo hi=some (n9 n lo hi):=by
 unfold C0 n9;by_cases h:n>=lo
 ·have h':lo<=n:=h;simp [h']
 ·have h':¬lo<=n:=h;simp [h']
theorem a4U(n:Int):a4N n=some (n9 n (-1000000) 1000000):=K9 n (-1000000) 1000000
theorem b8E(n:Int):a7W n=some (n9 n 0 3):=by
 rw [<-K9];unfold a7W C0;have:(n<4)=(n<=3):=by apply propext;omega
 simp only [this]
theorem b5F(q:p8):a6b q=some (n9 q.d6 0 2&&n9 q.Seq 1 1000):=by
 unfold a6b;simp only [K9,e8C];cases n9 q.d6 0 2<;>rfl
theorem b79(q:p8):a9H q=some (n9 q.d6 0 2&&n9 q.Seq 1 1000):=by
 have h3:(q.d6<3)=(q.d6<=2):=by apply propext;omega
 unfold a9H n9;simp only [h3];by_cases h1:q.d6>=0<;>by_cases h2:q.d6<=2<;>by_cases h4:q.Seq>=1<;>by_cases h5:q.Seq<=1000<;>simp [h1,h2,h4,h5]<;>omega
def U1(l:List p7)(k:Nat):Bool:=match l[k]? with
 | some x=>n9 x.i6 0 3&&(n9 x.j3 0 1000000 && !L2 (l.take k) x.i6)
 | none=>true
def T7(l:List n8)(k:Nat):Bool:=match l[k]? with
 | some x=>n9 x.i6 0 3&&(n9 x.f0 (-1000000) 1000000 && !R5 (l.take k) x.i6)
 | none=>true
theorem c8S{α:Type}{l:List α}(h:t6 l)(k:Nat):t6 (l.take k):=by
 unfold t6 at h ⊢;rw [e83];omega
theorem e5O{r:m9}(h:t6 r.b5):o9 (fun s:Int=>b1i r s) 0=some (bif (e8M r.b5.length).all (U1 r.b5) then .brk () else .ret false):=by
 refine a5K r.b5 h (U1 r.b5) false () ?_ ?_
 ·intro k hk _;unfold b1i U1 s7;rw [w8 _ k hk,u0 hk,e8D hk];have hp:(0:Int)<=(k:Int)/\(k:Int)<=(r.b5.length:Int):=by constructor<;>omega
  simp only [cond_true,e8C,if_pos hp,b8E,e82,Nat.sub_zero,e9F,c19 (c8S h k)];cases n9 r.b5[k].i6 0 3
  ·rfl
  ·unfold n9;by_cases h1:r.b5[k].j3<0
   ·have h1':¬0<=r.b5[k].j3:=by omega
    simp [h1,h1']
   ·have h1':0<=r.b5[k].j3:=by omega
    by_cases h2:r.b5[k].j3>1000000
    ·have h2':¬r.b5[k].j3<=1000000:=by omega
     simp [h1,h1',h2,h2']
    ·have h2':r.b5[k].j3<=1000000:=by omega
     simp only [h1,h1',h2,h2',decide_false,decide_true,e8H,cond_false,e8V,and_self];cases L2 (r.b5.take k) r.b5[k].i6<;>rfl
 ·unfold b1i;rw [A3];rfl
theorem d86{r:m9}(h:t6 r.b7):o9 (fun s:Int=>a9R r s) 0=some (bif (e8M r.b7.length).all (T7 r.b7) then .brk () else .ret false):=by
 refine a5K r.b7 h (T7 r.b7) false () ?_ ?_
 ·intro k hk _;obtain ⟨v,hv,hg⟩:=d8B (c8S h k) r.b7[k].i6;unfold a9R T7 s7;rw [w8 _ k hk,u0 hk,e8D hk];have hp:(0:Int)<=(k:Int)/\(k:Int)<=(r.b7.length:Int):=by constructor<;>omega
  simp only [cond_true,e8C,if_pos hp,b8E,a4U,e82,Nat.sub_zero,e9F,hv,hg];cases n9 r.b7[k].i6 0 3
  ·rfl
  ·cases n9 r.b7[k].f0 (-1000000) 1000000
   ·rfl
   ·cases R5 (r.b7.take k) r.b7[k].i6<;>rfl
 ·unfold a9R;rw [A3];rfl
def a8n(f:Int->Bool):List Bool:=[f 0,f 1,f 2,f 3]
theorem c4w{f:Int->Bool}{b:Int}(h:n9 b 0 3=true):idx (a8n f) b=some (f b)/\b<4:=by
 have h:0<=b/\b<=3:=by simpa [n9] using h
 have:b=0\/b=1\/b=2\/b=3:=by omega
 rcases this with rfl|rfl|rfl|rfl<;>exact ⟨rfl,by decide⟩
theorem c3u{f g:Int->Bool}{b:Int}(h:n9 b 0 3=true)(hb:g b=true)(hne:∀c,c≠b->g c=f c):(a8n f).set b.toNat true=a8n g:=by
 have h:0<=b/\b<=3:=by simpa [n9] using h
 have:b=0\/b=1\/b=2\/b=3:=by omega
 unfold a8n;rcases this with rfl|rfl|rfl|rfl
 all_goals
  rw [show [g 0,g 1,g 2,g 3]=_ from rfl];first
   | rw [hb,hne 1 (by decide),hne 2 (by decide),hne 3 (by decide)];rfl
   | rw [hb,hne 0 (by decide),hne 2 (by decide),hne 3 (by decide)];rfl
   | rw [hb,hne 0 (by decide),hne 1 (by decide),hne 3 (by decide)];rfl
   | rw [hb,hne 0 (by decide),hne 1 (by decide),hne 2 (by decide)];rfl
theorem c43{l:List p7}{k:Nat}(hk:k<l.length)(b:Int):L2 (l.take (k+1)) b=(L2 (l.take k) b||(l[k].i6==b)):=by
 unfold L2;rw [e87 hk,List.any_append];simp
theorem d0S{l:List n8}{k:Nat}(hk:k<l.length)(b:Int):R5 (l.take (k+1)) b=(R5 (l.take k) b||(l[k].i6==b)):=by
 unfold R5;rw [e87 hk,List.any_append];simp
theorem d3t{l:List p7}{k:Nat}(hk:k<l.length)(c:Int)(hc:c≠l[k].i6):L2 (l.take (k+1)) c=L2 (l.take k) c:=by
 have:(l[k].i6==c)=false:=by simpa using fun h=>hc h.symm
 rw [c43 hk,this,Bool.or_false]
theorem d3G{l:List n8}{k:Nat}(hk:k<l.length)(c:Int)(hc:c≠l[k].i6):R5 (l.take (k+1)) c=R5 (l.take k) c:=by
 have:(l[k].i6==c)=false:=by simpa using fun h=>hc h.symm
 rw [d0S hk,this,Bool.or_false]
theorem c4X{R S B:Type}{x:Option (l8 R B)}{n:Nat}{ok:Nat->Bool}{r:R}{b:B}(h:(x=some (.brk b)/\∀j,j<n->ok j=true)\/∃k,k<n/\ok k=false/\(∀j,j<k->ok j=true)/\x=some (.ret r)):x=some (bif (e8M n).all ok then .brk b else .ret r):=by
 rcases h with ⟨h,hall⟩|⟨k,hk,ho,_,h⟩
 ·have:(e8M n).all ok=true:=by
   rw [List.all_eq_true];intro x hx;exact hall x (by simpa using hx)
  rw [this];exact h
 ·have:(e8M n).all ok=false:=by
   rw [e95];exact ⟨k,by simpa using hk,by simp [ho]⟩
  rw [this];exact h
theorem e3v{r:m9}(h:t6 r.b5):o9 (fun s:List Bool×Int=>a9G r s.1 s.2) (e8E 4 false,0)=some (bif (e8M r.b5.length).all (U1 r.b5) then .brk () else .ret false):=by
 refine c4X (S:=List Bool×Int) (a47 (body:=fun s:List Bool×Int=>a9G r s.1 s.2) (fun k=>(a8n (L2 (r.b5.take k)),(k:Int))) r.b5.length (U1 r.b5) (fun _=>false) () ?_ ?_)
 ·intro k hk _;simp only;unfold a9G U1 s7;rw [w8 _ k hk,u0 hk,e8D hk];simp only [cond_true,e8C,K9];cases hb:n9 r.b5[k].i6 0 3
  ·rfl
  ·obtain ⟨h1,h2⟩:=c4w (f:=L2 (r.b5.take k)) hb;rw [h1];simp only [if_pos h2,e8H,cond_false,e8C,e8V];cases hs:L2 (r.b5.take k) r.b5[k].i6
   ·cases n9 r.b5[k].j3 0 1000000
    ·rfl
    ·simp only [e8H,cond_false,e8W,e8V,cond_true];rw [c3u (f:=L2 (r.b5.take k)) (g:=L2 (r.b5.take (k+1))) hb (by rw [c43 hk];simp) (d3t hk),F3 h hk]
   ·cases n9 r.b5[k].j3 0 1000000<;>rfl
 ·intro _;simp only;unfold a9G;rw [A3];rfl
theorem d6U{r:m9}(h:t6 r.b7):o9 (fun s:List Bool×Int=>a9h r s.1 s.2) (e8E 4 false,0)=some (bif (e8M r.b7.length).all (T7 r.b7) then .brk () else .ret false):=by
 refine c4X (S:=List Bool×Int) (a47 (body:=fun s:List Bool×Int=>a9h r s.1 s.2) (fun k=>(a8n (R5 (r.b7.take k)),(k:Int))) r.b7.length (T7 r.b7) (fun _=>false) () ?_ ?_)
 ·intro k hk _;simp only;unfold a9h T7 s7;rw [w8 _ k hk,u0 hk,e8D hk];simp only [cond_true,e8C,K9];cases hb:n9 r.b7[k].i6 0 3
  ·rfl
  ·obtain ⟨h1,h2⟩:=c4w (f:=R5 (r.b7.take k)) hb;rw [h1];simp only [if_pos h2,e8H,cond_false,e8C,e8V];cases hs:R5 (r.b7.take k) r.b7[k].i6
   ·cases n9 r.b7[k].f0 (-1000000) 1000000
    ·rfl
    ·simp only [e8H,cond_false,e8W,e8V,cond_true];rw [c3u (f:=R5 (r.b7.take k)) (g:=R5 (r.b7.take (k+1))) hb (by rw [d0S hk];simp) (d3G hk),F3 h hk]
   ·cases n9 r.b7[k].f0 (-1000000) 1000000<;>rfl
 ·intro _;simp only;unfold a9h;rw [A3];rfl
def R6(r:m9):Bool:=n9 r.Code 0 3&&(n9 r.f0 (-1000000) 1000000&&((r.Code==0||(r.f0==0&&r.b7.length==0))&&((r.Code != 3||r.b5.length==0)&&((e8M r.b5.length).all (U1 r.b5)&&(e8M r.b7.length).all (T7 r.b7)))))
theorem e7l{r:m9}(h:a1m r):b5p r=some ((e8M r.b5.length).all (U1 r.b5)&&(e8M r.b7.length).all (T7 r.b7)):=by
 unfold b5p c1R;rw [e5O (h.1.fits (by decide)),d86 (h.2.1.fits (by decide))];cases (e8M r.b5.length).all (U1 r.b5)<;>cases (e8M r.b7.length).all (T7 r.b7)<;>rfl
theorem d6S{r:m9}(h:a1m r):b7O r=some ((e8M r.b5.length).all (U1 r.b5)&&(e8M r.b7.length).all (T7 r.b7)):=by
 unfold b7O b78;rw [e3v (h.1.fits (by decide)),d6U (h.2.1.fits (by decide))];cases (e8M r.b5.length).all (U1 r.b5)<;>cases (e8M r.b7.length).all (T7 r.b7)<;>rfl
theorem c5y{α:Type}(l:List α):decide ((l.length:Int)>0) = !(l.length==0):=by
 cases l<;>simp
theorem d0W{r:m9}(h:a1m r):a93 r=some (R6 r):=by
 unfold a93 R6;rw [e7l h];simp only [a4U,c5y,e8C,l8.go];generalize ((e8M r.b5.length).all (U1 r.b5)&&(e8M r.b7.length).all (T7 r.b7))=z;generalize (r.b7.length==0)=a;generalize (r.b5.length==0)=b;generalize n9 r.f0 (-1000000) 1000000=c;have h3:n9 r.Code 0 3=(!decide (r.Code<0) && !decide (r.Code>3)):=by
  unfold n9;by_cases h1:r.Code<0<;>by_cases h2:r.Code>3<;>simp [h1,h2]<;>omega
 rw [h3];unfold bne;cases decide (r.Code<0)<;>cases decide (r.Code>3)<;>cases c<;>cases (r.Code==0)<;>cases (r.f0==0)<;>cases a<;>cases (r.Code==3)<;>cases b<;>rfl
theorem b9r{r:m9}(h:a1m r):a9N r=some (R6 r):=by
 unfold a9N R6;rw [d6S h];simp only [K9,c5y,e8C,l8.go];generalize ((e8M r.b5.length).all (U1 r.b5)&&(e8M r.b7.length).all (T7 r.b7))=z;generalize (r.b7.length==0)=a;generalize (r.b5.length==0)=b;generalize n9 r.f0 (-1000000) 1000000=c;generalize n9 r.Code 0 3=d;unfold bne;cases d<;>cases c<;>cases (r.Code==0)<;>cases (r.f0==0)<;>cases a<;>cases (r.Code==3)<;>cases b<;>rfl
def a1H(a b:List p7)(k:Nat):Bool:=match a[k]?,b[k]? with
 | some x,some y=>([x.i6,x.j3]:List Int)==[y.i6,y.j3]
 | _,_=>true
def a1o(a b:List n8)(k:Nat):Bool:=match a[k]?,b[k]? with
 | some x,some y=>([x.i6,x.f0]:List Int)==[y.i6,y.f0]
 | _,_=>true
theorem d5c{a b:m9}(h:t6 a.b5)(hl:a.b5.length=b.b5.length):o9 (fun s:Int=>b0O a b s) 0=some (bif (e8M a.b5.length).all (a1H a.b5 b.b5) then .brk () else .ret false):=by
 refine a5K a.b5 h (a1H a.b5 b.b5) false () ?_ ?_
 ·intro k hk _;unfold b0O a1H;rw [w8 _ k hk,u0 hk,u0 (hl▸hk),e8D hk,e8D (hl▸hk)];simp only [cond_true,e8C];cases ([a.b5[k].i6,a.b5[k].j3]:List Int)==[(b.b5[k]'(hl▸hk)).i6,(b.b5[k]'(hl▸hk)).j3]<;>rfl
 ·unfold b0O;rw [A3];rfl
theorem e7a{a b:m9}(h:t6 a.b7)(hl:a.b7.length=b.b7.length):o9 (fun s:Int=>b1M a b s) 0=some (bif (e8M a.b7.length).all (a1o a.b7 b.b7) then .brk () else .ret false):=by
 refine a5K a.b7 h (a1o a.b7 b.b7) false () ?_ ?_
 ·intro k hk _;unfold b1M a1o;rw [w8 _ k hk,u0 hk,u0 (hl▸hk),e8D hk,e8D (hl▸hk)];simp only [cond_true,e8C];cases ([a.b7[k].i6,a.b7[k].f0]:List Int)==[(b.b7[k]'(hl▸hk)).i6,(b.b7[k]'(hl▸hk)).f0]<;>rfl
 ·unfold b1M;rw [A3];rfl
theorem e6J{a b:List p7}(h:t6 a):b26 a b=some (a.length==b.length&&(e8M a.length).all (a1H a b)):=by
 unfold b26;by_cases hl:a.length=b.length
 ·rw [a5K a h (a1H a b) false ()]
  ·rw [hl];simp only [bne_self_eq_false,cond_false,beq_self_eq_true,e8V];cases (e8M b.length).all (a1H a b)<;>rfl
  ·intro k hk _;unfold b7s a1H;rw [w8 _ k hk,u0 hk,u0 (hl▸hk),e8D hk,e8D (hl▸hk)];simp only [cond_true,e8C];cases ([a[k].i6,a[k].j3]:List Int)==[(b[k]'(hl▸hk)).i6,(b[k]'(hl▸hk)).j3]<;>rfl
  ·unfold b7s;rw [A3];rfl
 ·have h1:((a.length:Int) != (b.length:Int))=true:=by simp;omega
  have h2:(a.length==b.length)=false:=by simpa using hl
  rw [h1,h2];rfl
theorem e1O{a b:List n8}(h:t6 a):b7R a b=some (a.length==b.length&&(e8M a.length).all (a1o a b)):=by
 unfold b7R;by_cases hl:a.length=b.length
 ·rw [a5K a h (a1o a b) false ()]
  ·rw [hl];simp only [bne_self_eq_false,cond_false,beq_self_eq_true,e8V];cases (e8M b.length).all (a1o a b)<;>rfl
  ·intro k hk _;unfold b74 a1o;rw [w8 _ k hk,u0 hk,u0 (hl▸hk),e8D hk,e8D (hl▸hk)];simp only [cond_true,e8C];cases ([a[k].i6,a[k].f0]:List Int)==[(b[k]'(hl▸hk)).i6,(b[k]'(hl▸hk)).f0]<;>rfl
  ·unfold b74;rw [A3];rfl
 ·have h1:((a.length:Int) != (b.length:Int))=true:=by simp;omega
  have h2:(a.length==b.length)=false:=by simpa using hl
  rw [h1,h2];rfl
def a3g(a b:m9):Bool:=(a.b5.length==b.b5.length&&(e8M a.b5.length).all (a1H a.b5 b.b5))&&((a.b7.length==b.b7.length&&(e8M a.b7.length).all (a1o a.b7 b.b7))&&(a.f0==b.f0&&a.Code==b.Code))
theorem c7J{α β:Type}(a:List α)(b:List β):((a.length:Int) != (b.length:Int)) = !(a.length==b.length):=by
 unfold bne;congr 1
 by_cases h:a.length=b.length
 ·simp [h]
 ·have h1:((a.length:Int)==(b.length:Int))=false:=by simp;omega
  have h2:(a.length==b.length)=false:=by simpa using h
  rw [h1,h2]
theorem c2S{a b:m9}(h:a1m a):a8M a b=some (a3g a b):=by
 unfold a8M a3g;rw [c7J,c7J];cases h1:a.b5.length==b.b5.length
 ·unfold bne;cases a.f0==b.f0<;>cases a.Code==b.Code<;>rfl
 cases h2:a.b7.length==b.b7.length
 ·unfold bne;cases a.f0==b.f0<;>cases a.Code==b.Code<;>simp
 unfold b95;rw [d5c (h.1.fits (by decide)) (by simpa using h1),e7a (h.2.1.fits (by decide)) (by simpa using h2)];unfold bne;cases (e8M a.b5.length).all (a1H a.b5 b.b5)<;>cases (e8M a.b7.length).all (a1o a.b7 b.b7)<;>cases a.f0==b.f0<;>cases a.Code==b.Code<;>rfl
theorem c0A{a b:m9}(h:a1m a):b5C a b=some (a3g a b):=by
 unfold b5C a3g;rw [e6J (h.1.fits (by decide)),e1O (h.2.1.fits (by decide))];simp only [e8C];generalize (a.b5.length==b.b5.length&&(e8M a.b5.length).all (a1H a.b5 b.b5))=x;generalize (a.b7.length==b.b7.length&&(e8M a.b7.length).all (a1o a.b7 b.b7))=y;cases x<;>cases y<;>cases a.f0==b.f0<;>rfl
def x9(e:m4):Bool:=bif e.i8 then (([e.a0.d6,e.a0.Seq]:List Int)==[0,0])&&a3g e.b8 (m9.mk [] [] 0 0) else (n9 e.a0.d6 0 2&&n9 e.a0.Seq 1 1000)&&(R6 e.b8&&e.b8.Code != 3)
theorem a2A{e:m4}(h:a1F e):a0B e=some (x9 e):=by
 unfold a0B x9;simp only [c2S h.2,b79,d0W h.2,e8C];cases e.i8
 ·simp only [cond_false];cases n9 e.a0.d6 0 2&&n9 e.a0.Seq 1 1000<;>cases R6 e.b8<;>rfl
 ·simp only [cond_true];cases ([e.a0.d6,e.a0.Seq]:List Int)==[0,0]<;>rfl
theorem a4x{e:m4}(h:a1F e):a1j e=some (x9 e):=by
 unfold a1j Z1 x9;simp only [c0A h.2,b5F,b9r h.2,e8C];cases e.i8
 ·simp only [cond_false];cases n9 e.a0.d6 0 2&&n9 e.a0.Seq 1 1000<;>cases R6 e.b8<;>rfl
 ·simp only [cond_true,beq_self_eq_true];cases ([e.a0.d6,e.a0.Seq]:List Int)==[0,0]<;>rfl
def I3(l:List m4):Bool:=decide (l.length<=40)&&l.all x9
theorem c2t{α:Type}(l:List α)(n:Nat):decide ((l.length:Int)<=(n:Int))=decide (l.length<=n):=by
 by_cases h:l.length<=n
 ·have:(l.length:Int)<=(n:Int):=by omega
  simp [h,this]
 ·have:¬(l.length:Int)<=(n:Int):=by omega
  simp [h,this]
theorem a9w{α:Type}(l:List α)(n:Nat):decide ((l.length:Int)>(n:Int)) = !decide (l.length<=n):=by
 by_cases h:l.length<=n
 ·have:¬(l.length:Int)>(n:Int):=by omega
  simp [h,this]
 ·have:(l.length:Int)>(n:Int):=by omega
  simp [h,this]
theorem e4A{l:List m4}(h:z7 88 a1F l):b69 l=some (I3 l):=by
 unfold b69 I3;rw [show (40:Int)=((40:Nat):Int) from rfl,a9w,O3 l (h.fits (by decide)) x9 false ()]
 ·cases decide (l.length<=40)
  ·rfl
  ·cases l.all x9<;>rfl
 ·intro k hk;unfold b42;rw [w8 _ k hk,u0 hk];simp only [cond_true,e8C,a2A (h.2 _ (e8F hk))];cases x9 l[k]<;>rfl
 ·unfold b42;rw [A3];rfl
theorem c5W{l:List m4}(h:z7 88 a1F l):b0x l=some (I3 l):=by
 unfold b0x I3 c2U;rw [show (40:Int)=((40:Nat):Int) from rfl,c2t,O3 l (h.fits (by decide)) x9 false ()]
 ·cases l.all x9<;>cases decide (l.length<=40)<;>rfl
 ·intro k hk;unfold b6K;rw [w8 _ k hk,u0 hk];simp only [cond_true,e8C,a4x (h.2 _ (e8F hk))];cases x9 l[k]<;>rfl
 ·unfold b6K;rw [A3];rfl
def a2z(b:q8):Bool:=n9 b.j3 0 1000000&&n9 b.f0 (-1000000) 1000000
def F4(l:List q8):Bool:=l.length==4&&l.all a2z
theorem c3o{α:Type}(l:List α)(n:Nat):((l.length:Int) != (n:Int)) = !(l.length==n):=by
 unfold bne;congr 1
 by_cases h:l.length=n
 ·simp [h]
 ·have h1:((l.length:Int)==(n:Int))=false:=by simp;omega
  have h2:(l.length==n)=false:=by simpa using h
  rw [h1,h2]
theorem e6B{α:Type}(l:List α)(n:Nat):((l.length:Int)==(n:Int))=(l.length==n):=by
 have:=c3o l n;unfold bne at this;simpa using this
theorem b9W{l:List q8}(h:t6 l):a9S l=some (F4 l):=by
 unfold a9S F4;rw [show (4:Int)=((4:Nat):Int) from rfl,c3o,O3 l h a2z false ()]
 ·cases l.length==4
  ·rfl
  ·cases l.all a2z<;>rfl
 ·intro k hk;unfold b56 a2z;rw [w8 _ k hk,u0 hk];simp only [cond_true,e8C,a4U];cases hq:n9 l[k].j3 0 1000000 with
  | false =>
   by_cases h1:l[k].j3<0
   ·simp [h1]
   ·have:l[k].j3>1000000:=by
     unfold n9 at hq;simp at hq;omega
    simp [h1,this]
  | true =>
   unfold n9 at hq;simp at hq;have h1:¬l[k].j3<0:=by omega
   have h2:¬l[k].j3>1000000:=by omega
   simp only [h1,h2,decide_false,cond_false,e8V];cases n9 l[k].f0 (-1000000) 1000000<;>rfl
 ·unfold b56;rw [A3];rfl
theorem b3u{l:List q8}(h:t6 l):a6i l=some (F4 l):=by
 unfold a6i F4 b8x;rw [show (4:Int)=((4:Nat):Int) from rfl,e6B,O3 l h a2z false ()]
 ·cases l.length==4<;>cases l.all a2z<;>rfl
 ·intro k hk;unfold b6Z a2z;rw [w8 _ k hk,u0 hk];simp only [cond_true,e8C,K9];cases n9 l[k].j3 0 1000000<;>cases n9 l[k].f0 (-1000000) 1000000<;>rfl
 ·unfold b6Z;rw [A3];rfl
theorem d0I{l:List p7}(h:(e8M l.length).all (U1 l)=true):∀x∈l,0<=x.i6/\x.i6<=3/\0<=x.j3/\x.j3<=1000000:=by
 intro x hx;obtain ⟨i,hi,rfl⟩:=e9s hx;have:=List.all_eq_true.1 h i (by simpa using hi);unfold U1 at this;rw [e8D hi] at this;simp [n9] at this;omega
theorem d1x{l:List n8}(h:(e8M l.length).all (T7 l)=true):∀x∈l,0<=x.i6/\x.i6<=3/\-1000000<=x.f0/\x.f0<=1000000:=by
 intro x hx;obtain ⟨i,hi,rfl⟩:=e9s hx;have:=List.all_eq_true.1 h i (by simpa using hi);unfold T7 at this;rw [e8D hi] at this;simp [n9] at this;omega
theorem a7O{r:m9}(h:R6 r=true):(0<=r.Code/\r.Code<=3)/\(-1000000<=r.f0/\r.f0<=1000000)/\(r.Code=0\/(r.f0=0/\r.b7=[]))/\(∀x∈r.b5,0<=x.i6/\x.i6<=3/\0<=x.j3/\x.j3<=1000000)/\∀x∈r.b7,0<=x.i6/\x.i6<=3/\-1000000<=x.f0/\x.f0<=1000000:=by
 unfold R6 at h;simp only [e8G,Bool.or_eq_true] at h;obtain ⟨h1,h2,h3,_,h4,h5⟩:=h;refine ⟨by simpa [n9] using h1,by simpa [n9] using h2,by simpa using h3,d0I h4,d1x h5⟩
def a3t(l:List q8)(r:m9):Bool:=r.b5.all fun x=>match l[x.i6.toNat]? with
 | some b=>b.j3==x.j3
 | none=>true
theorem b4K{l:List q8}(h:F4 l=true):l.length=4:=by
 unfold F4 at h;simp only [e8G,beq_iff_eq] at h;exact h.1
theorem a4J{l:List q8}(h:F4 l=true):t6 l:=by
 unfold t6;rw [b4K h];decide
theorem a5C{l:List q8}(h:F4 l=true){b:Int}(hb:0<=b/\b<=3):∃x,idx l b=some x/\l[b.toNat]?=some x/\a2z x=true:=by
 have hl:=b4K h;have hlt:b.toNat<l.length:=by omega
 refine ⟨l[b.toNat],?_,e8D hlt,?_⟩
 ·unfold idx;rw [if_pos hb.1,e8D hlt]
 ·unfold F4 at h;simp only [e8G] at h;exact List.all_eq_true.1 h.2 _ (e8F hlt)
theorem d4z{l:List q8}{r:m9}(hl:t6 l)(hr:a1m r):b70 l r=some (F4 l&&(R6 r&&a3t l r)):=by
 unfold b70;rw [b9W hl,d0W hr];simp only [e8C];cases h1:F4 l
 ·rfl
 cases h2:R6 r
 ·rfl
 have hp:=a7O h2;simp only [e8H,cond_false,e8V];rw [O3 r.b5 (hr.1.fits (by decide)) (fun x=>match l[x.i6.toNat]? with|some b=>b.j3==x.j3|none=>true) false ()]
 ·unfold a3t;cases r.b5.all _<;>rfl
 ·intro k hk;have hm:=hp.2.2.2.1 _ (e8F hk);obtain ⟨b,hb1,hb2,_⟩:=a5C h1 (b:=r.b5[k].i6) ⟨hm.1,hm.2.1⟩;unfold b25;rw [w8 _ k hk,u0 hk];simp only [cond_true,e8C,hb1,hb2];unfold bne;cases b.j3==r.b5[k].j3<;>rfl
 ·unfold b25;rw [A3];rfl
theorem d8A{l:List q8}{r:m9}(hl:t6 l)(hr:a1m r):b4l l r=some (F4 l&&(R6 r&&a3t l r)):=by
 unfold b4l;rw [b3u hl,b9r hr];simp only [e8C];cases h1:F4 l
 ·rfl
 cases h2:R6 r
 ·rfl
 have hp:=a7O h2;simp only [e8H,cond_false,e8V];rw [O3 r.b5 (hr.1.fits (by decide)) (fun x=>match l[x.i6.toNat]? with|some b=>b.j3==x.j3|none=>true) false ()]
 ·unfold a3t;cases r.b5.all _<;>rfl
 ·intro k hk;have hm:=hp.2.2.2.1 _ (e8F hk);obtain ⟨b,hb1,hb2,_⟩:=a5C h1 (b:=r.b5[k].i6) ⟨hm.1,hm.2.1⟩;unfold b59;rw [w8 _ k hk,u0 hk];simp only [cond_true,e8C,hb1,hb2];unfold bne;cases b.j3==r.b5[k].j3<;>rfl
 ·unfold b59;rw [A3];rfl
def a4W(l:List q8)(p:n8):List q8:=match l[p.i6.toNat]? with
 | some b=>l.set p.i6.toNat ⟨if b.j3+1<1000000 then b.j3+1 else 1000000,p.f0⟩
 | none=>l
def b7a(l:List q8)(ps:List n8):List q8:=ps.foldl a4W l
def a2b(x:n8):Prop:=0<=x.i6/\x.i6<=3/\-1000000<=x.f0/\x.f0<=1000000
theorem c6B{l:List q8}{p:n8}{b:q8}(h:l[p.i6.toNat]?=some b):a4W l p=l.set p.i6.toNat ⟨if b.j3+1<1000000 then b.j3+1 else 1000000,p.f0⟩:=by
 unfold a4W;rw [h]
theorem b5R{b:q8}:a2z b=true↔(0<=b.j3/\b.j3<=1000000)/\(-1000000<=b.f0/\b.f0<=1000000):=by
 unfold a2z n9;simp
theorem d3f{l:List q8}:F4 l=true↔l.length=4/\∀b∈l,a2z b=true:=by
 unfold F4;simp
theorem e3l{l:List q8}{p:n8}(h:F4 l=true)(hp:a2b p):F4 (a4W l p)=true:=by
 obtain ⟨b,_,h2,h3⟩:=a5C h (b:=p.i6) ⟨hp.1,hp.2.1⟩;rw [d3f] at h ⊢;unfold a4W;rw [h2];refine ⟨by simpa using h.1,fun x hx => ?_⟩;rcases List.mem_or_eq_of_mem_set hx with hx|rfl
 ·exact h.2 x hx
 ·rw [b5R] at h3 ⊢;refine ⟨?_,hp.2.2⟩;simp only;split<;>omega
theorem c1b:∀{ps:List n8} {l:List q8},F4 l=true->(∀p∈ps,a2b p)->F4 (b7a l ps)=true
 | [],l,h,_=>h
 | p::ps,l,h,hp=>c1b (ps:=ps) (e3l h (hp p (by simp))) fun x hx=>hp x (by simp [hx])
theorem c6s{l:List q8}{ps:List n8}(h:F4 l=true)(hp:∀p∈ps,a2b p)(k:Nat):F4 ((ps.take k).foldl a4W l)=true :=
 c1b h fun p hq=>hp p (e9j hq)
theorem e6C{l:List q8}{r:m9}(hl:F4 l=true)(hr:a1m r)(hp:∀p∈r.b7,a2b p):b35 l r=some (b7a l r.b7):=by
 unfold b35;rw [c65 r.b7 (hr.2.1.fits (by decide)) a4W l id]
 ·rfl
 ·intro k hk;have hq:=hp _ (e8F hk);obtain ⟨b,h1,h2,h3⟩:=a5C (c6s hl hp k) (b:=r.b7[k].i6) ⟨hq.1,hq.2.1⟩;rw [b5R] at h3;unfold b7B;rw [w8 _ k hk,u0 hk];simp only [cond_true,e8C,h1];unfold c1s;rw [c6B h2,B6 (n:=b.j3+1) (by omega) (by omega)];by_cases hv:b.j3+1<1000000
  ·have:¬(1000000:Int)<b.j3+1:=by omega
   simp [hv,this]
  ·by_cases hv2:(1000000:Int)<b.j3+1
   ·simp [hv,hv2]
   ·have:b.j3+1=1000000:=by omega
    simp [hv,hv2,this]
 ·unfold b7B;rw [A3];rfl
theorem d1J{l:List q8}(h:l.length*16<=140737488351232):a9P l=some l:=by
 unfold a9P s7;cases l with
 | nil=>rfl
 | cons x l =>
  have h1:(((x::l).length:Int)==0)=false:=by simp;omega
  rw [h1,cond_false,if_pos (by constructor<;>omega),if_pos (by simp)]
theorem c4j{l:List q9}(h:l.length*32<=140737488351232):a4B l=some l:=by
 unfold a4B s7;cases l with
 | nil=>rfl
 | cons x l =>
  have h1:(((x::l).length:Int)==0)=false:=by simp;omega
  rw [h1,cond_false,if_pos (by constructor<;>omega),if_pos (by simp)]
theorem d4u{l:List q8}{r:m9}(hl:F4 l=true)(hr:a1m r)(hok:R6 r=true):b46 l r=some (b7a l r.b7):=by
 have hp:∀p∈r.b7,a2b p:=(a7O hok).2.2.2.2
 unfold b46;rw [b3u (a4J hl),b9r hr,hl,hok];simp only [e8C,e8H,cond_false];rw [d1J (by rw [b4K hl];decide),e8C,c65 r.b7 (hr.2.1.fits (by decide)) a4W l id]
 ·rfl
 ·intro k hk;have hq:=hp _ (e8F hk);obtain ⟨b,h1,h2,h3⟩:=a5C (c6s hl hp k) (b:=r.b7[k].i6) ⟨hq.1,hq.2.1⟩;rw [b5R] at h3;unfold b4C;rw [w8 _ k hk,u0 hk];simp only [cond_true,e8C,h1];rw [c6B h2,B6 (n:=b.j3+1) (by omega) (by omega)]
 ·unfold b4C;rw [A3];rfl
def a6V(d:q9):Bool:=(n9 d.a0.d6 0 2&&n9 d.a0.Seq 1 1000)&&(n9 d.Code 0 2&&(n9 d.f0 (-1000000) 1000000&&(d.Code==0||d.f0==0)))
def a22(l:List q9):Prop:=l.Pairwise fun a b=>a.a0.d6<b.a0.d6
def K2(d:q9)(st:List q9×Bool)(x:q9):List q9×Bool :=
 bif !st.2&&decide (x.a0.d6>=d.a0.d6) then (bif x.a0.d6 != d.a0.d6 then (st.1++[d])++[x] else st.1++[d],true) else (bif x.a0.d6 != d.a0.d6 then st.1++[x] else st.1,st.2)
def a0f(l:List q9)(d:q9):List q9 :=
 let r:=l.foldl (K2 d) ([],false);bif !r.2 then r.1++[d] else r.1
theorem d3W(d:q9)(st:List q9×Bool)(x:q9):(K2 d st x).1.length<=st.1.length+2:=by
 unfold K2;cases !st.2&&decide (x.a0.d6>=d.a0.d6)<;>cases x.a0.d6 != d.a0.d6<;>simp
theorem c1H(d:q9):∀(l:List q9) (st:List q9×Bool),(l.foldl (K2 d) st).1.length<=st.1.length+2*l.length
 | [],st=>by simp
 | x::l,st=>by
  have h1:=c1H d l (K2 d st x);have h2:=d3W d st x;simp only [e91,e9l];omega
theorem c1k(d:q9):∀{l:List q9} {o:List q9},(∀x∈l,d.a0.d6<x.a0.d6)->l.foldl (K2 d) (o,true)=(o++l,true)
 | [],o,_=>by simp
 | x::l,o,h=>by
  have hx:=h x (by simp);have hne:(x.a0.d6 != d.a0.d6)=true:=by simp;omega
  rw [e91,show K2 d (o,true) x=(o++[x],true) from by unfold K2;simp [hne],c1k d fun y hy=>h y (by simp [hy])];simp
theorem d2i(d:q9):∀{l o:List q9},a22 l->
  (let r:=l.foldl (K2 d) (o,false);bif !r.2 then r.1++[d] else r.1)=o++(l.filter (fun x=>decide (x.a0.d6<d.a0.d6))++d::l.filter (fun x=>decide (d.a0.d6<x.a0.d6)))
 | [],o,_=>by simp
 | x::l,o,h=>by
  obtain ⟨h1,h2⟩:=e9G.1 h;rw [e91];by_cases hlt:x.a0.d6<d.a0.d6
  ·have hge:¬x.a0.d6>=d.a0.d6:=by omega
   have hne:(x.a0.d6 != d.a0.d6)=true:=by simp;omega
   have hngt:¬d.a0.d6<x.a0.d6:=by omega
   rw [show K2 d (o,false) x=(o++[x],false) from by unfold K2;simp [hge,hne],d2i d h2];simp [hlt,hngt]
  ·have hge:x.a0.d6>=d.a0.d6:=by omega
   have hall:∀y∈l,d.a0.d6<y.a0.d6:=fun y hy=>by have:=h1 y hy;omega
   have hf1:l.filter (fun x=>decide (x.a0.d6<d.a0.d6))=[]:=by
    rw [List.filter_eq_nil_iff];intro y hy;have:=hall y hy;simp;omega
   have hf2:l.filter (fun x=>decide (d.a0.d6<x.a0.d6))=l:=by
    rw [List.filter_eq_self];intro y hy;simpa using hall y hy
   by_cases heq:x.a0.d6=d.a0.d6
   ·have hngt:¬d.a0.d6<x.a0.d6:=by omega
    rw [show K2 d (o,false) x=(o++[d],true) from by unfold K2;simp [hge,heq],c1k d hall];simp [hlt,hngt,hf1,hf2]
   ·have hgt:d.a0.d6<x.a0.d6:=by omega
    have hne:(x.a0.d6 != d.a0.d6)=true:=by simpa using heq
    rw [show K2 d (o,false) x=((o++[d])++[x],true) from by unfold K2;simp [hge,hne],c1k d hall];simp [hlt,hgt,hf1,hf2]
theorem b94{l:List q9}(d:q9)(h:a22 l):a0f l d=l.filter (fun x=>decide (x.a0.d6<d.a0.d6))++d::l.filter (fun x=>decide (d.a0.d6<x.a0.d6)):=by
 have:=d2i d (o:=[]) h;simpa [a0f] using this
theorem e1E{l:List q9}(d:q9)(h:a22 l):a22 (a0f l d):=by
 rw [b94 d h];unfold a22;rw [e9R,e9G];refine ⟨h.filter _,⟨fun y hy=>by simpa using (List.mem_filter.1 hy).2,h.filter _⟩,fun a ha b hb => ?_⟩;have h1:a.a0.d6<d.a0.d6:=by simpa using (List.mem_filter.1 ha).2
 rcases e8K.1 hb with rfl|hb
 ·exact h1
 ·have h2:d.a0.d6<b.a0.d6:=by simpa using (List.mem_filter.1 hb).2
  omega
theorem e2z{l:List q9}{d x:q9}(h:a22 l)(hx:x∈a0f l d):x∈l\/x=d:=by
 rw [b94 d h] at hx;rcases List.mem_append.1 hx with hx|hx
 ·exact .inl (List.mem_filter.1 hx).1
 ·rcases e8K.1 hx with rfl|hx
  ·exact .inr rfl
  ·exact .inl (List.mem_filter.1 hx).1
theorem c97{l:List q9}(d:q9)(h:a22 l):(a0f l d).length<=l.length+1:=by
 rw [b94 d h];have:(l.filter fun x=>decide (x.a0.d6<d.a0.d6)).length+(l.filter fun x=>decide (d.a0.d6<x.a0.d6)).length<=l.length:=by
  clear h;induction l with
  | nil=>simp
  | cons x l ih =>
   by_cases h1:x.a0.d6<d.a0.d6
   ·have h2:¬d.a0.d6<x.a0.d6:=by omega
    simp [h1,h2];omega
   ·by_cases h2:d.a0.d6<x.a0.d6
    ·simp [h1,h2];omega
    ·simp [h1,h2];omega
 simp only [e8O,e9l];omega
structure Inv(s:u6)(k:Nat):Prop where
 at_:s.At=(k:Int)
 le:k<=40
 boxes:F4 s.g8=true
 sorted:a22 s.i9
 dones:∀d∈s.i9,a6V d=true
 len:s.i9.length<=k
theorem Inv.fits{s:u6}{k:Nat}(h:Inv s k):t6 s.i9:=by
 have:=h.len;have:=h.le;unfold t6;omega
theorem c32{α:Type}{o:List α}{d:α}(h:o.length<=80):((o++[d]).length+1)*32<=140737488355328:=by
 rw [show (o++[d]).length=o.length+1 from by simp];omega
theorem d3Z{l:List q9}{d:q9}(hl:l.length<=40):b3P l d=some (a0f l d):=by
 have hf:t6 l:=by unfold t6;omega
 have hlen:∀k,k<=l.length->((l.take k).foldl (K2 d) ([],false)).1.length<=80:=by
  intro k hk;have:=c1H d (l.take k) ([],false);simp only [e92,e83] at this;omega
 unfold b3P;have hloop:=X3 (body:=fun s:(List q9)×Bool×Int=>b1L l d s.1 s.2.1 s.2.2) (fun k=>(((l.take k).foldl (K2 d) ([],false)).1,((l.take k).foldl (K2 d) ([],false)).2,(k:Int))) l.length (by
  intro k hk;have hb:=hlen k (by omega);rw [e87 hk,List.foldl_append];generalize (l.take k).foldl (K2 d) ([],false)=st at hb;obtain ⟨o,i⟩:=st;simp only at hb;simp only [e91,f0g];unfold b1L c0y b8U K2;rw [w8 _ k hk,u0 hk,F3 hf hk];have n1:(o.length+1)*32<=140737488355328:=by omega
  have n2:((o++[d]).length+1)*32<=140737488355328:=c32 (by omega);cases i<;>cases h1:decide (l[k].a0.d6>=d.a0.d6)<;>cases h2:l[k].a0.d6 != d.a0.d6<;>simp only [h1,h2,t5 n1,t5 n2,cond_true,cond_false,e8C,l8.go,e8H,e8W,e8V,Bool.false_and])
 simp only [e9e,f0g,e85] at hloop;rw [show ((0:Nat):Int)=0 from rfl] at hloop;rw [hloop,C2 (b:=l.foldl (K2 d) ([],false))]
 ·have hb:=hlen l.length (e9h _);rw [e85] at hb;unfold b8K b8L a0f;generalize l.foldl (K2 d) ([],false)=st at hb;obtain ⟨o,i⟩:=st;have n1:(o.length+1)*32<=140737488355328:=by simp only at hb;omega
  cases i<;>simp only [t5 n1,cond_true,cond_false,e8C,l8.go,e8H,e8W]
 ·unfold b1L;rw [A3];rfl
def a00(s:u6)(e:m4):u6×Int :=
 bif a3t s.g8 e.b8 then
  (bif e.b8.Code==0 then (⟨s.At+1,b7a s.g8 e.b8.b7,a0f s.i9 ⟨e.a0,0,e.b8.f0⟩⟩,0)
  else (⟨s.At+1,s.g8,a0f s.i9 ⟨e.a0,2,0⟩⟩,2))
 else (⟨s.At+1,s.g8,a0f s.i9 ⟨e.a0,1,0⟩⟩,1)
def apply(s:u6)(e:m4):u6×Int :=
 bif e.i8 then (⟨s.At+1,s.g8,s.i9⟩,5) else
 match s.i9.find? (fun d=>d.a0.d6==e.a0.d6) with
 | some d=>bif d.a0.Seq==e.a0.Seq then (⟨s.At+1,s.g8,s.i9⟩,3) else bif decide (d.a0.Seq>e.a0.Seq) then (⟨s.At+1,s.g8,s.i9⟩,4) else a00 s e
 | none=>a00 s e
theorem a9k{e:m4}(h:x9 e=true)(hn:e.i8=false):(0<=e.a0.d6/\e.a0.d6<=2)/\(1<=e.a0.Seq/\e.a0.Seq<=1000)/\R6 e.b8=true/\e.b8.Code≠3:=by
 unfold x9 at h;rw [hn] at h;simp [n9] at h;exact ⟨h.1.1,h.1.2,h.2.1,h.2.2⟩
theorem d7A{s:u6}(h:t6 s.i9)(who:Int):b4c s who=some (match s.i9.find? (fun d=>d.a0.d6==who) with|some d=>(d,true)|none=>(⟨⟨0,0⟩,0,0⟩,false)):=by
 unfold b4c;rw [b6w s.i9 h (fun d=>d.a0.d6==who) (fun d=>(d,true)) ()]
 ·cases s.i9.find? fun d=>d.a0.d6==who<;>rfl
 ·intro k hk;unfold b6V;rw [w8 _ k hk,u0 hk];simp only [cond_true,e8C];cases s.i9[k].a0.d6==who<;>rfl
 ·unfold b6V;rw [A3];rfl
theorem d1s{s:u6}{k:Nat}{e:m4}(hs:Inv s k)(hk:k<40)(he:x9 e=true)(hf:a1F e):b04 s e=some (apply s e):=by
 have hw:m7 (s.At+1)=s.At+1:=by rw [hs.at_];exact B6 (by omega) (by omega)
 unfold b04 apply;rw [hw,d7A (s:=⟨s.At+1,s.g8,s.i9⟩) hs.fits];cases hn:e.i8;case true=>rfl
 obtain ⟨_,_,hr,hc3⟩:=a9k he hn;have hp:∀p∈e.b8.b7,a2b p:=(a7O hr).2.2.2.2
 have hfr:b6o s e=some (a00 s e):=by
  unfold b6o b9C b91 a00;simp only [d4z (a4J hs.boxes) hf.2,hs.boxes,hr,e8V,e8C,hw,d3Z (Nat.le_trans hs.len (by omega)),e6C hs.boxes hf.2 hp];cases a3t s.g8 e.b8
  ·rfl
  ·cases e.b8.Code==0<;>rfl
 simp only [cond_false,e8C,hfr];cases hfd:s.i9.find? fun d=>d.a0.d6==e.a0.d6 with
 | none=>rfl
 | some d =>
  have hwho:d.a0.d6=e.a0.d6:=by simpa using List.find?_some hfd
  have hq:(([d.a0.d6,d.a0.Seq]:List Int)==[e.a0.d6,e.a0.Seq])=(d.a0.Seq==e.a0.Seq):=by
   rw [hwho];simp
  simp only [hq,cond_true];cases d.a0.Seq==e.a0.Seq
  ·cases decide (d.a0.Seq>e.a0.Seq)<;>rfl
  ·rfl
theorem d97{l:List q9}(h:a22 l)(who seq:Int):l.find? (fun d=>d.a0.d6==who&&decide (d.a0.Seq>=seq))=match l.find? (fun d=>d.a0.d6==who) with
  | some d=>bif decide (d.a0.Seq>=seq) then some d else none
  | none=>none:=by
 induction l with
 | nil=>rfl
 | cons x l ih =>
  obtain ⟨h1,h2⟩:=e9G.1 h;rw [List.find?_cons,List.find?_cons];cases hx:x.a0.d6==who with
  | false=>simpa using ih h2
  | true =>
   cases hs:decide (x.a0.Seq>=seq) with
   | true=>simp [hs]
   | false =>
    simp only [Bool.and_false,hs,cond_false];rw [List.find?_eq_none];intro y hy;have:=h1 y hy;have hx':x.a0.d6=who:=by simpa using hx
    simp;intro hyw;omega
theorem d4n{s:u6}{k:Nat}(hs:Inv s k):b3l s=some true:=by
 unfold b3l;have hloop:=X3 (body:=fun v:Int=>b2i s v) (fun j=>(j:Int)) s.i9.length (by
  intro j hj;have hd:=hs.dones _ (e8F hj);unfold a6V at hd;simp only [e8G,Bool.or_eq_true] at hd;obtain ⟨⟨d1,d2⟩,d3,d4,d5⟩:=hd;unfold b2i b8g;rw [w8 _ j hj,u0 hj,F3 hs.fits hj];simp only [cond_true,e8C,b5F,K9,d1,d2,d3,d4,e9B,e8H,cond_false];cases j with
  | zero =>
   rw [show decide (((0:Nat):Int)>0)=false from by decide];simp only [cond_false];unfold bne;rcases d5 with d5|d5<;>simp [d5,l8.go,Option.bind]
  | succ j =>
   have hlt:(s.i9[j]'(by omega)).a0.d6<s.i9[j+1].a0.d6:=e9d.1 hs.sorted j (j+1) (by omega) hj (by omega);have hge:¬(s.i9[j]'(by omega)).a0.d6>=s.i9[j+1].a0.d6:=by omega
   have hle:=hs.fits;unfold t6 at hle;rw [show m7 (((j+1:Nat):Int)-1)=(j:Int) from by rw [B6 (by omega) (by omega)];omega,u0 (show j<s.i9.length by omega)];have hpos:decide (((j+1:Nat):Int)>0)=true:=by simp
   simp only [hpos,cond_true,e8C,hge,decide_false,cond_false];unfold bne;rcases d5 with d5|d5<;>simp [d5,l8.go,Option.bind])
 rw [show ((0:Nat):Int)=0 from rfl] at hloop;rw [hloop,C2 (b:=())]
 ·unfold c2j;have:=hs.le;have ha:n9 s.At 0 40=true:=by rw [hs.at_];simp [n9];omega
  simp [l8.go,K9,ha,b3u (a4J hs.boxes),hs.boxes]
 ·unfold b2i;rw [A3];rfl
theorem c0G{s:u6}{own:q9}{bx:List q8}(hl:s.i9.length<=40)(hw:m7 (s.At+1)=s.At+1)(hd:a22 s.i9):b5V s own bx=some (⟨s.At+1,bx,a0f s.i9 own⟩,own.Code):=by
 have hf:t6 s.i9:=by unfold t6;omega
 have hlen:∀k,k<=s.i9.length->((s.i9.take k).foldl (K2 own) ([],false)).1.length<=80:=by
  intro k hk;have:=c1H own (s.i9.take k) ([],false);simp only [e92,e83] at this;omega
 unfold b5V;have hloop:=X3 (body:=fun x:(List q9)×Int×Bool=>b0z s own x.1 x.2.1 x.2.2) (fun k=>(((s.i9.take k).foldl (K2 own) ([],false)).1,(k:Int),((s.i9.take k).foldl (K2 own) ([],false)).2)) s.i9.length (by
  intro k hk;have hb:=hlen k (by omega);rw [e87 hk,List.foldl_append];generalize (s.i9.take k).foldl (K2 own) ([],false)=st at hb;obtain ⟨o,i⟩:=st;simp only at hb;simp only [e91,f0g];unfold b0z b8H b8M K2;rw [w8 _ k hk,u0 hk,F3 hf hk];have n1:(o.length+1)*32<=140737488355328:=by omega
  have n2:((o++[own]).length+1)*32<=140737488355328:=c32 (by omega);cases i<;>cases h1:decide (s.i9[k].a0.d6>=own.a0.d6)<;>cases h2:s.i9[k].a0.d6 != own.a0.d6<;>simp only [h1,h2,t5 n1,t5 n2,cond_true,cond_false,e8C,l8.go,e8H,e8W,e8V,Bool.false_and])
 simp only [e9e,f0g,e85] at hloop;rw [show ((0:Nat):Int)=0 from rfl] at hloop;rw [hloop,C2 (b:=s.i9.foldl (K2 own) ([],false))]
 ·have hb:=hlen s.i9.length (e9h _);rw [e85] at hb;have hpl:=c97 own hd;have hcp:a4B (a0f s.i9 own)=some (a0f s.i9 own):=c4j (by omega);unfold c1f c1L;unfold a0f at hcp ⊢;generalize s.i9.foldl (K2 own) ([],false)=st at hb hcp;obtain ⟨o,i⟩:=st;have n1:(o.length+1)*32<=140737488355328:=by simp only at hb;omega
  cases i<;>simp only [t5 n1,cond_true,cond_false,e8C,l8.go,e8H,e8W,hw] at hcp ⊢ <;>rw [hcp]<;>rfl
 ·unfold b0z;rw [A3];rfl
theorem c1X{s:u6}{k:Nat}{e:m4}(hs:Inv s k)(hk:k<40)(he:x9 e=true)(hf:a1F e):b68 s e=some (apply s e):=by
 have hw:m7 (s.At+1)=s.At+1:=by rw [hs.at_];exact B6 (by omega) (by omega)
 have hl:=hs.len;have hcd:a4B s.i9=some s.i9:=c4j (by omega);have hcb:a9P s.g8=some s.g8:=d1J (by rw [b4K hs.boxes];decide);have hat:(s.At==40)=false:=by rw [hs.at_];simp;omega
 unfold b68 apply;rw [d4n hs,a4x hf,he];simp only [e8C,e8H,cond_false,hat,hcb,hcd,hw];cases hn:e.i8;case true=>rfl
 obtain ⟨_,_,hr,hc3⟩:=a9k he hn;have hfr:b4D s e s.g8=some (a00 s e):=by
  unfold b4D a00;simp only [d8A (a4J hs.boxes) hf.2,hs.boxes,hr,e8V,e8C,d4u hs.boxes hf.2 hr];cases a3t s.g8 e.b8
  ·simp only [e8W,cond_true,cond_false,e8C,l8.go];exact c0G (by omega) hw hs.sorted
  ·unfold bne;cases e.b8.Code==0
   ·simp only [e8W,e8H,cond_true,cond_false,e8C,l8.go];exact c0G (by omega) hw hs.sorted
   ·simp only [e8H,cond_true,cond_false,e8C,l8.go];exact c0G (by omega) hw hs.sorted
 simp only [cond_false];rw [b6w s.i9 hs.fits (fun d=>d.a0.d6==e.a0.d6&&decide (d.a0.Seq>=e.a0.Seq)) (fun d=>(⟨s.At+1,s.g8,s.i9⟩,bif d.a0.Seq==e.a0.Seq then 3 else 4)) ()]
 ·rw [d97 hs.sorted];cases s.i9.find? fun d=>d.a0.d6==e.a0.d6 with
  | none=>simp only [e8C,l8.go,hfr]
  | some d =>
   cases hq:d.a0.Seq==e.a0.Seq with
   | true =>
    have:d.a0.Seq>=e.a0.Seq:=by
     have:d.a0.Seq=e.a0.Seq:=by simpa using hq
     omega
    simp [this,l8.go,hq]
   | false =>
    have hne:d.a0.Seq≠e.a0.Seq:=by simpa using hq
    by_cases hg:d.a0.Seq>e.a0.Seq
    ·have:d.a0.Seq>=e.a0.Seq:=by omega
     simp [this,l8.go,hg,hq]
    ·have:¬d.a0.Seq>=e.a0.Seq:=by omega
     simp [this,l8.go,hg,hfr,hq]
 ·intro j hj;unfold b7v b9Z;rw [w8 _ j hj,u0 hj];simp only [cond_true,e8C,hcd,hw];cases h1:s.i9[j].a0.d6==e.a0.d6<;>cases h2:decide (s.i9[j].a0.Seq>=e.a0.Seq)<;>cases h3:s.i9[j].a0.Seq==e.a0.Seq<;>simp only [cond_true,cond_false,e8C,l8.go,e8V,Bool.false_and,e9B,Bool.and_false]
 ·unfold b7v;rw [A3];rfl
theorem e7T{s:u6}{k:Nat}{e:m4}(hs:Inv s k)(hk:k<40)(he:x9 e=true)(hn:e.i8=false):Inv (a00 s e).1 (k+1)/\0<=(a00 s e).2/\(a00 s e).2<=5:=by
  obtain ⟨h1,h2,hr,hc3⟩:=a9k he hn;have hp:=a7O hr;have hat:s.At+1=((k+1:Nat):Int):=by rw [hs.at_];rfl
  have key:∀(bx:List q8) (d:q9),F4 bx=true->a6V d=true->Inv ⟨s.At+1,bx,a0f s.i9 d⟩ (k+1):=fun bx d hb hd =>
    { at_:=hat,le:=by omega,boxes:=hb,sorted:=e1E d hs.sorted
      dones:=fun x hx=>by
        rcases e2z hs.sorted hx with hx|rfl
        · exact hs.dones x hx
        · exact hd
      len:=by
        have:=c97 d hs.sorted;have:=hs.len;simp only;omega}
  have hd0:∀c:Int,0<=c->c<=2->a6V ⟨e.a0,c,0⟩=true:=by
    intro c c1 c2;unfold a6V n9;simp;omega
  have hd1:a6V ⟨e.a0,0,e.b8.f0⟩=true:=by
    unfold a6V n9;simp;omega
  unfold a00;cases a3t s.g8 e.b8
  · exact ⟨key _ _ hs.boxes (hd0 1 (by decide) (by decide)),show (0:Int)<=1 from by decide,show (1:Int)<=5 from by decide⟩
  · cases e.b8.Code==0
    · exact ⟨key _ _ hs.boxes (hd0 2 (by decide) (by decide)),show (0:Int)<=2 from by decide,show (2:Int)<=5 from by decide⟩
    · exact ⟨key _ _ (c1b hs.boxes hp.2.2.2.2) hd1,show (0:Int)<=0 from by decide,show (0:Int)<=5 from by decide⟩
theorem d25{s:u6}{k:Nat}{e:m4}(hs:Inv s k)(hk:k<40)(he:x9 e=true):Inv (apply s e).1 (k+1)/\0<=(apply s e).2/\(apply s e).2<=5:=by
 have hat:s.At+1=((k+1:Nat):Int):=by rw [hs.at_];rfl
 have key:Inv ⟨s.At+1,s.g8,s.i9⟩ (k+1):={at_:=hat,le:=by omega,boxes:=hs.boxes,sorted:=hs.sorted,dones:=hs.dones,len:=e9O hs.len}
 unfold apply;cases hn:e.i8
 ·have hfr:=e7T hs hk he hn;simp only [cond_false];cases s.i9.find? fun d=>d.a0.d6==e.a0.d6 with
  | none=>exact hfr
  | some d =>
   simp only;cases d.a0.Seq==e.a0.Seq
   ·cases decide (d.a0.Seq>e.a0.Seq)
    ·exact hfr
    ·exact ⟨key,show (0:Int)<=4 from by decide,show (4:Int)<=5 from by decide⟩
   ·exact ⟨key,show (0:Int)<=3 from by decide,show (3:Int)<=5 from by decide⟩
 ·exact ⟨key,show (0:Int)<=5 from by decide,show (5:Int)<=5 from by decide⟩
def T4:u6:=⟨0,e8E 4 ⟨0,0⟩,[]⟩
theorem d7Q:Inv T4 0:={at_:=rfl,le:=by omega,boxes:=by decide,sorted:=.nil,dones:=by simp [T4],len:=by simp [T4]}
theorem c5H:b2b=some T4:=by
 unfold b2b c2V;rw [t5 (by decide)];rfl
theorem d3j:b7i=some T4:=by
 unfold b7i c0u;rw [t5 (by decide)];rfl
def b1J(st:u6×List Int)(e:m4):u6×List Int:=((apply st.1 e).1,st.2++[(apply st.1 e).2])
def z5(l:List m4):u6×List Int:=l.foldl b1J (T4,[])
theorem a7b{l:List m4}{k:Nat}(hk:k<l.length):z5 (l.take (k+1))=b1J (z5 (l.take k)) l[k]:=by
 unfold z5;rw [e87 hk,List.foldl_append];rfl
theorem a3C{l:List m4}(hl:l.length<=40)(he:l.all x9=true):∀k,k<=l.length->Inv (z5 (l.take k)).1 k/\(z5 (l.take k)).2.length=k/\∀c∈(z5 (l.take k)).2,0<=c/\c<=5
 | 0,_=>by
  rw [e9e];exact ⟨d7Q,rfl,by simp [z5]⟩
 | k+1,hk=>by
  obtain ⟨h1,h2,h3⟩:=a3C hl he k (by omega);have ha:=d25 h1 (by omega) (List.all_eq_true.1 he _ (e8F (show k<l.length by omega)));rw [a7b (show k<l.length by omega)];refine ⟨ha.1,by simp [b1J,h2],fun c hc => ?_⟩;unfold b1J at hc;rcases List.mem_append.1 hc with hc|hc
  ·exact h3 c hc
  ·rw [e8J] at hc;rw [hc];exact ha.2
theorem a6k{l:List m4}(h:I3 l=true):l.length<=40/\l.all x9=true:=by
 unfold I3 at h;simpa using h
theorem c5u{l:List m4}(h:z7 88 a1F l)(hl:l.length<=40)(he:l.all x9=true):b02 l=some (z5 l):=by
  have hf:t6 l:=h.fits (by decide);unfold b02;rw [d3j,e8C];first
  | (have hloop:=X3 (body:=fun s:(List q8)×(List q9)×(List Int)×Int×Int=>a0K l s.1 s.2.1 s.2.2.1 s.2.2.2.1 s.2.2.2.2) (fun k=>((z5 (l.take k)).1.g8,(z5 (l.take k)).1.i9,(z5 (l.take k)).2,(k:Int),(z5 (l.take k)).1.At)) l.length (by
       intro k hk;obtain ⟨h1,h2,h3⟩:=a3C hl he k (by omega);have n1:((z5 (l.take k)).2.length+1)*8<=140737488355328:=by rw [h2];omega
       rw [a7b hk];unfold a0K;rw [w8 _ k hk,u0 hk,F3 hf hk];simp only [cond_true,e8C];rw [c1X h1 (by omega) (List.all_eq_true.1 he _ (e8F hk)) (h.2 _ (e8F hk)),e8C,t5 n1];rfl)
     rw [e9e,e85] at hloop;rw [show ((0:Nat):Int)=0 from rfl] at hloop;rw [show o9 (fun s:(List q8)×(List q9)×(List Int)×Int×Int=>a0K l s.1 s.2.1 s.2.2.1 s.2.2.2.1 s.2.2.2.2) (T4.g8,T4.i9,([]:List Int),0,T4.At)=_ from hloop,C2 (b:=((z5 l).1.g8,(z5 l).1.i9,(z5 l).2,(z5 l).1.At))]
     · rfl
     · unfold a0K;rw [A3];rfl
     done)
  | (have hloop:=X3 (body:=fun s:u6×(List Int)×Int=>a0K l s.1 s.2.1 s.2.2) (fun k=>((z5 (l.take k)).1,(z5 (l.take k)).2,(k:Int))) l.length (by
       intro k hk;obtain ⟨h1,h2,h3⟩:=a3C hl he k (by omega);have n1:((z5 (l.take k)).2.length+1)*8<=140737488355328:=by rw [h2];omega
       rw [a7b hk];unfold a0K;rw [w8 _ k hk,u0 hk,F3 hf hk];simp only [cond_true,e8C];rw [c1X h1 (by omega) (List.all_eq_true.1 he _ (e8F hk)) (h.2 _ (e8F hk)),e8C,t5 n1];rfl)
     rw [e9e,e85] at hloop;rw [show ((0:Nat):Int)=0 from rfl] at hloop;rw [show o9 (fun s:u6×(List Int)×Int=>a0K l s.1 s.2.1 s.2.2) (T4,[],0)=_ from hloop,C2 (b:=z5 l)]
     · rfl
     · unfold a0K;rw [A3];rfl
     done)
  | (have hloop:=X3 (body:=fun s:(List q8)×(List Int)×Int×Int×List q9=>a0K l s.1 s.2.1 s.2.2.1 s.2.2.2.1 s.2.2.2.2) (fun k=>((z5 (l.take k)).1.g8,(z5 (l.take k)).2,(k:Int),(z5 (l.take k)).1.At,(z5 (l.take k)).1.i9)) l.length (by
       intro k hk;obtain ⟨h1,h2,h3⟩:=a3C hl he k (by omega);have n1:((z5 (l.take k)).2.length+1)*8<=140737488355328:=by rw [h2];omega
       rw [a7b hk];unfold a0K;rw [w8 _ k hk,u0 hk,F3 hf hk];simp only [cond_true,e8C];rw [show (⟨(z5 (l.take k)).1.At,(z5 (l.take k)).1.g8,(z5 (l.take k)).1.i9⟩:u6)=(z5 (l.take k)).1 from rfl,c1X h1 (by omega) (List.all_eq_true.1 he _ (e8F hk)) (h.2 _ (e8F hk)),e8C,t5 n1];rfl)
     rw [e9e,e85] at hloop;rw [show ((0:Nat):Int)=0 from rfl] at hloop;rw [show o9 (fun s:(List q8)×(List Int)×Int×Int×List q9=>a0K l s.1 s.2.1 s.2.2.1 s.2.2.2.1 s.2.2.2.2) (T4.g8,[],0,T4.At,T4.i9)=_ from hloop,C2 (b:=((z5 l).1.g8,(z5 l).2,(z5 l).1.At,(z5 l).1.i9))]
     · rfl
     · unfold a0K;rw [A3];rfl
     done)
def Rd(r:s6)(m:Nat):Prop:=(∀x∈r.b,a5L x)/\r.b.length<=2000/\0<=r.p/\r.p<=(m:Int)
theorem Rd.mono{r:s6}{m n:Nat}(h:Rd r m)(hn:m<=n):Rd r n:=⟨h.1,h.2.1,h.2.2.1,by have:=h.2.2.2;omega⟩
theorem d94{x y:Int}(hx:0<=x)(hx2:x<4611686018427387904)(hy:0<=y)(hy2:y<4611686018427387904):0<=a5O .i64 x y/\a5O .i64 x y<4611686018427387904:=by
 obtain ⟨a,rfl⟩:∃a:Nat,x=(a:Int):=⟨x.toNat,by omega⟩
 obtain ⟨b,rfl⟩:∃b:Nat,y=(b:Int):=⟨y.toNat,by omega⟩
 have hxor:a ^^^ b<2 ^ 62:=Nat.xor_lt_two_pow (by omega) (by omega);have h:a5O .i64 (a:Int) (b:Int)=((a ^^^ b:Nat):Int):=by
  unfold a5O;rw [BitVec.toNat_xor];have e1:(BitVec.ofInt IntKind.i64.bits (a:Int)).toNat=a:=by
   show (BitVec.ofInt 64 (a:Int)).toNat=a
   rw [BitVec.toNat_ofInt];omega
  have e2:(BitVec.ofInt IntKind.i64.bits (b:Int)).toNat=b:=by
   show (BitVec.ofInt 64 (b:Int)).toNat=b
   rw [BitVec.toNat_ofInt];omega
  rw [e1,e2];exact IntWalk.i64_in _ ⟨by omega,by omega⟩
 rw [h];omega
theorem c1q{l:List Int}(h:∀x∈l,a5L x){i:Int}(h0:0<=i)(h1:i<l.length):∃y,idx l i=some y/\0<=y/\y<=255:=by
 have hlt:i.toNat<l.length:=by omega
 refine ⟨l[i.toNat],?_,h _ (e8F hlt)⟩;unfold idx;rw [if_pos h0,e8D hlt]
theorem b4E{x n:Int}(hx:0<=x)(hn:1<=n):0<=e81 x n/\e81 x n<n:=by
 rw [Int.tmod_eq_emod_of_nonneg hx];exact ⟨Int.emod_nonneg _ (by omega),Int.emod_lt_of_pos _ (by omega)⟩
theorem c7l{x n:Int}(hx:0<=x)(hn:1<=n):0<=f0d x n/\f0d x n<=x:=by
 rw [Int.tdiv_eq_ediv_of_nonneg hx];exact ⟨Int.ediv_nonneg hx (by omega),Int.ediv_le_self _ hx⟩
theorem G3{r:s6}{m:Nat}(h:Rd r m)(hm:m<=1000000000)(n:Int):∃v r',D5 r n=some (v,r')/\Rd r' (m+1)/\0<=v/\(v<n\/v=0):=by
 obtain ⟨hb,hbl,hp0,hp1⟩:=h;have hw:m7 (r.p+1)=r.p+1:=B6 (by omega) (by omega);have hw2:m7 (r.p+1-1)=r.p:=by rw [B6 (by omega) (by omega)];omega
 have hr:Rd ⟨r.b,r.p+1⟩ (m+1):=⟨hb,hbl,by simp only;omega,by simp only;omega⟩
 unfold D5;simp only [hw,hw2];by_cases hn:n<1
 ·simp only [hn,decide_true,cond_true];exact ⟨0,_,rfl,hr,by omega,.inr rfl⟩
 simp only [hn,decide_false,cond_false];cases he:((r.b.length:Int)==0);case true=>exact ⟨0,_,rfl,hr,by omega,.inr rfl⟩
 have hpos:0<r.b.length:=by
  have:¬(r.b.length:Int)=0:=by simpa using he
  omega
 have hne:(r.b.length:Int)≠0:=by omega
 have hnn:n≠0:=by omega
 simp only [cond_false];by_cases hlt:r.p<(r.b.length:Int)
 ·obtain ⟨y,h1,h2,h3⟩:=c1q hb hp0 hlt;simp only [hlt,decide_true,cond_true,h1,e8C,t5 hnn];rw [B6 (n:=y) (by omega) (by omega)];have:=b4E h2 (show 1<=n by omega);exact ⟨_,_,rfl,hr,this.1,.inl this.2⟩
 ·simp only [hlt,decide_false,cond_false,t5 hne,t5 hnn];have t1:=b4E hp0 (show (1:Int)<=(r.b.length:Int) by omega);obtain ⟨y1,a1,a2,a3⟩:=c1q hb t1.1 t1.2;have w7:m7 (r.p*7)=r.p*7:=B6 (by omega) (by omega);have w73:m7 (r.p*7+3)=r.p*7+3:=B6 (by omega) (by omega);have t2:=b4E (show 0<=r.p*7+3 by omega) (show (1:Int)<=(r.b.length:Int) by omega);obtain ⟨y2,b1,b2,b3⟩:=c1q hb t2.1 t2.2;simp only [a1,w7,w73,b1,e8C];have td:=c7l hp0 (show (1:Int)<=(r.b.length:Int) by omega);have c1:m7 (m7 y1*131)=y1*131:=by rw [B6 (n:=y1) (by omega) (by omega),B6 (by omega) (by omega)]
  have c2:m7 (m7 y2*1117)=y2*1117:=by rw [B6 (n:=y2) (by omega) (by omega),B6 (by omega) (by omega)]
  have c3:m7 (r.p*29)=r.p*29:=B6 (by omega) (by omega);have c4:m7 (m7 (f0d r.p (r.b.length:Int))*53)=f0d r.p (r.b.length:Int)*53:=by rw [B6 (n:=f0d r.p (r.b.length:Int)) (by omega) (by omega),B6 (by omega) (by omega)]
  simp only [c1,c2,c3,c4];generalize f0d r.p (r.b.length:Int)=q at td;rw [B6 (n:=y1*131+y2*1117) (by omega) (by omega),B6 (n:=y1*131+y2*1117+r.p*29) (by omega) (by omega),B6 (n:=y1*131+y2*1117+r.p*29+q*53) (by omega) (by omega)];have hA0:0<=y1*131+y2*1117+r.p*29+q*53:=by omega
  have hA1:y1*131+y2*1117+r.p*29+q*53<1000000000000:=by omega
  generalize y1*131+y2*1117+r.p*29+q*53=A at hA0 hA1;have t3:=c7l hA0 (show (1:Int)<=64 by omega);rw [B6 (n:=f0d A 64) (by omega) (by omega)];have hx:=d94 hA0 (by omega) t3.1 (by omega);have t4:=b4E hx.1 (show 1<=n by omega);exact ⟨_,_,rfl,hr,t4.1,.inl t4.2⟩
theorem a9T{r:s6}{m:Nat}(h:Rd r m)(hm:m<=1000000000)(l:List Int)(hl:0<l.length)(hl2:l.length<=1000):∃v r',a49 r l=some (v,r')/\Rd r' (m+1)/\v∈l:=by
 obtain ⟨v,r',h1,h2,h3,h4⟩:=G3 h hm (l.length:Int);unfold a49;rw [h1,e8C];have hlt:v.toNat<l.length:=by omega
 refine ⟨l[v.toNat],r',?_,h2,e8F hlt⟩;unfold idx;simp only [if_pos h3,e8D hlt,e8C]
theorem d6j{code:List Int}(h:∀x∈code,a5L x):∃r,b7U code=some r/\Rd r 0:=by
 unfold b7U c2Q;by_cases hl:(code.length:Int)>2000
 ·simp only [hl,decide_true,cond_true];rw [t5 ⟨by omega,by omega⟩];refine ⟨_,rfl,?_,?_,by simp,by simp⟩
  ·intro x hx;simp only [e9F] at hx;exact h x (e9j hx)
  ·simp only [e83];have:(2000:Int).toNat-0=2000:=by decide
   omega
 ·simp only [hl,decide_false,cond_false];exact ⟨_,rfl,h,by simp only;omega,by simp,by simp⟩
def O2(i:o8):Bool :=
 bif i.a7==1 then n9 i.A 0 3&&(n9 i.B 0 3&&i.N==0) else
 bif i.a7==2 then n9 i.A 0 3&&(n9 i.B 0 3&&i.N==0) else
 bif i.a7==3 then n9 i.A 0 3&&(i.B==0&&n9 i.N (-1000000) 1000000) else
 bif i.a7==4 then n9 i.A 0 3&&(n9 i.B 0 3&&i.N==0) else
 bif i.a7==5 then n9 i.A 0 3&&(n9 i.B 0 3&&i.N==0) else
 bif i.a7==6 then n9 i.A 0 3&&(n9 i.B 0 3&&n9 i.N 1 10) else
 bif i.a7==7 then i.A==0&&(i.B==0&&i.N==0) else false
theorem e66(n:Int):a1B n=some (n9 n 0 3):=by
 rw [<-K9];unfold a1B C0;have:(n<4)=(n<=3):=by apply propext;omega
 simp only [this]
theorem e0q(i:o8):b5z i=some (O2 i):=by
 unfold b5z O2;have h6:(bif decide (i.N>=1) then some (decide (i.N<=10)) else some false)=some (n9 i.N 1 10):=by
  unfold n9;by_cases h1:i.N>=1<;>by_cases h2:i.N<=10<;>simp [h1,h2]<;>omega
 simp only [e66,b8E,a4U,e8C,h6];cases i.a7==1<;>cases i.a7==2<;>cases i.a7==3<;>cases i.a7==4<;>cases i.a7==5<;>cases i.a7==6<;>cases i.a7==7<;>cases n9 i.A 0 3<;>cases n9 i.B 0 3<;>cases i.A==0<;>cases i.B==0<;>rfl
def C7(l:List o8):Bool:=decide (l.length<=10)&&l.all O2
theorem b5L{l:List o8}(h:t6 l):a75 l=some (C7 l):=by
 unfold a75 C7;rw [show (10:Int)=((10:Nat):Int) from rfl,a9w,O3 l h O2 false ()]
 ·cases decide (l.length<=10)
  ·rfl
  ·cases l.all O2<;>rfl
 ·intro k hk;unfold b3Q;rw [w8 _ k hk,u0 hk];simp only [cond_true,e8C,e0q];cases O2 l[k]<;>rfl
 ·unfold b3Q;rw [A3];rfl
theorem a6W{i:o8}(h:O2 i=true):(i.a7=1/\(0<=i.A/\i.A<=3)/\(0<=i.B/\i.B<=3))\/(i.a7=2/\(0<=i.A/\i.A<=3)/\(0<=i.B/\i.B<=3))\/(i.a7=3/\(0<=i.A/\i.A<=3)/\(-1000000<=i.N/\i.N<=1000000))\/
  (i.a7=4/\(0<=i.A/\i.A<=3)/\(0<=i.B/\i.B<=3))\/(i.a7=5/\(0<=i.A/\i.A<=3)/\(0<=i.B/\i.B<=3))\/(i.a7=6/\(0<=i.A/\i.A<=3)/\(0<=i.B/\i.B<=3)/\(1<=i.N/\i.N<=10))\/(i.a7=7/\i.A=0):=by
 unfold O2 n9 at h;by_cases h1:i.a7=1
 ·simp [h1] at h;exact .inl ⟨h1,h.1,h.2.1⟩
 by_cases h2:i.a7=2
 ·simp [h2] at h;exact .inr (.inl ⟨h2,h.1,h.2.1⟩)
 by_cases h3:i.a7=3
 ·simp [h3] at h;exact .inr (.inr (.inl ⟨h3,h.1,h.2.2⟩))
 by_cases h4:i.a7=4
 ·simp [h4] at h;exact .inr (.inr (.inr (.inl ⟨h4,h.1,h.2.1⟩)))
 by_cases h5:i.a7=5
 ·simp [h5] at h;exact .inr (.inr (.inr (.inr (.inl ⟨h5,h.1,h.2.1⟩))))
 by_cases h6:i.a7=6
 ·simp [h6] at h;exact .inr (.inr (.inr (.inr (.inr (.inl ⟨h6,h.1,h.2.1,h.2.2⟩)))))
 by_cases h7:i.a7=7
 ·simp [h7] at h;exact .inr (.inr (.inr (.inr (.inr (.inr ⟨h7,h.1⟩)))))
 ·have e1:(i.a7==1)=false:=by simpa using h1
  have e2:(i.a7==2)=false:=by simpa using h2
  have e3:(i.a7==3)=false:=by simpa using h3
  have e4:(i.a7==4)=false:=by simpa using h4
  have e5:(i.a7==5)=false:=by simpa using h5
  have e6:(i.a7==6)=false:=by simpa using h6
  have e7:(i.a7==7)=false:=by simpa using h7
  rw [e1,e2,e3,e4,e5,e6,e7] at h;cases h
def a7e(l:List p7):Bool:=(e8M l.length).all (U1 l)
def a3a(l:List n8):Bool:=(e8M l.length).all (T7 l)
def c1r(x:p7):Prop:=0<=x.i6/\x.i6<=3/\0<=x.j3/\x.j3<=1000000
theorem c47{l:List p7}:a7e l=true↔(∀x∈l,c1r x)/\l.Pairwise fun a b=>a.i6≠b.i6:=by
 unfold a7e;constructor
 ·intro h;refine ⟨d0I h,?_⟩;rw [e9d];intro i j hi hj hij heq;have:=List.all_eq_true.1 h j (by simpa using hj);unfold U1 at this;rw [e8D hj] at this;simp only [e8G,e9t] at this;have hs:=this.2.2;unfold L2 at hs;rw [e9p] at hs;refine hs l[i] ?_ (by simpa using heq);rw [e9S];exact ⟨i,by omega,rfl⟩
 ·rintro ⟨h1,h2⟩
  rw [List.all_eq_true];intro k hk;have hk:k<l.length:=by simpa using hk
  unfold U1;rw [e8D hk];have hf:=h1 _ (e8F hk);have hs:L2 (l.take k) l[k].i6=false:=by
   unfold L2;rw [e9p];intro x hx;obtain ⟨i,hi,rfl⟩:=e9S.1 hx;have:=e9d.1 h2 i k (by omega) hk (by omega);simpa using this
  simp only [hs,e8W,e9B,e8G];unfold c1r at hf;exact ⟨by simp [n9];omega,by simp [n9];omega⟩
theorem b7q{l:List n8}:a3a l=true↔(∀x∈l,a2b x)/\l.Pairwise fun a b=>a.i6≠b.i6:=by
 unfold a3a;constructor
 ·intro h;refine ⟨d1x h,?_⟩;rw [e9d];intro i j hi hj hij heq;have:=List.all_eq_true.1 h j (by simpa using hj);unfold T7 at this;rw [e8D hj] at this;simp only [e8G,e9t] at this;have hs:=this.2.2;unfold R5 at hs;rw [e9p] at hs;refine hs l[i] ?_ (by simpa using heq);rw [e9S];exact ⟨i,by omega,rfl⟩
 ·rintro ⟨h1,h2⟩
  rw [List.all_eq_true];intro k hk;have hk:k<l.length:=by simpa using hk
  unfold T7;rw [e8D hk];have hf:=h1 _ (e8F hk);have hs:R5 (l.take k) l[k].i6=false:=by
   unfold R5;rw [e9p];intro x hx;obtain ⟨i,hi,rfl⟩:=e9S.1 hx;have:=e9d.1 h2 i k (by omega) hk (by omega);simpa using this
  simp only [hs,e8W,e9B,e8G];unfold a2b at hf;exact ⟨by simp [n9];omega,by simp [n9];omega⟩
theorem e4s{l:List p7}{x:p7}(h:a7e l=true)(hx:c1r x)(hs:L2 l x.i6=false):a7e (l++[x])=true:=by
 rw [c47] at h ⊢;refine ⟨fun y hy => ?_,?_⟩
 ·rcases List.mem_append.1 hy with hy|hy
  ·exact h.1 y hy
  ·rw [e8J.1 hy];exact hx
 ·rw [e9R];refine ⟨h.2,by simp,fun a ha b hb => ?_⟩;rw [e8J.1 hb];unfold L2 at hs;rw [e9p] at hs;simpa using hs a ha
theorem e3U{l:List n8}{x:n8}(h:a3a l=true)(hx:a2b x)(hs:R5 l x.i6=false):a3a (l++[x])=true:=by
 rw [b7q] at h ⊢;refine ⟨fun y hy => ?_,?_⟩
 ·rcases List.mem_append.1 hy with hy|hy
  ·exact h.1 y hy
  ·rw [e8J.1 hy];exact hx
 ·rw [e9R];refine ⟨h.2,by simp,fun a ha b hb => ?_⟩;rw [e8J.1 hb];unfold R5 at hs;rw [e9p] at hs;simpa using hs a ha
theorem e5E{l:List n8}{k:Nat}{v:Int}(h:a3a l=true)(hk:k<l.length)(hv:-1000000<=v/\v<=1000000):a3a (l.set k ⟨l[k].i6,v⟩)=true:=by
 rw [b7q] at h ⊢;refine ⟨fun y hy => ?_,?_⟩
 ·rcases List.mem_or_eq_of_mem_set hy with hy|rfl
  ·exact h.1 y hy
  ·have:=h.1 _ (e8F hk);exact ⟨this.1,this.2.1,hv⟩
 ·rw [e9d];intro i j hi hj hij;have hi':i<l.length:=by simpa using hi
  have hj':j<l.length:=by simpa using hj
  have hne:=e9d.1 h.2 i j hi' hj' hij;rw [List.getElem_set,List.getElem_set];split<;>split<;>simp_all
theorem b2j(r:m9):R6 r=(n9 r.Code 0 3&&(n9 r.f0 (-1000000) 1000000&&((r.Code==0||(r.f0==0&&r.b7.length==0))&&((r.Code != 3||r.b5.length==0)&&(a7e r.b5&&a3a r.b7))))):=rfl
theorem c5A{l:List n8}(h:t6 l)(box:Int):(a2g l box=some (-1)/\R5 l box=false)\/∃k:Nat,a2g l box=some (k:Int)/\∃hk:k<l.length,l[k].i6=box:=by
 have hc:=a47 (body:=fun s:Int=>a05 l box s) (fun k=>(k:Int)) l.length (fun k=>match l[k]? with|some x => !(x.i6==box)|none=>true) (fun k=>(k:Int)) ()
  (fun k hk _=>by
   unfold a05;rw [w8 l k hk,u0 hk,F3 h hk];simp only [cond_true,e8C,e8D hk];cases l[k].i6==box<;>rfl) (fun _=>by unfold a05;rw [A3];rfl)
 unfold a2g;rcases hc with ⟨h1,hall⟩|⟨k,hk,ho,_,h1⟩
 ·left
  rw [show o9 (fun s:Int=>a05 l box s) 0=_ from h1];refine ⟨rfl,?_⟩;unfold R5;rw [e9p];intro x hx;obtain ⟨i,hi,rfl⟩:=e9s hx;have:=hall i hi;simpa [e8D hi] using this
 ·right
  rw [show o9 (fun s:Int=>a05 l box s) 0=_ from h1];refine ⟨k,rfl,hk,?_⟩;simpa [e8D hk] using ho
def inV(v:Int):Prop := -1000000<=v/\v<=1000000
def a66(regs:List Int):Prop:=regs.length=4/\∀v∈regs,inV v
theorem a2c{regs:List Int}(h:regs.length=4){a:Int}(ha:0<=a/\a<=3):∃v,idx regs a=some v/\v∈regs:=by
 have hlt:a.toNat<regs.length:=by omega
 refine ⟨regs[a.toNat],?_,e8F hlt⟩;unfold idx;rw [if_pos ha.1,e8D hlt]
theorem e54{regs:List Int}{a:Nat}{v w:Int}(h:w∈regs.set a v):w∈regs\/w=v:=List.mem_or_eq_of_mem_set h
structure T8(r:m9)(n:Nat):Prop where
 val:r.f0=0
 reads:a7e r.b5=true
 puts:a3a r.b7=true
 rlen:r.b5.length<=n
 plen:r.b7.length<=n
theorem T8.fitsR{r:m9}{n:Nat}(h:T8 r n)(hn:n<=100):t6 r.b5:=by
 have:=h.rlen;unfold t6;omega
theorem T8.fitsP{r:m9}{n:Nat}(h:T8 r n)(hn:n<=100):t6 r.b7:=by
 have:=h.plen;unfold t6;omega
theorem e2I{l:List q8}{r:m9}{n:Nat}{box:Int}(hl:F4 l=true)(hr:T8 r n)(hn:n<=100)(hb:0<=box/\box<=3):∃v r',b2T l r box=some (v,r')/\T8 r' (n+1)/\r'.Code=r.Code/\inV v:=by
 have hp:=(b7q.1 hr.puts).1;unfold b2T;rcases c5A (hr.fitsP hn) box with ⟨h1,h2⟩|⟨k,h1,hk,h2⟩
 ·rw [h1,e8C,show decide ((-1:Int)>=0)=false from by decide,cond_false,c19 (hr.fitsR hn),e8C];obtain ⟨b,b1,b2,b3⟩:=a5C hl hb;rw [b5R] at b3;cases hs:L2 r.b5 box
  ·simp only [e8W,cond_true,b1,e8C];have n1:(r.b5.length+1)*16<=140737488355328:=by have:=hr.rlen;omega
   simp only [t5 n1,e8C,l8.go];unfold b2f;rw [b1,e8C];refine ⟨_,_,rfl,⟨hr.val,e4s hr.reads ⟨hb.1,hb.2,b3.1⟩ hs,hr.puts,?_,?_⟩,rfl,b3.2⟩
   ·have:=hr.rlen;simp;omega
   ·have:=hr.plen;simp only;omega
  ·simp only [e8H,cond_false,e8C,l8.go];unfold b2f;rw [b1,e8C];refine ⟨_,_,rfl,⟨hr.val,hr.reads,hr.puts,?_,?_⟩,rfl,b3.2⟩
   ·have:=hr.rlen;simp only;omega
   ·have:=hr.plen;simp only;omega
 ·rw [h1,e8C,show decide (((k:Nat):Int)>=0)=true from by simp,cond_true,u0 hk,e8C];have hf:=hp _ (e8F hk);exact ⟨_,_,rfl,⟨hr.val,hr.reads,hr.puts,e9O hr.rlen,e9O hr.plen⟩,rfl,hf.2.2⟩
theorem d9N{r:m9}{n:Nat}{box v:Int}(hr:T8 r n)(hn:n<=100)(hb:0<=box/\box<=3)(hv:inV v):∃r',b0J r box v=some r'/\T8 r' (n+1)/\r'.Code=r.Code:=by
 unfold b0J;rcases c5A (hr.fitsP hn) box with ⟨h1,h2⟩|⟨k,h1,hk,h2⟩
 ·rw [h1,e8C,show decide ((-1:Int)>=0)=false from by decide,cond_false];have n1:(r.b7.length+1)*16<=140737488355328:=by have:=hr.plen;omega
  rw [t5 n1];refine ⟨_,rfl,⟨hr.val,hr.reads,e3U hr.puts ⟨hb.1,hb.2,hv⟩ h2,?_,?_⟩,rfl⟩
  ·have:=hr.rlen;simp only;omega
  ·have:=hr.plen;simp;omega
 ·rw [h1,e8C,show decide (((k:Nat):Int)>=0)=true from by simp,cond_true,u0 hk,e8C];refine ⟨_,rfl,⟨hr.val,hr.reads,?_,e9O hr.rlen,?_⟩,rfl⟩
  ·simp only [e82];exact e5E hr.puts hk hv
  ·have:=hr.plen;simp;omega
theorem e7G{l:List q8}{r:m9}{n:Nat}{regs:List Int}{i:o8}(hl:F4 l=true)(hr:T8 r n)(hn:n<=100)(hc:r.Code=0)(hg:a66 regs)(hi:O2 i=true)(h6:i.a7≠6) :
  ∃r' regs',a4I l r regs i=some (r',regs')/\T8 r' (n+1)/\regs'.length=4/\(r'.Code=0\/r'.Code=1\/r'.Code=2)/\(r'.Code=0->a66 regs'):=by
 have hend:∀(regs':List Int) (r':m9),T8 r' (n+1)->(r'.Code=0\/r'.Code=1)->regs'.length=4->i.a7≠2->(0<=i.A/\i.A<=3)->(∀v,idx regs' i.A=some v->inV v->a66 regs')->
   ∃r2 regs2,a2H i regs' r'.b5 r'.b7 r'.f0 r'.Code=some (r2,regs2)/\T8 r2 (n+1)/\regs2.length=4/\(r2.Code=0\/r2.Code=1\/r2.Code=2)/\(r2.Code=0->a66 regs2):=by
  intro regs' r' w1 w2 w3 w4 w5 w6;obtain ⟨v,v1,v2⟩:=a2c w3 w5;have hk:(i.a7 != 2)=true:=by simpa using w4
  unfold a2H a74;rw [hk,cond_true,v1,e8C,a4U,e8C];cases hv:n9 v (-1000000) 1000000
  ·simp only [e8W,cond_true,e8C,l8.go];exact ⟨_,_,rfl,⟨w1.val,w1.reads,w1.puts,w1.rlen,w1.plen⟩,w3,.inr (.inr rfl),fun h=>absurd h (show ¬(2:Int)=0 from by decide)⟩
  ·simp only [e8H,cond_false,e8C,l8.go];have hv':inV v:=by simpa [n9,inV] using hv
   refine ⟨_,_,rfl,⟨w1.val,w1.reads,w1.puts,w1.rlen,w1.plen⟩,w3,?_,fun _=>w6 v v1 hv'⟩;rcases w2 with w2|w2
   ·exact .inl w2
   ·exact .inr (.inl w2)
 have hset:∀(a:Int) (x:Int),(0<=a/\a<=3)->(regs.set a.toNat x).length=4/\∀v,idx (regs.set a.toNat x) a=some v->inV v->a66 (regs.set a.toNat x):=by
  intro a x ha;have hlt:a.toNat<regs.length:=by have:=hg.1;omega
  refine ⟨by simpa using hg.1,fun v hv hin=>⟨by simpa using hg.1,fun w hw => ?_⟩⟩;rcases e54 hw with hw|rfl
  ·exact hg.2 w hw
  ·unfold idx at hv;rw [if_pos ha.1,e9v hlt] at hv;injection hv with hv;subst hv;exact hin
 have hw1:T8 r (n+1):=⟨hr.val,hr.reads,hr.puts,e9O hr.rlen,e9O hr.plen⟩
 unfold a4I;rcases a6W hi with ⟨k,ha,hb⟩|⟨k,ha,hb⟩|⟨k,ha,hN⟩|⟨k,ha,hb⟩|⟨k,ha,hb⟩|⟨k,_⟩|⟨k,ha⟩
 ·obtain ⟨v,r',q1,q2,q3,q4⟩:=e2I hl hr hn hb;obtain ⟨y,y1,_⟩:=a2c hg.1 ha;simp only [k,q1,y1,beq_self_eq_true,cond_true,e8C,l8.go];exact hend _ r' q2 (.inl (q3.trans hc)) (hset i.A v ha).1 (by omega) ha (hset i.A v ha).2
 ·obtain ⟨y,y1,y2⟩:=a2c hg.1 hb;obtain ⟨r',q1,q2,q3⟩:=d9N hr hn ha (hg.2 y y2);have e1:((2:Int)==1)=false:=by decide
  simp only [k,e1,y1,q1,beq_self_eq_true,cond_true,cond_false,e8C,l8.go];unfold a2H a74;simp only [k,bne_self_eq_false,cond_false,e8C,l8.go];exact ⟨_,_,rfl,⟨q2.val,q2.reads,q2.puts,q2.rlen,q2.plen⟩,hg.1,.inl (q3.trans hc),fun _=>hg⟩
 ·obtain ⟨y,y1,_⟩:=a2c hg.1 ha;have e1:((3:Int)==1)=false:=by decide
  have e2:((3:Int)==2)=false:=by decide
  simp only [k,e1,e2,y1,beq_self_eq_true,cond_true,cond_false,e8C,l8.go];exact hend _ r hw1 (.inl hc) (hset i.A i.N ha).1 (by omega) ha (hset i.A i.N ha).2
 ·obtain ⟨y,y1,_⟩:=a2c hg.1 ha;obtain ⟨z,z1,_⟩:=a2c hg.1 hb;have e1:((4:Int)==1)=false:=by decide
  have e2:((4:Int)==2)=false:=by decide
  have e3:((4:Int)==3)=false:=by decide
  simp only [k,e1,e2,e3,y1,z1,beq_self_eq_true,cond_true,cond_false,e8C,l8.go];exact hend _ r hw1 (.inl hc) (hset i.A _ ha).1 (by omega) ha (hset i.A _ ha).2
 ·obtain ⟨y,y1,_⟩:=a2c hg.1 ha;obtain ⟨z,z1,_⟩:=a2c hg.1 hb;have e1:((5:Int)==1)=false:=by decide
  have e2:((5:Int)==2)=false:=by decide
  have e3:((5:Int)==3)=false:=by decide
  have e4:((5:Int)==4)=false:=by decide
  simp only [k,e1,e2,e3,e4,y1,z1,beq_self_eq_true,cond_true,cond_false,e8C,l8.go];exact hend _ r hw1 (.inl hc) (hset i.A _ ha).1 (by omega) ha (hset i.A _ ha).2
 ·exact absurd k h6
 ·have e1:((7:Int)==1)=false:=by decide
  have e2:((7:Int)==2)=false:=by decide
  have e3:((7:Int)==3)=false:=by decide
  have e4:((7:Int)==4)=false:=by decide
  have e5:((7:Int)==5)=false:=by decide
  simp only [k,e1,e2,e3,e4,e5,beq_self_eq_true,cond_true,cond_false,e8C,l8.go];have:=hend regs ⟨r.b5,r.b7,r.f0,1⟩ ⟨hw1.val,hw1.reads,hw1.puts,hw1.rlen,hw1.plen⟩ (.inr rfl) hg.1 (by omega) ⟨by omega,by omega⟩ (fun _ _ _=>hg);exact this
structure Ran(r:m9):Prop where
 ok:R6 r=true
 rlen:r.b5.length<=40
 plen:r.b7.length<=40
theorem d6t{r:m9}{n:Nat}(h:T8 r n)(hn:n<=40)(hc:r.Code=0\/r.Code=1\/r.Code=2){v:Int}(hv:r.Code=0->inV v):Ran ⟨r.b5,bif r.Code != 0 then [] else r.b7,bif r.Code != 0 then r.f0 else v,r.Code⟩:=by
 have h1:=h.rlen;have h2:=h.plen;have hR:=h.reads;have hP:=h.puts;have hP0:a3a []=true:=rfl;rcases hc with hc|hc|hc
 ·have hv:=hv hc;unfold inV at hv;refine ⟨?_,by simp only;omega,by simp only [hc];simp;omega⟩;rw [b2j];simp [hc,hR,hP,n9,hv]
 ·refine ⟨?_,by simp only;omega,by simp [hc]⟩;rw [b2j];simp [hc,hR,hP0,n9,h.val]
 ·refine ⟨?_,by simp only;omega,by simp [hc]⟩;rw [b2j];simp [hc,hR,hP0,n9,h.val]
theorem e6f{l:List q8}{prog:List o8}(hl:t6 l)(hp:t6 prog):∃r,a8s l prog=some r/\(F4 l=true->Ran r)/\r.b5.length<=40/\r.b7.length<=40:=by
 unfold a8s;rw [b9W hl,b5L hp];have h0:Ran ⟨[],[],0,3⟩:=⟨by decide,by simp,by simp⟩
 cases hb:F4 l
 ·exact ⟨_,rfl,(fun h=>by cases h),by simp,by simp⟩
 cases hpo:C7 prog
 ·exact ⟨_,rfl,fun _=>h0,by simp,by simp⟩
 simp only [e8C,e8H,cond_false];rw [t5 (by decide)];have hlen:prog.length<=10:=by
  unfold C7 at hpo;simp only [e8G,decide_eq_true_eq] at hpo;exact hpo.1
 have hins:∀i∈prog,O2 i=true:=by
  unfold C7 at hpo;simp only [e8G] at hpo;exact List.all_eq_true.1 hpo.2
 obtain ⟨x,hx,hq⟩:=b3m (body:=fun s:(List Int)×(List p7)×(List n8)×Int×Int×Int=>Z4 l prog s.1 s.2.1 s.2.2.1 s.2.2.2.1 s.2.2.2.2.1 s.2.2.2.2.2)
  (fun m s => ∃k:Nat,s.2.2.2.1=(k:Int)/\k<=30/\k+m=31/\T8 ⟨s.2.1,s.2.2.1,s.2.2.2.2.1,s.2.2.2.2.2⟩ k/\s.1.length=4/\(s.2.2.2.2.2=0\/s.2.2.2.2.2=1\/s.2.2.2.2.2=2)/\(s.2.2.2.2.2=0->a66 s.1))
  (fun x=>match x with
   | .ret _=>False
   | .brk b=>T8 ⟨b.1,b.2.1,b.2.2.2.1,b.2.2.2.2⟩ 30/\b.2.2.1.length=4/\(b.2.2.2.2=0\/b.2.2.2.2=1\/b.2.2.2.2=2)/\(b.2.2.2.2=0->a66 b.2.2.1))
  (by
   rintro m ⟨regs,b5,b7,kk,rVal,rCode⟩ ⟨k,hk,hk30,hm,hway,hreg,hcode,hrok⟩
   simp only at hk hway hreg hcode hrok ⊢;subst hk;have hend:T8 ⟨b5,b7,rVal,rCode⟩ 30:=⟨hway.val,hway.reads,hway.puts,Nat.le_trans hway.rlen hk30,Nat.le_trans hway.plen hk30⟩
   unfold Z4;by_cases hlt:k<prog.length
   ·rw [w8 _ k hlt,u0 hlt];cases hc:rCode==0
    ·exact ⟨_,rfl,hend,hreg,hcode,hrok⟩
    have hc0:rCode=0:=by simpa using hc
    have hi:=hins _ (e8F hlt);simp only [cond_true,e8C];cases h6:prog[k].a7==6
    ·obtain ⟨r',regs',q1,q2,q3,q4,q5⟩:=e7G hb hway (by omega) hc0 (hrok hc0) hi (by simpa using h6);simp only [cond_false,q1,e8C];rw [t5 (by rw [q3];exact hreg),B6 (by omega) (by omega)];exact ⟨_,rfl,m-1,by omega,k+1,by simp,by omega,by omega,q2,q3,q4,q5⟩
    ·have h6':prog[k].a7=6:=by simpa using h6
     obtain ⟨_,ha,hbb,hN⟩:prog[k].a7=6/\(0<=prog[k].A/\prog[k].A<=3)/\(0<=prog[k].B/\prog[k].B<=3)/\(1<=prog[k].N/\prog[k].N<=10):=by
      rcases a6W hi with ⟨q,_⟩|⟨q,_⟩|⟨q,_⟩|⟨q,_⟩|⟨q,_⟩|q|⟨q,_⟩
      ·omega
      ·omega
      ·omega
      ·omega
      ·omega
      ·exact q
      ·omega
     obtain ⟨y,y1,_⟩:=a2c hreg ha;obtain ⟨z,z1,_⟩:=a2c hreg hbb;simp only [cond_true,y1,z1,e8C];have hw2:∀j:Nat,k<=j->T8 ⟨b5,b7,rVal,rCode⟩ (j+1):=fun j h=>⟨hway.val,hway.reads,hway.puts,Nat.le_trans hway.rlen (by omega),Nat.le_trans hway.plen (by omega)⟩
     unfold b5J;by_cases hyz:y<z
     ·simp only [hyz,decide_true,cond_true,e8C,l8.go];have e1:m7 ((k:Int)+prog[k].N)=((k+prog[k].N.toNat:Nat):Int):=by
       rw [B6 (n:=(k:Int)+prog[k].N) (by omega) (by omega)];omega
      rw [e1,B6 (n:=((k+prog[k].N.toNat:Nat):Int)+1) (by omega) (by omega)];exact ⟨_,rfl,31-(k+prog[k].N.toNat+1),by omega,k+prog[k].N.toNat+1,rfl,by omega,by omega,hw2 _ (by omega),hreg,hcode,hrok⟩
     ·simp only [hyz,decide_false,cond_false,e8C,l8.go];rw [B6 (n:=(k:Int)+1) (by omega) (by omega)];exact ⟨_,rfl,31-(k+1),by omega,k+1,rfl,by omega,by omega,hw2 k (by omega),hreg,hcode,hrok⟩
   ·have:decide ((k:Int)<(prog.length:Int))=false:=by simp;omega
    rw [this,cond_false];exact ⟨_,rfl,hend,hreg,hcode,hrok⟩) (k:=31) (s:=(e8E (4:Int).toNat 0,[],[],0,0,0)) ⟨0,rfl,by omega,by omega,⟨rfl,rfl,rfl,by simp,by simp⟩,rfl,.inl rfl,fun _=>⟨rfl,by simp [inV]⟩⟩
 rw [hx,e8C];cases x with
 | ret r=>cases hq
 | brk b =>
  obtain ⟨b5,b7,regs,rVal,rCode⟩:=b;obtain ⟨q1,q2,q3,q4⟩:=hq;simp only at q1 q2 q3 q4;simp only [l8.go];unfold a5S;obtain ⟨v,v1,v2⟩:=a2c q2 (a:=0) ⟨by omega,by omega⟩;have hran:=d6t q1 (by omega) q3 (v:=v) (fun h=>(q4 h).2 v v2);have q1r:=q1.rlen;have q1p:=q1.plen;simp only at hran q1r q1p;cases hc:rCode != 0
  ·rw [hc] at hran;simp only [cond_false,v1,e8C] at hran ⊢;exact ⟨_,rfl,fun _=>hran,by simp only;omega,by simp only;omega⟩
  ·rw [hc] at hran;simp only [cond_true] at hran ⊢;exact ⟨_,rfl,fun _=>hran,by simp only;omega,by simp⟩
theorem d9S{r:s6}{m:Nat}(h:Rd r m)(hm:m<=100000000):∃i r',b63 r=some (i,r')/\Rd r' (m+10):=by
 obtain ⟨k,r1,a1,a2,a3⟩:=a9T h (by omega) [1,1,2,2,3,4,4,5,6,7] (by decide) (by decide);obtain ⟨p1,r2,b1,b2,b3,b4⟩:=G3 a2 (by omega) 3;obtain ⟨p2,r3,c1,c2,c3,c4⟩:=G3 b2 (by omega) 3;unfold b63;simp only [a1,b1,c1,e8C];cases h3:k==3
 ·cases h6:k==6
  ·cases h7:k==7
   ·exact ⟨_,_,rfl,c2.mono (by omega)⟩
   ·obtain ⟨p3,r4,d1,d2,d3,d4⟩:=G3 c2 (by omega) 3;simp only [cond_true,cond_false,d1,e8C];cases decide (p3>0)
    ·exact ⟨_,_,rfl,d2.mono (by omega)⟩
    ·obtain ⟨p4,r5,e1,e2,e3,e4⟩:=G3 d2 (by omega) 4;obtain ⟨p5,r6,f1,f2,f3,f4⟩:=G3 e2 (by omega) 4;simp only [cond_true,e1,f1,e8C];exact ⟨_,_,rfl,f2.mono (by omega)⟩
  ·obtain ⟨p3,r4,d1,d2,d3,d4⟩:=G3 c2 (by omega) 3;simp only [cond_true,cond_false,d1,e8C];exact ⟨_,_,rfl,d2.mono (by omega)⟩
 ·obtain ⟨n1,r4,d1,d2,d3⟩:=a9T c2 (by omega) [0,1,5,(-2),100,1000000] (by decide) (by decide);simp only [cond_true,d1,e8C];exact ⟨_,_,rfl,d2.mono (by omega)⟩
theorem c0X{r:s6}{m:Nat}(h:Rd r m)(hm:m<=50000000):∃p r',a3v r=some (p,r')/\Rd r' (m+200)/\p.length<=10:=by
 obtain ⟨v,r1,a1,a2,a3,a4⟩:=G3 h (by omega) 3;unfold a3v;simp only [a1,e8C];cases v==0
 ·obtain ⟨k,r2,b1,b2,b3,b4⟩:=G3 a2 (by omega) 8;simp only [cond_false,b1,e8C];obtain ⟨x,hx,hq⟩:=b3m (body:=fun s:s6×(List o8)×Int=>b30 s.1 s.2.1 s.2.2)
   (fun j s=>s.2.2=(j:Int)/\j<=8/\Rd s.1 (m+2+10*(8-j))/\s.2.1.length+j<=8)
   (fun x=>match x with
    | .ret _=>False
    | .brk b=>Rd b.1 (m+200)/\b.2.length<=10)
   (by
    rintro j ⟨r,out,i⟩ ⟨q1,q2,q3,q4⟩
    simp only at q1 q3 q4 ⊢;subst q1;unfold b30;cases j with
    | zero=>exact ⟨_,rfl,q3.mono (by omega),by simp only;omega⟩
    | succ j =>
     obtain ⟨i,r',d1,d2⟩:=d9S q3 (by omega);have hpos:decide (((j+1:Nat):Int)>0)=true:=by simp
     have n1:(out.length+1)*32<=140737488355328:=by omega
     rw [hpos,cond_true,d1,e8C,t5 n1,B6 (by omega) (by omega)];exact ⟨_,rfl,j,by omega,by simp only;omega,by omega,d2.mono (by omega),by simp;omega⟩) (k:=k.toNat) (s:=(r2,[],k)) ⟨by simp only;omega,by omega,b2.mono (by omega),by simp;omega⟩
  rw [hx,e8C];cases x with
  | ret r=>cases hq
  | brk b=>exact ⟨_,_,rfl,hq.1,hq.2⟩
 ·obtain ⟨p1,r2,b1,b2,b3,b4⟩:=G3 a2 (by omega) 3;obtain ⟨p2,r3,c1,c2,c3,c4⟩:=G3 b2 (by omega) 3;obtain ⟨p3,r4,d1,d2,d3,d4⟩:=G3 c2 (by omega) 3;simp only [cond_true,b1,c1,d1,e8C];exact ⟨_,_,rfl,d2.mono (by omega),by simp⟩
def e4z(e:m4):Prop:=e.b8.b5.length<=40/\e.b8.b7.length<=40
def drawn(l:List m4):Prop:=l.length<=41/\∀e∈l,e4z e
theorem e3c{l:List m4}(h:z7 88 a1F l):b24 l=some (bif I3 l then (z5 l).1 else ⟨0,[],[]⟩):=by
 unfold b24;rw [c5W h,e8C];cases hok:I3 l
 ·rfl
 ·obtain ⟨hl,he⟩:=a6k hok;rw [e8H,cond_false,c5u h hl he];rfl
theorem e1s{l:List m4}(h:z7 88 a1F l)(hok:I3 l=true):b7F l=some (z5 l).1:=by
 obtain ⟨hl,he⟩:=a6k hok;have hf:t6 l:=h.fits (by decide);unfold b7F;rw [c5H,e8C,show (40:Int)=((40:Nat):Int) from rfl,a9w,decide_eq_true hl,e8H,cond_false];have hloop:=X3 (body:=fun s:(List q8)×Int×Int×List q9=>a8B l s.1 s.2.1 s.2.2.1 s.2.2.2) (fun k=>((z5 (l.take k)).1.g8,(k:Int),(z5 (l.take k)).1.At,(z5 (l.take k)).1.i9)) l.length (by
  intro k hk;obtain ⟨h1,h2,h3⟩:=a3C hl he k (by omega);have hek:=List.all_eq_true.1 he _ (e8F hk);have hfk:=h.2 _ (e8F hk);rw [a7b hk];unfold a8B;rw [w8 _ k hk,u0 hk,F3 hf hk];simp only [cond_true,e8C,a2A hfk,hek,e8H,cond_false];rw [show (⟨(z5 (l.take k)).1.At,(z5 (l.take k)).1.g8,(z5 (l.take k)).1.i9⟩:u6)=(z5 (l.take k)).1 from rfl,d1s h1 (by omega) hek hfk,e8C];rfl)
 rw [e9e,e85] at hloop;rw [show ((0:Nat):Int)=0 from rfl] at hloop;rw [show o9 (fun s:(List q8)×Int×Int×List q9=>a8B l s.1 s.2.1 s.2.2.1 s.2.2.2) (T4.g8,0,T4.At,T4.i9)=_ from hloop,C2 (b:=((z5 l).1.g8,(z5 l).1.At,(z5 l).1.i9))]
 ·rfl
 ·unfold a8B;rw [A3];rfl
theorem d4G{r:m9}(h:R6 r=true):a3a r.b7=true:=by
 rw [b2j] at h;simp only [e8G] at h;exact h.2.2.2.2.2
def e5a(l:List m4)(cs:List Int)(k:Nat):List p8:=match cs[k]?,l[k]? with
 | some c,some e=>bif c==0 then [e.a0] else []
 | _,_=>[]
def told(l:List m4)(cs:List Int):Nat->List p8
 | 0=>[]
 | k+1=>told l cs k++e5a l cs k
theorem a4E{ps:List n8}(h:ps.Pairwise fun p q=>p.i6≠q.i6)(b:Int):(ps.filter fun p=>p.i6==b).length<=1:=by
 have h2:=h.filter (fun p=>p.i6==b);cases hq:ps.filter fun p=>p.i6==b with
 | nil=>simp
 | cons x r =>
  cases r with
  | nil=>simp
  | cons y r =>
   rw [hq] at h2;have hne:=(e9G.1 h2).1 y (by simp);have hx:x∈ps.filter fun p=>p.i6==b:=by rw [hq];simp
   have hy:y∈ps.filter fun p=>p.i6==b:=by rw [hq];simp
   have hx:=(List.mem_filter.1 hx).2;have hy:=(List.mem_filter.1 hy).2;simp only [beq_iff_eq] at hx hy;omega
theorem c2P:∀{ps:List n8},(∀p∈ps,a2b p)->ps.length=(ps.filter fun p=>p.i6==0).length+(ps.filter fun p=>p.i6==1).length+(ps.filter fun p=>p.i6==2).length+(ps.filter fun p=>p.i6==3).length
 | [],_=>rfl
 | p::ps,h=>by
  have ih:=c2P (ps:=ps) fun x hx=>h x (by simp [hx])
  have hp:=h p (by simp);have:p.i6=0\/p.i6=1\/p.i6=2\/p.i6=3:=by
   have:=hp.1;have:=hp.2.1;omega
  simp only [List.filter_cons,e9l];rcases this with q|q|q|q<;>simp [q]<;>omega
theorem e2t{r:m9}(h:R6 r=true):r.b7.length<=4:=by
 have h1:=(b7q.1 (d4G h))
 have h2:=c2P h1.1;have a:=a4E h1.2 0;have b:=a4E h1.2 1;have c:=a4E h1.2 2;have d:=a4E h1.2 3;omega
theorem okEntries.s{l:List m4}(h:z7 88 D7 l):z7 88 a1F l:=h.imp fun _ x=>x.f
theorem a2Y(c x:Bool):(bif c then some x else some false)=some (c&&x):=by cases c<;>rfl
theorem b1V(c x:Bool):(bif c then some false else some x)=some (!c&&x):=by cases c<;>rfl
theorem d5f(n lo hi:Int):n9 n lo hi=(!decide (n<lo) && !decide (n>hi)):=by
 unfold n9;by_cases h1:n<lo<;>by_cases h2:n>hi<;>simp [h1,h2]<;>omega
theorem rng{α:Type}(n lo hi:Int)(X Y:α):(bif decide (n<lo) then Y else bif decide (n>hi) then Y else X)=bif n9 n lo hi then X else Y:=by
 rw [d5f];cases decide (n<lo)<;>cases decide (n>hi)<;>rfl
theorem c1m{α:Type}(n lo:Int)(X Y:α):(bif decide (n<lo) then Y else bif decide (n>=3) then Y else X)=bif n9 n lo 2 then X else Y:=by
 have e:decide (n>=3)=decide (n>2):=by
  by_cases h:n>2
  ·rw [decide_eq_true h,decide_eq_true (by omega)]
  ·rw [decide_eq_false h,decide_eq_false (by omega)]
 rw [<-rng,e]
theorem a3D(a b:Int):(!decide (a>b))=decide (a<=b):=by
 by_cases h:a<=b
 ·simp [h]
 ·simp [h];omega
theorem c4s{α:Type}(l:List α):decide ((l.length:Int)>0) = !((l.length:Int)==0):=by
 by_cases hp:l.length=0
 ·rw [decide_eq_false (by omega),show ((l.length:Int)==0)=true from by rw [hp];rfl];rfl
 ·rw [decide_eq_true (by omega),show ((l.length:Int)==0)=false from by rw [<-Bool.not_eq_true,beq_iff_eq];omega];rfl
theorem b2V{α:Type}[BEq α](a b:α):(!(a != b))=(a==b):=by simp [bne]
abbrev zE:m4:=⟨false,⟨0,0⟩,⟨[],[],0,0⟩⟩
def V9(a b:m4):Bool:=(a.i8==b.i8)&&((([a.a0.d6,a.a0.Seq]:List Int)==[b.a0.d6,b.a0.Seq])&&a3g a.b8 b.b8)
theorem b4o{a b:m4}(h:D7 a):Z1 a b=some (V9 a b):=by
 unfold Z1 V9;simp only [c0A h.f.2,e8C,a2Y]
theorem b8Y{e:m4}(h:D7 e):a4b e=some (V9 e zE):=by
 unfold a4b V9;simp only [c2S h.f.2,e8C,a2Y];cases e.i8<;>rfl
theorem a8f(n:Int):a0z n=some (n9 n 1 3000):=K9 n 1 3000
def Y1(v:m6):Bool:=bif v.a8==0 then V9 v.i0 zE else n9 v.a8 1 3000&&x9 v.i0
theorem d79{v:m6}(h:P7 v):b4h v=some (Y1 v):=by
 unfold b4h Y1;simp only [b4o h.2,K9,a4x h.2.f,e8C,a2Y];cases v.a8==0<;>rfl
theorem e40{v:m6}(h:P7 v):b3V v=some (Y1 v):=by
 unfold b3V Y1 V9;simp only [c2S h.2.f.2,a8f,a2A h.2.f,e8C,a2Y];cases v.a8==0<;>cases v.i0.i8<;>rfl
def K4(l:List m6):Bool:=decide (l.length<=40)&&l.all Y1
theorem b8C{l:List m6}(h:z7 96 P7 l):a5d l=some (K4 l):=by
 unfold a5d K4;rw [show (40:Int)=((40:Nat):Int) from rfl,a9w,O3 l (h.fits (by decide)) Y1 false ()]
 ·cases decide (l.length<=40)
  ·rfl
  ·cases l.all Y1<;>rfl
 ·intro k hk;unfold b7M;rw [w8 _ k hk,u0 hk];simp only [cond_true,e8C,e40 (h.2 _ (e8F hk))];cases Y1 l[k]<;>rfl
 ·unfold b7M;rw [A3];rfl
theorem b0V{l:List m6}(h:z7 96 P7 l):a4Y l=some (K4 l):=by
 unfold a4Y K4 b9A;rw [show (40:Int)=((40:Nat):Int) from rfl,c2t,O3 l (h.fits (by decide)) Y1 false ()]
 ·cases l.all Y1<;>cases decide (l.length<=40)<;>rfl
 ·intro k hk;unfold b33;rw [w8 _ k hk,u0 hk];simp only [cond_true,e8C,d79 (h.2 _ (e8F hk))];cases Y1 l[k]<;>rfl
 ·unfold b33;rw [A3];rfl
def N4(a:v6):Bool:=n9 a.i4 0 3000&&(K4 a.a5&&a.a5.all fun v => !decide (v.a8>a.i4))
theorem d7u{a:v6}(h:a5a a):b4P a=some (N4 a):=by
 unfold b4P N4;rw [rng,b8C h.2,O3 a.a5 (h.2.fits (by decide)) (fun v => !decide (v.a8>a.i4)) false ()]
 ·simp only [e8C];cases n9 a.i4 0 3000<;>cases K4 a.a5<;>cases a.a5.all (fun v => !decide (v.a8>a.i4))<;>rfl
 ·intro k hk;unfold b7H;rw [w8 _ k hk,u0 hk];simp only [cond_true,e8C];cases decide (a.a5[k].a8>a.i4)<;>rfl
 ·unfold b7H;rw [A3];rfl
theorem d0R{a:v6}(h:a5a a):a8O a=some (N4 a):=by
 unfold a8O N4;rw [O3 a.a5 (h.2.fits (by decide)) (fun v => !decide (v.a8>a.i4)) false ()]
 ·unfold c0m;simp only [K9,b0V h.2,e8C];cases n9 a.i4 0 3000<;>cases K4 a.a5<;>cases a.a5.all (fun v => !decide (v.a8>a.i4))<;>rfl
 ·intro k hk;unfold b3M;rw [w8 _ k hk,u0 hk];simp only [cond_true,e8C];cases decide (a.a5[k].a8>a.i4)<;>rfl
 ·unfold b3M;rw [A3];rfl
theorem d6H(i:o8):b3X i=some (O2 i):=by
 unfold b3X O2 a2m b6s;simp only [K9,e8C];cases i.a7==1<;>cases i.a7==2<;>cases i.a7==3<;>cases i.a7==4<;>cases i.a7==5<;>cases i.a7==6<;>cases i.a7==7<;>cases n9 i.A 0 3<;>cases n9 i.B 0 3<;>cases i.A==0<;>cases i.B==0<;>rfl
theorem b5x{l:List o8}(h:t6 l):a7V l=some (C7 l):=by
 unfold a7V C7 c1n;rw [show (10:Int)=((10:Nat):Int) from rfl,c2t,O3 l h O2 false ()]
 ·cases l.all O2<;>cases decide (l.length<=10)<;>rfl
 ·intro k hk;unfold b48;rw [w8 _ k hk,u0 hk];simp only [cond_true,e8C,d6H];cases O2 l[k]<;>rfl
 ·unfold b48;rw [A3];rfl
def V4(b:Int):Int:=bif n9 b 1 3000 then e81 b 3 else -1
theorem e5K(b:Int):a8d b=some (V4 b):=by
 unfold a8d V4;rw [a8f,e8C];cases n9 b 1 3000<;>rfl
theorem d11(b:Int):b0B b=some (V4 b):=by
 unfold b0B V4;rw [K9,e8C];cases n9 b 1 3000<;>rfl
def b3B(l:List Bool)(id:Int):Bool:=(idx l id).getD false
def a3V(l:List Bool)(id:Int):Bool:=((l.length:Int)==3)&&b3B l id
theorem c8O{l:List Bool}{id:Int}(h:n9 id 0 2=true)(hl:((l.length:Int)==3)=true):idx l id=some (b3B l id):=by
 unfold n9 at h;simp only [decide_eq_true_eq] at h;simp only [beq_iff_eq] at hl;unfold b3B idx;rw [if_pos h.1,e8D (by omega)];rfl
theorem e4C{l:List Bool}{id:Int}(h:n9 id 0 2=true)(x:Bool):(bif ((l.length:Int)==3) then (idx l id).bind fun y=>some (y&&x) else some false)=some (a3V l id&&x):=by
 unfold a3V;cases hl:((l.length:Int)==3)
 ·rfl
 ·rw [c8O h hl];rfl
theorem d8m{l:List Bool}{id:Int}(h:n9 id 0 2=true):b0Q l id=some (a3V l id):=by
 unfold b0Q a3V;cases hl:((l.length:Int)==3)
 ·rfl
 ·rw [c8O h hl];rfl
def a2E(n:j5):Bool:=V9 n.c8 zE&&((n.a5.length:Int)==0)
def a04(n:j5):Bool :=
  bif n.d9==0 then (n.a8==0)&&(((n.d7.length:Int)==0)&&(((n.g9.length:Int)==0)&&a2E n)) else
  (V4 n.a8==n.Id)&&(decide (n.a8<=n.Acc.i4)&&(K4 n.g9 &&
    (bif n.d9==1 then a3V n.d7 n.Id&&a2E n else
     bif n.d9==2 then ((n.d7.length:Int)==0)&&a2E n else
     bif n.d9==3 then ((n.d7.length:Int)==0)&&(x9 n.c8&&(a3V n.a5 n.Id&&decide ((n.a6.length:Int)<40))) else false)))
theorem c9f{n:j5}(h:n9 n.Id 0 2=true)(ho:(V4 n.a8==n.Id)=true):n9 n.a8 1 3000=true:=by
 cases hb:n9 n.a8 1 3000
 ·unfold V4 at ho;rw [hb] at ho;unfold n9 at h;simp only [decide_eq_true_eq,cond_false,beq_iff_eq] at h ho;omega
 ·rfl
theorem d47{n:j5}(h:Q1 n)(hId:n9 n.Id 0 2=true):b0P n=some (a04 n):=by
 have hj:b0P n=b4X n (a2E n):=by
  unfold b0P a2E;simp only [b4o h.2.2.2.2.2.2.2.2.1,e8C];cases V9 n.c8 zE<;>rfl
 rw [hj];unfold b4X a04;simp only [d11,b0V h.2.2.2.2.2.2.2.1,d8m hId,a4x h.2.2.2.2.2.2.2.2.1.f,e8C,a2Y];cases n.d9==0
 ·simp only [cond_false];cases n.d9==1<;>cases n.d9==2<;>cases n.d9==3<;>simp only [cond_true,cond_false,b1V,b2V,a3D,Bool.not_not]<;>(cases V4 n.a8==n.Id<;>cases decide (n.a8<=n.Acc.i4)<;>cases K4 n.g9<;>rfl)
 ·rfl
theorem d8I{n:j5}(h:Q1 n)(hId:n9 n.Id 0 2=true):b6W n=some (a04 n):=by
 unfold b6W a04;simp only [e5K,a8f,b8Y h.2.2.2.2.2.2.2.2.1,b8C h.2.2.2.2.2.2.2.1,a2A h.2.2.2.2.2.2.2.2.1.f,e8C,a2Y,b1V,e4C hId,b2V,a3D,Bool.not_not];have hb:=c9f (n:=n) hId;cases h0:n.d9==0
 ·cases h1:n.d9==1
  ·cases h2:n.d9==2
   ·cases h3:n.d9==3
    ·simp only [cond_false,Bool.and_false]
    ·simp only [cond_false,cond_true,b1V,b2V,a3D,Bool.not_not];cases ho:V4 n.a8==n.Id
     ·simp
     ·rw [hb ho];cases decide (n.a8<=n.Acc.i4)<;>cases K4 n.g9<;>cases ((n.d7.length:Int)==0)<;>rfl
   ·simp only [cond_false,cond_true,b1V,b2V,a3D,Bool.not_not];cases ho:V4 n.a8==n.Id
    ·simp
    ·rw [hb ho];unfold a2E;cases decide (n.a8<=n.Acc.i4)<;>cases K4 n.g9<;>cases ((n.d7.length:Int)==0)<;>rfl
  ·simp only [cond_false,cond_true,b1V,b2V,a3D,Bool.not_not];cases ho:V4 n.a8==n.Id
   ·simp
   ·rw [hb ho];unfold a2E;cases decide (n.a8<=n.Acc.i4)<;>cases K4 n.g9<;>cases a3V n.d7 n.Id<;>rfl
 ·unfold a2E;simp only [cond_true]
def a39(n:j5):Bool :=
 bif n.i7 then C7 n.i5&&(x9 n.b6&&(!n.b6.i8&&(([n.b6.a0.d6,n.b6.a0.Seq]:List Int)==[n.Id,n.Seq]))) else ((n.i5.length:Int)==0)&&V9 n.b6 zE
theorem e7B{n:j5}(h:Q1 n):b6f n=some (a39 n):=by
 unfold b6f a39;have hw:=h.2.2.2.2.2.2.2.2.2.2.2.1;simp only [b8Y hw,b5L (h.2.2.2.2.2.2.2.2.2.2.1.fits (by decide)),a2A hw.f,e8C,a2Y];cases n.i7<;>rfl
def b64(l:List m4):Bool:=l.all fun e=>x9 e && !e.i8
def C5(n:j5):Bool:=n9 n.Id 0 2&&(N4 n.Acc&&(I3 n.a6&&(n9 n.Seq 0 1000&&(decide ((n.d8.length:Int)<=4)&&(a04 n&&(a39 n&&b64 n.d8))))))
theorem a8o{n:j5}(h:Q1 n):a4a n=some (C5 n):=by
 unfold a4a C5;rw [c1m];cases hId:n9 n.Id 0 2
 ·rfl
 ·rw [rng,d7u h.2.1,e4A (okEntries.s h.2.2.1),d8I h hId,e7B h,O3 n.d8 (h.2.2.2.2.2.2.2.2.2.2.2.2.fits (by decide)) (fun e=>x9 e && !e.i8) false ()]
  ·unfold b64 c0C;rw [<-a3D];simp only [e8C,cond_true];cases N4 n.Acc<;>cases I3 n.a6<;>cases n9 n.Seq 0 1000<;>cases decide ((n.d8.length:Int)>4)<;>cases a04 n<;>cases a39 n<;>cases n.d8.all (fun e=>x9 e && !e.i8)<;>rfl
  ·intro k hk;unfold b7A;rw [w8 _ k hk,u0 hk];simp only [cond_true,e8C,a2A ((h.2.2.2.2.2.2.2.2.2.2.2.2).2 _ (e8F hk)).f];cases x9 n.d8[k]<;>cases n.d8[k].i8<;>rfl
  ·unfold b7A;rw [A3];rfl
theorem a6G{n:j5}(h:Q1 n):a3m n=some (C5 n):=by
 unfold a3m C5;rw [K9,e8C];cases hId:n9 n.Id 0 2
 ·rfl
 ·have hw:=h.2.2.2.2.2.2.2.2.2.2.2.1;have hk3:b3s n=some (a39 n&&a04 n):=by
   unfold b3s b8O a39;simp only [b5x (h.2.2.2.2.2.2.2.2.2.2.1.fits (by decide)),a4x hw.f,b4o hw,d47 h hId,e8C];cases n.i7
   ·rw [c4s];cases ((n.i5.length:Int)==0)<;>cases V9 n.b6 zE<;>rfl
   ·cases C7 n.i5<;>cases x9 n.b6<;>cases n.b6.i8<;>cases (([n.b6.a0.d6,n.b6.a0.Seq]:List Int)==[n.Id,n.Seq])<;>rfl
  rw [d0R h.2.1,c5W (okEntries.s h.2.2.1),K9,hk3,O3 n.d8 (h.2.2.2.2.2.2.2.2.2.2.2.2.fits (by decide)) (fun e=>x9 e && !e.i8) false ()]
  ·unfold b64;rw [<-a3D];simp only [e8C,e8H,cond_false];cases N4 n.Acc<;>cases I3 n.a6<;>cases n9 n.Seq 0 1000<;>cases decide ((n.d8.length:Int)>4)<;>cases a04 n<;>cases a39 n<;>cases n.d8.all (fun e=>x9 e && !e.i8)<;>rfl
  ·intro k hk;unfold b41;rw [w8 _ k hk,u0 hk];simp only [cond_true,e8C,a4x ((h.2.2.2.2.2.2.2.2.2.2.2.2).2 _ (e8F hk)).f];cases x9 n.d8[k]<;>cases n.d8[k].i8<;>rfl
  ·unfold b41;rw [A3];rfl
def a5B(m:j7):Bool :=
 let bal:=n9 m.a8 1 3000;let non:=V9 m.i0 zE;let nv:=(m.a5.length:Int)==0;bif m.a7==1 then bal&&(non&&nv) else
 bif m.a7==4 then bal&&(non&&nv) else
 bif m.a7==2 then bal&&(non&&(K4 m.a5&&decide (m7 (m.g7+(m.a5.length:Int))<=40))) else
 bif m.a7==3 then bal&&(decide (m.g7<40)&&(x9 m.i0&&nv)) else
 bif m.a7==5 then (m.a8==0)&&(decide (m.g7<40)&&(x9 m.i0&&nv)) else
 bif m.a7==6 then bal&&((m.g7==0)&&(non&&nv)) else
 bif m.a7==7 then (m.a8==0)&&((m.g7==0)&&(x9 m.i0&&(!m.i0.i8&&nv))) else
 bif m.a7==8 then (m.a8==0)&&(non&&nv) else false
def N3(m:j7):Bool:=n9 m.d7 0 2&&(n9 m.To 0 2&&(!(m.d7==m.To)&&(n9 m.g7 0 40&&a5B m)))
theorem d17{m:j7}(h:X9 m):b0H m=some (N3 m):=by
 unfold b0H N3 a5B;have he:=h.2.2.2.2.2.1;simp only [K9,b4o he,a4x he.f,b0V h.2.2.2.2.2.2,e8C,a2Y];cases n9 m.d7 0 2
 ·rfl
 cases n9 m.To 0 2
 ·rfl
 cases m.d7==m.To;case true=>rfl
 cases n9 m.g7 0 40
 ·rfl
 cases m.a7==1<;>cases m.a7==4<;>cases m.a7==2<;>cases m.a7==3<;>cases m.a7==5<;>cases m.a7==6<;>cases m.a7==7<;>cases m.a7==8<;>rfl
theorem e0k{m:j7}(h:X9 m):b7f m=some (N3 m):=by
 unfold b7f N3;have he:=h.2.2.2.2.2.1;have hj2:b7V m=b0a m (V9 m.i0 zE) (x9 m.i0&&decide (m.g7<40)):=by
  unfold b7V;simp only [b8Y he,a2A he.f,e8C];cases x9 m.i0<;>rfl
 have hj:∀nv:Bool,nv=((m.a5.length:Int)==0)->(m.a7==2||nv)=true->b0a m (V9 m.i0 zE) (x9 m.i0&&decide (m.g7<40))=some (a5B m):=by
  intro nv hnv hk;unfold b0a a5B;simp only [a8f,b8C h.2.2.2.2.2.2,a2A he.f,e8C,a2Y];rw [<-hnv];cases h1:m.a7==1;case true =>
   have:(m.a7==2)=false:=by
    simp only [beq_iff_eq] at h1;rw [h1];rfl
   rw [this,e9a] at hk;simp only [cond_true,hk,e9B]
  cases h2:m.a7==2;case true =>
   cases h4:m.a7==4
   ·rfl
   ·simp only [beq_iff_eq] at h2 h4;omega
  rw [h2,e9a] at hk;subst hk;cases h3:m.a7==3;case true =>
   cases h4:m.a7==4
   ·simp only [cond_true,cond_false,e9B];cases n9 m.a8 1 3000<;>cases x9 m.i0<;>cases decide (m.g7<40)<;>rfl
   ·simp only [beq_iff_eq] at h3 h4;omega
  cases h4:m.a7==4;case true=>simp only [cond_true,cond_false,e9B]
  simp only [cond_false];cases m.a7==5;case true =>
   simp only [cond_true,e9B];cases m.a8==0<;>cases x9 m.i0<;>cases decide (m.g7<40)<;>rfl
  simp only [cond_false];cases m.a7==6;case true =>
   simp only [cond_true,e9B];cases n9 m.a8 1 3000<;>cases V9 m.i0 zE<;>cases m.g7==0<;>rfl
  cases m.a7==7<;>cases m.a7==8<;>simp only [cond_true,cond_false,e9B,e8V,Bool.false_and]
 rw [hj2,c1m];cases n9 m.d7 0 2
 ·rfl
 simp only [cond_true,e8V];rw [c1m];cases n9 m.To 0 2
 ·rfl
 simp only [cond_true,e8V];cases m.d7==m.To;case true=>rfl
 simp only [cond_false,e8W,e8V];rw [rng];cases n9 m.g7 0 40
 ·rfl
 simp only [cond_true,e8V];rw [c4s];cases h2:m.a7==2
 ·rw [show (m.a7 != 2)=true from by rw [bne,h2];rfl];cases hv:((m.a5.length:Int)==0)
  ·show some false=_
   have:a5B m=false:=by
    unfold a5B;rw [h2,hv];simp
   rw [this]
  ·exact hj true hv.symm (by simp)
 ·rw [show (m.a7 != 2)=false from by rw [bne,h2];rfl];exact hj _ rfl (by rw [h2];rfl)
def Q4(t:m8):Bool:=n9 t.Node 0 2&&((n9 t.a0.d6 0 2&&n9 t.a0.Seq 1 1000)&&((t.a0.d6==t.Node)&&(n9 t.Code 0 4&&n9 t.f0 (-1000000) 1000000)))
theorem d9w(t:m8):b7h t=some (Q4 t):=by
 unfold b7h Q4;simp only [b79,a4U,e8C,a2Y];have e1:n9 t.Node 0 2=(decide (t.Node>=0)&&decide (t.Node<3)):=by
  unfold n9;by_cases h1:t.Node>=0<;>by_cases h2:t.Node<3<;>simp [h1,h2]<;>omega
 have e2:n9 t.Code 0 4=(decide (t.Code>=0)&&decide (t.Code<=4)):=by
  unfold n9;by_cases h1:t.Code>=0<;>by_cases h2:t.Code<=4<;>simp [h1,h2]<;>omega
 rw [e1,e2];simp only [e99]
def X5(x:u5):Bool:=(n9 x.a0.d6 0 2&&n9 x.a0.Seq 1 1000)&&C7 x.i5
def a4n(w:m5)(k:Nat):Bool:=match w.a9[k]? with
 | some n=>(n.Id==(k:Int))&&C5 n
 | none=>true
def L0(w:m5):Bool:=((w.a9.length:Int)==3)&&(decide ((w.b9.length:Int)<=40)&&(decide ((w.c9.length:Int)<=60)&&(decide ((w.Told.length:Int)<=60)&&((e8M w.a9.length).all (a4n w)&&(w.b9.all N3&&(w.c9.all X5&&w.Told.all Q4))))))
theorem c5Z{w:m5}(h:a2C w):b2C w=some (L0 w):=by
 have k7:b5v w=some (w.Told.all Q4):=by
  unfold b5v;rw [O3 w.Told (h.2.2.2.fits (by decide)) Q4 false ()]
  ·cases w.Told.all Q4<;>rfl
  ·intro k hk;unfold b62;rw [w8 _ k hk,u0 hk];simp only [cond_true,e8C,d9w];cases Q4 w.Told[k]<;>rfl
  ·unfold b62;rw [A3];rfl
 have k9:b3n w=some (w.c9.all X5&&w.Told.all Q4):=by
  unfold b3n;rw [O3 w.c9 (h.2.2.1.fits (by decide)) X5 false ()]
  ·rw [k7];cases w.c9.all X5<;>rfl
  ·intro k hk;unfold b6C;rw [w8 _ k hk,u0 hk];simp only [cond_true,e8C,b79,b5L ((h.2.2.1.2 _ (e8F hk)).2.fits (by decide))];unfold X5;cases n9 w.c9[k].a0.d6 0 2&&n9 w.c9[k].a0.Seq 1 1000<;>cases C7 w.c9[k].i5<;>rfl
  ·unfold b6C;rw [A3];rfl
 have k11:b7e w=some (w.b9.all N3&&(w.c9.all X5&&w.Told.all Q4)):=by
  unfold b7e;rw [O3 w.b9 (h.2.1.fits (by decide)) N3 false ()]
  ·rw [k9];cases w.b9.all N3<;>rfl
  ·intro k hk;unfold b4p;rw [w8 _ k hk,u0 hk];simp only [cond_true,e8C,e0k (h.2.1.2 _ (e8F hk))];cases N3 w.b9[k]<;>rfl
  ·unfold b4p;rw [A3];rfl
 unfold b2C L0;rw [a5K w.a9 (h.1.fits (by decide)) (a4n w) false ()]
 ·rw [k11];simp only [<-a3D];rw [show ((w.a9.length:Int)==3) = !((w.a9.length:Int) != 3) from by simp [bne]];cases ((w.a9.length:Int) != 3)<;>cases decide ((w.b9.length:Int)>40)<;>cases decide ((w.c9.length:Int)>60)<;>cases decide ((w.Told.length:Int)>60)<;>cases (e8M w.a9.length).all (a4n w)<;>rfl
 ·intro k hk _;unfold b5K;rw [w8 _ k hk,u0 hk];simp only [cond_true,e8C,a8o (h.1.2 _ (e8F hk)),a4n,e8D hk,bne];cases w.a9[k].Id==(k:Int)<;>cases C5 w.a9[k]<;>rfl
 ·unfold b5K;rw [A3];rfl
theorem d39{w:m5}(h:a2C w):b3e w=some (L0 w):=by
 have k7:b5f w=some (w.Told.all Q4):=by
  unfold b5f;rw [O3 w.Told (h.2.2.2.fits (by decide)) Q4 false ()]
  ·cases w.Told.all Q4<;>rfl
  ·intro k hk;unfold b3H;rw [w8 _ k hk,u0 hk];simp only [cond_true,e8C,K9,b5F];unfold Q4;rw [show (w.Told[k].a0.d6==w.Told[k].Node) = !(w.Told[k].a0.d6 != w.Told[k].Node) from by simp [bne]];cases n9 w.Told[k].Node 0 2<;>cases n9 w.Told[k].a0.d6 0 2&&n9 w.Told[k].a0.Seq 1 1000<;>cases (w.Told[k].a0.d6 != w.Told[k].Node)<;>cases n9 w.Told[k].Code 0 4<;>cases n9 w.Told[k].f0 (-1000000) 1000000<;>rfl
  ·unfold b3H;rw [A3];rfl
 have k9:b7C w=some (w.c9.all X5&&w.Told.all Q4):=by
  unfold b7C;rw [O3 w.c9 (h.2.2.1.fits (by decide)) X5 false ()]
  ·rw [k7];cases w.c9.all X5<;>rfl
  ·intro k hk;unfold b31;rw [w8 _ k hk,u0 hk];simp only [cond_true,e8C,b5F,b5x ((h.2.2.1.2 _ (e8F hk)).2.fits (by decide))];unfold X5;cases n9 w.c9[k].a0.d6 0 2&&n9 w.c9[k].a0.Seq 1 1000<;>cases C7 w.c9[k].i5<;>rfl
  ·unfold b31;rw [A3];rfl
 have k11:b4S w=some (w.b9.all N3&&(w.c9.all X5&&w.Told.all Q4)):=by
  unfold b4S;rw [O3 w.b9 (h.2.1.fits (by decide)) N3 false ()]
  ·rw [k9];cases w.b9.all N3<;>rfl
  ·intro k hk;unfold b6e;rw [w8 _ k hk,u0 hk];simp only [cond_true,e8C,d17 (h.2.1.2 _ (e8F hk))];cases N3 w.b9[k]<;>rfl
  ·unfold b6e;rw [A3];rfl
 unfold b3e L0;rw [a5K w.a9 (h.1.fits (by decide)) (a4n w) false ()]
 ·rw [k11];simp only [<-a3D];rw [show ((w.a9.length:Int)==3) = !((w.a9.length:Int) != 3) from by simp [bne]];cases ((w.a9.length:Int) != 3)<;>cases decide ((w.b9.length:Int)>40)<;>cases decide ((w.c9.length:Int)>60)<;>cases decide ((w.Told.length:Int)>60)<;>cases (e8M w.a9.length).all (a4n w)<;>rfl
 ·intro k hk _;unfold b3r;rw [w8 _ k hk,u0 hk];simp only [cond_true,e8C,a6G (h.1.2 _ (e8F hk)),a4n,e8D hk,bne];cases w.a9[k].Id==(k:Int)<;>cases C5 w.a9[k]<;>rfl
 ·unfold b3r;rw [A3];rfl
theorem c8U{α:Type}{p:List α->List α->Nat->Bool}(hp:∀(a b:List α) (k:Nat) (x y:α),a[k]?=some x->b[k]?=some y->(p a b k=true↔x=y))(a b:List α):(a.length==b.length&&(e8M a.length).all (p a b))=true↔a=b:=by
 constructor
 ·intro h;simp only [e8G,beq_iff_eq,List.all_eq_true,e9u] at h;refine List.ext_getElem h.1 fun i h1 h2 => ?_
  exact (hp a b i _ _ (e8D h1) (e8D h2)).1 (h.2 i h1)
 ·rintro rfl
  simp only [e8G,beq_iff_eq,List.all_eq_true,e9u,true_and];intro k hk;exact (hp a a k _ _ (e8D hk) (e8D hk)).2 rfl
theorem c1Y(a b:m9):a3g a b=true↔a=b:=by
 have h1:=c8U (p:=a1H) (fun a b k x y hx hy=>by
  unfold a1H;rw [hx,hy];cases x;cases y;simp) a.b5 b.b5
 have h2:=c8U (p:=a1o) (fun a b k x y hx hy=>by
  unfold a1o;rw [hx,hy];cases x;cases y;simp) a.b7 b.b7
 unfold a3g;rw [e8G,h1,e8G,h2,e8G,beq_iff_eq,beq_iff_eq];cases a;cases b;simp
theorem a3J(a b:m4):V9 a b=true↔a=b:=by
 unfold V9;rw [e8G,e8G,c1Y];obtain ⟨n,⟨q1,q2⟩,r⟩:=a;obtain ⟨n',⟨q1',q2'⟩,r'⟩:=b;simp [and_assoc]
theorem J1{n lo hi:Int}:n9 n lo hi=true↔lo<=n/\n<=hi:=by unfold n9;simp
theorem e8t{l:List p7}(h:z7 16 c8d l):a1W l=some l:=by
 have hb:=h.1;unfold a1W;cases hl:((l.length:Int)==0)
 ·rw [cond_false,t5 (by constructor<;>omega),t5 (by simp)]
 ·simp only [beq_iff_eq] at hl;have:l=[]:=e8N (by omega);rw [this];rfl
theorem d63{l:List n8}(h:z7 16 c5m l):a6F l=some l:=by
 have hb:=h.1;unfold a6F;cases hl:((l.length:Int)==0)
 ·rw [cond_false,t5 (by constructor<;>omega),t5 (by simp)]
 ·simp only [beq_iff_eq] at hl;have:l=[]:=e8N (by omega);rw [this];rfl
theorem b1Z{e:m4}(h:D7 e):a5r e=some e:=by
 unfold a5r c1K;rw [e8t h.2.1,e8C,d63 h.2.2.1];rfl
theorem a0m{e:m4}(h:D7 e):U7 e=some e:=by
 have h1:=h.2.1.1;have h2:=h.2.2.1.1;unfold U7 b9M;rw [t5 (by simp;omega),t5 (by simp;omega)];rfl
theorem e7r{l:List m4}(h:z7 88 D7 l):b3W l=some l:=by
 have hb:=h.1;unfold b3W;cases hl:((l.length:Int)==0)
 ·rw [cond_false,t5 (by constructor<;>omega),t5 (by simp)]
 ·simp only [beq_iff_eq] at hl;have:l=[]:=e8N (by omega);rw [this];rfl
theorem c61{l:List m4}(h:z7 88 D7 l):b20 l=some l:=by
 have hf:t6 l:=h.fits (by decide);unfold b20;rw [e7r h,e8C];have hl:=X3 (body:=fun s:(List m4)×Int=>b2v l s.1 s.2) (fun k=>(l,(k:Int))) l.length (by
  intro k hk;unfold b2v;rw [w8 _ k hk,u0 hk];simp only [cond_true,e8C,b1Z (h.2 _ (e8F hk)),F3 hf hk,e82,f0a])
 rw [show ((0:Nat):Int)=0 from rfl] at hl;rw [hl,C2 (b:=l)]
 ·rfl
 ·unfold b2v;rw [A3];rfl
theorem d0z{l:List m4}(h:z7 88 D7 l):b0N l=some l:=by
 have hf:t6 l:=h.fits (by decide);have hb:=h.1;unfold b0N;have hl:=X3 (body:=fun s:(List m4)×Int=>b0S l s.1 s.2) (fun k=>(l.take k,(k:Int))) l.length (by
  intro k hk;unfold b0S;rw [w8 _ k hk,u0 hk];simp only [cond_true,e8C,a0m (h.2 _ (e8F hk)),F3 hf hk];rw [t5 (by rw [e83];omega),e87 hk])
 rw [show ((0:Nat):Int)=0 from rfl,e9e] at hl;rw [hl,e85,C2 (b:=l)]
 ·rfl
 ·unfold b0S;rw [A3];rfl
def best(w:m5):Nat->Nat
 | 0=>0
 | k+1=>match w.a9[k]?,w.a9[best w k]? with
  | some a,some b=>bif decide ((a.a6.length:Int)>(b.a6.length:Int)) then k else best w k
  | _,_=>best w k
def G4(q:p8)(e:m4):Bool := !e.i8&&(([e.a0.d6,e.a0.Seq]:List Int)==[q.d6,q.Seq])
theorem b6r{α R S B:Type}{body:S->Option (l7 R S B)}(st:Nat->S)(l:List α)(is:α->Bool)(r:Nat->R)(b:B)(h1:∀(k:Nat) (h:k<l.length),body (st k)=some (bif is l[k] then .ret (r k) else .nxt (st (k+1))))(h2:body (st l.length)=some (.brk b)) :
  o9 body (st 0)=some (match l.findIdx? is with|some k=>.ret (r k)|none=>.brk b):=by
 rcases a47 (body:=body) st l.length (fun k=>match l[k]? with|some x => !is x|none=>true) r b
  (fun k hk _=>by
   rw [h1 k hk,e8D hk];simp only;cases is l[k]<;>rfl) (fun _=>h2) with ⟨h,hall⟩|⟨k,hk,ho,hb,h⟩
 ·have:l.findIdx? is=none:=by
   rw [List.findIdx?_eq_none_iff];intro x hx;obtain ⟨i,hi,rfl⟩:=e9s hx;have:=hall i hi;rw [e8D hi] at this;simpa using this
  rw [this];exact h
 ·have:l.findIdx? is=some k:=by
   rw [e9C];refine ⟨hk,?_,fun j hj => ?_⟩
   ·rw [e8D hk] at ho;simpa using ho
   ·have:=hb j hj;rw [e8D (show j<l.length by omega)] at this;simpa using this
  rw [this];exact h
theorem c20{l:List m4}(h:t6 l)(q:p8):a8q l q=some (match l.findIdx? (G4 q) with|some k=>(k:Int)|none => -1):=by
  unfold a8q;rw [show o9 (fun s:Int=>a8k l q s) 0=_ from b6r (body:=fun s:Int=>a8k l q s) (fun k=>(k:Int)) l (G4 q) (fun k=>(k:Int)) () (by
      intro k hk;unfold a8k b8t G4;rw [w8 _ k hk,u0 hk,<-F3 h hk];simp only [cond_true,e8C];cases l[k].i8<;>cases (([l[k].a0.d6,l[k].a0.Seq]:List Int)==[q.d6,q.Seq])<;>rfl) (by
      unfold a8k;rw [A3];rfl)]
  cases l.findIdx? (G4 q)<;>rfl
theorem c7S{l:List m4}(hl:l.length<=40)(he:l.all x9=true){k:Nat}(hk:k<l.length):(z5 l).2[k]?=some (apply (z5 (l.take k)).1 l[k]).2:=by
 have key:∀m,k<m->m<=l.length->(z5 (l.take m)).2[k]?=some (apply (z5 (l.take k)).1 l[k]).2:=by
  intro m;induction m with
  | zero=>omega
  | succ m ih =>
   intro h1 h2;have hlen:=(a3C hl he m (by omega)).2.1;rw [a7b (show m<l.length by omega)];unfold b1J;simp only;by_cases q:k<m
   ·rw [e8Y (by omega)];exact ih q (by omega)
   ·have:k=m:=by omega
    subst this;rw [e8T (by omega),hlen];simp
 have:=key l.length hk (e9h _);rwa [e85] at this
def Q8(l:List m4)(k:Nat):Int:=(z5 l).2[k]?.getD 0
theorem b77{α B R:Type}{body:Int->Option (l7 R Int B)}(l:List α)(hl:t6 l)(ok:α->Bool)(v:R)(b:B)(h1:∀(k:Nat) (h:k<l.length),body (k:Int)=some (bif ok l[k] then .nxt (m7 ((k:Int)+1)) else .ret v))(h2:body (l.length:Int)=some (.brk b)):o9 body 0=some (bif l.all ok then .brk b else .ret v):=by
 have h:=a47 (body:=body) (fun k=>(k:Int)) l.length (fun k=>match l[k]? with|some x=>ok x|none=>true) (fun _=>v) b
  (fun k hk _=>by
   have:=h1 k hk;rw [F3 hl hk] at this;simpa [e8D hk] using this) (fun _=>h2)
 rcases h with ⟨h,hall⟩|⟨k,hk,ho,_,h⟩
 ·have:l.all ok=true:=by
   rw [List.all_eq_true];intro x hx;obtain ⟨i,hi,rfl⟩:=e9s hx;have:=hall i hi;simpa [e8D hi] using this
  rw [this];exact h
 ·have:l.all ok=false:=by
   rw [e95];refine ⟨l[k],e8F hk,?_⟩;simpa [e8D hk] using ho
  rw [this];exact h
theorem b2t{l:List p7}(h:l.length<=1000):a1W l=some l:=by
 unfold a1W;cases hl:((l.length:Int)==0)
 ·rw [cond_false,t5 (by constructor<;>omega),t5 (by simp)]
 ·simp only [beq_iff_eq] at hl;have:l=[]:=e8N (by omega);rw [this];rfl
theorem d3k{l:List n8}(h:l.length<=1000):a6F l=some l:=by
 unfold a6F;cases hl:((l.length:Int)==0)
 ·rw [cond_false,t5 (by constructor<;>omega),t5 (by simp)]
 ·simp only [beq_iff_eq] at hl;have:l=[]:=e8N (by omega);rw [this];rfl
def a0i(ps:List n8)(b:Int):Option Nat:=ps.findIdx? (·.i6==b)
def atI:Option Nat->Int
 | some k=>(k:Int)
 | none => -1
theorem d2v{l:List n8}(h:t6 l)(b:Int):a2g l b=some (atI (a0i l b)):=by
 unfold a2g;rw [show (0:Int)=((0:Nat):Int) from rfl,b6r (body:=fun s:Int=>a05 l b s) (fun k=>(k:Int)) l (·.i6==b) (fun k=>(k:Int)) ()]
 ·unfold a0i;cases l.findIdx? (·.i6==b)<;>rfl
 ·intro k hk;unfold a05;rw [w8 _ k hk,u0 hk,F3 h hk];simp only [cond_true,e8C];cases l[k].i6==b<;>rfl
 ·unfold a05;rw [A3];rfl
theorem c6o{x:m9}(h:t6 x.b7)(b:Int):a91 x b=some (atI (a0i x.b7 b)):=by
 unfold a91;rw [show (0:Int)=((0:Nat):Int) from rfl,b6r (body:=fun s:Int=>b0h x b s) (fun k=>(k:Int)) x.b7 (·.i6==b) (fun k=>(k:Int)) ()]
 ·unfold a0i;cases x.b7.findIdx? (·.i6==b)<;>rfl
 ·intro k hk;unfold b0h;rw [w8 _ k hk,u0 hk,F3 h hk];simp only [cond_true,e8C];cases x.b7[k].i6==b<;>rfl
 ·unfold b0h;rw [A3];rfl
theorem b7u{ps:List n8}{b:Int}{k:Nat}(h:a0i ps b=some k):k<ps.length:=by
 obtain ⟨hk,_⟩:=e9C.1 h;exact hk
theorem b5t(k:Nat):decide (atI (some k)>=0)=true:=by simp [atI]
theorem b5O:decide (atI none>=0)=false:=by simp [atI]
theorem e7h{x:m9}(h:t6 x.b5)(b:Int):∃v,b0n x b=some v/\decide (v<0) = !(L2 x.b5 b):=by
 obtain ⟨v,h1,h2⟩:=e3X h b;refine ⟨v,h1,?_⟩;rw [<-h2];by_cases q:v>=0
 ·have:¬v<0:=by omega
  simp [q,this]
 ·have:v<0:=by omega
  simp [q,this]
def I0(v:Int):Bool:=n9 v (-1000000) 1000000
def H9(regs:List Int)(a:Int):Int:=regs.getD a.toNat 0
theorem J4{regs:List Int}(h:regs.length=4){a:Int}(ha:0<=a/\a<=3):idx regs a=some (H9 regs a):=by
 obtain ⟨k,rfl⟩:=Int.eq_ofNat_of_zero_le ha.1;have hk:k<regs.length:=by omega
 rw [u0 hk];unfold H9;simp [hk]
theorem e0M{regs:List Int}(h:regs.length=4){a v:Int}(ha:0<=a/\a<=3):H9 (regs.set a.toNat v) a=v:=by
 unfold H9;have:a.toNat<regs.length:=by omega
 simp [this]
theorem d3b{regs:List Int}(h:regs.length=4)(hr:regs.all I0=true){a v:Int}(ha:0<=a/\a<=3):(regs.set a.toNat v).all I0=I0 v:=by
 cases hv:I0 v
 ·rw [e95];exact ⟨v,e8P (i:=a.toNat) (by rw [e9v (by omega)]),by simp [hv]⟩
 ·rw [List.all_eq_true] at hr ⊢;intro x hx;rcases List.mem_or_eq_of_mem_set hx with hx|rfl
  ·exact hr x hx
  ·exact hv
theorem a3G{regs:List Int}(h:regs.length=4)(hr:regs.all I0=true){a:Int}(ha:0<=a/\a<=3):-1000000<=H9 regs a/\H9 regs a<=1000000:=by
 have hi:=J4 h ha;have hm:H9 regs a∈regs:=e8P (b5H hi).2.2;have:=List.all_eq_true.1 hr _ hm;simpa [I0,n9] using this
structure EI(regs:List Int)(rs:List p7)(ps:List n8)(k:Nat):Prop where
 len:regs.length=4
 rng:regs.all I0=true
 rl:rs.length<=k
 pl:ps.length<=k
theorem EI.fr{regs:List Int}{rs:List p7}{ps:List n8}{k:Nat}(h:EI regs rs ps k)(hk:k<=100):t6 rs:=by
 have:=h.rl;unfold t6;omega
theorem EI.fp{regs:List Int}{rs:List p7}{ps:List n8}{k:Nat}(h:EI regs rs ps k)(hk:k<=100):t6 ps:=by
 have:=h.pl;unfold t6;omega
def H3(l:List q8)(i:o8)(regs:List Int)(rs:List p7)(ps:List n8):List Int×List p7×List n8 :=
 bif i.a7==1 then (match a0i ps i.B with
  | some k=>(match ps[k]? with
   | some p=>(regs.set i.A.toNat p.f0,rs,ps)
   | none=>(regs,rs,ps))
  | none=>match l[i.B.toNat]? with
   | some b=>(regs.set i.A.toNat b.f0,bif L2 rs i.B then rs else rs++[⟨i.B,b.j3⟩],ps)
   | none=>(regs,rs,ps))
 else bif i.a7==2 then (regs,rs,match a0i ps i.A with
  | some k=>(match ps[k]? with
   | some p=>ps.set k ⟨p.i6,H9 regs i.B⟩
   | none=>ps)
  | none=>ps++[⟨i.A,H9 regs i.B⟩])
 else bif i.a7==3 then (regs.set i.A.toNat i.N,rs,ps)
 else bif i.a7==4 then (regs.set i.A.toNat (H9 regs i.A+H9 regs i.B),rs,ps)
 else bif i.a7==5 then (regs.set i.A.toNat (H9 regs i.A-H9 regs i.B),rs,ps)
 else (regs,rs,ps)
def a1K(l:List q8)(prog:List o8):Nat->Nat->List Int->List p7->List n8->m9
 | 0,_,regs,rs,ps=>⟨rs,ps,H9 regs 0,0⟩
 | f+1,k,regs,rs,ps=>match prog[k]? with
  | none=>⟨rs,ps,H9 regs 0,0⟩
  | some i=>bif i.a7==6 then a1K l prog f (bif decide (H9 regs i.A<H9 regs i.B) then k+i.N.toNat+1 else k+1) regs rs ps
   else bif i.a7==7 then ⟨rs,[],0,1⟩
   else bif (H3 l i regs rs ps).1.all I0 then a1K l prog f (k+1) (H3 l i regs rs ps).1 (H3 l i regs rs ps).2.1 (H3 l i regs rs ps).2.2
   else ⟨(H3 l i regs rs ps).2.1,[],0,2⟩
def E5(l:List q8)(prog:List o8):m9:=bif F4 l&&C7 prog then a1K l prog (prog.length+1) 0 [0,0,0,0] [] [] else ⟨[],[],0,3⟩
section
variable {l:List q8} {regs:List Int} {rs:List p7} {ps:List n8} {k:Nat} {i:o8}
theorem c67(h:regs.length=4):(H3 l i regs rs ps).1.length=4:=by
 unfold H3;cases i.a7==1<;>cases i.a7==2<;>cases i.a7==3<;>cases i.a7==4<;>cases i.a7==5<;>simp only [cond_true,cond_false,e9N,h]
 all_goals
  split
  ·split<;>simp [h]
  ·split<;>simp [h]
theorem e0A(h:rs.length<=k):(H3 l i regs rs ps).2.1.length<=k+1:=by
 unfold H3;cases i.a7==1<;>cases i.a7==2<;>cases i.a7==3<;>cases i.a7==4<;>cases i.a7==5<;>simp only [cond_true,cond_false]<;>try omega
 all_goals
  split
  ·split<;>(simp only;omega)
  ·split
   ·cases L2 rs i.B<;>simp only [cond_true,cond_false,e8O,e9z]<;>omega
   ·simp only;omega
theorem e2N(h:ps.length<=k):(H3 l i regs rs ps).2.2.length<=k+1:=by
 unfold H3;cases i.a7==1<;>cases i.a7==2<;>cases i.a7==3<;>cases i.a7==4<;>cases i.a7==5<;>simp only [cond_true,cond_false]<;>try omega
 all_goals (repeat' split)
 all_goals (try simp only [e9N,e8O,e9z])
 all_goals omega
theorem EI.next(h:EI regs rs ps k)(ha:(H3 l i regs rs ps).1.all I0=true):EI (H3 l i regs rs ps).1 (H3 l i regs rs ps).2.1 (H3 l i regs rs ps).2.2 (k+1) :=
 ⟨c67 h.len,ha,e0A h.rl,e2N h.pl⟩
theorem b3Y{x:Int}(h:-1000000<=x/\x<=1000000){y:Int}(h':-1000000<=y/\y<=1000000):m7 (x+y)=x+y/\m7 (x-y)=x-y:=⟨B6 (by omega) (by omega),B6 (by omega) (by omega)⟩
theorem e0R(hl:F4 l=true)(he:EI regs rs ps k)(hk:k<=100)(hi:O2 i=true)(h6:i.a7≠6)(h7:i.a7≠7) :
  a4I l ⟨rs,ps,0,0⟩ regs i=some (⟨(H3 l i regs rs ps).2.1,(H3 l i regs rs ps).2.2,0,bif (H3 l i regs rs ps).1.all I0 then 0 else 2⟩,(H3 l i regs rs ps).1):=by
 have hfr:=he.fr hk;have hfp:=he.fp hk;have hrl:=he.rl;have hpl:=he.pl;have n1:(rs.length+1)*16<=140737488355328:=by omega
 have n2:(ps.length+1)*16<=140737488355328:=by omega
 have fin:∀(a v:Int) (rs':List p7) (ps':List n8),0<=a/\a<=3->i.a7≠2->i.A=a->a2H i (regs.set a.toNat v) rs' ps' 0 0=some (⟨rs',ps',0,bif (regs.set a.toNat v).all I0 then 0 else 2⟩,regs.set a.toNat v):=by
  intro a v rs' ps' ha h2 hia;unfold a2H a74;rw [show (i.a7 != 2)=true from by simpa using h2,cond_true,hia,J4 (by simpa using he.len) ha,e8C,a4U,e8C,e0M he.len ha,d3b he.len he.rng ha];unfold I0;cases n9 v (-1000000) 1000000<;>rfl
 unfold a4I H3;rcases a6W hi with ⟨h,ha,hb⟩|⟨h,ha,hb⟩|⟨h,ha,hn⟩|⟨h,ha,hb⟩|⟨h,ha,hb⟩|⟨h,_⟩|⟨h,_⟩
 ·simp only [h,show ((1:Int)==1)=true from rfl,cond_true];unfold b2T b2f;rw [d2v hfp,e8C];cases hp:a0i ps i.B with
  | some j =>
   have hj:=b7u hp;simp only [b5t,cond_true,e8D hj];simp only [atI,u0 hj,e8C,J4 he.len ha,l8.go];exact fin i.A _ rs ps ha (by omega) rfl
  | none =>
   obtain ⟨b,hb1,hb2,_⟩:=a5C hl hb;simp only [b5O,cond_false,c19 hfr,e8C,hb1,hb2,t5 n1];cases hs:L2 rs i.B
   ·simp only [e8W,cond_true,cond_false,e8C,l8.go,hb1,J4 he.len ha];exact fin i.A _ _ _ ha (by omega) rfl
   ·simp only [e8H,cond_true,cond_false,e8C,l8.go,hb1,J4 he.len ha];exact fin i.A _ _ _ ha (by omega) rfl
 ·simp only [h,show ((2:Int)==1)=false from rfl,show ((2:Int)==2)=true from rfl,cond_true,cond_false,J4 he.len hb,e8C];unfold b0J;rw [d2v hfp,e8C];have fin2:∀ps':List n8,a2H i regs rs ps' 0 0=some (⟨rs,ps',0,bif regs.all I0 then 0 else 2⟩,regs):=by
   intro ps';unfold a2H a74;rw [he.rng,h];rfl
  cases hp:a0i ps i.A with
  | some j =>
   have hj:=b7u hp;simp only [b5t,cond_true,e8D hj];simp only [atI,u0 hj,e8C,l8.go,e82];exact fin2 _
  | none =>
   simp only [b5O,cond_false,t5 n2,e8C,l8.go];exact fin2 _
 ·simp only [h,show ((3:Int)==1)=false from rfl,show ((3:Int)==2)=false from rfl,show ((3:Int)==3)=true from rfl,cond_true,cond_false,J4 he.len ha,e8C,l8.go];exact fin i.A _ _ _ ha (by omega) rfl
 ·simp only [h,show ((4:Int)==1)=false from rfl,show ((4:Int)==2)=false from rfl,show ((4:Int)==3)=false from rfl,show ((4:Int)==4)=true from rfl,cond_true,cond_false,J4 he.len ha,J4 he.len hb,e8C,l8.go,(b3Y (a3G he.len he.rng ha) (a3G he.len he.rng hb)).1];exact fin i.A _ _ _ ha (by omega) rfl
 ·simp only [h,show ((5:Int)==1)=false from rfl,show ((5:Int)==2)=false from rfl,show ((5:Int)==3)=false from rfl,show ((5:Int)==4)=false from rfl,show ((5:Int)==5)=true from rfl,cond_true,cond_false,J4 he.len ha,J4 he.len hb,e8C,l8.go,(b3Y (a3G he.len he.rng ha) (a3G he.len he.rng hb)).2];exact fin i.A _ _ _ ha (by omega) rfl
 ·exact absurd h h6
 ·exact absurd h h7
theorem d6i(hi:i.a7=7)(ha:i.A=0)(he:EI regs rs ps k):a4I l ⟨rs,ps,0,0⟩ regs i=some (⟨rs,ps,0,1⟩,regs):=by
 have hin:=a3G he.len he.rng (a:=0) (by omega);unfold a4I a2H a74;simp only [hi,ha,show ((7:Int)==1)=false from rfl,show ((7:Int)==2)=false from rfl,show ((7:Int)==3)=false from rfl,show ((7:Int)==4)=false from rfl,show ((7:Int)==5)=false from rfl,show ((7:Int)==7)=true from rfl,show ((7:Int) != 2)=true from rfl,cond_true,cond_false,e8C,l8.go,J4 he.len (a:=0) (by omega),a4U];rw [show n9 (H9 regs 0) (-1000000) 1000000=true from by simp [n9];exact hin];rfl
theorem d2h(l:List q8){prog:List o8}{f k:Nat}{regs:List Int}{rs:List p7}{ps:List n8}(h:prog.length<=k):a1K l prog f k regs rs ps=⟨rs,ps,H9 regs 0,0⟩:=by
 cases f with
 | zero=>rfl
 | succ f =>
  unfold a1K;rw [e88 h]
theorem b8p{prog:List o8}(hp:C7 prog=true):prog.length<=10/\∀i∈prog,O2 i=true:=by
 unfold C7 at hp;simpa using hp
theorem c9g(l:List q8)(prog:List o8)(regs:List Int)(rs:List p7)(ps:List n8)(k c:Int)(hc:(c==0)=false) :
  ((o9 (fun s:(List Int)×(List p7)×(List n8)×Int×Int×Int=>Z4 l prog s.1 s.2.1 s.2.2.1 s.2.2.2.1 s.2.2.2.2.1 s.2.2.2.2.2) (regs,rs,ps,k,0,c)).bind fun x=>x.go (fun r=>some r) fun s=>a5S s.1 s.2.1 s.2.2.1 s.2.2.2.1 s.2.2.2.2)=some ⟨rs,[],0,c⟩:=by
 rw [C2 (b:=(rs,ps,regs,0,c))]
 ·simp only [e8C,l8.go];unfold a5S;rw [bne,hc];rfl
 ·unfold Z4;simp only [hc,cond_false];cases decide (k<(prog.length:Int))<;>rfl
theorem e1I(hl:F4 l=true){prog:List o8}(hp:C7 prog=true):∀(f k:Nat) (regs:List Int) (rs:List p7) (ps:List n8),EI regs rs ps k->prog.length<k+f->k<=prog.length+10->
  ((o9 (fun s:(List Int)×(List p7)×(List n8)×Int×Int×Int=>Z4 l prog s.1 s.2.1 s.2.2.1 s.2.2.2.1 s.2.2.2.2.1 s.2.2.2.2.2) (regs,rs,ps,(k:Int),0,0)).bind fun x=>x.go (fun r=>some r) fun s=>a5S s.1 s.2.1 s.2.2.1 s.2.2.2.1 s.2.2.2.2)=some (a1K l prog f k regs rs ps):=by
 obtain ⟨hlen,hins⟩:=b8p hp;intro f;induction f with
 | zero =>
  intro k regs rs ps he hf hk;rw [C2 (b:=(rs,ps,regs,0,0))]
  ·simp only [e8C,l8.go];unfold a5S;rw [show ((0:Int) != 0)=false from rfl,cond_false,J4 he.len (a:=0) (by omega)];rfl
  ·unfold Z4;rw [show decide ((k:Int)<(prog.length:Int))=false from by simp;omega];rfl
 | succ f ih =>
  intro k regs rs ps he hf hk;by_cases hlt:k<prog.length
  ·have hi:=hins _ (e8F hlt);unfold a1K;rw [e8D hlt];simp only;by_cases h6:prog[k].a7=6
   ·obtain ⟨ha,hb,hn⟩:(0<=prog[k].A/\prog[k].A<=3)/\(0<=prog[k].B/\prog[k].B<=3)/\1<=prog[k].N/\prog[k].N<=10:=by
     rcases a6W hi with ⟨h,_⟩|⟨h,_⟩|⟨h,_⟩|⟨h,_⟩|⟨h,_⟩|⟨h,x⟩|⟨h,_⟩
     all_goals first|(exact x)|(exfalso;omega)
    have hb1:Z4 l prog regs rs ps (k:Int) 0 0=some (.nxt (regs,rs,ps,((bif decide (H9 regs prog[k].A<H9 regs prog[k].B) then k+prog[k].N.toNat+1 else k+1:Nat):Int),0,0)):=by
     unfold Z4 b5J;rw [w8 _ k hlt,u0 hlt];simp only [cond_true,e8C,h6,show ((6:Int)==6)=true from rfl,show ((0:Int)==0)=true from rfl,J4 he.len ha,J4 he.len hb];cases decide (H9 regs prog[k].A<H9 regs prog[k].B)
     ·simp only [cond_false,e8C,l8.go];rw [B6 (by omega) (by omega)];rfl
     ·simp only [cond_true,e8C,l8.go];rw [B6 (n:=(k:Int)+prog[k].N) (by omega) (by omega),B6 (by omega) (by omega),show ((k+prog[k].N.toNat+1:Nat):Int)=(k:Int)+prog[k].N+1 from by omega]
    rw [C9 hb1,h6];simp only [show ((6:Int)==6)=true from rfl,cond_true];refine ih _ _ _ _ ⟨he.len,he.rng,?_,?_⟩ ?_ ?_;all_goals
     have h1:=he.rl;have h2:=he.pl;cases decide (H9 regs prog[k].A<H9 regs prog[k].B)<;>simp only [cond_true,cond_false]<;>omega
   by_cases h7:prog[k].a7=7
   ·have ha:prog[k].A=0:=by
     rcases a6W hi with ⟨h,_⟩|⟨h,_⟩|⟨h,_⟩|⟨h,_⟩|⟨h,_⟩|⟨h,_⟩|⟨h,x⟩
     all_goals first|(exact x)|(exfalso;omega)
    have hb1:Z4 l prog regs rs ps (k:Int) 0 0=some (.nxt (regs,rs,ps,m7 ((k:Int)+1),0,1)):=by
     unfold Z4;rw [w8 _ k hlt,u0 hlt];simp only [cond_true,e8C,show ((0:Int)==0)=true from rfl,d6i h7 ha he,h7,show ((7:Int)==6)=false from rfl,cond_false];rw [t5 trivial]
    rw [C9 hb1,c9g _ _ _ _ _ _ _ rfl,h7];rfl
   ·have hs:=e0R hl he (by omega) hi h6 h7;have hb1:Z4 l prog regs rs ps (k:Int) 0 0=some (.nxt ((H3 l prog[k] regs rs ps).1,(H3 l prog[k] regs rs ps).2.1,(H3 l prog[k] regs rs ps).2.2,((k+1:Nat):Int),0,bif (H3 l prog[k] regs rs ps).1.all I0 then 0 else 2)):=by
     unfold Z4;rw [w8 _ k hlt,u0 hlt];simp only [cond_true,e8C,show ((0:Int)==0)=true from rfl,hs,show (prog[k].a7==6)=false from by simpa using h6,cond_false];rw [t5 (by rw [c67 he.len];exact he.len),B6 (by omega) (by omega)];rfl
    rw [C9 hb1,show (prog[k].a7==6)=false from by simpa using h6,show (prog[k].a7==7)=false from by simpa using h7,cond_false,cond_false];cases hall:(H3 l prog[k] regs rs ps).1.all I0
    ·rw [cond_false,cond_false,c9g _ _ _ _ _ _ _ rfl]
    ·rw [cond_true,cond_true];exact ih _ _ _ _ (he.next hall) (by omega) (by omega)
  ·rw [d2h l (by omega),C2 (b:=(rs,ps,regs,0,0))]
   ·simp only [e8C,l8.go];unfold a5S;rw [show ((0:Int) != 0)=false from rfl,cond_false,J4 he.len (a:=0) (by omega)];rfl
   ·unfold Z4;rw [show decide ((k:Int)<(prog.length:Int))=false from by simp;omega];rfl
theorem ei0:EI [0,0,0,0] [] [] 0:=⟨rfl,by decide,by simp,by simp⟩
theorem c7b{l:List q8}{prog:List o8}(hl:t6 l)(hp:t6 prog):a8s l prog=some (E5 l prog):=by
 unfold a8s E5;rw [b9W hl,e8C,b5L hp,e8C];cases hb:F4 l
 ·rfl
 cases ho:C7 prog
 ·rfl
 rw [e8H,cond_false,cond_false,t5 (by decide)];have:=e1I hb ho (prog.length+1) 0 [0,0,0,0] [] [] ei0 (by omega) (by omega);exact this
theorem e3f{regs:List Int}{Reads1:List p7}{ins:o8}{put1:n8}(h:regs.length=4)(hr:Reads1.length<=1000):o9 (fun s:Int=>a95 regs Reads1 ins put1 s) 0=some (bif (regs.set ins.A.toNat put1.f0).all I0 then .brk () else .ret ⟨Reads1,[],0,2⟩):=by
 have hl:(regs.set ins.A.toNat put1.f0).length=4:=by simpa using h
 refine b77 (regs.set ins.A.toNat put1.f0) (by unfold t6;omega) I0 _ () (fun k hk => ?_) ?_
 ·have hk4:(k:Int)<4:=by omega
  unfold a95;rw [decide_eq_true hk4,u0 hk,cond_true,e8C,t5 hk4,K9,e8C,b2t hr];unfold I0;cases n9 (regs.set ins.A.toNat put1.f0)[k] (-1000000) 1000000<;>rfl
 ·unfold a95;rw [hl];rfl
theorem d0c{regs:List Int}{Reads1:List p7}{ins:o8}{box:q8}(h:regs.length=4)(hr:Reads1.length<=1000):o9 (fun s:Int=>b2E regs ins Reads1 box s) 0=some (bif (regs.set ins.A.toNat box.f0).all I0 then .brk () else .ret ⟨Reads1,[],0,2⟩):=by
 have hl:(regs.set ins.A.toNat box.f0).length=4:=by simpa using h
 refine b77 (regs.set ins.A.toNat box.f0) (by unfold t6;omega) I0 _ () (fun k hk => ?_) ?_
 ·have hk4:(k:Int)<4:=by omega
  unfold b2E;rw [decide_eq_true hk4,u0 hk,cond_true,e8C,t5 hk4,K9,e8C,b2t hr];unfold I0;cases n9 (regs.set ins.A.toNat box.f0)[k] (-1000000) 1000000<;>rfl
 ·unfold b2E;rw [hl];rfl
theorem b9E{regs:List Int}{Reads1:List p7}(h:regs.length=4)(hr:Reads1.length<=1000):o9 (fun s:Int=>b1p Reads1 regs s) 0=some (bif regs.all I0 then .brk () else .ret ⟨Reads1,[],0,2⟩):=by
 refine b77 regs (by unfold t6;omega) I0 _ () (fun k hk => ?_) ?_
 ·have hk4:(k:Int)<4:=by omega
  unfold b1p;rw [decide_eq_true hk4,u0 hk,cond_true,e8C,t5 hk4,K9,e8C,b2t hr];unfold I0;cases n9 regs[k] (-1000000) 1000000<;>rfl
 ·unfold b1p;rw [h];rfl
theorem e7W(hl:F4 l=true)(he:EI regs rs ps k)(hk:k<=100){prog:List o8}(hkl:k<prog.length)(hpl:prog.length<=10)(R:List p7)(P:List n8)(hi:O2 prog[k]=true)(h6:prog[k].a7≠6)(h7:prog[k].a7≠7) :
  a2q l prog regs R P rs ps (k:Int)=some (bif (H3 l prog[k] regs rs ps).1.all I0 then .nxt ((H3 l prog[k] regs rs ps).1,R,P,(H3 l prog[k] regs rs ps).2.1,(H3 l prog[k] regs rs ps).2.2,((k+1:Nat):Int)) else .ret ⟨(H3 l prog[k] regs rs ps).2.1,[],0,2⟩):=by
 have hfr:=he.fr hk;have hfp:=he.fp hk;have hrl:=he.rl;have hpl:=he.pl;have n1:(rs.length+1)*16<=140737488355328:=by omega
 have n2:(ps.length+1)*16<=140737488355328:=by omega
 have hw:m7 ((k:Int)+1)=((k+1:Nat):Int):=by rw [B6 (by omega) (by omega)];rfl
 have fin:∀(regs':List Int) (ps':List n8),regs'.length=4->a78 R P rs regs' ps' (k:Int)=some (bif regs'.all I0 then .nxt (regs',R,P,rs,ps',((k+1:Nat):Int)) else .ret ⟨rs,[],0,2⟩):=by
  intro regs' ps' h;unfold a78 b1d;rw [b9E h (by omega),hw];cases regs'.all I0<;>rfl
 have hset:∀(a:Nat) (v:Int),(regs.set a v).length=4:=fun a v=>by simpa using he.len
 unfold a2q H3;generalize hin:prog[k]=i at hi h6 h7;rw [w8 _ k hkl,u0 hkl,hin,cond_true,e8C];rcases a6W hi with ⟨h,ha,hb⟩|⟨h,ha,hb⟩|⟨h,ha,hn⟩|⟨h,ha,hb⟩|⟨h,ha,hb⟩|⟨h,_⟩|⟨h,_⟩
 ·have na:i.A<4:=by omega
  simp only [h,show ((1:Int)==1)=true from rfl,cond_true];rw [c6o (x:=⟨rs,ps,0,0⟩) hfp,e8C];simp only;cases hp:a0i ps i.B with
  | some j =>
   have hj:=b7u hp;simp only [b5t,cond_true,e8D hj];simp only [atI,u0 hj,e8C,J4 he.len ha];rw [t5 na,e3f he.len (by omega)];unfold c2p;rw [hw];cases (regs.set i.A.toNat ps[j].f0).all I0<;>rfl
  | none =>
   obtain ⟨b,hb1,hb2,_⟩:=a5C hl hb;obtain ⟨v,hv1,hv2⟩:=e7h (x:=⟨rs,ps,0,0⟩) hfr i.B;simp only [b5O,cond_false,hv1,hv2,e8C,hb1,hb2,t5 n1];cases hs:L2 rs i.B
   ·simp only [e8W,cond_true,cond_false,e8C,l8.go];unfold b47 b37;rw [hb1,e8C,J4 he.len ha,e8C,t5 na,d0c he.len (by simp;omega),hw];cases (regs.set i.A.toNat b.f0).all I0<;>rfl
   ·simp only [e8H,cond_true,cond_false,e8C,l8.go];unfold b47 b37;rw [hb1,e8C,J4 he.len ha,e8C,t5 na,d0c he.len (by omega),hw];cases (regs.set i.A.toNat b.f0).all I0<;>rfl
 ·have nb:i.B<4:=by omega
  simp only [h,show ((2:Int)==1)=false from rfl,show ((2:Int)==2)=true from rfl,cond_true,cond_false];rw [c6o (x:=⟨rs,ps,0,0⟩) hfp,e8C];simp only;cases hp:a0i ps i.A with
  | some j =>
   have hj:=b7u hp;simp only [b5t,cond_true,e8D hj];simp only [atI,u0 hj,e8C,J4 he.len hb,e82];rw [t5 nb];simp only [e8C,l8.go];exact fin _ _ he.len
  | none =>
   simp only [b5O,cond_false,e8C,J4 he.len hb];rw [t5 nb,t5 n2];simp only [e8C,l8.go];exact fin _ _ he.len
 ·have na:i.A<4:=by omega
  simp only [h,show ((3:Int)==1)=false from rfl,show ((3:Int)==2)=false from rfl,show ((3:Int)==3)=true from rfl,cond_true,cond_false,J4 he.len ha,e8C];rw [t5 na];simp only [e8C,l8.go];exact fin _ _ (hset _ _)
 ·have na:i.A<4:=by omega
  have nb:i.B<4:=by omega
  simp only [h,show ((4:Int)==1)=false from rfl,show ((4:Int)==2)=false from rfl,show ((4:Int)==3)=false from rfl,show ((4:Int)==4)=true from rfl,cond_true,cond_false,J4 he.len ha,J4 he.len hb,e8C,(b3Y (a3G he.len he.rng ha) (a3G he.len he.rng hb)).1,t5 na,t5 nb,l8.go];exact fin _ _ (hset _ _)
 ·have na:i.A<4:=by omega
  have nb:i.B<4:=by omega
  simp only [h,show ((5:Int)==1)=false from rfl,show ((5:Int)==2)=false from rfl,show ((5:Int)==3)=false from rfl,show ((5:Int)==4)=false from rfl,show ((5:Int)==5)=true from rfl,cond_true,cond_false,J4 he.len ha,J4 he.len hb,e8C,(b3Y (a3G he.len he.rng ha) (a3G he.len he.rng hb)).2,t5 na,t5 nb,l8.go];exact fin _ _ (hset _ _)
 ·exact absurd h h6
 ·exact absurd h h7
theorem e6y(hl:F4 l=true){prog:List o8}(hp:C7 prog=true)(R:List p7)(P:List n8):∀(f k:Nat) (regs:List Int) (rs:List p7) (ps:List n8),EI regs rs ps k->prog.length<k+f->k<=prog.length+10->
  ((o9 (fun s:(List Int)×(List p7)×(List n8)×(List p7)×(List n8)×Int=>a2q l prog s.1 s.2.1 s.2.2.1 s.2.2.2.1 s.2.2.2.2.1 s.2.2.2.2.2) (regs,R,P,rs,ps,(k:Int))).bind fun x=>x.go (fun r=>some r) fun s=>b0p s.1 s.2.1 s.2.2.1 s.2.2.2.1 s.2.2.2.2)=some (a1K l prog f k regs rs ps):=by
 obtain ⟨hlen,hins⟩:=b8p hp;have stop:∀(k:Nat) (regs:List Int) (rs:List p7) (ps:List n8),EI regs rs ps k->prog.length<=k->k<=prog.length+10->((o9 (fun s:(List Int)×(List p7)×(List n8)×(List p7)×(List n8)×Int=>a2q l prog s.1 s.2.1 s.2.2.1 s.2.2.2.1 s.2.2.2.2.1 s.2.2.2.2.2) (regs,R,P,rs,ps,(k:Int))).bind fun x=>x.go (fun r=>some r) fun s=>b0p s.1 s.2.1 s.2.2.1 s.2.2.2.1 s.2.2.2.2)=some ⟨rs,ps,H9 regs 0,0⟩:=by
  intro k regs rs ps he h1 h2;have h3:=he.rl;have h4:=he.pl;rw [C2 (b:=(R,P,regs,rs,ps))]
  ·simp only [e8C,l8.go];unfold b0p;rw [b2t (by omega),e8C,d3k (by omega),e8C,J4 he.len (a:=0) (by omega),e8C,t5 (by decide)]
  ·unfold a2q;rw [show decide ((k:Int)<(prog.length:Int))=false from by simp;omega];rfl
 intro f;induction f with
 | zero =>
  intro k regs rs ps he hf hk;exact stop k regs rs ps he (by omega) hk
 | succ f ih =>
  intro k regs rs ps he hf hk;by_cases hlt:k<prog.length
  ·have hi:=hins _ (e8F hlt);unfold a1K;rw [e8D hlt];simp only;by_cases h6:prog[k].a7=6
   ·obtain ⟨ha,hb,hn⟩:(0<=prog[k].A/\prog[k].A<=3)/\(0<=prog[k].B/\prog[k].B<=3)/\1<=prog[k].N/\prog[k].N<=10:=by
     rcases a6W hi with ⟨h,_⟩|⟨h,_⟩|⟨h,_⟩|⟨h,_⟩|⟨h,_⟩|⟨h,x⟩|⟨h,_⟩
     all_goals first|(exact x)|(exfalso;omega)
    have hrl:=he.rl;have hb1:a2q l prog regs R P rs ps (k:Int)=some (.nxt (regs,R,P,rs,ps,((bif decide (H9 regs prog[k].A<H9 regs prog[k].B) then k+prog[k].N.toNat+1 else k+1:Nat):Int))):=by
     have na:prog[k].A<4:=by omega
     have nb:prog[k].B<4:=by omega
     unfold a2q;rw [w8 _ k hlt,u0 hlt];simp only [cond_true,e8C,h6,show ((6:Int)==1)=false from rfl,show ((6:Int)==2)=false from rfl,show ((6:Int)==3)=false from rfl,show ((6:Int)==4)=false from rfl,show ((6:Int)==5)=false from rfl,show ((6:Int)==6)=true from rfl,cond_false,J4 he.len ha,J4 he.len hb,t5 na,t5 nb];cases decide (H9 regs prog[k].A<H9 regs prog[k].B)
     ·simp only [cond_false,e8C,l8.go];unfold a78 b1d;rw [b9E he.len (by omega),he.rng,B6 (by omega) (by omega)];rfl
     ·simp only [cond_true,e8C,l8.go];unfold a78 b1d;rw [b9E he.len (by omega),he.rng,B6 (n:=(k:Int)+prog[k].N) (by omega) (by omega),B6 (by omega) (by omega),show ((k+prog[k].N.toNat+1:Nat):Int)=(k:Int)+prog[k].N+1 from by omega];rfl
    rw [C9 hb1,h6];simp only [show ((6:Int)==6)=true from rfl,cond_true];refine ih _ _ _ _ ⟨he.len,he.rng,?_,?_⟩ ?_ ?_;all_goals
     have h1:=he.rl;have h2:=he.pl;cases decide (H9 regs prog[k].A<H9 regs prog[k].B)<;>simp only [cond_true,cond_false]<;>omega
   by_cases h7:prog[k].a7=7
   ·have hrl:=he.rl;have hb1:a2q l prog regs R P rs ps (k:Int)=some (.ret ⟨rs,[],0,1⟩):=by
     unfold a2q;rw [w8 _ k hlt,u0 hlt];simp only [cond_true,e8C,h7,show ((7:Int)==1)=false from rfl,show ((7:Int)==2)=false from rfl,show ((7:Int)==3)=false from rfl,show ((7:Int)==4)=false from rfl,show ((7:Int)==5)=false from rfl,show ((7:Int)==6)=false from rfl,show ((7:Int)==7)=true from rfl,cond_false];rw [b2t (by omega)];rfl
    rw [X7 hb1,h7];rfl
   ·have hb1:=e7W hl he (by omega) hlt hlen R P hi h6 h7;rw [show (prog[k].a7==6)=false from by simpa using h6,show (prog[k].a7==7)=false from by simpa using h7,cond_false,cond_false];cases hall:(H3 l prog[k] regs rs ps).1.all I0
    ·rw [hall,cond_false] at hb1;rw [X7 hb1];rfl
    ·rw [hall,cond_true] at hb1;rw [C9 hb1,cond_true];exact ih _ _ _ _ (he.next hall) (by omega) (by omega)
  ·rw [d2h l (by omega)];exact stop k regs rs ps he (by omega) hk
theorem e5b{l:List q8}{prog:List o8}(hl:t6 l)(hp:t6 prog):b7t l prog=some (E5 l prog):=by
 unfold b7t E5;rw [b3u hl,e8C,b5x hp,e8C];cases hb:F4 l
 ·rfl
 cases ho:C7 prog
 ·rfl
 rw [e8H,cond_false,cond_false];exact e6y hb ho [] [] (prog.length+1) 0 [0,0,0,0] [] [] ei0 (by omega) (by omega)
end
theorem e03{l:List q8}{p:List o8}(hl:F4 l=true)(hp:t6 p):Ran (E5 l p):=by
 obtain ⟨r,h1,h2,_⟩:=e6f (a4J hl) hp;rw [c7b (a4J hl) hp] at h1;injection h1 with h1;rw [h1];exact h2 hl
def b92(w:m5)(q:p8):Option u5:=w.c9.find? fun a=>(([a.a0.d6,a.a0.Seq]:List Int)==[q.d6,q.Seq])
def b6B(w:m5)(q:p8):List o8×Bool:=match b92 w q with
 | some a=>(a.i5,true)
 | none=>([],false)
theorem e3u{l:List o8}(h:l.length*32<=140737488351232):a6h l=some l:=by
 unfold a6h;cases hl:((l.length:Int)==0)
 ·rw [cond_false,t5 (by constructor<;>omega),t5 (by simp)]
 ·simp only [beq_iff_eq] at hl;have:l=[]:=e8N (by omega);rw [this];rfl
theorem e2w{w:m5}(h:a2C w){a:u5}(ha:a∈w.c9):a.i5.length*32<=140737488351232:=(h.2.2.1.2 a ha).2.1
theorem d9r{w:m5}(h:a2C w)(q:p8):b7z w q=some (b6B w q):=by
 have hf:t6 w.c9:=h.2.2.1.fits (by decide);unfold b7z b6B b92;rw [b6w w.c9 hf (fun a=>(([a.a0.d6,a.a0.Seq]:List Int)==[q.d6,q.Seq])) (fun a=>(a.i5,true)) ()]
 ·cases w.c9.find? (fun a=>(([a.a0.d6,a.a0.Seq]:List Int)==[q.d6,q.Seq]))<;>rfl
 ·intro k hk;have:=e2w h (e8F hk);unfold b72;rw [w8 _ k hk,u0 hk];simp only [cond_true,e8C,e3u this];cases (([w.c9[k].a0.d6,w.c9[k].a0.Seq]:List Int)==[q.d6,q.Seq])<;>rfl
 ·unfold b72;rw [A3];rfl
def a0M(l:List m4)(q:p8):Int:=match l.findIdx? (G4 q) with
 | some k=>(match l[k]? with|some e=>e.b8.f0|none=>0)
 | none=>0
def e8v(a b:m6):Bool := !(decide (a.a8>0)&&((a.a8==b.a8) && !V9 a.i0 b.i0))
def other(a b:j5):Bool := !(decide (a.a8>0)&&(a.a8==b.a8))
def eN:m4:=⟨true,⟨0,0⟩,⟨[],[],0,0⟩⟩
def v0:m6:=⟨0,zE⟩
def a9q(b:Int):Bool:=n9 b 1 3000
def H6(a:v6)(b:Int):Option v6:=bif a9q b&&decide (a.i4<=b) then some ⟨b,a.a5⟩ else none
def V0(vs:List m6)(n:Nat):List m6:=vs++e8E (n-vs.length) v0
def M5(a:v6)(b slot:Int)(e:m4):Option v6 :=
 bif n9 slot 0 39&&x9 e then (H6 a b).map fun x=>⟨x.i4,(V0 x.a5 (slot.toNat+1)).set slot.toNat ⟨b,e⟩⟩ else none
def D6:List m6->List m6->List m6
 | [],b=>b
 | a,[]=>a
 | x::a,y::b=>(bif decide (y.a8>x.a8) then y else x)::D6 a b
def L6(b who:Int):Int :=
 bif decide (b+1<=3000)&&(e81 (b+1) 3==who) then b+1 else
 bif decide (b+2<=3000)&&(e81 (b+2) 3==who) then b+2 else
 bif decide (b+3<=3000)&&(e81 (b+3) 3==who) then b+3 else -1
def a4d(n:j5):j5:={n with d9:=0,a8:=0,d7:=[],g9:=[],c8:=zE,a5:=[]}
def a4L(n:j5):j5:={n with i7:=false,i5:=[],b6:=zE}
def L5(l:List m4)(q:p8):Bool:=l.any (G4 q)
def a7Z(id:Int):List Bool:=(e8E 3 false).set id.toNat true
def N0(l:List Bool):Bool:=decide (2<=(l.filter (· == true)).length)
def I9(id:Int)(m:j7):List j7:=(([0,1,2]:List Int).filter (· != id)).map fun t=>{m with d7:=id,To:=t}
def K3(m out:j7):j7:={out with d7:=m.To,To:=m.d7}
def N2(n:j5)(b:Int):j5:=bif n.d9 != 0&&decide (b>n.a8) then a4d n else n
def Q7(known:List m4):List m4->List m4×Option m4
 | []=>([],none)
 | e::q=>bif L5 known e.a0 then Q7 known q else (q,some e)
def a3N(n:j5):j5×Option m4 :=
 bif (n.g9.drop n.a6.length).any (fun v=>decide (v.a8>0)) then (n,some eN)
 else bif n.i7 && !L5 n.a6 n.b6.a0 then (n,some n.b6)
 else ({n with d8:=(Q7 n.a6 n.d8).1},(Q7 n.a6 n.d8).2)
def a0H(n:j5):j5×Option m4:=match n.g9[n.a6.length]? with
 | some v=>bif decide (v.a8>0) then (n,some v.i0) else a3N n
 | none=>a3N n
def a6M(x:j5)(e:m4):j5×List j7:=match M5 x.Acc x.a8 (x.a6.length:Int) e with
 | some a=>({x with Acc:=a,d9:=3,c8:=e,a5:=a7Z x.Id},I9 x.Id ⟨3,0,0,x.a8,(x.a6.length:Int),e,[]⟩)
 | none=>(a4d x,[])
def M4(n:j5):j5×List j7 :=
 bif n.d9 != 2||decide (40<=n.a6.length) then (n,[]) else match a0H n with
  | (x,some e)=>a6M x e
  | (x,none)=>(x,[])
def T1(n:j5):j5×List m8 :=
 bif n.i7 then (match n.a6.findIdx? (G4 n.b6.a0) with
  | some k=>(a4L n,[⟨n.Id,n.b6.a0,Q8 n.a6 k,bif Q8 n.a6 k==0 then a0M n.a6 n.b6.a0 else 0⟩])
  | none=>(n,[]))
 else (n,[])
def H4(n:j5)(e:m4):j5 :=
 bif n.d9==3 then {n with a6:=n.a6++[e],d9:=2,c8:=zE,a5:=[]} else {n with a6:=n.a6++[e]}
def X8(n:j5)(e:m4):j5×List j7×List m8 :=
 ((M4 (T1 (H4 n e)).1).1,(M4 (T1 (H4 n e)).1).2,(T1 (H4 n e)).2)
def a2F(n:j5)(m:j7):j5×List j7:=match H6 n.Acc m.a8 with
 | some a=>(N2 {n with Acc:=a} m.a8,[K3 m ⟨2,0,0,m.a8,m.g7,zE,a.a5.drop m.g7.toNat⟩])
 | none=>(n,[K3 m ⟨6,0,0,n.Acc.i4,0,zE,[]⟩])
def a3h(n:j5)(m:j7):j5×List j7:=match M5 n.Acc m.a8 m.g7 m.i0 with
 | some a=>(N2 {n with Acc:=a} m.a8,[K3 m ⟨4,0,0,m.a8,m.g7,zE,[]⟩])
 | none=>(n,[K3 m ⟨6,0,0,n.Acc.i4,0,zE,[]⟩])
def a2T(n:j5)(m:j7):j5×List j7 :=
 bif n.d9 != 1||m.a8 != n.a8 then (n,[]) else
 bif N0 (n.d7.set m.d7.toNat true) then
  M4 {n with d7:=[],g9:=D6 n.g9 (e8E m.g7.toNat v0++m.a5),d9:=2}
 else ({n with d7:=n.d7.set m.d7.toNat true,g9:=D6 n.g9 (e8E m.g7.toNat v0++m.a5)},[])
def a4g(n:j5)(m:j7):j5×List j7×List m8 :=
 bif n.d9 != 3||(m.a8 != n.a8||m.g7 != (n.a6.length:Int)) then (n,[],[]) else
 bif N0 (n.a5.set m.d7.toNat true) then
  ((X8 {n with a5:=n.a5.set m.d7.toNat true} n.c8).1,I9 n.Id ⟨5,0,0,0,(n.a6.length:Int),n.c8,[]⟩++(X8 {n with a5:=n.a5.set m.d7.toNat true} n.c8).2.1,(X8 {n with a5:=n.a5.set m.d7.toNat true} n.c8).2.2)
 else ({n with a5:=n.a5.set m.d7.toNat true},[],[])
def a4r(n:j5)(m:j7):j5×List j7×List m8 :=
 bif decide (m.g7<(n.a6.length:Int)) then (n,[],[]) else
 bif decide (m.g7>(n.a6.length:Int)) then (n,[K3 m ⟨8,0,0,0,(n.a6.length:Int),zE,[]⟩],[])
 else X8 n m.i0
def a27(n:j5)(m:j7):j5×List j7 :=
 bif n.d9==0||(decide (4<=n.d8.length)||L5 n.a6 m.i0.a0) then (n,[]) else M4 {n with d8:=n.d8++[m.i0]}
def a01(n:j5)(m:j7)(s:Nat):List j7:=match n.a6[s]? with
 | some e=>[K3 m ⟨5,0,0,0,(s:Int),e,[]⟩]
 | none=>[]
def a4D(n:j5)(m:j7):List j7:=((e8M (n.a6.length-m.g7.toNat)).map fun j=>a01 n m (m.g7.toNat+j)).flatten
def Y2(n:j5)(m:j7):j5×List j7×List m8 :=
 bif m.a7==1 then ((a2F n m).1,(a2F n m).2,[]) else
 bif m.a7==2 then ((a2T n m).1,(a2T n m).2,[]) else
 bif m.a7==3 then ((a3h n m).1,(a3h n m).2,[]) else
 bif m.a7==4 then a4g n m else
 bif m.a7==5 then a4r n m else
 bif m.a7==6 then (N2 {n with Acc:=(H6 n.Acc m.a8).getD n.Acc} m.a8,[],[]) else
 bif m.a7==7 then ((a27 n m).1,(a27 n m).2,[]) else
 bif m.a7==8 then (n,a4D n m,[]) else (n,[],[])
def M9(n:j5)(prog:List o8):j5×List j7 :=
 bif n.i7||(n.Seq==1000||(E5 (z5 n.a6).1.g8 prog).Code==3) then (n,[]) else
 bif n.d9==2 then M4 {n with Seq:=n.Seq+1,i7:=true,i5:=prog,b6:=⟨false,⟨n.Id,n.Seq+1⟩,E5 (z5 n.a6).1.g8 prog⟩}
 else ({n with Seq:=n.Seq+1,i7:=true,i5:=prog,b6:=⟨false,⟨n.Id,n.Seq+1⟩,E5 (z5 n.a6).1.g8 prog⟩},
  bif n.d9==0 then I9 n.Id ⟨7,0,0,0,0,⟨false,⟨n.Id,n.Seq+1⟩,E5 (z5 n.a6).1.g8 prog⟩,[]⟩ else [])
def a0j(n:j5):j5×List j7 :=
 bif decide (L6 n.Acc.i4 n.Id<0) then (n,[]) else
 ({a4d n with Acc:=⟨L6 n.Acc.i4 n.Id,n.Acc.a5⟩,d9:=1,a8:=L6 n.Acc.i4 n.Id,d7:=a7Z n.Id,g9:=n.Acc.a5},
  I9 n.Id ⟨1,0,0,L6 n.Acc.i4 n.Id,(n.a6.length:Int),zE,[]⟩)
def V5(n:j5):j5×List j7 :=
 bif n.d9==1 then (n,I9 n.Id ⟨8,0,0,0,(n.a6.length:Int),zE,[]⟩++I9 n.Id ⟨1,0,0,n.a8,(n.a6.length:Int),zE,[]⟩) else
 bif n.d9==2 then ((M4 n).1,I9 n.Id ⟨8,0,0,0,(n.a6.length:Int),zE,[]⟩++(M4 n).2) else
 bif n.d9==3 then (n,I9 n.Id ⟨8,0,0,0,(n.a6.length:Int),zE,[]⟩++I9 n.Id ⟨3,0,0,n.a8,(n.a6.length:Int),n.c8,[]⟩) else
 bif n.i7 then (n,I9 n.Id ⟨8,0,0,0,(n.a6.length:Int),zE,[]⟩++I9 n.Id ⟨7,0,0,0,0,n.b6,[]⟩) else
 (n,I9 n.Id ⟨8,0,0,0,(n.a6.length:Int),zE,[]⟩)
def C4(id:Int):j5:=⟨id,⟨0,[]⟩,[],0,0,0,[],[],zE,[],false,[],zE,[]⟩
def a0T(n:j5):j5:={C4 n.Id with Acc:=n.Acc,a6:=n.a6,Seq:=n.Seq}
def N9:m5:=⟨[C4 0,C4 1,C4 2],[],[],[]⟩
def a0a(w:m5)(l:List j7):m5:={w with b9:=w.b9++l.take (40-w.b9.length)}
def a6m(w:m5)(l:List m8):m5:={w with Told:=w.Told++l.take (60-w.Told.length)}
def R3(w:m5)(i:Int)(n:j5):m5:={w with a9:=w.a9.set i.toNat n}
def a3i(w:m5)(i:Int):m5:={w with b9:=w.b9.take i.toNat++w.b9.drop (i.toNat+1)}
def K5(w:m5)(i:Int):j5:=w.a9.getD i.toNat (C4 0)
def a7H(w:m5)(i:Int)(prog:List o8):m5 :=
 bif decide (60<=w.c9.length) then w else
 a0a (R3 (bif decide ((M9 (K5 w i) prog).1.Seq>(K5 w i).Seq) then {w with c9:=w.c9++[⟨(M9 (K5 w i) prog).1.b6.a0,prog⟩]} else w) i (M9 (K5 w i) prog).1) (M9 (K5 w i) prog).2
def a17(w:m5)(e:p6):m5:=bif decide (0<=e.A) then (match w.b9[e.A.toNat]? with
 | some m=>bif e.a7==4 then a0a w [m] else bif e.a7==3 then a3i w e.A else
  a6m (a0a (R3 (a3i w e.A) m.To (Y2 (K5 w m.To) m).1) (Y2 (K5 w m.To) m).2.1) (Y2 (K5 w m.To) m).2.2
 | none=>w) else w
def C6(w:m5)(e:p6):m5 :=
 bif e.a7==2||(e.a7==3||e.a7==4) then a17 w e else
 bif !n9 e.A 0 2 then w else
 bif e.a7==1 then a7H w e.A e.i5 else
 bif e.a7==5 then a0a (R3 w e.A (a0j (K5 w e.A)).1) (a0j (K5 w e.A)).2 else
 bif e.a7==6 then a0a (R3 w e.A (V5 (K5 w e.A)).1) (V5 (K5 w e.A)).2 else
 bif e.a7==7 then R3 w e.A (a0T (K5 w e.A)) else w
def a1f(w:m5)(l:List p6):m5:=l.foldl C6 w
theorem Y6:G8 0:=⟨by decide,by decide⟩
theorem Q9{α:Type}{b:Nat}{ok:α->Prop}:z7 b ok ([]:List α):=⟨by simp,fun x hx=>by cases hx⟩
theorem a0A:D7 zE:=⟨⟨Y6,Y6⟩,Q9,Q9,Y6,Y6⟩
theorem d2w:D7 eN:=⟨⟨Y6,Y6⟩,Q9,Q9,Y6,Y6⟩
theorem c4D:P7 v0:=⟨Y6,a0A⟩
theorem a5c{α R B:Type}{body:List α×Int->Option (l7 R (List α×Int) B)}(l:List α)(hl:t6 l)(f:List α->B)(h1:∀(k:Nat) (h:k<l.length),body (l.take k,(k:Int))=some (.nxt (l.take k++[l[k]],m7 ((k:Int)+1))))(h2:body (l,(l.length:Int))=some (.brk (f l))):o9 body ([],0)=some (.brk (f l)):=by
 have h:=X3 (body:=body) (fun k=>(l.take k,(k:Int))) l.length (by
  intro k hk;rw [h1 k hk,F3 hl hk,e87 hk])
 rw [show ((0:Nat):Int)=0 from rfl,e9e] at h;rw [h,e85];exact C2 h2
theorem b6u{l:List m6}(h:z7 96 P7 l):a7l l=some l:=by
 have hf:t6 l:=h.fits (by decide);have hb:=h.1;unfold a7l;rw [a5c (body:=fun s:(List m6)×Int=>b1b l s.1 s.2) l hf (fun l=>l) (by
  intro k hk;unfold b1b;rw [w8 _ k hk,u0 hk];simp only [cond_true,e8C,a0m (h.2 _ (e8F hk)).2];rw [t5 (by rw [e83];omega)]) (by
  unfold b1b;rw [A3];rfl)]
 rfl
theorem e1f{l:List m6}(h:z7 96 P7 l):b43 l=some (l,l):=by
 have hf:t6 l:=h.fits (by decide);have hb:=h.1;unfold b43;rw [a5c (body:=fun s:(List m6)×Int=>b2x l s.1 s.2) l hf (fun l=>l) (by
  intro k hk;unfold b2x;rw [w8 _ k hk,u0 hk];simp only [cond_true,e8C,a0m (h.2 _ (e8F hk)).2];rw [t5 (by rw [e83];omega)]) (by
  unfold b2x;rw [A3];rfl)]
 rfl
theorem e4N{e:m4}(h:D7 e):b6G e=some e:=by
 have h1:=h.2.1.1;have h2:=h.2.2.1.1;unfold b6G b9h;rw [t5 (by simp;omega),t5 (by simp;omega)];rfl
theorem d8Q{l:List m6}(h:z7 96 P7 l):b6t l=some l:=by
 have hf:t6 l:=h.fits (by decide);have hb:=h.1;unfold b6t;rw [a5c (body:=fun s:(List m6)×Int=>b1E l s.1 s.2) l hf (fun l=>l) (by
  intro k hk;unfold b1E;rw [w8 _ k hk,u0 hk];simp only [cond_true,e8C,e4N (h.2 _ (e8F hk)).2];rw [t5 (by rw [e83];omega)]) (by
  unfold b1E;rw [A3];rfl)]
 rfl
theorem b7r{m:j7}(h:X9 m):a6y m=some m:=by
 unfold a6y;rw [a0m h.2.2.2.2.2.1,e8C,b6u h.2.2.2.2.2.2];rfl
theorem b1D{α:Type}{b:Nat}{ok:α->Prop}{l:List α}(h:z7 b ok l):(([]:List α).length+l.length)*b<=140737488355328:=by
 have:=h.1;simp only [e92,e9k];omega
theorem b15{n:j5}(h:Q1 n):a5q n=some n:=by
 obtain ⟨h1,h2,h3,h4,h5,h6,h7,h8,h9,h10,h11,h12,h13⟩:=h;unfold a5q c1g;rw [b6u h2.2,e8C,e8C,d0z h3,e8C,t5 (b1D h7),b6u h8,e8C,a0m h9,e8C,t5 (b1D h10),t5 (b1D h11),a0m h12,e8C,d0z h13];rfl
theorem c2x{a:v6}{b:Int}:a8U a b=match H6 a b with|some _=>none|none=>some (a,false):=by
 unfold a8U H6 a9q;rw [a8f,e8C];cases n9 b 1 3000
 ·rfl
 ·by_cases h:b<a.i4
  ·simp [h,show ¬a.i4<=b by omega]
  ·simp [h,show a.i4<=b by omega]
theorem b5l{a:v6}{b:Int}:a7D a b=some (match H6 a b with|some x=>(x,true)|none=>(a,false)):=by
 unfold a7D H6 a9q;rw [a8f,e8C];cases n9 b 1 3000
 ·rfl
 ·by_cases h:b<a.i4
  ·simp [h,show ¬a.i4<=b by omega]
  ·simp [h,show a.i4<=b by omega]
theorem d06{a:v6}{b s:Int}{e:m4}(he:D7 e):b0j a b s e=match M5 a b s e with|some _=>none|none=>some (a,false):=by
 unfold b0j M5;rw [a2A he.f,e8C,c2x];by_cases h1:s<0
 ·simp [h1,n9,show ¬(0<=s/\s<=39) by omega]
 ·by_cases h2:s>=40
  ·simp [h1,h2,n9,show ¬(0<=s/\s<=39) by omega]
  ·simp only [h1,h2,decide_false,cond_false,n9,show (0<=s/\s<=39) by omega,and_self,decide_true,e8V];cases x9 e
   ·rfl
   ·simp only [e8H,cond_false,cond_true];cases H6 a b<;>rfl
theorem c3F(slot:Nat)(hs:slot<40):∀(m:Nat) (vs:List m6),slot+1-vs.length=m->o9 (fun s:List m6=>a6P (slot:Int) s) vs=some (.brk (V0 vs (slot+1)))
 | 0,vs,h=>by
  refine C2 ?_;unfold a6P V0;rw [h,show decide ((vs.length:Int)<=(slot:Int))=false by simp;omega];simp
 | m+1,vs,h=>by
  have hb:a6P (slot:Int) vs=some (.nxt (vs++[v0])):=by
   unfold a6P;rw [show decide ((vs.length:Int)<=(slot:Int))=true by simp;omega,cond_true,t5 (by omega)];rfl
  rw [C9 (body:=fun s:List m6=>a6P (slot:Int) s) hb,c3F slot hs m (vs++[v0]) (by simp;omega)];congr 2
  unfold V0;rw [h,e8O,show slot+1-(vs.length+[v0].length)=m by simp;omega,e8R];rfl
theorem b9b(vs:List m6)(n:Nat):(V0 vs n).length=max vs.length n:=by
 unfold V0;simp;omega
theorem c30{a:v6}{b s:Int}{e:m4}(he:D7 e):b2G a b s e=some (match M5 a b s e with|some x=>(x,true)|none=>(a,false)):=by
 unfold b2G M5;rw [a2A he.f,e8C,c2x,b5l,e8C];by_cases h1:s<0
 ·simp [h1,n9,show ¬(0<=s/\s<=39) by omega]
 ·by_cases h2:s>=40
  ·simp [h1,h2,n9,show ¬(0<=s/\s<=39) by omega]
  ·simp only [h1,h2,decide_false,cond_false,n9,show (0<=s/\s<=39) by omega,and_self,decide_true,e8V];cases x9 e
   ·rfl
   ·simp only [e8H,cond_false,cond_true];cases H6 a b with
    | none=>rfl
    | some x =>
     obtain ⟨k,rfl⟩:∃k:Nat,s=(k:Int):=⟨s.toNat,by omega⟩
     have hk:k<(V0 x.a5 (k+1)).length:=by rw [b9b];omega
     simp only [a4u,e8H,cond_false,c3F k (by omega) _ _ rfl,e8C,l8.go,b8F,a0m he,u0 hk,e9w,e82]
theorem b5c{n:j5}{q:p8}(h:t6 n.a6):a7p n q=some (L5 n.a6 q):=by
  unfold a7p;rw [show o9 (fun s:Int=>a8V n q s) 0=_ from b6w (body:=fun s:Int=>a8V n q s) n.a6 h (G4 q) (fun _=>true) () (by
      intro k hk;unfold a8V c0Q G4;rw [w8 _ k hk,u0 hk];simp only [cond_true,e8C];cases n.a6[k].i8<;>cases (([n.a6[k].a0.d6,n.a6[k].a0.Seq]:List Int)==[q.d6,q.Seq])<;>rfl) (by
      unfold a8V;rw [A3];rfl)]
  unfold L5;cases hf:n.a6.find? (G4 q) with
  | none =>
    have:n.a6.any (G4 q)=false:=by
      rw [e9p];intro x hx;exact List.find?_eq_none.1 hf x hx
    rw [this];rfl
  | some x =>
    have:n.a6.any (G4 q)=true:=e9W.2 ⟨x,List.mem_of_find?_eq_some hf,List.find?_some hf⟩;rw [this];rfl
def a0y(id:Int)(m:j7)(o:List j7)(t:Int):List j7:=bif t != id then o++[{m with d7:=id,To:=t}] else o
theorem d2c(id:Int)(m:j7)(o:List j7)(t:Int):(a0y id m o t).length<=o.length+1:=by
 unfold a0y;cases t != id<;>simp
theorem a5P{id:Int}(hid:0<=id/\id<=2){m:j7}(h:X9 m):a2x id m=some (I9 id m):=by
 have e:∀(o:List j7) (t:Int),o.length<=3->0<=t->t<3->a4o id m o t=some (.nxt (a0y id m o t,t+1)):=by
  intro o t ho ht0 ht;unfold a4o c0S a0y;rw [show decide (t<3)=true by simpa using ht,cond_true,b7r h,e8C,t5 (by omega),B6 (by omega) (by omega)];cases t != id<;>rfl
 have l1:=d2c id m [] 0;have l2:=d2c id m (a0y id m [] 0) (0+1);have h0:=C9 (body:=fun s:(List j7)×Int=>a4o id m s.1 s.2) (s:=([],0)) (e [] 0 (by simp) (by omega) (by omega));have h1:=C9 (body:=fun s:(List j7)×Int=>a4o id m s.1 s.2) (s:=(a0y id m [] 0,0+1)) (e (a0y id m [] 0) (0+1) (by simp at l1;omega) (by omega) (by omega));have h2:=C9 (body:=fun s:(List j7)×Int=>a4o id m s.1 s.2) (s:=(a0y id m (a0y id m [] 0) (0+1),0+1+1)) (e (a0y id m (a0y id m [] 0) (0+1)) (0+1+1) (by simp at l1;omega) (by omega) (by omega));have h3:=C2 (body:=fun s:(List j7)×Int=>a4o id m s.1 s.2) (s:=(a0y id m (a0y id m (a0y id m [] 0) (0+1)) (0+1+1),0+1+1+1)) (show a4o id m _ (0+1+1+1)=_ from rfl);unfold a2x;rw [h0,h1,h2,h3];obtain rfl|rfl|rfl:id=0\/id=1\/id=2:=by omega
 all_goals rfl
theorem c3i:∀(l:List Bool) (hl:t6 l) (m k:Nat) (c:Int),k+m=l.length->0<=c->c<=k->o9 (fun s:Int×Int=>a3Y l s.1 s.2) (c,(k:Int))=some (.brk (c+(((l.drop k).filter (· == true)).length:Int)))
 | l,hl,0,k,c,hk,h0,h1=>by
  have:k=l.length:=by omega
  subst this;refine C2 ?_;show a3Y l c (l.length:Int)=_
  unfold a3Y;rw [A3];simp
 | l,hl,m+1,k,c,hk,h0,h1=>by
  have hlt:k<l.length:=by omega
  have hfl:(l.length:Int)<=140737488351232:=by have:=hl;unfold t6 at this;omega
  have hb:a3Y l c (k:Int)=some (.nxt (c+(bif l[k] then 1 else 0),((k+1:Nat):Int))):=by
   unfold a3Y b9k;rw [w8 _ k hlt,u0 hlt,cond_true,e8C,F3 hl hlt];cases l[k]<;>simp only [cond_true,cond_false,e8C]<;>rw [B6 (by omega) (by omega)]
  rw [C9 (body:=fun s:Int×Int=>a3Y l s.1 s.2) hb,c3i l hl m (k+1) _ (by omega) (by cases l[k]<;>simp<;>omega) (by cases l[k]<;>simp<;>omega),e8X hlt];cases l[k]<;>simp
  omega
theorem c36{l:List Bool}(h:t6 l):b1a l=some (N0 l):=by
 unfold b1a;rw [show o9 (fun s:Int×Int=>a3Y l s.1 s.2) (0,0)=_ from c3i l h l.length 0 0 (by omega) (by omega) (by omega)];simp only [e8C,l8.go,c1A,N0,e9F];congr 1
 simp;omega
theorem e8a{l:List m6}{s:Int}(h:z7 96 P7 l)(hl:l.length<=40)(hs:0<=s/\s<=40):b3D l s=some (e8E s.toNat v0++l):=by
 unfold b3D;rw [t5 (by omega),b6u h,e8C,t5 (by simp;omega)];rfl
theorem a9D:∀a b:List m6,(D6 a b).length=max a.length b.length
 | [],b=>by simp [D6]
 | x::a,[]=>by simp [D6]
 | x::a,y::b=>by simp only [D6,e9l,a9D a b];omega
theorem b51:∀(a b:List m6) (k:Nat),(D6 a b)[k]?=match a[k]?,b[k]? with
  | some x,some y=>some (bif decide (y.a8>x.a8) then y else x)
  | some x,none=>some x
  | none,some y=>some y
  | none,none=>none
 | [],b,k=>by simp [D6];cases b[k]?<;>rfl
 | x::a,[],k=>by simp [D6];cases (x::a)[k]?<;>rfl
 | x::a,y::b,0=>by simp [D6]
 | x::a,y::b,k+1=>by simp only [D6,e9I];exact b51 a b k
theorem b0X{a b:List m6}{v:m6}(h:v∈D6 a b):v∈a\/v∈b:=by
 obtain ⟨k,hk⟩:=e9Q h;rw [b51] at hk;cases ha:a[k]? with
 | none =>
  cases hb:b[k]? with
  | none=>rw [ha,hb] at hk;cases hk
  | some y=>rw [ha,hb] at hk;injection hk with hk;subst hk;exact .inr (e8P hb)
 | some x =>
  cases hb:b[k]? with
  | none=>rw [ha,hb] at hk;injection hk with hk;subst hk;exact .inl (e8P ha)
  | some y =>
   rw [ha,hb] at hk;simp only at hk;cases hd:decide (y.a8>x.a8)
   ·rw [hd] at hk;injection hk with hk;subst hk;exact .inl (e8P ha)
   ·rw [hd] at hk;injection hk with hk;subst hk;exact .inr (e8P hb)
theorem d5w{a b:List m6}(ha:z7 96 P7 a)(hb:z7 96 P7 b)(hla:a.length<=80)(hlb:b.length<=80)(hz:∀v∈b,v.a8<=0->v=v0):b6z a b=some (D6 a b):=by
 have hlen:=a9D a b;unfold b6z;rw [a5c (body:=fun s:(List m6)×Int=>a4F a b s.1 s.2) (D6 a b) (by unfold t6;omega) (fun l=>l) (by
  intro k hk;have hget:=b51 a b k;rw [e8D hk] at hget;have hent:∀v,v∈a\/v∈b->D7 v.i0:=fun v hv=>hv.elim (fun q=>(ha.2 v q).2) (fun q=>(hb.2 v q).2)
  have hj1:∀v:m6,D7 v.i0->b4Q ((D6 a b).take k) (k:Int) v=some (.nxt ((D6 a b).take k++[v],m7 ((k:Int)+1))):=by
   intro v hv;unfold b4Q;rw [a0m hv,e8C,t5 (by rw [e83];omega)]
  show a4F a b ((D6 a b).take k) (k:Int)=_
  have hkk:k<a.length\/k<b.length:=by omega
  have hstart:a4F a b ((D6 a b).take k) (k:Int)=b4L a b ((D6 a b).take k) (k:Int):=by
   unfold a4F;by_cases h1:k<a.length
   ·rw [w8 _ k h1];rfl
   ·rw [show decide ((k:Int)<(a.length:Int))=false by simp;omega,w8 _ k (by omega)];rfl
  rw [hstart];unfold b4L;by_cases h1:k<a.length
  ·rw [w8 _ k h1,u0 h1];simp only [cond_true,e8C,l8.go];unfold b57;rw [e8D h1] at hget;by_cases h2:k<b.length
   ·rw [w8 _ k h2,u0 h2];rw [e8D h2] at hget;simp only [cond_true,e8C];injection hget with hget;rw [hget];cases decide (b[k].a8>a[k].a8)
    ·simp only [cond_false,e8C,l8.go];exact hj1 _ (hent _ (.inl (e8F h1)))
    ·simp only [cond_true,e8C,l8.go];exact hj1 _ (hent _ (.inr (e8F h2)))
   ·rw [show decide ((k:Int)<(b.length:Int))=false by simp;omega];rw [e88 (by omega)] at hget;injection hget with hget;rw [hget];simp only [cond_false,e8C,l8.go];exact hj1 _ (hent _ (.inl (e8F h1)))
  ·have h2:k<b.length:=by omega
   rw [show decide ((k:Int)<(a.length:Int))=false by simp;omega];simp only [cond_false,e8C,l8.go];unfold b57;rw [w8 _ k h2,u0 h2];rw [e88 (by omega),e8D h2] at hget;injection hget with hget;rw [hget];simp only [cond_true,e8C];by_cases h3:b[k].a8>0
   ·rw [show decide (b[k].a8>0)=true by simpa using h3];simp only [cond_true,e8C,l8.go];exact hj1 _ (hent _ (.inr (e8F h2)))
   ·have hv:=hz _ (e8F h2) (by omega);rw [show decide (b[k].a8>0)=false by simpa using h3];simp only [cond_false,e8C,l8.go];rw [hv];exact hj1 v0 a0A) (by
  show a4F a b (D6 a b) ((D6 a b).length:Int)=_
  unfold a4F;rw [show decide (((D6 a b).length:Int)<(a.length:Int))=false by simp;omega,show decide (((D6 a b).length:Int)<(b.length:Int))=false by simp;omega];rfl)]
 rfl
theorem e8f{b who:Int}(hb:0<=b/\b<=3000)(hw:0<=who/\who<=2):b7P b who=some (L6 b who):=by
 have e:∀i:Int,1<=i->i<=3->a3r b who (b+i)=some (bif decide (b+i<=3000) then (bif e81 (b+i) 3==who then .ret (b+i) else .nxt (b+(i+1))) else .brk ()):=by
  intro i h1 h3;unfold a3r;rw [B6 (by omega) (by omega),show decide (b+i<=b+3)=true by simp;omega,cond_true,B6 (by omega) (by omega),Int.add_assoc];cases decide (b+i<=3000)
  ·rfl
  ·cases e81 (b+i) 3==who<;>rfl
 have e4:a3r b who (b+4)=some (.brk ()):=by
  unfold a3r;rw [B6 (by omega) (by omega),show decide (b+4<=b+3)=false by simp];rfl
 have e1:=e 1 (by omega) (by omega);have e2:=e 2 (by omega) (by omega);have e3:=e 3 (by omega) (by omega);unfold b7P L6;rw [show decide (b<0)=false by simp;omega,show decide (b>3000)=false by simp;omega,show decide (who<0)=false by simp;omega,show decide (who>=3)=false by simp;omega,B6 (by omega) (by omega)];simp only [cond_false];have hb4:o9 (fun s:Int=>a3r b who s) (b+4)=some (.brk ()):=C2 e4;have h3:o9 (fun s:Int=>a3r b who s) (b+3)=some (bif decide (b+3<=3000)&&(e81 (b+3) 3==who) then .ret (b+3) else .brk ()):=by
  cases q:decide (b+3<=3000)
  ·rw [q] at e3;exact C2 e3
  ·rw [q] at e3;cases t:e81 (b+3) 3==who
   ·rw [t] at e3;rw [C9 e3];exact hb4
   ·rw [t] at e3;exact X7 e3
 have h2:o9 (fun s:Int=>a3r b who s) (b+2)=some (bif decide (b+2<=3000)&&(e81 (b+2) 3==who) then .ret (b+2) else bif decide (b+3<=3000)&&(e81 (b+3) 3==who) then .ret (b+3) else .brk ()):=by
  cases q:decide (b+2<=3000)
  ·rw [q] at e2;rw [show decide (b+3<=3000)=false by simp at q ⊢;omega];exact C2 e2
  ·rw [q] at e2;cases t:e81 (b+2) 3==who
   ·rw [t] at e2;rw [C9 e2];exact h3
   ·rw [t] at e2;exact X7 e2
 have h1:o9 (fun s:Int=>a3r b who s) (b+1)=some (bif decide (b+1<=3000)&&(e81 (b+1) 3==who) then .ret (b+1) else bif decide (b+2<=3000)&&(e81 (b+2) 3==who) then .ret (b+2) else bif decide (b+3<=3000)&&(e81 (b+3) 3==who) then .ret (b+3) else .brk ()):=by
  cases q:decide (b+1<=3000)
  ·rw [q] at e1;rw [show decide (b+2<=3000)=false by simp at q ⊢;omega,show decide (b+3<=3000)=false by simp at q ⊢;omega];exact C2 e1
  ·rw [q] at e1;cases t:e81 (b+1) 3==who
   ·rw [t] at e1;rw [C9 e1];exact h2
   ·rw [t] at e1;exact X7 e1
 rw [h1];cases decide (b+1<=3000)&&(e81 (b+1) 3==who)<;>cases decide (b+2<=3000)&&(e81 (b+2) 3==who)<;>cases decide (b+3<=3000)&&(e81 (b+3) 3==who)<;>rfl
theorem z4{n:Int}(h:-1000000000<=n/\n<=1000000000):G8 n:=⟨by omega,by omega⟩
theorem Z2{α:Type}{b:Nat}{ok:α->Prop}{l:List α}(hl:l.length*b<=1000000000)(h:∀x∈l,ok x):z7 b ok l:=⟨by omega,h⟩
theorem e3H{α:Type}{b:Nat}{ok:α->Prop}{l l':List α}(h:z7 b ok l)(hl:l'.length<=l.length)(hs:∀x∈l',x∈l):z7 b ok l' :=
 ⟨Nat.le_trans (e80 _ hl) h.1,fun x hx=>h.2 x (hs x hx)⟩
theorem b8Q{l:List m4}{q:p8}:L5 l q=(l.findIdx? (G4 q)).isSome:=by
 unfold L5;cases h:l.findIdx? (G4 q) with
 | none =>
  rw [List.findIdx?_eq_none_iff] at h;rw [Option.isSome_none,e9p];intro x hx;rw [h x hx];simp
 | some k =>
  rw [e9C] at h;obtain ⟨hk,h1,_⟩:=h;rw [Option.isSome_some];exact e9W.2 ⟨l[k],e8F hk,h1⟩
theorem d5R{n:j5}(h:z7 88 D7 n.a6)(hok:I3 n.a6=true):b5Y n=some (T1 n):=by
 obtain ⟨hl,he⟩:=a6k hok;have hf:t6 n.a6:=h.fits (by decide);unfold b5Y T1;rw [b5c hf,e8C,b8Q];cases n.i7
 ·rfl
 simp only [e8H,cond_false,cond_true];cases hfi:n.a6.findIdx? (G4 n.b6.a0) with
 | none=>rfl
 | some kk =>
 simp only [Option.isSome_some,e8H,cond_false,c5H,e8C];have:=b6r (body:=fun s:(List q8)×Int×Int×List q9=>a80 n s.1 s.2.1 s.2.2.1 s.2.2.2) (fun k=>((z5 (n.a6.take k)).1.g8,(k:Int),(z5 (n.a6.take k)).1.At,(z5 (n.a6.take k)).1.i9)) n.a6 (G4 n.b6.a0) (fun k=>(a4L n,[⟨n.Id,n.b6.a0,Q8 n.a6 k,bif Q8 n.a6 k==0 then (match n.a6[k]? with|some e=>e.b8.f0|none=>0) else 0⟩])) () (by
   intro k hk;obtain ⟨h1,h2,h3⟩:=a3C hl he k (by omega);unfold a80 c1S G4 Q8;rw [w8 _ k hk,u0 hk,c7S hl he hk,a7b hk,<-F3 hf hk,e8D hk];simp only [cond_true,e8C];rw [show (⟨(z5 (n.a6.take k)).1.At,(z5 (n.a6.take k)).1.g8,(z5 (n.a6.take k)).1.i9⟩:u6)=(z5 (n.a6.take k)).1 from rfl,d1s h1 (by omega) (List.all_eq_true.1 he _ (e8F hk)) (h.2 _ (e8F hk)).f,e8C];cases n.a6[k].i8<;>cases (([n.a6[k].a0.d6,n.a6[k].a0.Seq]:List Int)==[n.b6.a0.d6,n.b6.a0.Seq])<;>first|rfl|skip
   simp only [cond_false,e8H,e8W,e8V,cond_true,e9D];cases ((apply (z5 (n.a6.take k)).1 n.a6[k]).2==0)<;>rfl) (by
   unfold a80;rw [A3];rfl)
 rw [e9e,hfi] at this;rw [show o9 (fun s:(List q8)×Int×Int×List q9=>a80 n s.1 s.2.1 s.2.2.1 s.2.2.2) (T4.g8,0,T4.At,T4.i9)=_ from this];simp only [e8C,l8.go,a0M,hfi];all_goals rfl
end
end Go.Proofs.YtiplopknlhknjaaGreat
