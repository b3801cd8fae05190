/- Abstract values and states of the program, functions of the program and what their calls come to, and what follows from it: part 4 of the text that the law leans on; long names are written short. -/
import Derived.Test.YthbeecjnggpjnaaGreatP3
import Derived.IntWalk
set_option linter.unusedVariables false
set_option linter.unusedSimpArgs false
set_option linter.unnecessarySimpa false
namespace Go.Proofs.YthbeecjnggpjnaaGreat
open Go
open Option renaming bind_some → f5s, getD_some → f6G, map_some → f6I, map_eq_some_iff → f6U
open List renaming getElem?_eq_getElem → f5t, replicate → f5u, getElem_mem → f5v, mem_singleton → f5y, getElem?_eq_some_iff → f5z, range → f5A, mem_cons → f5B, nodup_append → f5C, length_append → f5D, eq_nil_of_length_eq_zero → f5E, mem_of_getElem? → f5F, getD_eq_getElem?_getD → f5G, getElem?_append_right → f5I, append_assoc → f5J, length_take → f5L, take_length → f5M, getElem?_set_ne → f5N, getElem?_append_left → f5O, getElem?_eq_none → f5Q, drop_eq_nil_of_le → f5S, take_succ_eq_append_getElem → f5T, drop_eq_getElem_cons → f5U, flatten_cons → f5X, map_cons → f6b, append_nil → f6d, getElem_of_mem → f6e, any_eq_false → f6f, take_of_length_le → f6g, take_append_of_le_length → f6h, take_zero → f6i, pairwise_iff_getElem → f6j, mem_of_mem_take → f6k, length_map → f6l, mem_replicate → f6m, findIdx?_eq_some_iff_getElem → f6n, nil_append → f6o, mem_of_mem_drop → f6p, take_append_drop → f6r, mem_flatten → f6s, getElem?_map → f6t, mem_take_iff_getElem → f6u, getElem?_set_self → f6v, length_cons → f6y, length_singleton → f6z, getElem?_cons_zero → f6A, mem_range → f6B, map_append → f6E, getElem?_cons_succ → f6F, drop_zero → f6H, pairwise_cons → f6K, length_set → f6M, nodup_cons → f6N, any_eq_true → f6P, mem_append_left → f6R, getElem?_set → f6S, getElem?_drop → f6V, getElem?_take → f6W, find?_cons → f6Y, length_nil → f6Z, all_eq_false → f7a, sublist_append_right → f7c, getElem?_of_mem → f7d, pairwise_append → f7e, Perm → f7g, drop_drop → f7h, cons_append → f7j, not_mem_nil → f7k, getElem_map → f7l, take_succ_cons → f7m, replicate_succ → f7n, foldl_cons → f7o, drop_append_of_le_length → f7p, size_toArray → f7q, toArray → f7r, map_map → f7s, Sublist → f7t, set_getElem_self → f7u, length_replicate → f7w, getElem?_append → f7x, length_drop → f7A, mem_cons_of_mem → f7B, any_cons → f7C, flatten_append → f7D, findIdx?_eq_none_iff → f7F, mem_of_find?_eq_some → f7G, find?_eq_none → f7H, foldl_nil → f7J
open Bool renaming and_eq_true → f5w, not_true → f5x, true_and → f5H, not_false → f5V, not_eq_true' → f6a, false_or → f6c, or_eq_false_iff → f6D, false_eq_true → f6J, and_true → f6L, eq_iff_iff → f6O, and_assoc → f7i, true_or → f7v, not_eq_true → f7z, not_not → f7I
open Nat renaming le_refl → f5K, mul_le_mul_right → f5Y, eq_of_beq_eq_true → f5Z, zero_add → f6x, succ_mul → f6C, lt_of_lt_of_le → f6Q, le_mul_of_pos_right → f6T, add_zero → f6X, le_succ_of_le → f7b, zero_le → f7f
open Int renaming toNat_natCast → f5P, le_refl → f5R, tmod → f5W, le_trans → f6q, tdiv → f7y
open Option.some renaming inj → f6w
open Classical renaming byContradiction → f7E
noncomputable section
def a3t:FS (Bool):=⟨98,Tryz.f98,[.val [] []],[none],[.val [some 2] []],fun r=>.b r,fun _=>[none],Tryz.func98⟩
def c9t(list:List n7):Unit->KS:=fun _=>⟨a3t.k 3 [false],(j8 2 z6 list::(bs 24 [])),[some []]⟩
def c5G(list:List n7):Option Bool :=
 some ((list.length:Int)==4)
theorem e7I(list)(r):NF a3t r (c9t list) (fun s=>c5G list):=fun _ h=>PK<|rg<|fE h
def d8T(list:List n7):Int->KS:=fun v7=>⟨a3t.k 2 [],(j8 2 z6 list::(bs 4 (j8 2 z6 list::(vi (list.length:Int)::(vi v7::(bs 17 [])))))),[some []]⟩
def b72(list:List n7)(v7:Int):Option (j9 Bool Int Unit) :=
 (bif decide (v7<(list.length:Int)) then ((idx list v7).bind fun box=>((D4 box.j4 0 1000000).bind fun in_=>(bif (!in_) then some (j9.ret false) else ((D4 box.f0 (-1000000) 1000000).bind fun in_1=>(bif (!in_1) then some (j9.ret false) else some (j9.nxt (m7 (v7+1)))))))) else some (j9.brk ()))
theorem e3S(list):LQ a3t (c9t list) (d8T list) (fun s=>b72 list s):=fun lc v7 h=>PK<|rg<|j5 0 h (fun h=>rg<|v5 z6 0 h fun box a2E h=>rg<|l7 D1 E9 2 h fun in_ h=>j5 4 h (fun h=>rg<|fL lc h) (fun h=>l7 D1 E9 7 h fun in_1 h=>j5 9 h (fun h=>rg<|fL lc h) (fun h=>rg<|(lc.nx h fun hI=>sk [] [0,5,6,7] [] hI)))) (fun h=>(lc.bk h fun hI=>sk [] [0] [] hI))
def a53(list:List n7):Option Bool :=
 ((p7 (fun s:Int=>b72 list s) 0).bind fun x=>x.go (fun r=>some r) fun s=>c5G list)
theorem b2E{list}:OK a3t [j8 2 z6 list] (a53 list) :=
 o7 _ fun r h=>n6<|lp (e3S list) h (fun _ h=>a3t.rt h) (e7I list r) fun hI=>sk [] [0,5,6,7] [] hI
def a5r:FS (Bool):=⟨144,Tryz.f144,[.val [] []],[none],[.val [none,some 2,some 4] []],fun r=>.b r,fun _=>[none],Tryz.func144⟩
def c5t(s_:u6):Unit->KS:=fun _=>⟨a5r.k 3 [false],(bs 1 (.ptr 1 0 0::(bs 64 []))),[some [],some [.var 120 [vi s_.At,j8 2 z6 s_.g8,j8 4 B6 s_.i9]]]⟩
def c19(s_:u6):Option Bool :=
 ((D4 s_.At 0 40).bind fun in_=>(bif in_ then ((a53 s_.g8).bind fun V6=>some V6) else some false))
theorem f4Z(s_)(r):NF a5r r (c5t s_) (fun s=>c19 s_):=fun _ h=>PK<|rg<|l7 D1 E9 2 h fun in_ h=>j5 3 h (fun h=>l7 a3t b2E 6 h fun V6 h=>fE h) (fun h=>fE h)
def c6Z(s_:u6):Int->KS:=fun v8=>⟨a5r.k 2 [],(bs 1 (.ptr 1 0 0::(bs 4 (j8 4 B6 s_.i9::(vi (s_.i9.length:Int)::(vi v8::(bs 57 []))))))),[some [],some [.var 120 [vi s_.At,j8 2 z6 s_.g8,j8 4 B6 s_.i9]]]⟩
def f2k(s_:u6)(v8:Int):Unit->KS:=fun _=>⟨a5r.k 5 [true,false],(bs 1 (.ptr 1 0 0::(bs 4 (j8 4 B6 s_.i9::(vi (s_.i9.length:Int)::(vi v8::(bs 57 []))))))),[some [],some [.var 120 [vi s_.At,j8 2 z6 s_.g8,j8 4 B6 s_.i9]]]⟩
def c3A(v8:Int):Option (j9 Bool Int Unit) :=
 some (j9.nxt (m7 (v8+1)))
theorem e9T(s_ v8)(lc:F6 a5r (c5t s_) (c6Z s_)):NL lc (f2k s_ v8) (fun s=>c3A v8):=fun _ h=>PK<|rg<|(lc.nx h fun hI=>sk [] [1,6,7,8] [(1,0)] hI)
def b2k(s_:u6)(v8:Int):Option (j9 Bool Int Unit) :=
 (bif decide (v8<(s_.i9.length:Int)) then ((idx s_.i9 v8).bind fun done=>(((bif decide (v8>0) then ((idx s_.i9 (m7 (v8-1))).bind fun a4E=>(bif decide (a4E.a0.b9>=done.a0.b9) then some (l9.ret (j9.ret false)) else ((a65 done.a0).bind fun a6O=>(bif (!a6O) then some (l9.ret (j9.ret false)) else ((D4 done.Code 0 2).bind fun in_1=>(bif (!in_1) then some (l9.ret (j9.ret false)) else ((D4 done.f0 (-1000000) 1000000).bind fun in_2=>(bif (!in_2) then some (l9.ret (j9.ret false)) else (bif (done.Code != 0) then (bif (done.f0 != 0) then some (l9.ret (j9.ret false)) else some (l9.brk ())) else some (l9.brk ())))))))))) else ((a65 done.a0).bind fun b1H=>(bif (!b1H) then some (l9.ret (j9.ret false)) else ((D4 done.Code 0 2).bind fun a0j=>(bif (!a0j) then some (l9.ret (j9.ret false)) else ((D4 done.f0 (-1000000) 1000000).bind fun a5d=>(bif (!a5d) then some (l9.ret (j9.ret false)) else (bif (done.Code != 0) then (bif (done.f0 != 0) then some (l9.ret (j9.ret false)) else some (l9.brk ())) else some (l9.brk ()))))))))):Option (l9 (j9 Bool Int Unit) Unit)).bind fun x=>x.go some fun j=>c3A v8)) else some (j9.brk ()))
theorem e8k(s_):LQ a5r (c5t s_) (c6Z s_) (fun s=>b2k s_ s):=fun lc v8 h=>PK<|rg<|j5 0 h (fun h=>rg<|v5 B6 1 h fun done b8i h=>A6 h (e9T s_ v8 lc) fun x2 h hc2=>rg<|j5 2 h (fun h=>v5 B6 7 h fun a4E e56 h=>j5 16 h (fun h=>rg<|(B7 h hc2 fun h=>fL lc h)) (fun h=>l7 a9D b3G 19 h fun a6O h=>j5 22 h (fun h=>rg<|(B7 h hc2 fun h=>fL lc h)) (fun h=>l7 D1 E9 25 h fun in_1 h=>j5 28 h (fun h=>rg<|(B7 h hc2 fun h=>fL lc h)) (fun h=>l7 D1 E9 31 h fun in_2 h=>j5 34 h (fun h=>rg<|(B7 h hc2 fun h=>fL lc h)) (fun h=>j5 38 h (fun h=>j5 43 h (fun h=>rg<|(B7 h hc2 fun h=>fL lc h)) (fun h=>(o8 h hc2 fun hI=>sk [] [1,6,7,8] [(1,0)] hI))) (fun h=>(o8 h hc2 fun hI=>sk [] [1,6,7,8] [(1,0)] hI))))))) (fun h=>l7 a9D b3G 19 h fun b1H h=>j5 22 h (fun h=>rg<|(B7 h hc2 fun h=>fL lc h)) (fun h=>l7 D1 E9 25 h fun a0j h=>j5 28 h (fun h=>rg<|(B7 h hc2 fun h=>fL lc h)) (fun h=>l7 D1 E9 31 h fun a5d h=>j5 34 h (fun h=>rg<|(B7 h hc2 fun h=>fL lc h)) (fun h=>j5 38 h (fun h=>j5 43 h (fun h=>rg<|(B7 h hc2 fun h=>fL lc h)) (fun h=>(o8 h hc2 fun hI=>sk [] [1,6,7,8] [(1,0)] hI))) (fun h=>(o8 h hc2 fun hI=>sk [] [1,6,7,8] [(1,0)] hI))))))) (fun h=>(lc.bk h fun hI=>sk [] [1] [(1,0)] hI))
def b8C(s_:u6):Option Bool :=
 ((p7 (fun s:Int=>b2k s_ s) 0).bind fun x=>x.go (fun r=>some r) fun s=>c19 s_)
theorem d7t{s_}:OK a5r [.agg (a8b s_)] (b8C s_) :=
 o7 _ fun r h=>n6<|lp (e8k s_) h (fun _ h=>a5r.rt h) (f4Z s_ r) fun hI=>sk [] [1,6,7,8] [(1,0)] hI
def b7Y:FS (List n7):=⟨99,Tryz.f99,[.val [some 2] [some 150]],[none],[.val [some 2] []],fun r=>u9 150 2 z6 r,fun _=>[none],Tryz.func99⟩
def a8t(list:List n7):Option (List n7) :=
 (bif ((list.length:Int)==0) then some [] else (t0 (0<=(list.length:Int)/\(list.length:Int)*16<=140737488355328) ((t0 (list.length=(f5u (list.length:Int).toNat (n7.mk 0 0)).length) (some list)))))
theorem c3J{list}:OK b7Y [j8 2 z6 list] (a8t list) :=
 o7 _ fun r h=>n6<|j5 2 h (fun h=>rg<|fE h) (fun h=>rg<|t9 h fun e1 h=>R8 2 7 150 2 16 z6 (n7.mk 0 0) b2L (.none) e1 (by decide) (by rfl)<|rg<|t9 h fun e2 h=>om (s6.row 150 2 (f5u (list.length:Int).toNat (n7.mk 0 0)).length (list.map z6)=m6 150 2 z6 list) (a1w e2)<|s7 (f5u (list.length:Int).toNat (n7.mk 0 0))<|ob e2<|tl (2,{e:=some (m6 150 2 z6 list)})<|rg<|om ((f5u (list.length:Int).toNat (n7.mk 0 0)).length=list.length) (by simp)<|fE h)
def b27:FS (List s5):=⟨145,Tryz.f145,[.val [some 4] [some 188]],[none],[.val [some 4] []],fun r=>u9 188 4 B6 r,fun _=>[none],Tryz.func145⟩
def a6K(list:List s5):Option (List s5) :=
 (bif ((list.length:Int)==0) then some [] else (t0 (0<=(list.length:Int)/\(list.length:Int)*32<=140737488355328) ((t0 (list.length=(f5u (list.length:Int).toNat (s5.mk (n9.mk 0 0) 0 0)).length) (some list)))))
theorem c0B{list}:OK b27 [j8 4 B6 list] (a6K list) :=
 o7 _ fun r h=>n6<|j5 2 h (fun h=>rg<|fE h) (fun h=>rg<|t9 h fun e1 h=>R8 2 7 188 4 32 B6 (s5.mk (n9.mk 0 0) 0 0) c0q (.none) e1 (by decide) (by rfl)<|rg<|t9 h fun e2 h=>om (s6.row 188 4 (f5u (list.length:Int).toNat (s5.mk (n9.mk 0 0) 0 0)).length (list.map B6)=m6 188 4 B6 list) (a1w e2)<|s7 (f5u (list.length:Int).toNat (s5.mk (n9.mk 0 0) 0 0))<|ob e2<|tl (2,{e:=some (m6 188 4 B6 list)})<|rg<|om ((f5u (list.length:Int).toNat (s5.mk (n9.mk 0 0) 0 0)).length=list.length) (by simp)<|fE h)
def a8m:FS (Bool):=⟨146,Tryz.f146,[.val [] []],[none,none],[.val [some 2] [],.val O2 []],fun r=>.b r,fun _=>[none,none],Tryz.func146⟩
def d23:Unit->KS:=fun _=>⟨a8m.k 4 [false,false],(bs 32 []),[some []]⟩
def d3H:Option Bool :=
 some true
theorem f3d(r):NF a8m r d23 (fun s=>d3H):=fun _ h=>PK<|rg<|fE h
def f4N(list:List n7)(r_:n5):Int->KS:=fun v18=>⟨a8m.k 3 [false],(j8 2 z6 list::(bs 15 (j8 2 v6 r_.b5::(vi (r_.b5.length:Int)::(vi v18::(bs 13 [])))))),[some []]⟩
def b54(list:List n7)(r_:n5)(v18:Int):Option (j9 Bool Int Unit) :=
 (bif decide (v18<(r_.b5.length:Int)) then ((idx r_.b5 v18).bind fun read=>((idx list read.i5).bind fun box=>(bif (box.j4 != read.j4) then some (j9.ret false) else some (j9.nxt (m7 (v18+1)))))) else some (j9.brk ()))
theorem d7E(list r_):LQ a8m d23 (f4N list r_) (fun s=>b54 list r_ s):=fun lc v18 h=>PK<|rg<|j5 0 h (fun h=>rg<|v5 v6 0 h fun read a4b h=>rg<|v5 z6 3 h fun box a2E h=>j5 8 h (fun h=>rg<|fL lc h) (fun h=>rg<|(lc.nx h fun hI=>sk [] [0,16,17,18] [] hI))) (fun h=>(lc.bk h fun hI=>sk [] [] [] hI))
def b61(list:List n7)(r_:n5):Option Bool :=
 ((a53 list).bind fun V6=>(bif (!V6) then some false else ((b0g r_).bind fun a1l=>(bif (!a1l) then some false else ((p7 (fun s:Int=>b54 list r_ s) 0).bind fun x=>x.go (fun r=>some r) fun s=>d3H)))))
theorem f1Z{list r_}:OK a8m [j8 2 z6 list,.agg (Q9 r_)] (b61 list r_) :=
 o7 _ fun r h=>n6<|l7 a3t b2E 1 h fun V6 h=>j5 3 h (fun h=>rg<|fE h) (fun h=>l7 a0B c2R 5 h fun a1l h=>j5 7 h (fun h=>rg<|fE h) (fun h=>rg<|lp (d7E list r_) h (fun _ h=>a8m.rt h) (f3d r) fun hI=>sk [] [0,16,17,18] [] hI))
def a5O:FS (List n7):=⟨143,Tryz.f143,[.val [some 2] [some 150]],[none,none],[.val [some 2] [],.val O2 []],fun r=>u9 150 2 z6 r,fun _=>[none,none],Tryz.func143⟩
def d3q:(List n7)->KS:=fun out1=>⟨a5O.k 5 [false,false],(bs 5 (.own 1 0 2 0 out1.length::(bs 36 []))),[some [],some [m6 150 2 z6 out1]]⟩
def c7f(out1:List n7):Option (List n7) :=
 some out1
theorem e5Q(r):NF a5O r d3q (fun s=>c7f s):=fun out1 h=>PK<|rg<|s7 out1<|fE h
def e5a(r_:n5):((List n7)×Int)->KS:=fun (out,v21)=>⟨a5O.k 4 [false],(bs 5 (.own 1 0 2 0 out.length::(bs 13 (j8 2 w8 r_.b6::(vi (r_.b6.length:Int)::(vi v21::(bs 20 []))))))),[some [],some [m6 150 2 z6 out]]⟩
def b9r(r_:n5)(out:List n7)(v21:Int):Option (j9 (List n7) ((List n7)×Int) (List n7)) :=
 (bif decide (v21<(r_.b6.length:Int)) then ((idx r_.b6 v21).bind fun put=>((idx out put.i5).bind fun U6=>some (j9.nxt (out.set put.i5.toNat (n7.mk (if (m7 (U6.j4+1))<1000000 then (m7 (U6.j4+1)) else 1000000) put.f0),m7 (v21+1))))) else some (j9.brk out))
theorem f4y(r_):LQ a5O d3q (e5a r_) (fun s=>b9r r_ s.1 s.2):=fun lc (out,v21) h=>PK<|rg<|j5 0 h (fun h=>rg<|v5 w8 0 h fun put hput h=>rg<|A8 h fun U6 a7T h=>B5 a7T<|H8 z6 8 a7T<|B5 a7T<|Q3 150 2 z6 15 [] (n7.mk (if (m7 (U6.j4+1))<1000000 then (m7 (U6.j4+1)) else 1000000) put.f0) a7T<|rg<|(lc.nx h fun hI=>om ((.own 1 0 2 0 out.length:V)=.own 1 0 2 0 (out.set put.i5.toNat (n7.mk (if (m7 (U6.j4+1))<1000000 then (m7 (U6.j4+1)) else 1000000) put.f0)).length) (by simp)<|sk [.is (.tmp 5) (.own 1 0 2 0 (out.set put.i5.toNat (n7.mk (if (m7 (U6.j4+1))<1000000 then (m7 (U6.j4+1)) else 1000000) put.f0)).length)] [5,19,20,21] [(1,0)] hI)) (fun h=>(lc.bk h fun hI=>sk [] [5] [(1,0)] hI))
def b4t(list:List n7)(r_:n5):Option (List n7) :=
 ((a53 list).bind fun V6=>(bif (!V6) then some [] else ((b0g r_).bind fun a1l=>(bif (!a1l) then some [] else ((a8t list).bind fun box=>((p7 (fun s:(List n7)×Int=>b9r r_ s.1 s.2) (box,0)).bind fun x=>x.go (fun r=>some r) fun s=>c7f s))))))
theorem c6G{list r_}:OK a5O [j8 2 z6 list,.agg (Q9 r_)] (b4t list r_) :=
 o7 _ fun r h=>n6<|l7 a3t b2E 1 h fun V6 h=>j5 3 h (fun h=>rg<|fE h) (fun h=>l7 a0B c2R 5 h fun a1l h=>j5 7 h (fun h=>rg<|fE h) (fun h=>rg<|l7 b7Y c3J 1 h fun box h=>rg<|lp (f4y r_) h (fun _ h=>a5O.rt h) (e5Q r) fun hI=>sk [] [5,19,20,21] [(12,0)] hI))
def Q4:FS (u6×Int):=⟨104,Tryz.f104,[.val [none,some 2,some 4] [none,some 150,some 188],.val [] []],[none,none],[.val [none,some 2,some 4] [],.val K4 []],fun r=>.tup [.agg (b4D r.1),vi r.2],fun _=>[none,none],Tryz.func104⟩
def c3q(s_:u6)(e_:m4)(box:List n7):Unit->KS:=fun _=>⟨Q4.k 6 [false,false,false],(bs 2 (.ptr 1 0 0::(.ptr 2 0 0::(.ptr 3 0 0::(bs 1 (.ptr 4 0 0::(bs 145 []))))))),[some [],some [.var 120 [vi s_.At,j8 2 z6 s_.g8,j8 4 B6 s_.i9]],some [.var 55 (a20 e_)],some [.var 120 [vi 0,.nil,.nil]],some [.var 120 [vi (m7 (s_.At+1)),.own 5 0 2 0 box.length,.nil]],some [m6 150 2 z6 box]]⟩
def e3u(s_:u6):(s5×List n7)->KS:=fun (own,g8)=>⟨Q4.k 9 [false,false,false,true],(bs 2 (.ptr 1 0 0::(bs 1 (.ptr 2 0 0::(bs 1 (.ptr 3 0 0::(bs 2 (.ptr 5 0 0::(bs 142 []))))))))),[some [],some [.var 120 [vi s_.At,j8 2 z6 s_.g8,j8 4 B6 s_.i9]],some [.var 120 [vi 0,.nil,.nil]],some [.var 120 [vi (m7 (s_.At+1)),.own 4 0 2 0 g8.length,.nil]],some [m6 150 2 z6 g8],some [.var 188 [vi own.a0.b9,vi own.a0.Seq,vi own.Code,vi own.f0]]]⟩
def b4M(s_:u6)(own:s5)(g8:List n7):((List s5)×Bool)->KS:=fun (dones1,put1)=>⟨Q4.k 13 [false,false,false,true,false],(bs 4 (.ptr 1 0 0::(bs 1 (.ptr 2 0 0::(bs 2 (.ptr 4 0 0::(.own 5 0 4 0 dones1.length::(.b put1::(bs 140 []))))))))),[some [],some [.var 120 [vi 0,.nil,.nil]],some [.var 120 [vi (m7 (s_.At+1)),.own 3 0 2 0 g8.length,.nil]],some [m6 150 2 z6 g8],some [.var 188 [vi own.a0.b9,vi own.a0.Seq,vi own.Code,vi own.f0]],some [m6 188 4 B6 dones1]]⟩
def f2p(s_:u6)(own:s5)(g8:List n7):(List s5)->KS:=fun a9r=>⟨Q4.k 15 [false,false,false,true,false,true],(bs 4 (.ptr 1 0 0::(bs 1 (.ptr 2 0 0::(bs 2 (.ptr 4 0 0::(.own 5 0 4 0 a9r.length::(bs 141 [])))))))),[some [],some [.var 120 [vi 0,.nil,.nil]],some [.var 120 [vi (m7 (s_.At+1)),.own 3 0 2 0 g8.length,.nil]],some [m6 150 2 z6 g8],some [.var 188 [vi own.a0.b9,vi own.a0.Seq,vi own.Code,vi own.f0]],some [m6 188 4 B6 a9r]]⟩
def c5R(s_:u6)(own:s5)(g8:List n7)(a9r:List s5):Option (u6×Int) :=
 ((a6K a9r).bind fun a4E=>some ((u6.mk (m7 (s_.At+1)) g8 a4E),own.Code))
theorem f3k(s_ own g8)(r):NF Q4 r (f2p s_ own g8) (fun s=>c5R s_ own g8 s):=fun a9r h=>PK<|rg<|cbS b27 c0B 1 (fun _=>(by simp [b27,K9,R4,O6,V.simple,vi,u9,B6,eI,I7])) (fun _=>(P8 1)) h fun a4E h=>s7 a9r<|rg<|C7 g8 a4E<|fE h
def c4r(s_:u6)(own:s5)(g8:List n7)(dones1:List s5)(put1:Bool):Option (u6×Int) :=
 (((bif (!put1) then (t0 ((dones1.length+1)*32<=140737488355328) (some (l9.brk (dones1++[own])))) else some (l9.brk dones1)):Option (l9 (u6×Int) (List s5))).bind fun x=>x.go some fun j=>c5R s_ own g8 j)
theorem d8y(s_ own g8)(r):NF Q4 r (b4M s_ own g8) (fun s=>c4r s_ own g8 s.1 s.2):=fun (dones1,put1) h=>PK<|A6 h (f3k s_ own g8 r) fun x1 h hc1=>rg<|j5 1 h (fun h=>rg<|tk 2 []<|t9 h fun e1 h=>F9 3 11 188 4 32 B6 dones1 own e1<|E6 own<|(o8 h hc1 fun hI=>sk [] [4,6,9,10] [(1,0),(2,0),(3,0),(4,0),(11,0)] hI)) (fun h=>(o8 h hc1 fun hI=>sk [] [4,6,9,10] [(1,0),(2,0),(3,0),(4,0),(5,0)] hI))
def c3Z(s_:u6)(own:s5)(g8:List n7):((List s5)×Int×Bool)->KS:=fun (dones,v109,put)=>⟨Q4.k 12 [false,false,false,true],(bs 4 (.ptr 1 0 0::(bs 1 (.ptr 2 0 0::(bs 2 (.ptr 4 0 0::(.own 5 0 4 0 dones.length::(.b put::(bs 95 (j8 4 B6 s_.i9::(vi (s_.i9.length:Int)::(vi v109::(bs 42 []))))))))))))),[some [],some [.var 120 [vi 0,.nil,.nil]],some [.var 120 [vi (m7 (s_.At+1)),.own 3 0 2 0 g8.length,.nil]],some [m6 150 2 z6 g8],some [.var 188 [vi own.a0.b9,vi own.a0.Seq,vi own.Code,vi own.f0]],some [m6 188 4 B6 dones]]⟩
def f2D(s_:u6)(own:s5)(g8:List n7)(v109:Int)(done2:s5):((List s5)×Bool)->KS:=fun (dones3,put2)=>⟨Q4.k 17 [false,false,false,true,true,true],(bs 4 (.ptr 1 0 0::(bs 1 (.ptr 2 0 0::(bs 2 (.ptr 4 0 0::(.own 5 0 4 0 dones3.length::(.b put2::(bs 1 (.ptr 6 0 0::(bs 93 (j8 4 B6 s_.i9::(vi (s_.i9.length:Int)::(vi v109::(bs 42 []))))))))))))))),[some [],some [.var 120 [vi 0,.nil,.nil]],some [.var 120 [vi (m7 (s_.At+1)),.own 3 0 2 0 g8.length,.nil]],some [m6 150 2 z6 g8],some [.var 188 [vi own.a0.b9,vi own.a0.Seq,vi own.Code,vi own.f0]],some [m6 188 4 B6 dones3],some [.var 188 [vi done2.a0.b9,vi done2.a0.Seq,vi done2.Code,vi done2.f0]]]⟩
def d9C(s_:u6)(own:s5)(g8:List n7)(v109:Int)(put2:Bool):(List s5)->KS:=fun b2i=>⟨Q4.k 19 [false,false,false,true,true,true,true],(bs 4 (.ptr 1 0 0::(bs 1 (.ptr 2 0 0::(bs 2 (.ptr 4 0 0::(.own 5 0 4 0 b2i.length::(.b put2::(bs 95 (j8 4 B6 s_.i9::(vi (s_.i9.length:Int)::(vi v109::(bs 42 []))))))))))))),[some [],some [.var 120 [vi 0,.nil,.nil]],some [.var 120 [vi (m7 (s_.At+1)),.own 3 0 2 0 g8.length,.nil]],some [m6 150 2 z6 g8],some [.var 188 [vi own.a0.b9,vi own.a0.Seq,vi own.Code,vi own.f0]],some [m6 188 4 B6 b2i]]⟩
def c2u(v109:Int)(put2:Bool)(b2i:List s5):Option (j9 (u6×Int) ((List s5)×Int×Bool) ((List s5)×Bool)) :=
 some (j9.nxt (b2i,m7 (v109+1),put2))
theorem f3w(s_ own g8 v109 put2)(lc:F6 Q4 (b4M s_ own g8) (c3Z s_ own g8)):NL lc (d9C s_ own g8 v109 put2) (fun s=>c2u v109 put2 s):=fun b2i h=>PK<|rg<|(lc.nx h fun hI=>sk [] [4,6,9,10,11,107,108,109] [(1,0),(2,0),(3,0),(4,0),(5,0)] hI)
def c2P(own:s5)(v109:Int)(done2:s5)(dones3:List s5)(put2:Bool):Option (j9 (u6×Int) ((List s5)×Int×Bool) ((List s5)×Bool)) :=
 (((bif (done2.a0.b9 != own.a0.b9) then (t0 ((dones3.length+1)*32<=140737488355328) (some (l9.brk (dones3++[done2])))) else some (l9.brk dones3)):Option (l9 (j9 (u6×Int) ((List s5)×Int×Bool) ((List s5)×Bool)) (List s5))).bind fun x=>x.go some fun j=>c2u v109 put2 j)
theorem f3f(s_ own g8 v109 done2)(lc:F6 Q4 (b4M s_ own g8) (c3Z s_ own g8)):NL lc (f2D s_ own g8 v109 done2) (fun s=>c2P own v109 done2 s.1 s.2):=fun (dones3,put2) h=>PK<|A6 h (f3w s_ own g8 v109 put2 lc) fun x2 h hc2=>rg<|j5 6 h (fun h=>rg<|tk 2 []<|t9 h fun e2 h=>F9 3 17 188 4 32 B6 dones3 done2 e2<|E6 done2<|(o8 h hc2 fun hI=>sk [] [4,6,9,10,11,107,108,109] [(1,0),(2,0),(3,0),(4,0),(17,0)] hI)) (fun h=>(o8 h hc2 fun hI=>sk [] [4,6,9,10,11,107,108,109] [(1,0),(2,0),(3,0),(4,0),(5,0)] hI))
def b3d(s_:u6)(own:s5)(dones:List s5)(v109:Int)(put:Bool):Option (j9 (u6×Int) ((List s5)×Int×Bool) ((List s5)×Bool)) :=
 (bif decide (v109<(s_.i9.length:Int)) then ((idx s_.i9 v109).bind fun done2=>(((bif (!put) then (bif decide (done2.a0.b9>=own.a0.b9) then (t0 ((dones.length+1)*32<=140737488355328) (some (l9.brk (dones++[own],true)))) else some (l9.brk (dones,put))) else some (l9.brk (dones,put))):Option (l9 (j9 (u6×Int) ((List s5)×Int×Bool) ((List s5)×Bool)) ((List s5)×Bool))).bind fun x=>x.go some fun j=>c2P own v109 done2 j.1 j.2)) else some (j9.brk (dones,put)))
theorem e83(s_ own g8):LQ Q4 (b4M s_ own g8) (c3Z s_ own g8) (fun s=>b3d s_ own s.1 s.2.1 s.2.2):=fun lc (dones,v109,put) h=>PK<|rg<|j5 0 h (fun h=>rg<|v5 B6 0 h fun done2 f5j h=>A6 h (f3f s_ own g8 v109 done2 lc) fun x2 h hc2=>rg<|j5 2 h (fun h=>j5 10 h (fun h=>rg<|tk 2 []<|t9 h fun e3 h=>F9 3 25 188 4 32 B6 dones own e3<|E6 own<|rg<|(o8 h hc2 fun hI=>sk [] [4,6,9,10,11,13,107,108,109] [(1,0),(2,0),(3,0),(4,0),(25,0),(9,0)] hI)) (fun h=>(o8 h hc2 fun hI=>sk [] [4,6,9,10,11,13,107,108,109] [(1,0),(2,0),(3,0),(4,0),(5,0),(9,0)] hI))) (fun h=>(o8 h hc2 fun hI=>sk [] [4,6,9,10,11,13,107,108,109] [(1,0),(2,0),(3,0),(4,0),(5,0),(9,0)] hI))) (fun h=>(lc.bk h fun hI=>sk [] [4,6,9,10,11] [(1,0),(2,0),(3,0),(4,0),(5,0)] hI))
def b53(s_:u6)(own:s5)(g8:List n7):Option (u6×Int) :=
 ((p7 (fun s:(List s5)×Int×Bool=>b3d s_ own s.1 s.2.1 s.2.2) ([],0,false)).bind fun x=>x.go (fun r=>some r) fun s=>c4r s_ own g8 s.1 s.2)
theorem f0g(s_)(r):NF Q4 r (e3u s_) (fun s=>b53 s_ s.1 s.2):=fun (own,g8) h=>PK<|N0<|lp (e83 s_ own g8) h (fun _ h=>Q4.rt h) (d8y s_ own g8 r) fun hI=>sk [.own (.tmp 10) 188 4] [4,6,9,10,11,107,108,109] [(2,0),(3,0),(4,0),(5,0),(12,0)] hI
def b5P(s_:u6)(e_:m4)(box:List n7):Option (u6×Int) :=
 ((((b61 s_.g8 e_.b8).bind fun a6g=>(bif (!a6g) then some (l9.brk ((s5.mk e_.a0 1 0),box)) else (bif (e_.b8.Code != 0) then some (l9.brk ((s5.mk e_.a0 2 0),box)) else ((b4t s_.g8 e_.b8).bind fun a9y=>some (l9.brk ((s5.mk e_.a0 0 e_.b8.f0),a9y)))))):Option (l9 (u6×Int) (s5×List n7))).bind fun x=>x.go some fun j=>b53 s_ j.1 j.2)
theorem d9M(s_ e_ box)(r):NF Q4 r (c3q s_ e_ box) (fun s=>b5P s_ e_ box):=fun _ h=>PK<|rg<|A6 h (f0g s_ r) fun x1 h hc1=>rg<|l7 a8m f1Z 4 h fun a6g h=>j5 6 h (fun h=>rg<|(o8 h hc1 fun hI=>sk [] [2,4,6,9] [(1,0),(3,0),(4,0),(5,0),(9,0)] hI)) (fun h=>rg<|j5 4 h (fun h=>rg<|(o8 h hc1 fun hI=>sk [] [2,4,6,9] [(1,0),(3,0),(4,0),(5,0),(9,0)] hI)) (fun h=>n6<|l7 a5O c6G 4 h fun a9y h=>(o8 h hc1 fun hI=>sk [] [2,4,6,9] [(1,0),(3,0),(4,0),(32,0),(9,0)] hI)))
def d1K(s_:u6)(e_:m4)(box:List n7):Int->KS:=fun v45=>⟨Q4.k 5 [false,false],(bs 2 (.ptr 1 0 0::(.ptr 2 0 0::(.ptr 3 0 0::(bs 1 (.ptr 4 0 0::(bs 36 (j8 4 B6 s_.i9::(vi (s_.i9.length:Int)::(vi v45::(bs 106 []))))))))))),[some [],some [.var 120 [vi s_.At,j8 2 z6 s_.g8,j8 4 B6 s_.i9]],some [.var 55 (a20 e_)],some [.var 120 [vi 0,.nil,.nil]],some [.var 120 [vi (m7 (s_.At+1)),.own 5 0 2 0 box.length,.nil]],some [m6 150 2 z6 box]]⟩
def f1a(s_:u6)(e_:m4)(box:List n7)(v45:Int):Unit->KS:=fun _=>⟨Q4.k 8 [false,false,true,false],(bs 2 (.ptr 1 0 0::(.ptr 2 0 0::(.ptr 3 0 0::(bs 1 (.ptr 4 0 0::(bs 36 (j8 4 B6 s_.i9::(vi (s_.i9.length:Int)::(vi v45::(bs 106 []))))))))))),[some [],some [.var 120 [vi s_.At,j8 2 z6 s_.g8,j8 4 B6 s_.i9]],some [.var 55 (a20 e_)],some [.var 120 [vi 0,.nil,.nil]],some [.var 120 [vi (m7 (s_.At+1)),.own 5 0 2 0 box.length,.nil]],some [m6 150 2 z6 box]]⟩
def c1X(v45:Int):Option (j9 (u6×Int) Int Unit) :=
 some (j9.nxt (m7 (v45+1)))
theorem e8P(s_ e_ box v45)(lc:F6 Q4 (c3q s_ e_ box) (d1K s_ e_ box)):NL lc (f1a s_ e_ box v45) (fun s=>c1X v45):=fun _ h=>PK<|rg<|(lc.nx h fun hI=>sk [] [2,3,4,6,43,44,45] [(1,0),(2,0),(3,0),(4,0),(5,0)] hI)
def b8D(s_:u6)(e_:m4)(box:List n7)(v45:Int):Option (j9 (u6×Int) Int Unit) :=
 (bif decide (v45<(s_.i9.length:Int)) then ((idx s_.i9 v45).bind fun b8E=>(((bif (b8E.a0.b9==e_.a0.b9) then (bif decide (b8E.a0.Seq>=e_.a0.Seq) then ((a6K s_.i9).bind fun b34=>(bif (b8E.a0.Seq==e_.a0.Seq) then some (l9.ret (j9.ret ((u6.mk (m7 (s_.At+1)) box b34),3))) else some (l9.ret (j9.ret ((u6.mk (m7 (s_.At+1)) box b34),4))))) else some (l9.brk ())) else some (l9.brk ())):Option (l9 (j9 (u6×Int) Int Unit) Unit)).bind fun x=>x.go some fun j=>c1X v45)) else some (j9.brk ()))
theorem e51(s_ e_ box):LQ Q4 (c3q s_ e_ box) (d1K s_ e_ box) (fun s=>b8D s_ e_ box s):=fun lc v45 h=>PK<|rg<|j5 0 h (fun h=>rg<|v5 B6 0 h fun b8E f5r h=>A6 h (e8P s_ e_ box v45 lc) fun x2 h hc2=>rg<|j5 7 h (fun h=>j5 15 h (fun h=>rg<|l7 b27 c0B 2 h fun b34 h=>rg<|j5 6 h (fun h=>rg<|(B7 h hc2 fun h=>C7 box b34<|fL lc h)) (fun h=>rg<|(B7 h hc2 fun h=>C7 box b34<|fL lc h))) (fun h=>(o8 h hc2 fun hI=>sk [] [2,3,4,6,43,44,45] [(1,0),(2,0),(3,0),(4,0),(5,0)] hI))) (fun h=>(o8 h hc2 fun hI=>sk [] [2,3,4,6,43,44,45] [(1,0),(2,0),(3,0),(4,0),(5,0)] hI))) (fun h=>(lc.bk h fun hI=>sk [] [2,3,4,6] [(1,0),(2,0),(3,0),(4,0),(5,0)] hI))
def b7b(s_:u6)(e_:m4):Option (u6×Int) :=
 ((b8C s_).bind fun d3Z=>(bif (!d3Z) then some ((u6.mk 0 [] []),(-1)) else ((a1Y e_).bind fun E5=>(bif (!E5) then some ((u6.mk 0 [] []),(-1)) else (bif (s_.At==40) then some ((u6.mk 0 [] []),(-1)) else ((a8t s_.g8).bind fun box=>(bif e_.i7 then ((a6K s_.i9).bind fun done=>some ((u6.mk (m7 (s_.At+1)) box done),5)) else ((p7 (fun s:Int=>b8D s_ e_ box s) 0).bind fun x=>x.go (fun r=>some r) fun s=>b5P s_ e_ box))))))))
theorem d8s{s_ e_}:OK Q4 [.agg (a8b s_),.agg (t5 e_)] (b7b s_ e_) :=
 o7 _ fun r h=>n6<|l7 a5r d7t 1 h fun d3Z h=>j5 3 h (fun h=>rg<|fE h) (fun h=>l7 a21 a3T 5 h fun E5 h=>j5 8 h (fun h=>rg<|fE h) (fun h=>j5 12 h (fun h=>rg<|fE h) (fun h=>rg<|l7 b7Y c3J 5 h fun box h=>rg<|j5 1 h (fun h=>rg<|l7 b27 c0B 2 h fun done h=>rg<|C7 box done<|fE h) (fun h=>rg<|lp (e51 s_ e_ box) h (fun _ h=>Q4.rt h) (d9M s_ e_ box r) fun hI=>sk [] [2,3,4,6,43,44,45] [(1,0),(2,0),(3,0),(25,0),(23,0)] hI))))
def a2U:FS (u6×List Int):=⟨71,Tryz.f71,[.val [none,some 2,some 4] [none,some 150,some 188],.val [some 1] [some 3]],[none],[.val [some 7] []],fun r=>.tup [.agg (b4D r.1),u9 3 1 eI r.2],fun _=>[none],Tryz.func71⟩
def c8L:((List n7)×(List s5)×(List Int)×Int)->KS:=fun (Boxes1,Dones1,codes1,sAt1)=>⟨a2U.k 5 [false],(bs 2 (.ptr 1 0 0::(bs 1 (.ptr 2 0 0::(.own 5 0 1 0 codes1.length::(bs 25 [])))))),[some [],some [.var 120 [vi 0,.nil,.nil]],some [.var 120 [vi sAt1,.own 3 0 2 0 Boxes1.length,.own 4 0 4 0 Dones1.length]],some [m6 150 2 z6 Boxes1],some [m6 188 4 B6 Dones1],some [m6 3 1 eI codes1]]⟩
def c8Y(Boxes1:List n7)(Dones1:List s5)(codes1:List Int)(sAt1:Int):Option (u6×List Int) :=
 some ((u6.mk sAt1 Boxes1 Dones1),codes1)
theorem d8h(r):NF a2U r c8L (fun s=>c8Y s.1 s.2.1 s.2.2.1 s.2.2.2):=fun (Boxes1,Dones1,codes1,sAt1) h=>PK<|rg<|Y1 Boxes1 Dones1 codes1<|fE h
def f3p(list:List m4):((List n7)×(List s5)×(List Int)×Int×Int)->KS:=fun (g8,i9,codes,v13,sAt)=>⟨a2U.k 4 [],(bs 2 (.ptr 1 0 0::(bs 1 (.ptr 2 0 0::(.own 5 0 1 0 codes.length::(bs 5 (j8 7 t5 list::(vi (list.length:Int)::(vi v13::(bs 17 [])))))))))),[some [],some [.var 120 [vi 0,.nil,.nil]],some [.var 120 [vi sAt,.own 3 0 2 0 g8.length,.own 4 0 4 0 i9.length]],some [m6 150 2 z6 g8],some [m6 188 4 B6 i9],some [m6 3 1 eI codes]]⟩
def a1m(list:List m4)(g8:List n7)(i9:List s5)(codes:List Int)(v13:Int)(sAt:Int):Option (j9 (u6×List Int) ((List n7)×(List s5)×(List Int)×Int×Int) ((List n7)×(List s5)×(List Int)×Int)) :=
 (bif decide (v13<(list.length:Int)) then ((idx list v13).bind fun entry=>((b7b (u6.mk sAt g8 i9) entry).bind fun a7W=>(t0 ((codes.length+1)*8<=140737488355328) (some (j9.nxt (a7W.1.g8,a7W.1.i9,codes++[a7W.2],m7 (v13+1),a7W.1.At)))))) else some (j9.brk (g8,i9,codes,sAt)))
theorem f4b(list):LQ a2U c8L (f3p list) (fun s=>a1m list s.1 s.2.1 s.2.2.1 s.2.2.2.1 s.2.2.2.2):=fun lc (g8,i9,codes,v13,sAt) h=>PK<|rg<|j5 0 h (fun h=>rg<|v5 t5 0 h fun entry G9 h=>rg<|cbS Q4 d8s 2 (fun _=>(by simp [Q4,K9,R4,O6,V.simple,vi,u9,b4D,z6,B6,eI,I7,a8b])) (fun _=>(P8 2)) h fun a7W h=>C7 g8 i9<|n6<|tk 2 []<|t9 h fun e1 h=>F9 3 25 3 1 8 eI codes a7W.2 e1<|E6 a7W.2<|rg<|(lc.nx h fun hI=>sk [] [2,4,5,11,12,13] [(1,0),(2,0),(13,0),(13,1),(25,0)] hI)) (fun h=>(lc.bk h fun hI=>sk [] [2,4,5] [(1,0),(2,0),(3,0),(4,0),(5,0)] hI))
def a84(list:List m4):Option (u6×List Int) :=
 ((b86).bind fun a1o=>((p7 (fun s:(List n7)×(List s5)×(List Int)×Int×Int=>a1m list s.1 s.2.1 s.2.2.1 s.2.2.2.1 s.2.2.2.2) (a1o.g8,a1o.i9,[],0,a1o.At)).bind fun x=>x.go (fun r=>some r) fun s=>c8Y s.1 s.2.1 s.2.2.1 s.2.2.2))
theorem b8S{list}:OK a2U [j8 7 t5 list] (a84 list) :=
 o7 _ fun r h=>n6<|l7 c8k f0A 0 h fun a1o h=>n6<|lp (f4b list) h (fun _ h=>a2U.rt h) (d8h r) fun hI=>sk [.own (.tmp 5) 3 1] [2,4,5,11,12,13] [(1,0),(4,0),(3,0),(3,1),(10,0)] hI
def c05:FS (u6):=⟨69,Tryz.f69,[.val [none,some 2,some 4] [none,some 150,none]],[none],[.val [some 7] []],fun r=>.agg (b2Z r),fun _=>[none],Tryz.func69⟩
def b1U(list:List m4):Option u6 :=
 ((b0U list).bind fun G6=>(bif (!G6) then some (u6.mk 0 [] []) else ((a84 list).bind fun q9=>some q9.1)))
theorem d0c{list}:OK c05 [j8 7 t5 list] (b1U list) :=
 o7 _ fun r h=>n6<|l7 a4B c3g 1 h fun G6 h=>j5 2 h (fun h=>rg<|fE h) (fun h=>rg<|l7 a2U b8S 1 h fun q9 h=>rg<|C7 q9.1.g8 q9.1.i9<|fE h)
def d3N:FS (u6):=⟨126,Tryz.f126,[.val [none,some 2,some 4] []],[none],[.val A7 []],fun r=>.agg (a8b r),fun _=>[none],Tryz.func126⟩
def b9G(n:j6):Option u6 :=
 ((a4w n).bind fun D2=>(bif (!D2) then some (u6.mk 0 [] []) else ((b1U n.a5).bind fun a3I=>some a3I)))
theorem f4X{n}:OK d3N [.agg (x6 n)] (b9G n) :=
 o7 _ fun r h=>n6<|l7 a0H a85 1 h fun D2 h=>j5 2 h (fun h=>rg<|fE h) (fun h=>rg<|l7 c05 d0c 2 h fun a3I h=>s7 a3I.g8<|fE h)
def a5X:FS (Int):=⟨169,Tryz.f169,[.val [] []],[none,none],[.val O2 [],.val [] []],fun r=>vi r,fun _=>[none,none],Tryz.func169⟩
def c8Q:Unit->KS:=fun _=>⟨a5X.k 3 [false],(bs 21 []),[some []]⟩
def d5I:Option Int :=
 some (-1)
theorem e3B(r):NF a5X r c8Q (fun s=>d5I):=fun _ h=>PK<|rg<|fE h
def f1r(r_:n5)(box:Int):Int->KS:=fun v10=>⟨a5X.k 2 [],(bs 1 (vi box::(bs 6 (j8 2 w8 r_.b6::(vi (r_.b6.length:Int)::(vi v10::(bs 10 []))))))),[some []]⟩
def b3e(r_:n5)(box:Int)(v10:Int):Option (j9 Int Int Unit) :=
 (bif decide (v10<(r_.b6.length:Int)) then ((idx r_.b6 v10).bind fun put=>(bif (put.i5==box) then some (j9.ret v10) else some (j9.nxt (m7 (v10+1))))) else some (j9.brk ()))
theorem e1v(r_ box):LQ a5X c8Q (f1r r_ box) (fun s=>b3e r_ box s):=fun lc v10 h=>PK<|rg<|j5 0 h (fun h=>rg<|v5 w8 1 h fun put hput h=>rg<|j5 3 h (fun h=>rg<|fL lc h) (fun h=>rg<|(lc.nx h fun hI=>sk [] [1,8,9,10] [] hI))) (fun h=>(lc.bk h fun hI=>sk [] [] [] hI))
def b3X(r_:n5)(box:Int):Option Int :=
 ((p7 (fun s:Int=>b3e r_ box s) 0).bind fun x=>x.go (fun r=>some r) fun s=>d5I)
theorem d4P{r_ box}:OK a5X [.agg (Q9 r_),vi box] (b3X r_ box) :=
 o7 _ fun r h=>n6<|lp (e1v r_ box) h (fun _ h=>a5X.rt h) (e3B r) fun hI=>sk [] [1,8,9,10] [] hI
def a7r:FS (Int):=⟨170,Tryz.f170,[.val [] []],[none,none],[.val O2 [],.val [] []],fun r=>vi r,fun _=>[none,none],Tryz.func170⟩
def c58:Unit->KS:=fun _=>⟨a7r.k 3 [false],(bs 21 []),[some []]⟩
def d1C:Option Int :=
 some (-1)
theorem e1G(r):NF a7r r c58 (fun s=>d1C):=fun _ h=>PK<|rg<|fE h
def e8w(r_:n5)(box:Int):Int->KS:=fun v10=>⟨a7r.k 2 [],(bs 1 (vi box::(bs 6 (j8 2 v6 r_.b5::(vi (r_.b5.length:Int)::(vi v10::(bs 10 []))))))),[some []]⟩
def b1E(r_:n5)(box:Int)(v10:Int):Option (j9 Int Int Unit) :=
 (bif decide (v10<(r_.b5.length:Int)) then ((idx r_.b5 v10).bind fun read=>(bif (read.i5==box) then some (j9.ret v10) else some (j9.nxt (m7 (v10+1))))) else some (j9.brk ()))
theorem d60(r_ box):LQ a7r c58 (e8w r_ box) (fun s=>b1E r_ box s):=fun lc v10 h=>PK<|rg<|j5 0 h (fun h=>rg<|v5 v6 1 h fun read a4b h=>rg<|j5 3 h (fun h=>rg<|fL lc h) (fun h=>rg<|(lc.nx h fun hI=>sk [] [1,8,9,10] [] hI))) (fun h=>(lc.bk h fun hI=>sk [] [] [] hI))
def b3Q(r_:n5)(box:Int):Option Int :=
 ((p7 (fun s:Int=>b1E r_ box s) 0).bind fun x=>x.go (fun r=>some r) fun s=>d1C)
theorem f2H{r_ box}:OK a7r [.agg (Q9 r_),vi box] (b3Q r_ box) :=
 o7 _ fun r h=>n6<|lp (d60 r_ box) h (fun _ h=>a7r.rt h) (e1G r) fun hI=>sk [] [1,8,9,10] [] hI
def Q1:FS (n5):=⟨125,Tryz.f125,[.val O2 []],[none,none],[.val [some 2] [],.val [some 4] []],fun r=>.agg (Q9 r),fun _=>[none,none],Tryz.func125⟩
def a7y:((List q8)×(List p6)×(List Int)×(List q8)×List p6)->KS:=fun (Reads2,Puts2,regs1,Reads3,Puts3)=>⟨Q1.k 6 [false,false],(bs 4 (.ptr 1 0 0::(.ptr 4 0 0::(.ptr 5 0 0::(bs 175 []))))),[some [],some [.var 53 [.own 2 0 2 0 Reads2.length,.own 3 0 2 0 Puts2.length,vi 0,vi 0]],some [m6 164 2 v6 Reads2],some [m6 166 2 w8 Puts2],some [.arr 192 1 4 (regs1.map eI)],some [.var 53 [.own 6 0 2 0 Reads3.length,.own 7 0 2 0 Puts3.length,vi 0,vi 0]],some [m6 164 2 v6 Reads3],some [m6 166 2 w8 Puts3]]⟩
def b1v(Reads2:List q8)(Puts2:List p6)(regs1:List Int)(Reads3:List q8)(Puts3:List p6):Option n5 :=
 ((a3s Reads3).bind fun read=>((a7L Puts3).bind fun put=>((idx regs1 0).bind fun y=>(t0 ((0:Int)<4) (some (n5.mk read put y 0))))))
theorem f3S(r):NF Q1 r a7y (fun s=>b1v s.1 s.2.1 s.2.2.1 s.2.2.2.1 s.2.2.2.2):=fun (Reads2,Puts2,regs1,Reads3,Puts3) h=>PK<|rg<|cbS a2r b05 2 (fun _=>(by simp [a2r,K9,R4,O6,V.simple,vi,u9,eI,v6])) (fun _=>(P8 1)) h fun read h=>s7 Reads3<|cbS b9g d5b 5 (fun _=>(by simp [b9g,K9,R4,O6,V.simple,vi,u9,eI,w8])) (fun _=>(P8 1)) h fun put h=>s7 Puts3<|A8 h fun y hy h=>t9 h fun e1 h=>ob (O9 hy)<|ob e1<|ob (U7 (enc:=eI) hy)<|tl (tr 7 (eI y))<|C7 read put<|fE h
def b04(list:List n7)(prog:List n8):((List Int)×(List q8)×(List p6)×(List q8)×(List p6)×Int)->KS:=fun (regs,b5,b6,Reads1,Puts1,at_)=>⟨Q1.k 5 [false],(j8 2 z6 list::(j8 4 A0 prog::(bs 2 (.ptr 1 0 0::(.ptr 2 0 0::(.ptr 3 0 0::(vi at_::(bs 174 [])))))))),[some [],some [.var 53 [.own 4 0 2 0 b5.length,.own 5 0 2 0 b6.length,vi 0,vi 0]],some [.arr 192 1 4 (regs.map eI)],some [.var 53 [.own 6 0 2 0 Reads1.length,.own 7 0 2 0 Puts1.length,vi 0,vi 0]],some [m6 164 2 v6 b5],some [m6 166 2 w8 b6],some [m6 164 2 v6 Reads1],some [m6 166 2 w8 Puts1]]⟩
def d57(list:List n7)(prog:List n8)(regs:List Int)(b5:List q8)(b6:List p6)(Reads1:List q8)(Puts1:List p6)(at_:Int)(ins:n8)(put1:p6):Unit->KS:=fun _=>⟨Q1.k 14 [false,true,true,true,false],(j8 2 z6 list::(j8 4 A0 prog::(bs 2 (.ptr 1 0 0::(.ptr 4 0 0::(.ptr 5 0 0::(vi at_::(bs 174 [])))))))),[some [],some [.var 53 [.own 2 0 2 0 b5.length,.own 3 0 2 0 b6.length,vi 0,vi 0]],some [m6 164 2 v6 b5],some [m6 166 2 w8 b6],some [.arr 192 1 4 ((regs.set ins.A.toNat put1.f0).map eI)],some [.var 53 [.own 6 0 2 0 Reads1.length,.own 7 0 2 0 Puts1.length,vi 0,vi 0]],some [m6 164 2 v6 Reads1],some [m6 166 2 w8 Puts1]]⟩
def c0w(regs:List Int)(b5:List q8)(b6:List p6)(Reads1:List q8)(Puts1:List p6)(at_:Int)(ins:n8)(put1:p6):Option (j9 n5 ((List Int)×(List q8)×(List p6)×(List q8)×(List p6)×Int) ((List q8)×(List p6)×(List Int)×(List q8)×List p6)) :=
 some (j9.nxt (regs.set ins.A.toNat put1.f0,b5,b6,Reads1,Puts1,m7 (at_+1)))
theorem e4q(list prog regs b5 b6 Reads1 Puts1 at_ ins put1)(lc:F6 Q1 a7y (b04 list prog)):NL lc (d57 list prog regs b5 b6 Reads1 Puts1 at_ ins put1) (fun s=>c0w regs b5 b6 Reads1 Puts1 at_ ins put1):=fun _ h=>PK<|rg<|(lc.nx h fun hI=>sk [] [0,1,4,5,6,7] [(1,0),(4,0),(5,0),(2,0),(3,0),(6,0),(7,0)] hI)
def e8S(list:List n7)(prog:List n8)(regs:List Int)(b5:List q8)(b6:List p6)(Reads1:List q8)(Puts1:List p6)(at_:Int)(ins:n8)(put1:p6):Int->KS:=fun a6s=>⟨Q1.k 13 [false,true,true,true],(j8 2 z6 list::(j8 4 A0 prog::(bs 2 (.ptr 1 0 0::(.ptr 4 0 0::(.ptr 5 0 0::(vi at_::(bs 153 (.agg ((regs.set ins.A.toNat put1.f0).map eI).flatten::(vi a6s::(bs 19 []))))))))))),[some [],some [.var 53 [.own 2 0 2 0 b5.length,.own 3 0 2 0 b6.length,vi 0,vi 0]],some [m6 164 2 v6 b5],some [m6 166 2 w8 b6],some [.arr 192 1 4 ((regs.set ins.A.toNat put1.f0).map eI)],some [.var 53 [.own 6 0 2 0 Reads1.length,.own 7 0 2 0 Puts1.length,vi 0,vi 0]],some [m6 164 2 v6 Reads1],some [m6 166 2 w8 Puts1]]⟩
def b2u(regs:List Int)(Reads1:List q8)(ins:n8)(put1:p6)(a6s:Int):Option (j9 n5 Int Unit) :=
 (bif decide (a6s<4) then ((idx (regs.set ins.A.toNat put1.f0) a6s).bind fun y2=>(t0 (a6s<4) (((D4 y2 (-1000000) 1000000).bind fun in_=>(bif (!in_) then ((a3s Reads1).bind fun S4=>some (j9.ret (n5.mk S4 [] 0 2))) else some (j9.nxt (m7 (a6s+1)))))))) else some (j9.brk ()))
theorem f3N(list prog regs b5 b6 Reads1 Puts1 at_ ins put1):LQ Q1 (d57 list prog regs b5 b6 Reads1 Puts1 at_ ins put1) (e8S list prog regs b5 b6 Reads1 Puts1 at_ ins put1) (fun s=>b2u regs Reads1 ins put1 s):=fun lc a6s h=>PK<|rg<|j5 0 h (fun h=>rg<|A8 h fun y2 hy2 h=>t9 h fun e3 h=>ob (O9 hy2)<|ob e3<|om (((regs.set ins.A.toNat put1.f0).map eI).flatten[a6s.toNat]?=some (vi y2)) (c0A (fun _=>rfl) hy2)<|tl (0,{a:=.val (vi y2)})<|rg<|l7 D1 E9 1 h fun in_ h=>j5 2 h (fun h=>rg<|cbS a2r b05 2 (fun _=>(by simp [a2r,K9,R4,O6,V.simple,vi,u9,eI,v6])) (fun _=>(P8 1)) h fun S4 h=>C7 Reads1 S4<|fL lc h) (fun h=>rg<|(lc.nx h fun hI=>om (V.agg (((regs.set ins.A.toNat put1.f0).map eI).flatten.map (W3 [(1,0),(2,0),(3,0),(4,0),(5,0),(6,0),(7,0)]))=.agg ((regs.set ins.A.toNat put1.f0).map eI).flatten) (congrArg V.agg (a8A (fun _=>rfl) _))<|skT [] [0,1,4,5,6,7,161,162] [(1,0),(2,0),(3,0),(4,0),(5,0),(6,0),(7,0)] [(161,.agg ((regs.set ins.A.toNat put1.f0).map eI).flatten)] hI))) (fun h=>(lc.bk h fun hI=>sk [] [0,1,4,5,6,7] [(1,0),(2,0),(3,0),(4,0),(5,0),(6,0),(7,0)] hI))
def f2E(list:List n7)(prog:List n8)(regs:List Int)(b5:List q8)(b6:List p6)(Puts1:List p6)(at_:Int)(ins:n8):(List q8)->KS:=fun Reads4=>⟨Q1.k 13 [false,true,true,false,true],(j8 2 z6 list::(j8 4 A0 prog::(bs 2 (.ptr 1 0 0::(.ptr 4 0 0::(.ptr 5 0 0::(vi at_::(.ptr 8 0 0::(bs 173 []))))))))),[some [],some [.var 53 [.own 2 0 2 0 b5.length,.own 3 0 2 0 b6.length,vi 0,vi 0]],some [m6 164 2 v6 b5],some [m6 166 2 w8 b6],some [.arr 192 1 4 (regs.map eI)],some [.var 53 [.own 6 0 2 0 Reads4.length,.own 7 0 2 0 Puts1.length,vi 0,vi 0]],some [m6 164 2 v6 Reads4],some [m6 166 2 w8 Puts1],some [.var 93 [vi ins.a9,vi ins.A,vi ins.B,vi ins.N]]]⟩
def d5F(list:List n7)(prog:List n8)(regs:List Int)(b5:List q8)(b6:List p6)(Puts1:List p6)(at_:Int)(ins:n8)(Reads4:List q8)(box:n7):Unit->KS:=fun _=>⟨Q1.k 16 [false,true,true,false,true,false],(j8 2 z6 list::(j8 4 A0 prog::(bs 2 (.ptr 1 0 0::(.ptr 4 0 0::(.ptr 5 0 0::(vi at_::(bs 174 [])))))))),[some [],some [.var 53 [.own 2 0 2 0 b5.length,.own 3 0 2 0 b6.length,vi 0,vi 0]],some [m6 164 2 v6 b5],some [m6 166 2 w8 b6],some [.arr 192 1 4 ((regs.set ins.A.toNat box.f0).map eI)],some [.var 53 [.own 6 0 2 0 Reads4.length,.own 7 0 2 0 Puts1.length,vi 0,vi 0]],some [m6 164 2 v6 Reads4],some [m6 166 2 w8 Puts1]]⟩
def b48(regs:List Int)(b5:List q8)(b6:List p6)(Puts1:List p6)(at_:Int)(ins:n8)(Reads4:List q8)(box:n7):Option (j9 n5 ((List Int)×(List q8)×(List p6)×(List q8)×(List p6)×Int) ((List q8)×(List p6)×(List Int)×(List q8)×List p6)) :=
 some (j9.nxt (regs.set ins.A.toNat box.f0,b5,b6,Reads4,Puts1,m7 (at_+1)))
theorem e9i(list prog regs b5 b6 Puts1 at_ ins Reads4 box)(lc:F6 Q1 a7y (b04 list prog)):NL lc (d5F list prog regs b5 b6 Puts1 at_ ins Reads4 box) (fun s=>b48 regs b5 b6 Puts1 at_ ins Reads4 box):=fun _ h=>PK<|rg<|(lc.nx h fun hI=>sk [] [0,1,4,5,6,7] [(1,0),(4,0),(5,0),(2,0),(3,0),(6,0),(7,0)] hI)
def f2B(list:List n7)(prog:List n8)(regs:List Int)(b5:List q8)(b6:List p6)(Puts1:List p6)(at_:Int)(ins:n8)(Reads4:List q8)(box:n7):Int->KS:=fun a5R=>⟨Q1.k 15 [false,true,true,false,true],(j8 2 z6 list::(j8 4 A0 prog::(bs 2 (.ptr 1 0 0::(.ptr 4 0 0::(.ptr 5 0 0::(vi at_::(bs 153 (.agg ((regs.set ins.A.toNat box.f0).map eI).flatten::(vi a5R::(bs 19 []))))))))))),[some [],some [.var 53 [.own 2 0 2 0 b5.length,.own 3 0 2 0 b6.length,vi 0,vi 0]],some [m6 164 2 v6 b5],some [m6 166 2 w8 b6],some [.arr 192 1 4 ((regs.set ins.A.toNat box.f0).map eI)],some [.var 53 [.own 6 0 2 0 Reads4.length,.own 7 0 2 0 Puts1.length,vi 0,vi 0]],some [m6 164 2 v6 Reads4],some [m6 166 2 w8 Puts1]]⟩
def b2R(regs:List Int)(ins:n8)(Reads4:List q8)(box:n7)(a5R:Int):Option (j9 n5 Int Unit) :=
 (bif decide (a5R<4) then ((idx (regs.set ins.A.toNat box.f0) a5R).bind fun y4=>(t0 (a5R<4) (((D4 y4 (-1000000) 1000000).bind fun in_1=>(bif (!in_1) then ((a3s Reads4).bind fun c1n=>some (j9.ret (n5.mk c1n [] 0 2))) else some (j9.nxt (m7 (a5R+1)))))))) else some (j9.brk ()))
theorem d6Z(list prog regs b5 b6 Puts1 at_ ins Reads4 box):LQ Q1 (d5F list prog regs b5 b6 Puts1 at_ ins Reads4 box) (f2B list prog regs b5 b6 Puts1 at_ ins Reads4 box) (fun s=>b2R regs ins Reads4 box s):=fun lc a5R h=>PK<|rg<|j5 0 h (fun h=>rg<|A8 h fun y4 hy4 h=>t9 h fun e5 h=>ob (O9 hy4)<|ob e5<|om (((regs.set ins.A.toNat box.f0).map eI).flatten[a5R.toNat]?=some (vi y4)) (c0A (fun _=>rfl) hy4)<|tl (0,{a:=.val (vi y4)})<|rg<|l7 D1 E9 1 h fun in_1 h=>j5 2 h (fun h=>rg<|cbS a2r b05 2 (fun _=>(by simp [a2r,K9,R4,O6,V.simple,vi,u9,eI,v6])) (fun _=>(P8 1)) h fun c1n h=>C7 Reads4 c1n<|fL lc h) (fun h=>rg<|(lc.nx h fun hI=>om (V.agg (((regs.set ins.A.toNat box.f0).map eI).flatten.map (W3 [(1,0),(2,0),(3,0),(4,0),(5,0),(6,0),(7,0)]))=.agg ((regs.set ins.A.toNat box.f0).map eI).flatten) (congrArg V.agg (a8A (fun _=>rfl) _))<|skT [] [0,1,4,5,6,7,161,162] [(1,0),(2,0),(3,0),(4,0),(5,0),(6,0),(7,0)] [(161,.agg ((regs.set ins.A.toNat box.f0).map eI).flatten)] hI))) (fun h=>(lc.bk h fun hI=>sk [] [0,1,4,5,6,7] [(1,0),(2,0),(3,0),(4,0),(5,0),(6,0),(7,0)] hI))
def b9L(list:List n7)(regs:List Int)(b5:List q8)(b6:List p6)(Puts1:List p6)(at_:Int)(ins:n8)(Reads4:List q8):Option (j9 n5 ((List Int)×(List q8)×(List p6)×(List q8)×(List p6)×Int) ((List q8)×(List p6)×(List Int)×(List q8)×List p6)) :=
 ((idx list ins.B).bind fun box=>((idx regs ins.A).bind fun y3=>(t0 (ins.A<4) (((p7 (fun s:Int=>b2R regs ins Reads4 box s) 0).bind fun x=>x.go (fun r=>some (j9.ret r)) fun s=>b48 regs b5 b6 Puts1 at_ ins Reads4 box)))))
theorem e9Y(list prog regs b5 b6 Puts1 at_ ins)(lc:F6 Q1 a7y (b04 list prog)):NL lc (f2E list prog regs b5 b6 Puts1 at_ ins) (fun s=>b9L list regs b5 b6 Puts1 at_ ins s):=fun Reads4 h=>PK<|rg<|v5 z6 5 h fun box a2E h=>A8 h fun y3 hy3 h=>t9 h fun e4 h=>ob (O9 hy3)<|ob e4<|om (s6.arr 192 1 4 ((regs.map eI).set (ins.A.toNat) [vi box.f0])=s6.arr 192 1 4 ((regs.set ins.A.toNat box.f0).map eI)) (a8M rfl)<|ob (U7 (enc:=eI) hy3)<|tl (9,{a:=.rowck (eI y3) [],e:=some (.arr 192 1 4 ((regs.set ins.A.toNat box.f0).map eI))})<|rg<|om (4*1=4) rfl<|lp (d6Z list prog regs b5 b6 Puts1 at_ ins Reads4 box) h (fun _ h=>lc.rt h) (e9i list prog regs b5 b6 Puts1 at_ ins Reads4 box lc) fun hI=>om (V.agg (((regs.set ins.A.toNat box.f0).map eI).flatten.map (W3 [(1,0),(2,0),(3,0),(4,0),(5,0),(6,0),(7,0)]))=.agg ((regs.set ins.A.toNat box.f0).map eI).flatten) (congrArg V.agg (a8A (fun _=>rfl) _))<|skT [] [0,1,4,5,6,7,161,162] [(1,0),(2,0),(3,0),(4,0),(5,0),(6,0),(7,0)] [(161,.agg ((regs.set ins.A.toNat box.f0).map eI).flatten)] hI
def e3i(list:List n7)(prog:List n8)(b5:List q8)(b6:List p6)(Reads1:List q8):((List Int)×(List p6)×Int)->KS:=fun (regs2,Puts4,at_1)=>⟨Q1.k 13 [false,true,false,true,true],(j8 2 z6 list::(j8 4 A0 prog::(bs 2 (.ptr 1 0 0::(.ptr 4 0 0::(.ptr 5 0 0::(vi at_1::(bs 174 [])))))))),[some [],some [.var 53 [.own 2 0 2 0 b5.length,.own 3 0 2 0 b6.length,vi 0,vi 0]],some [m6 164 2 v6 b5],some [m6 166 2 w8 b6],some [.arr 192 1 4 (regs2.map eI)],some [.var 53 [.own 6 0 2 0 Reads1.length,.own 7 0 2 0 Puts4.length,vi 0,vi 0]],some [m6 164 2 v6 Reads1],some [m6 166 2 w8 Puts4]]⟩
def d2E(list:List n7)(prog:List n8)(b5:List q8)(b6:List p6)(Reads1:List q8)(regs2:List Int)(Puts4:List p6)(at_1:Int):Unit->KS:=fun _=>⟨Q1.k 15 [false,true,false,true,true,false],(j8 2 z6 list::(j8 4 A0 prog::(bs 2 (.ptr 1 0 0::(.ptr 4 0 0::(.ptr 5 0 0::(vi at_1::(bs 174 [])))))))),[some [],some [.var 53 [.own 2 0 2 0 b5.length,.own 3 0 2 0 b6.length,vi 0,vi 0]],some [m6 164 2 v6 b5],some [m6 166 2 w8 b6],some [.arr 192 1 4 (regs2.map eI)],some [.var 53 [.own 6 0 2 0 Reads1.length,.own 7 0 2 0 Puts4.length,vi 0,vi 0]],some [m6 164 2 v6 Reads1],some [m6 166 2 w8 Puts4]]⟩
def b3b(b5:List q8)(b6:List p6)(Reads1:List q8)(regs2:List Int)(Puts4:List p6)(at_1:Int):Option (j9 n5 ((List Int)×(List q8)×(List p6)×(List q8)×(List p6)×Int) ((List q8)×(List p6)×(List Int)×(List q8)×List p6)) :=
 some (j9.nxt (regs2,b5,b6,Reads1,Puts4,m7 (at_1+1)))
theorem e0W(list prog b5 b6 Reads1 regs2 Puts4 at_1)(lc:F6 Q1 a7y (b04 list prog)):NL lc (d2E list prog b5 b6 Reads1 regs2 Puts4 at_1) (fun s=>b3b b5 b6 Reads1 regs2 Puts4 at_1):=fun _ h=>PK<|rg<|(lc.nx h fun hI=>sk [] [0,1,4,5,6,7] [(1,0),(4,0),(5,0),(2,0),(3,0),(6,0),(7,0)] hI)
def e23(list:List n7)(prog:List n8)(b5:List q8)(b6:List p6)(Reads1:List q8)(regs2:List Int)(Puts4:List p6)(at_1:Int):Int->KS:=fun a6W=>⟨Q1.k 14 [false,true,false,true,true],(j8 2 z6 list::(j8 4 A0 prog::(bs 2 (.ptr 1 0 0::(.ptr 4 0 0::(.ptr 5 0 0::(vi at_1::(bs 153 (.agg (regs2.map eI).flatten::(vi a6W::(bs 19 []))))))))))),[some [],some [.var 53 [.own 2 0 2 0 b5.length,.own 3 0 2 0 b6.length,vi 0,vi 0]],some [m6 164 2 v6 b5],some [m6 166 2 w8 b6],some [.arr 192 1 4 (regs2.map eI)],some [.var 53 [.own 6 0 2 0 Reads1.length,.own 7 0 2 0 Puts4.length,vi 0,vi 0]],some [m6 164 2 v6 Reads1],some [m6 166 2 w8 Puts4]]⟩
def b1B(Reads1:List q8)(regs2:List Int)(a6W:Int):Option (j9 n5 Int Unit) :=
 (bif decide (a6W<4) then ((idx regs2 a6W).bind fun y5=>(t0 (a6W<4) (((D4 y5 (-1000000) 1000000).bind fun in_2=>(bif (!in_2) then ((a3s Reads1).bind fun c47=>some (j9.ret (n5.mk c47 [] 0 2))) else some (j9.nxt (m7 (a6W+1)))))))) else some (j9.brk ()))
theorem f1w(list prog b5 b6 Reads1 regs2 Puts4 at_1):LQ Q1 (d2E list prog b5 b6 Reads1 regs2 Puts4 at_1) (e23 list prog b5 b6 Reads1 regs2 Puts4 at_1) (fun s=>b1B Reads1 regs2 s):=fun lc a6W h=>PK<|rg<|j5 0 h (fun h=>rg<|A8 h fun y5 hy5 h=>t9 h fun e7 h=>ob (O9 hy5)<|ob e7<|om ((regs2.map eI).flatten[a6W.toNat]?=some (vi y5)) (c0A (fun _=>rfl) hy5)<|tl (0,{a:=.val (vi y5)})<|rg<|l7 D1 E9 1 h fun in_2 h=>j5 2 h (fun h=>rg<|cbS a2r b05 2 (fun _=>(by simp [a2r,K9,R4,O6,V.simple,vi,u9,eI,v6])) (fun _=>(P8 1)) h fun c47 h=>C7 Reads1 c47<|fL lc h) (fun h=>rg<|(lc.nx h fun hI=>om (V.agg ((regs2.map eI).flatten.map (W3 [(1,0),(2,0),(3,0),(4,0),(5,0),(6,0),(7,0)]))=.agg (regs2.map eI).flatten) (congrArg V.agg (a8A (fun _=>rfl) _))<|skT [] [0,1,4,5,6,7,161,162] [(1,0),(2,0),(3,0),(4,0),(5,0),(6,0),(7,0)] [(161,.agg (regs2.map eI).flatten)] hI))) (fun h=>(lc.bk h fun hI=>sk [] [0,1,4,5,6,7] [(1,0),(2,0),(3,0),(4,0),(5,0),(6,0),(7,0)] hI))
def a9o(b5:List q8)(b6:List p6)(Reads1:List q8)(regs2:List Int)(Puts4:List p6)(at_1:Int):Option (j9 n5 ((List Int)×(List q8)×(List p6)×(List q8)×(List p6)×Int) ((List q8)×(List p6)×(List Int)×(List q8)×List p6)) :=
 ((p7 (fun s:Int=>b1B Reads1 regs2 s) 0).bind fun x=>x.go (fun r=>some (j9.ret r)) fun s=>b3b b5 b6 Reads1 regs2 Puts4 at_1)
theorem e66(list prog b5 b6 Reads1)(lc:F6 Q1 a7y (b04 list prog)):NL lc (e3i list prog b5 b6 Reads1) (fun s=>a9o b5 b6 Reads1 s.1 s.2.1 s.2.2):=fun (regs2,Puts4,at_1) h=>PK<|rg<|om (4*1=4) rfl<|lp (f1w list prog b5 b6 Reads1 regs2 Puts4 at_1) h (fun _ h=>lc.rt h) (e0W list prog b5 b6 Reads1 regs2 Puts4 at_1 lc) fun hI=>om (V.agg ((regs2.map eI).flatten.map (W3 [(1,0),(2,0),(3,0),(4,0),(5,0),(6,0),(7,0)]))=.agg (regs2.map eI).flatten) (congrArg V.agg (a8A (fun _=>rfl) _))<|skT [] [0,1,4,5,6,7,161,162] [(1,0),(2,0),(3,0),(4,0),(5,0),(6,0),(7,0)] [(161,.agg (regs2.map eI).flatten)] hI
def a3G(list:List n7)(prog:List n8)(regs:List Int)(b5:List q8)(b6:List p6)(Reads1:List q8)(Puts1:List p6)(at_:Int):Option (j9 n5 ((List Int)×(List q8)×(List p6)×(List q8)×(List p6)×Int) ((List q8)×(List p6)×(List Int)×(List q8)×List p6)) :=
 (bif decide (at_<(prog.length:Int)) then ((idx prog at_).bind fun ins=>(bif (ins.a9==1) then ((b3X (n5.mk Reads1 Puts1 0 0) ins.B).bind fun X1=>(bif decide (X1>=0) then ((idx Puts1 X1).bind fun put1=>((idx regs ins.A).bind fun y1=>(t0 (ins.A<4) (((p7 (fun s:Int=>b2u regs Reads1 ins put1 s) 0).bind fun x=>x.go (fun r=>some (j9.ret r)) fun s=>c0w regs b5 b6 Reads1 Puts1 at_ ins put1))))) else ((((b3Q (n5.mk Reads1 Puts1 0 0) ins.B).bind fun c9I=>(bif decide (c9I<0) then ((idx list ins.B).bind fun U6=>(t0 ((Reads1.length+1)*16<=140737488355328) (some (l9.brk (Reads1++[(q8.mk ins.B U6.j4)]))))) else some (l9.brk Reads1))):Option (l9 (j9 n5 ((List Int)×(List q8)×(List p6)×(List q8)×(List p6)×Int) ((List q8)×(List p6)×(List Int)×(List q8)×List p6)) (List q8))).bind fun x=>x.go some fun j=>b9L list regs b5 b6 Puts1 at_ ins j))) else (((bif (ins.a9==2) then ((b3X (n5.mk Reads1 Puts1 0 0) ins.A).bind fun a95=>(bif decide (a95>=0) then ((idx regs ins.B).bind fun y6=>(t0 (ins.B<4) (((idx Puts1 a95).bind fun put2=>some (l9.brk (regs,Puts1.set a95.toNat (p6.mk put2.i5 y6),at_)))))) else ((idx regs ins.B).bind fun y7=>(t0 (ins.B<4) ((t0 ((Puts1.length+1)*16<=140737488355328) (some (l9.brk (regs,Puts1++[(p6.mk ins.A y7)],at_))))))))) else (bif (ins.a9==3) then ((idx regs ins.A).bind fun y8=>(t0 (ins.A<4) (some (l9.brk (regs.set ins.A.toNat ins.N,Puts1,at_))))) else (bif (ins.a9==4) then ((idx regs ins.A).bind fun y9=>(t0 (ins.A<4) (((idx regs ins.B).bind fun y10=>(t0 (ins.B<4) ((t0 (ins.A<4) (some (l9.brk (regs.set ins.A.toNat (m7 (y9+y10)),Puts1,at_)))))))))) else (bif (ins.a9==5) then ((idx regs ins.A).bind fun y11=>(t0 (ins.A<4) (((idx regs ins.B).bind fun y12=>(t0 (ins.B<4) ((t0 (ins.A<4) (some (l9.brk (regs.set ins.A.toNat (m7 (y11-y12)),Puts1,at_)))))))))) else (bif (ins.a9==6) then ((idx regs ins.A).bind fun y13=>(t0 (ins.A<4) (((idx regs ins.B).bind fun y14=>(t0 (ins.B<4) ((bif decide (y13<y14) then some (l9.brk (regs,Puts1,m7 (at_+ins.N))) else some (l9.brk (regs,Puts1,at_))))))))) else (bif (ins.a9==7) then ((a3s Reads1).bind fun c1U=>some (l9.ret (j9.ret (n5.mk c1U [] 0 1)))) else some (l9.brk (regs,Puts1,at_)))))))):Option (l9 (j9 n5 ((List Int)×(List q8)×(List p6)×(List q8)×(List p6)×Int) ((List q8)×(List p6)×(List Int)×(List q8)×List p6)) ((List Int)×(List p6)×Int))).bind fun x=>x.go some fun j=>a9o b5 b6 Reads1 j.1 j.2.1 j.2.2))) else some (j9.brk (b5,b6,regs,Reads1,Puts1)))
set_option maxRecDepth 20000 in
theorem e7m(list prog):LQ Q1 a7y (b04 list prog) (fun s=>a3G list prog s.1 s.2.1 s.2.2.1 s.2.2.2.1 s.2.2.2.2.1 s.2.2.2.2.2):=fun lc (regs,b5,b6,Reads1,Puts1,at_) h=>PK<|rg<|j5 3 h (fun h=>rg<|v5 A0 2 h fun ins hins h=>n6<|j5 1 h (fun h=>rg<|T5 a5X d4P 3 2 h fun X1 h=>C7 Reads1 Puts1<|rg<|j5 1 h (fun h=>rg<|A8 h fun put1 b1u h=>B5 b1u<|H8 w8 7 b1u<|A8 h fun y1 hy1 h=>t9 h fun e2 h=>ob (O9 hy1)<|ob e2<|om (s6.arr 192 1 4 ((regs.map eI).set (ins.A.toNat) [vi put1.f0])=s6.arr 192 1 4 ((regs.set ins.A.toNat put1.f0).map eI)) (a8M rfl)<|ob (U7 (enc:=eI) hy1)<|tl (9,{a:=.rowck (eI y1) [],e:=some (.arr 192 1 4 ((regs.set ins.A.toNat put1.f0).map eI))})<|rg<|om (4*1=4) rfl<|lp (f3N list prog regs b5 b6 Reads1 Puts1 at_ ins put1) h (fun _ h=>lc.rt h) (e4q list prog regs b5 b6 Reads1 Puts1 at_ ins put1 lc) fun hI=>om (V.agg (((regs.set ins.A.toNat put1.f0).map eI).flatten.map (W3 [(1,0),(4,0),(5,0),(2,0),(3,0),(6,0),(7,0)]))=.agg ((regs.set ins.A.toNat put1.f0).map eI).flatten) (congrArg V.agg (a8A (fun _=>rfl) _))<|skT [] [0,1,4,5,6,7,161,162] [(1,0),(4,0),(5,0),(2,0),(3,0),(6,0),(7,0)] [(161,.agg ((regs.set ins.A.toNat put1.f0).map eI).flatten)] hI) (fun h=>A6 h (e9Y list prog regs b5 b6 Puts1 at_ ins lc) fun x2 h hc2=>rg<|T5 a7r f2H 3 2 h fun c9I h=>C7 Reads1 Puts1<|j5 4 h (fun h=>rg<|v5 z6 7 h fun U6 a7T h=>tk 11 []<|t9 h fun e6 h=>F9 12 46 164 2 16 v6 Reads1 (q8.mk ins.B U6.j4) e6<|E6 (q8.mk ins.B U6.j4)<|(o8 h hc2 fun hI=>sk [] [0,1,4,5,6,7,8] [(1,0),(4,0),(5,0),(2,0),(3,0),(46,0),(7,0),(16,0)] hI)) (fun h=>(o8 h hc2 fun hI=>sk [] [0,1,4,5,6,7,8] [(1,0),(4,0),(5,0),(2,0),(3,0),(6,0),(7,0),(16,0)] hI)))) (fun h=>A6 h (e66 list prog b5 b6 Reads1 lc) fun x2 h hc2=>rg<|j5 1 h (fun h=>rg<|T5 a5X d4P 3 2 h fun a95 h=>C7 Reads1 Puts1<|rg<|j5 1 h (fun h=>rg<|A8 h fun y6 hy6 h=>t9 h fun e8 h=>ob (O9 hy6)<|ob e8<|ob (U7 (enc:=eI) hy6)<|tl (tr 6 (eI y6))<|A8 h fun put2 c7J h=>B5 c7J<|Q3 166 2 w8 9 [] (p6.mk put2.i5 y6) c7J<|(o8 h hc2 fun hI=>om ((.own 7 0 2 0 Puts1.length:V)=.own 7 0 2 0 (Puts1.set a95.toNat (p6.mk put2.i5 y6)).length) (by simp)<|sk [.is (.cell 3 0 1) (.own 7 0 2 0 (Puts1.set a95.toNat (p6.mk put2.i5 y6)).length)] [0,1,4,5,6,7] [(1,0),(4,0),(5,0),(2,0),(3,0),(6,0),(7,0)] hI)) (fun h=>rg<|A8 h fun y7 hy7 h=>t9 h fun e9 h=>ob (O9 hy7)<|ob e9<|ob (U7 (enc:=eI) hy7)<|tl (tr 7 (eI y7))<|tk 9 []<|t9 h fun e10 h=>F9 10 41 166 2 16 w8 Puts1 (p6.mk ins.A y7) e10<|E6 (p6.mk ins.A y7)<|(o8 h hc2 fun hI=>sk [] [0,1,4,5,6,7] [(1,0),(4,0),(5,0),(2,0),(3,0),(6,0),(41,0)] hI))) (fun h=>rg<|j5 1 h (fun h=>rg<|A8 h fun y8 hy8 h=>t9 h fun e11 h=>ob (O9 hy8)<|ob e11<|om (s6.arr 192 1 4 ((regs.map eI).set (ins.A.toNat) [vi ins.N])=s6.arr 192 1 4 ((regs.set ins.A.toNat ins.N).map eI)) (a8M rfl)<|ob (U7 (enc:=eI) hy8)<|tl (5,{a:=.rowck (eI y8) [],e:=some (.arr 192 1 4 ((regs.set ins.A.toNat ins.N).map eI))})<|(o8 h hc2 fun hI=>sk [] [0,1,4,5,6,7] [(1,0),(4,0),(5,0),(2,0),(3,0),(6,0),(7,0)] hI)) (fun h=>rg<|j5 1 h (fun h=>rg<|A8 h fun y9 hy9 h=>t9 h fun e12 h=>ob (O9 hy9)<|ob e12<|ob (U7 (enc:=eI) hy9)<|tl (tr 3 (eI y9))<|A8 h fun y10 d4h h=>t9 h fun e13 h=>ob (O9 d4h)<|ob e13<|ob (U7 (enc:=eI) d4h)<|tl (tr 7 (eI y10))<|t9 h fun e14 h=>ob (O9 hy9)<|ob e14<|om (s6.arr 192 1 4 ((regs.map eI).set (ins.A.toNat) [vi (m7 (y9+y10))])=s6.arr 192 1 4 ((regs.set ins.A.toNat (m7 (y9+y10))).map eI)) (a8M rfl)<|ob (U7 (enc:=eI) hy9)<|tl (10,{a:=.rowck (eI y9) [],e:=some (.arr 192 1 4 ((regs.set ins.A.toNat (m7 (y9+y10))).map eI))})<|(o8 h hc2 fun hI=>sk [] [0,1,4,5,6,7] [(1,0),(4,0),(5,0),(2,0),(3,0),(6,0),(7,0)] hI)) (fun h=>rg<|j5 1 h (fun h=>rg<|A8 h fun y11 b9Y h=>t9 h fun e15 h=>ob (O9 b9Y)<|ob e15<|ob (U7 (enc:=eI) b9Y)<|tl (tr 3 (eI y11))<|A8 h fun y12 d3J h=>t9 h fun e16 h=>ob (O9 d3J)<|ob e16<|ob (U7 (enc:=eI) d3J)<|tl (tr 7 (eI y12))<|t9 h fun e17 h=>ob (O9 b9Y)<|ob e17<|om (s6.arr 192 1 4 ((regs.map eI).set (ins.A.toNat) [vi (m7 (y11-y12))])=s6.arr 192 1 4 ((regs.set ins.A.toNat (m7 (y11-y12))).map eI)) (a8M rfl)<|ob (U7 (enc:=eI) b9Y)<|tl (10,{a:=.rowck (eI y11) [],e:=some (.arr 192 1 4 ((regs.set ins.A.toNat (m7 (y11-y12))).map eI))})<|(o8 h hc2 fun hI=>sk [] [0,1,4,5,6,7] [(1,0),(4,0),(5,0),(2,0),(3,0),(6,0),(7,0)] hI)) (fun h=>rg<|j5 1 h (fun h=>rg<|A8 h fun y13 c6L h=>t9 h fun e18 h=>ob (O9 c6L)<|ob e18<|ob (U7 (enc:=eI) c6L)<|tl (tr 3 (eI y13))<|A8 h fun y14 d5Q h=>t9 h fun e19 h=>ob (O9 d5Q)<|ob e19<|ob (U7 (enc:=eI) d5Q)<|tl (tr 7 (eI y14))<|j5 8 h (fun h=>rg<|(o8 h hc2 fun hI=>sk [] [0,1,4,5,6,7] [(1,0),(4,0),(5,0),(2,0),(3,0),(6,0),(7,0)] hI)) (fun h=>(o8 h hc2 fun hI=>sk [] [0,1,4,5,6,7] [(1,0),(4,0),(5,0),(2,0),(3,0),(6,0),(7,0)] hI))) (fun h=>rg<|j5 1 h (fun h=>rg<|cbS a2r b05 2 (fun _=>(by simp [a2r,K9,R4,O6,V.simple,vi,u9,eI,v6])) (fun _=>(P8 1)) h fun c1U h=>s7 Reads1<|(B7 h hc2 fun h=>s7 c1U<|fL lc h)) (fun h=>(o8 h hc2 fun hI=>sk [] [0,1,4,5,6,7] [(1,0),(4,0),(5,0),(2,0),(3,0),(6,0),(7,0)] hI))))))))) (fun h=>(lc.bk h fun hI=>sk [] [4,5,6] [(1,0),(4,0),(5,0),(2,0),(3,0),(6,0),(7,0)] hI))
def b3T(list:List n7)(prog:List n8):Option n5 :=
 ((a53 list).bind fun V6=>(bif (!V6) then some (n5.mk [] [] 0 3) else ((a8y prog).bind fun E1=>(bif (!E1) then some (n5.mk [] [] 0 3) else ((p7 (fun s:(List Int)×(List q8)×(List p6)×(List q8)×(List p6)×Int=>a3G list prog s.1 s.2.1 s.2.2.1 s.2.2.2.1 s.2.2.2.2.1 s.2.2.2.2.2) (f5u 4 (0:Int),[],[],[],[],0)).bind fun x=>x.go (fun r=>some r) fun s=>b1v s.1 s.2.1 s.2.2.1 s.2.2.2.1 s.2.2.2.2)))))
theorem c56{list prog}:OK Q1 [j8 2 z6 list,j8 4 A0 prog] (b3T list prog) :=
 o7 _ fun r h=>n6<|l7 a3t b2E 1 h fun V6 h=>j5 3 h (fun h=>rg<|fE h) (fun h=>l7 a37 b5A 5 h fun E1 h=>j5 7 h (fun h=>rg<|fE h) (fun h=>rg<|om ((f5u 4 ([vi 0]:List V)).flatten=[vi 0,vi 0,vi 0,vi 0]/\([vi 0]:List V).length=1) ⟨rfl,rfl⟩<|n6<|lp (e7m list prog) h (fun _ h=>Q1.rt h) (f3S r) fun hI=>sk [.own (.cell 1 0 0) 164 2,.own (.cell 1 0 1) 166 2,.own (.cell 12 0 0) 164 2,.own (.cell 12 0 1) 166 2] [0,1,4,5,6,7] [(1,0),(10,0),(12,0),(15,0),(16,0),(17,0),(18,0)] hI))
def a2b:FS (Int):=⟨70,Tryz.f70,[.val [] []],[none,none],[.val [some 7] [],.val [] []],fun r=>vi r,fun _=>[none,none],Tryz.func70⟩
def c31:Unit->KS:=fun _=>⟨a2b.k 3 [false],(bs 25 []),[some []]⟩
def c5W:Option Int :=
 some (-1)
theorem e9u(r):NF a2b r c31 (fun s=>c5W):=fun _ h=>PK<|rg<|fE h
def d1V(list:List m4)(q:n9):Int->KS:=fun v9=>⟨a2b.k 2 [],(bs 3 (.ptr 1 0 0::(bs 3 (j8 7 t5 list::(vi (list.length:Int)::(vi v9::(bs 15 []))))))),[some [],some [.var 49 [vi q.b9,vi q.Seq]]]⟩
def e5s(list:List m4)(q:n9)(v9:Int):Unit->KS:=fun _=>⟨a2b.k 5 [true,false],(bs 3 (.ptr 1 0 0::(bs 3 (j8 7 t5 list::(vi (list.length:Int)::(vi v9::(bs 15 []))))))),[some [],some [.var 49 [vi q.b9,vi q.Seq]]]⟩
def c5o(v9:Int):Option (j9 Int Int Unit) :=
 some (j9.nxt (m7 (v9+1)))
theorem e8r(list q v9)(lc:F6 a2b c31 (d1V list q)):NL lc (e5s list q v9) (fun s=>c5o v9):=fun _ h=>PK<|rg<|(lc.nx h fun hI=>sk [] [3,7,8,9] [(1,0)] hI)
def a9Q(list:List m4)(q:n9)(v9:Int):Option (j9 Int Int Unit) :=
 (bif decide (v9<(list.length:Int)) then ((idx list v9).bind fun entry=>(((bif (!entry.i7) then (bif (([entry.a0.b9,entry.a0.Seq]:List Int)==[q.b9,q.Seq]) then some (l9.ret (j9.ret v9)) else some (l9.brk ())) else some (l9.brk ())):Option (l9 (j9 Int Int Unit) Unit)).bind fun x=>x.go some fun j=>c5o v9)) else some (j9.brk ()))
theorem e82(list q):LQ a2b c31 (d1V list q) (fun s=>a9Q list q s):=fun lc v9 h=>PK<|rg<|j5 0 h (fun h=>rg<|v5 t5 1 h fun entry G9 h=>A6 h (e8r list q v9 lc) fun x2 h hc2=>rg<|j5 3 h (fun h=>j5 8 h (fun h=>rg<|(B7 h hc2 fun h=>fL lc h)) (fun h=>(o8 h hc2 fun hI=>sk [] [3,7,8,9] [(1,0)] hI))) (fun h=>(o8 h hc2 fun hI=>sk [] [3,7,8,9] [(1,0)] hI))) (fun h=>(lc.bk h fun hI=>sk [] [] [] hI))
def a5F(list:List m4)(q:n9):Option Int :=
 ((p7 (fun s:Int=>a9Q list q s) 0).bind fun x=>x.go (fun r=>some r) fun s=>c5W)
theorem b14{list q}:OK a2b [j8 7 t5 list,.agg (I7 q)] (a5F list q) :=
 o7 _ fun r h=>n6<|lp (e82 list q) h (fun _ h=>a2b.rt h) (e9u r) fun hI=>sk [] [3,7,8,9] [(1,0)] hI
def c4F:FS (Bool×o9):=⟨176,Tryz.f176,[.val [] []],[some (0,.ptr I4 L2),none],[.ptr I4 L2,.val [] []],fun r=>.b r.1,fun r=>[some (.optr 173 (M0 r.2)),none],Tryz.func176⟩
def b4k(a:o9)(q:n9):Option (Bool×o9) :=
 ((a5F a.n.a5 q).bind fun first=>some (decide (first>=0),a))
theorem d1L{a q}:OK c4F [.optr 173 (M0 a),.agg (I7 q)] (b4k a q) :=
 o7 _ fun r h=>n6<|T5 a2b b14 6 2 h fun first h=>s7 a.n.a5<|C6 a<|fE h
def a0m:FS (m4×Bool×o9):=⟨171,Tryz.f171,[.val K4 [],.val [] []],[some (0,.ptr I4 L2)],[.ptr I4 L2],fun r=>.tup [.agg (t5 r.1),.b r.2.1],fun r=>[some (.optr 173 (M0 r.2.2))],Tryz.func171⟩
def f1x(a:o9):Unit->KS:=fun _=>⟨a0m.k 3 [false],(.ptr 0 0 0::(bs 1 (.ptr 1 0 0::(bs 1 (vi (a.n.a5.length:Int)::(bs 112 [])))))),[some ([.var 173 (c3u a)]++c3a a),some [.var 55 [.b false,vi 0,vi 0,.nil,.nil,vi 0,vi 0]]]⟩
def d6v(a:o9):Unit->KS:=fun _=>⟨a0m.k 5 [false,false],(.ptr 0 0 0::(bs 1 (.ptr 1 0 0::(bs 114 [])))),[some ([.var 173 (c3u a)]++c3a a),some [.var 55 [.b false,vi 0,vi 0,.nil,.nil,vi 0,vi 0]]]⟩
def e9P:o9->KS:=fun a1=>⟨a0m.k 6 [false,false,false],(.ptr 0 0 0::(bs 1 (.ptr 6 0 0::(bs 114 [])))),[some [.var 173 (b31 a1),.dead,.dead,.dead,.dead,.dead]]++a3h a1++[some [.var 55 [.b false,vi 0,vi 0,.nil,.nil,vi 0,vi 0]]]⟩
def d5n:o9->KS:=fun w=>⟨a0m.k 7 [false,false,false,false],(bs 2 (.ptr 6 0 0::(bs 114 []))),[some [.var 173 (b31 w),.dead,.dead,.dead,.dead,.dead]]++a3h w++[some [.var 55 [.b false,vi 0,vi 0,.nil,.nil,vi 0,vi 0]]]⟩
def d6t(w:o9):Option (m4×Bool×o9) :=
 some ((m4.mk false (n9.mk 0 0) (n5.mk [] [] 0 0)),false,w)
theorem d9Z(r):NF a0m r d5n (fun s=>d6t s):=fun w h=>PK<|rg<|C6 w<|fE h
def e8V:o9->KS:=fun a2=>⟨a0m.k 6 [false,false,false],(.ptr 0 0 0::(bs 1 (.ptr 6 0 0::(bs 114 [])))),[some [.var 173 (b31 a2),.dead,.dead,.dead,.dead,.dead]]++a3h a2++[some [.var 55 [.b false,vi 0,vi 0,.nil,.nil,vi 0,vi 0]]]⟩
def a4A(a2:o9):Option (j9 (m4×Bool×o9) o9 o9) :=
 (bif decide ((a2.n.d9.length:Int)>0) then ((idx a2.n.d9 0).bind fun entry=>(t0 ((0:Int)<=1/\1<=(a2.n.d9.length:Int)) (((b4k (o9.mk (j6.mk a2.n.Id a2.n.Acc a2.n.a5 a2.n.Seq a2.n.d7 a2.n.a8 a2.n.c8 a2.n.i4 a2.n.c9 a2.n.a7 a2.n.i8 a2.n.i6 a2.n.b7 ((a2.n.d9.drop (1:Int).toNat).take (a2.n.d9.length-(1:Int).toNat))) a2.out a2.told) entry.a0).bind fun b4f=>(bif (!b4f.1) then some (j9.ret (entry,true,b4f.2)) else some (j9.nxt b4f.2)))))) else some (j9.brk a2))
theorem f5e:LQ a0m d5n e8V (fun s=>a4A s):=fun lc a2 h=>PK<|rg<|j5 6 h (fun h=>rg<|v5 t5 5 h fun entry G9 h=>rg<|t9 h fun e1 h=>om (V.sl 7 (a2.n.d9.length-(1:Int).toNat) (((a2.n.d9.map t5).drop (1:Int).toNat).take (a2.n.d9.length-(1:Int).toNat))=j8 7 t5 ((a2.n.d9.drop (1:Int).toNat).take (a2.n.d9.length-(1:Int).toNat))) (b2X e1)<|ob e1.1<|ob e1.2<|tl (6,{v:=some (j8 7 t5 ((a2.n.d9.drop (1:Int).toNat).take (a2.n.d9.length-(1:Int).toNat)))})<|rg<|l7 c4F d1L 3 h fun b4f h=>C6 a2<|j5 4 h (fun h=>rg<|C6 b4f.2<|fL lc h) (fun h=>(lc.nx h fun hI=>sk [] [0,2] [(37,0),(37,1),(37,2),(37,3),(37,4),(6,0)] hI))) (fun h=>(lc.bk h fun hI=>sk [] [2] [(1,0),(2,0),(3,0),(4,0),(5,0),(6,0)] hI))
def b8N(a1:o9):Option (m4×Bool×o9) :=
 ((p7 (fun s:o9=>a4A s) a1).bind fun x=>x.go (fun r=>some r) fun s=>d6t s)
theorem d92(r):NF a0m r e9P (fun s=>b8N s):=fun a1 h=>PK<|lp (f5e) h (fun _ h=>a0m.rt h) (d9Z r) fun hI=>sk [] [0,2] [(1,0),(2,0),(3,0),(4,0),(5,0),(6,0)] hI
def c2w(a:o9):Option (m4×Bool×o9) :=
 (((bif a.n.i8 then ((b4k a a.n.b7.a0).bind fun b0v=>(bif (!b0v.1) then some (l9.ret (b0v.2.n.b7,true,b0v.2)) else some (l9.brk b0v.2))) else some (l9.brk a)):Option (l9 (m4×Bool×o9) o9)).bind fun x=>x.go some fun j=>b8N j)
theorem f1g(a)(r):NF a0m r (d6v a) (fun s=>c2w a):=fun _ h=>PK<|A6 h (d92 r) fun x1 h hc1=>rg<|j5 5 h (fun h=>l7 c4F d1L 13 h fun b0v h=>C6 a<|j5 15 h (fun h=>rg<|(B7 h hc1 fun h=>C6 b0v.2<|fE h)) (fun h=>(o8 h hc1 fun hI=>sk [] [0,2] [(15,0),(15,1),(15,2),(15,3),(15,4),(1,0)] hI))) (fun h=>(o8 h hc1 fun hI=>sk [] [0,2] [(0,1),(0,2),(0,3),(0,4),(0,5),(1,0)] hI))
def e8A(a:o9):Int->KS:=fun i=>⟨a0m.k 4 [false],(.ptr 0 0 0::(bs 1 (.ptr 1 0 0::(bs 2 (vi i::(bs 111 [])))))),[some ([.var 173 (c3u a)]++c3a a),some [.var 55 [.b false,vi 0,vi 0,.nil,.nil,vi 0,vi 0]]]⟩
def a5s(a:o9)(i:Int):Option (j9 (m4×Bool×o9) Int Unit) :=
 (bif decide (i<(a.n.i4.length:Int)) then ((idx a.n.i4 i).bind fun vote=>(bif (vote.a8 != 0) then some (j9.ret ((m4.mk true (n9.mk 0 0) (n5.mk [] [] 0 0)),true,a)) else some (j9.nxt (m7 (i+1))))) else some (j9.brk ()))
theorem f2F(a):LQ a0m (d6v a) (e8A a) (fun s=>a5s a s):=fun lc i h=>PK<|rg<|j5 7 h (fun h=>rg<|v5 p8 6 h fun vote J5 h=>j5 9 h (fun h=>rg<|C6 a<|fL lc h) (fun h=>rg<|(lc.nx h fun hI=>sk [] [0,2,5] [(1,0)] hI))) (fun h=>(lc.bk h fun hI=>sk [] [0,2] [(1,0)] hI))
def b5M(a:o9):Option (m4×Bool×o9) :=
 ((p7 (fun s:Int=>a5s a s) (m7 ((a.n.a5.length:Int)+1))).bind fun x=>x.go (fun r=>some r) fun s=>c2w a)
theorem e3o(a)(r):NF a0m r (f1x a) (fun s=>b5M a):=fun _ h=>PK<|rg<|lp (f2F a) h (fun _ h=>a0m.rt h) (f1g a r) fun hI=>sk [] [0,2,5] [(1,0)] hI
def b8n(a:o9):Option (m4×Bool×o9) :=
 (((bif decide ((a.n.a5.length:Int)<(a.n.i4.length:Int)) then ((idx a.n.i4 (a.n.a5.length:Int)).bind fun O0=>(bif (O0.a8 != 0) then some (l9.ret (O0.g9,true,a)) else some (l9.brk ()))) else some (l9.brk ())):Option (l9 (m4×Bool×o9) Unit)).bind fun x=>x.go some fun j=>b5M a)
theorem e2r{a}:OK a0m [.optr 173 (M0 a)] (b8n a) :=
 o7 _ fun r h=>n6<|A6 h (e3o a r) fun x1 h hc1=>rg<|j5 8 h (fun h=>v5 p8 15 h fun O0 a2J h=>j5 19 h (fun h=>rg<|J3 p8 6 a2J<|(B7 h hc1 fun h=>C6 a<|fE h)) (fun h=>(o8 h hc1 fun hI=>sk [] [0,2,4] [(1,0)] hI))) (fun h=>(o8 h hc1 fun hI=>sk [] [0,2,4] [(1,0)] hI))
def d3v:FS (z0×Bool):=⟨131,Tryz.f131,[.val [none,some 8] [none,some 106],.val [] []],[none,none],[.val [none,some 8] [],.val [] []],fun r=>.tup [.agg [vi r.1.i0,u9 106 8 p8 r.1.a7],.b r.2],fun _=>[none,none],Tryz.func131⟩
def c4O(a:z0)(bal:Int):Option (z0×Bool) :=
 ((a9s a).bind fun P6=>(bif (!P6) then some ((z0.mk 0 []),false) else ((a45 a).bind fun R3=>((D4 bal 1 3000).bind fun in_=>(bif (!in_) then some (R3,false) else (bif decide (bal<a.i0) then some (R3,false) else some ((z0.mk bal R3.a7),true)))))))
theorem e7Y{a bal}:OK d3v [.agg (Z3 a),vi bal] (c4O a bal) :=
 o7 _ fun r h=>n6<|l7 a4U c4a 1 h fun P6 h=>j5 2 h (fun h=>rg<|fE h) (fun h=>rg<|l7 a8C b0i 1 h fun R3 h=>rg<|l7 D1 E9 1 h fun in_ h=>j5 3 h (fun h=>rg<|s7 R3.a7<|fE h) (fun h=>j5 8 h (fun h=>rg<|s7 R3.a7<|fE h) (fun h=>n6<|s7 R3.a7<|fE h)))
def a6D:FS (z0×Bool):=⟨172,Tryz.f172,[.val [none,some 8] [],.val [] []],[none,none,none,none],[.val [none,some 8] [],.val [] [],.val [] [],.val K4 []],fun r=>.tup [.agg (Z3 r.1),.b r.2],fun _=>[none,none,none,none],Tryz.func172⟩
def d6B(bal:Int)(slot:Int)(e_:m4)(o:z0×Bool):(List m8)->KS:=fun a0e=>⟨a6D.k 5 [false,false,false],(bs 1 (vi bal::(vi slot::(bs 4 (.ptr 1 0 0::(.ptr 2 0 0::(bs 1 (.ptr 3 0 0::(bs 40 []))))))))),[some [],some [.var 55 (a20 e_)],some [.var 46 [vi 0,.nil]],some [.var 46 [vi o.1.i0,.own 4 0 8 0 a0e.length]],some [m6 106 8 p8 a0e]]⟩
def c5z(bal:Int)(slot:Int)(e_:m4)(o:z0×Bool)(a0e:List m8):Option (z0×Bool) :=
 ((idx a0e slot).bind fun vote=>((a45 (z0.mk o.1.i0 (a0e.set slot.toNat (m8.mk bal e_)))).bind fun c38=>some (c38,true)))
theorem e9W(bal slot e_ o)(r):NF a6D r (d6B bal slot e_ o) (fun s=>c5z bal slot e_ o s):=fun a0e h=>PK<|rg<|A8 h fun vote J5 h=>B5 J5<|Q3 106 8 p8 7 W0 (m8.mk bal e_) J5<|rg<|l7 a8C b0i 1 h fun c38 h=>om (a0e.length=(a0e.set slot.toNat (m8.mk bal e_)).length) (by simp)<|s7 c38.a7<|fE h
def e1r(bal:Int)(slot:Int)(e_:m4)(o:z0×Bool):(List m8)->KS:=fun a7=>⟨a6D.k 4 [false,false],(bs 1 (vi bal::(vi slot::(bs 4 (.ptr 1 0 0::(.ptr 2 0 0::(bs 1 (.ptr 3 0 0::(bs 40 []))))))))),[some [],some [.var 55 (a20 e_)],some [.var 46 [vi 0,.nil]],some [.var 46 [vi o.1.i0,.own 4 0 8 0 a7.length]],some [m6 106 8 p8 a7]]⟩
def a7n(slot:Int)(a7:List m8):Option (j9 (z0×Bool) (List m8) (List m8)) :=
 (bif decide ((a7.length:Int)<=slot) then (t0 ((a7.length+1)*96<=140737488355328) (some (j9.nxt (a7++[(m8.mk 0 (m4.mk false (n9.mk 0 0) (n5.mk [] [] 0 0)))])))) else some (j9.brk a7))
theorem e91(bal slot e_ o):LQ a6D (d6B bal slot e_ o) (e1r bal slot e_ o) (fun s=>a7n slot s):=fun lc a7 h=>PK<|rg<|j5 4 h (fun h=>rg<|tk 3 W0<|t9 h fun e1 h=>F9 4 14 106 8 96 p8 a7 (m8.mk 0 (m4.mk false (n9.mk 0 0) (n5.mk [] [] 0 0))) e1<|E6 (m8.mk 0 (m4.mk false (n9.mk 0 0) (n5.mk [] [] 0 0)))<|(lc.nx h fun hI=>sk [] [1,2,7,8,10] [(1,0),(2,0),(3,0),(14,0)] hI)) (fun h=>(lc.bk h fun hI=>sk [] [1,2,7,8,10] [(1,0),(2,0),(3,0),(4,0)] hI))
def b3j(a:z0)(bal:Int)(slot:Int)(e_:m4):Option (z0×Bool) :=
 ((c4O a bal).bind fun o=>(bif (!o.2) then some (o.1,false) else ((D4 slot 0 39).bind fun in_=>(bif (!in_) then ((a45 a).bind fun R3=>some (R3,false)) else ((a1Y e_).bind fun E5=>(bif (!E5) then ((a45 a).bind fun c0I=>some (c0I,false)) else ((p7 (fun s:List m8=>a7n slot s) o.1.a7).bind fun x=>x.go (fun r=>some r) fun s=>c5z bal slot e_ o s)))))))
theorem c7P{a bal slot e_}:OK a6D [.agg (Z3 a),vi bal,vi slot,.agg (t5 e_)] (b3j a bal slot e_) :=
 o7 _ fun r h=>n6<|l7 d3v e7Y 2 h fun o h=>rg<|j5 1 h (fun h=>rg<|s7 o.1.a7<|fE h) (fun h=>rg<|l7 D1 E9 1 h fun in_ h=>j5 3 h (fun h=>rg<|l7 a8C b0i 1 h fun R3 h=>s7 R3.a7<|fE h) (fun h=>l7 a21 a3T 5 h fun E5 h=>j5 7 h (fun h=>rg<|l7 a8C b0i 1 h fun c0I h=>s7 c0I.a7<|fE h) (fun h=>lp (e91 bal slot e_ o) h (fun _ h=>a6D.rt h) (e9W bal slot e_ o r) fun hI=>sk [] [1,2,7,8,10] [(2,0),(3,0),(11,0),(7,0)] hI)))
def b7Z:FS (o9):=⟨130,Tryz.f130,[],[some (0,.ptr I4 L2)],[.ptr I4 L2],fun _=>.tup [],fun r=>[some (.optr 173 (M0 r))],Tryz.func130⟩
def b19(a:o9):Option o9 :=
 some (o9.mk (j6.mk a.n.Id a.n.Acc a.n.a5 a.n.Seq 0 0 [] [] (m4.mk false (n9.mk 0 0) (n5.mk [] [] 0 0)) [] a.n.i8 a.n.i6 a.n.b7 a.n.d9) a.out a.told)
theorem c4e{a}:OK b7Z [.optr 173 (M0 a)] (b19 a) :=
 o7 _ fun r h=>rg4<|n6<|Y1 a.n.a5 a.out a.told<|fE h
def c2x:FS ((List Bool)×o9):=⟨132,Tryz.f132,[.val [some 1] [some 4]],[some (0,.ptr I4 L2)],[.ptr I4 L2],fun r=>u9 4 1 eB r.1,fun r=>[some (.optr 173 (M0 r.2))],Tryz.func132⟩
def b2h(a:o9):Option ((List Bool)×o9) :=
 (t0 (0<=(3:Int)/\(3:Int)*1<=140737488355328) (((idx (f5u (3:Int).toNat false) a.n.Id).bind fun y=>some ((f5u (3:Int).toNat false).set a.n.Id.toNat true,a))))
theorem d0V{a}:OK c2x [.optr 173 (M0 a)] (b2h a) :=
 o7 _ fun r h=>n6<|t9 h fun e1 h=>R8 0 2 4 1 1 eB false ti4 (.none) e1 (by decide) (by rfl)<|rg<|A8 h fun y hy h=>B5 hy<|Q3 4 1 eB 7 [] true hy<|rg<|om ((f5u (3:Int).toNat false).length=((f5u (3:Int).toNat false).set a.n.Id.toNat true).length) (by simp)<|C6 a<|fE h
def a5H:FS (o9):=⟨140,Tryz.f140,[],[some (0,.ptr I4 L2),none,none],[.ptr I4 L2,.val [] [],.val B8 []],fun _=>.tup [],fun r=>[some (.optr 173 (M0 r)),none,none],Tryz.func140⟩
def a4j(a:o9)(to:Int)(m:l8):Option o9 :=
 (t0 ((a.out.length+1)*152<=140737488355328) (some (o9.mk a.n (a.out++[(l8.mk m.a9 a.n.Id to m.a8 m.g7 m.g9 m.a7)]) a.told)))
theorem a8z{a to m}:OK a5H [.optr 173 (M0 a),vi to,.agg (s8 m)] (a4j a to m) :=
 o7 _ fun r h=>rg4<|tk 6 B8<|t9 h fun e1 h=>F9 7 19 62 13 152 s8 a.out (l8.mk m.a9 a.n.Id to m.a8 m.g7 m.g9 m.a7) e1<|E6 (l8.mk m.a9 a.n.Id to m.a8 m.g7 m.g9 m.a7)<|H5 a.n.a5 a.n.c8 a.n.a7 (a.out++[(l8.mk m.a9 a.n.Id to m.a8 m.g7 m.g9 m.a7)])<|s7 a.told<|fE h
def a1k:FS (o9):=⟨128,Tryz.f128,[],[some (0,.ptr I4 L2),none],[.ptr I4 L2,.val B8 []],fun _=>.tup [],fun r=>[some (.optr 173 (M0 r)),none],Tryz.func128⟩
def c7x(m:l8):(Int×o9)->KS:=fun (to,a1)=>⟨a1k.k 2 [],(.ptr 0 0 0::(bs 2 (.ptr 1 0 0::(vi to::(bs 15 []))))),[some [.var 173 (e5m a1),.dead,.dead,.dead,.dead,.dead],some [.var 62 (a4y m)]]++e4b a1⟩
def f3Y(m:l8)(to:Int):o9->KS:=fun a2=>⟨a1k.k 5 [true,true],(.ptr 0 0 0::(bs 2 (.ptr 6 0 0::(vi to::(bs 15 []))))),[some [.var 173 (b31 a2),.dead,.dead,.dead,.dead,.dead]]++a3h a2++[some [.var 62 (a4y m)]]⟩
def c29(to:Int)(a2:o9):Option (j9 o9 (Int×o9) Unit) :=
 some (j9.nxt (m7 (to+1),a2))
theorem f0j(m to)(lc:F6 a1k noK (c7x m)):NL lc (f3Y m to) (fun s=>c29 to s):=fun a2 h=>PK<|rg<|(lc.nx h fun hI=>sk [] [0,3,4] [(6,0),(5,0),(4,0),(3,0),(2,0),(1,0)] hI)
def a48(m:l8)(to:Int)(a1:o9):Option (j9 o9 (Int×o9) Unit) :=
 (bif decide (to<3) then (((bif (to != a1.n.Id) then ((a4j a1 to m).bind fun Z4=>some (l9.brk Z4)) else some (l9.brk a1)):Option (l9 (j9 o9 (Int×o9) Unit) o9)).bind fun x=>x.go some fun j=>c29 to j) else some (j9.ret a1))
theorem d88(m):LQ a1k noK (c7x m) (fun s=>a48 m s.1 s.2):=fun lc (to,a1) h=>PK<|rg<|j5 1 h (fun h=>A6 h (f0j m to lc) fun x2 h hc2=>rg<|j5 6 h (fun h=>rg<|l7 a5H a8z 3 h fun Z4 h=>C6 a1<|(o8 h hc2 fun hI=>sk [] [0,3,4] [(19,0),(19,1),(19,2),(19,3),(19,4),(1,0)] hI)) (fun h=>(o8 h hc2 fun hI=>sk [] [0,3,4] [(6,0),(5,0),(4,0),(3,0),(2,0),(1,0)] hI))) (fun h=>C6 a1<|fL lc h)
def a3y(a:o9)(m:l8):Option o9 :=
 ((p7 (fun s:Int×o9=>a48 m s.1 s.2) (0,a)).bind fun x=>x.go (fun r=>some r) fun _=>none)
theorem a54{a m}:OK a1k [.optr 173 (M0 a),.agg (s8 m)] (a3y a m) :=
 o7 _ fun r h=>n6<|lp (d88 m) h (fun _ h=>a1k.rt h) (fun _ h=>nomatch h) fun hI=>sk [] [0,3,4] [(1,0),(0,5),(0,4),(0,3),(0,2),(0,1)] hI
def a9m:FS (o9):=⟨127,Tryz.f127,[],[some (0,.ptr I4 L2)],[.ptr I4 L2],fun _=>.tup [],fun r=>[some (.optr 173 (M0 r))],Tryz.func127⟩
def a5E(a:o9):Option o9 :=
 (bif (a.n.d7 != 2) then some a else (bif decide ((a.n.a5.length:Int)>=40) then some a else ((b8n a).bind fun next=>(bif (!next.2.1) then some next.2.2 else ((b3j next.2.2.n.Acc next.2.2.n.a8 (next.2.2.n.a5.length:Int) next.1).bind fun a7S=>(bif (!a7S.2) then ((b19 next.2.2).bind fun follow=>some follow) else ((b2h (o9.mk (j6.mk next.2.2.n.Id a7S.1 next.2.2.n.a5 next.2.2.n.Seq next.2.2.n.d7 next.2.2.n.a8 next.2.2.n.c8 next.2.2.n.i4 next.1 next.2.2.n.a7 next.2.2.n.i8 next.2.2.n.i6 next.2.2.n.b7 next.2.2.n.d9) next.2.2.out next.2.2.told)).bind fun F4=>((a3y (o9.mk (j6.mk F4.2.n.Id F4.2.n.Acc F4.2.n.a5 F4.2.n.Seq 3 F4.2.n.a8 F4.2.n.c8 F4.2.n.i4 F4.2.n.c9 F4.1 F4.2.n.i8 F4.2.n.i6 F4.2.n.b7 F4.2.n.d9) F4.2.out F4.2.told) (l8.mk 3 0 0 F4.2.n.a8 (F4.2.n.a5.length:Int) next.1 [])).bind fun all=>some all))))))))
theorem b4b{a}:OK a9m [.optr 173 (M0 a)] (a5E a) :=
 o7 _ fun r h=>rg<|j5 6 h (fun h=>C6 a<|fE h) (fun h=>j5 14 h (fun h=>C6 a<|fE h) (fun h=>rg<|l7 a0m e2r 1 h fun next h=>C6 a<|rg<|j5 1 h (fun h=>C6 next.2.2<|fE h) (fun h=>rg<|l7 a6D c7P 17 h fun a7S h=>rg<|j5 1 h (fun h=>rg<|l7 b7Z c4e 1 h fun follow h=>C6 next.2.2<|C6 follow<|fE h) (fun h=>N0<|l7 c2x d0V 2 h fun F4 h=>C6 next.2.2<|n6<|l7 a1k a54 14 h fun all h=>H5 F4.2.n.a5 F4.2.n.c8 F4.1 F4.2.out<|s7 F4.2.told<|C6 all<|fE h))))
def b8T:FS (j6×(List l8)×List m9):=⟨89,Tryz.f89,[.val A7 [],.val [some 13] [],.val [some 5] []],[none,none],[.val A7 [],.val [some 4] []],fun r=>.tup [.agg (x6 r.1),j8 13 s8 r.2.1,j8 5 z4 r.2.2],fun _=>[none,none],Tryz.func89⟩
def e6s:o9->KS:=fun a=>⟨b8T.k 11 [false,false,true],(bs 4 (.ptr 1 0 0::(bs 2 (.ptr 2 0 0::(bs 80 []))))),[some [],some [.var 57 [vi 0,vi 0,.nil,.nil,vi 0,vi 0,vi 0,.nil,.nil,.b false,vi 0,vi 0,.nil,.nil,vi 0,vi 0,.nil,.b false,.nil,.b false,vi 0,vi 0,.nil,.nil,vi 0,vi 0,.nil]],some [.var 173 (b1Z a)]]++a3h a⟩
def b7t(a:o9):Option (j6×(List l8)×List m9) :=
 ((a1K a).bind fun b51=>some (b51.1,b51.2.1,b51.2.2.1))
theorem e0f(r):NF b8T r e6s (fun s=>b7t s):=fun a h=>PK<|rg<|l7 a4n a5q 1 h fun b51 h=>C6 a<|fE h
def b4Y(n:j6)(prog:List n8):Option (j6×(List l8)×List m9) :=
 ((a4w n).bind fun D2=>(bif (!D2) then some ((j6.mk 0 (z0.mk 0 []) [] 0 0 0 [] [] (m4.mk false (n9.mk 0 0) (n5.mk [] [] 0 0)) [] false [] (m4.mk false (n9.mk 0 0) (n5.mk [] [] 0 0)) []),[],[]) else ((a8H n).bind fun begin=>(bif n.i8 then ((a1K begin).bind fun W8=>some (W8.1,W8.2.1,W8.2.2.1)) else (bif (n.Seq==1000) then ((a1K begin).bind fun a4T=>some (a4T.1,a4T.2.1,a4T.2.2.1)) else ((a8y prog).bind fun E1=>(bif (!E1) then ((a1K begin).bind fun a5j=>some (a5j.1,a5j.2.1,a5j.2.2.1)) else ((b9G n).bind fun b1D=>((b3T b1D.g8 prog).bind fun C1=>(((bif (n.d7==2) then ((a5E (o9.mk (j6.mk begin.n.Id begin.n.Acc begin.n.a5 (m7 (begin.n.Seq+1)) begin.n.d7 begin.n.a8 begin.n.c8 begin.n.i4 begin.n.c9 begin.n.a7 true prog (m4.mk false (n9.mk n.Id (m7 (begin.n.Seq+1))) C1) begin.n.d9) begin.out begin.told)).bind fun Z7=>some (l9.brk Z7)) else (bif (n.d7==0) then ((a3y (o9.mk (j6.mk begin.n.Id begin.n.Acc begin.n.a5 (m7 (begin.n.Seq+1)) begin.n.d7 begin.n.a8 begin.n.c8 begin.n.i4 begin.n.c9 begin.n.a7 true prog (m4.mk false (n9.mk n.Id (m7 (begin.n.Seq+1))) C1) begin.n.d9) begin.out begin.told) (l8.mk 7 0 0 0 0 (m4.mk false (n9.mk n.Id (m7 (begin.n.Seq+1))) C1) [])).bind fun all=>some (l9.brk all)) else some (l9.brk (o9.mk (j6.mk begin.n.Id begin.n.Acc begin.n.a5 (m7 (begin.n.Seq+1)) begin.n.d7 begin.n.a8 begin.n.c8 begin.n.i4 begin.n.c9 begin.n.a7 true prog (m4.mk false (n9.mk n.Id (m7 (begin.n.Seq+1))) C1) begin.n.d9) begin.out begin.told)))):Option (l9 (j6×(List l8)×List m9) o9)).bind fun x=>x.go some fun j=>b7t j))))))))))
theorem e3K{n prog}:OK b8T [.agg (x6 n),j8 4 A0 prog] (b4Y n prog) :=
 o7 _ fun r h=>n6<|l7 a0H a85 1 h fun D2 h=>j5 2 h (fun h=>rg<|fE h) (fun h=>rg<|l7 b32 b8I 1 h fun begin h=>rg<|j5 2 h (fun h=>rg<|l7 a4n a5q 1 h fun W8 h=>J6 begin.n<|C7 begin.out begin.told<|fE h) (fun h=>j5 7 h (fun h=>rg<|l7 a4n a5q 1 h fun a4T h=>J6 begin.n<|C7 begin.out begin.told<|fE h) (fun h=>l7 a37 b5A 9 h fun E1 h=>j5 11 h (fun h=>rg<|l7 a4n a5q 1 h fun a5j h=>J6 begin.n<|C7 begin.out begin.told<|fE h) (fun h=>rg4<|l7 d3N f4X 10 h fun b1D h=>l7 Q1 c56 13 h fun C1 h=>rg<|A6 h (e0f r) fun x1 h hc1=>rg<|j5 1 h (fun h=>rg<|l7 a9m b4b 1 h fun Z7 h=>J6 begin.n<|C7 begin.out begin.told<|(o8 h hc1 fun hI=>sk [] [4,7] [(2,0),(9,0),(68,0),(68,1),(68,2),(68,3),(68,4)] hI)) (fun h=>rg<|j5 1 h (fun h=>rg<|l7 a1k a54 7 h fun all h=>J6 begin.n<|C7 begin.out begin.told<|(o8 h hc1 fun hI=>sk [] [4,7] [(2,0),(9,0),(76,0),(76,1),(76,2),(76,3),(76,4)] hI)) (fun h=>(o8 h hc1 fun hI=>s7 begin.n.d9<|sk [.frz (.cell 9 0 26) (none)] [4,7] [(2,0),(9,0),(9,1),(9,2),(9,3),(9,5),(9,6)] hI)))))))
def T7:FS (m5):=⟨90,Tryz.f90,[.val E2 om6],[none,none,none,none],[.val E2 om6,.val A7 [],.val [some 13] [],.val [some 5] []],fun r=>.agg (a8X r),fun _=>[none,none,none,none],Tryz.func90⟩
def c4c(w:m5)(n:j6)(told:List m9):(List l8)->KS:=fun Net1=>⟨T7.k 4 [false],(bs 3 (j8 5 z4 told::(.ptr 1 0 0::(bs 3 (.ptr 3 0 0::(bs 45 [])))))),[some [m6 57 27 x6 (w.a6.set n.Id.toNat n),.dead,m6 65 3 B4 w.d8,m6 69 5 z4 w.Told],some [.var 30 [.own 0 0 27 0 (w.a6.set n.Id.toNat n).length,.own 2 0 13 0 Net1.length,.own 0 2 3 0 w.d8.length,.own 0 3 5 0 w.Told.length]],some [m6 62 13 s8 Net1],some [.var 30 [.nil,.nil,.nil,.nil]]]⟩
def c0u(w:m5)(n:j6)(Net1:List l8):(List m9)->KS:=fun Told1=>⟨T7.k 6 [false,false],(bs 4 (.ptr 1 0 0::(bs 3 (.ptr 4 0 0::(bs 45 []))))),[some [m6 57 27 x6 (w.a6.set n.Id.toNat n),.dead,m6 65 3 B4 w.d8,.dead],some [.var 30 [.own 0 0 27 0 (w.a6.set n.Id.toNat n).length,.own 2 0 13 0 Net1.length,.own 0 2 3 0 w.d8.length,.own 3 0 5 0 Told1.length]],some [m6 62 13 s8 Net1],some [m6 69 5 z4 Told1],some [.var 30 [.nil,.nil,.nil,.nil]]]⟩
def c1T(w:m5)(n:j6)(Net1:List l8)(Told1:List m9):Option m5 :=
 some (m5.mk (w.a6.set n.Id.toNat n) Net1 w.d8 Told1)
theorem e3M(w n Net1)(r):NF T7 r (c0u w n Net1) (fun s=>c1T w n Net1 s):=fun Told1 h=>PK<|rg<|H5 (w.a6.set n.Id.toNat n) Net1 w.d8 Told1<|fE h
def d2b(w:m5)(n:j6)(told:List m9)(Net1:List l8):((List m9)×Int)->KS:=fun (Told,v38)=>⟨T7.k 5 [false],(bs 4 (.ptr 1 0 0::(bs 3 (.ptr 3 0 0::(bs 27 (j8 5 z4 told::(vi (told.length:Int)::(vi v38::(bs 15 []))))))))),[some [m6 57 27 x6 (w.a6.set n.Id.toNat n),.dead,m6 65 3 B4 w.d8,.dead],some [.var 30 [.own 0 0 27 0 (w.a6.set n.Id.toNat n).length,.own 2 0 13 0 Net1.length,.own 0 2 3 0 w.d8.length,.own 4 0 5 0 Told.length]],some [m6 62 13 s8 Net1],some [.var 30 [.nil,.nil,.nil,.nil]],some [m6 69 5 z4 Told]]⟩
def f1z(w:m5)(n:j6)(told:List m9)(Net1:List l8)(v38:Int):(List m9)->KS:=fun Told2=>⟨T7.k 9 [false,true,true],(bs 4 (.ptr 1 0 0::(bs 3 (.ptr 4 0 0::(bs 27 (j8 5 z4 told::(vi (told.length:Int)::(vi v38::(bs 15 []))))))))),[some [m6 57 27 x6 (w.a6.set n.Id.toNat n),.dead,m6 65 3 B4 w.d8,.dead],some [.var 30 [.own 0 0 27 0 (w.a6.set n.Id.toNat n).length,.own 2 0 13 0 Net1.length,.own 0 2 3 0 w.d8.length,.own 3 0 5 0 Told2.length]],some [m6 62 13 s8 Net1],some [m6 69 5 z4 Told2],some [.var 30 [.nil,.nil,.nil,.nil]]]⟩
def b93(v38:Int)(Told2:List m9):Option (j9 m5 ((List m9)×Int) (List m9)) :=
 some (j9.nxt (Told2,m7 (v38+1)))
theorem d9z(w n told Net1 v38)(lc:F6 T7 (c0u w n Net1) (d2b w n told Net1)):NL lc (f1z w n told Net1 v38) (fun s=>b93 v38 s):=fun Told2 h=>PK<|rg<|(lc.nx h fun hI=>sk [] [4,8,36,37,38] [(1,0),(2,0),(4,0),(3,0)] hI)
def a3O(told:List m9)(Told:List m9)(v38:Int):Option (j9 m5 ((List m9)×Int) (List m9)) :=
 (bif decide (v38<(told.length:Int)) then ((idx told v38).bind fun a2Y=>(((bif decide ((Told.length:Int)<60) then (t0 ((Told.length+1)*40<=140737488355328) (some (l9.brk (Told++[a2Y])))) else some (l9.brk Told)):Option (l9 (j9 m5 ((List m9)×Int) (List m9)) (List m9))).bind fun x=>x.go some fun j=>b93 v38 j)) else some (j9.brk Told))
theorem e2d(w n told Net1):LQ T7 (c0u w n Net1) (d2b w n told Net1) (fun s=>a3O told s.1 s.2):=fun lc (Told,v38) h=>PK<|rg<|j5 0 h (fun h=>rg<|v5 z4 0 h fun a2Y e2N h=>A6 h (d9z w n told Net1 v38 lc) fun x2 h hc2=>rg<|j5 3 h (fun h=>rg<|tk 3 []<|t9 h fun e1 h=>F9 4 18 69 5 40 z4 Told a2Y e1<|E6 a2Y<|(o8 h hc2 fun hI=>sk [] [4,8,36,37,38] [(1,0),(2,0),(18,0),(3,0)] hI)) (fun h=>(o8 h hc2 fun hI=>sk [] [4,8,36,37,38] [(1,0),(2,0),(4,0),(3,0)] hI))) (fun h=>(lc.bk h fun hI=>sk [] [4,8] [(1,0),(2,0),(4,0),(3,0)] hI))
def c0V(w:m5)(n:j6)(told:List m9)(Net1:List l8):Option m5 :=
 ((p7 (fun s:(List m9)×Int=>a3O told s.1 s.2) (w.Told,0)).bind fun x=>x.go (fun r=>some r) fun s=>c1T w n Net1 s)
theorem e3t(w n told)(r):NF T7 r (c4c w n told) (fun s=>c0V w n told s):=fun Net1 h=>PK<|rg<|lp (e2d w n told Net1) h (fun _ h=>T7.rt h) (e3M w n Net1 r) fun hI=>sk [] [4,8,36,37,38] [(1,0),(2,0),(3,0),(0,3)] hI
def d1p(w:m5)(n:j6)(list:List l8)(told:List m9):((List l8)×Int)->KS:=fun (d6,v21)=>⟨T7.k 3 [],(bs 3 (j8 5 z4 told::(.ptr 1 0 0::(bs 3 (.ptr 2 0 0::(bs 10 (j8 13 s8 list::(vi (list.length:Int)::(vi v21::(bs 32 [])))))))))),[some [m6 57 27 x6 (w.a6.set n.Id.toNat n),.dead,m6 65 3 B4 w.d8,m6 69 5 z4 w.Told],some [.var 30 [.own 0 0 27 0 (w.a6.set n.Id.toNat n).length,.own 3 0 13 0 d6.length,.own 0 2 3 0 w.d8.length,.own 0 3 5 0 w.Told.length]],some [.var 30 [.nil,.nil,.nil,.nil]],some [m6 62 13 s8 d6]]⟩
def e6k(w:m5)(n:j6)(list:List l8)(told:List m9)(v21:Int):(List l8)->KS:=fun Net2=>⟨T7.k 7 [true,true],(bs 3 (j8 5 z4 told::(.ptr 1 0 0::(bs 3 (.ptr 3 0 0::(bs 10 (j8 13 s8 list::(vi (list.length:Int)::(vi v21::(bs 32 [])))))))))),[some [m6 57 27 x6 (w.a6.set n.Id.toNat n),.dead,m6 65 3 B4 w.d8,m6 69 5 z4 w.Told],some [.var 30 [.own 0 0 27 0 (w.a6.set n.Id.toNat n).length,.own 2 0 13 0 Net2.length,.own 0 2 3 0 w.d8.length,.own 0 3 5 0 w.Told.length]],some [m6 62 13 s8 Net2],some [.var 30 [.nil,.nil,.nil,.nil]]]⟩
def b9B(v21:Int)(Net2:List l8):Option (j9 m5 ((List l8)×Int) (List l8)) :=
 some (j9.nxt (Net2,m7 (v21+1)))
theorem e0X(w n list told v21)(lc:F6 T7 (c4c w n told) (d1p w n list told)):NL lc (e6k w n list told v21) (fun s=>b9B v21 s):=fun Net2 h=>PK<|rg<|(lc.nx h fun hI=>sk [] [3,4,8,19,20,21] [(1,0),(3,0),(2,0)] hI)
def a4m(list:List l8)(d6:List l8)(v21:Int):Option (j9 m5 ((List l8)×Int) (List l8)) :=
 (bif decide (v21<(list.length:Int)) then ((idx list v21).bind fun msg=>(((bif decide ((d6.length:Int)<40) then (t0 ((d6.length+1)*152<=140737488355328) (some (l9.brk (d6++[msg])))) else some (l9.brk d6)):Option (l9 (j9 m5 ((List l8)×Int) (List l8)) (List l8))).bind fun x=>x.go some fun j=>b9B v21 j)) else some (j9.brk d6))
theorem f4T(w n list told):LQ T7 (c4c w n told) (d1p w n list told) (fun s=>a4m list s.1 s.2):=fun lc (d6,v21) h=>PK<|rg<|j5 0 h (fun h=>rg<|v5 s8 0 h fun msg hmsg h=>A6 h (e0X w n list told v21 lc) fun x2 h hc2=>rg<|j5 3 h (fun h=>rg<|tk 3 B8<|t9 h fun e2 h=>F9 4 17 62 13 152 s8 d6 msg e2<|E6 msg<|(o8 h hc2 fun hI=>sk [] [3,4,8,19,20,21] [(1,0),(17,0),(2,0)] hI)) (fun h=>(o8 h hc2 fun hI=>sk [] [3,4,8,19,20,21] [(1,0),(3,0),(2,0)] hI))) (fun h=>(lc.bk h fun hI=>sk [] [3,4,8] [(1,0),(3,0),(2,0)] hI))
def a4V(w:m5)(n:j6)(list:List l8)(told:List m9):Option m5 :=
 ((idx w.a6 n.Id).bind fun node=>((p7 (fun s:(List l8)×Int=>a4m list s.1 s.2) (w.d6,0)).bind fun x=>x.go (fun r=>some r) fun s=>c0V w n told s))
theorem b0k{w n list told}:OK T7 [.agg (a8X w),.agg (x6 n),j8 13 s8 list,j8 5 z4 told] (a4V w n list told) :=
 o7 _ fun r h=>n6<|A8 h fun node hnode h=>B5 hnode<|Q3 57 27 x6 6 A7 n hnode<|rg<|lp (f4T w n list told) h (fun _ h=>T7.rt h) (e3t w n told r) fun hI=>om ((.own 0 0 27 0 w.a6.length:V)=.own 0 0 27 0 (w.a6.set n.Id.toNat n).length) (by simp)<|sk [.is (.cell 1 0 0) (.own 0 0 27 0 (w.a6.set n.Id.toNat n).length)] [3,4,8,19,20,21] [(1,0),(3,0),(0,1)] hI
def a87:FS (Int):=⟨129,Tryz.f129,[.val [] []],[none,none],[.val [] [],.val [] []],fun r=>vi r,fun _=>[none,none],Tryz.func129⟩
def d3R:Unit->KS:=fun _=>⟨a87.k 4 [false,false],(bs 28 []),[some []]⟩
def d2q:Option Int :=
 some (-1)
theorem e7e(r):NF a87 r d3R (fun s=>d2q):=fun _ h=>PK<|rg<|fE h
def e0I(who:Int):Int->KS:=fun n=>⟨a87.k 3 [false],(bs 1 (vi who::(bs 3 (vi n::(bs 22 []))))),[some []]⟩
def a2h(who:Int)(n:Int):Option (j9 Int Int Unit) :=
 (bif decide (n<=3000) then (bif decide (n>0) then ((b20 n).bind fun a6e=>(bif (a6e==who) then some (j9.ret n) else some (j9.nxt (m7 (n+1))))) else some (j9.brk ())) else some (j9.brk ()))
theorem f2s(who):LQ a87 d3R (e0I who) (fun s=>a2h who s):=fun lc n h=>PK<|rg<|j5 2 h (fun h=>j5 5 h (fun h=>rg<|l7 c20 d4m 1 h fun a6e h=>j5 3 h (fun h=>rg<|fL lc h) (fun h=>rg<|(lc.nx h fun hI=>sk [] [1,5] [] hI))) (fun h=>(lc.bk h fun hI=>sk [] [] [] hI))) (fun h=>(lc.bk h fun hI=>sk [] [] [] hI))
def b8R(bal:Int)(who:Int):Option Int :=
 (bif decide (bal<0) then some (-1) else ((D4 who 0 2).bind fun in_=>(bif (!in_) then some (-1) else ((p7 (fun s:Int=>a2h who s) (m7 (bal+1))).bind fun x=>x.go (fun r=>some r) fun s=>d2q))))
theorem d8L{bal who}:OK a87 [vi bal,vi who] (b8R bal who) :=
 o7 _ fun r h=>n6<|j5 2 h (fun h=>rg<|fE h) (fun h=>l7 D1 E9 4 h fun in_ h=>j5 6 h (fun h=>rg<|fE h) (fun h=>rg<|lp (f2s who) h (fun _ h=>a87.rt h) (e7e r) fun hI=>sk [] [1,5] [] hI))
def b7W:FS (z0×Bool):=⟨131,Tryz.f131,[.val [none,some 8] [],.val [] []],[none,none],[.val [none,some 8] [],.val [] []],fun r=>.tup [.agg (Z3 r.1),.b r.2],fun _=>[none,none],Tryz.func131⟩
def b0N(a:z0)(bal:Int):Option (z0×Bool) :=
 ((a9s a).bind fun P6=>(bif (!P6) then some ((z0.mk 0 []),false) else ((a45 a).bind fun R3=>((D4 bal 1 3000).bind fun in_=>(bif (!in_) then some (R3,false) else (bif decide (bal<a.i0) then some (R3,false) else some ((z0.mk bal R3.a7),true)))))))
theorem c4P{a bal}:OK b7W [.agg (Z3 a),vi bal] (b0N a bal) :=
 o7 _ fun r h=>n6<|l7 a4U c4a 1 h fun P6 h=>j5 2 h (fun h=>rg<|fE h) (fun h=>rg<|l7 a8C b0i 1 h fun R3 h=>rg<|l7 D1 E9 1 h fun in_ h=>j5 3 h (fun h=>rg<|s7 R3.a7<|fE h) (fun h=>j5 8 h (fun h=>rg<|s7 R3.a7<|fE h) (fun h=>n6<|s7 R3.a7<|fE h)))
def b6P:FS (j6×List l8):=⟨91,Tryz.f91,[.val A7 [],.val [some 13] []],[none],[.val A7 []],fun r=>.tup [.agg (x6 r.1),j8 13 s8 r.2],fun _=>[none],Tryz.func91⟩
def e31:o9->KS:=fun a=>⟨b6P.k 12 [false,true],(bs 2 (.ptr 1 0 0::(bs 1 (.ptr 2 0 0::(bs 74 []))))),[some [],some [.var 57 [vi 0,vi 0,.nil,.nil,vi 0,vi 0,vi 0,.nil,.nil,.b false,vi 0,vi 0,.nil,.nil,vi 0,vi 0,.nil,.b false,.nil,.b false,vi 0,vi 0,.nil,.nil,vi 0,vi 0,.nil]],some [.var 173 (b1Z a)]]++a3h a⟩
def b3q(a:o9):Option (j6×List l8) :=
 ((a1K a).bind fun W8=>some (W8.1,W8.2.1))
theorem d9j(r):NF b6P r e31 (fun s=>b3q s):=fun a h=>PK<|rg<|l7 a4n a5q 1 h fun W8 h=>C6 a<|rg<|fE h
def b42(n:j6):Option (j6×List l8) :=
 ((a4w n).bind fun D2=>(bif (!D2) then some ((j6.mk 0 (z0.mk 0 []) [] 0 0 0 [] [] (m4.mk false (n9.mk 0 0) (n5.mk [] [] 0 0)) [] false [] (m4.mk false (n9.mk 0 0) (n5.mk [] [] 0 0)) []),[]) else ((a8H n).bind fun begin=>((b8R n.Acc.i0 n.Id).bind fun a3k=>(((bif decide (a3k>=0) then ((b19 begin).bind fun follow=>((b0N follow.n.Acc a3k).bind fun V4=>((b2h (o9.mk (j6.mk follow.n.Id V4.1 follow.n.a5 follow.n.Seq 1 a3k follow.n.c8 follow.n.i4 follow.n.c9 follow.n.a7 follow.n.i8 follow.n.i6 follow.n.b7 follow.n.d9) follow.out follow.told)).bind fun F4=>((a3y (o9.mk (j6.mk F4.2.n.Id F4.2.n.Acc F4.2.n.a5 F4.2.n.Seq F4.2.n.d7 F4.2.n.a8 F4.1 F4.2.n.Acc.a7 F4.2.n.c9 F4.2.n.a7 F4.2.n.i8 F4.2.n.i6 F4.2.n.b7 F4.2.n.d9) F4.2.out F4.2.told) (l8.mk 1 0 0 a3k (n.a5.length:Int) (m4.mk false (n9.mk 0 0) (n5.mk [] [] 0 0)) [])).bind fun all=>some (l9.brk all))))) else some (l9.brk begin)):Option (l9 (j6×List l8) o9)).bind fun x=>x.go some fun j=>b3q j)))))
theorem f06{n}:OK b6P [.agg (x6 n)] (b42 n) :=
 o7 _ fun r h=>n6<|l7 a0H a85 1 h fun D2 h=>j5 2 h (fun h=>rg<|fE h) (fun h=>rg<|l7 b32 b8I 1 h fun begin h=>rg<|l7 a87 d8L 5 h fun a3k h=>A6 h (d9j r) fun x1 h hc1=>rg<|j5 1 h (fun h=>rg<|l7 b7Z c4e 1 h fun follow h=>J6 begin.n<|C7 begin.out begin.told<|rg<|l7 b7W c4P 7 h fun V4 h=>N0<|l7 c2x d0V 2 h fun F4 h=>C6 follow<|n6<|l7 a1k a54 6 h fun all h=>H5 F4.2.n.a5 F4.1 F4.2.n.a7 F4.2.out<|s7 F4.2.told<|(o8 h hc1 fun hI=>sk [] [2,4] [(2,0),(8,0),(71,0),(71,1),(71,2),(71,3),(71,4)] hI)) (fun h=>(o8 h hc1 fun hI=>s7 begin.n.d9<|sk [.frz (.cell 8 0 26) (none)] [2,4] [(2,0),(8,0),(8,1),(8,2),(8,3),(8,5),(8,6)] hI)))
def b5T:FS (j6×(List l8)×List m9):=⟨92,Tryz.f92,[.val A7 [],.val [some 13] [],.val [some 5] []],[none],[.val A7 []],fun r=>.tup [.agg (x6 r.1),j8 13 s8 r.2.1,j8 5 z4 r.2.2],fun _=>[none],Tryz.func92⟩
def f1H:o9->KS:=fun a=>⟨b5T.k 7 [false,true],(bs 2 (.ptr 1 0 0::(bs 2 (.ptr 2 0 0::(bs 55 []))))),[some [],some [.var 57 [vi 0,vi 0,.nil,.nil,vi 0,vi 0,vi 0,.nil,.nil,.b false,vi 0,vi 0,.nil,.nil,vi 0,vi 0,.nil,.b false,.nil,.b false,vi 0,vi 0,.nil,.nil,vi 0,vi 0,.nil]],some [.var 173 (b1Z a)]]++a3h a⟩
def b6j(a:o9):Option (j6×(List l8)×List m9) :=
 ((a1K a).bind fun W8=>some (W8.1,W8.2.1,W8.2.2.1))
theorem e9F(r):NF b5T r f1H (fun s=>b6j s):=fun a h=>PK<|rg<|l7 a4n a5q 1 h fun W8 h=>C6 a<|fE h
def b65(n:j6):Option (j6×(List l8)×List m9) :=
 ((a4w n).bind fun D2=>(bif (!D2) then some ((j6.mk 0 (z0.mk 0 []) [] 0 0 0 [] [] (m4.mk false (n9.mk 0 0) (n5.mk [] [] 0 0)) [] false [] (m4.mk false (n9.mk 0 0) (n5.mk [] [] 0 0)) []),[],[]) else ((a8H n).bind fun begin=>((a3y begin (l8.mk 8 0 0 0 (n.a5.length:Int) (m4.mk false (n9.mk 0 0) (n5.mk [] [] 0 0)) [])).bind fun all=>(((bif (n.d7==1) then ((a3y all (l8.mk 1 0 0 n.a8 (n.a5.length:Int) (m4.mk false (n9.mk 0 0) (n5.mk [] [] 0 0)) [])).bind fun c8i=>some (l9.brk c8i)) else (bif (n.d7==2) then ((a5E all).bind fun Z7=>some (l9.brk Z7)) else (bif (n.d7==3) then ((a3y all (l8.mk 3 0 0 n.a8 (n.a5.length:Int) n.c9 [])).bind fun d6z=>some (l9.brk d6z)) else (bif n.i8 then ((a3y all (l8.mk 7 0 0 0 0 n.b7 [])).bind fun c6W=>some (l9.brk c6W)) else some (l9.brk all))))):Option (l9 (j6×(List l8)×List m9) o9)).bind fun x=>x.go some fun j=>b6j j)))))
theorem e8I{n}:OK b5T [.agg (x6 n)] (b65 n) :=
 o7 _ fun r h=>n6<|l7 a0H a85 1 h fun D2 h=>j5 2 h (fun h=>rg<|fE h) (fun h=>rg<|l7 b32 b8I 1 h fun begin h=>n6<|l7 a1k a54 3 h fun all h=>J6 begin.n<|C7 begin.out begin.told<|A6 h (e9F r) fun x1 h hc1=>rg<|j5 3 h (fun h=>rg<|l7 a1k a54 5 h fun c8i h=>C6 all<|(o8 h hc1 fun hI=>sk [] [2,5] [(2,0),(9,0),(28,0),(28,1),(28,2),(28,3),(28,4)] hI)) (fun h=>rg<|j5 3 h (fun h=>rg<|l7 a9m b4b 1 h fun Z7 h=>C6 all<|(o8 h hc1 fun hI=>sk [] [2,5] [(2,0),(9,0),(28,0),(28,1),(28,2),(28,3),(28,4)] hI)) (fun h=>rg<|j5 3 h (fun h=>rg<|l7 a1k a54 7 h fun d6z h=>C6 all<|(o8 h hc1 fun hI=>sk [] [2,5] [(2,0),(9,0),(38,0),(38,1),(38,2),(38,3),(38,4)] hI)) (fun h=>rg<|j5 2 h (fun h=>rg<|l7 a1k a54 4 h fun c6W h=>C6 all<|(o8 h hc1 fun hI=>sk [] [2,5] [(2,0),(9,0),(38,0),(38,1),(38,2),(38,3),(38,4)] hI)) (fun h=>(o8 h hc1 fun hI=>sk [] [2,5] [(2,0),(9,0),(18,0),(18,1),(18,2),(18,3),(18,4)] hI))))))
def d0G:FS (j6):=⟨93,Tryz.f93,[.val A7 []],[none],[.val A7 []],fun r=>.agg (x6 r),fun _=>[none],Tryz.func93⟩
def b7d(n:j6):Option j6 :=
 ((a4w n).bind fun D2=>(bif (!D2) then some (j6.mk 0 (z0.mk 0 []) [] 0 0 0 [] [] (m4.mk false (n9.mk 0 0) (n5.mk [] [] 0 0)) [] false [] (m4.mk false (n9.mk 0 0) (n5.mk [] [] 0 0)) []) else ((a78 (j6.mk n.Id n.Acc n.a5 n.Seq 0 0 [] [] (m4.mk false (n9.mk 0 0) (n5.mk [] [] 0 0)) [] false [] (m4.mk false (n9.mk 0 0) (n5.mk [] [] 0 0)) [])).bind fun X5=>some X5)))
theorem d9K{n}:OK d0G [.agg (x6 n)] (b7d n) :=
 o7 _ fun r h=>n6<|l7 a0H a85 1 h fun D2 h=>j5 2 h (fun h=>rg<|fE h) (fun h=>rg<|l7 b1K b9n 9 h fun X5 h=>J6 X5<|fE h)
def a7Z:FS (m5):=⟨59,Tryz.f59,[.val E2 om6],[none,none],[.val E2 om6,.val [none,none,some 4] []],fun r=>.agg (a8X r),fun _=>[none,none],Tryz.func59⟩
def f2v:m5->KS:=fun w1=>⟨a7Z.k 9 [true,false,true],(bs 2 (.ptr 1 0 0::(bs 1 (.ptr 6 0 0::(bs 86 []))))),[some [.dead,.dead,.dead,.dead],some [.var 30 [.own 2 0 27 0 w1.a6.length,.own 3 0 13 0 w1.d6.length,.own 4 0 3 0 w1.d8.length,.own 5 0 5 0 w1.Told.length]],some [m6 57 27 x6 w1.a6],some [m6 62 13 s8 w1.d6],some [m6 65 3 B4 w1.d8],some [m6 69 5 z4 w1.Told],some [.var 30 [.nil,.nil,.nil,.nil]]]⟩
def b5I(w1:m5):Option m5 :=
 some w1
theorem f3I(r):NF a7Z r f2v (fun s=>b5I s):=fun w1 h=>PK<|rg<|A9 w1<|fE h
def a6E(w:m5)(e_:r9):Option m5 :=
 ((idx w.a6 e_.A).bind fun node=>(((bif (e_.a9==1) then (bif decide ((w.d8.length:Int)>=60) then some (l9.ret w) else ((b4Y node e_.i6).bind fun I3=>((a4V w I3.1 I3.2.1 I3.2.2).bind fun a3a=>(bif (I3.1.Seq != node.Seq) then (t0 ((a3a.d8.length+1)*40<=140737488355328) (some (l9.brk (m5.mk a3a.a6 a3a.d6 (a3a.d8++[(x7.mk (n9.mk node.Id I3.1.Seq) e_.i6)]) a3a.Told)))) else some (l9.brk a3a))))) else (bif (e_.a9==5) then ((b42 node).bind fun a0I=>((a4V w a0I.1 a0I.2 []).bind fun b4y=>some (l9.brk b4y))) else (bif (e_.a9==6) then ((b65 node).bind fun Z1=>((a4V w Z1.1 Z1.2.1 Z1.2.2).bind fun d52=>some (l9.brk d52))) else (bif (e_.a9==7) then ((b7d node).bind fun a1W=>((a4V w a1W [] []).bind fun c9e=>some (l9.brk c9e))) else some (l9.brk w))))):Option (l9 m5 m5)).bind fun x=>x.go some fun j=>b5I j))
theorem b9a{w e_}:OK a7Z [.agg (a8X w),.agg (I1 e_)] (a6E w e_) :=
 o7 _ fun r h=>n6<|A8 h fun node hnode h=>B5 hnode<|H8 x6 5 hnode<|rg<|A6 h (f3I r) fun x1 h hc1=>rg<|j5 1 h (fun h=>rg<|j5 3 h (fun h=>rg<|(B7 h hc1 fun h=>A9 w<|fE h)) (fun h=>rg<|l7 b8T e3K 3 h fun I3 h=>rg<|l7 T7 b0k 4 h fun a3a h=>A9 w<|rg<|j5 4 h (fun h=>rg<|tk 10 [none,none,some 4]<|t9 h fun e1 h=>F9 11 54 65 3 40 B4 a3a.d8 (x7.mk (n9.mk node.Id I3.1.Seq) e_.i6) e1<|E6 (x7.mk (n9.mk node.Id I3.1.Seq) e_.i6)<|(o8 h hc1 fun hI=>sk [] [2,4] [(1,0),(36,0),(36,1),(54,0),(36,3),(3,0)] hI)) (fun h=>(o8 h hc1 fun hI=>sk [] [2,4] [(1,0),(36,0),(36,1),(36,2),(36,3),(3,0)] hI)))) (fun h=>rg<|j5 1 h (fun h=>rg<|l7 b6P f06 1 h fun a0I h=>rg<|l7 T7 b0k 3 h fun b4y h=>A9 w<|(o8 h hc1 fun hI=>sk [] [2,4] [(1,0),(29,0),(29,1),(29,2),(29,3),(3,0)] hI)) (fun h=>rg<|j5 1 h (fun h=>rg<|l7 b5T e8I 1 h fun Z1 h=>rg<|l7 T7 b0k 4 h fun d52 h=>A9 w<|(o8 h hc1 fun hI=>sk [] [2,4] [(1,0),(34,0),(34,1),(34,2),(34,3),(3,0)] hI)) (fun h=>rg<|j5 1 h (fun h=>rg<|l7 d0G d9K 2 h fun a1W h=>l7 T7 b0k 3 h fun c9e h=>A9 w<|(o8 h hc1 fun hI=>sk [] [2,4] [(1,0),(25,0),(25,1),(25,2),(25,3),(3,0)] hI)) (fun h=>(o8 h hc1 fun hI=>sk [] [2,4] [(1,0),(0,0),(0,1),(0,2),(0,3),(3,0)] hI)))))
def c5n:FS (List l8):=⟨94,Tryz.f94,[.val [some 13] [some 62]],[none,none],[.val [some 13] [],.val [] []],fun r=>u9 62 13 s8 r,fun _=>[none,none],Tryz.func94⟩
def b1Q(list:List l8)(at_:Int):Option (List l8) :=
 (t0 ((0:Int)<=at_/\at_<=(list.length:Int)) ((t0 ((([]:List l8).length+((list.drop 0).take (at_.toNat-0)).length)*152<=140737488355328) ((t0 ((0:Int)<=m7 (at_+1)/\m7 (at_+1)<=(list.length:Int)) ((t0 (((([]:List l8)++((list.drop 0).take (at_.toNat-0))).length+((list.drop (m7 (at_+1)).toNat).take (list.length-(m7 (at_+1)).toNat)).length)*152<=140737488355328) (some ((([]:List l8)++((list.drop 0).take (at_.toNat-0)))++((list.drop (m7 (at_+1)).toNat).take (list.length-(m7 (at_+1)).toNat)))))))))))
theorem c7Q{list at_}:OK c5n [j8 13 s8 list,vi at_] (b1Q list at_) :=
 o7 _ fun r h=>n6<|tk 0 B8<|t9 h fun e1 h=>om (V.sl 13 (at_.toNat-0) (((list.map s8).drop 0).take (at_.toNat-0))=j8 13 s8 ((list.drop 0).take (at_.toNat-0))) (b67 e1)<|ob e1.1<|ob e1.2<|tl (3,{v:=some (j8 13 s8 ((list.drop 0).take (at_.toNat-0)))})<|t9 h fun e2 h=>om (V.own 6 0 13 0 (([]:List l8).length+((list.drop 0).take (at_.toNat-0)).length)=.own 6 0 13 0 (([]:List l8)++((list.drop 0).take (at_.toNat-0))).length) (by first|exact congrArg (V.own 6 0 13 0) f5D.symm|simp)<|om (s6.row 62 13 (([]:List l8).length+((list.drop 0).take (at_.toNat-0)).length) (([]:List l8).map s8++((list.drop 0).take (at_.toNat-0)).map s8)=m6 62 13 s8 (([]:List l8)++((list.drop 0).take (at_.toNat-0)))) (by first|exact c1K rfl rfl|simp [m6])<|B9 l8<|ob e2<|tl (4,{v:=some (.own 6 0 13 0 (([]:List l8)++((list.drop 0).take (at_.toNat-0))).length),e:=some (m6 62 13 s8 (([]:List l8)++((list.drop 0).take (at_.toNat-0))))})<|t9 h fun e3 h=>om (V.sl 13 (list.length-(m7 (at_+1)).toNat) (((list.map s8).drop (m7 (at_+1)).toNat).take (list.length-(m7 (at_+1)).toNat))=j8 13 s8 ((list.drop (m7 (at_+1)).toNat).take (list.length-(m7 (at_+1)).toNat))) (b2X e3)<|ob e3.1<|ob e3.2<|tl (8,{v:=some (j8 13 s8 ((list.drop (m7 (at_+1)).toNat).take (list.length-(m7 (at_+1)).toNat)))})<|t9 h fun e4 h=>apL 9 11 62 13 152 s8 (([]:List l8)++((list.drop 0).take (at_.toNat-0))) ((list.drop (m7 (at_+1)).toNat).take (list.length-(m7 (at_+1)).toNat)) e4<|s7 ((([]:List l8)++((list.drop 0).take (at_.toNat-0)))++((list.drop (m7 (at_+1)).toNat).take (list.length-(m7 (at_+1)).toNat)))<|fE h
def b7L:FS (o9):=⟨138,Tryz.f138,[],[some (0,.ptr I4 L2),none],[.ptr I4 L2,.val [] []],fun _=>.tup [],fun r=>[some (.optr 173 (M0 r)),none],Tryz.func138⟩
def b0c(a:o9)(bal:Int):Option o9 :=
 (bif (a.n.d7 != 0) then (bif decide (bal>a.n.a8) then ((b19 a).bind fun follow=>some follow) else some a) else some a)
theorem c2d{a bal}:OK b7L [.optr 173 (M0 a),vi bal] (b0c a bal) :=
 o7 _ fun r h=>rg<|j5 6 h (fun h=>j5 14 h (fun h=>rg<|l7 b7Z c4e 1 h fun follow h=>C6 a<|C6 follow<|fE h) (fun h=>C6 a<|fE h)) (fun h=>C6 a<|fE h)
def b6R:FS (o9):=⟨133,Tryz.f133,[],[some (0,.ptr I4 L2),none],[.ptr I4 L2,.val B8 []],fun _=>.tup [],fun r=>[some (.optr 173 (M0 r)),none],Tryz.func133⟩
def d73(m:l8)(yield:o9):(List m8)->KS:=fun b5U=>⟨b6R.k 8 [false,true],(.ptr 0 0 0::(bs 2 (.ptr 6 0 0::(bs 2 (j8 8 p8 b5U::(bs 54 [])))))),[some [.var 173 (b31 yield),.dead,.dead,.dead,.dead,.dead]]++a3h yield++[some [.var 62 (a4y m)]]⟩
def b9M(m:l8)(yield:o9)(b5U:List m8):Option o9 :=
 ((a4j yield m.c8 (l8.mk 2 0 0 m.a8 m.g7 (m4.mk false (n9.mk 0 0) (n5.mk [] [] 0 0)) b5U)).bind fun a8d=>some a8d)
theorem e8H(m yield)(r):NF b6R r (d73 m yield) (fun s=>b9M m yield s):=fun b5U h=>PK<|rg<|l7 a5H a8z 9 h fun a8d h=>C6 yield<|C6 a8d<|fE h
def b9C(a:o9)(m:l8):Option o9 :=
 ((b0N a.n.Acc m.a8).bind fun V4=>(bif (!V4.2) then ((a4j a m.c8 (l8.mk 6 0 0 a.n.Acc.i0 0 (m4.mk false (n9.mk 0 0) (n5.mk [] [] 0 0)) [])).bind fun Z4=>some Z4) else ((b0c (o9.mk (j6.mk a.n.Id V4.1 a.n.a5 a.n.Seq a.n.d7 a.n.a8 a.n.c8 a.n.i4 a.n.c9 a.n.a7 a.n.i8 a.n.i6 a.n.b7 a.n.d9) a.out a.told) m.a8).bind fun yield=>(((bif decide (m.g7<(V4.1.a7.length:Int)) then (t0 ((0:Int)<=m.g7/\m.g7<=(V4.1.a7.length:Int)) (some (l9.brk ((V4.1.a7.drop m.g7.toNat).take (V4.1.a7.length-m.g7.toNat))))) else some (l9.brk [])):Option (l9 o9 (List m8))).bind fun x=>x.go some fun j=>b9M m yield j))))
theorem e97{a m}:OK b6R [.optr 173 (M0 a),.agg (s8 m)] (b9C a m) :=
 o7 _ fun r h=>n6<|l7 b7W c4P 7 h fun V4 h=>rg<|j5 1 h (fun h=>rg<|l7 a5H a8z 10 h fun Z4 h=>C6 a<|C6 Z4<|fE h) (fun h=>n6<|l7 b7L c2d 3 h fun yield h=>C6 a<|rg<|A6 h (e8H m yield r) fun x1 h hc1=>rg<|j5 5 h (fun h=>rg<|t9 h fun e1 h=>om (V.sl 8 (V4.1.a7.length-m.g7.toNat) (((V4.1.a7.map p8).drop m.g7.toNat).take (V4.1.a7.length-m.g7.toNat))=j8 8 p8 ((V4.1.a7.drop m.g7.toNat).take (V4.1.a7.length-m.g7.toNat))) (b2X e1)<|ob e1.1<|ob e1.2<|tl (4,{v:=some (j8 8 p8 ((V4.1.a7.drop m.g7.toNat).take (V4.1.a7.length-m.g7.toNat)))})<|(o8 h hc1 fun hI=>sk [] [0,3,6] [(27,0),(27,1),(27,2),(27,3),(27,4),(1,0)] hI)) (fun h=>(o8 h hc1 fun hI=>sk [.frz (.tmp 6) (some 8)] [0,3,6] [(27,0),(27,1),(27,2),(27,3),(27,4),(1,0)] hI)))
def a3g:FS (List m8):=⟨173,Tryz.f173,[.val [some 8] []],[none,none],[.val [some 8] [],.val [some 8] []],fun r=>j8 8 p8 r,fun _=>[none,none],Tryz.func173⟩
def b7S:(List m8)->KS:=fun out1=>⟨a3g.k 5 [false,false],(bs 5 (.own 1 0 8 0 out1.length::(bs 67 []))),[some [],some [m6 106 8 p8 out1]]⟩
def c4z(out1:List m8):Option (List m8) :=
 ((a9e out1).bind fun a05=>some a05)
theorem f0k(r):NF a3g r b7S (fun s=>c4z s):=fun out1 h=>PK<|rg<|l7 a3V b9O 1 h fun a05 h=>C7 out1 a05<|fE h
def c4p(a:List m8)(b:List m8):((List m8)×Int)->KS:=fun (out,i)=>⟨a3g.k 4 [false],(j8 8 p8 a::(j8 8 p8 b::(bs 3 (.own 1 0 8 0 out.length::(vi i::(bs 66 [])))))),[some [],some [m6 106 8 p8 out]]⟩
def e1F(a:List m8)(b:List m8)(out:List m8)(i:Int):Unit->KS:=fun _=>⟨a3g.k 5 [false,true],(j8 8 p8 a::(j8 8 p8 b::(bs 3 (.own 1 0 8 0 out.length::(vi i::(bs 66 [])))))),[some [],some [m6 106 8 p8 out]]⟩
def e1Y(a:List m8)(b:List m8)(i:Int):(List m8)->KS:=fun out2=>⟨a3g.k 7 [false,true,true],(j8 8 p8 a::(j8 8 p8 b::(bs 3 (.own 1 0 8 0 out2.length::(vi i::(bs 66 [])))))),[some [],some [m6 106 8 p8 out2]]⟩
def c06(i:Int)(out2:List m8):Option (j9 (List m8) ((List m8)×Int) (List m8)) :=
 some (j9.nxt (out2,m7 (i+1)))
theorem e89(a b i)(lc:F6 a3g b7S (c4p a b)):NL lc (e1Y a b i) (fun s=>c06 i s):=fun out2 h=>PK<|rg<|(lc.nx h fun hI=>sk [] [0,1,5,6] [(1,0)] hI)
def c0d(a:List m8)(b:List m8)(out:List m8)(i:Int):Option (j9 (List m8) ((List m8)×Int) (List m8)) :=
 (((bif decide (i>=(a.length:Int)) then ((idx b i).bind fun vote=>(t0 ((out.length+1)*96<=140737488355328) (some (l9.brk (out++[vote]))))) else (bif decide (i>=(b.length:Int)) then ((idx a i).bind fun O0=>(t0 ((out.length+1)*96<=140737488355328) (some (l9.brk (out++[O0]))))) else ((idx a i).bind fun b2Y=>((idx b i).bind fun b12=>(bif decide (b2Y.a8>=b12.a8) then (t0 ((out.length+1)*96<=140737488355328) (some (l9.brk (out++[b2Y])))) else (t0 ((out.length+1)*96<=140737488355328) (some (l9.brk (out++[b12]))))))))):Option (l9 (j9 (List m8) ((List m8)×Int) (List m8)) (List m8))).bind fun x=>x.go some fun j=>c06 i j)
theorem f2a(a b out i)(lc:F6 a3g b7S (c4p a b)):NL lc (e1F a b out i) (fun s=>c0d a b out i):=fun _ h=>PK<|A6 h (e89 a b i lc) fun x2 h hc2=>rg<|j5 4 h (fun h=>rg<|v5 p8 3 h fun vote J5 h=>tk 5 W0<|t9 h fun e1 h=>F9 6 13 106 8 96 p8 out vote e1<|E6 vote<|(o8 h hc2 fun hI=>sk [] [0,1,5,6] [(13,0)] hI)) (fun h=>rg<|j5 4 h (fun h=>rg<|v5 p8 3 h fun O0 a2J h=>tk 5 W0<|t9 h fun e2 h=>F9 6 31 106 8 96 p8 out O0 e2<|E6 O0<|(o8 h hc2 fun hI=>sk [] [0,1,5,6] [(31,0)] hI)) (fun h=>v5 p8 7 h fun b2Y e0Z h=>v5 p8 12 h fun b12 d9S h=>j5 17 h (fun h=>rg<|J3 p8 3 e0Z<|tk 5 W0<|t9 h fun e3 h=>F9 6 31 106 8 96 p8 out b2Y e3<|E6 b2Y<|(o8 h hc2 fun hI=>sk [] [0,1,5,6] [(31,0)] hI)) (fun h=>rg<|J3 p8 3 d9S<|tk 5 W0<|t9 h fun e4 h=>F9 6 31 106 8 96 p8 out b12 e4<|E6 b12<|(o8 h hc2 fun hI=>sk [] [0,1,5,6] [(31,0)] hI))))
def a5Z(a:List m8)(b:List m8)(out:List m8)(i:Int):Option (j9 (List m8) ((List m8)×Int) (List m8)) :=
 (((bif decide (i<(a.length:Int)) then some (l9.brk ()) else (bif decide (i<(b.length:Int)) then some (l9.brk ()) else some (l9.ret (j9.brk out)))):Option (l9 (j9 (List m8) ((List m8)×Int) (List m8)) Unit)).bind fun x=>x.go some fun j=>c0d a b out i)
theorem f1o(a b):LQ a3g b7S (c4p a b) (fun s=>a5Z a b s.1 s.2):=fun lc (out,i) h=>PK<|A6 h (f2a a b out i lc) fun x2 h hc2=>rg<|j5 4 h (fun h=>(o8 h hc2 fun hI=>sk [] [0,1,5,6] [(1,0)] hI)) (fun h=>j5 9 h (fun h=>(o8 h hc2 fun hI=>sk [] [0,1,5,6] [(1,0)] hI)) (fun h=>(B7 h hc2 fun h=>(lc.bk h fun hI=>sk [] [5] [(1,0)] hI))))
def b5f(a:List m8)(b:List m8):Option (List m8) :=
 ((a7a a).bind fun L1=>(bif (!L1) then some [] else ((a7a b).bind fun c9V=>(bif (!c9V) then some [] else ((p7 (fun s:(List m8)×Int=>a5Z a b s.1 s.2) ([],0)).bind fun x=>x.go (fun r=>some r) fun s=>c4z s)))))
theorem d9f{a b}:OK a3g [j8 8 p8 a,j8 8 p8 b] (b5f a b) :=
 o7 _ fun r h=>n6<|l7 a2X b1J 1 h fun L1 h=>j5 3 h (fun h=>rg<|fE h) (fun h=>l7 a2X b1J 5 h fun c9V h=>j5 7 h (fun h=>rg<|fE h) (fun h=>n6<|lp (f1o a b) h (fun _ h=>a3g.rt h) (f0k r) fun hI=>sk [.own (.tmp 5) 106 8] [0,1,5,6] [(12,0)] hI))
def a3P:FS (Int):=⟨174,Tryz.f174,[.val [] []],[none],[.val [some 1] []],fun r=>vi r,fun _=>[none],Tryz.func174⟩
def c0i:Int->KS:=fun n1=>⟨a3P.k 4 [false],(bs 3 (vi n1::(bs 13 []))),[some []]⟩
def c7t(n1:Int):Option Int :=
 some n1
theorem d9D(r):NF a3P r c0i (fun s=>c7t s):=fun n1 h=>PK<|rg<|fE h
def d1o(list:List Bool):(Int×Int)->KS:=fun (n,v8)=>⟨a3P.k 3 [],(bs 3 (vi n::(bs 2 (j8 1 eB list::(vi (list.length:Int)::(vi v8::(bs 8 []))))))),[some []]⟩
def e5z(list:List Bool)(v8:Int):Int->KS:=fun n2=>⟨a3P.k 7 [true,true],(bs 3 (vi n2::(bs 2 (j8 1 eB list::(vi (list.length:Int)::(vi v8::(bs 8 []))))))),[some []]⟩
def c1h(v8:Int)(n2:Int):Option (j9 Int (Int×Int) Int) :=
 some (j9.nxt (n2,m7 (v8+1)))
theorem e03(list v8)(lc:F6 a3P c0i (d1o list)):NL lc (e5z list v8) (fun s=>c1h v8 s):=fun n2 h=>PK<|rg<|(lc.nx h fun hI=>sk [] [3,6,7,8] [] hI)
def a4W(list:List Bool)(n:Int)(v8:Int):Option (j9 Int (Int×Int) Int) :=
 (bif decide (v8<(list.length:Int)) then ((idx list v8).bind fun y=>(((bif y then some (l9.brk (m7 (n+1))) else some (l9.brk n)):Option (l9 (j9 Int (Int×Int) Int) Int)).bind fun x=>x.go some fun j=>c1h v8 j)) else some (j9.brk n))
theorem e6w(list):LQ a3P c0i (d1o list) (fun s=>a4W list s.1 s.2):=fun lc (n,v8) h=>PK<|rg<|j5 0 h (fun h=>rg<|v5 eB 0 h fun y hy h=>A6 h (e03 list v8 lc) fun x2 h hc2=>rg<|j5 0 h (fun h=>rg<|(o8 h hc2 fun hI=>sk [] [3,6,7,8] [] hI)) (fun h=>(o8 h hc2 fun hI=>sk [] [3,6,7,8] [] hI))) (fun h=>(lc.bk h fun hI=>sk [] [3] [] hI))
def b15(list:List Bool):Option Int :=
 ((p7 (fun s:Int×Int=>a4W list s.1 s.2) (0,0)).bind fun x=>x.go (fun r=>some r) fun s=>c7t s)
theorem d1q{list}:OK a3P [j8 1 eB list] (b15 list) :=
 o7 _ fun r h=>N0<|lp (e6w list) h (fun _ h=>a3P.rt h) (d9D r) fun hI=>sk [] [3,6,7,8] [] hI
def c9q:FS (o9):=⟨134,Tryz.f134,[],[some (0,.ptr I4 L2),none],[.ptr I4 L2,.val B8 []],fun _=>.tup [],fun r=>[some (.optr 173 (M0 r)),none],Tryz.func134⟩
def b6d(a:o9)(m:l8):Option o9 :=
 (bif (a.n.d7 != 1) then some a else (bif (m.a8 != a.n.a8) then some a else ((idx a.n.c8 m.c8).bind fun y=>(t0 (0<=m.g7/\m.g7*96<=140737488355328) ((t0 (((f5u m.g7.toNat (m8.mk 0 (m4.mk false (n9.mk 0 0) (n5.mk [] [] 0 0)))).length+m.a7.length)*96<=140737488355328) (((b5f a.n.i4 ((f5u m.g7.toNat (m8.mk 0 (m4.mk false (n9.mk 0 0) (n5.mk [] [] 0 0))))++m.a7)).bind fun c2o=>((b15 (a.n.c8.set m.c8.toNat true)).bind fun b2f=>(bif decide (b2f>=2) then ((a5E (o9.mk (j6.mk a.n.Id a.n.Acc a.n.a5 a.n.Seq 2 a.n.a8 [] c2o a.n.c9 a.n.a7 a.n.i8 a.n.i6 a.n.b7 a.n.d9) a.out a.told)).bind fun Z7=>some Z7) else some (o9.mk (j6.mk a.n.Id a.n.Acc a.n.a5 a.n.Seq a.n.d7 a.n.a8 (a.n.c8.set m.c8.toNat true) c2o a.n.c9 a.n.a7 a.n.i8 a.n.i6 a.n.b7 a.n.d9) a.out a.told)))))))))))
theorem d8E{a m}:OK c9q [.optr 173 (M0 a),.agg (s8 m)] (b6d a m) :=
 o7 _ fun r h=>n6<|j5 6 h (fun h=>C6 a<|fE h) (fun h=>j5 15 h (fun h=>C6 a<|fE h) (fun h=>rg<|A8 h fun y hy h=>B5 hy<|Q3 4 1 eB 8 [] true hy<|rg<|t9 h fun e1 h=>R8 8 35 106 8 96 p8 (m8.mk 0 (m4.mk false (n9.mk 0 0) (n5.mk [] [] 0 0))) b18 (.ck W0) e1 (by decide) (by rfl)<|t9 h fun e2 h=>apL 11 38 106 8 96 p8 (f5u m.g7.toNat (m8.mk 0 (m4.mk false (n9.mk 0 0) (n5.mk [] [] 0 0)))) m.a7 e2<|l7 a3g d9f 12 h fun c2o h=>s7 ((f5u m.g7.toNat (m8.mk 0 (m4.mk false (n9.mk 0 0) (n5.mk [] [] 0 0))))++m.a7)<|rg<|T5 a3P d1q 5 1 h fun b2f h=>om (a.n.c8.length=(a.n.c8.set m.c8.toNat true).length) (by simp)<|j5 6 h (fun h=>N0<|l7 a9m b4b 1 h fun Z7 h=>H5 a.n.a5 a.n.a7 a.out a.told<|C6 Z7<|fE h) (fun h=>s7 a.n.a5<|om (a.n.c8.length=(a.n.c8.set m.c8.toNat true).length) (by simp)<|Y1 a.n.a7 a.out a.told<|fE h)))
def d6y:FS (o9):=⟨135,Tryz.f135,[],[some (0,.ptr I4 L2),none],[.ptr I4 L2,.val B8 []],fun _=>.tup [],fun r=>[some (.optr 173 (M0 r)),none],Tryz.func135⟩
def b7U(a:o9)(m:l8):Option o9 :=
 ((b3j a.n.Acc m.a8 m.g7 m.g9).bind fun a7S=>(bif (!a7S.2) then ((a4j a m.c8 (l8.mk 6 0 0 a.n.Acc.i0 0 (m4.mk false (n9.mk 0 0) (n5.mk [] [] 0 0)) [])).bind fun Z4=>some Z4) else ((b0c (o9.mk (j6.mk a.n.Id a7S.1 a.n.a5 a.n.Seq a.n.d7 a.n.a8 a.n.c8 a.n.i4 a.n.c9 a.n.a7 a.n.i8 a.n.i6 a.n.b7 a.n.d9) a.out a.told) m.a8).bind fun yield=>((a4j yield m.c8 (l8.mk 4 0 0 m.a8 m.g7 (m4.mk false (n9.mk 0 0) (n5.mk [] [] 0 0)) [])).bind fun a8d=>some a8d))))
theorem d8A{a m}:OK d6y [.optr 173 (M0 a),.agg (s8 m)] (b7U a m) :=
 o7 _ fun r h=>n6<|l7 a6D c7P 11 h fun a7S h=>rg<|j5 1 h (fun h=>rg<|l7 a5H a8z 10 h fun Z4 h=>C6 a<|C6 Z4<|fE h) (fun h=>n6<|l7 b7L c2d 3 h fun yield h=>C6 a<|rg<|l7 a5H a8z 8 h fun a8d h=>C6 yield<|C6 a8d<|fE h)
def a2K:FS (o9):=⟨175,Tryz.f175,[],[some (0,.ptr I4 L2),none],[.ptr I4 L2,.val K4 []],fun _=>.tup [],fun r=>[some (.optr 173 (M0 r)),none],Tryz.func175⟩
def d95:o9->KS:=fun a1=>⟨a2K.k 6 [true],(.ptr 0 0 0::(bs 123 [])),[some ([.var 173 (c9O a1),.dead,m6 4 1 eB a1.n.c8,.dead]++d3z a1)]++d0f a1⟩
def d1T:o9->KS:=fun a2=>⟨a2K.k 16 [true,true,true],(.ptr 0 0 0::(bs 123 [])),[some [.var 173 (e6V a2),.dead,m6 4 1 eB a2.n.c8,.dead,m6 62 13 s8 a2.out,.dead]]++f0r a2⟩
def b8t(a2:o9):Option o9 :=
 ((a5E a2).bind fun Z7=>some Z7)
theorem d9q(r):NF a2K r d1T (fun s=>b8t s):=fun a2 h=>PK<|rg<|l7 a9m b4b 1 h fun Z7 h=>C6 a2<|C6 Z7<|fE h
def d9P(a1:o9)(y:Int):Int->KS:=fun a9U=>⟨a2K.k 12 [true,true,true],(.ptr 0 0 0::(bs 6 (.ptr 3 0 0::(bs 116 [])))),[some ([.var 173 (c9O a1),.dead,m6 4 1 eB a1.n.c8,.dead]++d3z a1)]++d0f a1++[some [.var 69 [vi a1.n.Id,vi a1.n.b7.a0.b9,vi a1.n.b7.a0.Seq,vi y,vi a9U]]]⟩
def b6E(a1:o9)(y:Int)(a9U:Int):Option (l9 o9 o9) :=
 (t0 ((a1.told.length+1)*40<=140737488355328) (some (l9.brk (o9.mk (j6.mk a1.n.Id a1.n.Acc a1.n.a5 a1.n.Seq a1.n.d7 a1.n.a8 a1.n.c8 a1.n.i4 a1.n.c9 a1.n.a7 false [] (m4.mk false (n9.mk 0 0) (n5.mk [] [] 0 0)) a1.n.d9) a1.out (a1.told++[(m9.mk a1.n.Id a1.n.b7.a0 y a9U)])))))
theorem d8z(a1 y)(r){x1}(hc1:JC (fun j=>FK cx a2K.X (a2K.R r) (a2K.O r) (d1T j)) r x1):NG a2K r (d9P a1 y) (fun s=>b6E a1 y s) x1:=fun a9U h=>PK<|rg<|tk 6 []<|t9 h fun e2 h=>F9 7 11 69 5 40 z4 a1.told (m9.mk a1.n.Id a1.n.b7.a0 y a9U) e2<|E6 (m9.mk a1.n.Id a1.n.b7.a0 y a9U)<|N0<|(o8 h hc1 fun hI=>sk [.frz (.cell 0 0 18) (some 4),.frz (.cell 0 0 22) (some 2),.frz (.cell 0 0 23) (some 2)] [0] [(1,0),(2,0),(11,0)] hI)
def b6B(a1:o9):Option o9 :=
 ((a5F a1.n.a5 a1.n.b7.a0).bind fun first=>(((bif a1.n.i8 then (bif decide (first>=0) then ((a84 a1.n.a5).bind fun q9=>((idx q9.2 first).bind fun y=>(((bif (y==0) then ((idx a1.n.a5 first).bind fun entry=>some (l9.brk entry.b8.f0)) else some (l9.brk 0)):Option (l9 (l9 o9 o9) Int)).bind fun x=>x.go some fun j=>b6E a1 y j))) else some (l9.brk a1)) else some (l9.brk a1)):Option (l9 o9 o9)).bind fun x=>x.go some fun j=>b8t j))
theorem e7i(r):NF a2K r d95 (fun s=>b6B s):=fun a1 h=>PK<|rg<|T5 a2b b14 11 2 h fun first h=>s7 a1.n.a5<|A6 h (d9q r) fun x1 h hc1=>rg<|j5 5 h (fun h=>j5 8 h (fun h=>rg<|cbS a2U b8S 5 (fun _=>(by simp [a2U,K9,R4,O6,V.simple,vi,u9,b4D,z6,B6,eI,I7,a8b])) (fun _=>(P8 1)) h fun q9 h=>s7 a1.n.a5<|rg<|A8 h fun y hy h=>B5 hy<|H8 eI 14 hy<|A6 h (d8z a1 y r hc1) fun x2 h hc2=>rg<|j5 2 h (fun h=>rg<|A8 h fun entry G9 h=>B5 G9<|H8 t5 9 G9<|(o8 h hc2 fun hI=>sk [] [0,7] [(1,0),(2,0),(53,0)] hI)) (fun h=>(o8 h hc2 fun hI=>sk [] [0,7] [(1,0),(2,0),(53,0)] hI))) (fun h=>(o8 h hc1 fun hI=>sk [] [0] [(1,0),(2,0),(0,5)] hI))) (fun h=>(o8 h hc1 fun hI=>sk [] [0] [(1,0),(2,0),(0,5)] hI))
def b4i(a:o9)(e_:m4):Option o9 :=
 (t0 ((a.n.a5.length+1)*88<=140737488355328) ((((bif (a.n.d7==3) then some (l9.brk (o9.mk (j6.mk a.n.Id a.n.Acc (a.n.a5++[e_]) a.n.Seq 2 a.n.a8 a.n.c8 a.n.i4 (m4.mk false (n9.mk 0 0) (n5.mk [] [] 0 0)) [] a.n.i8 a.n.i6 a.n.b7 a.n.d9) a.out a.told)) else some (l9.brk (o9.mk (j6.mk a.n.Id a.n.Acc (a.n.a5++[e_]) a.n.Seq a.n.d7 a.n.a8 a.n.c8 a.n.i4 a.n.c9 a.n.a7 a.n.i8 a.n.i6 a.n.b7 a.n.d9) a.out a.told))):Option (l9 o9 o9)).bind fun x=>x.go some fun j=>b6B j)))
theorem c5V{a e_}:OK a2K [.optr 173 (M0 a),.agg (t5 e_)] (b4i a e_) :=
 o7 _ fun r h=>n6<|tk 7 K4<|t9 h fun e1 h=>F9 8 10 55 7 88 t5 a.n.a5 e_ e1<|E6 e_<|A6 h (e7i r) fun x1 h hc1=>rg<|j5 5 h (fun h=>N0<|(o8 h hc1 fun hI=>sk [.frz (.cell 0 0 12) (some 2),.frz (.cell 0 0 13) (some 2),.own (.cell 0 0 16) 4 1,.kill 0 3] [0] [(10,0),(37,0)] hI)) (fun h=>(o8 h hc1 fun hI=>sk [] [0] [(10,0),(0,3)] hI))
def c6m:FS (o9):=⟨136,Tryz.f136,[],[some (0,.ptr I4 L2),none],[.ptr I4 L2,.val B8 []],fun _=>.tup [],fun r=>[some (.optr 173 (M0 r)),none],Tryz.func136⟩
def b7g(a:o9)(m:l8):Option o9 :=
 (bif (a.n.d7 != 3) then some a else (bif (m.a8 != a.n.a8) then some a else (bif (m.g7 != (a.n.a5.length:Int)) then some a else ((idx a.n.a7 m.c8).bind fun y=>((b15 (a.n.a7.set m.c8.toNat true)).bind fun b2f=>(bif decide (b2f>=2) then ((a3y (o9.mk (j6.mk a.n.Id a.n.Acc a.n.a5 a.n.Seq a.n.d7 a.n.a8 a.n.c8 a.n.i4 a.n.c9 (a.n.a7.set m.c8.toNat true) a.n.i8 a.n.i6 a.n.b7 a.n.d9) a.out a.told) (l8.mk 5 0 0 0 m.g7 a.n.c9 [])).bind fun all=>((b4i all all.n.c9).bind fun a88=>some a88)) else some (o9.mk (j6.mk a.n.Id a.n.Acc a.n.a5 a.n.Seq a.n.d7 a.n.a8 a.n.c8 a.n.i4 a.n.c9 (a.n.a7.set m.c8.toNat true) a.n.i8 a.n.i6 a.n.b7 a.n.d9) a.out a.told)))))))
theorem d7g{a m}:OK c6m [.optr 173 (M0 a),.agg (s8 m)] (b7g a m) :=
 o7 _ fun r h=>n6<|j5 6 h (fun h=>C6 a<|fE h) (fun h=>j5 16 h (fun h=>C6 a<|fE h) (fun h=>j5 26 h (fun h=>C6 a<|fE h) (fun h=>rg<|A8 h fun y hy h=>B5 hy<|Q3 4 1 eB 8 [] true hy<|rg<|T5 a3P d1q 5 1 h fun b2f h=>om (a.n.a7.length=(a.n.a7.set m.c8.toNat true).length) (by simp)<|j5 6 h (fun h=>rg<|l7 a1k a54 9 h fun all h=>C7 a.n.a5 a.n.c8<|om (a.n.a7.length=(a.n.a7.set m.c8.toNat true).length) (by simp)<|C7 a.out a.told<|rg<|l7 a2K c5V 6 h fun a88 h=>C6 all<|C6 a88<|fE h) (fun h=>C7 a.n.a5 a.n.c8<|om (a.n.a7.length=(a.n.a7.set m.c8.toNat true).length) (by simp)<|C7 a.out a.told<|fE h))))
def d0d:FS (o9):=⟨137,Tryz.f137,[],[some (0,.ptr I4 L2),none],[.ptr I4 L2,.val B8 []],fun _=>.tup [],fun r=>[some (.optr 173 (M0 r)),none],Tryz.func137⟩
def b6V(a:o9)(m:l8):Option o9 :=
 (bif decide (m.g7<(a.n.a5.length:Int)) then some a else (bif decide (m.g7>(a.n.a5.length:Int)) then ((a4j a m.c8 (l8.mk 8 0 0 0 (a.n.a5.length:Int) (m4.mk false (n9.mk 0 0) (n5.mk [] [] 0 0)) [])).bind fun Z4=>some Z4) else ((b4i a m.g9).bind fun a88=>some a88)))
theorem e9h{a m}:OK d0d [.optr 173 (M0 a),.agg (s8 m)] (b6V a m) :=
 o7 _ fun r h=>n6<|j5 9 h (fun h=>C6 a<|fE h) (fun h=>rg<|j5 9 h (fun h=>rg<|l7 a5H a8z 10 h fun Z4 h=>C6 a<|C6 Z4<|fE h) (fun h=>rg<|l7 a2K c5V 3 h fun a88 h=>C6 a<|C6 a88<|fE h))
def d4r:FS (Bool×o9):=⟨176,Tryz.f176,[.val [] []],[some (0,.ptr I4 om7),none],[.ptr I4 om7,.val [] []],fun r=>.b r.1,fun r=>[some (.optr 173 (b6n r.2)),none],Tryz.func176⟩
def b7v(a:o9)(q:n9):Option (Bool×o9) :=
 ((a5F a.n.a5 q).bind fun first=>some (decide (first>=0),a))
theorem e6l{a q}:OK d4r [.optr 173 (b6n a),.agg (I7 q)] (b7v a q) :=
 o7 _ fun r h=>n6<|T5 a2b b14 6 2 h fun first h=>s7 a.n.a5<|J6 a.n<|C7 a.out a.told<|fE h
def d3t:FS (o9):=⟨139,Tryz.f139,[],[some (0,.ptr I4 L2),none],[.ptr I4 om7,.val B8 []],fun _=>.tup [],fun r=>[some (.optr 173 (M0 r)),none],Tryz.func139⟩
def b9X(a:o9)(m:l8):Option o9 :=
 (bif (a.n.d7==0) then some a else (bif decide ((a.n.d9.length:Int)>=4) then some a else ((b7v a m.g9.a0).bind fun v_=>(bif v_.1 then some v_.2 else (t0 ((v_.2.n.d9.length+1)*88<=140737488355328) (((a5E (o9.mk (j6.mk v_.2.n.Id v_.2.n.Acc v_.2.n.a5 v_.2.n.Seq v_.2.n.d7 v_.2.n.a8 v_.2.n.c8 v_.2.n.i4 v_.2.n.c9 v_.2.n.a7 v_.2.n.i8 v_.2.n.i6 v_.2.n.b7 (v_.2.n.d9++[m.g9])) v_.2.out v_.2.told)).bind fun Z7=>some Z7)))))))
theorem f3b{a m}:OK d3t [.optr 173 (b6n a),.agg (s8 m)] (b9X a m) :=
 o7 _ fun r h=>n6<|j5 6 h (fun h=>J6 a.n<|C7 a.out a.told<|fE h) (fun h=>j5 15 h (fun h=>J6 a.n<|C7 a.out a.told<|fE h) (fun h=>l7 d4r e6l 20 h fun v_ h=>J6 a.n<|C7 a.out a.told<|j5 21 h (fun h=>J6 v_.2.n<|C7 v_.2.out v_.2.told<|fE h) (fun h=>rg<|tk 8 K4<|t9 h fun e1 h=>F9 9 33 55 7 88 t5 v_.2.n.d9 m.g9 e1<|E6 m.g9<|rg<|l7 a9m b4b 1 h fun Z7 h=>H5 v_.2.n.a5 v_.2.n.c8 v_.2.n.a7 (v_.2.n.d9++[m.g9])<|C7 v_.2.out v_.2.told<|C6 Z7<|fE h)))
def a2f:FS (j6×(List l8)×List m9):=⟨95,Tryz.f95,[.val A7 [],.val [some 13] [],.val [some 5] []],[none,none],[.val A7 [],.val B8 []],fun r=>.tup [.agg (x6 r.1),j8 13 s8 r.2.1,j8 5 z4 r.2.2],fun _=>[none,none],Tryz.func95⟩
def d3l:o9->KS:=fun a=>⟨a2f.k 7 [false,false,true],(bs 4 (.ptr 1 0 0::(bs 2 (.ptr 2 0 0::(bs 108 []))))),[some [],some [.var 57 [vi 0,vi 0,.nil,.nil,vi 0,vi 0,vi 0,.nil,.nil,.b false,vi 0,vi 0,.nil,.nil,vi 0,vi 0,.nil,.b false,.nil,.b false,vi 0,vi 0,.nil,.nil,vi 0,vi 0,.nil]],some [.var 173 (b1Z a)]]++a3h a⟩
def b4X(a:o9):Option (j6×(List l8)×List m9) :=
 ((a1K a).bind fun a5j=>some (a5j.1,a5j.2.1,a5j.2.2.1))
theorem e1s(r):NF a2f r d3l (fun s=>b4X s):=fun a h=>PK<|rg<|l7 a4n a5q 1 h fun a5j h=>C6 a<|fE h
def c6v:o9->KS:=fun a2=>⟨a2f.k 15 [false,false,false,false,false,false,false,false,false,true,false],(bs 4 (.ptr 1 0 0::(bs 2 (.ptr 2 0 0::(bs 108 []))))),[some [],some [.var 57 [vi 0,vi 0,.nil,.nil,vi 0,vi 0,vi 0,.nil,.nil,.b false,vi 0,vi 0,.nil,.nil,vi 0,vi 0,.nil,.b false,.nil,.b false,vi 0,vi 0,.nil,.nil,vi 0,vi 0,.nil]],some [.var 173 (b1Z a2)]]++a3h a2⟩
def d4a(a2:o9):Option (l9 (j6×(List l8)×List m9) o9) :=
 some (l9.brk a2)
theorem e6Z(r){x1}(hc1:JC (fun j=>FK cx a2f.X (a2f.R r) (a2f.O r) (d3l j)) r x1):NG a2f r c6v (fun s=>d4a s) x1:=fun a2 h=>PK<|(o8 h hc1 fun hI=>sk [] [4,7] [(1,0),(2,0),(3,0),(4,0),(5,0),(6,0),(7,0)] hI)
def e8N(m:l8):(Int×o9)->KS:=fun (i,a1)=>⟨a2f.k 14 [false,false,false,false,false,false,false,false,false,true],(bs 3 (.ptr 1 0 0::(.ptr 2 0 0::(bs 2 (.ptr 3 0 0::(vi i::(bs 107 []))))))),[some [],some [.var 62 (a4y m)],some [.var 57 [vi 0,vi 0,.nil,.nil,vi 0,vi 0,vi 0,.nil,.nil,.b false,vi 0,vi 0,.nil,.nil,vi 0,vi 0,.nil,.b false,.nil,.b false,vi 0,vi 0,.nil,.nil,vi 0,vi 0,.nil]],some [.var 173 (e8d a1)]]++a3h a1⟩
def a7d(m:l8)(i:Int)(a1:o9):Option (j9 (j6×(List l8)×List m9) (Int×o9) o9) :=
 (bif decide (i<(a1.n.a5.length:Int)) then ((idx a1.n.a5 i).bind fun entry=>((a4j a1 m.c8 (l8.mk 5 0 0 0 i entry [])).bind fun Z4=>some (j9.nxt (m7 (i+1),Z4)))) else some (j9.brk a1))
theorem e0L(m):LQ a2f c6v (e8N m) (fun s=>a7d m s.1 s.2):=fun lc (i,a1) h=>PK<|rg<|j5 7 h (fun h=>rg<|A8 h fun entry G9 h=>B5 G9<|H8 t5 11 G9<|l7 a5H a8z 13 h fun Z4 h=>C6 a1<|rg<|(lc.nx h fun hI=>sk [] [3,4,7,8] [(1,0),(2,0),(3,0),(30,0),(30,1),(30,2),(30,3),(30,4)] hI)) (fun h=>(lc.bk h fun hI=>sk [] [4,7] [(2,0),(3,0),(4,0),(5,0),(6,0),(7,0),(8,0)] hI))
def b5R(n:j6)(m:l8):Option (j6×(List l8)×List m9) :=
 ((a4w n).bind fun D2=>(bif (!D2) then some ((j6.mk 0 (z0.mk 0 []) [] 0 0 0 [] [] (m4.mk false (n9.mk 0 0) (n5.mk [] [] 0 0)) [] false [] (m4.mk false (n9.mk 0 0) (n5.mk [] [] 0 0)) []),[],[]) else ((a8H n).bind fun begin=>((b2p m).bind fun Q2=>(bif (!Q2) then ((a1K begin).bind fun W8=>some (W8.1,W8.2.1,W8.2.2.1)) else (bif (m.To != n.Id) then ((a1K begin).bind fun a4T=>some (a4T.1,a4T.2.1,a4T.2.2.1)) else (((bif (m.a9==1) then ((b9C begin m).bind fun c7D=>some (l9.brk c7D)) else (bif (m.a9==2) then ((b6d begin m).bind fun d24=>some (l9.brk d24)) else (bif (m.a9==3) then ((b7U begin m).bind fun d1j=>some (l9.brk d1j)) else (bif (m.a9==4) then ((b7g begin m).bind fun c95=>some (l9.brk c95)) else (bif (m.a9==5) then ((b6V begin m).bind fun d5V=>some (l9.brk d5V)) else (bif (m.a9==6) then ((b0N begin.n.Acc m.a8).bind fun V4=>((b0c (o9.mk (j6.mk begin.n.Id V4.1 begin.n.a5 begin.n.Seq begin.n.d7 begin.n.a8 begin.n.c8 begin.n.i4 begin.n.c9 begin.n.a7 begin.n.i8 begin.n.i6 begin.n.b7 begin.n.d9) begin.out begin.told) m.a8).bind fun yield=>some (l9.brk yield))) else (bif (m.a9==7) then ((b9X begin m).bind fun asked=>some (l9.brk asked)) else (bif (m.a9==8) then ((p7 (fun s:Int×o9=>a7d m s.1 s.2) (m.g7,begin)).bind fun x=>x.go (fun r=>some (l9.ret r)) fun s=>d4a s) else some (l9.brk begin))))))))):Option (l9 (j6×(List l8)×List m9) o9)).bind fun x=>x.go some fun j=>b4X j)))))))
set_option maxRecDepth 20000 in
theorem e8D{n m}:OK a2f [.agg (x6 n),.agg (s8 m)] (b5R n m) :=
 o7 _ fun r h=>n6<|l7 a0H a85 1 h fun D2 h=>j5 2 h (fun h=>rg<|fE h) (fun h=>rg<|l7 b32 b8I 1 h fun begin h=>rg<|l7 c3T d6E 1 h fun Q2 h=>j5 3 h (fun h=>rg<|l7 a4n a5q 1 h fun W8 h=>J6 begin.n<|C7 begin.out begin.told<|fE h) (fun h=>j5 9 h (fun h=>rg<|l7 a4n a5q 1 h fun a4T h=>J6 begin.n<|C7 begin.out begin.told<|fE h) (fun h=>rg<|A6 h (e1s r) fun x1 h hc1=>rg<|j5 1 h (fun h=>rg<|l7 b6R e97 2 h fun c7D h=>J6 begin.n<|C7 begin.out begin.told<|(o8 h hc1 fun hI=>sk [] [4,7] [(3,0),(10,0),(28,0),(28,1),(28,2),(28,3),(28,4)] hI)) (fun h=>rg<|j5 1 h (fun h=>rg<|l7 c9q d8E 2 h fun d24 h=>J6 begin.n<|C7 begin.out begin.told<|(o8 h hc1 fun hI=>sk [] [4,7] [(3,0),(10,0),(30,0),(30,1),(30,2),(30,3),(30,4)] hI)) (fun h=>rg<|j5 1 h (fun h=>rg<|l7 d6y d8A 2 h fun d1j h=>J6 begin.n<|C7 begin.out begin.told<|(o8 h hc1 fun hI=>sk [] [4,7] [(3,0),(10,0),(32,0),(32,1),(32,2),(32,3),(32,4)] hI)) (fun h=>rg<|j5 1 h (fun h=>rg<|l7 c6m d7g 2 h fun c95 h=>J6 begin.n<|C7 begin.out begin.told<|(o8 h hc1 fun hI=>sk [] [4,7] [(3,0),(10,0),(34,0),(34,1),(34,2),(34,3),(34,4)] hI)) (fun h=>rg<|j5 1 h (fun h=>rg<|l7 d0d e9h 2 h fun d5V h=>J6 begin.n<|C7 begin.out begin.told<|(o8 h hc1 fun hI=>sk [] [4,7] [(3,0),(10,0),(36,0),(36,1),(36,2),(36,3),(36,4)] hI)) (fun h=>rg<|j5 1 h (fun h=>rg<|l7 b7W c4P 8 h fun V4 h=>rg<|l7 b7L c2d 3 h fun yield h=>J6 begin.n<|C7 begin.out begin.told<|(o8 h hc1 fun hI=>sk [] [4,7] [(3,0),(10,0),(55,0),(55,1),(55,2),(55,3),(55,4)] hI)) (fun h=>rg<|j5 1 h (fun h=>rg<|l7 d3t f3b 2 h fun asked h=>J6 begin.n<|C7 begin.out begin.told<|(o8 h hc1 fun hI=>sk [] [4,7] [(3,0),(10,0),(40,0),(40,1),(40,2),(40,3),(40,4)] hI)) (fun h=>rg<|j5 1 h (fun h=>rg<|lp (e0L m) h (fun _ h=>a2f.rt (e1q h hc1)) (e6Z r hc1) fun hI=>s7 begin.n.d9<|sk [.frz (.cell 10 0 26) (none)] [3,4,7,8] [(2,0),(3,0),(10,0),(10,1),(10,2),(10,3),(10,5),(10,6)] hI) (fun h=>(o8 h hc1 fun hI=>s7 begin.n.d9<|sk [.frz (.cell 10 0 26) (none)] [4,7] [(3,0),(10,0),(10,1),(10,2),(10,3),(10,5),(10,6)] hI))))))))))))
def a9B:FS (m5):=⟨60,Tryz.f60,[.val E2 om6],[none,none],[.val E2 om6,.val [none,none,some 4] []],fun r=>.agg (a8X r),fun _=>[none,none],Tryz.func60⟩
def f3F:m5->KS:=fun w1=>⟨a9B.k 7 [true],(bs 2 (.ptr 1 0 0::(bs 1 (.ptr 6 0 0::(bs 58 []))))),[some [.dead,.dead,.dead,.dead],some [.var 30 [.own 2 0 27 0 w1.a6.length,.own 3 0 13 0 w1.d6.length,.own 4 0 3 0 w1.d8.length,.own 5 0 5 0 w1.Told.length]],some [m6 57 27 x6 w1.a6],some [m6 62 13 s8 w1.d6],some [m6 65 3 B4 w1.d8],some [m6 69 5 z4 w1.Told],some [.var 30 [.nil,.nil,.nil,.nil]]]⟩
def d4J(w1:m5):Option m5 :=
 some w1
theorem e60(r):NF a9B r f3F (fun s=>d4J s):=fun w1 h=>PK<|rg<|A9 w1<|fE h
def a8S(w:m5)(e_:r9):Option m5 :=
 ((idx w.d6 e_.A).bind fun msg=>(((bif (e_.a9==2) then ((b1Q w.d6 e_.A).bind fun off=>((idx w.a6 msg.To).bind fun node=>((b5R node msg).bind fun b6N=>((a4V (m5.mk w.a6 off w.d8 w.Told) b6N.1 b6N.2.1 b6N.2.2).bind fun a3a=>some (l9.brk a3a))))) else (bif (e_.a9==3) then ((b1Q w.d6 e_.A).bind fun c7H=>some (l9.brk (m5.mk w.a6 c7H w.d8 w.Told))) else (bif (e_.a9==4) then ((idx w.a6 msg.To).bind fun node1=>((a4V w node1 [msg] []).bind fun b4y=>some (l9.brk b4y))) else some (l9.brk w)))):Option (l9 m5 m5)).bind fun x=>x.go some fun j=>d4J j))
theorem c44{w e_}:OK a9B [.agg (a8X w),.agg (I1 e_)] (a8S w e_) :=
 o7 _ fun r h=>n6<|A8 h fun msg hmsg h=>B5 hmsg<|H8 s8 5 hmsg<|rg<|A6 h (e60 r) fun x1 h hc1=>rg<|j5 1 h (fun h=>rg<|l7 c5n c7Q 4 h fun off h=>s7 w.d6<|rg<|A8 h fun node hnode h=>B5 hnode<|H8 x6 5 hnode<|l7 a2f e8D 7 h fun b6N h=>rg<|l7 T7 b0k 4 h fun a3a h=>H5 w.a6 off w.d8 w.Told<|(o8 h hc1 fun hI=>sk [.kill 0 1] [2,4] [(1,0),(43,0),(43,1),(43,2),(43,3),(3,0)] hI)) (fun h=>rg<|j5 1 h (fun h=>rg<|l7 c5n c7Q 4 h fun c7H h=>s7 w.d6<|(o8 h hc1 fun hI=>sk [.kill 0 1] [2,4] [(1,0),(0,0),(22,0),(0,2),(0,3),(3,0)] hI)) (fun h=>rg<|j5 1 h (fun h=>rg<|A8 h fun node1 a2y h=>B5 a2y<|H8 x6 6 a2y<|tk 8 B8<|l7 T7 b0k 9 h fun b4y h=>A9 w<|E6 msg<|(o8 h hc1 fun hI=>sk [] [2,4] [(1,0),(29,0),(29,1),(29,2),(29,3),(3,0)] hI)) (fun h=>(o8 h hc1 fun hI=>sk [] [2,4] [(1,0),(0,0),(0,1),(0,2),(0,3),(3,0)] hI))))
def a35:FS (m5):=⟨26,Tryz.f26,[.val E2 []],[none,none],[.val E2 [],.val [none,none,some 4] []],fun r=>.agg (R1 r),fun _=>[none,none],Tryz.func26⟩
def e5v:m5->KS:=fun out=>⟨a35.k 6 [true,true,true],(bs 4 (.ptr 1 0 0::(.ptr 2 0 0::(bs 35 [])))),[some [],some [.var 30 [.nil,.nil,.nil,.nil]],some [.var 30 [.own 3 0 27 0 out.a6.length,.own 4 0 13 0 out.d6.length,.own 5 0 3 0 out.d8.length,.own 6 0 5 0 out.Told.length]],some [m6 57 27 x6 out.a6],some [m6 62 13 s8 out.d6],some [m6 65 3 B4 out.d8],some [m6 69 5 z4 out.Told]]⟩
def c4X(out:m5):Option m5 :=
 ((a2n out).bind fun c1i=>some c1i)
theorem e3O(r):NF a35 r e5v (fun s=>c4X s):=fun out h=>PK<|rg<|l7 a0g a9J 1 h fun c1i h=>A9 out<|A9 c1i<|fE h
def f4D:m5->KS:=fun out1=>⟨a35.k 7 [false,true,true,true],(bs 4 (.ptr 1 0 0::(.ptr 2 0 0::(bs 35 [])))),[some [],some [.var 30 [.nil,.nil,.nil,.nil]],some [.var 30 [.own 3 0 27 0 out1.a6.length,.own 4 0 13 0 out1.d6.length,.own 5 0 3 0 out1.d8.length,.own 6 0 5 0 out1.Told.length]],some [m6 57 27 x6 out1.a6],some [m6 62 13 s8 out1.d6],some [m6 65 3 B4 out1.d8],some [m6 69 5 z4 out1.Told]]⟩
def c2L(out1:m5):Option m5 :=
 ((a2n out1).bind fun c2O=>some c2O)
theorem e8E(r):NF a35 r f4D (fun s=>c2L s):=fun out1 h=>PK<|rg<|l7 a0g a9J 1 h fun c2O h=>A9 out1<|A9 c2O<|fE h
def f2G:m5->KS:=fun out2=>⟨a35.k 8 [false,false,true,true,true],(bs 4 (.ptr 1 0 0::(.ptr 2 0 0::(bs 35 [])))),[some [],some [.var 30 [.nil,.nil,.nil,.nil]],some [.var 30 [.own 3 0 27 0 out2.a6.length,.own 4 0 13 0 out2.d6.length,.own 5 0 3 0 out2.d8.length,.own 6 0 5 0 out2.Told.length]],some [m6 57 27 x6 out2.a6],some [m6 62 13 s8 out2.d6],some [m6 65 3 B4 out2.d8],some [m6 69 5 z4 out2.Told]]⟩
def c0S(out2:m5):Option m5 :=
 ((a2n out2).bind fun c1e=>some c1e)
theorem d6O(r):NF a35 r f2G (fun s=>c0S s):=fun out2 h=>PK<|rg<|l7 a0g a9J 1 h fun c1e h=>A9 out2<|A9 c1e<|fE h
def f2d:m5->KS:=fun out3=>⟨a35.k 9 [false,false,false,true,true],(bs 4 (.ptr 1 0 0::(.ptr 2 0 0::(bs 35 [])))),[some [],some [.var 30 [.nil,.nil,.nil,.nil]],some [.var 30 [.own 3 0 27 0 out3.a6.length,.own 4 0 13 0 out3.d6.length,.own 5 0 3 0 out3.d8.length,.own 6 0 5 0 out3.Told.length]],some [m6 57 27 x6 out3.a6],some [m6 62 13 s8 out3.d6],some [m6 65 3 B4 out3.d8],some [m6 69 5 z4 out3.Told]]⟩
def b9o(out3:m5):Option m5 :=
 ((a2n out3).bind fun c5b=>some c5b)
theorem e08(r):NF a35 r f2d (fun s=>b9o s):=fun out3 h=>PK<|rg<|l7 a0g a9J 1 h fun c5b h=>A9 out3<|A9 c5b<|fE h
def b6A(w:m5)(e_:r9):Option m5 :=
 ((a2n w).bind fun I9=>(bif (e_.a9==1) then ((((D4 e_.A 0 (m7 ((I9.a6.length:Int)-1))).bind fun in_=>(bif in_ then ((a6E I9 e_).bind fun d38=>some (l9.brk d38)) else some (l9.brk I9))):Option (l9 m5 m5)).bind fun x=>x.go some fun j=>c4X j) else (bif (e_.a9==5) then ((((D4 e_.A 0 (m7 ((I9.a6.length:Int)-1))).bind fun in_1=>(bif in_1 then ((a6E I9 e_).bind fun c84=>some (l9.brk c84)) else some (l9.brk I9))):Option (l9 m5 m5)).bind fun x=>x.go some fun j=>c2L j) else (bif (e_.a9==6) then ((((D4 e_.A 0 (m7 ((I9.a6.length:Int)-1))).bind fun in_2=>(bif in_2 then ((a6E I9 e_).bind fun c8A=>some (l9.brk c8A)) else some (l9.brk I9))):Option (l9 m5 m5)).bind fun x=>x.go some fun j=>c0S j) else (((bif (e_.a9==7) then ((D4 e_.A 0 (m7 ((I9.a6.length:Int)-1))).bind fun a0j=>(bif a0j then ((a6E I9 e_).bind fun d1m=>some (l9.brk d1m)) else some (l9.brk I9))) else (bif (e_.a9==2) then ((D4 e_.A 0 (m7 ((I9.d6.length:Int)-1))).bind fun a5d=>(bif a5d then ((a8S I9 e_).bind fun d0M=>some (l9.brk d0M)) else some (l9.brk I9))) else (bif (e_.a9==3) then ((D4 e_.A 0 (m7 ((I9.d6.length:Int)-1))).bind fun b1h=>(bif b1h then ((a8S I9 e_).bind fun d1y=>some (l9.brk d1y)) else some (l9.brk I9))) else (bif (e_.a9==4) then ((D4 e_.A 0 (m7 ((I9.d6.length:Int)-1))).bind fun c2I=>(bif c2I then ((a8S I9 e_).bind fun c6d=>some (l9.brk c6d)) else some (l9.brk I9))) else some (l9.brk I9))))):Option (l9 m5 m5)).bind fun x=>x.go some fun j=>b9o j)))))
set_option maxRecDepth 20000 in
theorem e25{w e_}:OK a35 [.agg (R1 w),.agg (I1 e_)] (b6A w e_) :=
 o7 _ fun r h=>n6<|l7 a0g a9J 1 h fun I9 h=>n6<|j5 1 h (fun h=>A6 h (e3O r) fun x1 h hc1=>rg<|cbE D1.t E9 h fun in_ d6o h=>cdT (D1.t 6 false in_) h (fun _ h=>ob d6o<|rg<|l7 a7Z b9a 2 h fun d38 h=>A9 I9<|(o8 h hc1 fun hI=>sk [] [4,5] [(3,0),(6,0),(21,0),(21,1),(21,2),(21,3)] hI)) (fun _ h=>ob d6o<|(o8 h hc1 fun hI=>sk [] [4,5] [(3,0),(6,0),(5,0),(5,1),(5,2),(5,3)] hI))) (fun h=>rg<|j5 1 h (fun h=>A6 h (e8E r) fun x1 h hc1=>rg<|cbE D1.t E9 h fun in_1 d6d h=>cdT (D1.t 6 false in_1) h (fun _ h=>ob d6d<|rg<|l7 a7Z b9a 2 h fun c84 h=>A9 I9<|(o8 h hc1 fun hI=>sk [] [4,5] [(3,0),(6,0),(23,0),(23,1),(23,2),(23,3)] hI)) (fun _ h=>ob d6d<|(o8 h hc1 fun hI=>sk [] [4,5] [(3,0),(6,0),(5,0),(5,1),(5,2),(5,3)] hI))) (fun h=>rg<|j5 1 h (fun h=>A6 h (d6O r) fun x1 h hc1=>rg<|cbE D1.t E9 h fun in_2 d6h h=>cdT (D1.t 6 false in_2) h (fun _ h=>ob d6h<|rg<|l7 a7Z b9a 2 h fun c8A h=>A9 I9<|(o8 h hc1 fun hI=>sk [] [4,5] [(3,0),(6,0),(25,0),(25,1),(25,2),(25,3)] hI)) (fun _ h=>ob d6h<|(o8 h hc1 fun hI=>sk [] [4,5] [(3,0),(6,0),(5,0),(5,1),(5,2),(5,3)] hI))) (fun h=>A6 h (e08 r) fun x1 h hc1=>rg<|j5 1 h (fun h=>rg<|cbE D1.t E9 h fun a0j c7U h=>cdT (D1.t 6 false a0j) h (fun _ h=>ob c7U<|rg<|l7 a7Z b9a 2 h fun d1m h=>A9 I9<|(o8 h hc1 fun hI=>sk [] [4,5] [(3,0),(6,0),(27,0),(27,1),(27,2),(27,3)] hI)) (fun _ h=>ob c7U<|(o8 h hc1 fun hI=>sk [] [4,5] [(3,0),(6,0),(5,0),(5,1),(5,2),(5,3)] hI))) (fun h=>rg<|j5 1 h (fun h=>rg<|cbE D1.t E9 h fun a5d c8g h=>cdT (D1.t 6 false a5d) h (fun _ h=>ob c8g<|rg<|l7 a9B c44 2 h fun d0M h=>A9 I9<|(o8 h hc1 fun hI=>sk [] [4,5] [(3,0),(6,0),(29,0),(29,1),(29,2),(29,3)] hI)) (fun _ h=>ob c8g<|(o8 h hc1 fun hI=>sk [] [4,5] [(3,0),(6,0),(5,0),(5,1),(5,2),(5,3)] hI))) (fun h=>rg<|j5 1 h (fun h=>rg<|cbE D1.t E9 h fun b1h d3U h=>cdT (D1.t 6 false b1h) h (fun _ h=>ob d3U<|rg<|l7 a9B c44 2 h fun d1y h=>A9 I9<|(o8 h hc1 fun hI=>sk [] [4,5] [(3,0),(6,0),(31,0),(31,1),(31,2),(31,3)] hI)) (fun _ h=>ob d3U<|(o8 h hc1 fun hI=>sk [] [4,5] [(3,0),(6,0),(5,0),(5,1),(5,2),(5,3)] hI))) (fun h=>rg<|j5 1 h (fun h=>rg<|cbE D1.t E9 h fun c2I c6o h=>cdT (D1.t 6 false c2I) h (fun _ h=>ob c6o<|rg<|l7 a9B c44 2 h fun c6d h=>A9 I9<|(o8 h hc1 fun hI=>sk [] [4,5] [(3,0),(6,0),(33,0),(33,1),(33,2),(33,3)] hI)) (fun _ h=>ob c6o<|(o8 h hc1 fun hI=>sk [] [4,5] [(3,0),(6,0),(5,0),(5,1),(5,2),(5,3)] hI))) (fun h=>(o8 h hc1 fun hI=>sk [] [4,5] [(3,0),(6,0),(5,0),(5,1),(5,2),(5,3)] hI))))))))
def d2C:FS (m5):=⟨9,Tryz.f9,[.val E2 []],[none,none],[.val E2 [],.val [none,none,some 4] []],fun r=>.agg (R1 r),fun _=>[none,none],Tryz.func9⟩
def b6c(w:m5)(e_:r9):Option m5 :=
 ((a1T w).bind fun C3=>(bif (!C3) then some (m5.mk [] [] [] []) else ((b6A w e_).bind fun c54=>some c54)))
theorem e6M{w e_}:OK d2C [.agg (R1 w),.agg (I1 e_)] (b6c w e_) :=
 o7 _ fun r h=>n6<|l7 K8 a4X 1 h fun C3 h=>j5 2 h (fun h=>rg<|fE h) (fun h=>rg<|l7 a35 e25 2 h fun c54 h=>fE h)
def a3e:FS (List m4):=⟨10,Tryz.f10,[.val [some 7] []],[none],[.val E2 []],fun r=>j8 7 t5 r,fun _=>[none],Tryz.func10⟩
def c3f(w:m5):Int->KS:=fun b1S=>⟨a3e.k 4 [false],(bs 1 (.ptr 1 0 0::(bs 1 (vi b1S::(bs 36 []))))),[some [],some [.var 30 (D8 w)]]⟩
def c1J(w:m5)(b1S:Int):Option (List m4) :=
 (bif decide (b1S<0) then some [] else ((idx w.a6 b1S).bind fun node=>((a9n node.a5).bind fun a8G=>some a8G)))
theorem d7C(w)(r):NF a3e r (c3f w) (fun s=>c1J w s):=fun b1S h=>PK<|rg<|j5 1 h (fun h=>rg<|fE h) (fun h=>rg<|v5 x6 3 h fun node hnode h=>l7 a4N c0k 6 h fun a8G h=>s7 a8G<|fE h)
def d4b(w:m5):(Int×Int)->KS:=fun (best,v9)=>⟨a3e.k 3 [],(bs 1 (.ptr 1 0 0::(bs 1 (vi best::(bs 3 (j8 27 x6 w.a6::(vi (w.a6.length:Int)::(vi v9::(bs 30 []))))))))),[some [],some [.var 30 (D8 w)]]⟩
def f3i(w:m5)(v9:Int):Int->KS:=fun b8f=>⟨a3e.k 7 [true,true],(bs 1 (.ptr 1 0 0::(bs 1 (vi b8f::(bs 3 (j8 27 x6 w.a6::(vi (w.a6.length:Int)::(vi v9::(bs 30 []))))))))),[some [],some [.var 30 (D8 w)]]⟩
def b9c(v9:Int)(b8f:Int):Option (j9 (List m4) (Int×Int) Int) :=
 some (j9.nxt (b8f,m7 (v9+1)))
theorem e7x(w v9)(lc:F6 a3e (c3f w) (d4b w)):NL lc (f3i w v9) (fun s=>b9c v9 s):=fun b8f h=>PK<|rg<|(lc.nx h fun hI=>sk [] [1,3,7,8,9] [(1,0)] hI)
def a5o(w:m5)(best:Int)(v9:Int):Option (j9 (List m4) (Int×Int) Int) :=
 (bif decide (v9<(w.a6.length:Int)) then ((idx w.a6 v9).bind fun node1=>(((bif decide (best<0) then some (l9.brk v9) else ((idx w.a6 best).bind fun d2i=>(bif decide ((node1.a5.length:Int)>(d2i.a5.length:Int)) then some (l9.brk v9) else some (l9.brk best)))):Option (l9 (j9 (List m4) (Int×Int) Int) Int)).bind fun x=>x.go some fun j=>b9c v9 j)) else some (j9.brk best))
theorem e7b(w):LQ a3e (c3f w) (d4b w) (fun s=>a5o w s.1 s.2):=fun lc (best,v9) h=>PK<|rg<|j5 0 h (fun h=>rg<|v5 x6 1 h fun node1 a2y h=>A6 h (e7x w v9 lc) fun x2 h hc2=>rg<|j5 2 h (fun h=>rg<|(o8 h hc2 fun hI=>sk [] [1,3,7,8,9] [(1,0)] hI)) (fun h=>v5 x6 9 h fun d2i f5q h=>j5 14 h (fun h=>rg<|(o8 h hc2 fun hI=>sk [] [1,3,7,8,9] [(1,0)] hI)) (fun h=>(o8 h hc2 fun hI=>sk [] [1,3,7,8,9] [(1,0)] hI)))) (fun h=>(lc.bk h fun hI=>sk [] [1,3] [(1,0)] hI))
def a9W(w:m5):Option (List m4) :=
 ((p7 (fun s:Int×Int=>a5o w s.1 s.2) ((-1),0)).bind fun x=>x.go (fun r=>some r) fun s=>c1J w s)
theorem c2J{w}:OK a3e [.agg (R1 w)] (a9W w) :=
 o7 _ fun r h=>N0<|lp (e7b w) h (fun _ h=>a3e.rt h) (d7C w r) fun hI=>sk [] [1,3,7,8,9] [(1,0)] hI
def a0V:FS (Bool):=⟨28,Tryz.f28,[.val [] []],[none],[.val E2 []],fun r=>.b r,fun _=>[none],Tryz.func28⟩
def c22:Unit->KS:=fun _=>⟨a0V.k 4 [false,false],(bs 53 []),[some []]⟩
def d0D:Option Bool :=
 some true
theorem f1p(r):NF a0V r c22 (fun s=>d0D):=fun _ h=>PK<|rg<|fE h
def d2K(w:m5):Int->KS:=fun v14=>⟨a0V.k 3 [false],(bs 1 (.ptr 1 0 0::(bs 10 (j8 27 x6 w.a6::(vi (w.a6.length:Int)::(vi v14::(bs 38 []))))))),[some [],some [.var 30 (D8 w)]]⟩
def c1D(w:m5)(v14:Int):Unit->KS:=fun _=>⟨a0V.k 7 [false,true,false],(bs 1 (.ptr 1 0 0::(bs 10 (j8 27 x6 w.a6::(vi (w.a6.length:Int)::(vi v14::(bs 38 []))))))),[some [],some [.var 30 (D8 w)]]⟩
def d2v(v14:Int):Option (j9 Bool Int Unit) :=
 some (j9.nxt (m7 (v14+1)))
theorem e69(w v14)(lc:F6 a0V c22 (d2K w)):NL lc (c1D w v14) (fun s=>d2v v14):=fun _ h=>PK<|rg<|(lc.nx h fun hI=>sk [] [1,12,13,14] [(1,0)] hI)
def d2m(w:m5)(v14:Int)(node:j6):Int->KS:=fun v21=>⟨a0V.k 6 [false,true],(bs 1 (.ptr 1 0 0::(bs 2 (.ptr 2 0 0::(bs 7 (j8 27 x6 w.a6::(vi (w.a6.length:Int)::(vi v14::(bs 4 (j8 27 x6 w.a6::(vi (w.a6.length:Int)::(vi v21::(bs 31 []))))))))))))),[some [],some [.var 30 (D8 w)],some [.var 57 (X6 node)]]⟩
def d1s(w:m5)(v14:Int)(node:j6)(v21:Int):Unit->KS:=fun _=>⟨a0V.k 10 [false,true,true,false],(bs 1 (.ptr 1 0 0::(bs 2 (.ptr 2 0 0::(bs 7 (j8 27 x6 w.a6::(vi (w.a6.length:Int)::(vi v14::(bs 4 (j8 27 x6 w.a6::(vi (w.a6.length:Int)::(vi v21::(bs 31 []))))))))))))),[some [],some [.var 30 (D8 w)],some [.var 57 (X6 node)]]⟩
def d44(v21:Int):Option (j9 Bool Int Unit) :=
 some (j9.nxt (m7 (v21+1)))
theorem e95(w v14 node v21)(lc:F6 a0V (c1D w v14) (d2m w v14 node)):NL lc (d1s w v14 node v21) (fun s=>d44 v21):=fun _ h=>PK<|rg<|(lc.nx h fun hI=>sk [] [1,4,12,13,14,19,20,21] [(1,0),(2,0)] hI)
def e0P(w:m5)(v14:Int)(node:j6)(v21:Int)(node1:j6):Int->KS:=fun i=>⟨a0V.k 9 [false,true,true],(bs 1 (.ptr 1 0 0::(bs 2 (.ptr 2 0 0::(bs 1 (.ptr 3 0 0::(vi i::(bs 4 (j8 27 x6 w.a6::(vi (w.a6.length:Int)::(vi v14::(bs 4 (j8 27 x6 w.a6::(vi (w.a6.length:Int)::(vi v21::(bs 31 [])))))))))))))))),[some [],some [.var 30 (D8 w)],some [.var 57 (X6 node)],some [.var 57 (X6 node1)]]⟩
def b4o(node:j6)(node1:j6)(i:Int):Option (j9 Bool Int Unit) :=
 (bif decide (i<(node.a5.length:Int)) then (bif decide (i<(node1.a5.length:Int)) then ((idx node.a5 i).bind fun entry=>((idx node1.a5 i).bind fun a6Q=>((V9 entry a6Q).bind fun G3=>(bif (!G3) then some (j9.ret false) else some (j9.nxt (m7 (i+1))))))) else some (j9.brk ())) else some (j9.brk ()))
theorem e5U(w v14 node v21 node1):LQ a0V (d1s w v14 node v21) (e0P w v14 node v21 node1) (fun s=>b4o node node1 s):=fun lc i h=>PK<|rg<|j5 5 h (fun h=>j5 11 h (fun h=>rg<|v5 t5 3 h fun entry G9 h=>v5 t5 8 h fun a6Q a9x h=>l7 a0T a1q 10 h fun G3 h=>j5 11 h (fun h=>rg<|fL lc h) (fun h=>rg<|(lc.nx h fun hI=>sk [] [1,4,6,7,12,13,14,19,20,21] [(1,0),(2,0),(3,0)] hI))) (fun h=>(lc.bk h fun hI=>sk [] [1,4,12,13,14,19,20,21] [(1,0),(2,0)] hI))) (fun h=>(lc.bk h fun hI=>sk [] [1,4,12,13,14,19,20,21] [(1,0),(2,0)] hI))
def b2t(w:m5)(node:j6)(v21:Int):Option (j9 Bool Int Unit) :=
 (bif decide (v21<(w.a6.length:Int)) then ((idx w.a6 v21).bind fun node1=>((p7 (fun s:Int=>b4o node node1 s) 0).bind fun x=>x.go (fun r=>some (j9.ret r)) fun s=>d44 v21)) else some (j9.brk ()))
theorem f1X(w v14 node):LQ a0V (c1D w v14) (d2m w v14 node) (fun s=>b2t w node s):=fun lc v21 h=>PK<|rg<|j5 0 h (fun h=>rg<|v5 x6 0 h fun node1 a2y h=>rg<|lp (e5U w v14 node v21 node1) h (fun _ h=>lc.rt h) (e95 w v14 node v21 lc) fun hI=>sk [] [1,4,6,7,12,13,14,19,20,21] [(1,0),(2,0),(6,0)] hI) (fun h=>(lc.bk h fun hI=>sk [] [1,12,13,14] [(1,0)] hI))
def b7e(w:m5)(v14:Int):Option (j9 Bool Int Unit) :=
 (bif decide (v14<(w.a6.length:Int)) then ((idx w.a6 v14).bind fun node=>((p7 (fun s:Int=>b2t w node s) 0).bind fun x=>x.go (fun r=>some (j9.ret r)) fun s=>d2v v14)) else some (j9.brk ()))
theorem e4h(w):LQ a0V c22 (d2K w) (fun s=>b7e w s):=fun lc v14 h=>PK<|rg<|j5 0 h (fun h=>rg<|v5 x6 0 h fun node hnode h=>rg<|lp (f1X w v14 node) h (fun _ h=>lc.rt h) (e69 w v14 lc) fun hI=>sk [] [1,4,12,13,14,19,20,21] [(1,0),(5,0)] hI) (fun h=>(lc.bk h fun hI=>sk [] [] [] hI))
def b1C(w:m5):Option Bool :=
 ((a1T w).bind fun C3=>(bif (!C3) then some false else ((p7 (fun s:Int=>b7e w s) 0).bind fun x=>x.go (fun r=>some r) fun s=>d0D)))
theorem e5y{w}:OK a0V [.agg (R1 w)] (b1C w) :=
 o7 _ fun r h=>n6<|l7 K8 a4X 1 h fun C3 h=>j5 2 h (fun h=>rg<|fE h) (fun h=>rg<|lp (e4h w) h (fun _ h=>a0V.rt h) (f1p r) fun hI=>sk [] [1,12,13,14] [(1,0)] hI)
def a0b:FS (Bool):=⟨29,Tryz.f29,[.val [] []],[none],[.val E2 []],fun r=>.b r,fun _=>[none],Tryz.func29⟩
def c3o:Unit->KS:=fun _=>⟨a0b.k 4 [false,false],(bs 80 []),[some []]⟩
def d4j:Option Bool :=
 some true
theorem e5t(r):NF a0b r c3o (fun s=>d4j):=fun _ h=>PK<|rg<|fE h
def d4M(w:m5):Int->KS:=fun v16=>⟨a0b.k 3 [false],(bs 1 (.ptr 1 0 0::(bs 12 (j8 27 x6 w.a6::(vi (w.a6.length:Int)::(vi v16::(bs 63 []))))))),[some [],some [.var 30 (D8 w)]]⟩
def c2g(w:m5)(v16:Int):Unit->KS:=fun _=>⟨a0b.k 7 [false,true,false],(bs 1 (.ptr 1 0 0::(bs 12 (j8 27 x6 w.a6::(vi (w.a6.length:Int)::(vi v16::(bs 63 []))))))),[some [],some [.var 30 (D8 w)]]⟩
def c0X(v16:Int):Option (j9 Bool Int Unit) :=
 some (j9.nxt (m7 (v16+1)))
theorem e0m(w v16)(lc:F6 a0b c3o (d4M w)):NL lc (c2g w v16) (fun s=>c0X v16):=fun _ h=>PK<|rg<|(lc.nx h fun hI=>sk [] [1,14,15,16] [(1,0)] hI)
def c6a(w:m5)(v16:Int)(node:j6):Int->KS:=fun v23=>⟨a0b.k 6 [false,true],(bs 1 (.ptr 1 0 0::(bs 2 (.ptr 2 0 0::(bs 9 (j8 27 x6 w.a6::(vi (w.a6.length:Int)::(vi v16::(bs 4 (j8 27 x6 w.a6::(vi (w.a6.length:Int)::(vi v23::(bs 56 []))))))))))))),[some [],some [.var 30 (D8 w)],some [.var 57 (X6 node)]]⟩
def c3Y(w:m5)(v16:Int)(node:j6)(v23:Int):Unit->KS:=fun _=>⟨a0b.k 11 [false,true,true,false],(bs 1 (.ptr 1 0 0::(bs 2 (.ptr 2 0 0::(bs 9 (j8 27 x6 w.a6::(vi (w.a6.length:Int)::(vi v16::(bs 4 (j8 27 x6 w.a6::(vi (w.a6.length:Int)::(vi v23::(bs 56 []))))))))))))),[some [],some [.var 30 (D8 w)],some [.var 57 (X6 node)]]⟩
def c3r(v23:Int):Option (j9 Bool Int Unit) :=
 some (j9.nxt (m7 (v23+1)))
theorem e0v(w v16 node v23)(lc:F6 a0b (c2g w v16) (c6a w v16 node)):NL lc (c3Y w v16 node v23) (fun s=>c3r v23):=fun _ h=>PK<|rg<|(lc.nx h fun hI=>sk [] [1,4,14,15,16,21,22,23] [(1,0),(2,0)] hI)
def c6t(w:m5)(v16:Int)(node:j6)(v23:Int)(node1:j6):Int->KS:=fun i=>⟨a0b.k 10 [false,true,true],(bs 1 (.ptr 1 0 0::(bs 2 (.ptr 2 0 0::(bs 2 (j8 8 p8 node.Acc.a7::(j8 8 p8 node1.Acc.a7::(vi i::(bs 4 (j8 27 x6 w.a6::(vi (w.a6.length:Int)::(vi v16::(bs 4 (j8 27 x6 w.a6::(vi (w.a6.length:Int)::(vi v23::(bs 56 []))))))))))))))))),[some [],some [.var 30 (D8 w)],some [.var 57 (X6 node)]]⟩
def e84(w:m5)(v16:Int)(node:j6)(v23:Int)(node1:j6)(i:Int):Unit->KS:=fun _=>⟨a0b.k 12 [false,true,true,true,false],(bs 1 (.ptr 1 0 0::(bs 2 (.ptr 2 0 0::(bs 2 (j8 8 p8 node.Acc.a7::(j8 8 p8 node1.Acc.a7::(vi i::(bs 4 (j8 27 x6 w.a6::(vi (w.a6.length:Int)::(vi v16::(bs 4 (j8 27 x6 w.a6::(vi (w.a6.length:Int)::(vi v23::(bs 56 []))))))))))))))))),[some [],some [.var 30 (D8 w)],some [.var 57 (X6 node)]]⟩
def c1x(i:Int):Option (j9 Bool Int Unit) :=
 some (j9.nxt (m7 (i+1)))
theorem e6i(w v16 node v23 node1 i)(lc:F6 a0b (c3Y w v16 node v23) (c6t w v16 node v23 node1)):NL lc (e84 w v16 node v23 node1 i) (fun s=>c1x i):=fun _ h=>PK<|rg<|(lc.nx h fun hI=>sk [] [1,4,7,8,9,14,15,16,21,22,23] [(1,0),(2,0)] hI)
def b1w(node:j6)(node1:j6)(i:Int):Option (j9 Bool Int Unit) :=
 (bif decide (i<(node.Acc.a7.length:Int)) then (bif decide (i<(node1.Acc.a7.length:Int)) then ((((idx node.Acc.a7 i).bind fun vote=>(bif (vote.a8 != 0) then ((idx node1.Acc.a7 i).bind fun O0=>(bif (vote.a8==O0.a8) then ((V9 vote.g9 O0.g9).bind fun G3=>(bif (!G3) then some (l9.ret (j9.ret false)) else some (l9.brk ()))) else some (l9.brk ()))) else some (l9.brk ()))):Option (l9 (j9 Bool Int Unit) Unit)).bind fun x=>x.go some fun j=>c1x i) else some (j9.brk ())) else some (j9.brk ()))
theorem f3e(w v16 node v23 node1):LQ a0b (c3Y w v16 node v23) (c6t w v16 node v23 node1) (fun s=>b1w node node1 s):=fun lc i h=>PK<|rg<|j5 4 h (fun h=>j5 9 h (fun h=>A6 h (e6i w v16 node v23 node1 i lc) fun x4 h hc4=>rg<|v5 p8 2 h fun vote J5 h=>j5 6 h (fun h=>J3 p8 9 J5<|v5 p8 14 h fun O0 a2J h=>j5 19 h (fun h=>J3 p8 22 J5<|J3 p8 27 a2J<|l7 a0T a1q 30 h fun G3 h=>j5 32 h (fun h=>rg<|(B7 h hc4 fun h=>fL lc h)) (fun h=>(o8 h hc4 fun hI=>sk [] [1,4,7,8,9,14,15,16,21,22,23] [(1,0),(2,0)] hI))) (fun h=>(o8 h hc4 fun hI=>sk [] [1,4,7,8,9,14,15,16,21,22,23] [(1,0),(2,0)] hI))) (fun h=>(o8 h hc4 fun hI=>sk [] [1,4,7,8,9,14,15,16,21,22,23] [(1,0),(2,0)] hI))) (fun h=>(lc.bk h fun hI=>sk [] [1,4,14,15,16,21,22,23] [(1,0),(2,0)] hI))) (fun h=>(lc.bk h fun hI=>sk [] [1,4,14,15,16,21,22,23] [(1,0),(2,0)] hI))
def b28(w:m5)(node:j6)(v23:Int):Option (j9 Bool Int Unit) :=
 (bif decide (v23<(w.a6.length:Int)) then ((idx w.a6 v23).bind fun node1=>((p7 (fun s:Int=>b1w node node1 s) 0).bind fun x=>x.go (fun r=>some (j9.ret r)) fun s=>c3r v23)) else some (j9.brk ()))
theorem d8f(w v16 node):LQ a0b (c2g w v16) (c6a w v16 node) (fun s=>b28 w node s):=fun lc v23 h=>PK<|rg<|j5 0 h (fun h=>rg<|v5 x6 0 h fun node1 a2y h=>n6<|lp (f3e w v16 node v23 node1) h (fun _ h=>lc.rt h) (e0v w v16 node v23 lc) fun hI=>sk [] [1,4,7,8,9,14,15,16,21,22,23] [(1,0),(2,0)] hI) (fun h=>(lc.bk h fun hI=>sk [] [1,14,15,16] [(1,0)] hI))
def b6Y(w:m5)(v16:Int):Option (j9 Bool Int Unit) :=
 (bif decide (v16<(w.a6.length:Int)) then ((idx w.a6 v16).bind fun node=>((p7 (fun s:Int=>b28 w node s) 0).bind fun x=>x.go (fun r=>some (j9.ret r)) fun s=>c0X v16)) else some (j9.brk ()))
theorem f0L(w):LQ a0b c3o (d4M w) (fun s=>b6Y w s):=fun lc v16 h=>PK<|rg<|j5 0 h (fun h=>rg<|v5 x6 0 h fun node hnode h=>rg<|lp (d8f w v16 node) h (fun _ h=>lc.rt h) (e0m w v16 lc) fun hI=>sk [] [1,4,14,15,16,21,22,23] [(1,0),(5,0)] hI) (fun h=>(lc.bk h fun hI=>sk [] [] [] hI))
def b2z(w:m5):Option Bool :=
 ((a1T w).bind fun C3=>(bif (!C3) then some false else ((p7 (fun s:Int=>b6Y w s) 0).bind fun x=>x.go (fun r=>some r) fun s=>d4j)))
theorem f3X{w}:OK a0b [.agg (R1 w)] (b2z w) :=
 o7 _ fun r h=>n6<|l7 K8 a4X 1 h fun C3 h=>j5 2 h (fun h=>rg<|fE h) (fun h=>rg<|lp (f0L w) h (fun _ h=>a0b.rt h) (e5t r) fun hI=>sk [] [1,14,15,16] [(1,0)] hI)
def a4z:FS (Int):=⟨63,Tryz.f63,[.val [] []],[none,none,none],[.val E2 [],.val [] [],.val K4 []],fun r=>vi r,fun _=>[none,none,none],Tryz.func63⟩
def c3R:Int->KS:=fun n1=>⟨a4z.k 4 [false],(bs 7 (vi n1::(bs 40 []))),[some []]⟩
def d6m(n1:Int):Option Int :=
 some n1
theorem f2K(r):NF a4z r c3R (fun s=>d6m s):=fun n1 h=>PK<|rg<|fE h
def d5P(w:m5)(at_:Int)(e_:m4):(Int×Int)->KS:=fun (v13,n)=>⟨a4z.k 3 [],(bs 1 (vi at_::(bs 3 (.ptr 1 0 0::(bs 1 (vi n::(bs 3 (j8 27 x6 w.a6::(vi (w.a6.length:Int)::(vi v13::(bs 34 []))))))))))),[some [],some [.var 55 (a20 e_)]]⟩
def d6V(w:m5)(at_:Int)(e_:m4)(v13:Int):Int->KS:=fun n2=>⟨a4z.k 7 [true,true],(bs 1 (vi at_::(bs 3 (.ptr 1 0 0::(bs 1 (vi n2::(bs 3 (j8 27 x6 w.a6::(vi (w.a6.length:Int)::(vi v13::(bs 34 []))))))))))),[some [],some [.var 55 (a20 e_)]]⟩
def c01(v13:Int)(n2:Int):Option (j9 Int (Int×Int) Int) :=
 some (j9.nxt (m7 (v13+1),n2))
theorem f3B(w at_ e_ v13)(lc:F6 a4z c3R (d5P w at_ e_)):NL lc (d6V w at_ e_ v13) (fun s=>c01 v13 s):=fun n2 h=>PK<|rg<|(lc.nx h fun hI=>sk [] [1,5,7,11,12,13] [(1,0)] hI)
def a9v(w:m5)(at_:Int)(e_:m4)(v13:Int)(n:Int):Option (j9 Int (Int×Int) Int) :=
 (bif decide (v13<(w.a6.length:Int)) then ((idx w.a6 v13).bind fun node=>(((bif decide (at_<(node.Acc.a7.length:Int)) then ((idx node.Acc.a7 at_).bind fun vote=>(bif (vote.a8 != 0) then ((V9 vote.g9 e_).bind fun G3=>(bif G3 then some (l9.brk (m7 (n+1))) else some (l9.brk n))) else some (l9.brk n))) else some (l9.brk n)):Option (l9 (j9 Int (Int×Int) Int) Int)).bind fun x=>x.go some fun j=>c01 v13 j)) else some (j9.brk n))
theorem e4w(w at_ e_):LQ a4z c3R (d5P w at_ e_) (fun s=>a9v w at_ e_ s.1 s.2):=fun lc (v13,n) h=>PK<|rg<|j5 0 h (fun h=>rg<|v5 x6 0 h fun node hnode h=>A6 h (f3B w at_ e_ v13 lc) fun x2 h hc2=>rg<|j5 6 h (fun h=>v5 p8 11 h fun vote J5 h=>j5 16 h (fun h=>J3 p8 21 J5<|l7 a0T a1q 25 h fun G3 h=>j5 26 h (fun h=>rg<|(o8 h hc2 fun hI=>sk [] [1,5,7,11,12,13] [(1,0)] hI)) (fun h=>(o8 h hc2 fun hI=>sk [] [1,5,7,11,12,13] [(1,0)] hI))) (fun h=>(o8 h hc2 fun hI=>sk [] [1,5,7,11,12,13] [(1,0)] hI))) (fun h=>(o8 h hc2 fun hI=>sk [] [1,5,7,11,12,13] [(1,0)] hI))) (fun h=>(lc.bk h fun hI=>sk [] [7] [] hI))
def b9e(w:m5)(at_:Int)(e_:m4):Option Int :=
 ((p7 (fun s:Int×Int=>a9v w at_ e_ s.1 s.2) (0,0)).bind fun x=>x.go (fun r=>some r) fun s=>d6m s)
theorem f0h{w at_ e_}:OK a4z [.agg (R1 w),vi at_,.agg (t5 e_)] (b9e w at_ e_) :=
 o7 _ fun r h=>N0<|lp (e4w w at_ e_) h (fun _ h=>a4z.rt h) (f2K r) fun hI=>sk [] [1,5,7,11,12,13] [(2,0)] hI
def a2P:FS (Bool):=⟨30,Tryz.f30,[.val [] []],[none],[.val E2 []],fun r=>.b r,fun _=>[none],Tryz.func30⟩
def c4y:Unit->KS:=fun _=>⟨a2P.k 4 [false,false],(bs 32 []),[some []]⟩
def d58:Option Bool :=
 some true
theorem d7G(r):NF a2P r c4y (fun s=>d58):=fun _ h=>PK<|rg<|fE h
def d0O(w:m5):Int->KS:=fun v13=>⟨a2P.k 3 [false],(bs 1 (.ptr 1 0 0::(bs 9 (j8 27 x6 w.a6::(vi (w.a6.length:Int)::(vi v13::(bs 18 []))))))),[some [],some [.var 30 (D8 w)]]⟩
def d3i(w:m5)(v13:Int):Unit->KS:=fun _=>⟨a2P.k 7 [false,true,false],(bs 1 (.ptr 1 0 0::(bs 9 (j8 27 x6 w.a6::(vi (w.a6.length:Int)::(vi v13::(bs 18 []))))))),[some [],some [.var 30 (D8 w)]]⟩
def c0L(v13:Int):Option (j9 Bool Int Unit) :=
 some (j9.nxt (m7 (v13+1)))
theorem d8O(w v13)(lc:F6 a2P c4y (d0O w)):NL lc (d3i w v13) (fun s=>c0L v13):=fun _ h=>PK<|rg<|(lc.nx h fun hI=>sk [] [1,11,12,13] [(1,0)] hI)
def e0h(w:m5)(v13:Int)(node:j6):Int->KS:=fun v20=>⟨a2P.k 6 [false,true],(bs 1 (.ptr 1 0 0::(bs 9 (j8 27 x6 w.a6::(vi (w.a6.length:Int)::(vi v13::(bs 4 (j8 7 t5 node.a5::(vi (node.a5.length:Int)::(vi v20::(bs 11 []))))))))))),[some [],some [.var 30 (D8 w)]]⟩
def b2q(w:m5)(node:j6)(v20:Int):Option (j9 Bool Int Unit) :=
 (bif decide (v20<(node.a5.length:Int)) then ((idx node.a5 v20).bind fun entry=>((b9e w v20 entry).bind fun c8e=>(bif decide (c8e<2) then some (j9.ret false) else some (j9.nxt (m7 (v20+1)))))) else some (j9.brk ()))
theorem d9t(w v13 node):LQ a2P (d3i w v13) (e0h w v13 node) (fun s=>b2q w node s):=fun lc v20 h=>PK<|rg<|j5 0 h (fun h=>rg<|v5 t5 1 h fun entry G9 h=>rg<|l7 a4z f0h 3 h fun c8e h=>j5 4 h (fun h=>rg<|fL lc h) (fun h=>rg<|(lc.nx h fun hI=>sk [] [1,11,12,13,18,19,20] [(1,0)] hI))) (fun h=>(lc.bk h fun hI=>sk [] [1,11,12,13] [(1,0)] hI))
def b8o(w:m5)(v13:Int):Option (j9 Bool Int Unit) :=
 (bif decide (v13<(w.a6.length:Int)) then ((idx w.a6 v13).bind fun node=>((p7 (fun s:Int=>b2q w node s) 0).bind fun x=>x.go (fun r=>some (j9.ret r)) fun s=>c0L v13)) else some (j9.brk ()))
theorem e45(w):LQ a2P c4y (d0O w) (fun s=>b8o w s):=fun lc v13 h=>PK<|rg<|j5 0 h (fun h=>rg<|v5 x6 0 h fun node hnode h=>rg<|lp (d9t w v13 node) h (fun _ h=>lc.rt h) (d8O w v13 lc) fun hI=>sk [] [1,11,12,13,18,19,20] [(1,0)] hI) (fun h=>(lc.bk h fun hI=>sk [] [] [] hI))
def b37(w:m5):Option Bool :=
 ((a1T w).bind fun C3=>(bif (!C3) then some false else ((p7 (fun s:Int=>b8o w s) 0).bind fun x=>x.go (fun r=>some r) fun s=>d58)))
theorem e2O{w}:OK a2P [.agg (R1 w)] (b37 w) :=
 o7 _ fun r h=>n6<|l7 K8 a4X 1 h fun C3 h=>j5 2 h (fun h=>rg<|fE h) (fun h=>rg<|lp (e45 w) h (fun _ h=>a2P.rt h) (d7G r) fun hI=>sk [] [1,11,12,13] [(1,0)] hI)
def a0Y:FS (Bool):=⟨31,Tryz.f31,[.val [] []],[none],[.val E2 []],fun r=>.b r,fun _=>[none],Tryz.func31⟩
def b8g:Unit->KS:=fun _=>⟨a0Y.k 4 [false,false],(bs 80 []),[some []]⟩
def c7s:Option Bool :=
 some true
theorem e9q(r):NF a0Y r b8g (fun s=>c7s):=fun _ h=>PK<|rg<|fE h
def c10(w:m5):Int->KS:=fun v15=>⟨a0Y.k 3 [false],(bs 1 (.ptr 1 0 0::(bs 11 (j8 27 x6 w.a6::(vi (w.a6.length:Int)::(vi v15::(bs 64 []))))))),[some [],some [.var 30 (D8 w)]]⟩
def c1o(w:m5)(v15:Int)(node:j6):Unit->KS:=fun _=>⟨a0Y.k 7 [false,true,false],(bs 1 (.ptr 1 0 0::(bs 2 (.ptr 2 0 0::(bs 8 (j8 27 x6 w.a6::(vi (w.a6.length:Int)::(vi v15::(bs 64 []))))))))),[some [],some [.var 30 (D8 w)],some [.var 57 (X6 node)]]⟩
def e0s(w:m5)(v15:Int):Unit->KS:=fun _=>⟨a0Y.k 12 [false,true,false,false,false,false],(bs 1 (.ptr 1 0 0::(bs 11 (j8 27 x6 w.a6::(vi (w.a6.length:Int)::(vi v15::(bs 64 []))))))),[some [],some [.var 30 (D8 w)]]⟩
def c3z(v15:Int):Option (j9 Bool Int Unit) :=
 some (j9.nxt (m7 (v15+1)))
theorem d7c(w v15)(lc:F6 a0Y b8g (c10 w)):NL lc (e0s w v15) (fun s=>c3z v15):=fun _ h=>PK<|rg<|(lc.nx h fun hI=>sk [] [1,13,14,15] [(1,0)] hI)
def b8G(v15:Int)(node:j6):Option (j9 Bool Int Unit) :=
 (bif (node.d7 != 3) then some (j9.nxt (m7 (v15+1))) else (bif decide ((node.a5.length:Int)>=(node.Acc.a7.length:Int)) then some (j9.ret false) else ((idx node.Acc.a7 (node.a5.length:Int)).bind fun vote=>(((bif decide (vote.a8<node.a8) then some (l9.ret (j9.ret false)) else (bif (vote.a8==node.a8) then ((V9 vote.g9 node.c9).bind fun G3=>(bif (!G3) then some (l9.ret (j9.ret false)) else some (l9.brk ()))) else some (l9.brk ()))):Option (l9 (j9 Bool Int Unit) Unit)).bind fun x=>x.go some fun j=>c3z v15))))
theorem e6v(w v15 node)(lc:F6 a0Y b8g (c10 w)):NL lc (c1o w v15 node) (fun s=>b8G v15 node):=fun _ h=>PK<|rg<|j5 2 h (fun h=>rg<|(lc.nx h fun hI=>sk [] [1,13,14,15] [(1,0)] hI)) (fun h=>n6<|j5 5 h (fun h=>rg<|fL lc h) (fun h=>rg<|v5 p8 4 h fun vote J5 h=>A6 h (d7c w v15 lc) fun x2 h hc2=>rg<|j5 5 h (fun h=>rg<|(B7 h hc2 fun h=>fL lc h)) (fun h=>j5 11 h (fun h=>l7 a0T a1q 16 h fun G3 h=>j5 19 h (fun h=>rg<|(B7 h hc2 fun h=>fL lc h)) (fun h=>(o8 h hc2 fun hI=>sk [] [1,13,14,15] [(1,0)] hI))) (fun h=>(o8 h hc2 fun hI=>sk [] [1,13,14,15] [(1,0)] hI)))))
def c7N(w:m5)(v15:Int)(node:j6):Int->KS:=fun v26=>⟨a0Y.k 6 [false,true],(bs 1 (.ptr 1 0 0::(bs 2 (.ptr 2 0 0::(bs 8 (j8 27 x6 w.a6::(vi (w.a6.length:Int)::(vi v15::(bs 8 (j8 27 x6 ((w.a6.drop (m7 (v15+1)).toNat).take (w.a6.length-(m7 (v15+1)).toNat))::(vi (((w.a6.drop (m7 (v15+1)).toNat).take (w.a6.length-(m7 (v15+1)).toNat)).length:Int)::(vi v26::(bs 53 []))))))))))))),[some [],some [.var 30 (D8 w)],some [.var 57 (X6 node)]]⟩
def e3E(w:m5)(v15:Int)(node:j6)(v26:Int):Unit->KS:=fun _=>⟨a0Y.k 9 [false,true,true,false],(bs 1 (.ptr 1 0 0::(bs 2 (.ptr 2 0 0::(bs 8 (j8 27 x6 w.a6::(vi (w.a6.length:Int)::(vi v15::(bs 8 (j8 27 x6 ((w.a6.drop (m7 (v15+1)).toNat).take (w.a6.length-(m7 (v15+1)).toNat))::(vi (((w.a6.drop (m7 (v15+1)).toNat).take (w.a6.length-(m7 (v15+1)).toNat)).length:Int)::(vi v26::(bs 53 []))))))))))))),[some [],some [.var 30 (D8 w)],some [.var 57 (X6 node)]]⟩
def c3t(v26:Int):Option (j9 Bool Int Unit) :=
 some (j9.nxt (m7 (v26+1)))
theorem d8S(w v15 node v26)(lc:F6 a0Y (c1o w v15 node) (c7N w v15 node)):NL lc (e3E w v15 node v26) (fun s=>c3t v26):=fun _ h=>PK<|rg<|(lc.nx h fun hI=>sk [] [1,4,13,14,15,24,25,26] [(1,0),(2,0)] hI)
def b2I(w:m5)(v15:Int)(node:j6)(v26:Int):Option (j9 Bool Int Unit) :=
 (bif decide (v26<(((w.a6.drop (m7 (v15+1)).toNat).take (w.a6.length-(m7 (v15+1)).toNat)).length:Int)) then ((idx ((w.a6.drop (m7 (v15+1)).toNat).take (w.a6.length-(m7 (v15+1)).toNat)) v26).bind fun node1=>(((bif (node.a8 != 0) then (bif (node.a8==node1.a8) then some (l9.ret (j9.ret false)) else some (l9.brk ())) else some (l9.brk ())):Option (l9 (j9 Bool Int Unit) Unit)).bind fun x=>x.go some fun j=>c3t v26)) else some (j9.brk ()))
theorem e2Q(w v15 node):LQ a0Y (c1o w v15 node) (c7N w v15 node) (fun s=>b2I w v15 node s):=fun lc v26 h=>PK<|rg<|j5 0 h (fun h=>rg<|v5 x6 0 h fun node1 a2y h=>A6 h (d8S w v15 node v26 lc) fun x3 h hc3=>rg<|j5 3 h (fun h=>j5 9 h (fun h=>rg<|(B7 h hc3 fun h=>fL lc h)) (fun h=>(o8 h hc3 fun hI=>sk [] [1,4,13,14,15,24,25,26] [(1,0),(2,0)] hI))) (fun h=>(o8 h hc3 fun hI=>sk [] [1,4,13,14,15,24,25,26] [(1,0),(2,0)] hI))) (fun h=>(lc.bk h fun hI=>sk [] [1,4,13,14,15] [(1,0),(2,0)] hI))
def b4Z(w:m5)(v15:Int):Option (j9 Bool Int Unit) :=
 (bif decide (v15<(w.a6.length:Int)) then ((idx w.a6 v15).bind fun node=>(t0 ((0:Int)<=m7 (v15+1)/\m7 (v15+1)<=(w.a6.length:Int)) (((p7 (fun s:Int=>b2I w v15 node s) 0).bind fun x=>x.go (fun r=>some (j9.ret r)) fun s=>b8G v15 node)))) else some (j9.brk ()))
theorem e7V(w):LQ a0Y b8g (c10 w) (fun s=>b4Z w s):=fun lc v15 h=>PK<|rg<|j5 0 h (fun h=>rg<|v5 x6 1 h fun node hnode h=>rg<|t9 h fun e1 h=>om (V.sl 27 (w.a6.length-(m7 (v15+1)).toNat) (((w.a6.map x6).drop (m7 (v15+1)).toNat).take (w.a6.length-(m7 (v15+1)).toNat))=j8 27 x6 ((w.a6.drop (m7 (v15+1)).toNat).take (w.a6.length-(m7 (v15+1)).toNat))) (b2X e1)<|ob e1.1<|ob e1.2<|tl (4,{v:=some (j8 27 x6 ((w.a6.drop (m7 (v15+1)).toNat).take (w.a6.length-(m7 (v15+1)).toNat)))})<|lp (e2Q w v15 node) h (fun _ h=>lc.rt h) (e6v w v15 node lc) fun hI=>sk [] [1,4,13,14,15,24,25,26] [(1,0),(6,0)] hI) (fun h=>(lc.bk h fun hI=>sk [] [] [] hI))
def b3a(w:m5):Option Bool :=
 ((a1T w).bind fun C3=>(bif (!C3) then some false else ((p7 (fun s:Int=>b4Z w s) 0).bind fun x=>x.go (fun r=>some r) fun s=>c7s)))
theorem f3E{w}:OK a0Y [.agg (R1 w)] (b3a w) :=
 o7 _ fun r h=>n6<|l7 K8 a4X 1 h fun C3 h=>j5 2 h (fun h=>rg<|fE h) (fun h=>rg<|lp (e7V w) h (fun _ h=>a0Y.rt h) (e9q r) fun hI=>sk [] [1,13,14,15] [(1,0)] hI)
def c3G:FS (List n9):=⟨97,Tryz.f97,[.val [some 2] [some 49]],[none],[.val [some 2] []],fun r=>u9 49 2 I7 r,fun _=>[none],Tryz.func97⟩
def b4U(list:List n9):Option (List n9) :=
 (bif ((list.length:Int)==0) then some [] else (t0 (0<=(list.length:Int)/\(list.length:Int)*16<=140737488355328) ((t0 (list.length=(f5u (list.length:Int).toNat (n9.mk 0 0)).length) (some list)))))
theorem e02{list}:OK c3G [j8 2 I7 list] (b4U list) :=
 o7 _ fun r h=>n6<|j5 2 h (fun h=>rg<|fE h) (fun h=>rg<|t9 h fun e1 h=>R8 2 7 49 2 16 I7 (n9.mk 0 0) c0h (.none) e1 (by decide) (by rfl)<|rg<|t9 h fun e2 h=>om (s6.row 49 2 (f5u (list.length:Int).toNat (n9.mk 0 0)).length (list.map I7)=m6 49 2 I7 list) (a1w e2)<|s7 (f5u (list.length:Int).toNat (n9.mk 0 0))<|ob e2<|tl (2,{e:=some (m6 49 2 I7 list)})<|rg<|om ((f5u (list.length:Int).toNat (n9.mk 0 0)).length=list.length) (by simp)<|fE h)
def a4D:FS (List n9):=⟨64,Tryz.f64,[.val [some 2] []],[none],[.val [some 7] []],fun r=>j8 2 I7 r,fun _=>[none],Tryz.func64⟩
def c41:(List n9)->KS:=fun out1=>⟨a4D.k 6 [false,false],(bs 5 (.own 1 0 2 0 out1.length::(bs 30 []))),[some [],some [m6 49 2 I7 out1]]⟩
def c0P(out1:List n9):Option (List n9) :=
 ((b4U out1).bind fun req=>some req)
theorem e0C(r):NF a4D r c41 (fun s=>c0P s):=fun out1 h=>PK<|rg<|cbS c3G e02 1 (fun _=>(by simp [c3G,K9,R4,O6,V.simple,vi,u9,eI,I7])) (fun _=>(P8 1)) h fun req h=>C7 out1 req<|fE h
def d5C(list:List m4)(q9:u6×List Int):((List n9)×Int)->KS:=fun (out,v18)=>⟨a4D.k 5 [false],(bs 4 (.own 1 0 1 0 q9.2.length::(.own 2 0 2 0 out.length::(bs 10 (j8 7 t5 list::(vi (list.length:Int)::(vi v18::(bs 17 [])))))))),[some [],some [m6 3 1 eI q9.2],some [m6 49 2 I7 out]]⟩
def e6m(list:List m4)(q9:u6×List Int)(v18:Int):(List n9)->KS:=fun out2=>⟨a4D.k 9 [false,true,true],(bs 4 (.own 1 0 1 0 q9.2.length::(.own 2 0 2 0 out2.length::(bs 10 (j8 7 t5 list::(vi (list.length:Int)::(vi v18::(bs 17 [])))))))),[some [],some [m6 3 1 eI q9.2],some [m6 49 2 I7 out2]]⟩
def c39(v18:Int)(out2:List n9):Option (j9 (List n9) ((List n9)×Int) (List n9)) :=
 some (j9.nxt (out2,m7 (v18+1)))
theorem f4q(list q9 v18)(lc:F6 a4D c41 (d5C list q9)):NL lc (e6m list q9 v18) (fun s=>c39 v18 s):=fun out2 h=>PK<|rg<|(lc.nx h fun hI=>sk [] [4,5,16,17,18] [(1,0),(2,0)] hI)
def a98(list:List m4)(q9:u6×List Int)(out:List n9)(v18:Int):Option (j9 (List n9) ((List n9)×Int) (List n9)) :=
 (bif decide (v18<(list.length:Int)) then ((idx list v18).bind fun entry=>((((idx q9.2 v18).bind fun y=>(bif (y==0) then (t0 ((out.length+1)*16<=140737488355328) (some (l9.brk (out++[entry.a0])))) else some (l9.brk out))):Option (l9 (j9 (List n9) ((List n9)×Int) (List n9)) (List n9))).bind fun x=>x.go some fun j=>c39 v18 j)) else some (j9.brk out))
theorem e4p(list q9):LQ a4D c41 (d5C list q9) (fun s=>a98 list q9 s.1 s.2):=fun lc (out,v18) h=>PK<|rg<|j5 0 h (fun h=>rg<|v5 t5 1 h fun entry G9 h=>A6 h (f4q list q9 v18 lc) fun x2 h hc2=>rg<|A8 h fun y hy h=>B5 hy<|H8 eI 3 hy<|j5 4 h (fun h=>rg<|tk 3 []<|t9 h fun e1 h=>F9 4 19 49 2 16 I7 out entry.a0 e1<|E6 entry.a0<|(o8 h hc2 fun hI=>sk [] [4,5,16,17,18] [(1,0),(19,0)] hI)) (fun h=>(o8 h hc2 fun hI=>sk [] [4,5,16,17,18] [(1,0),(2,0)] hI))) (fun h=>(lc.bk h fun hI=>sk [] [5] [(2,0)] hI))
def b5B(list:List m4):Option (List n9) :=
 ((b0U list).bind fun G6=>(bif (!G6) then some [] else ((a84 list).bind fun q9=>((p7 (fun s:(List n9)×Int=>a98 list q9 s.1 s.2) ([],0)).bind fun x=>x.go (fun r=>some r) fun s=>c0P s))))
theorem e4A{list}:OK a4D [j8 7 t5 list] (b5B list) :=
 o7 _ fun r h=>n6<|l7 a4B c3g 1 h fun G6 h=>j5 2 h (fun h=>rg<|fE h) (fun h=>rg<|l7 a2U b8S 1 h fun q9 h=>n6<|lp (e4p list q9) h (fun _ h=>a4D.rt h) (e0C r) fun hI=>sk [.own (.tmp 5) 49 2] [4,5,16,17,18] [(6,2),(17,0)] hI)
def a7E:FS ((List n8)×Bool):=⟨65,Tryz.f65,[.val [some 4] [some 93],.val [] []],[none,none],[.val E2 [],.val [] []],fun r=>.tup [u9 93 4 A0 r.1,.b r.2],fun _=>[none,none],Tryz.func65⟩
def d3s:Unit->KS:=fun _=>⟨a7E.k 3 [false],(bs 23 []),[some []]⟩
def d0s:Option ((List n8)×Bool) :=
 some ([],false)
theorem e6z(r):NF a7E r d3s (fun s=>d0s):=fun _ h=>PK<|rg<|fE h
def f4U(w:m5)(q:n9):Int->KS:=fun v11=>⟨a7E.k 2 [],(bs 3 (.ptr 1 0 0::(bs 5 (j8 3 B4 w.d8::(vi (w.d8.length:Int)::(vi v11::(bs 11 []))))))),[some [],some [.var 49 [vi q.b9,vi q.Seq]]]⟩
def b6b(w:m5)(q:n9)(v11:Int):Option (j9 ((List n8)×Bool) Int Unit) :=
 (bif decide (v11<(w.d8.length:Int)) then ((idx w.d8 v11).bind fun asked=>(bif (([asked.a0.b9,asked.a0.Seq]:List Int)==[q.b9,q.Seq]) then ((a79 asked.i6).bind fun ins=>some (j9.ret (ins,true))) else some (j9.nxt (m7 (v11+1))))) else some (j9.brk ()))
theorem e7C(w q):LQ a7E d3s (f4U w q) (fun s=>b6b w q s):=fun lc v11 h=>PK<|rg<|j5 0 h (fun h=>rg<|v5 B4 0 h fun asked a8i h=>rg<|j5 3 h (fun h=>rg<|l7 b4I c4L 2 h fun ins h=>s7 ins<|fL lc h) (fun h=>rg<|(lc.nx h fun hI=>sk [] [3,9,10,11] [(1,0)] hI))) (fun h=>(lc.bk h fun hI=>sk [] [] [] hI))
def b6r(w:m5)(q:n9):Option ((List n8)×Bool) :=
 ((p7 (fun s:Int=>b6b w q s) 0).bind fun x=>x.go (fun r=>some r) fun s=>d0s)
theorem d7q{w q}:OK a7E [.agg (R1 w),.agg (I7 q)] (b6r w q) :=
 o7 _ fun r h=>n6<|lp (e7C w q) h (fun _ h=>a7E.rt h) (e6z r) fun hI=>sk [] [3,9,10,11] [(2,0)] hI
def d42:FS ((List n7)×Int×Int):=⟨100,Tryz.f100,[.val [some 2] [],.val [] [],.val [] []],[none,none],[.val [some 2] [],.val [some 4] []],fun r=>.tup [j8 2 z6 r.1,vi r.2.1,vi r.2.2],fun _=>[none,none],Tryz.func100⟩
def b7a(list:List n7)(prog:List n8):Option ((List n7)×Int×Int) :=
 ((b3T list prog).bind fun C1=>(bif (C1.Code==3) then some ([],0,3) else ((b4t list C1).bind fun a9y=>some (a9y,C1.f0,C1.Code))))
theorem f0o{list prog}:OK d42 [j8 2 z6 list,j8 4 A0 prog] (b7a list prog) :=
 o7 _ fun r h=>n6<|l7 Q1 c56 2 h fun C1 h=>rg<|j5 2 h (fun h=>rg<|fE h) (fun h=>rg<|l7 a5O c6G 2 h fun a9y h=>s7 a9y<|fE h)
def c1B:FS (List Int):=⟨101,Tryz.f101,[.val [some 1] [some 3]],[none],[.val [some 1] []],fun r=>u9 3 1 eI r,fun _=>[none],Tryz.func101⟩
def b82(list:List Int):Option (List Int) :=
 (bif ((list.length:Int)==0) then some [] else (t0 (0<=(list.length:Int)/\(list.length:Int)*8<=140737488355328) ((t0 (list.length=(f5u (list.length:Int).toNat (0:Int)).length) (some list)))))
theorem e4J{list}:OK c1B [j8 1 eI list] (b82 list) :=
 o7 _ fun r h=>n6<|j5 2 h (fun h=>rg<|fE h) (fun h=>rg<|t9 h fun e1 h=>R8 2 7 3 1 8 eI (0:Int) ti3 (.none) e1 (by decide) (by rfl)<|rg<|t9 h fun e2 h=>om (s6.row 3 1 (f5u (list.length:Int).toNat (0:Int)).length (list.map eI)=m6 3 1 eI list) (a1w e2)<|s7 (f5u (list.length:Int).toNat (0:Int))<|ob e2<|tl (2,{e:=some (m6 3 1 eI list)})<|rg<|om ((f5u (list.length:Int).toNat (0:Int)).length=list.length) (by simp)<|fE h)
def a8J:FS ((List n7)×List Int):=⟨66,Tryz.f66,[.val [some 2] [],.val [some 1] []],[none,none],[.val [some 2] [],.val [some 1] []],fun r=>.tup [j8 2 z6 r.1,j8 1 eI r.2],fun _=>[none,none],Tryz.func66⟩
def d2y:((List Int)×List n7)->KS:=fun (vals1,now1)=>⟨a8J.k 6 [false,false],(bs 6 (j8 2 z6 now1::(.own 1 0 1 0 vals1.length::(bs 39 [])))),[some [],some [m6 3 1 eI vals1]]⟩
def b9v(vals1:List Int)(now1:List n7):Option ((List n7)×List Int) :=
 ((b82 vals1).bind fun int=>some (now1,int))
theorem f5c(r):NF a8J r d2y (fun s=>b9v s.1 s.2):=fun (vals1,now1) h=>PK<|rg<|cbS c1B e4J 2 (fun _=>(by simp [c1B,K9,R4,O6,V.simple,vi,u9,eI])) (fun _=>(P8 1)) h fun int h=>C7 vals1 int<|fE h
def e1S(progs:List (List n8)):((List Int)×Int×List n7)->KS:=fun (vals,v25,now)=>⟨a8J.k 5 [false],(bs 6 (j8 2 z6 now::(.own 1 0 1 0 vals.length::(bs 15 (j8 1 b09 progs::(vi (progs.length:Int)::(vi v25::(bs 21 [])))))))),[some [],some [m6 3 1 eI vals]]⟩
def a92(progs:List (List n8))(vals:List Int)(v25:Int)(now:List n7):Option (j9 ((List n7)×List Int) ((List Int)×Int×List n7) ((List Int)×List n7)) :=
 (bif decide (v25<(progs.length:Int)) then ((idx progs v25).bind fun y=>((b7a now y).bind fun N8=>(bif (N8.2.2==3) then some (j9.ret ([],[])) else (t0 ((vals.length+1)*8<=140737488355328) (some (j9.nxt (vals++[N8.2.1],m7 (v25+1),N8.1))))))) else some (j9.brk (vals,now)))
theorem e59(progs):LQ a8J d2y (e1S progs) (fun s=>a92 progs s.1 s.2.1 s.2.2):=fun lc (vals,v25,now) h=>PK<|rg<|j5 0 h (fun h=>rg<|v5 b09 0 h fun y hy h=>rg<|l7 d42 f0o 2 h fun N8 h=>rg<|j5 1 h (fun h=>rg<|fL lc h) (fun h=>n6<|tk 2 []<|t9 h fun e1 h=>F9 3 23 3 1 8 eI vals N8.2.1 e1<|E6 N8.2.1<|rg<|(lc.nx h fun hI=>sk [] [6,7,23,24,25] [(23,0)] hI))) (fun h=>(lc.bk h fun hI=>sk [] [6,7] [(1,0)] hI))
def b8A(list:List n7)(progs:List (List n8)):Option ((List n7)×List Int) :=
 ((a53 list).bind fun V6=>(bif (!V6) then some ([],[]) else (bif decide ((progs.length:Int)>100) then some ([],[]) else ((a8t list).bind fun box=>((p7 (fun s:(List Int)×Int×List n7=>a92 progs s.1 s.2.1 s.2.2) ([],0,box)).bind fun x=>x.go (fun r=>some r) fun s=>b9v s.1 s.2)))))
theorem e36{list progs}:OK a8J [j8 2 z6 list,j8 1 b09 progs] (b8A list progs) :=
 o7 _ fun r h=>n6<|l7 a3t b2E 1 h fun V6 h=>j5 3 h (fun h=>rg<|fE h) (fun h=>j5 7 h (fun h=>rg<|fE h) (fun h=>rg<|l7 b7Y c3J 1 h fun box h=>n6<|lp (e59 progs) h (fun _ h=>a8J.rt h) (f5c r) fun hI=>s7 box<|sk [.frz (.tmp 6) (none),.own (.tmp 7) 3 1] [6,7,23,24,25] [(18,0)] hI))
def a8O:FS (Bool):=⟨102,Tryz.f102,[.val [] []],[none,none],[.val [some 2] [],.val [some 2] []],fun r=>.b r,fun _=>[none,none],Tryz.func102⟩
def c72:Unit->KS:=fun _=>⟨a8O.k 4 [false,false],(bs 26 []),[some []]⟩
def c9X:Option Bool :=
 some true
theorem e5q(r):NF a8O r c72 (fun s=>c9X):=fun _ h=>PK<|rg<|fE h
def d7K(a:List n7)(b:List n7):Int->KS:=fun v13=>⟨a8O.k 3 [false],(j8 2 z6 a::(j8 2 z6 b::(bs 10 (vi (a.length:Int)::(vi v13::(bs 12 [])))))),[some []]⟩
def b7D(a:List n7)(b:List n7)(v13:Int):Option (j9 Bool Int Unit) :=
 (bif decide (v13<(a.length:Int)) then ((idx a v13).bind fun box=>((idx b v13).bind fun U6=>(bif (!(([box.j4,box.f0]:List Int)==[U6.j4,U6.f0])) then some (j9.ret false) else some (j9.nxt (m7 (v13+1)))))) else some (j9.brk ()))
theorem d9A(a b):LQ a8O c72 (d7K a b) (fun s=>b7D a b s):=fun lc v13 h=>PK<|rg<|j5 0 h (fun h=>n6<|v5 z6 2 h fun box a2E h=>v5 z6 6 h fun U6 a7T h=>j5 8 h (fun h=>rg<|fL lc h) (fun h=>rg<|(lc.nx h fun hI=>sk [] [0,1,12,13] [] hI))) (fun h=>(lc.bk h fun hI=>sk [] [] [] hI))
def c1c(a:List n7)(b:List n7):Option Bool :=
 (bif ((a.length:Int) != (b.length:Int)) then some false else ((p7 (fun s:Int=>b7D a b s) 0).bind fun x=>x.go (fun r=>some r) fun s=>c9X))
theorem d9Q{a b}:OK a8O [j8 2 z6 a,j8 2 z6 b] (c1c a b) :=
 o7 _ fun r h=>n6<|j5 4 h (fun h=>rg<|fE h) (fun h=>rg<|lp (d9A a b) h (fun _ h=>a8O.rt h) (e5q r) fun hI=>sk [] [0,1,12,13] [] hI)
def d1D:FS (Bool):=⟨68,Tryz.f68,[.val [] []],[none,none],[.val [some 2] [],.val [some 2] []],fun r=>.b r,fun _=>[none,none],Tryz.func68⟩
def b8H(a:List n7)(b:List n7):Option Bool :=
 ((c1c a b).bind fun box=>some box)
theorem e0b{a b}:OK d1D [j8 2 z6 a,j8 2 z6 b] (b8H a b) :=
 o7 _ fun r h=>n6<|l7 a8O d9Q 2 h fun box h=>fE h
def a2t:FS (Bool):=⟨32,Tryz.f32,[.val [] []],[none],[.val E2 []],fun r=>.b r,fun _=>[none],Tryz.func32⟩
def d4f(worldLog:List m4)(C0:List n9):(List (List n8))->KS:=fun b0D=>⟨a2t.k 7 [false,false],(bs 3 (j8 7 t5 worldLog::(j8 2 I7 C0::(.own 1 0 1 0 b0D.length::(bs 74 []))))),[some [],some [m6 34 1 b09 b0D]]⟩
def d6C:Unit->KS:=fun _=>⟨a2t.k 11 [false,false,false,false],(bs 80 []),[some []]⟩
def c9C:Option Bool :=
 some true
theorem e0O(r):NF a2t r d6C (fun s=>c9C):=fun _ h=>PK<|rg<|fE h
def e0z(worldLog:List m4)(C0:List n9)(N9:(List n7)×List Int):Int->KS:=fun v61=>⟨a2t.k 10 [false,false,false],(bs 3 (j8 7 t5 worldLog::(bs 7 (j8 1 eI N9.2::(bs 47 (j8 2 I7 C0::(vi (C0.length:Int)::(vi v61::(bs 18 []))))))))),[some []]⟩
def b47(worldLog:List m4)(C0:List n9)(N9:(List n7)×List Int)(v61:Int):Option (j9 Bool Int Unit) :=
 (bif decide (v61<(C0.length:Int)) then ((idx C0 v61).bind fun req=>((idx N9.2 v61).bind fun y=>((a5F worldLog req).bind fun first=>((idx worldLog first).bind fun entry=>(bif (y != entry.b8.f0) then some (j9.ret false) else some (j9.nxt (m7 (v61+1)))))))) else some (j9.brk ()))
theorem e9O(worldLog C0 N9):LQ a2t d6C (e0z worldLog C0 N9) (fun s=>b47 worldLog C0 N9 s):=fun lc v61 h=>PK<|rg<|j5 0 h (fun h=>rg<|v5 I7 1 h fun req f5m h=>rg<|v5 eI 2 h fun y hy h=>l7 a2b b14 7 h fun first h=>v5 t5 8 h fun entry G9 h=>j5 12 h (fun h=>rg<|fL lc h) (fun h=>rg<|(lc.nx h fun hI=>sk [] [3,11,59,60,61] [] hI))) (fun h=>(lc.bk h fun hI=>sk [] [] [] hI))
def b4p(worldLog:List m4)(C0:List n9)(b0D:List (List n8)):Option Bool :=
 ((b24).bind fun a3c=>((b8A a3c b0D).bind fun N9=>((b1U worldLog).bind fun a3I=>((b8H N9.1 a3I.g8).bind fun d5s=>(bif (!d5s) then some false else (bif ((N9.2.length:Int) != (C0.length:Int)) then some false else ((p7 (fun s:Int=>b47 worldLog C0 N9 s) 0).bind fun x=>x.go (fun r=>some r) fun s=>c9C)))))))
theorem d97(worldLog C0)(r):NF a2t r (d4f worldLog C0) (fun s=>b4p worldLog C0 s):=fun b0D h=>PK<|rg<|l7 c33 d2w 0 h fun a3c h=>l7 a8J e36 2 h fun N9 h=>C7 a3c b0D<|rg<|l7 c05 d0c 2 h fun a3I h=>T5 d1D e0b 4 2 h fun d5s h=>s7 a3I.g8<|j5 6 h (fun h=>rg<|fE h) (fun h=>j5 12 h (fun h=>rg<|fE h) (fun h=>rg<|lp (e9O worldLog C0 N9) h (fun _ h=>a2t.rt h) (e0O r) fun hI=>sk [] [3,11,59,60,61] [] hI))
def d75(w:m5)(worldLog:List m4)(C0:List n9):((List (List n8))×Int)->KS:=fun (progs,v23)=>⟨a2t.k 6 [false],(bs 1 (.ptr 1 0 0::(bs 1 (j8 7 t5 worldLog::(j8 2 I7 C0::(.own 2 0 1 0 progs.length::(bs 15 (j8 2 I7 C0::(vi (C0.length:Int)::(vi v23::(bs 56 []))))))))))),[some [],some [.var 30 (D8 w)],some [m6 34 1 b09 progs]]⟩
def a5P(w:m5)(C0:List n9)(progs:List (List n8))(v23:Int):Option (j9 Bool ((List (List n8))×Int) (List (List n8))) :=
 (bif decide (v23<(C0.length:Int)) then ((idx C0 v23).bind fun c8X=>((b6r w c8X).bind fun a94=>(bif (!a94.2) then some (j9.ret false) else (t0 ((progs.length+1)*24<=140737488355328) (some (j9.nxt (progs++[a94.1],m7 (v23+1)))))))) else some (j9.brk progs))
theorem e79(w worldLog C0):LQ a2t (d4f worldLog C0) (d75 w worldLog C0) (fun s=>a5P w C0 s.1 s.2):=fun lc (progs,v23) h=>PK<|rg<|j5 0 h (fun h=>rg<|v5 I7 0 h fun c8X f5k h=>rg<|l7 a7E d7q 2 h fun a94 h=>rg<|j5 1 h (fun h=>rg<|fL lc h) (fun h=>rg<|s7 a94.1<|tk 2 [some 4]<|t9 h fun e1 h=>F9 3 21 34 1 24 b09 progs a94.1 e1<|E6 a94.1<|rg<|(lc.nx h fun hI=>sk [] [1,3,4,5,21,22,23] [(1,0),(21,0)] hI))) (fun h=>(lc.bk h fun hI=>sk [] [3,4,5] [(2,0)] hI))
def b69(w:m5):Option Bool :=
 ((a1T w).bind fun C3=>(bif (!C3) then some false else ((a9W w).bind fun worldLog=>((b5B worldLog).bind fun C0=>((p7 (fun s:(List (List n8))×Int=>a5P w C0 s.1 s.2) ([],0)).bind fun x=>x.go (fun r=>some r) fun s=>b4p worldLog C0 s)))))
theorem e2D{w}:OK a2t [.agg (R1 w)] (b69 w) :=
 o7 _ fun r h=>n6<|l7 K8 a4X 1 h fun C3 h=>j5 2 h (fun h=>rg<|fE h) (fun h=>rg<|l7 a3e c2J 1 h fun worldLog h=>rg<|l7 a4D e4A 1 h fun C0 h=>n6<|lp (e79 w worldLog C0) h (fun _ h=>a2t.rt h) (d97 worldLog C0 r) fun hI=>sk [.own (.tmp 5) 34 1] [1,3,4,5,21,22,23] [(1,0),(16,0)] hI)
def a4J:FS (Bool):=⟨33,Tryz.f33,[.val [] []],[none],[.val E2 []],fun r=>.b r,fun _=>[none],Tryz.func33⟩
def c4k:Unit->KS:=fun _=>⟨a4J.k 6 [false,false],(bs 56 []),[some []]⟩
def c9r:Option Bool :=
 some true
theorem e5o(r):NF a4J r c4k (fun s=>c9r):=fun _ h=>PK<|rg<|fE h
def d2S(w:m5)(worldLog:List m4)(q9:u6×List Int):Int->KS:=fun v23=>⟨a4J.k 5 [false],(bs 3 (j8 7 t5 worldLog::(bs 1 (.own 1 0 1 0 q9.2.length::(bs 15 (j8 5 z4 w.Told::(vi (w.Told.length:Int)::(vi v23::(bs 32 []))))))))),[some [],some [m6 3 1 eI q9.2]]⟩
def e1B(w:m5)(worldLog:List m4)(q9:u6×List Int)(v23:Int)(told:m9):Int->KS:=fun val=>⟨a4J.k 12 [false,true,false,true],(bs 3 (j8 7 t5 worldLog::(bs 1 (.own 1 0 1 0 q9.2.length::(bs 1 (.ptr 2 0 0::(bs 1 (vi val::(bs 11 (j8 5 z4 w.Told::(vi (w.Told.length:Int)::(vi v23::(bs 32 []))))))))))))),[some [],some [m6 3 1 eI q9.2],some [.var 69 [vi told.Node,vi told.a0.b9,vi told.a0.Seq,vi told.Code,vi told.f0]]]⟩
def c1L(v23:Int)(told:m9)(val:Int):Option (j9 Bool Int Unit) :=
 (bif (told.f0 != val) then some (j9.ret false) else some (j9.nxt (m7 (v23+1))))
theorem e8q(w worldLog q9 v23 told)(lc:F6 a4J c4k (d2S w worldLog q9)):NL lc (e1B w worldLog q9 v23 told) (fun s=>c1L v23 told s):=fun val h=>PK<|rg<|j5 3 h (fun h=>rg<|fL lc h) (fun h=>rg<|(lc.nx h fun hI=>sk [] [3,5,21,22,23] [(1,0)] hI))
def b5N(w:m5)(worldLog:List m4)(q9:u6×List Int)(v23:Int):Option (j9 Bool Int Unit) :=
 (bif decide (v23<(w.Told.length:Int)) then ((idx w.Told v23).bind fun told=>((a5F worldLog told.a0).bind fun first=>(bif decide (first<0) then some (j9.ret false) else ((idx q9.2 first).bind fun y=>(bif (y != told.Code) then some (j9.ret false) else (((bif (told.Code==0) then ((idx worldLog first).bind fun entry=>some (l9.brk entry.b8.f0)) else some (l9.brk 0)):Option (l9 (j9 Bool Int Unit) Int)).bind fun x=>x.go some fun j=>c1L v23 told j)))))) else some (j9.brk ()))
theorem e44(w worldLog q9):LQ a4J c4k (d2S w worldLog q9) (fun s=>b5N w worldLog q9 s):=fun lc v23 h=>PK<|rg<|j5 0 h (fun h=>rg<|v5 z4 0 h fun told a47 h=>rg<|l7 a2b b14 3 h fun first h=>rg<|j5 2 h (fun h=>rg<|fL lc h) (fun h=>A8 h fun y hy h=>B5 hy<|H8 eI 6 hy<|j5 10 h (fun h=>rg<|fL lc h) (fun h=>rg<|A6 h (e8q w worldLog q9 v23 told lc) fun x2 h hc2=>rg<|j5 2 h (fun h=>rg<|v5 t5 2 h fun entry G9 h=>(o8 h hc2 fun hI=>sk [] [3,5,7,9,21,22,23] [(1,0),(5,0)] hI)) (fun h=>(o8 h hc2 fun hI=>sk [] [3,5,7,9,21,22,23] [(1,0),(5,0)] hI))))) (fun h=>(lc.bk h fun hI=>sk [] [] [] hI))
def b3H(w:m5):Option Bool :=
 ((a1T w).bind fun C3=>(bif (!C3) then some false else ((a9W w).bind fun worldLog=>((a84 worldLog).bind fun q9=>((p7 (fun s:Int=>b5N w worldLog q9 s) 0).bind fun x=>x.go (fun r=>some r) fun s=>c9r)))))
theorem d93{w}:OK a4J [.agg (R1 w)] (b3H w) :=
 o7 _ fun r h=>n6<|l7 K8 a4X 1 h fun C3 h=>j5 2 h (fun h=>rg<|fE h) (fun h=>rg<|l7 a3e c2J 1 h fun worldLog h=>rg<|l7 a2U b8S 1 h fun q9 h=>rg<|lp (e44 w worldLog q9) h (fun _ h=>a4J.rt h) (e5o r) fun hI=>sk [] [3,5,21,22,23] [(10,2)] hI)
def a8K:FS (Bool):=⟨34,Tryz.f34,[.val [] []],[none],[.val E2 []],fun r=>.b r,fun _=>[none],Tryz.func34⟩
def c6H:Unit->KS:=fun _=>⟨a8K.k 5 [false,false],(bs 25 []),[some []]⟩
def d0E:Option Bool :=
 some true
theorem e3e(r):NF a8K r c6H (fun s=>d0E):=fun _ h=>PK<|rg<|fE h
def e7j(w:m5):((List n9)×Int)->KS:=fun (w1,v13)=>⟨a8K.k 4 [false],(bs 3 (.mp 1 0::(bs 7 (j8 5 z4 w.Told::(vi (w.Told.length:Int)::(vi v13::(bs 11 []))))))),[some [],some [.map 125 2 (w1.map fun x=>(H1 x,.b true))]]⟩
def b4r(w:m5)(w1:List n9)(v13:Int):Option (j9 Bool ((List n9)×Int) Unit) :=
 (bif decide (v13<(w.Told.length:Int)) then ((idx w.Told v13).bind fun told=>(bif (w1.any fun x=>H1 told.a0==H1 x) then some (j9.ret false) else some (j9.nxt (a9c H1 w1 told.a0,m7 (v13+1))))) else some (j9.brk ()))
theorem f1m(w):LQ a8K c6H (e7j w) (fun s=>b4r w s.1 s.2):=fun lc (w1,v13) h=>PK<|rg<|j5 0 h (fun h=>rg<|v5 z4 0 h fun told a47 h=>rg<|cdT (3,{v:=some (.b (w1.any fun x=>H1 told.a0==H1 x))}) h (fun _ h=>om (a2S (w1.map fun x=>(H1 x,.b true)) (H1 told.a0) (.b false)=.b (w1.any fun x=>H1 told.a0==H1 x)) (c5I H1 _ _)<|rg<|fL lc h) (fun _ h=>om (a2S (w1.map fun x=>(H1 x,.b true)) (H1 told.a0) (.b false)=.b (w1.any fun x=>H1 told.a0==H1 x)) (c5I H1 _ _)<|rg<|om (s6.map 125 2 (a1Q (w1.map fun x=>(H1 x,.b true)) (H1 told.a0) (.b true))=.map 125 2 ((a9c H1 w1 told.a0).map fun x=>(H1 x,.b true))) (congrArg (s6.map 125 2) (d16 H1 _ _))<|tl (3,{e:=some (.map 125 2 ((a9c H1 w1 told.a0).map fun x=>(H1 x,.b true)))})<|rg<|(lc.nx h fun hI=>sk [] [3,11,12,13] [(1,0)] hI))) (fun h=>(lc.bk h fun hI=>sk [] [] [] hI))
def b23(w:m5):Option Bool :=
 ((a1T w).bind fun C3=>(bif (!C3) then some false else ((p7 (fun s:(List n9)×Int=>b4r w s.1 s.2) (([]:List n9),0)).bind fun x=>x.go (fun r=>some r) fun s=>d0E)))
theorem d72{w}:OK a8K [.agg (R1 w)] (b23 w) :=
 o7 _ fun r h=>n6<|l7 K8 a4X 1 h fun C3 h=>j5 2 h (fun h=>rg<|fE h) (fun h=>n6<|lp (f1m w) h (fun _ h=>a8K.rt h) (e3e r) fun hI=>sk [] [3,11,12,13] [(6,0)] hI)
def d3M:FS (Bool):=⟨11,Tryz.f11,[.val [] []],[none],[.val E2 []],fun r=>.b r,fun _=>[none],Tryz.func11⟩
def b8L(w:m5):Option Bool :=
 ((b1C w).bind fun d3u=>(bif d3u then ((b2z w).bind fun c8J=>(bif c8J then ((b37 w).bind fun d6e=>(bif d6e then ((b3a w).bind fun d5l=>(bif d5l then ((b69 w).bind fun a7t=>(bif a7t then ((b3H w).bind fun d05=>(bif d05 then ((b23 w).bind fun c51=>some c51) else some false)) else some false)) else some false)) else some false)) else some false)) else some false))
theorem e98{w}:OK d3M [.agg (R1 w)] (b8L w) :=
 o7 _ fun r h=>n6<|l7 a0V e5y 1 h fun d3u h=>j5 2 h (fun h=>l7 a0b f3X 4 h fun c8J h=>j5 6 h (fun h=>l7 a2P e2O 8 h fun d6e h=>j5 10 h (fun h=>l7 a0Y f3E 12 h fun d5l h=>j5 14 h (fun h=>l7 a2t e2D 16 h fun a7t h=>j5 18 h (fun h=>l7 a4J d93 20 h fun d05 h=>j5 22 h (fun h=>l7 a8K d72 24 h fun c51 h=>fE h) (fun h=>fE h)) (fun h=>fE h)) (fun h=>fE h)) (fun h=>fE h)) (fun h=>fE h)) (fun h=>fE h)
def a5M:FS (Bool):=⟨3,Tryz.f3,[.val [] []],[none],[.val [some 1] []],fun r=>.b r,fun _=>[none],Tryz.func3⟩
def c3s:m5->KS:=fun w1=>⟨a5M.k 7 [false,false,false],(bs 4 (.ptr 1 0 0::(bs 48 []))),[some [],some [.var 30 [j8 27 x6 w1.a6,j8 13 s8 w1.d6,j8 3 B4 w1.d8,j8 5 z4 w1.Told]]]⟩
def c4w(w1:m5):Option Bool :=
 ((a9W w1).bind fun worldLog=>(bif ((worldLog.length:Int)==0) then (bif ((w1.Told.length:Int)==0) then ((b8L w1).bind fun d0g=>some d0g) else some false) else some false))
theorem e1m(r):NF a5M r c3s (fun s=>c4w s):=fun w1 h=>PK<|rg<|l7 a3e c2J 1 h fun worldLog h=>j5 4 h (fun h=>j5 10 h (fun h=>l7 d3M e98 12 h fun d0g h=>fE h) (fun h=>fE h)) (fun h=>fE h)
def d2H(drawWorldStory:List r9):(Int×m5)->KS:=fun (i,w)=>⟨a5M.k 6 [false,false],(bs 3 (j8 3 I1 drawWorldStory::(.ptr 1 0 0::(vi i::(bs 47 []))))),[some [],some [.var 30 [j8 27 x6 w.a6,j8 13 s8 w.d6,j8 3 B4 w.d8,j8 5 z4 w.Told]]]⟩
def e7N(drawWorldStory:List r9)(i:Int):m5->KS:=fun w2=>⟨a5M.k 9 [false,false,true,true],(bs 3 (j8 3 I1 drawWorldStory::(.ptr 1 0 0::(vi i::(bs 47 []))))),[some [],some [.var 30 [j8 27 x6 w2.a6,j8 13 s8 w2.d6,j8 3 B4 w2.d8,j8 5 z4 w2.Told]]]⟩
def b8m(i:Int)(w2:m5):Option (j9 Bool (Int×m5) m5) :=
 some (j9.nxt (m7 (i+1),w2))
theorem e06(drawWorldStory i)(lc:F6 a5M c3s (d2H drawWorldStory)):NL lc (e7N drawWorldStory i) (fun s=>b8m i s):=fun w2 h=>PK<|rg<|(lc.nx h fun hI=>sk [] [3,4,5] [(1,0)] hI)
def a4p(drawWorldStory:List r9)(i:Int)(w:m5):Option (j9 Bool (Int×m5) m5) :=
 (bif decide (i<(drawWorldStory.length:Int)) then ((((idx drawWorldStory i).bind fun c40=>(bif (c40.a9 != 5) then ((b6c w c40).bind fun c9L=>some (l9.brk c9L)) else some (l9.brk w))):Option (l9 (j9 Bool (Int×m5) m5) m5)).bind fun x=>x.go some fun j=>b8m i j) else some (j9.brk w))
theorem e85(drawWorldStory):LQ a5M c3s (d2H drawWorldStory) (fun s=>a4p drawWorldStory s.1 s.2):=fun lc (i,w) h=>PK<|rg<|j5 3 h (fun h=>A6 h (e06 drawWorldStory i lc) fun x2 h hc2=>rg<|v5 I1 2 h fun c40 d67 h=>j5 5 h (fun h=>rg<|J3 I1 3 d67<|l7 d2C e6M 5 h fun c9L h=>(o8 h hc2 fun hI=>sk [] [3,4,5] [(1,0)] hI)) (fun h=>(o8 h hc2 fun hI=>sk [] [3,4,5] [(1,0)] hI))) (fun h=>(lc.bk h fun hI=>sk [] [4] [(1,0)] hI))
def c03(code:List Int):Option Bool :=
 (bif decide ((code.length:Int)>1048576) then some true else ((b7o code).bind fun drawWorldStory=>((b9l).bind fun a4O=>((a1T a4O).bind fun C3=>(bif (!C3) then some false else ((b3W).bind fun a7b=>((b4W a4O a7b).bind fun a8w=>(bif (!a8w) then some false else ((p7 (fun s:Int×m5=>a4p drawWorldStory s.1 s.2) (0,a4O)).bind fun x=>x.go (fun r=>some r) fun s=>c4w s)))))))))
theorem d6J{code}:OK a5M [j8 1 K1 code] (c03 code) :=
 o7 _ fun r h=>n6<|j5 2 h (fun h=>rg<|fE h) (fun h=>rg<|l7 c7K f4K 1 h fun drawWorldStory h=>rg<|l7 a9d d8R 0 h fun a4O h=>rg<|l7 K8 a4X 1 h fun C3 h=>j5 3 h (fun h=>rg<|fE h) (fun h=>l7 a5T c8Z 5 h fun a7b h=>A8 h fun a8w e28 h=>om (a0v cx.P 7 [.agg (R1 a4O),.agg [.sl 27 a7b.a6.length (a0S (a7b.a6.map z7)),j8 13 s8 a7b.d6,j8 3 B4 a7b.d8,j8 5 z4 a7b.Told]] (V3.R a8w) (V3.O a8w)) (by simp only [b1p b4K];exact (d9V a8w e28))<|osc V3 a8w rfl (P8 2)<|A9 a7b<|tl (V3.t 6 true a8w)<|j5 8 h (fun h=>rg<|fE h) (fun h=>rg<|lp (e85 drawWorldStory) h (fun _ h=>a5M.rt h) (e1m r) fun hI=>sk [] [3,4,5] [(9,0)] hI)))
theorem f08:a9H Tryz.prog 5 K1 a6t:=e2j Tryz.underlying5
theorem f4B:a9H Tryz.prog 22 (fun l:List Int=>[j8 1 K1 l]) (A4 1 a6t):=e22 Tryz.underlying22 f08 (by kernel_rfl) (by decide) (by kernel_rfl) (fun _=>rfl)
theorem C2{n:Int}(h1:-9223372036854775808<=n)(h2:n<=9223372036854775807):m7 n=n:=IntWalk.i64_in n ⟨h1,h2⟩
def s9{α:Type}(l:List α):Prop:=l.length<=140737488351232
theorem F3{α:Type}{l:List α}(hl:s9 l){k:Nat}(h:k<l.length):m7 ((k:Int)+1)=((k+1:Nat):Int):=by
 unfold s9 at hl;rw [C2 (by omega) (by omega)];omega
section
variable {R S B:Type} {body:S->Option (j9 R S B)}
theorem E3{s t:S}(h:body s=some (.nxt t)):p7 body s=p7 body t:=by rw [c5P,h]
theorem C9{s:S}{b:B}(h:body s=some (.brk b)):p7 body s=some (.brk b):=by rw [c5P,h]
theorem Y0{s:S}{r:R}(h:body s=some (.ret r)):p7 body s=some (.ret r):=by rw [c5P,h]
theorem W7(st:Nat->S)(n:Nat)(h:∀k,k<n->body (st k)=some (.nxt (st (k+1)))):p7 body (st 0)=p7 body (st n):=by
 induction n with
 | zero=>rfl
 | succ n ih =>
  rw [ih fun k hk=>h k (by omega)];exact E3 (h n (by omega))
theorem a4Y(st:Nat->S)(n:Nat)(ok:Nat->Bool)(r:Nat->R)(b:B)(h1:∀k,k<n->(∀j,j<k->ok j=true)->body (st k)=some (bif ok k then .nxt (st (k+1)) else .ret (r k)))(h2:(∀j,j<n->ok j=true)->body (st n)=some (.brk b)) :
  (p7 body (st 0)=some (.brk b)/\∀j,j<n->ok j=true)\/∃k,k<n/\ok k=false/\(∀j,j<k->ok j=true)/\p7 body (st 0)=some (.ret (r k)):=by
 by_cases hall:∀j,j<n->ok j=true
 ·left
  refine ⟨?_,hall⟩;rw [W7 st n fun k hk => ?_]
  ·exact C9 (h2 hall)
  ·rw [h1 k hk fun j hj=>hall j (by omega),hall k hk];rfl
 ·right
  have hex:∃k,k<n/\ok k=false:=by
   apply f7E;intro hn;apply hall;intro j hj;cases hj':ok j with
   | true=>rfl
   | false=>exact absurd ⟨j,hj,hj'⟩ hn
  obtain ⟨k,hk,ho,hb⟩:∃k,k<n/\ok k=false/\∀j,j<k->ok j=true:=by
   obtain ⟨k,hk,ho⟩:=hex;induction k using Nat.strongRecOn with
   | _ k ih =>
    by_cases hb:∀j,j<k->ok j=true
    ·exact ⟨k,hk,ho,hb⟩
    ·have:∃j,j<k/\ok j=false:=by
      apply f7E;intro hn;apply hb;intro j hj;cases hj':ok j with
      | true=>rfl
      | false=>exact absurd ⟨j,hj,hj'⟩ hn
     obtain ⟨j,hj,hjo⟩:=this;exact ih j hj (by omega) hjo
  refine ⟨k,hk,ho,hb,?_⟩;rw [W7 st k fun j hj => ?_]
  ·refine Y0 ?_;rw [h1 k hk hb,ho];rfl
  ·rw [h1 j (by omega) fun i hi=>hb i (by omega),hb j hj];rfl
end
theorem b97{R S B:Type}{body:S->Option (j9 R S B)}(I:Nat->S->Prop)(Q:l9 R B->Prop)(h:∀k s,I k s->∃st,body s=some st/\match st with | .ret r=>Q (.ret r) | .brk b=>Q (.brk b) | .nxt t => ∃k',k'<k/\I k' t):∀{k s},I k s->∃x,p7 body s=some x/\Q x:=by
 intro k;induction k using Nat.strongRecOn with
 | _ k ih =>
  intro s hs;obtain ⟨st,hb,hq⟩:=h k s hs;cases st with
  | ret r=>exact ⟨_,Y0 hb,hq⟩
  | brk b=>exact ⟨_,C9 hb,hq⟩
  | nxt t =>
   obtain ⟨k',hk,ht⟩:=hq;obtain ⟨x,hx,hq⟩:=ih k' hk ht;exact ⟨x,by rw [E3 hb];exact hx,hq⟩
theorem u7{β:Type}{p:Prop}[Decidable p](h:p)(k:Option β):t0 p k=k:=if_pos h
theorem a8x{α:Type}(l:List α)(k:Nat):idx l (k:Int)=l[k]?:=by
 unfold idx;rw [if_pos (by omega)];rfl
theorem t8{α:Type}{l:List α}{k:Nat}(h:k<l.length):idx l (k:Int)=some l[k]:=by
 rw [a8x,f5t h]
theorem w9{α:Type}(l:List α)(k:Nat)(h:k<l.length):decide ((k:Int)<(l.length:Int))=true:=by simpa using h
theorem z9{α:Type}(l:List α):decide ((l.length:Int)<(l.length:Int))=false:=by simp
theorem K6{α B:Type}{body:Int->Option (j9 Bool Int B)}(l:List α)(hl:s9 l)(ok:α->Bool)(v:Bool)(b:B)(h1:∀(k:Nat) (h:k<l.length),body (k:Int)=some (bif ok l[k] then .nxt (m7 ((k:Int)+1)) else .ret v))(h2:body (l.length:Int)=some (.brk b)):p7 body 0=some (bif l.all ok then .brk b else .ret v):=by
 have h:=a4Y (body:=body) (fun k=>(k:Int)) l.length (fun k=>match l[k]? with|some x=>ok x|none=>true) (fun _=>v) b
  (fun k hk _=>by
   have:=h1 k hk;rw [F3 hl hk] at this;simpa [f5t hk] using this) (fun _=>h2)
 rcases h with ⟨h,hall⟩|⟨k,hk,ho,_,h⟩
 ·have:l.all ok=true:=by
   rw [List.all_eq_true];intro x hx;obtain ⟨i,hi,rfl⟩:=f6e hx;have:=hall i hi;simpa [f5t hi] using this
  rw [this];exact h
 ·have:l.all ok=false:=by
   rw [f7a];refine ⟨l[k],f5v hk,?_⟩;simpa [f5t hk] using ho
  rw [this];exact h
theorem a2H{α B:Type}{body:Int->Option (j9 Bool Int B)}(l:List α)(hl:s9 l)(ok:Nat->Bool)(v:Bool)(b:B)(h1:∀(k:Nat) (h:k<l.length),(∀j,j<k->ok j=true)->body (k:Int)=some (bif ok k then .nxt (m7 ((k:Int)+1)) else .ret v))(h2:body (l.length:Int)=some (.brk b)):p7 body 0=some (bif (f5A l.length).all ok then .brk b else .ret v):=by
 have h:=a4Y (body:=body) (fun k=>(k:Int)) l.length ok (fun _=>v) b
  (fun k hk hb=>by
   have:=h1 k hk hb;rw [F3 hl hk] at this;exact this) (fun _=>h2)
 rcases h with ⟨h,hall⟩|⟨k,hk,ho,_,h⟩
 ·have:(f5A l.length).all ok=true:=by
   rw [List.all_eq_true];intro x hx;exact hall x (by simpa using hx)
  rw [this];exact h
 ·have:(f5A l.length).all ok=false:=by
   rw [f7a];exact ⟨k,by simpa using hk,by simp [ho]⟩
  rw [this];exact h
theorem b7q{α R B:Type}{body:Int->Option (j9 R Int B)}(l:List α)(hl:s9 l)(is:α->Bool)(f:α->R)(b:B)(h1:∀(k:Nat) (h:k<l.length),body (k:Int)=some (bif is l[k] then .ret (f l[k]) else .nxt (m7 ((k:Int)+1))))(h2:body (l.length:Int)=some (.brk b)):p7 body 0=some (match l.find? is with|some x=>.ret (f x)|none=>.brk b):=by
 have key:∀(m k:Nat),k+m=l.length->p7 body (k:Int)=some (match (l.drop k).find? is with|some x=>.ret (f x)|none=>.brk b):=by
  intro m;induction m with
  | zero =>
   intro k hk;have:k=l.length:=by omega
   subst this;rw [List.drop_length];exact C9 h2
  | succ m ih =>
   intro k hk;have hlt:k<l.length:=by omega
   have hb:=h1 k hlt;rw [f5U hlt,f6Y];cases hq:is l[k] with
   | true =>
    rw [hq] at hb;exact Y0 hb
   | false =>
    rw [hq] at hb;rw [E3 hb,F3 hl hlt];exact ih (k+1) (by omega)
 have:=key l.length 0 (by omega);simpa using this
theorem d5k{α S R B:Type}{body:S×Int->Option (j9 R (S×Int) B)}(l:List α)(hl:s9 l)(g:S->α->S)(s0:S)(b:S->B)(h1:∀(k:Nat) (h:k<l.length),body ((l.take k).foldl g s0,(k:Int))=some (.nxt (g ((l.take k).foldl g s0) l[k],m7 ((k:Int)+1))))(h2:body (l.foldl g s0,(l.length:Int))=some (.brk (b (l.foldl g s0)))):p7 body (s0,0)=some (.brk (b (l.foldl g s0))):=by
 have h:=W7 (body:=body) (fun k=>((l.take k).foldl g s0,(k:Int))) l.length (fun k hk=>by
  rw [h1 k hk,F3 hl hk,f5T hk,List.foldl_append];rfl)
 simp only [f6i,f7J,f5M] at h;rw [show ((0:Nat):Int)=0 from rfl] at h;rw [h];exact C9 h2
def c3m(x:n9):Prop:=I6 x.b9/\I6 x.Seq
def d4y(x:q8):Prop:=I6 x.i5/\I6 x.j4
def c9m(x:p6):Prop:=I6 x.i5/\I6 x.f0
def b6z(x:n5):Prop:=(A4 16 d4y) x.b5/\(A4 16 c9m) x.b6/\I6 x.f0/\I6 x.Code
def E8(x:m4):Prop:=c3m x.a0/\b6z x.b8
def T4(x:m8):Prop:=I6 x.a8/\E8 x.g9
def a6C(x:z0):Prop:=I6 x.i0/\(A4 96 T4) x.a7
def b3x(x:n8):Prop:=I6 x.a9/\I6 x.A/\I6 x.B/\I6 x.N
def P5(x:j6):Prop:=I6 x.Id/\a6C x.Acc/\(A4 88 E8) x.a5/\I6 x.Seq/\I6 x.d7/\I6 x.a8/\(A4 1 okT) x.c8/\(A4 96 T4) x.i4/\E8 x.c9/\(A4 1 okT) x.a7/\(A4 32 b3x) x.i6/\E8 x.b7/\(A4 88 E8) x.d9
def a0s(x:l8):Prop:=I6 x.a9/\I6 x.c8/\I6 x.To/\I6 x.a8/\I6 x.g7/\E8 x.g9/\(A4 96 T4) x.a7
def c9Y(x:x7):Prop:=c3m x.a0/\(A4 32 b3x) x.i6
def d0o(x:m9):Prop:=I6 x.Node/\c3m x.a0/\I6 x.Code/\I6 x.f0
def U0(x:m5):Prop:=(A4 392 P5) x.a6/\(A4 152 a0s) x.d6/\(A4 40 c9Y) x.d8/\(A4 40 d0o) x.Told
theorem A4.fits{α:Type}{bytes:Nat}{ok:α->Prop}{l:List α}(h:A4 bytes ok l)(hb:0<bytes):s9 l:=by
 obtain ⟨h,_⟩:=h;unfold s9;have:l.length*1<=l.length*bytes:=Nat.mul_le_mul_left _ hb;omega
def a15(x:n5):Prop:=A4 16 okT x.b5/\A4 16 okT x.b6/\True
def a10(x:m4):Prop:=True/\a15 x.b8
theorem A4.imp{α:Type}{bytes:Nat}{ok ok':α->Prop}{l:List α}(h:A4 bytes ok l)(hi:∀x,ok x->ok' x):A4 bytes ok' l:=⟨h.1,fun x hx=>hi x (h.2 x hx)⟩
theorem b6z.f{x:n5}(h:b6z x):a15 x:=⟨h.1.imp fun _ _=>trivial,h.2.1.imp fun _ _=>trivial,trivial⟩
theorem E8.f{x:m4}(h:E8 x):a10 x:=⟨trivial,h.2.f⟩
theorem okEntries.f{l:List m4}(h:A4 88 E8 l):A4 88 a10 l:=h.imp fun _ x=>x.f
def J4(l:List q8)(box:Int):Bool:=l.any (·.i5==box)
def J2(l:List p6)(box:Int):Bool:=l.any (·.i5==box)
theorem c4n{l:List q8}(h:s9 l)(box:Int):b4a l box=some (J4 l box):=by
 unfold b4a;rw [K6 l h (fun x => !(x.i5==box)) true ()]
 ·unfold J4;rw [List.any_eq_not_all_not];cases l.all fun x => !(x.i5==box)<;>rfl
 ·intro k hk;unfold b7s;rw [w9 l k hk,t8 hk];cases hq:l[k].i5==box<;>simp [hq]
 ·unfold b7s;rw [z9];rfl
theorem d6c{α B:Type}{body:Int->Option (j9 Int Int B)}(l:List α)(hl:s9 l)(is:α->Bool)(b:B)(h1:∀(k:Nat) (h:k<l.length),body (k:Int)=some (bif is l[k] then .ret (k:Int) else .nxt (m7 ((k:Int)+1))))(h2:body (l.length:Int)=some (.brk b)):(p7 body 0=some (.brk b)/\l.any is=false)\/∃k:Nat,p7 body 0=some (.ret (k:Int))/\l.any is=true:=by
 have h:=a4Y (body:=body) (fun k=>(k:Int)) l.length (fun k=>match l[k]? with|some x => !is x|none=>true) (fun k=>(k:Int)) b
  (fun k hk _=>by
   have:=h1 k hk;rw [F3 hl hk] at this;rw [this];simp only [f5t hk];cases is l[k]<;>rfl) (fun _=>h2)
 rcases h with ⟨h,hall⟩|⟨k,hk,ho,_,h⟩
 ·left
  refine ⟨h,?_⟩;rw [f6f];intro x hx;obtain ⟨i,hi,rfl⟩:=f6e hx;have:=hall i hi;simpa [f5t hi] using this
 ·right
  refine ⟨k,h,?_⟩;rw [f6P];refine ⟨l[k],f5v hk,?_⟩;simpa [f5t hk] using ho
theorem d8H{l:List p6}(h:s9 l)(box:Int):∃v,a3p l box=some v/\decide (v>=0)=J2 l box:=by
 unfold a3p;rcases d6c (body:=fun s:Int=>a1M l box s) l h (fun x=>x.i5==box) () (by
  intro k hk;unfold a1M;rw [w9 l k hk,t8 hk];cases hq:l[k].i5==box<;>simp [hq]) (by unfold a1M;rw [z9];rfl) with ⟨h1,h2⟩|⟨k,h1,h2⟩
 ·rw [h1];exact ⟨-1,rfl,h2.symm⟩
 ·rw [h1];refine ⟨k,rfl,?_⟩;rw [show J2 l box=true from h2];simp
theorem f2c{x:n5}(h:s9 x.b5)(box:Int):∃v,b3Q x box=some v/\decide (v>=0)=J4 x.b5 box:=by
 unfold b3Q;rcases d6c (body:=fun s:Int=>b1E x box s) x.b5 h (fun x=>x.i5==box) () (by
  intro k hk;unfold b1E;rw [w9 x.b5 k hk,t8 hk];cases hq:x.b5[k].i5==box<;>simp [hq]) (by unfold b1E;rw [z9];rfl) with ⟨h1,h2⟩|⟨k,h1,h2⟩
 ·rw [h1];exact ⟨-1,rfl,h2.symm⟩
 ·rw [h1];refine ⟨k,rfl,?_⟩;rw [show J4 x.b5 box=true from h2];simp
def p9(n lo hi:Int):Bool:=decide (lo<=n/\n<=hi)
theorem N2(n lo hi:Int):D4 n lo hi=some (p9 n lo hi):=by
 unfold D4 p9;by_cases h:n>=lo
 ·have h':lo<=n:=h;simp [h']
 ·have h':¬lo<=n:=h;simp [h']
theorem a6P(n:Int):a5S n=some (p9 n (-1000000) 1000000):=N2 n (-1000000) 1000000
theorem c3y(n:Int):a7u n=some (p9 n 0 3):=by
 rw [<-N2];unfold a7u D4;have:(n<4)=(n<=3):=by apply propext;omega
 simp only [this]
theorem b8e(q:n9):a65 q=some (p9 q.b9 0 2&&p9 q.Seq 1 1000):=by
 unfold a65;simp only [N2,f5s];cases p9 q.b9 0 2<;>rfl
theorem c3H(q:n9):a9Y q=some (p9 q.b9 0 2&&p9 q.Seq 1 1000):=by
 have h3:(q.b9<3)=(q.b9<=2):=by apply propext;omega
 unfold a9Y p9;simp only [h3];by_cases h1:q.b9>=0<;>by_cases h2:q.b9<=2<;>by_cases h4:q.Seq>=1<;>by_cases h5:q.Seq<=1000<;>simp [h1,h2,h4,h5]<;>omega
def X0(l:List q8)(k:Nat):Bool:=match l[k]? with
 | some x=>p9 x.i5 0 3&&(p9 x.j4 0 1000000 && !J4 (l.take k) x.i5)
 | none=>true
def X2(l:List p6)(k:Nat):Bool:=match l[k]? with
 | some x=>p9 x.i5 0 3&&(p9 x.f0 (-1000000) 1000000 && !J2 (l.take k) x.i5)
 | none=>true
theorem c9c{α:Type}{l:List α}(h:s9 l)(k:Nat):s9 (l.take k):=by
 unfold s9 at h ⊢;rw [f5L];omega
theorem d79{r:n5}(h:s9 r.b5):p7 (fun s:Int=>b4c r s) 0=some (bif (f5A r.b5.length).all (X0 r.b5) then .brk () else .ret false):=by
 refine a2H r.b5 h (X0 r.b5) false () ?_ ?_
 ·intro k hk _;unfold b4c X0 t0;rw [w9 _ k hk,t8 hk,f5t hk];have hp:(0:Int)<=(k:Int)/\(k:Int)<=(r.b5.length:Int):=by constructor<;>omega
  simp only [cond_true,f5s,if_pos hp,c3y,f5P,Nat.sub_zero,f6H,c4n (c9c h k)];cases p9 r.b5[k].i5 0 3
  ·rfl
  ·unfold p9;by_cases h1:r.b5[k].j4<0
   ·have h1':¬0<=r.b5[k].j4:=by omega
    simp [h1,h1']
   ·have h1':0<=r.b5[k].j4:=by omega
    by_cases h2:r.b5[k].j4>1000000
    ·have h2':¬r.b5[k].j4<=1000000:=by omega
     simp [h1,h1',h2,h2']
    ·have h2':r.b5[k].j4<=1000000:=by omega
     simp only [h1,h1',h2,h2',decide_false,decide_true,f5x,cond_false,f5H,and_self];cases J4 (r.b5.take k) r.b5[k].i5<;>rfl
 ·unfold b4c;rw [z9];rfl
theorem f2Q{r:n5}(h:s9 r.b6):p7 (fun s:Int=>b2G r s) 0=some (bif (f5A r.b6.length).all (X2 r.b6) then .brk () else .ret false):=by
 refine a2H r.b6 h (X2 r.b6) false () ?_ ?_
 ·intro k hk _;obtain ⟨v,hv,hg⟩:=d8H (c9c h k) r.b6[k].i5;unfold b2G X2 t0;rw [w9 _ k hk,t8 hk,f5t hk];have hp:(0:Int)<=(k:Int)/\(k:Int)<=(r.b6.length:Int):=by constructor<;>omega
  simp only [cond_true,f5s,if_pos hp,c3y,a6P,f5P,Nat.sub_zero,f6H,hv,hg];cases p9 r.b6[k].i5 0 3
  ·rfl
  ·cases p9 r.b6[k].f0 (-1000000) 1000000
   ·rfl
   ·cases J2 (r.b6.take k) r.b6[k].i5<;>rfl
 ·unfold b2G;rw [z9];rfl
def b1m(f:Int->Bool):List Bool:=[f 0,f 1,f 2,f 3]
theorem d1G{f:Int->Bool}{b:Int}(h:p9 b 0 3=true):idx (b1m f) b=some (f b)/\b<4:=by
 have h:0<=b/\b<=3:=by simpa [p9] using h
 have:b=0\/b=1\/b=2\/b=3:=by omega
 rcases this with rfl|rfl|rfl|rfl<;>exact ⟨rfl,by decide⟩
theorem c7g{f g:Int->Bool}{b:Int}(h:p9 b 0 3=true)(hb:g b=true)(hne:∀c,c≠b->g c=f c):(b1m f).set b.toNat true=b1m g:=by
 have h:0<=b/\b<=3:=by simpa [p9] using h
 have:b=0\/b=1\/b=2\/b=3:=by omega
 unfold b1m;rcases this with rfl|rfl|rfl|rfl
 all_goals
  rw [show [g 0,g 1,g 2,g 3]=_ from rfl];first
   | rw [hb,hne 1 (by decide),hne 2 (by decide),hne 3 (by decide)];rfl
   | rw [hb,hne 0 (by decide),hne 2 (by decide),hne 3 (by decide)];rfl
   | rw [hb,hne 0 (by decide),hne 1 (by decide),hne 3 (by decide)];rfl
   | rw [hb,hne 0 (by decide),hne 1 (by decide),hne 2 (by decide)];rfl
theorem d3g{l:List q8}{k:Nat}(hk:k<l.length)(b:Int):J4 (l.take (k+1)) b=(J4 (l.take k) b||(l[k].i5==b)):=by
 unfold J4;rw [f5T hk,List.any_append];simp
theorem c9j{l:List p6}{k:Nat}(hk:k<l.length)(b:Int):J2 (l.take (k+1)) b=(J2 (l.take k) b||(l[k].i5==b)):=by
 unfold J2;rw [f5T hk,List.any_append];simp
theorem e9k{l:List q8}{k:Nat}(hk:k<l.length)(c:Int)(hc:c≠l[k].i5):J4 (l.take (k+1)) c=J4 (l.take k) c:=by
 have:(l[k].i5==c)=false:=by simpa using fun h=>hc h.symm
 rw [d3g hk,this,Bool.or_false]
theorem f2S{l:List p6}{k:Nat}(hk:k<l.length)(c:Int)(hc:c≠l[k].i5):J2 (l.take (k+1)) c=J2 (l.take k) c:=by
 have:(l[k].i5==c)=false:=by simpa using fun h=>hc h.symm
 rw [c9j hk,this,Bool.or_false]
theorem d2z{R S B:Type}{x:Option (l9 R B)}{n:Nat}{ok:Nat->Bool}{r:R}{b:B}(h:(x=some (.brk b)/\∀j,j<n->ok j=true)\/∃k,k<n/\ok k=false/\(∀j,j<k->ok j=true)/\x=some (.ret r)):x=some (bif (f5A n).all ok then .brk b else .ret r):=by
 rcases h with ⟨h,hall⟩|⟨k,hk,ho,_,h⟩
 ·have:(f5A n).all ok=true:=by
   rw [List.all_eq_true];intro x hx;exact hall x (by simpa using hx)
  rw [this];exact h
 ·have:(f5A n).all ok=false:=by
   rw [f7a];exact ⟨k,by simpa using hk,by simp [ho]⟩
  rw [this];exact h
theorem f5g{r:n5}(h:s9 r.b5):p7 (fun s:List Bool×Int=>b1k r s.1 s.2) (f5u 4 false,0)=some (bif (f5A r.b5.length).all (X0 r.b5) then .brk () else .ret false):=by
 refine d2z (S:=List Bool×Int) (a4Y (body:=fun s:List Bool×Int=>b1k r s.1 s.2) (fun k=>(b1m (J4 (r.b5.take k)),(k:Int))) r.b5.length (X0 r.b5) (fun _=>false) () ?_ ?_)
 ·intro k hk _;simp only;unfold b1k X0 t0;rw [w9 _ k hk,t8 hk,f5t hk];simp only [cond_true,f5s,N2];cases hb:p9 r.b5[k].i5 0 3
  ·rfl
  ·obtain ⟨h1,h2⟩:=d1G (f:=J4 (r.b5.take k)) hb;rw [h1];simp only [if_pos h2,f5x,cond_false,f5s,f5H];cases hs:J4 (r.b5.take k) r.b5[k].i5
   ·cases p9 r.b5[k].j4 0 1000000
    ·rfl
    ·simp only [f5x,cond_false,f5V,f5H,cond_true];rw [c7g (f:=J4 (r.b5.take k)) (g:=J4 (r.b5.take (k+1))) hb (by rw [d3g hk];simp) (e9k hk),F3 h hk]
   ·cases p9 r.b5[k].j4 0 1000000<;>rfl
 ·intro _;simp only;unfold b1k;rw [z9];rfl
theorem d8u{r:n5}(h:s9 r.b6):p7 (fun s:List Bool×Int=>a9Z r s.1 s.2) (f5u 4 false,0)=some (bif (f5A r.b6.length).all (X2 r.b6) then .brk () else .ret false):=by
 refine d2z (S:=List Bool×Int) (a4Y (body:=fun s:List Bool×Int=>a9Z r s.1 s.2) (fun k=>(b1m (J2 (r.b6.take k)),(k:Int))) r.b6.length (X2 r.b6) (fun _=>false) () ?_ ?_)
 ·intro k hk _;simp only;unfold a9Z X2 t0;rw [w9 _ k hk,t8 hk,f5t hk];simp only [cond_true,f5s,N2];cases hb:p9 r.b6[k].i5 0 3
  ·rfl
  ·obtain ⟨h1,h2⟩:=d1G (f:=J2 (r.b6.take k)) hb;rw [h1];simp only [if_pos h2,f5x,cond_false,f5s,f5H];cases hs:J2 (r.b6.take k) r.b6[k].i5
   ·cases p9 r.b6[k].f0 (-1000000) 1000000
    ·rfl
    ·simp only [f5x,cond_false,f5V,f5H,cond_true];rw [c7g (f:=J2 (r.b6.take k)) (g:=J2 (r.b6.take (k+1))) hb (by rw [c9j hk];simp) (f2S hk),F3 h hk]
   ·cases p9 r.b6[k].f0 (-1000000) 1000000<;>rfl
 ·intro _;simp only;unfold a9Z;rw [z9];rfl
def U9(r:n5):Bool:=p9 r.Code 0 3&&(p9 r.f0 (-1000000) 1000000&&((r.Code==0||(r.f0==0&&r.b6.length==0))&&((r.Code != 3||r.b5.length==0)&&((f5A r.b5.length).all (X0 r.b5)&&(f5A r.b6.length).all (X2 r.b6)))))
theorem e5X{r:n5}(h:a15 r):b88 r=some ((f5A r.b5.length).all (X0 r.b5)&&(f5A r.b6.length).all (X2 r.b6)):=by
 unfold b88 c2q;rw [d79 (h.1.fits (by decide)),f2Q (h.2.1.fits (by decide))];cases (f5A r.b5.length).all (X0 r.b5)<;>cases (f5A r.b6.length).all (X2 r.b6)<;>rfl
theorem e7D{r:n5}(h:a15 r):b6w r=some ((f5A r.b5.length).all (X0 r.b5)&&(f5A r.b6.length).all (X2 r.b6)):=by
 unfold b6w c5a;rw [f5g (h.1.fits (by decide)),d8u (h.2.1.fits (by decide))];cases (f5A r.b5.length).all (X0 r.b5)<;>cases (f5A r.b6.length).all (X2 r.b6)<;>rfl
theorem d6w{α:Type}(l:List α):decide ((l.length:Int)>0) = !(l.length==0):=by
 cases l<;>simp
theorem c7R{r:n5}(h:a15 r):b3O r=some (U9 r):=by
 unfold b3O U9;rw [e5X h];simp only [a6P,d6w,f5s,l9.go];generalize ((f5A r.b5.length).all (X0 r.b5)&&(f5A r.b6.length).all (X2 r.b6))=z;generalize (r.b6.length==0)=a;generalize (r.b5.length==0)=b;generalize p9 r.f0 (-1000000) 1000000=c;have h3:p9 r.Code 0 3=(!decide (r.Code<0) && !decide (r.Code>3)):=by
  unfold p9;by_cases h1:r.Code<0<;>by_cases h2:r.Code>3<;>simp [h1,h2]<;>omega
 rw [h3];unfold bne;cases decide (r.Code<0)<;>cases decide (r.Code>3)<;>cases c<;>cases (r.Code==0)<;>cases (r.f0==0)<;>cases a<;>cases (r.Code==3)<;>cases b<;>rfl
theorem c09{r:n5}(h:a15 r):b0g r=some (U9 r):=by
 unfold b0g U9;rw [e7D h];simp only [N2,d6w,f5s,l9.go];generalize ((f5A r.b5.length).all (X0 r.b5)&&(f5A r.b6.length).all (X2 r.b6))=z;generalize (r.b6.length==0)=a;generalize (r.b5.length==0)=b;generalize p9 r.f0 (-1000000) 1000000=c;generalize p9 r.Code 0 3=d;unfold bne;cases d<;>cases c<;>cases (r.Code==0)<;>cases (r.f0==0)<;>cases a<;>cases (r.Code==3)<;>cases b<;>rfl
def a2j(a b:List q8)(k:Nat):Bool:=match a[k]?,b[k]? with
 | some x,some y=>([x.i5,x.j4]:List Int)==[y.i5,y.j4]
 | _,_=>true
def a2g(a b:List p6)(k:Nat):Bool:=match a[k]?,b[k]? with
 | some x,some y=>([x.i5,x.f0]:List Int)==[y.i5,y.f0]
 | _,_=>true
theorem e4B{a b:n5}(h:s9 a.b5)(hl:a.b5.length=b.b5.length):p7 (fun s:Int=>b4E a b s) 0=some (bif (f5A a.b5.length).all (a2j a.b5 b.b5) then .brk () else .ret false):=by
 refine a2H a.b5 h (a2j a.b5 b.b5) false () ?_ ?_
 ·intro k hk _;unfold b4E a2j;rw [w9 _ k hk,t8 hk,t8 (hl▸hk),f5t hk,f5t (hl▸hk)];simp only [cond_true,f5s];cases ([a.b5[k].i5,a.b5[k].j4]:List Int)==[(b.b5[k]'(hl▸hk)).i5,(b.b5[k]'(hl▸hk)).j4]<;>rfl
 ·unfold b4E;rw [z9];rfl
theorem e9M{a b:n5}(h:s9 a.b6)(hl:a.b6.length=b.b6.length):p7 (fun s:Int=>b3v a b s) 0=some (bif (f5A a.b6.length).all (a2g a.b6 b.b6) then .brk () else .ret false):=by
 refine a2H a.b6 h (a2g a.b6 b.b6) false () ?_ ?_
 ·intro k hk _;unfold b3v a2g;rw [w9 _ k hk,t8 hk,t8 (hl▸hk),f5t hk,f5t (hl▸hk)];simp only [cond_true,f5s];cases ([a.b6[k].i5,a.b6[k].f0]:List Int)==[(b.b6[k]'(hl▸hk)).i5,(b.b6[k]'(hl▸hk)).f0]<;>rfl
 ·unfold b3v;rw [z9];rfl
theorem e7k{a b:List q8}(h:s9 a):b6H a b=some (a.length==b.length&&(f5A a.length).all (a2j a b)):=by
 unfold b6H;by_cases hl:a.length=b.length
 ·rw [a2H a h (a2j a b) false ()]
  ·rw [hl];simp only [bne_self_eq_false,cond_false,beq_self_eq_true,f5H];cases (f5A b.length).all (a2j a b)<;>rfl
  ·intro k hk _;unfold b5w a2j;rw [w9 _ k hk,t8 hk,t8 (hl▸hk),f5t hk,f5t (hl▸hk)];simp only [cond_true,f5s];cases ([a[k].i5,a[k].j4]:List Int)==[(b[k]'(hl▸hk)).i5,(b[k]'(hl▸hk)).j4]<;>rfl
  ·unfold b5w;rw [z9];rfl
 ·have h1:((a.length:Int) != (b.length:Int))=true:=by simp;omega
  have h2:(a.length==b.length)=false:=by simpa using hl
  rw [h1,h2];rfl
theorem e7l{a b:List p6}(h:s9 a):b5i a b=some (a.length==b.length&&(f5A a.length).all (a2g a b)):=by
 unfold b5i;by_cases hl:a.length=b.length
 ·rw [a2H a h (a2g a b) false ()]
  ·rw [hl];simp only [bne_self_eq_false,cond_false,beq_self_eq_true,f5H];cases (f5A b.length).all (a2g a b)<;>rfl
  ·intro k hk _;unfold b92 a2g;rw [w9 _ k hk,t8 hk,t8 (hl▸hk),f5t hk,f5t (hl▸hk)];simp only [cond_true,f5s];cases ([a[k].i5,a[k].f0]:List Int)==[(b[k]'(hl▸hk)).i5,(b[k]'(hl▸hk)).f0]<;>rfl
  ·unfold b92;rw [z9];rfl
 ·have h1:((a.length:Int) != (b.length:Int))=true:=by simp;omega
  have h2:(a.length==b.length)=false:=by simpa using hl
  rw [h1,h2];rfl
def a3W(a b:n5):Bool:=(a.b5.length==b.b5.length&&(f5A a.b5.length).all (a2j a.b5 b.b5))&&((a.b6.length==b.b6.length&&(f5A a.b6.length).all (a2g a.b6 b.b6))&&(a.f0==b.f0&&a.Code==b.Code))
theorem d5R{α β:Type}(a:List α)(b:List β):((a.length:Int) != (b.length:Int)) = !(a.length==b.length):=by
 unfold bne;congr 1
 by_cases h:a.length=b.length
 ·simp [h]
 ·have h1:((a.length:Int)==(b.length:Int))=false:=by simp;omega
  have h2:(a.length==b.length)=false:=by simpa using h
  rw [h1,h2]
theorem c1N{a b:n5}(h:a15 a):a9T a b=some (a3W a b):=by
 unfold a9T a3W;rw [d5R,d5R];cases h1:a.b5.length==b.b5.length
 ·unfold bne;cases a.f0==b.f0<;>cases a.Code==b.Code<;>rfl
 cases h2:a.b6.length==b.b6.length
 ·unfold bne;cases a.f0==b.f0<;>cases a.Code==b.Code<;>simp
 unfold c2N;rw [e4B (h.1.fits (by decide)) (by simpa using h1),e9M (h.2.1.fits (by decide)) (by simpa using h2)];unfold bne;cases (f5A a.b5.length).all (a2j a.b5 b.b5)<;>cases (f5A a.b6.length).all (a2g a.b6 b.b6)<;>cases a.f0==b.f0<;>cases a.Code==b.Code<;>rfl
theorem c4b{a b:n5}(h:a15 a):b9z a b=some (a3W a b):=by
 unfold b9z a3W;rw [e7k (h.1.fits (by decide)),e7l (h.2.1.fits (by decide))];simp only [f5s];generalize (a.b5.length==b.b5.length&&(f5A a.b5.length).all (a2j a.b5 b.b5))=x;generalize (a.b6.length==b.b6.length&&(f5A a.b6.length).all (a2g a.b6 b.b6))=y;cases x<;>cases y<;>cases a.f0==b.f0<;>rfl
def z5(e:m4):Bool:=bif e.i7 then (([e.a0.b9,e.a0.Seq]:List Int)==[0,0])&&a3W e.b8 (n5.mk [] [] 0 0) else (p9 e.a0.b9 0 2&&p9 e.a0.Seq 1 1000)&&(U9 e.b8&&e.b8.Code != 3)
theorem a3X{e:m4}(h:a10 e):a1a e=some (z5 e):=by
 unfold a1a z5;simp only [c1N h.2,c3H,c7R h.2,f5s];cases e.i7
 ·simp only [cond_false];cases p9 e.a0.b9 0 2&&p9 e.a0.Seq 1 1000<;>cases U9 e.b8<;>rfl
 ·simp only [cond_true];cases ([e.a0.b9,e.a0.Seq]:List Int)==[0,0]<;>rfl
theorem a6T{e:m4}(h:a10 e):a1Y e=some (z5 e):=by
 unfold a1Y V9 z5;simp only [c4b h.2,b8e,c09 h.2,f5s];cases e.i7
 ·simp only [cond_false];cases p9 e.a0.b9 0 2&&p9 e.a0.Seq 1 1000<;>cases U9 e.b8<;>rfl
 ·simp only [cond_true,beq_self_eq_true];cases ([e.a0.b9,e.a0.Seq]:List Int)==[0,0]<;>rfl
def G6(l:List m4):Bool:=decide (l.length<=40)&&l.all z5
theorem c2v{α:Type}(l:List α)(n:Nat):decide ((l.length:Int)<=(n:Int))=decide (l.length<=n):=by
 by_cases h:l.length<=n
 ·have:(l.length:Int)<=(n:Int):=by omega
  simp [h,this]
 ·have:¬(l.length:Int)<=(n:Int):=by omega
  simp [h,this]
theorem b85{α:Type}(l:List α)(n:Nat):decide ((l.length:Int)>(n:Int)) = !decide (l.length<=n):=by
 by_cases h:l.length<=n
 ·have:¬(l.length:Int)>(n:Int):=by omega
  simp [h,this]
 ·have:(l.length:Int)>(n:Int):=by omega
  simp [h,this]
theorem e0q{l:List m4}(h:A4 88 a10 l):b5r l=some (G6 l):=by
 unfold b5r G6;rw [show (40:Int)=((40:Nat):Int) from rfl,b85,K6 l (h.fits (by decide)) z5 false ()]
 ·cases decide (l.length<=40)
  ·rfl
  ·cases l.all z5<;>rfl
 ·intro k hk;unfold b75;rw [w9 _ k hk,t8 hk];simp only [cond_true,f5s,a3X (h.2 _ (f5v hk))];cases z5 l[k]<;>rfl
 ·unfold b75;rw [z9];rfl
theorem c5h{l:List m4}(h:A4 88 a10 l):b0U l=some (G6 l):=by
 unfold b0U G6 c0Y;rw [show (40:Int)=((40:Nat):Int) from rfl,c2v,K6 l (h.fits (by decide)) z5 false ()]
 ·cases l.all z5<;>cases decide (l.length<=40)<;>rfl
 ·intro k hk;unfold b96;rw [w9 _ k hk,t8 hk];simp only [cond_true,f5s,a6T (h.2 _ (f5v hk))];cases z5 l[k]<;>rfl
 ·unfold b96;rw [z9];rfl
def a27(b:n7):Bool:=p9 b.j4 0 1000000&&p9 b.f0 (-1000000) 1000000
def C8(l:List n7):Bool:=l.length==4&&l.all a27
theorem b9p{α:Type}(l:List α)(n:Nat):((l.length:Int) != (n:Int)) = !(l.length==n):=by
 unfold bne;congr 1
 by_cases h:l.length=n
 ·simp [h]
 ·have h1:((l.length:Int)==(n:Int))=false:=by simp;omega
  have h2:(l.length==n)=false:=by simpa using h
  rw [h1,h2]
theorem e0i{α:Type}(l:List α)(n:Nat):((l.length:Int)==(n:Int))=(l.length==n):=by
 have:=b9p l n;unfold bne at this;simpa using this
theorem c3O{l:List n7}(h:s9 l):b3D l=some (C8 l):=by
 unfold b3D C8;rw [show (4:Int)=((4:Nat):Int) from rfl,b9p,K6 l h a27 false ()]
 ·cases l.length==4
  ·rfl
  ·cases l.all a27<;>rfl
 ·intro k hk;unfold b7w a27;rw [w9 _ k hk,t8 hk];simp only [cond_true,f5s,a6P];cases hq:p9 l[k].j4 0 1000000 with
  | false =>
   by_cases h1:l[k].j4<0
   ·simp [h1]
   ·have:l[k].j4>1000000:=by
     unfold p9 at hq;simp at hq;omega
    simp [h1,this]
  | true =>
   unfold p9 at hq;simp at hq;have h1:¬l[k].j4<0:=by omega
   have h2:¬l[k].j4>1000000:=by omega
   simp only [h1,h2,decide_false,cond_false,f5H];cases p9 l[k].f0 (-1000000) 1000000<;>rfl
 ·unfold b7w;rw [z9];rfl
theorem b2M{l:List n7}(h:s9 l):a53 l=some (C8 l):=by
 unfold a53 C8 c5G;rw [show (4:Int)=((4:Nat):Int) from rfl,e0i,K6 l h a27 false ()]
 ·cases l.length==4<;>cases l.all a27<;>rfl
 ·intro k hk;unfold b72 a27;rw [w9 _ k hk,t8 hk];simp only [cond_true,f5s,N2];cases p9 l[k].j4 0 1000000<;>cases p9 l[k].f0 (-1000000) 1000000<;>rfl
 ·unfold b72;rw [z9];rfl
theorem d5e{l:List q8}(h:(f5A l.length).all (X0 l)=true):∀x∈l,0<=x.i5/\x.i5<=3/\0<=x.j4/\x.j4<=1000000:=by
 intro x hx;obtain ⟨i,hi,rfl⟩:=f6e hx;have:=List.all_eq_true.1 h i (by simpa using hi);unfold X0 at this;rw [f5t hi] at this;simp [p9] at this;omega
theorem c9y{l:List p6}(h:(f5A l.length).all (X2 l)=true):∀x∈l,0<=x.i5/\x.i5<=3/\-1000000<=x.f0/\x.f0<=1000000:=by
 intro x hx;obtain ⟨i,hi,rfl⟩:=f6e hx;have:=List.all_eq_true.1 h i (by simpa using hi);unfold X2 at this;rw [f5t hi] at this;simp [p9] at this;omega
theorem a3d{r:n5}(h:U9 r=true):(0<=r.Code/\r.Code<=3)/\(-1000000<=r.f0/\r.f0<=1000000)/\(r.Code=0\/(r.f0=0/\r.b6=[]))/\(∀x∈r.b5,0<=x.i5/\x.i5<=3/\0<=x.j4/\x.j4<=1000000)/\∀x∈r.b6,0<=x.i5/\x.i5<=3/\-1000000<=x.f0/\x.f0<=1000000:=by
 unfold U9 at h;simp only [f5w,Bool.or_eq_true] at h;obtain ⟨h1,h2,h3,_,h4,h5⟩:=h;refine ⟨by simpa [p9] using h1,by simpa [p9] using h2,by simpa using h3,d5e h4,c9y h5⟩
def a0W(l:List n7)(r:n5):Bool:=r.b5.all fun x=>match l[x.i5.toNat]? with
 | some b=>b.j4==x.j4
 | none=>true
theorem a7m{l:List n7}(h:C8 l=true):l.length=4:=by
 unfold C8 at h;simp only [f5w,beq_iff_eq] at h;exact h.1
theorem a3D{l:List n7}(h:C8 l=true):s9 l:=by
 unfold s9;rw [a7m h];decide
theorem a5v{l:List n7}(h:C8 l=true){b:Int}(hb:0<=b/\b<=3):∃x,idx l b=some x/\l[b.toNat]?=some x/\a27 x=true:=by
 have hl:=a7m h;have hlt:b.toNat<l.length:=by omega
 refine ⟨l[b.toNat],?_,f5t hlt,?_⟩
 ·unfold idx;rw [if_pos hb.1,f5t hlt]
 ·unfold C8 at h;simp only [f5w] at h;exact List.all_eq_true.1 h.2 _ (f5v hlt)
theorem f3K{l:List n7}{r:n5}(hl:s9 l)(hr:a15 r):b8h l r=some (C8 l&&(U9 r&&a0W l r)):=by
 unfold b8h;rw [c3O hl,c7R hr];simp only [f5s];cases h1:C8 l
 ·rfl
 cases h2:U9 r
 ·rfl
 have hp:=a3d h2;simp only [f5x,cond_false,f5H];rw [K6 r.b5 (hr.1.fits (by decide)) (fun x=>match l[x.i5.toNat]? with|some b=>b.j4==x.j4|none=>true) false ()]
 ·unfold a0W;cases r.b5.all _<;>rfl
 ·intro k hk;have hm:=hp.2.2.2.1 _ (f5v hk);obtain ⟨b,hb1,hb2,_⟩:=a5v h1 (b:=r.b5[k].i5) ⟨hm.1,hm.2.1⟩;unfold b6a;rw [w9 _ k hk,t8 hk];simp only [cond_true,f5s,hb1,hb2];unfold bne;cases b.j4==r.b5[k].j4<;>rfl
 ·unfold b6a;rw [z9];rfl
theorem d89{l:List n7}{r:n5}(hl:s9 l)(hr:a15 r):b61 l r=some (C8 l&&(U9 r&&a0W l r)):=by
 unfold b61;rw [b2M hl,c09 hr];simp only [f5s];cases h1:C8 l
 ·rfl
 cases h2:U9 r
 ·rfl
 have hp:=a3d h2;simp only [f5x,cond_false,f5H];rw [K6 r.b5 (hr.1.fits (by decide)) (fun x=>match l[x.i5.toNat]? with|some b=>b.j4==x.j4|none=>true) false ()]
 ·unfold a0W;cases r.b5.all _<;>rfl
 ·intro k hk;have hm:=hp.2.2.2.1 _ (f5v hk);obtain ⟨b,hb1,hb2,_⟩:=a5v h1 (b:=r.b5[k].i5) ⟨hm.1,hm.2.1⟩;unfold b54;rw [w9 _ k hk,t8 hk];simp only [cond_true,f5s,hb1,hb2];unfold bne;cases b.j4==r.b5[k].j4<;>rfl
 ·unfold b54;rw [z9];rfl
def a0k(l:List n7)(p:p6):List n7:=match l[p.i5.toNat]? with
 | some b=>l.set p.i5.toNat ⟨if b.j4+1<1000000 then b.j4+1 else 1000000,p.f0⟩
 | none=>l
def a0F(l:List n7)(ps:List p6):List n7:=ps.foldl a0k l
def a0h(x:p6):Prop:=0<=x.i5/\x.i5<=3/\-1000000<=x.f0/\x.f0<=1000000
theorem b8w{l:List n7}{p:p6}{b:n7}(h:l[p.i5.toNat]?=some b):a0k l p=l.set p.i5.toNat ⟨if b.j4+1<1000000 then b.j4+1 else 1000000,p.f0⟩:=by
 unfold a0k;rw [h]
theorem b2V{b:n7}:a27 b=true↔(0<=b.j4/\b.j4<=1000000)/\(-1000000<=b.f0/\b.f0<=1000000):=by
 unfold a27 p9;simp
theorem f1t{l:List n7}:C8 l=true↔l.length=4/\∀b∈l,a27 b=true:=by
 unfold C8;simp
theorem d5f{l:List n7}{p:p6}(h:C8 l=true)(hp:a0h p):C8 (a0k l p)=true:=by
 obtain ⟨b,_,h2,h3⟩:=a5v h (b:=p.i5) ⟨hp.1,hp.2.1⟩;rw [f1t] at h ⊢;unfold a0k;rw [h2];refine ⟨by simpa using h.1,fun x hx => ?_⟩;rcases List.mem_or_eq_of_mem_set hx with hx|rfl
 ·exact h.2 x hx
 ·rw [b2V] at h3 ⊢;refine ⟨?_,hp.2.2⟩;simp only;split<;>omega
theorem b8v:∀{ps:List p6} {l:List n7},C8 l=true->(∀p∈ps,a0h p)->C8 (a0F l ps)=true
 | [],l,h,_=>h
 | p::ps,l,h,hp=>b8v (ps:=ps) (d5f h (hp p (by simp))) fun x hx=>hp x (by simp [hx])
theorem d2L{l:List n7}{ps:List p6}(h:C8 l=true)(hp:∀p∈ps,a0h p)(k:Nat):C8 ((ps.take k).foldl a0k l)=true :=
 b8v h fun p hq=>hp p (f6k hq)
theorem f0P{l:List n7}{r:n5}(hl:C8 l=true)(hr:a15 r)(hp:∀p∈r.b6,a0h p):b9y l r=some (a0F l r.b6):=by
 unfold b9y;rw [d5k r.b6 (hr.2.1.fits (by decide)) a0k l id]
 ·rfl
 ·intro k hk;have hq:=hp _ (f5v hk);obtain ⟨b,h1,h2,h3⟩:=a5v (d2L hl hp k) (b:=r.b6[k].i5) ⟨hq.1,hq.2.1⟩;rw [b2V] at h3;unfold b8c;rw [w9 _ k hk,t8 hk];simp only [cond_true,f5s,h1];unfold c0s;rw [b8w h2,C2 (n:=b.j4+1) (by omega) (by omega)];by_cases hv:b.j4+1<1000000
  ·have:¬(1000000:Int)<b.j4+1:=by omega
   simp [hv,this]
  ·by_cases hv2:(1000000:Int)<b.j4+1
   ·simp [hv,hv2]
   ·have:b.j4+1=1000000:=by omega
    simp [hv,hv2,this]
 ·unfold b8c;rw [z9];rfl
theorem c0r{l:List n7}(h:l.length*16<=140737488351232):a8t l=some l:=by
 unfold a8t t0;cases l with
 | nil=>rfl
 | cons x l =>
  have h1:(((x::l).length:Int)==0)=false:=by simp;omega
  rw [h1,cond_false,if_pos (by constructor<;>omega),if_pos (by simp)]
theorem d3T{l:List s5}(h:l.length*32<=140737488351232):a6K l=some l:=by
 unfold a6K t0;cases l with
 | nil=>rfl
 | cons x l =>
  have h1:(((x::l).length:Int)==0)=false:=by simp;omega
  rw [h1,cond_false,if_pos (by constructor<;>omega),if_pos (by simp)]
theorem c9Z{l:List n7}{r:n5}(hl:C8 l=true)(hr:a15 r)(hok:U9 r=true):b4t l r=some (a0F l r.b6):=by
 have hp:∀p∈r.b6,a0h p:=(a3d hok).2.2.2.2
 unfold b4t;rw [b2M (a3D hl),c09 hr,hl,hok];simp only [f5s,f5x,cond_false];rw [c0r (by rw [a7m hl];decide),f5s,d5k r.b6 (hr.2.1.fits (by decide)) a0k l id]
 ·rfl
 ·intro k hk;have hq:=hp _ (f5v hk);obtain ⟨b,h1,h2,h3⟩:=a5v (d2L hl hp k) (b:=r.b6[k].i5) ⟨hq.1,hq.2.1⟩;rw [b2V] at h3;unfold b9r;rw [w9 _ k hk,t8 hk];simp only [cond_true,f5s,h1];rw [b8w h2,C2 (n:=b.j4+1) (by omega) (by omega)]
 ·unfold b9r;rw [z9];rfl
def a74(d:s5):Bool:=(p9 d.a0.b9 0 2&&p9 d.a0.Seq 1 1000)&&(p9 d.Code 0 2&&(p9 d.f0 (-1000000) 1000000&&(d.Code==0||d.f0==0)))
def a3H(l:List s5):Prop:=l.Pairwise fun a b=>a.a0.b9<b.a0.b9
def L3(d:s5)(st:List s5×Bool)(x:s5):List s5×Bool :=
 bif !st.2&&decide (x.a0.b9>=d.a0.b9) then (bif x.a0.b9 != d.a0.b9 then (st.1++[d])++[x] else st.1++[d],true) else (bif x.a0.b9 != d.a0.b9 then st.1++[x] else st.1,st.2)
def a0l(l:List s5)(d:s5):List s5 :=
 let r:=l.foldl (L3 d) ([],false);bif !r.2 then r.1++[d] else r.1
theorem e3g(d:s5)(st:List s5×Bool)(x:s5):(L3 d st x).1.length<=st.1.length+2:=by
 unfold L3;cases !st.2&&decide (x.a0.b9>=d.a0.b9)<;>cases x.a0.b9 != d.a0.b9<;>simp
theorem c2n(d:s5):∀(l:List s5) (st:List s5×Bool),(l.foldl (L3 d) st).1.length<=st.1.length+2*l.length
 | [],st=>by simp
 | x::l,st=>by
  have h1:=c2n d l (L3 d st x);have h2:=e3g d st x;simp only [f7o,f6y];omega
theorem c1l(d:s5):∀{l:List s5} {o:List s5},(∀x∈l,d.a0.b9<x.a0.b9)->l.foldl (L3 d) (o,true)=(o++l,true)
 | [],o,_=>by simp
 | x::l,o,h=>by
  have hx:=h x (by simp);have hne:(x.a0.b9 != d.a0.b9)=true:=by simp;omega
  rw [f7o,show L3 d (o,true) x=(o++[x],true) from by unfold L3;simp [hne],c1l d fun y hy=>h y (by simp [hy])];simp
theorem c8P(d:s5):∀{l o:List s5},a3H l->
  (let r:=l.foldl (L3 d) (o,false);bif !r.2 then r.1++[d] else r.1)=o++(l.filter (fun x=>decide (x.a0.b9<d.a0.b9))++d::l.filter (fun x=>decide (d.a0.b9<x.a0.b9)))
 | [],o,_=>by simp
 | x::l,o,h=>by
  obtain ⟨h1,h2⟩:=f6K.1 h;rw [f7o];by_cases hlt:x.a0.b9<d.a0.b9
  ·have hge:¬x.a0.b9>=d.a0.b9:=by omega
   have hne:(x.a0.b9 != d.a0.b9)=true:=by simp;omega
   have hngt:¬d.a0.b9<x.a0.b9:=by omega
   rw [show L3 d (o,false) x=(o++[x],false) from by unfold L3;simp [hge,hne],c8P d h2];simp [hlt,hngt]
  ·have hge:x.a0.b9>=d.a0.b9:=by omega
   have hall:∀y∈l,d.a0.b9<y.a0.b9:=fun y hy=>by have:=h1 y hy;omega
   have hf1:l.filter (fun x=>decide (x.a0.b9<d.a0.b9))=[]:=by
    rw [List.filter_eq_nil_iff];intro y hy;have:=hall y hy;simp;omega
   have hf2:l.filter (fun x=>decide (d.a0.b9<x.a0.b9))=l:=by
    rw [List.filter_eq_self];intro y hy;simpa using hall y hy
   by_cases heq:x.a0.b9=d.a0.b9
   ·have hngt:¬d.a0.b9<x.a0.b9:=by omega
    rw [show L3 d (o,false) x=(o++[d],true) from by unfold L3;simp [hge,heq],c1l d hall];simp [hlt,hngt,hf1,hf2]
   ·have hgt:d.a0.b9<x.a0.b9:=by omega
    have hne:(x.a0.b9 != d.a0.b9)=true:=by simpa using heq
    rw [show L3 d (o,false) x=((o++[d])++[x],true) from by unfold L3;simp [hge,hne],c1l d hall];simp [hlt,hgt,hf1,hf2]
theorem b7u{l:List s5}(d:s5)(h:a3H l):a0l l d=l.filter (fun x=>decide (x.a0.b9<d.a0.b9))++d::l.filter (fun x=>decide (d.a0.b9<x.a0.b9)):=by
 have:=c8P d (o:=[]) h;simpa [a0l] using this
theorem e6x{l:List s5}(d:s5)(h:a3H l):a3H (a0l l d):=by
 rw [b7u d h];unfold a3H;rw [f7e,f6K];refine ⟨h.filter _,⟨fun y hy=>by simpa using (List.mem_filter.1 hy).2,h.filter _⟩,fun a ha b hb => ?_⟩;have h1:a.a0.b9<d.a0.b9:=by simpa using (List.mem_filter.1 ha).2
 rcases f5B.1 hb with rfl|hb
 ·exact h1
 ·have h2:d.a0.b9<b.a0.b9:=by simpa using (List.mem_filter.1 hb).2
  omega
theorem f4k{l:List s5}{d x:s5}(h:a3H l)(hx:x∈a0l l d):x∈l\/x=d:=by
 rw [b7u d h] at hx;rcases List.mem_append.1 hx with hx|hx
 ·exact .inl (List.mem_filter.1 hx).1
 ·rcases f5B.1 hx with rfl|hx
  ·exact .inr rfl
  ·exact .inl (List.mem_filter.1 hx).1
theorem d0P{l:List s5}(d:s5)(h:a3H l):(a0l l d).length<=l.length+1:=by
 rw [b7u d h];have:(l.filter fun x=>decide (x.a0.b9<d.a0.b9)).length+(l.filter fun x=>decide (d.a0.b9<x.a0.b9)).length<=l.length:=by
  clear h;induction l with
  | nil=>simp
  | cons x l ih =>
   by_cases h1:x.a0.b9<d.a0.b9
   ·have h2:¬d.a0.b9<x.a0.b9:=by omega
    simp [h1,h2];omega
   ·by_cases h2:d.a0.b9<x.a0.b9
    ·simp [h1,h2];omega
    ·simp [h1,h2];omega
 simp only [f5D,f6y];omega
structure X3(s:u6)(k:Nat):Prop where
 at_:s.At=(k:Int)
 le:k<=40
 boxes:C8 s.g8=true
 sorted:a3H s.i9
 dones:∀d∈s.i9,a74 d=true
 len:s.i9.length<=k
theorem X3.fits{s:u6}{k:Nat}(h:X3 s k):s9 s.i9:=by
 have:=h.len;have:=h.le;unfold s9;omega
theorem c9Q{α:Type}{o:List α}{d:α}(h:o.length<=80):((o++[d]).length+1)*32<=140737488355328:=by
 rw [show (o++[d]).length=o.length+1 from by simp];omega
theorem e5T{l:List s5}{d:s5}(hl:l.length<=40):b5D l d=some (a0l l d):=by
 have hf:s9 l:=by unfold s9;omega
 have hlen:∀k,k<=l.length->((l.take k).foldl (L3 d) ([],false)).1.length<=80:=by
  intro k hk;have:=c2n d (l.take k) ([],false);simp only [f6Z,f5L] at this;omega
 unfold b5D;have hloop:=W7 (body:=fun s:(List s5)×Bool×Int=>b1L l d s.1 s.2.1 s.2.2) (fun k=>(((l.take k).foldl (L3 d) ([],false)).1,((l.take k).foldl (L3 d) ([],false)).2,(k:Int))) l.length (by
  intro k hk;have hb:=hlen k (by omega);rw [f5T hk,List.foldl_append];generalize (l.take k).foldl (L3 d) ([],false)=st at hb;obtain ⟨o,i⟩:=st;simp only at hb;simp only [f7o,f7J];unfold b1L c4x c5c L3;rw [w9 _ k hk,t8 hk,F3 hf hk];have n1:(o.length+1)*32<=140737488355328:=by omega
  have n2:((o++[d]).length+1)*32<=140737488355328:=c9Q (by omega);cases i<;>cases h1:decide (l[k].a0.b9>=d.a0.b9)<;>cases h2:l[k].a0.b9 != d.a0.b9<;>simp only [h1,h2,u7 n1,u7 n2,cond_true,cond_false,f5s,l9.go,f5x,f5V,f5H,Bool.false_and])
 simp only [f6i,f7J,f5M] at hloop;rw [show ((0:Nat):Int)=0 from rfl] at hloop;rw [hloop,C9 (b:=l.foldl (L3 d) ([],false))]
 ·have hb:=hlen l.length (f5K _);rw [f5M] at hb;unfold c5r c1g a0l;generalize l.foldl (L3 d) ([],false)=st at hb;obtain ⟨o,i⟩:=st;have n1:(o.length+1)*32<=140737488355328:=by simp only at hb;omega
  cases i<;>simp only [u7 n1,cond_true,cond_false,f5s,l9.go,f5x,f5V]
 ·unfold b1L;rw [z9];rfl
def N7(s:u6)(e:m4):u6×Int :=
 bif a0W s.g8 e.b8 then
  (bif e.b8.Code==0 then (⟨s.At+1,a0F s.g8 e.b8.b6,a0l s.i9 ⟨e.a0,0,e.b8.f0⟩⟩,0)
  else (⟨s.At+1,s.g8,a0l s.i9 ⟨e.a0,2,0⟩⟩,2))
 else (⟨s.At+1,s.g8,a0l s.i9 ⟨e.a0,1,0⟩⟩,1)
def apply(s:u6)(e:m4):u6×Int :=
 bif e.i7 then (⟨s.At+1,s.g8,s.i9⟩,5) else
 match s.i9.find? (fun d=>d.a0.b9==e.a0.b9) with
 | some d=>bif d.a0.Seq==e.a0.Seq then (⟨s.At+1,s.g8,s.i9⟩,3) else bif decide (d.a0.Seq>e.a0.Seq) then (⟨s.At+1,s.g8,s.i9⟩,4) else N7 s e
 | none=>N7 s e
theorem a3Q{e:m4}(h:z5 e=true)(hn:e.i7=false):(0<=e.a0.b9/\e.a0.b9<=2)/\(1<=e.a0.Seq/\e.a0.Seq<=1000)/\U9 e.b8=true/\e.b8.Code≠3:=by
 unfold z5 at h;rw [hn] at h;simp [p9] at h;exact ⟨h.1.1,h.1.2,h.2.1,h.2.2⟩
theorem e1n{s:u6}(h:s9 s.i9)(who:Int):b7r s who=some (match s.i9.find? (fun d=>d.a0.b9==who) with|some d=>(d,true)|none=>(⟨⟨0,0⟩,0,0⟩,false)):=by
 unfold b7r;rw [b7q s.i9 h (fun d=>d.a0.b9==who) (fun d=>(d,true)) ()]
 ·cases s.i9.find? fun d=>d.a0.b9==who<;>rfl
 ·intro k hk;unfold b60;rw [w9 _ k hk,t8 hk];simp only [cond_true,f5s];cases s.i9[k].a0.b9==who<;>rfl
 ·unfold b60;rw [z9];rfl
theorem d28{s:u6}{k:Nat}{e:m4}(hs:X3 s k)(hk:k<40)(he:z5 e=true)(hf:a10 e):b3n s e=some (apply s e):=by
 have hw:m7 (s.At+1)=s.At+1:=by rw [hs.at_];exact C2 (by omega) (by omega)
 unfold b3n apply;rw [hw,e1n (s:=⟨s.At+1,s.g8,s.i9⟩) hs.fits];cases hn:e.i7;case true=>rfl
 obtain ⟨_,_,hr,hc3⟩:=a3Q he hn;have hp:∀p∈e.b8.b6,a0h p:=(a3d hr).2.2.2.2
 have hfr:b9u s e=some (N7 s e):=by
  unfold b9u c0m c5l N7;simp only [f3K (a3D hs.boxes) hf.2,hs.boxes,hr,f5H,f5s,hw,e5T (Nat.le_trans hs.len (by omega)),f0P hs.boxes hf.2 hp];cases a0W s.g8 e.b8
  ·rfl
  ·cases e.b8.Code==0<;>rfl
 simp only [cond_false,f5s,hfr];cases hfd:s.i9.find? fun d=>d.a0.b9==e.a0.b9 with
 | none=>rfl
 | some d =>
  have hwho:d.a0.b9=e.a0.b9:=by simpa using List.find?_some hfd
  have hq:(([d.a0.b9,d.a0.Seq]:List Int)==[e.a0.b9,e.a0.Seq])=(d.a0.Seq==e.a0.Seq):=by
   rw [hwho];simp
  simp only [hq,cond_true];cases d.a0.Seq==e.a0.Seq
  ·cases decide (d.a0.Seq>e.a0.Seq)<;>rfl
  ·rfl
theorem e1p{l:List s5}(h:a3H l)(who seq:Int):l.find? (fun d=>d.a0.b9==who&&decide (d.a0.Seq>=seq))=match l.find? (fun d=>d.a0.b9==who) with
  | some d=>bif decide (d.a0.Seq>=seq) then some d else none
  | none=>none:=by
 induction l with
 | nil=>rfl
 | cons x l ih =>
  obtain ⟨h1,h2⟩:=f6K.1 h;rw [f6Y,f6Y];cases hx:x.a0.b9==who with
  | false=>simpa using ih h2
  | true =>
   cases hs:decide (x.a0.Seq>=seq) with
   | true=>simp [hs]
   | false =>
    simp only [Bool.and_false,hs,cond_false];rw [f7H];intro y hy;have:=h1 y hy;have hx':x.a0.b9=who:=by simpa using hx
    simp;intro hyw;omega
theorem e0u{s:u6}{k:Nat}(hs:X3 s k):b8C s=some true:=by
 unfold b8C;have hloop:=W7 (body:=fun v:Int=>b2k s v) (fun j=>(j:Int)) s.i9.length (by
  intro j hj;have hd:=hs.dones _ (f5v hj);unfold a74 at hd;simp only [f5w,Bool.or_eq_true] at hd;obtain ⟨⟨d1,d2⟩,d3,d4,d5⟩:=hd;unfold b2k c3A;rw [w9 _ j hj,t8 hj,F3 hs.fits hj];simp only [cond_true,f5s,b8e,N2,d1,d2,d3,d4,f6L,f5x,cond_false];cases j with
  | zero =>
   rw [show decide (((0:Nat):Int)>0)=false from by decide];simp only [cond_false];unfold bne;rcases d5 with d5|d5<;>simp [d5,l9.go,Option.bind]
  | succ j =>
   have hlt:(s.i9[j]'(by omega)).a0.b9<s.i9[j+1].a0.b9:=f6j.1 hs.sorted j (j+1) (by omega) hj (by omega);have hge:¬(s.i9[j]'(by omega)).a0.b9>=s.i9[j+1].a0.b9:=by omega
   have hle:=hs.fits;unfold s9 at hle;rw [show m7 (((j+1:Nat):Int)-1)=(j:Int) from by rw [C2 (by omega) (by omega)];omega,t8 (show j<s.i9.length by omega)];have hpos:decide (((j+1:Nat):Int)>0)=true:=by simp
   simp only [hpos,cond_true,f5s,hge,decide_false,cond_false];unfold bne;rcases d5 with d5|d5<;>simp [d5,l9.go,Option.bind])
 rw [show ((0:Nat):Int)=0 from rfl] at hloop;rw [hloop,C9 (b:=())]
 ·unfold c19;have:=hs.le;have ha:p9 s.At 0 40=true:=by rw [hs.at_];simp [p9];omega
  simp [l9.go,N2,ha,b2M (a3D hs.boxes),hs.boxes]
 ·unfold b2k;rw [z9];rfl
theorem c3l{s:u6}{own:s5}{bx:List n7}(hl:s.i9.length<=40)(hw:m7 (s.At+1)=s.At+1)(hd:a3H s.i9):b53 s own bx=some (⟨s.At+1,bx,a0l s.i9 own⟩,own.Code):=by
 have hf:s9 s.i9:=by unfold s9;omega
 have hlen:∀k,k<=s.i9.length->((s.i9.take k).foldl (L3 own) ([],false)).1.length<=80:=by
  intro k hk;have:=c2n own (s.i9.take k) ([],false);simp only [f6Z,f5L] at this;omega
 unfold b53;have hloop:=W7 (body:=fun x:(List s5)×Int×Bool=>b3d s own x.1 x.2.1 x.2.2) (fun k=>(((s.i9.take k).foldl (L3 own) ([],false)).1,(k:Int),((s.i9.take k).foldl (L3 own) ([],false)).2)) s.i9.length (by
  intro k hk;have hb:=hlen k (by omega);rw [f5T hk,List.foldl_append];generalize (s.i9.take k).foldl (L3 own) ([],false)=st at hb;obtain ⟨o,i⟩:=st;simp only at hb;simp only [f7o,f7J];unfold b3d c2P c2u L3;rw [w9 _ k hk,t8 hk,F3 hf hk];have n1:(o.length+1)*32<=140737488355328:=by omega
  have n2:((o++[own]).length+1)*32<=140737488355328:=c9Q (by omega);cases i<;>cases h1:decide (s.i9[k].a0.b9>=own.a0.b9)<;>cases h2:s.i9[k].a0.b9 != own.a0.b9<;>simp only [h1,h2,u7 n1,u7 n2,cond_true,cond_false,f5s,l9.go,f5x,f5V,f5H,Bool.false_and])
 simp only [f6i,f7J,f5M] at hloop;rw [show ((0:Nat):Int)=0 from rfl] at hloop;rw [hloop,C9 (b:=s.i9.foldl (L3 own) ([],false))]
 ·have hb:=hlen s.i9.length (f5K _);rw [f5M] at hb;have hpl:=d0P own hd;have hcp:a6K (a0l s.i9 own)=some (a0l s.i9 own):=d3T (by omega);unfold c4r c5R;unfold a0l at hcp ⊢;generalize s.i9.foldl (L3 own) ([],false)=st at hb hcp;obtain ⟨o,i⟩:=st;have n1:(o.length+1)*32<=140737488355328:=by simp only at hb;omega
  cases i<;>simp only [u7 n1,cond_true,cond_false,f5s,l9.go,f5x,f5V,hw] at hcp ⊢ <;>rw [hcp]<;>rfl
 ·unfold b3d;rw [z9];rfl
theorem c5O{s:u6}{k:Nat}{e:m4}(hs:X3 s k)(hk:k<40)(he:z5 e=true)(hf:a10 e):b7b s e=some (apply s e):=by
 have hw:m7 (s.At+1)=s.At+1:=by rw [hs.at_];exact C2 (by omega) (by omega)
 have hl:=hs.len;have hcd:a6K s.i9=some s.i9:=d3T (by omega);have hcb:a8t s.g8=some s.g8:=c0r (by rw [a7m hs.boxes];decide);have hat:(s.At==40)=false:=by rw [hs.at_];simp;omega
 unfold b7b apply;rw [e0u hs,a6T hf,he];simp only [f5s,f5x,cond_false,hat,hcb,hcd,hw];cases hn:e.i7;case true=>rfl
 obtain ⟨_,_,hr,hc3⟩:=a3Q he hn;have hfr:b5P s e s.g8=some (N7 s e):=by
  unfold b5P N7;simp only [d89 (a3D hs.boxes) hf.2,hs.boxes,hr,f5H,f5s,c9Z hs.boxes hf.2 hr];cases a0W s.g8 e.b8
  ·simp only [f5V,cond_true,cond_false,f5s,l9.go];exact c3l (by omega) hw hs.sorted
  ·unfold bne;cases e.b8.Code==0
   ·simp only [f5V,f5x,cond_true,cond_false,f5s,l9.go];exact c3l (by omega) hw hs.sorted
   ·simp only [f5x,cond_true,cond_false,f5s,l9.go];exact c3l (by omega) hw hs.sorted
 simp only [cond_false];rw [b7q s.i9 hs.fits (fun d=>d.a0.b9==e.a0.b9&&decide (d.a0.Seq>=e.a0.Seq)) (fun d=>(⟨s.At+1,s.g8,s.i9⟩,bif d.a0.Seq==e.a0.Seq then 3 else 4)) ()]
 ·rw [e1p hs.sorted];cases s.i9.find? fun d=>d.a0.b9==e.a0.b9 with
  | none=>simp only [f5s,l9.go,hfr]
  | some d =>
   cases hq:d.a0.Seq==e.a0.Seq with
   | true =>
    have:d.a0.Seq>=e.a0.Seq:=by
     have:d.a0.Seq=e.a0.Seq:=by simpa using hq
     omega
    simp [this,l9.go,hq]
   | false =>
    have hne:d.a0.Seq≠e.a0.Seq:=by simpa using hq
    by_cases hg:d.a0.Seq>e.a0.Seq
    ·have:d.a0.Seq>=e.a0.Seq:=by omega
     simp [this,l9.go,hg,hq]
    ·have:¬d.a0.Seq>=e.a0.Seq:=by omega
     simp [this,l9.go,hg,hfr,hq]
 ·intro j hj;unfold b8D c1X;rw [w9 _ j hj,t8 hj];simp only [cond_true,f5s,hcd,hw];cases h1:s.i9[j].a0.b9==e.a0.b9<;>cases h2:decide (s.i9[j].a0.Seq>=e.a0.Seq)<;>cases h3:s.i9[j].a0.Seq==e.a0.Seq<;>simp only [cond_true,cond_false,f5s,l9.go,f5H,Bool.false_and,f6L,Bool.and_false]
 ·unfold b8D;rw [z9];rfl
theorem e63{s:u6}{k:Nat}{e:m4}(hs:X3 s k)(hk:k<40)(he:z5 e=true)(hn:e.i7=false):X3 (N7 s e).1 (k+1)/\0<=(N7 s e).2/\(N7 s e).2<=5:=by
  obtain ⟨h1,h2,hr,hc3⟩:=a3Q he hn;have hp:=a3d hr;have hat:s.At+1=((k+1:Nat):Int):=by rw [hs.at_];rfl
  have key:∀(bx:List n7) (d:s5),C8 bx=true->a74 d=true->X3 ⟨s.At+1,bx,a0l s.i9 d⟩ (k+1):=fun bx d hb hd =>
    { at_:=hat,le:=by omega,boxes:=hb,sorted:=e6x d hs.sorted
      dones:=fun x hx=>by
        rcases f4k hs.sorted hx with hx|rfl
        · exact hs.dones x hx
        · exact hd
      len:=by
        have:=d0P d hs.sorted;have:=hs.len;simp only;omega}
  have hd0:∀c:Int,0<=c->c<=2->a74 ⟨e.a0,c,0⟩=true:=by
    intro c c1 c2;unfold a74 p9;simp;omega
  have hd1:a74 ⟨e.a0,0,e.b8.f0⟩=true:=by
    unfold a74 p9;simp;omega
  unfold N7;cases a0W s.g8 e.b8
  · exact ⟨key _ _ hs.boxes (hd0 1 (by decide) (by decide)),show (0:Int)<=1 from by decide,show (1:Int)<=5 from by decide⟩
  · cases e.b8.Code==0
    · exact ⟨key _ _ hs.boxes (hd0 2 (by decide) (by decide)),show (0:Int)<=2 from by decide,show (2:Int)<=5 from by decide⟩
    · exact ⟨key _ _ (b8v hs.boxes hp.2.2.2.2) hd1,show (0:Int)<=0 from by decide,show (0:Int)<=5 from by decide⟩
theorem e3V{s:u6}{k:Nat}{e:m4}(hs:X3 s k)(hk:k<40)(he:z5 e=true):X3 (apply s e).1 (k+1)/\0<=(apply s e).2/\(apply s e).2<=5:=by
 have hat:s.At+1=((k+1:Nat):Int):=by rw [hs.at_];rfl
 have key:X3 ⟨s.At+1,s.g8,s.i9⟩ (k+1):={at_:=hat,le:=by omega,boxes:=hs.boxes,sorted:=hs.sorted,dones:=hs.dones,len:=f7b hs.len}
 unfold apply;cases hn:e.i7
 ·have hfr:=e63 hs hk he hn;simp only [cond_false];cases s.i9.find? fun d=>d.a0.b9==e.a0.b9 with
  | none=>exact hfr
  | some d =>
   simp only;cases d.a0.Seq==e.a0.Seq
   ·cases decide (d.a0.Seq>e.a0.Seq)
    ·exact hfr
    ·exact ⟨key,show (0:Int)<=4 from by decide,show (4:Int)<=5 from by decide⟩
   ·exact ⟨key,show (0:Int)<=3 from by decide,show (3:Int)<=5 from by decide⟩
 ·exact ⟨key,show (0:Int)<=5 from by decide,show (5:Int)<=5 from by decide⟩
def W4:u6:=⟨0,f5u 4 ⟨0,0⟩,[]⟩
theorem f0p:X3 W4 0:={at_:=rfl,le:=by omega,boxes:=by decide,sorted:=.nil,dones:=by simp [W4],len:=by simp [W4]}
theorem d32:b36=some W4:=by
 unfold b36 c1F;rw [u7 (by decide)];rfl
theorem f0f:b86=some W4:=by
 unfold b86 b24;rw [u7 (by decide)];rfl
def a9j(st:u6×List Int)(e:m4):u6×List Int:=((apply st.1 e).1,st.2++[(apply st.1 e).2])
def q9(l:List m4):u6×List Int:=l.foldl a9j (W4,[])
theorem a12{l:List m4}{k:Nat}(hk:k<l.length):q9 (l.take (k+1))=a9j (q9 (l.take k)) l[k]:=by
 unfold q9;rw [f5T hk,List.foldl_append];rfl
theorem T3{l:List m4}(hl:l.length<=40)(he:l.all z5=true):∀k,k<=l.length->X3 (q9 (l.take k)).1 k/\(q9 (l.take k)).2.length=k/\∀c∈(q9 (l.take k)).2,0<=c/\c<=5
 | 0,_=>by
  rw [f6i];exact ⟨f0p,rfl,by simp [q9]⟩
 | k+1,hk=>by
  obtain ⟨h1,h2,h3⟩:=T3 hl he k (by omega);have ha:=e3V h1 (by omega) (List.all_eq_true.1 he _ (f5v (show k<l.length by omega)));rw [a12 (show k<l.length by omega)];refine ⟨ha.1,by simp [a9j,h2],fun c hc => ?_⟩;unfold a9j at hc;rcases List.mem_append.1 hc with hc|hc
  ·exact h3 c hc
  ·rw [f5y] at hc;rw [hc];exact ha.2
theorem a0J{l:List m4}(h:G6 l=true):l.length<=40/\l.all z5=true:=by
 unfold G6 at h;simpa using h
theorem b5V{l:List m4}(h:A4 88 a10 l)(hl:l.length<=40)(he:l.all z5=true):a84 l=some (q9 l):=by
  have hf:s9 l:=h.fits (by decide);unfold a84;rw [f0f,f5s];first
  | (have hloop:=W7 (body:=fun s:(List n7)×(List s5)×(List Int)×Int×Int=>a1m l s.1 s.2.1 s.2.2.1 s.2.2.2.1 s.2.2.2.2) (fun k=>((q9 (l.take k)).1.g8,(q9 (l.take k)).1.i9,(q9 (l.take k)).2,(k:Int),(q9 (l.take k)).1.At)) l.length (by
       intro k hk;obtain ⟨h1,h2,h3⟩:=T3 hl he k (by omega);have n1:((q9 (l.take k)).2.length+1)*8<=140737488355328:=by rw [h2];omega
       rw [a12 hk];unfold a1m;rw [w9 _ k hk,t8 hk,F3 hf hk];simp only [cond_true,f5s];rw [c5O h1 (by omega) (List.all_eq_true.1 he _ (f5v hk)) (h.2 _ (f5v hk)),f5s,u7 n1];rfl)
     rw [f6i,f5M] at hloop;rw [show ((0:Nat):Int)=0 from rfl] at hloop;rw [show p7 (fun s:(List n7)×(List s5)×(List Int)×Int×Int=>a1m l s.1 s.2.1 s.2.2.1 s.2.2.2.1 s.2.2.2.2) (W4.g8,W4.i9,([]:List Int),0,W4.At)=_ from hloop,C9 (b:=((q9 l).1.g8,(q9 l).1.i9,(q9 l).2,(q9 l).1.At))]
     · rfl
     · unfold a1m;rw [z9];rfl
     done)
  | (have hloop:=W7 (body:=fun s:u6×(List Int)×Int=>a1m l s.1 s.2.1 s.2.2) (fun k=>((q9 (l.take k)).1,(q9 (l.take k)).2,(k:Int))) l.length (by
       intro k hk;obtain ⟨h1,h2,h3⟩:=T3 hl he k (by omega);have n1:((q9 (l.take k)).2.length+1)*8<=140737488355328:=by rw [h2];omega
       rw [a12 hk];unfold a1m;rw [w9 _ k hk,t8 hk,F3 hf hk];simp only [cond_true,f5s];rw [c5O h1 (by omega) (List.all_eq_true.1 he _ (f5v hk)) (h.2 _ (f5v hk)),f5s,u7 n1];rfl)
     rw [f6i,f5M] at hloop;rw [show ((0:Nat):Int)=0 from rfl] at hloop;rw [show p7 (fun s:u6×(List Int)×Int=>a1m l s.1 s.2.1 s.2.2) (W4,[],0)=_ from hloop,C9 (b:=q9 l)]
     · rfl
     · unfold a1m;rw [z9];rfl
     done)
  | (have hloop:=W7 (body:=fun s:(List n7)×(List Int)×Int×Int×List s5=>a1m l s.1 s.2.1 s.2.2.1 s.2.2.2.1 s.2.2.2.2) (fun k=>((q9 (l.take k)).1.g8,(q9 (l.take k)).2,(k:Int),(q9 (l.take k)).1.At,(q9 (l.take k)).1.i9)) l.length (by
       intro k hk;obtain ⟨h1,h2,h3⟩:=T3 hl he k (by omega);have n1:((q9 (l.take k)).2.length+1)*8<=140737488355328:=by rw [h2];omega
       rw [a12 hk];unfold a1m;rw [w9 _ k hk,t8 hk,F3 hf hk];simp only [cond_true,f5s];rw [show (⟨(q9 (l.take k)).1.At,(q9 (l.take k)).1.g8,(q9 (l.take k)).1.i9⟩:u6)=(q9 (l.take k)).1 from rfl,c5O h1 (by omega) (List.all_eq_true.1 he _ (f5v hk)) (h.2 _ (f5v hk)),f5s,u7 n1];rfl)
     rw [f6i,f5M] at hloop;rw [show ((0:Nat):Int)=0 from rfl] at hloop;rw [show p7 (fun s:(List n7)×(List Int)×Int×Int×List s5=>a1m l s.1 s.2.1 s.2.2.1 s.2.2.2.1 s.2.2.2.2) (W4.g8,[],0,W4.At,W4.i9)=_ from hloop,C9 (b:=((q9 l).1.g8,(q9 l).2,(q9 l).1.At,(q9 l).1.i9))]
     · rfl
     · unfold a1m;rw [z9];rfl
     done)
def Rd(r:t7)(m:Nat):Prop:=(∀x∈r.b,a6t x)/\r.b.length<=2000/\0<=r.p/\r.p<=(m:Int)
theorem Rd.mono{r:t7}{m n:Nat}(h:Rd r m)(hn:m<=n):Rd r n:=⟨h.1,h.2.1,h.2.2.1,by have:=h.2.2.2;omega⟩
theorem e34{x y:Int}(hx:0<=x)(hx2:x<4611686018427387904)(hy:0<=y)(hy2:y<4611686018427387904):0<=a68 .i64 x y/\a68 .i64 x y<4611686018427387904:=by
 obtain ⟨a,rfl⟩:∃a:Nat,x=(a:Int):=⟨x.toNat,by omega⟩
 obtain ⟨b,rfl⟩:∃b:Nat,y=(b:Int):=⟨y.toNat,by omega⟩
 have hxor:a ^^^ b<2 ^ 62:=Nat.xor_lt_two_pow (by omega) (by omega);have h:a68 .i64 (a:Int) (b:Int)=((a ^^^ b:Nat):Int):=by
  unfold a68;rw [BitVec.toNat_xor];have e1:(BitVec.ofInt IntKind.i64.bits (a:Int)).toNat=a:=by
   show (BitVec.ofInt 64 (a:Int)).toNat=a
   rw [BitVec.toNat_ofInt];omega
  have e2:(BitVec.ofInt IntKind.i64.bits (b:Int)).toNat=b:=by
   show (BitVec.ofInt 64 (b:Int)).toNat=b
   rw [BitVec.toNat_ofInt];omega
  rw [e1,e2];exact IntWalk.i64_in _ ⟨by omega,by omega⟩
 rw [h];omega
theorem c1P{l:List Int}(h:∀x∈l,a6t x){i:Int}(h0:0<=i)(h1:i<l.length):∃y,idx l i=some y/\0<=y/\y<=255:=by
 have hlt:i.toNat<l.length:=by omega
 refine ⟨l[i.toNat],?_,h _ (f5v hlt)⟩;unfold idx;rw [if_pos h0,f5t hlt]
theorem b9m{x n:Int}(hx:0<=x)(hn:1<=n):0<=f5W x n/\f5W x n<n:=by
 rw [Int.tmod_eq_emod_of_nonneg hx];exact ⟨Int.emod_nonneg _ (by omega),Int.emod_lt_of_pos _ (by omega)⟩
theorem c9b{x n:Int}(hx:0<=x)(hn:1<=n):0<=f7y x n/\f7y x n<=x:=by
 rw [Int.tdiv_eq_ediv_of_nonneg hx];exact ⟨Int.ediv_nonneg hx (by omega),Int.ediv_le_self _ hx⟩
theorem I5{r:t7}{m:Nat}(h:Rd r m)(hm:m<=1000000000)(n:Int):∃v r',F7 r n=some (v,r')/\Rd r' (m+1)/\0<=v/\(v<n\/v=0):=by
 obtain ⟨hb,hbl,hp0,hp1⟩:=h;have hw:m7 (r.p+1)=r.p+1:=C2 (by omega) (by omega);have hw2:m7 (r.p+1-1)=r.p:=by rw [C2 (by omega) (by omega)];omega
 have hr:Rd ⟨r.b,r.p+1⟩ (m+1):=⟨hb,hbl,by simp only;omega,by simp only;omega⟩
 unfold F7;simp only [hw,hw2];by_cases hn:n<1
 ·simp only [hn,decide_true,cond_true];exact ⟨0,_,rfl,hr,by omega,.inr rfl⟩
 simp only [hn,decide_false,cond_false];cases he:((r.b.length:Int)==0);case true=>exact ⟨0,_,rfl,hr,by omega,.inr rfl⟩
 have hpos:0<r.b.length:=by
  have:¬(r.b.length:Int)=0:=by simpa using he
  omega
 have hne:(r.b.length:Int)≠0:=by omega
 have hnn:n≠0:=by omega
 simp only [cond_false];by_cases hlt:r.p<(r.b.length:Int)
 ·obtain ⟨y,h1,h2,h3⟩:=c1P hb hp0 hlt;simp only [hlt,decide_true,cond_true,h1,f5s,u7 hnn];rw [C2 (n:=y) (by omega) (by omega)];have:=b9m h2 (show 1<=n by omega);exact ⟨_,_,rfl,hr,this.1,.inl this.2⟩
 ·simp only [hlt,decide_false,cond_false,u7 hne,u7 hnn];have t1:=b9m hp0 (show (1:Int)<=(r.b.length:Int) by omega);obtain ⟨y1,a1,a2,a3⟩:=c1P hb t1.1 t1.2;have w7:m7 (r.p*7)=r.p*7:=C2 (by omega) (by omega);have w73:m7 (r.p*7+3)=r.p*7+3:=C2 (by omega) (by omega);have t2:=b9m (show 0<=r.p*7+3 by omega) (show (1:Int)<=(r.b.length:Int) by omega);obtain ⟨y2,b1,b2,b3⟩:=c1P hb t2.1 t2.2;simp only [a1,w7,w73,b1,f5s];have td:=c9b hp0 (show (1:Int)<=(r.b.length:Int) by omega);have c1:m7 (m7 y1*131)=y1*131:=by rw [C2 (n:=y1) (by omega) (by omega),C2 (by omega) (by omega)]
  have c2:m7 (m7 y2*1117)=y2*1117:=by rw [C2 (n:=y2) (by omega) (by omega),C2 (by omega) (by omega)]
  have c3:m7 (r.p*29)=r.p*29:=C2 (by omega) (by omega);have c4:m7 (m7 (f7y r.p (r.b.length:Int))*53)=f7y r.p (r.b.length:Int)*53:=by rw [C2 (n:=f7y r.p (r.b.length:Int)) (by omega) (by omega),C2 (by omega) (by omega)]
  simp only [c1,c2,c3,c4];generalize f7y r.p (r.b.length:Int)=q at td;rw [C2 (n:=y1*131+y2*1117) (by omega) (by omega),C2 (n:=y1*131+y2*1117+r.p*29) (by omega) (by omega),C2 (n:=y1*131+y2*1117+r.p*29+q*53) (by omega) (by omega)];have hA0:0<=y1*131+y2*1117+r.p*29+q*53:=by omega
  have hA1:y1*131+y2*1117+r.p*29+q*53<1000000000000:=by omega
  generalize y1*131+y2*1117+r.p*29+q*53=A at hA0 hA1;have t3:=c9b hA0 (show (1:Int)<=64 by omega);rw [C2 (n:=f7y A 64) (by omega) (by omega)];have hx:=e34 hA0 (by omega) t3.1 (by omega);have t4:=b9m hx.1 (show 1<=n by omega);exact ⟨_,_,rfl,hr,t4.1,.inl t4.2⟩
theorem b2a{r:t7}{m:Nat}(h:Rd r m)(hm:m<=1000000000)(l:List Int)(hl:0<l.length)(hl2:l.length<=1000):∃v r',a6M r l=some (v,r')/\Rd r' (m+1)/\v∈l:=by
 obtain ⟨v,r',h1,h2,h3,h4⟩:=I5 h hm (l.length:Int);unfold a6M;rw [h1,f5s];have hlt:v.toNat<l.length:=by omega
 refine ⟨l[v.toNat],r',?_,h2,f5v hlt⟩;unfold idx;simp only [if_pos h3,f5t hlt,f5s]
theorem e5j{code:List Int}(h:∀x∈code,a6t x):∃r,b41 code=some r/\Rd r 0:=by
 unfold b41 c4W;by_cases hl:(code.length:Int)>2000
 ·simp only [hl,decide_true,cond_true];rw [u7 ⟨by omega,by omega⟩];refine ⟨_,rfl,?_,?_,by simp,by simp⟩
  ·intro x hx;simp only [f6H] at hx;exact h x (f6k hx)
  ·simp only [f5L];have:(2000:Int).toNat-0=2000:=by decide
   omega
 ·simp only [hl,decide_false,cond_false];exact ⟨_,rfl,h,by simp only;omega,by simp,by simp⟩
def R0(i:n8):Bool :=
 bif i.a9==1 then p9 i.A 0 3&&(p9 i.B 0 3&&i.N==0) else
 bif i.a9==2 then p9 i.A 0 3&&(p9 i.B 0 3&&i.N==0) else
 bif i.a9==3 then p9 i.A 0 3&&(i.B==0&&p9 i.N (-1000000) 1000000) else
 bif i.a9==4 then p9 i.A 0 3&&(p9 i.B 0 3&&i.N==0) else
 bif i.a9==5 then p9 i.A 0 3&&(p9 i.B 0 3&&i.N==0) else
 bif i.a9==6 then p9 i.A 0 3&&(p9 i.B 0 3&&p9 i.N 1 10) else
 bif i.a9==7 then i.A==0&&(i.B==0&&i.N==0) else false
theorem e6F(n:Int):a2G n=some (p9 n 0 3):=by
 rw [<-N2];unfold a2G D4;have:(n<4)=(n<=3):=by apply propext;omega
 simp only [this]
theorem e7a(i:n8):b9Q i=some (R0 i):=by
 unfold b9Q R0;have h6:(bif decide (i.N>=1) then some (decide (i.N<=10)) else some false)=some (p9 i.N 1 10):=by
  unfold p9;by_cases h1:i.N>=1<;>by_cases h2:i.N<=10<;>simp [h1,h2]<;>omega
 simp only [e6F,c3y,a6P,f5s,h6];cases i.a9==1<;>cases i.a9==2<;>cases i.a9==3<;>cases i.a9==4<;>cases i.a9==5<;>cases i.a9==6<;>cases i.a9==7<;>cases p9 i.A 0 3<;>cases p9 i.B 0 3<;>cases i.A==0<;>cases i.B==0<;>rfl
def E1(l:List n8):Bool:=decide (l.length<=10)&&l.all R0
theorem b6T{l:List n8}(h:s9 l):b02 l=some (E1 l):=by
 unfold b02 E1;rw [show (10:Int)=((10:Nat):Int) from rfl,b85,K6 l h R0 false ()]
 ·cases decide (l.length<=10)
  ·rfl
  ·cases l.all R0<;>rfl
 ·intro k hk;unfold b9h;rw [w9 _ k hk,t8 hk];simp only [cond_true,f5s,e7a];cases R0 l[k]<;>rfl
 ·unfold b9h;rw [z9];rfl
theorem a7R{i:n8}(h:R0 i=true):(i.a9=1/\(0<=i.A/\i.A<=3)/\(0<=i.B/\i.B<=3))\/(i.a9=2/\(0<=i.A/\i.A<=3)/\(0<=i.B/\i.B<=3))\/(i.a9=3/\(0<=i.A/\i.A<=3)/\(-1000000<=i.N/\i.N<=1000000))\/
  (i.a9=4/\(0<=i.A/\i.A<=3)/\(0<=i.B/\i.B<=3))\/(i.a9=5/\(0<=i.A/\i.A<=3)/\(0<=i.B/\i.B<=3))\/(i.a9=6/\(0<=i.A/\i.A<=3)/\(0<=i.B/\i.B<=3)/\(1<=i.N/\i.N<=10))\/(i.a9=7/\i.A=0):=by
 unfold R0 p9 at h;by_cases h1:i.a9=1
 ·simp [h1] at h;exact .inl ⟨h1,h.1,h.2.1⟩
 by_cases h2:i.a9=2
 ·simp [h2] at h;exact .inr (.inl ⟨h2,h.1,h.2.1⟩)
 by_cases h3:i.a9=3
 ·simp [h3] at h;exact .inr (.inr (.inl ⟨h3,h.1,h.2.2⟩))
 by_cases h4:i.a9=4
 ·simp [h4] at h;exact .inr (.inr (.inr (.inl ⟨h4,h.1,h.2.1⟩)))
 by_cases h5:i.a9=5
 ·simp [h5] at h;exact .inr (.inr (.inr (.inr (.inl ⟨h5,h.1,h.2.1⟩))))
 by_cases h6:i.a9=6
 ·simp [h6] at h;exact .inr (.inr (.inr (.inr (.inr (.inl ⟨h6,h.1,h.2.1,h.2.2⟩)))))
 by_cases h7:i.a9=7
 ·simp [h7] at h;exact .inr (.inr (.inr (.inr (.inr (.inr ⟨h7,h.1⟩)))))
 ·have e1:(i.a9==1)=false:=by simpa using h1
  have e2:(i.a9==2)=false:=by simpa using h2
  have e3:(i.a9==3)=false:=by simpa using h3
  have e4:(i.a9==4)=false:=by simpa using h4
  have e5:(i.a9==5)=false:=by simpa using h5
  have e6:(i.a9==6)=false:=by simpa using h6
  have e7:(i.a9==7)=false:=by simpa using h7
  rw [e1,e2,e3,e4,e5,e6,e7] at h;cases h
def a7s(l:List q8):Bool:=(f5A l.length).all (X0 l)
def a4x(l:List p6):Bool:=(f5A l.length).all (X2 l)
def c3K(x:q8):Prop:=0<=x.i5/\x.i5<=3/\0<=x.j4/\x.j4<=1000000
theorem d3W{l:List q8}:a7s l=true↔(∀x∈l,c3K x)/\l.Pairwise fun a b=>a.i5≠b.i5:=by
 unfold a7s;constructor
 ·intro h;refine ⟨d5e h,?_⟩;rw [f6j];intro i j hi hj hij heq;have:=List.all_eq_true.1 h j (by simpa using hj);unfold X0 at this;rw [f5t hj] at this;simp only [f5w,f6a] at this;have hs:=this.2.2;unfold J4 at hs;rw [f6f] at hs;refine hs l[i] ?_ (by simpa using heq);rw [f6u];exact ⟨i,by omega,rfl⟩
 ·rintro ⟨h1,h2⟩
  rw [List.all_eq_true];intro k hk;have hk:k<l.length:=by simpa using hk
  unfold X0;rw [f5t hk];have hf:=h1 _ (f5v hk);have hs:J4 (l.take k) l[k].i5=false:=by
   unfold J4;rw [f6f];intro x hx;obtain ⟨i,hi,rfl⟩:=f6u.1 hx;have:=f6j.1 h2 i k (by omega) hk (by omega);simpa using this
  simp only [hs,f5V,f6L,f5w];unfold c3K at hf;exact ⟨by simp [p9];omega,by simp [p9];omega⟩
theorem b00{l:List p6}:a4x l=true↔(∀x∈l,a0h x)/\l.Pairwise fun a b=>a.i5≠b.i5:=by
 unfold a4x;constructor
 ·intro h;refine ⟨c9y h,?_⟩;rw [f6j];intro i j hi hj hij heq;have:=List.all_eq_true.1 h j (by simpa using hj);unfold X2 at this;rw [f5t hj] at this;simp only [f5w,f6a] at this;have hs:=this.2.2;unfold J2 at hs;rw [f6f] at hs;refine hs l[i] ?_ (by simpa using heq);rw [f6u];exact ⟨i,by omega,rfl⟩
 ·rintro ⟨h1,h2⟩
  rw [List.all_eq_true];intro k hk;have hk:k<l.length:=by simpa using hk
  unfold X2;rw [f5t hk];have hf:=h1 _ (f5v hk);have hs:J2 (l.take k) l[k].i5=false:=by
   unfold J2;rw [f6f];intro x hx;obtain ⟨i,hi,rfl⟩:=f6u.1 hx;have:=f6j.1 h2 i k (by omega) hk (by omega);simpa using this
  simp only [hs,f5V,f6L,f5w];unfold a0h at hf;exact ⟨by simp [p9];omega,by simp [p9];omega⟩
theorem e7Z{l:List q8}{x:q8}(h:a7s l=true)(hx:c3K x)(hs:J4 l x.i5=false):a7s (l++[x])=true:=by
 rw [d3W] at h ⊢;refine ⟨fun y hy => ?_,?_⟩
 ·rcases List.mem_append.1 hy with hy|hy
  ·exact h.1 y hy
  ·rw [f5y.1 hy];exact hx
 ·rw [f7e];refine ⟨h.2,by simp,fun a ha b hb => ?_⟩;rw [f5y.1 hb];unfold J4 at hs;rw [f6f] at hs;simpa using hs a ha
theorem f3q{l:List p6}{x:p6}(h:a4x l=true)(hx:a0h x)(hs:J2 l x.i5=false):a4x (l++[x])=true:=by
 rw [b00] at h ⊢;refine ⟨fun y hy => ?_,?_⟩
 ·rcases List.mem_append.1 hy with hy|hy
  ·exact h.1 y hy
  ·rw [f5y.1 hy];exact hx
 ·rw [f7e];refine ⟨h.2,by simp,fun a ha b hb => ?_⟩;rw [f5y.1 hb];unfold J2 at hs;rw [f6f] at hs;simpa using hs a ha
theorem e53{l:List p6}{k:Nat}{v:Int}(h:a4x l=true)(hk:k<l.length)(hv:-1000000<=v/\v<=1000000):a4x (l.set k ⟨l[k].i5,v⟩)=true:=by
 rw [b00] at h ⊢;refine ⟨fun y hy => ?_,?_⟩
 ·rcases List.mem_or_eq_of_mem_set hy with hy|rfl
  ·exact h.1 y hy
  ·have:=h.1 _ (f5v hk);exact ⟨this.1,this.2.1,hv⟩
 ·rw [f6j];intro i j hi hj hij;have hi':i<l.length:=by simpa using hi
  have hj':j<l.length:=by simpa using hj
  have hne:=f6j.1 h.2 i j hi' hj' hij;rw [List.getElem_set,List.getElem_set];split<;>split<;>simp_all
theorem b0b(r:n5):U9 r=(p9 r.Code 0 3&&(p9 r.f0 (-1000000) 1000000&&((r.Code==0||(r.f0==0&&r.b6.length==0))&&((r.Code != 3||r.b5.length==0)&&(a7s r.b5&&a4x r.b6))))):=rfl
theorem c6w{l:List p6}(h:s9 l)(box:Int):(a3p l box=some (-1)/\J2 l box=false)\/∃k:Nat,a3p l box=some (k:Int)/\∃hk:k<l.length,l[k].i5=box:=by
 have hc:=a4Y (body:=fun s:Int=>a1M l box s) (fun k=>(k:Int)) l.length (fun k=>match l[k]? with|some x => !(x.i5==box)|none=>true) (fun k=>(k:Int)) ()
  (fun k hk _=>by
   unfold a1M;rw [w9 l k hk,t8 hk,F3 h hk];simp only [cond_true,f5s,f5t hk];cases l[k].i5==box<;>rfl) (fun _=>by unfold a1M;rw [z9];rfl)
 unfold a3p;rcases hc with ⟨h1,hall⟩|⟨k,hk,ho,_,h1⟩
 ·left
  rw [show p7 (fun s:Int=>a1M l box s) 0=_ from h1];refine ⟨rfl,?_⟩;unfold J2;rw [f6f];intro x hx;obtain ⟨i,hi,rfl⟩:=f6e hx;have:=hall i hi;simpa [f5t hi] using this
 ·right
  rw [show p7 (fun s:Int=>a1M l box s) 0=_ from h1];refine ⟨k,rfl,hk,?_⟩;simpa [f5t hk] using ho
def inV(v:Int):Prop := -1000000<=v/\v<=1000000
def a7w(regs:List Int):Prop:=regs.length=4/\∀v∈regs,inV v
theorem a2R{regs:List Int}(h:regs.length=4){a:Int}(ha:0<=a/\a<=3):∃v,idx regs a=some v/\v∈regs:=by
 have hlt:a.toNat<regs.length:=by omega
 refine ⟨regs[a.toNat],?_,f5v hlt⟩;unfold idx;rw [if_pos ha.1,f5t hlt]
theorem e6S{regs:List Int}{a:Nat}{v w:Int}(h:w∈regs.set a v):w∈regs\/w=v:=List.mem_or_eq_of_mem_set h
structure X4(r:n5)(n:Nat):Prop where
 val:r.f0=0
 reads:a7s r.b5=true
 puts:a4x r.b6=true
 rlen:r.b5.length<=n
 plen:r.b6.length<=n
theorem X4.fitsR{r:n5}{n:Nat}(h:X4 r n)(hn:n<=100):s9 r.b5:=by
 have:=h.rlen;unfold s9;omega
theorem X4.fitsP{r:n5}{n:Nat}(h:X4 r n)(hn:n<=100):s9 r.b6:=by
 have:=h.plen;unfold s9;omega
theorem e3G{l:List n7}{r:n5}{n:Nat}{box:Int}(hl:C8 l=true)(hr:X4 r n)(hn:n<=100)(hb:0<=box/\box<=3):∃v r',b3s l r box=some (v,r')/\X4 r' (n+1)/\r'.Code=r.Code/\inV v:=by
 have hp:=(b00.1 hr.puts).1;unfold b3s;rcases c6w (hr.fitsP hn) box with ⟨h1,h2⟩|⟨k,h1,hk,h2⟩
 ·rw [h1,f5s,show decide ((-1:Int)>=0)=false from by decide,cond_false,c4n (hr.fitsR hn),f5s];obtain ⟨b,b1,b2,b3⟩:=a5v hl hb;rw [b2V] at b3;cases hs:J4 r.b5 box
  ·simp only [f5V,cond_true,b1,f5s];have n1:(r.b5.length+1)*16<=140737488355328:=by have:=hr.rlen;omega
   simp only [u7 n1,f5s,l9.go];unfold b3p;rw [b1,f5s];refine ⟨_,_,rfl,⟨hr.val,e7Z hr.reads ⟨hb.1,hb.2,b3.1⟩ hs,hr.puts,?_,?_⟩,rfl,b3.2⟩
   ·have:=hr.rlen;simp;omega
   ·have:=hr.plen;simp only;omega
  ·simp only [f5x,cond_false,f5s,l9.go];unfold b3p;rw [b1,f5s];refine ⟨_,_,rfl,⟨hr.val,hr.reads,hr.puts,?_,?_⟩,rfl,b3.2⟩
   ·have:=hr.rlen;simp only;omega
   ·have:=hr.plen;simp only;omega
 ·rw [h1,f5s,show decide (((k:Nat):Int)>=0)=true from by simp,cond_true,t8 hk,f5s];have hf:=hp _ (f5v hk);exact ⟨_,_,rfl,⟨hr.val,hr.reads,hr.puts,f7b hr.rlen,f7b hr.plen⟩,rfl,hf.2.2⟩
theorem e2h{r:n5}{n:Nat}{box v:Int}(hr:X4 r n)(hn:n<=100)(hb:0<=box/\box<=3)(hv:inV v):∃r',b3w r box v=some r'/\X4 r' (n+1)/\r'.Code=r.Code:=by
 unfold b3w;rcases c6w (hr.fitsP hn) box with ⟨h1,h2⟩|⟨k,h1,hk,h2⟩
 ·rw [h1,f5s,show decide ((-1:Int)>=0)=false from by decide,cond_false];have n1:(r.b6.length+1)*16<=140737488355328:=by have:=hr.plen;omega
  rw [u7 n1];refine ⟨_,rfl,⟨hr.val,hr.reads,f3q hr.puts ⟨hb.1,hb.2,hv⟩ h2,?_,?_⟩,rfl⟩
  ·have:=hr.rlen;simp only;omega
  ·have:=hr.plen;simp;omega
 ·rw [h1,f5s,show decide (((k:Nat):Int)>=0)=true from by simp,cond_true,t8 hk,f5s];refine ⟨_,rfl,⟨hr.val,hr.reads,?_,f7b hr.rlen,?_⟩,rfl⟩
  ·simp only [f5P];exact e53 hr.puts hk hv
  ·have:=hr.plen;simp;omega
theorem e6c{l:List n7}{r:n5}{n:Nat}{regs:List Int}{i:n8}(hl:C8 l=true)(hr:X4 r n)(hn:n<=100)(hc:r.Code=0)(hg:a7w regs)(hi:R0 i=true)(h6:i.a9≠6) :
  ∃r' regs',a6z l r regs i=some (r',regs')/\X4 r' (n+1)/\regs'.length=4/\(r'.Code=0\/r'.Code=1\/r'.Code=2)/\(r'.Code=0->a7w regs'):=by
 have hend:∀(regs':List Int) (r':n5),X4 r' (n+1)->(r'.Code=0\/r'.Code=1)->regs'.length=4->i.a9≠2->(0<=i.A/\i.A<=3)->(∀v,idx regs' i.A=some v->inV v->a7w regs')->
   ∃r2 regs2,a4c i regs' r'.b5 r'.b6 r'.f0 r'.Code=some (r2,regs2)/\X4 r2 (n+1)/\regs2.length=4/\(r2.Code=0\/r2.Code=1\/r2.Code=2)/\(r2.Code=0->a7w regs2):=by
  intro regs' r' w1 w2 w3 w4 w5 w6;obtain ⟨v,v1,v2⟩:=a2R w3 w5;have hk:(i.a9 != 2)=true:=by simpa using w4
  unfold a4c a7H;rw [hk,cond_true,v1,f5s,a6P,f5s];cases hv:p9 v (-1000000) 1000000
  ·simp only [f5V,cond_true,f5s,l9.go];exact ⟨_,_,rfl,⟨w1.val,w1.reads,w1.puts,w1.rlen,w1.plen⟩,w3,.inr (.inr rfl),fun h=>absurd h (show ¬(2:Int)=0 from by decide)⟩
  ·simp only [f5x,cond_false,f5s,l9.go];have hv':inV v:=by simpa [p9,inV] using hv
   refine ⟨_,_,rfl,⟨w1.val,w1.reads,w1.puts,w1.rlen,w1.plen⟩,w3,?_,fun _=>w6 v v1 hv'⟩;rcases w2 with w2|w2
   ·exact .inl w2
   ·exact .inr (.inl w2)
 have hset:∀(a:Int) (x:Int),(0<=a/\a<=3)->(regs.set a.toNat x).length=4/\∀v,idx (regs.set a.toNat x) a=some v->inV v->a7w (regs.set a.toNat x):=by
  intro a x ha;have hlt:a.toNat<regs.length:=by have:=hg.1;omega
  refine ⟨by simpa using hg.1,fun v hv hin=>⟨by simpa using hg.1,fun w hw => ?_⟩⟩;rcases e6S hw with hw|rfl
  ·exact hg.2 w hw
  ·unfold idx at hv;rw [if_pos ha.1,f6v hlt] at hv;injection hv with hv;subst hv;exact hin
 have hw1:X4 r (n+1):=⟨hr.val,hr.reads,hr.puts,f7b hr.rlen,f7b hr.plen⟩
 unfold a6z;rcases a7R hi with ⟨k,ha,hb⟩|⟨k,ha,hb⟩|⟨k,ha,hN⟩|⟨k,ha,hb⟩|⟨k,ha,hb⟩|⟨k,_⟩|⟨k,ha⟩
 ·obtain ⟨v,r',q1,q2,q3,q4⟩:=e3G hl hr hn hb;obtain ⟨y,y1,_⟩:=a2R hg.1 ha;simp only [k,q1,y1,beq_self_eq_true,cond_true,f5s,l9.go];exact hend _ r' q2 (.inl (q3.trans hc)) (hset i.A v ha).1 (by omega) ha (hset i.A v ha).2
 ·obtain ⟨y,y1,y2⟩:=a2R hg.1 hb;obtain ⟨r',q1,q2,q3⟩:=e2h hr hn ha (hg.2 y y2);have e1:((2:Int)==1)=false:=by decide
  simp only [k,e1,y1,q1,beq_self_eq_true,cond_true,cond_false,f5s,l9.go];unfold a4c a7H;simp only [k,bne_self_eq_false,cond_false,f5s,l9.go];exact ⟨_,_,rfl,⟨q2.val,q2.reads,q2.puts,q2.rlen,q2.plen⟩,hg.1,.inl (q3.trans hc),fun _=>hg⟩
 ·obtain ⟨y,y1,_⟩:=a2R hg.1 ha;have e1:((3:Int)==1)=false:=by decide
  have e2:((3:Int)==2)=false:=by decide
  simp only [k,e1,e2,y1,beq_self_eq_true,cond_true,cond_false,f5s,l9.go];exact hend _ r hw1 (.inl hc) (hset i.A i.N ha).1 (by omega) ha (hset i.A i.N ha).2
 ·obtain ⟨y,y1,_⟩:=a2R hg.1 ha;obtain ⟨z,z1,_⟩:=a2R hg.1 hb;have e1:((4:Int)==1)=false:=by decide
  have e2:((4:Int)==2)=false:=by decide
  have e3:((4:Int)==3)=false:=by decide
  simp only [k,e1,e2,e3,y1,z1,beq_self_eq_true,cond_true,cond_false,f5s,l9.go];exact hend _ r hw1 (.inl hc) (hset i.A _ ha).1 (by omega) ha (hset i.A _ ha).2
 ·obtain ⟨y,y1,_⟩:=a2R hg.1 ha;obtain ⟨z,z1,_⟩:=a2R hg.1 hb;have e1:((5:Int)==1)=false:=by decide
  have e2:((5:Int)==2)=false:=by decide
  have e3:((5:Int)==3)=false:=by decide
  have e4:((5:Int)==4)=false:=by decide
  simp only [k,e1,e2,e3,e4,y1,z1,beq_self_eq_true,cond_true,cond_false,f5s,l9.go];exact hend _ r hw1 (.inl hc) (hset i.A _ ha).1 (by omega) ha (hset i.A _ ha).2
 ·exact absurd k h6
 ·have e1:((7:Int)==1)=false:=by decide
  have e2:((7:Int)==2)=false:=by decide
  have e3:((7:Int)==3)=false:=by decide
  have e4:((7:Int)==4)=false:=by decide
  have e5:((7:Int)==5)=false:=by decide
  simp only [k,e1,e2,e3,e4,e5,beq_self_eq_true,cond_true,cond_false,f5s,l9.go];have:=hend regs ⟨r.b5,r.b6,r.f0,1⟩ ⟨hw1.val,hw1.reads,hw1.puts,hw1.rlen,hw1.plen⟩ (.inr rfl) hg.1 (by omega) ⟨by omega,by omega⟩ (fun _ _ _=>hg);exact this
structure Ran(r:n5):Prop where
 ok:U9 r=true
 rlen:r.b5.length<=40
 plen:r.b6.length<=40
theorem f3H{r:n5}{n:Nat}(h:X4 r n)(hn:n<=40)(hc:r.Code=0\/r.Code=1\/r.Code=2){v:Int}(hv:r.Code=0->inV v):Ran ⟨r.b5,bif r.Code != 0 then [] else r.b6,bif r.Code != 0 then r.f0 else v,r.Code⟩:=by
 have h1:=h.rlen;have h2:=h.plen;have hR:=h.reads;have hP:=h.puts;have hP0:a4x []=true:=rfl;rcases hc with hc|hc|hc
 ·have hv:=hv hc;unfold inV at hv;refine ⟨?_,by simp only;omega,by simp only [hc];simp;omega⟩;rw [b0b];simp [hc,hR,hP,p9,hv]
 ·refine ⟨?_,by simp only;omega,by simp [hc]⟩;rw [b0b];simp [hc,hR,hP0,p9,h.val]
 ·refine ⟨?_,by simp only;omega,by simp [hc]⟩;rw [b0b];simp [hc,hR,hP0,p9,h.val]
theorem d7L{l:List n7}{prog:List n8}(hl:s9 l)(hp:s9 prog):∃r,b06 l prog=some r/\(C8 l=true->Ran r)/\r.b5.length<=40/\r.b6.length<=40:=by
 unfold b06;rw [c3O hl,b6T hp];have h0:Ran ⟨[],[],0,3⟩:=⟨by decide,by simp,by simp⟩
 cases hb:C8 l
 ·exact ⟨_,rfl,(fun h=>by cases h),by simp,by simp⟩
 cases hpo:E1 prog
 ·exact ⟨_,rfl,fun _=>h0,by simp,by simp⟩
 simp only [f5s,f5x,cond_false];rw [u7 (by decide)];have hlen:prog.length<=10:=by
  unfold E1 at hpo;simp only [f5w,decide_eq_true_eq] at hpo;exact hpo.1
 have hins:∀i∈prog,R0 i=true:=by
  unfold E1 at hpo;simp only [f5w] at hpo;exact List.all_eq_true.1 hpo.2
 obtain ⟨x,hx,hq⟩:=b97 (body:=fun s:(List Int)×(List q8)×(List p6)×Int×Int×Int=>a0Z l prog s.1 s.2.1 s.2.2.1 s.2.2.2.1 s.2.2.2.2.1 s.2.2.2.2.2)
  (fun m s => ∃k:Nat,s.2.2.2.1=(k:Int)/\k<=30/\k+m=31/\X4 ⟨s.2.1,s.2.2.1,s.2.2.2.2.1,s.2.2.2.2.2⟩ k/\s.1.length=4/\(s.2.2.2.2.2=0\/s.2.2.2.2.2=1\/s.2.2.2.2.2=2)/\(s.2.2.2.2.2=0->a7w s.1))
  (fun x=>match x with
   | .ret _=>False
   | .brk b=>X4 ⟨b.1,b.2.1,b.2.2.2.1,b.2.2.2.2⟩ 30/\b.2.2.1.length=4/\(b.2.2.2.2=0\/b.2.2.2.2=1\/b.2.2.2.2=2)/\(b.2.2.2.2=0->a7w b.2.2.1))
  (by
   rintro m ⟨regs,b5,b6,kk,rVal,rCode⟩ ⟨k,hk,hk30,hm,hway,hreg,hcode,hrok⟩
   simp only at hk hway hreg hcode hrok ⊢;subst hk;have hend:X4 ⟨b5,b6,rVal,rCode⟩ 30:=⟨hway.val,hway.reads,hway.puts,Nat.le_trans hway.rlen hk30,Nat.le_trans hway.plen hk30⟩
   unfold a0Z;by_cases hlt:k<prog.length
   ·rw [w9 _ k hlt,t8 hlt];cases hc:rCode==0
    ·exact ⟨_,rfl,hend,hreg,hcode,hrok⟩
    have hc0:rCode=0:=by simpa using hc
    have hi:=hins _ (f5v hlt);simp only [cond_true,f5s];cases h6:prog[k].a9==6
    ·obtain ⟨r',regs',q1,q2,q3,q4,q5⟩:=e6c hb hway (by omega) hc0 (hrok hc0) hi (by simpa using h6);simp only [cond_false,q1,f5s];rw [u7 (by rw [q3];exact hreg),C2 (by omega) (by omega)];exact ⟨_,rfl,m-1,by omega,k+1,by simp,by omega,by omega,q2,q3,q4,q5⟩
    ·have h6':prog[k].a9=6:=by simpa using h6
     obtain ⟨_,ha,hbb,hN⟩:prog[k].a9=6/\(0<=prog[k].A/\prog[k].A<=3)/\(0<=prog[k].B/\prog[k].B<=3)/\(1<=prog[k].N/\prog[k].N<=10):=by
      rcases a7R hi with ⟨q,_⟩|⟨q,_⟩|⟨q,_⟩|⟨q,_⟩|⟨q,_⟩|q|⟨q,_⟩
      ·omega
      ·omega
      ·omega
      ·omega
      ·omega
      ·exact q
      ·omega
     obtain ⟨y,y1,_⟩:=a2R hreg ha;obtain ⟨z,z1,_⟩:=a2R hreg hbb;simp only [cond_true,y1,z1,f5s];have hw2:∀j:Nat,k<=j->X4 ⟨b5,b6,rVal,rCode⟩ (j+1):=fun j h=>⟨hway.val,hway.reads,hway.puts,Nat.le_trans hway.rlen (by omega),Nat.le_trans hway.plen (by omega)⟩
     unfold b8r;by_cases hyz:y<z
     ·simp only [hyz,decide_true,cond_true,f5s,l9.go];have e1:m7 ((k:Int)+prog[k].N)=((k+prog[k].N.toNat:Nat):Int):=by
       rw [C2 (n:=(k:Int)+prog[k].N) (by omega) (by omega)];omega
      rw [e1,C2 (n:=((k+prog[k].N.toNat:Nat):Int)+1) (by omega) (by omega)];exact ⟨_,rfl,31-(k+prog[k].N.toNat+1),by omega,k+prog[k].N.toNat+1,rfl,by omega,by omega,hw2 _ (by omega),hreg,hcode,hrok⟩
     ·simp only [hyz,decide_false,cond_false,f5s,l9.go];rw [C2 (n:=(k:Int)+1) (by omega) (by omega)];exact ⟨_,rfl,31-(k+1),by omega,k+1,rfl,by omega,by omega,hw2 k (by omega),hreg,hcode,hrok⟩
   ·have:decide ((k:Int)<(prog.length:Int))=false:=by simp;omega
    rw [this,cond_false];exact ⟨_,rfl,hend,hreg,hcode,hrok⟩) (k:=31) (s:=(f5u (4:Int).toNat 0,[],[],0,0,0)) ⟨0,rfl,by omega,by omega,⟨rfl,rfl,rfl,by simp,by simp⟩,rfl,.inl rfl,fun _=>⟨rfl,by simp [inV]⟩⟩
 rw [hx,f5s];cases x with
 | ret r=>cases hq
 | brk b =>
  obtain ⟨b5,b6,regs,rVal,rCode⟩:=b;obtain ⟨q1,q2,q3,q4⟩:=hq;simp only at q1 q2 q3 q4;simp only [l9.go];unfold a57;obtain ⟨v,v1,v2⟩:=a2R q2 (a:=0) ⟨by omega,by omega⟩;have hran:=f3H q1 (by omega) q3 (v:=v) (fun h=>(q4 h).2 v v2);have q1r:=q1.rlen;have q1p:=q1.plen;simp only at hran q1r q1p;cases hc:rCode != 0
  ·rw [hc] at hran;simp only [cond_false,v1,f5s] at hran ⊢;exact ⟨_,rfl,fun _=>hran,by simp only;omega,by simp only;omega⟩
  ·rw [hc] at hran;simp only [cond_true] at hran ⊢;exact ⟨_,rfl,fun _=>hran,by simp only;omega,by simp⟩
theorem d8M{r:t7}{m:Nat}(h:Rd r m)(hm:m<=100000000):∃i r',b8K r=some (i,r')/\Rd r' (m+10):=by
 obtain ⟨k,r1,a1,a2,a3⟩:=b2a h (by omega) [1,1,2,2,3,4,4,5,6,7] (by decide) (by decide);obtain ⟨p1,r2,b1,b2,b3,b4⟩:=I5 a2 (by omega) 3;obtain ⟨p2,r3,c1,c2,c3,c4⟩:=I5 b2 (by omega) 3;unfold b8K;simp only [a1,b1,c1,f5s];cases h3:k==3
 ·cases h6:k==6
  ·cases h7:k==7
   ·exact ⟨_,_,rfl,c2.mono (by omega)⟩
   ·obtain ⟨p3,r4,d1,d2,d3,d4⟩:=I5 c2 (by omega) 3;simp only [cond_true,cond_false,d1,f5s];cases decide (p3>0)
    ·exact ⟨_,_,rfl,d2.mono (by omega)⟩
    ·obtain ⟨p4,r5,e1,e2,e3,e4⟩:=I5 d2 (by omega) 4;obtain ⟨p5,r6,f1,f2,f3,f4⟩:=I5 e2 (by omega) 4;simp only [cond_true,e1,f1,f5s];exact ⟨_,_,rfl,f2.mono (by omega)⟩
  ·obtain ⟨p3,r4,d1,d2,d3,d4⟩:=I5 c2 (by omega) 3;simp only [cond_true,cond_false,d1,f5s];exact ⟨_,_,rfl,d2.mono (by omega)⟩
 ·obtain ⟨n1,r4,d1,d2,d3⟩:=b2a c2 (by omega) [0,1,5,(-2),100,1000000] (by decide) (by decide);simp only [cond_true,d1,f5s];exact ⟨_,_,rfl,d2.mono (by omega)⟩
theorem c3V{r:t7}{m:Nat}(h:Rd r m)(hm:m<=50000000):∃p r',a5t r=some (p,r')/\Rd r' (m+200)/\p.length<=10:=by
 obtain ⟨v,r1,a1,a2,a3,a4⟩:=I5 h (by omega) 3;unfold a5t;simp only [a1,f5s];cases v==0
 ·obtain ⟨k,r2,b1,b2,b3,b4⟩:=I5 a2 (by omega) 8;simp only [cond_false,b1,f5s];obtain ⟨x,hx,hq⟩:=b97 (body:=fun s:t7×(List n8)×Int=>b81 s.1 s.2.1 s.2.2)
   (fun j s=>s.2.2=(j:Int)/\j<=8/\Rd s.1 (m+2+10*(8-j))/\s.2.1.length+j<=8)
   (fun x=>match x with
    | .ret _=>False
    | .brk b=>Rd b.1 (m+200)/\b.2.length<=10)
   (by
    rintro j ⟨r,out,i⟩ ⟨q1,q2,q3,q4⟩
    simp only at q1 q3 q4 ⊢;subst q1;unfold b81;cases j with
    | zero=>exact ⟨_,rfl,q3.mono (by omega),by simp only;omega⟩
    | succ j =>
     obtain ⟨i,r',d1,d2⟩:=d8M q3 (by omega);have hpos:decide (((j+1:Nat):Int)>0)=true:=by simp
     have n1:(out.length+1)*32<=140737488355328:=by omega
     rw [hpos,cond_true,d1,f5s,u7 n1,C2 (by omega) (by omega)];exact ⟨_,rfl,j,by omega,by simp only;omega,by omega,d2.mono (by omega),by simp;omega⟩) (k:=k.toNat) (s:=(r2,[],k)) ⟨by simp only;omega,by omega,b2.mono (by omega),by simp;omega⟩
  rw [hx,f5s];cases x with
  | ret r=>cases hq
  | brk b=>exact ⟨_,_,rfl,hq.1,hq.2⟩
 ·obtain ⟨p1,r2,b1,b2,b3,b4⟩:=I5 a2 (by omega) 3;obtain ⟨p2,r3,c1,c2,c3,c4⟩:=I5 b2 (by omega) 3;obtain ⟨p3,r4,d1,d2,d3,d4⟩:=I5 c2 (by omega) 3;simp only [cond_true,b1,c1,d1,f5s];exact ⟨_,_,rfl,d2.mono (by omega),by simp⟩
def e7p(e:m4):Prop:=e.b8.b5.length<=40/\e.b8.b6.length<=40
def drawn(l:List m4):Prop:=l.length<=41/\∀e∈l,e7p e
theorem d2n{l:List m4}(h:A4 88 a10 l):b1U l=some (bif G6 l then (q9 l).1 else ⟨0,[],[]⟩):=by
 unfold b1U;rw [c5h h,f5s];cases hok:G6 l
 ·rfl
 ·obtain ⟨hl,he⟩:=a0J hok;rw [f5x,cond_false,b5V h hl he];rfl
theorem f0t{l:List m4}(h:A4 88 a10 l)(hok:G6 l=true):b7h l=some (q9 l).1:=by
 obtain ⟨hl,he⟩:=a0J hok;have hf:s9 l:=h.fits (by decide);unfold b7h;rw [d32,f5s,show (40:Int)=((40:Nat):Int) from rfl,b85,decide_eq_true hl,f5x,cond_false];have hloop:=W7 (body:=fun s:(List n7)×Int×Int×List s5=>b1c l s.1 s.2.1 s.2.2.1 s.2.2.2) (fun k=>((q9 (l.take k)).1.g8,(k:Int),(q9 (l.take k)).1.At,(q9 (l.take k)).1.i9)) l.length (by
  intro k hk;obtain ⟨h1,h2,h3⟩:=T3 hl he k (by omega);have hek:=List.all_eq_true.1 he _ (f5v hk);have hfk:=h.2 _ (f5v hk);rw [a12 hk];unfold b1c;rw [w9 _ k hk,t8 hk,F3 hf hk];simp only [cond_true,f5s,a3X hfk,hek,f5x,cond_false];rw [show (⟨(q9 (l.take k)).1.At,(q9 (l.take k)).1.g8,(q9 (l.take k)).1.i9⟩:u6)=(q9 (l.take k)).1 from rfl,d28 h1 (by omega) hek hfk,f5s];rfl)
 rw [f6i,f5M] at hloop;rw [show ((0:Nat):Int)=0 from rfl] at hloop;rw [show p7 (fun s:(List n7)×Int×Int×List s5=>b1c l s.1 s.2.1 s.2.2.1 s.2.2.2) (W4.g8,0,W4.At,W4.i9)=_ from hloop,C9 (b:=((q9 l).1.g8,(q9 l).1.At,(q9 l).1.i9))]
 ·rfl
 ·unfold b1c;rw [z9];rfl
def W2(a b:List n7):Prop:=a.length=b.length/\∀(i:Nat) (x y:n7),a[i]?=some x->b[i]?=some y->x.j4<=y.j4
theorem W2.refl(a:List n7):W2 a a:=⟨rfl,fun i x y h1 h2=>by rw [h1] at h2;injection h2 with h2;rw [h2];exact f5R _⟩
theorem W2.trans{a b c:List n7}(h:W2 a b)(k:W2 b c):W2 a c:=by
 refine ⟨h.1.trans k.1,fun i x z hx hz => ?_⟩;have hi:i<b.length:=by
  have:=(f5z.1 hx).1;have:=h.1;omega
 have h1:=h.2 i x _ hx (f5t hi);have h2:=k.2 i _ z (f5t hi) hz;omega
theorem e3Q{l:List n7}{p:p6}(h:C8 l=true)(hp:a0h p):W2 l (a0k l p):=by
 obtain ⟨b,_,h2,h3⟩:=a5v h (b:=p.i5) ⟨hp.1,hp.2.1⟩;rw [b2V] at h3;rw [b8w h2];refine ⟨by simp,fun i x y hx hy => ?_⟩;rw [f6S] at hy;split at hy
 ·rename_i he;split at hy
  ·injection hy with hy;subst hy;rw [<-he,h2] at hx;injection hx with hx;subst hx;simp only;split<;>omega
  ·cases hy
 ·rw [hx] at hy;injection hy with hy;rw [hy];exact f5R _
theorem c7X:∀{ps:List p6} {l:List n7},C8 l=true->(∀p∈ps,a0h p)->W2 l (a0F l ps)
 | [],l,_,_=>W2.refl _
 | p::ps,l,h,hp=>(e3Q h (hp p (by simp))).trans (c7X (ps:=ps) (d5f h (hp p (by simp))) fun x hx=>hp x (by simp [hx]))
theorem d8U{s:u6}{k:Nat}{e:m4}(hs:X3 s k)(he:z5 e=true):W2 s.g8 (apply s e).1.g8:=by
 have hfr:e.i7=false->W2 s.g8 (N7 s e).1.g8:=by
  intro hn;obtain ⟨_,_,hr,_⟩:=a3Q he hn;unfold N7;cases a0W s.g8 e.b8
  ·exact W2.refl _
  ·cases e.b8.Code==0
   ·exact W2.refl _
   ·exact c7X hs.boxes (a3d hr).2.2.2.2
 unfold apply;cases hn:e.i7
 ·simp only [cond_false];cases s.i9.find? fun d=>d.a0.b9==e.a0.b9 with
  | none=>exact hfr hn
  | some d =>
   simp only;cases d.a0.Seq==e.a0.Seq
   ·cases decide (d.a0.Seq>e.a0.Seq)
    ·exact hfr hn
    ·exact W2.refl _
   ·exact W2.refl _
 ·exact W2.refl _
theorem d6l{l:List m4}(hl:l.length<=40)(he:l.all z5=true){j k:Nat}(hjk:j<=k)(hk:k<=l.length):W2 (q9 (l.take j)).1.g8 (q9 (l.take k)).1.g8:=by
 induction k with
 | zero =>
  have:j=0:=by omega
  subst this;exact W2.refl _
 | succ k ih =>
  by_cases hq:j=k+1
  ·subst hq;exact W2.refl _
  ·refine (ih (by omega) (by omega)).trans ?_;rw [a12 (show k<l.length by omega)];exact d8U (T3 hl he k (by omega)).1 (List.all_eq_true.1 he _ (f5v _))
def a6A(l:List m4)(codes:List Int)(box:Int)(i:Nat):Bool:=match codes[i]?,l[i]? with
 | some c,some e=>c==0&&J2 e.b8.b6 box
 | _,_=>false
theorem c98{l:List n7}{p:p6}{i:Nat}(h:p.i5.toNat≠i):(a0k l p)[i]?=l[i]?:=by
 unfold a0k;cases l[p.i5.toNat]? with
 | none=>rfl
 | some b=>simp only;rw [f5N h]
theorem f4L{l:List n7}{p:p6}{x:n7}(hx:l[p.i5.toNat]?=some x):(a0k l p)[p.i5.toNat]?=some ⟨if x.j4+1<1000000 then x.j4+1 else 1000000,p.f0⟩:=by
 rw [b8w hx,f6v (f5z.1 hx).1]
theorem f3C{ps:List p6}{b:Int}(h:J2 ps b=false):∀p∈ps,p.i5≠b:=by
 unfold J2 at h;rw [f6f] at h;intro p hp;simpa using h p hp
theorem c2D:∀{ps:List p6} {l:List n7} {b:Int},0<=b->(∀p∈ps,a0h p)->J2 ps b=false->(a0F l ps)[b.toNat]?=l[b.toNat]?
 | [],l,b,_,_,_=>rfl
 | p::ps,l,b,hb,hp,hs=>by
  have h1:=f3C hs;have hf:=hp p (by simp);have hne:p.i5.toNat≠b.toNat:=by
   have:=h1 p (by simp);have:=hf.1;omega
  have hs2:J2 ps b=false:=by
   unfold J2;rw [f6f];intro x hx;have:=h1 x (by simp [hx]);simpa using this
  show (a0F (a0k l p) ps)[b.toNat]?=_
  rw [c2D (l:=a0k l p) hb (fun x hx=>hp x (by simp [hx])) hs2,c98 hne]
theorem d6r:∀{ps:List p6} {l:List n7} {b:Int} {x:n7},0<=b->(∀p∈ps,a0h p)->ps.Pairwise (fun p q=>p.i5≠q.i5)->J2 ps b=true->l[b.toNat]?=some x->
  ∃v,(a0F l ps)[b.toNat]?=some ⟨if x.j4+1<1000000 then x.j4+1 else 1000000,v⟩
 | [],l,b,x,_,_,_,hs,_=>by cases hs
 | p::ps,l,b,x,hb,hp,hd,hs,hx=>by
  have hf:=hp p (by simp);obtain ⟨hd1,hd2⟩:=f6K.1 hd;by_cases he:p.i5=b
  ·have hs2:J2 ps b=false:=by
    unfold J2;rw [f6f];intro q hq;have:=hd1 q hq;simp only [beq_iff_eq];intro h;exact this (he.trans h.symm)
   refine ⟨p.f0,?_⟩;show (a0F (a0k l p) ps)[b.toNat]?=_
   rw [c2D hb (fun q hq=>hp q (by simp [hq])) hs2,<-he,f4L (by rw [he];exact hx)]
  ·have hne:p.i5.toNat≠b.toNat:=by
    have:=hf.1;omega
   have hs2:J2 ps b=true:=by
    unfold J2 at hs ⊢;rw [f7C] at hs;have:(p.i5==b)=false:=by simpa using he
    rwa [this,f6c] at hs
   exact d6r (l:=a0k l p) hb (fun q hq=>hp q (by simp [hq])) hd2 hs2 (by rw [c98 hne];exact hx)
theorem d3n{r:n5}(h:U9 r=true):a4x r.b6=true:=by
 rw [b0b] at h;simp only [f5w] at h;exact h.2.2.2.2.2
theorem c2G{s:u6}{k:Nat}{e:m4}(hs:X3 s k)(he:z5 e=true):((apply s e).2=0/\e.i7=false/\(apply s e).1.g8=a0F s.g8 e.b8.b6)\/((apply s e).2≠0/\(apply s e).1.g8=s.g8):=by
 have hfr:e.i7=false->((N7 s e).2=0/\e.i7=false/\(N7 s e).1.g8=a0F s.g8 e.b8.b6)\/((N7 s e).2≠0/\(N7 s e).1.g8=s.g8):=by
  intro hn;unfold N7;cases a0W s.g8 e.b8
  ·exact .inr ⟨show (1:Int)≠0 from by decide,rfl⟩
  ·cases e.b8.Code==0
   ·exact .inr ⟨show (2:Int)≠0 from by decide,rfl⟩
   ·exact .inl ⟨rfl,hn,rfl⟩
 unfold apply;cases hn:e.i7
 ·simp only [cond_false];cases s.i9.find? fun d=>d.a0.b9==e.a0.b9 with
  | none =>
   rcases hfr hn with ⟨a,_,c⟩|h
   ·exact .inl ⟨a,by simp,c⟩
   ·exact .inr h
  | some d =>
   simp only;cases d.a0.Seq==e.a0.Seq
   ·cases decide (d.a0.Seq>e.a0.Seq)
    ·rcases hfr hn with ⟨a,_,c⟩|h
     ·exact .inl ⟨a,by simp,c⟩
     ·exact .inr h
    ·exact .inr ⟨show (4:Int)≠0 from by decide,rfl⟩
   ·exact .inr ⟨show (3:Int)≠0 from by decide,rfl⟩
 ·exact .inr ⟨show (5:Int)≠0 from by decide,rfl⟩
theorem b2b{l:List m4}(hl:l.length<=40)(he:l.all z5=true){k:Nat}(hk:k<l.length):(q9 l).2[k]?=some (apply (q9 (l.take k)).1 l[k]).2:=by
 have key:∀n,k<n->n<=l.length->(q9 (l.take n)).2[k]?=some (apply (q9 (l.take k)).1 l[k]).2:=by
  intro n;induction n with
  | zero=>intro h;omega
  | succ n ih =>
   intro h1 h2;have hlen:=(T3 hl he n (by omega)).2.1;rw [a12 (show n<l.length by omega)];unfold a9j;by_cases hq:k=n
   ·subst hq;simp only;rw [f5I (by omega),hlen,Nat.sub_self];rfl
   ·simp only;rw [f5O (by omega)];exact ih (by omega) (by omega)
 have:=key l.length hk (f5K _);rwa [f5M] at this
theorem c5X{l:List m4}(hl:l.length<=40)(he:l.all z5=true){k:Nat}(hk:k<l.length){b:Int}(h0:0<=b)(h:a6A l (q9 l).2 b k=false):(q9 (l.take (k+1))).1.g8[b.toNat]?=(q9 (l.take k)).1.g8[b.toNat]?:=by
 have hek:=List.all_eq_true.1 he _ (f5v hk);have hin:=(T3 hl he k (by omega)).1;rw [a12 hk];show (apply (q9 (l.take k)).1 l[k]).1.g8[b.toNat]?=_
 rcases c2G hin hek with ⟨h1,h2,h3⟩|⟨h1,h2⟩
 ·rw [h3];obtain ⟨_,_,hr,_⟩:=a3Q hek h2;refine c2D h0 (a3d hr).2.2.2.2 ?_;unfold a6A at h;rw [b2b hl he hk,f5t hk,h1] at h;simpa using h
 ·rw [h2]
theorem c9W{l:List m4}(hl:l.length<=40)(he:l.all z5=true){k:Nat}(hk:k<l.length){b:Int}(h:a6A l (q9 l).2 b k=true):(0<=b/\b<=3)/\∀x,(q9 (l.take k)).1.g8[b.toNat]?=some x->
  ∃v,(q9 (l.take (k+1))).1.g8[b.toNat]?=some ⟨if x.j4+1<1000000 then x.j4+1 else 1000000,v⟩:=by
 have hek:=List.all_eq_true.1 he _ (f5v hk);have hin:=(T3 hl he k (by omega)).1;unfold a6A at h;rw [b2b hl he hk,f5t hk] at h;simp only [f5w,beq_iff_eq] at h;rcases c2G hin hek with ⟨h1,h2,h3⟩|⟨h1,h2⟩
 ·obtain ⟨_,_,hr,_⟩:=a3Q hek h2;have hp:=(a3d hr).2.2.2.2;have hb:0<=b/\b<=3:=by
   have:=h.2;unfold J2 at this;rw [f6P] at this;obtain ⟨p,hp1,hp2⟩:=this;have hpb:p.i5=b:=by simpa using hp2
   have:=hp p hp1;omega
  refine ⟨hb,fun x hx => ?_⟩;rw [a12 hk];show ∃v,(apply (q9 (l.take k)).1 l[k]).1.g8[b.toNat]?=_
  rw [h3];exact d6r hb.1 hp (b00.1 (d3n hr)).2 h.2 hx
 ·exact absurd h.1 h1
theorem c5j{l:List m4}(hl:l.length<=40)(he:l.all z5=true){b:Int}(hb:0<=b/\b<=3):∀k,k<=l.length->∃x,(q9 (l.take k)).1.g8[b.toNat]?=some x/\0<=x.j4/\x.j4<=(k:Int)
 | 0,_=>by
  rw [f6i];have:b=0\/b=1\/b=2\/b=3:=by omega
  rcases this with rfl|rfl|rfl|rfl<;>exact ⟨⟨0,0⟩,rfl,by decide,by decide⟩
 | k+1,hk=>by
  obtain ⟨x,h1,h2,h3⟩:=c5j hl he hb k (by omega);cases hp:a6A l (q9 l).2 b k
  ·rw [c5X hl he (by omega) hb.1 hp];exact ⟨x,h1,h2,by omega⟩
  ·obtain ⟨_,hq⟩:=c9W hl he (show k<l.length by omega) hp;obtain ⟨v,hv⟩:=hq x h1;refine ⟨_,hv,?_,?_⟩
   ·simp only;split<;>omega
   ·simp only;split<;>omega
theorem c6y{l:List m4}(hl:l.length<=40)(he:l.all z5=true){b:Int}(h0:0<=b){j:Nat}:∀k,j<=k->k<=l.length->(∀i,j<=i->i<k->a6A l (q9 l).2 b i=false)->(q9 (l.take k)).1.g8[b.toNat]?=(q9 (l.take j)).1.g8[b.toNat]?
 | 0,hj,_,_=>by
  have:j=0:=by omega
  rw [this]
 | k+1,hj,hk,h=>by
  by_cases hq:j=k+1
  ·rw [hq]
  ·rw [c5X hl he (by omega) h0 (h k (by omega) (by omega))];exact c6y hl he h0 k (by omega) (by omega) fun i h1 h2=>h i h1 (by omega)
def cnt(cs:List Int)(c:Int):Int:=((cs.filter fun x=>x==c).length:Int)
theorem f0d(cs:List Int)(c d:Int):cnt (cs++[c]) d=cnt cs d+(if c=d then 1 else 0):=by
 unfold cnt;rw [List.filter_append];by_cases h:c=d<;>simp [h]
theorem c5E(cs:List Int)(c:Int):0<=cnt cs c/\cnt cs c<=cs.length:=by
 unfold cnt;have:=List.length_filter_le (fun x=>x==c) cs;omega
def b98(l:List m4)(cs:List Int)(k:Nat):List n9:=match cs[k]?,l[k]? with
 | some c,some e=>bif c==0 then [e.a0] else []
 | _,_=>[]
def told(l:List m4)(cs:List Int):Nat->List n9
 | 0=>[]
 | k+1=>told l cs k++b98 l cs k
theorem b7F{l:List m4}{cs:List Int}{k:Nat}(h1:k<l.length)(h2:k<cs.length):b98 l cs k=bif cs[k]==0 then [l[k].a0] else []:=by
 unfold b98;rw [f5t h1,f5t h2]
theorem b5v{l:List m4}{cs:List Int}(hc:cs.length=l.length):∀k,k<=l.length->((told l cs k).length:Int)=cnt (cs.take k) 0
 | 0,_=>rfl
 | k+1,hk=>by
  have h1:k<cs.length:=by omega
  have ih:=b5v hc k (by omega);unfold told;rw [f5T h1,f0d,b7F (show k<l.length by omega) h1,<-ih];by_cases hq:cs[k]=0
  ·simp [hq]
  ·have hq':(cs[k]==0)=false:=by simpa using hq
   simp [hq,hq']
def C0(l:List m4):List n9:=bif G6 l then told l (q9 l).2 l.length else []
theorem f4f{l:List n9}(h:l.length*16<=140737488351232):b4U l=some l:=by
 unfold b4U t0;cases l with
 | nil=>rfl
 | cons x l =>
  have h1:(((x::l).length:Int)==0)=false:=by simp;omega
  rw [h1,cond_false,if_pos (by constructor<;>omega),if_pos (by simp)]
theorem e8t{l:List m4}(h:A4 88 a10 l):b5B l=some (C0 l):=by
 unfold b5B C0;rw [c5h h,f5s];cases hok:G6 l
 ·rfl
 have hf:s9 l:=h.fits (by decide);obtain ⟨hl,he⟩:=a0J hok;obtain ⟨_,hlen,hc⟩:=T3 hl he l.length (f5K _);rw [f5M] at hlen hc;rw [f5x,cond_false,cond_true,b5V h hl he,f5s];have hsm:∀k,k<=l.length->(told l (q9 l).2 k).length<=40:=by
  intro k hk;have h1:=b5v hlen k hk;have h2:=c5E ((q9 l).2.take k) 0;rw [f5L] at h2;omega
 have hloop:=W7 (body:=fun s:(List n9)×Int=>a98 l (q9 l) s.1 s.2) (fun k=>(told l (q9 l).2 k,(k:Int))) l.length (by
  intro k hk;have hk2:k<(q9 l).2.length:=by omega
  have hs:=hsm k (by omega);have n1:((told l (q9 l).2 k).length+1)*16<=140737488355328:=by omega
  show a98 l (q9 l) (told l (q9 l).2 k) (k:Int)=some (.nxt (told l (q9 l).2 k++b98 l (q9 l).2 k,((k+1:Nat):Int)))
  rw [b7F hk hk2];unfold a98 c39;rw [w9 _ k hk,t8 hk,t8 hk2,F3 hf hk];simp only [cond_true,f5s,u7 n1];cases (q9 l).2[k]==0
  ·simp only [cond_false,f5s,l9.go,f6d]
  ·rfl)
 rw [show told l (q9 l).2 0=[] from rfl,show ((0:Nat):Int)=0 from rfl] at hloop;rw [hloop,C9 (b:=told l (q9 l).2 l.length)]
 ·simp only [f5s,l9.go];unfold c0P;rw [f4f (by have:=hsm l.length (f5K _);omega)];rfl
 ·unfold a98;rw [z9];rfl
theorem a62{ps:List p6}(h:ps.Pairwise fun p q=>p.i5≠q.i5)(b:Int):(ps.filter fun p=>p.i5==b).length<=1:=by
 have h2:=h.filter (fun p=>p.i5==b);cases hq:ps.filter fun p=>p.i5==b with
 | nil=>simp
 | cons x r =>
  cases r with
  | nil=>simp
  | cons y r =>
   rw [hq] at h2;have hne:=(f6K.1 h2).1 y (by simp);have hx:x∈ps.filter fun p=>p.i5==b:=by rw [hq];simp
   have hy:y∈ps.filter fun p=>p.i5==b:=by rw [hq];simp
   have hx:=(List.mem_filter.1 hx).2;have hy:=(List.mem_filter.1 hy).2;simp only [beq_iff_eq] at hx hy;omega
theorem c5e:∀{ps:List p6},(∀p∈ps,a0h p)->ps.length=(ps.filter fun p=>p.i5==0).length+(ps.filter fun p=>p.i5==1).length+(ps.filter fun p=>p.i5==2).length+(ps.filter fun p=>p.i5==3).length
 | [],_=>rfl
 | p::ps,h=>by
  have ih:=c5e (ps:=ps) fun x hx=>h x (by simp [hx])
  have hp:=h p (by simp);have:p.i5=0\/p.i5=1\/p.i5=2\/p.i5=3:=by
   have:=hp.1;have:=hp.2.1;omega
  simp only [List.filter_cons,f6y];rcases this with q|q|q|q<;>simp [q]<;>omega
theorem e2v{r:n5}(h:U9 r=true):r.b6.length<=4:=by
 have h1:=(b00.1 (d3n h))
 have h2:=c5e h1.1;have a:=a62 h1.2 0;have b:=a62 h1.2 1;have c:=a62 h1.2 2;have d:=a62 h1.2 3;omega
theorem okEntries.s{l:List m4}(h:A4 88 E8 l):A4 88 a10 l:=h.imp fun _ x=>x.f
theorem a4e(c x:Bool):(bif c then some x else some false)=some (c&&x):=by cases c<;>rfl
theorem b3F(c x:Bool):(bif c then some false else some x)=some (!c&&x):=by cases c<;>rfl
theorem f2M(n lo hi:Int):p9 n lo hi=(!decide (n<lo) && !decide (n>hi)):=by
 unfold p9;by_cases h1:n<lo<;>by_cases h2:n>hi<;>simp [h1,h2]<;>omega
theorem rng{α:Type}(n lo hi:Int)(X Y:α):(bif decide (n<lo) then Y else bif decide (n>hi) then Y else X)=bif p9 n lo hi then X else Y:=by
 rw [f2M];cases decide (n<lo)<;>cases decide (n>hi)<;>rfl
theorem c4I{α:Type}(n lo:Int)(X Y:α):(bif decide (n<lo) then Y else bif decide (n>=3) then Y else X)=bif p9 n lo 2 then X else Y:=by
 have e:decide (n>=3)=decide (n>2):=by
  by_cases h:n>2
  ·rw [decide_eq_true h,decide_eq_true (by omega)]
  ·rw [decide_eq_false h,decide_eq_false (by omega)]
 rw [<-rng,e]
theorem a5y(a b:Int):(!decide (a>b))=decide (a<=b):=by
 by_cases h:a<=b
 ·simp [h]
 ·simp [h];omega
theorem d11{α:Type}(l:List α):decide ((l.length:Int)>0) = !((l.length:Int)==0):=by
 by_cases hp:l.length=0
 ·rw [decide_eq_false (by omega),show ((l.length:Int)==0)=true from by rw [hp];rfl];rfl
 ·rw [decide_eq_true (by omega),show ((l.length:Int)==0)=false from by rw [<-f7z,beq_iff_eq];omega];rfl
theorem b2c{α:Type}[BEq α](a b:α):(!(a != b))=(a==b):=by simp [bne]
abbrev zE:m4:=⟨false,⟨0,0⟩,⟨[],[],0,0⟩⟩
def M9(a b:m4):Bool:=(a.i7==b.i7)&&((([a.a0.b9,a.a0.Seq]:List Int)==[b.a0.b9,b.a0.Seq])&&a3W a.b8 b.b8)
theorem a6N{a b:m4}(h:E8 a):V9 a b=some (M9 a b):=by
 unfold V9 M9;simp only [c4b h.f.2,f5s,a4e]
theorem c0l{e:m4}(h:E8 e):a4P e=some (M9 e zE):=by
 unfold a4P M9;simp only [c1N h.f.2,f5s,a4e];cases e.i7<;>rfl
theorem a9S(n:Int):a1t n=some (p9 n 1 3000):=N2 n 1 3000
def a0t(v:m8):Bool:=bif v.a8==0 then M9 v.g9 zE else p9 v.a8 1 3000&&z5 v.g9
theorem e21{v:m8}(h:T4 v):b9Z v=some (a0t v):=by
 unfold b9Z a0t;simp only [a6N h.2,N2,a6T h.2.f,f5s,a4e];cases v.a8==0<;>rfl
theorem d8t{v:m8}(h:T4 v):b5l v=some (a0t v):=by
 unfold b5l a0t M9;simp only [c1N h.2.f.2,a9S,a3X h.2.f,f5s,a4e];cases v.a8==0<;>cases v.g9.i7<;>rfl
def L1(l:List m8):Bool:=decide (l.length<=40)&&l.all a0t
theorem c0y{l:List m8}(h:A4 96 T4 l):a5D l=some (L1 l):=by
 unfold a5D L1;rw [show (40:Int)=((40:Nat):Int) from rfl,b85,K6 l (h.fits (by decide)) a0t false ()]
 ·cases decide (l.length<=40)
  ·rfl
  ·cases l.all a0t<;>rfl
 ·intro k hk;unfold b84;rw [w9 _ k hk,t8 hk];simp only [cond_true,f5s,d8t (h.2 _ (f5v hk))];cases a0t l[k]<;>rfl
 ·unfold b84;rw [z9];rfl
theorem b2O{l:List m8}(h:A4 96 T4 l):a7a l=some (L1 l):=by
 unfold a7a L1 c2b;rw [show (40:Int)=((40:Nat):Int) from rfl,c2v,K6 l (h.fits (by decide)) a0t false ()]
 ·cases l.all a0t<;>cases decide (l.length<=40)<;>rfl
 ·intro k hk;unfold b79;rw [w9 _ k hk,t8 hk];simp only [cond_true,f5s,e21 (h.2 _ (f5v hk))];cases a0t l[k]<;>rfl
 ·unfold b79;rw [z9];rfl
def P6(a:z0):Bool:=p9 a.i0 0 3000&&(L1 a.a7&&a.a7.all fun v => !decide (v.a8>a.i0))
theorem e9N{a:z0}(h:a6C a):b8W a=some (P6 a):=by
 unfold b8W P6;rw [rng,c0y h.2,K6 a.a7 (h.2.fits (by decide)) (fun v => !decide (v.a8>a.i0)) false ()]
 ·simp only [f5s];cases p9 a.i0 0 3000<;>cases L1 a.a7<;>cases a.a7.all (fun v => !decide (v.a8>a.i0))<;>rfl
 ·intro k hk;unfold c0b;rw [w9 _ k hk,t8 hk];simp only [cond_true,f5s];cases decide (a.a7[k].a8>a.i0)<;>rfl
 ·unfold c0b;rw [z9];rfl
theorem d0B{a:z0}(h:a6C a):a9s a=some (P6 a):=by
 unfold a9s P6;rw [K6 a.a7 (h.2.fits (by decide)) (fun v => !decide (v.a8>a.i0)) false ()]
 ·unfold c5S;simp only [N2,b2O h.2,f5s];cases p9 a.i0 0 3000<;>cases L1 a.a7<;>cases a.a7.all (fun v => !decide (v.a8>a.i0))<;>rfl
 ·intro k hk;unfold b9N;rw [w9 _ k hk,t8 hk];simp only [cond_true,f5s];cases decide (a.a7[k].a8>a.i0)<;>rfl
 ·unfold b9N;rw [z9];rfl
theorem d9k(i:n8):b40 i=some (R0 i):=by
 unfold b40 R0 a3w b7N;simp only [N2,f5s];cases i.a9==1<;>cases i.a9==2<;>cases i.a9==3<;>cases i.a9==4<;>cases i.a9==5<;>cases i.a9==6<;>cases i.a9==7<;>cases p9 i.A 0 3<;>cases p9 i.B 0 3<;>cases i.A==0<;>cases i.B==0<;>rfl
theorem c0a{l:List n8}(h:s9 l):a8y l=some (E1 l):=by
 unfold a8y E1 c2E;rw [show (10:Int)=((10:Nat):Int) from rfl,c2v,K6 l h R0 false ()]
 ·cases l.all R0<;>cases decide (l.length<=10)<;>rfl
 ·intro k hk;unfold b5o;rw [w9 _ k hk,t8 hk];simp only [cond_true,f5s,d9k];cases R0 l[k]<;>rfl
 ·unfold b5o;rw [z9];rfl
def Z2(b:Int):Int:=bif p9 b 1 3000 then f5W b 3 else -1
theorem f2J(b:Int):b0X b=some (Z2 b):=by
 unfold b0X Z2;rw [a9S,f5s];cases p9 b 1 3000<;>rfl
theorem d1Z(b:Int):b20 b=some (Z2 b):=by
 unfold b20 Z2;rw [N2,f5s];cases p9 b 1 3000<;>rfl
def b8l(l:List Bool)(id:Int):Bool:=(idx l id).getD false
def a43(l:List Bool)(id:Int):Bool:=((l.length:Int)==3)&&b8l l id
theorem d3K{l:List Bool}{id:Int}(h:p9 id 0 2=true)(hl:((l.length:Int)==3)=true):idx l id=some (b8l l id):=by
 unfold p9 at h;simp only [decide_eq_true_eq] at h;simp only [beq_iff_eq] at hl;unfold b8l idx;rw [if_pos h.1,f5t (by omega)];rfl
theorem e2R{l:List Bool}{id:Int}(h:p9 id 0 2=true)(x:Bool):(bif ((l.length:Int)==3) then (idx l id).bind fun y=>some (y&&x) else some false)=some (a43 l id&&x):=by
 unfold a43;cases hl:((l.length:Int)==3)
 ·rfl
 ·rw [d3K h hl];rfl
theorem e3I{l:List Bool}{id:Int}(h:p9 id 0 2=true):b3h l id=some (a43 l id):=by
 unfold b3h a43;cases hl:((l.length:Int)==3)
 ·rfl
 ·rw [d3K h hl];rfl
def a4g(n:j6):Bool:=M9 n.c9 zE&&((n.a7.length:Int)==0)
def a0z(n:j6):Bool :=
  bif n.d7==0 then (n.a8==0)&&(((n.c8.length:Int)==0)&&(((n.i4.length:Int)==0)&&a4g n)) else
  (Z2 n.a8==n.Id)&&(decide (n.a8<=n.Acc.i0)&&(L1 n.i4 &&
    (bif n.d7==1 then a43 n.c8 n.Id&&a4g n else
     bif n.d7==2 then ((n.c8.length:Int)==0)&&a4g n else
     bif n.d7==3 then ((n.c8.length:Int)==0)&&(z5 n.c9&&(a43 n.a7 n.Id&&decide ((n.a5.length:Int)<40))) else false)))
theorem c3n{n:j6}(h:p9 n.Id 0 2=true)(ho:(Z2 n.a8==n.Id)=true):p9 n.a8 1 3000=true:=by
 cases hb:p9 n.a8 1 3000
 ·unfold Z2 at ho;rw [hb] at ho;unfold p9 at h;simp only [decide_eq_true_eq,cond_false,beq_iff_eq] at h ho;omega
 ·rfl
theorem d8a{n:j6}(h:P5 n)(hId:p9 n.Id 0 2=true):b1F n=some (a0z n):=by
 have hj:b1F n=b9V n (a4g n):=by
  unfold b1F a4g;simp only [a6N h.2.2.2.2.2.2.2.2.1,f5s];cases M9 n.c9 zE<;>rfl
 rw [hj];unfold b9V a0z;simp only [d1Z,b2O h.2.2.2.2.2.2.2.1,e3I hId,a6T h.2.2.2.2.2.2.2.2.1.f,f5s,a4e];cases n.d7==0
 ·simp only [cond_false];cases n.d7==1<;>cases n.d7==2<;>cases n.d7==3<;>simp only [cond_true,cond_false,b3F,b2c,a5y,f7I]<;>(cases Z2 n.a8==n.Id<;>cases decide (n.a8<=n.Acc.i0)<;>cases L1 n.i4<;>rfl)
 ·rfl
theorem e0g{n:j6}(h:P5 n)(hId:p9 n.Id 0 2=true):b4Q n=some (a0z n):=by
 unfold b4Q a0z;simp only [f2J,a9S,c0l h.2.2.2.2.2.2.2.2.1,c0y h.2.2.2.2.2.2.2.1,a3X h.2.2.2.2.2.2.2.2.1.f,f5s,a4e,b3F,e2R hId,b2c,a5y,f7I];have hb:=c3n (n:=n) hId;cases h0:n.d7==0
 ·cases h1:n.d7==1
  ·cases h2:n.d7==2
   ·cases h3:n.d7==3
    ·simp only [cond_false,Bool.and_false]
    ·simp only [cond_false,cond_true,b3F,b2c,a5y,f7I];cases ho:Z2 n.a8==n.Id
     ·simp
     ·rw [hb ho];cases decide (n.a8<=n.Acc.i0)<;>cases L1 n.i4<;>cases ((n.c8.length:Int)==0)<;>rfl
   ·simp only [cond_false,cond_true,b3F,b2c,a5y,f7I];cases ho:Z2 n.a8==n.Id
    ·simp
    ·rw [hb ho];unfold a4g;cases decide (n.a8<=n.Acc.i0)<;>cases L1 n.i4<;>cases ((n.c8.length:Int)==0)<;>rfl
  ·simp only [cond_false,cond_true,b3F,b2c,a5y,f7I];cases ho:Z2 n.a8==n.Id
   ·simp
   ·rw [hb ho];unfold a4g;cases decide (n.a8<=n.Acc.i0)<;>cases L1 n.i4<;>cases a43 n.c8 n.Id<;>rfl
 ·unfold a4g;simp only [cond_true]
def a3J(n:j6):Bool :=
 bif n.i8 then E1 n.i6&&(z5 n.b7&&(!n.b7.i7&&(([n.b7.a0.b9,n.b7.a0.Seq]:List Int)==[n.Id,n.Seq]))) else ((n.i6.length:Int)==0)&&M9 n.b7 zE
theorem e1L{n:j6}(h:P5 n):b4S n=some (a3J n):=by
 unfold b4S a3J;have hw:=h.2.2.2.2.2.2.2.2.2.2.2.1;simp only [c0l hw,b6T (h.2.2.2.2.2.2.2.2.2.2.1.fits (by decide)),a3X hw.f,f5s,a4e];cases n.i8<;>rfl
def b6g(l:List m4):Bool:=l.all fun e=>z5 e && !e.i7
def D2(n:j6):Bool:=p9 n.Id 0 2&&(P6 n.Acc&&(G6 n.a5&&(p9 n.Seq 0 1000&&(decide ((n.d9.length:Int)<=4)&&(a0z n&&(a3J n&&b6g n.d9))))))
theorem a9l{n:j6}(h:P5 n):a5A n=some (D2 n):=by
 unfold a5A D2;rw [c4I];cases hId:p9 n.Id 0 2
 ·rfl
 ·rw [rng,e9N h.2.1,e0q (okEntries.s h.2.2.1),e0g h hId,e1L h,K6 n.d9 (h.2.2.2.2.2.2.2.2.2.2.2.2.fits (by decide)) (fun e=>z5 e && !e.i7) false ()]
  ·unfold b6g c4m;rw [<-a5y];simp only [f5s,cond_true];cases P6 n.Acc<;>cases G6 n.a5<;>cases p9 n.Seq 0 1000<;>cases decide ((n.d9.length:Int)>4)<;>cases a0z n<;>cases a3J n<;>cases n.d9.all (fun e=>z5 e && !e.i7)<;>rfl
  ·intro k hk;unfold b6D;rw [w9 _ k hk,t8 hk];simp only [cond_true,f5s,a3X ((h.2.2.2.2.2.2.2.2.2.2.2.2).2 _ (f5v hk)).f];cases z5 n.d9[k]<;>cases n.d9[k].i7<;>rfl
  ·unfold b6D;rw [z9];rfl
theorem a75{n:j6}(h:P5 n):a4w n=some (D2 n):=by
 unfold a4w D2;rw [N2,f5s];cases hId:p9 n.Id 0 2
 ·rfl
 ·have hw:=h.2.2.2.2.2.2.2.2.2.2.2.1;have hk3:b46 n=some (a3J n&&a0z n):=by
   unfold b46 c5v a3J;simp only [c0a (h.2.2.2.2.2.2.2.2.2.2.1.fits (by decide)),a6T hw.f,a6N hw,d8a h hId,f5s];cases n.i8
   ·rw [d11];cases ((n.i6.length:Int)==0)<;>cases M9 n.b7 zE<;>rfl
   ·cases E1 n.i6<;>cases z5 n.b7<;>cases n.b7.i7<;>cases (([n.b7.a0.b9,n.b7.a0.Seq]:List Int)==[n.Id,n.Seq])<;>rfl
  rw [d0B h.2.1,c5h (okEntries.s h.2.2.1),N2,hk3,K6 n.d9 (h.2.2.2.2.2.2.2.2.2.2.2.2.fits (by decide)) (fun e=>z5 e && !e.i7) false ()]
  ·unfold b6g;rw [<-a5y];simp only [f5s,f5x,cond_false];cases P6 n.Acc<;>cases G6 n.a5<;>cases p9 n.Seq 0 1000<;>cases decide ((n.d9.length:Int)>4)<;>cases a0z n<;>cases a3J n<;>cases n.d9.all (fun e=>z5 e && !e.i7)<;>rfl
  ·intro k hk;unfold b50;rw [w9 _ k hk,t8 hk];simp only [cond_true,f5s,a6T ((h.2.2.2.2.2.2.2.2.2.2.2.2).2 _ (f5v hk)).f];cases z5 n.d9[k]<;>cases n.d9[k].i7<;>rfl
  ·unfold b50;rw [z9];rfl
def a66(m:l8):Bool :=
 let bal:=p9 m.a8 1 3000;let non:=M9 m.g9 zE;let nv:=(m.a7.length:Int)==0;bif m.a9==1 then bal&&(non&&nv) else
 bif m.a9==4 then bal&&(non&&nv) else
 bif m.a9==2 then bal&&(non&&(L1 m.a7&&decide (m7 (m.g7+(m.a7.length:Int))<=40))) else
 bif m.a9==3 then bal&&(decide (m.g7<40)&&(z5 m.g9&&nv)) else
 bif m.a9==5 then (m.a8==0)&&(decide (m.g7<40)&&(z5 m.g9&&nv)) else
 bif m.a9==6 then bal&&((m.g7==0)&&(non&&nv)) else
 bif m.a9==7 then (m.a8==0)&&((m.g7==0)&&(z5 m.g9&&(!m.g9.i7&&nv))) else
 bif m.a9==8 then (m.a8==0)&&(non&&nv) else false
def Q2(m:l8):Bool:=p9 m.c8 0 2&&(p9 m.To 0 2&&(!(m.c8==m.To)&&(p9 m.g7 0 40&&a66 m)))
theorem c7A{m:l8}(h:a0s m):b2p m=some (Q2 m):=by
 unfold b2p Q2 a66;have he:=h.2.2.2.2.2.1;simp only [N2,a6N he,a6T he.f,b2O h.2.2.2.2.2.2,f5s,a4e];cases p9 m.c8 0 2
 ·rfl
 cases p9 m.To 0 2
 ·rfl
 cases m.c8==m.To;case true=>rfl
 cases p9 m.g7 0 40
 ·rfl
 cases m.a9==1<;>cases m.a9==4<;>cases m.a9==2<;>cases m.a9==3<;>cases m.a9==5<;>cases m.a9==6<;>cases m.a9==7<;>cases m.a9==8<;>rfl
theorem d6N{m:l8}(h:a0s m):b8F m=some (Q2 m):=by
 unfold b8F Q2;have he:=h.2.2.2.2.2.1;have hj2:b7A m=b1y m (M9 m.g9 zE) (z5 m.g9&&decide (m.g7<40)):=by
  unfold b7A;simp only [c0l he,a3X he.f,f5s];cases z5 m.g9<;>rfl
 have hj:∀nv:Bool,nv=((m.a7.length:Int)==0)->(m.a9==2||nv)=true->b1y m (M9 m.g9 zE) (z5 m.g9&&decide (m.g7<40))=some (a66 m):=by
  intro nv hnv hk;unfold b1y a66;simp only [a9S,c0y h.2.2.2.2.2.2,a3X he.f,f5s,a4e];rw [<-hnv];cases h1:m.a9==1;case true =>
   have:(m.a9==2)=false:=by
    simp only [beq_iff_eq] at h1;rw [h1];rfl
   rw [this,f6c] at hk;simp only [cond_true,hk,f6L]
  cases h2:m.a9==2;case true =>
   cases h4:m.a9==4
   ·rfl
   ·simp only [beq_iff_eq] at h2 h4;omega
  rw [h2,f6c] at hk;subst hk;cases h3:m.a9==3;case true =>
   cases h4:m.a9==4
   ·simp only [cond_true,cond_false,f6L];cases p9 m.a8 1 3000<;>cases z5 m.g9<;>cases decide (m.g7<40)<;>rfl
   ·simp only [beq_iff_eq] at h3 h4;omega
  cases h4:m.a9==4;case true=>simp only [cond_true,cond_false,f6L]
  simp only [cond_false];cases m.a9==5;case true =>
   simp only [cond_true,f6L];cases m.a8==0<;>cases z5 m.g9<;>cases decide (m.g7<40)<;>rfl
  simp only [cond_false];cases m.a9==6;case true =>
   simp only [cond_true,f6L];cases p9 m.a8 1 3000<;>cases M9 m.g9 zE<;>cases m.g7==0<;>rfl
  cases m.a9==7<;>cases m.a9==8<;>simp only [cond_true,cond_false,f6L,f5H,Bool.false_and]
 rw [hj2,c4I];cases p9 m.c8 0 2
 ·rfl
 simp only [cond_true,f5H];rw [c4I];cases p9 m.To 0 2
 ·rfl
 simp only [cond_true,f5H];cases m.c8==m.To;case true=>rfl
 simp only [cond_false,f5V,f5H];rw [rng];cases p9 m.g7 0 40
 ·rfl
 simp only [cond_true,f5H];rw [d11];cases h2:m.a9==2
 ·rw [show (m.a9 != 2)=true from by rw [bne,h2];rfl];cases hv:((m.a7.length:Int)==0)
  ·show some false=_
   have:a66 m=false:=by
    unfold a66;rw [h2,hv];simp
   rw [this]
  ·exact hj true hv.symm (by simp)
 ·rw [show (m.a9 != 2)=false from by rw [bne,h2];rfl];exact hj _ rfl (by rw [h2];rfl)
def T2(t:m9):Bool:=p9 t.Node 0 2&&((p9 t.a0.b9 0 2&&p9 t.a0.Seq 1 1000)&&((t.a0.b9==t.Node)&&(p9 t.Code 0 4&&p9 t.f0 (-1000000) 1000000)))
theorem e1w(t:m9):b7Q t=some (T2 t):=by
 unfold b7Q T2;simp only [c3H,a6P,f5s,a4e];have e1:p9 t.Node 0 2=(decide (t.Node>=0)&&decide (t.Node<3)):=by
  unfold p9;by_cases h1:t.Node>=0<;>by_cases h2:t.Node<3<;>simp [h1,h2]<;>omega
 have e2:p9 t.Code 0 4=(decide (t.Code>=0)&&decide (t.Code<=4)):=by
  unfold p9;by_cases h1:t.Code>=0<;>by_cases h2:t.Code<=4<;>simp [h1,h2]<;>omega
 rw [e1,e2];simp only [f7i]
def Z6(x:x7):Bool:=(p9 x.a0.b9 0 2&&p9 x.a0.Seq 1 1000)&&E1 x.i6
def a4h(w:m5)(k:Nat):Bool:=match w.a6[k]? with
 | some n=>(n.Id==(k:Int))&&D2 n
 | none=>true
def C3(w:m5):Bool:=((w.a6.length:Int)==3)&&(decide ((w.d6.length:Int)<=40)&&(decide ((w.d8.length:Int)<=60)&&(decide ((w.Told.length:Int)<=60)&&((f5A w.a6.length).all (a4h w)&&(w.d6.all Q2&&(w.d8.all Z6&&w.Told.all T2))))))
theorem e6J{w:m5}(h:U0 w):b8X w=some (C3 w):=by
 have k7:b5J w=some (w.Told.all T2):=by
  unfold b5J;rw [K6 w.Told (h.2.2.2.fits (by decide)) T2 false ()]
  ·cases w.Told.all T2<;>rfl
  ·intro k hk;unfold b5q;rw [w9 _ k hk,t8 hk];simp only [cond_true,f5s,e1w];cases T2 w.Told[k]<;>rfl
  ·unfold b5q;rw [z9];rfl
 have k9:b5u w=some (w.d8.all Z6&&w.Told.all T2):=by
  unfold b5u;rw [K6 w.d8 (h.2.2.1.fits (by decide)) Z6 false ()]
  ·rw [k7];cases w.d8.all Z6<;>rfl
  ·intro k hk;unfold c0e;rw [w9 _ k hk,t8 hk];simp only [cond_true,f5s,c3H,b6T ((h.2.2.1.2 _ (f5v hk)).2.fits (by decide))];unfold Z6;cases p9 w.d8[k].a0.b9 0 2&&p9 w.d8[k].a0.Seq 1 1000<;>cases E1 w.d8[k].i6<;>rfl
  ·unfold c0e;rw [z9];rfl
 have k11:b5g w=some (w.d6.all Q2&&(w.d8.all Z6&&w.Told.all T2)):=by
  unfold b5g;rw [K6 w.d6 (h.2.1.fits (by decide)) Q2 false ()]
  ·rw [k9];cases w.d6.all Q2<;>rfl
  ·intro k hk;unfold b9f;rw [w9 _ k hk,t8 hk];simp only [cond_true,f5s,d6N (h.2.1.2 _ (f5v hk))];cases Q2 w.d6[k]<;>rfl
  ·unfold b9f;rw [z9];rfl
 unfold b8X C3;rw [a2H w.a6 (h.1.fits (by decide)) (a4h w) false ()]
 ·rw [k11];simp only [<-a5y];rw [show ((w.a6.length:Int)==3) = !((w.a6.length:Int) != 3) from by simp [bne]];cases ((w.a6.length:Int) != 3)<;>cases decide ((w.d6.length:Int)>40)<;>cases decide ((w.d8.length:Int)>60)<;>cases decide ((w.Told.length:Int)>60)<;>cases (f5A w.a6.length).all (a4h w)<;>rfl
 ·intro k hk _;unfold b7j;rw [w9 _ k hk,t8 hk];simp only [cond_true,f5s,a9l (h.1.2 _ (f5v hk)),a4h,f5t hk,bne];cases w.a6[k].Id==(k:Int)<;>cases D2 w.a6[k]<;>rfl
 ·unfold b7j;rw [z9];rfl
theorem a5z{w:m5}(h:U0 w):a1T w=some (C3 w):=by
 have k7:b9A w=some (w.Told.all T2):=by
  unfold b9A;rw [K6 w.Told (h.2.2.2.fits (by decide)) T2 false ()]
  ·cases w.Told.all T2<;>rfl
  ·intro k hk;unfold b7I;rw [w9 _ k hk,t8 hk];simp only [cond_true,f5s,N2,b8e];unfold T2;rw [show (w.Told[k].a0.b9==w.Told[k].Node) = !(w.Told[k].a0.b9 != w.Told[k].Node) from by simp [bne]];cases p9 w.Told[k].Node 0 2<;>cases p9 w.Told[k].a0.b9 0 2&&p9 w.Told[k].a0.Seq 1 1000<;>cases (w.Told[k].a0.b9 != w.Told[k].Node)<;>cases p9 w.Told[k].Code 0 4<;>cases p9 w.Told[k].f0 (-1000000) 1000000<;>rfl
  ·unfold b7I;rw [z9];rfl
 have k9:b77 w=some (w.d8.all Z6&&w.Told.all T2):=by
  unfold b77;rw [K6 w.d8 (h.2.2.1.fits (by decide)) Z6 false ()]
  ·rw [k7];cases w.d8.all Z6<;>rfl
  ·intro k hk;unfold b9S;rw [w9 _ k hk,t8 hk];simp only [cond_true,f5s,b8e,c0a ((h.2.2.1.2 _ (f5v hk)).2.fits (by decide))];unfold Z6;cases p9 w.d8[k].a0.b9 0 2&&p9 w.d8[k].a0.Seq 1 1000<;>cases E1 w.d8[k].i6<;>rfl
  ·unfold b9S;rw [z9];rfl
 have k11:b7B w=some (w.d6.all Q2&&(w.d8.all Z6&&w.Told.all T2)):=by
  unfold b7B;rw [K6 w.d6 (h.2.1.fits (by decide)) Q2 false ()]
  ·rw [k9];cases w.d6.all Q2<;>rfl
  ·intro k hk;unfold b6u;rw [w9 _ k hk,t8 hk];simp only [cond_true,f5s,c7A (h.2.1.2 _ (f5v hk))];cases Q2 w.d6[k]<;>rfl
  ·unfold b6u;rw [z9];rfl
 unfold a1T C3;rw [a2H w.a6 (h.1.fits (by decide)) (a4h w) false ()]
 ·rw [k11];simp only [<-a5y];rw [show ((w.a6.length:Int)==3) = !((w.a6.length:Int) != 3) from by simp [bne]];cases ((w.a6.length:Int) != 3)<;>cases decide ((w.d6.length:Int)>40)<;>cases decide ((w.d8.length:Int)>60)<;>cases decide ((w.Told.length:Int)>60)<;>cases (f5A w.a6.length).all (a4h w)<;>rfl
 ·intro k hk _;unfold b4O;rw [w9 _ k hk,t8 hk];simp only [cond_true,f5s,a75 (h.1.2 _ (f5v hk)),a4h,f5t hk,bne];cases w.a6[k].Id==(k:Int)<;>cases D2 w.a6[k]<;>rfl
 ·unfold b4O;rw [z9];rfl
theorem d0S{α:Type}{p:List α->List α->Nat->Bool}(hp:∀(a b:List α) (k:Nat) (x y:α),a[k]?=some x->b[k]?=some y->(p a b k=true↔x=y))(a b:List α):(a.length==b.length&&(f5A a.length).all (p a b))=true↔a=b:=by
 constructor
 ·intro h;simp only [f5w,beq_iff_eq,List.all_eq_true,f6B] at h;refine List.ext_getElem h.1 fun i h1 h2 => ?_
  exact (hp a b i _ _ (f5t h1) (f5t h2)).1 (h.2 i h1)
 ·rintro rfl
  simp only [f5w,beq_iff_eq,List.all_eq_true,f6B,true_and];intro k hk;exact (hp a a k _ _ (f5t hk) (f5t hk)).2 rfl
theorem c4Z(a b:n5):a3W a b=true↔a=b:=by
 have h1:=d0S (p:=a2j) (fun a b k x y hx hy=>by
  unfold a2j;rw [hx,hy];cases x;cases y;simp) a.b5 b.b5
 have h2:=d0S (p:=a2g) (fun a b k x y hx hy=>by
  unfold a2g;rw [hx,hy];cases x;cases y;simp) a.b6 b.b6
 unfold a3W;rw [f5w,h1,f5w,h2,f5w,beq_iff_eq,beq_iff_eq];cases a;cases b;simp
theorem a1c(a b:m4):M9 a b=true↔a=b:=by
 unfold M9;rw [f5w,f5w,c4Z];obtain ⟨n,⟨q1,q2⟩,r⟩:=a;obtain ⟨n',⟨q1',q2'⟩,r'⟩:=b;simp [and_assoc]
theorem J0{n lo hi:Int}:p9 n lo hi=true↔lo<=n/\n<=hi:=by unfold p9;simp
theorem c78{w:m5}(h:C3 w=true):w.a6.length=3/\∀n∈w.a6,D2 n=true:=by
 unfold C3 at h;simp only [f5w,beq_iff_eq,List.all_eq_true,f6B] at h;refine ⟨by omega,fun n hn => ?_⟩;obtain ⟨i,hi,rfl⟩:=f6e hn;have:=h.2.2.2.2.1 i hi;unfold a4h at this;rw [f5t hi] at this;simp only [f5w] at this;exact this.2
theorem b3V{n:j6}(h:D2 n=true):p9 n.Id 0 2=true/\P6 n.Acc=true/\G6 n.a5=true/\a0z n=true/\a3J n=true:=by
 unfold D2 at h;simp only [f5w] at h;exact ⟨h.1,h.2.1,h.2.2.1,h.2.2.2.2.2.1,h.2.2.2.2.2.2.1⟩
theorem d4C{n:j6}(hId:p9 n.Id 0 2=true)(h:a0z n=true):0<=n.a8/\(n.d7=3->1<=n.a8):=by
 unfold a0z at h;cases h0:n.d7==0
 ·rw [h0] at h;simp only [cond_false,f5w] at h;have:=J0.1 (c3n hId h.1);omega
 ·rw [h0] at h;simp only [cond_true,f5w,beq_iff_eq] at h h0;omega
theorem f4g{l:List q8}(h:A4 16 d4y l):a3s l=some l:=by
 have hb:=h.1;unfold a3s;cases hl:((l.length:Int)==0)
 ·rw [cond_false,u7 (by constructor<;>omega),u7 (by simp)]
 ·simp only [beq_iff_eq] at hl;have:l=[]:=f5E (by omega);rw [this];rfl
theorem f2N{l:List p6}(h:A4 16 c9m l):a7L l=some l:=by
 have hb:=h.1;unfold a7L;cases hl:((l.length:Int)==0)
 ·rw [cond_false,u7 (by constructor<;>omega),u7 (by simp)]
 ·simp only [beq_iff_eq] at hl;have:l=[]:=f5E (by omega);rw [this];rfl
theorem b3B{e:m4}(h:E8 e):a55 e=some e:=by
 unfold a55 c3S;rw [f4g h.2.1,f5s,f2N h.2.2.1];rfl
theorem a0D{e:m4}(h:E8 e):W6 e=some e:=by
 have h1:=h.2.1.1;have h2:=h.2.2.1.1;unfold W6 c3N;rw [u7 (by simp;omega),u7 (by simp;omega)];rfl
theorem e2C{l:List m4}(h:A4 88 E8 l):b6U l=some l:=by
 have hb:=h.1;unfold b6U;cases hl:((l.length:Int)==0)
 ·rw [cond_false,u7 (by constructor<;>omega),u7 (by simp)]
 ·simp only [beq_iff_eq] at hl;have:l=[]:=f5E (by omega);rw [this];rfl
theorem c0f{l:List m4}(h:A4 88 E8 l):a9n l=some l:=by
 have hf:s9 l:=h.fits (by decide);unfold a9n;rw [e2C h,f5s];have hl:=W7 (body:=fun s:(List m4)×Int=>b1Y l s.1 s.2) (fun k=>(l,(k:Int))) l.length (by
  intro k hk;unfold b1Y;rw [w9 _ k hk,t8 hk];simp only [cond_true,f5s,b3B (h.2 _ (f5v hk)),F3 hf hk,f5P,f7u])
 rw [show ((0:Nat):Int)=0 from rfl] at hl;rw [hl,C9 (b:=l)]
 ·rfl
 ·unfold b1Y;rw [z9];rfl
end
end Go.Proofs.YthbeecjnggpjnaaGreat
